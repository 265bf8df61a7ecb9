/- blocks that are known whole; what a call changes -/
import Derived.Test.YtnfchojekcoplaaDoorA
namespace Go.Proofs.YtnfchojekcoplaaDoor
set_option linter.unusedVariables false
set_option linter.unusedSimpArgs false
open Go.RowKit

/-- Block g is known whole: its cells. -/
def Blk (W : World) (g : Nat) (T : TypeId) (cs : List Value) : Prop := W.heap[g]? = some (.cells cs.toArray T (0, 0))

section
variable {W W' : World} {g : Nat} {T : TypeId} {cs : List Value}
theorem Blk.lt (h : Blk W g T cs) : g < W.heap.size := lt_of_heap h
theorem Blk.cell (h : Blk W g T cs) (i : Nat) (v : Value) (hi : cs[i]? = some v) : W.cell? ⟨g, i, none⟩ = some v := by
  rw [cell_of_block h]; simpa using hi
theorem Blk.frozen (h : Blk W g T cs) (i : Nat) : W.frozen? ⟨g, i, none⟩ = false := by
  have h' : W.heap[g]? = some (.cells cs.toArray T (0, 0)) := h
  simp [World.frozen?, h']
theorem Blk.new (W : World) (T : TypeId) (cs : List Value) : Blk (W.alloc (.cells cs.toArray T)) W.heap.size T cs := heap_alloc_new W _
theorem Blk.keep (h : Blk W g T cs) (hb : W'.heap[g]? = W.heap[g]?) : Blk W' g T cs := hb.trans h
theorem Blk.under {B : Nat} (h : Blk W g T cs) (hb : Below B W W') (hg : g < B) : Blk W' g T cs := h.keep (hb.block g hg)
theorem Blk.below (h : Blk W g T cs) (hb : Below W.heap.size W W') : Blk W' g T cs := h.keep (hb.block g h.lt)
theorem Blk.alloc (h : Blk W g T cs) (o : Obj) : Blk (W.alloc o) g T cs := h.below ((Below.refl _ _).alloc (Nat.le_refl _) o)
theorem Blk.drew (h : Blk W g T cs) : Blk W.drew g T cs := h
theorem Blk.drewN (h : Blk W g T cs) (n : Nat) : Blk (W.drewN n) g T cs := h
theorem Blk.set (h : Blk W g T cs) (i : Nat) (v : Value) : Blk (W.setCell ⟨g, i, none⟩ v) g T (cs.set i v) := by
  have h' : W.heap[g]? = some (.cells cs.toArray T (0, 0)) := h
  show (W.setCell ⟨g, i, none⟩ v).heap[g]? = _
  simp [World.setCell, Array.getElem?_modify, h']
theorem Blk.other (h : Blk W g T cs) {b i : Nat} {s : Option Nat} (hne : b ≠ g) (v : Value) : Blk (W.setCell ⟨b, i, s⟩ v) g T cs := by
  refine h.keep ?_
  simp [World.setCell, Array.getElem?_modify, hne]
end

/-- Of what was there w' turns S alone. -/
structure Chg (S : Nat → Prop) (w w' : World) : Prop where
  os : w'.os = w.os
  tape : w'.tape = w.tape
  output : w'.output = w.output
  size : w.heap.size ≤ w'.heap.size
  block : ∀ k, k < w.heap.size → ¬ S k → w'.heap[k]? = w.heap[k]?
section
variable {S S' : Nat → Prop} {w w' w'' : World}
theorem Chg.refl (S : Nat → Prop) (w : World) : Chg S w w := ⟨rfl, rfl, rfl, Nat.le_refl _, fun _ _ _ => rfl⟩
theorem Chg.trans (h : Chg S w w') (h' : Chg S' w' w'') (hs : ∀ k, S' k → S k ∨ w.heap.size ≤ k) : Chg S w w'' :=
  ⟨h'.os.trans h.os, h'.tape.trans h.tape, h'.output.trans h.output, Nat.le_trans h.size h'.size, fun k hk hn => (h'.block k (Nat.lt_of_lt_of_le hk h.size) (fun e => (hs k e).elim hn (fun h => by omega))).trans (h.block k hk hn)⟩
theorem Chg.trans' (h : Chg S w w') (h' : Chg S w' w'') : Chg S w w'' := h.trans h' fun _ => .inl
theorem Chg.mono (h : Chg S w w') (hs : ∀ k, S k → S' k ∨ w.heap.size ≤ k) : Chg S' w w' :=
  ⟨h.os, h.tape, h.output, h.size, fun k hk hn => h.block k hk fun e => (hs k e).elim hn (fun h => by omega)⟩
theorem Chg.of_below (h : Below w.heap.size w w') : Chg S w w' := ⟨h.os, h.tape, h.output, h.size, fun k hk _ => h.block k hk⟩
theorem Chg.of_grown {row : Option Nat} (h : w.grownBy w' row) (hr : ∀ k, row = some k → S k) : Chg S w w' := ⟨h.os, h.tape, h.output, h.size, fun k hk hn => h.block k hk fun e => hn (hr k e.symm)⟩
theorem Chg.setCell (w : World) (p : Addr) (v : Value) (hp : S p.block) : Chg S w (w.setCell p v) := ⟨rfl, rfl, rfl, by simp [World.setCell], fun k _ hn => Below.heap_setCell _ _ _ _ fun e => hn (by rw [e]; exact hp)⟩
theorem Chg.alloc (w : World) (o : Obj) : Chg S w (w.alloc o) := Chg.of_below ((Below.refl _ _).alloc (Nat.le_refl _) o)
theorem Chg.drew (w : World) : Chg S w w.drew := ⟨rfl, rfl, rfl, Nat.le_refl _, fun _ _ _ => rfl⟩
theorem Chg.drewN (w : World) (n : Nat) : Chg S w (w.drewN n) := ⟨rfl, rfl, rfl, Nat.le_refl _, fun _ _ _ => rfl⟩
theorem Chg.below (h : Chg S w w') {B : Nat} (hB : B ≤ w.heap.size) (hs : ∀ k, S k → B ≤ k) : Below B w w' := ⟨h.os, h.tape, h.output, h.size, fun k hk => h.block k (by omega) fun e => by have := hs k e; omega⟩
end
end Go.Proofs.YtnfchojekcoplaaDoor
