/- devices: Together, of two new ones; slices of bytes in arrays -/
import Derived.Test.YthenpkimcjdkcaaDv11
import Derived.Test.YthenpkimcjdkcaaDvQ
namespace Go.Proofs.Ythenpkimcjdkcaa
set_option linter.unusedVariables false
set_option linter.unusedSimpArgs false
open Go.RowKit

/-- Bytes in a block of bytes. -/
def BytesU (w : World) (v : Value) (b : List UInt8) : Prop := BytesV w (isU8 w) v b
/-- No block of bytes is turned. -/
def NoU8 (S : Nat → Prop) (w : World) : Prop := ∀ k, S k → ¬ isU8 w k
theorem isU8.chg {S : Nat → Prop} {w w' : World} {k : Nat} (h : isU8 w k) (hc : Chg S w w') (hs : NoU8 S w) : isU8 w' k :=
  h.keep (hc.block k h.lt fun e => hs k e h)
theorem BytesU.chg {S : Nat → Prop} {w w' : World} {v : Value} {b : List UInt8} (h : BytesU w v b) (hc : Chg S w w') (hs : NoU8 S w) : BytesU w' v b :=
  BytesV.keep h (fun k hk => hk.chg hc hs) fun k hk => hc.block k hk.lt fun e => hs k e hk
theorem BytesU.below {w w' : World} {v : Value} {b : List UInt8} (h : BytesU w v b) (hb : Below w.heap.size w w') : BytesU w' v b :=
  h.chg (S := fun _ => False) (Chg.of_below hb) fun _ h => h.elim
theorem BytesU.of {w : World} {base : Nat} {v : Value} {b : List UInt8} (h : OwnB w base v b) : BytesU w v b := BytesV.own h _ fun k hk => OwnB.u8 h hk
theorem DevAt.noU8 {w : World} {L : Lay} {I : Nat → Prop} {D : Dv} {k : Int} (h : DevAt w L I D) (hk : Clk w L.clk k) : NoU8 (fun q => L.M q ∨ q = L.clk) w := by
  rintro q hq ⟨cur, fr, h1⟩
  rcases hq with hq | hq
  · exact h.notM h1 (by decide) hq
  · subst hq
    have h2 : w.heap[L.clk]? = some (.cells _ _ _) := hk
    rw [h2] at h1
    injection h1 with h1
    injection h1 with _ h1 _
    exact absurd h1 (by decide)
/-- Slices of bytes, one behind the other. -/
def SlC (w : World) (vs : List Value) (bl : List (List UInt8)) : Prop := vs.length = bl.length ∧ ∀ (j : Nat) (b : List UInt8), bl[j]? = some b → ∃ v, vs[j]? = some v ∧ BytesU w v b
theorem SlC.chg {S : Nat → Prop} {w w' : World} {vs : List Value} {bl : List (List UInt8)} (h : SlC w vs bl) (hc : Chg S w w') (hs : NoU8 S w) : SlC w' vs bl :=
  ⟨h.1, fun j b hj => by obtain ⟨v, h1, h2⟩ := h.2 j b hj; exact ⟨v, h1, h2.chg hc hs⟩⟩
theorem SlC.set {w : World} {vs : List Value} {bl : List (List UInt8)} (h : SlC w vs bl) (i : Nat) {v : Value} {b : List UInt8} (hv : BytesU w v b) : SlC w (vs.set i v) (bl.set i b) := by
  refine ⟨by simp [h.1], fun j c hj => ?_⟩
  by_cases e : i = j
  · subst e
    have hlt : i < bl.length := by have := (List.getElem?_eq_some_iff.1 hj).1; simpa using this
    rw [List.getElem?_set_self hlt] at hj
    injection hj with hj
    subst hj
    exact ⟨v, by rw [List.getElem?_set_self (by rw [h.1]; exact hlt)], hv⟩
  · rw [List.getElem?_set_ne e] at hj ⊢
    exact h.2 j c hj
/-- An array of slices of bytes in a block of its own. -/
def SlArr (w : World) (g : Nat) (T : TypeId) (bl : List (List UInt8)) : Prop := ∃ vs, Blk w g T vs ∧ SlC w vs bl
theorem SlArr.chg {S : Nat → Prop} {w w' : World} {g : Nat} {T : TypeId} {bl : List (List UInt8)} (h : SlArr w g T bl) (hc : Chg S w w') (hs : NoU8 S w) (hg : ¬ S g) : SlArr w' g T bl := by
  obtain ⟨vs, h1, h2⟩ := h
  exact ⟨vs, h1.keep (hc.block g h1.lt hg), h2.chg hc hs⟩
theorem SlArr.below {w w' : World} {g : Nat} {T : TypeId} {bl : List (List UInt8)} (h : SlArr w g T bl) (hb : Below w.heap.size w w') : SlArr w' g T bl :=
  h.chg (S := fun _ => False) (Chg.of_below hb) (fun _ h => h.elim) (fun h => h)
theorem SlArr.lt {w : World} {g : Nat} {T : TypeId} {bl : List (List UInt8)} (h : SlArr w g T bl) : g < w.heap.size := by
  obtain ⟨vs, h1, _⟩ := h; exact h1.lt
theorem SlArr.get {w : World} {g : Nat} {T : TypeId} {bl : List (List UInt8)} (h : SlArr w g T bl) (j : Nat) (hj : j < bl.length) : ∃ a c, w.cell? ⟨g, j, none⟩ = some (.slice a (bl[j]).length c) ∧ (bl[j]).length ≤ c ∧ Rd w w.heap.size a (bs bl[j]) := by
  obtain ⟨vs, h1, h2⟩ := h
  obtain ⟨v, h3, h4⟩ := h2.2 j _ (List.getElem?_eq_getElem hj)
  obtain ⟨a, c, rfl, h5, h6⟩ := h4.rd
  exact ⟨a, c, h1.cell j _ h3, h5, h6⟩
theorem SlArr.put {w : World} {g : Nat} {T : TypeId} {bl : List (List UInt8)} (h : SlArr w g T bl) (hT : T ≠ 5) (i : Nat) {v : Value} {b : List UInt8} (hv : BytesU w v b) : SlArr (w.setCell ⟨g, i, none⟩ v) g T (bl.set i b) := by
  obtain ⟨vs, h1, h2⟩ := h
  refine ⟨_, h1.set i v, ?_⟩
  have hc : Chg (fun k => k = g) w (w.setCell ⟨g, i, none⟩ v) := Chg.setCell w _ _ rfl
  have hn : NoU8 (fun k => k = g) w := by
    rintro k rfl ⟨cur, fr, h3⟩
    have h4 : w.heap[k]? = some (.cells _ _ _) := h1
    rw [h4] at h3
    injection h3 with h3
    injection h3 with _ h3 _
    exact hT h3
  exact (h2.set i hv).chg hc hn
theorem SlArr.notM {w : World} {g : Nat} {T : TypeId} {bl : List (List UInt8)} (h : SlArr w g T bl) {L : Lay} {I : Nat → Prop} {D : Dv} {k : Int} (hd : DevAt w L I D) (hk : Clk w L.clk k) (hT : T ≠ 95 ∧ T ≠ 102 ∧ T ≠ 99) (hT2 : T ≠ 3) : ¬ (L.M g ∨ g = L.clk) := by
  obtain ⟨vs, h1, _⟩ := h
  rintro (hg | hg)
  · exact hd.notM h1 hT hg
  · exact ne_cells h1 hk hT2 hg
theorem SlArr.new (w : World) (T : TypeId) (n : Nat) : SlArr (w.alloc (.cells (List.replicate n (Value.slice none 0 0)).toArray T)) w.heap.size T (List.replicate n []) := by
  refine ⟨_, Blk.new w T _, by simp, fun j b hj => ?_⟩
  have hlt := (List.getElem?_eq_some_iff.1 hj).1
  rw [List.length_replicate] at hlt
  rw [List.getElem?_replicate, if_pos hlt] at hj
  injection hj with hj
  subst hj
  exact ⟨.slice none 0 0, by rw [List.getElem?_replicate, if_pos hlt], none, 0, rfl, Nat.le_refl _, .inl rfl⟩
end Go.Proofs.Ythenpkimcjdkcaa
