/- blocks that are known whole -/
import Derived.Test.YtlfchhnkchcjcaaDoorSha1
namespace Go.Proofs.YtlfchhnkchcjcaaDoor
set_option linter.unusedVariables false
set_option linter.unusedSimpArgs false
open Go.RowKit

/-- Block g is known whole: its cells. -/
def Blk (W : World) (g : Nat) (T : TypeId) (cs : List Value) : Prop := W.heap[g]? = some (.cells cs.toArray T (0, 0))

section
variable {W W' : World} {g : Nat} {T : TypeId} {cs : List Value}
theorem Blk.lt (h : Blk W g T cs) : g < W.heap.size := lt_of_heap h
theorem Blk.cell (h : Blk W g T cs) (i : Nat) (v : Value) (hi : cs[i]? = some v) : W.cell? ⟨g, i, none⟩ = some v := by
  rw [cell_of_block h]; simpa using hi
theorem Blk.frozen (h : Blk W g T cs) (i : Nat) : W.frozen? ⟨g, i, none⟩ = false := by
  have h' : W.heap[g]? = some (.cells cs.toArray T (0, 0)) := h
  simp [World.frozen?, h']
theorem Blk.new (W : World) (T : TypeId) (cs : List Value) : Blk (W.alloc (.cells cs.toArray T)) W.heap.size T cs := heap_alloc_new W _
theorem Blk.keep (h : Blk W g T cs) (hb : W'.heap[g]? = W.heap[g]?) : Blk W' g T cs := hb.trans h
theorem Blk.below (h : Blk W g T cs) (hb : Below W.heap.size W W') : Blk W' g T cs := h.keep (hb.block g h.lt)
theorem Blk.alloc (h : Blk W g T cs) (o : Obj) : Blk (W.alloc o) g T cs := h.below ((Below.refl _ _).alloc (Nat.le_refl _) o)
theorem Blk.drew (h : Blk W g T cs) : Blk W.drew g T cs := h
theorem Blk.drewN (h : Blk W g T cs) (n : Nat) : Blk (W.drewN n) g T cs := h
theorem Blk.set (h : Blk W g T cs) (i : Nat) (v : Value) : Blk (W.setCell ⟨g, i, none⟩ v) g T (cs.set i v) := by
  have h' : W.heap[g]? = some (.cells cs.toArray T (0, 0)) := h
  show (W.setCell ⟨g, i, none⟩ v).heap[g]? = _
  simp [World.setCell, Array.getElem?_modify, h']
theorem Blk.other (h : Blk W g T cs) {b i : Nat} {s : Option Nat} (hne : b ≠ g) (v : Value) : Blk (W.setCell ⟨b, i, s⟩ v) g T cs := by
  refine h.keep ?_
  simp [World.setCell, Array.getElem?_modify, hne]
end
end Go.Proofs.YtlfchhnkchcjcaaDoor
