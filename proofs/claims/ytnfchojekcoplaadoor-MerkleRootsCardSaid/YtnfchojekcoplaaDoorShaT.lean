/- sha: the constants lie in block 0 -/
import Derived.Test.YtnfchojekcoplaaDoorTied
import Derived.Test.YtnfchojekcoplaaDoorSha3
namespace Go.Proofs.YtnfchojekcoplaaDoor
set_option linter.unusedVariables false
set_option linter.unusedSimpArgs false
open Go.RowKit

theorem laid_is : Rows.laid_cofferdam_sha_constants (H := Unit) = .agg ((kTab.map val).map fun z => .lit (.int .u32 z)) := by kernel_rfl
theorem us_vals : (kTab.map val).map (Value.int .u32) = us kTab := by simp [us, U]

theorem kok_of {W : World} (h : laidMetH Tryd.prog [("cofferdam/sha.constants", Rows.laid_cofferdam_sha_constants)] W) (hs : W.ShapedOpen Tryd.prog) : KOK W := by
  rw [MakeChecks.laidMetH_plain _ _ _ (by kernel_rfl)] at h
  obtain ⟨ps, ⟨g0, t0, cs0, f0, p0, q0, hg0, ht0, hv0, hd0, _, _⟩, _, _⟩ := h
  obtain rfl := Option.some.inj ((show Tryd.prog.globalNamed "cofferdam/sha.constants" = some 0 by kernel_rfl).symm.trans hg0)
  obtain rfl := Option.some.inj ((show (Tryd.prog.globals[0]?).map (·.type) = some 59 by kernel_rfl).symm.trans ht0)
  rw [laid_is] at hd0
  have hc := cells_of_ints Tryd.underlying59 Tryd.underlying53 (by kernel_rfl) (by kernel_rfl) hd0
  rw [us_vals] at hc
  obtain ⟨zero, hz⟩ : ∃ zero, (((begin Tryd.prog (fun _ _ => 0) default).world.heap[0]?).bind Obj.row?) = some (zero, 59) := by
    have h : (((begin Tryd.prog (fun _ _ => 0) default).world.heap[0]?).bind Obj.row?).map (·.2) = some 59 := by kernel_rfl
    obtain ⟨x, hx, he⟩ := Option.map_eq_some_iff.1 h
    exact ⟨x.1, by rw [hx, ← he]⟩
  obtain ⟨cs, hcs, _, _⟩ := hs.1 0 _ _ (of_decide_eq_true (by kernel_rfl)) hz
  have hv : W.var? Tryd.prog "cofferdam/sha.constants" = some cs := by
    simp only [World.var?, show Tryd.prog.globalNamed "cofferdam/sha.constants" = some 0 by kernel_rfl, Option.bind_some, hcs]
  obtain rfl := Option.some.inj (hv.symm.trans hv0)
  rw [KOK, hcs, ← hc]
end Go.Proofs.YtnfchojekcoplaaDoor
