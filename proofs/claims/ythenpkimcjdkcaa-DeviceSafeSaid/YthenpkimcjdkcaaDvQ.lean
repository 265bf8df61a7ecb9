/- what a script leaves -/
import Derived.Test.YthenpkimcjdkcaaDvP
namespace Go.Proofs.Ythenpkimcjdkcaa
set_option linter.unusedVariables false
set_option linter.unusedSimpArgs false
open Go.RowKit

/-- A script's first i acts. -/
def ScrR (N M : Nat) (W : World) (g n : Nat) (vi : Value) (wr : World) : Prop :=
  ∃ (i : Nat) (L : Lay) (I : Nat → Prop) (D : Dv) (k : Int), i ≤ n ∧ i ≤ M ∧ vi = .int .i64 (i : Int) ∧ L.g = g ∧ DevIn W wr L I D k ∧ Inv N D k i
/-- Another device stays while this one is turned. -/
theorem DevAt.apart {w w' : World} {L Lc : Lay} {I Ic : Nat → Prop} {D Dc : Dv} {k : Int} {B : Nat} (hd : DevAt w L I D) (hc : Clk w L.clk k) (h2 : DevAt w Lc Ic Dc) (hm : ∀ q, Lc.M q → B ≤ q) (hB : ∀ q, L.M q → q < B) (hcB : L.clk < B) (hch : Chg (fun q => L.M q ∨ q = L.clk) w w') : DevAt w' Lc Ic Dc := by
  refine h2.chg hch fun q hq => ⟨fun h => ?_, fun h => ?_⟩
  · have h1 := hm q h
    rcases hq with hq | hq
    · have := hB q hq; omega
    · omega
  · rcases hq with hq | hq
    · obtain ⟨cur, fr, h3⟩ := h2.imm q h
      exact hd.notM h3 (by decide) hq
    · subst hq
      exact h2.clk_notI hc h
end Go.Proofs.Ythenpkimcjdkcaa
