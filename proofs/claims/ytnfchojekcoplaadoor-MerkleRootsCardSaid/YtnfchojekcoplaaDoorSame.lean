/- the document's Same -/
import Derived.Test.YtnfchojekcoplaaDoorNum
namespace Go.Proofs.YtnfchojekcoplaaDoor
set_option linter.unusedVariables false
set_option linter.unusedSimpArgs false
open Go.RowKit

theorem same_any (a c : Option Addr) (n m cap cap' : Nat) (l r : List UInt8) (w : World) {Bd Bd' : Nat} (hl : l.length = n) (hr : r.length = m) (h : Rd w Bd a (bs l)) (h' : Rd w Bd' c (bs r)) :
    Calls Tryd.prog 12 #[.slice a n cap, .slice c m cap'] w fun e w' => e = .returned (.bool (l == r)) ∧ w = w' := by
  have h1 := conv_rd h n cap hl
  have h2 := conv_rd h' m cap' hr
  clear hl hr h h'
  go_enter Tryd.func12, Tryd.ntmps12
  go_wp2_with fail
  go_ret
  exact ⟨rfl, rfl⟩

end Go.Proofs.YtnfchojekcoplaaDoor
