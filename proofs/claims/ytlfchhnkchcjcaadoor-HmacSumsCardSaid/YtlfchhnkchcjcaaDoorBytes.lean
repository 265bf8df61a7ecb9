/- ref01.Bytes -/
import Derived.Test.YtlfchhnkchcjcaaDoorRPut
namespace Go.Proofs.YtlfchhnkchcjcaaDoor
set_option linter.unusedVariables false
set_option linter.unusedSimpArgs false
open Go.RowKit

def BytesPost (n s : Nat) (w : World) (e : Ending) (w' : World) : Prop :=
  e = .returned (.slice (some ⟨w.heap.size, 0, none⟩) s s) ∧ OwnB w' w.heap.size (.slice (some ⟨w.heap.size, 0, none⟩) s s) (bytesOf n s) ∧ Below w.heap.size w w'

set_option maxRecDepth 100000 in
theorem bytes_good (n s : Nat) (w : World) (h1 : 1 ≤ s) (h8 : s ≤ 8) (hn : n < 256 ^ s) :
    Calls Tryd.prog 22 #[.int .u64 n, .int .i64 s] w (BytesPost n s w) := by
  have hn2 : n < 18446744073709551616 := Nat.lt_of_lt_of_le hn (Nat.pow_le_pow_right (by omega) h8)
  have C := Lib.hid (rput_any n s w h1 h8 hn2)
  have HN := Lib.hid hn
  clear hn hn2
  go_enter Tryd.func22, Tryd.ntmps22
  go_wp2_with fail
  refine C.out.mono ?_
  rintro e w1 ⟨hb, hr⟩
  rw [if_pos HN.out] at hr
  obtain ⟨rfl, hown⟩ := hr
  have HO := Lib.hid hown
  have HB := Lib.hid hb
  clear hown hb
  go_wp2_with fail
  go_ret
  exact ⟨rfl, HO.out, HB.out⟩

end Go.Proofs.YtlfchhnkchcjcaaDoor
