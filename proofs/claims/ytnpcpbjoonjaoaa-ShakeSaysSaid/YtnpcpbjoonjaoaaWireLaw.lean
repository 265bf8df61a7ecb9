/- the laws of wire: the live question -/
import Derived.Test.YtnpcpbjoonjaoaaWire3
import Derived.Test.YtnpcpbjoonjaoaaFr
namespace Go.Proofs.Ytnpcpbjoonjaoaa
set_option linter.unusedVariables false
set_option linter.unusedSimpArgs false
open Go.RowKit

set_option maxRecDepth 100000 in
set_option maxHeartbeats 1000000 in
theorem walive_any (w : World) : Calls Try.prog 22 #[] w fun e w' => e = .returned (.bool true) ∧ Below w.heap.size w w' := by
  go_enter Try.func22, Try.ntmps22
  go_wp2_with fail
  refine (greeting_any _).mono ?_
  rintro e w1 ⟨a1, n1, c1, rfl, hown1, hb1⟩
  have HO1 := Lib.hid hown1
  have HB1 := Lib.hid hb1
  clear hown1 hb1
  go_wp2_with fail
  refine (simpleReply_any 5 258 none 0 0 [] _ rfl (by omega) .nil (by omega)).mono ?_
  rintro e w2 ⟨a2, n2, c2, rfl, hown2, hb2⟩
  obtain ⟨g1, o1, rfl, rfl, _, _, q1, k1⟩ := (HO1.out.below hb2).formS (by decide)
  obtain ⟨g2, o2, rfl, rfl, _, _, q2, k2⟩ := hown2.formS (by decide)
  have i1 : w2.cell? ⟨g1, o1, none⟩ = some (.int .u8 78) := k1 0 (by decide)
  have i2 : w2.cell? ⟨g1, o1 + 17, none⟩ = some (.int .u8 3) := k1 17 (by decide)
  have i3 : w2.cell? ⟨g2, o2, none⟩ = some (.int .u8 103) := k2 0 (by decide)
  have i4 : w2.cell? ⟨g2, o2 + 7, none⟩ = some (.int .u8 5) := k2 7 (by decide)
  have i5 : w2.cell? ⟨g2, o2 + 14, none⟩ = some (.int .u8 1) := k2 14 (by decide)
  have i6 : w2.cell? ⟨g2, o2 + 15, none⟩ = some (.int .u8 2) := k2 15 (by decide)
  have hl1 : greetingL.length = 18 := by decide
  have hl2 : (simpleReplyL 5 258 []).length = 16 := by decide
  rw [hl1] at q1 ⊢
  rw [hl2] at q2 ⊢
  have HB2 := Lib.hid (HB1.out.trans (hb2.mono HB1.out.size))
  clear hl1 hl2 k1 k2 hown2 hb2 HO1 HB1
  go_wp2_with fail
  go_ret
  exact ⟨rfl, HB2.out⟩
end Go.Proofs.Ytnpcpbjoonjaoaa
