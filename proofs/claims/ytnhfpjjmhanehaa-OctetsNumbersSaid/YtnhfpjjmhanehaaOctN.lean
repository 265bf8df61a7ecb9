/- OctetsNumbers: the walk -/
import Derived.Test.YtnhfpjjmhanehaaOctLaws
namespace Go.Proofs.Ytnhfpjjmhanehaa
set_option linter.unusedVariables false
set_option linter.unusedSimpArgs false
open Go.RowKit

set_option maxHeartbeats 2000000 in
theorem law_OctetsNumbers (a : Option Addr) (n c : Nat) (l : List UInt8) (x y : Int) (w : World) (hb : BytesIn w a n c l) (hx : (Lit.int .u64 x).wf = true) (hy : (Lit.int .i64 y).wf = true) :
    Calls Try.prog 3 #[.slice a n c, .int .u64 x, .int .i64 y] w fun e w' => e = .returned (.bool true) ∧ Below w.heap.size w w' := by
  obtain ⟨m, rfl, hm⟩ := nat_u64 hx
  replace hy := bounds_i64 hy
  clear hx
  have hln := hb.len_eq
  have hnl := hb.small
  have hcl := hb.le_cap
  have HR := Lib.hid hb.rd
  clear hb
  subst hln
  go_enter Try.func3, Try.ntmps3
  go_wp2_with (at_builtin; refine wpList_app rfl _ _ rfl w.heap.size _ [] rfl (OwnB.lit0 w) w.heap.size a _ c l rfl rfl (HR.out.alloc (Nat.le_refl _) _) (by simp; omega) (by simp) ?_)
  intro v1 w1 hown1 hgr1 hbl1
  have hb1 := Below.app ((Below.refl _ w).alloc (Nat.le_refl _) (.cells #[] 5)) (OwnB.lit0 w) (Nat.le_refl _) hgr1
  have HB1 := Lib.hid hb1
  have HO1 := Lib.hid hown1
  clear hown1 hgr1 hbl1 hb1
  go_wp2_with (at_builtin; refine wpList_app rfl _ _ rfl w.heap.size _ ([] ++ l) rfl (HO1.out.alloc _) (w1.heap.size + 1) (some ⟨w1.heap.size, 0, none⟩) 1 1 [77] rfl rfl (Rd.new w1 (bs [77]) 5) (by simp; omega) (by simp; have := HB1.out.size; omega) ?_)
  intro v2 w2 hown2 hgr2 hbl2
  have hb2 := Below.app (HB1.out.alloc HB1.out.size (.cells #[.int .u8 77] 5)) (HO1.out.alloc _) (Nat.le_refl _) hgr2
  obtain ⟨g, cap, rfl, hg, hglt, hcap⟩ := hown2.form (by simp)
  have hcap' : l.length + 1 ≤ cap := by simpa using hcap
  have hr2 : Rd w2 w2.heap.size (some ⟨g, 0, none⟩) (bs (l ++ [77])) := hown2.rd
  have h77 := World.ownsRow.cellAt hown2 l.length (by simp)
  rw [bs_get _ _ (by simp)] at h77
  simp only [List.getElem_append_right (Nat.le_refl _), Nat.sub_self, List.getElem_cons_zero, List.nil_append] at h77
  have hrl : Rd w2 w2.heap.size (some ⟨g, 0, none⟩) (bs l) := by
    have := hr2.take l.length
    rwa [← bs_take, List.take_left'] at this
    rfl
  have HB2 := Lib.hid hb2
  have HRL := Lib.hid hrl
  have H77 := Lib.hid h77
  have HR2 := Lib.hid (HR.out.below hb2)
  clear hown2 hgr2 hbl2 hb2 HB1 HO1 hr2 hrl h77 hcap hg
  go_wp2_with fail
  refine (get_any _ _ cap l w2 rfl HRL.out).mono ?_
  rintro e w3 ⟨rfl, rfl⟩
  go_wp2_with fail
  refine (rget_any _ _ c l w2 rfl HR2.out).mono ?_
  rintro e w3 ⟨rfl, rfl⟩
  go_wp2_with fail
  refine (put_any m y _ hm).mono ?_
  rintro e w3 ⟨a3, n3, c3, rfl, hown3, hb3⟩
  have HO3 := Lib.hid hown3
  have HB3 := Lib.hid hb3
  clear hown3 hb3
  go_wp2_with fail
  refine (rput_all m y _ hm).mono ?_
  rintro e w4 ⟨a4, n4, c4, rfl, hown4, hb4⟩
  have HO4 := Lib.hid hown4
  have HB24 := Lib.hid (HB3.out.trans (hb4.mono HB3.out.size))
  have HO3 := Lib.hid (HO3.out.below hb4)
  clear hown4 hb4 HB3
  go_wp2_with fail
  refine (same_any _ _ _ _ _ _ (putL m y) (putL m y) _ HO3.out.len HO4.out.len HO3.out.rd HO4.out.rd).mono ?_
  rintro e w5 ⟨rfl, rfl⟩
  rw [beq_self_eq_true]
  go_wp2_with fail
  refine (same_any _ _ _ _ _ _ l l _ rfl rfl (HRL.out.below HB24.out) (HR2.out.below (HB24.out.mono HB2.out.size))).mono ?_
  rintro e w5 ⟨rfl, rfl⟩
  rw [beq_self_eq_true]
  go_wp2_with fail
  refine (alive_any _).mono ?_
  rintro e w5 ⟨rfl, hb5⟩
  have hb25 := HB24.out.trans (hb5.mono HB24.out.size)
  have h77 : w5.cell? ⟨g, l.length, none⟩ = some (.int .u8 ((77 : UInt8).toNat : Int)) := by rw [hb25.cell (by exact hglt)]; exact H77.out
  have HB := Lib.hid (HB2.out.trans (hb25.mono HB2.out.size))
  clear hb5 hb25
  go_wp2_with fail
  go_ret
  exact ⟨rfl, HB.out⟩
end Go.Proofs.Ytnhfpjjmhanehaa
