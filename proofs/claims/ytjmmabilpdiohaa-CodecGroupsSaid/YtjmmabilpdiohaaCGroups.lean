/- CodecGroups: the walk -/
import Derived.Test.YtjmmabilpdiohaaCG1
namespace Go.Proofs.Ytjmmabilpdiohaa
set_option linter.unusedVariables false
set_option linter.unusedSimpArgs false
open Go.RowKit

set_option maxRecDepth 100000 in
set_option maxHeartbeats 4000000 in
theorem law_CodecGroups (a0 : Option Addr) (n0 c0 : Nat) (l0 : List WTy.den) (a1 : Option Addr) (n1 c1 : Nat) (b : List UInt8) (w : World) (hx0 : (Ty.slice WTy).reads w [.slice a0 n0 c0] l0) (h1 : BytesIn w a1 n1 c1 b) :
    Calls Try.prog 6 #[.slice a0 n0 c0, .slice a1 n1 c1] w fun e w' => e = .returned (.bool true) ∧ Below w.heap.size w w' := by
  obtain ⟨ws, hn0, hc0, hc0', hin⟩ := wrs_of_reads hx0
  have hbl := h1.len_eq
  subst hbl
  have hcb := h1.le_cap
  have hsm := h1.small
  have HR := Lib.hid h1.rd
  have HIN := Lib.hid hin
  have HN := Lib.hid hn0
  clear hx0 h1 hin hn0 l0
  go_enter Try.func6, Try.ntmps6
  go_wp2_with fail
  refine (group_any a0 n0 c0 ws _ HN.out HIN.out).mono ?_
  rintro e w1 ⟨ap, np, cp, rfl, hownp, hb1⟩
  have HP := Lib.hid hownp
  have HB1 := Lib.hid hb1
  clear hownp hb1
  go_wp2_with fail
  refine (rgroup_any a0 n0 c0 ws _ HN.out (HIN.out.below HB1.out)).mono ?_
  rintro e w2 ⟨aq, nq, cq, rfl, hownq, hb2⟩
  have HP := Lib.hid (HP.out.below hb2)
  have HQ := Lib.hid hownq
  have HB2 := Lib.hid (HB1.out.trans (hb2.mono HB1.out.size))
  clear hownq hb2 HB1
  have hz2 := HB2.out.size
  go_wp2_with (at_builtin; refine wpList_app rfl (.tmp 27) (.tmp 28) rfl w2.heap.size _ [] rfl (OwnB.lit0 w2) w.heap.size a1 b.length c1 b rfl rfl ((HR.out.below HB2.out).alloc hz2 _) (by simp; omega) (by simp) ?_)
  intro v3 w3 hown3 hgr3 hat3
  have hb3 : Below w2.heap.size w2 w3 := below_app ((Below.refl w2.heap.size w2).alloc (Nat.le_refl _) _) (OwnB.lit0 w2) (Nat.le_refl _) hgr3
  obtain ⟨a3, c3, rfl, _⟩ := hown3.shape
  have HO3 := Lib.hid hown3
  have HB3 := Lib.hid hb3
  have hz3 := hb3.size
  clear hown3 hb3 hgr3 hat3
  go_wp2_with (at_builtin; refine wpList_app rfl (.tmp 29) (.tmp 30) rfl w2.heap.size _ b rfl (HO3.out.alloc _) (w3.heap.size + 1) (some ⟨w3.heap.size, 0, none⟩) 1 1 [77] rfl rfl (Rd.new w3 (bs [77]) 5) (by omega) (by simp; omega) ?_)
  intro v4 w4 hown4 hgr4 hat4
  have hb4 : Below w2.heap.size w2 w4 := below_app (HB3.out.alloc hz3 _) (HO3.out) (Nat.le_refl _) hgr4
  obtain ⟨g4, o4, c4, rfl, hc4, hg4, hg4', hc4', hrd4, h77⟩ := own77 hown4
  have HB4 := Lib.hid (HB2.out.trans (hb4.mono hz2))
  have HP := Lib.hid ((HP.out.below hb4))
  have HQ := Lib.hid ((HQ.out.below hb4))
  have HR4 := Lib.hid hrd4
  have H77 := Lib.hid h77
  have hc4i : (b.length : Int) ≤ (c4 : Int) := by omega
  clear hown4 hb4 hgr4 hat4 HB2 HB3 HO3 hrd4 h77
  go_wp2_with fail
  refine (ungroup_any (some ⟨g4, o4, none⟩) b.length c4 b w4 rfl (by omega) hc4' HR4.out).mono ?_
  rintro e w5 ⟨am, cm, rfl, hinm, hb5⟩
  have HB5 := Lib.hid (HB4.out.trans (hb5.mono HB4.out.size))
  have HP := Lib.hid ((HP.out.below hb5))
  have HQ := Lib.hid ((HQ.out.below hb5))
  have HR5 := Lib.hid (HR4.out.below hb5).lt_size
  have H77 := Lib.hid ((hb5.cell (by exact hg4')).trans H77.out)
  have HM := Lib.hid hinm
  have hz5 := hb5.size
  clear hinm hb5 HB4 HR4
  go_wp2_with fail
  refine (rungroup_any a1 b.length c1 b w5 rfl (by omega) (by omega) (HR.out.below HB5.out).lt_size).mono ?_
  rintro e w6 ⟨an, cn, rfl, hinn, hb6⟩
  have HB6 := Lib.hid (HB5.out.trans (hb6.mono HB5.out.size))
  have HP := Lib.hid ((HP.out.below hb6))
  have HQ := Lib.hid ((HQ.out.below hb6))
  have HR6 := Lib.hid (HR5.out.below hb6).lt_size
  have H77 := Lib.hid ((hb6.cell (by show g4 < w5.heap.size; omega)).trans H77.out)
  have HM := Lib.hid (HM.out.below hb6)
  have HNN := Lib.hid hinn
  have hz65 := hb6.size
  clear hinn hb6 HB5 HR5
  go_wp2_with fail
  refine (same_any ap aq np nq cp cq (groupL ws) (groupL ws) w6 HP.out.len HQ.out.len HP.out.rd HQ.out.rd).mono ?_
  rintro e w7 ⟨rfl, rfl⟩
  rw [beq_self_eq_true]
  go_wp2_with fail
  have HUL : Hid ((ungW b).length ≤ 1000000) := Lib.hid (by
    unfold ungW
    cases hu : ungOk b with
    | false => simp
    | true =>
      simp only [ungOk, Bool.and_eq_true, decide_eq_true_eq] at hu
      rw [if_pos rfl, parseN_length]; omega)
  refine (wsame_any am (ungW b).length cm (ungW b) an (ungW b).length cn (ungW b) w6 rfl rfl HM.out HNN.out HUL.out HUL.out).mono ?_
  rintro e w7 ⟨rfl, hb7⟩
  have HB7 := Lib.hid (HB6.out.trans (hb7.mono HB6.out.size))
  have HR7 := Lib.hid (HR6.out.below hb7).lt_size
  have hz6 := hb7.size
  have H77 := Lib.hid ((hb7.cell (by show g4 < w6.heap.size; omega)).trans H77.out)
  rw [decide_eq_true rfl]
  clear hb7 HB6 HR6 HM HNN
  go_wp2_with fail
  refine (same_any (some ⟨g4, o4, none⟩) a1 b.length b.length c4 c1 b b w7 rfl rfl HR7.out (HR.out.below HB7.out)).mono ?_
  rintro e w8 ⟨rfl, rfl⟩
  rw [beq_self_eq_true]
  go_wp2_with fail
  refine (calive_any _).mono ?_
  rintro e w8 ⟨rfl, hb8⟩
  have HB8 := Lib.hid (HB7.out.trans (hb8.mono HB7.out.size))
  have h77 := (hb8.cell (by show g4 < w7.heap.size; omega)).trans H77.out
  clear hb8 HB7
  generalize groupE ws = ge
  generalize ungE b = ue
  have hw1 : IntKind.i64.wrap ((b.length : Int) + 1) = (b.length : Int) + 1 := IntWalk.i64_in _ (by omega)
  have hi1 : (b.length : Int) + 1 ≤ (c4 : Int) := by omega
  go_wp2_with fail
  trace_state
  go_ret
  exact ⟨rfl, HB8.out⟩
end Go.Proofs.Ytjmmabilpdiohaa
