/- CodecBack: the walk -/
import Derived.Test.YtjmmabilpdiohaaCG2
import Derived.Deep.RegionWith
namespace Go.Proofs.Ytjmmabilpdiohaa
set_option linter.unusedVariables false
set_option linter.unusedSimpArgs false
open Go.RowKit

set_option maxRecDepth 100000 in
set_option maxHeartbeats 4000000 in
theorem law_CodecBack (a0 : Option Addr) (n0 c0 : Nat) (l0 : List WTy.den) (a1 : Option Addr) (n1 c1 : Nat) (b : List UInt8) (w : World) (hx0 : (Ty.slice WTy).reads w [.slice a0 n0 c0] l0) (h1 : BytesIn w a1 n1 c1 b) :
    Calls Try.prog 7 #[.slice a0 n0 c0, .slice a1 n1 c1] w fun e w' => e = .returned (.bool true) ∧ Below w.heap.size w w' := by
  obtain ⟨ws, hn0, hc0, hc0', hin⟩ := wrs_of_reads hx0
  have hbl := h1.len_eq
  subst hbl
  have hcb := h1.le_cap
  have hsm := h1.small
  have HR := Lib.hid h1.rd
  have HIN := Lib.hid hin
  have HN := Lib.hid hn0
  clear hx0 h1 hin hn0 l0
  go_enter Try.func7, Try.ntmps7
  go_wp2_with fail
  refine (group_any a0 n0 c0 ws _ HN.out HIN.out).mono ?_
  rintro e w1 ⟨ap, np, cp, rfl, hownp, hb1⟩
  have hnp := hownp.len
  subst hnp
  have hcp := hownp.capm
  have HP := Lib.hid hownp
  have HB1 := Lib.hid hb1
  clear hownp hb1
  go_wp2_with fail
  refine (ungroup_any ap _ cp (groupL ws) w1 rfl hcp.1 hcp.2 HP.out.rd).mono ?_
  rintro e w2 ⟨am, cm, rfl, hinm, hb2⟩
  have HB2 := Lib.hid (HB1.out.trans (hb2.mono HB1.out.size))
  have HM := Lib.hid hinm
  clear hinm hb2 HB1
  go_wp2_with fail
  refine (ungroup_any a1 b.length c1 b w2 rfl hcb (by omega) (HR.out.below HB2.out).lt_size).mono ?_
  rintro e w3 ⟨an, cn, rfl, hinn, hb3⟩
  have HB3 := Lib.hid (HB2.out.trans (hb3.mono HB2.out.size))
  have HM := Lib.hid (HM.out.below hb3)
  have HNN := Lib.hid hinn
  clear hinn hb3 HB2
  go_wp2_with fail
  refine (group_any an (ungW b).length cn (ungW b) _ rfl HNN.out).mono ?_
  rintro e w4 ⟨aq, nq, cq, rfl, hownq, hb4⟩
  have HB4 := Lib.hid (HB3.out.trans (hb4.mono HB3.out.size))
  have HM := Lib.hid (HM.out.below hb4)
  have HQ := Lib.hid hownq
  have HIN4 := Lib.hid (HIN.out.below HB4.out)
  have HR4 := Lib.hid (HR.out.below HB4.out).lt_size
  clear hownq hb4 HB3 HIN HNN HP
  have HWS := Lib.hid (ungW_small b)
  go_upto_region 5 with (fail)
  go_cut [13] (fun v13 wc => v13 = .bool true ∧ Below w4.heap.size w4 wc)
  case first =>
    cases hgo : groupOk ws with
    | false =>
      have t1 : (groupE ws != (0 : Int)) = true := by rw [(group_no ws hgo).2]; rfl
      clear hgo
      go_wp2_with fail
      go_meet
      case rel => exact ⟨rfl, Below.refl _ _⟩
    | true =>
      obtain ⟨e1, e2, e3, e4⟩ := group_back ws hgo
      have t1 : (groupE ws != (0 : Int)) = false := by rw [e3]; rfl
      have t2 : (ungE (groupL ws) == (0 : Int)) = true := by rw [ungE, e1]; rfl
      have hl : ws.length ≤ 1000000 := by
        have := hgo
        simp only [groupOk, Bool.and_eq_true, decide_eq_true_eq] at this
        omega
      have HLL := Lib.hid hl
      have HWS2 := Lib.hid (ungW_small (groupL ws))
      have E2 := Lib.hid e2
      clear e1 e2 e3 e4 hgo hl
      go_wp2_with fail
      refine (wsame_any am (ungW (groupL ws)).length cm (ungW (groupL ws)) a0 n0 c0 ws w4 rfl HN.out HM.out HIN4.out (by have := HWS2.out; omega) (by have := HN.out; have := HLL.out; omega)).mono ?_
      rintro e w5 ⟨rfl, hb5⟩
      have HB5 := Lib.hid hb5
      clear hb5
      rw [decide_eq_true E2.out]
      go_wp2_with fail
      go_meet
      case rel => exact ⟨rfl, HB5.out⟩
  case rest =>
    obtain ⟨rfl, hb5⟩ := hcut
    rename World => w5
    have HB5 := Lib.hid (HB4.out.trans (hb5.mono HB4.out.size))
    have HQ5 := Lib.hid (HQ.out.below hb5)
    have HR5 := Lib.hid (HR4.out.below hb5).lt_size
    clear hb5 HB4 HQ HR4
    go_upto_region 6 with (fail)
    go_cut [14] (fun v14 wc => v14 = .bool true ∧ Below w5.heap.size w5 wc)
    case first =>
      cases hgo : ungOk b with
      | false =>
        have t1 : (ungE b != (0 : Int)) = true := by rw [(ung_no b hgo).2]; rfl
        clear hgo
        go_wp2_with fail
        go_meet
        case rel => exact ⟨rfl, Below.refl _ _⟩
      | true =>
        obtain ⟨e1, e2, e3⟩ := ung_back b hgo
        have t1 : (ungE b != (0 : Int)) = false := by rw [e3]; rfl
        have t2 : (groupE (ungW b) == (0 : Int)) = true := by rw [groupE, e1]; rfl
        have E2 := Lib.hid e2
        clear e1 e2 e3 hgo
        go_wp2_with fail
        refine (same_any aq a1 nq b.length cq c1 (groupL (ungW b)) b w5 HQ5.out.len rfl HQ5.out.rd HR5.out).mono ?_
        rintro e w6 ⟨rfl, rfl⟩
        rw [E2.out, beq_self_eq_true]
        go_wp2_with fail
        go_meet
        case rel => exact ⟨rfl, Below.refl _ _⟩
    case rest =>
      obtain ⟨rfl, hb6⟩ := hcut
      rename World => w6
      have HB6 := Lib.hid (HB5.out.trans (hb6.mono HB5.out.size))
      clear hb6 HB5 HQ5 HR5
      go_wp2_with fail
      refine (calive_any _).mono ?_
      rintro e w7 ⟨rfl, hb7⟩
      have HB7 := Lib.hid (HB6.out.trans (hb7.mono HB6.out.size))
      clear hb7 HB6
      have G1 : Hid ((groupE ws = 0) ∨ (groupE ws = 81 ∧ (groupL ws).length = 0)) := Lib.hid (by
        cases hgo : groupOk ws with
        | false => right; rw [(group_no ws hgo).1, (group_no ws hgo).2]; exact ⟨rfl, rfl⟩
        | true => left; rw [groupE, hgo]; rfl)
      have G2 : Hid ((ungE b = 0) ∨ (ungE b = 81 ∧ (ungW b).length = 0)) := Lib.hid (by
        cases hgo : ungOk b with
        | false => right; rw [(ung_no b hgo).1, (ung_no b hgo).2]; exact ⟨rfl, rfl⟩
        | true => left; rw [ungE, hgo]; rfl)
      rcases G1.out with e | ⟨e, e'⟩ <;> rcases G2.out with f | ⟨f, f'⟩
      all_goals
        first | rw [e, e', f, f'] | rw [e, e', f] | rw [e, f, f'] | rw [e, f]
        clear e f
        try clear e'
        try clear f'
        go_wp2_with fail
        go_ret
        exact ⟨rfl, HB7.out⟩
end Go.Proofs.Ytjmmabilpdiohaa
