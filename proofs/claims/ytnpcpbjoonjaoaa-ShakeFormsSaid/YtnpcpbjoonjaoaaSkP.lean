/- the law: what is said has a form -/
import Derived.Test.YtnpcpbjoonjaoaaSkO
namespace Go.Proofs.Ytnpcpbjoonjaoaa
set_option linter.unusedVariables false
set_option linter.unusedSimpArgs false
open Go.RowKit

def magicL : List UInt8 := [0, 3, 232, 137, 4, 85, 101, 169]
/-- What is left. -/
def FmR (w7 : World) (o t : List UInt8) (va : Value) (wr : World) : Prop :=
  ∃ (at_ : Nat) (l : List (Nat × Nat × List UInt8)), va = .int .i64 (at_ : Int) ∧ Left o at_ l t ∧ RowOk l ∧ Below w7.heap.size w7 wr

set_option maxRecDepth 20000 in
set_option maxHeartbeats 4000000 in
theorem law_ShakeForms (cs : Array Value) (x : ExpTy.den) (a : Option Addr) (n c : Nat) (b : List UInt8) (W : World) (hx : ExpTy.reads W (Value.agg cs).cells.toList x) (hb : BytesIn W a n c b) :
    Calls Try.prog 7 #[.agg cs, .slice a n c] W fun e w' => e = .returned (.bool true) ∧ Below W.heap.size W w' := by
  obtain ⟨nm, sec, ro, rfl, hs, hnl⟩ := exp_open cs x W hx
  have HBB := Lib.hid hb
  have hbx : Below W.heap.size W (W.alloc (.cells #[Value.string ⟨nm.toArray⟩, Value.int .i64 sec, Value.bool ro] 54)) := (Below.refl _ _).alloc (Nat.le_refl _) _
  clear hx hb
  go_enter Try.func7, Try.ntmps7
  by_cases hbig : 3000 < n
  · have h1 : (3000 : Int) < (n : Int) := by omega
    have HBX := Lib.hid hbx
    clear hbx hbig
    go_wp2_with fail
    refine (skalive_any _).mono ?_
    rintro e w2 ⟨rfl, hb2⟩
    have HBE := Lib.hid (HBX.out.trans (hb2.mono HBX.out.size))
    clear hb2
    go_wp2_with fail
    go_ret
    exact ⟨rfl, HBE.out⟩
  · have h1 : ¬ ((3000 : Int) < (n : Int)) := by omega
    have hn3 : n ≤ 3000 := by omega
    clear hbig
    have HBX := Lib.hid hbx
    have HFI := Lib.hid (fit_any nm sec ro (W.alloc (.cells #[Value.string ⟨nm.toArray⟩, Value.int .i64 sec, Value.bool ro] 54)) hs hnl)
    obtain ⟨N, hN⟩ : ∃ N, nm.take 64 = N := ⟨_, rfl⟩
    have hNl : N.length ≤ 64 := by rw [← hN, List.length_take]; omega
    obtain ⟨S, hS⟩ : ∃ S, fitN sec = S := ⟨_, rfl⟩
    have hSl : S ≤ 8192 := by rw [← hS]; exact fitN_le sec
    rw [hN, hS] at HFI
    clear hbx hN hS hs hnl
    go_wp2_with fail
    refine HFI.out.mono ?_
    rintro e w2 ⟨rfl, hb2⟩
    have hb3 := (HBX.out.trans (hb2.mono HBX.out.size)).alloc (HBX.out.trans (hb2.mono HBX.out.size)).size (.cells #[Value.string ⟨N.toArray⟩, Value.int .i64 (S : Int), Value.bool ro] 54)
    have hY : Blk (w2.alloc (.cells #[Value.string ⟨N.toArray⟩, Value.int .i64 (S : Int), Value.bool ro] 54)) w2.heap.size 54 [Value.string ⟨N.toArray⟩, Value.int .i64 (S : Int), Value.bool ro] := Blk.new _ _ _
    go_upto_region 4 with (fail)
    generalize w2.alloc (.cells #[Value.string ⟨N.toArray⟩, Value.int .i64 (S : Int), Value.bool ro] 54) = w3 at hb3 hY ⊢
    have HB3 := Lib.hid hb3
    have HY := Lib.hid hY
    have y0 := hY.cell 0 _ rfl
    have y1 := hY.cell 1 _ rfl
    have y2 := hY.cell 2 _ rfl
    clear hb2 hb3 HFI HBX hY
    go_wp2_with fail
    refine (new_sk N S ro w3).mono ?_
    rintro e w4 ⟨rfl, hk4, hb4⟩
    have hg : W.heap.size ≤ w3.heap.size := HB3.out.size
    have hY4 := HY.out.below hb4
    have hlt3 : w2.heap.size < w3.heap.size := HY.out.lt
    obtain ⟨gy, hgy⟩ : ∃ gy, w2.heap.size = gy := ⟨_, rfl⟩
    rw [hgy] at hY4 hlt3 ⊢
    obtain ⟨gh, hgh⟩ : ∃ gh, w3.heap.size = gh := ⟨_, rfl⟩
    rw [hgh] at hk4 hg hlt3 ⊢
    have HB4 := Lib.hid (HB3.out.trans (hb4.mono HB3.out.size))
    have HK4 := Lib.hid hk4
    have HY4 := Lib.hid hY4
    clear hb4 hk4 hgh HB3 hY4 HY y0 y1 y2
    go_wp2_with fail
    refine (skalive_any _).mono ?_
    rintro e w6 ⟨rfl, hb6⟩
    have HB6 := Lib.hid (HB4.out.trans (hb6.mono HB4.out.size))
    have hh6 : SkAt w6 gh ⟨N, S, ro, 0, false, false⟩ := Blk.below HK4.out hb6
    have HY6 := Lib.hid (Blk.below HY4.out hb6)
    have hap1 : ApartB gh a b := apart_new HBB.out.rd hg
    have hnc := HBB.out.le_cap
    have hcs := HBB.out.small
    have HF1 := Lib.hid (feed_any gh ⟨N, S, ro, 0, false, false⟩ a n c b w6 hh6 hSl (by show N.length ≤ 1000; omega) HBB.out.len_eq hnc (by omega) ((HBB.out.rd.below HB6.out).more HB6.out.size) hap1 (by omega))
    obtain ⟨l0, t, hform, hok, htail⟩ := feedR_form ⟨N, S, ro, 0, false, false⟩ b (by show N.length ≤ 1000; omega)
    have hlen := feedR_len ⟨N, S, ro, 0, false, false⟩ b (by show N.length ≤ 1000; omega)
    have hol : (feedR ⟨N, S, ro, 0, false, false⟩ b).2.1.length ≤ 30000000 := by
      have := HBB.out.len_eq
      omega
    generalize feedR ⟨N, S, ro, 0, false, false⟩ b = fr at HF1 hform htail hol
    obtain ⟨s, o, m⟩ := fr
    simp only at hform htail hol
    have HTF := Lib.hid (tail_facts hSl htail)
    have HFORM := Lib.hid hform
    have HOK := Lib.hid hok
    clear hb6 hh6 hap1 HB4 HK4 HY4 hform htail hok hlen
    go_wp2_with fail
    refine HF1.out.mono ?_
    rintro e w7 ⟨a7, n7, c7, rfl, hown7, hk7, hg7⟩
    simp only at hown7 hk7 ⊢
    have hn7 := OwnB.len hown7
    subst hn7
    have HB7 : Hid (Below W.heap.size W w7) := Lib.hid (HB6.out.grown hg7 HB6.out.size (fun z hz => by injection hz with hz; omega))
    have HY7 := Lib.hid (HY6.out.keep (hg7.block gy HY6.out.lt (fun e => by injection e with e; omega)))
    have HK7 := Lib.hid hk7
    have HO7 := Lib.hid (OwnB.rd hown7)
    have HC7 := Lib.hid (OwnB.capm hown7)
    clear hown7 hk7 hg7 HB6 HY6 HF1
    go_wp2_with fail
    go_loopw [9, 10, 11, 12, 13, 14] (fun va v10 v11 v12 v13 v14 wr => FmR w7 o t va wr) (fun va _ _ _ _ _ _ => o.length + 1 - (intOf va).toNat)
    case atStart => exact ⟨0, l0, rfl, ⟨Nat.zero_le _, HFORM.out⟩, HOK.out, Below.refl _ _⟩
    case round =>
      obtain ⟨at_, l, rfl, hleft, hrok, hbw⟩ := hrel
      have HLEFT := Lib.hid hleft
      have HROK := Lib.hid hrok
      have HBW := Lib.hid hbw
      have hale := hleft.1
      have hsz7 := hbw.size
      have a0 : (0 : Int) ≤ (at_ : Int) := Int.natCast_nonneg at_
      clear hleft hrok hbw
      obtain ⟨ad, had⟩ : ∃ ad, (if c7 = at_ then a7 else Option.map (fun x => x.add at_) a7) = ad := ⟨_, rfl⟩
      have hrd : Rd w7 w7.heap.size ad (bs (o.drop at_)) := by
        have h := (HO7.out).cut (k := at_) (cap := c7) (by rw [bs_length]; exact HC7.out.1)
        rw [had, ← bs_drop] at h
        exact h
      have HRD := Lib.hid hrd
      have hc7 := HC7.out.1
      have hc72 := HC7.out.2
      clear hrd
      obtain ⟨R, hR⟩ : ∃ R, optionReplyL 0 0 [] = R := ⟨_, rfl⟩
      have hRl : R.length = 20 := by rw [← hR]; rfl
      have hR8 : R.take 8 = magicL := by rw [← hR]; rfl
      have HRL := Lib.hid hRl
      have HR8 := Lib.hid hR8
      have CR : Calls Try.prog 17 #[.int .i64 0, .int .i64 0, .slice none 0 0] wr.drew (MsgPost R wr.drew) := by
        rw [← hR]
        exact roptionReply_any 0 0 none 0 0 [] wr.drew rfl (by omega) .nil
      have HCR := Lib.hid CR
      have HC8 : Hid (∀ cr : Nat, 20 ≤ cr → (8 : Int) ≤ (cr : Int)) := Lib.hid (fun cr h => by omega)
      have HM8 : Hid (∀ (wx : World) (Bd : Nat) (ar : Option Addr), Rd wx Bd ar (bs R) → Rd wx Bd ar (bs magicL)) := Lib.hid (fun wx Bd ar h => by have h := h.take 8; rw [← bs_take, hR8] at h; exact h)
      have HA8 : Hid (∀ (wx : World), Below w7.heap.size w7 wx → Rd wx w7.heap.size ad (bs ((o.drop at_).take 8))) := Lib.hid (fun wx h => by have h := (HRD.out.below h).take 8; rw [← bs_take] at h; exact h)
      have hbd : Below w7.heap.size w7 wr.drew := HBW.out.drew
      clear hR hRl hR8 CR
      go_upto_region 9 with (fail)
      go_cut [58] (fun v wn => v = .bool (decide (20 ≤ o.length - at_) && ((o.drop at_).take 8 == magicL)) ∧ Below w7.heap.size w7 wn)
      case first =>
        by_cases h20 : 20 ≤ o.length - at_
        · have h20I : (20 : Int) ≤ (o.length : Int) - (at_ : Int) := by omega
          have hdl : ((o.drop at_).take 8).length = 8 := by rw [List.length_take, List.length_drop]; omega
          have HDL := Lib.hid hdl
          have hS0 : (at_ : Int) + 8 ≤ (c7 : Int) := by omega
          have hS1 : (at_ : Int) ≤ (at_ : Int) + 8 := by omega
          have hS2 : (0 : Int) ≤ (at_ : Int) + 8 := by omega
          have HCS : Hid (∀ (wx : World) (ar : Option Addr) (cr : Nat), Below w7.heap.size w7 wx → Rd wx wx.heap.size ar (bs magicL) → Calls Try.prog 13 #[.slice ad (((at_ : Int) + 8).toNat - at_) (c7 - at_), .slice ar 8 cr] wx fun e w' => e = .returned (.bool ((o.drop at_).take 8 == magicL)) ∧ wx = w') := Lib.hid (fun wx ar cr hSx hr => by
            rw [show ((at_ : Int) + 8).toNat - at_ = 8 by omega]
            exact same_any ad ar 8 8 (c7 - at_) cr ((o.drop at_).take 8) magicL wx HDL.out rfl (HA8.out wx hSx) hr)
          have hW1 : IntKind.i64.wrap ((at_ : Int) + 8) = (at_ : Int) + 8 := IntWalk.i64_in _ (by omega)
          have hW2 : IntKind.i64.wrap ((o.length : Int) - (at_ : Int)) = (o.length : Int) - (at_ : Int) := IntWalk.i64_in _ (by omega)
          clear hdl
          go_region_held3 (fun w' => Below w7.heap.size w7 w')
            (first | assumption | go_keep)
            (first
              | ((with_reducible refine HCR.out.mono ?_); rintro e wx ⟨ar, nr, cr, rfl, hownr, hbr⟩; have hnr : nr = 20 := (OwnB.len hownr).symm.trans HRL.out; subst hnr; have hcr := (OwnB.capm hownr).1; have hcr2 := (OwnB.capm hownr).2; have hcr3 := HC8.out cr hcr; have hSx := hbd.trans (hbr.mono hbd.size); have CS := HCS.out wx ar cr hSx (HM8.out wx _ ar (OwnB.rd hownr)); clear hownr hbr)
              | ((with_reducible refine CS.mono ?_); rintro e wy ⟨rfl, rfl⟩; dsimp only)
              | fail)
          all_goals go_wp2_with fail
          all_goals go_meet
          all_goals exact ⟨by rw [decide_eq_true h20, Bool.true_and], hSx⟩
        · have h20I : ¬ ((20 : Int) ≤ (o.length : Int) - (at_ : Int)) := by omega
          go_quiet (fail)
          all_goals go_wp2_with fail
          all_goals go_meet
          all_goals exact ⟨by rw [decide_eq_false h20, Bool.false_and], below_drewN HBW.out _⟩
      case' rest =>
        obtain ⟨rfl, hbq⟩ := hcut
        rename World => wq
        have HBQ := Lib.hid hbq
        clear hbq HBW HCR hbd HM8 HA8 HC8 hsz7
      cases l with
      | cons q l =>
        obtain ⟨hk, hd⟩ := HROK.out q (by simp)
        obtain ⟨l1, l2, l3, l4, l5⟩ := left_next HLEFT.out hk hd
        have hv : (decide (20 ≤ o.length - at_) && ((o.drop at_).take 8 == magicL)) = true := by
          rw [l2, decide_eq_true (by omega)]
          rfl
        rw [hv]
        obtain ⟨d, hdd⟩ : ∃ d, q.2.2.length = d := ⟨_, rfl⟩
        obtain ⟨kk, hkk⟩ : ∃ kk, q.2.1 = kk := ⟨_, rfl⟩
        rw [hdd] at l1 l4 l5 hd
        rw [hkk] at l3 hk
        have HL5 := Lib.hid l5
        have HL4 := Lib.hid l4
        have HL3 := Lib.hid l3
        have HK := Lib.hid hk
        clear l2 l3 l4 l5 hk hv hdd hkk
        have HT : Hid (∀ k, k + 4 ≤ 20 → ((o.drop (at_ + k)).take 4).length = 4) := Lib.hid (fun k h => by rw [List.length_take, List.length_drop]; omega)
        have HG : Hid (∀ (k v : Nat) (ba : Option Addr) (cap : Nat), k + 4 ≤ 20 → numOf ((o.drop (at_ + k)).take 4) = v → Rd wq w7.heap.size ba (bs ((o.drop (at_ + k)).take 4)) → Calls Try.prog 37 #[.slice ba 4 cap] wq fun e w' => e = .returned (.tuple #[.int .u64 (v : Int), .int .i64 0]) ∧ wq = w') := Lib.hid (fun k v ba cap hk hv hr => by
          have h4 := HT.out k hk
          have h := rget_any ba 4 cap _ wq h4 hr
          have e1 : getV ((o.drop (at_ + k)).take 4) = v := by unfold getV; rw [if_neg (by omega), hv]
          have e2 : getE ((o.drop (at_ + k)).take 4) = 0 := by unfold getE; rw [if_neg (by omega)]
          rw [e1, e2] at h
          exact h)
        have HRQ : Hid (∀ k, Rd wq w7.heap.size (Option.map (fun x => x.add (at_ + k)) a7) (bs ((o.drop (at_ + k)).take 4))) := Lib.hid (fun k => by
          have h := (((HO7.out.below HBQ.out)).drop (at_ + k)).take 4
          rw [← bs_drop, ← bs_take] at h
          exact h)
        have hd2 : ¬ ((o.length : Int) - (at_ : Int) - 20 < (d : Int)) := by omega
        have hd0 : (0 : Int) ≤ (d : Int) := Int.natCast_nonneg d
        go_wp2_with fail
        refine (HG.out 12 kk _ _ (by omega) HL3.out ?_).mono ?_
        · have h := HRQ.out 12
          simpa [Addr.add] using h
        rintro e wz ⟨rfl, rfl⟩
        go_wp2_with fail
        refine (HG.out 16 d _ _ (by omega) HL4.out ?_).mono ?_
        · have h := HRQ.out 16
          simpa [Addr.add] using h
        rintro e wz ⟨rfl, rfl⟩
        go_upto_region 12 with (fail)
        go_cut [14] (fun v wn => v = .bool true ∧ wn = wq)
        case first =>
          rcases HK.out with rfl | rfl | rfl | rfl | rfl | rfl
          all_goals go_wp2_with fail
          all_goals go_meet
          all_goals exact ⟨rfl, rfl⟩
        case' rest =>
          obtain ⟨rfl, hw⟩ := hcut
          subst hw
          rename World => wq
        have HFIN : Hid (FmR w7 o t (.int .i64 ((at_ : Int) + 20 + (d : Int))) wq) := Lib.hid ⟨at_ + 20 + d, l, by go_num, HL5.out, fun x hx => HROK.out x (by simp [hx]), HBQ.out⟩
        have hmeas : o.length + 1 - (at_ + 20 + d) < o.length + 1 - at_ := by omega
        go_wp2_with fail
        exact ⟨HFIN.out, by simp only [intOf]; omega⟩
      | nil =>
        have hdt : o.drop at_ = t := by have h := HLEFT.out.2; simpa [rowL] using h
        have htl : o.length - at_ = t.length := by rw [← hdt, List.length_drop]
        have hv : (decide (20 ≤ o.length - at_) && ((o.drop at_).take 8 == magicL)) = false := by
          rw [hdt]
          rcases HTF.out with rfl | ⟨_, _, h, _, _⟩
          · simp [magicL]
          · have h : (t.take 8 == magicL) = false := h
            rw [h, Bool.and_false]
        rw [hv]
        have hrt := HRD.out
        rw [hdt] at hrt
        have HRT := Lib.hid (hrt.below HBQ.out)
        have HYQ := Lib.hid (Blk.below HY7.out HBQ.out)
        have HKQ : Hid (SkAt wq gh s) := Lib.hid (Blk.below HK7.out HBQ.out)
        have HBE := Lib.hid (HB7.out.trans (HBQ.out.mono HB7.out.size))
        have HTL := Lib.hid htl
        have htf := HTF.out
        clear hdt hv hrt HRD HTF HLEFT HROK htl
        rcases htf with ht | ⟨hp, h8, _, hnum, hl⟩
        · have hz : o.length - at_ = 0 := by rw [HTL.out, ht]; rfl
          have hoa : o.length = at_ := by omega
          have hzI : ((o.length - at_ : Nat) : Int) = 0 := by omega
          go_wp2_with fail
          go_ret
          exact ⟨rfl, HBE.out⟩
        · have ht8 := HTL.out
          have hzI : ¬ ((o.length - at_ : Nat) : Int) = 0 := by omega
          have HNUM := Lib.hid hnum
          have HL := Lib.hid hl
          have HP := Lib.hid hp
          clear hnum hl hp
          have hcT : t.length ≤ c7 - at_ := by omega
          go_upto_region 19 with (fail)
          obtain ⟨cl, hcl⟩ : ∃ cl, c7 - at_ = cl := ⟨_, rfl⟩
          rw [hcl]
          rw [hcl] at hcT
          have HG8 : Hid (Calls Try.prog 37 #[.slice ad 8 cl] wq fun e w' => e = .returned (.tuple #[.int .u64 ((S * 64 : Nat) : Int), .int .i64 0]) ∧ wq = w') := Lib.hid (by
            have h4 : (t.take 8).length = 8 := by rw [List.length_take]; omega
            have hr := HRT.out.take 8
            rw [← bs_take] at hr
            have h := rget_any ad 8 cl _ wq h4 hr
            have e1 : getV (t.take 8) = ((S * 64 : Nat) : Int) := by unfold getV; rw [if_neg (by omega), HNUM.out]
            have e2 : getE (t.take 8) = 0 := by unfold getE; rw [if_neg (by omega)]
            rw [e1, e2] at h
            exact h)
          have hSI : (0 : Int) ≤ (S : Int) := Int.natCast_nonneg S
          clear hcl HTL ht8 hzI h8
          rcases HL.out with hT | ⟨hT, hz⟩
          · simp only [hT] at hcT ⊢
            go_wp2_with fail
            refine HG8.out.mono ?_
            rintro e wz ⟨rfl, rfl⟩
            go_upto_region 20 with (fail)
            go_cut [18] (fun v wn => v = .bool true ∧ Below w7.heap.size w7 wn)
            case first =>
              go_quiet (fail)
              all_goals go_wp2_with fail
              all_goals go_meet
              all_goals exact ⟨rfl, below_drewN HBQ.out _⟩
            case rest =>
              obtain ⟨rfl, hbz⟩ := hcut
              rename World => wz
              have HBZ := Lib.hid (HB7.out.trans (hbz.mono HB7.out.size))
              have y1 := (Blk.below HY7.out hbz).cell 1 _ rfl
              have HPH := phase_any gh s wz (Blk.below HK7.out hbz)
              rw [HP.out] at HPH
              have HPH := Lib.hid HPH
              clear hbz HG8 HBQ HBE HYQ HKQ HO7
              go_wp2_with fail
              refine HPH.out.mono ?_
              rintro e wy ⟨rfl, rfl⟩
              go_wp2_with fail
              go_ret
              exact ⟨rfl, HBZ.out⟩
          · simp only [hT] at hcT ⊢
            go_wp2_with fail
            refine HG8.out.mono ?_
            rintro e wz ⟨rfl, rfl⟩
            go_upto_region 20 with (fail)
            go_cut [18] (fun v wn => v = .bool true ∧ Below w7.heap.size w7 wn)
            case first =>
              obtain ⟨i0, hi, hz0, hz1, hz2⟩ := info_parts info_u8
              obtain ⟨wm, hrunm, hownm, hgrm⟩ := run_make_full (P := Try.prog) wq.drew wq.drew.heap.size 23 5 i0 (.int .u8 0) 1 Try.underlying23 hi hz0 hz1 .i64 .i64 124 (by rw [hz2]; omega) (by unfold maxLen; omega) (Nat.le_refl _)
              have hrunm : (Instr.makeSlice 23 (.int .i64 124) (.int .i64 124)).run Try.prog wq.drew = .ok (.slice (some ⟨wq.drew.heap.size, 0, none⟩) 124 124) wm := hrunm
              rw [Nat.mul_one] at hownm
              have hown2 : OwnB wm wq.drew.heap.size (.slice (some ⟨wq.drew.heap.size, 0, none⟩) 124 124) (zeros 124) := OwnB.of (own_zero hownm)
              have hbm : Below w7.heap.size w7 wm := (HBQ.out.drew).grown hgrm HBQ.out.drew.size (fun z hz => by cases hz)
              have HZR := Lib.hid (OwnB.rd hown2)
              have hbq0 : Below w7.heap.size w7 wq := HBQ.out
              have hbq1 : Below w7.heap.size w7 wq.drew := HBQ.out.drew
              have hqm : Below w7.heap.size wq wm := ((Below.refl w7.heap.size wq).drew).grown hgrm HBQ.out.drew.size (fun z hz => by cases hz)
              have hrd10 : Rd wm w7.heap.size (if cl = 10 then ad else Option.map (fun x => ({ block := x.block, off := x.off + 10 } : Addr)) ad) (bs (zeros 124)) := by
                have h := (HRT.out.below hqm).cut (k := 10) (cap := cl) (by rw [bs_length, hT]; exact hcT)
                rw [← bs_drop, hz] at h
                simpa [Addr.add] using h
              have hcz := same_any _ _ 124 124 (cl - 10) 124 (zeros 124) (zeros 124) wm rfl rfl hrd10 HZR.out
              rw [beq_self_eq_true] at hcz
              have hcz : Calls Try.prog 13 #[.slice (if cl = 10 then ad else Option.map (fun x => ({ block := x.block, off := x.off + 10 } : Addr)) ad) 124 (cl - 10), .slice (some ⟨wq.heap.size, 0, none⟩) 124 124] wm (fun e w' => e = .returned (.bool true) ∧ wm = w') := hcz
              have HCZ := Lib.hid hcz
              clear hownm hown2 hgrm hi hz0 hz1 hz2 hqm hrd10 hcz
              go_region_held3 (fun w' => Below w7.heap.size w7 w')
                (first | assumption | go_keep)
                (first
                  | ((with_reducible refine HCZ.out.mono ?_); rintro e wy ⟨rfl, rfl⟩; dsimp only)
                  | fail)
              all_goals go_wp2_with fail
              all_goals go_meet
              all_goals exact ⟨rfl, hbm⟩
            case rest =>
              obtain ⟨rfl, hbz⟩ := hcut
              rename World => wz
              have HBZ := Lib.hid (HB7.out.trans (hbz.mono HB7.out.size))
              have y1 := (Blk.below HY7.out hbz).cell 1 _ rfl
              have HPH := phase_any gh s wz (Blk.below HK7.out hbz)
              rw [HP.out] at HPH
              have HPH := Lib.hid HPH
              clear hbz HG8 HBQ HBE HYQ HKQ HO7
              go_wp2_with fail
              refine HPH.out.mono ?_
              rintro e wy ⟨rfl, rfl⟩
              go_wp2_with fail
              go_ret
              exact ⟨rfl, HBZ.out⟩
end Go.Proofs.Ytnpcpbjoonjaoaa
