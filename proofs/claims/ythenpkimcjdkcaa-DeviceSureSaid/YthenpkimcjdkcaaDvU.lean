/- the law: what somebody else writes is safe -/
import Derived.Test.YthenpkimcjdkcaaDvQ
namespace Go.Proofs.Ythenpkimcjdkcaa
set_option linter.unusedVariables false
set_option linter.unusedSimpArgs false
open Go.RowKit

theorem writeR_log (D : Dv) (i : Int) (b : List UInt8) (k : Int) : (writeR D i b k).2.1.log = D.log ∨ ∃ y : Wr, (writeR D i b k).2.1.log = D.log ++ [y] ∧ y.i = i := by
  rw [writeR]
  split
  · exact .inl rfl
  · split
    · exact .inl rfl
    · exact .inr ⟨_, rfl, rfl⟩
def SurR (W : World) (g n : Nat) (l1 : List Wr) (x : Wr) (vi : Value) (wr : World) : Prop :=
  ∃ (i : Nat) (L : Lay) (I : Nat → Prop) (D : Dv) (k : Int) (l2 : List Wr), i ≤ n ∧ i ≤ 60 ∧ vi = .int .i64 (i : Int) ∧ L.g = g ∧ DevIn W wr L I D k ∧ Inv 6 D k (61 + i) ∧ D.log = l1 ++ x :: l2 ∧ ∀ y ∈ l2, y.i ≠ x.i
set_option maxRecDepth 20000 in
set_option maxHeartbeats 4000000 in
theorem law_DeviceSure (a : Option Addr) (n c : Nat) (ls : DOpTy.den) (ab : Option Addr) (nb cb : Nat) (b : List UInt8) (ak : Option Addr) (nk ck : Nat) (ks : BoolsTy.den) (W : World) (hl : DOpTy.reads W (Value.slice a n c).cells.toList ls) (hb : BytesIn W ab nb cb b) (hk : BoolsTy.reads W (Value.slice ak nk ck).cells.toList ks) :
    Calls Try.prog 4 #[.slice a n c, .slice ab nb cb, .slice ak nk ck] W fun e w' => e = .returned (.bool true) ∧ Below W.heap.size W w' := by
  have HL := Lib.hid (dsl_arg hl)
  have HN63 := Lib.hid (dsl_len (dsl_arg hl))
  have HK63 := Lib.hid (dsl_len (dsl_arg hk))
  obtain ⟨kl, hkl, hkr⟩ := bools_in (dsl_arg hk)
  have HKL := Lib.hid hkl
  have HKR := Lib.hid hkr
  have HBI := Lib.hid hb
  obtain ⟨m, hm⟩ : ∃ m, min nb 64 = m := ⟨_, rfl⟩
  obtain ⟨own, hown⟩ : ∃ own, b.take m = own := ⟨_, rfl⟩
  have hol : own.length = m := by rw [← hown, List.length_take, hb.len_eq]; omega
  have hor : Rd W W.heap.size ab (bs own) := by rw [← hown, bs_take]; exact hb.rd.take m
  have HOL := Lib.hid hol
  have HOR := Lib.hid hor
  have hmI : (if (64 : Int) < (nb : Int) then (64 : Int) else (nb : Int)) = (m : Int) := by split <;> omega
  have m0 : (0 : Int) ≤ (m : Int) := Int.natCast_nonneg m
  have m1 : (m : Int) ≤ (nb : Int) := by omega
  have m2 : (m : Int) ≤ (cb : Int) := by have := hb.le_cap; omega
  have m3 : m ≤ 64 := by omega
  have HM := Lib.hid m3
  clear hl hb hk hkl hkr hol hor hown hm m3
  go_enter Try.func4, Try.ntmps4
  go_wp2_with fail
  refine (newDev_any 6 (by omega) (by omega) W).mono ?_
  rintro e w1 ⟨L, rfl, h1, hk1, hb1, hm1, hc1⟩
  have hd1 := DevIn.new (Below.refl _ _) h1 hk1 hb1 hm1 hc1
  obtain ⟨g, hg⟩ : ∃ g, L.g = g := ⟨_, rfl⟩
  rw [hg]
  have HD1 := Lib.hid hd1
  have HG := Lib.hid hg
  clear h1 hk1 hb1 hm1 hc1 hd1 hg
  go_wp2_with fail
  refine (dalive_any _).mono ?_
  rintro e w2 ⟨rfl, hb2⟩
  have HD2 := Lib.hid (HD1.out.below hb2)
  clear hb2 HD1
  go_upto_block 0 with (fail)
  go_cut [9] (fun vi wn => ScrR 6 60 W g n vi wn)
  case first =>
    go_wp2_with fail
    go_loopw [9] (fun vi wr => ScrR 6 60 W g n vi wr) (fun vi _ => 60 - (intOf vi).toNat)
    case atStart => exact ⟨0, L, _, _, 0, Nat.zero_le _, Nat.zero_le _, rfl, HG.out, HD2.out, Inv.new 6⟩
    case round =>
      clear HD2
      obtain ⟨i, Li, Ii, Di, ki, hi, hiM, rfl, hgi, hdi, hv⟩ := hrel
      have HGI := Lib.hid hgi
      have HDI := Lib.hid hdi
      have HV := Lib.hid hv
      have i0 : (0 : Int) ≤ (i : Int) := Int.natCast_nonneg i
      clear hgi hdi hv
      by_cases hgo : i < n
      · have hgoI : (i : Int) < (n : Int) := by omega
        by_cases hgo2 : i < 60
        · have hgoI2 : (i : Int) < 60 := by omega
          obtain ⟨bo, oo, kd, ii, abx, nbx, cbx, blx, rfl, hbo, hc0, hc1, hc2, hD, hi1, hi2⟩ := dops_at HL.out i hgo
          have q0 := (HDI.out.bel.cell (p := ⟨bo, oo + i * 4, none⟩) hbo).trans hc0
          have q1 := (HDI.out.bel.cell (p := ⟨bo, oo + i * 4 + 1, none⟩) hbo).trans hc1
          have q2 := (HDI.out.bel.cell (p := ⟨bo, oo + i * 4 + 2, none⟩) hbo).trans hc2
          have kb := HV.out.k0
          have kb1 := HV.out.k1
          have lb := HV.out.log
          have lb1 := HV.out.syncs
          by_cases hkd : kd = 2
          · have hkB : (kd == 2) = true := beq_iff_eq.2 hkd
            have HS := sync_any HDI.out.dev HDI.out.clk (by omega)
            rw [HGI.out] at HS
            have HS := Lib.hid HS
            clear hc0 hc1 hc2 hbo hD hi1 hi2 kb kb1 lb lb1 hkd
            go_wp2_with fail
            refine HS.out.mono ?_
            rintro e w5 ⟨rfl, L5, I5, h5, hk5, hg5⟩
            have hfin : ScrR 6 60 W g n (.int .i64 ((i : Int) + 1)) w5 := ⟨i + 1, L5, I5, _, ki, hgo, hgo2, by go_num, hg5.g.trans HGI.out, HDI.out.step h5 hk5 hg5, HV.out.sync (by omega) ki⟩
            have HFIN := Lib.hid hfin
            clear h5 hk5 hg5 hfin HS
            go_wp2_with fail
            all_goals go_roundw
            all_goals first
              | (case measure => simp [intOf]; omega)
              | exact HFIN.out
          · have hkB : (kd == 2) = false := beq_eq_false_iff_ne.2 hkd
            have HW := write_any HDI.out.dev.drew HDI.out.clk kb (by omega) (by omega) ii hi1 hi2 abx nbx cbx blx hD.len_eq (hD.rd.below HDI.out.bel |>.more HDI.out.bel.size) (Apt.of hD.rd HDI.out.c)
            rw [HGI.out] at HW
            have HW := Lib.hid HW
            clear hc0 hc1 hc2 hbo hD hi1 hi2 kb kb1 lb lb1 hkd
            go_upto_region 9 with (fail)
            go_still_tail 11, (by kernel_rfl)
            change wpList _ _ _ _ _ wr.drew
            go_wp2_with fail
            refine HW.out.mono ?_
            rintro e w5 ⟨rfl, L5, I5, h5, hk5, hg5⟩
            have hfin : ScrR 6 60 W g n (.int .i64 ((i : Int) + 1)) w5 := ⟨i + 1, L5, I5, _, _, hgo, hgo2, by go_num, hg5.g.trans HGI.out, (HDI.out.below (Below.refl _ _).drew).step h5 hk5 hg5, HV.out.write ii blx⟩
            have HFIN := Lib.hid hfin
            clear h5 hk5 hg5 hfin HW
            go_wp2_with fail
            all_goals go_roundw
            all_goals first
              | (case measure => simp [intOf]; omega)
              | exact HFIN.out
        · have hgoI2 : ¬ ((i : Int) < 60) := by omega
          have hfin : ScrR 6 60 W g n (.int .i64 (i : Int)) wr := ⟨i, Li, Ii, Di, ki, hi, hiM, rfl, HGI.out, HDI.out, HV.out⟩
          have HFIN := Lib.hid hfin
          clear hfin
          go_wp2_with fail
          go_meet
          exact HFIN.out
      · have hgoI : ¬ ((i : Int) < (n : Int)) := by omega
        have hfin : ScrR 6 60 W g n (.int .i64 (i : Int)) wr := ⟨i, Li, Ii, Di, ki, hi, hiM, rfl, HGI.out, HDI.out, HV.out⟩
        have HFIN := Lib.hid hfin
        clear hfin
        go_wp2_with fail
        go_meet
        exact HFIN.out
  case rest =>
    obtain ⟨i, L3, I3, D, k, hi, hiM, rfl, hg3, hd3, hv⟩ := hcut
    rename World => w3
    have e1 : tamperR D 3 own k = (D.put 3 own true (k + 1), k + 1) := by
      rw [tamperR, if_pos ⟨by rw [hv.fault, if_neg (by omega)], by rw [HOL.out]; exact HM.out⟩]
    have W1 := tamper_any hd3.dev hd3.clk hv.k0 (by have := hv.k1; omega) (by have := hv.log; omega) 3 (by omega) (by omega) ab m cb own HOL.out (HOR.out.below hd3.bel |>.more hd3.bel.size) (Apt.of HOR.out hd3.c)
    rw [e1, hg3] at W1
    have HW1 := Lib.hid W1
    have hv2 := (hv.put 3 (by omega) (by omega) own (by rw [HOL.out]; exact HM.out) true).more (show i + 1 ≤ 61 by omega)
    have HG3 := Lib.hid hg3
    have HD3 := Lib.hid hd3
    have HV2 := Lib.hid hv2
    clear hg3 hd3 hv e1 W1 hv2 HD2
    go_wp2_with fail
    refine HW1.out.mono ?_
    rintro e w4 ⟨rfl, L4, I4, h4, hk4, hg4⟩
    have hd4 := HD3.out.step h4 hk4 hg4
    have hgg : L4.g = g := hg4.g.trans HG3.out
    have HD4 := Lib.hid hd4
    have HG4 := Lib.hid hgg
    clear h4 hk4 hg4 hd4 hgg HW1 HD3
    obtain ⟨l1, hl1⟩ : ∃ l1, D.log = l1 := ⟨_, rfl⟩
    have HL1 := Lib.hid hl1
    clear hl1
    go_upto_block 2 with (fail)
    go_cut [11] (fun vi wn => SurR W g n l1 ⟨3, own, true, k + 1⟩ vi wn)
    case first =>
      go_wp2_with fail
      go_loopw [11] (fun vi wr => SurR W g n l1 ⟨3, own, true, k + 1⟩ vi wr) (fun vi _ => 60 - (intOf vi).toNat)
      case atStart => exact ⟨0, L4, I4, _, _, [], Nat.zero_le _, Nat.zero_le _, rfl, HG4.out, HD4.out, HV2.out, by simp [Dv.put, HL1.out], by simp⟩
      case round =>
        clear HD4 HV2
        obtain ⟨i2, Li, Ii, Di, ki, l2, hi2, hiM2, rfl, hgi, hdi, hv, hlog, hne⟩ := hrel
        have HGI := Lib.hid hgi
        have HDI := Lib.hid hdi
        have HV := Lib.hid hv
        have HLOG := Lib.hid hlog
        have HNE := Lib.hid hne
        have i0 : (0 : Int) ≤ (i2 : Int) := Int.natCast_nonneg i2
        clear hgi hdi hv hlog hne
        by_cases hgo : i2 < n
        · have hgoI : (i2 : Int) < (n : Int) := by omega
          by_cases hgo2 : i2 < 60
          · have hgoI2 : (i2 : Int) < 60 := by omega
            obtain ⟨bo, oo, kd, ii, abx, nbx, cbx, blx, rfl, hbo, hc0, hc1, hc2, hD, hi1, hi2x⟩ := dops_at HL.out i2 hgo
            have q1 := (HDI.out.bel.cell (p := ⟨bo, oo + i2 * 4 + 1, none⟩) hbo).trans hc1
            have q2 := (HDI.out.bel.cell (p := ⟨bo, oo + i2 * 4 + 2, none⟩) hbo).trans hc2
            have kb := HV.out.k0
            have kb1 := HV.out.k1
            have lb := HV.out.log
            by_cases hkd : ii = 3
            · have hkB : (ii == 3) = true := beq_iff_eq.2 hkd
              have hkB2 : (ii != 3) = false := by simp [hkd]
              have hfin : SurR W g n l1 ⟨3, own, true, k + 1⟩ (.int .i64 ((i2 : Int) + 1)) wr := ⟨i2 + 1, Li, Ii, Di, ki, l2, hgo, hgo2, by go_num, HGI.out, HDI.out, HV.out.more (by omega), HLOG.out, HNE.out⟩
              have HFIN := Lib.hid hfin
              clear hc0 hc1 hc2 hbo hD hi1 hi2x kb kb1 lb hkd hfin
              go_wp2_with fail
              all_goals go_roundw
              all_goals first
                | (case measure => simp [intOf]; omega)
                | exact HFIN.out
            · have hkB : (ii == 3) = false := beq_eq_false_iff_ne.2 hkd
              have hkB2 : (ii != 3) = true := by simp [hkd]
              have HW := write_any HDI.out.dev.drew HDI.out.clk kb (by omega) (by omega) ii hi1 hi2x abx nbx cbx blx hD.len_eq (hD.rd.below HDI.out.bel |>.more HDI.out.bel.size) (Apt.of hD.rd HDI.out.c)
              rw [HGI.out] at HW
              have HKD := Lib.hid hkd
              have HW' := Lib.hid HW
              clear hc0 hc1 hc2 hbo hD hi1 hi2x kb kb1 lb hkd HW
              go_upto_region 16 with (fail)
              go_still_tail 11, (by kernel_rfl)
              change wpList _ _ _ _ _ wr.drew
              go_wp2_with fail
              refine HW'.out.mono ?_
              rintro e w5 ⟨rfl, L5, I5, h5, hk5, hg5⟩
              have hlg : ∃ l2', (writeR Di ii blx ki).2.1.log = l1 ++ (⟨3, own, true, k + 1⟩ : Wr) :: l2' ∧ ∀ y ∈ l2', y.i ≠ 3 := by
                rcases writeR_log Di ii blx ki with h | ⟨y, h, hy⟩
                · exact ⟨l2, h.trans HLOG.out, HNE.out⟩
                · refine ⟨l2 ++ [y], by rw [h, HLOG.out]; simp, fun q hq => ?_⟩
                  simp only [List.mem_append, List.mem_singleton] at hq
                  rcases hq with hq | rfl
                  · exact HNE.out q hq
                  · rw [hy]; exact HKD.out
              obtain ⟨l2', hlg1, hlg2⟩ := hlg
              have hfin : SurR W g n l1 ⟨3, own, true, k + 1⟩ (.int .i64 ((i2 : Int) + 1)) w5 := ⟨i2 + 1, L5, I5, _, _, l2', hgo, hgo2, by go_num, hg5.g.trans HGI.out, (HDI.out.below (Below.refl _ _).drew).step h5 hk5 hg5, (HV.out.write ii blx).more (by omega), hlg1, hlg2⟩
              have HFIN := Lib.hid hfin
              clear h5 hk5 hg5 hfin HW' hlg1 hlg2
              go_wp2_with fail
              all_goals go_roundw
              all_goals first
                | (case measure => simp [intOf]; omega)
                | exact HFIN.out
          · have hgoI2 : ¬ ((i2 : Int) < 60) := by omega
            have hfin : SurR W g n l1 ⟨3, own, true, k + 1⟩ (.int .i64 (i2 : Int)) wr := ⟨i2, Li, Ii, Di, ki, l2, hi2, hiM2, rfl, HGI.out, HDI.out, HV.out, HLOG.out, HNE.out⟩
            have HFIN := Lib.hid hfin
            clear hfin
            go_wp2_with fail
            go_meet
            exact HFIN.out
        · have hgoI : ¬ ((i2 : Int) < (n : Int)) := by omega
          have hfin : SurR W g n l1 ⟨3, own, true, k + 1⟩ (.int .i64 (i2 : Int)) wr := ⟨i2, Li, Ii, Di, ki, l2, hi2, hiM2, rfl, HGI.out, HDI.out, HV.out, HLOG.out, HNE.out⟩
          have HFIN := Lib.hid hfin
          clear hfin
          go_wp2_with fail
          go_meet
          exact HFIN.out
    case rest =>
      obtain ⟨i2, L5, I5, D5, k5, l2, hi2, hiM2, rfl, hg5, hd5, hv5, hlog, hne⟩ := hcut
      rename World => w5
      have hs := hv5.sound (by omega) (by omega) (by omega)
      have W2 := cut_any hd5.dev hs ak nk ck kl HKL.out HK63.out.1 HK63.out.2 (HKR.out.below hd5.bel |>.more hd5.bel.size)
      rw [hg5] at W2
      have e2 : readR (D5.cut kl) 3 = (full own, 0) := by
        have hf : faultN (D5.cut kl) 3 = 0 := by
          have h1 : (D5.cut kl).dead = false := hv5.dead
          have h2 : (D5.cut kl).n = 6 := hv5.nn
          rw [faultN, h1, h2, if_neg (by simp), if_neg (by omega)]
        have hb : (D5.cut kl).bad 3 = false := hv5.bad 3
        have hnw : (D5.cut kl).now 3 = full own := by
          show leftF (safeN D5) (D5.log.take D5.log.length) 0 kl D5.first 3 = _
          rw [List.take_of_length_le (Nat.le_refl _), hlog]
          exact leftF_sure (safeN D5) ⟨3, own, true, k + 1⟩ rfl l2 hne l1 0 kl D5.first
        rw [readR, hf, if_neg (by simp), hb, hnw]
        rfl
      have HW2 := Lib.hid W2
      have HE2 := Lib.hid e2
      have HD5 := Lib.hid hd5
      clear hs W2 e2 hlog hne hv5 hd5 hg5 HD4 HV2
      go_wp2_with fail
      refine HW2.out.mono ?_
      rintro e w6 ⟨Lc, Ic, rfl, h6, hk6, hf6⟩
      have hc6 := HD5.out.fresh h6 hk6 hf6
      have W3 := read_any hc6.dev 3 (by omega) (by omega)
      rw [HE2.out] at W3
      have HW3 := Lib.hid W3
      have HC6 := Lib.hid hc6
      clear h6 hk6 hf6 hc6 W3 HW2 HD5
      go_wp2_with fail
      refine HW3.out.mono ?_
      rintro e w7 ⟨a7, c7, rfl, hown7, hb7⟩
      have hlf : (full own).length = 64 := full_length own (by rw [HOL.out]; exact HM.out)
      simp only [hlf] at hown7 ⊢
      have hc7 := HC6.out.below hb7
      have W4 := full_any ab m cb own w7 HOL.out HM.out (HOR.out.below hc7.bel |>.more hc7.bel.size)
      have HW4 := Lib.hid W4
      have HC7 := Lib.hid hc7
      have HO7 : Hid (OwnB w7 w6.heap.size (.slice a7 64 c7) (full own)) := Lib.hid hown7
      have HLF := Lib.hid hlf
      clear hown7 hb7 hc7 W4 HW3 HC6 hlf
      go_wp2_with fail
      refine HW4.out.mono ?_
      rintro e w8 ⟨a8, c8, rfl, hown8, hb8⟩
      have W5 := same_any a7 a8 64 64 c7 c8 (full own) (full own) w8 HLF.out HLF.out (OwnB.rd (OwnB.below HO7.out hb8)) (OwnB.rd hown8)
      rw [beq_self_eq_true] at W5
      have HW5 := Lib.hid W5
      have HC8 := Lib.hid (HC7.out.below hb8)
      clear hown8 hb8 W5 HW4 HC7 HO7
      go_wp2_with fail
      refine HW5.out.mono ?_
      rintro e wq ⟨rfl, rfl⟩
      go_wp2_with fail
      go_ret
      exact ⟨rfl, HC8.out.bel⟩
end Go.Proofs.Ythenpkimcjdkcaa
