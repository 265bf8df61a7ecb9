/- the law: dead is dead -/
import Derived.Test.YthenpkimcjdkcaaDvQ
namespace Go.Proofs.Ythenpkimcjdkcaa
set_option linter.unusedVariables false
set_option linter.unusedSimpArgs false
open Go.RowKit

set_option maxRecDepth 20000 in
set_option maxHeartbeats 4000000 in
theorem law_DeviceEnds (a : Option Addr) (n c : Nat) (ls : DOpTy.den) (z : Int) (ab : Option Addr) (nb cb : Nat) (b : List UInt8) (W : World) (hl : DOpTy.reads W (Value.slice a n c).cells.toList ls) (hz : (Lit.int .i64 z).wf = true) (hb : BytesIn W ab nb cb b) :
    Calls Try.prog 7 #[.slice a n c, .int .i64 z, .slice ab nb cb] W fun e w' => e = .returned (.bool true) ∧ Below W.heap.size W w' := by
  have HL := Lib.hid (dsl_arg hl)
  have HN63 := Lib.hid (dsl_len (dsl_arg hl))
  have HBI := Lib.hid hb
  have HZ := Lib.hid (wf64 hz)
  clear hl hb hz
  go_enter Try.func7, Try.ntmps7
  go_wp2_with fail
  refine (newDev_any 6 (by omega) (by omega) W).mono ?_
  rintro e w1 ⟨L, rfl, h1, hk1, hb1, hm1, hc1⟩
  have hd1 := DevIn.new (Below.refl _ _) h1 hk1 hb1 hm1 hc1
  obtain ⟨g, hg⟩ : ∃ g, L.g = g := ⟨_, rfl⟩
  rw [hg]
  have HD1 := Lib.hid hd1
  have HG := Lib.hid hg
  clear h1 hk1 hb1 hm1 hc1 hd1 hg
  go_wp2_with fail
  refine (dalive_any _).mono ?_
  rintro e w2 ⟨rfl, hb2⟩
  have HD2 := Lib.hid (HD1.out.below hb2)
  clear hb2 HD1
  go_upto_block 0 with (fail)
  go_cut [9] (fun vi wn => ScrR 6 60 W g n vi wn)
  case first =>
    go_wp2_with fail
    go_loopw [9] (fun vi wr => ScrR 6 60 W g n vi wr) (fun vi _ => 60 - (intOf vi).toNat)
    case atStart => exact ⟨0, L, _, _, 0, Nat.zero_le _, Nat.zero_le _, rfl, HG.out, HD2.out, Inv.new 6⟩
    case round =>
      clear HD2
      obtain ⟨i, Li, Ii, Di, ki, hi, hiM, rfl, hgi, hdi, hv⟩ := hrel
      have HGI := Lib.hid hgi
      have HDI := Lib.hid hdi
      have HV := Lib.hid hv
      have i0 : (0 : Int) ≤ (i : Int) := Int.natCast_nonneg i
      clear hgi hdi hv
      by_cases hgo : i < n
      · have hgoI : (i : Int) < (n : Int) := by omega
        by_cases hgo2 : i < 60
        · have hgoI2 : (i : Int) < 60 := by omega
          obtain ⟨bo, oo, kd, ii, abx, nbx, cbx, blx, rfl, hbo, hc0, hc1, hc2, hD, hi1, hi2⟩ := dops_at HL.out i hgo
          have q0 := (HDI.out.bel.cell (p := ⟨bo, oo + i * 4, none⟩) hbo).trans hc0
          have q1 := (HDI.out.bel.cell (p := ⟨bo, oo + i * 4 + 1, none⟩) hbo).trans hc1
          have q2 := (HDI.out.bel.cell (p := ⟨bo, oo + i * 4 + 2, none⟩) hbo).trans hc2
          have kb := HV.out.k0
          have kb1 := HV.out.k1
          have lb := HV.out.log
          have lb1 := HV.out.syncs
          by_cases hkd : kd = 2
          · have hkB : (kd == 2) = true := beq_iff_eq.2 hkd
            have HS := sync_any HDI.out.dev HDI.out.clk (by omega)
            rw [HGI.out] at HS
            have HS := Lib.hid HS
            clear hc0 hc1 hc2 hbo hD hi1 hi2 kb kb1 lb lb1 hkd
            go_wp2_with fail
            refine HS.out.mono ?_
            rintro e w5 ⟨rfl, L5, I5, h5, hk5, hg5⟩
            have hfin : ScrR 6 60 W g n (.int .i64 ((i : Int) + 1)) w5 := ⟨i + 1, L5, I5, _, ki, hgo, hgo2, by go_num, hg5.g.trans HGI.out, HDI.out.step h5 hk5 hg5, HV.out.sync (by omega) ki⟩
            have HFIN := Lib.hid hfin
            clear h5 hk5 hg5 hfin HS
            go_wp2_with fail
            all_goals go_roundw
            all_goals first
              | (case measure => simp [intOf]; omega)
              | exact HFIN.out
          · have hkB : (kd == 2) = false := beq_eq_false_iff_ne.2 hkd
            have HW := write_any HDI.out.dev.drew HDI.out.clk kb (by omega) (by omega) ii hi1 hi2 abx nbx cbx blx hD.len_eq (hD.rd.below HDI.out.bel |>.more HDI.out.bel.size) (Apt.of hD.rd HDI.out.c)
            rw [HGI.out] at HW
            have HW := Lib.hid HW
            clear hc0 hc1 hc2 hbo hD hi1 hi2 kb kb1 lb lb1 hkd
            go_upto_region 9 with (fail)
            go_still_tail 11, (by kernel_rfl)
            change wpList _ _ _ _ _ wr.drew
            go_wp2_with fail
            refine HW.out.mono ?_
            rintro e w5 ⟨rfl, L5, I5, h5, hk5, hg5⟩
            have hfin : ScrR 6 60 W g n (.int .i64 ((i : Int) + 1)) w5 := ⟨i + 1, L5, I5, _, _, hgo, hgo2, by go_num, hg5.g.trans HGI.out, (HDI.out.below (Below.refl _ _).drew).step h5 hk5 hg5, HV.out.write ii blx⟩
            have HFIN := Lib.hid hfin
            clear h5 hk5 hg5 hfin HW
            go_wp2_with fail
            all_goals go_roundw
            all_goals first
              | (case measure => simp [intOf]; omega)
              | exact HFIN.out
        · have hgoI2 : ¬ ((i : Int) < 60) := by omega
          have hfin : ScrR 6 60 W g n (.int .i64 (i : Int)) wr := ⟨i, Li, Ii, Di, ki, hi, hiM, rfl, HGI.out, HDI.out, HV.out⟩
          have HFIN := Lib.hid hfin
          clear hfin
          go_wp2_with fail
          go_meet
          exact HFIN.out
      · have hgoI : ¬ ((i : Int) < (n : Int)) := by omega
        have hfin : ScrR 6 60 W g n (.int .i64 (i : Int)) wr := ⟨i, Li, Ii, Di, ki, hi, hiM, rfl, HGI.out, HDI.out, HV.out⟩
        have HFIN := Lib.hid hfin
        clear hfin
        go_wp2_with fail
        go_meet
        exact HFIN.out
  case rest =>
    obtain ⟨i, L3, I3, D, k, hi, hiM, rfl, hg3, hd3, hv⟩ := hcut
    rename World => w3
    have HG3 := Lib.hid hg3
    have HD3 := Lib.hid hd3
    have HV := Lib.hid hv
    have hs := hv.sound (by omega) (by omega) (by omega)
    have hl := hs.log
    have hl2 := hs.syncs
    have k0 := hv.k0
    have k1 : k ≤ 1000000 := by have := hv.k1; omega
    have HS : Hid (Sound { D with dead := true }) := Lib.hid ⟨hs.n1, hs.n2, hs.log, hs.syncs, hs.int, hs.safe⟩
    have hft : ∀ q, faultN { D with dead := true } q = 73 := fun q => by rw [faultN, if_pos rfl]
    have HFT := Lib.hid hft
    obtain ⟨nl, hnl⟩ : ∃ nl, D.log.length = nl := ⟨_, rfl⟩
    obtain ⟨pn, hpn⟩ : ∃ pn, openN (D.log.drop (safeN D)) = pn := ⟨_, rfl⟩
    have W1 := writes_any hd3.dev
    rw [hg3, hnl] at W1
    have W2 := pending_any hd3.dev hl hl2 hs.safeN
    rw [hg3, hpn] at W2
    have W1 := Lib.hid W1
    have W2 := Lib.hid W2
    have HNL := Lib.hid hnl
    have HPN := Lib.hid hpn
    clear hg3 hd3 hv hs hl hl2 k0 k1 hft hnl hpn HD2
    go_wp2_with fail
    refine W1.out.mono ?_
    rintro e wq ⟨rfl, rfl⟩
    go_wp2_with fail
    refine W2.out.mono ?_
    rintro e w4 ⟨rfl, hb4⟩
    have hd4 := HD3.out.below hb4
    have W3 := kill_any hd4.dev
    rw [HG3.out] at W3
    have W3 := Lib.hid W3
    have HD4 := Lib.hid hd4
    clear hb4 hd4 W1 W2
    go_wp2_with fail
    refine W3.out.mono ?_
    rintro e w5 ⟨rfl, L5, I5, h5, hg5, hk5⟩
    have hd5 := HD4.out.step h5 (hk5 _ _ HD4.out.clk) hg5
    have hgg : L5.g = g := hg5.g.trans HG3.out
    have e1 : readR { D with dead := true } z = ([], 73) := by rw [readR, HFT.out, if_pos (by decide)]
    have W4 := read_any hd5.dev z HZ.out.1 HZ.out.2
    rw [e1, hgg] at W4
    have W4 := Lib.hid W4
    have HD5 := Lib.hid hd5
    have HGG := Lib.hid hgg
    clear h5 hg5 hk5 hd5 hgg e1 W3 HD4
    go_wp2_with fail
    refine W4.out.mono ?_
    rintro e w6 ⟨a6, c6, rfl, _, hb6⟩
    simp only [List.length_nil]
    have hd6 := HD5.out.below hb6
    have e2 : writeR { D with dead := true } z b k = (73, { D with dead := true }, k) := by rw [writeR, HFT.out, if_pos (by decide)]
    have W5 := write_any hd6.dev hd6.clk HV.out.k0 (by have := HV.out.k1; omega) HS.out.log z HZ.out.1 HZ.out.2 ab nb cb b HBI.out.len_eq (HBI.out.rd.below hd6.bel |>.more hd6.bel.size) (Apt.of HBI.out.rd hd6.c)
    rw [e2, HGG.out] at W5
    have W5 := Lib.hid W5
    have HD6 := Lib.hid hd6
    clear hb6 hd6 e2 W4 HD5
    go_wp2_with fail
    refine W5.out.mono ?_
    rintro e w7 ⟨rfl, L7, I7, h7, hk7, hg7⟩
    have hd7 := HD6.out.step h7 hk7 hg7
    have hgg : L7.g = g := hg7.g.trans HGG.out
    have e3 : spoilR { D with dead := true } z = { D with dead := true } := by rw [spoilR, HFT.out, if_neg (by decide)]
    have W6 := spoil_any hd7.dev z HZ.out.1 HZ.out.2
    rw [e3, hgg] at W6
    have W6 := Lib.hid W6
    have HD7 := Lib.hid hd7
    have HGG := Lib.hid hgg
    clear h7 hk7 hg7 hd7 hgg e3 W5 HD6
    go_wp2_with fail
    refine W6.out.mono ?_
    rintro e w8 ⟨rfl, L8, I8, h8, hg8, hk8⟩
    have hd8 := HD7.out.step h8 (hk8 _ _ HD7.out.clk) hg8
    have hgg : L8.g = g := hg8.g.trans HGG.out
    have e4 : tamperR { D with dead := true } z b k = ({ D with dead := true }, k) := by rw [tamperR, HFT.out, if_neg (by simp)]
    have W7 := tamper_any hd8.dev hd8.clk HV.out.k0 (by have := HV.out.k1; omega) HS.out.log z HZ.out.1 HZ.out.2 ab nb cb b HBI.out.len_eq (HBI.out.rd.below hd8.bel |>.more hd8.bel.size) (Apt.of HBI.out.rd hd8.c)
    rw [e4, hgg] at W7
    have W7 := Lib.hid W7
    have HD8 := Lib.hid hd8
    have HGG := Lib.hid hgg
    clear h8 hk8 hg8 hd8 hgg e4 W6 HD7
    go_wp2_with fail
    refine W7.out.mono ?_
    rintro e w9 ⟨rfl, L9, I9, h9, hk9, hg9⟩
    have hd9 := HD8.out.step h9 hk9 hg9
    have hgg : L9.g = g := hg9.g.trans HGG.out
    have W8 := cut_any hd9.dev HS.out none 0 0 [] rfl (Nat.le_refl _) (by omega) (.inl rfl)
    rw [hgg] at W8
    have W8 := Lib.hid W8
    have HD9 := Lib.hid hd9
    have HGG := Lib.hid hgg
    clear h9 hk9 hg9 hd9 hgg W7 HD8
    go_wp2_with fail
    refine W8.out.mono ?_
    rintro e w10 ⟨Lc, Ic, rfl, h10, hk10, hf10⟩
    have hc10 := HD9.out.fresh h10 hk10 hf10
    have hd10 := HD9.out.below hf10.below
    have e5 : readR (Dv.cut { D with dead := true } []) z = ([], 73) := by
      have : faultN (Dv.cut { D with dead := true } []) z = 73 := by rw [faultN]; exact if_pos rfl
      rw [readR, this, if_pos (by decide)]
    have W9 := read_any hc10.dev z HZ.out.1 HZ.out.2
    rw [e5] at W9
    have W9 := Lib.hid W9
    have HD10 := Lib.hid hd10
    have HC10 := Lib.hid hc10
    have hap : (∀ q, Lc.M q → w9.heap.size ≤ q) ∧ (∀ q, L9.M q → q < w9.heap.size) ∧ L9.clk < w9.heap.size := ⟨hf10.m, fun q hq => HD9.out.dev.ltM hq, Blk.lt HD9.out.clk⟩
    have HAP := Lib.hid hap
    clear h10 hk10 hf10 hc10 hd10 hap e5 W8 HD9
    go_wp2_with fail
    refine W9.out.mono ?_
    rintro e w11 ⟨a11, c11, rfl, _, hb11⟩
    simp only [List.length_nil]
    have hd11 := HD10.out.below hb11
    have e6 : syncR { D with dead := true } k = (73, { D with dead := true }) := by rw [syncR, if_pos rfl]
    have W10 := sync_any hd11.dev hd11.clk HS.out.syncs
    rw [e6, HGG.out] at W10
    have W10 := Lib.hid W10
    have HD11 := Lib.hid hd11
    have HC11 := Lib.hid (HC10.out.below hb11)
    clear hb11 hd11 e6 W9 HD10 HC10
    go_wp2_with fail
    refine W10.out.mono ?_
    rintro e w12 ⟨rfl, L12, I12, h12, hk12, hg12⟩
    have hd12 := HD11.out.step h12 hk12 hg12
    have hgg : L12.g = g := hg12.g.trans HGG.out
    have hc12 := DevAt.apart HD11.out.dev HD11.out.clk HC11.out.dev HAP.out.1 HAP.out.2.1 HAP.out.2.2 hg12.chg
    have W11 := Lib.hid (dead_any hc12)
    have W12 := writes_any hd12.dev
    rw [hgg] at W12
    have HW12 := Lib.hid (W12.mono (R' := fun e w' => e = .returned (.int .i64 (nl : Int)) ∧ w12 = w') (fun e w' ⟨h1, h2⟩ => ⟨by rw [h1, ← HNL.out], h2⟩))
    have W13 := pending_any hd12.dev HS.out.log HS.out.syncs HS.out.safeN
    rw [hgg] at W13
    have HW13 := Lib.hid (W13.mono (R' := fun e w' => e = .returned (.int .i64 (pn : Int)) ∧ Below w12.heap.size w12 w') (fun e w' ⟨h1, h2⟩ => ⟨by rw [h1, ← HPN.out]; rfl, h2⟩))
    have HD12 := Lib.hid hd12
    clear h12 hk12 hg12 hd12 hgg hc12 W12 W13 W10 HD11 HC11 HAP
    go_wp2_with fail
    refine W11.out.mono ?_
    rintro e wq ⟨rfl, rfl⟩
    rw [show (Dv.cut { D with dead := true } []).dead = true from rfl]
    go_wp2_with fail
    refine HW12.out.mono ?_
    rintro e wq ⟨rfl, rfl⟩
    go_wp2_with fail
    refine HW13.out.mono ?_
    rintro e w13 ⟨rfl, hb13⟩
    have HD13 := Lib.hid (HD12.out.below hb13)
    go_wp2_with fail
    go_ret
    exact ⟨rfl, HD13.out.bel⟩
end Go.Proofs.Ythenpkimcjdkcaa
