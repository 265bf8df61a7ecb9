/- the law: written is whole -/
import Derived.Test.YthenpkimcjdkcaaDvQ
namespace Go.Proofs.Ythenpkimcjdkcaa
set_option linter.unusedVariables false
set_option linter.unusedSimpArgs false
open Go.RowKit

theorem Inv.tamper {n : Nat} {D : Dv} {k : Int} {c : Nat} (h : Inv n D k c) (i : Int) (b : List UInt8) : Inv n (tamperR D i b k).1 (tamperR D i b k).2 (c + 1) := by
  rw [tamperR]
  split
  · rename_i h1
    have h2 := h1.1
    rw [h.fault] at h2
    have : ¬ (i < 0 ∨ (n : Int) ≤ i) := fun e => by rw [if_pos e] at h2; cases h2
    exact h.put i (by omega) (by omega) b h1.2 true
  · exact h.more (Nat.le_succ _)
theorem tamper_bad (D : Dv) (B : Int → Bool) (i : Int) (b : List UInt8) (k : Int) : tamperR { D with bad := B } i b k = ({ (tamperR D i b k).1 with bad := B }, (tamperR D i b k).2) := by
  have : faultN { D with bad := B } i = faultN D i := rfl
  unfold tamperR
  rw [this]
  split <;> rfl
theorem sync_bad (D : Dv) (B : Int → Bool) (k : Int) : syncR { D with bad := B } k = ((syncR D k).1, { (syncR D k).2 with bad := B }) := by
  unfold syncR
  split
  · rfl
  · split <;> rfl
theorem pick_lt (z : Int) (m : Nat) (hm : 0 < m) : (if z < 0 then -(z + 1) else z).toNat % m < m := Nat.mod_lt _ hm
set_option maxRecDepth 20000 in
set_option maxHeartbeats 4000000 in
theorem law_DeviceHeals (a : Option Addr) (n c : Nat) (ls : DOpTy.den) (z : Int) (ab : Option Addr) (nb cb : Nat) (b : List UInt8) (W : World) (hl : DOpTy.reads W (Value.slice a n c).cells.toList ls) (hz : (Lit.int .i64 z).wf = true) (hb : BytesIn W ab nb cb b) :
    Calls Try.prog 5 #[.slice a n c, .int .i64 z, .slice ab nb cb] W fun e w' => e = .returned (.bool true) ∧ Below W.heap.size W w' := by
  have HL := Lib.hid (dsl_arg hl)
  have HN63 := Lib.hid (dsl_len (dsl_arg hl))
  have HBI := Lib.hid hb
  obtain ⟨hz1, hz2⟩ := wf64 hz
  obtain ⟨m, hm⟩ : ∃ m, min nb 64 = m := ⟨_, rfl⟩
  obtain ⟨own, hown⟩ : ∃ own, b.take m = own := ⟨_, rfl⟩
  have hol : own.length = m := by rw [← hown, List.length_take, hb.len_eq]; omega
  have hor : Rd W W.heap.size ab (bs own) := by rw [← hown, bs_take]; exact hb.rd.take m
  have HOL := Lib.hid hol
  have HOR := Lib.hid hor
  have hmI : (if (64 : Int) < (nb : Int) then (64 : Int) else (nb : Int)) = (m : Int) := by split <;> omega
  have m0 : (0 : Int) ≤ (m : Int) := Int.natCast_nonneg m
  have m1 : (m : Int) ≤ (nb : Int) := by omega
  have m2 : (m : Int) ≤ (cb : Int) := by have := hb.le_cap; omega
  have m3 : m ≤ 64 := by omega
  have HM := Lib.hid m3
  clear hl hb hz hol hor hown hm m3
  go_enter Try.func5, Try.ntmps5
  go_wp2_with fail
  refine (newDev_any 6 (by omega) (by omega) W).mono ?_
  rintro e w1 ⟨L, rfl, h1, hk1, hb1, hm1, hc1⟩
  have hd1 := DevIn.new (Below.refl _ _) h1 hk1 hb1 hm1 hc1
  obtain ⟨g, hg⟩ : ∃ g, L.g = g := ⟨_, rfl⟩
  rw [hg]
  have HD1 := Lib.hid hd1
  have HG := Lib.hid hg
  clear h1 hk1 hb1 hm1 hc1 hd1 hg
  go_wp2_with fail
  refine (dalive_any _).mono ?_
  rintro e w2 ⟨rfl, hb2⟩
  have HD2 := Lib.hid (HD1.out.below hb2)
  clear hb2 HD1
  go_upto_if 37 with (fail)
  go_cut [1] (fun v wn => (∃ p : Nat, v = .int .i64 (p : Int)) ∧ wn = w2)
  case first =>
    by_cases hneg : z < 0
    · go_wp2_with fail
      go_meet
      exact ⟨⟨(-(z + 1)).toNat, by congr 1; omega⟩, rfl⟩
    · go_wp2_with fail
      go_meet
      exact ⟨⟨z.toNat, by congr 1; omega⟩, rfl⟩
  case' rest =>
    obtain ⟨⟨p, rfl⟩, hw⟩ := hcut
    subst hw
    rename World => w2
  clear hz1 hz2
  have tmp : (p : Int).tmod 6 = ((p % 6 : Nat) : Int) := by rw [Int.tmod_eq_emod_of_nonneg (by omega)]; omega
  have p0 : (0 : Int) ≤ (p : Int) := Int.natCast_nonneg _
  have hq6 : p % 6 < 6 := Nat.mod_lt _ (by omega)
  go_upto_region 7 with (fail)
  obtain ⟨q, hq⟩ : ∃ q : Int, (p : Int) % 6 = q := ⟨_, rfl⟩
  have q0 : 0 ≤ q := by omega
  have q6 : q < 6 := by omega
  rw [hq]
  have HQ : Hid (0 ≤ q ∧ q < 6) := Lib.hid ⟨q0, q6⟩
  clear hq tmp p0 hq6 q0 q6
  go_upto_block 0 with (fail)
  go_cut [9] (fun vi wn => ScrR 6 60 W g n vi wn)
  case first =>
    go_wp2_with fail
    go_loopw [9] (fun vi wr => ScrR 6 60 W g n vi wr) (fun vi _ => 60 - (intOf vi).toNat)
    case atStart => exact ⟨0, L, _, _, 0, Nat.zero_le _, Nat.zero_le _, rfl, HG.out, HD2.out, Inv.new 6⟩
    case round =>
      clear HD2
      obtain ⟨i, Li, Ii, Di, ki, hi, hiM, rfl, hgi, hdi, hv⟩ := hrel
      have HGI := Lib.hid hgi
      have HDI := Lib.hid hdi
      have HV := Lib.hid hv
      have i0 : (0 : Int) ≤ (i : Int) := Int.natCast_nonneg i
      clear hgi hdi hv
      by_cases hgo : i < n
      · have hgoI : (i : Int) < (n : Int) := by omega
        by_cases hgo2 : i < 60
        · have hgoI2 : (i : Int) < 60 := by omega
          obtain ⟨bo, oo, kd, ii, abx, nbx, cbx, blx, rfl, hbo, hc0, hc1, hc2, hD, hi1, hi2⟩ := dops_at HL.out i hgo
          have q0 := (HDI.out.bel.cell (p := ⟨bo, oo + i * 4, none⟩) hbo).trans hc0
          have q1 := (HDI.out.bel.cell (p := ⟨bo, oo + i * 4 + 1, none⟩) hbo).trans hc1
          have q2 := (HDI.out.bel.cell (p := ⟨bo, oo + i * 4 + 2, none⟩) hbo).trans hc2
          have kb := HV.out.k0
          have kb1 := HV.out.k1
          have lb := HV.out.log
          have lb1 := HV.out.syncs
          by_cases hkd : kd = 1
          · have hkB : (kd == 1) = true := beq_iff_eq.2 hkd
            have HW := write_any HDI.out.dev.drew HDI.out.clk kb (by omega) (by omega) ii hi1 hi2 abx nbx cbx blx hD.len_eq (hD.rd.below HDI.out.bel |>.more HDI.out.bel.size) (Apt.of hD.rd HDI.out.c)
            rw [HGI.out] at HW
            have HW' := Lib.hid HW
            clear hc0 hc1 hc2 hbo hD hi1 hi2 kb kb1 lb lb1 hkd HW
            go_upto_region 12 with (fail)
            go_still_tail 11, (by kernel_rfl)
            change wpList _ _ _ _ _ wr.drew
            go_wp2_with fail
            refine HW'.out.mono ?_
            rintro e w5 ⟨rfl, L5, I5, h5, hk5, hg5⟩
            have hfin : ScrR 6 60 W g n (.int .i64 ((i : Int) + 1)) w5 := ⟨i + 1, L5, I5, _, _, hgo, hgo2, by go_num, hg5.g.trans HGI.out, (HDI.out.below (Below.refl _ _).drew).step h5 hk5 hg5, HV.out.write ii blx⟩
            have HFIN := Lib.hid hfin
            clear h5 hk5 hg5 hfin HW'
            go_wp2_with fail
            all_goals go_roundw
            all_goals first
              | (case measure => simp [intOf]; omega)
              | exact HFIN.out
          · have hkB1 : (kd == 1) = false := beq_eq_false_iff_ne.2 hkd
            clear hkd
            by_cases hkd : kd = 2
            · have hkB : (kd == 2) = true := beq_iff_eq.2 hkd
              have HS := sync_any HDI.out.dev HDI.out.clk (by omega)
              rw [HGI.out] at HS
              have HS := Lib.hid HS
              clear hc0 hc1 hc2 hbo hD hi1 hi2 kb kb1 lb lb1 hkd
              go_wp2_with fail
              refine HS.out.mono ?_
              rintro e w5 ⟨rfl, L5, I5, h5, hk5, hg5⟩
              have hfin : ScrR 6 60 W g n (.int .i64 ((i : Int) + 1)) w5 := ⟨i + 1, L5, I5, _, ki, hgo, hgo2, by go_num, hg5.g.trans HGI.out, HDI.out.step h5 hk5 hg5, HV.out.sync (by omega) ki⟩
              have HFIN := Lib.hid hfin
              clear h5 hk5 hg5 hfin HS
              go_wp2_with fail
              all_goals go_roundw
              all_goals first
                | (case measure => simp [intOf]; omega)
                | exact HFIN.out
            · have hkB2 : (kd == 2) = false := beq_eq_false_iff_ne.2 hkd
              clear hkd
              by_cases hkd : kd = 8
              · have hkB : (kd == 8) = true := beq_iff_eq.2 hkd
                have HW := tamper_any HDI.out.dev.drew HDI.out.clk kb (by omega) (by omega) ii hi1 hi2 abx nbx cbx blx hD.len_eq (hD.rd.below HDI.out.bel |>.more HDI.out.bel.size) (Apt.of hD.rd HDI.out.c)
                rw [HGI.out] at HW
                have HW' := Lib.hid HW
                clear hc0 hc1 hc2 hbo hD hi1 hi2 kb kb1 lb lb1 hkd HW
                go_upto_region 16 with (fail)
                go_still_tail 11, (by kernel_rfl)
                change wpList _ _ _ _ _ wr.drew
                go_wp2_with fail
                refine HW'.out.mono ?_
                rintro e w5 ⟨rfl, L5, I5, h5, hk5, hg5⟩
                have hfin : ScrR 6 60 W g n (.int .i64 ((i : Int) + 1)) w5 := ⟨i + 1, L5, I5, _, _, hgo, hgo2, by go_num, hg5.g.trans HGI.out, (HDI.out.below (Below.refl _ _).drew).step h5 hk5 hg5, HV.out.tamper ii blx⟩
                have HFIN := Lib.hid hfin
                clear h5 hk5 hg5 hfin HW'
                go_wp2_with fail
                all_goals go_roundw
                all_goals first
                  | (case measure => simp [intOf]; omega)
                  | exact HFIN.out
              · have hkB8 : (kd == 8) = false := beq_eq_false_iff_ne.2 hkd
                have hfin : ScrR 6 60 W g n (.int .i64 ((i : Int) + 1)) wr := ⟨i + 1, Li, Ii, Di, ki, hgo, hgo2, by go_num, HGI.out, HDI.out, HV.out.more (Nat.le_succ _)⟩
                have HFIN := Lib.hid hfin
                clear hc0 hc1 hc2 hbo hD hi1 hi2 kb kb1 lb lb1 hkd hfin
                go_wp2_with fail
                all_goals go_roundw
                all_goals first
                  | (case measure => simp [intOf]; omega)
                  | exact HFIN.out
        · have hgoI2 : ¬ ((i : Int) < 60) := by omega
          have hfin : ScrR 6 60 W g n (.int .i64 (i : Int)) wr := ⟨i, Li, Ii, Di, ki, hi, hiM, rfl, HGI.out, HDI.out, HV.out⟩
          have HFIN := Lib.hid hfin
          clear hfin
          go_wp2_with fail
          go_meet
          exact HFIN.out
      · have hgoI : ¬ ((i : Int) < (n : Int)) := by omega
        have hfin : ScrR 6 60 W g n (.int .i64 (i : Int)) wr := ⟨i, Li, Ii, Di, ki, hi, hiM, rfl, HGI.out, HDI.out, HV.out⟩
        have HFIN := Lib.hid hfin
        clear hfin
        go_wp2_with fail
        go_meet
        exact HFIN.out
  case rest =>
    obtain ⟨i, L3, I3, D, k, hi, hiM, rfl, hg3, hd3, hv⟩ := hcut
    rename World => w3
    have q0 := HQ.out.1
    have q6 := HQ.out.2
    obtain ⟨B, hB⟩ : ∃ B, setF D.bad q true = B := ⟨_, rfl⟩
    have hBq : B q = true := by rw [← hB, setF_same]
    have e1 : spoilR D q = { D with bad := B } := by rw [spoilR, if_pos (by rw [hv.fault, if_neg (by omega)]), hB]
    have W1 := spoil_any hd3.dev q (by omega) (by omega)
    rw [e1, hg3] at W1
    have HW1 := Lib.hid W1
    have HG3 := Lib.hid hg3
    have HD3 := Lib.hid hd3
    have HV := Lib.hid hv
    have HBQ := Lib.hid hBq
    clear hg3 hd3 hv e1 W1 hB hBq q0 q6 HD2
    have RB : Hid (∀ (E : Dv) (kk : Int) (cc : Nat), Inv 6 E kk cc → readR { E with bad := B } q = ([], 72)) := Lib.hid (fun E kk cc hE => by
      have hf : faultN { E with bad := B } q = 0 := by
        have := hE.fault q
        rw [if_neg (by have := HQ.out; omega)] at this
        exact this
      rw [readR, hf, if_neg (by simp), if_pos HBQ.out])
    have SO : Hid (∀ (E : Dv) (kk : Int) (cc : Nat), Inv 6 E kk cc → cc ≤ 1000000 → Sound { E with bad := B }) := Lib.hid (fun E kk cc hE hcc => by
      have h := hE.sound (by omega) (by omega) hcc
      exact ⟨h.n1, h.n2, h.log, h.syncs, h.int, h.safe⟩)
    go_wp2_with fail
    refine HW1.out.mono ?_
    rintro e w4 ⟨rfl, L4, I4, h4, hg4, hk4⟩
    have hd4 := HD3.out.step h4 (hk4 _ _ HD3.out.clk) hg4
    have hgg : L4.g = g := hg4.g.trans HG3.out
    have W2 := read_any hd4.dev q (by have := HQ.out; omega) (by have := HQ.out; omega)
    rw [RB.out D k i HV.out, hgg] at W2
    have HW2 := Lib.hid W2
    have HD4 := Lib.hid hd4
    have HG4 := Lib.hid hgg
    clear h4 hg4 hk4 hd4 hgg W2 HW1 HD3
    go_wp2_with fail
    refine HW2.out.mono ?_
    rintro e w5 ⟨a5, c5, rfl, _, hb5⟩
    simp only [List.length_nil]
    have hd5 := HD4.out.below hb5
    have W3 := tamper_any hd5.dev hd5.clk HV.out.k0 (by have := HV.out.k1; omega) (by have := HV.out.log; simp only; omega) q (by have := HQ.out; omega) (by have := HQ.out; omega) ab nb cb b HBI.out.len_eq (HBI.out.rd.below hd5.bel |>.more hd5.bel.size) (Apt.of HBI.out.rd hd5.c)
    rw [tamper_bad, HG4.out] at W3
    obtain ⟨⟨E1, k1⟩, hE1⟩ : ∃ r, tamperR D q b k = r := ⟨_, rfl⟩
    have hv1 := HV.out.tamper q b
    rw [hE1] at W3 hv1
    have HW3 := Lib.hid W3
    have HD5 := Lib.hid hd5
    have HV1 := Lib.hid hv1
    clear hb5 hd5 W3 hv1 hE1 HW2 HD4
    go_wp2_with fail
    refine HW3.out.mono ?_
    rintro e w6 ⟨rfl, L6, I6, h6, hk6, hg6⟩
    have hd6 := HD5.out.step h6 hk6 hg6
    have hgg : L6.g = g := hg6.g.trans HG4.out
    have W4 := sync_any hd6.dev hd6.clk (by have := HV1.out.syncs; simp only; omega)
    rw [sync_bad, hgg] at W4
    obtain ⟨⟨r2, E2⟩, hE2⟩ : ∃ r, syncR E1 k1 = r := ⟨_, rfl⟩
    have hv2 := HV1.out.sync (by omega) k1
    rw [hE2] at W4 hv2
    have HW4 := Lib.hid W4
    have HD6 := Lib.hid hd6
    have HG6 := Lib.hid hgg
    have HV2 := Lib.hid hv2
    clear h6 hk6 hg6 hd6 hgg W4 hv2 hE2 HW3 HD5
    go_wp2_with fail
    refine HW4.out.mono ?_
    rintro e w7 ⟨rfl, L7, I7, h7, hk7, hg7⟩
    have hd7 := HD6.out.step h7 hk7 hg7
    have hgg : L7.g = g := hg7.g.trans HG6.out
    have W5 := read_any hd7.dev q (by have := HQ.out; omega) (by have := HQ.out; omega)
    rw [RB.out E2 k1 _ HV2.out, hgg] at W5
    have HW5 := Lib.hid W5
    have HD7 := Lib.hid hd7
    have HG7 := Lib.hid hgg
    clear h7 hk7 hg7 hd7 hgg W5 HW4 HD6
    go_wp2_with fail
    refine HW5.out.mono ?_
    rintro e w8 ⟨a8, c8, rfl, _, hb8⟩
    simp only [List.length_nil]
    have hd8 := HD7.out.below hb8
    have W6 := cut_any hd8.dev (SO.out E2 k1 _ HV2.out (by omega)) none 0 0 [] rfl (Nat.le_refl _) (by omega) (.inl rfl)
    rw [HG7.out] at W6
    have HW6 := Lib.hid W6
    have HD8 := Lib.hid hd8
    clear hb8 hd8 W6 HW5 HD7
    go_wp2_with fail
    refine HW6.out.mono ?_
    rintro e w9 ⟨Lc, Ic, rfl, h9, hk9, hf9⟩
    have hc9 := HD8.out.fresh h9 hk9 hf9
    have hd9 := HD8.out.below hf9.below
    have e3 : readR (Dv.cut { E2 with bad := B } []) q = ([], 72) := by
      have hf : faultN (Dv.cut { E2 with bad := B } []) q = 0 := by
        have h1 : (Dv.cut { E2 with bad := B } []).dead = false := HV2.out.dead
        have h2 : (Dv.cut { E2 with bad := B } []).n = 6 := HV2.out.nn
        rw [faultN, h1, h2, if_neg (by simp), if_neg (by have := HQ.out; omega)]
      have hb : (Dv.cut { E2 with bad := B } []).bad q = true := HBQ.out
      rw [readR, hf, if_neg (by simp), if_pos hb]
    have W7 := read_any hc9.dev q (by have := HQ.out; omega) (by have := HQ.out; omega)
    rw [e3] at W7
    have HW7 := Lib.hid W7
    have HD9 := Lib.hid hd9
    clear h9 hk9 hf9 hc9 hd9 e3 W7 HW6 HD8
    go_wp2_with fail
    refine HW7.out.mono ?_
    rintro e w10 ⟨a10, c10, rfl, _, hb10⟩
    simp only [List.length_nil]
    have hd10 := HD9.out.below hb10
    have e4 : writeR { E2 with bad := B } q own k1 = (0, { (E2.put q own false (k1 + 1)) with bad := setF B q false }, k1 + 1) := by
      have hf : faultN { E2 with bad := B } q = 0 := by
        have := HV2.out.fault q
        rw [if_neg (by have := HQ.out; omega)] at this
        exact this
      rw [writeR, if_neg (by simp [hf]), if_neg (by rw [HOL.out]; have := HM.out; omega)]
      rfl
    have W8 := write_any hd10.dev hd10.clk HV1.out.k0 (by have := HV1.out.k1; omega) (by have := HV2.out.log; simp only; omega) q (by have := HQ.out; omega) (by have := HQ.out; omega) ab m cb own HOL.out (HOR.out.below hd10.bel |>.more hd10.bel.size) (Apt.of HOR.out hd10.c)
    rw [e4, HG7.out] at W8
    have HW8 := Lib.hid W8
    have HD10 := Lib.hid hd10
    clear hb10 hd10 e4 W8 HW7 HD9
    go_wp2_with fail
    refine HW8.out.mono ?_
    rintro e w11 ⟨rfl, L11, I11, h11, hk11, hg11⟩
    have hd11 := HD10.out.step h11 hk11 hg11
    have hgg : L11.g = g := hg11.g.trans HG7.out
    have e5 : readR { (E2.put q own false (k1 + 1)) with bad := setF B q false } q = (full own, 0) := by
      have hf : faultN { (E2.put q own false (k1 + 1)) with bad := setF B q false } q = 0 := by
        have := HV2.out.fault q
        rw [if_neg (by have := HQ.out; omega)] at this
        exact this
      have hn : (E2.put q own false (k1 + 1)).now q = full own := setF_same _ _ _
      have hb : ({ (E2.put q own false (k1 + 1)) with bad := setF B q false } : Dv).bad q = false := setF_same _ _ _
      rw [readR, hf, if_neg (by simp), hb, if_neg (by simp)]
      exact Prod.ext hn rfl
    have W9 := read_any hd11.dev q (by have := HQ.out; omega) (by have := HQ.out; omega)
    rw [e5, hgg] at W9
    have HW9 := Lib.hid W9
    have HD11 := Lib.hid hd11
    have HG11 := Lib.hid hgg
    clear h11 hk11 hg11 hd11 hgg e5 W9 HW8 HD10
    go_wp2_with fail
    refine HW9.out.mono ?_
    rintro e w12 ⟨a12, c12, rfl, hown12, hb12⟩
    have hlf : (full own).length = 64 := full_length own (by rw [HOL.out]; exact HM.out)
    simp only [hlf] at hown12 ⊢
    have hd12 := HD11.out.below hb12
    have W10 := full_any ab m cb own w12 HOL.out HM.out (HOR.out.below hd12.bel |>.more hd12.bel.size)
    have HW10 := Lib.hid W10
    have HD12 := Lib.hid hd12
    have HO12 : Hid (OwnB w12 w11.heap.size (.slice a12 64 c12) (full own)) := Lib.hid hown12
    have HLF := Lib.hid hlf
    clear hown12 hb12 hd12 W10 HW9 HD11 hlf
    go_wp2_with fail
    refine HW10.out.mono ?_
    rintro e w13 ⟨a13, c13, rfl, hown13, hb13⟩
    have W11 := same_any a12 a13 64 64 c12 c13 (full own) (full own) w13 HLF.out HLF.out (OwnB.rd (OwnB.below HO12.out hb13)) (OwnB.rd hown13)
    rw [beq_self_eq_true] at W11
    have HW11 := Lib.hid W11
    have hd13 := HD12.out.below hb13
    have W12 := bad_any hd13.dev q (by have := HQ.out; omega) (by have := HQ.out; omega)
    rw [HG11.out] at W12
    have hb13' : ({ (E2.put q own false (k1 + 1)) with bad := setF B q false } : Dv).bad q = false := setF_same _ _ _
    rw [hb13'] at W12
    have HW12 := Lib.hid W12
    have HD13 := Lib.hid hd13
    clear hown13 hb13 hd13 hb13' W11 W12 HW10 HD12 HO12
    go_wp2_with fail
    refine HW11.out.mono ?_
    rintro e wq ⟨rfl, rfl⟩
    go_wp2_with fail
    refine HW12.out.mono ?_
    rintro e wq ⟨rfl, rfl⟩
    go_wp2_with fail
    go_ret
    exact ⟨rfl, HD13.out.bel⟩
end Go.Proofs.Ythenpkimcjdkcaa
