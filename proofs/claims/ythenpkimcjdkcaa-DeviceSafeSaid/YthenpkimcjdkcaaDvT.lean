/- the law: what is left is settled -/
import Derived.Test.YthenpkimcjdkcaaDvQ
namespace Go.Proofs.Ythenpkimcjdkcaa
set_option linter.unusedVariables false
set_option linter.unusedSimpArgs false
open Go.RowKit

theorem info_bool : (Try.prog.info? 4).map (fun i => (i.zero, i.size, i.bytes)) = some (some (.bool false), 1, 1) := by kernel_rfl
theorem bls_one (l : List Bool) : ∀ u ∈ bls l, u.oneCell' = true := by
  intro u hu
  obtain ⟨x, _, rfl⟩ := List.mem_map.1 hu
  rfl
theorem leftF_all (safe : Nat) : ∀ (l : List Wr) (i : Nat) (m : Nat) (f : Int → List UInt8), l.length ≤ m → leftF safe l i (List.replicate m true) f = applyL l f
  | [], _, _, f, _ => by rw [leftF]; rfl
  | x :: l, i, m, f, h => by
    simp only [List.length_cons] at h
    show _ = applyL l (setF f x.i (full x.b))
    by_cases hk : i < safe ∨ x.sure = true
    · rw [leftF_keep hk, leftF_all safe l _ m _ (by omega)]
    · obtain ⟨m', rfl⟩ : ∃ m', m = m' + 1 := ⟨m - 1, by omega⟩
      rw [List.replicate_succ, leftF_cons hk, if_pos rfl, leftF_all safe l _ m' _ (by omega)]
theorem read_same {D E : Dv} (h1 : D.n = E.n) (h2 : D.dead = E.dead) (h3 : D.bad = E.bad) (h4 : D.now = E.now) (i : Int) : readR D i = readR E i := by
  have hf : faultN D i = faultN E i := by rw [faultN, faultN, h1, h2]
  rw [readR, readR, hf, h3, h4]
theorem cut_again (D : Dv) (k1 k2 : List Bool) (i : Int) : readR ((D.cut k1).cut k2) i = readR (D.cut k1) i := by
  refine read_same rfl rfl rfl ?_ i
  show leftF _ (List.take _ []) 0 k2 _ = _
  rw [List.take_nil, leftF]
  rfl
theorem cut_all {N : Nat} {D : Dv} {k : Int} {c : Nat} (h : Inv N D k c) (m : Nat) (hm : D.log.length ≤ m) (i : Int) : readR (D.cut (List.replicate m true)) i = readR D i := by
  refine read_same (D := D.cut (List.replicate m true)) (E := D) rfl rfl rfl ?_ i
  show leftF _ (D.log.take D.log.length) 0 _ _ = _
  rw [List.take_of_length_le (Nat.le_refl _), leftF_all _ _ _ _ _ hm, h.now]
theorem cutAt_all {N : Nat} {D : Dv} {k : Int} {c : Nat} (h : Inv N D k c) (i : Int) : readR (D.cutAt (D.log.length : Int) (List.replicate D.log.length true)) i = readR D i := by
  refine read_same (D := D.cutAt (D.log.length : Int) (List.replicate D.log.length true)) (E := D) rfl rfl rfl ?_ i
  have hc : clamp (D.log.length : Int) D.log.length = D.log.length := by rw [clamp, if_neg (by omega), if_neg (by omega)]; omega
  show leftF _ (D.log.take (clamp (D.log.length : Int) D.log.length)) 0 _ _ = _
  rw [hc, List.take_of_length_le (Nat.le_refl _), leftF_all _ _ _ _ _ (Nat.le_refl _), h.now]
/-- One device carried along. -/
structure Car (w : World) (g : Nat) (D : Dv) : Prop where
  ex : ∃ L I, L.g = g ∧ DevAt w L I D
theorem Car.below {w w' : World} {g : Nat} {D : Dv} (h : Car w g D) (hb : Below w.heap.size w w') : Car w' g D := by
  obtain ⟨L, I, h1, h2⟩ := h.ex
  exact ⟨L, I, h1, h2.below hb⟩
theorem Car.read {w : World} {g : Nat} {D : Dv} (h : Car w g D) (i : Int) (h1 : -9223372036854775808 ≤ i) (h2 : i ≤ 9223372036854775807) : Calls Try.prog 18 #[.pointer (some ⟨g, 0, none⟩), .int .i64 i] w (ReadPost (readR D i) w) := by
  obtain ⟨L, I, rfl, h3⟩ := h.ex
  exact read_any h3 i h1 h2
/-- The slice 'full', so far. -/
def FulR (w0 : World) (nl : Nat) (v vi : Value) (wr : World) : Prop := ∃ i : Nat, i ≤ nl ∧ vi = .int .i64 (i : Int) ∧ OwnG wr w0.heap.size 4 1 v i (bls (List.replicate i true)) ∧ Below w0.heap.size w0 wr
def SetR (w0 : World) (vi : Value) (wr : World) : Prop := ∃ i : Nat, i ≤ 8 ∧ vi = .int .i64 (i : Int) ∧ Below w0.heap.size w0 wr
set_option maxRecDepth 20000 in
set_option maxHeartbeats 4000000 in
theorem law_DeviceSettled (a : Option Addr) (n c : Nat) (ls : DOpTy.den) (ak : Option Addr) (nk ck : Nat) (ks : BoolsTy.den) (aj : Option Addr) (nj cj : Nat) (js : BoolsTy.den) (W : World) (hl : DOpTy.reads W (Value.slice a n c).cells.toList ls) (hk : BoolsTy.reads W (Value.slice ak nk ck).cells.toList ks) (hj : BoolsTy.reads W (Value.slice aj nj cj).cells.toList js) :
    Calls Try.prog 6 #[.slice a n c, .slice ak nk ck, .slice aj nj cj] W fun e w' => e = .returned (.bool true) ∧ Below W.heap.size W w' := by
  have HL := Lib.hid (dsl_arg hl)
  have HN63 := Lib.hid (dsl_len (dsl_arg hl))
  have HK63 := Lib.hid (dsl_len (dsl_arg hk))
  have HJ63 := Lib.hid (dsl_len (dsl_arg hj))
  obtain ⟨kl, hkl, hkr⟩ := bools_in (dsl_arg hk)
  obtain ⟨jl, hjl, hjr⟩ := bools_in (dsl_arg hj)
  have HKL := Lib.hid hkl
  have HKR := Lib.hid hkr
  have HJL := Lib.hid hjl
  have HJR := Lib.hid hjr
  clear hl hk hj hkl hkr hjl hjr
  go_enter Try.func6, Try.ntmps6
  go_wp2_with fail
  refine (newDev_any 8 (by omega) (by omega) W).mono ?_
  rintro e w1 ⟨L, rfl, h1, hk1, hb1, hm1, hc1⟩
  have hd1 := DevIn.new (Below.refl _ _) h1 hk1 hb1 hm1 hc1
  obtain ⟨g, hg⟩ : ∃ g, L.g = g := ⟨_, rfl⟩
  rw [hg]
  have HD1 := Lib.hid hd1
  have HG := Lib.hid hg
  clear h1 hk1 hb1 hm1 hc1 hd1 hg
  go_wp2_with fail
  refine (dalive_any _).mono ?_
  rintro e w2 ⟨rfl, hb2⟩
  have HD2 := Lib.hid (HD1.out.below hb2)
  clear hb2 HD1
  go_upto_block 0 with (fail)
  go_cut [9] (fun vi wn => ScrR 8 100 W g n vi wn)
  case first =>
    go_wp2_with fail
    go_loopw [9] (fun vi wr => ScrR 8 100 W g n vi wr) (fun vi _ => 100 - (intOf vi).toNat)
    case atStart => exact ⟨0, L, _, _, 0, Nat.zero_le _, Nat.zero_le _, rfl, HG.out, HD2.out, Inv.new 8⟩
    case round =>
      clear HD2
      obtain ⟨i, Li, Ii, Di, ki, hi, hiM, rfl, hgi, hdi, hv⟩ := hrel
      have HGI := Lib.hid hgi
      have HDI := Lib.hid hdi
      have HV := Lib.hid hv
      have i0 : (0 : Int) ≤ (i : Int) := Int.natCast_nonneg i
      clear hgi hdi hv
      by_cases hgo : i < n
      · have hgoI : (i : Int) < (n : Int) := by omega
        by_cases hgo2 : i < 100
        · have hgoI2 : (i : Int) < 100 := by omega
          obtain ⟨bo, oo, kd, ii, abx, nbx, cbx, blx, rfl, hbo, hc0, hc1, hc2, hD, hi1, hi2⟩ := dops_at HL.out i hgo
          have q0 := (HDI.out.bel.cell (p := ⟨bo, oo + i * 4, none⟩) hbo).trans hc0
          have q1 := (HDI.out.bel.cell (p := ⟨bo, oo + i * 4 + 1, none⟩) hbo).trans hc1
          have q2 := (HDI.out.bel.cell (p := ⟨bo, oo + i * 4 + 2, none⟩) hbo).trans hc2
          have kb := HV.out.k0
          have kb1 := HV.out.k1
          have lb := HV.out.log
          have lb1 := HV.out.syncs
          by_cases hkd : kd = 2
          · have hkB : (kd == 2) = true := beq_iff_eq.2 hkd
            have HS := sync_any HDI.out.dev HDI.out.clk (by omega)
            rw [HGI.out] at HS
            have HS := Lib.hid HS
            clear hc0 hc1 hc2 hbo hD hi1 hi2 kb kb1 lb lb1 hkd
            go_wp2_with fail
            refine HS.out.mono ?_
            rintro e w5 ⟨rfl, L5, I5, h5, hk5, hg5⟩
            have hfin : ScrR 8 100 W g n (.int .i64 ((i : Int) + 1)) w5 := ⟨i + 1, L5, I5, _, ki, hgo, hgo2, by go_num, hg5.g.trans HGI.out, HDI.out.step h5 hk5 hg5, HV.out.sync (by omega) ki⟩
            have HFIN := Lib.hid hfin
            clear h5 hk5 hg5 hfin HS
            go_wp2_with fail
            all_goals go_roundw
            all_goals first
              | (case measure => simp [intOf]; omega)
              | exact HFIN.out
          · have hkB : (kd == 2) = false := beq_eq_false_iff_ne.2 hkd
            have HW := write_any HDI.out.dev.drew HDI.out.clk kb (by omega) (by omega) ii hi1 hi2 abx nbx cbx blx hD.len_eq (hD.rd.below HDI.out.bel |>.more HDI.out.bel.size) (Apt.of hD.rd HDI.out.c)
            rw [HGI.out] at HW
            have HW := Lib.hid HW
            clear hc0 hc1 hc2 hbo hD hi1 hi2 kb kb1 lb lb1 hkd
            go_upto_region 9 with (fail)
            go_still_tail 11, (by kernel_rfl)
            change wpList _ _ _ _ _ wr.drew
            go_wp2_with fail
            refine HW.out.mono ?_
            rintro e w5 ⟨rfl, L5, I5, h5, hk5, hg5⟩
            have hfin : ScrR 8 100 W g n (.int .i64 ((i : Int) + 1)) w5 := ⟨i + 1, L5, I5, _, _, hgo, hgo2, by go_num, hg5.g.trans HGI.out, (HDI.out.below (Below.refl _ _).drew).step h5 hk5 hg5, HV.out.write ii blx⟩
            have HFIN := Lib.hid hfin
            clear h5 hk5 hg5 hfin HW
            go_wp2_with fail
            all_goals go_roundw
            all_goals first
              | (case measure => simp [intOf]; omega)
              | exact HFIN.out
        · have hgoI2 : ¬ ((i : Int) < 100) := by omega
          have hfin : ScrR 8 100 W g n (.int .i64 (i : Int)) wr := ⟨i, Li, Ii, Di, ki, hi, hiM, rfl, HGI.out, HDI.out, HV.out⟩
          have HFIN := Lib.hid hfin
          clear hfin
          go_wp2_with fail
          go_meet
          exact HFIN.out
      · have hgoI : ¬ ((i : Int) < (n : Int)) := by omega
        have hfin : ScrR 8 100 W g n (.int .i64 (i : Int)) wr := ⟨i, Li, Ii, Di, ki, hi, hiM, rfl, HGI.out, HDI.out, HV.out⟩
        have HFIN := Lib.hid hfin
        clear hfin
        go_wp2_with fail
        go_meet
        exact HFIN.out
  case rest =>
    obtain ⟨i, L3, I3, D, k, hi, hiM, rfl, hg3, hd3, hv⟩ := hcut
    rename World => w3
    have W1 := writes_any hd3.dev
    obtain ⟨nl, hnl⟩ : ∃ nl, D.log.length = nl := ⟨_, rfl⟩
    have HWR : Hid (∀ wx, Below w3.heap.size w3 wx → Calls Try.prog 26 #[.pointer (some ⟨g, 0, none⟩)] wx fun e w' => e = .returned (.int .i64 (nl : Int)) ∧ wx = w') := Lib.hid (fun wx hx => by
      have h := writes_any (hd3.dev.below hx)
      rw [hg3, hnl] at h
      exact h)
    have hnlb : nl ≤ 100 := by rw [← hnl]; have := hv.log; omega
    have HG3 := Lib.hid hg3
    have HD3 := Lib.hid hd3
    have HV := Lib.hid hv
    have HNL := Lib.hid hnl
    clear hg3 hd3 hv hnl W1 HD2
    go_upto_block 2 with (fail)
    go_cut [10, 11] (fun v vi wn => OwnG wn w3.heap.size 4 1 v nl (bls (List.replicate nl true)) ∧ Below w3.heap.size w3 wn)
    case first =>
      go_wp2_with fail
      go_loopw [10, 11] (fun v vi wr => FulR w3 nl v vi wr) (fun _ vi _ => nl - (intOf vi).toNat)
      case atStart => exact ⟨0, Nat.zero_le _, rfl, OwnG.nil _ _ _ _, Below.refl _ _⟩
      case round =>
        obtain ⟨j, hj, rfl, hown, hb⟩ := hrel
        obtain ⟨af, cf, rfl, _⟩ := OwnG.shape hown
        have j0 : (0 : Int) ≤ (j : Int) := Int.natCast_nonneg j
        have HO := Lib.hid hown
        have HB := Lib.hid hb
        have HWJ := Lib.hid (HWR.out wr hb)
        clear hown hb
        by_cases hlt : j < nl
        · have hltI : (j : Int) < (nl : Int) := by omega
          go_wp2_with fail
          refine HWJ.out.mono ?_
          rintro e wq ⟨rfl, rfl⟩
          have HO1 : Hid (OwnG (wr.alloc (.cells #[.bool true] 4)) w3.heap.size 4 1 (.slice af j cf) j (bls (List.replicate j true))) := Lib.hid (OwnG.alloc HO.out _)
          have HR1 : Hid (Rd (wr.alloc (.cells #[.bool true] 4)) (wr.heap.size + 1) (some ⟨wr.heap.size, 0, none⟩) (bls [true])) := Lib.hid (Rd.new wr (bls [true]) 4)
          have HOC := Lib.hid (bls_one [true])
          have S1 : Hid ((j + 1) * 1 ≤ 140737488355328) := Lib.hid (by omega)
          have S2 : Hid (j + 1 ≤ 140737488355328) := Lib.hid (by omega)
          have hb1 : Below w3.heap.size w3 (wr.alloc (.cells #[.bool true] 4)) := HB.out.alloc HB.out.size _
          have HZ : Hid (w3.heap.size ≤ (wr.alloc (.cells #[.bool true] 4)).heap.size) := Lib.hid hb1.size
          have HB1 := Lib.hid hb1
          clear hb1
          go_wp2_with (at_builtin; refine wpList_append_g rfl (.tmp 80) (.tmp 81) 23 rfl w3.heap.size 4 (.bool false) 1 1 Try.underlying23 info_bool rfl (by omega) _ j (bls (List.replicate j true)) rfl HO1.out (wr.heap.size + 1) (some ⟨wr.heap.size, 0, none⟩) 1 1 (bls [true]) rfl rfl HR1.out HOC.out S1.out S2.out HZ.out ?_)
          intro v4 w4 hown4 hg4 hat4
          have hb4 := below_app HB1.out HO1.out (Nat.le_refl _) hg4
          have e1 : bls (List.replicate j true) ++ bls [true] = bls (List.replicate (j + 1) true) := by
            rw [bls, bls, bls, ← List.map_append, List.replicate_succ']
          rw [e1] at hown4
          have hfin : FulR w3 nl v4 (.int .i64 ((j : Int) + 1)) w4 := ⟨j + 1, hlt, by go_num, hown4, hb4⟩
          obtain ⟨a4, c4, rfl, _⟩ := OwnG.shape hown4
          have HFIN := Lib.hid hfin
          clear hown4 hg4 hat4 hb4 e1 hfin
          go_wp2_with fail
          all_goals go_roundw
          all_goals first
            | (case measure => simp [intOf]; omega)
            | exact HFIN.out
        · have hltI : ¬ ((j : Int) < (nl : Int)) := by omega
          have hjn : j = nl := by omega
          subst hjn
          go_wp2_with fail
          refine HWJ.out.mono ?_
          rintro e wq ⟨rfl, rfl⟩
          go_wp2_with fail
          go_meet
          exact ⟨HO.out, HB.out⟩
    case rest =>
      obtain ⟨hown, hb⟩ := hcut
      obtain ⟨af, cf, rfl, hcf⟩ := OwnG.shape hown
      rename World => w4
      have hcf2 : cf ≤ 9223372036854775807 := by
        rcases hown.2 with ⟨hv, _⟩ | ⟨_, _, cap, _, _, _, hv, _, _, _, _, _, hm, _⟩
        · injection hv with _ _ h3; omega
        · injection hv with _ _ h3; unfold maxLen at hm; omega
      have hrf : Rd w4 w4.heap.size af (bls (List.replicate nl true)) := OwnG.rd hown
      have hd4 := HD3.out.below hb
      have hs := HV.out.sound (by omega) (by omega) (by omega)
      have W2 := cut_any hd4.dev hs ak nk ck kl HKL.out HK63.out.1 HK63.out.2 (HKR.out.below hd4.bel |>.more hd4.bel.size)
      rw [HG3.out] at W2
      have HW2 := Lib.hid W2
      have HD4 := Lib.hid hd4
      have HRF := Lib.hid hrf
      have HCF := Lib.hid (And.intro hcf hcf2)
      have HS := Lib.hid hs
      clear hown hb hcf hcf2 hrf hd4 hs W2 HD3
      go_wp2_with fail
      refine HW2.out.mono ?_
      rintro e w5 ⟨L5, I5, rfl, h5, hk5, hf5⟩
      have hc5 := HD4.out.fresh h5 hk5 hf5
      have hd5 := HD4.out.below hf5.below
      have hs5 : Sound (D.cut kl) := ⟨HS.out.n1, HS.out.n2, Nat.zero_le _, Nat.zero_le _, (fun x hx => by cases hx), (fun x hx => by cases hx)⟩
      have W3 := cut_any hc5.dev hs5 aj nj cj jl HJL.out HJ63.out.1 HJ63.out.2 (HJR.out.below hc5.bel |>.more hc5.bel.size)
      have HW3 := Lib.hid W3
      have HC5 := Lib.hid hc5
      have HD5 := Lib.hid hd5
      have HRF5 := Lib.hid (HRF.out.below hf5.below |>.more hf5.below.size)
      clear h5 hk5 hf5 hc5 hd5 hs5 W3 HW2 HD4 HRF
      go_wp2_with fail
      refine HW3.out.mono ?_
      rintro e w6 ⟨L6, I6, rfl, h6, hk6, hf6⟩
      have hd6 := HD5.out.below hf6.below
      have hc6 := HC5.out.below hf6.below
      have hr6 := HRF5.out.below hf6.below |>.more hf6.below.size
      have W4 := cut_any hd6.dev HS.out af nl cf (List.replicate nl true) (by simp) HCF.out.1 HCF.out.2 hr6
      rw [HG3.out] at W4
      have HW4 := Lib.hid W4
      have HD6 := Lib.hid hd6
      have HC6 := Lib.hid hc6
      have HE6 := Lib.hid (HC5.out.fresh h6 hk6 hf6)
      have HR6 := Lib.hid hr6
      clear h6 hk6 hf6 hd6 hc6 hr6 W4 HW3 HD5 HC5 HRF5
      go_wp2_with fail
      refine HW4.out.mono ?_
      rintro e w7 ⟨L7, I7, rfl, h7, hk7, hf7⟩
      have hd7 := HD6.out.below hf7.below
      have hr7 := HR6.out.below hf7.below |>.more hf7.below.size
      have W5 := writes_any hd7.dev
      rw [HG3.out, HNL.out] at W5
      have W6 := cutAt_any hd7.dev HS.out (nl : Int) (by omega) (by omega) af nl cf (List.replicate nl true) (by simp) HCF.out.1 HCF.out.2 hr7
      rw [HG3.out] at W6
      have HW5 := Lib.hid W5
      have HW6 := Lib.hid W6
      have HD7 := Lib.hid hd7
      have HC7 := Lib.hid (HC6.out.below hf7.below)
      have HE7 := Lib.hid (HE6.out.below hf7.below)
      have HF7 := Lib.hid (HD6.out.fresh h7 hk7 hf7)
      clear h7 hk7 hf7 hd7 hr7 W5 W6 HW4 HD6 HC6 HE6 HR6
      go_wp2_with fail
      refine HW5.out.mono ?_
      rintro e wq ⟨rfl, rfl⟩
      go_wp2_with fail
      refine HW6.out.mono ?_
      rintro e w8 ⟨L8, I8, rfl, h8, hk8, hf8⟩
      have hd8 := HD7.out.below hf8.below
      have hc8 := HC7.out.below hf8.below
      have he8 := HE7.out.below hf8.below
      have hf8' := HF7.out.below hf8.below
      have hh8 := HD7.out.fresh h8 hk8 hf8
      have W7 := writes_any hc8.dev
      have HW7 : Hid (Calls Try.prog 26 #[.pointer (some ⟨L5.g, 0, none⟩)] w8 fun e w' => e = .returned (.int .i64 0) ∧ w8 = w') := Lib.hid W7
      have C1 : Hid (Car w8 L5.g (D.cut kl)) := Lib.hid ⟨_, _, rfl, hc8.dev⟩
      have C2 : Hid (Car w8 L6.g ((D.cut kl).cut jl)) := Lib.hid ⟨_, _, rfl, he8.dev⟩
      have C3 : Hid (Car w8 L7.g (D.cut (List.replicate nl true))) := Lib.hid ⟨_, _, rfl, hf8'.dev⟩
      have C4 : Hid (Car w8 L8.g (D.cutAt (nl : Int) (List.replicate nl true))) := Lib.hid ⟨_, _, rfl, hh8.dev⟩
      have C5 : Hid (Car w8 g D) := Lib.hid ⟨_, _, HG3.out, hd8.dev⟩
      have HB8 := Lib.hid hd8.bel
      have E2 : Hid (∀ i, readR ((D.cut kl).cut jl) i = readR (D.cut kl) i) := Lib.hid (fun i => cut_again D kl jl i)
      have E3 : Hid (∀ i, readR (D.cut (List.replicate nl true)) i = readR D i) := Lib.hid (fun i => cut_all HV.out nl (by rw [HNL.out]; exact Nat.le_refl _) i)
      have E4 : Hid (∀ i, readR (D.cutAt (nl : Int) (List.replicate nl true)) i = readR D i) := Lib.hid (fun i => by
        have h := cutAt_all HV.out i
        rw [HNL.out] at h
        exact h)
      clear h8 hk8 hf8 hd8 hc8 he8 hf8' hh8 W7 HW5 HW6 HD7 HC7 HE7 HF7
      generalize D.cut kl = D1 at C1 C2 E2
      generalize D1.cut jl = D2 at C2 E2
      generalize D.cut (List.replicate nl true) = D3 at C3 E3
      generalize D.cutAt (nl : Int) (List.replicate nl true) = D4 at C4 E4
      generalize L5.g = g1 at C1 HW7 ⊢
      generalize L6.g = g2 at C2 ⊢
      generalize L7.g = g3 at C3 ⊢
      generalize L8.g = g4 at C4 ⊢
      go_wp2_with fail
      refine HW7.out.mono ?_
      rintro e wq ⟨rfl, rfl⟩
      go_wp2_with fail
      go_loopw [16] (fun vi wr => SetR w8 vi wr) (fun vi _ => 8 - (intOf vi).toNat)
      case atStart => exact ⟨0, Nat.zero_le _, rfl, Below.refl _ _⟩
      case round =>
        obtain ⟨j, hj, rfl, hb⟩ := hrel
        have j0 : (0 : Int) ≤ (j : Int) := Int.natCast_nonneg j
        have HB := Lib.hid hb
        clear hb
        by_cases hlt : j < 8
        · have hltI : (j : Int) < 8 := by omega
          obtain ⟨⟨lo, eo⟩, hlo⟩ : ∃ r, readR D1 (j : Int) = r := ⟨_, rfl⟩
          obtain ⟨⟨ld, ed⟩, hld⟩ : ∃ r, readR D (j : Int) = r := ⟨_, rfl⟩
          have R1 : Hid (∀ wx, Below w8.heap.size w8 wx → Calls Try.prog 18 #[.pointer (some ⟨g1, 0, none⟩), .int .i64 (j : Int)] wx (ReadPost (lo, eo) wx)) := Lib.hid (fun wx hx => by have h := (C1.out.below hx).read (j : Int) (by omega) (by omega); rw [hlo] at h; exact h)
          have R2 : Hid (∀ wx, Below w8.heap.size w8 wx → Calls Try.prog 18 #[.pointer (some ⟨g2, 0, none⟩), .int .i64 (j : Int)] wx (ReadPost (lo, eo) wx)) := Lib.hid (fun wx hx => by have h := (C2.out.below hx).read (j : Int) (by omega) (by omega); rw [E2.out, hlo] at h; exact h)
          have R3 : Hid (∀ wx, Below w8.heap.size w8 wx → Calls Try.prog 18 #[.pointer (some ⟨g3, 0, none⟩), .int .i64 (j : Int)] wx (ReadPost (ld, ed) wx)) := Lib.hid (fun wx hx => by have h := (C3.out.below hx).read (j : Int) (by omega) (by omega); rw [E3.out, hld] at h; exact h)
          have R4 : Hid (∀ wx, Below w8.heap.size w8 wx → Calls Try.prog 18 #[.pointer (some ⟨g4, 0, none⟩), .int .i64 (j : Int)] wx (ReadPost (ld, ed) wx)) := Lib.hid (fun wx hx => by have h := (C4.out.below hx).read (j : Int) (by omega) (by omega); rw [E4.out, hld] at h; exact h)
          have R5 : Hid (∀ wx, Below w8.heap.size w8 wx → Calls Try.prog 18 #[.pointer (some ⟨g, 0, none⟩), .int .i64 (j : Int)] wx (ReadPost (ld, ed) wx)) := Lib.hid (fun wx hx => by have h := (C5.out.below hx).read (j : Int) (by omega) (by omega); rw [hld] at h; exact h)
          clear hlo hld
          go_wp2_with fail
          refine (R1.out _ HB.out).mono ?_
          rintro e wa ⟨a1, c1, rfl, ho1, hb1⟩
          simp only at ho1 ⊢
          have HO1 := Lib.hid (OwnB.rd ho1)
          have HBA := Lib.hid (HB.out.trans (hb1.mono HB.out.size))
          clear ho1 hb1
          go_wp2_with fail
          refine (R2.out _ HBA.out).mono ?_
          rintro e wb ⟨a2, c2, rfl, ho2, hb2⟩
          simp only at ho2 ⊢
          have HO1 := Lib.hid (HO1.out.below hb2 |>.more hb2.size)
          have HO2 := Lib.hid (OwnB.rd ho2)
          have HBB := Lib.hid (HBA.out.trans (hb2.mono HBA.out.size))
          clear ho2 hb2
          go_wp2_with fail
          refine (R3.out _ HBB.out).mono ?_
          rintro e wc ⟨a3, c3, rfl, ho3, hb3⟩
          simp only at ho3 ⊢
          have HO1 := Lib.hid (HO1.out.below hb3 |>.more hb3.size)
          have HO2 := Lib.hid (HO2.out.below hb3 |>.more hb3.size)
          have HO3 := Lib.hid (OwnB.rd ho3)
          have HBC := Lib.hid (HBB.out.trans (hb3.mono HBB.out.size))
          clear ho3 hb3
          go_wp2_with fail
          refine (R4.out _ HBC.out).mono ?_
          rintro e wd ⟨a4, c4, rfl, ho4, hb4⟩
          simp only at ho4 ⊢
          have HO1 := Lib.hid (HO1.out.below hb4 |>.more hb4.size)
          have HO2 := Lib.hid (HO2.out.below hb4 |>.more hb4.size)
          have HO3 := Lib.hid (HO3.out.below hb4 |>.more hb4.size)
          have HO4 := Lib.hid (OwnB.rd ho4)
          have HBD := Lib.hid (HBC.out.trans (hb4.mono HBC.out.size))
          clear ho4 hb4
          go_wp2_with fail
          refine (R5.out _ HBD.out).mono ?_
          rintro e we ⟨a5, c5, rfl, ho5, hb5⟩
          simp only at ho5 ⊢
          have HO1 := HO1.out.below hb5
          have HO2 := HO2.out.below hb5
          have HO3 := HO3.out.below hb5
          have HO4 := HO4.out.below hb5
          have HO5 := OwnB.rd ho5
          have hbe := HBD.out.trans (hb5.mono HBD.out.size)
          have S1 := same_any a1 a2 lo.length lo.length c1 c2 lo lo we rfl rfl HO1 HO2
          have S2 := same_any a3 a5 ld.length ld.length c3 c5 ld ld we rfl rfl HO3 HO5
          have S3 := same_any a4 a5 ld.length ld.length c4 c5 ld ld we rfl rfl HO4 HO5
          rw [beq_self_eq_true] at S1 S2 S3
          have HS1 := Lib.hid S1
          have HS2 := Lib.hid S2
          have HS3 := Lib.hid S3
          have hfin : SetR w8 (.int .i64 ((j : Int) + 1)) we := ⟨j + 1, hlt, by go_num, hbe⟩
          have HFIN := Lib.hid hfin
          clear HO1 HO2 HO3 HO4 HO5 ho5 hb5 hbe S1 S2 S3 hfin
          go_wp2_with fail
          refine HS1.out.mono ?_
          rintro e wq ⟨rfl, rfl⟩
          go_wp2_with fail
          refine HS2.out.mono ?_
          rintro e wq ⟨rfl, rfl⟩
          go_wp2_with fail
          refine HS3.out.mono ?_
          rintro e wq ⟨rfl, rfl⟩
          go_wp2_with fail
          all_goals go_roundw
          all_goals first
            | (case measure => simp [intOf]; omega)
            | exact HFIN.out
            | ((repeat apply Exists.intro); exact ⟨HFIN.out, rfl⟩)
        · have hltI : ¬ ((j : Int) < 8) := by omega
          go_wp2_with fail
          go_ret
          exact ⟨rfl, HB8.out.trans (HB.out.mono HB8.out.size)⟩
end Go.Proofs.Ythenpkimcjdkcaa
