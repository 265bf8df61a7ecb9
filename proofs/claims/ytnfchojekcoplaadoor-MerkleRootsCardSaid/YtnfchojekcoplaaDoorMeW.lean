/- law MerkleOwn (printed by gen_meown.py) -/
import Derived.Test.YtnfchojekcoplaaDoorMe12
namespace Go.Proofs.YtnfchojekcoplaaDoor
set_option linter.unusedVariables false
set_option linter.unusedSimpArgs false
open Go Go.RowKit

theorem wf_small (x : Int) (h1 : -1 ≤ x) (h2 : x ≤ 100000) : (Lit.int .i64 x).wf = true := by
  have e1 : IntKind.i64.min = -9223372036854775808 := by decide
  have e2 : IntKind.i64.max = 9223372036854775807 := by decide
  simp only [Lit.wf, e1, e2, Bool.and_eq_true, decide_eq_true_eq]
  omega
theorem lvN_get (n k : Nat) (hk : k < nlev n) : (lvN (lvs (n : Int)))[k]? = some (.int .i64 ((cnt n (k + 1) : Nat) : Int)) := by
  have hk' : k < (lvs (n : Int)).length := hk
  obtain ⟨x, hx⟩ : ∃ x, (lvs (n : Int))[k] = x := ⟨_, rfl⟩
  have hsp : lvs (n : Int) = (lvs (n : Int)).take k ++ x :: (lvs (n : Int)).drop (k + 1) := by
    rw [← hx, ← List.drop_eq_getElem_cons hk', List.take_append_drop]
  obtain ⟨_, e2⟩ := lvs_at n _ x _ hsp
  rw [List.length_take, Nat.min_eq_left (by omega)] at e2
  unfold lvN
  rw [List.getElem?_map, List.getElem?_eq_getElem hk', hx, Option.map_some, e2]
theorem pathAt_take {w : World} {ap : Option Addr} {ls : List (List UInt8)} (h : PathAt w ap ls) (m : Nat) : PathAt w ap (ls.take m) := by
  rcases h with h | ⟨bp, op, h1, h2, h3⟩
  · exact .inl (by rw [h]; simp)
  · refine .inr ⟨bp, op, h1, h2, fun k x hx => h3 k x ?_⟩
    rw [List.getElem?_take] at hx
    split at hx
    · exact hx
    · cases hx
def SmR (n : Nat) (w4 : World) (v8 v10 : Value) (wr : World) : Prop := ∃ k : Nat, v10 = .int .i64 (k : Int) ∧ k ≤ nlev n ∧ v8 = .int .i64 ((sumC n k : Nat) : Int) ∧ wr = w4
def OnR (n : Nat) (w5 : World) (v11 : Value) (wr : World) : Prop := ∃ i : Nat, v11 = .int .i64 (i : Int) ∧ i ≤ n ∧ Below w5.heap.size w5 wr

set_option maxRecDepth 16000 in
set_option maxHeartbeats 4000000 in
theorem law_MerkleOwn (ad : Option Addr) (nd cd : Nat) (data : List UInt8) (W : World) (hx : BytesIn W ad nd cd data) (hk : KOK W) :
    Calls Tryd.prog 5 #[.slice ad nd cd] W fun e w' => e = .returned (.bool true) ∧ Below W.heap.size W w' := by
  have HX := Lib.hid hx
  have HK := Lib.hid hk
  have hsm := hx.small
  have hcp := hx.le_cap
  clear hx hk
  go_enter Tryd.func5, Tryd.ntmps5
  go_wp2_with fail
  refine (picked_any data ad nd cd W HX.out.len_eq (by omega) HX.out.rd).mono ?_
  rintro e w1 ⟨n, hn1, hn2, d, hd, rfl, ho1, hb1⟩
  have hd64 : d.length / 64 = n := by omega
  have hok : okB d := by unfold okB; omega
  have hq : (64 * (n : Int)) / 64 = (n : Int) := by omega
  obtain ⟨gd, hgd⟩ : ∃ gd, W.heap.size = gd := ⟨_, rfl⟩
  have HBU := Lib.hid (mbuild_any d (some ⟨W.heap.size, 0, none⟩) (64 * n) (64 * n) w1 hd (Nat.le_refl _) (by omega) ho1.rd (HK.out.below hb1) hok)
  have HRD1 := Lib.hid ho1.rd
  have HB1 := Lib.hid hb1
  have HD := Lib.hid hd
  have HD64 := Lib.hid hd64
  clear ho1 hb1 hd hd64 hok hgd
  go_wp2_with fail
  refine HBU.out.mono ?_
  rintro e w2 ⟨vt, rfl, hot, hb2⟩
  obtain ⟨at_, ct, rfl, hct⟩ := OwnB.shape hot
  have hcapt := own_cap hot
  obtain ⟨LT, hLT⟩ : ∃ LT, (treeL d).length = LT := ⟨_, rfl⟩
  rw [hLT] at hot hct ⊢
  have hLTs : LT = 64 * sumC n (nlev n) := by
    rw [← hLT]; unfold treeL; rw [HD64.out]; exact treeB_length d n HD.out _
  have h12 : nlev n ≤ 12 := lvs_length (n : Int)
  have hsum : sumC n (nlev n) ≤ 24576 := Nat.le_trans (sumC_le (nlev n) n hn1) (Nat.mul_le_mul (show n ≤ 2048 by omega) h12)
  obtain ⟨X, Z, hX, hinf, hone, hzz, hzs, w3, hw3, hB3, hb3, hs3⟩ := keep_digest w2 (rootL d) (rootL_length _)
  rw [hX]
  have hb13 := hb2.trans (hb3.mono hb2.size)
  have HB03 := Lib.hid (HB1.out.trans (hb13.mono HB1.out.size))
  have HBR := Lib.hid hB3
  have HT3 : Hid (Rd w3 w3.heap.size at_ (bs (treeL d))) := Lib.hid ((hot.rd.below hb3).more hb3.size)
  have HD3 : Hid (Rd w3 w3.heap.size (some ⟨W.heap.size, 0, none⟩) (bs d)) := Lib.hid ((HRD1.out.below hb13).more hb13.size)
  have HLT := Lib.hid hLT
  have HLTS := Lib.hid hLTs
  obtain ⟨gr, hgr⟩ : ∃ gr, w2.heap.size = gr := ⟨_, rfl⟩
  clear hX hB3 hb3 hs3 hb2 hb13 hot hLT hLTs HBU hgr
  go_wp2_with (refine wpList_store_row rfl 24 _ _ rfl w2.heap.size X rfl rfl 24 Z hzz hinf hzs hone (hgoalL hw3 ?_))
  refine (mlevels_any (n : Int) w3).mono ?_
  rintro e w4 ⟨v9, rfl, ho9, hb4⟩
  obtain ⟨hcl, hnl⟩ := nlev_one n hn1 (by omega)
  rw [show (lvs (n : Int)).length = nlev n from rfl] at ho9
  obtain ⟨g9, o9, c9, rfl, hg9, hg9', hc9, hcells⟩ := OwnG.form ho9 (by omega)
  have KL : Hid (∀ k, k < nlev n → w4.cell? ⟨g9, o9 + k, none⟩ = some (.int .i64 ((cnt n (k + 1) : Nat) : Int))) := Lib.hid (fun k hk => hcells k _ (lvN_get n k hk))
  have hst : SmR n w4 (.int .i64 0) (.int .i64 0) w4 := ⟨0, rfl, Nat.zero_le _, rfl, rfl⟩
  have HST := Lib.hid hst
  have HB04 := Lib.hid (HB03.out.trans (hb4.mono HB03.out.size))
  have HBR4 := Lib.hid (HBR.out.below hb4)
  have HT4 : Hid (Rd w4 w4.heap.size at_ (bs (treeL d))) := Lib.hid ((HT3.out.below hb4).more hb4.size)
  have HD4 : Hid (Rd w4 w4.heap.size (some ⟨W.heap.size, 0, none⟩) (bs d)) := Lib.hid ((HD3.out.below hb4).more hb4.size)
  clear hst ho9 hb4 hcells HBR HT3 HD3 hzz hinf hzs hone hw3
  obtain ⟨NL, hNL⟩ : ∃ NL, nlev n = NL := ⟨_, rfl⟩
  have HNL := Lib.hid hNL
  rw [hNL] at hcl hnl h12 hsum HLTS KL hc9 ⊢
  clear hNL
  go_wp2_with fail
  go_loopw [8, 10] (fun v8 v10 wr => SmR n w4 v8 v10 wr) (fun _ v10 _ => NL - (intOf v10).toNat)
  case atStart => exact HST.out
  case round =>
    clear HST
    obtain ⟨k, rfl, hk, rfl, hwr⟩ := hrel
    rw [HNL.out] at hk
    subst hwr
    rename World => w4
    by_cases hgo : k < NL
    · have hgoI : (k : Int) < (NL : Int) := by omega
      have hc := KL.out k hgo
      obtain ⟨cv, hcv⟩ : ∃ cv, cnt n (k + 1) = cv := ⟨_, rfl⟩
      obtain ⟨sv, hsv⟩ : ∃ sv, sumC n k = sv := ⟨_, rfl⟩
      have hs1 := sumC_succ k n
      have hmono := sumC_mono n (k + 1) NL (by omega)
      rw [hcv] at hc hs1
      rw [hsv] at hs1 ⊢
      have hfin : SmR n w4 (.int .i64 ((sv : Int) + (cv : Int))) (.int .i64 ((k : Int) + 1)) w4 := ⟨k + 1, by push_cast; rfl, by rw [HNL.out]; omega, by rw [hs1]; push_cast; rfl, rfl⟩
      have HFIN := Lib.hid hfin
      clear hfin hcv hsv
      have hb1' : sv + cv ≤ 24576 := by omega
      clear hs1 hmono
      go_wp2_with fail
      all_goals go_roundw
      all_goals first
        | (case measure => simp [intOf]; omega)
        | exact HFIN.out
        | ((repeat apply Exists.intro); exact ⟨HFIN.out, rfl⟩)
    · have : k = NL := by omega
      subst this
      obtain ⟨sv, hsv⟩ : ∃ sv, sumC n k = sv := ⟨_, rfl⟩
      have hLT2 : LT = sv * 64 := by have := HLTS.out; rw [hsv] at this; omega
      rw [hsv] at hsum ⊢
      have hLT3 : (LT : Int) = (sv : Int) * 64 := by omega
      have HL2 := Lib.hid hLT2
      clear hsv hLT2
      go_wp2_with fail
      refine (mealive_any w4 (HK.out.below HB04.out)).mono ?_
      rintro e w5 ⟨rfl, hb5⟩
      have hne : ((LT : Int) != (sv : Int) * 64) = false := by simpa using hLT3
      have HBR5 := Lib.hid (HBR4.out.below hb5)
      have HT5 : Hid (Rd w5 w5.heap.size at_ (bs (treeL d))) := Lib.hid ((HT4.out.below hb5).more hb5.size)
      have HD5 : Hid (Rd w5 w5.heap.size (some ⟨W.heap.size, 0, none⟩) (bs d)) := Lib.hid ((HD4.out.below hb5).more hb5.size)
      have HB05 := Lib.hid (HB04.out.trans (hb5.mono HB04.out.size))
      have hst : OnR n w5 (.int .i64 0) w5 := ⟨0, rfl, Nat.zero_le _, Below.refl _ _⟩
      have HST := Lib.hid hst
      clear hst hb5 HBR4 HT4 HD4
      go_wp2_with fail
      go_loopw [11] (fun v11 wr => OnR n w5 v11 wr) (fun v11 _ => n - (intOf v11).toNat)
      case atStart => exact HST.out
      case round =>
        clear HST
        obtain ⟨i, rfl, hi, hb⟩ := hrel
        have i0 : (0 : Int) ≤ (i : Int) := Int.natCast_nonneg i
        by_cases hgi : i < n
        · have hgiI : (i : Int) < (n : Int) := by omega
          have w2' : IntKind.i64.wrap ((i : Int) * 64) = (i : Int) * 64 := by rw [IntKind.wrap_i64]; omega
          have w3' : IntKind.i64.wrap ((i : Int) + 1) = (i : Int) + 1 := by rw [IntKind.wrap_i64]; omega
          have w4' : IntKind.i64.wrap (((i : Int) + 1) * 64) = ((i : Int) + 1) * 64 := by rw [IntKind.wrap_i64]; omega
          have c3 : 0 ≤ (i : Int) * 64 := by omega
          have c3' : (i : Int) * 64 ≤ ((i : Int) + 1) * 64 := by omega
          have c6 : (i : Int) ≤ (i : Int) + 1 := by omega
          have c4 : 0 ≤ ((i : Int) + 1) * 64 := by omega
          have c4' : ((i : Int) + 1) * 64 ≤ ((64 * n : Nat) : Int) := by omega
          have c4'' : ((i : Int) + 1) * 64 ≤ 64 * (n : Int) := by omega
          have c5 : ¬ (64 * n = i * 64) := by omega
          have t2 : ((i : Int) * 64).toNat = i * 64 := by omega
          have t3 : (((i : Int) + 1) * 64).toNat = (i + 1) * 64 := by omega
          have l64 : (i + 1) * 64 - i * 64 = 64 := by omega
          have hsec : Rd wr wr.heap.size (some ⟨W.heap.size, i * 64, none⟩) (bs (secL d i)) := by
            have := (((HD5.out.below hb).more hb.size).drop (64 * i)).take 64
            rw [← bs_drop, ← bs_take] at this
            have e : (some ⟨W.heap.size, 0, none⟩ : Option Addr).map (·.add (64 * i)) = some ⟨W.heap.size, i * 64, none⟩ := by simp [Addr.add_lit, Nat.mul_comm]
            rw [e] at this
            exact this
          have HPA := Lib.hid (lpath_any d n i at_ LT ct wr HD.out hn1 (by omega) hgi HLT.out hct hcapt ((HT5.out.below hb).more hb.size))
          have HSEC := Lib.hid hsec
          have HBB := Lib.hid hb
          clear hsec hb
          go_wp2_with fail
          refine HPA.out.mono ?_
          rintro e w6 ⟨ap, cp, rfl, hcp1, hcp2, hpat, hb6⟩
          rw [HNL.out] at hcp1 hpat ⊢
          have HB06 := Lib.hid (HB05.out.trans ((HBB.out.trans (hb6.mono HBB.out.size)).mono HB05.out.size))
          have HR6 := Lib.hid (HBR5.out.below (HBB.out.trans (hb6.mono HBB.out.size)))
          have HSEC6 := Lib.hid ((HSEC.out.below hb6).more hb6.size)
          have HB56 := Lib.hid (HBB.out.trans (hb6.mono HBB.out.size))
          have HPAT := Lib.hid hpat
          have hsl : (secL d i).length = 64 := secL_length d i n HD.out hgi
          have hul := upS_length d n k 0 i
          have hlvk : (lvs (n : Int)).length = k := HNL.out
          have R1 : checkR (n : Int) (i : Int) (secL d i) ((upS d n 0 i k).take k) (rootL d) = true := by
            rw [List.take_of_length_le (by rw [hul]; exact Nat.le_refl _)]
            have := own_shows d n i HD.out hn1 (by omega) hgi
            rw [HNL.out] at this
            exact this
          have R2 : checkR (n : Int) (n : Int) (secL d i) ((upS d n 0 i k).take k) (rootL d) = false := by
            unfold checkR; rw [if_neg (by omega)]
          have R3 : checkR (n : Int) (-1) (secL d i) ((upS d n 0 i k).take k) (rootL d) = false := by
            unfold checkR; rw [if_neg (by omega)]
          have R4 : checkR (n : Int) (i : Int) (secL d i) ((upS d n 0 i k).take (k - 1)) (rootL d) = false := by
            unfold checkR
            rw [if_neg]
            rintro ⟨_, _, _, h, _⟩
            rw [List.length_take, hul, hlvk] at h
            omega
          have KC : Hid (∀ (wx : World) (ii : Int) (m : Nat), -1 ≤ ii → ii ≤ 40 → m ≤ k → Below w6.heap.size w6 wx → Calls Tryd.prog 13 #[.int .i64 (n : Int), .int .i64 ii, .slice (some ⟨W.heap.size, i * 64, none⟩) 64 (64 * n - i * 64), .slice (some ap) m cp, .slice (some ⟨w2.heap.size, 0, none⟩) 32 32] wx fun e w' => e = .returned (.bool (checkR (n : Int) ii (secL d i) ((upS d n 0 i k).take m) (rootL d))) ∧ Below w6.heap.size w6 w') := Lib.hid (fun wx ii m h1 h2 hm hb => by
            have hB := HR6.out.below hb
            refine (check_any (n : Int) ii (secL d i) (some ⟨W.heap.size, i * 64, none⟩) 64 (64 * n - i * 64) ((upS d n 0 i k).take m) (some ap) m cp (rootL d) (some ⟨w2.heap.size, 0, none⟩) 32 32 wx (wf_small _ h1 (by omega)) (wf_small _ (by omega) (by omega)) hsl (by omega) (by omega) ((HSEC6.out.below hb).more hb.size) (by rw [List.length_take, hul]; omega) (by omega) (pathAt_take (HPAT.out.below hb) m) (rootL_length _) (by omega) (rd_blk hB) ((HK.out.below HB06.out).below hb)).mono ?_
            rintro e w' ⟨rfl, h⟩
            exact ⟨rfl, hb.trans (h.mono hb.size)⟩)
          have RR := Lib.hid (And.intro R1 (And.intro R2 (And.intro R3 R4)))
          have hb0 : Below w6.heap.size w6 w6.drew := (Below.refl _ _).drew
          have f1 : IntKind.i64.wrap ((k : Int) - 1) = (k : Int) - 1 := by rw [IntKind.wrap_i64]; omega
          have f2 : 0 ≤ (k : Int) - 1 := by omega
          have f5 : 1 ≤ (k : Int) := by omega
          have f3 : (k : Int) - 1 ≤ (cp : Int) := by omega
          have f4 : ((k : Int) - 1).toNat = k - 1 := by omega
          clear R1 R2 R3 R4 hpat hb6 HPA HSEC hsl hul hlvk
          go_upto_region 17 with (fail)
          refine wp_region_held_drew (S := fun wx => Below w6.heap.size w6 wx) (by kernel_rfl) hb0 (fun hHeld => ?_)
          refine take_at (i := 0) (v := ?va0) 68 rfl rfl (by kernel_rfl) (by kernel_rfl) (by kernel_rfl) (fun _ _ _ h => h) (Or.inl ⟨by rfl, ?hya0⟩) hHeld ?ra0
          case hya0 => intro wx hSw; go_simp; try with_reducible rfl
          try simp only [Act.put, List.setIfInBounds_toArray, List.set_cons_zero, List.set_cons_succ]
          refine take_at (i := 1) (v := ?va1) 69 rfl rfl (by kernel_rfl) (by kernel_rfl) (by kernel_rfl) (fun _ _ _ h => h) (Or.inl ⟨by rfl, ?hya1⟩) hHeld ?ra1
          case hya1 => intro wx hSw; go_simp; try with_reducible rfl
          try simp only [Act.put, List.setIfInBounds_toArray, List.set_cons_zero, List.set_cons_succ]
          refine take_at (i := 2) (v := ?va2) 70 rfl rfl (by kernel_rfl) (by kernel_rfl) (by kernel_rfl) (fun _ _ _ h => h) (Or.inl ⟨by rfl, ?hya2⟩) hHeld ?ra2
          case hya2 => intro wx hSw; go_simp; try with_reducible rfl
          try simp only [Act.put, List.setIfInBounds_toArray, List.set_cons_zero, List.set_cons_succ]
          refine take_at (i := 3) (v := ?va3) 71 rfl rfl (by kernel_rfl) (by kernel_rfl) (by kernel_rfl) (fun _ _ _ h => h) (Or.inl ⟨by rfl, ?hya3⟩) hHeld ?ra3
          case hya3 => intro wx hSw; go_simp; try with_reducible rfl
          try simp only [Act.put, List.setIfInBounds_toArray, List.set_cons_zero, List.set_cons_succ]
          refine take_at (i := 4) (v := ?va4) 72 rfl rfl (by kernel_rfl) (by kernel_rfl) (by kernel_rfl) (fun _ _ _ h => h) (Or.inl ⟨by rfl, ?hya4⟩) hHeld ?ra4
          case hya4 => intro wx hSw; go_simp; try with_reducible rfl
          try simp only [Act.put, List.setIfInBounds_toArray, List.set_cons_zero, List.set_cons_succ]
          refine take_at (i := 5) (v := ?va5) 73 rfl rfl (by kernel_rfl) (by kernel_rfl) (by kernel_rfl) (fun _ _ _ h => h) (Or.inl ⟨by rfl, ?hya5⟩) hHeld ?ra5
          case hya5 => intro wx hSw; go_simp; try with_reducible rfl
          try simp only [Act.put, List.setIfInBounds_toArray, List.set_cons_zero, List.set_cons_succ]
          refine take_at (i := 6) (v := ?va6) 74 rfl rfl (by kernel_rfl) (by kernel_rfl) (by kernel_rfl) (fun _ _ _ h => h) (Or.inl ⟨by rfl, ?hya6⟩) hHeld ?ra6
          case hya6 => intro wx hSw; go_simp; try with_reducible rfl
          try simp only [Act.put, List.setIfInBounds_toArray, List.set_cons_zero, List.set_cons_succ]
          refine take_at (i := 7) (v := ?va7) 75 rfl rfl (by kernel_rfl) (by kernel_rfl) (by kernel_rfl) (fun _ _ _ h => h) (Or.inl ⟨by rfl, ?hya7⟩) hHeld ?ra7
          case hya7 => intro wx hSw; go_simp; try with_reducible rfl
          try simp only [Act.put, List.setIfInBounds_toArray, List.set_cons_zero, List.set_cons_succ]
          refine take_at (i := 8) (v := ?va8) 76 rfl rfl (by kernel_rfl) (by kernel_rfl) (by kernel_rfl) (fun _ _ _ h => h) (Or.inl ⟨by rfl, ?hya8⟩) hHeld ?ra8
          case hya8 => intro wx hSw; go_simp; try with_reducible rfl
          try simp only [Act.put, List.setIfInBounds_toArray, List.set_cons_zero, List.set_cons_succ]
          refine take_at (i := 9) (v := ?va9) 77 rfl rfl (by kernel_rfl) (by kernel_rfl) (by kernel_rfl) (fun _ _ _ h => h) (Or.inl ⟨by rfl, ?hya9⟩) hHeld ?ra9
          case hya9 => intro wx hSw; go_simp; try with_reducible rfl
          try simp only [Act.put, List.setIfInBounds_toArray, List.set_cons_zero, List.set_cons_succ]
          refine take_at (i := 10) (v := ?va10) 78 rfl rfl (by kernel_rfl) (by kernel_rfl) (by kernel_rfl) (fun _ _ _ h => h) (Or.inl ⟨by rfl, ?hya10⟩) hHeld ?ra10
          case hya10 => intro wx hSw; go_simp; try with_reducible rfl
          try simp only [Act.put, List.setIfInBounds_toArray, List.set_cons_zero, List.set_cons_succ]
          refine wpAnyH_ready (rs := [11]) (by kernel_rfl) (by simp) ?_
          refine cons_at (some 79) rfl rfl (fun hdst K hK => ?_) AllReadyH.nil
          refine step_call5 (by rfl) 13 (.tmp 74) (.tmp 75) (.tmp 76) (.tmp 77) (.tmp 78) #[3, 3, 22, 30, 22] (by rfl) (.int .i64 (n : Int)) (.int .i64 (i : Int)) (.slice (some ⟨W.heap.size, i * 64, none⟩) 64 (64 * n - i * 64)) (.slice (some ap) k cp) (.slice (some ⟨w2.heap.size, 0, none⟩) 32 32) (by rfl) (by rfl) (by rfl) (by rfl) (by rfl) (enters_of Tryd.func13 (by kernel_rfl) rfl) ?_
          refine (KC.out _ (i : Int) k (by omega) (by omega) (by omega) hHeld).mono ?_
          rintro e x1 ⟨rfl, hb9⟩
          rw [RR.out.1]
          refine ⟨_, rfl, ?_⟩
          refine hK.out _ _ hb9 (fun hHeld => ?_)
          clear hK K
          try rw [hdst]
          clear hdst
          try simp only [Act.put, List.setIfInBounds_toArray, List.set_cons_zero, List.set_cons_succ]
          refine take_at (i := 12) (v := ?va12) 80 rfl rfl (by kernel_rfl) (by kernel_rfl) (by kernel_rfl) (fun _ _ _ h => h) (Or.inl ⟨by rfl, ?hya12⟩) hHeld ?ra12
          case hya12 => intro wx hSw; go_simp; try with_reducible rfl
          try simp only [Act.put, List.setIfInBounds_toArray, List.set_cons_zero, List.set_cons_succ]
          refine take_at (i := 13) (v := ?va13) 81 rfl rfl (by kernel_rfl) (by kernel_rfl) (by kernel_rfl) (fun _ _ _ h => h) (Or.inl ⟨by rfl, ?hya13⟩) hHeld ?ra13
          case hya13 => intro wx hSw; go_simp; try with_reducible rfl
          try simp only [Act.put, List.setIfInBounds_toArray, List.set_cons_zero, List.set_cons_succ]
          refine take_at (i := 14) (v := ?va14) 82 rfl rfl (by kernel_rfl) (by kernel_rfl) (by kernel_rfl) (fun _ _ _ h => h) (Or.inl ⟨by rfl, ?hya14⟩) hHeld ?ra14
          case hya14 => intro wx hSw; go_simp; try with_reducible rfl
          try simp only [Act.put, List.setIfInBounds_toArray, List.set_cons_zero, List.set_cons_succ]
          refine take_at (i := 15) (v := ?va15) 83 rfl rfl (by kernel_rfl) (by kernel_rfl) (by kernel_rfl) (fun _ _ _ h => h) (Or.inl ⟨by rfl, ?hya15⟩) hHeld ?ra15
          case hya15 => intro wx hSw; go_simp; try with_reducible rfl
          try simp only [Act.put, List.setIfInBounds_toArray, List.set_cons_zero, List.set_cons_succ]
          refine take_at (i := 16) (v := ?va16) 84 rfl rfl (by kernel_rfl) (by kernel_rfl) (by kernel_rfl) (fun _ _ _ h => h) (Or.inl ⟨by rfl, ?hya16⟩) hHeld ?ra16
          case hya16 => intro wx hSw; go_simp; try with_reducible rfl
          try simp only [Act.put, List.setIfInBounds_toArray, List.set_cons_zero, List.set_cons_succ]
          refine take_at (i := 17) (v := ?va17) 85 rfl rfl (by kernel_rfl) (by kernel_rfl) (by kernel_rfl) (fun _ _ _ h => h) (Or.inl ⟨by rfl, ?hya17⟩) hHeld ?ra17
          case hya17 => intro wx hSw; go_simp; try with_reducible rfl
          try simp only [Act.put, List.setIfInBounds_toArray, List.set_cons_zero, List.set_cons_succ]
          refine take_at (i := 18) (v := ?va18) 86 rfl rfl (by kernel_rfl) (by kernel_rfl) (by kernel_rfl) (fun _ _ _ h => h) (Or.inl ⟨by rfl, ?hya18⟩) hHeld ?ra18
          case hya18 => intro wx hSw; go_simp; try with_reducible rfl
          try simp only [Act.put, List.setIfInBounds_toArray, List.set_cons_zero, List.set_cons_succ]
          refine take_at (i := 19) (v := ?va19) 87 rfl rfl (by kernel_rfl) (by kernel_rfl) (by kernel_rfl) (fun _ _ _ h => h) (Or.inl ⟨by rfl, ?hya19⟩) hHeld ?ra19
          case hya19 => intro wx hSw; go_simp; try with_reducible rfl
          try simp only [Act.put, List.setIfInBounds_toArray, List.set_cons_zero, List.set_cons_succ]
          refine wpAnyH_ready (rs := [20]) (by kernel_rfl) (by simp) ?_
          refine cons_at (some 88) rfl rfl (fun hdst K hK => ?_) AllReadyH.nil
          refine step_call5 (by rfl) 13 (.tmp 83) (.tmp 84) (.tmp 85) (.tmp 86) (.tmp 87) #[3, 3, 22, 30, 22] (by rfl) (.int .i64 (n : Int)) (.int .i64 (n : Int)) (.slice (some ⟨W.heap.size, i * 64, none⟩) 64 (64 * n - i * 64)) (.slice (some ap) k cp) (.slice (some ⟨w2.heap.size, 0, none⟩) 32 32) (by rfl) (by rfl) (by rfl) (by rfl) (by rfl) (enters_of Tryd.func13 (by kernel_rfl) rfl) ?_
          refine (KC.out _ (n : Int) k (by omega) (by omega) (by omega) hHeld).mono ?_
          rintro e x2 ⟨rfl, hb9⟩
          rw [RR.out.2.1]
          refine ⟨_, rfl, ?_⟩
          refine hK.out _ _ hb9 (fun hHeld => ?_)
          clear hK K
          try rw [hdst]
          clear hdst
          try simp only [Act.put, List.setIfInBounds_toArray, List.set_cons_zero, List.set_cons_succ]
          refine take_at (i := 21) (v := ?va21) 89 rfl rfl (by kernel_rfl) (by kernel_rfl) (by kernel_rfl) (fun _ _ _ h => h) (Or.inl ⟨by rfl, ?hya21⟩) hHeld ?ra21
          case hya21 => intro wx hSw; go_simp; try with_reducible rfl
          try simp only [Act.put, List.setIfInBounds_toArray, List.set_cons_zero, List.set_cons_succ]
          refine take_at (i := 22) (v := ?va22) 90 rfl rfl (by kernel_rfl) (by kernel_rfl) (by kernel_rfl) (fun _ _ _ h => h) (Or.inl ⟨by rfl, ?hya22⟩) hHeld ?ra22
          case hya22 => intro wx hSw; go_simp; try with_reducible rfl
          try simp only [Act.put, List.setIfInBounds_toArray, List.set_cons_zero, List.set_cons_succ]
          refine take_at (i := 23) (v := ?va23) 91 rfl rfl (by kernel_rfl) (by kernel_rfl) (by kernel_rfl) (fun _ _ _ h => h) (Or.inl ⟨by rfl, ?hya23⟩) hHeld ?ra23
          case hya23 => intro wx hSw; go_simp; try with_reducible rfl
          try simp only [Act.put, List.setIfInBounds_toArray, List.set_cons_zero, List.set_cons_succ]
          refine take_at (i := 24) (v := ?va24) 92 rfl rfl (by kernel_rfl) (by kernel_rfl) (by kernel_rfl) (fun _ _ _ h => h) (Or.inl ⟨by rfl, ?hya24⟩) hHeld ?ra24
          case hya24 => intro wx hSw; go_simp; try with_reducible rfl
          try simp only [Act.put, List.setIfInBounds_toArray, List.set_cons_zero, List.set_cons_succ]
          refine take_at (i := 25) (v := ?va25) 93 rfl rfl (by kernel_rfl) (by kernel_rfl) (by kernel_rfl) (fun _ _ _ h => h) (Or.inl ⟨by rfl, ?hya25⟩) hHeld ?ra25
          case hya25 => intro wx hSw; go_simp; try with_reducible rfl
          try simp only [Act.put, List.setIfInBounds_toArray, List.set_cons_zero, List.set_cons_succ]
          refine take_at (i := 26) (v := ?va26) 94 rfl rfl (by kernel_rfl) (by kernel_rfl) (by kernel_rfl) (fun _ _ _ h => h) (Or.inl ⟨by rfl, ?hya26⟩) hHeld ?ra26
          case hya26 => intro wx hSw; go_simp; try with_reducible rfl
          try simp only [Act.put, List.setIfInBounds_toArray, List.set_cons_zero, List.set_cons_succ]
          refine wpAnyH_ready (rs := [27]) (by kernel_rfl) (by simp) ?_
          refine cons_at (some 95) rfl rfl (fun hdst K hK => ?_) AllReadyH.nil
          refine step_call5 (by rfl) 13 (.tmp 91) (.const (.int .i64 (-1))) (.tmp 92) (.tmp 93) (.tmp 94) #[3, 3, 22, 30, 22] (by rfl) (.int .i64 (n : Int)) (.int .i64 (-1)) (.slice (some ⟨W.heap.size, i * 64, none⟩) 64 (64 * n - i * 64)) (.slice (some ap) k cp) (.slice (some ⟨w2.heap.size, 0, none⟩) 32 32) (by rfl) (by rfl) (by rfl) (by rfl) (by rfl) (enters_of Tryd.func13 (by kernel_rfl) rfl) ?_
          refine (KC.out _ (-1) k (by omega) (by omega) (by omega) hHeld).mono ?_
          rintro e x3 ⟨rfl, hb9⟩
          rw [RR.out.2.2.1]
          refine ⟨_, rfl, ?_⟩
          refine hK.out _ _ hb9 (fun hHeld => ?_)
          clear hK K
          try rw [hdst]
          clear hdst
          try simp only [Act.put, List.setIfInBounds_toArray, List.set_cons_zero, List.set_cons_succ]
          refine take_at (i := 28) (v := ?va28) 96 rfl rfl (by kernel_rfl) (by kernel_rfl) (by kernel_rfl) (fun _ _ _ h => h) (Or.inl ⟨by rfl, ?hya28⟩) hHeld ?ra28
          case hya28 => intro wx hSw; go_simp; try with_reducible rfl
          try simp only [Act.put, List.setIfInBounds_toArray, List.set_cons_zero, List.set_cons_succ]
          refine take_at (i := 29) (v := ?va29) 97 rfl rfl (by kernel_rfl) (by kernel_rfl) (by kernel_rfl) (fun _ _ _ h => h) (Or.inl ⟨by rfl, ?hya29⟩) hHeld ?ra29
          case hya29 => intro wx hSw; go_simp; try with_reducible rfl
          try simp only [Act.put, List.setIfInBounds_toArray, List.set_cons_zero, List.set_cons_succ]
          refine take_at (i := 30) (v := ?va30) 98 rfl rfl (by kernel_rfl) (by kernel_rfl) (by kernel_rfl) (fun _ _ _ h => h) (Or.inl ⟨by rfl, ?hya30⟩) hHeld ?ra30
          case hya30 => intro wx hSw; go_simp; try with_reducible rfl
          try simp only [Act.put, List.setIfInBounds_toArray, List.set_cons_zero, List.set_cons_succ]
          refine take_at (i := 31) (v := ?va31) 99 rfl rfl (by kernel_rfl) (by kernel_rfl) (by kernel_rfl) (fun _ _ _ h => h) (Or.inl ⟨by rfl, ?hya31⟩) hHeld ?ra31
          case hya31 => intro wx hSw; go_simp; try with_reducible rfl
          try simp only [Act.put, List.setIfInBounds_toArray, List.set_cons_zero, List.set_cons_succ]
          refine take_at (i := 32) (v := ?va32) 100 rfl rfl (by kernel_rfl) (by kernel_rfl) (by kernel_rfl) (fun _ _ _ h => h) (Or.inl ⟨by rfl, ?hya32⟩) hHeld ?ra32
          case hya32 => intro wx hSw; go_simp; try with_reducible rfl
          try simp only [Act.put, List.setIfInBounds_toArray, List.set_cons_zero, List.set_cons_succ]
          refine take_at (i := 33) (v := ?va33) 101 rfl rfl (by kernel_rfl) (by kernel_rfl) (by kernel_rfl) (fun _ _ _ h => h) (Or.inl ⟨by rfl, ?hya33⟩) hHeld ?ra33
          case hya33 => intro wx hSw; go_simp; try with_reducible rfl
          try simp only [Act.put, List.setIfInBounds_toArray, List.set_cons_zero, List.set_cons_succ]
          refine take_at (i := 34) (v := ?va34) 102 rfl rfl (by kernel_rfl) (by kernel_rfl) (by kernel_rfl) (fun _ _ _ h => h) (Or.inl ⟨by rfl, ?hya34⟩) hHeld ?ra34
          case hya34 => intro wx hSw; go_simp; try with_reducible rfl
          try simp only [Act.put, List.setIfInBounds_toArray, List.set_cons_zero, List.set_cons_succ]
          refine take_at (i := 35) (v := ?va35) 103 rfl rfl (by kernel_rfl) (by kernel_rfl) (by kernel_rfl) (fun _ _ _ h => h) (Or.inl ⟨by rfl, ?hya35⟩) hHeld ?ra35
          case hya35 => intro wx hSw; go_simp; try with_reducible rfl
          try simp only [Act.put, List.setIfInBounds_toArray, List.set_cons_zero, List.set_cons_succ]
          refine take_at (i := 36) (v := ?va36) 104 rfl rfl (by kernel_rfl) (by kernel_rfl) (by kernel_rfl) (fun _ _ _ h => h) (Or.inl ⟨by rfl, ?hya36⟩) hHeld ?ra36
          case hya36 => intro wx hSw; go_simp; try with_reducible rfl
          try simp only [Act.put, List.setIfInBounds_toArray, List.set_cons_zero, List.set_cons_succ]
          refine take_at (i := 37) (v := ?va37) 105 rfl rfl (by kernel_rfl) (by kernel_rfl) (by kernel_rfl) (fun _ _ _ h => h) (Or.inl ⟨by rfl, ?hya37⟩) hHeld ?ra37
          case hya37 => intro wx hSw; go_simp; try with_reducible rfl
          try simp only [Act.put, List.setIfInBounds_toArray, List.set_cons_zero, List.set_cons_succ]
          refine take_at (i := 38) (v := ?va38) 106 rfl rfl (by kernel_rfl) (by kernel_rfl) (by kernel_rfl) (fun _ _ _ h => h) (Or.inl ⟨by rfl, ?hya38⟩) hHeld ?ra38
          case hya38 => intro wx hSw; go_simp; try with_reducible rfl
          try simp only [Act.put, List.setIfInBounds_toArray, List.set_cons_zero, List.set_cons_succ]
          refine wpAnyH_ready (rs := [39]) (by kernel_rfl) (by simp) ?_
          refine cons_at (some 107) rfl rfl (fun hdst K hK => ?_) AllReadyH.nil
          refine step_call5 (by rfl) 13 (.tmp 98) (.tmp 99) (.tmp 100) (.tmp 105) (.tmp 106) #[3, 3, 22, 30, 22] (by rfl) (.int .i64 (n : Int)) (.int .i64 (i : Int)) (.slice (some ⟨W.heap.size, i * 64, none⟩) 64 (64 * n - i * 64)) (.slice (some ap) (k - 1) cp) (.slice (some ⟨w2.heap.size, 0, none⟩) 32 32) (by rfl) (by rfl) (by rfl) (by rfl) (by rfl) (enters_of Tryd.func13 (by kernel_rfl) rfl) ?_
          refine (KC.out _ (i : Int) (k - 1) (by omega) (by omega) (by omega) hHeld).mono ?_
          rintro e x4 ⟨rfl, hb9⟩
          rw [RR.out.2.2.2]
          refine ⟨_, rfl, ?_⟩
          refine hK.out _ _ hb9 (fun hHeld => ?_)
          clear hK K
          try rw [hdst]
          clear hdst
          try simp only [Act.put, List.setIfInBounds_toArray, List.set_cons_zero, List.set_cons_succ]
          refine take_at (i := 40) (v := ?va40) 108 rfl rfl (by kernel_rfl) (by kernel_rfl) (by kernel_rfl) (fun _ _ _ h => h) (Or.inl ⟨by rfl, ?hya40⟩) hHeld ?ra40
          case hya40 => intro wx hSw; go_simp; try with_reducible rfl
          try simp only [Act.put, List.setIfInBounds_toArray, List.set_cons_zero, List.set_cons_succ]
          refine wpAnyH_done (by kernel_rfl) ?_ _
          have HFIN : Hid (OnR n w5 (.int .i64 ((i : Int) + 1)) x4) := Lib.hid ⟨i + 1, by push_cast; rfl, hgi, HB56.out.trans (hb9.mono HB56.out.size)⟩
          go_wp2_with fail
          all_goals go_roundw
          all_goals first
            | (case measure => simp [intOf]; omega)
            | exact HFIN.out
            | ((repeat apply Exists.intro); exact ⟨HFIN.out, rfl⟩)
        · have : i = n := by omega
          subst this
          go_wp2_with fail
          go_ret
          exact ⟨rfl, HB05.out.trans (hb.mono HB05.out.size)⟩
end Go.Proofs.YtnfchojekcoplaaDoor
