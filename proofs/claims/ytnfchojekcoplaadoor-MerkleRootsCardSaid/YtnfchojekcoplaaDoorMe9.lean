/- the live question of layer 6 -/
import Derived.Test.YtnfchojekcoplaaDoorMe8
namespace Go.Proofs.YtnfchojekcoplaaDoor
set_option linter.unusedVariables false
set_option linter.unusedSimpArgs false
open Go Go.RowKit

theorem lvs5 : lvs 5 = [(0, 3), (3, 2), (5, 1)] := by decide
theorem path54 : pathI 5 4 = [2, 4, 5] := by decide

theorem okB_zeros : okB (zeros 64) := by unfold okB; rw [zeros_length]; decide
theorem treeL_one (d : List UInt8) (h : d.length = 64) : treeL d = lev d 1 1 ∧ (treeL d).length = 64 := by
  have hn : d.length / 64 = 1 := by rw [h]
  have hl : nlev 1 = 1 := by decide
  have e : treeL d = lev d 1 1 := by
    unfold treeL
    rw [hn, hl]
    rfl
  exact ⟨e, by rw [e, lev_length d 1 (by omega) 1]; rfl⟩
theorem one_shows : checkR 1 0 (zeros 64) [treeL (zeros 64)] (rootL (zeros 64)) = true := by
  have h := own_shows (zeros 64) 1 0 (by rw [zeros_length]) (by omega) (by omega) (by omega)
  have hl : nlev 1 = 1 := by decide
  rw [hl] at h
  have e1 : secL (zeros 64) 0 = zeros 64 := secL_whole _ (zeros_length _)
  obtain ⟨e2, e3⟩ := treeL_one (zeros 64) (zeros_length _)
  have e4 : upS (zeros 64) 1 0 0 1 = [treeL (zeros 64)] := by
    rw [e2]
    show [secL (lev (zeros 64) 1 (0 + 1)) (0 / 2)] = _
    rw [show (0 : Nat) / 2 = 0 from rfl, secL_whole _ (by rw [← e2]; exact e3)]
  rw [e1, e4] at h
  exact h

theorem step_makeB {w : World} {ops : Array Oper} {o : Oper} {a : Act} {K : Act → World → Prop} {Q : Exit → Act → World → Prop} {E : Prop} (hw : Region.wanted o (yielded ops a.tmps) = true) (l c : Operand) (hop : o.op = Op.makeSlice 22 l c)
    (n : Nat) (hl : a.eval l = .int .i64 (n : Int)) (hc : a.eval c = .int .i64 (n : Int)) (hn : n ≤ 281474976710656)
    (h : ∀ w', OwnB w' w.heap.size (.slice (some ⟨w.heap.size, 0, none⟩) n n) (zeros n) → w.grownBy w' none → K (a.put o.dst (.slice (some ⟨w.heap.size, 0, none⟩) n n)) w') :
    if Region.wanted o (yielded ops a.tmps) = true then Oper.wp Tryd.prog o a w K Q else E := by
  rw [if_pos hw]
  obtain ⟨i0, hi, hz0, hz1, hz2⟩ := info_parts info_u8
  obtain ⟨w', hrun, r1, r2⟩ := run_make_full (P := Tryd.prog) w w.heap.size 22 5 i0 (.int .u8 0) 1 Tryd.underlying22 hi hz0 hz1 .i64 .i64 n (by rw [hz2]; omega) (by unfold maxLen; omega) (Nat.le_refl _)
  unfold Oper.wp
  simp [execOp, hop, hl, hc, hrun, Result.andThen]
  rw [Nat.mul_one] at r1
  exact h w' (OwnB.of (own_zero r1)) r2

theorem step_call0 {P : Program} {ops : Array Oper} {o : Oper} {a : Act} {w : World} {K : Act → World → Prop} {Q : Exit → Act → World → Prop} {E : Prop} (hw : Region.wanted o (yielded ops a.tmps) = true) (f : FuncId) (T : Array TypeId) (ho : o.op = .call { callee := .value (.func f), args := #[], argTypes := T })
    (he : ∀ (args : Array Value) (w : World), (callFunc f args).run P w = .ok (.enter f args) w)
    (hc : Calls P f #[] w fun e w'' => ∃ v, e = .returned v ∧ K (a.put o.dst v) w'') : if Region.wanted o (yielded ops a.tmps) = true then Oper.wp P o a w K Q else E := by
  have hrun : (execOp a.eval o).run P w = .ok (.enter f #[]) w := by
    have hfv : a.eval (.func f) = .func (.func f) #[] #[] := rfl
    generalize a.eval = ev at hfv
    unfold execOp
    simp [ho, resolve, invoke, hfv, he, go_sem]
  rw [if_pos hw]
  unfold Oper.wp
  rw [hrun, Oper.upon_enter]
  refine hc.mono fun e w'' hh => ?_
  obtain ⟨v, rfl, hK⟩ := hh
  exact hK

theorem step_call5 {P : Program} {ops : Array Oper} {o : Oper} {a : Act} {w : World} {K : Act → World → Prop} {Q : Exit → Act → World → Prop} {E : Prop} (hw : Region.wanted o (yielded ops a.tmps) = true) (f : FuncId) (x1 x2 x3 x4 x5 : Operand) (T : Array TypeId) (ho : o.op = .call { callee := .value (.func f), args := #[x1, x2, x3, x4, x5], argTypes := T }) (u1 u2 u3 u4 u5 : Value) (h1 : a.eval x1 = u1) (h2 : a.eval x2 = u2) (h3 : a.eval x3 = u3) (h4 : a.eval x4 = u4) (h5 : a.eval x5 = u5)
    (he : ∀ (args : Array Value) (w : World), (callFunc f args).run P w = .ok (.enter f args) w)
    (hc : Calls P f #[u1, u2, u3, u4, u5] w fun e w'' => ∃ v, e = .returned v ∧ K (a.put o.dst v) w'') : if Region.wanted o (yielded ops a.tmps) = true then Oper.wp P o a w K Q else E := by
  have hrun : (execOp a.eval o).run P w = .ok (.enter f #[u1, u2, u3, u4, u5]) w := by
    have hfv : a.eval (.func f) = .func (.func f) #[] #[] := rfl
    generalize a.eval = ev at h1 h2 h3 h4 h5 hfv
    unfold execOp
    simp [ho, resolve, invoke, h1, h2, h3, h4, h5, hfv, he, go_sem]
  rw [if_pos hw]
  unfold Oper.wp
  rw [hrun, Oper.upon_enter]
  refine hc.mono fun e w'' hh => ?_
  obtain ⟨v, rfl, hK⟩ := hh
  exact hK

theorem pathAt_one {w : World} {a : Option Addr} {x : List UInt8} {n c : Nat} (hx : x.length = n) (hc : n ≤ c) (hc2 : c ≤ 9223372036854775807) (hr : Rd w w.heap.size a (bs x)) :
    PathAt (w.alloc (.cells #[.slice a n c] 22)) (some ⟨w.heap.size, 0, none⟩) [x] := by
  refine .inr ⟨w.heap.size, 0, rfl, by simp, fun k y hy => ?_⟩
  cases k with
  | zero =>
    injection hy with hy
    subst hy
    refine ⟨a, c, ?_, by omega, hc2, (hr.alloc (Nat.le_refl _) _).more (by simp)⟩
    rw [hx]
    exact (Boxed.new w _ _).cell
  | succ k => cases hy

set_option maxRecDepth 16000 in
set_option maxHeartbeats 2000000 in
theorem mealive_any (w : World) (hk : KOK w) : Calls Tryd.prog 9 #[] w fun e w' => e = .returned (.bool true) ∧ Below w.heap.size w w' := by
  have HK := Lib.hid hk
  clear hk
  go_enter Tryd.func9, Tryd.ntmps9
  go_wp2_with fail
  refine (mlevels_any 5 w).mono ?_
  rintro e w1 ⟨v1, rfl, ho1, hb1⟩
  rw [lvs5] at ho1
  obtain ⟨g1, o1, c1, rfl, hg1, hg1', hc1, _⟩ := OwnG.form ho1 (by decide)
  have r1 := OwnG.cellAt ho1 0 (.int .i64 3) rfl
  have HB1 := Lib.hid hb1
  clear ho1 hb1
  go_wp2_with fail
  refine (mpath_any 5 4 w1).mono ?_
  rintro e w2 ⟨v2, rfl, ho2, hb2⟩
  rw [path54] at ho2
  obtain ⟨g2, o2, c2, rfl, hg2, hg2', hc2, _⟩ := OwnG.form ho2 (by decide)
  have r1' := (hb2.cell (p := ⟨g1, o1 + 0, none⟩) hg1').trans r1
  have r2 := OwnG.cellAt ho2 1 (.int .i64 4) rfl
  have r3 := OwnG.cellAt ho2 2 (.int .i64 5) rfl
  simp only [Nat.add_zero] at r1'
  have HB2 := Lib.hid (HB1.out.trans (hb2.mono HB1.out.size))
  clear ho2 hb2 r1
  have k1 : ([(0, 3), (3, 2), (5, 1)] : List (Nat × Nat)).length = 3 := rfl
  have k2 : ([2, 4, 5] : List Nat).length = 3 := rfl
  rw [k1, k2] at *
  go_upto_region 5 with (fail)
  go_wp2_with (refine wpList_makeB _ rfl _ _ rfl .i64 .i64 64 64 64 rfl rfl rfl rfl (by omega) ?_; intro w3 ho3 hg3; have HO3 := Lib.hid ho3; have HG3 := Lib.hid hg3; clear ho3 hg3)
  have hb23 : Below w2.heap.size w2 w3 := below_grown HG3.out (Nat.le_refl _) (fun _ h => by cases h)
  have hb03 : Below w.heap.size w w3 := HB2.out.trans (hb23.mono HB2.out.size)
  refine (mbuild_any (zeros 64) (some ⟨w2.heap.size, 0, none⟩) 64 64 w3 (zeros_length _) (Nat.le_refl _) (by omega) HO3.out.rd (HK.out.below hb03) okB_zeros).mono ?_
  rintro e w4 ⟨vt, rfl, hot, hb4⟩
  obtain ⟨htl1, htl⟩ := treeL_one (zeros 64) (zeros_length _)
  obtain ⟨gt, ot, ct, hvt, hgt, hgt2, hct, _⟩ := OwnB.form hot (by omega)
  rw [htl] at hvt hct
  subst hvt
  have hct2 : ct ≤ 9223372036854775807 := by
    rcases hot.2 with ⟨h, _⟩ | ⟨g', off', cap', cur, lo, hi, h, _, _, _, _, _, h9, _⟩
    · cases h
    · injection h with _ _ h
      unfold maxLen at h9
      omega
  have hrt : Rd w4 w4.heap.size (some ⟨gt, ot, none⟩) (bs (treeL (zeros 64))) := (by
    have hot' : OwnB w4 w3.heap.size (.slice (some ⟨gt, ot, none⟩) 64 ct) (treeL (zeros 64)) := hot
    exact hot'.rd)
  obtain ⟨X, Z, hX, hinf, hone, hzz, hzs, w5, hw5, hB5, hb5, hs5⟩ := keep_digest w4 (rootL (zeros 64)) (rootL_length _)
  rw [hX]
  have hb04 : Below w.heap.size w w4 := hb03.trans (hb4.mono hb03.size)
  have HB5 := Lib.hid hB5
  have HB05 := Lib.hid (hb04.trans (hb5.mono hb04.size))
  have HRT := Lib.hid ((hrt.below hb5).more hb5.size)
  have HLT := Lib.hid htl
  have HCT := Lib.hid (And.intro hct hct2)
  clear hX hB5 hb5 hs5 hb4 hot hrt htl htl1 hct hct2 hb23 hb03 hb04 HO3 HG3 HB1 HB2
  go_wp2_with (refine wpList_store_row rfl 24 _ _ rfl w4.heap.size X rfl rfl 24 Z hzz hinf hzs hone (hgoalL hw5 ?_))
  --REG6
  have hb6 : Below w5.heap.size w5 w5.drew := (Below.refl _ _).drew
  have KC : Hid (∀ (wx : World) (am ap : Addr), Below w5.heap.size w5 wx → Rd wx wx.heap.size (some am) (bs (zeros 64)) → PathAt wx (some ap) [treeL (zeros 64)] → Calls Tryd.prog 13 #[.int .i64 1, .int .i64 0, .slice (some am) 64 64, .slice (some ap) 1 1, .slice (some ⟨w4.heap.size, 0, none⟩) 32 32] wx fun e w' => e = .returned (.bool true) ∧ Below w5.heap.size w5 w') := Lib.hid (fun wx am ap hb h1 h2 => by
    have hB := HB5.out.below hb
    refine (check_any 1 0 (zeros 64) (some am) 64 64 [treeL (zeros 64)] (some ap) 1 1 (rootL (zeros 64)) (some ⟨w4.heap.size, 0, none⟩) 32 32 wx (by decide) (by decide) (zeros_length _) (Nat.le_refl _) (by omega) h1 rfl (by omega) h2 (rootL_length _) (by omega) (.inr ⟨w4.heap.size, 0, rfl, lt_of_heap hB, fun q u hu => by rw [Nat.zero_add]; exact hB.cell q u hu⟩) ((HK.out.below HB05.out).below hb)).mono ?_
    rintro e w' ⟨rfl, h⟩
    rw [one_shows]
    exact ⟨rfl, hb.trans (h.mono hb.size)⟩)
  have KP : Hid (∀ (wx : World), Below w5.heap.size w5 wx → PathAt (wx.alloc (.cells #[.slice (some ⟨gt, ot, none⟩) 64 ct] 22)) (some ⟨wx.heap.size, 0, none⟩) [treeL (zeros 64)]) := Lib.hid (fun wx hb => pathAt_one HLT.out HCT.out.1 HCT.out.2 ((HRT.out.below hb).more hb.size))
  have KA : Hid (∀ (wx : World) (o : Obj), Below w5.heap.size w5 wx → Below w5.heap.size w5 (wx.alloc o)) := Lib.hid (fun wx o hb => hb.alloc hb.size o)
  have KG : Hid (∀ (wx wy : World), Below w5.heap.size w5 wx → wx.grownBy wy none → Below w5.heap.size w5 wy ∧ Below wx.heap.size wx wy) := Lib.hid (fun wx wy hb hg => ⟨hb.trans (below_grown hg hb.size (fun _ h => by cases h)), below_grown hg (Nat.le_refl _) (fun _ h => by cases h)⟩)
  clear hw5 hzz hinf hone hzs
  refine wp_region_held_drew (S := fun wx => Below w5.heap.size w5 wx) (by kernel_rfl) hb6 (fun hHeld => ?_)
  refine take_at (i := 0) (v := ?va0) 40 rfl rfl (by kernel_rfl) (by kernel_rfl) (by kernel_rfl) (fun _ _ _ h => h) (Or.inl ⟨by rfl, ?hya0⟩) hHeld ?ra0
  case hya0 => intro wx hSw; go_simp; try with_reducible rfl
  try simp only [Act.put, List.setIfInBounds_toArray, List.set_cons_zero, List.set_cons_succ]
  refine take_at (i := 1) (v := ?va1) 41 rfl rfl (by kernel_rfl) (by kernel_rfl) (by kernel_rfl) (fun _ _ _ h => h) (Or.inl ⟨by rfl, ?hya1⟩) hHeld ?ra1
  case hya1 => intro wx hSw; go_simp; try with_reducible rfl
  try simp only [Act.put, List.setIfInBounds_toArray, List.set_cons_zero, List.set_cons_succ]
  refine take_at (i := 2) (v := ?va2) 42 rfl rfl (by kernel_rfl) (by kernel_rfl) (by kernel_rfl) (fun _ _ _ h => h) (Or.inl ⟨by rfl, ?hya2⟩) hHeld ?ra2
  case hya2 => intro wx hSw; go_simp; try with_reducible rfl
  try simp only [Act.put, List.setIfInBounds_toArray, List.set_cons_zero, List.set_cons_succ]
  refine take_at (i := 3) (v := ?va3) 43 rfl rfl (by kernel_rfl) (by kernel_rfl) (by kernel_rfl) (fun _ _ _ h => h) (Or.inl ⟨by rfl, ?hya3⟩) hHeld ?ra3
  case hya3 => intro wx hSw; go_simp; try with_reducible rfl
  try simp only [Act.put, List.setIfInBounds_toArray, List.set_cons_zero, List.set_cons_succ]
  refine take_at (i := 4) (v := ?va4) 44 rfl rfl (by kernel_rfl) (by kernel_rfl) (by kernel_rfl) (fun _ _ _ h => h) (Or.inl ⟨by rfl, ?hya4⟩) hHeld ?ra4
  case hya4 => intro wx hSw; go_simp; try with_reducible rfl
  try simp only [Act.put, List.setIfInBounds_toArray, List.set_cons_zero, List.set_cons_succ]
  refine take_at (i := 5) (v := ?va5) 45 rfl rfl (by kernel_rfl) (by kernel_rfl) (by kernel_rfl) (fun _ _ _ h => h) (Or.inl ⟨by rfl, ?hya5⟩) hHeld ?ra5
  case hya5 => intro wx hSw; go_simp; try with_reducible rfl
  try simp only [Act.put, List.setIfInBounds_toArray, List.set_cons_zero, List.set_cons_succ]
  refine take_at (i := 6) (v := ?va6) 46 rfl rfl (by kernel_rfl) (by kernel_rfl) (by kernel_rfl) (fun _ _ _ h => h) (Or.inl ⟨by rfl, ?hya6⟩) hHeld ?ra6
  case hya6 => intro wx hSw; go_simp; try with_reducible rfl
  try simp only [Act.put, List.setIfInBounds_toArray, List.set_cons_zero, List.set_cons_succ]
  refine take_at (i := 7) (v := ?va7) 47 rfl rfl (by kernel_rfl) (by kernel_rfl) (by kernel_rfl) (fun _ _ _ h => h) (Or.inl ⟨by rfl, ?hya7⟩) hHeld ?ra7
  case hya7 => intro wx hSw; go_simp; try with_reducible rfl
  try simp only [Act.put, List.setIfInBounds_toArray, List.set_cons_zero, List.set_cons_succ]
  refine take_at (i := 9) (v := ?va9) 49 rfl rfl (by kernel_rfl) (by kernel_rfl) (by kernel_rfl) (fun _ _ _ h => h) (Or.inl ⟨by rfl, ?hya9⟩) hHeld ?ra9
  case hya9 => intro wx hSw; go_simp; try with_reducible rfl
  try simp only [Act.put, List.setIfInBounds_toArray, List.set_cons_zero, List.set_cons_succ]
  refine take_at (i := 11) (v := ?va11) 51 rfl rfl (by kernel_rfl) (by kernel_rfl) (by kernel_rfl) (fun _ _ _ h => h) (Or.inl ⟨by rfl, ?hya11⟩) hHeld ?ra11
  case hya11 => intro wx hSw; go_simp; try with_reducible rfl
  try simp only [Act.put, List.setIfInBounds_toArray, List.set_cons_zero, List.set_cons_succ]
  refine wpAnyH_ready (rs := [8, 10]) (by kernel_rfl) (by simp) ?_
  refine cons_at (some 48) rfl rfl (fun hdst K hK => ?_) ?_
  · refine step_makeB (by rfl) (.const (.int .i64 64)) (.const (.int .i64 64)) (by rfl) 64 (by rfl) (by rfl) (by omega) ?_
    intro wm hom hgm
    obtain ⟨hbm, hbm'⟩ := KG.out _ _ hHeld hgm
    refine hK.out _ _ hbm (fun hHeld => ?_)
    clear hK K
    try rw [hdst]
    clear hdst
    try simp only [Act.put, List.setIfInBounds_toArray, List.set_cons_zero, List.set_cons_succ]
    refine wpAnyH_ready (rs := [10]) (by kernel_rfl) (by simp) ?_
    refine cons_at (some 50) rfl rfl (fun hdst K hK => ?_) ?_
    · have hpa := KP.out _ hbm
      have hba := KA.out _ (.cells #[.slice (some ⟨gt, ot, none⟩) 64 ct] 22) hbm
      go_simp
      refine hK.out _ _ hba (fun hHeld => ?_)
      clear hK K
      try rw [hdst]
      clear hdst
      try simp only [Act.put, List.setIfInBounds_toArray, List.set_cons_zero, List.set_cons_succ]
      have hrd : Rd (wm.alloc (.cells #[.slice (some ⟨gt, ot, none⟩) 64 ct] 22)) (wm.alloc (.cells #[.slice (some ⟨gt, ot, none⟩) 64 ct] 22)).heap.size (some ⟨w5.drew.heap.size, 0, none⟩) (bs (zeros 64)) := ((OwnB.rd hom).alloc (Nat.le_refl _) _).more (by rw [World.size_alloc]; omega)
      refine wpAnyH_ready (rs := [12]) (by kernel_rfl) (by simp) ?_
      refine cons_at (some 52) rfl rfl (fun hdst K hK => ?_) AllReadyH.nil
      refine step_call5 (by rfl) 13 (.const (.int .i64 1)) (.const (.int .i64 0)) (.tmp 48) (.tmp 50) (.tmp 51) #[3, 3, 22, 30, 22] (by rfl) (.int .i64 1) (.int .i64 0) (.slice (some ⟨w5.drew.heap.size, 0, none⟩) 64 64) (.slice (some ⟨wm.heap.size, 0, none⟩) 1 1) (.slice (some ⟨w4.heap.size, 0, none⟩) 32 32) (by rfl) (by rfl) (by rfl) (by rfl) (by rfl) (enters_of Tryd.func13 (by kernel_rfl) rfl) ?_
      refine (KC.out _ ⟨w5.drew.heap.size, 0, none⟩ ⟨wm.heap.size, 0, none⟩ hba hrd hpa).mono ?_
      rintro e w9 ⟨rfl, hb9⟩
      refine ⟨_, rfl, ?_⟩
      refine hK.out _ _ hb9 (fun hHeld => ?_)
      clear hK K
      try rw [hdst]
      clear hdst
      try simp only [Act.put, List.setIfInBounds_toArray, List.set_cons_zero, List.set_cons_succ]
      refine take_at (i := 13) (v := ?vb7413) 53 rfl rfl (by kernel_rfl) (by kernel_rfl) (by kernel_rfl) (fun _ _ _ h => h) (Or.inl ⟨by rfl, ?hyb7413⟩) hHeld ?rb7413
      case hyb7413 => intro wx hSw; go_simp; try with_reducible rfl
      try simp only [Act.put, List.setIfInBounds_toArray, List.set_cons_zero, List.set_cons_succ]
      refine take_at (i := 14) (v := ?vb7414) 0 rfl rfl (by kernel_rfl) (by kernel_rfl) (by kernel_rfl) (fun _ _ _ h => h) (Or.inl ⟨by rfl, ?hyb7414⟩) hHeld ?rb7414
      case hyb7414 => intro wx hSw; go_simp; try with_reducible rfl
      try simp only [Act.put, List.setIfInBounds_toArray, List.set_cons_zero, List.set_cons_succ]
      refine wpAnyH_done (by kernel_rfl) ?_ _
      go_wp2_with fail
      go_ret
      exact ⟨rfl, HB05.out.trans (hb9.mono HB05.out.size)⟩
    exact AllReadyH.nil
  refine cons_at (some 50) rfl rfl (fun hdst K hK => ?_) ?_
  · have hpa := KP.out _ hHeld
    have hba := KA.out _ (.cells #[.slice (some ⟨gt, ot, none⟩) 64 ct] 22) hHeld
    go_simp
    refine hK.out _ _ hba (fun hHeld => ?_)
    clear hK K
    try rw [hdst]
    clear hdst
    try simp only [Act.put, List.setIfInBounds_toArray, List.set_cons_zero, List.set_cons_succ]
    refine wpAnyH_ready (rs := [8]) (by kernel_rfl) (by simp) ?_
    refine cons_at (some 48) rfl rfl (fun hdst K hK => ?_) ?_
    · refine step_makeB (by rfl) (.const (.int .i64 64)) (.const (.int .i64 64)) (by rfl) 64 (by rfl) (by rfl) (by omega) ?_
      intro wm hom hgm
      obtain ⟨hbm, hbm'⟩ := KG.out _ _ hba hgm
      refine hK.out _ _ hbm (fun hHeld => ?_)
      clear hK K
      try rw [hdst]
      clear hdst
      try simp only [Act.put, List.setIfInBounds_toArray, List.set_cons_zero, List.set_cons_succ]
      have hrd := OwnB.rd hom
      have hpa' := hpa.below hbm'
      refine wpAnyH_ready (rs := [12]) (by kernel_rfl) (by simp) ?_
      refine cons_at (some 52) rfl rfl (fun hdst K hK => ?_) AllReadyH.nil
      refine step_call5 (by rfl) 13 (.const (.int .i64 1)) (.const (.int .i64 0)) (.tmp 48) (.tmp 50) (.tmp 51) #[3, 3, 22, 30, 22] (by rfl) (.int .i64 1) (.int .i64 0) (.slice (some ⟨(w5.drew.alloc (.cells #[.slice (some ⟨gt, ot, none⟩) 64 ct] 22)).heap.size, 0, none⟩) 64 64) (.slice (some ⟨w5.drew.heap.size, 0, none⟩) 1 1) (.slice (some ⟨w4.heap.size, 0, none⟩) 32 32) (by rfl) (by rfl) (by rfl) (by rfl) (by rfl) (enters_of Tryd.func13 (by kernel_rfl) rfl) ?_
      refine (KC.out _ ⟨(w5.drew.alloc (.cells #[.slice (some ⟨gt, ot, none⟩) 64 ct] 22)).heap.size, 0, none⟩ ⟨w5.drew.heap.size, 0, none⟩ hbm hrd hpa').mono ?_
      rintro e w9 ⟨rfl, hb9⟩
      refine ⟨_, rfl, ?_⟩
      refine hK.out _ _ hb9 (fun hHeld => ?_)
      clear hK K
      try rw [hdst]
      clear hdst
      try simp only [Act.put, List.setIfInBounds_toArray, List.set_cons_zero, List.set_cons_succ]
      refine take_at (i := 13) (v := ?vb11713) 53 rfl rfl (by kernel_rfl) (by kernel_rfl) (by kernel_rfl) (fun _ _ _ h => h) (Or.inl ⟨by rfl, ?hyb11713⟩) hHeld ?rb11713
      case hyb11713 => intro wx hSw; go_simp; try with_reducible rfl
      try simp only [Act.put, List.setIfInBounds_toArray, List.set_cons_zero, List.set_cons_succ]
      refine take_at (i := 14) (v := ?vb11714) 0 rfl rfl (by kernel_rfl) (by kernel_rfl) (by kernel_rfl) (fun _ _ _ h => h) (Or.inl ⟨by rfl, ?hyb11714⟩) hHeld ?rb11714
      case hyb11714 => intro wx hSw; go_simp; try with_reducible rfl
      try simp only [Act.put, List.setIfInBounds_toArray, List.set_cons_zero, List.set_cons_succ]
      refine wpAnyH_done (by kernel_rfl) ?_ _
      go_wp2_with fail
      go_ret
      exact ⟨rfl, HB05.out.trans (hb9.mono HB05.out.size)⟩
    exact AllReadyH.nil
  exact AllReadyH.nil
end Go.Proofs.YtnfchojekcoplaaDoor
