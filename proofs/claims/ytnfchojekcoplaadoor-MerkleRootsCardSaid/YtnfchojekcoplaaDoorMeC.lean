/- law MerkleChecks (printed by gen_mec.py) -/
import Derived.Test.YtnfchojekcoplaaDoorMe9
import Derived.Test.YtnfchojekcoplaaDoorTied
namespace Go.Proofs.YtnfchojekcoplaaDoor
set_option linter.unusedVariables false
set_option linter.unusedSimpArgs false
open Go Go.RowKit

abbrev ShownTy : Ty := .st (.pair (.int .i64) (.pair (.int .i64) (.pair .bytes (.pair (.slice .bytes) (.pair .bytes .unit)))))
theorem shown_open (cs : Array Value) (x : ShownTy.den) (w : World) (h : ShownTy.reads w (Value.agg cs).cells.toList x) :
    ∃ (n i : Int) (data root : List UInt8) (ls : List (List UInt8)) (ad ap ar : Option Addr) (nd cd np cp nr cr : Nat), cs = #[.int .i64 n, .int .i64 i, .slice ad nd cd, .slice ap np cp, .slice ar nr cr] ∧ x = (n, i, data, ls, root, x.2.2.2.2.2) ∧
      (Lit.int .i64 n).wf = true ∧ (Lit.int .i64 i).wf = true ∧ BytesIn w ad nd cd data ∧ ls.length = np ∧ np ≤ cp ∧ cp ≤ 9223372036854775807 ∧ PathAt w ap ls ∧ BytesIn w ar nr cr root := by
  obtain ⟨n, i, data, ls, root, u⟩ := x
  obtain ⟨cs1, hc1, hA, h⟩ := reads_int h
  obtain ⟨cs2, hc2, hB, h⟩ := reads_int h
  obtain ⟨ad, nd, cd, cs3, hc3, hC, h⟩ := reads_bytes h
  obtain ⟨h4, h⟩ := h
  obtain ⟨ap, np, cp, e4, h41, h42, h43, h44⟩ := h4
  obtain ⟨ar, nr, cr, cs5, hc5, hE, h⟩ := reads_bytes h
  have h6 : cs5 = [] := h
  subst h6
  have hc4 : cs3 = [.slice ap np cp, .slice ar nr cr] := by
    rw [← List.take_append_drop 1 cs3]
    rw [show cs3.take 1 = _ from e4, show cs3.drop 1 = _ from hc5]
    rfl
  subst hc4; subst hc3; subst hc2
  refine ⟨n, i, data, root, ls, ad, ap, ar, nd, cd, np, cp, nr, cr, toArray_of hc1, rfl, hA, hB, hC, h41, h42, h43, ?_, hE⟩
  rcases h44 with h0 | ⟨b, off, ha, hb, hat⟩
  · exact .inl (List.eq_nil_of_length_eq_zero (h41.trans h0))
  · refine .inr ⟨b, off, ha, hb, fun k y hy => ?_⟩
    obtain ⟨cells, hcl, hcell, ai, ni, ci, hcs, hBy⟩ := hat k y hy
    subst hcs
    have := hcell 0 _ rfl
    obtain ⟨b1, b2, b3, b4⟩ := hBy
    subst b1
    exact ⟨ai, ci, by simpa [Ty.size] using this, b2, by omega, b3⟩

set_option maxRecDepth 16000 in
set_option maxHeartbeats 2000000 in
theorem law_MerkleChecks (cs : Array Value) (x : ShownTy.den) (W : World) (hx : ShownTy.reads W (Value.agg cs).cells.toList x) (hk : KOK W) :
    Calls Tryd.prog 4 #[.agg cs] W fun e w' => e = .returned (.bool true) ∧ Below W.heap.size W w' := by
  obtain ⟨n, i, data, root, ls, ad, ap, ar, nd, cd, np, cp, nr, cr, rfl, _, hn, hi, hD, hlp, hcp, hcp2, hP, hR⟩ := shown_open cs x W hx
  have HN := Lib.hid (And.intro hn hi)
  have HD := Lib.hid hD
  have HP := Lib.hid hP
  have HR := Lib.hid hR
  have HLP := Lib.hid (And.intro hlp (And.intro hcp hcp2))
  have HK := Lib.hid hk
  clear hx hk hn hi hD hP hR hlp hcp hcp2
  go_enter Tryd.func4, Tryd.ntmps4
  go_upto_region 1 with (fail)
  have hbk : Blk (W.alloc (.cells #[.int .i64 n, .int .i64 i, .slice ad nd cd, .slice ap np cp, .slice ar nr cr] 32)) W.heap.size 32 [.int .i64 n, .int .i64 i, .slice ad nd cd, .slice ap np cp, .slice ar nr cr] := Blk.new _ _ _
  have hb1 := (Below.refl W.heap.size W).alloc (Nat.le_refl _) (.cells #[.int .i64 n, .int .i64 i, .slice ad nd cd, .slice ap np cp, .slice ar nr cr] 32)
  have hs1 : (W.alloc (.cells #[.int .i64 n, .int .i64 i, .slice ad nd cd, .slice ap np cp, .slice ar nr cr] 32)).heap.size = W.heap.size + 1 := World.size_alloc _ _
  generalize hw1 : (W.alloc (.cells #[.int .i64 n, .int .i64 i, .slice ad nd cd, .slice ap np cp, .slice ar nr cr] 32)) = w1 at hbk hb1 hs1
  clear hw1
  have HF : Hid (∀ wx, Below w1.heap.size w1 wx → wx.cell? ⟨W.heap.size, 0, none⟩ = some (.int .i64 n) ∧ wx.cell? ⟨W.heap.size, 1, none⟩ = some (.int .i64 i) ∧ wx.cell? ⟨W.heap.size, 2, none⟩ = some (.slice ad nd cd) ∧ wx.cell? ⟨W.heap.size, 3, none⟩ = some (.slice ap np cp) ∧ wx.cell? ⟨W.heap.size, 4, none⟩ = some (.slice ar nr cr)) :=
    Lib.hid (fun wx hx => by
      have h := hbk.below hx
      exact ⟨h.cell 0 _ rfl, h.cell 1 _ rfl, h.cell 2 _ rfl, h.cell 3 _ rfl, h.cell 4 _ rfl⟩)
  have HBW : Hid (∀ wx, Below w1.heap.size w1 wx → Below W.heap.size W wx) := Lib.hid (fun wx hx => hb1.trans (hx.mono (by omega)))
  have KA : Hid (∀ wx, Below w1.heap.size w1 wx → Calls Tryd.prog 9 #[] wx fun e w' => e = .returned (.bool true) ∧ Below w1.heap.size w1 w') := Lib.hid (fun wx hb => by
    refine (mealive_any wx (HK.out.below (HBW.out wx hb))).mono ?_
    rintro e w' ⟨rfl, h⟩
    exact ⟨rfl, hb.trans (h.mono hb.size)⟩)
  obtain ⟨res, hres⟩ : ∃ res, checkR n i data ls root = res := ⟨_, rfl⟩
  have KC : Hid (∀ wx, Below w1.heap.size w1 wx → Calls Tryd.prog 13 #[.int .i64 n, .int .i64 i, .slice ad nd cd, .slice ap np cp, .slice ar nr cr] wx fun e w' => e = .returned (.bool res) ∧ Below w1.heap.size w1 w') := Lib.hid (fun wx hb => by
    have hB := HBW.out wx hb
    have := HD.out.small
    have := HD.out.le_cap
    have := HR.out.small
    have := HR.out.le_cap
    have := HLP.out
    refine (check_any n i data ad nd cd ls ap np cp root ar nr cr wx HN.out.2 HN.out.1 HD.out.len_eq HD.out.le_cap (by omega) ((HD.out.rd.below hB).more hB.size) HLP.out.1 (by omega) (HP.out.below hB) HR.out.len_eq (by omega) ((HR.out.rd.below hB).more hB.size) (HK.out.below hB)).mono ?_
    rintro e w' ⟨rfl, h⟩
    exact ⟨by rw [hres], hb.trans (h.mono hb.size)⟩)
  have KR : Hid (∀ wx, Below w1.heap.size w1 wx → Calls Tryd.prog 14 #[.int .i64 n, .int .i64 i, .slice ad nd cd, .slice ap np cp, .slice ar nr cr] wx fun e w' => e = .returned (.bool res) ∧ Below w1.heap.size w1 w') := Lib.hid (fun wx hb => by
    have hB := HBW.out wx hb
    have := HD.out.small
    have := HD.out.le_cap
    have := HR.out.small
    have := HR.out.le_cap
    have := HLP.out
    refine (rcheck_any n i data ad nd cd ls ap np cp root ar nr cr wx HN.out.2 HN.out.1 HD.out.len_eq HD.out.le_cap (by omega) ((HD.out.rd.below hB).more hB.size) HLP.out.1 (by omega) (HP.out.below hB) HR.out.len_eq (by omega) ((HR.out.rd.below hB).more hB.size)).mono ?_
    rintro e w' ⟨rfl, h⟩
    exact ⟨by rw [hres], hb.trans (h.mono hb.size)⟩)
  have hb6 : Below w1.heap.size w1 w1.drew := (Below.refl _ _).drew
  clear hbk hb1 hs1 hres
  refine wp_region_held_drew (S := fun wx => Below w1.heap.size w1 wx) (by kernel_rfl) hb6 (fun hHeld => ?_)
  refine wpAnyH_ready (rs := [0]) (by kernel_rfl) (by simp) ?_
  refine cons_at (some 3) rfl rfl (fun hdst K hK => ?_) AllReadyH.nil
  refine step_call0 (by rfl) 9 #[] (by rfl) (enters_of Tryd.func9 (by kernel_rfl) rfl) ?_
  refine (KA.out _ hHeld).mono ?_
  rintro e w2 ⟨rfl, hb9⟩
  refine ⟨_, rfl, ?_⟩
  refine hK.out _ _ hb9 (fun hHeld => ?_)
  clear hK K
  try rw [hdst]
  clear hdst
  try simp only [Act.put, List.setIfInBounds_toArray, List.set_cons_zero, List.set_cons_succ]
  refine take_at (i := 1) (v := ?va1) 4 rfl rfl (by kernel_rfl) (by kernel_rfl) (by kernel_rfl) (fun _ _ _ h => h) (Or.inl ⟨by rfl, ?hya1⟩) hHeld ?ra1
  case hya1 => intro wx hSw; obtain ⟨d0, d1, d2, d3, d4⟩ := HF.out wx hSw; go_simp; try with_reducible rfl
  try simp only [Act.put, List.setIfInBounds_toArray, List.set_cons_zero, List.set_cons_succ]
  refine take_at (i := 2) (v := ?va2) 5 rfl rfl (by kernel_rfl) (by kernel_rfl) (by kernel_rfl) (fun _ _ _ h => h) (Or.inl ⟨by rfl, ?hya2⟩) hHeld ?ra2
  case hya2 => intro wx hSw; obtain ⟨d0, d1, d2, d3, d4⟩ := HF.out wx hSw; go_simp; try with_reducible rfl
  try simp only [Act.put, List.setIfInBounds_toArray, List.set_cons_zero, List.set_cons_succ]
  refine take_at (i := 3) (v := ?va3) 6 rfl rfl (by kernel_rfl) (by kernel_rfl) (by kernel_rfl) (fun _ _ _ h => h) (Or.inl ⟨by rfl, ?hya3⟩) hHeld ?ra3
  case hya3 => intro wx hSw; obtain ⟨d0, d1, d2, d3, d4⟩ := HF.out wx hSw; go_simp; try with_reducible rfl
  try simp only [Act.put, List.setIfInBounds_toArray, List.set_cons_zero, List.set_cons_succ]
  refine take_at (i := 4) (v := ?va4) 7 rfl rfl (by kernel_rfl) (by kernel_rfl) (by kernel_rfl) (fun _ _ _ h => h) (Or.inl ⟨by rfl, ?hya4⟩) hHeld ?ra4
  case hya4 => intro wx hSw; obtain ⟨d0, d1, d2, d3, d4⟩ := HF.out wx hSw; go_simp; try with_reducible rfl
  try simp only [Act.put, List.setIfInBounds_toArray, List.set_cons_zero, List.set_cons_succ]
  refine take_at (i := 5) (v := ?va5) 8 rfl rfl (by kernel_rfl) (by kernel_rfl) (by kernel_rfl) (fun _ _ _ h => h) (Or.inl ⟨by rfl, ?hya5⟩) hHeld ?ra5
  case hya5 => intro wx hSw; obtain ⟨d0, d1, d2, d3, d4⟩ := HF.out wx hSw; go_simp; try with_reducible rfl
  try simp only [Act.put, List.setIfInBounds_toArray, List.set_cons_zero, List.set_cons_succ]
  refine take_at (i := 6) (v := ?va6) 9 rfl rfl (by kernel_rfl) (by kernel_rfl) (by kernel_rfl) (fun _ _ _ h => h) (Or.inl ⟨by rfl, ?hya6⟩) hHeld ?ra6
  case hya6 => intro wx hSw; obtain ⟨d0, d1, d2, d3, d4⟩ := HF.out wx hSw; go_simp; try with_reducible rfl
  try simp only [Act.put, List.setIfInBounds_toArray, List.set_cons_zero, List.set_cons_succ]
  refine take_at (i := 7) (v := ?va7) 10 rfl rfl (by kernel_rfl) (by kernel_rfl) (by kernel_rfl) (fun _ _ _ h => h) (Or.inl ⟨by rfl, ?hya7⟩) hHeld ?ra7
  case hya7 => intro wx hSw; obtain ⟨d0, d1, d2, d3, d4⟩ := HF.out wx hSw; go_simp; try with_reducible rfl
  try simp only [Act.put, List.setIfInBounds_toArray, List.set_cons_zero, List.set_cons_succ]
  refine take_at (i := 8) (v := ?va8) 11 rfl rfl (by kernel_rfl) (by kernel_rfl) (by kernel_rfl) (fun _ _ _ h => h) (Or.inl ⟨by rfl, ?hya8⟩) hHeld ?ra8
  case hya8 => intro wx hSw; obtain ⟨d0, d1, d2, d3, d4⟩ := HF.out wx hSw; go_simp; try with_reducible rfl
  try simp only [Act.put, List.setIfInBounds_toArray, List.set_cons_zero, List.set_cons_succ]
  refine take_at (i := 9) (v := ?va9) 12 rfl rfl (by kernel_rfl) (by kernel_rfl) (by kernel_rfl) (fun _ _ _ h => h) (Or.inl ⟨by rfl, ?hya9⟩) hHeld ?ra9
  case hya9 => intro wx hSw; obtain ⟨d0, d1, d2, d3, d4⟩ := HF.out wx hSw; go_simp; try with_reducible rfl
  try simp only [Act.put, List.setIfInBounds_toArray, List.set_cons_zero, List.set_cons_succ]
  refine take_at (i := 10) (v := ?va10) 13 rfl rfl (by kernel_rfl) (by kernel_rfl) (by kernel_rfl) (fun _ _ _ h => h) (Or.inl ⟨by rfl, ?hya10⟩) hHeld ?ra10
  case hya10 => intro wx hSw; obtain ⟨d0, d1, d2, d3, d4⟩ := HF.out wx hSw; go_simp; try with_reducible rfl
  try simp only [Act.put, List.setIfInBounds_toArray, List.set_cons_zero, List.set_cons_succ]
  refine take_at (i := 11) (v := ?va11) 14 rfl rfl (by kernel_rfl) (by kernel_rfl) (by kernel_rfl) (fun _ _ _ h => h) (Or.inl ⟨by rfl, ?hya11⟩) hHeld ?ra11
  case hya11 => intro wx hSw; obtain ⟨d0, d1, d2, d3, d4⟩ := HF.out wx hSw; go_simp; try with_reducible rfl
  try simp only [Act.put, List.setIfInBounds_toArray, List.set_cons_zero, List.set_cons_succ]
  refine take_at (i := 13) (v := ?va13) 16 rfl rfl (by kernel_rfl) (by kernel_rfl) (by kernel_rfl) (fun _ _ _ h => h) (Or.inl ⟨by rfl, ?hya13⟩) hHeld ?ra13
  case hya13 => intro wx hSw; obtain ⟨d0, d1, d2, d3, d4⟩ := HF.out wx hSw; go_simp; try with_reducible rfl
  try simp only [Act.put, List.setIfInBounds_toArray, List.set_cons_zero, List.set_cons_succ]
  refine take_at (i := 14) (v := ?va14) 17 rfl rfl (by kernel_rfl) (by kernel_rfl) (by kernel_rfl) (fun _ _ _ h => h) (Or.inl ⟨by rfl, ?hya14⟩) hHeld ?ra14
  case hya14 => intro wx hSw; obtain ⟨d0, d1, d2, d3, d4⟩ := HF.out wx hSw; go_simp; try with_reducible rfl
  try simp only [Act.put, List.setIfInBounds_toArray, List.set_cons_zero, List.set_cons_succ]
  refine take_at (i := 15) (v := ?va15) 18 rfl rfl (by kernel_rfl) (by kernel_rfl) (by kernel_rfl) (fun _ _ _ h => h) (Or.inl ⟨by rfl, ?hya15⟩) hHeld ?ra15
  case hya15 => intro wx hSw; obtain ⟨d0, d1, d2, d3, d4⟩ := HF.out wx hSw; go_simp; try with_reducible rfl
  try simp only [Act.put, List.setIfInBounds_toArray, List.set_cons_zero, List.set_cons_succ]
  refine take_at (i := 16) (v := ?va16) 19 rfl rfl (by kernel_rfl) (by kernel_rfl) (by kernel_rfl) (fun _ _ _ h => h) (Or.inl ⟨by rfl, ?hya16⟩) hHeld ?ra16
  case hya16 => intro wx hSw; obtain ⟨d0, d1, d2, d3, d4⟩ := HF.out wx hSw; go_simp; try with_reducible rfl
  try simp only [Act.put, List.setIfInBounds_toArray, List.set_cons_zero, List.set_cons_succ]
  refine take_at (i := 17) (v := ?va17) 20 rfl rfl (by kernel_rfl) (by kernel_rfl) (by kernel_rfl) (fun _ _ _ h => h) (Or.inl ⟨by rfl, ?hya17⟩) hHeld ?ra17
  case hya17 => intro wx hSw; obtain ⟨d0, d1, d2, d3, d4⟩ := HF.out wx hSw; go_simp; try with_reducible rfl
  try simp only [Act.put, List.setIfInBounds_toArray, List.set_cons_zero, List.set_cons_succ]
  refine take_at (i := 18) (v := ?va18) 21 rfl rfl (by kernel_rfl) (by kernel_rfl) (by kernel_rfl) (fun _ _ _ h => h) (Or.inl ⟨by rfl, ?hya18⟩) hHeld ?ra18
  case hya18 => intro wx hSw; obtain ⟨d0, d1, d2, d3, d4⟩ := HF.out wx hSw; go_simp; try with_reducible rfl
  try simp only [Act.put, List.setIfInBounds_toArray, List.set_cons_zero, List.set_cons_succ]
  refine take_at (i := 19) (v := ?va19) 22 rfl rfl (by kernel_rfl) (by kernel_rfl) (by kernel_rfl) (fun _ _ _ h => h) (Or.inl ⟨by rfl, ?hya19⟩) hHeld ?ra19
  case hya19 => intro wx hSw; obtain ⟨d0, d1, d2, d3, d4⟩ := HF.out wx hSw; go_simp; try with_reducible rfl
  try simp only [Act.put, List.setIfInBounds_toArray, List.set_cons_zero, List.set_cons_succ]
  refine take_at (i := 20) (v := ?va20) 23 rfl rfl (by kernel_rfl) (by kernel_rfl) (by kernel_rfl) (fun _ _ _ h => h) (Or.inl ⟨by rfl, ?hya20⟩) hHeld ?ra20
  case hya20 => intro wx hSw; obtain ⟨d0, d1, d2, d3, d4⟩ := HF.out wx hSw; go_simp; try with_reducible rfl
  try simp only [Act.put, List.setIfInBounds_toArray, List.set_cons_zero, List.set_cons_succ]
  refine take_at (i := 21) (v := ?va21) 24 rfl rfl (by kernel_rfl) (by kernel_rfl) (by kernel_rfl) (fun _ _ _ h => h) (Or.inl ⟨by rfl, ?hya21⟩) hHeld ?ra21
  case hya21 => intro wx hSw; obtain ⟨d0, d1, d2, d3, d4⟩ := HF.out wx hSw; go_simp; try with_reducible rfl
  try simp only [Act.put, List.setIfInBounds_toArray, List.set_cons_zero, List.set_cons_succ]
  refine take_at (i := 22) (v := ?va22) 25 rfl rfl (by kernel_rfl) (by kernel_rfl) (by kernel_rfl) (fun _ _ _ h => h) (Or.inl ⟨by rfl, ?hya22⟩) hHeld ?ra22
  case hya22 => intro wx hSw; obtain ⟨d0, d1, d2, d3, d4⟩ := HF.out wx hSw; go_simp; try with_reducible rfl
  try simp only [Act.put, List.setIfInBounds_toArray, List.set_cons_zero, List.set_cons_succ]
  refine wpAnyH_ready (rs := [12]) (by kernel_rfl) (by simp) ?_
  refine cons_at (some 15) rfl rfl (fun hdst K hK => ?_) AllReadyH.nil
  refine step_call5 (by rfl) 13 (.tmp 6) (.tmp 8) (.tmp 10) (.tmp 12) (.tmp 14) #[3, 3, 22, 30, 22] (by rfl) (.int .i64 n) (.int .i64 i) (.slice ad nd cd) (.slice ap np cp) (.slice ar nr cr) (by rfl) (by rfl) (by rfl) (by rfl) (by rfl) (enters_of Tryd.func13 (by kernel_rfl) rfl) ?_
  refine (KC.out _ hHeld).mono ?_
  rintro e w3 ⟨rfl, hb9⟩
  refine ⟨_, rfl, ?_⟩
  refine hK.out _ _ hb9 (fun hHeld => ?_)
  clear hK K
  try rw [hdst]
  clear hdst
  try simp only [Act.put, List.setIfInBounds_toArray, List.set_cons_zero, List.set_cons_succ]
  refine wpAnyH_ready (rs := [23]) (by kernel_rfl) (by simp) ?_
  refine cons_at (some 26) rfl rfl (fun hdst K hK => ?_) AllReadyH.nil
  refine step_call5 (by rfl) 14 (.tmp 17) (.tmp 19) (.tmp 21) (.tmp 23) (.tmp 25) #[3, 3, 22, 30, 22] (by rfl) (.int .i64 n) (.int .i64 i) (.slice ad nd cd) (.slice ap np cp) (.slice ar nr cr) (by rfl) (by rfl) (by rfl) (by rfl) (by rfl) (enters_of Tryd.func14 (by kernel_rfl) rfl) ?_
  refine (KR.out _ hHeld).mono ?_
  rintro e w4 ⟨rfl, hb9⟩
  refine ⟨_, rfl, ?_⟩
  refine hK.out _ _ hb9 (fun hHeld => ?_)
  clear hK K
  try rw [hdst]
  clear hdst
  try simp only [Act.put, List.setIfInBounds_toArray, List.set_cons_zero, List.set_cons_succ]
  refine take_at (i := 24) (v := ?va24) 27 rfl rfl (by kernel_rfl) (by kernel_rfl) (by kernel_rfl) (fun _ _ _ h => h) (Or.inl ⟨by rfl, ?hya24⟩) hHeld ?ra24
  case hya24 => intro wx hSw; obtain ⟨d0, d1, d2, d3, d4⟩ := HF.out wx hSw; go_simp; try with_reducible rfl
  try simp only [Act.put, List.setIfInBounds_toArray, List.set_cons_zero, List.set_cons_succ]
  refine take_at (i := 25) (v := ?va25) 28 rfl rfl (by kernel_rfl) (by kernel_rfl) (by kernel_rfl) (fun _ _ _ h => h) (Or.inl ⟨by rfl, ?hya25⟩) hHeld ?ra25
  case hya25 => intro wx hSw; obtain ⟨d0, d1, d2, d3, d4⟩ := HF.out wx hSw; go_simp; try with_reducible rfl
  try simp only [Act.put, List.setIfInBounds_toArray, List.set_cons_zero, List.set_cons_succ]
  refine take_at (i := 26) (v := ?va26) 2 rfl rfl (by kernel_rfl) (by kernel_rfl) (by kernel_rfl) (fun _ _ _ h => h) (Or.inl ⟨by rfl, ?hya26⟩) hHeld ?ra26
  case hya26 => intro wx hSw; obtain ⟨d0, d1, d2, d3, d4⟩ := HF.out wx hSw; go_simp; try with_reducible rfl
  try simp only [Act.put, List.setIfInBounds_toArray, List.set_cons_zero, List.set_cons_succ]
  refine wpAnyH_done (by kernel_rfl) ?_ _
  go_wp2_with fail
  go_ret
  exact ⟨by simp, HBW.out _ hb9⟩
end Go.Proofs.YtnfchojekcoplaaDoor
