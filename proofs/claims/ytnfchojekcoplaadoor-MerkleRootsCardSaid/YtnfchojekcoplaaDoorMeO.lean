/- law MerkleOne -/
import Derived.Test.YtnfchojekcoplaaDoorMeC
namespace Go.Proofs.YtnfchojekcoplaaDoor
set_option linter.unusedVariables false
set_option linter.unusedSimpArgs false
open Go Go.RowKit

theorem wpList_appz {w : World} {ops : Array Oper} {rest : List Oper} {o : Oper} {a : Act} {Q : Exit → Act → World → Prop} (hgd : o.guard = none) (s x : Operand)
    (ho : o.op = .call { callee := .builtin .append, args := #[s, x], argTypes := #[22, 3] })
    (base : Nat) (v : Value) (l : List UInt8) (hs : a.eval s = v) (hown : OwnB w base v l) (m : Nat) (z : Int) (hx : a.eval x = .int .i64 z) (hz : z = (m : Int))
    (h47 : l.length + m ≤ 140737488355328) (hbase : base ≤ w.heap.size)
    (h : ∀ v' w', OwnB w' base v' (l ++ zeros m) → w.grownBy w' v.ownBlock → wpList Tryd.prog ops Q rest (a.put o.dst v') w') :
    wpList Tryd.prog ops Q (o :: rest) a w := by
  refine wpList_plain hgd fun K hK => ?_
  subst hz
  obtain ⟨v', w', hrun, h2, h3, _⟩ := run_append_z w base v l hown m h47 hbase o.type
  unfold Oper.wp execOp
  simp only [ho, resolve, invoke, builtin, Sem.run_bind, Sem.run_pure, Result.andThen_ok, List.map_toArray, List.map_cons, List.map_nil, hs, hx, hrun]
  exact hK _ _ (h v' w' h2 h3)

theorem step_ungd {P : Program} {ops : Array Oper} {o : Oper} {a : Act} {w : World} {K : Act → World → Prop} {Q : Exit → Act → World → Prop} {E : Prop} (hw : Region.wanted o (yielded ops a.tmps) = true)
    (h : if Region.wanted { o with guard := none } (yielded ops a.tmps) = true then Oper.wp P { o with guard := none } a w K Q else E) : if Region.wanted o (yielded ops a.tmps) = true then Oper.wp P o a w K Q else E := by
  rw [if_pos hw]
  rw [if_pos (by simp [Region.wanted])] at h
  exact h
theorem yields_row {P : Program} {ops : Array Oper} {S : World → Prop} {o : Oper} {a : Act} (hw : Region.wanted o (yielded ops a.tmps) = true) (ty : TypeId) (x : Operand) (ho : o.op = .load ty x)
    (g : Nat) (hx : a.eval x = .pointer (some ⟨g, 0, none⟩)) (t : TypeId) (cs : Array Value) (fr : Nat × Nat) (d : TypeDesc) (hg : ∀ w, S w → w.heap[g]? = some (.cells cs t fr))
    (hu : P.underlying ty = some d) (hd : (match d with | .struct _ | .array _ _ => true | _ => false) = true) (hi : (P.info? ty).map (·.size) = some cs.size) : YieldsIf P ops S o (.agg cs) a := by
  refine .inl ⟨hw, fun w hS => ?_⟩
  unfold execOp
  simp only [ho, hx, Instr.loadAt, Instr.sureAddr, Sem.run_bind, Sem.run_pure, Result.andThen_ok, run_loadVar_row w g t ty cs fr d (hg w hS) hu hd hi]
theorem own_cap {W : World} {b n c : Nat} {a : Option Addr} {l : List UInt8} (h : OwnB W b (.slice a n c) l) : c ≤ 9223372036854775807 := by
  rcases h.2 with ⟨h, _⟩ | ⟨g', off', cap', cur, lo, hi, h, _, _, _, _, _, h9, _⟩
  · injection h with _ _ h; omega
  · injection h with _ _ h
    unfold maxLen at h9
    omega
theorem rd_blk {W : World} {g : Nat} {t : TypeId} {cs : List Value} (h : Blk W g t cs) : Rd W W.heap.size (some ⟨g, 0, none⟩) cs :=
  .inr ⟨g, 0, rfl, lt_of_heap h, fun q u hu => by rw [Nat.zero_add]; exact h.cell q u hu⟩
theorem step_call1w {P : Program} {ops : Array Oper} {o : Oper} {a : Act} {w : World} {K : Act → World → Prop} {Q : Exit → Act → World → Prop} {E : Prop} (hw : Region.wanted o (yielded ops a.tmps) = true) (f : FuncId) (x : Operand) (T : Array TypeId) (ho : o.op = .call { callee := .value (.func f), args := #[x], argTypes := T }) (v : Value) (hx : a.eval x = v)
    (he : ∀ (args : Array Value) (w : World), (callFunc f args).run P w = .ok (.enter f args) w)
    (hc : Calls P f #[v] w fun e w'' => ∃ v, e = .returned v ∧ K (a.put o.dst v) w'') : if Region.wanted o (yielded ops a.tmps) = true then Oper.wp P o a w K Q else E := by
  have hrun : (execOp a.eval o).run P w = .ok (.enter f #[v]) w := by
    have hfv : a.eval (.func f) = .func (.func f) #[] #[] := rfl
    generalize a.eval = ev at hx hfv
    unfold execOp
    simp [ho, resolve, invoke, hx, hfv, he, go_sem]
  rw [if_pos hw]
  unfold Oper.wp
  rw [hrun, Oper.upon_enter]
  refine hc.mono fun e w'' hh => ?_
  obtain ⟨v, rfl, hK⟩ := hh
  exact hK

theorem one_tree (d : List UInt8) (h : d.length = 64) : treeL d = hashL 0 d ++ zeros 32 ∧ rootL d = hashL 1 (hashL 0 d ++ zeros 32) ∧ okB d := by
  have hn : d.length / 64 = 1 := by rw [h]
  have hl : nlev 1 = 1 := by decide
  have e : lev d 1 1 = hashL 0 d ++ zeros 32 := by
    show hashes 0 d 1 ++ zeros (64 * ((1 + 1) / 2) - 32 * 1) = _
    rw [show hashes 0 d 1 = [] ++ hashL 0 (secL d 0) from rfl, secL_whole d h, List.nil_append]
  refine ⟨(treeL_one d h).1.trans e, ?_, ?_⟩
  · unfold rootL
    rw [hn, hl, e]
  · unfold okB; omega

set_option maxRecDepth 16000 in
set_option maxHeartbeats 2000000 in
theorem law_MerkleOne (ad : Option Addr) (nd cd : Nat) (data : List UInt8) (W : World) (hx : BytesIn W ad nd cd data) (hk : KOK W) :
    Calls Tryd.prog 8 #[.slice ad nd cd] W fun e w' => e = .returned (.bool true) ∧ Below W.heap.size W w' := by
  have HX := Lib.hid hx
  have HK := Lib.hid hk
  clear hx hk
  go_enter Tryd.func8, Tryd.ntmps8
  go_upto_region 2 with (refine wpList_makeB _ rfl _ _ rfl .i64 .i64 64 64 64 rfl rfl rfl rfl (by omega) ?_; intro w3 ho3 hg3; have HO3 := Lib.hid ho3; have HG3 := Lib.hid hg3; clear ho3 hg3)
  obtain ⟨ms, hms⟩ : ∃ ms, data.take 64 = ms := ⟨_, rfl⟩
  have hml : ms.length = Nat.min nd 64 := by
    rw [← hms, List.length_take, HX.out.len_eq]
    exact Nat.min_comm _ _
  have hml2 : ms.length ≤ 64 := by rw [hml]; exact Nat.min_le_right _ _
  obtain ⟨d, hd⟩ : ∃ d, overlay (zeros 64) 0 ms = d := ⟨_, rfl⟩
  have hdl : d.length = 64 := by rw [← hd, overlay_length _ _ _ (by rw [zeros_length]; omega), zeros_length]
  have hb03 : Below W.heap.size W w3 := below_grown HG3.out (Nat.le_refl _) (fun _ h => by cases h)
  have HB03 := Lib.hid hb03
  have HRD : Hid (Rd w3 w3.heap.size ad (bs ms)) := Lib.hid (by
    rw [← hms, bs_take]
    exact (((HX.out.rd.below hb03).more hb03.size).take 64))
  have HML := Lib.hid (And.intro hml hml2)
  have HDE := Lib.hid hd
  have HDL := Lib.hid hdl
  clear hms hml hml2 hd hdl hb03
  go_upto_region 3 with (refine wpList_copyB rfl _ _ 22 22 rfl Tryd.underlying22 (some ⟨W.heap.size, 0, none⟩) ad 64 64 nd cd rfl rfl W.heap.size W.heap.size 0 64 (zeros 64) HO3.out 0 ms HML.out.1 (by rw [zeros_length]; have := HML.out.2; omega) (fun _ => rfl) HRD.out ?_; intro w4 ho4 hg4; have HO4 := Lib.hid ho4; have HG4 := Lib.hid hg4; clear ho4 hg4)
  have hb34 : Below W.heap.size w3 w4 := below_grown HG4.out HB03.out.size (fun q h => by cases h; exact Nat.le_refl _)
  have hb04 := HB03.out.trans hb34
  have ho4 : OwnB w4 W.heap.size (.slice (some ⟨W.heap.size, 0, none⟩) 64 64) d := by
    have := HO4.out
    rw [HDE.out] at this
    exact this
  obtain ⟨ht, hrt, hok⟩ := one_tree d HDL.out
  have HBU := Lib.hid (mbuild_any d (some ⟨W.heap.size, 0, none⟩) 64 64 w4 HDL.out (Nat.le_refl _) (by omega) ho4.rd (HK.out.below hb04) hok)
  obtain ⟨D2, hD2⟩ : ∃ D2, hashL 0 d ++ zeros 32 = D2 := ⟨_, rfl⟩
  have hD2l : D2.length = 64 := by rw [← hD2, List.length_append, hashL_length, zeros_length]
  rw [hD2] at ht hrt
  rw [ht, hrt] at HBU
  have HO4' := Lib.hid ho4
  have HB04 := Lib.hid hb04
  have HD2 := Lib.hid hD2
  have HD2L := Lib.hid hD2l
  clear HO4 HG4 HO3 HG3 HRD HB03 hb34 hb04 ho4 ht hrt hok hD2 hD2l
  go_wp2_with fail
  refine HBU.out.mono ?_
  rintro e w5 ⟨vt, rfl, hot, hb5⟩
  obtain ⟨a5, c5, rfl, hc5⟩ := OwnB.shape hot
  rw [HD2L.out] at hc5 hot ⊢
  have hcap5 := own_cap hot
  obtain ⟨X, Z, hX, hinf, hone, hzz, hzs, w6, hw6, hB6, hb6, hs6⟩ := keep_digest w5 (hashL 1 D2) (hashL_length _ _)
  rw [hX]
  have hb05 := HB04.out.trans (hb5.mono HB04.out.size)
  have hb46 := hb5.trans (hb6.mono hb5.size)
  have HB6 := Lib.hid hB6
  have HX := Lib.hid hX
  have HB06 := Lib.hid (hb05.trans (hb6.mono hb05.size))
  have HT6 : Hid (Rd w6 w6.heap.size a5 (bs D2)) := Lib.hid ((hot.rd.below hb6).more hb6.size)
  have HD6 : Hid (Rd w6 w6.heap.size (some ⟨W.heap.size, 0, none⟩) (bs d)) := Lib.hid ((HO4'.out.rd.below hb46).more hb46.size)
  have HC5 := Lib.hid (And.intro hc5 hcap5)
  have HL0 : Hid (OwnB (w6.alloc (.cells #[.int .u8 0] 5)) w6.heap.size (.slice (some ⟨w6.heap.size, 0, none⟩) 1 1) [0]) := Lib.hid (OwnB.lit w6 [0] (by simp))
  have HINF := Lib.hid hinf
  clear hX hB6 hb6 hs6 hb5 hot hb05 hb46 hc5 hcap5 HBU HO4' HB04
  go_wp2_with (first
    | (refine wpList_store_row rfl 24 _ _ rfl w5.heap.size X rfl rfl 24 Z hzz hinf hzs hone (hgoalL hw6 ?_))
    | (refine wpList_app rfl _ _ rfl w6.heap.size _ [0] rfl HL0.out w6.heap.size (some ⟨W.heap.size, 0, none⟩) 64 64 d rfl HDL.out (HD6.out.alloc (Nat.le_refl _) _) (by simp) (by rw [World.size_alloc]; omega) ?_; intro v7 w7 ho7 hg7 hv7; obtain ⟨a7, c7, rfl, hc7⟩ := OwnB.shape ho7; have HO7 := Lib.hid ho7; have HG7 : Hid ((w6.alloc (.cells #[.int .u8 0] 5)).grownBy w7 (some w6.heap.size)) := Lib.hid hg7; have HC7 := Lib.hid hc7; clear ho7 hg7 hv7 hc7))
  have h65 : ([0] ++ d).length = 65 := by rw [List.length_append, HDL.out]; rfl
  have ho7 := HO7.out
  have hc7 := HC7.out
  rw [h65] at ho7 hc7
  have hb67 : Below w6.heap.size w6 w7 := ((Below.refl _ w6).alloc (Nat.le_refl _) _).trans (below_grown HG7.out (by rw [World.size_alloc]; omega) (fun q h => by cases h; exact Nat.le_refl _))
  have hb07 := HB06.out.trans (hb67.mono HB06.out.size)
  rw [show d.length + 1 = 65 from by rw [HDL.out]]
  refine (sum_any ([0] ++ d) a7 65 c7 w7 h65 hc7 (own_cap ho7) ho7.rd (HK.out.below hb07)).mono ?_
  rintro e w8 ⟨rfl, hb8⟩
  have hsd : shaL ([0] ++ d) = hashL 0 d := rfl
  rw [hsd]
  obtain ⟨X8, Z8, hX8, hinf8, hone8, hzz8, hzs8, w9, hw9, hB9, hb9, hs9⟩ := keep_digest w8 (hashL 0 d) (hashL_length _ _)
  rw [hX8]
  have hb69 : Below w6.heap.size w6 w9 := (hb67.trans (hb8.mono hb67.size)).trans (hb9.mono (hb67.trans (hb8.mono hb67.size)).size)
  have HB69 := Lib.hid hb69
  have HB9 := Lib.hid hB9
  have HL9 := Lib.hid (OwnB.lit0 w9)
  clear HO7 HG7 HC7 h65 ho7 hc7 hb67 hb07 hsd hX8 hB9 hb9 hs9 hb8 hb69 hzz hinf hzs hone hw6 HL0 HD6
  go_wp2_with (first
    | (refine wpList_store_row rfl 24 _ _ rfl w8.heap.size X8 rfl rfl 24 Z8 hzz8 hinf8 hzs8 hone8 (hgoalL hw9 ?_))
    | (refine wpList_app rfl _ _ rfl w9.heap.size _ [] rfl HL9.out w9.heap.size (some ⟨w8.heap.size, 0, none⟩) 32 32 (hashL 0 d) rfl (hashL_length _ _) ((rd_blk HB9.out).alloc (Nat.le_refl _) _) (by simp) (by rw [World.size_alloc]; omega) ?_; intro v10 w10 ho10 hg10 hv10; obtain ⟨a10, c10, rfl, hc10⟩ := OwnB.shape ho10; have HO10 := Lib.hid ho10; have HG10 : Hid ((w9.alloc (.cells #[] 5)).grownBy w10 (some w9.heap.size)) := Lib.hid hg10; have hs10 : w9.heap.size ≤ w10.heap.size := by { have := hg10.size; rw [World.size_alloc] at this; omega }; clear ho10 hg10 hv10 hc10)
    | (refine wpList_appz rfl _ _ rfl w9.heap.size _ ([] ++ hashL 0 d) rfl HO10.out 32 _ rfl rfl (by rw [List.nil_append, hashL_length]; omega) hs10 ?_; intro v11 w11 ho11 hg11; obtain ⟨a11, c11, rfl, hc11⟩ := OwnB.shape ho11; have HO11 := Lib.hid ho11; have HG11 := Lib.hid hg11; have HC11 := Lib.hid hc11; clear ho11 hg11 hc11))
  have hb910 : Below w9.heap.size w9 w10 := ((Below.refl _ w9).alloc (Nat.le_refl _) _).trans (below_grown HG10.out (by rw [World.size_alloc]; omega) (fun q h => by cases h; exact Nat.le_refl _))
  have hb1011 : Below w9.heap.size w10 w11 := below_grown HG11.out hb910.size (fun q hq => (OwnB.lt HO10.out q hq).1)
  have hb611 : Below w6.heap.size w6 w11 := HB69.out.trans ((hb910.trans hb1011).mono HB69.out.size)
  have hDD : ([] ++ hashL 0 d) ++ zeros 32 = D2 := by rw [List.nil_append]; exact HD2.out
  have ho11 := HO11.out
  have hc11 := HC11.out
  rw [hDD, HD2L.out] at ho11 hc11
  have hcap11 := own_cap ho11
  have hr11 : Rd w11 w11.heap.size a11 (bs D2) := ho11.rd
  rw [show (hashL 0 d).length + (zeros 32).length = 64 from by rw [hashL_length, zeros_length]]
  refine (same_any a5 a11 64 64 c5 c11 D2 D2 w11 HD2L.out HD2L.out ((HT6.out.below hb611).more hb611.size) hr11).mono ?_
  rintro e w12 ⟨rfl, rfl⟩
  rw [beq_self_eq_true]
  have HB011 : Hid (Below W.heap.size W w11) := Lib.hid (HB06.out.trans (hb611.mono HB06.out.size))
  have hB11 := HB6.out.below hb611
  rw [show (bs (hashL 1 D2)) = X.toList from by rw [← HX.out]] at hB11
  have HBX : Hid (∀ wx, Below w11.heap.size w11 wx → wx.heap[w5.heap.size]? = some (.cells X 24 (0, 0))) := Lib.hid (fun wx hb => by have := hB11.below hb; simpa [Blk] using this)
  have HR11 := Lib.hid hr11
  have HC := Lib.hid (And.intro hc11 hcap11)
  have KA : Hid (∀ wx, Below w11.heap.size w11 wx → Calls Tryd.prog 9 #[] wx fun e w' => e = .returned (.bool true) ∧ Below w11.heap.size w11 w') := Lib.hid (fun wx hb => by
    refine (mealive_any wx ((HK.out.below HB011.out).below hb)).mono ?_
    rintro e w' ⟨rfl, h⟩
    exact ⟨rfl, hb.trans (h.mono hb.size)⟩)
  have KS : Hid (∀ (wx : World) (a : Option Addr) (c : Nat), Below w11.heap.size w11 wx → OwnB wx w11.heap.size (.slice a 65 c) ([1] ++ D2) → 65 ≤ c → Calls Tryd.prog 18 #[.slice a 65 c] wx fun e w' => e = .returned (.agg X) ∧ Below w11.heap.size w11 w') := Lib.hid (fun wx a c hb ho hc => by
    refine (sum_any ([1] ++ D2) a 65 c wx (by rw [List.length_append, HD2L.out]; rfl) hc (own_cap ho) ho.rd ((HK.out.below HB011.out).below hb)).mono ?_
    rintro e w' ⟨rfl, h⟩
    exact ⟨by rw [← HX.out]; rfl, hb.trans (h.mono hb.size)⟩)
  have KE : Hid (∀ wx, (Op.equalIn 10000 24 (.agg X) (.agg X)).run Tryd.prog wx = .ok true wx) := Lib.hid (fun wx => by
    have := eq_digest (hashL 1 D2) (hashL 1 D2) (hashL_length _ _) (hashL_length _ _) HX.out HX.out wx
    rwa [beq_self_eq_true] at this)
  have hb0 : Below w11.heap.size w11 w11.drew := (Below.refl _ _).drew
  clear hb910 hb1011 hb611 hDD ho11 hc11 hcap11 hr11 hB11 HO10 HG10 HG11 HO11 HC11 HL9 hw9 hzz8 hinf8 hzs8 hone8
  go_upto_region 7 with (fail)
  refine wp_region_held_drew (S := fun wx => Below w11.heap.size w11 wx) (by kernel_rfl) hb0 (fun hHeld => ?_)
  refine wpAnyH_ready (rs := [0]) (by kernel_rfl) (by simp) ?_
  refine cons_at (some 31) rfl rfl (fun hdst K hK => ?_) AllReadyH.nil
  refine step_call0 (by rfl) 9 #[] (by rfl) (enters_of Tryd.func9 (by kernel_rfl) rfl) ?_
  refine (KA.out _ hHeld).mono ?_
  rintro e wa ⟨rfl, hba⟩
  refine ⟨_, rfl, ?_⟩
  refine hK.out _ _ hba (fun hHeld => ?_)
  clear hK K
  try rw [hdst]
  clear hdst
  try simp only [Act.put, List.setIfInBounds_toArray, List.set_cons_zero, List.set_cons_succ]
  refine take_at (i := 1) (v := ?va1) 32 rfl rfl (by kernel_rfl) (by kernel_rfl) (by kernel_rfl) (fun _ _ _ h => h) (Or.inl ⟨by rfl, ?hya1⟩) hHeld ?ra1
  case hya1 => intro wx hSw; go_simp; try with_reducible rfl
  try simp only [Act.put, List.setIfInBounds_toArray, List.set_cons_zero, List.set_cons_succ]
  refine take_at (i := 2) (v := ?va2) 33 rfl rfl (by kernel_rfl) (by kernel_rfl) (by kernel_rfl) (fun _ _ _ h => h) (Or.inl ⟨by rfl, ?hya2⟩) hHeld ?ra2
  case hya2 => intro wx hSw; go_simp; try with_reducible rfl
  try simp only [Act.put, List.setIfInBounds_toArray, List.set_cons_zero, List.set_cons_succ]
  refine take_at (i := 3) (v := ?va3) 34 rfl rfl (by kernel_rfl) (by kernel_rfl) (by kernel_rfl) (fun _ _ _ h => h) (Or.inl ⟨by rfl, ?hya3⟩) hHeld ?ra3
  case hya3 => intro wx hSw; go_simp; try with_reducible rfl
  try simp only [Act.put, List.setIfInBounds_toArray, List.set_cons_zero, List.set_cons_succ]
  refine take_at (i := 4) (v := ?va4) 35 rfl rfl (by kernel_rfl) (by kernel_rfl) (by kernel_rfl) (fun _ _ _ h => h) (Or.inl ⟨by rfl, ?hya4⟩) hHeld ?ra4
  case hya4 => intro wx hSw; go_simp; try with_reducible rfl
  try simp only [Act.put, List.setIfInBounds_toArray, List.set_cons_zero, List.set_cons_succ]
  refine take_at (i := 5) (v := ?va5) 36 rfl rfl (by kernel_rfl) (by kernel_rfl) (by kernel_rfl) (fun _ _ _ h => h) (Or.inl ⟨by rfl, ?hya5⟩) hHeld ?ra5
  case hya5 => intro wx hSw; go_simp; try with_reducible rfl
  try simp only [Act.put, List.setIfInBounds_toArray, List.set_cons_zero, List.set_cons_succ]
  refine take_at (i := 6) (v := ?va6) 37 rfl rfl (by kernel_rfl) (by kernel_rfl) (by kernel_rfl) (fun _ _ _ h => h) (Or.inl ⟨by rfl, ?hya6⟩) hHeld ?ra6
  case hya6 => intro wx hSw; go_simp; try with_reducible rfl
  try simp only [Act.put, List.setIfInBounds_toArray, List.set_cons_zero, List.set_cons_succ]
  refine take_at (i := 7) (v := ?va7) 38 rfl rfl (by kernel_rfl) (by kernel_rfl) (by kernel_rfl) (fun _ _ _ h => h) (Or.inl ⟨by rfl, ?hya7⟩) hHeld ?ra7
  case hya7 => intro wx hSw; go_simp; try with_reducible rfl
  try simp only [Act.put, List.setIfInBounds_toArray, List.set_cons_zero, List.set_cons_succ]
  refine take_at (i := 8) (v := ?va8) 39 rfl rfl (by kernel_rfl) (by kernel_rfl) (by kernel_rfl) (fun _ _ _ h => h) (Or.inl ⟨by rfl, ?hya8⟩) hHeld ?ra8
  case hya8 => intro wx hSw; go_simp; try with_reducible rfl
  try simp only [Act.put, List.setIfInBounds_toArray, List.set_cons_zero, List.set_cons_succ]
  refine take_at (i := 9) (v := .agg X) 40 rfl rfl (by kernel_rfl) (by kernel_rfl) (by kernel_rfl) (fun _ _ _ h => h) (yields_row (by rfl) 24 (.tmp 5) (by rfl) w5.heap.size (by rfl) 24 X (0, 0) _ HBX.out Tryd.underlying24 rfl HINF.out) hHeld ?_
  try simp only [Act.put, List.setIfInBounds_toArray, List.set_cons_zero, List.set_cons_succ]
  refine take_at (i := 11) (v := ?va11) 42 rfl rfl (by kernel_rfl) (by kernel_rfl) (by kernel_rfl) (fun _ _ _ h => h) (Or.inl ⟨by rfl, ?hya11⟩) hHeld ?ra11
  case hya11 => intro wx hSw; go_simp; try with_reducible rfl
  try simp only [Act.put, List.setIfInBounds_toArray, List.set_cons_zero, List.set_cons_succ]
  refine wpAnyH_ready (rs := [10]) (by kernel_rfl) (by simp) ?_
  refine cons_at (some 41) rfl rfl (fun hdst K hK => ?_) AllReadyH.nil
  have hbb := hba.alloc hba.size (.cells #[.int .u8 1] 5)
  go_simp
  refine hK.out _ _ hbb (fun hHeld => ?_)
  clear hK K
  try rw [hdst]
  clear hdst
  try simp only [Act.put, List.setIfInBounds_toArray, List.set_cons_zero, List.set_cons_succ]
  refine wpAnyH_ready (rs := [12]) (by kernel_rfl) (by simp) ?_
  refine cons_at (some 43) rfl rfl (fun hdst K hK => ?_) AllReadyH.nil
  refine step_ungd (by rfl) ?_
  refine step_app (by rfl) (.tmp 41) (.tmp 42) (by rfl) wa.heap.size (.slice (some ⟨wa.heap.size, 0, none⟩) 1 1) [1] (by rfl) (OwnB.lit wa [1] (by simp)) wa.heap.size a11 64 c11 D2 (by rfl) HD2L.out (((HR11.out.below hba).more hba.size).alloc (Nat.le_refl _) _) (by simp) (by rw [World.size_alloc]; omega) ?_
  intro vz wz hoz hgz hvz
  have hgz' : (wa.alloc (.cells #[.int .u8 1] 5)).grownBy wz (some wa.heap.size) := hgz
  have hbz : Below w11.heap.size w11 wz := hbb.trans (below_grown hgz' hbb.size (fun q h => by cases h; exact hba.size))
  obtain ⟨az, cz, rfl, hcz⟩ := OwnB.shape hoz
  have hlz : ([1] ++ D2).length = 65 := by rw [List.length_append, HD2L.out]; rfl
  rw [hlz] at hoz hcz ⊢
  refine hK.out _ _ hbz (fun hHeld => ?_)
  clear hK K
  try rw [hdst]
  clear hdst
  try simp only [Act.put, List.setIfInBounds_toArray, List.set_cons_zero, List.set_cons_succ]
  refine wpAnyH_ready (rs := [13]) (by kernel_rfl) (by simp) ?_
  refine cons_at (some 44) rfl rfl (fun hdst K hK => ?_) AllReadyH.nil
  refine step_call1w (by rfl) 18 (.tmp 43) #[22] (by rfl) (.slice az 65 cz) (by rfl) (enters_of Tryd.func18 (by kernel_rfl) rfl) ?_
  refine (KS.out _ az cz hHeld (OwnB.base_mono hoz hba.size) hcz).mono ?_
  rintro e wy ⟨rfl, hby⟩
  refine ⟨_, rfl, ?_⟩
  refine hK.out _ _ hby (fun hHeld => ?_)
  clear hK K
  try rw [hdst]
  clear hdst
  try simp only [Act.put, List.setIfInBounds_toArray, List.set_cons_zero, List.set_cons_succ]
  refine take_at (i := 14) (v := ?va14) 45 rfl rfl (by kernel_rfl) (by kernel_rfl) (by kernel_rfl) (fun _ _ _ h => h) (Or.inl ⟨by rfl, ?hya14⟩) hHeld ?ra14
  case hya14 => intro wx hSw; have he := KE.out wx; go_simp; try with_reducible rfl
  try simp only [Act.put, List.setIfInBounds_toArray, List.set_cons_zero, List.set_cons_succ]
  refine take_at (i := 15) (v := ?va15) 46 rfl rfl (by kernel_rfl) (by kernel_rfl) (by kernel_rfl) (fun _ _ _ h => h) (Or.inl ⟨by rfl, ?hya15⟩) hHeld ?ra15
  case hya15 => intro wx hSw; go_simp; try with_reducible rfl
  try simp only [Act.put, List.setIfInBounds_toArray, List.set_cons_zero, List.set_cons_succ]
  refine take_at (i := 16) (v := ?va16) 2 rfl rfl (by kernel_rfl) (by kernel_rfl) (by kernel_rfl) (fun _ _ _ h => h) (Or.inl ⟨by rfl, ?hya16⟩) hHeld ?ra16
  case hya16 => intro wx hSw; go_simp; try with_reducible rfl
  try simp only [Act.put, List.setIfInBounds_toArray, List.set_cons_zero, List.set_cons_succ]
  refine wpAnyH_done (by kernel_rfl) ?_ _
  go_wp2_with fail
  go_ret
  exact ⟨rfl, HB011.out.trans (hby.mono HB011.out.size)⟩
end Go.Proofs.YtnfchojekcoplaaDoor
