/- law MerkleRoots (printed by gen_mer.py) -/
import Derived.Test.YtnfchojekcoplaaDoorMe13
namespace Go.Proofs.YtnfchojekcoplaaDoor
set_option linter.unusedVariables false
set_option linter.unusedSimpArgs false
open Go Go.RowKit

def kx (d : List UInt8) (n i k : Nat) : List UInt8 := [kindL k] ++ secL (lev d n k) (i / 2 ^ k)
def RtR (W4 : World) (n i : Nat) (d d' : List UInt8) (N : Nat) (va vb vk : Value) (wr : World) : Prop :=
  ∃ k : Nat, vk = .int .i64 (k : Int) ∧ Below W4.heap.size W4 wr ∧
    ((k ≤ N ∧ secL (lev d n k) (i / 2 ^ k) ≠ secL (lev d' n k) (i / 2 ^ k) ∧ ∃ aa ca ab cb, va = .slice aa 65 ca ∧ 65 ≤ ca ∧ ca ≤ 9223372036854775807 ∧ vb = .slice ab 65 cb ∧ 65 ≤ cb ∧ cb ≤ 9223372036854775807 ∧ Rd wr wr.heap.size aa (bs (kx d n i k)) ∧ Rd wr wr.heap.size ab (bs (kx d' n i k))) ∨
     (k = N + 1 ∧ rootL d ≠ rootL d'))

set_option maxRecDepth 16000 in
set_option maxHeartbeats 4000000 in
theorem law_MerkleRoots (ad : Option Addr) (nd cd : Nat) (data : List UInt8) (p byv : Int) (W : World) (hx : BytesIn W ad nd cd data) (hp : (Lit.int .i64 p).wf = true) (hq : (Lit.int .u8 byv).wf = true) (hk : KOK W) :
    Calls Tryd.prog 7 #[.slice ad nd cd, .int .i64 p, .int .u8 byv] W fun e w' => e = .returned (.bool true) ∧ Below W.heap.size W w' := by
  obtain ⟨y, rfl⟩ := u8_open byv hq
  have HX := Lib.hid hx
  have HK := Lib.hid hk
  have hsm := hx.small
  have hcp := hx.le_cap
  have hpb : -9223372036854775808 ≤ p ∧ p ≤ 9223372036854775807 := by
    have e1 : IntKind.i64.min = -9223372036854775808 := by decide
    have e2 : IntKind.i64.max = 9223372036854775807 := by decide
    simp only [Lit.wf, e1, e2, Bool.and_eq_true, decide_eq_true_eq] at hp
    exact hp
  have HPB := Lib.hid hpb
  clear hx hk hp hq hpb
  go_enter Tryd.func7, Tryd.ntmps7
  go_wp2_with fail
  refine (picked_any data ad nd cd W HX.out.len_eq (by omega) HX.out.rd).mono ?_
  rintro e w1 ⟨n, hn1, hn2, d, hd, rfl, ho1, hb1⟩
  have HRD1 := Lib.hid ho1.rd
  have HB1 := Lib.hid hb1
  have HD := Lib.hid hd
  have hs1 : W.heap.size < w1.heap.size := (OwnB.lt ho1 _ rfl).2
  have HL0 := Lib.hid (OwnB.lit0 w1)
  obtain ⟨gd, hgd⟩ : ∃ gd, W.heap.size = gd := ⟨_, rfl⟩
  have HGD := Lib.hid hgd
  rw [hgd] at HRD1 hs1 ⊢
  clear ho1 hb1 hd hgd
  go_upto_if 28 with (refine wpList_app rfl _ _ rfl w1.heap.size _ [] rfl HL0.out w1.heap.size (some ⟨gd, 0, none⟩) (64 * n) (64 * n) d rfl HD.out (HRD1.out.alloc (Nat.le_refl _) _) (by simp; omega) (by rw [World.size_alloc]; omega) ?_; intro v2 w2 ho2 hg2 hv2; obtain ⟨a2, c2, rfl, hc2⟩ := OwnB.shape ho2; have HO2 := Lib.hid ho2; have HG2 : Hid ((w1.alloc (.cells #[] 5)).grownBy w2 (some w1.heap.size)) := Lib.hid hg2; have HC2 := Lib.hid hc2; clear ho2 hg2 hv2 hc2)
  go_cut [1] (fun v wn => (∃ m : Nat, v = .int .i64 m ∧ m < 9223372036854775808) ∧ wn = w2)
  case first =>
    have hpb := HPB.out
    by_cases hneg : p < 0
    · have hw1 : wrap64 (p + 1) = p + 1 := IntWalk.wrap64_in _ (by omega)
      have hw2 : wrap64 (-(p + 1)) = -(p + 1) := IntWalk.wrap64_in _ (by omega)
      obtain ⟨m, hm⟩ : ∃ m : Nat, -(p + 1) = (m : Int) := ⟨(-(p + 1)).toNat, by omega⟩
      have hml : m < 9223372036854775808 := by omega
      have HM := Lib.hid hm
      clear hpb hm
      go_wp2_with fail
      go_meet
      exact ⟨⟨m, by rw [hw2, HM.out], hml⟩, rfl⟩
    · obtain ⟨m, rfl⟩ : ∃ m : Nat, p = (m : Int) := ⟨p.toNat, by omega⟩
      have hml : m < 9223372036854775808 := by omega
      clear hpb
      go_wp2_with fail
      go_meet
      exact ⟨⟨m, rfl, hml⟩, rfl⟩
  case' rest =>
    obtain ⟨⟨m, rfl, hml⟩, rfl⟩ := hcut
    rename World => w2
  have ho2 := HO2.out
  have hc2 := HC2.out
  rw [List.nil_append, HD.out] at ho2 hc2
  obtain ⟨go, oo, c2', hv, hgo1, hgo2, hc2', _⟩ := OwnG.form ho2 (by rw [HD.out]; omega)
  rw [HD.out] at hv hc2'
  rw [HD.out]
  injection hv with hv1 _ hv3
  subst hv1; subst hv3
  have hcap2 := own_cap ho2
  obtain ⟨P, hP⟩ : ∃ P, m % (64 * n) = P := ⟨_, rfl⟩
  have hPn : P < 64 * n := by rw [← hP]; exact Nat.mod_lt _ (by omega)
  have hmi : (m : Int) % (64 * (n : Int)) = (P : Int) := by rw [← hP]; push_cast; rfl
  have hmt : (m : Int).tmod (64 * (n : Int)) = (P : Int) := by rw [Int.tmod_eq_emod_of_nonneg (by omega)]; exact hmi
  have hn0 : ¬ (64 * (n : Int) = 0) := by omega
  have hPd : P < d.length := by rw [HD.out]; exact hPn
  have hOG : OwnG w2 w1.heap.size 5 1 (.slice (some ⟨go, oo, none⟩) (64 * n) c2) (64 * n) (bs d) := by
    have h0 := ho2
    unfold OwnB at h0
    rw [HD.out] at h0
    exact h0
  obtain ⟨z, hz⟩ : ∃ z, d[P] = z := ⟨_, rfl⟩
  have hce := OwnG.cellAt hOG P (.int .u8 (z.toNat : Int)) (by rw [bs_get d P hPd, hz])
  have hfr := OwnG.frozenAt hOG P (by omega)
  have E1 := Lib.hid (u8_xor_byte z y)
  obtain ⟨d', hd'⟩ : ∃ d', d.set P (z ^^^ y) = d' := ⟨_, rfl⟩
  have hdl' : d'.length = 64 * n := by rw [← hd', List.length_set, HD.out]
  have hb12 : Below w1.heap.size w1 w2 := ((Below.refl _ w1).alloc (Nat.le_refl _) _).trans (below_grown HG2.out (by rw [World.size_alloc]; omega) (fun q h => by cases h; exact Nat.le_refl _))
  obtain ⟨w3, hw3⟩ : ∃ w3, w2.setCell ⟨go, oo + P, none⟩ (.int .u8 ((z ^^^ y).toNat : Int)) = w3 := ⟨_, rfl⟩
  have ho3 : OwnB w3 w1.heap.size (.slice (some ⟨go, oo, none⟩) (64 * n) c2) d' := by
    rw [← hw3, ← hd']
    unfold OwnB
    rw [List.length_set, HD.out, bs_set]
    exact OwnG.stored hOG P _ (by rw [bs_length]; exact hPd)
  have hb23 : Below w1.heap.size w2 w3 := by rw [← hw3]; exact (Below.refl _ w2).setCell (p := ⟨go, oo + P, none⟩) hgo1 _
  have hb13 := hb12.trans hb23
  have HB03 := Lib.hid (HB1.out.trans (hb13.mono (by rw [HGD.out]; omega)))
  have HD3 : Hid (Rd w3 w3.heap.size (some ⟨gd, 0, none⟩) (bs d)) := Lib.hid ((HRD1.out.below hb13).more hb13.size)
  have HO3 := Lib.hid ho3
  have HDL := Lib.hid hdl'
  have HDD := Lib.hid hd'
  have HZ := Lib.hid hz
  have HP := Lib.hid (And.intro hPd hPn)
  have HW3 := Lib.hid hw3
  clear ho2 hc2' hOG hz hd' hdl' hb12 hb23 hb13 ho3 HO2 HG2 HC2 hgo1 hgo2 HL0 HRD1 hP hw3
  have HBU := Lib.hid (mbuild_any d (some ⟨gd, 0, none⟩) (64 * n) (64 * n) w3 HD.out (Nat.le_refl _) (by omega) HD3.out (HK.out.below HB03.out) (by unfold okB; have := HD.out; omega))
  go_upto_region 7 with (fail)
  rw [E1.out, HW3.out]
  have hq64 : (64 * (n : Int)) / 64 = (n : Int) := by omega
  clear hce hfr hmt hml
  go_wp2_with fail
  refine HBU.out.mono ?_
  rintro e w4 ⟨vt, rfl, hot, hb4⟩
  obtain ⟨at_, ct, rfl, hct⟩ := OwnB.shape hot
  have hcapt := own_cap hot
  obtain ⟨LT, hLT⟩ : ∃ LT, 64 * sumC n (nlev n) = LT := ⟨_, rfl⟩
  have hTl : ∀ D : List UInt8, D.length = 64 * n → (treeL D).length = LT := fun D hD => by
    have hn64 : D.length / 64 = n := by omega
    unfold treeL
    rw [hn64, treeB_length D n hD, hLT]
  rw [hTl d HD.out] at hot hct ⊢
  obtain ⟨X, Z, hX, hinf, hone, hzz, hzs, w5, hw5, hB5, hb5, hs5⟩ := keep_digest w4 (rootL d) (rootL_length _)
  rw [hX]
  have hb35 := hb4.trans (hb5.mono hb4.size)
  have hb05 := HB03.out.trans (hb35.mono HB03.out.size)
  have HO5 := Lib.hid (HO3.out.below hb35)
  have HBV := Lib.hid (mbuild_any d' (some ⟨go, oo, none⟩) (64 * n) c2 w5 HDL.out hc2 hcap2 ((HO3.out.below hb35).rd) (HK.out.below hb05) (by unfold okB; have := HDL.out; omega))
  have HT5 : Hid (Rd w5 w5.heap.size at_ (bs (treeL d))) := Lib.hid ((hot.rd.below hb5).more hb5.size)
  have HD5 : Hid (Rd w5 w5.heap.size (some ⟨gd, 0, none⟩) (bs d)) := Lib.hid ((HD3.out.below hb35).more hb35.size)
  have HR5 := Lib.hid hB5
  have HXX := Lib.hid hX
  have HINF := Lib.hid hinf
  have HB05 := Lib.hid hb05
  have HTL := Lib.hid hTl
  have HLT := Lib.hid hLT
  clear hX hB5 hb5 hs5 hb4 hb35 hb05 hot hTl hLT HBU HD3 HO3
  go_wp2_with (refine wpList_store_row rfl 24 _ _ rfl w4.heap.size X rfl rfl 24 Z hzz hinf hzs hone (hgoalL hw5 ?_))
  refine HBV.out.mono ?_
  rintro e w6 ⟨vu, rfl, hou, hb6⟩
  obtain ⟨au, cu, rfl, hcu⟩ := OwnB.shape hou
  have hcapu := own_cap hou
  rw [HTL.out d' HDL.out] at hou hcu ⊢
  obtain ⟨Y, ZY, hY, hinfY, honeY, hzzY, hzsY, w7, hw7, hB7, hb7, hs7⟩ := keep_digest w6 (rootL d') (rootL_length _)
  rw [hY]
  have hb57 := hb6.trans (hb7.mono hb6.size)
  have HU7 : Hid (Rd w7 w7.heap.size au (bs (treeL d'))) := Lib.hid ((hou.rd.below hb7).more hb7.size)
  have HT7 : Hid (Rd w7 w7.heap.size at_ (bs (treeL d))) := Lib.hid ((HT5.out.below hb57).more hb57.size)
  have HD7 : Hid (Rd w7 w7.heap.size (some ⟨gd, 0, none⟩) (bs d)) := Lib.hid ((HD5.out.below hb57).more hb57.size)
  have HE7 : Hid (Rd w7 w7.heap.size (some ⟨go, oo, none⟩) (bs d')) := Lib.hid ((HO5.out.below hb57).rd)
  have HB07 := Lib.hid (HB05.out.trans (hb57.mono HB05.out.size))
  have hrx := HR5.out.below hb57
  have hry := hB7
  rw [show (bs (rootL d)) = X.toList from by rw [← HXX.out]] at hrx
  rw [show (bs (rootL d')) = Y.toList from by rw [← hY]] at hry
  have HGX : Hid (∀ wx, Below w7.heap.size w7 wx → wx.heap[w4.heap.size]? = some (.cells X 24 (0, 0))) := Lib.hid (fun wx hb => by have := hrx.below hb; simpa [Blk] using this)
  have HGY : Hid (∀ wx, Below w7.heap.size w7 wx → wx.heap[w6.heap.size]? = some (.cells Y 24 (0, 0))) := Lib.hid (fun wx hb => by have := hry.below hb; simpa [Blk] using this)
  have HINY := Lib.hid hinfY
  have HEQ : Hid (∀ wx, (Op.equalIn 10000 24 (.agg X) (.agg Y)).run Tryd.prog wx = .ok (rootL d == rootL d') wx) := Lib.hid (fun wx => eq_digest (rootL d) (rootL d') (rootL_length _) (rootL_length _) HXX.out hY wx)
  clear hY hB7 hb7 hs7 hb6 hb57 hou hrx hry HBV HO5 HT5 HD5 HR5 hzz hinf hzs hone hw5
  go_upto_region 9 with (refine wpList_store_row rfl 24 _ _ rfl w6.heap.size Y rfl rfl 24 ZY hzzY hinfY hzsY honeY (hgoalL hw7 ?_))
  clear hzzY hinfY hzsY honeY hw7
  by_cases hy0 : y = 0
  · have hdd : d' = d := by
      rw [← HDD.out, hy0, UInt8.xor_zero, ← HZ.out, List.set_getElem_self]
    have hy0i : ((y.toNat : Nat) : Int) = 0 := by rw [hy0]; rfl
    go_wp2_with fail
    refine (mealive_any w7 (HK.out.below HB07.out)).mono ?_
    rintro e w8 ⟨rfl, hb8⟩
    have h3 := HGX.out w8 hb8
    have h5 := HGY.out w8 hb8
    have he := HEQ.out w8
    rw [hdd, beq_self_eq_true] at he
    have HB08 := Lib.hid (HB07.out.trans (hb8.mono HB07.out.size))
    clear hb8
    go_wp2_with (first
      | refine wpList_load_rowG (by rfl) 24 (.tmp 10) rfl w4.heap.size rfl 24 X (0, 0) _ h3 Tryd.underlying24 rfl HINF.out ?_
      | refine wpList_load_rowG (by rfl) 24 (.tmp 13) rfl w6.heap.size rfl 24 Y (0, 0) _ h5 Tryd.underlying24 rfl HINY.out ?_)
    go_ret
    exact ⟨rfl, HB08.out⟩
  have hy0i : ¬ (((y.toNat : Nat) : Int) = 0) := fun h => hy0 (by
    have : y.toNat = 0 := by omega
    exact UInt8.toNat_inj.1 (by rw [this]; rfl))
  obtain ⟨i, hi⟩ : ∃ i, P / 64 = i := ⟨_, rfl⟩
  have hin : i < n := by have := HP.out.2; omega
  have hPi : (P : Int) / 64 = (i : Int) := by omega
  have HOTH : Hid (∀ q, q < n → q ≠ i → secL d q = secL d' q) := Lib.hid (fun q _ hq => by rw [← HDD.out]; exact (sec_set_other d P q _ (by rw [hi]; exact hq)).symm)
  have HOWN : Hid (secL d i ≠ secL d' i) := Lib.hid (by
    rw [← HDD.out, ← hi]
    refine sec_set_own d P (z ^^^ y) HP.out.1 (fun e => hy0 ?_)
    rw [HZ.out] at e
    have h2 : z ^^^ (z ^^^ y) = z ^^^ z := by rw [e]
    rw [← UInt8.xor_assoc, UInt8.xor_self, UInt8.zero_xor] at h2
    exact h2)
  have i0 : (0 : Int) ≤ (i : Int) := Int.natCast_nonneg i
  have w2' : IntKind.i64.wrap ((i : Int) * 64) = (i : Int) * 64 := by rw [IntKind.wrap_i64]; omega
  have w3' : IntKind.i64.wrap ((i : Int) + 1) = (i : Int) + 1 := by rw [IntKind.wrap_i64]; omega
  have w4' : IntKind.i64.wrap (((i : Int) + 1) * 64) = ((i : Int) + 1) * 64 := by rw [IntKind.wrap_i64]; omega
  have c3 : 0 ≤ (i : Int) * 64 := by omega
  have c3' : (i : Int) * 64 ≤ ((i : Int) + 1) * 64 := by omega
  have c6 : (i : Int) ≤ (i : Int) + 1 := by omega
  have c4 : 0 ≤ ((i : Int) + 1) * 64 := by omega
  have c4' : ((i : Int) + 1) * 64 ≤ 64 * (n : Int) := by omega
  have c4'' : ((i : Int) + 1) * 64 ≤ (c2 : Int) := by omega
  have c5 : ¬ (64 * n = i * 64) := by omega
  have c5' : ¬ (c2 = i * 64) := by omega
  have t2 : ((i : Int) * 64).toNat = i * 64 := by omega
  have t3 : (((i : Int) + 1) * 64).toNat = (i + 1) * 64 := by omega
  have l64 : (i + 1) * 64 - i * 64 = 64 := by omega
  have hsl : (secL d i).length = 64 := secL_length d i n HD.out hin
  have hsl' : (secL d' i).length = 64 := secL_length d' i n HDL.out hin
  have hsec : ∀ (w : World) (g o : Nat) (D : List UInt8), Rd w w.heap.size (some ⟨g, o, none⟩) (bs D) → Rd w w.heap.size (some ⟨g, o + i * 64, none⟩) (bs (secL D i)) := fun w g o D h => by
    have := (h.drop (64 * i)).take 64
    rw [← bs_drop, ← bs_take] at this
    have e : (some ⟨g, o, none⟩ : Option Addr).map (·.add (64 * i)) = some ⟨g, o + i * 64, none⟩ := by simp [Addr.add_lit, Nat.mul_comm]
    rw [e] at this
    exact this
  have hs0 := hsec w7 gd 0 d HD7.out
  rw [Nat.zero_add] at hs0
  have HSEC7 := Lib.hid hs0
  have HSED7 := Lib.hid (hsec w7 go oo d' HE7.out)
  have HSL := Lib.hid hsl
  have HSL' := Lib.hid hsl'
  have HLIT : Hid (∀ wx : World, OwnB (wx.alloc (.cells #[.int .u8 0] 5)) wx.heap.size (.slice (some ⟨wx.heap.size, 0, none⟩) 1 1) [0]) := Lib.hid (fun wx => OwnB.lit wx [0] (by simp))
  have HLIT1 : Hid (∀ wx : World, OwnB (wx.alloc (.cells #[.int .u8 1] 5)) wx.heap.size (.slice (some ⟨wx.heap.size, 0, none⟩) 1 1) [1]) := Lib.hid (fun wx => OwnB.lit wx [1] (by simp))
  have HI := Lib.hid hi
  clear hs0 hsec hsl hsl' hi HD7 HE7
  go_wp2_with (first
    | (refine wpList_app rfl _ _ rfl w7.heap.size _ [0] rfl (HLIT.out w7) w7.heap.size (some ⟨gd, i * 64, none⟩) 64 (64 * n - i * 64) (secL d i) rfl HSL.out (HSEC7.out.alloc (Nat.le_refl _) _) (by simp) (by rw [World.size_alloc]; omega) ?_; intro v8 w8 ho8 hg8 hv8; obtain ⟨a8, c8, rfl, hc8, hc8', hr8, hb78⟩ := app_kind (kk := 0) HSL.out ho8 hg8; have HR8 := Lib.hid hr8; have HB78 := Lib.hid hb78; have HSED8 := Lib.hid ((HSED7.out.below hb78).more hb78.size); clear ho8 hg8 hv8 hr8 hb78)
    | (refine wpList_app rfl _ _ rfl w8.heap.size _ [0] rfl (HLIT.out w8) w8.heap.size (some ⟨go, oo + i * 64, none⟩) 64 (c2 - i * 64) (secL d' i) rfl HSL'.out (HSED8.out.alloc (Nat.le_refl _) _) (by simp) (by rw [World.size_alloc]; omega) ?_; intro v9 w9 ho9 hg9 hv9; obtain ⟨a9, c9, rfl, hc9, hc9', hr9, hb89⟩ := app_kind (kk := 0) HSL'.out ho9 hg9; have HR9 := Lib.hid hr9; have HB89 := Lib.hid hb89; clear ho9 hg9 hv9 hr9 hb89))
  have hb79 := HB78.out.trans (HB89.out.mono HB78.out.size)
  refine (lpath_any d n i at_ LT ct w9 HD.out hn1 (by omega) hin (HTL.out d HD.out) hct hcapt ((HT7.out.below hb79).more hb79.size)).mono ?_
  rintro e wa ⟨ap, cp1, rfl, hcp1, hcp1', hpat, hba⟩
  have hb7a := hb79.trans (hba.mono hb79.size)
  have HPAT := Lib.hid hpat
  have HB7A := Lib.hid hb7a
  have HPB2 := Lib.hid (lpath_any d' n i au LT cu wa HDL.out hn1 (by omega) hin (HTL.out d' HDL.out) hcu hcapu ((HU7.out.below hb7a).more hb7a.size))
  have HR8A : Hid (Rd wa wa.heap.size a8 (bs ([0] ++ secL d i))) := Lib.hid ((((HR8.out.below HB89.out).more HB89.out.size).below hba).more hba.size)
  have HR9A : Hid (Rd wa wa.heap.size a9 (bs ([0] ++ secL d' i))) := Lib.hid ((HR9.out.below hba).more hba.size)
  clear hpat hb79 hb7a hba HR8 HR9 HB78 HB89 HSED8
  go_wp2_with fail
  refine HPB2.out.mono ?_
  rintro e wb ⟨aq, cp2, rfl, hcp2, hcp2', hpat2, hbb⟩
  obtain ⟨hc1, hnl⟩ := nlev_one n hn1 (by omega)
  have HB7B := Lib.hid (HB7A.out.trans (hbb.mono HB7A.out.size))
  have HPATB := Lib.hid (HPAT.out.below hbb)
  have HQATB := Lib.hid hpat2
  have hst : RtR wb n i d d' (nlev n) (.slice a8 65 c8) (.slice a9 65 c9) (.int .i64 0) wb := ⟨0, rfl, Below.refl _ _, .inl ⟨Nat.zero_le _, by rw [Nat.pow_zero, Nat.div_one]; exact HOWN.out, a8, c8, a9, c9, rfl, hc8, hc8', rfl, hc9, hc9', by
    have := (HR8A.out.below hbb).more hbb.size
    unfold kx
    rw [Nat.pow_zero, Nat.div_one]
    exact this, by
    have := (HR9A.out.below hbb).more hbb.size
    unfold kx
    rw [Nat.pow_zero, Nat.div_one]
    exact this⟩⟩
  have HST := Lib.hid hst
  clear hst hpat2 hbb HPB2 HR8A HR9A HB7A HPAT
  obtain ⟨N, hN⟩ : ∃ N, nlev n = N := ⟨_, rfl⟩
  have h12 : nlev n ≤ 12 := lvs_length (n : Int)
  have HN := Lib.hid hN
  rw [hN] at hc1 hnl hcp1 hcp2 HPATB HQATB HST h12 ⊢
  clear hN
  rcases HPATB.out with hp0 | ⟨bp, op, hap, hbp, hpc⟩
  · exfalso
    have := upS_length d n N 0 i
    rw [hp0] at this
    simp at this
    omega
  rcases HQATB.out with hp0 | ⟨bq, oq, haq, hbq, hqc⟩
  · exfalso
    have := upS_length d' n N 0 i
    rw [hp0] at this
    simp at this
    omega
  injection hap with hap
  subst hap
  injection haq with haq
  subst haq
  have HPC := Lib.hid hpc
  have HQC := Lib.hid hqc
  clear hpc hqc
  have hN0 : ((N : Int) == 0) = false := by
    rw [beq_eq_false_iff_ne]
    omega
  have hN1 : ¬ ((N : Int) = 0) := by omega
  go_wp2_with fail
  go_loopw [17, 18, 21] (fun va vb vk wr => RtR wb n i d d' N va vb vk wr) (fun _ _ vk _ => N + 2 - (intOf vk).toNat)
  case atStart => exact HST.out
  case round =>
    clear HST
    obtain ⟨k, rfl, hb, hcase⟩ := hrel
    have hb7r := HB7B.out.trans (hb.mono HB7B.out.size)
    have HB7R := Lib.hid hb7r
    have HBR := Lib.hid hb
    have HB0R := Lib.hid (HB07.out.trans (hb7r.mono HB07.out.size))
    clear hb hb7r
    rcases hcase with ⟨hk, hne, aa, ca, ab, cb, rfl, hca, hca', rfl, hcb, hcb', hrA, hrB⟩ | ⟨hk, hrt⟩
    · have hkI : (k : Int) ≤ (N : Int) := by omega
      have hq2 := half_lt n i hin k
      have hAl : (kx d n i k).length = 65 := by unfold kx; rw [List.length_append, secL_length _ _ _ (lev_length d n HD.out k) hq2]; rfl
      have hBl : (kx d' n i k).length = 65 := by unfold kx; rw [List.length_append, secL_length _ _ _ (lev_length d' n HDL.out k) hq2]; rfl
      obtain ⟨A, hA⟩ : ∃ A, kx d n i k = A := ⟨_, rfl⟩
      obtain ⟨B, hB⟩ : ∃ B, kx d' n i k = B := ⟨_, rfl⟩
      have hAB : A ≠ B := by
        rw [← hA, ← hB]
        exact fun e => hne (List.append_cancel_left e)
      have hsA : shaL A = hashL (kindL k) (secL (lev d n k) (i / 2 ^ k)) := by rw [← hA]; rfl
      have hsB : shaL B = hashL (kindL k) (secL (lev d' n k) (i / 2 ^ k)) := by rw [← hB]; rfl
      rw [hA] at hAl hrA
      rw [hB] at hBl hrB
      have k1 := conv_rd hrA 65 ca hAl
      have k2 := conv_rd hrB 65 cb hBl
      have hbe : (A == B) = false := beq_eq_false_iff_ne.2 hAB
      have HSA := Lib.hid (sum_any A aa 65 ca wr hAl hca hca' hrA (HK.out.below HB0R.out))
      have HRB := Lib.hid hrB
      have HHA := Lib.hid (And.intro hsA hsB)
      have HQ2 := Lib.hid hq2
      clear hrA hrB hAB hA hB hsA hsB hne hq2
      go_wp2_with fail
      refine HSA.out.mono ?_
      rintro e wc ⟨rfl, hbc⟩
      obtain ⟨XA, hXA⟩ : ∃ XA, (bs (shaL A)).toArray = XA := ⟨_, rfl⟩
      rw [hXA]
      have HSB := Lib.hid (sum_any B ab 65 cb wc hBl hcb hcb' ((HRB.out.below hbc).more hbc.size) ((HK.out.below HB0R.out).below hbc))
      have HBC := Lib.hid hbc
      clear hbc HSA k1 k2
      go_wp2_with fail
      refine HSB.out.mono ?_
      rintro e wd ⟨rfl, hbd⟩
      obtain ⟨XB, hXB⟩ : ∃ XB, (bs (shaL B)).toArray = XB := ⟨_, rfl⟩
      rw [hXB]
      have he := eq_digest (shaL A) (shaL B) (shaL_length A) (shaL_length B) hXA hXB wd
      have hbrd : Below wr.heap.size wr wd := HBC.out.trans (hbd.mono HBC.out.size)
      have HBD := Lib.hid (HBR.out.trans (hbrd.mono HBR.out.size))
      have HB7D := Lib.hid (HB7R.out.trans (hbrd.mono HB7R.out.size))
      have HB0D := Lib.hid (HB0R.out.trans (hbrd.mono HB0R.out.size))
      clear hbd HSB hXA hXB HBC hbrd
      by_cases hsum : shaL A = shaL B
      · have hroot : rootL d = rootL d' := by
          have h1 := HHA.out
          rw [h1.1, h1.2] at hsum
          exact meet_root d d' n i k HD.out HDL.out hn1 (by omega) hin HOTH.out (by rw [HN.out]; exact hk) hsum
        rw [beq_iff_eq.2 hsum] at he
        have HROOT := Lib.hid hroot
        clear hroot hsum
        go_wp2_with fail
        refine (mealive_any wd (HK.out.below HB0D.out)).mono ?_
        rintro e we ⟨rfl, hbe2⟩
        have hb7e := HB7D.out.trans (hbe2.mono HB7D.out.size)
        have h3 := HGX.out we hb7e
        have h5 := HGY.out we hb7e
        have he2 := HEQ.out we
        rw [beq_iff_eq.2 HROOT.out] at he2
        have HB0E := Lib.hid (HB0D.out.trans (hbe2.mono HB0D.out.size))
        clear hb7e hbe2 he
        go_wp2_with (first
          | refine wpList_load_rowG (by rfl) 24 (.tmp 10) rfl w4.heap.size rfl 24 X (0, 0) _ h3 Tryd.underlying24 rfl HINF.out ?_
          | refine wpList_load_rowG (by rfl) 24 (.tmp 13) rfl w6.heap.size rfl 24 Y (0, 0) _ h5 Tryd.underlying24 rfl HINY.out ?_)
        go_ret
        exact ⟨rfl, HB0E.out⟩
      · rw [beq_eq_false_iff_ne.2 hsum] at he
        have hdf : hashL (kindL k) (secL (lev d n k) (i / 2 ^ k)) ≠ hashL (kindL k) (secL (lev d' n k) (i / 2 ^ k)) := by
          have h1 := HHA.out
          rw [← h1.1, ← h1.2]; exact hsum
        by_cases hgo : k < N
        · have hgoI : (k : Int) < (N : Int) := by omega
          have hq3 := half_lt n i hin (k + 1)
          have e1 := upS_at d n N 0 i k hgo
          have e2 := upS_at d' n N 0 i k hgo
          rw [Nat.zero_add] at e1 e2
          obtain ⟨x1, hx1⟩ : ∃ x1, secL (lev d n (k + 1)) (i / 2 ^ (k + 1)) = x1 := ⟨_, rfl⟩
          obtain ⟨x2, hx2⟩ : ∃ x2, secL (lev d' n (k + 1)) (i / 2 ^ (k + 1)) = x2 := ⟨_, rfl⟩
          rw [hx1] at e1
          rw [hx2] at e2
          have h12' : x1.length = 64 := by rw [← hx1]; exact secL_length _ _ _ (lev_length d n HD.out (k + 1)) hq3
          have h22' : x2.length = 64 := by rw [← hx2]; exact secL_length _ _ _ (lev_length d' n HDL.out (k + 1)) hq3
          have hne' : secL (lev d n (k + 1)) (i / 2 ^ (k + 1)) ≠ secL (lev d' n (k + 1)) (i / 2 ^ (k + 1)) := by
            have := up_differ d d' n k (i / 2 ^ k) HQ2.out hdf
            rwa [Nat.div_div_eq_div_mul, ← Nat.pow_succ] at this
          obtain ⟨ax1, cx1, p1, p2, p3, p4⟩ := HPC.out k x1 e1
          obtain ⟨ax2, cx2, p5, p6, p7, p8⟩ := HQC.out k x2 e2
          rw [h12'] at p1 p2
          rw [h22'] at p5 p6
          have m1 := (HBD.out.cell (p := ⟨bp, op + k, none⟩) hbp).trans p1
          have m1' : (wd.alloc (.cells #[.int .u8 1] 5)).cell? ⟨bp, op + k, none⟩ = some (.slice ax1 64 cx1) := ((((Below.refl wb.heap.size wd).alloc HBD.out.size _)).cell (p := ⟨bp, op + k, none⟩) hbp).trans m1
          have m2 := (HBD.out.cell (p := ⟨bq, oq + k, none⟩) hbq).trans p5
          have M2 : Hid (∀ wx, Below wd.heap.size wd wx → wx.cell? ⟨bq, oq + k, none⟩ = some (.slice ax2 64 cx2)) := Lib.hid (fun wx hx => (hx.cell (p := ⟨bq, oq + k, none⟩) (Nat.lt_of_lt_of_le hbq HBD.out.size)).trans m2)
          have RX1 : Hid (Rd wd wd.heap.size ax1 (bs x1)) := Lib.hid ((p4.below HBD.out).more HBD.out.size)
          have RX2 : Hid (Rd wd wd.heap.size ax2 (bs x2)) := Lib.hid ((p8.below HBD.out).more HBD.out.size)
          have KF : Hid (∀ (we wf : World) (a7 a8 : Option Addr) (c7 c8 : Nat), 65 ≤ c7 → c7 ≤ 9223372036854775807 → 65 ≤ c8 → c8 ≤ 9223372036854775807 → Rd we we.heap.size a7 (bs ([1] ++ x1)) → Below wd.heap.size wd we → Rd wf wf.heap.size a8 (bs ([1] ++ x2)) → Below we.heap.size we wf → RtR wb n i d d' N (.slice a7 65 c7) (.slice a8 65 c8) (.int .i64 ((k : Int) + 1)) wf) := Lib.hid (fun we wf a7 a8 c7 c8 g1 g2 g3 g4 g5 g6 g7 g8 => by
            have hk1 : kindL (k + 1) = 1 := by unfold kindL; rw [if_neg (by omega)]
            refine ⟨k + 1, by push_cast; rfl, (HBD.out.trans (g6.mono HBD.out.size)).trans (g8.mono (HBD.out.trans (g6.mono HBD.out.size)).size), .inl ⟨by omega, hne', a7, c7, a8, c8, rfl, g1, g2, rfl, g3, g4, ?_, ?_⟩⟩
            · unfold kx; rw [hk1, hx1]; exact (g5.below g8).more g8.size
            · unfold kx; rw [hk1, hx2]; exact g7)
          have H12 := Lib.hid h12'
          have H22 := Lib.hid h22'
          clear e1 e2 hx1 hx2 hne' p1 p4 p5 p8 m2 hsum hdf h12' h22' hq3
          go_wp2_with (first
            | (refine wpList_app rfl _ _ rfl wd.heap.size _ [1] rfl (HLIT1.out wd) wd.heap.size ax1 64 cx1 x1 rfl H12.out (RX1.out.alloc (Nat.le_refl _) _) (by simp) (by rw [World.size_alloc]; omega) ?_; intro v7 we ho7 hg7 hv7; obtain ⟨a7, c7, rfl, hc7, hc7', hr7, hb67⟩ := app_kind (kk := 1) H12.out ho7 hg7; have HRE := Lib.hid hr7; have HBE := Lib.hid hb67; have RX2E := Lib.hid ((RX2.out.below hb67).more hb67.size); have m27 := M2.out (we.alloc (.cells #[.int .u8 1] 5)) (hb67.alloc hb67.size _); clear ho7 hg7 hv7 hr7 hb67)
            | (refine wpList_app rfl _ _ rfl we.heap.size _ [1] rfl (HLIT1.out we) we.heap.size ax2 64 cx2 x2 rfl H22.out (RX2E.out.alloc (Nat.le_refl _) _) (by simp) (by rw [World.size_alloc]; omega) ?_; intro v8 wf ho8 hg8 hv8; obtain ⟨a8', c8', rfl, hc8, hc8', hr8, hb78⟩ := app_kind (kk := 1) H22.out ho8 hg8; have HF := Lib.hid (KF.out we wf a7 a8' c7 c8' hc7 hc7' hc8 hc8' HRE.out HBE.out hr8 hb78); clear ho8 hg8 hv8 hr8 hb78))
          all_goals go_roundw
          all_goals first
            | (case measure => simp [intOf]; omega)
            | exact HF.out
            | ((repeat apply Exists.intro); exact ⟨HF.out, rfl⟩)
        · have HKN : Hid (k = N) := Lib.hid (by omega)
          have hgoI : ¬ ((k : Int) < (N : Int)) := by omega
          have hrt : rootL d ≠ rootL d' := by
            refine last_root d d' n i HD.out HDL.out hn1 (by omega) hin ?_
            rw [HN.out, ← HKN.out]
            exact hdf
          have HF : Hid (RtR wb n i d d' N (.slice aa 65 ca) (.slice ab 65 cb) (.int .i64 ((k : Int) + 1)) wd) := Lib.hid ⟨k + 1, by push_cast; rfl, HBD.out, .inr ⟨by have := HKN.out; omega, hrt⟩⟩
          clear hrt hdf hsum
          go_wp2_with fail
          all_goals go_roundw
          all_goals first
            | (case measure => simp [intOf]; omega)
            | exact HF.out
            | ((repeat apply Exists.intro); exact ⟨HF.out, rfl⟩)
    · have hkI : ¬ ((k : Int) ≤ (N : Int)) := by omega
      have HRT := Lib.hid hrt
      clear hrt
      go_wp2_with fail
      refine (mealive_any wr (HK.out.below HB0R.out)).mono ?_
      rintro e we ⟨rfl, hbe2⟩
      have hb7e := HB7R.out.trans (hbe2.mono HB7R.out.size)
      have h3 := HGX.out we hb7e
      have h5 := HGY.out we hb7e
      have he2 := HEQ.out we
      rw [beq_eq_false_iff_ne.2 HRT.out] at he2
      have HB0E := Lib.hid (HB0R.out.trans (hbe2.mono HB0R.out.size))
      clear hb7e hbe2
      go_wp2_with (first
        | refine wpList_load_rowG (by rfl) 24 (.tmp 10) rfl w4.heap.size rfl 24 X (0, 0) _ h3 Tryd.underlying24 rfl HINF.out ?_
        | refine wpList_load_rowG (by rfl) 24 (.tmp 13) rfl w6.heap.size rfl 24 Y (0, 0) _ h5 Tryd.underlying24 rfl HINY.out ?_)
      go_ret
      exact ⟨rfl, HB0E.out⟩
end Go.Proofs.YtnfchojekcoplaaDoor
