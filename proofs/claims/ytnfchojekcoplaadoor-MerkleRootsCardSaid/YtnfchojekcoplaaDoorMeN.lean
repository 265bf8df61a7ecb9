/- law MerkleNoOther -/
import Derived.Test.YtnfchojekcoplaaDoorMeW
namespace Go.Proofs.YtnfchojekcoplaaDoor
set_option linter.unusedVariables false
set_option linter.unusedSimpArgs false
open Go Go.RowKit

/-- the two chains: what stands at level k of each, and what is still above -/
def NoR (W4 : World) (N : Nat) (root : List UInt8) (ps ls : List (List UInt8)) (va vb vk : Value) (wr : World) : Prop :=
  ∃ (k q : Nat) (A B : List UInt8) (aa ab : Option Addr) (ca cb : Nat), vk = .int .i64 (k : Int) ∧ k ≤ N ∧ A ≠ B ∧ A.length = 65 ∧ B.length = 65 ∧ va = .slice aa 65 ca ∧ 65 ≤ ca ∧ ca ≤ 9223372036854775807 ∧ vb = .slice ab 65 cb ∧ 65 ≤ cb ∧ cb ≤ 9223372036854775807 ∧
    Rd wr wr.heap.size aa (bs A) ∧ Rd wr wr.heap.size ab (bs B) ∧ checkG root q (shaL A) (ps.drop k) = true ∧ checkG root q (shaL B) (ls.drop k) = true ∧ Below W4.heap.size W4 wr

theorem app_kind {wx w' : World} {ob : Obj} {kk : UInt8} {x : List UInt8} {v : Value} (hx : x.length = 64) (ho : OwnB w' wx.heap.size v ([kk] ++ x)) (hg : (wx.alloc ob).grownBy w' (some wx.heap.size)) :
    ∃ a c, v = .slice a 65 c ∧ 65 ≤ c ∧ c ≤ 9223372036854775807 ∧ Rd w' w'.heap.size a (bs ([kk] ++ x)) ∧ Below wx.heap.size wx w' := by
  obtain ⟨a, c, e, hc⟩ := OwnB.shape ho
  have hl : ([kk] ++ x).length = 65 := by rw [List.length_append, hx]; rfl
  rw [hl] at e hc
  subst e
  exact ⟨a, c, rfl, hc, own_cap ho, ho.rd, ((Below.refl _ wx).alloc (Nat.le_refl _) _).trans (below_grown hg (by rw [World.size_alloc]; omega) (fun q h => by cases h; exact Nat.le_refl _))⟩

theorem chain_step {root h : List UInt8} {q : Nat} {ls : List (List UInt8)} {k : Nat} (hk : k < ls.length) (hc : checkG root q h (ls.drop k) = true) :
    ∃ x, ls[k]? = some x ∧ x.length = 64 ∧ (x.drop (32 * (q % 2))).take 32 = h ∧ checkG root (q / 2) (hashL 1 x) (ls.drop (k + 1)) = true := by
  obtain ⟨x, hx⟩ : ∃ x, ls[k] = x := ⟨_, rfl⟩
  refine ⟨x, by rw [List.getElem?_eq_getElem hk, hx], ?_⟩
  rw [List.drop_eq_getElem_cons hk, hx, checkG] at hc
  split at hc
  · rename_i h'
    exact ⟨h'.1, h'.2, hc⟩
  · cases hc

set_option maxRecDepth 16000 in
set_option maxHeartbeats 4000000 in
theorem law_MerkleNoOther (ad : Option Addr) (nd cd : Nat) (data : List UInt8) (which : Int) (cs : Array Value) (x : ShownTy.den) (W : World) (hx0 : BytesIn W ad nd cd data) (hw : (Lit.int .i64 which).wf = true) (hx : ShownTy.reads W (Value.agg cs).cells.toList x) (hk : KOK W) :
    Calls Tryd.prog 6 #[.slice ad nd cd, .int .i64 which, .agg cs] W fun e w' => e = .returned (.bool true) ∧ Below W.heap.size W w' := by
  obtain ⟨xn, xi, other, xr, ls, ao, ap0, ar0, no, co, np, cp, nr, cr, rfl, _, _, _, hO, hlp, hcp, hcp2, hP, _⟩ := shown_open cs x W hx
  have HX := Lib.hid hx0
  have HK := Lib.hid hk
  have HO := Lib.hid hO
  have HP := Lib.hid hP
  have HLP := Lib.hid (And.intro hlp (And.intro hcp hcp2))
  have hsm := hx0.small
  have hcpd := hx0.le_cap
  have hosm := hO.small
  have hocp := hO.le_cap
  clear hx0 hx hk hO hP hlp hcp hcp2
  go_enter Tryd.func6, Tryd.ntmps6
  go_upto_region 1 with (fail)
  have hbk : Blk (W.alloc (.cells #[.int .i64 xn, .int .i64 xi, .slice ao no co, .slice ap0 np cp, .slice ar0 nr cr] 32)) W.heap.size 32 [.int .i64 xn, .int .i64 xi, .slice ao no co, .slice ap0 np cp, .slice ar0 nr cr] := Blk.new _ _ _
  have hb1 := (Below.refl W.heap.size W).alloc (Nat.le_refl _) (.cells #[.int .i64 xn, .int .i64 xi, .slice ao no co, .slice ap0 np cp, .slice ar0 nr cr] 32)
  generalize hw1 : (W.alloc (.cells #[.int .i64 xn, .int .i64 xi, .slice ao no co, .slice ap0 np cp, .slice ar0 nr cr] 32)) = w0 at hbk hb1
  clear hw1
  have e2 := hbk.cell 2 _ rfl
  have e3 := hbk.cell 3 _ rfl
  have HB0 : Hid (Below W.heap.size W w0.drew) := Lib.hid hb1.drew
  have hrd0 : Rd w0.drew w0.drew.heap.size ad (bs data) := (HX.out.rd.below HB0.out).more HB0.out.size
  have HRD0 := Lib.hid hrd0
  clear hbk hb1 hrd0
  go_still_tail 5, (by kernel_rfl)
  change wpList _ _ _ _ _ w0.drew
  go_wp2_with fail
  refine (picked_any data ad nd cd w0.drew HX.out.len_eq (by omega) HRD0.out).mono ?_
  rintro e w1 ⟨n, hn1, hn2, d, hd, rfl, ho1, hb1⟩
  clear e2 e3
  obtain ⟨wd, hwd⟩ : ∃ wd, w0.drew = wd := ⟨_, rfl⟩
  rw [hwd] at HB0 ho1 hb1 ⊢
  have hd64 : d.length / 64 = n := by omega
  have hok : okB d := by unfold okB; omega
  have hq : (64 * (n : Int)) / 64 = (n : Int) := by omega
  have hb01 := HB0.out.trans (hb1.mono HB0.out.size)
  have HBU := Lib.hid (mbuild_any d (some ⟨wd.heap.size, 0, none⟩) (64 * n) (64 * n) w1 hd (Nat.le_refl _) (by omega) ho1.rd (HK.out.below hb01) hok)
  have HRD1 := Lib.hid ho1.rd
  have HB1 := Lib.hid hb01
  have HD := Lib.hid hd
  have HD64 := Lib.hid hd64
  clear ho1 hb1 hd hd64 hok hb01 hwd HRD0
  obtain ⟨gd, hgd⟩ : ∃ gd, wd.heap.size = gd := ⟨_, rfl⟩
  rw [hgd] at HBU HRD1 ⊢
  clear hgd HB0
  go_wp2_with fail
  refine HBU.out.mono ?_
  rintro e w2 ⟨vt, rfl, hot, hb2⟩
  obtain ⟨at_, ct, rfl, hct⟩ := OwnB.shape hot
  have hcapt := own_cap hot
  obtain ⟨LT, hLT⟩ : ∃ LT, (treeL d).length = LT := ⟨_, rfl⟩
  rw [hLT] at hot hct ⊢
  obtain ⟨X, Z, hX, hinf, hone, hzz, hzs, w3, hw3, hB3, hb3, hs3⟩ := keep_digest w2 (rootL d) (rootL_length _)
  rw [hX]
  have hb13 := hb2.trans (hb3.mono hb2.size)
  have HB03 := Lib.hid (HB1.out.trans (hb13.mono HB1.out.size))
  have HBR := Lib.hid hB3
  have HT3 : Hid (Rd w3 w3.heap.size at_ (bs (treeL d))) := Lib.hid ((hot.rd.below hb3).more hb3.size)
  have HD3 : Hid (Rd w3 w3.heap.size (some ⟨gd, 0, none⟩) (bs d)) := Lib.hid ((HRD1.out.below hb13).more hb13.size)
  have HLT := Lib.hid hLT
  clear hX hB3 hb3 hs3 hb2 hb13 hot hLT HBU
  go_wp2_with (refine wpList_store_row rfl 24 _ _ rfl w2.heap.size X rfl rfl 24 Z hzz hinf hzs hone (hgoalL hw3 ?_))
  refine (mealive_any w3 (HK.out.below HB03.out)).mono ?_
  rintro e w4 ⟨rfl, hb4⟩
  have HB04 := Lib.hid (HB03.out.trans (hb4.mono HB03.out.size))
  have HBR4 := Lib.hid (HBR.out.below hb4)
  have HT4 : Hid (Rd w4 w4.heap.size at_ (bs (treeL d))) := Lib.hid ((HT3.out.below hb4).more hb4.size)
  have HD4 : Hid (Rd w4 w4.heap.size (some ⟨gd, 0, none⟩) (bs d)) := Lib.hid ((HD3.out.below hb4).more hb4.size)
  clear hb4 HBR HT3 HD3 hzz hinf hzs hone hw3
  by_cases hneg : which < 0
  · obtain ⟨wh, hwh⟩ : ∃ wh : Nat, -(which + 1) = (wh : Int) := ⟨(-(which + 1)).toNat, by omega⟩
    have hwb : -9223372036854775808 ≤ which := by
      have e1 : IntKind.i64.min = -9223372036854775808 := by decide
      simp only [Lit.wf, e1, Bool.and_eq_true, decide_eq_true_eq] at hw
      exact hw.1
    have u1 : IntKind.i64.wrap (which + 1) = which + 1 := by rw [IntKind.wrap_i64]; omega
    have u2 : wrap64 (which + 1) = which + 1 := by unfold wrap64; omega
    have u3 : IntKind.i64.wrap (-(which + 1)) = (wh : Int) := by rw [hwh, IntKind.wrap_i64]; omega
    have u4 : wrap64 (-(which + 1)) = (wh : Int) := by unfold wrap64; omega
    obtain ⟨i, hi⟩ : ∃ i, wh % n = i := ⟨_, rfl⟩
    have hin : i < n := by rw [← hi]; exact Nat.mod_lt _ (by omega)
    have hwi : (wh : Int) % (n : Int) = (i : Int) := by rw [← hi]; push_cast; rfl
    have hwt : (wh : Int).tmod (n : Int) = (i : Int) := by rw [Int.tmod_eq_emod_of_nonneg (by omega)]; exact hwi
    have hn0 : ¬ ((n : Int) = 0) := by omega
    have i0 : (0 : Int) ≤ (i : Int) := Int.natCast_nonneg i
    have w2' : IntKind.i64.wrap ((i : Int) * 64) = (i : Int) * 64 := by rw [IntKind.wrap_i64]; omega
    have w3' : IntKind.i64.wrap ((i : Int) + 1) = (i : Int) + 1 := by rw [IntKind.wrap_i64]; omega
    have w4' : IntKind.i64.wrap (((i : Int) + 1) * 64) = ((i : Int) + 1) * 64 := by rw [IntKind.wrap_i64]; omega
    have c3 : 0 ≤ (i : Int) * 64 := by omega
    have c3' : (i : Int) * 64 ≤ ((i : Int) + 1) * 64 := by omega
    have c6 : (i : Int) ≤ (i : Int) + 1 := by omega
    have c4 : 0 ≤ ((i : Int) + 1) * 64 := by omega
    have c4' : ((i : Int) + 1) * 64 ≤ ((64 * n : Nat) : Int) := by omega
    have c4'' : ((i : Int) + 1) * 64 ≤ 64 * (n : Int) := by omega
    have c5 : ¬ (64 * n = i * 64) := by omega
    have t2 : ((i : Int) * 64).toNat = i * 64 := by omega
    have t3 : (((i : Int) + 1) * 64).toNat = (i + 1) * 64 := by omega
    have l64 : (i + 1) * 64 - i * 64 = 64 := by omega
    have hsl : (secL d i).length = 64 := secL_length d i n HD.out hin
    have hsec : Rd w4 w4.heap.size (some ⟨gd, i * 64, none⟩) (bs (secL d i)) := by
      have := (HD4.out.drop (64 * i)).take 64
      rw [← bs_drop, ← bs_take] at this
      have e : (some ⟨gd, 0, none⟩ : Option Addr).map (·.add (64 * i)) = some ⟨gd, i * 64, none⟩ := by simp [Addr.add_lit, Nat.mul_comm]
      rw [e] at this
      exact this
    have hro : Rd w4 w4.heap.size ao (bs other) := (HO.out.rd.below HB04.out).more HB04.out.size
    have HS := Lib.hid (same_any (some ⟨gd, i * 64, none⟩) ao 64 no (64 * n - i * 64) co (secL d i) other w4 hsl HO.out.len_eq hsec hro)
    have HCK := Lib.hid (check_any (n : Int) (i : Int) other ao no co ls ap0 np cp (rootL d) (some ⟨w2.heap.size, 0, none⟩) 32 32 w4 (wf_small _ (by omega) (by omega)) (wf_small _ (by omega) (by omega)) HO.out.len_eq hocp (by omega) hro HLP.out.1 (by have := HLP.out; omega) (HP.out.below HB04.out) (rootL_length _) (by omega) (rd_blk HBR4.out) (HK.out.below HB04.out))
    have HSEC := Lib.hid hsec
    have HRO := Lib.hid hro
    have HSL := Lib.hid hsl
    clear hi hsec hro hsl
    go_wp2_with fail
    refine HS.out.mono ?_
    rintro e w5 ⟨rfl, hw5⟩
    subst hw5
    rename World => w4
    by_cases hsame : secL d i = other
    · rw [beq_iff_eq.2 hsame]
      go_wp2_with fail
      go_ret
      exact ⟨rfl, HB04.out⟩
    rw [beq_eq_false_iff_ne.2 hsame]
    clear HS
    go_wp2_with fail
    refine HCK.out.mono ?_
    rintro e w5 ⟨rfl, hb5⟩
    clear HCK
    by_cases hck : checkR (n : Int) (i : Int) other ls (rootL d) = true
    · rw [hck]
      obtain ⟨N, hN⟩ : ∃ N, nlev n = N := ⟨_, rfl⟩
      have hnl := nlev_one n hn1 (by omega)
      rw [hN] at hnl
      have hck2 : other.length = 64 ∧ ls.length = N ∧ checkG (rootL d) i (shaL ([0] ++ other)) ls = true := by
        unfold checkR at hck
        split at hck
        · rename_i h
          refine ⟨h.2.2.1, ?_, hck⟩
          rw [h.2.2.2.1]; exact hN
        · cases hck
      have hown : checkG (rootL d) i (shaL ([0] ++ secL d i)) (upS d n 0 i N) = true := by
        have := own_shows d n i HD.out hn1 (by omega) hin
        unfold checkR at this
        split at this
        · rw [hN] at this; exact this
        · cases this
      have hno : no = 64 := by rw [← HO.out.len_eq]; exact hck2.1
      have hnp : np = N := by rw [← HLP.out.1]; exact hck2.2.1
      subst hno
      subst hnp
      have HPA := Lib.hid (lpath_any d n i at_ LT ct w5 HD.out hn1 (by omega) hin HLT.out hct hcapt ((HT4.out.below hb5).more hb5.size))
      have HCK2 := Lib.hid hck2
      have HOWN := Lib.hid hown
      have HSAME := Lib.hid hsame
      have HN := Lib.hid hN
      have HB45 := Lib.hid hb5
      clear hck hck2 hown hsame hN hb5
      go_wp2_with fail
      refine HPA.out.mono ?_
      rintro e w6 ⟨ap, cp2, rfl, hcp1, hcp2', hpat, hb6⟩
      rw [HN.out] at hcp1 hpat ⊢
      have hb46 := HB45.out.trans (hb6.mono HB45.out.size)
      have HB06 := Lib.hid (HB04.out.trans (hb46.mono HB04.out.size))
      have HPAT := Lib.hid hpat
      have HSEC6 : Hid (Rd w6 w6.heap.size (some ⟨gd, i * 64, none⟩) (bs (secL d i))) := Lib.hid ((HSEC.out.below hb46).more hb46.size)
      have HRO6 : Hid (Rd w6 w6.heap.size ao (bs other)) := Lib.hid ((HRO.out.below hb46).more hb46.size)
      have HLIT : Hid (∀ wx : World, OwnB (wx.alloc (.cells #[.int .u8 0] 5)) wx.heap.size (.slice (some ⟨wx.heap.size, 0, none⟩) 1 1) [0]) := Lib.hid (fun wx => OwnB.lit wx [0] (by simp))
      have HLIT1 : Hid (∀ wx : World, OwnB (wx.alloc (.cells #[.int .u8 1] 5)) wx.heap.size (.slice (some ⟨wx.heap.size, 0, none⟩) 1 1) [1]) := Lib.hid (fun wx => OwnB.lit wx [1] (by simp))
      clear hpat hb6 hb46 HPA
      go_wp2_with (first
        | (refine wpList_app rfl _ _ rfl w6.heap.size _ [0] rfl (HLIT.out w6) w6.heap.size (some ⟨gd, i * 64, none⟩) 64 (64 * n - i * 64) (secL d i) rfl HSL.out (HSEC6.out.alloc (Nat.le_refl _) _) (by simp) (by rw [World.size_alloc]; omega) ?_; intro v7 w7 ho7 hg7 hv7; obtain ⟨a7, c7, rfl, hc7, hc7', hr7, hb67⟩ := app_kind (kk := 0) HSL.out ho7 hg7; have HR7 := Lib.hid hr7; have HB67 := Lib.hid hb67; have HRO7 := Lib.hid ((HRO6.out.below hb67).more hb67.size); clear ho7 hg7 hv7 hr7 hb67)
        | (refine wpList_app rfl _ _ rfl w7.heap.size _ [0] rfl (HLIT.out w7) w7.heap.size ao 64 co other rfl HCK2.out.1 (HRO7.out.alloc (Nat.le_refl _) _) (by simp) (by rw [World.size_alloc]; omega) ?_; intro v8 w8 ho8 hg8 hv8; obtain ⟨a8, c8, rfl, hc8, hc8', hr8, hb78⟩ := app_kind (kk := 0) HCK2.out.1 ho8 hg8; have HR8 := Lib.hid hr8; have HB78 := Lib.hid hb78; clear ho8 hg8 hv8 hr8 hb78))
      have HB68 := Lib.hid (HB67.out.trans (HB78.out.mono HB67.out.size))
      have hst : NoR w6 np (rootL d) (upS d n 0 i np) ls (.slice a7 65 c7) (.slice a8 65 c8) (.int .i64 0) w8 :=
        ⟨0, i, [0] ++ secL d i, [0] ++ other, a7, a8, c7, c8, rfl, Nat.zero_le _, fun e => HSAME.out (List.append_cancel_left e), by rw [List.length_append, HSL.out]; rfl, by rw [List.length_append, HCK2.out.1]; rfl, rfl, hc7, hc7', rfl, hc8, hc8', (HR7.out.below HB78.out).more HB78.out.size, HR8.out, HOWN.out, HCK2.out.2.2, HB68.out⟩
      have HST := Lib.hid hst
      clear hst HR7 HR8 HRO7 HB67 HB78 HB68
      rcases HP.out with hp0 | ⟨bp, op, rfl, hbp, hpc⟩
      · exfalso
        have := HCK2.out.2.1
        rw [hp0] at this
        simp at this
        omega
      have HPC := Lib.hid hpc
      rcases HPAT.out with hp0 | ⟨bq, oq, hapq, hbq, hqc⟩
      · exfalso
        have := upS_length d n np 0 i
        rw [hp0] at this
        simp at this
        omega
      injection hapq with hapq
      subst hapq
      have HQC := Lib.hid hqc
      clear hpc hqc
      go_wp2_with fail
      go_loopw [18, 19, 20] (fun va vb vk wr => NoR w6 np (rootL d) (upS d n 0 i np) ls va vb vk wr) (fun _ _ vk _ => np + 1 - (intOf vk).toNat)
      case atStart => exact HST.out
      case round =>
        clear HST
        obtain ⟨k, q, A, B, aa, ab, ca, cb, rfl, hk, hAB, hAl, hBl, rfl, hca, hca', rfl, hcb, hcb', hrA, hrB, hcA, hcB, hb⟩ := hrel
        have hkI : (k : Int) ≤ (np : Int) := by omega
        have k1 := conv_rd hrA 65 ca hAl
        have k2 := conv_rd hrB 65 cb hBl
        have hbe : (A == B) = false := beq_eq_false_iff_ne.2 hAB
        have hB06 := HB06.out.trans (hb.mono HB06.out.size)
        have HSA := Lib.hid (sum_any A aa 65 ca wr hAl hca hca' hrA (HK.out.below hB06))
        have HRA := Lib.hid hrA
        have HRB := Lib.hid hrB
        have HCA := Lib.hid hcA
        have HCB := Lib.hid hcB
        have HB6 := Lib.hid hb
        have HBW := Lib.hid hB06
        clear hrA hrB hcA hcB hb hB06 hAB
        go_wp2_with fail
        refine HSA.out.mono ?_
        rintro e wa ⟨rfl, hba⟩
        obtain ⟨XA, hXA⟩ : ∃ XA, (bs (shaL A)).toArray = XA := ⟨_, rfl⟩
        rw [hXA]
        have HSB := Lib.hid (sum_any B ab 65 cb wa hBl hcb hcb' ((HRB.out.below hba).more hba.size) ((HK.out.below HBW.out).below hba))
        have HBA := Lib.hid hba
        clear hba HSA k1 k2
        go_wp2_with fail
        refine HSB.out.mono ?_
        rintro e wb ⟨rfl, hbb⟩
        obtain ⟨XB, hXB⟩ : ∃ XB, (bs (shaL B)).toArray = XB := ⟨_, rfl⟩
        rw [hXB]
        have he := eq_digest (shaL A) (shaL B) (shaL_length A) (shaL_length B) hXA hXB wb
        have hB6b : Below w6.heap.size w6 wb := (HB6.out.trans (HBA.out.mono HB6.out.size)).trans (hbb.mono (HB6.out.trans (HBA.out.mono HB6.out.size)).size)
        have HB6b := Lib.hid hB6b
        clear hbb HSB hXA hXB HBA HB6
        by_cases hsum : shaL A = shaL B
        · rw [beq_iff_eq.2 hsum] at he
          go_wp2_with fail
          go_ret
          exact ⟨rfl, HB06.out.trans (hB6b.mono HB06.out.size)⟩
        · rw [beq_eq_false_iff_ne.2 hsum] at he
          by_cases hgo : k < np
          · have hgoI : (k : Int) < (np : Int) := by omega
            obtain ⟨x1, h11, h12, h13, h14⟩ := chain_step (by rw [upS_length]; exact hgo) HCA.out
            obtain ⟨x2, h21, h22, h23, h24⟩ := chain_step (by rw [HCK2.out.2.1]; exact hgo) HCB.out
            have hne : [1] ++ x1 ≠ [1] ++ x2 := fun e => hsum (by rw [← h13, ← h23, List.append_cancel_left e])
            obtain ⟨ax1, cx1, p1, p2, p3, p4⟩ := HQC.out k x1 h11
            obtain ⟨ax2, cx2, p5, p6, p7, p8⟩ := HPC.out k x2 h21
            rw [h12] at p1 p2
            rw [h22] at p5 p6
            have hB0b := HB06.out.trans (hB6b.mono HB06.out.size)
            have m1 := (hB6b.cell (p := ⟨bq, oq + k, none⟩) hbq).trans p1
            have m1' : (wb.alloc (.cells #[.int .u8 1] 5)).cell? ⟨bq, oq + k, none⟩ = some (.slice ax1 64 cx1) := ((((Below.refl w6.heap.size wb).alloc hB6b.size _)).cell (p := ⟨bq, oq + k, none⟩) hbq).trans m1
            have m2 := (hB0b.cell (p := ⟨bp, op + k, none⟩) hbp).trans p5
            have R1 : Hid (Rd wb wb.heap.size ax1 (bs x1)) := Lib.hid ((p4.below hB6b).more hB6b.size)
            have R2 : Hid (Rd wb wb.heap.size ax2 (bs x2)) := Lib.hid ((p8.below hB0b).more hB0b.size)
            have KF : Hid (∀ (w7 w8 : World) (a7 a8 : Option Addr) (c7 c8 : Nat), 65 ≤ c7 → c7 ≤ 9223372036854775807 → 65 ≤ c8 → c8 ≤ 9223372036854775807 → Rd w7 w7.heap.size a7 (bs ([1] ++ x1)) → Below wb.heap.size wb w7 → Rd w8 w8.heap.size a8 (bs ([1] ++ x2)) → Below w7.heap.size w7 w8 → NoR w6 np (rootL d) (upS d n 0 i np) ls (.slice a7 65 c7) (.slice a8 65 c8) (.int .i64 ((k : Int) + 1)) w8) := Lib.hid (fun w7 w8 a7 a8 c7 c8 g1 g2 g3 g4 g5 g6 g7 g8 =>
              ⟨k + 1, q / 2, [1] ++ x1, [1] ++ x2, a7, a8, c7, c8, by push_cast; rfl, by omega, hne, by rw [List.length_append, h12]; rfl, by rw [List.length_append, h22]; rfl, rfl, g1, g2, rfl, g3, g4, (g5.below g8).more g8.size, g7, h14, h24, (HB6b.out.trans (g6.mono HB6b.out.size)).trans (g8.mono (HB6b.out.trans (g6.mono HB6b.out.size)).size)⟩)
            have H12 := Lib.hid h12
            have H22 := Lib.hid h22
            have M2 : Hid (∀ wx, Below wb.heap.size wb wx → wx.cell? ⟨bp, op + k, none⟩ = some (.slice ax2 64 cx2)) := Lib.hid (fun wx hx => (hx.cell (p := ⟨bp, op + k, none⟩) (Nat.lt_of_lt_of_le hbp hB0b.size)).trans m2)
            clear h11 h13 h14 h21 h23 h24 hne p1 p4 p5 p8 m2 hsum hB0b hB6b h12 h22
            go_wp2_with (first
              | (refine wpList_app rfl _ _ rfl wb.heap.size _ [1] rfl (HLIT1.out wb) wb.heap.size ax1 64 cx1 x1 rfl H12.out (R1.out.alloc (Nat.le_refl _) _) (by simp) (by rw [World.size_alloc]; omega) ?_; intro v7 w7 ho7 hg7 hv7; obtain ⟨a7, c7, rfl, hc7, hc7', hr7, hb67⟩ := app_kind (kk := 1) H12.out ho7 hg7; have HR7 := Lib.hid hr7; have HB67 := Lib.hid hb67; have R27 := Lib.hid ((R2.out.below hb67).more hb67.size); have m27 := M2.out (w7.alloc (.cells #[.int .u8 1] 5)) (hb67.alloc hb67.size _); clear ho7 hg7 hv7 hr7 hb67)
              | (refine wpList_app rfl _ _ rfl w7.heap.size _ [1] rfl (HLIT1.out w7) w7.heap.size ax2 64 cx2 x2 rfl H22.out (R27.out.alloc (Nat.le_refl _) _) (by simp) (by rw [World.size_alloc]; omega) ?_; intro v8 w8 ho8 hg8 hv8; obtain ⟨a8, c8, rfl, hc8, hc8', hr8, hb78⟩ := app_kind (kk := 1) H22.out ho8 hg8; have HF := Lib.hid (KF.out w7 w8 a7 a8 c7 c8 hc7 hc7' hc8 hc8' HR7.out HB67.out hr8 hb78); clear ho8 hg8 hv8 hr8 hb78))
            all_goals go_roundw
            all_goals first
              | (case measure => simp [intOf]; omega)
              | exact HF.out
              | ((repeat apply Exists.intro); exact ⟨HF.out, rfl⟩)
          · exfalso
            have hkn : k = np := by omega
            have h1 := HCA.out
            have h2 := HCB.out
            rw [List.drop_of_length_le (by rw [upS_length]; omega), checkG, beq_iff_eq] at h1
            rw [List.drop_of_length_le (by rw [HCK2.out.2.1]; omega), checkG, beq_iff_eq] at h2
            exact hsum (h1.trans h2.symm)
    · rw [Bool.eq_false_iff.2 hck]
      go_wp2_with fail
      go_ret
      exact ⟨rfl, HB04.out.trans (hb5.mono HB04.out.size)⟩
  · obtain ⟨wh, rfl⟩ : ∃ wh : Nat, which = (wh : Int) := ⟨which.toNat, by omega⟩
    obtain ⟨i, hi⟩ : ∃ i, wh % n = i := ⟨_, rfl⟩
    have hin : i < n := by rw [← hi]; exact Nat.mod_lt _ (by omega)
    have hwi : (wh : Int) % (n : Int) = (i : Int) := by rw [← hi]; push_cast; rfl
    have hwt : (wh : Int).tmod (n : Int) = (i : Int) := by rw [Int.tmod_eq_emod_of_nonneg (by omega)]; exact hwi
    have hn0 : ¬ ((n : Int) = 0) := by omega
    have i0 : (0 : Int) ≤ (i : Int) := Int.natCast_nonneg i
    have w2' : IntKind.i64.wrap ((i : Int) * 64) = (i : Int) * 64 := by rw [IntKind.wrap_i64]; omega
    have w3' : IntKind.i64.wrap ((i : Int) + 1) = (i : Int) + 1 := by rw [IntKind.wrap_i64]; omega
    have w4' : IntKind.i64.wrap (((i : Int) + 1) * 64) = ((i : Int) + 1) * 64 := by rw [IntKind.wrap_i64]; omega
    have c3 : 0 ≤ (i : Int) * 64 := by omega
    have c3' : (i : Int) * 64 ≤ ((i : Int) + 1) * 64 := by omega
    have c6 : (i : Int) ≤ (i : Int) + 1 := by omega
    have c4 : 0 ≤ ((i : Int) + 1) * 64 := by omega
    have c4' : ((i : Int) + 1) * 64 ≤ ((64 * n : Nat) : Int) := by omega
    have c4'' : ((i : Int) + 1) * 64 ≤ 64 * (n : Int) := by omega
    have c5 : ¬ (64 * n = i * 64) := by omega
    have t2 : ((i : Int) * 64).toNat = i * 64 := by omega
    have t3 : (((i : Int) + 1) * 64).toNat = (i + 1) * 64 := by omega
    have l64 : (i + 1) * 64 - i * 64 = 64 := by omega
    have hsl : (secL d i).length = 64 := secL_length d i n HD.out hin
    have hsec : Rd w4 w4.heap.size (some ⟨gd, i * 64, none⟩) (bs (secL d i)) := by
      have := (HD4.out.drop (64 * i)).take 64
      rw [← bs_drop, ← bs_take] at this
      have e : (some ⟨gd, 0, none⟩ : Option Addr).map (·.add (64 * i)) = some ⟨gd, i * 64, none⟩ := by simp [Addr.add_lit, Nat.mul_comm]
      rw [e] at this
      exact this
    have hro : Rd w4 w4.heap.size ao (bs other) := (HO.out.rd.below HB04.out).more HB04.out.size
    have HS := Lib.hid (same_any (some ⟨gd, i * 64, none⟩) ao 64 no (64 * n - i * 64) co (secL d i) other w4 hsl HO.out.len_eq hsec hro)
    have HCK := Lib.hid (check_any (n : Int) (i : Int) other ao no co ls ap0 np cp (rootL d) (some ⟨w2.heap.size, 0, none⟩) 32 32 w4 (wf_small _ (by omega) (by omega)) (wf_small _ (by omega) (by omega)) HO.out.len_eq hocp (by omega) hro HLP.out.1 (by have := HLP.out; omega) (HP.out.below HB04.out) (rootL_length _) (by omega) (rd_blk HBR4.out) (HK.out.below HB04.out))
    have HSEC := Lib.hid hsec
    have HRO := Lib.hid hro
    have HSL := Lib.hid hsl
    clear hi hsec hro hsl
    go_wp2_with fail
    refine HS.out.mono ?_
    rintro e w5 ⟨rfl, hw5⟩
    subst hw5
    rename World => w4
    by_cases hsame : secL d i = other
    · rw [beq_iff_eq.2 hsame]
      go_wp2_with fail
      go_ret
      exact ⟨rfl, HB04.out⟩
    rw [beq_eq_false_iff_ne.2 hsame]
    clear HS
    go_wp2_with fail
    refine HCK.out.mono ?_
    rintro e w5 ⟨rfl, hb5⟩
    clear HCK
    by_cases hck : checkR (n : Int) (i : Int) other ls (rootL d) = true
    · rw [hck]
      obtain ⟨N, hN⟩ : ∃ N, nlev n = N := ⟨_, rfl⟩
      have hnl := nlev_one n hn1 (by omega)
      rw [hN] at hnl
      have hck2 : other.length = 64 ∧ ls.length = N ∧ checkG (rootL d) i (shaL ([0] ++ other)) ls = true := by
        unfold checkR at hck
        split at hck
        · rename_i h
          refine ⟨h.2.2.1, ?_, hck⟩
          rw [h.2.2.2.1]; exact hN
        · cases hck
      have hown : checkG (rootL d) i (shaL ([0] ++ secL d i)) (upS d n 0 i N) = true := by
        have := own_shows d n i HD.out hn1 (by omega) hin
        unfold checkR at this
        split at this
        · rw [hN] at this; exact this
        · cases this
      have hno : no = 64 := by rw [← HO.out.len_eq]; exact hck2.1
      have hnp : np = N := by rw [← HLP.out.1]; exact hck2.2.1
      subst hno
      subst hnp
      have HPA := Lib.hid (lpath_any d n i at_ LT ct w5 HD.out hn1 (by omega) hin HLT.out hct hcapt ((HT4.out.below hb5).more hb5.size))
      have HCK2 := Lib.hid hck2
      have HOWN := Lib.hid hown
      have HSAME := Lib.hid hsame
      have HN := Lib.hid hN
      have HB45 := Lib.hid hb5
      clear hck hck2 hown hsame hN hb5
      go_wp2_with fail
      refine HPA.out.mono ?_
      rintro e w6 ⟨ap, cp2, rfl, hcp1, hcp2', hpat, hb6⟩
      rw [HN.out] at hcp1 hpat ⊢
      have hb46 := HB45.out.trans (hb6.mono HB45.out.size)
      have HB06 := Lib.hid (HB04.out.trans (hb46.mono HB04.out.size))
      have HPAT := Lib.hid hpat
      have HSEC6 : Hid (Rd w6 w6.heap.size (some ⟨gd, i * 64, none⟩) (bs (secL d i))) := Lib.hid ((HSEC.out.below hb46).more hb46.size)
      have HRO6 : Hid (Rd w6 w6.heap.size ao (bs other)) := Lib.hid ((HRO.out.below hb46).more hb46.size)
      have HLIT : Hid (∀ wx : World, OwnB (wx.alloc (.cells #[.int .u8 0] 5)) wx.heap.size (.slice (some ⟨wx.heap.size, 0, none⟩) 1 1) [0]) := Lib.hid (fun wx => OwnB.lit wx [0] (by simp))
      have HLIT1 : Hid (∀ wx : World, OwnB (wx.alloc (.cells #[.int .u8 1] 5)) wx.heap.size (.slice (some ⟨wx.heap.size, 0, none⟩) 1 1) [1]) := Lib.hid (fun wx => OwnB.lit wx [1] (by simp))
      clear hpat hb6 hb46 HPA
      go_wp2_with (first
        | (refine wpList_app rfl _ _ rfl w6.heap.size _ [0] rfl (HLIT.out w6) w6.heap.size (some ⟨gd, i * 64, none⟩) 64 (64 * n - i * 64) (secL d i) rfl HSL.out (HSEC6.out.alloc (Nat.le_refl _) _) (by simp) (by rw [World.size_alloc]; omega) ?_; intro v7 w7 ho7 hg7 hv7; obtain ⟨a7, c7, rfl, hc7, hc7', hr7, hb67⟩ := app_kind (kk := 0) HSL.out ho7 hg7; have HR7 := Lib.hid hr7; have HB67 := Lib.hid hb67; have HRO7 := Lib.hid ((HRO6.out.below hb67).more hb67.size); clear ho7 hg7 hv7 hr7 hb67)
        | (refine wpList_app rfl _ _ rfl w7.heap.size _ [0] rfl (HLIT.out w7) w7.heap.size ao 64 co other rfl HCK2.out.1 (HRO7.out.alloc (Nat.le_refl _) _) (by simp) (by rw [World.size_alloc]; omega) ?_; intro v8 w8 ho8 hg8 hv8; obtain ⟨a8, c8, rfl, hc8, hc8', hr8, hb78⟩ := app_kind (kk := 0) HCK2.out.1 ho8 hg8; have HR8 := Lib.hid hr8; have HB78 := Lib.hid hb78; clear ho8 hg8 hv8 hr8 hb78))
      have HB68 := Lib.hid (HB67.out.trans (HB78.out.mono HB67.out.size))
      have hst : NoR w6 np (rootL d) (upS d n 0 i np) ls (.slice a7 65 c7) (.slice a8 65 c8) (.int .i64 0) w8 :=
        ⟨0, i, [0] ++ secL d i, [0] ++ other, a7, a8, c7, c8, rfl, Nat.zero_le _, fun e => HSAME.out (List.append_cancel_left e), by rw [List.length_append, HSL.out]; rfl, by rw [List.length_append, HCK2.out.1]; rfl, rfl, hc7, hc7', rfl, hc8, hc8', (HR7.out.below HB78.out).more HB78.out.size, HR8.out, HOWN.out, HCK2.out.2.2, HB68.out⟩
      have HST := Lib.hid hst
      clear hst HR7 HR8 HRO7 HB67 HB78 HB68
      rcases HP.out with hp0 | ⟨bp, op, rfl, hbp, hpc⟩
      · exfalso
        have := HCK2.out.2.1
        rw [hp0] at this
        simp at this
        omega
      have HPC := Lib.hid hpc
      rcases HPAT.out with hp0 | ⟨bq, oq, hapq, hbq, hqc⟩
      · exfalso
        have := upS_length d n np 0 i
        rw [hp0] at this
        simp at this
        omega
      injection hapq with hapq
      subst hapq
      have HQC := Lib.hid hqc
      clear hpc hqc
      go_wp2_with fail
      go_loopw [18, 19, 20] (fun va vb vk wr => NoR w6 np (rootL d) (upS d n 0 i np) ls va vb vk wr) (fun _ _ vk _ => np + 1 - (intOf vk).toNat)
      case atStart => exact HST.out
      case round =>
        clear HST
        obtain ⟨k, q, A, B, aa, ab, ca, cb, rfl, hk, hAB, hAl, hBl, rfl, hca, hca', rfl, hcb, hcb', hrA, hrB, hcA, hcB, hb⟩ := hrel
        have hkI : (k : Int) ≤ (np : Int) := by omega
        have k1 := conv_rd hrA 65 ca hAl
        have k2 := conv_rd hrB 65 cb hBl
        have hbe : (A == B) = false := beq_eq_false_iff_ne.2 hAB
        have hB06 := HB06.out.trans (hb.mono HB06.out.size)
        have HSA := Lib.hid (sum_any A aa 65 ca wr hAl hca hca' hrA (HK.out.below hB06))
        have HRA := Lib.hid hrA
        have HRB := Lib.hid hrB
        have HCA := Lib.hid hcA
        have HCB := Lib.hid hcB
        have HB6 := Lib.hid hb
        have HBW := Lib.hid hB06
        clear hrA hrB hcA hcB hb hB06 hAB
        go_wp2_with fail
        refine HSA.out.mono ?_
        rintro e wa ⟨rfl, hba⟩
        obtain ⟨XA, hXA⟩ : ∃ XA, (bs (shaL A)).toArray = XA := ⟨_, rfl⟩
        rw [hXA]
        have HSB := Lib.hid (sum_any B ab 65 cb wa hBl hcb hcb' ((HRB.out.below hba).more hba.size) ((HK.out.below HBW.out).below hba))
        have HBA := Lib.hid hba
        clear hba HSA k1 k2
        go_wp2_with fail
        refine HSB.out.mono ?_
        rintro e wb ⟨rfl, hbb⟩
        obtain ⟨XB, hXB⟩ : ∃ XB, (bs (shaL B)).toArray = XB := ⟨_, rfl⟩
        rw [hXB]
        have he := eq_digest (shaL A) (shaL B) (shaL_length A) (shaL_length B) hXA hXB wb
        have hB6b : Below w6.heap.size w6 wb := (HB6.out.trans (HBA.out.mono HB6.out.size)).trans (hbb.mono (HB6.out.trans (HBA.out.mono HB6.out.size)).size)
        have HB6b := Lib.hid hB6b
        clear hbb HSB hXA hXB HBA HB6
        by_cases hsum : shaL A = shaL B
        · rw [beq_iff_eq.2 hsum] at he
          go_wp2_with fail
          go_ret
          exact ⟨rfl, HB06.out.trans (hB6b.mono HB06.out.size)⟩
        · rw [beq_eq_false_iff_ne.2 hsum] at he
          by_cases hgo : k < np
          · have hgoI : (k : Int) < (np : Int) := by omega
            obtain ⟨x1, h11, h12, h13, h14⟩ := chain_step (by rw [upS_length]; exact hgo) HCA.out
            obtain ⟨x2, h21, h22, h23, h24⟩ := chain_step (by rw [HCK2.out.2.1]; exact hgo) HCB.out
            have hne : [1] ++ x1 ≠ [1] ++ x2 := fun e => hsum (by rw [← h13, ← h23, List.append_cancel_left e])
            obtain ⟨ax1, cx1, p1, p2, p3, p4⟩ := HQC.out k x1 h11
            obtain ⟨ax2, cx2, p5, p6, p7, p8⟩ := HPC.out k x2 h21
            rw [h12] at p1 p2
            rw [h22] at p5 p6
            have hB0b := HB06.out.trans (hB6b.mono HB06.out.size)
            have m1 := (hB6b.cell (p := ⟨bq, oq + k, none⟩) hbq).trans p1
            have m1' : (wb.alloc (.cells #[.int .u8 1] 5)).cell? ⟨bq, oq + k, none⟩ = some (.slice ax1 64 cx1) := ((((Below.refl w6.heap.size wb).alloc hB6b.size _)).cell (p := ⟨bq, oq + k, none⟩) hbq).trans m1
            have m2 := (hB0b.cell (p := ⟨bp, op + k, none⟩) hbp).trans p5
            have R1 : Hid (Rd wb wb.heap.size ax1 (bs x1)) := Lib.hid ((p4.below hB6b).more hB6b.size)
            have R2 : Hid (Rd wb wb.heap.size ax2 (bs x2)) := Lib.hid ((p8.below hB0b).more hB0b.size)
            have KF : Hid (∀ (w7 w8 : World) (a7 a8 : Option Addr) (c7 c8 : Nat), 65 ≤ c7 → c7 ≤ 9223372036854775807 → 65 ≤ c8 → c8 ≤ 9223372036854775807 → Rd w7 w7.heap.size a7 (bs ([1] ++ x1)) → Below wb.heap.size wb w7 → Rd w8 w8.heap.size a8 (bs ([1] ++ x2)) → Below w7.heap.size w7 w8 → NoR w6 np (rootL d) (upS d n 0 i np) ls (.slice a7 65 c7) (.slice a8 65 c8) (.int .i64 ((k : Int) + 1)) w8) := Lib.hid (fun w7 w8 a7 a8 c7 c8 g1 g2 g3 g4 g5 g6 g7 g8 =>
              ⟨k + 1, q / 2, [1] ++ x1, [1] ++ x2, a7, a8, c7, c8, by push_cast; rfl, by omega, hne, by rw [List.length_append, h12]; rfl, by rw [List.length_append, h22]; rfl, rfl, g1, g2, rfl, g3, g4, (g5.below g8).more g8.size, g7, h14, h24, (HB6b.out.trans (g6.mono HB6b.out.size)).trans (g8.mono (HB6b.out.trans (g6.mono HB6b.out.size)).size)⟩)
            have H12 := Lib.hid h12
            have H22 := Lib.hid h22
            have M2 : Hid (∀ wx, Below wb.heap.size wb wx → wx.cell? ⟨bp, op + k, none⟩ = some (.slice ax2 64 cx2)) := Lib.hid (fun wx hx => (hx.cell (p := ⟨bp, op + k, none⟩) (Nat.lt_of_lt_of_le hbp hB0b.size)).trans m2)
            clear h11 h13 h14 h21 h23 h24 hne p1 p4 p5 p8 m2 hsum hB0b hB6b h12 h22
            go_wp2_with (first
              | (refine wpList_app rfl _ _ rfl wb.heap.size _ [1] rfl (HLIT1.out wb) wb.heap.size ax1 64 cx1 x1 rfl H12.out (R1.out.alloc (Nat.le_refl _) _) (by simp) (by rw [World.size_alloc]; omega) ?_; intro v7 w7 ho7 hg7 hv7; obtain ⟨a7, c7, rfl, hc7, hc7', hr7, hb67⟩ := app_kind (kk := 1) H12.out ho7 hg7; have HR7 := Lib.hid hr7; have HB67 := Lib.hid hb67; have R27 := Lib.hid ((R2.out.below hb67).more hb67.size); have m27 := M2.out (w7.alloc (.cells #[.int .u8 1] 5)) (hb67.alloc hb67.size _); clear ho7 hg7 hv7 hr7 hb67)
              | (refine wpList_app rfl _ _ rfl w7.heap.size _ [1] rfl (HLIT1.out w7) w7.heap.size ax2 64 cx2 x2 rfl H22.out (R27.out.alloc (Nat.le_refl _) _) (by simp) (by rw [World.size_alloc]; omega) ?_; intro v8 w8 ho8 hg8 hv8; obtain ⟨a8, c8, rfl, hc8, hc8', hr8, hb78⟩ := app_kind (kk := 1) H22.out ho8 hg8; have HF := Lib.hid (KF.out w7 w8 a7 a8 c7 c8 hc7 hc7' hc8 hc8' HR7.out HB67.out hr8 hb78); clear ho8 hg8 hv8 hr8 hb78))
            all_goals go_roundw
            all_goals first
              | (case measure => simp [intOf]; omega)
              | exact HF.out
              | ((repeat apply Exists.intro); exact ⟨HF.out, rfl⟩)
          · exfalso
            have hkn : k = np := by omega
            have h1 := HCA.out
            have h2 := HCB.out
            rw [List.drop_of_length_le (by rw [upS_length]; omega), checkG, beq_iff_eq] at h1
            rw [List.drop_of_length_le (by rw [HCK2.out.2.1]; omega), checkG, beq_iff_eq] at h2
            exact hsum (h1.trans h2.symm)
    · rw [Bool.eq_false_iff.2 hck]
      go_wp2_with fail
      go_ret
      exact ⟨rfl, HB04.out.trans (hb5.mono HB04.out.size)⟩
end Go.Proofs.YtnfchojekcoplaaDoor
