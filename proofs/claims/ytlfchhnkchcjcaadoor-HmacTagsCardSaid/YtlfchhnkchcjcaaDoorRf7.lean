/- the document's tags -/
import Derived.Test.YtlfchhnkchcjcaaDoorRf6
import Derived.Test.YtlfchhnkchcjcaaDoorHm5
namespace Go.Proofs.YtlfchhnkchcjcaaDoor
set_option linter.unusedVariables false
set_option linter.unusedSimpArgs false
open Go.RowKit

def laid16 (L : List UInt8) (n : Nat) : List UInt8 := L.take n ++ List.replicate (16 - n) 0
theorem laid16_set (L : List UInt8) (n : Nat) (hn : n < 16) (y : UInt8) (v : Int) (hy : L[n]? = some y) (hv : (y.toNat : Int) = v) : (bs (laid16 L n)).set n (.int .u8 v) = bs (laid16 L (n + 1)) := by
  have e : List.replicate (16 - n) (0 : UInt8) = 0 :: List.replicate (16 - (n + 1)) 0 := by
    rw [show 16 - n = (16 - (n + 1)) + 1 by omega, List.replicate_succ]
  have hlt : n < L.length := by
    rcases Nat.lt_or_ge n L.length with h | h
    · exact h
    · rw [List.getElem?_eq_none h] at hy; cases hy
  have hl : (bs (L.take n)).length = n := by rw [bs_length, List.length_take]; omega
  have t : L.take (n + 1) = L.take n ++ [y] := by rw [List.take_add_one, hy]; rfl
  rw [laid16, laid16, e, bs_append, List.set_append_right _ _ (by omega), hl, Nat.sub_self, t, bs_append, bs_append, List.append_assoc]
  subst hv
  rfl
theorem laid16_zero (L : List UInt8) : laid16 L 0 = List.replicate 16 0 := rfl
theorem laid16_all (L : List UInt8) : laid16 L 16 = L.take 16 := by rw [laid16]; simp
theorem laid16_length (L : List UInt8) (hL : 16 ≤ L.length) (n : Nat) (hn : n ≤ 16) : (laid16 L n).length = 16 := by rw [laid16, List.length_append, List.length_take, List.length_replicate]; omega

/-- i bytes of sixteen are laid. -/
def Rf9r (w w5 : World) (D : List UInt8) (gd go : Nat) (vi : Value) (wr : World) : Prop :=
  ∃ i : Nat, i ≤ 16 ∧ vi = .int .i64 (i : Int) ∧ Blk wr go 44 (bs (laid16 D i)) ∧ Below w5.heap.size w5 wr

set_option maxHeartbeats 4000000 in
set_option maxRecDepth 16000 in
theorem rtag_any (key : List UInt8) (x : Int) (data : List UInt8) (ak : Option Addr) (nk ck : Nat) (ad : Option Addr) (nd cd : Nat) (w : World) (hlk : key.length = nk) (hnk : nk ≤ 140737488351232) (hrk : Rd w w.heap.size ak (bs key))
    (hld : data.length = nd) (hnd : nd ≤ 140737488351232) (hrd : Rd w w.heap.size ad (bs data)) :
    Calls Tryd.prog 24 #[.slice ak nk ck, .int .i64 x, .slice ad nd cd] w fun e w' => e = .returned (.agg (bs (tagL key x data)).toArray) ∧ Below w.heap.size w w' := by
  have HLK := Lib.hid hlk
  have HRK := Lib.hid hrk
  have HLD := Lib.hid hld
  have HRD := Lib.hid hrd
  have HNK := Lib.hid hnk
  have HND := Lib.hid hnd
  have hwr : IntKind.u64.wrap x = (n64 x : Int) := by rw [IntKind.wrap_u64, n64]; omega
  clear hlk hrk hld hrd hnk hnd
  go_enter Tryd.func24, Tryd.ntmps24
  go_upto_region 1 with (fail)
  have hz : Blk (w.alloc (.cells (bs (List.replicate 16 0)).toArray 44)) w.heap.size 44 (bs (List.replicate 16 0)) := Blk.new _ _ _
  have hb1 := (Below.refl w.heap.size w).alloc (Nat.le_refl _) (.cells (bs (List.replicate 16 0)).toArray 44)
  have hs1 : (w.alloc (.cells (bs (List.replicate 16 0)).toArray 44)).heap.size = w.heap.size + 1 := World.size_alloc _ _
  generalize hw1 : (w.alloc (.cells (bs (List.replicate 16 0)).toArray 44)) = w1 at hz hb1 hs1
  refine hgoalC hw1 ?_
  clear hw1
  have HZ := Lib.hid hz
  have HZ1 : Hid (∀ wx, Below w1.heap.size w1 wx → Blk wx w.heap.size 44 (bs (List.replicate 16 0))) := Lib.hid (fun wx hx => hz.below hx)
  have HB1 := Lib.hid hb1
  have HS1 := Lib.hid hs1
  have hb256 : n64 x < 256 ^ 8 := by have := n64_lt x; omega
  clear hz hb1 hs1
  go_wp2_with fail
  refine (bytes_ex (n64 x) 8 w1 (by omega) (by omega) hb256).mono ?_
  rintro e w2 ⟨a2, c2, rfl, hown2, hb2⟩
  have HO2 := Lib.hid hown2
  have HB2 := Lib.hid (HB1.out.trans (hb2.mono (by have := HS1.out; omega)))
  have HSZ2 := Lib.hid hb2.size
  have HRD2 : Hid (Rd w2 w.heap.size ad (bs data)) := Lib.hid (HRD.out.below HB2.out)
  have S1 : Hid ((bytesOf (n64 x) 8).length + nd ≤ 140737488355328) := Lib.hid (by rw [bytesOf_length]; have := HND.out; omega)
  have HB12 := Lib.hid hb2
  clear hown2 hb2 hwr hb256
  go_wp2_with (at_builtin; refine wpList_app rfl _ _ rfl w1.heap.size _ _ rfl HO2.out w.heap.size ad nd cd data rfl HLD.out HRD2.out S1.out HSZ2.out ?_)
  intro v3 w3 hown3 hgr3 hat3
  have hb13 := below_app HB12.out HO2.out (Nat.le_refl _) hgr3
  obtain ⟨a3, c3, rfl, hc3⟩ := OwnG.shape hown3
  obtain ⟨n3, hn3⟩ : ∃ n3, (bytesOf (n64 x) 8 ++ data).length = n3 := ⟨_, rfl⟩
  rw [hn3] at hown3 hc3 ⊢
  have hb3 : Below w.heap.size w w3 := HB1.out.trans (hb13.mono (by have := HS1.out; omega))
  have hn3b : n3 ≤ 140737488351300 := by rw [← hn3, List.length_append, bytesOf_length]; have := HLD.out; have := HND.out; omega
  have HC := Lib.hid (rhmac_any key (bytesOf (n64 x) 8 ++ data) ak nk ck a3 n3 c3 w3 HLK.out HNK.out ((HRK.out.below hb3).more hb3.size) hn3 hn3b (OwnB.rd hown3))
  have HB3 := Lib.hid hb13
  clear hown3 hgr3 hat3 hb13 hb3 hc3 hn3 hn3b HZ HB2 HO2 HRD2 HSZ2
  go_wp2_with fail
  refine HC.out.mono ?_
  rintro e w4 ⟨rfl, hb4⟩
  obtain ⟨D, hD⟩ : ∃ D, hmacL key (bytesOf (n64 x) 8 ++ data) = D := ⟨_, rfl⟩
  rw [hD]
  have hDl : D.length = 32 := by rw [← hD]; exact hmacL_length _ _
  obtain ⟨X, Z, hX, hinf, hone, hzz, hzs, w5, hw5, hB5, hb5, hs5⟩ := keep_digest w4 D hDl
  rw [hX]
  have hb35 := hb4.trans (hb5.mono hb4.size)
  have HBK := Lib.hid hB5
  have HB5 := Lib.hid (HB3.out.trans (hb35.mono HB3.out.size))
  have HD := Lib.hid hD
  have HDL := Lib.hid hDl
  clear hX hb4 hB5 hb5 hs5 hb35 hD hDl HC HB3
  go_upto_region 5 with (refine wpList_store_row0 rfl 23 _ _ rfl rfl w4.heap.size X rfl rfl 23 Z hzz hinf hzs hone hw5 ?_)
  have hz6 : Blk (w5.alloc (.cells (bs (List.replicate 16 0)).toArray 44)) w5.heap.size 44 (bs (List.replicate 16 0)) := Blk.new _ _ _
  have hb6 := (Below.refl w5.heap.size w5).alloc (Nat.le_refl _) (.cells (bs (List.replicate 16 0)).toArray 44)
  generalize hw6 : (w5.alloc (.cells (bs (List.replicate 16 0)).toArray 44)) = w6 at hz6 hb6
  refine hgoalC hw6 ?_
  clear hw6
  obtain ⟨gd, hgd⟩ : ∃ gd, w4.heap.size = gd := ⟨_, rfl⟩
  obtain ⟨go, hgo⟩ : ∃ go, w5.heap.size = go := ⟨_, rfl⟩
  rw [hgd] at HBK
  have HGO := Lib.hid hgo
  rw [hgo] at hz6
  rw [hgd, hgo]
  have HZ6 := Lib.hid hz6
  have HB6 := Lib.hid hb6
  clear hz6 hb6 hgd hgo hzz hinf hzs hone hw5
  go_wp2_with fail
  go_loopw [10] (fun vi wr => Rf9r w w5 D gd go vi wr) (fun vi _ => 16 - (intOf vi).toNat)
  case atStart => exact ⟨0, by omega, rfl, HZ6.out, HB6.out⟩
  case round =>
    obtain ⟨i, hi, rfl, hbo, hbw⟩ := hrel
    have HBO := Lib.hid hbo
    have HBW := Lib.hid hbw
    by_cases hi16 : i < 16
    · have hiD : i < D.length := by rw [HDL.out]; omega
      obtain ⟨z, hz⟩ : ∃ z, D[i] = z := ⟨_, rfl⟩
      have hz2 : D[i]? = some z := by rw [List.getElem?_eq_getElem hiD, hz]
      have hcd := (HBK.out.below hbw).cell i _ ((bs_get D i hiD).trans (by rw [hz]))
      have hco : ∃ u, wr.cell? ⟨go, i, none⟩ = some u := ⟨_, hbo.cell i _ (List.getElem?_eq_getElem (by rw [bs_length, laid16_length D (by rw [HDL.out]; omega) i hi]; exact hi16))⟩
      obtain ⟨u, hcu⟩ := hco
      have hfo := hbo.frozen i
      have hiI : (i : Int) < 16 := by omega
      have hiJ : (i : Int) < 32 := by omega
      have hi0 : (0 : Int) ≤ (i : Int) := Int.natCast_nonneg i
      have hst := hbo.set i (.int .u8 (z.toNat : Int))
      rw [laid16_set D i hi16 z _ hz2 rfl] at hst
      have hbs : Below w5.heap.size w5 (wr.setCell ⟨go, i, none⟩ (.int .u8 (z.toNat : Int))) := hbw.setCell (by rw [HGO.out]; exact Nat.le_refl _) _
      have hfin : Rf9r w w5 D gd go (.int .i64 ((i : Int) + 1)) (wr.setCell ⟨go, i, none⟩ (.int .u8 (z.toNat : Int))) := ⟨i + 1, hi16, by go_num, hst, hbs⟩
      have HFIN := Lib.hid hfin
      clear hbo hbw hz hz2 hst hbs hfin hiD
      go_wp2_with fail
      all_goals go_roundw
      all_goals first
        | (case measure => simp [intOf]; omega)
        | (first | exact HFIN.out | ((repeat apply Exists.intro); exact ⟨HFIN.out, rfl⟩))
    · have hie : i = 16 := by omega
      subst hie
      rw [laid16_all] at hbo
      obtain ⟨T, hT⟩ : ∃ T, D.take 16 = T := ⟨_, rfl⟩
      rw [hT] at hbo
      have hTL : T.length = 16 := by rw [← hT, List.length_take, HDL.out]; rfl
      have hb1r : Below w1.heap.size w1 wr := HB5.out.trans (hbw.mono HB5.out.size)
      obtain ⟨X6, Z6, hX6, hi6, hj6, ho6, hq6, hs6, hg6, hb6, hz6⟩ := store16 hTL (by simp) (HZ1.out wr hb1r) (Nat.le_refl _) (HB1.out.trans (hb1r.mono (by have := HS1.out; omega)))
      have hgo : wr.heap[go]? = some (.cells X6.toArray 44 (0, 0)) := by rw [← hX6]; exact hbo
      have HX6 := Lib.hid hX6
      have HB6' := Lib.hid hb6
      have HT := Lib.hid hT
      clear hX6 hTL hb6 hz6 hbo hbw hT hb1r HBO HBW
      go_wp2_with (first
        | refine wpList_load_row rfl 44 _ rfl go rfl 44 X6.toArray (0, 0) _ hgo Tryd.underlying44 rfl hi6 ?_
        | refine wpList_store_row rfl 44 _ _ rfl w.heap.size X6.toArray rfl rfl 44 Z6 hq6 hi6 hs6 ho6 ?_)
      refine bodyPost_ret (results_cell_row rfl _ _ w.heap.size 44 X6.toArray (0, 0) _ rfl hg6 Tryd.underlying44 rfl hi6) rfl ?_
      exact ⟨by rw [← HX6.out, tagL, HD.out, HT.out], HB6'.out⟩

theorem rright_any (key : List UInt8) (x : Int) (data tag : List UInt8) (ak : Option Addr) (nk ck : Nat) (ad : Option Addr) (nd cd : Nat) (at_ : Option Addr) (nt ct : Nat) (w : World) (hlk : key.length = nk) (hnk : nk ≤ 140737488351232) (hrk : Rd w w.heap.size ak (bs key))
    (hld : data.length = nd) (hnd : nd ≤ 140737488351232) (hrd : Rd w w.heap.size ad (bs data)) (hlt : tag.length = nt) (hrt : Rd w w.heap.size at_ (bs tag)) :
    Calls Tryd.prog 26 #[.slice ak nk ck, .int .i64 x, .slice ad nd cd, .slice at_ nt ct] w fun e w' => e = .returned (.bool (tagL key x data == tag)) ∧ Below w.heap.size w w' := by
  have HRT := Lib.hid hrt
  have HLT := Lib.hid hlt
  have HT := Lib.hid (rtag_any key x data ak nk ck ad nd cd w hlk hnk hrk hld hnd hrd)
  clear hlk hrk hld hrd hlt hrt hnk hnd
  go_enter Tryd.func26, Tryd.ntmps26
  go_wp2_with fail
  refine HT.out.mono ?_
  rintro e w6 ⟨rfl, hb6⟩
  obtain ⟨G, hG⟩ : ∃ G, tagL key x data = G := ⟨_, rfl⟩
  rw [hG]
  have hGl : G.length = 16 := by rw [← hG]; exact tagL_length _ _ _
  obtain ⟨X6, Z6, hX6, hinf6, hone6, hzz6, hzs6, w7, hw7, hB7, hb7, hs7⟩ := keep16 w6 G hGl
  rw [hX6]
  have hb07 := hb6.trans (hb7.mono hb6.size)
  have HB7 := Lib.hid hb07
  have HG := Lib.hid hG
  have h1 : ∀ wx, Below w7.heap.size w7 wx → (convert 22 9 (.slice (some ⟨w6.heap.size, 0, none⟩) 16 16)).run Tryd.prog wx = .ok (.string ⟨G.toArray⟩) wx := fun wx hx => conv_rd (hB7.below hx).rd 16 16 hGl
  have h2 : ∀ wx, Below w7.heap.size w7 wx → (convert 22 9 (.slice at_ nt ct)).run Tryd.prog wx = .ok (.string ⟨tag.toArray⟩) wx := fun wx hx => conv_rd (((HRT.out.below hb07).more hb07.size).below hx) nt ct HLT.out
  have hr0 : Below w7.heap.size w7 w7 := Below.refl _ _
  have hr1 : Below w7.heap.size w7 w7.drew := (Below.refl _ _).drew
  clear hX6 hb6 hB7 hb7 hs7 hb07 hG hGl HT
  go_upto_region 2 with (first
      | refine wpList_store_row0 rfl 44 _ _ rfl rfl w6.heap.size X6 rfl rfl 44 Z6 hzz6 hinf6 hzs6 hone6 hw7 ?_)
  go_cut [8] (fun v wn => v = .bool (G == tag) ∧ Below w7.heap.size w7 wn)
  case first =>
    go_region_held3 (fun w' => Below w7.heap.size w7 w')
      (first | assumption | go_keep)
      (fail)
    all_goals go_wp2_with fail
    all_goals go_meet
    all_goals exact ⟨rfl, by assumption⟩
  case rest =>
    obtain ⟨rfl, hb8⟩ := hcut
    go_wp2_with fail
    go_ret
    exact ⟨by rw [HG.out]; rfl, HB7.out.trans (hb8.mono HB7.out.size)⟩
end Go.Proofs.YtlfchhnkchcjcaaDoor
