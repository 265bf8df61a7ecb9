/- the law: a tag is part of the sum -/
import Derived.Test.YtlfchhnkchcjcaaDoorHm4
namespace Go.Proofs.YtlfchhnkchcjcaaDoor
set_option linter.unusedVariables false
set_option linter.unusedSimpArgs false
open Go.RowKit

abbrev TagTy : Ty := .st (.pair .bytes (.pair (.int .i64) (.pair .bytes (.pair .bytes .unit))))
theorem tag_open (cs : Array Value) (x : TagTy.den) (w : World) (h : TagTy.reads w (Value.agg cs).cells.toList x) :
    ∃ (s : Int) (key data tag : List UInt8) (ak ad at_ : Option Addr) (nk ck nd cd nt ct : Nat), cs = #[.slice ak nk ck, .int .i64 s, .slice ad nd cd, .slice at_ nt ct] ∧
      (Lit.int .i64 s).wf = true ∧ BytesIn w ak nk ck key ∧ BytesIn w ad nd cd data ∧ BytesIn w at_ nt ct tag := by
  obtain ⟨key, s, data, tag, u⟩ := x
  obtain ⟨ak, nk, ck, cs1, hc1, hA, h⟩ := reads_bytes h
  obtain ⟨cs2, hc2, hB, h⟩ := reads_int h
  obtain ⟨ad, nd, cd, cs3, hc3, hC, h⟩ := reads_bytes h
  obtain ⟨at_, nt, ct, cs4, hc4, hD, h⟩ := reads_bytes h
  have h5 : cs4 = [] := h
  subst h5; subst hc4; subst hc3; subst hc2
  exact ⟨s, key, data, tag, ak, ad, at_, nk, ck, nd, cd, nt, ct, toArray_of hc1, hB, hA, hC, hD⟩

theorem law_HmacParts (cs : Array Value) (x : TagTy.den) (W : World) (hx : TagTy.reads W (Value.agg cs).cells.toList x) (hk : KOK W) :
    Calls Tryd.prog 9 #[.agg cs] W fun e w' => e = .returned (.bool true) ∧ Below W.heap.size W w' := by
  obtain ⟨s, key, data, tag, ak, ad, at_, nk, ck, nd, cd, nt, ct, rfl, hs, hK, hD, hT⟩ := tag_open cs x W hx
  have HKB := Lib.hid hK
  have HDB := Lib.hid hD
  have HK := Lib.hid hk
  have hwr : IntKind.u64.wrap s = (n64 s : Int) := by rw [IntKind.wrap_u64, n64]; omega
  clear hx hk hK hD hT hs
  go_enter Tryd.func9, Tryd.ntmps9
  go_upto_region 1 with (fail)
  have hbk : Blk (W.alloc (.cells #[Value.slice ak nk ck, Value.int .i64 s, Value.slice ad nd cd, Value.slice at_ nt ct] 41)) W.heap.size 41 [Value.slice ak nk ck, Value.int .i64 s, Value.slice ad nd cd, Value.slice at_ nt ct] := Blk.new _ _ _
  have hb1 := (Below.refl W.heap.size W).alloc (Nat.le_refl _) (.cells #[Value.slice ak nk ck, Value.int .i64 s, Value.slice ad nd cd, Value.slice at_ nt ct] 41)
  have hs1 : (W.alloc (.cells #[Value.slice ak nk ck, Value.int .i64 s, Value.slice ad nd cd, Value.slice at_ nt ct] 41)).heap.size = W.heap.size + 1 := World.size_alloc _ _
  generalize hw1 : (W.alloc (.cells #[Value.slice ak nk ck, Value.int .i64 s, Value.slice ad nd cd, Value.slice at_ nt ct] 41)) = w1 at hbk hb1 hs1
  clear hw1
  have HBK := Lib.hid hbk
  have HB1 := Lib.hid hb1
  have HS1 := Lib.hid hs1
  have d0 : w1.cell? ⟨W.heap.size, 0, none⟩ = some (.slice ak nk ck) := hbk.cell 0 _ rfl
  have d1 : w1.cell? ⟨W.heap.size, 1, none⟩ = some (.int .i64 s) := hbk.cell 1 _ rfl
  have d2 : w1.cell? ⟨W.heap.size, 2, none⟩ = some (.slice ad nd cd) := hbk.cell 2 _ rfl
  clear hbk hb1 hs1
  have C1 : Hid (∀ wx, (Below w1.heap.size w1 wx ∧ wx.cell? ⟨W.heap.size, 1, none⟩ = some (.int .i64 s) ∧ wx.cell? ⟨W.heap.size, 2, none⟩ = some (.slice ad nd cd)) → Calls Tryd.prog 22 #[.int .u64 (n64 s : Int), .int .i64 8] wx fun e w' => ∃ a c, e = .returned (.slice a 8 c) ∧ OwnB w' w1.heap.size (.slice a 8 c) (bytesOf (n64 s) 8) ∧ (Below w1.heap.size w1 w' ∧ w'.cell? ⟨W.heap.size, 1, none⟩ = some (.int .i64 s) ∧ w'.cell? ⟨W.heap.size, 2, none⟩ = some (.slice ad nd cd))) := Lib.hid (fun wx hx => by
    refine (bytes_ex (n64 s) 8 wx (by omega) (by omega) (n64_lt s)).mono ?_
    rintro e w' ⟨a, c, rfl, h1, h2⟩
    have hb := hx.1.trans (h2.mono hx.1.size)
    exact ⟨a, c, rfl, OwnG.base_mono h1 hx.1.size, hb, (HBK.out.below hb).cell 1 _ rfl, (HBK.out.below hb).cell 2 _ rfl⟩)
  have S1 : Hid ((bytesOf (n64 s) 8).length + nd ≤ 140737488355328) := Lib.hid (by rw [bytesOf_length]; have := HDB.out.small; have := HDB.out.le_cap; omega)
  go_cut [3] (fun v wn => OwnB wn w1.heap.size v (bytesOf (n64 s) 8 ++ data) ∧ Below w1.heap.size w1 wn)
  case first =>
    have hS0 : Below w1.heap.size w1 w1 ∧ w1.cell? ⟨W.heap.size, 1, none⟩ = some (.int .i64 s) ∧ w1.cell? ⟨W.heap.size, 2, none⟩ = some (.slice ad nd cd) := ⟨Below.refl _ _, d1, d2⟩
    have hS1 : Below w1.heap.size w1 w1.drew ∧ w1.drew.cell? ⟨W.heap.size, 1, none⟩ = some (.int .i64 s) ∧ w1.drew.cell? ⟨W.heap.size, 2, none⟩ = some (.slice ad nd cd) := ⟨(Below.refl _ _).drew, d1, d2⟩
    go_region_held3 (fun w' => Below w1.heap.size w1 w' ∧ w'.cell? ⟨W.heap.size, 1, none⟩ = some (.int .i64 s) ∧ w'.cell? ⟨W.heap.size, 2, none⟩ = some (.slice ad nd cd))
      (first | assumption | go_keep)
      (first
        | ((with_reducible refine (C1.out _ (by assumption)).mono ?_); rintro e w2 ⟨a2, c2, rfl, hown2, hS2⟩)
        | (refine step_app (by rfl) (.tmp 9) (.tmp 11) (by rfl) w1.heap.size _ _ (by rfl) hown2 W.heap.size ad nd cd data (by rfl) HDB.out.len_eq ((HDB.out.rd.below HB1.out).below (hS2.1.mono (by have := HS1.out; omega))) S1.out hS2.1.size ?_; intro v3 w3 hown3 hgr3 hat3; have hb3 := below_app hS2.1 hown2 (Nat.le_refl _) hgr3; have hS3 : Below w1.heap.size w1 w3 ∧ w3.cell? ⟨W.heap.size, 1, none⟩ = some (.int .i64 s) ∧ w3.cell? ⟨W.heap.size, 2, none⟩ = some (.slice ad nd cd) := ⟨hb3, (HBK.out.below hb3).cell 1 _ rfl, (HBK.out.below hb3).cell 2 _ rfl⟩))
    all_goals go_wp2_with fail
    all_goals go_meet
    all_goals exact ⟨hown3, hb3⟩
  case rest =>
    obtain ⟨hown3, hb3⟩ := hcut
    rename World => w3
    obtain ⟨a3, c3, rfl, hc3⟩ := OwnG.shape hown3
    obtain ⟨n3, hn3⟩ : ∃ n3, (bytesOf (n64 s) 8 ++ data).length = n3 := ⟨_, rfl⟩
    rw [hn3] at hown3 hc3 ⊢
    have hb03 : Below W.heap.size W w3 := HB1.out.trans (hb3.mono (by have := HS1.out; omega))
    have HC := Lib.hid (hmac_any key (bytesOf (n64 s) 8 ++ data) ak nk ck a3 n3 c3 w3 HKB.out.len_eq HKB.out.le_cap (by have := HKB.out.small; omega) ((HKB.out.rd.below hb03).more hb03.size) hn3 hc3 (by have := (OwnB.cap hown3).2.1; unfold maxLen at this; omega) (OwnB.rd hown3) (HK.out.below hb03))
    have hbk3 := HBK.out.below hb3
    have e0 : w3.cell? ⟨W.heap.size, 0, none⟩ = some (.slice ak nk ck) := hbk3.cell 0 _ rfl
    have HB3 := Lib.hid hb03
    have HBK3 := Lib.hid hbk3
    clear hown3 hb3 hc3 hn3 hb03 hbk3 C1 S1 d0 d1 d2 hwr HBK HB1
    go_wp2_with fail
    refine HC.out.mono ?_
    rintro e w4 ⟨rfl, hb4⟩
    obtain ⟨D, hD⟩ : ∃ D, hmacL key (bytesOf (n64 s) 8 ++ data) = D := ⟨_, rfl⟩
    rw [hD]
    have hDl : D.length = 32 := by rw [← hD]; exact hmacL_length _ _
    obtain ⟨X, Z, hX, hinf, hone, hzz, hzs, w5, hw5, hB5, hb5, hs5⟩ := keep_digest w4 D hDl
    rw [hX]
    have hb35 := hb4.trans (hb5.mono hb4.size)
    have hbk5 := HBK3.out.below hb35
    have f0 : w5.cell? ⟨W.heap.size, 0, none⟩ = some (.slice ak nk ck) := hbk5.cell 0 _ rfl
    have f1 : w5.cell? ⟨W.heap.size, 1, none⟩ = some (.int .i64 s) := hbk5.cell 1 _ rfl
    have f2 : w5.cell? ⟨W.heap.size, 2, none⟩ = some (.slice ad nd cd) := hbk5.cell 2 _ rfl
    have hb05 := HB3.out.trans (hb35.mono HB3.out.size)
    have HT := Lib.hid (tag_any key s data ak nk ck ad nd cd w5 HKB.out.len_eq HKB.out.le_cap HKB.out.small ((HKB.out.rd.below hb05).more hb05.size) HDB.out.len_eq HDB.out.le_cap HDB.out.small ((HDB.out.rd.below hb05).more hb05.size) (HK.out.below hb05))
    have HB5 := Lib.hid hb05
    have HBD := Lib.hid hB5
    have HD := Lib.hid hD
    have HDL := Lib.hid hDl
    clear hX hb4 hB5 hb5 hs5 hb35 hbk5 hb05 hD hDl HC HB3 HBK3 e0
    go_wp2_with (refine wpList_store_row0 rfl 23 _ _ rfl rfl w4.heap.size X rfl rfl 23 Z hzz hinf hzs hone hw5 ?_)
    refine HT.out.mono ?_
    rintro e w6 ⟨rfl, hb6⟩
    obtain ⟨G, hG⟩ : ∃ G, tagL key s data = G := ⟨_, rfl⟩
    rw [hG]
    have hGl : G.length = 16 := by rw [← hG]; exact tagL_length _ _ _
    obtain ⟨X6, Z6, hX6, hinf6, hone6, hzz6, hzs6, w7, hw7, hB7, hb7, hs7⟩ := keep16 w6 G hGl
    rw [hX6]
    have hb57 := hb6.trans (hb7.mono hb6.size)
    have HB7 := Lib.hid (HB5.out.trans (hb57.mono HB5.out.size))
    have hBD7 := HBD.out.below hb57
    have HEQ : Hid (G = D.take 16) := Lib.hid (by rw [← hG, tagL, HD.out])
    have hcv1 : ∀ wx, Below w7.heap.size w7 wx → (convert 22 9 (.slice (some ⟨w6.heap.size, 0, none⟩) 16 16)).run Tryd.prog wx = .ok (.string ⟨G.toArray⟩) wx := fun wx hx => conv_rd (hB7.below hx).rd 16 16 hGl
    have hcv2 : ∀ wx, Below w7.heap.size w7 wx → (convert 22 9 (.slice (some ⟨w4.heap.size, 0, none⟩) 16 32)).run Tryd.prog wx = .ok (.string ⟨G.toArray⟩) wx := fun wx hx => by
      have h := ((hBD7.below hx).rd).take 16
      rw [← bs_take] at h
      rw [HEQ.out]
      exact conv_rd h 16 32 (by rw [List.length_take, HDL.out]; rfl)
    have CA : Hid (∀ wx, Below w7.heap.size w7 wx → Calls Tryd.prog 20 #[] wx fun e w' => e = .returned (.bool true) ∧ Below w7.heap.size w7 w') := Lib.hid (fun wx hx => by
      refine (hmalive_any wx ((HK.out.below HB7.out).below hx)).mono ?_
      rintro e w' ⟨rfl, hb⟩
      exact ⟨rfl, hx.trans (hb.mono hx.size)⟩)
    have hr0 : Below w7.heap.size w7 w7 := Below.refl _ _
    have hr1 : Below w7.heap.size w7 w7.drew := (Below.refl _ _).drew
    clear hX6 hb6 hB7 hb7 hs7 hb57 hBD7 hG hGl HEQ HBD HD HDL HT HB5 f0 f1 f2
    go_upto_region 4 with (first
      | refine wpList_store_row0 rfl 44 _ _ rfl rfl w6.heap.size X6 rfl rfl 44 Z6 hzz6 hinf6 hzs6 hone6 hw7 ?_)
    clear hzz6 hinf6 hzs6 hone6 hw7 hzz hinf hzs hone hw5
    go_cut [2] (fun v wn => v = .bool true ∧ Below w7.heap.size w7 wn)
    case first =>
      go_region_held3 (fun w' => Below w7.heap.size w7 w')
        (first | assumption | go_keep)
        (first
          | ((with_reducible refine (CA.out _ (by assumption)).mono ?_); rintro e w8 ⟨rfl, hS8⟩))
      all_goals go_wp2_with fail
      all_goals go_meet
      all_goals exact ⟨rfl, by assumption⟩
    case rest =>
      obtain ⟨rfl, hb8⟩ := hcut
      go_wp2_with fail
      go_ret
      exact ⟨rfl, HB7.out.trans (hb8.mono HB7.out.size)⟩
end Go.Proofs.YtlfchhnkchcjcaaDoor
