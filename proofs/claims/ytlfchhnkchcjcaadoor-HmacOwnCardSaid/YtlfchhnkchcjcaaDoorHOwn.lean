/- the law: a tag is its own -/
import Derived.Test.YtlfchhnkchcjcaaDoorHm5
import Derived.Test.YtlfchhnkchcjcaaDoorHParts
namespace Go.Proofs.YtlfchhnkchcjcaaDoor
set_option linter.unusedVariables false
set_option linter.unusedSimpArgs false
open Go.RowKit

theorem set_xor (G : List UInt8) (k : Nat) (hk : k < G.length) (y : UInt8) : (G == G.set k (G[k] ^^^ y)) = (y == 0) := by
  by_cases h : y = 0
  · subst h; simp
  · rw [beq_eq_false_iff_ne.2 h, beq_eq_false_iff_ne]
    intro e
    have h1 := congrArg (fun l => l[k]?) e
    simp only [List.getElem?_set_self hk, List.getElem?_eq_getElem hk, Option.some.injEq] at h1
    refine h ?_
    have h2 : (G[k] ^^^ G[k]) ^^^ y = G[k] ^^^ (G[k] ^^^ y) := UInt8.xor_assoc _ _ _
    rw [← h1] at h2
    simpa using h2
theorem size2 (w : World) (o1 o2 : Obj) : ((w.alloc o1).alloc o2).drew.heap.size = w.heap.size + 1 + 1 := by
  show ((w.alloc o1).alloc o2).heap.size = _
  rw [World.size_alloc, World.size_alloc]
theorem u8_open (b : Int) (h : (Lit.int .u8 b).wf = true) : ∃ y : UInt8, b = (y.toNat : Int) := by
  have := bounds_u8 h
  refine ⟨UInt8.ofNat b.toNat, ?_⟩
  rw [UInt8.toNat_ofNat']
  omega

set_option maxHeartbeats 4000000 in
set_option maxRecDepth 16000 in
theorem law_HmacOwn (cs : Array Value) (x : TagTy.den) (p q : Int) (W : World) (hx : TagTy.reads W (Value.agg cs).cells.toList x) (hp : (Lit.int .i64 p).wf = true) (hq : (Lit.int .u8 q).wf = true) (hk : KOK W) :
    Calls Tryd.prog 11 #[.agg cs, .int .i64 p, .int .u8 q] W fun e w' => e = .returned (.bool true) ∧ Below W.heap.size W w' := by
  obtain ⟨s, key, data, tag, ak, ad, at_, nk, ck, nd, cd, nt, ct, rfl, hs, hK, hD, hT⟩ := tag_open cs x W hx
  obtain ⟨y, rfl⟩ := u8_open q hq
  have hpb := bounds_i64 hp
  have HPB := Lib.hid hpb
  have HKB := Lib.hid hK
  have HDB := Lib.hid hD
  have HK := Lib.hid hk
  clear hx hk hK hD hT hs hp hq hpb
  go_enter Tryd.func11, Tryd.ntmps11
  go_upto_region 1 with (fail)
  have hbk : Blk (W.alloc (.cells #[Value.slice ak nk ck, Value.int .i64 s, Value.slice ad nd cd, Value.slice at_ nt ct] 41)) W.heap.size 41 [Value.slice ak nk ck, Value.int .i64 s, Value.slice ad nd cd, Value.slice at_ nt ct] := Blk.new _ _ _
  have hb1 := (Below.refl W.heap.size W).alloc (Nat.le_refl _) (.cells #[Value.slice ak nk ck, Value.int .i64 s, Value.slice ad nd cd, Value.slice at_ nt ct] 41)
  have hs1 : (W.alloc (.cells #[Value.slice ak nk ck, Value.int .i64 s, Value.slice ad nd cd, Value.slice at_ nt ct] 41)).heap.size = W.heap.size + 1 := World.size_alloc _ _
  generalize hw1 : (W.alloc (.cells #[Value.slice ak nk ck, Value.int .i64 s, Value.slice ad nd cd, Value.slice at_ nt ct] 41)) = w1 at hbk hb1 hs1
  clear hw1
  have HBK := Lib.hid hbk
  have HB1 := Lib.hid hb1
  have HS1 := Lib.hid hs1
  -- the fields, in every later world
  have HF : Hid (∀ wx, Below w1.heap.size w1 wx → wx.cell? ⟨W.heap.size, 0, none⟩ = some (.slice ak nk ck) ∧ wx.cell? ⟨W.heap.size, 1, none⟩ = some (.int .i64 s) ∧ wx.cell? ⟨W.heap.size, 2, none⟩ = some (.slice ad nd cd)) := Lib.hid (fun wx hx => ⟨(HBK.out.below hx).cell 0 _ rfl, (HBK.out.below hx).cell 1 _ rfl, (HBK.out.below hx).cell 2 _ rfl⟩)
  have HBW : Hid (∀ wx, Below w1.heap.size w1 wx → Below W.heap.size W wx) := Lib.hid (fun wx hx => HB1.out.trans (hx.mono (by have := HS1.out; omega)))
  have CR : Hid (∀ wx (t : List UInt8) (a' : Option Addr) (n' c' : Nat), Below w1.heap.size w1 wx → t.length = n' → Rd wx wx.heap.size a' (bs t) → Calls Tryd.prog 25 #[.slice ak nk ck, .int .i64 s, .slice ad nd cd, .slice a' n' c'] wx fun e w' => e = .returned (.bool (tagL key s data == t)) ∧ Below wx.heap.size wx w') := Lib.hid (fun wx t a' n' c' hx ht hr => by
    have hb := HBW.out wx hx
    exact right_any key s data t ak nk ck ad nd cd a' n' c' wx HKB.out.len_eq HKB.out.le_cap HKB.out.small ((HKB.out.rd.below hb).more hb.size) HDB.out.len_eq HDB.out.le_cap HDB.out.small ((HDB.out.rd.below hb).more hb.size) ht hr (HK.out.below hb))
  obtain ⟨d0, d1, d2⟩ := HF.out w1 (Below.refl _ _)
  have HT := Lib.hid (tag_any key s data ak nk ck ad nd cd w1 HKB.out.len_eq HKB.out.le_cap HKB.out.small ((HKB.out.rd.below hb1).more hb1.size) HDB.out.len_eq HDB.out.le_cap HDB.out.small ((HDB.out.rd.below hb1).more hb1.size) (HK.out.below hb1))
  clear hbk hb1 hs1
  go_wp2_with fail
  refine HT.out.mono ?_
  rintro e w2 ⟨rfl, hb2⟩
  obtain ⟨G, hG⟩ : ∃ G, tagL key s data = G := ⟨_, rfl⟩
  rw [hG] at CR ⊢
  have hGl : G.length = 16 := by rw [← hG]; exact tagL_length _ _ _
  obtain ⟨X3, Z3, hX3, hinf3, hone3, hzz3, hzs3, w3, hw3, hB3, hb3, hs3⟩ := keep16 w2 G hGl
  rw [hX3]
  have HG := Lib.hid hG
  have HGL := Lib.hid hGl
  have HB3 := Lib.hid (hb2.trans (hb3.mono hb2.size))
  have HT3 := Lib.hid hB3
  have HTB : Hid (w2.heap.size < w3.heap.size) := Lib.hid hB3.lt
  have HR3 : Hid (Rd (w3.alloc (.cells #[] 5)) w3.heap.size (some ⟨w2.heap.size, 0, none⟩) (bs G)) := Lib.hid ((hB3.rd).alloc (Nat.le_refl _) _)
  have S1 : Hid (([] : List UInt8).length + 16 ≤ 140737488355328) := Lib.hid (by simp)
  have S2 : Hid (w3.heap.size ≤ (w3.alloc (.cells #[] 5)).heap.size) := Lib.hid (by rw [World.size_alloc]; omega)
  clear hG hGl hX3 hb2 hb3 hs3 hB3 HT d0 d1 d2
  go_wp2_with (first
    | refine wpList_store_row0 rfl 44 _ _ rfl rfl w2.heap.size X3 rfl rfl 44 Z3 hzz3 hinf3 hzs3 hone3 hw3 ?_
    | (at_builtin; refine wpList_app rfl _ _ rfl w3.heap.size _ [] rfl (OwnB.lit0 w3) w3.heap.size (some ⟨w2.heap.size, 0, none⟩) 16 16 G rfl HGL.out HR3.out S1.out S2.out ?_))
  intro v4 w4 hown4 hgr4 hat4
  have hb34 := below_app ((Below.refl w3.heap.size w3).alloc (Nat.le_refl _) (.cells #[] 5)) (OwnB.lit0 w3) (Nat.le_refl _) hgr4
  have hown4 : OwnB w4 w3.heap.size v4 G := hown4
  obtain ⟨a4, c4, rfl, hc4⟩ := OwnG.shape hown4
  rw [HGL.out] at hown4 hc4 ⊢
  have hb14 := HB3.out.trans (hb34.mono HB3.out.size)
  obtain ⟨e0, e1, e2⟩ := HF.out w4 hb14
  have HRI := Lib.hid (CR.out w4 G a4 16 c4 hb14 HGL.out (OwnB.rd hown4))
  have HO4 := Lib.hid hown4
  have HB14 := Lib.hid hb14
  have HT4 := Lib.hid (HT3.out.below hb34)
  have HSZ4 := Lib.hid hb34.size
  clear hb34 hown4 hb14 hgr4 hat4 hzz3 hinf3 hzs3 hone3 hw3
  go_wp2_with fail
  refine HRI.out.mono ?_
  rintro e w5 ⟨rfl, hb45⟩
  rw [beq_self_eq_true]
  have HB15 := Lib.hid (HB14.out.trans (hb45.mono HB14.out.size))
  have HO5 := Lib.hid (OwnG.below HO4.out hb45)
  have HT5 := Lib.hid (HT4.out.below hb45)
  have HSZ5 : Hid (w2.heap.size < w3.heap.size ∧ w3.heap.size ≤ w5.heap.size) := Lib.hid ⟨HTB.out, Nat.le_trans HSZ4.out hb45.size⟩
  clear hb45 e0 e1 e2 HRI HO4 HB14 HT4 HT3
  go_upto_if 32 with (fail)
  go_cut [1] (fun v wn => (∃ m : Nat, v = .int .i64 m ∧ m < 9223372036854775808) ∧ wn = w5)
  case first =>
    have hpb := HPB.out
    by_cases hneg : p < 0
    · have hw1 : wrap64 (p + 1) = p + 1 := IntWalk.wrap64_in _ (by omega)
      have hw2 : wrap64 (-(p + 1)) = -(p + 1) := IntWalk.wrap64_in _ (by omega)
      obtain ⟨m, hm⟩ : ∃ m : Nat, -(p + 1) = (m : Int) := ⟨(-(p + 1)).toNat, by omega⟩
      have hml : m < 9223372036854775808 := by omega
      have HM := Lib.hid hm
      clear hpb hm
      go_wp2_with fail
      go_meet
      exact ⟨⟨m, by rw [hw2, HM.out], hml⟩, rfl⟩
    · obtain ⟨m, rfl⟩ : ∃ m : Nat, p = (m : Int) := ⟨p.toNat, by omega⟩
      have hml : m < 9223372036854775808 := by omega
      clear hpb
      go_wp2_with fail
      go_meet
      exact ⟨⟨m, rfl, hml⟩, rfl⟩
  case rest =>
    obtain ⟨⟨m, rfl, hml⟩, rfl⟩ := hcut
    rename World => w5
    have hO5 : OwnB w5 w3.heap.size (.slice a4 16 c4) G := HO5.out
    obtain ⟨q, o, cq, hv, hq1, hq2, hq3, _⟩ := OwnG.form hO5 (by rw [HGL.out]; omega)
    rw [HGL.out] at hv hq3
    injection hv with hv1 _ hv3
    subst hv1; subst hv3
    have hOG : OwnG w5 w3.heap.size 5 1 (.slice (some ⟨q, o, none⟩) 16 c4) 16 (bs G) := by
      have h0 := hO5
      unfold OwnB at h0
      rw [HGL.out] at h0
      exact h0
    have hk16 : m % 16 < 16 := Nat.mod_lt _ (by omega)
    have hfr := OwnG.frozenAt hOG (m % 16) (by omega)
    obtain ⟨z, hz⟩ : ∃ z, G[m % 16]'(by rw [HGL.out]; exact hk16) = z := ⟨_, rfl⟩
    have hce := OwnG.cellAt hOG (m % 16) (.int .u8 (z.toNat : Int)) (by rw [bs_get G (m % 16) (by rw [HGL.out]; exact hk16), hz])
    have HSET : Hid ((G == G.set (m % 16) (z ^^^ y)) = (y == 0)) := Lib.hid (by rw [← hz]; exact set_xor G (m % 16) (by rw [HGL.out]; exact hk16) y)
    have E1 := Lib.hid (u8_xor_byte z y)
    have HOG := Lib.hid hOG
    have HK16 := Lib.hid hk16
    have HQ := Lib.hid hq1
    have hm0 : (0 : Int) ≤ (m : Int) := Int.natCast_nonneg m
    clear hz hO5 hq1 hq2 hq3 hOG hc4 hk16
    go_upto_region 7 with (fail)
    rw [E1.out]
    have hst : OwnB (w5.setCell ⟨q, o + m % 16, none⟩ (.int .u8 ((z ^^^ y).toNat : Int))) w3.heap.size (.slice (some ⟨q, o, none⟩) 16 c4) (G.set (m % 16) (z ^^^ y)) := by
      unfold OwnB
      rw [List.length_set, HGL.out, bs_set]
      exact OwnG.stored HOG.out (m % 16) (B (z ^^^ y)) (by rw [bs_length, HGL.out]; exact HK16.out)
    have hbs : Below w3.heap.size w5 (w5.setCell ⟨q, o + m % 16, none⟩ (.int .u8 ((z ^^^ y).toNat : Int))) := (Below.refl _ _).setCell HQ.out _
    have hb16 : Below w1.heap.size w1 (w5.setCell ⟨q, o + m % 16, none⟩ (.int .u8 ((z ^^^ y).toNat : Int))) := HB15.out.setCell (Nat.le_trans HB3.out.size HQ.out) _
    have ht6 : Blk (w5.setCell ⟨q, o + m % 16, none⟩ (.int .u8 ((z ^^^ y).toNat : Int))) w2.heap.size 44 (bs G) := HT5.out.other (by have := HSZ5.out.1; have := HQ.out; omega) _
    generalize hw6 : (w5.setCell ⟨q, o + m % 16, none⟩ (.int .u8 ((z ^^^ y).toNat : Int))) = w6 at hst hbs hb16 ht6 ⊢
    clear hw6
    obtain ⟨L6, hL6⟩ : ∃ L6, G.set (m % 16) (z ^^^ y) = L6 := ⟨_, rfl⟩
    have hl6 : L6.length = 16 := by rw [← hL6, List.length_set, HGL.out]
    rw [hL6] at hst HSET
    have HRI := Lib.hid (CR.out w6 L6 (some ⟨q, o, none⟩) 16 c4 hb16 hl6 (OwnB.rd (by have h0 := hst; exact h0 : OwnB w6 w3.heap.size (.slice (some ⟨q, o, none⟩) 16 c4) L6)))
    rw [HSET.out] at HRI
    have HB16 := Lib.hid hb16
    have HT6 := Lib.hid ht6
    obtain ⟨g0, g1, g2⟩ := HF.out w6 hb16
    clear hL6 hl6 hst hbs hb16 ht6 hfr hce HSET E1 HOG HK16 HQ HB15 HT5 HSZ5 HO5 hown4
    go_wp2_with fail
    refine HRI.out.mono ?_
    rintro e w7 ⟨rfl, hb67⟩
    have hb17 := HB16.out.trans (hb67.mono HB16.out.size)
    have HB17 := Lib.hid hb17
    have HT7 := Lib.hid (HT6.out.below hb67)
    have HBX : Hid (∀ wx, Below w7.heap.size w7 wx → Below w1.heap.size w1 wx) := Lib.hid (fun wx hx => HB17.out.trans (hx.mono HB17.out.size))
    have k0 : ∀ wx, Below w7.heap.size w7 wx → wx.cell? ⟨W.heap.size, 0, none⟩ = some (.slice ak nk ck) := fun wx hx => (HF.out wx (HBX.out wx hx)).1
    have k1 : ∀ wx, Below w7.heap.size w7 wx → wx.cell? ⟨W.heap.size, 1, none⟩ = some (.int .i64 s) := fun wx hx => (HF.out wx (HBX.out wx hx)).2.1
    have k2 : ∀ wx, Below w7.heap.size w7 wx → wx.cell? ⟨W.heap.size, 2, none⟩ = some (.slice ad nd cd) := fun wx hx => (HF.out wx (HBX.out wx hx)).2.2
    have C15 : Hid (∀ wx, Below w7.heap.size w7 wx → Calls Tryd.prog 25 #[.slice ak nk ck, .int .i64 s, .slice ad nd cd, .slice (some ⟨w2.heap.size, 0, none⟩) 15 16] wx fun e w' => e = .returned (.bool false) ∧ Below w7.heap.size w7 w') := Lib.hid (fun wx hx => by
      have h := ((HT7.out.below hx).rd).take 15
      rw [← bs_take] at h
      have hl : (G.take 15).length = 15 := by rw [List.length_take, HGL.out]; rfl
      refine (CR.out wx (G.take 15) (some ⟨w2.heap.size, 0, none⟩) 15 16 (HBX.out wx hx) hl h).mono ?_
      rintro e w' ⟨rfl, hb⟩
      refine ⟨?_, hx.trans (hb.mono hx.size)⟩
      rw [beq_eq_false_iff_ne.2 (fun e => by have := congrArg List.length e; rw [hl, HGL.out] at this; omega)])
    have hr0 : Below w7.heap.size w7 w7 := Below.refl _ _
    have hr1 : Below w7.heap.size w7 w7.drew := (Below.refl _ _).drew
    clear g0 g1 g2 hb67 hb17 HRI HB16 HT6
    go_upto_region 8 with (fail)
    go_cut [11] (fun v wn => v = .bool false ∧ Below w7.heap.size w7 wn)
    case first =>
      go_region_held3 (fun w' => Below w7.heap.size w7 w')
        (first | assumption | go_keep)
        (first
          | ((with_reducible refine (C15.out _ (by assumption)).mono ?_); rintro e w8 ⟨rfl, hS8⟩))
      all_goals go_wp2_with fail
      all_goals go_meet
      all_goals exact ⟨rfl, by assumption⟩
    case rest =>
      obtain ⟨rfl, hb78⟩ := hcut
      rename World => w8
      have hb18 := HBX.out w8 hb78
      have hz8 := hb78.size
      have hc8 := Blk.lt HT7.out
      have ht8 : Rd w8 w8.heap.size (some ⟨w2.heap.size, 0, none⟩) (bs G) := (HT7.out.below hb78).rd
      have L1 : OwnB (w8.alloc (Obj.cells #[] 5)).drew w8.heap.size (.slice (some ⟨w8.heap.size, 0, none⟩) 0 0) [] := OwnG.drew (OwnB.lit0 w8)
      have R1 : Rd (w8.alloc (Obj.cells #[] 5)).drew w8.heap.size (some ⟨w2.heap.size, 0, none⟩) (bs G) := (ht8.alloc (Nat.le_refl _) _).drew
      have N1 : w8.heap.size ≤ (w8.alloc (Obj.cells #[] 5)).drew.heap.size := by have : (w8.alloc (Obj.cells #[] 5)).drew.heap.size = w8.heap.size + 1 := World.size_alloc _ _; omega
      have B1 : Below w7.heap.size w7 (w8.alloc (Obj.cells #[] 5)).drew := (hb78.alloc hz8 _).drew
      have B2 : Below w7.heap.size w7 ((w8.alloc (Obj.cells #[] 5)).alloc (Obj.cells #[Value.int IntKind.u8 (y.toNat : Int)] 5)).drew := ((hb78.alloc hz8 _).alloc (by rw [World.size_alloc]; omega) _).drew
      have B3 : Below w7.heap.size w7 (w8.alloc (Obj.cells #[Value.int IntKind.u8 (y.toNat : Int)] 5)).drew := (hb78.alloc hz8 _).drew
      have B4 : Below w7.heap.size w7 ((w8.alloc (Obj.cells #[Value.int IntKind.u8 (y.toNat : Int)] 5)).alloc (Obj.cells #[] 5)).drew := ((hb78.alloc hz8 _).alloc (by rw [World.size_alloc]; omega) _).drew
      have L2 : OwnB ((w8.alloc (Obj.cells #[] 5)).alloc (Obj.cells #[Value.int IntKind.u8 (y.toNat : Int)] 5)).drew w8.heap.size (.slice (some ⟨w8.heap.size, 0, none⟩) 0 0) [] := OwnG.drew (OwnG.alloc (OwnB.lit0 w8) _)
      have R2 : Rd ((w8.alloc (Obj.cells #[] 5)).alloc (Obj.cells #[Value.int IntKind.u8 (y.toNat : Int)] 5)).drew w8.heap.size (some ⟨w2.heap.size, 0, none⟩) (bs G) := ((ht8.alloc (Nat.le_refl _) _).alloc (by rw [World.size_alloc]; omega) _).drew
      have N2 : w8.heap.size ≤ ((w8.alloc (Obj.cells #[] 5)).alloc (Obj.cells #[Value.int IntKind.u8 (y.toNat : Int)] 5)).drew.heap.size := by rw [size2]; omega
      have L3 : OwnB ((w8.alloc (Obj.cells #[Value.int IntKind.u8 (y.toNat : Int)] 5)).alloc (Obj.cells #[] 5)).drew w8.heap.size (.slice (some ⟨w8.heap.size + 1, 0, none⟩) 0 0) [] := by
        have h := OwnG.drew (OwnB.lit0 (w8.alloc (Obj.cells #[Value.int IntKind.u8 (y.toNat : Int)] 5)))
        rw [World.size_alloc] at h
        exact OwnG.base_mono h (by omega)
      have R3 : Rd ((w8.alloc (Obj.cells #[Value.int IntKind.u8 (y.toNat : Int)] 5)).alloc (Obj.cells #[] 5)).drew w8.heap.size (some ⟨w2.heap.size, 0, none⟩) (bs G) := ((ht8.alloc (Nat.le_refl _) _).alloc (by rw [World.size_alloc]; omega) _).drew
      have N3 : w8.heap.size ≤ ((w8.alloc (Obj.cells #[Value.int IntKind.u8 (y.toNat : Int)] 5)).alloc (Obj.cells #[] 5)).drew.heap.size := by rw [size2]; omega
      have K1 : ∀ w', (w8.alloc (Obj.cells #[] 5)).drew.grownBy w' (Value.slice (some ⟨w8.heap.size, 0, none⟩) 0 0).ownBlock → Below w7.heap.size w7 w' := fun w' hg => B1.grown hg (Nat.le_trans hz8 N1) (fun z hz => by have hz : some w8.heap.size = some z := hz; injection hz with hz; omega)
      have K2 : ∀ w', ((w8.alloc (Obj.cells #[] 5)).alloc (Obj.cells #[Value.int IntKind.u8 (y.toNat : Int)] 5)).drew.grownBy w' (Value.slice (some ⟨w8.heap.size, 0, none⟩) 0 0).ownBlock → Below w7.heap.size w7 w' ∧ w8.heap.size ≤ w'.heap.size ∧ Rd w' (w8.heap.size + 1 + 1) (some ⟨w8.heap.size + 1, 0, none⟩) (bs [y]) := fun w' hg => by
        refine ⟨B2.grown hg (Nat.le_trans hz8 N2) (fun z hz => by have hz : some w8.heap.size = some z := hz; injection hz with hz; omega), Nat.le_trans N2 hg.size, ?_⟩
        have h := Rd.off (Rd.drew (Rd.new (w8.alloc (Obj.cells #[] 5)) (bs [y]) 5)) hg (by rw [size2, World.size_alloc]; omega) (by rw [World.size_alloc]; intro e; have e : some (w8.heap.size + 1) = some w8.heap.size := e; injection e with e; omega)
        rw [World.size_alloc] at h
        exact h
      have K3 : ∀ w', ((w8.alloc (Obj.cells #[Value.int IntKind.u8 (y.toNat : Int)] 5)).alloc (Obj.cells #[] 5)).drew.grownBy w' (Value.slice (some ⟨w8.heap.size + 1, 0, none⟩) 0 0).ownBlock → Below w7.heap.size w7 w' ∧ w8.heap.size ≤ w'.heap.size ∧ Rd w' (w8.heap.size + 1) (some ⟨w8.heap.size, 0, none⟩) (bs [y]) := fun w' hg => by
        refine ⟨B4.grown hg (Nat.le_trans hz8 N3) (fun z hz => by have hz : some (w8.heap.size + 1) = some z := hz; injection hz with hz; omega), Nat.le_trans N3 hg.size, ?_⟩
        exact Rd.off (Rd.drew ((Rd.new w8 (bs [y]) 5).alloc (by rw [World.size_alloc]; omega) _)) hg (by rw [size2]; omega) (by intro e; have e : some w8.heap.size = some (w8.heap.size + 1) := e; injection e with e; omega)
      have K4 : ∀ (wa wb : World) (va : Value) (l : List UInt8), Below w7.heap.size w7 wa → OwnB wa w8.heap.size va l → w8.heap.size ≤ wa.heap.size → wa.grownBy wb va.ownBlock → Below w7.heap.size w7 wb := fun wa wb va l h1 h2 h3 h4 => h1.grown h4 (Nat.le_trans hz8 h3) (fun z hz => by have := (OwnG.lt h2 z hz).1; omega)
      have S3 : (([] : List UInt8) ++ G).length + 1 ≤ 140737488355328 := by rw [List.nil_append, HGL.out]; omega
      have C17 : ∀ wx a' c', Below w7.heap.size w7 wx → OwnB wx w8.heap.size (.slice a' (([] ++ G) ++ [y]).length c') (([] ++ G) ++ [y]) → Calls Tryd.prog 25 #[.slice ak nk ck, .int .i64 s, .slice ad nd cd, .slice a' (G.length + 1) c'] wx fun e w' => e = .returned (.bool false) ∧ Below w7.heap.size w7 w' := fun wx a' c' hx ho => by
        have el : (([] ++ G) ++ [y]).length = G.length + 1 := by simp
        rw [el] at ho
        refine (CR.out wx (([] ++ G) ++ [y]) a' (G.length + 1) c' (HBX.out wx hx) el (OwnB.rd ho)).mono ?_
        rintro e w' ⟨rfl, hb⟩
        refine ⟨?_, hx.trans (hb.mono hx.size)⟩
        rw [beq_eq_false_iff_ne.2 (fun e => by have := congrArg List.length e; rw [List.nil_append, List.length_append, HGL.out] at this; simp at this)]
      have hr8 : Below w7.heap.size w7 w8.drew := hb78.drew
      clear ht8 hc8 hb18 C15 hr0 hr1
      go_upto_region 9 with (fail)
      go_cut [12] (fun v wn => v = .bool false ∧ Below w7.heap.size w7 wn)
      case first =>
        go_region_held3 (fun w' => Below w7.heap.size w7 w')
          (first | assumption | go_keep)
          (first
            | (refine step_app (by rfl) (.tmp 69) (.tmp 70) (by rfl) w8.heap.size _ [] (by rfl) L1 w8.heap.size (some ⟨w2.heap.size, 0, none⟩) 16 16 G (by rfl) HGL.out R1 S1.out N1 ?_; intro v1 wa hown1 hgr1 hat1; have hsa := K1 wa hgr1; have hza := hgr1.size; have hsb := hsa.alloc hsa.size (Obj.cells #[Value.int IntKind.u8 (y.toNat : Int)] 5); have hwz : w8.heap.size ≤ (wa.alloc (Obj.cells #[Value.int IntKind.u8 (y.toNat : Int)] 5)).heap.size := (by rw [World.size_alloc]; omega); have hown1 := OwnG.alloc hown1 (Obj.cells #[Value.int IntKind.u8 (y.toNat : Int)] 5); have hry := Rd.new wa (bs [y]) 5)
            | (refine step_app (by rfl) (.tmp 69) (.tmp 70) (by rfl) w8.heap.size _ [] (by rfl) L2 w8.heap.size (some ⟨w2.heap.size, 0, none⟩) 16 16 G (by rfl) HGL.out R2 S1.out N2 ?_; intro v1 wa hown1 hgr1 hat1; obtain ⟨hsb, hwz, hry⟩ := K2 wa hgr1)
            | (refine step_app (by rfl) (.tmp 69) (.tmp 70) (by rfl) w8.heap.size _ [] (by rfl) L3 w8.heap.size (some ⟨w2.heap.size, 0, none⟩) 16 16 G (by rfl) HGL.out R3 S1.out N3 ?_; intro v1 wa hown1 hgr1 hat1; obtain ⟨hsb, hwz, hry⟩ := K3 wa hgr1)
            | (refine step_app (by rfl) (.tmp 71) (.tmp 73) (by rfl) w8.heap.size _ (([] : List UInt8) ++ G) (by rfl) hown1 (wa.heap.size + 1) (some ⟨wa.heap.size, 0, none⟩) 1 1 [y] (by rfl) (by rfl) hry S3 hwz ?_; intro v2 wb hown2 hgr2 hat2; have hsc := K4 _ _ _ _ hsb hown1 hwz hgr2; obtain ⟨a9, c9, rfl, _⟩ := OwnG.shape hown2; have HC := C17 wb a9 c9 hsc hown2)
            | (refine step_app (by rfl) (.tmp 71) (.tmp 73) (by rfl) w8.heap.size _ (([] : List UInt8) ++ G) (by rfl) hown1 (w8.heap.size + 1 + 1) (some ⟨w8.heap.size + 1, 0, none⟩) 1 1 [y] (by rfl) (by rfl) hry S3 hwz ?_; intro v2 wb hown2 hgr2 hat2; have hsc := K4 _ _ _ _ hsb hown1 hwz hgr2; obtain ⟨a9, c9, rfl, _⟩ := OwnG.shape hown2; have HC := C17 wb a9 c9 hsc hown2)
            | (refine step_app (by rfl) (.tmp 71) (.tmp 73) (by rfl) w8.heap.size _ (([] : List UInt8) ++ G) (by rfl) hown1 (w8.heap.size + 1) (some ⟨w8.heap.size, 0, none⟩) 1 1 [y] (by rfl) (by rfl) hry S3 hwz ?_; intro v2 wb hown2 hgr2 hat2; have hsc := K4 _ _ _ _ hsb hown1 hwz hgr2; obtain ⟨a9, c9, rfl, _⟩ := OwnG.shape hown2; have HC := C17 wb a9 c9 hsc hown2)
            | ((with_reducible refine HC.mono ?_); rintro e wz ⟨rfl, hS9⟩))
        all_goals go_wp2_with fail
        all_goals go_meet
        all_goals exact ⟨rfl, by assumption⟩
      case rest =>
        obtain ⟨rfl, hb79⟩ := hcut
        rename World => w9
        have hbf : Below W.heap.size W w9 := HBW.out w9 (HBX.out w9 hb79)
        have HA := Lib.hid (hmalive_any w9 (HK.out.below hbf))
        have HBF := Lib.hid hbf
        clear hbf hb79 hb78 hz8 hr8 L1 R1 N1 B1 B2 B3 B4 L2 R2 N2 L3 R3 N3 K1 K2 K3 K4 S3 C17 k0 k1 k2 HT7 HBX HB17
        go_wp2_with fail
        refine HA.out.mono ?_
        rintro e w10 ⟨rfl, hb10⟩
        have HBE := Lib.hid (HBF.out.trans (hb10.mono HBF.out.size))
        have hz := u8_zero_int y
        cases hb : (y == 0) with
        | true =>
          rw [hb] at hz
          clear hb10 hb
          go_wp2_with fail
          go_ret
          exact ⟨rfl, HBE.out⟩
        | false =>
          rw [hb] at hz
          clear hb10 hb
          go_wp2_with fail
          go_ret
          exact ⟨rfl, HBE.out⟩
end Go.Proofs.YtlfchhnkchcjcaaDoor
