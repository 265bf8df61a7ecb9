/- the law of tags -/
import Derived.Test.YtlfchhnkchcjcaaDoorRf7
import Derived.Test.YtlfchhnkchcjcaaDoorHParts
namespace Go.Proofs.YtlfchhnkchcjcaaDoor
set_option linter.unusedVariables false
set_option linter.unusedSimpArgs false
open Go.RowKit

theorem eq_tag (l m : List UInt8) (hl : l.length = 16) (hm : m.length = 16) {X Y : Array Value} (hX : (bs l).toArray = X) (hY : (bs m).toArray = Y) (W : World) :
    (Op.equalIn 10000 44 (.agg X) (.agg Y)).run Tryd.prog W = .ok (l == m) W := by
  rw [← hX, ← hY, bs_ints, bs_ints, ← ints_beq]
  exact run_equalIn_ints 9998 44 16 5 .u8 .u8 Tryd.underlying44 Tryd.underlying5 (fun _ => by kernel_rfl) (fun _ => by kernel_rfl) _ _ (by simp [hl]) (by simp [hm]) W

/-- A load of a whole array, under a guard. -/
theorem wpList_load_rowG {P : Program} {ops : Array Oper} {rest : List Oper} {o : Oper} {a : Act} {w : World} {Q : Exit → Act → World → Prop} (hw : Region.wanted o (yielded ops a.tmps) = true) (ty : TypeId) (x : Operand) (ho : o.op = .load ty x)
    (g : Nat) (hx : a.eval x = .pointer (some ⟨g, 0, none⟩)) (t : TypeId) (cs : Array Value) (fr : Nat × Nat) (d : TypeDesc) (hg : w.heap[g]? = some (.cells cs t fr))
    (hu : P.underlying ty = some d) (hd : (match d with | .struct _ | .array _ _ => true | _ => false) = true) (hi : (P.info? ty).map (·.size) = some cs.size)
    (h : wpList P ops Q rest (a.put o.dst (.agg cs)) w) : wpList P ops Q (o :: rest) a w :=
  wpList_step fun K hK => step_load_row hw ty x ho g hx t cs fr d hg hu hd hi (hK _ _ h)

set_option maxHeartbeats 4000000 in
set_option maxRecDepth 16000 in
theorem law_HmacTags (cs : Array Value) (x : TagTy.den) (W : World) (hx : TagTy.reads W (Value.agg cs).cells.toList x) (hk : KOK W) :
    Calls Tryd.prog 10 #[.agg cs] W fun e w' => e = .returned (.bool true) ∧ Below W.heap.size W w' := by
  obtain ⟨s, key, data, tag, ak, ad, at_, nk, ck, nd, cd, nt, ct, rfl, hs, hK, hD, hT⟩ := tag_open cs x W hx
  have HKB := Lib.hid hK
  have HDB := Lib.hid hD
  have HTB := Lib.hid hT
  have HK := Lib.hid hk
  clear hx hk hK hD hT hs
  go_enter Tryd.func10, Tryd.ntmps10
  go_upto_region 1 with (fail)
  have hbk : Blk (W.alloc (.cells #[Value.slice ak nk ck, Value.int .i64 s, Value.slice ad nd cd, Value.slice at_ nt ct] 41)) W.heap.size 41 [Value.slice ak nk ck, Value.int .i64 s, Value.slice ad nd cd, Value.slice at_ nt ct] := Blk.new _ _ _
  have hb1 := (Below.refl W.heap.size W).alloc (Nat.le_refl _) (.cells #[Value.slice ak nk ck, Value.int .i64 s, Value.slice ad nd cd, Value.slice at_ nt ct] 41)
  have hs1 : (W.alloc (.cells #[Value.slice ak nk ck, Value.int .i64 s, Value.slice ad nd cd, Value.slice at_ nt ct] 41)).heap.size = W.heap.size + 1 := World.size_alloc _ _
  generalize hw1 : (W.alloc (.cells #[Value.slice ak nk ck, Value.int .i64 s, Value.slice ad nd cd, Value.slice at_ nt ct] 41)) = w1 at hbk hb1 hs1
  clear hw1
  have HBK := Lib.hid hbk
  have HB1 := Lib.hid hb1
  have HS1 := Lib.hid hs1
  have HF : Hid (∀ wx, Below w1.heap.size w1 wx → wx.cell? ⟨W.heap.size, 0, none⟩ = some (.slice ak nk ck) ∧ wx.cell? ⟨W.heap.size, 1, none⟩ = some (.int .i64 s) ∧ wx.cell? ⟨W.heap.size, 2, none⟩ = some (.slice ad nd cd) ∧ wx.cell? ⟨W.heap.size, 3, none⟩ = some (.slice at_ nt ct)) := Lib.hid (fun wx hx => ⟨(HBK.out.below hx).cell 0 _ rfl, (HBK.out.below hx).cell 1 _ rfl, (HBK.out.below hx).cell 2 _ rfl, (HBK.out.below hx).cell 3 _ rfl⟩)
  have HBW : Hid (∀ wx, Below w1.heap.size w1 wx → Below W.heap.size W wx) := Lib.hid (fun wx hx => HB1.out.trans (hx.mono (by have := HS1.out; omega)))
  have hnk : nk ≤ 140737488351232 := Nat.le_trans HKB.out.le_cap HKB.out.small
  have hnd : nd ≤ 140737488351232 := Nat.le_trans HDB.out.le_cap HDB.out.small
  have HNK := Lib.hid hnk
  have HND := Lib.hid hnd
  obtain ⟨d0, d1, d2, _⟩ := HF.out w1 (Below.refl _ _)
  have HT := Lib.hid (tag_any key s data ak nk ck ad nd cd w1 HKB.out.len_eq HKB.out.le_cap HKB.out.small ((HKB.out.rd.below hb1).more hb1.size) HDB.out.len_eq HDB.out.le_cap HDB.out.small ((HDB.out.rd.below hb1).more hb1.size) (HK.out.below hb1))
  clear hbk hb1 hs1 hnk hnd
  go_wp2_with fail
  refine HT.out.mono ?_
  rintro e w2 ⟨rfl, hb2⟩
  obtain ⟨G, hG⟩ : ∃ G, tagL key s data = G := ⟨_, rfl⟩
  rw [hG]
  have HG := Lib.hid hG
  have hGl : G.length = 16 := by rw [← hG]; exact tagL_length _ _ _
  have HGL := Lib.hid hGl
  obtain ⟨X3, Z3, hX3, hinf3, hone3, hzz3, hzs3, w3, hw3, hB3, hb3, hs3⟩ := keep16 w2 G hGl
  rw [hX3]
  have HX3 := Lib.hid hX3
  have HT3 := Lib.hid hB3
  have hb13 := hb2.trans (hb3.mono hb2.size)
  have HB3 := Lib.hid hb13
  have hb03 := HBW.out w3 hb13
  obtain ⟨e0, e1, e2, _⟩ := HF.out w3 hb13
  have HR := Lib.hid (rtag_any key s data ak nk ck ad nd cd w3 HKB.out.len_eq HNK.out ((HKB.out.rd.below hb03).more hb03.size) HDB.out.len_eq HND.out ((HDB.out.rd.below hb03).more hb03.size))
  rw [hG, hX3] at HR
  have HINF := Lib.hid hinf3
  clear hX3 hb2 hb3 hs3 hB3 HT d0 d1 d2 hG hGl hb13 hb03
  go_wp2_with (first
    | refine wpList_store_row0 rfl 44 _ _ rfl rfl w2.heap.size X3 rfl rfl 44 Z3 hzz3 hinf3 hzs3 hone3 hw3 ?_)
  refine HR.out.mono ?_
  rintro e w4 ⟨rfl, hb4⟩
  obtain ⟨X5, Z5, hX5, hinf5, hone5, hzz5, hzs5, w5, hw5, hB5, hb5, hs5⟩ := keep16 w4 G HGL.out
  have hXX : X5 = X3 := by rw [← hX5]; exact HX3.out
  subst hXX
  have hb35 := hb4.trans (hb5.mono hb4.size)
  have HT5 := Lib.hid hB5
  have hb15 := HB3.out.trans (hb35.mono HB3.out.size)
  have HB5 := Lib.hid hb15
  have HT35 := Lib.hid (HT3.out.below hb35)
  have hb05 := HBW.out w5 hb15
  obtain ⟨f0, f1, f2, f3⟩ := HF.out w5 hb15
  have HRI := Lib.hid (right_any key s data tag ak nk ck ad nd cd at_ nt ct w5 HKB.out.len_eq HKB.out.le_cap HKB.out.small ((HKB.out.rd.below hb05).more hb05.size) HDB.out.len_eq HDB.out.le_cap HDB.out.small ((HDB.out.rd.below hb05).more hb05.size) HTB.out.len_eq ((HTB.out.rd.below hb05).more hb05.size) (HK.out.below hb05))
  clear hX5 hb4 hb5 hs5 hB5 hb35 hb15 hb05 hzz3 hinf3 hzs3 hone3 hw3 HR e0 e1 e2 HT3
  go_wp2_with (first
    | refine wpList_store_row0 rfl 44 _ _ rfl rfl w4.heap.size X5 rfl rfl 44 Z5 hzz5 hinf5 hzs5 hone5 hw5 ?_)
  refine HRI.out.mono ?_
  rintro e w6 ⟨rfl, hb6⟩
  have hb16 := HB5.out.trans (hb6.mono HB5.out.size)
  have HB6 := Lib.hid hb16
  have hb06 := HBW.out w6 hb16
  obtain ⟨g0, g1, g2, g3⟩ := HF.out w6 hb16
  have HRR := Lib.hid (rright_any key s data tag ak nk ck ad nd cd at_ nt ct w6 HKB.out.len_eq HNK.out ((HKB.out.rd.below hb06).more hb06.size) HDB.out.len_eq HND.out ((HDB.out.rd.below hb06).more hb06.size) HTB.out.len_eq ((HTB.out.rd.below hb06).more hb06.size))
  have HT36 := Lib.hid (HT35.out.below hb6)
  have HT56 := Lib.hid (HT5.out.below hb6)
  clear hb6 hb16 hb06 hzz5 hinf5 hzs5 hone5 hw5 HRI f0 f1 f2 f3 HT35 HT5
  go_wp2_with fail
  refine HRR.out.mono ?_
  rintro e w7 ⟨rfl, hb7⟩
  have hb17 := HB6.out.trans (hb7.mono HB6.out.size)
  have HB7 := Lib.hid hb17
  have HT37 := Lib.hid (HT36.out.below hb7)
  have HT57 := Lib.hid (HT56.out.below hb7)
  have HAL := Lib.hid (hmalive_any w7 (HK.out.below (HBW.out w7 hb17)))
  clear hb7 hb17 HRR g0 g1 g2 g3 HT36 HT56
  go_wp2_with fail
  refine HAL.out.mono ?_
  rintro e w8 ⟨rfl, hb8⟩
  have HB8 := Lib.hid (HB7.out.trans (hb8.mono HB7.out.size))
  have h3 := HT37.out.below hb8
  have h5 := HT57.out.below hb8
  unfold Blk at h3 h5
  rw [HX3.out] at h3 h5
  obtain ⟨ga, hga⟩ : ∃ ga, w2.heap.size = ga := ⟨_, rfl⟩
  obtain ⟨gb, hgb⟩ : ∃ gb, w4.heap.size = gb := ⟨_, rfl⟩
  rw [hga] at h3
  rw [hgb] at h5
  rw [hga, hgb]
  have heq : ∀ w : World, (Op.equalIn 10000 44 (.agg X5) (.agg X5)).run Tryd.prog w = .ok true w := fun w => by
    have := eq_tag G G HGL.out HGL.out HX3.out HX3.out w
    rw [beq_self_eq_true] at this
    exact this
  obtain ⟨q, hq⟩ : ∃ q, (tagL key s data == tag) = q := ⟨_, rfl⟩
  rw [hq]
  clear hq hb8 hga hgb HAL
  cases q <;>
  (go_wp2_with (first
    | refine wpList_load_rowG (by rfl) 44 (.tmp 3) rfl ga rfl 44 X5 (0, 0) _ h3 Tryd.underlying44 rfl HINF.out ?_
    | refine wpList_load_rowG (by rfl) 44 (.tmp 4) rfl gb rfl 44 X5 (0, 0) _ h5 Tryd.underlying44 rfl HINF.out ?_)
   go_ret
   exact ⟨rfl, HBW.out _ HB8.out⟩)
end Go.Proofs.YtlfchhnkchcjcaaDoor
