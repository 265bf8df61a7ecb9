/- hmac: Tag -/
import Derived.Test.YtlfchhnkchcjcaaDoorHm3
namespace Go.Proofs.YtlfchhnkchcjcaaDoor
set_option linter.unusedVariables false
set_option linter.unusedSimpArgs false
open Go.RowKit

/-- Sixteen bytes are stored in the result's cell. -/
theorem store16 {w wo : World} {B g : Nat} {L : List UInt8} (hL : L.length = 16) {old : List UInt8} (ho : old.length = 16) (q : Blk wo g 44 (bs old)) (hg : B ≤ g) (hb : Below B w wo) :
    ∃ X : List Value, ∃ Z : Array Value, bs L = X ∧ (Tryd.prog.info? 44).map (·.size) = some X.toArray.size ∧ (Tryd.prog.info? 44).map (·.size) = some X.length ∧ X.toArray.all (·.oneCell') = true ∧ wo.heap[g]? = some (.cells Z 44 (0, 0)) ∧ Z.size = X.toArray.size ∧
      (wo.setRow g X.toArray).heap[g]? = some (.cells X.toArray 44 (0, 0)) ∧ Below B w (wo.setRow g X.toArray) ∧ (wo.setRow g X.toArray).heap.size = wo.heap.size := by
  have hXs : (bs L).toArray.size = 16 := by simp [bs_length, hL]
  refine ⟨_, (bs old).toArray, rfl, by rw [hXs]; kernel_rfl, by rw [bs_length, hL]; kernel_rfl, ?_, q, by simp [bs_length, hL, ho], setRow_heap wo g _ _ _ (0, 0) q, ⟨hb.os, hb.tape, hb.output, by rw [setRow_size]; exact hb.size, fun k hk => (setRow_other wo g k _ (by omega)).trans (hb.block k hk)⟩, setRow_size _ _ _⟩
  rw [Array.all_eq_true_iff_forall_mem]
  intro v hv
  exact bs_one L v (by simpa using hv)

/-- Sixteen bytes are kept in a new block. -/
theorem keep16 (w : World) (L : List UInt8) (hL : L.length = 16) : ∃ X Z : Array Value, (bs L).toArray = X ∧ (Tryd.prog.info? 44).map (·.size) = some X.size ∧ X.all (·.oneCell') = true ∧
    (w.alloc (.cells (bs (List.replicate 16 0)).toArray 44)).heap[w.heap.size]? = some (.cells Z 44 (0, 0)) ∧ Z.size = X.size ∧
    ∃ w', (w.alloc (.cells (bs (List.replicate 16 0)).toArray 44)).setRow w.heap.size X = w' ∧ Blk w' w.heap.size 44 (bs L) ∧ Below w.heap.size w w' ∧ w'.heap.size = w.heap.size + 1 := by
  obtain ⟨X, Z, hX, hinf, _, hone, hzz, hzs, hg4, hb5, hz5⟩ := store16 (B := w.heap.size) (w := w) hL (old := List.replicate 16 0) (by simp) (Blk.new w 44 (bs (List.replicate 16 0))) (Nat.le_refl _) ((Below.refl w.heap.size w).alloc (Nat.le_refl _) _)
  exact ⟨X.toArray, Z, by rw [hX], hinf, hone, hzz, hzs, _, rfl, by rw [← hX] at hg4 ⊢; exact hg4, hb5, by rw [hz5, World.size_alloc]⟩

theorem tag_any (key : List UInt8) (x : Int) (data : List UInt8) (ak : Option Addr) (nk ck : Nat) (ad : Option Addr) (nd cd : Nat) (w : World) (hlk : key.length = nk) (hck : nk ≤ ck) (hck2 : ck ≤ 140737488351232) (hrk : Rd w w.heap.size ak (bs key))
    (hld : data.length = nd) (hcd : nd ≤ cd) (hcd2 : cd ≤ 140737488351232) (hrd : Rd w w.heap.size ad (bs data)) (hk : KOK w) :
    Calls Tryd.prog 23 #[.slice ak nk ck, .int .i64 x, .slice ad nd cd] w fun e w' => e = .returned (.agg (bs (tagL key x data)).toArray) ∧ Below w.heap.size w w' := by
  have HLK := Lib.hid hlk
  have HRK := Lib.hid hrk
  have HLD := Lib.hid hld
  have HRD := Lib.hid hrd
  have HK := Lib.hid hk
  have hwr : IntKind.u64.wrap x = (n64 x : Int) := by rw [IntKind.wrap_u64, n64]; omega
  clear hlk hrk hld hrd hk
  go_enter Tryd.func23, Tryd.ntmps23
  go_upto_region 1 with (fail)
  have hz : Blk (w.alloc (.cells (bs (List.replicate 16 0)).toArray 44)) w.heap.size 44 (bs (List.replicate 16 0)) := Blk.new _ _ _
  have hb1 := (Below.refl w.heap.size w).alloc (Nat.le_refl _) (.cells (bs (List.replicate 16 0)).toArray 44)
  have hs1 : (w.alloc (.cells (bs (List.replicate 16 0)).toArray 44)).heap.size = w.heap.size + 1 := World.size_alloc _ _
  generalize hw1 : (w.alloc (.cells (bs (List.replicate 16 0)).toArray 44)) = w1 at hz hb1 hs1
  refine hgoalC hw1 ?_
  clear hw1
  have HZ := Lib.hid hz
  have HB1 := Lib.hid hb1
  have HS1 := Lib.hid hs1
  clear hz hb1 hs1
  go_wp2_with fail
  refine (put8_any (n64 x) w1 (n64_lt x)).mono ?_
  rintro e w2 ⟨a2, c2, rfl, hown2, hb2⟩
  have HO2 := Lib.hid hown2
  have HB2 := Lib.hid (HB1.out.trans (hb2.mono (by have := HS1.out; omega)))
  have HZ2 := Lib.hid (HZ.out.below hb2)
  have HSZ2 := Lib.hid hb2.size
  have HRD2 : Hid (Rd w2 w.heap.size ad (bs data)) := Lib.hid (HRD.out.below HB2.out)
  have S1 : Hid ((bytesOf (n64 x) 8).length + nd ≤ 140737488355328) := Lib.hid (by rw [bytesOf_length]; omega)
  have HB12 := Lib.hid hb2
  clear hown2 hb2 hwr
  go_wp2_with (at_builtin; refine wpList_app rfl _ _ rfl w1.heap.size _ _ rfl HO2.out w.heap.size ad nd cd data rfl HLD.out HRD2.out S1.out HSZ2.out ?_)
  intro v3 w3 hown3 hgr3 hat3
  have hb13 := below_app HB12.out HO2.out (Nat.le_refl _) hgr3
  obtain ⟨a3, c3, rfl, hc3⟩ := OwnG.shape hown3
  obtain ⟨n3, hn3⟩ : ∃ n3, (bytesOf (n64 x) 8 ++ data).length = n3 := ⟨_, rfl⟩
  rw [hn3] at hown3 hc3 ⊢
  have hb3 : Below w.heap.size w w3 := HB1.out.trans (hb13.mono (by have := HS1.out; omega))
  have HC := Lib.hid (hmac_any key (bytesOf (n64 x) 8 ++ data) ak nk ck a3 n3 c3 w3 HLK.out hck (by omega) ((HRK.out.below hb3).more hb3.size) hn3 hc3 (by have := (OwnB.cap hown3).2.1; unfold maxLen at this; omega) (OwnB.rd hown3) (HK.out.below hb3))
  have HB3 := Lib.hid hb3
  have HZ3 : Hid (Blk w3 w.heap.size 44 (bs (List.replicate 16 0))) := Lib.hid (HZ.out.below hb13)
  clear hown3 hgr3 hat3 hb13 hb3 hc3 hn3 HZ HZ2 HB2 HO2 HRD2 HSZ2
  go_wp2_with fail
  refine HC.out.mono ?_
  rintro e w4 ⟨rfl, hb4⟩
  obtain ⟨D, hD⟩ : ∃ D, hmacL key (bytesOf (n64 x) 8 ++ data) = D := ⟨_, rfl⟩
  rw [hD]
  have hDl : D.length = 32 := by rw [← hD]; exact hmacL_length _ _
  obtain ⟨X, Z, hX, hinf, hone, hzz, hzs, w5, hw5, hB5, hb5, hs5⟩ := keep_digest w4 D hDl
  rw [hX]
  have hb35 := hb4.trans (hb5.mono hb4.size)
  have HBK := Lib.hid hB5
  have HB5 := Lib.hid (HB3.out.trans (hb35.mono HB3.out.size))
  have HZ5 := Lib.hid (HZ3.out.below hb35)
  have HD := Lib.hid hD
  have HDL := Lib.hid hDl
  clear hX hb4 hB5 hb5 hs5 hb35 hD hDl HC HZ3 HB3
  have harr := run_arrayAt (P := Tryd.prog) w5 44 5 16 (some ⟨w4.heap.size, 0, none⟩) 16 32 Tryd.underlying44 (Nat.le_refl _)
  have hTL : (D.take 16).length = 16 := by rw [List.length_take, HDL.out]; rfl
  obtain ⟨X6, Z6, hX6, hi6, hj6, ho6, hq6, hs6, hg6, hb6, hz6⟩ := store16 hTL (by simp) HZ5.out (Nat.le_refl _) HB5.out
  have hrange : w5.rangeAt w4.heap.size 0 X6 := fun j v hj => by
    rw [Nat.zero_add]
    refine HBK.out.cell j v ?_
    rw [← hX6, bs_take] at hj
    rw [List.getElem?_take] at hj
    split at hj
    · exact hj
    · cases hj
  have HX6 := Lib.hid hX6
  have HB6 := Lib.hid hb6
  clear hX6 hTL hb6 hz6
  go_wp2_with (first
    | refine wpList_store_row0 rfl 23 _ _ rfl rfl w4.heap.size X rfl rfl 23 Z hzz hinf hzs hone hw5 ?_
    | refine wpList_load_mid rfl 44 _ rfl w4.heap.size 0 rfl X6 _ hrange Tryd.underlying44 rfl hj6 ?_
    | refine wpList_store_row rfl 44 _ _ rfl w.heap.size X6.toArray rfl rfl 44 Z6 hq6 hi6 hs6 ho6 ?_)
  refine bodyPost_ret (results_cell_row rfl _ _ w.heap.size 44 X6.toArray (0, 0) _ rfl hg6 Tryd.underlying44 rfl hi6) rfl ?_
  exact ⟨by rw [← HX6.out, tagL, HD.out], HB6.out⟩
end Go.Proofs.YtlfchhnkchcjcaaDoor
