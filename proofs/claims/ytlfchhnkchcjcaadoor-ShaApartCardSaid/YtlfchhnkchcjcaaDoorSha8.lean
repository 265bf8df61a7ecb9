/- the live question of layer 2 -/
import Derived.Test.YtlfchhnkchcjcaaDoorSha7
namespace Go.Proofs.YtlfchhnkchcjcaaDoor
set_option linter.unusedVariables false
set_option linter.unusedSimpArgs false
open Go.RowKit

theorem alive_e : (shaL []).getD 0 0 = 0xe3 ∧ (shaL []).getD 1 0 = 0xb0 := by decide +kernel
theorem alive_abc : (shaL [97, 98, 99]).getD 0 0 = 0xba ∧ (shaL [97, 98, 99]).getD 31 0 = 0xad := by decide +kernel
theorem digest_at (l : List UInt8) (i : Nat) (hi : i < 32) (y : UInt8) (h : (shaL l).getD i 0 = y) : (bs (shaL l))[i]? = some (.int .u8 (y.toNat : Int)) := by
  have hl := shaL_length l
  rw [bs_get _ i (by omega)]
  rw [List.getD_eq_getElem?_getD, List.getElem?_eq_getElem (by omega)] at h
  rw [← h]; rfl

/-- A digest is kept in a new block. -/
theorem keep_digest (w : World) (L : List UInt8) (hL : L.length = 32) : ∃ X Z : Array Value, (bs L).toArray = X ∧ (Tryd.prog.info? 23).map (·.size) = some X.size ∧ X.all (·.oneCell') = true ∧
    (w.alloc (.cells (bs (List.replicate 32 0)).toArray 23)).heap[w.heap.size]? = some (.cells Z 23 (0, 0)) ∧ Z.size = X.size ∧
    ∃ w', (w.alloc (.cells (bs (List.replicate 32 0)).toArray 23)).setRow w.heap.size X = w' ∧ Blk w' w.heap.size 23 (bs L) ∧ Below w.heap.size w w' ∧ w'.heap.size = w.heap.size + 1 := by
  obtain ⟨X, Z, hX, hinf, hone, hzz, hzs, hg4, hb5⟩ := store_digest (B := w.heap.size) (w := w) hL (old := List.replicate 32 0) (by simp) (Blk.new w 23 (bs (List.replicate 32 0))) (Nat.le_refl _) ((Below.refl w.heap.size w).alloc (Nat.le_refl _) _)
  exact ⟨X, Z, hX, hinf, hone, hzz, hzs, _, rfl, by rw [← hX] at hg4 ⊢; exact hg4, hb5, by rw [setRow_size, World.size_alloc]⟩

theorem hgoalL {X Y : World} {P : Program} {ops : Array Oper} {Q : Exit → Act → World → Prop} {l : List Oper} {a : Act} (e : X = Y) (h : wpList P ops Q l a Y) : wpList P ops Q l a X := e ▸ h

theorem bs_ints (l : List UInt8) : bs l = (l.map fun x => (x.toNat : Int)).map (Value.int .u8) := by simp [bs, B]
theorem ints_beq (l m : List UInt8) : (l.map (fun x => (x.toNat : Int)) == m.map fun x => (x.toNat : Int)) = (l == m) := by
  by_cases h : l = m
  · subst h; simp
  · have : ¬ (l.map (fun x => (x.toNat : Int)) = m.map fun x => (x.toNat : Int)) := fun e => h (bs_inj (by rw [bs_ints, bs_ints, e]))
    rw [beq_eq_false_iff_ne.2 h, beq_eq_false_iff_ne.2 this]
theorem eq_digest (l m : List UInt8) (hl : l.length = 32) (hm : m.length = 32) {X Y : Array Value} (hX : (bs l).toArray = X) (hY : (bs m).toArray = Y) (W : World) :
    (Op.equalIn 10000 23 (.agg X) (.agg Y)).run Tryd.prog W = .ok (l == m) W := by
  rw [← hX, ← hY, bs_ints, bs_ints, ← ints_beq]
  exact run_equalIn_ints 9998 23 32 5 .u8 .u8 Tryd.underlying23 Tryd.underlying5 (fun _ => by kernel_rfl) (fun _ => by kernel_rfl) _ _ (by simp [hl]) (by simp [hm]) W

theorem shalive_any (w : World) (hk : KOK w) : Calls Tryd.prog 14 #[] w fun e w' => e = .returned (.bool true) ∧ Below w.heap.size w w' := by
  have HK := Lib.hid hk
  have kc := fun (w : World) (C : Array Value) (n c : Nat) => Lib.run_convert_bytes_const (P := Tryd.prog) w 22 5 C n c Tryd.underlying22 Tryd.underlying5
  clear hk
  go_enter Tryd.func14, Tryd.ntmps14
  go_wp2_with fail
  refine (sum_any [] none 0 0 w rfl (Nat.le_refl _) (by omega) .nil HK.out).mono ?_
  rintro e w1 ⟨rfl, hb1⟩
  obtain ⟨X1, Z1, hX1, hinf1, hone1, hzz1, hzs1, w2, hw2, hB2, hb2, hs2⟩ := keep_digest w1 (shaL []) (shaL_length _)
  rw [hX1]
  have HB1 := Lib.hid hb1
  have HB2 := Lib.hid hB2
  have HBB2 := Lib.hid (hb1.trans (hb2.mono hb1.size))
  have HS2 := Lib.hid hs2
  have HRC : Hid (Rd (w2.alloc (.cells #[Value.int .u8 97, Value.int .u8 98, Value.int .u8 99] 5 (3, 4))) (w2.alloc (.cells #[Value.int .u8 97, Value.int .u8 98, Value.int .u8 99] 5 (3, 4))).heap.size (some ⟨w2.heap.size, 0, none⟩) (bs [97, 98, 99])) := Lib.hid (OwnB.const w2 [97, 98, 99] 3 (by decide) (by decide)).rd
  have HKC : Hid (KOK (w2.alloc (.cells #[Value.int .u8 97, Value.int .u8 98, Value.int .u8 99] 5 (3, 4)))) := Lib.hid ((HK.out.below HBB2.out).below ((Below.refl _ _).alloc (Nat.le_refl _) _))
  clear hX1 hb1 hB2 hb2 hs2
  go_wp2_with (refine wpList_store_row rfl 23 _ _ rfl w1.heap.size X1 rfl rfl 23 Z1 hzz1 hinf1 hzs1 hone1 (hgoalL hw2 ?_))
  refine (sum_any [97, 98, 99] (some ⟨w2.heap.size, 0, none⟩) 3 3 _ rfl (Nat.le_refl _) (by omega) HRC.out HKC.out).mono ?_
  rintro e w4 ⟨rfl, hb4⟩
  obtain ⟨X2, Z2, hX2, hinf2, hone2, hzz2, hzs2, w5, hw5, hB5, hb5, hs5⟩ := keep_digest w4 (shaL [97, 98, 99]) (shaL_length _)
  rw [hX2]
  have hb24 : Below w2.heap.size w2 w4 := ((Below.refl w2.heap.size w2).alloc (Nat.le_refl _) (.cells #[Value.int .u8 97, Value.int .u8 98, Value.int .u8 99] 5 (3, 4))).trans (hb4.mono (by rw [World.size_alloc]; omega))
  have hb25 := hb24.trans (hb5.mono hb24.size)
  have c1 := (HB2.out.below hb25).cell 0 _ (digest_at [] 0 (by omega) _ alive_e.1)
  have c2 := (HB2.out.below hb25).cell 1 _ (digest_at [] 1 (by omega) _ alive_e.2)
  have c3 := hB5.cell 0 _ (digest_at [97, 98, 99] 0 (by omega) _ alive_abc.1)
  have c4 := hB5.cell 31 _ (digest_at [97, 98, 99] 31 (by omega) _ alive_abc.2)
  have HBB5 := Lib.hid (HBB2.out.trans (hb25.mono HBB2.out.size))
  clear hX2 hb4 hb5 hs5 hb24 hb25 hB5 kc
  go_wp2_with (refine wpList_store_row rfl 23 _ _ rfl w4.heap.size X2 rfl rfl 23 Z2 hzz2 hinf2 hzs2 hone2 (hgoalL hw5 ?_))
  go_ret
  exact ⟨rfl, HBB5.out⟩
end Go.Proofs.YtlfchhnkchcjcaaDoor
