/- the document's wire: a header -/
import Derived.Test.YtnpcpbjoonjaoaaRW1
import Derived.Test.YtnpcpbjoonjaoaaTakeH
import Derived.StillTailTactics
namespace Go.Proofs.Ytnpcpbjoonjaoaa
set_option linter.unusedVariables false
set_option linter.unusedSimpArgs false
open Go.RowKit

/-- A header's five cells, empty. -/
structure Blk5 (w : World) (g : Nat) : Prop where
  k0 : w.cell? ⟨g, 0, none⟩ = some (.int .i64 0)
  k1 : w.cell? ⟨g, 1, none⟩ = some (.int .i64 0)
  k2 : w.cell? ⟨g, 2, none⟩ = some (.int .u64 0)
  k3 : w.cell? ⟨g, 3, none⟩ = some (.int .u64 0)
  k4 : w.cell? ⟨g, 4, none⟩ = some (.int .i64 0)
  f0 : w.frozen? ⟨g, 0, none⟩ = false
  f1 : w.frozen? ⟨g, 1, none⟩ = false
  f2 : w.frozen? ⟨g, 2, none⟩ = false
  f3 : w.frozen? ⟨g, 3, none⟩ = false
  f4 : w.frozen? ⟨g, 4, none⟩ = false
theorem Blk5.below {w w' : World} {B g : Nat} (h : Blk5 w g) (hb : Below B w w') (hg : g < B) : Blk5 w' g :=
  ⟨(hb.cell (by exact hg)).trans h.k0, (hb.cell (by exact hg)).trans h.k1, (hb.cell (by exact hg)).trans h.k2, (hb.cell (by exact hg)).trans h.k3, (hb.cell (by exact hg)).trans h.k4, (hb.frozen (by exact hg)).trans h.f0, (hb.frozen (by exact hg)).trans h.f1, (hb.frozen (by exact hg)).trans h.f2, (hb.frozen (by exact hg)).trans h.f3, (hb.frozen (by exact hg)).trans h.f4⟩

/-- number, of bytes further on. -/
theorem rnum_still (bb ob m cap n k : Nat) (nI : Int) (hI : nI = (n : Int)) (l : List UInt8) (w : World) {v : Nat} (hv : numOf ((l.drop k).take n) = v) (hm : l.length - k = m) (hn : n ≤ m) (h8 : n ≤ 8) {Bd : Nat} (hr : Rd w Bd (some ⟨bb, ob, none⟩) (bs l)) :
    Calls Try.prog 48 #[.slice (some ⟨bb, ob + k, none⟩) m cap, .int .i64 nI] w fun e w' => e = .returned (.int .u64 (v : Int)) ∧ w' = w := by
  subst hI
  refine (rnum_any (some ⟨bb, ob + k, none⟩) m cap n (l.drop k) w (by rw [List.length_drop]; exact hm) hn h8 (by have h := hr.drop k; rw [← bs_drop, Option.map_some, Addr.add_lit] at h; exact h)).mono ?_
  rintro e w' ⟨rfl, rfl⟩
  exact ⟨by rw [hv], rfl⟩

set_option maxRecDepth 100000 in
set_option maxHeartbeats 2000000 in
theorem rtakeHdr_any (a : Option Addr) (n c : Nat) (b : List UInt8) (w : World) (hn : b.length = n) (hc : n ≤ c) (hc2 : c ≤ 9223372036854775807) (hr : Rd w w.heap.size a (bs b)) :
    Calls Try.prog 30 #[.slice a n c] w (HdrPost (hdrR b) w) := by
  subst hn
  have HR := Lib.hid hr
  clear hr
  have HA := Lib.hid (rbegins_any a b.length c b ⟨#[37, 96, 149, 19]⟩ (w.alloc (.cells #[.int .i64 0, .int .i64 0, .int .u64 0, .int .u64 0, .int .i64 0] 41)) rfl (by decide) ((HR.out.alloc (Nat.le_refl _) _).more (by rw [World.size_alloc]; omega)))
  have hB0 := (Below.refl w.heap.size w).alloc (Nat.le_refl _) (.cells #[.int .i64 0, .int .i64 0, .int .u64 0, .int .u64 0, .int .i64 0] 41)
  have hK0 : Blk5 (w.alloc (.cells #[.int .i64 0, .int .i64 0, .int .u64 0, .int .u64 0, .int .i64 0] 41)) w.heap.size := by
    refine ⟨?_, ?_, ?_, ?_, ?_, ?_, ?_, ?_, ?_, ?_⟩ <;> go_simp
  have hs0 : (w.alloc (.cells #[.int .i64 0, .int .i64 0, .int .u64 0, .int .u64 0, .int .i64 0] 41)).heap.size = w.heap.size + 1 := World.size_alloc _ _
  have HK0 := Lib.hid hK0
  have HS0 := Lib.hid hs0
  clear hK0 hs0
  go_enter Try.func30, Try.ntmps30
  go_wp2_with fail
  refine HA.out.mono ?_
  rintro e w1 ⟨rfl, hb1⟩
  rw [HS0.out] at hb1
  have hk1 := HK0.out.below hb1 (by omega)
  have HB1 := Lib.hid (hB0.trans (hb1.mono (by omega)))
  have HK1 := Lib.hid hk1
  obtain ⟨k0, k1, k2, k3, k4, f0, f1, f2, f3, f4⟩ := hk1
  clear HA hB0 hb1 HK0 HS0
  cases hb : beginsB b magicH with
  | false =>
    have HF : Hid (hdrR b = (⟨0, 0, 0, 0, 0⟩, 0, 201)) := Lib.hid (by rw [hdrR, if_pos hb])
    have hb' : beginsB b [37, 96, 149, 19] = false := hb
    rw [hb']
    clear hb hb'
    go_wp2_with fail
    refine bodyPost_ret (v := .tuple #[.agg #[.int .i64 0, .int .i64 0, .int .u64 0, .int .u64 0, .int .i64 0], .int .i64 0, .int .i64 201]) (by simp [results, Try.results30, go_sem, k0, k1, k2, k3, k4]) rfl ?_
    rw [HF.out]
    exact ⟨rfl, by first | exact HB1.out | exact (((((HB1.out.setCell (by simp) _).setCell (by simp) _).setCell (by simp) _).setCell (by simp) _).setCell (by simp) _)⟩
  | true =>
    have hb' : beginsB b [37, 96, 149, 19] = true := hb
    rw [hb']
    clear hb'
    by_cases h28 : b.length < 28
    · have HF : Hid (hdrR b = (⟨0, 0, 0, 0, 0⟩, 0, 0)) := Lib.hid (by rw [hdrR, if_neg (by rw [hb]; simp), if_pos h28])
      have h28' : (b.length : Int) < 28 := by omega
      clear hb
      go_wp2_with fail
      refine bodyPost_ret (v := .tuple #[.agg #[.int .i64 0, .int .i64 0, .int .u64 0, .int .u64 0, .int .i64 0], .int .i64 0, .int .i64 0]) (by simp [results, Try.results30, go_sem, k0, k1, k2, k3, k4]) rfl ?_
      rw [HF.out]
      exact ⟨rfl, by first | exact HB1.out | exact (((((HB1.out.setCell (by simp) _).setCell (by simp) _).setCell (by simp) _).setCell (by simp) _).setCell (by simp) _)⟩
    · have h28' : ¬ (b.length : Int) < 28 := by omega
      obtain ⟨v0, hv0⟩ : ∃ v, numOf ((b.drop 4).take 2) = v := ⟨_, rfl⟩
      obtain ⟨v1, hv1⟩ : ∃ v, numOf ((b.drop 6).take 2) = v := ⟨_, rfl⟩
      obtain ⟨v2, hv2⟩ : ∃ v, numOf ((b.drop 8).take 8) = v := ⟨_, rfl⟩
      obtain ⟨v3, hv3⟩ : ∃ v, numOf ((b.drop 16).take 8) = v := ⟨_, rfl⟩
      obtain ⟨v4, hv4⟩ : ∃ v, numOf ((b.drop 24).take 4) = v := ⟨_, rfl⟩
      have HF : Hid (hdrR b = (⟨v0, v1, v2, v3, v4⟩, 28, 0)) := Lib.hid (by rw [hdrR, if_neg (by rw [hb]; simp), if_neg h28, hv0, hv1, hv2, hv3, hv4])
      have b0 := num2_lt (b.drop 4)
      rw [hv0] at b0
      have b1 := num2_lt (b.drop 6)
      rw [hv1] at b1
      have b4 := num4_lt (b.drop 24)
      rw [hv4] at b4
      have x0 : IntKind.i64.wrap (v0 : Int) = (v0 : Int) := IntWalk.i64_in _ (by omega)
      have x1 : IntKind.i64.wrap (v1 : Int) = (v1 : Int) := IntWalk.i64_in _ (by omega)
      have x4 : IntKind.i64.wrap (v4 : Int) = (v4 : Int) := IntWalk.i64_in _ (by omega)
      have n4 : ¬ c = 4 := by omega
      have n6 : ¬ c = 6 := by omega
      have n8 : ¬ c = 8 := by omega
      have n16 : ¬ c = 16 := by omega
      have n24 : ¬ c = 24 := by omega
      have m4 : (4 : Int) ≤ (b.length : Int) := by omega
      have m6 : (6 : Int) ≤ (b.length : Int) := by omega
      have m8 : (8 : Int) ≤ (b.length : Int) := by omega
      have m16 : (16 : Int) ≤ (b.length : Int) := by omega
      have m24 : (24 : Int) ≤ (b.length : Int) := by omega
      obtain ⟨bb, ob, rfl, hbb, _⟩ := HR.out.byte 0 (by omega)
      have C0 := Lib.hid (rnum_still bb ob (b.length - 4) (c - 4) 2 4 2 rfl b w1.drew hv0 rfl (by omega) (by omega) (HR.out.below HB1.out).drew)
      have C1 := Lib.hid (rnum_still bb ob (b.length - 6) (c - 6) 2 6 2 rfl b w1.drew hv1 rfl (by omega) (by omega) (HR.out.below HB1.out).drew)
      have C2 := Lib.hid (rnum_still bb ob (b.length - 8) (c - 8) 8 8 8 rfl b w1.drew hv2 rfl (by omega) (by omega) (HR.out.below HB1.out).drew)
      have C3 := Lib.hid (rnum_still bb ob (b.length - 16) (c - 16) 8 16 8 rfl b w1.drew hv3 rfl (by omega) (by omega) (HR.out.below HB1.out).drew)
      have C4 := Lib.hid (rnum_still bb ob (b.length - 24) (c - 24) 4 24 4 rfl b w1.drew hv4 rfl (by omega) (by omega) (HR.out.below HB1.out).drew)
      clear hb hv0 hv1 hv2 hv3 hv4 b0 b1 b4
      go_upto_region 6 with (fail)
      refine wp_region_still_tail 19 (by kernel_rfl) (by kernel_rfl) ?_
      simp only [List.take_succ_cons, List.take_zero, List.drop_succ_cons, List.drop_zero]
      repeat still_step
      still_call C0.out
      repeat still_step
      still_call C1.out
      repeat still_step
      still_call C2.out
      repeat still_step
      still_call C3.out
      repeat still_step
      still_call C4.out
      repeat still_step
      refine wpStill_nil ?_
      change wpList _ _ _ _ _ w1.drew
      go_wp2_with fail
      refine bodyPost_ret (v := .tuple #[(Hdr.mk v0 v1 v2 v3 v4).val, .int .i64 ((28 : Nat) : Int), .int .i64 0]) (by simp [results, Try.results30, go_sem, k0, k1, k2, k3, k4, Hdr.val]) rfl ?_
      rw [HF.out]
      exact ⟨rfl, (((((HB1.out.drew.setCell (by simp) _).setCell (by simp) _).setCell (by simp) _).setCell (by simp) _).setCell (by simp) _)⟩
end Go.Proofs.Ytnpcpbjoonjaoaa
