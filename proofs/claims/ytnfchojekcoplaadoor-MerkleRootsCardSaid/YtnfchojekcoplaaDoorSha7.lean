/- sha: Sum of bytes, no hash, the live question -/
import Derived.Test.YtnfchojekcoplaaDoorSha6
namespace Go.Proofs.YtnfchojekcoplaaDoor
set_option linter.unusedVariables false
set_option linter.unusedSimpArgs false
open Go.RowKit

/-- What lies below stays, when only new blocks are turned. -/
theorem But2.fresh {w w1 w2 : World} {B g : Nat} {r : Option Nat} (h : But2 w1 w2 g r) (hb : Below B w w1) (hB : B ≤ w.heap.size) (hg : B ≤ g) (hr : ∀ x, r = some x → B ≤ x) : Below B w w2 := by
  have hs := hb.size
  exact ⟨h.os.trans hb.os, h.tape.trans hb.tape, h.output.trans hb.output, Nat.le_trans hs h.size, fun k hk => (h.block k (by omega) (by omega) (fun e => by have := hr k e.symm; omega)).trans (hb.block k hk)⟩

/-- A digest is stored in the result's cell. -/
theorem store_digest {w wo : World} {B g : Nat} {L : List UInt8} (hL : L.length = 32) {old : List UInt8} (ho : old.length = 32) (q : Blk wo g 24 (bs old)) (hg : B ≤ g) (hb : Below B w wo) :
    ∃ X Z : Array Value, (bs L).toArray = X ∧ (Tryd.prog.info? 24).map (·.size) = some X.size ∧ X.all (·.oneCell') = true ∧ wo.heap[g]? = some (.cells Z 24 (0, 0)) ∧ Z.size = X.size ∧
      (wo.setRow g X).heap[g]? = some (.cells X 24 (0, 0)) ∧ Below B w (wo.setRow g X) := by
  have hXs : (bs L).toArray.size = 32 := by simp [bs_length, hL]
  refine ⟨_, (bs old).toArray, rfl, by rw [hXs]; kernel_rfl, ?_, q, by simp [bs_length, hL, ho], setRow_heap wo g _ _ _ (0, 0) q, ⟨hb.os, hb.tape, hb.output, by rw [setRow_size]; exact hb.size, fun k hk => (setRow_other wo g k _ (by omega)).trans (hb.block k hk)⟩⟩
  rw [Array.all_eq_true_iff_forall_mem]
  intro v hv
  exact bs_one L v (by simpa using hv)

theorem sum_any (b : List UInt8) (a : Option Addr) (n c : Nat) (w : World) (hl : b.length = n) (hc : n ≤ c) (hc2 : c ≤ 9223372036854775807) (hr : Rd w w.heap.size a (bs b)) (hk : KOK w) :
    Calls Tryd.prog 18 #[.slice a n c] w fun e w' => e = .returned (.agg (bs (shaL b)).toArray) ∧ Below w.heap.size w w' := by
  have HR := Lib.hid hr
  have HK := Lib.hid hk
  clear hr hk
  go_enter Tryd.func18, Tryd.ntmps18
  go_upto_region 1 with (fail)
  have hz : Blk (w.alloc (.cells (bs (List.replicate 32 0)).toArray 24)) w.heap.size 24 (bs (List.replicate 32 0)) := Blk.new _ _ _
  have hb1 := (Below.refl w.heap.size w).alloc (Nat.le_refl _) (.cells (bs (List.replicate 32 0)).toArray 24)
  have hs1 : (w.alloc (.cells (bs (List.replicate 32 0)).toArray 24)).heap.size = w.heap.size + 1 := World.size_alloc _ _
  have hgoal : ∀ {X Y : World} {C : Code} {a : Act} {Q : Exit → Act → World → Prop}, X = Y → Code.wp Tryd.prog C Q a Y → Code.wp Tryd.prog C Q a X := fun e h => e ▸ h
  generalize hw1 : (w.alloc (.cells (bs (List.replicate 32 0)).toArray 24)) = w1 at hz hb1 hs1
  refine hgoal hw1 ?_
  clear hgoal hw1
  have HZ := Lib.hid hz
  have HB1 := Lib.hid hb1
  have HS1 := Lib.hid hs1
  clear hz hb1 hs1
  go_wp2_with fail
  refine (new_any w1).mono ?_
  rintro e w2 ⟨rfl, hH, hb2, hs2⟩
  have hb02 : Below w.heap.size w w2 := HB1.out.trans (hb2.mono (by have := HS1.out; omega))
  have hz2 := HZ.out.below hb2
  have hk2 := (HK.out.below HB1.out).below hb2
  have hr2 : Rd w2 w2.heap.size a (bs b) := (HR.out.below hb02).more hb02.size
  have hsep : Sep w1.heap.size none a b := by
    rcases HR.out with h | ⟨q, off, ha, hq, _⟩
    · exact .inl (bs_inj (h.trans rfl))
    · refine .inr fun ad had => ?_
      rw [ha] at had
      injection had with had
      subst had
      exact ⟨by show q ≠ w1.heap.size; have := HS1.out; omega, by simp⟩
  have HW := Lib.hid (write_any w1.heap.size none 0 [] b a n c w2 hH (Nat.zero_le _) hl hc hc2 hr2 hsep hk2)
  have HZ2 := Lib.hid hz2
  have HB2 := Lib.hid hb02
  have HK2 := Lib.hid hk2
  have HS2 := Lib.hid hs2
  clear hH hb2 hs2 hb02 hz2 hk2 hr2 hsep
  go_wp2_with fail
  refine HW.out.mono ?_
  rintro e w3 ⟨rfl, ⟨r3, hH3, hr3⟩, hbut⟩
  have h1 := HS1.out
  have h2 := HS2.out
  have hb3 : Below w.heap.size w w3 := hbut.fresh HB2.out (Nat.le_refl _) (by omega) (fun x h => by cases h)
  have hz3 : Blk w3 w.heap.size 24 (bs (List.replicate 32 0)) := HZ2.out.keep (hbut.block _ (by omega) (by omega) (by simp))
  have hk3 : KOK w3 := hbut.kok HK2.out (by have := lt_of_heap HK.out; omega) (by simp)
  have HU := Lib.hid (hsum_any w1.heap.size r3 0 ([] ++ b) w3 hH3 hk3)
  have HB3 := Lib.hid hb3
  have HZ3 := Lib.hid hz3
  clear hH3 hr3 hbut hb3 hz3 hk3 h1 h2
  go_wp2_with fail
  refine HU.out.mono ?_
  rintro e w4 ⟨rfl, hb4⟩
  rw [List.nil_append] at *
  obtain ⟨X, Z, hX, hinf, hone, hzz, hzs, hg4, hb5⟩ := store_digest (shaL_length b) (by simp) (HZ3.out.below hb4) (Nat.le_refl _) (HB3.out.trans (hb4.mono HB3.out.size))
  rw [hX]
  have HX := Lib.hid hX
  have HB5 := Lib.hid hb5
  clear hX hb5 hb4
  go_wp2_with (refine wpList_store_row rfl 24 _ _ rfl w.heap.size X rfl rfl 24 Z hzz hinf hzs hone ?_)
  refine bodyPost_ret (results_cell_row rfl _ _ w.heap.size 24 X (0, 0) _ rfl hg4 Tryd.underlying24 rfl hinf) rfl ?_
  exact ⟨by rw [HX.out], HB5.out⟩

theorem write_nil (ab : Option Addr) (nb cb : Nat) (w : World) : Calls Tryd.prog 26 #[.pointer none, .slice ab nb cb] w fun e w' => e = .returned (.tuple #[]) ∧ w' = w := by
  go_enter Tryd.func26, Tryd.ntmps26
  go_wp2_with fail
  refine bodyPost_ret (results_none rfl _ _ _) rfl ?_
  exact ⟨rfl, rfl⟩

theorem hsum_nil (w : World) : Calls Tryd.prog 27 #[.pointer none] w fun e w' => e = .returned (.agg (bs (List.replicate 32 0)).toArray) ∧ Below w.heap.size w w' := by
  go_enter Tryd.func27, Tryd.ntmps27
  go_upto_region 1 with (fail)
  have hz : Blk (w.alloc (.cells (bs (List.replicate 32 0)).toArray 24)) w.heap.size 24 (bs (List.replicate 32 0)) := Blk.new _ _ _
  have hb1 := (Below.refl w.heap.size w).alloc (Nat.le_refl _) (.cells (bs (List.replicate 32 0)).toArray 24)
  have hgoal : ∀ {X Y : World} {C : Code} {a : Act} {Q : Exit → Act → World → Prop}, X = Y → Code.wp Tryd.prog C Q a Y → Code.wp Tryd.prog C Q a X := fun e h => e ▸ h
  generalize hw1 : (w.alloc (.cells (bs (List.replicate 32 0)).toArray 24)) = w1 at hz hb1
  refine hgoal hw1 ?_
  clear hgoal hw1
  obtain ⟨X, Z, hX, hinf, hone, hzz, hzs, hg4, hb5⟩ := store_digest (L := List.replicate 32 0) (by simp) (by simp) hz (Nat.le_refl _) hb1
  have hbuild : (Tryd.prog.built 24 []) = some X := by rw [← hX]; kernel_rfl
  go_wp2_with (first
    | refine wpList_build rfl 24 _ rfl (by show (Tryd.prog.built 24 []).isSome = true; rw [hbuild]; rfl) ?_
    | refine wpList_store_row rfl 24 _ _ rfl w.heap.size X rfl (by show Value.agg ((Tryd.prog.built 24 []).getD #[]) = _; rw [hbuild]; rfl) 24 Z hzz hinf hzs hone ?_)
  refine bodyPost_ret (results_cell_row rfl _ _ w.heap.size 24 X (0, 0) _ rfl hg4 Tryd.underlying24 rfl hinf) rfl ?_
  exact ⟨by rw [hX], hb5⟩
end Go.Proofs.YtnfchojekcoplaaDoor
