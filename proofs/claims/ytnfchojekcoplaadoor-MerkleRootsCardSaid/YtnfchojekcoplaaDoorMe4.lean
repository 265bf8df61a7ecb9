/- merkle.Build's refusals; the document's hash -/
import Derived.Test.YtnfchojekcoplaaDoorMe3
import Derived.Test.YtnfchojekcoplaaDoorRf5
import Derived.Test.YtnfchojekcoplaaDoorSame
namespace Go.Proofs.YtnfchojekcoplaaDoor
set_option linter.unusedVariables false
set_option linter.unusedSimpArgs false
open Go Go.RowKit

def noDig : Array Value := (bs (List.replicate 32 0)).toArray

theorem mbuild_no (d : List UInt8) (ad : Option Addr) (nd cd : Nat) (w : World) (hl : d.length = nd) (hc2 : nd ≤ 140737488355328) (hok : ¬ okB d) :
    Calls Tryd.prog 10 #[.slice ad nd cd] w fun e w' => e = .returned (.tuple #[.slice none 0 0, .agg noDig, .int .i64 1]) ∧ Below w.heap.size w w' := by
  obtain ⟨n, hn⟩ : ∃ n, nd / 64 = n := ⟨_, rfl⟩
  obtain ⟨r, hr⟩ : ∃ r, nd % 64 = r := ⟨_, rfl⟩
  have q1 : (nd : Int) / 64 = (n : Int) := by omega
  have q2 : (nd : Int) % 64 = (r : Int) := by omega
  have hno : r ≠ 0 ∨ n < 1 ∨ 2048 < n := by
    unfold okB at hok
    rw [hl, hn, hr] at hok
    omega
  have hnb : n ≤ 140737488355328 := by omega
  have hrb : r < 64 := by omega
  go_enter Tryd.func10, Tryd.ntmps10
  go_upto_region 1 with (fail)
  have hz : Blk (w.alloc (.cells (bs (List.replicate 32 0)).toArray 24)) w.heap.size 24 (bs (List.replicate 32 0)) := Blk.new _ _ _
  have hb1 := (Below.refl w.heap.size w).alloc (Nat.le_refl _) (.cells (bs (List.replicate 32 0)).toArray 24)
  generalize hw1 : (w.alloc (.cells (bs (List.replicate 32 0)).toArray 24)) = w1 at hz hb1
  refine hgoalR hw1 ?_
  clear hw1
  obtain ⟨X, Z, hX, hinf, hone, hzz, hzs, hg4, hb5⟩ := store_digest (L := List.replicate 32 0) (by simp) (by simp) hz (Nat.le_refl _) hb1
  have hX' : (bs (List.replicate 32 0)).toArray = #[.int .u8 0, .int .u8 0, .int .u8 0, .int .u8 0, .int .u8 0, .int .u8 0, .int .u8 0, .int .u8 0, .int .u8 0, .int .u8 0, .int .u8 0, .int .u8 0, .int .u8 0, .int .u8 0, .int .u8 0, .int .u8 0, .int .u8 0, .int .u8 0, .int .u8 0, .int .u8 0, .int .u8 0, .int .u8 0, .int .u8 0, .int .u8 0, .int .u8 0, .int .u8 0, .int .u8 0, .int .u8 0, .int .u8 0, .int .u8 0, .int .u8 0, .int .u8 0] := rfl
  obtain ⟨ws, hws⟩ : ∃ ws, w1.setRow w.heap.size X = ws := ⟨_, rfl⟩
  rw [hws] at hg4 hb5
  have HX := Lib.hid hX
  have HG := Lib.hid hg4
  have HB := Lib.hid hb5
  rw [hX'] at hX
  clear hX' hg4 hb5 hz hb1
  by_cases c1 : r = 0
  · subst c1
    by_cases c2 : n < 1
    · have c2' : (n : Int) < 1 := by omega
      go_wp2_with (refine wpList_store_row0 rfl 24 _ _ rfl rfl w.heap.size X rfl (by rw [← hX]; rfl) 24 Z hzz hinf hzs hone hws ?_)
      refine bodyPost_ret (results_tct rfl _ _ w.heap.size _ X (0, 0) _ rfl HG.out Tryd.underlying24 rfl hinf) rfl ?_
      exact ⟨by rw [← HX.out]; rfl, HB.out⟩
    · have c2' : ¬ ((n : Int) < 1) := by omega
      have c3 : (2048 : Int) < (n : Int) := by omega
      go_wp2_with (refine wpList_store_row0 rfl 24 _ _ rfl rfl w.heap.size X rfl (by rw [← hX]; rfl) 24 Z hzz hinf hzs hone hws ?_)
      refine bodyPost_ret (results_tct rfl _ _ w.heap.size _ X (0, 0) _ rfl HG.out Tryd.underlying24 rfl hinf) rfl ?_
      exact ⟨by rw [← HX.out]; rfl, HB.out⟩
  · have c1' : ¬ ((r : Int) = 0) := by omega
    go_wp2_with (refine wpList_store_row0 rfl 24 _ _ rfl rfl w.heap.size X rfl (by rw [← hX]; rfl) 24 Z hzz hinf hzs hone hws ?_)
    refine bodyPost_ret (results_tct rfl _ _ w.heap.size _ X (0, 0) _ rfl HG.out Tryd.underlying24 rfl hinf) rfl ?_
    exact ⟨by rw [← HX.out]; rfl, HB.out⟩

set_option maxRecDepth 16000 in
theorem rhash_any (kind : UInt8) (b : List UInt8) (a : Option Addr) (c : Nat) (w : World) (hl : b.length = 64) (hr : Rd w w.heap.size a (bs b)) :
    Calls Tryd.prog 22 #[.int .u8 (kind.toNat : Int), .slice a 64 c] w fun e w' => e = .returned (.agg (bs (hashL kind b)).toArray) ∧ Below w.heap.size w w' := by
  have HR := Lib.hid hr
  clear hr
  go_enter Tryd.func22, Tryd.ntmps22
  go_upto_region 1 with (fail)
  have hz : Blk (w.alloc (.cells (bs (List.replicate 32 0)).toArray 24)) w.heap.size 24 (bs (List.replicate 32 0)) := Blk.new _ _ _
  have hb1 := (Below.refl w.heap.size w).alloc (Nat.le_refl _) (.cells (bs (List.replicate 32 0)).toArray 24)
  have hs1 : (w.alloc (.cells (bs (List.replicate 32 0)).toArray 24)).heap.size = w.heap.size + 1 := World.size_alloc _ _
  generalize hw1 : (w.alloc (.cells (bs (List.replicate 32 0)).toArray 24)) = w1 at hz hb1 hs1
  refine hgoalR hw1 ?_
  clear hw1
  have HR1 := Lib.hid ((HR.out.below hb1).more hb1.size)
  have HZ := Lib.hid hz
  have HB1 := Lib.hid hb1
  have HS1 := Lib.hid hs1
  clear hz hb1 hs1
  have KO : Hid (OwnB (w1.alloc (.cells #[.int .u8 (kind.toNat : Int)] 5)) w1.heap.size (.slice (some ⟨w1.heap.size, 0, none⟩) 1 1) [kind]) := Lib.hid (OwnB.lit w1 [kind] (by simp))
  go_wp2_with (refine wpList_app rfl _ _ rfl w1.heap.size _ [kind] rfl KO.out w1.heap.size a 64 c b rfl hl (HR1.out.alloc (Nat.le_refl _) _) (by simp) (by rw [World.size_alloc]; omega) ?_; intro v' w2 ho2 hg2 hv2; obtain ⟨a2, c2, rfl, hc2⟩ := OwnB.shape ho2)
  have hg2' : (w1.alloc (.cells #[.int .u8 (kind.toNat : Int)] 5)).grownBy w2 (some w1.heap.size) := hg2
  have hb12 : Below w1.heap.size w1 w2 := ((Below.refl _ w1).alloc (Nat.le_refl _) _).trans (below_grown hg2' (by rw [World.size_alloc]; omega) (fun q hq => by cases hq; exact Nat.le_refl _))
  refine (rsum_any ([kind] ++ b) a2 65 c2 w2 (by simp [hl]) (by omega) ho2.rd).mono ?_
  rintro e w3 ⟨rfl, hb3⟩
  have hb13 : Below w1.heap.size w1 w3 := hb12.trans (hb3.mono hb12.size)
  obtain ⟨X, Z, hX, hinf, hone, hzz, hzs, hg4, hb5⟩ := store_digest (shaL_length ([kind] ++ b)) (by simp) (HZ.out.below hb13) (Nat.le_refl _) (HB1.out.trans (hb13.mono HB1.out.size))
  rw [hX]
  have HX := Lib.hid hX
  have HB5 := Lib.hid hb5
  clear hX hb5 hb3 hb12 hb13 hg2 hg2' hv2 ho2
  go_wp2_with (refine wpList_store_row rfl 24 _ _ rfl w.heap.size X rfl rfl 24 Z hzz hinf hzs hone ?_)
  refine bodyPost_ret (results_cell_row rfl _ _ w.heap.size 24 X (0, 0) _ rfl hg4 Tryd.underlying24 rfl hinf) rfl ?_
  exact ⟨by rw [← HX.out]; rfl, HB5.out⟩
end Go.Proofs.YtnfchojekcoplaaDoor
