/- the two trees, whatever the bytes -/
import Derived.Test.YtnfchojekcoplaaDoorMe10
namespace Go.Proofs.YtnfchojekcoplaaDoor
set_option linter.unusedVariables false
set_option linter.unusedSimpArgs false
open Go Go.RowKit

theorem rbuild_no (d : List UInt8) (ad : Option Addr) (nd cd : Nat) (w : World) (hl : d.length = nd) (hc2 : nd ≤ 140737488355328) (hok : ¬ okB d) :
    Calls Tryd.prog 11 #[.slice ad nd cd] w fun e w' => e = .returned (.tuple #[.slice none 0 0, .agg noDig, .int .i64 1]) ∧ Below w.heap.size w w' := by
  obtain ⟨n, hn⟩ : ∃ n, nd / 64 = n := ⟨_, rfl⟩
  obtain ⟨r, hr⟩ : ∃ r, nd % 64 = r := ⟨_, rfl⟩
  have q1 : (nd : Int) / 64 = (n : Int) := by omega
  have q2 : (nd : Int) % 64 = (r : Int) := by omega
  have hno : r ≠ 0 ∨ n < 1 ∨ 2048 < n := by
    unfold okB at hok
    rw [hl, hn, hr] at hok
    omega
  have hnb : n ≤ 140737488355328 := by omega
  have hrb : r < 64 := by omega
  go_enter Tryd.func11, Tryd.ntmps11
  go_upto_region 1 with (fail)
  have hz : Blk (w.alloc (.cells (bs (List.replicate 32 0)).toArray 24)) w.heap.size 24 (bs (List.replicate 32 0)) := Blk.new _ _ _
  have hb1 := (Below.refl w.heap.size w).alloc (Nat.le_refl _) (.cells (bs (List.replicate 32 0)).toArray 24)
  generalize hw1 : (w.alloc (.cells (bs (List.replicate 32 0)).toArray 24)) = w1 at hz hb1
  refine hgoalR hw1 ?_
  clear hw1
  obtain ⟨X, Z, hX, hinf, hone, hzz, hzs, hg4, hb5⟩ := store_digest (L := List.replicate 32 0) (by simp) (by simp) hz (Nat.le_refl _) hb1
  have hX' : (bs (List.replicate 32 0)).toArray = #[.int .u8 0, .int .u8 0, .int .u8 0, .int .u8 0, .int .u8 0, .int .u8 0, .int .u8 0, .int .u8 0, .int .u8 0, .int .u8 0, .int .u8 0, .int .u8 0, .int .u8 0, .int .u8 0, .int .u8 0, .int .u8 0, .int .u8 0, .int .u8 0, .int .u8 0, .int .u8 0, .int .u8 0, .int .u8 0, .int .u8 0, .int .u8 0, .int .u8 0, .int .u8 0, .int .u8 0, .int .u8 0, .int .u8 0, .int .u8 0, .int .u8 0, .int .u8 0] := rfl
  obtain ⟨ws, hws⟩ : ∃ ws, w1.setRow w.heap.size X = ws := ⟨_, rfl⟩
  rw [hws] at hg4 hb5
  have HX := Lib.hid hX
  have HG := Lib.hid hg4
  have HB := Lib.hid hb5
  rw [hX'] at hX
  clear hX' hg4 hb5 hz hb1
  by_cases c1 : r = 0
  · subst c1
    by_cases c2 : n < 1
    · have c2' : (n : Int) < 1 := by omega
      go_wp2_with (refine wpList_store_row0 rfl 24 _ _ rfl rfl w.heap.size X rfl (by rw [← hX]; rfl) 24 Z hzz hinf hzs hone hws ?_)
      refine bodyPost_ret (results_tct rfl _ _ w.heap.size _ X (0, 0) _ rfl HG.out Tryd.underlying24 rfl hinf) rfl ?_
      exact ⟨by rw [← HX.out]; rfl, HB.out⟩
    · have c2' : ¬ ((n : Int) < 1) := by omega
      have c3 : (2048 : Int) < (n : Int) := by omega
      go_wp2_with (refine wpList_store_row0 rfl 24 _ _ rfl rfl w.heap.size X rfl (by rw [← hX]; rfl) 24 Z hzz hinf hzs hone hws ?_)
      refine bodyPost_ret (results_tct rfl _ _ w.heap.size _ X (0, 0) _ rfl HG.out Tryd.underlying24 rfl hinf) rfl ?_
      exact ⟨by rw [← HX.out]; rfl, HB.out⟩
  · have c1' : ¬ ((r : Int) = 0) := by omega
    go_wp2_with (refine wpList_store_row0 rfl 24 _ _ rfl rfl w.heap.size X rfl (by rw [← hX]; rfl) 24 Z hzz hinf hzs hone hws ?_)
    refine bodyPost_ret (results_tct rfl _ _ w.heap.size _ X (0, 0) _ rfl HG.out Tryd.underlying24 rfl hinf) rfl ?_
    exact ⟨by rw [← HX.out]; rfl, HB.out⟩


open Classical in
noncomputable def bT (d : List UInt8) : List UInt8 := if okB d then treeL d else []
open Classical in
noncomputable def bR (d : List UInt8) : List UInt8 := if okB d then rootL d else List.replicate 32 0
open Classical in
noncomputable def bE (d : List UInt8) : Int := if okB d then 0 else 1
theorem bR_length (d : List UInt8) : (bR d).length = 32 := by
  unfold bR
  split
  · exact rootL_length d
  · simp
theorem mb_any (d : List UInt8) (ad : Option Addr) (nd cd : Nat) (w : World) (hl : d.length = nd) (hc : nd ≤ cd) (hc2 : cd ≤ 9223372036854775807) (hn2 : nd ≤ 140737488355328) (hr : Rd w w.heap.size ad (bs d)) (hk : KOK w) :
    Calls Tryd.prog 10 #[.slice ad nd cd] w fun e w' => ∃ v, e = .returned (.tuple #[v, .agg (bs (bR d)).toArray, .int .i64 (bE d)]) ∧ OwnB w' w.heap.size v (bT d) ∧ Below w.heap.size w w' := by
  by_cases h : okB d
  · unfold bR bE bT
    rw [if_pos h, if_pos h, if_pos h]
    exact mbuild_any d ad nd cd w hl hc hc2 hr hk h
  · unfold bR bE bT
    rw [if_neg h, if_neg h, if_neg h]
    refine (mbuild_no d ad nd cd w hl (by omega) h).mono ?_
    rintro e w' ⟨rfl, hb⟩
    exact ⟨_, rfl, OwnB.nil _ _, hb⟩
theorem rb_any (d : List UInt8) (ad : Option Addr) (nd cd : Nat) (w : World) (hl : d.length = nd) (hc : nd ≤ cd) (hn2 : nd ≤ 140737488355328) (hr : Rd w w.heap.size ad (bs d)) :
    Calls Tryd.prog 11 #[.slice ad nd cd] w fun e w' => ∃ v, e = .returned (.tuple #[v, .agg (bs (bR d)).toArray, .int .i64 (bE d)]) ∧ OwnB w' w.heap.size v (bT d) ∧ Below w.heap.size w w' := by
  by_cases h : okB d
  · unfold bR bE bT
    rw [if_pos h, if_pos h, if_pos h]
    exact rbuild_any d ad nd cd w hl hc hr h
  · unfold bR bE bT
    rw [if_neg h, if_neg h, if_neg h]
    refine (rbuild_no d ad nd cd w hl (by omega) h).mono ?_
    rintro e w' ⟨rfl, hb⟩
    exact ⟨_, rfl, OwnB.nil _ _, hb⟩
end Go.Proofs.YtnfchojekcoplaaDoor
