/- merkle.levels: the iterator value, and what comes of it -/
import Derived.Test.YtnfchojekcoplaaDoorA
import Derived.Test.YtnfchojekcoplaaDoorIt
import Derived.RangeFuncBound
import Derived.RangeFuncCalls
import Derived.RangeFuncLeaves
import Derived.Shelf.Abstract
import Derived.WalkKit
import Derived.OwnWalkIn
import Derived.TacticsInMore
import Derived.LoopNIn
import Derived.LoopIn
namespace Go.Proofs.YtnfchojekcoplaaDoor
set_option linter.unusedVariables false
set_option linter.unusedSimpArgs false
open Go Go.RowKit
attribute [local go_sem] Oper.semAt_some

/-- the levels: where each begins, how many sectors it has -/
def lvF : Nat → Nat → Nat → List (Nat × Nat)
  | 0, _, _ => []
  | k + 1, f, n => (f, (n + 1) / 2) :: if (n + 1) / 2 = 1 then [] else lvF k (f + (n + 1) / 2) ((n + 1) / 2)
def lvs (n : Int) : List (Nat × Nat) := if 1 ≤ n ∧ n ≤ 2048 then lvF 12 0 n.toNat else []
abbrev lvEnc (x : Nat × Nat) : Array Value := #[.int .i64 (x.1 : Int), .int .i64 (x.2 : Int)]

theorem levels_any (n : Int) (w : World) : Calls Tryd.prog 20 #[.int .i64 n] w fun e w' =>
    e = .returned (.func (.func 28) #[] #[.pointer (some ⟨w.heap.size, 0, none⟩)]) ∧ w' = w.alloc (.cells #[.int .i64 n] 3) := by
  go_enter Tryd.func20, Tryd.ntmps20
  go_wp2_with fail
  exact ⟨rfl, _, results_tmp rfl _ _ _, rfl, rfl⟩

def boxN (B : Nat) (w : World) : Nat := match w.cell? ⟨B, 0, none⟩ with
  | some (.int _ v) => v.toNat
  | _ => 0

def LvR (J : List (Nat × Nat) → World → Prop) (xs : List (Nat × Nat)) (B : Nat) (p : Value) (wr : World) : Prop :=
  ∃ (pre : List (Nat × Nat)) (k f n : Nat), p = .int .i64 (f : Int) ∧ xs = pre ++ lvF (k + 1) f n ∧ 1 ≤ n ∧ n ≤ 2048 ∧ n ≤ 2 ^ (k + 1) ∧ f ≤ 5000 - 2 * n ∧ Boxed wr B 3 (.int .i64 (n : Int)) ∧ J pre wr

set_option maxHeartbeats 1000000 in
theorem lv_gives (m : Nat) (n : Int) (B : Nat) (hm : 1 ≤ m) :
    Gives m Tryd.prog 28 #[.pointer (some ⟨B, 0, none⟩)] lvEnc B (lvs n) (fun W => Boxed W B 3 (.int .i64 n)) := by
  intro l J W hB hJ hY h0
  refine callsIn_of_wp Tryd.func28 rfl trivial ?_ rfl
  simp only [Tryd.ntmps28, List.size_toArray, List.length_cons, List.length_nil, Nat.reduceAdd, Nat.reduceSub, Array.replicate_succ, Array.replicate_zero, List.push_toArray, List.append_toArray, List.nil_append, List.cons_append]
  have hc := hB.cell
  by_cases h1 : n < 1
  · have e : lvs n = [] := by unfold lvs; rw [if_neg (by omega)]
    rw [e]
    gi_wp2
    refine bodyPost_ret (results_none rfl _ _ _) rfl ?_
    exact ⟨⟨_, rfl⟩, h0⟩
  by_cases h2 : 2048 < n
  · have e : lvs n = [] := by unfold lvs; rw [if_neg (by omega)]
    rw [e]
    gi_wp2
    refine bodyPost_ret (results_none rfl _ _ _) rfl ?_
    exact ⟨⟨_, rfl⟩, h0⟩
  obtain ⟨N, rfl⟩ : ∃ N : Nat, n = (N : Int) := ⟨n.toNat, by omega⟩
  have e : lvs (N : Int) = lvF 12 0 N := by unfold lvs; rw [if_pos (by omega)]; rfl
  rw [e] at hY ⊢
  have hst : LvR J (lvF 12 0 N) B (.int .i64 0) W := ⟨[], 11, 0, N, rfl, rfl, by omega, by omega, by omega, by omega, hB, h0⟩
  have HST := Lib.hid hst
  have HY := Lib.hid hY
  have HJ := Lib.hid hJ
  clear hst hY hJ h0 e
  gi_wp2
  gi_loopw [3] (fun p wr => LvR J (lvF 12 0 N) B p wr) (fun p wr => boxN B wr)
  case atStart => exact HST.out
  case round =>
    clear HST
    obtain ⟨pre, k, f, n', rfl, hx, hn1, hn2, hnk, hf, hb, hj⟩ := hrel
    have hbc := hb.cell
    have hbf := hb.frozen
    obtain ⟨m', hm'⟩ : ∃ m' : Nat, (n' + 1) / 2 = m' := ⟨_, rfl⟩
    have hq : ((n' : Int) + 1) / 2 = (m' : Int) := by omega
    have hx' : lvF 12 0 N = pre ++ (f, m') :: (if m' = 1 then [] else lvF k (f + m') m') := by rw [hx, lvF, hm']
    have hb1 := hb.set (.int .i64 (m' : Int))
    obtain ⟨W1, hW1⟩ : ∃ W1, wr.setCell ⟨B, 0, none⟩ (.int .i64 (m' : Int)) = W1 := ⟨_, rfl⟩
    have hj1 := HJ.out pre wr (.int .i64 (m' : Int)) hj
    rw [hW1] at hb1 hj1
    obtain ⟨fn, tmps, assign, body, hy, hR⟩ := HY.out pre (f, m') _ hx' W1 hj1
    dsimp only [lvEnc] at hy
    have hbc1 := hb1.cell
    have HX := Lib.hid hx'
    have HB1 := Lib.hid hb1
    have HM := Lib.hid hm'
    have HNK := Lib.hid hnk
    have HF := Lib.hid hf
    have HN := Lib.hid (And.intro hn1 hn2)
    clear hx hx' hj hj1 hnk
    gi_wp2
    refine hR.mono ?_
    rintro e W3 ⟨rfl, hJ3, hB3⟩
    have hb3 : Boxed W3 B 3 (.int .i64 (m' : Int)) := hB3.trans HB1.out
    have hbc3 := hb3.cell
    by_cases hm1 : m' = 1
    · subst hm1
      have hx3 := HX.out
      rw [if_pos rfl] at hx3
      gi_wp2
      refine bodyPost_ret (results_none rfl _ _ _) rfl ?_
      rw [hx3]
      exact ⟨⟨_, rfl⟩, hJ3⟩
    · have hne : ¬ ((m' : Int) = 1) := by omega
      have hx3 := HX.out
      rw [if_neg hm1] at hx3
      have hm2 := HM.out
      have hn3 := HN.out
      have hf3 := HF.out
      obtain ⟨k', rfl⟩ : ∃ k', k = k' + 1 := by
        cases k with
        | zero => have := HNK.out; simp at this; omega
        | succ k => exact ⟨k, rfl⟩
      have hnk3 := HNK.out
      have hfin : LvR J (lvF 12 0 N) B (.int .i64 ((f : Int) + (m' : Int))) W3 := ⟨pre ++ [(f, m')], k', f + m', m', by push_cast; rfl, by rw [hx3]; simp, by omega, by omega, by rw [Nat.pow_succ] at hnk3; omega, by omega, hb3, hJ3⟩
      have HFIN := Lib.hid hfin
      have hmeas : boxN B W3 < boxN B wr := by
        unfold boxN
        rw [hbc3, hbc]
        simp
        omega
      clear hfin hx3 hnk3
      gi_wp2
      go_roundw
      case rel => exact HFIN.out
      case measure => exact hmeas
end Go.Proofs.YtnfchojekcoplaaDoor
