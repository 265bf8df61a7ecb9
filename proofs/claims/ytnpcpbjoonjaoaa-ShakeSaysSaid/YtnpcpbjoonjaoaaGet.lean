/- octets.Get -/
import Derived.Test.YtnpcpbjoonjaoaaNum
namespace Go.Proofs.Ytnpcpbjoonjaoaa
set_option linter.unusedVariables false
set_option linter.unusedSimpArgs false
open Go.RowKit

theorem get_bad (a : Option Addr) (cap : Nat) (n : Nat) (w : World) (hn : n < 1 ∨ 8 < n) :
    Calls Try.prog 53 #[.slice a n cap] w fun e w' => e = .returned (.tuple #[.int .u64 0, .int .i64 1]) ∧ w = w' := by
  rcases hn with hn | hn
  · have : n = 0 := by omega
    subst this
    go_enter Try.func53, Try.ntmps53
    go_wp2_with fail
    go_ret2
    exact ⟨rfl, rfl⟩
  · go_enter Try.func53, Try.ntmps53
    go_wp2_with fail
    go_ret2
    exact ⟨rfl, rfl⟩

set_option maxRecDepth 20000 in
set_option maxHeartbeats 400000 in
theorem get_good (a : Option Addr) (cap : Nat) (l : List UInt8) (w : World) (h1 : 1 ≤ l.length) (h8 : l.length ≤ 8) {Bd : Nat} (hr : Rd w Bd a (bs l)) :
    Calls Try.prog 53 #[.slice a l.length cap] w fun e w' => e = .returned (.tuple #[.int .u64 (numOf l), .int .i64 0]) ∧ w = w' := by
  have HR := Lib.hid hr
  clear hr
  go_enter Try.func53, Try.ntmps53
  go_wp2_with fail
  go_loop [4, 17] (fun n i => ∃ k : Nat, k ≤ l.length ∧ i = .int .i64 k ∧ n = .int .u64 (numOf (l.take k))) (fun _ i => l.length - (intOf i).toNat)
  case atStart => exact ⟨0, Nat.zero_le _, rfl, rfl⟩
  case round =>
    obtain ⟨k, hk, rfl, rfl⟩ := hrel
    by_cases hlt : k < l.length
    · obtain ⟨b, off, rfl, _, hc⟩ := HR.out.byte k hlt
      have hn := numOf_take_lt l k (by omega)
      have hx := (l[k]).toNat_lt
      go_wp2_with fail
      go_round
      case rel =>
        refine ⟨k + 1, by omega, by go_num, ?_⟩
        rw [show ((numOf (List.take k l) : Nat) : Int) * 256 = ((numOf (List.take k l) * 256 : Nat) : Int) by simp, u64_or_nat _ _ (by omega) (by omega), or_byte _ _ hx, numOf_take_succ l k hlt]
      case measure => simp [intOf]; omega
    · go_wp2_with fail
      go_ret2
      have : l.take k = l := List.take_of_length_le (by omega)
      rw [this]
      exact ⟨rfl, rfl⟩

theorem get_any (a : Option Addr) (n cap : Nat) (l : List UInt8) (w : World) (hn : l.length = n) {Bd : Nat} (hr : Rd w Bd a (bs l)) :
    Calls Try.prog 53 #[.slice a n cap] w fun e w' => e = .returned (.tuple #[.int .u64 (getV l), .int .i64 (getE l)]) ∧ w = w' := by
  subst hn
  by_cases h : l.length < 1 ∨ 8 < l.length
  · unfold getV getE
    rw [if_pos h, if_pos h]
    exact get_bad a cap _ w h
  · unfold getV getE
    rw [if_neg h, if_neg h]
    exact get_good a cap l w (by omega) (by omega) hr

end Go.Proofs.Ytnpcpbjoonjaoaa
