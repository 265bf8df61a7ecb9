/- the document's digest: the tables -/
import Derived.Test.YtnfchojekcoplaaDoorRf2
import Derived.Test.YtnfchojekcoplaaDoorRf3
import Derived.Test.YtnfchojekcoplaaDoorShaK
namespace Go.Proofs.YtnfchojekcoplaaDoor
set_option linter.unusedVariables false
set_option linter.unusedSimpArgs false
open Go.RowKit

set_option maxRecDepth 10000
def sqL : List UInt8 := [54, 97, 48, 57, 101, 54, 54, 55, 98, 98, 54, 55, 97, 101, 56, 53, 51, 99, 54, 101, 102, 51, 55, 50, 97, 53, 52, 102, 102, 53, 51, 97, 53, 49, 48, 101, 53, 50, 55, 102, 57, 98, 48, 53, 54, 56, 56, 99, 49, 102, 56, 51, 100, 57, 97, 98, 53, 98, 101, 48, 99, 100, 49, 57]
def cuL : List UInt8 := [52, 50, 56, 97, 50, 102, 57, 56, 55, 49, 51, 55, 52, 52, 57, 49, 98, 53, 99, 48, 102, 98, 99, 102, 101, 57, 98, 53, 100, 98, 97, 53, 51, 57, 53, 54, 99, 50, 53, 98, 53, 57, 102, 49, 49, 49, 102, 49, 57, 50, 51, 102, 56, 50, 97, 52, 97, 98, 49, 99, 53, 101, 100, 53, 100, 56, 48, 55, 97, 97, 57, 56, 49, 50, 56, 51, 53, 98, 48, 49, 50, 52, 51, 49, 56, 53, 98, 101, 53, 53, 48, 99, 55, 100, 99, 51, 55, 50, 98, 101, 53, 100, 55, 52, 56, 48, 100, 101, 98, 49, 102, 101, 57, 98, 100, 99, 48, 54, 97, 55, 99, 49, 57, 98, 102, 49, 55, 52, 101, 52, 57, 98, 54, 57, 99, 49, 101, 102, 98, 101, 52, 55, 56, 54, 48, 102, 99, 49, 57, 100, 99, 54, 50, 52, 48, 99, 97, 49, 99, 99, 50, 100, 101, 57, 50, 99, 54, 102, 52, 97, 55, 52, 56, 52, 97, 97, 53, 99, 98, 48, 97, 57, 100, 99, 55, 54, 102, 57, 56, 56, 100, 97, 57, 56, 51, 101, 53, 49, 53, 50, 97, 56, 51, 49, 99, 54, 54, 100, 98, 48, 48, 51, 50, 55, 99, 56, 98, 102, 53, 57, 55, 102, 99, 55, 99, 54, 101, 48, 48, 98, 102, 51, 100, 53, 97, 55, 57, 49, 52, 55, 48, 54, 99, 97, 54, 51, 53, 49, 49, 52, 50, 57, 50, 57, 54, 55, 50, 55, 98, 55, 48, 97, 56, 53, 50, 101, 49, 98, 50, 49, 51, 56, 52, 100, 50, 99, 54, 100, 102, 99, 53, 51, 51, 56, 48, 100, 49, 51, 54, 53, 48, 97, 55, 51, 53, 52, 55, 54, 54, 97, 48, 97, 98, 98, 56, 49, 99, 50, 99, 57, 50, 101, 57, 50, 55, 50, 50, 99, 56, 53, 97, 50, 98, 102, 101, 56, 97, 49, 97, 56, 49, 97, 54, 54, 52, 98, 99, 50, 52, 98, 56, 98, 55, 48, 99, 55, 54, 99, 53, 49, 97, 51, 100, 49, 57, 50, 101, 56, 49, 57, 100, 54, 57, 57, 48, 54, 50, 52, 102, 52, 48, 101, 51, 53, 56, 53, 49, 48, 54, 97, 97, 48, 55, 48, 49, 57, 97, 52, 99, 49, 49, 54, 49, 101, 51, 55, 54, 99, 48, 56, 50, 55, 52, 56, 55, 55, 52, 99, 51, 52, 98, 48, 98, 99, 98, 53, 51, 57, 49, 99, 48, 99, 98, 51, 52, 101, 100, 56, 97, 97, 52, 97, 53, 98, 57, 99, 99, 97, 52, 102, 54, 56, 50, 101, 54, 102, 102, 51, 55, 52, 56, 102, 56, 50, 101, 101, 55, 56, 97, 53, 54, 51, 54, 102, 56, 52, 99, 56, 55, 56, 49, 52, 56, 99, 99, 55, 48, 50, 48, 56, 57, 48, 98, 101, 102, 102, 102, 97, 97, 52, 53, 48, 54, 99, 101, 98, 98, 101, 102, 57, 97, 51, 102, 55, 99, 54, 55, 49, 55, 56, 102, 50]
set_option maxRecDepth 10000
theorem sq_ok : (∀ c ∈ sqL, digOk c = true) ∧ sqL.length = 64 ∧ (List.range 8).all (fun i => hexN sqL i 8 == (at32 iv i).toNat) = true := by decide +kernel
theorem cu_ok : (∀ c ∈ cuL, digOk c = true) ∧ cuL.length = 512 ∧ (List.range 64).all (fun i => hexN cuL i 8 == (at32 kTab i).toNat) = true := by decide +kernel
theorem num_sq (i : Nat) (hi : i < 8) (W : World) : Calls Tryd.prog 31 #[.string ⟨sqL.toArray⟩, .int .i64 i] W fun e w' => e = .returned (.int .u32 (val (at32 iv i))) ∧ W = w' := by
  refine (number_any sqL i W sq_ok.1 (by rw [sq_ok.2.1]; omega) (by rw [sq_ok.2.1]; omega)).mono ?_
  rintro e w' ⟨rfl, rfl⟩
  have h := List.all_eq_true.1 sq_ok.2.2 i (List.mem_range.2 hi)
  rw [beq_iff_eq] at h
  exact ⟨by rw [h]; rfl, rfl⟩
theorem num_cu (i : Nat) (hi : i < 64) (W : World) : Calls Tryd.prog 31 #[.string ⟨cuL.toArray⟩, .int .i64 i] W fun e w' => e = .returned (.int .u32 (val (at32 kTab i))) ∧ W = w' := by
  refine (number_any cuL i W cu_ok.1 (by rw [cu_ok.2.1]; omega) (by rw [cu_ok.2.1]; omega)).mono ?_
  rintro e w' ⟨rfl, rfl⟩
  have h := List.all_eq_true.1 cu_ok.2.2 i (List.mem_range.2 hi)
  rw [beq_iff_eq] at h
  exact ⟨by rw [h]; rfl, rfl⟩

/-- The first n words are laid, the others are noughts. -/
def laidW (L : List W32) (N n : Nat) : List W32 := L.take n ++ List.replicate (N - n) 0
theorem laidW_length (L : List W32) (N n : Nat) (hL : L.length = N) (hn : n ≤ N) : (laidW L N n).length = N := by simp [laidW]; omega
theorem laidW_zero (L : List W32) (N : Nat) : laidW L N 0 = List.replicate N 0 := rfl
theorem laidW_all (L : List W32) (N : Nat) (hL : L.length = N) : laidW L N N = L := by rw [laidW, List.take_of_length_le (by omega)]; simp
theorem laidW_set (L : List W32) (N n : Nat) (hL : L.length = N) (hn : n < N) : (us (laidW L N n)).set n (.int .u32 (val (at32 L n))) = us (laidW L N (n + 1)) := by
  have e : List.replicate (N - n) (0 : W32) = 0 :: List.replicate (N - (n + 1)) 0 := by rw [show N - n = (N - (n + 1)) + 1 by omega, List.replicate_succ]
  have hl : (us (L.take n)).length = n := by rw [us_length, List.length_take]; omega
  have t : L.take (n + 1) = L.take n ++ [at32 L n] := by
    rw [List.take_add_one, List.getElem?_eq_getElem (by omega)]
    simp [at32, List.getD, List.getElem?_eq_getElem (show n < L.length by omega)]
  rw [laidW, laidW, e, us_append, List.set_append_right _ _ (by omega), hl, Nat.sub_self, t, us_append, us_append, List.append_assoc]
  rfl
end Go.Proofs.YtnfchojekcoplaaDoor
