/- sha: the digest, plainly -/
import Derived.Test.YtnfchojekcoplaaDoorSha4
namespace Go.Proofs.YtnfchojekcoplaaDoor
set_option linter.unusedVariables false
set_option linter.unusedSimpArgs false
open Go.RowKit

/-- How many noughts the padding holds. -/
def padZ (n : Nat) : Nat := (119 - n % 64) % 64
theorem padZ_mod (n : Nat) : (n % 64 + 1 + padZ n) % 64 = 56 := by unfold padZ; omega
theorem padZ_first (n z : Nat) (h : z < padZ n) : (n % 64 + 1 + z) % 64 ≠ 56 := by unfold padZ at h; omega
theorem padZ_lt (n : Nat) : padZ n < 64 := by unfold padZ; omega
/-- Eight bytes, the greatest first. -/
def be8 (x : Nat) : List UInt8 := (List.range 8).map fun i => UInt8.ofNat (x / 2 ^ (56 - 8 * i) % 256)
theorem be8_length (x : Nat) : (be8 x).length = 8 := by simp [be8]
def padTail (n : Nat) : List UInt8 := [128] ++ List.replicate (padZ n) 0 ++ be8 (8 * n % 18446744073709551616)
def shaPad (l : List UInt8) : List UInt8 := l ++ padTail l.length
theorem padTail_length (n : Nat) : (padTail n).length = 9 + padZ n := by simp [padTail, be8_length]; omega
theorem shaPad_mod (l : List UInt8) : (shaPad l).length % 64 = 0 := by
  rw [shaPad, List.length_append, padTail_length]
  have := padZ_mod l.length
  omega
/-- A word's bytes, the greatest first. -/
def word4 (x : W32) : List UInt8 := [UInt8.ofNat (x.toNat / 16777216 % 256), UInt8.ofNat (x.toNat / 65536 % 256), UInt8.ofNat (x.toNat / 256 % 256), UInt8.ofNat (x.toNat % 256)]
/-- The digest of bytes. -/
def shaL (l : List UInt8) : List UInt8 := (stOf (shaPad l)).flatMap word4
theorem flat4_length (s : List W32) : (s.flatMap word4).length = 4 * s.length := by
  induction s with
  | nil => rfl
  | cons x s ih => rw [List.flatMap_cons, List.length_append, ih, List.length_cons]; simp [word4]; omega
theorem shaL_length (l : List UInt8) : (shaL l).length = 32 := by rw [shaL, flat4_length, stOf, stB_length]

/-- The whole blocks alone. -/
def whole (l : List UInt8) : List UInt8 := l.take (64 * (l.length / 64))
theorem whole_length (l : List UInt8) : (whole l).length = 64 * (l.length / 64) := by rw [whole, List.length_take]; omega
theorem whole_rest (l : List UInt8) : restOf (whole l) = [] := List.eq_nil_of_length_eq_zero (by rw [restOf_length, whole_length]; omega)
theorem whole_app (l : List UInt8) : whole l ++ restOf l = l := List.take_append_drop _ _
theorem whole_st (l : List UInt8) : stOf (whole l) = stOf l := by
  have h := stB_app (whole l) (restOf l) (l.length / 64) (by rw [whole_length]; exact Nat.le_refl _)
  rw [whole_app] at h
  rw [stOf, stOf, whole_length, Nat.mul_div_cancel_left _ (by omega), ← h]
theorem whole_pad (l : List UInt8) : whole l ++ (restOf l ++ padTail l.length) = shaPad l := by rw [← List.append_assoc, whole_app, shaPad]
theorem rest_pad_length (l : List UInt8) : (restOf l ++ padTail l.length).length = l.length % 64 + 9 + padZ l.length := by rw [List.length_append, restOf_length, padTail_length]; omega
/-- A word's byte, as the program takes it out. -/
theorem word4_get (x : W32) (k : Nat) (hk : k < 4) : ∃ y : UInt8, (word4 x)[k]? = some y ∧ (y.toNat : Int) = val x / 2 ^ (24 - 8 * k) % 256 := by
  have h : ∀ m : Nat, ((UInt8.ofNat (m % 256)).toNat : Int) = (m : Int) % 256 := fun m => by
    rw [UInt8.toNat_ofNat', Nat.mod_eq_of_lt (by omega)]; simp
  obtain rfl | rfl | rfl | rfl : k = 0 ∨ k = 1 ∨ k = 2 ∨ k = 3 := by omega
  · exact ⟨_, rfl, by rw [h]; simp [val]⟩
  · exact ⟨_, rfl, by rw [h]; simp [val]⟩
  · exact ⟨_, rfl, by rw [h]; simp [val]⟩
  · exact ⟨_, rfl, by rw [h]; simp [val]⟩
theorem flat4_get (s : List W32) (i k : Nat) (hi : i < s.length) (hk : k < 4) : (s.flatMap word4)[4 * i + k]? = (word4 (at32 s i))[k]? := by
  induction s generalizing i with
  | nil => simp at hi
  | cons x s ih =>
    rw [List.flatMap_cons]
    cases i with
    | zero => rw [List.getElem?_append_left (by simp [word4]; omega)]; simp [at32]
    | succ i =>
      have hl : (word4 x).length = 4 := rfl
      rw [List.getElem?_append_right (by rw [hl]; omega), hl, show 4 * (i + 1) + k - 4 = 4 * i + k by omega, ih i (by simpa using hi)]
      simp [at32]
/-- The first n bytes are laid, the others are noughts. -/
def laidTo (L : List UInt8) (n : Nat) : List UInt8 := L.take n ++ List.replicate (32 - n) 0
theorem laidTo_set (L : List UInt8) (hL : L.length = 32) (n : Nat) (hn : n < 32) (y : UInt8) (v : Int) (hy : L[n]? = some y) (hv : (y.toNat : Int) = v) : (bs (laidTo L n)).set n (.int .u8 v) = bs (laidTo L (n + 1)) := by
  have e : List.replicate (32 - n) (0 : UInt8) = 0 :: List.replicate (32 - (n + 1)) 0 := by
    rw [show 32 - n = (32 - (n + 1)) + 1 by omega, List.replicate_succ]
  have hl : (bs (L.take n)).length = n := by rw [bs_length, List.length_take]; omega
  have t : L.take (n + 1) = L.take n ++ [y] := by rw [List.take_add_one, hy]; rfl
  rw [laidTo, laidTo, e, bs_append, List.set_append_right _ _ (by omega), hl, Nat.sub_self, t, bs_append, bs_append, List.append_assoc]
  subst hv
  rfl
theorem laidTo_zero (L : List UInt8) : laidTo L 0 = List.replicate 32 0 := rfl
theorem laidTo_all (L : List UInt8) (hL : L.length = 32) : laidTo L 32 = L := by rw [laidTo, List.take_of_length_le (by omega)]; simp
theorem laidTo_length (L : List UInt8) (hL : L.length = 32) (n : Nat) (hn : n ≤ 32) : (laidTo L n).length = 32 := by rw [laidTo, List.length_append, List.length_take, List.length_replicate]; omega
theorem laidTo_at (L : List UInt8) (hL : L.length = 32) (n : Nat) (hn : n < 32) : ∃ y, (bs (laidTo L n))[n]? = some y :=
  ⟨_, List.getElem?_eq_getElem (by rw [bs_length, laidTo_length L hL n (by omega)]; exact hn)⟩
end Go.Proofs.YtnfchojekcoplaaDoor
