/- a tree shows its own (plain) -/
import Derived.Test.YtnfchojekcoplaaDoorMe7
namespace Go.Proofs.YtnfchojekcoplaaDoor
set_option linter.unusedVariables false
set_option linter.unusedSimpArgs false
open Go Go.RowKit

theorem hashes_at (kind : UInt8) (l : List UInt8) : ∀ (c q : Nat), q < c → ((hashes kind l c).drop (32 * q)).take 32 = hashL kind (secL l q)
  | 0, q, h => by omega
  | c + 1, q, h => by
    have hl := hashes_length kind l c
    rw [hashes]
    by_cases e : q = c
    · subst e
      rw [List.drop_append_of_le_length (by omega), List.drop_of_length_le (by omega), List.nil_append]
      exact List.take_of_length_le (by rw [hashL_length]; omega)
    · rw [List.drop_append_of_le_length (by omega), List.take_append_of_le_length (by rw [List.length_drop]; omega)]
      exact hashes_at kind l c q (by omega)
theorem nextL_at (kind : UInt8) (l : List UInt8) (c q : Nat) (h : q < c) : ((nextL kind l c).drop (32 * q)).take 32 = hashL kind (secL l q) := by
  have hl := hashes_length kind l c
  rw [nextL, List.drop_append_of_le_length (by omega), List.take_append_of_le_length (by rw [List.length_drop]; omega)]
  exact hashes_at kind l c q h
theorem sec_half (L : List UInt8) (q : Nat) : ((secL L (q / 2)).drop (32 * (q % 2))).take 32 = (L.drop (32 * q)).take 32 := by
  unfold secL
  rw [List.drop_take, List.drop_drop, List.take_take]
  congr 2
  · omega
  · omega
theorem secL_whole (l : List UInt8) (h : l.length = 64) : secL l 0 = l := by
  unfold secL
  rw [Nat.mul_zero, List.drop_zero]
  exact List.take_of_length_le (by omega)

/-- the m sectors above sector q of level j -/
def upS (d : List UInt8) (n : Nat) : Nat → Nat → Nat → List (List UInt8)
  | _, _, 0 => []
  | j, q, m + 1 => secL (lev d n (j + 1)) (q / 2) :: upS d n (j + 1) (q / 2) m
theorem upS_length (d : List UInt8) (n : Nat) : ∀ (m j q : Nat), (upS d n j q m).length = m
  | 0, _, _ => rfl
  | m + 1, j, q => by rw [upS, List.length_cons, upS_length d n m]

theorem up_step (d : List UInt8) (n j q : Nat) (hq : q < cnt n j) : ((secL (lev d n (j + 1)) (q / 2)).drop (32 * (q % 2))).take 32 = hashL (kindL j) (secL (lev d n j) q) := by
  rw [sec_half, lev, nextL_at _ _ _ _ hq]
theorem up_shows (d : List UInt8) (n : Nat) (hd : d.length = 64 * n) : ∀ (m j q : Nat), q < cnt n j → cnt n (j + m) = 1 → 1 ≤ j + m →
    checkG (hashL 1 (lev d n (j + m))) q (hashL (kindL j) (secL (lev d n j) q)) (upS d n j q m) = true
  | 0, j, q, hq, h1, hj => by
    rw [Nat.add_zero] at h1 hj ⊢
    have hk : kindL j = 1 := by unfold kindL; rw [if_neg (by omega)]
    obtain rfl : q = 0 := by omega
    rw [upS, checkG, hk, secL_whole _ (by rw [lev_length d n hd, h1]), beq_self_eq_true]
  | m + 1, j, q, hq, h1, hj => by
    have hc := cnt_succ j n
    have hq2 : q / 2 < cnt n (j + 1) := by omega
    have hk : kindL (j + 1) = 1 := by unfold kindL; rw [if_neg (by omega)]
    rw [upS, checkG, if_pos ⟨secL_length _ _ _ (lev_length d n hd (j + 1)) hq2, up_step d n j q hq⟩]
    have := up_shows d n hd m (j + 1) (q / 2) hq2 (by rw [show j + 1 + m = j + (m + 1) by omega]; exact h1) (by omega)
    rw [hk, show j + 1 + m = j + (m + 1) by omega] at this
    exact this

theorem nlev_one (n : Nat) (h1 : 1 ≤ n) (h2 : n ≤ 2048) : cnt n (nlev n) = 1 ∧ 1 ≤ nlev n := by
  have := lvs_more n (nlev n) h1 h2 (Nat.le_refl _)
  have h0 : 0 < nlev n := lvs_pos n h1 h2
  have h3 := cnt_pos (nlev n) n h1
  have h4 : ¬ (nlev n = 0 ∨ 1 < cnt n (nlev n)) := fun h => Nat.lt_irrefl _ (this.2 h)
  omega
/-- a tree shows its own -/
theorem own_shows (d : List UInt8) (n i : Nat) (hd : d.length = 64 * n) (h1 : 1 ≤ n) (h2 : n ≤ 2048) (hi : i < n) :
    checkR (n : Int) (i : Int) (secL d i) (upS d n 0 i (nlev n)) (rootL d) = true := by
  have hn : d.length / 64 = n := by omega
  obtain ⟨h3, h4⟩ := nlev_one n h1 h2
  unfold checkR
  rw [if_pos ⟨by omega, by omega, secL_length d i n hd hi, by rw [upS_length]; rfl, by rw [upS_length]; omega⟩]
  have := up_shows d n hd (nlev n) 0 i hi (by rw [Nat.zero_add]; exact h3) (by omega)
  rw [Nat.zero_add] at this
  unfold rootL
  rw [hn]
  exact this
end Go.Proofs.YtnfchojekcoplaaDoor
