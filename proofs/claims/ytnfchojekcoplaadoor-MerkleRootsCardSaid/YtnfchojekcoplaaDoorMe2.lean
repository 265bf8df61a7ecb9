/- the tree, by definition -/
import Derived.Test.YtnfchojekcoplaaDoorMe1
import Derived.Test.YtnfchojekcoplaaDoorLv3
import Derived.Test.YtnfchojekcoplaaDoorMk
namespace Go.Proofs.YtnfchojekcoplaaDoor
set_option linter.unusedVariables false
set_option linter.unusedSimpArgs false
open Go.RowKit

/-- how many sectors level j has -/
def cnt : Nat → Nat → Nat
  | n, 0 => n
  | n, j + 1 => cnt ((n + 1) / 2) j
/-- where level j + 1 begins -/
def sumC : Nat → Nat → Nat
  | _, 0 => 0
  | n, j + 1 => (n + 1) / 2 + sumC ((n + 1) / 2) j
theorem cnt_succ : ∀ (j n : Nat), cnt n (j + 1) = (cnt n j + 1) / 2
  | 0, n => rfl
  | j + 1, n => by rw [cnt, cnt_succ j, cnt]
theorem sumC_succ : ∀ (j n : Nat), sumC n (j + 1) = sumC n j + cnt n (j + 1)
  | 0, n => by simp [sumC, cnt]
  | j + 1, n => by
    have e : cnt n (j + 1 + 1) = cnt ((n + 1) / 2) (j + 1) := rfl
    rw [e, sumC, sumC_succ j, sumC]; omega
theorem cnt_pos : ∀ (j n : Nat), 1 ≤ n → 1 ≤ cnt n j
  | 0, n, h => h
  | j + 1, n, h => by rw [cnt]; exact cnt_pos j _ (by omega)
theorem cnt_le : ∀ (j n : Nat), 1 ≤ n → cnt n j ≤ n
  | 0, n, h => Nat.le_refl _
  | j + 1, n, h => by rw [cnt]; exact Nat.le_trans (cnt_le j _ (by omega)) (by omega)

theorem lvF_at : ∀ (pre : List (Nat × Nat)) (k f n : Nat) (x : Nat × Nat) (post : List (Nat × Nat)), lvF k f n = pre ++ x :: post → x.1 = f + sumC n pre.length ∧ x.2 = cnt n (pre.length + 1)
  | [], 0, f, n, x, post, h => by cases h
  | [], k + 1, f, n, x, post, h => by
    rw [lvF, List.nil_append] at h
    injection h with h1 h2
    subst h1
    exact ⟨rfl, rfl⟩
  | y :: pre, 0, f, n, x, post, h => by cases h
  | y :: pre, k + 1, f, n, x, post, h => by
    rw [lvF, List.cons_append] at h
    injection h with h1 h2
    by_cases hm : (n + 1) / 2 = 1
    · rw [if_pos hm] at h2
      cases pre <;> cases h2
    · rw [if_neg hm] at h2
      obtain ⟨h3, h4⟩ := lvF_at pre k _ _ x post h2
      refine ⟨?_, h4⟩
      rw [h3]
      show _ = f + ((n + 1) / 2 + sumC ((n + 1) / 2) pre.length)
      omega

theorem lvF_more : ∀ (j k f n : Nat), 1 ≤ n → n ≤ 2 ^ (k + 1) → j ≤ (lvF (k + 1) f n).length → (j < (lvF (k + 1) f n).length ↔ (j = 0 ∨ 1 < cnt n j))
  | 0, k, f, n, _, _, _ => by rw [lvF]; simp
  | j + 1, k, f, n, h1, h2, h3 => by
    rw [lvF] at h3 ⊢
    rw [cnt]
    by_cases hm : (n + 1) / 2 = 1
    · rw [if_pos hm] at h3 ⊢
      simp at h3 ⊢
      subst h3
      rw [hm]
      decide
    · rw [if_neg hm] at h3 ⊢
      obtain ⟨k', rfl⟩ : ∃ k', k = k' + 1 := by
        cases k with
        | zero => simp at h2; omega
        | succ k => exact ⟨k, rfl⟩
      have := lvF_more j k' (f + (n + 1) / 2) ((n + 1) / 2) (by omega) (by rw [Nat.pow_succ] at h2; omega) (by simp at h3; omega)
      simp only [List.length_cons, Nat.add_lt_add_iff_right]
      rw [this]
      by_cases hj : j = 0
      · subst hj
        rw [cnt]
        constructor
        · intro _; exact .inr (by omega)
        · intro _; exact .inl rfl
      · simp [hj]

theorem lvs_more (n j : Nat) (h1 : 1 ≤ n) (h2 : n ≤ 2048) (h3 : j ≤ (lvs (n : Int)).length) : j < (lvs (n : Int)).length ↔ (j = 0 ∨ 1 < cnt n j) := by
  have e : lvs (n : Int) = lvF 12 0 n := by unfold lvs; rw [if_pos (by omega)]; rfl
  rw [e] at h3 ⊢
  exact lvF_more j 11 0 n h1 (by omega) h3
theorem lvs_at (n : Nat) (pre : List (Nat × Nat)) (x : Nat × Nat) (post : List (Nat × Nat)) (h : lvs (n : Int) = pre ++ x :: post) : x.1 = sumC n pre.length ∧ x.2 = cnt n (pre.length + 1) := by
  unfold lvs at h
  split at h
  · have := lvF_at pre _ _ _ x post h
    simpa using this
  · cases pre <;> cases h
theorem lvs_pos (n : Nat) (h1 : 1 ≤ n) (h2 : n ≤ 2048) : 0 < (lvs (n : Int)).length := (lvs_more n 0 h1 h2 (Nat.zero_le _)).2 (.inl rfl)

def secL (l : List UInt8) (i : Nat) : List UInt8 := (l.drop (64 * i)).take 64
theorem secL_length (l : List UInt8) (i c : Nat) (h : l.length = 64 * c) (hi : i < c) : (secL l i).length = 64 := by simp [secL]; omega
def hashes (kind : UInt8) (l : List UInt8) : Nat → List UInt8
  | 0 => []
  | i + 1 => hashes kind l i ++ hashL kind (secL l i)
theorem hashes_length (kind : UInt8) (l : List UInt8) : ∀ c, (hashes kind l c).length = 32 * c
  | 0 => rfl
  | c + 1 => by rw [hashes, List.length_append, hashes_length kind l c, hashL_length]; omega
def nextL (kind : UInt8) (l : List UInt8) (c : Nat) : List UInt8 := hashes kind l c ++ zeros (64 * ((c + 1) / 2) - 32 * c)
theorem nextL_length (kind : UInt8) (l : List UInt8) (c : Nat) : (nextL kind l c).length = 64 * ((c + 1) / 2) := by
  rw [nextL, List.length_append, hashes_length, zeros_length]; omega
def kindL (j : Nat) : UInt8 := if j = 0 then 0 else 1
/-- level j: level 0 is the data -/
def lev (d : List UInt8) (n : Nat) : Nat → List UInt8
  | 0 => d
  | j + 1 => nextL (kindL j) (lev d n j) (cnt n j)
theorem lev_length (d : List UInt8) (n : Nat) (h : d.length = 64 * n) : ∀ j, (lev d n j).length = 64 * cnt n j
  | 0 => h
  | j + 1 => by rw [lev, nextL_length, cnt_succ]
def treeB (d : List UInt8) (n : Nat) : Nat → List UInt8
  | 0 => []
  | j + 1 => treeB d n j ++ lev d n (j + 1)
theorem treeB_length (d : List UInt8) (n : Nat) (h : d.length = 64 * n) : ∀ j, (treeB d n j).length = 64 * sumC n j
  | 0 => rfl
  | j + 1 => by rw [treeB, List.length_append, treeB_length d n h j, lev_length d n h, sumC_succ]; omega
def nlev (n : Nat) : Nat := (lvs (n : Int)).length
def treeL (d : List UInt8) : List UInt8 := treeB d (d.length / 64) (nlev (d.length / 64))
def rootL (d : List UInt8) : List UInt8 := hashL 1 (lev d (d.length / 64) (nlev (d.length / 64)))
theorem rootL_length (d : List UInt8) : (rootL d).length = 32 := hashL_length _ _
/-- are these whole sectors, from 1 to 2048? -/
def okB (d : List UInt8) : Prop := d.length % 64 = 0 ∧ 1 ≤ d.length / 64 ∧ d.length / 64 ≤ 2048
end Go.Proofs.YtnfchojekcoplaaDoor
