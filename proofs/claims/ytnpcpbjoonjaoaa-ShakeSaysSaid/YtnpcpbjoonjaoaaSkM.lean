/- shake: bit by bit (plain) -/
import Derived.Test.YtnpcpbjoonjaoaaSkL
namespace Go.Proofs.Ytnpcpbjoonjaoaa
set_option linter.unusedVariables false
set_option linter.unusedSimpArgs false
open Go.RowKit

theorem one_zero (s : Sk) (b : List UInt8) (h : (oneR s b).2.2 = 0) : oneR s b = (s, [], 0) := by
  rw [oneR] at h ⊢
  split
  · rename_i h0
    rw [if_pos h0] at h
    split
    · rfl
    · rename_i h4
      rw [if_neg h4] at h
      simp at h
  · rename_i h0
    rw [if_neg h0] at h
    split
    · rename_i he
      rw [if_pos he] at h
      simp only at h
      have hb : b = [] := List.eq_nil_of_length_eq_zero h
      subst hb
      exact absurd rfl he
    · rename_i he
      rw [if_neg he] at h
      split
      · rfl
      · rename_i hn
        rw [if_neg hn] at h
        split at h <;> simp only at h <;> exact absurd h hn

/-- With more behind it: the same, or no option at all. -/
theorem one_more (s : Sk) (p q : List UInt8) (hn : (oneR s p).2.2 ≠ 0) :
    oneR s (p ++ q) = oneR s p ∨ ((oneR s p) = ({ s with phase := 3 }, [], p.length) ∧ oneR s (p ++ q) = ({ s with phase := 3 }, [], (p ++ q).length)) := by
  by_cases h0 : s.phase = 0
  · left
    rw [oneR, if_pos h0] at hn
    by_cases h4 : p.length < 4
    · rw [if_pos h4] at hn; exact absurd rfl hn
    · have ht : (p ++ q).take 4 = p.take 4 := List.take_append_of_le_length (by omega)
      rw [oneR, oneR, if_pos h0, if_pos h0, if_neg h4, if_neg (by rw [List.length_append]; omega), ht]
  · rcases opt_cases p with ho | ho | ⟨hb, h16, hn1, hn2, ho⟩
    · right
      have hm := opt_err p q ho
      rw [oneR, oneR, if_neg h0, if_neg h0, ho, hm, if_pos (by simp), if_pos (by simp)]
      exact ⟨rfl, rfl⟩
    · rw [oneR, if_neg h0, ho, if_neg (by simp), if_pos rfl] at hn
      exact absurd rfl hn
    · left
      have hm := opt_more p q hb h16 hn1 hn2
      rw [oneR, oneR, if_neg h0, if_neg h0, ho, hm]
      simp only [ne_eq, not_true_eq_false, if_false]

/-- What a piece leaves, and what all of it would. -/
def Glued (s : Sk) (B : List UInt8) (r : Sk × List UInt8 × Nat) : Prop :=
  feedR s B = ((feedR r.1 (B.drop r.2.2)).1, r.2.1 ++ (feedR r.1 (B.drop r.2.2)).2.1, r.2.2 + (feedR r.1 (B.drop r.2.2)).2.2) ∨
  (r.1.phase = 3 ∧ (feedR s B).1 = r.1 ∧ (feedR s B).2.1 = r.2.1)

theorem feed_cut : ∀ (k : Nat) (s : Sk) (B : List UInt8) (j : Nat), s.name.length ≤ 1000 → (B.take j).length ≤ k → Glued s B (feedR s (B.take j)) := by
  intro k
  induction k with
  | zero =>
    intro s B j hnm hk
    have hp : B.take j = [] := List.eq_nil_of_length_eq_zero (by omega)
    rw [hp]
    left
    have he : feedR s [] = (s, [], 0) := by
      rw [feedR_eq s [] hnm]
      split
      · have hz : (oneR s []).2.2 = 0 := by have := (oneR_facts s [] hnm).1; simpa using this
        rw [one_zero s [] hz, if_pos rfl]
      · rfl
    rw [he]
    simp
  | succ k ih =>
    intro s B j hnm hk
    by_cases hp : s.phase < 2
    · by_cases hn : (oneR s (B.take j)).2.2 = 0
      · have h1 := one_zero s _ hn
        have h2 : feedR s (B.take j) = (s, [], 0) := by rw [feedR_eq s _ hnm, if_pos hp, h1, if_pos rfl]
        rw [h2]
        left
        simp
      · have hBp : B = B.take j ++ B.drop j := (List.take_append_drop j B).symm
        obtain ⟨f1, f2, f3, _⟩ := oneR_facts s (B.take j) hnm
        rcases one_more s (B.take j) (B.drop j) hn with hm | ⟨hm1, hm2⟩
        · rw [← hBp] at hm
          have e1 := feedR_eq s B hnm
          rw [if_pos hp, hm, if_neg hn] at e1
          have e2 := feedR_eq s (B.take j) hnm
          rw [if_pos hp, if_neg hn] at e2
          obtain ⟨r, hr⟩ : ∃ r, oneR s (B.take j) = r := ⟨_, rfl⟩
          rw [hr] at e1 e2 f1 f2 hn
          have hd : (B.take j).drop r.2.2 = (B.drop r.2.2).take (j - r.2.2) := by rw [List.drop_take]
          rw [hd] at e2
          have h := ih r.1 (B.drop r.2.2) (j - r.2.2) (by rw [f2]; exact hnm) (by
            rw [← hd, List.length_drop]; omega)
          rw [e2]
          rcases h with h | ⟨h1, h2, h3⟩
          · left
            rw [e1, h]
            simp only [List.drop_drop, List.append_assoc, Nat.add_assoc]
          · right
            rw [e1]
            exact ⟨h1, h2, by simp only [h3]⟩
        · rw [← hBp] at hm2
          have g1 : feedR { s with phase := 3 } [] = ({ s with phase := 3 }, [], 0) := feedR_over _ _ hnm (by simp)
          have hlen : (B.take j).length ≠ 0 := by rw [hm1] at hn; exact hn
          have hlB : B.length ≠ 0 := by
            intro h
            rw [List.length_take] at hlen
            omega
          right
          have e1 : feedR s B = ({ s with phase := 3 }, [], B.length) := by
            rw [feedR_eq s B hnm, if_pos hp, hm2, if_neg hlB, List.drop_of_length_le (Nat.le_refl _), g1]
            simp
          have e2 : feedR s (B.take j) = ({ s with phase := 3 }, [], (B.take j).length) := by
            rw [feedR_eq s _ hnm, if_pos hp, hm1, if_neg hlen, List.drop_of_length_le (Nat.le_refl _), g1]
            simp
          rw [e1, e2]
          exact ⟨rfl, rfl, rfl⟩
    · rw [feedR_over s _ hnm hp]
      left
      simp

/-- Where the pieces have come. -/
def BitInv (s0 : Sk) (b : List UInt8) (s : Sk) (cc : List UInt8) (u : Nat) : Prop :=
  feedR s0 b = ((feedR s (b.drop u)).1, cc ++ (feedR s (b.drop u)).2.1, u + (feedR s (b.drop u)).2.2) ∨ (s.phase = 3 ∧ (feedR s0 b).1 = s ∧ (feedR s0 b).2.1 = cc)
/-- All pieces are in. -/
def BitDone (s0 : Sk) (b : List UInt8) (s : Sk) (cc : List UInt8) (u : Nat) : Prop :=
  (feedR s0 b).1 = s ∧ (feedR s0 b).2.1 = cc ∧ ((feedR s0 b).2.2 = u ∨ s.phase = 3)

theorem bit_step {s0 s : Sk} {b cc : List UInt8} {u : Nat} (h : BitInv s0 b s cc u) (hnm : s.name.length ≤ 1000) (j : Nat) :
    BitInv s0 b (feedR s ((b.drop u).take j)).1 (cc ++ (feedR s ((b.drop u).take j)).2.1) (u + (feedR s ((b.drop u).take j)).2.2) := by
  rcases h with h | ⟨h1, h2, h3⟩
  · have hc := feed_cut _ s (b.drop u) j hnm (Nat.le_refl _)
    obtain ⟨r, hr⟩ : ∃ r, feedR s ((b.drop u).take j) = r := ⟨_, rfl⟩
    rw [hr] at hc ⊢
    rcases hc with hc | ⟨c1, c2, c3⟩
    · left
      rw [h, hc]
      simp only [List.drop_drop, List.append_assoc, Nat.add_assoc]
    · right
      rw [h]
      exact ⟨c1, c2, by simp only [c3]⟩
  · right
    rw [feedR_over s _ hnm (by omega)]
    exact ⟨h1, h2, by rw [h3]; simp⟩
theorem bit_done {s0 s : Sk} {b cc : List UInt8} {u : Nat} (h : BitInv s0 b s cc u) (hnm : s.name.length ≤ 1000) :
    BitDone s0 b (feedR s (b.drop u)).1 (cc ++ (feedR s (b.drop u)).2.1) (u + (feedR s (b.drop u)).2.2) := by
  rcases h with h | ⟨h1, h2, h3⟩
  · rw [BitDone, h]
    exact ⟨rfl, rfl, .inl rfl⟩
  · rw [feedR_over s _ hnm (by omega)]
    exact ⟨h2, by rw [h3]; simp, .inr h1⟩
end Go.Proofs.Ytnpcpbjoonjaoaa
