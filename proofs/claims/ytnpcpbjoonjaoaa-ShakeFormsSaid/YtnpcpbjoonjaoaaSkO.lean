/- shake: what is said has a form (plain) -/
import Derived.Test.YtnpcpbjoonjaoaaSkN
import Derived.Test.YtnpcpbjoonjaoaaRGet
namespace Go.Proofs.Ytnpcpbjoonjaoaa
set_option linter.unusedVariables false
set_option linter.unusedSimpArgs false
open Go.RowKit

def KnownR (k : Nat) : Prop := k = 1 ∨ k = 2 ∨ k = 3 ∨ k = 2147483649 ∨ k = 2147483651 ∨ k = 2147483654
/-- A row of replies. -/
def rowL (l : List (Nat × Nat × List UInt8)) : List UInt8 := l.flatMap fun p => optionReplyL (p.1 : Int) (p.2.1 : Int) p.2.2
def RowOk (l : List (Nat × Nat × List UInt8)) : Prop := ∀ p ∈ l, KnownR p.2.1 ∧ p.2.2.length ≤ 2000
/-- What stands at the end. -/
def TailOk (S ph : Nat) (t : List UInt8) : Prop := t = [] ∨ (ph = 2 ∧ ∃ u : List UInt8, u.length = 2 ∧ (t = bytesOf (S * 64) 8 ++ u ∨ t = bytesOf (S * 64) 8 ++ u ++ zeros 124))

theorem info_known (s : Sk) (data : List UInt8) : ∀ p ∈ infoReps s data, KnownR p.1 := by
  intro p hp
  rw [infoReps] at hp
  split at hp
  · simp only [List.mem_cons, List.not_mem_nil, or_false] at hp
    subst hp
    simp [KnownR]
  · split at hp
    · simp only [List.mem_cons, List.not_mem_nil, or_false] at hp
      subst hp
      simp [KnownR]
    · split at hp
      · simp only [List.cons_append, List.nil_append, List.mem_cons, List.not_mem_nil, or_false] at hp
        rcases hp with rfl | rfl | rfl <;> simp [KnownR]
      · simp only [List.cons_append, List.nil_append, List.mem_cons, List.not_mem_nil, or_false] at hp
        rcases hp with rfl | rfl <;> simp [KnownR]
theorem ans_known (s : Sk) (ty : Nat) (data : List UInt8) : ∀ p ∈ (ansR s ty data).2, KnownR p.1 := by
  intro p hp
  rw [ansR] at hp
  split at hp
  · simp only [List.mem_cons, List.not_mem_nil, or_false] at hp
    subst hp
    simp [KnownR]
  · split at hp
    · exact info_known s data p hp
    · split at hp
      · exact info_known s data p hp
      · split at hp
        · split at hp
          · simp only [List.mem_cons, List.not_mem_nil, or_false] at hp
            subst hp
            simp [KnownR]
          · split at hp
            · simp only [List.mem_cons, List.not_mem_nil, or_false] at hp
              subst hp
              simp [KnownR]
            · simp only [List.mem_cons, List.not_mem_nil, or_false] at hp
              rcases hp with rfl | rfl <;> simp [KnownR]
        · simp only [List.mem_cons, List.not_mem_nil, or_false] at hp
          subst hp
          simp [KnownR]

/-- One message's. -/
theorem one_form (s : Sk) (b : List UInt8) (hnm : s.name.length ≤ 1000) :
    (∃ l, (oneR s b).2.1 = rowL l ∧ RowOk l) ∨ ((oneR s b).1.phase = 2 ∧ TailOk s.sectors 2 (oneR s b).2.1) := by
  have hnil : ∃ l, ([] : List UInt8) = rowL l ∧ RowOk l := ⟨[], rfl, fun _ h => by cases h⟩
  rw [oneR]
  split
  · split <;> exact .inl hnil
  · split
    · exact .inl hnil
    · split
      · exact .inl hnil
      · split
        · rw [expName]
          split
          · exact .inl hnil
          · right
            refine ⟨rfl, .inr ⟨rfl, ?_⟩⟩
            refine ⟨bytesOf (if s.ro then 367 else 365) 2, bytesOf_length _ _, ?_⟩
            simp only
            split
            · left; simp [expL, numB]
            · right; simp [expL, numB]
        · left
          refine ⟨((ansR s (optR b).1 (optR b).2.1).2).map fun p => ((optR b).1, p.1, p.2), ?_, ?_⟩
          · simp only [saidL, rowL, List.flatMap_map]
          · intro p hp
            obtain ⟨q, hq, rfl⟩ := List.mem_map.1 hp
            exact ⟨ans_known _ _ _ q hq, (ans_small s _ _ hnm).2 q hq⟩

theorem feedF_form : ∀ (k : Nat) (s : Sk) (b : List UInt8), s.name.length ≤ 1000 → ∃ l t, (feedF k s b).2.1 = rowL l ++ t ∧ RowOk l ∧ TailOk s.sectors (feedF k s b).1.phase t
  | 0, s, b, _ => ⟨[], [], rfl, (fun _ h => by cases h), .inl rfl⟩
  | k + 1, s, b, hnm => by
    obtain ⟨f1, f2, f3, _⟩ := oneR_facts s b hnm
    rw [feedF]
    split
    · split
      · rename_i h
        rw [one_zero s b h]
        exact ⟨[], [], rfl, (fun _ h => by cases h), .inl rfl⟩
      · rcases one_form s b hnm with ⟨l, hl, hok⟩ | ⟨hp, ht⟩
        · obtain ⟨l2, t, h2, h3, h4⟩ := feedF_form k (oneR s b).1 (b.drop (oneR s b).2.2) (by rw [f2]; exact hnm)
          rw [f3] at h4
          refine ⟨l ++ l2, t, ?_, ?_, h4⟩
          · simp only [hl, h2, rowL, List.flatMap_append, List.append_assoc]
          · intro p hp
            rcases List.mem_append.1 hp with h | h
            · exact hok p h
            · exact h3 p h
        · have h0 : feedF k (oneR s b).1 (b.drop (oneR s b).2.2) = ((oneR s b).1, [], 0) := by
            cases k with
            | zero => rfl
            | succ k => rw [feedF, if_neg (by omega)]
          rw [h0]
          refine ⟨[], (oneR s b).2.1, by simp [rowL], (fun _ h => by cases h), ?_⟩
          show TailOk s.sectors (oneR s b).1.phase _
          rw [hp]
          exact ht
    · exact ⟨[], [], rfl, (fun _ h => by cases h), .inl rfl⟩
theorem feedR_form (s : Sk) (b : List UInt8) (hnm : s.name.length ≤ 1000) : ∃ l t, (feedR s b).2.1 = rowL l ++ t ∧ RowOk l ∧ TailOk s.sectors (feedR s b).1.phase t := feedF_form _ s b hnm

/-- What is left at a place. -/
def Left (o : List UInt8) (at_ : Nat) (l : List (Nat × Nat × List UInt8)) (t : List UInt8) : Prop := at_ ≤ o.length ∧ o.drop at_ = rowL l ++ t

theorem row_cons (p : Nat × Nat × List UInt8) (l : List (Nat × Nat × List UInt8)) : rowL (p :: l) = optionReplyL (p.1 : Int) (p.2.1 : Int) p.2.2 ++ rowL l := by simp [rowL]

theorem take_mid {α : Type} (x y z : List α) (i j : Nat) (hx : x.length = i) (hy : y.length = j) : ((x ++ (y ++ z)).drop i).take j = y := by
  subst hx; subst hy
  simp

theorem left_next {o : List UInt8} {at_ : Nat} {p : Nat × Nat × List UInt8} {l : List (Nat × Nat × List UInt8)} {t : List UInt8} (h : Left o at_ (p :: l) t) (hk : KnownR p.2.1) (hd : p.2.2.length ≤ 2000) :
    at_ + 20 + p.2.2.length ≤ o.length ∧ (o.drop at_).take 8 = [0, 3, 232, 137, 4, 85, 101, 169] ∧ numOf ((o.drop (at_ + 12)).take 4) = p.2.1 ∧ numOf ((o.drop (at_ + 16)).take 4) = p.2.2.length ∧ Left o (at_ + 20 + p.2.2.length) l t := by
  obtain ⟨h1, h2⟩ := h
  rw [row_cons] at h2
  have hlen : o.length - at_ = 20 + p.2.2.length + (rowL l ++ t).length := by
    rw [← List.length_drop, h2]
    simp only [List.length_append, reply_len]
    omega
  have hk2 : p.2.1 < 4294967296 := by unfold KnownR at hk; omega
  have hA : bytesOf (u64n (p.1 : Int)) 4 = bytesOf (u64n (p.1 : Int)) 4 := rfl
  refine ⟨by omega, ?_, ?_, ?_, by omega, ?_⟩
  · rw [h2]
    simp [optionReplyL]
  · rw [← List.drop_drop, h2]
    have e : optionReplyL (p.1 : Int) (p.2.1 : Int) p.2.2 ++ rowL l ++ t = ([0, 3, 232, 137, 4, 85, 101, 169] ++ bytesOf (u64n (p.1 : Int)) 4) ++ (bytesOf (u64n (p.2.1 : Int)) 4 ++ (bytesOf p.2.2.length 4 ++ p.2.2 ++ rowL l ++ t)) := by
      simp only [optionReplyL, List.append_assoc]
    rw [e, take_mid _ _ _ 12 4 (by simp [bytesOf_length]) (bytesOf_length _ _), numOf_bytesOf, u64n_nat _ (by omega)]
    exact Nat.mod_eq_of_lt hk2
  · rw [← List.drop_drop, h2]
    have e : optionReplyL (p.1 : Int) (p.2.1 : Int) p.2.2 ++ rowL l ++ t = ([0, 3, 232, 137, 4, 85, 101, 169] ++ bytesOf (u64n (p.1 : Int)) 4 ++ bytesOf (u64n (p.2.1 : Int)) 4) ++ (bytesOf p.2.2.length 4 ++ (p.2.2 ++ rowL l ++ t)) := by
      simp only [optionReplyL, List.append_assoc]
    rw [e, take_mid _ _ _ 16 4 (by simp [bytesOf_length]) (bytesOf_length _ _), numOf_bytesOf]
    exact Nat.mod_eq_of_lt (by omega)
  · rw [Nat.add_assoc, ← List.drop_drop, h2, List.append_assoc]
    exact List.drop_left' (reply_len _ _ _)

theorem tail_facts {S ph : Nat} {t : List UInt8} (hS : S ≤ 8192) (h : TailOk S ph t) : t = [] ∨ (ph = 2 ∧ 8 ≤ t.length ∧ (t.take 8 == [0, 3, 232, 137, 4, 85, 101, 169]) = false ∧ numOf (t.take 8) = S * 64 ∧ (t.length = 10 ∨ (t.length = 134 ∧ t.drop 10 = zeros 124))) := by
  rcases h with h | ⟨hp, u, hu, h⟩
  · exact .inl h
  · right
    have hn : numOf (bytesOf (S * 64) 8) = S * 64 := by rw [numOf_bytesOf]; exact Nat.mod_eq_of_lt (by omega)
    have ht : t.take 8 = bytesOf (S * 64) 8 := by
      rcases h with rfl | rfl
      · exact List.take_left' (bytesOf_length _ _)
      · rw [List.append_assoc]; exact List.take_left' (bytesOf_length _ _)
    have hl : t.length = 10 ∨ (t.length = 134 ∧ t.drop 10 = zeros 124) := by
      rcases h with rfl | rfl
      · left; simp [bytesOf_length, hu]
      · right
        refine ⟨by simp [bytesOf_length, hu, zeros_length], ?_⟩
        exact List.drop_left' (by simp [bytesOf_length, hu])
    refine ⟨hp, by omega, ?_, by rw [ht, hn], hl⟩
    rw [ht]
    refine beq_eq_false_iff_ne.2 fun e => ?_
    have : numOf (bytesOf (S * 64) 8) = 1100100111001001 := by rw [e]; decide
    omega
end Go.Proofs.Ytnpcpbjoonjaoaa
