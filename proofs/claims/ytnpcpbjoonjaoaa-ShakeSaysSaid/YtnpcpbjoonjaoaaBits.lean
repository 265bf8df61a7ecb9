/- wire: what is taken, bit by bit (plain facts); the contract of 'option' -/
import Derived.Test.YtnpcpbjoonjaoaaTakeH
import Derived.Test.YtnpcpbjoonjaoaaWireLaw
namespace Go.Proofs.Ytnpcpbjoonjaoaa
set_option linter.unusedVariables false
set_option linter.unusedSimpArgs false
open Go.RowKit

theorem begins_take (b s : List UInt8) (k : Nat) (h : beginsB b s = true) : beginsB (b.take k) s = true := by
  simp only [beginsB, beq_iff_eq] at h ⊢
  rw [List.take_take, Nat.min_comm, ← List.take_take, h, List.take_take, List.length_take]
theorem begins_app_no (b m s : List UInt8) (h : beginsB b s = false) : beginsB (b ++ m) s = false := by
  cases hb : beginsB (b ++ m) s with
  | false => rfl
  | true =>
    have := begins_take (b ++ m) s b.length hb
    rw [List.take_left] at this
    rw [h] at this; cases this
theorem begins_app (b m s : List UInt8) (h : s.length ≤ b.length) : beginsB (b ++ m) s = beginsB b s := by
  simp only [beginsB]
  rw [List.take_append_of_le_length h, List.take_of_length_le (show s.length ≤ (b ++ m).length by rw [List.length_append]; omega), List.take_of_length_le h]

theorem drop_take_app (b m : List UInt8) (i k : Nat) (h : i + k ≤ b.length) : ((b ++ m).drop i).take k = (b.drop i).take k := by
  rw [List.drop_append_of_le_length (by omega), List.take_append_of_le_length (by rw [List.length_drop]; omega)]
theorem drop_take_take (b : List UInt8) (i k j : Nat) (h : i + k ≤ j) : ((b.take j).drop i).take k = (b.drop i).take k := by
  rw [List.drop_take, List.take_take, Nat.min_eq_left (by omega)]

theorem opt_cases (b : List UInt8) : optR b = (0, [], 0, 201) ∨ optR b = (0, [], 0, 0) ∨
    (beginsB b ihave = true ∧ 16 ≤ b.length ∧ numOf ((b.drop 12).take 4) ≤ 1024 ∧ numOf ((b.drop 12).take 4) ≤ b.length - 16 ∧
      optR b = (numOf ((b.drop 8).take 4), (b.drop 16).take (numOf ((b.drop 12).take 4)), 16 + numOf ((b.drop 12).take 4), 0)) := by
  unfold optR
  by_cases h1 : beginsB b ihave = false
  · rw [if_pos h1]; exact .inl rfl
  · rw [if_neg h1]
    by_cases h2 : b.length < 16
    · rw [if_pos h2]; exact .inr (.inl rfl)
    · rw [if_neg h2]
      by_cases h3 : 1024 < numOf ((b.drop 12).take 4)
      · rw [if_pos h3]; exact .inl rfl
      · rw [if_neg h3]
        by_cases h4 : b.length - 16 < numOf ((b.drop 12).take 4)
        · rw [if_pos h4]; exact .inr (.inl rfl)
        · rw [if_neg h4]; exact .inr (.inr ⟨by simpa using h1, by omega, by omega, by omega, rfl⟩)

theorem opt_err (b m : List UInt8) (h : optR b = (0, [], 0, 201)) : optR (b ++ m) = (0, [], 0, 201) := by
  by_cases h1 : beginsB b ihave = false
  · rw [optR, if_pos (begins_app_no b m _ h1)]
  · by_cases h2 : b.length < 16
    · rw [optR, if_neg h1, if_pos h2] at h; simp at h
    · by_cases h3 : 1024 < numOf ((b.drop 12).take 4)
      · have e : ((b ++ m).drop 12).take 4 = (b.drop 12).take 4 := drop_take_app b m 12 4 (by omega)
        rw [optR, begins_app b m _ (by show 8 ≤ b.length; omega), if_neg h1, if_neg (by rw [List.length_append]; omega), e, if_pos h3]
      · rw [optR, if_neg h1, if_neg h2, if_neg h3] at h
        by_cases h4 : b.length - 16 < numOf ((b.drop 12).take 4)
        · rw [if_pos h4] at h; simp at h
        · rw [if_neg h4] at h; simp at h

theorem opt_more (b m : List UInt8) (hb : beginsB b ihave = true) (h16 : 16 ≤ b.length) (hn : numOf ((b.drop 12).take 4) ≤ 1024) (hl : numOf ((b.drop 12).take 4) ≤ b.length - 16) :
    optR (b ++ m) = (numOf ((b.drop 8).take 4), (b.drop 16).take (numOf ((b.drop 12).take 4)), 16 + numOf ((b.drop 12).take 4), 0) := by
  have e1 : ((b ++ m).drop 12).take 4 = (b.drop 12).take 4 := drop_take_app b m 12 4 (by omega)
  have e2 : ((b ++ m).drop 8).take 4 = (b.drop 8).take 4 := drop_take_app b m 8 4 (by omega)
  have e3 : ((b ++ m).drop 16).take (numOf ((b.drop 12).take 4)) = (b.drop 16).take (numOf ((b.drop 12).take 4)) := drop_take_app b m 16 _ (by omega)
  rw [optR, begins_app b m _ (by show 8 ≤ b.length; omega), if_neg (by rw [hb]; simp), if_neg (by rw [List.length_append]; omega), e1, if_neg (by omega), if_neg (by rw [List.length_append]; omega), e2, e3]

theorem opt_less (b : List UInt8) (k : Nat) (hb : beginsB b ihave = true) (h16 : 16 ≤ b.length) (hn : numOf ((b.drop 12).take 4) ≤ 1024) (hl : numOf ((b.drop 12).take 4) ≤ b.length - 16)
    (hk : k < 16 + numOf ((b.drop 12).take 4)) : optR (b.take k) = (0, [], 0, 0) := by
  have hb' := begins_take b ihave k hb
  have hlen : (b.take k).length = k := by rw [List.length_take]; omega
  by_cases h1 : k < 16
  · rw [optR, if_neg (by rw [hb']; simp), if_pos (by omega)]
  · have e1 : ((b.take k).drop 12).take 4 = (b.drop 12).take 4 := drop_take_take b 12 4 k (by omega)
    rw [optR, if_neg (by rw [hb']; simp), if_neg (by omega), e1, if_neg (by omega), if_pos (by omega)]

theorem hdr_cases (b : List UInt8) : hdrR b = (⟨0, 0, 0, 0, 0⟩, 0, 201) ∨ hdrR b = (⟨0, 0, 0, 0, 0⟩, 0, 0) ∨
    (beginsB b magicH = true ∧ 28 ≤ b.length ∧ hdrR b = (⟨numOf ((b.drop 4).take 2), numOf ((b.drop 6).take 2), numOf ((b.drop 8).take 8), numOf ((b.drop 16).take 8), numOf ((b.drop 24).take 4)⟩, 28, 0)) := by
  unfold hdrR
  by_cases h1 : beginsB b magicH = false
  · rw [if_pos h1]; exact .inl rfl
  · rw [if_neg h1]
    by_cases h2 : b.length < 28
    · rw [if_pos h2]; exact .inr (.inl rfl)
    · rw [if_neg h2]; exact .inr (.inr ⟨by simpa using h1, by omega, rfl⟩)
theorem hdr_err (b m : List UInt8) (h : hdrR b = (⟨0, 0, 0, 0, 0⟩, 0, 201)) : hdrR (b ++ m) = (⟨0, 0, 0, 0, 0⟩, 0, 201) := by
  by_cases h1 : beginsB b magicH = false
  · rw [hdrR, if_pos (begins_app_no b m _ h1)]
  · by_cases h2 : b.length < 28
    · rw [hdrR, if_neg h1, if_pos h2] at h; simp at h
    · rw [hdrR, if_neg h1, if_neg h2] at h; simp at h
theorem hdr_more (b m : List UInt8) (hb : beginsB b magicH = true) (h28 : 28 ≤ b.length) :
    hdrR (b ++ m) = (⟨numOf ((b.drop 4).take 2), numOf ((b.drop 6).take 2), numOf ((b.drop 8).take 8), numOf ((b.drop 16).take 8), numOf ((b.drop 24).take 4)⟩, 28, 0) := by
  rw [hdrR, begins_app b m _ (by show 4 ≤ b.length; omega), if_neg (by rw [hb]; simp), if_neg (by rw [List.length_append]; omega), drop_take_app b m 4 2 (by omega), drop_take_app b m 6 2 (by omega), drop_take_app b m 8 8 (by omega), drop_take_app b m 16 8 (by omega), drop_take_app b m 24 4 (by omega)]
theorem hdr_less (b : List UInt8) (k : Nat) (hb : beginsB b magicH = true) (h28 : 28 ≤ b.length) (hk : k < 28) : hdrR (b.take k) = (⟨0, 0, 0, 0, 0⟩, 0, 0) := by
  have hb' := begins_take b magicH k hb
  rw [hdrR, if_neg (by rw [hb']; simp), if_pos (by rw [List.length_take]; omega)]

theorem OwnB.capm {w : World} {base n c : Nat} {a : Option Addr} {l : List UInt8} (h : OwnB w base (.slice a n c) l) : n ≤ c ∧ c ≤ 9223372036854775807 := by
  rcases h.2 with ⟨h', h0⟩ | ⟨_, _, _, _, _, _, hv, _, _, _, _, hc, hm, _⟩
  · injection h' with _ _ e3; subst e3; have := h.len; omega
  · injection hv with _ _ e; subst e; have := h.len; unfold maxLen at hm; omega

set_option maxHeartbeats 1000000 in
theorem option_same (t : Int) (a1 a2 : Option Addr) (n1 c1 n2 c2 : Nat) (l : List UInt8) (w : World) (h1 : l.length = n1) (h2 : l.length = n2) {B1 B2 : Nat} (r1 : Rd w B1 a1 (bs l)) (r2 : Rd w B2 a2 (bs l)) (hB1 : B1 ≤ w.heap.size) (hB2 : B2 ≤ w.heap.size) :
    Calls Try.prog 26 #[.agg #[.int .i64 t, .slice a1 n1 c1], .agg #[.int .i64 t, .slice a2 n2 c2]] w fun e w' => e = .returned (.bool true) ∧ Below w.heap.size w w' := by
  have q1 := conv_rd ((r1.alloc hB1 (Obj.cells #[.int .i64 t, .slice a1 n1 c1] 36)).alloc (by simp; omega) (Obj.cells #[.int .i64 t, .slice a2 n2 c2] 36)) n1 c1 h1
  have q2 := conv_rd ((r2.alloc hB2 (Obj.cells #[.int .i64 t, .slice a1 n1 c1] 36)).alloc (by simp; omega) (Obj.cells #[.int .i64 t, .slice a2 n2 c2] 36)) n2 c2 h2
  have HB := Lib.hid (((Below.refl w.heap.size w).alloc (Nat.le_refl _) (Obj.cells #[.int .i64 t, .slice a1 n1 c1] 36)).alloc (by simp) (Obj.cells #[.int .i64 t, .slice a2 n2 c2] 36))
  clear h1 h2 r1 r2 hB1 hB2
  go_enter Try.func26, Try.ntmps26
  go_wp2_with fail
  go_ret
  exact ⟨rfl, HB.out⟩
end Go.Proofs.Ytnpcpbjoonjaoaa
