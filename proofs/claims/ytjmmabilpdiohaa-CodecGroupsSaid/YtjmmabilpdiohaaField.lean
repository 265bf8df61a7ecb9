/- codec: fields and numbers of a sector -/
import Derived.Test.YtjmmabilpdiohaaMade
import Derived.Test.YtjmmabilpdiohaaGet
import Derived.Test.YtjmmabilpdiohaaRGet
import Derived.Test.YtjmmabilpdiohaaPut
import Derived.Test.YtjmmabilpdiohaaRPut
import Derived.Test.YtjmmabilpdiohaaFits
import Derived.Test.YtjmmabilpdiohaaSame
import Derived.IntWalk
namespace Go.Proofs.Ytjmmabilpdiohaa
set_option linter.unusedVariables false
set_option linter.unusedSimpArgs false
open Go.RowKit

def inS (l : List UInt8) (i s : Int) : Prop := l.length = 64 ∧ 1 ≤ s ∧ 0 ≤ i ∧ (i + 1) * s ≤ 64
instance (l : List UInt8) (i s : Int) : Decidable (inS l i s) := by unfold inS; infer_instance

theorem mul_big {i s : Int} (hs : 1 ≤ s) (hi : 0 ≤ i) : s ≤ (i + 1) * s ∧ i + 1 ≤ (i + 1) * s := by
  obtain ⟨k, rfl⟩ : ∃ k : Nat, (k : Int) = i := ⟨i.toNat, by omega⟩
  obtain ⟨t, rfl⟩ : ∃ t : Nat, (t : Int) = s := ⟨s.toNat, by omega⟩
  have h1 : t ≤ (k + 1) * t := Nat.le_mul_of_pos_left _ (by omega)
  have h2 : k + 1 ≤ (k + 1) * t := Nat.le_mul_of_pos_right _ (by omega)
  constructor <;> (have := Int.ofNat_le.2 h1; have := Int.ofNat_le.2 h2; push_cast at *; assumption)

theorem within_any (a : Option Addr) (n cap : Nat) (l : List UInt8) (i s : Int) (w : World) (hn : l.length = n) :
    Calls Try.prog 24 #[.slice a n cap, .int .i64 i, .int .i64 s] w fun e w' => e = .returned (.bool (decide (inS l i s))) ∧ w = w' := by
  subst hn
  have HD : Hid (decide (inS l i s) = (decide (l.length = 64) && decide (1 ≤ s) && decide (0 ≤ i) && decide ((i + 1) * s ≤ 64))) := Lib.hid (by
    rw [Bool.eq_iff_iff, decide_eq_true_iff]
    simp [inS, and_assoc])
  rw [HD.out]
  clear HD
  by_cases h0 : (l.length : Int) = 64
  · have h0n : l.length = 64 := by omega
    by_cases h1 : 1 ≤ s
    · have hs0 : ¬ s = 0 := by omega
      by_cases h2 : 0 ≤ i
      · have hq : Int.tdiv 64 s = 64 / s := Int.tdiv_eq_ediv_of_nonneg (by decide)
        have hqb : 0 ≤ 64 / s ∧ 64 / s ≤ 64 := ⟨Int.ediv_nonneg (by decide) (by omega), Int.ediv_le_self _ (by decide)⟩
        have hw : wrap64 (64 / s) = 64 / s := IntWalk.wrap64_in _ (by omega)
        have hlt : i < 64 / s ↔ (i + 1) * s ≤ 64 := by
          rw [← Int.le_ediv_iff_mul_le (by omega)]; omega
        by_cases h3 : i < 64 / s
        · have h4 := hlt.1 h3
          go_enter Try.func24, Try.ntmps24
          go_wp2_with fail
          go_ret
          exact ⟨by simp [h0, h0n, h1, h2, h4, hq, hw, h3], rfl⟩
        · have h4 := fun h => h3 (hlt.2 h)
          go_enter Try.func24, Try.ntmps24
          go_wp2_with fail
          go_ret
          exact ⟨by simp [h0, h0n, h1, h2, hq, hw, hlt], rfl⟩
      · go_enter Try.func24, Try.ntmps24
        go_wp2_with fail
        go_ret
        exact ⟨by simp [h0, h0n, h1, h2]; omega, rfl⟩
    · go_enter Try.func24, Try.ntmps24
      go_wp2_with fail
      go_ret
      exact ⟨by simp [h0, h0n, h1]; omega, rfl⟩
  · have h0n : ¬ l.length = 64 := by omega
    go_enter Try.func24, Try.ntmps24
    go_wp2_with fail
    go_ret
    exact ⟨by simp [h0, h0n], rfl⟩

theorem rwithin_any (a : Option Addr) (n cap : Nat) (l : List UInt8) (i s : Int) (w : World) (hn : l.length = n) :
    Calls Try.prog 26 #[.slice a n cap, .int .i64 i, .int .i64 s] w fun e w' => e = .returned (.bool (decide (inS l i s))) ∧ w = w' := by
  subst hn
  have HD : Hid (decide (inS l i s) = (decide (l.length = 64) && decide (1 ≤ s) && decide (0 ≤ i) && decide ((i + 1) * s ≤ 64))) := Lib.hid (by
    rw [Bool.eq_iff_iff, decide_eq_true_iff]
    simp [inS, and_assoc])
  rw [HD.out]
  clear HD
  by_cases h0 : (l.length : Int) = 64
  · have h0n : l.length = 64 := by omega
    by_cases h1 : 1 ≤ s
    · by_cases h5 : s ≤ 64
      · by_cases h2 : 0 ≤ i
        · have hb := mul_big h1 h2
          by_cases h6 : i < 64
          · have hm : (i + 1) * s ≤ 64 * 64 := Int.mul_le_mul (by omega) h5 (by omega) (by omega)
            have hw1 : wrap64 (i + 1) = i + 1 := IntWalk.wrap64_in _ (by omega)
            have hw2 : wrap64 ((i + 1) * s) = (i + 1) * s := IntWalk.wrap64_in _ (by omega)
            go_enter Try.func26, Try.ntmps26
            go_wp2_with fail
            go_ret
            exact ⟨by simp [h0, h0n, h1, h5, h2, h6, hw1, hw2], rfl⟩
          · have h7 : ¬ (i + 1) * s ≤ 64 := by omega
            go_enter Try.func26, Try.ntmps26
            go_wp2_with fail
            go_ret
            exact ⟨by simp [h0, h0n, h1, h5, h2, h6, h7], rfl⟩
        · go_enter Try.func26, Try.ntmps26
          go_wp2_with fail
          go_ret
          exact ⟨by simp [h0, h0n, h1, h5, h2]; omega, rfl⟩
      · have h7 : 0 ≤ i → ¬ (i + 1) * s ≤ 64 := fun h2 => by have := mul_big h1 h2; omega
        go_enter Try.func26, Try.ntmps26
        go_wp2_with fail
        go_ret
        exact ⟨by simp [h0, h0n, h1, h5]; intro h; have := h7 h; omega, rfl⟩
    · go_enter Try.func26, Try.ntmps26
      go_wp2_with fail
      go_ret
      exact ⟨by simp [h0, h0n, h1]; omega, rfl⟩
  · have h0n : ¬ l.length = 64 := by omega
    go_enter Try.func26, Try.ntmps26
    go_wp2_with fail
    go_ret
    exact ⟨by simp [h0, h0n], rfl⟩

/-! ## Field -/
def fieldL (l : List UInt8) (i s : Int) : List UInt8 := if inS l i s then (l.drop (i * s).toNat).take s.toNat else []
def fieldE (l : List UInt8) (i s : Int) : Int := if inS l i s then 0 else 81

/-- The bounds of a field as numbers. -/
theorem inS_nat {l : List UInt8} {i s : Int} (h : inS l i s) : ∃ k t p q : Nat, i = (k : Int) ∧ s = (t : Int) ∧ p = k * t ∧ q = p + t ∧ q ≤ 64 ∧ l.length = 64 ∧ 1 ≤ t ∧ t ≤ 64 ∧ k < 64 ∧ (k : Int) * (t : Int) = (p : Int) ∧ ((k : Int) + 1) * (t : Int) = (q : Int) := by
  obtain ⟨h1, h2, h3, h4⟩ := h
  obtain ⟨k, rfl⟩ : ∃ k : Nat, (k : Int) = i := ⟨i.toNat, by omega⟩
  obtain ⟨t, rfl⟩ : ∃ t : Nat, (t : Int) = s := ⟨s.toNat, by omega⟩
  have hb := mul_big h2 h3
  have e1 : (k : Int) * (t : Int) = ((k * t : Nat) : Int) := by push_cast; rfl
  have e2 : ((k : Int) + 1) * (t : Int) = ((k * t + t : Nat) : Int) := by push_cast; rw [Int.add_mul, Int.one_mul]
  rw [e2] at h4 hb
  exact ⟨k, t, _, _, rfl, rfl, rfl, rfl, by omega, h1, by omega, by omega, by omega, e1, e2⟩

theorem field_any (a : Option Addr) (n cap : Nat) (l : List UInt8) (i s : Int) (w : World) (hn : l.length = n) (hc : n ≤ cap) (hr : Rd w w.heap.size a (bs l)) :
    Calls Try.prog 11 #[.slice a n cap, .int .i64 i, .int .i64 s] w (Made2 (fieldL l i s) (fieldE l i s) w) := by
  have C := Lib.hid (within_any a n cap l i s w hn)
  unfold fieldL fieldE
  have HR := Lib.hid hr
  have HN := Lib.hid hn
  clear hr hn
  by_cases h : inS l i s
  · rw [if_pos h, if_pos h]
    rw [decide_eq_true h] at C
    obtain ⟨k, t, p, q, rfl, rfl, hp, hq, hq64, hl, ht1, ht, hk, e1, e2⟩ := inS_nat h
    clear h
    have eN : ((k : Int) * (t : Int)).toNat = k * t := by rw [e1, Int.toNat_natCast, hp]
    rw [eN, Int.toNat_natCast]
    clear eN
    have hn := HN.out
    have w1 : IntKind.i64.wrap ((k : Int) * (t : Int)) = (p : Int) := by rw [e1]; exact IntWalk.i64_in _ (by omega)
    have w2 : IntKind.i64.wrap ((k : Int) + 1) = (k : Int) + 1 := IntWalk.i64_in _ (by omega)
    have w3 : IntKind.i64.wrap (((k : Int) + 1) * (t : Int)) = (q : Int) := by rw [e2]; exact IntWalk.i64_in _ (by omega)
    have b1 : (p : Int) ≤ (q : Int) := by omega
    have b2 : (q : Int) ≤ (cap : Int) := by omega
    clear e1 e2 hn
    go_enter Try.func11, Try.ntmps11
    go_wp2_with fail
    refine C.out.mono ?_
    rintro e w4 ⟨rfl, rfl⟩
    go_wp2_with fail
    refine (clone_any _ _ _ ((l.drop (k * t)).take t) _ (by simp; omega) (by omega) (by rw [bs_take, bs_drop]; exact (HR.out.drop _).take _) (Nat.le_refl _)).mono ?_
    rintro e w5 ⟨a5, n5, c5, rfl, hown5, hb5⟩
    have HO5 := Lib.hid hown5
    have HB5 := Lib.hid hb5
    clear hown5 hb5
    go_wp2_with fail
    go_ret2
    exact ⟨_, _, _, rfl, by simpa using HO5.out, HB5.out⟩
  · rw [if_neg h, if_neg h]
    rw [decide_eq_false h] at C
    clear h
    go_enter Try.func11, Try.ntmps11
    go_wp2_with fail
    refine C.out.mono ?_
    rintro e w4 ⟨rfl, rfl⟩
    go_wp2_with fail
    go_ret2
    exact ⟨_, _, _, rfl, OwnB.nil _ _, Below.refl _ _⟩

theorem rfield_any (a : Option Addr) (n cap : Nat) (l : List UInt8) (i s : Int) (w : World) (hn : l.length = n) (hc : n ≤ cap) (hr : Rd w w.heap.size a (bs l)) :
    Calls Try.prog 13 #[.slice a n cap, .int .i64 i, .int .i64 s] w (Made2 (fieldL l i s) (fieldE l i s) w) := by
  have C := Lib.hid (rwithin_any a n cap l i s w hn)
  unfold fieldL fieldE
  have HR := Lib.hid hr
  have HN := Lib.hid hn
  clear hr hn
  by_cases h : inS l i s
  · rw [if_pos h, if_pos h]
    rw [decide_eq_true h] at C
    obtain ⟨k, t, p, q, rfl, rfl, hp, hq, hq64, hl, ht1, ht, hk, e1, e2⟩ := inS_nat h
    clear h
    have eN : ((k : Int) * (t : Int)).toNat = k * t := by rw [e1, Int.toNat_natCast, hp]
    rw [eN, Int.toNat_natCast]
    clear eN
    have hn := HN.out
    have w1 : IntKind.i64.wrap ((k : Int) * (t : Int)) = (p : Int) := by rw [e1]; exact IntWalk.i64_in _ (by omega)
    have w2 : IntKind.i64.wrap ((k : Int) + 1) = (k : Int) + 1 := IntWalk.i64_in _ (by omega)
    have w3 : IntKind.i64.wrap (((k : Int) + 1) * (t : Int)) = (q : Int) := by rw [e2]; exact IntWalk.i64_in _ (by omega)
    have b1 : (p : Int) ≤ (q : Int) := by omega
    have b2 : (q : Int) ≤ (cap : Int) := by omega
    have HRt : Hid (Rd (w.alloc (Obj.cells #[] 5)) w.heap.size (Option.map (fun x => x.add (k * t)) a) (bs ((l.drop (k * t)).take t))) := Lib.hid (by rw [bs_take, bs_drop]; exact ((HR.out.alloc (Nat.le_refl _) _).drop _).take _)
    have HL : Hid (((l.drop (k * t)).take t).length = t) := Lib.hid (by simp; omega)
    clear e1 e2 hn
    go_enter Try.func13, Try.ntmps13
    go_wp2_with fail
    refine C.out.mono ?_
    rintro e w4 ⟨rfl, rfl⟩
    go_wp2_with (at_builtin; go_loud (refine wpList_app rfl _ _ rfl w.heap.size _ [] rfl (OwnB.lit0 w) w.heap.size _ _ _ _ rfl (by rw [HL.out]; omega) HRt.out (by simp; omega) (by simp) ?_))
    intro v2 w2 hown2 hgr2 hat2
    have hb := below_app ((Below.refl w.heap.size w).alloc (Nat.le_refl _) _) (OwnB.lit0 w) (Nat.le_refl _) hgr2
    obtain ⟨a2, c2, rfl, _⟩ := hown2.shape
    have HO := Lib.hid hown2
    clear hown2
    go_wp2_with fail
    go_ret2
    exact ⟨_, _, _, rfl, by simpa using HO.out, hb⟩
  · rw [if_neg h, if_neg h]
    rw [decide_eq_false h] at C
    clear h
    go_enter Try.func13, Try.ntmps13
    go_wp2_with fail
    refine C.out.mono ?_
    rintro e w4 ⟨rfl, rfl⟩
    go_wp2_with fail
    go_ret2
    exact ⟨_, _, _, rfl, OwnB.nil _ _, Below.refl _ _⟩

end Go.Proofs.Ytjmmabilpdiohaa
