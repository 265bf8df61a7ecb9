/- OctetsParts: the walk -/
import Derived.Test.YtnhfpjjmhanehaaSplitLaw
namespace Go.Proofs.Ytnhfpjjmhanehaa
set_option linter.unusedVariables false
set_option linter.unusedSimpArgs false
open Go.RowKit

theorem below_drewN {B : Nat} {a w : World} (h : Below B a w) (n : Nat) : Below B a (w.drewN n) := ⟨h.os, h.tape, h.output, h.size, h.block⟩

def PartsRel (s x n : Nat) (L : List (Nat × Nat)) (w : World) (nv i : Value) (wr : World) : Prop :=
  ∃ k y m : Nat, i = .int .i64 k ∧ nv = .int .i64 y ∧ k ≤ L.length ∧ L.drop k = splitL s y m ∧ y + m = x + n ∧ (k = 0 ∨ m = 0 ∨ y % s = 0) ∧ x ≤ y ∧ Below w.heap.size w wr

theorem quot_same (s y t : Nat) (hs : 1 ≤ s) (h1 : 1 ≤ t) (h2 : t ≤ s - y % s) : (y + t - 1) / s = y / s := by
  have hm := Nat.mod_lt y hs
  have hd := Nat.div_add_mod y s
  have h3 : y % s + t - 1 < s := by omega
  have : y + t - 1 = s * (y / s) + (y % s + t - 1) := by
    generalize s * (y / s) = z at *
    omega
  rw [this, Nat.mul_add_div (by omega), Nat.div_eq_of_lt h3]
  simp

theorem next_zero (s y m : Nat) (hs : 1 ≤ s) (hm : 0 < m - min m (s - y % s)) : (y + min m (s - y % s)) % s = 0 := by
  have h1 := Nat.mod_lt y hs
  have hd := Nat.div_add_mod y s
  have : y + min m (s - y % s) = s * (y / s + 1) := by rw [Nat.mul_add]; omega
  rw [this]; exact Nat.mul_mod_right _ _

set_option maxRecDepth 100000 in
set_option maxHeartbeats 2000000 in
theorem law_OctetsParts (x n s : Int) (w : World) (hx : (Lit.int .i64 x).wf = true) (hn : (Lit.int .i64 n).wf = true) (hs : (Lit.int .i64 s).wf = true) :
    Calls Try.prog 9 #[.int .i64 x, .int .i64 n, .int .i64 s] w fun e w' => e = .returned (.bool true) ∧ Below w.heap.size w w' := by
  replace hx := bounds_i64 hx
  replace hn := bounds_i64 hn
  replace hs := bounds_i64 hs
  by_cases hv : validB x n s
  · obtain ⟨v1, v2, v3, v4, v5⟩ := hv
    obtain ⟨x, rfl⟩ := Int.eq_ofNat_of_zero_le v3
    obtain ⟨n, rfl⟩ := Int.eq_ofNat_of_zero_le v4
    obtain ⟨s, rfl⟩ := Int.eq_ofNat_of_zero_le (show 0 ≤ s by omega)
    have hs1 : 1 ≤ s := by omega
    have hL := splitL_length s (by omega) n x
    have hxi : (x : Int) ≤ 2147483647 - (n : Int) := by omega
    go_enter Try.func9, Try.ntmps9
    go_wp2_with fail
    refine (split_good x n s _ (by omega) (by omega) (by omega) (by omega)).mono ?_
    rintro e w1 ⟨a1, c1, rfl, hown1, hb1⟩
    have HO1 := Lib.hid hown1
    have HB1 := Lib.hid hb1
    clear hown1 hb1
    have HST := Lib.hid (show (splitL s x n).drop 0 = splitL s x n from rfl)
    generalize hLL : splitL s x n = L at HO1 hL ⊢
    rw [hLL] at HST
    have HLL := Lib.hid hLL
    clear hLL
    go_wp2_with fail
    go_loopw [8, 9] (fun nv i wr => PartsRel s x n L w1 nv i wr) (fun _ i _ => L.length - (intOf i).toNat)
    case atStart => exact ⟨0, x, n, rfl, rfl, Nat.zero_le _, HLL.out.symm, rfl, .inl rfl, Nat.le_refl _, Below.refl _ _⟩
    case round =>
      obtain ⟨k, y, m, rfl, rfl, hk, hdrop, hym, hz, hxy, hbl⟩ := hrel
      have HBL := Lib.hid hbl
      clear hbl
      by_cases hlt : k < L.length
      · have hm0 : 0 < m := by
          rcases Nat.eq_zero_or_pos m with h | h
          · subst h
            rw [splitL_zero] at hdrop
            have := congrArg List.length hdrop
            simp at this
            omega
          · exact h
        have hmod := Nat.mod_lt y hs1
        have hq := quot_same s y (min m (s - y % s)) hs1 (by omega) (Nat.min_le_right _ _)
        have hnz := next_zero s y m hs1
        rw [List.drop_eq_getElem_cons hlt, splitL_cons s y m hs1 hm0, List.cons.injEq] at hdrop
        obtain ⟨hLk, hdrop⟩ := hdrop
        obtain ⟨g1, rfl, _, _, p1, p2⟩ := (HO1.out.below HBL.out).pair k hlt
        rw [hLk] at p1 p2
        have ht1 : 1 ≤ min m (s - y % s) := by omega
        have ht2 : min m (s - y % s) ≤ m := Nat.min_le_left _ _
        generalize min m (s - y % s) = t at *
        have HD := Lib.hid hdrop
        have HNZ := Lib.hid hnz
        have i1 : (y : Int).tdiv (s : Int) = ((y / s : Nat) : Int) := by rw [Int.tdiv_eq_ediv_of_nonneg (by omega)]; simp
        have i2 : ((y : Int) + (t : Int) - 1).tdiv (s : Int) = ((y / s : Nat) : Int) := by
          rw [Int.tdiv_eq_ediv_of_nonneg (by omega), show ((y : Int) + (t : Int) - 1) = ((y + t - 1 : Nat) : Int) by omega, ← Int.natCast_ediv, hq]
        have i3 : IntKind.i64.wrap ((y : Int) + (t : Int)) = (y : Int) + (t : Int) := IntWalk.i64_in _ (by omega)
        have i4 : IntKind.i64.wrap ((y : Int) + (t : Int) - 1) = (y : Int) + (t : Int) - 1 := IntWalk.i64_in _ (by omega)
        clear hq hnz hLk hdrop
        have b1 : (0 : Int) ≤ (k : Int) := by omega
        have b2 : (k : Int) < (L.length : Int) := by omega
        have d1 : decide ((t : Int) < 1) = false := by simp; omega
        have d2 : decide (n < t) = false := by simp; omega
        by_cases hk00 : k = 0
        · subst hk00
          go_wp2_with fail
          go_quiet (fail)
          go_wp2_with fail
          exact ⟨⟨1, y + t, m - t, rfl, by go_num, by omega, HD.out, by omega, by have := HNZ.out; omega, by omega, below_drewN HBL.out _⟩, by simp [intOf]; omega⟩
        · have d3 : decide (0 < k) = true := by simp; omega
          have d4 : decide ((0 : Int) < (k : Int)) = true := by simp; omega
          have i5 : (y : Int).tmod (s : Int) = 0 := by
            rw [Int.tmod_eq_emod_of_nonneg (by omega), ← Int.natCast_emod, show y % s = 0 by omega]
            rfl
          go_wp2_with fail
          go_quiet (fail)
          go_wp2_with fail
          exact ⟨⟨k + 1, y + t, m - t, by go_num, by go_num, by omega, HD.out, by omega, by have := HNZ.out; omega, by omega, below_drewN HBL.out _⟩, by simp [intOf]; omega⟩
      · have hk' : k = L.length := by omega
        subst hk'
        have hm0 : m = 0 := by
          rcases Nat.eq_zero_or_pos m with h | h
          · exact h
          · rw [List.drop_length, splitL_cons s y m hs1 h] at hdrop
            cases hdrop
        subst hm0
        have hd : ((y : Int) == (x : Int) + (n : Int)) = true := by simp; omega
        clear hdrop
        go_wp2_with fail
        refine (alive_any _).mono ?_
        rintro e w3 ⟨rfl, hb⟩
        have HB := Lib.hid (HB1.out.trans ((HBL.out.trans (hb.mono HBL.out.size)).mono HB1.out.size))
        clear hb
        go_wp2_with fail
        go_ret
        exact ⟨by simp, HB.out⟩
  · have C1 := Lib.hid (split_bad x n s w hx hn hs hv)
    unfold validB at hv
    by_cases h1 : x < 0
    · go_enter Try.func9, Try.ntmps9
      go_wp2_with fail
      refine C1.out.mono ?_
      rintro e w1 ⟨rfl, rfl⟩
      clear C1
      go_wp2_with fail
      refine (alive_any _).mono ?_
      rintro e w3 ⟨rfl, hb⟩
      go_wp2_with fail
      go_ret
      exact ⟨rfl, hb⟩
    · by_cases h2 : n < 0
      · go_enter Try.func9, Try.ntmps9
        go_wp2_with fail
        refine C1.out.mono ?_
        rintro e w1 ⟨rfl, rfl⟩
        clear C1
        go_wp2_with fail
        refine (alive_any _).mono ?_
        rintro e w3 ⟨rfl, hb⟩
        go_wp2_with fail
        go_ret
        exact ⟨rfl, hb⟩
      · by_cases h3 : s < 1
        · go_enter Try.func9, Try.ntmps9
          go_wp2_with fail
          refine C1.out.mono ?_
          rintro e w1 ⟨rfl, rfl⟩
          clear C1
          go_wp2_with fail
          refine (alive_any _).mono ?_
          rintro e w3 ⟨rfl, hb⟩
          go_wp2_with fail
          go_ret
          exact ⟨rfl, hb⟩
        · by_cases h4 : 65536 < n
          · go_enter Try.func9, Try.ntmps9
            go_wp2_with fail
            refine C1.out.mono ?_
            rintro e w1 ⟨rfl, rfl⟩
            clear C1
            go_wp2_with fail
            refine (alive_any _).mono ?_
            rintro e w3 ⟨rfl, hb⟩
            go_wp2_with fail
            go_ret
            exact ⟨rfl, hb⟩
          · have h5 : 2147483647 - n < x := by omega
            clear hv
            go_enter Try.func9, Try.ntmps9
            go_wp2_with fail
            refine C1.out.mono ?_
            rintro e w1 ⟨rfl, rfl⟩
            clear C1
            go_wp2_with fail
            refine (alive_any _).mono ?_
            rintro e w3 ⟨rfl, hb⟩
            go_wp2_with fail
            go_ret
            exact ⟨rfl, hb⟩
end Go.Proofs.Ytnhfpjjmhanehaa
