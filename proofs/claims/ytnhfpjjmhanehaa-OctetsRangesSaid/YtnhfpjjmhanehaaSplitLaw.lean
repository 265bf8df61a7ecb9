/- OctetsRanges, OctetsParts, OctetsOnce: the walks -/
import Derived.Test.YtnhfpjjmhanehaaOctLaws
import Derived.Test.YtnhfpjjmhanehaaSplitR
namespace Go.Proofs.Ytnhfpjjmhanehaa
set_option linter.unusedVariables false
set_option linter.unusedSimpArgs false
open Go.RowKit

theorem rfits_any (x y z : Int) (w : World) (hx : -9223372036854775808 ≤ x ∧ x ≤ 9223372036854775807) (hy : -9223372036854775808 ≤ y ∧ y ≤ 9223372036854775807) (hz : -9223372036854775808 ≤ z ∧ z ≤ 9223372036854775807) :
    Calls Try.prog 22 #[.int .i64 x, .int .i64 y, .int .i64 z] w fun e w' => e = .returned (.bool (fitsB x y z)) ∧ w = w' := by
  by_cases h1 : 0 ≤ x
  · by_cases h2 : 0 ≤ y
    · by_cases h3 : x ≤ z
      · by_cases h4 : y ≤ z - x
        · rw [fits_yes ⟨h1, h2, h3, h4⟩]
          go_enter Try.func22, Try.ntmps22
          go_wp2_with fail
          go_ret
          exact ⟨by simp [h1, h2, h3, h4], rfl⟩
        · rw [fits_no (by omega)]
          go_enter Try.func22, Try.ntmps22
          go_wp2_with fail
          go_ret
          exact ⟨by simp [h1, h2, h3, h4], rfl⟩
      · rw [fits_no (by omega)]
        go_enter Try.func22, Try.ntmps22
        go_wp2_with fail
        go_ret
        exact ⟨by simp [h1, h2, h3], rfl⟩
    · rw [fits_no (by omega)]
      go_enter Try.func22, Try.ntmps22
      go_wp2_with fail
      go_ret
      exact ⟨by simp [h1, h2], rfl⟩
  · rw [fits_no (by omega)]
    go_enter Try.func22, Try.ntmps22
    go_wp2_with fail
    go_ret
    exact ⟨by simp [h1], rfl⟩

/-- The cells of the i-th pair. -/
theorem OwnP.pair {w : World} {base n : Nat} {a : Option Addr} {c : Nat} {l : List (Nat × Nat)} (h : OwnP w base (.slice a n c) l) (i : Nat) (hi : i < l.length) :
    ∃ g, a = some ⟨g, 0, none⟩ ∧ base ≤ g ∧ g < w.heap.size ∧ w.cell? ⟨g, i * 2, none⟩ = some (.int .i64 ((l[i]).1 : Int)) ∧ w.cell? ⟨g, i * 2 + 1, none⟩ = some (.int .i64 ((l[i]).2 : Int)) := by
  obtain ⟨a', c', hv, _⟩ := h.shape
  injection hv with h1 h2 h3
  subst h2
  unfold OwnP at h
  obtain ⟨g, c2, hv, hg, hlt⟩ := h.form (by omega)
  injection hv with h4 h5 h6
  subst h4; subst h6
  obtain ⟨e1, e2⟩ := cs2_get l i hi
  refine ⟨g, rfl, hg, hlt, ?_, ?_⟩
  · rw [h.cellAt _ (by omega), Nat.mul_comm, e1]
  · rw [h.cellAt _ (by omega), Nat.mul_comm, e2]

theorem eq_pairs (a b c d : Int) (W : World) : (Op.equalIn 10000 38 (.agg #[.int .i64 a, .int .i64 b]) (.agg #[.int .i64 c, .int .i64 d])).run Try.prog W = .ok ([a, b] == [c, d]) W :=
  run_equalIn_ints 9998 38 2 3 .i64 .i64 Try.underlying38 Try.underlying3 (fun _ => by kernel_rfl) (fun _ => by kernel_rfl) [a, b] [c, d] rfl rfl W

def IdxRel (n : Nat) (w : World) (i : Value) (wr : World) : Prop := ∃ k : Nat, k ≤ n ∧ i = .int .i64 k ∧ Below w.heap.size w wr

set_option maxHeartbeats 1000000 in
theorem law_OctetsRanges (x n s : Int) (w : World) (hx : (Lit.int .i64 x).wf = true) (hn : (Lit.int .i64 n).wf = true) (hs : (Lit.int .i64 s).wf = true) :
    Calls Try.prog 8 #[.int .i64 x, .int .i64 n, .int .i64 s] w fun e w' => e = .returned (.bool true) ∧ Below w.heap.size w w' := by
  replace hx := bounds_i64 hx
  replace hn := bounds_i64 hn
  replace hs := bounds_i64 hs
  by_cases hv : validB x n s
  · obtain ⟨v1, v2, v3, v4, v5⟩ := hv
    obtain ⟨x, rfl⟩ := Int.eq_ofNat_of_zero_le v3
    obtain ⟨n, rfl⟩ := Int.eq_ofNat_of_zero_le v4
    obtain ⟨s, rfl⟩ := Int.eq_ofNat_of_zero_le (show 0 ≤ s by omega)
    have hL := splitL_length s (by omega) n x
    go_enter Try.func8, Try.ntmps8
    go_wp2_with fail
    refine (split_good x n s _ (by omega) (by omega) (by omega) (by omega)).mono ?_
    rintro e w1 ⟨a1, c1, rfl, hown1, hb1⟩
    have HO1 := Lib.hid hown1
    have HB1 := Lib.hid hb1
    clear hown1 hb1
    go_wp2_with fail
    refine (rsplit_good x n s _ (by omega) (by omega) (by omega) (by omega)).mono ?_
    rintro e w2 ⟨a2, c2, rfl, hown2, hb2⟩
    have HO2 := Lib.hid hown2
    have HO1 := Lib.hid (HO1.out.below hb2)
    have HB2 := Lib.hid (HB1.out.trans (hb2.mono HB1.out.size))
    clear hown2 hb2 HB1
    generalize hLL : splitL s x n = L at HO1 HO2 hL ⊢
    clear hLL
    go_wp2_with fail
    go_loopw [9] (fun i wr => IdxRel L.length w2 i wr) (fun i _ => L.length - (intOf i).toNat)
    case atStart => exact ⟨0, Nat.zero_le _, rfl, Below.refl _ _⟩
    case round =>
      obtain ⟨k, hk, rfl, hbl⟩ := hrel
      have HBL := Lib.hid hbl
      clear hbl
      by_cases hlt : k < L.length
      · obtain ⟨g1, rfl, _, _, p1, p2⟩ := (HO1.out.below HBL.out).pair k hlt
        obtain ⟨g2, rfl, _, _, p3, p4⟩ := (HO2.out.below HBL.out).pair k hlt
        have he := eq_pairs
        go_wp2_with fail
        go_region
        go_wp2_with fail
        go_roundw
        case rel => exact ⟨k + 1, by omega, by go_num, HBL.out.drew⟩
        case measure => simp [intOf]; omega
      · go_wp2_with fail
        refine (alive_any _).mono ?_
        rintro e w3 ⟨rfl, hb⟩
        have HB := Lib.hid (HB2.out.trans ((HBL.out.trans (hb.mono HBL.out.size)).mono HB2.out.size))
        clear hb
        go_wp2_with fail
        refine (fits_any x n s _ (by omega) (by omega) (by omega)).mono ?_
        rintro e w4 ⟨rfl, rfl⟩
        go_wp2_with fail
        refine (rfits_any x n s _ (by omega) (by omega) (by omega)).mono ?_
        rintro e w4 ⟨rfl, rfl⟩
        go_wp2_with fail
        go_ret
        exact ⟨by simp, HB.out⟩
  · have C1 := Lib.hid (split_bad x n s w hx hn hs hv)
    have C2 := Lib.hid (rsplit_bad x n s w hx hn hv)
    go_enter Try.func8, Try.ntmps8
    go_wp2_with fail
    refine C1.out.mono ?_
    rintro e w1 ⟨rfl, rfl⟩
    go_wp2_with fail
    refine C2.out.mono ?_
    rintro e w1 ⟨rfl, rfl⟩
    clear C1 C2
    go_wp2_with fail
    refine wp_loop_once ?_
    go_wp2_with fail
    refine (alive_any _).mono ?_
    rintro e w3 ⟨rfl, hb⟩
    go_wp2_with fail
    refine (fits_any x n s _ hx hn hs).mono ?_
    rintro e w4 ⟨rfl, rfl⟩
    go_wp2_with fail
    refine (rfits_any x n s _ hx hn hs).mono ?_
    rintro e w4 ⟨rfl, rfl⟩
    go_wp2_with fail
    go_ret
    exact ⟨by simp, hb⟩
end Go.Proofs.Ytnhfpjjmhanehaa
