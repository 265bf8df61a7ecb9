/- octets: the laws' walks -/
import Derived.Test.YtnhfpjjmhanehaaOct
import Derived.Test.YtnhfpjjmhanehaaFr
namespace Go.Proofs.Ytnhfpjjmhanehaa
set_option linter.unusedVariables false
set_option linter.unusedSimpArgs false
open Go.RowKit

set_option maxHeartbeats 400000 in
theorem alive_any (w : World) : Calls Try.prog 16 #[] w fun e w' => e = .returned (.bool true) ∧ Below w.heap.size w w' := by
  go_enter Try.func16, Try.ntmps16
  go_wp2_with fail
  refine (put_good 258 3 _ (by omega) (by omega) (by decide)).mono ?_
  rintro e w1 ⟨rfl, hown, hb⟩
  have hk := conv_rd (hown.rd.alloc (Nat.le_refl _) (Obj.cells #[Value.int IntKind.u8 255, Value.int IntKind.u8 254] 5)) 3 3 rfl
  have e1 : bytesOf 258 3 = [0, 1, 2] := by decide
  rw [e1] at hk
  have HB := Lib.hid (hb.alloc hb.size (Obj.cells #[Value.int IntKind.u8 255, Value.int IntKind.u8 254] 5))
  clear hown hb e1
  go_wp2_with fail
  have hr : Rd (w1.alloc (Obj.cells #[Value.int IntKind.u8 255, Value.int IntKind.u8 254] 5)) (w1.heap.size + 1) (some ⟨w1.heap.size, 0, none⟩) (bs [255, 254]) := Rd.new w1 (bs [255, 254]) 5
  refine (get_good (some ⟨w1.heap.size, 0, none⟩) 2 [255, 254] _ (by decide) (by decide) hr).mono ?_
  clear hr
  rintro e w2 ⟨rfl, rfl⟩
  have e2 : ((numOf [255, 254] : Nat) : Int) = 65534 := by decide
  rw [e2]
  go_wp2_with fail
  go_ret
  exact ⟨rfl, HB.out⟩

theorem nat_u64 {x : Int} (h : (Lit.int .u64 x).wf = true) : ∃ n : Nat, x = (n : Int) ∧ n < 18446744073709551616 := by
  have := bounds_u64 h
  exact ⟨x.toNat, by omega, by omega⟩

theorem fitsB_or (x y z : Int) : (fitsB x y z = true ∧ 0 ≤ x ∧ 0 ≤ y ∧ x ≤ z ∧ y ≤ z - x) ∨ (fitsB x y z = false ∧ ¬ (0 ≤ x ∧ 0 ≤ y ∧ x ≤ z ∧ y ≤ z - x)) := by
  by_cases h : 0 ≤ x ∧ 0 ≤ y ∧ x ≤ z ∧ y ≤ z - x
  · exact .inl ⟨fits_yes h, h⟩
  · exact .inr ⟨fits_no h, h⟩

set_option maxHeartbeats 1000000 in
theorem law_OctetsFit (x y z : Int) (w : World) (hx : (Lit.int .i64 x).wf = true) (hy : (Lit.int .i64 y).wf = true) (hz : (Lit.int .i64 z).wf = true) :
    Calls Try.prog 6 #[.int .i64 x, .int .i64 y, .int .i64 z] w fun e w' => e = .returned (.bool true) ∧ Below w.heap.size w w' := by
  replace hx := bounds_i64 hx
  replace hy := bounds_i64 hy
  replace hz := bounds_i64 hz
  by_cases hy0 : y ≤ 0
  · by_cases hy1 : y = 0
    · subst hy1
      by_cases h1 : 0 ≤ x
      · by_cases h2 : x ≤ z
        · have hf := fits_yes (show 0 ≤ x ∧ 0 ≤ (0 : Int) ∧ x ≤ z ∧ 0 ≤ z - x by omega)
          go_enter Try.func6, Try.ntmps6
          go_wp2_with (first
            | (go_at_call 17; refine (fits_any _ _ _ _ (by omega) (by omega) (by omega)).mono ?_; rintro e w' ⟨rfl, rfl⟩)
            | (go_at_call 16; refine (alive_any _).mono ?_; rintro e w' ⟨rfl, hb⟩))
          go_ret
          exact ⟨by simp [*], by assumption⟩
        · have hf := fits_no (show ¬ (0 ≤ x ∧ 0 ≤ (0 : Int) ∧ x ≤ z ∧ 0 ≤ z - x) by omega)
          go_enter Try.func6, Try.ntmps6
          go_wp2_with (first
            | (go_at_call 17; refine (fits_any _ _ _ _ (by omega) (by omega) (by omega)).mono ?_; rintro e w' ⟨rfl, rfl⟩)
            | (go_at_call 16; refine (alive_any _).mono ?_; rintro e w' ⟨rfl, hb⟩))
          go_ret
          exact ⟨by simp [*], by assumption⟩
      · have hf := fits_no (show ¬ (0 ≤ x ∧ 0 ≤ (0 : Int) ∧ x ≤ z ∧ 0 ≤ z - x) by omega)
        go_enter Try.func6, Try.ntmps6
        go_wp2_with (first
          | (go_at_call 17; refine (fits_any _ _ _ _ (by omega) (by omega) (by omega)).mono ?_; rintro e w' ⟨rfl, rfl⟩)
          | (go_at_call 16; refine (alive_any _).mono ?_; rintro e w' ⟨rfl, hb⟩))
        go_ret
        exact ⟨by simp [*], by assumption⟩
    · have hf := fits_no (show ¬ (0 ≤ x ∧ 0 ≤ y ∧ x ≤ z ∧ y ≤ z - x) by omega)
      go_enter Try.func6, Try.ntmps6
      go_wp2_with (first
        | (go_at_call 17; refine (fits_any _ _ _ _ (by omega) (by omega) (by omega)).mono ?_; rintro e w' ⟨rfl, rfl⟩)
        | (go_at_call 16; refine (alive_any _).mono ?_; rintro e w' ⟨rfl, hb⟩))
      go_ret
      exact ⟨by simp [*], by assumption⟩
  · by_cases hb1 : x ≤ 4611686018427387904
    · by_cases hb2 : y ≤ 4611686018427387904
      · by_cases hx0 : 0 ≤ x
        · rcases fitsB_or x y z with ⟨f1, c1⟩ | ⟨f1, c1⟩ <;> rcases fitsB_or x 1 z with ⟨f2, c2⟩ | ⟨f2, c2⟩ <;> rcases fitsB_or (x + y - 1) 1 z with ⟨f3, c3⟩ | ⟨f3, c3⟩ <;> first
          | (exfalso; omega)
          | (clear c1 c2 c3
             have e1 : wrap64 (wrap64 (x + y) - 1) = x + y - 1 := by unfold wrap64; omega
             go_enter Try.func6, Try.ntmps6
             go_wp2_with (first
               | (go_at_call 17; refine (fits_any _ _ _ _ (by omega) (by omega) (by omega)).mono ?_; rintro e w' ⟨rfl, rfl⟩)
               | (go_at_call 16; refine (alive_any _).mono ?_; rintro e w' ⟨rfl, hb⟩))
             go_ret
             exact ⟨by simp [*], by assumption⟩)
        · have f1 := fits_no (show ¬ (0 ≤ x ∧ 0 ≤ y ∧ x ≤ z ∧ y ≤ z - x) by omega)
          have f2 := fits_no (show ¬ (0 ≤ x ∧ 0 ≤ (1 : Int) ∧ x ≤ z ∧ 1 ≤ z - x) by omega)
          go_enter Try.func6, Try.ntmps6
          go_wp2_with (first
            | (go_at_call 17; refine (fits_any _ _ _ _ (by omega) (by omega) (by omega)).mono ?_; rintro e w' ⟨rfl, rfl⟩)
            | (go_at_call 16; refine (alive_any _).mono ?_; rintro e w' ⟨rfl, hb⟩))
          go_ret
          exact ⟨by simp [*], by assumption⟩
      · by_cases hx0 : 0 ≤ x
        · go_enter Try.func6, Try.ntmps6
          go_wp2_with (first
            | (go_at_call 17; refine (fits_any _ _ _ _ (by omega) (by omega) (by omega)).mono ?_; rintro e w' ⟨rfl, rfl⟩)
            | (go_at_call 16; refine (alive_any _).mono ?_; rintro e w' ⟨rfl, hb⟩))
          go_ret
          exact ⟨by simp [*], by assumption⟩
        · go_enter Try.func6, Try.ntmps6
          go_wp2_with (first
            | (go_at_call 17; refine (fits_any _ _ _ _ (by omega) (by omega) (by omega)).mono ?_; rintro e w' ⟨rfl, rfl⟩)
            | (go_at_call 16; refine (alive_any _).mono ?_; rintro e w' ⟨rfl, hb⟩))
          go_ret
          exact ⟨by simp [*], by assumption⟩
    · go_enter Try.func6, Try.ntmps6
      go_wp2_with (first
        | (go_at_call 17; refine (fits_any _ _ _ _ (by omega) (by omega) (by omega)).mono ?_; rintro e w' ⟨rfl, rfl⟩)
        | (go_at_call 16; refine (alive_any _).mono ?_; rintro e w' ⟨rfl, hb⟩))
      go_ret
      exact ⟨by simp [*], by assumption⟩

set_option maxHeartbeats 400000 in
theorem law_OctetsOrder (x y : Int) (w : World) (hx : (Lit.int .u64 x).wf = true) (hy : (Lit.int .u64 y).wf = true) :
    Calls Try.prog 5 #[.int .u64 x, .int .u64 y] w fun e w' => e = .returned (.bool true) ∧ Below w.heap.size w w' := by
  obtain ⟨m, rfl, hm⟩ := nat_u64 hx
  obtain ⟨n, rfl, hn⟩ := nat_u64 hy
  clear hx hy
  go_enter Try.func5, Try.ntmps5
  go_wp2_with fail
  refine (put_good m 8 _ (by omega) (by omega) (by omega)).mono ?_
  rintro e w1 ⟨rfl, hown, hb⟩
  have HO1 := Lib.hid hown
  have HB1 := Lib.hid hb
  clear hown hb
  go_wp2_with fail
  refine (put_good n 8 _ (by omega) (by omega) (by omega)).mono ?_
  rintro e w2 ⟨rfl, hown, hb⟩
  have hb12 := HB1.out.trans (hb.mono HB1.out.size)
  have HO1 := Lib.hid (HO1.out.below hb)
  have HO2 := Lib.hid hown
  have HB2 := Lib.hid hb12
  clear HB1 hown hb hb12
  go_wp2_with fail
  refine (alive_any _).mono ?_
  rintro e w3 ⟨rfl, hb⟩
  have k1 := conv_rd ((HO1.out.below hb).rd) 8 8 (bytesOf_length _ _)
  have k2 := conv_rd ((HO2.out.below hb).rd) 8 8 (bytesOf_length _ _)
  have HB := Lib.hid (HB2.out.trans (hb.mono HB2.out.size))
  clear HO1 HO2 HB2 hb
  have q1 := bytesOf_less m n 8 hm hn
  have q2 := bytesOf_eq m n 8 hm hn
  go_wp2_with fail
  go_ret
  exact ⟨rfl, HB.out⟩

def BackRel (w : World) (i : Value) (wr : World) : Prop := ∃ s : Nat, 1 ≤ s ∧ s ≤ 9 ∧ i = .int .i64 s ∧ Below w.heap.size w wr

theorem shl_dec (m s : Nat) (hs : s < 8) : decide ((m : Int) < IntKind.u64.wrap (2 ^ (8 * s))) = decide (m < 256 ^ s) := by
  have h : (2 : Nat) ^ (8 * s) = 256 ^ s := by rw [Nat.pow_mul]
  have h1 : (2 : Int) ^ (8 * s) = ((256 ^ s : Nat) : Int) := by rw [← h]; simp
  have h2 : 256 ^ s ≤ 256 ^ 7 := Nat.pow_le_pow_right (by omega) (by omega)
  rw [h1, IntKind.wrap_u64]
  generalize 256 ^ s = p at *
  have : (p : Int) % 18446744073709551616 = p := by omega
  rw [this]
  simp

set_option maxHeartbeats 2000000 in
theorem law_OctetsBack (x : Int) (a : Option Addr) (n c : Nat) (l : List UInt8) (w : World) (hx : (Lit.int .u64 x).wf = true) (hb : BytesIn w a n c l) :
    Calls Try.prog 4 #[.int .u64 x, .slice a n c] w fun e w' => e = .returned (.bool true) ∧ Below w.heap.size w w' := by
  obtain ⟨m, rfl, hm⟩ := nat_u64 hx
  clear hx
  have hln := hb.len_eq
  have hnl := hb.small
  have hcl := hb.le_cap
  have HBI := Lib.hid hb
  clear hb
  subst hln
  go_enter Try.func4, Try.ntmps4
  go_wp2_with fail
  go_loopw [5] (fun i wr => BackRel w i wr) (fun i _ => 9 - (intOf i).toNat)
  case atStart => exact ⟨1, by omega, by omega, rfl, Below.refl _ _⟩
  case round =>
    obtain ⟨s, hs1, hs9, rfl, hbl⟩ := hrel
    have HBL := Lib.hid hbl
    clear hbl
    by_cases h8 : s ≤ 8
    · by_cases hlt : m < 256 ^ s
      · have C1 := Lib.hid (put_good m s wr hs1 h8 hlt)
        have E1 := Lib.hid (numOf_bytesOf s m)
        have E2 := Lib.hid (Nat.mod_eq_of_lt hlt)
        by_cases h7 : s < 8
        · have d1 : ((s : Int) == 8) = false := by simp; omega
          have d2 : decide ((m : Int) < IntKind.u64.wrap (2 ^ (8 * s))) = true := by rw [shl_dec m s h7]; simpa using hlt
          clear hlt
          go_wp2_with fail
          refine C1.out.mono ?_
          rintro e w1 ⟨rfl, hown, hb⟩
          have c2 := get_good (some ⟨wr.heap.size, 0, none⟩) s (bytesOf m s) w1 (by rw [bytesOf_length]; exact hs1) (by rw [bytesOf_length]; exact h8) hown.rd
          rw [bytesOf_length, E1.out, E2.out] at c2
          have C2 := Lib.hid c2
          have HB := Lib.hid (HBL.out.trans (hb.mono HBL.out.size))
          clear hown hb c2 C1
          go_wp2_with fail
          refine C2.out.mono ?_
          rintro e w2 ⟨rfl, rfl⟩
          go_wp2_with fail
          go_roundw
          case rel => exact ⟨s + 1, by omega, by omega, by go_num, HB.out⟩
          case measure => simp [intOf]; omega
        · have hs8 : s = 8 := by omega
          subst hs8
          clear hlt
          go_wp2_with fail
          refine C1.out.mono ?_
          rintro e w1 ⟨rfl, hown, hb⟩
          have c2 := get_good (some ⟨wr.heap.size, 0, none⟩) 8 (bytesOf m 8) w1 (by rw [bytesOf_length]; exact hs1) (by rw [bytesOf_length]; exact h8) hown.rd
          rw [bytesOf_length, E1.out, E2.out] at c2
          have C2 := Lib.hid c2
          have HB := Lib.hid (HBL.out.trans (hb.mono HBL.out.size))
          clear hown hb c2 C1
          go_wp2_with fail
          refine C2.out.mono ?_
          rintro e w2 ⟨rfl, rfl⟩
          go_wp2_with fail
          go_roundw
          case rel => exact ⟨9, by omega, by omega, by go_num, HB.out⟩
          case measure => simp [intOf]
      · have h7 : s < 8 := by
          rcases Nat.lt_or_ge s 8 with h | h
          · exact h
          · have : s = 8 := by omega
            subst this
            exact absurd hm hlt
        have C1 := Lib.hid (put_big m s wr hs1 h7 (by omega))
        have d1 : ((s : Int) == 8) = false := by simp; omega
        have d2 : decide ((m : Int) < IntKind.u64.wrap (2 ^ (8 * s))) = false := by rw [shl_dec m s h7]; simpa using hlt
        clear hlt
        go_wp2_with fail
        refine C1.out.mono ?_
        rintro e w1 ⟨rfl, rfl⟩
        clear C1
        go_wp2_with fail
        go_roundw
        case rel => exact ⟨s + 1, by omega, by omega, by go_num, HBL.out⟩
        case measure => simp [intOf]; omega
    · have hs : s = 9 := by omega
      subst hs
      have hrd := HBI.out.rd.below HBL.out
      by_cases hlen : 1 ≤ l.length ∧ l.length ≤ 8
      · obtain ⟨hl1, hl8⟩ := hlen
        have C1 := Lib.hid (get_good a c l wr hl1 hl8 hrd)
        have hlt := numOf_lt l
        have C2 := Lib.hid (fun W => put_good (numOf l) l.length W hl1 hl8 hlt)
        have E2 := Lib.hid (bytesOf_numOf l)
        have HR := Lib.hid hrd
        clear hlt hrd
        have d1 : decide ((1 : Int) ≤ (l.length : Int)) = true := by simp; omega
        have d2 : decide ((l.length : Int) ≤ (8 : Int)) = true := by simp; omega
        go_wp2_with fail
        refine C1.out.mono ?_
        rintro e w1 ⟨rfl, rfl⟩
        go_wp2_with fail
        refine (C2.out _).mono ?_
        rintro e w1 ⟨rfl, hown, hb⟩
        have C3 := Lib.hid (same_any _ a _ _ l.length c (bytesOf (numOf l) l.length) l w1 (bytesOf_length _ _) rfl hown.rd (HR.out.below (hb.mono HBL.out.size)))
        have HB := Lib.hid (HBL.out.trans (hb.mono HBL.out.size))
        clear hown hb C1 C2
        go_wp2_with fail
        refine C3.out.mono ?_
        rintro e w2 ⟨rfl, rfl⟩
        rw [E2.out, beq_self_eq_true]
        clear C3
        go_wp2_with fail
        refine (alive_any _).mono ?_
        rintro e w3 ⟨rfl, hb⟩
        have HB := Lib.hid (HB.out.trans (hb.mono HB.out.size))
        clear hb
        go_wp2_with fail
        go_ret
        exact ⟨rfl, HB.out⟩
      · have C1 := Lib.hid (get_bad a c l.length wr (by omega))
        have d1 : ((decide (1 ≤ (l.length : Int))) && decide ((l.length : Int) ≤ 8)) = false := by simp; omega
        clear hrd
        by_cases hl1 : 1 ≤ l.length
        all_goals
          go_wp2_with fail
          refine C1.out.mono ?_
          rintro e w1 ⟨rfl, rfl⟩
          go_wp2_with fail
          refine (alive_any _).mono ?_
          rintro e w3 ⟨rfl, hb⟩
          have HB := Lib.hid (HBL.out.trans (hb.mono HBL.out.size))
          clear hb
          go_wp2_with fail
          go_ret
          exact ⟨rfl, HB.out⟩
end Go.Proofs.Ytnhfpjjmhanehaa
