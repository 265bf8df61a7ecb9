/- the document's wire: number, begins -/
import Derived.Test.YtnpcpbjoonjaoaaTakeO
namespace Go.Proofs.Ytnpcpbjoonjaoaa
set_option linter.unusedVariables false
set_option linter.unusedSimpArgs false
open Go.RowKit

set_option maxRecDepth 20000 in
set_option maxHeartbeats 400000 in
theorem rnum_any (a : Option Addr) (m cap n : Nat) (l : List UInt8) (w : World) (hm : l.length = m) (hn : n ≤ m) (h8 : n ≤ 8) {Bd : Nat} (hr : Rd w Bd a (bs l)) :
    Calls Try.prog 48 #[.slice a m cap, .int .i64 n] w fun e w' => e = .returned (.int .u64 (numOf (l.take n))) ∧ w = w' := by
  subst hm
  have HR := Lib.hid hr
  clear hr
  go_enter Try.func48, Try.ntmps48
  go_wp2_with fail
  go_loop [5, 6] (fun x i => ∃ k : Nat, k ≤ n ∧ i = .int .i64 k ∧ x = .int .u64 (numOf (l.take k))) (fun _ i => n - (intOf i).toNat)
  case atStart => exact ⟨0, Nat.zero_le _, rfl, rfl⟩
  case round =>
    obtain ⟨k, hk, rfl, rfl⟩ := hrel
    by_cases hlt : k < n
    · have hkl : k < l.length := by omega
      obtain ⟨b, off, rfl, _, hc⟩ := HR.out.byte k hkl
      have hn' := numOf_take_lt l k (by omega)
      have hx := (l[k]).toNat_lt
      have HE := Lib.hid (numOf_take_succ l k hkl)
      go_wp2_with fail
      go_round
      case rel =>
        refine ⟨k + 1, by omega, by go_num, ?_⟩
        rw [HE.out]
        have e : IntKind.u64.wrap (256 * ((numOf (l.take k) : Nat) : Int)) = ((numOf (l.take k) * 256 : Nat) : Int) := by rw [IntKind.wrap_u64]; omega
        first
          | go_num
          | (congr 1; rw [IntKind.wrap_u64]; omega)
      case measure => simp [intOf]; omega
    · have hke : k = n := by omega
      subst hke
      go_wp2_with fail
      go_ret
      exact ⟨rfl, rfl⟩

theorem begins_no {l s : List UInt8} {k : Nat} (h1 : k < l.length) (h2 : k < s.length) (hne : l[k] ≠ s[k]) : beginsB l s = false := by
  rw [beginsB, beq_eq_false_iff_ne]
  intro e
  have h := congrArg (fun x => x[k]?) e
  simp only [List.getElem?_take, h1, h2, if_true, List.getElem?_eq_getElem, Option.some.injEq] at h
  exact hne h
theorem begins_yes {l s : List UInt8} {k : Nat} (h : l.take k = s.take k) (hk : k = l.length ∨ k = s.length) (h1 : k ≤ l.length) (h2 : k ≤ s.length) : beginsB l s = true := by
  rw [beginsB, beq_iff_eq]
  rcases hk with e | e
  · rw [← e, ← h, List.take_of_length_le (show l.length ≤ s.length by omega), List.take_of_length_le (show l.length ≤ k by omega)]
  · rw [← e, h, List.take_of_length_le (show s.length ≤ l.length by omega), List.take_of_length_le (show s.length ≤ k by omega)]
theorem take_one_more {l s : List UInt8} {k : Nat} (h : l.take k = s.take k) (h1 : k < l.length) (h2 : k < s.length) (he : l[k] = s[k]) : l.take (k + 1) = s.take (k + 1) := by
  rw [List.take_succ_eq_append_getElem h1, List.take_succ_eq_append_getElem h2, h, he]

theorem u8_neI (x y : UInt8) : ((x.toNat : Int) != (y.toNat : Int)) = !(x == y) := by
  by_cases h : x = y
  · subst h; simp
  · have : ¬ ((x.toNat : Int) = (y.toNat : Int)) := fun e => h (UInt8.toNat_inj.1 (by omega))
    rw [bne, beq_eq_false_iff_ne.2 h, beq_eq_false_iff_ne.2 this]

set_option maxRecDepth 20000 in
set_option maxHeartbeats 400000 in
theorem rbegins_any (a : Option Addr) (n c : Nat) (l : List UInt8) (s : ByteArray) (w : World) (hn : l.length = n) (hs : s.size ≤ 1000) (hr : Rd w w.heap.size a (bs l)) :
    Calls Try.prog 47 #[.slice a n c, .string s] w fun e w' => e = .returned (.bool (beginsB l s.data.toList)) ∧ Below w.heap.size w w' := by
  subst hn
  have HR := Lib.hid hr
  have hz : s.size = s.data.toList.length := Lib.size_eq s
  obtain ⟨S, hS⟩ : ∃ S, s.data.toList = S := ⟨_, rfl⟩
  rw [hS] at hz ⊢
  have HZ := Lib.hid hz
  have HS := Lib.hid hS
  clear hr hz hS
  go_enter Try.func47, Try.ntmps47
  go_wp2_with fail
  go_loopw [5] (fun vi wr => ∃ k : Nat, k ≤ l.length ∧ k ≤ S.length ∧ vi = .int .i64 k ∧ l.take k = S.take k ∧ Below w.heap.size w wr) (fun vi _ => l.length - (intOf vi).toNat)
  case atStart => exact ⟨0, Nat.zero_le _, Nat.zero_le _, rfl, rfl, Below.refl _ _⟩
  case round =>
    obtain ⟨k, hk1, hk2, rfl, hpre, hbl⟩ := hrel
    have HP := Lib.hid hpre
    have HB := Lib.hid hbl
    have k0 : (0 : Int) ≤ (k : Int) := Int.natCast_nonneg k
    clear hpre hbl
    by_cases hl1 : k < l.length
    · have hI1 : (k : Int) < (l.length : Int) := by omega
      by_cases hl2 : k < S.length
      · have hI2 : (k : Int) < (s.size : Int) := by have := HZ.out; omega
        obtain ⟨b, off, rfl, _, hc⟩ := (HR.out.below HB.out).byte k hl1
        go_upto_region 4 with (fail)
        have c1 : ∀ wx, Below wr.heap.size wr wx → wx.cell? ⟨b, off + k, none⟩ = some (.int .u8 ((l[k]).toNat : Int)) := fun wx hx => by
          obtain ⟨b', off', e, _, hc'⟩ := (HR.out.below (HB.out.trans (hx.mono HB.out.size))).byte k hl1
          injection e with e; injection e with e1 e2
          subst e1; subst e2
          exact hc'
        have HIX : Hid (∀ (h : k < s.size), s[k] = S[k]) := Lib.hid (fun h => by
          have := HS.out
          subst this
          rfl)
        have hr0 : Below wr.heap.size wr wr := Below.refl _ _
        have hr1 : Below wr.heap.size wr wr.drew := (Below.refl _ _).drew
        go_cut [25] (fun v wn => v = .bool (!(l[k] == S[k])) ∧ Below wr.heap.size wr wn)
        case first =>
          go_region_held3 (fun w' => Below wr.heap.size wr w')
            (first | assumption | go_keep)
            (fail)
          all_goals go_wp2_with fail
          all_goals go_meet
          all_goals exact ⟨by rw [u8_neI]; first | rfl | (rw [HIX.out]), by assumption⟩
        case rest =>
          obtain ⟨rfl, hbc⟩ := hcut
          rename World => wc
          have HBC := Lib.hid (HB.out.trans (hbc.mono HB.out.size))
          clear hbc c1 hr0 hr1
          cases hq : (l[k] == S[k]) with
          | true =>
            have HN := Lib.hid (take_one_more HP.out hl1 hl2 (eq_of_beq hq))
            clear hq
            go_wp2_with fail
            all_goals go_roundw
            all_goals first
              | (case measure => simp [intOf]; omega)
              | exact ⟨k + 1, hl1, hl2, by go_num, HN.out, HBC.out⟩
          | false =>
            have HY := Lib.hid (begins_no hl1 hl2 (ne_of_beq_false hq))
            clear hq
            go_wp2_with fail
            go_ret
            exact ⟨by rw [HY.out]; rfl, HBC.out⟩
      · have hI2 : ¬ ((k : Int) < (s.size : Int)) := by have := HZ.out; omega
        have HY := Lib.hid (begins_yes HP.out (.inr (by omega)) hk1 hk2)
        go_wp2_with fail
        go_ret
        exact ⟨by rw [HY.out]; rfl, HB.out⟩
    · have hI1 : ¬ ((k : Int) < (l.length : Int)) := by omega
      have HY := Lib.hid (begins_yes HP.out (.inl (by omega)) hk1 hk2)
      go_wp2_with fail
      go_ret
      exact ⟨by rw [HY.out]; rfl, HB.out⟩
end Go.Proofs.Ytnpcpbjoonjaoaa
