/- the document's Put -/
import Derived.Test.YtnpcpbjoonjaoaaNum
namespace Go.Proofs.Ytnpcpbjoonjaoaa
set_option linter.unusedVariables false
set_option linter.unusedSimpArgs false
open Go.RowKit

theorem rput_bad (n : Nat) (s : Int) (w : World) (h : s < 1 ∨ 8 < s) :
    Calls Try.prog 46 #[.int .u64 n, .int .i64 s] w fun e w' => e = .returned (.tuple #[.slice none 0 0, .int .i64 1]) ∧ w = w' := by
  rcases h with h | h
  all_goals
    go_enter Try.func46, Try.ntmps46
    go_wp2_with fail
    go_ret2
    exact ⟨rfl, rfl⟩

def RPutPost (n s : Nat) (w : World) (e : Ending) (w' : World) : Prop :=
  Below w.heap.size w w' ∧ if n < 256 ^ s then e = .returned (.tuple #[.slice (some ⟨w.heap.size, 0, none⟩) s s, .int .i64 0]) ∧ OwnB w' w.heap.size (.slice (some ⟨w.heap.size, 0, none⟩) s s) (bytesOf n s) else e = .returned (.tuple #[.slice none 0 0, .int .i64 1])

theorem rput_step {n s k : Nat} {L : List UInt8} (hL : L.length = s) (h : L.drop (k + 1) = (bytesOf n s).drop (k + 1)) (hk : k < s) :
    (L.set k (UInt8.ofNat (n / 256 ^ (s - 1 - k)))).drop k = (bytesOf n s).drop k := by
  have hb := bytesOf_length s n
  rw [drop_set _ _ _ (by omega), h, List.drop_eq_getElem_cons (i := k) (by omega), bytesOf_get]

set_option maxRecDepth 20000 in
set_option maxHeartbeats 400000 in
theorem rput_any (n : Nat) (s : Nat) (w : World) (h1 : 1 ≤ s) (h8 : s ≤ 8) (hn : n < 18446744073709551616) :
    Calls Try.prog 46 #[.int .u64 n, .int .i64 s] w (RPutPost n s w) := by
  have HN := Lib.hid hn
  clear hn
  obtain ⟨i0, hi, hz0, hz1, hz2⟩ := info_parts info_u8
  have HB := Lib.hid hz2
  have hb2 : i0.bytes * s ≤ 281474976710656 := by rw [hz2]; omega
  clear hz2
  go_enter Try.func46, Try.ntmps46
  go_wp2_with (at_make; refine wpList_make_full _ rfl _ _ _ rfl w.heap.size 5 i0 (.int .u8 0) 1 Try.underlying23 hi hz0 hz1 _ _ _ _ s rfl rfl rfl rfl hb2 (by unfold maxLen; omega) (Nat.le_refl _) ?_)
  intro w1 hown hgr
  have hbl : Below w.heap.size w w1 := below_grown hgr (Nat.le_refl _) (fun g h => by cases h)
  have HO := Lib.hid hown
  have HBL := Lib.hid hbl
  clear hown hgr hbl
  go_wp2_with fail
  go_loopw [0, 7] (fun m i wr => ∃ (k : Nat) (L : List UInt8), k ≤ s ∧ i = .int .i64 ((k : Int) - 1) ∧ m = .int .u64 ((n / 256 ^ (s - k) : Nat) : Int) ∧ L.length = s ∧ L.drop k = (bytesOf n s).drop k ∧
      wr.ownsRow w.heap.size 5 1 (.slice (some ⟨w.heap.size, 0, none⟩) s s) s (bs L) ∧ Below w.heap.size w wr) (fun _ i _ => (intOf i + 1).toNat)
  case atStart => exact ⟨s, List.replicate s 0, Nat.le_refl _, rfl, by simp, by simp, by rw [List.drop_of_length_le (by simp), List.drop_of_length_le (by rw [bytesOf_length]; omega)], own_zero HO.out, HBL.out⟩
  case round =>
    clear HO HBL
    obtain ⟨k, L, hk, rfl, rfl, hL, ht, hown, hbl⟩ := hrel
    have HO := Lib.hid hown
    have HBL := Lib.hid hbl
    have HL := Lib.hid hL
    have HT := Lib.hid ht
    clear hL ht hown hbl
    have hlt : n / 256 ^ (s - k) ≤ n := Nat.div_le_self _ _
    by_cases hks : 1 ≤ k
    · obtain ⟨j, rfl⟩ : ∃ j, k = j + 1 := ⟨k - 1, by omega⟩
      have e1 : ((j + 1 : Nat) : Int) - 1 = (j : Int) := by omega
      rw [e1]
      clear e1
      obtain ⟨u0, hc⟩ := own_cell HO.out j (by omega)
      have hf := HO.out.frozenAt j
      have hN := HN.out
      have e2 : s - (j + 1) = s - 1 - j := by omega
      rw [e2] at hlt ⊢
      clear e2
      generalize hm : n / 256 ^ (s - 1 - j) = m at hlt ⊢
      have HM := Lib.hid hm
      clear hm
      go_wp2_with fail
      go_roundw
      case rel =>
        refine ⟨j, L.set j (UInt8.ofNat (n / 256 ^ (s - 1 - j))), by omega, by go_num, ?_, by rw [List.length_set]; exact HL.out, rput_step HL.out HT.out (by omega), ?_, HBL.out.setCell (Nat.le_refl _) _⟩
        · rw [← rput_div n s j (by omega), HM.out]
        · rw [bs_set, ← rput_byte n s j, HM.out]
          exact (HO.out.stored j _).1
      case measure => simp [intOf] <;> omega
    · have hk0 : k = 0 := by omega
      subst hk0
      have e1 : ((0 : Nat) : Int) - 1 = -1 := by omega
      rw [e1]
      clear e1
      have hq : 0 < n / 256 ^ (s - 0) ↔ ¬ n < 256 ^ s := by
        rw [Nat.sub_zero, Nat.div_pos_iff]
        have : 0 < 256 ^ s := Nat.pow_pos (by omega)
        omega
      generalize n / 256 ^ (s - 0) = m at hlt hq ⊢
      have HQ := Lib.hid hq
      clear hq
      by_cases hm : 0 < m
      · go_wp2_with fail
        go_ret2
        refine ⟨HBL.out, ?_⟩
        rw [if_neg (HQ.out.1 hm)]
        rfl
      · go_wp2_with fail
        go_ret2
        refine ⟨HBL.out, ?_⟩
        rw [if_pos (by have := HQ.out; omega)]
        refine ⟨rfl, ?_⟩
        have h := HT.out
        simp only [List.drop_zero] at h
        rw [h] at HO
        exact OwnB.of HO.out

theorem rput_all (m : Nat) (y : Int) (w : World) (hm : m < 18446744073709551616) :
    Calls Try.prog 46 #[.int .u64 m, .int .i64 y] w (PutAny m y w) := by
  by_cases h : 1 ≤ y ∧ y ≤ 8
  · obtain ⟨s, rfl⟩ := Int.eq_ofNat_of_zero_le (show 0 ≤ y by omega)
    refine (rput_any m s w (by omega) (by omega) hm).mono ?_
    rintro e w1 ⟨hb, hr⟩
    by_cases hlt : m < 256 ^ s
    · rw [if_pos hlt] at hr
      obtain ⟨rfl, hown⟩ := hr
      refine ⟨some ⟨w.heap.size, 0, none⟩, s, s, ?_, ?_, hb⟩
      · unfold putE; rw [if_pos ⟨h.1, h.2, by simpa using hlt⟩]
      · unfold putL; rw [if_pos ⟨h.1, h.2, by simpa using hlt⟩]; exact hown
    · rw [if_neg hlt] at hr
      subst hr
      have hn : ¬ (1 ≤ ((s : Nat) : Int) ∧ ((s : Nat) : Int) ≤ 8 ∧ m < 256 ^ ((s : Nat) : Int).toNat) := fun h => hlt (by simpa using h.2.2)
      refine ⟨none, 0, 0, ?_, ?_, hb⟩
      · unfold putE; rw [if_neg hn]
      · unfold putL; rw [if_neg hn]; exact OwnB.nil _ _
  · refine (rput_bad m y w (by omega)).mono ?_
    rintro e w1 ⟨rfl, rfl⟩
    have hn : ¬ (1 ≤ y ∧ y ≤ 8 ∧ m < 256 ^ y.toNat) := fun h' => h ⟨h'.1, h'.2.1⟩
    refine ⟨none, 0, 0, ?_, ?_, Below.refl _ _⟩
    · unfold putE; rw [if_neg hn]
    · unfold putL; rw [if_neg hn]; exact OwnB.nil _ _

end Go.Proofs.Ytnpcpbjoonjaoaa
