/- octets.Put -/
import Derived.Test.YtnpcpbjoonjaoaaNum
namespace Go.Proofs.Ytnpcpbjoonjaoaa
set_option linter.unusedVariables false
set_option linter.unusedSimpArgs false
open Go.RowKit

def PutPost (n s : Nat) (w : World) (e : Ending) (w' : World) : Prop :=
  e = .returned (.tuple #[.slice (some ⟨w.heap.size, 0, none⟩) s s, .int .i64 0]) ∧ OwnB w' w.heap.size (.slice (some ⟨w.heap.size, 0, none⟩) s s) (bytesOf n s) ∧ Below w.heap.size w w'

theorem put_step {n s k : Nat} {L : List UInt8} (hL : L.length = s) (h : L.take k = (bytesOf n s).take k) (hk : k < s) :
    (L.set k (UInt8.ofNat (n / 256 ^ (s - 1 - k)))).take (k + 1) = (bytesOf n s).take (k + 1) := by
  have hb := bytesOf_length s n
  rw [take_set _ _ _ (by omega), h, List.take_succ_eq_append_getElem (by omega), bytesOf_get]

set_option maxRecDepth 20000 in
set_option maxHeartbeats 400000 in
theorem put_good (n : Nat) (s : Nat) (w : World) (h1 : 1 ≤ s) (h8 : s ≤ 8) (hn : n < 256 ^ s) :
    Calls Try.prog 51 #[.int .u64 n, .int .i64 s] w (PutPost n s w) := by
  have HN := Lib.hid hn
  have hsh := shr_small n s hn
  clear hn
  obtain ⟨i0, hi, hz0, hz1, hz2⟩ := info_parts info_u8
  have HB := Lib.hid hz2
  have hb2 : i0.bytes * s ≤ 281474976710656 := by rw [hz2]; omega
  clear hz2
  by_cases hlt : s < 8
  all_goals
    go_enter Try.func51, Try.ntmps51
    go_wp2_with (at_make; refine wpList_make_full _ rfl _ _ _ rfl w.heap.size 5 i0 (.int .u8 0) 1 Try.underlying23 hi hz0 hz1 _ _ _ _ s rfl rfl rfl rfl hb2 (by unfold maxLen; omega) (Nat.le_refl _) ?_)
    intro w1 hown hgr
    have hbl : Below w.heap.size w w1 := below_grown hgr (Nat.le_refl _) (fun g h => by cases h)
    have HO := Lib.hid hown
    have HBL := Lib.hid hbl
    clear hown hgr hbl
    go_wp2_with fail
    go_loopw [29] (fun i wr => ∃ (k : Nat) (L : List UInt8), k ≤ s ∧ i = .int .i64 k ∧ L.length = s ∧ L.take k = (bytesOf n s).take k ∧
        wr.ownsRow w.heap.size 5 1 (.slice (some ⟨w.heap.size, 0, none⟩) s s) s (bs L) ∧ Below w.heap.size w wr) (fun i _ => s - (intOf i).toNat)
    case atStart => exact ⟨0, List.replicate s 0, Nat.zero_le _, rfl, by simp, rfl, own_zero HO.out, HBL.out⟩
    case round =>
      clear HO HBL
      obtain ⟨k, L, hk, rfl, hL, ht, hown, hbl⟩ := hrel
      have HO := Lib.hid hown
      have HBL := Lib.hid hbl
      have HL := Lib.hid hL
      have HT := Lib.hid ht
      clear hL ht hown hbl
      by_cases hks : k < s
      · obtain ⟨u0, hc⟩ := own_cell HO.out k (by omega)
        have hf := HO.out.frozenAt k
        go_wp2_with fail
        go_roundw
        case rel =>
          refine ⟨k + 1, L.set k (UInt8.ofNat (n / 256 ^ (s - 1 - k))), by omega, by go_num, by rw [List.length_set]; exact HL.out, put_step HL.out HT.out hks, ?_, HBL.out.setCell (Nat.le_refl _) _⟩
          rw [bs_set, ← put_byte n s k (by omega)]
          exact (HO.out.stored k _).1
        case measure => simp [intOf]; omega
      · go_wp2_with fail
        go_ret2
        have hks' : k = s := by omega
        subst hks'
        refine ⟨rfl, ?_, HBL.out⟩
        have h := HT.out
        rw [List.take_of_length_le (by rw [HL.out]; omega), List.take_of_length_le (by rw [bytesOf_length]; omega)] at h
        rw [h] at HO
        exact OwnB.of HO.out

theorem put_bad (n : Nat) (s : Int) (w : World) (h : s < 1 ∨ 8 < s) :
    Calls Try.prog 51 #[.int .u64 n, .int .i64 s] w fun e w' => e = .returned (.tuple #[.slice none 0 0, .int .i64 1]) ∧ w = w' := by
  rcases h with h | h
  all_goals
    go_enter Try.func51, Try.ntmps51
    go_wp2_with fail
    go_ret2
    exact ⟨rfl, rfl⟩

theorem put_big (n s : Nat) (w : World) (h1 : 1 ≤ s) (h8 : s < 8) (h : 256 ^ s ≤ n) :
    Calls Try.prog 51 #[.int .u64 n, .int .i64 s] w fun e w' => e = .returned (.tuple #[.slice none 0 0, .int .i64 1]) ∧ w = w' := by
  have hs := shr_big n s h
  clear h
  go_enter Try.func51, Try.ntmps51
  go_wp2_with fail
  go_ret2
  exact ⟨rfl, rfl⟩

theorem put_any (m : Nat) (y : Int) (w : World) (hm : m < 18446744073709551616) :
    Calls Try.prog 51 #[.int .u64 m, .int .i64 y] w (PutAny m y w) := by
  by_cases h : 1 ≤ y ∧ y ≤ 8
  · obtain ⟨s, rfl⟩ := Int.eq_ofNat_of_zero_le (show 0 ≤ y by omega)
    by_cases hlt : m < 256 ^ s
    · refine (put_good m s w (by omega) (by omega) hlt).mono ?_
      rintro e w1 ⟨rfl, hown, hb⟩
      refine ⟨some ⟨w.heap.size, 0, none⟩, s, s, ?_, ?_, hb⟩
      · unfold putE; rw [if_pos ⟨h.1, h.2, by simpa using hlt⟩]
      · unfold putL; rw [if_pos ⟨h.1, h.2, by simpa using hlt⟩]; exact hown
    · have h8 : s < 8 := by
        rcases Nat.lt_or_ge s 8 with h | h
        · exact h
        · have : s = 8 := by omega
          subst this
          exact absurd hm hlt
      refine (put_big m s w (by omega) h8 (by omega)).mono ?_
      rintro e w1 ⟨rfl, rfl⟩
      have hn : ¬ (1 ≤ ((s : Nat) : Int) ∧ ((s : Nat) : Int) ≤ 8 ∧ m < 256 ^ ((s : Nat) : Int).toNat) := fun h => hlt (by simpa using h.2.2)
      refine ⟨none, 0, 0, ?_, ?_, Below.refl _ _⟩
      · unfold putE; rw [if_neg hn]
      · unfold putL; rw [if_neg hn]; exact OwnB.nil _ _
  · refine (put_bad m y w (by omega)).mono ?_
    rintro e w1 ⟨rfl, rfl⟩
    have hn : ¬ (1 ≤ y ∧ y ≤ 8 ∧ m < 256 ^ y.toNat) := fun h' => h ⟨h'.1, h'.2.1⟩
    refine ⟨none, 0, 0, ?_, ?_, Below.refl _ _⟩
    · unfold putE; rw [if_neg hn]
    · unfold putL; rw [if_neg hn]; exact OwnB.nil _ _

end Go.Proofs.Ytnpcpbjoonjaoaa
