/- octets: contracts -/
import Derived.Test.YtnhfpjjmhanehaaA
namespace Go.Proofs.Ytnhfpjjmhanehaa
set_option linter.unusedVariables false
set_option linter.unusedSimpArgs false
open Go.RowKit

/-- The number that bytes stand for. -/
def numOf (l : List UInt8) : Nat := l.foldl (fun n x => n * 256 + x.toNat) 0

theorem numOf_snoc (l : List UInt8) (x : UInt8) : numOf (l ++ [x]) = numOf l * 256 + x.toNat := by simp [numOf]

theorem foldl_lt (l : List UInt8) : ∀ (n k : Nat), n < 256 ^ k → l.foldl (fun n x => n * 256 + x.toNat) n < 256 ^ (k + l.length) := by
  induction l with
  | nil => intro n k h; simpa using h
  | cons x l ih =>
    intro n k h
    have hx := x.toNat_lt
    have := ih (n * 256 + x.toNat) (k + 1) (by rw [Nat.pow_succ]; omega)
    simpa [Nat.add_assoc, Nat.add_comm 1] using this

theorem numOf_lt (l : List UInt8) : numOf l < 256 ^ l.length := by
  have := foldl_lt l 0 0 (by simp)
  simpa [numOf] using this

theorem numOf_take_lt (l : List UInt8) (k : Nat) (hk : k ≤ 7) : numOf (l.take k) < 72057594037927936 := by
  have h := numOf_lt (l.take k)
  have h1 : (l.take k).length ≤ 7 := by simp; omega
  have h2 : 256 ^ (l.take k).length ≤ 256 ^ 7 := Nat.pow_le_pow_right (by omega) h1
  omega

theorem numOf_take_succ (l : List UInt8) (k : Nat) (h : k < l.length) : numOf (l.take (k + 1)) = numOf (l.take k) * 256 + (l[k]).toNat := by
  rw [List.take_succ_eq_append_getElem h, numOf_snoc]

/-- A number as so many bytes. -/
def bytesOf (n : Nat) : Nat → List UInt8
  | 0 => []
  | s + 1 => bytesOf (n / 256) s ++ [UInt8.ofNat n]
theorem bytesOf_length (s : Nat) : ∀ n, (bytesOf n s).length = s := by
  induction s with
  | zero => intro n; rfl
  | succ s ih => intro n; simp [bytesOf, ih]
theorem bytesOf_get (s : Nat) : ∀ (n i : Nat) (h : i < (bytesOf n s).length), (bytesOf n s)[i] = UInt8.ofNat (n / 256 ^ (s - 1 - i)) := by
  induction s with
  | zero => intro n i h; simp [bytesOf] at h
  | succ s ih =>
    intro n i h
    have hl := bytesOf_length s (n / 256)
    by_cases hi : i < s
    · have : (bytesOf n (s + 1))[i] = (bytesOf (n / 256) s)[i]'(by omega) := by
        simp only [bytesOf]
        rw [List.getElem_append_left (by omega)]
      rw [this, ih, Nat.div_div_eq_div_mul]
      congr 2
      rw [show s + 1 - 1 - i = (s - 1 - i) + 1 by omega, Nat.pow_succ, Nat.mul_comm]
    · have hs : i = s := by rw [bytesOf_length] at h; omega
      subst hs
      simp only [bytesOf]
      rw [List.getElem_append_right (by omega)]
      simp
theorem numOf_bytesOf (s : Nat) : ∀ n, numOf (bytesOf n s) = n % 256 ^ s := by
  induction s with
  | zero => intro n; simp [bytesOf, numOf, Nat.mod_one]
  | succ s ih =>
    intro n
    rw [bytesOf, numOf_snoc, ih, Nat.pow_succ, Nat.mul_comm (256 ^ s) 256, Nat.mod_mul, UInt8.toNat_ofNat']
    omega
theorem bytesOf_numOf (l : List UInt8) : bytesOf (numOf l) l.length = l := by
  generalize hn : l.length = n
  induction n generalizing l with
  | zero => rw [List.eq_nil_of_length_eq_zero hn]; rfl
  | succ n ih =>
    have hne : l ≠ [] := by intro h; subst h; simp at hn
    have hx := (l.getLast hne).toNat_lt
    have hd := ih l.dropLast (by simp; omega)
    rw [← List.dropLast_concat_getLast hne, numOf_snoc, bytesOf,
      show (numOf l.dropLast * 256 + (l.getLast hne).toNat) / 256 = numOf l.dropLast by omega, hd]
    congr 2
    refine UInt8.toNat_inj.1 ?_
    rw [UInt8.toNat_ofNat']
    omega

theorem get_bad (a : Option Addr) (cap : Nat) (n : Nat) (w : World) (hn : n < 1 ∨ 8 < n) :
    Calls Try.prog 11 #[.slice a n cap] w fun e w' => e = .returned (.tuple #[.int .u64 0, .int .i64 1]) ∧ w = w' := by
  rcases hn with hn | hn
  · have : n = 0 := by omega
    subst this
    go_enter Try.func11, Try.ntmps11
    go_wp2_with fail
    go_ret2
    exact ⟨rfl, rfl⟩
  · go_enter Try.func11, Try.ntmps11
    go_wp2_with fail
    go_ret2
    exact ⟨rfl, rfl⟩

theorem or_byte (n x : Nat) (hx : x < 256) : n * 256 ||| x = n * 256 + x := by
  have := Nat.two_pow_add_eq_or_of_lt (i := 8) hx n
  rw [show (2:Nat)^8 = 256 from rfl] at this
  rw [Nat.mul_comm n 256, this]

set_option maxHeartbeats 400000 in
theorem get_good (a : Option Addr) (cap : Nat) (l : List UInt8) (w : World) (h1 : 1 ≤ l.length) (h8 : l.length ≤ 8) {Bd : Nat} (hr : Rd w Bd a (bs l)) :
    Calls Try.prog 11 #[.slice a l.length cap] w fun e w' => e = .returned (.tuple #[.int .u64 (numOf l), .int .i64 0]) ∧ w = w' := by
  have HR := Lib.hid hr
  clear hr
  go_enter Try.func11, Try.ntmps11
  go_wp2_with fail
  go_loop [4, 17] (fun n i => ∃ k : Nat, k ≤ l.length ∧ i = .int .i64 k ∧ n = .int .u64 (numOf (l.take k))) (fun _ i => l.length - (intOf i).toNat)
  case atStart => exact ⟨0, Nat.zero_le _, rfl, rfl⟩
  case round =>
    obtain ⟨k, hk, rfl, rfl⟩ := hrel
    by_cases hlt : k < l.length
    · obtain ⟨b, off, rfl, _, hc⟩ := HR.out.byte k hlt
      have hn := numOf_take_lt l k (by omega)
      have hx := (l[k]).toNat_lt
      go_wp2_with fail
      go_round
      case rel =>
        refine ⟨k + 1, by omega, by go_num, ?_⟩
        rw [show ((numOf (List.take k l) : Nat) : Int) * 256 = ((numOf (List.take k l) * 256 : Nat) : Int) by simp, u64_or_nat _ _ (by omega) (by omega), or_byte _ _ hx, numOf_take_succ l k hlt]
      case measure => simp [intOf]; omega
    · go_wp2_with fail
      go_ret2
      have : l.take k = l := List.take_of_length_le (by omega)
      rw [this]
      exact ⟨rfl, rfl⟩

theorem take_set {α : Type} (L : List α) (i : Nat) (x : α) (h : i < L.length) : (L.set i x).take (i + 1) = L.take i ++ [x] := by
  rw [List.take_succ_eq_append_getElem (by simpa using h), List.getElem_set_self, List.take_set_of_le (Nat.le_refl _)]

def PutPost (n s : Nat) (w : World) (e : Ending) (w' : World) : Prop :=
  e = .returned (.tuple #[.slice (some ⟨w.heap.size, 0, none⟩) s s, .int .i64 0]) ∧ OwnB w' w.heap.size (.slice (some ⟨w.heap.size, 0, none⟩) s s) (bytesOf n s) ∧ Below w.heap.size w w'

theorem shr_small (n s : Nat) (hn : n < 256 ^ s) : (n : Int) / 2 ^ (8 * s) ≤ 0 := by
  have h : (256 : Nat) ^ s = 2 ^ (8 * s) := by rw [Nat.pow_mul]
  rw [h] at hn
  have : ((n / 2 ^ (8 * s) : Nat) : Int) = 0 := by rw [Nat.div_eq_of_lt hn]; rfl
  simp only [Int.natCast_ediv, Int.natCast_pow] at this
  have h2 : ((2 : Nat) : Int) = 2 := rfl
  rw [h2] at this
  omega

theorem own_zero {w : World} {base g n : Nat} (h : w.ownsRow base 5 1 (.slice (some ⟨g, 0, none⟩) n n) n (madeCells #[Value.int .u8 0] n).toList) :
    w.ownsRow base 5 1 (.slice (some ⟨g, 0, none⟩) n n) n (bs (List.replicate n 0)) := by
  have e : (madeCells #[Value.int .u8 0] n).toList = bs (List.replicate n 0) := by
    rw [toList_madeCells_one]
    simp [bs, B]
  rw [e] at h
  exact h

theorem own_cell {w : World} {base g n c : Nat} {e : TypeId} {xs : List Value} (h : w.ownsRow base e 1 (.slice (some ⟨g, 0, none⟩) n c) n xs) (j : Nat) (hj : j < n) : ∃ u, w.cell? ⟨g, j, none⟩ = some u := by
  have := h.cellAt j (by omega)
  rw [List.getElem?_eq_getElem (by have := h.1; omega)] at this
  exact ⟨_, this⟩

theorem put_step {n s k : Nat} {L : List UInt8} (hL : L.length = s) (h : L.take k = (bytesOf n s).take k) (hk : k < s) :
    (L.set k (UInt8.ofNat (n / 256 ^ (s - 1 - k)))).take (k + 1) = (bytesOf n s).take (k + 1) := by
  have hb := bytesOf_length s n
  rw [take_set _ _ _ (by omega), h, List.take_succ_eq_append_getElem (by omega), bytesOf_get]

theorem put_byte (n s k : Nat) (hk : k < s) : (.int .u8 ((n : Int) / 2 ^ (8 * (s - 1 - k)) % 256) : Value) = B (UInt8.ofNat (n / 256 ^ (s - 1 - k))) := by
  have h : (2 : Nat) ^ (8 * (s - 1 - k)) = 256 ^ (s - 1 - k) := by rw [Nat.pow_mul]
  have h2 : ((2 : Int) ^ (8 * (s - 1 - k))) = ((256 ^ (s - 1 - k) : Nat) : Int) := by rw [← h]; simp
  unfold B
  rw [UInt8.toNat_ofNat', h2, ← Int.natCast_ediv]
  simp

set_option maxHeartbeats 400000 in
theorem put_good (n : Nat) (s : Nat) (w : World) (h1 : 1 ≤ s) (h8 : s ≤ 8) (hn : n < 256 ^ s) :
    Calls Try.prog 13 #[.int .u64 n, .int .i64 s] w (PutPost n s w) := by
  have HN := Lib.hid hn
  have hsh := shr_small n s hn
  clear hn
  obtain ⟨i0, hi, hz0, hz1, hz2⟩ := info_parts info_u8
  have HB := Lib.hid hz2
  have hb2 : i0.bytes * s ≤ 281474976710656 := by rw [hz2]; omega
  clear hz2
  by_cases hlt : s < 8
  all_goals
    go_enter Try.func13, Try.ntmps13
    go_wp2_with (at_make; refine wpList_make_full _ rfl _ _ _ rfl w.heap.size 5 i0 (.int .u8 0) 1 Try.underlying22 hi hz0 hz1 _ _ _ _ s rfl rfl rfl rfl hb2 (by unfold maxLen; omega) (Nat.le_refl _) ?_)
    intro w1 hown hgr
    have hbl : Below w.heap.size w w1 := below_grown hgr (Nat.le_refl _) (fun g h => by cases h)
    have HO := Lib.hid hown
    have HBL := Lib.hid hbl
    clear hown hgr hbl
    go_wp2_with fail
    go_loopw [29] (fun i wr => ∃ (k : Nat) (L : List UInt8), k ≤ s ∧ i = .int .i64 k ∧ L.length = s ∧ L.take k = (bytesOf n s).take k ∧
        wr.ownsRow w.heap.size 5 1 (.slice (some ⟨w.heap.size, 0, none⟩) s s) s (bs L) ∧ Below w.heap.size w wr) (fun i _ => s - (intOf i).toNat)
    case atStart => exact ⟨0, List.replicate s 0, Nat.zero_le _, rfl, by simp, rfl, own_zero HO.out, HBL.out⟩
    case round =>
      clear HO HBL
      obtain ⟨k, L, hk, rfl, hL, ht, hown, hbl⟩ := hrel
      have HO := Lib.hid hown
      have HBL := Lib.hid hbl
      have HL := Lib.hid hL
      have HT := Lib.hid ht
      clear hL ht hown hbl
      by_cases hks : k < s
      · obtain ⟨u0, hc⟩ := own_cell HO.out k (by omega)
        have hf := HO.out.frozenAt k
        go_wp2_with fail
        go_roundw
        case rel =>
          refine ⟨k + 1, L.set k (UInt8.ofNat (n / 256 ^ (s - 1 - k))), by omega, by go_num, by rw [List.length_set]; exact HL.out, put_step HL.out HT.out hks, ?_, HBL.out.setCell (Nat.le_refl _) _⟩
          rw [bs_set, ← put_byte n s k (by omega)]
          exact (HO.out.stored k _).1
        case measure => simp [intOf]; omega
      · go_wp2_with fail
        go_ret2
        have hks' : k = s := by omega
        subst hks'
        refine ⟨rfl, ?_, HBL.out⟩
        have h := HT.out
        rw [List.take_of_length_le (by rw [HL.out]; omega), List.take_of_length_le (by rw [bytesOf_length]; omega)] at h
        rw [h] at HO
        unfold OwnB
        rw [bytesOf_length]
        exact HO.out

theorem put_bad (n : Nat) (s : Int) (w : World) (h : s < 1 ∨ 8 < s) :
    Calls Try.prog 13 #[.int .u64 n, .int .i64 s] w fun e w' => e = .returned (.tuple #[.slice none 0 0, .int .i64 1]) ∧ w = w' := by
  rcases h with h | h
  all_goals
    go_enter Try.func13, Try.ntmps13
    go_wp2_with fail
    go_ret2
    exact ⟨rfl, rfl⟩

theorem shr_big (n s : Nat) (hn : 256 ^ s ≤ n) : 0 < (n : Int) / 2 ^ (8 * s) := by
  have h : (256 : Nat) ^ s = 2 ^ (8 * s) := by rw [Nat.pow_mul]
  rw [h] at hn
  have : 0 < n / 2 ^ (8 * s) := Nat.div_pos hn (Nat.two_pow_pos _)
  have h1 : (0 : Int) < ((n / 2 ^ (8 * s) : Nat) : Int) := by omega
  simpa using h1

theorem put_big (n s : Nat) (w : World) (h1 : 1 ≤ s) (h8 : s < 8) (h : 256 ^ s ≤ n) :
    Calls Try.prog 13 #[.int .u64 n, .int .i64 s] w fun e w' => e = .returned (.tuple #[.slice none 0 0, .int .i64 1]) ∧ w = w' := by
  have hs := shr_big n s h
  clear h
  go_enter Try.func13, Try.ntmps13
  go_wp2_with fail
  go_ret2
  exact ⟨rfl, rfl⟩

/-! ### the document's -/
theorem rget_bad (a : Option Addr) (cap : Nat) (n : Nat) (w : World) (hn : n < 1 ∨ 8 < n) :
    Calls Try.prog 12 #[.slice a n cap] w fun e w' => e = .returned (.tuple #[.int .u64 0, .int .i64 1]) ∧ w = w' := by
  rcases hn with hn | hn
  · have : n = 0 := by omega
    subst this
    go_enter Try.func12, Try.ntmps12
    go_wp2_with fail
    go_ret2
    exact ⟨rfl, rfl⟩
  · go_enter Try.func12, Try.ntmps12
    go_wp2_with fail
    go_ret2
    exact ⟨rfl, rfl⟩

set_option maxHeartbeats 400000 in
theorem rget_good (a : Option Addr) (cap : Nat) (l : List UInt8) (w : World) (h1 : 1 ≤ l.length) (h8 : l.length ≤ 8) {Bd : Nat} (hr : Rd w Bd a (bs l)) :
    Calls Try.prog 12 #[.slice a l.length cap] w fun e w' => e = .returned (.tuple #[.int .u64 (numOf l), .int .i64 0]) ∧ w = w' := by
  have HR := Lib.hid hr
  clear hr
  go_enter Try.func12, Try.ntmps12
  go_wp2_with fail
  go_loop [4, 5] (fun n i => ∃ k : Nat, k ≤ l.length ∧ i = .int .i64 k ∧ n = .int .u64 (numOf (l.take k))) (fun _ i => l.length - (intOf i).toNat)
  case atStart => exact ⟨0, Nat.zero_le _, rfl, rfl⟩
  case round =>
    obtain ⟨k, hk, rfl, rfl⟩ := hrel
    by_cases hlt : k < l.length
    · obtain ⟨b, off, rfl, _, hc⟩ := HR.out.byte k hlt
      have hn := numOf_take_lt l k (by omega)
      have hx := (l[k]).toNat_lt
      go_wp2_with fail
      go_round
      case rel =>
        refine ⟨k + 1, by omega, by go_num, ?_⟩
        rw [numOf_take_succ l k hlt]
        go_num
      case measure => simp [intOf]; omega
    · go_wp2_with fail
      go_ret2
      have : l.take k = l := List.take_of_length_le (by omega)
      rw [this]
      exact ⟨rfl, rfl⟩

theorem rput_bad (n : Nat) (s : Int) (w : World) (h : s < 1 ∨ 8 < s) :
    Calls Try.prog 14 #[.int .u64 n, .int .i64 s] w fun e w' => e = .returned (.tuple #[.slice none 0 0, .int .i64 1]) ∧ w = w' := by
  rcases h with h | h
  all_goals
    go_enter Try.func14, Try.ntmps14
    go_wp2_with fail
    go_ret2
    exact ⟨rfl, rfl⟩

def RPutPost (n s : Nat) (w : World) (e : Ending) (w' : World) : Prop :=
  Below w.heap.size w w' ∧ if n < 256 ^ s then e = .returned (.tuple #[.slice (some ⟨w.heap.size, 0, none⟩) s s, .int .i64 0]) ∧ OwnB w' w.heap.size (.slice (some ⟨w.heap.size, 0, none⟩) s s) (bytesOf n s) else e = .returned (.tuple #[.slice none 0 0, .int .i64 1])

theorem drop_set {α : Type} (L : List α) (i : Nat) (x : α) (h : i < L.length) : (L.set i x).drop i = x :: L.drop (i + 1) := by
  rw [List.drop_eq_getElem_cons (by simpa using h), List.getElem_set_self, List.drop_set_of_lt (by omega)]

theorem rput_step {n s k : Nat} {L : List UInt8} (hL : L.length = s) (h : L.drop (k + 1) = (bytesOf n s).drop (k + 1)) (hk : k < s) :
    (L.set k (UInt8.ofNat (n / 256 ^ (s - 1 - k)))).drop k = (bytesOf n s).drop k := by
  have hb := bytesOf_length s n
  rw [drop_set _ _ _ (by omega), h, List.drop_eq_getElem_cons (i := k) (by omega), bytesOf_get]

theorem rput_byte (n s k : Nat) : (.int .u8 (((n / 256 ^ (s - 1 - k) : Nat) : Int) % 256) : Value) = B (UInt8.ofNat (n / 256 ^ (s - 1 - k))) := by
  unfold B
  rw [UInt8.toNat_ofNat']
  simp

theorem rput_div (n s k : Nat) (hk : k < s) : (((n / 256 ^ (s - 1 - k) : Nat) : Int) / 256) = ((n / 256 ^ (s - k) : Nat) : Int) := by
  rw [show s - k = (s - 1 - k) + 1 by omega, Nat.pow_succ, ← Nat.div_div_eq_div_mul]
  simp

set_option maxHeartbeats 400000 in
theorem rput_any (n : Nat) (s : Nat) (w : World) (h1 : 1 ≤ s) (h8 : s ≤ 8) (hn : n < 18446744073709551616) :
    Calls Try.prog 14 #[.int .u64 n, .int .i64 s] w (RPutPost n s w) := by
  have HN := Lib.hid hn
  clear hn
  obtain ⟨i0, hi, hz0, hz1, hz2⟩ := info_parts info_u8
  have HB := Lib.hid hz2
  have hb2 : i0.bytes * s ≤ 281474976710656 := by rw [hz2]; omega
  clear hz2
  go_enter Try.func14, Try.ntmps14
  go_wp2_with (at_make; refine wpList_make_full _ rfl _ _ _ rfl w.heap.size 5 i0 (.int .u8 0) 1 Try.underlying22 hi hz0 hz1 _ _ _ _ s rfl rfl rfl rfl hb2 (by unfold maxLen; omega) (Nat.le_refl _) ?_)
  intro w1 hown hgr
  have hbl : Below w.heap.size w w1 := below_grown hgr (Nat.le_refl _) (fun g h => by cases h)
  have HO := Lib.hid hown
  have HBL := Lib.hid hbl
  clear hown hgr hbl
  go_wp2_with fail
  go_loopw [0, 7] (fun m i wr => ∃ (k : Nat) (L : List UInt8), k ≤ s ∧ i = .int .i64 ((k : Int) - 1) ∧ m = .int .u64 ((n / 256 ^ (s - k) : Nat) : Int) ∧ L.length = s ∧ L.drop k = (bytesOf n s).drop k ∧
      wr.ownsRow w.heap.size 5 1 (.slice (some ⟨w.heap.size, 0, none⟩) s s) s (bs L) ∧ Below w.heap.size w wr) (fun _ i _ => (intOf i + 1).toNat)
  case atStart => exact ⟨s, List.replicate s 0, Nat.le_refl _, rfl, by simp, by simp, by rw [List.drop_of_length_le (by simp), List.drop_of_length_le (by rw [bytesOf_length]; omega)], own_zero HO.out, HBL.out⟩
  case round =>
    clear HO HBL
    obtain ⟨k, L, hk, rfl, rfl, hL, ht, hown, hbl⟩ := hrel
    have HO := Lib.hid hown
    have HBL := Lib.hid hbl
    have HL := Lib.hid hL
    have HT := Lib.hid ht
    clear hL ht hown hbl
    have hlt : n / 256 ^ (s - k) ≤ n := Nat.div_le_self _ _
    by_cases hks : 1 ≤ k
    · obtain ⟨j, rfl⟩ : ∃ j, k = j + 1 := ⟨k - 1, by omega⟩
      have e1 : ((j + 1 : Nat) : Int) - 1 = (j : Int) := by omega
      rw [e1]
      clear e1
      obtain ⟨u0, hc⟩ := own_cell HO.out j (by omega)
      have hf := HO.out.frozenAt j
      have hN := HN.out
      have e2 : s - (j + 1) = s - 1 - j := by omega
      rw [e2] at hlt ⊢
      clear e2
      generalize hm : n / 256 ^ (s - 1 - j) = m at hlt ⊢
      have HM := Lib.hid hm
      clear hm
      go_wp2_with fail
      go_roundw
      case rel =>
        refine ⟨j, L.set j (UInt8.ofNat (n / 256 ^ (s - 1 - j))), by omega, by go_num, ?_, by rw [List.length_set]; exact HL.out, rput_step HL.out HT.out (by omega), ?_, HBL.out.setCell (Nat.le_refl _) _⟩
        · rw [← rput_div n s j (by omega), HM.out]
        · rw [bs_set, ← rput_byte n s j, HM.out]
          exact (HO.out.stored j _).1
      case measure => simp [intOf] <;> omega
    · have hk0 : k = 0 := by omega
      subst hk0
      have e1 : ((0 : Nat) : Int) - 1 = -1 := by omega
      rw [e1]
      clear e1
      have hq : 0 < n / 256 ^ (s - 0) ↔ ¬ n < 256 ^ s := by
        rw [Nat.sub_zero, Nat.div_pos_iff]
        have : 0 < 256 ^ s := Nat.pow_pos (by omega)
        omega
      generalize n / 256 ^ (s - 0) = m at hlt hq ⊢
      have HQ := Lib.hid hq
      clear hq
      by_cases hm : 0 < m
      · go_wp2_with fail
        go_ret2
        refine ⟨HBL.out, ?_⟩
        rw [if_neg (HQ.out.1 hm)]
        rfl
      · go_wp2_with fail
        go_ret2
        refine ⟨HBL.out, ?_⟩
        rw [if_pos (by have := HQ.out; omega)]
        refine ⟨rfl, ?_⟩
        have h := HT.out
        simp only [List.drop_zero] at h
        rw [h] at HO
        unfold OwnB
        rw [bytesOf_length]
        exact HO.out

theorem same_any (a c : Option Addr) (n m cap cap' : Nat) (l r : List UInt8) (w : World) {Bd Bd' : Nat} (hl : l.length = n) (hr : r.length = m) (h : Rd w Bd a (bs l)) (h' : Rd w Bd' c (bs r)) :
    Calls Try.prog 15 #[.slice a n cap, .slice c m cap'] w fun e w' => e = .returned (.bool (l == r)) ∧ w = w' := by
  have h1 := conv_rd h n cap hl
  have h2 := conv_rd h' m cap' hr
  clear hl hr h h'
  go_enter Try.func15, Try.ntmps15
  go_wp2_with fail
  go_ret
  exact ⟨rfl, rfl⟩

theorem foldl_num (l : List UInt8) : ∀ n : Nat, l.foldl (fun n x => n * 256 + x.toNat) n = n * 256 ^ l.length + numOf l := by
  induction l with
  | nil => intro n; simp [numOf]
  | cons a l ih =>
    intro n
    have h1 := ih (n * 256 + a.toNat)
    have h2 := ih (0 * 256 + a.toNat)
    simp only [numOf, List.foldl_cons, List.length_cons] at *
    rw [h1, h2, Nat.pow_succ, Nat.add_mul, Nat.zero_mul, Nat.zero_add, Nat.mul_assoc, Nat.mul_comm 256, Nat.add_assoc]
theorem numOf_cons (a : UInt8) (l : List UInt8) : numOf (a :: l) = a.toNat * 256 ^ l.length + numOf l := by
  have := foldl_num l (0 * 256 + a.toNat)
  simpa [numOf] using this
theorem numOf_less (l : List UInt8) : ∀ r : List UInt8, l.length = r.length → Op.bytesLess l r = decide (numOf l < numOf r) := by
  induction l with
  | nil => intro r h; have : r = [] := List.eq_nil_of_length_eq_zero h.symm; subst this; simp [Op.bytesLess]
  | cons a l ih =>
    intro r h
    cases r with
    | nil => simp at h
    | cons b r =>
      have hl : l.length = r.length := by simpa using h
      have h1 := numOf_lt l
      have h2 := numOf_lt r
      rw [Op.bytesLess, ih r hl, numOf_cons, numOf_cons, hl]
      rw [hl] at h1
      have hP : 0 < 256 ^ r.length := Nat.pow_pos (by omega)
      generalize 256 ^ r.length = P at *
      by_cases hab : a.toNat < b.toNat
      · have e1 : (a < b) := UInt8.lt_iff_toNat_lt.2 hab
        have : a.toNat * P + P ≤ b.toNat * P := by
          have := Nat.mul_le_mul_right P hab
          rw [Nat.succ_mul] at this
          exact this
        have h3 : a.toNat * P + numOf l < b.toNat * P + numOf r := by omega
        simp [e1, h3]
      · by_cases he : a = b
        · subst he
          simp
        · have hne : a.toNat ≠ b.toNat := fun h => he (UInt8.toNat_inj.1 h)
          have e1 : ¬ (a < b) := fun h => hab (UInt8.lt_iff_toNat_lt.1 h)
          have : b.toNat * P + P ≤ a.toNat * P := by
            have hba : b.toNat < a.toNat := by omega
            have := Nat.mul_le_mul_right P hba
            rw [Nat.succ_mul] at this
            exact this
          have h3 : ¬ a.toNat * P + numOf l < b.toNat * P + numOf r := by omega
          simp [e1, he, h3]
theorem bytesOf_less (m n : Nat) (s : Nat) (hm : m < 256 ^ s) (hn : n < 256 ^ s) : Op.bytesLess (bytesOf m s) (bytesOf n s) = decide (m < n) := by
  rw [numOf_less _ _ (by rw [bytesOf_length, bytesOf_length]), numOf_bytesOf, numOf_bytesOf, Nat.mod_eq_of_lt hm, Nat.mod_eq_of_lt hn]
theorem bytesOf_eq (m n : Nat) (s : Nat) (hm : m < 256 ^ s) (hn : n < 256 ^ s) : (bytesOf m s == bytesOf n s) = ((m : Int) == (n : Int)) := by
  by_cases h : m = n
  · subst h; simp
  · have h1 : bytesOf m s ≠ bytesOf n s := by
      intro e
      have := congrArg numOf e
      rw [numOf_bytesOf, numOf_bytesOf, Nat.mod_eq_of_lt hm, Nat.mod_eq_of_lt hn] at this
      exact h this
    have h2 : (m : Int) ≠ (n : Int) := by omega
    rw [beq_eq_false_iff_ne.2 h1, beq_eq_false_iff_ne.2 h2]

/-! ### ranges -/
def fitsB (x y z : Int) : Bool := decide (0 ≤ x ∧ 0 ≤ y ∧ x ≤ z ∧ y ≤ z - x)
theorem fits_yes {x y z : Int} (h : 0 ≤ x ∧ 0 ≤ y ∧ x ≤ z ∧ y ≤ z - x) : fitsB x y z = true := decide_eq_true h
theorem fits_no {x y z : Int} (h : ¬ (0 ≤ x ∧ 0 ≤ y ∧ x ≤ z ∧ y ≤ z - x)) : fitsB x y z = false := decide_eq_false h

set_option maxHeartbeats 400000 in
theorem fits_any (x y z : Int) (w : World) (hx : -9223372036854775808 ≤ x ∧ x ≤ 9223372036854775807) (hy : -9223372036854775808 ≤ y ∧ y ≤ 9223372036854775807) (hz : -9223372036854775808 ≤ z ∧ z ≤ 9223372036854775807) :
    Calls Try.prog 17 #[.int .i64 x, .int .i64 y, .int .i64 z] w fun e w' => e = .returned (.bool (fitsB x y z)) ∧ w = w' := by
  by_cases h1 : 0 ≤ x
  · by_cases h2 : 0 ≤ y
    · by_cases h3 : x ≤ z
      · by_cases h4 : y ≤ z - x
        · rw [fits_yes ⟨h1, h2, h3, h4⟩]
          go_enter Try.func17, Try.ntmps17
          go_wp2_with fail
          go_ret
          exact ⟨by simp [h1, h2, h3, h4], rfl⟩
        · rw [fits_no (by omega)]
          go_enter Try.func17, Try.ntmps17
          go_wp2_with fail
          go_ret
          exact ⟨by simp [h1, h2, h3, h4], rfl⟩
      · rw [fits_no (by omega)]
        go_enter Try.func17, Try.ntmps17
        go_wp2_with fail
        go_ret
        exact ⟨by simp [h1, h2, h3], rfl⟩
    · rw [fits_no (by omega)]
      go_enter Try.func17, Try.ntmps17
      go_wp2_with fail
      go_ret
      exact ⟨by simp [h1, h2], rfl⟩
  · rw [fits_no (by omega)]
    go_enter Try.func17, Try.ntmps17
    go_wp2_with fail
    go_ret
    exact ⟨by simp [h1], rfl⟩

/-! ### both, at every input: what is told hangs on the bytes, the number, the size alone -/
def getV (l : List UInt8) : Int := if l.length < 1 ∨ 8 < l.length then 0 else (numOf l : Int)
def getE (l : List UInt8) : Int := if l.length < 1 ∨ 8 < l.length then 1 else 0
def putL (m : Nat) (y : Int) : List UInt8 := if 1 ≤ y ∧ y ≤ 8 ∧ m < 256 ^ y.toNat then bytesOf m y.toNat else []
def putE (m : Nat) (y : Int) : Int := if 1 ≤ y ∧ y ≤ 8 ∧ m < 256 ^ y.toNat then 0 else 1
def PutAny (m : Nat) (y : Int) (w : World) (e : Ending) (w' : World) : Prop :=
  ∃ a n c, e = .returned (.tuple #[.slice a n c, .int .i64 (putE m y)]) ∧ OwnB w' w.heap.size (.slice a n c) (putL m y) ∧ Below w.heap.size w w'

theorem get_any (a : Option Addr) (n cap : Nat) (l : List UInt8) (w : World) (hn : l.length = n) {Bd : Nat} (hr : Rd w Bd a (bs l)) :
    Calls Try.prog 11 #[.slice a n cap] w fun e w' => e = .returned (.tuple #[.int .u64 (getV l), .int .i64 (getE l)]) ∧ w = w' := by
  subst hn
  by_cases h : l.length < 1 ∨ 8 < l.length
  · unfold getV getE
    rw [if_pos h, if_pos h]
    exact get_bad a cap _ w h
  · unfold getV getE
    rw [if_neg h, if_neg h]
    exact get_good a cap l w (by omega) (by omega) hr
theorem rget_any (a : Option Addr) (n cap : Nat) (l : List UInt8) (w : World) (hn : l.length = n) {Bd : Nat} (hr : Rd w Bd a (bs l)) :
    Calls Try.prog 12 #[.slice a n cap] w fun e w' => e = .returned (.tuple #[.int .u64 (getV l), .int .i64 (getE l)]) ∧ w = w' := by
  subst hn
  by_cases h : l.length < 1 ∨ 8 < l.length
  · unfold getV getE
    rw [if_pos h, if_pos h]
    exact rget_bad a cap _ w h
  · unfold getV getE
    rw [if_neg h, if_neg h]
    exact rget_good a cap l w (by omega) (by omega) hr
theorem put_any (m : Nat) (y : Int) (w : World) (hm : m < 18446744073709551616) :
    Calls Try.prog 13 #[.int .u64 m, .int .i64 y] w (PutAny m y w) := by
  by_cases h : 1 ≤ y ∧ y ≤ 8
  · obtain ⟨s, rfl⟩ := Int.eq_ofNat_of_zero_le (show 0 ≤ y by omega)
    by_cases hlt : m < 256 ^ s
    · refine (put_good m s w (by omega) (by omega) hlt).mono ?_
      rintro e w1 ⟨rfl, hown, hb⟩
      refine ⟨some ⟨w.heap.size, 0, none⟩, s, s, ?_, ?_, hb⟩
      · unfold putE; rw [if_pos ⟨h.1, h.2, by simpa using hlt⟩]
      · unfold putL; rw [if_pos ⟨h.1, h.2, by simpa using hlt⟩]; exact hown
    · have h8 : s < 8 := by
        rcases Nat.lt_or_ge s 8 with h | h
        · exact h
        · have : s = 8 := by omega
          subst this
          exact absurd hm hlt
      refine (put_big m s w (by omega) h8 (by omega)).mono ?_
      rintro e w1 ⟨rfl, rfl⟩
      have hn : ¬ (1 ≤ ((s : Nat) : Int) ∧ ((s : Nat) : Int) ≤ 8 ∧ m < 256 ^ ((s : Nat) : Int).toNat) := fun h => hlt (by simpa using h.2.2)
      refine ⟨none, 0, 0, ?_, ?_, Below.refl _ _⟩
      · unfold putE; rw [if_neg hn]
      · unfold putL; rw [if_neg hn]; exact OwnB.nil _ _
  · refine (put_bad m y w (by omega)).mono ?_
    rintro e w1 ⟨rfl, rfl⟩
    have hn : ¬ (1 ≤ y ∧ y ≤ 8 ∧ m < 256 ^ y.toNat) := fun h' => h ⟨h'.1, h'.2.1⟩
    refine ⟨none, 0, 0, ?_, ?_, Below.refl _ _⟩
    · unfold putE; rw [if_neg hn]
    · unfold putL; rw [if_neg hn]; exact OwnB.nil _ _
theorem rput_all (m : Nat) (y : Int) (w : World) (hm : m < 18446744073709551616) :
    Calls Try.prog 14 #[.int .u64 m, .int .i64 y] w (PutAny m y w) := by
  by_cases h : 1 ≤ y ∧ y ≤ 8
  · obtain ⟨s, rfl⟩ := Int.eq_ofNat_of_zero_le (show 0 ≤ y by omega)
    refine (rput_any m s w (by omega) (by omega) hm).mono ?_
    rintro e w1 ⟨hb, hr⟩
    by_cases hlt : m < 256 ^ s
    · rw [if_pos hlt] at hr
      obtain ⟨rfl, hown⟩ := hr
      refine ⟨some ⟨w.heap.size, 0, none⟩, s, s, ?_, ?_, hb⟩
      · unfold putE; rw [if_pos ⟨h.1, h.2, by simpa using hlt⟩]
      · unfold putL; rw [if_pos ⟨h.1, h.2, by simpa using hlt⟩]; exact hown
    · rw [if_neg hlt] at hr
      subst hr
      have hn : ¬ (1 ≤ ((s : Nat) : Int) ∧ ((s : Nat) : Int) ≤ 8 ∧ m < 256 ^ ((s : Nat) : Int).toNat) := fun h => hlt (by simpa using h.2.2)
      refine ⟨none, 0, 0, ?_, ?_, hb⟩
      · unfold putE; rw [if_neg hn]
      · unfold putL; rw [if_neg hn]; exact OwnB.nil _ _
  · refine (rput_bad m y w (by omega)).mono ?_
    rintro e w1 ⟨rfl, rfl⟩
    have hn : ¬ (1 ≤ y ∧ y ≤ 8 ∧ m < 256 ^ y.toNat) := fun h' => h ⟨h'.1, h'.2.1⟩
    refine ⟨none, 0, 0, ?_, ?_, Below.refl _ _⟩
    · unfold putE; rw [if_neg hn]
    · unfold putL; rw [if_neg hn]; exact OwnB.nil _ _
end Go.Proofs.Ytnhfpjjmhanehaa
