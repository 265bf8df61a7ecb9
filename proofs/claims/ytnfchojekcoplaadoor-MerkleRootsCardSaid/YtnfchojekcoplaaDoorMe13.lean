/- unlike data, unlike roots (plain) -/
import Derived.Test.YtnfchojekcoplaaDoorMeN
namespace Go.Proofs.YtnfchojekcoplaaDoor
set_option linter.unusedVariables false
set_option linter.unusedSimpArgs false
open Go Go.RowKit

theorem u8_xor_byte (x y : UInt8) : bits .xor .u8 (x.toNat : Int) (y.toNat : Int) = ((x ^^^ y).toNat : Int) := by
  rw [u8_xor_nat _ _ x.toNat_lt y.toNat_lt, UInt8.toNat_xor]
theorem u8_open (b : Int) (h : (Lit.int .u8 b).wf = true) : ∃ y : UInt8, b = (y.toNat : Int) := by
  have := bounds_u8 h
  refine ⟨UInt8.ofNat b.toNat, ?_⟩
  rw [UInt8.toNat_ofNat']
  omega
theorem sec_set_other (d : List UInt8) (p q : Nat) (y : UInt8) (h : q ≠ p / 64) : secL (d.set p y) q = secL d q := by
  unfold secL
  rw [List.drop_set]
  split
  · rfl
  · rw [List.take_set, List.set_eq_of_length_le]
    rw [List.length_take]
    omega
theorem sec_set_own (d : List UInt8) (p : Nat) (y : UInt8) (hp : p < d.length) (hy : y ≠ d[p]) : secL d (p / 64) ≠ secL (d.set p y) (p / 64) := by
  intro e
  have h1 : (secL d (p / 64))[p % 64]? = some d[p] := by
    unfold secL
    rw [List.getElem?_take_of_lt (by omega), List.getElem?_drop, show 64 * (p / 64) + p % 64 = p by omega, List.getElem?_eq_getElem hp]
  have h2 : (secL (d.set p y) (p / 64))[p % 64]? = some y := by
    unfold secL
    rw [List.getElem?_take_of_lt (by omega), List.getElem?_drop, show 64 * (p / 64) + p % 64 = p by omega, List.getElem?_set_self hp]
  rw [e, h2] at h1
  injection h1 with h1
  exact hy h1

theorem sec_two (L : List UInt8) (q : Nat) : secL L q = (L.drop (32 * (2 * q))).take 32 ++ (L.drop (32 * (2 * q + 1))).take 32 := by
  unfold secL
  rw [show 32 * (2 * q + 1) = 64 * q + 32 by omega, show 32 * (2 * q) = 64 * q by omega, ← List.drop_drop, show (64 : Nat) = 32 + 32 from rfl, List.take_add]
theorem next_sec (kk : UInt8) (l l' : List UInt8) (c q : Nat) (hq : q < (c + 1) / 2) (h0 : hashL kk (secL l (2 * q)) = hashL kk (secL l' (2 * q))) (h1 : 2 * q + 1 < c → hashL kk (secL l (2 * q + 1)) = hashL kk (secL l' (2 * q + 1))) :
    secL (nextL kk l c) q = secL (nextL kk l' c) q := by
  rw [sec_two, sec_two, nextL_at kk l c (2 * q) (by omega), nextL_at kk l' c (2 * q) (by omega), h0]
  congr 1
  by_cases h : 2 * q + 1 < c
  · rw [nextL_at kk l c (2 * q + 1) h, nextL_at kk l' c (2 * q + 1) h, h1 h]
  · have hc : 2 * q + 1 = c := by omega
    unfold nextL
    rw [hc, ← hashes_length kk l c, List.drop_left, hashes_length, ← hashes_length kk l' c, List.drop_left]
theorem hashes_eq (kk : UInt8) (l l' : List UInt8) : ∀ c, (∀ q, q < c → hashL kk (secL l q) = hashL kk (secL l' q)) → hashes kk l c = hashes kk l' c
  | 0, _ => rfl
  | c + 1, h => by rw [hashes, hashes, hashes_eq kk l l' c (fun q hq => h q (by omega)), h c (by omega)]

/-- all sectors but the ones above sector i are alike -/
theorem lev_other (d d' : List UInt8) (n i : Nat) (h : ∀ q, q < n → q ≠ i → secL d q = secL d' q) : ∀ j q, q < cnt n j → q ≠ i / 2 ^ j → secL (lev d n j) q = secL (lev d' n j) q
  | 0, q, hq, hne => by
    rw [Nat.pow_zero, Nat.div_one] at hne
    exact h q hq hne
  | j + 1, q, hq, hne => by
    have hc := cnt_succ j n
    rw [Nat.pow_succ, ← Nat.div_div_eq_div_mul] at hne
    rw [lev, lev]
    have ih := lev_other d d' n i h j
    refine next_sec _ _ _ _ _ (by omega) ?_ (fun h2 => ?_)
    · rw [ih (2 * q) (by omega) (by omega)]
    · rw [ih (2 * q + 1) h2 (by omega)]
theorem lev_meet (d d' : List UInt8) (n i j : Nat) (h : ∀ q, q < n → q ≠ i → secL d q = secL d' q) (he : hashL (kindL j) (secL (lev d n j) (i / 2 ^ j)) = hashL (kindL j) (secL (lev d' n j) (i / 2 ^ j))) : lev d n (j + 1) = lev d' n (j + 1) := by
  rw [lev, lev, nextL, nextL]
  rw [hashes_eq]
  intro q hq
  by_cases e : q = i / 2 ^ j
  · rw [e]; exact he
  · rw [lev_other d d' n i h j q hq e]
theorem lev_from (d d' : List UInt8) (n j : Nat) (h : lev d n j = lev d' n j) : ∀ m, lev d n (j + m) = lev d' n (j + m)
  | 0 => h
  | m + 1 => by rw [← Nat.add_assoc, lev, lev, lev_from d d' n j h m]
theorem root_is (d : List UInt8) (n : Nat) (hd : d.length = 64 * n) : rootL d = hashL 1 (lev d n (nlev n)) := by
  have hn : d.length / 64 = n := by omega
  unfold rootL
  rw [hn]
/-- the sector above, of the last level, is the last level itself -/
theorem last_sec (d : List UInt8) (n i : Nat) (hd : d.length = 64 * n) (h1 : 1 ≤ n) (h2 : n ≤ 2048) (hi : i < n) : secL (lev d n (nlev n)) (i / 2 ^ nlev n) = lev d n (nlev n) ∧ kindL (nlev n) = 1 := by
  obtain ⟨h3, h4⟩ := nlev_one n h1 h2
  have hq := half_lt n i hi (nlev n)
  rw [h3] at hq
  have h0 : i / 2 ^ nlev n = 0 := Nat.lt_one_iff.1 hq
  refine ⟨?_, by unfold kindL; rw [if_neg (by omega)]⟩
  rw [h0]
  exact secL_whole _ (by rw [lev_length d n hd, h3])
/-- where two digests meet, the roots do -/
theorem meet_root (d d' : List UInt8) (n i j : Nat) (hd : d.length = 64 * n) (hd' : d'.length = 64 * n) (h1 : 1 ≤ n) (h2 : n ≤ 2048) (hi : i < n) (h : ∀ q, q < n → q ≠ i → secL d q = secL d' q) (hj : j ≤ nlev n)
    (he : hashL (kindL j) (secL (lev d n j) (i / 2 ^ j)) = hashL (kindL j) (secL (lev d' n j) (i / 2 ^ j))) : rootL d = rootL d' := by
  rw [root_is d n hd, root_is d' n hd']
  by_cases e : j = nlev n
  · subst e
    obtain ⟨a1, a2⟩ := last_sec d n i hd h1 h2 hi
    obtain ⟨b1, _⟩ := last_sec d' n i hd' h1 h2 hi
    rw [a1, b1, a2] at he
    exact he
  · have h3 := lev_meet d d' n i j h he
    have := lev_from d d' n (j + 1) h3 (nlev n - (j + 1))
    rw [show j + 1 + (nlev n - (j + 1)) = nlev n by omega] at this
    rw [this]
theorem last_root (d d' : List UInt8) (n i : Nat) (hd : d.length = 64 * n) (hd' : d'.length = 64 * n) (h1 : 1 ≤ n) (h2 : n ≤ 2048) (hi : i < n)
    (he : hashL (kindL (nlev n)) (secL (lev d n (nlev n)) (i / 2 ^ nlev n)) ≠ hashL (kindL (nlev n)) (secL (lev d' n (nlev n)) (i / 2 ^ nlev n))) : rootL d ≠ rootL d' := by
  obtain ⟨a1, a2⟩ := last_sec d n i hd h1 h2 hi
  obtain ⟨b1, _⟩ := last_sec d' n i hd' h1 h2 hi
  rw [root_is d n hd, root_is d' n hd']
  rw [a1, b1, a2] at he
  exact he
theorem up_differ (d d' : List UInt8) (n j q : Nat) (hq : q < cnt n j) (he : hashL (kindL j) (secL (lev d n j) q) ≠ hashL (kindL j) (secL (lev d' n j) q)) : secL (lev d n (j + 1)) (q / 2) ≠ secL (lev d' n (j + 1)) (q / 2) := by
  intro e
  apply he
  rw [← up_step d n j q hq, ← up_step d' n j q hq, e]
end Go.Proofs.YtnfchojekcoplaaDoor
