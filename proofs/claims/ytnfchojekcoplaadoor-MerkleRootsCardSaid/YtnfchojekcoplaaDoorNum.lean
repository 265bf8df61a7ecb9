/- numbers as bytes: plain facts -/
import Derived.Test.YtnfchojekcoplaaDoorA
namespace Go.Proofs.YtnfchojekcoplaaDoor
set_option linter.unusedVariables false
set_option linter.unusedSimpArgs false
open Go.RowKit

/-- The number that bytes stand for. -/
def numOf (l : List UInt8) : Nat := l.foldl (fun n x => n * 256 + x.toNat) 0

theorem numOf_snoc (l : List UInt8) (x : UInt8) : numOf (l ++ [x]) = numOf l * 256 + x.toNat := by simp [numOf]

theorem foldl_lt (l : List UInt8) : ∀ (n k : Nat), n < 256 ^ k → l.foldl (fun n x => n * 256 + x.toNat) n < 256 ^ (k + l.length) := by
  induction l with
  | nil => intro n k h; simpa using h
  | cons x l ih =>
    intro n k h
    have hx := x.toNat_lt
    have := ih (n * 256 + x.toNat) (k + 1) (by rw [Nat.pow_succ]; omega)
    simpa [Nat.add_assoc, Nat.add_comm 1] using this

theorem numOf_lt (l : List UInt8) : numOf l < 256 ^ l.length := by
  have := foldl_lt l 0 0 (by simp)
  simpa [numOf] using this

theorem numOf_take_lt (l : List UInt8) (k : Nat) (hk : k ≤ 7) : numOf (l.take k) < 72057594037927936 := by
  have h := numOf_lt (l.take k)
  have h1 : (l.take k).length ≤ 7 := by simp; omega
  have h2 : 256 ^ (l.take k).length ≤ 256 ^ 7 := Nat.pow_le_pow_right (by omega) h1
  omega

theorem numOf_take_succ (l : List UInt8) (k : Nat) (h : k < l.length) : numOf (l.take (k + 1)) = numOf (l.take k) * 256 + (l[k]).toNat := by
  rw [List.take_succ_eq_append_getElem h, numOf_snoc]

/-- A number as so many bytes. -/
def bytesOf (n : Nat) : Nat → List UInt8
  | 0 => []
  | s + 1 => bytesOf (n / 256) s ++ [UInt8.ofNat n]
theorem bytesOf_length (s : Nat) : ∀ n, (bytesOf n s).length = s := by
  induction s with
  | zero => intro n; rfl
  | succ s ih => intro n; simp [bytesOf, ih]
theorem bytesOf_get (s : Nat) : ∀ (n i : Nat) (h : i < (bytesOf n s).length), (bytesOf n s)[i] = UInt8.ofNat (n / 256 ^ (s - 1 - i)) := by
  induction s with
  | zero => intro n i h; simp [bytesOf] at h
  | succ s ih =>
    intro n i h
    have hl := bytesOf_length s (n / 256)
    by_cases hi : i < s
    · have : (bytesOf n (s + 1))[i] = (bytesOf (n / 256) s)[i]'(by omega) := by
        simp only [bytesOf]
        rw [List.getElem_append_left (by omega)]
      rw [this, ih, Nat.div_div_eq_div_mul]
      congr 2
      rw [show s + 1 - 1 - i = (s - 1 - i) + 1 by omega, Nat.pow_succ, Nat.mul_comm]
    · have hs : i = s := by rw [bytesOf_length] at h; omega
      subst hs
      simp only [bytesOf]
      rw [List.getElem_append_right (by omega)]
      simp
theorem numOf_bytesOf (s : Nat) : ∀ n, numOf (bytesOf n s) = n % 256 ^ s := by
  induction s with
  | zero => intro n; simp [bytesOf, numOf, Nat.mod_one]
  | succ s ih =>
    intro n
    rw [bytesOf, numOf_snoc, ih, Nat.pow_succ, Nat.mul_comm (256 ^ s) 256, Nat.mod_mul, UInt8.toNat_ofNat']
    omega
theorem bytesOf_numOf (l : List UInt8) : bytesOf (numOf l) l.length = l := by
  generalize hn : l.length = n
  induction n generalizing l with
  | zero => rw [List.eq_nil_of_length_eq_zero hn]; rfl
  | succ n ih =>
    have hne : l ≠ [] := by intro h; subst h; simp at hn
    have hx := (l.getLast hne).toNat_lt
    have hd := ih l.dropLast (by simp; omega)
    rw [← List.dropLast_concat_getLast hne, numOf_snoc, bytesOf,
      show (numOf l.dropLast * 256 + (l.getLast hne).toNat) / 256 = numOf l.dropLast by omega, hd]
    congr 2
    refine UInt8.toNat_inj.1 ?_
    rw [UInt8.toNat_ofNat']
    omega

theorem or_byte (n x : Nat) (hx : x < 256) : n * 256 ||| x = n * 256 + x := by
  have := Nat.two_pow_add_eq_or_of_lt (i := 8) hx n
  rw [show (2:Nat)^8 = 256 from rfl] at this
  rw [Nat.mul_comm n 256, this]

theorem take_set {α : Type} (L : List α) (i : Nat) (x : α) (h : i < L.length) : (L.set i x).take (i + 1) = L.take i ++ [x] := by
  rw [List.take_succ_eq_append_getElem (by simpa using h), List.getElem_set_self, List.take_set_of_le (Nat.le_refl _)]

theorem shr_small (n s : Nat) (hn : n < 256 ^ s) : (n : Int) / 2 ^ (8 * s) ≤ 0 := by
  have h : (256 : Nat) ^ s = 2 ^ (8 * s) := by rw [Nat.pow_mul]
  rw [h] at hn
  have : ((n / 2 ^ (8 * s) : Nat) : Int) = 0 := by rw [Nat.div_eq_of_lt hn]; rfl
  simp only [Int.natCast_ediv, Int.natCast_pow] at this
  have h2 : ((2 : Nat) : Int) = 2 := rfl
  rw [h2] at this
  omega

theorem own_zero {w : World} {base g n : Nat} (h : w.ownsRow base 5 1 (.slice (some ⟨g, 0, none⟩) n n) n (madeCells #[Value.int .u8 0] n).toList) :
    w.ownsRow base 5 1 (.slice (some ⟨g, 0, none⟩) n n) n (bs (List.replicate n 0)) := by
  have e : (madeCells #[Value.int .u8 0] n).toList = bs (List.replicate n 0) := by
    rw [toList_madeCells_one]
    simp [bs, B]
  rw [e] at h
  exact h

theorem own_cell {w : World} {base g n c : Nat} {e : TypeId} {xs : List Value} (h : w.ownsRow base e 1 (.slice (some ⟨g, 0, none⟩) n c) n xs) (j : Nat) (hj : j < n) : ∃ u, w.cell? ⟨g, j, none⟩ = some u := by
  have := h.cellAt j (by omega)
  rw [List.getElem?_eq_getElem (by have := h.1; omega)] at this
  exact ⟨_, this⟩

theorem put_byte (n s k : Nat) (hk : k < s) : (.int .u8 ((n : Int) / 2 ^ (8 * (s - 1 - k)) % 256) : Value) = B (UInt8.ofNat (n / 256 ^ (s - 1 - k))) := by
  have h : (2 : Nat) ^ (8 * (s - 1 - k)) = 256 ^ (s - 1 - k) := by rw [Nat.pow_mul]
  have h2 : ((2 : Int) ^ (8 * (s - 1 - k))) = ((256 ^ (s - 1 - k) : Nat) : Int) := by rw [← h]; simp
  unfold B
  rw [UInt8.toNat_ofNat', h2, ← Int.natCast_ediv]
  simp

theorem shr_big (n s : Nat) (hn : 256 ^ s ≤ n) : 0 < (n : Int) / 2 ^ (8 * s) := by
  have h : (256 : Nat) ^ s = 2 ^ (8 * s) := by rw [Nat.pow_mul]
  rw [h] at hn
  have : 0 < n / 2 ^ (8 * s) := Nat.div_pos hn (Nat.two_pow_pos _)
  have h1 : (0 : Int) < ((n / 2 ^ (8 * s) : Nat) : Int) := by omega
  simpa using h1

theorem drop_set {α : Type} (L : List α) (i : Nat) (x : α) (h : i < L.length) : (L.set i x).drop i = x :: L.drop (i + 1) := by
  rw [List.drop_eq_getElem_cons (by simpa using h), List.getElem_set_self, List.drop_set_of_lt (by omega)]

theorem rput_byte (n s k : Nat) : (.int .u8 (((n / 256 ^ (s - 1 - k) : Nat) : Int) % 256) : Value) = B (UInt8.ofNat (n / 256 ^ (s - 1 - k))) := by
  unfold B
  rw [UInt8.toNat_ofNat']
  simp

theorem rput_div (n s k : Nat) (hk : k < s) : (((n / 256 ^ (s - 1 - k) : Nat) : Int) / 256) = ((n / 256 ^ (s - k) : Nat) : Int) := by
  rw [show s - k = (s - 1 - k) + 1 by omega, Nat.pow_succ, ← Nat.div_div_eq_div_mul]
  simp

theorem foldl_num (l : List UInt8) : ∀ n : Nat, l.foldl (fun n x => n * 256 + x.toNat) n = n * 256 ^ l.length + numOf l := by
  induction l with
  | nil => intro n; simp [numOf]
  | cons a l ih =>
    intro n
    have h1 := ih (n * 256 + a.toNat)
    have h2 := ih (0 * 256 + a.toNat)
    simp only [numOf, List.foldl_cons, List.length_cons] at *
    rw [h1, h2, Nat.pow_succ, Nat.add_mul, Nat.zero_mul, Nat.zero_add, Nat.mul_assoc, Nat.mul_comm 256, Nat.add_assoc]
theorem numOf_cons (a : UInt8) (l : List UInt8) : numOf (a :: l) = a.toNat * 256 ^ l.length + numOf l := by
  have := foldl_num l (0 * 256 + a.toNat)
  simpa [numOf] using this
theorem numOf_less (l : List UInt8) : ∀ r : List UInt8, l.length = r.length → Op.bytesLess l r = decide (numOf l < numOf r) := by
  induction l with
  | nil => intro r h; have : r = [] := List.eq_nil_of_length_eq_zero h.symm; subst this; simp [Op.bytesLess]
  | cons a l ih =>
    intro r h
    cases r with
    | nil => simp at h
    | cons b r =>
      have hl : l.length = r.length := by simpa using h
      have h1 := numOf_lt l
      have h2 := numOf_lt r
      rw [Op.bytesLess, ih r hl, numOf_cons, numOf_cons, hl]
      rw [hl] at h1
      have hP : 0 < 256 ^ r.length := Nat.pow_pos (by omega)
      generalize 256 ^ r.length = P at *
      by_cases hab : a.toNat < b.toNat
      · have e1 : (a < b) := UInt8.lt_iff_toNat_lt.2 hab
        have : a.toNat * P + P ≤ b.toNat * P := by
          have := Nat.mul_le_mul_right P hab
          rw [Nat.succ_mul] at this
          exact this
        have h3 : a.toNat * P + numOf l < b.toNat * P + numOf r := by omega
        simp [e1, h3]
      · by_cases he : a = b
        · subst he
          simp
        · have hne : a.toNat ≠ b.toNat := fun h => he (UInt8.toNat_inj.1 h)
          have e1 : ¬ (a < b) := fun h => hab (UInt8.lt_iff_toNat_lt.1 h)
          have : b.toNat * P + P ≤ a.toNat * P := by
            have hba : b.toNat < a.toNat := by omega
            have := Nat.mul_le_mul_right P hba
            rw [Nat.succ_mul] at this
            exact this
          have h3 : ¬ a.toNat * P + numOf l < b.toNat * P + numOf r := by omega
          simp [e1, he, h3]
theorem bytesOf_less (m n : Nat) (s : Nat) (hm : m < 256 ^ s) (hn : n < 256 ^ s) : Op.bytesLess (bytesOf m s) (bytesOf n s) = decide (m < n) := by
  rw [numOf_less _ _ (by rw [bytesOf_length, bytesOf_length]), numOf_bytesOf, numOf_bytesOf, Nat.mod_eq_of_lt hm, Nat.mod_eq_of_lt hn]
theorem bytesOf_eq (m n : Nat) (s : Nat) (hm : m < 256 ^ s) (hn : n < 256 ^ s) : (bytesOf m s == bytesOf n s) = ((m : Int) == (n : Int)) := by
  by_cases h : m = n
  · subst h; simp
  · have h1 : bytesOf m s ≠ bytesOf n s := by
      intro e
      have := congrArg numOf e
      rw [numOf_bytesOf, numOf_bytesOf, Nat.mod_eq_of_lt hm, Nat.mod_eq_of_lt hn] at this
      exact h this
    have h2 : (m : Int) ≠ (n : Int) := by omega
    rw [beq_eq_false_iff_ne.2 h1, beq_eq_false_iff_ne.2 h2]

/-! ### ranges -/
def fitsB (x y z : Int) : Bool := decide (0 ≤ x ∧ 0 ≤ y ∧ x ≤ z ∧ y ≤ z - x)
theorem fits_yes {x y z : Int} (h : 0 ≤ x ∧ 0 ≤ y ∧ x ≤ z ∧ y ≤ z - x) : fitsB x y z = true := decide_eq_true h
theorem fits_no {x y z : Int} (h : ¬ (0 ≤ x ∧ 0 ≤ y ∧ x ≤ z ∧ y ≤ z - x)) : fitsB x y z = false := decide_eq_false h

/-! ### both, at every input: what is told hangs on the bytes, the number, the size alone -/
def getV (l : List UInt8) : Int := if l.length < 1 ∨ 8 < l.length then 0 else (numOf l : Int)
def getE (l : List UInt8) : Int := if l.length < 1 ∨ 8 < l.length then 1 else 0
def putL (m : Nat) (y : Int) : List UInt8 := if 1 ≤ y ∧ y ≤ 8 ∧ m < 256 ^ y.toNat then bytesOf m y.toNat else []
def putE (m : Nat) (y : Int) : Int := if 1 ≤ y ∧ y ≤ 8 ∧ m < 256 ^ y.toNat then 0 else 1
def PutAny (m : Nat) (y : Int) (w : World) (e : Ending) (w' : World) : Prop :=
  ∃ a n c, e = .returned (.tuple #[.slice a n c, .int .i64 (putE m y)]) ∧ OwnB w' w.heap.size (.slice a n c) (putL m y) ∧ Below w.heap.size w w'

end Go.Proofs.YtnfchojekcoplaaDoor
