/- sha: what bytes come to, and how a hash lies in memory -/
import Derived.Test.YtnfchojekcoplaaDoorSha2a
namespace Go.Proofs.YtnfchojekcoplaaDoor
set_option linter.unusedVariables false
set_option linter.unusedSimpArgs false
open Go.RowKit

/-- The state behind n blocks of the bytes. -/
def stB (l : List UInt8) : Nat → List W32
  | 0 => iv
  | n + 1 => compress (stB l n) ((l.drop (64 * n)).take 64)
/-- The state behind all whole blocks; what is left. -/
def stOf (l : List UInt8) : List W32 := stB l (l.length / 64)
def restOf (l : List UInt8) : List UInt8 := l.drop (64 * (l.length / 64))

theorem compress_length (s : List W32) (b : List UInt8) (h : s.length = 8) : (compress s b).length = 8 := by
  have := rnds_length (sched b 48) s 64 h
  simp [compress, h, this]
theorem stB_length (l : List UInt8) (n : Nat) : (stB l n).length = 8 := by
  induction n with
  | zero => rfl
  | succ n ih => exact compress_length _ _ ih
theorem restOf_length (l : List UInt8) : (restOf l).length = l.length % 64 := by
  rw [restOf, List.length_drop]; omega

/-- compress looks at the first 64 bytes alone. -/
theorem compress_take (s : List W32) (b : List UInt8) : compress s (b.take 64) = compress s b := by
  have h : ∀ k, k < 16 → be4 (b.take 64) k = be4 b k := fun k hk => by
    unfold be4
    have e : ∀ i, i < 64 → (b.take 64).getD i 0 = b.getD i 0 := fun i hi => by simp [List.getD, List.getElem?_take, hi]
    rw [e _ (by omega), e _ (by omega), e _ (by omega), e _ (by omega)]
  have h16 : first16 (b.take 64) 16 = first16 b 16 := by
    unfold first16
    refine List.map_congr_left fun k hk => h k (by simpa using hk)
  have hs : ∀ n, sched (b.take 64) n = sched b n := fun n => by
    induction n with
    | zero => exact h16
    | succ n ih => rw [sched, sched, ih]
  rw [compress, compress, hs]

theorem stB_app (l m : List UInt8) (n : Nat) (h : 64 * n ≤ l.length) : stB (l ++ m) n = stB l n := by
  induction n with
  | zero => rfl
  | succ n ih =>
    rw [stB, stB, ih (by omega), List.drop_append_of_le_length (by omega), List.take_append_of_le_length (by rw [List.length_drop]; omega)]

/-- What is taken in when the rest and the new bytes make no whole block. -/
theorem st_small (l m : List UInt8) (h : l.length % 64 + m.length < 64) : stOf (l ++ m) = stOf l ∧ restOf (l ++ m) = restOf l ++ m := by
  have e : (l ++ m).length / 64 = l.length / 64 := by rw [List.length_append]; omega
  constructor
  · rw [stOf, stOf, e, stB_app _ _ _ (by omega)]
  · rw [restOf, restOf, e, List.drop_append_of_le_length (by omega)]

/-- One whole block more. -/
theorem st_block (l m : List UInt8) (h : l.length % 64 + m.length = 64) : stOf (l ++ m) = compress (stOf l) (restOf l ++ m) ∧ restOf (l ++ m) = [] := by
  have e : (l ++ m).length / 64 = l.length / 64 + 1 := by rw [List.length_append]; omega
  constructor
  · rw [stOf, e, stB, stB_app _ _ _ (by omega), List.drop_append_of_le_length (by omega), stOf, compress_take, restOf]
  · rw [restOf, e, List.drop_of_length_le (by rw [List.length_append]; omega)]

/-- A hash in memory: its block, the block of what is left, the bytes that were taken in. -/
def IsHash (W : World) (g : Nat) (r : Option Nat) (lo : Nat) (all : List UInt8) : Prop :=
  ∃ a c, Blk W g 57 (us (stOf all) ++ [.slice a (restOf all).length c, .int .u64 ((all.length % 18446744073709551616 : Nat) : Int)]) ∧ OwnB W lo (.slice a (restOf all).length c) (restOf all) ∧
    (Value.slice a (restOf all).length c).ownBlock = r ∧ r ≠ some g

theorem KOK.below {W W' : World} (h : KOK W) (hb : Below W.heap.size W W') : KOK W' := (hb.block 0 (lt_of_heap h)).trans h
theorem KOK.grown {W W' : World} {row : Option Nat} (h : KOK W) (hg : W.grownBy W' row) (hr : row ≠ some 0) : KOK W' := (hg.block 0 (lt_of_heap h) (fun e => hr e.symm)).trans h

theorem new_any (w : World) : Calls Tryd.prog 25 #[] w fun e w' => e = .returned (.pointer (some ⟨w.heap.size, 0, none⟩)) ∧ IsHash w' w.heap.size none 0 [] ∧ Below w.heap.size w w' ∧ w'.heap.size = w.heap.size + 1 := by
  go_enter Tryd.func25, Tryd.ntmps25
  go_wp2_with fail
  go_ret
  refine ⟨rfl, ⟨none, 0, Blk.new _ _ _, ⟨rfl, .inl ⟨rfl, rfl⟩⟩, rfl, by simp⟩, (Below.refl _ _).alloc (Nat.le_refl _) _, World.size_alloc _ _⟩
end Go.Proofs.YtnfchojekcoplaaDoor
