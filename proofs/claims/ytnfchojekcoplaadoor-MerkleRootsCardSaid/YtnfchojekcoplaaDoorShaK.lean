/- the live question of layer 2 -/
import Derived.Test.YtnfchojekcoplaaDoorSha7
namespace Go.Proofs.YtnfchojekcoplaaDoor
set_option linter.unusedVariables false
set_option linter.unusedSimpArgs false
open Go.RowKit

theorem alive_e : (shaL []).getD 0 0 = 0xe3 ∧ (shaL []).getD 1 0 = 0xb0 := by decide +kernel
theorem alive_abc : (shaL [97, 98, 99]).getD 0 0 = 0xba ∧ (shaL [97, 98, 99]).getD 31 0 = 0xad := by decide +kernel
theorem digest_at (l : List UInt8) (i : Nat) (hi : i < 32) (y : UInt8) (h : (shaL l).getD i 0 = y) : (bs (shaL l))[i]? = some (.int .u8 (y.toNat : Int)) := by
  have hl := shaL_length l
  rw [bs_get _ i (by omega)]
  rw [List.getD_eq_getElem?_getD, List.getElem?_eq_getElem (by omega)] at h
  rw [← h]; rfl

/-- A digest is kept in a new block. -/
theorem keep_digest (w : World) (L : List UInt8) (hL : L.length = 32) : ∃ X Z : Array Value, (bs L).toArray = X ∧ (Tryd.prog.info? 24).map (·.size) = some X.size ∧ X.all (·.oneCell') = true ∧
    (w.alloc (.cells (bs (List.replicate 32 0)).toArray 24)).heap[w.heap.size]? = some (.cells Z 24 (0, 0)) ∧ Z.size = X.size ∧
    ∃ w', (w.alloc (.cells (bs (List.replicate 32 0)).toArray 24)).setRow w.heap.size X = w' ∧ Blk w' w.heap.size 24 (bs L) ∧ Below w.heap.size w w' ∧ w'.heap.size = w.heap.size + 1 := by
  obtain ⟨X, Z, hX, hinf, hone, hzz, hzs, hg4, hb5⟩ := store_digest (B := w.heap.size) (w := w) hL (old := List.replicate 32 0) (by simp) (Blk.new w 24 (bs (List.replicate 32 0))) (Nat.le_refl _) ((Below.refl w.heap.size w).alloc (Nat.le_refl _) _)
  exact ⟨X, Z, hX, hinf, hone, hzz, hzs, _, rfl, by rw [← hX] at hg4 ⊢; exact hg4, hb5, by rw [setRow_size, World.size_alloc]⟩

theorem hgoalL {X Y : World} {P : Program} {ops : Array Oper} {Q : Exit → Act → World → Prop} {l : List Oper} {a : Act} (e : X = Y) (h : wpList P ops Q l a Y) : wpList P ops Q l a X := e ▸ h

theorem bs_ints (l : List UInt8) : bs l = (l.map fun x => (x.toNat : Int)).map (Value.int .u8) := by simp [bs, B]
theorem ints_beq (l m : List UInt8) : (l.map (fun x => (x.toNat : Int)) == m.map fun x => (x.toNat : Int)) = (l == m) := by
  by_cases h : l = m
  · subst h; simp
  · have : ¬ (l.map (fun x => (x.toNat : Int)) = m.map fun x => (x.toNat : Int)) := fun e => h (bs_inj (by rw [bs_ints, bs_ints, e]))
    rw [beq_eq_false_iff_ne.2 h, beq_eq_false_iff_ne.2 this]
theorem eq_digest (l m : List UInt8) (hl : l.length = 32) (hm : m.length = 32) {X Y : Array Value} (hX : (bs l).toArray = X) (hY : (bs m).toArray = Y) (W : World) :
    (Op.equalIn 10000 24 (.agg X) (.agg Y)).run Tryd.prog W = .ok (l == m) W := by
  rw [← hX, ← hY, bs_ints, bs_ints, ← ints_beq]
  exact run_equalIn_ints 9998 24 32 5 .u8 .u8 Tryd.underlying24 Tryd.underlying5 (fun _ => by kernel_rfl) (fun _ => by kernel_rfl) _ _ (by simp [hl]) (by simp [hm]) W

end Go.Proofs.YtnfchojekcoplaaDoor
