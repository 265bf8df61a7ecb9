/- sha: two hashes by turns -/
import Derived.Test.YtlfchhnkchcjcaaDoorShaTwo
namespace Go.Proofs.YtlfchhnkchcjcaaDoor
set_option linter.unusedVariables false
set_option linter.unusedSimpArgs false
open Go.RowKit

def upd {α : Type} (f : Nat → α) (p : Nat) (x : α) : Nat → α := fun k => if k = p then x else f k
theorem upd_same {α : Type} (f : Nat → α) (p : Nat) (x : α) : upd f p x p = x := by simp [upd]
theorem upd_other {α : Type} (f : Nat → α) (p k : Nat) (x : α) (h : k ≠ p) : upd f p x k = f k := by simp [upd, h]

/-- Two hashes and what went into them. -/
structure ApSt (W : World) (S T : Nat → List UInt8) (v : Nat → Value) (r : Nat → Option Nat) (w : World) : Prop where
  blkH : Blk w W.heap.size 35 [.pointer (some ⟨W.heap.size + 2, 0, none⟩), .pointer (some ⟨W.heap.size + 3, 0, none⟩)]
  blkA : Blk w (W.heap.size + 1) 36 [v 0, v 1]
  hash : ∀ p, p < 2 → IsHash w (W.heap.size + 2 + p) (r p) 0 (S p)
  rlo : ∀ p, p < 2 → ∀ x, r p = some x → W.heap.size + 4 ≤ x
  own : ∀ p, p < 2 → OwnB w (W.heap.size + 4) (v p) (T p)
  len : ∀ p, p < 2 → (T p).length ≤ 20000
  rr : ∀ p q, p < 2 → q < 2 → p ≠ q → r p = none ∨ r p ≠ r q
  vv : ∀ p q, p < 2 → q < 2 → p ≠ q → (v p).ownBlock = none ∨ (v p).ownBlock ≠ (v q).ownBlock
  vr : ∀ p q, p < 2 → q < 2 → (v p).ownBlock = none ∨ (v p).ownBlock ≠ r q
  below : Below W.heap.size W w
  size : W.heap.size + 4 ≤ w.heap.size

section
variable {W w w' : World} {S T : Nat → List UInt8} {v : Nat → Value} {r : Nat → Option Nat}

theorem ApSt.later (h : ApSt W S T v r w) (hb : Below w.heap.size w w') : ApSt W S T v r w' :=
  ⟨h.blkH.below hb, h.blkA.below hb, fun p hp => (h.hash p hp).below hb, h.rlo, fun p hp => OwnG.below (h.own p hp) hb, h.len, h.rr, h.vv, h.vr, h.below.trans (hb.mono h.below.size), Nat.le_trans h.size hb.size⟩

theorem ApSt.cellH (h : ApSt W S T v r w) (p : Nat) (hp : p < 2) : w.cell? ⟨W.heap.size, p, none⟩ = some (.pointer (some ⟨W.heap.size + 2 + p, 0, none⟩)) := by
  refine h.blkH.cell p _ ?_
  rcases p with _ | _ | p
  · rfl
  · rfl
  · omega
theorem ApSt.cellA (h : ApSt W S T v r w) (p : Nat) (hp : p < 2) : w.cell? ⟨W.heap.size + 1, p, none⟩ = some (v p) := by
  refine h.blkA.cell p _ ?_
  rcases p with _ | _ | p
  · rfl
  · rfl
  · omega

theorem or_symm {a b : Option Nat} (h : a = none ∨ a ≠ b) : b = none ∨ b ≠ a := by
  cases b with
  | none => exact .inl rfl
  | some z =>
    refine .inr (fun e => ?_)
    rcases h with h | h
    · rw [h] at e; cases e
    · exact h e.symm

theorem ApSt.wrote (h : ApSt W S T v r w) {p : Nat} (hp : p < 2) {r' : Option Nat} {l : List UInt8} (hb : But2 w w' (W.heap.size + 2 + p) (r p)) (hh : IsHash w' (W.heap.size + 2 + p) r' 0 l)
    (hr' : r' = r p ∨ ∃ q, r' = some q ∧ w.heap.size ≤ q) : ApSt W (upd S p l) T v (upd r p r') w' := by
  have hsz := h.size
  have hrlt : ∀ q, q < 2 → ∀ x, r q = some x → x < w.heap.size := fun q hq x hx => ((IsHash.lt (h.hash q hq)).2 x hx).2
  have hvlt : ∀ q, q < 2 → ∀ x, (v q).ownBlock = some x → W.heap.size + 4 ≤ x ∧ x < w.heap.size := fun q hq => OwnG.lt (h.own q hq)
  have hrp := h.rlo p hp
  refine ⟨?_, ?_, ?_, ?_, ?_, h.len, ?_, h.vv, ?_, ?_, Nat.le_trans hsz hb.size⟩
  · exact h.blkH.keep (hb.block _ h.blkH.lt (by omega) (fun e => by have := hrp _ e.symm; omega))
  · exact h.blkA.keep (hb.block _ h.blkA.lt (by omega) (fun e => by have := hrp _ e.symm; omega))
  · intro q hq
    by_cases e : q = p
    · subst e; rw [upd_same, upd_same]; exact hh
    · rw [upd_other _ _ _ _ e, upd_other _ _ _ _ e]
      exact (h.hash q hq).but2 hb (by omega) (fun e2 => by have := hrp _ e2.symm; omega) (fun e2 => by have := h.rlo q hq _ e2; omega) (h.rr q p hq hp e)
  · intro q hq x hx
    by_cases e : q = p
    · subst e
      rw [upd_same] at hx
      rcases hr' with e2 | ⟨z, e2, hz⟩
      · exact hrp x (e2 ▸ hx)
      · rw [e2] at hx; injection hx with hx; omega
    · rw [upd_other _ _ _ _ e] at hx; exact h.rlo q hq x hx
  · intro q hq
    exact OwnB.but2 (h.own q hq) hb (fun e => by have := hvlt q hq _ e; omega) (h.vr q p hq hp)
  · have key : ∀ q, q < 2 → q ≠ p → r q = none ∨ r q ≠ r' := fun q hq e => by
      rcases hr' with e2 | ⟨z, e2, hz⟩
      · rw [e2]; exact h.rr q p hq hp e
      · rw [e2]
        cases hr : r q with
        | none => exact .inl rfl
        | some y => exact .inr (fun e3 => by injection e3 with e3; have := hrlt q hq y hr; omega)
    intro q s hq hs hne
    by_cases e : q = p
    · subst e
      rw [upd_same, upd_other _ _ _ _ (fun e => hne e.symm)]
      exact or_symm (key s hs (fun e => hne e.symm))
    · rw [upd_other _ _ _ _ e]
      by_cases e2 : s = p
      · subst e2; rw [upd_same]; exact key q hq e
      · rw [upd_other _ _ _ _ e2]; exact h.rr q s hq hs hne
  · intro q s hq hs
    by_cases e2 : s = p
    · subst e2
      rw [upd_same]
      rcases hr' with e2 | ⟨z, e2, hz⟩
      · rw [e2]; exact h.vr q s hq hs
      · rw [e2]
        cases hr : (v q).ownBlock with
        | none => exact .inl rfl
        | some y => exact .inr (fun e3 => by injection e3 with e3; have := hvlt q hq y hr; omega)
    · rw [upd_other _ _ _ _ e2]; exact h.vr q s hq hs
  · exact hb.fresh h.below (Nat.le_refl _) (by omega) (fun x hx => by have := hrp x hx; omega)

/-- What is appended stands in the array. -/
theorem ApSt.put (h : ApSt W S T v r w) {p : Nat} (hp : p < 2) {v' : Value} {l : List UInt8} {w1 : World} (hg : w.grownBy w1 (v p).ownBlock) (ho : OwnB w1 (W.heap.size + 4) v' l) (hat : v'.ownBlock = (v p).ownBlock ∨ v'.ownBlock = some w.heap.size)
    (hl : l.length ≤ 20000) :
    (∃ u, w1.cell? ⟨W.heap.size + 1, p, none⟩ = some u) ∧ w1.frozen? ⟨W.heap.size + 1, p, none⟩ = false ∧ ApSt W S (upd T p l) (upd v p v') r (w1.setCell ⟨W.heap.size + 1, p, none⟩ v') := by
  have hsz := h.size
  have hsz1 := hg.size
  have hvlt : ∀ q, q < 2 → ∀ x, (v q).ownBlock = some x → W.heap.size + 4 ≤ x ∧ x < w.heap.size := fun q hq => OwnG.lt (h.own q hq)
  have hb1 : Blk w1 W.heap.size 35 [.pointer (some ⟨W.heap.size + 2, 0, none⟩), .pointer (some ⟨W.heap.size + 3, 0, none⟩)] := h.blkH.keep (hg.block _ h.blkH.lt (fun e => by have := hvlt p hp _ e.symm; omega))
  have ha1 : Blk w1 (W.heap.size + 1) 36 [v 0, v 1] := h.blkA.keep (hg.block _ h.blkA.lt (fun e => by have := hvlt p hp _ e.symm; omega))
  have hh1 : ∀ q, q < 2 → IsHash w1 (W.heap.size + 2 + q) (r q) 0 (S q) := fun q hq => (h.hash q hq).grown hg (fun e => by have := hvlt p hp _ e; omega) (or_symm (h.vr p q hp hq))
  have ho1 : ∀ q, q < 2 → q ≠ p → OwnB w1 (W.heap.size + 4) (v q) (T q) := fun q hq e => OwnG.grown (h.own q hq) hg (h.vv q p hq hp e)
  have hb0 : Below W.heap.size W w1 := h.below.grown hg h.below.size (fun x hx => by have := hvlt p hp x hx; omega)
  have hset : w1.grownBy (w1.setCell ⟨W.heap.size + 1, p, none⟩ v') (some (W.heap.size + 1)) := grownBy_one _ _ _ _ _
  have e2 : ∀ u, [v 0, v 1].set p u = [upd v p u 0, upd v p u 1] := fun u => by
    rcases p with _ | _ | p
    · rfl
    · rfl
    · omega
  have hov : ∀ q, q < 2 → OwnB w1 (W.heap.size + 4) (upd v p v' q) (upd T p l q) := fun q hq => by
    by_cases e : q = p
    · subst e; rw [upd_same, upd_same]; exact ho
    · rw [upd_other _ _ _ _ e, upd_other _ _ _ _ e]; exact ho1 q hq e
  have hvlt1 : ∀ q, q < 2 → ∀ x, (upd v p v' q).ownBlock = some x → W.heap.size + 4 ≤ x ∧ x < w1.heap.size := fun q hq => OwnG.lt (hov q hq)
  refine ⟨⟨v p, ?_⟩, ha1.frozen p, hb1.other (by omega) _, ?_, ?_, h.rlo, ?_, ?_, h.rr, ?_, ?_, hb0.setCell (by show W.heap.size ≤ W.heap.size + 1; omega) _, by rw [World.size_setCell]; omega⟩
  · refine ha1.cell p _ ?_
    rcases p with _ | _ | p
    · rfl
    · rfl
    · omega
  · have h1 := ha1.set p v'
    rwa [e2] at h1
  · intro q hq
    exact (hh1 q hq).grown hset (by intro e; injection e with e; omega) (by
      cases hr : r q with
      | none => exact .inl rfl
      | some y => exact .inr (fun e => by injection e with e; have := h.rlo q hq y hr; omega))
  · intro q hq
    exact OwnG.grown (hov q hq) hset (by
      cases hr : (upd v p v' q).ownBlock with
      | none => exact .inl rfl
      | some y => exact .inr (fun e => by injection e with e; have := hvlt1 q hq y hr; omega))
  · intro q hq
    by_cases e : q = p
    · subst e; rw [upd_same]; exact hl
    · rw [upd_other _ _ _ _ e]; exact h.len q hq
  · have key : ∀ q, q < 2 → q ≠ p → (v q).ownBlock = none ∨ (v q).ownBlock ≠ v'.ownBlock := fun q hq e => by
      rcases hat with e2 | e2
      · rw [e2]; exact h.vv q p hq hp e
      · rw [e2]
        cases hr : (v q).ownBlock with
        | none => exact .inl rfl
        | some y => exact .inr (fun e3 => by injection e3 with e3; have := hvlt q hq y hr; omega)
    intro q s hq hs hne
    by_cases e : q = p
    · subst e
      rw [upd_same, upd_other _ _ _ _ (fun e => hne e.symm)]
      exact or_symm (key s hs (fun e => hne e.symm))
    · rw [upd_other _ _ _ _ e]
      by_cases e2 : s = p
      · subst e2; rw [upd_same]; exact key q hq e
      · rw [upd_other _ _ _ _ e2]; exact h.vv q s hq hs hne
  · intro q s hq hs
    by_cases e : q = p
    · subst e
      rw [upd_same]
      rcases hat with e2 | e2
      · rw [e2]; exact h.vr q s hq hs
      · rw [e2]
        refine .inr (fun e3 => ?_)
        have := ((IsHash.lt (h.hash s hs)).2 _ e3.symm).2
        omega
    · rw [upd_other _ _ _ _ e]; exact h.vr q s hq hs
end
end Go.Proofs.YtlfchhnkchcjcaaDoor
