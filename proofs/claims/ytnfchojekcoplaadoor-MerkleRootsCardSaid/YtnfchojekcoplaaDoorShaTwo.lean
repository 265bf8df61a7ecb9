/- sha: hashes side by side; pieces -/
import Derived.Test.YtnfchojekcoplaaDoorShaK
import Derived.Test.YtnfchojekcoplaaDoorFr
namespace Go.Proofs.YtnfchojekcoplaaDoor
set_option linter.unusedVariables false
set_option linter.unusedSimpArgs false
open Go.RowKit

theorem IsHash.grown {W W' : World} {g lo : Nat} {r row : Option Nat} {p : List UInt8} (h : IsHash W g r lo p) (hg : W.grownBy W' row) (h1 : row ≠ some g) (h2 : r = none ∨ r ≠ row) : IsHash W' g r lo p := by
  obtain ⟨a, c, q1, q2, q3, q4⟩ := h
  refine ⟨a, c, q1.keep (hg.block g q1.lt (fun e => h1 e.symm)), OwnG.grown q2 hg ?_, q3, q4⟩
  rw [q3]; exact h2
theorem IsHash.below {W W' : World} {g lo : Nat} {r : Option Nat} {p : List UInt8} (h : IsHash W g r lo p) (hb : Below W.heap.size W W') : IsHash W' g r lo p := Mid.below h hb
theorem IsHash.but2 {W W' : World} {g lo g' : Nat} {r r' : Option Nat} {p : List UInt8} (h : IsHash W g r lo p) (hb : But2 W W' g' r') (h1 : g ≠ g') (h2 : some g ≠ r') (h3 : r ≠ some g') (h4 : r = none ∨ r ≠ r') : IsHash W' g r lo p := by
  obtain ⟨a, c, q1, q2, q3, q4⟩ := h
  refine ⟨a, c, q1.keep (hb.block g q1.lt h1 h2), OwnG.keep q2 fun k hk hlt => ?_, q3, q4⟩
  rw [q3] at hk
  refine hb.block k hlt (fun e => h3 (by rw [hk, e])) (fun e => ?_)
  rcases h4 with h4 | h4
  · rw [hk] at h4; cases h4
  · exact h4 (hk.trans e)
theorem IsHash.lt {W : World} {g lo : Nat} {r : Option Nat} {p : List UInt8} (h : IsHash W g r lo p) : g < W.heap.size ∧ ∀ x, r = some x → lo ≤ x ∧ x < W.heap.size := by
  obtain ⟨a, c, q1, q2, q3, q4⟩ := h
  exact ⟨q1.lt, fun x hx => OwnG.lt q2 x (by rw [q3]; exact hx)⟩
theorem OwnB.but2 {W W' : World} {lo g' : Nat} {r' : Option Nat} {v : Value} {l : List UInt8} (h : OwnB W lo v l) (hb : But2 W W' g' r') (h3 : v.ownBlock ≠ some g') (h4 : v.ownBlock = none ∨ v.ownBlock ≠ r') : OwnB W' lo v l := by
  refine OwnG.keep h fun k hk hlt => ?_
  refine hb.block k hlt (fun e => h3 (by rw [hk, e])) (fun e => ?_)
  rcases h4 with h4 | h4
  · rw [hk] at h4; cases h4
  · exact h4 (hk.trans e)

theorem wpList_store_row0 {P : Program} {w W' : World} {ops : Array Oper} {rest : List Oper} {o : Oper} {a : Act} {Q : Exit → Act → World → Prop} (hgd : o.guard = none) (ty : TypeId) (x y : Operand) (ho : o.op = .store ty x y)
    (hd : o.dst = none) (g : Nat) (cells : Array Value) (hx : a.eval x = .pointer (some ⟨g, 0, none⟩)) (hy : a.eval y = .agg cells)
    (t : TypeId) (old : Array Value) (hg : w.heap[g]? = some (.cells old t (0, 0))) (hi : (P.info? ty).map (·.size) = some cells.size)
    (hold : old.size = cells.size) (h1 : cells.all (·.oneCell') = true) (hW : w.setRow g cells = W')
    (h : wpList P ops Q rest a W') : wpList P ops Q (o :: rest) a w :=
  wpList_store_row hgd ty x y ho g cells hx hy t old hg hi hold h1 (by rw [hd, hW]; exact h)

/-- A step of a region: an array is loaded whole. -/
theorem step_load_row {P : Program} {w : World} {ops : Array Oper} {o : Oper} {a : Act} {K : Act → World → Prop} {Q : Exit → Act → World → Prop} {E : Prop} (hw : Region.wanted o (yielded ops a.tmps) = true) (ty : TypeId) (x : Operand) (ho : o.op = .load ty x)
    (g : Nat) (hx : a.eval x = .pointer (some ⟨g, 0, none⟩)) (t : TypeId) (cs : Array Value) (fr : Nat × Nat) (d : TypeDesc) (hg : w.heap[g]? = some (.cells cs t fr))
    (hu : P.underlying ty = some d) (hd : (match d with | .struct _ | .array _ _ => true | _ => false) = true) (hi : (P.info? ty).map (·.size) = some cs.size)
    (h : K (a.put o.dst (.agg cs)) w) : if Region.wanted o (yielded ops a.tmps) = true then Oper.wp P o a w K Q else E := by
  rw [if_pos hw]
  exact wp_load_row ty x ho g hx t cs fr d hg hu hd hi h

theorem step_load_row0 {P : Program} {w : World} {ops : Array Oper} {o : Oper} {a : Act} {K : Act → World → Prop} {Q : Exit → Act → World → Prop} {E : Prop} (hgd : o.guard = none) (ty : TypeId) (x : Operand) (ho : o.op = .load ty x)
    (g : Nat) (hx : a.eval x = .pointer (some ⟨g, 0, none⟩)) (t : TypeId) (cs : Array Value) (fr : Nat × Nat) (d : TypeDesc) (hg : w.heap[g]? = some (.cells cs t fr))
    (hu : P.underlying ty = some d) (hd : (match d with | .struct _ | .array _ _ => true | _ => false) = true) (hi : (P.info? ty).map (·.size) = some cs.size)
    (h : K (a.put o.dst (.agg cs)) w) : if Region.wanted o (yielded ops a.tmps) = true then Oper.wp P o a w K Q else E :=
  step_load_row (by simp [Region.wanted, hgd]) ty x ho g hx t cs fr d hg hu hd hi h

theorem list32 (l : List Value) (h : l.length = 32) : ∃ y0 y1 y2 y3 y4 y5 y6 y7 y8 y9 y10 y11 y12 y13 y14 y15 y16 y17 y18 y19 y20 y21 y22 y23 y24 y25 y26 y27 y28 y29 y30 y31, l = [y0, y1, y2, y3, y4, y5, y6, y7, y8, y9, y10, y11, y12, y13, y14, y15, y16, y17, y18, y19, y20, y21, y22, y23, y24, y25, y26, y27, y28, y29, y30, y31] := by
  match l, h with
  | [y0, y1, y2, y3, y4, y5, y6, y7, y8, y9, y10, y11, y12, y13, y14, y15, y16, y17, y18, y19, y20, y21, y22, y23, y24, y25, y26, y27, y28, y29, y30, y31], _ => exact ⟨_, _, _, _, _, _, _, _, _, _, _, _, _, _, _, _, _, _, _, _, _, _, _, _, _, _, _, _, _, _, _, _, rfl⟩
/-- A piece of what came in. -/
theorem piece_at {w : World} {a : Option Addr} {n c : Nat} {ls : List (List UInt8)} (h : Ty.reads (.slice .bytes) w [.slice a n c] ls) (i : Nat) (x : List UInt8) (hi : ls[i]? = some x) :
    ∃ b off ai ci, a = some ⟨b, off, none⟩ ∧ b < w.heap.size ∧ w.cell? ⟨b, off + i, none⟩ = some (.slice ai x.length ci) ∧ x.length ≤ ci ∧ Rd w w.heap.size ai (bs x) ∧ ci ≤ 140737488351232 := by
  obtain ⟨a', n', c', e, h2, _, _, h5⟩ := h
  simp only [List.cons.injEq, Value.slice.injEq, and_true] at e
  obtain ⟨rfl, rfl, rfl⟩ := e
  have hlt : i < ls.length := (List.getElem?_eq_some_iff.1 hi).1
  rcases h5 with h5 | ⟨b, off, ha, hb, hat⟩
  · have h2' : ls.length = 0 := h2.trans h5
    omega
  · obtain ⟨cells, hcl, hcell, ai, ni, ci, hcs, hB⟩ := hat i x hi
    subst hcs
    have := hcell 0 _ rfl
    obtain ⟨b1, b2, b3, b4⟩ := hB
    subst b1
    exact ⟨b, off, ai, ci, ha, hb, by simpa [Ty.size] using this, b2, b3, b4⟩
theorem pieces_len {w : World} {a : Option Addr} {n c : Nat} {ls : List (List UInt8)} (h : Ty.reads (.slice .bytes) w [.slice a n c] ls) : ls.length = n ∧ n ≤ 9223372036854775807 := by
  obtain ⟨a', n', c', e, h2, h3, h4, _⟩ := h
  simp only [List.cons.injEq, Value.slice.injEq, and_true] at e
  obtain ⟨rfl, rfl, rfl⟩ := e
  exact ⟨h2, by omega⟩
theorem slice_arg {t : Ty} {w : World} {a : Option Addr} {n c : Nat} {x : (Ty.slice t).den} (h : Ty.reads (.slice t) w (Value.slice a n c).cells.toList x) : Ty.reads (.slice t) w [.slice a n c] x := h

def takenL (ls : List (List UInt8)) (i : Nat) : List UInt8 := (ls.take i).flatten
theorem takenL_succ (ls : List (List UInt8)) (i : Nat) (x : List UInt8) (h : ls[i]? = some x) : takenL ls (i + 1) = takenL ls i ++ x := by
  rw [takenL, takenL, List.take_add_one, h]
  simp

/-- ShaPieces' loop: i pieces are taken in. -/
def PRel (w0 : World) (ls : List (List UInt8)) (vi v : Value) (wr : World) : Prop :=
  ∃ (i : Nat) (r : Option Nat), i ≤ ls.length ∧ i ≤ 40 ∧ vi = .int .i64 i ∧ (takenL ls i).length ≤ 20000 ∧ IsHash wr w0.heap.size r 0 (takenL ls i) ∧ (∀ x, r = some x → w0.heap.size + 2 ≤ x) ∧ IsHash wr (w0.heap.size + 1) none 0 [] ∧
    OwnB wr (w0.heap.size + 2) v (takenL ls i) ∧ (v.ownBlock = none ∨ v.ownBlock ≠ r) ∧ Below w0.heap.size w0 wr ∧ w0.heap.size + 2 ≤ wr.heap.size
end Go.Proofs.YtnfchojekcoplaaDoor
