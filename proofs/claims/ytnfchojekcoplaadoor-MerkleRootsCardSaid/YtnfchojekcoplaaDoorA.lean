/- Vocabulary: what a slice reads as in a world, what a call owns, append; nothing of a Go function. -/
import Derived.Test.YtnfchojekcoplaaDoorProg
import Derived.WalkKit
import Derived.KernelRfl
import Derived.Lib.Hide
import Derived.Deep.LoopGhost
import Derived.BigQuiet
import Derived.Deep.QuietTactic
import Derived.Deep.RegionWith
import Derived.Deep.DeepFit
import Derived.WalkSpells
import Derived.WalkLawsBesides
import Derived.Maps.AppendAt
import Derived.Deep.AppendLies
import Derived.Lib.ConvBytes
import Derived.Lib.SlBytesConst
import Derived.StillTailTactics
import Derived.Deep.RegionHeld3
import Derived.Deep.RegionLaw
import Derived.Deep.DeepCutAuto
import Derived.Deep.CutBlock
import Derived.ArgAppend
import Derived.Laws.IdiomCopy
namespace Go.Proofs.YtnfchojekcoplaaDoor
set_option linter.unusedVariables false
set_option linter.unusedSimpArgs false
open Go.RowKit

/-- '==' of two arrays of whole numbers. -/
theorem run_equalIn_ints {P : Program} (d : Nat) (t len e : Nat) (k k' : IntKind) (ht : P.underlying t = some (.array len e)) (he : P.underlying e = some (.int k'))
    (hag : ∀ w, (isAgg e).run P w = .ok false w) (hsz : ∀ w, (sizeOf e).run P w = .ok 1 w) (xs ys : List Int) (hx : xs.length = len) (hy : ys.length = len) (w : World) :
    (Op.equalIn (d + 2) t (.agg (xs.map (Value.int k)).toArray) (.agg (ys.map (Value.int k)).toArray)).run P w = .ok (xs == ys) w := by
  have hpart : ∀ (zs : List Int) (i : Nat) (h : i < zs.length) (w : World), (part e (zs.map (Value.int k)).toArray i).run P w = .ok (.int k zs[i]) w := by
    intro zs i h w
    simp [part, hag, h]
  rw [Op.equalIn]
  simp only [Sem.run_bind, run_underlying ht, Result.andThen_ok, hsz, Nat.mul_one, Std.Legacy.Range.forIn_eq_forIn_range']
  have key : ∀ (n i : Nat), i + n = len →
      (Sem.run P (forIn (List.range' i n 1) ((none : Option Bool), PUnit.unit) fun i s => do
              let a ← part e (xs.map (Value.int k)).toArray i
              let b ← part e (ys.map (Value.int k)).toArray i
              let c ← Op.equalIn (d + 1) e a b
              if (!c) = true then pure (ForInStep.done (some false, PUnit.unit)) else pure (ForInStep.yield (none, PUnit.unit))) w) =
        .ok (if xs.drop i = ys.drop i then (none, PUnit.unit) else (some false, PUnit.unit)) w := by
    intro n
    induction n with
    | zero =>
      intro i hi
      have h1 : xs.drop i = [] := List.drop_of_length_le (by omega)
      have h2 : ys.drop i = [] := List.drop_of_length_le (by omega)
      simp [h1, h2]
    | succ n ih =>
      intro i hi
      have hi1 : i < xs.length := by omega
      have hi2 : i < ys.length := by omega
      rw [List.range'_succ]
      simp only [List.forIn_cons, Sem.run_bind, hpart xs i hi1, hpart ys i hi2, Result.andThen_ok, run_equalIn_int _ _ _ _ _ _ _ he]
      have hd : (xs.drop i = ys.drop i) ↔ (xs[i] = ys[i] ∧ xs.drop (i + 1) = ys.drop (i + 1)) := by
        rw [List.drop_eq_getElem_cons hi1, List.drop_eq_getElem_cons hi2, List.cons.injEq]
      by_cases h : xs[i] = ys[i]
      · simp only [h, beq_self_eq_true, Bool.not_true, Bool.false_eq_true, if_false, Sem.run_pure, Result.andThen_ok]
        rw [ih (i + 1) (by omega)]
        by_cases ht : xs.drop (i + 1) = ys.drop (i + 1)
        · rw [if_pos ht, if_pos (hd.2 ⟨h, ht⟩)]
        · rw [if_neg ht, if_neg fun hh => ht (hd.1 hh).2]
      · have hb : (xs[i] == ys[i]) = false := beq_eq_false_iff_ne.2 h
        simp only [hb, Bool.not_false, if_true, Sem.run_pure, Result.andThen_ok]
        rw [if_neg fun hh => h (hd.1 hh).1]
  have h0 := key len 0 (by omega)
  have hr : Std.Legacy.Range.size [:len] = len := by simp [Std.Legacy.Range.size]
  simp only [hr]
  rw [h0]
  simp only [List.drop_zero, Result.andThen_ok]
  by_cases h : xs = ys
  · rw [if_pos h]; simp [h]
  · rw [if_neg h]
    have : (xs == ys) = false := beq_eq_false_iff_ne.2 h
    simp [this]

/-- A byte as a value; bytes as cells. -/
def B (x : UInt8) : Value := .int .u8 (x.toNat : Int)
def bs (l : List UInt8) : List Value := l.map B
theorem bs_length (l : List UInt8) : (bs l).length = l.length := by simp [bs]
theorem bs_append (l m : List UInt8) : bs (l ++ m) = bs l ++ bs m := by simp [bs]
theorem bs_get (l : List UInt8) (i : Nat) (h : i < l.length) : (bs l)[i]? = some (.int .u8 ((l[i]).toNat : Int)) := by simp [bs, B, h]
theorem bs_one (l : List UInt8) : ∀ u ∈ bs l, u.oneCell' = true := by
  intro u hu
  obtain ⟨x, _, rfl⟩ := List.mem_map.1 hu
  rfl
theorem bs_take (l : List UInt8) (k : Nat) : bs (l.take k) = (bs l).take k := by simp [bs, List.map_take]
theorem bs_drop (l : List UInt8) (k : Nat) : bs (l.drop k) = (bs l).drop k := by simp [bs, List.map_drop]
theorem bs_set (l : List UInt8) (k : Nat) (x : UInt8) : bs (l.set k x) = (bs l).set k (B x) := by simp [bs, List.map_set]
theorem bs_inj {l m : List UInt8} (h : bs l = bs m) : l = m := by
  refine List.map_inj_right (f := B) ?_ |>.1 h
  intro x y hxy
  simp only [B, Value.int.injEq, true_and] at hxy
  exact UInt8.toNat_inj.1 (by omega)

/-- The address a, in the world w, is the head of the cells xs, which lie below block B. -/
def Rd (w : World) (Bd : Nat) (a : Option Addr) (xs : List Value) : Prop :=
  xs = [] ∨ ∃ b off, a = some ⟨b, off, none⟩ ∧ b < Bd ∧ ∀ i u, xs[i]? = some u → w.cell? ⟨b, off + i, none⟩ = some u

section
variable {w w' : World} {Bd Bd' : Nat} {a : Option Addr} {xs : List Value}
theorem Rd.nil : Rd w Bd a [] := .inl rfl
theorem Rd.at (h : Rd w Bd a xs) (i : Nat) (u : Value) (hi : xs[i]? = some u) : ∃ b off, a = some ⟨b, off, none⟩ ∧ b < Bd ∧ w.cell? ⟨b, off + i, none⟩ = some u := by
  rcases h with h | ⟨b, off, ha, hb, hc⟩
  · subst h; simp at hi
  · exact ⟨b, off, ha, hb, hc i u hi⟩
theorem Rd.byte {l : List UInt8} (h : Rd w Bd a (bs l)) (i : Nat) (hi : i < l.length) : ∃ b off, a = some ⟨b, off, none⟩ ∧ b < Bd ∧ w.cell? ⟨b, off + i, none⟩ = some (.int .u8 ((l[i]).toNat : Int)) :=
  h.at i _ (bs_get l i hi)
theorem Rd.keep (h : Rd w Bd a xs) (hb : ∀ p : Addr, p.block < Bd → w'.cell? p = w.cell? p) : Rd w' Bd a xs := by
  rcases h with h | ⟨b, off, ha, hlt, hc⟩
  · exact .inl h
  · exact .inr ⟨b, off, ha, hlt, fun i u hi => (hb _ hlt).trans (hc i u hi)⟩
theorem Rd.more (h : Rd w Bd a xs) (hB : Bd ≤ Bd') : Rd w Bd' a xs := by
  rcases h with h | ⟨b, off, ha, hlt, hc⟩
  · exact .inl h
  · exact .inr ⟨b, off, ha, by omega, hc⟩
theorem Rd.below (h : Rd w Bd a xs) (hb : Below Bd w w') : Rd w' Bd a xs := h.keep fun _ hp => hb.cell hp
theorem Rd.drew (h : Rd w Bd a xs) : Rd w.drew Bd a xs := h.keep fun _ _ => rfl
theorem Rd.drewN (h : Rd w Bd a xs) (n : Nat) : Rd (w.drewN n) Bd a xs := h.keep fun _ _ => rfl
theorem Rd.lt_size (h : Rd w Bd a xs) : Rd w w.heap.size a xs := by
  rcases h with h | ⟨b, off, ha, hlt, hc⟩
  · exact .inl h
  · by_cases he : xs = []
    · exact .inl he
    · have h0 : 0 < xs.length := List.length_pos_iff.2 he
      have := World.block_lt_of_cell? w _ (hc 0 xs[0] (List.getElem?_eq_getElem h0))
      exact .inr ⟨b, off, ha, this, hc⟩
theorem Rd.alloc (h : Rd w Bd a xs) (hB : Bd ≤ w.heap.size) (o : Obj) : Rd (w.alloc o) Bd a xs := h.keep fun p hp => World.cell?_alloc_lt w o p (by omega)
theorem Rd.setCell (h : Rd w Bd a xs) {p : Addr} (hB : Bd ≤ p.block) (u : Value) : Rd (w.setCell p u) Bd a xs :=
  h.keep fun q hq => World.cell?_setCell_other w p q u (fun e => by subst e; omega)
theorem Rd.grown (h : Rd w Bd a xs) {row : Option Nat} (hg : w.grownBy w' row) (hB : Bd ≤ w.heap.size) (hr : ∀ g, row = some g → Bd ≤ g) : Rd w' Bd a xs :=
  h.keep fun p hp => World.cell?_of_block (hg.block p.block (by omega) (fun e => by have := hr _ e.symm; omega))
theorem Rd.off {b off : Nat} (h : Rd w Bd (some ⟨b, off, none⟩) xs) {row : Option Nat} (hg : w.grownBy w' row) (hlt : b < w.heap.size) (hr : some b ≠ row) : Rd w' Bd (some ⟨b, off, none⟩) xs := by
  rcases h with h | ⟨b', off', ha, hb, hc⟩
  · exact .inl h
  · obtain ⟨rfl, rfl⟩ : b = b' ∧ off = off' := by simpa using ha
    exact .inr ⟨b, off, rfl, hb, fun i u hi => (hg.cell_far ⟨b, off + i, none⟩ hlt hr).trans (hc i u hi)⟩
theorem Rd.take (h : Rd w Bd a xs) (k : Nat) : Rd w Bd a (xs.take k) := by
  rcases h with h | ⟨b, off, ha, hlt, hc⟩
  · subst h; simp [Rd]
  · refine .inr ⟨b, off, ha, hlt, fun i u hi => hc i u ?_⟩
    have : i < k := by
      by_cases hk : i < k
      · exact hk
      · simp [List.getElem?_take, hk] at hi
    rw [← hi, List.getElem?_take_of_lt this]
theorem Rd.drop (h : Rd w Bd a xs) (k : Nat) : Rd w Bd (a.map (·.add k)) (xs.drop k) := by
  rcases h with h | ⟨b, off, ha, hlt, hc⟩
  · subst h; simp [Rd]
  · refine .inr ⟨b, off + k, by rw [ha, Option.map_some, Addr.add_lit], hlt, fun i u hi => ?_⟩
    rw [Nat.add_assoc]
    exact hc _ u (by rw [← hi, List.getElem?_drop])
/-- What 's[k:]' reads as: the address is the model's own. -/
theorem Rd.cut (h : Rd w Bd a xs) {k cap : Nat} (hc : xs.length ≤ cap) : Rd w Bd (if cap = k then a else a.map (·.add k)) (xs.drop k) := by
  by_cases hk : cap = k
  · rw [if_pos hk, List.drop_of_length_le (by omega)]
    exact .nil
  · rw [if_neg hk]
    exact h.drop k
end

theorem Rd.new (w : World) (cs : List Value) (t : TypeId) : Rd (w.alloc (.cells cs.toArray t)) (w.heap.size + 1) (some ⟨w.heap.size, 0, none⟩) cs := by
  refine .inr ⟨_, _, rfl, by omega, fun i u hi => ?_⟩
  rw [cell_of_row (w.alloc (.cells cs.toArray t)) w.heap.size (0 + i) cs.toArray t (0, 0) (heap_alloc_new w _)]
  simpa using hi

/-- The value v owns the cells xs, elements of e, 'size' cells each, in a block from base on; nothing of its room is frozen. -/
def OwnG (w : World) (base : Nat) (e : TypeId) (size : Nat) (v : Value) (n : Nat) (xs : List Value) : Prop :=
  xs.length = n * size ∧
  ((v = .slice none 0 0 ∧ n = 0) ∨
   ∃ (g off cap : Nat) (cur : Array Value) (lo hi : Nat), v = .slice (some ⟨g, off, none⟩) n cap ∧ base ≤ g ∧ w.heap[g]? = some (.cells cur e (lo, hi)) ∧ off + cap * size ≤ cur.size ∧
     (off + cap * size ≤ lo ∨ hi ≤ off ∨ hi ≤ lo) ∧ n ≤ cap ∧ cap ≤ maxLen ∧ ∀ j u, xs[j]? = some u → cur[off + j]? = some u)

theorem lt_of_heap {w : World} {g : Nat} {o : Obj} (h : w.heap[g]? = some o) : g < w.heap.size := by
  rcases Nat.lt_or_ge g w.heap.size with h' | h'
  · exact h'
  · rw [Array.getElem?_eq_none h'] at h; cases h

theorem cell_of_block {w : World} {g : Nat} {cur : Array Value} {e : TypeId} {fr : Nat × Nat} (h : w.heap[g]? = some (.cells cur e fr)) (o : Nat) : w.cell? ⟨g, o, none⟩ = cur[o]? := by
  simp [World.cell?, h]

namespace OwnG
variable {w w' : World} {base base' size n c : Nat} {e : TypeId} {v : Value} {a : Option Addr} {xs : List Value}

theorem of (h : w.ownsRow base e size v n xs) : OwnG w base e size v n xs := by
  refine ⟨h.1, ?_⟩
  rcases h.2 with h | ⟨g, cap, cur, hv, hg, hh, hc, hm, hs, ht⟩
  · exact .inl h
  · refine .inr ⟨g, 0, cap, cur, 0, 0, hv, hg, hh, by omega, .inr (.inl (Nat.le_refl _)), hc, hm, fun j u hu => ?_⟩
    rw [← ht] at hu
    have hj : j < n * size := by
      by_cases hj : j < n * size
      · exact hj
      · simp [List.getElem?_take, hj] at hu
    rw [List.getElem?_take_of_lt hj] at hu
    simpa using hu

theorem nil (w : World) (base : Nat) (e : TypeId) (size : Nat) : OwnG w base e size (.slice none 0 0) 0 [] := ⟨by simp, .inl ⟨rfl, rfl⟩⟩

theorem shape (h : OwnG w base e size v n xs) : ∃ a c, v = .slice a n c ∧ n ≤ c := by
  rcases h.2 with ⟨rfl, rfl⟩ | ⟨g, off, cap, cur, lo, hi, rfl, _, _, _, _, hc, _⟩
  · exact ⟨none, 0, rfl, Nat.le_refl _⟩
  · exact ⟨_, cap, rfl, hc⟩

theorem rd (h : OwnG w base e size (.slice a n c) n xs) : Rd w w.heap.size a xs := by
  rcases h.2 with ⟨_, h0⟩ | ⟨g, off, cap, cur, lo, hi, hv, _, hh, _, _, _, _, hx⟩
  · exact .inl (List.eq_nil_of_length_eq_zero (by rw [h.1, h0]; simp))
  · injection hv with h1 _ _
    exact .inr ⟨g, off, h1, lt_of_heap hh, fun i u hi => (cell_of_block hh _).trans (hx i u hi)⟩

theorem base_mono (h : OwnG w base e size v n xs) (hb : base' ≤ base) : OwnG w base' e size v n xs := by
  refine ⟨h.1, ?_⟩
  rcases h.2 with h | ⟨g, off, cap, cur, lo, hi, hv, hg, r⟩
  · exact .inl h
  · exact .inr ⟨g, off, cap, cur, lo, hi, hv, Nat.le_trans hb hg, r⟩

theorem keep (h : OwnG w base e size v n xs) (hb : ∀ g, v.ownBlock = some g → g < w.heap.size → w'.heap[g]? = w.heap[g]?) : OwnG w' base e size v n xs := by
  refine ⟨h.1, ?_⟩
  rcases h.2 with h | ⟨g, off, cap, cur, lo, hi, rfl, hg, hh, r⟩
  · exact .inl h
  · exact .inr ⟨g, off, cap, cur, lo, hi, rfl, hg, (hb g rfl (lt_of_heap hh)).trans hh, r⟩

theorem below (h : OwnG w base e size v n xs) (hb : Below w.heap.size w w') : OwnG w' base e size v n xs := h.keep fun g _ hg => hb.block g hg
theorem alloc (h : OwnG w base e size v n xs) (o : Obj) : OwnG (w.alloc o) base e size v n xs := h.below ((Below.refl _ _).alloc (Nat.le_refl _) o)
theorem drew (h : OwnG w base e size v n xs) : OwnG w.drew base e size v n xs := h
theorem drewN (h : OwnG w base e size v n xs) (k : Nat) : OwnG (w.drewN k) base e size v n xs := h
theorem lt (h : OwnG w base e size v n xs) : ∀ k, v.ownBlock = some k → base ≤ k ∧ k < w.heap.size := by
  rcases h.2 with ⟨rfl, _⟩ | ⟨g, off, cap, cur, lo, hi, rfl, hg, hh, _⟩
  · intro k hk; cases hk
  · intro k hk
    obtain rfl : g = k := by injection hk
    exact ⟨hg, lt_of_heap hh⟩
theorem grown {row : Option Nat} (h : OwnG w base e size v n xs) (hg : w.grownBy w' row) (hne : v.ownBlock = none ∨ v.ownBlock ≠ row) : OwnG w' base e size v n xs :=
  h.keep fun g hv hlt => hg.block g hlt (by rcases hne with h1 | h1 <;> rw [hv] at h1 <;> first | cases h1 | exact h1)
theorem far {w0 : World} (h : OwnG w0 base e size v n xs) (hg : w.grownBy w' v.ownBlock) {p : Addr} (hp : p.block < base) (hb : base ≤ w.heap.size) : w'.cell? p = w.cell? p :=
  hg.cell_far p (by omega) (fun e => by have := (h.lt _ e.symm).1; omega)
theorem form (h : OwnG w base e size v n xs) (hn : 0 < n) : ∃ g off cap, v = .slice (some ⟨g, off, none⟩) n cap ∧ base ≤ g ∧ g < w.heap.size ∧ n ≤ cap ∧ ∀ j u, xs[j]? = some u → w.cell? ⟨g, off + j, none⟩ = some u := by
  rcases h.2 with ⟨_, h0⟩ | ⟨g, off, cap, cur, lo, hi, hv, hg, hh, _, _, hc, _, hx⟩
  · omega
  · exact ⟨g, off, cap, hv, hg, lt_of_heap hh, hc, fun j u hu => (cell_of_block hh _).trans (hx j u hu)⟩
theorem frozenAt {g off cap : Nat} (h : OwnG w base e size (.slice (some ⟨g, off, none⟩) n cap) n xs) (j : Nat) (hj : j < cap * size) : w.frozen? ⟨g, off + j, none⟩ = false := by
  rcases h.2 with ⟨h', _⟩ | ⟨g', off', cap', cur, lo, hi, hv, _, hh, _, hf, _⟩
  · cases h'
  · simp only [Value.slice.injEq, Option.some.injEq, Addr.mk.injEq, and_true, true_and] at hv
    obtain ⟨⟨rfl, rfl⟩, rfl⟩ := hv
    simp only [World.frozen?, hh]
    have : ¬ (lo ≤ off + j ∧ off + j < hi) := by omega
    simpa using this
theorem cellAt {g off cap : Nat} (h : OwnG w base e size (.slice (some ⟨g, off, none⟩) n cap) n xs) (j : Nat) (u : Value) (hj : xs[j]? = some u) : w.cell? ⟨g, off + j, none⟩ = some u := by
  rcases h.2 with ⟨h', _⟩ | ⟨g', off', cap', cur, lo, hi, hv, _, hh, _, _, _, _, hx⟩
  · cases h'
  · simp only [Value.slice.injEq, Option.some.injEq, Addr.mk.injEq, and_true, true_and] at hv
    obtain ⟨⟨rfl, rfl⟩, rfl⟩ := hv
    exact (cell_of_block hh _).trans (hx j u hj)
theorem cellEx {g off cap : Nat} (h : OwnG w base e size (.slice (some ⟨g, off, none⟩) n cap) n xs) (j : Nat) (hj : j < xs.length) : ∃ u, w.cell? ⟨g, off + j, none⟩ = some u :=
  ⟨_, h.cellAt j _ (List.getElem?_eq_getElem hj)⟩
theorem stored {g off cap : Nat} (h : OwnG w base e size (.slice (some ⟨g, off, none⟩) n cap) n xs) (j : Nat) (u : Value) (hj : j < xs.length) :
    OwnG (w.setCell ⟨g, off + j, none⟩ u) base e size (.slice (some ⟨g, off, none⟩) n cap) n (xs.set j u) := by
  refine ⟨by simpa using h.1, ?_⟩
  rcases h.2 with ⟨h', _⟩ | ⟨g', off', cap', cur, lo, hi, hv, hb, hh, hs, hf, hc, hm, hx⟩
  · cases h'
  · simp only [Value.slice.injEq, Option.some.injEq, Addr.mk.injEq, and_true, true_and] at hv
    obtain ⟨⟨rfl, rfl⟩, rfl⟩ := hv
    refine .inr ⟨g, off, cap, cur.setIfInBounds (off + j) u, lo, hi, rfl, hb, ?_, by simpa using hs, hf, hc, hm, fun i x hi => ?_⟩
    · simp [World.setCell, Array.getElem?_modify, hh]
    · have hlt : off + j < cur.size := by
        have := h.1
        have : n * size ≤ cap * size := Nat.mul_le_mul_right _ hc
        omega
      by_cases hij : i = j
      · subst hij
        rw [List.getElem?_set_self (by omega)] at hi
        rw [Array.getElem?_setIfInBounds_self_of_lt hlt]
        exact hi
      · rw [List.getElem?_set_ne (fun e => hij e.symm)] at hi
        rw [Array.getElem?_setIfInBounds_ne (by omega)]
        exact hx i x hi
/-- The same room, fewer elements. -/
theorem take {g off cap : Nat} (h : OwnG w base e size (.slice (some ⟨g, off, none⟩) n cap) n xs) (k : Nat) (hk : k ≤ n) : OwnG w base e size (.slice (some ⟨g, off, none⟩) k cap) k (xs.take (k * size)) := by
  have hl := h.1
  have hks : k * size ≤ n * size := Nat.mul_le_mul_right _ hk
  refine ⟨by rw [List.length_take, hl]; omega, ?_⟩
  rcases h.2 with ⟨h', _⟩ | ⟨g', off', cap', cur, lo, hi, hv, hb, hh, hs, hf, hc, hm, hx⟩
  · cases h'
  · simp only [Value.slice.injEq, Option.some.injEq, Addr.mk.injEq, and_true, true_and] at hv
    obtain ⟨⟨rfl, rfl⟩, rfl⟩ := hv
    refine .inr ⟨g, off, cap, cur, lo, hi, rfl, hb, hh, hs, hf, by omega, hm, fun j u hu => hx j u ?_⟩
    have hj : j < k * size := by
      by_cases hj : j < k * size
      · exact hj
      · simp [List.getElem?_take, hj] at hu
    rwa [List.getElem?_take_of_lt hj] at hu
end OwnG

theorem below_grown {w w' : World} {row : Option Nat} {Bd : Nat} (hg : w.grownBy w' row) (hB : Bd ≤ w.heap.size) (hr : ∀ g, row = some g → Bd ≤ g) : Below Bd w w' :=
  ⟨hg.os, hg.tape, hg.output, hg.size, fun k hk => hg.block k (by omega) (fun e => by have := hr k e.symm; omega)⟩
theorem below_drewN {B : Nat} {a w : World} (h : Below B a w) (n : Nat) : Below B a (w.drewN n) := ⟨h.os, h.tape, h.output, h.size, h.block⟩
/-- What the call's own append leaves of what was there before. -/
theorem below_app {w0 w w1 w' : World} {base size n : Nat} {e : TypeId} {v : Value} {xs : List Value} (hb : Below w0.heap.size w0 w) (h : OwnG w1 base e size v n xs) (hbase : w0.heap.size ≤ base) (hg : w.grownBy w' v.ownBlock) : Below w0.heap.size w0 w' :=
  hb.grown hg hb.size fun k hk => Nat.le_trans hbase (h.lt k hk).1

theorem setCells_heap (b : Nat) : ∀ (vs : List Value) (o : Nat) (w : World) (cur : Array Value) (e : TypeId) (fr : Nat × Nat), w.heap[b]? = some (.cells cur e fr) → o + vs.length ≤ cur.size →
    ∃ cur', (w.setCells b o vs).heap[b]? = some (.cells cur' e fr) ∧ cur'.size = cur.size ∧ (∀ j, j < o → cur'[j]? = cur[j]?) ∧ (∀ j u, vs[j]? = some u → cur'[o + j]? = some u) ∧
      w.grownBy (w.setCells b o vs) (some b) := by
  intro vs
  induction vs with
  | nil => intro o w cur e fr h _; exact ⟨cur, h, rfl, fun _ _ => rfl, fun j u hu => by simp at hu, World.grownBy.refl _ _⟩
  | cons x vs ih =>
    intro o w cur e fr h hs
    simp only [List.length_cons] at hs
    have h1 : (w.setCell ⟨b, o, none⟩ x).heap[b]? = some (.cells (cur.setIfInBounds o x) e fr) := by simp [World.setCell, Array.getElem?_modify, h]
    obtain ⟨cur', h2, h3, h4, h5, h6⟩ := ih (o + 1) _ _ e fr h1 (by simp; omega)
    refine ⟨cur', h2, by simpa using h3, fun j hj => ?_, fun j u hu => ?_, ?_⟩
    · rw [h4 j (by omega), Array.getElem?_setIfInBounds_ne (by omega)]
    · cases j with
      | zero =>
        simp only [List.getElem?_cons_zero, Option.some.injEq] at hu
        subst hu
        rw [Nat.add_zero, h4 o (by omega), Array.getElem?_setIfInBounds_self_of_lt (by omega)]
      | succ j =>
        have := h5 j u (by simpa using hu)
        rw [show o + (j + 1) = o + 1 + j by omega]
        exact this
    · have hg : w.grownBy (w.setCell ⟨b, o, none⟩ x) (some b) := ⟨rfl, rfl, rfl, by simp, fun k _ hk => heap_setCell_other w ⟨b, o, none⟩ k x (fun e => hk (by simp [e]))⟩
      exact ⟨h6.os.trans hg.os, h6.tape.trans hg.tape, h6.output.trans hg.output, Nat.le_trans hg.size h6.size, fun k hk hne => (h6.block k (Nat.lt_of_lt_of_le hk hg.size) hne).trans (hg.block k hk hne)⟩

/-- append onto a row of the call's own: the source nil, empty or not. -/
theorem run_append_g {P : Program} (w : World) (base : Nat) (t ty e : TypeId) (i : TypeInfo) (z : Value) (size bytes : Nat) (ht : P.underlying t = some (.slice e)) (hi : P.info? e = some i) (hz : i.zero = some z)
    (hsize : i.size = size) (hby : i.bytes = bytes) (hzs : z.cells.size = size) (hsz : 0 < size)
    (v : Value) (n : Nat) (xs : List Value) (hown : OwnG w base e size v n xs)
    (Bd : Nat) (a : Option Addr) (m c : Nat) (news : List Value) (hl : news.length = m * size) (hr : Rd w Bd a news) (h1 : ∀ u ∈ news, u.oneCell' = true)
    (h63 : n + m ≤ maxLen) (hbytes : (n + m) * bytes ≤ 140737488355328) (hbase : base ≤ w.heap.size) :
    ∃ v' w', (Builtin.append_ #[t, t] ty #[v, .slice a m c]).run P w = .ok v' w' ∧ OwnG w' base e size v' (n + m) (xs ++ news) ∧ w.grownBy w' v.ownBlock ∧
      (v'.ownBlock = v.ownBlock ∨ v'.ownBlock = some w.heap.size) := by
  rcases a with _ | ⟨b, o, s⟩
  · have hn : news = [] := by
      rcases hr with h | ⟨_, _, h, _⟩
      · exact h
      · cases h
    have hm : m = 0 := by
      rw [hn] at hl
      rcases Nat.mul_eq_zero.1 hl.symm with h | h <;> omega
    subst hn; subst hm
    refine ⟨v, w, ?_, by simpa using hown, World.grownBy.refl w _, .inl rfl⟩
    rcases hown.2 with ⟨rfl, rfl⟩ | ⟨g, off, cap, cur, lo, hi', rfl, _, _, _, _, hnc, _⟩
    · simp [Builtin.append_, run_underlying ht, sizeOf, typeInfo, hi, Builtin.lenOf, Builtin.firstCells]
    · simp [Builtin.append_, run_underlying ht, sizeOf, typeInfo, hi, Builtin.lenOf, Builtin.firstCells, hnc, storeCells]
  · have hcells : ∀ j u, news[j]? = some u → w.cell? ((⟨b, o, s⟩ : Addr).add j) = some u := by
      intro j u hu
      rcases hr with h | ⟨b', o', h, _, hc⟩
      · subst h; simp at hu
      · injection h with h
        rw [h, Addr.add_lit]
        exact hc j u hu
    have hlen : (xs ++ news).length = (n + m) * size := by rw [List.length_append, hown.1, hl, Nat.add_mul]
    rcases hown.2 with ⟨rfl, rfl⟩ | ⟨g, off, cap, cur, lo, hi', rfl, hbg, hh, hs, hf, hnc, hcm, hx⟩
    · have hx0 : xs = [] := List.eq_nil_of_length_eq_zero (by simpa using hown.1)
      subst hx0
      obtain ⟨v', w', hrun, h2, h3, _, h5⟩ := run_append_own_at (P := P) w base t ty e i z size bytes ht hi hz hsize hby hzs hsz _ 0 [] (World.ownsRow_nil _ _ _ _) ⟨b, o, s⟩ m c news hl hcells h1 h63 hbytes hbase
      exact ⟨v', w', hrun, OwnG.of h2, h3, h5⟩
    · by_cases hroom : n + m ≤ cap
      · have hms : (n + m) * size ≤ cap * size := Nat.mul_le_mul_right _ hroom
        rw [Nat.add_mul] at hms
        have hrun := run_append_room_cells (P := P) w t ty e i ht hi g off n cap ⟨b, o, s⟩ m c news (by rw [hsize]; exact hl) hcells h1 hroom
          (fun j hj => by rw [hsize, cell_of_block hh, Array.getElem?_eq_getElem (by omega)]; rfl)
          (fun j hj => by
            rw [hsize]
            simp only [World.frozen?, hh]
            have : ¬ (lo ≤ off + n * size + j ∧ off + n * size + j < hi') := by omega
            simpa using this)
        rw [hsize] at hrun
        obtain ⟨cur', h2, h3, h4, h5, h6⟩ := setCells_heap g news (off + n * size) w cur e (lo, hi') hh (by omega)
        refine ⟨_, _, hrun, ⟨hlen, .inr ⟨g, off, cap, cur', lo, hi', rfl, hbg, h2, by omega, hf, hroom, hcm, fun j u hu => ?_⟩⟩, h6, .inl rfl⟩
        by_cases hj : j < xs.length
        · rw [List.getElem?_append_left hj] at hu
          rw [h4 _ (by have := hown.1; omega)]
          exact hx j u hu
        · rw [List.getElem?_append_right (by omega)] at hu
          have := h5 _ u hu
          rw [← this]
          congr 1
          have := hown.1
          omega
      · have holds : ∀ j u, xs[j]? = some u → w.cell? ((⟨g, off, none⟩ : Addr).add j) = some u := fun j u hu => by
          rw [Addr.add_lit]
          exact (cell_of_block hh _).trans (hx j u hu)
        have h63' := h63
        have hsmall : n + m ≤ 9223372036854775807 := by simp only [maxLen] at h63; omega
        subst hsize
        subst hby
        have hrun := run_append_grow (P := P) w t ty e i z ht hi hz ⟨g, off, none⟩ n cap xs hown.1 holds ⟨b, o, s⟩ m c news hl hcells (by omega) (by omega) (growslice_fits (by omega) hbytes)
        have hge := grownCap_ge w (n + m) cap e
        refine ⟨_, _, hrun, OwnG.of ⟨hlen, .inr ⟨w.heap.size, _, _, rfl, hbase, _root_.Go.heap_alloc_new w.drew _, hge, grownCap_le_maxLen w (n + m) cap e h63', ?_, ?_⟩⟩, ⟨rfl, rfl, rfl, by simp, fun k hk _ => _root_.Go.heap_alloc_old w.drew _ hk⟩, .inr rfl⟩
        · simp only [Array.size_append, List.size_toArray, size_zeroCells, hzs, hown.1, hl, ← Nat.add_mul]
          congr 1
          omega
        · simp only [Array.toList_append, List.append_assoc]
          rw [← List.append_assoc, ← hlen]
          exact List.take_left

theorem wpList_append_g {P : Program} {w : World} {ops : Array Oper} {rest : List Oper} {o : Oper} {a : Act} {Q : Exit → Act → World → Prop} (hgd : o.guard = none) (s x : Operand) (t : TypeId)
    (ho : o.op = .call { callee := .builtin .append, args := #[s, x], argTypes := #[t, t] })
    (base : Nat) (e : TypeId) (z : Value) (size bytes : Nat) (ht : P.underlying t = some (.slice e)) (hinf : (P.info? e).map (fun i => (i.zero, i.size, i.bytes)) = some (some z, size, bytes)) (hzs : z.cells.size = size) (hsz : 0 < size)
    (v : Value) (n : Nat) (xs : List Value) (hs : a.eval s = v) (hown : OwnG w base e size v n xs)
    (Bd : Nat) (ad : Option Addr) (m c : Nat) (news : List Value) (hx : a.eval x = .slice ad m c) (hl : news.length = m * size) (hr : Rd w Bd ad news) (h1 : ∀ u ∈ news, u.oneCell' = true)
    (hbytes : (n + m) * bytes ≤ 140737488355328) (h63 : n + m ≤ 140737488355328) (hbase : base ≤ w.heap.size)
    (h : ∀ v' w', OwnG w' base e size v' (n + m) (xs ++ news) → w.grownBy w' v.ownBlock → (v'.ownBlock = v.ownBlock ∨ v'.ownBlock = some w.heap.size) → wpList P ops Q rest (a.put o.dst v') w') : wpList P ops Q (o :: rest) a w :=
  wpList_plain hgd fun K hK => by
    obtain ⟨i, hi, hz, hsize, hby⟩ := info_parts hinf
    obtain ⟨v', w', hrun, h2, h3, h4⟩ := run_append_g (P := P) w base t o.type e i z size bytes ht hi hz hsize hby hzs hsz v n xs hown Bd ad m c news hl hr h1 (by unfold maxLen; omega) hbytes hbase
    unfold Oper.wp execOp
    simp only [ho, resolve, invoke, builtin, Sem.run_bind, Sem.run_pure, Result.andThen_ok, List.map_toArray, List.map_cons, List.map_nil, hs, hx, hrun]
    exact hK _ _ (h v' w' h2 h3 h4)

/-- The same as one step of a region that draws its order. -/
theorem step_append_g {P : Program} {w : World} {ops : Array Oper} {o : Oper} {a : Act} {K : Act → World → Prop} {Q : Exit → Act → World → Prop} {E : Prop} (hgd : o.guard = none) (s x : Operand) (t : TypeId)
    (ho : o.op = .call { callee := .builtin .append, args := #[s, x], argTypes := #[t, t] })
    (base : Nat) (e : TypeId) (z : Value) (size bytes : Nat) (ht : P.underlying t = some (.slice e)) (hinf : (P.info? e).map (fun i => (i.zero, i.size, i.bytes)) = some (some z, size, bytes)) (hzs : z.cells.size = size) (hsz : 0 < size)
    (v : Value) (n : Nat) (xs : List Value) (hs : a.eval s = v) (hown : OwnG w base e size v n xs)
    (Bd : Nat) (ad : Option Addr) (m c : Nat) (news : List Value) (hx : a.eval x = .slice ad m c) (hl : news.length = m * size) (hr : Rd w Bd ad news) (h1 : ∀ u ∈ news, u.oneCell' = true)
    (hbytes : (n + m) * bytes ≤ 140737488355328) (h63 : n + m ≤ 140737488355328) (hbase : base ≤ w.heap.size)
    (h : ∀ v' w', OwnG w' base e size v' (n + m) (xs ++ news) → w.grownBy w' v.ownBlock → (v'.ownBlock = v.ownBlock ∨ v'.ownBlock = some w.heap.size) → K (a.put o.dst v') w') :
    if Region.wanted o (yielded ops a.tmps) = true then Oper.wp P o a w K Q else E := by
  have hw : Region.wanted o (yielded ops a.tmps) = true := by simp [Region.wanted, hgd]
  rw [if_pos hw]
  obtain ⟨i, hi, hz, hsize, hby⟩ := info_parts hinf
  obtain ⟨v', w', hrun, h2, h3, h4⟩ := run_append_g (P := P) w base t o.type e i z size bytes ht hi hz hsize hby hzs hsz v n xs hown Bd ad m c news hl hr h1 (by unfold maxLen; omega) hbytes hbase
  unfold Oper.wp execOp
  simp only [ho, resolve, invoke, builtin, Sem.run_bind, Sem.run_pure, Result.andThen_ok, List.map_toArray, List.map_cons, List.map_nil, hs, hx, hrun]
  exact h v' w' h2 h3 h4

/-! ### bytes -/
theorem info_u8 : (Tryd.prog.info? 5).map (fun i => (i.zero, i.size, i.bytes)) = some (some (.int .u8 0), 1, 1) := by kernel_rfl

/-- The value v is a slice of bytes of the call's own. -/
def OwnB (w : World) (base : Nat) (v : Value) (l : List UInt8) : Prop := OwnG w base 5 1 v l.length (bs l)

namespace OwnB
variable {w w' : World} {base base' n c : Nat} {v : Value} {a : Option Addr} {l : List UInt8}
theorem of (h : w.ownsRow base 5 1 v n (bs l)) : OwnB w base v l := by
  have : l.length = n := by have := h.1; rw [bs_length] at this; omega
  subst this
  exact OwnG.of h
theorem shape (h : OwnB w base v l) : ∃ a c, v = .slice a l.length c ∧ l.length ≤ c := OwnG.shape h
theorem len (h : OwnB w base (.slice a n c) l) : l.length = n := by
  obtain ⟨a', c', he, _⟩ := h.shape
  injection he with h1 h2 h3
  exact h2.symm
theorem rd (h : OwnB w base (.slice a n c) l) : Rd w w.heap.size a (bs l) := by
  have := h.len
  subst this
  exact OwnG.rd h
theorem below (h : OwnB w base v l) (hb : Below w.heap.size w w') : OwnB w' base v l := OwnG.below h hb
theorem nil (w : World) (base : Nat) : OwnB w base (.slice none 0 0) [] := OwnG.nil _ _ _ _
theorem base_mono (h : OwnB w base v l) (hb : base' ≤ base) : OwnB w base' v l := OwnG.base_mono h hb
theorem alloc (h : OwnB w base v l) (o : Obj) : OwnB (w.alloc o) base v l := OwnG.alloc h o
theorem drew (h : OwnB w base v l) : OwnB w.drew base v l := h
theorem drewN (h : OwnB w base v l) (k : Nat) : OwnB (w.drewN k) base v l := h
theorem lt (h : OwnB w base v l) : ∀ k, v.ownBlock = some k → base ≤ k ∧ k < w.heap.size := OwnG.lt h
theorem grown {row : Option Nat} (h : OwnB w base v l) (hg : w.grownBy w' row) (hne : v.ownBlock = none ∨ v.ownBlock ≠ row) : OwnB w' base v l := OwnG.grown h hg hne
theorem far {w0 : World} (h : OwnB w0 base v l) (hg : w.grownBy w' v.ownBlock) {p : Addr} (hp : p.block < base) (hb : base ≤ w.heap.size) : w'.cell? p = w.cell? p := OwnG.far h hg hp hb
theorem form (h : OwnB w base v l) (hn : 0 < l.length) : ∃ g off c, v = .slice (some ⟨g, off, none⟩) l.length c ∧ base ≤ g ∧ g < w.heap.size ∧ l.length ≤ c ∧ ∀ j (hj : j < l.length), w.cell? ⟨g, off + j, none⟩ = some (.int .u8 ((l[j]).toNat : Int)) := by
  obtain ⟨g, off, c, h1, h2, h3, h4, h5⟩ := OwnG.form h hn
  exact ⟨g, off, c, h1, h2, h3, h4, fun j hj => h5 j _ (bs_get l j hj)⟩
theorem formS (h : OwnB w base (.slice a n c) l) (hn : 0 < l.length) : ∃ g off, a = some ⟨g, off, none⟩ ∧ n = l.length ∧ base ≤ g ∧ g < w.heap.size ∧ l.length ≤ c ∧ ∀ j (hj : j < l.length), w.cell? ⟨g, off + j, none⟩ = some (.int .u8 ((l[j]).toNat : Int)) := by
  obtain ⟨g, off, c', hv, h2, h3, h4, h5⟩ := h.form hn
  injection hv with h6 h7 h8
  subst h8
  exact ⟨g, off, h6, h7, h2, h3, h4, h5⟩
/-- '[]byte{}' -/
theorem lit0 (w : World) : OwnB (w.alloc (.cells #[] 5)) w.heap.size (.slice (some ⟨w.heap.size, 0, none⟩) 0 0) [] :=
  OwnG.of (World.ownsRow_lit w #[] 0 (Nat.le_refl _) (by unfold maxLen; omega) rfl)
/-- '[]byte{..}' -/
theorem lit (w : World) (l : List UInt8) (hl : l.length ≤ 1000000) : OwnB (w.alloc (.cells (bs l).toArray 5)) w.heap.size (.slice (some ⟨w.heap.size, 0, none⟩) l.length l.length) l := by
  have := World.ownsRow_lit (e := 5) (size := 1) w (bs l).toArray l.length (Nat.le_refl _) (by unfold maxLen; omega) (by simp [bs])
  have e : (bs l).toArray.toList = bs l := by simp
  rw [e] at this
  exact of this
end OwnB

/-- '[]byte("..")' of a constant -/
theorem OwnB.const (w : World) (l : List UInt8) (k : Nat) (hk : l.length ≤ k) (hl : l.length ≤ 1000000) : OwnB (w.alloc (.cells (bs l).toArray 5 (k, k + 1))) w.heap.size (.slice (some ⟨w.heap.size, 0, none⟩) l.length l.length) l := by
  refine ⟨by rw [bs_length, Nat.mul_one], .inr ⟨w.heap.size, 0, l.length, _, _, _, rfl, Nat.le_refl _, heap_alloc_new w _, by simp [bs], .inl (by omega), Nat.le_refl _, by unfold maxLen; omega, fun j u hu => by simpa using hu⟩⟩

/-- '[]byte(s)' -/
theorem OwnB.str (w : World) (l : List UInt8) (hl : l.length ≤ 1000000000) :
    OwnB (Lib.bytesWorld w 5 ⟨l.toArray⟩) w.heap.size (.slice (some ⟨w.heap.size, 0, none⟩) l.length (grownCap w l.length 0 5)) l := by
  have hsz : (⟨l.toArray⟩ : ByteArray).size = l.length := rfl
  have hge := grownCap_ge w l.length 0 5
  refine ⟨by rw [bs_length, Nat.mul_one], .inr ⟨w.heap.size, 0, _, _, _, _, rfl, Nat.le_refl _, Lib.bytesWorld_at_new w 5 ⟨l.toArray⟩, ?_, .inl ?_, hge, grownCap_le_maxLen w _ _ _ (by unfold maxLen; omega), fun j u hu => ?_⟩⟩
  · simp [Lib.bytesCells, hsz]; omega
  · simp [Lib.bytesCells, hsz]; omega
  · have hj : j < l.length := by have := (List.getElem?_eq_some_iff.1 hu).1; rwa [bs_length] at this
    rw [bs_get l j hj] at hu
    rw [← hu]
    simp [Lib.bytesCells, Array.getElem?_append, hj]

/-- append of bytes onto bytes of the call's own. -/
theorem wpList_app {w : World} {ops : Array Oper} {rest : List Oper} {o : Oper} {a : Act} {Q : Exit → Act → World → Prop} (hgd : o.guard = none) (s x : Operand)
    (ho : o.op = .call { callee := .builtin .append, args := #[s, x], argTypes := #[22, 22] })
    (base : Nat) (v : Value) (l : List UInt8) (hs : a.eval s = v) (hown : OwnB w base v l)
    (Bd : Nat) (ad : Option Addr) (m c : Nat) (news : List UInt8) (hx : a.eval x = .slice ad m c) (hl : news.length = m) (hr : Rd w Bd ad (bs news))
    (hbytes : l.length + m ≤ 140737488355328) (hbase : base ≤ w.heap.size)
    (h : ∀ v' w', OwnB w' base v' (l ++ news) → w.grownBy w' v.ownBlock → (v'.ownBlock = v.ownBlock ∨ v'.ownBlock = some w.heap.size) → wpList Tryd.prog ops Q rest (a.put o.dst v') w') : wpList Tryd.prog ops Q (o :: rest) a w := by
  refine wpList_append_g hgd s x 22 ho base 5 (.int .u8 0) 1 1 Tryd.underlying22 info_u8 rfl (by omega) v l.length (bs l) hs hown Bd ad m c (bs news) hx (by rw [bs_length]; omega) hr (bs_one _) (by omega) (by omega) hbase ?_
  intro v' w' h1 h2 h3
  refine h v' w' ?_ h2 h3
  unfold OwnB
  rw [List.length_append, hl, bs_append]
  exact h1

theorem step_app {w : World} {ops : Array Oper} {o : Oper} {a : Act} {K : Act → World → Prop} {Q : Exit → Act → World → Prop} {E : Prop} (hgd : o.guard = none) (s x : Operand)
    (ho : o.op = .call { callee := .builtin .append, args := #[s, x], argTypes := #[22, 22] })
    (base : Nat) (v : Value) (l : List UInt8) (hs : a.eval s = v) (hown : OwnB w base v l)
    (Bd : Nat) (ad : Option Addr) (m c : Nat) (news : List UInt8) (hx : a.eval x = .slice ad m c) (hl : news.length = m) (hr : Rd w Bd ad (bs news))
    (hbytes : l.length + m ≤ 140737488355328) (hbase : base ≤ w.heap.size)
    (h : ∀ v' w', OwnB w' base v' (l ++ news) → w.grownBy w' v.ownBlock → (v'.ownBlock = v.ownBlock ∨ v'.ownBlock = some w.heap.size) → K (a.put o.dst v') w') :
    if Region.wanted o (yielded ops a.tmps) = true then Oper.wp Tryd.prog o a w K Q else E := by
  refine step_append_g hgd s x 22 ho base 5 (.int .u8 0) 1 1 Tryd.underlying22 info_u8 rfl (by omega) v l.length (bs l) hs hown Bd ad m c (bs news) hx (by rw [bs_length]; omega) hr (bs_one _) (by omega) (by omega) hbase ?_
  intro v' w' h1 h2 h3
  refine h v' w' ?_ h2 h3
  unfold OwnB
  rw [List.length_append, hl, bs_append]
  exact h1

theorem conv_rd {w : World} {Bd : Nat} {a : Option Addr} {l : List UInt8} (h : Rd w Bd a (bs l)) (n cap : Nat) (hn : l.length = n) :
    (convert 22 9 (.slice a n cap)).run Tryd.prog w = .ok (.string ⟨l.toArray⟩) w := by
  subst hn
  rcases h with h | ⟨b, off, rfl, _, hc⟩
  · have h0 : l = [] := by simpa [bs] using h
    subst h0
    rw [run_convert_bytes_string w 22 9 5 _ _ cap Tryd.underlying22 Tryd.underlying5 Tryd.underlying9]
    cases a <;> simp [Conv.bytesToString, loadCells] <;> rfl
  · have := run_convert_bytes_arg (P := Tryd.prog) w 22 5 Tryd.underlying22 Tryd.underlying5 b off l.length cap (l.map fun x => (x.toNat : Int)) (by simp) (fun i hi => by
      rw [hc i _ (bs_get l i hi)]
      simp [List.getD, hi]) 9 Tryd.underlying9
    rw [this]
    have e : strOfNums (l.map fun x => (x.toNat : Int)) = ⟨l.toArray⟩ := by simp [strOfNums, Function.comp_def]
    rw [e]

end Go.Proofs.YtnfchojekcoplaaDoor
