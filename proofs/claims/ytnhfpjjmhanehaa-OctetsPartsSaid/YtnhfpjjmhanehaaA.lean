/- Vocabulary: what a slice reads as in a world, what a call owns, append; nothing of a Go function. -/
import Derived.Test.YtnhfpjjmhanehaaProg
import Derived.WalkKit
import Derived.KernelRfl
import Derived.Lib.Hide
import Derived.Deep.LoopGhost
import Derived.BigQuiet
import Derived.Deep.QuietTactic
import Derived.Deep.RegionWith
import Derived.Deep.DeepFit
import Derived.WalkSpells
import Derived.WalkLawsBesides
import Derived.Maps.AppendAt
import Derived.Deep.AppendLies
import Derived.Lib.ConvBytes
import Derived.StillTailTactics
import Derived.Deep.RegionHeld3
import Derived.Deep.RegionLaw
namespace Go.Proofs.Ytnhfpjjmhanehaa
set_option linter.unusedVariables false
set_option linter.unusedSimpArgs false
open Go.RowKit

/-- '==' of two arrays of whole numbers. -/
theorem run_equalIn_ints {P : Program} (d : Nat) (t len e : Nat) (k k' : IntKind) (ht : P.underlying t = some (.array len e)) (he : P.underlying e = some (.int k'))
    (hag : ∀ w, (isAgg e).run P w = .ok false w) (hsz : ∀ w, (sizeOf e).run P w = .ok 1 w) (xs ys : List Int) (hx : xs.length = len) (hy : ys.length = len) (w : World) :
    (Op.equalIn (d + 2) t (.agg (xs.map (Value.int k)).toArray) (.agg (ys.map (Value.int k)).toArray)).run P w = .ok (xs == ys) w := by
  have hpart : ∀ (zs : List Int) (i : Nat) (h : i < zs.length) (w : World), (part e (zs.map (Value.int k)).toArray i).run P w = .ok (.int k zs[i]) w := by
    intro zs i h w
    simp [part, hag, h]
  rw [Op.equalIn]
  simp only [Sem.run_bind, run_underlying ht, Result.andThen_ok, hsz, Nat.mul_one, Std.Legacy.Range.forIn_eq_forIn_range']
  have key : ∀ (n i : Nat), i + n = len →
      (Sem.run P (forIn (List.range' i n 1) ((none : Option Bool), PUnit.unit) fun i s => do
              let a ← part e (xs.map (Value.int k)).toArray i
              let b ← part e (ys.map (Value.int k)).toArray i
              let c ← Op.equalIn (d + 1) e a b
              if (!c) = true then pure (ForInStep.done (some false, PUnit.unit)) else pure (ForInStep.yield (none, PUnit.unit))) w) =
        .ok (if xs.drop i = ys.drop i then (none, PUnit.unit) else (some false, PUnit.unit)) w := by
    intro n
    induction n with
    | zero =>
      intro i hi
      have h1 : xs.drop i = [] := List.drop_of_length_le (by omega)
      have h2 : ys.drop i = [] := List.drop_of_length_le (by omega)
      simp [h1, h2]
    | succ n ih =>
      intro i hi
      have hi1 : i < xs.length := by omega
      have hi2 : i < ys.length := by omega
      rw [List.range'_succ]
      simp only [List.forIn_cons, Sem.run_bind, hpart xs i hi1, hpart ys i hi2, Result.andThen_ok, run_equalIn_int _ _ _ _ _ _ _ he]
      have hd : (xs.drop i = ys.drop i) ↔ (xs[i] = ys[i] ∧ xs.drop (i + 1) = ys.drop (i + 1)) := by
        rw [List.drop_eq_getElem_cons hi1, List.drop_eq_getElem_cons hi2, List.cons.injEq]
      by_cases h : xs[i] = ys[i]
      · simp only [h, beq_self_eq_true, Bool.not_true, Bool.false_eq_true, if_false, Sem.run_pure, Result.andThen_ok]
        rw [ih (i + 1) (by omega)]
        by_cases ht : xs.drop (i + 1) = ys.drop (i + 1)
        · rw [if_pos ht, if_pos (hd.2 ⟨h, ht⟩)]
        · rw [if_neg ht, if_neg fun hh => ht (hd.1 hh).2]
      · have hb : (xs[i] == ys[i]) = false := beq_eq_false_iff_ne.2 h
        simp only [hb, Bool.not_false, if_true, Sem.run_pure, Result.andThen_ok]
        rw [if_neg fun hh => h (hd.1 hh).1]
  have h0 := key len 0 (by omega)
  have hr : Std.Legacy.Range.size [:len] = len := by simp [Std.Legacy.Range.size]
  simp only [hr]
  rw [h0]
  simp only [List.drop_zero, Result.andThen_ok]
  by_cases h : xs = ys
  · rw [if_pos h]; simp [h]
  · rw [if_neg h]
    have : (xs == ys) = false := beq_eq_false_iff_ne.2 h
    simp [this]

/-- A byte as a value; bytes as cells. -/
def B (x : UInt8) : Value := .int .u8 (x.toNat : Int)
def bs (l : List UInt8) : List Value := l.map B
theorem bs_length (l : List UInt8) : (bs l).length = l.length := by simp [bs]
theorem bs_append (l m : List UInt8) : bs (l ++ m) = bs l ++ bs m := by simp [bs]
theorem bs_get (l : List UInt8) (i : Nat) (h : i < l.length) : (bs l)[i]? = some (.int .u8 ((l[i]).toNat : Int)) := by simp [bs, B, h]
theorem bs_one (l : List UInt8) : ∀ u ∈ bs l, u.oneCell' = true := by
  intro u hu
  obtain ⟨x, _, rfl⟩ := List.mem_map.1 hu
  rfl
theorem bs_take (l : List UInt8) (k : Nat) : bs (l.take k) = (bs l).take k := by simp [bs, List.map_take]
theorem bs_drop (l : List UInt8) (k : Nat) : bs (l.drop k) = (bs l).drop k := by simp [bs, List.map_drop]
theorem bs_set (l : List UInt8) (k : Nat) (x : UInt8) : bs (l.set k x) = (bs l).set k (B x) := by simp [bs, List.map_set]
theorem bs_inj {l m : List UInt8} (h : bs l = bs m) : l = m := by
  refine List.map_inj_right (f := B) ?_ |>.1 h
  intro x y hxy
  simp only [B, Value.int.injEq, true_and] at hxy
  exact UInt8.toNat_inj.1 (by omega)

/-- The address a, in the world w, is the head of the cells xs, which lie below block B. -/
def Rd (w : World) (Bd : Nat) (a : Option Addr) (xs : List Value) : Prop :=
  xs = [] ∨ ∃ b off, a = some ⟨b, off, none⟩ ∧ b < Bd ∧ ∀ i u, xs[i]? = some u → w.cell? ⟨b, off + i, none⟩ = some u

section
variable {w w' : World} {Bd Bd' : Nat} {a : Option Addr} {xs : List Value}
theorem Rd.nil : Rd w Bd a [] := .inl rfl
theorem Rd.at (h : Rd w Bd a xs) (i : Nat) (u : Value) (hi : xs[i]? = some u) : ∃ b off, a = some ⟨b, off, none⟩ ∧ b < Bd ∧ w.cell? ⟨b, off + i, none⟩ = some u := by
  rcases h with h | ⟨b, off, ha, hb, hc⟩
  · subst h; simp at hi
  · exact ⟨b, off, ha, hb, hc i u hi⟩
theorem Rd.byte {l : List UInt8} (h : Rd w Bd a (bs l)) (i : Nat) (hi : i < l.length) : ∃ b off, a = some ⟨b, off, none⟩ ∧ b < Bd ∧ w.cell? ⟨b, off + i, none⟩ = some (.int .u8 ((l[i]).toNat : Int)) :=
  h.at i _ (bs_get l i hi)
theorem Rd.keep (h : Rd w Bd a xs) (hb : ∀ p : Addr, p.block < Bd → w'.cell? p = w.cell? p) : Rd w' Bd a xs := by
  rcases h with h | ⟨b, off, ha, hlt, hc⟩
  · exact .inl h
  · exact .inr ⟨b, off, ha, hlt, fun i u hi => (hb _ hlt).trans (hc i u hi)⟩
theorem Rd.more (h : Rd w Bd a xs) (hB : Bd ≤ Bd') : Rd w Bd' a xs := by
  rcases h with h | ⟨b, off, ha, hlt, hc⟩
  · exact .inl h
  · exact .inr ⟨b, off, ha, by omega, hc⟩
theorem Rd.below (h : Rd w Bd a xs) (hb : Below Bd w w') : Rd w' Bd a xs := h.keep fun _ hp => hb.cell hp
theorem Rd.drew (h : Rd w Bd a xs) : Rd w.drew Bd a xs := h.keep fun _ _ => rfl
theorem Rd.drewN (h : Rd w Bd a xs) (n : Nat) : Rd (w.drewN n) Bd a xs := h.keep fun _ _ => rfl
theorem Rd.lt_size (h : Rd w Bd a xs) : Rd w w.heap.size a xs := by
  rcases h with h | ⟨b, off, ha, hlt, hc⟩
  · exact .inl h
  · by_cases he : xs = []
    · exact .inl he
    · have h0 : 0 < xs.length := List.length_pos_iff.2 he
      have := World.block_lt_of_cell? w _ (hc 0 xs[0] (List.getElem?_eq_getElem h0))
      exact .inr ⟨b, off, ha, this, hc⟩
theorem Rd.alloc (h : Rd w Bd a xs) (hB : Bd ≤ w.heap.size) (o : Obj) : Rd (w.alloc o) Bd a xs := h.keep fun p hp => World.cell?_alloc_lt w o p (by omega)
theorem Rd.setCell (h : Rd w Bd a xs) {p : Addr} (hB : Bd ≤ p.block) (u : Value) : Rd (w.setCell p u) Bd a xs :=
  h.keep fun q hq => World.cell?_setCell_other w p q u (fun e => by subst e; omega)
theorem Rd.grown (h : Rd w Bd a xs) {row : Option Nat} (hg : w.grownBy w' row) (hB : Bd ≤ w.heap.size) (hr : ∀ g, row = some g → Bd ≤ g) : Rd w' Bd a xs :=
  h.keep fun p hp => World.cell?_of_block (hg.block p.block (by omega) (fun e => by have := hr _ e.symm; omega))
theorem Rd.take (h : Rd w Bd a xs) (k : Nat) : Rd w Bd a (xs.take k) := by
  rcases h with h | ⟨b, off, ha, hlt, hc⟩
  · subst h; simp [Rd]
  · refine .inr ⟨b, off, ha, hlt, fun i u hi => hc i u ?_⟩
    have : i < k := by
      by_cases hk : i < k
      · exact hk
      · simp [List.getElem?_take, hk] at hi
    rw [← hi, List.getElem?_take_of_lt this]
theorem Rd.drop (h : Rd w Bd a xs) (k : Nat) : Rd w Bd (a.map (·.add k)) (xs.drop k) := by
  rcases h with h | ⟨b, off, ha, hlt, hc⟩
  · subst h; simp [Rd]
  · refine .inr ⟨b, off + k, by rw [ha, Option.map_some, Addr.add_lit], hlt, fun i u hi => ?_⟩
    rw [Nat.add_assoc]
    exact hc _ u (by rw [← hi, List.getElem?_drop])
/-- What 's[k:]' reads as: the address is the model's own. -/
theorem Rd.cut (h : Rd w Bd a xs) {k cap : Nat} (hc : xs.length ≤ cap) : Rd w Bd (if cap = k then a else a.map (·.add k)) (xs.drop k) := by
  by_cases hk : cap = k
  · rw [if_pos hk, List.drop_of_length_le (by omega)]
    exact .nil
  · rw [if_neg hk]
    exact h.drop k
end

theorem Rd.new (w : World) (cs : List Value) (t : TypeId) : Rd (w.alloc (.cells cs.toArray t)) (w.heap.size + 1) (some ⟨w.heap.size, 0, none⟩) cs := by
  refine .inr ⟨_, _, rfl, by omega, fun i u hi => ?_⟩
  rw [cell_of_row (w.alloc (.cells cs.toArray t)) w.heap.size (0 + i) cs.toArray t (0, 0) (heap_alloc_new w _)]
  simpa using hi

/-- The value v owns the cells xs, elements of e, 'size' cells each, in a block of its own from base on. -/
theorem Own.rd {w : World} {base size n : Nat} {e : TypeId} {a : Option Addr} {c : Nat} {xs : List Value} (h : w.ownsRow base e size (.slice a n c) n xs) : Rd w w.heap.size a xs := by
  by_cases hx : xs = []
  · exact .inl hx
  · have hn : 0 < n := by
      rcases Nat.eq_zero_or_pos n with h0 | h0
      · exact absurd (List.eq_nil_of_length_eq_zero (by rw [h.1, h0]; simp)) hx
      · exact h0
    obtain ⟨g, cap, hv, _, hlt⟩ := h.form hn
    have ha : a = some ⟨g, 0, none⟩ := by injection hv
    subst ha
    refine .inr ⟨g, 0, rfl, hlt, fun i u hi => ?_⟩
    have := h.cells (g := g) rfl i u hi
    simpa [Addr.add_lit] using this

theorem Own.shape {w : World} {base size n : Nat} {e : TypeId} {v : Value} {xs : List Value} (h : w.ownsRow base e size v n xs) : ∃ a c, v = .slice a n c ∧ n ≤ c := by
  rcases h.2 with ⟨rfl, rfl⟩ | ⟨g, cap, cur, rfl, _, _, hc, _⟩
  · exact ⟨none, 0, rfl, Nat.le_refl _⟩
  · exact ⟨_, cap, rfl, hc⟩

theorem Own.base {w : World} {base base' size n : Nat} {e : TypeId} {v : Value} {xs : List Value} (h : w.ownsRow base e size v n xs) (hb : base' ≤ base) : w.ownsRow base' e size v n xs := by
  refine ⟨h.1, ?_⟩
  rcases h.2 with h | ⟨g, cap, cur, hv, hg, r⟩
  · exact .inl h
  · exact .inr ⟨g, cap, cur, hv, by omega, r⟩

/-- Kept where only what is new, or a block that is not its own, has turned. -/
theorem Own.below {w w' : World} {base size n : Nat} {e : TypeId} {v : Value} {xs : List Value} (h : w.ownsRow base e size v n xs) (hb : Below w.heap.size w w') : w'.ownsRow base e size v n xs := by
  refine ⟨h.1, ?_⟩
  rcases h.2 with h | ⟨g, cap, cur, hv, hg, hh, r⟩
  · exact .inl h
  · exact .inr ⟨g, cap, cur, hv, hg, (hb.block g (by
      rcases Nat.lt_or_ge g w.heap.size with h' | h'
      · exact h'
      · rw [Array.getElem?_eq_none h'] at hh; cases hh)).trans hh, r⟩

theorem below_grown {w w' : World} {row : Option Nat} {Bd : Nat} (hg : w.grownBy w' row) (hB : Bd ≤ w.heap.size) (hr : ∀ g, row = some g → Bd ≤ g) : Below Bd w w' :=
  ⟨hg.os, hg.tape, hg.output, hg.size, fun k hk => hg.block k (by omega) (fun e => by have := hr k e.symm; omega)⟩

/-- append onto a row of the call's own: the source nil, empty or not; one cell an element. -/
theorem run_append_rd {P : Program} (w : World) (base : Nat) (t ty e : TypeId) (i : TypeInfo) (z : Value) (size bytes : Nat) (ht : P.underlying t = some (.slice e)) (hi : P.info? e = some i) (hz : i.zero = some z)
    (hsize : i.size = size) (hby : i.bytes = bytes) (hzs : z.cells.size = size) (hsz : 0 < size)
    (v : Value) (n : Nat) (xs : List Value) (hown : w.ownsRow base e size v n xs)
    (Bd : Nat) (a : Option Addr) (m c : Nat) (news : List Value) (hl : news.length = m * size) (hr : Rd w Bd a news) (h1 : ∀ u ∈ news, u.oneCell' = true)
    (h63 : n + m ≤ maxLen) (hbytes : (n + m) * bytes ≤ 140737488355328) (hbase : base ≤ w.heap.size) :
    ∃ v' w', (Builtin.append_ #[t, t] ty #[v, .slice a m c]).run P w = .ok v' w' ∧ w'.ownsRow base e size v' (n + m) (xs ++ news) ∧ w.grownBy w' v.ownBlock ∧
      (v'.ownBlock = v.ownBlock ∨ v'.ownBlock = some w.heap.size) := by
  rcases a with _ | ⟨b, o, s⟩
  · have hn : news = [] := by
      rcases hr with h | ⟨_, _, h, _⟩
      · exact h
      · cases h
    have hm : m = 0 := by
      rw [hn] at hl
      rcases Nat.mul_eq_zero.1 hl.symm with h | h <;> omega
    subst hn; subst hm
    refine ⟨v, w, ?_, by simpa using hown, World.grownBy.refl w _, .inl rfl⟩
    rcases hown.2 with ⟨rfl, rfl⟩ | ⟨g, cap, cur, rfl, _, _, hnc, _⟩
    · simp [Builtin.append_, run_underlying ht, sizeOf, typeInfo, hi, Builtin.lenOf, Builtin.firstCells]
    · simp [Builtin.append_, run_underlying ht, sizeOf, typeInfo, hi, Builtin.lenOf, Builtin.firstCells, hnc, storeCells]
  · have hcells : ∀ j u, news[j]? = some u → w.cell? ((⟨b, o, s⟩ : Addr).add j) = some u := by
      intro j u hu
      rcases hr with h | ⟨b', o', h, _, hc⟩
      · subst h; simp at hu
      · injection h with h
        rw [h, Addr.add_lit]
        exact hc j u hu
    obtain ⟨v', w', hrun, h2, h3, _, h5⟩ := run_append_own_at (P := P) w base t ty e i z size bytes ht hi hz hsize hby hzs hsz v n xs hown ⟨b, o, s⟩ m c news hl hcells h1 h63 hbytes hbase
    exact ⟨v', w', hrun, h2, h3, h5⟩

theorem wpList_append_rd {P : Program} {w : World} {ops : Array Oper} {rest : List Oper} {o : Oper} {a : Act} {Q : Exit → Act → World → Prop} (hgd : o.guard = none) (s x : Operand) (t : TypeId)
    (ho : o.op = .call { callee := .builtin .append, args := #[s, x], argTypes := #[t, t] })
    (base : Nat) (e : TypeId) (z : Value) (size bytes : Nat) (ht : P.underlying t = some (.slice e)) (hinf : (P.info? e).map (fun i => (i.zero, i.size, i.bytes)) = some (some z, size, bytes)) (hzs : z.cells.size = size) (hsz : 0 < size)
    (v : Value) (n : Nat) (xs : List Value) (hs : a.eval s = v) (hown : w.ownsRow base e size v n xs)
    (Bd : Nat) (ad : Option Addr) (m c : Nat) (news : List Value) (hx : a.eval x = .slice ad m c) (hl : news.length = m * size) (hr : Rd w Bd ad news) (h1 : ∀ u ∈ news, u.oneCell' = true)
    (hbytes : (n + m) * bytes ≤ 140737488355328) (h63 : n + m ≤ 140737488355328) (hbase : base ≤ w.heap.size)
    (h : ∀ v' w', w'.ownsRow base e size v' (n + m) (xs ++ news) → w.grownBy w' v.ownBlock → (v'.ownBlock = v.ownBlock ∨ v'.ownBlock = some w.heap.size) → wpList P ops Q rest (a.put o.dst v') w') : wpList P ops Q (o :: rest) a w :=
  wpList_plain hgd fun K hK => by
    obtain ⟨i, hi, hz, hsize, hby⟩ := info_parts hinf
    obtain ⟨v', w', hrun, h2, h3, h4⟩ := run_append_rd (P := P) w base t o.type e i z size bytes ht hi hz hsize hby hzs hsz v n xs hown Bd ad m c news hl hr h1 (by unfold maxLen; omega) hbytes hbase
    unfold Oper.wp execOp
    simp only [ho, resolve, invoke, builtin, Sem.run_bind, Sem.run_pure, Result.andThen_ok, List.map_toArray, List.map_cons, List.map_nil, hs, hx, hrun]
    exact hK _ _ (h v' w' h2 h3 h4)

theorem info_u8 : (Try.prog.info? 5).map (fun i => (i.zero, i.size, i.bytes)) = some (some (.int .u8 0), 1, 1) := by kernel_rfl

/-- The value v is a slice of bytes of the call's own. -/
def OwnB (w : World) (base : Nat) (v : Value) (l : List UInt8) : Prop := w.ownsRow base 5 1 v l.length (bs l)

theorem OwnB.shape {w : World} {base : Nat} {v : Value} {l : List UInt8} (h : OwnB w base v l) : ∃ a c, v = .slice a l.length c ∧ l.length ≤ c := Own.shape h
theorem OwnB.len {w : World} {base : Nat} {a : Option Addr} {n c : Nat} {l : List UInt8} (h : OwnB w base (.slice a n c) l) : l.length = n := by
  obtain ⟨a', c', he, _⟩ := h.shape
  injection he with h1 h2 h3
  exact h2.symm
theorem OwnB.rd {w : World} {base : Nat} {a : Option Addr} {n c : Nat} {l : List UInt8} (h : OwnB w base (.slice a n c) l) : Rd w w.heap.size a (bs l) := by
  have := h.len
  subst this
  exact Own.rd h
theorem OwnB.below {w w' : World} {base : Nat} {v : Value} {l : List UInt8} (h : OwnB w base v l) (hb : Below w.heap.size w w') : OwnB w' base v l := Own.below h hb
theorem OwnB.nil (w : World) (base : Nat) : OwnB w base (.slice none 0 0) [] := World.ownsRow_nil _ _ _ _
theorem OwnB.base {w : World} {base base' : Nat} {v : Value} {l : List UInt8} (h : OwnB w base v l) (hb : base' ≤ base) : OwnB w base' v l := Own.base h hb

/-- append of bytes onto bytes of the call's own. -/
theorem wpList_app {w : World} {ops : Array Oper} {rest : List Oper} {o : Oper} {a : Act} {Q : Exit → Act → World → Prop} (hgd : o.guard = none) (s x : Operand)
    (ho : o.op = .call { callee := .builtin .append, args := #[s, x], argTypes := #[22, 22] })
    (base : Nat) (v : Value) (l : List UInt8) (hs : a.eval s = v) (hown : OwnB w base v l)
    (Bd : Nat) (ad : Option Addr) (m c : Nat) (news : List UInt8) (hx : a.eval x = .slice ad m c) (hl : news.length = m) (hr : Rd w Bd ad (bs news))
    (hbytes : l.length + m ≤ 140737488355328) (hbase : base ≤ w.heap.size)
    (h : ∀ v' w', OwnB w' base v' (l ++ news) → w.grownBy w' v.ownBlock → (v'.ownBlock = v.ownBlock ∨ v'.ownBlock = some w.heap.size) → wpList Try.prog ops Q rest (a.put o.dst v') w') : wpList Try.prog ops Q (o :: rest) a w := by
  refine wpList_append_rd hgd s x 22 ho base 5 (.int .u8 0) 1 1 Try.underlying22 info_u8 rfl (by omega) v l.length (bs l) hs hown Bd ad m c (bs news) hx (by rw [bs_length]; omega) hr (bs_one _) (by omega) (by omega) hbase ?_
  intro v' w' h1 h2 h3
  refine h v' w' ?_ h2 h3
  unfold OwnB
  rw [List.length_append, hl, bs_append]
  exact h1

/-- The same as one step of a region that draws its order. -/
theorem step_app {w : World} {ops : Array Oper} {o : Oper} {a : Act} {K : Act → World → Prop} {Q : Exit → Act → World → Prop} {E : Prop} (hgd : o.guard = none) (s x : Operand)
    (ho : o.op = .call { callee := .builtin .append, args := #[s, x], argTypes := #[22, 22] })
    (base : Nat) (v : Value) (l : List UInt8) (hs : a.eval s = v) (hown : OwnB w base v l)
    (Bd : Nat) (ad : Option Addr) (m c : Nat) (news : List UInt8) (hx : a.eval x = .slice ad m c) (hl : news.length = m) (hr : Rd w Bd ad (bs news))
    (hbytes : l.length + m ≤ 140737488355328) (hbase : base ≤ w.heap.size)
    (h : ∀ v' w', OwnB w' base v' (l ++ news) → w.grownBy w' v.ownBlock → (v'.ownBlock = v.ownBlock ∨ v'.ownBlock = some w.heap.size) → K (a.put o.dst v') w') :
    if Region.wanted o (yielded ops a.tmps) = true then Oper.wp Try.prog o a w K Q else E := by
  have hw : Region.wanted o (yielded ops a.tmps) = true := by simp [Region.wanted, hgd]
  rw [if_pos hw]
  obtain ⟨i, hi, hz, hsize, hby⟩ := info_parts info_u8
  obtain ⟨v', w', hrun, h2, h3, h4⟩ := run_append_rd (P := Try.prog) w base 22 o.type 5 i _ 1 1 Try.underlying22 hi hz hsize hby rfl (by omega) v l.length (bs l) hown Bd ad m c (bs news) (by rw [bs_length]; omega) hr (bs_one _) (by unfold maxLen; omega) (by omega) hbase
  unfold Oper.wp execOp
  simp only [ho, resolve, invoke, builtin, Sem.run_bind, Sem.run_pure, Result.andThen_ok, List.map_toArray, List.map_cons, List.map_nil, hs, hx, hrun]
  refine h v' w' ?_ h3 h4
  unfold OwnB
  rw [List.length_append, hl, bs_append]
  exact h2

theorem OwnB.form {w : World} {base : Nat} {v : Value} {l : List UInt8} (h : OwnB w base v l) (hn : 0 < l.length) : ∃ g c, v = .slice (some ⟨g, 0, none⟩) l.length c ∧ base ≤ g ∧ g < w.heap.size ∧ l.length ≤ c := by
  rcases h.2 with ⟨_, h0⟩ | ⟨g, cap, cur, rfl, hg, hh, hc, _⟩
  · omega
  · refine ⟨g, cap, rfl, hg, ?_, hc⟩
    rcases Nat.lt_or_ge g w.heap.size with h' | h'
    · exact h'
    · rw [Array.getElem?_eq_none h'] at hh; cases hh
/-- '[]byte{}' -/
theorem OwnB.lit0 (w : World) : OwnB (w.alloc (.cells #[] 5)) w.heap.size (.slice (some ⟨w.heap.size, 0, none⟩) 0 0) [] :=
  World.ownsRow_lit w #[] 0 (Nat.le_refl _) (by unfold maxLen; omega) rfl
/-- '[]byte{..}' -/
theorem OwnB.lit (w : World) (l : List UInt8) (hl : l.length ≤ 1000000) : OwnB (w.alloc (.cells (bs l).toArray 5)) w.heap.size (.slice (some ⟨w.heap.size, 0, none⟩) l.length l.length) l := by
  have := World.ownsRow_lit (e := 5) (size := 1) w (bs l).toArray l.length (Nat.le_refl _) (by unfold maxLen; omega) (by simp [bs])
  simpa [OwnB] using this
theorem OwnB.alloc {w : World} {base : Nat} {v : Value} {l : List UInt8} (h : OwnB w base v l) (o : Obj) : OwnB (w.alloc o) base v l := h.below ((Below.refl _ _).alloc (Nat.le_refl _) o)
theorem OwnB.drew {w : World} {base : Nat} {v : Value} {l : List UInt8} (h : OwnB w base v l) : OwnB w.drew base v l := h
theorem OwnB.drewN {w : World} {base : Nat} {v : Value} {l : List UInt8} (h : OwnB w base v l) (n : Nat) : OwnB (w.drewN n) base v l := h
theorem OwnB.lt {w : World} {base : Nat} {v : Value} {l : List UInt8} (h : OwnB w base v l) : ∀ k, v.ownBlock = some k → base ≤ k ∧ k < w.heap.size := World.ownsRow.lt h
theorem OwnB.grown {w w' : World} {base : Nat} {v : Value} {l : List UInt8} {row : Option Nat} (h : OwnB w base v l) (hg : w.grownBy w' row) (hne : v.ownBlock = none ∨ v.ownBlock ≠ row) : OwnB w' base v l := World.ownsRow.kept h hg hne
theorem OwnB.far {w0 w w' : World} {base : Nat} {v : Value} {l : List UInt8} (h : OwnB w0 base v l) (hg : w.grownBy w' v.ownBlock) {p : Addr} (hp : p.block < base) (hb : base ≤ w.heap.size) : w'.cell? p = w.cell? p :=
  hg.cell_far p (by omega) (fun e => by have := (h.lt _ e.symm).1; omega)
/-- What the call's own append leaves of what was there before. -/
theorem Below.app {w0 w w' : World} {base : Nat} {v : Value} {l : List UInt8} (hb : Below w0.heap.size w0 w) (h : OwnB w base v l) (hbase : w0.heap.size ≤ base) (hg : w.grownBy w' v.ownBlock) : Below w0.heap.size w0 w' :=
  hb.grown hg hb.size fun k hk => Nat.le_trans hbase (h.lt k hk).1

theorem conv_rd {w : World} {Bd : Nat} {a : Option Addr} {l : List UInt8} (h : Rd w Bd a (bs l)) (n cap : Nat) (hn : l.length = n) :
    (convert 22 9 (.slice a n cap)).run Try.prog w = .ok (.string ⟨l.toArray⟩) w := by
  subst hn
  rcases h with h | ⟨b, off, rfl, _, hc⟩
  · have h0 : l = [] := by simpa [bs] using h
    subst h0
    rw [run_convert_bytes_string w 22 9 5 _ _ cap Try.underlying22 Try.underlying5 Try.underlying9]
    cases a <;> simp [Conv.bytesToString, loadCells] <;> rfl
  · have := run_convert_bytes_arg (P := Try.prog) w 22 5 Try.underlying22 Try.underlying5 b off l.length cap (l.map fun x => (x.toNat : Int)) (by simp) (fun i hi => by
      rw [hc i _ (bs_get l i hi)]
      simp [List.getD, hi]) 9 Try.underlying9
    rw [this]
    have e : strOfNums (l.map fun x => (x.toNat : Int)) = ⟨l.toArray⟩ := by simp [strOfNums, Function.comp_def]
    rw [e]

end Go.Proofs.Ytnhfpjjmhanehaa
