/- devices: a device in plain words, and how one lies in memory -/
import Derived.Test.YthenpkimcjdkcaaMp
import Derived.Test.YthenpkimcjdkcaaBk
import Derived.Test.YthenpkimcjdkcaaMade
namespace Go.Proofs.Ythenpkimcjdkcaa
set_option linter.unusedVariables false
set_option linter.unusedSimpArgs false
open Go.RowKit
open Go.Maps (Keyed)

/-- A write. -/
structure Wr where
  i : Int
  b : List UInt8
  sure : Bool
  m : Int
/-- Bytes, and noughts behind them, a whole sector. -/
def full (b : List UInt8) : List UInt8 := b ++ zeros (64 - b.length)
theorem full_length (b : List UInt8) (h : b.length ≤ 64) : (full b).length = 64 := by simp [full, zeros_length]; omega
theorem full_nil : full [] = zeros 64 := rfl
/-- A device. -/
structure Dv where
  n : Nat
  first : Int → List UInt8
  now : Int → List UInt8
  bad : Int → Bool
  dead : Bool
  log : List Wr
  syncs : List (Nat × Int)

def mkI (i : Int) : Value := .int .i64 i
theorem mkI_inj (x y : Int) (h : mkI x = mkI y) : x = y := by simpa [mkI] using h
theorem int_keyed' : Keyed Try.prog 3 := Go.Maps.int_keyed Try.underlying3
theorem keyI (i : Int) (h1 : -9223372036854775808 ≤ i) (h2 : i ≤ 9223372036854775807) : keyOf Try.prog 3 (mkI i) = some (.int .i64 i) :=
  Go.Maps.keyOf_int_mk Try.underlying3 (by
    have e1 : IntKind.min .i64 = -9223372036854775808 := by decide
    have e2 : IntKind.max .i64 = 9223372036854775807 := by decide
    simp only [Lit.wf, Bool.and_eq_true, decide_eq_true_eq, e1, e2]; exact ⟨h1, h2⟩)
abbrev MapI (w : World) (b : Nat) (l : List (Int × Value)) : Prop := MapIs Try.prog 3 mkI w b l

def isU8 (w : World) (k : Nat) : Prop := ∃ cur fr, w.heap[k]? = some (.cells cur 5 fr)
theorem isU8.lt {w : World} {k : Nat} (h : isU8 w k) : k < w.heap.size := by
  obtain ⟨cur, fr, h⟩ := h
  exact lt_of_heap h

/-- v is bytes in a block of I. -/
def BytesV (w : World) (I : Nat → Prop) (v : Value) (b : List UInt8) : Prop :=
  ∃ a c, v = .slice a b.length c ∧ b.length ≤ c ∧ (b = [] ∨ ∃ g off, a = some ⟨g, off, none⟩ ∧ I g ∧ ∀ i u, (bs b)[i]? = some u → w.cell? ⟨g, off + i, none⟩ = some u)
theorem BytesV.keep {w w' : World} {I I' : Nat → Prop} {v : Value} {b : List UInt8} (h : BytesV w I v b) (hI : ∀ k, I k → I' k) (hb : ∀ k, I k → w'.heap[k]? = w.heap[k]?) : BytesV w' I' v b := by
  obtain ⟨a, c, h1, h2, h3⟩ := h
  refine ⟨a, c, h1, h2, ?_⟩
  rcases h3 with h3 | ⟨g, off, h4, h5, h6⟩
  · exact .inl h3
  · exact .inr ⟨g, off, h4, hI _ h5, fun i u hu => (World.cell?_of_block (hb g h5)).trans (h6 i u hu)⟩
theorem BytesV.rd {w : World} {I : Nat → Prop} {v : Value} {b : List UInt8} (h : BytesV w I v b) : ∃ a c, v = .slice a b.length c ∧ b.length ≤ c ∧ Rd w w.heap.size a (bs b) := by
  obtain ⟨a, c, h1, h2, h3⟩ := h
  refine ⟨a, c, h1, h2, ?_⟩
  rcases h3 with h3 | ⟨g, off, h4, h5, h6⟩
  · subst h3; exact .inl rfl
  · by_cases he : b = []
    · subst he; exact .inl rfl
    · have h0 : 0 < b.length := List.length_pos_iff.2 he
      have hlt := World.block_lt_of_cell? w _ (h6 0 _ (bs_get b 0 h0))
      exact .inr ⟨g, off, h4, hlt, h6⟩
theorem BytesV.own {w : World} {base : Nat} {v : Value} {b : List UInt8} (h : OwnB w base v b) (I : Nat → Prop) (hI : ∀ k, v.ownBlock = some k → I k) : BytesV w I v b := by
  rcases h.2 with ⟨hv, h0⟩ | ⟨g, off, cap, cur, lo, hi, hv, hb, hh, hs, hf, hc, hm, hx⟩
  · have : b = [] := List.eq_nil_of_length_eq_zero h0
    subst this
    exact ⟨none, 0, hv, Nat.le_refl _, .inl rfl⟩
  · refine ⟨_, cap, hv, hc, .inr ⟨g, off, rfl, hI g (by rw [hv]; rfl), fun i u hu => (cell_of_block hh _).trans (hx i u hu)⟩⟩
theorem OwnB.u8 {w : World} {base : Nat} {v : Value} {b : List UInt8} (h : OwnB w base v b) {k : Nat} (hk : v.ownBlock = some k) : isU8 w k := by
  rcases h.2 with ⟨hv, h0⟩ | ⟨g, off, cap, cur, lo, hi, hv, hb, hh, hs, hf, hc, hm, hx⟩
  · rw [hv] at hk; cases hk
  · rw [hv] at hk
    injection hk with hk
    subst hk
    exact ⟨_, _, hh⟩

/-- f, but x at i. -/
def setF {β : Type} (f : Int → β) (i : Int) (x : β) : Int → β := fun j => if j = i then x else f j
theorem setF_same {β : Type} (f : Int → β) (i : Int) (x : β) : setF f i x i = x := if_pos rfl
theorem setF_other {β : Type} (f : Int → β) {i j : Int} (h : j ≠ i) (x : β) : setF f i x j = f j := if_neg h

/-- Block b is a map from sectors to bytes; f: what each holds. -/
def FMap (w : World) (I : Nat → Prop) (b : Nat) (f : Int → List UInt8) : Prop :=
  ∃ l, MapI w b l ∧ ∀ i : Int, (aGet l i = none ∧ f i = zeros 64) ∨ ∃ v x, aGet l i = some v ∧ BytesV w I v x ∧ x.length ≤ 64 ∧ f i = full x
def BMap (w : World) (b : Nat) (f : Int → Bool) : Prop := ∃ l, MapI w b l ∧ ∀ i : Int, (aGet l i).getD (.bool false) = .bool (f i)
theorem FMap.keep {w w' : World} {I I' : Nat → Prop} {b : Nat} {f : Int → List UInt8} (h : FMap w I b f) (hb : w'.heap[b]? = w.heap[b]?) (hI : ∀ k, I k → I' k) (hk : ∀ k, I k → w'.heap[k]? = w.heap[k]?) : FMap w' I' b f := by
  obtain ⟨l, h1, h2⟩ := h
  refine ⟨l, h1.keep hb, fun i => ?_⟩
  rcases h2 i with h3 | ⟨v, x, h3, h4, h5, h6⟩
  · exact .inl h3
  · exact .inr ⟨v, x, h3, h4.keep hI hk, h5, h6⟩
theorem FMap.lt {w : World} {I : Nat → Prop} {b : Nat} {f : Int → List UInt8} (h : FMap w I b f) : b < w.heap.size := by
  obtain ⟨l, h1, _⟩ := h
  exact h1.lt
theorem BMap.keep {w w' : World} {b : Nat} {f : Int → Bool} (h : BMap w b f) (hb : w'.heap[b]? = w.heap[b]?) : BMap w' b f := by
  obtain ⟨l, h1, h2⟩ := h
  exact ⟨l, h1.keep hb, h2⟩
theorem BMap.lt {w : World} {b : Nat} {f : Int → Bool} (h : BMap w b f) : b < w.heap.size := by
  obtain ⟨l, h1, _⟩ := h
  exact h1.lt
theorem FMap.new (w : World) (I : Nat → Prop) : FMap (w.alloc (.map #[] 0)) I w.heap.size (fun _ => zeros 64) := ⟨[], MapIs.new w, fun i => .inl ⟨rfl, rfl⟩⟩
theorem BMap.new (w : World) : BMap (w.alloc (.map #[] 0)) w.heap.size (fun _ => false) := ⟨[], MapIs.new w, fun i => rfl⟩
theorem zero_bytes (w : World) : (zeroValue 30).run Try.prog w = .ok (.slice none 0 0) w := by kernel_rfl
theorem zero_bool (w : World) : (zeroValue 4).run Try.prog w = .ok (.bool false) w := by kernel_rfl
theorem FMap.look {w : World} {I : Nat → Prop} {b : Nat} {f : Int → List UInt8} (h : FMap w I b f) (i : Int) (h1 : -9223372036854775808 ≤ i) (h2 : i ≤ 9223372036854775807) :
    ∃ v x, (Instr.lookup 89 (.map (some b)) (.int .i64 i) false).run Try.prog w = .ok v w ∧ BytesV w I v x ∧ x.length ≤ 64 ∧ f i = full x := by
  obtain ⟨l, hl, hf⟩ := h
  have hr := hl.look int_keyed' mkI_inj (t := 89) (e := 30) Try.underlying89 zero_bytes i (keyI i h1 h2) false
  rcases hf i with ⟨h3, h4⟩ | ⟨v, x, h3, h4, h5, h6⟩
  · rw [h3] at hr
    exact ⟨_, [], hr, ⟨none, 0, rfl, Nat.le_refl _, .inl rfl⟩, by simp, by rw [h4, full_nil]⟩
  · rw [h3] at hr
    exact ⟨v, x, hr, h4, h5, h6⟩
theorem BMap.look {w : World} {b : Nat} {f : Int → Bool} (h : BMap w b f) (i : Int) (h1 : -9223372036854775808 ≤ i) (h2 : i ≤ 9223372036854775807) :
    (Instr.lookup 90 (.map (some b)) (.int .i64 i) false).run Try.prog w = .ok (.bool (f i)) w := by
  obtain ⟨l, hl, hf⟩ := h
  have hr := hl.look int_keyed' mkI_inj (t := 90) (e := 4) Try.underlying90 zero_bool i (keyI i h1 h2) false
  simp only [Bool.false_eq_true, if_false, hf i] at hr
  exact hr
theorem FMap.upd {w : World} {I I' : Nat → Prop} {b : Nat} {f : Int → List UInt8} (h : FMap w I b f) (hI : ∀ k, I k → I' k) (him : ∀ k, I' k → isU8 w k) (i : Int) (h1 : -9223372036854775808 ≤ i) (h2 : i ≤ 9223372036854775807) {v : Value} {x : List UInt8} (hv : BytesV w I' v x) (hx : x.length ≤ 64) :
    ∃ w', (Instr.mapUpdate 89 (.map (some b)) (.int .i64 i) v).run Try.prog w = .ok () w' ∧ FMap w' I' b (setF f i (full x)) ∧ w.grownBy w' (some b) := by
  obtain ⟨l, hl, hf⟩ := h
  have hne : ∀ k, I' k → k ≠ b := fun k hk e => by
    obtain ⟨cur, fr, h3⟩ := him k hk
    obtain ⟨es, ck, h4, _⟩ := hl
    rw [e, h4] at h3
    cases h3
  obtain ⟨w', hr, hl', hg⟩ := hl.upd int_keyed' mkI_inj (t := 89) (e := 30) Try.underlying89 i (keyI i h1 h2) v
  have hk : ∀ k, I' k → w'.heap[k]? = w.heap[k]? := fun k hk => hg.block k (him k hk).lt (fun e => hne k hk (by injection e))
  refine ⟨w', hr, ⟨_, hl', fun j => ?_⟩, hg⟩
  rw [aGet_put]
  by_cases hj : j = i
  · subst hj
    rw [if_pos rfl, setF_same]
    exact .inr ⟨v, x, rfl, hv.keep (fun _ h => h) hk, hx, rfl⟩
  · rw [if_neg hj, setF_other _ hj]
    rcases hf j with h3 | ⟨v, x, h3, h4, h5, h6⟩
    · exact .inl h3
    · exact .inr ⟨v, x, h3, h4.keep hI (fun k h => hk k (hI k h)), h5, h6⟩
theorem BMap.upd {w : World} {b : Nat} {f : Int → Bool} (h : BMap w b f) (i : Int) (h1 : -9223372036854775808 ≤ i) (h2 : i ≤ 9223372036854775807) (v : Bool) :
    ∃ w', (Instr.mapUpdate 90 (.map (some b)) (.int .i64 i) (.bool v)).run Try.prog w = .ok () w' ∧ BMap w' b (setF f i v) ∧ w.grownBy w' (some b) := by
  obtain ⟨l, hl, hf⟩ := h
  obtain ⟨w', hr, hl', hg⟩ := hl.upd int_keyed' mkI_inj (t := 90) (e := 4) Try.underlying90 i (keyI i h1 h2) (.bool v)
  refine ⟨w', hr, ⟨_, hl', fun j => ?_⟩, hg⟩
  rw [aGet_put]
  by_cases hj : j = i
  · subst hj; rw [if_pos rfl, setF_same]; rfl
  · rw [if_neg hj, setF_other _ hj]; exact hf j
theorem BMap.del {w : World} {b : Nat} {f : Int → Bool} (h : BMap w b f) (ty : TypeId) (i : Int) (h1 : -9223372036854775808 ≤ i) (h2 : i ≤ 9223372036854775807) :
    ∃ w', (Builtin.delete_ #[90, 3] ty #[.map (some b), .int .i64 i]).run Try.prog w = .ok (.tuple #[]) w' ∧ BMap w' b (setF f i false) ∧ w.grownBy w' (some b) := by
  obtain ⟨l, hl, hf⟩ := h
  obtain ⟨w', hr, hl', hg⟩ := hl.del int_keyed' mkI_inj (t := 90) (e := 4) (ty := ty) Try.underlying90 i (keyI i h1 h2)
  refine ⟨w', hr, ⟨_, hl', fun j => ?_⟩, hg⟩
  rw [aGet_del]
  by_cases hj : j = i
  · subst hj; rw [if_pos rfl, setF_same]; rfl
  · rw [if_neg hj, setF_other _ hj]; exact hf j

/-- The writes, as cells. -/
def LogC (w : World) (I : Nat → Prop) (l : List Wr) (cs : List Value) : Prop :=
  cs.length = l.length * 4 ∧ ∀ (i : Nat) (x : Wr), l[i]? = some x → cs[i * 4]? = some (.int .i64 x.i) ∧ (∃ v, cs[i * 4 + 1]? = some v ∧ BytesV w I v x.b) ∧ cs[i * 4 + 2]? = some (.bool x.sure) ∧ cs[i * 4 + 3]? = some (.int .i64 x.m) ∧ x.b.length ≤ 64
theorem LogC.keep {w w' : World} {I I' : Nat → Prop} {l : List Wr} {cs : List Value} (h : LogC w I l cs) (hI : ∀ k, I k → I' k) (hk : ∀ k, I k → w'.heap[k]? = w.heap[k]?) : LogC w' I' l cs := by
  refine ⟨h.1, fun i x hx => ?_⟩
  obtain ⟨h1, ⟨v, h2, h3⟩, h4, h5, h6⟩ := h.2 i x hx
  exact ⟨h1, ⟨v, h2, h3.keep hI hk⟩, h4, h5, h6⟩
theorem LogC.snoc {w : World} {I : Nat → Prop} {l : List Wr} {cs : List Value} (h : LogC w I l cs) (x : Wr) {v : Value} (hv : BytesV w I v x.b) (hx : x.b.length ≤ 64) : LogC w I (l ++ [x]) (cs ++ [.int .i64 x.i, v, .bool x.sure, .int .i64 x.m]) := by
  have hl := h.1
  refine ⟨by simp; omega, fun i y hy => ?_⟩
  by_cases hi : i < l.length
  · rw [List.getElem?_append_left hi] at hy
    rw [List.getElem?_append_left (by omega), List.getElem?_append_left (by omega), List.getElem?_append_left (by omega), List.getElem?_append_left (by omega)]
    exact h.2 i y hy
  · have hi2 : i = l.length := by
      have := (List.getElem?_eq_some_iff.1 hy).1
      simp at this
      omega
    subst hi2
    rw [List.getElem?_append_right (Nat.le_refl _), Nat.sub_self] at hy
    simp only [List.getElem?_cons_zero, Option.some.injEq] at hy
    subst hy
    rw [List.getElem?_append_right (by omega), List.getElem?_append_right (by omega), List.getElem?_append_right (by omega), List.getElem?_append_right (by omega), hl, Nat.sub_self, Nat.add_sub_cancel_left, Nat.add_sub_cancel_left, Nat.add_sub_cancel_left]
    exact ⟨rfl, ⟨v, rfl, hv⟩, rfl, rfl, hx⟩
def syncC (l : List (Nat × Int)) : List Value := l.flatMap fun p => [.int .i64 (p.1 : Int), .int .i64 p.2]
theorem syncC_length (l : List (Nat × Int)) : (syncC l).length = l.length * 2 := by
  induction l with
  | nil => rfl
  | cons p l ih => simp [syncC] at *; omega
theorem syncC_snoc (l : List (Nat × Int)) (p : Nat × Int) : syncC (l ++ [p]) = syncC l ++ [.int .i64 (p.1 : Int), .int .i64 p.2] := by simp [syncC]
theorem syncC_get (l : List (Nat × Int)) : ∀ (i : Nat) (p : Nat × Int), l[i]? = some p → (syncC l)[i * 2]? = some (.int .i64 (p.1 : Int)) ∧ (syncC l)[i * 2 + 1]? = some (.int .i64 p.2) := by
  induction l with
  | nil => intro i p h; simp at h
  | cons q l ih =>
    intro i p h
    have e : syncC (q :: l) = .int .i64 (q.1 : Int) :: .int .i64 q.2 :: syncC l := rfl
    cases i with
    | zero => simp at h; subst h; simp [syncC]
    | succ i =>
      rw [e, show (i + 1) * 2 = i * 2 + 1 + 1 by omega]
      simpa using ih i p (by simpa using h)

/-- Where a device lies. -/
structure Lay where
  g : Nat
  fm : Nat
  nm : Nat
  bm : Nat
  clk : Nat
  vl : Value
  vs : Value
/-- The blocks that its calls turn. -/
def Lay.M (L : Lay) (k : Nat) : Prop := k = L.g ∨ k = L.fm ∨ k = L.nm ∨ k = L.bm ∨ L.vl.ownBlock = some k ∨ L.vs.ownBlock = some k
def Clk (w : World) (k : Nat) (c : Int) : Prop := Blk w k 3 [.int .i64 c]
def devC (L : Lay) (D : Dv) : List Value := [.int .i64 (D.n : Int), .map (some L.fm), .map (some L.nm), .map (some L.bm), .bool D.dead, L.vl, L.vs, .pointer (some ⟨L.clk, 0, none⟩)]

/-- The device D lies there, its bytes in blocks of I. -/
structure DevAt (w : World) (L : Lay) (I : Nat → Prop) (D : Dv) : Prop where
  blk : Blk w L.g 95 (devC L D)
  first : FMap w I L.fm D.first
  now : FMap w I L.nm D.now
  bad : BMap w L.bm D.bad
  log : ∃ cs, OwnG w 0 102 4 L.vl D.log.length cs ∧ LogC w I D.log cs
  syncs : OwnG w 0 99 2 L.vs D.syncs.length (syncC D.syncs)
  imm : ∀ k, I k → isU8 w k
  d1 : L.fm ≠ L.nm
  d2 : L.fm ≠ L.bm
  d3 : L.nm ≠ L.bm

section
variable {w w' : World} {L : Lay} {I : Nat → Prop} {D : Dv}
theorem OwnG.kind {base size n : Nat} {e : TypeId} {v : Value} {xs : List Value} (h : OwnG w base e size v n xs) {k : Nat} (hk : v.ownBlock = some k) : ∃ cur fr, w.heap[k]? = some (.cells cur e fr) := by
  rcases h.2 with ⟨hv, h0⟩ | ⟨g, off, cap, cur, lo, hi, hv, hb, hh, hs, hf, hc, hm, hx⟩
  · rw [hv] at hk; cases hk
  · rw [hv] at hk
    injection hk with hk
    subst hk
    exact ⟨_, _, hh⟩
theorem DevAt.kindM (h : DevAt w L I D) {k : Nat} (hk : L.M k) : (∃ es ck, w.heap[k]? = some (.map es ck)) ∨ ∃ cur t fr, w.heap[k]? = some (.cells cur t fr) ∧ (t = 95 ∨ t = 102 ∨ t = 99) := by
  rcases hk with rfl | rfl | rfl | rfl | hk | hk
  · exact .inr ⟨_, _, _, h.blk, .inl rfl⟩
  · obtain ⟨l, ⟨es, ck, h1, _⟩, _⟩ := h.first; exact .inl ⟨es, ck, h1⟩
  · obtain ⟨l, ⟨es, ck, h1, _⟩, _⟩ := h.now; exact .inl ⟨es, ck, h1⟩
  · obtain ⟨l, ⟨es, ck, h1, _⟩, _⟩ := h.bad; exact .inl ⟨es, ck, h1⟩
  · obtain ⟨cs, h1, _⟩ := h.log
    obtain ⟨cur, fr, h2⟩ := h1.kind hk
    exact .inr ⟨_, _, _, h2, .inr (.inl rfl)⟩
  · obtain ⟨cur, fr, h2⟩ := h.syncs.kind hk
    exact .inr ⟨_, _, _, h2, .inr (.inr rfl)⟩
theorem DevAt.notM (h : DevAt w L I D) {k : Nat} {cur : Array Value} {t : TypeId} {fr : Nat × Nat} (hk : w.heap[k]? = some (.cells cur t fr)) (ht : t ≠ 95 ∧ t ≠ 102 ∧ t ≠ 99) : ¬ L.M k := by
  intro hm
  rcases h.kindM hm with ⟨es, ck, h1⟩ | ⟨cur', t', fr', h1, h2⟩
  · rw [hk] at h1; cases h1
  · rw [hk] at h1
    injection h1 with h1
    injection h1 with _ h1 _
    subst h1
    rcases h2 with h2 | h2 | h2
    · exact ht.1 h2
    · exact ht.2.1 h2
    · exact ht.2.2 h2
theorem DevAt.ltM (h : DevAt w L I D) {k : Nat} (hk : L.M k) : k < w.heap.size := by
  rcases h.kindM hk with ⟨es, ck, h1⟩ | ⟨cur', t', fr', h1, h2⟩
  · exact lt_of_heap h1
  · exact lt_of_heap h1
theorem DevAt.ltI (h : DevAt w L I D) {k : Nat} (hk : I k) : k < w.heap.size := (h.imm k hk).lt
theorem DevAt.I_notM (h : DevAt w L I D) {k : Nat} (hk : I k) : ¬ L.M k := by
  obtain ⟨cur, fr, h1⟩ := h.imm k hk
  exact h.notM h1 (by decide)
theorem DevAt.clk_notM (h : DevAt w L I D) {c : Int} {q : Nat} (hc : Clk w q c) : ¬ L.M q := h.notM hc (by decide)
theorem DevAt.clk_notI (h : DevAt w L I D) {c : Int} {q : Nat} (hc : Clk w q c) : ¬ I q := fun hI => by
  obtain ⟨cur, fr, h1⟩ := h.imm _ hI
  have h2 : w.heap[q]? = some (.cells _ _ _) := hc
  rw [h2] at h1
  injection h1 with h1
  injection h1 with _ h1 _
  exact absurd h1 (by decide)
theorem DevAt.keepI {I' : Nat → Prop} (h : DevAt w L I D) (hM : ∀ k, L.M k → w'.heap[k]? = w.heap[k]?) (hI : ∀ k, I k → w'.heap[k]? = w.heap[k]?) (hi : ∀ k, I k → I' k) (him : ∀ k, I' k → isU8 w' k) : DevAt w' L I' D := by
  obtain ⟨cs, h1, h2⟩ := h.log
  exact ⟨h.blk.keep (hM _ (.inl rfl)), h.first.keep (hM _ (.inr (.inl rfl))) hi hI, h.now.keep (hM _ (.inr (.inr (.inl rfl)))) hi hI, h.bad.keep (hM _ (.inr (.inr (.inr (.inl rfl))))),
    ⟨cs, h1.keep fun k hk _ => hM k (.inr (.inr (.inr (.inr (.inl hk))))), h2.keep hi hI⟩, h.syncs.keep fun k hk _ => hM k (.inr (.inr (.inr (.inr (.inr hk))))), him, h.d1, h.d2, h.d3⟩
theorem DevAt.keep (h : DevAt w L I D) (hM : ∀ k, L.M k → w'.heap[k]? = w.heap[k]?) (hI : ∀ k, I k → w'.heap[k]? = w.heap[k]?) : DevAt w' L I D :=
  h.keepI hM hI (fun _ h => h) fun k hk => by
    obtain ⟨cur, fr, h1⟩ := h.imm k hk
    exact ⟨cur, fr, (hI k hk).trans h1⟩
theorem DevAt.chg {S : Nat → Prop} (h : DevAt w L I D) (hc : Chg S w w') (hS : ∀ k, S k → ¬ L.M k ∧ ¬ I k) : DevAt w' L I D :=
  h.keep (fun k hk => hc.block k (h.ltM hk) fun e => (hS k e).1 hk) (fun k hk => hc.block k (h.ltI hk) fun e => (hS k e).2 hk)
theorem DevAt.below (h : DevAt w L I D) (hb : Below w.heap.size w w') : DevAt w' L I D := h.keep (fun k hk => hb.block k (h.ltM hk)) (fun k hk => hb.block k (h.ltI hk))
theorem DevAt.cell (h : DevAt w L I D) (i : Nat) (v : Value) (hi : (devC L D)[i]? = some v) : w.cell? ⟨L.g, i, none⟩ = some v := h.blk.cell i v hi
theorem DevAt.more {I' : Nat → Prop} (h : DevAt w L I D) (hi : ∀ k, I k → I' k) (him : ∀ k, I' k → isU8 w k) : DevAt w L I' D := h.keepI (fun _ _ => rfl) (fun _ _ => rfl) hi him
end
end Go.Proofs.Ythenpkimcjdkcaa
