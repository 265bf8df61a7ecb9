/- devices: plain facts, and the laws' arguments -/
import Derived.Test.YthenpkimcjdkcaaDvA
namespace Go.Proofs.Ythenpkimcjdkcaa
set_option linter.unusedVariables false
set_option linter.unusedSimpArgs false
open Go.RowKit

/-- What the writes make of the first sectors. -/
def applyL (l : List Wr) (f : Int → List UInt8) : Int → List UInt8 := l.foldl (fun f x => setF f x.i (full x.b)) f
theorem applyL_snoc (l : List Wr) (x : Wr) (f : Int → List UInt8) : applyL (l ++ [x]) f = setF (applyL l f) x.i (full x.b) := by simp [applyL]
theorem applyL_other (j : Int) : ∀ (l : List Wr) (f : Int → List UInt8), (∀ x ∈ l, x.i ≠ j) → applyL l f j = f j
  | [], f, _ => rfl
  | x :: l, f, h => by
    show applyL l (setF f x.i (full x.b)) j = _
    rw [applyL_other j l _ (fun y hy => h y (List.mem_cons_of_mem _ hy)), setF_other _ (fun e => h x List.mem_cons_self e.symm)]

/-- What a script leaves: a device of n sectors. -/
structure Inv (n : Nat) (D : Dv) (k : Int) (c : Nat) : Prop where
  nn : D.n = n
  dead : D.dead = false
  bad : ∀ i, D.bad i = false
  log : D.log.length ≤ c
  syncs : D.syncs.length ≤ c
  k0 : 0 ≤ k
  k1 : k ≤ c
  int : ∀ x ∈ D.log, 0 ≤ x.i ∧ x.i < n ∧ x.b.length ≤ 64
  safe : ∀ p ∈ D.syncs, p.1 ≤ D.log.length
  now : D.now = applyL D.log D.first
  first : D.first = fun _ => zeros 64
theorem Inv.new (n : Nat) : Inv n (dv0 n) 0 0 :=
  ⟨rfl, rfl, fun _ => rfl, Nat.le_refl _, Nat.le_refl _, Int.le_refl _, Int.le_refl _, fun x h => by simp [dv0] at h, fun x h => by simp [dv0] at h, rfl, rfl⟩
theorem Inv.more {n : Nat} {D : Dv} {k : Int} {c c' : Nat} (h : Inv n D k c) (hc : c ≤ c') : Inv n D k c' :=
  ⟨h.nn, h.dead, h.bad, Nat.le_trans h.log hc, Nat.le_trans h.syncs hc, h.k0, by have := h.k1; omega, h.int, h.safe, h.now, h.first⟩
theorem Inv.sound {n : Nat} {D : Dv} {k : Int} {c : Nat} (h : Inv n D k c) (h1 : 1 ≤ n) (h2 : n ≤ 2048) (hc : c ≤ 1000000) : Sound D :=
  ⟨by rw [h.nn]; exact h1, by rw [h.nn]; exact h2, Nat.le_trans h.log hc, Nat.le_trans h.syncs hc, fun x hx => by have := h.int x hx; rw [h.nn]; exact ⟨this.1, this.2.1⟩, h.safe⟩
theorem Inv.fault {n : Nat} {D : Dv} {k : Int} {c : Nat} (h : Inv n D k c) (i : Int) : faultN D i = if i < 0 ∨ (n : Int) ≤ i then 71 else 0 := by
  rw [faultN, if_neg (by rw [h.dead]; simp), h.nn]
theorem setF_bad {f : Int → Bool} (h : ∀ i, f i = false) (i : Int) : setF f i false = f := by
  funext j
  by_cases hj : j = i
  · subst hj; rw [setF_same, h]
  · rw [setF_other _ hj]
theorem Inv.put {n : Nat} {D : Dv} {k : Int} {c : Nat} (h : Inv n D k c) (i : Int) (h1 : 0 ≤ i) (h2 : i < n) (b : List UInt8) (hb : b.length ≤ 64) (s : Bool) : Inv n (D.put i b s (k + 1)) (k + 1) (c + 1) := by
  refine ⟨h.nn, h.dead, h.bad, ?_, Nat.le_succ_of_le h.syncs, by have := h.k0; omega, by have := h.k1; omega, ?_, ?_, ?_, h.first⟩
  · simp only [Dv.put, List.length_append, List.length_cons, List.length_nil]; have := h.log; omega
  · intro x hx
    simp only [Dv.put, List.mem_append, List.mem_singleton] at hx
    rcases hx with hx | rfl
    · exact h.int x hx
    · exact ⟨h1, h2, hb⟩
  · intro p hp
    simp only [Dv.put, List.length_append]
    have := h.safe p hp
    omega
  · simp only [Dv.put]
    rw [applyL_snoc, h.now]
theorem writeR_ok {n : Nat} {D : Dv} {k : Int} {c : Nat} (h : Inv n D k c) (i : Int) (b : List UInt8) (h1 : 0 ≤ i) (h2 : i < n) (hb : b.length ≤ 64) : writeR D i b k = (0, D.put i b false (k + 1), k + 1) := by
  have hf : faultN D i = 0 := by rw [h.fault, if_neg (by omega)]
  rw [writeR, if_neg (by simp [hf]), if_neg (by omega)]
  have : setF D.bad i false = D.bad := setF_bad h.bad i
  rw [this]; rfl
theorem writeR_no {n : Nat} {D : Dv} {k : Int} {c : Nat} (h : Inv n D k c) (i : Int) (b : List UInt8) (h1 : ¬ (0 ≤ i ∧ i < n ∧ b.length ≤ 64)) : (writeR D i b k).1 ≠ 0 ∧ (writeR D i b k).2 = (D, k) := by
  rw [writeR]
  by_cases hf : faultN D i ≠ 0
  · rw [if_pos hf]; exact ⟨hf, rfl⟩
  · rw [if_neg hf]
    have hf0 : faultN D i = 0 := by simpa using hf
    rw [h.fault] at hf0
    have : ¬ (i < 0 ∨ (n : Int) ≤ i) := fun e => by rw [if_pos e] at hf0; cases hf0
    rw [if_pos (by omega)]
    exact ⟨by simp, rfl⟩
theorem Inv.write {n : Nat} {D : Dv} {k : Int} {c : Nat} (h : Inv n D k c) (i : Int) (b : List UInt8) : Inv n (writeR D i b k).2.1 (writeR D i b k).2.2 (c + 1) := by
  by_cases h1 : 0 ≤ i ∧ i < n ∧ b.length ≤ 64
  · rw [writeR_ok h i b h1.1 h1.2.1 h1.2.2]
    exact h.put i h1.1 h1.2.1 b h1.2.2 false
  · have := (writeR_no h i b h1).2
    rw [this]
    exact h.more (Nat.le_succ _)
theorem syncR_ok {n : Nat} {D : Dv} {k : Int} {c : Nat} (h : Inv n D k c) (h1 : 1 ≤ n) (m : Int) : syncR D m = (0, { D with syncs := D.syncs ++ [(D.log.length, m)] }) := by
  rw [syncR, if_neg (by rw [h.dead]; simp), if_neg (by rw [h.nn]; omega)]
theorem Inv.sync {n : Nat} {D : Dv} {k : Int} {c : Nat} (h : Inv n D k c) (h1 : 1 ≤ n) (m : Int) : Inv n (syncR D m).2 k (c + 1) := by
  rw [syncR_ok h h1]
  refine ⟨h.nn, h.dead, h.bad, Nat.le_succ_of_le h.log, ?_, h.k0, by have := h.k1; omega, h.int, ?_, h.now, h.first⟩
  · simp only [List.length_append, List.length_cons, List.length_nil]; have := h.syncs; omega
  · intro p hp
    simp only [List.mem_append, List.mem_singleton] at hp
    rcases hp with hp | rfl
    · exact h.safe p hp
    · exact Nat.le_refl _

/-- A sector whose last write is sure. -/
theorem leftF_other (safe : Nat) (j : Int) : ∀ (l : List Wr) (i : Nat) (ks : List Bool) (f : Int → List UInt8), (∀ x ∈ l, x.i ≠ j) → leftF safe l i ks f j = f j
  | [], _, _, f, _ => by rw [leftF]
  | x :: l, i, ks, f, h => by
    have hx : j ≠ x.i := fun e => h x List.mem_cons_self e.symm
    have hl : ∀ y ∈ l, y.i ≠ j := fun y hy => h y (List.mem_cons_of_mem _ hy)
    by_cases hk : i < safe ∨ x.sure = true
    · rw [leftF_keep hk, leftF_other safe j l _ _ _ hl, setF_other _ hx]
    · cases ks with
      | nil => rw [leftF_nil hk, leftF_other safe j l _ _ _ hl]
      | cons k ks =>
        rw [leftF_cons hk, leftF_other safe j l _ _ _ hl]
        split
        · exact setF_other _ hx _
        · rfl
theorem leftF_sure (safe : Nat) (x : Wr) (hx : x.sure = true) (l2 : List Wr) (h2 : ∀ y ∈ l2, y.i ≠ x.i) : ∀ (l1 : List Wr) (i : Nat) (ks : List Bool) (f : Int → List UInt8), leftF safe (l1 ++ x :: l2) i ks f x.i = full x.b
  | [], i, ks, f => by
    rw [List.nil_append, leftF_keep (.inr hx), leftF_other safe x.i l2 _ _ _ h2, setF_same]
  | y :: l1, i, ks, f => by
    rw [List.cons_append]
    by_cases hk : i < safe ∨ y.sure = true
    · rw [leftF_keep hk]; exact leftF_sure safe x hx l2 h2 l1 _ _ _
    · cases ks with
      | nil => rw [leftF_nil hk]; exact leftF_sure safe x hx l2 h2 l1 _ _ _
      | cons k ks => rw [leftF_cons hk]; exact leftF_sure safe x hx l2 h2 l1 _ _ _

/-! ### the laws' arguments -/
abbrev DOpTy : Ty := .slice (.st (.pair (.int .i64) (.pair (.int .i64) (.pair .bytes (.pair (.slice .bool) .unit)))))
abbrev BoolsTy : Ty := .slice .bool
theorem wf64 {z : Int} (h : (Lit.int .i64 z).wf = true) : -9223372036854775808 ≤ z ∧ z ≤ 9223372036854775807 := by
  simp only [Lit.wf, Bool.and_eq_true, decide_eq_true_eq] at h
  have h1 : IntKind.min .i64 = -9223372036854775808 := by decide
  have h2 : IntKind.max .i64 = 9223372036854775807 := by decide
  rw [h1, h2] at h
  exact h
theorem dops_at {w : World} {a : Option Addr} {n c : Nat} {ls : DOpTy.den} (h : DOpTy.reads w [.slice a n c] ls) (i : Nat) (hi : i < n) :
    ∃ b off kd ii ab nb cb bl, a = some ⟨b, off, none⟩ ∧ b < w.heap.size ∧ w.cell? ⟨b, off + i * 4, none⟩ = some (.int .i64 kd) ∧ w.cell? ⟨b, off + i * 4 + 1, none⟩ = some (.int .i64 ii) ∧ w.cell? ⟨b, off + i * 4 + 2, none⟩ = some (.slice ab nb cb) ∧ BytesIn w ab nb cb bl ∧
      -9223372036854775808 ≤ ii ∧ ii ≤ 9223372036854775807 := by
  obtain ⟨a', n', c', e, h2, _, _, h5⟩ := h
  simp only [List.cons.injEq, Value.slice.injEq, and_true] at e
  obtain ⟨rfl, rfl, rfl⟩ := e
  have hlt : i < List.length ls := Nat.lt_of_lt_of_eq hi h2.symm
  rcases h5 with h5 | ⟨b, off, ha, hb, hat⟩
  · omega
  · obtain ⟨cells, hcl, hcell, hB⟩ := hat i _ (List.getElem?_eq_getElem hlt)
    obtain ⟨cs1, hc1, _, hB⟩ := reads_int hB
    obtain ⟨cs2, hc2, hwf, hB⟩ := reads_int hB
    obtain ⟨ab, nb, cb, cs3, hc3, hD, hB⟩ := reads_bytes hB
    subst hc3; subst hc2; subst hc1
    have q0 := hcell 0 _ rfl
    have q1 := hcell 1 _ rfl
    have q2 := hcell 2 _ rfl
    have hw := wf64 hwf
    exact ⟨b, off, _, _, ab, nb, cb, _, ha, hb, by simpa [Ty.size] using q0, by simpa [Ty.size] using q1, by simpa [Ty.size] using q2, hD, hw.1, hw.2⟩
theorem dsl_len {t : Ty} {w : World} {a : Option Addr} {n c : Nat} {x : (Ty.slice t).den} (h : Ty.reads (.slice t) w [.slice a n c] x) : n ≤ c ∧ c ≤ 9223372036854775807 := by
  obtain ⟨a', n', c', e, h2, h3, h4, _⟩ := h
  simp only [List.cons.injEq, Value.slice.injEq, and_true] at e
  obtain ⟨rfl, rfl, rfl⟩ := e
  exact ⟨h3, h4⟩
theorem dsl_arg {t : Ty} {w : World} {a : Option Addr} {n c : Nat} {x : (Ty.slice t).den} (h : Ty.reads (.slice t) w (Value.slice a n c).cells.toList x) : Ty.reads (.slice t) w [.slice a n c] x := h
theorem bools_in' {w : World} {a : Option Addr} {n c : Nat} (x : List Bool) (h : BoolsTy.reads w [.slice a n c] x) : ∃ l : List Bool, l.length = n ∧ Rd w w.heap.size a (bls l) := by
  obtain ⟨a', n', c', e, h2, _, _, h5⟩ := h
  simp only [List.cons.injEq, Value.slice.injEq, and_true] at e
  obtain ⟨rfl, rfl, rfl⟩ := e
  refine ⟨x, h2, ?_⟩
  rcases h5 with h5 | ⟨b, off, ha, hb, hat⟩
  · refine .inl ?_
    have : x = [] := List.eq_nil_of_length_eq_zero (h2.trans h5)
    rw [this]; rfl
  · refine .inr ⟨b, off, ha, hb, fun i u hu => ?_⟩
    rw [bls, List.getElem?_map] at hu
    obtain ⟨y, hy, rfl⟩ := Option.map_eq_some_iff.1 hu
    obtain ⟨cells, hcl, hcell, hB⟩ := hat i y hy
    have hB' : cells = [.bool y] := hB
    subst hB'
    have := hcell 0 _ rfl
    simpa [Ty.size] using this
theorem bools_in {w : World} {a : Option Addr} {n c : Nat} {x : BoolsTy.den} (h : BoolsTy.reads w [.slice a n c] x) : ∃ l : List Bool, l.length = n ∧ Rd w w.heap.size a (bls l) := bools_in' x h
end Go.Proofs.Ythenpkimcjdkcaa
