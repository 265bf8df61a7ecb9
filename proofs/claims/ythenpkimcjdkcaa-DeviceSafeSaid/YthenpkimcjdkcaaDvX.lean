/- devices: an array of rows of slices of bytes; what a loss of power keeps -/
import Derived.Test.YthenpkimcjdkcaaDvG
namespace Go.Proofs.Ythenpkimcjdkcaa
set_option linter.unusedVariables false
set_option linter.unusedSimpArgs false
open Go.RowKit

theorem Chg.grown {S : Nat → Prop} {w w' : World} {row : Option Nat} (h : w.grownBy w' row) (hr : ∀ k, row = some k → S k) : Chg S w w' := Chg.of_grown h hr
/-- A row: a slice of slices of bytes, in a block of its own. -/
def RowAt (w : World) (base : Nat) (v : Value) (r : List (List UInt8)) : Prop := ∃ cs, OwnG w base 30 1 v r.length cs ∧ SlC w cs r
def isRow (w : World) (k : Nat) : Prop := ∃ cur fr, w.heap[k]? = some (.cells cur 30 fr)
theorem RowAt.kind {w : World} {base : Nat} {v : Value} {r : List (List UInt8)} (h : RowAt w base v r) {k : Nat} (hk : v.ownBlock = some k) : isRow w k := by
  obtain ⟨cs, h1, _⟩ := h
  exact h1.kind hk
theorem RowAt.chg {S : Nat → Prop} {w w' : World} {base : Nat} {v : Value} {r : List (List UInt8)} (h : RowAt w base v r) (hc : Chg S w w') (hu : NoU8 S w) (hs : ∀ k, v.ownBlock = some k → ¬ S k) : RowAt w' base v r := by
  obtain ⟨cs, h1, h2⟩ := h
  exact ⟨cs, h1.keep fun k hk hlt => hc.block k hlt (hs k hk), h2.chg hc hu⟩
structure RowsAt (w : World) (base gm : Nat) (vs : List Value) (R : List (List (List UInt8))) : Prop where
  blk : Blk w gm 38 vs
  len : vs.length = R.length
  row : ∀ (j : Nat) (v : Value) (r : List (List UInt8)), vs[j]? = some v → R[j]? = some r → RowAt w base v r
  apart : ∀ (i j : Nat) (v u : Value) (k : Nat), i ≠ j → vs[i]? = some v → vs[j]? = some u → v.ownBlock = some k → u.ownBlock ≠ some k
theorem RowsAt.kind {w : World} {base gm : Nat} {vs : List Value} {R : List (List (List UInt8))} (h : RowsAt w base gm vs R) {j : Nat} {v : Value} (hj : vs[j]? = some v) {k : Nat} (hk : v.ownBlock = some k) : isRow w k := by
  have hlt : j < R.length := by rw [← h.len]; exact (List.getElem?_eq_some_iff.1 hj).1
  exact (h.row j v _ hj (List.getElem?_eq_getElem hlt)).kind hk
theorem RowsAt.chg {S : Nat → Prop} {w w' : World} {base gm : Nat} {vs : List Value} {R : List (List (List UInt8))} (h : RowsAt w base gm vs R) (hc : Chg S w w') (hu : NoU8 S w) (hr : ∀ k, S k → ¬ isRow w k) (hg : ¬ S gm) : RowsAt w' base gm vs R :=
  ⟨h.blk.keep (hc.block _ h.blk.lt hg), h.len, fun j v r hj hr' => (h.row j v r hj hr').chg hc hu fun k hk hS => hr k hS (h.kind hj hk), h.apart⟩
theorem RowsAt.below {w w' : World} {base gm : Nat} {vs : List Value} {R : List (List (List UInt8))} (h : RowsAt w base gm vs R) (hb : Below w.heap.size w w') : RowsAt w' base gm vs R :=
  h.chg (S := fun _ => False) (Chg.of_below hb) (fun _ h => h.elim) (fun _ h => h.elim) (fun h => h)
theorem RowsAt.new (w : World) (base n : Nat) : RowsAt (w.alloc (.cells (List.replicate n (Value.slice none 0 0)).toArray 38)) base w.heap.size (List.replicate n (Value.slice none 0 0)) (List.replicate n []) := by
  refine ⟨Blk.new w _ _, by simp, fun j v r hj hr => ?_, fun i j v u k _ hi hj hk => ?_⟩
  · have hv := List.mem_of_getElem? hj
    have hr' := List.mem_of_getElem? hr
    rw [(List.mem_replicate.1 hv).2, (List.mem_replicate.1 hr').2]
    exact ⟨[], OwnG.nil _ _ _ _, rfl, fun j b hb => by simp at hb⟩
  · rw [(List.mem_replicate.1 (List.mem_of_getElem? hi)).2] at hk
    cases hk
/-- Behind an append to a row, and its store. -/
theorem RowsAt.push {w w' : World} {base gm : Nat} {vs : List Value} {R : List (List (List UInt8))} (h : RowsAt w base gm vs R) {i : Nat} {v v' x : Value} {r : List (List UInt8)} {cs : List Value} {b : List UInt8} (hi : vs[i]? = some v) (hr : R[i]? = some r)
    (hsl : SlC w cs r) (hx : BytesU w x b) (hown : OwnG w' base 30 1 v' (r.length + 1) (cs ++ [x])) (hg : w.grownBy w' v.ownBlock) (hat : v'.ownBlock = v.ownBlock ∨ v'.ownBlock = some w.heap.size) :
    RowsAt (w'.setCell ⟨gm, i, none⟩ v') base gm (vs.set i v') (R.set i (r ++ [b])) := by
  have hkn : ∀ k, v.ownBlock = some k → isRow w k := fun k hk => h.kind hi hk
  have hc : Chg (fun k => v.ownBlock = some k) w w' := Chg.of_grown hg fun k hk => hk
  have hu : NoU8 (fun k => v.ownBlock = some k) w := fun k hk ⟨cur, fr, h3⟩ => by
    obtain ⟨cur', fr', h4⟩ := hkn k hk
    rw [h4] at h3
    injection h3 with h3
    injection h3 with _ h3 _
    exact absurd h3 (by decide)
  have hgm : v.ownBlock ≠ some gm := fun e => by
    obtain ⟨cur', fr', h4⟩ := hkn gm e
    exact ne_cells h4 h.blk (by decide) rfl
  have hb' : Blk w' gm 38 vs := h.blk.keep (hc.block _ h.blk.lt hgm)
  have hc2 : Chg (fun k => k = gm) w' (w'.setCell ⟨gm, i, none⟩ v') := Chg.setCell w' _ _ rfl
  have hu2 : NoU8 (fun k => k = gm) w' := fun k hk ⟨cur, fr, h3⟩ => by
    subst hk
    exact ne_cells hb' h3 (by decide) rfl
  have hn2 : ∀ u k, (∃ n cs, OwnG w' base 30 1 u n cs) → u.ownBlock = some k → ¬ k = gm := fun u k ⟨n, cs, ho⟩ hk e => by
    subst e
    obtain ⟨cur, fr, h3⟩ := ho.kind hk
    exact ne_cells h3 hb' (by decide) rfl
  have hlt : i < vs.length := (List.getElem?_eq_some_iff.1 hi).1
  refine ⟨hb'.set i v', by simp [h.len], fun j u s hj hs => ?_, fun p j u z k hpj hp hj hk => ?_⟩
  · by_cases e : i = j
    · subst e
      rw [List.getElem?_set_self hlt] at hj
      rw [List.getElem?_set_self (by rw [← h.len]; exact hlt)] at hs
      injection hj with hj
      injection hs with hs
      subst hj
      subst hs
      refine RowAt.chg (w := w') ⟨cs ++ [x], by rw [List.length_append]; exact hown, ?_⟩ hc2 hu2 fun k hk => hn2 v' k ⟨_, _, hown⟩ hk
      have h1 := hsl.chg hc hu
      have h2 := hx.chg hc hu
      refine ⟨by simp [h1.1], fun j c hj => ?_⟩
      by_cases hjr : j < r.length
      · rw [List.getElem?_append_left hjr] at hj
        rw [List.getElem?_append_left (by rw [h1.1]; exact hjr)]
        exact h1.2 j c hj
      · rw [List.getElem?_append_right (by omega)] at hj
        have h0 : j - r.length = 0 := by
          have := (List.getElem?_eq_some_iff.1 hj).1
          simp only [List.length_cons, List.length_nil] at this
          omega
        rw [h0] at hj
        rw [List.getElem?_append_right (by rw [h1.1]; omega), h1.1, h0]
        simp only [List.getElem?_cons_zero, Option.some.injEq] at hj ⊢
        subst hj
        exact ⟨x, rfl, h2⟩
    · rw [List.getElem?_set_ne e] at hj hs
      have h1 := (h.row j u s hj hs).chg hc hu fun k hk hk2 => h.apart i j v u k e hi hj hk2 hk
      obtain ⟨cs1, ho1, _⟩ := id h1
      exact h1.chg hc2 hu2 fun k hk => hn2 u k ⟨_, _, ho1⟩ hk
  · have hfresh : ∀ (j : Nat) (u : Value) (k : Nat), vs[j]? = some u → u.ownBlock = some k → k < w.heap.size := fun j u k hj hk => by
      obtain ⟨cur, fr, h3⟩ := h.kind hj hk
      exact lt_of_heap h3
    by_cases e1 : i = p
    · subst e1
      rw [List.getElem?_set_self hlt] at hp
      rw [List.getElem?_set_ne hpj] at hj
      injection hp with hp
      subst hp
      rcases hat with ha | ha
      · rw [ha] at hk
        exact h.apart i j v z k hpj hi hj hk
      · rw [ha] at hk
        injection hk with hk
        intro hz
        have := hfresh j z k hj hz
        omega
    · rw [List.getElem?_set_ne e1] at hp
      by_cases e2 : i = j
      · subst e2
        rw [List.getElem?_set_self hlt] at hj
        injection hj with hj
        subst hj
        rcases hat with ha | ha
        · rw [ha]; exact h.apart p i u v k hpj hp hi hk
        · rw [ha]
          intro hz
          injection hz with hz
          have := hfresh p u k hp hk
          omega
      · rw [List.getElem?_set_ne e2] at hj
        exact h.apart p j u z k hpj hp hj hk
theorem RowsAt.noU8 {w : World} {base gm : Nat} {vs : List Value} {R : List (List (List UInt8))} (h : RowsAt w base gm vs R) : ¬ isU8 w gm := by
  rintro ⟨cur, fr, h3⟩
  exact ne_cells h3 h.blk (by decide) rfl
theorem DevAt.noRow {w : World} {L : Lay} {I : Nat → Prop} {D : Dv} {k : Int} (h : DevAt w L I D) (hk : Clk w L.clk k) : ∀ q, L.M q ∨ q = L.clk → ¬ isRow w q := by
  rintro q hq ⟨cur, fr, h1⟩
  rcases hq with hq | hq
  · exact h.notM h1 (by decide) hq
  · subst hq
    exact ne_cells h1 hk (by decide) rfl
theorem RowsAt.notM {w : World} {base gm : Nat} {vs : List Value} {R : List (List (List UInt8))} (h : RowsAt w base gm vs R) {L : Lay} {I : Nat → Prop} {D : Dv} {k : Int} (hd : DevAt w L I D) (hk : Clk w L.clk k) : ¬ (L.M gm ∨ gm = L.clk) := by
  rintro (hg | hg)
  · exact hd.notM h.blk (by decide) hg
  · exact ne_cells h.blk hk (by decide) hg

/-! ### what is kept -/
theorem leftF_mem (safe : Nat) (j : Int) : ∀ (l : List Wr) (i : Nat) (ks : List Bool) (f : Int → List UInt8), leftF safe l i ks f j = f j ∨ ∃ x ∈ l, x.i = j ∧ leftF safe l i ks f j = full x.b
  | [], i, ks, f => .inl (by rw [leftF])
  | x :: l, i, ks, f => by
    have hmore : ∀ (i' : Nat) (ks' : List Bool) (g : Int → List UInt8), (g j = f j ∨ (x.i = j ∧ g j = full x.b)) → (leftF safe l i' ks' g j = f j ∨ ∃ y ∈ x :: l, y.i = j ∧ leftF safe l i' ks' g j = full y.b) := by
      intro i' ks' g hg
      rcases leftF_mem safe j l i' ks' g with h | ⟨y, hy, h1, h2⟩
      · rcases hg with hg | ⟨hg1, hg2⟩
        · exact .inl (h.trans hg)
        · exact .inr ⟨x, List.mem_cons_self, hg1, h.trans hg2⟩
      · exact .inr ⟨y, List.mem_cons_of_mem _ hy, h1, h2⟩
    have hset : setF f x.i (full x.b) j = f j ∨ (x.i = j ∧ setF f x.i (full x.b) j = full x.b) := by
      by_cases e : x.i = j
      · subst e; exact .inr ⟨rfl, setF_same _ _ _⟩
      · exact .inl (setF_other _ (fun h => e h.symm) _)
    by_cases hk : i < safe ∨ x.sure = true
    · rw [leftF_keep hk]; exact hmore _ _ _ hset
    · cases ks with
      | nil => rw [leftF_nil hk]; exact hmore _ _ _ (.inl rfl)
      | cons k ks =>
        rw [leftF_cons hk]
        cases k
        · exact hmore _ _ _ (.inl (by simp))
        · exact hmore _ _ _ (by rw [if_pos rfl]; exact hset)
theorem leftF_app (safe : Nat) (l2 : List Wr) : ∀ (l1 : List Wr) (i : Nat) (ks : List Bool) (f : Int → List UInt8), i + l1.length ≤ safe → leftF safe (l1 ++ l2) i ks f = leftF safe l2 (i + l1.length) ks (applyL l1 f)
  | [], i, ks, f, _ => by rw [List.nil_append]; rfl
  | x :: l1, i, ks, f, h => by
    simp only [List.length_cons] at h
    rw [List.cons_append, leftF_keep (.inl (by omega)), leftF_app safe l2 l1 (i + 1) ks _ (by omega)]
    have e : i + 1 + l1.length = i + (x :: l1).length := by simp only [List.length_cons]; omega
    rw [e]
    rfl
end Go.Proofs.Ythenpkimcjdkcaa
