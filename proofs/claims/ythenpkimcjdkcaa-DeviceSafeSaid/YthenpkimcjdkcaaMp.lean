/- Maps as lists of keys and values, in the order in which they came. Nothing of a Go function. -/
import Derived.Test.YthenpkimcjdkcaaA
import Derived.Maps.Own
namespace Go.Proofs.Ythenpkimcjdkcaa
set_option linter.unusedVariables false
set_option linter.unusedSimpArgs false
open Go.RowKit
open Go.Maps (Keyed)
open Go.ChangeMaps (setBlock heap_setBlock_same heap_setBlock_other modify_eq_set)

section
variable {α : Type}
def aGet [DecidableEq α] (l : List (α × Value)) (a : α) : Option Value := (l.find? fun p => decide (p.1 = a)).map (·.2)
def aPut [DecidableEq α] (l : List (α × Value)) (a : α) (v : Value) : List (α × Value) := if (aGet l a).isSome then l.map (fun p => if p.1 = a then (a, v) else p) else l ++ [(a, v)]
def aDel [DecidableEq α] (l : List (α × Value)) (a : α) : List (α × Value) := l.filter fun p => decide (p.1 ≠ a)

theorem aGet_nil [DecidableEq α] (a : α) : aGet [] a = none := rfl
theorem aGet_cons [DecidableEq α] (p : α × Value) (l : List (α × Value)) (a : α) : aGet (p :: l) a = if p.1 = a then some p.2 else aGet l a := by
  unfold aGet
  by_cases h : p.1 = a <;> simp [List.find?_cons, h]
theorem aGet_none [DecidableEq α] {l : List (α × Value)} {a : α} : aGet l a = none ↔ ∀ p ∈ l, p.1 ≠ a := by
  simp [aGet]
theorem aGet_mem [DecidableEq α] {l : List (α × Value)} {a : α} {v : Value} (h : aGet l a = some v) : (a, v) ∈ l := by
  unfold aGet at h
  obtain ⟨p, hp, rfl⟩ := Option.map_eq_some_iff.1 h
  have h1 := List.find?_some hp
  have h2 := List.mem_of_find?_eq_some hp
  simp only [decide_eq_true_eq] at h1
  subst h1
  exact h2
theorem aGet_of [DecidableEq α] {l : List (α × Value)} (hn : (l.map (·.1)).Nodup) {a : α} {v : Value} (h : (a, v) ∈ l) : aGet l a = some v := by
  induction l with
  | nil => cases h
  | cons p l ih =>
    rw [aGet_cons]
    rw [List.map_cons, List.nodup_cons] at hn
    rcases List.mem_cons.1 h with h | h
    · subst h; simp
    · have : p.1 ≠ a := fun e => hn.1 (by rw [e]; exact List.mem_map.2 ⟨_, h, rfl⟩)
      rw [if_neg this]
      exact ih hn.2 h
theorem aGet_map [DecidableEq α] (l : List (α × Value)) (a b : α) (v : Value) : aGet (l.map (fun p => if p.1 = a then (a, v) else p)) b = if b = a ∧ (aGet l a).isSome then some v else aGet l b := by
  induction l with
  | nil => simp [aGet_nil]
  | cons p l ih =>
    rw [List.map_cons, aGet_cons, ih, aGet_cons, aGet_cons]
    by_cases h : p.1 = a
    · subst h
      by_cases hb : b = p.1
      · subst hb; simp
      · have hb2 : ¬ p.1 = b := fun e => hb e.symm
        simp [hb, hb2]
    · by_cases hb : b = a
      · subst hb; simp [h]
      · simp [h, hb]
theorem aGet_app [DecidableEq α] (l : List (α × Value)) (a b : α) (v : Value) (h : aGet l a = none) : aGet (l ++ [(a, v)]) b = if b = a then some v else aGet l b := by
  induction l with
  | nil => simp [aGet_cons, aGet_nil, eq_comm]
  | cons p l ih =>
    rw [aGet_cons] at h
    by_cases hp : p.1 = a
    · rw [if_pos hp] at h; cases h
    · rw [if_neg hp] at h
      rw [List.cons_append, aGet_cons, ih h, aGet_cons]
      by_cases hb : p.1 = b
      · subst hb; simp [hp]
      · simp [hb]
theorem aGet_put [DecidableEq α] (l : List (α × Value)) (a b : α) (v : Value) : aGet (aPut l a v) b = if b = a then some v else aGet l b := by
  unfold aPut
  by_cases h : (aGet l a).isSome
  · rw [if_pos h, aGet_map]
    simp [h]
  · rw [if_neg h]
    exact aGet_app l a b v (by simpa using h)
theorem aGet_del [DecidableEq α] (l : List (α × Value)) (a b : α) : aGet (aDel l a) b = if b = a then none else aGet l b := by
  unfold aDel
  induction l with
  | nil => simp [aGet_nil]
  | cons p l ih =>
    by_cases hp : p.1 = a
    · rw [List.filter_cons_of_neg (by simp [hp]), ih, aGet_cons]
      subst hp
      by_cases hb : b = p.1
      · simp [hb]
      · have : ¬ p.1 = b := fun e => hb e.symm
        simp [hb, this]
    · rw [List.filter_cons_of_pos (by simp [hp]), aGet_cons, ih, aGet_cons]
      by_cases hb : p.1 = b
      · subst hb; simp [hp]
      · simp [hb]
theorem keys_put [DecidableEq α] (l : List (α × Value)) (a : α) (v : Value) : (aPut l a v).map (·.1) = if (aGet l a).isSome then l.map (·.1) else l.map (·.1) ++ [a] := by
  unfold aPut
  by_cases h : (aGet l a).isSome
  · rw [if_pos h, if_pos h, List.map_map]
    refine List.map_congr_left fun p _ => ?_
    simp only [Function.comp]
    split
    · rename_i e; exact e.symm
    · rfl
  · rw [if_neg h, if_neg h]; simp
theorem nodup_put [DecidableEq α] {l : List (α × Value)} (hn : (l.map (·.1)).Nodup) (a : α) (v : Value) : ((aPut l a v).map (·.1)).Nodup := by
  rw [keys_put]
  split
  · exact hn
  · rename_i h
    have h2 : aGet l a = none := by simpa using h
    rw [List.nodup_append]
    refine ⟨hn, by simp, ?_⟩
    intro x hx y hy
    simp only [List.mem_singleton] at hy
    subst hy
    obtain ⟨p, hp, rfl⟩ := List.mem_map.1 hx
    exact aGet_none.1 h2 p hp
theorem nodup_del [DecidableEq α] {l : List (α × Value)} (hn : (l.map (·.1)).Nodup) (a : α) : ((aDel l a).map (·.1)).Nodup := by
  unfold aDel
  exact (List.Sublist.map _ List.filter_sublist).nodup hn
theorem mem_put [DecidableEq α] {l : List (α × Value)} {a : α} {v : Value} {p : α × Value} (h : p ∈ aPut l a v) : p = (a, v) ∨ p ∈ l := by
  unfold aPut at h
  split at h
  · obtain ⟨q, hq, rfl⟩ := List.mem_map.1 h
    split
    · exact .inl rfl
    · exact .inr hq
  · simp only [List.mem_append, List.mem_singleton] at h
    exact h.symm
theorem mem_del [DecidableEq α] {l : List (α × Value)} {a : α} {p : α × Value} (h : p ∈ aDel l a) : p ∈ l := (List.mem_filter.1 h).1

/-- Block b of w is a map: its keys and values in the order in which they came. -/
def MapIs (P : Program) (k : TypeId) (mk : α → Value) (w : World) (b : Nat) (l : List (α × Value)) : Prop :=
  ∃ es ck, w.heap[b]? = some (.map es ck) ∧ es.toList.map (fun x => (x.key, x.val)) = l.map (fun p => (mk p.1, p.2)) ∧ (l.map (·.1)).Nodup ∧ ∀ p ∈ l, ∃ y, keyOf P k (mk p.1) = some y

variable {P : Program} {k : TypeId} {mk : α → Value} {w w' : World} {b : Nat} {l : List (α × Value)}
theorem MapIs.lt (h : MapIs P k mk w b l) : b < w.heap.size := by
  obtain ⟨es, ck, hb, _⟩ := h
  exact lt_of_heap hb
theorem MapIs.keep (h : MapIs P k mk w b l) (hb : w'.heap[b]? = w.heap[b]?) : MapIs P k mk w' b l := by
  obtain ⟨es, ck, h1, h2⟩ := h
  exact ⟨es, ck, hb.trans h1, h2⟩
theorem MapIs.nodup (h : MapIs P k mk w b l) : (l.map (·.1)).Nodup := by
  obtain ⟨es, ck, _, _, h3, _⟩ := h
  exact h3
theorem MapIs.new (w : World) : MapIs P k mk (w.alloc (.map #[] 0)) w.heap.size ([] : List (α × Value)) :=
  ⟨#[], 0, (MapKept.heap_alloc w _).1, rfl, by simp, by simp⟩

/-- Which entry bears a key. -/
theorem find_is [DecidableEq α] (K : Keyed P k) (inj : ∀ x y, mk x = mk y → x = y) {es : Array MapEntry} (hes : es.toList.map (fun x => (x.key, x.val)) = l.map (fun p => (mk p.1, p.2))) (hn : (l.map (·.1)).Nodup) (hg : ∀ p ∈ l, ∃ y, keyOf P k (mk p.1) = some y)
    (a : α) {y : Lit} (hy : keyOf P k (mk a) = some y) (w : World) :
    ((Instr.findKey k (mk a) es.toList).run P w = .ok none w ∧ aGet l a = none) ∨
    ∃ (j : Nat) (e : MapEntry), (Instr.findKey k (mk a) es.toList).run P w = .ok (some (j, e.val)) w ∧ es[j]? = some e ∧ e.key = mk a ∧ l[j]? = some (a, e.val) ∧ aGet l a = some e.val := by
  have hgood : ∀ e ∈ es.toList, ∃ q, keyOf P k e.key = some q := by
    intro e he
    have : (e.key, e.val) ∈ l.map (fun p => (mk p.1, p.2)) := by rw [← hes]; exact List.mem_map.2 ⟨e, he, rfl⟩
    obtain ⟨p, hp, hpe⟩ := List.mem_map.1 this
    injection hpe with h1 h2
    rw [← h1]
    exact hg p hp
  rcases K.find w hy es.toList hgood with ⟨h1, h2⟩ | ⟨j, e, h1, h2, h3⟩
  · refine .inl ⟨h1, aGet_none.2 fun p hp e => ?_⟩
    have : (mk p.1, p.2) ∈ es.toList.map (fun x => (x.key, x.val)) := by rw [hes]; exact List.mem_map.2 ⟨p, hp, rfl⟩
    obtain ⟨x, hx, hxe⟩ := List.mem_map.1 this
    injection hxe with h4 h5
    exact h2 x hx (by rw [h4, e])
  · have h4 : (l.map (fun p => (mk p.1, p.2)))[j]? = some (e.key, e.val) := by rw [← hes, List.getElem?_map, h2]; rfl
    rw [List.getElem?_map] at h4
    obtain ⟨p, hp, hpe⟩ := Option.map_eq_some_iff.1 h4
    injection hpe with h5 h6
    have h7 : p.1 = a := inj _ _ (h5.trans h3)
    have h8 : l[j]? = some (a, e.val) := by rw [hp, ← h7, ← h6]
    exact .inr ⟨j, e, h1, by simpa using h2, h3, h8, aGet_of hn (List.mem_of_getElem? h8)⟩

theorem MapIs.look [DecidableEq α] (h : MapIs P k mk w b l) (K : Keyed P k) (inj : ∀ x y, mk x = mk y → x = y) {t e : TypeId} (ht : P.underlying t = some (.map k e)) {z : Value} (hz : ∀ w, (zeroValue e).run P w = .ok z w) (a : α) {y : Lit} (hy : keyOf P k (mk a) = some y) (c : Bool) :
    (Instr.lookup t (.map (some b)) (mk a) c).run P w = .ok (if c then .tuple #[(aGet l a).getD z, .bool (aGet l a).isSome] else (aGet l a).getD z) w := by
  obtain ⟨es, ck, hb, hes, hn, hg⟩ := h
  rcases find_is K inj hes hn hg a hy w with ⟨h1, h2⟩ | ⟨j, e0, h1, _, _, _, h2⟩
  · rw [h2]; simp [Instr.lookup, run_underlying ht, MapKept.run_getObj_map hb, K.check w _ hy, h1, hz, Result.andThen]
  · rw [h2]; simp [Instr.lookup, run_underlying ht, MapKept.run_getObj_map hb, K.check w _ hy, h1, Result.andThen]

theorem map_replace [DecidableEq α] {l : List (α × Value)} (hn : (l.map (·.1)).Nodup) {j : Nat} {a : α} {v0 v : Value} (hj : l[j]? = some (a, v0)) : l.map (fun p => if p.1 = a then (a, v) else p) = l.set j (a, v) := by
  induction l generalizing j with
  | nil => simp at hj
  | cons p l ih =>
    rw [List.map_cons, List.nodup_cons] at hn
    cases j with
    | zero =>
      simp only [List.getElem?_cons_zero, Option.some.injEq] at hj
      subst hj
      simp only [List.map_cons, if_true, List.set_cons_zero, List.cons.injEq, true_and]
      refine (List.map_congr_left fun q hq => ?_).trans (List.map_id _)
      rw [if_neg]
      · rfl
      · intro e
        exact hn.1 (by rw [← e]; exact List.mem_map.2 ⟨q, hq, rfl⟩)
    | succ j =>
      simp only [List.getElem?_cons_succ] at hj
      simp only [List.map_cons, List.set_cons_succ, List.cons.injEq]
      refine ⟨?_, ih hn.2 hj⟩
      rw [if_neg]
      intro e
      exact hn.1 (by rw [e]; exact List.mem_map.2 ⟨_, List.mem_of_getElem? hj, rfl⟩)
theorem filter_erase [DecidableEq α] {l : List (α × Value)} (hn : (l.map (·.1)).Nodup) {j : Nat} {a : α} {v0 : Value} (hj : l[j]? = some (a, v0)) : aDel l a = l.eraseIdx j := by
  unfold aDel
  induction l generalizing j with
  | nil => simp at hj
  | cons p l ih =>
    rw [List.map_cons, List.nodup_cons] at hn
    cases j with
    | zero =>
      simp only [List.getElem?_cons_zero, Option.some.injEq] at hj
      subst hj
      rw [List.filter_cons_of_neg (by simp), List.eraseIdx_zero, List.tail_cons]
      refine List.filter_eq_self.2 fun q hq => ?_
      simp only [decide_eq_true_eq]
      intro e
      exact hn.1 (by rw [← e]; exact List.mem_map.2 ⟨q, hq, rfl⟩)
    | succ j =>
      simp only [List.getElem?_cons_succ] at hj
      rw [List.eraseIdx_cons_succ, List.filter_cons_of_pos, ih hn.2 hj]
      simp only [decide_eq_true_eq]
      intro e
      exact hn.1 (by rw [e]; exact List.mem_map.2 ⟨_, List.mem_of_getElem? hj, rfl⟩)

theorem MapIs.upd [DecidableEq α] (h : MapIs P k mk w b l) (K : Keyed P k) (inj : ∀ x y, mk x = mk y → x = y) {t e : TypeId} (ht : P.underlying t = some (.map k e)) (a : α) {y : Lit} (hy : keyOf P k (mk a) = some y) (v : Value) :
    ∃ w', (Instr.mapUpdate t (.map (some b)) (mk a) v).run P w = .ok () w' ∧ MapIs P k mk w' b (aPut l a v) ∧ w.grownBy w' (some b) := by
  obtain ⟨es, ck, hb, hes, hn, hg⟩ := h
  have hg2 : ∀ p ∈ aPut l a v, ∃ y, keyOf P k (mk p.1) = some y := by
    intro p hp
    rcases mem_put hp with rfl | hp
    · exact ⟨y, hy⟩
    · exact hg p hp
  rcases find_is K inj hes hn hg a hy w with ⟨h1, h2⟩ | ⟨j, e0, h1, h3, h4, h5, h2⟩
  · refine ⟨setBlock w b (.map (es.push ⟨mk a, v, ck⟩) (ck + 1)), ?_, ⟨_, _, heap_setBlock_same hb _, ?_, nodup_put hn a v, hg2⟩, ⟨rfl, rfl, rfl, by simp [setBlock], fun i _ hi => heap_setBlock_other hb _ (fun e => hi (by rw [e]))⟩⟩
    · simp [Instr.mapUpdate, run_underlying ht, MapKept.run_getObj_map hb, K.check w false hy, h1, MapKept.run_setObj_map _ hb, Result.andThen, setBlock]
    · rw [aPut, if_neg (by simp [h2]), Array.toList_push, List.map_append, List.map_append, hes]; rfl
  · refine ⟨setBlock w b (.map (es.modify j (fun e' => { e' with key := mk a, val := v })) ck), ?_, ⟨_, _, heap_setBlock_same hb _, ?_, nodup_put hn a v, hg2⟩, ⟨rfl, rfl, rfl, by simp [setBlock], fun i _ hi => heap_setBlock_other hb _ (fun e => hi (by rw [e]))⟩⟩
    · simp [Instr.mapUpdate, run_underlying ht, MapKept.run_getObj_map hb, K.check w false hy, h1, h3, h4, K.stays w hy, MapKept.run_setObj_map _ hb, Result.andThen, setBlock]
    · have h3' : es.toList[j]? = some e0 := by simpa using h3
      rw [aPut, if_pos (by simp [h2]), map_replace hn h5, Array.toList_modify, modify_eq_set _ _ _ _ h3', List.map_set, List.map_set, hes]

theorem MapIs.del [DecidableEq α] (h : MapIs P k mk w b l) (K : Keyed P k) (inj : ∀ x y, mk x = mk y → x = y) {t e ty : TypeId} (ht : P.underlying t = some (.map k e)) (a : α) {y : Lit} (hy : keyOf P k (mk a) = some y) :
    ∃ w', (Builtin.delete_ #[t, k] ty #[.map (some b), mk a]).run P w = .ok (.tuple #[]) w' ∧ MapIs P k mk w' b (aDel l a) ∧ w.grownBy w' (some b) := by
  obtain ⟨es, ck, hb, hes, hn, hg⟩ := h
  have hg2 : ∀ p ∈ aDel l a, ∃ y, keyOf P k (mk p.1) = some y := fun p hp => hg p (mem_del hp)
  rcases find_is K inj hes hn hg a hy w with ⟨h1, h2⟩ | ⟨j, e0, h1, h3, h4, h5, h2⟩
  · refine ⟨setBlock w b (.map es ck), ?_, ⟨_, _, heap_setBlock_same hb _, ?_, nodup_del hn a, hg2⟩, ⟨rfl, rfl, rfl, by simp [setBlock], fun i _ hi => heap_setBlock_other hb _ (fun e => hi (by rw [e]))⟩⟩
    · simp [Builtin.delete_, run_underlying ht, MapKept.run_getObj_map hb, K.check w _ hy, h1, MapKept.run_setObj_map _ hb, Result.andThen, setBlock]
    · rw [hes, aDel, List.filter_eq_self.2]
      intro p hp
      simpa using aGet_none.1 h2 p hp
  · have hjl : j < es.toList.length := by have := (Array.getElem?_eq_some_iff.1 h3).1; simpa using this
    have hjs : j < es.size := by simpa using hjl
    have hsub : (es.eraseIdxIfInBounds j).toList = es.toList.eraseIdx j := by
      unfold Array.eraseIdxIfInBounds
      rw [dif_pos hjs]
      simp
    refine ⟨setBlock w b (.map (es.eraseIdxIfInBounds j) ck), ?_, ⟨_, _, heap_setBlock_same hb _, ?_, nodup_del hn a, hg2⟩, ⟨rfl, rfl, rfl, by simp [setBlock], fun i _ hi => heap_setBlock_other hb _ (fun e => hi (by rw [e]))⟩⟩
    · simp [Builtin.delete_, run_underlying ht, MapKept.run_getObj_map hb, K.check w _ hy, h1, MapKept.run_setObj_map _ hb, Result.andThen, setBlock]
    · rw [filter_erase hn h5, hsub, ChangeMaps.map_eraseIdx, ChangeMaps.map_eraseIdx, hes]

theorem MapIs.clr (h : MapIs P k mk w b l) {t e ty : TypeId} (ht : P.underlying t = some (.map k e)) :
    ∃ w', (Builtin.clear_ #[t] ty #[.map (some b)]).run P w = .ok (.tuple #[]) w' ∧ MapIs P k mk w' b ([] : List (α × Value)) ∧ w.grownBy w' (some b) := by
  obtain ⟨es, ck, hb, hes, hn, hg⟩ := h
  refine ⟨setBlock w b (.map #[] ck), ?_, ⟨_, _, heap_setBlock_same hb _, rfl, by simp, by simp⟩, ⟨rfl, rfl, rfl, by simp [setBlock], fun i _ hi => heap_setBlock_other hb _ (fun e => hi (by rw [e]))⟩⟩
  simp [Builtin.clear_, run_underlying ht, MapKept.run_getObj_map hb, MapKept.run_setObj_map _ hb, Result.andThen, setBlock]

theorem MapIs.lenRun (h : MapIs P k mk w b l) {t e ty : TypeId} (ht : P.underlying t = some (.map k e)) : (Builtin.len_ #[t] ty #[.map (some b)]).run P w = .ok (.int .i64 (l.length : Int)) w := by
  obtain ⟨es, ck, hb, hes, _⟩ := h
  have hl : es.size = l.length := by have := congrArg List.length hes; simpa using this
  simp [Builtin.len_, run_underlying ht, MapKept.run_getObj_map hb, Result.andThen, hl, goInt]

/-- What maps.Clone makes. -/
theorem MapIs.copied (h : MapIs P k mk w b l) : ∃ es ck, w.heap[b]? = some (.map es ck) ∧ MapIs P k mk (w.alloc (.map es ck)) w.heap.size l := by
  obtain ⟨es, ck, hb, r⟩ := h
  exact ⟨es, ck, hb, es, ck, (MapKept.heap_alloc w _).1, r⟩
end
end Go.Proofs.Ythenpkimcjdkcaa
