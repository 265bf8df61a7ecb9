/- append(x, make([]byte, m)...) onto bytes of the call's own -/
import Derived.Test.YtnfchojekcoplaaDoorMk
import Derived.Lib.AppendZerosOnto
namespace Go.Proofs.YtnfchojekcoplaaDoor
set_option linter.unusedVariables false
set_option linter.unusedSimpArgs false
open Go.RowKit

theorem zeroCells_u8 (m : Nat) : Builtin.zeroCells (Value.int .u8 0).cells m = (bs (zeros m)).toArray := by
  apply Array.ext
  · simp [Builtin.zeroCells, Value.cells, bs_length, zeros_length]
  · intro i h1 h2
    simp only [List.getElem_toArray]
    have hi : i < m := by simpa [bs_length, zeros_length] using h2
    have e1 : (bs (zeros m))[i]'(by simpa using h2) = .int .u8 0 := by
      have := bs_get (zeros m) i (by rw [zeros_length]; exact hi)
      rw [List.getElem?_eq_getElem (by rw [bs_length, zeros_length]; exact hi)] at this
      injection this with this
      rw [this]
      simp [zeros]
    rw [e1]
    simp [Builtin.zeroCells, Value.cells, Nat.mod_one]

theorem run_append_z (w : World) (base : Nat) (v : Value) (l : List UInt8) (hown : OwnB w base v l) (m : Nat) (h47 : l.length + m ≤ 140737488355328) (hbase : base ≤ w.heap.size) (ty : TypeId) :
    ∃ v' w', (Builtin.append_ #[22, 3] ty #[v, .int .i64 (m : Int)]).run Tryd.prog w = .ok v' w' ∧ OwnB w' base v' (l ++ zeros m) ∧ w.grownBy w' v.ownBlock ∧ (v'.ownBlock = v.ownBlock ∨ v'.ownBlock = some w.heap.size) ∧ (∀ g off c, v = .slice (some ⟨g, off, none⟩) l.length c → ∀ j u, (bs l)[j]? = some u → w'.cell? ⟨g, off + j, none⟩ = some u) ∧ (∀ g off c g' off' n' c', v = .slice (some ⟨g, off, none⟩) l.length c → v' = .slice (some ⟨g', off', none⟩) n' c' → g' = g → off' = off) := by
  obtain ⟨i0, hi, hz0, hz1, hz2⟩ := info_parts info_u8
  have hw : IntKind.i64.wrap (m : Int) = m := by rw [IntKind.wrap_i64]; omega
  have hneg : ¬ ((m : Int) < 0) := by omega
  have h48i : ¬ (281474976710656 < (m : Int) * (i0.bytes : Int)) := by rw [hz2]; omega
  have ht := Tryd.underlying22
  have htn := Tryd.underlying3
  have hzl : zeros 0 = [] := rfl
  by_cases hm0 : m = 0
  · subst hm0
    have hw0 : IntKind.i64.wrap 0 = 0 := by rw [IntKind.wrap_i64]; rfl
    refine ⟨v, w, ?_, by rw [hzl, List.append_nil]; exact hown, World.grownBy.refl w _, .inl rfl, fun g off c hv j u hu => OwnG.cellAt (hv ▸ hown) j u hu, fun g off c g' off' n' c' hv hv' _ => by rw [hv] at hv'; simp at hv'; exact hv'.1.2.symm⟩
    rcases hown.2 with ⟨rfl, _⟩ | ⟨g, off, cap, cur, lo, hi', rfl, _, _, _, _, hnc, _⟩
    · simp [Builtin.append_, run_underlying ht, run_underlying htn, sizeOf, typeInfo, hi, asInt, asIntOf, hw0]
    · simp [Builtin.append_, run_underlying ht, run_underlying htn, sizeOf, typeInfo, hi, asInt, asIntOf, hw0, hnc, storeCells]
  · have hns : ¬ (m * i0.size = 0) := by rw [hz1]; omega
    have hlen : (bs (l ++ zeros m)).length = (l ++ zeros m).length * 1 := by rw [bs_length, Nat.mul_one]
    have hLl : (l ++ zeros m).length = l.length + m := by rw [List.length_append, zeros_length]
    have grown : ∀ (cap : Nat) (hcap : cap < l.length + m) (sv : Value) (hsv : sv = v) (old : Option Addr) (hsv2 : sv = .slice old l.length cap)
        (hold : (Builtin.firstCells i0.size l.length (.slice old l.length cap)).run Tryd.prog w.drew = .ok (bs l).toArray w.drew),
        ∃ v' w', (Builtin.append_ #[22, 3] ty #[v, .int .i64 (m : Int)]).run Tryd.prog w = .ok v' w' ∧ OwnB w' base v' (l ++ zeros m) ∧ w.grownBy w' v.ownBlock ∧ (v'.ownBlock = v.ownBlock ∨ v'.ownBlock = some w.heap.size) ∧ (∀ g off c, v = .slice (some ⟨g, off, none⟩) l.length c → ∀ j u, (bs l)[j]? = some u → w'.cell? ⟨g, off + j, none⟩ = some u) ∧ (∀ g off c g' off' n' c', v = .slice (some ⟨g, off, none⟩) l.length c → v' = .slice (some ⟨g', off', none⟩) n' c' → g' = g → off' = off) := by
      intro cap hcap sv hsv old hsv2 hold
      have hbytes : (l.length + m) * i0.bytes ≤ 140737488355328 := by rw [hz2]; omega
      have hrun := Lib.run_append_grow_zeros w 22 3 ty 5 i0 (.int .u8 0) .i64 _ ht htn hi hz0 old l.length cap (bs l) hold m (by omega) (by rw [hz1]; omega) hcap (by omega) (by rw [hz2]; omega) (growslice_fits hcap hbytes)
      have hge := grownCap_ge w (l.length + m) cap 5
      have h63 : l.length + m ≤ maxLen := by unfold maxLen; omega
      rw [← hsv, hsv2]
      refine ⟨_, _, hrun, OwnG.of ⟨hlen, .inr ⟨w.heap.size, _, _, by rw [hLl], hbase, _root_.Go.heap_alloc_new w.drew _, by omega, grownCap_le_maxLen w (l.length + m) cap 5 h63, ?_, ?_⟩⟩, ⟨rfl, rfl, rfl, by simp, fun k hk _ => _root_.Go.heap_alloc_old w.drew _ hk⟩, .inr rfl, fun g off c hv j u hu => ?_, fun g off c g' off' n' c' hv hv' hg => ?_⟩
      · rw [zeroCells_u8]
        simp only [Array.size_append, List.size_toArray, size_zeroCells, bs_length, zeros_length]
        show l.length + m + (grownCap w (l.length + m) cap 5 - (l.length + m)) * 1 = grownCap w (l.length + m) cap 5 * 1
        omega
      · rw [zeroCells_u8]
        simp only [Array.toList_append, List.append_assoc]
        rw [bs_append, ← List.append_assoc]
        have e : (l ++ zeros m).length * 1 = (bs l ++ bs (zeros m)).length := by rw [← bs_append, bs_length, Nat.mul_one]
        rw [e]
        exact List.take_left
      · have hvv : v = .slice (some ⟨g, off, none⟩) l.length c := (hsv.symm.trans hsv2).trans hv
        rw [hvv] at hown
        have hc0 : w.cell? ⟨g, off + j, none⟩ = some u := OwnG.cellAt hown j u hu
        exact (World.cell?_alloc_lt w.drew _ ⟨g, off + j, none⟩ (World.block_lt_of_cell? w _ hc0)).trans hc0
      · have hvv : v = .slice (some ⟨g, off, none⟩) l.length c := (hsv.symm.trans hsv2).trans hv
        rw [hvv] at hown
        have := (OwnB.lt hown g rfl).2
        injection hv' with h1'
        injection h1' with h1'
        injection h1' with h4' h5' h6'
        have h4'' : w.heap.size = g' := h4'
        omega
    rcases hown.2 with ⟨hv, hl0⟩ | ⟨g, off, cap, cur, lo, hi', hv, hbg, hh, hs, hf, hnc, hcm, hx⟩
    · have hl : l = [] := List.eq_nil_of_length_eq_zero hl0
      subst hl
      refine grown 0 (by simp; omega) v rfl none hv ?_
      simp [Builtin.firstCells, bs]
    · by_cases hroom : l.length + m ≤ cap
      · subst hv
        have hst := run_storeCells_cells (P := Tryd.prog) g (off + l.length) (bs (zeros m)) 0 w
          (fun j hj => by
            rw [bs_length, zeros_length] at hj
            rw [Nat.add_zero, cell_of_block hh, Array.getElem?_eq_getElem (by omega)]; rfl)
          (fun j hj => by
            rw [bs_length, zeros_length] at hj
            rw [Nat.add_zero]
            simp only [World.frozen?, hh]
            have : ¬ (lo ≤ off + l.length + j ∧ off + l.length + j < hi') := by omega
            simpa using this) (bs_one _)
        simp only [Nat.add_zero] at hst
        obtain ⟨cur', h2, h3, h4, h5, h6⟩ := setCells_heap g (bs (zeros m)) (off + l.length) w cur 5 (lo, hi') hh (by rw [bs_length, zeros_length]; omega)
        refine ⟨.slice (some ⟨g, off, none⟩) (l.length + m) cap, w.setCells g (off + l.length) (bs (zeros m)), ?_, ⟨hlen, .inr ⟨g, off, cap, cur', lo, hi', by rw [hLl], hbg, h2, by omega, hf, by omega, hcm, fun j u hu => ?_⟩⟩, h6, .inl rfl, fun g' off' c' hv' j u hu => ?_, fun g1 o1 c1 g2 o2 n2 c2 hv1 hv2 _ => by simp at hv1 hv2; omega⟩
        · simp [Builtin.append_, run_underlying ht, run_underlying htn, sizeOf, typeInfo, zeroValue, hi, hz0, hz1, asInt, asIntOf, hw, hneg, hm0, h48i, hroom, Addr.add_lit, zeroCells_u8, hst]
        · rw [bs_append] at hu
          by_cases hj : j < l.length
          · rw [List.getElem?_append_left (by rw [bs_length]; exact hj)] at hu
            rw [h4 _ (by omega)]
            exact hx j u hu
          · rw [List.getElem?_append_right (by rw [bs_length]; omega), bs_length] at hu
            have := h5 _ u hu
            rw [← this]
            congr 1
            omega
        · injection hv' with h1' h2' h3'
          injection h1' with h1'
          injection h1' with h4' h5' h6'
          subst h4' h5'
          have hj : j < l.length := by
            rcases Nat.lt_or_ge j l.length with h | h
            · exact h
            · rw [List.getElem?_eq_none (by rw [bs_length]; exact h)] at hu
              cases hu
          rw [cell_of_block h2, h4 _ (by omega)]
          exact hx j u hu
      · refine grown cap (by omega) v rfl (some ⟨g, off, none⟩) hv ?_
        have hfc := run_firstCells_some (P := Tryd.prog) w.drew i0.size l.length ⟨g, off, none⟩ l.length cap (bs l) (by rw [hz1, bs_length, Nat.mul_one]) (fun j u hu => by
          rw [Addr.add_lit]
          exact (cell_of_block hh _).trans (hx j u hu))
        exact hfc
theorem step_appz {w : World} {ops : Array Oper} {o : Oper} {a : Act} {K : Act → World → Prop} {Q : Exit → Act → World → Prop} {E : Prop} (hgd : o.guard = none) (s x : Operand)
    (ho : o.op = .call { callee := .builtin .append, args := #[s, x], argTypes := #[22, 3] })
    (base : Nat) (v : Value) (l : List UInt8) (hs : a.eval s = v) (hown : OwnB w base v l) (m : Nat) (z : Int) (hx : a.eval x = .int .i64 z) (hz : z = (m : Int))
    (h47 : l.length + m ≤ 140737488355328) (hbase : base ≤ w.heap.size)
    (h : ∀ v' w', OwnB w' base v' (l ++ zeros m) → w.grownBy w' v.ownBlock → (v'.ownBlock = v.ownBlock ∨ v'.ownBlock = some w.heap.size) → K (a.put o.dst v') w') :
    if Region.wanted o (yielded ops a.tmps) = true then Oper.wp Tryd.prog o a w K Q else E := by
  have hw : Region.wanted o (yielded ops a.tmps) = true := by simp [Region.wanted, hgd]
  rw [if_pos hw]
  subst hz
  obtain ⟨v', w', hrun, h2, h3, h4, _, _⟩ := run_append_z w base v l hown m h47 hbase o.type
  unfold Oper.wp execOp
  simp only [ho, resolve, invoke, builtin, Sem.run_bind, Sem.run_pure, Result.andThen_ok, List.map_toArray, List.map_cons, List.map_nil, hs, hx, hrun]
  exact h v' w' h2 h3 h4
end Go.Proofs.YtnfchojekcoplaaDoor
