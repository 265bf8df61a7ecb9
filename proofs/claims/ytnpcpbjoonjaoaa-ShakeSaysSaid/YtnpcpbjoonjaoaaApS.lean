/- append(x, s...) of a string onto bytes of the call's own -/
import Derived.Test.YtnpcpbjoonjaoaaSkE
import Derived.Lib.AppendStr
namespace Go.Proofs.Ytnpcpbjoonjaoaa
set_option linter.unusedVariables false
set_option linter.unusedSimpArgs false
open Go.RowKit

theorem strCells_bs (s : List UInt8) : Lib.strCells ⟨s.toArray⟩ = bs s := by simp [Lib.strCells, bs, B]

theorem run_append_s (w : World) (base : Nat) (v : Value) (l : List UInt8) (hown : OwnB w base v l) (hpos : 0 < l.length) (s : List UInt8) (h47 : l.length + s.length ≤ 140737488355328) (hbase : base ≤ w.heap.size) (ty : TypeId) :
    ∃ v' w', (Builtin.append_ #[23, 9] ty #[v, .string ⟨s.toArray⟩]).run Try.prog w = .ok v' w' ∧ OwnB w' base v' (l ++ s) ∧ w.grownBy w' v.ownBlock ∧ (v'.ownBlock = v.ownBlock ∨ v'.ownBlock = some w.heap.size) := by
  obtain ⟨i, hi, hz, hsize, hby⟩ := info_parts info_u8
  have ht := Try.underlying23
  have hu := Try.underlying9
  have hsz : (⟨s.toArray⟩ : ByteArray).size = s.length := rfl
  have hlen : (bs (l ++ s)).length = (l ++ s).length * 1 := by rw [bs_length, Nat.mul_one]
  have h63 : l.length + s.length ≤ maxLen := by unfold maxLen; omega
  have h1 : ∀ u ∈ bs s, u.oneCell' = true := bs_one s
  rcases hown.2 with ⟨rfl, h0⟩ | ⟨g, off, cap, cur, lo, hi', rfl, hbg, hh, hs, hf, hnc, hcm, hx⟩
  · omega
  · by_cases hroom : l.length + s.length ≤ cap
    · have hfc := Lib.run_firstCells_string (P := Try.prog) (w := w) i.size ⟨s.toArray⟩
      have hst := run_storeCells_cells (P := Try.prog) g (off + l.length * i.size) (bs s) 0 w
        (fun j hj => by
          rw [bs_length] at hj
          rw [Nat.add_zero, hsize, cell_of_block hh, Array.getElem?_eq_getElem (by omega)]; rfl)
        (fun j hj => by
          rw [bs_length] at hj
          rw [Nat.add_zero, hsize]
          simp only [World.frozen?, hh]
          have : ¬ (lo ≤ off + l.length * 1 + j ∧ off + l.length * 1 + j < hi') := by omega
          simpa using this) h1
      simp only [Nat.add_zero] at hst
      have hrun : (Builtin.append_ #[23, 9] ty #[.slice (some ⟨g, off, none⟩) l.length cap, .string ⟨s.toArray⟩]).run Try.prog w = .ok (.slice (some ⟨g, off, none⟩) (l.length + s.length) cap) (w.setCells g (off + l.length * i.size) (bs s)) := by
        rw [strCells_bs, hsz] at hfc
        simp [Builtin.append_, run_underlying ht, run_underlying hu, sizeOf, typeInfo, hi, Builtin.lenOf, hsz, hroom, hfc, Addr.add_lit, hst]
      rw [hsize] at hrun
      obtain ⟨cur', h2, h3, h4, h5, h6⟩ := setCells_heap g (bs s) (off + l.length * 1) w cur 5 (lo, hi') hh (by rw [bs_length]; omega)
      refine ⟨_, _, hrun, ?_, h6, .inl rfl⟩
      unfold OwnB
      rw [List.length_append]
      refine ⟨by rw [hlen, List.length_append], .inr ⟨g, off, cap, cur', lo, hi', rfl, hbg, h2, by omega, hf, hroom, hcm, fun j u hu => ?_⟩⟩
      rw [bs_append] at hu
      by_cases hj : j < (bs l).length
      · rw [List.getElem?_append_left hj] at hu
        rw [bs_length] at hj
        rw [h4 _ (by omega)]
        exact hx j u hu
      · rw [List.getElem?_append_right (by omega)] at hu
        have := h5 _ u hu
        rw [← this]
        rw [bs_length] at hj ⊢
        congr 1
        omega
    · have holds : ∀ j u, (bs l)[j]? = some u → w.cell? ((⟨g, off, none⟩ : Addr).add j) = some u := fun j u hu => by
        rw [Addr.add_lit]
        exact (cell_of_block hh _).trans (hx j u hu)
      have hrun := Lib.run_append_grow_string (P := Try.prog) (w := w) 23 9 ty 5 i (.int .u8 0) ht hu hi hz ⟨g, off, none⟩ l.length cap (bs l) (by rw [hsize, bs_length, Nat.mul_one]) holds ⟨s.toArray⟩ (by rw [hsz]; omega) (by rw [hsz]; omega) (by rw [hby, hsz]; exact growslice_fits (by omega) (by omega))
      rw [strCells_bs, hsz] at hrun
      have hge := grownCap_ge w (l.length + s.length) cap 5
      refine ⟨_, _, hrun, ?_, ⟨rfl, rfl, rfl, by simp, fun k hk _ => _root_.Go.heap_alloc_old w.drew _ hk⟩, .inr rfl⟩
      unfold OwnB
      rw [List.length_append]
      refine OwnG.of ⟨by rw [hlen, List.length_append], .inr ⟨w.heap.size, _, _, rfl, hbase, _root_.Go.heap_alloc_new w.drew _, hge, grownCap_le_maxLen w (l.length + s.length) cap 5 h63, ?_, ?_⟩⟩
      · have hz1 : (Value.int IntKind.u8 0).cells.size = 1 := rfl
        simp only [Array.size_append, List.size_toArray, size_zeroCells, hz1, bs_length]
        omega
      · simp only [Array.toList_append, List.append_assoc]
        have e : (l.length + s.length) * 1 = (bs l ++ bs s).length := by rw [← bs_append, hlen, List.length_append]
        rw [← List.append_assoc, bs_append, e]
        exact List.take_left

/-- The step, in a region that draws its order. -/
theorem step_apps {w : World} {ops : Array Oper} {o : Oper} {a : Act} {K : Act → World → Prop} {Q : Exit → Act → World → Prop} {E : Prop} (hgd : o.guard = none) (s x : Operand)
    (ho : o.op = .call { callee := .builtin .append, args := #[s, x], argTypes := #[23, 9] })
    (base : Nat) (v : Value) (l : List UInt8) (hs : a.eval s = v) (hown : OwnB w base v l) (hpos : 0 < l.length) (m : List UInt8) (hx : a.eval x = .string ⟨m.toArray⟩)
    (h47 : l.length + m.length ≤ 140737488355328) (hbase : base ≤ w.heap.size)
    (h : ∀ v' w', OwnB w' base v' (l ++ m) → w.grownBy w' v.ownBlock → (v'.ownBlock = v.ownBlock ∨ v'.ownBlock = some w.heap.size) → K (a.put o.dst v') w') :
    if Region.wanted o (yielded ops a.tmps) = true then Oper.wp Try.prog o a w K Q else E := by
  have hw : Region.wanted o (yielded ops a.tmps) = true := by simp [Region.wanted, hgd]
  rw [if_pos hw]
  obtain ⟨v', w', hrun, h2, h3, h4⟩ := run_append_s w base v l hown hpos m h47 hbase o.type
  unfold Oper.wp execOp
  simp only [ho, resolve, invoke, builtin, Sem.run_bind, Sem.run_pure, Result.andThen_ok, List.map_toArray, List.map_cons, List.map_nil, hs, hx, hrun]
  exact h v' w' h2 h3 h4
end Go.Proofs.Ytnpcpbjoonjaoaa
