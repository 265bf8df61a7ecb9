/- laws for merkle.Build's walk -/
import Derived.Test.YtnfchojekcoplaaDoorMe2
import Derived.Test.YtnfchojekcoplaaDoorApz
import Derived.Test.YtnfchojekcoplaaDoorRr
import Derived.Test.YtnfchojekcoplaaDoorCopy
import Derived.Sort.CutIn
namespace Go.Proofs.YtnfchojekcoplaaDoor
set_option linter.unusedVariables false
set_option linter.unusedSimpArgs false
open Go Go.RowKit
attribute [local go_sem] Oper.semAt_some

theorem results_tct {P : Program} {fn : Func} {s p v : Tmp} {ty : TypeId} (h : fn.results = #[.tmp s, .cell p ty, .tmp v]) (tmps : Array Value) (w : World) (g : Nat) (t : TypeId) (cs : Array Value) (fr : Nat × Nat) (d : TypeDesc)
    (hp : tmps.getD p undef = .pointer (some ⟨g, 0, none⟩)) (hg : w.heap[g]? = some (.cells cs t fr))
    (hu : P.underlying ty = some d) (hd : (match d with | .struct _ | .array _ _ => true | _ => false) = true) (hi : (P.info? ty).map (·.size) = some cs.size) :
    (results fn tmps).run P w = .ok (.tuple #[tmps.getD s undef, .agg cs, tmps.getD v undef]) w := by
  have hp' : tmps[p]?.getD undef = .pointer (some ⟨g, 0, none⟩) := by simpa using hp
  simp [results, h, hp', asAddr, run_loadVar_row w g t ty cs fr d hg hu hd hi]

/-- append(x, make([]byte, m)...), in a fence -/
theorem wpListIn_appz {F : Fence} {n : Nat} {w : World} {ops : Array Oper} {rest : List Oper} {o : Oper} {a : Act} {Q : Exit → Act → World → Prop} (hgd : o.guard = none) (s x : Operand)
    (ho : o.op = .call { callee := .builtin .append, args := #[s, x], argTypes := #[22, 3] })
    (base : Nat) (v : Value) (l : List UInt8) (hs : a.eval s = v) (hown : OwnB w base v l) (m : Nat) (z : Int) (hx : a.eval x = .int .i64 z) (hz : z = (m : Int))
    (h47 : l.length + m ≤ 140737488355328) (hbase : base ≤ w.heap.size)
    (h : ∀ v' w', OwnB w' base v' (l ++ zeros m) → w.grownBy w' v.ownBlock → (v'.ownBlock = v.ownBlock ∨ v'.ownBlock = some w.heap.size) → (∀ g off c, v = .slice (some ⟨g, off, none⟩) l.length c → ∀ j u, (bs l)[j]? = some u → w'.cell? ⟨g, off + j, none⟩ = some u) → (∀ g off c g' off' n' c', v = .slice (some ⟨g, off, none⟩) l.length c → v' = .slice (some ⟨g', off', none⟩) n' c' → g' = g → off' = off) → wpListIn F n Tryd.prog ops Q rest (a.put o.dst v') w') :
    wpListIn F n Tryd.prog ops Q (o :: rest) a w := by
  refine wpListIn_plain hgd fun K hK' => ?_
  subst hz
  obtain ⟨v', w', hrun, h2, h3, h4, h5, h6⟩ := run_append_z w base v l hown m h47 hbase o.type
  unfold Oper.wpIn
  refine ⟨?_, ?_⟩
  · simp [Oper.about, ho, resolve, Target.leads, Sem.run_pure]
  · rw [Oper.semAt_plain F _ _ (by rw [ho]; intro c hc'; cases hc')]
    simp [execOp, ho, resolve, invoke, builtin, hs, hx, hrun, Result.andThen]
    exact hK' _ _ (h v' w' h2 h3 h4 h5 h6)

theorem hgoalIn {F : Fence} {n : Nat} {X Y : World} {P : Program} {C : Code} {a : Act} {Q : Exit → Act → World → Prop} (e : X = Y) (h : Code.wpIn F n P C Q a Y) : Code.wpIn F n P C Q a X := e ▸ h
/-- copy over bytes of the call's own, in a region that draws -/
theorem step_copyB {w : World} {ops : Array Oper} {o : Oper} {a : Act} {K : Act → World → Prop} {Q : Exit → Act → World → Prop} {E : Prop} (hgd : o.guard = none) (d s : Operand) (dT sT : TypeId)
    (ho : o.op = .call { callee := .builtin .copy, args := #[d, s], argTypes := #[dT, sT] }) (hdT : Tryd.prog.underlying dT = some (.slice 5))
    (dp sp : Option Addr) (dLen dCap sLen sCap : Nat) (hd : a.eval d = .slice dp dLen dCap) (hs : a.eval s = .slice sp sLen sCap)
    (base g off cap : Nat) (l : List UInt8) (own : OwnB w base (.slice (some ⟨g, off, none⟩) l.length cap) l) (k : Nat) (ms : List UInt8) (hm : ms.length = Nat.min sLen dLen) (hfit : k + ms.length ≤ l.length)
    (h0 : 0 < ms.length) (hdp : dp = some ⟨g, off + k, none⟩) {Bd : Nat} (hr : Rd w Bd sp (bs ms))
    (h : OwnB (w.setCells g (off + k) (bs ms)) base (.slice (some ⟨g, off, none⟩) l.length cap) (overlay l k ms) → w.grownBy (w.setCells g (off + k) (bs ms)) (some g) → K (a.put o.dst (goInt ms.length)) (w.setCells g (off + k) (bs ms))) :
    if Region.wanted o (yielded ops a.tmps) = true then Oper.wp Tryd.prog o a w K Q else E := by
  have hw : Region.wanted o (yielded ops a.tmps) = true := by simp [Region.wanted, hgd]
  rw [if_pos hw]
  have hsz : (Tryd.prog.info? 5).map (·.size) = some 1 := by
    have := info_u8
    cases hq : Tryd.prog.info? 5 with
    | none => simp [hq] at this
    | some i => simp [hq] at this ⊢; exact this.2.1
  subst hdp
  obtain ⟨b, so, rfl, hbB, _⟩ := hr.byte 0 (by omega)
  have hcells : ∀ j v, (bs ms)[j]? = some v → w.cell? ((⟨b, so, none⟩ : Addr).add j) = some v := fun j v hv => by
    obtain ⟨b', o', he, _, hc⟩ := hr.at j v hv
    simp only [Option.some.injEq, Addr.mk.injEq, and_true] at he
    obtain ⟨rfl, rfl⟩ := he
    rw [Addr.add_lit]
    exact hc
  have hrun := run_copy_cells (P := Tryd.prog) w dT sT o.type _ g (off + k) dLen dCap ⟨b, so, none⟩ sLen sCap (bs ms) hdT hsz (by rw [bs_length]; exact hm) hcells
    (fun j hj => by
      rw [bs_length] at hj
      obtain ⟨u, hu⟩ := OwnG.cellEx own (k + j) (by rw [bs_length]; omega)
      rw [Nat.add_assoc, hu]; rfl)
    (fun j hj => by
      rw [bs_length] at hj
      have hc : l.length ≤ cap := by obtain ⟨a', c', e, hle⟩ := OwnB.shape own; cases e; exact hle
      rw [Nat.add_assoc]
      exact OwnG.frozenAt own (k + j) (by omega)) (bs_one ms)
  obtain ⟨h1, h2⟩ := own.copy k ms hfit
  have h3 := h h1 h2
  unfold Oper.wp
  simp [execOp, ho, resolve, invoke, builtin, hd, hs, hrun, Result.andThen, bs_length]
  have h3' : K (a.put o.dst (Value.int .i64 (ms.length : Int))) (w.setCells g (off + k) (bs ms)) := by simpa [goInt] using h3
  exact h3'

theorem step_call2 {P : Program} {ops : Array Oper} {o : Oper} {a : Act} {w : World} {K : Act → World → Prop} {Q : Exit → Act → World → Prop} {E : Prop} (hg : o.guard = none) (f : FuncId) (x y : Operand) (T : Array TypeId) (ho : o.op = .call { callee := .value (.func f), args := #[x, y], argTypes := T }) (u v : Value) (hx : a.eval x = u) (hy : a.eval y = v)
    (he : ∀ (args : Array Value) (w : World), (callFunc f args).run P w = .ok (.enter f args) w)
    (hc : Calls P f #[u, v] w fun e w'' => ∃ v, e = .returned v ∧ K (a.put o.dst v) w'') : if Region.wanted o (yielded ops a.tmps) = true then Oper.wp P o a w K Q else E := by
  have hw : Region.wanted o (yielded ops a.tmps) = true := by simp [Region.wanted, hg]
  have hrun : (execOp a.eval o).run P w = .ok (.enter f #[u, v]) w := by
    have hfv : a.eval (.func f) = .func (.func f) #[] #[] := rfl
    generalize a.eval = ev at hx hy hfv
    unfold execOp
    simp [ho, resolve, invoke, hx, hy, hfv, he, go_sem]
  rw [if_pos hw]
  unfold Oper.wp
  rw [hrun, Oper.upon_enter]
  refine hc.mono fun e w'' hh => ?_
  obtain ⟨v, rfl, hK⟩ := hh
  exact hK

theorem step_store_row0 {P : Program} {w W' : World} {ops : Array Oper} {o : Oper} {a : Act} {K : Act → World → Prop} {Q : Exit → Act → World → Prop} {E : Prop} (hgd : o.guard = none) (ty : TypeId) (x y : Operand) (ho : o.op = .store ty x y)
    (hd : o.dst = none) (g : Nat) (cells : Array Value) (hx : a.eval x = .pointer (some ⟨g, 0, none⟩)) (hy : a.eval y = .agg cells)
    (t : TypeId) (old : Array Value) (hg : w.heap[g]? = some (.cells old t (0, 0))) (hi : (P.info? ty).map (·.size) = some cells.size)
    (hold : old.size = cells.size) (h1 : cells.all (·.oneCell') = true) (hW : w.setRow g cells = W')
    (h : K a W') : if Region.wanted o (yielded ops a.tmps) = true then Oper.wp P o a w K Q else E := by
  have hw : Region.wanted o (yielded ops a.tmps) = true := by simp [Region.wanted, hgd]
  rw [if_pos hw]
  exact wp_store_row ty x y ho g cells hx hy t old hg hi hold h1 (by rw [hd, hW]; exact h)

/-- what is read stays where the cells that are written lie elsewhere -/
theorem rd_setCells {w : World} {Bd bb ob g k : Nat} {xs ms : List Value} {cur : Array Value} {e : TypeId} {fr : Nat × Nat} (h : Rd w Bd (some ⟨bb, ob, none⟩) xs) (hh : w.heap[g]? = some (.cells cur e fr)) (hs : k + ms.length ≤ cur.size)
    (hap : bb ≠ g ∨ ob + xs.length ≤ k) : Rd (w.setCells g k ms) Bd (some ⟨bb, ob, none⟩) xs := by
  rcases h with h | ⟨b', o', he, hb, hx⟩
  · exact .inl h
  · simp only [Option.some.injEq, Addr.mk.injEq, and_true] at he
    obtain ⟨rfl, rfl⟩ := he
    refine .inr ⟨bb, ob, rfl, hb, fun j u hu => ?_⟩
    have hj : j < xs.length := by
      rcases Nat.lt_or_ge j xs.length with h | h
      · exact h
      · rw [List.getElem?_eq_none h] at hu; cases hu
    obtain ⟨cur', h1, h3, h2, h4, h5⟩ := setCells_heap g ms k w cur e fr hh hs
    by_cases hg : bb = g
    · subst hg
      rw [cell_of_block h1, h2 _ (by omega), ← cell_of_block hh]
      exact hx j u hu
    · exact (World.cell?_of_block (a := ⟨bb, ob + j, none⟩) (h5.block bb (World.block_lt_of_cell? w _ (hx j u hu)) (by simpa using hg))).trans (hx j u hu)

/-- the tree as far as it has come (v), the level below (a slice), the kind -/
def BdI (w : World) (d : List UInt8) (n : Nat) (pre : List (Nat × Nat)) (W : World) : Prop :=
  ∃ (v vb : Value), Boxed W (w.heap.size + 1) 22 v ∧ OwnB W (w.heap.size + 5) v (treeB d n pre.length) ∧
    Boxed W (w.heap.size + 2) 22 vb ∧ Boxed W (w.heap.size + 3) 5 (.int .u8 ((kindL pre.length).toNat : Int)) ∧
    (∃ bb ob cb, vb = .slice (some ⟨bb, ob, none⟩) (64 * cnt n pre.length) cb ∧ 64 * cnt n pre.length ≤ cb ∧ cb ≤ 9223372036854775807 ∧ Rd W W.heap.size (some ⟨bb, ob, none⟩) (bs (lev d n pre.length)) ∧ bb ≠ w.heap.size + 4 ∧
      ((pre = [] ∧ bb < w.heap.size) ∨ (∃ j o c, pre.length = j + 1 ∧ v = .slice (some ⟨bb, o, none⟩) (64 * sumC n (j + 1)) c ∧ ob = o + 64 * sumC n j))) ∧
    W.heap[w.heap.size]? = some (.cells (bs (List.replicate 32 0)).toArray 24 (0, 0)) ∧
    Below w.heap.size w W ∧ w.heap.size + 5 ≤ W.heap.size

/-- within the loop over the sectors below: i hashes are laid -/
def BdL (w : World) (d : List UInt8) (n j g o c bb ob cb : Nat) (W0 : World) (i : Nat) (W : World) : Prop :=
  Boxed W (w.heap.size + 1) 22 (.slice (some ⟨g, o, none⟩) (64 * sumC n (j + 1)) c) ∧
  OwnB W (w.heap.size + 5) (.slice (some ⟨g, o, none⟩) (64 * sumC n (j + 1)) c) (treeB d n j ++ (hashes (kindL j) (lev d n j) i ++ zeros (64 * cnt n (j + 1) - 32 * i))) ∧
  Boxed W (w.heap.size + 2) 22 (.slice (some ⟨bb, ob, none⟩) (64 * cnt n j) cb) ∧ Boxed W (w.heap.size + 3) 5 (.int .u8 ((kindL j).toNat : Int)) ∧
  Rd W W.heap.size (some ⟨bb, ob, none⟩) (bs (lev d n j)) ∧ W.heap[w.heap.size]? = some (.cells (bs (List.replicate 32 0)).toArray 24 (0, 0)) ∧
  W.heap[w.heap.size + 4]? = W0.heap[w.heap.size + 4]? ∧ KeepsOthers W0 W ∧ Below w.heap.size W0 W

def BdLr (w : World) (d : List UInt8) (n j g o c bb ob cb : Nat) (W0 : World) (C : Nat) (vi : Value) (wr : World) : Prop :=
  ∃ i : Nat, vi = .int .i64 (i : Int) ∧ i ≤ C ∧ BdL w d n j g o c bb ob cb W0 i wr

/-- the tree has been made longer -/
theorem bd_longer {w W w1 : World} {d : List UInt8} {n j bb ob cb : Nat} {v v' : Value} (hn : d.length = 64 * n) (hT : Boxed W (w.heap.size + 1) 22 v) (ho : OwnB W (w.heap.size + 5) v (treeB d n j))
    (hB : Boxed W (w.heap.size + 2) 22 (.slice (some ⟨bb, ob, none⟩) (64 * cnt n j) cb)) (hK : Boxed W (w.heap.size + 3) 5 (.int .u8 ((kindL j).toNat : Int)))
    (hrd : Rd W W.heap.size (some ⟨bb, ob, none⟩) (bs (lev d n j))) (hpos : 1 ≤ cnt n j) (hM : 1 ≤ cnt n (j + 1))
    (hcase : (j = 0 ∧ bb < w.heap.size) ∨ (∃ j' o c, j = j' + 1 ∧ v = .slice (some ⟨bb, o, none⟩) (64 * sumC n (j' + 1)) c ∧ ob = o + 64 * sumC n j'))
    (h0 : W.heap[w.heap.size]? = some (.cells (bs (List.replicate 32 0)).toArray 24 (0, 0))) (hsz : w.heap.size + 5 ≤ W.heap.size)
    (ho1 : OwnB w1 (w.heap.size + 5) v' (treeB d n j ++ zeros (64 * cnt n (j + 1)))) (hg : W.grownBy w1 v.ownBlock) (hv : v'.ownBlock = v.ownBlock ∨ v'.ownBlock = some W.heap.size)
    (hk : ∀ g off c, v = .slice (some ⟨g, off, none⟩) (treeB d n j).length c → ∀ i u, (bs (treeB d n j))[i]? = some u → w1.cell? ⟨g, off + i, none⟩ = some u)
    (hoff : ∀ g off c g' off' n' c', v = .slice (some ⟨g, off, none⟩) (treeB d n j).length c → v' = .slice (some ⟨g', off', none⟩) n' c' → g' = g → off' = off) :
    ∃ g o c, v' = .slice (some ⟨g, o, none⟩) (64 * sumC n (j + 1)) c ∧ w.heap.size + 5 ≤ g ∧ 64 * sumC n (j + 1) ≤ c ∧ c ≤ 9223372036854775807 ∧ (bb ≠ g ∨ ob + 64 * cnt n j ≤ o + 64 * sumC n j) ∧
      Boxed w1 (w.heap.size + 1) 22 v ∧ Boxed w1 (w.heap.size + 2) 22 (.slice (some ⟨bb, ob, none⟩) (64 * cnt n j) cb) ∧ BdL w d n j g o c bb ob cb W 0 (w1.setCell ⟨w.heap.size + 1, 0, none⟩ (.slice (some ⟨g, o, none⟩) (64 * sumC n (j + 1)) c)) := by
  have hS := sumC_succ j n
  have hlen : (treeB d n j ++ zeros (64 * cnt n (j + 1))).length = 64 * sumC n (j + 1) := by
    rw [List.length_append, treeB_length d n hn, zeros_length, hS]; omega
  obtain ⟨g, o, c, hv', hg5, hglt, hc, _⟩ := OwnB.form ho1 (by rw [hlen]; omega)
  rw [hlen] at hv' hc
  subst hv'
  have hc9 : c ≤ 9223372036854775807 := by
    rcases ho1.2 with ⟨h, _⟩ | ⟨g', off', cap', cur, lo, hi, h, _, _, _, _, _, h9, _⟩
    · cases h
    · injection h with _ _ h
      unfold maxLen at h9
      omega
  have hblk : ∀ q, q < w.heap.size + 5 → w1.heap[q]? = W.heap[q]? := fun q hq => hg.block q (by omega) (fun e => by have := (OwnB.lt ho q e.symm).1; omega)
  have hT1 : Boxed w1 (w.heap.size + 1) 22 v := (hblk _ (by omega)).trans hT
  have hset : ∀ q, q ≠ w.heap.size + 1 → (w1.setCell ⟨w.heap.size + 1, 0, none⟩ (.slice (some ⟨g, o, none⟩) (64 * sumC n (j + 1)) c)).heap[q]? = w1.heap[q]? := fun q hq => Below.heap_setCell _ _ _ _ hq
  have hss : W.heap.size ≤ (w1.setCell ⟨w.heap.size + 1, 0, none⟩ (.slice (some ⟨g, o, none⟩) (64 * sumC n (j + 1)) c)).heap.size := by simpa using hg.size
  refine ⟨g, o, c, rfl, hg5, hc, hc9, ?_, hT1, (hblk _ (by omega)).trans hB, hT1.set _, ?_, ?_, ?_, ?_, ?_, ?_, ?_, ?_⟩
  · rcases hcase with ⟨_, h⟩ | ⟨j', o', c', rfl, rfl, rfl⟩
    · exact .inl (by omega)
    · by_cases e : bb = g
      · subst e
        have := hoff _ _ _ _ _ _ _ (by rw [treeB_length d n hn]) rfl rfl
        subst this
        right
        rw [sumC_succ j' n]
        omega
      · exact .inl e
  · have h := OwnB.grown ho1 (grownBy_setCell' w1 (w.heap.size + 1) (.slice (some ⟨g, o, none⟩) (64 * sumC n (j + 1)) c)) (.inr (by simp [Value.ownBlock]; omega))
    simpa only [hashes, List.nil_append, Nat.mul_zero, Nat.sub_zero] using h
  · exact (hset _ (by omega)).trans ((hblk _ (by omega)).trans hB)
  · exact (hset _ (by omega)).trans ((hblk _ (by omega)).trans hK)
  · have hrd1 : Rd w1 w1.heap.size (some ⟨bb, ob, none⟩) (bs (lev d n j)) := by
      rcases hcase with ⟨_, h⟩ | ⟨j', o', c', rfl, rfl, rfl⟩
      · rcases hrd with hrd | ⟨b', o', he, hb, hx⟩
        · exact .inl hrd
        · simp only [Option.some.injEq, Addr.mk.injEq, and_true] at he
          obtain ⟨rfl, rfl⟩ := he
          exact .inr ⟨bb, ob, rfl, Nat.lt_of_lt_of_le hb hg.size, fun i u hu => (World.cell?_of_block (a := ⟨bb, ob + i, none⟩) (hblk bb (by omega))).trans (hx i u hu)⟩
      · have hlt := OwnB.lt ho bb rfl
        refine .inr ⟨bb, _, rfl, Nat.lt_of_lt_of_le hlt.2 hg.size, fun i u hu => ?_⟩
        have := hk bb o' c' (by rw [treeB_length d n hn]) (64 * sumC n j' + i) u (by
          rw [treeB, bs_append, List.getElem?_append_right (by rw [bs_length, treeB_length d n hn]; omega), bs_length, treeB_length d n hn, show 64 * sumC n j' + i - 64 * sumC n j' = i by omega]
          exact hu)
        rw [← Nat.add_assoc] at this
        exact this
    rcases hrd1 with h | ⟨b', o', he, hb, hx⟩
    · exact .inl h
    · refine .inr ⟨b', o', he, by simpa using hb, fun i u hu => ?_⟩
      simp only [Option.some.injEq, Addr.mk.injEq, and_true] at he
      obtain ⟨rfl, rfl⟩ := he
      have hb1 : bb ≠ w.heap.size + 1 := by
        rcases hcase with ⟨_, h⟩ | ⟨j', o', c', _, rfl, _⟩
        · omega
        · have := (OwnB.lt ho bb rfl).1; omega
      exact (World.cell?_of_block (a := ⟨bb, ob + i, none⟩) (hset bb hb1)).trans (hx i u hu)
  · exact (hset _ (by omega)).trans ((hblk _ (by omega)).trans h0)
  · exact (hset _ (by omega)).trans (hblk _ (by omega))
  · refine KeepsOthers.trans (KeepsOthers.of_grownBy hg fun q ob hq hh => ?_) (KeepsOthers.setCell _ _ _)
    rcases ho.2 with ⟨h, _⟩ | ⟨g', off', cap', cur, lo, hi, h, h3, h4, _⟩
    · rw [h] at hq; simp [Value.ownBlock] at hq
    · rw [h] at hq; simp [Value.ownBlock] at hq
      subst hq
      rw [h4] at hh; cases hh; rfl
  · exact (below_grown hg (by omega) (fun q hq => by have := (OwnB.lt ho q hq).1; omega)).setCell (p := ⟨w.heap.size + 1, 0, none⟩) (by show w.heap.size ≤ w.heap.size + 1; omega) _

theorem overlay_mid (A H D : List UInt8) (m : Nat) (h : D.length ≤ m) : overlay (A ++ (H ++ zeros m)) (A.length + H.length) D = A ++ ((H ++ D) ++ zeros (m - D.length)) := by
  have e1 : A ++ (H ++ zeros m) = (A ++ H) ++ zeros m := by rw [List.append_assoc]
  have e2 : A.length + H.length = (A ++ H).length := by rw [List.length_append]
  rw [overlay, e1, e2, List.take_left, List.drop_append, List.drop_of_length_le (by omega), List.nil_append, zeros, List.drop_replicate]
  rw [show m - ((A ++ H).length + D.length - (A ++ H).length) = m - D.length by omega]
  simp [zeros]

theorem keepsOthers_below {W W' : World} (h : Below W.heap.size W W') : KeepsOthers W W' := ⟨h.size, fun k o hk _ => (h.block k (lt_of_heap hk)).trans hk⟩

/-- one more hash is laid -/
theorem bd_step {w W0 wr wh : World} {d : List UInt8} {n j g o c bb ob cb i k : Nat} (hn : d.length = 64 * n) (hL : BdL w d n j g o c bb ob cb W0 i wr) (hi : i < cnt n j) (hg : w.heap.size + 5 ≤ g) (hap : bb ≠ g ∨ ob + 64 * cnt n j ≤ o + 64 * sumC n j) (hw0 : w.heap.size ≤ W0.heap.size) (hw5 : w.heap.size + 5 ≤ W0.heap.size)
    (hb : Below wr.heap.size wr wh) (hk : k = 64 * sumC n j + 32 * i)
    (h1 : OwnB (wh.setCells g (o + k) (bs (hashL (kindL j) (secL (lev d n j) i)))) (w.heap.size + 5) (.slice (some ⟨g, o, none⟩) (treeB d n j ++ (hashes (kindL j) (lev d n j) i ++ zeros (64 * cnt n (j + 1) - 32 * i))).length c)
      (overlay (treeB d n j ++ (hashes (kindL j) (lev d n j) i ++ zeros (64 * cnt n (j + 1) - 32 * i))) k (hashL (kindL j) (secL (lev d n j) i))))
    (h2 : wh.grownBy (wh.setCells g (o + k) (bs (hashL (kindL j) (secL (lev d n j) i)))) (some g)) :
    BdL w d n j g o c bb ob cb W0 (i + 1) (wh.setCells g (o + k) (bs (hashL (kindL j) (secL (lev d n j) i)))) := by
  obtain ⟨b1, b2, b3, b4, b5, b6, b7, b8, b9⟩ := hL
  have hC := cnt_succ j n
  have hS := sumC_succ j n
  have hlen : (treeB d n j ++ (hashes (kindL j) (lev d n j) i ++ zeros (64 * cnt n (j + 1) - 32 * i))).length = 64 * sumC n (j + 1) := OwnB.len b2
  have htl := treeB_length d n hn j
  have hhl := hashes_length (kindL j) (lev d n j) i
  rw [hlen] at h1
  have ho : overlay (treeB d n j ++ (hashes (kindL j) (lev d n j) i ++ zeros (64 * cnt n (j + 1) - 32 * i))) k (hashL (kindL j) (secL (lev d n j) i)) = treeB d n j ++ (hashes (kindL j) (lev d n j) (i + 1) ++ zeros (64 * cnt n (j + 1) - 32 * (i + 1))) := by
    rw [hk, ← htl, ← hhl, overlay_mid _ _ _ _ (by rw [hashL_length]; omega), hashL_length]
    rw [hhl, show 64 * cnt n (j + 1) - 32 * i - 32 = 64 * cnt n (j + 1) - 32 * (i + 1) by omega]
    rfl
  rw [ho] at h1
  have hs1 : W0.heap.size ≤ wr.heap.size := b9.size
  have hq : ∀ q, q < w.heap.size + 5 → (wh.setCells g (o + k) (bs (hashL (kindL j) (secL (lev d n j) i)))).heap[q]? = wr.heap[q]? := fun q hq => (h2.block q (by have := hb.size; omega) (by simp; omega)).trans (hb.block q (by omega))
  have b2h := OwnB.below b2 hb
  obtain ⟨g', off', cap', cur, lo, hi', e1, _, e3, e4, _, e5, _, e6⟩ := (show _ from b2h.2.resolve_left (by rintro ⟨h, _⟩; cases h))
  simp only [Value.slice.injEq, Option.some.injEq, Addr.mk.injEq, and_true, true_and] at e1
  obtain ⟨⟨rfl, rfl⟩, _, rfl⟩ := e1
  refine ⟨(hq _ (by omega)).trans b1, h1, (hq _ (by omega)).trans b3, (hq _ (by omega)).trans b4, ?_, (hq _ (by omega)).trans b6, (hq _ (by omega)).trans b7, ?_, ?_⟩
  · have hr := rd_setCells (k := o + k) (ms := bs (hashL (kindL j) (secL (lev d n j) i))) ((b5.below hb).more hb.size) e3 (by rw [bs_length, hashL_length, hk]; omega) (by
      rcases hap with h | h
      · exact .inl h
      · right
        rw [bs_length, lev_length d n hn, hk]
        omega)
    exact hr.more h2.size
  · exact (b8.trans (keepsOthers_below hb)).trans (KeepsOthers.of_grownBy h2 fun q ob hq hh => by cases hq; rw [e3] at hh; cases hh; rfl)
  · exact b9.trans ((hb.mono (by omega)).trans (below_grown h2 (by have := hb.size; omega) (fun q hq => by cases hq; omega)))

/-- a level is whole -/
theorem bd_end {w W0 wr : World} {d : List UInt8} {n g o c bb ob cb ln cc : Nat} {pre : List (Nat × Nat)} {x : Nat × Nat} (hn : d.length = 64 * n) (hL : BdL w d n pre.length g o c bb ob cb W0 (cnt n pre.length) wr)
    (hg : w.heap.size + 5 ≤ g) (hln : ln = 64 * cnt n (pre.length + 1)) (hcc : ln ≤ cc) (hcc2 : cc ≤ 9223372036854775807) (hb0 : Below w.heap.size w W0) (hs0 : w.heap.size + 5 ≤ W0.heap.size) :
    KeepsOthers W0 ((wr.setCell ⟨w.heap.size + 2, 0, none⟩ (.slice (some ⟨g, o + sumC n pre.length * 64, none⟩) ln cc)).setCell ⟨w.heap.size + 3, 0, none⟩ (.int .u8 1)) ∧
    ((wr.setCell ⟨w.heap.size + 2, 0, none⟩ (.slice (some ⟨g, o + sumC n pre.length * 64, none⟩) ln cc)).setCell ⟨w.heap.size + 3, 0, none⟩ (.int .u8 1)).heap[w.heap.size + 4]? = W0.heap[w.heap.size + 4]? ∧
    BdI w d n (pre ++ [x]) ((wr.setCell ⟨w.heap.size + 2, 0, none⟩ (.slice (some ⟨g, o + sumC n pre.length * 64, none⟩) ln cc)).setCell ⟨w.heap.size + 3, 0, none⟩ (.int .u8 1)) := by
  obtain ⟨b1, b2, b3, b4, b5, b6, b7, b8, b9⟩ := hL
  have hC := cnt_succ pre.length n
  have hS := sumC_succ pre.length n
  have htl := treeB_length d n hn
  have hll := lev_length d n hn
  subst hln
  have hq : ∀ q, q ≠ w.heap.size + 2 → q ≠ w.heap.size + 3 → ((wr.setCell ⟨w.heap.size + 2, 0, none⟩ (.slice (some ⟨g, o + sumC n pre.length * 64, none⟩) (64 * cnt n (pre.length + 1)) cc)).setCell ⟨w.heap.size + 3, 0, none⟩ (.int .u8 1)).heap[q]? = wr.heap[q]? :=
    fun q h2 h3 => (Below.heap_setCell _ _ _ _ h3).trans (Below.heap_setCell _ _ _ _ h2)
  have hsz : ((wr.setCell ⟨w.heap.size + 2, 0, none⟩ (.slice (some ⟨g, o + sumC n pre.length * 64, none⟩) (64 * cnt n (pre.length + 1)) cc)).setCell ⟨w.heap.size + 3, 0, none⟩ (.int .u8 1)).heap.size = wr.heap.size := by simp
  have hB3 := Boxed.setOther (v := .int .u8 1) (Boxed.set (.slice (some ⟨g, o + sumC n pre.length * 64, none⟩) (64 * cnt n (pre.length + 1)) cc) b3) (show w.heap.size + 2 ≠ w.heap.size + 3 by omega)
  have hB4 := Boxed.set (.int .u8 1) (Boxed.setOther (v := .slice (some ⟨g, o + sumC n pre.length * 64, none⟩) (64 * cnt n (pre.length + 1)) cc) b4 (show w.heap.size + 3 ≠ w.heap.size + 2 by omega))
  have htree : treeB d n pre.length ++ (hashes (kindL pre.length) (lev d n pre.length) (cnt n pre.length) ++ zeros (64 * cnt n (pre.length + 1) - 32 * cnt n pre.length)) = treeB d n (pre.length + 1) := by
    rw [hC]; rfl
  rw [htree] at b2
  have hlt := OwnB.lt b2 g rfl
  have ho : OwnB ((wr.setCell ⟨w.heap.size + 2, 0, none⟩ (.slice (some ⟨g, o + sumC n pre.length * 64, none⟩) (64 * cnt n (pre.length + 1)) cc)).setCell ⟨w.heap.size + 3, 0, none⟩ (.int .u8 1)) (w.heap.size + 5) (.slice (some ⟨g, o, none⟩) (64 * sumC n (pre.length + 1)) c) (treeB d n (pre.length + 1)) :=
    OwnG.keep b2 (fun q hq' _ => by simp [Value.ownBlock] at hq'; exact hq q (by omega) (by omega))
  have hBw := ((Below.refl w.heap.size wr).setCell (p := ⟨w.heap.size + 2, 0, none⟩) (by show w.heap.size ≤ w.heap.size + 2; omega) (.slice (some ⟨g, o + sumC n pre.length * 64, none⟩) (64 * cnt n (pre.length + 1)) cc)).setCell (p := ⟨w.heap.size + 3, 0, none⟩) (by show w.heap.size ≤ w.heap.size + 3; omega) (.int .u8 1)
  generalize ((wr.setCell ⟨w.heap.size + 2, 0, none⟩ (.slice (some ⟨g, o + sumC n pre.length * 64, none⟩) (64 * cnt n (pre.length + 1)) cc)).setCell ⟨w.heap.size + 3, 0, none⟩ (.int .u8 1)) = W' at hq hsz hB3 hB4 ho hBw ⊢
  have hqs : w.heap.size + 5 ≤ wr.heap.size := by have := b9.size; omega
  have hKO : KeepsOthers wr W' := by
    refine ⟨by omega, fun q ob hq' hc => ?_⟩
    rw [hq q (fun e => ?_) (fun e => ?_)]
    · exact hq'
    · subst e; rw [show wr.heap[w.heap.size + 2]? = _ from b3] at hq'; cases hq'; cases hc
    · subst e; rw [show wr.heap[w.heap.size + 3]? = _ from b4] at hq'; cases hq'; cases hc
  have ho' : OwnB W' (w.heap.size + 5) (.slice (some ⟨g, o, none⟩) (treeB d n (pre.length + 1)).length c) (treeB d n (pre.length + 1)) := by rw [htl]; exact ho
  refine ⟨b8.trans hKO, (hq _ (by omega) (by omega)).trans b7, _, _, (hq _ (by omega) (by omega)).trans b1, ?_, hB3, ?_, ?_, (hq _ (by omega) (by omega)).trans b6, hb0.trans (b9.trans hBw), by omega⟩
  · simpa using ho
  · simpa [kindL] using hB4
  · refine ⟨g, o + sumC n pre.length * 64, cc, by simp, by simpa using hcc, hcc2, ?_, by omega, .inr ⟨pre.length, o, c, by simp, rfl, by omega⟩⟩
    refine .inr ⟨g, _, rfl, by omega, fun i u hu => ?_⟩
    have hu' : (bs (lev d n (pre.length + 1)))[i]? = some u := by simpa using hu
    have := OwnG.cellAt ho' (64 * sumC n pre.length + i) u (by
      rw [treeB, bs_append, List.getElem?_append_right (by rw [bs_length, htl]; omega), bs_length, htl, show 64 * sumC n pre.length + i - 64 * sumC n pre.length = i by omega]
      exact hu')
    rw [← this]
    congr 2
    omega

theorem own_kept {W W' : World} {B T base n size : Nat} {e : TypeId} {v : Value} {xs : List Value} (h : OwnG W base e size v n xs) (hk : Kept B T W W') (hB : B < base) : OwnG W' base e size v n xs := by
  obtain ⟨h1, h2⟩ := h
  refine ⟨h1, ?_⟩
  rcases h2 with h2 | ⟨g, off, cap, cur, lo, hi, h2, h3, h4, h5⟩
  · exact .inl h2
  · exact .inr ⟨g, off, cap, cur, lo, hi, h2, h3, hk.blk g _ h4 (by omega) (.inr rfl), h5⟩
theorem rd_kept {W W' : World} {B T bb ob Bd : Nat} {xs : List Value} (h : Rd W Bd (some ⟨bb, ob, none⟩) xs) (hk : Kept B T W W') (hB : bb ≠ B) : Rd W' Bd (some ⟨bb, ob, none⟩) xs := by
  rcases h with h | ⟨b', o', he, hb, hx⟩
  · exact .inl h
  · simp only [Option.some.injEq, Addr.mk.injEq, and_true] at he
    obtain ⟨rfl, rfl⟩ := he
    refine .inr ⟨bb, ob, rfl, hb, fun j u hu => ?_⟩
    have h1 := hx j u hu
    cases ho : W.heap[bb]? with
    | none => simp [World.cell?, ho] at h1
    | some o =>
      have hc : o.isCells = true := by cases o <;> simp [World.cell?, ho] at h1 <;> rfl
      exact (World.cell?_of_block (a := ⟨bb, ob + j, none⟩) ((hk.blk bb o ho hB (.inr hc)).trans ho.symm)).trans h1

set_option maxRecDepth 100000 in
set_option maxHeartbeats 2000000 in
theorem mbuild_any (d : List UInt8) (ad : Option Addr) (nd cd : Nat) (w : World) (hl : d.length = nd) (hc : nd ≤ cd) (hc2 : cd ≤ 9223372036854775807) (hr : Rd w w.heap.size ad (bs d)) (hk : KOK w) (hok : okB d) :
    Calls Tryd.prog 10 #[.slice ad nd cd] w fun e w' => ∃ v, e = .returned (.tuple #[v, .agg (bs (rootL d)).toArray, .int .i64 0]) ∧ OwnB w' w.heap.size v (treeL d) ∧ Below w.heap.size w w' := by
  refine (callsIn_wide (n := 4)).1 ?_
  refine callsIn_of_wp_marks Tryd.func10 rfl trivial ?_ rfl
  simp only [Tryd.ntmps10, List.size_toArray, List.length_cons, List.length_nil, Nat.reduceAdd, Nat.reduceSub, Array.replicate_succ, Array.replicate_zero, List.push_toArray, List.append_toArray, List.nil_append, List.cons_append]
  obtain ⟨hm, hn1, hn2⟩ := hok
  obtain ⟨n, hn⟩ : ∃ n, d.length / 64 = n := ⟨_, rfl⟩
  have hnd : nd = 64 * n := by omega
  have q1 : (nd : Int) / 64 = (n : Int) := by omega
  have q2 : (nd : Int) % 64 = 0 := by omega
  have q3 : ¬ ((n : Int) < 1) := by omega
  have q4 : ¬ ((2048 : Int) < (n : Int)) := by omega
  obtain ⟨bd, od, rfl, hbd, _⟩ := hr.byte 0 (by omega)
  gi_wp2
  refine ⟨trivial, ?_⟩
  refine (callsIn_wide.2 (levels_any _ _)).mono ?_
  rintro e w' ⟨rfl, rfl⟩
  gi_wp2
  obtain ⟨wa, hwa⟩ : ∃ wa, w.alloc (.cells (bs (List.replicate 32 0)).toArray 24) = wa := ⟨_, rfl⟩
  have ha0 : wa.heap[w.heap.size]? = some (.cells (bs (List.replicate 32 0)).toArray 24 (0, 0)) := by rw [← hwa]; exact World.alloc_heap_new _ _
  have hba : Below w.heap.size w wa := by rw [← hwa]; exact (Below.refl _ _).alloc (Nat.le_refl _) _
  have hsa : wa.heap.size = w.heap.size + 1 := by rw [← hwa]; exact World.size_alloc _ _
  obtain ⟨wb, hwb⟩ : ∃ wb, (((wa.alloc (.cells #[.slice none 0 0] 22)).alloc (.cells #[.slice (some ⟨bd, od, none⟩) (64 * n) cd] 22)).alloc (.cells #[.int .u8 0] 5)).alloc (.cells #[.int .i64 (n : Int)] 3) = wb := ⟨_, rfl⟩
  have hsb : wb.heap.size = w.heap.size + 5 := by rw [← hwb]; simp [hsa]
  have hbb : Below w.heap.size w wb := by
    rw [← hwb]
    exact (((hba.alloc (by omega) _).alloc (by simp; omega) _).alloc (by simp; omega) _).alloc (by simp; omega) _
  have bT : Boxed wb (w.heap.size + 1) 22 (.slice none 0 0) := by
    rw [← hwb, ← hsa]; exact ((((Boxed.new wa _ _).alloc _).alloc _).alloc _)
  have bB : Boxed wb (w.heap.size + 2) 22 (.slice (some ⟨bd, od, none⟩) (64 * n) cd) := by
    have := ((Boxed.new (wa.alloc (.cells #[.slice none 0 0] 22)) 22 (.slice (some ⟨bd, od, none⟩) (64 * n) cd)).alloc (.cells #[.int .u8 0] 5)).alloc (.cells #[.int .i64 (n : Int)] 3)
    rw [World.size_alloc, hsa] at this
    rw [← hwb]; exact this
  have bK : Boxed wb (w.heap.size + 3) 5 (.int .u8 0) := by
    have := (Boxed.new ((wa.alloc (.cells #[.slice none 0 0] 22)).alloc (.cells #[.slice (some ⟨bd, od, none⟩) (64 * n) cd] 22)) 5 (.int .u8 0)).alloc (.cells #[.int .i64 (n : Int)] 3)
    rw [World.size_alloc, World.size_alloc, hsa] at this
    rw [← hwb]; exact this
  have bN : Boxed wb (w.heap.size + 4) 3 (.int .i64 (n : Int)) := by
    have := Boxed.new (((wa.alloc (.cells #[.slice none 0 0] 22)).alloc (.cells #[.slice (some ⟨bd, od, none⟩) (64 * n) cd] 22)).alloc (.cells #[.int .u8 0] 5)) 3 (.int .i64 (n : Int))
    rw [World.size_alloc, World.size_alloc, World.size_alloc, hsa] at this
    rw [← hwb]; exact this
  have hb0 : wb.heap[w.heap.size]? = some (.cells (bs (List.replicate 32 0)).toArray 24 (0, 0)) := by
    rw [← ha0, ← hwb]
    rw [Below.heap_alloc _ _ _ (by simp; omega), Below.heap_alloc _ _ _ (by simp; omega), Below.heap_alloc _ _ _ (by simp; omega), Below.heap_alloc _ _ _ (by omega)]
  have hrb : Rd wb wb.heap.size (some ⟨bd, od, none⟩) (bs d) := (hr.below hbb).more hbb.size
  refine hgoalIn (hwa ▸ hwb) ?_
  clear hwb
  refine range_box (gf := 28) (lb := #[.pointer (some ⟨w.heap.size + 4, 0, none⟩)]) rfl (enters_of Tryd.func28 (by kernel_rfl) rfl)
    (lv_gives _ n (w.heap.size + 4) (by omega)) (fun _ => rfl) bN (fun W h => h)
    (BdI w d n)
    (fun pre W W' hk hI => ?keep) ⟨_, _, bT, OwnB.nil _ _, bB, bK, ⟨bd, od, _, rfl, by show 64 * n ≤ cd; omega, by omega, hrb, by omega, .inl ⟨rfl, hbd⟩⟩, hb0, hbb, by omega⟩
    (fun x => { tmps := (#[.slice (some ⟨bd, od, none⟩) (64 * n) cd, undef, .slice none 0 0, .pointer (some ⟨w.heap.size, 0, none⟩), .int .i64 0, .int .i64 (n : Int), .pointer (some ⟨w.heap.size + 1, 0, none⟩), .pointer (some ⟨w.heap.size + 2, 0, none⟩), .pointer (some ⟨w.heap.size + 3, 0, none⟩), .int .i64 (x.1 : Int), .int .i64 (x.2 : Int), undef, undef, .slice (some ⟨bd, od, none⟩) (64 * n) cd, .int .i64 (64 * (n : Int)), .int .i64 (n : Int), .slice (some ⟨bd, od, none⟩) (64 * n) cd, .int .i64 (64 * (n : Int)), .int .i64 0, .bool false, .bool false, .int .i64 (n : Int), .bool false, .bool false, .bool false, .int .i64 (n : Int), .bool false, .bool false, undef, .slice (some ⟨bd, od, none⟩) (64 * n) cd, .int .i64 (n : Int), .func (.func 28) #[] #[.pointer (some ⟨w.heap.size + 4, 0, none⟩)], .int .i64 (x.1 : Int), .int .i64 (x.2 : Int), undef, undef, undef, undef, undef, undef, undef, undef, undef, undef, undef, undef, undef, undef, undef, undef, undef, undef, undef, undef, undef, undef, undef, undef, undef, undef, undef, undef, undef, undef, undef, undef, undef, undef, undef] : Array Value), defers := [] }) ?assign ?body ?done
  case keep =>
    obtain ⟨v, vb, h1, h2, h3, h4, ⟨bb, ob, cb, h5, h6, h6', h7, h7', h8⟩, h9, h10, h11⟩ := hI
    exact ⟨v, vb, Boxed.keptBox h1 hk (by omega), own_kept h2 hk (by omega), Boxed.keptBox h3 hk (by omega), Boxed.keptBox h4 hk (by omega), ⟨bb, ob, cb, h5, h6, h6', (rd_kept h7 hk h7').more hk.size, h7', h8⟩,
      hk.blk _ _ h9 (by omega) (.inr rfl), hk.below h10 (by omega) (by omega) (Nat.le_refl _), Nat.le_trans h11 hk.size⟩
  case assign =>
    intro l x W K hK
    gi_wp2
    exact hK
  case body =>
    rintro l pre ⟨x1, x2⟩ post W hx ⟨v, vb, hT, ho, hBx, hKx, ⟨bb, ob, cb, rfl, hcb, hcb2, hrd, hb4, hcase⟩, h0, hBel, hsz⟩
    obtain ⟨e1, e2⟩ := lvs_at n pre _ post hx
    obtain ⟨m1, m2⟩ := lvs_mem n (x1, x2) (by rw [hx]; simp)
    simp only at e1 e2 m1 m2
    obtain ⟨j, hj⟩ : ∃ j, pre.length = j := ⟨_, rfl⟩
    rw [hj] at ho hKx hcb hrd hcase hBx e1 e2
    have hcase' : (j = 0 ∧ bb < w.heap.size) ∨ (∃ j' o c, j = j' + 1 ∧ v = .slice (some ⟨bb, o, none⟩) (64 * sumC n (j' + 1)) c ∧ ob = o + 64 * sumC n j') := by
      rcases hcase with ⟨h, h'⟩ | h
      · subst h; exact .inl ⟨hj.symm, h'⟩
      · exact .inr h
    have hn' : d.length = 64 * n := by omega
    have hC1 := cnt_pos j n (by omega)
    have hC2 := cnt_le j n (by omega)
    have hM := cnt_succ j n
    have hS := sumC_succ j n
    have KK := fun v' w1 ho1 hg1 hv1 hk1 hoff1 => bd_longer (w1 := w1) (v' := v') hn' hT ho hBx hKx hrd hC1 (by omega) hcase' h0 hsz ho1 hg1 hv1 hk1 hoff1
    rw [← e2] at KK
    replace KK := Lib.hid KK
    have htl := treeB_length d n hn' j
    obtain ⟨C, hCe⟩ : ∃ C, cnt n j = C := ⟨_, rfl⟩
    obtain ⟨S, hSe⟩ : ∃ S, sumC n (j + 1) = S := ⟨_, rfl⟩
    rw [hCe] at hcb hC1 hC2 hM KK
    rw [hSe] at KK hS
    rw [← e1] at htl
    have hS1 : S ≤ x1 + x2 := by omega
    have hS2 : x1 + x2 ≤ S := by omega
    have HS := Lib.hid hS
    have HM := Lib.hid hM
    have HE := Lib.hid (And.intro e1 e2)
    have HC := Lib.hid hCe
    have HSE := Lib.hid hSe
    have HJ := Lib.hid hj
    have HX := Lib.hid hx
    have hM2 : 2 * x2 ≤ C + 1 := by omega
    have hM3 : C ≤ 2 * x2 := by omega
    clear hS hM e1 e2 hCe hSe hj hx
    have hcT := hT.cell
    have hM1 : 1 ≤ x2 := by omega
    clear hT hBx hKx hrd hcase hcase' h0
    gi_wp2_with (gi_at_builtin; refine wpListIn_appz rfl _ _ rfl (w.heap.size + 5) v (treeB d n j) rfl ho (64 * x2) _ rfl (by push_cast; omega) (by rw [htl]; omega) hsz ?_; intro v' w1 ho1 hg1 hv1 hk1 hoff1; obtain ⟨g, o, c, rfl, hg5, hcc, hc9, hap, hT1, hB1, hL⟩ := KK.out v' w1 ho1 hg1 hv1 hk1 hoff1; have hcT1 := hT1.cell; have hfT1 := hT1.frozen; have hcB1 := hB1.cell; have HL := Lib.hid hL; have HAP := Lib.hid hap; clear hk1 hoff1 ho1 hv1 hg1 hL hap hT1 hB1)
    gi_loopw [45] (fun vi wr => BdLr w d n j g o c bb ob cb W C vi wr) (fun vi _ => C - (intOf vi).toNat)
    case atStart => exact ⟨0, rfl, Nat.zero_le _, HL.out⟩
    case round =>
      obtain ⟨i, rfl, hi, hs⟩ := hrel
      have HB := Lib.hid hs
      have i0 : (0 : Int) ≤ (i : Int) := Int.natCast_nonneg i
      clear hs HL
      by_cases hgo : i < C
      · have hgoI : (i : Int) < (C : Int) := by omega
        have l64 : (i + 1) * 64 - i * 64 = 64 := by omega
        have w1 : IntKind.i64.wrap ((i : Int) * 32) = (i : Int) * 32 := by rw [IntKind.wrap_i64]; omega
        have w2 : IntKind.i64.wrap ((i : Int) * 64) = (i : Int) * 64 := by rw [IntKind.wrap_i64]; omega
        have w3 : IntKind.i64.wrap ((i : Int) + 1) = (i : Int) + 1 := by rw [IntKind.wrap_i64]; omega
        have w4 : IntKind.i64.wrap (((i : Int) + 1) * 64) = ((i : Int) + 1) * 64 := by rw [IntKind.wrap_i64]; omega
        have c1 : 0 ≤ (i : Int) * 32 := by omega
        have c1' : (i : Int) * 32 ≤ ((64 * S - x1 * 64 : Nat) : Int) := by omega
        have c2 : ¬ (c - x1 * 64 = i * 32) := by omega
        have c3 : 0 ≤ (i : Int) * 64 := by omega
        have c3' : (i : Int) * 64 ≤ ((i : Int) + 1) * 64 := by omega
        have c4 : 0 ≤ ((i : Int) + 1) * 64 := by omega
        have c6 : (i : Int) ≤ (i : Int) + 1 := by omega
        have c4' : ((i : Int) + 1) * 64 ≤ (cb : Int) := by omega
        have c5 : ¬ (cb = i * 64) := by omega
        have t1 : ((i : Int) * 32).toNat = i * 32 := by omega
        have t2 : ((i : Int) * 64).toNat = i * 64 := by omega
        have t3 : (((i : Int) + 1) * 64).toNat = (i + 1) * 64 := by omega
        gi_upto_region 14 with (fail)
        obtain ⟨b1, b2, b3, b4, b5, b6, b7, b8, b9⟩ := HB.out
        have hkW : KOK wr := hk.below (hBel.trans b9)
        have hsec : Rd wr wr.heap.size (some ⟨bb, ob + i * 64, none⟩) (bs (secL (lev d n j) i)) := by
          have := (b5.drop (64 * i)).take 64
          rw [← bs_drop, ← bs_take] at this
          have e : (some ⟨bb, ob, none⟩ : Option Addr).map (·.add (64 * i)) = some ⟨bb, ob + i * 64, none⟩ := by simp [Addr.add_lit, Nat.mul_comm]
          rw [e] at this
          exact this
        have hsl : (secL (lev d n j) i).length = 64 := secL_length _ i _ (lev_length d n hn' j) (by rw [HC.out]; exact hgo)
        have HH := Lib.hid (hash_any (kindL j) (secL (lev d n j) i) (some ⟨bb, ob + i * 64, none⟩) 64 (cb - i * 64) wr.drew hsl (by omega) (by omega) hsec.drew hkW)
        rw [HC.out] at b3
        have HB3 := Lib.hid b3
        have HB4 := Lib.hid b4
        clear b1 b2 b3 b4 b5 b6 b7 b8 b9 hkW hsec hsl
        refine region_round (S := fun wx => Boxed wx (w.heap.size + 2) 22 (.slice (some ⟨bb, ob, none⟩) (64 * C) cb) ∧ Boxed wx (w.heap.size + 3) 5 (.int .u8 ((kindL j).toNat : Int))) (by kernel_rfl) (fun a w h => h) (by kernel_rfl) ⟨HB3.out, HB4.out⟩ (fun hHeld => ?_)
        refine take_at (i := 0) (v := ?v0) 48 rfl rfl (by kernel_rfl) (by kernel_rfl) (by kernel_rfl) (fun _ _ _ h => h) (Or.inl ⟨by rfl, ?hy0⟩) hHeld ?r0
        case hy0 => intro wx hSw; have hs1 := hSw.1.cell; have hs2 := hSw.2.cell; go_simp; try with_reducible rfl
        try simp only [Act.put, List.setIfInBounds_toArray, List.set_cons_zero, List.set_cons_succ]
        refine take_at (i := 1) (v := ?v1) 49 rfl rfl (by kernel_rfl) (by kernel_rfl) (by kernel_rfl) (fun _ _ _ h => h) (Or.inl ⟨by rfl, ?hy1⟩) hHeld ?r1
        case hy1 => intro wx hSw; have hs1 := hSw.1.cell; have hs2 := hSw.2.cell; go_simp; try with_reducible rfl
        try simp only [Act.put, List.setIfInBounds_toArray, List.set_cons_zero, List.set_cons_succ]
        refine take_at (i := 2) (v := ?v2) 50 rfl rfl (by kernel_rfl) (by kernel_rfl) (by kernel_rfl) (fun _ _ _ h => h) (Or.inl ⟨by rfl, ?hy2⟩) hHeld ?r2
        case hy2 => intro wx hSw; have hs1 := hSw.1.cell; have hs2 := hSw.2.cell; go_simp; try with_reducible rfl
        try simp only [Act.put, List.setIfInBounds_toArray, List.set_cons_zero, List.set_cons_succ]
        refine take_at (i := 3) (v := ?v3) 51 rfl rfl (by kernel_rfl) (by kernel_rfl) (by kernel_rfl) (fun _ _ _ h => h) (Or.inl ⟨by rfl, ?hy3⟩) hHeld ?r3
        case hy3 => intro wx hSw; have hs1 := hSw.1.cell; have hs2 := hSw.2.cell; go_simp; try with_reducible rfl
        try simp only [Act.put, List.setIfInBounds_toArray, List.set_cons_zero, List.set_cons_succ]
        refine take_at (i := 4) (v := ?v4) 52 rfl rfl (by kernel_rfl) (by kernel_rfl) (by kernel_rfl) (fun _ _ _ h => h) (Or.inl ⟨by rfl, ?hy4⟩) hHeld ?r4
        case hy4 => intro wx hSw; have hs1 := hSw.1.cell; have hs2 := hSw.2.cell; go_simp; try with_reducible rfl
        try simp only [Act.put, List.setIfInBounds_toArray, List.set_cons_zero, List.set_cons_succ]
        refine take_at (i := 5) (v := ?v5) 53 rfl rfl (by kernel_rfl) (by kernel_rfl) (by kernel_rfl) (fun _ _ _ h => h) (Or.inl ⟨by rfl, ?hy5⟩) hHeld ?r5
        case hy5 => intro wx hSw; have hs1 := hSw.1.cell; have hs2 := hSw.2.cell; go_simp; try with_reducible rfl
        try simp only [Act.put, List.setIfInBounds_toArray, List.set_cons_zero, List.set_cons_succ]
        refine take_at (i := 6) (v := ?v6) 54 rfl rfl (by kernel_rfl) (by kernel_rfl) (by kernel_rfl) (fun _ _ _ h => h) (Or.inl ⟨by rfl, ?hy6⟩) hHeld ?r6
        case hy6 => intro wx hSw; have hs1 := hSw.1.cell; have hs2 := hSw.2.cell; go_simp; try with_reducible rfl
        try simp only [Act.put, List.setIfInBounds_toArray, List.set_cons_zero, List.set_cons_succ]
        refine take_at (i := 7) (v := ?v7) 55 rfl rfl (by kernel_rfl) (by kernel_rfl) (by kernel_rfl) (fun _ _ _ h => h) (Or.inl ⟨by rfl, ?hy7⟩) hHeld ?r7
        case hy7 => intro wx hSw; have hs1 := hSw.1.cell; have hs2 := hSw.2.cell; go_simp; try with_reducible rfl
        try simp only [Act.put, List.setIfInBounds_toArray, List.set_cons_zero, List.set_cons_succ]
        refine take_at (i := 8) (v := ?v8) 56 rfl rfl (by kernel_rfl) (by kernel_rfl) (by kernel_rfl) (fun _ _ _ h => h) (Or.inl ⟨by rfl, ?hy8⟩) hHeld ?r8
        case hy8 => intro wx hSw; have hs1 := hSw.1.cell; have hs2 := hSw.2.cell; go_simp; try with_reducible rfl
        try simp only [Act.put, List.setIfInBounds_toArray, List.set_cons_zero, List.set_cons_succ]
        refine take_at (i := 9) (v := ?v9) 57 rfl rfl (by kernel_rfl) (by kernel_rfl) (by kernel_rfl) (fun _ _ _ h => h) (Or.inl ⟨by rfl, ?hy9⟩) hHeld ?r9
        case hy9 => intro wx hSw; have hs1 := hSw.1.cell; have hs2 := hSw.2.cell; go_simp; try with_reducible rfl
        try simp only [Act.put, List.setIfInBounds_toArray, List.set_cons_zero, List.set_cons_succ]
        refine take_at (i := 10) (v := ?v10) 58 rfl rfl (by kernel_rfl) (by kernel_rfl) (by kernel_rfl) (fun _ _ _ h => h) (Or.inl ⟨by rfl, ?hy10⟩) hHeld ?r10
        case hy10 => intro wx hSw; have hs1 := hSw.1.cell; have hs2 := hSw.2.cell; go_simp; try with_reducible rfl
        try simp only [Act.put, List.setIfInBounds_toArray, List.set_cons_zero, List.set_cons_succ]
        refine take_at (i := 11) (v := ?v11) 59 rfl rfl (by kernel_rfl) (by kernel_rfl) (by kernel_rfl) (fun _ _ _ h => h) (Or.inl ⟨by rfl, ?hy11⟩) hHeld ?r11
        case hy11 => intro wx hSw; have hs1 := hSw.1.cell; have hs2 := hSw.2.cell; go_simp; try with_reducible rfl
        try simp only [Act.put, List.setIfInBounds_toArray, List.set_cons_zero, List.set_cons_succ]
        refine wpAnyH_ready (rs := [12]) (by kernel_rfl) (by simp) ?_
        refine cons_at (some 60) rfl rfl (fun hdst K hK => ?_) AllReadyH.nil
        refine step_call2 (by rfl) 21 (.tmp 52) (.tmp 59) #[5, 22] (by rfl) (.int .u8 ((kindL j).toNat : Int)) (.slice (some ⟨bb, ob + i * 64, none⟩) 64 (cb - i * 64)) (by rfl) (by rfl) (enters_of Tryd.func21 (by kernel_rfl) rfl) ?_
        refine HH.out.mono ?_
        rintro e wh ⟨gh, rfl, hgh, hBh, hbh⟩
        refine ⟨_, rfl, ?_⟩
        have hbd' : Below wr.heap.size wr wh := ((Below.refl _ wr).drew).trans hbh
        have hl1 := HB.out.2.2.1.lt
        have hl2 := HB.out.2.2.2.1.lt
        have hB3 : Boxed wh (w.heap.size + 2) 22 (.slice (some ⟨bb, ob, none⟩) (64 * C) cb) := (hbd'.block _ hl1).trans HB3.out
        have hB4 : Boxed wh (w.heap.size + 3) 5 (.int .u8 ((kindL j).toNat : Int)) := (hbd'.block _ hl2).trans HB4.out
        refine hK.out _ _ ⟨hB3, hB4⟩ (fun hHeld => ?_)
        clear hK K
        try rw [hdst]
        clear hdst
        try simp only [Act.put, List.setIfInBounds_toArray, List.set_cons_zero, List.set_cons_succ]
        refine wpAnyH_ready (rs := [13]) (by kernel_rfl) (by simp) ?_
        refine cons_at (some 61) rfl rfl (fun hdst K hK => ?_) AllReadyH.nil
        have hlen := OwnB.len HB.out.2.1
        have own : OwnB wh (w.heap.size + 5) (.slice (some ⟨g, o, none⟩) (treeB d n j ++ (hashes (kindL j) (lev d n j) i ++ zeros (64 * cnt n (j + 1) - 32 * i))).length c) (treeB d n j ++ (hashes (kindL j) (lev d n j) i ++ zeros (64 * cnt n (j + 1) - 32 * i))) := by
          rw [hlen]; exact OwnB.below HB.out.2.1 hbd'
        have hrh : Rd wh wh.heap.size (some ⟨gh, 0, none⟩) (bs (hashL (kindL j) (secL (lev d n j) i))) := .inr ⟨gh, 0, rfl, lt_of_heap hBh, fun q u hu => by rw [Nat.zero_add]; exact hBh.cell q u hu⟩
        have hS' := HSE.out
        refine step_copyB (by rfl) (.tmp 51) (.tmp 60) 22 22 (by rfl) Tryd.underlying22 (some ⟨g, o + x1 * 64 + i * 32, none⟩) (some ⟨gh, 0, none⟩) (64 * S - x1 * 64 - i * 32) (c - x1 * 64 - i * 32) 32 32 (by rfl) (by rfl) (w.heap.size + 5) g o c _ own (x1 * 64 + i * 32) (hashL (kindL j) (secL (lev d n j) i))
          (by rw [hashL_length]; show 32 = min 32 _; omega) (by rw [hashL_length, hlen, hS']; omega) (by rw [hashL_length]; omega) (by rw [Nat.add_assoc]) hrh ?_
        intro h1 h2
        have hgC := HC.out
        have hap' := HAP.out
        rw [← hgC] at hap'
        have hnew := bd_step hn' HB.out (by rw [hgC]; exact hgo) hg5 hap' hBel.size hsz hbd' (by have := HE.out.1; omega) h1 h2
        have hl1' := (show Boxed _ (w.heap.size + 2) 22 (.slice (some ⟨bb, ob, none⟩) (64 * C) cb) from hgC ▸ hnew.2.2.1)
        refine hK.out _ _ ⟨hl1', hnew.2.2.2.1⟩ (fun hHeld => ?_)
        clear hK K
        try rw [hdst]
        clear hdst
        try simp only [Act.put, List.setIfInBounds_toArray, List.set_cons_zero, List.set_cons_succ]
        have HN := Lib.hid hnew
        clear hnew hl1' h1 h2 hrh own hlen hHeld hB3 hB4 hbd' hbh hBh
        refine wpAnyH_done (by kernel_rfl) ?_ _
        generalize wh.setCells g (o + (x1 * 64 + i * 32)) (bs (hashL (kindL j) (secL (lev d n j) i))) = wq at HN ⊢
        gi_wp2
        go_roundw
        case rel => exact ⟨i + 1, by push_cast; rfl, hgo, HN.out⟩
        case measure => simp [intOf]; omega
      · have : i = C := by omega
        subst this
        have hcK := HB.out.2.2.2.1.cell
        have hfK := HB.out.2.2.2.1.frozen
        have hcB := HB.out.2.2.1.cell
        have hfB := HB.out.2.2.1.frozen
        gi_wp2
        have hj := HJ.out
        subst hj
        have hE := HE.out
        have hC := HC.out
        have hBB := HB.out
        have hSS := HS.out
        rw [← hC] at hBB
        rw [hE.1]
        exact bd_end hn' hBB hg5 (by omega) (by omega) (by omega) hBel hsz
  case done =>
    rintro D W hD ⟨v, vb, hT, ho, hB, hK1, ⟨bb, ob, cb, rfl, hcb, hcb2, hrd, _, _⟩, h0, hBel, hsz⟩ hDef
    rw [hsb] at hD
    gi_upto_region 17 with (fail)
    refine wpIn_wide.2 ?_
    have htl := treeB_length d n (by omega) (nlev n)
    have hll := lev_length d n (by omega) (nlev n)
    have hnl : (lvs (n : Int)).length = nlev n := rfl
    have hlast : cnt n (nlev n) = 1 := by
      have := lvs_more n (nlev n) (by omega) (by omega) (Nat.le_refl _)
      have h0 := lvs_pos n (by omega) (by omega)
      have h1 := cnt_pos (nlev n) n (by omega)
      rw [hnl] at this h0
      have h2 : ¬ (nlev n = 0 ∨ 1 < cnt n (nlev n)) := fun h => Nat.lt_irrefl _ (this.2 h)
      omega
    rw [hnl, hlast] at hcb hB
    rw [hnl] at ho hrd hK1
    have hkW : KOK W := hk.below hBel
    have HH := Lib.hid (hash_any 1 (lev d n (nlev n)) (some ⟨bb, ob, none⟩) 64 cb W.drew (by rw [hll, hlast]) (by omega) hcb2 hrd.drew hkW)
    have HT := Lib.hid hT
    have HB := Lib.hid hB
    have HO := Lib.hid ho
    have HBel := Lib.hid hBel
    have H0 := Lib.hid h0
    have HDef := Lib.hid hDef
    clear hT hB ho hBel h0 hDef hrd hkW hK1
    refine wp_mono (Q := fun e a' w' => e = .normal ∧ Exit.then _ _ .normal a' w') ?_ (fun e a' w' hh => by obtain ⟨rfl, hh⟩ := hh; exact hh)
    refine wp_region_held_drew (S := fun wx => Boxed wx (w.heap.size + 1) 22 v ∧ Boxed wx (w.heap.size + 1 + 1) 22 (.slice (some ⟨bb, ob, none⟩) (64 * 1) cb)) (by kernel_rfl) ⟨HT.out, HB.out⟩ (fun hHeld => ?_)
    refine take_at (i := 0) (v := ?ve0) 64 rfl rfl (by kernel_rfl) (by kernel_rfl) (by kernel_rfl) (fun _ _ _ h => by cases h.1) (Or.inl ⟨by rfl, ?hye0⟩) hHeld ?re0
    case hye0 => intro wx hSw; have hs1 := hSw.1.cell; have hs2 := hSw.2.cell; go_simp; try with_reducible rfl
    try simp only [Act.put, List.setIfInBounds_toArray, List.set_cons_zero, List.set_cons_succ]
    refine take_at (i := 1) (v := ?ve1) 65 rfl rfl (by kernel_rfl) (by kernel_rfl) (by kernel_rfl) (fun _ _ _ h => by cases h.1) (Or.inl ⟨by rfl, ?hye1⟩) hHeld ?re1
    case hye1 => intro wx hSw; have hs1 := hSw.1.cell; have hs2 := hSw.2.cell; go_simp; try with_reducible rfl
    try simp only [Act.put, List.setIfInBounds_toArray, List.set_cons_zero, List.set_cons_succ]
    refine wpAnyH_ready (rs := [2]) (by kernel_rfl) (by simp) ?_
    refine cons_at (some 66) rfl rfl (fun hdst K hK => ?_) AllReadyH.nil
    refine step_call2 (by rfl) 21 (.const (.int .u8 1)) (.tmp 65) #[5, 22] (by rfl) (.int .u8 1) (.slice (some ⟨bb, ob, none⟩) 64 cb) (by rfl) (by rfl) (enters_of Tryd.func21 (by kernel_rfl) rfl) ?_
    refine HH.out.mono ?_
    rintro e wh ⟨gh, rfl, hgh, hBh, hbh⟩
    refine ⟨_, rfl, ?_⟩
    have hbd' : Below W.heap.size W wh := ((Below.refl _ W).drew).trans hbh
    refine hK.out _ _ ⟨(hbd'.block _ HT.out.lt).trans HT.out, (hbd'.block _ HB.out.lt).trans HB.out⟩ (fun hHeld => ?_)
    clear hK K
    try rw [hdst]
    clear hdst
    try simp only [Act.put, List.setIfInBounds_toArray, List.set_cons_zero, List.set_cons_succ]
    refine take_at (i := 5) (v := ?ve5) 2 rfl rfl (by kernel_rfl) (by kernel_rfl) (by kernel_rfl) (fun _ _ _ h => by cases h.1) (Or.inl ⟨by rfl, ?hye5⟩) hHeld ?re5
    case hye5 => intro wx hSw; have hs1 := hSw.1.cell; have hs2 := hSw.2.cell; go_simp; try with_reducible rfl
    try simp only [Act.put, List.setIfInBounds_toArray, List.set_cons_zero, List.set_cons_succ]
    refine take_at (i := 3) (v := ?ve3) 67 rfl rfl (by kernel_rfl) (by kernel_rfl) (by kernel_rfl) (fun _ _ _ h => by cases h.1) (Or.inl ⟨by rfl, ?hye3⟩) hHeld ?re3
    case hye3 => intro wx hSw; go_simp; rw [run_arrayAt _ 24 5 32 _ _ _ Tryd.underlying24 (Nat.le_refl _)]; rfl
    try simp only [Act.put, List.setIfInBounds_toArray, List.set_cons_zero, List.set_cons_succ]
    refine wpAnyH_ready (rs := [4]) (by kernel_rfl) (by simp) ?_
    refine cons_at (some 68) rfl rfl (fun hdst K hK => ?_) AllReadyH.nil
    have hX : ∃ X : Array Value, (bs (hashL 1 (lev d n (nlev n)))).toArray = X := ⟨_, rfl⟩
    obtain ⟨X, hX⟩ := hX
    have hXs : X.size = 32 := by rw [← hX]; simp [bs_length, hashL_length]
    have hXi : (Tryd.prog.info? 24).map (·.size) = some X.size := by rw [hXs]; kernel_rfl
    have hXo : X.all (·.oneCell') = true := by
      rw [← hX, Array.all_eq_true_iff_forall_mem]
      intro u hu
      exact bs_one _ u (by simpa using hu)
    have hBh' : wh.heap[gh]? = some (.cells X 24 (0, 0)) := by rw [← hX]; exact hBh
    refine step_load_row0 (by rfl) 24 (.tmp 67) (by rfl) gh (by rfl) 24 X (0, 0) _ hBh' Tryd.underlying24 rfl hXi ?_
    refine hK.out _ _ hHeld (fun hHeld => ?_)
    clear hK K
    try rw [hdst]
    clear hdst
    try simp only [Act.put, List.setIfInBounds_toArray, List.set_cons_zero, List.set_cons_succ]
    refine wpAnyH_ready (rs := [6]) (by kernel_rfl) (by simp) ?_
    refine cons_at none rfl rfl (fun hdst K hK => ?_) AllReadyH.nil
    have h0h : wh.heap[w.heap.size]? = some (.cells (bs (List.replicate 32 0)).toArray 24 (0, 0)) := (hbd'.block _ (lt_of_heap H0.out)).trans H0.out
    obtain ⟨ws, hws⟩ : ∃ ws, wh.setRow w.heap.size X = ws := ⟨_, rfl⟩
    have hso : ∀ q, q ≠ w.heap.size → ws.heap[q]? = wh.heap[q]? := fun q hq => by rw [← hws]; exact setRow_other wh w.heap.size q _ hq
    have hss : ws.heap.size = wh.heap.size := by rw [← hws]; exact setRow_size _ _ _
    have hsn : ws.heap[w.heap.size]? = some (.cells X 24 (0, 0)) := by rw [← hws]; exact setRow_heap wh w.heap.size _ _ _ (0, 0) h0h
    have hos : ws.os = wh.os ∧ ws.tape = wh.tape ∧ ws.output = wh.output := by rw [← hws]; exact ⟨rfl, rfl, rfl⟩
    refine step_store_row0 (by rfl) 24 (.tmp 3) (.tmp 68) (by rfl) rfl w.heap.size X (by rfl) (by rfl) 24 _ h0h hXi (by rw [hXs, List.size_toArray, bs_length, List.length_replicate]) hXo hws ?_
    refine hK.out _ _ ⟨(hso _ (by omega)).trans hHeld.1, (hso _ (by omega)).trans hHeld.2⟩ (fun hHeld => ?_)
    clear hK K
    clear hdst
    try simp only [Act.put, List.setIfInBounds_toArray, List.set_cons_zero, List.set_cons_succ]
    refine take_at (i := 7) (v := ?ve7) 4 rfl rfl (by kernel_rfl) (by kernel_rfl) (by kernel_rfl) (fun _ _ _ h => by cases h.1) (Or.inl ⟨by rfl, ?hye7⟩) hHeld ?re7
    case hye7 => intro wx hSw; go_simp; try with_reducible rfl
    try simp only [Act.put, List.setIfInBounds_toArray, List.set_cons_zero, List.set_cons_succ]
    refine wpAnyH_done (by kernel_rfl) ?_ _
    refine ⟨rfl, ?_⟩
    have hDs : ws.heap[D]? = some (.deferred (some [])) := (hso D (by omega)).trans ((hbd'.block D (lt_of_heap HDef.out)).trans HDef.out)
    have hrn : (ws.putObj D (.deferred none)).heap[w.heap.size]? = some (.cells X 24 (0, 0)) := (World.putObj_heap_other (by omega)).trans hsn
    have hbs : Below w.heap.size w ws := (HBel.out.trans (hbd'.mono HBel.out.size)).trans ⟨hos.1, hos.2.1, hos.2.2, by omega, fun k hk => hso k (by omega)⟩
    have hkp : Kept w.heap.size w.heap.size ws (ws.putObj D (.deferred none)) := Kept.putObj _ hDs rfl (by omega)
    have hos' : OwnB ws (w.heap.size + 5) v (treeB d n (nlev n)) := OwnG.keep (OwnB.below HO.out hbd') (fun q hq _ => hso q (by have := (OwnB.lt HO.out q hq).1; omega))
    have hof : OwnB (ws.putObj D (.deferred none)) w.heap.size v (treeL d) := by
      have := own_kept hos' hkp (by omega)
      unfold treeL
      rw [hn]
      exact OwnB.base_mono this (by omega)
    gi_wp2
    refine ⟨by simp, .inl ⟨_, _, rfl, run_takeDeferred hDs, ?_⟩⟩
    refine ⟨_, results_tct rfl _ _ w.heap.size _ X (0, 0) _ rfl hrn Tryd.underlying24 rfl hXi, v, ?_, hof, hkp.below hbs (Nat.le_refl _) (Nat.le_refl _) (Nat.le_refl _)⟩
    unfold rootL
    rw [hn, hX]
    rfl
end Go.Proofs.YtnfchojekcoplaaDoor
