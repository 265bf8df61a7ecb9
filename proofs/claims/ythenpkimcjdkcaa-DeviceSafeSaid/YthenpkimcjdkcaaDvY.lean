/- the law: what is safe is kept -/
import Derived.Test.YthenpkimcjdkcaaDvX
import Derived.Test.YthenpkimcjdkcaaDvT
import Derived.Conc.MuLone
import Derived.Deep.RegionHeldLaw
namespace Go.Proofs.Ythenpkimcjdkcaa
set_option linter.unusedVariables false
set_option linter.unusedSimpArgs false
open Go.RowKit

/-- Behind the sync: what the later writes add. -/
structure SafeI (D0 D : Dv) (k : Int) (c i : Nat) (R : List (List (List UInt8))) : Prop where
  inv : Inv 8 D k c
  sy : D.syncs = D0.syncs
  fi : D.first = D0.first
  len : R.length = 8
  rl : ∀ (j : Nat) (r : List (List UInt8)), R[j]? = some r → r.length ≤ i
  log : ∃ ext, D.log = D0.log ++ ext ∧ ∀ x ∈ ext, ∃ j : Nat, j < 8 ∧ x.i = (j : Int) ∧ full x.b ∈ R.getD j []
theorem SafeI.new {D0 : Dv} {k : Int} {c : Nat} (h : Inv 8 D0 k c) : SafeI D0 D0 k c 0 (List.replicate 8 []) :=
  ⟨h, rfl, rfl, by simp, fun j r hr => by rw [(List.mem_replicate.1 (List.mem_of_getElem? hr)).2]; exact Nat.le_refl _, [], by simp, fun x hx => (List.not_mem_nil hx).elim⟩
theorem SafeI.more {D0 D : Dv} {k : Int} {c i : Nat} {R : List (List (List UInt8))} (h : SafeI D0 D k c i R) : SafeI D0 D k (c + 1) (i + 1) R :=
  ⟨h.inv.more (Nat.le_succ _), h.sy, h.fi, h.len, fun j r hr => Nat.le_succ_of_le (h.rl j r hr), h.log⟩
theorem SafeI.put {D0 D : Dv} {k : Int} {c i : Nat} {R : List (List (List UInt8))} (h : SafeI D0 D k c i R) (j : Nat) (hj : j < 8) (b : List UInt8) (hb : b.length ≤ 64) (r : List (List UInt8)) (hr : R[j]? = some r) : SafeI D0 (D.put (j : Int) b false (k + 1)) (k + 1) (c + 1) (i + 1) (R.set j (r ++ [full b])) := by
  obtain ⟨ext, h1, h2⟩ := h.log
  have hlt : j < R.length := by rw [h.len]; exact hj
  refine ⟨h.inv.put (j : Int) (by omega) (by omega) b hb false, h.sy, h.fi, by simp [h.len], fun t s hs => ?_, ext ++ [⟨(j : Int), b, false, k + 1⟩], by show D.log ++ _ = _; rw [h1, List.append_assoc], fun x hx => ?_⟩
  · by_cases e : j = t
    · subst e
      rw [List.getElem?_set_self hlt] at hs
      injection hs with hs
      subst hs
      have := h.rl j r hr
      simp; omega
    · rw [List.getElem?_set_ne e] at hs
      exact Nat.le_succ_of_le (h.rl t s hs)
  · rcases List.mem_append.1 hx with hx | hx
    · obtain ⟨t, ht, e1, e2⟩ := h2 x hx
      refine ⟨t, ht, e1, ?_⟩
      by_cases e : j = t
      · subst e
        rw [List.getD_eq_getElem?_getD, List.getElem?_set_self hlt]
        rw [List.getD_eq_getElem?_getD, hr] at e2
        exact List.mem_append_left _ e2
      · rw [List.getD_eq_getElem?_getD, List.getElem?_set_ne e, ← List.getD_eq_getElem?_getD]
        exact e2
    · have hx := List.mem_singleton.1 hx
      subst hx
      refine ⟨j, hj, rfl, ?_⟩
      rw [List.getD_eq_getElem?_getD, List.getElem?_set_self hlt]
      exact List.mem_append_right _ (List.mem_singleton.2 rfl)
/-- What the cut leaves of a sector. -/
theorem SafeI.cut {D0 D : Dv} {k0 k : Int} {c c0 i : Nat} {R : List (List (List UInt8))} (h : SafeI D0 D k c i R) (h0 : Inv 8 D0 k0 c0) (hs : safeN D0 = D0.log.length) (ks : List Bool) (j : Nat) (hj : j < 8) :
    readR (D.cut ks) (j : Int) = ((D.cut ks).now (j : Int), 0) ∧ ((D.cut ks).now (j : Int) = D0.now (j : Int) ∨ (D.cut ks).now (j : Int) ∈ R.getD j []) := by
  obtain ⟨ext, h1, h2⟩ := h.log
  have hf : faultN (D.cut ks) (j : Int) = 0 := by
    have e1 : (D.cut ks).dead = false := h.inv.dead
    have e2 : (D.cut ks).n = 8 := h.inv.nn
    rw [faultN, e1, e2, if_neg (by simp), if_neg (by omega)]
  have hb : (D.cut ks).bad (j : Int) = false := h.inv.bad _
  refine ⟨by rw [readR, hf, hb, if_neg (by simp), if_neg (by simp)], ?_⟩
  have hsn : safeN D = D0.log.length := by rw [← hs, safeN, safeN, h.sy]
  have e : (D.cut ks).now = leftF D0.log.length ext (0 + D0.log.length) ks D0.now := by
    show leftF (safeN D) (D.log.take D.log.length) 0 ks D.first = _
    rw [List.take_of_length_le (Nat.le_refl _), hsn, h1, leftF_app _ _ _ _ _ _ (by omega), h.fi, h0.now]
  rw [e]
  rcases leftF_mem D0.log.length (j : Int) ext (0 + D0.log.length) ks D0.now with h3 | ⟨x, hx, hx1, hx2⟩
  · exact .inl h3
  · obtain ⟨t, ht, e1, e2⟩ := h2 x hx
    have : t = j := by omega
    subst this
    right
    rw [hx2]
    exact e2
theorem DevIn.chg {W w w' : World} {L : Lay} {I : Nat → Prop} {D : Dv} {k : Int} {S : Nat → Prop} (h : DevIn W w L I D k) (hc : Chg S w w') (hS : ∀ j, S j → ¬ isU8 w j ∧ ¬ (L.M j ∨ j = L.clk) ∧ W.heap.size ≤ j) : DevIn W w' L I D k :=
  ⟨h.dev.chg hc fun j hj => ⟨fun hm => (hS j hj).2.1 (.inl hm), fun hi => (hS j hj).1 (h.dev.imm j hi)⟩, Blk.keep h.clk (hc.block _ (Blk.lt h.clk) fun hj => (hS _ hj).2.1 (.inr rfl)), h.m, h.c, h.i, h.bel.trans (hc.below h.bel.size fun j hj => (hS j hj).2.2)⟩
theorem readR_ok {n : Nat} {D : Dv} {k : Int} {c : Nat} (h : Inv n D k c) (j : Nat) (hj : j < n) : readR D (j : Int) = (D.now (j : Int), 0) := by
  have hf : faultN D (j : Int) = 0 := by rw [h.fault, if_neg (by omega)]
  rw [readR, hf, h.bad, if_neg (by simp), if_neg (by simp)]
theorem Inv.safe_sync {n : Nat} {D : Dv} {k : Int} {c : Nat} (h : Inv n D k c) (h1 : 1 ≤ n) (m : Int) : safeN (syncR D m).2 = (syncR D m).2.log.length := by
  rw [syncR_ok h h1, safeN, List.getLast?_append]
  rfl

/-- The first reads. -/
structure WasS (W wr : World) (g gw i : Nat) (L : Lay) (I : Nat → Prop) (D0 : Dv) (k : Int) (B : List (List UInt8)) : Prop where
  g : L.g = g
  dev : DevIn W wr L I D0 k
  arr : SlArr wr gw 34 B
  len : B.length = 8
  w : W.heap.size ≤ gw
  eq : ∀ j : Nat, j < i → B.getD j [] = D0.now (j : Int)
def WasR (W : World) (g gw : Nat) (D0 : Dv) (k : Int) (vi : Value) (wr : World) : Prop := ∃ (i : Nat) (L : Lay) (I : Nat → Prop) (B : List (List UInt8)), i ≤ 8 ∧ vi = .int .i64 (i : Int) ∧ WasS W wr g gw i L I D0 k B
/-- The later writes. -/
structure MayS (W wr : World) (g gw gm i : Nat) (L : Lay) (I : Nat → Prop) (D0 D : Dv) (k : Int) (B : List (List UInt8)) (vs : List Value) (R : List (List (List UInt8))) : Prop where
  g : L.g = g
  dev : DevIn W wr L I D k
  arr : SlArr wr gw 34 B
  rows : RowsAt wr W.heap.size gm vs R
  w : W.heap.size ≤ gm
  inv : SafeI D0 D k (101 + i) i R
theorem MayS.below {W wr w' : World} {g gw gm i : Nat} {L : Lay} {I : Nat → Prop} {D0 D : Dv} {k : Int} {B : List (List UInt8)} {vs : List Value} {R : List (List (List UInt8))} (h : MayS W wr g gw gm i L I D0 D k B vs R) (hb : Below wr.heap.size wr w') : MayS W w' g gw gm i L I D0 D k B vs R :=
  ⟨h.g, h.dev.below hb, h.arr.below hb, h.rows.below hb, h.w, h.inv⟩
theorem MayS.step {W wr w' : World} {g gw gm i : Nat} {L L' : Lay} {I I' : Nat → Prop} {D0 D D' : Dv} {k k' : Int} {B : List (List UInt8)} {vs : List Value} {R : List (List (List UInt8))} (h : MayS W wr g gw gm i L I D0 D k B vs R) (hd : DevAt w' L' I' D') (hk : Clk w' L.clk k') (hg : Grow wr w' L L' I I') :
    L'.g = g ∧ DevIn W w' L' I' D' k' ∧ SlArr w' gw 34 B ∧ RowsAt w' W.heap.size gm vs R := by
  have hno : NoU8 (fun j => L.M j ∨ j = L.clk) wr := DevAt.noU8 h.dev.dev h.dev.clk
  exact ⟨hg.g.trans h.g, h.dev.step hd hk hg, h.arr.chg hg.chg hno (h.arr.notM h.dev.dev h.dev.clk (by decide) (by decide)), h.rows.chg hg.chg hno (DevAt.noRow h.dev.dev h.dev.clk) (h.rows.notM h.dev.dev h.dev.clk)⟩
def MayR (W : World) (g gw gm n : Nat) (D0 : Dv) (B : List (List UInt8)) (vi : Value) (wr : World) : Prop :=
  ∃ (i : Nat) (L : Lay) (I : Nat → Prop) (D : Dv) (k : Int) (vs : List Value) (R : List (List (List UInt8))), i ≤ n ∧ i ≤ 100 ∧ vi = .int .i64 (i : Int) ∧ MayS W wr g gw gm i L I D0 D k B vs R
def CntS (w0 : World) (m : Nat) (vi : Value) (wr : World) : Prop := ∃ i : Nat, i ≤ m ∧ vi = .int .i64 (i : Int) ∧ Below w0.heap.size w0 wr
def OrR (w0 : World) (l : List UInt8) (b0 : Bool) (r : List (List UInt8)) (v vi : Value) (wr : World) : Prop :=
  ∃ (i : Nat) (ok : Bool), i ≤ r.length ∧ vi = .int .i64 (i : Int) ∧ v = .bool ok ∧ Below w0.heap.size w0 wr ∧ (b0 = true → ok = true) ∧ (∀ t : Nat, t < i → r[t]? = some l → ok = true)
theorem full_enter (args : Array Value) (w : World) : (callFunc 19 args).run Try.prog w = .ok (.enter 19 args) w :=
  Go.MuLone.run_callFunc_enter Try.func19 (by kernel_rfl) rfl args w
section
variable {P : Program} {ops : Array Oper} {Q : Exit → Act → World → Prop} {md : Region.Mode} {S : World → Prop}
theorem take_at {i : Nat} {oi : Oper} {v : Value} {fuel : Nat} {listed : Array Bool} {a : Act} {w : World} (t : Nat) (hi : ops[i]? = some oi) (hd : oi.dst = some t)
    (hs : Region.noSelect ops = true) (hf : Region.free md ops listed i = true) (hr : (Region.ready md ops listed).contains i = true)
    (hQ : ∀ c a w, Q (.panic c) (a.put oi.dst v) w → Q (.panic c) a w) (hy : YieldsIf P ops S oi v a) (hS : S w)
    (h : wpAnyH P md ops Q S fuel (listed.setIfInBounds i true) { a with tmps := a.tmps.setIfInBounds t v } w) : wpAnyH P md ops Q S (fuel + 1) listed a w := by
  refine wpAnyH_take hi hs hf hr hQ hy hS ?_
  rw [hd]
  exact h
theorem cons_at {fuel : Nat} {listed : Array Bool} {a : Act} {w : World} {i : Nat} {o : Oper} {rs : List Nat} (d : Option Nat) (ho : ops[i]? = some o) (hd : o.dst = d)
    (h : o.dst = d → ∀ K' : Act → World → Prop, Shut (∀ a w, S w → (S w → wpAnyH P md ops Q S fuel (listed.setIfInBounds i true) a w) → K' a w) → if Region.wanted o (yielded ops a.tmps) = true then Oper.wp P o a w K' Q else K' (a.put o.dst undef) w)
    (hs : AllReadyH P md ops Q S fuel listed a w rs) : AllReadyH P md ops Q S fuel listed a w (i :: rs) :=
  AllReadyH.cons ho (h hd) hs
end

theorem step_call1 {P : Program} {ops : Array Oper} {o : Oper} {a : Act} {w : World} {K : Act → World → Prop} {Q : Exit → Act → World → Prop} {E : Prop} (hg : o.guard = none) (f : FuncId) (x : Operand) (T : Array TypeId) (ho : o.op = .call { callee := .value (.func f), args := #[x], argTypes := T }) (v : Value) (hx : a.eval x = v)
    (he : ∀ (args : Array Value) (w : World), (callFunc f args).run P w = .ok (.enter f args) w)
    (hc : Calls P f #[v] w fun e w'' => ∃ v, e = .returned v ∧ K (a.put o.dst v) w'') : if Region.wanted o (yielded ops a.tmps) = true then Oper.wp P o a w K Q else E := by
  have hw : Region.wanted o (yielded ops a.tmps) = true := by simp [Region.wanted, hg]
  have hrun : (execOp a.eval o).run P w = .ok (.enter f #[v]) w := by
    have hfv : a.eval (.func f) = .func (.func f) #[] #[] := rfl
    generalize a.eval = ev at hx hfv
    unfold execOp
    simp [ho, resolve, invoke, hx, hfv, he, go_sem]
  rw [if_pos hw]
  unfold Oper.wp
  rw [hrun, Oper.upon_enter]
  refine hc.mono fun e w'' hh => ?_
  obtain ⟨v, rfl, h⟩ := hh
  exact h
theorem info_sl : (Try.prog.info? 30).map (fun i => (i.zero, i.size, i.bytes)) = some (some (.slice none 0 0), 1, 24) := by kernel_rfl

set_option maxRecDepth 20000 in
set_option maxHeartbeats 4000000 in
theorem law_DeviceSafe (a : Option Addr) (n c : Nat) (ls : DOpTy.den) (a' : Option Addr) (n' c' : Nat) (ls' : DOpTy.den) (ak : Option Addr) (nk ck : Nat) (ks : BoolsTy.den) (W : World) (hl : DOpTy.reads W (Value.slice a n c).cells.toList ls) (hl' : DOpTy.reads W (Value.slice a' n' c').cells.toList ls') (hk : BoolsTy.reads W (Value.slice ak nk ck).cells.toList ks) :
    Calls Try.prog 3 #[.slice a n c, .slice a' n' c', .slice ak nk ck] W fun e w' => e = .returned (.bool true) ∧ Below W.heap.size W w' := by
  have HL := Lib.hid (dsl_arg hl)
  have HN63 := Lib.hid (dsl_len (dsl_arg hl))
  have HL' := Lib.hid (dsl_arg hl')
  have HN63' := Lib.hid (dsl_len (dsl_arg hl'))
  have HK63 := Lib.hid (dsl_len (dsl_arg hk))
  obtain ⟨kl, hkl, hkr⟩ := bools_in (dsl_arg hk)
  have HKL := Lib.hid hkl
  have HKR := Lib.hid hkr
  clear hl hl' hk hkl hkr
  go_enter Try.func3, Try.ntmps3
  go_wp2_with fail
  refine (newDev_any 8 (by omega) (by omega) W).mono ?_
  rintro e w1 ⟨L, rfl, h1, hk1, hb1, hm1, hc1⟩
  have hd1 := DevIn.new (Below.refl _ _) h1 hk1 hb1 hm1 hc1
  obtain ⟨g, hg⟩ : ∃ g, L.g = g := ⟨_, rfl⟩
  rw [hg]
  have HD1 := Lib.hid hd1
  have HG := Lib.hid hg
  clear h1 hk1 hb1 hm1 hc1 hd1 hg
  go_wp2_with fail
  refine (dalive_any _).mono ?_
  rintro e w2 ⟨rfl, hb2⟩
  have HD2 := Lib.hid (HD1.out.below hb2)
  clear hb2 HD1
  go_upto_block 0 with (fail)
  go_cut [9] (fun vi wn => ScrR 8 100 W g n vi wn)
  case first =>
    as_aux_lemma =>
      --[ one
      go_wp2_with fail
      go_loopw [9] (fun vi wr => ScrR 8 100 W g n vi wr) (fun vi _ => 100 - (intOf vi).toNat)
      case atStart => exact ⟨0, L, _, _, 0, Nat.zero_le _, Nat.zero_le _, rfl, HG.out, HD2.out, Inv.new 8⟩
      case round =>
        clear HD2
        obtain ⟨i, Li, Ii, Di, ki, hi, hiM, rfl, hgi, hdi, hv⟩ := hrel
        have HGI := Lib.hid hgi
        have HDI := Lib.hid hdi
        have HV := Lib.hid hv
        have i0 : (0 : Int) ≤ (i : Int) := Int.natCast_nonneg i
        clear hgi hdi hv
        by_cases hgo : i < n
        · have hgoI : (i : Int) < (n : Int) := by omega
          by_cases hgo2 : i < 100
          · have hgoI2 : (i : Int) < 100 := by omega
            obtain ⟨bo, oo, kd, ii, abx, nbx, cbx, blx, rfl, hbo, hc0, hc1, hc2, hD, hi1, hi2⟩ := dops_at HL.out i hgo
            have q1 := (HDI.out.bel.cell (p := ⟨bo, oo + i * 4 + 1, none⟩) hbo).trans hc1
            have q2 := (HDI.out.bel.cell (p := ⟨bo, oo + i * 4 + 2, none⟩) hbo).trans hc2
            have kb := HV.out.k0
            have kb1 := HV.out.k1
            have lb := HV.out.log
            have HW := write_any HDI.out.dev.drew HDI.out.clk kb (by omega) (by omega) ii hi1 hi2 abx nbx cbx blx hD.len_eq (hD.rd.below HDI.out.bel |>.more HDI.out.bel.size) (Apt.of hD.rd HDI.out.c)
            rw [HGI.out] at HW
            have HW := Lib.hid HW
            clear hc0 hc1 hc2 hbo hD hi1 hi2 kb kb1 lb
            go_upto_region 7 with (fail)
            go_still_tail 11, (by kernel_rfl)
            change wpList _ _ _ _ _ wr.drew
            go_wp2_with fail
            refine HW.out.mono ?_
            rintro e w5 ⟨rfl, L5, I5, h5, hk5, hg5⟩
            have hfin : ScrR 8 100 W g n (.int .i64 ((i : Int) + 1)) w5 := ⟨i + 1, L5, I5, _, _, hgo, hgo2, by go_num, hg5.g.trans HGI.out, (HDI.out.below (Below.refl _ _).drew).step h5 hk5 hg5, HV.out.write ii blx⟩
            have HFIN := Lib.hid hfin
            clear h5 hk5 hg5 hfin HW
            go_wp2_with fail
            all_goals go_roundw
            all_goals first
              | (case measure => simp [intOf]; omega)
              | exact HFIN.out
          · have hgoI2 : ¬ ((i : Int) < 100) := by omega
            have hfin : ScrR 8 100 W g n (.int .i64 (i : Int)) wr := ⟨i, Li, Ii, Di, ki, hi, hiM, rfl, HGI.out, HDI.out, HV.out⟩
            have HFIN := Lib.hid hfin
            clear hfin
            go_wp2_with fail
            go_meet
            exact HFIN.out
        · have hgoI : ¬ ((i : Int) < (n : Int)) := by omega
          have hfin : ScrR 8 100 W g n (.int .i64 (i : Int)) wr := ⟨i, Li, Ii, Di, ki, hi, hiM, rfl, HGI.out, HDI.out, HV.out⟩
          have HFIN := Lib.hid hfin
          clear hfin
          go_wp2_with fail
          go_meet
          exact HFIN.out
      --] one
  case' rest =>
    obtain ⟨i1, L3, I3, D1, k, hi1, hi1M, rfl, hg3, hd3, hv⟩ := hcut
    rename World => w3
  have HG3 := Lib.hid hg3
  have HD3 := Lib.hid hd3
  have HV := Lib.hid hv
  have W1 := sync_any hd3.dev hd3.clk (by have := hv.syncs; omega)
  rw [hg3] at W1
  have W1 := Lib.hid W1
  clear hg3 hd3 hv HD2 HL HN63
  go_wp2_with fail
  refine W1.out.mono ?_
  rintro e w4 ⟨rfl, L4, I4, h4, hk4, hg4⟩
  obtain ⟨D0, hD0⟩ : ∃ D0, (syncR D1 k).2 = D0 := ⟨_, rfl⟩
  have hi4 : Inv 8 D0 k 101 := hD0 ▸ (HV.out.sync (by omega) k).more (by omega)
  have hs4 : safeN D0 = D0.log.length := hD0 ▸ HV.out.safe_sync (by omega) k
  have hd4 := HD3.out.step h4 hk4 hg4
  rw [hD0] at hd4
  have hgg := hg4.g.trans HG3.out
  have HI4 := Lib.hid hi4
  have HS4 := Lib.hid hs4
  have HD4 := Lib.hid hd4
  have HG4 := Lib.hid hgg
  clear h4 hk4 hg4 hD0 hi4 hs4 hd4 hgg W1 HD3 HV HG3
  have hst : WasR W g w4.heap.size D0 k (.int .i64 0) (w4.alloc (.cells (List.replicate 8 (Value.slice none 0 0)).toArray 34)) :=
    ⟨0, L4, I4, List.replicate 8 [], Nat.zero_le _, rfl, HG4.out, HD4.out.below ((Below.refl _ _).alloc (Nat.le_refl _) _), SlArr.new w4 _ 8, by simp, HD4.out.bel.size, fun j hj => absurd hj (Nat.not_lt_zero _)⟩
  have HST := Lib.hid hst
  clear hst HD4 HG4
  go_upto_block 2 with (fail)
  have e8 : (List.replicate 8 (Value.slice none 0 0)).toArray = #[Value.slice none 0 0, Value.slice none 0 0, Value.slice none 0 0, Value.slice none 0 0, Value.slice none 0 0, Value.slice none 0 0, Value.slice none 0 0, Value.slice none 0 0] := rfl
  rw [e8] at HST
  clear e8
  generalize w4.alloc (Obj.cells #[Value.slice none 0 0, Value.slice none 0 0, Value.slice none 0 0, Value.slice none 0 0, Value.slice none 0 0, Value.slice none 0 0, Value.slice none 0 0, Value.slice none 0 0] 34) = w5 at HST ⊢
  generalize w4.heap.size = gw at HST ⊢
  go_cut [11] (fun _ wn => WasR W g gw D0 k (.int .i64 8) wn)
  case first =>
    as_aux_lemma =>
      --[ two
      go_wp2_with fail
      go_loopw [11] (fun vi wr => WasR W g gw D0 k vi wr) (fun vi _ => 8 - (intOf vi).toNat)
      case atStart => exact HST.out
      case round =>
        clear HST
        obtain ⟨i, Li, Ii, B, hi, rfl, hs⟩ := hrel
        have i0 : (0 : Int) ≤ (i : Int) := Int.natCast_nonneg i
        have HS := Lib.hid hs
        clear hs
        by_cases hgo : i < 8
        · have hgoI : (i : Int) < 8 := by omega
          obtain ⟨x, hx⟩ : ∃ x, D0.now (i : Int) = x := ⟨_, rfl⟩
          have hrd := readR_ok HI4.out i hgo
          rw [hx] at hrd
          have W2 := read_any HS.out.dev.dev (i : Int) (by omega) (by omega)
          rw [hrd, HS.out.g] at W2
          have W2 := Lib.hid W2
          have HX := Lib.hid hx
          clear hrd hx
          go_wp2_with fail
          refine W2.out.mono ?_
          rintro e w6 ⟨a6, c6, rfl, ho6, hb6⟩
          simp only at ho6 ⊢
          have hU := BytesU.of ho6
          have ha := HS.out.arr.below hb6
          obtain ⟨xa, xc, hcell, _, _⟩ := ha.get i (by rw [HS.out.len]; exact hgo)
          have hfz : w6.frozen? ⟨gw, i, none⟩ = false := by obtain ⟨vs, h1, _⟩ := ha; exact h1.frozen i
          have hn := fun q hq => (DevAt.noU8 (HS.out.dev.below hb6).dev (HS.out.dev.below hb6).clk) q hq
          have hfin : WasR W g gw D0 k (.int .i64 ((i : Int) + 1)) (w6.setCell ⟨gw, i, none⟩ (.slice a6 x.length c6)) := by
            refine ⟨i + 1, Li, Ii, B.set i x, hgo, by go_num, HS.out.g, (HS.out.dev.below hb6).chg (S := fun j => j = gw) (Chg.setCell w6 _ _ rfl) (fun j hj => ?_), ha.put (by decide) i hU, by simp [HS.out.len], HS.out.w, fun j hj => ?_⟩
            · subst hj
              refine ⟨fun ⟨cur, fr, h3⟩ => ?_, ha.notM (HS.out.dev.below hb6).dev (HS.out.dev.below hb6).clk (by decide) (by decide), HS.out.w⟩
              obtain ⟨vs, h1, _⟩ := ha
              exact ne_cells h1 h3 (by decide) rfl
            · rw [getD_set _ _ _ _ (by rw [HS.out.len]; exact hgo)]
              by_cases e : i = j
              · subst e; rw [if_pos rfl, HX.out]
              · rw [if_neg e]; exact HS.out.eq j (by omega)
          have HFIN := Lib.hid hfin
          clear ho6 hb6 hU ha hfin W2 hn
          go_wp2_with fail
          all_goals go_roundw
          all_goals first
            | (case measure => simp [intOf]; omega)
            | exact HFIN.out
            | ((repeat apply Exists.intro); exact ⟨HFIN.out, rfl⟩)
        · have hgoI : ¬ ((i : Int) < 8) := by omega
          have : i = 8 := by omega
          subst this
          have hfin : WasR W g gw D0 k (.int .i64 8) wr := ⟨8, Li, Ii, B, hi, rfl, HS.out⟩
          have HFIN := Lib.hid hfin
          clear hfin
          go_wp2_with fail
          go_meet
          exact HFIN.out
      --] two
  case' rest =>
    obtain ⟨i2, L5, I5, B, hi2, he2, hs⟩ := hcut
    rename World => w6
  have hi28 : i2 = 8 := by injection he2 with _ he2; omega
  subst hi28
  have HS := Lib.hid hs
  have hst : MayR W g gw w6.heap.size n' D0 B (.int .i64 0) (w6.alloc (.cells (List.replicate 8 (Value.slice none 0 0)).toArray 38)) :=
    have hb : Below w6.heap.size w6 (w6.alloc (.cells (List.replicate 8 (Value.slice none 0 0)).toArray 38)) := (Below.refl _ _).alloc (Nat.le_refl _) _
    ⟨0, L5, I5, D0, k, _, _, Nat.zero_le _, Nat.zero_le _, rfl, hs.g, hs.dev.below hb, hs.arr.below hb, RowsAt.new w6 W.heap.size 8, hs.dev.bel.size, SafeI.new HI4.out⟩
  have HMA := Lib.hid hst
  have HEQ : Hid (∀ j : Nat, j < 8 → B.getD j [] = D0.now (j : Int)) := Lib.hid hs.eq
  have HBL : Hid (B.length = 8) := Lib.hid hs.len
  clear hst hs HS HST he2 hi2
  go_upto_block 4 with (fail)
  have e8 : (List.replicate 8 (Value.slice none 0 0)).toArray = #[Value.slice none 0 0, Value.slice none 0 0, Value.slice none 0 0, Value.slice none 0 0, Value.slice none 0 0, Value.slice none 0 0, Value.slice none 0 0, Value.slice none 0 0] := rfl
  rw [e8] at HMA
  clear e8
  generalize w6.alloc (Obj.cells #[Value.slice none 0 0, Value.slice none 0 0, Value.slice none 0 0, Value.slice none 0 0, Value.slice none 0 0, Value.slice none 0 0, Value.slice none 0 0, Value.slice none 0 0] 38) = w7 at HMA ⊢
  generalize w6.heap.size = gm at HMA ⊢
  go_cut [15] (fun vi wn => MayR W g gw gm n' D0 B vi wn)
  case first =>
    as_aux_lemma =>
      --[ three
      go_wp2_with fail
      go_loopw [15] (fun vi wr => MayR W g gw gm n' D0 B vi wr) (fun vi _ => 100 - (intOf vi).toNat)
      case atStart => exact HMA.out
      case round =>
        clear HMA
        obtain ⟨i, Li, Ii, D, kk, vs, R, hi, hiM, rfl, hs⟩ := hrel
        have HS := Lib.hid hs
        have i0 : (0 : Int) ≤ (i : Int) := Int.natCast_nonneg i
        clear hs
        by_cases hgo : i < n'
        · have hgoI : (i : Int) < (n' : Int) := by omega
          by_cases hgo2 : i < 100
          · have hgoI2 : (i : Int) < 100 := by omega
            obtain ⟨bo, oo, kd, ii, abx, nbx, cbx, blx, rfl, hbo, hc0, hc1, hc2, hD, hi1, hi2⟩ := dops_at HL'.out i hgo
            have q1 := (HS.out.dev.bel.cell (p := ⟨bo, oo + i * 4 + 1, none⟩) hbo).trans hc1
            have q2 := (HS.out.dev.bel.cell (p := ⟨bo, oo + i * 4 + 2, none⟩) hbo).trans hc2
            have HQ1 : Hid (∀ wx, Below W.heap.size W wx → wx.cell? ⟨bo, oo + i * 4 + 1, none⟩ = some (.int .i64 ii)) := Lib.hid (fun wx hx => (hx.cell (p := ⟨bo, oo + i * 4 + 1, none⟩) hbo).trans hc1)
            have HQ2 : Hid (∀ wx, Below W.heap.size W wx → wx.cell? ⟨bo, oo + i * 4 + 2, none⟩ = some (.slice abx nbx cbx)) := Lib.hid (fun wx hx => (hx.cell (p := ⟨bo, oo + i * 4 + 2, none⟩) hbo).trans hc2)
            have HBD := Lib.hid hD
            have HBO := Lib.hid hbo
            have HII := Lib.hid (And.intro hi1 hi2)
            have kb := HS.out.inv.inv.k0
            have kb1 := HS.out.inv.inv.k1
            have lb := HS.out.inv.inv.log
            have HW := write_any HS.out.dev.dev.drew HS.out.dev.clk kb (by omega) (by omega) ii hi1 hi2 abx nbx cbx blx hD.len_eq (hD.rd.below HS.out.dev.bel |>.more HS.out.dev.bel.size) (Apt.of hD.rd HS.out.dev.c)
            rw [HS.out.g] at HW
            clear hc0 hc1 hc2 hbo hD hi1 hi2 kb kb1 lb
            by_cases hok : 0 ≤ ii ∧ ii < ((8 : Nat) : Int) ∧ blx.length ≤ 64
            · obtain ⟨j, rfl⟩ : ∃ j : Nat, ii = (j : Int) := ⟨ii.toNat, by omega⟩
              have hj8 : j < 8 := by omega
              rw [writeR_ok HS.out.inv.inv (j : Int) blx hok.1 hok.2.1 hok.2.2] at HW
              have HW := Lib.hid HW
              have HJ := Lib.hid hj8
              have HB64 := Lib.hid hok.2.2
              clear hok hj8
              go_upto_region 19 with (fail)
              go_still_tail 11, (by kernel_rfl)
              change wpList _ _ _ _ _ wr.drew
              go_wp2_with fail
              refine HW.out.mono ?_
              rintro e w8 ⟨rfl, L5, I5, h5, hk5, hg5⟩
              obtain ⟨hgg, hd8, har, hro⟩ := (HS.out.below (Below.refl _ _).drew).step h5 hk5 hg5
              have hlv : j < vs.length := by rw [hro.len, HS.out.inv.len]; exact HJ.out
              obtain ⟨v, hv⟩ : ∃ v, vs[j]? = some v := ⟨_, List.getElem?_eq_getElem hlv⟩
              obtain ⟨r, hr⟩ : ∃ r, R[j]? = some r := ⟨_, List.getElem?_eq_getElem (by rw [HS.out.inv.len]; exact HJ.out)⟩
              obtain ⟨cs, hown, hsl⟩ := hro.row j v r hv hr
              obtain ⟨aj, cj, rfl, _⟩ := OwnG.shape hown
              have hnj : r.length ≤ 100 := by have := HS.out.inv.rl j r hr; omega
              obtain ⟨nj, hn⟩ : ∃ nj, r.length = nj := ⟨_, rfl⟩
              rw [hn] at hown hnj hv
              have hbl : Below W.heap.size W w8 := hd8.bel
              have hkr : ∀ q, (Value.slice aj nj cj).ownBlock = some q → isRow w8 q ∧ W.heap.size ≤ q := fun q hq => ⟨hro.kind hv hq, (hown.lt q hq).1⟩
              have hgr : ∀ q, (Value.slice aj nj cj).ownBlock = some q → q ≠ gm := fun q hq e => by
                obtain ⟨cur, fr, h3⟩ := (hkr q hq).1
                subst e
                exact ne_cells h3 hro.blk (by decide) rfl
              obtain ⟨SS, hSS⟩ : ∃ SS : Nat → Prop, SS = (fun q => q = gm ∨ (Value.slice aj nj cj).ownBlock = some q) := ⟨_, rfl⟩
              have hbn : ¬ SS bo := by
                rw [hSS]
                rintro (e | e)
                · have := HBO.out; have := HS.out.w; omega
                · have := HBO.out; have := (hkr bo e).2; omega
              have q1' : ∀ wx, Chg SS w8 wx → wx.cell? ⟨bo, oo + i * 4 + 1, none⟩ = some (.int .i64 (j : Int)) := fun wx hx => (World.cell?_of_block (a := ⟨bo, oo + i * 4 + 1, none⟩) (hx.block _ (Nat.lt_of_lt_of_le HBO.out hbl.size) hbn)).trans (HQ1.out w8 hbl)
              have q2' : ∀ wx, Chg SS w8 wx → wx.cell? ⟨bo, oo + i * 4 + 2, none⟩ = some (.slice abx nbx cbx) := fun wx hx => (World.cell?_of_block (a := ⟨bo, oo + i * 4 + 2, none⟩) (hx.block _ (Nat.lt_of_lt_of_le HBO.out hbl.size) hbn)).trans (HQ2.out w8 hbl)
              have cm0 : w8.cell? ⟨gm, j, none⟩ = some (.slice aj nj cj) := hro.blk.cell j _ hv
              have cm : ∀ wx, Below w8.heap.size w8 wx → wx.cell? ⟨gm, j, none⟩ = some (.slice aj nj cj) := fun wx hx => (hx.cell (p := ⟨gm, j, none⟩) hro.blk.lt).trans cm0
              have KF : Hid (∀ wx, Below w8.heap.size w8 wx → Calls Try.prog 19 #[.slice abx nbx cbx] wx fun e w' => ∃ a' c', e = .returned (.slice a' 64 c') ∧ OwnB w' wx.heap.size (.slice a' 64 c') (full blx) ∧ Below w8.heap.size w8 w') := Lib.hid (fun wx hx => by
                refine (full_any abx nbx cbx blx wx HBD.out.len_eq (by rw [← HBD.out.len_eq]; exact HB64.out) ((HBD.out.rd.below (hbl.trans (hx.mono hbl.size))).more (Nat.le_trans hbl.size hx.size))).mono ?_
                rintro e w' ⟨a', c', rfl, h1, h2⟩
                exact ⟨a', c', rfl, h1, hx.trans (h2.mono hx.size)⟩)
              have KCH : Hid (∀ wx, Below w8.heap.size w8 wx → Chg SS w8 wx) := Lib.hid (fun wx hx => Chg.of_below hx)
              have HAL : Hid (∀ wx o, Chg SS w8 wx → Chg SS w8 (wx.alloc o)) := Lib.hid (fun wx o hx => hx.trans' (Chg.alloc wx o))
              have KST : Hid (∀ wx p v, Chg SS w8 wx → Chg SS w8 (wx.setCell ⟨gm, p, none⟩ v)) := Lib.hid (fun wx p v hx => hx.trans' (Chg.setCell wx _ _ (by rw [hSS]; exact .inl rfl)))
              have HOA : Hid (∀ wx o, Below w8.heap.size w8 wx → OwnG (wx.alloc o) W.heap.size 30 1 (.slice aj nj cj) nj cs) := Lib.hid (fun wx o hx => (hown.below hx).alloc o)
              have HRN : Hid (∀ (wx : World) (x : Value), Rd (wx.alloc (.cells #[x] 30)) (wx.heap.size + 1) (some ⟨wx.heap.size, 0, none⟩) [x]) := Lib.hid (fun wx x => Rd.new wx [x] _)
              have HOC : Hid (∀ (a : Option Addr) (c : Nat), ∀ u ∈ [Value.slice a 64 c], u.oneCell' = true) := Lib.hid (fun a c u hu => by rw [List.mem_singleton.1 hu]; rfl)
              have HBY : Hid ((nj + 1) * 24 ≤ 140737488355328) := Lib.hid (by omega)
              have HB3 : Hid (nj + 1 ≤ 140737488355328) := Lib.hid (by omega)
              have HZ : Hid (∀ wx o, Below w8.heap.size w8 wx → W.heap.size ≤ (wx.alloc o).heap.size) := Lib.hid (fun wx o hx => by rw [World.size_alloc]; have := hbl.size; have := hx.size; omega)
              have HGR : Hid (∀ wx o w4, Below w8.heap.size w8 wx → (wx.alloc o).grownBy w4 (Value.slice aj nj cj).ownBlock → Chg SS w8 w4 ∧ w4.cell? ⟨gm, j, none⟩ = some (.slice aj nj cj) ∧ w4.frozen? ⟨gm, j, none⟩ = false) := Lib.hid (fun wx o w4 hx hg => by
                have hb := hx.alloc hx.size o
                have hk : w4.heap[gm]? = w8.heap[gm]? := (hg.block gm (Nat.lt_of_lt_of_le hro.blk.lt hb.size) (fun e => hgr gm e.symm rfl)).trans (hb.block _ hro.blk.lt)
                exact ⟨(Chg.of_below hb).trans' (Chg.of_grown hg fun q hq => by rw [hSS]; exact .inr hq), (World.cell?_of_block (a := ⟨gm, j, none⟩) hk).trans cm0, (World.frozen?_of_block (a := ⟨gm, j, none⟩) hk).trans (hro.blk.frozen j)⟩)
              have hr0 : Below w8.heap.size w8 w8 := Below.refl _ _
              have hr1 : Below w8.heap.size w8 w8.drew := (Below.refl _ _).drew
              have hch0 := KCH.out _ hr0
              have hch1 := KCH.out _ hr1
              have j0 : (0 : Int) ≤ (j : Int) := Int.natCast_nonneg _
              have j8 : (j : Int) < 8 := by have := HJ.out; omega
              have HD8 := Lib.hid hd8
              have HAR := Lib.hid har
              have HRO := Lib.hid hro
              have HGG := Lib.hid hgg
              have HKR' := Lib.hid hkr
              have HOWN := Lib.hid hown
              have HSL := Lib.hid hsl
              have HVV := Lib.hid hv
              have HRR := Lib.hid hr
              have HNN := Lib.hid hn
              have HSS := Lib.hid hSS
              clear h5 hk5 hg5 hd8 har hro hgg hkr hgr hown hsl hv hr hn hSS hbn hlv hbl HW q1 q2 hnj
              go_upto_region 20 with (fail)
              refine wp_region_held_drew (S := Chg SS w8) (by kernel_rfl) hch1 (fun hHeld => ?_)
              refine take_at (i := 0) (v := .slice (some ⟨bo, oo, none⟩) n' c') 97 rfl rfl (by kernel_rfl) (by kernel_rfl) (by kernel_rfl) (fun _ _ _ h => h) (Or.inl ⟨by rfl, fun w hSw => by go_simp⟩) hHeld ?_
              try simp only [Act.put, List.setIfInBounds_toArray, List.set_cons_zero, List.set_cons_succ]
              refine take_at (i := 1) (v := .int .i64 (i : Int)) 98 rfl rfl (by kernel_rfl) (by kernel_rfl) (by kernel_rfl) (fun _ _ _ h => h) (Or.inl ⟨by rfl, fun w hSw => by go_simp⟩) hHeld ?_
              try simp only [Act.put, List.setIfInBounds_toArray, List.set_cons_zero, List.set_cons_succ]
              refine take_at (i := 2) (v := .pointer (some ⟨bo, oo + i * 4, none⟩)) 99 rfl rfl (by kernel_rfl) (by kernel_rfl) (by kernel_rfl) (fun _ _ _ h => h) (Or.inl ⟨by rfl, fun w hSw => by go_simp⟩) hHeld ?_
              try simp only [Act.put, List.setIfInBounds_toArray, List.set_cons_zero, List.set_cons_succ]
              refine take_at (i := 3) (v := .pointer (some ⟨bo, oo + i * 4 + 1, none⟩)) 100 rfl rfl (by kernel_rfl) (by kernel_rfl) (by kernel_rfl) (fun _ _ _ h => h) (Or.inl ⟨by rfl, fun w hSw => by go_simp⟩) hHeld ?_
              try simp only [Act.put, List.setIfInBounds_toArray, List.set_cons_zero, List.set_cons_succ]
              refine take_at (i := 4) (v := .int .i64 (j : Int)) 101 rfl rfl (by kernel_rfl) (by kernel_rfl) (by kernel_rfl) (fun _ _ _ h => h) (Or.inl ⟨by rfl, fun w hSw => by go_simp⟩) hHeld ?_
              try simp only [Act.put, List.setIfInBounds_toArray, List.set_cons_zero, List.set_cons_succ]
              refine take_at (i := 5) (v := .slice (some ⟨bo, oo, none⟩) n' c') 102 rfl rfl (by kernel_rfl) (by kernel_rfl) (by kernel_rfl) (fun _ _ _ h => h) (Or.inl ⟨by rfl, fun w hSw => by go_simp⟩) hHeld ?_
              try simp only [Act.put, List.setIfInBounds_toArray, List.set_cons_zero, List.set_cons_succ]
              refine take_at (i := 6) (v := .int .i64 (i : Int)) 103 rfl rfl (by kernel_rfl) (by kernel_rfl) (by kernel_rfl) (fun _ _ _ h => h) (Or.inl ⟨by rfl, fun w hSw => by go_simp⟩) hHeld ?_
              try simp only [Act.put, List.setIfInBounds_toArray, List.set_cons_zero, List.set_cons_succ]
              refine take_at (i := 7) (v := .pointer (some ⟨bo, oo + i * 4, none⟩)) 104 rfl rfl (by kernel_rfl) (by kernel_rfl) (by kernel_rfl) (fun _ _ _ h => h) (Or.inl ⟨by rfl, fun w hSw => by go_simp⟩) hHeld ?_
              try simp only [Act.put, List.setIfInBounds_toArray, List.set_cons_zero, List.set_cons_succ]
              refine take_at (i := 8) (v := .pointer (some ⟨bo, oo + i * 4 + 1, none⟩)) 105 rfl rfl (by kernel_rfl) (by kernel_rfl) (by kernel_rfl) (fun _ _ _ h => h) (Or.inl ⟨by rfl, fun w hSw => by go_simp⟩) hHeld ?_
              try simp only [Act.put, List.setIfInBounds_toArray, List.set_cons_zero, List.set_cons_succ]
              refine take_at (i := 9) (v := .int .i64 (j : Int)) 106 rfl rfl (by kernel_rfl) (by kernel_rfl) (by kernel_rfl) (fun _ _ _ h => h) (Or.inl ⟨by rfl, fun w hSw => by go_simp⟩) hHeld ?_
              try simp only [Act.put, List.setIfInBounds_toArray, List.set_cons_zero, List.set_cons_succ]
              refine take_at (i := 10) (v := .pointer (some ⟨gm, j, none⟩)) 107 rfl rfl (by kernel_rfl) (by kernel_rfl) (by kernel_rfl) (fun _ _ _ h => h) (Or.inl ⟨by rfl, fun w hSw => by go_simp⟩) hHeld ?_
              try simp only [Act.put, List.setIfInBounds_toArray, List.set_cons_zero, List.set_cons_succ]
              refine take_at (i := 12) (v := .slice (some ⟨bo, oo, none⟩) n' c') 109 rfl rfl (by kernel_rfl) (by kernel_rfl) (by kernel_rfl) (fun _ _ _ h => h) (Or.inl ⟨by rfl, fun w hSw => by go_simp⟩) hHeld ?_
              try simp only [Act.put, List.setIfInBounds_toArray, List.set_cons_zero, List.set_cons_succ]
              refine take_at (i := 13) (v := .int .i64 (i : Int)) 110 rfl rfl (by kernel_rfl) (by kernel_rfl) (by kernel_rfl) (fun _ _ _ h => h) (Or.inl ⟨by rfl, fun w hSw => by go_simp⟩) hHeld ?_
              try simp only [Act.put, List.setIfInBounds_toArray, List.set_cons_zero, List.set_cons_succ]
              refine take_at (i := 14) (v := .pointer (some ⟨bo, oo + i * 4, none⟩)) 111 rfl rfl (by kernel_rfl) (by kernel_rfl) (by kernel_rfl) (fun _ _ _ h => h) (Or.inl ⟨by rfl, fun w hSw => by go_simp⟩) hHeld ?_
              try simp only [Act.put, List.setIfInBounds_toArray, List.set_cons_zero, List.set_cons_succ]
              refine take_at (i := 15) (v := .pointer (some ⟨bo, oo + i * 4 + 2, none⟩)) 112 rfl rfl (by kernel_rfl) (by kernel_rfl) (by kernel_rfl) (fun _ _ _ h => h) (Or.inl ⟨by rfl, fun w hSw => by go_simp⟩) hHeld ?_
              try simp only [Act.put, List.setIfInBounds_toArray, List.set_cons_zero, List.set_cons_succ]
              refine take_at (i := 16) (v := .slice abx nbx cbx) 113 rfl rfl (by kernel_rfl) (by kernel_rfl) (by kernel_rfl) (fun _ _ _ h => h) (Or.inl ⟨by rfl, fun w hSw => by go_simp⟩) hHeld ?_
              try simp only [Act.put, List.setIfInBounds_toArray, List.set_cons_zero, List.set_cons_succ]
              refine wpAnyH_ready (rs := [11, 17]) (by kernel_rfl) (by simp) ?_
              refine cons_at (some 108) rfl rfl (fun hdst K hK => ?_) ?_
              · skip
                go_simp
                refine hK.out _ _ hHeld (fun hHeld => ?_)
                clear hK K
                try rw [hdst]
                clear hdst
                try simp only [Act.put, List.setIfInBounds_toArray, List.set_cons_zero, List.set_cons_succ]
                refine wpAnyH_ready (rs := [17]) (by kernel_rfl) (by simp) ?_
                refine cons_at (some 114) rfl rfl (fun hdst K hK => ?_) ?_
                · skip
                  refine step_call1 (by rfl) 19 (.tmp 113) #[30] (by rfl) (.slice abx nbx cbx) (by rfl) full_enter ?_
                  refine (KF.out _ hr1).mono ?_
                  rintro e w9 ⟨a9, c9, rfl, hown9, hb9⟩
                  refine ⟨_, rfl, ?_⟩
                  have hch9 := KCH.out _ hb9
                  refine hK.out _ _ hch9 (fun hHeld => ?_)
                  clear hK K
                  try rw [hdst]
                  clear hdst
                  try simp only [Act.put, List.setIfInBounds_toArray, List.set_cons_zero, List.set_cons_succ]
                  refine wpAnyH_ready (rs := [18]) (by kernel_rfl) (by simp) ?_
                  refine cons_at (some 115) rfl rfl (fun hdst K hK => ?_) ?_
                  · skip
                    have hbA := hb9.alloc hb9.size (.cells #[.slice a9 64 c9] 30)
                    have hchA := KCH.out _ hbA
                    go_simp
                    refine hK.out _ _ hchA (fun hHeld => ?_)
                    clear hK K
                    try rw [hdst]
                    clear hdst
                    try simp only [Act.put, List.setIfInBounds_toArray, List.set_cons_zero, List.set_cons_succ]
                    refine wpAnyH_ready (rs := [19]) (by kernel_rfl) (by simp) ?_
                    refine cons_at (some 116) rfl rfl (fun hdst K hK => ?_) ?_
                    · skip
                      refine step_append_g (by rfl) (.tmp 108) (.tmp 115) 37 (by rfl) W.heap.size 30 (.slice none 0 0) 1 24 Try.underlying37 info_sl (by rfl) (by omega) (.slice aj nj cj) nj cs (by rfl) (HOA.out w9 _ hb9) (w9.heap.size + 1) (some ⟨w9.heap.size, 0, none⟩) 1 1 [.slice a9 64 c9] (by rfl) rfl (HRN.out w9 _) (HOC.out a9 c9) HBY.out HB3.out (HZ.out w9 _ hb9) ?_
                      intro v4 w4 hown4 hg4 hat4
                      obtain ⟨hch4, hcm4, hfz4⟩ := HGR.out w9 _ w4 hb9 hg4
                      obtain ⟨a4, c4, rfl, _⟩ := OwnG.shape hown4
                      refine hK.out _ _ hch4 (fun hHeld => ?_)
                      clear hK K
                      try rw [hdst]
                      clear hdst
                      try simp only [Act.put, List.setIfInBounds_toArray, List.set_cons_zero, List.set_cons_succ]
                      refine take_at (i := 20) (v := .pointer (some ⟨gm, j, none⟩)) 117 rfl rfl (by kernel_rfl) (by kernel_rfl) (by kernel_rfl) (fun _ _ _ h => h) (Or.inl ⟨by rfl, fun w hSw => by go_simp⟩) hHeld ?_
                      try simp only [Act.put, List.setIfInBounds_toArray, List.set_cons_zero, List.set_cons_succ]
                      refine wpAnyH_ready (rs := [21]) (by kernel_rfl) (by simp) ?_
                      refine cons_at (none) rfl rfl (fun hdst K hK => ?_) ?_
                      · skip
                        go_simp
                        refine hK.out _ _ (KST.out _ _ _ hch4) (fun hHeld => ?_)
                        clear hK K
                        try rw [hdst]
                        clear hdst
                        try simp only [Act.put, List.setIfInBounds_toArray, List.set_cons_zero, List.set_cons_succ]
                        refine wpAnyH_done (by kernel_rfl) ?_ _
                        have hb9a : Below w8.heap.size w8 (w9.alloc (.cells #[.slice a9 64 c9] 30)) := hb9.alloc hb9.size _
                        have hU : BytesU (w9.alloc (.cells #[.slice a9 64 c9] 30)) (.slice a9 64 c9) (full blx) := (BytesU.of hown9).below ((Below.refl _ _).alloc (Nat.le_refl _) _)
                        have hpush := (HRO.out.below hb9a).push HVV.out HRR.out (HSL.out.chg (S := fun _ => False) (Chg.of_below hb9a) (fun _ h => h.elim)) hU (by rw [HNN.out]; exact hown4) hg4 hat4
                        have hcf : Chg SS w8 (w4.setCell ⟨gm, j, none⟩ (.slice a4 (nj + 1) c4)) := KST.out _ _ _ hch4
                        have hsafe := HS.out.inv.put j HJ.out blx HB64.out r HRR.out
                        have hfin : MayR W g gw gm n' D0 B (.int .i64 ((i : Int) + 1)) (w4.setCell ⟨gm, j, none⟩ (.slice a4 (nj + 1) c4)) := by
                          have hsd : ∀ q, SS q → ¬ isU8 w8 q ∧ ¬ (L5.M q ∨ q = L5.clk) ∧ W.heap.size ≤ q := by
                            intro q hq
                            rw [HSS.out] at hq
                            rcases hq with hq | hq
                            · subst hq
                              exact ⟨HRO.out.noU8, HRO.out.notM HD8.out.dev HD8.out.clk, HS.out.w⟩
                            · obtain ⟨⟨cur, fr, h3⟩, h4⟩ := HKR'.out q hq
                              exact ⟨fun ⟨cur', fr', h5⟩ => ne_cells h3 h5 (by decide) rfl, fun hm => DevAt.noRow HD8.out.dev HD8.out.clk q hm ⟨cur, fr, h3⟩, h4⟩
                          refine ⟨i + 1, L5, I5, _, kk + 1, _, _, hgo, hgo2, by go_num, HGG.out, HD8.out.chg hcf hsd, HAR.out.chg hcf (fun q hq => (hsd q hq).1) (fun hq => ?_), hpush, HS.out.w, hsafe⟩
                          rw [HSS.out] at hq
                          obtain ⟨us, hub, _⟩ := HAR.out
                          rcases hq with hq | hq
                          · subst hq
                            exact ne_cells hub HRO.out.blk (by decide) rfl
                          · obtain ⟨⟨cur, fr, h3⟩, h4⟩ := HKR'.out gw hq
                            exact ne_cells hub h3 (by decide) rfl
                        have HFIN := Lib.hid hfin
                        clear hb9a hU hpush hcf hsafe hfin hown4 hg4 hat4 hch4 hcm4 hfz4 hown9 hch9 hch0 hch1 hr0 q1' q2' cm
                        go_wp2_with fail
                        all_goals go_roundw
                        all_goals first
                          | (case measure => simp [intOf]; omega)
                          | exact HFIN.out
                          | ((repeat apply Exists.intro); exact ⟨HFIN.out, rfl⟩)
                      exact AllReadyH.nil
                    exact AllReadyH.nil
                  exact AllReadyH.nil
                exact AllReadyH.nil
              refine cons_at (some 114) rfl rfl (fun hdst K hK => ?_) ?_
              · skip
                refine step_call1 (by rfl) 19 (.tmp 113) #[30] (by rfl) (.slice abx nbx cbx) (by rfl) full_enter ?_
                refine (KF.out _ hr1).mono ?_
                rintro e w9 ⟨a9, c9, rfl, hown9, hb9⟩
                refine ⟨_, rfl, ?_⟩
                have hch9 := KCH.out _ hb9
                refine hK.out _ _ hch9 (fun hHeld => ?_)
                clear hK K
                try rw [hdst]
                clear hdst
                try simp only [Act.put, List.setIfInBounds_toArray, List.set_cons_zero, List.set_cons_succ]
                refine wpAnyH_ready (rs := [11, 18]) (by kernel_rfl) (by simp) ?_
                refine cons_at (some 108) rfl rfl (fun hdst K hK => ?_) ?_
                · skip
                  go_simp
                  refine hK.out _ _ hHeld (fun hHeld => ?_)
                  clear hK K
                  try rw [hdst]
                  clear hdst
                  try simp only [Act.put, List.setIfInBounds_toArray, List.set_cons_zero, List.set_cons_succ]
                  refine wpAnyH_ready (rs := [18]) (by kernel_rfl) (by simp) ?_
                  refine cons_at (some 115) rfl rfl (fun hdst K hK => ?_) ?_
                  · skip
                    have hbA := hb9.alloc hb9.size (.cells #[.slice a9 64 c9] 30)
                    have hchA := KCH.out _ hbA
                    go_simp
                    refine hK.out _ _ hchA (fun hHeld => ?_)
                    clear hK K
                    try rw [hdst]
                    clear hdst
                    try simp only [Act.put, List.setIfInBounds_toArray, List.set_cons_zero, List.set_cons_succ]
                    refine wpAnyH_ready (rs := [19]) (by kernel_rfl) (by simp) ?_
                    refine cons_at (some 116) rfl rfl (fun hdst K hK => ?_) ?_
                    · skip
                      refine step_append_g (by rfl) (.tmp 108) (.tmp 115) 37 (by rfl) W.heap.size 30 (.slice none 0 0) 1 24 Try.underlying37 info_sl (by rfl) (by omega) (.slice aj nj cj) nj cs (by rfl) (HOA.out w9 _ hb9) (w9.heap.size + 1) (some ⟨w9.heap.size, 0, none⟩) 1 1 [.slice a9 64 c9] (by rfl) rfl (HRN.out w9 _) (HOC.out a9 c9) HBY.out HB3.out (HZ.out w9 _ hb9) ?_
                      intro v4 w4 hown4 hg4 hat4
                      obtain ⟨hch4, hcm4, hfz4⟩ := HGR.out w9 _ w4 hb9 hg4
                      obtain ⟨a4, c4, rfl, _⟩ := OwnG.shape hown4
                      refine hK.out _ _ hch4 (fun hHeld => ?_)
                      clear hK K
                      try rw [hdst]
                      clear hdst
                      try simp only [Act.put, List.setIfInBounds_toArray, List.set_cons_zero, List.set_cons_succ]
                      refine take_at (i := 20) (v := .pointer (some ⟨gm, j, none⟩)) 117 rfl rfl (by kernel_rfl) (by kernel_rfl) (by kernel_rfl) (fun _ _ _ h => h) (Or.inl ⟨by rfl, fun w hSw => by go_simp⟩) hHeld ?_
                      try simp only [Act.put, List.setIfInBounds_toArray, List.set_cons_zero, List.set_cons_succ]
                      refine wpAnyH_ready (rs := [21]) (by kernel_rfl) (by simp) ?_
                      refine cons_at (none) rfl rfl (fun hdst K hK => ?_) ?_
                      · skip
                        go_simp
                        refine hK.out _ _ (KST.out _ _ _ hch4) (fun hHeld => ?_)
                        clear hK K
                        try rw [hdst]
                        clear hdst
                        try simp only [Act.put, List.setIfInBounds_toArray, List.set_cons_zero, List.set_cons_succ]
                        refine wpAnyH_done (by kernel_rfl) ?_ _
                        have hb9a : Below w8.heap.size w8 (w9.alloc (.cells #[.slice a9 64 c9] 30)) := hb9.alloc hb9.size _
                        have hU : BytesU (w9.alloc (.cells #[.slice a9 64 c9] 30)) (.slice a9 64 c9) (full blx) := (BytesU.of hown9).below ((Below.refl _ _).alloc (Nat.le_refl _) _)
                        have hpush := (HRO.out.below hb9a).push HVV.out HRR.out (HSL.out.chg (S := fun _ => False) (Chg.of_below hb9a) (fun _ h => h.elim)) hU (by rw [HNN.out]; exact hown4) hg4 hat4
                        have hcf : Chg SS w8 (w4.setCell ⟨gm, j, none⟩ (.slice a4 (nj + 1) c4)) := KST.out _ _ _ hch4
                        have hsafe := HS.out.inv.put j HJ.out blx HB64.out r HRR.out
                        have hfin : MayR W g gw gm n' D0 B (.int .i64 ((i : Int) + 1)) (w4.setCell ⟨gm, j, none⟩ (.slice a4 (nj + 1) c4)) := by
                          have hsd : ∀ q, SS q → ¬ isU8 w8 q ∧ ¬ (L5.M q ∨ q = L5.clk) ∧ W.heap.size ≤ q := by
                            intro q hq
                            rw [HSS.out] at hq
                            rcases hq with hq | hq
                            · subst hq
                              exact ⟨HRO.out.noU8, HRO.out.notM HD8.out.dev HD8.out.clk, HS.out.w⟩
                            · obtain ⟨⟨cur, fr, h3⟩, h4⟩ := HKR'.out q hq
                              exact ⟨fun ⟨cur', fr', h5⟩ => ne_cells h3 h5 (by decide) rfl, fun hm => DevAt.noRow HD8.out.dev HD8.out.clk q hm ⟨cur, fr, h3⟩, h4⟩
                          refine ⟨i + 1, L5, I5, _, kk + 1, _, _, hgo, hgo2, by go_num, HGG.out, HD8.out.chg hcf hsd, HAR.out.chg hcf (fun q hq => (hsd q hq).1) (fun hq => ?_), hpush, HS.out.w, hsafe⟩
                          rw [HSS.out] at hq
                          obtain ⟨us, hub, _⟩ := HAR.out
                          rcases hq with hq | hq
                          · subst hq
                            exact ne_cells hub HRO.out.blk (by decide) rfl
                          · obtain ⟨⟨cur, fr, h3⟩, h4⟩ := HKR'.out gw hq
                            exact ne_cells hub h3 (by decide) rfl
                        have HFIN := Lib.hid hfin
                        clear hb9a hU hpush hcf hsafe hfin hown4 hg4 hat4 hch4 hcm4 hfz4 hown9 hch9 hch0 hch1 hr0 q1' q2' cm
                        go_wp2_with fail
                        all_goals go_roundw
                        all_goals first
                          | (case measure => simp [intOf]; omega)
                          | exact HFIN.out
                          | ((repeat apply Exists.intro); exact ⟨HFIN.out, rfl⟩)
                      exact AllReadyH.nil
                    exact AllReadyH.nil
                  exact AllReadyH.nil
                refine cons_at (some 115) rfl rfl (fun hdst K hK => ?_) ?_
                · skip
                  have hbA := hb9.alloc hb9.size (.cells #[.slice a9 64 c9] 30)
                  have hchA := KCH.out _ hbA
                  go_simp
                  refine hK.out _ _ hchA (fun hHeld => ?_)
                  clear hK K
                  try rw [hdst]
                  clear hdst
                  try simp only [Act.put, List.setIfInBounds_toArray, List.set_cons_zero, List.set_cons_succ]
                  refine wpAnyH_ready (rs := [11]) (by kernel_rfl) (by simp) ?_
                  refine cons_at (some 108) rfl rfl (fun hdst K hK => ?_) ?_
                  · skip
                    go_simp
                    refine hK.out _ _ hHeld (fun hHeld => ?_)
                    clear hK K
                    try rw [hdst]
                    clear hdst
                    try simp only [Act.put, List.setIfInBounds_toArray, List.set_cons_zero, List.set_cons_succ]
                    refine wpAnyH_ready (rs := [19]) (by kernel_rfl) (by simp) ?_
                    refine cons_at (some 116) rfl rfl (fun hdst K hK => ?_) ?_
                    · skip
                      refine step_append_g (by rfl) (.tmp 108) (.tmp 115) 37 (by rfl) W.heap.size 30 (.slice none 0 0) 1 24 Try.underlying37 info_sl (by rfl) (by omega) (.slice aj nj cj) nj cs (by rfl) (HOA.out w9 _ hb9) (w9.heap.size + 1) (some ⟨w9.heap.size, 0, none⟩) 1 1 [.slice a9 64 c9] (by rfl) rfl (HRN.out w9 _) (HOC.out a9 c9) HBY.out HB3.out (HZ.out w9 _ hb9) ?_
                      intro v4 w4 hown4 hg4 hat4
                      obtain ⟨hch4, hcm4, hfz4⟩ := HGR.out w9 _ w4 hb9 hg4
                      obtain ⟨a4, c4, rfl, _⟩ := OwnG.shape hown4
                      refine hK.out _ _ hch4 (fun hHeld => ?_)
                      clear hK K
                      try rw [hdst]
                      clear hdst
                      try simp only [Act.put, List.setIfInBounds_toArray, List.set_cons_zero, List.set_cons_succ]
                      refine take_at (i := 20) (v := .pointer (some ⟨gm, j, none⟩)) 117 rfl rfl (by kernel_rfl) (by kernel_rfl) (by kernel_rfl) (fun _ _ _ h => h) (Or.inl ⟨by rfl, fun w hSw => by go_simp⟩) hHeld ?_
                      try simp only [Act.put, List.setIfInBounds_toArray, List.set_cons_zero, List.set_cons_succ]
                      refine wpAnyH_ready (rs := [21]) (by kernel_rfl) (by simp) ?_
                      refine cons_at (none) rfl rfl (fun hdst K hK => ?_) ?_
                      · skip
                        go_simp
                        refine hK.out _ _ (KST.out _ _ _ hch4) (fun hHeld => ?_)
                        clear hK K
                        try rw [hdst]
                        clear hdst
                        try simp only [Act.put, List.setIfInBounds_toArray, List.set_cons_zero, List.set_cons_succ]
                        refine wpAnyH_done (by kernel_rfl) ?_ _
                        have hb9a : Below w8.heap.size w8 (w9.alloc (.cells #[.slice a9 64 c9] 30)) := hb9.alloc hb9.size _
                        have hU : BytesU (w9.alloc (.cells #[.slice a9 64 c9] 30)) (.slice a9 64 c9) (full blx) := (BytesU.of hown9).below ((Below.refl _ _).alloc (Nat.le_refl _) _)
                        have hpush := (HRO.out.below hb9a).push HVV.out HRR.out (HSL.out.chg (S := fun _ => False) (Chg.of_below hb9a) (fun _ h => h.elim)) hU (by rw [HNN.out]; exact hown4) hg4 hat4
                        have hcf : Chg SS w8 (w4.setCell ⟨gm, j, none⟩ (.slice a4 (nj + 1) c4)) := KST.out _ _ _ hch4
                        have hsafe := HS.out.inv.put j HJ.out blx HB64.out r HRR.out
                        have hfin : MayR W g gw gm n' D0 B (.int .i64 ((i : Int) + 1)) (w4.setCell ⟨gm, j, none⟩ (.slice a4 (nj + 1) c4)) := by
                          have hsd : ∀ q, SS q → ¬ isU8 w8 q ∧ ¬ (L5.M q ∨ q = L5.clk) ∧ W.heap.size ≤ q := by
                            intro q hq
                            rw [HSS.out] at hq
                            rcases hq with hq | hq
                            · subst hq
                              exact ⟨HRO.out.noU8, HRO.out.notM HD8.out.dev HD8.out.clk, HS.out.w⟩
                            · obtain ⟨⟨cur, fr, h3⟩, h4⟩ := HKR'.out q hq
                              exact ⟨fun ⟨cur', fr', h5⟩ => ne_cells h3 h5 (by decide) rfl, fun hm => DevAt.noRow HD8.out.dev HD8.out.clk q hm ⟨cur, fr, h3⟩, h4⟩
                          refine ⟨i + 1, L5, I5, _, kk + 1, _, _, hgo, hgo2, by go_num, HGG.out, HD8.out.chg hcf hsd, HAR.out.chg hcf (fun q hq => (hsd q hq).1) (fun hq => ?_), hpush, HS.out.w, hsafe⟩
                          rw [HSS.out] at hq
                          obtain ⟨us, hub, _⟩ := HAR.out
                          rcases hq with hq | hq
                          · subst hq
                            exact ne_cells hub HRO.out.blk (by decide) rfl
                          · obtain ⟨⟨cur, fr, h3⟩, h4⟩ := HKR'.out gw hq
                            exact ne_cells hub h3 (by decide) rfl
                        have HFIN := Lib.hid hfin
                        clear hb9a hU hpush hcf hsafe hfin hown4 hg4 hat4 hch4 hcm4 hfz4 hown9 hch9 hch0 hch1 hr0 q1' q2' cm
                        go_wp2_with fail
                        all_goals go_roundw
                        all_goals first
                          | (case measure => simp [intOf]; omega)
                          | exact HFIN.out
                          | ((repeat apply Exists.intro); exact ⟨HFIN.out, rfl⟩)
                      exact AllReadyH.nil
                    exact AllReadyH.nil
                  exact AllReadyH.nil
                exact AllReadyH.nil
              exact AllReadyH.nil
            · obtain ⟨hne, he2⟩ := writeR_no HS.out.inv.inv ii blx hok
              obtain ⟨er, her⟩ : ∃ er, (writeR D ii blx kk).1 = er := ⟨_, rfl⟩
              rw [he2, her] at HW
              rw [her] at hne
              have HW := Lib.hid HW
              clear he2 her hok
              go_upto_region 19 with (fail)
              go_still_tail 11, (by kernel_rfl)
              change wpList _ _ _ _ _ wr.drew
              go_wp2_with fail
              refine HW.out.mono ?_
              rintro e w8 ⟨rfl, L5, I5, h5, hk5, hg5⟩
              obtain ⟨hgg, hd8, har, hro⟩ := (HS.out.below (Below.refl _ _).drew).step h5 hk5 hg5
              have hfin : MayR W g gw gm n' D0 B (.int .i64 ((i : Int) + 1)) w8 := ⟨i + 1, L5, I5, D, kk, vs, R, hgo, hgo2, by go_num, hgg, hd8, har, hro, HS.out.w, HS.out.inv.more⟩
              have HFIN := Lib.hid hfin
              clear h5 hk5 hg5 hgg hd8 har hro hfin HW
              go_wp2_with fail
              all_goals go_roundw
              all_goals first
                | (case measure => simp [intOf]; omega)
                | exact HFIN.out
                | ((repeat apply Exists.intro); exact ⟨HFIN.out, rfl⟩)
          · have hgoI2 : ¬ ((i : Int) < 100) := by omega
            have hfin : MayR W g gw gm n' D0 B (.int .i64 (i : Int)) wr := ⟨i, Li, Ii, D, kk, vs, R, hi, hiM, rfl, HS.out⟩
            have HFIN := Lib.hid hfin
            clear hfin
            go_wp2_with fail
            go_meet
            exact HFIN.out
        · have hgoI : ¬ ((i : Int) < (n' : Int)) := by omega
          have hfin : MayR W g gw gm n' D0 B (.int .i64 (i : Int)) wr := ⟨i, Li, Ii, D, kk, vs, R, hi, hiM, rfl, HS.out⟩
          have HFIN := Lib.hid hfin
          clear hfin
          go_wp2_with fail
          go_meet
          exact HFIN.out
      --] three
  case rest =>
    as_aux_lemma =>
      --[ four
      obtain ⟨i3, L6, I6, D, kk, vs, R, hi3, hi3M, rfl, hs⟩ := hcut
      clear HMA
      rename World => w8
      have hsd := hs.inv.inv.sound (by omega) (by omega) (by omega)
      have C1 := cut_any hs.dev.dev hsd ak nk ck kl HKL.out HK63.out.1 HK63.out.2 (HKR.out.below hs.dev.bel |>.more hs.dev.bel.size)
      rw [hs.g] at C1
      have C1 := Lib.hid C1
      have HS := Lib.hid hs
      clear hs hsd
      go_wp2_with fail
      refine C1.out.mono ?_
      rintro e w9 ⟨Lc, Ic, rfl, hc, hkc, hfc⟩
      obtain ⟨g2, hg2⟩ : ∃ g2, Lc.g = g2 := ⟨_, rfl⟩
      have hz1 : (D.cut kl).log = [] := rfl
      have hz2 : (D.cut kl).syncs = [] := rfl
      have P1 := pending_any hc (by rw [hz1]; exact Nat.zero_le _) (by rw [hz2]; exact Nat.zero_le _) (by rw [safeN, hz2]; exact Nat.zero_le _)
      have e0 : openN ((D.cut kl).log.drop (safeN (D.cut kl))) = 0 := by rw [hz1, List.drop_nil]; rfl
      rw [e0, hg2] at P1
      have HP1 : Hid (Calls Try.prog 21 #[.pointer (some ⟨g2, 0, none⟩)] w9 fun e w' => e = .returned (.int .i64 0) ∧ Below w9.heap.size w9 w') := Lib.hid P1
      have CA : Car w9 g2 (D.cut kl) := ⟨Lc, Ic, hg2, hc⟩
      have HCA := Lib.hid CA
      have HB9 := Lib.hid hfc.below
      rw [hg2]
      clear hc hkc hfc hg2 hz1 hz2 P1 e0 CA C1
      go_wp2_with fail
      refine HP1.out.mono ?_
      rintro e w10 ⟨rfl, hb10⟩
      have HCA := Lib.hid (HCA.out.below hb10)
      have HS10 := Lib.hid (HS.out.below (HB9.out.trans (hb10.mono HB9.out.size)))
      clear hb10 HP1 HB9 HS
      go_wp2_with fail
      go_loopw [17] (fun vi wr => CntS w10 8 vi wr) (fun vi _ => 8 - (intOf vi).toNat)
      case atStart => exact ⟨0, Nat.zero_le _, rfl, Below.refl _ _⟩
      case round =>
        obtain ⟨j, hj, rfl, hb⟩ := hrel
        have j0 : (0 : Int) ≤ (j : Int) := Int.natCast_nonneg j
        have HB := Lib.hid hb
        clear hb
        by_cases hlt : j < 8
        · have hltI : (j : Int) < 8 := by omega
          obtain ⟨hrd, hmem⟩ := HS10.out.inv.cut HI4.out HS4.out kl j hlt
          obtain ⟨x, hx⟩ : ∃ x, (D.cut kl).now (j : Int) = x := ⟨_, rfl⟩
          rw [hx] at hrd hmem
          obtain ⟨y, hy⟩ : ∃ y, D0.now (j : Int) = y := ⟨_, rfl⟩
          have hBj : B[j]'(by rw [HBL.out]; exact hlt) = y := by
            have := HEQ.out j hlt
            rw [List.getD_eq_getElem?_getD, List.getElem?_eq_getElem (by rw [HBL.out]; exact hlt)] at this
            exact this.trans hy
          rw [hy] at hmem
          obtain ⟨aw, cw, hcw, hcw2, hrw⟩ := HS10.out.arr.get j (by rw [HBL.out]; exact hlt)
          rw [hBj] at hcw hcw2 hrw
          have hvl : j < vs.length := by rw [HS10.out.rows.len, HS10.out.inv.len]; exact hlt
          obtain ⟨v, hv⟩ : ∃ v, vs[j]? = some v := ⟨_, List.getElem?_eq_getElem hvl⟩
          obtain ⟨r, hr⟩ : ∃ r, R[j]? = some r := ⟨_, List.getElem?_eq_getElem (by rw [HS10.out.inv.len]; exact hlt)⟩
          have hrD : R.getD j [] = r := by rw [List.getD_eq_getElem?_getD, hr]; rfl
          rw [hrD] at hmem
          obtain ⟨cs, hown, hsl⟩ := HS10.out.rows.row j v r hv hr
          obtain ⟨ar, cr, rfl, _⟩ := OwnG.shape hown
          have hrl : r.length ≤ 100 := by have := HS10.out.inv.rl j r hr; omega
          have hcm := HS10.out.rows.blk.cell j _ hv
          have hgl := HS10.out.arr.lt
          have hml := HS10.out.rows.blk.lt
          have CW : Hid (∀ wx, Below w10.heap.size w10 wx → wx.cell? ⟨gw, j, none⟩ = some (.slice aw y.length cw) ∧ Rd wx wx.heap.size aw (bs y)) := Lib.hid (fun wx hx => ⟨(hx.cell (p := ⟨gw, j, none⟩) hgl).trans hcw, (hrw.below hx).more hx.size⟩)
          have CM : Hid (∀ wx, Below w10.heap.size w10 wx → wx.cell? ⟨gm, j, none⟩ = some (.slice ar r.length cr)) := Lib.hid (fun wx hx => (hx.cell (p := ⟨gm, j, none⟩) hml).trans hcm)
          have CE : Hid (∀ (t : Nat) (b : List UInt8), r[t]? = some b → ∃ gr off at' ct, ar = some ⟨gr, off, none⟩ ∧ ∀ wx, Below w10.heap.size w10 wx → wx.cell? ⟨gr, off + t, none⟩ = some (.slice at' b.length ct) ∧ Rd wx wx.heap.size at' (bs b)) := Lib.hid (fun t b hb => by
            have htl := (List.getElem?_eq_some_iff.1 hb).1
            obtain ⟨gr, off, cap, he, _, hgr, _, hcell⟩ := OwnG.form hown (by omega)
            injection he with he1 he2 he3
            obtain ⟨u, hu1, hu2⟩ := hsl.2 t b hb
            obtain ⟨at', ct, rfl, h5, h6⟩ := hu2.rd
            exact ⟨gr, off, at', ct, he1, fun wx hx => ⟨(hx.cell (p := ⟨gr, off + t, none⟩) hgr).trans (hcell t _ hu1), (h6.below hx).more hx.size⟩⟩)
          have R1 : Hid (∀ wx, Below w10.heap.size w10 wx → Calls Try.prog 18 #[.pointer (some ⟨g2, 0, none⟩), .int .i64 (j : Int)] wx (ReadPost (x, 0) wx)) := Lib.hid (fun wx hx => by have h := (HCA.out.below hx).read (j : Int) (by omega) (by omega); rw [hrd] at h; exact h)
          have HMEM := Lib.hid hmem
          clear hrd hmem hx hy hBj hcw hcw2 hrw hvl hv hr hrD hown hsl hcm hgl hml
          go_wp2_with fail
          refine (R1.out _ HB.out).mono ?_
          rintro e wa ⟨a1, c1, rfl, ho1, hb1⟩
          simp only at ho1 ⊢
          have HBA := Lib.hid (HB.out.trans (hb1.mono HB.out.size))
          have HO1 := Lib.hid (OwnB.rd ho1)
          obtain ⟨k1, k2⟩ := CW.out wa HBA.out
          have S1 := same_any a1 aw x.length y.length c1 cw x y wa rfl rfl HO1.out k2
          obtain ⟨b0, hb0⟩ : ∃ b, (x == y) = b := ⟨_, rfl⟩
          rw [hb0] at S1
          have S1 := Lib.hid S1
          have HB0 : Hid (x = y → b0 = true) := Lib.hid (fun h => by rw [← hb0, h]; exact beq_self_eq_true _)
          clear ho1 hb1 k2 hb0
          go_wp2_with fail
          refine S1.out.mono ?_
          rintro e wq ⟨rfl, rfl⟩
          clear S1 k1
          go_upto_block 8 with (fail)
          go_cut [20, 21] (fun v vi wn => v = .bool true ∧ Below w10.heap.size w10 wn)
          case first =>
            go_wp2_with fail
            go_loopw [20, 21] (fun v vi wr => OrR wa x b0 r v vi wr) (fun _ vi _ => r.length - (intOf vi).toNat)
            case atStart => exact ⟨0, b0, Nat.zero_le _, rfl, rfl, Below.refl _ _, fun h => h, fun t ht => absurd ht (Nat.not_lt_zero _)⟩
            case round =>
              obtain ⟨t, ok, ht, rfl, rfl, hb, hk1, hk2⟩ := hrel
              have t0 : (0 : Int) ≤ (t : Int) := Int.natCast_nonneg t
              have HBT := Lib.hid (HBA.out.trans (hb.mono HBA.out.size))
              have HBL2 := Lib.hid hb
              have HK1 := Lib.hid hk1
              have HK2 := Lib.hid hk2
              have cm := CM.out _ (HBA.out.trans (hb.mono HBA.out.size))
              clear hb hk1 hk2
              by_cases htl : t < r.length
              · have htI : (t : Int) < (r.length : Int) := by omega
                obtain ⟨b, hbt⟩ : ∃ b, r[t]? = some b := ⟨_, List.getElem?_eq_getElem htl⟩
                obtain ⟨gr, off, at', ct, rfl, hce⟩ := CE.out t b hbt
                obtain ⟨ce, cer⟩ := hce _ HBT.out
                have S2 := same_any a1 at' x.length b.length c1 ct x b wr rfl rfl ((HO1.out.below HBL2.out).more HBL2.out.size) cer
                obtain ⟨b1, hb1⟩ : ∃ q, (x == b) = q := ⟨_, rfl⟩
                rw [hb1] at S2
                have S2 := Lib.hid S2
                have hfin : ∀ q, (ok = true → q = true) → (b1 = true → q = true) → OrR wa x b0 r (.bool q) (.int .i64 ((t : Int) + 1)) wr := fun q h1 h2 =>
                  ⟨t + 1, q, htl, by go_num, rfl, HBL2.out, fun h => h1 (HK1.out h), fun p hp hpx => by
                    by_cases e : p = t
                    · subst e
                      rw [hbt] at hpx
                      injection hpx with hpx
                      exact h2 (by rw [← hb1, hpx]; exact beq_self_eq_true _)
                    · exact h1 (HK2.out p (by omega) hpx)⟩
                have HFIN := Lib.hid hfin
                generalize r.length = nr at htI htl cm hrl ht ⊢
                clear hce cer hbt hb1 hfin
                go_wp2_with fail
                refine S2.out.mono ?_
                rintro e wq ⟨rfl, rfl⟩
                clear S2
                cases ok with
                | true =>
                  have hf := HFIN.out true (fun _ => rfl) (fun _ => rfl)
                  have HF := Lib.hid hf
                  clear hf HFIN
                  go_wp2_with fail
                  all_goals go_roundw
                  all_goals first
                    | (case measure => simp [intOf]; omega)
                    | exact HF.out
                    | ((repeat apply Exists.intro); exact ⟨HF.out, rfl⟩)
                | false =>
                  have hf := HFIN.out b1 (fun h => by cases h) (fun h => h)
                  have HF := Lib.hid hf
                  clear hf HFIN
                  go_wp2_with fail
                  all_goals go_roundw
                  all_goals first
                    | (case measure => simp [intOf]; omega)
                    | exact HF.out
                    | ((repeat apply Exists.intro); exact ⟨HF.out, rfl⟩)
              · have htI : ¬ ((t : Int) < (r.length : Int)) := by omega
                have hok : ok = true := by
                  rcases HMEM.out with h | h
                  · exact HK1.out (HB0.out h)
                  · obtain ⟨p, hp⟩ := List.getElem?_of_mem h
                    exact HK2.out p (by have := (List.getElem?_eq_some_iff.1 hp).1; omega) hp
                subst hok
                generalize r.length = nr at htI cm hrl ht htl ⊢
                go_wp2_with fail
                go_meet
                exact ⟨rfl, HBT.out⟩
          case rest =>
            obtain ⟨rfl, hb⟩ := hcut
            rename World => wz
            have hfin : CntS w10 8 (.int .i64 ((j : Int) + 1)) wz := ⟨j + 1, hlt, by go_num, hb⟩
            have HFIN := Lib.hid hfin
            clear hb hfin
            go_wp2_with fail
            all_goals go_roundw
            all_goals first
              | (case measure => simp [intOf]; omega)
              | exact HFIN.out
              | ((repeat apply Exists.intro); exact ⟨HFIN.out, rfl⟩)
        · have hltI : ¬ ((j : Int) < 8) := by omega
          have hbel := HS10.out.dev.bel.trans (HB.out.mono HS10.out.dev.bel.size)
          have HBE := Lib.hid hbel
          clear hbel
          go_wp2_with fail
          go_ret
          exact ⟨rfl, HBE.out⟩
      --] four
end Go.Proofs.Ythenpkimcjdkcaa
