/- the document's words of a block -/
import Derived.Test.YtnfchojekcoplaaDoorRf1
import Derived.Test.YtnfchojekcoplaaDoorSha2
namespace Go.Proofs.YtnfchojekcoplaaDoor
set_option linter.unusedVariables false
set_option linter.unusedSimpArgs false
open Go.RowKit

def OwnW (W : World) (base : Nat) (v : Value) (n : Nat) (l : List W32) : Prop := OwnG W base 53 1 v n (us l)
theorem info_u32 : (Tryd.prog.info? 53).map (fun i => (i.zero, i.size, i.bytes)) = some (some (.int .u32 0), 1, 4) := by kernel_rfl
theorem us_length (l : List W32) : (us l).length = l.length := by simp [us]
theorem us_append (l m : List W32) : us (l ++ m) = us l ++ us m := by simp [us]
theorem us_one (l : List W32) : ∀ u ∈ us l, u.oneCell' = true := by
  intro u hu
  simp only [us, List.mem_map] at hu
  obtain ⟨x, _, rfl⟩ := hu
  rfl

theorem step_app32 {w : World} {ops : Array Oper} {o : Oper} {a : Act} {K : Act → World → Prop} {Q : Exit → Act → World → Prop} {E : Prop} (hgd : o.guard = none) (s x : Operand)
    (ho : o.op = .call { callee := .builtin .append, args := #[s, x], argTypes := #[60, 60] })
    (base : Nat) (v : Value) (n : Nat) (l : List W32) (hs : a.eval s = v) (hown : OwnW w base v n l) (hn : n ≤ 1000)
    (Bd : Nat) (ad : Option Addr) (y : W32) (hx : a.eval x = .slice ad 1 1) (hr : Rd w Bd ad (us [y])) (hbase : base ≤ w.heap.size)
    (h : ∀ v' w', OwnW w' base v' (n + 1) (l ++ [y]) → w.grownBy w' v.ownBlock → (v'.ownBlock = v.ownBlock ∨ v'.ownBlock = some w.heap.size) → K (a.put o.dst v') w') :
    if Region.wanted o (yielded ops a.tmps) = true then Oper.wp Tryd.prog o a w K Q else E := by
  refine step_append_g hgd s x 60 ho base 53 (.int .u32 0) 1 4 Tryd.underlying60 info_u32 rfl (by omega) v n (us l) hs hown Bd ad 1 1 (us [y]) hx rfl hr (us_one _) (by omega) (by omega) hbase ?_
  intro v' w' h1 h2 h3
  refine h v' w' ?_ h2 h3
  unfold OwnW
  rw [us_append]
  exact h1

/-- What the row held stays where it was. -/
theorem app32_keep {w w' : World} {base n g off cap : Nat} {l : List W32} {v' : Value} {ty : TypeId} (hown : OwnW w base (.slice (some ⟨g, off, none⟩) n cap) n l) (hn : n ≤ 1000) {Bd bb oo : Nat} {y : W32} (hr : Rd w Bd (some ⟨bb, oo, none⟩) (us [y]))
    (hrun : (Builtin.append_ #[60, 60] ty #[.slice (some ⟨g, off, none⟩) n cap, .slice (some ⟨bb, oo, none⟩) 1 1]).run Tryd.prog w = .ok v' w') : ∀ j u, (us l)[j]? = some u → w'.cell? ⟨g, off + j, none⟩ = some u := by
  intro j u hu
  have hcells : ∀ j u, (us [y])[j]? = some u → w.cell? ((⟨bb, oo, none⟩ : Addr).add j) = some u := by
    intro j u hu
    obtain ⟨b', o', he, _, hc⟩ := hr.at j u hu
    simp only [Option.some.injEq, Addr.mk.injEq, and_true] at he
    obtain ⟨rfl, rfl⟩ := he
    rw [Addr.add_lit]
    exact hc
  obtain ⟨i0, hi, hz0, hz1, hz2⟩ := info_parts info_u32
  have hll := hown.1
  rcases hown.2 with ⟨h', _⟩ | ⟨g', off', cap', cur, lo, hi', hv, hb, hh, hs, hf, hc, hm, hx⟩
  · cases h'
  · simp only [Value.slice.injEq, Option.some.injEq, Addr.mk.injEq, and_true, true_and] at hv
    obtain ⟨⟨rfl, rfl⟩, rfl⟩ := hv
    have hjn : j < n := by
      have := (List.getElem?_eq_some_iff.1 hu).1
      omega
    have hold := (cell_of_block hh (off + j)).trans (hx j u hu)
    by_cases hroom : n + 1 ≤ cap
    · have h1 := run_append_room_cells (P := Tryd.prog) w 60 ty 53 i0 Tryd.underlying60 hi g off n cap ⟨bb, oo, none⟩ 1 1 (us [y]) (by rw [hz1]; rfl) hcells (us_one _) hroom
        (fun j hj => by
          have hj : j < 1 := hj
          rw [hz1, cell_of_block hh, Array.getElem?_eq_getElem (by omega)]; rfl)
        (fun j hj => by
          have hj : j < 1 := hj
          rw [hz1]
          simp only [World.frozen?, hh]
          have : ¬ (lo ≤ off + n * 1 + j ∧ off + n * 1 + j < hi') := by omega
          simpa using this)
      rw [hz1] at h1
      rw [h1] at hrun
      injection hrun with _ hw
      obtain ⟨cur', h2, h3, h4, h5, h6⟩ := setCells_heap g (us [y]) (off + n * 1) w cur 53 (lo, hi') hh (by show off + n * 1 + 1 ≤ cur.size; omega)
      rw [← hw, cell_of_block h2, h4 _ (by omega)]
      exact hx j u hu
    · have h1 := run_append_grow (P := Tryd.prog) w 60 ty 53 i0 (.int .u32 0) Tryd.underlying60 hi hz0 ⟨g, off, none⟩ n cap (us l) (by rw [hz1]; exact hll) (fun j u hu => by
          rw [Addr.add_lit]
          exact (cell_of_block hh _).trans (hx j u hu)) ⟨bb, oo, none⟩ 1 1 (us [y]) (by rw [hz1]; rfl) hcells (by omega) (by omega) (growslice_fits (by omega) (by rw [hz2]; omega))
      rw [h1] at hrun
      injection hrun with _ hw
      rw [← hw]
      exact (World.cell?_alloc_lt w.drew _ ⟨g, off + j, none⟩ (lt_of_heap hh)).trans hold

theorem step_app32k {w : World} {ops : Array Oper} {o : Oper} {a : Act} {K : Act → World → Prop} {Q : Exit → Act → World → Prop} {E : Prop} (hgd : o.guard = none) (s x : Operand)
    (ho : o.op = .call { callee := .builtin .append, args := #[s, x], argTypes := #[60, 60] })
    (base n g off cap : Nat) (l : List W32) (hs : a.eval s = .slice (some ⟨g, off, none⟩) n cap) (hown : OwnW w base (.slice (some ⟨g, off, none⟩) n cap) n l) (hn : n ≤ 1000)
    (Bd bb oo : Nat) (y : W32) (hx : a.eval x = .slice (some ⟨bb, oo, none⟩) 1 1) (hr : Rd w Bd (some ⟨bb, oo, none⟩) (us [y])) (hbase : base ≤ w.heap.size)
    (h : ∀ v' w', OwnW w' base v' (n + 1) (l ++ [y]) → w.grownBy w' (Value.slice (some ⟨g, off, none⟩) n cap).ownBlock → (∀ j u, (us l)[j]? = some u → w'.cell? ⟨g, off + j, none⟩ = some u) → K (a.put o.dst v') w') :
    if Region.wanted o (yielded ops a.tmps) = true then Oper.wp Tryd.prog o a w K Q else E := by
  have hw : Region.wanted o (yielded ops a.tmps) = true := by simp [Region.wanted, hgd]
  rw [if_pos hw]
  obtain ⟨i, hi, hz, hsize, hby⟩ := info_parts info_u32
  obtain ⟨v', w', hrun, h2, h3, h4⟩ := run_append_g (P := Tryd.prog) w base 60 o.type 53 i (.int .u32 0) 1 4 Tryd.underlying60 hi hz hsize hby rfl (by omega) _ n (us l) hown Bd (some ⟨bb, oo, none⟩) 1 1 (us [y]) rfl hr (us_one _) (by unfold maxLen; omega) (by omega) hbase
  have hk := app32_keep hown hn hr hrun
  unfold Oper.wp execOp
  simp only [ho, resolve, invoke, builtin, Sem.run_bind, Sem.run_pure, Result.andThen_ok, List.map_toArray, List.map_cons, List.map_nil, hs, hx, hrun]
  refine h v' w' ?_ h3 hk
  unfold OwnW
  rw [us_append]
  exact h2

theorem OwnW.shape {W : World} {base n : Nat} {v : Value} {l : List W32} (h : OwnW W base v n l) : ∃ a c, v = .slice a n c ∧ n ≤ c := OwnG.shape h

def WdRel (b : List UInt8) (w : World) (v vi : Value) (wq : World) : Prop :=
  ∃ T : Nat, 16 ≤ T ∧ T ≤ 64 ∧ vi = .int .i64 (T : Int) ∧ OwnW wq w.heap.size v T (sched b (T - 16)) ∧ Below w.heap.size w wq

set_option maxHeartbeats 2000000 in
set_option maxRecDepth 16000 in
theorem words_any (b : List UInt8) (a : Option Addr) (c : Nat) (w : World) (hb : b.length = 64) (hr : Rd w w.heap.size a (bs b)) :
    Calls Tryd.prog 33 #[.slice a 64 c] w fun e w' => ∃ a' c', e = .returned (.slice a' 64 c') ∧ OwnW w' w.heap.size (.slice a' 64 c') 64 (sched b 48) ∧ Below w.heap.size w w' := by
  rcases hr with h | ⟨bb, ob, rfl, hbb, hcells⟩
  · exfalso
    have := congrArg List.length h
    rw [bs_length, hb] at this
    simp at this
  have HC : Hid (∀ wx, Below w.heap.size w wx → ∀ i (hi : i < 64), wx.cell? ⟨bb, ob + i, none⟩ = some (.int .u8 ((b[i]'(by omega)).toNat : Int))) := Lib.hid (fun wx hx i hi => (hx.cell (p := ⟨bb, ob + i, none⟩) hbb).trans (hcells i _ (bs_get b i (by omega))))
  have HBL := Lib.hid hb
  clear hcells
  go_enter Tryd.func33, Tryd.ntmps33
  go_wp2_with fail
  go_loopw [3, 4] (fun v vi wr => ∃ k I : Nat, k ≤ 16 ∧ I = 4 * k ∧ vi = .int .i64 (I : Int) ∧ OwnW wr w.heap.size v k (first16 b k) ∧ Below w.heap.size w wr) (fun _ vi _ => 64 - (intOf vi).toNat)
  case atStart => exact ⟨0, 0, by omega, rfl, rfl, OwnG.nil _ _ _ _, Below.refl _ _⟩
  case round =>
    obtain ⟨k, I, hk, hI, rfl, hown, hbl⟩ := hrel
    obtain ⟨av, cv, rfl, hcv⟩ := hown.shape
    have HO := Lib.hid hown
    have HB := Lib.hid hbl
    have hbz := hbl.size
    clear hown hbl
    by_cases hk16 : k < 16
    · have c0 := HC.out wr HB.out I (by omega)
      have c1 := HC.out wr HB.out (I + 1) (by omega)
      have c2 := HC.out wr HB.out (I + 2) (by omega)
      have c3 := HC.out wr HB.out (I + 3) (by omega)
      have HE : Hid (be4 b k = (w8 (b[I]'(by omega)) <<< 24) ||| (w8 (b[I + 1]'(by omega)) <<< 16) ||| (w8 (b[I + 2]'(by omega)) <<< 8) ||| w8 (b[I + 3]'(by omega))) := Lib.hid (by
        subst hI
        exact be4_eq b k (by omega))
      generalize hz0 : b[I]'(by omega) = z0 at c0 HE
      generalize hz1 : b[I + 1]'(by omega) = z1 at c1 HE
      generalize hz2 : b[I + 2]'(by omega) = z2 at c2 HE
      generalize hz3 : b[I + 3]'(by omega) = z3 at c3 HE
      have HI : Hid (I = 4 * k) := Lib.hid hI
      have i64 : (I : Int) < 64 := by omega
      have i0 : (0 : Int) ≤ (I : Int) := Int.natCast_nonneg I
      have i61 : (I : Int) < 61 := by omega
      have w1 : IntKind.i64.wrap ((I : Int) + 1) = (I : Int) + 1 := IntWalk.i64_in ((I : Int) + 1) (by omega)
      have n1 : 0 ≤ (I : Int) + 1 := by omega
      have m1 : (I : Int) + 1 < 64 := by omega
      have t1 : ((I : Int) + 1).toNat = I + 1 := by omega
      have w2 : IntKind.i64.wrap ((I : Int) + 2) = (I : Int) + 2 := IntWalk.i64_in ((I : Int) + 2) (by omega)
      have n2 : 0 ≤ (I : Int) + 2 := by omega
      have m2 : (I : Int) + 2 < 64 := by omega
      have t2 : ((I : Int) + 2).toNat = I + 2 := by omega
      have w3 : IntKind.i64.wrap ((I : Int) + 3) = (I : Int) + 3 := IntWalk.i64_in ((I : Int) + 3) (by omega)
      have n3 : 0 ≤ (I : Int) + 3 := by omega
      have m3 : (I : Int) + 3 < 64 := by omega
      have t3 : ((I : Int) + 3).toNat = I + 3 := by omega
      clear hI hz0 hz1 hz2 hz3
      have r1 := wrap_w8
      have r2 : ∀ x : W32, IntKind.u32.wrap (val x * 16777216) = val (x <<< 24) := fun x => val_shl x 24
      have r3 : ∀ x : W32, IntKind.u32.wrap (val x * 65536) = val (x <<< 16) := fun x => val_shl x 16
      have r4 : ∀ x : W32, IntKind.u32.wrap (val x * 256) = val (x <<< 8) := fun x => val_shl x 8
      have r5 := val_or
      have hbw : bb < wr.heap.size := by omega
      have hal : ∀ (o : Obj) (j : Nat), (wr.alloc o).cell? ⟨bb, j, none⟩ = wr.cell? ⟨bb, j, none⟩ := fun o j => World.cell?_alloc_lt wr o ⟨bb, j, none⟩ hbw
      have hS0 : wr.cell? ⟨bb, ob + I, none⟩ = some (.int .u8 (z0.toNat : Int)) ∧ wr.cell? ⟨bb, ob + (I + 1), none⟩ = some (.int .u8 (z1.toNat : Int)) ∧ wr.cell? ⟨bb, ob + (I + 2), none⟩ = some (.int .u8 (z2.toNat : Int)) ∧ wr.cell? ⟨bb, ob + (I + 3), none⟩ = some (.int .u8 (z3.toNat : Int)) := ⟨c0, c1, c2, c3⟩
      have hS1 : (wr.alloc (Obj.cells #[Value.int .u32 (val (w8 z0 <<< 24 ||| w8 z1 <<< 16 ||| w8 z2 <<< 8 ||| w8 z3))] 53)).drew.cell? ⟨bb, ob + I, none⟩ = some (.int .u8 (z0.toNat : Int)) ∧ (wr.alloc (Obj.cells #[Value.int .u32 (val (w8 z0 <<< 24 ||| w8 z1 <<< 16 ||| w8 z2 <<< 8 ||| w8 z3))] 53)).drew.cell? ⟨bb, ob + (I + 1), none⟩ = some (.int .u8 (z1.toNat : Int)) ∧ (wr.alloc (Obj.cells #[Value.int .u32 (val (w8 z0 <<< 24 ||| w8 z1 <<< 16 ||| w8 z2 <<< 8 ||| w8 z3))] 53)).drew.cell? ⟨bb, ob + (I + 2), none⟩ = some (.int .u8 (z2.toNat : Int)) ∧ (wr.alloc (Obj.cells #[Value.int .u32 (val (w8 z0 <<< 24 ||| w8 z1 <<< 16 ||| w8 z2 <<< 8 ||| w8 z3))] 53)).drew.cell? ⟨bb, ob + (I + 3), none⟩ = some (.int .u8 (z3.toNat : Int)) := ⟨(hal _ _).trans c0, (hal _ _).trans c1, (hal _ _).trans c2, (hal _ _).trans c3⟩
      have hS2 : wr.drew.cell? ⟨bb, ob + I, none⟩ = some (.int .u8 (z0.toNat : Int)) ∧ wr.drew.cell? ⟨bb, ob + (I + 1), none⟩ = some (.int .u8 (z1.toNat : Int)) ∧ wr.drew.cell? ⟨bb, ob + (I + 2), none⟩ = some (.int .u8 (z2.toNat : Int)) ∧ wr.drew.cell? ⟨bb, ob + (I + 3), none⟩ = some (.int .u8 (z3.toNat : Int)) := ⟨c0, c1, c2, c3⟩
      have HOD : OwnW (wr.alloc (Obj.cells #[Value.int .u32 (val (w8 z0 <<< 24 ||| w8 z1 <<< 16 ||| w8 z2 <<< 8 ||| w8 z3))] 53)).drew w.heap.size (.slice av k cv) k (first16 b k) := OwnG.drew (OwnG.alloc HO.out _)
      have RB : Rd (wr.alloc (Obj.cells #[Value.int .u32 (val (w8 z0 <<< 24 ||| w8 z1 <<< 16 ||| w8 z2 <<< 8 ||| w8 z3))] 53)).drew (wr.heap.size + 1) (some ⟨wr.heap.size, 0, none⟩) (us [w8 z0 <<< 24 ||| w8 z1 <<< 16 ||| w8 z2 <<< 8 ||| w8 z3]) := Rd.drew (Rd.new wr (us [w8 z0 <<< 24 ||| w8 z1 <<< 16 ||| w8 z2 <<< 8 ||| w8 z3]) 53)
      have NB : w.heap.size ≤ (wr.alloc (Obj.cells #[Value.int .u32 (val (w8 z0 <<< 24 ||| w8 z1 <<< 16 ||| w8 z2 <<< 8 ||| w8 z3))] 53)).drew.heap.size := by
        have e : (wr.alloc (Obj.cells #[Value.int .u32 (val (w8 z0 <<< 24 ||| w8 z1 <<< 16 ||| w8 z2 <<< 8 ||| w8 z3))] 53)).drew.heap.size = wr.heap.size + 1 := World.size_alloc _ _
        omega
      have BB : Below w.heap.size w (wr.alloc (Obj.cells #[Value.int .u32 (val (w8 z0 <<< 24 ||| w8 z1 <<< 16 ||| w8 z2 <<< 8 ||| w8 z3))] 53)).drew := (HB.out.alloc hbz _).drew
      have k1000 : k ≤ 1000 := by omega
      have KS : ∀ w', (wr.alloc (Obj.cells #[Value.int .u32 (val (w8 z0 <<< 24 ||| w8 z1 <<< 16 ||| w8 z2 <<< 8 ||| w8 z3))] 53)).drew.grownBy w' (Value.slice av k cv).ownBlock → w'.cell? ⟨bb, ob + I, none⟩ = some (.int .u8 (z0.toNat : Int)) ∧ w'.cell? ⟨bb, ob + (I + 1), none⟩ = some (.int .u8 (z1.toNat : Int)) ∧ w'.cell? ⟨bb, ob + (I + 2), none⟩ = some (.int .u8 (z2.toNat : Int)) ∧ w'.cell? ⟨bb, ob + (I + 3), none⟩ = some (.int .u8 (z3.toNat : Int)) := fun w' hg => by
        have hb := below_app BB HOD (Nat.le_refl _) hg
        exact ⟨(hb.cell (p := ⟨bb, _, none⟩) hbb).trans ((HB.out.cell (p := ⟨bb, _, none⟩) hbb).symm.trans c0), (hb.cell (p := ⟨bb, _, none⟩) hbb).trans ((HB.out.cell (p := ⟨bb, _, none⟩) hbb).symm.trans c1), (hb.cell (p := ⟨bb, _, none⟩) hbb).trans ((HB.out.cell (p := ⟨bb, _, none⟩) hbb).symm.trans c2), (hb.cell (p := ⟨bb, _, none⟩) hbb).trans ((HB.out.cell (p := ⟨bb, _, none⟩) hbb).symm.trans c3)⟩
      have HKS := Lib.hid KS
      have HHOD := Lib.hid HOD
      have HRB := Lib.hid RB
      have HBB := Lib.hid BB
      have HNB := Lib.hid NB
      clear hal KS HOD RB BB NB c0 c1 c2 c3
      go_upto_region 5 with (fail)
      go_region_held3 (fun w' => w'.cell? ⟨bb, ob + I, none⟩ = some (.int .u8 (z0.toNat : Int)) ∧ w'.cell? ⟨bb, ob + (I + 1), none⟩ = some (.int .u8 (z1.toNat : Int)) ∧ w'.cell? ⟨bb, ob + (I + 2), none⟩ = some (.int .u8 (z2.toNat : Int)) ∧ w'.cell? ⟨bb, ob + (I + 3), none⟩ = some (.int .u8 (z3.toNat : Int)))
          (first | with_reducible assumption | go_keep)
          (first
            | (refine step_app32 (by rfl) (.tmp 12) (.tmp 42) (by rfl) w.heap.size (.slice av k cv) k (first16 b k) (by rfl) HHOD.out k1000 (wr.heap.size + 1) (some ⟨wr.heap.size, 0, none⟩) _ (by rfl) HRB.out HNB.out ?_; intro v1 wa hown1 hgr1 hat1; have hS9 := HKS.out wa hgr1; have hb9 := below_app HBB.out HHOD.out (Nat.le_refl _) hgr1))
      all_goals go_wp2_with fail
      all_goals go_roundw
      all_goals first
        | (case measure => simp [intOf]; omega)
        | (have hfin : OwnW wa w.heap.size v1 (k + 1) (first16 b (k + 1)) := by rw [first16_succ, HE.out]; exact hown1
           exact ⟨k + 1, I + 4, by omega, by have := HI.out; omega, by go_num, hfin, hb9⟩)
    · have hke : k = 16 := by omega
      subst hke
      have hI64 : I = 64 := by omega
      subst hI64
      have HB1 := Lib.hid HB.out
      have HO1 : Hid (OwnW wr w.heap.size (.slice av 16 cv) 16 (sched b 0)) := Lib.hid HO.out
      clear HO HB hI
      go_wp2_with fail
      go_loopw [3, 5] (fun v vi wq => WdRel b w v vi wq) (fun _ vi _ => 64 - (intOf vi).toNat)
      case atStart => exact ⟨16, by omega, by omega, rfl, HO1.out, HB1.out⟩
      case round =>
        clear HO1 HB1
        obtain ⟨T, hT16, hT64, rfl, hown, hbl⟩ := hrel
        rename World => wq
        have hsl : (sched b (T - 16)).length = T := by rw [sched_length]; omega
        by_cases hlt : T < 64
        · obtain ⟨q, o, cq, rfl, hq1, hq2, hcq, hcl⟩ := OwnG.form hown (by omega)
          obtain ⟨ws, hws⟩ : ∃ ws, sched b (T - 16) = ws := ⟨_, rfl⟩
          rw [hws] at hown hsl hcl
          have a15 : wq.cell? ⟨q, o + (T - 15), none⟩ = some (.int .u32 (val (at32 ws (T - 15)))) := hcl (T - 15) _ (us_get ws (T - 15) (by omega))
          have a2 : wq.cell? ⟨q, o + (T - 2), none⟩ = some (.int .u32 (val (at32 ws (T - 2)))) := hcl (T - 2) _ (us_get ws (T - 2) (by omega))
          have a16 : wq.cell? ⟨q, o + (T - 16), none⟩ = some (.int .u32 (val (at32 ws (T - 16)))) := hcl (T - 16) _ (us_get ws (T - 16) (by omega))
          have a7 : wq.cell? ⟨q, o + (T - 7), none⟩ = some (.int .u32 (val (at32 ws (T - 7)))) := hcl (T - 7) _ (us_get ws (T - 7) (by omega))
          have HNX : Hid (sched b (T + 1 - 16) = ws ++ [at32 ws (T - 16) + at32 ws (T - 7) + sg0 (at32 ws (T - 15)) + sg1 (at32 ws (T - 2))]) := Lib.hid (by
            rw [show T + 1 - 16 = (T - 16) + 1 by omega, sched, hws, nextW, show T - 16 + 16 = T by omega])
          have h16 := us_get ws (T - 16) (by omega)
          have h7 := us_get ws (T - 7) (by omega)
          generalize at32 ws (T - 15) = x15 at a15 HNX
          generalize at32 ws (T - 2) = x2 at a2 HNX
          generalize at32 ws (T - 16) = x16 at a16 HNX h16
          generalize at32 ws (T - 7) = x7 at a7 HNX h7
          have HNX2 : Hid (sched b (T + 1 - 16) = ws ++ [((rr x2 17 ^^^ rr x2 19 ^^^ x2 >>> 10) + x7 + (rr x15 7 ^^^ rr x15 18 ^^^ x15 >>> 3) + x16)]) := Lib.hid (by
            rw [HNX.out]
            congr 2
            show x16 + x7 + (rr x15 7 ^^^ rr x15 18 ^^^ x15 >>> 3) + (rr x2 17 ^^^ rr x2 19 ^^^ x2 >>> 10) = _
            ac_rfl)
          have n15 : 0 ≤ (T : Int) - 15 := by omega
          have m15 : (T : Int) - 15 < (T : Int) := by omega
          have t15 : ((T : Int) - 15).toNat = T - 15 := by omega
          have w15 : IntKind.i64.wrap ((T : Int) - 15) = (T : Int) - 15 := IntWalk.i64_in _ (by omega)
          have n2 : 0 ≤ (T : Int) - 2 := by omega
          have m2 : (T : Int) - 2 < (T : Int) := by omega
          have t2 : ((T : Int) - 2).toNat = T - 2 := by omega
          have w2 : IntKind.i64.wrap ((T : Int) - 2) = (T : Int) - 2 := IntWalk.i64_in _ (by omega)
          have n16 : 0 ≤ (T : Int) - 16 := by omega
          have m16 : (T : Int) - 16 < (T : Int) := by omega
          have t16 : ((T : Int) - 16).toNat = T - 16 := by omega
          have w16 : IntKind.i64.wrap ((T : Int) - 16) = (T : Int) - 16 := IntWalk.i64_in _ (by omega)
          have n7 : 0 ≤ (T : Int) - 7 := by omega
          have m7 : (T : Int) - 7 < (T : Int) := by omega
          have t7 : ((T : Int) - 7).toNat = T - 7 := by omega
          have w7 : IntKind.i64.wrap ((T : Int) - 7) = (T : Int) - 7 := IntWalk.i64_in _ (by omega)
          have p7 : (7 : Int) ≤ (T : Int) := by omega
          have p16 : (16 : Int) ≤ (T : Int) := by omega
          have q7 : (T : Int) < (T : Int) + 7 := by omega
          have q16 : (T : Int) < (T : Int) + 16 := by omega
          have hTI : (T : Int) < 64 := by omega
          have k0 : (0 : Int) ≤ (T : Int) := Int.natCast_nonneg T
          have r1 := val_add
          have r2 := val_xor
          have r3 : ∀ x : W32, val x / (8 : Int) = val (x >>> 3) := fun x => val_shr x 3
          have r4 : ∀ x : W32, val x / (1024 : Int) = val (x >>> 10) := fun x => val_shr x 10
          have hqw : q < wq.heap.size := hq2
          have hal : ∀ (ob : Obj) (j : Nat), (wq.alloc ob).cell? ⟨q, j, none⟩ = wq.cell? ⟨q, j, none⟩ := fun ob j => World.cell?_alloc_lt wq ob ⟨q, j, none⟩ hqw
          have hS0 : wq.cell? ⟨q, o + (T - 16), none⟩ = some (.int .u32 (val x16)) ∧ wq.cell? ⟨q, o + (T - 7), none⟩ = some (.int .u32 (val x7)) := ⟨a16, a7⟩
          have hS1 : (wq.alloc (Obj.cells #[Value.int .u32 (val ((rr x2 17 ^^^ rr x2 19 ^^^ x2 >>> 10) + x7 + (rr x15 7 ^^^ rr x15 18 ^^^ x15 >>> 3) + x16))] 53)).drew.cell? ⟨q, o + (T - 16), none⟩ = some (.int .u32 (val x16)) ∧ (wq.alloc (Obj.cells #[Value.int .u32 (val ((rr x2 17 ^^^ rr x2 19 ^^^ x2 >>> 10) + x7 + (rr x15 7 ^^^ rr x15 18 ^^^ x15 >>> 3) + x16))] 53)).drew.cell? ⟨q, o + (T - 7), none⟩ = some (.int .u32 (val x7)) := ⟨(hal _ _).trans a16, (hal _ _).trans a7⟩
          have hS2 : wq.drew.cell? ⟨q, o + (T - 16), none⟩ = some (.int .u32 (val x16)) ∧ wq.drew.cell? ⟨q, o + (T - 7), none⟩ = some (.int .u32 (val x7)) := ⟨a16, a7⟩
          have HHOD : Hid (OwnW (wq.alloc (Obj.cells #[Value.int .u32 (val ((rr x2 17 ^^^ rr x2 19 ^^^ x2 >>> 10) + x7 + (rr x15 7 ^^^ rr x15 18 ^^^ x15 >>> 3) + x16))] 53)).drew w.heap.size (.slice (some ⟨q, o, none⟩) T cq) T ws) := Lib.hid (OwnG.drew (OwnG.alloc hown _))
          have HRB : Hid (Rd (wq.alloc (Obj.cells #[Value.int .u32 (val ((rr x2 17 ^^^ rr x2 19 ^^^ x2 >>> 10) + x7 + (rr x15 7 ^^^ rr x15 18 ^^^ x15 >>> 3) + x16))] 53)).drew (wq.heap.size + 1) (some ⟨wq.heap.size, 0, none⟩) (us [((rr x2 17 ^^^ rr x2 19 ^^^ x2 >>> 10) + x7 + (rr x15 7 ^^^ rr x15 18 ^^^ x15 >>> 3) + x16)])) := Lib.hid (Rd.drew (Rd.new wq (us [((rr x2 17 ^^^ rr x2 19 ^^^ x2 >>> 10) + x7 + (rr x15 7 ^^^ rr x15 18 ^^^ x15 >>> 3) + x16)]) 53))
          have HNB : Hid (w.heap.size ≤ (wq.alloc (Obj.cells #[Value.int .u32 (val ((rr x2 17 ^^^ rr x2 19 ^^^ x2 >>> 10) + x7 + (rr x15 7 ^^^ rr x15 18 ^^^ x15 >>> 3) + x16))] 53)).drew.heap.size) := Lib.hid (by
            have e : (wq.alloc (Obj.cells #[Value.int .u32 (val ((rr x2 17 ^^^ rr x2 19 ^^^ x2 >>> 10) + x7 + (rr x15 7 ^^^ rr x15 18 ^^^ x15 >>> 3) + x16))] 53)).drew.heap.size = wq.heap.size + 1 := World.size_alloc _ _
            have := hbl.size
            omega)
          have HBB : Hid (Below w.heap.size w (wq.alloc (Obj.cells #[Value.int .u32 (val ((rr x2 17 ^^^ rr x2 19 ^^^ x2 >>> 10) + x7 + (rr x15 7 ^^^ rr x15 18 ^^^ x15 >>> 3) + x16))] 53)).drew) := Lib.hid ((hbl.alloc hbl.size _).drew)
          have k1000 : T ≤ 1000 := by omega
          have HKS : Hid (∀ (w' : World) (v' : Value), OwnW w' w.heap.size v' (T + 1) (ws ++ [((rr x2 17 ^^^ rr x2 19 ^^^ x2 >>> 10) + x7 + (rr x15 7 ^^^ rr x15 18 ^^^ x15 >>> 3) + x16)]) → (wq.alloc (Obj.cells #[Value.int .u32 (val ((rr x2 17 ^^^ rr x2 19 ^^^ x2 >>> 10) + x7 + (rr x15 7 ^^^ rr x15 18 ^^^ x15 >>> 3) + x16))] 53)).drew.grownBy w' (Value.slice (some ⟨q, o, none⟩) T cq).ownBlock → Below w.heap.size w w') := Lib.hid (fun w' v' ho hg => below_app HBB.out HHOD.out (Nat.le_refl _) hg)
          have HSK : Hid (∀ wa : World, (∀ j u, (us ws)[j]? = some u → wa.cell? ⟨q, o + j, none⟩ = some u) → wa.cell? ⟨q, o + (T - 16), none⟩ = some (.int .u32 (val x16)) ∧ wa.cell? ⟨q, o + (T - 7), none⟩ = some (.int .u32 (val x7))) := Lib.hid (fun wa h => ⟨h (T - 16) _ h16, h (T - 7) _ h7⟩)
          clear hal hown hbl hcl hws hsl hq1 hq2 hcq HNX h16 h7
          go_upto_region 11 with (fail)
          go_region_held3 (fun w' => w'.cell? ⟨q, o + (T - 16), none⟩ = some (.int .u32 (val x16)) ∧ w'.cell? ⟨q, o + (T - 7), none⟩ = some (.int .u32 (val x7)))
            (first | with_reducible assumption | go_keep)
            (first
              | ((with_reducible refine (turn17 x2 _).mono ?_); rintro e w' ⟨rfl, rfl⟩)
              | ((with_reducible refine (turn19 x2 _).mono ?_); rintro e w' ⟨rfl, rfl⟩)
              | ((with_reducible refine (turn7 x15 _).mono ?_); rintro e w' ⟨rfl, rfl⟩)
              | ((with_reducible refine (turn18 x15 _).mono ?_); rintro e w' ⟨rfl, rfl⟩)
              | (refine step_app32k (by rfl) (.tmp 58) (.tmp 88) (by rfl) w.heap.size T q o cq ws (by rfl) HHOD.out k1000 (wq.heap.size + 1) wq.heap.size 0 _ (by rfl) HRB.out HNB.out ?_; intro v1 wa hown1 hgr1 hkp; have hSk := HSK.out wa hkp; have hb9 := HKS.out wa v1 hown1 hgr1))
          all_goals go_wp2_with fail
          all_goals go_roundw
          all_goals first
            | (case measure => simp [intOf]; omega)
            | (have hfin : OwnW wa w.heap.size v1 (T + 1) (sched b (T + 1 - 16)) := by rw [HNX2.out]; exact hown1
               have hr : WdRel b w v1 (.int .i64 ((T : Int) + 1)) wa := ⟨T + 1, by omega, by omega, by go_num, hfin, hb9⟩
               first | exact hr | ((repeat apply Exists.intro); exact ⟨hr, rfl⟩))
        · have hTe : T = 64 := by omega
          subst hTe
          obtain ⟨a9, c9, rfl, hc9⟩ := OwnW.shape hown
          have HO := Lib.hid hown
          have HB := Lib.hid hbl
          clear hown hbl hc9 hsl
          go_wp2_with fail
          go_ret
          exact ⟨_, _, rfl, HO.out, HB.out⟩
end Go.Proofs.YtnfchojekcoplaaDoor
