/- sha: what block needs -/
import Derived.Test.YtnfchojekcoplaaDoorBlk
import Derived.Deep.QuietTactic
import Derived.BigQuiet
namespace Go.Proofs.YtnfchojekcoplaaDoor
set_option linter.unusedVariables false
set_option linter.unusedSimpArgs false
open Go.RowKit

theorem quiet_add_left {P : Program} {f : FuncId} {args : Array Value} {w : World} {a n : Nat} {v : Value}
    (h : Calls P f args (w.drewN (a + n)) fun e w' => e = .returned v ∧ w.drewN (a + n) = w') :
    Calls P f args (w.drewN (a + n)) fun e w'' => e = .returned v ∧ ∃ m, w'' = w.drewN (a + m) :=
  h.mono fun _ _ ⟨he, hm⟩ => ⟨he, n, hm.symm⟩

def us (l : List W32) : List Value := l.map U
theorem us_get (l : List W32) (i : Nat) (h : i < l.length) : (us l)[i]? = some (.int .u32 (val (at32 l i))) := by
  simp [us, U, at32, List.getD, h]
theorem us_set (l : List W32) (i : Nat) (x : W32) : us (l.set i x) = (us l).set i (U x) := by simp [us, List.map_set]

/-- The table of constants lies in block 0, as the program's text lays it. -/
def KOK (W : World) : Prop := W.heap[0]? = some (.cells (us kTab).toArray 59 (0, 0))

theorem first16_length (b : List UInt8) (n : Nat) : (first16 b n).length = n := by simp [first16]
theorem first16_succ (b : List UInt8) (n : Nat) : first16 b (n + 1) = first16 b n ++ [be4 b n] := by simp [first16, List.range_succ]
theorem sched_length (b : List UInt8) (n : Nat) : (sched b n).length = n + 16 := by
  induction n with
  | zero => rfl
  | succ n ih => simp [sched, ih]

theorem be4_eq (b : List UInt8) (k : Nat) (h : 4 * k + 3 < b.length) :
    be4 b k = (w8 (b[4 * k]'(by omega)) <<< 24) ||| (w8 (b[4 * k + 1]'(by omega)) <<< 16) ||| (w8 (b[4 * k + 2]'(by omega)) <<< 8) ||| w8 (b[4 * k + 3]'h) := by
  unfold be4
  have e : ∀ i, (hi : i < b.length) → b.getD i 0 = b[i] := fun i hi => by simp [List.getD, hi]
  rw [e _ (by omega), e _ (by omega), e _ (by omega), e _ h]

theorem at32_take (l : List W32) (n i : Nat) (h : i < n) : at32 (l.take n) i = at32 l i := by
  simp [at32, List.getD, List.getElem?_take, h]
theorem nextW_take (l : List W32) (T : Nat) (h : 16 ≤ T) : nextW (l.take T) T = nextW l T := by
  unfold nextW
  rw [at32_take _ _ _ (by omega), at32_take _ _ _ (by omega), at32_take _ _ _ (by omega), at32_take _ _ _ (by omega)]

/-- 'a[i]' of an array of words by value. -/
theorem run_index_us (T : TypeId) (n : Nat) (hT : Tryd.prog.underlying T = some (.array n 53)) (l : List W32) (hl : l.length = n) (k : Nat) (hk : k < n) (w : World) :
    (Instr.index T (.agg (us l).toArray) (.int .i64 k)).run Tryd.prog w = .ok (.int .u32 (val (at32 l k))) w := by
  have hag : (isAgg 53).run Tryd.prog w = .ok false w := by kernel_rfl
  have hsz : (sizeOf 53).run Tryd.prog w = .ok 1 w := by kernel_rfl
  have hi : (0 : Int) ≤ (k : Int) ∧ (k : Int) < (n : Int) := by omega
  have hg := us_get l k (by omega)
  simp only [Instr.index, asIntOf, Sem.run_bind, Sem.run_pure, Result.andThen_ok, run_underlying hT, hi, and_self, if_true, hsz, Int.toNat_natCast, Nat.mul_one, part, hag, Bool.false_eq_true, if_false]
  simp [hg]

theorem load8 {W : World} {g : Nat} {T : TypeId} {st : List W32} {xs : List Value} (h : Blk W g T (us st ++ xs)) (hst : st.length = 8) (i : Nat) (hi : i < 8) : W.cell? ⟨g, i, none⟩ = some (.int .u32 (val (at32 st i))) := by
  refine h.cell i _ ?_
  rw [List.getElem?_append_left (by simp [us]; omega)]
  exact us_get st i (by omega)
theorem eq8 (l : List W32) (h : l.length = 8) : l = [at32 l 0, at32 l 1, at32 l 2, at32 l 3, at32 l 4, at32 l 5, at32 l 6, at32 l 7] := by
  match l, h with
  | [a, b, c, d, e, f, g, i], _ => rfl
theorem rnds_length (ws s : List W32) (n : Nat) (h : s.length = 8) : (rnds ws s n).length = 8 := by
  cases n with
  | zero => exact h
  | succ n => rfl

/-- copy(s[1:], s[:7]) of eight words. -/
theorem step_copy7 {w : World} {ops : Array Oper} {o : Oper} {a : Act} {K : Act → World → Prop} {Q : Exit → Act → World → Prop} {E : Prop} (hgd : o.guard = none) (d s : Operand) (dT sT : TypeId)
    (ho : o.op = .call { callee := .builtin .copy, args := #[d, s], argTypes := #[dT, sT] }) (hdT : Tryd.prog.underlying dT = some (.slice 53))
    (g dc sc : Nat) (T : TypeId) (l : List W32) (hl : l.length = 8) (hd : a.eval d = .slice (some ⟨g, 1, none⟩) 7 dc) (hs : a.eval s = .slice (some ⟨g, 0, none⟩) 7 sc) (hb : Blk w g T (us l))
    (h : ∀ w', Blk w' g T (us [at32 l 0, at32 l 0, at32 l 1, at32 l 2, at32 l 3, at32 l 4, at32 l 5, at32 l 6]) → w.grownBy w' (some g) → K (a.put o.dst (goInt 7)) w') :
    if Region.wanted o (yielded ops a.tmps) = true then Oper.wp Tryd.prog o a w K Q else E := by
  have hw : Region.wanted o (yielded ops a.tmps) = true := by simp [Region.wanted, hgd]
  rw [if_pos hw]
  have hsz : (Tryd.prog.info? 53).map (·.size) = some 1 := by kernel_rfl
  have hrun := run_copy_cells (P := Tryd.prog) w dT sT o.type 53 g 1 7 dc ⟨g, 0, none⟩ 7 sc (us (l.take 7)) hdT hsz (by simp [us]; omega)
    (fun j v hv => by
      have hj : j < 7 := by have := (List.getElem?_eq_some_iff.1 hv).1; simp [us] at this; omega
      rw [Addr.add_lit, Nat.zero_add]
      refine hb.cell j v ?_
      rw [← hv]
      simp [us, List.getElem?_take, hj])
    (fun j hj => by
      have hj : j < 7 := by simp [us] at hj; omega
      rw [hb.cell (1 + j) _ (us_get l (1 + j) (by omega))]; rfl)
    (fun j hj => hb.frozen (1 + j))
    (fun v hv => by
      simp only [us, List.mem_map] at hv
      obtain ⟨x, _, rfl⟩ := hv
      rfl)
  have hlen : (us (l.take 7)).length = 7 := by simp [us]; omega
  have e := eq8 l hl
  have hb2 : Blk (w.setCells g 1 (us (l.take 7))) g T (us [at32 l 0, at32 l 0, at32 l 1, at32 l 2, at32 l 3, at32 l 4, at32 l 5, at32 l 6]) := by
    have e7 : us (l.take 7) = [U (at32 l 0), U (at32 l 1), U (at32 l 2), U (at32 l 3), U (at32 l 4), U (at32 l 5), U (at32 l 6)] := by rw [e]; rfl
    rw [e7]
    have h1 := ((((((hb.set 1 (U (at32 l 0))).set 2 (U (at32 l 1))).set 3 (U (at32 l 2))).set 4 (U (at32 l 3))).set 5 (U (at32 l 4))).set 6 (U (at32 l 5))).set 7 (U (at32 l 6))
    have e8 : us l = [U (at32 l 0), U (at32 l 1), U (at32 l 2), U (at32 l 3), U (at32 l 4), U (at32 l 5), U (at32 l 6), U (at32 l 7)] := by
      have := congrArg us e
      rw [this]; rfl
    rw [e8] at h1
    exact h1
  have hg : w.grownBy (w.setCells g 1 (us (l.take 7))) (some g) := by
    obtain ⟨_, _, _, _, _, h5⟩ := setCells_heap g (us (l.take 7)) 1 w _ _ _ hb (by rw [hlen]; simp [us]; omega)
    exact h5
  unfold Oper.wp execOp
  simp only [ho, resolve, invoke, builtin, Sem.run_bind, Sem.run_pure, Result.andThen_ok, List.map_toArray, List.map_cons, List.map_nil, hd, hs, hrun]
  rw [hlen]
  exact h _ hb2 hg

def L3Rel (b : List UInt8) (st : List W32) (w : World) (gs : Nat) (i : Value) (wr : World) : Prop :=
  ∃ (k : Nat) (ws s : List W32), i = .int .i64 k ∧ k ≤ 64 ∧ ws = sched b 48 ∧ s = rnds ws st k ∧ Blk wr w.heap.size 59 (us ws) ∧ Blk wr gs 54 (us s) ∧ Below w.heap.size w wr

theorem grownBy_below {w w' : World} {row : Option Nat} (h : Below w.heap.size w w') : w.grownBy w' row := ⟨h.os, h.tape, h.output, h.size, fun k hk _ => h.block k hk⟩
theorem grownBy_set {w w' : World} {g i : Nat} {s : Option Nat} (h : w.grownBy w' (some g)) (v : Value) : w.grownBy (w'.setCell ⟨g, i, s⟩ v) (some g) := by
  refine ⟨h.os, h.tape, h.output, by simpa using h.size, fun k hk hr => ?_⟩
  rw [← h.block k hk hr]
  have : ¬ g = k := fun e => hr (by rw [e])
  simp [World.setCell, Array.getElem?_modify, this]
theorem grownBy_drew {w w' : World} {row : Option Nat} (h : w.grownBy w' row) : w.grownBy w'.drew row := ⟨h.os, h.tape, h.output, h.size, h.block⟩
theorem grownBy_drewN {w w' : World} {row : Option Nat} (h : w.grownBy w' row) (n : Nat) : w.grownBy (w'.drewN n) row := ⟨h.os, h.tape, h.output, h.size, h.block⟩

def L4Rel (st s : List W32) (xs : List Value) (w : World) (gh gs : Nat) (i : Value) (wr : World) : Prop :=
  ∃ (k : Nat) (hs : List W32), i = .int .i64 k ∧ k ≤ 8 ∧ hs.length = 8 ∧ hs.take k = (List.zipWith (· + ·) st s).take k ∧ hs.drop k = st.drop k ∧ Blk wr gh 57 (us hs ++ xs) ∧ Blk wr gs 54 (us s) ∧ w.grownBy wr (some gh)

theorem at32_drop {l m : List W32} {k : Nat} (h : l.drop k = m.drop k) : at32 l k = at32 m k := by
  have h1 : (l.drop k)[0]? = (m.drop k)[0]? := by rw [h]
  rw [List.getElem?_drop, List.getElem?_drop] at h1
  simp only [Nat.add_zero] at h1
  simp [at32, List.getD, h1]
theorem l4_step {st s hs : List W32} {k : Nat} (h1 : st.length = 8) (h2 : s.length = 8) (h3 : hs.length = 8) (hk : k < 8) (ht : hs.take k = (List.zipWith (· + ·) st s).take k) (hd : hs.drop k = st.drop k) :
    (hs.set k (at32 hs k + at32 s k)).take (k + 1) = (List.zipWith (· + ·) st s).take (k + 1) ∧ (hs.set k (at32 hs k + at32 s k)).drop (k + 1) = st.drop (k + 1) := by
  constructor
  · rw [take_set _ _ _ (by omega), ht, List.take_succ_eq_append_getElem (by simp; omega), List.getElem_zipWith, at32_drop hd]
    simp [at32, List.getD, h1, h2, hk]
  · rw [List.drop_set_of_lt (by omega)]
    have := congrArg (List.drop 1) hd
    rw [List.drop_drop, List.drop_drop] at this
    exact this

theorem us_app_set (hs : List W32) (xs : List Value) (k : Nat) (x : W32) (hk : k < hs.length) : (us hs ++ xs).set k (U x) = us (hs.set k x) ++ xs := by
  rw [us_set, List.set_append_left _ _ (by simpa [us] using hk)]

def L1Rel (b : List UInt8) (w : World) (i : Value) (wr : World) : Prop :=
  ∃ (k : Nat) (ws : List W32), i = .int .i64 k ∧ k ≤ 16 ∧ ws.length = 64 ∧ ws.take k = first16 b k ∧ Blk wr w.heap.size 59 (us ws) ∧ Below w.heap.size w wr
def L2Rel (b : List UInt8) (w : World) (i : Value) (wr : World) : Prop :=
  ∃ (T : Nat) (ws : List W32), i = .int .i64 T ∧ 16 ≤ T ∧ T ≤ 64 ∧ ws.length = 64 ∧ ws.take T = sched b (T - 16) ∧ Blk wr w.heap.size 59 (us ws) ∧ Below w.heap.size w wr

end Go.Proofs.YtnfchojekcoplaaDoor
