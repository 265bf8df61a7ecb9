/- devices: what a store or an append does to one -/
import Derived.Test.YthenpkimcjdkcaaDv1
namespace Go.Proofs.Ythenpkimcjdkcaa
set_option linter.unusedVariables false
set_option linter.unusedSimpArgs false
open Go.RowKit

section
variable {w w' : World} {L : Lay} {I : Nat → Prop} {D : Dv}
theorem FMap.isMap {b : Nat} {f : Int → List UInt8} (h : FMap w I b f) : ∃ es ck, w.heap[b]? = some (.map es ck) := by
  obtain ⟨l, ⟨es, ck, h1, _⟩, _⟩ := h; exact ⟨es, ck, h1⟩
theorem BMap.isMap {b : Nat} {f : Int → Bool} (h : BMap w b f) : ∃ es ck, w.heap[b]? = some (.map es ck) := by
  obtain ⟨l, ⟨es, ck, h1, _⟩, _⟩ := h; exact ⟨es, ck, h1⟩
theorem ne_map {a b : Nat} {cur : Array Value} {t : TypeId} {fr : Nat × Nat} (ha : w.heap[a]? = some (.cells cur t fr)) (hb : ∃ es ck, w.heap[b]? = some (.map es ck)) : a ≠ b := by
  rintro rfl
  obtain ⟨es, ck, h⟩ := hb
  rw [ha] at h; cases h
theorem ne_cells {a b : Nat} {cur cur' : Array Value} {t t' : TypeId} {fr fr' : Nat × Nat} (ha : w.heap[a]? = some (.cells cur t fr)) (hb : w.heap[b]? = some (.cells cur' t' fr')) (hne : t ≠ t') : a ≠ b := by
  rintro rfl
  rw [ha] at hb
  injection hb with hb
  injection hb with _ hb _
  exact hne hb
/-- Its blocks are apart. -/
theorem DevAt.ne (h : DevAt w L I D) : L.g ≠ L.fm ∧ L.g ≠ L.nm ∧ L.g ≠ L.bm ∧ (∀ k, L.vl.ownBlock = some k → k ≠ L.g ∧ k ≠ L.fm ∧ k ≠ L.nm ∧ k ≠ L.bm ∧ L.vs.ownBlock ≠ some k) ∧ (∀ k, L.vs.ownBlock = some k → k ≠ L.g ∧ k ≠ L.fm ∧ k ≠ L.nm ∧ k ≠ L.bm) := by
  have f1 := h.first.isMap
  have f2 := h.now.isMap
  have f3 := h.bad.isMap
  obtain ⟨cs, hl, _⟩ := h.log
  refine ⟨ne_map h.blk f1, ne_map h.blk f2, ne_map h.blk f3, fun k hk => ?_, fun k hk => ?_⟩
  · obtain ⟨cur, fr, h1⟩ := hl.kind hk
    refine ⟨ne_cells h1 h.blk (by decide), ne_map h1 f1, ne_map h1 f2, ne_map h1 f3, fun hk2 => ?_⟩
    obtain ⟨cur', fr', h2⟩ := h.syncs.kind hk2
    exact ne_cells h1 h2 (by decide) rfl
  · obtain ⟨cur, fr, h1⟩ := h.syncs.kind hk
    exact ⟨ne_cells h1 h.blk (by decide), ne_map h1 f1, ne_map h1 f2, ne_map h1 f3⟩
theorem isU8.keep {k : Nat} (h : isU8 w k) (hb : w'.heap[k]? = w.heap[k]?) : isU8 w' k := by
  obtain ⟨cur, fr, h1⟩ := h
  exact ⟨cur, fr, hb.trans h1⟩

theorem DevAt.putNow {I' : Nat → Prop} (h : DevAt w L I D) (hI : ∀ k, I k → I' k) (him : ∀ k, I' k → isU8 w k) (i : Int) (h1 : -9223372036854775808 ≤ i) (h2 : i ≤ 9223372036854775807) {v : Value} {x : List UInt8} (hv : BytesV w I' v x) (hx : x.length ≤ 64) :
    ∃ w', (Instr.mapUpdate 89 (.map (some L.nm)) (.int .i64 i) v).run Try.prog w = .ok () w' ∧ DevAt w' L I' { D with now := setF D.now i (full x) } ∧ w.grownBy w' (some L.nm) := by
  have h' := h.more hI him
  obtain ⟨w', hr, hn, hg⟩ := h'.now.upd (fun _ h => h) him i h1 h2 hv hx
  obtain ⟨n1, n2, n3, n4, n5⟩ := h'.ne
  have hk : ∀ k, k < w.heap.size → k ≠ L.nm → w'.heap[k]? = w.heap[k]? := fun k hk hne => hg.block k hk (fun e => hne (by injection e))
  have hi : ∀ k, I' k → w'.heap[k]? = w.heap[k]? := fun k hI' => hk k (h'.ltI hI') (fun e => h'.I_notM hI' (.inr (.inr (.inl e))))
  obtain ⟨cs, l1, l2⟩ := h'.log
  exact ⟨w', hr, ⟨h'.blk.keep (hk _ h'.blk.lt n2), h'.first.keep (hk _ h'.first.lt h.d1) (fun _ h => h) hi, hn, h'.bad.keep (hk _ h'.bad.lt (fun e => h.d3 e.symm)),
    ⟨cs, l1.keep fun k hk2 hlt => hk k hlt (n4 k hk2).2.2.1, l2.keep (fun _ h => h) hi⟩, h'.syncs.keep fun k hk2 hlt => hk k hlt (n5 k hk2).2.2.1, fun k hI' => (him k hI').keep (hi k hI'), h.d1, h.d2, h.d3⟩, hg⟩
theorem DevAt.putFirst {I' : Nat → Prop} (h : DevAt w L I D) (hI : ∀ k, I k → I' k) (him : ∀ k, I' k → isU8 w k) (i : Int) (h1 : -9223372036854775808 ≤ i) (h2 : i ≤ 9223372036854775807) {v : Value} {x : List UInt8} (hv : BytesV w I' v x) (hx : x.length ≤ 64) :
    ∃ w', (Instr.mapUpdate 89 (.map (some L.fm)) (.int .i64 i) v).run Try.prog w = .ok () w' ∧ DevAt w' L I' { D with first := setF D.first i (full x) } ∧ w.grownBy w' (some L.fm) := by
  have h' := h.more hI him
  obtain ⟨w', hr, hn, hg⟩ := h'.first.upd (fun _ h => h) him i h1 h2 hv hx
  obtain ⟨n1, n2, n3, n4, n5⟩ := h'.ne
  have hk : ∀ k, k < w.heap.size → k ≠ L.fm → w'.heap[k]? = w.heap[k]? := fun k hk hne => hg.block k hk (fun e => hne (by injection e))
  have hi : ∀ k, I' k → w'.heap[k]? = w.heap[k]? := fun k hI' => hk k (h'.ltI hI') (fun e => h'.I_notM hI' (.inr (.inl e)))
  obtain ⟨cs, l1, l2⟩ := h'.log
  exact ⟨w', hr, ⟨h'.blk.keep (hk _ h'.blk.lt n1), hn, h'.now.keep (hk _ h'.now.lt (fun e => h.d1 e.symm)) (fun _ h => h) hi, h'.bad.keep (hk _ h'.bad.lt (fun e => h.d2 e.symm)),
    ⟨cs, l1.keep fun k hk2 hlt => hk k hlt (n4 k hk2).2.1, l2.keep (fun _ h => h) hi⟩, h'.syncs.keep fun k hk2 hlt => hk k hlt (n5 k hk2).2.1, fun k hI' => (him k hI').keep (hi k hI'), h.d1, h.d2, h.d3⟩, hg⟩
theorem DevAt.bad_step (h : DevAt w L I D) {f : Int → Bool} (hn : BMap w' L.bm f) (hg : w.grownBy w' (some L.bm)) : DevAt w' L I { D with bad := f } := by
  obtain ⟨n1, n2, n3, n4, n5⟩ := h.ne
  have hk : ∀ k, k < w.heap.size → k ≠ L.bm → w'.heap[k]? = w.heap[k]? := fun k hk hne => hg.block k hk (fun e => hne (by injection e))
  have hi : ∀ k, I k → w'.heap[k]? = w.heap[k]? := fun k hI' => hk k (h.ltI hI') (fun e => h.I_notM hI' (.inr (.inr (.inr (.inl e)))))
  obtain ⟨cs, l1, l2⟩ := h.log
  exact ⟨h.blk.keep (hk _ h.blk.lt n3), h.first.keep (hk _ h.first.lt h.d2) (fun _ h => h) hi, h.now.keep (hk _ h.now.lt h.d3) (fun _ h => h) hi, hn,
    ⟨cs, l1.keep fun k hk2 hlt => hk k hlt (n4 k hk2).2.2.2.1, l2.keep (fun _ h => h) hi⟩, h.syncs.keep fun k hk2 hlt => hk k hlt (n5 k hk2).2.2.2, fun k hI' => (h.imm k hI').keep (hi k hI'), h.d1, h.d2, h.d3⟩
theorem DevAt.putBad (h : DevAt w L I D) (i : Int) (h1 : -9223372036854775808 ≤ i) (h2 : i ≤ 9223372036854775807) (v : Bool) :
    ∃ w', (Instr.mapUpdate 90 (.map (some L.bm)) (.int .i64 i) (.bool v)).run Try.prog w = .ok () w' ∧ DevAt w' L I { D with bad := setF D.bad i v } ∧ w.grownBy w' (some L.bm) := by
  obtain ⟨w', hr, hn, hg⟩ := h.bad.upd i h1 h2 v
  exact ⟨w', hr, h.bad_step hn hg, hg⟩
theorem DevAt.delBad (h : DevAt w L I D) (ty : TypeId) (i : Int) (h1 : -9223372036854775808 ≤ i) (h2 : i ≤ 9223372036854775807) :
    ∃ w', (Builtin.delete_ #[90, 3] ty #[.map (some L.bm), .int .i64 i]).run Try.prog w = .ok (.tuple #[]) w' ∧ DevAt w' L I { D with bad := setF D.bad i false } ∧ w.grownBy w' (some L.bm) := by
  obtain ⟨w', hr, hn, hg⟩ := h.bad.del ty i h1 h2
  exact ⟨w', hr, h.bad_step hn hg, hg⟩

/-- A store into the device's own block: the other parts stay. -/
theorem DevAt.store (h : DevAt w L I D) (i : Nat) (v : Value) (L' : Lay) (D' : Dv) (hc : (devC L D).set i v = devC L' D')
    (hg : L'.g = L.g) (hf : FMap w I L'.fm D'.first) (hn : FMap w I L'.nm D'.now) (hb : BMap w L'.bm D'.bad) (hl : ∃ cs, OwnG w 0 102 4 L'.vl D'.log.length cs ∧ LogC w I D'.log cs) (hs : OwnG w 0 99 2 L'.vs D'.syncs.length (syncC D'.syncs))
    (d1 : L'.fm ≠ L'.nm) (d2 : L'.fm ≠ L'.bm) (d3 : L'.nm ≠ L'.bm) : DevAt (w.setCell ⟨L.g, i, none⟩ v) L' I D' := by
  have hk : ∀ k, k ≠ L.g → (w.setCell ⟨L.g, i, none⟩ v).heap[k]? = w.heap[k]? := fun k hne => Below.heap_setCell _ _ _ _ hne
  have hi : ∀ k, I k → (w.setCell ⟨L.g, i, none⟩ v).heap[k]? = w.heap[k]? := fun k hI' => hk k (fun e => h.I_notM hI' (.inl e))
  have nm : ∀ b, (∃ es ck, w.heap[b]? = some (.map es ck)) → b ≠ L.g := fun b hb e => ne_map h.blk hb e.symm
  obtain ⟨cs, l1, l2⟩ := hl
  refine ⟨?_, hf.keep (hk _ (nm _ hf.isMap)) (fun _ h => h) hi, hn.keep (hk _ (nm _ hn.isMap)) (fun _ h => h) hi, hb.keep (hk _ (nm _ hb.isMap)), ⟨cs, l1.keep fun k hk2 hlt => hk k ?_, l2.keep (fun _ h => h) hi⟩, hs.keep fun k hk2 hlt => hk k ?_, fun k hI' => (h.imm k hI').keep (hi k hI'), d1, d2, d3⟩
  · rw [← hc, hg]; exact h.blk.set i v
  · obtain ⟨cur, fr, h1⟩ := l1.kind hk2
    exact ne_cells h1 h.blk (by decide)
  · obtain ⟨cur, fr, h1⟩ := hs.kind hk2
    exact ne_cells h1 h.blk (by decide)
theorem DevAt.setDead (h : DevAt w L I D) (b : Bool) : DevAt (w.setCell ⟨L.g, 4, none⟩ (.bool b)) L I { D with dead := b } :=
  h.store 4 (.bool b) L _ rfl rfl h.first h.now h.bad h.log h.syncs h.d1 h.d2 h.d3
theorem DevAt.setFm (h : DevAt w L I D) {b : Nat} {f : Int → List UInt8} (hf : FMap w I b f) (h1 : b ≠ L.nm) (h2 : b ≠ L.bm) : DevAt (w.setCell ⟨L.g, 1, none⟩ (.map (some b))) { L with fm := b } I { D with first := f } :=
  h.store 1 (.map (some b)) { L with fm := b } { D with first := f } rfl rfl hf h.now h.bad h.log h.syncs h1 h2 h.d3
theorem DevAt.setNm (h : DevAt w L I D) {b : Nat} {f : Int → List UInt8} (hf : FMap w I b f) (h1 : b ≠ L.fm) (h2 : b ≠ L.bm) : DevAt (w.setCell ⟨L.g, 2, none⟩ (.map (some b))) { L with nm := b } I { D with now := f } :=
  h.store 2 (.map (some b)) { L with nm := b } { D with now := f } rfl rfl h.first hf h.bad h.log h.syncs (fun e => h1 e.symm) h.d2 h2
theorem DevAt.setBm (h : DevAt w L I D) {b : Nat} {f : Int → Bool} (hf : BMap w b f) (h1 : b ≠ L.fm) (h2 : b ≠ L.nm) : DevAt (w.setCell ⟨L.g, 3, none⟩ (.map (some b))) { L with bm := b } I { D with bad := f } :=
  h.store 3 (.map (some b)) { L with bm := b } { D with bad := f } rfl rfl h.first h.now hf h.log h.syncs h.d1 (fun e => h1 e.symm) (fun e => h2 e.symm)
theorem DevAt.setClk (h : DevAt w L I D) (q : Nat) : DevAt (w.setCell ⟨L.g, 7, none⟩ (.pointer (some ⟨q, 0, none⟩))) { L with clk := q } I D :=
  h.store 7 _ { L with clk := q } D rfl rfl h.first h.now h.bad h.log h.syncs h.d1 h.d2 h.d3

/-- Behind an append to the writes, and its store. -/
theorem DevAt.addLog (h : DevAt w L I D) {cs : List Value} (hlc : LogC w I D.log cs) (x : Wr) {v v' : Value} (hv : BytesV w I v x.b) (hx : x.b.length ≤ 64)
    (hown : OwnG w' 0 102 4 v' (D.log.length + 1) (cs ++ [.int .i64 x.i, v, .bool x.sure, .int .i64 x.m])) (hg : w.grownBy w' L.vl.ownBlock) :
    DevAt (w'.setCell ⟨L.g, 5, none⟩ v') { L with vl := v' } I { D with log := D.log ++ [x] } := by
  obtain ⟨n1, n2, n3, n4, n5⟩ := h.ne
  have hk : ∀ k, k < w.heap.size → (∀ j, L.vl.ownBlock = some j → k ≠ j) → w'.heap[k]? = w.heap[k]? := fun k hk hne => hg.block k hk (fun e => hne k e.symm rfl)
  have hi : ∀ k, I k → w'.heap[k]? = w.heap[k]? := fun k hI' => hk k (h.ltI hI') (fun j hj e => h.I_notM hI' (.inr (.inr (.inr (.inr (.inl (by rw [e]; exact hj)))))))
  have hb := h.blk.keep (hk _ h.blk.lt (fun j hj e => (n4 j hj).1 e.symm))
  have hf := h.first.keep (hk _ h.first.lt (fun j hj e => (n4 j hj).2.1 e.symm)) (fun _ h => h) hi
  have hn := h.now.keep (hk _ h.now.lt (fun j hj e => (n4 j hj).2.2.1 e.symm)) (fun _ h => h) hi
  have hbm := h.bad.keep (hk _ h.bad.lt (fun j hj e => (n4 j hj).2.2.2.1 e.symm))
  have hs := h.syncs.keep (w' := w') (fun k hk2 hlt => hk k hlt (fun j hj e => (n4 j hj).2.2.2.2 (by rw [← e]; exact hk2)))
  have hlog : ∃ cs, OwnG w' 0 102 4 v' (D.log ++ [x]).length cs ∧ LogC w' I (D.log ++ [x]) cs := ⟨_, by rw [List.length_append]; exact hown, (hlc.keep (fun _ h => h) hi).snoc x (hv.keep (fun _ h => h) hi) hx⟩
  have hk2 : ∀ k, k ≠ L.g → (w'.setCell ⟨L.g, 5, none⟩ v').heap[k]? = w'.heap[k]? := fun k hne => Below.heap_setCell _ _ _ _ hne
  have hi2 : ∀ k, I k → (w'.setCell ⟨L.g, 5, none⟩ v').heap[k]? = w'.heap[k]? := fun k hI' => hk2 k (fun e => h.I_notM hI' (.inl e))
  obtain ⟨cs2, l1, l2⟩ := hlog
  refine ⟨?_, hf.keep (hk2 _ n1.symm) (fun _ h => h) hi2, hn.keep (hk2 _ n2.symm) (fun _ h => h) hi2, hbm.keep (hk2 _ n3.symm), ⟨cs2, l1.keep fun k hk3 hlt => hk2 k ?_, l2.keep (fun _ h => h) hi2⟩, hs.keep fun k hk3 hlt => hk2 k (n5 k hk3).1, fun k hI' => ((h.imm k hI').keep (hi k hI')).keep (hi2 k hI'), h.d1, h.d2, h.d3⟩
  · exact hb.set 5 v'
  · obtain ⟨cur, fr, h1⟩ := l1.kind hk3
    exact ne_cells h1 hb (by decide)
/-- Behind an append to the syncs, and its store. -/
theorem DevAt.addSync (h : DevAt w L I D) (p : Nat × Int) {v' : Value}
    (hown : OwnG w' 0 99 2 v' (D.syncs.length + 1) (syncC D.syncs ++ [.int .i64 (p.1 : Int), .int .i64 p.2])) (hg : w.grownBy w' L.vs.ownBlock) :
    DevAt (w'.setCell ⟨L.g, 6, none⟩ v') { L with vs := v' } I { D with syncs := D.syncs ++ [p] } := by
  obtain ⟨n1, n2, n3, n4, n5⟩ := h.ne
  have hk : ∀ k, k < w.heap.size → (∀ j, L.vs.ownBlock = some j → k ≠ j) → w'.heap[k]? = w.heap[k]? := fun k hk hne => hg.block k hk (fun e => hne k e.symm rfl)
  have hi : ∀ k, I k → w'.heap[k]? = w.heap[k]? := fun k hI' => hk k (h.ltI hI') (fun j hj e => h.I_notM hI' (.inr (.inr (.inr (.inr (.inr (by rw [e]; exact hj)))))))
  have hb := h.blk.keep (hk _ h.blk.lt (fun j hj e => (n5 j hj).1 e.symm))
  have hf := h.first.keep (hk _ h.first.lt (fun j hj e => (n5 j hj).2.1 e.symm)) (fun _ h => h) hi
  have hn := h.now.keep (hk _ h.now.lt (fun j hj e => (n5 j hj).2.2.1 e.symm)) (fun _ h => h) hi
  have hbm := h.bad.keep (hk _ h.bad.lt (fun j hj e => (n5 j hj).2.2.2 e.symm))
  obtain ⟨cs, l1, l2⟩ := h.log
  have l1' := l1.keep (w' := w') (fun k hk2 hlt => hk k hlt (fun j hj e => (n4 k hk2).2.2.2.2 (by rw [e]; exact hj)))
  have hk2 : ∀ k, k ≠ L.g → (w'.setCell ⟨L.g, 6, none⟩ v').heap[k]? = w'.heap[k]? := fun k hne => Below.heap_setCell _ _ _ _ hne
  have hi2 : ∀ k, I k → (w'.setCell ⟨L.g, 6, none⟩ v').heap[k]? = w'.heap[k]? := fun k hI' => hk2 k (fun e => h.I_notM hI' (.inl e))
  refine ⟨?_, hf.keep (hk2 _ n1.symm) (fun _ h => h) hi2, hn.keep (hk2 _ n2.symm) (fun _ h => h) hi2, hbm.keep (hk2 _ n3.symm), ⟨cs, l1'.keep fun k hk3 hlt => hk2 k (n4 k hk3).1, (l2.keep (fun _ h => h) hi).keep (fun _ h => h) hi2⟩, ?_, fun k hI' => ((h.imm k hI').keep (hi k hI')).keep (hi2 k hI'), h.d1, h.d2, h.d3⟩
  · exact hb.set 6 v'
  · have e : syncC (D.syncs ++ [p]) = syncC D.syncs ++ [.int .i64 (p.1 : Int), .int .i64 p.2] := syncC_snoc _ _
    have : OwnG w' 0 99 2 v' (D.syncs ++ [p]).length (syncC (D.syncs ++ [p])) := by rw [e, List.length_append]; exact hown
    refine this.keep fun k hk3 hlt => hk2 k ?_
    obtain ⟨cur, fr, h1⟩ := hown.kind hk3
    exact ne_cells h1 hb (by decide)
end
end Go.Proofs.Ythenpkimcjdkcaa
