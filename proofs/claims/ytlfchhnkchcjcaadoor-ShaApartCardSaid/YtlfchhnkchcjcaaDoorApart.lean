/- the law: two are apart -/
import Derived.Test.YtlfchhnkchcjcaaDoorAp1
import Derived.StillTailTactics
namespace Go.Proofs.YtlfchhnkchcjcaaDoor
set_option linter.unusedVariables false
set_option linter.unusedSimpArgs false
open Go.RowKit

theorem hgoalA {X Y : World} {P : Program} {C : Code} {a : Act} {Q : Exit → Act → World → Prop} (e : X = Y) (h : Code.wp P C Q a Y) : Code.wp P C Q a X := e ▸ h

theorem bool_at {w : World} {a : Option Addr} {n c : Nat} {ls : List Bool} (h : Ty.reads (.slice .bool) w [.slice a n c] ls) (i : Nat) (hi : i < n) :
    ∃ b off y, a = some ⟨b, off, none⟩ ∧ b < w.heap.size ∧ w.cell? ⟨b, off + i, none⟩ = some (.bool y) := by
  obtain ⟨a', n', c', e, h2, _, _, h5⟩ := h
  simp only [List.cons.injEq, Value.slice.injEq, and_true] at e
  obtain ⟨rfl, rfl, rfl⟩ := e
  have hlt : i < ls.length := Nat.lt_of_lt_of_eq hi h2.symm
  rcases h5 with h5 | ⟨b, off, ha, hb, hat⟩
  · omega
  · obtain ⟨cells, hcl, hcell, hB⟩ := hat i ls[i] (List.getElem?_eq_getElem hlt)
    have hB : cells = [.bool ls[i]] := hB
    subst hB
    have := hcell 0 _ rfl
    exact ⟨b, off, ls[i], ha, hb, by simpa [Ty.size] using this⟩
theorem bools_len {w : World} {a : Option Addr} {n c : Nat} {ls : List Bool} (h : Ty.reads (.slice .bool) w [.slice a n c] ls) : n ≤ 9223372036854775807 := by
  obtain ⟨a', n', c', e, h2, h3, h4, _⟩ := h
  simp only [List.cons.injEq, Value.slice.injEq, and_true] at e
  obtain ⟨rfl, rfl, rfl⟩ := e
  omega

/-- i pieces are taken in. -/
def ApR (W : World) (ls : List (List UInt8)) (vi : Value) (wr : World) : Prop :=
  ∃ (i : Nat) (T : Nat → List UInt8) (v : Nat → Value) (r : Nat → Option Nat), i ≤ ls.length ∧ i ≤ 40 ∧ vi = .int .i64 i ∧ ApSt W T T v r wr

theorem ap_start {W w : World} (h1 : Blk w W.heap.size 35 [.pointer (some ⟨W.heap.size + 2, 0, none⟩), .pointer (some ⟨W.heap.size + 3, 0, none⟩)])
    (h2 : Blk w (W.heap.size + 1) 36 [.slice none 0 0, .slice none 0 0]) (h3 : IsHash w (W.heap.size + 2) none 0 []) (h4 : IsHash w (W.heap.size + 3) none 0 []) (hb : Below W.heap.size W w) (hs : W.heap.size + 4 ≤ w.heap.size) :
    ApSt W (fun _ => []) (fun _ => []) (fun _ => .slice none 0 0) (fun _ => none) w := by
  refine ⟨h1, h2, fun p hp => ?_, fun p hp x hx => (by cases hx), fun p hp => OwnG.nil _ _ _ _, fun p hp => by simp, fun p q _ _ _ => .inl rfl, fun p q _ _ _ => .inl rfl, fun p q _ _ => .inl rfl, hb, hs⟩
  rcases p with _ | _ | p
  · exact h3
  · exact h4
  · omega

theorem ap_end {W w : World} {T : Nat → List UInt8} {v : Nat → Value} {r : Nat → Option Nat} (h : ApSt W T T v r w) (hk : KOK w) (p : Nat) (hp : p < 2) :
    ∃ a t c X, (∀ w : World, (Op.equalIn 10000 23 (.agg X) (.agg X)).run Tryd.prog w = .ok true w) ∧
      (∀ wx, Below w.heap.size w wx → Calls Tryd.prog 12 #[.slice a t c] wx fun e w' => e = .returned (.agg X) ∧ Below w.heap.size w w') ∧
      (∀ wx, Below w.heap.size w wx → Calls Tryd.prog 18 #[.pointer (some ⟨W.heap.size + 2 + p, 0, none⟩)] wx fun e w' => e = .returned (.agg X) ∧ Below w.heap.size w w') ∧
      (∀ wx, Below w.heap.size w wx → wx.cell? ⟨W.heap.size, p, none⟩ = some (.pointer (some ⟨W.heap.size + 2 + p, 0, none⟩))) ∧
      (∀ wx, Below w.heap.size w wx → wx.cell? ⟨W.heap.size + 1, p, none⟩ = some (.slice a t c)) := by
  have hO := h.own p hp
  obtain ⟨a, c, hv, hc⟩ := OwnG.shape hO
  rw [hv] at hO
  have hl := shaL_length (T p)
  refine ⟨a, (T p).length, c, (bs (shaL (T p))).toArray, fun w => ?_, fun wx hx => ?_, fun wx hx => ?_, fun wx hx => ?_, fun wx hx => ?_⟩
  · have := eq_digest (shaL (T p)) (shaL (T p)) hl hl rfl rfl w
    rw [beq_self_eq_true] at this
    exact this
  · have ho : OwnB wx (W.heap.size + 4) (.slice a (T p).length c) (T p) := OwnG.below hO hx
    refine (sum_any (T p) a _ c wx rfl hc (by have := (OwnB.cap ho).2.1; unfold maxLen at this; omega) (OwnB.rd ho) (hk.below hx)).mono ?_
    rintro e w' ⟨rfl, hb⟩
    exact ⟨rfl, hx.trans (hb.mono hx.size)⟩
  · refine (hsum_any (W.heap.size + 2 + p) (r p) 0 (T p) wx ((h.hash p hp).below hx) (hk.below hx)).mono ?_
    rintro e w' ⟨rfl, hb⟩
    exact ⟨rfl, hx.trans (hb.mono hx.size)⟩
  · exact (hx.cell (p := ⟨W.heap.size, p, none⟩) (by have := h.size; show W.heap.size < w.heap.size; omega)).trans (h.cellH p hp)
  · exact (hx.cell (p := ⟨W.heap.size + 1, p, none⟩) (by have := h.size; show W.heap.size + 1 < w.heap.size; omega)).trans (by rw [← hv]; exact h.cellA p hp)

set_option maxHeartbeats 4000000 in
set_option maxRecDepth 16000 in
theorem law_ShaApart (a : Option Addr) (n c : Nat) (ls : List (List UInt8)) (a2 : Option Addr) (n2 c2 : Nat) (bl : List Bool) (W : World) (h : Ty.reads (.slice .bytes) W (Value.slice a n c).cells.toList ls) (h2 : Ty.reads (.slice .bool) W (Value.slice a2 n2 c2).cells.toList bl) (hk : KOK W) :
    Calls Tryd.prog 6 #[.slice a n c, .slice a2 n2 c2] W fun e w' => e = .returned (.bool true) ∧ Below W.heap.size W w' := by
  obtain ⟨hlen, hn63⟩ := pieces_len (slice_arg h)
  have HL := Lib.hid (slice_arg h)
  have HL2 := Lib.hid (slice_arg h2)
  have HLEN := Lib.hid hlen
  have HN63 := Lib.hid hn63
  have HN2 := Lib.hid (bools_len (slice_arg h2))
  have HK := Lib.hid hk
  clear h h2 hk hlen hn63
  go_enter Tryd.func6, Tryd.ntmps6
  go_upto_region 3 with (fail)
  have hH : Blk ((W.alloc (.cells #[Value.pointer none, Value.pointer none] 35)).alloc (.cells #[Value.slice none 0 0, Value.slice none 0 0] 36)) W.heap.size 35 [Value.pointer none, Value.pointer none] := (Blk.new W 35 [Value.pointer none, Value.pointer none]).alloc _
  have hA : Blk ((W.alloc (.cells #[Value.pointer none, Value.pointer none] 35)).alloc (.cells #[Value.slice none 0 0, Value.slice none 0 0] 36)) (W.heap.size + 1) 36 [Value.slice none 0 0, Value.slice none 0 0] := by
    have h := Blk.new (W.alloc (.cells #[Value.pointer none, Value.pointer none] 35)) 36 [Value.slice none 0 0, Value.slice none 0 0]
    rw [World.size_alloc] at h
    exact h
  have hb1 : Below W.heap.size W ((W.alloc (.cells #[Value.pointer none, Value.pointer none] 35)).alloc (.cells #[Value.slice none 0 0, Value.slice none 0 0] 36)) := ((Below.refl _ _).alloc (Nat.le_refl _) _).alloc (by rw [World.size_alloc]; omega) _
  have hs1 : ((W.alloc (.cells #[Value.pointer none, Value.pointer none] 35)).alloc (.cells #[Value.slice none 0 0, Value.slice none 0 0] 36)).heap.size = W.heap.size + 2 := by rw [World.size_alloc, World.size_alloc]
  generalize hw1 : ((W.alloc (.cells #[Value.pointer none, Value.pointer none] 35)).alloc (.cells #[Value.slice none 0 0, Value.slice none 0 0] 36)) = w1 at hH hA hb1 hs1
  first | refine hgoalA hw1 ?_ | skip
  clear hw1
  have HH := Lib.hid hH
  have HA := Lib.hid hA
  have HB1 := Lib.hid hb1
  have HS1 := Lib.hid hs1
  clear hH hA hb1 hs1
  go_wp2_with fail
  refine (new_any w1).mono ?_
  rintro e w2 ⟨rfl, hn2, hb2, hs2⟩
  have hs1 := HS1.out
  rw [hs1] at hn2 hb2 hs2 ⊢
  have hH2 := HH.out.keep (hb2.block _ (by omega))
  have hA2 := HA.out.keep (hb2.block _ (by omega))
  have hc2 := hH2.cell 0 _ rfl
  have hf2 := hH2.frozen 0
  have HH2 := Lib.hid hH2
  have HA2 := Lib.hid hA2
  have HN := Lib.hid hn2
  have HB2 := Lib.hid (HB1.out.trans (hb2.mono (by omega)))
  have HS2 := Lib.hid hs2
  clear hH2 hA2 hn2 hb2 hs2 hs1 HH HA HB1 HS1
  go_upto_region 4 with (fail)
  have hH3 := HH2.out.set 0 (.pointer (some ⟨W.heap.size + 2, 0, none⟩))
  have hA3 : Blk (w2.setCell ⟨W.heap.size, 0, none⟩ (.pointer (some ⟨W.heap.size + 2, 0, none⟩))) (W.heap.size + 1) 36 [Value.slice none 0 0, Value.slice none 0 0] := HA2.out.other (by omega) _
  have hn3 : IsHash (w2.setCell ⟨W.heap.size, 0, none⟩ (.pointer (some ⟨W.heap.size + 2, 0, none⟩))) (W.heap.size + 2) none 0 [] := HN.out.grown (grownBy_one _ _ _ _ _) (by intro e; injection e with e; omega) (.inl rfl)
  have hb3 : Below W.heap.size W (w2.setCell ⟨W.heap.size, 0, none⟩ (.pointer (some ⟨W.heap.size + 2, 0, none⟩))) := HB2.out.setCell (Nat.le_refl _) _
  have hs3 : (w2.setCell ⟨W.heap.size, 0, none⟩ (.pointer (some ⟨W.heap.size + 2, 0, none⟩))).heap.size = W.heap.size + 3 := by rw [World.size_setCell, HS2.out]
  generalize hw3 : (w2.setCell ⟨W.heap.size, 0, none⟩ (.pointer (some ⟨W.heap.size + 2, 0, none⟩))) = w3 at hH3 hA3 hn3 hb3 hs3
  first | refine hgoalA hw3 ?_ | skip
  have HH3 := Lib.hid hH3
  have HA3 := Lib.hid hA3
  have HN3 := Lib.hid hn3
  have HB3 := Lib.hid hb3
  have HS3 := Lib.hid hs3
  clear hH3 hA3 hn3 hb3 hs3 hw3 HH2 HA2 HN HB2 HS2 hc2 hf2
  go_wp2_with fail
  refine (new_any w3).mono ?_
  rintro e w4 ⟨rfl, hn4, hb4, hs4⟩
  have hs3 := HS3.out
  rw [hs3] at hn4 hb4 hs4 ⊢
  have hH4 := HH3.out.keep (hb4.block _ (by omega))
  have hA4 := HA3.out.keep (hb4.block _ (by omega))
  have hn24 := HN3.out.below (hb4.mono (by omega))
  have hc4 := hH4.cell 1 _ rfl
  have hf4 := hH4.frozen 1
  have HH4 := Lib.hid hH4
  have HA4 := Lib.hid hA4
  have HN24 := Lib.hid hn24
  have HN4 := Lib.hid hn4
  have HB4 := Lib.hid (HB3.out.trans (hb4.mono (by omega)))
  have HS4 := Lib.hid hs4
  clear hH4 hA4 hn4 hb4 hs4 hs3 hn24 HH3 HA3 HB3 HS3 HN3
  go_upto_region 5 with (fail)
  have hst : ApSt W (fun _ => []) (fun _ => []) (fun _ => .slice none 0 0) (fun _ => none) (w4.setCell ⟨W.heap.size, 1, none⟩ (.pointer (some ⟨W.heap.size + 3, 0, none⟩))) := by
    refine ap_start (HH4.out.set 1 (.pointer (some ⟨W.heap.size + 3, 0, none⟩))) (HA4.out.other (by omega) _) (HN24.out.grown (grownBy_one _ _ _ _ _) (by intro e; injection e with e; omega) (.inl rfl)) (HN4.out.grown (grownBy_one _ _ _ _ _) (by intro e; injection e with e; omega) (.inl rfl)) (HB4.out.setCell (Nat.le_refl _) _) (by rw [World.size_setCell, HS4.out]; omega)
  generalize hw5 : (w4.setCell ⟨W.heap.size, 1, none⟩ (.pointer (some ⟨W.heap.size + 3, 0, none⟩))) = w5 at hst
  first | refine hgoalA hw5 ?_ | skip
  have HST := Lib.hid hst
  clear hst hw5 HH4 HA4 HN24 HN4 HB4 HS4 hc4 hf4
  go_wp2_with fail
  refine (shalive_any _ (HK.out.below HST.out.below)).mono ?_
  rintro e w6 ⟨rfl, hb6⟩
  have hst6 := HST.out.later hb6
  have hc0 := hst6.cellH 0 (by omega)
  have hc1 := hst6.cellH 1 (by omega)
  have HS6 := Lib.hid hst6
  clear hb6 HST hst6
  go_wp2_with fail
  go_loopw [7] (fun vi wr => ApR W ls vi wr) (fun vi _ => 40 - (intOf vi).toNat)
  case atStart => exact ⟨0, _, _, _, by omega, by omega, rfl, HS6.out⟩
  case round =>
    clear HS6 hc0 hc1
    obtain ⟨i, T, v, r, hi, hi40, rfl, hst⟩ := hrel
    have HST := Lib.hid hst
    have HI := Lib.hid hi
    clear hst
    have hk0 : (0 : Int) ≤ (i : Int) := Int.natCast_nonneg i
    by_cases hgo : i < n
    · by_cases hgo2 : i < 40
      · obtain ⟨x, hx⟩ : ∃ x, ls[i]? = some x := ⟨_, List.getElem?_eq_getElem (by rw [HLEN.out]; exact hgo)⟩
        obtain ⟨b, off, ai, ci, rfl, hbW, hcell, hci, hrd, hci2⟩ := piece_at HL.out i x hx
        obtain ⟨m, hm⟩ : ∃ m, x.length = m := ⟨_, rfl⟩
        rw [hm] at hcell hci
        have hp2 : i % 2 < 2 := Nat.mod_lt _ (by omega)
        have hown := HST.out.own (i % 2) hp2
        obtain ⟨av, cv, hv, hcv⟩ := OwnG.shape hown
        obtain ⟨t, ht⟩ : ∃ t, (T (i % 2)).length = t := ⟨_, rfl⟩
        rw [ht] at hv hcv
        have hcr := (HST.out.below.cell (p := ⟨b, off + i, none⟩) hbW).trans hcell
        have hcH := HST.out.cellH (i % 2) hp2
        have hcA := HST.out.cellA (i % 2) hp2
        rw [hv] at hcA
        have HCELL := Lib.hid hcell
        have HX := Lib.hid hx
        have HM := Lib.hid hm
        have HRD := Lib.hid hrd
        have HV := Lib.hid hv
        have HTL := Lib.hid ht
        have HP2 := Lib.hid hp2
        have HCI2 := Lib.hid hci2
        have hgoI : (i : Int) < (n : Int) := Int.ofNat_lt.2 hgo
        have hgoI2 : (i : Int) < 40 := by omega
        have hr0 : Below wr.heap.size wr wr := Below.refl _ _
        have hr1 : Below wr.heap.size wr wr.drew := (Below.refl _ _).drew
        have c1 : ∀ wx, Below wr.heap.size wr wx → wx.cell? ⟨b, off + i, none⟩ = some (.slice ai m ci) := fun wx hx => (hx.cell (p := ⟨b, off + i, none⟩) (by have := HST.out.below.size; show b < wr.heap.size; omega)).trans hcr
        have c2 : ∀ wx, Below wr.heap.size wr wx → wx.cell? ⟨W.heap.size, i % 2, none⟩ = some (.pointer (some ⟨W.heap.size + 2 + i % 2, 0, none⟩)) := fun wx hx => (hx.cell (p := ⟨W.heap.size, i % 2, none⟩) (by have := HST.out.size; show W.heap.size < wr.heap.size; omega)).trans hcH
        have c3 : ∀ wx, Below wr.heap.size wr wx → wx.cell? ⟨W.heap.size + 1, i % 2, none⟩ = some (.slice av t cv) := fun wx hx => (hx.cell (p := ⟨W.heap.size + 1, i % 2, none⟩) (by have := HST.out.size; show W.heap.size + 1 < wr.heap.size; omega)).trans hcA
        clear hx hm hrd hcell hown hv ht hp2 hcv hci2 hcr hcH hcA
        have tm : (i : Int).tmod 2 = ((i % 2 : Nat) : Int) := by rw [Int.tmod_eq_emod_of_nonneg (by omega)]; omega
        have tm0 : (0 : Int) ≤ ((i % 2 : Nat) : Int) := Int.natCast_nonneg _
        have tm2 : ((i % 2 : Nat) : Int) < 2 := by omega
        have em0 : (0 : Int) ≤ (i : Int) % 2 := by omega
        have em2 : (i : Int) % 2 < 2 := by omega
        have emt : ((i : Int) % 2).toNat = i % 2 := by omega
        have hlt := HST.out.len (i % 2) HP2.out
        rw [HTL.out] at hlt
        have HLT := Lib.hid hlt
        have hws : wrap64 ((20000 : Int) - (t : Int)) = (20000 : Int) - (t : Int) := IntWalk.wrap64_in _ (by omega)
        go_upto_region 10 with (fail)
        go_quiet (fail)
        clear hws hlt
        have hst2 : ApSt W T T v r (wr.drewN nq) := HST.out.later (below_drewN (Below.refl _ _) nq)
        generalize wr.drewN nq = w2 at hst2 ⊢
        have HS2 := Lib.hid hst2
        have hcr := (HS2.out.below.cell (p := ⟨b, off + i, none⟩) hbW).trans HCELL.out
        have hcH := HS2.out.cellH (i % 2) HP2.out
        have hcA := HS2.out.cellA (i % 2) HP2.out
        rw [HV.out] at hcA
        clear hst2 c1 c2 c3 hr0 hr1 HST
        by_cases hbig : 20000 - t < m
        · have hbI : (20000 : Int) - (t : Int) < (m : Int) := by have := HLT.out; omega
          go_wp2_with fail
          go_ret
          exact ⟨rfl, HS2.out.below⟩
        · have hbI : ¬ ((20000 : Int) - (t : Int) < (m : Int)) := by have := HLT.out; omega
          go_upto_region 12 with (fail)
          refine wp_region_still_tail 8 (by kernel_rfl) (by kernel_rfl) ?_
          have hst3 : ApSt W T T v r w2.drew := HS2.out.later (Below.refl _ _).drew
          have HSD := Lib.hid hst3
          change wpStill _ _ w2.drew _ _ _
          generalize w2.drew = w3 at hst3 ⊢
          simp only [List.take_succ_cons, List.take_zero, List.drop_succ_cons, List.drop_zero]
          have HS3 := Lib.hid hst3
          have hcr3 := (HS3.out.below.cell (p := ⟨b, off + i, none⟩) hbW).trans HCELL.out
          have hcH3 := HS3.out.cellH (i % 2) HP2.out
          clear hst3 hcr hcH hcA HS2
          repeat still_step
          refine wpStill_nil ?_
          clear hcr3 hcH3 HS3
          have hsep : Sep (W.heap.size + 2 + i % 2) (r (i % 2)) ai x := by
            have hrd := HRD.out
            rcases hrd with h | ⟨q, o, e, hq, _⟩
            · exact .inl (bs_inj (h.trans rfl))
            · refine .inr fun ad had => ?_
              rw [e] at had
              injection had with had
              subst had
              exact ⟨by show q ≠ _; omega, fun e2 => by have : q ≥ W.heap.size + 4 := HSD.out.rlo (i % 2) HP2.out q e2.symm; omega⟩
          have hb3 := HSD.out.below
          have CW := Lib.hid (write_any (W.heap.size + 2 + i % 2) (r (i % 2)) 0 (T (i % 2)) x ai m ci w2.drew (HSD.out.hash (i % 2) HP2.out) (Nat.zero_le _) HM.out hci (by have := HCI2.out; omega) ((HRD.out.below hb3).more hb3.size) hsep (HK.out.below hb3))
          clear hsep hb3
          go_wp2_with fail
          refine CW.out.mono ?_
          rintro e w4 ⟨rfl, ⟨r', hh', hr'⟩, hbut⟩
          have hst4 := HSD.out.wrote HP2.out hbut hh' hr'
          have HS4 := Lib.hid hst4
          clear hst4 hh' hr' hbut HSD CW
          have hb4 := HS4.out.below
          have hst4d : ApSt W (upd T (i % 2) (T (i % 2) ++ x)) T v (upd r (i % 2) r') w4.drew := HS4.out.later (Below.refl _ _).drew
          have hc4 := (hb4.cell (p := ⟨b, off + i, none⟩) hbW).trans HCELL.out
          have hA4 := HS4.out.cellA (i % 2) HP2.out
          rw [HV.out] at hA4
          have hO4 : OwnB w4.drew (W.heap.size + 4) (.slice av t cv) (T (i % 2)) := by rw [← HV.out]; exact hst4d.own (i % 2) HP2.out
          have hR4 : Rd w4.drew W.heap.size ai (bs x) := (HRD.out.below hb4).drew
          have hS4 : (T (i % 2)).length + m ≤ 140737488355328 := by rw [HTL.out]; have := HLT.out; omega
          have hZ4 : W.heap.size + 4 ≤ w4.drew.heap.size := HS4.out.size
          have hL4 : (T (i % 2) ++ x).length ≤ 20000 := by rw [List.length_append, HTL.out, HM.out]; omega
          have KP : ∀ (v9 : Value) (w9 : World), OwnB w9 (W.heap.size + 4) v9 (T (i % 2) ++ x) → w4.drew.grownBy w9 (Value.slice av t cv).ownBlock → (v9.ownBlock = (Value.slice av t cv).ownBlock ∨ v9.ownBlock = some w4.drew.heap.size) →
              (∃ u, w9.cell? ⟨W.heap.size + 1, i % 2, none⟩ = some u) ∧ w9.frozen? ⟨W.heap.size + 1, i % 2, none⟩ = false ∧ Below W.heap.size W w9 ∧ Below W.heap.size W (w9.setCell ⟨W.heap.size + 1, i % 2, none⟩ v9) ∧ ApSt W (upd T (i % 2) (T (i % 2) ++ x)) (upd T (i % 2) (T (i % 2) ++ x)) (upd v (i % 2) v9) (upd r (i % 2) r') (w9.setCell ⟨W.heap.size + 1, i % 2, none⟩ v9) := fun v9 w9 h1 h2 h3 => by
            rw [← HV.out] at h2 h3
            obtain ⟨k1, k2, k3⟩ := hst4d.put HP2.out h2 h1 h3 hL4
            have hvlt := OwnG.lt (hst4d.own (i % 2) HP2.out)
            exact ⟨k1, k2, hst4d.below.grown h2 hst4d.below.size (fun z hz => by have := hvlt z hz; omega), k3.below, k3⟩
          have KPH := Lib.hid KP
          have hs0 : Below W.heap.size W w4.drew := hb4.drew
          clear KP hb4
          go_upto_region 13 with (fail)
          go_cut [5] (fun v5 wn => v5 = .pointer (some ⟨W.heap.size, 0, none⟩) ∧ ∃ v9, ApSt W (upd T (i % 2) (T (i % 2) ++ x)) (upd T (i % 2) (T (i % 2) ++ x)) (upd v (i % 2) v9) (upd r (i % 2) r') wn)
          case first =>
            go_region_law ((refine step_app (by rfl) (.tmp 60) (.tmp 64) (by rfl) (W.heap.size + 4) _ (T (i % 2)) (by rfl) hO4 W.heap.size ai m ci x (by rfl) HM.out hR4 hS4 hZ4 ?_; intro v9 w9 hown9 hgr9 hat9; obtain ⟨a9, c9, rfl, _⟩ := OwnG.shape hown9; obtain ⟨⟨u9, hcu9⟩, hfr9, hs9, hs10, hst9⟩ := KPH.out _ w9 hown9 hgr9 hat9))
            all_goals go_wp2_with fail
            all_goals go_meet
            all_goals rw [← List.length_append]
            all_goals exact ⟨rfl, _, hst9⟩
          case rest =>
            obtain ⟨rfl, v9, hst5⟩ := hcut
            rename World => w5
            have HS5 := Lib.hid hst5
            obtain ⟨T', hT'⟩ : ∃ T', upd T (i % 2) (T (i % 2) ++ x) = T' := ⟨_, rfl⟩
            obtain ⟨v', hv'⟩ : ∃ v', upd v (i % 2) v9 = v' := ⟨_, rfl⟩
            obtain ⟨r5, hr5⟩ : ∃ r5, upd r (i % 2) r' = r5 := ⟨_, rfl⟩
            rw [hT', hv', hr5] at HS5
            clear hst5 hT' hv' hr5 HS4 hst4d hc4 hA4 hO4 hR4 hS4 hZ4 hL4 KPH hs0 HTL HV HLT
            clear hbI hbig
            have hO5 := HS5.out.own (i % 2) HP2.out
            obtain ⟨a5, c5, hv5, hc5⟩ := OwnG.shape hO5
            rw [hv5] at hO5
            obtain ⟨D, hD⟩ : ∃ D, shaL (T' (i % 2)) = D := ⟨_, rfl⟩
            have hDl : D.length = 32 := by rw [← hD]; exact shaL_length _
            obtain ⟨X, hX⟩ : ∃ X, (bs D).toArray = X := ⟨_, rfl⟩
            have hne : ∀ w : World, (Op.equalIn 10000 23 (.agg X) (.agg X)).run Tryd.prog w = .ok true w := fun w => by
              have := eq_digest D D hDl hDl hX hX w
              rw [beq_self_eq_true] at this
              exact this
            obtain ⟨t5, ht5⟩ : ∃ t5, (T' (i % 2)).length = t5 := ⟨_, rfl⟩
            rw [ht5] at hv5 hc5 hO5
            have HV5 := Lib.hid hv5
            have HC5 := Lib.hid hc5
            have HO5 := Lib.hid hO5
            have HT5 := Lib.hid ht5
            have CS : Hid (∀ wx, Below w5.heap.size w5 wx → Calls Tryd.prog 12 #[.slice a5 t5 c5] wx fun e w' => e = .returned (.agg X) ∧ Below w5.heap.size w5 w') := Lib.hid (fun wx hx => by
              have ho : OwnB wx (W.heap.size + 4) (.slice a5 t5 c5) (T' (i % 2)) := OwnG.below HO5.out hx
              refine (sum_any (T' (i % 2)) a5 t5 c5 wx HT5.out HC5.out (by have := (OwnB.cap ho).2.1; unfold maxLen at this; omega) (OwnB.rd ho) ((HK.out.below HS5.out.below).below hx)).mono ?_
              rintro e w' ⟨rfl, hb⟩
              exact ⟨by rw [hD, hX], hx.trans (hb.mono hx.size)⟩)
            have CH : Hid (∀ wx, Below w5.heap.size w5 wx → Calls Tryd.prog 18 #[.pointer (some ⟨W.heap.size + 2 + i % 2, 0, none⟩)] wx fun e w' => e = .returned (.agg X) ∧ Below w5.heap.size w5 w') := Lib.hid (fun wx hx => by
              refine (hsum_any (W.heap.size + 2 + i % 2) (r5 (i % 2)) 0 (T' (i % 2)) wx ((HS5.out.hash (i % 2) HP2.out).below hx) ((HK.out.below HS5.out.below).below hx)).mono ?_
              rintro e w' ⟨rfl, hb⟩
              exact ⟨by rw [hD, hX], hx.trans (hb.mono hx.size)⟩)
            have c2 : ∀ wx, Below w5.heap.size w5 wx → wx.cell? ⟨W.heap.size, i % 2, none⟩ = some (.pointer (some ⟨W.heap.size + 2 + i % 2, 0, none⟩)) := fun wx hx => (hx.cell (p := ⟨W.heap.size, i % 2, none⟩) (by have := HS5.out.size; show W.heap.size < w5.heap.size; omega)).trans (HS5.out.cellH (i % 2) HP2.out)
            have c3 : ∀ wx, Below w5.heap.size w5 wx → wx.cell? ⟨W.heap.size + 1, i % 2, none⟩ = some (.slice a5 t5 c5) := fun wx hx => (hx.cell (p := ⟨W.heap.size + 1, i % 2, none⟩) (by have := HS5.out.size; show W.heap.size + 1 < w5.heap.size; omega)).trans (by rw [← HV5.out]; exact HS5.out.cellA (i % 2) HP2.out)
            have hr0 : Below w5.heap.size w5 w5 := Below.refl _ _
            have hr1 : Below w5.heap.size w5 w5.drew := (Below.refl _ _).drew
            clear hO5 hv5 hc5 ht5 hD hDl hX
            go_upto_region 14 with (fail)
            go_cut [89] (fun v wn => v = .bool false ∧ Below w5.heap.size w5 wn)
            case first =>
              by_cases hask : i < n2
              · obtain ⟨bq, oq, y, rfl, hbq, hcq⟩ := bool_at HL2.out i hask
                have hI2 : (i : Int) < (n2 : Int) := by omega
                have c4 : ∀ wx, Below w5.heap.size w5 wx → wx.cell? ⟨bq, oq + i, none⟩ = some (.bool y) := fun wx hx => ((HS5.out.below.trans (hx.mono HS5.out.below.size)).cell (p := ⟨bq, oq + i, none⟩) hbq).trans hcq
                clear hcq hask
                cases y with
                | true =>
                  go_region_held3 (fun w' => Below w5.heap.size w5 w')
                    (first | assumption | go_keep)
                    (first
                      | ((with_reducible refine (CS.out _ (by assumption)).mono ?_); rintro e w8 ⟨rfl, hS8⟩)
                      | ((with_reducible refine (CH.out _ (by assumption)).mono ?_); rintro e w8 ⟨rfl, hS8⟩)
                      | fail)
                  all_goals go_wp2_with fail
                  all_goals go_meet
                  all_goals exact ⟨rfl, by assumption⟩
                | false =>
                  have c5 := c4 w5 hr0
                  go_quiet (fail)
                  go_wp2_with fail
                  go_meet
                  exact ⟨rfl, below_drewN hr0 _⟩
              · have hI2 : ¬ ((i : Int) < (n2 : Int)) := by omega
                clear hask
                go_quiet (fail)
                go_wp2_with fail
                go_meet
                exact ⟨rfl, below_drewN hr0 _⟩
            case rest =>
              obtain ⟨rfl, hb5⟩ := hcut
              rename World => w6
              have HS6 := Lib.hid (HS5.out.later hb5)
              clear hb5 c2 c3 hr0 hr1 CS CH hne HS5 HV5 HC5 HO5 HT5
              go_wp2_with fail
              all_goals go_roundw
              all_goals first
                | (case measure => simp [intOf]; omega)
                | exact ⟨i + 1, T', v', r5, by rw [HLEN.out]; omega, by omega, by go_num, HS6.out⟩
      · have hgoI : (i : Int) < (n : Int) := Int.ofNat_lt.2 hgo
        have hgoI2 : ¬ ((i : Int) < 40) := by omega
        go_wp2_with fail
        obtain ⟨a0, t0, c0, X0, heq0, cs0, ch0, k0, m0⟩ := ap_end HST.out (HK.out.below HST.out.below) 0 (by omega)
        obtain ⟨a1, t1, c1, X1, heq1, cs1, ch1, k1, m1⟩ := ap_end HST.out (HK.out.below HST.out.below) 1 (by omega)
        rw [Nat.add_zero] at ch0 k0
        have hr0 : Below wr.heap.size wr wr := Below.refl _ _
        have hr1 : Below wr.heap.size wr wr.drew := (Below.refl _ _).drew
        go_cut [4] (fun v4 wn => v4 = .bool true ∧ Below wr.heap.size wr wn)
        case first =>
          go_region_held3 (fun w' => Below wr.heap.size wr w')
            (first | assumption | go_keep)
            (first
              | ((with_reducible refine (cs0 _ (by assumption)).mono ?_); rintro e w8 ⟨rfl, hS8⟩)
              | ((with_reducible refine (ch0 _ (by assumption)).mono ?_); rintro e w8 ⟨rfl, hS8⟩)
              | ((with_reducible refine (cs1 _ (by assumption)).mono ?_); rintro e w8 ⟨rfl, hS8⟩)
              | ((with_reducible refine (ch1 _ (by assumption)).mono ?_); rintro e w8 ⟨rfl, hS8⟩)
              | fail)
          all_goals go_wp2_with fail
          all_goals go_meet
          all_goals exact ⟨rfl, by assumption⟩
        case rest =>
          obtain ⟨rfl, hbe⟩ := hcut
          go_wp2_with fail
          go_ret
          exact ⟨rfl, HST.out.below.trans (hbe.mono HST.out.below.size)⟩
    · have hgoI : ¬ ((i : Int) < (n : Int)) := by omega
      go_wp2_with fail
      obtain ⟨a0, t0, c0, X0, heq0, cs0, ch0, k0, m0⟩ := ap_end HST.out (HK.out.below HST.out.below) 0 (by omega)
      obtain ⟨a1, t1, c1, X1, heq1, cs1, ch1, k1, m1⟩ := ap_end HST.out (HK.out.below HST.out.below) 1 (by omega)
      rw [Nat.add_zero] at ch0 k0
      have hr0 : Below wr.heap.size wr wr := Below.refl _ _
      have hr1 : Below wr.heap.size wr wr.drew := (Below.refl _ _).drew
      go_cut [4] (fun v4 wn => v4 = .bool true ∧ Below wr.heap.size wr wn)
      case first =>
        go_region_held3 (fun w' => Below wr.heap.size wr w')
          (first | assumption | go_keep)
          (first
            | ((with_reducible refine (cs0 _ (by assumption)).mono ?_); rintro e w8 ⟨rfl, hS8⟩)
            | ((with_reducible refine (ch0 _ (by assumption)).mono ?_); rintro e w8 ⟨rfl, hS8⟩)
            | ((with_reducible refine (cs1 _ (by assumption)).mono ?_); rintro e w8 ⟨rfl, hS8⟩)
            | ((with_reducible refine (ch1 _ (by assumption)).mono ?_); rintro e w8 ⟨rfl, hS8⟩)
            | fail)
        all_goals go_wp2_with fail
        all_goals go_meet
        all_goals exact ⟨rfl, by assumption⟩
      case rest =>
        obtain ⟨rfl, hbe⟩ := hcut
        go_wp2_with fail
        go_ret
        exact ⟨rfl, HST.out.below.trans (hbe.mono HST.out.below.size)⟩
end Go.Proofs.YtlfchhnkchcjcaaDoor
