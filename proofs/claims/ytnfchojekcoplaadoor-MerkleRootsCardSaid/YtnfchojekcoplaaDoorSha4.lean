/- sha: Write -/
import Derived.Test.YtnfchojekcoplaaDoorSha3
import Derived.Test.YtnfchojekcoplaaDoorSha2
namespace Go.Proofs.YtnfchojekcoplaaDoor
set_option linter.unusedVariables false
set_option linter.unusedSimpArgs false
open Go.RowKit

/-- All that lay in w lies in w', but for the blocks g and r. -/
structure But2 (w w' : World) (g : Nat) (r : Option Nat) : Prop where
  os : w'.os = w.os
  tape : w'.tape = w.tape
  output : w'.output = w.output
  size : w.heap.size ≤ w'.heap.size
  block : ∀ k, k < w.heap.size → k ≠ g → some k ≠ r → w'.heap[k]? = w.heap[k]?

/-- Which blocks a step may turn. -/
def May2 (w : World) (g : Nat) (r row : Option Nat) : Prop := row = some g ∨ row = r ∨ row = none ∨ ∃ x, row = some x ∧ w.heap.size ≤ x

theorem But2.refl (w : World) (g : Nat) (r : Option Nat) : But2 w w g r := ⟨rfl, rfl, rfl, Nat.le_refl _, fun _ _ _ _ => rfl⟩
theorem But2.grown {w w1 w2 : World} {g : Nat} {r row : Option Nat} (h : But2 w w1 g r) (hg : w1.grownBy w2 row) (hm : May2 w g r row) : But2 w w2 g r := by
  refine ⟨hg.os.trans h.os, hg.tape.trans h.tape, hg.output.trans h.output, Nat.le_trans h.size hg.size, fun k hk h1 h2 => (hg.block k (by have := h.size; omega) ?_).trans (h.block k hk h1 h2)⟩
  intro e
  rcases hm with rfl | rfl | rfl | ⟨x, rfl, hx⟩
  · injection e with e; exact h1 e
  · exact h2 e
  · cases e
  · injection e with e; omega
theorem But2.drew {w w1 : World} {g : Nat} {r : Option Nat} (h : But2 w w1 g r) : But2 w w1.drew g r := ⟨h.os, h.tape, h.output, h.size, h.block⟩
theorem But2.drewN {w w1 : World} {g : Nat} {r : Option Nat} (h : But2 w w1 g r) (n : Nat) : But2 w (w1.drewN n) g r := ⟨h.os, h.tape, h.output, h.size, h.block⟩
theorem But2.kok {w w1 : World} {g : Nat} {r : Option Nat} (h : But2 w w1 g r) (hk : KOK w) (hg : g ≠ 0) (hr : r ≠ some 0) : KOK w1 := (h.block 0 (lt_of_heap hk) (fun e => hg e.symm) (fun e => hr e.symm)).trans hk
theorem grownBy_one (w : World) (g i : Nat) (s : Option Nat) (v : Value) : w.grownBy (w.setCell ⟨g, i, s⟩ v) (some g) := grownBy_set (World.grownBy.refl w _) v

/-- A hash in memory; the number of bytes is what it is. -/
def Mid (W : World) (g : Nat) (r : Option Nat) (lo : Nat) (p : List UInt8) (n : Int) : Prop :=
  ∃ a c, Blk W g 57 (us (stOf p) ++ [.slice a (restOf p).length c, .int .u64 n]) ∧ OwnB W lo (.slice a (restOf p).length c) (restOf p) ∧
    (Value.slice a (restOf p).length c).ownBlock = r ∧ r ≠ some g

theorem us_st_length (p : List UInt8) : (us (stOf p)).length = 8 := by rw [us, List.length_map]; exact stB_length _ _
theorem us_set8 (p : List UInt8) (x y v : Value) : (us (stOf p) ++ [x, y]).set 8 v = us (stOf p) ++ [v, y] := by
  rw [List.set_append_right _ _ (by rw [us_st_length]; omega), us_st_length]; rfl
theorem us_set9 (p : List UInt8) (x y v : Value) : (us (stOf p) ++ [x, y]).set 9 v = us (stOf p) ++ [x, v] := by
  rw [List.set_append_right _ _ (by rw [us_st_length]; omega), us_st_length]; rfl

theorem Mid.cells {W : World} {g : Nat} {r : Option Nat} {lo : Nat} {p : List UInt8} {n : Int} (h : Mid W g r lo p n) : ∃ a c, W.cell? ⟨g, 8, none⟩ = some (.slice a (restOf p).length c) ∧ W.cell? ⟨g, 9, none⟩ = some (.int .u64 n) ∧
    Blk W g 57 (us (stOf p) ++ [.slice a (restOf p).length c, .int .u64 n]) ∧ OwnB W lo (.slice a (restOf p).length c) (restOf p) ∧
    (Value.slice a (restOf p).length c).ownBlock = r ∧ r ≠ some g ∧ (restOf p).length ≤ c := by
  obtain ⟨a, c, h1, h2, h3, h4⟩ := h
  have hl := us_st_length p
  refine ⟨a, c, h1.cell 8 _ ?_, h1.cell 9 _ ?_, h1, h2, h3, h4, ?_⟩
  · rw [List.getElem?_append_right (by omega), hl]; rfl
  · rw [List.getElem?_append_right (by omega), hl]; rfl
  · obtain ⟨a', c', e, hc⟩ := OwnG.shape h2
    injection e with _ _ e3
    omega
theorem Mid.setN {W : World} {g : Nat} {r : Option Nat} {lo : Nat} {p : List UInt8} {n : Int} (h : Mid W g r lo p n) (m : Int) : Mid (W.setCell ⟨g, 9, none⟩ (.int .u64 m)) g r lo p m := by
  obtain ⟨a, c, h1, h2, h3, h4⟩ := h
  refine ⟨a, c, ?_, ?_, h3, h4⟩
  · have := h1.set 9 (.int .u64 m)
    rwa [us_set9] at this
  · exact OwnG.keep h2 fun k hk _ => heap_setCell_other W ⟨g, 9, none⟩ k _ (fun e => h4 (by rw [← h3, hk]; exact congrArg some e))
theorem Mid.zero {W : World} {g : Nat} {r : Option Nat} {lo : Nat} {p : List UInt8} {n : Int} (h : Mid W g r lo p n) (hk : KOK W) : g ≠ 0 ∧ r ≠ some 0 := by
  obtain ⟨a, c, h1, h2, h3, h4⟩ := h
  constructor
  · rintro rfl
    have := h1.symm.trans hk
    simp at this
  · rintro rfl
    rcases h2.2 with ⟨e, _⟩ | ⟨q, off, cap, cur, l, hi, e, _, hh, _⟩
    · rw [e] at h3; cases h3
    · rw [e] at h3
      obtain rfl : q = 0 := by injection h3
      have := hh.symm.trans hk
      simp at this

/-- Bytes that are apart from the hash. -/
def Sep (g : Nat) (r : Option Nat) (a : Option Addr) (l : List UInt8) : Prop := l = [] ∨ ∀ ad, a = some ad → ad.block ≠ g ∧ some ad.block ≠ r
/-- Bytes of the caller's, apart from the hash. -/
def RdS (w : World) (g : Nat) (r : Option Nat) (v : Value) (l : List UInt8) : Prop :=
  ∃ a c, v = .slice a l.length c ∧ l.length ≤ c ∧ c ≤ 9223372036854775807 ∧ Rd w w.heap.size a (bs l) ∧ Sep g r a l

theorem rds_at {w W : World} {g : Nat} {r : Option Nat} {a : Option Addr} {l : List UInt8} (h : Rd w w.heap.size a (bs l)) (hs : Sep g r a l) (hb : But2 w W g r) : Rd W w.heap.size a (bs l) := by
  rcases h with h | ⟨b, off, ha, hlt, hc⟩
  · exact .inl h
  · rcases hs with hs | hs
    · exact .inl (by rw [hs]; rfl)
    obtain ⟨h1, h2⟩ := hs _ ha
    exact .inr ⟨b, off, ha, hlt, fun i u hi => (World.cell?_of_block (hb.block b hlt h1 h2)).trans (hc i u hi)⟩
theorem RdS.drop {w : World} {g : Nat} {r : Option Nat} {a : Option Addr} {n c : Nat} {l : List UInt8} (h : RdS w g r (.slice a n c) l) (k : Nat) (hk : k ≤ l.length) : RdS w g r (.slice (if c = k then a else a.map (·.add k)) (n - k) (c - k)) (l.drop k) := by
  obtain ⟨a', c', e, h1, h2, h3, h4⟩ := h
  injection e with e1 e2 e3
  subst e1; subst e2; subst e3
  refine ⟨_, _, by rw [List.length_drop], by rw [List.length_drop]; omega, by omega, ?_, ?_⟩
  · rw [bs_drop]; exact h3.cut (by rw [bs_length]; exact h1)
  · rcases h4 with h4 | h4
    · exact .inl (by rw [h4]; simp)
    refine .inr fun ad had => ?_
    by_cases hck : c = k
    · rw [if_pos hck] at had; exact h4 ad had
    · rw [if_neg hck] at had
      cases a with
      | none => cases had
      | some a0 =>
        injection had with had
        subst had
        have hab : ((fun x : Addr => x.add k) a0).block = a0.block := by
          cases a0 with
          | mk b o s => simp only [Addr.add]; split <;> rfl
        rw [hab]
        exact h4 a0 rfl

def WRel (w : World) (g : Nat) (r : Option Nat) (lo : Nat) (all b : List UInt8) (n : Int) (v : Value) (wc : World) : Prop :=
  ∃ q r', q ≤ b.length ∧ restOf (all ++ b.take q) = [] ∧ Mid wc g r' lo (all ++ b.take q) n ∧ RdS w g r v (b.drop q) ∧ But2 w wc g r ∧ (r' = r ∨ ∃ x, r' = some x ∧ w.heap.size ≤ x)

theorem OwnB.cap {W : World} {lo : Nat} {a : Option Addr} {n c : Nat} {l : List UInt8} (h : OwnB W lo (.slice a n c) l) : n ≤ c ∧ c ≤ maxLen ∧ l.length = n := by
  have hl := h.1
  rw [bs_length] at hl
  rcases h.2 with ⟨e, h0⟩ | ⟨q, off, cap, cur, l, hi, e, _, hh, _, _, hc, hm, _⟩
  · injection e with e1 e2 e3
    subst e2; subst e3
    exact ⟨Nat.le_refl _, by simp, by omega⟩
  · injection e with e1 e2 e3
    subst e2; subst e3
    exact ⟨hc, hm, by omega⟩

/-- What is known behind the append to what is left. -/
theorem mid_app {W W' : World} {g lo k c N : Nat} {r : Option Nat} {n : Int} {st : List W32} {L m : List UInt8} {a : Option Addr} {v' : Value} (hst : st.length = 8)
    (hB : Blk W g 57 (us st ++ [.slice a k c, .int .u64 n])) (hX : (Value.slice a k c).ownBlock = r) (hY : r ≠ some g) (hN : (L ++ m).length = N)
    (hown : OwnB W' lo v' (L ++ m)) (hgr : W.grownBy W' (Value.slice a k c).ownBlock) (hat : v'.ownBlock = (Value.slice a k c).ownBlock ∨ v'.ownBlock = some W.heap.size) :
    ∃ a' c' r', v' = .slice a' N c' ∧ W'.cell? ⟨g, 8, none⟩ = some (.slice a k c) ∧ W'.frozen? ⟨g, 8, none⟩ = false ∧ Blk W' g 57 (us st ++ [.slice a k c, .int .u64 n]) ∧ OwnB W' lo (.slice a' N c') (L ++ m) ∧
      (Value.slice a' N c').ownBlock = r' ∧ r' ≠ some g ∧ (r' = r ∨ r' = some W.heap.size) ∧ N ≤ c' ∧ c' ≤ 9223372036854775807 := by
  have hB' : Blk W' g 57 (us st ++ [.slice a k c, .int .u64 n]) := hB.keep (hgr.block g hB.lt (by rw [hX]; exact fun e => hY e.symm))
  obtain ⟨a', c', rfl, hc⟩ := OwnG.shape hown
  rw [hN] at hown hc hat
  obtain ⟨h1, h2, h3⟩ := OwnB.cap hown
  refine ⟨a', c', _, by rw [hN], hB'.cell 8 _ ?_, hB'.frozen 8, hB', hown, rfl, ?_, ?_, hc, by unfold maxLen at h2; omega⟩
  · rw [List.getElem?_append_right (by simp [us, hst]), us, List.length_map, hst]; rfl
  · rcases hat with h | h
    · rw [h, hX]; exact hY
    · rw [h]; intro e; injection e with e; have := hB.lt; omega
  · rcases hat with h | h
    · left; rw [h, hX]
    · right; exact h

theorem us_set8' {st : List W32} (hst : st.length = 8) (x y v : Value) : (us st ++ [x, y]).set 8 v = us st ++ [v, y] := by
  rw [List.set_append_right _ _ (by simp [us, hst]), us, List.length_map, hst]; rfl

theorem Mid.of {W : World} {g lo N c : Nat} {r : Option Nat} {p : List UInt8} {n : Int} {x : Value} {a : Option Addr} (hB : Blk W g 57 (us (stOf p) ++ [x, .int .u64 n])) (hO : OwnB W lo (.slice a N c) (restOf p))
    (hX : (Value.slice a N c).ownBlock = r) (hY : r ≠ some g) : Mid (W.setCell ⟨g, 8, none⟩ (.slice a N c)) g r lo p n := by
  obtain ⟨_, _, rfl⟩ := OwnB.cap hO
  refine ⟨a, c, ?_, ?_, hX, hY⟩
  · have := hB.set 8 (.slice a (restOf p).length c)
    rwa [us_set8] at this
  · exact OwnG.keep hO fun k hk _ => heap_setCell_other W ⟨g, 8, none⟩ k _ (fun e => hY (by rw [← hX, hk]; exact congrArg some e))

theorem num_eq {all b : List UInt8} {nn : Int} (h : ((all.length % 18446744073709551616 : Nat) : Int) = nn) : IntKind.u64.wrap (nn + b.length) = (((all ++ b).length % 18446744073709551616 : Nat) : Int) := by
  rw [← h, IntKind.wrap_u64, List.length_append]
  omega

theorem new_row {w w1 : World} {g : Nat} {r r2 : Option Nat} (hb : But2 w w1 g r) (h : r2 = r ∨ r2 = some w1.heap.size) : r2 = r ∨ ∃ q, r2 = some q ∧ w.heap.size ≤ q := by
  rcases h with h | h
  · exact .inl h
  · exact .inr ⟨_, h, hb.size⟩

theorem OwnB.zero {W : World} {lo n c : Nat} {a : Option Addr} {l : List UInt8} (h : OwnB W lo (.slice a n c) l) : OwnB W lo (.slice a 0 c) [] := by
  refine ⟨by simp [bs], ?_⟩
  rcases h.2 with ⟨e, h0⟩ | ⟨q, off, cap, cur, l1, hi, e, h1, h2, h3, h4, h5, h6, h7⟩
  · injection e with e1 e2 e3
    subst e1; subst e3
    exact .inl ⟨rfl, rfl⟩
  · injection e with e1 e2 e3
    subst e1; subst e3
    exact .inr ⟨q, off, c, cur, l1, hi, rfl, h1, h2, h3, h4, Nat.zero_le _, h6, fun j u hu => by simp [bs] at hu⟩

theorem own_len (a : Option Addr) (n m c c' : Nat) : (Value.slice a n c).ownBlock = (Value.slice a m c').ownBlock := by cases a <;> rfl

theorem cell8 {W : World} {g : Nat} {st : List W32} {x y : Value} (hst : st.length = 8) (h : Blk W g 57 (us st ++ [x, y])) : W.cell? ⟨g, 8, none⟩ = some x := by
  refine h.cell 8 _ ?_
  rw [List.getElem?_append_right (by simp [us, hst]), us, List.length_map, hst]; rfl

set_option maxRecDepth 16000 in
theorem write_mid (g : Nat) (r : Option Nat) (lo : Nat) (all b : List UInt8) (nn : Int) (ab : Option Addr) (nb cb : Nat) (w : World) (hM : Mid w g r lo all nn) (hlo : lo ≤ w.heap.size) (hb : b.length = nb) (hcb : nb ≤ cb) (hcb2 : cb ≤ 9223372036854775807)
    (hr : Rd w w.heap.size ab (bs b)) (hsep : Sep g r ab b) (hk : KOK w) :
    Calls Tryd.prog 26 #[.pointer (some ⟨g, 0, none⟩), .slice ab nb cb] w fun e w' =>
      e = .returned (.tuple #[]) ∧ (∃ r', Mid w' g r' lo (all ++ b) (IntKind.u64.wrap (nn + b.length)) ∧ (r' = r ∨ ∃ q, r' = some q ∧ w.heap.size ≤ q)) ∧ But2 w w' g r := by
  subst hb
  obtain ⟨a, c, hc8, hc9, hB, hO, hrb, hrg, hrc⟩ := hM.cells
  have hf9 : w.frozen? ⟨g, 9, none⟩ = false := hB.frozen 9
  have HM := Lib.hid (hM.setN (IntKind.u64.wrap (nn + b.length)))
  have HR := Lib.hid hr
  have HZ := Lib.hid (hM.zero hk)
  have HK := Lib.hid hk
  have HS := Lib.hid hsep
  clear hB hr hk hO hM hsep hrb hrg hrc
  go_enter Tryd.func26, Tryd.ntmps26
  go_upto_region 2 with (fail)
  have HB1 : Hid (But2 w (w.setCell ⟨g, 9, none⟩ (.int .u64 (IntKind.u64.wrap (nn + b.length)))) g r) := Lib.hid ((But2.refl w g r).grown (grownBy_one _ _ _ _ _) (.inl rfl))
  have HR1 : Hid (RdS w g r (.slice ab b.length cb) b) := Lib.hid ⟨ab, cb, rfl, hcb, hcb2, HR.out, HS.out⟩
  obtain ⟨w1, hw1⟩ : ∃ w1, w.setCell ⟨g, 9, none⟩ (.int .u64 (IntKind.u64.wrap (nn + b.length))) = w1 := ⟨_, rfl⟩
  rw [hw1] at HM HB1 ⊢
  have HW1 := Lib.hid hw1
  clear hw1
  clear hc8 hc9 hf9
  obtain ⟨a1, c1, hc8, _, hB, hO, hrb, hrg, hrc⟩ := HM.out.cells
  have HO := Lib.hid hO
  have HB := Lib.hid hB
  have HX := Lib.hid hrb
  have HY := Lib.hid hrg
  have hf8 : w1.frozen? ⟨g, 8, none⟩ = false := hB.frozen 8
  have HL := Lib.hid (restOf_length all)
  have HL2 : Hid (OwnB w1 lo (.slice a1 (restOf all).length c1) (restOf all)) := Lib.hid hO
  obtain ⟨L, hL⟩ : ∃ L, restOf all = L := ⟨_, rfl⟩
  obtain ⟨k, hkL⟩ : ∃ k, L.length = k := ⟨_, rfl⟩
  rw [hL] at hc8 HO HB HX hrc HL HL2
  rw [hkL] at hc8 HO HB HX hrc HL HL2
  have HK64 : Hid (k < 64) := Lib.hid (by have := HL.out; omega)
  have HKL := Lib.hid hkL
  have HLL := Lib.hid hL
  have HCB := Lib.hid hcb
  have HCB2 := Lib.hid hcb2
  have HLO := Lib.hid hlo
  clear hO hB hrb hrg hL hkL a c hcb2 hcb hrc hlo
  go_upto_if 22 with (fail)
  go_cut [1] (fun v1 wc => WRel w g r lo all b (IntKind.u64.wrap (nn + b.length)) v1 wc)
  case first =>
    by_cases h0 : k = 0
    · have hk0 : ¬ (0 < k) := by omega
      go_wp2_with fail
      go_meet
      case rel =>
        refine ⟨0, r, Nat.zero_le _, ?_, ?_, HR1.out, HB1.out, .inl rfl⟩
        · rw [List.take_zero, List.append_nil, HLL.out]
          exact List.eq_nil_of_length_eq_zero (HKL.out.trans h0)
        · rw [List.take_zero, List.append_nil]; exact HM.out
    · have hk0 : 0 < k := by omega
      have RW := rds_at HR.out HS.out HB1.out
      have HLO1 : lo ≤ w1.heap.size := Nat.le_trans HLO.out HB1.out.size
      by_cases hA : b.length < 64 - k
      · have e64 : wrap64 (64 - (k : Int)) = ((64 - k : Nat) : Int) := by
          have := HK64.out
          rw [show (64 : Int) - (k : Int) = ((64 - k : Nat) : Int) by omega]
          exact IntWalk.wrap64_in _ (by omega)
        have hA2 : ¬ (64 - k < b.length) := by omega
        have N4 : (L ++ b).length = k + b.length := by rw [List.length_append, HKL.out]
        have S1 : L.length + b.length ≤ 140737488355328 := by rw [HKL.out]; have := HK64.out; omega
        have T8 : us (stOf all) = us (stOf all) := rfl
        have HN4 := Lib.hid N4
        have HS1 := Lib.hid S1
        have HRW := Lib.hid RW
        have HA := Lib.hid hA
        have HST : Hid ((stOf all).length = 8) := Lib.hid (stB_length _ _)
        clear N4 S1 RW T8 hA
        obtain ⟨N, hN⟩ : ∃ N, k + b.length = N := ⟨_, rfl⟩
        rw [hN] at HN4
        have hN64 : decide ((N : Int) < 64) = true := by have := HA.out; exact decide_eq_true (by omega)
        have hcb := HCB.out
        go_upto_region 4 with (fail)
        go_region_law ((refine step_app (by rfl) (.tmp 36) (.tmp 39) (by rfl) lo (.slice a1 k c1) L (by rfl) HO.out w.heap.size ab b.length cb b (by rfl) rfl HRW.out HS1.out HLO1 ?_; intro v2 w2 hown2 hgr2 hat2; obtain ⟨a2, c2, r2, rfl, hc82, hf82, hB2, hO2, hX2, hY2, hr2, hc2, hc2'⟩   := mid_app (W := w1.drew) HST.out HB.out HX.out HY.out HN4.out hown2 hgr2 hat2))
        go_wp2_with fail
        all_goals refine bodyPost_ret (results_none rfl _ _ _) rfl ?_
        all_goals
          have hsm := st_small all b (by have := HL.out; have := HA.out; omega)
          have hsb : Blk w2 g 57 (us (stOf (all ++ b)) ++ [.slice a1 k c1, .int .u64 (IntKind.u64.wrap (nn + b.length))]) := by rw [hsm.1]; exact hB2
          have hso : OwnB w2 lo (.slice a2 N c2) (restOf (all ++ b)) := by rw [hsm.2, HLL.out]; exact hO2
          have hmm := Mid.of hsb hso hX2 hY2
          exact ⟨rfl, ⟨r2, hmm, new_row HB1.out hr2⟩, (HB1.out.drew.grown hgr2 (.inr (.inl HX.out))).grown (grownBy_one _ _ _ _ _) (.inl rfl)⟩
      · have HAN := Lib.hid hA
        by_cases hC : 64 - k < b.length
        · obtain ⟨m, hm⟩ : ∃ m, 64 - k = m := ⟨_, rfl⟩
          have e64 : wrap64 (64 - (k : Int)) = (m : Int) := by
            have := HK64.out
            rw [show (64 : Int) - (k : Int) = (m : Int) by omega]
            exact IntWalk.wrap64_in _ (by omega)
          rw [hm] at hC
          have HMK := Lib.hid hm
          have HMB : Hid (m ≤ b.length) := Lib.hid (by omega)
          clear hm hA
          have HT : Hid ((b.take m).length = m) := Lib.hid (by rw [List.length_take]; have := HMB.out; omega)
          have HN4 : Hid ((L ++ b.take m).length = 64) := Lib.hid (by rw [List.length_append, HKL.out, HT.out]; have := HMK.out; have := HK64.out; omega)
          have HS1 : Hid (L.length + m ≤ 140737488355328) := Lib.hid (by rw [HKL.out]; have := HMK.out; have := HK64.out; omega)
          have HRW : Hid (Rd w1 w.heap.size ab (bs (b.take m))) := Lib.hid (by rw [bs_take]; exact RW.take _)
          have HST : Hid ((stOf all).length = 8) := Lib.hid (stB_length _ _)
          have hcb : m ≤ cb := Nat.le_trans HMB.out HCB.out
          have hmb : m ≤ b.length := HMB.out
          clear RW
          go_upto_region 4 with (fail)
          go_region_law ((refine step_app (by rfl) (.tmp 36) (.tmp 39) (by rfl) lo (.slice a1 k c1) L (by rfl) HO.out w.heap.size ab m cb (b.take m) (by rfl) HT.out HRW.out HS1.out HLO1 ?_; intro v2 w2 hown2 hgr2 hat2; obtain ⟨a2, c2, r2, rfl, hc82, hf82, hB2, hO2, hX2, hY2, hr2, hc2, hc2'⟩ := mid_app (W := w1.drew) HST.out HB.out HX.out HY.out HN4.out hown2 hgr2 hat2))
          all_goals (
            have HB3 : Hid (Blk (w2.setCell ⟨g, 8, none⟩ (.slice a2 64 c2)) g 57 (us (stOf all) ++ [.slice a2 64 c2, .int .u64 (IntKind.u64.wrap (nn + b.length))])) := Lib.hid (by have := hB2.set 8 (.slice a2 64 c2); rwa [us_set8] at this)
            have HO3 : Hid (OwnB (w2.setCell ⟨g, 8, none⟩ (.slice a2 64 c2)) lo (.slice a2 64 c2) (L ++ b.take m)) := Lib.hid (OwnG.keep hO2 fun k hk _ => heap_setCell_other w2 ⟨g, 8, none⟩ k _ (fun e => hY2 (by rw [← hX2, hk]; exact congrArg some e)))
            have HBU : Hid (But2 w (w2.setCell ⟨g, 8, none⟩ (.slice a2 64 c2)) g r) := Lib.hid ((HB1.out.drew.grown hgr2 (.inr (.inl HX.out))).grown (grownBy_one _ _ _ _ _) (.inl rfl))
            have HC2 := Lib.hid hc2
            have HC2' := Lib.hid hc2'
            have HX2 := Lib.hid hX2
            have HY2 := Lib.hid hY2
            have HR2 := Lib.hid (new_row HB1.out hr2)
            clear hown2 hgr2 hat2 hB2 hO2 hX2 hY2 hr2 hc2'
            go_wp2_with fail
            all_goals (
              refine (block_any g a2 64 c2 (stOf all) (L ++ b.take m) _ _ HST.out HN4.out HC2.out (Nat.le_refl _) HC2'.out HB3.out HO3.out.rd (HBU.out.kok HK.out HZ.out.1 HZ.out.2)).mono ?_
              rintro e w4 ⟨rfl, hb4, hg4⟩
              have HST4 : Hid ((compress (stOf all) (L ++ b.take m)).length = 8) := Lib.hid (compress_length _ _ HST.out)
              have hc84 := cell8 HST4.out hb4
              have hf84 : w4.frozen? ⟨g, 8, none⟩ = false := hb4.frozen 8
              have HB4 := Lib.hid hb4
              have HG4 := Lib.hid hg4
              clear hb4 hg4
              go_wp2_with fail
              all_goals go_meet
              all_goals (
                case rel =>
                  have hsb := st_block all (b.take m) (by rw [HT.out]; have := HMK.out; have := HK64.out; have := HL.out; omega)
                  have hmm : Mid (w4.setCell ⟨g, 8, none⟩ (.slice a2 0 c2)) g r2 lo (all ++ b.take m) (IntKind.u64.wrap (nn + b.length)) := by
                    refine Mid.of (x := .slice a2 64 c2) ?_ ?_ ?_ ?_
                    · rw [hsb.1, HLL.out]; exact HB4.out
                    · rw [hsb.2]; exact OwnB.zero (OwnG.grown HO3.out HG4.out (.inr (fun e => HY2.out (HX2.out.symm.trans e))))
                    · exact (own_len _ _ _ _ _).trans HX2.out
                    · exact HY2.out
                  have hrd := HR1.out.drop m HMB.out
                  have hnow := (HBU.out.grown HG4.out (.inl rfl)).grown (grownBy_one w4 g 8 none (.slice a2 0 c2)) (.inl rfl)
                  by_cases hcm : cb = m
                  · rw [if_pos hcm, show cb - m = 0 by omega] at hrd
                    (try rw [Nat.sub_self] at hrd)
                    first
                      | exact ⟨m, r2, HMB.out, hsb.2, hmm, hrd, hnow, HR2.out⟩
                      | (exfalso; omega)
                  · rw [if_neg hcm] at hrd
                    (try rw [Nat.sub_self] at hrd)
                    first
                      | exact ⟨m, r2, HMB.out, hsb.2, hmm, hrd, hnow, HR2.out⟩
                      | (exfalso; omega))))
        · have e64 : wrap64 (64 - (k : Int)) = (b.length : Int) := by
            have := HK64.out
            rw [show (64 : Int) - (k : Int) = (b.length : Int) by omega]
            exact IntWalk.wrap64_in _ (by omega)
          have HMK : Hid (64 - k = b.length) := Lib.hid (by omega)
          have HMB : Hid (b.length ≤ b.length) := Lib.hid (Nat.le_refl _)
          clear hA hC
          have HT : Hid ((b.take (b.length)).length = (b.length)) := Lib.hid (by rw [List.length_take]; have := HMB.out; omega)
          have HN4 : Hid ((L ++ b.take (b.length)).length = 64) := Lib.hid (by rw [List.length_append, HKL.out, HT.out]; have := HMK.out; have := HK64.out; omega)
          have HS1 : Hid (L.length + (b.length) ≤ 140737488355328) := Lib.hid (by rw [HKL.out]; have := HMK.out; have := HK64.out; omega)
          have HRW : Hid (Rd w1 w.heap.size ab (bs (b.take (b.length)))) := Lib.hid (by rw [bs_take]; exact RW.take _)
          have HST : Hid ((stOf all).length = 8) := Lib.hid (stB_length _ _)
          have hcb : (b.length) ≤ cb := Nat.le_trans HMB.out HCB.out
          have hmb : (b.length) ≤ b.length := HMB.out
          clear RW
          go_upto_region 4 with (fail)
          go_region_law ((refine step_app (by rfl) (.tmp 36) (.tmp 39) (by rfl) lo (.slice a1 k c1) L (by rfl) HO.out w.heap.size ab (b.length) cb (b.take (b.length)) (by rfl) HT.out HRW.out HS1.out HLO1 ?_; intro v2 w2 hown2 hgr2 hat2; obtain ⟨a2, c2, r2, rfl, hc82, hf82, hB2, hO2, hX2, hY2, hr2, hc2, hc2'⟩ := mid_app (W := w1.drew) HST.out HB.out HX.out HY.out HN4.out hown2 hgr2 hat2))
          all_goals (
            have HB3 : Hid (Blk (w2.setCell ⟨g, 8, none⟩ (.slice a2 64 c2)) g 57 (us (stOf all) ++ [.slice a2 64 c2, .int .u64 (IntKind.u64.wrap (nn + b.length))])) := Lib.hid (by have := hB2.set 8 (.slice a2 64 c2); rwa [us_set8] at this)
            have HO3 : Hid (OwnB (w2.setCell ⟨g, 8, none⟩ (.slice a2 64 c2)) lo (.slice a2 64 c2) (L ++ b.take (b.length))) := Lib.hid (OwnG.keep hO2 fun k hk _ => heap_setCell_other w2 ⟨g, 8, none⟩ k _ (fun e => hY2 (by rw [← hX2, hk]; exact congrArg some e)))
            have HBU : Hid (But2 w (w2.setCell ⟨g, 8, none⟩ (.slice a2 64 c2)) g r) := Lib.hid ((HB1.out.drew.grown hgr2 (.inr (.inl HX.out))).grown (grownBy_one _ _ _ _ _) (.inl rfl))
            have HC2 := Lib.hid hc2
            have HC2' := Lib.hid hc2'
            have HX2 := Lib.hid hX2
            have HY2 := Lib.hid hY2
            have HR2 := Lib.hid (new_row HB1.out hr2)
            clear hown2 hgr2 hat2 hB2 hO2 hX2 hY2 hr2 hc2'
            go_wp2_with fail
            all_goals (
              refine (block_any g a2 64 c2 (stOf all) (L ++ b.take (b.length)) _ _ HST.out HN4.out HC2.out (Nat.le_refl _) HC2'.out HB3.out HO3.out.rd (HBU.out.kok HK.out HZ.out.1 HZ.out.2)).mono ?_
              rintro e w4 ⟨rfl, hb4, hg4⟩
              have HST4 : Hid ((compress (stOf all) (L ++ b.take (b.length))).length = 8) := Lib.hid (compress_length _ _ HST.out)
              have hc84 := cell8 HST4.out hb4
              have hf84 : w4.frozen? ⟨g, 8, none⟩ = false := hb4.frozen 8
              have HB4 := Lib.hid hb4
              have HG4 := Lib.hid hg4
              clear hb4 hg4
              go_wp2_with fail
              all_goals go_meet
              all_goals (
                case rel =>
                  have hsb := st_block all (b.take (b.length)) (by rw [HT.out]; have := HMK.out; have := HK64.out; have := HL.out; omega)
                  have hmm : Mid (w4.setCell ⟨g, 8, none⟩ (.slice a2 0 c2)) g r2 lo (all ++ b.take (b.length)) (IntKind.u64.wrap (nn + b.length)) := by
                    refine Mid.of (x := .slice a2 64 c2) ?_ ?_ ?_ ?_
                    · rw [hsb.1, HLL.out]; exact HB4.out
                    · rw [hsb.2]; exact OwnB.zero (OwnG.grown HO3.out HG4.out (.inr (fun e => HY2.out (HX2.out.symm.trans e))))
                    · exact (own_len _ _ _ _ _).trans HX2.out
                    · exact HY2.out
                  have hrd := HR1.out.drop (b.length) HMB.out
                  have hnow := (HBU.out.grown HG4.out (.inl rfl)).grown (grownBy_one w4 g 8 none (.slice a2 0 c2)) (.inl rfl)
                  by_cases hcm : cb = (b.length)
                  · rw [if_pos hcm, show cb - (b.length) = 0 by omega] at hrd
                    (try rw [Nat.sub_self] at hrd)
                    first
                      | exact ⟨(b.length), r2, HMB.out, hsb.2, hmm, hrd, hnow, HR2.out⟩
                      | (exfalso; omega)
                  · rw [if_neg hcm] at hrd
                    (try rw [Nat.sub_self] at hrd)
                    first
                      | exact ⟨(b.length), r2, HMB.out, hsb.2, hmm, hrd, hnow, HR2.out⟩
                      | (exfalso; omega))))
  case rest =>
    go_wp2_with fail
    go_loopw [1] (fun v wr => WRel w g r lo all b (IntKind.u64.wrap (nn + b.length)) v wr) (fun v _ => match v with | .slice _ n _ => n | _ => 0)
    case atStart => exact hcut
    case round =>
      obtain ⟨q, r', hq, hre, hmid, ⟨ac, cc, rfl, hcc, hcc2, hrd, hsd⟩, hbut, hnew⟩ := hrel
      obtain ⟨ar, cr, hc8r, _, hBr, hOr, hXr, hYr, hcr⟩ := hmid.cells
      rw [hre] at hBr hOr hXr hc8r
      simp only [List.length_nil] at hBr hOr hXr hc8r
      have hf8r : wr.frozen? ⟨g, 8, none⟩ = false := hBr.frozen 8
      obtain ⟨P, hP⟩ : ∃ P, all ++ b.take q = P := ⟨_, rfl⟩
      obtain ⟨D, hD⟩ : ∃ D, b.drop q = D := ⟨_, rfl⟩
      rw [hP] at hre hmid hBr
      rw [hD] at hrd hcc hsd
      obtain ⟨d, hd⟩ : ∃ d, D.length = d := ⟨_, rfl⟩
      have HPD : Hid (all ++ b = P ++ D) := Lib.hid (by rw [← hP, ← hD, List.append_assoc, List.take_append_drop])
      have HP := Lib.hid hP
      have HD := Lib.hid hD
      have HDL := Lib.hid hd
      have HRE := Lib.hid hre
      have HBR := Lib.hid hBr
      have HOR := Lib.hid hOr
      have HXR := Lib.hid hXr
      have HYR := Lib.hid hYr
      have HBT := Lib.hid hbut
      have HNW := Lib.hid hnew
      have HSD := Lib.hid hsd
      have HRD := Lib.hid (rds_at hrd hsd hbut)
      have HRD0 := Lib.hid hrd
      have HCC := Lib.hid hcc
      have HCC2 := Lib.hid hcc2
      have HQ := Lib.hid hq
      have HSTP : Hid ((stOf P).length = 8) := Lib.hid (stB_length _ _)
      rw [hD, hd]
      clear hP hD hre hmid hBr hOr hXr hYr hbut hnew hsd hrd hcc hcc2 hq hcr
      by_cases h64 : 64 ≤ d
      · have h64' : decide ((64 : Int) ≤ (d : Int)) = true := decide_eq_true (by omega)
        have hlt : d ≤ cc := by have := HCC.out; have := HDL.out; omega
        go_wp2_with fail
        refine (block_any g ac d cc (stOf P) D _ wr HSTP.out HDL.out hlt h64 HCC2.out HBR.out HRD.out.lt_size (HBT.out.kok HK.out HZ.out.1 HZ.out.2)).mono ?_
        rintro e w2 ⟨rfl, hb2, hg2⟩
        have HB2 := Lib.hid hb2
        have HG2 := Lib.hid hg2
        clear hb2 hg2
        go_wp2_with fail
        all_goals go_roundw
        all_goals first
          | (case measure => simp only [Nat.sub_lt_iff_lt_add]; omega)
          | (case rel =>
              have eD : D.drop 64 = b.drop (q + 64) := by rw [← HD.out, List.drop_drop]
              have eP : all ++ b.take (q + 64) = P ++ D.take 64 := by rw [List.take_add, ← HP.out, HD.out, List.append_assoc]
              have hP64 : P.length % 64 = 0 := by rw [← restOf_length, HRE.out]; rfl
              have hsb := st_block P (D.take 64) (by rw [List.length_take, HDL.out, hP64]; omega)
              have hmm : Mid w2 g r' lo (all ++ b.take (q + 64)) (IntKind.u64.wrap (nn + b.length)) := by
                rw [eP]
                refine ⟨ar, cr, ?_, ?_, ?_, HYR.out⟩
                · rw [hsb.2, hsb.1, HRE.out, List.nil_append, compress_take]; exact HB2.out
                · rw [hsb.2]; exact OwnG.grown HOR.out HG2.out (.inr (fun e => HYR.out (HXR.out.symm.trans e)))
                · rw [hsb.2]; exact HXR.out
              have hrd : RdS w g r (.slice ac d cc) D := ⟨ac, cc, by rw [HDL.out], HCC.out, HCC2.out, HRD0.out, HSD.out⟩
              have hrd := hrd.drop 64 (by rw [HDL.out]; exact h64)
              rw [eD] at hrd
              have hq2 : q + 64 ≤ b.length := by
                have := HDL.out
                rw [← HD.out, List.length_drop] at this
                have := HQ.out
                omega
              have hr2 : restOf (all ++ b.take (q + 64)) = [] := by rw [eP]; exact hsb.2
              have hnow := HBT.out.grown HG2.out (.inl rfl)
              exact ⟨q + 64, r', hq2, hr2, hmm, hrd, hnow, HNW.out⟩)
      · have h64' : decide ((64 : Int) ≤ (d : Int)) = false := decide_eq_false (by omega)
        have hlo1 : lo ≤ wr.heap.size := Nat.le_trans HLO.out HBT.out.size
        have HS1 : Hid (([] : List UInt8).length + d ≤ 140737488355328) := Lib.hid (by simp; omega)
        go_wp2_with (at_builtin; refine wpList_app rfl _ _ rfl lo _ _ rfl HOR.out w.heap.size _ d cc D rfl HDL.out HRD.out HS1.out hlo1 ?_)
        intro v2 w2 hown2 hgr2 hat2
        obtain ⟨a2, c2, r2, rfl, hc82, hf82, hB2, hO2, hX2, hY2, hr2, hc2, hc2'⟩ := mid_app HSTP.out HBR.out HXR.out HYR.out (m := D) (L := []) (N := d) (by rw [List.nil_append]; exact HDL.out) hown2 hgr2 hat2
        go_wp2_with fail
        go_end0
        have hP64 : P.length % 64 = 0 := by rw [← restOf_length, HRE.out]; rfl
        have hsm := st_small P D (by rw [hP64, HDL.out]; omega)
        have hmm : Mid (w2.setCell ⟨g, 8, none⟩ (.slice a2 d c2)) g r2 lo (all ++ b) (IntKind.u64.wrap (nn + b.length)) := by
          rw [HPD.out]
          refine Mid.of (x := .slice ar 0 cr) ?_ ?_ hX2 hY2
          · rw [hsm.1]; exact hB2
          · rw [hsm.2, HRE.out]; exact hO2
        have hbz := HBT.out.size
        refine ⟨rfl, ⟨r2, hmm, ?_⟩, (HBT.out.grown hgr2 ?_).grown (grownBy_one _ _ _ _ _) (.inl rfl)⟩
        · rcases hr2 with h | h
          · rw [h]; exact HNW.out
          · exact .inr ⟨_, h, hbz⟩
        · rw [HXR.out]
          rcases HNW.out with h | h
          · exact .inr (.inl h)
          · exact .inr (.inr (.inr h))

theorem write_any (g : Nat) (r : Option Nat) (lo : Nat) (all b : List UInt8) (ab : Option Addr) (nb cb : Nat) (w : World) (hH : IsHash w g r lo all) (hlo : lo ≤ w.heap.size) (hb : b.length = nb) (hcb : nb ≤ cb) (hcb2 : cb ≤ 9223372036854775807)
    (hr : Rd w w.heap.size ab (bs b)) (hsep : Sep g r ab b) (hk : KOK w) :
    Calls Tryd.prog 26 #[.pointer (some ⟨g, 0, none⟩), .slice ab nb cb] w fun e w' =>
      e = .returned (.tuple #[]) ∧ (∃ r', IsHash w' g r' lo (all ++ b) ∧ (r' = r ∨ ∃ q, r' = some q ∧ w.heap.size ≤ q)) ∧ But2 w w' g r := by
  refine (write_mid g r lo all b _ ab nb cb w hH hlo hb hcb hcb2 hr hsep hk).mono ?_
  rintro e w' ⟨h1, ⟨r', h2, h3⟩, h4⟩
  rw [num_eq rfl] at h2
  exact ⟨h1, ⟨r', h2, h3⟩, h4⟩
end Go.Proofs.YtnfchojekcoplaaDoor
