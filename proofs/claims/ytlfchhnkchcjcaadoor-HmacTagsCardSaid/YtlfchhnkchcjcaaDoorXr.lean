/- octets.Xor -/
import Derived.Test.YtlfchhnkchcjcaaDoorHm1
namespace Go.Proofs.YtlfchhnkchcjcaaDoor
set_option linter.unusedVariables false
set_option linter.unusedSimpArgs false
open Go.RowKit

def xorL (l r : List UInt8) : List UInt8 := List.zipWith (fun x y => x ^^^ y) l r
theorem xorL_length (l r : List UInt8) (h : l.length = r.length) : (xorL l r).length = l.length := by simp [xorL, h]
theorem xorL_get (l r : List UInt8) (i : Nat) (h : i < (xorL l r).length) (h1 : i < l.length) (h2 : i < r.length) : (xorL l r)[i] = l[i] ^^^ r[i] := by simp [xorL]

set_option maxHeartbeats 400000 in
theorem xor1_any (i : Nat) (ba bb : Nat) (a1 a2 : Option Addr) (n1 c1 n2 c2 : Nat) (l r : List UInt8) (w : World) (h1 : w.cell? ⟨ba, 0, none⟩ = some (.slice a1 n1 c1)) (h2 : w.cell? ⟨bb, 0, none⟩ = some (.slice a2 n2 c2))
    (hl : l.length = n1) (hr : r.length = n2) (hi1 : i < l.length) (hi2 : i < r.length) (hn : n1 ≤ 140737488355328) (hn2 : n2 ≤ 140737488355328) {B1 B2 : Nat} (R1 : Rd w B1 a1 (bs l)) (R2 : Rd w B2 a2 (bs r)) :
    Calls Tryd.prog 39 #[.int .i64 i, .pointer (some ⟨ba, 0, none⟩), .pointer (some ⟨bb, 0, none⟩)] w fun e w' => e = .returned (.int .u8 ((l[i] ^^^ r[i]).toNat : Int)) ∧ Below w.heap.size w w' := by
  obtain ⟨b1, o1, rfl, _, k1⟩ := R1.byte i hi1
  obtain ⟨b2, o2, rfl, _, k2⟩ := R2.byte i hi2
  have e1 := u8_xor_byte l[i] r[i]
  have E1 := Lib.hid e1
  clear e1
  subst hl
  subst hr
  go_enter Tryd.func39, Tryd.ntmps39
  go_wp2_with fail
  go_region
  go_wp2_with fail
  go_ret
  exact ⟨by rw [← E1.out]; rfl, (Below.refl _ _).drew⟩

def XorPost (l r : List UInt8) (w : World) (e : Ending) (w' : World) : Prop :=
  ∃ a n c, e = .returned (.tuple #[.slice a n c, .int .i64 0]) ∧ OwnB w' w.heap.size (.slice a n c) (xorL l r) ∧ Below w.heap.size w w'

theorem row_below {w w' : World} {base n c g : Nat} {e : TypeId} {xs : List Value} (h : w.ownsRow base e 1 (.slice (some ⟨g, 0, none⟩) n c) n xs) (hb : Below w.heap.size w w') : w'.ownsRow base e 1 (.slice (some ⟨g, 0, none⟩) n c) n xs := by
  refine ⟨h.1, ?_⟩
  rcases h.2 with h | ⟨g, cap, cur, hv, hg, hh, r⟩
  · exact .inl h
  · exact .inr ⟨g, cap, cur, hv, hg, (hb.block g (lt_of_heap hh)).trans hh, r⟩
/-! ### the program's -/
set_option maxHeartbeats 400000 in
theorem each_xor (ba bb : Nat) (a1 a2 : Option Addr) (c1 c2 : Nat) (l r : List UInt8) (w : World) (h1 : w.cell? ⟨ba, 0, none⟩ = some (.slice a1 l.length c1)) (h2 : w.cell? ⟨bb, 0, none⟩ = some (.slice a2 l.length c2))
    (hlr : r.length = l.length) (hl : l.length ≤ 140737488351232) (hr1 : Rd w w.heap.size a1 (bs l)) (hr2 : Rd w w.heap.size a2 (bs r)) :
    Calls Tryd.prog 38 #[.int .i64 l.length, .func (.func 39) #[] #[.pointer (some ⟨ba, 0, none⟩), .pointer (some ⟨bb, 0, none⟩)]] w fun e w' =>
      e = .returned (.slice (some ⟨w.heap.size, 0, none⟩) l.length l.length) ∧ OwnB w' w.heap.size (.slice (some ⟨w.heap.size, 0, none⟩) l.length l.length) (xorL l r) ∧ Below w.heap.size w w' := by
  have HR1 := Lib.hid hr1
  have HR2 := Lib.hid hr2
  have HLR := Lib.hid hlr
  have HC1 := Lib.hid h1
  have HC2 := Lib.hid h2
  clear hr1 hr2 hlr h1 h2
  have hx : (xorL l r).length = l.length := xorL_length _ _ HLR.out.symm
  have HX := Lib.hid hx
  clear hx
  obtain ⟨i0, hi, hz0, hz1, hz2⟩ := info_parts info_u8
  have hb2 : i0.bytes * l.length ≤ 281474976710656 := by rw [hz2]; omega
  clear hz2
  go_enter Tryd.func38, Tryd.ntmps38
  go_wp2_with (at_make; refine wpList_make_full _ rfl _ _ _ rfl w.heap.size 5 i0 (.int .u8 0) 1 Tryd.underlying22 hi hz0 hz1 _ _ _ _ l.length rfl rfl rfl rfl hb2 (by unfold maxLen; omega) (Nat.le_refl _) ?_)
  intro w1 hown hgr
  have HO := Lib.hid hown
  have HBL := Lib.hid (below_grown hgr (Nat.le_refl _) (fun g h => by cases h))
  clear hown hgr
  go_wp2_with fail
  go_loopw [11] (fun i wr => ∃ (k : Nat) (L : List UInt8), k ≤ l.length ∧ i = .int .i64 k ∧ L.length = l.length ∧ L.take k = (xorL l r).take k ∧
      wr.ownsRow w.heap.size 5 1 (.slice (some ⟨w.heap.size, 0, none⟩) l.length l.length) l.length (bs L) ∧ Below w.heap.size w wr) (fun i _ => l.length - (intOf i).toNat)
  case atStart => exact ⟨0, List.replicate l.length 0, Nat.zero_le _, rfl, by simp, rfl, own_zero HO.out, HBL.out⟩
  case round =>
    clear HO HBL
    obtain ⟨k, L, hk, rfl, hL, ht, hown, hbl⟩ := hrel
    have HO := Lib.hid hown
    have HBL := Lib.hid hbl
    have HL := Lib.hid hL
    have HT := Lib.hid ht
    clear hL ht hown hbl
    by_cases hks : k < l.length
    · have hks2 : k < r.length := by rw [HLR.out]; exact hks
      have l1 := World.block_lt_of_cell? w _ HC1.out
      have l2 := World.block_lt_of_cell? w _ HC2.out
      have c1' : wr.cell? ⟨ba, 0, none⟩ = some (.slice a1 l.length c1) := (HBL.out.cell l1).trans HC1.out
      have c2' : wr.cell? ⟨bb, 0, none⟩ = some (.slice a2 l.length c2) := (HBL.out.cell l2).trans HC2.out
      have C := Lib.hid (xor1_any k ba bb a1 a2 _ _ _ _ l r wr c1' c2' rfl HLR.out hks hks2 (by omega) (by omega) (HR1.out.below HBL.out) (HR2.out.below HBL.out))
      clear l1 l2 c1' c2'
      go_wp2_with fail
      refine C.out.mono ?_
      rintro e w2 ⟨rfl, hb⟩
      have HO := Lib.hid (row_below HO.out hb)
      have HBL := Lib.hid (HBL.out.trans (hb.mono HBL.out.size))
      obtain ⟨u0, hc⟩ := own_cell HO.out k hks
      have hf := HO.out.frozenAt k
      clear hb C
      go_wp2_with fail
      go_roundw
      case rel =>
        refine ⟨k + 1, L.set k (l[k] ^^^ r[k]), by omega, by go_num, by rw [List.length_set]; exact HL.out, ?_, ?_, HBL.out.setCell (Nat.le_refl _) _⟩
        · rw [take_set _ _ _ (by rw [HL.out]; exact hks), HT.out, List.take_succ_eq_append_getElem (by rw [HX.out]; exact hks), xorL_get l r k (by rw [HX.out]; exact hks) hks hks2]
        · rw [bs_set]
          have := (HO.out.stored k (B (l[k] ^^^ r[k]))).1
          simpa [B] using this
      case measure => simp [intOf]; omega
    · go_wp2_with fail
      go_ret
      have hk' : k = l.length := by omega
      subst hk'
      have h := HT.out
      rw [List.take_of_length_le (by rw [HL.out]; exact Nat.le_refl _), List.take_of_length_le (by rw [HX.out]; exact Nat.le_refl _)] at h
      rw [h] at HO
      refine ⟨rfl, ?_, HBL.out⟩
      unfold OwnB
      rw [HX.out]
      exact OwnG.of HO.out

theorem xor_bad (a1 a2 : Option Addr) (n1 c1 n2 c2 : Nat) (w : World) (h : n1 ≠ n2) :
    Calls Tryd.prog 35 #[.slice a1 n1 c1, .slice a2 n2 c2] w fun e w' => e = .returned (.tuple #[.slice none 0 0, .int .i64 1]) ∧ Below w.heap.size w w' := by
  have hd : ((n1 : Int) == (n2 : Int)) = false := by simp; omega
  go_enter Tryd.func35, Tryd.ntmps35
  go_wp2_with fail
  go_ret2
  exact ⟨rfl, ((Below.refl _ w).alloc (Nat.le_refl _) _).alloc (by simp) _⟩

set_option maxHeartbeats 400000 in
theorem xor_good (a1 a2 : Option Addr) (c1 c2 : Nat) (l r : List UInt8) (w : World) (hlr : r.length = l.length) (hl : l.length ≤ 140737488351232) (hr1 : Rd w w.heap.size a1 (bs l)) (hr2 : Rd w w.heap.size a2 (bs r)) :
    Calls Tryd.prog 35 #[.slice a1 l.length c1, .slice a2 l.length c2] w (XorPost l r w) := by
  have HR1 := Lib.hid hr1
  have HR2 := Lib.hid hr2
  have HLR := Lib.hid hlr
  have hmf : ∀ (fn : Fn) (first cap : Array Value) (w : World), (Instr.makeFunc fn first cap).run Tryd.prog w = .ok (.func fn first cap) w := fun _ _ _ _ => rfl
  clear hr1 hr2 hlr
  go_enter Tryd.func35, Tryd.ntmps35
  have hb : Below w.heap.size w ((w.alloc (Obj.cells #[Value.slice a1 l.length c1] 22)).alloc (Obj.cells #[Value.slice a2 l.length c2] 22)) := ((Below.refl _ w).alloc (Nat.le_refl _) _).alloc (by simp) _
  have g1 : ((w.alloc (Obj.cells #[Value.slice a1 l.length c1] 22)).alloc (Obj.cells #[Value.slice a2 l.length c2] 22)).cell? ⟨w.heap.size, 0, none⟩ = some (.slice a1 l.length c1) := by go_simp
  have g2 : ((w.alloc (Obj.cells #[Value.slice a1 l.length c1] 22)).alloc (Obj.cells #[Value.slice a2 l.length c2] 22)).cell? ⟨w.heap.size + 1, 0, none⟩ = some (.slice a2 l.length c2) := by go_simp
  have C := Lib.hid (each_xor w.heap.size (w.heap.size + 1) a1 a2 c1 c2 l r _ g1 g2 HLR.out hl (HR1.out.below hb).lt_size (HR2.out.below hb).lt_size)
  have HB := Lib.hid hb
  clear hb g1 g2
  go_wp2_with fail
  refine C.out.mono ?_
  rintro e w2 ⟨rfl, hown, hb⟩
  have HO := Lib.hid (OwnG.base_mono hown HB.out.size)
  have HB2 := Lib.hid (HB.out.trans (hb.mono HB.out.size))
  clear hown hb C
  go_wp2_with fail
  go_ret2
  exact ⟨_, _, _, rfl, by simpa [OwnB] using HO.out, HB2.out⟩
end Go.Proofs.YtlfchhnkchcjcaaDoor
