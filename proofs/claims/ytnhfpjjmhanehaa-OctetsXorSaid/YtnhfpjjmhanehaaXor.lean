/- octets.Xor, the document's Xor -/
import Derived.Test.YtnhfpjjmhanehaaOct
namespace Go.Proofs.Ytnhfpjjmhanehaa
set_option linter.unusedVariables false
set_option linter.unusedSimpArgs false
open Go.RowKit

def xorL (l r : List UInt8) : List UInt8 := List.zipWith (fun x y => x ^^^ y) l r
theorem xorL_length (l r : List UInt8) (h : l.length = r.length) : (xorL l r).length = l.length := by simp [xorL, h]
theorem xorL_get (l r : List UInt8) (i : Nat) (h : i < (xorL l r).length) (h1 : i < l.length) (h2 : i < r.length) : (xorL l r)[i] = l[i] ^^^ r[i] := by simp [xorL]

theorem u8_xor_byte (x y : UInt8) : bits .xor .u8 (x.toNat : Int) (y.toNat : Int) = ((x ^^^ y).toNat : Int) := by
  rw [u8_xor_nat _ _ x.toNat_lt y.toNat_lt, UInt8.toNat_xor]

set_option maxHeartbeats 400000 in
theorem xor1_any (i : Nat) (ba bb : Nat) (a1 a2 : Option Addr) (n1 c1 n2 c2 : Nat) (l r : List UInt8) (w : World) (h1 : w.cell? ⟨ba, 0, none⟩ = some (.slice a1 n1 c1)) (h2 : w.cell? ⟨bb, 0, none⟩ = some (.slice a2 n2 c2))
    (hl : l.length = n1) (hr : r.length = n2) (hi1 : i < l.length) (hi2 : i < r.length) (hn : n1 ≤ 140737488355328) (hn2 : n2 ≤ 140737488355328) {B1 B2 : Nat} (R1 : Rd w B1 a1 (bs l)) (R2 : Rd w B2 a2 (bs r)) :
    Calls Try.prog 24 #[.int .i64 i, .pointer (some ⟨ba, 0, none⟩), .pointer (some ⟨bb, 0, none⟩)] w fun e w' => e = .returned (.int .u8 ((l[i] ^^^ r[i]).toNat : Int)) ∧ Below w.heap.size w w' := by
  obtain ⟨b1, o1, rfl, _, k1⟩ := R1.byte i hi1
  obtain ⟨b2, o2, rfl, _, k2⟩ := R2.byte i hi2
  have e1 := u8_xor_byte l[i] r[i]
  have E1 := Lib.hid e1
  clear e1
  subst hl
  subst hr
  go_enter Try.func24, Try.ntmps24
  go_wp2_with fail
  go_region
  go_wp2_with fail
  go_ret
  exact ⟨by rw [← E1.out]; rfl, (Below.refl _ _).drew⟩

def XorPost (l r : List UInt8) (w : World) (e : Ending) (w' : World) : Prop :=
  ∃ a n c, e = .returned (.tuple #[.slice a n c, .int .i64 0]) ∧ OwnB w' w.heap.size (.slice a n c) (xorL l r) ∧ Below w.heap.size w w'

theorem rxor_bad (a1 a2 : Option Addr) (n1 c1 n2 c2 : Nat) (w : World) (h : n1 ≠ n2) :
    Calls Try.prog 19 #[.slice a1 n1 c1, .slice a2 n2 c2] w fun e w' => e = .returned (.tuple #[.slice none 0 0, .int .i64 1]) ∧ w = w' := by
  have hd : ((n1 : Int) == (n2 : Int)) = false := by simp; omega
  go_enter Try.func19, Try.ntmps19
  go_wp2_with fail
  go_ret2
  exact ⟨rfl, rfl⟩

theorem rxor_step {l r : List UInt8} {k : Nat} (h1 : k < l.length) (h2 : k < r.length) : xorL (l.take (k + 1)) (r.take (k + 1)) = xorL (l.take k) (r.take k) ++ [l[k] ^^^ r[k]] := by
  unfold xorL
  rw [List.take_succ_eq_append_getElem h1, List.take_succ_eq_append_getElem h2, List.zipWith_append (by simp; omega)]
  rfl

def RXorRel (l r : List UInt8) (w : World) (v i : Value) (wr : World) : Prop :=
  ∃ k : Nat, k ≤ l.length ∧ i = .int .i64 k ∧ (∃ a c, v = .slice a k c) ∧ OwnB wr w.heap.size v (xorL (l.take k) (r.take k)) ∧ Below w.heap.size w wr

set_option maxHeartbeats 400000 in
theorem rxor_good (a1 a2 : Option Addr) (c1 c2 : Nat) (l r : List UInt8) (w : World) (hlr : r.length = l.length) (hl : l.length ≤ 140737488351232) (hr1 : Rd w w.heap.size a1 (bs l)) (hr2 : Rd w w.heap.size a2 (bs r)) :
    Calls Try.prog 19 #[.slice a1 l.length c1, .slice a2 l.length c2] w (XorPost l r w) := by
  have HR1 := Lib.hid hr1
  have HR2 := Lib.hid hr2
  have HLR := Lib.hid hlr
  clear hr1 hr2 hlr
  go_enter Try.func19, Try.ntmps19
  go_wp2_with fail
  go_loopw [6, 7] (fun v i wr => RXorRel l r w v i wr) (fun _ i _ => l.length - (intOf i).toNat)
  case atStart => exact ⟨0, Nat.zero_le _, rfl, ⟨none, 0, rfl⟩, OwnB.nil _ _, Below.refl _ _⟩
  case round =>
    obtain ⟨k, hk, rfl, ⟨a, c, rfl⟩, hown, hbl⟩ := hrel
    have HO := Lib.hid hown
    have HB := Lib.hid hbl
    clear hown hbl
    by_cases hlt : k < l.length
    · have hlt2 : k < r.length := by rw [HLR.out]; exact hlt
      obtain ⟨b1, o1, rfl, lt1, k1⟩ := (HR1.out.below HB.out).byte k hlt
      obtain ⟨b2, o2, rfl, lt2, k2⟩ := (HR2.out.below HB.out).byte k hlt2
      have e1 := u8_xor_byte l[k] r[k]
      have hlen : (xorL (l.take k) (r.take k)).length = k := by rw [xorL_length _ _ (by simp; omega)]; simp; omega
      have hsz : (xorL (l.take k) (r.take k)).length + 1 ≤ 140737488355328 := by omega
      have hba := HB.out.size
      have HLEN := Lib.hid hlen
      clear hlen
      go_wp2_with fail
      go_region_held3 (fun w' => w'.cell? ⟨b1, o1 + k, none⟩ = some (.int .u8 ((l[k]).toNat : Int)) ∧ w'.cell? ⟨b2, o2 + k, none⟩ = some (.int .u8 ((r[k]).toNat : Int)))
        (first
          | go_keep
          | (go_split_ands; refine ⟨?_, ?_⟩ <;> (rw [HO.out.far hgrow (by assumption) (by simp; omega)]; assumption)))
        ((refine step_app (by rfl) _ _ (by rfl) w.heap.size _ _ (by rfl) (OwnB.drew (HO.out.alloc _)) (wr.heap.size + 1) (some ⟨wr.heap.size, 0, none⟩) 1 1 [l[k] ^^^ r[k]] (by rfl) (by rfl) (Rd.drew (Rd.new wr (bs [l[k] ^^^ r[k]]) 5)) hsz (by simp; omega) ?_; intro v1 w1 hown1 hgrow hat))
      have hsh := hown1.shape
      have HO1 := Lib.hid hown1
      have HB1 := Lib.hid (Below.app ((HB.out.alloc hba (Obj.cells #[Value.int IntKind.u8 ((l[k].toNat ^^^ r[k].toNat : Nat) : Int)] 5)).drew) (OwnB.drew (HO.out.alloc _)) (Nat.le_refl _) hgrow)
      have HLT := Lib.hid (show (xorL (l.take k) (r.take k) ++ [l[k] ^^^ r[k]]).length = k + 1 by rw [List.length_append, HLEN.out]; rfl)
      rw [HLT.out] at hsh
      obtain ⟨a', c', rfl, _⟩ := hsh
      clear hown1 hgrow hat e1 HO
      go_wp2_with fail
      go_roundw
      case rel =>
        refine ⟨k + 1, by omega, by go_num, ⟨_, _, rfl⟩, ?_, HB1.out⟩
        rw [rxor_step hlt hlt2]
        exact HO1.out
      case measure => simp [intOf]; omega
    · go_wp2_with fail
      go_ret2
      have hk' : k = l.length := by omega
      subst hk'
      have h := HO.out
      rw [List.take_of_length_le (Nat.le_refl _), List.take_of_length_le (by rw [HLR.out]; exact Nat.le_refl _)] at h
      exact ⟨_, _, _, rfl, h, HB.out⟩

/-! ### the program's -/
set_option maxHeartbeats 400000 in
theorem each_xor (ba bb : Nat) (a1 a2 : Option Addr) (c1 c2 : Nat) (l r : List UInt8) (w : World) (h1 : w.cell? ⟨ba, 0, none⟩ = some (.slice a1 l.length c1)) (h2 : w.cell? ⟨bb, 0, none⟩ = some (.slice a2 l.length c2))
    (hlr : r.length = l.length) (hl : l.length ≤ 140737488351232) (hr1 : Rd w w.heap.size a1 (bs l)) (hr2 : Rd w w.heap.size a2 (bs r)) :
    Calls Try.prog 23 #[.int .i64 l.length, .func (.func 24) #[] #[.pointer (some ⟨ba, 0, none⟩), .pointer (some ⟨bb, 0, none⟩)]] w fun e w' =>
      e = .returned (.slice (some ⟨w.heap.size, 0, none⟩) l.length l.length) ∧ OwnB w' w.heap.size (.slice (some ⟨w.heap.size, 0, none⟩) l.length l.length) (xorL l r) ∧ Below w.heap.size w w' := by
  have HR1 := Lib.hid hr1
  have HR2 := Lib.hid hr2
  have HLR := Lib.hid hlr
  have HC1 := Lib.hid h1
  have HC2 := Lib.hid h2
  clear hr1 hr2 hlr h1 h2
  have hx : (xorL l r).length = l.length := xorL_length _ _ HLR.out.symm
  have HX := Lib.hid hx
  clear hx
  obtain ⟨i0, hi, hz0, hz1, hz2⟩ := info_parts info_u8
  have hb2 : i0.bytes * l.length ≤ 281474976710656 := by rw [hz2]; omega
  clear hz2
  go_enter Try.func23, Try.ntmps23
  go_wp2_with (at_make; refine wpList_make_full _ rfl _ _ _ rfl w.heap.size 5 i0 (.int .u8 0) 1 Try.underlying22 hi hz0 hz1 _ _ _ _ l.length rfl rfl rfl rfl hb2 (by unfold maxLen; omega) (Nat.le_refl _) ?_)
  intro w1 hown hgr
  have HO := Lib.hid hown
  have HBL := Lib.hid (below_grown hgr (Nat.le_refl _) (fun g h => by cases h))
  clear hown hgr
  go_wp2_with fail
  go_loopw [11] (fun i wr => ∃ (k : Nat) (L : List UInt8), k ≤ l.length ∧ i = .int .i64 k ∧ L.length = l.length ∧ L.take k = (xorL l r).take k ∧
      wr.ownsRow w.heap.size 5 1 (.slice (some ⟨w.heap.size, 0, none⟩) l.length l.length) l.length (bs L) ∧ Below w.heap.size w wr) (fun i _ => l.length - (intOf i).toNat)
  case atStart => exact ⟨0, List.replicate l.length 0, Nat.zero_le _, rfl, by simp, rfl, own_zero HO.out, HBL.out⟩
  case round =>
    clear HO HBL
    obtain ⟨k, L, hk, rfl, hL, ht, hown, hbl⟩ := hrel
    have HO := Lib.hid hown
    have HBL := Lib.hid hbl
    have HL := Lib.hid hL
    have HT := Lib.hid ht
    clear hL ht hown hbl
    by_cases hks : k < l.length
    · have hks2 : k < r.length := by rw [HLR.out]; exact hks
      have l1 := World.block_lt_of_cell? w _ HC1.out
      have l2 := World.block_lt_of_cell? w _ HC2.out
      have c1' : wr.cell? ⟨ba, 0, none⟩ = some (.slice a1 l.length c1) := (HBL.out.cell l1).trans HC1.out
      have c2' : wr.cell? ⟨bb, 0, none⟩ = some (.slice a2 l.length c2) := (HBL.out.cell l2).trans HC2.out
      have C := Lib.hid (xor1_any k ba bb a1 a2 _ _ _ _ l r wr c1' c2' rfl HLR.out hks hks2 (by omega) (by omega) (HR1.out.below HBL.out) (HR2.out.below HBL.out))
      clear l1 l2 c1' c2'
      go_wp2_with fail
      refine C.out.mono ?_
      rintro e w2 ⟨rfl, hb⟩
      have HO := Lib.hid (Own.below HO.out hb)
      have HBL := Lib.hid (HBL.out.trans (hb.mono HBL.out.size))
      obtain ⟨u0, hc⟩ := own_cell HO.out k hks
      have hf := HO.out.frozenAt k
      clear hb C
      go_wp2_with fail
      go_roundw
      case rel =>
        refine ⟨k + 1, L.set k (l[k] ^^^ r[k]), by omega, by go_num, by rw [List.length_set]; exact HL.out, ?_, ?_, HBL.out.setCell (Nat.le_refl _) _⟩
        · rw [take_set _ _ _ (by rw [HL.out]; exact hks), HT.out, List.take_succ_eq_append_getElem (by rw [HX.out]; exact hks), xorL_get l r k (by rw [HX.out]; exact hks) hks hks2]
        · rw [bs_set]
          have := (HO.out.stored k (B (l[k] ^^^ r[k]))).1
          simpa [B] using this
      case measure => simp [intOf]; omega
    · go_wp2_with fail
      go_ret
      have hk' : k = l.length := by omega
      subst hk'
      have h := HT.out
      rw [List.take_of_length_le (by rw [HL.out]; exact Nat.le_refl _), List.take_of_length_le (by rw [HX.out]; exact Nat.le_refl _)] at h
      rw [h] at HO
      refine ⟨rfl, ?_, HBL.out⟩
      unfold OwnB
      rw [HX.out]
      exact HO.out

theorem xor_bad (a1 a2 : Option Addr) (n1 c1 n2 c2 : Nat) (w : World) (h : n1 ≠ n2) :
    Calls Try.prog 18 #[.slice a1 n1 c1, .slice a2 n2 c2] w fun e w' => e = .returned (.tuple #[.slice none 0 0, .int .i64 1]) ∧ Below w.heap.size w w' := by
  have hd : ((n1 : Int) == (n2 : Int)) = false := by simp; omega
  go_enter Try.func18, Try.ntmps18
  go_wp2_with fail
  go_ret2
  exact ⟨rfl, ((Below.refl _ w).alloc (Nat.le_refl _) _).alloc (by simp) _⟩

set_option maxHeartbeats 400000 in
theorem xor_good (a1 a2 : Option Addr) (c1 c2 : Nat) (l r : List UInt8) (w : World) (hlr : r.length = l.length) (hl : l.length ≤ 140737488351232) (hr1 : Rd w w.heap.size a1 (bs l)) (hr2 : Rd w w.heap.size a2 (bs r)) :
    Calls Try.prog 18 #[.slice a1 l.length c1, .slice a2 l.length c2] w (XorPost l r w) := by
  have HR1 := Lib.hid hr1
  have HR2 := Lib.hid hr2
  have HLR := Lib.hid hlr
  have hmf : ∀ (fn : Fn) (first cap : Array Value) (w : World), (Instr.makeFunc fn first cap).run Try.prog w = .ok (.func fn first cap) w := fun _ _ _ _ => rfl
  clear hr1 hr2 hlr
  go_enter Try.func18, Try.ntmps18
  have hb : Below w.heap.size w ((w.alloc (Obj.cells #[Value.slice a1 l.length c1] 22)).alloc (Obj.cells #[Value.slice a2 l.length c2] 22)) := ((Below.refl _ w).alloc (Nat.le_refl _) _).alloc (by simp) _
  have g1 : ((w.alloc (Obj.cells #[Value.slice a1 l.length c1] 22)).alloc (Obj.cells #[Value.slice a2 l.length c2] 22)).cell? ⟨w.heap.size, 0, none⟩ = some (.slice a1 l.length c1) := by go_simp
  have g2 : ((w.alloc (Obj.cells #[Value.slice a1 l.length c1] 22)).alloc (Obj.cells #[Value.slice a2 l.length c2] 22)).cell? ⟨w.heap.size + 1, 0, none⟩ = some (.slice a2 l.length c2) := by go_simp
  have C := Lib.hid (each_xor w.heap.size (w.heap.size + 1) a1 a2 c1 c2 l r _ g1 g2 HLR.out hl (HR1.out.below hb).lt_size (HR2.out.below hb).lt_size)
  have HB := Lib.hid hb
  clear hb g1 g2
  go_wp2_with fail
  refine C.out.mono ?_
  rintro e w2 ⟨rfl, hown, hb⟩
  have HO := Lib.hid (hown.base HB.out.size)
  have HB2 := Lib.hid (HB.out.trans (hb.mono HB.out.size))
  clear hown hb C
  go_wp2_with fail
  go_ret2
  exact ⟨_, _, _, rfl, by simpa using HO.out, HB2.out⟩
end Go.Proofs.Ytnhfpjjmhanehaa
