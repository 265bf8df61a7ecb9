/- hmac: what it comes to; a hash that has taken the key in -/
import Derived.Test.YtlfchhnkchcjcaaDoorShaTwo
import Derived.Test.YtlfchhnkchcjcaaDoorMk
import Derived.Test.YtlfchhnkchcjcaaDoorCopy
namespace Go.Proofs.YtlfchhnkchcjcaaDoor
set_option linter.unusedVariables false
set_option linter.unusedSimpArgs false
open Go.RowKit

def xorBy (l : List UInt8) (y : UInt8) : List UInt8 := l.map (· ^^^ y)
def keyOf (key : List UInt8) : List UInt8 := if 64 < key.length then shaL key else key
def keyBlk (key : List UInt8) : List UInt8 := key ++ List.replicate (64 - key.length) 0
def padK (key : List UInt8) (y : UInt8) : List UInt8 := xorBy (keyBlk (keyOf key)) y
/-- The sum of bytes with a key. -/
def hmacL (key b : List UInt8) : List UInt8 := shaL (padK key 92 ++ shaL (padK key 54 ++ b))

theorem keyOf_length (key : List UInt8) : (keyOf key).length ≤ 64 := by
  unfold keyOf
  split
  · rw [shaL_length]; omega
  · omega
theorem keyBlk_length (key : List UInt8) (h : key.length ≤ 64) : (keyBlk key).length = 64 := by simp [keyBlk]; omega
theorem xorBy_length (l : List UInt8) (y : UInt8) : (xorBy l y).length = l.length := by simp [xorBy]
theorem hmacL_length (key b : List UInt8) : (hmacL key b).length = 32 := shaL_length _
theorem u8_xor_byte (x y : UInt8) : bits .xor .u8 (x.toNat : Int) (y.toNat : Int) = ((x ^^^ y).toNat : Int) := by
  rw [u8_xor_nat _ _ x.toNat_lt y.toNat_lt, UInt8.toNat_xor]
/-- k bytes are turned. -/
def partX (l : List UInt8) (y : UInt8) (k : Nat) : List UInt8 := xorBy (l.take k) y ++ l.drop k
theorem partX_length (l : List UInt8) (y : UInt8) (k : Nat) : (partX l y k).length = l.length := by simp [partX, xorBy]; omega
theorem partX_zero (l : List UInt8) (y : UInt8) : partX l y 0 = l := by simp [partX, xorBy]
theorem partX_all (l : List UInt8) (y : UInt8) (n : Nat) (h : l.length = n) : partX l y n = xorBy l y := by subst h; simp [partX]
theorem partX_get (l : List UInt8) (y : UInt8) (k : Nat) (h : k < l.length) : (bs (partX l y k))[k]? = some (.int .u8 ((l[k]).toNat : Int)) := by
  have hl : (xorBy (l.take k) y).length = k := by rw [xorBy_length, List.length_take]; omega
  rw [bs_get _ k (by rw [partX_length]; exact h)]
  have : (partX l y k)[k]'(by rw [partX_length]; exact h) = l[k] := by
    unfold partX
    rw [List.getElem_append_right (by omega)]
    simp [hl]
  rw [this]
theorem partX_set (l : List UInt8) (y : UInt8) (k : Nat) (h : k < l.length) : (partX l y k).set k (l[k] ^^^ y) = partX l y (k + 1) := by
  have hl : (xorBy (l.take k) y).length = k := by rw [xorBy_length, List.length_take]; omega
  unfold partX
  rw [List.set_append_right _ _ (by omega), hl, Nat.sub_self, List.take_succ_eq_append_getElem h, List.drop_eq_getElem_cons h]
  simp only [List.set_cons_zero]
  rw [xorBy, xorBy, List.map_append, List.append_assoc]
  rfl

set_option maxHeartbeats 1000000 in
theorem begun_any (y : UInt8) (bx : Nat) (a : Option Addr) (n c : Nat) (key : List UInt8) (w : World) (hcell : w.cell? ⟨bx, 0, none⟩ = some (.slice a n c)) (hl : key.length = n) (h64 : n ≤ 64) (hr : Rd w w.heap.size a (bs key)) (hk : KOK w) :
    Calls Tryd.prog 32 #[.int .u8 (y.toNat : Int), .pointer (some ⟨bx, 0, none⟩)] w fun e w' =>
      ∃ g r, e = .returned (.pointer (some ⟨g, 0, none⟩)) ∧ IsHash w' g r 0 (xorBy (keyBlk key) y) ∧ w.heap.size ≤ g ∧ (∀ x, r = some x → g < x) ∧ Below w.heap.size w w' := by
  have hbx : bx < w.heap.size := World.block_lt_of_cell? w _ hcell
  have HR := Lib.hid hr
  have HL := Lib.hid hl
  have HK := Lib.hid hk
  clear hr hl hk
  go_enter Tryd.func32, Tryd.ntmps32
  go_wp2_with (refine wpList_makeB _ rfl _ _ rfl .i64 .i64 64 64 64 rfl rfl rfl rfl (by omega) ?_)
  intro w1 hown1 hgr1
  have hb1 : Below w.heap.size w w1 := (Below.refl _ _).grown hgr1 (Nat.le_refl _) (fun _ h => by cases h)
  have hc1 : w1.cell? ⟨bx, 0, none⟩ = some (.slice a n c) := (hb1.cell (p := ⟨bx, 0, none⟩) hbx).trans hcell
  have HO1 : Hid (OwnB w1 w.heap.size (.slice (some ⟨w.heap.size, 0, none⟩) (zeros 64).length 64) (zeros 64)) := Lib.hid hown1
  have HB1 := Lib.hid hb1
  have HR1 := Lib.hid (HR.out.below hb1)
  clear hown1 hgr1 hb1
  have hz : (zeros 64).length = 64 := rfl
  have HM : Hid (key.length = Nat.min n 64) := Lib.hid (by rw [HL.out]; exact (Nat.min_eq_left h64).symm)
  have HF : Hid (0 + key.length ≤ (zeros 64).length) := Lib.hid (by rw [HL.out, hz]; omega)
  go_wp2_with ((with_reducible show wpList _ _ _ _ _ _); (refine wpList_copyB rfl (.tmp 8) (.tmp 9) _ _ rfl Tryd.underlying22 (some ⟨w.heap.size, 0, none⟩) a 64 64 n c rfl rfl w.heap.size w.heap.size 0 64 (zeros 64) HO1.out 0 key HM.out HF.out (fun _ => rfl) HR1.out ?_))
  intro w2 hown2 hgr2
  have hov : overlay (zeros 64) 0 key = keyBlk key := by
    rw [overlay, keyBlk, List.take_zero, List.nil_append, Nat.zero_add, HL.out, zeros, List.drop_replicate]
  rw [hov] at hown2
  have HKL : Hid ((keyBlk key).length = 64) := Lib.hid (keyBlk_length key (by rw [HL.out]; exact h64))
  have HB2 : Hid (Below w.heap.size w w2) := Lib.hid (HB1.out.grown hgr2 HB1.out.size (fun z hz => by injection hz with hz; omega))
  have HO2 : Hid (OwnB w2 w.heap.size (.slice (some ⟨w.heap.size, 0, none⟩) 64 64) (keyBlk key)) := Lib.hid hown2
  obtain ⟨L, hL⟩ : ∃ L, keyBlk key = L := ⟨_, rfl⟩
  rw [hL] at HKL HO2
  have HLL := Lib.hid hL
  clear hown2 hgr2 hov HM HF HR1 HO1 HB1 hc1 hL
  go_wp2_with fail
  go_loopw [13] (fun v wr => ∃ k : Nat, k ≤ 64 ∧ v = .int .i64 k ∧ OwnB wr w.heap.size (.slice (some ⟨w.heap.size, 0, none⟩) 64 64) (partX L y k) ∧ Below w.heap.size w wr) (fun v _ => 64 - (intOf v).toNat)
  case atStart => exact ⟨0, by omega, rfl, by rw [partX_zero]; exact HO2.out, HB2.out⟩
  case round =>
    clear HO2 HB2
    obtain ⟨k, hk, rfl, hown, hb⟩ := hrel
    have hPL : (partX L y k).length = 64 := by rw [partX_length, HKL.out]
    have HPL := Lib.hid hPL
    have HOW := Lib.hid hown
    have HBW := Lib.hid hb
    by_cases hk64 : k < 64
    · have hkl : k < L.length := by rw [HKL.out]; exact hk64
      have hOG : OwnG wr w.heap.size 5 1 (.slice (some ⟨w.heap.size, 0, none⟩) 64 64) 64 (bs (partX L y k)) := by
        have h0 := hown
        unfold OwnB at h0
        rw [hPL] at h0
        exact h0
      have hfr := hOG.frozenAt k (by omega)
      have hce := hOG.cellAt k _ (partX_get L y k hkl)
      rw [Nat.zero_add] at hfr hce
      have hkI : (k : Int) < 64 := by omega
      have hk0 : (0 : Int) ≤ (k : Int) := Int.natCast_nonneg k
      obtain ⟨z, hzz⟩ : ∃ z, L[k] = z := ⟨_, rfl⟩
      rw [hzz] at hce
      have HSET : Hid ((partX L y k).set k (z ^^^ y) = partX L y (k + 1)) := Lib.hid (by rw [← hzz]; exact partX_set L y k hkl)
      have E1 := Lib.hid (u8_xor_byte z y)
      have HOG := Lib.hid hOG
      clear hown hb hPL hOG hzz hkl
      go_wp2_with fail
      all_goals go_roundw
      all_goals first
        | (case measure => simp [intOf]; omega)
        | (rw [E1.out]
           have hst : OwnB (wr.setCell ⟨w.heap.size, k, none⟩ (.int .u8 ((z ^^^ y).toNat : Int))) w.heap.size (.slice (some ⟨w.heap.size, 0, none⟩) 64 64) (partX L y (k + 1)) := by
             rw [← HSET.out]
             unfold OwnB
             rw [List.length_set, HPL.out, bs_set]
             have h0 := OwnG.stored HOG.out k (B (z ^^^ y)) (by rw [bs_length, HPL.out]; exact hk64)
             rw [Nat.zero_add] at h0
             exact h0
           exact ⟨k + 1, hk64, by go_num, hst, HBW.out.setCell (Nat.le_refl _) _⟩)
    · have hke : k = 64 := by omega
      subst hke
      rw [partX_all L y 64 HKL.out] at hown
      have HXL : Hid ((xorBy L y).length = 64) := Lib.hid (by rw [xorBy_length, HKL.out])
      have HOW2 := Lib.hid hown
      have hsz := hb.size
      have hlt := (OwnG.lt hown w.heap.size rfl).2
      clear hown hb hPL HPL HOW
      go_wp2_with fail
      refine (new_any wr).mono ?_
      rintro e w5 ⟨rfl, hH, hb5, hs5⟩
      have HB5 := Lib.hid (HBW.out.trans (hb5.mono hsz))
      have hO5 := OwnG.below HOW2.out hb5
      have HW := Lib.hid (write_any wr.heap.size none 0 [] (xorBy L y) (some ⟨w.heap.size, 0, none⟩) 64 64 w5 hH (Nat.zero_le _) HXL.out (Nat.le_refl _) (by omega)
        (by have h := hO5; have h2 : OwnB w5 w.heap.size (.slice (some ⟨w.heap.size, 0, none⟩) 64 64) (xorBy L y) := h; exact OwnB.rd h2) (.inr fun ad had => by injection had with had; subst had; exact ⟨by show w.heap.size ≠ wr.heap.size; omega, by simp⟩) (HK.out.below HB5.out))
      clear hH hb5 hO5
      go_wp2_with fail
      refine HW.out.mono ?_
      rintro e w6 ⟨rfl, ⟨r6, hh6, hr6⟩, hbut⟩
      rw [List.nil_append, ← HLL.out] at hh6
      have hfr := hbut.fresh HB5.out (Nat.le_refl _) hsz (fun x hx => by cases hx)
      clear HW HOW2
      go_wp2_with fail
      go_ret
      refine ⟨_, r6, rfl, hh6, hsz, fun x hx => ?_, hfr⟩
      rcases hr6 with h | ⟨q, h, hq⟩
      · rw [h] at hx; cases hx
      · rw [h] at hx; injection hx with hx; omega
end Go.Proofs.YtlfchhnkchcjcaaDoor
