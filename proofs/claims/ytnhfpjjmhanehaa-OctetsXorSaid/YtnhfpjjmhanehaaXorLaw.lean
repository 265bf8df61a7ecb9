/- OctetsXor: the walk -/
import Derived.Test.YtnhfpjjmhanehaaOctLaws
import Derived.Test.YtnhfpjjmhanehaaXor
namespace Go.Proofs.Ytnhfpjjmhanehaa
set_option linter.unusedVariables false
set_option linter.unusedSimpArgs false
open Go.RowKit

theorem xorL_back (l r : List UInt8) (h : r.length = l.length) : xorL (xorL l r) r = l := by
  apply List.ext_getElem
  · rw [xorL_length _ _ (by rw [xorL_length _ _ h.symm, h]), xorL_length _ _ h.symm]
  · intro i h1 h2
    rw [xorL_get _ _ _ _ (by rw [xorL_length _ _ h.symm]; exact h2) (by omega), xorL_get _ _ _ _ h2 (by omega)]
    refine UInt8.toNat_inj.1 ?_
    simp [Nat.xor_assoc]

set_option maxHeartbeats 1000000 in
theorem law_OctetsXor (a1 : Option Addr) (n1 c1 : Nat) (l : List UInt8) (a2 : Option Addr) (n2 c2 : Nat) (r : List UInt8) (w : World) (h1 : BytesIn w a1 n1 c1 l) (h2 : BytesIn w a2 n2 c2 r) :
    Calls Try.prog 7 #[.slice a1 n1 c1, .slice a2 n2 c2] w fun e w' => e = .returned (.bool true) ∧ Below w.heap.size w w' := by
  by_cases h : n1 = n2
  · subst h
    have hl1 := h1.len_eq
    subst hl1
    have hs := h1.small
    have hc := h1.le_cap
    have HR1 := Lib.hid h1.rd
    have HR2 := Lib.hid h2.rd
    have HL := Lib.hid h2.len_eq
    have HXL := Lib.hid (xorL_length l r HL.out.symm)
    have HXB := Lib.hid (xorL_back l r HL.out)
    clear h1 h2
    go_enter Try.func7, Try.ntmps7
    go_wp2_with fail
    refine (xor_good a1 a2 c1 c2 l r _ HL.out (by omega) HR1.out HR2.out).mono ?_
    rintro e w1 ⟨a3, n3, c3, rfl, hown1, hb1⟩
    have hn3 := hown1.len
    rw [HXL.out] at hn3
    subst hn3
    have HO1 := Lib.hid hown1
    have HB1 := Lib.hid hb1
    clear hown1 hb1
    go_wp2_with fail
    refine (rxor_good a1 a2 c1 c2 l r _ HL.out (by omega) (HR1.out.below HB1.out).lt_size (HR2.out.below HB1.out).lt_size).mono ?_
    rintro e w2 ⟨a4, n4, c4, rfl, hown2, hb2⟩
    have HO2 := Lib.hid hown2
    have HO1 := Lib.hid (HO1.out.below hb2)
    have HB2 := Lib.hid (HB1.out.trans (hb2.mono HB1.out.size))
    clear hown2 hb2 HB1
    go_wp2_with fail
    refine (same_any _ _ _ _ _ _ (xorL l r) (xorL l r) _ HO1.out.len HO2.out.len HO1.out.rd HO2.out.rd).mono ?_
    rintro e w3 ⟨rfl, rfl⟩
    rw [beq_self_eq_true]
    clear HO2
    go_wp2_with fail
    have C3 := xor_good a3 a2 c3 c2 (xorL l r) r w2 (by rw [HL.out, HXL.out]) (by rw [HXL.out]; omega) HO1.out.rd (HR2.out.below HB2.out).lt_size
    rw [HXL.out] at C3
    refine C3.mono ?_
    rintro e w4 ⟨a5, n5, c5, rfl, hown3, hb3⟩
    rw [HXB.out] at hown3
    have HO3 := Lib.hid hown3
    have HB3 := Lib.hid (HB2.out.trans (hb3.mono HB2.out.size))
    clear hown3 hb3 HO1 C3
    go_wp2_with fail
    refine (same_any _ _ _ _ _ _ l l _ HO3.out.len rfl HO3.out.rd (HR1.out.below HB3.out)).mono ?_
    rintro e w5 ⟨rfl, rfl⟩
    rw [beq_self_eq_true]
    go_wp2_with fail
    refine (alive_any _).mono ?_
    rintro e w6 ⟨rfl, hb⟩
    have HB := Lib.hid (HB3.out.trans (hb.mono HB3.out.size))
    clear hb
    go_wp2_with fail
    go_ret
    exact ⟨rfl, HB.out⟩
  · go_enter Try.func7, Try.ntmps7
    go_wp2_with fail
    refine (xor_bad a1 a2 n1 c1 n2 c2 _ h).mono ?_
    rintro e w1 ⟨rfl, hb1⟩
    go_wp2_with fail
    refine (rxor_bad a1 a2 n1 c1 n2 c2 _ h).mono ?_
    rintro e w2 ⟨rfl, rfl⟩
    go_wp2_with fail
    refine (same_any none none 0 0 0 0 [] [] _ rfl rfl (.nil (Bd := 0)) (.nil (Bd := 0))).mono ?_
    rintro e w3 ⟨rfl, rfl⟩
    rw [beq_self_eq_true]
    go_wp2_with fail
    refine (alive_any _).mono ?_
    rintro e w6 ⟨rfl, hb⟩
    have HB := Lib.hid (hb1.trans (hb.mono hb1.size))
    clear hb hb1
    go_wp2_with fail
    go_ret
    exact ⟨rfl, HB.out⟩
end Go.Proofs.Ytnhfpjjmhanehaa
