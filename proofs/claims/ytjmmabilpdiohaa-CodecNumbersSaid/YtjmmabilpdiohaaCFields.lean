/- CodecFields: the walk -/
import Derived.Test.YtjmmabilpdiohaaCAlive
import Derived.Test.YtjmmabilpdiohaaFr
namespace Go.Proofs.Ytjmmabilpdiohaa
set_option linter.unusedVariables false
set_option linter.unusedSimpArgs false
open Go.RowKit

abbrev PlaceTy : Ty := .st (.pair (.bytes) (.pair (.int .i64) (.pair (.int .i64) (.unit))))

theorem place_open (cs : Array Value) (x : PlaceTy.den) (w : World) (h : PlaceTy.reads w (Value.agg cs).cells.toList x) :
    ∃ (ad : Option Addr) (cd : Nat) (B : List UInt8) (I S : Int), cs = #[.slice ad B.length cd, .int .i64 I, .int .i64 S] ∧ BytesIn w ad B.length cd B ∧ (-9223372036854775808 ≤ I ∧ I ≤ 9223372036854775807) ∧ (-9223372036854775808 ≤ S ∧ S ≤ 9223372036854775807) := by
  obtain ⟨B, I, S, u⟩ := x
  obtain ⟨ad, nd, cd, cs1, hc1, hD, h⟩ := reads_bytes h
  obtain ⟨cs2, hc2, hI, h⟩ := reads_int h
  obtain ⟨cs3, hc3, hS, h⟩ := reads_int h
  have h3 : cs3 = [] := h
  subst h3; subst hc3; subst hc2
  have hnd : List.length B = nd := hD.len_eq
  subst hnd
  exact ⟨ad, cd, B, I, S, toArray_of hc1, hD, bounds_i64 hI, bounds_i64 hS⟩

set_option maxRecDepth 100000 in
set_option maxHeartbeats 4000000 in
theorem law_CodecFields (cs : Array Value) (x : PlaceTy.den) (a1 : Option Addr) (n1 c1 : Nat) (f : List UInt8) (v : Int) (w : World) (h : PlaceTy.reads w (Value.agg cs).cells.toList x) (hf : BytesIn w a1 n1 c1 f) (hv : (Lit.int .i64 v).wf = true) :
    Calls Try.prog 4 #[.agg cs, .slice a1 n1 c1, .int .i64 v] w fun e w' => e = .returned (.bool true) ∧ Below w.heap.size w w' := by
  obtain ⟨ad, cd, B, I, S, rfl, hD, hI, hS⟩ := place_open cs x w h
  have hvb := bounds_i64 hv
  have HD := Lib.hid hD
  have HF := Lib.hid hf
  clear hD h x hv hf
  have hsm := HD.out.small
  have hle := HD.out.le_cap
  have hfs := HF.out.small
  have hfl := HF.out.le_cap
  go_enter Try.func4, Try.ntmps4
  go_upto_region 1 with (fail)
  have c0 : (w.alloc (Obj.cells #[.slice ad B.length cd, .int .i64 I, .int .i64 S] 24)).cell? ⟨w.heap.size, 0, none⟩ = some (.slice ad B.length cd) := by go_simp
  have c1' : (w.alloc (Obj.cells #[.slice ad B.length cd, .int .i64 I, .int .i64 S] 24)).cell? ⟨w.heap.size, 1, none⟩ = some (.int .i64 I) := by go_simp
  have c2 : (w.alloc (Obj.cells #[.slice ad B.length cd, .int .i64 I, .int .i64 S] 24)).cell? ⟨w.heap.size, 2, none⟩ = some (.int .i64 S) := by go_simp
  have HB0 := Lib.hid ((Below.refl w.heap.size w).alloc (Nat.le_refl _) (Obj.cells #[.slice ad B.length cd, .int .i64 I, .int .i64 S] 24))
  have hs0 : w.heap.size < (w.alloc (Obj.cells #[.slice ad B.length cd, .int .i64 I, .int .i64 S] 24)).heap.size := by simp
  generalize w.alloc (Obj.cells #[.slice ad B.length cd, .int .i64 I, .int .i64 S] 24) = W0 at c0 c1' c2 HB0 hs0 ⊢
  have L1 := Lib.hid (OwnB.lit0 W0)
  have R1 := Lib.hid ((HD.out.rd.below HB0.out).alloc (Nat.le_of_lt hs0) (Obj.cells #[] 5))
  go_wp2_with (at_builtin; refine wpList_app rfl _ _ rfl W0.heap.size _ [] rfl L1.out w.heap.size _ _ cd B rfl rfl R1.out (by simp; omega) (by simp) ?_)
  intro v1 w1 hown1 hgr1 hat1
  have hb1 : Below W0.heap.size W0 w1 := below_app ((Below.refl _ W0).alloc (Nat.le_refl _) _) L1.out (Nat.le_refl _) hgr1
  have hown1 : OwnB w1 W0.heap.size v1 B := by simpa using hown1
  obtain ⟨ao, co, rfl, hco⟩ := hown1.shape
  have hz1 := hb1.size
  have HBW := Lib.hid (HB0.out.trans (hb1.mono (Nat.le_of_lt hs0)))
  have ST := Lib.hid (fun (W : World) (hW : Below w1.heap.size w1 W) => (show W.cell? ⟨w.heap.size, 0, none⟩ = some (.slice ad B.length cd) ∧ W.cell? ⟨w.heap.size, 1, none⟩ = some (.int .i64 I) ∧ W.cell? ⟨w.heap.size, 2, none⟩ = some (.int .i64 S) from by
    have T : ∀ (k : Nat) (u : Value), W0.cell? ⟨w.heap.size, k, none⟩ = some u → W.cell? ⟨w.heap.size, k, none⟩ = some u := fun k u hu => by
      rw [hW.cell (show w.heap.size < w1.heap.size by omega), hb1.cell (by exact hs0)]; exact hu
    exact ⟨T _ _ c0, T _ _ c1', T _ _ c2⟩))
  have SB := Lib.hid (fun (W : World) (hW : Below w1.heap.size w1 W) => ((HD.out.rd.below HBW.out).lt_size.below hW).lt_size)
  have SO := Lib.hid (fun (W : World) (hW : Below w1.heap.size w1 W) => ((OwnB.rd hown1).below hW).lt_size)
  have SF := Lib.hid (fun (W : World) (hW : Below w1.heap.size w1 W) => ((HF.out.rd.below HBW.out).lt_size.below hW).lt_size)
  have HFN := Lib.hid HF.out.len_eq
  have hNW : w.heap.size < w1.heap.size := by omega
  have HBC := Lib.hid (Below.refl w1.heap.size w1)
  clear c0 c1' c2 L1 R1 hown1 hgr1 hat1 hb1 HB0 hs0 hz1 HD HF hsm
  generalize hN : w.heap.size = N at *
  obtain ⟨k0, k1, k2⟩ := ST.out _ HBC.out
  go_wp2_with fail
  clear k0 k1 k2
  refine (field_any ao _ co B I S _ rfl hco (SO.out _ HBC.out)).mono ?_
  rintro e wa ⟨xaa, xna, xca, rfl, hown, hb⟩
  have HRa := Lib.hid (OwnB.rd hown)
  have HLa := Lib.hid (OwnB.len hown)
  clear hown
  have HBC := Lib.hid (HBC.out.trans (hb.mono HBC.out.size))
  clear hb
  obtain ⟨k0, k1, k2⟩ := ST.out _ HBC.out
  go_wp2_with fail
  clear k0 k1 k2
  refine (rfield_any ad _ cd B I S _ rfl hle (SB.out _ HBC.out)).mono ?_
  rintro e wb ⟨xab, xnb, xcb, rfl, hown, hb⟩
  have HRb := Lib.hid (OwnB.rd hown)
  have HLb := Lib.hid (OwnB.len hown)
  clear hown
  have HRa := Lib.hid (HRa.out.below hb).lt_size
  have HBC := Lib.hid (HBC.out.trans (hb.mono HBC.out.size))
  clear hb
  obtain ⟨k0, k1, k2⟩ := ST.out _ HBC.out
  go_wp2_with fail
  clear k0 k1 k2
  refine (setfield_any ao _ co B I a1 n1 c1 f _ rfl hco (SO.out _ HBC.out) HFN.out (SF.out _ HBC.out) (by omega)).mono ?_
  rintro e wc ⟨xac, xnc, xcc, rfl, hown, hb⟩
  have HRc := Lib.hid (OwnB.rd hown)
  have HLc := Lib.hid (OwnB.len hown)
  clear hown
  have HRa := Lib.hid (HRa.out.below hb).lt_size
  have HRb := Lib.hid (HRb.out.below hb).lt_size
  have HBC := Lib.hid (HBC.out.trans (hb.mono HBC.out.size))
  clear hb
  obtain ⟨k0, k1, k2⟩ := ST.out _ HBC.out
  go_wp2_with fail
  clear k0 k1 k2
  refine (rsetfield_any ad _ cd B I a1 n1 c1 f _ rfl hle (SB.out _ HBC.out) HFN.out (SF.out _ HBC.out) (by omega)).mono ?_
  rintro e wd ⟨xad, xnd, xcd, rfl, hown, hb⟩
  have HRd := Lib.hid (OwnB.rd hown)
  have HLd := Lib.hid (OwnB.len hown)
  clear hown
  have HRa := Lib.hid (HRa.out.below hb).lt_size
  have HRb := Lib.hid (HRb.out.below hb).lt_size
  have HRc := Lib.hid (HRc.out.below hb).lt_size
  have HBC := Lib.hid (HBC.out.trans (hb.mono HBC.out.size))
  clear hb
  obtain ⟨k0, k1, k2⟩ := ST.out _ HBC.out
  go_wp2_with fail
  clear k0 k1 k2
  refine (number_any ao _ co B I _ rfl hco (SO.out _ HBC.out)).mono ?_
  rintro e wp ⟨rfl, hb⟩
  have HRa := Lib.hid (HRa.out.below hb).lt_size
  have HRb := Lib.hid (HRb.out.below hb).lt_size
  have HRc := Lib.hid (HRc.out.below hb).lt_size
  have HRd := Lib.hid (HRd.out.below hb).lt_size
  have HBC := Lib.hid (HBC.out.trans (hb.mono HBC.out.size))
  clear hb
  obtain ⟨k0, k1, k2⟩ := ST.out _ HBC.out
  go_wp2_with fail
  clear k0 k1 k2
  refine (rnumber_any ad _ cd B I _ rfl hle (SB.out _ HBC.out)).mono ?_
  rintro e wq ⟨rfl, hb⟩
  have HRa := Lib.hid (HRa.out.below hb).lt_size
  have HRb := Lib.hid (HRb.out.below hb).lt_size
  have HRc := Lib.hid (HRc.out.below hb).lt_size
  have HRd := Lib.hid (HRd.out.below hb).lt_size
  have HBC := Lib.hid (HBC.out.trans (hb.mono HBC.out.size))
  clear hb
  obtain ⟨k0, k1, k2⟩ := ST.out _ HBC.out
  go_wp2_with fail
  clear k0 k1 k2
  refine (setnumber_any ao _ co B I v _ rfl hco (SO.out _ HBC.out) hvb).mono ?_
  rintro e wr ⟨xar, xnr, xcr, rfl, hown, hb⟩
  have HRr := Lib.hid (OwnB.rd hown)
  have HLr := Lib.hid (OwnB.len hown)
  clear hown
  have HRa := Lib.hid (HRa.out.below hb).lt_size
  have HRb := Lib.hid (HRb.out.below hb).lt_size
  have HRc := Lib.hid (HRc.out.below hb).lt_size
  have HRd := Lib.hid (HRd.out.below hb).lt_size
  have HBC := Lib.hid (HBC.out.trans (hb.mono HBC.out.size))
  clear hb
  obtain ⟨k0, k1, k2⟩ := ST.out _ HBC.out
  go_wp2_with fail
  clear k0 k1 k2
  refine (rsetnumber_any ad _ cd B I v _ rfl hle (SB.out _ HBC.out) hvb).mono ?_
  rintro e wu ⟨xau, xnu, xcu, rfl, hown, hb⟩
  have HRu := Lib.hid (OwnB.rd hown)
  have HLu := Lib.hid (OwnB.len hown)
  clear hown
  have HRa := Lib.hid (HRa.out.below hb).lt_size
  have HRb := Lib.hid (HRb.out.below hb).lt_size
  have HRc := Lib.hid (HRc.out.below hb).lt_size
  have HRd := Lib.hid (HRd.out.below hb).lt_size
  have HRr := Lib.hid (HRr.out.below hb).lt_size
  have HBC := Lib.hid (HBC.out.trans (hb.mono HBC.out.size))
  clear hb
  go_wp2_with fail
  refine (same_any _ _ _ _ _ _ _ _ _ HLa.out HLb.out HRa.out HRb.out).mono ?_
  rintro e wz ⟨rfl, rfl⟩
  go_wp2_with fail
  refine (same_any _ _ _ _ _ _ _ _ _ HLc.out HLd.out HRc.out HRd.out).mono ?_
  rintro e wz ⟨rfl, rfl⟩
  go_wp2_with fail
  refine (same_any _ _ _ _ _ _ _ _ _ HLr.out HLu.out HRr.out HRu.out).mono ?_
  rintro e wz ⟨rfl, rfl⟩
  obtain ⟨k0, k1, k2⟩ := ST.out _ HBC.out
  go_wp2_with fail
  clear k0 k1 k2
  refine (same_any _ _ _ _ _ _ _ _ _ rfl rfl (SO.out _ HBC.out) (SB.out _ HBC.out)).mono ?_
  rintro e wz ⟨rfl, rfl⟩
  go_wp2_with fail
  refine (calive_any _).mono ?_
  rintro e wz ⟨rfl, hb⟩
  have HBC := Lib.hid (HBC.out.trans (hb.mono HBC.out.size))
  clear hb
  go_wp2_with fail
  go_ret
  refine ⟨by simp, ?_⟩
  rw [hN]
  exact HBW.out.trans (HBC.out.mono (Nat.le_of_lt hNW))
end Go.Proofs.Ytjmmabilpdiohaa
