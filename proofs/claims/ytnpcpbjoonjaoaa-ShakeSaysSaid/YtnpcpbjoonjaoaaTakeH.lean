/- wire.TakeHeader -/
import Derived.Test.YtnpcpbjoonjaoaaTakeO
namespace Go.Proofs.Ytnpcpbjoonjaoaa
set_option linter.unusedVariables false
set_option linter.unusedSimpArgs false
open Go.RowKit

def magicH : List UInt8 := [37, 96, 149, 19]
/-- A request's header: flags, kind, cookie, place, length. -/
structure Hdr where
  (fl ty ck at_ len : Nat)
/-- A header that is taken: how many bytes, the error. -/
def hdrR (b : List UInt8) : Hdr × Nat × Int :=
  if beginsB b magicH = false then (⟨0, 0, 0, 0, 0⟩, 0, 201)
  else if b.length < 28 then (⟨0, 0, 0, 0, 0⟩, 0, 0)
  else (⟨numOf ((b.drop 4).take 2), numOf ((b.drop 6).take 2), numOf ((b.drop 8).take 8), numOf ((b.drop 16).take 8), numOf ((b.drop 24).take 4)⟩, 28, 0)
def Hdr.val (h : Hdr) : Value := .agg #[.int .i64 h.fl, .int .i64 h.ty, .int .u64 h.ck, .int .u64 h.at_, .int .i64 h.len]

def HdrPost (r : Hdr × Nat × Int) (w : World) (e : Ending) (w' : World) : Prop :=
  e = .returned (.tuple #[r.1.val, .int .i64 r.2.1, .int .i64 r.2.2]) ∧ Below w.heap.size w w'

theorem num2_lt (l : List UInt8) : numOf (l.take 2) < 65536 := by
  have h1 := numOf_lt (l.take 2)
  have h2 : 256 ^ (l.take 2).length ≤ 256 ^ 2 := Nat.pow_le_pow_right (by omega) (by simp; omega)
  omega

set_option maxRecDepth 100000 in
set_option maxHeartbeats 2000000 in
theorem takeHdr_any (a : Option Addr) (n c : Nat) (b : List UInt8) (w : World) (hn : b.length = n) (hc : n ≤ c) (hc2 : c ≤ 9223372036854775807) (hr : Rd w w.heap.size a (bs b)) :
    Calls Try.prog 27 #[.slice a n c] w (HdrPost (hdrR b) w) := by
  subst hn
  have HR := Lib.hid hr
  clear hr
  have HA := Lib.hid (begins_any a b.length c b ⟨#[37, 96, 149, 19]⟩ (w.alloc (.cells #[.int .i64 0, .int .i64 0, .int .u64 0, .int .u64 0, .int .i64 0] 41)) rfl hc (by decide) (HR.out.alloc (Nat.le_refl _) _))
  have hB0 := (Below.refl w.heap.size w).alloc (Nat.le_refl _) (.cells #[.int .i64 0, .int .i64 0, .int .u64 0, .int .u64 0, .int .i64 0] 41)
  go_enter Try.func27, Try.ntmps27
  go_wp2_with fail
  refine HA.out.mono ?_
  rintro e w' ⟨rfl, rfl⟩
  clear HA
  cases hb : beginsB b magicH with
  | false =>
    have HF : Hid (hdrR b = (⟨0, 0, 0, 0, 0⟩, 0, 201)) := Lib.hid (by rw [hdrR, if_pos hb])
    have hb' : beginsB b [37, 96, 149, 19] = false := hb
    rw [hb']
    clear hb hb'
    go_wp2_with fail
    refine bodyPost_ret (v := .tuple #[.agg #[.int .i64 0, .int .i64 0, .int .u64 0, .int .u64 0, .int .i64 0], .int .i64 0, .int .i64 201]) (by simp [results, Try.results27, go_sem]) rfl ?_
    rw [HF.out]
    exact ⟨rfl, hB0⟩
  | true =>
    have hb' : beginsB b [37, 96, 149, 19] = true := hb
    rw [hb']
    clear hb'
    by_cases h28 : b.length < 28
    · have HF : Hid (hdrR b = (⟨0, 0, 0, 0, 0⟩, 0, 0)) := Lib.hid (by rw [hdrR, if_neg (by rw [hb]; simp), if_pos h28])
      have h28' : (b.length : Int) < 28 := by omega
      clear hb
      go_wp2_with fail
      refine bodyPost_ret (v := .tuple #[.agg #[.int .i64 0, .int .i64 0, .int .u64 0, .int .u64 0, .int .i64 0], .int .i64 0, .int .i64 0]) (by simp [results, Try.results27, go_sem]) rfl ?_
      rw [HF.out]
      exact ⟨rfl, hB0⟩
    · have h28' : ¬ (b.length : Int) < 28 := by omega
      have HF : Hid (hdrR b = (⟨numOf ((b.drop 4).take 2), numOf ((b.drop 6).take 2), numOf ((b.drop 8).take 8), numOf ((b.drop 16).take 8), numOf ((b.drop 24).take 4)⟩, 28, 0)) := Lib.hid (by rw [hdrR, if_neg (by rw [hb]; simp), if_neg h28])
      have hne : ¬ c = 4 := by omega
      have h4c : (4 : Int) ≤ (b.length : Int) := by omega
      clear hb
      obtain ⟨bb, ob, rfl, hbb, _⟩ := HR.out.byte 0 (by omega)
      go_wp2_with fail
      obtain ⟨W2, hW2⟩ : ∃ W2, W2 = ((w.alloc (Obj.cells #[Value.int IntKind.i64 0, Value.int IntKind.i64 0, Value.int IntKind.u64 0, Value.int IntKind.u64 0, Value.int IntKind.i64 0] 41)).alloc (Obj.cells #[Value.slice (some ⟨bb, ob + 4, none⟩) (b.length - 4) (c - 4)] 78)) := ⟨_, rfl⟩
      have k0 : W2.cell? ⟨w.heap.size, 0, none⟩ = some (.int .i64 0) := by rw [hW2]; go_simp
      have f0 : W2.frozen? ⟨w.heap.size, 0, none⟩ = false := by rw [hW2]; go_simp
      have k1 : W2.cell? ⟨w.heap.size, 1, none⟩ = some (.int .i64 0) := by rw [hW2]; go_simp
      have f1 : W2.frozen? ⟨w.heap.size, 1, none⟩ = false := by rw [hW2]; go_simp
      have k2 : W2.cell? ⟨w.heap.size, 2, none⟩ = some (.int .u64 0) := by rw [hW2]; go_simp
      have f2 : W2.frozen? ⟨w.heap.size, 2, none⟩ = false := by rw [hW2]; go_simp
      have k3 : W2.cell? ⟨w.heap.size, 3, none⟩ = some (.int .u64 0) := by rw [hW2]; go_simp
      have f3 : W2.frozen? ⟨w.heap.size, 3, none⟩ = false := by rw [hW2]; go_simp
      have k4 : W2.cell? ⟨w.heap.size, 4, none⟩ = some (.int .i64 0) := by rw [hW2]; go_simp
      have f4 : W2.frozen? ⟨w.heap.size, 4, none⟩ = false := by rw [hW2]; go_simp
      have s2 : W2.heap.size = w.heap.size + 1 + 1 := by rw [hW2]; simp
      have HB2 : Hid (Below w.heap.size w W2) := Lib.hid (by rw [hW2]; exact hB0.alloc (by simp) _)
      have HRS : Hid (RS W2 w.heap.size (w.heap.size + 1) (b.drop 4)) := Lib.hid ⟨some ⟨bb, ob + 4, none⟩, c - 4, by rw [hW2, List.length_drop]; go_simp, by rw [hW2]; go_simp, by rw [List.length_drop]; omega, by omega, by rw [bs_drop]; exact ((HR.out.drop 4).below HB2.out), by omega, by omega⟩
      rw [← hW2]
      clear hW2 hB0
      have HLEN := Lib.hid (List.length_drop (l := b) (i := 4))
      refine (rtake2 HRS.out (by rw [List.length_drop]; omega)).mono ?_
      rintro e w3 ⟨rfl, hrs, hbut⟩
      rw [List.drop_drop] at hrs
      have HB2 := Lib.hid (HB2.out.trans (hbut.2.2.2 _ (by omega)))
      replace k0 := (hbut.1 ⟨w.heap.size, 0, none⟩ (by simp)).trans k0
      replace f0 := (hbut.2.1 ⟨w.heap.size, 0, none⟩).trans f0
      replace k1 := (hbut.1 ⟨w.heap.size, 1, none⟩ (by simp)).trans k1
      replace f1 := (hbut.2.1 ⟨w.heap.size, 1, none⟩).trans f1
      replace k2 := (hbut.1 ⟨w.heap.size, 2, none⟩ (by simp)).trans k2
      replace f2 := (hbut.2.1 ⟨w.heap.size, 2, none⟩).trans f2
      replace k3 := (hbut.1 ⟨w.heap.size, 3, none⟩ (by simp)).trans k3
      replace f3 := (hbut.2.1 ⟨w.heap.size, 3, none⟩).trans f3
      replace k4 := (hbut.1 ⟨w.heap.size, 4, none⟩ (by simp)).trans k4
      replace f4 := (hbut.2.1 ⟨w.heap.size, 4, none⟩).trans f4
      replace s2 := hbut.2.2.1.trans s2
      have HRS := Lib.hid hrs
      clear hrs hbut
      obtain ⟨v0, hv0⟩ : ∃ v, numOf ((b.drop 4).take 2) = v := ⟨_, rfl⟩
      rw [hv0] at HF ⊢
      have b0 := num2_lt (b.drop 4)
      rw [hv0] at b0
      have x0 : IntKind.i64.wrap (v0 : Int) = (v0 : Int) := IntWalk.i64_in _ (by omega)
      clear hv0
      go_wp2_with fail
      refine (rtake2 HRS.out (by rw [List.length_drop]; omega)).mono ?_
      rintro e w4 ⟨rfl, hrs, hbut⟩
      rw [List.drop_drop] at hrs
      have HB2 := Lib.hid (HB2.out.trans (hbut.2.2.2 _ (by omega)))
      replace k0 := (hbut.1 ⟨w.heap.size, 0, none⟩ (by simp)).trans k0
      replace f0 := (hbut.2.1 ⟨w.heap.size, 0, none⟩).trans f0
      replace k1 := (hbut.1 ⟨w.heap.size, 1, none⟩ (by simp)).trans k1
      replace f1 := (hbut.2.1 ⟨w.heap.size, 1, none⟩).trans f1
      replace k2 := (hbut.1 ⟨w.heap.size, 2, none⟩ (by simp)).trans k2
      replace f2 := (hbut.2.1 ⟨w.heap.size, 2, none⟩).trans f2
      replace k3 := (hbut.1 ⟨w.heap.size, 3, none⟩ (by simp)).trans k3
      replace f3 := (hbut.2.1 ⟨w.heap.size, 3, none⟩).trans f3
      replace k4 := (hbut.1 ⟨w.heap.size, 4, none⟩ (by simp)).trans k4
      replace f4 := (hbut.2.1 ⟨w.heap.size, 4, none⟩).trans f4
      replace s2 := hbut.2.2.1.trans s2
      have HRS := Lib.hid hrs
      clear hrs hbut
      obtain ⟨v1, hv1⟩ : ∃ v, numOf ((b.drop 6).take 2) = v := ⟨_, rfl⟩
      rw [hv1] at HF ⊢
      have b1 := num2_lt (b.drop 6)
      rw [hv1] at b1
      have x1 : IntKind.i64.wrap (v1 : Int) = (v1 : Int) := IntWalk.i64_in _ (by omega)
      clear hv1
      go_wp2_with fail
      refine (rtake8 HRS.out (by rw [List.length_drop]; omega)).mono ?_
      rintro e w5 ⟨rfl, hrs, hbut⟩
      rw [List.drop_drop] at hrs
      have HB2 := Lib.hid (HB2.out.trans (hbut.2.2.2 _ (by omega)))
      replace k0 := (hbut.1 ⟨w.heap.size, 0, none⟩ (by simp)).trans k0
      replace f0 := (hbut.2.1 ⟨w.heap.size, 0, none⟩).trans f0
      replace k1 := (hbut.1 ⟨w.heap.size, 1, none⟩ (by simp)).trans k1
      replace f1 := (hbut.2.1 ⟨w.heap.size, 1, none⟩).trans f1
      replace k2 := (hbut.1 ⟨w.heap.size, 2, none⟩ (by simp)).trans k2
      replace f2 := (hbut.2.1 ⟨w.heap.size, 2, none⟩).trans f2
      replace k3 := (hbut.1 ⟨w.heap.size, 3, none⟩ (by simp)).trans k3
      replace f3 := (hbut.2.1 ⟨w.heap.size, 3, none⟩).trans f3
      replace k4 := (hbut.1 ⟨w.heap.size, 4, none⟩ (by simp)).trans k4
      replace f4 := (hbut.2.1 ⟨w.heap.size, 4, none⟩).trans f4
      replace s2 := hbut.2.2.1.trans s2
      have HRS := Lib.hid hrs
      clear hrs hbut
      obtain ⟨v2, hv2⟩ : ∃ v, numOf ((b.drop 8).take 8) = v := ⟨_, rfl⟩
      rw [hv2] at HF ⊢
      clear hv2
      go_wp2_with fail
      refine (rtake8 HRS.out (by rw [List.length_drop]; omega)).mono ?_
      rintro e w6 ⟨rfl, hrs, hbut⟩
      rw [List.drop_drop] at hrs
      have HB2 := Lib.hid (HB2.out.trans (hbut.2.2.2 _ (by omega)))
      replace k0 := (hbut.1 ⟨w.heap.size, 0, none⟩ (by simp)).trans k0
      replace f0 := (hbut.2.1 ⟨w.heap.size, 0, none⟩).trans f0
      replace k1 := (hbut.1 ⟨w.heap.size, 1, none⟩ (by simp)).trans k1
      replace f1 := (hbut.2.1 ⟨w.heap.size, 1, none⟩).trans f1
      replace k2 := (hbut.1 ⟨w.heap.size, 2, none⟩ (by simp)).trans k2
      replace f2 := (hbut.2.1 ⟨w.heap.size, 2, none⟩).trans f2
      replace k3 := (hbut.1 ⟨w.heap.size, 3, none⟩ (by simp)).trans k3
      replace f3 := (hbut.2.1 ⟨w.heap.size, 3, none⟩).trans f3
      replace k4 := (hbut.1 ⟨w.heap.size, 4, none⟩ (by simp)).trans k4
      replace f4 := (hbut.2.1 ⟨w.heap.size, 4, none⟩).trans f4
      replace s2 := hbut.2.2.1.trans s2
      have HRS := Lib.hid hrs
      clear hrs hbut
      obtain ⟨v3, hv3⟩ : ∃ v, numOf ((b.drop 16).take 8) = v := ⟨_, rfl⟩
      rw [hv3] at HF ⊢
      clear hv3
      go_wp2_with fail
      refine (rtake4 HRS.out (by rw [List.length_drop]; omega)).mono ?_
      rintro e w7 ⟨rfl, hrs, hbut⟩
      rw [List.drop_drop] at hrs
      have HB2 := Lib.hid (HB2.out.trans (hbut.2.2.2 _ (by omega)))
      replace k0 := (hbut.1 ⟨w.heap.size, 0, none⟩ (by simp)).trans k0
      replace f0 := (hbut.2.1 ⟨w.heap.size, 0, none⟩).trans f0
      replace k1 := (hbut.1 ⟨w.heap.size, 1, none⟩ (by simp)).trans k1
      replace f1 := (hbut.2.1 ⟨w.heap.size, 1, none⟩).trans f1
      replace k2 := (hbut.1 ⟨w.heap.size, 2, none⟩ (by simp)).trans k2
      replace f2 := (hbut.2.1 ⟨w.heap.size, 2, none⟩).trans f2
      replace k3 := (hbut.1 ⟨w.heap.size, 3, none⟩ (by simp)).trans k3
      replace f3 := (hbut.2.1 ⟨w.heap.size, 3, none⟩).trans f3
      replace k4 := (hbut.1 ⟨w.heap.size, 4, none⟩ (by simp)).trans k4
      replace f4 := (hbut.2.1 ⟨w.heap.size, 4, none⟩).trans f4
      replace s2 := hbut.2.2.1.trans s2
      have HRS := Lib.hid hrs
      clear hrs hbut
      obtain ⟨v4, hv4⟩ : ∃ v, numOf ((b.drop 24).take 4) = v := ⟨_, rfl⟩
      rw [hv4] at HF ⊢
      have b4 := num4_lt (b.drop 24)
      rw [hv4] at b4
      have x4 : IntKind.i64.wrap (v4 : Int) = (v4 : Int) := IntWalk.i64_in _ (by omega)
      clear hv4
      go_wp2_with fail
      refine bodyPost_ret (v := .tuple #[(Hdr.mk v0 v1 v2 v3 v4).val, .int .i64 ((28 : Nat) : Int), .int .i64 0]) (by simp [results, Try.results27, go_sem, k0, k1, k2, k3, k4, s2, Hdr.val]) rfl ?_
      rw [HF.out]
      exact ⟨rfl, (((((HB2.out.setCell (by simp) _).setCell (by simp) _).setCell (by simp) _).setCell (by simp) _).setCell (by simp) _).alloc (by simp; omega) _⟩
end Go.Proofs.Ytnpcpbjoonjaoaa
