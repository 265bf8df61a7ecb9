/- wire.TakeOption -/
import Derived.Test.YtnpcpbjoonjaoaaTake
namespace Go.Proofs.Ytnpcpbjoonjaoaa
set_option linter.unusedVariables false
set_option linter.unusedSimpArgs false
open Go.RowKit

def ihave : List UInt8 := [73, 72, 65, 86, 69, 79, 80, 84]
/-- An option that is taken: its kind, its data, how many bytes, the error. -/
def optR (b : List UInt8) : Nat × List UInt8 × Nat × Int :=
  if beginsB b ihave = false then (0, [], 0, 201)
  else if b.length < 16 then (0, [], 0, 0)
  else if 1024 < numOf ((b.drop 12).take 4) then (0, [], 0, 201)
  else if b.length - 16 < numOf ((b.drop 12).take 4) then (0, [], 0, 0)
  else (numOf ((b.drop 8).take 4), (b.drop 16).take (numOf ((b.drop 12).take 4)), 16 + numOf ((b.drop 12).take 4), 0)

def OptPost (r : Nat × List UInt8 × Nat × Int) (w : World) (e : Ending) (w' : World) : Prop :=
  ∃ a n c, e = .returned (.tuple #[.agg #[.int .i64 r.1, .slice a n c], .int .i64 r.2.2.1, .int .i64 r.2.2.2]) ∧ OwnB w' w.heap.size (.slice a n c) r.2.1 ∧ Below w.heap.size w w'

theorem num4_lt (l : List UInt8) : numOf (l.take 4) < 4294967296 := by
  have h1 := numOf_lt (l.take 4)
  have h2 : 256 ^ (l.take 4).length ≤ 256 ^ 4 := Nat.pow_le_pow_right (by omega) (by simp; omega)
  omega

set_option maxRecDepth 100000 in
set_option maxHeartbeats 1000000 in
theorem takeOpt_any (a : Option Addr) (n c : Nat) (b : List UInt8) (w : World) (hn : b.length = n) (hc : n ≤ c) (hc2 : c ≤ 9223372036854775807) (hr : Rd w w.heap.size a (bs b)) :
    Calls Try.prog 25 #[.slice a n c] w (OptPost (optR b) w) := by
  subst hn
  have HR := Lib.hid hr
  clear hr
  have HA := Lib.hid (begins_any a b.length c b ⟨#[73, 72, 65, 86, 69, 79, 80, 84]⟩ (w.alloc (.cells #[.int .i64 0, .slice none 0 0] 36)) rfl hc (by decide) (HR.out.alloc (Nat.le_refl _) _))
  have hB0 := (Below.refl w.heap.size w).alloc (Nat.le_refl _) (.cells #[.int .i64 0, .slice none 0 0] 36)
  go_enter Try.func25, Try.ntmps25
  go_wp2_with fail
  refine HA.out.mono ?_
  rintro e w' ⟨rfl, rfl⟩
  clear HA
  cases hb : beginsB b ihave with
  | false =>
    have HF : Hid (optR b = (0, [], 0, 201)) := Lib.hid (by rw [optR, if_pos hb])
    have hb' : beginsB b [73, 72, 65, 86, 69, 79, 80, 84] = false := hb
    rw [hb']
    clear hb hb'
    go_wp2_with fail
    refine bodyPost_ret (v := .tuple #[.agg #[.int .i64 0, .slice none 0 0], .int .i64 0, .int .i64 201]) (by simp [results, Try.results25, go_sem]) rfl ?_
    rw [HF.out]
    exact ⟨none, 0, 0, rfl, OwnB.nil _ _, hB0⟩
  | true =>
    have hb' : beginsB b [73, 72, 65, 86, 69, 79, 80, 84] = true := hb
    rw [hb']
    clear hb'
    by_cases h16 : b.length < 16
    · have HF : Hid (optR b = (0, [], 0, 0)) := Lib.hid (by rw [optR, if_neg (by rw [hb]; simp), if_pos h16])
      have h16' : (b.length : Int) < 16 := by omega
      clear hb
      go_wp2_with fail
      refine bodyPost_ret (v := .tuple #[.agg #[.int .i64 0, .slice none 0 0], .int .i64 0, .int .i64 0]) (by simp [results, Try.results25, go_sem]) rfl ?_
      rw [HF.out]
      exact ⟨none, 0, 0, rfl, OwnB.nil _ _, hB0⟩
    · have h16' : ¬ (b.length : Int) < 16 := by omega
      have hne : ¬ c = 8 := by omega
      have h8c : (8 : Int) ≤ (b.length : Int) := by omega
      obtain ⟨bb, ob, rfl, hbb, _⟩ := HR.out.byte 0 (by omega)
      go_wp2_with fail
      obtain ⟨W2, hW2⟩ : ∃ W2, W2 = ((w.alloc (Obj.cells #[Value.int IntKind.i64 0, Value.slice none 0 0] 36)).alloc (Obj.cells #[Value.slice (some ⟨bb, ob + 8, none⟩) (b.length - 8) (c - 8)] 78)) := ⟨_, rfl⟩
      have k0 : W2.cell? ⟨w.heap.size, 0, none⟩ = some (.int .i64 0) := by rw [hW2]; go_simp
      have k1 : W2.cell? ⟨w.heap.size, 1, none⟩ = some (.slice none 0 0) := by rw [hW2]; go_simp
      have f0 : W2.frozen? ⟨w.heap.size, 0, none⟩ = false := by rw [hW2]; go_simp
      have f1 : W2.frozen? ⟨w.heap.size, 1, none⟩ = false := by rw [hW2]; go_simp
      have s2 : W2.heap.size = w.heap.size + 1 + 1 := by rw [hW2]; simp
      have HB2 : Hid (Below w.heap.size w W2) := Lib.hid (by rw [hW2]; exact hB0.alloc (by simp) _)
      have HRS : Hid (RS W2 w.heap.size (w.heap.size + 1) (b.drop 8)) := Lib.hid ⟨some ⟨bb, ob + 8, none⟩, c - 8, by rw [hW2, List.length_drop]; go_simp, by rw [hW2]; go_simp, by rw [List.length_drop]; omega, by omega, by rw [bs_drop]; exact ((HR.out.drop 8).below HB2.out), by omega, by omega⟩
      rw [← hW2]
      clear hW2 hB0
      have l8 : (b.drop 8).length = b.length - 8 := List.length_drop
      refine (rtake4 HRS.out (by omega)).mono ?_
      rintro e w3 ⟨rfl, hrs3, hbut3⟩
      have HB3 := Lib.hid (HB2.out.trans (hbut3.2.2.2 _ (by omega)))
      have k0 := (hbut3.1 ⟨w.heap.size, 0, none⟩ (by simp)).trans k0
      have k1 := (hbut3.1 ⟨w.heap.size, 1, none⟩ (by simp)).trans k1
      have f0 := (hbut3.2.1 ⟨w.heap.size, 0, none⟩).trans f0
      have f1 := (hbut3.2.1 ⟨w.heap.size, 1, none⟩).trans f1
      have s3 := hbut3.2.2.1.trans s2
      have HRS3 := Lib.hid hrs3
      clear hrs3 hbut3 HRS HB2
      go_wp2_with fail
      refine (rtake4 HRS3.out (by rw [List.length_drop]; omega)).mono ?_
      rintro e w4 ⟨rfl, hrs4, hbut4⟩
      have HB4 := Lib.hid (HB3.out.trans (hbut4.2.2.2 _ (by omega)))
      have k0 := (hbut4.1 ⟨w.heap.size, 0, none⟩ (by simp)).trans k0
      have k1 := (hbut4.1 ⟨w.heap.size, 1, none⟩ (by simp)).trans k1
      have f0 := (hbut4.2.1 ⟨w.heap.size, 0, none⟩).trans f0
      have f1 := (hbut4.2.1 ⟨w.heap.size, 1, none⟩).trans f1
      have s4 := hbut4.2.2.1.trans s3
      have e12 : (b.drop 8).drop 4 = b.drop 12 := by rw [List.drop_drop]
      have e16 : (b.drop 12).drop 4 = b.drop 16 := by rw [List.drop_drop]
      rw [e12] at hrs4 ⊢
      rw [e16] at hrs4
      obtain ⟨ar, cr, kr, fr, hcr, hcr2, hrr, _, hlr⟩ := hrs4
      have HRR := Lib.hid hrr
      have l16 : (b.drop 16).length = b.length - 16 := List.length_drop
      rw [l16] at kr hcr
      clear hrr HRS3 HB3 e12 e16 l8
      have HF : Hid (optR b = if 1024 < numOf ((b.drop 12).take 4) then (0, [], 0, 201) else if b.length - 16 < numOf ((b.drop 12).take 4) then (0, [], 0, 0)
          else (numOf ((b.drop 8).take 4), (b.drop 16).take (numOf ((b.drop 12).take 4)), 16 + numOf ((b.drop 12).take 4), 0)) := Lib.hid (by rw [optR, if_neg (by rw [hb]; simp), if_neg h16])
      have hn1 := num4_lt (b.drop 8)
      have hn2 := num4_lt (b.drop 12)
      clear hb
      generalize numOf ((b.drop 8).take 4) = ty at HF hn1 ⊢
      generalize numOf ((b.drop 12).take 4) = nl at HF hn2 ⊢
      have w1 : IntKind.i64.wrap (nl : Int) = (nl : Int) := IntWalk.i64_in _ (by omega)
      have w2 : IntKind.i64.wrap (ty : Int) = (ty : Int) := IntWalk.i64_in _ (by omega)
      by_cases hbig : 1024 < nl
      · have hbigI : (1024 : Int) < (nl : Int) := by omega
        rw [if_pos hbig] at HF
        go_wp2_with fail
        refine bodyPost_ret (v := .tuple #[.agg #[.int .i64 0, .slice none 0 0], .int .i64 0, .int .i64 201]) (by simp [results, Try.results25, go_sem, k0, k1]) rfl ?_
        rw [HF.out]
        exact ⟨none, 0, 0, rfl, OwnB.nil _ _, (HB4.out.setCell (by simp) _).setCell (by simp) _⟩
      · have hbigI : ¬ (1024 : Int) < (nl : Int) := by omega
        rw [if_neg hbig] at HF
        by_cases hsh : b.length - 16 < nl
        · have hshI : ((b.length - 16 : Nat) : Int) < (nl : Int) := by omega
          rw [if_pos hsh] at HF
          go_wp2_with fail
          refine bodyPost_ret (v := .tuple #[.agg #[.int .i64 0, .slice none 0 0], .int .i64 0, .int .i64 0]) (by simp [results, Try.results25, go_sem, k0, k1]) rfl ?_
          rw [HF.out]
          exact ⟨none, 0, 0, rfl, OwnB.nil _ _, (HB4.out.setCell (by simp) _).setCell (by simp) _⟩
        · have hshI : ¬ ((b.length - 16 : Nat) : Int) < (nl : Int) := by omega
          have hnl : (nl : Int) ≤ (cr : Int) := by omega
          rw [if_neg hsh] at HF
          go_wp2_with fail
          have ln : ((b.drop 16).take nl).length = nl := by rw [List.length_take, l16]; omega
          have hrn : Rd w4 w.heap.size ar (bs ((b.drop 16).take nl)) := by rw [bs_take]; exact HRR.out.take nl
          refine (clone_any ar nl cr ((b.drop 16).take nl) w4 ln (by omega) hrn (by omega)).mono ?_
          rintro e w5 ⟨a5, n5, c5, rfl, hown5, hb5⟩
          have hz5 := hb5.size
          have k0 := (hb5.cell (p := ⟨w.heap.size, 0, none⟩) (by simp; omega)).trans k0
          have k1 := (hb5.cell (p := ⟨w.heap.size, 1, none⟩) (by simp; omega)).trans k1
          have f0 := (hb5.frozen (p := ⟨w.heap.size, 0, none⟩) (by simp; omega)).trans f0
          have f1 := (hb5.frozen (p := ⟨w.heap.size, 1, none⟩) (by simp; omega)).trans f1
          have HB5 := Lib.hid (HB4.out.trans (hb5.mono (by omega)))
          have HO5 := Lib.hid hown5
          clear hown5 hb5 hrn ln HRR HB4
          have hw16 : IntKind.i64.wrap (16 + (nl : Int)) = 16 + (nl : Int) := IntWalk.i64_in _ (by omega)
          go_wp2_with fail
          refine bodyPost_ret (v := .tuple #[.agg #[.int .i64 ty, .slice a5 n5 c5], .int .i64 ((16 + nl : Nat) : Int), .int .i64 0]) (by simp [results, Try.results25, go_sem, k0, k1]) rfl ?_
          rw [HF.out]
          refine ⟨a5, n5, c5, rfl, ?_, (HB5.out.setCell (by simp) _).setCell (by simp) _⟩
          refine (HO5.out.base_mono (by omega)).keepB fun g hg hlt => ?_
          have := (HO5.out.lt g hg).1
          have hne : ¬ w.heap.size = g := by omega
          simp [World.setCell, Array.getElem?_modify, hne]
end Go.Proofs.Ytnpcpbjoonjaoaa
