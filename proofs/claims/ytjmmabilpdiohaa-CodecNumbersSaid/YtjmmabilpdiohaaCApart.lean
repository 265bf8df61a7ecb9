/- CodecApart: the walk -/
import Derived.Test.YtjmmabilpdiohaaCFields
namespace Go.Proofs.Ytjmmabilpdiohaa
set_option linter.unusedVariables false
set_option linter.unusedSimpArgs false
open Go.RowKit

theorem overlay_get (l : List UInt8) (p : Nat) (f : List UInt8) (h : p + f.length ≤ l.length) (j : Nat) : (overlay l p f)[j]? = if j < p then l[j]? else if j < p + f.length then f[j - p]? else l[j]? := by
  have hp : (l.take p).length = p := by simp; omega
  unfold overlay
  by_cases h1 : j < p
  · rw [if_pos h1, List.getElem?_append_left (by omega), List.getElem?_take_of_lt h1]
  · rw [if_neg h1, List.getElem?_append_right (by omega), hp]
    by_cases h2 : j < p + f.length
    · rw [if_pos h2, List.getElem?_append_left (by omega)]
    · rw [if_neg h2, List.getElem?_append_right (by omega), List.getElem?_drop]
      congr 1
      omega

theorem inS_of {l : List UInt8} {k t : Nat} (hl : l.length = 64) (ht : 1 ≤ t) (h : k < 64 / t) : inS l k t := by
  have h1 : (k + 1) * t ≤ 64 := (Nat.le_div_iff_mul_le (by omega)).1 (by omega)
  refine ⟨hl, by omega, by omega, ?_⟩
  have := Int.ofNat_le.2 h1
  push_cast at this
  exact this

theorem fieldL_nat {l : List UInt8} {k t : Nat} (h : inS l k t) : fieldL l k t = (l.drop (k * t)).take t := by
  rw [fieldL, if_pos h, ← Int.natCast_mul, Int.toNat_natCast, Int.toNat_natCast]

theorem field_self (l : List UInt8) (p : Nat) (f : List UInt8) (h : p + f.length ≤ l.length) : ((overlay l p f).drop p).take f.length = f := by
  refine List.ext_getElem? fun j => ?_
  rw [List.getElem?_take]
  by_cases hj : j < f.length
  · rw [if_pos hj, List.getElem?_drop, overlay_get _ _ _ h, if_neg (by omega), if_pos (by omega)]
    congr 1
    omega
  · rw [if_neg hj, List.getElem?_eq_none (by omega)]

theorem field_other (l : List UInt8) (i k : Nat) (f : List UInt8) (h : i * f.length + f.length ≤ l.length) (hik : k ≠ i) : ((overlay l (i * f.length) f).drop (k * f.length)).take f.length = (l.drop (k * f.length)).take f.length := by
  refine List.ext_getElem? fun j => ?_
  rw [List.getElem?_take, List.getElem?_take]
  by_cases hj : j < f.length
  · rw [if_pos hj, if_pos hj, List.getElem?_drop, List.getElem?_drop, overlay_get _ _ _ h]
    rcases Nat.lt_or_gt_of_ne hik with h1 | h1
    · have h2 : (k + 1) * f.length ≤ i * f.length := Nat.mul_le_mul_right _ h1
      rw [Nat.add_mul, Nat.one_mul] at h2
      rw [if_pos (by omega)]
    · have h2 : (i + 1) * f.length ≤ k * f.length := Nat.mul_le_mul_right _ h1
      rw [Nat.add_mul, Nat.one_mul] at h2
      rw [if_neg (by omega), if_neg (by omega)]
  · rw [if_neg hj, if_neg hj]

set_option maxRecDepth 100000 in
set_option maxHeartbeats 4000000 in
theorem law_CodecApart (cs : Array Value) (x : PlaceTy.den) (a1 : Option Addr) (n1 c1 : Nat) (f : List UInt8) (w : World) (h : PlaceTy.reads w (Value.agg cs).cells.toList x) (hf : BytesIn w a1 n1 c1 f) :
    Calls Try.prog 3 #[.agg cs, .slice a1 n1 c1] w fun e w' => e = .returned (.bool true) ∧ Below w.heap.size w w' := by
  obtain ⟨ad, cd, B, I, S, rfl, hD, hI, hS⟩ := place_open cs x w h
  have hn1 := hf.len_eq
  subst hn1
  have HD := Lib.hid hD
  have HF := Lib.hid hf
  clear hD h x hf hS hI
  have hsm := HD.out.small
  have hle := HD.out.le_cap
  have hfs := HF.out.small
  have hfl := HF.out.le_cap
  go_enter Try.func3, Try.ntmps3
  go_upto_region 1 with (fail)
  have c0 : (w.alloc (Obj.cells #[.slice ad B.length cd, .int .i64 I, .int .i64 S] 24)).cell? ⟨w.heap.size, 0, none⟩ = some (.slice ad B.length cd) := by go_simp
  have c1' : (w.alloc (Obj.cells #[.slice ad B.length cd, .int .i64 I, .int .i64 S] 24)).cell? ⟨w.heap.size, 1, none⟩ = some (.int .i64 I) := by go_simp
  have HB0 := Lib.hid ((Below.refl w.heap.size w).alloc (Nat.le_refl _) (Obj.cells #[.slice ad B.length cd, .int .i64 I, .int .i64 S] 24))
  have hs0 : w.heap.size < (w.alloc (Obj.cells #[.slice ad B.length cd, .int .i64 I, .int .i64 S] 24)).heap.size := by simp
  generalize w.alloc (Obj.cells #[.slice ad B.length cd, .int .i64 I, .int .i64 S] 24) = w1 at c0 c1' HB0 hs0 ⊢
  have HBW := Lib.hid HB0.out
  have ST := Lib.hid (fun (W : World) (hW : Below w1.heap.size w1 W) => (show W.cell? ⟨w.heap.size, 0, none⟩ = some (.slice ad B.length cd) ∧ W.cell? ⟨w.heap.size, 1, none⟩ = some (.int .i64 I) from
    ⟨(hW.cell (by exact hs0)).trans c0, (hW.cell (by exact hs0)).trans c1'⟩))
  have SB := Lib.hid (fun (W : World) (hW : Below w1.heap.size w1 W) => ((HD.out.rd.below HBW.out).lt_size.below hW).lt_size)
  have SF := Lib.hid (fun (W : World) (hW : Below w1.heap.size w1 W) => ((HF.out.rd.below HBW.out).lt_size.below hW).lt_size)
  have HBC := Lib.hid (Below.refl w1.heap.size w1)
  clear c0 c1' HB0 HD HF hsm
  generalize hN : w.heap.size = N at *
  obtain ⟨k0, k1⟩ := ST.out _ HBC.out
  go_wp2_with fail
  clear k0 k1
  refine (setfield_any ad _ cd B I a1 _ c1 f _ rfl hle (SB.out _ HBC.out) rfl (SF.out _ HBC.out) (by omega)).mono ?_
  rintro e w2 ⟨a2, n2, c2, rfl, hown, hb⟩
  have HBC := Lib.hid (HBC.out.trans (hb.mono HBC.out.size))
  clear hb
  by_cases hin : inS B I f.length
  · have he : setE B I f = 0 := by rw [setE, if_pos hin]
    have hl : setL B I f = overlay B (I * f.length).toNat f := by rw [setL, if_pos hin]
    rw [he]
    rw [hl] at hown
    obtain ⟨kI, t, p, q, rfl, het, hp, hq, hq64, hlB, ht1, ht, hk, e1, e2⟩ := inS_nat hin
    have het2 : t = f.length := by omega
    subst het2
    rw [e1, Int.toNat_natCast] at hown
    have hov : (overlay B p f).length = 64 := by rw [overlay_length _ _ _ (by omega), hlB]
    have hn2 := hown.len
    rw [hov] at hn2
    subst hn2
    have HRC := Lib.hid (OwnB.rd hown)
    obtain ⟨_, _, hv2, hc2⟩ := hown.shape
    have hc2 : 64 ≤ c2 := by
      simp only [Value.slice.injEq] at hv2
      omega
    have HOV := Lib.hid hov
    have HP : Hid (p = kI * f.length ∧ kI * f.length + f.length ≤ B.length) := Lib.hid (by omega)
    have HLB := Lib.hid hlB
    have hqd : Int.tdiv 64 (f.length : Int) = ((64 / f.length : Nat) : Int) := by rw [Int.tdiv_eq_ediv_of_nonneg (by decide)]; rfl
    have hq65 : 64 / f.length ≤ 64 := Nat.div_le_self _ _
    have hqk : kI < 64 / f.length := (Nat.le_div_iff_mul_le (by omega)).2 (by show (kI + 1) * f.length ≤ 64; rw [Nat.add_mul, Nat.one_mul]; omega)
    have HIN := Lib.hid (fun (k : Nat) (l : List UInt8) (hl : l.length = 64) (h : k < 64 / f.length) => inS_of hl (show 1 ≤ f.length by omega) h)
    have hwq : IntKind.i64.wrap ((64 / f.length : Nat) : Int) = ((64 / f.length : Nat) : Int) := IntWalk.i64_in _ (by omega)
    have hf0 : ¬ (f.length : Int) = 0 := by omega
    have hf0n : ¬ f.length = 0 := by omega
    have hbq : ((f.length : Int) == 0) = false := beq_false_of_ne hf0
    generalize 64 / f.length = Q at *
    clear hown hv2 hov e1 e2 hq hq64 hlB he hl hin het hp ht1 ht
    go_wp2_with fail
    go_loopw [7] (fun i wr => ∃ k : Nat, k ≤ Q ∧ i = .int .i64 k ∧ Below w2.heap.size w2 wr ∧ Below w1.heap.size w1 wr) (fun i _ => Q - (intOf i).toNat)
    case atStart => exact ⟨0, Nat.zero_le _, rfl, Below.refl _ _, HBC.out⟩
    case round =>
      clear HBC
      obtain ⟨k, hkQ, rfl, hb2, hb1⟩ := hrel
      have HB2 := Lib.hid hb2
      have HB1 := Lib.hid hb1
      clear hb2 hb1
      by_cases hkq : k < Q
      · have hkI : (k : Int) < (Q : Int) := by omega
        by_cases hki : k = kI
        · subst hki
          have HE : Hid (f = ((overlay B p f).drop (k * f.length)).take f.length) := Lib.hid (by
            have := HP.out.2
            rw [← HP.out.1, field_self B p f (by rw [HP.out.1]; exact this)])
          obtain ⟨k0, k1⟩ := ST.out _ HB1.out
          go_wp2_with fail
          clear k0 k1
          refine (field_any ad _ cd B k f.length _ rfl hle (SB.out _ HB1.out)).mono ?_
          rintro e wa ⟨xa, xn, xc, rfl, howna, hba⟩
          rw [show fieldE B k f.length = 0 by rw [fieldE, if_pos (HIN.out k B HLB.out hkq)], fieldL_nat (HIN.out k B HLB.out hkq)] at *
          have HB1 := Lib.hid (HB1.out.trans (hba.mono HB1.out.size))
          have HB2 := Lib.hid (HB2.out.trans (hba.mono HB2.out.size))
          have HRA := Lib.hid (OwnB.rd howna)
          have HLA := Lib.hid (OwnB.len howna)
          clear howna hba
          go_wp2_with fail
          refine (field_any a2 64 c2 (overlay B p f) k f.length _ HOV.out hc2 (HRC.out.below HB2.out).lt_size).mono ?_
          rintro e wb ⟨ya, yn, yc, rfl, hownb, hbb⟩
          rw [show fieldE (overlay B p f) k f.length = 0 by rw [fieldE, if_pos (HIN.out k _ HOV.out hkq)], fieldL_nat (HIN.out k _ HOV.out hkq)] at *
          have HB1 := Lib.hid (HB1.out.trans (hbb.mono HB1.out.size))
          have HB2 := Lib.hid (HB2.out.trans (hbb.mono HB2.out.size))
          have HRA := Lib.hid (HRA.out.below hbb).lt_size
          have HRB := Lib.hid (OwnB.rd hownb)
          have HLB2 := Lib.hid (OwnB.len hownb)
          clear hownb hbb
          obtain ⟨k0, k1⟩ := ST.out _ HB1.out
          go_wp2_with fail
          clear k0 k1
          refine (same_any _ _ _ _ _ _ _ _ _ HLB2.out rfl HRB.out (SF.out _ HB1.out)).mono ?_
          rintro e wc ⟨rfl, rfl⟩
          rw [← HE.out]
          go_wp2_with fail
          go_roundw
          case rel => exact ⟨k + 1, by omega, by go_num, HB2.out, HB1.out⟩
          case measure => simp [intOf]; omega
        · have hki2 : ¬ (k : Int) = (kI : Int) := by omega
          have HE : Hid ((B.drop (k * f.length)).take f.length = ((overlay B p f).drop (k * f.length)).take f.length) := Lib.hid (by
            rw [HP.out.1, field_other B kI k f HP.out.2 hki])
          obtain ⟨k0, k1⟩ := ST.out _ HB1.out
          go_wp2_with fail
          clear k0 k1
          refine (field_any ad _ cd B k f.length _ rfl hle (SB.out _ HB1.out)).mono ?_
          rintro e wa ⟨xa, xn, xc, rfl, howna, hba⟩
          rw [show fieldE B k f.length = 0 by rw [fieldE, if_pos (HIN.out k B HLB.out hkq)], fieldL_nat (HIN.out k B HLB.out hkq)] at *
          have HB1 := Lib.hid (HB1.out.trans (hba.mono HB1.out.size))
          have HB2 := Lib.hid (HB2.out.trans (hba.mono HB2.out.size))
          have HRA := Lib.hid (OwnB.rd howna)
          have HLA := Lib.hid (OwnB.len howna)
          clear howna hba
          go_wp2_with fail
          refine (field_any a2 64 c2 (overlay B p f) k f.length _ HOV.out hc2 (HRC.out.below HB2.out).lt_size).mono ?_
          rintro e wb ⟨ya, yn, yc, rfl, hownb, hbb⟩
          rw [show fieldE (overlay B p f) k f.length = 0 by rw [fieldE, if_pos (HIN.out k _ HOV.out hkq)], fieldL_nat (HIN.out k _ HOV.out hkq)] at *
          have HB1 := Lib.hid (HB1.out.trans (hbb.mono HB1.out.size))
          have HB2 := Lib.hid (HB2.out.trans (hbb.mono HB2.out.size))
          have HRA := Lib.hid (HRA.out.below hbb).lt_size
          have HRB := Lib.hid (OwnB.rd hownb)
          have HLB2 := Lib.hid (OwnB.len hownb)
          clear hownb hbb
          obtain ⟨k0, k1⟩ := ST.out _ HB1.out
          go_wp2_with fail
          clear k0 k1
          refine (same_any _ _ _ _ _ _ _ _ _ HLB2.out HLA.out HRB.out HRA.out).mono ?_
          rintro e wc ⟨rfl, rfl⟩
          rw [HE.out]
          go_wp2_with fail
          go_roundw
          case rel => exact ⟨k + 1, by omega, by go_num, HB2.out, HB1.out⟩
          case measure => simp [intOf]; omega
      · have hkI : ¬ (k : Int) < (Q : Int) := by omega
        go_wp2_with fail
        refine (calive_any _).mono ?_
        rintro e wz ⟨rfl, hb⟩
        have HB1 := Lib.hid (HB1.out.trans (hb.mono HB1.out.size))
        clear hb
        go_wp2_with fail
        go_ret
        refine ⟨by simp, ?_⟩
        rw [hN]
        exact HBW.out.trans (HB1.out.mono (Nat.le_of_lt hs0))
  · have he : setE B I f = 81 := by rw [setE, if_neg hin]
    have hl : setL B I f = [] := by rw [setL, if_neg hin]
    rw [he]
    rw [hl] at hown
    have hn2 := hown.len
    simp at hn2
    subst hn2
    clear hown he hl hin
    go_wp2_with fail
    refine (calive_any _).mono ?_
    rintro e wz ⟨rfl, hb⟩
    have HBC := Lib.hid (HBC.out.trans (hb.mono HBC.out.size))
    clear hb
    go_wp2_with fail
    go_ret
    refine ⟨by simp, ?_⟩
    rw [hN]
    exact HBW.out.trans (HBC.out.mono (Nat.le_of_lt hs0))
end Go.Proofs.Ytjmmabilpdiohaa
