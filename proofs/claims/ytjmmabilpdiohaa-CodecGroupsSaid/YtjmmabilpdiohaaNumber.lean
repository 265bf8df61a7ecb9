/- codec: Number, SetNumber -/
import Derived.Test.YtjmmabilpdiohaaField2
import Derived.Test.YtjmmabilpdiohaaBytes
namespace Go.Proofs.Ytjmmabilpdiohaa
set_option linter.unusedVariables false
set_option linter.unusedSimpArgs false
open Go.RowKit

def sNumV (l : List UInt8) (i : Int) : Int := if inS l i 4 ∧ (numOf (fieldL l i 4) : Int) < 2147483648 then (numOf (fieldL l i 4) : Int) else 0
def sNumE (l : List UInt8) (i : Int) : Int := if inS l i 4 ∧ (numOf (fieldL l i 4) : Int) < 2147483648 then 0 else 81

theorem fieldL_length {l : List UInt8} {i s : Int} (h : inS l i s) : (fieldL l i s).length = s.toNat := by
  obtain ⟨k, t, p, q, rfl, rfl, hp, hq, hq64, hl, ht1, ht, hk, e1, e2⟩ := inS_nat h
  rw [fieldL, if_pos h, e1]
  simp; omega

set_option maxRecDepth 100000 in
theorem number_any (a : Option Addr) (n cap : Nat) (l : List UInt8) (i : Int) (w : World) (hn : l.length = n) (hc : n ≤ cap) (hr : Rd w w.heap.size a (bs l)) :
    Calls Try.prog 15 #[.slice a n cap, .int .i64 i] w fun e w' => e = .returned (.tuple #[.int .i64 (sNumV l i), .int .i64 (sNumE l i)]) ∧ Below w.heap.size w w' := by
  have C := Lib.hid (field_any a n cap l i 4 w hn hc hr)
  have HL := Lib.hid (fun h => fieldL_length (l := l) (i := i) (s := 4) h)
  have HE : Hid (inS l i 4 → fieldE l i 4 = 0) := Lib.hid (fun h => by rw [fieldE, if_pos h])
  have HE' : Hid (¬ inS l i 4 → fieldE l i 4 = 81 ∧ fieldL l i 4 = []) := Lib.hid (fun h => by rw [fieldE, if_neg h, fieldL, if_neg h]; exact ⟨rfl, rfl⟩)
  unfold sNumV sNumE
  generalize fieldL l i 4 = F at C HL HE' ⊢
  generalize fieldE l i 4 = E at C HE HE'
  clear hr hn
  by_cases h : inS l i 4
  · have hl : F.length = 4 := HL.out h
    obtain rfl := HE.out h
    have hlt := numOf_lt F
    rw [hl] at hlt
    simp only [h, true_and]
    clear h HE HE' HL
    have HN := Lib.hid hl
    have CG : ∀ (a4 : Option Addr) (c4 : Nat) (w4 : World), Rd w4 w4.heap.size a4 (bs F) → Calls Try.prog 27 #[.slice a4 4 c4] w4 fun e w' => e = .returned (.tuple #[.int .u64 (numOf F), .int .i64 0]) ∧ w4 = w' := fun a4 c4 w4 hr => by
      have := get_good a4 c4 F w4 (by omega) (by omega) hr
      rwa [hl] at this
    have CG := Lib.hid CG
    have hlI : (numOf F : Int) < 4294967296 := by omega
    have h0I : (0 : Int) ≤ (numOf F : Int) := by omega
    clear hl hlt
    generalize (numOf F : Int) = N at *
    by_cases hb : N < 2147483648
    · rw [if_pos hb, if_pos hb]
      have hc : IntKind.i64.wrap N = N := IntWalk.i64_in _ (by omega)
      go_enter Try.func15, Try.ntmps15
      go_wp2_with fail
      refine C.out.mono ?_
      rintro e w4 ⟨a4, n4, c4, rfl, hown4, hb4⟩
      have HB4 := Lib.hid hb4
      have hn4 := hown4.len
      rw [HN.out] at hn4
      subst hn4
      have HO4 := Lib.hid (OwnB.rd hown4)
      clear hown4 hb4
      go_wp2_with fail
      refine (CG.out _ _ _ HO4.out).mono ?_
      rintro e w5 ⟨rfl, rfl⟩
      go_wp2_with fail
      go_ret2
      exact ⟨rfl, HB4.out⟩
    · rw [if_neg hb, if_neg hb]
      have hb2 : 2147483648 ≤ N := by omega
      go_enter Try.func15, Try.ntmps15
      go_wp2_with fail
      refine C.out.mono ?_
      rintro e w4 ⟨a4, n4, c4, rfl, hown4, hb4⟩
      have HB4 := Lib.hid hb4
      have hn4 := hown4.len
      rw [HN.out] at hn4
      subst hn4
      have HO4 := Lib.hid (OwnB.rd hown4)
      clear hown4 hb4
      go_wp2_with fail
      refine (CG.out _ _ _ HO4.out).mono ?_
      rintro e w5 ⟨rfl, rfl⟩
      go_wp2_with fail
      go_ret2
      exact ⟨rfl, HB4.out⟩
  · obtain ⟨rfl, rfl⟩ := HE'.out h
    simp only [h, false_and, if_false]
    clear h HE HE' HL
    go_enter Try.func15, Try.ntmps15
    go_wp2_with fail
    refine C.out.mono ?_
    rintro e w4 ⟨a4, n4, c4, rfl, hown4, hb4⟩
    have HB4 := Lib.hid hb4
    have hn4 := hown4.len
    have hn4' : n4 = 0 := by rw [← hn4]; rfl
    clear hn4
    subst hn4'
    clear hown4 hb4
    go_wp2_with fail
    refine (get_bad a4 c4 0 _ (.inl (by decide))).mono ?_
    rintro e w5 ⟨rfl, rfl⟩
    go_wp2_with fail
    go_ret2
    exact ⟨rfl, HB4.out⟩
set_option maxRecDepth 100000 in
theorem rnumber_any (a : Option Addr) (n cap : Nat) (l : List UInt8) (i : Int) (w : World) (hn : l.length = n) (hc : n ≤ cap) (hr : Rd w w.heap.size a (bs l)) :
    Calls Try.prog 16 #[.slice a n cap, .int .i64 i] w fun e w' => e = .returned (.tuple #[.int .i64 (sNumV l i), .int .i64 (sNumE l i)]) ∧ Below w.heap.size w w' := by
  have C := Lib.hid (rfield_any a n cap l i 4 w hn hc hr)
  have HL := Lib.hid (fun h => fieldL_length (l := l) (i := i) (s := 4) h)
  have HE : Hid (inS l i 4 → fieldE l i 4 = 0) := Lib.hid (fun h => by rw [fieldE, if_pos h])
  have HE' : Hid (¬ inS l i 4 → fieldE l i 4 = 81 ∧ fieldL l i 4 = []) := Lib.hid (fun h => by rw [fieldE, if_neg h, fieldL, if_neg h]; exact ⟨rfl, rfl⟩)
  unfold sNumV sNumE
  generalize fieldL l i 4 = F at C HL HE' ⊢
  generalize fieldE l i 4 = E at C HE HE'
  clear hr hn
  by_cases h : inS l i 4
  · have hl : F.length = 4 := HL.out h
    obtain rfl := HE.out h
    have hlt := numOf_lt F
    rw [hl] at hlt
    simp only [h, true_and]
    clear h HE HE' HL
    have HN := Lib.hid hl
    have CG : ∀ (a4 : Option Addr) (c4 : Nat) (w4 : World), Rd w4 w4.heap.size a4 (bs F) → Calls Try.prog 28 #[.slice a4 4 c4] w4 fun e w' => e = .returned (.tuple #[.int .u64 (numOf F), .int .i64 0]) ∧ w4 = w' := fun a4 c4 w4 hr => by
      have := rget_good a4 c4 F w4 (by omega) (by omega) hr
      rwa [hl] at this
    have CG := Lib.hid CG
    have hlI : (numOf F : Int) < 4294967296 := by omega
    have h0I : (0 : Int) ≤ (numOf F : Int) := by omega
    clear hl hlt
    generalize (numOf F : Int) = N at *
    by_cases hb : N < 2147483648
    · rw [if_pos hb, if_pos hb]
      have hc : IntKind.i64.wrap N = N := IntWalk.i64_in _ (by omega)
      go_enter Try.func16, Try.ntmps16
      go_wp2_with fail
      refine C.out.mono ?_
      rintro e w4 ⟨a4, n4, c4, rfl, hown4, hb4⟩
      have HB4 := Lib.hid hb4
      have hn4 := hown4.len
      rw [HN.out] at hn4
      subst hn4
      have HO4 := Lib.hid (OwnB.rd hown4)
      clear hown4 hb4
      go_wp2_with fail
      refine (CG.out _ _ _ HO4.out).mono ?_
      rintro e w5 ⟨rfl, rfl⟩
      go_wp2_with fail
      go_ret2
      exact ⟨rfl, HB4.out⟩
    · rw [if_neg hb, if_neg hb]
      have hb2 : 2147483648 ≤ N := by omega
      go_enter Try.func16, Try.ntmps16
      go_wp2_with fail
      refine C.out.mono ?_
      rintro e w4 ⟨a4, n4, c4, rfl, hown4, hb4⟩
      have HB4 := Lib.hid hb4
      have hn4 := hown4.len
      rw [HN.out] at hn4
      subst hn4
      have HO4 := Lib.hid (OwnB.rd hown4)
      clear hown4 hb4
      go_wp2_with fail
      refine (CG.out _ _ _ HO4.out).mono ?_
      rintro e w5 ⟨rfl, rfl⟩
      go_wp2_with fail
      go_ret2
      exact ⟨rfl, HB4.out⟩
  · obtain ⟨rfl, rfl⟩ := HE'.out h
    simp only [h, false_and, if_false]
    clear h HE HE' HL
    go_enter Try.func16, Try.ntmps16
    go_wp2_with fail
    refine C.out.mono ?_
    rintro e w4 ⟨a4, n4, c4, rfl, hown4, hb4⟩
    have HB4 := Lib.hid hb4
    clear hown4 hb4
    go_wp2_with fail
    go_ret2
    exact ⟨rfl, HB4.out⟩

/-! ## SetNumber -/
def numInB (n : Int) : Bool := decide (0 ≤ n ∧ n < 2147483648)
def setNL (l : List UInt8) (i n : Int) : List UInt8 := if 0 ≤ n ∧ n < 2147483648 then setL l i (bytesOf n.toNat 4) else []
def setNE (l : List UInt8) (i n : Int) : Int := if 0 ≤ n ∧ n < 2147483648 then setE l i (bytesOf n.toNat 4) else 81

set_option maxRecDepth 100000 in
theorem setnumber_any (a : Option Addr) (n cap : Nat) (l : List UInt8) (i v : Int) (w : World) (hn : l.length = n) (hc : n ≤ cap) (hr : Rd w w.heap.size a (bs l)) (hv : -9223372036854775808 ≤ v ∧ v ≤ 9223372036854775807) :
    Calls Try.prog 17 #[.slice a n cap, .int .i64 i, .int .i64 v] w (Made2 (setNL l i v) (setNE l i v) w) := by
  have CF := Lib.hid (fits_any v 0 2147483647 w hv (by decide) (by decide))
  unfold setNL setNE
  by_cases h : 0 ≤ v ∧ v < 2147483648
  · rw [if_pos h, if_pos h]
    rw [fits_yes (by omega)] at CF
    obtain ⟨k, rfl⟩ : ∃ k : Nat, (k : Int) = v := ⟨v.toNat, by omega⟩
    have CP := Lib.hid (put_good k 4 w (by decide) (by decide) (by omega))
    have hw : IntKind.u64.wrap (k : Int) = (k : Int) := by rw [IntKind.wrap_u64]; omega
    have HR := Lib.hid hr
    have CS := Lib.hid (fun (w1 : World) (hb : Below w.heap.size w w1) (af : Option Addr) (hrf : Rd w1 w1.heap.size af (bs (bytesOf k 4))) =>
      setfield_any a n cap l i af 4 4 (bytesOf k 4) w1 hn hc (hr.below hb).lt_size (bytesOf_length _ _) hrf (by decide))
    clear hr h
    rw [Int.toNat_natCast]
    go_enter Try.func17, Try.ntmps17
    go_wp2_with fail
    refine CF.out.mono ?_
    rintro e w4 ⟨rfl, rfl⟩
    go_wp2_with fail
    refine CP.out.mono ?_
    rintro e w5 ⟨rfl, hown5, hb5⟩
    have HO5 := Lib.hid (OwnB.rd hown5)
    have HB5 := Lib.hid hb5
    clear hown5 hb5
    go_wp2_with fail
    refine (CS.out _ HB5.out _ HO5.out).mono ?_
    rintro e w6 ⟨a6, n6, c6, rfl, hown6, hb6⟩
    have HO6 := Lib.hid (hown6.base_mono HB5.out.size)
    have HB6 := Lib.hid (HB5.out.trans (hb6.mono HB5.out.size))
    clear hown6 hb6
    go_wp2_with fail
    go_ret2
    exact ⟨_, _, _, rfl, HO6.out, HB6.out⟩
  · rw [if_neg h, if_neg h]
    rw [fits_no (by omega)] at CF
    clear h hr
    go_enter Try.func17, Try.ntmps17
    go_wp2_with fail
    refine CF.out.mono ?_
    rintro e w4 ⟨rfl, rfl⟩
    go_wp2_with fail
    go_ret2
    exact ⟨_, _, _, rfl, OwnB.nil _ _, Below.refl _ _⟩

set_option maxRecDepth 100000 in
theorem rsetnumber_any (a : Option Addr) (n cap : Nat) (l : List UInt8) (i v : Int) (w : World) (hn : l.length = n) (hc : n ≤ cap) (hr : Rd w w.heap.size a (bs l)) (hv : -9223372036854775808 ≤ v ∧ v ≤ 9223372036854775807) :
    Calls Try.prog 18 #[.slice a n cap, .int .i64 i, .int .i64 v] w (Made2 (setNL l i v) (setNE l i v) w) := by
  unfold setNL setNE
  by_cases h0 : 0 ≤ v
  · by_cases h1 : v < 2147483648
    · have h := And.intro h0 h1
      rw [if_pos h, if_pos h]
      obtain ⟨k, rfl⟩ : ∃ k : Nat, (k : Int) = v := ⟨v.toNat, by omega⟩
      have CP := Lib.hid (bytes_good k 4 w (by decide) (by decide) (by omega))
      have hw : IntKind.u64.wrap (k : Int) = (k : Int) := by rw [IntKind.wrap_u64]; omega
      have HR := Lib.hid hr
      have CS := Lib.hid (fun (w1 : World) (hb : Below w.heap.size w w1) (af : Option Addr) (hrf : Rd w1 w1.heap.size af (bs (bytesOf k 4))) =>
        rsetfield_any a n cap l i af 4 4 (bytesOf k 4) w1 hn hc (hr.below hb).lt_size (bytesOf_length _ _) hrf (by decide))
      have hd0 : decide ((k : Int) < 0) = false := decide_eq_false (by omega)
      have hd1 : decide ((2147483648 : Int) ≤ (k : Int)) = false := decide_eq_false (by omega)
      have hi0 : ¬ ((k : Int) < 0) := by omega
      have hi1 : ¬ ((2147483648 : Int) ≤ (k : Int)) := by omega
      clear hr h h0 h1
      rw [Int.toNat_natCast]
      go_enter Try.func18, Try.ntmps18
      go_wp2_with fail
      refine CP.out.mono ?_
      rintro e w5 ⟨rfl, hown5, hb5⟩
      have HO5 := Lib.hid (OwnB.rd hown5)
      have HB5 := Lib.hid hb5
      clear hown5 hb5
      go_wp2_with fail
      refine (CS.out _ HB5.out _ HO5.out).mono ?_
      rintro e w6 ⟨a6, n6, c6, rfl, hown6, hb6⟩
      have HO6 := Lib.hid (hown6.base_mono HB5.out.size)
      have HB6 := Lib.hid (HB5.out.trans (hb6.mono HB5.out.size))
      clear hown6 hb6
      go_wp2_with fail
      go_ret2
      exact ⟨_, _, _, rfl, HO6.out, HB6.out⟩
    · have h : ¬ (0 ≤ v ∧ v < 2147483648) := by omega
      rw [if_neg h, if_neg h]
      have h2 : 2147483648 ≤ v := by omega
      clear h hr
      go_enter Try.func18, Try.ntmps18
      go_wp2_with fail
      go_ret2
      exact ⟨_, _, _, rfl, OwnB.nil _ _, Below.refl _ _⟩
  · have h : ¬ (0 ≤ v ∧ v < 2147483648) := by omega
    rw [if_neg h, if_neg h]
    clear h hr
    go_enter Try.func18, Try.ntmps18
    go_wp2_with fail
    go_ret2
    exact ⟨_, _, _, rfl, OwnB.nil _ _, Below.refl _ _⟩
end Go.Proofs.Ytjmmabilpdiohaa
