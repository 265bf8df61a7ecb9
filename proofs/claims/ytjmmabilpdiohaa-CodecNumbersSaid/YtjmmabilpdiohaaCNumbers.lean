/- CodecNumbers: the walk -/
import Derived.Test.YtjmmabilpdiohaaCApart
namespace Go.Proofs.Ytjmmabilpdiohaa
set_option linter.unusedVariables false
set_option linter.unusedSimpArgs false
open Go.RowKit

theorem num_self (l : List UInt8) (i n : Nat) (hl : l.length = 64) (hi : i < 16) (hn : n < 2147483648) :
    setNE l i n = 0 ∧ sNumV (setNL l i n) i = n ∧ sNumE (setNL l i n) i = 0 ∧ (setNL l i n).length = 64 ∧ ∀ k : Nat, k < 16 → k ≠ i → sNumV (setNL l i n) k = sNumV l k ∧ sNumE (setNL l i n) k = sNumE l k := by
  have hin : ∀ (l : List UInt8) (k : Nat), l.length = 64 → k < 16 → inS l k (4 : Nat) := fun l k h hk => inS_of h (by decide) (by simpa using hk)
  have hb : (bytesOf n 4).length = 4 := bytesOf_length _ _
  have h1 : 0 ≤ (n : Int) ∧ (n : Int) < 2147483648 := by omega
  have e1 : setNL l i n = overlay l (i * 4) (bytesOf n 4) := by
    rw [setNL, if_pos h1, Int.toNat_natCast, setL, hb, if_pos (hin l i hl hi), ← Int.natCast_mul, Int.toNat_natCast]
  have e2 : setNE l i n = 0 := by
    rw [setNE, if_pos h1, Int.toNat_natCast, setE, hb, if_pos (hin l i hl hi)]
  have hov : (overlay l (i * 4) (bytesOf n 4)).length = 64 := by rw [overlay_length _ _ _ (by rw [hb, hl]; omega), hl]
  have hf : ∀ (l : List UInt8) (k : Nat), l.length = 64 → k < 16 → fieldL l k 4 = (l.drop (k * 4)).take 4 := fun l k h hk => fieldL_nat (hin l k h hk)
  have hs : fieldL (overlay l (i * 4) (bytesOf n 4)) i 4 = bytesOf n 4 := by
    rw [hf _ _ hov hi]
    have := field_self l (i * 4) (bytesOf n 4) (by rw [hb, hl]; omega)
    rwa [hb] at this
  have hnum : numOf (bytesOf n 4) = n := by rw [numOf_bytesOf]; exact Nat.mod_eq_of_lt (by omega)
  rw [e1]
  refine ⟨e2, ?_, ?_, hov, fun k hk hki => ?_⟩
  · rw [sNumV, hs, hnum, if_pos ⟨hin _ _ hov hi, h1.2⟩]
  · rw [sNumE, hs, hnum, if_pos ⟨hin _ _ hov hi, h1.2⟩]
  · have ho : fieldL (overlay l (i * 4) (bytesOf n 4)) k 4 = fieldL l k 4 := by
      rw [hf _ _ hov hk, hf _ _ hl hk]
      have := field_other l i k (bytesOf n 4) (by rw [hb, hl]; omega) hki
      rwa [hb] at this
    have i1 : inS (overlay l (i * 4) (bytesOf n 4)) k 4 := hin _ _ hov hk
    have i2 : inS l k 4 := hin _ _ hl hk
    constructor
    · rw [sNumV, sNumV, ho]; simp only [i1, i2]
    · rw [sNumE, sNumE, ho]; simp only [i1, i2]

set_option maxRecDepth 100000 in
set_option maxHeartbeats 4000000 in
theorem law_CodecNumbers (cs : Array Value) (l : List UInt8) (i n : Int) (w : World) (h : Ty.reads (.arr 64) w (Value.agg cs).cells.toList l) (hi : (Lit.int .i64 i).wf = true) (hn : (Lit.int .i64 n).wf = true) :
    Calls Try.prog 5 #[.agg cs, .int .i64 i, .int .i64 n] w fun e w' => e = .returned (.bool true) ∧ Below w.heap.size w w' := by
  obtain ⟨h1, h2⟩ := h
  have hcs : cs = (bs l).toArray := toArray_of h1
  have hib := bounds_i64 hi
  have hnb := bounds_i64 hn
  clear hi hn h1
  go_enter Try.func5, Try.ntmps5
  go_upto_if 15 with (fail)
  have HRB := Lib.hid ((Rd.new w (bs l) 35).lt_size)
  have HB0 := Lib.hid ((Below.refl w.heap.size w).alloc (Nat.le_refl _) (Obj.cells (bs l).toArray 35))
  have hs0 : w.heap.size < (w.alloc (Obj.cells (bs l).toArray 35)).heap.size := by simp
  generalize w.alloc (Obj.cells (bs l).toArray 35) = W0 at HRB HB0 hs0 ⊢
  have HL := Lib.hid h2
  clear h2 hcs
  go_cut [1] (fun v1 wc => wc = W0 ∧ ∃ m : Nat, v1 = .int .i64 m ∧ Hid ((m : Int) ≤ 9223372036854775807))
  case first =>
    by_cases h0 : i < 0
    · have e1 : IntKind.i64.wrap (i + 1) = i + 1 := IntWalk.i64_in _ (by omega)
      have e2 : IntKind.i64.wrap (-(i + 1)) = -(i + 1) := IntWalk.i64_in _ (by omega)
      go_wp2_with fail
      go_meet
      case rel => exact ⟨rfl, (-(i + 1)).toNat, by congr 1; (try simp only [e1, e2]); omega, Lib.hid (by omega)⟩
    · go_wp2_with fail
      go_meet
      case rel => exact ⟨rfl, i.toNat, by congr 1; omega, Lib.hid (by omega)⟩
  case rest =>
    obtain ⟨rfl, m, rfl, hm⟩ := hcut
    go_upto_if 20 with (fail)
    go_cut [2] (fun v2 wd => wd = wc ∧ ∃ m : Nat, v2 = .int .i64 m ∧ Hid ((m : Int) ≤ 9223372036854775807))
    case first =>
      by_cases h0 : n < 0
      · have e1 : IntKind.i64.wrap (n + 1) = n + 1 := IntWalk.i64_in _ (by omega)
        have e2 : IntKind.i64.wrap (-(n + 1)) = -(n + 1) := IntWalk.i64_in _ (by omega)
        go_wp2_with fail
        go_meet
        case rel => exact ⟨rfl, (-(n + 1)).toNat, by congr 1; (try simp only [e1, e2]); omega, Lib.hid (by omega)⟩
      · go_wp2_with fail
        go_meet
        case rel => exact ⟨rfl, n.toNat, by congr 1; omega, Lib.hid (by omega)⟩
    case rest =>
      obtain ⟨rfl, q, rfl, hq⟩ := hcut
      rename World => W1
      go_wp2_with fail
      obtain ⟨I, hI, hI16⟩ : ∃ I : Nat, (m : Int) % 16 = (I : Int) ∧ I < 16 := ⟨m % 16, by omega, by omega⟩
      obtain ⟨V, hV, hV31⟩ : ∃ V : Nat, (q : Int) % 2147483648 = (V : Int) ∧ Hid (V < 2147483648) := ⟨q % 2147483648, by omega, Lib.hid (by omega)⟩
      rw [hI, hV]
      clear hm hq
      have HS := Lib.hid (num_self l I V HL.out hI16 hV31.out)
      have hvb : -9223372036854775808 ≤ (V : Int) ∧ (V : Int) ≤ 9223372036854775807 := by have := hV31.out; omega
      refine (setnumber_any (some ⟨w.heap.size, 0, none⟩) 64 64 l I V _ HL.out (by decide) HRB.out hvb).mono ?_
      rintro e w2 ⟨a2, n2, c2, rfl, hown, hb⟩
      rw [HS.out.1]
      have HN := Lib.hid HS.out.2
      have hn2 := hown.len
      rw [HS.out.2.2.2.1] at hn2
      subst hn2
      obtain ⟨_, _, hv2, hc2⟩ := hown.shape
      have hc2 : 64 ≤ c2 := by
        rw [HS.out.2.2.2.1] at hv2 hc2
        simp only [Value.slice.injEq] at hv2
        omega
      have HRC := Lib.hid (OwnB.rd hown)
      have HB2 := Lib.hid hb
      clear hown hb hv2 hvb HS hib hnb
      generalize setNL l I V = C at HN HRC
      go_wp2_with fail
      go_loopw [9] (fun i wr => ∃ k : Nat, k ≤ 16 ∧ i = .int .i64 k ∧ Below w2.heap.size w2 wr ∧ Below W1.heap.size W1 wr) (fun i _ => 16 - (intOf i).toNat)
      case atStart => exact ⟨0, Nat.zero_le _, rfl, Below.refl _ _, HB2.out⟩
      case round =>
        clear HB2
        obtain ⟨k, hkQ, rfl, hb2, hb1⟩ := hrel
        have HB2 := Lib.hid hb2
        have HB1 := Lib.hid hb1
        clear hb2 hb1
        by_cases hk : k < 16
        · have hkI : (k : Int) < 16 := by omega
          go_wp2_with fail
          refine (number_any _ 64 64 l k _ HL.out (by decide) (HRB.out.below HB1.out).lt_size).mono ?_
          rintro e wa ⟨rfl, hb⟩
          have HB1 := Lib.hid (HB1.out.trans (hb.mono HB1.out.size))
          have HB2 := Lib.hid (HB2.out.trans (hb.mono HB2.out.size))
          clear hb
          go_wp2_with fail
          refine (number_any a2 64 c2 C k _ HN.out.2.2.1 hc2 (HRC.out.below HB2.out).lt_size).mono ?_
          rintro e wb ⟨rfl, hb⟩
          have HB1 := Lib.hid (HB1.out.trans (hb.mono HB1.out.size))
          have HB2 := Lib.hid (HB2.out.trans (hb.mono HB2.out.size))
          clear hb
          by_cases hki : k = I
          · subst hki
            rw [HN.out.1, HN.out.2.1]
            go_wp2_with fail
            go_roundw
            case rel => exact ⟨k + 1, by omega, by go_num, HB2.out, HB1.out⟩
            case measure => simp [intOf]; omega
          · have hki2 : ¬ (k : Int) = (I : Int) := by omega
            rw [(HN.out.2.2.2 k hk hki).1, (HN.out.2.2.2 k hk hki).2]
            go_wp2_with fail
            go_roundw
            case rel => exact ⟨k + 1, by omega, by go_num, HB2.out, HB1.out⟩
            case measure => simp [intOf]; omega
        · have hkI : ¬ (k : Int) < 16 := by omega
          go_wp2_with fail
          refine (calive_any _).mono ?_
          rintro e wz ⟨rfl, hb⟩
          have HB1 := Lib.hid (HB1.out.trans (hb.mono HB1.out.size))
          clear hb
          go_wp2_with fail
          go_ret
          exact ⟨by simp, HB0.out.trans (HB1.out.mono (Nat.le_of_lt hs0))⟩
end Go.Proofs.Ytjmmabilpdiohaa
