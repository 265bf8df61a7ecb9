/- the law: what is unknown changes nothing -/
import Derived.Test.YtnpcpbjoonjaoaaSkK
namespace Go.Proofs.Ytnpcpbjoonjaoaa
set_option linter.unusedVariables false
set_option linter.unusedSimpArgs false
open Go.RowKit

abbrev OptsTy : Ty := .slice (.st (.pair (.int .i64) (.pair .bytes .unit)))
theorem opts_at {w : World} {a : Option Addr} {n c : Nat} {ls : OptsTy.den} (h : OptsTy.reads w [.slice a n c] ls) (i : Nat) (hi : i < n) :
    ∃ b off t ai ni ci d, a = some ⟨b, off, none⟩ ∧ b < w.heap.size ∧ w.cell? ⟨b, off + i * 2, none⟩ = some (.int .i64 t) ∧ w.cell? ⟨b, off + i * 2 + 1, none⟩ = some (.slice ai ni ci) ∧ BytesIn w ai ni ci d := by
  obtain ⟨a', n', c', e, h2, _, _, h5⟩ := h
  simp only [List.cons.injEq, Value.slice.injEq, and_true] at e
  obtain ⟨rfl, rfl, rfl⟩ := e
  have hlt : i < List.length ls := Nat.lt_of_lt_of_eq hi h2.symm
  rcases h5 with h5 | ⟨b, off, ha, hb, hat⟩
  · omega
  · obtain ⟨cells, hcl, hcell, hB⟩ := hat i _ (List.getElem?_eq_getElem hlt)
    obtain ⟨cs1, hc1, _, hB⟩ := reads_int hB
    obtain ⟨ai, ni, ci, cs2, hc2, hD, hB⟩ := reads_bytes hB
    have h5 : cs2 = [] := hB
    subst h5; subst hc2; subst hc1
    have q0 := hcell 0 _ rfl
    have q1 := hcell 1 _ rfl
    exact ⟨b, off, _, ai, ni, ci, _, ha, hb, by simpa [Ty.size] using q0, by simpa [Ty.size] using q1, hD⟩
abbrev IntsTy : Ty := .slice (.int .i64)
theorem ints_at {w : World} {a : Option Addr} {n c : Nat} {ls : IntsTy.den} (h : IntsTy.reads w [.slice a n c] ls) (i : Nat) (hi : i < n) :
    ∃ b off z, a = some ⟨b, off, none⟩ ∧ b < w.heap.size ∧ w.cell? ⟨b, off + i, none⟩ = some (.int .i64 z) := by
  obtain ⟨a', n', c', e, h2, _, _, h5⟩ := h
  simp only [List.cons.injEq, Value.slice.injEq, and_true] at e
  obtain ⟨rfl, rfl, rfl⟩ := e
  have hlt : i < List.length ls := Nat.lt_of_lt_of_eq hi h2.symm
  rcases h5 with h5 | ⟨b, off, ha, hb, hat⟩
  · omega
  · obtain ⟨cells, hcl, hcell, hB⟩ := hat i _ (List.getElem?_eq_getElem hlt)
    obtain ⟨hc1, _⟩ := hB
    subst hc1
    have q0 := hcell 0 _ rfl
    exact ⟨b, off, _, ha, hb, by simpa [Ty.size] using q0⟩
theorem sl_len {t : Ty} {w : World} {a : Option Addr} {n c : Nat} {x : (Ty.slice t).den} (h : Ty.reads (.slice t) w [.slice a n c] x) : n ≤ 9223372036854775807 := by
  obtain ⟨a', n', c', e, h2, h3, h4, _⟩ := h
  simp only [List.cons.injEq, Value.slice.injEq, and_true] at e
  obtain ⟨rfl, rfl, rfl⟩ := e
  omega
theorem sl_arg {t : Ty} {w : World} {a : Option Addr} {n c : Nat} {x : (Ty.slice t).den} (h : Ty.reads (.slice t) w (Value.slice a n c).cells.toList x) : Ty.reads (.slice t) w [.slice a n c] x := h

/-- Both handshakes are at one state. -/
def UnR (W : World) (gh gg : Nat) (N : List UInt8) (S : Nat) (n : Nat) (vi : Value) (wr : World) : Prop :=
  ∃ (i : Nat) (s : Sk), i ≤ n ∧ i ≤ 20 ∧ vi = .int .i64 (i : Int) ∧ SkAt wr gh s ∧ SkAt wr gg s ∧ Below W.heap.size W wr ∧ s.name = N ∧ s.sectors = S ∧ s.phase ≤ 3 ∧ 1 ≤ s.phase
theorem one_phase1 (s : Sk) (b : List UInt8) (h : 1 ≤ s.phase) : 1 ≤ (oneR s b).1.phase := by
  rw [oneR, if_neg (by omega)]
  split
  · simp
  · split
    · exact h
    · split
      · have := (expName_same s (optR b).2.1).2.2.2.2.2
        simp only
        omega
      · simp only
        rw [ansR]
        split
        · simp
        · split
          · exact h
          · split
            · simp only; split
              · simp
              · exact h
            · split
              · split
                · exact h
                · split <;> exact h
              · exact h
theorem feedF_phase1 : ∀ (k : Nat) (s : Sk) (b : List UInt8), 1 ≤ s.phase → 1 ≤ (feedF k s b).1.phase
  | 0, s, b, h => h
  | k + 1, s, b, h => by
    rw [feedF]
    split
    · split
      · exact one_phase1 s b h
      · exact feedF_phase1 k _ _ (one_phase1 s b h)
    · exact h
theorem feedR_phase1 (s : Sk) (b : List UInt8) (h : 1 ≤ s.phase) : 1 ≤ (feedR s b).1.phase := feedF_phase1 _ s b h
theorem other_keep {w w' : World} {g g' : Nat} {s : Sk} (h : SkAt w g s) (hg : w.grownBy w' (some g')) (hne : g ≠ g') : SkAt w' g s := Blk.keep h (hg.block g (Blk.lt h) (fun e => by injection e; omega))
theorem apart_own {w : World} {a : Option Addr} {n c g base : Nat} {l : List UInt8} (h : OwnB w base (.slice a n c) l) (hg : g < base) : ApartB g a l := by
  rcases a with _ | ad
  · exact .inr fun _ had => by cases had
  · refine .inr fun ad' had => ?_
    injection had with had
    subst had
    have := (OwnG.lt h ad.block rfl).1
    omega
theorem feed_first (N : List UInt8) (S : Nat) (ro : Bool) (hN : N.length ≤ 1000) : feedR ⟨N, S, ro, 0, false, false⟩ [0, 0, 0, 1] = (⟨N, S, ro, 1, false, false⟩, [], 4) := by
  have hn : numOf (([0, 0, 0, 1] : List UInt8).take 4) = 1 := by decide +kernel
  have h0 : oneR ⟨N, S, ro, 0, false, false⟩ [0, 0, 0, 1] = (⟨N, S, ro, 1, false, false⟩, [], 4) := by
    rw [oneR, if_pos rfl, if_neg (by simp), hn]
    simp
  have h2 : oneR ⟨N, S, ro, 1, false, false⟩ [] = (⟨N, S, ro, 1, false, false⟩, [], 0) := by
    rw [oneR, if_neg (by simp)]
    rfl
  have h3 : feedR ⟨N, S, ro, 1, false, false⟩ [] = (⟨N, S, ro, 1, false, false⟩, [], 0) := by rw [feedR_eq _ _ hN, if_pos (by simp), h2, if_pos rfl]
  have hd : List.drop 4 ([0, 0, 0, 1] : List UInt8) = [] := rfl
  rw [feedR_eq _ _ hN, if_pos (by simp), h0, if_neg (by simp)]
  simp only [hd, h3, List.append_nil, Nat.add_zero]

set_option maxRecDepth 20000 in
set_option maxHeartbeats 4000000 in
theorem law_ShakeUnknown (cs : Array Value) (x : ExpTy.den) (a : Option Addr) (n c : Nat) (ls : OptsTy.den) (a2 : Option Addr) (n2 c2 : Nat) (ks : IntsTy.den) (W : World) (hx : ExpTy.reads W (Value.agg cs).cells.toList x) (hl : OptsTy.reads W (Value.slice a n c).cells.toList ls) (hk : IntsTy.reads W (Value.slice a2 n2 c2).cells.toList ks) :
    Calls Try.prog 11 #[.agg cs, .slice a n c, .slice a2 n2 c2] W fun e w' => e = .returned (.bool true) ∧ Below W.heap.size W w' := by
  obtain ⟨nm, sec, ro, rfl, hs, hnl⟩ := exp_open cs x W hx
  have HL := Lib.hid (sl_arg hl)
  have HKS := Lib.hid (sl_arg hk)
  have HN63 := Lib.hid (sl_len (sl_arg hl))
  have HN263 := Lib.hid (sl_len (sl_arg hk))
  have hbx : Below W.heap.size W (W.alloc (.cells #[Value.string ⟨nm.toArray⟩, Value.int .i64 sec, Value.bool ro] 54)) := (Below.refl _ _).alloc (Nat.le_refl _) _
  clear hx hl hk
  go_enter Try.func11, Try.ntmps11
  have HBX := Lib.hid hbx
  have HFI := Lib.hid (fit_any nm sec ro (W.alloc (.cells #[Value.string ⟨nm.toArray⟩, Value.int .i64 sec, Value.bool ro] 54)) hs hnl)
  obtain ⟨N, hN⟩ : ∃ N, nm.take 64 = N := ⟨_, rfl⟩
  have hNl : N.length ≤ 64 := by rw [← hN, List.length_take]; omega
  obtain ⟨S, hS⟩ : ∃ S, fitN sec = S := ⟨_, rfl⟩
  have hSl : S ≤ 8192 := by rw [← hS]; exact fitN_le sec
  rw [hN, hS] at HFI
  clear hbx hN hS hs hnl
  go_wp2_with fail
  refine HFI.out.mono ?_
  rintro e w2 ⟨rfl, hb2⟩
  have hb3 := (HBX.out.trans (hb2.mono HBX.out.size)).alloc (HBX.out.trans (hb2.mono HBX.out.size)).size (.cells #[Value.string ⟨N.toArray⟩, Value.int .i64 (S : Int), Value.bool ro] 54)
  have hY : Blk (w2.alloc (.cells #[Value.string ⟨N.toArray⟩, Value.int .i64 (S : Int), Value.bool ro] 54)) w2.heap.size 54 [Value.string ⟨N.toArray⟩, Value.int .i64 (S : Int), Value.bool ro] := Blk.new _ _ _
  go_upto_region 2 with (fail)
  generalize w2.alloc (.cells #[Value.string ⟨N.toArray⟩, Value.int .i64 (S : Int), Value.bool ro] 54) = w3 at hb3 hY ⊢
  have HB3 := Lib.hid hb3
  have HY := Lib.hid hY
  have y0 := hY.cell 0 _ rfl
  have y1 := hY.cell 1 _ rfl
  have y2 := hY.cell 2 _ rfl
  clear hb2 hb3 HFI HBX hY
  go_wp2_with fail
  refine (new_sk N S ro w3).mono ?_
  rintro e w4 ⟨rfl, hk4, hb4⟩
  have hg : W.heap.size ≤ w3.heap.size := HB3.out.size
  have hY4 := HY.out.below hb4
  have y0 := hY4.cell 0 _ rfl
  have y1 := hY4.cell 1 _ rfl
  have y2 := hY4.cell 2 _ rfl
  have hlt4 := hk4.lt
  obtain ⟨gh, hgh⟩ : ∃ gh, w3.heap.size = gh := ⟨_, rfl⟩
  rw [hgh] at hk4 hg hlt4 ⊢
  have HB4 := Lib.hid (HB3.out.trans (hb4.mono HB3.out.size))
  have HK4 := Lib.hid hk4
  clear hb4 hk4 hgh HB3 hY4 HY
  go_wp2_with fail
  refine (new_sk N S ro w4).mono ?_
  rintro e w5 ⟨rfl, hk5, hb5⟩
  obtain ⟨gg, hgg⟩ : ∃ gg, w4.heap.size = gg := ⟨_, rfl⟩
  have hh5 : SkAt w5 gh ⟨N, S, ro, 0, false, false⟩ := Blk.below HK4.out hb5
  have HB5 := Lib.hid (HB4.out.trans (hb5.mono HB4.out.size))
  rw [hgg] at hk5 hlt4 ⊢
  have HK5 := Lib.hid hk5
  have HH5 := Lib.hid hh5
  have HGG : Hid (gh < gg) := Lib.hid hlt4
  clear hb5 hk5 hh5 hgg HK4 HB4 y0 y1 y2 hlt4
  go_wp2_with fail
  refine (skalive_any _).mono ?_
  rintro e w6 ⟨rfl, hb6⟩
  have hk6 : SkAt w6 gg ⟨N, S, ro, 0, false, false⟩ := Blk.below HK5.out hb6
  have hh6 : SkAt w6 gh ⟨N, S, ro, 0, false, false⟩ := Blk.below HH5.out hb6
  have HB6 := Lib.hid (HB5.out.trans (hb6.mono HB5.out.size))
  -- the first four bytes, to each
  have HW6 := Lib.hid (HB6.out.alloc HB6.out.size (Obj.cells #[Value.int .u8 0, Value.int .u8 0, Value.int .u8 0, Value.int .u8 1] 5))
  have HK6 : Hid (SkAt (w6.alloc (Obj.cells #[Value.int .u8 0, Value.int .u8 0, Value.int .u8 0, Value.int .u8 1] 5)) gg ⟨N, S, ro, 0, false, false⟩) := Lib.hid (Blk.below hk6 ((Below.refl _ _).alloc (Nat.le_refl _) _))
  have hr6 : Rd (w6.alloc (Obj.cells #[Value.int .u8 0, Value.int .u8 0, Value.int .u8 0, Value.int .u8 1] 5)) (w6.heap.size + 1) (some ⟨w6.heap.size, 0, none⟩) (bs [0, 0, 0, 1]) := Rd.new w6 (bs [0, 0, 0, 1]) 5
  have hgl := hk6.lt
  have hF1 := feed_any gh ⟨N, S, ro, 0, false, false⟩ (some ⟨w6.heap.size, 0, none⟩) 4 4 [0, 0, 0, 1] (w6.alloc (Obj.cells #[Value.int .u8 0, Value.int .u8 0, Value.int .u8 0, Value.int .u8 1] 5)) (Blk.below hh6 ((Below.refl _ _).alloc (Nat.le_refl _) _)) hSl (by show N.length ≤ 1000; omega) rfl (Nat.le_refl _) (by omega) (hr6.more (by rw [World.size_alloc]; omega)) (.inr fun ad had => by injection had with had; subst had; show w6.heap.size ≠ gh; have := HGG.out; omega) (by omega)
  rw [feed_first N S ro (by omega)] at hF1
  have HF1 := Lib.hid hF1
  clear hb6 hk6 hh6 hr6 hF1 HB5 HK5 HH5 hgl
  go_wp2_with fail
  refine HF1.out.mono ?_
  rintro e w7 ⟨a7, n7, c7, rfl, _, hk7, hg7⟩
  simp only at hk7 ⊢
  have hB7 : Below W.heap.size W w7 := HW6.out.grown hg7 HW6.out.size (fun z hz => by injection hz with hz; omega)
  have hkg7 : SkAt w7 gg ⟨N, S, ro, 0, false, false⟩ := other_keep HK6.out hg7 (by have := HGG.out; omega)
  have HW7 := Lib.hid (hB7.alloc hB7.size (Obj.cells #[Value.int .u8 0, Value.int .u8 0, Value.int .u8 0, Value.int .u8 1] 5))
  have HK7 : Hid (SkAt (w7.alloc (Obj.cells #[Value.int .u8 0, Value.int .u8 0, Value.int .u8 0, Value.int .u8 1] 5)) gh ⟨N, S, ro, 1, false, false⟩) := Lib.hid (Blk.below hk7 ((Below.refl _ _).alloc (Nat.le_refl _) _))
  have hr7 : Rd (w7.alloc (Obj.cells #[Value.int .u8 0, Value.int .u8 0, Value.int .u8 0, Value.int .u8 1] 5)) (w7.heap.size + 1) (some ⟨w7.heap.size, 0, none⟩) (bs [0, 0, 0, 1]) := Rd.new w7 (bs [0, 0, 0, 1]) 5
  have hgl := hkg7.lt
  have hF2 := feed_any gg ⟨N, S, ro, 0, false, false⟩ (some ⟨w7.heap.size, 0, none⟩) 4 4 [0, 0, 0, 1] (w7.alloc (Obj.cells #[Value.int .u8 0, Value.int .u8 0, Value.int .u8 0, Value.int .u8 1] 5)) (Blk.below hkg7 ((Below.refl _ _).alloc (Nat.le_refl _) _)) hSl (by show N.length ≤ 1000; omega) rfl (Nat.le_refl _) (by omega) (hr7.more (by rw [World.size_alloc]; omega)) (.inr fun ad had => by injection had with had; subst had; show w7.heap.size ≠ gg; omega) (by omega)
  rw [feed_first N S ro (by omega)] at hF2
  have HF2 := Lib.hid hF2
  clear hk7 hg7 hB7 hkg7 hr7 hF2 hgl HK6 HW6 HF1
  go_wp2_with fail
  refine HF2.out.mono ?_
  rintro e w8 ⟨a8, n8, c8, rfl, _, hk8, hg8⟩
  simp only at hk8 ⊢
  have HB8 : Hid (Below W.heap.size W w8) := Lib.hid (HW7.out.grown hg8 HW7.out.size (fun z hz => by injection hz with hz; have := HGG.out; omega))
  have HH8 : Hid (SkAt w8 gh ⟨N, S, ro, 1, false, false⟩) := Lib.hid (other_keep HK7.out hg8 (by have := HGG.out; omega))
  have HK8 := Lib.hid hk8
  clear hk8 hg8 HK7 HW7 HF2
  go_wp2_with fail
  go_loopw [10] (fun vi wr => UnR W gh gg N S n vi wr) (fun vi _ => 20 - (intOf vi).toNat)
  case atStart => exact ⟨0, ⟨N, S, ro, 1, false, false⟩, Nat.zero_le _, Nat.zero_le _, rfl, HH8.out, HK8.out, HB8.out, rfl, rfl, by simp, by simp⟩
  case round =>
    clear HH8 HK8 HB8
    obtain ⟨i, s, hi, hi20, rfl, hh, hkk, hb, hn1, hn2, hp3, hp1⟩ := hrel
    have HH := Lib.hid hh
    have HKK := Lib.hid hkk
    have HB := Lib.hid hb
    have HN1 := Lib.hid hn1
    have HN2 := Lib.hid hn2
    have i0 : (0 : Int) ≤ (i : Int) := Int.natCast_nonneg i
    clear hh hkk hb hn1 hn2
    by_cases hgo : i < n
    · have hgoI : (i : Int) < (n : Int) := by omega
      by_cases hgo2 : i < 20
      · have hgoI2 : (i : Int) < 20 := by omega
        obtain ⟨bl, ol, t, ai, ni, ci, d, rfl, hbl, hc0, hc1, hD⟩ := opts_at HL.out i hgo
        have HD := Lib.hid hD
        have HBLT := Lib.hid hbl
        have hl0 := (HB.out.cell (p := ⟨bl, ol + i * 2, none⟩) hbl).trans hc0
        have hl1 := (HB.out.cell (p := ⟨bl, ol + i * 2 + 1, none⟩) hbl).trans hc1
        have HC0 := Lib.hid hc0
        have HC1 := Lib.hid hc1
        clear hD hbl hc0 hc1
        go_upto_if 67 with (fail)
        go_cut [11] (fun v wn => (∃ k : Nat, v = .int .i64 (k : Int) ∧ 9 ≤ k ∧ k < 2000) ∧ wn = wr)
        case first =>
          by_cases hk : i < n2
          · have hkI : (i : Int) < (n2 : Int) := by omega
            obtain ⟨bk, ok, z, rfl, hbk, hck⟩ := ints_at HKS.out i hk
            have hck' := (HB.out.cell (p := ⟨bk, ok + i, none⟩) hbk).trans hck
            have hz := u32_wrap z
            obtain ⟨q, hq⟩ : ∃ q, u64n z % 4294967296 = q := ⟨_, rfl⟩
            rw [hq] at hz
            have hq2 : q < 4294967296 := by omega
            clear hck hbk hq
            go_wp2_with fail
            go_meet
            exact ⟨⟨q % 1000 + 9, by simp, by omega, by omega⟩, rfl⟩
          · have hkI : ¬ ((i : Int) < (n2 : Int)) := by omega
            go_wp2_with fail
            go_meet
            exact ⟨⟨100, rfl, by omega, by omega⟩, rfl⟩
        case rest =>
          obtain ⟨⟨k, rfl, hk9, hk2⟩, rfl⟩ := hcut
          rename World => wr
          obtain ⟨E, hE⟩ : ∃ E, optE k (d.take 1000) = E := ⟨_, rfl⟩
          have hd1 : (d.take 1000).length ≤ 1024 := by rw [List.length_take]; omega
          have hEl : E.length ≤ 1016 := by rw [← hE, optE_length, List.length_take]; omega
          have hun : s.phase = 1 → feedR s E = (s, optionReplyL (k : Int) 2147483649 [], E.length) := fun hp => by rw [← hE]; exact feed_unknown s k hk9 (by omega) _ hd1 (by rw [HN1.out]; omega) hp
          have hov : ¬ s.phase < 2 → feedR s E = (s, [], 0) := fun hp => feedR_over s E (by rw [HN1.out]; omega) hp
          have HUN := Lib.hid hun
          have HOV := Lib.hid hov
          have CO := option21_any k (by omega) ai ni ci d wr HD.out.len_eq HD.out.le_cap HD.out.small ((HD.out.rd.below HB.out).more HB.out.size)
          rw [hE] at CO
          have HCO := Lib.hid CO
          have HEL := Lib.hid hEl
          have HGL := Lib.hid (Blk.lt HKK.out)
          clear hE hd1 hEl hun hov CO
          go_wp2_with fail
          refine HCO.out.mono ?_
          rintro e wA ⟨aa, na, ca, rfl, hownA, hbA⟩
          have hna := OwnB.len hownA
          subst hna
          have hcapA := OwnB.capm hownA
          have hapA : ApartB gg aa E := apart_own hownA HGL.out
          have hkA : SkAt wA gg s := Blk.below HKK.out hbA
          have hhA : SkAt wA gh s := Blk.below HH.out hbA
          have HHA := Lib.hid hhA
          have HBA := Lib.hid (HB.out.trans (hbA.mono HB.out.size))
          have HF := Lib.hid (feed_any gg s aa E.length ca E wA hkA (by rw [HN2.out]; exact hSl) (by rw [HN1.out]; omega) rfl hcapA.1 hcapA.2 (OwnB.rd hownA) hapA (by have := HEL.out; omega))
          clear hownA hbA hcapA hapA hkA hhA HCO HH HKK HB hl0 hl1
          go_wp2_with fail
          refine HF.out.mono ?_
          rintro e wB ⟨ab, nb, cb, rfl, hownB, hkB, hgB⟩
          have hnb := OwnB.len hownB
          subst hnb
          have hstate : (feedR s E).1 = s := by
            by_cases hp : s.phase = 1
            · rw [HUN.out hp]
            · rw [HOV.out (by omega)]
          rw [hstate] at hkB
          have HKB := Lib.hid hkB
          have HHB := Lib.hid (other_keep HHA.out hgB (by have := HGG.out; omega))
          have HBB : Hid (Below W.heap.size W wB) := Lib.hid (HBA.out.grown hgB HBA.out.size (fun z hz => by injection hz with hz; have := HGG.out; omega))
          have HOB := Lib.hid (OwnB.rd hownB)
          have HPB := Lib.hid (phase_any gg s wB hkB)
          clear hownB hkB hgB hstate HF HHA HBA
          go_upto_region 16 with (fail)
          obtain ⟨R, hR⟩ : ∃ R, optionReplyL (k : Int) 2147483649 [] = R := ⟨_, rfl⟩
          have HR := Lib.hid hR
          have HOBR : Hid (s.phase = 1 → Rd wB wB.heap.size ab (bs R)) := Lib.hid (fun hp => by have h := HOB.out; rw [HUN.out hp] at h; rw [← hR]; exact h)
          clear hR
          go_cut [13, 14, 96] (fun v13 v14 v wn => wn = wB ∧ ((s.phase = 1 ∧ v = .bool true ∧ v13 = .slice ab R.length cb ∧ v14 = .int .i64 (E.length : Int)) ∨ (¬ s.phase = 1 ∧ v = .bool false)))
          case first =>
            go_wp2_with fail
            refine HPB.out.mono ?_
            rintro e wC ⟨rfl, rfl⟩
            by_cases hp : s.phase = 1
            · have hpB : ((s.phase : Int) == 1) = true := beq_iff_eq.2 (by omega)
              have h1 := HUN.out hp
              rw [HR.out] at h1
              rw [h1]
              simp only
              have HP := Lib.hid hp
              clear h1 hp
              go_wp2_with fail
              go_meet
              exact ⟨rfl, .inl ⟨HP.out, rfl, rfl, rfl⟩⟩
            · have hpB : ((s.phase : Int) == 1) = false := beq_eq_false_iff_ne.2 (by omega)
              have h1 := HOV.out (by omega)
              rw [h1]
              simp only
              have HP := Lib.hid hp
              clear h1 hp
              go_wp2_with fail
              go_meet
              exact ⟨rfl, .inr ⟨HP.out, rfl⟩⟩
          case' rest =>
            obtain ⟨hw, hor⟩ := hcut
            subst hw
            rename World => wB
          go_upto_if 96 with (fail)
          go_cut [15] (fun v wn => SkAt wn gg s ∧ SkAt wn gh s ∧ Below W.heap.size W wn)
          case first =>
            rcases hor with ⟨hp, rfl, rfl, rfl⟩ | ⟨hp, rfl⟩
            · have CR := roptionReply_any (k : Int) 2147483649 none 0 0 [] wB rfl (by omega) .nil
              rw [HR.out] at CR
              have HCR := Lib.hid CR
              have HOBQ := Lib.hid (HOBR.out hp)
              clear CR hp
              go_wp2_with fail
              refine HCR.out.mono ?_
              rintro e wD ⟨ad, nd, cd, rfl, hownD, hbD⟩
              have hnd := OwnB.len hownD
              subst hnd
              have hsame := same_any ab ad R.length R.length cb cd R R wD rfl rfl (HOBQ.out.below hbD) (OwnB.rd hownD)
              rw [beq_self_eq_true] at hsame
              have HSA := Lib.hid hsame
              have HKD := Lib.hid (Blk.below HKB.out hbD)
              have HHD := Lib.hid (Blk.below HHB.out hbD)
              have HBD := Lib.hid (HBB.out.trans (hbD.mono HBB.out.size))
              clear hownD hbD hsame HCR
              go_wp2_with fail
              refine HSA.out.mono ?_
              rintro e wE ⟨rfl, rfl⟩
              go_wp2_with fail
              go_meet
              exact ⟨HKD.out, HHD.out, HBD.out⟩
            · go_wp2_with fail
              go_meet
              exact ⟨HKB.out, HHB.out, HBB.out⟩
          case rest =>
            obtain ⟨hkC, hhC, hbC⟩ := hcut
            rename World => wC
            have HKC := Lib.hid hkC
            have HHC := Lib.hid hhC
            have HBC := Lib.hid hbC
            have hz := u32_wrap t
            obtain ⟨q, hq⟩ : ∃ q, u64n t % 4294967296 = q := ⟨_, rfl⟩
            rw [hq] at hz
            have hq2 : q < 4294967296 := by omega
            have tmq : (q : Int).tmod 9 = ((q % 9 : Nat) : Int) := by rw [Int.tmod_eq_emod_of_nonneg (by omega)]; omega
            have hbd : Below W.heap.size W wC.drew := hbC.drew
            have hl0 := (hbd.cell (p := ⟨bl, ol + i * 2, none⟩) HBLT.out).trans HC0.out
            have hl1 := (hbd.cell (p := ⟨bl, ol + i * 2 + 1, none⟩) HBLT.out).trans HC1.out
            have HBD := Lib.hid hbd
            have CO2 := option21_any (q % 9) (by omega) ai ni ci d wC.drew HD.out.len_eq HD.out.le_cap HD.out.small ((HD.out.rd.below hbd).more hbd.size)
            obtain ⟨E2, hE2⟩ : ∃ E2, optE (q % 9) (d.take 1000) = E2 := ⟨_, rfl⟩
            have hE2l : E2.length ≤ 1016 := by rw [← hE2, optE_length, List.length_take]; omega
            rw [hE2] at CO2
            have HCO2 := Lib.hid CO2
            have HE2 := Lib.hid hE2l
            have hwq : IntKind.i64.wrap ((q : Int) % 9) = (q : Int) % 9 := IntWalk.i64_in _ (by omega)
            clear hkC hhC hbC hq hbd CO2 hE2 hE2l HUN HOV HKB HHB HBB HOB HPB HR HOBR
            go_upto_region 20 with (fail)
            refine wp_region_still_tail 13 (by kernel_rfl) (by kernel_rfl) ?_
            change wpStill _ _ wC.drew _ _ _
            have HL0 := Lib.hid hl0
            have HL1 := Lib.hid hl1
            generalize wC.drew = wx at hl0 hl1 ⊢
            simp only [List.take_succ_cons, List.take_zero, List.drop_succ_cons, List.drop_zero]
            repeat still_step
            refine wpStill_nil ?_
            clear hl0 hl1
            change wpList _ _ _ _ _ wC.drew
            go_wp2_with fail
            rw [show (q : Int) % 9 = ((q % 9 : Nat) : Int) by omega]
            refine HCO2.out.mono ?_
            rintro e wD ⟨ad, nd, cd, rfl, hownD, hbD⟩
            have hnd := OwnB.len hownD
            subst hnd
            have hcapD := OwnB.capm hownD
            have hkD : SkAt wD gg s := Blk.below (Blk.below HKC.out (Below.refl _ _).drew) hbD
            have hhD : SkAt wD gh s := Blk.below (Blk.below HHC.out (Below.refl _ _).drew) hbD
            have hsz : gg < wC.drew.heap.size := Blk.lt HKC.out
            have hap1 : ApartB gh ad E2 := apart_own hownD (by have := HGG.out; omega)
            have hap2 : ApartB gg ad E2 := apart_own hownD hsz
            have HAP2 := Lib.hid hap2
            have HKD := Lib.hid hkD
            have HBD2 := Lib.hid (HBD.out.trans (hbD.mono HBD.out.size))
            have HRD := Lib.hid (OwnB.rd hownD)
            have HAP1 := Lib.hid hap1
            have HCD := Lib.hid hcapD
            have HF := Lib.hid (feed_any gh s ad E2.length cd E2 wD hhD (by rw [HN2.out]; exact hSl) (by rw [HN1.out]; omega) rfl hcapD.1 hcapD.2 (OwnB.rd hownD) hap1 (by have := HE2.out; omega))
            have hff := feedR_facts s E2 (by rw [HN1.out]; omega) hp3
            have hf1 := feedR_phase1 s E2 hp1
            obtain ⟨fr, hfr⟩ : ∃ fr, feedR s E2 = fr := ⟨_, rfl⟩
            rw [hfr] at HF hff hf1
            have HFR := Lib.hid hfr
            obtain ⟨s2, o2, m2⟩ := fr
            simp only at hff hf1
            have HFF := Lib.hid hff
            have HF1' := Lib.hid hf1
            clear hownD hbD hcapD hkD hhD hsz hap1 hap2 hff hf1 hfr HCO2 HBD HKC HHC HBC
            go_wp2_with fail
            refine HF.out.mono ?_
            rintro e wE ⟨ae, ne, ce, rfl, hownE, hhE, hgE⟩
            simp only at hownE hhE ⊢
            have hne := OwnB.len hownE
            subst hne
            have hkE : SkAt wE gg s := other_keep HKD.out hgE (by have := HGG.out; omega)
            have HHE := Lib.hid hhE
            have HBE : Hid (Below W.heap.size W wE) := Lib.hid (HBD2.out.grown hgE HBD2.out.size (fun z hz => by injection hz with hz; omega))
            have hglD := Blk.lt HKD.out
            have hapE : ApartB gg ae o2 := apart_own hownE hglD
            have HAPE := Lib.hid hapE
            have HRE := Lib.hid (OwnB.rd hownE)
            have hF2 := feed_any gg s ad E2.length cd E2 wE hkE (by rw [HN2.out]; exact hSl) (by rw [HN1.out]; omega) rfl HCD.out.1 HCD.out.2 (rd_grown HRD.out HAP1.out hgE) HAP2.out (by have := HE2.out; omega)
            rw [HFR.out] at hF2
            have HF2 := Lib.hid hF2
            clear hownE hhE hgE hkE hglD hapE hF2 HF HKD HBD2 HRD
            go_wp2_with fail
            refine HF2.out.mono ?_
            rintro e wF ⟨af, nf, cf, rfl, hownF, hkF, hgF⟩
            simp only at hownF hkF ⊢
            have hnf := OwnB.len hownF
            subst hnf
            have hhF : SkAt wF gh s2 := other_keep HHE.out hgF (by have := HGG.out; omega)
            have HBF : Hid (Below W.heap.size W wF) := Lib.hid (HBE.out.grown hgF HBE.out.size (fun z hz => by injection hz with hz; have := HGG.out; omega))
            have hsame := same_any ae af o2.length o2.length ce cf o2 o2 wF rfl rfl (rd_grown HRE.out HAPE.out hgF) (OwnB.rd hownF)
            rw [beq_self_eq_true] at hsame
            have HSA := Lib.hid hsame
            have HKF := Lib.hid hkF
            have HHF := Lib.hid hhF
            have HPH := Lib.hid (phase_any gh s2 wF hhF)
            have HPG := Lib.hid (phase_any gg s2 wF hkF)
            have HQH := Lib.hid (structured_any gh s2 wF hhF)
            have HQG := Lib.hid (structured_any gg s2 wF hkF)
            clear hownF hkF hgF hhF hsame HF2 HHE HBE HRE HAPE
            go_wp2_with fail
            refine HSA.out.mono ?_
            rintro e wG ⟨rfl, rfl⟩
            go_wp2_with fail
            refine HPH.out.mono ?_
            rintro e wG ⟨rfl, rfl⟩
            go_wp2_with fail
            refine HPG.out.mono ?_
            rintro e wG ⟨rfl, rfl⟩
            go_wp2_with fail
            refine HQH.out.mono ?_
            rintro e wG ⟨rfl, rfl⟩
            go_wp2_with fail
            refine HQG.out.mono ?_
            rintro e wG ⟨rfl, rfl⟩
            have hfin : UnR W gh gg N S n (.int .i64 ((i : Int) + 1)) wF := ⟨i + 1, s2, hgo, hgo2, by go_num, HHF.out, HKF.out, HBF.out, HFF.out.1.trans HN1.out, HFF.out.2.1.trans HN2.out, HFF.out.2.2, HF1'.out⟩
            have HFIN := Lib.hid hfin
            clear hfin
            go_wp2_with fail
            all_goals go_roundw
            all_goals first
              | (case measure => simp [intOf]; omega)
              | exact HFIN.out
      · have hgoI2 : ¬ ((i : Int) < 20) := by omega
        go_wp2_with fail
        go_ret
        exact ⟨rfl, HB.out⟩
    · have hgoI : ¬ ((i : Int) < (n : Int)) := by omega
      go_wp2_with fail
      go_ret
      exact ⟨rfl, HB.out⟩
end Go.Proofs.Ytnpcpbjoonjaoaa
