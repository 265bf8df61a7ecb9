/- the law: whatever a client says -/
import Derived.Test.YtnpcpbjoonjaoaaSr7
namespace Go.Proofs.Ytnpcpbjoonjaoaa
set_option linter.unusedVariables false
set_option linter.unusedSimpArgs false
open Go.RowKit

abbrev PcsTy : Ty := .slice .bytes
theorem pcs_at {w : World} {a : Option Addr} {n c : Nat} {ls : PcsTy.den} (h : PcsTy.reads w [.slice a n c] ls) (i : Nat) (hi : i < n) :
    ∃ b off ai ni ci d, a = some ⟨b, off, none⟩ ∧ b < w.heap.size ∧ w.cell? ⟨b, off + i, none⟩ = some (.slice ai ni ci) ∧ BytesIn w ai ni ci d := by
  obtain ⟨a', n', c', e, h2, _, _, h5⟩ := h
  simp only [List.cons.injEq, Value.slice.injEq, and_true] at e
  obtain ⟨rfl, rfl, rfl⟩ := e
  have hlt : i < List.length ls := Nat.lt_of_lt_of_eq hi h2.symm
  rcases h5 with h5 | ⟨b, off, ha, hb, hat⟩
  · omega
  · obtain ⟨cells, hcl, hcell, hB⟩ := hat i _ (List.getElem?_eq_getElem hlt)
    obtain ⟨ai, ni, ci, hc, hD⟩ := hB
    subst hc
    have q0 := hcell 0 _ rfl
    exact ⟨b, off, _, _, _, _, ha, hb, by simpa [Ty.size] using q0, hD⟩

/-- What is left of one's own bytes. -/
theorem OwnB.cut {w : World} {base n c : Nat} {a : Option Addr} {l : List UInt8} (h : OwnB w base (.slice a n c) l) (k : Nat) (hk : k ≤ n) :
    OwnB w base (.slice (if c = k then a else Option.map (fun x => x.add k) a) (n - k) (c - k)) (l.drop k) := by
  have hn := OwnB.len h
  have hl := h.1
  refine ⟨by rw [bs_length, List.length_drop, Nat.mul_one], ?_⟩
  rcases h.2 with ⟨hv, h0⟩ | ⟨g, off, cap, cur, lo, hi, hv, hb, hh, hs, hf, hc, hm, hx⟩
  · injection hv with h1 h2 h3
    have hk0 : k = 0 := by omega
    subst hk0
    subst h1; subst h2; subst h3
    exact .inl ⟨by simp, by rw [List.length_drop]; omega⟩
  · injection hv with h1 h2 h3
    subst h1; subst h3
    rw [bs_drop]
    refine .inr ⟨g, if c = k then off else off + k, c - k, cur, lo, hi, ?_, hb, hh, ?_, ?_, ?_, by omega, ?_⟩
    · rw [List.length_drop, hn]
      by_cases hck : c = k
      · rw [if_pos hck, if_pos hck]
      · rw [if_neg hck, if_neg hck, Option.map_some, Addr.add_lit]
    · split <;> omega
    · split <;> omega
    · rw [List.length_drop]; omega
    · intro j u hu
      rw [List.getElem?_drop] at hu
      have hj := (List.getElem?_eq_some_iff.1 hu).1
      rw [bs_length] at hj
      rw [if_neg (by omega), Nat.add_assoc]
      exact hx _ u hu

theorem one_bare (s : Sk) (b : List UInt8) (h : s.phase = 0 → s.bare = false) : (oneR s b).1.phase = 0 → (oneR s b).1.bare = false := by
  by_cases h0 : s.phase = 0
  · rw [oneR, if_pos h0]
    split
    · exact h
    · intro he
      simp only at he
      split at he <;> cases he
  · intro he
    have := one_phase1 s b (by omega)
    omega
theorem feedF_bare : ∀ (k : Nat) (s : Sk) (b : List UInt8), (s.phase = 0 → s.bare = false) → (feedF k s b).1.phase = 0 → (feedF k s b).1.bare = false
  | 0, s, b, h => h
  | k + 1, s, b, h => by
    rw [feedF]
    split
    · split
      · exact one_bare s b h
      · exact feedF_bare k _ _ (one_bare s b h)
    · exact h
theorem feedR_bare (s : Sk) (b : List UInt8) (h : s.phase = 0 → s.bare = false) : (feedR s b).1.phase = 0 → (feedR s b).1.bare = false := feedF_bare _ s b h

theorem quiet_left0s {P : Program} {f : FuncId} {args : Array Value} {w : World} {n : Nat} {v : Value}
    (h : Calls P f args (w.drewN n) fun e w' => e = .returned v ∧ w.drewN n = w') :
    Calls P f args (w.drewN n) fun e w'' => e = .returned v ∧ ∃ m, w'' = w.drewN m :=
  h.mono fun _ _ ⟨he, hm⟩ => ⟨he, n, hm.symm⟩

/-- i pieces went to both. -/
def SaysR (W w0 : World) (gh gk : Nat) (N : List UInt8) (S n : Nat) (vr vs vi : Value) (wr : World) : Prop :=
  ∃ (i sum : Nat) (s : Sk) (r : List UInt8), i ≤ n ∧ i ≤ 40 ∧ vi = .int .i64 (i : Int) ∧ vs = .int .i64 (sum : Int) ∧ sum ≤ 6000 ∧ r.length ≤ sum ∧ OwnB wr w0.heap.size vr r ∧ SkAt wr gh s ∧ RkAt wr gk s ∧ Below W.heap.size W wr ∧ w0.heap.size ≤ wr.heap.size ∧ s.name = N ∧ s.sectors = S ∧ s.phase ≤ 3 ∧ (s.phase = 0 → s.bare = false)

set_option maxRecDepth 20000 in
set_option maxHeartbeats 4000000 in
theorem law_ShakeSays (cs : Array Value) (x : ExpTy.den) (a : Option Addr) (n c : Nat) (ls : PcsTy.den) (W : World) (hx : ExpTy.reads W (Value.agg cs).cells.toList x) (hl : PcsTy.reads W (Value.slice a n c).cells.toList ls) :
    Calls Try.prog 8 #[.agg cs, .slice a n c] W fun e w' => e = .returned (.bool true) ∧ Below W.heap.size W w' := by
  obtain ⟨nm, sec, ro, rfl, hs, hnl⟩ := exp_open cs x W hx
  have HL := Lib.hid (sl_arg hl)
  have HN63 := Lib.hid (sl_len (sl_arg hl))
  have hbx : Below W.heap.size W (W.alloc (.cells #[Value.string ⟨nm.toArray⟩, Value.int .i64 sec, Value.bool ro] 54)) := (Below.refl _ _).alloc (Nat.le_refl _) _
  clear hx hl
  go_enter Try.func8, Try.ntmps8
  have HBX := Lib.hid hbx
  have HFI := Lib.hid (fit_any nm sec ro (W.alloc (.cells #[Value.string ⟨nm.toArray⟩, Value.int .i64 sec, Value.bool ro] 54)) hs hnl)
  obtain ⟨N, hN⟩ : ∃ N, nm.take 64 = N := ⟨_, rfl⟩
  have hNl : N.length ≤ 64 := by rw [← hN, List.length_take]; omega
  obtain ⟨S, hS⟩ : ∃ S, fitN sec = S := ⟨_, rfl⟩
  have hSl : S ≤ 8192 := by rw [← hS]; exact fitN_le sec
  rw [hN, hS] at HFI
  clear hbx hN hS hs hnl
  go_wp2_with fail
  refine HFI.out.mono ?_
  rintro e w2 ⟨rfl, hb2⟩
  have hb3 := (HBX.out.trans (hb2.mono HBX.out.size)).alloc (HBX.out.trans (hb2.mono HBX.out.size)).size (.cells #[Value.string ⟨N.toArray⟩, Value.int .i64 (S : Int), Value.bool ro] 54)
  have hY : Blk (w2.alloc (.cells #[Value.string ⟨N.toArray⟩, Value.int .i64 (S : Int), Value.bool ro] 54)) w2.heap.size 54 [Value.string ⟨N.toArray⟩, Value.int .i64 (S : Int), Value.bool ro] := Blk.new _ _ _
  go_upto_region 2 with (fail)
  generalize w2.alloc (.cells #[Value.string ⟨N.toArray⟩, Value.int .i64 (S : Int), Value.bool ro] 54) = w3 at hb3 hY ⊢
  have HB3 := Lib.hid hb3
  have HY := Lib.hid hY
  have y0 := hY.cell 0 _ rfl
  have y1 := hY.cell 1 _ rfl
  have y2 := hY.cell 2 _ rfl
  clear hb2 hb3 HFI HBX hY
  go_wp2_with fail
  refine (new_sk N S ro w3).mono ?_
  rintro e w4 ⟨rfl, hk4, hb4⟩
  have hg : W.heap.size ≤ w3.heap.size := HB3.out.size
  have hY4 := HY.out.below hb4
  have y0 := hY4.cell 0 _ rfl
  have y1 := hY4.cell 1 _ rfl
  have y2 := hY4.cell 2 _ rfl
  have hlt4 := hk4.lt
  obtain ⟨gh, hgh⟩ : ∃ gh, w3.heap.size = gh := ⟨_, rfl⟩
  rw [hgh] at hk4 hg hlt4 ⊢
  have HB4 := Lib.hid (HB3.out.trans (hb4.mono HB3.out.size))
  have HK4 := Lib.hid hk4
  clear hb4 hk4 hgh HB3 hY4 HY
  have ha5 : Below w4.heap.size w4 (w4.alloc (Obj.cells #[Value.string ⟨N.toArray⟩, Value.int .i64 (S : Int), Value.bool ro, Value.int .i64 0, Value.bool false, Value.bool false] 67)) := (Below.refl _ _).alloc (Nat.le_refl _) _
  have hk5 : RkAt (w4.alloc (Obj.cells #[Value.string ⟨N.toArray⟩, Value.int .i64 (S : Int), Value.bool ro, Value.int .i64 0, Value.bool false, Value.bool false] 67)) w4.heap.size ⟨N, S, ro, 0, false, false⟩ := Blk.new _ _ _
  have hh5 : SkAt (w4.alloc (Obj.cells #[Value.string ⟨N.toArray⟩, Value.int .i64 (S : Int), Value.bool ro, Value.int .i64 0, Value.bool false, Value.bool false] 67)) gh ⟨N, S, ro, 0, false, false⟩ := Blk.below HK4.out ha5
  have hB5 := HB4.out.trans (ha5.mono HB4.out.size)
  have HA5 := Lib.hid ha5
  have HK5 := Lib.hid hk5
  have HH5 := Lib.hid hh5
  have HB5 := Lib.hid hB5
  clear ha5 hk5 hh5 hB5
  go_upto_region 4 with (fail)
  generalize w4.alloc (Obj.cells #[Value.string ⟨N.toArray⟩, Value.int .i64 (S : Int), Value.bool ro, Value.int .i64 0, Value.bool false, Value.bool false] 67) = w5 at HA5 HK5 HH5 HB5 ⊢
  obtain ⟨gk, hgk⟩ : ∃ gk, w4.heap.size = gk := ⟨_, rfl⟩
  rw [hgk] at HK5 hlt4 ⊢
  have HGK : Hid (gh < gk) := Lib.hid hlt4
  clear hgk HK4 HB4 HA5 y0 y1 y2 hlt4
  go_wp2_with fail
  refine (skalive_any _).mono ?_
  rintro e w6 ⟨rfl, hb6⟩
  have hk6 : RkAt w6 gk ⟨N, S, ro, 0, false, false⟩ := Blk.below HK5.out hb6
  have hh6 : SkAt w6 gh ⟨N, S, ro, 0, false, false⟩ := Blk.below HH5.out hb6
  have HB6 := Lib.hid (HB5.out.trans (hb6.mono HB5.out.size))
  have HK6 := Lib.hid hk6
  have HH6 := Lib.hid hh6
  have HP6 := Lib.hid (phase_any gh _ w6 hh6)
  clear hb6 hk6 hh6 HK5 HH5 HB5
  go_wp2_with fail
  refine HP6.out.mono ?_
  rintro e wx ⟨rfl, rfl⟩
  have HLK := Lib.hid (Blk.lt HK6.out)
  simp only
  go_wp2_with fail
  go_loopw [8, 9, 10] (fun vr vs vi wr => SaysR W w6 gh gk N S n vr vs vi wr) (fun _ _ vi _ => 40 - (intOf vi).toNat)
  case atStart => exact ⟨0, 0, ⟨N, S, ro, 0, false, false⟩, [], Nat.zero_le _, Nat.zero_le _, rfl, rfl, Nat.zero_le _, Nat.le_refl _, OwnB.nil _ _, HH6.out, HK6.out, HB6.out, Nat.le_refl _, rfl, rfl, by simp, fun _ => rfl⟩
  case round =>
    clear HH6 HK6 HB6 HP6
    obtain ⟨i, sum, s, r, hi, hi40, rfl, rfl, hsum, hrl, hown, hh, hk, hb, hsz, hn1, hn2, hp3, hba⟩ := hrel
    obtain ⟨ar, cr, rfl, _⟩ := OwnB.shape hown
    have HO := Lib.hid hown
    have HH := Lib.hid hh
    have HK := Lib.hid hk
    have HB := Lib.hid hb
    have HSZ := Lib.hid hsz
    have HN1 := Lib.hid hn1
    have HN2 := Lib.hid hn2
    have HP3 := Lib.hid hp3
    have HBA := Lib.hid hba
    have HRL := Lib.hid hrl
    have i0 : (0 : Int) ≤ (i : Int) := Int.natCast_nonneg i
    clear hown hh hk hb hsz hn1 hn2 hp3 hba hrl
    by_cases hgo : i < n
    · have hgoI : (i : Int) < (n : Int) := by omega
      by_cases hgo2 : i < 40
      · have hgoI2 : (i : Int) < 40 := by omega
        obtain ⟨bl, ol, ai, ni, ci, d, rfl, hbl, hc0, hD⟩ := pcs_at HL.out i hgo
        have hl0 := (HB.out.cell (p := ⟨bl, ol + i, none⟩) hbl).trans hc0
        have HD := Lib.hid hD
        have HBLT := Lib.hid hbl
        have HC0 := Lib.hid hc0
        have nb : ni ≤ 140737488351232 := Nat.le_trans hD.le_cap hD.small
        have nbI : (ni : Int) ≤ 140737488351232 := by omega
        have sI : (sum : Int) ≤ 6000 := by omega
        have sI0 : (0 : Int) ≤ (sum : Int) := Int.natCast_nonneg _
        clear hD hbl hc0 nb
        by_cases hbig : 6000 - sum < ni
        · have hbI : 6000 - (sum : Int) < (ni : Int) := by omega
          go_wp2_with fail
          go_ret
          exact ⟨rfl, HB.out⟩
        · have hbI : ¬ (6000 - (sum : Int) < (ni : Int)) := by omega
          have HR0 := Lib.hid ((HD.out.rd.below HB.out).more HB.out.size)
          have HDL := Lib.hid HD.out.len_eq
          have S1 : Hid (r.length + ni ≤ 140737488355328) := Lib.hid (by have := HRL.out; omega)
          have hsn : sum + ni ≤ 6000 := by omega
          have HSN := Lib.hid hsn
          clear hsn
          go_wp2_with (at_builtin; refine wpList_app rfl _ _ rfl w6.heap.size _ r rfl HO.out wr.heap.size ai ni ci d rfl HDL.out HR0.out S1.out HSZ.out ?_)
          intro v2 w2 hown2 hgr2 hat2
          obtain ⟨R, hR⟩ : ∃ R, r ++ d = R := ⟨_, rfl⟩
          rw [hR] at hown2
          have hlt2 := OwnG.lt HO.out
          have hRl : R.length ≤ sum + ni := by rw [← hR, List.length_append, HDL.out]; have := HRL.out; omega
          have hh2 : SkAt w2 gh s := Blk.keep HH.out (hgr2.block gh (Blk.lt HH.out) (fun e => by have := (hlt2 gh e.symm).1; have := HLK.out; have := HGK.out; omega))
          have hk2 : RkAt w2 gk s := Blk.keep HK.out (hgr2.block gk (Blk.lt HK.out) (fun e => by have := (hlt2 gk e.symm).1; have := HLK.out; omega))
          have hbl2 : W.heap.size ≤ w6.heap.size := by have := HLK.out; have := HGK.out; omega
          have hb2 := below_app HB.out HO.out hbl2 hgr2
          have hz2 : w6.heap.size ≤ w2.heap.size := Nat.le_trans HSZ.out hgr2.size
          obtain ⟨a2, c2, rfl, _⟩ := OwnG.shape hown2
          have HO2 := Lib.hid hown2
          have HH2 := Lib.hid hh2
          have HK2 := Lib.hid hk2
          have HB2 := Lib.hid hb2
          have HZ2 := Lib.hid hz2
          have HRL2 := Lib.hid hRl
          have HR2 := Lib.hid (OwnB.rd hown2)
          have HO3 : Hid (OwnB (w2.alloc (.cells #[] 5)) w2.heap.size (.slice (some ⟨w2.heap.size, 0, none⟩) 0 0) []) := Lib.hid (OwnB.lit0 w2)
          have HR3 : Hid (Rd (w2.alloc (.cells #[] 5)) w2.heap.size a2 (bs R)) := Lib.hid (Rd.alloc (OwnB.rd hown2) (Nat.le_refl _) _)
          have HZ3 : Hid (w2.heap.size ≤ (w2.alloc (.cells #[] 5)).heap.size) := Lib.hid (by rw [World.size_alloc]; omega)
          have S3 : Hid (([] : List UInt8).length + R.length ≤ 140737488355328) := Lib.hid (by simp only [List.length_nil]; have := HSN.out; omega)
          clear hown2 hgr2 hat2 hR hlt2 hRl hh2 hk2 hbl2 hb2 hz2 HO HH HK HB HSZ HR0 hl0
          go_wp2_with (at_builtin; refine wpList_app rfl _ _ rfl w2.heap.size _ [] rfl HO3.out w2.heap.size a2 R.length c2 R rfl rfl HR3.out S3.out HZ3.out ?_)
          intro v3 w3 hown3 hgr3 hat3
          have hb3 := below_app ((Below.refl w2.heap.size w2).alloc (Nat.le_refl _) _) HO3.out (Nat.le_refl _) hgr3
          obtain ⟨a3, c3, rfl, _⟩ := OwnG.shape hown3
          have hown3 : OwnB w3 w2.heap.size (.slice a3 R.length c3) R := hown3
          have hh3 : SkAt w3 gh s := Blk.below HH2.out hb3
          have hk3 : RkAt w3 gk s := Blk.below HK2.out hb3
          have ho3 : OwnB w3 w6.heap.size (.slice a2 R.length c2) R := OwnG.below HO2.out hb3
          have hap3 : ApartB gh a3 R := apart_own hown3 (Blk.lt HH2.out)
          have hap3k : ApartB gk a3 R := apart_own hown3 (Blk.lt HK2.out)
          have hcap3 := OwnB.capm hown3
          have HF := Lib.hid (feed_any gh s a3 R.length c3 R w3 hh3 (by rw [HN2.out]; exact hSl) (by rw [HN1.out]; omega) rfl hcap3.1 hcap3.2 (OwnB.rd hown3) hap3 (by have := HRL2.out; have := HSN.out; omega))
          have hff := feedR_facts s R (by rw [HN1.out]; omega) HP3.out
          have hfl := feedR_len s R (by rw [HN1.out]; omega)
          have hfb := feedR_bare s R HBA.out
          obtain ⟨fr, hfr⟩ : ∃ fr, feedR s R = fr := ⟨_, rfl⟩
          rw [hfr] at HF hff hfl hfb
          have HFR := Lib.hid hfr
          obtain ⟨s2, said, m⟩ := fr
          simp only at hff hfl hfb
          have HFF := Lib.hid hff
          have HFL := Lib.hid hfl
          have HFB := Lib.hid hfb
          have HK3 := Lib.hid hk3
          have HO3' := Lib.hid ho3
          have HX3 := Lib.hid hown3
          have HAP3 := Lib.hid hap3
          have HAP3K := Lib.hid hap3k
          have HB3 := Lib.hid (HB2.out.trans (hb3.mono HB2.out.size))
          have HZ4 := Lib.hid (Nat.le_trans HZ2.out hb3.size)
          have mR : (m : Int) ≤ (R.length : Int) := by have := hfl.1; omega
          have mR0 : (0 : Int) ≤ (m : Int) := Int.natCast_nonneg _
          clear hown3 hgr3 hat3 hb3 hh3 hk3 ho3 hap3 hap3k hcap3 hff hfl hfb hfr HO2 HH2 HK2 HB2 HZ2 HR2 HO3 HR3 HZ3 S3
          go_wp2_with fail
          refine HF.out.mono ?_
          rintro e w4 ⟨a4, n4, c4, rfl, hown4, hh4, hg4⟩
          simp only at hown4 hh4 ⊢
          have hn4 := OwnB.len hown4
          subst hn4
          have hk4 : RkAt w4 gk s := Blk.keep HK3.out (hg4.block gk (Blk.lt HK3.out) (fun e => by injection e with e; have := HGK.out; omega))
          have ho4 : OwnB w4 w6.heap.size (.slice a2 R.length c2) R := OwnG.grown HO3'.out hg4 (by
            cases hq : (Value.slice a2 R.length c2).ownBlock with
            | none => exact .inl rfl
            | some z => exact .inr (fun e => by injection e with e; have := (OwnG.lt HO3'.out z hq).1; have := HLK.out; have := HGK.out; omega))
          have hx4 : Rd w4 w4.heap.size a3 (bs R) := rd_grown (OwnB.rd HX3.out) HAP3.out hg4
          have hapk : ApartB gk a2 R := apart_own ho4 HLK.out
          have hcap4 := OwnB.capm ho4
          have HB4 : Hid (Below W.heap.size W w4) := Lib.hid (HB3.out.grown hg4 HB3.out.size (fun z hz => by injection hz with hz; omega))
          have HFK := rfeed_any gk s a2 R.length c2 R w4 hk4 (by rw [HN2.out]; exact hSl) (by rw [HN1.out]; omega) rfl hcap4.1 hcap4.2 (OwnB.rd ho4) hapk (by have := HRL2.out; have := HSN.out; omega) HBA.out
          rw [HFR.out] at HFK
          have HFK := Lib.hid HFK
          have HH4 := Lib.hid hh4
          have HO4 := Lib.hid ho4
          have HX4 := Lib.hid hx4
          have HS4 := Lib.hid (OwnB.rd hown4)
          have HAS4 : Hid (ApartB gk a4 said) := Lib.hid (apart_own hown4 (Blk.lt HK3.out))
          have HZ5 := Lib.hid (Nat.le_trans HZ4.out hg4.size)
          clear hown4 hh4 hg4 hk4 ho4 hx4 hapk hcap4 HF HK3 HO3' HX3 HB3 HZ4
          go_wp2_with fail
          refine HFK.out.mono ?_
          rintro e w5x ⟨a5, n5, c5, rfl, hown5, hk5, hg5⟩
          simp only at hown5 hk5 ⊢
          have hn5 := OwnB.len hown5
          subst hn5
          have HH5 : Hid (SkAt w5x gh s2) := Lib.hid (Blk.keep HH4.out (hg5.block gh (Blk.lt HH4.out) (fun e => by injection e with e; have := HGK.out; omega)))
          have ho5 : OwnB w5x w6.heap.size (.slice a2 R.length c2) R := OwnG.grown HO4.out hg5 (by
            cases hq : (Value.slice a2 R.length c2).ownBlock with
            | none => exact .inl rfl
            | some z => exact .inr (fun e => by injection e with e; have := (OwnG.lt HO4.out z hq).1; have := HLK.out; omega))
          have HO5 := Lib.hid ho5
          have hs1 := same_any a4 a5 said.length said.length c4 c5 said said w5x rfl rfl (rd_grown HS4.out HAS4.out hg5) (OwnB.rd hown5)
          have hs2 := same_any a3 a2 R.length R.length c3 c2 R R w5x rfl rfl (rd_grown HX4.out HAP3K.out hg5) (OwnB.rd ho5)
          rw [beq_self_eq_true] at hs1 hs2
          have HS1 := Lib.hid hs1
          have HS2 := Lib.hid hs2
          have HK5 := Lib.hid hk5
          have HB5 : Hid (Below W.heap.size W w5x) := Lib.hid (HB4.out.grown hg5 HB4.out.size (fun z hz => by injection hz with hz; have := HGK.out; omega))
          have HZ6 := Lib.hid (Nat.le_trans HZ5.out hg5.size)
          clear hown5 hk5 hg5 ho5 hs1 hs2 HFK HH4 HO4 HX4 HS4 HB4 HZ5
          go_wp2_with fail
          refine HS1.out.mono ?_
          rintro e wy ⟨rfl, rfl⟩
          go_wp2_with fail
          refine HS2.out.mono ?_
          rintro e wy ⟨rfl, rfl⟩
          have k3 : w5x.cell? ⟨gk, 3, none⟩ = some (.int .i64 (s2.phase : Int)) := HK5.out.cell 3 _ rfl
          have k4 : w5x.cell? ⟨gk, 4, none⟩ = some (.bool s2.st) := HK5.out.cell 4 _ rfl
          have HPH : Hid (∀ k, Calls Try.prog 38 #[.pointer (some ⟨gh, 0, none⟩)] (w5x.drewN k) fun e w' => e = .returned (.int .i64 (s2.phase : Int)) ∧ w5x.drewN k = w') := Lib.hid (fun k => phase_any gh s2 _ (HH5.out : SkAt (w5x.drewN k) gh s2))
          have HST : Hid (∀ k, Calls Try.prog 40 #[.pointer (some ⟨gh, 0, none⟩)] (w5x.drewN k) fun e w' => e = .returned (.bool s2.st) ∧ w5x.drewN k = w') := Lib.hid (fun k => structured_any gh s2 _ (HH5.out : SkAt (w5x.drewN k) gh s2))
          go_wp2_with fail
          go_quiet ((first | with_reducible exact quiet_left0s (HPH.out _) | with_reducible exact quiet_add_left (HPH.out _) | with_reducible exact quiet_left0s (HST.out _) | with_reducible exact quiet_add_left (HST.out _)))
          have hfin : SaysR W w6 gh gk N S n (.slice (if c2 = m then a2 else Option.map (fun x => x.add m) a2) (R.length - m) (c2 - m)) (.int .i64 ((sum : Int) + (ni : Int))) (.int .i64 ((i : Int) + 1)) (w5x.drewN nq) := by
            refine ⟨i + 1, sum + ni, s2, R.drop m, hgo, hgo2, by go_num, by go_num, HSN.out, ?_, OwnB.cut (HO5.out.drewN nq) m HFL.out.1, HH5.out, HK5.out, below_drewN HB5.out nq, HZ6.out, HFF.out.1.trans HN1.out, HFF.out.2.1.trans HN2.out, HFF.out.2.2, HFB.out⟩
            rw [List.length_drop]
            have := HRL2.out
            omega
          obtain ⟨ax, hax⟩ : ∃ ax, (if c2 = m then a2 else Option.map (fun x => x.add m) a2) = ax := ⟨_, rfl⟩
          rw [hax] at hfin
          have HFIN := Lib.hid hfin
          clear hfin k3 k4 HPH HST HS1 HS2 HH5 HK5 HB5 HO5 HZ6 HFF HFL HFB
          go_wp2_with fail
          refine ⟨?_, by simp [intOf]; omega⟩
          repeat apply Exists.intro
          exact ⟨HFIN.out, rfl⟩
      · have hgoI2 : ¬ ((i : Int) < 40) := by omega
        go_wp2_with fail
        go_ret
        exact ⟨rfl, HB.out⟩
    · have hgoI : ¬ ((i : Int) < (n : Int)) := by omega
      go_wp2_with fail
      go_ret
      exact ⟨rfl, HB.out⟩
end Go.Proofs.Ytnpcpbjoonjaoaa
