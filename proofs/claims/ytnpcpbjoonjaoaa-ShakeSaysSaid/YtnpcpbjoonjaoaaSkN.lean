/- the law: bit by bit -/
import Derived.Test.YtnpcpbjoonjaoaaSkM
namespace Go.Proofs.Ytnpcpbjoonjaoaa
set_option linter.unusedVariables false
set_option linter.unusedSimpArgs false
open Go.RowKit

/-- i pieces went to the second handshake. -/
def BtR (W w0 : World) (gg : Nat) (s0 : Sk) (b : List UInt8) (N : List UInt8) (S n n2 : Nat) (vc va vt vi : Value) (wr : World) : Prop :=
  ∃ (i at_ u : Nat) (s : Sk) (cc : List UInt8), i ≤ n2 + 1 ∧ i ≤ 40 ∧ vi = .int .i64 (i : Int) ∧ va = .int .i64 (at_ : Int) ∧ vt = .int .i64 (u : Int) ∧ u ≤ at_ ∧ at_ ≤ n ∧ OwnB wr w0.heap.size vc cc ∧ cc.length ≤ 7000 * u ∧ SkAt wr gg s ∧ w0.grownBy wr (some gg) ∧ s.name = N ∧ s.sectors = S ∧ s.phase ≤ 3 ∧
    BitInv s0 b s cc u ∧ (i = n2 + 1 ∨ i = 40 → BitDone s0 b s cc u)
theorem feedF_len : ∀ (k : Nat) (s : Sk) (b : List UInt8), s.name.length ≤ 1000 → (feedF k s b).2.2 ≤ b.length ∧ (feedF k s b).2.1.length ≤ 7000 * (feedF k s b).2.2
  | 0, s, b, _ => by simp [feedF]
  | k + 1, s, b, hnm => by
    obtain ⟨f1, f2, f3, f4⟩ := oneR_facts s b hnm
    rw [feedF]
    split
    · split
      · rename_i h
        rw [one_zero s b h]
        simp
      · have h := feedF_len k (oneR s b).1 (b.drop (oneR s b).2.2) (by rw [f2]; exact hnm)
        rw [List.length_drop] at h
        simp only [List.length_append]
        omega
    · simp
theorem feedR_len (s : Sk) (b : List UInt8) (hnm : s.name.length ≤ 1000) : (feedR s b).2.2 ≤ b.length ∧ (feedR s b).2.1.length ≤ 7000 * (feedR s b).2.2 := feedF_len _ s b hnm

theorem apart_cut {g u c j : Nat} {a : Option Addr} {b : List UInt8} (h : ApartB g a b) : ApartB g (if c = u then a else Option.map (fun x => x.add u) a) ((b.drop u).take j) := by
  rcases h with h | h
  · subst h
    exact .inl (by simp)
  · refine .inr fun ad had => ?_
    split at had
    · exact h ad had
    · rcases a with _ | a
      · cases had
      · injection had with had
        subst had
        have hh := h a rfl
        intro e
        simp only [Addr.add] at e
        split at e <;> exact hh e
theorem ints_at2 {w : World} {a : Option Addr} {n c : Nat} {ls : IntsTy.den} (h : IntsTy.reads w [.slice a n c] ls) (i : Nat) (hi : i < n) :
    ∃ b off z, a = some ⟨b, off, none⟩ ∧ b < w.heap.size ∧ w.cell? ⟨b, off + i, none⟩ = some (.int .i64 z) ∧ -9223372036854775808 ≤ z ∧ z ≤ 9223372036854775807 := by
  obtain ⟨a', n', c', e, h2, _, _, h5⟩ := h
  simp only [List.cons.injEq, Value.slice.injEq, and_true] at e
  obtain ⟨rfl, rfl, rfl⟩ := e
  have hlt : i < List.length ls := Nat.lt_of_lt_of_eq hi h2.symm
  rcases h5 with h5 | ⟨b, off, ha, hb, hat⟩
  · omega
  · obtain ⟨cells, hcl, hcell, hB⟩ := hat i _ (List.getElem?_eq_getElem hlt)
    obtain ⟨hc1, hwf⟩ := hB
    subst hc1
    have q0 := hcell 0 _ rfl
    refine ⟨b, off, _, ha, hb, by simpa [Ty.size] using q0, ?_⟩
    simp only [Lit.wf, Bool.and_eq_true, decide_eq_true_eq] at hwf
    have h1 : IntKind.min .i64 = -9223372036854775808 := by decide
    have h2 : IntKind.max .i64 = 9223372036854775807 := by decide
    rw [h1, h2] at hwf
    exact hwf

set_option maxRecDepth 20000 in
set_option maxHeartbeats 4000000 in
theorem law_ShakeBits (cs : Array Value) (x : ExpTy.den) (a : Option Addr) (n c : Nat) (b : List UInt8) (a2 : Option Addr) (n2 c2 : Nat) (ks : IntsTy.den) (W : World) (hx : ExpTy.reads W (Value.agg cs).cells.toList x) (hb : BytesIn W a n c b) (hk : IntsTy.reads W (Value.slice a2 n2 c2).cells.toList ks) :
    Calls Try.prog 9 #[.agg cs, .slice a n c, .slice a2 n2 c2] W fun e w' => e = .returned (.bool true) ∧ Below W.heap.size W w' := by
  obtain ⟨nm, sec, ro, rfl, hs, hnl⟩ := exp_open cs x W hx
  have HBB := Lib.hid hb
  have HKS := Lib.hid (sl_arg hk)
  have HN263 := Lib.hid (sl_len (sl_arg hk))
  have hbx : Below W.heap.size W (W.alloc (.cells #[Value.string ⟨nm.toArray⟩, Value.int .i64 sec, Value.bool ro] 54)) := (Below.refl _ _).alloc (Nat.le_refl _) _
  clear hx hb hk
  go_enter Try.func9, Try.ntmps9
  by_cases hbig : 3000 < n
  · have h1 : (3000 : Int) < (n : Int) := by omega
    have HBX := Lib.hid hbx
    clear hbx hbig
    go_wp2_with fail
    refine (skalive_any _).mono ?_
    rintro e w2 ⟨rfl, hb2⟩
    have HBE := Lib.hid (HBX.out.trans (hb2.mono HBX.out.size))
    clear hb2
    go_wp2_with fail
    go_ret
    exact ⟨rfl, HBE.out⟩
  · have h1 : ¬ ((3000 : Int) < (n : Int)) := by omega
    have hn3 : n ≤ 3000 := by omega
    clear hbig
    have HBX := Lib.hid hbx
    have HFI := Lib.hid (fit_any nm sec ro (W.alloc (.cells #[Value.string ⟨nm.toArray⟩, Value.int .i64 sec, Value.bool ro] 54)) hs hnl)
    obtain ⟨N, hN⟩ : ∃ N, nm.take 64 = N := ⟨_, rfl⟩
    have hNl : N.length ≤ 64 := by rw [← hN, List.length_take]; omega
    obtain ⟨S, hS⟩ : ∃ S, fitN sec = S := ⟨_, rfl⟩
    have hSl : S ≤ 8192 := by rw [← hS]; exact fitN_le sec
    rw [hN, hS] at HFI
    clear hbx hN hS hs hnl
    go_wp2_with fail
    refine HFI.out.mono ?_
    rintro e w2 ⟨rfl, hb2⟩
    have hb3 := (HBX.out.trans (hb2.mono HBX.out.size)).alloc (HBX.out.trans (hb2.mono HBX.out.size)).size (.cells #[Value.string ⟨N.toArray⟩, Value.int .i64 (S : Int), Value.bool ro] 54)
    have hY : Blk (w2.alloc (.cells #[Value.string ⟨N.toArray⟩, Value.int .i64 (S : Int), Value.bool ro] 54)) w2.heap.size 54 [Value.string ⟨N.toArray⟩, Value.int .i64 (S : Int), Value.bool ro] := Blk.new _ _ _
    go_upto_region 4 with (fail)
    generalize w2.alloc (.cells #[Value.string ⟨N.toArray⟩, Value.int .i64 (S : Int), Value.bool ro] 54) = w3 at hb3 hY ⊢
    have HB3 := Lib.hid hb3
    have HY := Lib.hid hY
    have y0 := hY.cell 0 _ rfl
    have y1 := hY.cell 1 _ rfl
    have y2 := hY.cell 2 _ rfl
    clear hb2 hb3 HFI HBX hY
    go_wp2_with fail
    refine (new_sk N S ro w3).mono ?_
    rintro e w4 ⟨rfl, hk4, hb4⟩
    have hg : W.heap.size ≤ w3.heap.size := HB3.out.size
    have hY4 := HY.out.below hb4
    have y0 := hY4.cell 0 _ rfl
    have y1 := hY4.cell 1 _ rfl
    have y2 := hY4.cell 2 _ rfl
    have hlt4 := hk4.lt
    obtain ⟨gh, hgh⟩ : ∃ gh, w3.heap.size = gh := ⟨_, rfl⟩
    rw [hgh] at hk4 hg hlt4 ⊢
    have HB4 := Lib.hid (HB3.out.trans (hb4.mono HB3.out.size))
    have HK4 := Lib.hid hk4
    clear hb4 hk4 hgh HB3 hY4 HY
    go_wp2_with fail
    refine (new_sk N S ro w4).mono ?_
    rintro e w5 ⟨rfl, hk5, hb5⟩
    obtain ⟨gg, hgg⟩ : ∃ gg, w4.heap.size = gg := ⟨_, rfl⟩
    have hh5 : SkAt w5 gh ⟨N, S, ro, 0, false, false⟩ := Blk.below HK4.out hb5
    have HB5 := Lib.hid (HB4.out.trans (hb5.mono HB4.out.size))
    rw [hgg] at hk5 hlt4 ⊢
    have HK5 := Lib.hid hk5
    have HH5 := Lib.hid hh5
    have HGG : Hid (gh < gg) := Lib.hid hlt4
    clear hb5 hk5 hh5 hgg HK4 HB4 y0 y1 y2 hlt4
    go_wp2_with fail
    refine (skalive_any _).mono ?_
    rintro e w6 ⟨rfl, hb6⟩
    have hk6 : SkAt w6 gg ⟨N, S, ro, 0, false, false⟩ := Blk.below HK5.out hb6
    have hh6 : SkAt w6 gh ⟨N, S, ro, 0, false, false⟩ := Blk.below HH5.out hb6
    have HB6 := Lib.hid (HB5.out.trans (hb6.mono HB5.out.size))
    have HH6 := Lib.hid hh6
    have HK6 := Lib.hid hk6
    have hap1 : ApartB gh a b := apart_new HBB.out.rd hg
    have hap2 : ApartB gg a b := apart_new HBB.out.rd (by have := HGG.out; omega)
    have HAP2 := Lib.hid hap2
    have hnc := HBB.out.le_cap
    have hcs := HBB.out.small
    have HF1 := Lib.hid (feed_any gh ⟨N, S, ro, 0, false, false⟩ a n c b w6 hh6 hSl (by show N.length ≤ 1000; omega) HBB.out.len_eq hnc (by omega) ((HBB.out.rd.below HB6.out).more HB6.out.size) hap1 (by omega))
    obtain ⟨s0, hs0⟩ : ∃ s0 : Sk, s0 = ⟨N, S, ro, 0, false, false⟩ := ⟨_, rfl⟩
    rw [← hs0] at HF1 HK6
    have h00 : s0.name = N ∧ s0.sectors = S ∧ s0.phase ≤ 3 := by rw [hs0]; exact ⟨rfl, rfl, by simp⟩
    have HS0 := Lib.hid h00
    clear hb6 hk6 hh6 hap1 hap2 HB5 HK5 HH5 hs0 h00 HH6
    go_wp2_with fail
    refine HF1.out.mono ?_
    rintro e w7 ⟨a7, n7, c7, rfl, hown7, hk7, hg7⟩
    have hn7 := OwnB.len hown7
    subst hn7
    have HB7 : Hid (Below W.heap.size W w7) := Lib.hid (HB6.out.grown hg7 HB6.out.size (fun z hz => by injection hz with hz; omega))
    have HK7 : Hid (SkAt w7 gg s0) := Lib.hid (other_keep HK6.out hg7 (by have := HGG.out; omega))
    have HH7 := Lib.hid hk7
    have HR7 := Lib.hid (OwnB.rd hown7)
    have hgl7 := Blk.lt HK7.out
    have HGL7 := Lib.hid hgl7
    have hap7 : ApartB gg a7 (feedR s0 b).2.1 := apart_own hown7 (Blk.lt HK6.out)
    have HAP7 := Lib.hid hap7
    clear hown7 hk7 hg7 hgl7 hap7 HB6 HK6 HF1
    obtain ⟨fr, hfr⟩ : ∃ fr, feedR s0 b = fr := ⟨_, rfl⟩
    rw [hfr] at HH7 HR7 HAP7 ⊢
    have HFR := Lib.hid hfr
    obtain ⟨sh, oh, mh⟩ := fr
    simp only at HH7 HR7 HAP7 ⊢
    clear hfr
    go_wp2_with fail
    go_loopw [12, 13, 14, 15, 16, 17, 18, 19] (fun vc va vt vi v16 v17 v18 v19 wr => BtR W w7 gg s0 b N S n n2 vc va vt vi wr) (fun _ _ _ vi _ _ _ _ _ => 41 - (intOf vi).toNat)
    case atStart => exact ⟨0, 0, 0, s0, [], by omega, by omega, rfl, rfl, rfl, Nat.le_refl _, Nat.zero_le _, OwnG.nil _ _ _ _, by simp, HK7.out, World.grownBy.refl _ _, HS0.out.1, HS0.out.2.1, HS0.out.2.2, .inl (by simp), fun h => by omega⟩
    case round =>
      obtain ⟨i, at_, u, s, cc, hi, hi40, rfl, rfl, rfl, hua, han, hown, hcl, hkk, hgr, hn1, hn2, hp3, hinv, hdone⟩ := hrel
      obtain ⟨av, cv, rfl, _⟩ := OwnG.shape hown
      have HO := Lib.hid hown
      have HK := Lib.hid hkk
      have HG := Lib.hid hgr
      have HN1 := Lib.hid hn1
      have HN2 := Lib.hid hn2
      have HINV := Lib.hid hinv
      have HDONE := Lib.hid hdone
      have HCL := Lib.hid hcl
      have HBW : Hid (Below W.heap.size W wr) := Lib.hid (HB7.out.grown hgr HB7.out.size (fun z hz => by injection hz with hz; have := HGG.out; omega))
      have i0 : (0 : Int) ≤ (i : Int) := Int.natCast_nonneg i
      have u0 : (0 : Int) ≤ (u : Int) := Int.natCast_nonneg u
      have a0 : (0 : Int) ≤ (at_ : Int) := Int.natCast_nonneg at_
      clear hown hkk hgr hn1 hn2 hinv hdone hcl
      by_cases hgo : i ≤ n2
      · have hgoI : (i : Int) ≤ (n2 : Int) := by omega
        by_cases hgo2 : i < 40
        · have hgoI2 : (i : Int) < 40 := by omega
          go_upto_region 16 with (fail)
          go_cut [76] (fun v wn => (v = .bool (decide (i < n2 ∧ i < 39))) ∧ wn = wr)
          case first =>
            by_cases hA : i < n2
            · have hAI : (i : Int) < (n2 : Int) := by omega
              by_cases hB : i < 39
              · have hBI : (i : Int) < 39 := by omega
                go_wp2_with fail
                go_meet
                exact ⟨by rw [decide_eq_true ⟨hA, hB⟩], rfl⟩
              · have hBI : ¬ ((i : Int) < 39) := by omega
                go_wp2_with fail
                go_meet
                exact ⟨by rw [decide_eq_false (fun h => hB h.2)], rfl⟩
            · have hAI : ¬ ((i : Int) < (n2 : Int)) := by omega
              go_wp2_with fail
              go_meet
              exact ⟨by rw [decide_eq_false (fun h => hA h.1)], rfl⟩
          case' rest =>
            obtain ⟨rfl, hw⟩ := hcut
            subst hw
            rename World => wr
            obtain ⟨bb, hbb⟩ : ∃ bb, decide (i < n2 ∧ i < 39) = bb := ⟨_, rfl⟩
            rw [hbb]
          go_upto_if 76 with (fail)
          go_cut [16, 17] (fun v16 v17 wn => (∃ tq : Nat, v16 = .int .i64 (tq : Int) ∧ at_ ≤ tq ∧ tq ≤ n ∧ (i = n2 ∨ i = 39 → tq = n)) ∧ wn = wr)
          case first =>
            cases bb with
            | true =>
              have hA : i < n2 := (of_decide_eq_true hbb).1
              have hB : i < 39 := (of_decide_eq_true hbb).2
              obtain ⟨bk, ok, z, rfl, hbk, hck, hz⟩ := ints_at2 HKS.out i hA
              have hck' := (HBW.out.cell (p := ⟨bk, ok + i, none⟩) hbk).trans hck
              have hAI : (i : Int) < (n2 : Int) := by omega
              clear hck hbk
              go_upto_if 82 with (fail)
              go_cut [17] (fun v wn => (∃ q : Nat, v = .int .i64 (q : Int)) ∧ wn = wr)
              case first =>
                by_cases hz0 : z < 0
                · go_wp2_with fail
                  go_meet
                  exact ⟨⟨(-(z+1)).toNat, by congr 1; omega⟩, rfl⟩
                · go_wp2_with fail
                  go_meet
                  exact ⟨⟨z.toNat, by congr 1; omega⟩, rfl⟩
              case rest =>
                obtain ⟨⟨q, rfl⟩, hw⟩ := hcut
                subst hw
                rename World => wr
                have tm : (q : Int).tmod ((n : Int) + 1) = ((q % (n + 1) : Nat) : Int) := by rw [Int.tmod_eq_emod_of_nonneg (by omega), show ((n : Int) + 1) = ((n + 1 : Nat) : Int) by omega, ← Int.natCast_emod]
                have hr : q % (n + 1) ≤ n := Nat.le_of_lt_succ (Nat.mod_lt _ (by omega))
                obtain ⟨r, hre⟩ : ∃ r, q % (n + 1) = r := ⟨_, rfl⟩
                rw [hre] at tm hr
                clear hre
                go_wp2_with fail
                all_goals go_meet
                all_goals first
                  | exact ⟨⟨r, rfl, by omega, hr, fun h => by omega⟩, rfl⟩
                  | exact ⟨⟨at_, rfl, by omega, han, fun h => by omega⟩, rfl⟩
                  | fail
            | false =>
              go_wp2_with fail
              go_meet
              exact ⟨⟨n, rfl, han, Nat.le_refl _, fun _ => rfl⟩, rfl⟩
          case' rest =>
            obtain ⟨⟨tq, rfl, hto, hton, hlast⟩, hw⟩ := hcut
            subst hw
            rename World => wr
          obtain ⟨ad, had⟩ : ∃ ad, (if c = u then a else Option.map (fun x => x.add u) a) = ad := ⟨_, rfl⟩
          obtain ⟨p, hp⟩ : ∃ p, (b.drop u).take (tq - u) = p := ⟨_, rfl⟩
          have hpl : p.length = tq - u := by
            have := HBB.out.len_eq
            rw [← hp, List.length_take, List.length_drop]
            omega
          have hrd : Rd wr wr.heap.size ad (bs p) := by
            have h := (((HBB.out.rd.below HBW.out).more HBW.out.size).cut (k := u) (cap := c) (by rw [bs_length, HBB.out.len_eq]; exact hnc)).take (tq - u)
            rw [had, ← bs_drop, ← bs_take, hp] at h
            exact h
          have hap : ApartB gg ad p := by rw [← had, ← hp]; exact apart_cut HAP2.out
          have HF := Lib.hid (feed_any gg s ad (tq - u) (c - u) p wr HK.out (by rw [HN2.out]; exact hSl) (by rw [HN1.out]; omega) hpl (by omega) (by omega) hrd hap (by omega))
          have hlen := feedR_len s p (by rw [HN1.out]; omega)
          have hff := feedR_facts s p (by rw [HN1.out]; omega) hp3
          have hstep := bit_step HINV.out (by rw [HN1.out]; omega) (tq - u)
          rw [hp] at hstep
          have hdn : i = n2 ∨ i = 39 → BitDone s0 b (feedR s p).1 (cc ++ (feedR s p).2.1) (u + (feedR s p).2.2) := fun h => by
            have hd := bit_done HINV.out (by rw [HN1.out]; omega)
            have hpp : b.drop u = p := by
              rw [← hp, hlast h, List.take_of_length_le]
              rw [List.length_drop, HBB.out.len_eq]
              exact Nat.le_refl _
            rw [hpp] at hd
            exact hd
          obtain ⟨fr, hfr⟩ : ∃ fr, feedR s p = fr := ⟨_, rfl⟩
          rw [hfr] at HF hlen hff hstep hdn
          obtain ⟨s2, o2, m2⟩ := fr
          simp only at hlen hff hstep hdn
          have HLEN := Lib.hid hlen
          have HFF := Lib.hid hff
          have HSTEP := Lib.hid hstep
          have HDN := Lib.hid hdn
          have HPL := Lib.hid hpl
          clear hp hrd hap hlen hff hstep hdn hfr hpl HINV HDONE
          go_wp2_with fail
          refine HF.out.mono ?_
          rintro e w8 ⟨a8, n8, c8, rfl, hown8, hk8, hg8⟩
          simp only at hown8 hk8 ⊢
          have hn8 := OwnB.len hown8
          subst hn8
          have HO2 : Hid (OwnB w8 w7.heap.size (.slice av cc.length cv) cc) := Lib.hid (OwnG.grown HO.out hg8 (by
            cases hq : (Value.slice av cc.length cv).ownBlock with
            | none => exact .inl rfl
            | some z => exact .inr (fun e => by injection e with e; have := (OwnG.lt HO.out z hq).1; have := HGL7.out; omega)))
          have HR2 := Lib.hid (OwnB.rd hown8)
          have HK2 := Lib.hid hk8
          have HG2 := Lib.hid (grown_trans HG.out hg8)
          have S1 : Hid (cc.length + o2.length ≤ 140737488355328) := Lib.hid (by have := HCL.out; have := HLEN.out.1; have := HLEN.out.2; have := HPL.out; omega)
          have HZ2 : Hid (w7.heap.size ≤ w8.heap.size) := Lib.hid HG2.out.size
          clear hown8 hk8 hg8 HF HO HK HG HBW
          go_wp2_with (at_builtin; refine wpList_app rfl _ _ rfl w7.heap.size _ _ rfl HO2.out w8.heap.size a8 o2.length c8 o2 rfl rfl HR2.out S1.out HZ2.out ?_)
          intro v9 w9 hown9 hgr9 hat9
          have hgr9 : w8.grownBy w9 (Value.slice av cc.length cv).ownBlock := hgr9
          have hlt9 := OwnG.lt HO2.out
          have hk9 : SkAt w9 gg s2 := HK2.out.keep (hgr9.block gg HK2.out.lt (fun e => by have := (hlt9 gg e.symm).1; have := HGL7.out; omega))
          have hg9 : w7.grownBy w9 (some gg) := ⟨hgr9.os.trans HG2.out.os, hgr9.tape.trans HG2.out.tape, hgr9.output.trans HG2.out.output, Nat.le_trans HG2.out.size hgr9.size, fun k hk hne => (hgr9.block k (by have := HG2.out.size; omega) (fun e => by have := (hlt9 k e.symm).1; omega)).trans (HG2.out.block k hk hne)⟩
          have hl := HLEN.out
          rw [HPL.out] at hl
          have hfin : BtR W w7 gg s0 b N S n n2 v9 (.int .i64 (tq : Int)) (.int .i64 ((u : Int) + (m2 : Int))) (.int .i64 ((i : Int) + 1)) w9 := by
            refine ⟨i + 1, tq, u + m2, s2, cc ++ o2, by omega, by omega, by go_num, rfl, by go_num, by omega, hton, hown9, ?_, hk9, hg9, HFF.out.1.trans HN1.out, HFF.out.2.1.trans HN2.out, HFF.out.2.2, HSTEP.out, fun h => HDN.out (by omega)⟩
            rw [List.length_append]
            have := HCL.out
            omega
          have HFIN := Lib.hid hfin
          have hmeas : 41 - (i + 1) < 41 - i := by omega
          clear hfin hown9 hgr9 hat9 hlt9 hk9 hg9 HO2 HR2 HK2 HG2
          go_wp2_with fail
          all_goals go_roundw
          all_goals first
            | (case measure => simp [intOf]; omega)
            | exact HFIN.out
            | fail
        · have hgoI2 : ¬ ((i : Int) < 40) := by omega
          have hd := HDONE.out (.inr (by omega))
          have hphg : SkAt wr gh sh := other_keep HH7.out HG.out (by have := HGG.out; omega)
          rw [BitDone, HFR.out] at hd
          obtain ⟨e1, e2, hor⟩ := hd
          simp only at e1 e2 hor
          subst e1
          subst e2
          have hsa := same_any a7 av oh.length oh.length c7 cv oh oh wr rfl rfl (rd_grown HR7.out HAP7.out HG.out) (OwnB.rd HO.out)
          rw [beq_self_eq_true] at hsa
          have HSA := Lib.hid hsa
          have HPH := Lib.hid (phase_any gh sh wr hphg)
          have HPG := Lib.hid (phase_any gg sh wr HK.out)
          have HTH := Lib.hid (structured_any gh sh wr hphg)
          have HTG := Lib.hid (structured_any gg sh wr HK.out)
          clear hphg hsa HINV HDONE HO HK HG
          go_wp2_with fail
          refine HSA.out.mono ?_
          rintro e wE ⟨rfl, rfl⟩
          clear HSA
          go_wp2_with fail
          refine HPH.out.mono ?_
          rintro e wE ⟨rfl, rfl⟩
          go_wp2_with fail
          refine HPG.out.mono ?_
          rintro e wE ⟨rfl, rfl⟩
          go_wp2_with fail
          refine HTH.out.mono ?_
          rintro e wE ⟨rfl, rfl⟩
          go_wp2_with fail
          refine HTG.out.mono ?_
          rintro e wE ⟨rfl, rfl⟩
          by_cases hmu : mh = u
          · have hmI : ((mh : Int) == (u : Int)) = true := beq_iff_eq.2 (by omega)
            subst hmu
            go_wp2_with fail
            go_ret
            exact ⟨rfl, HBW.out⟩
          · have hmI : ((mh : Int) == (u : Int)) = false := beq_eq_false_iff_ne.2 (by omega)
            have hp : sh.phase = 3 := hor.resolve_left hmu
            rw [hp] at HPH
            go_wp2_with fail
            refine HPH.out.mono ?_
            rintro e wE ⟨rfl, rfl⟩
            go_wp2_with fail
            go_ret
            exact ⟨rfl, HBW.out⟩
      · have hgoI : ¬ ((i : Int) ≤ (n2 : Int)) := by omega
        have hd := HDONE.out (.inl (by omega))
        have hphg : SkAt wr gh sh := other_keep HH7.out HG.out (by have := HGG.out; omega)
        rw [BitDone, HFR.out] at hd
        obtain ⟨e1, e2, hor⟩ := hd
        simp only at e1 e2 hor
        subst e1
        subst e2
        have hsa := same_any a7 av oh.length oh.length c7 cv oh oh wr rfl rfl (rd_grown HR7.out HAP7.out HG.out) (OwnB.rd HO.out)
        rw [beq_self_eq_true] at hsa
        have HSA := Lib.hid hsa
        have HPH := Lib.hid (phase_any gh sh wr hphg)
        have HPG := Lib.hid (phase_any gg sh wr HK.out)
        have HTH := Lib.hid (structured_any gh sh wr hphg)
        have HTG := Lib.hid (structured_any gg sh wr HK.out)
        clear hphg hsa HINV HDONE HO HK HG
        go_wp2_with fail
        refine HSA.out.mono ?_
        rintro e wE ⟨rfl, rfl⟩
        clear HSA
        go_wp2_with fail
        refine HPH.out.mono ?_
        rintro e wE ⟨rfl, rfl⟩
        go_wp2_with fail
        refine HPG.out.mono ?_
        rintro e wE ⟨rfl, rfl⟩
        go_wp2_with fail
        refine HTH.out.mono ?_
        rintro e wE ⟨rfl, rfl⟩
        go_wp2_with fail
        refine HTG.out.mono ?_
        rintro e wE ⟨rfl, rfl⟩
        by_cases hmu : mh = u
        · have hmI : ((mh : Int) == (u : Int)) = true := beq_iff_eq.2 (by omega)
          subst hmu
          go_wp2_with fail
          go_ret
          exact ⟨rfl, HBW.out⟩
        · have hmI : ((mh : Int) == (u : Int)) = false := beq_eq_false_iff_ne.2 (by omega)
          have hp : sh.phase = 3 := hor.resolve_left hmu
          rw [hp] at HPH
          go_wp2_with fail
          refine HPH.out.mono ?_
          rintro e wE ⟨rfl, rfl⟩
          go_wp2_with fail
          go_ret
          exact ⟨rfl, HBW.out⟩
end Go.Proofs.Ytnpcpbjoonjaoaa
