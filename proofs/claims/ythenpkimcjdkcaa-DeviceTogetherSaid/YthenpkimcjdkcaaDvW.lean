/- the law: one moment for all -/
import Derived.Test.YthenpkimcjdkcaaDvV
namespace Go.Proofs.Ythenpkimcjdkcaa
set_option linter.unusedVariables false
set_option linter.unusedSimpArgs false
open Go.RowKit

abbrev TwoTy : Ty := .slice (.st (.pair .bool (.pair .bool (.pair (.int .i64) (.pair .bytes .unit)))))
theorem twos_at {w : World} {a : Option Addr} {n c : Nat} {ls : TwoTy.den} (h : TwoTy.reads w [.slice a n c] ls) (i : Nat) (hi : i < n) :
    ∃ b off bB bS ii ab nb cb bl, a = some ⟨b, off, none⟩ ∧ b < w.heap.size ∧ w.cell? ⟨b, off + i * 4, none⟩ = some (.bool bB) ∧ w.cell? ⟨b, off + i * 4 + 1, none⟩ = some (.bool bS) ∧ w.cell? ⟨b, off + i * 4 + 2, none⟩ = some (.int .i64 ii) ∧ w.cell? ⟨b, off + i * 4 + 3, none⟩ = some (.slice ab nb cb) ∧ BytesIn w ab nb cb bl ∧
      -9223372036854775808 ≤ ii ∧ ii ≤ 9223372036854775807 := by
  obtain ⟨a', n', c', e, h2, _, _, h5⟩ := h
  simp only [List.cons.injEq, Value.slice.injEq, and_true] at e
  obtain ⟨rfl, rfl, rfl⟩ := e
  have hlt : i < List.length ls := Nat.lt_of_lt_of_eq hi h2.symm
  rcases h5 with h5 | ⟨b, off, ha, hb, hat⟩
  · omega
  · obtain ⟨cells, hcl, hcell, hB⟩ := hat i _ (List.getElem?_eq_getElem hlt)
    obtain ⟨cs1, hc1, hB⟩ := reads_bool hB
    obtain ⟨cs2, hc2, hB⟩ := reads_bool hB
    obtain ⟨cs3, hc3, hwf, hB⟩ := reads_int hB
    obtain ⟨ab, nb, cb, cs4, hc4, hD, hB⟩ := reads_bytes hB
    subst hc4; subst hc3; subst hc2; subst hc1
    have q0 := hcell 0 _ rfl
    have q1 := hcell 1 _ rfl
    have q2 := hcell 2 _ rfl
    have q3 := hcell 3 _ rfl
    have hw := wf64 hwf
    exact ⟨b, off, _, _, _, ab, nb, cb, _, ha, hb, by simpa [Ty.size] using q0, by simpa [Ty.size] using q1, by simpa [Ty.size] using q2, by simpa [Ty.size] using q3, hD, hw.1, hw.2⟩

/-- The first i acts. -/
structure TwoS (W wr : World) (M : Int) (G : Bool → Nat) (gn gs : Nat) (k : Int) (i : Nat) (L : Bool → Lay) (I : Bool → Nat → Prop) (D : Bool → Dv) (q : Nat) (N S : List (List UInt8)) : Prop where
  g : ∀ s, (L s).g = G s
  two : Two W wr L I D q k
  inv : TInv M D k i N S
  now : SlArr wr gn 55 N
  sure : SlArr wr gs 55 S
  ne : gn ≠ gs
  wn : W.heap.size ≤ gn
  ws : W.heap.size ≤ gs
theorem TwoS.step {W wr w' : World} {M : Int} {G : Bool → Nat} {gn gs : Nat} {k k' : Int} {i : Nat} {L : Bool → Lay} {I : Bool → Nat → Prop} {D : Bool → Dv} {q : Nat} {N S : List (List UInt8)} (h : TwoS W wr M G gn gs k i L I D q N S) (s : Bool) {L' : Lay} {I' : Nat → Prop} {D' : Dv}
    (hd : DevAt w' L' I' D') (hk : Clk w' (L s).clk k') (hg : Grow wr w' (L s) L' (I s) I') : (∀ t, (upd L s L' t).g = G t) ∧ Two W w' (upd L s L') (upd I s I') (upd D s D') q k' ∧ SlArr w' gn 55 N ∧ SlArr w' gs 55 S := by
  have hno : NoU8 (fun j => (L s).M j ∨ j = (L s).clk) wr := DevAt.noU8 (h.two.dev s) (h.two.clkAt s)
  refine ⟨fun t => ?_, h.two.step s hd hk hg, h.now.chg hg.chg hno (h.now.notM (h.two.dev s) (h.two.clkAt s) (by decide) (by decide)), h.sure.chg hg.chg hno (h.sure.notM (h.two.dev s) (h.two.clkAt s) (by decide) (by decide))⟩
  by_cases e : t = s
  · subst e; rw [upd_same, hg.g, h.g]
  · rw [upd_other _ _ e, h.g]
theorem TwoS.below {W wr w' : World} {M : Int} {G : Bool → Nat} {gn gs : Nat} {k : Int} {i : Nat} {L : Bool → Lay} {I : Bool → Nat → Prop} {D : Bool → Dv} {q : Nat} {N S : List (List UInt8)} (h : TwoS W wr M G gn gs k i L I D q N S) (hb : Below wr.heap.size wr w') : TwoS W w' M G gn gs k i L I D q N S :=
  ⟨h.g, h.two.below hb, h.inv, h.now.below hb, h.sure.below hb, h.ne, h.wn, h.ws⟩
def CntR (w0 : World) (m : Nat) (vi : Value) (wr : World) : Prop := ∃ i : Nat, i ≤ m ∧ vi = .int .i64 (i : Int) ∧ Below w0.heap.size w0 wr
def TwoR (W : World) (M : Int) (G : Bool → Nat) (gn gs n : Nat) (v14 vi : Value) (wr : World) : Prop :=
  ∃ (i : Nat) (k : Int) (L : Bool → Lay) (I : Bool → Nat → Prop) (D : Bool → Dv) (q : Nat) (N S : List (List UInt8)), i ≤ n ∧ i ≤ 60 ∧ vi = .int .i64 (i : Int) ∧ v14 = .int .i64 k ∧ TwoS W wr M G gn gs k i L I D q N S

set_option maxRecDepth 20000 in
set_option maxHeartbeats 4000000 in
theorem law_DeviceTogether (a : Option Addr) (n c : Nat) (ls : TwoTy.den) (z : Int) (ak : Option Addr) (nk ck : Nat) (ks : BoolsTy.den) (W : World) (hl : TwoTy.reads W (Value.slice a n c).cells.toList ls) (hz : (Lit.int .i64 z).wf = true) (hk : BoolsTy.reads W (Value.slice ak nk ck).cells.toList ks) :
    Calls Try.prog 8 #[.slice a n c, .int .i64 z, .slice ak nk ck] W fun e w' => e = .returned (.bool true) ∧ Below W.heap.size W w' := by
  have HL := Lib.hid (dsl_arg hl)
  have HN63 := Lib.hid (dsl_len (dsl_arg hl))
  have HK63 := Lib.hid (dsl_len (dsl_arg hk))
  obtain ⟨kl, hkl, hkr⟩ := bools_in (dsl_arg hk)
  have HKL := Lib.hid hkl
  have HKR := Lib.hid hkr
  have hz1 := (wf64 hz).1
  have hz2 := (wf64 hz).2
  clear hl hz hk hkl hkr
  go_enter Try.func8, Try.ntmps8
  go_wp2_with fail
  refine (newDev_any 4 (by omega) (by omega) W).mono ?_
  rintro e w1 ⟨L0, rfl, h0, hk0, hb0, hm0, hc0⟩
  have H0 := Lib.hid h0
  have HB0 := Lib.hid hb0
  have HM0 := Lib.hid hm0
  clear h0 hk0 hb0 hm0 hc0
  go_wp2_with fail
  refine (newDev_any 4 (by omega) (by omega) w1).mono ?_
  rintro e w2 ⟨L1, rfl, h1, hk1, hb1, hm1, hc1⟩
  obtain ⟨L, hLf, hLt⟩ : ∃ L : Bool → Lay, L0 = L false ∧ L1 = L true := ⟨fun s => if s = true then L1 else L0, rfl, rfl⟩
  subst hLf
  subst hLt
  obtain ⟨G, hG⟩ : ∃ G : Bool → Nat, ∀ s, (L s).g = G s := ⟨fun s => (L s).g, fun _ => rfl⟩
  have hdv : ∀ s, DevAt w2 (L s) (fun _ => False) (dv0 4) := fun s => by
    cases s
    · exact H0.out.below hb1
    · exact h1
  have hsp : ∀ s t, s ≠ t → ∀ j, (L s).M j → ¬ (L t).M j := by
    have h : ∀ j, (L false).M j → ¬ (L true).M j := fun j h2 h3 => by
      have := H0.out.ltM h2
      have := hm1 j h3
      omega
    intro s t hst j h2 h3
    cases s <;> cases t
    · exact hst rfl
    · exact h j h2 h3
    · exact h j h3 h2
    · exact hst rfl
  have hwm : ∀ s j, (L s).M j → W.heap.size ≤ j := fun s j hj => by
    cases s
    · exact HM0.out j hj
    · exact Nat.le_trans HB0.out.size (hm1 j hj)
  have HDV := Lib.hid hdv
  have HSP := Lib.hid hsp
  have HWM := Lib.hid hwm
  have HB2 := Lib.hid (HB0.out.trans (hb1.mono HB0.out.size))
  have HG := Lib.hid hG
  rw [hG, hG]
  clear h1 hk1 hb1 hm1 hc1 hdv hsp hwm H0 HB0 HM0 hG
  go_wp2_with fail
  refine (dalive_any _).mono ?_
  rintro e w3 ⟨rfl, hb3⟩
  have HD3 : Hid (∀ s, DevAt w3 (L s) (fun _ => False) (dv0 4)) := Lib.hid fun s => (HDV.out s).below hb3
  have HB3 := Lib.hid (HB2.out.trans (hb3.mono HB2.out.size))
  clear hb3 HDV HB2
  obtain ⟨w4, hw4⟩ : ∃ w4, w3.alloc (.cells #[.pointer (some ⟨G false, 0, none⟩), .pointer (some ⟨G true, 0, none⟩)] 24) = w4 := ⟨_, rfl⟩
  have hb34 : Below w3.heap.size w3 w4 := by rw [← hw4]; exact (Below.refl _ _).alloc (Nat.le_refl _) _
  have hbk : Blk w4 w3.heap.size 24 [.pointer (some ⟨G false, 0, none⟩), .pointer (some ⟨G true, 0, none⟩)] := by rw [← hw4]; exact Blk.new _ _ _
  have HT := Lib.hid (together_any (fun s => (HD3.out s).below hb34) HSP.out (fun _ => rfl) (fun _ => rfl) w3.heap.size (fun s => by
    have h2 := HG.out
    cases s
    · rw [h2]; exact hbk.cell 0 _ rfl
    · rw [h2]; exact hbk.cell 1 _ rfl) hbk.lt (fun s e => by have := (HD3.out s).blk.lt; omega))
  have HB34 := Lib.hid hb34
  clear hb34 hbk
  go_wp2_with fail
  refine HT.out.mono ?_
  rintro e w5 ⟨rfl, hT⟩
  have hT2 : Two W w5 (fun s => { L s with clk := w4.heap.size }) (fun _ _ => False) (fun _ => dv0 4) w4.heap.size 0 :=
    ⟨hT.dev, hT.clk, fun _ => rfl, fun j h1 h2 => HSP.out false true (by decide) j h1 h2, fun s j h => HWM.out s j h, Nat.le_trans HB3.out.size HB34.out.size, fun _ _ h => h.elim,
      (HB3.out.trans (HB34.out.mono HB3.out.size)).trans (hT.chg.below (Nat.le_trans HB3.out.size HB34.out.size) (fun j ⟨s, hs⟩ => by rw [hs]; exact HWM.out s _ (.inl rfl)))⟩
  have hst : ∀ M, TwoS W ((w5.alloc (.cells (List.replicate 8 (Value.slice none 0 0)).toArray 55)).alloc (.cells (List.replicate 8 (Value.slice none 0 0)).toArray 55)) M G w5.heap.size (w5.heap.size + 1) 0 0 (fun s => { L s with clk := w4.heap.size }) (fun _ _ => False) (fun _ => dv0 4) w4.heap.size (List.replicate 8 []) (List.replicate 8 []) := by
    have b1 : Below w5.heap.size w5 (w5.alloc (.cells (List.replicate 8 (Value.slice none 0 0)).toArray 55)) := (Below.refl _ _).alloc (Nat.le_refl _) _
    have n1 := SlArr.new w5 55 8
    have n2 := SlArr.new (w5.alloc (.cells (List.replicate 8 (Value.slice none 0 0)).toArray 55)) 55 8
    rw [World.size_alloc] at n2
    exact fun M => ⟨HG.out, (hT2.below b1).below ((Below.refl _ _).alloc (Nat.le_refl _) _), TInv.new M, n1.below ((Below.refl _ _).alloc (Nat.le_refl _) _), n2, by omega, hT2.bel.size, by have := hT2.bel.size; omega⟩
  have HST := Lib.hid hst
  clear hT hT2 hst HT HB34 HD3 HB3 HSP HWM HG hw4
  obtain ⟨Lq, hLq⟩ : ∃ Lq : Bool → Lay, (fun s => { L s with clk := w4.heap.size }) = Lq := ⟨_, rfl⟩
  rw [hLq] at HST
  clear hLq
  go_upto_region 9 with (fail)
  have e8 : (List.replicate 8 (Value.slice none 0 0)).toArray = #[Value.slice none 0 0, Value.slice none 0 0, Value.slice none 0 0, Value.slice none 0 0, Value.slice none 0 0, Value.slice none 0 0, Value.slice none 0 0, Value.slice none 0 0] := rfl
  rw [e8] at HST
  clear e8
  generalize (w5.alloc (Obj.cells #[Value.slice none 0 0, Value.slice none 0 0, Value.slice none 0 0, Value.slice none 0 0, Value.slice none 0 0, Value.slice none 0 0, Value.slice none 0 0, Value.slice none 0 0] 55)).alloc (Obj.cells #[Value.slice none 0 0, Value.slice none 0 0, Value.slice none 0 0, Value.slice none 0 0, Value.slice none 0 0, Value.slice none 0 0, Value.slice none 0 0, Value.slice none 0 0] 55) = w6 at HST ⊢
  generalize w4.heap.size = q0 at HST
  generalize w5.heap.size + 1 = gs at HST ⊢
  generalize w5.heap.size = gn at HST ⊢
  go_upto_if 63 with (fail)
  go_cut [1] (fun v wn => (∃ p : Nat, p ≤ 9223372036854775807 ∧ v = .int .i64 (p : Int)) ∧ wn = w6)
  case first =>
    as_aux_lemma =>
      --[ neg
      by_cases hneg : z < 0
      · go_wp2_with fail
        go_meet
        exact ⟨⟨(-(z + 1)).toNat, by omega, by congr 1; omega⟩, rfl⟩
      · go_wp2_with fail
        go_meet
        exact ⟨⟨z.toNat, by omega, by congr 1; omega⟩, rfl⟩
      --] neg
  case' rest =>
    obtain ⟨⟨p, hp, rfl⟩, hw⟩ := hcut
    subst hw
    rename World => w6
  clear hz1 hz2
  go_upto_region 11 with (fail)
  go_cut [13] (fun v wn => (∃ M : Int, 0 ≤ M ∧ M ≤ 9223372036854775807 ∧ v = .int .i64 M) ∧ wn = w6)
  case first =>
    as_aux_lemma =>
      --[ rem
      have hn2 := HN63.out
      have p0 : (0 : Int) ≤ (p : Int) := Int.natCast_nonneg _
      have n0 : (0 : Int) ≤ (n : Int) := Int.natCast_nonneg _
      by_cases hbig : n = 9223372036854775807
      · subst hbig
        have tmp : (p : Int).tmod (-9223372036854775808) = (p : Int) := by
          rw [Int.tmod_neg, Int.tmod_eq_emod_of_nonneg (by omega)]; omega
        have w9 : wrap64 9223372036854775808 = -9223372036854775808 := by decide +kernel
        clear hn2
        go_wp2_with fail
        go_meet
        exact ⟨⟨(p : Int), by omega, by omega, rfl⟩, rfl⟩
      · have nI : (n : Int) + 1 ≤ 9223372036854775807 := by omega
        have nZ : ¬ ((n : Int) + 1 = 0) := by omega
        have tmp : (p : Int).tmod ((n : Int) + 1) = ((p % (n + 1) : Nat) : Int) := by rw [Int.tmod_eq_emod_of_nonneg (by omega), Int.natCast_emod]; rfl
        have hle : p % (n + 1) ≤ p := Nat.mod_le _ _
        have q1 : (0 : Int) ≤ (((p % (n + 1) : Nat)) : Int) := Int.natCast_nonneg _
        have q2 : (((p % (n + 1) : Nat)) : Int) ≤ 9223372036854775807 := by omega
        generalize p % (n + 1) = r at tmp hle q1 q2
        clear hn2
        go_wp2_with fail
        go_meet
        exact ⟨⟨_, q1, q2, rfl⟩, rfl⟩
      --] rem
  case' rest =>
    obtain ⟨⟨M, hM0, hM1, rfl⟩, hw⟩ := hcut
    subst hw
    rename World => w6
  clear hp
  go_upto_block 0 with (fail)
  go_cut [14, 15] (fun v14 vi wn => TwoR W M G gn gs n v14 vi wn)
  case first =>
    go_wp2_with fail
    go_loopw [14, 15] (fun v14 vi wr => TwoR W M G gn gs n v14 vi wr) (fun _ vi _ => 60 - (intOf vi).toNat)
    case atStart => exact ⟨0, 0, _, _, _, _, _, _, Nat.zero_le _, Nat.zero_le _, rfl, rfl, HST.out M⟩
    case round =>
      clear HST
      obtain ⟨i, k, Li, Ii, Di, q, N, S, hi, hiM, rfl, rfl, hs⟩ := hrel
      have HS := Lib.hid hs
      have i0 : (0 : Int) ≤ (i : Int) := Int.natCast_nonneg i
      clear hs
      by_cases hgo : i < n
      · have hgoI : (i : Int) < (n : Int) := by omega
        by_cases hgo2 : i < 60
        · have hgoI2 : (i : Int) < 60 := by omega
          obtain ⟨bo, oo, bB, bS, ii, abx, nbx, cbx, blx, rfl, hbo, hc0, hc1, hc2, hc3, hD, hi1, hi2⟩ := twos_at HL.out i hgo
          have q0 := (HS.out.two.bel.cell (p := ⟨bo, oo + i * 4, none⟩) hbo).trans hc0
          have q1 := (HS.out.two.bel.cell (p := ⟨bo, oo + i * 4 + 1, none⟩) hbo).trans hc1
          have q2 := (HS.out.two.bel.cell (p := ⟨bo, oo + i * 4 + 2, none⟩) hbo).trans hc2
          have q3 := (HS.out.two.bel.cell (p := ⟨bo, oo + i * 4 + 3, none⟩) hbo).trans hc3
          have HBD := Lib.hid hD
          have HBO := Lib.hid hbo
          have HQ2 : Hid (∀ wx, Below W.heap.size W wx → wx.cell? ⟨bo, oo + i * 4 + 2, none⟩ = some (.int .i64 ii)) := Lib.hid (fun wx hx => (hx.cell (p := ⟨bo, oo + i * 4 + 2, none⟩) hbo).trans hc2)
          have HQ3 : Hid (∀ wx, Below W.heap.size W wx → wx.cell? ⟨bo, oo + i * 4 + 3, none⟩ = some (.slice abx nbx cbx)) := Lib.hid (fun wx hx => (hx.cell (p := ⟨bo, oo + i * 4 + 3, none⟩) hbo).trans hc3)
          have HII := Lib.hid (And.intro hi1 hi2)
          have kb := (HS.out.inv.inv bB).k0
          have kb1 : k ≤ 60 := by have := (HS.out.inv.inv bB).k1; omega
          clear hc0 hc1 hc2 hc3 hbo hD hi1 hi2
          go_upto_if 87 with (fail)
          go_cut [16, 17] (fun v16 v17 wn => v16 = .pointer (some ⟨G bB, 0, none⟩) ∧ v17 = .int .i64 (two bB : Int) ∧ wn = wr)
          case first =>
            as_aux_lemma =>
              --[ pickd
              cases bB
              · go_wp2_with fail
                go_meet
                exact ⟨rfl, rfl, rfl⟩
              · go_wp2_with fail
                go_meet
                exact ⟨rfl, rfl, rfl⟩
              --] pickd
          case' rest =>
            obtain ⟨rfl, rfl, hw⟩ := hcut
            subst hw
            rename World => wr
          cases bS with
          | true =>
            as_aux_lemma =>
              --[ sync
              have HSY := sync_any (HS.out.two.dev bB) (HS.out.two.clkAt bB) (by have := (HS.out.inv.inv bB).syncs; omega)
              rw [HS.out.g] at HSY
              have HSY := Lib.hid HSY
              go_wp2_with fail
              refine HSY.out.mono ?_
              rintro e w7 ⟨rfl, L5, I5, h5, hk5, hg5⟩
              obtain ⟨hgg, ht, hnw, hsw⟩ := HS.out.step bB h5 hk5 hg5
              have hfz : ∀ j, w7.frozen? ⟨gs, j, none⟩ = false := fun j => by obtain ⟨vs, h1, _⟩ := hsw; exact h1.frozen j
              by_cases hkM : k < M
              · have hinv := HS.out.inv.sync bB hkM
                cases bB
                · obtain ⟨a0, n0, c0, a1, n1, c1, a2, n2, c2, a3, n3, c3, r0, r1, r2, r3, hrn, hrs, hch⟩ := SlArr.row hnw hsw (by decide) HS.out.ne HS.out.inv.nl HS.out.inv.sl (two  false) 0 1 2 3 (two_lt _) rfl rfl rfl rfl
                  have hfin : TwoR W M G gn gs n (.int .i64 k) (.int .i64 ((i : Int) + 1)) ((((w7.setCell ⟨gs, 0, none⟩ (.slice a0 n0 c0)).setCell ⟨gs, 1, none⟩ (.slice a1 n1 c1)).setCell ⟨gs, 2, none⟩ (.slice a2 n2 c2)).setCell ⟨gs, 3, none⟩ (.slice a3 n3 c3)) :=
                    ⟨i + 1, k, _, _, _, _, _, _, hgo, hgo2, by go_num, rfl, hgg, ht.turn hsw HS.out.ws hch, hinv, hrn, hrs, HS.out.ne, HS.out.wn, HS.out.ws⟩
                  have HFIN := Lib.hid hfin
                  have f0 : w7.frozen? ⟨gs, 0, none⟩ = false := hfz 0
                  obtain ⟨x0, y0, z0, g0, _⟩ := hsw.getU 0 (by rw [HS.out.inv.sl]; omega)
                  have f1 : w7.frozen? ⟨gs, 1, none⟩ = false := hfz 1
                  obtain ⟨x1, y1, z1, g1, _⟩ := hsw.getU 1 (by rw [HS.out.inv.sl]; omega)
                  have f2 : w7.frozen? ⟨gs, 2, none⟩ = false := hfz 2
                  obtain ⟨x2, y2, z2, g2, _⟩ := hsw.getU 2 (by rw [HS.out.inv.sl]; omega)
                  have f3 : w7.frozen? ⟨gs, 3, none⟩ = false := hfz 3
                  obtain ⟨x3, y3, z3, g3, _⟩ := hsw.getU 3 (by rw [HS.out.inv.sl]; omega)
                  rw [show ((two false : Nat) : Int) = 0 from rfl]
                  clear hrn hrs hch hfin h5 hk5 hg5 ht hgg hnw hsw hinv hfz HSY HS HBD HL
                  go_wp2_with fail
                  all_goals go_roundw
                  all_goals first
                    | (case measure => simp [intOf]; omega)
                    | exact HFIN.out
                    | ((repeat apply Exists.intro); exact ⟨HFIN.out, rfl⟩)
                · obtain ⟨a0, n0, c0, a1, n1, c1, a2, n2, c2, a3, n3, c3, r0, r1, r2, r3, hrn, hrs, hch⟩ := SlArr.row hnw hsw (by decide) HS.out.ne HS.out.inv.nl HS.out.inv.sl (two  true) 4 5 6 7 (two_lt _) rfl rfl rfl rfl
                  have hfin : TwoR W M G gn gs n (.int .i64 k) (.int .i64 ((i : Int) + 1)) ((((w7.setCell ⟨gs, 4, none⟩ (.slice a0 n0 c0)).setCell ⟨gs, 5, none⟩ (.slice a1 n1 c1)).setCell ⟨gs, 6, none⟩ (.slice a2 n2 c2)).setCell ⟨gs, 7, none⟩ (.slice a3 n3 c3)) :=
                    ⟨i + 1, k, _, _, _, _, _, _, hgo, hgo2, by go_num, rfl, hgg, ht.turn hsw HS.out.ws hch, hinv, hrn, hrs, HS.out.ne, HS.out.wn, HS.out.ws⟩
                  have HFIN := Lib.hid hfin
                  have f0 : w7.frozen? ⟨gs, 4, none⟩ = false := hfz 4
                  obtain ⟨x0, y0, z0, g0, _⟩ := hsw.getU 4 (by rw [HS.out.inv.sl]; omega)
                  have f1 : w7.frozen? ⟨gs, 5, none⟩ = false := hfz 5
                  obtain ⟨x1, y1, z1, g1, _⟩ := hsw.getU 5 (by rw [HS.out.inv.sl]; omega)
                  have f2 : w7.frozen? ⟨gs, 6, none⟩ = false := hfz 6
                  obtain ⟨x2, y2, z2, g2, _⟩ := hsw.getU 6 (by rw [HS.out.inv.sl]; omega)
                  have f3 : w7.frozen? ⟨gs, 7, none⟩ = false := hfz 7
                  obtain ⟨x3, y3, z3, g3, _⟩ := hsw.getU 7 (by rw [HS.out.inv.sl]; omega)
                  rw [show ((two true : Nat) : Int) = 1 from rfl]
                  clear hrn hrs hch hfin h5 hk5 hg5 ht hgg hnw hsw hinv hfz HSY HS HBD HL
                  go_wp2_with fail
                  all_goals go_roundw
                  all_goals first
                    | (case measure => simp [intOf]; omega)
                    | exact HFIN.out
                    | ((repeat apply Exists.intro); exact ⟨HFIN.out, rfl⟩)
              · have hinv := HS.out.inv.sync' bB hkM
                have hfin : TwoR W M G gn gs n (.int .i64 k) (.int .i64 ((i : Int) + 1)) w7 := ⟨i + 1, k, _, _, _, _, _, _, hgo, hgo2, by go_num, rfl, hgg, ht, hinv, hnw, hsw, HS.out.ne, HS.out.wn, HS.out.ws⟩
                have HFIN := Lib.hid hfin
                clear hfin h5 hk5 hg5 ht hgg hnw hsw hinv hfz HSY HS HBD HL
                go_wp2_with fail
                all_goals go_roundw
                all_goals first
                  | (case measure => simp [intOf]; omega)
                  | exact HFIN.out
                  | ((repeat apply Exists.intro); exact ⟨HFIN.out, rfl⟩)
              --] sync
          | false =>
            as_aux_lemma =>
              --[ write
              have HN : n ≤ 9223372036854775807 := by have := HN63.out; omega
              by_cases hok : 0 ≤ ii ∧ ii < ((4 : Nat) : Int) ∧ blx.length ≤ 64
              · obtain ⟨j, rfl⟩ : ∃ j : Nat, ii = (j : Int) := ⟨ii.toNat, by omega⟩
                have hj4 : j < 4 := by omega
                obtain ⟨e1, e2, hput⟩ := HS.out.inv.put bB j hj4 blx hok.2.2
                have HW := write_any (HS.out.two.dev bB).drew (Clk.below (HS.out.two.clkAt bB) ((Below.refl _ _).drew)) kb (by omega) (by have := (HS.out.inv.inv bB).log; omega) (j : Int) HII.out.1 HII.out.2 abx nbx cbx blx HBD.out.len_eq (HBD.out.rd.below HS.out.two.bel |>.more HS.out.two.bel.size) (Apt.of HBD.out.rd (by rw [HS.out.two.same]; exact HS.out.two.c))
                rw [HS.out.g, e1, e2] at HW
                have HW := Lib.hid HW
                have HPUT := Lib.hid hput
                have HJ := Lib.hid hj4
                have HB64 := Lib.hid hok.2.2
                clear e1 e2 hput hok hj4
                go_upto_region 25 with (fail)
                go_still_tail 11, (by kernel_rfl)
                change wpList _ _ _ _ _ wr.drew
                go_wp2_with fail
                refine HW.out.mono ?_
                rintro e w7 ⟨rfl, L5, I5, h5, hk5, hg5⟩
                have HS' := HS.out.below (Below.refl _ _).drew
                obtain ⟨hgg, ht, hnw, hsw⟩ := HS'.step bB h5 hk5 hg5
                by_cases hkM : k + 1 ≤ M
                · have hinv := HPUT.out
                  rw [if_pos hkM] at hinv
                  have hbl : Below W.heap.size W w7 := ht.bel
                  have hbn : bo ≠ gn := by have := HBO.out; have := HS.out.wn; omega
                  have q2' : ∀ wx, Chg (fun k => k = gn) w7 wx → wx.cell? ⟨bo, oo + i * 4 + 2, none⟩ = some (.int .i64 (j : Int)) := fun wx hx => (World.cell?_of_block (a := ⟨bo, oo + i * 4 + 2, none⟩) (hx.block _ (Nat.lt_of_lt_of_le HBO.out hbl.size) hbn)).trans (HQ2.out w7 hbl)
                  have q3' : ∀ wx, Chg (fun k => k = gn) w7 wx → wx.cell? ⟨bo, oo + i * 4 + 3, none⟩ = some (.slice abx nbx cbx) := fun wx hx => (World.cell?_of_block (a := ⟨bo, oo + i * 4 + 3, none⟩) (hx.block _ (Nat.lt_of_lt_of_le HBO.out hbl.size) hbn)).trans (HQ3.out w7 hbl)
                  have KF : Hid (∀ wx, Below w7.heap.size w7 wx → Calls Try.prog 19 #[.slice abx nbx cbx] wx fun e w' => ∃ a' c', e = .returned (.slice a' 64 c') ∧ OwnB w' wx.heap.size (.slice a' 64 c') (full blx) ∧ Below w7.heap.size w7 w') := Lib.hid (fun wx hx => by
                    refine (full_any abx nbx cbx blx wx HBD.out.len_eq (by rw [← HBD.out.len_eq]; exact HB64.out) ((HBD.out.rd.below (hbl.trans (hx.mono hbl.size))).more (Nat.le_trans hbl.size hx.size))).mono ?_
                    rintro e w' ⟨a', c', rfl, h1, h2⟩
                    exact ⟨a', c', rfl, h1, hx.trans (h2.mono hx.size)⟩)
                  have hr0 : Below w7.heap.size w7 w7 := Below.refl _ _
                  have hr1 : Below w7.heap.size w7 w7.drew := (Below.refl _ _).drew
                  have j0 : (0 : Int) ≤ (j : Int) := Int.natCast_nonneg _
                  have j4 : (j : Int) < 4 := by have := HJ.out; omega
                  have t0 : (0 : Int) ≤ (two bB : Int) := Int.natCast_nonneg _
                  have t2 : ((two bB : Nat) : Int) < 2 := by have := two_lt bB; omega
                  have f7 : ∀ wx jj, Below w7.heap.size w7 wx → wx.frozen? ⟨gn, jj, none⟩ = false := fun wx jj hx => by obtain ⟨vs, h1, _⟩ := hnw; exact (h1.below hx).frozen jj
                  obtain ⟨xg, yg, zg, hcg, _⟩ := hnw.getU (two bB * 4 + j) (by rw [HS.out.inv.nl]; have := two_lt bB; have := HJ.out; omega)
                  have c7 : ∀ wx, Below w7.heap.size w7 wx → wx.cell? ⟨gn, two bB * 4 + j, none⟩ = some (.slice xg yg zg) := fun wx hx => (hx.cell (p := ⟨gn, two bB * 4 + j, none⟩) hnw.lt).trans hcg
                  have HT7 := Lib.hid ht
                  have HNW := Lib.hid hnw
                  have HSW := Lib.hid hsw
                  have HGG := Lib.hid hgg
                  have HINV := Lib.hid hinv
                  clear h5 hk5 hg5 ht hgg hnw hsw hinv HS' HW HPUT hbl q0 q1 q2 q3
                  go_upto_region 28 with (fail)
                  have KCH : Hid (∀ wx, Below w7.heap.size w7 wx → Chg (fun k => k = gn) w7 wx) := Lib.hid (fun wx hx => Chg.of_below hx)
                  have KST : Hid (∀ wx ii v, Chg (fun k => k = gn) w7 wx → Chg (fun k => k = gn) w7 (wx.setCell ⟨gn, ii, none⟩ v)) := Lib.hid (fun wx ii v hx => hx.trans' (Chg.setCell wx _ _ rfl))
                  have hch0 := KCH.out _ hr0
                  have hch1 := KCH.out _ hr1
                  go_region_held3 (fun w' => Chg (fun k => k = gn) w7 w')
                    (first | assumption | exact KST.out _ _ _ (by assumption) | go_keep)
                    (first
                      | ((with_reducible refine (KF.out _ (by assumption)).mono ?_); rintro e w8 ⟨a8, c8, rfl, hown8, hb8⟩; have hch8 := KCH.out _ hb8)
                      | fail)
                  have hU := BytesU.of hown8
                  have hfin : TwoR W M G gn gs n (.int .i64 (k + 1)) (.int .i64 ((i : Int) + 1)) (w8.setCell ⟨gn, two bB * 4 + j, none⟩ (.slice a8 64 c8)) :=
                    ⟨i + 1, k + 1, _, _, _, _, _, _, hgo, hgo2, by go_num, rfl, HGG.out, (HT7.out.below hb8).turn (HNW.out.below hb8) HS.out.wn (Chg.setCell w8 _ _ rfl), HINV.out, (HNW.out.below hb8).put (by decide) _ hU, (HSW.out.below hb8).other (HNW.out.below hb8) (by decide) (Ne.symm HS.out.ne) _ _, HS.out.ne, HS.out.wn, HS.out.ws⟩
                  have HFIN := Lib.hid hfin
                  clear hfin hU hown8 hb8 hch8 hch0 hch1 q2' q3' hcg c7 f7 hr0 hr1
                  go_wp2_with fail
                  all_goals go_roundw
                  all_goals first
                    | (case measure => simp [intOf]; omega)
                    | exact HFIN.out
                    | ((repeat apply Exists.intro); exact ⟨HFIN.out, rfl⟩)
                · have hinv := HPUT.out
                  rw [if_neg hkM] at hinv
                  have hfin : TwoR W M G gn gs n (.int .i64 (k + 1)) (.int .i64 ((i : Int) + 1)) w7 := ⟨i + 1, k + 1, _, _, _, _, _, _, hgo, hgo2, by go_num, rfl, hgg, ht, hinv, hnw, hsw, HS.out.ne, HS.out.wn, HS.out.ws⟩
                  have HFIN := Lib.hid hfin
                  clear hfin h5 hk5 hg5 ht hgg hnw hsw hinv HS' HW HPUT HBD
                  go_wp2_with fail
                  all_goals go_roundw
                  all_goals first
                    | (case measure => simp [intOf]; omega)
                    | exact HFIN.out
                    | ((repeat apply Exists.intro); exact ⟨HFIN.out, rfl⟩)
              · obtain ⟨hne, he2⟩ := writeR_no (HS.out.inv.inv bB) ii blx hok
                have HW := write_any (HS.out.two.dev bB).drew (Clk.below (HS.out.two.clkAt bB) ((Below.refl _ _).drew)) kb (by omega) (by have := (HS.out.inv.inv bB).log; omega) ii HII.out.1 HII.out.2 abx nbx cbx blx HBD.out.len_eq (HBD.out.rd.below HS.out.two.bel |>.more HS.out.two.bel.size) (Apt.of HBD.out.rd (by rw [HS.out.two.same]; exact HS.out.two.c))
                obtain ⟨er, her⟩ : ∃ er, (writeR (Di bB) ii blx k).1 = er := ⟨_, rfl⟩
                rw [HS.out.g, her] at HW
                rw [her] at hne
                have HW := Lib.hid HW
                have HOK := Lib.hid hok
                clear he2 her hok
                go_upto_region 25 with (fail)
                go_still_tail 11, (by kernel_rfl)
                change wpList _ _ _ _ _ wr.drew
                go_wp2_with fail
                refine HW.out.mono ?_
                rintro e w7 ⟨rfl, L5, I5, h5, hk5, hg5⟩
                have HS' := HS.out.below (Below.refl _ _).drew
                obtain ⟨hgg, ht, hnw, hsw⟩ := HS'.step bB h5 hk5 hg5
                have hinv := HS.out.inv.no bB ii blx HOK.out
                have hk2 : (writeR (Di bB) ii blx k).2.2 = k := by rw [(writeR_no (HS.out.inv.inv bB) ii blx HOK.out).2]
                rw [hk2] at ht hinv
                have hfin : TwoR W M G gn gs n (.int .i64 k) (.int .i64 ((i : Int) + 1)) w7 := ⟨i + 1, k, _, _, _, _, _, _, hgo, hgo2, by go_num, rfl, hgg, ht, hinv, hnw, hsw, HS.out.ne, HS.out.wn, HS.out.ws⟩
                have HFIN := Lib.hid hfin
                clear hfin h5 hk5 hg5 ht hgg hnw hsw hinv hk2 HS' HW HBD
                go_wp2_with fail
                all_goals go_roundw
                all_goals first
                  | (case measure => simp [intOf]; omega)
                  | exact HFIN.out
                  | ((repeat apply Exists.intro); exact ⟨HFIN.out, rfl⟩)
              --] write
        · as_aux_lemma =>
            --[ out2
            have hgoI2 : ¬ ((i : Int) < 60) := by omega
            have hfin : TwoR W M G gn gs n (.int .i64 k) (.int .i64 (i : Int)) wr := ⟨i, k, _, _, _, _, _, _, hi, hiM, rfl, rfl, HS.out⟩
            have HFIN := Lib.hid hfin
            clear hfin
            go_wp2_with fail
            go_meet
            exact HFIN.out
            --] out2
      · as_aux_lemma =>
          --[ out1
          have hgoI : ¬ ((i : Int) < (n : Int)) := by omega
          have hfin : TwoR W M G gn gs n (.int .i64 k) (.int .i64 (i : Int)) wr := ⟨i, k, _, _, _, _, _, _, hi, hiM, rfl, rfl, HS.out⟩
          have HFIN := Lib.hid hfin
          clear hfin
          go_wp2_with fail
          go_meet
          exact HFIN.out
          --] out1
  case rest =>
    as_aux_lemma =>
      --[ rest
      clear HST
      obtain ⟨i, k, L', I', D, q, N, S, hi, hiM, rfl, rfl, hs⟩ := hcut
      rename World => w7
      have k0 := (hs.inv.inv true).k0
      have k1 : k ≤ 60 := by have := (hs.inv.inv true).k1; omega
      have W1 := moment_any (hs.two.dev false) (hs.two.clkAt false)
      have W2 := moment_any (hs.two.dev true) (hs.two.clkAt true)
      rw [hs.g] at W1 W2
      have W1 := Lib.hid W1
      have W2 := Lib.hid W2
      have HS := Lib.hid hs
      clear hs HL HN63
      go_wp2_with fail
      refine W1.out.mono ?_
      rintro e wq ⟨rfl, rfl⟩
      go_wp2_with fail
      refine W2.out.mono ?_
      rintro e wq ⟨rfl, rfl⟩
      clear W1 W2
      go_upto_block 2 with (fail)
      go_cut [18, 19] (fun v vi wn => OwnG wn w7.heap.size 4 1 v 60 (bls (List.replicate 60 true)) ∧ Below w7.heap.size w7 wn)
      case first =>
        as_aux_lemma =>
          --[ all
          go_wp2_with fail
          go_loopw [18, 19] (fun v vi wr => FulR w7 60 v vi wr) (fun _ vi _ => 60 - (intOf vi).toNat)
          case atStart => exact ⟨0, Nat.zero_le _, rfl, OwnG.nil _ _ _ _, Below.refl _ _⟩
          case round =>
            obtain ⟨j, hj, rfl, hown, hb⟩ := hrel
            obtain ⟨af, cf, rfl, _⟩ := OwnG.shape hown
            have j0 : (0 : Int) ≤ (j : Int) := Int.natCast_nonneg j
            have HO := Lib.hid hown
            have HB := Lib.hid hb
            clear hown hb
            by_cases hlt : j < 60
            · have hltI : (j : Int) < 60 := by omega
              have HO1 : Hid (OwnG (wr.alloc (.cells #[.bool true] 4)) w7.heap.size 4 1 (.slice af j cf) j (bls (List.replicate j true))) := Lib.hid (OwnG.alloc HO.out _)
              have HR1 : Hid (Rd (wr.alloc (.cells #[.bool true] 4)) (wr.heap.size + 1) (some ⟨wr.heap.size, 0, none⟩) (bls [true])) := Lib.hid (Rd.new wr (bls [true]) 4)
              have HOC := Lib.hid (bls_one [true])
              have S1 : Hid ((j + 1) * 1 ≤ 140737488355328) := Lib.hid (by omega)
              have S2 : Hid (j + 1 ≤ 140737488355328) := Lib.hid (by omega)
              have hb1 : Below w7.heap.size w7 (wr.alloc (.cells #[.bool true] 4)) := HB.out.alloc HB.out.size _
              have HZ : Hid (w7.heap.size ≤ (wr.alloc (.cells #[.bool true] 4)).heap.size) := Lib.hid hb1.size
              have HB1 := Lib.hid hb1
              clear hb1
              go_wp2_with (at_builtin; refine wpList_append_g rfl (.tmp 150) (.tmp 151) 23 rfl w7.heap.size 4 (.bool false) 1 1 Try.underlying23 info_bool rfl (by omega) _ j (bls (List.replicate j true)) rfl HO1.out (wr.heap.size + 1) (some ⟨wr.heap.size, 0, none⟩) 1 1 (bls [true]) rfl rfl HR1.out HOC.out S1.out S2.out HZ.out ?_)
              intro v4 w4 hown4 hg4 hat4
              have hb4 := below_app HB1.out HO1.out (Nat.le_refl _) hg4
              have e1 : bls (List.replicate j true) ++ bls [true] = bls (List.replicate (j + 1) true) := by
                rw [bls, bls, bls, ← List.map_append, List.replicate_succ']
              rw [e1] at hown4
              have hfin : FulR w7 60 v4 (.int .i64 ((j : Int) + 1)) w4 := ⟨j + 1, hlt, by go_num, hown4, hb4⟩
              obtain ⟨a4, c4, rfl, _⟩ := OwnG.shape hown4
              have HFIN := Lib.hid hfin
              clear hown4 hg4 hat4 hb4 e1 hfin
              go_wp2_with fail
              all_goals go_roundw
              all_goals first
                | (case measure => simp [intOf]; omega)
                | exact HFIN.out
            · have hltI : ¬ ((j : Int) < 60) := by omega
              have hjn : j = 60 := by omega
              subst hjn
              go_wp2_with fail
              go_meet
              exact ⟨HO.out, HB.out⟩
          --] all
      case rest =>
        obtain ⟨hown, hb⟩ := hcut
        obtain ⟨af, cf, rfl, hcf⟩ := OwnG.shape hown
        rename World => w8
        have hcf2 : cf ≤ 9223372036854775807 := by
          rcases hown.2 with ⟨hv, _⟩ | ⟨_, _, cap, _, _, _, hv, _, _, _, _, _, hm, _⟩
          · injection hv with _ _ h3; omega
          · injection hv with _ _ h3; unfold maxLen at hm; omega
        have hrf : Rd w8 w8.heap.size af (bls (List.replicate 60 true)) := OwnG.rd hown
        obtain ⟨w9, hw9⟩ : ∃ w9, w8.alloc (.cells #[.pointer (some ⟨G false, 0, none⟩), .pointer (some ⟨G true, 0, none⟩)] 24) = w9 := ⟨_, rfl⟩
        have hb89 : Below w8.heap.size w8 w9 := by rw [← hw9]; exact (Below.refl _ _).alloc (Nat.le_refl _) _
        have hbk : Blk w9 w8.heap.size 24 [.pointer (some ⟨G false, 0, none⟩), .pointer (some ⟨G true, 0, none⟩)] := by rw [← hw9]; exact Blk.new _ _ _
        have HS9 := Lib.hid ((HS.out.below hb).below hb89)
        have HRF := Lib.hid ((hrf.below hb89).more hb89.size)
        have HCF := Lib.hid (And.intro hcf hcf2)
        have HBK := Lib.hid hbk
        clear hown hb hcf hcf2 hrf hb89 hbk HS
        go_upto_region 37 with (fail)
        clear hw9
        have HSD : Hid (∀ s, Sound (D s)) := Lib.hid (fun s => (HS9.out.inv.inv s).sound (by omega) (by omega) (by omega))
        go_upto_block 4 with (fail)
        go_cut [21] (fun _ wn => Below w9.heap.size w9 wn)
        case first =>
          as_aux_lemma =>
            --[ both
            go_wp2_with fail
            go_loopw [21] (fun vi wr => CntR w9 2 vi wr) (fun vi _ => 2 - (intOf vi).toNat)
            case atStart => exact ⟨0, Nat.zero_le _, rfl, Below.refl _ _⟩
            case round =>
              obtain ⟨kk, hkk, rfl, hb⟩ := hrel
              have kk0 : (0 : Int) ≤ (kk : Int) := Int.natCast_nonneg kk
              have HB := Lib.hid hb
              clear hb
              by_cases hlt : kk < 2
              · have hltI : (kk : Int) < 2 := by omega
                obtain ⟨s, hs⟩ := two_ex kk hlt
                have HSK := Lib.hid hs
                have TS := HS9.out.below HB.out
                have pk : ∀ wx, Below wr.heap.size wr wx → wx.cell? ⟨w8.heap.size, kk, none⟩ = some (.pointer (some ⟨G s, 0, none⟩)) := by
                  intro wx hx
                  rw [← hs]
                  have hbk := Blk.below (Blk.below HBK.out HB.out) hx
                  cases s
                  · exact hbk.cell 0 _ rfl
                  · exact hbk.cell 1 _ rfl
                have pk0 := pk wr (Below.refl _ _)
                have PK := Lib.hid pk
                have C1 := cutMoment_any (TS.two.dev s) (TS.two.clkAt s) k0 (HSD.out s) M (by omega) hM1 none 0 0 [] rfl (Nat.le_refl _) (by omega) (.inl rfl)
                rw [TS.g] at C1
                have C1 := Lib.hid C1
                have HTS := Lib.hid TS
                clear TS pk hs
                go_wp2_with fail
                refine C1.out.mono ?_
                rintro e wa ⟨La, Ia, rfl, ha, hka, hfa⟩
                obtain ⟨g1, hg1⟩ : ∃ g1, La.g = g1 := ⟨_, rfl⟩
                have CA : Car wa g1 ((D s).cutM k M []) := ⟨La, Ia, hg1, ha⟩
                rw [hg1]
                have TA := HTS.out.below hfa.below
                have pk1 := PK.out wa hfa.below
                have C2 := cutMoment_any (TA.two.dev s) (TA.two.clkAt s) k0 (HSD.out s) M (by omega) hM1 af 60 cf (List.replicate 60 true) (by simp) HCF.out.1 HCF.out.2 ((HRF.out.below (HB.out.trans (hfa.below.mono HB.out.size))).more (Nat.le_trans HB.out.size hfa.below.size))
                rw [TA.g] at C2
                have C2 := Lib.hid C2
                have HCA := Lib.hid CA
                have HTA := Lib.hid TA
                have HBA := Lib.hid (HB.out.trans (hfa.below.mono HB.out.size))
                clear ha hka hfa hg1 CA TA pk0 C1 PK HTS
                go_wp2_with fail
                refine C2.out.mono ?_
                rintro e wb ⟨Lb, Ib, rfl, hbb, hkb, hfb⟩
                obtain ⟨g2, hg2⟩ : ∃ g2, Lb.g = g2 := ⟨_, rfl⟩
                have CB : Car wb g2 ((D s).cutM k M (List.replicate 60 true)) := ⟨Lb, Ib, hg2, hbb⟩
                rw [hg2]
                have HCB := Lib.hid CB
                have HCA := Lib.hid (HCA.out.below hfb.below)
                have HTB := Lib.hid (HTA.out.below hfb.below)
                have HBB := Lib.hid (HBA.out.trans (hfb.below.mono HBA.out.size))
                clear hbb hkb hfb hg2 CB pk1 C2 HTA HBA
                go_wp2_with fail
                go_loopw [24] (fun vi wr => CntR wb 4 vi wr) (fun vi _ => 4 - (intOf vi).toNat)
                case atStart => exact ⟨0, Nat.zero_le _, rfl, Below.refl _ _⟩
                case round =>
                  obtain ⟨j, hj, rfl, hb⟩ := hrel
                  have j0 : (0 : Int) ≤ (j : Int) := Int.natCast_nonneg j
                  have HBJ := Lib.hid hb
                  clear hb
                  by_cases hlt4 : j < 4
                  · have hltI4 : (j : Int) < 4 := by omega
                    obtain ⟨⟨l1, e1⟩, hl1⟩ : ∃ r, readR ((D s).cutM k M []) (j : Int) = r := ⟨_, rfl⟩
                    obtain ⟨⟨l2, e2⟩, hl2⟩ : ∃ r, readR ((D s).cutM k M (List.replicate 60 true)) (j : Int) = r := ⟨_, rfl⟩
                    obtain ⟨x1, hx1⟩ : ∃ x, S.getD (kk * 4 + j) [] = x := ⟨_, rfl⟩
                    obtain ⟨x2, hx2⟩ : ∃ x, N.getD (kk * 4 + j) [] = x := ⟨_, rfl⟩
                    have V1 : Hid (M ≤ k → (l1 == full x1) = true) := Lib.hid (fun hMk => by
                      have h := (cutM_read (k0 := k) HS9.out.inv s hM0 hMk j hlt4).1
                      rw [hl1, HSK.out, hx1] at h
                      injection h with h _
                      rw [h]; exact beq_self_eq_true _)
                    have V2 : Hid (M ≤ k → (l2 == full x2) = true) := Lib.hid (fun hMk => by
                      have h := (cutM_read (k0 := k) HS9.out.inv s hM0 hMk j hlt4).2 60 hiM
                      rw [hl2, HSK.out, hx2] at h
                      injection h with h _
                      rw [h]; exact beq_self_eq_true _)
                    have R1 : Hid (∀ wx, Below wb.heap.size wb wx → Calls Try.prog 18 #[.pointer (some ⟨g1, 0, none⟩), .int .i64 (j : Int)] wx (ReadPost (l1, e1) wx)) := Lib.hid (fun wx hx => by have h := (HCA.out.below hx).read (j : Int) (by omega) (by omega); rw [hl1] at h; exact h)
                    have R2 : Hid (∀ wx, Below wb.heap.size wb wx → Calls Try.prog 18 #[.pointer (some ⟨g2, 0, none⟩), .int .i64 (j : Int)] wx (ReadPost (l2, e2) wx)) := Lib.hid (fun wx hx => by have h := (HCB.out.below hx).read (j : Int) (by omega) (by omega); rw [hl2] at h; exact h)
                    have hkj : kk * 4 + j < 8 := by omega
                    obtain ⟨az, cz, hcs, hcs2, hrs⟩ := HTB.out.sure.get (kk * 4 + j) (by rw [HS9.out.inv.sl]; exact hkj)
                    obtain ⟨an, cn, hcn, hcn2, hrn⟩ := HTB.out.now.get (kk * 4 + j) (by rw [HS9.out.inv.nl]; exact hkj)
                    have es : S[kk * 4 + j]'(by rw [HS9.out.inv.sl]; exact hkj) = x1 := by rw [← hx1, List.getD_eq_getElem?_getD, List.getElem?_eq_getElem (by rw [HS9.out.inv.sl]; exact hkj)]; rfl
                    have en : N[kk * 4 + j]'(by rw [HS9.out.inv.nl]; exact hkj) = x2 := by rw [← hx2, List.getD_eq_getElem?_getD, List.getElem?_eq_getElem (by rw [HS9.out.inv.nl]; exact hkj)]; rfl
                    rw [es] at hcs hcs2 hrs
                    rw [en] at hcn hcn2 hrn
                    have m1 : x1.length ≤ 64 := by rw [← hx1]; exact mem_getD _ _ HS9.out.inv.s64
                    have m2 : x2.length ≤ 64 := by rw [← hx2]; exact mem_getD _ _ HS9.out.inv.n64
                    have gl : gs < wb.heap.size ∧ gn < wb.heap.size := ⟨HTB.out.sure.lt, HTB.out.now.lt⟩
                    have F1 : Hid (∀ wx, Below wb.heap.size wb wx → wx.cell? ⟨gs, kk * 4 + j, none⟩ = some (.slice az x1.length cz) ∧ Calls Try.prog 19 #[.slice az x1.length cz] wx fun e w' => ∃ a' c', e = .returned (.slice a' 64 c') ∧ OwnB w' wx.heap.size (.slice a' 64 c') (full x1) ∧ Below wx.heap.size wx w') := Lib.hid (fun wx hx => ⟨(hx.cell (p := ⟨gs, kk * 4 + j, none⟩) gl.1).trans hcs, full_any az x1.length cz x1 wx rfl m1 ((hrs.below hx).more hx.size)⟩)
                    have F2 : Hid (∀ wx, Below wb.heap.size wb wx → wx.cell? ⟨gn, kk * 4 + j, none⟩ = some (.slice an x2.length cn) ∧ Calls Try.prog 19 #[.slice an x2.length cn] wx fun e w' => ∃ a' c', e = .returned (.slice a' 64 c') ∧ OwnB w' wx.heap.size (.slice a' 64 c') (full x2) ∧ Below wx.heap.size wx w') := Lib.hid (fun wx hx => ⟨(hx.cell (p := ⟨gn, kk * 4 + j, none⟩) gl.2).trans hcn, full_any an x2.length cn x2 wx rfl m2 ((hrn.below hx).more hx.size)⟩)
                    have L64 : Hid ((full x1).length = 64 ∧ (full x2).length = 64) := Lib.hid ⟨full_len _ m1, full_len _ m2⟩
                    clear hl1 hl2 hx1 hx2 hcs hcs2 hrs hcn hcn2 hrn es en m1 m2 gl hkj
                    go_wp2_with fail
                    refine (R1.out _ HBJ.out).mono ?_
                    rintro e wc ⟨a1, c1, rfl, ho1, hb1⟩
                    simp only at ho1 ⊢
                    have HO1 := Lib.hid (OwnB.rd ho1)
                    have HBC := Lib.hid (HBJ.out.trans (hb1.mono HBJ.out.size))
                    clear ho1 hb1
                    go_wp2_with fail
                    refine (R2.out _ HBC.out).mono ?_
                    rintro e wd ⟨a2, c2, rfl, ho2, hb2⟩
                    simp only at ho2 ⊢
                    have HO1 := Lib.hid (HO1.out.below hb2 |>.more hb2.size)
                    have HO2 := Lib.hid (OwnB.rd ho2)
                    have HBD := Lib.hid (HBC.out.trans (hb2.mono HBC.out.size))
                    obtain ⟨k3, K3⟩ := F1.out wd HBD.out
                    have K3 := Lib.hid K3
                    clear ho2 hb2
                    go_wp2_with fail
                    refine K3.out.mono ?_
                    rintro e we ⟨a3, c3, rfl, ho3, hb3⟩
                    have HBE := Lib.hid (HBD.out.trans (hb3.mono HBD.out.size))
                    have HO1 := Lib.hid (HO1.out.below hb3 |>.more hb3.size)
                    have HO2 := Lib.hid (HO2.out.below hb3 |>.more hb3.size)
                    have S1 := same_any a1 a3 l1.length 64 c1 c3 l1 (full x1) we rfl L64.out.1 HO1.out (OwnB.rd ho3)
                    obtain ⟨v1, hv1⟩ : ∃ v, (l1 == full x1) = v := ⟨_, rfl⟩
                    rw [hv1] at S1
                    have V1' : Hid (M ≤ k → v1 = true) := Lib.hid (fun h => hv1 ▸ V1.out h)
                    have S1 := Lib.hid S1
                    clear ho3 hb3 hv1 k3 K3
                    go_wp2_with fail
                    refine S1.out.mono ?_
                    rintro e wq ⟨rfl, rfl⟩
                    obtain ⟨k4, K4⟩ := F2.out we HBE.out
                    have K4 := Lib.hid K4
                    clear S1
                    go_wp2_with fail
                    refine K4.out.mono ?_
                    rintro e wf ⟨a4, c4, rfl, ho4, hb4⟩
                    have HBF := Lib.hid (HBE.out.trans (hb4.mono HBE.out.size))
                    have HO2 := HO2.out.below hb4
                    have S2 := same_any a2 a4 l2.length 64 c2 c4 l2 (full x2) wf rfl L64.out.2 HO2 (OwnB.rd ho4)
                    obtain ⟨v2, hv2⟩ : ∃ v, (l2 == full x2) = v := ⟨_, rfl⟩
                    rw [hv2] at S2
                    have V2' : Hid (M ≤ k → v2 = true) := Lib.hid (fun h => hv2 ▸ V2.out h)
                    have S2 := Lib.hid S2
                    have hfin : CntR wb 4 (.int .i64 ((j : Int) + 1)) wf := ⟨j + 1, hlt4, by go_num, HBF.out⟩
                    have HFIN := Lib.hid hfin
                    clear ho4 hb4 hv2 k4 K4 HO2 hfin
                    go_wp2_with fail
                    refine S2.out.mono ?_
                    rintro e wq ⟨rfl, rfl⟩
                    clear S2
                    by_cases hMk : M ≤ k
                    · have w1' := V1'.out hMk
                      have w2' := V2'.out hMk
                      subst w1'
                      subst w2'
                      go_wp2_with fail
                      all_goals go_roundw
                      all_goals first
                        | (case measure => simp [intOf]; omega)
                        | exact HFIN.out
                        | ((repeat apply Exists.intro); exact ⟨HFIN.out, rfl⟩)
                    · go_wp2_with fail
                      all_goals go_roundw
                      all_goals first
                        | (case measure => simp [intOf]; omega)
                        | exact HFIN.out
                        | ((repeat apply Exists.intro); exact ⟨HFIN.out, rfl⟩)
                  · have hltI4 : ¬ ((j : Int) < 4) := by omega
                    have hfin : CntR w9 2 (.int .i64 ((kk : Int) + 1)) wr := ⟨kk + 1, hlt, by go_num, HBB.out.trans (HBJ.out.mono HBB.out.size)⟩
                    have HFIN := Lib.hid hfin
                    clear hfin
                    go_wp2_with fail
                    all_goals go_roundw
                    all_goals first
                      | (case measure => simp [intOf]; omega)
                      | exact HFIN.out
                      | ((repeat apply Exists.intro); exact ⟨HFIN.out, rfl⟩)
              · have hltI : ¬ ((kk : Int) < 2) := by omega
                go_wp2_with fail
                go_meet
                exact HB.out
            --] both
        case rest =>
          as_aux_lemma =>
            --[ fin
            have hb := hcut
            rename World => wz
            have TZ := HS9.out.below hb
            have C3 := cutMoment_any (TZ.two.dev false) (TZ.two.clkAt false) k0 (HSD.out false) M (by omega) hM1 ak nk ck kl HKL.out HK63.out.1 HK63.out.2 ((HKR.out.below TZ.two.bel).more TZ.two.bel.size)
            rw [TZ.g] at C3
            have C3 := Lib.hid C3
            have HTZ := Lib.hid TZ
            clear hb TZ hcut
            go_wp2_with fail
            refine C3.out.mono ?_
            rintro e wy ⟨Ly, Iy, rfl, hy, hky, hfy⟩
            have C4 := Lib.hid (moment_any hy hky)
            have HBY := Lib.hid (HTZ.out.two.bel.trans (hfy.below.mono HTZ.out.two.bel.size))
            clear hy hky hfy C3
            go_wp2_with fail
            refine C4.out.mono ?_
            rintro e wq ⟨rfl, rfl⟩
            go_wp2_with fail
            go_ret
            exact ⟨rfl, HBY.out⟩
            --] fin
      --] rest
end Go.Proofs.Ythenpkimcjdkcaa
