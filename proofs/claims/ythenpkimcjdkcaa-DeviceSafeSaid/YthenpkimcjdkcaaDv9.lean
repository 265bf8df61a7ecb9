/- devices: what a loss of power leaves (first part) -/
import Derived.Test.YthenpkimcjdkcaaDv8
namespace Go.Proofs.Ythenpkimcjdkcaa
set_option linter.unusedVariables false
set_option linter.unusedSimpArgs false
open Go.RowKit

/-- What the first sectors become, if so many writes are safe. -/
def leftF (safe : Nat) : List Wr → Nat → List Bool → (Int → List UInt8) → Int → List UInt8
  | [], _, _, f => f
  | x :: l, i, ks, f =>
    if i < safe ∨ x.sure = true then leftF safe l (i + 1) ks (setF f x.i (full x.b))
    else match ks with
      | [] => leftF safe l (i + 1) [] f
      | k :: ks => leftF safe l (i + 1) ks (if k = true then setF f x.i (full x.b) else f)
theorem leftF_keep {safe i : Nat} {x : Wr} {l : List Wr} {ks : List Bool} {f : Int → List UInt8} (h : i < safe ∨ x.sure = true) : leftF safe (x :: l) i ks f = leftF safe l (i + 1) ks (setF f x.i (full x.b)) := by
  cases ks <;> rw [leftF, if_pos h]
theorem leftF_nil {safe i : Nat} {x : Wr} {l : List Wr} {f : Int → List UInt8} (h : ¬ (i < safe ∨ x.sure = true)) : leftF safe (x :: l) i [] f = leftF safe l (i + 1) [] f := by
  rw [leftF, if_neg h]
theorem leftF_cons {safe i : Nat} {x : Wr} {l : List Wr} {k : Bool} {ks : List Bool} {f : Int → List UInt8} (h : ¬ (i < safe ∨ x.sure = true)) : leftF safe (x :: l) i (k :: ks) f = leftF safe l (i + 1) ks (if k = true then setF f x.i (full x.b) else f) := by
  rw [leftF, if_neg h]
def Dv.left (D : Dv) (safe n : Nat) (ks : List Bool) : Dv :=
  { n := D.n, first := leftF safe (D.log.take n) 0 ks D.first, now := leftF safe (D.log.take n) 0 ks D.first, bad := D.bad, dead := D.dead, log := [], syncs := [] }
def bls (l : List Bool) : List Value := l.map Value.bool
theorem bls_length (l : List Bool) : (bls l).length = l.length := by simp [bls]

/-- Another device that was made. -/
structure Fresh (w w' : World) (L : Lay) (I I' : Nat → Prop) : Prop where
  below : Below w.heap.size w w'
  m : ∀ k, L.M k → w.heap.size ≤ k
  clk : w.heap.size ≤ L.clk
  i : ∀ k, I' k → I k ∨ w.heap.size ≤ k
def LeftPost (D : Dv) (I : Nat → Prop) (w : World) (e : Ending) (w' : World) : Prop :=
  ∃ L' I', e = .returned (.pointer (some ⟨L'.g, 0, none⟩)) ∧ DevAt w' L' I' D ∧ Clk w' L'.clk 0 ∧ Fresh w w' L' I I'

/-- One step of the loop. -/
def LeftR (D : Dv) (I : Nat → Prop) (w : World) (safe n : Nat) (ks0 : List Bool) (Lc : Lay) (v3 vi : Value) (wr : World) : Prop :=
  ∃ (i : Nat) (ks : List Bool) (f : Int → List UInt8) (ak : Option Addr) (ck : Nat), i ≤ n ∧ vi = .int .i64 (i : Int) ∧ v3 = .slice ak ks.length ck ∧ ks.length ≤ ck ∧ ck ≤ 9223372036854775807 ∧ Rd wr w.heap.size ak (bls ks) ∧
    DevAt wr Lc I { n := D.n, first := f, now := fun _ => zeros 64, bad := D.bad, dead := D.dead, log := [], syncs := [] } ∧ Clk wr Lc.clk 0 ∧ Below w.heap.size w wr ∧
    leftF safe (D.log.take n) 0 ks0 D.first = leftF safe ((D.log.take n).drop i) i ks f

set_option maxRecDepth 20000 in
set_option maxHeartbeats 4000000 in
theorem left_any {w : World} {L : Lay} {I : Nat → Prop} {D : Dv} (h : DevAt w L I D) (hn1 : 1 ≤ D.n) (hn2 : D.n ≤ 2048) (safe n : Nat) (hn : n ≤ D.log.length) (hs : safe ≤ 1000000) (hlog : D.log.length ≤ 1000000)
    (hint : ∀ x ∈ D.log, -9223372036854775808 ≤ x.i ∧ x.i ≤ 9223372036854775807)
    (ak : Option Addr) (ck : Nat) (ks : List Bool) (hk : ks.length ≤ ck) (hck : ck ≤ 9223372036854775807) (hr : Rd w w.heap.size ak (bls ks)) :
    Calls Try.prog 62 #[.pointer (some ⟨L.g, 0, none⟩), .int .i64 (safe : Int), .int .i64 (n : Int), .slice ak ks.length ck] w (LeftPost (D.left safe n ks) I w) := by
  have H := Lib.hid h
  have HR := Lib.hid hr
  have HK := Lib.hid hk
  have HCK := Lib.hid hck
  have HINT := Lib.hid hint
  have HN := Lib.hid hn
  have HLG := Lib.hid hlog
  have HS := Lib.hid hs
  have k0 := h.cell 0 _ rfl
  have HNEW := Lib.hid (newDev_any D.n hn1 hn2 w)
  clear h hr hk hck hint hn hlog hs hn1 hn2
  go_enter Try.func62, Try.ntmps62
  go_wp2_with fail
  refine HNEW.out.mono ?_
  rintro e w1 ⟨Lc, rfl, hc, hkc, hb1, hm1, hclk1⟩
  have hD1 := H.out.below hb1
  have hcI : DevAt w1 Lc I (dv0 D.n) := hc.more (fun _ h => h.elim) hD1.imm
  have HD1 := Lib.hid hD1
  have HC1 := Lib.hid hcI
  have HKC := Lib.hid hkc
  have HB1 := Lib.hid hb1
  have HM1 := Lib.hid hm1
  have HCL1 := Lib.hid hclk1
  have HGG : Hid (L.g ≠ Lc.g) := Lib.hid (fun e => by have := hm1 Lc.g (.inl rfl); have := H.out.blk.lt; omega)
  -- what the clones are asked
  have KF : Hid (∀ wx, Below w1.heap.size w1 wx → DevAt wx Lc I (dv0 D.n) → Calls Try.prog 80 #[.map (some L.fm)] wx fun e w' => ∃ p, e = .returned (.map (some p)) ∧ FMap w' I p D.first ∧ w1.heap.size ≤ p ∧ Below w1.heap.size w1 w' ∧ Below wx.heap.size wx w' ∧ DevAt w' Lc I (dv0 D.n) ∧ p < w'.heap.size) := Lib.hid (fun wx hx hcx => by
    have hd := HD1.out.below hx
    refine (fclone_any hd.first (fun k hk => hd.ltI hk)).mono ?_
    rintro e w' ⟨rfl, h1, h2, h3⟩
    exact ⟨_, rfl, h1, hx.size, hx.trans (h2.mono hx.size), h2, hcx.below h2, by omega⟩)
  have KB : Hid (∀ wx, Below w1.heap.size w1 wx → DevAt wx Lc I (dv0 D.n) → Calls Try.prog 81 #[.map (some L.bm)] wx fun e w' => ∃ p, e = .returned (.map (some p)) ∧ BMap w' p D.bad ∧ wx.heap.size ≤ p ∧ Below w1.heap.size w1 w' ∧ Below wx.heap.size wx w' ∧ DevAt w' Lc I (dv0 D.n)) := Lib.hid (fun wx hx hcx => by
    have hd := HD1.out.below hx
    refine (bclone_any hd.bad).mono ?_
    rintro e w' ⟨rfl, h1, h2, h3⟩
    exact ⟨_, rfl, h1, Nat.le_refl _, hx.trans (h2.mono hx.size), h2, hcx.below h2⟩)
  have hb0 : Below w1.heap.size w1 w1 := Below.refl _ _
  have hb0' : Below w1.heap.size w1 w1.drew := (Below.refl _ _).drew
  have hc0' : DevAt w1.drew Lc I (dv0 D.n) := hcI.drew
  have d1 : ∀ wx, Chg (fun k => k = Lc.g) w1 wx → wx.cell? ⟨L.g, 1, none⟩ = some (.map (some L.fm)) := fun wx hx => (World.cell?_of_block (a := ⟨L.g, 1, none⟩) (hx.block _ HD1.out.blk.lt HGG.out)).trans (HD1.out.cell 1 _ rfl)
  have d3 : ∀ wx, Chg (fun k => k = Lc.g) w1 wx → wx.cell? ⟨L.g, 3, none⟩ = some (.map (some L.bm)) := fun wx hx => (World.cell?_of_block (a := ⟨L.g, 3, none⟩) (hx.block _ HD1.out.blk.lt HGG.out)).trans (HD1.out.cell 3 _ rfl)
  have d4 : ∀ wx, Chg (fun k => k = Lc.g) w1 wx → wx.cell? ⟨L.g, 4, none⟩ = some (.bool D.dead) := fun wx hx => (World.cell?_of_block (a := ⟨L.g, 4, none⟩) (hx.block _ HD1.out.blk.lt HGG.out)).trans (HD1.out.cell 4 _ rfl)
  have g1 : ∀ wx, DevAt wx Lc I (dv0 D.n) → wx.cell? ⟨Lc.g, 1, none⟩ = some (.map (some Lc.fm)) := fun wx hx => hx.cell 1 _ rfl
  have g3 : ∀ wx, DevAt wx Lc I (dv0 D.n) → wx.cell? ⟨Lc.g, 3, none⟩ = some (.map (some Lc.bm)) := fun wx hx => hx.cell 3 _ rfl
  have g4 : ∀ wx, DevAt wx Lc I (dv0 D.n) → wx.cell? ⟨Lc.g, 4, none⟩ = some (.bool false) := fun wx hx => hx.cell 4 _ rfl
  have gf : ∀ wx i, DevAt wx Lc I (dv0 D.n) → wx.frozen? ⟨Lc.g, i, none⟩ = false := fun wx i hx => hx.blk.frozen i
  have KCH : Hid (∀ wx, Below w1.heap.size w1 wx → Chg (fun k => k = Lc.g) w1 wx) := Lib.hid (fun wx hx => Chg.of_below hx)
  have KST : Hid (∀ wx i v, Chg (fun k => k = Lc.g) w1 wx → Chg (fun k => k = Lc.g) w1 (wx.setCell ⟨Lc.g, i, none⟩ v)) := Lib.hid (fun wx i v hx => hx.trans' (Chg.setCell wx _ _ rfl))
  have hch0 := KCH.out _ hb0
  have hch1 := KCH.out _ hb0'
  clear hc hkc hb1 hm1 hclk1 hD1 hcI k0 HNEW
  go_upto_region 2 with (fail)
  go_region_held3 (fun w' => Chg (fun k => k = Lc.g) w1 w')
    (first | assumption | exact KCH.out _ (by assumption) | exact KST.out _ _ _ (by assumption) | exact KST.out _ _ _ (KST.out _ _ _ (by assumption)) | exact KST.out _ _ _ (KST.out _ _ _ (KST.out _ _ _ (by assumption))) | go_keep)
    (first
      | ((with_reducible refine (KF.out _ (by assumption) (by assumption)).mono ?_); rintro e w2 ⟨p2, rfl, hf2, hp2, hS2, hb2, hc2, hl2⟩; have hch2 := KCH.out _ hS2)
      | ((with_reducible refine (KB.out _ (by assumption) (by assumption)).mono ?_); rintro e w3 ⟨p3, rfl, hf3, hp3, hS3, hb3, hc3⟩; have hch3 := KCH.out _ hS3)
      | fail)
  have hp21 : ∀ k, Lc.M k → k ≠ p2 := fun k hk e => by have := HC1.out.ltM hk; omega
  have hp31 : ∀ k, Lc.M k → k ≠ p3 := fun k hk e => by have := HC1.out.ltM hk; have := hb2.size; simp at this; omega
  have hp23 : p3 ≠ p2 := fun e => by omega
  have hf23 : FMap w3 I p2 D.first := hf2.keep (hb3.block _ hl2) (fun _ h => h) (fun k hk => hb3.block _ ((HD1.out.below hS2).ltI hk))
  have hc4 := hc3.setFm hf23 (fun e => hp21 Lc.nm (.inr (.inr (.inl rfl))) e.symm) (fun e => hp21 Lc.bm (.inr (.inr (.inr (.inl rfl)))) e.symm)
  have hf34 : BMap (w3.setCell ⟨Lc.g, 1, none⟩ (.map (some p2))) p3 D.bad := hf3.keep (Below.heap_setCell _ _ _ _ (fun e => hp31 Lc.g (.inl rfl) e.symm))
  have hc5 := DevAt.setBm hc4 hf34 hp23 (fun e => hp31 Lc.nm (.inr (.inr (.inl rfl))) e.symm)
  have hc6 := DevAt.setDead hc5 D.dead
  have hg0 : w.heap.size ≤ Lc.g := HM1.out Lc.g (.inl rfl)
  have hbw : Below w.heap.size w (((w3.setCell ⟨Lc.g, 1, none⟩ (.map (some p2))).setCell ⟨Lc.g, 3, none⟩ (.map (some p3))).setCell ⟨Lc.g, 4, none⟩ (.bool D.dead)) := (((HB1.out.trans (hS3.mono HB1.out.size)).setCell hg0 _).setCell hg0 _).setCell hg0 _
  have hkc6 : Clk (((w3.setCell ⟨Lc.g, 1, none⟩ (.map (some p2))).setCell ⟨Lc.g, 3, none⟩ (.map (some p3))).setCell ⟨Lc.g, 4, none⟩ (.bool D.dead)) Lc.clk 0 := by
    have hne : Lc.clk ≠ Lc.g := fun e => HC1.out.clk_notM HKC.out (.inl e)
    have h1 : Clk w3 Lc.clk 0 := Blk.below HKC.out hS3
    exact Blk.keep (Blk.keep (Blk.keep h1 (Below.heap_setCell _ _ _ _ hne)) (Below.heap_setCell _ _ _ _ hne)) (Below.heap_setCell _ _ _ _ hne)
  have hM : ∀ k, ({ Lc with fm := p2, bm := p3 } : Lay).M k → w.heap.size ≤ k := by
    intro k hk
    have h1 := HB1.out.size
    have h2 := hb2.size
    simp at h2
    rcases hk with hk | hk | hk | hk | hk | hk
    · exact HM1.out k (.inl hk)
    · have : k = p2 := hk
      omega
    · exact HM1.out k (.inr (.inr (.inl hk)))
    · have : k = p3 := hk
      omega
    · exact HM1.out k (.inr (.inr (.inr (.inr (.inl hk)))))
    · exact HM1.out k (.inr (.inr (.inr (.inr (.inr hk)))))
  have HC6 := Lib.hid hc6
  have HBW := Lib.hid hbw
  have HKC6 := Lib.hid hkc6
  have HM := Lib.hid hM
  clear hp21 hp31 hf23 hc4 hf34 hc5 hc6 hg0 hbw hkc6 hM hb0 hb0' hc0' d1 d3 d4 g1 g3 g4 gf hch0 hch1 hf2 hp2 hS2 hb2 hc2 hl2 hch2 hf3 hp3 hS3 hb3 hc3 hch3 hp23
  go_upto_region 3 with (fail)
  generalize ((w3.setCell ⟨Lc.g, 1, none⟩ (.map (some p2))).setCell ⟨Lc.g, 3, none⟩ (.map (some p3))).setCell ⟨Lc.g, 4, none⟩ (.bool D.dead) = w4 at HC6 HBW HKC6 ⊢
  obtain ⟨cs, hl, hlc⟩ := H.out.log
  obtain ⟨a5, c5, hv5, hc5⟩ := hl.shape
  have p5 : w4.cell? ⟨L.g, 5, none⟩ = some L.vl := (HBW.out.cell (p := ⟨L.g, 5, none⟩) H.out.blk.lt).trans (H.out.cell 5 _ rfl)
  rw [hv5] at p5 hl
  obtain ⟨m, hm⟩ : ∃ m, D.log.length = m := ⟨_, rfl⟩
  rw [hm] at p5 hc5 hl
  obtain ⟨P, hP⟩ : ∃ P, D.log.take n = P := ⟨_, rfl⟩
  have hPl : P.length = n := by rw [← hP, List.length_take, Nat.min_eq_left HN.out]
  have n0 : (0 : Int) ≤ (n : Int) := Int.natCast_nonneg _
  have n1 : (n : Int) ≤ (m : Int) := by have := HN.out; omega
  have n2 : (n : Int) ≤ (c5 : Int) := by have := HN.out; omega
  have n3 : (n : Int) ≤ 1000000 := by have := HN.out; have := HLG.out; omega
  have sb : (safe : Int) ≤ 1000000 := by have := HS.out; omega
  have hrd : ∀ wx, Below w.heap.size w wx → ∀ (i : Nat) (x : Wr), P[i]? = some x → ∃ g off av nv cv, a5 = some ⟨g, off, none⟩ ∧ wx.cell? ⟨g, off + i * 4, none⟩ = some (.int .i64 x.i) ∧ wx.cell? ⟨g, off + i * 4 + 1, none⟩ = some (.slice av nv cv) ∧ wx.cell? ⟨g, off + i * 4 + 2, none⟩ = some (.bool x.sure) ∧ wx.cell? ⟨g, off + i * 4 + 3, none⟩ = some (.int .i64 x.m) ∧ BytesV wx I (.slice av nv cv) x.b ∧ x.b.length ≤ 64 ∧ -9223372036854775808 ≤ x.i ∧ x.i ≤ 9223372036854775807 := by
    intro wx hx i x hix
    have hlt := (List.getElem?_eq_some_iff.1 hix).1
    rw [hPl] at hlt
    rw [← hP, List.getElem?_take_of_lt hlt] at hix
    obtain ⟨e0, ⟨v, e1, hbv⟩, e2, e3, e4⟩ := hlc.2 _ x hix
    have hbv' := hbv
    obtain ⟨av, cv, rfl, _⟩ := hbv
    obtain ⟨g, off, cap, hv, _, hltg, _, hcell⟩ := OwnG.form hl (by omega)
    injection hv with f1 f2 f3
    have hcc : ∀ j u, cs[j]? = some u → wx.cell? ⟨g, off + j, none⟩ = some u := fun j u hu => (hx.cell (p := ⟨g, off + j, none⟩) hltg).trans (hcell j u hu)
    have hi2 := HINT.out x (List.mem_of_getElem? hix)
    refine ⟨g, off, av, x.b.length, cv, f1, hcc _ _ e0, ?_, ?_, ?_, hbv'.keep (fun _ h => h) (fun k hk => hx.block k (H.out.ltI hk)), e4, hi2.1, hi2.2⟩
    · rw [Nat.add_assoc]; exact hcc _ _ e1
    · rw [Nat.add_assoc]; exact hcc _ _ e2
    · rw [Nat.add_assoc]; exact hcc _ _ e3
  have HRD := Lib.hid hrd
  have HP := Lib.hid hP
  have HPL := Lib.hid hPl
  clear hl hlc hv5 hm hP hPl hrd
  go_wp2_with fail
  go_loopw [3, 52] (fun v3 vi wr => LeftR D I w safe n ks { Lc with fm := p2, bm := p3 } v3 vi wr) (fun _ vi _ => n - (intOf vi).toNat)
  case atStart => exact ⟨0, ks, D.first, ak, ck, Nat.zero_le _, rfl, rfl, HK.out, HCK.out, (HR.out.below HBW.out), HC6.out, HKC6.out, HBW.out, rfl⟩
  case round =>
    obtain ⟨i, ksi, f, aki, cki, hi, rfl, rfl, hkl, hckl, hrk, hdev, hck0, hb, hEQ⟩ := hrel
    rw [HP.out] at hEQ
    have HB := Lib.hid hb
    have HEQ := Lib.hid hEQ
    have i0 : (0 : Int) ≤ (i : Int) := Int.natCast_nonneg _
    by_cases hlt : i < n
    · have hltI : (i : Int) < (n : Int) := by omega
      have hlP : i < P.length := by rw [HPL.out]; exact hlt
      obtain ⟨x, hx⟩ : ∃ x, P[i]? = some x := ⟨_, List.getElem?_eq_getElem hlP⟩
      obtain ⟨g, off, av, nv, cv, rfl, e0, e1, e2, e3, hbv, hxl, hx1, hx2⟩ := HRD.out wr HB.out i x hx
      have hds : P.drop i = x :: P.drop (i + 1) := by
        rw [List.drop_eq_getElem_cons hlP]
        have : P[i] = x := by rw [List.getElem?_eq_getElem hlP] at hx; injection hx
        rw [this]
      rw [hds] at hEQ
      have hba : Below wr.heap.size wr (wr.alloc (.cells #[.int .i64 x.i, .slice av nv cv, .bool x.sure, .int .i64 x.m] 102)) := (Below.refl _ _).alloc (Nat.le_refl _) _
      have HXI : Hid (-9223372036854775808 ≤ x.i ∧ x.i ≤ 9223372036854775807) := Lib.hid ⟨hx1, hx2⟩
      have HXL := Lib.hid hxl
      have HWA := Lib.hid (hdev.below hba)
      have HBX : Hid (Blk (wr.alloc (.cells #[.int .i64 x.i, .slice av nv cv, .bool x.sure, .int .i64 x.m] 102)) wr.heap.size 102 [.int .i64 x.i, .slice av nv cv, .bool x.sure, .int .i64 x.m]) := Lib.hid (Blk.new wr _ _)
      have HBV := Lib.hid (hbv.keep (fun _ h => h) (fun k hk => hba.block k (hdev.ltI hk)))
      have HBA := Lib.hid (hb.trans (hba.mono hb.size))
      have HKA := Lib.hid (Clk.below hck0 hba)
      have HRK := Lib.hid (hrk.below (hba.mono hb.size))
      have HKL := Lib.hid hkl
      have HCL := Lib.hid hckl
      have klI : (ksi.length : Int) ≤ (cki : Int) := by omega
      have kl0 : (0 : Int) ≤ (ksi.length : Int) := Int.natCast_nonneg _
      clear hdev hck0 hb hrk hx hds hba hbv hxl hx1 hx2 hkl hckl hlP
      go_upto_region 6 with (fail)
      generalize wr.alloc (.cells #[.int .i64 x.i, .slice av nv cv, .bool x.sure, .int .i64 x.m] 102) = wa at HWA HBX HBV HBA HKA HRK ⊢
      obtain ⟨q, hq⟩ : ∃ q, wr.heap.size = q := ⟨_, rfl⟩
      rw [hq] at HBX ⊢
      have b2 : wa.cell? ⟨q, 2, none⟩ = some (.bool x.sure) := Blk.cell HBX.out 2 _ rfl
      have HEQ2 := Lib.hid hEQ
      clear hEQ hq e0 e1 e2 e3
      have hp2 : w.heap.size ≤ p2 := HM.out p2 (.inr (.inl rfl))
      have KK : Hid (∀ (w6 : World) (ks' : List Bool) (ak' : Option Addr) (ck' : Nat), ks'.length ≤ ck' → ck' ≤ 9223372036854775807 → Rd wa w.heap.size ak' (bls ks') → leftF safe P 0 ks D.first = leftF safe (P.drop (i + 1)) (i + 1) ks' (setF f x.i (full x.b)) →
          DevAt w6 { Lc with fm := p2, bm := p3 } I { n := D.n, first := setF f x.i (full x.b), now := fun _ => zeros 64, bad := D.bad, dead := D.dead, log := [], syncs := [] } → wa.grownBy w6 (some p2) →
          LeftR D I w safe n ks { Lc with fm := p2, bm := p3 } (.slice ak' ks'.length ck') (.int .i64 ((i : Int) + 1)) w6) := Lib.hid (fun w6 ks' ak' ck' h1 h2 h3 h4 h5 h6 => by
        have hbg : Below w.heap.size wa w6 := ⟨h6.os, h6.tape, h6.output, h6.size, fun k hk => h6.block k (Nat.lt_of_lt_of_le hk HBA.out.size) (fun e => by injection e with e; omega)⟩
        refine ⟨i + 1, ks', setF f x.i (full x.b), ak', ck', hlt, by go_num, rfl, h1, h2, h3.below hbg, h5, Blk.keep HKA.out (h6.block _ (Blk.lt HKA.out) (fun e => by injection e with e; exact HWA.out.clk_notM HKA.out (.inr (.inl e)))), HBA.out.trans hbg, ?_⟩
        rw [HP.out]; exact h4)
      have KN : Hid (∀ (w6 : World) (ks' : List Bool) (ak' : Option Addr) (ck' : Nat), w6.heap = wa.heap → w6.os = wa.os → w6.tape = wa.tape → w6.output = wa.output → ks'.length ≤ ck' → ck' ≤ 9223372036854775807 → Rd wa w.heap.size ak' (bls ks') → leftF safe P 0 ks D.first = leftF safe (P.drop (i + 1)) (i + 1) ks' f →
          LeftR D I w safe n ks { Lc with fm := p2, bm := p3 } (.slice ak' ks'.length ck') (.int .i64 ((i : Int) + 1)) w6) := Lib.hid (fun w6 ks' ak' ck' g1 g2 g3 g4 h1 h2 h3 h4 => by
        have hh : ∀ k : Nat, w6.heap[k]? = wa.heap[k]? := fun k => by rw [g1]
        have hbg : Below w.heap.size wa w6 := ⟨g2, g3, g4, by rw [g1]; exact Nat.le_refl _, fun k _ => hh k⟩
        refine ⟨i + 1, ks', f, ak', ck', hlt, by go_num, rfl, h1, h2, h3.below hbg, HWA.out.keep (fun k _ => hh k) (fun k _ => hh k), Blk.keep HKA.out (hh _), HBA.out.trans hbg, ?_⟩
        rw [HP.out]; exact h4)
      by_cases hsf : i < safe
      · have hsfI : (i : Int) < (safe : Int) := by omega
        have HEQ2 : Hid (leftF safe P 0 ks D.first = leftF safe (P.drop (i + 1)) (i + 1) ksi (setF f x.i (full x.b))) := Lib.hid (by rw [HEQ2.out, leftF_keep (.inl hsf)])
        go_upto_region 10 with (fail)
        obtain ⟨w6, hr6, h6, hg6⟩ := DevAt.putFirst (I' := I) (HWA.out.drew) (fun _ h => h) (HWA.out.drew).imm x.i HXI.out.1 HXI.out.2 (HBV.out.keep (fun _ h => h) (fun _ _ => rfl)) HXL.out
        have m1 : wa.cell? ⟨Lc.g, 1, none⟩ = some (.map (some p2)) := HWA.out.cell 1 _ rfl
        have m20 : wa.cell? ⟨q, 0, none⟩ = some (.int .i64 x.i) := Blk.cell HBX.out 0 _ rfl
        have m21 : wa.cell? ⟨q, 1, none⟩ = some (.slice av nv cv) := Blk.cell HBX.out 1 _ rfl
        have hfin := KK.out w6 ksi aki cki HKL.out HCL.out HRK.out HEQ2.out h6 ⟨hg6.os, hg6.tape, hg6.output, hg6.size, hg6.block⟩
        have HFIN := Lib.hid hfin
        clear h6 hg6 hfin
        go_still_tail 8, (by kernel_rfl)
        change wpList _ _ _ _ _ wa.drew
        go_wp2_with fail
        refine ⟨?_, by simp [intOf]; omega⟩
        first
          | exact HFIN.out
          | (repeat apply Exists.intro
             exact ⟨HFIN.out, rfl⟩)
      · have hsfI : ¬ ((i : Int) < (safe : Int)) := by omega
        cases hsu : x.sure with
        | true =>
          have HEQ2 : Hid (leftF safe P 0 ks D.first = leftF safe (P.drop (i + 1)) (i + 1) ksi (setF f x.i (full x.b))) := Lib.hid (by rw [HEQ2.out, leftF_keep (.inr hsu)])
          rw [hsu] at b2
          go_upto_region 10 with (fail)
          obtain ⟨w6, hr6, h6, hg6⟩ := DevAt.putFirst (I' := I) (HWA.out.drew) (fun _ h => h) (HWA.out.drew).imm x.i HXI.out.1 HXI.out.2 (HBV.out.keep (fun _ h => h) (fun _ _ => rfl)) HXL.out
          have m1 : wa.cell? ⟨Lc.g, 1, none⟩ = some (.map (some p2)) := HWA.out.cell 1 _ rfl
          have m20 : wa.cell? ⟨q, 0, none⟩ = some (.int .i64 x.i) := Blk.cell HBX.out 0 _ rfl
          have m21 : wa.cell? ⟨q, 1, none⟩ = some (.slice av nv cv) := Blk.cell HBX.out 1 _ rfl
          have hfin := KK.out w6 ksi aki cki HKL.out HCL.out HRK.out HEQ2.out h6 ⟨hg6.os, hg6.tape, hg6.output, hg6.size, hg6.block⟩
          have HFIN := Lib.hid hfin
          clear h6 hg6 hfin
          go_still_tail 8, (by kernel_rfl)
          change wpList _ _ _ _ _ wa.drew
          go_wp2_with fail
          refine ⟨?_, by simp [intOf]; omega⟩
          first
            | exact HFIN.out
            | (repeat apply Exists.intro
               exact ⟨HFIN.out, rfl⟩)
        | false =>
          have hno : ¬ (i < safe ∨ x.sure = true) := fun h => h.elim hsf (fun h => by rw [hsu] at h; cases h)
          have HNO := Lib.hid hno
          rw [hsu] at b2
          clear hno
          cases ksi with
          | nil =>
            have HEQ2 : Hid (leftF safe P 0 ks D.first = leftF safe (P.drop (i + 1)) (i + 1) [] f) := Lib.hid (by rw [HEQ2.out, leftF_nil HNO.out])
            clear hsu
            have hfin : LeftR D I w safe n ks { Lc with fm := p2, bm := p3 } _ (.int .i64 ((i : Int) + 1)) wa := KN.out _ [] aki cki rfl rfl rfl rfl HKL.out HCL.out HRK.out HEQ2.out
            have HFIN := Lib.hid hfin
            clear hfin
            go_wp2_with fail
            refine ⟨?_, by simp [intOf]; omega⟩
            first
              | exact HFIN.out
              | (repeat apply Exists.intro
                 exact ⟨HFIN.out, rfl⟩)
          | cons bk ks' =>
            have hne : Rd wa w.heap.size aki (bls (bk :: ks')) := HRK.out
            rcases hne with hne | ⟨bq, oq, rfl, hbq, hcq⟩
            · cases hne
            have c0 : wa.cell? ⟨bq, oq, none⟩ = some (.bool bk) := hcq 0 _ rfl
            have l1 : (1 : Int) ≤ ((bk :: ks').length : Int) := by simp only [List.length_cons]; omega
            have l2 : (0 : Int) < ((bk :: ks').length : Int) := by omega
            obtain ⟨ml, hml⟩ : ∃ ml, (bk :: ks').length = ml := ⟨_, rfl⟩
            have hml2 : ks'.length = ml - 1 := by rw [← hml]; simp
            have hcut : Rd wa w.heap.size (if cki = 1 then some ⟨bq, oq, none⟩ else Option.map (fun x : Addr => x.add 1) (some ⟨bq, oq, none⟩)) (bls ks') := by
              have h := HRK.out.cut (k := 1) (cap := cki) (by rw [bls_length]; exact HKL.out)
              exact h
            have HKL' := HKL.out
            rw [hml] at l1 l2 klI kl0 HKL' ⊢
            have l3 : 0 < ml := by omega
            have l4 : (1 : Int) ≤ (ml : Int) := by omega
            have l5 : ml ≤ cki := HKL'
            obtain ⟨ax, hax⟩ : ∃ ax, (if cki = 1 then some (⟨bq, oq, none⟩ : Addr) else Option.map (fun x : Addr => x.add 1) (some ⟨bq, oq, none⟩)) = ax := ⟨_, rfl⟩
            rw [hax] at hcut
            have HCUT := Lib.hid hcut
            have HCK1 : Hid (cki - 1 ≤ 9223372036854775807) := Lib.hid (by have := HCL.out; omega)
            have HKL1 : Hid (ks'.length ≤ cki - 1) := Lib.hid (by omega)
            have HML2 := Lib.hid hml2
            clear hcut hcq hml hsu HKL' hml2
            cases bk with
            | true =>
              have HEQ2 : Hid (leftF safe P 0 ks D.first = leftF safe (P.drop (i + 1)) (i + 1) ks' (setF f x.i (full x.b))) := Lib.hid (by rw [HEQ2.out, leftF_cons HNO.out]; simp)
              go_upto_region 8 with (fail)
              go_quiet (fail)
              rw [Option.map_some, Addr.add_lit] at hax
              rw [hax, ← HML2.out]
              clear hax
              have hwd := HWA.out.drewN nq
              have hbxb : Blk (wa.drewN nq) q 102 [.int .i64 x.i, .slice av nv cv, .bool x.sure, .int .i64 x.m] := HBX.out
              have hbvb : BytesV (wa.drewN nq) I (.slice av nv cv) x.b := HBV.out.keep (fun _ h => h) (fun _ _ => rfl)
              generalize hwb : wa.drewN nq = wb at hwd hbxb hbvb ⊢
              have HWB := Lib.hid hwb
              have HWD := Lib.hid hwd
              have HBXB := Lib.hid hbxb
              have HBVB := Lib.hid hbvb
              clear hwb hwd hbxb hbvb
              go_upto_region 10 with (fail)
              obtain ⟨w6, hr6, h6, hg6⟩ := DevAt.putFirst (I' := I) (HWD.out.drew) (fun _ h => h) (HWD.out.drew).imm x.i HXI.out.1 HXI.out.2 (HBVB.out.keep (fun _ h => h) (fun _ _ => rfl)) HXL.out
              have m1 : wb.cell? ⟨Lc.g, 1, none⟩ = some (.map (some p2)) := HWD.out.cell 1 _ rfl
              have m20 : wb.cell? ⟨q, 0, none⟩ = some (.int .i64 x.i) := Blk.cell HBXB.out 0 _ rfl
              have m21 : wb.cell? ⟨q, 1, none⟩ = some (.slice av nv cv) := Blk.cell HBXB.out 1 _ rfl
              have hfin := KK.out w6 ks' ax (cki - 1) HKL1.out HCK1.out HCUT.out HEQ2.out h6 (by have h := hg6; rw [← HWB.out] at h; exact ⟨h.os, h.tape, h.output, h.size, h.block⟩)
              have HFIN := Lib.hid hfin
              clear h6 hg6 hfin
              go_still_tail 8, (by kernel_rfl)
              change wpList _ _ _ _ _ wb.drew
              go_wp2_with fail
              refine ⟨?_, by simp [intOf]; omega⟩
              first
                | exact HFIN.out
                | (repeat apply Exists.intro
                   exact ⟨HFIN.out, rfl⟩)
            | false =>
              have HEQ2 : Hid (leftF safe P 0 ks D.first = leftF safe (P.drop (i + 1)) (i + 1) ks' f) := Lib.hid (by rw [HEQ2.out, leftF_cons HNO.out]; simp)
              go_upto_region 8 with (fail)
              go_quiet (fail)
              rw [Option.map_some, Addr.add_lit] at hax
              rw [hax, ← HML2.out]
              clear hax
              have hfin : LeftR D I w safe n ks { Lc with fm := p2, bm := p3 } _ (.int .i64 ((i : Int) + 1)) (wa.drewN nq) := KN.out _ ks' ax (cki - 1) rfl rfl rfl rfl HKL1.out HCK1.out HCUT.out HEQ2.out
              have HFIN := Lib.hid hfin
              clear hfin
              go_wp2_with fail
              refine ⟨?_, by simp [intOf]; omega⟩
              first
                | exact HFIN.out
                | (repeat apply Exists.intro
                   exact ⟨HFIN.out, rfl⟩)
    · have hin : i = n := by omega
      have hltI : ¬ ((i : Int) < (n : Int)) := by omega
      have HFE : Hid (leftF safe P 0 ks D.first = f) := Lib.hid (by
        rw [HEQ.out, List.drop_of_length_le (by rw [HPL.out]; omega)]; rfl)
      have HDV := Lib.hid hdev
      have HCK0 := Lib.hid hck0
      have m1 : wr.cell? ⟨Lc.g, 1, none⟩ = some (.map (some p2)) := hdev.cell 1 _ rfl
      have KFC := Lib.hid (fclone_any hdev.first (fun k hk => hdev.ltI hk))
      subst hin
      clear hb hdev hck0 hrk hEQ
      go_wp2_with fail
      refine KFC.out.mono ?_
      rintro e w5 ⟨rfl, hf5, hb5, hz5⟩
      have hd5 := HDV.out.below hb5
      have q2 : w5.cell? ⟨Lc.g, 2, none⟩ = some (.map (some Lc.nm)) := hd5.cell 2 _ rfl
      have q2f : w5.frozen? ⟨Lc.g, 2, none⟩ = false := hd5.blk.frozen 2
      have l1 : p2 < wr.heap.size := HDV.out.first.lt
      have l2 : p3 < wr.heap.size := HDV.out.bad.lt
      have hfin := DevAt.setNm hd5 hf5 (by show wr.heap.size ≠ p2; omega) (by show wr.heap.size ≠ p3; omega)
      have hg0 : w.heap.size ≤ Lc.g := HM.out Lc.g (.inl rfl)
      have hbf : Below w.heap.size w (w5.setCell ⟨Lc.g, 2, none⟩ (.map (some wr.heap.size))) := (HB.out.trans (hb5.mono HB.out.size)).setCell hg0 _
      have hkf : Clk (w5.setCell ⟨Lc.g, 2, none⟩ (.map (some wr.heap.size))) Lc.clk 0 := Blk.keep (Blk.below HCK0.out hb5) (Below.heap_setCell _ _ _ _ (fun e => HDV.out.clk_notM HCK0.out (.inl e)))
      have HFIN := Lib.hid hfin
      have HBF := Lib.hid hbf
      have HKF := Lib.hid hkf
      have hzr : w.heap.size ≤ wr.heap.size := HB.out.size
      clear hfin hbf hkf hd5 hf5 hb5 m1
      go_wp2_with fail
      go_ret
      refine ⟨{ Lc with fm := p2, bm := p3, nm := wr.heap.size }, I, rfl, ?_, HKF.out, HBF.out, ?_, HCL1.out, fun _ => .inl⟩
      · have h := HFIN.out
        rw [← HFE.out, ← HP.out] at h
        exact h
      · intro k hk
        rcases hk with hk | hk | hk | hk | hk | hk
        · exact HM.out k (.inl hk)
        · exact HM.out k (.inr (.inl hk))
        · have : k = wr.heap.size := hk
          omega
        · exact HM.out k (.inr (.inr (.inr (.inl hk))))
        · exact HM.out k (.inr (.inr (.inr (.inr (.inl hk)))))
        · exact HM.out k (.inr (.inr (.inr (.inr (.inr hk)))))
end Go.Proofs.Ythenpkimcjdkcaa
