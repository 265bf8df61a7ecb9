/- the law: what is taken is what the document says -/
import Derived.Test.YtnpcpbjoonjaoaaInfoR
import Derived.Test.YtnpcpbjoonjaoaaBits
namespace Go.Proofs.Ytnpcpbjoonjaoaa
set_option linter.unusedVariables false
set_option linter.unusedSimpArgs false
open Go.RowKit

/-- own := append(append([]byte{}, b...), 77)[:len(b)] -/
theorem own77 {data : List UInt8} {w : World} {base : Nat} {v : Value} (h : OwnB w base v (data ++ [77])) :
    ∃ g off cap, v = .slice (some ⟨g, off, none⟩) (data.length + 1) cap ∧ data.length + 1 ≤ cap ∧ base ≤ g ∧ g < w.heap.size ∧ cap ≤ 9223372036854775807 ∧ Rd w w.heap.size (some ⟨g, off, none⟩) (bs data) ∧ w.cell? ⟨g, off + data.length, none⟩ = some (.int .u8 77) := by
  have hcm : ∀ a n c, v = .slice a n c → c ≤ 9223372036854775807 := fun a n c e => by
    subst e
    rcases h.2 with ⟨h', _⟩ | ⟨_, _, _, _, _, _, hv, _, _, _, _, _, hm, _⟩
    · injection h' with _ _ e3; omega
    · injection hv with _ _ e; unfold maxLen at hm; omega
  obtain ⟨g, off, cap, hv, h1, h2, h3, h4⟩ := h.form (by simp)
  have hl : (data ++ [77]).length = data.length + 1 := by simp
  rw [hl] at hv h3
  have hrd := (hv ▸ h : OwnB w base (.slice (some ⟨g, off, none⟩) (data.length + 1) cap) (data ++ [77])).rd
  refine ⟨g, off, cap, hv, h3, h1, h2, hcm _ _ _ hv, ?_, ?_⟩
  · have := hrd.take data.length
    rw [← bs_take, List.take_left] at this
    exact this
  · have := h4 data.length (by simp)
    simpa using this


/-- An option that was taken and kept. -/
structure TkO (w : World) (g : Nat) (ty : Int) (a : Option Addr) (n c : Nat) (dl : List UInt8) : Prop where
  k0 : w.cell? ⟨g, 0, none⟩ = some (.int .i64 ty)
  k1 : w.cell? ⟨g, 1, none⟩ = some (.slice a n c)
  rd : Rd w w.heap.size a (bs dl)
  len : dl.length = n
  lt : g < w.heap.size
theorem TkO.below {w w' : World} {g : Nat} {ty : Int} {a : Option Addr} {n c : Nat} {dl : List UInt8} (h : TkO w g ty a n c dl) (hb : Below w.heap.size w w') : TkO w' g ty a n c dl :=
  ⟨(hb.cell (by exact h.lt)).trans h.k0, (hb.cell (by exact h.lt)).trans h.k1, (h.rd.below hb).more hb.size, h.len, Nat.lt_of_lt_of_le h.lt hb.size⟩
theorem TkO.new {w : World} {B : Nat} {ty : Int} {a : Option Addr} {n c : Nat} {dl : List UInt8} (h : OwnB w B (.slice a n c) dl) : TkO (w.alloc (.cells #[Value.int .i64 ty, Value.slice a n c] 36)) w.heap.size ty a n c dl := by
  refine ⟨by go_simp, by go_simp, ((OwnB.rd h).alloc (Nat.le_refl _) _).more (by rw [World.size_alloc]; omega), OwnB.len h, by rw [World.size_alloc]; omega⟩
/-- A header that was taken and kept. -/
structure TkH (w : World) (g : Nat) (h0 h1 h2 h3 h4 : Nat) : Prop where
  k0 : w.cell? ⟨g, 0, none⟩ = some (.int .i64 h0)
  k1 : w.cell? ⟨g, 1, none⟩ = some (.int .i64 h1)
  k2 : w.cell? ⟨g, 2, none⟩ = some (.int .u64 h2)
  k3 : w.cell? ⟨g, 3, none⟩ = some (.int .u64 h3)
  k4 : w.cell? ⟨g, 4, none⟩ = some (.int .i64 h4)
  lt : g < w.heap.size
theorem TkH.below {w w' : World} {g h0 h1 h2 h3 h4 : Nat} (h : TkH w g h0 h1 h2 h3 h4) (hb : Below w.heap.size w w') : TkH w' g h0 h1 h2 h3 h4 :=
  ⟨(hb.cell (by exact h.lt)).trans h.k0, (hb.cell (by exact h.lt)).trans h.k1, (hb.cell (by exact h.lt)).trans h.k2, (hb.cell (by exact h.lt)).trans h.k3, (hb.cell (by exact h.lt)).trans h.k4, Nat.lt_of_lt_of_le h.lt hb.size⟩
theorem TkH.new (w : World) (h0 h1 h2 h3 h4 : Nat) : TkH (w.alloc (.cells #[Value.int .i64 (h0 : Int), Value.int .i64 (h1 : Int), Value.int .u64 (h2 : Int), Value.int .u64 (h3 : Int), Value.int .i64 (h4 : Int)] 41)) w.heap.size h0 h1 h2 h3 h4 := by
  refine ⟨by go_simp, by go_simp, by go_simp, by go_simp, by go_simp, by rw [World.size_alloc]; omega⟩

/-- An int of the call's own. -/
theorem OwnI.at {w : World} {base n c : Nat} {a : Option Addr} {L : List Nat} (h : OwnI w base (.slice a n c) n L) (i : Nat) (hi : i < n) : ∃ b off, a = some ⟨b, off, none⟩ ∧ b < w.heap.size ∧ ∃ y : Nat, L[i]? = some y ∧ w.cell? ⟨b, off + i, none⟩ = some (.int .i64 (y : Int)) := by
  have hl : L.length = n := by have := h.1; rw [ints_length] at this; omega
  have hy : L[i]? = some (L[i]'(by omega)) := List.getElem?_eq_getElem (by omega)
  obtain ⟨b, off, ha, hb, hc⟩ := (OwnG.rd h).at i (.int .i64 ((L[i]'(by omega) : Nat) : Int)) (by rw [ints, List.getElem?_map, hy]; rfl)
  exact ⟨b, off, ha, hb, _, hy, hc⟩

theorem OwnI.small {w : World} {base n c : Nat} {a : Option Addr} {L : List Nat} (h : OwnI w base (.slice a n c) n L) : n ≤ 9223372036854775807 := by
  rcases h.2 with ⟨_, h0⟩ | ⟨_, _, cap, _, _, _, _, _, _, _, _, h1, h2, _⟩
  · omega
  · unfold maxLen at h2; omega

/-- The numbers told are alike, so far. -/
def WtR (W : World) (m : Nat) (vi : Value) (wr : World) : Prop := ∃ i : Nat, i ≤ m ∧ vi = .int .i64 (i : Int) ∧ Below W.heap.size W wr

set_option maxRecDepth 100000 in
set_option maxHeartbeats 4000000 in
theorem law_WireTakes (a : Option Addr) (n c : Nat) (l : List UInt8) (W : World) (h : BytesIn W a n c l) :
    Calls Try.prog 6 #[.slice a n c] W fun e w' => e = .returned (.bool true) ∧ Below W.heap.size W w' := by
  have HL : Hid (l.length = n) := Lib.hid h.len_eq
  have HR := Lib.hid h.rd
  have hnc := h.le_cap
  have hcs := h.small
  have hn : n ≤ 140737488351232 := Nat.le_trans h.le_cap h.small
  have HRW : Hid (Rd (W.alloc (.cells #[] 5)) W.heap.size a (bs l)) := Lib.hid (h.rd.alloc (Nat.le_refl _) _)
  have S1 : Hid (([] : List UInt8).length + n ≤ 140737488355328) := Lib.hid (by simp; omega)
  have S2 : Hid (W.heap.size ≤ (W.alloc (.cells #[] 5)).heap.size) := Lib.hid (by rw [World.size_alloc]; omega)
  clear h
  go_enter Try.func6, Try.ntmps6
  go_wp2_with (at_builtin; refine wpList_app rfl _ _ rfl W.heap.size _ [] rfl (OwnB.lit0 W) W.heap.size a n c l rfl HL.out HRW.out S1.out S2.out ?_)
  intro v1 w1 hown1 hgr1 hat1
  have hb1 := below_app ((Below.refl W.heap.size W).alloc (Nat.le_refl _) (.cells #[] 5)) (OwnB.lit0 W) (Nat.le_refl _) hgr1
  have hown1' : OwnB w1 W.heap.size v1 l := hown1
  have HO1 : Hid (OwnB (w1.alloc (Obj.cells #[Value.int .u8 77] 5)) W.heap.size v1 l) := Lib.hid (OwnG.alloc hown1' _)
  have HB1 : Hid (Below W.heap.size W (w1.alloc (Obj.cells #[Value.int .u8 77] 5))) := Lib.hid (hb1.alloc hb1.size _)
  have R3 : Hid (Rd (w1.alloc (Obj.cells #[Value.int .u8 77] 5)) (w1.heap.size + 1) (some ⟨w1.heap.size, 0, none⟩) (bs [77])) := Lib.hid (Rd.new w1 (bs [77]) 5)
  have S3 : Hid (l.length + 1 ≤ 140737488355328) := Lib.hid (by have := HL.out; omega)
  clear hown1 hown1' hgr1 hat1 hb1
  go_wp2_with (at_builtin; refine wpList_app rfl _ _ rfl W.heap.size _ l rfl HO1.out (w1.heap.size + 1) (some ⟨w1.heap.size, 0, none⟩) 1 1 [77] rfl rfl R3.out S3.out HB1.out.size ?_)
  intro v2 w2 hown2 hgr2 hat2
  have hb2 := below_app HB1.out HO1.out (Nat.le_refl _) hgr2
  obtain ⟨g, off, cap, rfl, hcap, hg1, hg2, hcap2, hrd2, h77⟩ := own77 hown2
  rw [HL.out] at hcap h77 ⊢
  have HB2 := Lib.hid hb2
  have HRO := Lib.hid hrd2
  have H77 := Lib.hid h77
  have HG := Lib.hid hg2
  have hc0 : n ≤ cap := by omega
  have HRL := Lib.hid ((HR.out.below hb2).more hb2.size)
  obtain ⟨⟨ty, dl, on, oe⟩, hor⟩ : ∃ r, optR l = r := ⟨_, rfl⟩
  obtain ⟨⟨⟨h0, h1, h2, h3, h4⟩, hdn, hde⟩, hhr⟩ : ∃ r, hdrR l = r := ⟨_, rfl⟩
  obtain ⟨⟨nm, L, ie⟩, hir⟩ : ∃ r, infoR l = r := ⟨_, rfl⟩
  -- all that comes later lies behind w2
  have CO : Hid (∀ wx, Below w2.heap.size w2 wx → Calls Try.prog 25 #[.slice (some ⟨g, off, none⟩) n cap] wx (OptPost (ty, dl, on, oe) wx)) := Lib.hid (fun wx hx => by rw [← hor]; exact takeOpt_any _ n cap l wx HL.out hc0 hcap2 ((HRO.out.below hx).more hx.size))
  have CP : Hid (∀ wx, Below w2.heap.size w2 wx → Calls Try.prog 29 #[.slice a n c] wx (OptPost (ty, dl, on, oe) wx)) := Lib.hid (fun wx hx => by rw [← hor]; exact rtakeOpt_any _ n c l wx HL.out hnc hcs ((HRL.out.below hx).more hx.size))
  have CH : Hid (∀ wx, Below w2.heap.size w2 wx → Calls Try.prog 27 #[.slice (some ⟨g, off, none⟩) n cap] wx (HdrPost (⟨h0, h1, h2, h3, h4⟩, hdn, hde) wx)) := Lib.hid (fun wx hx => by rw [← hhr]; exact takeHdr_any _ n cap l wx HL.out hc0 hcap2 ((HRO.out.below hx).more hx.size))
  have CK : Hid (∀ wx, Below w2.heap.size w2 wx → Calls Try.prog 30 #[.slice a n c] wx (HdrPost (⟨h0, h1, h2, h3, h4⟩, hdn, hde) wx)) := Lib.hid (fun wx hx => by rw [← hhr]; exact rtakeHdr_any _ n c l wx HL.out hnc (by omega) ((HRL.out.below hx).more hx.size))
  have CS : Hid (∀ wx, Below w2.heap.size w2 wx → Calls Try.prog 31 #[.slice (some ⟨g, off, none⟩) n cap] wx (InfoPost (nm, L, ie) wx)) := Lib.hid (fun wx hx => by rw [← hir]; exact takeInfo_any _ n cap l wx HL.out hc0 hcap2 ((HRO.out.below hx).more hx.size))
  have CT : Hid (∀ wx, Below w2.heap.size w2 wx → Calls Try.prog 32 #[.slice a n c] wx (InfoPost (nm, L, ie) wx)) := Lib.hid (fun wx hx => by rw [← hir]; exact rtakeInfo_any _ n c l wx HL.out hnc hcs ((HRL.out.below hx).more hx.size))
  have CM : Hid (∀ wx, Below w2.heap.size w2 wx → Calls Try.prog 13 #[.slice (some ⟨g, off, none⟩) n cap, .slice a n c] wx fun e w' => e = .returned (.bool true) ∧ wx = w') := Lib.hid (fun wx hx => by
    have h := same_any (some ⟨g, off, none⟩) a n n cap c l l wx HL.out HL.out (HRO.out.below hx) (HRL.out.below hx)
    rw [beq_self_eq_true] at h
    exact h)
  have C7 : Hid (∀ wx, Below w2.heap.size w2 wx → wx.cell? ⟨g, off + n, none⟩ = some (.int .u8 77)) := Lib.hid (fun wx hx => (hx.cell (p := ⟨g, off + n, none⟩) HG.out).trans H77.out)
  have HS2 := Lib.hid hb2.size
  clear hown2 hgr2 hat2 hb2 hrd2 h77 HO1 HB1 R3 S3 hg1 hg2 hor hhr hir HRW S1 S2 hc0
  go_wp2_with fail
  refine (CO.out _ (Below.refl _ _)).mono ?_
  rintro e w3 ⟨a3, n3, c3, rfl, hown3, hb3⟩
  simp only
  have hO3 := TkO.new (ty := (ty : Int)) hown3
  have hb3' := hb3.alloc hb3.size (Obj.cells #[Value.int .i64 (ty : Int), Value.slice a3 n3 c3] 36)
  go_upto_region 3 with (fail)
  generalize hw : w3.alloc (Obj.cells #[Value.int .i64 (ty : Int), Value.slice a3 n3 c3] 36) = w4 at hO3 hb3'
  have HO := Lib.hid hO3
  have HB := Lib.hid hb3'
  clear hw hown3 hb3 hO3 hb3'
  obtain ⟨go, hgo⟩ : ∃ go, w3.heap.size = go := ⟨_, rfl⟩
  rw [hgo] at HO ⊢
  clear hgo
  go_wp2_with fail
  refine (CP.out _ HB.out).mono ?_
  rintro e w5 ⟨a5, n5, c5, rfl, hown5, hb5⟩
  simp only
  have hP5 := TkO.new (ty := (ty : Int)) hown5
  have hb5' := hb5.alloc hb5.size (Obj.cells #[Value.int .i64 (ty : Int), Value.slice a5 n5 c5] 36)
  go_upto_region 4 with (fail)
  generalize hw : w5.alloc (Obj.cells #[Value.int .i64 (ty : Int), Value.slice a5 n5 c5] 36) = w6 at hP5 hb5'
  have HP := Lib.hid hP5
  have HO := Lib.hid (HO.out.below hb5')
  have HB := Lib.hid (HB.out.trans (hb5'.mono HB.out.size))
  obtain ⟨gp, hgp⟩ : ∃ gp, w5.heap.size = gp := ⟨_, rfl⟩
  rw [hgp] at HP ⊢
  clear hw hown5 hb5 hP5 hb5' hgp
  go_wp2_with fail
  refine (CH.out _ HB.out).mono ?_
  rintro e w7 ⟨rfl, hb7⟩
  simp only [Hdr.val]
  have hH7 := TkH.new w7 h0 h1 h2 h3 h4
  have hb7' := hb7.alloc hb7.size (Obj.cells #[Value.int .i64 (h0 : Int), Value.int .i64 (h1 : Int), Value.int .u64 (h2 : Int), Value.int .u64 (h3 : Int), Value.int .i64 (h4 : Int)] 41)
  go_upto_region 5 with (fail)
  generalize hw : w7.alloc (Obj.cells #[Value.int .i64 (h0 : Int), Value.int .i64 (h1 : Int), Value.int .u64 (h2 : Int), Value.int .u64 (h3 : Int), Value.int .i64 (h4 : Int)] 41) = w8 at hH7 hb7'
  have HH := Lib.hid hH7
  have HP := Lib.hid (HP.out.below hb7')
  have HO := Lib.hid (HO.out.below hb7')
  have HB := Lib.hid (HB.out.trans (hb7'.mono HB.out.size))
  obtain ⟨gh, hgh⟩ : ∃ gh, w7.heap.size = gh := ⟨_, rfl⟩
  rw [hgh] at HH ⊢
  clear hw hb7 hH7 hb7' hgh
  go_wp2_with fail
  refine (CK.out _ HB.out).mono ?_
  rintro e w9 ⟨rfl, hb9⟩
  simp only [Hdr.val]
  have hK9 := TkH.new w9 h0 h1 h2 h3 h4
  have hb9' := hb9.alloc hb9.size (Obj.cells #[Value.int .i64 (h0 : Int), Value.int .i64 (h1 : Int), Value.int .u64 (h2 : Int), Value.int .u64 (h3 : Int), Value.int .i64 (h4 : Int)] 41)
  go_upto_region 6 with (fail)
  generalize hw : w9.alloc (Obj.cells #[Value.int .i64 (h0 : Int), Value.int .i64 (h1 : Int), Value.int .u64 (h2 : Int), Value.int .u64 (h3 : Int), Value.int .i64 (h4 : Int)] 41) = w10 at hK9 hb9'
  have HK := Lib.hid hK9
  have HH := Lib.hid (HH.out.below hb9')
  have HP := Lib.hid (HP.out.below hb9')
  have HO := Lib.hid (HO.out.below hb9')
  have HB := Lib.hid (HB.out.trans (hb9'.mono HB.out.size))
  obtain ⟨gk, hgk⟩ : ∃ gk, w9.heap.size = gk := ⟨_, rfl⟩
  rw [hgk] at HK ⊢
  clear hw hb9 hK9 hb9' hgk
  go_wp2_with fail
  refine (CS.out _ HB.out).mono ?_
  rintro e w11 ⟨a11, ns, c11, rfl, hs11, hb11⟩
  simp only
  obtain ⟨ln, hln⟩ : ∃ ln, L.length = ln := ⟨_, rfl⟩
  have hs11 : OwnI w11 w10.heap.size (.slice a11 ns c11) ns L := hs11
  have hns : ns = ln := by have := hs11.1; rw [ints_length] at this; omega
  subst hns
  have HS := Lib.hid hs11
  have HK := Lib.hid (HK.out.below hb11)
  have HH := Lib.hid (HH.out.below hb11)
  have HP := Lib.hid (HP.out.below hb11)
  have HO := Lib.hid (HO.out.below hb11)
  have HB := Lib.hid (HB.out.trans (hb11.mono HB.out.size))
  have HLN := Lib.hid hln
  clear hs11 hb11 hln
  go_wp2_with fail
  refine (CT.out _ HB.out).mono ?_
  rintro e w12 ⟨a12, nt, c12, rfl, ht12, hb12⟩
  simp only
  have ht12 : OwnI w12 w11.heap.size (.slice a12 nt c12) nt L := ht12
  have hnt : nt = ns := by have := ht12.1; rw [ints_length, HLN.out] at this; omega
  subst hnt
  have HT := Lib.hid ht12
  have HS := Lib.hid (OwnG.below HS.out hb12 : OwnI w12 _ _ _ _)
  have HK := Lib.hid (HK.out.below hb12)
  have HH := Lib.hid (HH.out.below hb12)
  have hP12 := HP.out.below hb12
  have hO12 := HO.out.below hb12
  have HB := Lib.hid (HB.out.trans (hb12.mono HB.out.size))
  have HOS := Lib.hid (option_same (ty : Int) a3 a5 n3 c3 n5 c5 dl w12 hO12.len hP12.len hO12.rd hP12.rd (Nat.le_refl _) (Nat.le_refl _))
  obtain ⟨k0, k1, _, _, _⟩ := hO12
  obtain ⟨j0, j1, _, _, _⟩ := hP12
  clear ht12 hb12 HO HP CO CP CH CK CS CT
  go_wp2_with fail
  refine HOS.out.mono ?_
  rintro e w13 ⟨rfl, hb13⟩
  have HT := Lib.hid (OwnG.below HT.out hb13 : OwnI w13 _ _ _ _)
  have HS := Lib.hid (OwnG.below HS.out hb13 : OwnI w13 _ _ _ _)
  have HK := Lib.hid (HK.out.below hb13)
  have HH := Lib.hid (HH.out.below hb13)
  have HB := Lib.hid (HB.out.trans (hb13.mono HB.out.size))
  clear hb13 HOS k0 k1 j0 j1
  go_wp2_with fail
  refine (CM.out _ HB.out).mono ?_
  rintro e w14 ⟨rfl, hw14⟩
  subst hw14
  rename World => w13
  go_wp2_with fail
  refine (walive_any w13).mono ?_
  rintro e w14 ⟨rfl, hb14⟩
  have HT := Lib.hid (OwnG.below HT.out hb14 : OwnI w14 _ _ _ _)
  have HS := Lib.hid (OwnG.below HS.out hb14 : OwnI w14 _ _ _ _)
  obtain ⟨k0, k1, k2, k3, k4, _⟩ := HK.out.below hb14
  obtain ⟨j0, j1, j2, j3, j4, _⟩ := HH.out.below hb14
  have hc7 := C7.out _ (HB.out.trans (hb14.mono HB.out.size))
  have HB := Lib.hid (HB2.out.trans ((HB.out.trans (hb14.mono HB.out.size)).mono HB2.out.size))
  have nI : (n : Int) + 1 ≤ (cap : Int) := by omega
  have n0 : (0 : Int) ≤ (n : Int) := Int.natCast_nonneg n
  have n2 : (n : Int) < (n : Int) + 1 := by omega
  clear hb14 HK HH C7 CM
  go_wp2_with fail
  clear k0 k1 k2 k3 k4 j0 j1 j2 j3 j4 hc7 nI n2 hcap hcap2
  go_loopw [24] (fun vi wr => WtR w14 nt vi wr) (fun vi _ => nt - (intOf vi).toNat)
  case atStart => exact ⟨0, Nat.zero_le _, rfl, Below.refl _ _⟩
  case round =>
    obtain ⟨i, hi, rfl, hbl⟩ := hrel
    have HBL := Lib.hid hbl
    have i0 : (0 : Int) ≤ (i : Int) := Int.natCast_nonneg i
    have hsm := OwnI.small HS.out
    clear n0
    by_cases hlt : i < nt
    · have hI : (i : Int) < (nt : Int) := by omega
      obtain ⟨b1, o1, rfl, hb1, y, hy, hc1⟩ := OwnI.at HS.out i hlt
      obtain ⟨b2, o2, rfl, hb2, y', hy', hc2⟩ := OwnI.at HT.out i hlt
      obtain rfl : y = y' := by rw [hy] at hy'; injection hy'
      have q1 := (hbl.cell (p := ⟨b1, o1 + i, none⟩) hb1).trans hc1
      have q2 := (hbl.cell (p := ⟨b2, o2 + i, none⟩) hb2).trans hc2
      clear hy hy' hc1 hc2 hb1 hb2 hbl
      go_wp2_with fail
      go_quiet (fail)
      go_wp2_with fail
      all_goals go_roundw
      all_goals first
        | (case measure => simp [intOf]; omega)
        | exact ⟨i + 1, hlt, by go_num, below_drewN HBL.out _⟩
    · have hI : ¬ ((i : Int) < (nt : Int)) := by omega
      clear hbl
      go_wp2_with fail
      go_ret
      exact ⟨rfl, HB.out.trans (HBL.out.mono HB.out.size)⟩
end Go.Proofs.Ytnpcpbjoonjaoaa
