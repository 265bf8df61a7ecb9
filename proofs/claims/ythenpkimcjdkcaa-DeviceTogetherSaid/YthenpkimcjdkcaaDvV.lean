/- devices: Together -/
import Derived.Test.YthenpkimcjdkcaaDvG
namespace Go.Proofs.Ythenpkimcjdkcaa
set_option linter.unusedVariables false
set_option linter.unusedSimpArgs false
open Go.RowKit

def TogR (w : World) (L : Bool → Lay) (I : Bool → Nat → Prop) (D : Bool → Dv) (vi : Value) (wr : World) : Prop :=
  ∃ i : Nat, i ≤ 2 ∧ vi = .int .i64 (i : Int) ∧ (∀ s, DevAt wr { L s with clk := if two s < i then w.heap.size else (L s).clk } (I s) (D s)) ∧ Clk wr w.heap.size 0 ∧ Chg (fun j => ∃ s, j = (L s).g) w wr
structure TogPost (w : World) (L : Bool → Lay) (I : Bool → Nat → Prop) (D : Bool → Dv) (w' : World) : Prop where
  dev : ∀ s, DevAt w' { L s with clk := w.heap.size } (I s) (D s)
  clk : Clk w' w.heap.size 0
  chg : Chg (fun j => ∃ s, j = (L s).g) w w'
theorem cell_keep {w w' : World} {p : Addr} (h : w'.heap[p.block]? = w.heap[p.block]?) : w'.cell? p = w.cell? p := by
  unfold World.cell?
  rw [h]
theorem two_ex (i : Nat) (h : i < 2) : ∃ s, two s = i := by
  have : i = 0 ∨ i = 1 := by omega
  rcases this with rfl | rfl
  · exact ⟨false, rfl⟩
  · exact ⟨true, rfl⟩
set_option maxRecDepth 20000 in
set_option maxHeartbeats 4000000 in
theorem together_any {w : World} {L : Bool → Lay} {I : Bool → Nat → Prop} {D : Bool → Dv} (hd : ∀ s, DevAt w (L s) (I s) (D s)) (hsep : ∀ s t, s ≠ t → ∀ j, (L s).M j → ¬ (L t).M j) (hlog : ∀ s, (D s).log = []) (hsy : ∀ s, (D s).syncs = [])
    (gl : Nat) (hgl : ∀ s, w.cell? ⟨gl, two s, none⟩ = some (.pointer (some ⟨(L s).g, 0, none⟩))) (hlt : gl < w.heap.size) (hne : ∀ s, gl ≠ (L s).g) :
    Calls Try.prog 30 #[.slice (some ⟨gl, 0, none⟩) 2 2] w fun e w' => e = .returned (.tuple #[]) ∧ TogPost w L I D w' := by
  have HD := Lib.hid hd
  have HSEP := Lib.hid hsep
  have HLG := Lib.hid hlog
  have HSY := Lib.hid hsy
  have HGL := Lib.hid hgl
  have HNE := Lib.hid hne
  have HLT := Lib.hid hlt
  clear hd hsep hlog hsy hgl hne hlt
  go_enter Try.func30, Try.ntmps30
  go_wp2_with fail
  go_loopw [10] (fun vi wr => TogR w L I D vi wr) (fun vi _ => 2 - (intOf vi).toNat)
  case atStart =>
    refine ⟨0, by omega, rfl, fun s => ?_, Blk.new w _ _, Chg.alloc w _⟩
    have e : ({ L s with clk := if two s < 0 then w.heap.size else (L s).clk } : Lay) = L s := by rw [if_neg (by omega)]
    rw [e]
    exact (HD.out s).below ((Below.refl _ _).alloc (Nat.le_refl _) _)
  case round =>
    obtain ⟨i, hi, rfl, hdv, hck, hch⟩ := hrel
    have HDV := Lib.hid hdv
    have HCK := Lib.hid hck
    have HCH := Lib.hid hch
    have i0 : (0 : Int) ≤ (i : Int) := Int.natCast_nonneg i
    clear hdv hck hch
    by_cases hlt : i < 2
    · have hltI : (i : Int) < 2 := by omega
      obtain ⟨s, hs⟩ := two_ex i hlt
      have q0 : wr.cell? ⟨gl, i, none⟩ = some (.pointer (some ⟨(L s).g, 0, none⟩)) := by
        rw [← hs]
        exact (cell_keep (HCH.out.block gl HLT.out (fun ⟨t, ht⟩ => HNE.out t ht))).trans (HGL.out s)
      obtain ⟨g, hg⟩ : ∃ g, (L s).g = g := ⟨_, rfl⟩
      obtain ⟨Lx, hLx⟩ : ∃ Lx : Lay, ({ L s with clk := if two s < i then w.heap.size else (L s).clk } : Lay) = Lx := ⟨_, rfl⟩
      have hx := HDV.out s
      rw [hLx] at hx
      have hgx : Lx.g = g := by rw [← hLx]; exact hg
      have p7 := hx.cell 7 _ rfl
      have f7 := hx.blk.frozen 7
      have hx2 := hx.setClk w.heap.size
      obtain ⟨cs, hl, _⟩ := hx.log
      obtain ⟨a5, c5, hv5, hc5⟩ := hl.shape
      obtain ⟨a6, c6, hv6, hc6⟩ := OwnG.shape hx.syncs
      have p5 := hx2.cell 5 _ rfl
      have p6 := hx2.cell 6 _ rfl
      rw [hgx] at p7 f7 p5 p6 hx2
      rw [hg] at q0
      have hv5' : Lx.vl = .slice a5 0 c5 := by rw [hv5, HLG.out]; rfl
      have hv6' : Lx.vs = .slice a6 0 c6 := by rw [hv6, HSY.out]; rfl
      have p5' : (wr.setCell ⟨g, 7, none⟩ (.pointer (some ⟨w.heap.size, 0, none⟩))).cell? ⟨g, 5, none⟩ = some (.slice a5 0 c5) := by rw [← hv5']; exact p5
      have p6' : (wr.setCell ⟨g, 7, none⟩ (.pointer (some ⟨w.heap.size, 0, none⟩))).cell? ⟨g, 6, none⟩ = some (.slice a6 0 c6) := by rw [← hv6']; exact p6
      have hfin : TogR w L I D (.int .i64 ((i : Int) + 1)) (wr.setCell ⟨g, 7, none⟩ (.pointer (some ⟨w.heap.size, 0, none⟩))) := by
        refine ⟨i + 1, hlt, by go_num, fun t => ?_, ?_, HCH.out.trans' (Chg.setCell wr _ _ ⟨s, hg.symm⟩)⟩
        · by_cases ht : t = s
          · subst ht
            rw [if_pos (by omega)]
            have : ({ Lx with clk := w.heap.size } : Lay) = { L t with clk := w.heap.size } := by rw [← hLx]
            rw [← this, ← hgx]
            rw [← hgx] at hx2
            exact hx2
          · have h2 : two t ≠ i := fun e => ht (two_inj (e.trans hs.symm))
            have e2 : (if two t < i + 1 then w.heap.size else (L t).clk) = (if two t < i then w.heap.size else (L t).clk) := by
              by_cases h3 : two t < i
              · rw [if_pos h3, if_pos (by omega)]
              · rw [if_neg h3, if_neg (by omega)]
            rw [e2]
            refine (HDV.out t).chg (Chg.setCell wr ⟨g, 7, none⟩ _ (S := fun j => j = g) rfl) fun j hj => ?_
            subst hj
            refine ⟨fun hm => HSEP.out s t (Ne.symm ht) (L s).g (.inl rfl) (by rw [hg]; exact hm), fun hI => ?_⟩
            have := (HDV.out t).imm j hI
            obtain ⟨cur, fr, h4⟩ := this
            exact hx.notM h4 (by decide) (.inl hgx.symm)
        · exact Blk.keep HCK.out (Below.heap_setCell _ _ _ _ fun e => hx.clk_notM HCK.out (.inl (e.trans hgx.symm)))
      have HFIN := Lib.hid hfin
      clear hx hx2 hl hc5 hv5 hc6 hv6 p5 p6 hv5' hv6' hfin hLx hgx hg hs
      obtain ⟨wx, hwx⟩ : ∃ wx, wr.setCell ⟨g, 7, none⟩ (.pointer (some ⟨w.heap.size, 0, none⟩)) = wx := ⟨_, rfl⟩
      rw [hwx] at p5' p6' HFIN
      go_upto_region 6 with (fail)
      clear hwx
      go_upto_block 2 with (fail)
      go_cut [25] (fun v wn => wn = wx)
      case first =>
        go_wp2_with fail
        go_loopw [25] (fun vi wr => vi = .int .i64 0 ∧ wr = wx) (fun _ _ => 0)
        case atStart => exact ⟨rfl, rfl⟩
        case round =>
          obtain ⟨rfl, hw⟩ := hrel
          subst hw
          go_wp2_with fail
          go_meet
          exact rfl
      case' rest =>
        subst hcut
        rename World => wx
      go_wp2_with fail
      go_loopw [41] (fun vi wr => vi = .int .i64 0 ∧ wr = wx) (fun _ _ => 0)
      case atStart => exact ⟨rfl, rfl⟩
      case round =>
        obtain ⟨rfl, hw⟩ := hrel
        subst hw
        go_wp2_with fail
        refine ⟨?_, by simp [intOf]; omega⟩
        first
          | exact HFIN.out
          | (repeat apply Exists.intro; exact ⟨HFIN.out, rfl⟩)
    · have hltI : ¬ ((i : Int) < 2) := by omega
      have hi2 : i = 2 := by omega
      subst hi2
      have hfin : ∀ s, DevAt wr { L s with clk := w.heap.size } (I s) (D s) := fun s => by
        have h := HDV.out s
        rw [if_pos (two_lt s)] at h
        exact h
      have HFIN := Lib.hid hfin
      clear hfin
      go_wp2_with fail
      go_end0
      exact ⟨rfl, HFIN.out, HCK.out, HCH.out⟩
theorem SlArr.noU8 {w : World} {g : Nat} {T : TypeId} {bl : List (List UInt8)} (h : SlArr w g T bl) (hT : T ≠ 5) : ¬ isU8 w g := by
  obtain ⟨vs, h1, _⟩ := h
  rintro ⟨cur, fr, h3⟩
  have h4 : w.heap[g]? = some (.cells _ _ _) := h1
  rw [h4] at h3
  injection h3 with h3
  injection h3 with _ h3 _
  exact hT h3
theorem SlArr.other {w : World} {g g2 : Nat} {T T2 : TypeId} {bl b2 : List (List UInt8)} (h : SlArr w g T bl) (h2 : SlArr w g2 T2 b2) (hT : T2 ≠ 5) (hne : g ≠ g2) (i : Nat) (v : Value) : SlArr (w.setCell ⟨g2, i, none⟩ v) g T bl :=
  h.chg (S := fun k => k = g2) (Chg.setCell w _ _ rfl) (fun k hk => by subst hk; exact h2.noU8 hT) hne
theorem SlArr.put' {w : World} {g : Nat} {T : TypeId} {bl : List (List UInt8)} (h : SlArr w g T bl) (hT : T ≠ 5) (i : Nat) {a : Option Addr} {c n : Nat} {b : List UInt8} (hn : b.length = n) (hc : n ≤ c) (hv : BytesU w (.slice a n c) b) : SlArr (w.setCell ⟨g, i, none⟩ (.slice a n c)) g T (bl.set i b) := h.put hT i hv
theorem SlArr.getU {w : World} {g : Nat} {T : TypeId} {bl : List (List UInt8)} (h : SlArr w g T bl) (j : Nat) (hj : j < bl.length) : ∃ a n c, w.cell? ⟨g, j, none⟩ = some (.slice a n c) ∧ BytesU w (.slice a n c) (bl.getD j []) := by
  obtain ⟨vs, h1, h2⟩ := h
  obtain ⟨v, h3, h4⟩ := h2.2 j _ (List.getElem?_eq_getElem hj)
  obtain ⟨a, c, hv, _, _⟩ := h4.rd
  subst hv
  refine ⟨a, _, c, h1.cell j _ h3, ?_⟩
  rw [List.getD_eq_getElem?_getD, List.getElem?_eq_getElem hj]
  exact h4
/-- A row of four is copied. -/
theorem SlArr.row {w : World} {gn gs : Nat} {T : TypeId} {N S : List (List UInt8)} (hn : SlArr w gn T N) (hs : SlArr w gs T S) (hT : T ≠ 5) (hne : gn ≠ gs) (hN : N.length = 8) (hS : S.length = 8) (s o0 o1 o2 o3 : Nat) (hs2 : s < 2) (h0 : s * 4 = o0) (h1 : s * 4 + 1 = o1) (h2 : s * 4 + 2 = o2) (h3 : s * 4 + 3 = o3) :
    ∃ a0 n0 c0 a1 n1 c1 a2 n2 c2 a3 n3 c3, w.cell? ⟨gn, o0, none⟩ = some (.slice a0 n0 c0) ∧ w.cell? ⟨gn, o1, none⟩ = some (.slice a1 n1 c1) ∧ w.cell? ⟨gn, o2, none⟩ = some (.slice a2 n2 c2) ∧ w.cell? ⟨gn, o3, none⟩ = some (.slice a3 n3 c3) ∧
      SlArr ((((w.setCell ⟨gs, o0, none⟩ (.slice a0 n0 c0)).setCell ⟨gs, o1, none⟩ (.slice a1 n1 c1)).setCell ⟨gs, o2, none⟩ (.slice a2 n2 c2)).setCell ⟨gs, o3, none⟩ (.slice a3 n3 c3)) gn T N ∧
      SlArr ((((w.setCell ⟨gs, o0, none⟩ (.slice a0 n0 c0)).setCell ⟨gs, o1, none⟩ (.slice a1 n1 c1)).setCell ⟨gs, o2, none⟩ (.slice a2 n2 c2)).setCell ⟨gs, o3, none⟩ (.slice a3 n3 c3)) gs T (rowSet S N s) ∧
      Chg (fun k => k = gs) w ((((w.setCell ⟨gs, o0, none⟩ (.slice a0 n0 c0)).setCell ⟨gs, o1, none⟩ (.slice a1 n1 c1)).setCell ⟨gs, o2, none⟩ (.slice a2 n2 c2)).setCell ⟨gs, o3, none⟩ (.slice a3 n3 c3)) := by
  obtain ⟨a0, n0, c0, k0, b0⟩ := hn.getU (s * 4) (by omega)
  obtain ⟨a1, n1, c1, k1, b1⟩ := hn.getU (s * 4 + 1) (by omega)
  obtain ⟨a2, n2, c2, k2, b2⟩ := hn.getU (s * 4 + 2) (by omega)
  obtain ⟨a3, n3, c3, k3, b3⟩ := hn.getU (s * 4 + 3) (by omega)
  subst h0; subst h1; subst h2; subst h3
  refine ⟨a0, n0, c0, a1, n1, c1, a2, n2, c2, a3, n3, c3, k0, k1, k2, k3, ?_⟩
  have hch : ∀ (wx : World) (i : Nat) (v : Value), Chg (fun k => k = gs) wx (wx.setCell ⟨gs, i, none⟩ v) := fun wx i v => Chg.setCell wx _ _ rfl
  have hno : ∀ wx, (∃ b, SlArr wx gs T b) → NoU8 (fun k => k = gs) wx := fun wx ⟨b, hb⟩ k hk => by subst hk; exact hb.noU8 hT
  have s0 := hs.put hT (s * 4) b0
  have m0 := hn.other hs hT hne (s * 4) (.slice a0 n0 c0)
  have b1' := b1.chg (hch w (s * 4) (.slice a0 n0 c0)) (hno _ ⟨_, hs⟩)
  have b2' := b2.chg (hch w (s * 4) (.slice a0 n0 c0)) (hno _ ⟨_, hs⟩)
  have b3' := b3.chg (hch w (s * 4) (.slice a0 n0 c0)) (hno _ ⟨_, hs⟩)
  have s1 := s0.put hT (s * 4 + 1) b1'
  have m1 := m0.other s0 hT hne (s * 4 + 1) (.slice a1 n1 c1)
  have b2' := b2'.chg (hch _ (s * 4 + 1) (.slice a1 n1 c1)) (hno _ ⟨_, s0⟩)
  have b3' := b3'.chg (hch _ (s * 4 + 1) (.slice a1 n1 c1)) (hno _ ⟨_, s0⟩)
  have s2 := s1.put hT (s * 4 + 2) b2'
  have m2 := m1.other s1 hT hne (s * 4 + 2) (.slice a2 n2 c2)
  have b3' := b3'.chg (hch _ (s * 4 + 2) (.slice a2 n2 c2)) (hno _ ⟨_, s1⟩)
  have s3 := s2.put hT (s * 4 + 3) b3'
  have m3 := m2.other s2 hT hne (s * 4 + 3) (.slice a3 n3 c3)
  exact ⟨m3, s3, (((hch w (s * 4) (.slice a0 n0 c0)).trans' (hch _ (s * 4 + 1) (.slice a1 n1 c1))).trans' (hch _ (s * 4 + 2) (.slice a2 n2 c2))).trans' (hch _ (s * 4 + 3) (.slice a3 n3 c3))⟩
theorem Two.turn {W w w' : World} {L : Bool → Lay} {I : Bool → Nat → Prop} {D : Bool → Dv} {q : Nat} {k : Int} {gs : Nat} {S : List (List UInt8)} (h : Two W w L I D q k) (hs : SlArr w gs 55 S) (hw : W.heap.size ≤ gs) (hc : Chg (fun j => j = gs) w w') : Two W w' L I D q k :=
  h.chg hc fun j hj => by
    have hn := fun s => hs.notM (h.dev s) (h.clkAt s) (by decide) (by decide)
    subst hj
    exact ⟨hs.noU8 (by decide), fun e => hn true (.inr (by rw [h.same]; exact e)), fun s hm => hn s (.inl hm), hw⟩
end Go.Proofs.Ythenpkimcjdkcaa
