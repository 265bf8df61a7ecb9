/- the document's digest -/
import Derived.Test.YtnfchojekcoplaaDoorRf4
import Derived.Test.YtnfchojekcoplaaDoorShaTwo
namespace Go.Proofs.YtnfchojekcoplaaDoor
set_option linter.unusedVariables false
set_option linter.unusedSimpArgs false
open Go.RowKit

/-- The result's block, the state's block, the table's block. -/
def RfA (w : World) (i : Nat) (wr : World) : Prop :=
  Blk wr w.heap.size 24 (bs (List.replicate 32 0)) ∧ Blk wr (w.heap.size + 1) 54 (us (laidW iv 8 i)) ∧ Below w.heap.size w wr ∧ wr.heap.size = w.heap.size + 2
def RfB (w : World) (i : Nat) (wr : World) : Prop :=
  Blk wr w.heap.size 24 (bs (List.replicate 32 0)) ∧ Blk wr (w.heap.size + 1) 54 (us iv) ∧ Blk wr (w.heap.size + 2) 59 (us (laidW kTab 64 i)) ∧ Below w.heap.size w wr ∧ wr.heap.size = w.heap.size + 3

def Rf4r (S X : List W32) (gs gx : Nat) (w7 : World) (vi : Value) (wr : World) : Prop :=
  ∃ (k : Nat) (hs : List W32), vi = .int .i64 (k : Int) ∧ k ≤ 8 ∧ hs.length = 8 ∧ hs.take k = (List.zipWith (· + ·) S X).take k ∧ hs.drop k = S.drop k ∧ Blk wr gs 54 (us hs) ∧ Blk wr gx 54 (us X) ∧ w7.grownBy wr (some gs)

def Rf6r (w : World) (S : List W32) (L : List UInt8) (gt : Nat) (vi : Value) (wr : World) : Prop :=
  ∃ i : Nat, i ≤ 32 ∧ vi = .int .i64 (i : Int) ∧ Blk wr (w.heap.size + 1) 54 (us S) ∧ Blk wr gt 24 (bs (laidTo L i)) ∧ Blk wr w.heap.size 24 (bs (List.replicate 32 0)) ∧ Below w.heap.size w wr

theorem quiet_left0 {P : Program} {f : FuncId} {args : Array Value} {w : World} {n : Nat} {v : Value}
    (h : Calls P f args (w.drewN n) fun e w' => e = .returned v ∧ w.drewN n = w') :
    Calls P f args (w.drewN n) fun e w'' => e = .returned v ∧ ∃ m, w'' = w.drewN m :=
  h.mono fun _ _ ⟨he, hm⟩ => ⟨he, n, hm.symm⟩

def RfBr (w : World) (vi : Value) (wr : World) : Prop := ∃ i : Nat, i ≤ 64 ∧ vi = .int .i64 (i : Int) ∧ RfB w i wr

/-- m blocks are taken in. -/
def RfC (w : World) (P : List UInt8) (pv : Value) (m : Nat) (wr : World) : Prop :=
  Blk wr w.heap.size 24 (bs (List.replicate 32 0)) ∧ Blk wr (w.heap.size + 1) 54 (us (stB P m)) ∧ Blk wr (w.heap.size + 2) 59 (us kTab) ∧ OwnB wr (w.heap.size + 3) pv P ∧ Below w.heap.size w wr ∧ w.heap.size + 3 ≤ wr.heap.size
def RfCr (w : World) (P : List UInt8) (pv : Value) (vi : Value) (wr : World) : Prop := ∃ m A : Nat, A = 64 * m ∧ A ≤ P.length ∧ vi = .int .i64 (A : Int) ∧ RfC w P pv m wr

def Rf3r (ws S : List W32) (gx : Nat) (w6 : World) (vi : Value) (wr : World) : Prop := ∃ t : Nat, t ≤ 64 ∧ vi = .int .i64 (t : Int) ∧ Blk wr gx 54 (us (rnds ws S t)) ∧ w6.grownBy wr (some gx)

theorem grownBy_setRow {a w : World} {g : Nat} (h : a.grownBy w (some g)) (cs : Array Value) : a.grownBy (w.setRow g cs) (some g) :=
  ⟨h.os, h.tape, h.output, by rw [setRow_size]; exact h.size, fun k hk hne => (setRow_other w g k cs (fun e => hne (by rw [e]))).trans (h.block k hk hne)⟩
theorem grownBy_drewN2 {a w : World} {r : Option Nat} (h : a.grownBy w r) (n : Nat) : a.grownBy (w.drewN n) r := ⟨h.os, h.tape, h.output, h.size, h.block⟩

theorem rfa_step {w wr : World} {i : Nat} (h : RfA w i wr) (hi : i < 8) : RfA w (i + 1) (wr.setCell ⟨w.heap.size + 1, i, none⟩ (.int .u32 (val (at32 iv i)))) := by
  obtain ⟨h1, h2, h3, h4⟩ := h
  refine ⟨h1.other (by omega) _, ?_, h3.setCell (by show w.heap.size ≤ w.heap.size + 1; omega) _, by rw [World.size_setCell]; exact h4⟩
  have := h2.set i (.int .u32 (val (at32 iv i)))
  rwa [laidW_set iv 8 i rfl hi] at this
theorem rfb_step {w wr : World} {i : Nat} (h : RfB w i wr) (hi : i < 64) : RfB w (i + 1) (wr.setCell ⟨w.heap.size + 2, i, none⟩ (.int .u32 (val (at32 kTab i)))) := by
  obtain ⟨h1, h2, h3, h4, h5⟩ := h
  refine ⟨h1.other (by omega) _, h2.other (by omega) _, ?_, h4.setCell (by show w.heap.size ≤ w.heap.size + 2; omega) _, by rw [World.size_setCell]; exact h5⟩
  have := h3.set i (.int .u32 (val (at32 kTab i)))
  rwa [laidW_set kTab 64 i rfl hi] at this
theorem rfa_cell {w wr : World} {i : Nat} (h : RfA w i wr) (hi : i < 8) : (∃ u, wr.cell? ⟨w.heap.size + 1, i, none⟩ = some u) ∧ wr.frozen? ⟨w.heap.size + 1, i, none⟩ = false :=
  ⟨⟨_, h.2.1.cell i _ (List.getElem?_eq_getElem (by rw [us_length, laidW_length iv 8 i rfl (by omega)]; exact hi))⟩, h.2.1.frozen i⟩
theorem rfb_cell {w wr : World} {i : Nat} (h : RfB w i wr) (hi : i < 64) : (∃ u, wr.cell? ⟨w.heap.size + 2, i, none⟩ = some u) ∧ wr.frozen? ⟨w.heap.size + 2, i, none⟩ = false :=
  ⟨⟨_, h.2.2.1.cell i _ (List.getElem?_eq_getElem (by rw [us_length, laidW_length kTab 64 i rfl (by omega)]; exact hi))⟩, h.2.2.1.frozen i⟩

theorem hgoalR {X Y : World} {P : Program} {C : Code} {a : Act} {Q : Exit → Act → World → Prop} (e : X = Y) (h : Code.wp P C Q a Y) : Code.wp P C Q a X := e ▸ h

set_option maxHeartbeats 4000000 in
set_option maxRecDepth 16000 in
theorem rsum_any (b : List UInt8) (a : Option Addr) (n c : Nat) (w : World) (hl : b.length = n) (hn : n ≤ 140737488352000) (hr : Rd w w.heap.size a (bs b)) :
    Calls Tryd.prog 29 #[.slice a n c] w fun e w' => e = .returned (.agg (bs (shaL b)).toArray) ∧ Below w.heap.size w w' := by
  have HL := Lib.hid hl
  have HN := Lib.hid hn
  have HR := Lib.hid hr
  clear hl hn hr
  go_enter Tryd.func29, Tryd.ntmps29
  go_upto_region 3 with (fail)
  have hA : RfA w 0 ((w.alloc (.cells (bs (List.replicate 32 0)).toArray 24)).alloc (.cells (us (List.replicate 8 0)).toArray 54)) := by
    refine ⟨(Blk.new w _ _).alloc _, ?_, ((Below.refl _ _).alloc (Nat.le_refl _) _).alloc (by rw [World.size_alloc]; omega) _, by rw [World.size_alloc, World.size_alloc]⟩
    have h := Blk.new (w.alloc (.cells (bs (List.replicate 32 0)).toArray 24)) 54 (us (List.replicate 8 0))
    rw [World.size_alloc] at h
    exact h
  generalize hw1 : ((w.alloc (.cells (bs (List.replicate 32 0)).toArray 24)).alloc (.cells (us (List.replicate 8 0)).toArray 54)) = w1 at hA
  refine hgoalR hw1 ?_
  clear hw1
  have HA := Lib.hid hA
  clear hA
  go_loopw [4] (fun vi wr => ∃ i : Nat, i ≤ 8 ∧ vi = .int .i64 (i : Int) ∧ RfA w i wr) (fun vi _ => 8 - (intOf vi).toNat)
  case atStart => exact ⟨0, by omega, rfl, HA.out⟩
  case round =>
    clear HA
    obtain ⟨i, hi, rfl, hrel⟩ := hrel
    by_cases hi8 : i < 8
    · obtain ⟨⟨u, hu⟩, hfr⟩ := rfa_cell hrel hi8
      have hiI : (i : Int) < 8 := by omega
      have hi0 : (0 : Int) ≤ (i : Int) := Int.natCast_nonneg i
      have HREL := Lib.hid hrel
      clear hrel
      go_wp2_with fail
      refine (num_sq i hi8 _).mono ?_
      rintro e w2 ⟨rfl, rfl⟩
      go_wp2_with fail
      all_goals go_roundw
      all_goals first
        | (case measure => simp [intOf]; omega)
        | exact ⟨i + 1, by omega, by go_num, rfa_step HREL.out hi8⟩
    · have hie : i = 8 := by omega
      subst hie
      have hB : RfB w 0 (wr.alloc (.cells (us (List.replicate 64 0)).toArray 59)) := by
        obtain ⟨h1, h2, h3, h4⟩ := hrel
        rw [laidW_all iv 8 rfl] at h2
        refine ⟨h1.alloc _, h2.alloc _, ?_, h3.alloc (by omega) _, by rw [World.size_alloc]; omega⟩
        have h := Blk.new wr 59 (us (List.replicate 64 0))
        rw [h4] at h
        exact h
      have hs4 := hrel.2.2.2
      clear hrel
      go_upto_region 8 with (fail)
      generalize hw2 : (wr.alloc (.cells (us (List.replicate 64 0)).toArray 59)) = w2 at hB
      refine hgoalR hw2 ?_
      clear hw2 hs4
      have HB := Lib.hid hB
      clear hB
      go_loopw [6] (fun vi wr => RfBr w vi wr) (fun vi _ => 64 - (intOf vi).toNat)
      case atStart => exact ⟨0, by omega, rfl, HB.out⟩
      case round =>
        clear HB
        obtain ⟨i, hi, rfl, hrel⟩ := hrel
        rename World => wq
        by_cases hi64 : i < 64
        · obtain ⟨⟨u, hu⟩, hfr⟩ := rfb_cell hrel hi64
          have hiI : (i : Int) < 64 := by omega
          have hi0 : (0 : Int) ≤ (i : Int) := Int.natCast_nonneg i
          have HREL := Lib.hid hrel
          have HNU := Lib.hid (num_cu i hi64 wq)
          clear hrel
          go_wp2_with fail
          refine HNU.out.mono ?_
          rintro e w2 ⟨rfl, rfl⟩
          go_wp2_with fail
          all_goals go_roundw
          all_goals first
            | (case measure => simp [intOf]; omega)
            | (have hh : RfBr w (.int .i64 ((i : Int) + 1)) (wq.setCell ⟨w.heap.size + 2, i, none⟩ (.int .u32 (val (at32 kTab i)))) := ⟨i + 1, by omega, by go_num, rfb_step HREL.out hi64⟩
               first | exact hh | ((repeat apply Exists.intro); exact ⟨hh, rfl⟩))
        · have hie : i = 64 := by omega
          subst hie
          obtain ⟨h1, h2, h3, h4, h5⟩ := hrel
          rw [laidW_all kTab 64 rfl] at h3
          have HP := Lib.hid (padded_any b a n c wq HL.out HN.out ((HR.out.below h4).more h4.size))
          have H1 := Lib.hid h1
          have H2 := Lib.hid h2
          have H3 := Lib.hid h3
          have H4 := Lib.hid h4
          have H5 := Lib.hid h5
          clear h1 h2 h3 h4 h5
          go_wp2_with fail
          refine HP.out.mono ?_
          rintro e w3 ⟨ap, np, cp, rfl, hown, hb3⟩
          have hpl := OwnB.len hown
          have hp64 := shaPad_mod b
          have hpn : (shaPad b).length ≤ 140737488352500 := by
            rw [shaPad, List.length_append, padTail_length]
            have h1 := HL.out
            have h2 := HN.out
            have h3 := padZ_lt b.length
            omega
          obtain ⟨P, hP⟩ : ∃ P, shaPad b = P := ⟨_, rfl⟩
          rw [hP] at hown hpl hp64 hpn
          have HPP := Lib.hid hP
          have HPL := Lib.hid hpl
          have HP64 := Lib.hid hp64
          have HPN := Lib.hid hpn
          have hC : RfC w P (.slice ap np cp) 0 w3 := by
            have h5 := H5.out
            exact ⟨H1.out.below hb3, H2.out.below hb3, H3.out.below hb3, OwnG.base_mono hown (by omega), H4.out.trans (hb3.mono H4.out.size), by have := hb3.size; omega⟩
          have HC := Lib.hid hC
          clear hC hown hpl hb3 hP hp64 hpn H1 H2 H3 H4 H5 HP
          go_wp2_with fail
          go_loopw [8] (fun vi wr => RfCr w P (.slice ap np cp) vi wr) (fun vi _ => np - (intOf vi).toNat)
          case atStart => exact ⟨0, 0, rfl, Nat.zero_le _, rfl, HC.out⟩
          case round =>
            clear HC
            obtain ⟨m, A, hA, hAl, rfl, h1, h2, h3, h4, h5, h6⟩ := hrel
            rename World => w4
            have hA0 : (0 : Int) ≤ (A : Int) := Int.natCast_nonneg A
            have HA := Lib.hid hA
            have H1 := Lib.hid h1
            have H2 := Lib.hid h2
            have H3 := Lib.hid h3
            have H4 := Lib.hid h4
            have H5 := Lib.hid h5
            have H6 := Lib.hid h6
            by_cases hlt : A < np
            · obtain ⟨q, o, cq, hv, hq1, hq2, hcq, hcl⟩ := OwnG.form h4 (by rw [HPL.out]; omega)
              rw [HPL.out] at hv hcq
              injection hv with hv1 _ hv3
              subst hv1; subst hv3
              have hA64 : A + 64 ≤ np := by
                have h8 := HP64.out
                rw [HPL.out] at h8
                omega
              have hcp : cp ≤ 9223372036854775807 := by have := (OwnB.cap h4).2.1; unfold maxLen at this; omega
              have hwA : wrap64 ((A : Int) + 64) = (A : Int) + 64 := IntWalk.wrap64_in _ (by omega)
              have i1 : (A : Int) < (np : Int) := Int.ofNat_lt.2 hlt
              have i2 : (0 : Int) ≤ (A : Int) + 64 := by omega
              have i3 : (A : Int) + 64 ≤ (cp : Int) := by omega
              have i4 : (A : Int) ≤ (A : Int) + 64 := by omega
              have i5 : ((A : Int) + 64).toNat = A + 64 := by omega
              have hrw : Rd w4 w4.heap.size (some ⟨q, o + A, none⟩) (bs ((P.drop A).take 64)) := .inr ⟨q, o + A, rfl, hq2, fun j u hj => by
                rw [Nat.add_assoc]
                refine hcl (A + j) u ?_
                rw [bs_take, bs_drop, List.getElem?_take] at hj
                split at hj
                · rwa [List.getElem?_drop] at hj
                · cases hj⟩
              have hbl : ((P.drop A).take 64).length = 64 := by rw [List.length_take, List.length_drop, HPL.out]; omega
              have HW := Lib.hid (words_any ((P.drop A).take 64) (some ⟨q, o + A, none⟩) (cp - A) w4 hbl hrw)
              have HQ1 := Lib.hid hq1
              have HA64 := Lib.hid hA64
              clear h1 h2 h3 h4 h5 h6 hcl hA hAl hrw hbl hq1
              go_wp2_with fail
              refine HW.out.mono ?_
              rintro e w5 ⟨a9, c9, rfl, hown9, hb45⟩
              obtain ⟨S, hS⟩ : ∃ S, stB P m = S := ⟨_, rfl⟩
              have hSl : S.length = 8 := by rw [← hS]; exact stB_length _ _
              rw [hS] at H2
              obtain ⟨ws, hws⟩ : ∃ ws, sched ((P.drop A).take 64) 48 = ws := ⟨_, rfl⟩
              rw [hws] at hown9
              have hwl : ws.length = 64 := by rw [← hws, sched_length]
              have h2 := H2.out.below hb45
              have y0 := h2.cell 0 _ (us_get S 0 (by omega))
              have y1 := h2.cell 1 _ (us_get S 1 (by omega))
              have y2 := h2.cell 2 _ (us_get S 2 (by omega))
              have y3 := h2.cell 3 _ (us_get S 3 (by omega))
              have y4 := h2.cell 4 _ (us_get S 4 (by omega))
              have y5 := h2.cell 5 _ (us_get S 5 (by omega))
              have y6 := h2.cell 6 _ (us_get S 6 (by omega))
              have y7 := h2.cell 7 _ (us_get S 7 (by omega))
              have hz5 := hb45.size
              have h6 := H6.out
              have hb5 := H5.out.trans (hb45.mono H5.out.size)
              have K1 := Lib.hid (H1.out.below hb45)
              have K2 := Lib.hid h2
              have K3 := Lib.hid (H3.out.below hb45)
              have K4 : Hid (OwnB w5 (w.heap.size + 3) (.slice (some ⟨q, o, none⟩) np cp) P) := Lib.hid (OwnG.below H4.out hb45)
              have K5 := Lib.hid hb5
              have K6 : Hid (w.heap.size + 3 ≤ w4.heap.size ∧ w4.heap.size ≤ w5.heap.size) := Lib.hid ⟨h6, hz5⟩
              have KW := Lib.hid hown9
              have KX : Hid (Blk (w5.alloc (Obj.cells #[Value.int .u32 (val (at32 S 0)), Value.int .u32 (val (at32 S 1)), Value.int .u32 (val (at32 S 2)), Value.int .u32 (val (at32 S 3)), Value.int .u32 (val (at32 S 4)), Value.int .u32 (val (at32 S 5)), Value.int .u32 (val (at32 S 6)), Value.int .u32 (val (at32 S 7))] 54)) w5.heap.size 54 (us S)) := Lib.hid (by
                have h := Blk.new w5 54 (us S)
                have e : (us S).toArray = #[Value.int .u32 (val (at32 S 0)), Value.int .u32 (val (at32 S 1)), Value.int .u32 (val (at32 S 2)), Value.int .u32 (val (at32 S 3)), Value.int .u32 (val (at32 S 4)), Value.int .u32 (val (at32 S 5)), Value.int .u32 (val (at32 S 6)), Value.int .u32 (val (at32 S 7))] := by
                  have := congrArg (fun l => (us l).toArray) (eq8 S hSl)
                  exact this
                rw [e] at h
                exact h)
              have HS := Lib.hid hS
              have HSL := Lib.hid hSl
              have HWS := Lib.hid hws
              have HWL := Lib.hid hwl
              clear h2 hz5 h6 hb5 hown9 hb45 hS hSl hws hwl H1 H3 H4 H5 H6 HW i1 i2 i3 i4 i5 hwA
              go_upto_region 18 with (fail)
              clear y0 y1 y2 y3 y4 y5 y6 y7
              obtain ⟨w6, hw6⟩ : ∃ w6, w5.alloc (Obj.cells #[Value.int .u32 (val (at32 S 0)), Value.int .u32 (val (at32 S 1)), Value.int .u32 (val (at32 S 2)), Value.int .u32 (val (at32 S 3)), Value.int .u32 (val (at32 S 4)), Value.int .u32 (val (at32 S 5)), Value.int .u32 (val (at32 S 6)), Value.int .u32 (val (at32 S 7))] 54) = w6 := ⟨_, rfl⟩
              rw [hw6] at KX
              refine hgoalR hw6 ?_
              have hb56 : Below w5.heap.size w5 w6 := by rw [← hw6]; exact (Below.refl _ _).alloc (Nat.le_refl _) _
              have hs6 : w6.heap.size = w5.heap.size + 1 := by rw [← hw6]; exact World.size_alloc _ _
              have J1 := Lib.hid (K1.out.below hb56)
              have J2 := Lib.hid (K2.out.below hb56)
              have J3 := Lib.hid (K3.out.below hb56)
              have J4 : Hid (OwnB w6 (w.heap.size + 3) (.slice (some ⟨q, o, none⟩) np cp) P) := Lib.hid (OwnG.below K4.out hb56)
              have J5 := Lib.hid (K5.out.trans (hb56.mono K5.out.size))
              have JW : Hid (OwnW w6 w4.heap.size (.slice a9 64 c9) 64 ws) := Lib.hid (OwnG.below KW.out hb56)
              have J6 : Hid (w.heap.size + 3 ≤ w4.heap.size ∧ w4.heap.size ≤ w5.heap.size ∧ w6.heap.size = w5.heap.size + 1 ∧ q < w4.heap.size) := Lib.hid ⟨K6.out.1, K6.out.2, hs6, hq2⟩
              have JV := Lib.hid (OwnG.lt KW.out)
              obtain ⟨gx, hgx⟩ : ∃ gx, w5.heap.size = gx := ⟨_, rfl⟩
              rw [hgx] at KX J6 JV ⊢
              clear hw6 hb56 hs6 hgx K1 K2 K3 K4 K5 K6 KW
              go_loopw [11] (fun vi wr => Rf3r ws S gx w6 vi wr) (fun vi _ => 64 - (intOf vi).toNat)
              case atStart => exact ⟨0, by omega, rfl, KX.out, World.grownBy.refl _ _⟩
              case round =>
                clear KX
                obtain ⟨t, ht, rfl, hx, hg⟩ := hrel
                rename World => w7
                obtain ⟨s, hs⟩ : ∃ s, rnds ws S t = s := ⟨_, rfl⟩
                have hsl : s.length = 8 := by rw [← hs]; exact rnds_length _ _ _ HSL.out
                rw [hs] at hx
                by_cases ht64 : t < 64
                · have h6 := J6.out
                  have hk := (J3.out.keep (hg.block _ (by omega) (fun e => by injection e with e; omega))).cell t _ (us_get kTab t (by show t < 64; exact ht64))
                  have hwo : OwnW w7 w4.heap.size (.slice a9 64 c9) 64 ws := OwnG.grown JW.out hg (.inr (fun e => by have := (JV.out _ e).2; omega))
                  obtain ⟨qw, ow, cw, hv, _, _, _, hcl⟩ := OwnG.form hwo (by omega)
                  injection hv with hv1 _ hv3
                  subst hv1; subst hv3
                  have hwc := hcl t _ (us_get ws t (by rw [HWL.out]; exact ht64))
                  have x0 := hx.cell 0 _ (us_get s 0 (by omega))
                  have x1 := hx.cell 1 _ (us_get s 1 (by omega))
                  have x2 := hx.cell 2 _ (us_get s 2 (by omega))
                  have x3 := hx.cell 3 _ (us_get s 3 (by omega))
                  have x4 := hx.cell 4 _ (us_get s 4 (by omega))
                  have x5 := hx.cell 5 _ (us_get s 5 (by omega))
                  have x6 := hx.cell 6 _ (us_get s 6 (by omega))
                  have x7 := hx.cell 7 _ (us_get s 7 (by omega))
                  have HR3 : Hid (rnds ws S (t + 1) = rnd s (at32 kTab t) (at32 ws t)) := Lib.hid (by rw [rnds, hs])
                  generalize at32 kTab t = kk at hk HR3
                  generalize at32 ws t = wk at hwc HR3
                  have HR4 : Hid (rnd s kk wk = [rone s kk wk + rtwo s, at32 s 0, at32 s 1, at32 s 2, at32 s 3 + rone s kk wk, at32 s 4, at32 s 5, at32 s 6]) := Lib.hid rfl
                  have HO1 : Hid (rone s kk wk = at32 s 7 + (rr (at32 s 4) 6 ^^^ rr (at32 s 4) 11 ^^^ rr (at32 s 4) 25) + (at32 s 4 &&& at32 s 5 ^^^ ~~~at32 s 4 &&& at32 s 6) + kk + wk) := Lib.hid rfl
                  have HO2 : Hid (rtwo s = (rr (at32 s 0) 2 ^^^ rr (at32 s 0) 13 ^^^ rr (at32 s 0) 22) + (at32 s 0 &&& at32 s 1 ^^^ at32 s 0 &&& at32 s 2 ^^^ at32 s 1 &&& at32 s 2)) := Lib.hid rfl
                  have HX := Lib.hid hx
                  have HG := Lib.hid hg
                  have HSl := Lib.hid hsl
                  have tI : (t : Int) < 64 := by omega
                  have t0 : (0 : Int) ≤ (t : Int) := Int.natCast_nonneg t
                  have r1 := val_add
                  have r2 := val_xor
                  have r3 := val_and
                  have r4 := val_not'
                  clear hs hsl hx hg hwo hcl h6
                  go_wp2_with fail
                  go_quiet ((first | with_reducible exact quiet_left0 (turn6 (at32 s 4) _) | with_reducible exact quiet_add_left (turn6 (at32 s 4) _) | with_reducible exact quiet_left0 (turn11 (at32 s 4) _) | with_reducible exact quiet_add_left (turn11 (at32 s 4) _) | with_reducible exact quiet_left0 (turn25 (at32 s 4) _) | with_reducible exact quiet_add_left (turn25 (at32 s 4) _)))
                  go_wp2_with fail
                  go_quiet ((first | with_reducible exact quiet_left0 (turn2 (at32 s 0) _) | with_reducible exact quiet_add_left (turn2 (at32 s 0) _) | with_reducible exact quiet_left0 (turn13 (at32 s 0) _) | with_reducible exact quiet_add_left (turn13 (at32 s 0) _) | with_reducible exact quiet_left0 (turn22 (at32 s 0) _) | with_reducible exact quiet_add_left (turn22 (at32 s 0) _)))
                  have hold : (us s).toArray.size = (#[Value.int .u32 (val (rone s kk wk + rtwo s)), Value.int .u32 (val (at32 s 0)), Value.int .u32 (val (at32 s 1)), Value.int .u32 (val (at32 s 2)), Value.int .u32 (val (at32 s 3 + rone s kk wk)), Value.int .u32 (val (at32 s 4)), Value.int .u32 (val (at32 s 5)), Value.int .u32 (val (at32 s 6))] : Array Value).size := by
                    show (us s).toArray.size = 8
                    rw [List.size_toArray, us_length, HSl.out]
                  have hinf8 : (Tryd.prog.info? 54).map (·.size) = some (#[Value.int .u32 (val (rone s kk wk + rtwo s)), Value.int .u32 (val (at32 s 0)), Value.int .u32 (val (at32 s 1)), Value.int .u32 (val (at32 s 2)), Value.int .u32 (val (at32 s 3 + rone s kk wk)), Value.int .u32 (val (at32 s 4)), Value.int .u32 (val (at32 s 5)), Value.int .u32 (val (at32 s 6))] : Array Value).size := by kernel_rfl
                  have hone8 : (#[Value.int .u32 (val (rone s kk wk + rtwo s)), Value.int .u32 (val (at32 s 0)), Value.int .u32 (val (at32 s 1)), Value.int .u32 (val (at32 s 2)), Value.int .u32 (val (at32 s 3 + rone s kk wk)), Value.int .u32 (val (at32 s 4)), Value.int .u32 (val (at32 s 5)), Value.int .u32 (val (at32 s 6))] : Array Value).all (·.oneCell') = true := by simp [Value.oneCell']
                  have hg8 : ∀ K, (w7.drewN K).heap[gx]? = some (.cells (us s).toArray 54 (0, 0)) := fun K => HX.out
                  go_wp2_with (refine wpList_store_row0 rfl 54 _ _ rfl rfl gx #[Value.int .u32 (val (rone s kk wk + rtwo s)), Value.int .u32 (val (at32 s 0)), Value.int .u32 (val (at32 s 1)), Value.int .u32 (val (at32 s 2)), Value.int .u32 (val (at32 s 3 + rone s kk wk)), Value.int .u32 (val (at32 s 4)), Value.int .u32 (val (at32 s 5)), Value.int .u32 (val (at32 s 6))] rfl rfl 54 (us s).toArray (hg8 _) hinf8 hold hone8 rfl ?_)
                  have hnew : ∀ K, Blk ((w7.drewN K).setRow gx #[Value.int .u32 (val (rone s kk wk + rtwo s)), Value.int .u32 (val (at32 s 0)), Value.int .u32 (val (at32 s 1)), Value.int .u32 (val (at32 s 2)), Value.int .u32 (val (at32 s 3 + rone s kk wk)), Value.int .u32 (val (at32 s 4)), Value.int .u32 (val (at32 s 5)), Value.int .u32 (val (at32 s 6))]) gx 54 (us (rnds ws S (t + 1))) := fun K => by
                    have h := setRow_heap (w7.drewN K) gx (us s).toArray #[Value.int .u32 (val (rone s kk wk + rtwo s)), Value.int .u32 (val (at32 s 0)), Value.int .u32 (val (at32 s 1)), Value.int .u32 (val (at32 s 2)), Value.int .u32 (val (at32 s 3 + rone s kk wk)), Value.int .u32 (val (at32 s 4)), Value.int .u32 (val (at32 s 5)), Value.int .u32 (val (at32 s 6))] 54 (0, 0) (hg8 K)
                    rw [HR3.out, HR4.out]
                    exact h
                  have hgr : ∀ K, w6.grownBy ((w7.drewN K).setRow gx #[Value.int .u32 (val (rone s kk wk + rtwo s)), Value.int .u32 (val (at32 s 0)), Value.int .u32 (val (at32 s 1)), Value.int .u32 (val (at32 s 2)), Value.int .u32 (val (at32 s 3 + rone s kk wk)), Value.int .u32 (val (at32 s 4)), Value.int .u32 (val (at32 s 5)), Value.int .u32 (val (at32 s 6))]) (some gx) := fun K => grownBy_setRow (grownBy_drewN2 HG.out K) _
                  have HNEW := Lib.hid hnew
                  have HGR := Lib.hid hgr
                  clear hnew hgr hg8 hold hinf8 hone8
                  go_wp2_with fail
                  all_goals go_roundw
                  all_goals first
                    | (case measure => simp [intOf]; omega)
                    | (have hh : ∀ K, Rf3r ws S gx w6 (.int .i64 ((t : Int) + 1)) ((w7.drewN K).setRow gx #[Value.int .u32 (val (rone s kk wk + rtwo s)), Value.int .u32 (val (at32 s 0)), Value.int .u32 (val (at32 s 1)), Value.int .u32 (val (at32 s 2)), Value.int .u32 (val (at32 s 3 + rone s kk wk)), Value.int .u32 (val (at32 s 4)), Value.int .u32 (val (at32 s 5)), Value.int .u32 (val (at32 s 6))]) := fun K => ⟨t + 1, by omega, by go_num, HNEW.out K, HGR.out K⟩
                       first | exact hh _ | ((repeat apply Exists.intro); exact ⟨hh _, rfl⟩))
                · have hte : t = 64 := by omega
                  subst hte
                  have h6 := J6.out
                  have M1 := Lib.hid (J1.out.keep (hg.block _ (by omega) (fun e => by injection e with e; omega)))
                  have M2 := Lib.hid (J2.out.keep (hg.block _ (by omega) (fun e => by injection e with e; omega)))
                  have M3 := Lib.hid (J3.out.keep (hg.block _ (by omega) (fun e => by injection e with e; omega)))
                  have M4 : Hid (OwnB w7 (w.heap.size + 3) (.slice (some ⟨q, o, none⟩) np cp) P) := Lib.hid (OwnG.grown J4.out hg (.inr (fun e => by have e : some q = some gx := e; injection e with e; omega)))
                  have M5 : Hid (Below w.heap.size w w7) := Lib.hid (J5.out.grown hg J5.out.size (fun z hz => by injection hz with hz; omega))
                  have M6 : Hid (w.heap.size + 3 ≤ gx ∧ gx < w7.heap.size) := Lib.hid ⟨by omega, hx.lt⟩
                  have MX := Lib.hid hx
                  have HCM : Hid (stB P (m + 1) = List.zipWith (· + ·) S s) := Lib.hid (by rw [stB, ← HA.out, HS.out, compress, HWS.out, hs])
                  have HSl := Lib.hid hsl
                  clear hs hsl hx hg h6 J1 J2 J3 J4 J5 JW J6 JV
                  go_wp2_with fail
                  go_loopw [16] (fun vi wr => Rf4r S s (w.heap.size + 1) gx w7 vi wr) (fun vi _ => 8 - (intOf vi).toNat)
                  case atStart => exact ⟨0, S, rfl, by omega, HSL.out, rfl, rfl, M2.out, MX.out, World.grownBy.refl _ _⟩
                  case round =>
                    obtain ⟨k, hs, rfl, hk8, hl, htk, hdr, hb1, hb2, hg⟩ := hrel
                    rename World => w8
                    by_cases hk : k < 8
                    · have y1 := hb1.cell k _ (us_get hs k (by omega))
                      have y2 := hb2.cell k _ (us_get s k (by rw [HSl.out]; exact hk))
                      have fz := hb1.frozen k
                      have h6 := M6.out
                      have hnes : (⟨w.heap.size + 1, k, none⟩ : Addr) ≠ ⟨gx, k, none⟩ := fun e => by injection e; omega
                      have kI : (k : Int) < 8 := by omega
                      have k0 : (0 : Int) ≤ (k : Int) := Int.natCast_nonneg k
                      have r1 := val_add
                      have HL8 := Lib.hid hl
                      have HTK := Lib.hid htk
                      have HDR := Lib.hid hdr
                      have HB1 := Lib.hid hb1
                      have HB2 := Lib.hid hb2
                      have HG := Lib.hid hg
                      clear hl htk hdr hb1 hb2 hg h6
                      go_wp2_with fail
                      go_region_law (fail)
                      all_goals go_wp2_with fail
                      all_goals go_roundw
                      all_goals first
                        | (case measure => simp [intOf]; omega)
                        | (have hh : Rf4r S s (w.heap.size + 1) gx w7 (.int .i64 ((k : Int) + 1)) ((w8.setCell ⟨w.heap.size + 1, k, none⟩ (.int .u32 (val (at32 hs k + at32 s k)))).drew) := by
                            obtain ⟨q1, q2⟩ := l4_step HSL.out HSl.out HL8.out hk HTK.out HDR.out
                            refine ⟨k + 1, hs.set k (at32 hs k + at32 s k), by go_num, by omega, by rw [List.length_set]; exact HL8.out, q1, q2, ?_, (HB2.out.other (by have := M6.out; omega) _).drew, grownBy_drew (grownBy_set HG.out _)⟩
                            rw [us_set]
                            exact (HB1.out.set k _).drew
                           first | exact hh | ((repeat apply Exists.intro); exact ⟨hh, rfl⟩))
                    · have hke : k = 8 := by omega
                      subst hke
                      have hfin : hs = stB P (m + 1) := by
                        rw [HCM.out]
                        rw [List.take_of_length_le (by omega), List.take_of_length_le (by rw [List.length_zipWith, HSL.out, HSl.out]; omega)] at htk
                        exact htk
                      have h6 := M6.out
                      have hcc : RfC w P (.slice (some ⟨q, o, none⟩) np cp) (m + 1) w8 := by
                        refine ⟨M1.out.keep (hg.block _ (by omega) (fun e => by injection e with e; omega)), by rw [← hfin]; exact hb1, M3.out.keep (hg.block _ (by omega) (fun e => by injection e with e; omega)), OwnG.grown M4.out hg (.inr (fun e => by have e : some q = some (w.heap.size + 1) := e; injection e with e; have := HQ1.out; omega)), M5.out.grown hg M5.out.size (fun z hz => by injection hz with hz; omega), by have := hg.size; omega⟩
                      have hrr : RfCr w P (.slice (some ⟨q, o, none⟩) np cp) (.int .i64 ((A : Int) + 64)) w8 := ⟨m + 1, A + 64, by have := HA.out; omega, by have := HA64.out; have := HPL.out; omega, by go_num, hcc⟩
                      have HRR := Lib.hid hrr
                      have hwA : wrap64 ((A : Int) + 64) = (A : Int) + 64 := IntWalk.wrap64_in _ (by have := HA64.out; omega)
                      clear hl htk hdr hb1 hb2 hg hfin h6 hcc hrr
                      go_wp2_with fail
                      all_goals go_roundw
                      all_goals first
                        | (case measure => simp [intOf]; have := HA64.out; omega)
                        | (first | exact HRR.out | ((repeat apply Exists.intro); exact ⟨HRR.out, rfl⟩))
            · have hAe : A = np := by rw [HPL.out] at hAl; omega
              have hso : stB P m = stOf P := by
                rw [stOf]
                congr 1
                have h1 := HPL.out
                omega
              obtain ⟨S, hS⟩ : ∃ S, stOf P = S := ⟨_, rfl⟩
              rw [hso, hS] at h2
              have hSl : S.length = 8 := by rw [← hS]; exact stB_length _ _
              obtain ⟨L6, hL6⟩ : ∃ L6, shaL b = L6 := ⟨_, rfl⟩
              have HLL : Hid (L6.length = 32) := Lib.hid (by rw [← hL6]; exact shaL_length b)
              have HLG : Hid (∀ i k, i < 8 → k < 4 → ∃ y : UInt8, L6[4 * i + k]? = some y ∧ (y.toNat : Int) = val (at32 S i) / 2 ^ (24 - 8 * k) % 256) := Lib.hid (by
                intro i k hi hk
                obtain ⟨y, hy, hv⟩ := word4_get (at32 S i) k hk
                exact ⟨y, by rw [← hL6, shaL, HPP.out, hS, flat4_get _ _ _ (by rw [hSl]; exact hi) hk]; exact hy, hv⟩)
              have HL6 := Lib.hid hL6
              have HSL := Lib.hid hSl
              have hsz4 := h6
              have hR : Rf6r w S L6 w4.heap.size (.int .i64 0) (w4.alloc (.cells (bs (List.replicate 32 0)).toArray 24)) := ⟨0, by omega, rfl, h2.alloc _, Blk.new _ _ _, h1.alloc _, h5.alloc (by omega) _⟩
              have HGT : Hid (w.heap.size + 3 ≤ w4.heap.size) := Lib.hid h6
              clear h1 h2 h3 h4 h5 h6 H1 H2 H3 H4 H5 H6 hso hS hL6 hSl hA hAl
              go_upto_region 31 with (fail)
              generalize hw5 : (w4.alloc (.cells (bs (List.replicate 32 0)).toArray 24)) = w5 at hR
              refine hgoalR hw5 ?_
              clear hw5
              have HR6 := Lib.hid hR
              clear hR
              obtain ⟨gt, hgt⟩ : ∃ gt, w4.heap.size = gt := ⟨_, rfl⟩
              rw [hgt] at HR6 HGT hsz4 ⊢
              clear hgt
              go_loopw [18] (fun vi wr => Rf6r w S L6 gt vi wr) (fun vi _ => 32 - (intOf vi).toNat)
              case atStart => exact HR6.out
              case round =>
                clear HR6
                obtain ⟨i, hi, rfl, h1, h2, h3, h4⟩ := hrel
                rename World => w6
                by_cases hi32 : i < 32
                · have hd : i / 4 < 8 := by omega
                  have hy := h1.cell (i / 4) _ (us_get S (i / 4) (by rw [HSL.out]; exact hd))
                  obtain ⟨u, hu⟩ := laidTo_at L6 HLL.out i hi32
                  have hce := h2.cell i _ hu
                  have hfr := h2.frozen i
                  have iI : (i : Int) < 32 := by omega
                  have i0 : (0 : Int) ≤ (i : Int) := Int.natCast_nonneg i
                  have H1 := Lib.hid h1
                  have H2 := Lib.hid h2
                  have H3 := Lib.hid h3
                  have H4 := Lib.hid h4
                  clear h1 h2 h3 h4 hu
                  go_wp2_with fail
                  all_goals
                    refine ⟨⟨i + 1, by omega, by go_num, H1.out.other (by omega) _, ?_, H3.out.other (by omega) _, H4.out.setCell (by show w.heap.size ≤ gt; omega) _⟩, by simp [intOf]; omega⟩
                    obtain ⟨y8, hy8, hv8⟩ := HLG.out (i / 4) (i % 4) hd (by omega)
                    rw [show 4 * (i / 4) + i % 4 = i by omega] at hy8
                    have h := H2.out.set i (.int .u8 (val (at32 S (i / 4)) / 2 ^ (24 - 8 * (i % 4)) % 256))
                    rw [laidTo_set L6 HLL.out i hi32 y8 _ hy8 hv8] at h
                    exact h
                · have hie : i = 32 := by omega
                  subst hie
                  rw [laidTo_all L6 HLL.out] at h2
                  obtain ⟨X6, hX6⟩ : ∃ X6, (bs L6).toArray = X6 := ⟨_, rfl⟩
                  obtain ⟨X, Z, hX, hinf, hone, hzz, hzs, hg4, hb5⟩ := store_digest HLL.out (by simp) h3 (Nat.le_refl _) h4
                  have g1 : w6.heap[gt]? = some (.cells X 24 (0, 0)) := by rw [← hX]; exact h2
                  have HX := Lib.hid hX
                  have HB5 := Lib.hid hb5
                  clear h1 h2 h3 h4 hX6 hX hb5
                  go_wp2_with (first
                    | refine wpList_load_row rfl 24 _ rfl gt rfl 24 X (0, 0) _ g1 Tryd.underlying24 rfl hinf ?_
                    | refine wpList_store_row rfl 24 _ _ rfl w.heap.size X rfl rfl 24 Z hzz hinf hzs hone ?_)
                  refine bodyPost_ret (results_cell_row rfl _ _ w.heap.size 24 X (0, 0) _ rfl hg4 Tryd.underlying24 rfl hinf) rfl ?_
                  exact ⟨by rw [← HX.out, HL6.out], HB5.out⟩
end Go.Proofs.YtnfchojekcoplaaDoor
