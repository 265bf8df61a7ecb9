/- the document's handshake: Feed (has holes) -/
import Derived.Test.YtnpcpbjoonjaoaaSr6
namespace Go.Proofs.Ytnpcpbjoonjaoaa
set_option linter.unusedVariables false
set_option linter.unusedSimpArgs false
open Go.RowKit

def RFeedPost (g : Nat) (r : Sk × List UInt8 × Nat) (w : World) (e : Ending) (w' : World) : Prop :=
  ∃ a m c, e = .returned (.tuple #[.slice a m c, .int .i64 (r.2.2 : Int)]) ∧ OwnB w' w.heap.size (.slice a m c) r.2.1 ∧ RkAt w' g r.1 ∧ w.grownBy w' (some g)
/-- What was taken so far. -/
def RFeedRel (g : Nat) (s0 : Sk) (b : List UInt8) (w : World) (v vi : Value) (wr : World) : Prop :=
  ∃ (s1 : Sk) (o : List UInt8) (u : Nat), u ≤ b.length ∧ vi = .int .i64 (u : Int) ∧ OwnB wr w.heap.size v o ∧ o.length ≤ 7000 * u ∧ RkAt wr g s1 ∧ w.grownBy wr (some g) ∧ s1.name = s0.name ∧ s1.sectors = s0.sectors ∧ (s1.phase = 0 → s1.bare = false) ∧
    feedR s0 b = ((feedR s1 (b.drop u)).1, o ++ (feedR s1 (b.drop u)).2.1, u + (feedR s1 (b.drop u)).2.2)

/-- One round of the document's. -/
theorem one_opt (s : Sk) (b : List UInt8) (h0 : s.phase ≠ 0) (h1 : (optR b).2.2.2 = 0) (h2 : (optR b).2.2.1 ≠ 0) :
    oneR s b = ((optS s (optR b).1 (optR b).2.1).1, (optS s (optR b).1 (optR b).2.1).2, (optR b).2.2.1) := by
  rw [oneR, if_neg h0, if_neg (by simp [h1]), if_neg h2, optS]
  split <;> rfl
theorem four_bytes (x0 x1 x2 x3 : UInt8) : numOf [x0, x1, x2, x3] = ((x0.toNat * 256 + x1.toNat) * 256 + x2.toNat) * 256 + x3.toNat := by
  simp [numOf]
theorem four_is (x0 x1 x2 x3 : UInt8) (k : Nat) (hk : k < 256) : numOf [x0, x1, x2, x3] = k ↔ x0.toNat = 0 ∧ x1.toNat = 0 ∧ x2.toNat = 0 ∧ x3.toNat = k := by
  rw [four_bytes]
  have h0 := x0.toNat_lt
  have h1 := x1.toNat_lt
  have h2 := x2.toNat_lt
  have h3 := x3.toNat_lt
  omega

theorem optR_dlen (b : List UInt8) : (optR b).2.1.length ≤ b.length := by
  rcases opt_cases b with ho | ho | ⟨_, h16, _, h2, ho⟩
  · rw [ho]; simp
  · rw [ho]; simp
  · rw [ho]; simp only [List.length_take, List.length_drop]; omega
theorem ansR_phase (s : Sk) (ty : Nat) (d : List UInt8) (h : s.phase ≠ 0) : (ansR s ty d).1.phase ≠ 0 := by
  rw [ansR]
  split
  · simp
  · split
    · exact h
    · split
      · split <;> simp [h]
      · split
        · split
          · exact h
          · split <;> simp [h]
        · exact h
theorem optS_phase (s : Sk) (ty : Nat) (d : List UInt8) (h : s.phase ≠ 0) : (optS s ty d).1.phase ≠ 0 := by
  rw [optS]
  split
  · have := (expName_same s d).2.2.2.2.2
    omega
  · exact ansR_phase s ty d h

set_option maxRecDepth 20000 in
set_option maxHeartbeats 4000000 in
theorem rfeed_any (g : Nat) (s : Sk) (a : Option Addr) (n c : Nat) (b : List UInt8) (w : World) (hb : RkAt w g s) (hsec : s.sectors ≤ 8192) (hnm : s.name.length ≤ 1000) (hdl : b.length = n) (hc : n ≤ c) (hc2 : c ≤ 9223372036854775807) (hr : Rd w w.heap.size a (bs b)) (hap : ApartB g a b) (hlen : n ≤ 1000000) (hbare : s.phase = 0 → s.bare = false) :
    Calls Try.prog 39 #[.pointer (some ⟨g, 0, none⟩), .slice a n c] w (RFeedPost g (feedR s b) w) := by
  have HB := Lib.hid hb
  have HS := Lib.hid hsec
  have HNM := Lib.hid hnm
  have HR := Lib.hid hr
  have HDL := Lib.hid hdl
  have HAP := Lib.hid hap
  have HBA := Lib.hid hbare
  clear hb hsec hnm hr hap hbare
  go_enter Try.func39, Try.ntmps39
  go_wp2_with fail
  go_loopw [6, 7, 8, 9, 10, 11] (fun v vi v8 v9 v10 v11 wr => RFeedRel g s b w v vi wr) (fun _ vi _ _ _ _ _ => n - (intOf vi).toNat)
  case atStart => exact ⟨s, [], 0, Nat.zero_le _, rfl, OwnG.nil _ _ _ _, by simp, HB.out, World.grownBy.refl _ _, rfl, rfl, HBA.out, by simp⟩
  case round =>
    obtain ⟨s1, o, u, hu, rfl, hown, hol, hk, hg, hn1, hn2, hba, hfeed⟩ := hrel
    obtain ⟨av, cv, rfl, hcv⟩ := OwnG.shape hown
    have k3 : wr.cell? ⟨g, 3, none⟩ = some (.int .i64 (s1.phase : Int)) := hk.cell 3 _ rfl
    have f3 := Blk.frozen hk 3
    have HO := Lib.hid hown
    have HK := Lib.hid hk
    have HG := Lib.hid hg
    have HN1 := Lib.hid hn1
    have HN2 := Lib.hid hn2
    have HF := Lib.hid hfeed
    have HOL := Lib.hid hol
    have HBA1 := Lib.hid hba
    have hnm1 : s1.name.length ≤ 1000 := by rw [hn1]; exact HNM.out
    have HNM1 := Lib.hid hnm1
    have heq := feedR_eq s1 (b.drop u) hnm1
    clear hown hcv hk hg hn1 hn2 hfeed hol hnm1 hba
    by_cases hp : s1.phase < 2
    · have hpI : (s1.phase : Int) < 2 := by omega
      rw [if_pos hp] at heq
      have HEQ := Lib.hid heq
      have u0 : (0 : Int) ≤ (u : Int) := Int.natCast_nonneg u
      have uc : (u : Int) ≤ (n : Int) := by omega
      obtain ⟨ad, had⟩ : ∃ ad, (if c = u then a else Option.map (fun x => x.add u) a) = ad := ⟨_, rfl⟩
      have hrd : Rd wr wr.heap.size ad (bs (b.drop u)) := by
        have h := (rd_grown HR.out HAP.out HG.out).cut (k := u) (cap := c) (by rw [bs_length]; omega)
        rw [had, ← bs_drop] at h
        exact h
      have HRD := Lib.hid hrd
      have hbl : (b.drop u).length = n - u := by rw [List.length_drop]; omega
      have HBL := Lib.hid hbl
      clear heq hrd hbl
      by_cases hp0 : s1.phase = 0
      · have hp0I : (s1.phase : Int) = 0 := by omega
        by_cases h4 : n - u < 4
        · have h4I : ((n - u : Nat) : Int) < 4 := by omega
          have h1 : oneR s1 (b.drop u) = (s1, [], 0) := by rw [oneR, if_pos hp0, if_pos (by rw [HBL.out]; exact h4)]
          have HFE : Hid (feedR s b = (s1, o, u)) := Lib.hid (by rw [HF.out, HEQ.out, h1, if_pos rfl]; simp)
          clear h1 hp0 h4 hp
          go_wp2_with fail
          refine bodyPost_ret (v := .tuple #[.slice av o.length cv, .int .i64 (u : Int)]) (by simp [results, Try.results39, go_sem]) rfl ?_
          rw [HFE.out]
          exact ⟨av, _, cv, rfl, HO.out, HK.out, HG.out⟩
        · have h4I : ¬ ((n - u : Nat) : Int) < 4 := by omega
          obtain ⟨x0, x1, x2, x3, r4, hx⟩ : ∃ x0 x1 x2 x3 r4, b.drop u = x0 :: x1 :: x2 :: x3 :: r4 := by
            have h := HBL.out
            match hm : b.drop u with
            | [] => rw [hm] at h; simp at h; omega
            | [_] => rw [hm] at h; simp at h; omega
            | [_, _] => rw [hm] at h; simp at h; omega
            | [_, _, _] => rw [hm] at h; simp at h; omega
            | x0 :: x1 :: x2 :: x3 :: r4 => exact ⟨x0, x1, x2, x3, r4, rfl⟩
          have hne : ApartB g ad (b.drop u) := by
            have h := apart_cut (u := u) (c := c) (j := n) HAP.out
            rw [had, List.take_of_length_le (by rw [HBL.out]; omega)] at h
            exact h
          rcases HRD.out with h | ⟨bq, off, hadq, hlt, hcl⟩
          · exact absurd h (by rw [hx]; simp [bs])
          have hbq : bq ≠ g := by
            rcases hne with h | h
            · rw [hx] at h; cases h
            · exact h _ hadq
          have c0 : (wr.setCell ⟨g, 3, none⟩ (.int .i64 3)).cell? ⟨bq, off, none⟩ = some (.int .u8 (x0.toNat : Int)) := by
            have h := hcl 0 (.int .u8 (x0.toNat : Int)) (by rw [hx]; rfl)
            exact (World.cell?_of_block ((grownBy_setI _ : wr.grownBy (wr.setCell ⟨g, 3, none⟩ (.int .i64 3)) (some g)).block bq hlt (fun e => by injection e with e; exact hbq e))).trans h
          have c1 : (wr.setCell ⟨g, 3, none⟩ (.int .i64 3)).cell? ⟨bq, off + 1, none⟩ = some (.int .u8 (x1.toNat : Int)) := by
            have h := hcl 1 (.int .u8 (x1.toNat : Int)) (by rw [hx]; rfl)
            exact (World.cell?_of_block ((grownBy_setI _ : wr.grownBy (wr.setCell ⟨g, 3, none⟩ (.int .i64 3)) (some g)).block bq hlt (fun e => by injection e with e; exact hbq e))).trans h
          have c2 : (wr.setCell ⟨g, 3, none⟩ (.int .i64 3)).cell? ⟨bq, off + 2, none⟩ = some (.int .u8 (x2.toNat : Int)) := by
            have h := hcl 2 (.int .u8 (x2.toNat : Int)) (by rw [hx]; rfl)
            exact (World.cell?_of_block ((grownBy_setI _ : wr.grownBy (wr.setCell ⟨g, 3, none⟩ (.int .i64 3)) (some g)).block bq hlt (fun e => by injection e with e; exact hbq e))).trans h
          have c3 : (wr.setCell ⟨g, 3, none⟩ (.int .i64 3)).cell? ⟨bq, off + 3, none⟩ = some (.int .u8 (x3.toNat : Int)) := by
            have h := hcl 3 (.int .u8 (x3.toNat : Int)) (by rw [hx]; rfl)
            exact (World.cell?_of_block ((grownBy_setI _ : wr.grownBy (wr.setCell ⟨g, 3, none⟩ (.int .i64 3)) (some g)).block bq hlt (fun e => by injection e with e; exact hbq e))).trans h
          obtain ⟨k, hk⟩ : ∃ k, numOf [x0, x1, x2, x3] = k := ⟨_, rfl⟩
          have ht4 : (b.drop u).take 4 = [x0, x1, x2, x3] := by rw [hx]; rfl
          have h1 : oneR s1 (b.drop u) = ({ s1 with phase := if k = 1 ∨ k = 3 then 1 else 3, bare := k == 3 }, [], 4) := by rw [oneR, if_pos hp0, if_neg (by rw [HBL.out]; exact h4), ht4, hk]
          have H1 := Lib.hid h1
          have HP0 := Lib.hid hp0
          have HKK := Lib.hid hk
          have HBQ := Lib.hid hbq
          subst hadq
          clear h1 ht4 hcl hne hx hk hbq hp0 hp
          have hk2 : RkAt (wr.setCell ⟨g, 3, none⟩ (.int .i64 3)) g { s1 with phase := 3 } := Blk.set HK.out 3 (.int .i64 3)
          have hg2 : wr.grownBy (wr.setCell ⟨g, 3, none⟩ (.int .i64 3)) (some g) := grownBy_setI _
          go_upto_region 8 with (fail)
          generalize wr.setCell ⟨g, 3, none⟩ (.int .i64 3) = w2 at c0 c1 c2 c3 hk2 hg2 ⊢
          have HK2 := Lib.hid hk2
          have HG2 := Lib.hid hg2
          have HC3 := Lib.hid c3
          have y0 := x0.toNat_lt
          have y1 := x1.toNat_lt
          have y2 := x2.toNat_lt
          have y3 := x3.toNat_lt
          obtain ⟨z0, hz0⟩ : ∃ z, x0.toNat = z := ⟨_, rfl⟩
          obtain ⟨z1, hz1⟩ : ∃ z, x1.toNat = z := ⟨_, rfl⟩
          obtain ⟨z2, hz2⟩ : ∃ z, x2.toNat = z := ⟨_, rfl⟩
          obtain ⟨z3, hz3⟩ : ∃ z, x3.toNat = z := ⟨_, rfl⟩
          have hkz : k = ((z0 * 256 + z1) * 256 + z2) * 256 + z3 := by rw [← HKK.out, four_bytes, hz0, hz1, hz2, hz3]
          rw [hz0] at c0 y0
          rw [hz1] at c1 y1
          rw [hz2] at c2 y2
          rw [hz3] at c3 y3
          have HKZ := Lib.hid hkz
          clear hkz hz0 hz1 hz2 hz3 hk2 hg2 k3 f3
          have hmp : Option.map (fun x => x.add u) a = some ⟨bq, off, none⟩ := by
            rw [if_neg (by omega)] at had
            exact had
          rw [hmp]
          obtain ⟨len, hlen4⟩ : ∃ len, n - u = len := ⟨_, rfl⟩
          rw [hlen4]
          have g0 : (0 : Int) < (len : Int) := by omega
          have g1 : (1 : Int) < (len : Int) := by omega
          have g2 : (2 : Int) < (len : Int) := by omega
          have g3 : (3 : Int) < (len : Int) := by omega
          have n0 : 0 < len := by omega
          go_cut [58] (fun v wn => v = .bool (decide (k = 1 ∨ k = 3)) ∧ wn = w2)
          case first =>
            by_cases q0 : z0 = 0
            · by_cases q1 : z1 = 0
              · by_cases q2 : z2 = 0
                · by_cases q3 : z3 = 1
                  · have e : decide (k = 1 ∨ k = 3) = true := decide_eq_true (by have := HKZ.out; omega)
                    have b0 : ((z0 : Int) == 0) = true := beq_iff_eq.2 (by omega)
                    subst q0 q1 q2 q3
                    go_wp2_with fail
                    go_meet
                    exact ⟨by rw [e], rfl⟩
                  · by_cases q4 : z3 = 3
                    · have e : decide (k = 1 ∨ k = 3) = true := decide_eq_true (by have := HKZ.out; omega)
                      subst q0 q1 q2 q4
                      go_wp2_with fail
                      go_meet
                      exact ⟨by rw [e], rfl⟩
                    · have e : decide (k = 1 ∨ k = 3) = false := decide_eq_false (by have := HKZ.out; omega)
                      have b1 : ((z3 : Int) == 1) = false := beq_eq_false_iff_ne.2 (by omega)
                      have b2 : ((z3 : Int) == 3) = false := beq_eq_false_iff_ne.2 (by omega)
                      subst q0 q1 q2
                      go_wp2_with fail
                      go_meet
                      exact ⟨by rw [e], rfl⟩
                · have e : decide (k = 1 ∨ k = 3) = false := decide_eq_false (by have := HKZ.out; omega)
                  have b1 : ((z2 : Int) == 0) = false := beq_eq_false_iff_ne.2 (by omega)
                  subst q0 q1
                  go_wp2_with fail
                  go_meet
                  exact ⟨by rw [e], rfl⟩
              · have e : decide (k = 1 ∨ k = 3) = false := decide_eq_false (by have := HKZ.out; omega)
                have b1 : ((z1 : Int) == 0) = false := beq_eq_false_iff_ne.2 (by omega)
                subst q0
                go_wp2_with fail
                go_meet
                exact ⟨by rw [e], rfl⟩
            · have e : decide (k = 1 ∨ k = 3) = false := decide_eq_false (by have := HKZ.out; omega)
              have b1 : ((z0 : Int) == 0) = false := beq_eq_false_iff_ne.2 (by omega)
              go_wp2_with fail
              go_meet
              exact ⟨by rw [e], rfl⟩
          case' rest =>
            obtain ⟨rfl, hw⟩ := hcut
            subst hw
            rename World => w2
          obtain ⟨bb, hbb⟩ : ∃ bb, decide (k = 1 ∨ k = 3) = bb := ⟨_, rfl⟩
          rw [hbb]
          have hul : u + 4 ≤ b.length := by omega
          cases bb with
          | false =>
            have hno := of_decide_eq_false hbb
            have hst : ({ s1 with phase := 3 } : Sk) = { s1 with phase := if k = 1 ∨ k = 3 then 1 else 3, bare := k == 3 } := by
              have hb3 : (k == 3) = false := beq_eq_false_iff_ne.2 (fun e => hno (.inr e))
              rw [if_neg hno, hb3, ← HBA1.out (by first | assumption | exact HP0.out)]
            have hfin : RFeedRel g s b w (.slice av o.length cv) (.int .i64 ((u : Int) + 4)) w2 := by
              refine ⟨{ s1 with phase := 3 }, o, u + 4, hul, by go_num, OwnG.grown HO.out HG2.out (by
                cases hq : (Value.slice av o.length cv).ownBlock with
                | none => exact .inl rfl
                | some z => exact .inr (fun e => by injection e with e; have := (OwnG.lt HO.out z hq).1; have := Blk.lt HB.out; omega)), by have := HOL.out; omega, HK2.out, grown_trans HG.out HG2.out, HN1.out, HN2.out, (fun h => by cases h), ?_⟩
              rw [HF.out, HEQ.out, H1.out, hst]
              simp [List.drop_drop, Nat.add_assoc]
            have HFIN := Lib.hid hfin
            have hmeas : n - (u + 4) < n - u := by omega
            clear hfin hst hno
            go_wp2_with fail
            exact ⟨HFIN.out, by simp only [intOf]; omega⟩
          | true =>
            have hyes := of_decide_eq_true hbb
            have q3 : z3 = k := by have := HKZ.out; omega
            obtain ⟨br, hbr⟩ : ∃ br, (k == 3) = br := ⟨_, rfl⟩
            have hbrI : ((z3 : Int) == 3) = br := by
              rw [← hbr, q3]
              rcases hyes with rfl | rfl <;> rfl
            have hst : ({ s1 with phase := 1, bare := br } : Sk) = { s1 with phase := if k = 1 ∨ k = 3 then 1 else 3, bare := k == 3 } := by
              rw [if_pos hyes, hbr]
            have k3 : w2.cell? ⟨g, 3, none⟩ = some (.int .i64 3) := HK2.out.cell 3 _ rfl
            have f3 := Blk.frozen HK2.out 3
            have hk4 : RkAt (w2.setCell ⟨g, 3, none⟩ (.int .i64 1)) g { s1 with phase := 1 } := Blk.set HK2.out 3 (.int .i64 1)
            have hg4 : w2.grownBy (w2.setCell ⟨g, 3, none⟩ (.int .i64 1)) (some g) := grownBy_setI _
            have k5 : (w2.setCell ⟨g, 3, none⟩ (.int .i64 1)).cell? ⟨g, 5, none⟩ = some (.bool s1.bare) := hk4.cell 5 _ rfl
            have f5 := Blk.frozen hk4 5
            have hbq2 : bq < w2.heap.size := Nat.lt_of_lt_of_le hlt HG2.out.size
            have d3 : (w2.setCell ⟨g, 3, none⟩ (.int .i64 1)).cell? ⟨bq, off + 3, none⟩ = some (.int .u8 (z3 : Int)) := (World.cell?_of_block (hg4.block bq hbq2 (fun e => by injection e with e; exact HBQ.out e))).trans c3
            have HK4 := Lib.hid hk4
            have HG4 := Lib.hid (grown_trans (grown_trans HG.out HG2.out) hg4)
            have HGR := Lib.hid (grown_trans HG2.out hg4)
            have HST := Lib.hid hst
            clear hk4 hg4 hyes q3 hbr hst
            go_upto_region 10 with (fail)
            generalize w2.setCell ⟨g, 3, none⟩ (.int .i64 1) = w4 at k5 f5 d3 HK4 HG4 HGR ⊢
            have hg5 : w4.grownBy (w4.setCell ⟨g, 5, none⟩ (.bool br)) (some g) := grownBy_setI _
            have hG := grown_trans HG4.out hg5
            have hk5 : RkAt (w4.setCell ⟨g, 5, none⟩ (.bool br)) g { s1 with phase := 1, bare := br } := Blk.set HK4.out 5 (.bool br)
            have hsz : wr.grownBy (w4.setCell ⟨g, 5, none⟩ (.bool br)) (some g) := grown_trans HGR.out hg5
            have hfin : RFeedRel g s b w (.slice av o.length cv) (.int .i64 ((u : Int) + 4)) (w4.setCell ⟨g, 5, none⟩ (.bool br)) := by
              refine ⟨{ s1 with phase := 1, bare := br }, o, u + 4, hul, by go_num, OwnG.grown HO.out hsz (by
                cases hq : (Value.slice av o.length cv).ownBlock with
                | none => exact .inl rfl
                | some z => exact .inr (fun e => by injection e with e; have := (OwnG.lt HO.out z hq).1; have := Blk.lt HB.out; omega)), by have := HOL.out; omega, hk5, hG, HN1.out, HN2.out, (fun h => by cases h), ?_⟩
              rw [HF.out, HEQ.out, H1.out, HST.out]
              simp [List.drop_drop, Nat.add_assoc]
            have HFIN := Lib.hid hfin
            have hmeas : n - (u + 4) < n - u := by omega
            clear hfin hg5 hG hk5 hsz
            go_wp2_with fail
            exact ⟨HFIN.out, by simp only [intOf]; omega⟩
      · have hp1I : ¬ (s1.phase : Int) = 0 := by omega
        have CT := rtakeOpt_any ad (n - u) (c - u) (b.drop u) wr HBL.out (by omega) (by omega) HRD.out
        obtain ⟨⟨ty, dd, m, er⟩, hro⟩ : ∃ r, optR (b.drop u) = r := ⟨_, rfl⟩
        rw [hro] at CT
        have HRO := Lib.hid hro
        have HCT := Lib.hid CT
        have HP0 := Lib.hid hp0
        clear CT hro hp0 hp
        go_wp2_with fail
        refine HCT.out.mono ?_
        rintro e w2 ⟨a2, n2, c2, rfl, hown2, hb2⟩
        simp only at hown2 ⊢
        have hn2 := OwnB.len hown2
        subst hn2
        have hkk2 : RkAt w2 g s1 := Blk.below HK.out hb2
        have HK2 : Hid (RkAt (w2.alloc (.cells #[Value.int .i64 (ty : Int), Value.slice a2 dd.length c2] 36)) g s1) := Lib.hid (Blk.below hkk2 ((Below.refl _ _).alloc (Nat.le_refl _) _))
        have hbw : Below wr.heap.size wr (w2.alloc (.cells #[Value.int .i64 (ty : Int), Value.slice a2 dd.length c2] 36)) := hb2.alloc hb2.size _
        have HBW := Lib.hid hbw
        have HO2 : Hid (OwnB (w2.alloc (.cells #[Value.int .i64 (ty : Int), Value.slice a2 dd.length c2] 36)) w.heap.size (.slice av o.length cv) o) := Lib.hid (OwnG.below HO.out hbw)
        have HD2 := Lib.hid hown2
        have HRD4 : Hid (Rd (w2.alloc (.cells #[Value.int .i64 (ty : Int), Value.slice a2 dd.length c2] 36)) (w2.alloc (.cells #[Value.int .i64 (ty : Int), Value.slice a2 dd.length c2] 36)).heap.size a2 (bs dd)) := Lib.hid ((((OwnB.rd hown2).alloc (Nat.le_refl _) _)).more (by rw [World.size_alloc]; omega))
        have HBL4 : Hid (Blk (w2.alloc (.cells #[Value.int .i64 (ty : Int), Value.slice a2 dd.length c2] 36)) w2.heap.size 36 [Value.int .i64 (ty : Int), Value.slice a2 dd.length c2]) := Lib.hid (Blk.new _ _ _)
        have HCM := Lib.hid (OwnB.capm hown2)
        clear hkk2 hbw hown2 hb2 k3 f3
        go_upto_region 13 with (fail)
        generalize w2.alloc (.cells #[Value.int .i64 (ty : Int), Value.slice a2 dd.length c2] 36) = w4 at HK2 HBW HO2 HRD4 HBL4 ⊢
        by_cases her : er = 0
        · subst her
          by_cases hm0 : m = 0
          · have h1 : oneR s1 (b.drop u) = (s1, [], 0) := by
              rw [oneR, if_neg HP0.out, HRO.out, if_neg (by simp), if_pos hm0]
            have HFE : Hid (feedR s b = (s1, o, u)) := Lib.hid (by rw [HF.out, HEQ.out, h1, if_pos rfl]; simp)
            have HG5 := Lib.hid (grown_below HG.out HBW.out)
            subst hm0
            clear h1
            go_wp2_with fail
            refine bodyPost_ret (v := .tuple #[.slice av o.length cv, .int .i64 (u : Int)]) (by simp [results, Try.results39, go_sem]) rfl ?_
            rw [HFE.out]
            exact ⟨av, _, cv, rfl, HO2.out, HK2.out, HG5.out⟩
          · have hm0I : ¬ (m : Int) = 0 := by omega
            have e0 := HBL4.out.cell 0 _ rfl
            have e1 := HBL4.out.cell 1 _ rfl
            have hdd : dd.length ≤ 1000000 := by
              have h := optR_dlen (b.drop u)
              rw [HRO.out] at h
              simp only at h
              rw [HBL.out] at h
              omega
            have HCO := Lib.hid (ropt_any g s1 ty a2 dd.length c2 dd w4 HK2.out (by rw [HN2.out]; exact HS.out) HNM1.out rfl HCM.out.1 (by have := HCM.out.2; omega) HRD4.out)
            have hone := one_opt s1 (b.drop u) HP0.out (by rw [HRO.out]) (by rw [HRO.out]; exact hm0)
            rw [HRO.out] at hone
            simp only at hone
            have hph := optS_phase s1 ty dd HP0.out
            obtain ⟨⟨s2, said⟩, hos⟩ : ∃ r, optS s1 ty dd = r := ⟨_, rfl⟩
            rw [hos] at HCO hone hph
            simp only at hone hph
            obtain ⟨f1, f2, f3, f4⟩ := oneR_facts s1 (b.drop u) HNM1.out
            rw [hone] at HEQ f1 f2 f3 f4
            simp only at f1 f2 f3 f4
            rw [HBL.out] at f1
            have H1 := Lib.hid f1
            have H2 := Lib.hid f2
            have H3 := Lib.hid f3
            have H4 := Lib.hid f4
            have HPH := Lib.hid hph
            have hum : (u : Int) + (m : Int) ≤ 1000000 := by omega
            clear hone hos hph f1 f2 f3 f4 hdd
            go_wp2_with fail
            refine HCO.out.mono ?_
            rintro e w5 ⟨a5, n5, c5, rfl, hown5, hk5, hg5⟩
            simp only at hown5 hk5 ⊢
            have hn5 := OwnB.len hown5
            subst hn5
            have HO5 : Hid (OwnB w5 w.heap.size (.slice av o.length cv) o) := Lib.hid (OwnG.grown HO2.out hg5 (by
              cases hq : (Value.slice av o.length cv).ownBlock with
              | none => exact .inl rfl
              | some z => exact .inr (fun e => by injection e with e; have := (OwnG.lt HO2.out z hq).1; have := Blk.lt HB.out; omega)))
            have HR5 := Lib.hid (OwnB.rd hown5)
            have HK5 := Lib.hid hk5
            have HG5 := Lib.hid (grown_trans (grown_below HG.out HBW.out) hg5)
            have S1 : Hid (o.length + said.length ≤ 140737488355328) := Lib.hid (by have := HOL.out; have := H4.out; have := H1.out; omega)
            have HZ5 : Hid (w.heap.size ≤ w5.heap.size) := Lib.hid HG5.out.size
            have HGL := Lib.hid (Blk.lt HB.out)
            clear hown5 hk5 hg5 HCO HO2 HRD4 HBL4 HK2 HBW HCM HD2 e0 e1
            go_wp2_with (at_builtin; refine wpList_app rfl _ _ rfl w.heap.size _ _ rfl HO5.out w5.heap.size a5 said.length c5 said rfl rfl HR5.out S1.out HZ5.out ?_)
            intro v6 w6 hown6 hgr6 hat6
            have hgr6 : w5.grownBy w6 (Value.slice av o.length cv).ownBlock := hgr6
            have hlt6 := OwnG.lt HO5.out
            have HK6 : Hid (RkAt w6 g s2) := Lib.hid (Blk.keep HK5.out (hgr6.block g (Blk.lt HK5.out) (fun e => by have := (hlt6 g e.symm).1; have := HGL.out; omega)))
            have HG6 : Hid (w.grownBy w6 (some g)) := Lib.hid ⟨hgr6.os.trans HG5.out.os, hgr6.tape.trans HG5.out.tape, hgr6.output.trans HG5.out.output, Nat.le_trans HG5.out.size hgr6.size, fun k hk hne => (hgr6.block k (by have := HG5.out.size; omega) (fun e => by have := (hlt6 k e.symm).1; omega)).trans (HG5.out.block k hk hne)⟩
            obtain ⟨a6, c6, rfl, _⟩ := OwnG.shape hown6
            have hmI2 : ((m : Int) == 0) = false := beq_eq_false_iff_ne.2 hm0I
            have h1 := H1.out
            have hfin : RFeedRel g s b w (.slice a6 (o ++ said).length c6) (.int .i64 ((u : Int) + (m : Int))) w6 := by
              refine ⟨s2, o ++ said, u + m, by omega, by go_num, hown6, ?_, HK6.out, HG6.out, H2.out.trans HN1.out, H3.out.trans HN2.out, (fun h => absurd h HPH.out), ?_⟩
              · rw [List.length_append]
                have := HOL.out
                have := H4.out
                omega
              · rw [HF.out, HEQ.out, if_neg hm0]
                simp only [List.drop_drop, List.append_assoc, Nat.add_assoc]
            have HFIN := Lib.hid hfin
            have hmeas : n - (u + m) < n - u := by omega
            clear hfin hown6 hgr6 hat6 hlt6 HO5 HR5 HK5 HG5 HK6 HG6
            go_wp2_with fail
            first
              | exact ⟨HFIN.out, by simp only [intOf]; omega⟩
              | (go_roundw
                 all_goals first
                   | (case measure => simp [intOf]; omega)
                   | exact HFIN.out)
        · have herB : (er == 0) = false := beq_eq_false_iff_ne.2 her
          have k3 : w4.cell? ⟨g, 3, none⟩ = some (.int .i64 (s1.phase : Int)) := HK2.out.cell 3 _ rfl
          have f3 := Blk.frozen HK2.out 3
          have h1 : oneR s1 (b.drop u) = ({ s1 with phase := 3 }, [], (b.drop u).length) := by
            rw [oneR, if_neg HP0.out, HRO.out, if_pos (by simpa using her)]
          have hpos : (b.drop u).length ≠ 0 := fun e => by
            have e2 : b.drop u = [] := List.eq_nil_of_length_eq_zero e
            have h := HRO.out
            rw [e2] at h
            have h0 : optR [] = (0, [], 0, 0) := by decide
            rw [h0] at h
            injection h with _ h
            injection h with _ h
            injection h with _ h
            exact her h.symm
          have HFE : Hid (feedR s b = ({ s1 with phase := 3 }, o, n)) := Lib.hid (by
            rw [HF.out, HEQ.out, h1, if_neg hpos, List.drop_of_length_le (Nat.le_refl _), feedR_over { s1 with phase := 3 } [] HNM1.out (by simp)]
            simp only [List.append_nil, Nat.add_zero, HBL.out]
            rw [show u + (n - u) = n by omega])
          have hgs : w4.grownBy (w4.setCell ⟨g, 3, none⟩ (.int .i64 3)) (some g) := grownBy_setI _
          have hk5 : RkAt (w4.setCell ⟨g, 3, none⟩ (.int .i64 3)) g { s1 with phase := 3 } := Blk.set HK2.out 3 (.int .i64 3)
          have HO5 : Hid (OwnB (w4.setCell ⟨g, 3, none⟩ (.int .i64 3)) w.heap.size (.slice av o.length cv) o) := Lib.hid (OwnG.grown HO2.out hgs (by
            cases hq : (Value.slice av o.length cv).ownBlock with
            | none => exact .inl rfl
            | some z => exact .inr (fun e => by injection e with e; have := (OwnG.lt HO2.out z hq).1; have := Blk.lt HB.out; omega)))
          have HG5 := Lib.hid (grown_trans (grown_below HG.out HBW.out) hgs)
          have HK5 := Lib.hid hk5
          clear h1 hpos hgs hk5 her
          go_wp2_with fail
          refine bodyPost_ret (v := .tuple #[.slice av o.length cv, .int .i64 (n : Int)]) (by simp [results, Try.results39, go_sem]) rfl ?_
          rw [HFE.out]
          exact ⟨av, _, cv, rfl, HO5.out, HK5.out, HG5.out⟩
    · have hpI : ¬ ((s1.phase : Int) < 2) := by omega
      rw [if_neg hp] at heq
      have HFE : Hid (feedR s b = (s1, o, u)) := Lib.hid (by rw [HF.out, heq]; simp)
      go_wp2_with fail
      refine bodyPost_ret (v := .tuple #[.slice av o.length cv, .int .i64 (u : Int)]) (by simp [results, Try.results39, go_sem]) rfl ?_
      rw [HFE.out]
      exact ⟨av, _, cv, rfl, HO.out, HK.out, HG.out⟩
end Go.Proofs.Ytnpcpbjoonjaoaa
