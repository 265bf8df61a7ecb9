/- devices: CutMoment -/
import Derived.Test.YthenpkimcjdkcaaDv10
namespace Go.Proofs.Ythenpkimcjdkcaa
set_option linter.unusedVariables false
set_option linter.unusedSimpArgs false
open Go.RowKit

/-- How many of the first writes came up to a moment. -/
def cntM (m : Int) : List Wr → Nat
  | [] => 0
  | x :: l => if x.m ≤ m then cntM m l + 1 else 0
theorem cntM_le (m : Int) : ∀ l : List Wr, cntM m l ≤ l.length
  | [] => Nat.le_refl _
  | x :: l => by
    rw [cntM]
    split
    · have := cntM_le m l; simp only [List.length_cons]; omega
    · exact Nat.zero_le _
theorem cntM_step (m : Int) : ∀ (l : List Wr) (i : Nat) (x : Wr), l[i]? = some x → cntM m l = i + cntM m (l.drop i) → cntM m (l.drop i) = if x.m ≤ m then cntM m (l.drop (i + 1)) + 1 else 0 := by
  intro l i x hx _
  have hlt := (List.getElem?_eq_some_iff.1 hx).1
  have hd : l.drop i = x :: l.drop (i + 1) := by
    rw [List.drop_eq_getElem_cons hlt]
    have : l[i] = x := by rw [List.getElem?_eq_getElem hlt] at hx; injection hx
    rw [this]
  rw [hd, cntM]
def safeM (m : Int) : List (Nat × Int) → Nat → Nat
  | [], s => s
  | p :: l, s => safeM m l (if p.2 < m then p.1 else s)
theorem safeM_le (m : Int) : ∀ (l : List (Nat × Int)) (s B : Nat), s ≤ B → (∀ p ∈ l, p.1 ≤ B) → safeM m l s ≤ B
  | [], s, B, h, _ => h
  | p :: l, s, B, h, hp => by
    rw [safeM]
    refine safeM_le m l _ B ?_ (fun q hq => hp q (List.mem_cons_of_mem _ hq))
    split
    · exact hp p List.mem_cons_self
    · exact h
def clampI (m c : Int) : Int := if m < 0 then 0 else if c < m then c else m
def Dv.cutM (D : Dv) (c m : Int) (ks : List Bool) : Dv := D.left (safeM (clampI m c) D.syncs 0) (cntM (clampI m c) D.log) ks
def CmA (D : Dv) (M : Int) (w : World) (vi : Value) (wr : World) : Prop := ∃ i : Nat, i ≤ D.log.length ∧ vi = .int .i64 (i : Int) ∧ wr = w ∧ cntM M D.log = i + cntM M (D.log.drop i)
def CmB (D : Dv) (M : Int) (w : World) (v7 vi : Value) (wr : World) : Prop :=
  ∃ i s : Nat, i ≤ D.syncs.length ∧ vi = .int .i64 (i : Int) ∧ v7 = .int .i64 (s : Int) ∧ Below w.heap.size w wr ∧ safeM M D.syncs 0 = safeM M (D.syncs.drop i) s ∧ s ≤ D.log.length

set_option maxRecDepth 20000 in
set_option maxHeartbeats 4000000 in
theorem cutMoment_any {w : World} {L : Lay} {I : Nat → Prop} {D : Dv} {k : Int} (h : DevAt w L I D) (hk0 : Clk w L.clk k) (hkn : 0 ≤ k) (hs : Sound D) (m : Int) (hm1 : -9223372036854775808 ≤ m) (hm2 : m ≤ 9223372036854775807)
    (ak : Option Addr) (nk ck : Nat) (ks : List Bool) (hnk : ks.length = nk) (hk : nk ≤ ck) (hck : ck ≤ 9223372036854775807) (hr : Rd w w.heap.size ak (bls ks)) :
    Calls Try.prog 32 #[.pointer (some ⟨L.g, 0, none⟩), .int .i64 m, .slice ak nk ck] w (LeftPost (D.cutM k m ks) I w) := by
  subst hnk
  obtain ⟨M, hM⟩ : ∃ M, clampI m k = M := ⟨_, rfl⟩
  obtain ⟨R, hR⟩ : ∃ R, D.cutM k m ks = R := ⟨_, rfl⟩
  rw [hR]
  have HR : Hid (R = D.left (safeM M D.syncs 0) (cntM M D.log) ks) := Lib.hid (by rw [← hR, Dv.cutM, hM])
  have H := Lib.hid h
  have HS := Lib.hid hs
  obtain ⟨nl, hnl⟩ : ∃ nl, D.log.length = nl := ⟨_, rfl⟩
  have hlog := hs.log
  rw [hnl] at hlog
  obtain ⟨cs, hl, hlc⟩ := h.log
  obtain ⟨a5, c5, hv5, hc5⟩ := hl.shape
  have p5 : w.cell? ⟨L.g, 5, none⟩ = some L.vl := h.cell 5 _ rfl
  rw [hv5, hnl] at p5
  rw [hv5, hnl] at hl
  rw [hnl] at hc5
  obtain ⟨a6, c6, hv6, hc6⟩ := OwnG.shape h.syncs
  have hsy := h.syncs
  have p6 : w.cell? ⟨L.g, 6, none⟩ = some L.vs := h.cell 6 _ rfl
  rw [hv6] at p6 hsy
  obtain ⟨ml, hml⟩ : ∃ ml, D.syncs.length = ml := ⟨_, rfl⟩
  have hsyl := hs.syncs
  rw [hml] at p6 hsy hsyl
  have p7 := h.cell 7 _ rfl
  have pc := Blk.cell hk0 0 _ rfl
  have HK := Lib.hid hk
  have HCK := Lib.hid hck
  have HRK := Lib.hid hr
  have HSY := Lib.hid hsy
  have HML := Lib.hid hml
  have HNL := Lib.hid hnl
  have HLG := Lib.hid hl
  have HLC := Lib.hid hlc
  have hq1 : m < 0 ∨ (0 ≤ m ∧ m ≤ k) ∨ (0 ≤ m ∧ k < m) := by omega
  clear h hk0 hs hk hck hr hl hlc hv5 hv6 hsy hml hnl hR
  go_enter Try.func32, Try.ntmps32
  go_upto_region 3 with (fail)
  go_cut [1] (fun v wn => v = .int .i64 M ∧ wn = w)
  case first =>
    rcases hq1 with hq | ⟨hq, hq2⟩ | ⟨hq0, hq⟩
    · have e : M = 0 := by rw [← hM, clampI, if_pos hq]
      have q2 : m < k := by omega
      subst e
      clear hM
      go_wp2_with fail
      all_goals go_meet
      all_goals first | exact ⟨rfl, rfl⟩ | (exfalso; omega)
    · have e : M = m := by rw [← hM, clampI, if_neg (by omega), if_neg (by omega)]
      clear hM
      subst e
      go_wp2_with fail
      all_goals go_meet
      all_goals first | exact ⟨rfl, rfl⟩ | exact ⟨by congr 1; omega, rfl⟩ | (exfalso; omega)
    · have e : M = k := by rw [← hM, clampI, if_neg (by omega), if_pos hq]
      have q2 : ¬ m < k := by omega
      clear hM
      subst e
      go_wp2_with fail
      all_goals go_meet
      all_goals first | exact ⟨rfl, rfl⟩ | exact ⟨by congr 1; omega, rfl⟩ | (exfalso; omega)
  case' rest =>
    obtain ⟨rfl, hw⟩ := hcut
    subst hw
    rename World => w
  clear hM hq1
  go_upto_block 0 with (fail)
  go_cut [7] (fun v wn => v = .int .i64 (cntM M D.log : Int) ∧ wn = w)
  case first =>
    go_wp2_with fail
    go_loopw [7] (fun vi wr => CmA D M w vi wr) (fun vi _ => nl - (intOf vi).toNat)
    case atStart => exact ⟨0, Nat.zero_le _, rfl, rfl, by simp⟩
    case round =>
      obtain ⟨i, hi, rfl, hw, hEQ⟩ := hrel
      subst hw
      rw [HNL.out] at hi
      have HEQ := Lib.hid hEQ
      have i0 : (0 : Int) ≤ (i : Int) := Int.natCast_nonneg _
      clear hEQ
      by_cases hlt : i < nl
      · have hltI : (i : Int) < (nl : Int) := by omega
        obtain ⟨x, hx⟩ : ∃ x, D.log[i]? = some x := ⟨_, List.getElem?_eq_getElem (by rw [HNL.out]; exact hlt)⟩
        obtain ⟨_, _, _, e3, _⟩ := HLC.out.2 i x hx
        obtain ⟨g, off, cap, hv, _, hltg, _, hcell⟩ := OwnG.form HLG.out (by omega)
        injection hv with f1 f2 f3
        subst f1
        have e3' := hcell _ _ e3
        rw [← Nat.add_assoc] at e3'
        have hst := cntM_step M D.log i x hx HEQ.out
        by_cases hxm : x.m ≤ M
        · rw [if_pos hxm] at hst
          have hfin : CmA D M wr (.int .i64 ((i : Int) + 1)) wr := ⟨i + 1, by rw [HNL.out]; exact hlt, by go_num, rfl, by rw [HEQ.out, hst]; omega⟩
          have HFIN := Lib.hid hfin
          clear hx hcell hst hfin e3
          go_wp2_with fail
          all_goals go_roundw
          all_goals first
            | (case measure => simp [intOf]; omega)
            | exact HFIN.out
        · rw [if_neg hxm] at hst
          have hN : Hid (cntM M D.log = i) := Lib.hid (by rw [HEQ.out, hst]; rfl)
          clear hx hcell hst e3
          go_wp2_with fail
          go_meet
          exact ⟨by rw [hN.out], rfl⟩
      · have hltI : ¬ (i : Int) < (nl : Int) := by omega
        have hN : Hid (cntM M D.log = i) := Lib.hid (by rw [HEQ.out, List.drop_of_length_le (by rw [HNL.out]; omega)]; rfl)
        go_wp2_with fail
        go_meet
        exact ⟨by rw [hN.out], rfl⟩
  case rest =>
    obtain ⟨rfl, hw⟩ := hcut
    subst hw
    rename World => w
    obtain ⟨N, hN⟩ : ∃ N, cntM M D.log = N := ⟨_, rfl⟩
    have hNm : N ≤ nl := by rw [← hN, ← HNL.out]; exact cntM_le M D.log
    rw [hN]
    have HN := Lib.hid hN
    have HNM := Lib.hid hNm
    clear hN
    go_wp2_with fail
    go_loopw [8, 48] (fun v7 vi wr => CmB D M w v7 vi wr) (fun _ vi _ => ml - (intOf vi).toNat)
    case atStart => exact ⟨0, 0, Nat.zero_le _, rfl, rfl, Below.refl _ _, rfl, Nat.zero_le _⟩
    case round =>
      obtain ⟨i, s, hi, rfl, rfl, hb, hEQ, hsl⟩ := hrel
      rw [HML.out] at hi
      rw [HNL.out] at hsl
      have HB := Lib.hid hb
      have HEQ := Lib.hid hEQ
      have HSL := Lib.hid hsl
      have i0 : (0 : Int) ≤ (i : Int) := Int.natCast_nonneg _
      clear hb hEQ hsl
      by_cases hlt : i < ml
      · have hltI : (i : Int) < (ml : Int) := by omega
        obtain ⟨p, hp⟩ : ∃ p, D.syncs[i]? = some p := ⟨_, List.getElem?_eq_getElem (by rw [HML.out]; exact hlt)⟩
        obtain ⟨g, off, cap, hv, _, hltg, _, hcell⟩ := OwnG.form HSY.out (by omega)
        injection hv with f1 f2 f3
        subst f1
        have e0 := (HB.out.cell (p := ⟨g, off + i * 2, none⟩) hltg).trans (hcell _ _ (syncC_get D.syncs i p hp).1)
        have e1 := (HB.out.cell (p := ⟨g, off + (i * 2 + 1), none⟩) hltg).trans (hcell _ _ (syncC_get D.syncs i p hp).2)
        rw [← Nat.add_assoc] at e1
        have hds : D.syncs.drop i = p :: D.syncs.drop (i + 1) := by
          rw [List.drop_eq_getElem_cons (by rw [HML.out]; exact hlt)]
          have : D.syncs[i]'(by rw [HML.out]; exact hlt) = p := by rw [List.getElem?_eq_getElem (by rw [HML.out]; exact hlt)] at hp; injection hp
          rw [this]
        have hps : p.1 ≤ nl := by rw [← HNL.out]; exact HS.out.safe p (List.mem_of_getElem? hp)
        have HEQ2 : Hid (safeM M D.syncs 0 = safeM M (D.syncs.drop (i + 1)) (if p.2 < M then p.1 else s)) := Lib.hid (by rw [HEQ.out, hds, safeM])
        have hb2 : Below w.heap.size w (wr.alloc (.cells #[.int .i64 (p.1 : Int), .int .i64 p.2] 99)) := HB.out.alloc HB.out.size _
        have HB2 := Lib.hid hb2
        have HPS := Lib.hid hps
        clear hcell hp hds hb2 hps
        by_cases hpn : p.2 < M
        · rw [if_pos hpn] at HEQ2
          have hfin : CmB D M w (.int .i64 (p.1 : Int)) (.int .i64 ((i : Int) + 1)) (wr.alloc (.cells #[.int .i64 (p.1 : Int), .int .i64 p.2] 99)) := ⟨i + 1, p.1, by rw [HML.out]; exact hlt, by go_num, rfl, HB2.out, HEQ2.out, by rw [HNL.out]; exact HPS.out⟩
          have HFIN := Lib.hid hfin
          clear hfin
          go_wp2_with fail
          first
            | exact ⟨HFIN.out, by simp only [intOf]; omega⟩
            | (all_goals go_roundw
               all_goals first
                 | (case measure => simp [intOf]; omega)
                 | exact HFIN.out)
        · rw [if_neg hpn] at HEQ2
          have hfin : CmB D M w (.int .i64 (s : Int)) (.int .i64 ((i : Int) + 1)) (wr.alloc (.cells #[.int .i64 (p.1 : Int), .int .i64 p.2] 99)) := ⟨i + 1, s, by rw [HML.out]; exact hlt, by go_num, rfl, HB2.out, HEQ2.out, by rw [HNL.out]; exact HSL.out⟩
          have HFIN := Lib.hid hfin
          clear hfin
          go_wp2_with fail
          first
            | exact ⟨HFIN.out, by simp only [intOf]; omega⟩
            | (all_goals go_roundw
               all_goals first
                 | (case measure => simp [intOf]; omega)
                 | exact HFIN.out)
      · have hltI : ¬ (i : Int) < (ml : Int) := by omega
        have HSE : Hid (safeM M D.syncs 0 = s) := Lib.hid (by rw [HEQ.out, List.drop_of_length_le (by rw [HML.out]; omega)]; rfl)
        have KL := Lib.hid (left_any (H.out.below HB.out) HS.out.n1 HS.out.n2 s N (by rw [HNL.out]; exact HNM.out) (by have := HSL.out; omega) HS.out.log (fun x hx => by have := HS.out.int x hx; have := HS.out.n2; omega) ak ck ks HK.out HCK.out ((HRK.out.below HB.out).more HB.out.size))
        go_wp2_with fail
        refine KL.out.mono ?_
        rintro e w3 ⟨L', I', rfl, h3, hk3, hf3⟩
        have H3 := Lib.hid h3
        have HK3 := Lib.hid hk3
        have HF3 := Lib.hid (hf3.rebase HB.out)
        clear h3 hk3 hf3 KL
        go_wp2_with fail
        go_ret
        rw [HR.out]
        refine ⟨L', I', rfl, ?_, HK3.out, HF3.out⟩
        rw [HSE.out, HN.out]
        exact H3.out
end Go.Proofs.Ythenpkimcjdkcaa
