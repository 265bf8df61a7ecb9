/- devices: Cut, CutAt -/
import Derived.Test.YthenpkimcjdkcaaDv9
namespace Go.Proofs.Ythenpkimcjdkcaa
set_option linter.unusedVariables false
set_option linter.unusedSimpArgs false
open Go.RowKit

theorem Fresh.rebase {w wx w' : World} {L : Lay} {I I' : Nat → Prop} (h : Fresh wx w' L I I') (hb : Below w.heap.size w wx) : Fresh w w' L I I' :=
  ⟨hb.trans (h.below.mono hb.size), fun k hk => Nat.le_trans hb.size (h.m k hk), Nat.le_trans hb.size h.clk, fun k hk => (h.i k hk).elim .inl (fun hk => .inr (Nat.le_trans hb.size hk))⟩
/-- What a device must be so that its cuts go well. -/
structure Sound (D : Dv) : Prop where
  n1 : 1 ≤ D.n
  n2 : D.n ≤ 2048
  log : D.log.length ≤ 1000000
  syncs : D.syncs.length ≤ 1000000
  int : ∀ x ∈ D.log, 0 ≤ x.i ∧ x.i < D.n
  safe : ∀ p ∈ D.syncs, p.1 ≤ D.log.length
theorem Sound.safeN {D : Dv} (h : Sound D) : safeN D ≤ D.log.length := by
  unfold Go.Proofs.Ythenpkimcjdkcaa.safeN
  cases hl : D.syncs.getLast? with
  | none => simp
  | some p => exact h.safe p (List.mem_of_getLast? hl)
def Dv.cut (D : Dv) (ks : List Bool) : Dv := D.left (safeN D) D.log.length ks

set_option maxRecDepth 20000 in
set_option maxHeartbeats 4000000 in
theorem cut_any {w : World} {L : Lay} {I : Nat → Prop} {D : Dv} (h : DevAt w L I D) (hs : Sound D)
    (ak : Option Addr) (nk ck : Nat) (ks : List Bool) (hnk : ks.length = nk) (hk : nk ≤ ck) (hck : ck ≤ 9223372036854775807) (hr : Rd w w.heap.size ak (bls ks)) :
    Calls Try.prog 20 #[.pointer (some ⟨L.g, 0, none⟩), .slice ak nk ck] w (LeftPost (D.cut ks) I w) := by
  subst hnk
  obtain ⟨s, hsN⟩ : ∃ s, safeN D = s := ⟨_, rfl⟩
  obtain ⟨R, hR⟩ : ∃ R, D.cut ks = R := ⟨_, rfl⟩
  obtain ⟨m, hm⟩ : ∃ m, D.log.length = m := ⟨_, rfl⟩
  rw [hR]
  have hsafe := hs.safeN
  rw [hsN, hm] at hsafe
  have hlog := hs.log
  rw [hm] at hlog
  obtain ⟨cs, hl, _⟩ := h.log
  obtain ⟨a5, c5, hv5, _⟩ := hl.shape
  rw [hm] at hv5
  have KS : Hid (∀ wx, Below w.heap.size w wx → Calls Try.prog 63 #[.pointer (some ⟨L.g, 0, none⟩)] wx fun e w' => e = .returned (.int .i64 (s : Int)) ∧ Below w.heap.size w w') := Lib.hid (fun wx hx => by
    refine (safe_any (h.below hx) hs.syncs).mono ?_
    rintro e w' ⟨rfl, n, rfl⟩
    exact ⟨by rw [← hsN]; rfl, below_drewN hx n⟩)
  have KL : Hid (∀ wx, Below w.heap.size w wx → Calls Try.prog 62 #[.pointer (some ⟨L.g, 0, none⟩), .int .i64 (s : Int), .int .i64 (m : Int), .slice ak ks.length ck] wx fun e w' => ∃ L' I', e = .returned (.pointer (some ⟨L'.g, 0, none⟩)) ∧ DevAt w' L' I' R ∧ Clk w' L'.clk 0 ∧ Fresh w w' L' I I' ∧ Below w.heap.size w w') := Lib.hid (fun wx hx => by
    refine (left_any (h.below hx) hs.n1 hs.n2 s m (by omega) (by omega) hs.log (fun x hx => by have := hs.int x hx; have := hs.n2; omega) ak ck ks hk hck (hr.below hx |>.more hx.size)).mono ?_
    rintro e w' ⟨L', I', rfl, h1, h2, h3⟩
    have h4 := h3.rebase hx
    rw [← hsN, ← hm] at h1
    exact ⟨L', I', rfl, by rw [← hR]; exact h1, h2, h4, h4.below⟩)
  have d5 : ∀ wx, Below w.heap.size w wx → wx.cell? ⟨L.g, 5, none⟩ = some (.slice a5 m c5) := fun wx hx => by rw [← hv5]; exact (hx.cell (p := ⟨L.g, 5, none⟩) h.blk.lt).trans (h.cell 5 _ rfl)
  have hb0 : Below w.heap.size w w := Below.refl _ _
  have hb1 : Below w.heap.size w w.drew := (Below.refl _ _).drew
  clear h hs hk hck hr hsN hR hm hsafe hlog hl hv5
  go_enter Try.func20, Try.ntmps20
  go_upto_region 3 with (fail)
  go_region_held3 (fun w' => Below w.heap.size w w')
    (first | assumption | go_keep)
    (first
      | ((with_reducible refine (KS.out _ (by assumption)).mono ?_); rintro e w2 ⟨rfl, hS2⟩)
      | ((with_reducible refine (KL.out _ (by assumption)).mono ?_); rintro e w3 ⟨L', I', rfl, h3, hk3, hf3, hS3⟩)
      | fail)
  all_goals go_wp2_with fail
  all_goals go_ret
  all_goals exact ⟨L', I', rfl, h3, hk3, hf3⟩
theorem cut_nil (a : Option Addr) (n c : Nat) (w : World) : Calls Try.prog 20 #[.pointer none, .slice a n c] w fun e w' => e = .returned (.pointer none) ∧ w = w' := by
  go_enter Try.func20, Try.ntmps20
  go_wp2_with fail
  go_ret
  exact ⟨rfl, rfl⟩

/-- How many writes are safe behind the n-th. -/
def safeAt (n : Nat) : List (Nat × Int) → Nat → Nat
  | [], s => s
  | p :: l, s => safeAt n l (if p.1 < n then p.1 else s)
def clamp (n : Int) (m : Nat) : Nat := if n < 0 then 0 else if (m : Int) < n then m else n.toNat
theorem clamp_le (n : Int) (m : Nat) : clamp n m ≤ m := by
  unfold clamp; split
  · omega
  · split <;> omega
def Dv.cutAt (D : Dv) (n : Int) (ks : List Bool) : Dv := D.left (safeAt (clamp n D.log.length) D.syncs 0) (clamp n D.log.length) ks
theorem safeAt_le (n : Nat) : ∀ (l : List (Nat × Int)) (s B : Nat), s ≤ B → (∀ p ∈ l, p.1 ≤ B) → safeAt n l s ≤ B
  | [], s, B, h, _ => h
  | p :: l, s, B, h, hp => by
    rw [safeAt]
    refine safeAt_le n l _ B ?_ (fun q hq => hp q (List.mem_cons_of_mem _ hq))
    split
    · exact hp p List.mem_cons_self
    · exact h
def CatR (D : Dv) (N : Nat) (w : World) (v7 vi : Value) (wr : World) : Prop :=
  ∃ i s : Nat, i ≤ D.syncs.length ∧ vi = .int .i64 (i : Int) ∧ v7 = .int .i64 (s : Int) ∧ Below w.heap.size w wr ∧ safeAt N D.syncs 0 = safeAt N (D.syncs.drop i) s ∧ s ≤ D.log.length

set_option maxRecDepth 20000 in
set_option maxHeartbeats 4000000 in
theorem cutAt_any {w : World} {L : Lay} {I : Nat → Prop} {D : Dv} (h : DevAt w L I D) (hs : Sound D) (n : Int) (hn1 : -9223372036854775808 ≤ n) (hn2 : n ≤ 9223372036854775807)
    (ak : Option Addr) (nk ck : Nat) (ks : List Bool) (hnk : ks.length = nk) (hk : nk ≤ ck) (hck : ck ≤ 9223372036854775807) (hr : Rd w w.heap.size ak (bls ks)) :
    Calls Try.prog 27 #[.pointer (some ⟨L.g, 0, none⟩), .int .i64 n, .slice ak nk ck] w (LeftPost (D.cutAt n ks) I w) := by
  subst hnk
  obtain ⟨m, hm⟩ : ∃ m, D.log.length = m := ⟨_, rfl⟩
  obtain ⟨N, hN⟩ : ∃ N, clamp n m = N := ⟨_, rfl⟩
  have hNm : N ≤ m := by rw [← hN]; exact clamp_le n m
  obtain ⟨R, hR⟩ : ∃ R, D.cutAt n ks = R := ⟨_, rfl⟩
  rw [hR]
  have HR : Hid (R = D.left (safeAt N D.syncs 0) N ks) := Lib.hid (by rw [← hR, Dv.cutAt, hm, hN])
  have H := Lib.hid h
  have HS := Lib.hid hs
  have hlog := hs.log
  rw [hm] at hlog
  obtain ⟨cs, hl, _⟩ := h.log
  obtain ⟨a5, c5, hv5, _⟩ := hl.shape
  have p5 : w.cell? ⟨L.g, 5, none⟩ = some L.vl := h.cell 5 _ rfl
  rw [hv5, hm] at p5
  obtain ⟨a6, c6, hv6, hc6⟩ := OwnG.shape h.syncs
  have hsy := h.syncs
  have p6 : w.cell? ⟨L.g, 6, none⟩ = some L.vs := h.cell 6 _ rfl
  rw [hv6] at p6 hsy
  obtain ⟨ml, hml⟩ : ∃ ml, D.syncs.length = ml := ⟨_, rfl⟩
  have hsyl := hs.syncs
  rw [hml] at p6 hsy hsyl
  have HK := Lib.hid hk
  have HCK := Lib.hid hck
  have HRK := Lib.hid hr
  have HSY := Lib.hid hsy
  have HML := Lib.hid hml
  have HM := Lib.hid hm
  have HNM := Lib.hid hNm
  have hmin : (if n < (m : Int) then n else (m : Int)) = (if n < (m : Int) then n else (m : Int)) := rfl
  have hq1 : n < 0 ∨ (0 ≤ n ∧ n ≤ (m : Int)) ∨ (m : Int) < n := by omega
  clear h hs hk hck hr hl hv5 hv6 hsy hml hm hR hmin
  go_enter Try.func27, Try.ntmps27
  go_upto_region 3 with (fail)
  go_cut [1] (fun v wn => v = .int .i64 (N : Int) ∧ wn = w)
  case first =>
    rcases hq1 with hq | ⟨hq, hq2⟩ | hq
    · have e : N = 0 := by rw [← hN, clamp, if_pos hq]
      have q2 : n < (m : Int) := by omega
      subst e
      clear hN
      go_wp2_with fail
      all_goals go_meet
      all_goals first | exact ⟨rfl, rfl⟩ | (exfalso; omega)
    · have e : n = (N : Int) := by rw [← hN, clamp, if_neg (by omega), if_neg (by omega)]; omega
      clear hN
      subst e
      go_wp2_with fail
      all_goals go_meet
      all_goals first | exact ⟨rfl, rfl⟩ | exact ⟨by congr 1; omega, rfl⟩ | (exfalso; omega)
    · have e : N = m := by rw [← hN, clamp, if_neg (by omega), if_pos hq]
      have q2 : ¬ n < (m : Int) := by omega
      subst e
      clear hN
      go_wp2_with fail
      all_goals go_meet
      all_goals first | exact ⟨rfl, rfl⟩ | exact ⟨by congr 1; omega, rfl⟩ | (exfalso; omega)
  case rest =>
    obtain ⟨rfl, hw⟩ := hcut
    subst hw
    rename World => w
    clear hN
    go_wp2_with fail
    go_loopw [7, 25] (fun v7 vi wr => CatR D N w v7 vi wr) (fun _ vi _ => ml - (intOf vi).toNat)
    case atStart => exact ⟨0, 0, Nat.zero_le _, rfl, rfl, Below.refl _ _, rfl, Nat.zero_le _⟩
    case round =>
      obtain ⟨i, s, hi, rfl, rfl, hb, hEQ, hsl⟩ := hrel
      rw [HML.out] at hi
      rw [HM.out] at hsl
      have HB := Lib.hid hb
      have HEQ := Lib.hid hEQ
      have HSL := Lib.hid hsl
      have i0 : (0 : Int) ≤ (i : Int) := Int.natCast_nonneg _
      clear hb hEQ hsl
      by_cases hlt : i < ml
      · have hltI : (i : Int) < (ml : Int) := by omega
        obtain ⟨p, hp⟩ : ∃ p, D.syncs[i]? = some p := ⟨_, List.getElem?_eq_getElem (by rw [HML.out]; exact hlt)⟩
        obtain ⟨g, off, cap, hv, _, hltg, _, hcell⟩ := OwnG.form HSY.out (by omega)
        injection hv with f1 f2 f3
        subst f1
        have e0 := (HB.out.cell (p := ⟨g, off + i * 2, none⟩) hltg).trans (hcell _ _ (syncC_get D.syncs i p hp).1)
        have e1 := (HB.out.cell (p := ⟨g, off + (i * 2 + 1), none⟩) hltg).trans (hcell _ _ (syncC_get D.syncs i p hp).2)
        rw [← Nat.add_assoc] at e1
        have hds : D.syncs.drop i = p :: D.syncs.drop (i + 1) := by
          rw [List.drop_eq_getElem_cons (by rw [HML.out]; exact hlt)]
          have : D.syncs[i]'(by rw [HML.out]; exact hlt) = p := by rw [List.getElem?_eq_getElem (by rw [HML.out]; exact hlt)] at hp; injection hp
          rw [this]
        have hps : p.1 ≤ m := by rw [← HM.out]; exact HS.out.safe p (List.mem_of_getElem? hp)
        have HEQ2 : Hid (safeAt N D.syncs 0 = safeAt N (D.syncs.drop (i + 1)) (if p.1 < N then p.1 else s)) := Lib.hid (by rw [HEQ.out, hds, safeAt])
        have hb2 : Below w.heap.size w (wr.alloc (.cells #[.int .i64 (p.1 : Int), .int .i64 p.2] 99)) := HB.out.alloc HB.out.size _
        have HB2 := Lib.hid hb2
        have HPS := Lib.hid hps
        clear hcell hp hds hb2 hps
        by_cases hpn : p.1 < N
        · have hpnI : (p.1 : Int) < (N : Int) := by omega
          rw [if_pos hpn] at HEQ2
          have hfin : CatR D N w (.int .i64 (p.1 : Int)) (.int .i64 ((i : Int) + 1)) (wr.alloc (.cells #[.int .i64 (p.1 : Int), .int .i64 p.2] 99)) := ⟨i + 1, p.1, by rw [HML.out]; exact hlt, by go_num, rfl, HB2.out, HEQ2.out, by rw [HM.out]; exact HPS.out⟩
          have HFIN := Lib.hid hfin
          clear hfin
          go_wp2_with fail
          first
            | exact ⟨HFIN.out, by simp only [intOf]; omega⟩
            | (all_goals go_roundw
               all_goals first
                 | (case measure => simp [intOf]; omega)
                 | exact HFIN.out)
        · have hpnI : ¬ (p.1 : Int) < (N : Int) := by omega
          rw [if_neg hpn] at HEQ2
          have hfin : CatR D N w (.int .i64 (s : Int)) (.int .i64 ((i : Int) + 1)) (wr.alloc (.cells #[.int .i64 (p.1 : Int), .int .i64 p.2] 99)) := ⟨i + 1, s, by rw [HML.out]; exact hlt, by go_num, rfl, HB2.out, HEQ2.out, by rw [HM.out]; exact HSL.out⟩
          have HFIN := Lib.hid hfin
          clear hfin
          go_wp2_with fail
          first
            | exact ⟨HFIN.out, by simp only [intOf]; omega⟩
            | (all_goals go_roundw
               all_goals first
                 | (case measure => simp [intOf]; omega)
                 | exact HFIN.out)
      · have hltI : ¬ (i : Int) < (ml : Int) := by omega
        have HSE : Hid (safeAt N D.syncs 0 = s) := Lib.hid (by rw [HEQ.out, List.drop_of_length_le (by rw [HML.out]; omega)]; rfl)
        have KL := Lib.hid (left_any (H.out.below HB.out) HS.out.n1 HS.out.n2 s N (by rw [HM.out]; exact HNM.out) (by have := HSL.out; omega) HS.out.log (fun x hx => by have := HS.out.int x hx; have := HS.out.n2; omega) ak ck ks HK.out HCK.out ((HRK.out.below HB.out).more HB.out.size))
        go_wp2_with fail
        refine KL.out.mono ?_
        rintro e w3 ⟨L', I', rfl, h3, hk3, hf3⟩
        have H3 := Lib.hid h3
        have HK3 := Lib.hid hk3
        have HF3 := Lib.hid (hf3.rebase HB.out)
        clear h3 hk3 hf3 KL
        go_wp2_with fail
        go_ret
        rw [HR.out]
        refine ⟨L', I', rfl, ?_, HK3.out, HF3.out⟩
        rw [HSE.out]
        exact H3.out
theorem cutAt_nil (n : Int) (a : Option Addr) (m c : Nat) (w : World) : Calls Try.prog 27 #[.pointer none, .int .i64 n, .slice a m c] w fun e w' => e = .returned (.pointer none) ∧ w = w' := by
  go_enter Try.func27, Try.ntmps27
  go_wp2_with fail
  go_ret
  exact ⟨rfl, rfl⟩
end Go.Proofs.Ythenpkimcjdkcaa
