/- shake: Feed -/
import Derived.Test.YtnpcpbjoonjaoaaSkG
namespace Go.Proofs.Ytnpcpbjoonjaoaa
set_option linter.unusedVariables false
set_option linter.unusedSimpArgs false
open Go.RowKit

def feedF : Nat → Sk → List UInt8 → Sk × List UInt8 × Nat
  | 0, s, _ => (s, [], 0)
  | k + 1, s, b =>
    if s.phase < 2 then
      if (oneR s b).2.2 = 0 then ((oneR s b).1, (oneR s b).2.1, 0)
      else ((feedF k (oneR s b).1 (b.drop (oneR s b).2.2)).1, (oneR s b).2.1 ++ (feedF k (oneR s b).1 (b.drop (oneR s b).2.2)).2.1, (oneR s b).2.2 + (feedF k (oneR s b).1 (b.drop (oneR s b).2.2)).2.2)
    else (s, [], 0)
/-- What a client says is taken. -/
def feedR (s : Sk) (b : List UInt8) : Sk × List UInt8 × Nat := feedF (b.length + 1) s b

theorem expName_same (s : Sk) (nm : List UInt8) : (expName s nm).1.name = s.name ∧ (expName s nm).1.sectors = s.sectors ∧ (expName s nm).1.ro = s.ro ∧ (expName s nm).2.length ≤ 134 ∧ (expName s nm).1.phase ≤ 3 ∧ 2 ≤ (expName s nm).1.phase := by
  rw [expName]
  split
  · simp
  · refine ⟨rfl, rfl, rfl, ?_, by simp, by simp⟩
    simp only
    split
    · rw [expL_length]; omega
    · rw [List.length_append, expL_length, zeros_length]; omega
theorem ansR_same (s : Sk) (ty : Nat) (d : List UInt8) : (ansR s ty d).1.name = s.name ∧ (ansR s ty d).1.sectors = s.sectors ∧ (ansR s ty d).1.ro = s.ro := by
  rw [ansR]
  split
  · simp
  · split
    · simp
    · split
      · split <;> simp
      · split
        · split
          · simp
          · split <;> simp
        · simp
theorem optR_le (b : List UInt8) : (optR b).2.2.1 ≤ b.length := by
  rcases opt_cases b with ho | ho | ⟨_, h16, _, h2, ho⟩ <;> rw [ho] <;> simp only <;> omega
theorem oneR_facts (s : Sk) (b : List UInt8) (hnm : s.name.length ≤ 1000) : (oneR s b).2.2 ≤ b.length ∧ (oneR s b).1.name = s.name ∧ (oneR s b).1.sectors = s.sectors ∧ (oneR s b).2.1.length ≤ 7000 * (oneR s b).2.2 := by
  have hle := optR_le b
  rw [oneR]
  split
  · split
    · simp
    · refine ⟨?_, rfl, rfl, by simp⟩
      simp only; omega
  · split
    · simp
    · split
      · simp
      · split
        · have h := expName_same s (optR b).2.1
          refine ⟨hle, h.1, h.2.1, ?_⟩
          simp only
          have := h.2.2.2.1
          omega
        · have h := ansR_same s (optR b).1 (optR b).2.1
          have h2 := ans_small s (optR b).1 (optR b).2.1 hnm
          have h3 := said_len (optR b).1 (ansR s (optR b).1 (optR b).2.1).2 h2.2
          refine ⟨hle, h.1, h.2.1, ?_⟩
          simp only
          have := h2.1
          omega
theorem feedF_fuel : ∀ (k : Nat) (s : Sk) (b : List UInt8), s.name.length ≤ 1000 → b.length < k → feedF k s b = feedF (b.length + 1) s b
  | 0, s, b, _, h => by omega
  | k + 1, s, b, hnm, h => by
    by_cases hp : s.phase < 2
    · by_cases hn : (oneR s b).2.2 = 0
      · rw [feedF, feedF, if_pos hp, if_pos hp, if_pos hn, if_pos hn]
      · obtain ⟨f1, f2, f3, _⟩ := oneR_facts s b hnm
        have hl : (b.drop (oneR s b).2.2).length < k := by rw [List.length_drop]; omega
        have hl2 : (b.drop (oneR s b).2.2).length < b.length := by rw [List.length_drop]; omega
        have e1 := feedF_fuel k (oneR s b).1 (b.drop (oneR s b).2.2) (by rw [f2]; exact hnm) hl
        have e2 := feedF_fuel b.length (oneR s b).1 (b.drop (oneR s b).2.2) (by rw [f2]; exact hnm) hl2
        rw [feedF, feedF, if_pos hp, if_pos hp, if_neg hn, if_neg hn, e1, e2]
    · rw [feedF, feedF, if_neg hp, if_neg hp]
theorem feedR_eq (s : Sk) (b : List UInt8) (hnm : s.name.length ≤ 1000) : feedR s b =
    if s.phase < 2 then
      if (oneR s b).2.2 = 0 then ((oneR s b).1, (oneR s b).2.1, 0)
      else ((feedR (oneR s b).1 (b.drop (oneR s b).2.2)).1, (oneR s b).2.1 ++ (feedR (oneR s b).1 (b.drop (oneR s b).2.2)).2.1, (oneR s b).2.2 + (feedR (oneR s b).1 (b.drop (oneR s b).2.2)).2.2)
    else (s, [], 0) := by
  by_cases hp : s.phase < 2
  · by_cases hn : (oneR s b).2.2 = 0
    · rw [feedR, feedF, if_pos hp, if_pos hp, if_pos hn, if_pos hn]
    · obtain ⟨f1, f2, f3, _⟩ := oneR_facts s b hnm
      have hl2 : (b.drop (oneR s b).2.2).length < b.length := by rw [List.length_drop]; omega
      have e2 := feedF_fuel b.length (oneR s b).1 (b.drop (oneR s b).2.2) (by rw [f2]; exact hnm) hl2
      rw [feedR, feedF, if_pos hp, if_pos hp, if_neg hn, if_neg hn, e2, feedR]
  · rw [feedR, feedF, if_neg hp, if_neg hp]

/-- Bytes apart from the handshake. -/
def ApartB (g : Nat) (a : Option Addr) (b : List UInt8) : Prop := b = [] ∨ ∀ ad, a = some ad → ad.block ≠ g
theorem rd_grown {w w' : World} {g : Nat} {a : Option Addr} {b : List UInt8} (h : Rd w w.heap.size a (bs b)) (hs : ApartB g a b) (hg : w.grownBy w' (some g)) : Rd w' w'.heap.size a (bs b) := by
  rcases h with h | ⟨q, off, ha, hlt, hc⟩
  · exact .inl h
  · rcases hs with hs | hs
    · subst hs; exact .inl rfl
    · refine .inr ⟨q, off, ha, Nat.lt_of_lt_of_le hlt hg.size, fun i u hi => ?_⟩
      exact (World.cell?_of_block (a := ⟨q, off + i, none⟩) (hg.block q hlt (fun e => hs _ ha (by injection e)))).trans (hc i u hi)

/-- What was taken so far. -/
def FeedRel (g : Nat) (s0 : Sk) (b : List UInt8) (w : World) (v vi : Value) (wr : World) : Prop :=
  ∃ (s1 : Sk) (o : List UInt8) (u : Nat), u ≤ b.length ∧ vi = .int .i64 (u : Int) ∧ OwnB wr w.heap.size v o ∧ o.length ≤ 7000 * u ∧ SkAt wr g s1 ∧ w.grownBy wr (some g) ∧ s1.name = s0.name ∧ s1.sectors = s0.sectors ∧
    feedR s0 b = ((feedR s1 (b.drop u)).1, o ++ (feedR s1 (b.drop u)).2.1, u + (feedR s1 (b.drop u)).2.2)

set_option maxRecDepth 20000 in
set_option maxHeartbeats 4000000 in
theorem feed_any (g : Nat) (s : Sk) (a : Option Addr) (n c : Nat) (b : List UInt8) (w : World) (hb : SkAt w g s) (hsec : s.sectors ≤ 8192) (hnm : s.name.length ≤ 1000) (hdl : b.length = n) (hc : n ≤ c) (hc2 : c ≤ 9223372036854775807) (hr : Rd w w.heap.size a (bs b)) (hap : ApartB g a b) (hlen : n ≤ 1000000) :
    Calls Try.prog 36 #[.pointer (some ⟨g, 0, none⟩), .slice a n c] w (OnePost g (feedR s b) w) := by
  have HB := Lib.hid hb
  have HS := Lib.hid hsec
  have HNM := Lib.hid hnm
  have HR := Lib.hid hr
  have HDL := Lib.hid hdl
  have HAP := Lib.hid hap
  clear hb hsec hnm hr hap
  go_enter Try.func36, Try.ntmps36
  go_wp2_with fail
  go_loopw [6, 7] (fun v vi wr => FeedRel g s b w v vi wr) (fun _ vi _ => n - (intOf vi).toNat)
  case atStart => exact ⟨s, [], 0, Nat.zero_le _, rfl, OwnG.nil _ _ _ _, by simp, HB.out, World.grownBy.refl _ _, rfl, rfl, by simp⟩
  case round =>
    obtain ⟨s1, o, u, hu, rfl, hown, hol, hk, hg, hn1, hn2, hfeed⟩ := hrel
    obtain ⟨av, cv, rfl, hcv⟩ := OwnG.shape hown
    have k3 : wr.cell? ⟨g, 3, none⟩ = some (.int .i64 (s1.phase : Int)) := hk.cell 3 _ rfl
    have HO := Lib.hid hown
    have HK := Lib.hid hk
    have HG := Lib.hid hg
    have HN1 := Lib.hid hn1
    have HN2 := Lib.hid hn2
    have HF := Lib.hid hfeed
    have HOL := Lib.hid hol
    have hnm1 : s1.name.length ≤ 1000 := by rw [hn1]; exact HNM.out
    have HNM1 := Lib.hid hnm1
    have heq := feedR_eq s1 (b.drop u) hnm1
    clear hown hcv hk hg hn1 hn2 hfeed hol hnm1
    by_cases hp : s1.phase < 2
    · have hpI : (s1.phase : Int) < 2 := by omega
      rw [if_pos hp] at heq
      have HEQ := Lib.hid heq
      have u0 : (0 : Int) ≤ (u : Int) := Int.natCast_nonneg u
      have uc : (u : Int) ≤ (n : Int) := by omega
      obtain ⟨ad, had⟩ : ∃ ad, (if c = u then a else Option.map (fun x => x.add u) a) = ad := ⟨_, rfl⟩
      have hrd : Rd wr wr.heap.size ad (bs (b.drop u)) := by
        have h := (rd_grown HR.out HAP.out HG.out).cut (k := u) (cap := c) (by rw [bs_length]; omega)
        rw [had, ← bs_drop] at h
        exact h
      have HC := Lib.hid (one_any g s1 ad (n - u) (c - u) (b.drop u) wr HK.out (by rw [HN2.out]; exact HS.out) HNM1.out (by rw [List.length_drop]; omega) (by omega) (by omega) hrd)
      obtain ⟨f1, f2, f3, f4⟩ := oneR_facts s1 (b.drop u) HNM1.out
      rw [List.length_drop] at f1
      obtain ⟨⟨s2, said, m⟩, hone⟩ : ∃ r, oneR s1 (b.drop u) = r := ⟨_, rfl⟩
      rw [hone] at HC HEQ f1 f2 f3 f4
      simp only at f1 f2 f3 f4
      have H1 := Lib.hid f1
      have H2 := Lib.hid f2
      have H3 := Lib.hid f3
      have H4 := Lib.hid f4
      clear heq hrd hone f1 f2 f3 f4
      go_wp2_with fail
      refine HC.out.mono ?_
      rintro e w2 ⟨a2, n2, c2, rfl, hown2, hk2, hg2⟩
      simp only at hown2 hk2 ⊢
      have hn2 := OwnB.len hown2
      subst hn2
      have HO2 : Hid (OwnB w2 w.heap.size (.slice av o.length cv) o) := Lib.hid (OwnG.grown HO.out hg2 (by
        cases hq : (Value.slice av o.length cv).ownBlock with
        | none => exact .inl rfl
        | some z => exact .inr (fun e => by injection e with e; have := (OwnG.lt HO.out z hq).1; have := HB.out.lt; omega)))
      have HR2 := Lib.hid (OwnB.rd hown2)
      have HOS := Lib.hid hown2
      have HK2 := Lib.hid hk2
      have HG2 := Lib.hid (grown_trans HG.out hg2)
      have S1 : Hid (o.length + said.length ≤ 140737488355328) := Lib.hid (by have := HOL.out; have := H4.out; have := H1.out; omega)
      have HZ2 : Hid (w.heap.size ≤ w2.heap.size) := Lib.hid HG2.out.size
      have HGL := Lib.hid HB.out.lt
      clear hown2 hk2 hg2 HC
      go_wp2_with (at_builtin; refine wpList_app rfl _ _ rfl w.heap.size _ _ rfl HO2.out w2.heap.size a2 said.length c2 said rfl rfl HR2.out S1.out HZ2.out ?_)
      intro v3 w3 hown3 hgr3 hat3
      have hgr3 : w2.grownBy w3 (Value.slice av o.length cv).ownBlock := hgr3
      have hlt3 := OwnG.lt HO2.out
      have HK3 : Hid (SkAt w3 g s2) := Lib.hid (HK2.out.keep (hgr3.block g HK2.out.lt (fun e => by have := (hlt3 g e.symm).1; have := HGL.out; omega)))
      have HG3 : Hid (w.grownBy w3 (some g)) := Lib.hid ⟨hgr3.os.trans HG2.out.os, hgr3.tape.trans HG2.out.tape, hgr3.output.trans HG2.out.output, Nat.le_trans HG2.out.size hgr3.size, fun k hk hne => (hgr3.block k (by have := HG2.out.size; omega) (fun e => by have := (hlt3 k e.symm).1; omega)).trans (HG2.out.block k hk hne)⟩
      obtain ⟨a3, c3, rfl, _⟩ := OwnG.shape hown3
      have HO3 := Lib.hid hown3
      clear hown3 hgr3 hat3 hlt3 HO2 HR2 HOS HK2 HG2
      by_cases hm : m = 0
      · subst hm
        have HFE : Hid (feedR s b = (s2, o ++ said, u)) := Lib.hid (by rw [HF.out, HEQ.out, if_pos rfl]; rfl)
        go_wp2_with fail
        refine bodyPost_ret (v := .tuple #[.slice a3 (o ++ said).length c3, .int .i64 (u : Int)]) (by simp [results, Try.results36, go_sem]) rfl ?_
        rw [HFE.out]
        exact ⟨a3, _, c3, rfl, HO3.out, HK3.out, HG3.out⟩
      · have hmI : ¬ ((m : Int) = 0) := by omega
        have hmI2 : ((m : Int) == 0) = false := beq_eq_false_iff_ne.2 hmI
        have h1 := H1.out
        have hfin : FeedRel g s b w (.slice a3 (o ++ said).length c3) (.int .i64 ((u : Int) + (m : Int))) w3 := by
          refine ⟨s2, o ++ said, u + m, by omega, by go_num, HO3.out, ?_, HK3.out, HG3.out, H2.out.trans HN1.out, H3.out.trans HN2.out, ?_⟩
          · rw [List.length_append]
            have := HOL.out
            have := H4.out
            omega
          · rw [HF.out, HEQ.out, if_neg hm]
            simp only [List.drop_drop, List.append_assoc, Nat.add_assoc]
        have HFIN := Lib.hid hfin
        have hmeas : n - (u + m) < n - u := by omega
        clear hfin
        go_wp2_with fail
        all_goals go_roundw
        all_goals first
          | (case measure => simp [intOf]; omega)
          | exact HFIN.out
    · have hpI : ¬ ((s1.phase : Int) < 2) := by omega
      rw [if_neg hp] at heq
      have HFE : Hid (feedR s b = (s1, o, u)) := Lib.hid (by rw [HF.out, heq]; simp)
      go_wp2_with fail
      refine bodyPost_ret (v := .tuple #[.slice av o.length cv, .int .i64 (u : Int)]) (by simp [results, Try.results36, go_sem]) rfl ?_
      rw [HFE.out]
      exact ⟨av, _, cv, rfl, HO.out, HK.out, HG.out⟩
end Go.Proofs.Ytnpcpbjoonjaoaa
