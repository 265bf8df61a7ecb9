/- devices: Pending -/
import Derived.Test.YthenpkimcjdkcaaDv6
namespace Go.Proofs.Ythenpkimcjdkcaa
set_option linter.unusedVariables false
set_option linter.unusedSimpArgs false
open Go.RowKit

/-- How many of the first writes are safe. -/
def safeN (D : Dv) : Nat := (D.syncs.getLast?.map (·.1)).getD 0
def openN (l : List Wr) : Nat := (l.filter fun x => !x.sure).length
theorem openN_snoc (l : List Wr) (x : Wr) : openN (l ++ [x]) = openN l + if x.sure = true then 0 else 1 := by
  unfold openN
  rw [List.filter_append, List.length_append]
  cases hx : x.sure <;> simp [hx]
theorem openN_le (l : List Wr) : openN l ≤ l.length := List.length_filter_le _ _

def PenR (w : World) (P : List Wr) (vn vi : Value) (wr : World) : Prop := ∃ i : Nat, i ≤ P.length ∧ vi = .int .i64 (i : Int) ∧ vn = .int .i64 (openN (P.take i) : Int) ∧ Below w.heap.size w wr

set_option maxRecDepth 20000 in
set_option maxHeartbeats 2000000 in
theorem pending_any {w : World} {L : Lay} {I : Nat → Prop} {D : Dv} (h : DevAt w L I D) (hlog : D.log.length ≤ 1000000) (hsy : D.syncs.length ≤ 1000000) (hsafe : safeN D ≤ D.log.length) :
    Calls Try.prog 21 #[.pointer (some ⟨L.g, 0, none⟩)] w fun e w' => e = .returned (.int .i64 (openN (D.log.drop (safeN D)) : Int)) ∧ Below w.heap.size w w' := by
  obtain ⟨s, hs⟩ : ∃ s, safeN D = s := ⟨_, rfl⟩
  rw [hs] at hsafe ⊢
  have H := Lib.hid h
  have KS : Hid (∀ j, Calls Try.prog 63 #[.pointer (some ⟨L.g, 0, none⟩)] (w.drewN j) fun e w' => e = .returned (.int .i64 (s : Int)) ∧ ∃ n, w' = w.drewN n) := Lib.hid (fun j => by
    refine (safe_any (h.drewN j) hsy).mono ?_
    rintro e w' ⟨rfl, n, rfl⟩
    refine ⟨by rw [← hs]; rfl, j + n, ?_⟩
    simp [World.drewN, Nat.add_assoc])
  obtain ⟨cs, hl, hlc⟩ := h.log
  obtain ⟨a5, c5, hv5, hc5⟩ := hl.shape
  have p5 : w.cell? ⟨L.g, 5, none⟩ = some L.vl := h.cell 5 _ rfl
  rw [hv5] at p5 hl
  obtain ⟨m, hm⟩ : ∃ m, D.log.length = m := ⟨_, rfl⟩
  rw [hm] at p5 hsafe hc5 hlog hl
  obtain ⟨P, hP⟩ : ∃ P, D.log.drop s = P := ⟨_, rfl⟩
  rw [hP]
  have hPl : P.length = m - s := by rw [← hP, List.length_drop, hm]
  have HL := Lib.hid hl
  have HLC := Lib.hid hlc
  have HM := Lib.hid hm
  have HP := Lib.hid hP
  have HPL := Lib.hid hPl
  have s0 : (0 : Int) ≤ (s : Int) := Int.natCast_nonneg _
  have s1 : (s : Int) ≤ (m : Int) := by omega
  have s2 : (m : Int) ≤ (c5 : Int) := by omega
  clear h hs hl hlc hv5 hm hP hPl hsy
  go_enter Try.func21, Try.ntmps21
  go_wp2_with fail
  go_quiet ((first | with_reducible exact KS.out _ | fail))
  obtain ⟨ad, had⟩ : ∃ ad, (if c5 = s then a5 else Option.map (fun x => x.add (s * 4)) a5) = ad := ⟨_, rfl⟩
  rw [had]
  have hrd : ∀ wx, Below w.heap.size w wx → ∀ (i : Nat) (x : Wr), P[i]? = some x → ∃ g off av nv cv, ad = some ⟨g, off, none⟩ ∧ wx.cell? ⟨g, off + i * 4, none⟩ = some (.int .i64 x.i) ∧ wx.cell? ⟨g, off + i * 4 + 1, none⟩ = some (.slice av nv cv) ∧ wx.cell? ⟨g, off + i * 4 + 2, none⟩ = some (.bool x.sure) ∧ wx.cell? ⟨g, off + i * 4 + 3, none⟩ = some (.int .i64 x.m) := by
    intro wx hx i x hix
    rw [← HP.out, List.getElem?_drop] at hix
    obtain ⟨e0, ⟨v, e1, ⟨av, cv, rfl, _⟩⟩, e2, e3, _⟩ := HLC.out.2 _ x hix
    have hm1 := (List.getElem?_eq_some_iff.1 hix).1
    rw [HM.out] at hm1
    obtain ⟨g, off, cap, hv, _, hlt, _, hcell⟩ := OwnG.form HL.out (by omega)
    injection hv with f1 f2 f3
    have hc : ∀ j u, cs[j]? = some u → wx.cell? ⟨g, off + j, none⟩ = some u := fun j u hu => (hx.cell (p := ⟨g, off + j, none⟩) hlt).trans (hcell j u hu)
    refine ⟨g, off + s * 4, av, x.b.length, cv, ?_, ?_, ?_, ?_, ?_⟩
    · rw [← had, if_neg (by omega), f1, Option.map_some, Addr.add_lit]
    · have := hc _ _ e0; rwa [show off + (s + i) * 4 = off + s * 4 + i * 4 by omega] at this
    · have := hc _ _ e1; rwa [show off + ((s + i) * 4 + 1) = off + s * 4 + i * 4 + 1 by omega] at this
    · have := hc _ _ e2; rwa [show off + ((s + i) * 4 + 2) = off + s * 4 + i * 4 + 2 by omega] at this
    · have := hc _ _ e3; rwa [show off + ((s + i) * 4 + 3) = off + s * 4 + i * 4 + 3 by omega] at this
  have HRD := Lib.hid hrd
  have HAD := Lib.hid had
  clear hrd had p5
  go_wp2_with fail
  go_loopw [3, 17] (fun vn vi wr => PenR w P vn vi wr) (fun _ vi _ => (m - s) - (intOf vi).toNat)
  case atStart => exact ⟨0, Nat.zero_le _, rfl, rfl, below_drewN (Below.refl _ _) _⟩
  case round =>
    obtain ⟨i, hi, rfl, rfl, hb⟩ := hrel
    have HB := Lib.hid hb
    have i0 : (0 : Int) ≤ (i : Int) := Int.natCast_nonneg _
    clear hb
    by_cases hlt : i < m - s
    · have hltI : (i : Int) < ((m - s : Nat) : Int) := by omega
      have hlP : i < P.length := by rw [HPL.out]; exact hlt
      obtain ⟨x, hx⟩ : ∃ x, P[i]? = some x := ⟨_, List.getElem?_eq_getElem hlP⟩
      obtain ⟨g, off, av, nv, cv, rfl, e0, e1, e2, e3⟩ := HRD.out wr HB.out i x hx
      have HS : Hid (openN (P.take (i + 1)) = openN (P.take i) + if x.sure = true then 0 else 1) := Lib.hid (by
        rw [List.take_succ_eq_append_getElem hlP, openN_snoc]
        have : P[i] = x := by rw [List.getElem?_eq_getElem hlP] at hx; injection hx
        rw [this])
      have hle : openN (P.take i) ≤ 1000000 := by
        have := openN_le (P.take i)
        rw [List.length_take] at this
        omega
      have hb2 : Below w.heap.size w (wr.alloc (.cells #[.int .i64 x.i, .slice av nv cv, .bool x.sure, .int .i64 x.m] 102)) := HB.out.alloc HB.out.size _
      have HB2 := Lib.hid hb2
      have HLP := Lib.hid hlP
      clear hx hb2 hlP
      cases hsu : x.sure with
      | true =>
        rw [hsu] at e2 HS HB2
        rw [if_pos rfl] at HS
        have hfin : PenR w P (.int .i64 (openN (P.take i) : Int)) (.int .i64 ((i : Int) + 1)) (wr.alloc (.cells #[.int .i64 x.i, .slice av nv cv, .bool true, .int .i64 x.m] 102)) := ⟨i + 1, HLP.out, by go_num, by rw [HS.out]; rfl, HB2.out⟩
        have HFIN := Lib.hid hfin
        clear hfin hsu
        go_wp2_with fail
        all_goals go_roundw
        all_goals first
          | (case measure => simp [intOf]; omega)
          | exact HFIN.out
      | false =>
        rw [hsu] at e2 HS HB2
        rw [if_neg (by simp)] at HS
        have hfin : PenR w P (.int .i64 ((openN (P.take i) : Int) + 1)) (.int .i64 ((i : Int) + 1)) (wr.alloc (.cells #[.int .i64 x.i, .slice av nv cv, .bool false, .int .i64 x.m] 102)) := ⟨i + 1, HLP.out, by go_num, by rw [HS.out]; go_num, HB2.out⟩
        have HFIN := Lib.hid hfin
        clear hfin hsu
        go_wp2_with fail
        all_goals go_roundw
        all_goals first
          | (case measure => simp [intOf]; omega)
          | exact HFIN.out
    · have hltI : ¬ ((i : Int) < ((m - s : Nat) : Int)) := by omega
      have HT : Hid (P.take i = P) := Lib.hid (List.take_of_length_le (by rw [HPL.out]; omega))
      go_wp2_with fail
      go_ret
      rw [HT.out]
      exact ⟨rfl, HB.out⟩
end Go.Proofs.Ythenpkimcjdkcaa
