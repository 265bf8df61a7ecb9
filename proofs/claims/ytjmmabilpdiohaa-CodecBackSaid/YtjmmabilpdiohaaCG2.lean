/- codec's groups: there and back, plain facts -/
import Derived.Test.YtjmmabilpdiohaaCG1
namespace Go.Proofs.Ytjmmabilpdiohaa
set_option linter.unusedVariables false
set_option linter.unusedSimpArgs false
open Go.RowKit

theorem OwnB.capm {w : World} {base n c : Nat} {a : Option Addr} {l : List UInt8} (h : OwnB w base (.slice a n c) l) : n ≤ c ∧ c ≤ 9223372036854775807 := by
  rcases h.2 with ⟨h', h0⟩ | ⟨_, _, _, _, _, _, hv, _, _, _, _, hc, hm, _⟩
  · injection h' with _ _ e3; subst e3; have := h.len; omega
  · injection hv with _ _ e; subst e; have := h.len; unfold maxLen at hm; omega

theorem parse1_wrL (x : Int × Int × List UInt8) (r : List UInt8) (h : mayW x = true) : parse1 (wrL x ++ r) = x := by
  have hm := of_decide_eq_true h
  obtain ⟨d, s, dt⟩ := x
  simp only at hm
  obtain ⟨h1, h2, h3, h4, h5⟩ := hm
  have e1 : (wrL (d, s, dt) ++ r).take 1 = [UInt8.ofNat d.toNat] := by simp [wrL]
  have e2 : ((wrL (d, s, dt) ++ r).drop 1).take 4 = bytesOf s.toNat 4 := by
    simp only [wrL, List.cons_append, List.drop_succ_cons, List.drop_zero, List.append_assoc]
    rw [List.take_append_of_le_length (by rw [bytesOf_length]; omega), List.take_of_length_le (by rw [bytesOf_length]; omega)]
  have e3 : ((wrL (d, s, dt) ++ r).drop 5).take 64 = dt := by
    simp only [wrL, List.cons_append, List.drop_succ_cons, List.append_assoc]
    rw [List.drop_append, List.drop_of_length_le (by rw [bytesOf_length]; omega), bytesOf_length]
    simp only [Nat.sub_self, List.drop_zero, List.nil_append]
    rw [List.take_append_of_le_length (by omega), List.take_of_length_le (by omega)]
  rw [parse1, e1, e2, e3, numOf_bytesOf]
  have : numOf [UInt8.ofNat d.toNat] = d.toNat := by
    simp [numOf, UInt8.toNat_ofNat']; omega
  rw [this]
  refine Prod.ext ?_ (Prod.ext ?_ rfl)
  · simp; omega
  · simp; omega

theorem parse_flat (ws : List (Int × Int × List UInt8)) (h : ws.all mayW = true) : parseN ws.length (ws.flatMap wrL) = ws := by
  induction ws with
  | nil => rfl
  | cons x ws ih =>
    simp only [List.all_cons, Bool.and_eq_true] at h
    rw [List.length_cons, parseN, List.flatMap_cons, parse1_wrL x _ h.1, List.drop_append, List.drop_of_length_le (by rw [wrL_length h.1]; omega), wrL_length h.1]
    simp only [Nat.sub_self, List.drop_zero, List.nil_append]
    rw [ih h.2]

theorem group_back (ws : List (Int × Int × List UInt8)) (h : groupOk ws = true) : ungOk (groupL ws) = true ∧ ungW (groupL ws) = ws ∧ groupE ws = 0 ∧ 2 ≤ (groupL ws).length := by
  have hg := h
  simp only [groupOk, Bool.and_eq_true, decide_eq_true_eq] at hg
  have hl : groupL ws = bytesOf ws.length 2 ++ ws.flatMap wrL := by rw [groupL, h, if_pos rfl]
  have h2 : (groupL ws).take 2 = bytesOf ws.length 2 := by
    rw [hl, List.take_append_of_le_length (by rw [bytesOf_length]; omega), List.take_of_length_le (by rw [bytesOf_length]; omega)]
  have hd : (groupL ws).drop 2 = ws.flatMap wrL := by
    rw [hl, List.drop_append, List.drop_of_length_le (by rw [bytesOf_length]; omega), bytesOf_length]
    simp
  have hN : ungN (groupL ws) = ws.length := by rw [ungN, h2, numOf_bytesOf]; omega
  have hlen : (groupL ws).length = 2 + 69 * ws.length := by rw [hl, List.length_append, bytesOf_length, flat69 _ hg.2]
  have hok : ungOk (groupL ws) = true := by
    simp only [ungOk, Bool.and_eq_true, decide_eq_true_eq, hN, hd, parse_flat ws hg.2]
    exact ⟨by omega, hg.1, by omega, hg.2⟩
  refine ⟨hok, ?_, ?_, by omega⟩
  · rw [ungW, hok, if_pos rfl, hN, hd, parse_flat ws hg.2]
  · rw [groupE, h]; rfl

theorem ung_back (b : List UInt8) (h : ungOk b = true) : groupOk (ungW b) = true ∧ groupL (ungW b) = b ∧ ungE b = 0 := by
  have hu := h
  simp only [ungOk, Bool.and_eq_true, decide_eq_true_eq] at hu
  obtain ⟨h1, h2⟩ := rung_pure b (ungN b) (by omega) (by omega) (by omega)
  rw [h2 h]
  obtain ⟨h3, h4⟩ := h1.2 h
  exact ⟨h3, h4, by rw [ungE, h]; rfl⟩

theorem ung_len (b : List UInt8) (h : ungOk b = true) : 2 ≤ b.length ∧ ungN b * 69 = b.length - 2 := by
  simp only [ungOk, Bool.and_eq_true, decide_eq_true_eq] at h
  exact ⟨h.1, h.2.2.1⟩

theorem ung_take (b : List UInt8) (k : Nat) (h : ungOk b = true) (hk : k < b.length) : ungOk (b.take k) = false := by
  cases hu : ungOk (b.take k) with
  | false => rfl
  | true =>
    exfalso
    obtain ⟨h1, h2⟩ := ung_len b h
    obtain ⟨h3, h4⟩ := ung_len _ hu
    rw [List.length_take] at h3 h4
    have : ungN (b.take k) = ungN b := by rw [ungN, ungN, List.take_take, show min 2 k = 2 by omega]
    omega

theorem ung_app (b m : List UInt8) (h : ungOk b = true) (hm : 0 < m.length) : ungOk (b ++ m) = false := by
  cases hu : ungOk (b ++ m) with
  | false => rfl
  | true =>
    exfalso
    obtain ⟨h1, h2⟩ := ung_len b h
    obtain ⟨h3, h4⟩ := ung_len _ hu
    rw [List.length_append] at h3 h4
    have : ungN (b ++ m) = ungN b := by rw [ungN, ungN, List.take_append_of_le_length h1]
    omega

theorem ungW_small (b : List UInt8) : (ungW b).length ≤ 100 := by
  unfold ungW
  cases hu : ungOk b with
  | false => simp
  | true =>
    simp only [ungOk, Bool.and_eq_true, decide_eq_true_eq] at hu
    rw [if_pos rfl, parseN_length]; omega
theorem group_no (ws : List (Int × Int × List UInt8)) (h : groupOk ws = false) : groupL ws = [] ∧ groupE ws = 81 := by
  rw [groupL, groupE, h]; exact ⟨rfl, rfl⟩
theorem ung_no (b : List UInt8) (h : ungOk b = false) : ungW b = [] ∧ ungE b = 81 := by
  rw [ungW, ungE, h]; exact ⟨rfl, rfl⟩
end Go.Proofs.Ytjmmabilpdiohaa
