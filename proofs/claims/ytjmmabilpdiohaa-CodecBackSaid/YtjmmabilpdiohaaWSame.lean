/- cofferdamref08.Same: are two lists of writes one? -/
import Derived.Test.YtjmmabilpdiohaaGroup
import Derived.Deep.QuietTactic
import Derived.BigQuiet
namespace Go.Proofs.Ytjmmabilpdiohaa
set_option linter.unusedVariables false
set_option linter.unusedSimpArgs false
open Go.RowKit

def WSRel (l m : List (Int × Int × List UInt8)) (w : World) (i : Value) (wr : World) : Prop :=
  ∃ k : Nat, k ≤ l.length ∧ i = .int .i64 k ∧ l.take k = m.take k ∧ Below w.heap.size w wr

set_option maxRecDepth 100000 in
set_option maxHeartbeats 1000000 in
theorem wsame_any (al : Option Addr) (n cl : Nat) (l : List (Int × Int × List UInt8)) (am : Option Addr) (n' cm : Nat) (m : List (Int × Int × List UInt8)) (w : World) (hn : l.length = n) (hn' : m.length = n') (hl : WrsIn w al l) (hm : WrsIn w am m) (hsm : n ≤ 1000000) (hsm' : n' ≤ 1000000) :
    Calls Try.prog 23 #[.slice al n cl, .slice am n' cm] w fun e w' => e = .returned (.bool (decide (l = m))) ∧ Below w.heap.size w w' := by
  subst hn; subst hn'
  by_cases hlen : l.length = m.length
  · have HL := Lib.hid hl
    have HM := Lib.hid hm
    have HN := Lib.hid hlen
    have hlen1 : (l.length : Int) = (m.length : Int) := by omega
    clear hl hm
    rw [← hlen]
    clear hlen hlen1
    go_enter Try.func23, Try.ntmps23
    go_wp2_with fail
    go_loopw [5] (fun i wr => WSRel l m w i wr) (fun i _ => l.length - (intOf i).toNat)
    case atStart => exact ⟨0, Nat.zero_le _, rfl, rfl, Below.refl _ _⟩
    case round =>
      obtain ⟨k, hk, rfl, htk, hbl⟩ := hrel
      have HB := Lib.hid hbl
      have HTK := Lib.hid htk
      clear hbl htk
      by_cases hlt : k < l.length
      · have hlt' : k < m.length := by have := HN.out; omega
        obtain ⟨b, o, ad, cd, rfl, hb, p1, p2, p3, h1, h2, hrd, _, _⟩ := (HL.out.below HB.out) k hlt
        obtain ⟨b', o', ad', cd', rfl, hb', p1', p2', p3', h1', h2', hrd', _, _⟩ := (HM.out.below HB.out) k hlt'
        have HT1 := Lib.hid (List.take_succ_eq_append_getElem hlt)
        have HT2 := Lib.hid (List.take_succ_eq_append_getElem hlt')
        have HG1 : Hid (l[k]? = some l[k]) := Lib.hid (List.getElem?_eq_getElem hlt)
        have HG2 : Hid (m[k]? = some m[k]) := Lib.hid (List.getElem?_eq_getElem hlt')
        generalize l[k] = x at *
        generalize m[k] = y at *
        obtain ⟨d, s, dt⟩ := x
        obtain ⟨d', s', dt'⟩ := y
        simp only at p1 p2 p3 hrd p1' p2' p3' hrd'
        have q1 := fun j => conv_rd (hrd.drewN j) dt.length cd rfl
        have q2 := fun j => conv_rd (hrd'.drewN j) dt'.length cd' rfl
        have q3 := conv_rd hrd dt.length cd rfl
        have q4 := conv_rd hrd' dt'.length cd' rfl
        have hki : (k : Int) < (l.length : Int) := by omega
        clear hrd hrd' h1 h2 h1' h2'
        by_cases e1 : d = d'
        · subst e1
          by_cases e2 : s = s'
          · subst e2
            by_cases e3 : dt = dt'
            · subst e3
              go_wp2_with fail
              go_quiet (fail)
              go_wp2_with fail
              go_roundw
              case rel => exact ⟨k + 1, by omega, by go_num, by rw [HT1.out, HT2.out, HTK.out], below_drewN HB.out _⟩
              case measure => simp [intOf]; omega
            · have b3 : ((dt == dt') : Bool) = false := beq_false_of_ne e3
              go_wp2_with fail
              go_quiet (fail)
              go_wp2_with fail
              go_ret
              have hne : ¬ l = m := fun h => by
                have h1 := HG1.out
                rw [h, HG2.out] at h1
                simp at h1
                exact e3 h1.symm
              rw [decide_eq_false hne]
              exact ⟨rfl, below_drewN HB.out _⟩
          · have b2 : ((s == s') : Bool) = false := beq_false_of_ne e2
            have b2' : ((s != s') : Bool) = true := by simpa using e2
            go_wp2_with fail
            go_quiet (fail)
            go_wp2_with fail
            go_ret
            have hne : ¬ l = m := fun h => by
              have h1 := HG1.out
              rw [h, HG2.out] at h1
              simp at h1
              exact e2 h1.1.symm
            rw [decide_eq_false hne]
            exact ⟨rfl, below_drewN HB.out _⟩
        · have b1 : ((d == d') : Bool) = false := beq_false_of_ne e1
          have b1' : ((d != d') : Bool) = true := by simpa using e1
          go_wp2_with fail
          go_quiet (fail)
          go_wp2_with fail
          go_ret
          have hne : ¬ l = m := fun h => by
            have h1 := HG1.out
            rw [h, HG2.out] at h1
            simp at h1
            exact e1 h1.1.symm
          rw [decide_eq_false hne]
          exact ⟨rfl, below_drewN HB.out _⟩
      · have hk' : k = l.length := by omega
        subst hk'
        have he : l = m := by
          have h := HTK.out
          rw [List.take_length, HN.out, List.take_length] at h
          exact h
        have HE : Hid (decide (l = m) = true) := Lib.hid (decide_eq_true he)
        clear he
        go_wp2_with fail
        go_ret
        rw [HE.out]
        exact ⟨rfl, HB.out⟩
  · have hne : ¬ l = m := fun h => hlen (by rw [h])
    have HE : Hid (decide (l = m) = false) := Lib.hid (decide_eq_false hne)
    have hlen1 : ¬ (l.length : Int) = (m.length : Int) := by omega
    clear hne hl hm
    go_enter Try.func23, Try.ntmps23
    go_wp2_with fail
    go_ret
    rw [HE.out]
    exact ⟨rfl, Below.refl _ _⟩
end Go.Proofs.Ytjmmabilpdiohaa
