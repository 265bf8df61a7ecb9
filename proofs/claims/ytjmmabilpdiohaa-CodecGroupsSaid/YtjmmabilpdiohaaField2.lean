/- codec: SetField -/
import Derived.Test.YtjmmabilpdiohaaField
import Derived.Test.YtjmmabilpdiohaaCopy
namespace Go.Proofs.Ytjmmabilpdiohaa
set_option linter.unusedVariables false
set_option linter.unusedSimpArgs false
open Go.RowKit

theorem min_ok {a b : Nat} (h : a ≤ b) : a = Nat.min a b := (Nat.min_eq_left h).symm

def setL (l : List UInt8) (i : Int) (f : List UInt8) : List UInt8 := if inS l i f.length then overlay l (i * f.length).toNat f else []
def setE (l : List UInt8) (i : Int) (f : List UInt8) : Int := if inS l i f.length then 0 else 81

theorem setfield_any (a : Option Addr) (n cap : Nat) (l : List UInt8) (i : Int) (af : Option Addr) (nf cf : Nat) (f : List UInt8) (w : World) (hn : l.length = n) (hc : n ≤ cap) (hr : Rd w w.heap.size a (bs l))
    (hnf : f.length = nf) (hrf : Rd w w.heap.size af (bs f)) (hsm : nf ≤ 9223372036854775807) :
    Calls Try.prog 9 #[.slice a n cap, .int .i64 i, .slice af nf cf] w (Made2 (setL l i f) (setE l i f) w) := by
  subst hnf
  have C := Lib.hid (within_any a n cap l i (f.length : Int) w hn)
  unfold setL setE
  have HR := Lib.hid hr
  have HRF := Lib.hid hrf
  have HN := Lib.hid hn
  clear hr hn hrf
  by_cases h : inS l i f.length
  · rw [if_pos h, if_pos h]
    rw [decide_eq_true h] at C
    obtain ⟨k, t, p, q, rfl, he, hp, hq, hq64, hl, ht1, ht, hk, e1, e2⟩ := inS_nat h
    have he : f.length = t := by omega
    subst he
    clear h
    have eN : ((k : Int) * (f.length : Int)).toNat = p := by rw [e1, Int.toNat_natCast]
    rw [eN]
    clear eN hp
    have HL := Lib.hid hl
    have hn := HN.out
    have CC := Lib.hid (clone_any a n cap l w HN.out (by omega) HR.out (Nat.le_refl _))
    have w1 : IntKind.i64.wrap ((k : Int) * (f.length : Int)) = (p : Int) := by rw [e1]; exact IntWalk.i64_in _ (by omega)
    have b1 : (p : Int) ≤ (64 : Int) := by omega
    have HM : Hid (p + f.length ≤ 64) := Lib.hid (by omega)
    clear e1 e2 hn hq hl hq64
    go_enter Try.func9, Try.ntmps9
    go_wp2_with fail
    refine C.out.mono ?_
    rintro e w4 ⟨rfl, rfl⟩
    go_wp2_with fail
    refine CC.out.mono ?_
    rintro e w5 ⟨a5, n5, c5, rfl, hown5, hb5⟩
    obtain ⟨g, off, rfl, rfl, hg1, hg2, hc5, _⟩ := hown5.formS (by have := HL.out; omega)
    have HO5 := Lib.hid hown5
    have HB5 := Lib.hid hb5
    clear hown5 hb5
    have hl : l.length = 64 := HL.out
    have hl2 : (l.length : Int) = 64 := by omega
    have hcp : ¬ c5 = p := by have := HM.out; omega
    go_wp2_with ((with_reducible show wpList _ _ _ _ _ _); (refine wpList_copyB rfl (.tmp 22) (.tmp 23) _ _ rfl Try.underlying22 _ _ _ _ _ _ rfl rfl w.heap.size g off c5 l HO5.out p f (min_ok (by have := HM.out; omega)) (by have := HM.out; omega) (fun _ => rfl) (HRF.out.below HB5.out) ?_))
    intro w6 hown6 hgr6
    have hb6 := HB5.out.grown hgr6 HB5.out.size (fun j hj => by cases hj; exact hg1)
    have HO6 := Lib.hid hown6
    clear hown6 HO5
    go_wp2_with fail
    go_ret2
    refine ⟨_, _, _, rfl, ?_, hb6⟩
    have := HO6.out
    simpa [hl] using this
  · rw [if_neg h, if_neg h]
    rw [decide_eq_false h] at C
    clear h
    go_enter Try.func9, Try.ntmps9
    go_wp2_with fail
    refine C.out.mono ?_
    rintro e w4 ⟨rfl, rfl⟩
    go_wp2_with fail
    go_ret2
    exact ⟨_, _, _, rfl, OwnB.nil _ _, Below.refl _ _⟩

theorem rsetfield_any (a : Option Addr) (n cap : Nat) (l : List UInt8) (i : Int) (af : Option Addr) (nf cf : Nat) (f : List UInt8) (w : World) (hn : l.length = n) (hc : n ≤ cap) (hr : Rd w w.heap.size a (bs l))
    (hnf : f.length = nf) (hrf : Rd w w.heap.size af (bs f)) (hsm : nf ≤ 9223372036854775807) :
    Calls Try.prog 14 #[.slice a n cap, .int .i64 i, .slice af nf cf] w (Made2 (setL l i f) (setE l i f) w) := by
  subst hnf
  have C := Lib.hid (rwithin_any a n cap l i (f.length : Int) w hn)
  unfold setL setE
  have HR := Lib.hid hr
  have HRF := Lib.hid hrf
  have HN := Lib.hid hn
  clear hr hn hrf
  by_cases h : inS l i f.length
  · rw [if_pos h, if_pos h]
    rw [decide_eq_true h] at C
    obtain ⟨k, t, p, q, rfl, he, hp, hq, hq64, hl, ht1, ht, hk, e1, e2⟩ := inS_nat h
    have he : f.length = t := by omega
    subst he
    clear h
    have eN : ((k : Int) * (f.length : Int)).toNat = p := by rw [e1, Int.toNat_natCast]
    rw [eN]
    clear eN hp
    have HL := Lib.hid hl
    have HQ := Lib.hid hq
    have hn := HN.out
    have w1 : IntKind.i64.wrap ((k : Int) * (f.length : Int)) = (p : Int) := by rw [e1]; exact IntWalk.i64_in _ (by omega)
    have w2 : IntKind.i64.wrap ((k : Int) + 1) = (k : Int) + 1 := IntWalk.i64_in _ (by omega)
    have w3 : IntKind.i64.wrap (((k : Int) + 1) * (f.length : Int)) = (q : Int) := by rw [e2]; exact IntWalk.i64_in _ (by omega)
    have b1 : (p : Int) ≤ (cap : Int) := by omega
    have b2 : (q : Int) ≤ (n : Int) := by omega
    have b3 : (n : Int) ≤ (cap : Int) := by omega
    obtain ⟨X, hX⟩ : ∃ X, X = l.take p := ⟨_, rfl⟩
    obtain ⟨Y, hY⟩ : ∃ Y, Y = l.drop q := ⟨_, rfl⟩
    have HR1 : Hid (Rd (w.alloc (Obj.cells #[] 5)) w.heap.size a (bs X)) := Lib.hid (by rw [hX, bs_take]; exact (HR.out.alloc (Nat.le_refl _) _).take _)
    have HL1 : Hid (X.length = p) := Lib.hid (by rw [hX]; simp; omega)
    have HL2 : Hid (Y.length = n - q) := Lib.hid (by rw [hY]; simp; omega)
    have HOV : Hid (overlay l p f = X ++ f ++ Y) := Lib.hid (by rw [hX, hY, hq, overlay, List.append_assoc])
    have HY := Lib.hid hY
    clear hX hY
    have HS : Hid (p + f.length ≤ 64 ∧ n = 64) := Lib.hid (by omega)
    clear e1 e2 hn hq hl hq64
    go_enter Try.func14, Try.ntmps14
    go_wp2_with fail
    refine C.out.mono ?_
    rintro e w4 ⟨rfl, rfl⟩
    go_wp2_with (at_builtin; (refine wpList_app rfl _ _ rfl w.heap.size _ [] rfl (OwnB.lit0 w) w.heap.size _ _ _ X rfl HL1.out HR1.out (by have := HS.out; simp; omega) (by simp) ?_))
    intro v2 w2 hown2 hgr2 hat2
    obtain ⟨L2, hL2⟩ : ∃ L, L = X := ⟨_, rfl⟩
    rw [← hL2] at hown2
    have HL22 := Lib.hid hL2
    clear hL2
    have hb2 := below_app ((Below.refl w.heap.size w).alloc (Nat.le_refl _) _) (OwnB.lit0 w) (Nat.le_refl _) hgr2
    obtain ⟨a2, c2, rfl, _⟩ := hown2.shape
    have HO := Lib.hid hown2
    have HB := Lib.hid hb2
    have hz := hb2.size
    clear hown2 hb2 hat2 hgr2 HR1
    go_wp2_with (at_builtin; (refine wpList_app rfl _ _ rfl w.heap.size _ _ rfl HO.out w.heap.size _ _ _ f rfl rfl (HRF.out.below HB.out) (by have := HS.out; have := HL1.out; rw [HL22.out]; simp; omega) hz ?_))
    intro v3 w3 hown3 hgr3 hat3
    obtain ⟨L3, hL3⟩ : ∃ L, L = L2 ++ f := ⟨_, rfl⟩
    rw [← hL3] at hown3
    have HL33 := Lib.hid hL3
    clear hL3
    have hb3 := below_app HB.out HO.out (Nat.le_refl _) hgr3
    obtain ⟨a3, c3, rfl, _⟩ := hown3.shape
    have HO3 := Lib.hid hown3
    have HB3 := Lib.hid hb3
    have hz3 := hb3.size
    clear hown3 hb3 hat3 hgr3 HO HB hz
    have HR3 : Hid (Rd w3 w.heap.size (if cap = q then a else a.map (·.add q)) (bs Y)) := Lib.hid (by rw [HY.out, bs_drop]; exact (HR.out.below HB3.out).cut (by rw [bs_length, HN.out]; omega))
    go_wp2_with (at_builtin; (refine wpList_app rfl _ _ rfl w.heap.size _ _ rfl HO3.out w.heap.size _ _ _ Y rfl HL2.out HR3.out (by have := HS.out; have := HL1.out; have := HL2.out; rw [HL33.out, HL22.out]; simp; omega) hz3 ?_))
    all_goals
      intro v4 w4 hown4 hgr4 hat4
      have hb4 := below_app HB3.out HO3.out (Nat.le_refl _) hgr4
      have e4 : L3 ++ Y = overlay l p f := by rw [HL33.out, HL22.out, HOV.out]
      rw [e4] at hown4
      obtain ⟨a4, c4, rfl, _⟩ := hown4.shape
      have HO4 := Lib.hid hown4
      have HB4 := Lib.hid hb4
      clear hown4 hb4 hat4 hgr4 e4
      go_wp2_with fail
      go_ret2
      exact ⟨_, _, _, rfl, HO4.out, HB4.out⟩
  · rw [if_neg h, if_neg h]
    rw [decide_eq_false h] at C
    clear h
    go_enter Try.func14, Try.ntmps14
    go_wp2_with fail
    refine C.out.mono ?_
    rintro e w4 ⟨rfl, rfl⟩
    go_wp2_with fail
    go_ret2
    exact ⟨_, _, _, rfl, OwnB.nil _ _, Below.refl _ _⟩
end Go.Proofs.Ytjmmabilpdiohaa
