/- shake: the option that ends the handshake at once -/
import Derived.Test.YtnpcpbjoonjaoaaSkB
namespace Go.Proofs.Ytnpcpbjoonjaoaa
set_option linter.unusedVariables false
set_option linter.unusedSimpArgs false
open Go.RowKit

def expName (s : Sk) (nm : List UInt8) : Sk × List UInt8 :=
  if nm ≠ [] ∧ nm ≠ s.name then ({ s with phase := 3 }, []) else ({ s with phase := 2 }, if s.bare then expL s else expL s ++ zeros 124)

/-- A call's bytes; the handshake turns, else nothing that was there. -/
def SkPost (g : Nat) (r : Sk × List UInt8) (w : World) (e : Ending) (w' : World) : Prop :=
  ∃ a n c, e = .returned (.slice a n c) ∧ OwnB w' w.heap.size (.slice a n c) r.2 ∧ SkAt w' g r.1 ∧ w.grownBy w' (some g)

theorem grown_below {w w1 w2 : World} {g : Nat} (h : w.grownBy w1 (some g)) (hb : Below w1.heap.size w1 w2) : w.grownBy w2 (some g) :=
  ⟨hb.os.trans h.os, hb.tape.trans h.tape, hb.output.trans h.output, Nat.le_trans h.size hb.size, fun k hk hne => (hb.block k (by have := h.size; omega)).trans (h.block k hk hne)⟩

theorem Sk.set_phase (s : Sk) (p : Nat) : s.cells.set 3 (.int .i64 (p : Int)) = ({ s with phase := p } : Sk).cells := rfl
theorem SkAt.phase {w : World} {g : Nat} {s : Sk} (h : SkAt w g s) (p : Nat) : SkAt (w.setCell ⟨g, 3, none⟩ (.int .i64 (p : Int))) g { s with phase := p } := by
  have := Blk.set h 3 (.int .i64 (p : Int))
  rwa [Sk.set_phase] at this

set_option maxHeartbeats 1000000 in
theorem exportName_any (g : Nat) (s : Sk) (nm : List UInt8) (w : World) (hb : SkAt w g s) (hsec : s.sectors ≤ 8192) :
    Calls Try.prog 54 #[.pointer (some ⟨g, 0, none⟩), .string ⟨nm.toArray⟩] w (SkPost g (expName s nm) w) := by
  obtain ⟨nm0, sec, ro, ph, st, bare⟩ := s
  have HB := Lib.hid hb
  have HS := Lib.hid hsec
  have k0 : w.cell? ⟨g, 0, none⟩ = some (.string ⟨nm0.toArray⟩) := hb.cell 0 _ rfl
  have k3 : w.cell? ⟨g, 3, none⟩ = some (.int .i64 (ph : Int)) := hb.cell 3 _ rfl
  have f3 := Blk.frozen hb 3
  clear hb hsec
  by_cases hbad : nm ≠ [] ∧ nm ≠ nm0
  · have HF : Hid (expName ⟨nm0, sec, ro, ph, st, bare⟩ nm = (⟨nm0, sec, ro, 3, st, bare⟩, [])) := Lib.hid (by rw [expName, if_pos hbad])
    have e1 : nm.isEmpty = false := by cases nm with
      | nil => exact absurd rfl hbad.1
      | cons => rfl
    have e2 : (nm == nm0) = false := beq_eq_false_iff_ne.2 hbad.2
    clear hbad
    go_enter Try.func54, Try.ntmps54
    go_wp2_with fail
    refine bodyPost_ret (v := .slice none 0 0) (by simp [results, Try.results54, go_sem]) rfl ?_
    rw [HF.out]
    exact ⟨none, 0, 0, rfl, OwnG.nil _ _ _ _, HB.out.phase 3, grownBy_setI _⟩
  · have HF : Hid (expName ⟨nm0, sec, ro, ph, st, bare⟩ nm = (⟨nm0, sec, ro, 2, st, bare⟩, if bare then expL ⟨nm0, sec, ro, 2, st, bare⟩ else expL ⟨nm0, sec, ro, 2, st, bare⟩ ++ zeros 124)) := Lib.hid (by rw [expName, if_neg hbad]; rfl)
    have hT : Hid (nm.isEmpty = true ∨ (nm.isEmpty = false ∧ (nm == nm0) = true)) := Lib.hid (by
      cases nm with
      | nil => exact .inl rfl
      | cons x l => exact .inr ⟨rfl, by
          rcases Classical.em (x :: l = nm0) with h | h
          · exact beq_iff_eq.2 h
          · exact absurd ⟨by simp, h⟩ hbad⟩)
    clear hbad
    have hb2 := HB.out.phase 2
    have hg2 : w.grownBy (w.setCell ⟨g, 3, none⟩ (.int .i64 2)) (some g) := grownBy_setI _
    have HB2 := Lib.hid hb2
    have HG2 := Lib.hid hg2
    have HC := Lib.hid (export_any g ⟨nm0, sec, ro, 2, st, bare⟩ _ hb2 HS.out)
    obtain ⟨E, hE⟩ : ∃ E, expL ⟨nm0, sec, ro, 2, st, bare⟩ = E := ⟨_, rfl⟩
    have hEl : E.length = 10 := by rw [← hE]; exact expL_length _
    rw [hE] at HC HF
    have HEL := Lib.hid hEl
    clear hb2 hg2 hE hEl
    go_enter Try.func54, Try.ntmps54
    rcases hT.out with h1 | ⟨h1, h2⟩
    case' inl => clear hT
    case' inr => clear hT
    all_goals
      go_wp2_with fail
      refine HC.out.mono ?_
      rintro e w2 ⟨a2, n2, c2, rfl, hown2, hb2⟩
      have hsz := World.size_setCell w ⟨g, 3, none⟩ (.int .i64 ((2 : Nat) : Int))
      rw [hsz] at hown2
      have hn2 := OwnB.len hown2
      rw [HEL.out] at hn2
      subst hn2
      have HO2 := Lib.hid hown2
      have HK2 := Lib.hid (Blk.below HB2.out hb2)
      have HG3 := Lib.hid (grown_below HG2.out hb2)
      have HZ := Lib.hid (Nat.le_trans (Nat.le_of_eq hsz.symm) hb2.size)
      have k5 : w2.cell? ⟨g, 5, none⟩ = some (.bool bare) := HK2.out.cell 5 _ rfl
      have S1 : Hid (E.length + 124 ≤ 140737488355328) := Lib.hid (by rw [HEL.out]; omega)
      clear hown2 hb2 hsz k0 k3 f3
      cases bare with
      | true =>
        go_wp2_with fail
        refine bodyPost_ret (v := .slice a2 10 c2) (by simp [results, Try.results54, go_sem]) rfl ?_
        rw [HF.out]
        exact ⟨a2, 10, c2, rfl, HO2.out, HK2.out, HG3.out⟩
      | false =>
        go_wp2_with (at_builtin; refine wpList_appz rfl _ _ rfl w.heap.size _ _ rfl HO2.out 124 124 rfl rfl S1.out HZ.out ?_)
        intro v3 w3 hown3 hgr3 hat3
        have hgr3 : w2.grownBy w3 (Value.slice a2 10 c2).ownBlock := hgr3
        have hl3 : (E ++ zeros 124).length = 134 := by rw [List.length_append, HEL.out, zeros_length]
        obtain ⟨a3, c3, rfl, _⟩ := OwnG.shape hown3
        rw [hl3] at hown3 ⊢
        have hlt := OwnG.lt HO2.out
        have HK3 : Hid (SkAt w3 g ⟨nm0, sec, ro, 2, st, false⟩) := Lib.hid (HK2.out.keep (hgr3.block g HK2.out.lt (fun e => by have := (hlt g e.symm).1; have := HB.out.lt; omega)))
        have HG4 : Hid (w.grownBy w3 (some g)) := Lib.hid ⟨hgr3.os.trans HG3.out.os, hgr3.tape.trans HG3.out.tape, hgr3.output.trans HG3.out.output, Nat.le_trans HG3.out.size hgr3.size, fun k hk hne => (hgr3.block k (by have := HG3.out.size; omega) (fun e => by have := (hlt k e.symm).1; omega)).trans (HG3.out.block k hk hne)⟩
        have HO3 := Lib.hid hown3
        clear hown3 hgr3 hat3 hlt hl3
        go_wp2_with fail
        refine bodyPost_ret (v := .slice a3 134 c3) (by simp [results, Try.results54, go_sem]) rfl ?_
        rw [HF.out]
        exact ⟨a3, 134, c3, rfl, HO3.out, HK3.out, HG4.out⟩
end Go.Proofs.Ytnpcpbjoonjaoaa
