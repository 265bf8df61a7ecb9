/- the document's handshake: size -/
import Derived.Test.YtnpcpbjoonjaoaaSkN
namespace Go.Proofs.Ytnpcpbjoonjaoaa
set_option linter.unusedVariables false
set_option linter.unusedSimpArgs false
open Go.RowKit

/-- The document's handshake in its block. -/
def RkAt (w : World) (g : Nat) (s : Sk) : Prop := Blk w g 67 s.cells

set_option maxRecDepth 20000 in
set_option maxHeartbeats 4000000 in
theorem rsize_any (g : Nat) (s : Sk) (w : World) (hb : RkAt w g s) (hsec : s.sectors ≤ 8192) :
    Calls Try.prog 56 #[.pointer (some ⟨g, 0, none⟩)] w (MsgPost (expL s) w) := by
  obtain ⟨nm, sec, ro, ph, st, bare⟩ := s
  have k1 : w.cell? ⟨g, 1, none⟩ = some (.int .i64 (sec : Int)) := hb.cell 1 _ rfl
  have hsec : sec ≤ 8192 := hsec
  have HK := Lib.hid hb
  have he : expL ⟨nm, sec, ro, ph, st, bare⟩ = bytesOf (sec * 64) 8 ++ bytesOf (if ro then 367 else 365) 2 := by simp [expL, numB]
  have HE := Lib.hid he
  have hc1 := bytes_good (sec * 64) 8 w (by omega) (by omega) (by omega)
  rw [show ((sec * 64 : Nat) : Int) = 64 * (sec : Int) by omega] at hc1
  have HC1 := Lib.hid hc1
  have s0 : (0 : Int) ≤ (sec : Int) := Int.natCast_nonneg sec
  clear hb he hc1
  go_enter Try.func56, Try.ntmps56
  go_wp2_with fail
  refine HC1.out.mono ?_
  rintro e w1 ⟨rfl, hown, hb1⟩
  have HO := Lib.hid hown
  have HB1 := Lib.hid hb1
  have k2 : w1.cell? ⟨g, 2, none⟩ = some (.bool ro) := (Blk.below HK.out hb1).cell 2 _ rfl
  clear hown hb1 k1
  obtain ⟨f, hf⟩ : ∃ f : Nat, (if ro then 367 else 365) = f := ⟨_, rfl⟩
  have hf2 : f < 65536 := by rw [← hf]; split <;> omega
  rw [hf] at HE
  go_upto_if 15 with (fail)
  go_cut [4] (fun v wn => v = .int .u64 (f : Int) ∧ wn = w1)
  case first =>
    cases ro with
    | true =>
      go_wp2_with fail
      go_meet
      exact ⟨by rw [← hf]; rfl, rfl⟩
    | false =>
      go_wp2_with fail
      go_meet
      exact ⟨by rw [← hf]; rfl, rfl⟩
  case rest =>
    obtain ⟨rfl, hw⟩ := hcut
    subst hw
    rename World => w1
    have HC2 := Lib.hid (bytes_good f 2 w1 (by omega) (by omega) (by omega))
    go_wp2_with fail
    refine HC2.out.mono ?_
    rintro e w2 ⟨rfl, hown2, hb2⟩
    have HO2 : Hid (OwnB w2 w.heap.size (.slice (some ⟨w.heap.size, 0, none⟩) 8 8) (bytesOf (sec * 64) 8)) := Lib.hid (OwnG.below HO.out hb2)
    have HR2 := Lib.hid (OwnB.rd hown2)
    have HB2 := Lib.hid (HB1.out.trans (hb2.mono HB1.out.size))
    clear hown2 hb2 HO HC2
    go_wp2_with (at_builtin; refine wpList_app rfl _ _ rfl w.heap.size _ _ rfl HO2.out w2.heap.size _ 2 2 (bytesOf f 2) rfl (bytesOf_length _ _) HR2.out (by simp [bytesOf_length]) HB2.out.size ?_)
    intro v3 w3 hown3 hgr3 hat3
    have HB3 := Lib.hid (below_app HB2.out HO2.out (Nat.le_refl _) hgr3)
    obtain ⟨a3, c3, rfl, _⟩ := OwnG.shape hown3
    have HO3 := Lib.hid hown3
    clear hown3 hgr3 hat3
    go_wp2_with fail
    go_ret
    rw [HE.out]
    exact ⟨_, _, _, rfl, HO3.out, HB3.out⟩
end Go.Proofs.Ytnpcpbjoonjaoaa
