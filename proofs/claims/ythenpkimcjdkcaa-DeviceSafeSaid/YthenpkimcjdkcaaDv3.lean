/- devices: the calls that only read -/
import Derived.Test.YthenpkimcjdkcaaDv2
namespace Go.Proofs.Ythenpkimcjdkcaa
set_option linter.unusedVariables false
set_option linter.unusedSimpArgs false
open Go.RowKit

/-- Why a sector can't be come to. -/
def faultN (D : Dv) (i : Int) : Int := if D.dead = true then 73 else if i < 0 ∨ (D.n : Int) ≤ i then 71 else 0

theorem fault_any {w : World} {L : Lay} {I : Nat → Prop} {D : Dv} (h : DevAt w L I D) (i : Int) :
    Calls Try.prog 60 #[.pointer (some ⟨L.g, 0, none⟩), .int .i64 i] w fun e w' => e = .returned (.int .i64 (faultN D i)) ∧ w = w' := by
  have k0 := h.cell 0 _ rfl
  have k4 := h.cell 4 _ rfl
  obtain ⟨r, hr⟩ : ∃ r, faultN D i = r := ⟨_, rfl⟩
  rw [hr]
  have HR := Lib.hid hr
  clear h hr
  go_enter Try.func60, Try.ntmps60
  by_cases hd : D.dead = true
  · have HE : Hid (r = 73) := Lib.hid (by rw [← HR.out, faultN, if_pos hd])
    rw [hd] at k4
    go_wp2_with fail
    go_ret
    rw [HE.out]
    exact ⟨rfl, rfl⟩
  · have hd2 : D.dead = false := by simpa using hd
    rw [hd2] at k4
    by_cases h1 : i < 0
    · have HE : Hid (r = 71) := Lib.hid (by rw [← HR.out, faultN, if_neg hd, if_pos (.inl h1)])
      clear hd hd2
      go_wp2_with fail
      go_ret
      rw [HE.out]
      exact ⟨rfl, rfl⟩
    · by_cases h2 : (D.n : Int) ≤ i
      · have HE : Hid (r = 71) := Lib.hid (by rw [← HR.out, faultN, if_neg hd, if_pos (.inr h2)])
        clear hd hd2
        go_wp2_with fail
        go_ret
        rw [HE.out]
        exact ⟨rfl, rfl⟩
      · have HE : Hid (r = 0) := Lib.hid (by rw [← HR.out, faultN, if_neg hd, if_neg (fun h => h.elim h1 h2)])
        clear hd hd2
        go_wp2_with fail
        go_ret
        rw [HE.out]
        exact ⟨rfl, rfl⟩
theorem fault_nil (i : Int) (w : World) : Calls Try.prog 60 #[.pointer none, .int .i64 i] w fun e w' => e = .returned (.int .i64 1) ∧ w = w' := by
  go_enter Try.func60, Try.ntmps60
  go_wp2_with fail
  go_ret
  exact ⟨rfl, rfl⟩
theorem dead_any {w : World} {L : Lay} {I : Nat → Prop} {D : Dv} (h : DevAt w L I D) :
    Calls Try.prog 29 #[.pointer (some ⟨L.g, 0, none⟩)] w fun e w' => e = .returned (.bool D.dead) ∧ w = w' := by
  have k4 := h.cell 4 _ rfl
  clear h
  go_enter Try.func29, Try.ntmps29
  go_wp2_with fail
  go_ret
  exact ⟨rfl, rfl⟩
theorem writes_any {w : World} {L : Lay} {I : Nat → Prop} {D : Dv} (h : DevAt w L I D) :
    Calls Try.prog 26 #[.pointer (some ⟨L.g, 0, none⟩)] w fun e w' => e = .returned (.int .i64 (D.log.length : Int)) ∧ w = w' := by
  have k5 := h.cell 5 _ rfl
  obtain ⟨cs, hl, _⟩ := h.log
  obtain ⟨a, c, hv, _⟩ := hl.shape
  rw [hv] at k5
  clear h hl hv
  go_enter Try.func26, Try.ntmps26
  go_wp2_with fail
  go_ret
  exact ⟨rfl, rfl⟩
theorem bad_any {w : World} {L : Lay} {I : Nat → Prop} {D : Dv} (h : DevAt w L I D) (i : Int) (h1 : -9223372036854775808 ≤ i) (h2 : i ≤ 9223372036854775807) :
    Calls Try.prog 25 #[.pointer (some ⟨L.g, 0, none⟩), .int .i64 i] w fun e w' => e = .returned (.bool (D.bad i)) ∧ w = w' := by
  have k3 := h.cell 3 _ rfl
  have hl := h.bad.look i h1 h2
  clear h h1 h2
  go_enter Try.func25, Try.ntmps25
  go_wp2_with fail
  go_ret
  exact ⟨rfl, rfl⟩
theorem safe_any {w : World} {L : Lay} {I : Nat → Prop} {D : Dv} (h : DevAt w L I D) (hlen : D.syncs.length ≤ 1000000) :
    Calls Try.prog 63 #[.pointer (some ⟨L.g, 0, none⟩)] w fun e w' => e = .returned (.int .i64 (((D.syncs.getLast?.map (·.1)).getD 0 : Nat) : Int)) ∧ ∃ n, w' = w.drewN n := by
  have k6 := h.cell 6 _ rfl
  obtain ⟨a, c, hv, hc⟩ := OwnG.shape h.syncs
  have hs := h.syncs
  rw [hv] at k6 hs
  have HS := Lib.hid hs
  obtain ⟨r, hr⟩ : ∃ r, (D.syncs.getLast?.map (·.1)).getD 0 = r := ⟨_, rfl⟩
  rw [hr]
  have HR := Lib.hid hr
  obtain ⟨m, hm⟩ : ∃ m, D.syncs.length = m := ⟨_, rfl⟩
  rw [hm] at k6 hlen HS
  have HM := Lib.hid hm
  clear h hs hv hr hm
  go_enter Try.func63, Try.ntmps63
  by_cases h0 : m = 0
  · have HE : Hid (r = 0) := Lib.hid (by
      have : D.syncs = [] := List.eq_nil_of_length_eq_zero (HM.out.trans h0)
      rw [← HR.out, this]; rfl)
    subst h0
    go_wp2_with fail
    go_ret
    rw [HE.out]
    exact ⟨rfl, 0, rfl⟩
  · have h0I : ((m : Int) == 0) = false := beq_eq_false_iff_ne.2 (by omega)
    obtain ⟨g, off, cap, hv, _, _, _, hcell⟩ := OwnG.form HS.out (by omega)
    injection hv with e1 e2 e3
    subst e1
    have hget : D.syncs[m - 1]? = D.syncs.getLast? := by rw [List.getLast?_eq_getElem?, HM.out]
    obtain ⟨p, hp⟩ : ∃ p, D.syncs.getLast? = some p := by
      rw [← hget]
      exact ⟨_, List.getElem?_eq_getElem (by rw [HM.out]; omega)⟩
    have HE : Hid (r = p.1) := Lib.hid (by rw [← HR.out, hp]; rfl)
    have q0 := hcell ((m - 1) * 2) _ (syncC_get D.syncs (m - 1) p (hget.trans hp)).1
    have i0 : (0 : Int) ≤ (m : Int) - 1 := by omega
    have i1 : (m : Int) - 1 < (m : Int) := by omega
    have i2 : ((m : Int) - 1).toNat = m - 1 := by omega
    have i3 : (1 : Int) ≤ (m : Int) := by omega
    have i4 : IntKind.i64.wrap ((m : Int) - 1) = (m : Int) - 1 := IntWalk.i64_in _ (by omega)
    have i5 : m - 1 < m := by omega
    clear hcell hget hp h0
    go_wp2_with fail
    go_quiet (fail)
    go_wp2_with fail
    go_ret
    rw [HE.out]
    exact ⟨rfl, _, rfl⟩
theorem size_any {w : World} {L : Lay} {I : Nat → Prop} {D : Dv} (h : DevAt w L I D) :
    Calls Try.prog 33 #[.pointer (some ⟨L.g, 0, none⟩)] w fun e w' => e = .returned (.int .i64 (D.n : Int)) ∧ w = w' := by
  have k0 := h.cell 0 _ rfl
  clear h
  go_enter Try.func33, Try.ntmps33
  go_wp2_with fail
  go_ret
  exact ⟨rfl, rfl⟩
theorem moment_any {w : World} {L : Lay} {I : Nat → Prop} {D : Dv} {c : Int} (h : DevAt w L I D) (hc : Clk w L.clk c) :
    Calls Try.prog 31 #[.pointer (some ⟨L.g, 0, none⟩)] w fun e w' => e = .returned (.int .i64 c) ∧ w = w' := by
  have k7 := h.cell 7 _ rfl
  have q0 := Blk.cell hc 0 _ rfl
  clear h hc
  go_enter Try.func31, Try.ntmps31
  go_wp2_with fail
  go_ret
  exact ⟨rfl, rfl⟩
end Go.Proofs.Ythenpkimcjdkcaa
