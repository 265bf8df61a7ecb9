/- devices: Write, Tamper, Spoil, Kill -/
import Derived.Test.YthenpkimcjdkcaaDv5
namespace Go.Proofs.Ythenpkimcjdkcaa
set_option linter.unusedVariables false
set_option linter.unusedSimpArgs false
open Go.RowKit

theorem Clk.chg {S : Nat → Prop} {w w' : World} {q : Nat} {c : Int} (h : Clk w q c) (hc : Chg S w w') (hS : ¬ S q) : Clk w' q c := Blk.keep h (hc.block q (Blk.lt h) hS)
theorem Clk.below {w w' : World} {q : Nat} {c : Int} (h : Clk w q c) (hb : Below w.heap.size w w') : Clk w' q c := Blk.below h hb
/-- What becomes of a device and of the moments. -/
def WPost (L : Lay) (I : Nat → Prop) (v : Value) (D : Dv) (k : Int) (w : World) (e : Ending) (w' : World) : Prop :=
  e = .returned v ∧ ∃ L' I', DevAt w' L' I' D ∧ Clk w' L.clk k ∧ Grow w w' L L' I I'
def writeR (D : Dv) (i : Int) (b : List UInt8) (k : Int) : Int × Dv × Int :=
  if faultN D i ≠ 0 then (faultN D i, D, k) else if 64 < b.length then (1, D, k) else (0, { D.put i b false (k + 1) with bad := setF D.bad i false }, k + 1)

theorem rd_lt {w : World} {a : Option Addr} {Bd : Nat} {xs : List Value} (h : Rd w Bd a xs) (hB : Bd ≤ w.heap.size) : Rd w w.heap.size a xs := h.more hB

set_option maxRecDepth 20000 in
set_option maxHeartbeats 2000000 in
theorem write_any {w : World} {L : Lay} {I : Nat → Prop} {D : Dv} {k : Int} (h : DevAt w L I D) (hk : Clk w L.clk k) (hk1 : 0 ≤ k) (hk2 : k ≤ 1000000000) (hlog : D.log.length ≤ 1000000) (i : Int) (hi1 : -9223372036854775808 ≤ i) (hi2 : i ≤ 9223372036854775807)
    (a : Option Addr) (n c : Nat) (b : List UInt8) (hn : b.length = n) (hr : Rd w w.heap.size a (bs b)) (hcl : Apt L.clk a b) :
    Calls Try.prog 16 #[.pointer (some ⟨L.g, 0, none⟩), .int .i64 i, .slice a n c] w (WPost L I (.int .i64 (writeR D i b k).1) (writeR D i b k).2.1 (writeR D i b k).2.2 w) := by
  obtain ⟨r, hr0⟩ : ∃ r, writeR D i b k = r := ⟨_, rfl⟩
  rw [hr0]
  have HR := Lib.hid hr0
  have HF := Lib.hid (fault_any h i)
  have H := Lib.hid h
  have HK := Lib.hid hk
  have HN := Lib.hid hn
  have HI1 := Lib.hid hi1
  have HI2 := Lib.hid hi2
  have KP := Lib.hid (fun hn2 => put_any h hk hk1 hk2 hlog i hi1 hi2 a n c b false hn hn2 hr hcl)
  clear h hr0 hk hn hi1 hi2 hr hcl hlog
  go_enter Try.func16, Try.ntmps16
  go_wp2_with fail
  refine HF.out.mono ?_
  rintro e w1 ⟨rfl, rfl⟩
  obtain ⟨f, hf⟩ : ∃ f, faultN D i = f := ⟨_, rfl⟩
  rw [hf]
  have HFE := Lib.hid hf
  clear hf HF
  by_cases hf0 : f = 0
  · subst hf0
    by_cases hl : 64 < n
    · have hlI : (64 : Int) < (n : Int) := by omega
      have HE : Hid (r = (1, D, k)) := Lib.hid (by rw [← HR.out, writeR, if_neg (by simp [HFE.out]), if_pos (by rw [HN.out]; exact hl)])
      go_wp2_with fail
      go_ret
      rw [HE.out]
      exact ⟨rfl, L, I, H.out, HK.out, Grow.refl _ _ _⟩
    · have hlI : ¬ ((64 : Int) < (n : Int)) := by omega
      have HE : Hid (r = (0, { D.put i b false (k + 1) with bad := setF D.bad i false }, k + 1)) := Lib.hid (by rw [← HR.out, writeR, if_neg (by simp [HFE.out]), if_neg (by rw [HN.out]; exact hl)])
      have KP2 := Lib.hid (KP.out (by omega))
      clear KP
      go_wp2_with fail
      refine KP2.out.mono ?_
      rintro e w2 ⟨rfl, L', I', h2, hk2', hg2⟩
      obtain ⟨w3, hrun, h3, hg3⟩ := h2.delBad 0 i HI1.out HI2.out
      have k3 := h2.cell 3 _ rfl
      rw [hg2.g] at k3
      have hlc := hg2.clk
      have n1 := h2.clk_notM hk2'
      have hk3 : Clk w3 L.clk (k + 1) := Blk.keep hk2' (hg3.block _ (Blk.lt hk2') (fun e => by injection e with e; exact n1 (.inr (.inr (.inr (.inl e))))))
      have hgr : Grow w w3 L L' I I' := hg2.trans ⟨rfl, rfl, Chg.of_grown hg3 (fun j hj => by injection hj with hj; exact .inl (.inr (.inr (.inr (.inl hj.symm))))), fun _ => .inl, fun _ => .inl⟩
      have H3 := Lib.hid h3
      have HK3 := Lib.hid hk3
      have HG3 := Lib.hid hgr
      clear h2 hk2' hg2 h3 hg3 n1 hlc hk3 hgr KP2
      go_wp2_with fail
      go_ret
      rw [HE.out]
      exact ⟨rfl, L', I', H3.out, HK3.out, HG3.out⟩
  · have HE : Hid (r = (f, D, k)) := Lib.hid (by rw [← HR.out, writeR, HFE.out, if_pos hf0])
    have hfB : (f == 0) = false := beq_eq_false_iff_ne.2 hf0
    go_wp2_with fail
    go_ret
    rw [HE.out]
    exact ⟨rfl, L, I, H.out, HK.out, Grow.refl _ _ _⟩

def tamperR (D : Dv) (i : Int) (b : List UInt8) (k : Int) : Dv × Int := if faultN D i = 0 ∧ b.length ≤ 64 then (D.put i b true (k + 1), k + 1) else (D, k)
set_option maxRecDepth 20000 in
set_option maxHeartbeats 2000000 in
theorem tamper_any {w : World} {L : Lay} {I : Nat → Prop} {D : Dv} {k : Int} (h : DevAt w L I D) (hk : Clk w L.clk k) (hk1 : 0 ≤ k) (hk2 : k ≤ 1000000000) (hlog : D.log.length ≤ 1000000) (i : Int) (hi1 : -9223372036854775808 ≤ i) (hi2 : i ≤ 9223372036854775807)
    (a : Option Addr) (n c : Nat) (b : List UInt8) (hn : b.length = n) (hr : Rd w w.heap.size a (bs b)) (hcl : Apt L.clk a b) :
    Calls Try.prog 23 #[.pointer (some ⟨L.g, 0, none⟩), .int .i64 i, .slice a n c] w (WPost L I (.tuple #[]) (tamperR D i b k).1 (tamperR D i b k).2 w) := by
  obtain ⟨r, hr0⟩ : ∃ r, tamperR D i b k = r := ⟨_, rfl⟩
  rw [hr0]
  have HR := Lib.hid hr0
  have HF := Lib.hid (fault_any h i)
  have H := Lib.hid h
  have HK := Lib.hid hk
  have HN := Lib.hid hn
  have KP := Lib.hid (fun hn2 => put_any h hk hk1 hk2 hlog i hi1 hi2 a n c b true hn hn2 hr hcl)
  clear h hr0 hk hn hi1 hi2 hr hcl hlog
  go_enter Try.func23, Try.ntmps23
  go_wp2_with fail
  refine HF.out.mono ?_
  rintro e w1 ⟨rfl, rfl⟩
  obtain ⟨f, hf⟩ : ∃ f, faultN D i = f := ⟨_, rfl⟩
  rw [hf]
  have HFE := Lib.hid hf
  clear hf HF
  by_cases hf0 : f = 0
  · subst hf0
    by_cases hl : n ≤ 64
    · have hlI : (n : Int) ≤ 64 := by omega
      have HE : Hid (r = (D.put i b true (k + 1), k + 1)) := Lib.hid (by rw [← HR.out, tamperR, if_pos ⟨HFE.out, by rw [HN.out]; exact hl⟩])
      have KP2 := Lib.hid (KP.out hl)
      clear KP
      go_wp2_with fail
      refine KP2.out.mono ?_
      rintro e w2 ⟨rfl, L', I', h2, hk2', hg2⟩
      go_wp2_with fail
      go_end0
      rw [HE.out]
      exact ⟨rfl, L', I', h2, hk2', hg2⟩
    · have hlI : ¬ ((n : Int) ≤ 64) := by omega
      have HE : Hid (r = (D, k)) := Lib.hid (by rw [← HR.out, tamperR, if_neg (fun h => hl (by rw [← HN.out]; exact h.2))])
      go_wp2_with fail
      go_end0
      rw [HE.out]
      exact ⟨rfl, L, I, H.out, HK.out, Grow.refl _ _ _⟩
  · have HE : Hid (r = (D, k)) := Lib.hid (by rw [← HR.out, tamperR, if_neg (fun h => hf0 (by rw [← HFE.out]; exact h.1))])
    have hfB : (f == 0) = false := beq_eq_false_iff_ne.2 hf0
    go_wp2_with fail
    go_end0
    rw [HE.out]
    exact ⟨rfl, L, I, H.out, HK.out, Grow.refl _ _ _⟩

def spoilR (D : Dv) (i : Int) : Dv := if faultN D i = 0 then { D with bad := setF D.bad i true } else D
def SPost (L : Lay) (I : Nat → Prop) (v : Value) (D : Dv) (w : World) (e : Ending) (w' : World) : Prop :=
  e = .returned v ∧ ∃ L' I', DevAt w' L' I' D ∧ Grow w w' L L' I I' ∧ ∀ q c, Clk w q c → Clk w' q c
theorem spoil_any {w : World} {L : Lay} {I : Nat → Prop} {D : Dv} (h : DevAt w L I D) (i : Int) (hi1 : -9223372036854775808 ≤ i) (hi2 : i ≤ 9223372036854775807) :
    Calls Try.prog 24 #[.pointer (some ⟨L.g, 0, none⟩), .int .i64 i] w (SPost L I (.tuple #[]) (spoilR D i) w) := by
  obtain ⟨r, hr0⟩ : ∃ r, spoilR D i = r := ⟨_, rfl⟩
  rw [hr0]
  have HR := Lib.hid hr0
  have HF := Lib.hid (fault_any h i)
  have H := Lib.hid h
  have k3 := h.cell 3 _ rfl
  obtain ⟨w3, hrun, h3, hg3⟩ := h.putBad i hi1 hi2 true
  have H3 := Lib.hid h3
  have HG3 := Lib.hid hg3
  clear h hr0 h3 hg3 hi1 hi2
  go_enter Try.func24, Try.ntmps24
  go_wp2_with fail
  refine HF.out.mono ?_
  rintro e w1 ⟨rfl, rfl⟩
  obtain ⟨f, hf⟩ : ∃ f, faultN D i = f := ⟨_, rfl⟩
  rw [hf]
  have HFE := Lib.hid hf
  clear hf HF
  by_cases hf0 : f = 0
  · subst hf0
    have HE : Hid (r = { D with bad := setF D.bad i true }) := Lib.hid (by rw [← HR.out, spoilR, if_pos HFE.out])
    go_wp2_with fail
    go_end0
    rw [HE.out]
    exact ⟨rfl, L, I, H3.out, ⟨rfl, rfl, Chg.of_grown HG3.out (fun j hj => by injection hj with hj; exact .inl (.inr (.inr (.inr (.inl hj.symm))))), fun _ => .inl, fun _ => .inl⟩, fun q c hq => Blk.keep hq (HG3.out.block _ (Blk.lt hq) (fun e => by injection e with e; exact H.out.clk_notM hq (.inr (.inr (.inr (.inl e))))))⟩
  · have HE : Hid (r = D) := Lib.hid (by rw [← HR.out, spoilR, if_neg (fun h => hf0 (by rw [← HFE.out]; exact h))])
    have hfB : (f == 0) = false := beq_eq_false_iff_ne.2 hf0
    go_wp2_with fail
    go_end0
    rw [HE.out]
    exact ⟨rfl, L, I, H.out, Grow.refl _ _ _, fun _ _ h => h⟩
theorem kill_any {w : World} {L : Lay} {I : Nat → Prop} {D : Dv} (h : DevAt w L I D) :
    Calls Try.prog 28 #[.pointer (some ⟨L.g, 0, none⟩)] w (SPost L I (.tuple #[]) { D with dead := true } w) := by
  have H := Lib.hid h
  have k4 := h.cell 4 _ rfl
  have f4 := h.blk.frozen 4
  clear h
  go_enter Try.func28, Try.ntmps28
  go_wp2_with fail
  go_end0
  exact ⟨rfl, L, I, H.out.setDead true, ⟨rfl, rfl, Chg.setCell w _ _ (.inl (.inl rfl)), fun _ => .inl, fun _ => .inl⟩, fun q c hq => Blk.keep hq (Below.heap_setCell _ _ _ _ (fun e => H.out.clk_notM hq (.inl e)))⟩
end Go.Proofs.Ythenpkimcjdkcaa
