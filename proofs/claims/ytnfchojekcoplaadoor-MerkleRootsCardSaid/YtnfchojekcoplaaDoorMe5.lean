/- the document's levels -/
import Derived.Test.YtnfchojekcoplaaDoorMe4
namespace Go.Proofs.YtnfchojekcoplaaDoor
set_option linter.unusedVariables false
set_option linter.unusedSimpArgs false
open Go Go.RowKit

def slLen : Value → Nat
  | .slice _ n _ => n
  | _ => 0
def RlR (w : World) (n : Int) (vn vo : Value) (wr : World) : Prop :=
  ∃ (pre : List (Nat × Nat)) (k f m : Nat), vn = .int .i64 (m : Int) ∧ lvs n = pre ++ (if pre.length ≠ 0 ∧ m = 1 then [] else lvF (k + 1) f m) ∧ 1 ≤ m ∧ m ≤ 2048 ∧ m ≤ 2 ^ (k + 1) ∧
    OwnG wr w.heap.size 3 1 vo pre.length (lvN pre) ∧ Below w.heap.size w wr
theorem info_int' : ∃ i, Tryd.prog.info? 3 = some i ∧ i.zero = some (.int .i64 0) ∧ i.size = 1 ∧ i.bytes = 8 := info_parts info_int

set_option maxHeartbeats 1000000 in
theorem rlevels_any (n : Int) (w : World) : Calls Tryd.prog 24 #[.int .i64 n] w fun e w' =>
    ∃ v, e = .returned v ∧ OwnG w' w.heap.size 3 1 v (lvs n).length (lvN (lvs n)) ∧ Below w.heap.size w w' := by
  go_enter Tryd.func24, Tryd.ntmps24
  by_cases c1 : n < 1
  · have e : lvs n = [] := by unfold lvs; rw [if_neg (by omega)]
    rw [e]
    go_wp2_with fail
    go_ret
    exact ⟨_, rfl, OwnG.nil _ _ _ _, Below.refl _ _⟩
  by_cases c2 : 2048 < n
  · have e : lvs n = [] := by unfold lvs; rw [if_neg (by omega)]
    rw [e]
    go_wp2_with fail
    go_ret
    exact ⟨_, rfl, OwnG.nil _ _ _ _, Below.refl _ _⟩
  obtain ⟨N, rfl⟩ : ∃ N : Nat, n = (N : Int) := ⟨n.toNat, by omega⟩
  have e : lvs (N : Int) = lvF 12 0 N := by unfold lvs; rw [if_pos (by omega)]; rfl
  have hst : RlR w (N : Int) (.int .i64 (N : Int)) (.slice none 0 0) w := ⟨[], 11, 0, N, rfl, by rw [e]; rfl, by omega, by omega, by omega, OwnG.nil _ _ _ _, Below.refl _ _⟩
  have HST := Lib.hid hst
  clear hst e
  go_wp2_with fail
  go_loopw [0, 3] (fun vn vo wr => RlR w (N : Int) vn vo wr) (fun vn vo _ => 2 * (intOf vn).toNat + (if slLen vo = 0 then 1 else 0))
  case atStart => exact HST.out
  case round =>
    clear HST
    obtain ⟨pre, k, f, m, rfl, hx, hm1, hm2, hmk, ho, hb⟩ := hrel
    have hlen : pre.length ≤ 12 := by have := lvs_length (N : Int); rw [hx] at this; simp at this; omega
    obtain ⟨L, hL⟩ : ∃ L, pre.length = L := ⟨_, rfl⟩
    rw [hL] at ho hlen
    obtain ⟨ao, co, rfl, hco⟩ := OwnG.shape ho
    by_cases hend : L ≠ 0 ∧ m = 1
    · obtain ⟨h1, rfl⟩ := hend
      rw [hL, if_pos ⟨h1, rfl⟩, List.append_nil] at hx
      have hL0 : ¬ ((L : Int) = 0) := by omega
      have HO := Lib.hid ho
      have HX := Lib.hid hx
      clear ho hx
      go_wp2_with fail
      go_ret
      rw [HX.out, hL]
      exact ⟨_, rfl, HO.out, hb⟩
    · rw [hL, if_neg hend] at hx
      obtain ⟨m', hm'⟩ : ∃ m', (m + 1) / 2 = m' := ⟨_, rfl⟩
      have hq : ((m : Int) + 1) / 2 = (m' : Int) := by omega
      rw [lvF, hm'] at hx
      obtain ⟨i0, hi, hz0, hz1, hz2⟩ := info_int'
      have HX := Lib.hid hx
      have HM := Lib.hid hm'
      have HK := Lib.hid hmk
      have HE := Lib.hid hend
      have HPL := Lib.hid hL
      have HOW := Lib.hid ho
      have hsz := hb.size
      have KK : Hid (∀ u v' w', u = .int .i64 (m' : Int) → OwnG w' w.heap.size 3 1 v' (L + 1) (lvN pre ++ [u]) → (wr.alloc (.cells #[u] 3)).grownBy w' (Value.slice ao L co).ownBlock → RlR w (N : Int) u v' w') := Lib.hid (fun u v' w' hu h1 h2 => by
        subst hu
        have hbw : Below w.heap.size w w' := (hb.alloc hb.size _).trans (below_grown h2 (by rw [World.size_alloc]; omega) (fun q hq => (OwnG.lt HOW.out q hq).1))
        refine ⟨pre ++ [(f, m')], k - 1, f + m', m', rfl, ?_, by omega, by omega, ?_, by simpa [lvN, HPL.out] using h1, hbw⟩
        · have hx := HX.out
          by_cases h1 : m' = 1
          · rw [if_pos h1] at hx
            rw [if_pos ⟨by simp, h1⟩, hx]
            simp
          · rw [if_neg h1] at hx
            obtain ⟨k', rfl⟩ : ∃ k', k = k' + 1 := by
              cases k with
              | zero => have := HK.out; have := HM.out; simp at *; omega
              | succ k => exact ⟨k, rfl⟩
            rw [if_neg (fun h => h1 h.2), hx]
            simp
        · have h1 := HK.out
          have h2 := HM.out
          cases k with
          | zero => simp at h1 ⊢; omega
          | succ k => rw [Nat.pow_succ] at h1; simp; omega)
      clear ho hx hm' hmk hend hL
      by_cases hm1' : m = 1
      · have hL0 : L = 0 := by have := HE.out; omega
        have hmm : m' = 1 := by have := HM.out; omega
        have HU : Hid (Value.int .i64 1 = .int .i64 (m' : Int)) := Lib.hid (by rw [hmm]; rfl)
        subst hm1'
        subst hL0
        clear hq hmm
        go_wp2_with (refine wpList_append_g rfl _ _ 36 rfl w.heap.size 3 (.int .i64 0) 1 8 Tryd.underlying36 info_int rfl (by omega) _ _ _ rfl (OwnG.alloc HOW.out _) (wr.heap.size + 1) (some ⟨wr.heap.size, 0, none⟩) 1 1 [(.int .i64 1)] rfl rfl (Rd.new _ _ _) (by simp [Value.oneCell']) (by omega) (by omega) (by rw [World.size_alloc]; omega) ?_; intro v' w' ho' hg' _; have HF := Lib.hid (KK.out (.int .i64 1) v' w' HU.out ho' hg'); obtain ⟨a', c', rfl, hc'⟩ := OwnG.shape ho')
        all_goals go_roundw
        all_goals first
          | (case measure => simp [intOf, slLen])
          | exact HF.out
          | ((repeat apply Exists.intro); exact ⟨HF.out, rfl⟩)
      · have hm1i : ¬ ((m : Int) = 1) := by omega
        have HU : Hid (Value.int .i64 (m' : Int) = .int .i64 (m' : Int)) := Lib.hid rfl
        go_wp2_with (refine wpList_append_g rfl _ _ 36 rfl w.heap.size 3 (.int .i64 0) 1 8 Tryd.underlying36 info_int rfl (by omega) _ _ _ rfl (OwnG.alloc HOW.out _) (wr.heap.size + 1) (some ⟨wr.heap.size, 0, none⟩) 1 1 [(.int .i64 (m' : Int))] rfl rfl (Rd.new _ _ _) (by simp [Value.oneCell']) (by omega) (by omega) (by rw [World.size_alloc]; omega) ?_; intro v' w' ho' hg' _; have HF := Lib.hid (KK.out (.int .i64 (m' : Int)) v' w' HU.out ho' hg'); obtain ⟨a', c', rfl, hc'⟩ := OwnG.shape ho')
        all_goals go_roundw
        all_goals first
          | (case measure => have := HM.out; simp [intOf, slLen]; omega)
          | exact HF.out
          | ((repeat apply Exists.intro); exact ⟨HF.out, rfl⟩)
end Go.Proofs.YtnfchojekcoplaaDoor
