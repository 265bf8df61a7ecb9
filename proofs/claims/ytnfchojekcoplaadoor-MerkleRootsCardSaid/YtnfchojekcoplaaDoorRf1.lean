/- the document's digest: turning, numbers -/
import Derived.Test.YtnfchojekcoplaaDoorSha5
namespace Go.Proofs.YtnfchojekcoplaaDoor
set_option linter.unusedVariables false
set_option linter.unusedSimpArgs false
open Go.RowKit

theorem turn2 (x : W32) (w : World) : Calls Tryd.prog 34 #[.int .u32 (val x), .int .u32 2] w fun e w' => e = .returned (.int .u32 (val (rr x 2))) ∧ w = w' := by
  have h1 : IntKind.u32.wrap (val x * 1073741824) = val (x <<< 30) := val_shl x 30
  have h2 : val x / (4 : Int) = val (x >>> 2) := val_shr x 2
  have h5 : IntKind.u32.wrap (32 - 2) = 30 := by kernel_rfl
  have h3 : bits .or .u32 (val (x >>> 2)) (val (x <<< 30)) = val (rr x 2) := (val_or (x >>> 2) (x <<< 30)).trans (by rw [BitVec.or_comm]; rfl)
  go_enter Tryd.func34, Tryd.ntmps34
  go_wp2_with fail
  go_ret
  exact ⟨rfl, rfl⟩

theorem turn6 (x : W32) (w : World) : Calls Tryd.prog 34 #[.int .u32 (val x), .int .u32 6] w fun e w' => e = .returned (.int .u32 (val (rr x 6))) ∧ w = w' := by
  have h1 : IntKind.u32.wrap (val x * 67108864) = val (x <<< 26) := val_shl x 26
  have h2 : val x / (64 : Int) = val (x >>> 6) := val_shr x 6
  have h5 : IntKind.u32.wrap (32 - 6) = 26 := by kernel_rfl
  have h3 : bits .or .u32 (val (x >>> 6)) (val (x <<< 26)) = val (rr x 6) := (val_or (x >>> 6) (x <<< 26)).trans (by rw [BitVec.or_comm]; rfl)
  go_enter Tryd.func34, Tryd.ntmps34
  go_wp2_with fail
  go_ret
  exact ⟨rfl, rfl⟩

theorem turn7 (x : W32) (w : World) : Calls Tryd.prog 34 #[.int .u32 (val x), .int .u32 7] w fun e w' => e = .returned (.int .u32 (val (rr x 7))) ∧ w = w' := by
  have h1 : IntKind.u32.wrap (val x * 33554432) = val (x <<< 25) := val_shl x 25
  have h2 : val x / (128 : Int) = val (x >>> 7) := val_shr x 7
  have h5 : IntKind.u32.wrap (32 - 7) = 25 := by kernel_rfl
  have h3 : bits .or .u32 (val (x >>> 7)) (val (x <<< 25)) = val (rr x 7) := (val_or (x >>> 7) (x <<< 25)).trans (by rw [BitVec.or_comm]; rfl)
  go_enter Tryd.func34, Tryd.ntmps34
  go_wp2_with fail
  go_ret
  exact ⟨rfl, rfl⟩

theorem turn11 (x : W32) (w : World) : Calls Tryd.prog 34 #[.int .u32 (val x), .int .u32 11] w fun e w' => e = .returned (.int .u32 (val (rr x 11))) ∧ w = w' := by
  have h1 : IntKind.u32.wrap (val x * 2097152) = val (x <<< 21) := val_shl x 21
  have h2 : val x / (2048 : Int) = val (x >>> 11) := val_shr x 11
  have h5 : IntKind.u32.wrap (32 - 11) = 21 := by kernel_rfl
  have h3 : bits .or .u32 (val (x >>> 11)) (val (x <<< 21)) = val (rr x 11) := (val_or (x >>> 11) (x <<< 21)).trans (by rw [BitVec.or_comm]; rfl)
  go_enter Tryd.func34, Tryd.ntmps34
  go_wp2_with fail
  go_ret
  exact ⟨rfl, rfl⟩

theorem turn13 (x : W32) (w : World) : Calls Tryd.prog 34 #[.int .u32 (val x), .int .u32 13] w fun e w' => e = .returned (.int .u32 (val (rr x 13))) ∧ w = w' := by
  have h1 : IntKind.u32.wrap (val x * 524288) = val (x <<< 19) := val_shl x 19
  have h2 : val x / (8192 : Int) = val (x >>> 13) := val_shr x 13
  have h5 : IntKind.u32.wrap (32 - 13) = 19 := by kernel_rfl
  have h3 : bits .or .u32 (val (x >>> 13)) (val (x <<< 19)) = val (rr x 13) := (val_or (x >>> 13) (x <<< 19)).trans (by rw [BitVec.or_comm]; rfl)
  go_enter Tryd.func34, Tryd.ntmps34
  go_wp2_with fail
  go_ret
  exact ⟨rfl, rfl⟩

theorem turn17 (x : W32) (w : World) : Calls Tryd.prog 34 #[.int .u32 (val x), .int .u32 17] w fun e w' => e = .returned (.int .u32 (val (rr x 17))) ∧ w = w' := by
  have h1 : IntKind.u32.wrap (val x * 32768) = val (x <<< 15) := val_shl x 15
  have h2 : val x / (131072 : Int) = val (x >>> 17) := val_shr x 17
  have h5 : IntKind.u32.wrap (32 - 17) = 15 := by kernel_rfl
  have h3 : bits .or .u32 (val (x >>> 17)) (val (x <<< 15)) = val (rr x 17) := (val_or (x >>> 17) (x <<< 15)).trans (by rw [BitVec.or_comm]; rfl)
  go_enter Tryd.func34, Tryd.ntmps34
  go_wp2_with fail
  go_ret
  exact ⟨rfl, rfl⟩

theorem turn18 (x : W32) (w : World) : Calls Tryd.prog 34 #[.int .u32 (val x), .int .u32 18] w fun e w' => e = .returned (.int .u32 (val (rr x 18))) ∧ w = w' := by
  have h1 : IntKind.u32.wrap (val x * 16384) = val (x <<< 14) := val_shl x 14
  have h2 : val x / (262144 : Int) = val (x >>> 18) := val_shr x 18
  have h5 : IntKind.u32.wrap (32 - 18) = 14 := by kernel_rfl
  have h3 : bits .or .u32 (val (x >>> 18)) (val (x <<< 14)) = val (rr x 18) := (val_or (x >>> 18) (x <<< 14)).trans (by rw [BitVec.or_comm]; rfl)
  go_enter Tryd.func34, Tryd.ntmps34
  go_wp2_with fail
  go_ret
  exact ⟨rfl, rfl⟩

theorem turn19 (x : W32) (w : World) : Calls Tryd.prog 34 #[.int .u32 (val x), .int .u32 19] w fun e w' => e = .returned (.int .u32 (val (rr x 19))) ∧ w = w' := by
  have h1 : IntKind.u32.wrap (val x * 8192) = val (x <<< 13) := val_shl x 13
  have h2 : val x / (524288 : Int) = val (x >>> 19) := val_shr x 19
  have h5 : IntKind.u32.wrap (32 - 19) = 13 := by kernel_rfl
  have h3 : bits .or .u32 (val (x >>> 19)) (val (x <<< 13)) = val (rr x 19) := (val_or (x >>> 19) (x <<< 13)).trans (by rw [BitVec.or_comm]; rfl)
  go_enter Tryd.func34, Tryd.ntmps34
  go_wp2_with fail
  go_ret
  exact ⟨rfl, rfl⟩

theorem turn22 (x : W32) (w : World) : Calls Tryd.prog 34 #[.int .u32 (val x), .int .u32 22] w fun e w' => e = .returned (.int .u32 (val (rr x 22))) ∧ w = w' := by
  have h1 : IntKind.u32.wrap (val x * 1024) = val (x <<< 10) := val_shl x 10
  have h2 : val x / (4194304 : Int) = val (x >>> 22) := val_shr x 22
  have h5 : IntKind.u32.wrap (32 - 22) = 10 := by kernel_rfl
  have h3 : bits .or .u32 (val (x >>> 22)) (val (x <<< 10)) = val (rr x 22) := (val_or (x >>> 22) (x <<< 10)).trans (by rw [BitVec.or_comm]; rfl)
  go_enter Tryd.func34, Tryd.ntmps34
  go_wp2_with fail
  go_ret
  exact ⟨rfl, rfl⟩

theorem turn25 (x : W32) (w : World) : Calls Tryd.prog 34 #[.int .u32 (val x), .int .u32 25] w fun e w' => e = .returned (.int .u32 (val (rr x 25))) ∧ w = w' := by
  have h1 : IntKind.u32.wrap (val x * 128) = val (x <<< 7) := val_shl x 7
  have h2 : val x / (33554432 : Int) = val (x >>> 25) := val_shr x 25
  have h5 : IntKind.u32.wrap (32 - 25) = 7 := by kernel_rfl
  have h3 : bits .or .u32 (val (x >>> 25)) (val (x <<< 7)) = val (rr x 25) := (val_or (x >>> 25) (x <<< 7)).trans (by rw [BitVec.or_comm]; rfl)
  go_enter Tryd.func34, Tryd.ntmps34
  go_wp2_with fail
  go_ret
  exact ⟨rfl, rfl⟩

/-- A digit's worth. -/
def digN (c : UInt8) : Nat := if 97 ≤ c.toNat then c.toNat - 97 + 10 else c.toNat - 48
def digOk (c : UInt8) : Bool := (48 ≤ c.toNat && c.toNat ≤ 57) || (97 ≤ c.toNat && c.toNat ≤ 102)
/-- j digits, from place 8 i on. -/
def hexN (l : List UInt8) (i : Nat) : Nat → Nat
  | 0 => 0
  | j + 1 => 16 * hexN l i j + digN (l.getD (8 * i + j) 0)
theorem digN_lt (c : UInt8) (h : digOk c = true) : digN c < 16 := by
  unfold digOk at h
  unfold digN
  simp only [Bool.or_eq_true, Bool.and_eq_true, decide_eq_true_eq] at h
  split <;> omega
theorem hexN_lt (l : List UInt8) (i : Nat) (h : ∀ c ∈ l, digOk c = true) : ∀ j, 8 * i + j ≤ l.length → hexN l i j < 16 ^ j
  | 0, _ => by simp [hexN]
  | j + 1, hl => by
    have ih := hexN_lt l i h j (by omega)
    have hc : l.getD (8 * i + j) 0 = l[8 * i + j]'(by omega) := by rw [List.getD_eq_getElem?_getD, List.getElem?_eq_getElem (by omega)]; rfl
    have := digN_lt _ (h _ (List.getElem_mem (show 8 * i + j < l.length by omega)))
    rw [hexN, hc, Nat.pow_succ]
    omega

theorem number_any (l : List UInt8) (i : Nat) (w : World) (h : ∀ c ∈ l, digOk c = true) (hi : 8 * i + 8 ≤ l.length) (hl : l.length ≤ 512) :
    Calls Tryd.prog 31 #[.string ⟨l.toArray⟩, .int .i64 i] w fun e w' => e = .returned (.int .u32 ((hexN l i 8 : Nat) : Int)) ∧ w = w' := by
  have H := Lib.hid h
  clear h
  obtain ⟨E, hE⟩ : ∃ E, 8 * i = E := ⟨_, rfl⟩
  obtain ⟨F, hF⟩ : ∃ F, E + 8 = F := ⟨_, rfl⟩
  have hw1 : wrap64 (8 * (i : Int)) = (E : Int) := (IntWalk.wrap64_in (8 * (i : Int)) (by omega)).trans (by omega)
  have hw2 : wrap64 ((E : Int) + 8) = (F : Int) := (IntWalk.wrap64_in ((E : Int) + 8) (by omega)).trans (by omega)
  have HE := Lib.hid hE
  have HF := Lib.hid hF
  have HL : Hid (F ≤ l.length) := Lib.hid (by omega)
  clear hE hF hi
  go_enter Tryd.func31, Tryd.ntmps31
  go_wp2_with fail
  go_loopw [5, 6] (fun vx vk wr => ∃ j K : Nat, j ≤ 8 ∧ K = E + j ∧ vk = .int .i64 (K : Int) ∧ vx = .int .u32 ((hexN l i j : Nat) : Int) ∧ wr = w) (fun _ vk _ => F - (intOf vk).toNat)
  case atStart => exact ⟨0, E, by omega, rfl, by rw [hw1], rfl, rfl⟩
  case round =>
    obtain ⟨j, K, hj, hK, rfl, rfl, rfl⟩ := hrel
    have HKE := Lib.hid hK
    by_cases hj8 : j < 8
    · have hKF : K < F := by have := HF.out; omega
      have hKl : K < l.length := by have := HL.out; omega
      have hKI : (K : Int) < (F : Int) := Int.ofNat_lt.2 hKF
      have hK0 : (0 : Int) ≤ (K : Int) := Int.natCast_nonneg K
      have hKlI : (K : Int) < (l.length : Int) := Int.ofNat_lt.2 hKl
      obtain ⟨q, hq⟩ : ∃ q : Nat, (l[K]'hKl).toNat = q := ⟨_, rfl⟩
      clear hK
      have hidx : ∀ W : World, (Instr.index 9 (.string ⟨l.toArray⟩) (.int .i64 (K : Int))).run Tryd.prog W = .ok (.int .u8 (q : Int)) W := fun W => by
        go_simp
        rw [← hq]
        rfl
      have hdg := H.out _ (List.getElem_mem hKl)
      have hq2 : (48 ≤ q ∧ q ≤ 57) ∨ (97 ≤ q ∧ q ≤ 102) := by
        unfold digOk at hdg
        simp only [Bool.or_eq_true, Bool.and_eq_true, decide_eq_true_eq, hq] at hdg
        exact hdg
      have hx : hexN l i (j + 1) = 16 * hexN l i j + (if 97 ≤ q then q - 97 + 10 else q - 48) := by
        have hc : l.getD (8 * i + j) 0 = l[K] := by
          have e : 8 * i + j = K := by have := HE.out; have := HKE.out; omega
          rw [List.getD_eq_getElem?_getD, e, List.getElem?_eq_getElem hKl]; rfl
        rw [hexN, hc, digN, hq]
      have hlt : hexN l i j < 16 ^ j := hexN_lt l i H.out j (by have := HE.out; have := HKE.out; omega)
      have hlt7 : hexN l i j < 268435456 := by
        have : 16 ^ j ≤ 16 ^ 7 := Nat.pow_le_pow_right (by omega) (by omega)
        omega
      obtain ⟨x, hxx⟩ : ∃ x, hexN l i j = x := ⟨_, rfl⟩
      rw [hxx] at hx hlt7 ⊢
      have HX := Lib.hid hx
      have HX7 := Lib.hid hlt7
      have HQ2 := Lib.hid hq2
      clear hq hdg hx hlt hlt7 hq2 hxx
      by_cases h97 : 97 ≤ q
      · have h97I : (97 : Int) ≤ (q : Int) := by omega
        go_wp2_with fail
        all_goals go_roundw
        all_goals first
          | (case measure => simp [intOf]; omega)
          | (refine ⟨j + 1, K + 1, hj8, by have := HKE.out; omega, by go_num, congrArg (Value.int .u32) ?_, by first | rfl | trivial⟩
             rw [HX.out, if_pos h97]
             have h1 := HX7.out
             have h2 := HQ2.out
             clear hidx hw1 hw2
             omega)
      · have h97I : ¬ ((97 : Int) ≤ (q : Int)) := by omega
        go_wp2_with fail
        all_goals go_roundw
        all_goals first
          | (case measure => simp [intOf]; omega)
          | (refine ⟨j + 1, K + 1, hj8, by have := HKE.out; omega, by go_num, congrArg (Value.int .u32) ?_, by first | rfl | trivial⟩
             rw [HX.out, if_neg h97]
             have h1 := HX7.out
             have h2 := HQ2.out
             clear hidx hw1 hw2
             omega)
    · have hj8' : j = 8 := by omega
      subst hj8'
      have hKF : K = F := by have := HF.out; omega
      subst hKF
      clear hK
      obtain ⟨x, hxx⟩ : ∃ x, hexN l i 8 = x := ⟨_, rfl⟩
      rw [hxx]
      have HXX := Lib.hid hxx
      clear hxx
      go_wp2_with fail
      go_ret
      exact ⟨by rw [HXX.out]; rfl, rfl⟩
end Go.Proofs.YtnfchojekcoplaaDoor
