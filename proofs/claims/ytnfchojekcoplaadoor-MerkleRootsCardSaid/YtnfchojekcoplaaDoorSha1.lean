/- sha: the closure 'right' -/
import Derived.Test.YtnfchojekcoplaaDoorSha0
namespace Go.Proofs.YtnfchojekcoplaaDoor
set_option linter.unusedVariables false
set_option linter.unusedSimpArgs false
open Go.RowKit

theorem rot7 (x : W32) (w : World) : Calls Tryd.prog 36 #[.int .u32 (val x), .int .i64 (-7)] w fun e w' => e = .returned (.int .u32 (val (rr x 7))) ∧ w = w' := by
  have h1 : IntKind.u32.wrap (val x * 33554432) = val (x <<< 25) := val_shl x 25
  have h2 : val x / (128 : Int) = val (x >>> 7) := val_shr x 7
  have h4 : bits .and .u64 (IntKind.u64.wrap (-7)) 31 = 25 := by kernel_rfl
  have h5 : IntKind.u64.wrap (32 - 25) = 7 := by kernel_rfl
  have h3 := val_or (x <<< 25) (x >>> 7)
  go_enter Tryd.func36, Tryd.ntmps36
  go_wp2_with fail
  go_ret
  exact ⟨rfl, rfl⟩
theorem right7 (x : W32) (w : World) : Calls Tryd.prog 35 #[.int .u32 (val x), .int .i64 7] w fun e w' => e = .returned (.int .u32 (val (rr x 7))) ∧ w = w' := by
  go_enter Tryd.func35, Tryd.ntmps35
  go_wp2_with fail
  refine (rot7 x w).mono ?_
  rintro e w' ⟨rfl, rfl⟩
  go_wp2_with fail
  go_ret
  exact ⟨rfl, rfl⟩
theorem rot18 (x : W32) (w : World) : Calls Tryd.prog 36 #[.int .u32 (val x), .int .i64 (-18)] w fun e w' => e = .returned (.int .u32 (val (rr x 18))) ∧ w = w' := by
  have h1 : IntKind.u32.wrap (val x * 16384) = val (x <<< 14) := val_shl x 14
  have h2 : val x / (262144 : Int) = val (x >>> 18) := val_shr x 18
  have h4 : bits .and .u64 (IntKind.u64.wrap (-18)) 31 = 14 := by kernel_rfl
  have h5 : IntKind.u64.wrap (32 - 14) = 18 := by kernel_rfl
  have h3 := val_or (x <<< 14) (x >>> 18)
  go_enter Tryd.func36, Tryd.ntmps36
  go_wp2_with fail
  go_ret
  exact ⟨rfl, rfl⟩
theorem right18 (x : W32) (w : World) : Calls Tryd.prog 35 #[.int .u32 (val x), .int .i64 18] w fun e w' => e = .returned (.int .u32 (val (rr x 18))) ∧ w = w' := by
  go_enter Tryd.func35, Tryd.ntmps35
  go_wp2_with fail
  refine (rot18 x w).mono ?_
  rintro e w' ⟨rfl, rfl⟩
  go_wp2_with fail
  go_ret
  exact ⟨rfl, rfl⟩
theorem rot17 (x : W32) (w : World) : Calls Tryd.prog 36 #[.int .u32 (val x), .int .i64 (-17)] w fun e w' => e = .returned (.int .u32 (val (rr x 17))) ∧ w = w' := by
  have h1 : IntKind.u32.wrap (val x * 32768) = val (x <<< 15) := val_shl x 15
  have h2 : val x / (131072 : Int) = val (x >>> 17) := val_shr x 17
  have h4 : bits .and .u64 (IntKind.u64.wrap (-17)) 31 = 15 := by kernel_rfl
  have h5 : IntKind.u64.wrap (32 - 15) = 17 := by kernel_rfl
  have h3 := val_or (x <<< 15) (x >>> 17)
  go_enter Tryd.func36, Tryd.ntmps36
  go_wp2_with fail
  go_ret
  exact ⟨rfl, rfl⟩
theorem right17 (x : W32) (w : World) : Calls Tryd.prog 35 #[.int .u32 (val x), .int .i64 17] w fun e w' => e = .returned (.int .u32 (val (rr x 17))) ∧ w = w' := by
  go_enter Tryd.func35, Tryd.ntmps35
  go_wp2_with fail
  refine (rot17 x w).mono ?_
  rintro e w' ⟨rfl, rfl⟩
  go_wp2_with fail
  go_ret
  exact ⟨rfl, rfl⟩
theorem rot19 (x : W32) (w : World) : Calls Tryd.prog 36 #[.int .u32 (val x), .int .i64 (-19)] w fun e w' => e = .returned (.int .u32 (val (rr x 19))) ∧ w = w' := by
  have h1 : IntKind.u32.wrap (val x * 8192) = val (x <<< 13) := val_shl x 13
  have h2 : val x / (524288 : Int) = val (x >>> 19) := val_shr x 19
  have h4 : bits .and .u64 (IntKind.u64.wrap (-19)) 31 = 13 := by kernel_rfl
  have h5 : IntKind.u64.wrap (32 - 13) = 19 := by kernel_rfl
  have h3 := val_or (x <<< 13) (x >>> 19)
  go_enter Tryd.func36, Tryd.ntmps36
  go_wp2_with fail
  go_ret
  exact ⟨rfl, rfl⟩
theorem right19 (x : W32) (w : World) : Calls Tryd.prog 35 #[.int .u32 (val x), .int .i64 19] w fun e w' => e = .returned (.int .u32 (val (rr x 19))) ∧ w = w' := by
  go_enter Tryd.func35, Tryd.ntmps35
  go_wp2_with fail
  refine (rot19 x w).mono ?_
  rintro e w' ⟨rfl, rfl⟩
  go_wp2_with fail
  go_ret
  exact ⟨rfl, rfl⟩
theorem rot6 (x : W32) (w : World) : Calls Tryd.prog 36 #[.int .u32 (val x), .int .i64 (-6)] w fun e w' => e = .returned (.int .u32 (val (rr x 6))) ∧ w = w' := by
  have h1 : IntKind.u32.wrap (val x * 67108864) = val (x <<< 26) := val_shl x 26
  have h2 : val x / (64 : Int) = val (x >>> 6) := val_shr x 6
  have h4 : bits .and .u64 (IntKind.u64.wrap (-6)) 31 = 26 := by kernel_rfl
  have h5 : IntKind.u64.wrap (32 - 26) = 6 := by kernel_rfl
  have h3 := val_or (x <<< 26) (x >>> 6)
  go_enter Tryd.func36, Tryd.ntmps36
  go_wp2_with fail
  go_ret
  exact ⟨rfl, rfl⟩
theorem right6 (x : W32) (w : World) : Calls Tryd.prog 35 #[.int .u32 (val x), .int .i64 6] w fun e w' => e = .returned (.int .u32 (val (rr x 6))) ∧ w = w' := by
  go_enter Tryd.func35, Tryd.ntmps35
  go_wp2_with fail
  refine (rot6 x w).mono ?_
  rintro e w' ⟨rfl, rfl⟩
  go_wp2_with fail
  go_ret
  exact ⟨rfl, rfl⟩
theorem rot11 (x : W32) (w : World) : Calls Tryd.prog 36 #[.int .u32 (val x), .int .i64 (-11)] w fun e w' => e = .returned (.int .u32 (val (rr x 11))) ∧ w = w' := by
  have h1 : IntKind.u32.wrap (val x * 2097152) = val (x <<< 21) := val_shl x 21
  have h2 : val x / (2048 : Int) = val (x >>> 11) := val_shr x 11
  have h4 : bits .and .u64 (IntKind.u64.wrap (-11)) 31 = 21 := by kernel_rfl
  have h5 : IntKind.u64.wrap (32 - 21) = 11 := by kernel_rfl
  have h3 := val_or (x <<< 21) (x >>> 11)
  go_enter Tryd.func36, Tryd.ntmps36
  go_wp2_with fail
  go_ret
  exact ⟨rfl, rfl⟩
theorem right11 (x : W32) (w : World) : Calls Tryd.prog 35 #[.int .u32 (val x), .int .i64 11] w fun e w' => e = .returned (.int .u32 (val (rr x 11))) ∧ w = w' := by
  go_enter Tryd.func35, Tryd.ntmps35
  go_wp2_with fail
  refine (rot11 x w).mono ?_
  rintro e w' ⟨rfl, rfl⟩
  go_wp2_with fail
  go_ret
  exact ⟨rfl, rfl⟩
theorem rot25 (x : W32) (w : World) : Calls Tryd.prog 36 #[.int .u32 (val x), .int .i64 (-25)] w fun e w' => e = .returned (.int .u32 (val (rr x 25))) ∧ w = w' := by
  have h1 : IntKind.u32.wrap (val x * 128) = val (x <<< 7) := val_shl x 7
  have h2 : val x / (33554432 : Int) = val (x >>> 25) := val_shr x 25
  have h4 : bits .and .u64 (IntKind.u64.wrap (-25)) 31 = 7 := by kernel_rfl
  have h5 : IntKind.u64.wrap (32 - 7) = 25 := by kernel_rfl
  have h3 := val_or (x <<< 7) (x >>> 25)
  go_enter Tryd.func36, Tryd.ntmps36
  go_wp2_with fail
  go_ret
  exact ⟨rfl, rfl⟩
theorem right25 (x : W32) (w : World) : Calls Tryd.prog 35 #[.int .u32 (val x), .int .i64 25] w fun e w' => e = .returned (.int .u32 (val (rr x 25))) ∧ w = w' := by
  go_enter Tryd.func35, Tryd.ntmps35
  go_wp2_with fail
  refine (rot25 x w).mono ?_
  rintro e w' ⟨rfl, rfl⟩
  go_wp2_with fail
  go_ret
  exact ⟨rfl, rfl⟩
theorem rot2 (x : W32) (w : World) : Calls Tryd.prog 36 #[.int .u32 (val x), .int .i64 (-2)] w fun e w' => e = .returned (.int .u32 (val (rr x 2))) ∧ w = w' := by
  have h1 : IntKind.u32.wrap (val x * 1073741824) = val (x <<< 30) := val_shl x 30
  have h2 : val x / (4 : Int) = val (x >>> 2) := val_shr x 2
  have h4 : bits .and .u64 (IntKind.u64.wrap (-2)) 31 = 30 := by kernel_rfl
  have h5 : IntKind.u64.wrap (32 - 30) = 2 := by kernel_rfl
  have h3 := val_or (x <<< 30) (x >>> 2)
  go_enter Tryd.func36, Tryd.ntmps36
  go_wp2_with fail
  go_ret
  exact ⟨rfl, rfl⟩
theorem right2 (x : W32) (w : World) : Calls Tryd.prog 35 #[.int .u32 (val x), .int .i64 2] w fun e w' => e = .returned (.int .u32 (val (rr x 2))) ∧ w = w' := by
  go_enter Tryd.func35, Tryd.ntmps35
  go_wp2_with fail
  refine (rot2 x w).mono ?_
  rintro e w' ⟨rfl, rfl⟩
  go_wp2_with fail
  go_ret
  exact ⟨rfl, rfl⟩
theorem rot13 (x : W32) (w : World) : Calls Tryd.prog 36 #[.int .u32 (val x), .int .i64 (-13)] w fun e w' => e = .returned (.int .u32 (val (rr x 13))) ∧ w = w' := by
  have h1 : IntKind.u32.wrap (val x * 524288) = val (x <<< 19) := val_shl x 19
  have h2 : val x / (8192 : Int) = val (x >>> 13) := val_shr x 13
  have h4 : bits .and .u64 (IntKind.u64.wrap (-13)) 31 = 19 := by kernel_rfl
  have h5 : IntKind.u64.wrap (32 - 19) = 13 := by kernel_rfl
  have h3 := val_or (x <<< 19) (x >>> 13)
  go_enter Tryd.func36, Tryd.ntmps36
  go_wp2_with fail
  go_ret
  exact ⟨rfl, rfl⟩
theorem right13 (x : W32) (w : World) : Calls Tryd.prog 35 #[.int .u32 (val x), .int .i64 13] w fun e w' => e = .returned (.int .u32 (val (rr x 13))) ∧ w = w' := by
  go_enter Tryd.func35, Tryd.ntmps35
  go_wp2_with fail
  refine (rot13 x w).mono ?_
  rintro e w' ⟨rfl, rfl⟩
  go_wp2_with fail
  go_ret
  exact ⟨rfl, rfl⟩
theorem rot22 (x : W32) (w : World) : Calls Tryd.prog 36 #[.int .u32 (val x), .int .i64 (-22)] w fun e w' => e = .returned (.int .u32 (val (rr x 22))) ∧ w = w' := by
  have h1 : IntKind.u32.wrap (val x * 1024) = val (x <<< 10) := val_shl x 10
  have h2 : val x / (4194304 : Int) = val (x >>> 22) := val_shr x 22
  have h4 : bits .and .u64 (IntKind.u64.wrap (-22)) 31 = 10 := by kernel_rfl
  have h5 : IntKind.u64.wrap (32 - 10) = 22 := by kernel_rfl
  have h3 := val_or (x <<< 10) (x >>> 22)
  go_enter Tryd.func36, Tryd.ntmps36
  go_wp2_with fail
  go_ret
  exact ⟨rfl, rfl⟩
theorem right22 (x : W32) (w : World) : Calls Tryd.prog 35 #[.int .u32 (val x), .int .i64 22] w fun e w' => e = .returned (.int .u32 (val (rr x 22))) ∧ w = w' := by
  go_enter Tryd.func35, Tryd.ntmps35
  go_wp2_with fail
  refine (rot22 x w).mono ?_
  rintro e w' ⟨rfl, rfl⟩
  go_wp2_with fail
  go_ret
  exact ⟨rfl, rfl⟩
end Go.Proofs.YtnfchojekcoplaaDoor
