/- codec.Ungroup's deferred closure -/
import Derived.Test.YtjmmabilpdiohaaUng1
namespace Go.Proofs.Ytjmmabilpdiohaa
set_option linter.unusedVariables false
set_option linter.unusedSimpArgs false
open Go.RowKit

theorem catch_no (p q : Addr) (older : List PanicEntry) (w : World) (v1 v2 : Value) (hp : w.cell? p = some v1) (hq : w.cell? q = some v2) (fp : w.frozen? p = false) (fq : w.frozen? q = false) (hp1 : p.block < w.heap.size) (hq1 : q.block < w.heap.size) (hne : p.block ≠ q.block) :
    CallsD Try.prog 33 #[.pointer (some p), .pointer (some q)] (.panicking ({ v := .iface 56 (.agg #[]), recovered := false } :: older)) w fun e u' w' =>
      e = .returned (.tuple #[]) ∧ u' = .panicking ({ v := .iface 56 (.agg #[]), recovered := true } :: older) ∧ w' = ((w.alloc (.cells #[] 56)).setCell p (.slice none 0 0)).setCell q (.int .i64 81) := by
  have hta : ∀ w, (Instr.typeAssert (.iface 56 (.agg #[])) 20 56 true).run Try.prog w = .ok (.tuple #[.agg #[], .bool true]) w := fun _ => by kernel_rfl
  have hp' : (w.alloc (.cells #[] 56)).cell? p = some v1 := (World.cell?_alloc_lt w _ _ hp1).trans hp
  have fp' : (w.alloc (.cells #[] 56)).frozen? p = false := (World.frozen?_alloc_old w _ _ (by omega)).trans fp
  have fq' : (w.alloc (.cells #[] 56)).frozen? q = false := (World.frozen?_alloc_old w _ _ (by omega)).trans fq
  have hq' : ((w.alloc (.cells #[] 56)).setCell p (.slice none 0 0)).cell? q = some v2 := ((World.cell?_setCell_other _ p q _ (fun e => hne (by rw [e]))).trans (World.cell?_alloc_lt w _ _ hq1)).trans hq
  clear hp hq fp fq
  refine callsD_of_wpS Try.func33 rfl fun c₀ cs hu => ?_
  apply wpS_seq
  apply wpS_region
  simp [wpOpsS, go_sem, recoverD, hu, Try.ntmps33, Exit.thenS]
  change Code.wpS _ _ _ { tmps := #[.pointer (some p), .pointer (some q), .iface 56 (.agg #[]), undef, undef, .iface 56 (.agg #[]), undef, undef, undef, undef, undef, undef, undef, undef, undef, undef], defers := [] } _ _
  refine wpS_of_wp ?_
  go_wp2_with fail
  simp [bodyPostS, results, Try.results33]

theorem catch_idle (p q : Addr) (w : World) :
    CallsD Try.prog 33 #[.pointer (some p), .pointer (some q)] .returning w fun e u' w' => e = .returned (.tuple #[]) ∧ u' = .returning ∧ w' = w := by
  refine callsD_of_wpS Try.func33 rfl fun c₀ cs hu => ?_
  apply wpS_seq
  apply wpS_region
  simp [wpOpsS, go_sem, recoverD, hu, Try.ntmps33, Exit.thenS]
  change Code.wpS _ _ _ { tmps := #[.pointer (some p), .pointer (some q), .nilIface, undef, undef, .nilIface, undef, undef, undef, undef, undef, undef, undef, undef, undef, undef], defers := [] } _ _
  refine wpS_of_wp ?_
  go_wp2_with fail
  simp [bodyPostS, results, Try.results33, hu]
  rw [← hu]
end Go.Proofs.Ytjmmabilpdiohaa
