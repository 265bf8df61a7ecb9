/- devices: copies of maps -/
import Derived.Test.YthenpkimcjdkcaaDv7
import Derived.Laws.Externs
import Derived.MapKept
namespace Go.Proofs.Ythenpkimcjdkcaa
set_option linter.unusedVariables false
set_option linter.unusedSimpArgs false
open Go.RowKit

theorem run_eq_map_nil {P : Program} (w : World) (d : Nat) (t k e : TypeId) (p : Option Nat) (h : P.underlying t = some (.map k e)) : (Op.equalIn (d + 1) t (.map p) (.map none)).run P w = .ok p.isNone w := by
  cases p <;> simp [Op.equalIn, run_underlying h]
theorem run_eql_map_nil' {P : Program} (w : World) (t k e : TypeId) (p : Option Nat) (h : P.underlying t = some (.map k e)) : (binOp .eql t (.map p) (.map none)).run P w = .ok (.bool p.isNone) w := by
  simp only [binOp]
  simp [show Op.equal t (.map p) (.map none) = Op.equalIn (9999 + 1) t (.map p) (.map none) from rfl, run_eq_map_nil w 9999 t k e p h]
theorem run_assert_map {P : Program} (w : World) (t xT k e : TypeId) (v : Value) (h : P.underlying t = some (.map k e)) : (Instr.typeAssert (.iface t v) xT t false).run P w = .ok v w := by
  simp [Instr.typeAssert, run_underlying h, go_sem, Result.andThen]
theorem run_mclone {P : Program} (w : World) {r : Nat} {es : Array MapEntry} {clock : Nat} (t : TypeId) (hb : w.heap[r]? = some (.map es clock)) :
    (Extern.MapsClone.clone #[.iface t (.map (some r))]).run P w = .ok (.iface t (.map (some w.heap.size))) (w.alloc (.map es clock)) := by
  have e : Extern.MapsClone.clone #[.iface t (.map (some r))] = (getObj r >>= fun o => match o with
      | .map entries clock => (newObj (.map entries clock) >>= fun n => pure (.iface t (.map (some n))))
      | _ => stuck "maps.clone: a map expected") := rfl
  rw [e]
  simp [MapKept.run_getObj_map hb, Result.andThen, go_sem]

set_option maxRecDepth 20000 in
set_option maxHeartbeats 2000000 in
theorem mclone1 (b : Nat) (es : Array MapEntry) (clock : Nat) (w : World) (hb : w.heap[b]? = some (.map es clock)) :
    Calls Try.prog 80 #[.map (some b)] w fun e w' => e = .returned (.map (some w.heap.size)) ∧ w' = w.alloc (.map es clock) := by
  have hq := fun w => run_eql_map_nil' (P := Try.prog) w 89 _ _ (some b) Try.underlying89
  go_enter Try.func80, Try.ntmps80
  go_wp2
  rw [run_callFunc_extern Try.func84 (by kernel_rfl) (by kernel_rfl) (by kernel_rfl) (e := Extern.MapsClone.clone) (by kernel_rfl), run_mclone w 89 hb]
  simp only [Result.andThen]
  rw [Oper.upon_value]
  go_wp2
  rw [run_assert_map _ 89 _ _ _ _ Try.underlying89]
  simp only [Result.andThen]
  rw [Oper.upon_value]
  go_wp2
  go_ret
  exact ⟨rfl, rfl⟩
set_option maxRecDepth 20000 in
set_option maxHeartbeats 2000000 in
theorem mclone2 (b : Nat) (es : Array MapEntry) (clock : Nat) (w : World) (hb : w.heap[b]? = some (.map es clock)) :
    Calls Try.prog 81 #[.map (some b)] w fun e w' => e = .returned (.map (some w.heap.size)) ∧ w' = w.alloc (.map es clock) := by
  have hq := fun w => run_eql_map_nil' (P := Try.prog) w 90 _ _ (some b) Try.underlying90
  go_enter Try.func81, Try.ntmps81
  go_wp2
  rw [run_callFunc_extern Try.func84 (by kernel_rfl) (by kernel_rfl) (by kernel_rfl) (e := Extern.MapsClone.clone) (by kernel_rfl), run_mclone w 90 hb]
  simp only [Result.andThen]
  rw [Oper.upon_value]
  go_wp2
  rw [run_assert_map _ 90 _ _ _ _ Try.underlying90]
  simp only [Result.andThen]
  rw [Oper.upon_value]
  go_wp2
  go_ret
  exact ⟨rfl, rfl⟩

/-- A copy of a map from sectors to bytes. -/
theorem fclone_any {w : World} {I : Nat → Prop} {b : Nat} {f : Int → List UInt8} (h : FMap w I b f) (hI : ∀ k, I k → k < w.heap.size) :
    Calls Try.prog 80 #[.map (some b)] w fun e w' => e = .returned (.map (some w.heap.size)) ∧ FMap w' I w.heap.size f ∧ Below w.heap.size w w' ∧ w'.heap.size = w.heap.size + 1 := by
  obtain ⟨l, hl, hf⟩ := h
  obtain ⟨es, ck, hb, hc⟩ := hl.copied
  refine (mclone1 b es ck w hb).mono ?_
  rintro e w' ⟨rfl, rfl⟩
  have hbl : Below w.heap.size w (w.alloc (.map es ck)) := (Below.refl _ _).alloc (Nat.le_refl _) _
  refine ⟨rfl, ⟨l, hc, fun i => ?_⟩, hbl, World.size_alloc _ _⟩
  rcases hf i with h3 | ⟨v, x, h3, h4, h5, h6⟩
  · exact .inl h3
  · exact .inr ⟨v, x, h3, h4.keep (fun _ h => h) (fun k hk => hbl.block k (hI k hk)), h5, h6⟩
theorem bclone_any {w : World} {b : Nat} {f : Int → Bool} (h : BMap w b f) :
    Calls Try.prog 81 #[.map (some b)] w fun e w' => e = .returned (.map (some w.heap.size)) ∧ BMap w' w.heap.size f ∧ Below w.heap.size w w' ∧ w'.heap.size = w.heap.size + 1 := by
  obtain ⟨l, hl, hf⟩ := h
  obtain ⟨es, ck, hb, hc⟩ := hl.copied
  refine (mclone2 b es ck w hb).mono ?_
  rintro e w' ⟨rfl, rfl⟩
  exact ⟨rfl, ⟨l, hc, hf⟩, (Below.refl _ _).alloc (Nat.le_refl _) _, World.size_alloc _ _⟩
end Go.Proofs.Ythenpkimcjdkcaa
