/- merkle.Levels, merkle.Path -/
import Derived.Test.YtnfchojekcoplaaDoorLv
namespace Go.Proofs.YtnfchojekcoplaaDoor
set_option linter.unusedVariables false
set_option linter.unusedSimpArgs false
open Go Go.RowKit
attribute [local go_sem] Oper.semAt_some

theorem ownsRow_kept {W W' : World} {B T base : Nat} {e : TypeId} {size k : Nat} {v : Value} {xs : List Value} (h : W.ownsRow base e size v k xs) (hk : Kept B T W W') (hB : B < base) : W'.ownsRow base e size v k xs := by
  obtain ⟨h1, h2⟩ := h
  refine ⟨h1, ?_⟩
  rcases h2 with h2 | ⟨g, cap, cur, h2, h3, h4, h5⟩
  · exact .inl h2
  · exact .inr ⟨g, cap, cur, h2, h3, hk.blk g _ h4 (by omega) (.inr rfl), h5⟩
theorem Boxed.keptBox {W W' : World} {B T b : Nat} {t : TypeId} {v : Value} (h : Boxed W b t v) (hk : Kept B T W W') (hB : b ≠ B) : Boxed W' b t v := hk.blk b _ h hB (.inr rfl)

theorem info_int : (Tryd.prog.info? 3).map (fun i => (i.zero, i.size, i.bytes)) = some (some (.int .i64 0), 1, 8) := by kernel_rfl

/-- the levels' sizes -/
def lvN (xs : List (Nat × Nat)) : List Value := xs.map fun x => .int .i64 (x.2 : Int)
theorem lvF_length : ∀ (k f n : Nat), (lvF k f n).length ≤ k
  | 0, _, _ => Nat.le_refl _
  | k + 1, f, n => by
    rw [lvF]
    split
    · simp
    · have := lvF_length k (f + (n + 1) / 2) ((n + 1) / 2)
      simp
      omega
theorem lvs_length (n : Int) : (lvs n).length ≤ 12 := by
  unfold lvs
  split
  · exact lvF_length _ _ _
  · simp

theorem ownsRow_base {W : World} {base b : Nat} {e : TypeId} {size k : Nat} {v : Value} {xs : List Value} (h : W.ownsRow base e size v k xs) (hB : b ≤ base) : W.ownsRow b e size v k xs := by
  obtain ⟨h1, h2⟩ := h
  refine ⟨h1, ?_⟩
  rcases h2 with h2 | ⟨g, cap, cur, h2, h3, h5⟩
  · exact .inl h2
  · exact .inr ⟨g, cap, cur, h2, by omega, h5⟩
theorem app_round {W w1 : World} {base Bo B size k m : Nat} {t e : TypeId} {v v' : Value} {xs ys : List Value} {tmp : Obj} (hrow : W.ownsRow base e size v k xs) (hlt : Bo < base) (hB : B < base) (hBo : B ≠ Bo) (hsz : base ≤ W.heap.size)
    (hown' : w1.ownsRow base e size v' m ys) (hgrow : (W.alloc tmp).grownBy w1 v.ownBlock) :
    (w1.setCell ⟨Bo, 0, none⟩ v').heap[B]? = W.heap[B]? ∧ (w1.setCell ⟨Bo, 0, none⟩ v').ownsRow base e size v' m ys := by
  constructor
  · refine ((Below.heap_setCell w1 ⟨Bo, 0, none⟩ v' B hBo).trans (hgrow.block B (by rw [World.size_alloc]; omega) ?_)).trans (Below.heap_alloc W tmp B (by omega))
    intro e'
    rcases hrow.2 with ⟨rfl, _⟩ | ⟨g, cap, cur, rfl, hb, _⟩
    · simp [Value.ownBlock] at e'
    · simp [Value.ownBlock] at e'
      omega
  · refine hown'.kept (grownBy_setCell' w1 Bo v') ?_
    rcases hown'.2 with ⟨rfl, _⟩ | ⟨g, cap, cur, rfl, hb, _⟩
    · exact .inl rfl
    · refine .inr fun e' => ?_
      simp [Value.ownBlock] at e'
      omega
def LvI (w : World) (ty : TypeId) (f : List (Nat × Nat) → List Value) (pre : List (Nat × Nat)) (W : World) : Prop :=
  (∃ v, Boxed W w.heap.size ty v ∧ W.ownsRow (w.heap.size + 2) 3 1 v pre.length (f pre)) ∧ Below w.heap.size w W ∧ w.heap.size + 2 ≤ W.heap.size

set_option maxRecDepth 100000 in
set_option maxHeartbeats 2000000 in
theorem mlevels_any (n : Int) (w : World) : Calls Tryd.prog 16 #[.int .i64 n] w fun e w' =>
    ∃ v, e = .returned v ∧ OwnG w' w.heap.size 3 1 v (lvs n).length (lvN (lvs n)) ∧ Below w.heap.size w w' := by
  refine (callsIn_wide (n := 3)).1 ?_
  obtain ⟨i0, hi, hz0, hz1, hz2⟩ := info_parts info_int
  refine callsIn_of_wp_marks Tryd.func16 rfl trivial ?_ rfl
  simp only [Tryd.ntmps16, List.size_toArray, List.length_cons, List.length_nil, Nat.reduceAdd, Nat.reduceSub, Array.replicate_succ, Array.replicate_zero, List.push_toArray, List.append_toArray, List.nil_append, List.cons_append]
  gi_wp2
  refine ⟨trivial, ?_⟩
  refine (callsIn_wide.2 (levels_any _ _)).mono ?_
  rintro e w' ⟨rfl, rfl⟩
  gi_wp2
  have bO := (Boxed.new w 36 (.slice none 0 0)).alloc (.cells #[.int .i64 n] 3)
  have bN := Boxed.new (w.alloc (.cells #[.slice none 0 0] 36)) 3 (.int .i64 n)
  rw [World.size_alloc] at bN
  have hB0 : Below w.heap.size w ((w.alloc (.cells #[.slice none 0 0] 36)).alloc (.cells #[.int .i64 n] 3)) := ((Below.refl _ w).alloc (Nat.le_refl _) _).alloc (by simp) _
  have hs0 : ((w.alloc (.cells #[.slice none 0 0] 36)).alloc (.cells #[.int .i64 n] 3)).heap.size = w.heap.size + 2 := by simp
  refine range_box (gf := 28) (lb := #[.pointer (some ⟨w.heap.size + 1, 0, none⟩)]) rfl (enters_of Tryd.func28 (by kernel_rfl) rfl)
    (lv_gives _ n (w.heap.size + 1) (by omega)) (fun _ => rfl) bN (fun W h => h)
    (LvI w 36 lvN)
    (fun pre W W' hk hI => ?keep) ⟨⟨_, bO, World.ownsRow_nil _ _ _ _⟩, hB0, by simp⟩
    (fun x => { tmps := #[.int .i64 n, undef, .slice none 0 0, .pointer (some ⟨w.heap.size, 0, none⟩), undef, .int .i64 (x.2 : Int), .int .i64 n, .func (.func 28) #[] #[.pointer (some ⟨w.heap.size + 1, 0, none⟩)], .int .i64 (x.1 : Int), .int .i64 (x.2 : Int), undef, undef, undef, undef, undef], defers := [] }) ?assign ?body ?done
  case keep =>
    obtain ⟨⟨v, h1, h2⟩, h3, h4⟩ := hI
    exact ⟨⟨v, Boxed.keptBox h1 hk (by omega), ownsRow_kept h2 hk (by omega)⟩, hk.below h3 (by omega) (by rw [hs0]; omega) (Nat.le_refl _), Nat.le_trans h4 hk.size⟩
  case assign =>
    intro l x W K hK
    gi_wp2
    exact hK
  case body =>
    rintro l pre x post W hx ⟨⟨v, hv, hrow⟩, hB, hsz⟩
    have hlen : pre.length + 1 ≤ 12 := by have := lvs_length n; rw [hx] at this; simp at this; omega
    have hc := hv.cell
    gi_wp2_with (gi_at_builtin; refine wpListIn_append_own _ rfl _ _ 36 rfl (w.heap.size + 2) 3 i0 (.int .i64 0) 1 8 Tryd.underlying36 hi hz0 hz1 hz2 rfl (by decide) _ _ _ rfl (hrow.alloc _) ⟨W.heap.size, 0, none⟩ 1 1 [.int .i64 (x.2 : Int)] rfl rfl (cell_one_new _ _ _) (by simp [Value.oneCell']) (by unfold maxLen; omega) (by omega) (by rw [World.size_alloc]; omega) ?_; intro v' w1 hown' hgrow _; obtain ⟨g', cap', rfl⟩ := ownsRow_succ hown'; obtain ⟨hv1, hv2, hr2, hk2, hb2⟩ := hv.appended (by decide) (ownsRow_base hrow (by omega)) hB.size (Nat.le_refl _) (ownsRow_base hown' (by omega)) hgrow; have hc1 := hv1.cell; have hf1 := hv1.frozen)
    obtain ⟨hbb, hr3⟩ := app_round (t := 36) (Bo := w.heap.size) (B := w.heap.size + 1) hrow (by omega) (by omega) (by omega) hsz hown' hgrow
    refine ⟨hk2, hbb, ⟨_, hv2, ?_⟩, hB.trans hb2, Nat.le_trans hsz hb2.size⟩
    simp only [List.length_append, List.length_cons, List.length_nil, lvN, List.map_append, List.map_cons, List.map_nil]
    exact hr3
  case done =>
    rintro D W hD ⟨⟨v, hv, hrow⟩, hB, hsz⟩ hK
    rw [hs0] at hD
    have hc := hv.cell
    gi_wp2
    refine ⟨by simp, .inl ⟨_, _, rfl, run_takeDeferred hK, ?_⟩⟩
    exact ⟨_, results_tmp rfl _ _ _, v, rfl, OwnG.of (ownsRow_base (ownsRow_putObj hrow _ hK rfl) (by omega)), (Kept.putObj (B := w.heap.size) (T := w.heap.size) (.deferred none) hK rfl (by omega)).below hB (Nat.le_refl _) (Nat.le_refl _) (Nat.le_refl _)⟩
end Go.Proofs.YtnfchojekcoplaaDoor
