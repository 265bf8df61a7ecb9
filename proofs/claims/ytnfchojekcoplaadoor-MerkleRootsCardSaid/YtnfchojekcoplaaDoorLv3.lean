/- merkle.Path -/
import Derived.Test.YtnfchojekcoplaaDoorLv2
namespace Go.Proofs.YtnfchojekcoplaaDoor
set_option linter.unusedVariables false
set_option linter.unusedSimpArgs false
open Go Go.RowKit
attribute [local go_sem] Oper.semAt_some

theorem lvF_mem : ∀ (k f n : Nat), 1 ≤ n → n ≤ 2048 → f ≤ 5000 - 2 * n → ∀ x ∈ lvF k f n, x.1 ≤ 5000 ∧ x.2 ≤ 2048
  | 0, _, _, _, _, _, x, hx => by simp [lvF] at hx
  | k + 1, f, n, h1, h2, h3, x, hx => by
    rw [lvF] at hx
    rcases List.mem_cons.1 hx with rfl | hx
    · exact ⟨by omega, by simp; omega⟩
    · split at hx
      · cases hx
      · exact lvF_mem k _ _ (by omega) (by omega) (by omega) x hx
theorem lvs_mem (n : Int) (x : Nat × Nat) (hx : x ∈ lvs n) : x.1 ≤ 5000 ∧ x.2 ≤ 2048 := by
  unfold lvs at hx
  split at hx
  · exact lvF_mem _ _ _ (by omega) (by omega) (by omega) x hx
  · cases hx

/-- which sectors of the tree lie above sector i -/
def pathL (i : Nat) (xs : List (Nat × Nat)) : List Nat := xs.mapIdx fun k x => x.1 + i / 2 ^ (k + 1)
theorem pathL_length (i : Nat) (xs : List (Nat × Nat)) : (pathL i xs).length = xs.length := by simp [pathL]
theorem pathL_snoc (i : Nat) (xs : List (Nat × Nat)) (x : Nat × Nat) : pathL i (xs ++ [x]) = pathL i xs ++ [x.1 + i / 2 ^ (xs.length + 1)] := by
  rw [pathL, List.mapIdx_concat]; rfl
def natV (l : List Nat) : List Value := l.map fun (z : Nat) => Value.int .i64 (z : Int)
def pathI (n i : Int) : List Nat := if 0 ≤ i ∧ i < n then pathL i.toNat (lvs n) else []

def PtI (w : World) (i : Nat) (pre : List (Nat × Nat)) (W : World) : Prop :=
  (∃ v, Boxed W (w.heap.size + 1) 36 v ∧ W.ownsRow (w.heap.size + 3) 3 1 v pre.length (natV (pathL i pre))) ∧ Boxed W w.heap.size 3 (.int .i64 ((i / 2 ^ pre.length : Nat) : Int)) ∧ Below w.heap.size w W ∧ w.heap.size + 3 ≤ W.heap.size

theorem box_app {W w1 : World} {base b k : Nat} {t e : TypeId} {size : Nat} {u v : Value} {xs : List Value} {tmp : Obj} (h : Boxed W b t u) (hrow : W.ownsRow base e size v k xs) (hb : b < base) (hgrow : (W.alloc tmp).grownBy w1 v.ownBlock) : Boxed w1 b t u := by
  refine (h.alloc tmp).kept hgrow fun e' => ?_
  rcases hrow.2 with ⟨rfl, _⟩ | ⟨g, cap, cur, rfl, hb', _⟩
  · simp [Value.ownBlock] at e'
  · simp [Value.ownBlock] at e'
    omega
theorem Boxed.setOther {W : World} {b c : Nat} {t : TypeId} {u v : Value} (h : Boxed W b t u) (hne : b ≠ c) : Boxed (W.setCell ⟨c, 0, none⟩ v) b t u :=
  (Below.heap_setCell W ⟨c, 0, none⟩ v b hne).trans h

set_option maxRecDepth 100000 in
set_option maxHeartbeats 2000000 in
theorem mpath_any (n i : Int) (w : World) : Calls Tryd.prog 19 #[.int .i64 n, .int .i64 i] w fun e w' =>
    ∃ v, e = .returned v ∧ OwnG w' w.heap.size 3 1 v (pathI n i).length (natV (pathI n i)) ∧ Below w.heap.size w w' := by
  refine (callsIn_wide (n := 3)).1 ?_
  obtain ⟨i0, hi, hz0, hz1, hz2⟩ := info_parts info_int
  refine callsIn_of_wp_marks Tryd.func19 rfl trivial ?_ rfl
  simp only [Tryd.ntmps19, List.size_toArray, List.length_cons, List.length_nil, Nat.reduceAdd, Nat.reduceSub, Array.replicate_succ, Array.replicate_zero, List.push_toArray, List.append_toArray, List.nil_append, List.cons_append]
  have hb1 : Below w.heap.size w (w.alloc (.cells #[.int .i64 i] 3)) := (Below.refl _ w).alloc (Nat.le_refl _) _
  by_cases c1 : i < 0
  · have e : pathI n i = [] := by unfold pathI; rw [if_neg (by omega)]
    rw [e]
    gi_wp2
    exact ⟨_, results_tmp rfl _ _ _, _, rfl, ⟨rfl, .inl ⟨rfl, rfl⟩⟩, hb1⟩
  by_cases c2 : n ≤ i
  · have e : pathI n i = [] := by unfold pathI; rw [if_neg (by omega)]
    rw [e]
    gi_wp2
    exact ⟨_, results_tmp rfl _ _ _, _, rfl, ⟨rfl, .inl ⟨rfl, rfl⟩⟩, hb1⟩
  obtain ⟨j, rfl⟩ : ∃ j : Nat, i = (j : Int) := ⟨i.toNat, by omega⟩
  have e : pathI n j = pathL j (lvs n) := by unfold pathI; rw [if_pos (by omega)]; rfl
  rw [e]
  clear e
  gi_wp2
  refine ⟨trivial, ?_⟩
  refine (callsIn_wide.2 (levels_any _ _)).mono ?_
  rintro e w' ⟨rfl, rfl⟩
  gi_wp2
  have bI := ((Boxed.new w 3 (.int .i64 (j : Int))).alloc (.cells #[.slice none 0 0] 36)).alloc (.cells #[.int .i64 n] 3)
  have bO := (Boxed.new (w.alloc (.cells #[.int .i64 (j : Int)] 3)) 36 (.slice none 0 0)).alloc (.cells #[.int .i64 n] 3)
  have bN := Boxed.new ((w.alloc (.cells #[.int .i64 (j : Int)] 3)).alloc (.cells #[.slice none 0 0] 36)) 3 (.int .i64 n)
  rw [World.size_alloc] at bO
  rw [World.size_alloc, World.size_alloc] at bN
  have hB0 : Below w.heap.size w (((w.alloc (.cells #[.int .i64 (j : Int)] 3)).alloc (.cells #[.slice none 0 0] 36)).alloc (.cells #[.int .i64 n] 3)) := (hb1.alloc (by simp) _).alloc (by simp; omega) _
  have hs0 : (((w.alloc (.cells #[.int .i64 (j : Int)] 3)).alloc (.cells #[.slice none 0 0] 36)).alloc (.cells #[.int .i64 n] 3)).heap.size = w.heap.size + 3 := by simp
  refine range_box (gf := 28) (lb := #[.pointer (some ⟨w.heap.size + 2, 0, none⟩)]) rfl (enters_of Tryd.func28 (by kernel_rfl) rfl)
    (lv_gives _ n (w.heap.size + 2) (by omega)) (fun _ => rfl) bN (fun W h => h)
    (PtI w j)
    (fun pre W W' hk hI => ?keep) ⟨⟨_, bO, World.ownsRow_nil _ _ _ _⟩, by simpa using bI, hB0, by simp⟩
    (fun x => { tmps := #[.int .i64 n, .int .i64 (j : Int), undef, .pointer (some ⟨w.heap.size, 0, none⟩), .slice none 0 0, .pointer (some ⟨w.heap.size + 1, 0, none⟩), .int .i64 (x.1 : Int), .int .i64 (j : Int), .bool false, .bool false, .int .i64 (j : Int), .int .i64 n, .bool false, .bool false, .int .i64 n, .func (.func 28) #[] #[.pointer (some ⟨w.heap.size + 2, 0, none⟩)], .int .i64 (x.1 : Int), .int .i64 (x.2 : Int), undef, undef, undef, undef, undef, undef, undef, undef, undef], defers := [] }) ?assign ?body ?done
  case keep =>
    obtain ⟨⟨v, h1, h2⟩, h3, h4, h5⟩ := hI
    exact ⟨⟨v, Boxed.keptBox h1 hk (by omega), ownsRow_kept h2 hk (by omega)⟩, Boxed.keptBox h3 hk (by omega), hk.below h4 (by omega) (by rw [hs0]; omega) (Nat.le_refl _), Nat.le_trans h5 hk.size⟩
  case assign =>
    intro l x W K hK
    gi_wp2
    exact hK
  case body =>
    rintro l pre x post W hx ⟨⟨v, hv, hrow⟩, hbi, hB, hsz⟩
    have hlen : pre.length + 1 ≤ 12 := by have := lvs_length n; rw [hx] at this; simp at this; omega
    have hxm := lvs_mem n x (by rw [hx]; simp)
    have hj : j < 2048 := by
      have : lvs n ≠ [] := by rw [hx]; simp
      unfold lvs at this
      split at this
      · omega
      · exact absurd rfl this
    obtain ⟨q, hq⟩ : ∃ q, j / 2 ^ pre.length = q := ⟨_, rfl⟩
    obtain ⟨q', hq'⟩ : ∃ q', j / 2 ^ (pre.length + 1) = q' := ⟨_, rfl⟩
    have hqq : q / 2 = q' := by rw [← hq, ← hq', Nat.pow_succ, Nat.div_div_eq_div_mul]
    have hqi : (q : Int) / 2 = (q' : Int) := by omega
    have hqj : q ≤ j := by rw [← hq]; exact Nat.div_le_self _ _
    rw [hq] at hbi
    have hbc := hbi.cell
    have hbf := hbi.frozen
    obtain ⟨W1, hW1⟩ : ∃ W1, W.setCell ⟨w.heap.size, 0, none⟩ (.int .i64 (q' : Int)) = W1 := ⟨_, rfl⟩
    have hbi1 : Boxed W1 w.heap.size 3 (.int .i64 (q' : Int)) := by rw [← hW1]; exact hbi.set _
    have hv1 : Boxed W1 (w.heap.size + 1) 36 v := by rw [← hW1]; exact Boxed.setOther hv (by omega)
    have hrow1 : W1.ownsRow (w.heap.size + 3) 3 1 v pre.length (natV (pathL j pre)) := by
      rw [← hW1]
      refine hrow.kept (grownBy_setCell' W w.heap.size _) ?_
      rcases hrow.2 with ⟨rfl, _⟩ | ⟨g, cap, cur, rfl, hb, _⟩
      · exact .inl rfl
      · refine .inr fun e' => ?_
        simp [Value.ownBlock] at e'
        omega
    have hB1 : Below w.heap.size W W1 := by rw [← hW1]; exact (Below.refl _ W).setCell (p := ⟨w.heap.size, 0, none⟩) (Nat.le_refl _) _
    have hsz1 : w.heap.size + 3 ≤ W1.heap.size := Nat.le_trans hsz hB1.size
    have hko : KeepsOthers W W1 := by rw [← hW1]; exact KeepsOthers.setCell _ _ _
    have hnb : W1.heap[w.heap.size + 2]? = W.heap[w.heap.size + 2]? := by rw [← hW1]; exact Below.heap_setCell W ⟨w.heap.size, 0, none⟩ _ _ (by simp)
    have hbc1 := hbi1.cell
    have hvc1 := hv1.cell
    clear hv hrow hbi
    gi_wp2_with (gi_at_builtin; refine wpListIn_append_own _ rfl _ _ 36 rfl (w.heap.size + 3) 3 i0 (.int .i64 0) 1 8 Tryd.underlying36 hi hz0 hz1 hz2 rfl (by decide) _ _ _ rfl (hrow1.alloc _) ⟨W1.heap.size, 0, none⟩ 1 1 [.int .i64 ((x.1 : Int) + (q' : Int))] rfl rfl (cell_one_new _ _ _) (by simp [Value.oneCell']) (by unfold maxLen; omega) (by omega) (by rw [World.size_alloc]; omega) ?_; intro v' w1 hown' hgrow _; obtain ⟨g', cap', rfl⟩ := ownsRow_succ hown'; obtain ⟨hv2, hv3, hr2, hk2, hb2⟩ := hv1.appended (by decide) (ownsRow_base hrow1 (by omega)) (Nat.le_trans hB.size hB1.size) (by omega) (ownsRow_base hown' (by omega)) hgrow; have hc1 := hv2.cell; have hf1 := hv2.frozen)
    obtain ⟨hbb, hr3⟩ := app_round (t := 36) (Bo := w.heap.size + 1) (B := w.heap.size + 2) hrow1 (by omega) (by omega) (by omega) hsz1 hown' hgrow
    refine ⟨hko.trans hk2, hbb.trans hnb, ⟨_, hv3, ?_⟩, ?_, hB.trans (hB1.trans hb2), Nat.le_trans hsz1 hb2.size⟩
    · rw [pathL_snoc, hq']
      simp only [List.length_append, List.length_cons, List.length_nil, natV, List.map_append, List.map_cons, List.map_nil, Int.natCast_add]
      exact hr3
    · have := Boxed.setOther (box_app hbi1 hrow1 (by omega) hgrow) (c := w.heap.size + 1) (v := .slice (some ⟨g', 0, none⟩) (pre.length + 1) cap') (by omega)
      simpa [hq'] using this
  case done =>
    rintro D W hD ⟨⟨v, hv, hrow⟩, hbi, hB, hsz⟩ hK
    rw [hs0] at hD
    have hc := hv.cell
    gi_wp2
    refine ⟨by simp, .inl ⟨_, _, rfl, run_takeDeferred hK, ?_⟩⟩
    refine ⟨_, results_tmp rfl _ _ _, v, rfl, ?_, (Kept.putObj (B := w.heap.size) (T := w.heap.size) (.deferred none) hK rfl (by omega)).below hB (Nat.le_refl _) (Nat.le_refl _) (Nat.le_refl _)⟩
    rw [pathL_length]
    exact OwnG.of (ownsRow_base (ownsRow_putObj hrow _ hK rfl) (by omega))
end Go.Proofs.YtnfchojekcoplaaDoor
