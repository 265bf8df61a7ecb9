/- the document's Split -/
import Derived.Test.YtnhfpjjmhanehaaSplit
namespace Go.Proofs.Ytnhfpjjmhanehaa
set_option linter.unusedVariables false
set_option linter.unusedSimpArgs false
open Go.RowKit

/-- One thing more. -/
def bump : List (Nat × Nat) → List (Nat × Nat)
  | [] => []
  | [p] => [(p.1, p.2 + 1)]
  | p :: q :: l => p :: bump (q :: l)
theorem bump_cons (p : Nat × Nat) (l : List (Nat × Nat)) (h : l ≠ []) : bump (p :: l) = p :: bump l := by
  cases l with
  | nil => exact absurd rfl h
  | cons q l => rfl
theorem bump_snoc (l : List (Nat × Nat)) (x m : Nat) : bump (l ++ [(x, m)]) = l ++ [(x, m + 1)] := by
  induction l with
  | nil => rfl
  | cons p l ih => rw [List.cons_append, bump_cons _ _ (by simp), ih, List.cons_append]

theorem splitL_ne (s x n : Nat) (hs : 1 ≤ s) (hn : 0 < n) : splitL s x n ≠ [] := by
  rw [splitL_cons s x n hs hn]; simp

theorem splitL_snoc (s : Nat) (hs : 1 ≤ s) : ∀ (j x : Nat), splitL s x (j + 1) = if j = 0 ∨ (x + j) % s = 0 then splitL s x j ++ [(x + j, 1)] else bump (splitL s x j) := by
  intro j
  induction j using Nat.strongRecOn with
  | _ j ih =>
    intro x
    have hm := Nat.mod_lt x hs
    have hdm := Nat.div_add_mod x s
    rw [splitL_cons s x (j + 1) hs (by omega)]
    by_cases hj : j = 0
    · subst hj
      have e : min (0 + 1) (s - x % s) = 1 := by omega
      rw [e, if_pos (.inl rfl)]
      simp [splitL_zero]
    · by_cases h1 : j + 1 ≤ s - x % s
      · have e : min (j + 1) (s - x % s) = j + 1 := by omega
        have e2 : min j (s - x % s) = j := by omega
        have hne : ¬ (x + j) % s = 0 := by
          have : (x + j) % s = x % s + j := by
            rw [Nat.add_mod, Nat.mod_eq_of_lt (show j < s by omega), Nat.mod_eq_of_lt (by omega)]
          omega
        rw [e, Nat.sub_self, splitL_zero, if_neg (by omega), splitL_cons s x j hs (by omega), e2, Nat.sub_self, splitL_zero]
        rfl
      · have e : min (j + 1) (s - x % s) = s - x % s := by omega
        rw [e, splitL_cons s x j hs (by omega)]
        by_cases h2 : j = s - x % s
        · have e2 : min j (s - x % s) = s - x % s := by omega
          have hz : (x + j) % s = 0 := by
            have : x + j = s * (x / s + 1) := by rw [Nat.mul_add]; omega
            rw [this]; exact Nat.mul_mod_right _ _
          have e3 : j + 1 - (s - x % s) = 1 := by omega
          have e4 : j - (s - x % s) = 0 := by omega
          rw [e2, if_pos (.inr hz), e3, e4, splitL_zero, splitL_cons s _ 1 hs (by omega)]
          have hz2 : (x + (s - x % s)) % s = 0 := by rw [← h2]; exact hz
          have e5 : min 1 (s - (x + (s - x % s)) % s) = 1 := by rw [hz2]; omega
          rw [e5, splitL_zero, h2]
          rfl
        · have e2 : min j (s - x % s) = s - x % s := by omega
          rw [e2]
          have hih := ih (j - (s - x % s)) (by omega) (x + (s - x % s))
          have e3 : j + 1 - (s - x % s) = j - (s - x % s) + 1 := by omega
          have e4 : x + (s - x % s) + (j - (s - x % s)) = x + j := by omega
          rw [e3, hih, e4]
          by_cases hz : (x + j) % s = 0
          · rw [if_pos (.inr hz), if_pos (.inr hz)]
            rfl
          · rw [if_neg (by omega), if_neg (by omega), bump_cons _ _ (splitL_ne s _ _ hs (by omega))]

theorem rsplit_bad (x n s : Int) (w : World) (hx : -9223372036854775808 ≤ x ∧ x ≤ 9223372036854775807) (hn : -9223372036854775808 ≤ n ∧ n ≤ 9223372036854775807)
    (h : ¬ validB x n s) :
    Calls Try.prog 21 #[.int .i64 x, .int .i64 n, .int .i64 s] w fun e w' => e = .returned (.slice none 0 0) ∧ w = w' := by
  unfold validB at h
  by_cases h1 : x < 0
  · go_enter Try.func21, Try.ntmps21
    go_wp2_with fail
    go_ret
    exact ⟨rfl, rfl⟩
  · by_cases h2 : n < 0
    · go_enter Try.func21, Try.ntmps21
      go_wp2_with fail
      go_ret
      exact ⟨rfl, rfl⟩
    · by_cases h3 : s < 1
      · go_enter Try.func21, Try.ntmps21
        go_wp2_with fail
        go_ret
        exact ⟨rfl, rfl⟩
      · by_cases h4 : 65536 < n
        · go_enter Try.func21, Try.ntmps21
          go_wp2_with fail
          go_ret
          exact ⟨rfl, rfl⟩
        · have h5 : 2147483647 - n < x := by omega
          clear h
          go_enter Try.func21, Try.ntmps21
          go_wp2_with fail
          go_ret
          exact ⟨rfl, rfl⟩

theorem ownp_last {w : World} {base : Nat} {v : Value} {l : List (Nat × Nat)} {y m : Nat} (h : OwnP w base v (l ++ [(y, m)])) :
    ∃ g c, v = .slice (some ⟨g, 0, none⟩) (l.length + 1) c ∧ base ≤ g ∧ w.cell? ⟨g, l.length * 2 + 1, none⟩ = some (.int .i64 (m : Int)) ∧ w.frozen? ⟨g, l.length * 2 + 1, none⟩ = false := by
  have hl : (l ++ [(y, m)]).length = l.length + 1 := by simp
  unfold OwnP at h
  rw [hl] at h
  obtain ⟨g, c, rfl, hg, hlt⟩ := h.form (by omega)
  refine ⟨g, c, rfl, hg, ?_, h.frozenAt _⟩
  rw [h.cellAt _ (by omega)]
  have := (cs2_get (l ++ [(y, m)]) l.length (by simp)).2
  rw [show l.length * 2 + 1 = 2 * l.length + 1 by omega, this]
  simp

theorem ownp_bump {w : World} {base g c : Nat} {l : List (Nat × Nat)} {y m : Nat} (h : OwnP w base (.slice (some ⟨g, 0, none⟩) (l.length + 1) c) (l ++ [(y, m)])) :
    OwnP (w.setCell ⟨g, l.length * 2 + 1, none⟩ (.int .i64 ((m : Int) + 1))) base (.slice (some ⟨g, 0, none⟩) (l.length + 1) c) (l ++ [(y, m + 1)]) := by
  have hl : ∀ k, (l ++ [(y, k)]).length = l.length + 1 := by simp
  unfold OwnP at h ⊢
  rw [hl] at h ⊢
  have := (h.stored (l.length * 2 + 1) (.int .i64 ((m : Int) + 1))).1
  have e : (cs2 (l ++ [(y, m)])).set (l.length * 2 + 1) (.int .i64 ((m : Int) + 1)) = cs2 (l ++ [(y, m + 1)]) := by
    rw [cs2_append, cs2_append, List.set_append_right _ _ (by rw [cs2_length]; omega), cs2_length, show l.length * 2 + 1 - l.length * 2 = 1 by omega]
    rfl
  rw [e] at this
  exact this
theorem OwnP.drew {w : World} {base : Nat} {v : Value} {l : List (Nat × Nat)} (h : OwnP w base v l) : OwnP w.drew base v l := h

theorem splitL_small (s : Nat) (hs : 1 ≤ s) : ∀ (n x : Nat), ∀ p ∈ splitL s x n, p.2 ≤ n := by
  intro n
  induction n using Nat.strongRecOn with
  | _ n ih =>
    intro x p hp
    by_cases hn : n = 0
    · subst hn; simp [splitL_zero] at hp
    · have hm := Nat.mod_lt x hs
      rw [splitL_cons s x n hs (by omega)] at hp
      rcases List.mem_cons.1 hp with h | h
      · subst h; exact Nat.min_le_left _ _
      · have := ih _ (by omega) _ p h
        omega

def RSplitRel (s x n : Nat) (w : World) (v i : Value) (wr : World) : Prop :=
  ∃ (j : Nat), j ≤ n ∧ i = .int .i64 ((x + j : Nat) : Int) ∧ (∃ a c, v = .slice a (splitL s x j).length c) ∧ OwnP wr w.heap.size v (splitL s x j) ∧ Below w.heap.size w wr

theorem splitL_last (s x j : Nat) (hs : 1 ≤ s) (hj : 0 < j) : ∃ l p, splitL s x j = l ++ [p] :=
  ⟨_, _, (List.dropLast_concat_getLast (splitL_ne s x j hs hj)).symm⟩

set_option maxHeartbeats 1000000 in
theorem rsplit_good (x n s : Nat) (w : World) (hs : 1 ≤ s) (hs2 : s ≤ 9223372036854775807) (hn : n ≤ 65536) (hxn : x + n ≤ 2147483647) :
    Calls Try.prog 21 #[.int .i64 x, .int .i64 n, .int .i64 s] w (SplitPost s x n w) := by
  have HS := Lib.hid (splitL_length s hs)
  have hxi : (x : Int) ≤ 2147483647 - (n : Int) := by omega
  go_enter Try.func21, Try.ntmps21
  go_wp2_with fail
  go_loopw [7, 8] (fun v i wr => RSplitRel s x n w v i wr) (fun _ i _ => x + n - (intOf i).toNat)
  case atStart => exact ⟨0, Nat.zero_le _, rfl, ⟨none, 0, rfl⟩, World.ownsRow_nil _ _ _ _, Below.refl _ _⟩
  case round =>
    obtain ⟨j, hj, rfl, ⟨a, c, rfl⟩, hown, hbl⟩ := hrel
    have HO := Lib.hid hown
    have HB := Lib.hid hbl
    have hba := hbl.size
    clear hown hbl
    have hdl : (splitL s x j).length ≤ j := HS.out j x
    by_cases h0 : j < n
    · have hsn := splitL_snoc s hs j x
      have em : ((x : Int) + (j : Int)) % (s : Int) = (((x + j) % s : Nat) : Int) := by simp
      generalize (x + j) % s = q at hsn em
      by_cases hj0 : j = 0
      · subst hj0
        rw [if_pos (.inl rfl)] at hsn
        have HSN := Lib.hid hsn
        clear hsn em
        go_wp2_with (at_builtin; refine wpList_append_rd rfl _ _ 36 rfl w.heap.size 38 _ 2 16 Try.underlying36 info_2 rfl (by omega) _ (splitL s x 0).length (cs2 (splitL s x 0)) rfl (OwnP.alloc HO.out _) (wr.heap.size + 1) (some ⟨wr.heap.size, 0, none⟩) 1 1 (cs2 [(x + 0, 0)]) rfl rfl (Rd.new wr (cs2 [(x + 0, 0)]) 38) (cs2_one _) (by omega) (by omega) (by simp; omega) ?_)
        intro v1 w1 hown1 hgr1 hat1
        have hown2 : OwnP w1 w.heap.size v1 (splitL s x 0 ++ [(x + 0, 0)]) := by
          unfold OwnP
          rw [List.length_append, cs2_append]
          exact hown1
        have hb1 := Below.appP (HB.out.alloc hba (.cells (cs2 [(x + 0, 0)]).toArray 38)) (OwnP.alloc HO.out _) (Nat.le_refl _) hgr1
        clear hown1 hgr1 hat1
        obtain ⟨g, c1, rfl, hg, hc, hf⟩ := ownp_last hown2
        have HO1 := Lib.hid hown2
        have HB1 := Lib.hid hb1
        clear hown2 hb1 HO
        go_wp2_with fail
        go_region
        go_wp2_with fail
        go_roundw
        case rel =>
          refine ⟨0 + 1, by omega, by go_num, ⟨some ⟨g, 0, none⟩, c1, ?_⟩, ?_, (HB1.out.drew).setCell hg _⟩
          · rw [HSN.out, List.length_append]; rfl
          · rw [HSN.out]
            exact (ownp_bump HO1.out).drew
        case measure => simp [intOf]; omega
      · have d1 : (((x : Int) + (j : Int)) == (x : Int)) = false := by simp; omega
        by_cases hq : q = 0
        · subst hq
          rw [if_pos (.inr rfl)] at hsn
          have HSN := Lib.hid hsn
          clear hsn
          go_wp2_with (at_builtin; refine wpList_append_rd rfl _ _ 36 rfl w.heap.size 38 _ 2 16 Try.underlying36 info_2 rfl (by omega) _ (splitL s x j).length (cs2 (splitL s x j)) rfl (OwnP.alloc HO.out _) (wr.heap.size + 1) (some ⟨wr.heap.size, 0, none⟩) 1 1 (cs2 [(x + j, 0)]) rfl rfl (Rd.new wr (cs2 [(x + j, 0)]) 38) (cs2_one _) (by omega) (by omega) (by simp; omega) ?_)
          intro v1 w1 hown1 hgr1 hat1
          have hown2 : OwnP w1 w.heap.size v1 (splitL s x j ++ [(x + j, 0)]) := by
            unfold OwnP
            rw [List.length_append, cs2_append]
            exact hown1
          have hb1 := Below.appP (HB.out.alloc hba (.cells (cs2 [(x + j, 0)]).toArray 38)) (OwnP.alloc HO.out _) (Nat.le_refl _) hgr1
          clear hown1 hgr1 hat1
          obtain ⟨g, c1, rfl, hg, hc, hf⟩ := ownp_last hown2
          have HO1 := Lib.hid hown2
          have HB1 := Lib.hid hb1
          clear hown2 hb1 HO
          go_wp2_with fail
          go_region
          go_wp2_with fail
          go_roundw
          case rel =>
            refine ⟨j + 1, by omega, by go_num, ⟨some ⟨g, 0, none⟩, c1, ?_⟩, ?_, (HB1.out.drew).setCell hg _⟩
            · rw [HSN.out, List.length_append]; rfl
            · rw [HSN.out]
              exact (ownp_bump HO1.out).drew
          case measure => simp [intOf]; omega
        · rw [if_neg (by omega)] at hsn
          have d2 : ((q : Int) == 0) = false := by simp; omega
          obtain ⟨l, p, hl⟩ := splitL_last s x j hs (by omega)
          obtain ⟨y, m⟩ := p
          have hll : l.length ≤ j := by have := hdl; rw [hl, List.length_append] at this; omega
          have hm2 := splitL_small s hs j x
          rw [hl] at HO hsn hdl hm2 ⊢
          rw [bump_snoc] at hsn
          have hmm : m ≤ j := by
            have := hm2 (y, m) (by simp)
            exact this
          have HSN := Lib.hid hsn
          obtain ⟨g, c1, hv, hg, hc, hf⟩ := ownp_last HO.out
          rw [hv] at HO
          rw [hv]
          clear hsn hl hm2 hv
          go_wp2_with fail
          go_region
          go_wp2_with fail
          go_roundw
          case rel =>
            refine ⟨j + 1, by omega, by go_num, ⟨some ⟨g, 0, none⟩, c1, ?_⟩, ?_, (HB.out.drew).setCell hg _⟩
            · rw [HSN.out, List.length_append]; rfl
            · rw [HSN.out]
              exact (ownp_bump HO.out).drew
          case measure => simp [intOf]; omega
    · have hj' : j = n := by omega
      subst hj'
      go_wp2_with fail
      go_ret
      exact ⟨_, _, rfl, HO.out, HB.out⟩
end Go.Proofs.Ytnhfpjjmhanehaa
