/- OctetsOnce: the walk -/
import Derived.Test.YtnhfpjjmhanehaaParts
namespace Go.Proofs.Ytnhfpjjmhanehaa
set_option linter.unusedVariables false
set_option linter.unusedSimpArgs false
open Go.RowKit

theorem splitL_one (s y t : Nat) (hs : 1 ≤ s) (h1 : 1 ≤ t) (h2 : t ≤ s - y % s) : splitL s y t = [(y, t)] := by
  rw [splitL_cons s y t hs h1, Nat.min_eq_left h2, Nat.sub_self, splitL_zero]

theorem splitL_ones (n : Nat) : ∀ x, (splitL 1 x n).length = n := by
  induction n with
  | zero => intro x; rfl
  | succ n ih =>
    intro x
    have e : min (n + 1) (1 - x % 1) = 1 := by rw [Nat.mod_one]; omega
    rw [splitL_cons 1 x (n + 1) (by omega) (by omega), e, List.length_cons, Nat.add_sub_cancel, ih]

def OnceRel (s x n : Nat) (L : List (Nat × Nat)) (w : World) (i : Value) (wr : World) : Prop :=
  ∃ k y m : Nat, i = .int .i64 k ∧ k ≤ L.length ∧ L.drop k = splitL s y m ∧ y + m = x + n ∧ x ≤ y ∧ Below w.heap.size w wr

set_option maxRecDepth 100000 in
set_option maxHeartbeats 2000000 in
theorem law_OctetsOnce (x n s : Int) (w : World) (hx : (Lit.int .i64 x).wf = true) (hn : (Lit.int .i64 n).wf = true) (hs : (Lit.int .i64 s).wf = true) :
    Calls Try.prog 10 #[.int .i64 x, .int .i64 n, .int .i64 s] w fun e w' => e = .returned (.bool true) ∧ Below w.heap.size w w' := by
  replace hx := bounds_i64 hx
  replace hn := bounds_i64 hn
  replace hs := bounds_i64 hs
  by_cases h2000 : 2000 < n
  · go_enter Try.func10, Try.ntmps10
    go_wp2_with fail
    refine (alive_any _).mono ?_
    rintro e w3 ⟨rfl, hb⟩
    go_wp2_with fail
    go_ret
    exact ⟨rfl, hb⟩
  · by_cases hv : validB x n s
    · obtain ⟨v1, v2, v3, v4, v5⟩ := hv
      obtain ⟨x, rfl⟩ := Int.eq_ofNat_of_zero_le v3
      obtain ⟨n, rfl⟩ := Int.eq_ofNat_of_zero_le v4
      obtain ⟨s, rfl⟩ := Int.eq_ofNat_of_zero_le (show 0 ≤ s by omega)
      have hs1 : 1 ≤ s := by omega
      have hL := splitL_length s (by omega) n x
      have hxi : (x : Int) ≤ 2147483647 - (n : Int) := by omega
      go_enter Try.func10, Try.ntmps10
      go_wp2_with fail
      refine (split_good x n s _ (by omega) (by omega) (by omega) (by omega)).mono ?_
      rintro e w1 ⟨a1, c1, rfl, hown1, hb1⟩
      have HO1 := Lib.hid hown1
      have HB1 := Lib.hid hb1
      clear hown1 hb1
      generalize hLL : splitL s x n = L at HO1 hL ⊢
      have HLL := Lib.hid hLL
      clear hLL
      go_wp2_with fail
      go_loopw [8] (fun i wr => OnceRel s x n L w1 i wr) (fun i _ => L.length - (intOf i).toNat)
      case atStart => exact ⟨0, x, n, rfl, Nat.zero_le _, HLL.out.symm, rfl, Nat.le_refl _, Below.refl _ _⟩
      case round =>
        obtain ⟨k, y, m, rfl, hk, hdrop, hym, hxy, hbl⟩ := hrel
        have HBL := Lib.hid hbl
        clear hbl
        by_cases hlt : k < L.length
        · have hm0 : 0 < m := by
            rcases Nat.eq_zero_or_pos m with h | h
            · subst h
              rw [splitL_zero] at hdrop
              have := congrArg List.length hdrop
              simp at this
              omega
            · exact h
          have hmod := Nat.mod_lt y hs1
          have hone := splitL_one s y (min m (s - y % s)) hs1 (by omega) (Nat.min_le_right _ _)
          rw [List.drop_eq_getElem_cons hlt, splitL_cons s y m hs1 hm0, List.cons.injEq] at hdrop
          obtain ⟨hLk, hdrop⟩ := hdrop
          obtain ⟨g1, rfl, hg0, hg1, p1, p2⟩ := (HO1.out.below HBL.out).pair k hlt
          rw [hLk] at p1 p2
          have ht1 : 1 ≤ min m (s - y % s) := by omega
          have ht2 : min m (s - y % s) ≤ m := Nat.min_le_left _ _
          generalize min m (s - y % s) = t at *
          have C := Lib.hid (fun W => split_good y t s W hs1 (by omega) (by omega) (by omega))
          have HONE := Lib.hid hone
          have HD := Lib.hid hdrop
          clear hone hdrop hLk
          go_wp2_with fail
          go_still_tail 11, (by kernel_rfl)
          change wpList _ _ _ _ _ wr.drew
          go_wp2_with fail
          refine (C.out _).mono ?_
          rintro e w2 ⟨a2, c2, rfl, hown2, hb2⟩
          rw [HONE.out] at hown2 ⊢
          obtain ⟨g2, rfl, hg2, hg3, q1, q2⟩ := hown2.pair 0 (by simp)
          simp only [List.getElem_cons_zero] at q1 q2
          have hb2' : Below wr.heap.size wr w2 := (Below.drew (Below.refl _ _)).trans hb2
          have p1' : w2.cell? ⟨g1, k * 2, none⟩ = some (.int .i64 (y : Int)) := (hb2'.cell (by exact hg1)).trans p1
          have p2' : w2.cell? ⟨g1, k * 2 + 1, none⟩ = some (.int .i64 (t : Int)) := (hb2'.cell (by exact hg1)).trans p2
          have HB2 := Lib.hid (HBL.out.trans (hb2'.mono HBL.out.size))
          have b1 : (0 : Int) ≤ (k : Int) := by omega
          have b2 : (k : Int) < (L.length : Int) := by omega
          have he := eq_pairs
          clear hown2 hb2 hb2' C p1 p2
          go_wp2_with fail
          go_quiet (fail)
          go_wp2_with fail
          exact ⟨⟨k + 1, y + t, m - t, by go_num, by omega, HD.out, by omega, by omega, below_drewN HB2.out _⟩, by simp [intOf]; omega⟩
        · clear hdrop
          have C1 := Lib.hid (fun W => split_good x n 1 W (by omega) (by omega) (by omega) (by omega))
          have HL1 := Lib.hid (splitL_ones n x)
          have hmx : max n 0 = n := by omega
          go_wp2_with fail
          refine (C1.out _).mono ?_
          rintro e w2 ⟨a2, c2, rfl, hown2, hb2⟩
          rw [HL1.out]
          have HB2 := Lib.hid (HBL.out.trans (hb2.mono HBL.out.size))
          clear hown2 hb2
          go_wp2_with fail
          refine (alive_any _).mono ?_
          rintro e w3 ⟨rfl, hb⟩
          have HB := Lib.hid (HB1.out.trans ((HB2.out.trans (hb.mono HB2.out.size)).mono HB1.out.size))
          clear hb
          go_wp2_with fail
          go_ret
          exact ⟨by simp, HB.out⟩
    · have C1 := Lib.hid (split_bad x n s w hx hn hs hv)
      by_cases hmay : validB x n 1
      · unfold validB at hmay hv
        obtain ⟨v1, v2, v3, v4, v5⟩ := hmay
        obtain ⟨x, rfl⟩ := Int.eq_ofNat_of_zero_le v3
        obtain ⟨n, rfl⟩ := Int.eq_ofNat_of_zero_le v4
        have C2 := Lib.hid (split_good x n 1 w (by omega) (by omega) (by omega) (by omega))
        have HL1 := Lib.hid (splitL_ones n x)
        have hs1 : s < 1 := by omega
        have hxi : (x : Int) ≤ 2147483647 - (n : Int) := by omega
        clear hv
        go_enter Try.func10, Try.ntmps10
        go_wp2_with fail
        refine C1.out.mono ?_
        rintro e w1 ⟨rfl, rfl⟩
        clear C1
        go_wp2_with fail
        refine wp_loop_once ?_
        go_wp2_with fail
        refine C2.out.mono ?_
        rintro e w2 ⟨a2, c2, rfl, hown2, hb2⟩
        rw [HL1.out]
        clear hown2 C2
        have HB2 := Lib.hid hb2
        clear hb2
        go_wp2_with fail
        refine (alive_any _).mono ?_
        rintro e w3 ⟨rfl, hb⟩
        have HB := Lib.hid (HB2.out.trans (hb.mono HB2.out.size))
        clear hb
        go_wp2_with fail
        go_ret
        exact ⟨by simp, HB.out⟩
      · have C2 := Lib.hid (split_bad x n 1 w hx hn (by omega) hmay)
        unfold validB at hmay
        clear hv
        by_cases h1 : x < 0
        · go_enter Try.func10, Try.ntmps10
          go_wp2_with fail
          refine C1.out.mono ?_
          rintro e w1 ⟨rfl, rfl⟩
          clear C1
          go_wp2_with fail
          refine wp_loop_once ?_
          go_wp2_with fail
          refine C2.out.mono ?_
          rintro e w1 ⟨rfl, rfl⟩
          clear C2
          go_wp2_with fail
          refine (alive_any _).mono ?_
          rintro e w3 ⟨rfl, hb⟩
          go_wp2_with fail
          go_ret
          exact ⟨by simp, hb⟩
        · by_cases h2 : n < 0
          · go_enter Try.func10, Try.ntmps10
            go_wp2_with fail
            refine C1.out.mono ?_
            rintro e w1 ⟨rfl, rfl⟩
            clear C1
            go_wp2_with fail
            refine wp_loop_once ?_
            go_wp2_with fail
            refine C2.out.mono ?_
            rintro e w1 ⟨rfl, rfl⟩
            clear C2
            go_wp2_with fail
            refine (alive_any _).mono ?_
            rintro e w3 ⟨rfl, hb⟩
            go_wp2_with fail
            go_ret
            exact ⟨by simp, hb⟩
          · have h5 : 2147483647 - n < x := by omega
            clear hmay
            go_enter Try.func10, Try.ntmps10
            go_wp2_with fail
            refine C1.out.mono ?_
            rintro e w1 ⟨rfl, rfl⟩
            clear C1
            go_wp2_with fail
            refine wp_loop_once ?_
            go_wp2_with fail
            refine C2.out.mono ?_
            rintro e w1 ⟨rfl, rfl⟩
            clear C2
            go_wp2_with fail
            refine (alive_any _).mono ?_
            rintro e w3 ⟨rfl, hb⟩
            go_wp2_with fail
            go_ret
            exact ⟨by simp, hb⟩
end Go.Proofs.Ytnhfpjjmhanehaa
