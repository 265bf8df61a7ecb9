/- the law's own functions: picked, path -/

import Derived.Test.YtnfchojekcoplaaDoorMeT
namespace Go.Proofs.YtnfchojekcoplaaDoor
set_option linter.unusedVariables false
set_option linter.unusedSimpArgs false
open Go Go.RowKit

theorem info_slb : (Tryd.prog.info? 22).map (fun i => (i.zero, i.size, i.bytes)) = some (some (.slice none 0 0), 1, 24) := by kernel_rfl

theorem half_lt (n i : Nat) (hi : i < n) : ∀ k, i / 2 ^ k < cnt n k
  | 0 => by simpa [cnt] using hi
  | k + 1 => by
    have := half_lt n i hi k
    have h2 := cnt_succ k n
    rw [Nat.pow_succ, ← Nat.div_div_eq_div_mul]
    omega
theorem upS_at (d : List UInt8) (n : Nat) : ∀ (m j q k : Nat), k < m → (upS d n j q m)[k]? = some (secL (lev d n (j + k + 1)) (q / 2 ^ (k + 1)))
  | 0, j, q, k, h => by omega
  | m + 1, j, q, 0, h => by simp [upS]
  | m + 1, j, q, k + 1, h => by
    rw [upS, List.getElem?_cons_succ, upS_at d n m (j + 1) (q / 2) k (by omega)]
    rw [Nat.div_div_eq_div_mul, show j + 1 + k + 1 = j + (k + 1) + 1 by omega, show 2 * 2 ^ (k + 1) = 2 ^ (k + 1 + 1) by rw [Nat.pow_succ 2 (k + 1), Nat.mul_comm]]
theorem tree_at (d : List UInt8) (n : Nat) (hd : d.length = 64 * n) : ∀ (m k q : Nat), k < m → q < cnt n (k + 1) → ((treeB d n m).drop (64 * (sumC n k + q))).take 64 = secL (lev d n (k + 1)) q
  | 0, k, q, h, _ => by omega
  | m + 1, k, q, h, hq => by
    have hl := treeB_length d n hd
    have hll := lev_length d n hd
    by_cases e : k = m
    · subst e
      rw [treeB, show 64 * (sumC n k + q) = (treeB d n k).length + 64 * q by rw [hl]; omega, List.drop_append]
      rw [List.drop_of_length_le (by omega), List.nil_append, Nat.add_sub_cancel_left]
      rfl
    · have ih := tree_at d n hd m k q (by omega) hq
      have hle : sumC n (k + 1) ≤ sumC n m := by
        have : ∀ a b, a ≤ b → sumC n a ≤ sumC n b := by
          intro a b hab
          induction hab with
          | refl => exact Nat.le_refl _
          | step _ ih => exact Nat.le_trans ih (by rw [sumC_succ]; omega)
        exact this _ _ (by omega)
      have hs := sumC_succ k n
      rw [treeB, List.drop_append_of_le_length (by rw [hl]; omega), List.take_append_of_le_length (by rw [List.length_drop, hl]; omega)]
      exact ih
theorem sumC_mono (n : Nat) : ∀ a b, a ≤ b → sumC n a ≤ sumC n b := by
  intro a b hab
  induction hab with
  | refl => exact Nat.le_refl _
  | step _ ih => exact Nat.le_trans ih (by rw [sumC_succ]; omega)
def pAt (n i k : Nat) : Nat := sumC n k + i / 2 ^ (k + 1)
theorem path_get (n i k : Nat) (hi : i < n) (hk : k < nlev n) : (pathI (n : Int) (i : Int))[k]? = some (pAt n i k) := by
  unfold pathI
  rw [if_pos (by omega)]
  have hk' : k < (lvs (n : Int)).length := hk
  obtain ⟨x, hx⟩ : ∃ x, (lvs (n : Int))[k] = x := ⟨_, rfl⟩
  have hsp : lvs (n : Int) = (lvs (n : Int)).take k ++ x :: (lvs (n : Int)).drop (k + 1) := by
    rw [← hx, ← List.drop_eq_getElem_cons hk', List.take_append_drop]
  obtain ⟨e1, _⟩ := lvs_at n _ x _ hsp
  rw [List.length_take, Nat.min_eq_left (by omega)] at e1
  unfold pathL
  rw [List.getElem?_mapIdx, List.getElem?_eq_getElem hk', hx, Option.map_some, e1]
  rfl
theorem path_len (n i : Nat) (hi : i < n) : (pathI (n : Int) (i : Int)).length = nlev n := by
  unfold pathI
  rw [if_pos (by omega), pathL_length]
  rfl
theorem pAt_le (n i k m : Nat) (hi : i < n) (hk : k < m) : pAt n i k + 1 ≤ sumC n m := by
  have h1 := half_lt n i hi (k + 1)
  have h2 := sumC_mono n (k + 1) m (by omega)
  have h3 := sumC_succ k n
  unfold pAt
  omega
def slV (n i gt ot ct : Nat) (k : Nat) : List Value := (List.range k).map fun j => Value.slice (some ⟨gt, ot + 64 * pAt n i j, none⟩) 64 (ct - 64 * pAt n i j)
theorem slV_succ (n i gt ot ct k : Nat) : slV n i gt ot ct (k + 1) = slV n i gt ot ct k ++ [.slice (some ⟨gt, ot + 64 * pAt n i k, none⟩) 64 (ct - 64 * pAt n i k)] := by
  simp [slV, List.range_succ]
def LpR (w : World) (n i gt ot ct : Nat) (v7 v9 : Value) (wr : World) : Prop :=
  ∃ k : Nat, v9 = .int .i64 (k : Int) ∧ k ≤ nlev n ∧ OwnG wr w.heap.size 22 1 v7 k (slV n i gt ot ct k) ∧ Below w.heap.size w wr

theorem picked_any (data : List UInt8) (ad : Option Addr) (nd cd : Nat) (w : World) (hl : data.length = nd) (hn : nd ≤ 140737488355328) (hr : Rd w w.heap.size ad (bs data)) :
    Calls Tryd.prog 15 #[.slice ad nd cd] w fun e w' => ∃ n : Nat, 1 ≤ n ∧ n ≤ 40 ∧ ∃ d : List UInt8, d.length = 64 * n ∧ e = .returned (.slice (some ⟨w.heap.size, 0, none⟩) (64 * n) (64 * n)) ∧
      OwnB w' w.heap.size (.slice (some ⟨w.heap.size, 0, none⟩) (64 * n) (64 * n)) d ∧ Below w.heap.size w w' := by
  have HR := Lib.hid hr
  clear hr
  obtain ⟨q, hq⟩ : ∃ q, nd / 64 = q := ⟨_, rfl⟩
  have hqi : (nd : Int) / 64 = (q : Int) := by omega
  obtain ⟨n, hnn⟩ : ∃ n, n = min (max q 1) 40 := ⟨_, rfl⟩
  have hn1 : 1 ≤ n := by omega
  have hn2 : n ≤ 40 := by omega
  have hmm : min (max (q : Int) 1) 40 = (n : Int) := by omega
  clear hnn
  go_enter Tryd.func15, Tryd.ntmps15
  go_upto_region 3 with (refine wpList_makeB _ rfl _ _ rfl .i64 .i64 _ _ (64 * n) rfl rfl (by push_cast; omega) (by push_cast; omega) (by omega) ?_; intro w3 ho3 hg3; have HO3 := Lib.hid ho3; have HG3 := Lib.hid hg3; clear ho3 hg3)
  obtain ⟨ms, hms⟩ : ∃ ms, data.take (64 * n) = ms := ⟨_, rfl⟩
  have hml : ms.length = Nat.min nd (64 * n) := by
    rw [← hms, List.length_take, hl]
    exact Nat.min_comm _ _
  have hml2 : ms.length ≤ 64 * n := by rw [hml]; exact Nat.min_le_right _ _
  have hb03 : Below w.heap.size w w3 := below_grown HG3.out (Nat.le_refl _) (fun _ h => by cases h)
  have HRD : Hid (Rd w3 w3.heap.size ad (bs ms)) := Lib.hid (by
    rw [← hms, bs_take]
    exact (((HR.out.below hb03).more hb03.size).take (64 * n)))
  have HO3' : Hid (OwnB w3 w.heap.size (.slice (some ⟨w.heap.size, 0, none⟩) (zeros (64 * n)).length (64 * n)) (zeros (64 * n))) := Lib.hid (by rw [zeros_length]; exact HO3.out)
  have HML := Lib.hid (And.intro hml hml2)
  have HB03 := Lib.hid hb03
  clear hms hml hml2 hb03
  go_wp2_with (refine wpList_copyB rfl _ _ 22 22 rfl Tryd.underlying22 (some ⟨w.heap.size, 0, none⟩) ad (64 * n) (64 * n) nd cd rfl rfl w.heap.size w.heap.size 0 (64 * n) (zeros (64 * n)) HO3'.out 0 ms HML.out.1 (by rw [zeros_length]; have := HML.out.2; omega) (fun _ => rfl) HRD.out ?_; intro w4 ho4 hg4; have HO4 := Lib.hid ho4; have HG4 := Lib.hid hg4; clear ho4 hg4)
  all_goals
    go_ret
    have hdl : (overlay (zeros (64 * n)) 0 ms).length = 64 * n := by rw [overlay_length _ _ _ (by rw [zeros_length]; have := HML.out.2; omega), zeros_length]
    have ho4 := HO4.out
    rw [zeros_length] at ho4
    exact ⟨n, hn1, hn2, _, hdl, rfl, ho4, HB03.out.trans (below_grown HG4.out HB03.out.size (fun q h => by cases h; exact Nat.le_refl _))⟩

set_option maxHeartbeats 1000000 in
theorem lpath_any (d : List UInt8) (n i : Nat) (at_ : Option Addr) (nt ct : Nat) (w : World) (hd : d.length = 64 * n) (h1 : 1 ≤ n) (h2 : n ≤ 2048) (hi : i < n) (hnt : (treeL d).length = nt) (hct : nt ≤ ct) (hct2 : ct ≤ 9223372036854775807) (hr : Rd w w.heap.size at_ (bs (treeL d))) :
    Calls Tryd.prog 17 #[.slice at_ nt ct, .int .i64 (n : Int), .int .i64 (i : Int)] w fun e w' => ∃ ap cp, e = .returned (.slice (some ap) (nlev n) cp) ∧ nlev n ≤ cp ∧ cp ≤ 9223372036854775807 ∧ PathAt w' (some ap) (upS d n 0 i (nlev n)) ∧ Below w.heap.size w w' := by
  have hn64 : d.length / 64 = n := by omega
  have hT : treeL d = treeB d n (nlev n) := by unfold treeL; rw [hn64]
  obtain ⟨hc1, hlv⟩ := nlev_one n h1 h2
  have hlen : nt = 64 * sumC n (nlev n) := by rw [← hnt, hT, treeB_length d n hd]
  have hp0 := pAt_le n i 0 (nlev n) hi (by omega)
  obtain ⟨gt, ot, rfl, hgt, hc0⟩ := hr.byte 0 (by rw [hnt]; omega)
  clear hc0
  have h12 : nlev n ≤ 12 := lvs_length (n : Int)
  have hsum : sumC n (nlev n) ≤ 24576 := Nat.le_trans (sumC_le (nlev n) n h1) (Nat.mul_le_mul h2 h12)
  have HR := Lib.hid hr
  have HT := Lib.hid hT
  clear hr hT hnt
  go_enter Tryd.func17, Tryd.ntmps17
  go_wp2_with fail
  refine (mpath_any (n : Int) (i : Int) w).mono ?_
  rintro e w1 ⟨v8, rfl, ho1, hb1⟩
  rw [path_len n i hi] at ho1
  obtain ⟨g8, o8, c8, rfl, hg8, hg8', hc8, hcells⟩ := OwnG.form ho1 (by omega)
  have KP : Hid (∀ k, k < nlev n → w1.cell? ⟨g8, o8 + k, none⟩ = some (.int .i64 ((pAt n i k : Nat) : Int))) := Lib.hid (fun k hk => by
    refine hcells k _ ?_
    unfold natV
    rw [List.getElem?_map, path_get n i k hi hk]
    rfl)
  have HB1 := Lib.hid hb1
  have hst : LpR w1 n i gt ot ct (.slice none 0 0) (.int .i64 0) w1 := ⟨0, rfl, Nat.zero_le _, OwnG.nil _ _ _ _, Below.refl _ _⟩
  have HST := Lib.hid hst
  generalize hN : nlev n = N at *
  clear hst ho1 hb1 hcells
  go_wp2_with fail
  go_loopw [7, 9] (fun v7 v9 wr => LpR w1 n i gt ot ct v7 v9 wr) (fun _ v9 _ => N - (intOf v9).toNat)
  case atStart => exact HST.out
  case round =>
    clear HST
    obtain ⟨k, rfl, hk, ho, hb⟩ := hrel
    obtain ⟨a7, c7, rfl, hc7⟩ := OwnG.shape ho
    rw [hN] at hk
    by_cases hgo : k < N
    · have hgoI : (k : Int) < (N : Int) := by omega
      have h8 : wr.cell? ⟨g8, o8 + k, none⟩ = some (.int .i64 ((pAt n i k : Nat) : Int)) := (hb.cell (p := ⟨g8, o8 + k, none⟩) hg8').trans (KP.out k hgo)
      obtain ⟨p, hp⟩ : ∃ p, pAt n i k = p := ⟨_, rfl⟩
      have hpl := pAt_le n i k N hi hgo
      rw [hp] at h8 hpl
      have w1' : IntKind.i64.wrap ((p : Int) * 64) = (p : Int) * 64 := by rw [IntKind.wrap_i64]; omega
      have w2' : IntKind.i64.wrap ((p : Int) * 64 + 64) = (p : Int) * 64 + 64 := by rw [IntKind.wrap_i64]; omega
      have z1 : 0 ≤ (p : Int) * 64 := by omega
      have z2 : (p : Int) * 64 ≤ (p : Int) * 64 + 64 := by omega
      have z3 : 0 ≤ (p : Int) * 64 + 64 := by omega
      have z4 : (p : Int) * 64 + 64 ≤ (ct : Int) := by omega
      have z5 : ¬ (ct = p * 64) := by omega
      have z6 : ¬ ((nt : Int) < (p : Int) * 64 + 64) := by omega
      have z7 : ¬ ((p : Int) * 64 < 0) := by omega
      have t1 : ((p : Int) * 64).toNat = p * 64 := by omega
      have t2 : ((p : Int) * 64 + 64).toNat = p * 64 + 64 := by omega
      have l64 : p * 64 + 64 - p * 64 = 64 := by omega
      have HOG := Lib.hid ho
      have HBG := Lib.hid hb
      have hsz := hb.size
      have HP := Lib.hid hp
      have KF : Hid (∀ v' w', OwnG w' w1.heap.size 22 1 v' (k + 1) (slV n i gt ot ct k ++ [.slice (some ⟨gt, ot + p * 64, none⟩) 64 (ct - p * 64)]) → (wr.alloc (.cells #[.slice (some ⟨gt, ot + p * 64, none⟩) 64 (ct - p * 64)] 22)).grownBy w' (Value.slice a7 k c7).ownBlock → LpR w1 n i gt ot ct v' (.int .i64 ((k : Int) + 1)) w') := Lib.hid (fun v' w' h1 h2 => by
        refine ⟨k + 1, by push_cast; rfl, by omega, ?_, (HBG.out.alloc hsz _).trans (below_grown h2 (by rw [World.size_alloc]; omega) (fun q hq => (OwnG.lt HOG.out q hq).1))⟩
        rw [slV_succ, HP.out, Nat.mul_comm 64 p]
        exact h1)
      clear ho hb hp
      go_wp2_with (refine wpList_append_g rfl _ _ 30 rfl w1.heap.size 22 (.slice none 0 0) 1 24 Tryd.underlying30 info_slb rfl (by omega) _ _ _ rfl (OwnG.alloc HOG.out _) (wr.heap.size + 1) (some ⟨wr.heap.size, 0, none⟩) 1 1 [.slice (some ⟨gt, ot + p * 64, none⟩) 64 (ct - p * 64)] rfl rfl (Rd.new _ _ _) (by simp [Value.oneCell']) (by omega) (by omega) (by rw [World.size_alloc]; omega) ?_; intro v' w' ho' hg' _; have HF := Lib.hid (KF.out v' w' ho' hg'); obtain ⟨a', c', rfl, hc'⟩ := OwnG.shape ho'; clear ho' hg' hc')
      all_goals go_roundw
      all_goals first
        | (case measure => simp [intOf]; omega)
        | exact HF.out
        | ((repeat apply Exists.intro); exact ⟨HF.out, rfl⟩)
    · have : k = N := by omega
      subst this
      have HOG := Lib.hid ho
      have HBG := Lib.hid hb
      clear ho hb
      go_wp2_with fail
      obtain ⟨g7, o7, c7', hv7, hg7, hg7', hc7', hcs⟩ := OwnG.form HOG.out (by omega)
      injection hv7 with e1 e2 e3
      subst e1
      subst e3
      have hcap7 : c7 ≤ 9223372036854775807 := by
        rcases HOG.out.2 with ⟨h, _⟩ | ⟨_, _, _, _, _, _, h, _, _, _, _, _, h9, _⟩
        · cases h
        · injection h with _ _ h
          unfold maxLen at h9
          omega
      have hbw : Below w.heap.size w wr := HB1.out.trans (HBG.out.mono HB1.out.size)
      go_ret
      rw [hN]
      refine ⟨_, _, rfl, hc7', hcap7, .inr ⟨g7, o7, rfl, hg7', fun q x hx => ?_⟩, hbw⟩
      have hq : q < k := by
        rcases Nat.lt_or_ge q k with h | h
        · exact h
        · rw [List.getElem?_eq_none (by rw [upS_length]; exact h)] at hx; cases hx
      rw [upS_at d n k 0 i q hq] at hx
      injection hx with hx
      have hh := half_lt n i hi (q + 1)
      have hsec := tree_at d n hd k q (i / 2 ^ (q + 1)) hq hh
      have hxl : x.length = 64 := by
        rw [← hx, Nat.zero_add]
        exact secL_length _ _ _ (lev_length d n hd (q + 1)) hh
      have hple := pAt_le n i q k hi hq
      refine ⟨some ⟨gt, ot + 64 * pAt n i q, none⟩, ct - 64 * pAt n i q, ?_, by omega, by omega, ?_⟩
      · rw [hxl]
        refine hcs q _ ?_
        simp [slV, hq]
      · have := (((HR.out.below hbw).more hbw.size).drop (64 * pAt n i q)).take 64
        rw [← bs_drop, ← bs_take, HT.out] at this
        have e : (some ⟨gt, ot, none⟩ : Option Addr).map (·.add (64 * pAt n i q)) = some ⟨gt, ot + 64 * pAt n i q, none⟩ := by simp [Addr.add_lit]
        rw [e] at this
        rw [← hx, Nat.zero_add, ← hsec]
        exact this
end Go.Proofs.YtnfchojekcoplaaDoor
