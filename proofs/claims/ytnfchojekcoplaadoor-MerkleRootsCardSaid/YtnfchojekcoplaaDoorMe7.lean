/- the document's check -/
import Derived.Test.YtnfchojekcoplaaDoorMe6
namespace Go.Proofs.YtnfchojekcoplaaDoor
set_option linter.unusedVariables false
set_option linter.unusedSimpArgs false
open Go Go.RowKit

def RkR (w : World) (res : Bool) (root : List UInt8) (ls : List (List UInt8)) (gh : Nat) (vi vk : Value) (wr : World) : Prop :=
  ∃ (i k : Nat) (h : List UInt8), vi = .int .i64 (i : Int) ∧ i ≤ 4096 ∧ vk = .int .i64 (k : Int) ∧ k ≤ ls.length ∧ h.length = 32 ∧ Blk wr gh 24 (bs h) ∧ res = checkG root i h (ls.drop k) ∧ Below w.heap.size w wr

set_option maxHeartbeats 2000000 in
theorem rcheck_any (n i : Int) (data : List UInt8) (ad : Option Addr) (nd cd : Nat) (ls : List (List UInt8)) (ap : Option Addr) (np cp : Nat) (root : List UInt8) (ar : Option Addr) (nr cr : Nat) (w : World)
    (hi : (Lit.int .i64 i).wf = true) (hn : (Lit.int .i64 n).wf = true)
    (hld : data.length = nd) (hcd : nd ≤ cd) (hcd2 : cd ≤ 9223372036854775807) (hrd : Rd w w.heap.size ad (bs data)) (hlp : ls.length = np) (hnp : np ≤ 9223372036854775807) (hp : PathAt w ap ls)
    (hlr : root.length = nr) (hcr : nr ≤ 9223372036854775807) (hrr : Rd w w.heap.size ar (bs root)) :
    Calls Tryd.prog 14 #[.int .i64 n, .int .i64 i, .slice ad nd cd, .slice ap np cp, .slice ar nr cr] w fun e w' => e = .returned (.bool (checkR n i data ls root)) ∧ Below w.heap.size w w' := by
  have HRD := Lib.hid hrd
  have HP := Lib.hid hp
  have HRR := Lib.hid hrr
  clear hrd hp hrr
  obtain ⟨res, hres⟩ : ∃ res, checkR n i data ls root = res := ⟨_, rfl⟩
  rw [hres]
  have HRS := Lib.hid hres
  clear hres
  go_enter Tryd.func14, Tryd.ntmps14
  go_wp2_with fail
  refine (rlevels_any n w).mono ?_
  rintro e w1 ⟨v1, rfl, ho1, hb1⟩
  obtain ⟨a1, cc1, rfl, _⟩ := OwnG.shape ho1
  obtain ⟨L, hL⟩ : ∃ L, (lvs n).length = L := ⟨_, rfl⟩
  rw [hL]
  have hL12 : L ≤ 12 := by rw [← hL]; exact lvs_length n
  clear ho1
  by_cases c1 : i < 0
  · have e : res = false := by rw [← HRS.out]; unfold checkR; rw [if_neg (by omega)]
    subst e
    clear HRS
    go_wp2_with fail
    go_ret
    exact ⟨rfl, hb1⟩
  by_cases c2 : n ≤ i
  · have e : res = false := by rw [← HRS.out]; unfold checkR; rw [if_neg (by omega)]
    subst e
    clear HRS
    go_wp2_with fail
    go_ret
    exact ⟨rfl, hb1⟩
  by_cases c5 : L = 0
  · have e : res = false := by rw [← HRS.out]; unfold checkR; rw [if_neg (by omega)]
    subst e
    clear HRS
    have c5' : (L : Int) = 0 := by omega
    go_wp2_with fail
    all_goals first
      | (go_ret; exact ⟨rfl, hb1⟩)
      | skip
  have c5' : ¬ ((L : Int) = 0) := by omega
  have d1 : ((L : Int) == 0) = false := by simpa using c5'
  by_cases c4 : np = L
  · subst c4
    by_cases c3 : nd = 64
    · subst c3
      obtain ⟨j, rfl⟩ : ∃ j : Nat, i = (j : Int) := ⟨i.toNat, by omega⟩
      have hj : j ≤ 4096 := by
        have : lvs n ≠ [] := fun h => by rw [h] at hL; exact c5 hL.symm
        unfold lvs at this
        split at this
        · omega
        · exact absurd rfl this
      have hres' : res = checkG root j (hashL 0 data) ls := by
        rw [← HRS.out]
        unfold checkR
        rw [if_pos ⟨by omega, by omega, hld, by omega, by omega⟩]
        rfl
      rcases HP.out with hp0 | ⟨bp, op, rfl, hbp, hpc⟩
      · rw [hp0] at hlp; exact absurd hlp.symm c5
      have HPC := Lib.hid hpc
      have HH0 := Lib.hid (rhash_any 0 data ad cd w1 hld ((HRD.out.below hb1).more hb1.size))
      have HRES := Lib.hid hres'
      clear hres' hpc hL HRS
      go_wp2_with fail
      refine HH0.out.mono ?_
      rintro e w2 ⟨rfl, hb2⟩
      obtain ⟨X, Z, hX, hinf, hone, hzz, hzs, w3, hw3, hB3, hb3, hs3⟩ := keep_digest w2 (hashL 0 data) (hashL_length _ _)
      rw [hX]
      have hb02 : Below w.heap.size w w2 := hb1.trans (hb2.mono hb1.size)
      have hb03 : Below w.heap.size w w3 := hb02.trans (hb3.mono hb02.size)
      have hg3 : w.heap.size ≤ w2.heap.size := hb02.size
      have hst : RkR w res root ls w2.heap.size (.int .i64 (j : Int)) (.int .i64 0) w3 := ⟨j, 0, hashL 0 data, rfl, hj, rfl, Nat.zero_le _, hashL_length _ _, hB3, HRES.out, hb03⟩
      have HST := Lib.hid hst
      clear hst hX hB3 hb3 hs3 hb2 HH0 hb02 hb03
      go_wp2_with (refine wpList_store_row rfl 24 _ _ rfl w2.heap.size X rfl rfl 24 Z hzz hinf hzs hone (hgoalL hw3 ?_))
      clear hw3 hzz hinf hzs hone
      generalize w2.heap.size = gh at *
      go_loopw [1, 13] (fun vi vk wr => RkR w res root ls gh vi vk wr) (fun _ vk _ => np - (intOf vk).toNat)
      case atStart => exact HST.out
      case round =>
        clear HST
        obtain ⟨q, k, h, rfl, hq, rfl, hkl, hhl, hBh, hr, hb⟩ := hrel
        by_cases hgo : k < np
        · have hgoI : (k : Int) < (np : Int) := by omega
          have hxe : ls[k]? = some ls[k] := List.getElem?_eq_getElem (by omega)
          obtain ⟨x, hx⟩ : ∃ x, ls[k] = x := ⟨_, rfl⟩
          rw [hx] at hxe
          obtain ⟨ax, cx, h1, h2, h3, h4⟩ := HPC.out k x hxe
          have h1' := (hb.cell (p := ⟨bp, op + k, none⟩) hbp).trans h1
          have hdrop : ls.drop k = x :: ls.drop (k + 1) := by rw [← hx]; exact (List.drop_eq_getElem_cons (by omega))
          rw [hdrop, checkG] at hr
          obtain ⟨nx, hnx⟩ : ∃ nx, x.length = nx := ⟨_, rfl⟩
          rw [hnx] at h1' h2 hr
          have h4' := (h4.below hb).more hb.size
          clear h1 hxe hdrop
          by_cases c6 : nx = 64
          · subst c6
            obtain ⟨bx, ox, rfl, hbx, _⟩ := h4.byte 0 (by omega)
            obtain ⟨r, hr1⟩ : ∃ r, q % 2 = r := ⟨_, rfl⟩
            have hqr : (q : Int) % 2 = (r : Int) := by omega
            have hr2 : r ≤ 1 := by omega
            obtain ⟨q', hq'⟩ : ∃ q', q / 2 = q' := ⟨_, rfl⟩
            have hqq : (q : Int) / 2 = (q' : Int) := by omega
            rw [hr1] at hr
            have hrs : Rd wr wr.heap.size (some ⟨bx, ox + 32 * r, none⟩) (bs ((x.drop (32 * r)).take 32)) := by
              have := (h4'.drop (32 * r)).take 32
              rw [← bs_drop, ← bs_take] at this
              have e : (some ⟨bx, ox, none⟩ : Option Addr).map (·.add (32 * r)) = some ⟨bx, ox + 32 * r, none⟩ := by simp [Addr.add_lit]
              rw [e] at this
              exact this
            have hsl : ((x.drop (32 * r)).take 32).length = 32 := by simp; omega
            have hrh : Rd wr wr.heap.size (some ⟨gh, 0, none⟩) (bs h) := .inr ⟨gh, 0, rfl, lt_of_heap hBh, fun q u hu => by rw [Nat.zero_add]; exact hBh.cell q u hu⟩
            have k1 := conv_rd hrh.drew 32 32 hhl
            have k2 := conv_rd hrs.drew 32 (cx - 32 * r) hsl
            have l32 : 32 * r + 32 - 32 * r = 32 := by omega
            have w1' : IntKind.i64.wrap (32 * (r : Int)) = 32 * (r : Int) := by rw [IntKind.wrap_i64]; omega
            have w2' : IntKind.i64.wrap (32 * (r : Int) + 32) = 32 * (r : Int) + 32 := by rw [IntKind.wrap_i64]; omega
            have z1 : 0 ≤ 32 * (r : Int) := by omega
            have z2 : 32 * (r : Int) ≤ 32 * (r : Int) + 32 := by omega
            have z3 : 0 ≤ 32 * (r : Int) + 32 := by omega
            have z4 : 32 * (r : Int) + 32 ≤ (cx : Int) := by omega
            have z5 : ¬ (cx = 32 * r) := by omega
            have t1 : (32 * (r : Int)).toNat = 32 * r := by omega
            have t2 : (32 * (r : Int) + 32).toNat = 32 * r + 32 := by omega
            have HHX := Lib.hid (rhash_any 1 x (some ⟨bx, ox, none⟩) cx wr.drew hnx h4'.drew)
            have HR := Lib.hid hr
            have HBh := Lib.hid hBh
            clear hr hrs hsl h4 h4' hx hrh hBh
            by_cases heq : (x.drop (32 * r)).take 32 = h
            · have hr' := HR.out
              rw [if_pos ⟨rfl, heq⟩] at hr'
              have HR' := Lib.hid hr'
              rw [heq] at k2
              clear hr' HR heq
              go_upto_region 11 with (fail)
              go_still_tail 11, (by kernel_rfl)
              change wpList _ _ _ _ _ wr.drew
              go_wp2_with fail
              refine HHX.out.mono ?_
              rintro e w5 ⟨rfl, hb5⟩
              have hb5' : Below wr.heap.size wr w5 := ((Below.refl _ wr).drew).trans hb5
              obtain ⟨X6, Z6, hX6, hinf6, hone6, hzz6, hzs6, hg6, hbb6⟩ := store_digest (hashL_length 1 x) hhl (HBh.out.below hb5') hg3 (hb.trans (hb5'.mono hb.size))
              rw [hX6]
              obtain ⟨ws, hws⟩ : ∃ ws, w5.setRow gh X6 = ws := ⟨_, rfl⟩
              rw [hws] at hg6 hbb6
              have hfin : RkR w res root ls gh (.int .i64 (q' : Int)) (.int .i64 ((k : Int) + 1)) ws :=
                ⟨q', k + 1, hashL 1 x, rfl, by omega, by push_cast; rfl, by omega, hashL_length _ _, by rw [← hX6] at hg6; exact hg6, by rw [← hq']; exact HR'.out, hbb6⟩
              have HFIN := Lib.hid hfin
              clear hfin hX6 hg6 hbb6 hb5 hb5' HHX HBh
              go_wp2_with (refine wpList_store_row rfl 24 _ _ rfl gh X6 rfl rfl 24 Z6 hzz6 hinf6 hzs6 hone6 (hgoalL hws ?_))
              all_goals go_roundw
              all_goals first
                | (case measure => simp [intOf]; omega)
                | exact HFIN.out
                | ((repeat apply Exists.intro); exact ⟨HFIN.out, rfl⟩)
            · have hr' := HR.out
              rw [if_neg (fun h => heq h.2)] at hr'
              have hbe : ((x.drop (32 * r)).take 32 == h) = false := beq_eq_false_iff_ne.2 heq
              have HRV := Lib.hid hr'
              clear hr' HR HHX heq
              go_upto_region 11 with (fail)
              go_still_tail 11, (by kernel_rfl)
              change wpList _ _ _ _ _ wr.drew
              go_wp2_with fail
              go_ret
              exact ⟨by rw [HRV.out]; rfl, hb.drew⟩
          · have c6' : ¬ ((nx : Int) = 64) := by omega
            have hr' : res = false := by rw [hr, if_neg (fun h => c6 h.1)]
            have HRV := Lib.hid hr'
            clear hr hr'
            go_wp2_with fail
            go_ret
            exact ⟨by rw [HRV.out]; rfl, hb⟩
        · have : k = np := by omega
          subst this
          have hr' : res = (h == root) := by rw [hr, List.drop_of_length_le (by omega)]; rfl
          have hrh : Rd wr wr.heap.size (some ⟨gh, 0, none⟩) (bs h) := .inr ⟨gh, 0, rfl, lt_of_heap hBh, fun q u hu => by rw [Nat.zero_add]; exact hBh.cell q u hu⟩
          have k1 := conv_rd hrh.drew 32 32 hhl
          have k2 := conv_rd ((HRR.out.below hb).drew) nr cr hlr
          have HRV := Lib.hid hr'
          clear hr hr' hrh hBh
          go_upto_region 15 with (fail)
          go_still_tail 5, (by kernel_rfl)
          change wpList _ _ _ _ _ wr.drew
          go_wp2_with fail
          go_ret
          exact ⟨by rw [HRV.out]; rfl, hb.drew⟩
    · have e : res = false := by rw [← HRS.out]; unfold checkR; rw [if_neg (by omega)]
      subst e
      clear HRS
      have c3' : ¬ ((nd : Int) = 64) := by omega
      have d3 : ((nd : Int) != 64) = true := by simpa using c3'
      go_wp2_with fail
      go_ret
      exact ⟨rfl, hb1⟩
  · have e : res = false := by rw [← HRS.out]; unfold checkR; rw [if_neg (by omega)]
    subst e
    clear HRS
    have c4' : ¬ ((np : Int) = (L : Int)) := by omega
    go_wp2_with fail
    go_ret
    exact ⟨rfl, hb1⟩
end Go.Proofs.YtnfchojekcoplaaDoor
