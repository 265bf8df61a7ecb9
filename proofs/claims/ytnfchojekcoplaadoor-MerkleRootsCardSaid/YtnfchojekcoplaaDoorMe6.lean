/- merkle.Check -/
import Derived.Test.YtnfchojekcoplaaDoorMe5
namespace Go.Proofs.YtnfchojekcoplaaDoor
set_option linter.unusedVariables false
set_option linter.unusedSimpArgs false
open Go Go.RowKit

theorem bytesEqual_any (l r : List UInt8) (a b : Option Addr) (n m cap cap' : Nat) (w : World) {Bd Bd' : Nat} (hl : l.length = n) (hr : r.length = m) (h : Rd w Bd a (bs l)) (h' : Rd w Bd' b (bs r)) :
    Calls Tryd.prog 23 #[.slice a n cap, .slice b m cap'] w fun e w' => e = .returned (.bool (l == r)) ∧ w' = w := by
  have c1 := conv_rd h n cap hl
  have c2 := conv_rd h' m cap' hr
  go_enter Tryd.func23, Tryd.ntmps23
  go_wp2_with fail
  go_ret
  exact ⟨rfl, rfl⟩
/-- is a sector shown, by what stands above it? -/
def checkG (root : List UInt8) : Nat → List UInt8 → List (List UInt8) → Bool
  | _, h, [] => h == root
  | i, h, p :: ps => if p.length = 64 ∧ (p.drop (32 * (i % 2))).take 32 = h then checkG root (i / 2) (hashL 1 p) ps else false
def checkR (n i : Int) (data : List UInt8) (ls : List (List UInt8)) (root : List UInt8) : Bool :=
  if 0 ≤ i ∧ i < n ∧ data.length = 64 ∧ ls.length = (lvs n).length ∧ ls.length ≠ 0 then checkG root i.toNat (hashL 0 data) ls else false

/-- a slice of slices of bytes -/
def PathAt (w : World) (ap : Option Addr) (ls : List (List UInt8)) : Prop :=
  ls = [] ∨ ∃ bp op, ap = some ⟨bp, op, none⟩ ∧ bp < w.heap.size ∧ ∀ k x, ls[k]? = some x → ∃ a c, w.cell? ⟨bp, op + k, none⟩ = some (.slice a x.length c) ∧ x.length ≤ c ∧ c ≤ 9223372036854775807 ∧ Rd w w.heap.size a (bs x)
theorem PathAt.below {w w' : World} {ap : Option Addr} {ls : List (List UInt8)} (h : PathAt w ap ls) (hb : Below w.heap.size w w') : PathAt w' ap ls := by
  rcases h with h | ⟨bp, op, h1, h2, h3⟩
  · exact .inl h
  · refine .inr ⟨bp, op, h1, Nat.lt_of_lt_of_le h2 hb.size, fun k x hx => ?_⟩
    obtain ⟨a, c, h4, h5, h6, h7⟩ := h3 k x hx
    exact ⟨a, c, (hb.cell (p := ⟨bp, op + k, none⟩) h2).trans h4, h5, h6, (h7.below hb).more hb.size⟩

def CkR (w : World) (res : Bool) (root : List UInt8) (ls : List (List UInt8)) (vi vh vk : Value) (wr : World) : Prop :=
  ∃ (i k gh : Nat) (h : List UInt8), vi = .int .i64 (i : Int) ∧ i ≤ 4096 ∧ vk = .int .i64 (k : Int) ∧ k ≤ ls.length ∧ vh = .slice (some ⟨gh, 0, none⟩) 32 32 ∧ h.length = 32 ∧ Rd wr wr.heap.size (some ⟨gh, 0, none⟩) (bs h) ∧ res = checkG root i h (ls.drop k) ∧ Below w.heap.size w wr

set_option maxHeartbeats 2000000 in
theorem check_any (n i : Int) (data : List UInt8) (ad : Option Addr) (nd cd : Nat) (ls : List (List UInt8)) (ap : Option Addr) (np cp : Nat) (root : List UInt8) (ar : Option Addr) (nr cr : Nat) (w : World)
    (hi : (Lit.int .i64 i).wf = true) (hn : (Lit.int .i64 n).wf = true)
    (hld : data.length = nd) (hcd : nd ≤ cd) (hcd2 : cd ≤ 9223372036854775807) (hrd : Rd w w.heap.size ad (bs data)) (hlp : ls.length = np) (hnp : np ≤ 9223372036854775807) (hp : PathAt w ap ls)
    (hlr : root.length = nr) (hcr : nr ≤ 9223372036854775807) (hrr : Rd w w.heap.size ar (bs root)) (hk : KOK w) :
    Calls Tryd.prog 13 #[.int .i64 n, .int .i64 i, .slice ad nd cd, .slice ap np cp, .slice ar nr cr] w fun e w' => e = .returned (.bool (checkR n i data ls root)) ∧ Below w.heap.size w w' := by
  have HRD := Lib.hid hrd
  have HP := Lib.hid hp
  have HRR := Lib.hid hrr
  have HK := Lib.hid hk
  clear hrd hp hrr hk
  obtain ⟨res, hres⟩ : ∃ res, checkR n i data ls root = res := ⟨_, rfl⟩
  rw [hres]
  have HRS := Lib.hid hres
  clear hres
  go_enter Tryd.func13, Tryd.ntmps13
  by_cases c1 : i < 0
  · have e : res = false := by rw [← HRS.out]; unfold checkR; rw [if_neg (by omega)]
    subst e
    clear HRS
    go_wp2_with fail
    go_ret
    exact ⟨rfl, Below.refl _ _⟩
  by_cases c2 : n ≤ i
  · have e : res = false := by rw [← HRS.out]; unfold checkR; rw [if_neg (by omega)]
    subst e
    clear HRS
    go_wp2_with fail
    go_ret
    exact ⟨rfl, Below.refl _ _⟩
  by_cases c3 : nd = 64
  · subst c3
    go_wp2_with fail
    refine (mlevels_any n w).mono ?_
    rintro e w1 ⟨v1, rfl, ho1, hb1⟩
    obtain ⟨a1, cc1, rfl, _⟩ := OwnG.shape ho1
    obtain ⟨L, hL⟩ : ∃ L, (lvs n).length = L := ⟨_, rfl⟩
    rw [hL]
    have hL12 : L ≤ 12 := by rw [← hL]; exact lvs_length n
    clear ho1
    by_cases c4 : np = L
    · subst c4
      by_cases c5 : np = 0
      · have e : res = false := by rw [← HRS.out]; unfold checkR; rw [if_neg (by omega)]
        subst e
        clear HRS
        have c5' : (np : Int) = 0 := by omega
        go_wp2_with fail
        all_goals first
          | (go_ret; exact ⟨rfl, hb1⟩)
          | skip
      · have c5' : ¬ ((np : Int) = 0) := by omega
        obtain ⟨j, rfl⟩ : ∃ j : Nat, i = (j : Int) := ⟨i.toNat, by omega⟩
        have hj : j ≤ 4096 := by
          have : lvs n ≠ [] := fun h => by rw [h] at hL; exact c5 hL.symm
          unfold lvs at this
          split at this
          · omega
          · exact absurd rfl this
        have hres' : res = checkG root j (hashL 0 data) ls := by
          rw [← HRS.out]
          unfold checkR
          rw [if_pos ⟨by omega, by omega, hld, by omega, by omega⟩]
          rfl
        rcases HP.out with hp0 | ⟨bp, op, rfl, hbp, hpc⟩
        · rw [hp0] at hlp; exact absurd hlp.symm c5
        have HPC := Lib.hid hpc
        have hk1 := HK.out.below hb1
        have HH0 := Lib.hid (hash_any 0 data ad 64 cd w1 hld hcd hcd2 ((HRD.out.below hb1).more hb1.size) hk1)
        have HRES := Lib.hid hres'
        clear hres' hpc hk1 hL HRS
        go_wp2_with fail
        refine HH0.out.mono ?_
        rintro e w2 ⟨g2, rfl, hg2, hB2, hb2⟩
        have hst : CkR w res root ls (.int .i64 (j : Int)) (.slice (some ⟨g2, 0, none⟩) 32 32) (.int .i64 0) w2 :=
          ⟨j, 0, g2, hashL 0 data, rfl, hj, rfl, Nat.zero_le _, rfl, hashL_length _ _, .inr ⟨g2, 0, rfl, lt_of_heap hB2, fun q u hu => by rw [Nat.zero_add]; exact hB2.cell q u hu⟩, HRES.out, hb1.trans (hb2.mono hb1.size)⟩
        have HST := Lib.hid hst
        clear hst hg2 hB2 hb2 HH0
        go_wp2_with fail
        go_loopw [1, 11, 43] (fun vi vh vk wr => CkR w res root ls vi vh vk wr) (fun _ _ vk _ => np - (intOf vk).toNat)
        case atStart => exact HST.out
        case round =>
          clear HST
          obtain ⟨q, k, gh, h, rfl, hq, rfl, hkl, rfl, hhl, hrh, hr, hb⟩ := hrel
          have hkW := HK.out.below hb
          by_cases hgo : k < np
          · have hgoI : (k : Int) < (np : Int) := by omega
            have hxe : ls[k]? = some ls[k] := List.getElem?_eq_getElem (by omega)
            obtain ⟨x, hx⟩ : ∃ x, ls[k] = x := ⟨_, rfl⟩
            rw [hx] at hxe
            obtain ⟨ax, cx, h1, h2, h3, h4⟩ := HPC.out k x hxe
            have h1' := (hb.cell (p := ⟨bp, op + k, none⟩) hbp).trans h1
            have hdrop : ls.drop k = x :: ls.drop (k + 1) := by rw [← hx]; exact (List.drop_eq_getElem_cons (by omega))
            rw [hdrop, checkG] at hr
            obtain ⟨nx, hnx⟩ : ∃ nx, x.length = nx := ⟨_, rfl⟩
            rw [hnx] at h1' h2 hr
            have h4' := (h4.below hb).more hb.size
            clear h1 hxe hdrop
            by_cases c6 : nx = 64
            · subst c6
              obtain ⟨bx, ox, rfl, hbx, _⟩ := h4.byte 0 (by omega)
              obtain ⟨r, hr1⟩ : ∃ r, q % 2 = r := ⟨_, rfl⟩
              have hqr : (q : Int) % 2 = (r : Int) := by omega
              have hr2 : r ≤ 1 := by omega
              obtain ⟨q', hq'⟩ : ∃ q', q / 2 = q' := ⟨_, rfl⟩
              have hqq : (q : Int) / 2 = (q' : Int) := by omega
              rw [hr1] at hr
              have hrs : Rd wr wr.heap.size (some ⟨bx, ox + 32 * r, none⟩) (bs ((x.drop (32 * r)).take 32)) := by
                have := (h4'.drop (32 * r)).take 32
                rw [← bs_drop, ← bs_take] at this
                have e : (some ⟨bx, ox, none⟩ : Option Addr).map (·.add (32 * r)) = some ⟨bx, ox + 32 * r, none⟩ := by simp [Addr.add_lit]
                rw [e] at this
                exact this
              have hsl : ((x.drop (32 * r)).take 32).length = 32 := by simp; omega
              have HEQ := Lib.hid (bytesEqual_any ((x.drop (32 * r)).take 32) h (some ⟨bx, ox + 32 * r, none⟩) (some ⟨gh, 0, none⟩) 32 32 (cx - 32 * r) 32 wr hsl hhl hrs hrh)
              have HHX := Lib.hid (hash_any 1 x (some ⟨bx, ox, none⟩) 64 cx wr hnx h2 h3 h4' hkW)
              have HR := Lib.hid hr
              clear hr hrs hsl h4 h4' hx hrh
              go_wp2_with fail
              refine HEQ.out.mono ?_
              rintro e w5 ⟨rfl, hw5⟩
              subst hw5
              by_cases heq : (x.drop (32 * r)).take 32 = h
              · have hr' := HR.out
                rw [if_pos ⟨trivial, heq⟩] at hr'
                rw [beq_iff_eq.2 heq]
                have HR' := Lib.hid hr'
                clear hr' HR HEQ
                go_wp2_with fail
                refine HHX.out.mono ?_
                rintro e w6 ⟨g6, rfl, hg6, hB6, hb6⟩
                have hfin : CkR w res root ls (.int .i64 (q' : Int)) (.slice (some ⟨g6, 0, none⟩) 32 32) (.int .i64 ((k : Int) + 1)) w6 :=
                  ⟨q', k + 1, g6, hashL 1 x, rfl, by omega, by push_cast; rfl, by omega, rfl, hashL_length _ _, .inr ⟨g6, 0, rfl, lt_of_heap hB6, fun q u hu => by rw [Nat.zero_add]; exact hB6.cell q u hu⟩, by rw [← hq']; exact HR'.out, hb.trans (hb6.mono hb.size)⟩
                have HFIN := Lib.hid hfin
                clear hfin hB6 hb6 hg6 HHX
                go_wp2_with fail
                all_goals go_roundw
                all_goals first
                  | (case measure => simp [intOf]; omega)
                  | exact HFIN.out
                  | ((repeat apply Exists.intro); exact ⟨HFIN.out, rfl⟩)
              · have hr' := HR.out
                rw [if_neg (fun h => heq h.2)] at hr'
                rw [beq_eq_false_iff_ne.2 heq]
                have HRV := Lib.hid hr'
                clear hr' HR HEQ HHX
                go_wp2_with fail
                go_ret
                exact ⟨by rw [HRV.out]; rfl, hb⟩
            · have c6' : ¬ ((nx : Int) = 64) := by omega
              have hr' : res = false := by rw [hr, if_neg (fun h => c6 h.1)]
              have HRV := Lib.hid hr'
              clear hr hr'
              go_wp2_with fail
              go_ret
              exact ⟨by rw [HRV.out]; rfl, hb⟩
          · have : k = np := by omega
            subst this
            have hr' : res = (h == root) := by rw [hr, List.drop_of_length_le (by omega)]; rfl
            have HRR' := (HRR.out.below hb).more hb.size
            have HEQ := Lib.hid (bytesEqual_any h root (some ⟨gh, 0, none⟩) ar 32 nr 32 cr wr hhl hlr hrh HRR')
            have HRV := Lib.hid hr'
            clear hr hr' hrh HRR'
            go_wp2_with fail
            refine HEQ.out.mono ?_
            rintro e w5 ⟨rfl, rfl⟩
            go_wp2_with fail
            go_ret
            exact ⟨by rw [HRV.out]; rfl, hb⟩
    · have e : res = false := by rw [← HRS.out]; unfold checkR; rw [if_neg (by omega)]
      subst e
      clear HRS
      have c4' : ¬ ((np : Int) = (L : Int)) := by omega
      go_wp2_with fail
      go_ret
      exact ⟨rfl, hb1⟩
  · have e : res = false := by rw [← HRS.out]; unfold checkR; rw [if_neg (by omega)]
    subst e
    clear HRS
    have c3' : ¬ ((nd : Int) = 64) := by omega
    go_wp2_with fail
    go_ret
    exact ⟨rfl, Below.refl _ _⟩
end Go.Proofs.YtnfchojekcoplaaDoor
