/- the law of pieces -/
import Derived.Test.YtlfchhnkchcjcaaDoorShaTwo
namespace Go.Proofs.YtlfchhnkchcjcaaDoor
set_option linter.unusedVariables false
set_option linter.unusedSimpArgs false
open Go.RowKit

set_option maxHeartbeats 2000000 in
set_option maxRecDepth 16000 in
theorem law_ShaPieces (a : Option Addr) (n c : Nat) (ls : List (List UInt8)) (W : World) (h : Ty.reads (.slice .bytes) W (Value.slice a n c).cells.toList ls) (hk : KOK W) :
    Calls Tryd.prog 4 #[.slice a n c] W fun e w' => e = .returned (.bool true) ∧ Below W.heap.size W w' := by
  obtain ⟨hlen, hn63⟩ := pieces_len (slice_arg h)
  have HL := Lib.hid (slice_arg h)
  have HLEN := Lib.hid hlen
  have HN63 := Lib.hid hn63
  have HK := Lib.hid hk
  clear h hk hlen hn63
  go_enter Tryd.func4, Tryd.ntmps4
  go_wp2_with fail
  refine (new_any _).mono ?_
  rintro e w1 ⟨rfl, hH1, hb1, hs1⟩
  have HH1 := Lib.hid hH1
  have HB1 := Lib.hid hb1
  have HS1 := Lib.hid hs1
  clear hH1 hb1 hs1
  go_wp2_with fail
  refine (new_any _).mono ?_
  rintro e w2 ⟨rfl, hH2, hb2, hs2⟩
  have hs1 := HS1.out
  rw [hs1] at hH2 hb2 hs2 ⊢
  have HB2 := Lib.hid (HB1.out.trans (hb2.mono (by omega)))
  have HH12 := Lib.hid (HH1.out.below (hb2.mono (by omega)))
  have HH2 := Lib.hid hH2
  have HS2 : Hid (w2.heap.size = W.heap.size + 2) := Lib.hid (by omega)
  clear hH2 hb2 hs2 HB1 HH1 HS1 hs1
  go_wp2_with fail
  refine (shalive_any _ (HK.out.below HB2.out)).mono ?_
  rintro e w3 ⟨rfl, hb3⟩
  have HB3 := Lib.hid (HB2.out.trans (hb3.mono HB2.out.size))
  have HH13 := Lib.hid (HH12.out.below hb3)
  have HH23 := Lib.hid (HH2.out.below hb3)
  have HS3 : Hid (W.heap.size + 2 ≤ w3.heap.size) := Lib.hid (by have := hb3.size; have := HS2.out; omega)
  clear hb3 HB2 HH12 HH2 HS2
  go_upto_region 7 with (fail)
  go_loopw [6, 5] (fun vi v wr => PRel W ls vi v wr) (fun vi _ _ => 40 - (intOf vi).toNat)
  case atStart => exact ⟨0, none, by omega, by omega, rfl, by simp [takenL], HH13.out, (fun x h => by cases h), HH23.out, OwnG.nil _ _ _ _, .inl rfl, HB3.out, HS3.out⟩
  case round =>
    clear HB3 HH13 HH23 HS3
    obtain ⟨i, r, hi, hi40, rfl, hal, hh1, hr, hh2, hown, hap, hb, hsz⟩ := hrel
    obtain ⟨T, hT⟩ : ∃ T, takenL ls i = T := ⟨_, rfl⟩
    rw [hT] at hal hh1 hown
    obtain ⟨av, cv, rfl, hcv⟩ := OwnG.shape hown
    obtain ⟨t, ht⟩ : ∃ t, T.length = t := ⟨_, rfl⟩
    rw [ht] at hal hown hcv hap ⊢
    have HT := Lib.hid hT
    have HTL := Lib.hid ht
    have HH1 := Lib.hid hh1
    have HH2 := Lib.hid hh2
    have HR := Lib.hid hr
    have HO := Lib.hid hown
    have HAP := Lib.hid hap
    have HB := Lib.hid hb
    have HSZ := Lib.hid hsz
    have HI := Lib.hid hi
    clear hT ht hh1 hh2 hr hown hap hb hsz
    have hk0 : (0 : Int) ≤ (i : Int) := Int.natCast_nonneg i
    by_cases hgo : i < n
    · by_cases hgo2 : i < 40
      · obtain ⟨x, hx⟩ : ∃ x, ls[i]? = some x := ⟨_, List.getElem?_eq_getElem (by rw [HLEN.out]; exact hgo)⟩
        obtain ⟨b, off, ai, ci, rfl, hbW, hcell, hci, hrd, hci2⟩ := piece_at HL.out i x hx
        obtain ⟨m, hm⟩ : ∃ m, x.length = m := ⟨_, rfl⟩
        rw [hm] at hcell hci
        have hcr := (HB.out.cell (p := ⟨b, off + i, none⟩) hbW).trans hcell
        have HX := Lib.hid hx
        have HM := Lib.hid hm
        have HRD := Lib.hid hrd
        have hgoI : (i : Int) < (n : Int) := Int.ofNat_lt.2 hgo
        have hgoI2 : (i : Int) < 40 := by omega
        clear hx hm hrd hcell
        by_cases hbig : 20000 - t < m
        · have hbI : (20000 : Int) - (t : Int) < (m : Int) := by omega
          go_wp2_with fail
          go_ret
          exact ⟨rfl, HB.out⟩
        · have hbI : ¬ ((20000 : Int) - (t : Int) < (m : Int)) := by omega
          have hbw : b < wr.heap.size := by have := HB.out.size; omega
          have hcr2 : (wr.alloc (Obj.cells #[] 5)).cell? ⟨b, off + i, none⟩ = some (.slice ai m ci) := (World.cell?_alloc_lt wr _ ⟨b, off + i, none⟩ hbw).trans hcr
          have HRW : Hid (Rd (wr.alloc (Obj.cells #[] 5)) W.heap.size ai (bs x)) := Lib.hid ((HRD.out.below HB.out).alloc HB.out.size _)
          have HMT : Hid (t + m ≤ 20000) := Lib.hid (by omega)
          have HS0 : Hid (([] : List UInt8).length + m ≤ 140737488355328) := Lib.hid (by simp; omega)
          have HS1 : Hid (wr.heap.size ≤ (wr.alloc (Obj.cells #[] 5)).heap.size) := Lib.hid (by rw [World.size_alloc]; omega)
          have HLT : Hid (W.heap.size + 2 ≤ wr.heap.size ∧ b < W.heap.size) := Lib.hid ⟨HSZ.out, hbW⟩
          clear hbig
          go_wp2_with (at_builtin; refine wpList_app rfl _ _ rfl wr.heap.size _ [] rfl (OwnB.lit0 wr) W.heap.size ai m ci x rfl HM.out HRW.out HS0.out HS1.out ?_)
          intro v5 w5 hown5 hgr5 hat5
          have hb5 : Below wr.heap.size wr w5 := below_app ((Below.refl wr.heap.size wr).alloc (Nat.le_refl _) (.cells #[] 5)) (OwnB.lit0 wr) (Nat.le_refl _) hgr5
          obtain ⟨a5, c5, rfl, hc5⟩ := OwnG.shape hown5
          rw [HM.out] at hown5 hc5 hat5 ⊢
          have hcap5 := OwnB.cap hown5
          have hlt5 := OwnG.lt hown5
          have hszb := hb5.size
          have hr5 : ∀ y, r = some y → W.heap.size + 2 ≤ y ∧ y < wr.heap.size := fun y hy => ⟨HR.out y hy, (IsHash.lt HH1.out).2 y hy |>.2⟩
          have hsep5 : Sep W.heap.size r a5 x := .inr fun ad had => by
            subst had
            have h1 := (hlt5 ad.block rfl).1
            have h2 := HSZ.out
            exact ⟨by omega, fun e => by have := hr5 ad.block e.symm; omega⟩
          have HWR := Lib.hid (write_any W.heap.size r 0 T x a5 m c5 w5 (HH1.out.below hb5) (Nat.zero_le _) HM.out hc5 (by have := hcap5.2.1; unfold maxLen at this; omega) (OwnB.rd hown5) hsep5 (((HK.out.below HB.out).below hb5)))
          have HB5 := Lib.hid (HB.out.trans (hb5.mono HB.out.size))
          have HH25 := Lib.hid (HH2.out.below hb5)
          have HO5 := Lib.hid (OwnG.below HO.out hb5)
          have HOWN5 := Lib.hid hown5
          have HLT5 := Lib.hid hlt5
          have HR5 := Lib.hid hr5
          have HSZ5 := Lib.hid hszb
          have HVB : Hid (∀ y, (Value.slice av t cv).ownBlock = some y → W.heap.size + 2 ≤ y ∧ y < wr.heap.size) := Lib.hid (OwnG.lt HO.out)
          clear hown5 hgr5 hat5 hb5 hcap5 hlt5 hszb hr5 hsep5 hc5
          go_wp2_with fail
          refine HWR.out.mono ?_
          rintro e w6 ⟨rfl, ⟨r6, hh6, hr6⟩, hbut⟩
          obtain ⟨row5, hrow5⟩ : ∃ row5, (Value.slice a5 m c5).ownBlock = row5 := ⟨_, rfl⟩
          have hl5 := HLT5.out
          rw [hrow5] at hl5
          have h56 := hbut.size
          have hr6' : ∀ y, r6 = some y → W.heap.size + 2 ≤ y ∧ (some y ≠ row5) ∧ (some y ≠ (Value.slice av t cv).ownBlock) := by
            intro y hy
            rcases hr6 with e | ⟨q, e, hq⟩
            · have h1 := HR5.out y (e ▸ hy)
              refine ⟨h1.1, fun e2 => by have := hl5 y e2.symm; omega, fun e2 => ?_⟩
              rcases HAP.out with h | h
              · rw [h] at e2; cases e2
              · exact h (by rw [← e2, ← hy, e])
            · obtain rfl : q = y := by rw [hy] at e; injection e with e; exact e.symm
              have h2 := HSZ5.out
              have h3 := HSZ.out
              exact ⟨by omega, fun e2 => by have := hl5 q e2.symm; omega, fun e2 => by have := HVB.out q e2.symm; omega⟩
          have HH6 := Lib.hid hh6
          have HB6 : Hid (Below W.heap.size W w6) := Lib.hid (hbut.fresh HB5.out (Nat.le_refl _) (Nat.le_refl _) (fun y hy => by have := HR5.out y hy; omega))
          have HH26 : Hid (IsHash w6 (W.heap.size + 1) none 0 []) := Lib.hid (HH25.out.but2 hbut (by omega) (fun e => by have := HR5.out _ e.symm; omega) (by simp) (.inl rfl))
          have HO6 : Hid (OwnB w6 (W.heap.size + 2) (.slice av t cv) T) := Lib.hid (OwnB.but2 HO5.out hbut (fun e => by have := HVB.out _ e; omega) HAP.out)
          have HOWN6 : Hid (OwnB w6 wr.heap.size (.slice a5 m c5) x) := Lib.hid (OwnB.but2 HOWN5.out hbut (fun e => by rw [hrow5] at e; have := hl5 _ e; have := HSZ.out; omega) (by
            rw [hrow5]
            cases hq : row5 with
            | none => exact .inl rfl
            | some q => exact .inr (fun e => by have h1 := hl5 q hq; have h2 := HR5.out q e.symm; omega)))
          have HR6 := Lib.hid hr6'
          have HROW5 := Lib.hid hrow5
          have HL5 := Lib.hid hl5
          clear hh6 hr6 hbut hrow5 hl5 h56 hr6' HB5 HH25 HO5 HOWN5 HLT5 HWR
          go_upto_region 14 with (fail)
          go_loopw [8] (fun vk wl => ∃ (k : Nat) (y : List UInt8), k ≤ m ∧ vk = .int .i64 k ∧ y.length = m ∧ OwnB wl wr.heap.size (.slice a5 m c5) y ∧ w6.grownBy wl row5) (fun vk _ => m - (intOf vk).toNat)
          case atStart => exact ⟨0, x, Nat.zero_le _, rfl, HM.out, HOWN6.out, World.grownBy.refl _ _⟩
          case round =>
            clear HOWN6
            obtain ⟨k, y, hk, rfl, hyl, hown, hg⟩ := hrel
            rename World => wl
            have HG := Lib.hid hg
            have HOW := Lib.hid hown
            have HYL := Lib.hid hyl
            have hkz : (0 : Int) ≤ (k : Int) := Int.natCast_nonneg k
            clear hg hown hyl
            by_cases hkm : k < m
            · have hkI : (k : Int) < (m : Int) := Int.ofNat_lt.2 hkm
              obtain ⟨q, o, cq, hv, hq1, hq2, _, _⟩ := OwnG.form HOW.out (by have := HYL.out; omega)
              rw [HYL.out] at hv
              injection hv with hv1 _ hv3
              subst hv1; subst hv3
              have hfr := OwnG.frozenAt (by have := HOW.out; unfold OwnB at this; rw [HYL.out] at this; exact this : OwnG wl wr.heap.size 5 1 (.slice (some ⟨q, o, none⟩) m c5) m (bs y)) k (by have := (OwnB.cap HOW.out).1; omega)
              obtain ⟨u, hu⟩ := OwnG.cellEx (by have := HOW.out; unfold OwnB at this; rw [HYL.out] at this; exact this : OwnG wl wr.heap.size 5 1 (.slice (some ⟨q, o, none⟩) m c5) m (bs y)) k (by rw [bs_length, HYL.out]; exact hkm)
              go_wp2_with fail
              all_goals go_roundw
              all_goals first
                | (case measure => simp [intOf]; omega)
                | (have hst : OwnB (wl.setCell ⟨q, o + k, none⟩ (.int .u8 99)) wr.heap.size (.slice (some ⟨q, o, none⟩) m c5) (y.set k 99) := by
                     have h0 := HOW.out
                     unfold OwnB at h0 ⊢
                     rw [HYL.out] at h0
                     rw [List.length_set, HYL.out, bs_set]
                     exact OwnG.stored h0 k (B 99) (by rw [bs_length, HYL.out]; exact hkm)
                   have hrq : row5 = some q := HROW5.out.symm
                   exact ⟨k + 1, y.set k 99, hkm, by go_num, by rw [List.length_set]; exact HYL.out, hst, by have h1 := HG.out; rw [hrq] at h1 ⊢; exact grownBy_set h1 _⟩)
            · have hke : k = m := by omega
              subst hke
              have hrow1 : row5 ≠ some W.heap.size := fun e => by have := HL5.out _ e; have := HSZ.out; omega
              have hrow2 : row5 ≠ some (W.heap.size + 1) := fun e => by have := HL5.out _ e; have := HSZ.out; omega
              have hr6n : r6 = none ∨ r6 ≠ row5 := by
                cases hq : r6 with
                | none => exact .inl rfl
                | some z => exact .inr ((HR6.out z hq).2.1)
              have hvn : (Value.slice av t cv).ownBlock = none ∨ (Value.slice av t cv).ownBlock ≠ row5 := by
                cases hq : (Value.slice av t cv).ownBlock with
                | none => exact .inl rfl
                | some z => exact .inr (fun e => by have h1 := HVB.out z hq; have h2 := HL5.out z e.symm; omega)
              have HHL := Lib.hid (HH6.out.grown HG.out hrow1 hr6n)
              have HH2L := Lib.hid (HH26.out.grown HG.out hrow2 (.inl rfl))
              have HOL := Lib.hid (OwnG.grown HO6.out HG.out hvn)
              have HBL : Hid (Below W.heap.size W wl) := Lib.hid (HB6.out.grown HG.out HB6.out.size (fun z hz => by have := HL5.out z hz; have := HSZ.out; omega))
              have hcl := (HBL.out.cell (p := ⟨b, off + i, none⟩) hbW).trans (((HB.out.cell (p := ⟨b, off + i, none⟩) hbW).symm.trans hcr))
              have HRL : Hid (Rd wl W.heap.size ai (bs x)) := Lib.hid (HRD.out.below HBL.out)
              have HS7 : Hid (T.length + k ≤ 140737488355328) := Lib.hid (by have := HMT.out; have := HTL.out; omega)
              have HS8 : Hid (W.heap.size + 2 ≤ wl.heap.size) := Lib.hid (by have := HG.out.size; have := (HH26.out.lt).1; omega)
              clear HG HOW HYL hrow1 hrow2 hr6n hvn HH6 HH26 HO6 HB6 hkm
              go_wp2_with (at_builtin; refine wpList_app rfl _ _ rfl (W.heap.size + 2) _ T rfl HOL.out W.heap.size ai k ci x rfl HM.out HRL.out HS7.out HS8.out ?_)
              intro v7 w7 hown7 hgr7 hat7
              obtain ⟨a7, c7, rfl, hc7⟩ := OwnG.shape hown7
              obtain ⟨t7, ht7⟩ : ∃ t7, (T ++ x).length = t7 := ⟨_, rfl⟩
              rw [ht7] at hown7 hc7 hat7 ⊢
              have hvr : (Value.slice av t cv).ownBlock ≠ some W.heap.size ∧ (Value.slice av t cv).ownBlock ≠ some (W.heap.size + 1) := ⟨fun e => by have := HVB.out _ e; omega, fun e => by have := HVB.out _ e; omega⟩
              have hr6v : r6 = none ∨ r6 ≠ (Value.slice av t cv).ownBlock := by
                cases hq : r6 with
                | none => exact .inl rfl
                | some z => exact .inr ((HR6.out z hq).2.2)
              have hap7 : (Value.slice a7 t7 c7).ownBlock = none ∨ (Value.slice a7 t7 c7).ownBlock ≠ r6 := by
                rcases hat7 with e | e
                · rw [e]
                  rcases hr6v with h | h
                  · rw [h]
                    cases hq : (Value.slice av t cv).ownBlock with
                    | none => exact .inl rfl
                    | some z => exact .inr (by simp)
                  · exact .inr (fun e2 => h e2.symm)
                · rw [e]
                  exact .inr (fun e2 => by have := ((IsHash.lt HHL.out).2 _ e2.symm).2; omega)
              have HH7 := Lib.hid (HHL.out.grown hgr7 hvr.1 hr6v)
              have HH27 := Lib.hid (HH2L.out.grown hgr7 hvr.2 (.inl rfl))
              have HB7 : Hid (Below W.heap.size W w7) := Lib.hid (HBL.out.grown hgr7 HBL.out.size (fun z hz => by have := HVB.out z hz; omega))
              have HAP7 := Lib.hid hap7
              have HO7 := Lib.hid hown7
              have HT7 := Lib.hid ht7
              have HC7 := Lib.hid hc7
              have HS9 : Hid (W.heap.size + 2 ≤ w7.heap.size) := Lib.hid (by have := HS8.out; have := hgr7.size; omega)
              clear hvr hr6v hap7 hown7 hgr7 hat7 ht7 hc7 HHL HH2L HOL HBL HRL HS7 HS8 hcl HO HH1 HH2 HB hcr hcr2 HRW HS0 HS1
              go_wp2_with fail
              refine (hsum_any W.heap.size r6 0 (T ++ x) w7 HH7.out (HK.out.below HB7.out)).mono ?_
              rintro e w8 ⟨rfl, hb8⟩
              obtain ⟨X, Z, hX, hinf, hone, hzz, hzs, w9, hw9, hB9, hb9, hs9⟩ := keep_digest w8 (shaL (T ++ x)) (shaL_length _)
              rw [hX]
              have HX9 := Lib.hid hX
              have HBK := Lib.hid hB9
              have HINF := Lib.hid hinf
              have h79 : Below w7.heap.size w7 w9 := hb8.trans (hb9.mono hb8.size)
              have H79 := Lib.hid h79
              have HE8 : Hid (w7.heap.size ≤ w8.heap.size) := Lib.hid hb8.size
              clear hX hB9 hb8 hb9 hs9 h79
              go_wp2_with (refine wpList_store_row0 rfl 23 _ _ rfl rfl w8.heap.size X rfl rfl 23 Z hzz hinf hzs hone hw9 ?_)
              clear hzz hinf hzs hone hw9
              have HKK : Hid (∀ wx, Below w9.heap.size w9 wx → KOK wx) := Lib.hid (fun wx hx => ((HK.out.below HB7.out).below H79.out).below hx)
              have C1 : Hid (∀ wx, Below w9.heap.size w9 wx → Calls Tryd.prog 12 #[.slice a7 t7 c7] wx fun e w' => e = .returned (.agg X) ∧ Below w9.heap.size w9 w') := Lib.hid (fun wx hx => by
                have ho : OwnB wx (W.heap.size + 2) (.slice a7 t7 c7) (T ++ x) := OwnG.below (OwnG.below HO7.out H79.out) hx
                refine (sum_any (T ++ x) a7 t7 c7 wx HT7.out HC7.out (by have := (OwnB.cap ho).2.1; unfold maxLen at this; omega) (OwnB.rd ho) (HKK.out wx hx)).mono ?_
                rintro e w' ⟨rfl, hb⟩
                exact ⟨by rw [← HX9.out], hx.trans (hb.mono hx.size)⟩)
              have C2 : Hid (∀ wx, Below w9.heap.size w9 wx → Calls Tryd.prog 18 #[.pointer (some ⟨W.heap.size, 0, none⟩)] wx fun e w' => e = .returned (.agg X) ∧ Below w9.heap.size w9 w') := Lib.hid (fun wx hx => by
                refine (hsum_any W.heap.size r6 0 (T ++ x) wx ((HH7.out.below H79.out).below hx) (HKK.out wx hx)).mono ?_
                rintro e w' ⟨rfl, hb⟩
                exact ⟨by rw [← HX9.out], hx.trans (hb.mono hx.size)⟩)
              have C3 : Hid (∀ wx, Below w9.heap.size w9 wx → wx.heap[w8.heap.size]? = some (.cells X 23 (0, 0))) := Lib.hid (fun wx hx => by rw [← HX9.out]; exact HBK.out.below hx)
              have heq : ∀ w : World, (Op.equalIn 10000 23 (.agg X) (.agg X)).run Tryd.prog w = .ok true w := fun w => by
                have := eq_digest (shaL (T ++ x)) (shaL (T ++ x)) (shaL_length _) (shaL_length _) HX9.out HX9.out w
                rw [beq_self_eq_true] at this
                exact this
              have hr9 : Below w9.heap.size w9 w9.drew := (Below.refl _ _).drew
              go_cut [76] (fun v wn => v = .bool false ∧ Below w9.heap.size w9 wn)
              case first =>
                refine wp_region_any (by kernel_rfl) ?_
                change wpAny _ _ _ _ _ _ _ (World.drew _)
                refine wpAny_take (i := 1) (v := .slice a7 t7 c7) rfl (by kernel_rfl) (by kernel_rfl) (by kernel_rfl) (fun _ _ _ h => h) (Or.inl ⟨by rfl, fun w => by go_simp⟩) ?_
                simp only [List.getElem_toArray, List.getElem_cons_succ, List.getElem_cons_zero, Act.put, List.setIfInBounds_toArray, List.set_cons_zero, List.set_cons_succ]
                refine wpAny_ready (rs := [0, 2]) (by kernel_rfl) (by simp) ?_
                refine AllReady.cons rfl (fun K hK => ?_) ?_
                · skip
                  refine step_load_row0 rfl 23 (.tmp 9) rfl w8.heap.size rfl 23 X (0, 0) _ (C3.out _ hr9) Tryd.underlying23 rfl HINF.out ?_
                  refine hK _ _ ?_
                  clear hK K
                  try simp only [List.getElem_toArray, List.getElem_cons_succ, List.getElem_cons_zero, Act.put, List.setIfInBounds_toArray, List.set_cons_zero, List.set_cons_succ]
                  refine wpAny_ready (rs := [2]) (by kernel_rfl) (by simp) ?_
                  refine AllReady.cons rfl (fun K hK => ?_) ?_
                  · skip
                    go_simp
                    refine (C1.out _ hr9).mono ?_
                    rintro e wa1 ⟨rfl, hb1⟩
                    refine hK _ _ ?_
                    clear hK K
                    try simp only [List.getElem_toArray, List.getElem_cons_succ, List.getElem_cons_zero, Act.put, List.setIfInBounds_toArray, List.set_cons_zero, List.set_cons_succ]
                    refine wpAny_take (i := 3) (v := .bool false) rfl (by kernel_rfl) (by kernel_rfl) (by kernel_rfl) (fun _ _ _ h => h) (Or.inl ⟨by rfl, fun w => by go_simp⟩) ?_
                    simp only [List.getElem_toArray, List.getElem_cons_succ, List.getElem_cons_zero, Act.put, List.setIfInBounds_toArray, List.set_cons_zero, List.set_cons_succ]
                    refine wpAny_take (i := 4) (v := .bool false) rfl (by kernel_rfl) (by kernel_rfl) (by kernel_rfl) (fun _ _ _ h => h) (Or.inl ⟨by rfl, fun w => by go_simp⟩) ?_
                    simp only [List.getElem_toArray, List.getElem_cons_succ, List.getElem_cons_zero, Act.put, List.setIfInBounds_toArray, List.set_cons_zero, List.set_cons_succ]
                    refine wpAny_ready (rs := [5, 7]) (by kernel_rfl) (by simp) ?_
                    refine AllReady.cons rfl (fun K hK => ?_) ?_
                    · skip
                      go_simp
                      refine hK _ _ ?_
                      clear hK K
                      try simp only [List.getElem_toArray, List.getElem_cons_succ, List.getElem_cons_zero, Act.put, List.setIfInBounds_toArray, List.set_cons_zero, List.set_cons_succ]
                      refine wpAny_ready (rs := [6, 7]) (by kernel_rfl) (by simp) ?_
                      refine AllReady.cons rfl (fun K hK => ?_) ?_
                      · skip
                        go_simp
                        refine (C2.out _ hb1).mono ?_
                        rintro e wa2 ⟨rfl, hb2⟩
                        refine hK _ _ ?_
                        clear hK K
                        try simp only [List.getElem_toArray, List.getElem_cons_succ, List.getElem_cons_zero, Act.put, List.setIfInBounds_toArray, List.set_cons_zero, List.set_cons_succ]
                        refine wpAny_ready (rs := [7]) (by kernel_rfl) (by simp) ?_
                        refine AllReady.cons rfl (fun K hK => ?_) ?_
                        · skip
                          refine step_load_row (by rfl) 23 (.tmp 9) rfl w8.heap.size rfl 23 X (0, 0) _ (C3.out _ hb2) Tryd.underlying23 rfl HINF.out ?_
                          refine hK _ _ ?_
                          clear hK K
                          try simp only [List.getElem_toArray, List.getElem_cons_succ, List.getElem_cons_zero, Act.put, List.setIfInBounds_toArray, List.set_cons_zero, List.set_cons_succ]
                          refine wpAny_ready (rs := [8]) (by kernel_rfl) (by simp) ?_
                          refine AllReady.cons rfl (fun K hK => ?_) ?_
                          · go_simp
                            refine hK _ _ ?_
                            clear hK K
                            try simp only [List.getElem_toArray, List.getElem_cons_succ, List.getElem_cons_zero, Act.put, List.setIfInBounds_toArray, List.set_cons_zero, List.set_cons_succ]
                            refine wpAny_ready (rs := [9]) (by kernel_rfl) (by simp) ?_
                            refine AllReady.cons rfl (fun K hK => ?_) ?_
                            · go_simp
                              refine hK _ _ ?_
                              clear hK K
                              try simp only [List.getElem_toArray, List.getElem_cons_succ, List.getElem_cons_zero, Act.put, List.setIfInBounds_toArray, List.set_cons_zero, List.set_cons_succ]
                              refine wpAny_done (by kernel_rfl) ?_ _
                              go_wp2_with fail
                              go_meet
                              exact ⟨rfl, hb2⟩
                            exact AllReady.nil
                          exact AllReady.nil
                        exact AllReady.nil
                      refine AllReady.cons rfl (fun K hK => ?_) ?_
                      · skip
                        refine step_load_row (by rfl) 23 (.tmp 9) rfl w8.heap.size rfl 23 X (0, 0) _ (C3.out _ hb1) Tryd.underlying23 rfl HINF.out ?_
                        refine hK _ _ ?_
                        clear hK K
                        try simp only [List.getElem_toArray, List.getElem_cons_succ, List.getElem_cons_zero, Act.put, List.setIfInBounds_toArray, List.set_cons_zero, List.set_cons_succ]
                        refine wpAny_ready (rs := [6]) (by kernel_rfl) (by simp) ?_
                        refine AllReady.cons rfl (fun K hK => ?_) ?_
                        · skip
                          go_simp
                          refine (C2.out _ hb1).mono ?_
                          rintro e wa3 ⟨rfl, hb3⟩
                          refine hK _ _ ?_
                          clear hK K
                          try simp only [List.getElem_toArray, List.getElem_cons_succ, List.getElem_cons_zero, Act.put, List.setIfInBounds_toArray, List.set_cons_zero, List.set_cons_succ]
                          refine wpAny_ready (rs := [8]) (by kernel_rfl) (by simp) ?_
                          refine AllReady.cons rfl (fun K hK => ?_) ?_
                          · go_simp
                            refine hK _ _ ?_
                            clear hK K
                            try simp only [List.getElem_toArray, List.getElem_cons_succ, List.getElem_cons_zero, Act.put, List.setIfInBounds_toArray, List.set_cons_zero, List.set_cons_succ]
                            refine wpAny_ready (rs := [9]) (by kernel_rfl) (by simp) ?_
                            refine AllReady.cons rfl (fun K hK => ?_) ?_
                            · go_simp
                              refine hK _ _ ?_
                              clear hK K
                              try simp only [List.getElem_toArray, List.getElem_cons_succ, List.getElem_cons_zero, Act.put, List.setIfInBounds_toArray, List.set_cons_zero, List.set_cons_succ]
                              refine wpAny_done (by kernel_rfl) ?_ _
                              go_wp2_with fail
                              go_meet
                              exact ⟨rfl, hb3⟩
                            exact AllReady.nil
                          exact AllReady.nil
                        exact AllReady.nil
                      exact AllReady.nil
                    refine AllReady.cons rfl (fun K hK => ?_) ?_
                    · skip
                      refine step_load_row (by rfl) 23 (.tmp 9) rfl w8.heap.size rfl 23 X (0, 0) _ (C3.out _ hb1) Tryd.underlying23 rfl HINF.out ?_
                      refine hK _ _ ?_
                      clear hK K
                      try simp only [List.getElem_toArray, List.getElem_cons_succ, List.getElem_cons_zero, Act.put, List.setIfInBounds_toArray, List.set_cons_zero, List.set_cons_succ]
                      refine wpAny_ready (rs := [5]) (by kernel_rfl) (by simp) ?_
                      refine AllReady.cons rfl (fun K hK => ?_) ?_
                      · skip
                        go_simp
                        refine hK _ _ ?_
                        clear hK K
                        try simp only [List.getElem_toArray, List.getElem_cons_succ, List.getElem_cons_zero, Act.put, List.setIfInBounds_toArray, List.set_cons_zero, List.set_cons_succ]
                        refine wpAny_ready (rs := [6]) (by kernel_rfl) (by simp) ?_
                        refine AllReady.cons rfl (fun K hK => ?_) ?_
                        · skip
                          go_simp
                          refine (C2.out _ hb1).mono ?_
                          rintro e wa4 ⟨rfl, hb4⟩
                          refine hK _ _ ?_
                          clear hK K
                          try simp only [List.getElem_toArray, List.getElem_cons_succ, List.getElem_cons_zero, Act.put, List.setIfInBounds_toArray, List.set_cons_zero, List.set_cons_succ]
                          refine wpAny_ready (rs := [8]) (by kernel_rfl) (by simp) ?_
                          refine AllReady.cons rfl (fun K hK => ?_) ?_
                          · go_simp
                            refine hK _ _ ?_
                            clear hK K
                            try simp only [List.getElem_toArray, List.getElem_cons_succ, List.getElem_cons_zero, Act.put, List.setIfInBounds_toArray, List.set_cons_zero, List.set_cons_succ]
                            refine wpAny_ready (rs := [9]) (by kernel_rfl) (by simp) ?_
                            refine AllReady.cons rfl (fun K hK => ?_) ?_
                            · go_simp
                              refine hK _ _ ?_
                              clear hK K
                              try simp only [List.getElem_toArray, List.getElem_cons_succ, List.getElem_cons_zero, Act.put, List.setIfInBounds_toArray, List.set_cons_zero, List.set_cons_succ]
                              refine wpAny_done (by kernel_rfl) ?_ _
                              go_wp2_with fail
                              go_meet
                              exact ⟨rfl, hb4⟩
                            exact AllReady.nil
                          exact AllReady.nil
                        exact AllReady.nil
                      exact AllReady.nil
                    exact AllReady.nil
                  exact AllReady.nil
                refine AllReady.cons rfl (fun K hK => ?_) ?_
                · skip
                  go_simp
                  refine (C1.out _ hr9).mono ?_
                  rintro e wa5 ⟨rfl, hb5⟩
                  refine hK _ _ ?_
                  clear hK K
                  try simp only [List.getElem_toArray, List.getElem_cons_succ, List.getElem_cons_zero, Act.put, List.setIfInBounds_toArray, List.set_cons_zero, List.set_cons_succ]
                  refine wpAny_ready (rs := [0]) (by kernel_rfl) (by simp) ?_
                  refine AllReady.cons rfl (fun K hK => ?_) ?_
                  · skip
                    refine step_load_row0 rfl 23 (.tmp 9) rfl w8.heap.size rfl 23 X (0, 0) _ (C3.out _ hb5) Tryd.underlying23 rfl HINF.out ?_
                    refine hK _ _ ?_
                    clear hK K
                    try simp only [List.getElem_toArray, List.getElem_cons_succ, List.getElem_cons_zero, Act.put, List.setIfInBounds_toArray, List.set_cons_zero, List.set_cons_succ]
                    refine wpAny_take (i := 3) (v := .bool false) rfl (by kernel_rfl) (by kernel_rfl) (by kernel_rfl) (fun _ _ _ h => h) (Or.inl ⟨by rfl, fun w => by go_simp⟩) ?_
                    simp only [List.getElem_toArray, List.getElem_cons_succ, List.getElem_cons_zero, Act.put, List.setIfInBounds_toArray, List.set_cons_zero, List.set_cons_succ]
                    refine wpAny_take (i := 4) (v := .bool false) rfl (by kernel_rfl) (by kernel_rfl) (by kernel_rfl) (fun _ _ _ h => h) (Or.inl ⟨by rfl, fun w => by go_simp⟩) ?_
                    simp only [List.getElem_toArray, List.getElem_cons_succ, List.getElem_cons_zero, Act.put, List.setIfInBounds_toArray, List.set_cons_zero, List.set_cons_succ]
                    refine wpAny_ready (rs := [5, 7]) (by kernel_rfl) (by simp) ?_
                    refine AllReady.cons rfl (fun K hK => ?_) ?_
                    · skip
                      go_simp
                      refine hK _ _ ?_
                      clear hK K
                      try simp only [List.getElem_toArray, List.getElem_cons_succ, List.getElem_cons_zero, Act.put, List.setIfInBounds_toArray, List.set_cons_zero, List.set_cons_succ]
                      refine wpAny_ready (rs := [6, 7]) (by kernel_rfl) (by simp) ?_
                      refine AllReady.cons rfl (fun K hK => ?_) ?_
                      · skip
                        go_simp
                        refine (C2.out _ hb5).mono ?_
                        rintro e wa6 ⟨rfl, hb6⟩
                        refine hK _ _ ?_
                        clear hK K
                        try simp only [List.getElem_toArray, List.getElem_cons_succ, List.getElem_cons_zero, Act.put, List.setIfInBounds_toArray, List.set_cons_zero, List.set_cons_succ]
                        refine wpAny_ready (rs := [7]) (by kernel_rfl) (by simp) ?_
                        refine AllReady.cons rfl (fun K hK => ?_) ?_
                        · skip
                          refine step_load_row (by rfl) 23 (.tmp 9) rfl w8.heap.size rfl 23 X (0, 0) _ (C3.out _ hb6) Tryd.underlying23 rfl HINF.out ?_
                          refine hK _ _ ?_
                          clear hK K
                          try simp only [List.getElem_toArray, List.getElem_cons_succ, List.getElem_cons_zero, Act.put, List.setIfInBounds_toArray, List.set_cons_zero, List.set_cons_succ]
                          refine wpAny_ready (rs := [8]) (by kernel_rfl) (by simp) ?_
                          refine AllReady.cons rfl (fun K hK => ?_) ?_
                          · go_simp
                            refine hK _ _ ?_
                            clear hK K
                            try simp only [List.getElem_toArray, List.getElem_cons_succ, List.getElem_cons_zero, Act.put, List.setIfInBounds_toArray, List.set_cons_zero, List.set_cons_succ]
                            refine wpAny_ready (rs := [9]) (by kernel_rfl) (by simp) ?_
                            refine AllReady.cons rfl (fun K hK => ?_) ?_
                            · go_simp
                              refine hK _ _ ?_
                              clear hK K
                              try simp only [List.getElem_toArray, List.getElem_cons_succ, List.getElem_cons_zero, Act.put, List.setIfInBounds_toArray, List.set_cons_zero, List.set_cons_succ]
                              refine wpAny_done (by kernel_rfl) ?_ _
                              go_wp2_with fail
                              go_meet
                              exact ⟨rfl, hb6⟩
                            exact AllReady.nil
                          exact AllReady.nil
                        exact AllReady.nil
                      refine AllReady.cons rfl (fun K hK => ?_) ?_
                      · skip
                        refine step_load_row (by rfl) 23 (.tmp 9) rfl w8.heap.size rfl 23 X (0, 0) _ (C3.out _ hb5) Tryd.underlying23 rfl HINF.out ?_
                        refine hK _ _ ?_
                        clear hK K
                        try simp only [List.getElem_toArray, List.getElem_cons_succ, List.getElem_cons_zero, Act.put, List.setIfInBounds_toArray, List.set_cons_zero, List.set_cons_succ]
                        refine wpAny_ready (rs := [6]) (by kernel_rfl) (by simp) ?_
                        refine AllReady.cons rfl (fun K hK => ?_) ?_
                        · skip
                          go_simp
                          refine (C2.out _ hb5).mono ?_
                          rintro e wa7 ⟨rfl, hb7⟩
                          refine hK _ _ ?_
                          clear hK K
                          try simp only [List.getElem_toArray, List.getElem_cons_succ, List.getElem_cons_zero, Act.put, List.setIfInBounds_toArray, List.set_cons_zero, List.set_cons_succ]
                          refine wpAny_ready (rs := [8]) (by kernel_rfl) (by simp) ?_
                          refine AllReady.cons rfl (fun K hK => ?_) ?_
                          · go_simp
                            refine hK _ _ ?_
                            clear hK K
                            try simp only [List.getElem_toArray, List.getElem_cons_succ, List.getElem_cons_zero, Act.put, List.setIfInBounds_toArray, List.set_cons_zero, List.set_cons_succ]
                            refine wpAny_ready (rs := [9]) (by kernel_rfl) (by simp) ?_
                            refine AllReady.cons rfl (fun K hK => ?_) ?_
                            · go_simp
                              refine hK _ _ ?_
                              clear hK K
                              try simp only [List.getElem_toArray, List.getElem_cons_succ, List.getElem_cons_zero, Act.put, List.setIfInBounds_toArray, List.set_cons_zero, List.set_cons_succ]
                              refine wpAny_done (by kernel_rfl) ?_ _
                              go_wp2_with fail
                              go_meet
                              exact ⟨rfl, hb7⟩
                            exact AllReady.nil
                          exact AllReady.nil
                        exact AllReady.nil
                      exact AllReady.nil
                    refine AllReady.cons rfl (fun K hK => ?_) ?_
                    · skip
                      refine step_load_row (by rfl) 23 (.tmp 9) rfl w8.heap.size rfl 23 X (0, 0) _ (C3.out _ hb5) Tryd.underlying23 rfl HINF.out ?_
                      refine hK _ _ ?_
                      clear hK K
                      try simp only [List.getElem_toArray, List.getElem_cons_succ, List.getElem_cons_zero, Act.put, List.setIfInBounds_toArray, List.set_cons_zero, List.set_cons_succ]
                      refine wpAny_ready (rs := [5]) (by kernel_rfl) (by simp) ?_
                      refine AllReady.cons rfl (fun K hK => ?_) ?_
                      · skip
                        go_simp
                        refine hK _ _ ?_
                        clear hK K
                        try simp only [List.getElem_toArray, List.getElem_cons_succ, List.getElem_cons_zero, Act.put, List.setIfInBounds_toArray, List.set_cons_zero, List.set_cons_succ]
                        refine wpAny_ready (rs := [6]) (by kernel_rfl) (by simp) ?_
                        refine AllReady.cons rfl (fun K hK => ?_) ?_
                        · skip
                          go_simp
                          refine (C2.out _ hb5).mono ?_
                          rintro e wa8 ⟨rfl, hb8⟩
                          refine hK _ _ ?_
                          clear hK K
                          try simp only [List.getElem_toArray, List.getElem_cons_succ, List.getElem_cons_zero, Act.put, List.setIfInBounds_toArray, List.set_cons_zero, List.set_cons_succ]
                          refine wpAny_ready (rs := [8]) (by kernel_rfl) (by simp) ?_
                          refine AllReady.cons rfl (fun K hK => ?_) ?_
                          · go_simp
                            refine hK _ _ ?_
                            clear hK K
                            try simp only [List.getElem_toArray, List.getElem_cons_succ, List.getElem_cons_zero, Act.put, List.setIfInBounds_toArray, List.set_cons_zero, List.set_cons_succ]
                            refine wpAny_ready (rs := [9]) (by kernel_rfl) (by simp) ?_
                            refine AllReady.cons rfl (fun K hK => ?_) ?_
                            · go_simp
                              refine hK _ _ ?_
                              clear hK K
                              try simp only [List.getElem_toArray, List.getElem_cons_succ, List.getElem_cons_zero, Act.put, List.setIfInBounds_toArray, List.set_cons_zero, List.set_cons_succ]
                              refine wpAny_done (by kernel_rfl) ?_ _
                              go_wp2_with fail
                              go_meet
                              exact ⟨rfl, hb8⟩
                            exact AllReady.nil
                          exact AllReady.nil
                        exact AllReady.nil
                      exact AllReady.nil
                    exact AllReady.nil
                  exact AllReady.nil
                exact AllReady.nil
              case rest =>
                obtain ⟨rfl, hb10⟩ := hcut
                rename World => w10
                have h710 : Below w7.heap.size w7 w10 := H79.out.trans (hb10.mono H79.out.size)
                have hfin : PRel W ls (.int .i64 ((i : Int) + 1)) (.slice a7 t7 c7) w10 := by
                  have h1 := HM.out
                  have h2 := HMT.out
                  have h3 := HTL.out
                  have hnn := HLEN.out
                  have e : takenL ls (i + 1) = T ++ x := by rw [takenL_succ ls i x HX.out, HT.out]
                  refine ⟨i + 1, r6, by omega, by omega, by go_num, ?_, ?_, fun z hz => (HR6.out z hz).1, IsHash.below HH27.out h710, ?_, HAP7.out, HB7.out.trans (h710.mono HB7.out.size), by have := h710.size; have := HS9.out; omega⟩
                  · rw [e, List.length_append]; omega
                  · rw [e]; exact IsHash.below HH7.out h710
                  · rw [e]; exact OwnG.below HO7.out h710
                have HFIN := Lib.hid hfin
                clear hfin heq hr9
                go_wp2_with fail
                all_goals go_roundw
                all_goals first
                  | (case measure => simp [intOf]; omega)
                  | exact HFIN.out
      · have hgoI : (i : Int) < (n : Int) := Int.ofNat_lt.2 hgo
        have hgoI2 : ¬ ((i : Int) < 40) := by omega
        go_wp2_with fail
        refine (hsum_any (W.heap.size + 1) none 0 [] wr HH2.out (HK.out.below HB.out)).mono ?_
        rintro e w8 ⟨rfl, hb8⟩
        obtain ⟨X, hX⟩ : ∃ X, (bs (shaL [])).toArray = X := ⟨_, rfl⟩
        rw [hX]
        have HX0 := Lib.hid hX
        have HB8 := Lib.hid (HB.out.trans (hb8.mono HB.out.size))
        have heq : ∀ w : World, (Op.equalIn 10000 23 (.agg X) (.agg X)).run Tryd.prog w = .ok true w := fun w => by
          have := eq_digest (shaL []) (shaL []) (shaL_length _) (shaL_length _) HX0.out HX0.out w
          rw [beq_self_eq_true] at this
          exact this
        clear hX hb8
        go_wp2_with fail
        refine (sum_any [] none 0 0 w8 rfl (Nat.le_refl _) (by omega) .nil (HK.out.below HB8.out)).mono ?_
        rintro e w9 ⟨rfl, hb9⟩
        rw [HX0.out]
        have HB9 := Lib.hid (HB8.out.trans (hb9.mono HB8.out.size))
        clear hb9
        go_wp2_with fail
        go_ret
        exact ⟨rfl, HB9.out⟩
    · have hgoI : ¬ ((i : Int) < (n : Int)) := by omega
      go_wp2_with fail
      refine (hsum_any (W.heap.size + 1) none 0 [] wr HH2.out (HK.out.below HB.out)).mono ?_
      rintro e w8 ⟨rfl, hb8⟩
      obtain ⟨X, hX⟩ : ∃ X, (bs (shaL [])).toArray = X := ⟨_, rfl⟩
      rw [hX]
      have HX0 := Lib.hid hX
      have HB8 := Lib.hid (HB.out.trans (hb8.mono HB.out.size))
      have heq : ∀ w : World, (Op.equalIn 10000 23 (.agg X) (.agg X)).run Tryd.prog w = .ok true w := fun w => by
        have := eq_digest (shaL []) (shaL []) (shaL_length _) (shaL_length _) HX0.out HX0.out w
        rw [beq_self_eq_true] at this
        exact this
      clear hX hb8
      go_wp2_with fail
      refine (sum_any [] none 0 0 w8 rfl (Nat.le_refl _) (by omega) .nil (HK.out.below HB8.out)).mono ?_
      rintro e w9 ⟨rfl, hb9⟩
      rw [HX0.out]
      have HB9 := Lib.hid (HB8.out.trans (hb9.mono HB8.out.size))
      clear hb9
      go_wp2_with fail
      go_ret
      exact ⟨rfl, HB9.out⟩
end Go.Proofs.YtlfchhnkchcjcaaDoor
