/- the document's tree -/
import Derived.Test.YtnfchojekcoplaaDoorMeO
namespace Go.Proofs.YtnfchojekcoplaaDoor
set_option linter.unusedVariables false
set_option linter.unusedSimpArgs false
open Go Go.RowKit

theorem sumC_le : ∀ (j n : Nat), 1 ≤ n → sumC n j ≤ n * j
  | 0, n, _ => Nat.zero_le _
  | j + 1, n, h => by
    rw [sumC_succ, Nat.mul_succ]
    exact Nat.add_le_add (sumC_le j n h) (cnt_le (j + 1) n h)
def RbI (w wr : World) (kind : UInt8) (L : List UInt8) (c : Nat) (v9 v10 : Value) (wq : World) : Prop :=
  ∃ i : Nat, v10 = .int .i64 (64 * (i : Int)) ∧ i ≤ c ∧ OwnB wq wr.heap.size v9 (hashes kind L i) ∧ Below wr.heap.size wr wq
def RbA (w : World) (d : List UInt8) (n : Nat) (v6 v7 v8 : Value) (wr : World) : Prop :=
  ∃ (j : Nat) (al : Option Addr) (cl : Nat), j ≤ nlev n ∧ v7 = .slice al (64 * cnt n j) cl ∧ 64 * cnt n j ≤ cl ∧ v8 = .int .u8 ((kindL j).toNat : Int) ∧ OwnB wr (w.heap.size + 1) v6 (treeB d n j) ∧ Rd wr wr.heap.size al (bs (lev d n j)) ∧ Below w.heap.size w wr ∧
    wr.heap[w.heap.size]? = some (.cells (bs (List.replicate 32 0)).toArray 24 (0, 0))

set_option maxRecDepth 100000 in
set_option maxHeartbeats 2000000 in
theorem rbuild_any (d : List UInt8) (ad : Option Addr) (nd cd : Nat) (w : World) (hl : d.length = nd) (hc : nd ≤ cd) (hr : Rd w w.heap.size ad (bs d)) (hok : okB d) :
    Calls Tryd.prog 11 #[.slice ad nd cd] w fun e w' => ∃ v, e = .returned (.tuple #[v, .agg (bs (rootL d)).toArray, .int .i64 0]) ∧ OwnB w' w.heap.size v (treeL d) ∧ Below w.heap.size w w' := by
  obtain ⟨hm, hn1, hn2⟩ := hok
  obtain ⟨n, hn⟩ : ∃ n, d.length / 64 = n := ⟨_, rfl⟩
  rw [hn] at hn1 hn2
  have hnd : nd = 64 * n := by omega
  subst hnd
  have hd64 : d.length = 64 * n := hl
  have q1 : ((64 * n : Nat) : Int) / 64 = (n : Int) := by omega
  have q2 : ((64 * n : Nat) : Int) % 64 = 0 := by omega
  have q3 : ¬ ((n : Int) < 1) := by omega
  have q4 : ¬ ((2048 : Int) < (n : Int)) := by omega
  have HR := Lib.hid hr
  have hpost : treeL d = treeB d n (nlev n) ∧ rootL d = hashL 1 (lev d n (nlev n)) := by
    unfold treeL rootL
    rw [hn]
    exact ⟨rfl, rfl⟩
  rw [hpost.1, hpost.2]
  clear hpost hr
  go_enter Tryd.func11, Tryd.ntmps11
  go_upto_region 1 with (fail)
  have hz : Blk (w.alloc (.cells (bs (List.replicate 32 0)).toArray 24)) w.heap.size 24 (bs (List.replicate 32 0)) := Blk.new _ _ _
  have hb1 := (Below.refl w.heap.size w).alloc (Nat.le_refl _) (.cells (bs (List.replicate 32 0)).toArray 24)
  have hs1 : (w.alloc (.cells (bs (List.replicate 32 0)).toArray 24)).heap.size = w.heap.size + 1 := World.size_alloc _ _
  generalize hw1 : (w.alloc (.cells (bs (List.replicate 32 0)).toArray 24)) = w1 at hz hb1 hs1
  refine hgoalR hw1 ?_
  clear hw1
  have hst : RbA w d n (.slice none 0 0) (.slice ad (64 * n) cd) (.int .u8 0) w1 := ⟨0, ad, cd, Nat.zero_le _, rfl, hc, rfl, OwnB.nil _ _, (HR.out.below hb1).more hb1.size, hb1, hz⟩
  have HST := Lib.hid hst
  clear hst hz hb1 hs1 HR
  go_wp2_with fail
  go_loopw [6, 7, 8] (fun v6 v7 v8 wr => RbA w d n v6 v7 v8 wr) (fun _ v7 v8 _ => 2 * slLen v7 + (1 - (intOf v8).toNat))
  case atStart => exact HST.out
  case round =>
    clear HST
    rename World => wo
    obtain ⟨j, al, cl, hj, rfl, hcl, rfl, ho, hrd, hb, hz⟩ := hrel
    have hC1 := cnt_pos j n hn1
    have hC2 := cnt_le j n hn1
    have hS := cnt_succ j n
    have hmore := lvs_more n j hn1 hn2 hj
    obtain ⟨C, hC⟩ : ∃ C, cnt n j = C := ⟨_, rfl⟩
    obtain ⟨kk, hkk⟩ : ∃ kk, kindL j = kk := ⟨_, rfl⟩
    have hll := lev_length d n hd64 j
    rw [hC] at hcl hC1 hC2 hS hmore hll ⊢
    rw [hkk]
    have HO := Lib.hid ho
    have HRD := Lib.hid hrd
    have HB := Lib.hid hb
    have HZ := Lib.hid hz
    have HC := Lib.hid hC
    have HKK := Lib.hid hkk
    have HM := Lib.hid hmore
    have HLL := Lib.hid hll
    clear ho hrd hb hz hC hkk hmore hll
    by_cases hj0 : j = 0
    · have hkk0 : kk = 0 := by rw [← HKK.out, hj0]; rfl
      subst hkk0
      have hgo : j < nlev n := HM.out.2 (.inl hj0)
      have HJ0 := Lib.hid hj0
      clear hj0
      obtain ⟨L, hL⟩ : ∃ L, lev d n j = L := ⟨_, rfl⟩
      have hLL := HLL.out
      have hRD := HRD.out
      rw [hL] at hLL hRD
      obtain ⟨ba, oa, rfl, hba, hc0⟩ := hRD.byte 0 (by omega)
      clear hc0
      have HRL := Lib.hid hRD
      have HLL' := Lib.hid hLL
      have HL := Lib.hid hL
      clear hLL hRD hL
      have hsti : RbI w wo 0 L C (.slice none 0 0) (.int .i64 0) wo := ⟨0, rfl, Nat.zero_le _, OwnB.nil _ _, Below.refl _ _⟩
      have HSI := Lib.hid hsti
      clear hsti
      go_wp2_with fail
      go_loopw [9, 10] (fun v9 v10 wr => RbI w wo 0 L C v9 v10 wr) (fun _ v10 _ => 64 * C - (intOf v10).toNat)
      case atStart => exact HSI.out
      case round =>
        clear HSI
        obtain ⟨i, rfl, hi, ho, hb⟩ := hrel
        obtain ⟨a9, c9, rfl, hc9⟩ := OwnB.shape ho
        rw [hashes_length] at hc9 ⊢
        have i0 : (0 : Int) ≤ (i : Int) := Int.natCast_nonneg i
        by_cases hgi : i < C
        · have hgiI : (64 : Int) * (i : Int) < 64 * (C : Int) := by omega
          have w1' : IntKind.i64.wrap (64 * (i : Int) + 64) = 64 * (i : Int) + 64 := by rw [IntKind.wrap_i64]; omega
          have z2 : 64 * (i : Int) ≤ 64 * (i : Int) + 64 := by omega
          have z3 : 0 ≤ 64 * (i : Int) + 64 := by omega
          have z4 : 64 * (i : Int) + 64 ≤ (cl : Int) := by omega
          have z5 : ¬ (cl = 64 * i) := by omega
          have z6 : 0 ≤ 64 * (i : Int) := by omega
          have t1 : (64 * (i : Int)).toNat = 64 * i := by omega
          have t2 : (64 * (i : Int) + 64).toNat = 64 * i + 64 := by omega
          have l64 : 64 * i + 64 - 64 * i = 64 := by omega
          have hsec : Rd wr wr.heap.size (some ⟨ba, oa + 64 * i, none⟩) (bs (secL L i)) := by
            have := (((HRL.out.below hb).more hb.size).drop (64 * i)).take 64
            rw [← bs_drop, ← bs_take] at this
            have e : (some ⟨ba, oa, none⟩ : Option Addr).map (·.add (64 * i)) = some ⟨ba, oa + 64 * i, none⟩ := by simp [Addr.add_lit]
            rw [e] at this
            exact this
          have HH := Lib.hid (rhash_any 0 (secL L i) (some ⟨ba, oa + 64 * i, none⟩) (cl - 64 * i) wr (secL_length L i C HLL'.out hgi) hsec)
          have HOI := Lib.hid ho
          have HBI := Lib.hid hb
          clear ho hb hsec
          go_wp2_with fail
          refine HH.out.mono ?_
          rintro e w3 ⟨rfl, hb3⟩
          obtain ⟨X, Z, hX, hinf, hone, hzz, hzs, w4, hw4, hB4, hb4, hs4⟩ := keep_digest w3 (hashL 0 (secL L i)) (hashL_length _ _)
          rw [hX]
          have hbq4 : Below wr.heap.size wr w4 := hb3.trans (hb4.mono hb3.size)
          have ho4 := HOI.out.below hbq4
          have hlen9 : (hashes 0 L i).length = 32 * i := hashes_length _ _ _
          have hb9 : Below wo.heap.size wo w4 := HBI.out.trans (hbq4.mono HBI.out.size)
          have HO4 : Hid (OwnB w4 wo.heap.size (.slice a9 (32 * i) c9) (hashes 0 L i)) := Lib.hid (by rw [hlen9] at ho4; exact ho4)
          have HB4 := Lib.hid hB4
          have HB9 := Lib.hid hb9
          have HL9 := Lib.hid hlen9
          have hsz9 : wo.heap.size ≤ w4.heap.size := hb9.size
          have hC12 : C ≤ 2048 := by omega
          have KF : Hid (∀ v' w', OwnB w' wo.heap.size v' (hashes 0 L i ++ hashL 0 (secL L i)) → w4.grownBy w' (Value.slice a9 (32 * i) c9).ownBlock → RbI w wo 0 L C v' (.int .i64 (64 * (i : Int) + 64)) w' ∧ ∃ a' c', v' = .slice a' (32 * (i + 1)) c') := Lib.hid (fun v' w' h1 h2 => by
            refine ⟨⟨i + 1, by rw [show (64 * (i : Int) + 64) = 64 * ((i + 1 : Nat) : Int) by omega], hgi, h1, HB9.out.trans (below_grown h2 HB9.out.size (fun q hq => (OwnB.lt HO4.out q hq).1))⟩, ?_⟩
            obtain ⟨a', c', e, _⟩ := OwnB.shape h1
            refine ⟨a', c', ?_⟩
            rw [e, show (hashes 0 L i ++ hashL 0 (secL L i)).length = 32 * (i + 1) from hashes_length 0 L (i + 1)])
          clear hX hB4 hb4 hs4 hb3 hbq4 ho4 hlen9 hb9 HH HOI HBI
          go_wp2_with (first
            | (refine wpList_store_row rfl 24 _ _ rfl w3.heap.size X rfl rfl 24 Z hzz hinf hzs hone (hgoalL hw4 ?_))
            | (refine wpList_app rfl _ _ rfl wo.heap.size _ (hashes 0 L i) rfl HO4.out w4.heap.size (some ⟨w3.heap.size, 0, none⟩) 32 32 (hashL 0 (secL L i)) rfl (hashL_length _ _) (rd_blk HB4.out) (by rw [HL9.out]; omega) hsz9 ?_; intro v5 w5 ho5 hg5 hv5; obtain ⟨hF, a5, c5, rfl⟩ := KF.out v5 w5 ho5 hg5; have HF := Lib.hid hF; clear ho5 hg5 hv5 hF))
          all_goals go_roundw
          all_goals first
            | (case measure => simp [intOf]; omega)
            | exact HF.out
            | ((repeat apply Exists.intro); exact ⟨HF.out, rfl⟩)
        · have : i = C := by omega
          subst this
          have HOI : Hid (OwnB wr wo.heap.size (.slice a9 (32 * i) c9) (hashes 0 L i)) := Lib.hid (by rw [hashes_length] at ho; exact ho)
          have HBI := Lib.hid hb
          clear ho hb
          have KN : Hid (∀ (wz : World) (an : Option Addr) (nn cn : Nat), Below wo.heap.size wo wz → OwnB wz wo.heap.size (.slice an nn cn) (nextL 0 L i) → OwnB wz (w.heap.size + 1) u6 (treeB d n j) ∧ Rd wz wz.heap.size an (bs (nextL 0 L i)) ∧ w.heap.size + 1 ≤ wz.heap.size ∧
              (∀ v' w', OwnB w' (w.heap.size + 1) v' (treeB d n j ++ nextL 0 L i) → wz.grownBy w' u6.ownBlock → RbA w d n v' (.slice an nn cn) (.int .u8 1) w')) := Lib.hid (fun wz an nn cn hbz hoz => by
            have hot := HO.out.below hbz
            have hs1 : w.heap.size + 1 ≤ wo.heap.size := lt_of_heap HZ.out
            refine ⟨hot, hoz.rd, Nat.le_trans hs1 hbz.size, fun v' w' h1 h2 => ?_⟩
            have hnl : (nextL 0 L i).length = nn := OwnB.len hoz
            have hnn : nn = 64 * cnt n (j + 1) := by rw [← hnl, nextL_length, cnt_succ, HC.out]
            obtain ⟨a', c', e', hcc⟩ := OwnB.shape hoz
            have hcn : nn ≤ cn := by rw [hnl] at e' hcc; injection e' with _ _ e3; omega
            have hne : (Value.slice an nn cn).ownBlock = none ∨ (Value.slice an nn cn).ownBlock ≠ u6.ownBlock := by
              cases hq : (Value.slice an nn cn).ownBlock with
              | none => exact .inl rfl
              | some q =>
                refine .inr fun e => ?_
                have h3 := (OwnB.lt hoz q hq).1
                have h4 := (OwnB.lt HO.out q e.symm).2
                omega
            have hlev : lev d n (j + 1) = nextL 0 L i := by
              show nextL (kindL j) (lev d n j) (cnt n j) = _
              rw [HKK.out, HL.out, HC.out]
            refine ⟨j + 1, an, cn, hgo, by rw [hnn], by omega, rfl, ?_, ?_, ?_, ?_⟩
            · rw [treeB, hlev]; exact h1
            · rw [hlev]; exact (OwnB.grown hoz h2 hne).rd
            · exact (HB.out.trans (hbz.mono HB.out.size)).trans (below_grown h2 (by have := hbz.size; omega) (fun q hq => by have := (OwnB.lt HO.out q hq).1; omega))
            · exact (h2.block _ (by have := hbz.size; omega) (fun e => by have := (OwnB.lt HO.out _ e.symm).1; omega)).trans ((hbz.block _ (by omega)).trans HZ.out))
          have htl := treeB_length d n hd64 j
          have hsum : sumC n j ≤ 24576 := by
            have h1 := sumC_le j n hn1
            have h12 : nlev n ≤ 12 := lvs_length (n : Int)
            exact Nat.le_trans h1 (Nat.mul_le_mul hn2 (by omega : j ≤ 12))
          have hsz : wo.heap.size ≤ wr.heap.size := HBI.out.size
          have hi2 : i ≤ 2048 := by omega
          have hhl := hashes_length 0 L i
          by_cases hpar : i % 2 = 0
          · have hnx : nextL 0 L i = hashes 0 L i := by
              rw [nextL, show 64 * ((i + 1) / 2) - 32 * i = 0 by omega]
              exact List.append_nil _
            have e16 : (32 * (i : Int)) % 64 = 0 := by omega
            obtain ⟨n1, n2, n3, n4⟩ := KN.out wr a9 (32 * i) c9 HBI.out (by rw [hnx]; exact HOI.out)
            rw [hnx] at n2
            have N1 := Lib.hid n1
            have N2 := Lib.hid n2
            have N4 := Lib.hid n4
            have HNX := Lib.hid hnx
            have HTL := Lib.hid htl
            have HHL := Lib.hid hhl
            clear n1 n2 n4 hnx htl hhl KN
            go_wp2_with (refine wpList_app rfl _ _ rfl (w.heap.size + 1) _ (treeB d n j) rfl N1.out wr.heap.size a9 (32 * i) c9 (hashes 0 L i) rfl HHL.out N2.out (by rw [HTL.out]; omega) n3 ?_; intro v5 w5 ho5 hg5 hv5; have HF := Lib.hid (N4.out v5 w5 (by rw [HNX.out]; exact ho5) hg5); clear ho5 hg5 hv5)
            all_goals go_roundw
            all_goals first
              | (case measure => simp [intOf, slLen]; omega)
              | exact HF.out
              | ((repeat apply Exists.intro); exact ⟨HF.out, rfl⟩)
          · have hnx : nextL 0 L i = hashes 0 L i ++ zeros 32 := by
              rw [nextL, show 64 * ((i + 1) / 2) - 32 * i = 32 by omega]
            have e16 : (32 * (i : Int)) % 64 = 32 := by omega
            have HNX := Lib.hid hnx
            have HTL := Lib.hid htl
            have HHL := Lib.hid hhl
            have hnl : (nextL 0 L i).length = 32 * i + 32 := by rw [hnx, List.length_append, hhl, zeros_length]
            have HNL := Lib.hid hnl
            have KM : Hid (∀ v5 w5, OwnB w5 wo.heap.size v5 (hashes 0 L i ++ zeros 32) → wr.grownBy w5 (Value.slice a9 (32 * i) c9).ownBlock → ∃ a5 c5, v5 = .slice a5 (32 * i + 32) c5 ∧ (OwnB w5 (w.heap.size + 1) u6 (treeB d n j) ∧ Rd w5 w5.heap.size a5 (bs (nextL 0 L i)) ∧ w.heap.size + 1 ≤ w5.heap.size ∧
              (∀ v' w', OwnB w' (w.heap.size + 1) v' (treeB d n j ++ nextL 0 L i) → w5.grownBy w' u6.ownBlock → RbA w d n v' (.slice a5 (32 * i + 32) c5) (.int .u8 1) w'))) := Lib.hid (fun v5 w5 h1 h2 => by
              obtain ⟨a5, c5, e5, _⟩ := OwnB.shape h1
              have hll5 : (hashes 0 L i ++ zeros 32).length = 32 * i + 32 := by rw [List.length_append, HHL.out, zeros_length]
              rw [hll5] at e5
              subst e5
              refine ⟨a5, c5, rfl, KN.out w5 a5 (32 * i + 32) c5 (HBI.out.trans (below_grown h2 HBI.out.size (fun q hq => (OwnB.lt HOI.out q hq).1))) ?_⟩
              rw [HNX.out]
              exact h1)
            clear hnx htl hhl hnl KN
            go_wp2_with (first
              | (refine wpList_appz rfl _ _ rfl wo.heap.size _ (hashes 0 L i) rfl HOI.out 32 _ rfl rfl (by rw [HHL.out]; omega) hsz ?_; intro v4 w4 ho4 hg4; obtain ⟨a4, c4, rfl, n1, n2, n3, n4⟩ := KM.out v4 w4 ho4 hg4; have N1 := Lib.hid n1; have N2 := Lib.hid n2; have N4 := Lib.hid n4; clear n1 n2 n4 ho4 hg4)
              | (refine wpList_app rfl _ _ rfl (w.heap.size + 1) _ (treeB d n j) rfl N1.out w4.heap.size a4 (32 * i + 32) c4 (nextL 0 L i) rfl HNL.out N2.out (by rw [HTL.out]; omega) n3 ?_; intro v5 w5 ho5 hg5 hv5; have HF := Lib.hid (N4.out v5 w5 ho5 hg5); clear ho5 hg5 hv5))
            all_goals go_roundw
            all_goals first
              | (case measure => simp [intOf, slLen]; omega)
              | exact HF.out
              | ((repeat apply Exists.intro); exact ⟨HF.out, rfl⟩)
    · have hkk1 : kk = 1 := by rw [← HKK.out]; unfold kindL; rw [if_neg hj0]
      subst hkk1
      by_cases hC12 : 1 < C
      · have hgo : j < nlev n := HM.out.2 (.inr hC12)
        have hC12i : (64 : Int) < 64 * (C : Int) := by omega
        clear hj0
        obtain ⟨L, hL⟩ : ∃ L, lev d n j = L := ⟨_, rfl⟩
        have hLL := HLL.out
        have hRD := HRD.out
        rw [hL] at hLL hRD
        obtain ⟨ba, oa, rfl, hba, hc0⟩ := hRD.byte 0 (by omega)
        clear hc0
        have HRL := Lib.hid hRD
        have HLL' := Lib.hid hLL
        have HL := Lib.hid hL
        clear hLL hRD hL
        have hsti : RbI w wo 1 L C (.slice none 0 0) (.int .i64 0) wo := ⟨0, rfl, Nat.zero_le _, OwnB.nil _ _, Below.refl _ _⟩
        have HSI := Lib.hid hsti
        clear hsti
        go_wp2_with fail
        go_loopw [9, 10] (fun v9 v10 wr => RbI w wo 1 L C v9 v10 wr) (fun _ v10 _ => 64 * C - (intOf v10).toNat)
        case atStart => exact HSI.out
        case round =>
          clear HSI
          obtain ⟨i, rfl, hi, ho, hb⟩ := hrel
          obtain ⟨a9, c9, rfl, hc9⟩ := OwnB.shape ho
          rw [hashes_length] at hc9 ⊢
          have i0 : (0 : Int) ≤ (i : Int) := Int.natCast_nonneg i
          by_cases hgi : i < C
          · have hgiI : (64 : Int) * (i : Int) < 64 * (C : Int) := by omega
            have w1' : IntKind.i64.wrap (64 * (i : Int) + 64) = 64 * (i : Int) + 64 := by rw [IntKind.wrap_i64]; omega
            have z2 : 64 * (i : Int) ≤ 64 * (i : Int) + 64 := by omega
            have z3 : 0 ≤ 64 * (i : Int) + 64 := by omega
            have z4 : 64 * (i : Int) + 64 ≤ (cl : Int) := by omega
            have z5 : ¬ (cl = 64 * i) := by omega
            have z6 : 0 ≤ 64 * (i : Int) := by omega
            have t1 : (64 * (i : Int)).toNat = 64 * i := by omega
            have t2 : (64 * (i : Int) + 64).toNat = 64 * i + 64 := by omega
            have l64 : 64 * i + 64 - 64 * i = 64 := by omega
            have hsec : Rd wr wr.heap.size (some ⟨ba, oa + 64 * i, none⟩) (bs (secL L i)) := by
              have := (((HRL.out.below hb).more hb.size).drop (64 * i)).take 64
              rw [← bs_drop, ← bs_take] at this
              have e : (some ⟨ba, oa, none⟩ : Option Addr).map (·.add (64 * i)) = some ⟨ba, oa + 64 * i, none⟩ := by simp [Addr.add_lit]
              rw [e] at this
              exact this
            have HH := Lib.hid (rhash_any 1 (secL L i) (some ⟨ba, oa + 64 * i, none⟩) (cl - 64 * i) wr (secL_length L i C HLL'.out hgi) hsec)
            have HOI := Lib.hid ho
            have HBI := Lib.hid hb
            clear ho hb hsec
            go_wp2_with fail
            refine HH.out.mono ?_
            rintro e w3 ⟨rfl, hb3⟩
            obtain ⟨X, Z, hX, hinf, hone, hzz, hzs, w4, hw4, hB4, hb4, hs4⟩ := keep_digest w3 (hashL 1 (secL L i)) (hashL_length _ _)
            rw [hX]
            have hbq4 : Below wr.heap.size wr w4 := hb3.trans (hb4.mono hb3.size)
            have ho4 := HOI.out.below hbq4
            have hlen9 : (hashes 1 L i).length = 32 * i := hashes_length _ _ _
            have hb9 : Below wo.heap.size wo w4 := HBI.out.trans (hbq4.mono HBI.out.size)
            have HO4 : Hid (OwnB w4 wo.heap.size (.slice a9 (32 * i) c9) (hashes 1 L i)) := Lib.hid (by rw [hlen9] at ho4; exact ho4)
            have HB4 := Lib.hid hB4
            have HB9 := Lib.hid hb9
            have HL9 := Lib.hid hlen9
            have hsz9 : wo.heap.size ≤ w4.heap.size := hb9.size
            have hC12 : C ≤ 2048 := by omega
            have KF : Hid (∀ v' w', OwnB w' wo.heap.size v' (hashes 1 L i ++ hashL 1 (secL L i)) → w4.grownBy w' (Value.slice a9 (32 * i) c9).ownBlock → RbI w wo 1 L C v' (.int .i64 (64 * (i : Int) + 64)) w' ∧ ∃ a' c', v' = .slice a' (32 * (i + 1)) c') := Lib.hid (fun v' w' h1 h2 => by
              refine ⟨⟨i + 1, by rw [show (64 * (i : Int) + 64) = 64 * ((i + 1 : Nat) : Int) by omega], hgi, h1, HB9.out.trans (below_grown h2 HB9.out.size (fun q hq => (OwnB.lt HO4.out q hq).1))⟩, ?_⟩
              obtain ⟨a', c', e, _⟩ := OwnB.shape h1
              refine ⟨a', c', ?_⟩
              rw [e, show (hashes 1 L i ++ hashL 1 (secL L i)).length = 32 * (i + 1) from hashes_length 1 L (i + 1)])
            clear hX hB4 hb4 hs4 hb3 hbq4 ho4 hlen9 hb9 HH HOI HBI
            go_wp2_with (first
              | (refine wpList_store_row rfl 24 _ _ rfl w3.heap.size X rfl rfl 24 Z hzz hinf hzs hone (hgoalL hw4 ?_))
              | (refine wpList_app rfl _ _ rfl wo.heap.size _ (hashes 1 L i) rfl HO4.out w4.heap.size (some ⟨w3.heap.size, 0, none⟩) 32 32 (hashL 1 (secL L i)) rfl (hashL_length _ _) (rd_blk HB4.out) (by rw [HL9.out]; omega) hsz9 ?_; intro v5 w5 ho5 hg5 hv5; obtain ⟨hF, a5, c5, rfl⟩ := KF.out v5 w5 ho5 hg5; have HF := Lib.hid hF; clear ho5 hg5 hv5 hF))
            all_goals go_roundw
            all_goals first
              | (case measure => simp [intOf]; omega)
              | exact HF.out
              | ((repeat apply Exists.intro); exact ⟨HF.out, rfl⟩)
          · have : i = C := by omega
            subst this
            have HOI : Hid (OwnB wr wo.heap.size (.slice a9 (32 * i) c9) (hashes 1 L i)) := Lib.hid (by rw [hashes_length] at ho; exact ho)
            have HBI := Lib.hid hb
            clear ho hb
            have KN : Hid (∀ (wz : World) (an : Option Addr) (nn cn : Nat), Below wo.heap.size wo wz → OwnB wz wo.heap.size (.slice an nn cn) (nextL 1 L i) → OwnB wz (w.heap.size + 1) u6 (treeB d n j) ∧ Rd wz wz.heap.size an (bs (nextL 1 L i)) ∧ w.heap.size + 1 ≤ wz.heap.size ∧
                (∀ v' w', OwnB w' (w.heap.size + 1) v' (treeB d n j ++ nextL 1 L i) → wz.grownBy w' u6.ownBlock → RbA w d n v' (.slice an nn cn) (.int .u8 1) w')) := Lib.hid (fun wz an nn cn hbz hoz => by
              have hot := HO.out.below hbz
              have hs1 : w.heap.size + 1 ≤ wo.heap.size := lt_of_heap HZ.out
              refine ⟨hot, hoz.rd, Nat.le_trans hs1 hbz.size, fun v' w' h1 h2 => ?_⟩
              have hnl : (nextL 1 L i).length = nn := OwnB.len hoz
              have hnn : nn = 64 * cnt n (j + 1) := by rw [← hnl, nextL_length, cnt_succ, HC.out]
              obtain ⟨a', c', e', hcc⟩ := OwnB.shape hoz
              have hcn : nn ≤ cn := by rw [hnl] at e' hcc; injection e' with _ _ e3; omega
              have hne : (Value.slice an nn cn).ownBlock = none ∨ (Value.slice an nn cn).ownBlock ≠ u6.ownBlock := by
                cases hq : (Value.slice an nn cn).ownBlock with
                | none => exact .inl rfl
                | some q =>
                  refine .inr fun e => ?_
                  have h3 := (OwnB.lt hoz q hq).1
                  have h4 := (OwnB.lt HO.out q e.symm).2
                  omega
              have hlev : lev d n (j + 1) = nextL 1 L i := by
                show nextL (kindL j) (lev d n j) (cnt n j) = _
                rw [HKK.out, HL.out, HC.out]
              refine ⟨j + 1, an, cn, hgo, by rw [hnn], by omega, rfl, ?_, ?_, ?_, ?_⟩
              · rw [treeB, hlev]; exact h1
              · rw [hlev]; exact (OwnB.grown hoz h2 hne).rd
              · exact (HB.out.trans (hbz.mono HB.out.size)).trans (below_grown h2 (by have := hbz.size; omega) (fun q hq => by have := (OwnB.lt HO.out q hq).1; omega))
              · exact (h2.block _ (by have := hbz.size; omega) (fun e => by have := (OwnB.lt HO.out _ e.symm).1; omega)).trans ((hbz.block _ (by omega)).trans HZ.out))
            have htl := treeB_length d n hd64 j
            have hsum : sumC n j ≤ 24576 := by
              have h1 := sumC_le j n hn1
              have h12 : nlev n ≤ 12 := lvs_length (n : Int)
              exact Nat.le_trans h1 (Nat.mul_le_mul hn2 (by omega : j ≤ 12))
            have hsz : wo.heap.size ≤ wr.heap.size := HBI.out.size
            have hi2 : i ≤ 2048 := by omega
            have hhl := hashes_length 1 L i
            by_cases hpar : i % 2 = 0
            · have hnx : nextL 1 L i = hashes 1 L i := by
                rw [nextL, show 64 * ((i + 1) / 2) - 32 * i = 0 by omega]
                exact List.append_nil _
              have e16 : (32 * (i : Int)) % 64 = 0 := by omega
              obtain ⟨n1, n2, n3, n4⟩ := KN.out wr a9 (32 * i) c9 HBI.out (by rw [hnx]; exact HOI.out)
              rw [hnx] at n2
              have N1 := Lib.hid n1
              have N2 := Lib.hid n2
              have N4 := Lib.hid n4
              have HNX := Lib.hid hnx
              have HTL := Lib.hid htl
              have HHL := Lib.hid hhl
              clear n1 n2 n4 hnx htl hhl KN
              go_wp2_with (refine wpList_app rfl _ _ rfl (w.heap.size + 1) _ (treeB d n j) rfl N1.out wr.heap.size a9 (32 * i) c9 (hashes 1 L i) rfl HHL.out N2.out (by rw [HTL.out]; omega) n3 ?_; intro v5 w5 ho5 hg5 hv5; have HF := Lib.hid (N4.out v5 w5 (by rw [HNX.out]; exact ho5) hg5); clear ho5 hg5 hv5)
              all_goals go_roundw
              all_goals first
                | (case measure => simp [intOf, slLen]; omega)
                | exact HF.out
                | ((repeat apply Exists.intro); exact ⟨HF.out, rfl⟩)
            · have hnx : nextL 1 L i = hashes 1 L i ++ zeros 32 := by
                rw [nextL, show 64 * ((i + 1) / 2) - 32 * i = 32 by omega]
              have e16 : (32 * (i : Int)) % 64 = 32 := by omega
              have HNX := Lib.hid hnx
              have HTL := Lib.hid htl
              have HHL := Lib.hid hhl
              have hnl : (nextL 1 L i).length = 32 * i + 32 := by rw [hnx, List.length_append, hhl, zeros_length]
              have HNL := Lib.hid hnl
              have KM : Hid (∀ v5 w5, OwnB w5 wo.heap.size v5 (hashes 1 L i ++ zeros 32) → wr.grownBy w5 (Value.slice a9 (32 * i) c9).ownBlock → ∃ a5 c5, v5 = .slice a5 (32 * i + 32) c5 ∧ (OwnB w5 (w.heap.size + 1) u6 (treeB d n j) ∧ Rd w5 w5.heap.size a5 (bs (nextL 1 L i)) ∧ w.heap.size + 1 ≤ w5.heap.size ∧
                (∀ v' w', OwnB w' (w.heap.size + 1) v' (treeB d n j ++ nextL 1 L i) → w5.grownBy w' u6.ownBlock → RbA w d n v' (.slice a5 (32 * i + 32) c5) (.int .u8 1) w'))) := Lib.hid (fun v5 w5 h1 h2 => by
                obtain ⟨a5, c5, e5, _⟩ := OwnB.shape h1
                have hll5 : (hashes 1 L i ++ zeros 32).length = 32 * i + 32 := by rw [List.length_append, HHL.out, zeros_length]
                rw [hll5] at e5
                subst e5
                refine ⟨a5, c5, rfl, KN.out w5 a5 (32 * i + 32) c5 (HBI.out.trans (below_grown h2 HBI.out.size (fun q hq => (OwnB.lt HOI.out q hq).1))) ?_⟩
                rw [HNX.out]
                exact h1)
              clear hnx htl hhl hnl KN
              go_wp2_with (first
                | (refine wpList_appz rfl _ _ rfl wo.heap.size _ (hashes 1 L i) rfl HOI.out 32 _ rfl rfl (by rw [HHL.out]; omega) hsz ?_; intro v4 w4 ho4 hg4; obtain ⟨a4, c4, rfl, n1, n2, n3, n4⟩ := KM.out v4 w4 ho4 hg4; have N1 := Lib.hid n1; have N2 := Lib.hid n2; have N4 := Lib.hid n4; clear n1 n2 n4 ho4 hg4)
                | (refine wpList_app rfl _ _ rfl (w.heap.size + 1) _ (treeB d n j) rfl N1.out w4.heap.size a4 (32 * i + 32) c4 (nextL 1 L i) rfl HNL.out N2.out (by rw [HTL.out]; omega) n3 ?_; intro v5 w5 ho5 hg5 hv5; have HF := Lib.hid (N4.out v5 w5 ho5 hg5); clear ho5 hg5 hv5))
              all_goals go_roundw
              all_goals first
                | (case measure => simp [intOf, slLen]; omega)
                | exact HF.out
                | ((repeat apply Exists.intro); exact ⟨HF.out, rfl⟩)
      · have hC1' : C = 1 := by omega
        subst hC1'
        have hjL : j = nlev n := by
          have : ¬ (j < nlev n) := fun h => by
            have := HM.out.1 h
            omega
          omega
        have HH := Lib.hid (rhash_any 1 (lev d n j) al cl wo HLL.out HRD.out)
        go_wp2_with fail
        refine HH.out.mono ?_
        rintro e w3 ⟨rfl, hb3⟩
        have hz3 : Blk w3 w.heap.size 24 (bs (List.replicate 32 0)) := (show Blk wo w.heap.size 24 (bs (List.replicate 32 0)) from HZ.out).below hb3
        obtain ⟨X, Z, hX, hinf, hone, hzz, hzs, hg4, hb5⟩ := store_digest (hashL_length 1 (lev d n j)) (by simp) hz3 (Nat.le_refl _) (HB.out.trans (hb3.mono HB.out.size))
        rw [hX]
        obtain ⟨ws, hws⟩ : ∃ ws, w3.setRow w.heap.size X = ws := ⟨_, rfl⟩
        have hso : ∀ q, q ≠ w.heap.size → ws.heap[q]? = w3.heap[q]? := fun q hq => by rw [← hws]; exact setRow_other w3 w.heap.size q _ hq
        rw [hws] at hg4 hb5
        have HX := Lib.hid hX
        have HOS : Hid (OwnB ws w.heap.size u6 (treeB d n j)) := Lib.hid (OwnB.base_mono (OwnG.keep (OwnB.below HO.out hb3) (fun q hq _ => hso q (by have := (OwnB.lt HO.out q hq).1; omega))) (by omega))
        have HB5 := Lib.hid hb5
        clear hX hb5 hso hb3 hz3 HH
        go_wp2_with (refine wpList_store_row0 rfl 24 _ _ rfl rfl w.heap.size X rfl rfl 24 Z hzz hinf hzs hone hws ?_)
        refine bodyPost_ret (results_tct rfl _ _ w.heap.size _ X (0, 0) _ rfl hg4 Tryd.underlying24 rfl hinf) rfl ?_
        exact ⟨u6, by rw [← hjL, HX.out]; rfl, by rw [← hjL]; exact HOS.out, HB5.out⟩
end Go.Proofs.YtnfchojekcoplaaDoor
