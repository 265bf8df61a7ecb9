/- the law: keys of other lengths -/
import Derived.Test.YtlfchhnkchcjcaaDoorHm3
import Derived.Test.YtlfchhnkchcjcaaDoorApz
namespace Go.Proofs.YtlfchhnkchcjcaaDoor
set_option linter.unusedVariables false
set_option linter.unusedSimpArgs false
open Go.RowKit

theorem hmac_long (key b : List UInt8) (h : 64 < key.length) : hmacL (shaL key) b = hmacL key b := by
  have e : keyOf (shaL key) = keyOf key := by
    rw [keyOf, keyOf, if_pos h, if_neg (by rw [shaL_length]; omega)]
  rw [hmacL, hmacL, padK, padK, padK, padK, e]
theorem hmac_zeros (key b : List UInt8) (m : Nat) (h : key.length + m ≤ 64) : hmacL (key ++ zeros m) b = hmacL key b := by
  have e : keyBlk (keyOf (key ++ zeros m)) = keyBlk (keyOf key) := by
    rw [keyOf, keyOf, if_neg (by rw [List.length_append, zeros_length]; omega), if_neg (by omega), keyBlk, keyBlk, List.append_assoc, List.length_append, zeros_length, zeros, List.replicate_append_replicate]
    congr 2
    omega
  rw [hmacL, hmacL, padK, padK, padK, padK, e]

set_option maxHeartbeats 2000000 in
theorem law_HmacKeys (ak : Option Addr) (nk ck : Nat) (key : List UInt8) (ab : Option Addr) (nb cb : Nat) (b : List UInt8) (p : Int) (W : World) (hkey : BytesIn W ak nk ck key) (hb : BytesIn W ab nb cb b) (hp : (Lit.int .i64 p).wf = true) (hk : KOK W) :
    Calls Tryd.prog 8 #[.slice ak nk ck, .slice ab nb cb, .int .i64 p] W fun e w' => e = .returned (.bool true) ∧ Below W.heap.size W w' := by
  have HPB := Lib.hid (bounds_i64 hp)
  have HKB := Lib.hid hkey
  have HBB := Lib.hid hb
  have HK := Lib.hid hk
  have HS := Lib.hid (hmac_any key b ak nk ck ab nb cb W hkey.len_eq hkey.le_cap (by have := hkey.small; omega) hkey.rd hb.len_eq hb.le_cap (by have := hb.small; omega) hb.rd hk)
  clear hkey hb hp hk
  go_enter Tryd.func8, Tryd.ntmps8
  go_wp2_with fail
  refine HS.out.mono ?_
  rintro e w2 ⟨rfl, hb2⟩
  obtain ⟨D, hD⟩ : ∃ D, hmacL key b = D := ⟨_, rfl⟩
  rw [hD]
  have hDl : D.length = 32 := by rw [← hD]; exact hmacL_length _ _
  obtain ⟨X, Z, hX, hinf, hone, hzz, hzs, w3, hw3, hB3, hb3, hs3⟩ := keep_digest w2 D hDl
  rw [hX]
  have hb03 := hb2.trans (hb3.mono hb2.size)
  have HX := Lib.hid hX
  have HBK := Lib.hid hB3
  have HB3 := Lib.hid hb03
  have HD := Lib.hid hD
  have HDL := Lib.hid hDl
  have HINF := Lib.hid hinf
  have heq : ∀ w : World, (Op.equalIn 10000 23 (.agg X) (.agg X)).run Tryd.prog w = .ok true w := fun w => by
    have := eq_digest D D hDl hDl hX hX w
    rw [beq_self_eq_true] at this
    exact this
  clear hX hb2 hB3 hb3 hs3 hb03 hD hDl HS
  by_cases hlong : 64 < nk
  · have hI : (64 : Int) < (nk : Int) := by omega
    have HT := Lib.hid (sum_any key ak nk ck w3 HKB.out.len_eq HKB.out.le_cap (by have := HKB.out.small; omega) ((HKB.out.rd.below HB3.out).more HB3.out.size) (HK.out.below HB3.out))
    go_wp2_with (first
      | refine wpList_store_row0 rfl 23 _ _ rfl rfl w2.heap.size X rfl rfl 23 Z hzz hinf hzs hone hw3 ?_)
    refine HT.out.mono ?_
    rintro e w4 ⟨rfl, hb4⟩
    obtain ⟨X5, Z5, hX5, hinf5, hone5, hzz5, hzs5, w5, hw5, hB5, hb5, hs5⟩ := keep_digest w4 (shaL key) (shaL_length _)
    rw [hX5]
    have hb35 := hb4.trans (hb5.mono hb4.size)
    have hb05 := HB3.out.trans (hb35.mono HB3.out.size)
    have HB5 := Lib.hid hb05
    have HD5 := Lib.hid hB5
    have HBK5 := Lib.hid (HBK.out.below hb35)
    clear hX5 hb4 hB5 hb5 hs5 hb35 hb05 hzz hinf hzs hone hw3 HT
    go_upto_region 4 with (first
      | refine wpList_store_row0 rfl 23 _ _ rfl rfl w4.heap.size X5 rfl rfl 23 Z5 hzz5 hinf5 hzs5 hone5 hw5 ?_)
    clear hzz5 hinf5 hzs5 hone5 hw5
    have CA : Hid (∀ wx, Below w5.heap.size w5 wx → Calls Tryd.prog 20 #[] wx fun e w' => e = .returned (.bool true) ∧ Below w5.heap.size w5 w') := Lib.hid (fun wx hx => by
      refine (hmalive_any wx ((HK.out.below HB5.out).below hx)).mono ?_
      rintro e w' ⟨rfl, hb⟩
      exact ⟨rfl, hx.trans (hb.mono hx.size)⟩)
    have C3 : Hid (∀ wx, Below w5.heap.size w5 wx → wx.heap[w2.heap.size]? = some (.cells X 23 (0, 0))) := Lib.hid (fun wx hx => by rw [← HX.out]; exact HBK5.out.below hx)
    have CH : Hid (∀ wx, Below w5.heap.size w5 wx → Calls Tryd.prog 19 #[.slice (some ⟨w4.heap.size, 0, none⟩) 32 32, .slice ab nb cb] wx fun e w' => e = .returned (.agg X) ∧ Below w5.heap.size w5 w') := Lib.hid (fun wx hx => by
      have hb := HB5.out.trans (hx.mono HB5.out.size)
      refine (hmac_any (shaL key) b (some ⟨w4.heap.size, 0, none⟩) 32 32 ab nb cb wx (shaL_length _) (Nat.le_refl _) (by omega) (HD5.out.below hx).rd HBB.out.len_eq HBB.out.le_cap (by have := HBB.out.small; omega) ((HBB.out.rd.below hb).more hb.size) (HK.out.below hb)).mono ?_
      rintro e w' ⟨rfl, hb2⟩
      exact ⟨by rw [hmac_long key b (by rw [HKB.out.len_eq]; exact hlong), HD.out, HX.out], hx.trans (hb2.mono hx.size)⟩)
    have hr0 : Below w5.heap.size w5 w5.drew := (Below.refl _ _).drew
    go_cut [6] (fun v wn => v = .bool true ∧ Below w5.heap.size w5 wn)
    case first =>
      -- REGION 4 BEGIN
      refine wp_region_any (by kernel_rfl) ?_
      change wpAny _ _ _ _ _ _ _ (World.drew _)
      refine wpAny_ready (rs := [0]) (by kernel_rfl) (by simp) ?_
      refine AllReady.cons rfl (fun K hK => ?_) ?_
      · go_simp
        refine (CA.out _ hr0).mono ?_
        rintro e wa ⟨rfl, hra⟩
        refine hK _ _ ?_
        clear hK K
        try simp only [List.getElem_toArray, List.getElem_cons_succ, List.getElem_cons_zero, Act.put, List.setIfInBounds_toArray, List.set_cons_zero, List.set_cons_succ]
        refine wpAny_take (i := 1) (v := .bool true) rfl (by kernel_rfl) (by kernel_rfl) (by kernel_rfl) (fun _ _ _ h => h) (Or.inl ⟨by rfl, fun w => by go_simp⟩) ?_
        simp only [List.getElem_toArray, List.getElem_cons_succ, List.getElem_cons_zero, Act.put, List.setIfInBounds_toArray, List.set_cons_zero, List.set_cons_succ]
        refine wpAny_take (i := 3) (v := .slice (some ⟨w4.heap.size, 0, none⟩) 32 32) rfl (by kernel_rfl) (by kernel_rfl) (by kernel_rfl) (fun _ _ _ h => h) (Or.inl ⟨by rfl, fun w => by go_simp⟩) ?_
        simp only [List.getElem_toArray, List.getElem_cons_succ, List.getElem_cons_zero, Act.put, List.setIfInBounds_toArray, List.set_cons_zero, List.set_cons_succ]
        refine wpAny_take (i := 4) (v := .slice ab nb cb) rfl (by kernel_rfl) (by kernel_rfl) (by kernel_rfl) (fun _ _ _ h => h) (Or.inl ⟨by rfl, fun w => by go_simp⟩) ?_
        simp only [List.getElem_toArray, List.getElem_cons_succ, List.getElem_cons_zero, Act.put, List.setIfInBounds_toArray, List.set_cons_zero, List.set_cons_succ]
        refine wpAny_ready (rs := [2, 5]) (by kernel_rfl) (by simp) ?_
        refine AllReady.cons rfl (fun K hK => ?_) ?_
        · refine step_load_row (by rfl) 23 (.tmp 7) rfl w2.heap.size rfl 23 X (0, 0) _ (C3.out _ hra) Tryd.underlying23 rfl HINF.out ?_
          refine hK _ _ ?_
          clear hK K
          try simp only [List.getElem_toArray, List.getElem_cons_succ, List.getElem_cons_zero, Act.put, List.setIfInBounds_toArray, List.set_cons_zero, List.set_cons_succ]
          refine wpAny_ready (rs := [5]) (by kernel_rfl) (by simp) ?_
          refine AllReady.cons rfl (fun K hK => ?_) ?_
          · go_simp
            refine (CH.out _ hra).mono ?_
            rintro e wb1 ⟨rfl, hrb1⟩
            refine hK _ _ ?_
            clear hK K
            try simp only [List.getElem_toArray, List.getElem_cons_succ, List.getElem_cons_zero, Act.put, List.setIfInBounds_toArray, List.set_cons_zero, List.set_cons_succ]
            refine wpAny_ready (rs := [6]) (by kernel_rfl) (by simp) ?_
            refine AllReady.cons rfl (fun K hK => ?_) ?_
            · go_simp
              refine hK _ _ ?_
              clear hK K
              try simp only [List.getElem_toArray, List.getElem_cons_succ, List.getElem_cons_zero, Act.put, List.setIfInBounds_toArray, List.set_cons_zero, List.set_cons_succ]
              refine wpAny_ready (rs := [7]) (by kernel_rfl) (by simp) ?_
              refine AllReady.cons rfl (fun K hK => ?_) ?_
              · go_simp
                refine hK _ _ ?_
                clear hK K
                try simp only [List.getElem_toArray, List.getElem_cons_succ, List.getElem_cons_zero, Act.put, List.setIfInBounds_toArray, List.set_cons_zero, List.set_cons_succ]
                refine wpAny_ready (rs := [8]) (by kernel_rfl) (by simp) ?_
                refine AllReady.cons rfl (fun K hK => ?_) ?_
                · go_simp
                  refine hK _ _ ?_
                  clear hK K
                  try simp only [List.getElem_toArray, List.getElem_cons_succ, List.getElem_cons_zero, Act.put, List.setIfInBounds_toArray, List.set_cons_zero, List.set_cons_succ]
                  refine wpAny_done (by kernel_rfl) ?_ _
                  go_wp2_with fail
                  go_meet
                  exact ⟨rfl, hrb1⟩
                exact AllReady.nil
              exact AllReady.nil
            exact AllReady.nil
          exact AllReady.nil
        refine AllReady.cons rfl (fun K hK => ?_) ?_
        · go_simp
          refine (CH.out _ hra).mono ?_
          rintro e wb2 ⟨rfl, hrb2⟩
          refine hK _ _ ?_
          clear hK K
          try simp only [List.getElem_toArray, List.getElem_cons_succ, List.getElem_cons_zero, Act.put, List.setIfInBounds_toArray, List.set_cons_zero, List.set_cons_succ]
          refine wpAny_ready (rs := [2]) (by kernel_rfl) (by simp) ?_
          refine AllReady.cons rfl (fun K hK => ?_) ?_
          · refine step_load_row (by rfl) 23 (.tmp 7) rfl w2.heap.size rfl 23 X (0, 0) _ (C3.out _ hrb2) Tryd.underlying23 rfl HINF.out ?_
            refine hK _ _ ?_
            clear hK K
            try simp only [List.getElem_toArray, List.getElem_cons_succ, List.getElem_cons_zero, Act.put, List.setIfInBounds_toArray, List.set_cons_zero, List.set_cons_succ]
            refine wpAny_ready (rs := [6]) (by kernel_rfl) (by simp) ?_
            refine AllReady.cons rfl (fun K hK => ?_) ?_
            · go_simp
              refine hK _ _ ?_
              clear hK K
              try simp only [List.getElem_toArray, List.getElem_cons_succ, List.getElem_cons_zero, Act.put, List.setIfInBounds_toArray, List.set_cons_zero, List.set_cons_succ]
              refine wpAny_ready (rs := [7]) (by kernel_rfl) (by simp) ?_
              refine AllReady.cons rfl (fun K hK => ?_) ?_
              · go_simp
                refine hK _ _ ?_
                clear hK K
                try simp only [List.getElem_toArray, List.getElem_cons_succ, List.getElem_cons_zero, Act.put, List.setIfInBounds_toArray, List.set_cons_zero, List.set_cons_succ]
                refine wpAny_ready (rs := [8]) (by kernel_rfl) (by simp) ?_
                refine AllReady.cons rfl (fun K hK => ?_) ?_
                · go_simp
                  refine hK _ _ ?_
                  clear hK K
                  try simp only [List.getElem_toArray, List.getElem_cons_succ, List.getElem_cons_zero, Act.put, List.setIfInBounds_toArray, List.set_cons_zero, List.set_cons_succ]
                  refine wpAny_done (by kernel_rfl) ?_ _
                  go_wp2_with fail
                  go_meet
                  exact ⟨rfl, hrb2⟩
                exact AllReady.nil
              exact AllReady.nil
            exact AllReady.nil
          exact AllReady.nil
        exact AllReady.nil
      exact AllReady.nil
      -- REGION 4 END
    case rest =>
      obtain ⟨rfl, hb6⟩ := hcut
      go_wp2_with fail
      go_ret
      exact ⟨rfl, HB5.out.trans (hb6.mono HB5.out.size)⟩
  · have hI : ¬ ((64 : Int) < (nk : Int)) := by omega
    go_upto_if 27 with (first
      | refine wpList_store_row0 rfl 23 _ _ rfl rfl w2.heap.size X rfl rfl 23 Z hzz hinf hzs hone hw3 ?_)
    clear hzz hinf hzs hone hw3
    go_cut [2] (fun v wn => (∃ m : Nat, v = .int .i64 m ∧ m < 9223372036854775808) ∧ wn = w3)
    case first =>
      have hpb := HPB.out
      by_cases hneg : p < 0
      · have hw1 : wrap64 (p + 1) = p + 1 := IntWalk.wrap64_in _ (by omega)
        have hw2 : wrap64 (-(p + 1)) = -(p + 1) := IntWalk.wrap64_in _ (by omega)
        obtain ⟨m, hm⟩ : ∃ m : Nat, -(p + 1) = (m : Int) := ⟨(-(p + 1)).toNat, by omega⟩
        have hml : m < 9223372036854775808 := by omega
        have HM := Lib.hid hm
        clear hpb hm
        go_wp2_with fail
        go_meet
        exact ⟨⟨m, by rw [hw2, HM.out], hml⟩, rfl⟩
      · obtain ⟨m, rfl⟩ : ∃ m : Nat, p = (m : Int) := ⟨p.toNat, by omega⟩
        have hml : m < 9223372036854775808 := by omega
        clear hpb
        go_wp2_with fail
        go_meet
        exact ⟨⟨m, rfl, hml⟩, rfl⟩
    case rest =>
      obtain ⟨⟨m, rfl, hml⟩, rfl⟩ := hcut
      rename World => w3
      have hnk : nk ≤ 64 := by omega
      obtain ⟨u, hu⟩ : ∃ u, 65 - nk = u := ⟨_, rfl⟩
      obtain ⟨r, hr⟩ : ∃ r, m % u = r := ⟨_, rfl⟩
      have hu0 : ¬ u = 0 := by omega
      have hrl : nk + r ≤ 64 := by
        have := Nat.mod_lt m (show 0 < u by omega)
        omega
      have hwz : IntKind.i64.wrap ((65 : Int) - (nk : Int)) = (u : Int) := by rw [IntKind.wrap_i64]; omega
      have htm : ((m : Int)).tmod (u : Int) = (r : Int) := by rw [← hr]; rfl
      have L1 : OwnB (w3.alloc (Obj.cells #[] 5)).drew w3.heap.size (.slice (some ⟨w3.heap.size, 0, none⟩) 0 0) [] := OwnG.drew (OwnB.lit0 w3)
      have R1 : Rd (w3.alloc (Obj.cells #[] 5)).drew W.heap.size ak (bs key) := ((HKB.out.rd.below HB3.out).alloc HB3.out.size _).drew
      have N1 : w3.heap.size ≤ (w3.alloc (Obj.cells #[] 5)).drew.heap.size := by have : (w3.alloc (Obj.cells #[] 5)).drew.heap.size = w3.heap.size + 1 := World.size_alloc _ _; omega
      have B1 : Below w3.heap.size w3 (w3.alloc (Obj.cells #[] 5)).drew := ((Below.refl _ _).alloc (Nat.le_refl _) _).drew
      have S1 : ([] : List UInt8).length + nk ≤ 140737488355328 := by simp; omega
      have S2 : (([] : List UInt8) ++ key).length + r ≤ 140737488355328 := by rw [List.nil_append, HKB.out.len_eq]; omega
      have HRL := Lib.hid hrl
      clear hr hu hrl
      go_upto_region 7 with (fail)
      go_cut [9] (fun v wn => OwnB wn w3.heap.size v (key ++ zeros r) ∧ Below w3.heap.size w3 wn)
      case first =>
        go_region_law (first
          | (refine step_app (by rfl) (.tmp 31) (.tmp 32) (by rfl) w3.heap.size _ [] (by rfl) L1 W.heap.size ak nk ck key (by rfl) HKB.out.len_eq R1 S1 N1 ?_; intro v1 wa hown1 hgr1 hat1; have hb1 := below_app B1 L1 (Nat.le_refl _) hgr1)
          | (refine step_appz (by rfl) (.tmp 33) (.tmp 38) (by rfl) w3.heap.size _ (([] : List UInt8) ++ key) (by rfl) hown1 r (r : Int) (by rfl) rfl S2 hb1.size ?_; intro v2 wb hown2 hgr2 hat2; have hb2 := below_app hb1 hown1 (Nat.le_refl _) hgr2))
        all_goals go_wp2_with fail
        all_goals go_meet
        all_goals exact ⟨hown2, hb2⟩
      case rest =>
        obtain ⟨hown2, hb2⟩ := hcut
        rename World => w5
        obtain ⟨a9, c9, rfl, hc9⟩ := OwnG.shape hown2
        obtain ⟨n9, hn9⟩ : ∃ n9, (key ++ zeros r).length = n9 := ⟨_, rfl⟩
        rw [hn9] at hown2 hc9 ⊢
        have HB5 := Lib.hid (HB3.out.trans (hb2.mono HB3.out.size))
        have HBK5 := Lib.hid (HBK.out.below hb2)
        have CA : Hid (∀ wx, Below w5.heap.size w5 wx → Calls Tryd.prog 20 #[] wx fun e w' => e = .returned (.bool true) ∧ Below w5.heap.size w5 w') := Lib.hid (fun wx hx => by
          refine (hmalive_any wx ((HK.out.below HB5.out).below hx)).mono ?_
          rintro e w' ⟨rfl, hb⟩
          exact ⟨rfl, hx.trans (hb.mono hx.size)⟩)
        have C3 : Hid (∀ wx, Below w5.heap.size w5 wx → wx.heap[w2.heap.size]? = some (.cells X 23 (0, 0))) := Lib.hid (fun wx hx => by rw [← HX.out]; exact HBK5.out.below hx)
        have hcap := (OwnB.cap hown2).2.1
        have CH : Hid (∀ wx, Below w5.heap.size w5 wx → Calls Tryd.prog 19 #[.slice a9 n9 c9, .slice ab nb cb] wx fun e w' => e = .returned (.agg X) ∧ Below w5.heap.size w5 w') := Lib.hid (fun wx hx => by
          have hb := HB5.out.trans (hx.mono HB5.out.size)
          refine (hmac_any (key ++ zeros r) b a9 n9 c9 ab nb cb wx hn9 hc9 (by unfold maxLen at hcap; omega) (OwnB.rd (OwnG.below hown2 hx : OwnB wx w3.heap.size (.slice a9 n9 c9) (key ++ zeros r))) HBB.out.len_eq HBB.out.le_cap (by have := HBB.out.small; omega) ((HBB.out.rd.below hb).more hb.size) (HK.out.below hb)).mono ?_
          rintro e w' ⟨rfl, hb2⟩
          exact ⟨by rw [hmac_zeros key b r (by rw [HKB.out.len_eq]; exact HRL.out), HD.out, HX.out], hx.trans (hb2.mono hx.size)⟩)
        have hr0 : Below w5.heap.size w5 w5.drew := (Below.refl _ _).drew
        clear hown2 hc9 hb2 hn9 hcap L1 R1 N1 B1 S1 S2 hwz htm
        go_upto_region 8 with (fail)
        go_cut [6] (fun v wn => v = .bool true ∧ Below w5.heap.size w5 wn)
        case first =>
          -- REGION 8 BEGIN
          refine wp_region_any (by kernel_rfl) ?_
          change wpAny _ _ _ _ _ _ _ (World.drew _)
          refine wpAny_ready (rs := [0]) (by kernel_rfl) (by simp) ?_
          refine AllReady.cons rfl (fun K hK => ?_) ?_
          · go_simp
            refine (CA.out _ hr0).mono ?_
            rintro e wa ⟨rfl, hra⟩
            refine hK _ _ ?_
            clear hK K
            try simp only [List.getElem_toArray, List.getElem_cons_succ, List.getElem_cons_zero, Act.put, List.setIfInBounds_toArray, List.set_cons_zero, List.set_cons_succ]
            refine wpAny_take (i := 1) (v := .bool true) rfl (by kernel_rfl) (by kernel_rfl) (by kernel_rfl) (fun _ _ _ h => h) (Or.inl ⟨by rfl, fun w => by go_simp⟩) ?_
            simp only [List.getElem_toArray, List.getElem_cons_succ, List.getElem_cons_zero, Act.put, List.setIfInBounds_toArray, List.set_cons_zero, List.set_cons_succ]
            refine wpAny_take (i := 3) (v := .slice a9 n9 c9) rfl (by kernel_rfl) (by kernel_rfl) (by kernel_rfl) (fun _ _ _ h => h) (Or.inl ⟨by rfl, fun w => by go_simp⟩) ?_
            simp only [List.getElem_toArray, List.getElem_cons_succ, List.getElem_cons_zero, Act.put, List.setIfInBounds_toArray, List.set_cons_zero, List.set_cons_succ]
            refine wpAny_take (i := 4) (v := .slice ab nb cb) rfl (by kernel_rfl) (by kernel_rfl) (by kernel_rfl) (fun _ _ _ h => h) (Or.inl ⟨by rfl, fun w => by go_simp⟩) ?_
            simp only [List.getElem_toArray, List.getElem_cons_succ, List.getElem_cons_zero, Act.put, List.setIfInBounds_toArray, List.set_cons_zero, List.set_cons_succ]
            refine wpAny_ready (rs := [2, 5]) (by kernel_rfl) (by simp) ?_
            refine AllReady.cons rfl (fun K hK => ?_) ?_
            · refine step_load_row (by rfl) 23 (.tmp 7) rfl w2.heap.size rfl 23 X (0, 0) _ (C3.out _ hra) Tryd.underlying23 rfl HINF.out ?_
              refine hK _ _ ?_
              clear hK K
              try simp only [List.getElem_toArray, List.getElem_cons_succ, List.getElem_cons_zero, Act.put, List.setIfInBounds_toArray, List.set_cons_zero, List.set_cons_succ]
              refine wpAny_ready (rs := [5]) (by kernel_rfl) (by simp) ?_
              refine AllReady.cons rfl (fun K hK => ?_) ?_
              · go_simp
                refine (CH.out _ hra).mono ?_
                rintro e wb1 ⟨rfl, hrb1⟩
                refine hK _ _ ?_
                clear hK K
                try simp only [List.getElem_toArray, List.getElem_cons_succ, List.getElem_cons_zero, Act.put, List.setIfInBounds_toArray, List.set_cons_zero, List.set_cons_succ]
                refine wpAny_ready (rs := [6]) (by kernel_rfl) (by simp) ?_
                refine AllReady.cons rfl (fun K hK => ?_) ?_
                · go_simp
                  refine hK _ _ ?_
                  clear hK K
                  try simp only [List.getElem_toArray, List.getElem_cons_succ, List.getElem_cons_zero, Act.put, List.setIfInBounds_toArray, List.set_cons_zero, List.set_cons_succ]
                  refine wpAny_ready (rs := [7]) (by kernel_rfl) (by simp) ?_
                  refine AllReady.cons rfl (fun K hK => ?_) ?_
                  · go_simp
                    refine hK _ _ ?_
                    clear hK K
                    try simp only [List.getElem_toArray, List.getElem_cons_succ, List.getElem_cons_zero, Act.put, List.setIfInBounds_toArray, List.set_cons_zero, List.set_cons_succ]
                    refine wpAny_ready (rs := [8]) (by kernel_rfl) (by simp) ?_
                    refine AllReady.cons rfl (fun K hK => ?_) ?_
                    · go_simp
                      refine hK _ _ ?_
                      clear hK K
                      try simp only [List.getElem_toArray, List.getElem_cons_succ, List.getElem_cons_zero, Act.put, List.setIfInBounds_toArray, List.set_cons_zero, List.set_cons_succ]
                      refine wpAny_done (by kernel_rfl) ?_ _
                      go_wp2_with fail
                      go_meet
                      exact ⟨rfl, hrb1⟩
                    exact AllReady.nil
                  exact AllReady.nil
                exact AllReady.nil
              exact AllReady.nil
            refine AllReady.cons rfl (fun K hK => ?_) ?_
            · go_simp
              refine (CH.out _ hra).mono ?_
              rintro e wb2 ⟨rfl, hrb2⟩
              refine hK _ _ ?_
              clear hK K
              try simp only [List.getElem_toArray, List.getElem_cons_succ, List.getElem_cons_zero, Act.put, List.setIfInBounds_toArray, List.set_cons_zero, List.set_cons_succ]
              refine wpAny_ready (rs := [2]) (by kernel_rfl) (by simp) ?_
              refine AllReady.cons rfl (fun K hK => ?_) ?_
              · refine step_load_row (by rfl) 23 (.tmp 7) rfl w2.heap.size rfl 23 X (0, 0) _ (C3.out _ hrb2) Tryd.underlying23 rfl HINF.out ?_
                refine hK _ _ ?_
                clear hK K
                try simp only [List.getElem_toArray, List.getElem_cons_succ, List.getElem_cons_zero, Act.put, List.setIfInBounds_toArray, List.set_cons_zero, List.set_cons_succ]
                refine wpAny_ready (rs := [6]) (by kernel_rfl) (by simp) ?_
                refine AllReady.cons rfl (fun K hK => ?_) ?_
                · go_simp
                  refine hK _ _ ?_
                  clear hK K
                  try simp only [List.getElem_toArray, List.getElem_cons_succ, List.getElem_cons_zero, Act.put, List.setIfInBounds_toArray, List.set_cons_zero, List.set_cons_succ]
                  refine wpAny_ready (rs := [7]) (by kernel_rfl) (by simp) ?_
                  refine AllReady.cons rfl (fun K hK => ?_) ?_
                  · go_simp
                    refine hK _ _ ?_
                    clear hK K
                    try simp only [List.getElem_toArray, List.getElem_cons_succ, List.getElem_cons_zero, Act.put, List.setIfInBounds_toArray, List.set_cons_zero, List.set_cons_succ]
                    refine wpAny_ready (rs := [8]) (by kernel_rfl) (by simp) ?_
                    refine AllReady.cons rfl (fun K hK => ?_) ?_
                    · go_simp
                      refine hK _ _ ?_
                      clear hK K
                      try simp only [List.getElem_toArray, List.getElem_cons_succ, List.getElem_cons_zero, Act.put, List.setIfInBounds_toArray, List.set_cons_zero, List.set_cons_succ]
                      refine wpAny_done (by kernel_rfl) ?_ _
                      go_wp2_with fail
                      go_meet
                      exact ⟨rfl, hrb2⟩
                    exact AllReady.nil
                  exact AllReady.nil
                exact AllReady.nil
              exact AllReady.nil
            exact AllReady.nil
          exact AllReady.nil
          -- REGION 8 END
        case rest =>
          obtain ⟨rfl, hb6⟩ := hcut
          go_wp2_with fail
          go_ret
          exact ⟨rfl, HB5.out.trans (hb6.mono HB5.out.size)⟩
end Go.Proofs.YtlfchhnkchcjcaaDoor
