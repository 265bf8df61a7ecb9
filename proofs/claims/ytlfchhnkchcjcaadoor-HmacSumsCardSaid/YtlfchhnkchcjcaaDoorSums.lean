/- the law of sums -/
import Derived.Test.YtlfchhnkchcjcaaDoorRf5
import Derived.Test.YtlfchhnkchcjcaaDoorSame
namespace Go.Proofs.YtlfchhnkchcjcaaDoor
set_option linter.unusedVariables false
set_option linter.unusedSimpArgs false
open Go.RowKit

/-- own := append(append([]byte{}, b...), 77)[:len(b)] -/
theorem own77 {data : List UInt8} {w : World} {base : Nat} {v : Value} (h : OwnB w base v (data ++ [77])) :
    ∃ g off cap, v = .slice (some ⟨g, off, none⟩) (data.length + 1) cap ∧ data.length + 1 ≤ cap ∧ base ≤ g ∧ g < w.heap.size ∧ cap ≤ 9223372036854775807 ∧ Rd w w.heap.size (some ⟨g, off, none⟩) (bs data) ∧ w.cell? ⟨g, off + data.length, none⟩ = some (.int .u8 77) := by
  have hcm : ∀ a n c, v = .slice a n c → c ≤ 9223372036854775807 := fun a n c e => by
    subst e
    rcases h.2 with ⟨h', _⟩ | ⟨_, _, _, _, _, _, hv, _, _, _, _, _, hm, _⟩
    · injection h' with _ _ e3; omega
    · injection hv with _ _ e; unfold maxLen at hm; omega
  obtain ⟨g, off, cap, hv, h1, h2, h3, h4⟩ := h.form (by simp)
  have hl : (data ++ [77]).length = data.length + 1 := by simp
  rw [hl] at hv h3
  have hrd := (hv ▸ h : OwnB w base (.slice (some ⟨g, off, none⟩) (data.length + 1) cap) (data ++ [77])).rd
  refine ⟨g, off, cap, hv, h3, h1, h2, hcm _ _ _ hv, ?_, ?_⟩
  · have := hrd.take data.length
    rw [← bs_take, List.take_left] at this
    exact this
  · have := h4 data.length (by simp)
    simpa using this

set_option maxHeartbeats 4000000 in
theorem law_ShaSums (a : Option Addr) (n c : Nat) (l : List UInt8) (W : World) (h : BytesIn W a n c l) (hk : KOK W) :
    Calls Tryd.prog 3 #[.slice a n c] W fun e w' => e = .returned (.bool true) ∧ Below W.heap.size W w' := by
  have HL : Hid (l.length = n) := Lib.hid h.len_eq
  have HR := Lib.hid h.rd
  have HK := Lib.hid hk
  have hn : n ≤ 140737488351232 := Nat.le_trans h.le_cap h.small
  have HRW : Hid (Rd (W.alloc (.cells #[] 5)) W.heap.size a (bs l)) := Lib.hid (h.rd.alloc (Nat.le_refl _) _)
  have S1 : Hid (([] : List UInt8).length + n ≤ 140737488355328) := Lib.hid (by simp; omega)
  have S2 : Hid (W.heap.size ≤ (W.alloc (.cells #[] 5)).heap.size) := Lib.hid (by rw [World.size_alloc]; omega)
  clear h hk
  go_enter Tryd.func3, Tryd.ntmps3
  go_wp2_with (at_builtin; refine wpList_app rfl _ _ rfl W.heap.size _ [] rfl (OwnB.lit0 W) W.heap.size a n c l rfl HL.out HRW.out S1.out S2.out ?_)
  intro v1 w1 hown1 hgr1 hat1
  have hb1 := below_app ((Below.refl W.heap.size W).alloc (Nat.le_refl _) (.cells #[] 5)) (OwnB.lit0 W) (Nat.le_refl _) hgr1
  have hown1' : OwnB w1 W.heap.size v1 l := hown1
  have HO1 : Hid (OwnB (w1.alloc (Obj.cells #[Value.int .u8 77] 5)) W.heap.size v1 l) := Lib.hid (OwnG.alloc hown1' _)
  have HB1 : Hid (Below W.heap.size W (w1.alloc (Obj.cells #[Value.int .u8 77] 5))) := Lib.hid (hb1.alloc hb1.size _)
  have R3 : Hid (Rd (w1.alloc (Obj.cells #[Value.int .u8 77] 5)) (w1.heap.size + 1) (some ⟨w1.heap.size, 0, none⟩) (bs [77])) := Lib.hid (Rd.new w1 (bs [77]) 5)
  have S3 : Hid (l.length + 1 ≤ 140737488355328) := Lib.hid (by have := HL.out; omega)
  clear hown1 hown1' hgr1 hat1 hb1
  go_wp2_with (at_builtin; refine wpList_app rfl _ _ rfl W.heap.size _ l rfl HO1.out (w1.heap.size + 1) (some ⟨w1.heap.size, 0, none⟩) 1 1 [77] rfl rfl R3.out S3.out HB1.out.size ?_)
  intro v2 w2 hown2 hgr2 hat2
  have hb2 := below_app HB1.out HO1.out (Nat.le_refl _) hgr2
  obtain ⟨g, off, cap, rfl, hcap, hg1, hg2, hcap2, hrd2, h77⟩ := own77 hown2
  rw [HL.out] at hcap h77 ⊢
  have HB2 := Lib.hid hb2
  have HRD2 := Lib.hid hrd2
  have H77 := Lib.hid h77
  have HG := Lib.hid hg2
  have hc0 : n ≤ cap := by omega
  have HS := Lib.hid (sum_any l (some ⟨g, off, none⟩) n cap w2 HL.out hc0 hcap2 hrd2 (HK.out.below hb2))
  clear hown2 hgr2 hat2 hb2 hrd2 h77 HO1 HB1 R3 S3 hg1 hg2
  go_wp2_with fail
  refine HS.out.mono ?_
  rintro e w3 ⟨rfl, hb3⟩
  obtain ⟨D, hD⟩ : ∃ D, shaL l = D := ⟨_, rfl⟩
  rw [hD]
  have hDl : D.length = 32 := by rw [← hD]; exact shaL_length _
  obtain ⟨X, Z, hX, hinf, hone, hzz, hzs, w4, hw4, hB4, hb4, hs4⟩ := keep_digest w3 D hDl
  rw [hX]
  have hb24 := hb3.trans (hb4.mono hb3.size)
  have hb04 := HB2.out.trans (hb24.mono HB2.out.size)
  have heq : ∀ w : World, (Op.equalIn 10000 23 (.agg X) (.agg X)).run Tryd.prog w = .ok true w := fun w => by
    have := eq_digest D D hDl hDl hX hX w
    rw [beq_self_eq_true] at this
    exact this
  have HM := Lib.hid (same_any (some ⟨g, off, none⟩) a n n cap c l l w4 HL.out HL.out (HRD2.out.below hb24) (HR.out.below hb04))
  have HX := Lib.hid hX
  have HBK := Lib.hid hB4
  have HB4 := Lib.hid hb04
  have HD := Lib.hid hD
  have HINF := Lib.hid hinf
  have C7 : Hid (∀ wx, Below w4.heap.size w4 wx → wx.cell? ⟨g, off + n, none⟩ = some (.int .u8 77)) := Lib.hid (fun wx hx => (hx.cell (p := ⟨g, off + n, none⟩) (by have := hb24.size; have := HG.out; show g < w4.heap.size; omega)).trans ((hb24.cell (p := ⟨g, off + n, none⟩) HG.out).trans H77.out))
  have CA : Hid (∀ wx, Below w4.heap.size w4 wx → Calls Tryd.prog 14 #[] wx fun e w' => e = .returned (.bool true) ∧ Below w4.heap.size w4 w') := Lib.hid (fun wx hx => by
    refine (shalive_any wx ((HK.out.below HB4.out).below hx)).mono ?_
    rintro e w' ⟨rfl, hb⟩
    exact ⟨rfl, hx.trans (hb.mono hx.size)⟩)
  have CR : Hid (∀ wx, Below w4.heap.size w4 wx → Calls Tryd.prog 15 #[.slice a n c] wx fun e w' => e = .returned (.agg X) ∧ Below w4.heap.size w4 w') := Lib.hid (fun wx hx => by
    have hb := HB4.out.trans (hx.mono HB4.out.size)
    refine (rsum_any l a n c wx HL.out (by omega) ((HR.out.below hb).more hb.size)).mono ?_
    rintro e w' ⟨rfl, hb2⟩
    exact ⟨by rw [HD.out, HX.out], hx.trans (hb2.mono hx.size)⟩)
  have C3 : Hid (∀ wx, Below w4.heap.size w4 wx → wx.heap[w3.heap.size]? = some (.cells X 23 (0, 0))) := Lib.hid (fun wx hx => by rw [← HX.out]; exact HBK.out.below hx)
  clear hX hb3 hB4 hb4 hs4 hb24 hb04 hD hDl HS
  go_wp2_with (refine wpList_store_row0 rfl 23 _ _ rfl rfl w3.heap.size X rfl rfl 23 Z hzz hinf hzs hone hw4 ?_)
  refine HM.out.mono ?_
  rintro e w5 ⟨rfl, rfl⟩
  obtain ⟨gd, hgd⟩ : ∃ gd, w3.heap.size = gd := ⟨_, rfl⟩
  rw [beq_self_eq_true, hgd]
  rw [hgd] at C3
  have hr0 : Below w4.heap.size w4 w4.drew := (Below.refl _ _).drew
  have nI : (n : Int) + 1 ≤ (cap : Int) := by omega
  have n0 : (0 : Int) ≤ (n : Int) := Int.natCast_nonneg n
  have n1 : (0 : Int) ≤ (n : Int) + 1 := by omega
  have n2 : (n : Int) < (n : Int) + 1 := by omega
  have nw : IntKind.i64.wrap ((n : Int) + 1) = (n : Int) + 1 := IntWalk.i64_in _ (by omega)
  have nt : ((n : Int) + 1).toNat = n + 1 := by omega
  clear hzz hinf hzs hone hw4 hgd HM
  go_upto_region 4 with (fail)
  go_cut [2] (fun v wn => v = .bool true ∧ Below w4.heap.size w4 wn)
  case first =>
    refine wp_region_any (by kernel_rfl) ?_
    change wpAny _ _ _ _ _ _ _ (World.drew _)
    refine wpAny_ready (rs := [0]) (by kernel_rfl) (by simp) ?_
    refine AllReady.cons rfl (fun K hK => ?_) ?_
    rotate_left
    · exact AllReady.nil
    go_simp
    refine (CA.out _ hr0).mono ?_
    rintro e wa ⟨rfl, hra⟩
    refine hK _ _ ?_
    clear hK K
    try simp only [List.getElem_toArray, List.getElem_cons_succ, List.getElem_cons_zero, Act.put, List.setIfInBounds_toArray, List.set_cons_zero, List.set_cons_succ]
    refine wpAny_take (i := 1) (v := .bool true) rfl (by kernel_rfl) (by kernel_rfl) (by kernel_rfl) (fun _ _ _ h => h) (Or.inl ⟨by rfl, fun w => by go_simp⟩) ?_
    simp only [List.getElem_toArray, List.getElem_cons_succ, List.getElem_cons_zero, Act.put, List.setIfInBounds_toArray, List.set_cons_zero, List.set_cons_succ]
    refine wpAny_take (i := 3) (v := .slice a n c) rfl (by kernel_rfl) (by kernel_rfl) (by kernel_rfl) (fun _ _ _ h => h) (Or.inl ⟨by rfl, fun w => by go_simp⟩) ?_
    simp only [List.getElem_toArray, List.getElem_cons_succ, List.getElem_cons_zero, Act.put, List.setIfInBounds_toArray, List.set_cons_zero, List.set_cons_succ]
    refine wpAny_ready (rs := [2, 4]) (by kernel_rfl) (by simp) ?_
    refine AllReady.cons rfl (fun K hK => ?_) ?_
    · refine step_load_row (by rfl) 23 (.tmp 4) rfl gd rfl 23 X (0, 0) _ (C3.out _ hra) Tryd.underlying23 rfl HINF.out ?_
      refine hK _ _ ?_
      clear hK K
      try simp only [List.getElem_toArray, List.getElem_cons_succ, List.getElem_cons_zero, Act.put, List.setIfInBounds_toArray, List.set_cons_zero, List.set_cons_succ]
      refine wpAny_ready (rs := [4]) (by kernel_rfl) (by simp) ?_
      refine AllReady.cons rfl (fun K hK => ?_) ?_
      rotate_left
      · exact AllReady.nil
      go_simp
      refine (CR.out _ hra).mono ?_
      rintro e wb ⟨rfl, hrb⟩
      refine hK _ _ ?_
      clear hK K
      try simp only [List.getElem_toArray, List.getElem_cons_succ, List.getElem_cons_zero, Act.put, List.setIfInBounds_toArray, List.set_cons_zero, List.set_cons_succ]
      refine wpAny_ready (rs := [5]) (by kernel_rfl) (by simp) ?_
      refine AllReady.cons rfl (fun K hK => ?_) ?_
      rotate_left
      · exact AllReady.nil
      go_simp
      refine hK _ _ ?_
      clear hK K
      try simp only [List.getElem_toArray, List.getElem_cons_succ, List.getElem_cons_zero, Act.put, List.setIfInBounds_toArray, List.set_cons_zero, List.set_cons_succ]
      refine wpAny_take (i := 6) (v := .bool true) rfl (by kernel_rfl) (by kernel_rfl) (by kernel_rfl) (fun _ _ _ h => h) (Or.inl ⟨by rfl, fun w => by go_simp⟩) ?_
      simp only [List.getElem_toArray, List.getElem_cons_succ, List.getElem_cons_zero, Act.put, List.setIfInBounds_toArray, List.set_cons_zero, List.set_cons_succ]
      refine wpAny_take (i := 7) (v := .bool true) rfl (by kernel_rfl) (by kernel_rfl) (by kernel_rfl) (fun _ _ _ h => h) (Or.inl ⟨by rfl, fun w => by go_simp⟩) ?_
      simp only [List.getElem_toArray, List.getElem_cons_succ, List.getElem_cons_zero, Act.put, List.setIfInBounds_toArray, List.set_cons_zero, List.set_cons_succ]
      refine wpAny_take (i := 8) (v := .bool true) rfl (by kernel_rfl) (by kernel_rfl) (by kernel_rfl) (fun _ _ _ h => h) (Or.inl ⟨by rfl, fun w => by go_simp⟩) ?_
      simp only [List.getElem_toArray, List.getElem_cons_succ, List.getElem_cons_zero, Act.put, List.setIfInBounds_toArray, List.set_cons_zero, List.set_cons_succ]
      refine wpAny_take (i := 9) (v := .bool true) rfl (by kernel_rfl) (by kernel_rfl) (by kernel_rfl) (fun _ _ _ h => h) (Or.inl ⟨by rfl, fun w => by go_simp⟩) ?_
      simp only [List.getElem_toArray, List.getElem_cons_succ, List.getElem_cons_zero, Act.put, List.setIfInBounds_toArray, List.set_cons_zero, List.set_cons_succ]
      refine wpAny_take (i := 10) (v := .bool true) rfl (by kernel_rfl) (by kernel_rfl) (by kernel_rfl) (fun _ _ _ h => h) (Or.inl ⟨by rfl, fun w => by go_simp⟩) ?_
      simp only [List.getElem_toArray, List.getElem_cons_succ, List.getElem_cons_zero, Act.put, List.setIfInBounds_toArray, List.set_cons_zero, List.set_cons_succ]
      refine wpAny_take (i := 11) (v := .slice (some ⟨g, off, none⟩) n cap) rfl (by kernel_rfl) (by kernel_rfl) (by kernel_rfl) (fun _ _ _ h => h) (Or.inl ⟨by rfl, fun w => by go_simp⟩) ?_
      simp only [List.getElem_toArray, List.getElem_cons_succ, List.getElem_cons_zero, Act.put, List.setIfInBounds_toArray, List.set_cons_zero, List.set_cons_succ]
      refine wpAny_take (i := 12) (v := .slice a n c) rfl (by kernel_rfl) (by kernel_rfl) (by kernel_rfl) (fun _ _ _ h => h) (Or.inl ⟨by rfl, fun w => by go_simp⟩) ?_
      simp only [List.getElem_toArray, List.getElem_cons_succ, List.getElem_cons_zero, Act.put, List.setIfInBounds_toArray, List.set_cons_zero, List.set_cons_succ]
      refine wpAny_take (i := 13) (v := .int .i64 (n : Int)) rfl (by kernel_rfl) (by kernel_rfl) (by kernel_rfl) (fun _ _ _ h => h) (Or.inl ⟨by rfl, fun w => by go_simp⟩) ?_
      simp only [List.getElem_toArray, List.getElem_cons_succ, List.getElem_cons_zero, Act.put, List.setIfInBounds_toArray, List.set_cons_zero, List.set_cons_succ]
      refine wpAny_take (i := 14) (v := .int .i64 ((n : Int) + 1)) rfl (by kernel_rfl) (by kernel_rfl) (by kernel_rfl) (fun _ _ _ h => h) (Or.inl ⟨by rfl, fun w => by go_simp⟩) ?_
      simp only [List.getElem_toArray, List.getElem_cons_succ, List.getElem_cons_zero, Act.put, List.setIfInBounds_toArray, List.set_cons_zero, List.set_cons_succ]
      refine wpAny_take (i := 16) (v := .slice a n c) rfl (by kernel_rfl) (by kernel_rfl) (by kernel_rfl) (fun _ _ _ h => h) (Or.inl ⟨by rfl, fun w => by go_simp⟩) ?_
      simp only [List.getElem_toArray, List.getElem_cons_succ, List.getElem_cons_zero, Act.put, List.setIfInBounds_toArray, List.set_cons_zero, List.set_cons_succ]
      refine wpAny_take (i := 17) (v := .int .i64 (n : Int)) rfl (by kernel_rfl) (by kernel_rfl) (by kernel_rfl) (fun _ _ _ h => h) (Or.inl ⟨by rfl, fun w => by go_simp⟩) ?_
      simp only [List.getElem_toArray, List.getElem_cons_succ, List.getElem_cons_zero, Act.put, List.setIfInBounds_toArray, List.set_cons_zero, List.set_cons_succ]
      have hc7 := C7.out _ hrb
      refine wpAny_ready (rs := [15]) (by kernel_rfl) (by simp) ?_
      refine AllReady.cons rfl (fun K hK => ?_) ?_
      rotate_left
      · exact AllReady.nil
      go_simp
      refine hK _ _ ?_
      clear hK K
      try simp only [List.getElem_toArray, List.getElem_cons_succ, List.getElem_cons_zero, Act.put, List.setIfInBounds_toArray, List.set_cons_zero, List.set_cons_succ]
      refine wpAny_ready (rs := [18]) (by kernel_rfl) (by simp) ?_
      refine AllReady.cons rfl (fun K hK => ?_) ?_
      rotate_left
      · exact AllReady.nil
      go_simp
      refine hK _ _ ?_
      clear hK K
      try simp only [List.getElem_toArray, List.getElem_cons_succ, List.getElem_cons_zero, Act.put, List.setIfInBounds_toArray, List.set_cons_zero, List.set_cons_succ]
      refine wpAny_ready (rs := [19]) (by kernel_rfl) (by simp) ?_
      refine AllReady.cons rfl (fun K hK => ?_) ?_
      rotate_left
      · exact AllReady.nil
      go_simp
      refine hK _ _ ?_
      clear hK K
      try simp only [List.getElem_toArray, List.getElem_cons_succ, List.getElem_cons_zero, Act.put, List.setIfInBounds_toArray, List.set_cons_zero, List.set_cons_succ]
      refine wpAny_ready (rs := [20]) (by kernel_rfl) (by simp) ?_
      refine AllReady.cons rfl (fun K hK => ?_) ?_
      rotate_left
      · exact AllReady.nil
      go_simp
      refine hK _ _ ?_
      clear hK K
      try simp only [List.getElem_toArray, List.getElem_cons_succ, List.getElem_cons_zero, Act.put, List.setIfInBounds_toArray, List.set_cons_zero, List.set_cons_succ]
      refine wpAny_ready (rs := [21]) (by kernel_rfl) (by simp) ?_
      refine AllReady.cons rfl (fun K hK => ?_) ?_
      rotate_left
      · exact AllReady.nil
      go_simp
      refine hK _ _ ?_
      clear hK K
      try simp only [List.getElem_toArray, List.getElem_cons_succ, List.getElem_cons_zero, Act.put, List.setIfInBounds_toArray, List.set_cons_zero, List.set_cons_succ]
      refine wpAny_ready (rs := [22]) (by kernel_rfl) (by simp) ?_
      refine AllReady.cons rfl (fun K hK => ?_) ?_
      rotate_left
      · exact AllReady.nil
      go_simp
      refine hK _ _ ?_
      clear hK K
      try simp only [List.getElem_toArray, List.getElem_cons_succ, List.getElem_cons_zero, Act.put, List.setIfInBounds_toArray, List.set_cons_zero, List.set_cons_succ]
      refine wpAny_done (by kernel_rfl) ?_ _
      go_wp2_with fail
      go_meet
      exact ⟨rfl, hrb⟩
    refine AllReady.cons rfl (fun K hK => ?_) ?_
    · go_simp
      refine (CR.out _ hra).mono ?_
      rintro e wb ⟨rfl, hrb⟩
      refine hK _ _ ?_
      clear hK K
      try simp only [List.getElem_toArray, List.getElem_cons_succ, List.getElem_cons_zero, Act.put, List.setIfInBounds_toArray, List.set_cons_zero, List.set_cons_succ]
      refine wpAny_ready (rs := [2]) (by kernel_rfl) (by simp) ?_
      refine AllReady.cons rfl (fun K hK => ?_) ?_
      rotate_left
      · exact AllReady.nil
      refine step_load_row (by rfl) 23 (.tmp 4) rfl gd rfl 23 X (0, 0) _ (C3.out _ hrb) Tryd.underlying23 rfl HINF.out ?_
      refine hK _ _ ?_
      clear hK K
      try simp only [List.getElem_toArray, List.getElem_cons_succ, List.getElem_cons_zero, Act.put, List.setIfInBounds_toArray, List.set_cons_zero, List.set_cons_succ]
      refine wpAny_ready (rs := [5]) (by kernel_rfl) (by simp) ?_
      refine AllReady.cons rfl (fun K hK => ?_) ?_
      rotate_left
      · exact AllReady.nil
      go_simp
      refine hK _ _ ?_
      clear hK K
      try simp only [List.getElem_toArray, List.getElem_cons_succ, List.getElem_cons_zero, Act.put, List.setIfInBounds_toArray, List.set_cons_zero, List.set_cons_succ]
      refine wpAny_take (i := 6) (v := .bool true) rfl (by kernel_rfl) (by kernel_rfl) (by kernel_rfl) (fun _ _ _ h => h) (Or.inl ⟨by rfl, fun w => by go_simp⟩) ?_
      simp only [List.getElem_toArray, List.getElem_cons_succ, List.getElem_cons_zero, Act.put, List.setIfInBounds_toArray, List.set_cons_zero, List.set_cons_succ]
      refine wpAny_take (i := 7) (v := .bool true) rfl (by kernel_rfl) (by kernel_rfl) (by kernel_rfl) (fun _ _ _ h => h) (Or.inl ⟨by rfl, fun w => by go_simp⟩) ?_
      simp only [List.getElem_toArray, List.getElem_cons_succ, List.getElem_cons_zero, Act.put, List.setIfInBounds_toArray, List.set_cons_zero, List.set_cons_succ]
      refine wpAny_take (i := 8) (v := .bool true) rfl (by kernel_rfl) (by kernel_rfl) (by kernel_rfl) (fun _ _ _ h => h) (Or.inl ⟨by rfl, fun w => by go_simp⟩) ?_
      simp only [List.getElem_toArray, List.getElem_cons_succ, List.getElem_cons_zero, Act.put, List.setIfInBounds_toArray, List.set_cons_zero, List.set_cons_succ]
      refine wpAny_take (i := 9) (v := .bool true) rfl (by kernel_rfl) (by kernel_rfl) (by kernel_rfl) (fun _ _ _ h => h) (Or.inl ⟨by rfl, fun w => by go_simp⟩) ?_
      simp only [List.getElem_toArray, List.getElem_cons_succ, List.getElem_cons_zero, Act.put, List.setIfInBounds_toArray, List.set_cons_zero, List.set_cons_succ]
      refine wpAny_take (i := 10) (v := .bool true) rfl (by kernel_rfl) (by kernel_rfl) (by kernel_rfl) (fun _ _ _ h => h) (Or.inl ⟨by rfl, fun w => by go_simp⟩) ?_
      simp only [List.getElem_toArray, List.getElem_cons_succ, List.getElem_cons_zero, Act.put, List.setIfInBounds_toArray, List.set_cons_zero, List.set_cons_succ]
      refine wpAny_take (i := 11) (v := .slice (some ⟨g, off, none⟩) n cap) rfl (by kernel_rfl) (by kernel_rfl) (by kernel_rfl) (fun _ _ _ h => h) (Or.inl ⟨by rfl, fun w => by go_simp⟩) ?_
      simp only [List.getElem_toArray, List.getElem_cons_succ, List.getElem_cons_zero, Act.put, List.setIfInBounds_toArray, List.set_cons_zero, List.set_cons_succ]
      refine wpAny_take (i := 12) (v := .slice a n c) rfl (by kernel_rfl) (by kernel_rfl) (by kernel_rfl) (fun _ _ _ h => h) (Or.inl ⟨by rfl, fun w => by go_simp⟩) ?_
      simp only [List.getElem_toArray, List.getElem_cons_succ, List.getElem_cons_zero, Act.put, List.setIfInBounds_toArray, List.set_cons_zero, List.set_cons_succ]
      refine wpAny_take (i := 13) (v := .int .i64 (n : Int)) rfl (by kernel_rfl) (by kernel_rfl) (by kernel_rfl) (fun _ _ _ h => h) (Or.inl ⟨by rfl, fun w => by go_simp⟩) ?_
      simp only [List.getElem_toArray, List.getElem_cons_succ, List.getElem_cons_zero, Act.put, List.setIfInBounds_toArray, List.set_cons_zero, List.set_cons_succ]
      refine wpAny_take (i := 14) (v := .int .i64 ((n : Int) + 1)) rfl (by kernel_rfl) (by kernel_rfl) (by kernel_rfl) (fun _ _ _ h => h) (Or.inl ⟨by rfl, fun w => by go_simp⟩) ?_
      simp only [List.getElem_toArray, List.getElem_cons_succ, List.getElem_cons_zero, Act.put, List.setIfInBounds_toArray, List.set_cons_zero, List.set_cons_succ]
      refine wpAny_take (i := 16) (v := .slice a n c) rfl (by kernel_rfl) (by kernel_rfl) (by kernel_rfl) (fun _ _ _ h => h) (Or.inl ⟨by rfl, fun w => by go_simp⟩) ?_
      simp only [List.getElem_toArray, List.getElem_cons_succ, List.getElem_cons_zero, Act.put, List.setIfInBounds_toArray, List.set_cons_zero, List.set_cons_succ]
      refine wpAny_take (i := 17) (v := .int .i64 (n : Int)) rfl (by kernel_rfl) (by kernel_rfl) (by kernel_rfl) (fun _ _ _ h => h) (Or.inl ⟨by rfl, fun w => by go_simp⟩) ?_
      simp only [List.getElem_toArray, List.getElem_cons_succ, List.getElem_cons_zero, Act.put, List.setIfInBounds_toArray, List.set_cons_zero, List.set_cons_succ]
      have hc7 := C7.out _ hrb
      refine wpAny_ready (rs := [15]) (by kernel_rfl) (by simp) ?_
      refine AllReady.cons rfl (fun K hK => ?_) ?_
      rotate_left
      · exact AllReady.nil
      go_simp
      refine hK _ _ ?_
      clear hK K
      try simp only [List.getElem_toArray, List.getElem_cons_succ, List.getElem_cons_zero, Act.put, List.setIfInBounds_toArray, List.set_cons_zero, List.set_cons_succ]
      refine wpAny_ready (rs := [18]) (by kernel_rfl) (by simp) ?_
      refine AllReady.cons rfl (fun K hK => ?_) ?_
      rotate_left
      · exact AllReady.nil
      go_simp
      refine hK _ _ ?_
      clear hK K
      try simp only [List.getElem_toArray, List.getElem_cons_succ, List.getElem_cons_zero, Act.put, List.setIfInBounds_toArray, List.set_cons_zero, List.set_cons_succ]
      refine wpAny_ready (rs := [19]) (by kernel_rfl) (by simp) ?_
      refine AllReady.cons rfl (fun K hK => ?_) ?_
      rotate_left
      · exact AllReady.nil
      go_simp
      refine hK _ _ ?_
      clear hK K
      try simp only [List.getElem_toArray, List.getElem_cons_succ, List.getElem_cons_zero, Act.put, List.setIfInBounds_toArray, List.set_cons_zero, List.set_cons_succ]
      refine wpAny_ready (rs := [20]) (by kernel_rfl) (by simp) ?_
      refine AllReady.cons rfl (fun K hK => ?_) ?_
      rotate_left
      · exact AllReady.nil
      go_simp
      refine hK _ _ ?_
      clear hK K
      try simp only [List.getElem_toArray, List.getElem_cons_succ, List.getElem_cons_zero, Act.put, List.setIfInBounds_toArray, List.set_cons_zero, List.set_cons_succ]
      refine wpAny_ready (rs := [21]) (by kernel_rfl) (by simp) ?_
      refine AllReady.cons rfl (fun K hK => ?_) ?_
      rotate_left
      · exact AllReady.nil
      go_simp
      refine hK _ _ ?_
      clear hK K
      try simp only [List.getElem_toArray, List.getElem_cons_succ, List.getElem_cons_zero, Act.put, List.setIfInBounds_toArray, List.set_cons_zero, List.set_cons_succ]
      refine wpAny_ready (rs := [22]) (by kernel_rfl) (by simp) ?_
      refine AllReady.cons rfl (fun K hK => ?_) ?_
      rotate_left
      · exact AllReady.nil
      go_simp
      refine hK _ _ ?_
      clear hK K
      try simp only [List.getElem_toArray, List.getElem_cons_succ, List.getElem_cons_zero, Act.put, List.setIfInBounds_toArray, List.set_cons_zero, List.set_cons_succ]
      refine wpAny_done (by kernel_rfl) ?_ _
      go_wp2_with fail
      go_meet
      exact ⟨rfl, hrb⟩
    exact AllReady.nil
  case rest =>
    obtain ⟨rfl, hb6⟩ := hcut
    go_wp2_with fail
    go_ret
    exact ⟨rfl, HB4.out.trans (hb6.mono HB4.out.size)⟩
end Go.Proofs.YtlfchhnkchcjcaaDoor
