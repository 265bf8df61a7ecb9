/- the document's handshake: info -/
import Derived.Test.YtnpcpbjoonjaoaaSr1
import Derived.Test.YtnpcpbjoonjaoaaInfoR
namespace Go.Proofs.Ytnpcpbjoonjaoaa
set_option linter.unusedVariables false
set_option linter.unusedSimpArgs false
open Go.RowKit

def RkPost (g : Nat) (r : Sk × List UInt8) (w : World) (e : Ending) (w' : World) : Prop :=
  ∃ a n c, e = .returned (.slice a n c) ∧ OwnB w' w.heap.size (.slice a n c) r.2 ∧ RkAt w' g r.1 ∧ w.grownBy w' (some g)
theorem qle {w w' : World} {q : Nat} (h : Below q w w') (hq : w.heap.size = q) : q ≤ w'.heap.size := by subst hq; exact h.size
theorem grownQ {w w' : World} {q : Nat} (h : Below q w w') (hq : w.heap.size = q) (g : Nat) : w.grownBy w' (some g) := by subst hq; exact sk_grown g h
/-- How far the types are looked at. -/
def BlRel (L : List Nat) (vb vi : Value) : Prop := ∃ i : Nat, i ≤ L.length ∧ vi = .int .i64 (i : Int) ∧ vb = .bool (decide (3 ∈ L.take i))

set_option maxRecDepth 20000 in
set_option maxHeartbeats 4000000 in
theorem rinfo_any (g : Nat) (s : Sk) (ty : Nat) (a : Option Addr) (n c : Nat) (data : List UInt8) (w : World) (hb : RkAt w g s) (hsec : s.sectors ≤ 8192) (hty : ty = 6 ∨ ty = 7) (hdl : data.length = n) (hc : n ≤ c) (hc2 : n ≤ 140737488351232 ∧ c ≤ 9223372036854775807) (hr : Rd w w.heap.size a (bs data)) :
    Calls Try.prog 57 #[.pointer (some ⟨g, 0, none⟩), .agg #[.int .i64 (ty : Int), .slice a n c]] w (RkPost g (if ty = 7 ∧ lastKind (infoReps s data) = 1 then { s with phase := 2 } else s, saidL ty (infoReps s data)) w) := by
  generalize hR : ((if ty = 7 ∧ lastKind (infoReps s data) = 1 then { s with phase := 2 } else s), saidL ty (infoReps s data)) = R
  have HR := Lib.hid hR
  clear hR
  have HK := Lib.hid hb
  have HS := Lib.hid hsec
  have HTY := Lib.hid hty
  obtain ⟨⟨nm, L, ie⟩, hir⟩ : ∃ r, infoR data = r := ⟨_, rfl⟩
  have hb0 : Below w.heap.size w (w.alloc (Obj.cells #[Value.int .i64 (ty : Int), Value.slice a n c] 36)) := (Below.refl _ _).alloc (Nat.le_refl _) _
  have C1 := Lib.hid (rtakeInfo_any a n c data (w.alloc (Obj.cells #[Value.int .i64 (ty : Int), Value.slice a n c] 36)) hdl hc hc2 ((hr.below hb0).more hb0.size))
  rw [hir] at C1
  have HF : Hid (infoReps s data = if ie ≠ 0 then [(2147483651, [])] else if nm ≠ [] ∧ nm ≠ s.name then [(2147483654, [])] else [(3, numB [(0, 2)] ++ expL s)] ++ (if 3 ∈ L then [(3, numB [(3, 2), (64, 4), (64, 4), (1024, 4)])] else []) ++ [(1, [])]) := Lib.hid (by rw [infoReps, hir])
  have HBO : Hid (Blk (w.alloc (Obj.cells #[Value.int .i64 (ty : Int), Value.slice a n c] 36)) w.heap.size 36 [Value.int .i64 (ty : Int), Value.slice a n c]) := Lib.hid (Blk.new _ _ _)
  have HK0 : Hid (RkAt (w.alloc (Obj.cells #[Value.int .i64 (ty : Int), Value.slice a n c] 36)) g s) := Lib.hid (Blk.below HK.out hb0)
  have HB0 := Lib.hid hb0
  have HGL : Hid (g < w.heap.size) := Lib.hid (Blk.lt HK.out)
  clear hb hsec hdl hc hc2 hr hir hty hb0
  go_enter Try.func57, Try.ntmps57
  go_wp2_with fail
  refine C1.out.mono ?_
  rintro e w1 ⟨ai, ni, ci, rfl, hoi, hb1⟩
  simp only
  have hoi : OwnI w1 (w.alloc (Obj.cells #[Value.int .i64 (ty : Int), Value.slice a n c] 36)).heap.size (.slice ai ni ci) ni L := hoi
  have HOI := Lib.hid (OwnG.base_mono hoi HB0.out.size : OwnI w1 w.heap.size (.slice ai ni ci) ni L)
  have HB1 := Lib.hid (HB0.out.trans (hb1.mono HB0.out.size))
  have HBO1 := Lib.hid (Blk.below HBO.out hb1)
  have HK1 : Hid (RkAt w1 g s) := Lib.hid (Blk.below HK0.out hb1)
  have k0 : w1.cell? ⟨g, 0, none⟩ = some (.string ⟨s.name.toArray⟩) := HK1.out.cell 0 _ rfl
  have t0 : w1.cell? ⟨w.heap.size, 0, none⟩ = some (.int .i64 (ty : Int)) := HBO1.out.cell 0 _ rfl
  obtain ⟨nm0, hnm0⟩ : ∃ nm0, s.name = nm0 := ⟨_, rfl⟩
  rw [hnm0] at k0 HF
  obtain ⟨q, hq⟩ : ∃ q, w.heap.size = q := ⟨_, rfl⟩
  have HQ := Lib.hid hq
  rw [hq] at t0 HOI HB1 HBO1 HGL ⊢
  have HQ1 := Lib.hid (qle HB1.out HQ.out)
  clear hoi hb1 hnm0 C1 HBO HK0 HB0 hq HK
  have fin : ∀ (wx : World) (r : Sk) (o : List UInt8) (ax : Option Addr) (cx : Nat), OwnB wx q (.slice ax o.length cx) o → RkAt wx g r → w.grownBy wx (some g) → RkPost g (r, o) w (.returned (.slice ax o.length cx)) wx := fun wx r o ax cx h1 h2 h3 => ⟨ax, _, cx, rfl, by rw [HQ.out]; exact h1, h2, h3⟩
  have FIN := Lib.hid fin
  clear fin
  by_cases hie : ie = 0
  · subst hie
    rw [if_neg (by simp)] at HF
    by_cases hbad : nm ≠ [] ∧ nm ≠ nm0
    · rw [if_pos hbad] at HF
      have e1 : nm.isEmpty = false := by cases nm with
        | nil => exact absurd rfl hbad.1
        | cons => rfl
      have e2 : (nm == nm0) = false := beq_eq_false_iff_ne.2 hbad.2
      have HC := Lib.hid (roptionReply_any (ty : Int) 2147483654 none 0 0 [] w1 rfl (by omega) .nil)
      clear hbad
      go_wp2_with fail
      refine HC.out.mono ?_
      rintro e w2 ⟨a2, n2, c2, rfl, hown2, hb2⟩
      have HO2 := Lib.hid (OwnG.base_mono hown2 HQ1.out : OwnB w2 q _ _)
      have HK2 : Hid (RkAt w2 g s) := Lib.hid (Blk.below HK1.out hb2)
      have HB2 := Lib.hid (HB1.out.trans (hb2.mono HQ1.out))
      clear hown2 hb2 HC
      go_wp2_with fail
      go_ret
      rw [← HR.out, HF.out]
      have e3 : saidL ty [(2147483654, [])] = optionReplyL (ty : Int) 2147483654 [] := by simp [saidL]
      rw [e3, if_neg (fun h => absurd h.2 (by simp [lastKind]))]
      have hn2 := OwnB.len HO2.out
      subst hn2
      exact FIN.out _ _ _ _ _ HO2.out HK2.out (grownQ HB2.out HQ.out g)
    · rw [if_neg hbad] at HF
      have hT : Hid (nm.isEmpty = true ∨ (nm.isEmpty = false ∧ (nm == nm0) = true)) := Lib.hid (by
        cases nm with
        | nil => exact .inl rfl
        | cons x l => exact .inr ⟨rfl, by
            rcases Classical.em (x :: l = nm0) with h | h
            · exact beq_iff_eq.2 h
            · exact absurd ⟨by simp, h⟩ hbad⟩)
      clear hbad
      go_upto_region 4 with (fail)
      go_cut [33] (fun v wn => v = .bool false ∧ wn = w1)
      case first =>
        rcases hT.out with h1 | ⟨h1, h2⟩
        case' inl => clear hT
        case' inr => clear hT
        all_goals go_wp2_with fail
        all_goals go_meet
        all_goals exact ⟨rfl, rfl⟩
      case' rest =>
        obtain ⟨rfl, hw⟩ := hcut
        subst hw
        rename World => w1
      have h12 : (bytesOf 0 2 ++ expL s).length = 12 := by rw [List.length_append, expL_length, bytesOf_length]
      have he2 : numB [(0, 2)] = bytesOf 0 2 := by simp [numB]
      rw [he2] at HF
      obtain ⟨D1, hD1⟩ : ∃ D1, bytesOf 0 2 ++ expL s = D1 := ⟨_, rfl⟩
      have HD1 := Lib.hid hD1
      rw [hD1] at HF h12
      have H12 := Lib.hid h12
      have hbd : Below w1.heap.size w1 w1.drew := (Below.refl _ _).drew
      have ht0 : ∀ wx, Below w1.heap.size w1 wx → wx.cell? ⟨q, 0, none⟩ = some (.int .i64 (ty : Int)) := fun wx h => (Blk.below HBO1.out h).cell 0 _ rfl
      have HT0 := Lib.hid ht0
      have hrx : ∀ wx, Below w1.heap.size w1 wx → RkAt wx g s := fun wx h => Blk.below HK1.out h
      have HRX := Lib.hid hrx
      clear hD1 he2 h12 hT ht0 hrx
      go_upto_region 6 with (fail)
      go_cut [8] (fun v wn => (∃ a c, v = .slice a (20 + 12) c ∧ OwnB wn w1.heap.size (.slice a (20 + 12) c) (optionReplyL (ty : Int) 3 D1)) ∧ Below w1.heap.size w1 wn)
      case first =>
        have td := HT0.out w1.drew hbd
        have hz00 : bytesOf 0 2 = [0, 0] := by decide
        have kA : Below w1.heap.size w1 (w1.alloc (Obj.cells #[Value.int .u8 0, Value.int .u8 0] 5)).drew := ((Below.refl _ _).alloc (Nat.le_refl _) _).drew
        have tA := HT0.out _ kA
        have LB : ∀ w2, Below w1.heap.size w1 w2 → OwnB (w2.alloc (Obj.cells #[Value.int .u8 0, Value.int .u8 0] 5)) w1.heap.size (.slice (some ⟨w2.heap.size, 0, none⟩) 2 2) (bytesOf 0 2) := fun w2 h => by
          have h2 := OwnB.lit w2 [0, 0] (by simp)
          rw [hz00]
          exact OwnG.base_mono h2 h.size
        have lA : OwnB (w1.alloc (Obj.cells #[Value.int .u8 0, Value.int .u8 0] 5)).drew w1.heap.size (.slice (some ⟨w1.heap.size, 0, none⟩) 2 2) (bytesOf 0 2) := LB w1 (Below.refl _ _)
        have CXA := Lib.hid (rsize_any g s _ (HRX.out _ kA) HS.out)
        have CXB := Lib.hid (rsize_any g s _ (HRX.out _ hbd) HS.out)
        have KA : Hid (∀ w2 a2 n2 c2, OwnB w2 (w1.alloc (Obj.cells #[Value.int .u8 0, Value.int .u8 0] 5)).drew.heap.size (.slice a2 n2 c2) (expL s) → Below (w1.alloc (Obj.cells #[Value.int .u8 0, Value.int .u8 0] 5)).drew.heap.size (w1.alloc (Obj.cells #[Value.int .u8 0, Value.int .u8 0] 5)).drew w2 → n2 = 10 ∧ Below w1.heap.size w1 w2 ∧ Rd w2 w2.heap.size a2 (bs (expL s)) ∧ OwnB w2 w1.heap.size (.slice (some ⟨w1.heap.size, 0, none⟩) 2 2) (bytesOf 0 2) ∧ w1.heap.size ≤ w2.heap.size ∧ w2.cell? ⟨q, 0, none⟩ = some (.int .i64 (ty : Int))) := Lib.hid (fun w2 a2 n2 c2 h1 h2 => by
          have hS := kA.trans (h2.mono kA.size)
          exact ⟨by rw [← OwnB.len h1, expL_length], hS, OwnB.rd h1, OwnG.below lA h2, hS.size, HT0.out _ hS⟩)
        have KB : Hid (∀ w2 a2 n2 c2, OwnB w2 w1.drew.heap.size (.slice a2 n2 c2) (expL s) → Below w1.drew.heap.size w1.drew w2 → n2 = 10 ∧ Below w1.heap.size w1 w2 ∧ Below w1.heap.size w1 (w2.alloc (Obj.cells #[Value.int .u8 0, Value.int .u8 0] 5)) ∧ Rd (w2.alloc (Obj.cells #[Value.int .u8 0, Value.int .u8 0] 5)) w2.heap.size a2 (bs (expL s)) ∧ OwnB (w2.alloc (Obj.cells #[Value.int .u8 0, Value.int .u8 0] 5)) w1.heap.size (.slice (some ⟨w2.heap.size, 0, none⟩) 2 2) (bytesOf 0 2) ∧ w1.heap.size ≤ (w2.alloc (Obj.cells #[Value.int .u8 0, Value.int .u8 0] 5)).heap.size ∧ w2.cell? ⟨q, 0, none⟩ = some (.int .i64 (ty : Int)) ∧ (w2.alloc (Obj.cells #[Value.int .u8 0, Value.int .u8 0] 5)).cell? ⟨q, 0, none⟩ = some (.int .i64 (ty : Int))) := Lib.hid (fun w2 a2 n2 c2 h1 h2 => by
          have hS := hbd.trans (h2.mono hbd.size)
          have hS2 := hS.alloc hS.size (Obj.cells #[Value.int .u8 0, Value.int .u8 0] 5)
          exact ⟨by rw [← OwnB.len h1, expL_length], hS, hS2, (OwnB.rd h1).alloc (Nat.le_refl _) _, LB w2 hS, hS2.size, HT0.out _ hS, HT0.out _ hS2⟩)
        have HXL := Lib.hid (expL_length s)
        have S1 : Hid ((bytesOf 0 2).length + 10 ≤ 140737488355328) := Lib.hid (by rw [bytesOf_length]; omega)
        have KV : Hid (∀ w3 v3, OwnB w3 w1.heap.size v3 (bytesOf 0 2 ++ expL s) → ∃ a3 c3, v3 = .slice a3 12 c3 ∧ OwnB w3 w1.heap.size (.slice a3 12 c3) D1) := Lib.hid (fun w3 v3 h => by
          rw [HD1.out] at h
          obtain ⟨a3, c3, rfl, _⟩ := OwnG.shape h
          rw [H12.out] at h ⊢
          exact ⟨a3, c3, rfl, h⟩)
        have KR : Hid (∀ w3 a3 c3, Below w1.heap.size w1 w3 → OwnB w3 w1.heap.size (.slice a3 12 c3) D1 → Calls Try.prog 17 #[.int .i64 (ty : Int), .int .i64 3, .slice a3 12 c3] w3 fun e w' => ∃ a4 c4, e = .returned (.slice a4 (20 + 12) c4) ∧ OwnB w' w1.heap.size (.slice a4 (20 + 12) c4) (optionReplyL (ty : Int) 3 D1) ∧ Below w1.heap.size w1 w') := Lib.hid (fun w3 a3 c3 hS h => by
          refine (roptionReply_any (ty : Int) 3 a3 12 c3 D1 w3 H12.out (by omega) (OwnB.rd h)).mono ?_
          rintro e w' ⟨a4, n4, c4, rfl, h4, hb4⟩
          have hn4 := OwnB.len h4
          rw [reply_len, H12.out] at hn4
          subst hn4
          exact ⟨a4, c4, rfl, OwnG.base_mono h4 hS.size, hS.trans (hb4.mono hS.size)⟩)
        clear LB hz00
        go_region_held3 (fun w' => w'.cell? ⟨q, 0, none⟩ = some (.int .i64 (ty : Int)) ∧ Below w1.heap.size w1 w')
          (first | assumption | go_keep)
          (first
            | ((with_reducible refine CXA.out.mono ?_); rintro e w2 ⟨a2, n2, c2, rfl, hown2, hb2⟩; obtain ⟨hn2, hS2, hr2, hl2, hz2, ht2⟩ := KA.out w2 a2 n2 c2 hown2 hb2; subst hn2)
            | ((with_reducible refine CXB.out.mono ?_); rintro e w2 ⟨a2, n2, c2, rfl, hown2, hb2⟩; obtain ⟨hn2, hS20, hS2, hr2, hl2, hz2, ht20, ht2⟩ := KB.out w2 a2 n2 c2 hown2 hb2; subst hn2)
            | (refine step_app (by rfl) (.tmp 39) (.tmp 41) (by rfl) w1.heap.size _ (bytesOf 0 2) (by rfl) hl2 w2.heap.size a2 10 c2 (expL s) (by rfl) HXL.out hr2 S1.out hz2 ?_; intro v3 w3 hown3 hgr3 hat3; have hS3 := below_app hS2 hl2 (Nat.le_refl _) hgr3; have ht3 := HT0.out w3 hS3; obtain ⟨a3, c3, rfl, hO3⟩ := KV.out w3 v3 hown3; have CR3 := KR.out w3 a3 c3 hS3 hO3)
            | ((with_reducible refine CR3.mono ?_); rintro e w4 ⟨a4, c4, rfl, hO4, hS4⟩; have ht4 := HT0.out w4 hS4)
            | fail)
        all_goals go_wp2_with fail
        all_goals go_meet
        all_goals exact ⟨⟨a4, c4, rfl, hO4⟩, hS4⟩
      case rest =>
        obtain ⟨⟨a4, c4, rfl, hO4⟩, hS4⟩ := hcut
        rename World => wc
        have HO4 := Lib.hid hO4
        have HS4 := Lib.hid hS4
        obtain ⟨hil, hin⟩ := ownI_facts HOI.out
        have HRL := Lib.hid (OwnG.rd (OwnG.below HOI.out (hS4.mono (Nat.le_refl _)) : OwnI wc q (.slice ai ni ci) ni L))
        subst hil
        clear hO4 hS4 hbd HOI
        go_wp2_with fail
        go_loop [9, 10] (fun vb vi => BlRel L vb vi) (fun _ vi => L.length - (intOf vi).toNat)
        case atStart => exact ⟨0, Nat.zero_le _, rfl, by simp⟩
        case round =>
          obtain ⟨i, hi, rfl, rfl⟩ := hrel
          have i0 : (0 : Int) ≤ (i : Int) := Int.natCast_nonneg i
          by_cases hlt : i < L.length
          · have hltI : (i : Int) < (L.length : Int) := by omega
            obtain ⟨bx, off, rfl, _, hcell⟩ := HRL.out.at i (.int .i64 ((L[i] : Nat) : Int)) (by simp [ints, hlt])
            obtain ⟨xx, hxx⟩ : ∃ xx, L[i] = xx := ⟨_, rfl⟩
            rw [hxx] at hcell
            have hstep : decide (3 ∈ L.take (i + 1)) = (decide (3 ∈ L.take i) || (xx == 3)) := by
              rw [List.take_succ_eq_append_getElem hlt, hxx]
              by_cases h3 : 3 ∈ L.take i
              · simp [h3]
              · by_cases hx : xx = 3
                · subst hx; simp
                · have hx2 : ¬ 3 = xx := fun e => hx e.symm
                  simp [h3, hx, hx2]
            have HST := Lib.hid hstep
            obtain ⟨bb, hbb⟩ : ∃ bb, decide (3 ∈ L.take i) = bb := ⟨_, rfl⟩
            rw [hbb] at HST ⊢
            clear hstep hbb hxx
            cases bb with
            | true =>
              go_wp2_with fail
              exact ⟨⟨i + 1, hlt, by go_num, by rw [HST.out]; simp⟩, by simp only [intOf]; omega⟩
            | false =>
              by_cases hx : xx = 3
              · subst hx
                go_wp2_with fail
                exact ⟨⟨i + 1, hlt, by go_num, by rw [HST.out]; simp⟩, by simp only [intOf]; omega⟩
              · have hxI : ((xx : Int) == 3) = false := beq_eq_false_iff_ne.2 (by omega)
                have hxB : (xx == 3) = false := beq_eq_false_iff_ne.2 hx
                go_wp2_with fail
                exact ⟨⟨i + 1, hlt, by go_num, by rw [HST.out, hxB]; simp⟩, by simp only [intOf]; omega⟩
          · have hltI : ¬ ((i : Int) < (L.length : Int)) := by omega
            have hie2 : i = L.length := by omega
            subst hie2
            rw [List.take_length]
            obtain ⟨D2, hD2⟩ : ∃ D2, numB [(3, 2), (64, 4), (64, 4), (1024, 4)] = D2 := ⟨_, rfl⟩
            have hD2l : D2 = [0, 3, 0, 0, 0, 64, 0, 0, 0, 64, 0, 0, 4, 0] := by rw [← hD2]; decide
            have HD2 := Lib.hid hD2l
            rw [hD2] at HF
            obtain ⟨P, hP⟩ : ∃ P, saidL ty ([(3, D1)] ++ (if 3 ∈ L then [(3, D2)] else [])) = P := ⟨_, rfl⟩
            have HP := Lib.hid hP
            obtain ⟨bb, hbb⟩ : ∃ bb, decide (3 ∈ L) = bb := ⟨_, rfl⟩
            have HBB := Lib.hid hbb
            rw [hbb]
            have t4 := HT0.out wc HS4.out
            have h32 : (optionReplyL (ty : Int) 3 D1).length = 32 := by rw [reply_len, H12.out]
            have H32 := Lib.hid h32
            clear hD2 hD2l hP hbb h32
            go_upto_if 58 with (fail)
            go_cut [8, 11] (fun v8 v11 wn => (∃ a5 c5, v8 = .slice a5 P.length c5 ∧ OwnB wn w1.heap.size (.slice a5 P.length c5) P) ∧ P.length ≤ 100 ∧ Below w1.heap.size w1 wn)
            case first =>
              cases bb with
              | true =>
                have h3 : 3 ∈ L := of_decide_eq_true HBB.out
                have hPe : P = optionReplyL (ty : Int) 3 D1 ++ optionReplyL (ty : Int) 3 D2 := by
                  rw [← HP.out, if_pos h3]; simp [saidL]
                have hb14 : Below w1.heap.size w1 (wc.alloc (Obj.cells (bs D2).toArray 5)) := HS4.out.alloc HS4.out.size _
                have hr14 := OwnB.rd (OwnB.lit wc D2 (by rw [HD2.out]; decide))
                have hdl : D2.length = 14 := by rw [HD2.out]; rfl
                have CR := roptionReply_any (ty : Int) 3 _ 14 14 D2 _ hdl (by omega) hr14
                have o14 := OwnG.alloc HO4.out (Obj.cells (bs D2).toArray 5)
                have t14 := HT0.out _ hb14
                have e14 : (bs D2).toArray = #[Value.int .u8 0, Value.int .u8 3, Value.int .u8 0, Value.int .u8 0, Value.int .u8 0, Value.int .u8 64, Value.int .u8 0, Value.int .u8 0, Value.int .u8 0, Value.int .u8 64, Value.int .u8 0, Value.int .u8 0, Value.int .u8 4, Value.int .u8 0] := by rw [HD2.out]; rfl
                rw [e14] at hb14 CR o14 t14
                clear hr14
                have HB14 := Lib.hid hb14
                have HCR := Lib.hid CR
                have HO14 := Lib.hid o14
                have HPE := Lib.hid hPe
                have HDL := Lib.hid hdl
                clear hb14 CR o14 hPe e14 hdl
                go_wp2_with fail
                refine HCR.out.mono ?_
                rintro e wd ⟨a6, n6, c6, rfl, hown6, hb6⟩
                have hn6 := OwnB.len hown6
                rw [reply_len, HDL.out] at hn6
                subst hn6
                have HO6 := Lib.hid (OwnG.below HO14.out hb6 : OwnB wd w1.heap.size (.slice a4 (20 + 12) c4) (optionReplyL (ty : Int) 3 D1))
                have HR6 := Lib.hid (OwnB.rd hown6)
                have HB6 := Lib.hid (HB14.out.trans (hb6.mono HB14.out.size))
                have HQ6 : Hid (w1.heap.size ≤ wd.heap.size) := Lib.hid HB6.out.size
                have S6 : Hid ((optionReplyL (ty : Int) 3 D1).length + (20 + 14) ≤ 140737488355328) := Lib.hid (by rw [H32.out]; omega)
                have HL6 : Hid ((optionReplyL (ty : Int) 3 D2).length = 20 + 14) := Lib.hid (by rw [reply_len, HDL.out])
                clear hown6 hb6
                go_wp2_with (at_builtin; refine wpList_app rfl _ _ rfl w1.heap.size _ _ rfl HO6.out wd.heap.size a6 (20 + 14) c6 (optionReplyL (ty : Int) 3 D2) rfl HL6.out HR6.out S6.out HQ6.out ?_)
                intro v7 w7 hown7 hgr7 hat7
                rw [← HPE.out] at hown7
                have hb7 : Below w1.heap.size w1 w7 := HB6.out.grown hgr7 HB6.out.size (fun z hz => (OwnG.lt HO6.out z hz).1)
                obtain ⟨a7, c7, rfl, _⟩ := OwnG.shape hown7
                have hPl : P.length ≤ 100 := by rw [HPE.out, List.length_append, H32.out, HL6.out]; omega
                have HFI := Lib.hid (And.intro hown7 (And.intro hPl hb7))
                clear hown7 hgr7 hat7 hb7 hPl
                go_wp2_with fail
                go_meet
                exact ⟨⟨a7, c7, rfl, HFI.out.1⟩, HFI.out.2.1, HFI.out.2.2⟩
              | false =>
                have h3 : ¬ 3 ∈ L := of_decide_eq_false HBB.out
                have hPe : P = optionReplyL (ty : Int) 3 D1 := by
                  rw [← HP.out, if_neg h3]; simp [saidL]
                have hPl : P.length = 32 := by rw [hPe, H32.out]
                go_wp2_with fail
                go_meet
                rw [hPl, hPe]
                exact ⟨⟨a4, c4, rfl, HO4.out⟩, by omega, HS4.out⟩
            case rest =>
              obtain ⟨⟨a5, c5, rfl, hO5⟩, hPl, hS5⟩ := hcut
              rename World => wd
              have HO5 := Lib.hid hO5
              have HS5 := Lib.hid hS5
              have HPL := Lib.hid hPl
              have hlast : lastKind (infoReps s data) = 1 := by rw [HF.out, lastKind, List.getLast?_concat]; rfl
              have hsaid : saidL ty (infoReps s data) = P ++ optionReplyL (ty : Int) 1 [] := by
                rw [HF.out, ← HP.out]
                simp only [saidL, List.flatMap_append]
                simp
              have HRR : Hid (R = (if ty = 7 then { s with phase := 2 } else s, P ++ optionReplyL (ty : Int) 1 [])) := Lib.hid (by
                rw [← HR.out, hsaid, hlast]
                simp)
              have hsz5 := hS5.size
              have t5 := HT0.out wd hS5
              have HKd := Lib.hid (HRX.out wd hS5)
              clear hO5 hS5 hPl hlast hsaid HO4 HS4 HF
              obtain ⟨s', hs'⟩ : ∃ s' : Sk, (if ty = 7 then { s with phase := 2 } else s) = s' := ⟨_, rfl⟩
              rw [hs'] at HRR
              have HS' := Lib.hid hs'
              clear hs'
              have hqd : q < wd.heap.size := Nat.lt_of_lt_of_le (Blk.lt HBO1.out) HS5.out.size
              have hgd : w.grownBy wd (some g) := grownQ (HB1.out.trans (HS5.out.mono HQ1.out)) HQ.out g
              have h3 : wd.cell? ⟨g, 3, none⟩ = some (.int .i64 (s.phase : Int)) := HKd.out.cell 3 _ rfl
              have f3 := Blk.frozen HKd.out 3
              have hgs : wd.grownBy (wd.setCell ⟨g, 3, none⟩ (.int .i64 2)) (some g) := grownBy_setI _
              have hown : ∀ wn, wd.grownBy wn (some g) → OwnB wn w1.heap.size (.slice a5 P.length c5) P := fun wn hg => OwnG.grown HO5.out hg (by
                cases hq : (Value.slice a5 P.length c5).ownBlock with
                | none => exact .inl rfl
                | some z => exact .inr (fun e => by injection e with e; have := (OwnG.lt HO5.out z hq).1; have := HGL.out; have := HQ1.out; omega))
              have HGS := Lib.hid hgs
              have HGD := Lib.hid hgd
              have HOW := Lib.hid hown
              have HT5 := Lib.hid t5
              have HQD := Lib.hid hqd
              have HZ5 := Lib.hid hsz5
              have hp7 : Blk (wd.setCell ⟨g, 3, none⟩ (.int .i64 2)) g 67 { s with phase := 2 : Sk }.cells := Blk.set HKd.out 3 (.int .i64 2)
              have HP7 := Lib.hid hp7
              clear hgs hgd hown hqd hsz5 hp7
              go_upto_if 68 with (fail)
              go_cut [8] (fun v wn => v = .slice a5 P.length c5 ∧ OwnB wn w1.heap.size (.slice a5 P.length c5) P ∧ RkAt wn g s' ∧ w.grownBy wn (some g) ∧ wn.cell? ⟨q, 0, none⟩ = some (.int .i64 (ty : Int)) ∧ w1.heap.size ≤ wn.heap.size)
              case first =>
                by_cases h7 : ty = 7
                · have h7B : ((ty : Int) == 7) = true := beq_iff_eq.2 (by omega)
                  have hs2 : s' = { s with phase := 2 } := by rw [← HS'.out, if_pos h7]
                  have HS2 := Lib.hid hs2
                  clear hs2 h7
                  go_wp2_with fail
                  go_meet
                  refine ⟨rfl, HOW.out _ HGS.out, by rw [HS2.out]; exact HP7.out, grown_trans HGD.out HGS.out, ?_, Nat.le_trans HZ5.out HGS.out.size⟩
                  exact (World.cell?_of_block (a := ⟨q, 0, none⟩) (HGS.out.block q HQD.out (fun e => by injection e with e; have := HGL.out; omega))).trans HT5.out
                · have h7B : ((ty : Int) == 7) = false := beq_eq_false_iff_ne.2 (by omega)
                  have h7I : ¬ (ty : Int) = 7 := by omega
                  have hs2 : s' = s := by rw [← HS'.out, if_neg h7]
                  have HS2 := Lib.hid hs2
                  clear hs2 h7
                  go_wp2_with fail
                  go_meet
                  exact ⟨rfl, HO5.out, by rw [HS2.out]; exact HKd.out, HGD.out, HT5.out, HZ5.out⟩
              case rest =>
                obtain ⟨rfl, hO9, hk9, hg9, t9, hz9⟩ := hcut
                rename World => wf
                have HO9 := Lib.hid hO9
                have HK9 := Lib.hid hk9
                have HG9 := Lib.hid hg9
                have HZ9 := Lib.hid hz9
                have HC9 := Lib.hid (roptionReply_any (ty : Int) 1 none 0 0 [] wf rfl (by omega) .nil)
                clear hO9 hk9 hg9 hz9 h3 f3 t5
                go_wp2_with fail
                refine HC9.out.mono ?_
                rintro e wg ⟨a6, n6, c6, rfl, hown6, hb6⟩
                have hn6 := OwnB.len hown6
                rw [reply_len] at hn6
                subst hn6
                have HO6 := Lib.hid (OwnG.below HO9.out hb6 : OwnB wg w1.heap.size (.slice a5 P.length c5) P)
                have HR6 := Lib.hid (OwnB.rd hown6)
                have HZ6 := Lib.hid (Nat.le_trans HZ9.out hb6.size)
                have S6 : Hid (P.length + (20 + ([] : List UInt8).length) ≤ 140737488355328) := Lib.hid (by have := HPL.out; simp only [List.length_nil]; omega)
                have HL6 : Hid ((optionReplyL (ty : Int) 1 []).length = 20 + ([] : List UInt8).length) := Lib.hid (by rw [reply_len])
                have HKg : Hid (RkAt wg g s') := Lib.hid (Blk.below HK9.out hb6)
                have HGg := Lib.hid (grown_below HG9.out hb6)
                clear hown6 hb6
                go_wp2_with (at_builtin; refine wpList_app rfl _ _ rfl w1.heap.size _ _ rfl HO6.out wg.heap.size a6 _ c6 (optionReplyL (ty : Int) 1 []) rfl HL6.out HR6.out S6.out HZ6.out ?_)
                intro v7 w7 hown7 hgr7 hat7
                obtain ⟨a7, c7, rfl, _⟩ := OwnG.shape hown7
                have hk7 : RkAt w7 g s' := Blk.keep HKg.out (hgr7.block g (Blk.lt HKg.out) (fun e => by have := (OwnG.lt HO6.out g e.symm).1; have := HGL.out; have := HQ1.out; omega))
                have hq7 : OwnB w7 q (.slice a7 (P ++ optionReplyL (ty : Int) 1 []).length c7) (P ++ optionReplyL (ty : Int) 1 []) := OwnG.base_mono hown7 HQ1.out
                have hg7 : w.grownBy w7 (some g) := ⟨hgr7.os.trans HGg.out.os, hgr7.tape.trans HGg.out.tape, hgr7.output.trans HGg.out.output, Nat.le_trans HGg.out.size hgr7.size, fun k hk hne => (hgr7.block k (by have := HGg.out.size; omega) (fun e => by have := (OwnG.lt HO6.out k e.symm).1; have := HQ1.out; have := HQ.out; omega)).trans (HGg.out.block k hk hne)⟩
                have HFI := Lib.hid (FIN.out _ _ _ _ _ hq7 hk7 hg7)
                clear hown7 hgr7 hat7 hk7 hq7 hg7
                go_wp2_with fail
                go_ret
                rw [HRR.out]
                exact HFI.out
  · rw [if_pos hie] at HF
    have hieB : (ie == 0) = false := beq_eq_false_iff_ne.2 hie
    have HC := Lib.hid (roptionReply_any (ty : Int) 2147483651 none 0 0 [] w1 rfl (by omega) .nil)
    go_wp2_with fail
    refine HC.out.mono ?_
    rintro e w2 ⟨a2, n2, c2, rfl, hown2, hb2⟩
    have HO2 := Lib.hid (OwnG.base_mono hown2 HQ1.out : OwnB w2 q _ _)
    have HK2 : Hid (RkAt w2 g s) := Lib.hid (Blk.below HK1.out hb2)
    have HB2 := Lib.hid (HB1.out.trans (hb2.mono HQ1.out))
    clear hown2 hb2 HC
    go_wp2_with fail
    go_ret
    rw [← HR.out, HF.out]
    have e3 : saidL ty [(2147483651, [])] = optionReplyL (ty : Int) 2147483651 [] := by simp [saidL]
    rw [e3, if_neg (fun h => absurd h.2 (by simp [lastKind]))]
    have hn2 := OwnB.len HO2.out
    subst hn2
    exact FIN.out _ _ _ _ _ HO2.out HK2.out (grownQ HB2.out HQ.out g)
end Go.Proofs.Ytnpcpbjoonjaoaa
