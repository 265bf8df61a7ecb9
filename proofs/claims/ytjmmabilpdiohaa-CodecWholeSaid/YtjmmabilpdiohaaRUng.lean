/- the reference's Ungroup -/
import Derived.Test.YtjmmabilpdiohaaUng3
import Derived.Test.YtjmmabilpdiohaaRGet
import Derived.Test.YtjmmabilpdiohaaRGroup
namespace Go.Proofs.Ytjmmabilpdiohaa
set_option linter.unusedVariables false
set_option linter.unusedSimpArgs false
open Go.RowKit

theorem wrL_parse1 (L : List UInt8) (h : 69 ≤ L.length) : wrL (parse1 L) = L.take 69 := by
  have h1 : L.take 1 = [L[0]'(by omega)] := by
    cases L with
    | nil => simp at h
    | cons x t => simp
  have h2 : UInt8.ofNat ((numOf (L.take 1) : Int).toNat) = L[0]'(by omega) := by rw [h1]; simp [numOf]
  have h4 : ((L.drop 1).take 4).length = 4 := by rw [List.length_take, List.length_drop]; omega
  have h3 : bytesOf ((numOf ((L.drop 1).take 4) : Int).toNat) 4 = (L.drop 1).take 4 := by
    have := bytesOf_numOf ((L.drop 1).take 4)
    rw [h4] at this
    simpa using this
  have e : L.take 69 = L.take 1 ++ ((L.drop 1).take 4 ++ (L.drop 5).take 64) := by
    rw [show (69 : Nat) = 1 + (4 + 64) by rfl, List.take_add, List.take_add, List.drop_drop]
  unfold wrL parse1
  simp only
  rw [h2, h3, e, h1]
  rfl

theorem flat_parse (n : Nat) : ∀ R : List UInt8, R.length = n * 69 → (parseN n R).flatMap wrL = R := by
  induction n with
  | zero => intro R h; have : R = [] := List.eq_nil_of_length_eq_zero (by omega); subst this; rfl
  | succ n ih =>
    intro R h
    rw [parseN, List.flatMap_cons, wrL_parse1 R (by omega), ih _ (by rw [List.length_drop]; omega), List.take_append_drop]

theorem rung_pure (b : List UInt8) (k : Nat) (h1 : k ≤ 101) (h2 : k = 0 ∨ 2 + k * 69 ≤ b.length) (h3 : k = 101 ∨ b.length < 2 + k * 69 + 69) :
    ((groupOk (parseN k (b.drop 2)) = true ∧ groupL (parseN k (b.drop 2)) = b) ↔ ungOk b = true) ∧ (ungOk b = true → ungW b = parseN k (b.drop 2)) := by
  have key : ungOk b = true → k = ungN b := fun hu => by
    simp only [ungOk, Bool.and_eq_true, decide_eq_true_eq] at hu
    obtain ⟨u1, u2, u3, u4⟩ := hu
    omega
  refine ⟨⟨fun ⟨hg, hb⟩ => ?_, fun hu => ?_⟩, fun hu => ?_⟩
  · have hg' := hg
    simp only [groupOk, Bool.and_eq_true, decide_eq_true_eq, parseN_length] at hg'
    rw [groupL, hg, if_pos rfl, parseN_length] at hb
    have hlen : b.length = 2 + 69 * k := by
      rw [← hb, List.length_append, bytesOf_length, flat69 _ hg'.2, parseN_length]
    have ht : b.take 2 = bytesOf k 2 := by
      rw [← hb, List.take_append_of_le_length (by rw [bytesOf_length]; omega), List.take_of_length_le (by rw [bytesOf_length]; omega)]
    have hN : ungN b = k := by rw [ungN, ht, numOf_bytesOf]; omega
    simp only [ungOk, Bool.and_eq_true, decide_eq_true_eq, hN]
    exact ⟨by omega, hg'.1, by omega, hg'.2⟩
  · have hk := key hu
    simp only [ungOk, Bool.and_eq_true, decide_eq_true_eq] at hu
    obtain ⟨u1, u2, u3, u4⟩ := hu
    rw [← hk] at u2 u3 u4
    have hg : groupOk (parseN k (b.drop 2)) = true := by
      simp only [groupOk, Bool.and_eq_true, decide_eq_true_eq, parseN_length]
      exact ⟨u2, u4⟩
    refine ⟨hg, ?_⟩
    rw [groupL, hg, if_pos rfl, parseN_length, flat_parse k _ (by rw [List.length_drop]; omega)]
    have : bytesOf k 2 = b.take 2 := by
      have h := bytesOf_numOf (b.take 2)
      rw [List.length_take, show min 2 b.length = 2 by omega] at h
      rw [hk, ungN]; exact h
    rw [this, List.take_append_drop]
  · rw [ungW, hu, if_pos rfl, ← key hu]

/-- What has been read: k writes, from the third byte on. -/
def RUngRel (b : List UInt8) (w : World) (v i : Value) (wr : World) : Prop :=
  ∃ k : Nat, i = .int .i64 ((2 + k * 69 : Nat) : Int) ∧ k ≤ 101 ∧ (k = 0 ∨ 2 + k * 69 ≤ b.length) ∧ (∃ a c, v = .slice a k c) ∧ WOwn wr w.heap.size wr.heap.size v (parseN k (b.drop 2)) ∧ Below w.heap.size w wr

set_option maxRecDepth 100000 in
set_option maxHeartbeats 2000000 in
theorem rungroup_any (a : Option Addr) (n c : Nat) (b : List UInt8) (w : World) (hn : b.length = n) (hc : n ≤ c) (hc2 : c ≤ 9223372036854775807) (hr : Rd w w.heap.size a (bs b)) :
    Calls Try.prog 22 #[.slice a n c] w (UngPost b w) := by
  subst hn
  have HR := Lib.hid hr
  clear hr
  go_enter Try.func22, Try.ntmps22
  go_wp2_with fail
  go_loopw [4, 5] (fun v i wr => RUngRel b w v i wr) (fun _ i _ => b.length + 100 - (intOf i).toNat)
  case atStart => exact ⟨0, rfl, Nat.zero_le _, .inl rfl, ⟨_, _, rfl⟩, WOwn.nil _ _, Below.refl _ _⟩
  case round =>
    obtain ⟨k, rfl, hk, hkb, ⟨av, cv, rfl⟩, how, hbl⟩ := hrel
    have HOW := Lib.hid how
    have HB := Lib.hid hbl
    have hbz := hbl.size
    clear how hbl
    obtain ⟨q, hq⟩ : ∃ q, 2 + k * 69 = q := ⟨_, rfl⟩
    rw [hq] at hkb ⊢
    have HQ := Lib.hid hq
    clear hq
    have hw69 : IntKind.i64.wrap ((q : Int) + 69) = (q : Int) + 69 := IntWalk.i64_in _ (by have := HQ.out; omega)
    by_cases hlt : q + 69 ≤ b.length
    · by_cases hk1 : k < 101
      · have t1 : decide ((q : Int) + 69 ≤ (b.length : Int)) = true := decide_eq_true (by omega)
        have t2 : decide ((k : Int) < 101) = true := decide_eq_true (by omega)
        obtain ⟨bb, ob, rfl, hbb, hcb⟩ := (HR.out.below HB.out).byte q (by omega)
        have HBB := Lib.hid (HR.out.below HB.out)
        have R1 : Rd wr w.heap.size (some ⟨bb, ob + (q + 1), none⟩) (bs ((b.drop (q + 1)).take 4)) := by
          rw [bs_take, bs_drop]; exact (HBB.out.drop (q + 1)).take 4
        have l1 : ((b.drop (q + 1)).take 4).length = 4 := by rw [List.length_take, List.length_drop]; omega
        have CG := Lib.hid (rget_any (some ⟨bb, ob + (q + 1), none⟩) 4 (c - (q + 1)) _ wr l1 R1)
        have HV : Hid (getV ((b.drop (q + 1)).take 4) = (numOf ((b.drop (q + 1)).take 4) : Int)) := Lib.hid (by rw [getV, l1]; simp)
        rw [HV.out] at CG
        have R5 : Rd wr w.heap.size (some ⟨bb, ob + (q + 5), none⟩) (bs ((b.drop (q + 5)).take 64)) := by
          rw [bs_take, bs_drop]; exact (HBB.out.drop (q + 5)).take 64
        have l5 : ((b.drop (q + 5)).take 64).length = 64 := by rw [List.length_take, List.length_drop]; omega
        have HP : Hid (parse1 ((b.drop 2).drop (k * 69)) = (((b[q]'(by omega)).toNat : Int), (numOf ((b.drop (q + 1)).take 4) : Int), (b.drop (q + 5)).take 64)) := Lib.hid (by
          rw [List.drop_drop, HQ.out, parse1_at b q (by omega)])
        have hs1 : numOf ((b.drop (q + 1)).take 4) < 4294967296 := by
          have h1 := numOf_lt ((b.drop (q + 1)).take 4)
          rw [l1] at h1; omega
        have hd1 := (b[q]'(by omega)).toNat_lt
        generalize numOf ((b.drop (q + 1)).take 4) = s at CG HP hs1
        generalize (b.drop (q + 5)).take 64 = dt at HP R5 l5
        generalize b[q]'(by omega) = d at hcb HP hd1
        have HR5 := Lib.hid R5
        have L5 := Lib.hid l5
        clear R1 l1 HV R5 l5
        go_wp2_with fail
        refine CG.out.mono ?_
        rintro e w' ⟨rfl, rfl⟩
        clear CG
        by_cases hs : 2048 ≤ s
        · have hsI : (2048 : Int) ≤ (s : Int) := by omega
          have hz : ungOk b = false := by
            cases hu : ungOk b with
            | false => rfl
            | true =>
              exfalso
              simp only [ungOk, Bool.and_eq_true, decide_eq_true_eq] at hu
              obtain ⟨u1, u2, u3, u4⟩ := hu
              have hkN : k < ungN b := by have := HQ.out; omega
              have h1 : parseN (ungN b) (b.drop 2) = parseN (k + 1) (b.drop 2) ++ parseN (ungN b - (k + 1)) ((b.drop 2).drop ((k + 1) * 69)) := parseN_add (k + 1) (ungN b - (k + 1)) _ (by omega) _
              rw [h1, parseN_succ, HP.out, List.all_append, List.all_append] at u4
              simp [mayW] at u4
              omega
          have HZ := Lib.hid hz
          clear hz
          go_wp2_with fail
          go_ret2
          refine ⟨none, 0, ?_, ?_, HB.out⟩
          · rw [ungW, ungE, HZ.out]; rfl
          · rw [ungW, HZ.out]; intro i hi; simp at hi
        · have hsI : ¬ (2048 : Int) ≤ (s : Int) := by omega
          have hwd : IntKind.i64.wrap (d.toNat : Int) = (d.toNat : Int) := IntWalk.i64_in _ (by omega)
          have hws : IntKind.i64.wrap (s : Int) = (s : Int) := IntWalk.i64_in _ (by omega)
          go_wp2_with fail
          obtain ⟨how0, how1, xs, hx, hcl⟩ := HOW.out
          have HPL := Lib.hid (parseN_length k (b.drop 2))
          have HX := Lib.hid hx
          have HCL := Lib.hid hcl
          have HHV := Lib.hid how1
          rw [HPL.out] at HX
          clear hx hcl how1
          have RR5 : Rd ((wr.alloc (Obj.cells #[] 5)).drew) w.heap.size (some ⟨bb, ob + (q + 5), none⟩) (bs dt) := Rd.drew (HR5.out.alloc hbz _)
          have L1 : OwnB ((wr.alloc (Obj.cells #[] 5)).drew) wr.heap.size (.slice (some ⟨wr.heap.size, 0, none⟩) 0 0) [] := OwnB.drew (OwnB.lit0 wr)
          have HB0 : Below wr.heap.size wr ((wr.alloc (Obj.cells #[] 5)).drew) := ((Below.refl _ _).alloc (Nat.le_refl _) _).drew
          have N0 : wr.heap.size ≤ ((wr.alloc (Obj.cells #[] 5)).drew).heap.size := by simp
          have K1 : ∀ v1 w1, OwnB w1 wr.heap.size v1 ([] ++ dt) → ((wr.alloc (Obj.cells #[] 5)).drew).grownBy w1 (Value.slice (some ⟨wr.heap.size, 0, none⟩) 0 0).ownBlock →
              ∃ g1 o1 c1, v1 = .slice (some ⟨g1, o1, none⟩) 64 c1 ∧ wr.heap.size ≤ g1 ∧ g1 < w1.heap.size ∧ 64 ≤ c1 ∧ c1 ≤ 9223372036854775807 ∧ Rd w1 w1.heap.size (some ⟨g1, o1, none⟩) (bs dt) ∧ Below wr.heap.size wr w1 := fun v1 w1 h1 h2 => by
            rw [List.nil_append] at h1
            obtain ⟨a', c', rfl, hle⟩ := h1.shape
            have hrd := h1.rd
            obtain ⟨g, off, rfl, hn, h3, h4, h5, _⟩ := h1.formS (by rw [L5.out]; omega)
            have hcm : c' ≤ 9223372036854775807 := by
              rcases h1.2 with ⟨h', _⟩ | ⟨_, _, _, _, _, _, hv, _, _, _, _, _, hm, _⟩
              · cases h'
              · injection hv with _ _ e; unfold maxLen at hm; omega
            rw [L5.out] at h5 ⊢
            exact ⟨g, off, c', rfl, h3, h4, h5, hcm, hrd, below_app HB0 L1 (Nat.le_refl _) h2⟩
          have f1 : (0 : Int) ≤ (q : Int) := by omega
          have f2 : (q : Int) < (b.length : Int) := by omega
          have f3 : IntKind.i64.wrap ((q : Int) + 5) = (q : Int) + 5 := IntWalk.i64_in _ (by omega)
          have f4 : 0 ≤ (q : Int) + 5 := by omega
          have f5 : ((q : Int) + 5).toNat = q + 5 := by omega
          have f6 : 0 ≤ (q : Int) + 69 := by omega
          have f7 : ((q : Int) + 69).toNat = q + 69 := by omega
          have f8 : (q : Int) + 5 ≤ (q : Int) + 69 := by omega
          have f9 : (q : Int) + 69 ≤ (c : Int) := by omega
          have f10 : q + 69 - (q + 5) = 64 := by omega
          have f11 : ¬ c = q + 5 := by omega
          have HCW : Hid (w.cell? ⟨bb, ob + q, none⟩ = some (.int .u8 (d.toNat : Int))) := Lib.hid ((HB.out.cell (by exact hbb)).symm.trans hcb)
          go_region_held3 (fun w' => w'.cell? ⟨bb, ob + q, none⟩ = some (.int .u8 (d.toNat : Int)))
            (first | go_keep | exact (hb1.cell (by show bb < wr.heap.size; omega)).trans hcb | exact ((hb1.alloc hb1.size _).cell (by show bb < wr.heap.size; omega)).trans hcb | exact (HB2.out.cell (by exact hbb)).trans HCW.out)
            (first
              | (refine step_app (by rfl) (.tmp 42) (.tmp 48) (by rfl) wr.heap.size _ [] (by rfl) L1 w.heap.size (some ⟨bb, ob + (q + 5), none⟩) 64 (c - (q + 5)) dt (by rfl) L5.out RR5 (by simp) N0 ?_; intro v1 w1 hown1 hgr1 hat1; obtain ⟨g1, o1, c1, rfl, hg1, hg1', hc1, hc1', hrd1, hb1⟩ := K1 v1 w1 hown1 hgr1; have hbs1 := hb1.size)
              | (refine step_append_g (by rfl) (.tmp 34) (.tmp 51) 37 (by rfl) w.heap.size 47 (.agg #[.int .i64 0, .int .i64 0, .slice none 0 0]) 3 40 Try.underlying37 info_w rfl (by omega) _ k xs (by rfl) ((HX.out.below hb1).alloc _) (w1.heap.size + 1) (some ⟨w1.heap.size, 0, none⟩) 1 1 [.int .i64 d.toNat, .int .i64 s, .slice (some ⟨g1, o1, none⟩) 64 c1] (by rfl) rfl (Rd.new w1 _ _) (one3 _ _ _ _ _) (by omega) (by omega) (by simp; omega) ?_; intro v2 w2 hown2 hgr2 hat2; obtain ⟨a2, c2, rfl, hle2⟩ := hown2.shape; have HB2 : Hid (Below w.heap.size w w2) := Lib.hid (below_app ((HB.out.trans (hb1.mono hbz)).alloc (by omega) _) (HX.out.below hb1) (Nat.le_refl _) hgr2)))
          have hown5 : OwnG w2 w.heap.size 47 3 (Value.slice a2 (k + 1) c2) ((parseN k (b.drop 2)).length + 1) (xs ++ [.int .i64 (d.toNat : Int), .int .i64 s, .slice (some ⟨g1, o1, none⟩) dt.length c1]) := by rw [HPL.out, L5.out]; exact hown2
          have WA := WOwn.append (Nat.le_trans how0 hbs1) HHV.out (by rw [HPL.out]; exact HX.out.below hb1) (HCL.out.below how0 hb1) hown5 hgr2 hat2 (by rw [L5.out]; exact hc1) hc1' hrd1 hg1 (by omega) hg1' (show okW ((d.toNat : Int), (s : Int), dt) from ⟨by simp, by simp; omega, by simp, by simp; omega, L5.out⟩)
          have HWA := Lib.hid WA
          clear WA hown5 hown2 hgr2 hat2 hrd1 hb1 hown1 hgr1 hat1 K1 L1 RR5 HB0
          go_wp2_with fail
          go_roundw
          case rel =>
            refine ⟨k + 1, ?_, by omega, .inr (by have := HQ.out; omega), ⟨_, _, rfl⟩, ?_, HB2.out⟩
            · have := HQ.out
              have e : ((2 + (k + 1) * 69 : Nat) : Int) = (q : Int) + 69 := by omega
              rw [e]
            · rw [parseN_succ, HP.out]; exact HWA.out
          case measure => simp [intOf]; have := HQ.out; omega
      · have t1 : decide ((q : Int) + 69 ≤ (b.length : Int)) = true := decide_eq_true (by omega)
        have t2 : decide ((k : Int) < 101) = false := decide_eq_false (by omega)
        go_wp2_with fail
        obtain ⟨hk0, hin⟩ := HOW.out.in
        refine (rgroup_any av k cv (parseN k (b.drop 2)) wr hk0.symm hin).mono ?_
        rintro e w2 ⟨a2, n2, c2, rfl, hown2, hb2⟩
        have HPU := Lib.hid (rung_pure b k hk (by have := HQ.out; omega) (by have := HQ.out; omega))
        have cv1 := conv_rd hown2.rd n2 c2 hown2.len
        have cv2 := conv_rd (HR.out.below (HB.out.trans (hb2.mono hbz))) b.length c rfl
        have HIN := Lib.hid (hin.below hb2)
        have HB2 := Lib.hid (HB.out.trans (hb2.mono hbz))
        have HK0 := Lib.hid hk0
        clear hin hk0 hown2 hb2
        cases hu : ungOk b with
        | true =>
          have hgk := HPU.out.1.2 hu
          have hge : groupE (parseN k (b.drop 2)) = 0 := by rw [groupE, hgk.1]; rfl
          rw [hgk.2] at cv1
          have HW := Lib.hid (HPU.out.2 hu)
          have HU : Hid (ungE b = 0) := Lib.hid (by rw [ungE, hu]; rfl)
          rw [hge]
          clear hgk hge hu
          go_wp2_with fail
          go_ret2
          refine ⟨av, cv, ?_, ?_, HB2.out⟩
          · rw [HW.out, HU.out, ← HK0.out]; rfl
          · rw [HW.out]; exact HIN.out
        | false =>
          have HW : Hid (ungW b = []) := Lib.hid (by rw [ungW, hu]; rfl)
          have HU : Hid (ungE b = 81) := Lib.hid (by rw [ungE, hu]; rfl)
          cases hgo : groupOk (parseN k (b.drop 2)) with
          | false =>
            have hge : groupE (parseN k (b.drop 2)) = 81 := by rw [groupE, hgo]; rfl
            rw [hge]
            clear hgo hge hu
            go_wp2_with fail
            go_ret2
            refine ⟨none, 0, by rw [HW.out, HU.out]; rfl, ?_, HB2.out⟩
            rw [HW.out]; intro i hi; simp at hi
          | true =>
            have hge : groupE (parseN k (b.drop 2)) = 0 := by rw [groupE, hgo]; rfl
            have hne : ¬ groupL (parseN k (b.drop 2)) = b := fun h => by
              have := HPU.out.1.1 ⟨hgo, h⟩
              rw [hu] at this; cases this
            have hbq : (groupL (parseN k (b.drop 2)) == b) = false := beq_false_of_ne hne
            rw [hge]
            clear hgo hge hu hne
            generalize groupL (parseN k (b.drop 2)) = gl at cv1 hbq
            go_wp2_with fail
            go_ret2
            refine ⟨none, 0, by rw [HW.out, HU.out]; rfl, ?_, HB2.out⟩
            rw [HW.out]; intro i hi; simp at hi
    · have t1 : decide ((q : Int) + 69 ≤ (b.length : Int)) = false := decide_eq_false (by omega)
      go_wp2_with fail
      obtain ⟨hk0, hin⟩ := HOW.out.in
      refine (rgroup_any av k cv (parseN k (b.drop 2)) wr hk0.symm hin).mono ?_
      rintro e w2 ⟨a2, n2, c2, rfl, hown2, hb2⟩
      have HPU := Lib.hid (rung_pure b k hk (by have := HQ.out; omega) (by have := HQ.out; omega))
      have cv1 := conv_rd hown2.rd n2 c2 hown2.len
      have cv2 := conv_rd (HR.out.below (HB.out.trans (hb2.mono hbz))) b.length c rfl
      have HIN := Lib.hid (hin.below hb2)
      have HB2 := Lib.hid (HB.out.trans (hb2.mono hbz))
      have HK0 := Lib.hid hk0
      clear hin hk0 hown2 hb2
      cases hu : ungOk b with
      | true =>
        have hgk := HPU.out.1.2 hu
        have hge : groupE (parseN k (b.drop 2)) = 0 := by rw [groupE, hgk.1]; rfl
        rw [hgk.2] at cv1
        have HW := Lib.hid (HPU.out.2 hu)
        have HU : Hid (ungE b = 0) := Lib.hid (by rw [ungE, hu]; rfl)
        rw [hge]
        clear hgk hge hu
        go_wp2_with fail
        go_ret2
        refine ⟨av, cv, ?_, ?_, HB2.out⟩
        · rw [HW.out, HU.out, ← HK0.out]; rfl
        · rw [HW.out]; exact HIN.out
      | false =>
        have HW : Hid (ungW b = []) := Lib.hid (by rw [ungW, hu]; rfl)
        have HU : Hid (ungE b = 81) := Lib.hid (by rw [ungE, hu]; rfl)
        cases hgo : groupOk (parseN k (b.drop 2)) with
        | false =>
          have hge : groupE (parseN k (b.drop 2)) = 81 := by rw [groupE, hgo]; rfl
          rw [hge]
          clear hgo hge hu
          go_wp2_with fail
          go_ret2
          refine ⟨none, 0, by rw [HW.out, HU.out]; rfl, ?_, HB2.out⟩
          rw [HW.out]; intro i hi; simp at hi
        | true =>
          have hge : groupE (parseN k (b.drop 2)) = 0 := by rw [groupE, hgo]; rfl
          have hne : ¬ groupL (parseN k (b.drop 2)) = b := fun h => by
            have := HPU.out.1.1 ⟨hgo, h⟩
            rw [hu] at this; cases this
          have hbq : (groupL (parseN k (b.drop 2)) == b) = false := beq_false_of_ne hne
          rw [hge]
          clear hgo hge hu hne
          generalize groupL (parseN k (b.drop 2)) = gl at cv1 hbq
          go_wp2_with fail
          go_ret2
          refine ⟨none, 0, by rw [HW.out, HU.out]; rfl, ?_, HB2.out⟩
          rw [HW.out]; intro i hi; simp at hi
end Go.Proofs.Ytjmmabilpdiohaa
