/- the document's wire: an option -/
import Derived.Test.YtnpcpbjoonjaoaaRW2
namespace Go.Proofs.Ytnpcpbjoonjaoaa
set_option linter.unusedVariables false
set_option linter.unusedSimpArgs false
open Go.RowKit

/-- An option's two cells, empty. -/
structure Blk2 (w : World) (g : Nat) : Prop where
  k0 : w.cell? ⟨g, 0, none⟩ = some (.int .i64 0)
  k1 : w.cell? ⟨g, 1, none⟩ = some (.slice none 0 0)
  f0 : w.frozen? ⟨g, 0, none⟩ = false
  f1 : w.frozen? ⟨g, 1, none⟩ = false
theorem Blk2.below {w w' : World} {B g : Nat} (h : Blk2 w g) (hb : Below B w w') (hg : g < B) : Blk2 w' g :=
  ⟨(hb.cell (by exact hg)).trans h.k0, (hb.cell (by exact hg)).trans h.k1, (hb.frozen (by exact hg)).trans h.f0, (hb.frozen (by exact hg)).trans h.f1⟩

set_option maxRecDepth 100000 in
set_option maxHeartbeats 2000000 in
theorem rtakeOpt_any (a : Option Addr) (n c : Nat) (b : List UInt8) (w : World) (hn : b.length = n) (hc : n ≤ c) (hc2 : c ≤ 9223372036854775807) (hr : Rd w w.heap.size a (bs b)) :
    Calls Try.prog 29 #[.slice a n c] w (OptPost (optR b) w) := by
  subst hn
  have HR := Lib.hid hr
  clear hr
  have HA := Lib.hid (rbegins_any a b.length c b ⟨#[73, 72, 65, 86, 69, 79, 80, 84]⟩ (w.alloc (.cells #[.int .i64 0, .slice none 0 0] 36)) rfl (by decide) ((HR.out.alloc (Nat.le_refl _) _).more (by rw [World.size_alloc]; omega)))
  have hB0 := (Below.refl w.heap.size w).alloc (Nat.le_refl _) (.cells #[.int .i64 0, .slice none 0 0] 36)
  have hK0 : Blk2 (w.alloc (.cells #[.int .i64 0, .slice none 0 0] 36)) w.heap.size := by
    refine ⟨?_, ?_, ?_, ?_⟩ <;> go_simp
  have hs0 : (w.alloc (.cells #[.int .i64 0, .slice none 0 0] 36)).heap.size = w.heap.size + 1 := World.size_alloc _ _
  have HK0 := Lib.hid hK0
  have HS0 := Lib.hid hs0
  clear hK0 hs0
  go_enter Try.func29, Try.ntmps29
  go_wp2_with fail
  refine HA.out.mono ?_
  rintro e w1 ⟨rfl, hb1⟩
  rw [HS0.out] at hb1
  have hk1 := HK0.out.below hb1 (by omega)
  have HB1 := Lib.hid (hB0.trans (hb1.mono (by omega)))
  have HZ1 : Hid (w.heap.size + 1 ≤ w1.heap.size) := Lib.hid (by have := hb1.size; have := HS0.out; omega)
  have HK1 := Lib.hid hk1
  obtain ⟨k0, k1, f0, f1⟩ := hk1
  clear HA hB0 hb1 HK0 HS0
  cases hb : beginsB b ihave with
  | false =>
    have HF : Hid (optR b = (0, [], 0, 201)) := Lib.hid (by rw [optR, if_pos hb])
    have hb' : beginsB b [73, 72, 65, 86, 69, 79, 80, 84] = false := hb
    rw [hb']
    clear hb hb'
    go_wp2_with fail
    refine bodyPost_ret (v := .tuple #[.agg #[.int .i64 0, .slice none 0 0], .int .i64 0, .int .i64 201]) (by simp [results, Try.results29, go_sem, k0, k1]) rfl ?_
    rw [HF.out]
    exact ⟨none, 0, 0, rfl, OwnB.nil _ _, (HB1.out.setCell (by simp) _).setCell (by simp) _⟩
  | true =>
    have hb' : beginsB b [73, 72, 65, 86, 69, 79, 80, 84] = true := hb
    rw [hb']
    clear hb'
    by_cases h16 : b.length < 16
    · have HF : Hid (optR b = (0, [], 0, 0)) := Lib.hid (by rw [optR, if_neg (by rw [hb]; simp), if_pos h16])
      have h16' : (b.length : Int) < 16 := by omega
      clear hb
      go_wp2_with fail
      refine bodyPost_ret (v := .tuple #[.agg #[.int .i64 0, .slice none 0 0], .int .i64 0, .int .i64 0]) (by simp [results, Try.results29, go_sem, k0, k1]) rfl ?_
      rw [HF.out]
      exact ⟨none, 0, 0, rfl, OwnB.nil _ _, (HB1.out.setCell (by simp) _).setCell (by simp) _⟩
    · have h16' : ¬ (b.length : Int) < 16 := by omega
      have n8 : ¬ c = 8 := by omega
      have n12 : ¬ c = 12 := by omega
      have m8 : (8 : Int) ≤ (b.length : Int) := by omega
      have m12 : (12 : Int) ≤ (b.length : Int) := by omega
      obtain ⟨bb, ob, rfl, hbb, _⟩ := HR.out.byte 0 (by omega)
      obtain ⟨ty, hty⟩ : ∃ v, numOf ((b.drop 8).take 4) = v := ⟨_, rfl⟩
      obtain ⟨nl, hnl⟩ : ∃ v, numOf ((b.drop 12).take 4) = v := ⟨_, rfl⟩
      have HF : Hid (optR b = if 1024 < nl then (0, [], 0, 201) else if b.length - 16 < nl then (0, [], 0, 0)
          else (ty, (b.drop 16).take nl, 16 + nl, 0)) := Lib.hid (by rw [optR, if_neg (by rw [hb]; simp), if_neg h16, hty, hnl])
      have hn1 := num4_lt (b.drop 8)
      have hn2 := num4_lt (b.drop 12)
      rw [hty] at hn1
      rw [hnl] at hn2
      have w1' : IntKind.i64.wrap (nl : Int) = (nl : Int) := IntWalk.i64_in _ (by omega)
      have w2' : IntKind.i64.wrap (ty : Int) = (ty : Int) := IntWalk.i64_in _ (by omega)
      have w2'' : wrap64 (ty : Int) = (ty : Int) := IntWalk.wrap64_in _ (by omega)
      have C0 := Lib.hid (rnum_still bb ob (b.length - 12) (c - 12) 4 12 4 rfl b w1 hnl rfl (by omega) (by omega) (HR.out.below HB1.out))
      have C1 : Hid (∀ wx, Below w.heap.size w wx → Calls Try.prog 48 #[.slice (some ⟨bb, ob + 8, none⟩) (b.length - 8) (c - 8), .int .i64 4] wx fun e w' => e = .returned (.int .u64 (ty : Int)) ∧ w' = wx) := Lib.hid (fun wx hx => rnum_still bb ob (b.length - 8) (c - 8) 4 8 4 rfl b wx hty rfl (by omega) (by omega) (HR.out.below hx))
      clear hb hty hnl
      go_wp2_with fail
      refine C0.out.mono ?_
      rintro e w2 ⟨rfl, hw2⟩
      subst hw2
      rename World => w1
      by_cases hbig : 1024 < nl
      · have hbigI : (1024 : Int) < (nl : Int) := by omega
        rw [if_pos hbig] at HF
        go_wp2_with fail
        refine bodyPost_ret (v := .tuple #[.agg #[.int .i64 0, .slice none 0 0], .int .i64 0, .int .i64 201]) (by simp [results, Try.results29, go_sem, k0, k1]) rfl ?_
        rw [HF.out]
        exact ⟨none, 0, 0, rfl, OwnB.nil _ _, (HB1.out.setCell (by simp) _).setCell (by simp) _⟩
      · have hbigI : ¬ (1024 : Int) < (nl : Int) := by omega
        rw [if_neg hbig] at HF
        have w3 : IntKind.i64.wrap (16 + (nl : Int)) = 16 + (nl : Int) := IntWalk.i64_in _ (by omega)
        by_cases hsh : b.length - 16 < nl
        · have hshI : (b.length : Int) < 16 + (nl : Int) := by omega
          rw [if_pos hsh] at HF
          go_wp2_with fail
          refine bodyPost_ret (v := .tuple #[.agg #[.int .i64 0, .slice none 0 0], .int .i64 0, .int .i64 0]) (by simp [results, Try.results29, go_sem, k0, k1]) rfl ?_
          rw [HF.out]
          exact ⟨none, 0, 0, rfl, OwnB.nil _ _, (HB1.out.setCell (by simp) _).setCell (by simp) _⟩
        · have hshI : ¬ ((b.length : Int) < 16 + (nl : Int)) := by omega
          rw [if_neg hsh] at HF
          have j1 : 16 + (nl : Int) ≤ (c : Int) := by omega
          have j2 : (16 : Int) ≤ 16 + (nl : Int) := by omega
          have j3 : (16 + (nl : Int)).toNat = 16 + nl := by omega
          have j0 : (0 : Int) ≤ 16 + (nl : Int) := by omega
          have j4 : (16 + (nl : Int) - 16).toNat = nl := by omega
          have j5 : 16 + nl - 16 = nl := by omega
          go_upto_region 11 with (fail)
          have hs1 : Below w.heap.size w w1 := HB1.out
          have hs2 : Below w.heap.size w w1.drew := HB1.out.drew
          have hs3 : Below w.heap.size w (w1.alloc (Obj.cells #[] 5)).drew := (HB1.out.alloc HB1.out.size _).drew
          have lT : ((b.drop 16).take nl).length = nl := by rw [List.length_take, List.length_drop]; omega
          have L1 : OwnB (w1.alloc (Obj.cells #[] 5)).drew w1.heap.size (.slice (some ⟨w1.heap.size, 0, none⟩) 0 0) [] := OwnG.drew (OwnB.lit0 w1)
          obtain ⟨ad, had⟩ : ∃ ad, (if c = 16 then some (⟨bb, ob, none⟩ : Addr) else some ⟨bb, ob + 16, none⟩) = ad := ⟨_, rfl⟩
          have R1 : Rd (w1.alloc (Obj.cells #[] 5)).drew w.heap.size ad (bs ((b.drop 16).take nl)) := by
            have h := (HR.out.below hs3).cut (k := 16) (cap := c) (by rw [bs_length]; exact hc)
            rw [Option.map_some, Addr.add_lit, had] at h
            rw [bs_take, bs_drop]
            exact h.take nl
          have N1 : w1.heap.size ≤ (w1.alloc (Obj.cells #[] 5)).drew.heap.size := by show w1.heap.size ≤ (w1.alloc (Obj.cells #[] 5)).heap.size; rw [World.size_alloc]; omega
          have S1 : ([] : List UInt8).length + nl ≤ 140737488355328 := by simp; omega
          have K1 : Hid (∀ (v3 : Value) w3, OwnB w3 w1.heap.size v3 ([] ++ (b.drop 16).take nl) → (w1.alloc (Obj.cells #[] 5)).drew.grownBy w3 (Value.slice (some ⟨w1.heap.size, 0, none⟩) 0 0).ownBlock → Below w.heap.size w w3 ∧ Blk2 w3 w.heap.size ∧ ∃ a3 c3, v3 = .slice a3 nl c3 ∧ OwnB w3 w1.heap.size (.slice a3 nl c3) ((b.drop 16).take nl)) := Lib.hid (fun v3 w3 ho hg => by
            have hb : Below w1.heap.size w1 w3 := (((Below.refl w1.heap.size w1).alloc (Nat.le_refl _) (Obj.cells #[] 5)).drew).grown hg N1 (fun z hz => by have hz : some w1.heap.size = some z := hz; injection hz with hz; omega)
            have ho : OwnB w3 w1.heap.size v3 ((b.drop 16).take nl) := ho
            obtain ⟨a3, c3, rfl, _⟩ := OwnG.shape ho
            rw [lT] at ho
            exact ⟨HB1.out.trans (hb.mono HB1.out.size), HK1.out.below hb (by have := HZ1.out; omega), a3, c3, by rw [lT], ho⟩)
          clear k0 k1 f0 f1
          go_upto_region 11 with (fail)
          go_cut [3, 4] (fun v3 v4 wn => ∃ a5 c5, v3 = .int .i64 ((16 + nl : Nat) : Int) ∧ v4 = .int .i64 0 ∧ wn.cell? ⟨w.heap.size, 0, none⟩ = some (.int .i64 ty) ∧ wn.cell? ⟨w.heap.size, 1, none⟩ = some (.slice a5 nl c5) ∧ OwnB wn w.heap.size (.slice a5 nl c5) ((b.drop 16).take nl) ∧ Below w.heap.size w wn)
          case first =>
            go_region_held3 (fun w' => Below w.heap.size w w')
              (first | assumption | go_keep | exact ((hb3.setCell (by simp) _).setCell (by simp) _))
              (first
                | ((with_reducible refine (C1.out _ (by assumption)).mono ?_); rintro e w2 ⟨rfl, rfl⟩; dsimp only)
                | (refine step_app (by rfl) (.tmp 33) (.tmp 37) (by rfl) w1.heap.size _ [] (by rfl) L1 w.heap.size ad nl (c - 16) ((b.drop 16).take nl) (by rfl) lT R1 S1 N1 ?_; intro v3 w3 hown3 hgr3 hat3; obtain ⟨hb3, ⟨k0, k1, f0, f1⟩, a3, c3, rfl, ho3⟩ := K1.out v3 w3 hown3 hgr3)
                | fail)
            all_goals go_wp2_with fail
            all_goals go_meet
            all_goals refine ⟨a3, c3, by go_num, rfl, by go_simp, by go_simp, ?_, (hb3.setCell (by simp) _).setCell (by simp) _⟩
            all_goals refine (ho3.base_mono HB1.out.size).keepB fun g hg hlt => ?_
            all_goals have := (ho3.lt g hg).1
            all_goals have hne : ¬ w.heap.size = g := by have := HZ1.out; omega
            all_goals simp [World.setCell, Array.getElem?_modify, hne]
          case rest =>
            obtain ⟨a5, c5, rfl, rfl, q0, q1, q2, q3⟩ := hcut
            go_wp2_with fail
            refine bodyPost_ret (v := .tuple #[.agg #[.int .i64 ty, .slice a5 nl c5], .int .i64 ((16 + nl : Nat) : Int), .int .i64 0]) (by simp [results, Try.results29, go_sem, q0, q1]) rfl ?_
            rw [HF.out]
            exact ⟨a5, nl, c5, rfl, q2, q3⟩
end Go.Proofs.Ytnpcpbjoonjaoaa
