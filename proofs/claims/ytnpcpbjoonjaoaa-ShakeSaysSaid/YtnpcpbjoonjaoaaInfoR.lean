/- the document's TakeInfo -/
import Derived.Test.YtnpcpbjoonjaoaaInfoT
namespace Go.Proofs.Ytnpcpbjoonjaoaa
set_option linter.unusedVariables false
set_option linter.unusedSimpArgs false
open Go.RowKit

/-- The numbers, one by one. -/
def RiR (w : World) (R : List UInt8) (m : Nat) (v vi : Value) (wr : World) : Prop :=
  ∃ i : Nat, i ≤ m ∧ vi = .int .i64 (i : Int) ∧ OwnI wr w.heap.size v i (numsL R i) ∧ Below w.heap.size w wr

set_option maxRecDepth 100000 in
set_option maxHeartbeats 2000000 in
theorem rtakeInfo_any (a : Option Addr) (n c : Nat) (b : List UInt8) (w : World) (hn : b.length = n) (hc : n ≤ c) (hc2 : n ≤ 140737488351232 ∧ c ≤ 9223372036854775807) (hr : Rd w w.heap.size a (bs b)) :
    Calls Try.prog 32 #[.slice a n c] w (InfoPost (infoR b) w) := by
  subst hn
  obtain ⟨hc3, hc2⟩ := hc2
  have HR := Lib.hid hr
  clear hr
  go_enter Try.func32, Try.ntmps32
  by_cases h6 : b.length < 6
  · have h6' : (b.length : Int) < 6 := by omega
    have HF : Hid (infoR b = ([], [], 201)) := Lib.hid (by rw [infoR, if_pos h6])
    go_wp2_with fail
    refine bodyPost_ret (v := .tuple #[.string ⟨#[]⟩, .slice none 0 0, .int .i64 201]) (by simp [results, Try.results32, go_sem]) rfl ?_
    rw [HF.out]
    exact ⟨none, 0, 0, rfl, OwnG.nil _ _ _ _, Below.refl _ _⟩
  · have h6' : ¬ (b.length : Int) < 6 := by omega
    obtain ⟨bb, ob, rfl, hbb, _⟩ := HR.out.byte 0 (by omega)
    obtain ⟨nl, hnl⟩ : ∃ v, numOf (b.take 4) = v := ⟨_, rfl⟩
    have hnb : nl < 4294967296 := by rw [← hnl]; exact num4_lt b
    have HNL := Lib.hid hnl
    have C1 : Hid (Calls Try.prog 48 #[.slice (some ⟨bb, ob, none⟩) b.length c, .int .i64 4] w fun e w' => e = .returned (.int .u64 (nl : Int)) ∧ w = w') := Lib.hid (by
      have h := rnum_any (some ⟨bb, ob, none⟩) b.length c 4 b w rfl (by omega) (by omega) HR.out
      rw [hnl] at h
      exact h)
    clear hnl
    go_wp2_with fail
    refine C1.out.mono ?_
    rintro e w1 ⟨rfl, rfl⟩
    have hlenb : (b.length : Int) ≤ 140737488351232 := by omega
    clear C1
    by_cases hbig : b.length - 6 < nl
    · have hbI : (b.length : Int) - 6 < (nl : Int) := by omega
      have HF : Hid (infoR b = ([], [], 201)) := Lib.hid (by rw [infoR, if_neg h6, HNL.out, if_pos hbig])
      go_wp2_with fail
      refine bodyPost_ret (v := .tuple #[.string ⟨#[]⟩, .slice none 0 0, .int .i64 201]) (by simp [results, Try.results32, go_sem]) rfl ?_
      rw [HF.out]
      exact ⟨none, 0, 0, rfl, OwnG.nil _ _ _ _, Below.refl _ _⟩
    · have hbI : ¬ ((b.length : Int) - 6 < (nl : Int)) := by omega
      have x1 : IntKind.i64.wrap (nl : Int) = (nl : Int) := IntWalk.i64_in _ (by omega)
      have nK : ¬ c = 4 + nl := by omega
      have mK : 4 + (nl : Int) ≤ (b.length : Int) := by omega
      have m0 : 0 ≤ 4 + (nl : Int) := by omega
      have m1 : (4 + (nl : Int)).toNat = 4 + nl := by omega
      obtain ⟨m, hm⟩ : ∃ v, numOf ((b.drop (4 + nl)).take 2) = v := ⟨_, rfl⟩
      have hmb : m < 65536 := by rw [← hm]; exact num2_lt _
      have x4 : IntKind.i64.wrap (m : Int) = (m : Int) := IntWalk.i64_in _ (by omega)
      have C2 := Lib.hid (rnum_still bb ob (b.length - (4 + nl)) (c - (4 + nl)) 2 (4 + nl) 2 rfl b w hm rfl (by omega) (by omega) HR.out)
      have HM := Lib.hid hm
      clear hm
      go_wp2_with fail
      refine C2.out.mono ?_
      rintro e w1 ⟨rfl, hw1⟩
      subst hw1
      rename World => w
      clear C2
      by_cases hne : b.length - (6 + nl) = 2 * m
      · have hI : (b.length : Int) = 4 + (nl : Int) + 2 + 2 * (m : Int) := by omega
        obtain ⟨R, hR⟩ : ∃ R, b.drop (6 + nl) = R := ⟨_, rfl⟩
        have HRR := Lib.hid hR
        have HF : Hid (infoR b = ((b.drop 4).take nl, numsL R m, 0)) := Lib.hid (by rw [infoR, if_neg h6, HNL.out, if_neg hbig, HM.out, if_neg (by omega), hR])
        have lT : ((b.drop 4).take nl).length = nl := by rw [List.length_take, List.length_drop]; omega
        have HLT := Lib.hid lT
        clear hR lT
        go_wp2_with fail
        go_loopw [8, 9] (fun v vi wr => RiR w R m v vi wr) (fun _ vi _ => m - (intOf vi).toNat)
        case atStart => exact ⟨0, Nat.zero_le _, rfl, OwnG.nil _ _ _ _, Below.refl _ _⟩
        case round =>
          obtain ⟨i, hi, rfl, hown, hb⟩ := hrel
          obtain ⟨av, cv, rfl, hcv⟩ := OwnG.shape hown
          have HOi := Lib.hid hown
          have HBi := Lib.hid hb
          clear hown hb hcv
          by_cases hlt : i < m
          · have hI2 : (i : Int) < (m : Int) := by omega
            have nJ : ¬ c = 4 + nl + 2 + 2 * i := by omega
            have mJ : 4 + (nl : Int) + 2 + 2 * (i : Int) ≤ (b.length : Int) := by omega
            have mJ0 : 0 ≤ 4 + (nl : Int) + 2 + 2 * (i : Int) := by omega
            have mJ1 : (4 + (nl : Int) + 2 + 2 * (i : Int)).toNat = 4 + nl + 2 + 2 * i := by omega
            obtain ⟨y, hy⟩ : ∃ y, numOf ((R.drop (2 * i)).take 2) = y := ⟨_, rfl⟩
            have hyb : y < 65536 := by rw [← hy]; exact num2_lt _
            have x5 : IntKind.i64.wrap (y : Int) = (y : Int) := IntWalk.i64_in _ (by omega)
            have hy2 : numOf ((b.drop (4 + nl + 2 + 2 * i)).take 2) = y := by
              rw [← hy, ← HRR.out, List.drop_drop]
              congr 3
              omega
            have C3 := Lib.hid (rnum_still bb ob (b.length - (4 + nl + 2 + 2 * i)) (c - (4 + nl + 2 + 2 * i)) 2 (4 + nl + 2 + 2 * i) 2 rfl b wr hy2 rfl (by omega) (by omega) (HR.out.below HBi.out))
            have HY : Hid (numsL R (i + 1) = numsL R i ++ [y]) := Lib.hid (by rw [numsL_succ, hy])
            clear hy hy2
            go_wp2_with fail
            refine C3.out.mono ?_
            rintro e w4 ⟨rfl, hw4⟩
            subst hw4
            rename World => w4
            have HO5 : Hid (OwnI (w4.alloc (Obj.cells #[Value.int .i64 (y : Int)] 3)) w.heap.size (.slice av i cv) i (numsL R i)) := Lib.hid (OwnG.alloc HOi.out _)
            have HB5 : Hid (Below w.heap.size w (w4.alloc (Obj.cells #[Value.int .i64 (y : Int)] 3))) := Lib.hid (HBi.out.alloc HBi.out.size _)
            have HR5 : Hid (Rd (w4.alloc (Obj.cells #[Value.int .i64 (y : Int)] 3)) (w4.heap.size + 1) (some ⟨w4.heap.size, 0, none⟩) [Value.int .i64 (y : Int)]) := Lib.hid (rd_int1 w4 y)
            have HZ5 : Hid (w.heap.size ≤ (w4.alloc (Obj.cells #[Value.int .i64 (y : Int)] 3)).heap.size) := Lib.hid HB5.out.size
            have HI1 : Hid (i ≤ 1000000) := Lib.hid (by omega)
            clear C3
            go_wp2_with (at_builtin; refine wpList_appI rfl _ _ rfl w.heap.size _ i (numsL R i) rfl HO5.out HI1.out (w4.heap.size + 1) (some ⟨w4.heap.size, 0, none⟩) 1 y rfl HR5.out HZ5.out ?_)
            intro v6 w6 hown6 hgr6 hat6
            have hfin : RiR w R m v6 (.int .i64 ((i : Int) + 1)) w6 := ⟨i + 1, hlt, by go_num, by rw [HY.out]; exact hown6, HB5.out.grown hgr6 HZ5.out (fun z hz => (OwnG.lt HO5.out z hz).1)⟩
            obtain ⟨a6, c6, rfl, _⟩ := OwnG.shape hown6
            have HFIN := Lib.hid hfin
            clear hown6 hgr6 hat6 hfin
            go_wp2_with fail
            all_goals go_roundw
            all_goals first
              | (case measure => simp [intOf]; omega)
              | exact HFIN.out
          · have him : i = m := by omega
            subst him
            have nJ : ¬ c = 4 := by omega
            have z1 : (4 : Int) ≤ 4 + (nl : Int) := by omega
            have z2 : 4 + (nl : Int) ≤ (c : Int) := by omega
            have z3 : 4 + nl - 4 = nl := by omega
            have hcv := conv_rd (w := wr) (Bd := w.heap.size) (a := some ⟨bb, ob + 4, none⟩) (l := (b.drop 4).take nl) (by
              have h := ((HR.out.below HBi.out).drop 4).take nl
              rw [Option.map_some, Addr.add_lit, ← bs_drop, ← bs_take] at h
              exact h) nl (c - 4) HLT.out
            go_wp2_with fail
            refine bodyPost_ret (v := .tuple #[.string ⟨((b.drop 4).take nl).toArray⟩, .slice av i cv, .int .i64 0]) (by simp [results, Try.results32, go_sem]) rfl ?_
            rw [HF.out]
            exact ⟨av, i, cv, rfl, HOi.out, HBi.out⟩
      · have hI : ¬ ((b.length : Int) = 4 + (nl : Int) + 2 + 2 * (m : Int)) := by omega
        have HF : Hid (infoR b = ([], [], 201)) := Lib.hid (by rw [infoR, if_neg h6, HNL.out, if_neg hbig, HM.out, if_pos hne])
        go_wp2_with fail
        refine bodyPost_ret (v := .tuple #[.string ⟨#[]⟩, .slice none 0 0, .int .i64 201]) (by simp [results, Try.results32, go_sem]) rfl ?_
        rw [HF.out]
        exact ⟨none, 0, 0, rfl, OwnG.nil _ _ _ _, Below.refl _ _⟩
end Go.Proofs.Ytnpcpbjoonjaoaa
