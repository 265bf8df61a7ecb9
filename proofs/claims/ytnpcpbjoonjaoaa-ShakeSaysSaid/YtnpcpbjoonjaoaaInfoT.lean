/- wire: TakeInfo -/
import Derived.Test.YtnpcpbjoonjaoaaInfo
namespace Go.Proofs.Ytnpcpbjoonjaoaa
set_option linter.unusedVariables false
set_option linter.unusedSimpArgs false
open Go.RowKit

theorem conv_rd_t {w : World} {Bd : Nat} {a : Option Addr} {l : List UInt8} (h : Rd w Bd a (bs l)) (n cap : Nat) (hn : l.length = n) :
    (convert 78 9 (.slice a n cap)).run Try.prog w = .ok (.string ⟨l.toArray⟩) w := by
  subst hn
  rcases h with h | ⟨b, off, rfl, _, hc⟩
  · have h0 : l = [] := by simpa [bs] using h
    subst h0
    rw [run_convert_bytes_string w 78 9 5 _ _ cap Try.underlying78 Try.underlying5 Try.underlying9]
    cases a <;> simp [Conv.bytesToString, loadCells] <;> rfl
  · have := run_convert_bytes_arg (P := Try.prog) w 78 5 Try.underlying78 Try.underlying5 b off l.length cap (l.map fun x => (x.toNat : Int)) (by simp) (fun i hi => by
      rw [hc i _ (bs_get l i hi)]
      simp [List.getD, hi]) 9 Try.underlying9
    rw [this]
    have e : strOfNums (l.map fun x => (x.toNat : Int)) = ⟨l.toArray⟩ := by simp [strOfNums, Function.comp_def]
    rw [e]

theorem num2_le (l : List UInt8) : numOf (l.take 2) < 65536 := num2_lt l

/-- The numbers, one by one. -/
def TiR (w : World) (R : List UInt8) (m : Nat) (v : Value) (wr : World) : Prop :=
  ∃ i : Nat, i ≤ m ∧ RS wr w.heap.size w.heap.size (R.drop (2 * i)) ∧ OwnI wr (w.heap.size + 1) v i (numsL R i) ∧ Below w.heap.size w wr ∧ w.heap.size + 1 ≤ wr.heap.size

set_option maxRecDepth 100000 in
set_option maxHeartbeats 2000000 in
theorem takeInfo_any (a : Option Addr) (n c : Nat) (b : List UInt8) (w : World) (hn : b.length = n) (hc : n ≤ c) (hc2 : c ≤ 9223372036854775807) (hr : Rd w w.heap.size a (bs b)) :
    Calls Try.prog 31 #[.slice a n c] w (InfoPost (infoR b) w) := by
  subst hn
  have HR := Lib.hid hr
  clear hr
  go_enter Try.func31, Try.ntmps31
  by_cases h6 : b.length < 6
  · have h6' : (b.length : Int) < 6 := by omega
    have HF : Hid (infoR b = ([], [], 201)) := Lib.hid (by rw [infoR, if_pos h6])
    go_wp2_with fail
    refine bodyPost_ret (v := .tuple #[.string ⟨#[]⟩, .slice none 0 0, .int .i64 201]) (by simp [results, Try.results31, go_sem]) rfl ?_
    rw [HF.out]
    exact ⟨none, 0, 0, rfl, OwnG.nil _ _ _ _, Below.refl _ _⟩
  · have h6' : ¬ (b.length : Int) < 6 := by omega
    obtain ⟨bb, ob, rfl, hbb, _⟩ := HR.out.byte 0 (by omega)
    have hB0 := (Below.refl w.heap.size w).alloc (Nat.le_refl _) (.cells #[Value.slice (some ⟨bb, ob, none⟩) b.length c] 78)
    have hs0 : (w.alloc (Obj.cells #[Value.slice (some ⟨bb, ob, none⟩) b.length c] 78)).heap.size = w.heap.size + 1 := World.size_alloc _ _
    have hRS : RS (w.alloc (Obj.cells #[Value.slice (some ⟨bb, ob, none⟩) b.length c] 78)) w.heap.size w.heap.size b :=
      ⟨some ⟨bb, ob, none⟩, c, by go_simp, by go_simp, hc, by omega, HR.out.below hB0, Nat.le_refl _, by rw [World.size_alloc]; omega⟩
    have hg0 : w.grownBy (w.alloc (Obj.cells #[Value.slice (some ⟨bb, ob, none⟩) b.length c] 78)) none := ⟨rfl, rfl, rfl, by rw [World.size_alloc]; omega, fun k hk _ => ((Below.refl w.heap.size w).alloc (Nat.le_refl _) _).block k hk⟩
    go_upto_region 4 with (fail)
    generalize hw0 : w.alloc (Obj.cells #[Value.slice (some ⟨bb, ob, none⟩) b.length c] 78) = w0 at hB0 hs0 hRS hg0
    have HRS := Lib.hid hRS
    have HB0 := Lib.hid hB0
    have HS0 := Lib.hid hs0
    obtain ⟨nl, hnl⟩ : ∃ v, numOf (b.take 4) = v := ⟨_, rfl⟩
    have hnb : nl < 4294967296 := by rw [← hnl]; exact num4_lt b
    have HNL := Lib.hid hnl
    have x1 : IntKind.i64.wrap (nl : Int) = (nl : Int) := IntWalk.i64_in _ (by omega)
    have C1 := Lib.hid (rtake_rsG 4 (nI := 4) rfl HRS.out (by omega) (by omega) (by omega) hnl)
    clear hRS hB0 hs0 hg0 hw0 hnl
    go_wp2_with fail
    refine C1.out.mono ?_
    rintro e w1 ⟨rfl, hrs1, hg1⟩
    obtain ⟨L1, hL1⟩ : ∃ L1, b.drop 4 = L1 := ⟨_, rfl⟩
    rw [hL1] at hrs1
    have l1 : L1.length = b.length - 4 := by rw [← hL1, List.length_drop]
    have HB1 : Hid (Below w.heap.size w w1) := Lib.hid (HB0.out.grown hg1 HB0.out.size (fun z hz => by injection hz with hz; omega))
    have HZ1 : Hid (w1.heap.size ≥ w.heap.size + 1) := Lib.hid (by have := hg1.size; have := HS0.out; omega)
    have HL1 := Lib.hid hL1
    obtain ⟨a1, c1, hc1, hf1, hle1, hcc1, hr1, _, hlt1⟩ := hrs1
    rw [l1] at hc1
    have HRD1 := Lib.hid hr1
    have x2 : wrap64 (((b.length - 4 : Nat) : Int) - 2) = ((b.length - 4 : Nat) : Int) - 2 := IntWalk.wrap64_in _ (by omega)
    have HLE1 := Lib.hid hle1
    clear hg1 hL1 hr1 C1
    by_cases hbig : b.length - 6 < nl
    · have hbI : ((b.length - 4 : Nat) : Int) - 2 < (nl : Int) := by omega
      have HF : Hid (infoR b = ([], [], 201)) := Lib.hid (by rw [infoR, if_neg h6, HNL.out, if_pos hbig])
      go_wp2_with fail
      refine bodyPost_ret (v := .tuple #[.string ⟨#[]⟩, .slice none 0 0, .int .i64 201]) (by simp [results, Try.results31, go_sem]) rfl ?_
      rw [HF.out]
      exact ⟨none, 0, 0, rfl, OwnG.nil _ _ _ _, HB1.out⟩
    · have hbI : ¬ (((b.length - 4 : Nat) : Int) - 2 < (nl : Int)) := by omega
      have y1 : (nl : Int) ≤ (c1 : Int) := by omega
      have y2 : (nl : Int) ≤ ((b.length - 4 : Nat) : Int) := by omega
      have lT : (L1.take nl).length = nl := by rw [List.length_take, l1]; omega
      have hcv := conv_rd_t (w := w1) (Bd := w.heap.size) (a := a1) (l := L1.take nl) (by rw [bs_take]; exact HRD1.out.take nl) nl c1 lT
      clear lT
      go_upto_region 9 with (fail)
      obtain ⟨L2, hL2⟩ : ∃ L2, L1.drop nl = L2 := ⟨_, rfl⟩
      have l2 : L2.length = b.length - 4 - nl := by rw [← hL2, List.length_drop, l1]
      have hrs2 : RS (w1.setCell ⟨w.heap.size, 0, none⟩ (Value.slice (Option.map (fun x => x.add nl) a1) (b.length - 4 - nl) (c1 - nl))) w.heap.size w.heap.size L2 := by
        refine ⟨Option.map (fun x => x.add nl) a1, c1 - nl, ?_, by rw [World.frozen?_setCell]; exact hf1, by rw [l2]; omega, by omega, ?_, Nat.le_refl _, by rw [World.size_setCell]; exact hlt1⟩
        · rw [World.cell?_setCell_same _ _ _ hc1, l2]
        · rw [← hL2, bs_drop]
          exact (HRD1.out.drop nl).setCell (Nat.le_refl _) _
      have hb2 : Below w.heap.size w (w1.setCell ⟨w.heap.size, 0, none⟩ (Value.slice (Option.map (fun x => x.add nl) a1) (b.length - 4 - nl) (c1 - nl))) := HB1.out.setCell (Nat.le_refl _) _
      have hs2 : (w1.setCell ⟨w.heap.size, 0, none⟩ (Value.slice (Option.map (fun x => x.add nl) a1) (b.length - 4 - nl) (c1 - nl))).heap.size ≥ w.heap.size + 1 := by rw [World.size_setCell]; exact HZ1.out
      generalize hw2 : (w1.setCell ⟨w.heap.size, 0, none⟩ (Value.slice (Option.map (fun x => x.add nl) a1) (b.length - 4 - nl) (c1 - nl))) = w2 at hrs2 hb2 hs2 ⊢
      obtain ⟨m, hm⟩ : ∃ v, numOf (L2.take 2) = v := ⟨_, rfl⟩
      have hmb : m < 65536 := by rw [← hm]; exact num2_lt L2
      have x3 : IntKind.i64.wrap (m : Int) = (m : Int) := IntWalk.i64_in _ (by omega)
      have C2 := Lib.hid (rtake_rsG 2 (nI := 2) rfl hrs2 (by omega) (by omega) (by omega) hm)
      have HB2 := Lib.hid hb2
      have HZ2 := Lib.hid hs2
      have HM := Lib.hid hm
      have HL2 := Lib.hid hL2
      clear hw2 hrs2 hb2 hs2 hm hL2 hc1 hf1 hcv x2 y1 y2 x1
      go_wp2_with fail
      refine C2.out.mono ?_
      rintro e w3 ⟨rfl, hrs3, hg3⟩
      obtain ⟨R, hR⟩ : ∃ R, L2.drop 2 = R := ⟨_, rfl⟩
      rw [hR] at hrs3
      have lR : R.length = b.length - (6 + nl) := by rw [← hR, List.length_drop]; omega
      have hb3 : Below w.heap.size w w3 := HB2.out.grown hg3 HB2.out.size (fun z hz => by injection hz with hz; omega)
      have HB3 := Lib.hid hb3
      have HZ3 : Hid (w.heap.size + 1 ≤ w3.heap.size) := Lib.hid (by have := hg3.size; have := HZ2.out; omega)
      have HRS3 := Lib.hid hrs3
      have hname : (b.drop 4).take nl = L1.take nl := by rw [HL1.out]
      have hdrop : b.drop (4 + nl) = L2 := by rw [← HL2.out, ← HL1.out, List.drop_drop]
      have hdrop2 : b.drop (6 + nl) = R := by rw [← hR, ← hdrop, List.drop_drop]; congr 1; omega
      obtain ⟨a3, c3, hc3, _, hle3, hcc3, _, _, _⟩ := hrs3
      rw [lR] at hc3
      have x4 : wrap64 (2 * (m : Int)) = 2 * (m : Int) := IntWalk.wrap64_in _ (by omega)
      clear hg3 hb3 hR C2
      by_cases hne : b.length - (6 + nl) = 2 * m
      · have hI : ((b.length - (6 + nl) : Nat) : Int) = 2 * (m : Int) := by omega
        have HF : Hid (infoR b = (L1.take nl, numsL R m, 0)) := Lib.hid (by rw [infoR, if_neg h6, HNL.out, if_neg hbig, hdrop, HM.out, if_neg (by omega), hname, hdrop2])
        rw [hne] at hc3
        have lR2 : R.length = 2 * m := by omega
        have LR2 := Lib.hid lR2
        have hm65 : m < 65536 := hmb
        clear hI hname hdrop hdrop2 lR hne hbig
        go_wp2_with fail
        go_loopw [9] (fun v wr => TiR w R m v wr) (fun v _ => m - (match v with | .slice _ k _ => k | _ => 0))
        case atStart => exact ⟨0, Nat.zero_le _, by simpa using HRS3.out, OwnG.nil _ _ _ _, HB3.out, HZ3.out⟩
        case round =>
          clear hc3
          obtain ⟨i, hi, hrs, hown, hb, hs⟩ := hrel
          obtain ⟨av, cv, rfl, hcv⟩ := OwnG.shape hown
          have li : (R.drop (2 * i)).length = 2 * m - 2 * i := by rw [List.length_drop, LR2.out]
          have HRSi := Lib.hid hrs
          have HOi := Lib.hid hown
          have HBi := Lib.hid hb
          have HSi := Lib.hid hs
          have LI := Lib.hid li
          obtain ⟨ai, ci, hci, _, hlei, _, _, _, _⟩ := hrs
          rw [li] at hci
          clear hown hb hs
          by_cases hlt : i < m
          · have hI : (0 : Int) < ((2 * m - 2 * i : Nat) : Int) := by omega
            obtain ⟨y, hy⟩ : ∃ y, numOf ((R.drop (2 * i)).take 2) = y := ⟨_, rfl⟩
            have hyb : y < 65536 := by rw [← hy]; exact num2_lt _
            have x5 : IntKind.i64.wrap (y : Int) = (y : Int) := IntWalk.i64_in _ (by omega)
            have C3 := Lib.hid (rtake_rsG 2 (nI := 2) rfl HRSi.out (by rw [LI.out]; omega) (by omega) (by omega) hy)
            have HY : Hid (numsL R (i + 1) = numsL R i ++ [y]) := Lib.hid (by rw [numsL_succ, hy])
            have hd2 : (R.drop (2 * i)).drop 2 = R.drop (2 * (i + 1)) := by rw [List.drop_drop]; congr 1
            have HD2 := Lib.hid hd2
            clear hy li hd2 hlei
            go_wp2_with fail
            refine C3.out.mono ?_
            rintro e w4 ⟨rfl, hrs4, hg4⟩
            rw [HD2.out] at hrs4
            have hb4 : Below w.heap.size w w4 := HBi.out.grown hg4 HBi.out.size (fun z hz => by injection hz with hz; omega)
            have ho4 : OwnI w4 (w.heap.size + 1) (.slice av i cv) i (numsL R i) := OwnG.grown HOi.out hg4 (by
              cases hq : (Value.slice av i cv).ownBlock with
              | none => exact .inl rfl
              | some z => exact .inr (fun e => by injection e with e; have := (OwnG.lt HOi.out z hq).1; omega))
            have hz4 : w.heap.size + 1 ≤ w4.heap.size := by have := hg4.size; have := HSi.out; omega
            have HRS4 := Lib.hid hrs4
            have HO5 : Hid (OwnI (w4.alloc (Obj.cells #[Value.int .i64 (y : Int)] 3)) (w.heap.size + 1) (.slice av i cv) i (numsL R i)) := Lib.hid (OwnG.alloc ho4 _)
            have HB5 : Hid (Below w.heap.size w (w4.alloc (Obj.cells #[Value.int .i64 (y : Int)] 3))) := Lib.hid (hb4.alloc hb4.size _)
            have HR5 : Hid (Rd (w4.alloc (Obj.cells #[Value.int .i64 (y : Int)] 3)) (w4.heap.size + 1) (some ⟨w4.heap.size, 0, none⟩) [Value.int .i64 (y : Int)]) := Lib.hid (rd_int1 w4 y)
            have HZ5 : Hid (w.heap.size + 1 ≤ (w4.alloc (Obj.cells #[Value.int .i64 (y : Int)] 3)).heap.size) := Lib.hid (by rw [World.size_alloc]; omega)
            have HU5 : Hid (RS (w4.alloc (Obj.cells #[Value.int .i64 (y : Int)] 3)) w.heap.size w.heap.size (R.drop (2 * (i + 1)))) := Lib.hid (hrs4.under ((Below.refl w4.heap.size w4).alloc (Nat.le_refl _) _) (by omega))
            have HI1 : Hid (i ≤ 1000000) := Lib.hid (by omega)
            clear hrs4 hg4 hb4 ho4 hz4 C3 hci
            go_wp2_with (at_builtin; refine wpList_appI rfl _ _ rfl (w.heap.size + 1) _ i (numsL R i) rfl HO5.out HI1.out (w4.heap.size + 1) (some ⟨w4.heap.size, 0, none⟩) 1 y rfl HR5.out HZ5.out ?_)
            intro v6 w6 hown6 hgr6 hat6
            have hb6 : Below (w.heap.size + 1) (w4.alloc (Obj.cells #[Value.int .i64 (y : Int)] 3)) w6 := (Below.refl _ _).grown hgr6 HZ5.out (fun z hz => (OwnG.lt HO5.out z hz).1)
            have hfin : TiR w R m v6 w6 := ⟨i + 1, hlt, HU5.out.under hb6 (by omega), by rw [HY.out]; exact hown6, HB5.out.trans (hb6.mono (by omega)), Nat.le_trans HZ5.out hb6.size⟩
            obtain ⟨a6, c6, rfl, _⟩ := OwnG.shape hown6
            have HFIN := Lib.hid hfin
            clear hown6 hgr6 hat6 hb6 hfin
            go_wp2_with fail
            all_goals go_roundw
            all_goals first
              | exact HFIN.out
              | (show m - (i + 1) < m - i; omega)
          · have him : i = m := by omega
            subst him
            have hI : ¬ ((0 : Int) < ((2 * i - 2 * i : Nat) : Int)) := by omega
            go_wp2_with fail
            refine bodyPost_ret (v := .tuple #[.string ⟨(L1.take nl).toArray⟩, .slice av i cv, .int .i64 0]) (by simp [results, Try.results31, go_sem]) rfl ?_
            rw [HF.out]
            exact ⟨av, i, cv, rfl, OwnG.base_mono HOi.out (by omega), HBi.out⟩
      · have hI : ¬ (((b.length - (6 + nl) : Nat) : Int) = 2 * (m : Int)) := by omega
        have HF : Hid (infoR b = ([], [], 201)) := Lib.hid (by rw [infoR, if_neg h6, HNL.out, if_neg hbig, hdrop, HM.out, if_pos hne])
        go_wp2_with fail
        refine bodyPost_ret (v := .tuple #[.string ⟨#[]⟩, .slice none 0 0, .int .i64 201]) (by simp [results, Try.results31, go_sem]) rfl ?_
        rw [HF.out]
        exact ⟨none, 0, 0, rfl, OwnG.nil _ _ _ _, HB3.out⟩
end Go.Proofs.Ytnpcpbjoonjaoaa
