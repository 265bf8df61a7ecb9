/- shake: what is fit; over is over -/
import Derived.Test.YtnpcpbjoonjaoaaSkI
import Derived.StillTailTactics
namespace Go.Proofs.Ytnpcpbjoonjaoaa
set_option linter.unusedVariables false
set_option linter.unusedSimpArgs false
open Go.RowKit

abbrev ExpTy : Ty := .st (.pair .str (.pair (.int .i64) (.pair .bool .unit)))
theorem exp_open (cs : Array Value) (x : ExpTy.den) (w : World) (h : ExpTy.reads w (Value.agg cs).cells.toList x) :
    ∃ (nm : List UInt8) (sec : Int) (ro : Bool), cs = #[.string ⟨nm.toArray⟩, .int .i64 sec, .bool ro] ∧ (Lit.int .i64 sec).wf = true ∧ nm.length ≤ 140737488351232 := by
  obtain ⟨nm, sec, ro, u⟩ := x
  obtain ⟨cs1, hc1, hA, h⟩ := reads_str h
  obtain ⟨cs2, hc2, hB, h⟩ := reads_int h
  obtain ⟨cs3, hc3, h⟩ := reads_bool h
  have h5 : cs3 = [] := h
  subst h5; subst hc3; subst hc2
  refine ⟨nm.data.toList, sec, ro, toArray_of hc1, hB, ?_⟩
  have : nm.size = nm.data.toList.length := Lib.size_eq nm
  simp only at hA
  omega

/-- How many sectors are fit. -/
def fitN (sec : Int) : Nat := ((if sec < 0 then -(sec + 1) else sec) % 8193).toNat
theorem fitN_le (sec : Int) : fitN sec ≤ 8192 := by unfold fitN; omega

theorem extract_take (l : List UInt8) (k : Nat) : (⟨l.toArray⟩ : ByteArray).extract 0 k = ⟨(l.take k).toArray⟩ := by
  apply ByteArray.ext
  simp [ByteArray.data_extract]

set_option maxRecDepth 20000 in
set_option maxHeartbeats 1000000 in
theorem fit_any (l : List UInt8) (sec : Int) (ro : Bool) (w : World) (hs : (Lit.int .i64 sec).wf = true) (hl : l.length ≤ 140737488351232) :
    Calls Try.prog 34 #[.agg #[.string ⟨l.toArray⟩, .int .i64 sec, .bool ro]] w fun e w' => e = .returned (.agg #[.string ⟨(l.take 64).toArray⟩, .int .i64 (fitN sec : Int), .bool ro]) ∧ Below w.heap.size w w' := by
  have hsb := bounds_i64 hs
  obtain ⟨m, hm⟩ : ∃ m : Nat, (if sec < 0 then -(sec + 1) else sec) = (m : Int) := ⟨(if sec < 0 then -(sec + 1) else sec).toNat, by split <;> omega⟩
  have hfit : fitN sec = m % 8193 := by unfold fitN; rw [hm]; omega
  have HFIT := Lib.hid hfit
  go_enter Try.func34, Try.ntmps34
  go_upto_region 1 with (fail)
  have hA : Blk ((w.alloc (Obj.cells #[Value.string ⟨l.toArray⟩, Value.int .i64 sec, Value.bool ro] 54)).alloc (Obj.cells #[Value.string ⟨#[]⟩, Value.int .i64 0, Value.bool false] 54)) w.heap.size 54 [Value.string ⟨l.toArray⟩, Value.int .i64 sec, Value.bool ro] := Blk.below (Blk.new w 54 [Value.string ⟨l.toArray⟩, Value.int .i64 sec, Value.bool ro]) ((Below.refl _ _).alloc (Nat.le_refl _) _)
  have hZ : Blk ((w.alloc (Obj.cells #[Value.string ⟨l.toArray⟩, Value.int .i64 sec, Value.bool ro] 54)).alloc (Obj.cells #[Value.string ⟨#[]⟩, Value.int .i64 0, Value.bool false] 54)) (w.heap.size + 1) 54 [Value.string ⟨#[]⟩, Value.int .i64 0, Value.bool false] := by
    have h := Blk.new (w.alloc (Obj.cells #[Value.string ⟨l.toArray⟩, Value.int .i64 sec, Value.bool ro] 54)) 54 [Value.string ⟨#[]⟩, Value.int .i64 0, Value.bool false]
    rw [World.size_alloc] at h
    exact h
  have hb : Below w.heap.size w ((w.alloc (Obj.cells #[Value.string ⟨l.toArray⟩, Value.int .i64 sec, Value.bool ro] 54)).alloc (Obj.cells #[Value.string ⟨#[]⟩, Value.int .i64 0, Value.bool false] 54)) := ((Below.refl _ _).alloc (Nat.le_refl _) _).alloc (by rw [World.size_alloc]; omega) _
  generalize ((w.alloc (Obj.cells #[Value.string ⟨l.toArray⟩, Value.int .i64 sec, Value.bool ro] 54)).alloc (Obj.cells #[Value.string ⟨#[]⟩, Value.int .i64 0, Value.bool false] 54)) = w1 at hA hZ hb ⊢
  have HA := Lib.hid hA
  have HZ := Lib.hid hZ
  have HB := Lib.hid hb
  have a1 := hA.cell 1 _ rfl
  have f1 := hA.frozen 1
  clear hA hZ hb
  go_upto_if 5 with (fail)
  go_cut [1] (fun v wn => v = .pointer (some ⟨w.heap.size, 0, none⟩) ∧ Blk wn w.heap.size 54 [Value.string ⟨l.toArray⟩, Value.int .i64 (m : Int), Value.bool ro] ∧ Blk wn (w.heap.size + 1) 54 [Value.string ⟨#[]⟩, Value.int .i64 0, Value.bool false] ∧ Below w.heap.size w wn)
  case first =>
    by_cases hneg : sec < 0
    · rw [if_pos hneg] at hm
      have hw1 : wrap64 (sec + 1) = sec + 1 := IntWalk.wrap64_in _ (by omega)
      have hw2 : wrap64 (-(sec + 1)) = -(sec + 1) := IntWalk.wrap64_in _ (by omega)
      have HM := Lib.hid hm
      clear hm hfit hsb
      go_wp2_with fail
      go_meet
      rw [HM.out]
      exact ⟨rfl, HA.out.set 1 _, HZ.out.other (by omega) _, HB.out.setCell (Nat.le_refl _) _⟩
    · rw [if_neg hneg] at hm
      have HM := Lib.hid hm
      clear hm hfit hsb
      go_wp2_with fail
      go_meet
      exact ⟨rfl, by rw [← HM.out]; exact HA.out, HZ.out, HB.out⟩
  case rest =>
    obtain ⟨rfl, hA, hZ, hb⟩ := hcut
    rename World => w2
    have hd : Below w2.heap.size w2 w2.drew := (Below.refl _ _).drew
    have hAd := hA.below hd
    have hZd := hZ.below hd
    have hbd := hb.drew
    have tm : (m : Int).tmod 8193 = ((m % 8193 : Nat) : Int) := by rw [Int.tmod_eq_emod_of_nonneg (by omega)]; omega
    have a0 := hAd.cell 0 _ rfl
    have a1 := hAd.cell 1 _ rfl
    have a2 := hAd.cell 2 _ rfl
    have z0 := hZd.cell 0 _ rfl
    have z1 := hZd.cell 1 _ rfl
    have z2 := hZd.cell 2 _ rfl
    have q0 := hZd.frozen 0
    have q1 := hZd.frozen 1
    have q2 := hZd.frozen 2
    obtain ⟨mn, hmn⟩ : ∃ mn, min l.length 64 = mn := ⟨_, rfl⟩
    have hmnI : (if (64 : Int) < (l.length : Int) then (64 : Int) else (l.length : Int)) = (mn : Int) := by split <;> omega
    have hext : (⟨l.toArray⟩ : ByteArray).extract 0 mn = ⟨(l.take 64).toArray⟩ := by
      rw [extract_take, ← hmn]
      congr 2
      rcases Nat.le_total l.length 64 with h | h
      · rw [Nat.min_eq_left h, List.take_of_length_le (Nat.le_refl _), List.take_of_length_le h]
      · rw [Nat.min_eq_right h]
    have mn0 : (0 : Int) ≤ (mn : Int) := Int.natCast_nonneg mn
    have mn1 : (mn : Int) ≤ (l.length : Int) := by omega
    clear hm hfit hsb HA HZ HB f1 hmn
    go_upto_region 3 with (fail)
    refine wp_region_still_tail 13 (by kernel_rfl) (by kernel_rfl) ?_
    change wpStill _ _ w2.drew _ _ _
    have HBD := Lib.hid hbd
    simp only [List.take_succ_cons, List.take_zero, List.drop_succ_cons, List.drop_zero]
    clear hbd hd hA hZ hb
    have HZD := Lib.hid hZd
    clear hAd hZd
    generalize w2.drew = w3 at a0 a1 a2 z0 z1 z2 q0 q1 q2 ⊢
    repeat still_step
    refine wpStill_nil ?_
    change wpList _ _ _ _ _ w2.drew
    clear a0 a1 a2 z0 z1 z2 q0 q1 q2 w3
    have hZD := HZD.out
    have hBD := HBD.out
    clear HZD HBD
    generalize w2.drew = w3 at hZD hBD ⊢
    have z0 := hZD.cell 0 _ rfl
    have z1 := hZD.cell 1 _ rfl
    have z2 := hZD.cell 2 _ rfl
    have q0 := hZD.frozen 0
    have q1 := hZD.frozen 1
    have q2 := hZD.frozen 2
    have HBD := Lib.hid hBD
    have HZD := Lib.hid hZD
    clear hZD hBD
    go_wp2_with fail
    refine bodyPost_ret (v := .agg #[.string ⟨(l.take 64).toArray⟩, .int .i64 ((m % 8193 : Nat) : Int), .bool ro]) (by simp [results, Try.results34, go_sem, z0, z1, z2]) rfl ?_
    exact ⟨by rw [HFIT.out], ((HBD.out.setCell (by simp) _).setCell (by simp) _).setCell (by simp) _⟩

theorem feedF_facts : ∀ (k : Nat) (s : Sk) (b : List UInt8), s.name.length ≤ 1000 → s.phase ≤ 3 → (feedF k s b).1.name = s.name ∧ (feedF k s b).1.sectors = s.sectors ∧ (feedF k s b).1.phase ≤ 3
  | 0, s, b, _, hp => ⟨rfl, rfl, hp⟩
  | k + 1, s, b, hnm, hp => by
    obtain ⟨f1, f2, f3, _⟩ := oneR_facts s b hnm
    have hph : (oneR s b).1.phase ≤ 3 := by
      rw [oneR]
      split
      · split
        · exact hp
        · simp only; split <;> omega
      · split
        · simp
        · split
          · exact hp
          · split
            · exact (expName_same s (optR b).2.1).2.2.2.2.1
            · simp only
              rw [ansR]
              split
              · simp
              · split
                · exact hp
                · split
                  · simp only; split
                    · simp
                    · exact hp
                  · split
                    · split
                      · exact hp
                      · split <;> exact hp
                    · exact hp
    rw [feedF]
    split
    · split
      · exact ⟨f2, f3, hph⟩
      · have h := feedF_facts k (oneR s b).1 (b.drop (oneR s b).2.2) (by rw [f2]; exact hnm) hph
        exact ⟨h.1.trans f2, h.2.1.trans f3, h.2.2⟩
    · exact ⟨rfl, rfl, hp⟩
theorem feedR_facts (s : Sk) (b : List UInt8) (hnm : s.name.length ≤ 1000) (hp : s.phase ≤ 3) : (feedR s b).1.name = s.name ∧ (feedR s b).1.sectors = s.sectors ∧ (feedR s b).1.phase ≤ 3 := feedF_facts _ s b hnm hp
theorem feedR_over (s : Sk) (b : List UInt8) (hnm : s.name.length ≤ 1000) (hp : ¬ s.phase < 2) : feedR s b = (s, [], 0) := by rw [feedR_eq s b hnm, if_neg hp]

theorem apart_new {W : World} {a : Option Addr} {b : List UInt8} {g : Nat} (h : Rd W W.heap.size a (bs b)) (hg : W.heap.size ≤ g) : ApartB g a b := by
  rcases h with h | ⟨q, off, ha, hlt, _⟩
  · exact .inl (bs_inj (h.trans rfl))
  · refine .inr fun ad had => ?_
    rw [ha] at had
    injection had with had
    subst had
    show q ≠ g
    omega

set_option maxRecDepth 20000 in
set_option maxHeartbeats 4000000 in
theorem law_ShakeOver (cs : Array Value) (x : ExpTy.den) (a : Option Addr) (n c : Nat) (b : List UInt8) (a2 : Option Addr) (n2 c2 : Nat) (more : List UInt8) (W : World) (hx : ExpTy.reads W (Value.agg cs).cells.toList x) (hb : BytesIn W a n c b) (hm : BytesIn W a2 n2 c2 more) :
    Calls Try.prog 12 #[.agg cs, .slice a n c, .slice a2 n2 c2] W fun e w' => e = .returned (.bool true) ∧ Below W.heap.size W w' := by
  obtain ⟨nm, sec, ro, rfl, hs, hl⟩ := exp_open cs x W hx
  have HBB := Lib.hid hb
  have HMB := Lib.hid hm
  have hbx : Below W.heap.size W (W.alloc (.cells #[Value.string ⟨nm.toArray⟩, Value.int .i64 sec, Value.bool ro] 54)) := (Below.refl _ _).alloc (Nat.le_refl _) _
  clear hx hb hm
  go_enter Try.func12, Try.ntmps12
  by_cases hbig : 3000 < n ∨ 3000 < n2
  · have hT : Hid ((3000 : Int) < (n : Int) ∨ (¬ ((3000 : Int) < (n : Int)) ∧ (3000 : Int) < (n2 : Int))) := Lib.hid (by omega)
    have HBX := Lib.hid hbx
    clear hbx hbig
    rcases hT.out with h1 | ⟨h1, h2⟩
    case' inl => clear hT
    case' inr => clear hT
    all_goals
      go_wp2_with fail
      refine (skalive_any _).mono ?_
      rintro e w2 ⟨rfl, hb2⟩
      have HBE := Lib.hid (HBX.out.trans (hb2.mono HBX.out.size))
      clear hb2
      go_wp2_with fail
      go_ret
      exact ⟨rfl, HBE.out⟩
  · have h1 : ¬ ((3000 : Int) < (n : Int)) := by omega
    have h2 : ¬ ((3000 : Int) < (n2 : Int)) := by omega
    have hn3 : n ≤ 3000 := by omega
    have hm3 : n2 ≤ 3000 := by omega
    have HBX := Lib.hid hbx
    have HFI := Lib.hid (fit_any nm sec ro (W.alloc (.cells #[Value.string ⟨nm.toArray⟩, Value.int .i64 sec, Value.bool ro] 54)) hs hl)
    obtain ⟨N, hN⟩ : ∃ N, nm.take 64 = N := ⟨_, rfl⟩
    have hNl : N.length ≤ 64 := by rw [← hN, List.length_take]; omega
    obtain ⟨S, hS⟩ : ∃ S, fitN sec = S := ⟨_, rfl⟩
    have hSl : S ≤ 8192 := by rw [← hS]; exact fitN_le sec
    rw [hN, hS] at HFI
    clear hbx hbig hN hS hs hl
    go_wp2_with fail
    refine HFI.out.mono ?_
    rintro e w2 ⟨rfl, hb2⟩
    have hb3 := (HBX.out.trans (hb2.mono HBX.out.size)).alloc (HBX.out.trans (hb2.mono HBX.out.size)).size (.cells #[Value.string ⟨N.toArray⟩, Value.int .i64 (S : Int), Value.bool ro] 54)
    have y0 : (w2.alloc (.cells #[Value.string ⟨N.toArray⟩, Value.int .i64 (S : Int), Value.bool ro] 54)).cell? ⟨w2.heap.size, 0, none⟩ = some (.string ⟨N.toArray⟩) := by go_simp
    have y1 : (w2.alloc (.cells #[Value.string ⟨N.toArray⟩, Value.int .i64 (S : Int), Value.bool ro] 54)).cell? ⟨w2.heap.size, 1, none⟩ = some (.int .i64 (S : Int)) := by go_simp
    have y2 : (w2.alloc (.cells #[Value.string ⟨N.toArray⟩, Value.int .i64 (S : Int), Value.bool ro] 54)).cell? ⟨w2.heap.size, 2, none⟩ = some (.bool ro) := by go_simp
    go_upto_region 4 with (fail)
    generalize w2.alloc (.cells #[Value.string ⟨N.toArray⟩, Value.int .i64 (S : Int), Value.bool ro] 54) = w3 at hb3 y0 y1 y2 ⊢
    have HB3 := Lib.hid hb3
    clear hb2 hb3 HFI HBX
    go_wp2_with fail
    refine (new_sk N S ro w3).mono ?_
    rintro e w4 ⟨rfl, hk4, hb4⟩
    have hg : W.heap.size ≤ w3.heap.size := HB3.out.size
    obtain ⟨g, hgg⟩ : ∃ g, w3.heap.size = g := ⟨_, rfl⟩
    rw [hgg] at hk4 hg ⊢
    have HB4 := Lib.hid (HB3.out.trans (hb4.mono HB3.out.size))
    have HK4 := Lib.hid hk4
    clear hb4 hk4 hgg y0 y1 y2 HB3
    go_wp2_with fail
    refine (skalive_any _).mono ?_
    rintro e w5 ⟨rfl, hb5⟩
    have HB5 := Lib.hid (HB4.out.trans (hb5.mono HB4.out.size))
    have HK5 := Lib.hid (Blk.below HK4.out hb5)
    have hap1 : ApartB g a b := apart_new HBB.out.rd hg
    have hap2 : ApartB g a2 more := apart_new HMB.out.rd hg
    have HA2 := Lib.hid hap2
    have HF1 := Lib.hid (feed_any g ⟨N, S, ro, 0, false, false⟩ a n c b w5 HK5.out hSl (by show N.length ≤ 1000; omega) HBB.out.len_eq HBB.out.le_cap (by have := HBB.out.small; omega) ((HBB.out.rd.below HB5.out).more HB5.out.size) hap1 (by omega))
    have hff := feedR_facts ⟨N, S, ro, 0, false, false⟩ b (by show N.length ≤ 1000; omega) (by show 0 ≤ 3; omega)
    generalize feedR ⟨N, S, ro, 0, false, false⟩ b = fr at HF1 hff
    obtain ⟨s1, o1, m1⟩ := fr
    simp only at hff
    have HFF := Lib.hid hff
    clear hb5 hap1 hap2 HB4 HK4 hff
    go_wp2_with fail
    refine HF1.out.mono ?_
    rintro e w6 ⟨a6, n6, c6, rfl, hown6, hk6, hg6⟩
    simp only at hk6 ⊢
    have HB6 : Hid (Below W.heap.size W w6) := Lib.hid (HB5.out.grown hg6 HB5.out.size (fun z hz => by injection hz with hz; omega))
    have HK6 := Lib.hid hk6
    have HP6 := Lib.hid (phase_any g s1 w6 hk6)
    have HQ6 := Lib.hid (structured_any g s1 w6 hk6)
    clear hown6 hk6 hg6 HF1
    go_wp2_with fail
    refine HP6.out.mono ?_
    rintro e w7 ⟨rfl, rfl⟩
    by_cases hp : s1.phase < 2
    · have hpI : (s1.phase : Int) < 2 := by omega
      have hp0 : (0 : Int) ≤ (s1.phase : Int) := Int.natCast_nonneg _
      go_wp2_with fail
      go_ret
      exact ⟨rfl, HB6.out⟩
    · have hpI : ¬ ((s1.phase : Int) < 2) := by omega
      have hp3 : (s1.phase : Int) ≤ 3 := by have := HFF.out.2.2; omega
      have hF2 := feed_any g s1 a2 n2 c2 more w6 HK6.out (by rw [HFF.out.2.1]; exact hSl) (by rw [HFF.out.1]; show N.length ≤ 1000; omega) HMB.out.len_eq HMB.out.le_cap (by have := HMB.out.small; omega) ((HMB.out.rd.below HB6.out).more HB6.out.size) HA2.out (by omega)
      rw [feedR_over s1 more (by rw [HFF.out.1]; show N.length ≤ 1000; omega) hp] at hF2
      have HF2 := Lib.hid hF2
      clear hF2 hp
      go_wp2_with fail
      refine HQ6.out.mono ?_
      rintro e w7 ⟨rfl, rfl⟩
      go_wp2_with fail
      refine HF2.out.mono ?_
      rintro e w7 ⟨a7, n7, c7, rfl, hown7, hk7, hg7⟩
      simp only at hown7 hk7 ⊢
      have hn7 := OwnB.len hown7
      have hn7 : 0 = n7 := hn7
      subst hn7
      have HB7 : Hid (Below W.heap.size W w7) := Lib.hid (HB6.out.grown hg7 HB6.out.size (fun z hz => by injection hz with hz; omega))
      have HP7 := Lib.hid (phase_any g s1 w7 hk7)
      have HQ7 := Lib.hid (structured_any g s1 w7 hk7)
      clear hown7 hk7 hg7 HF2 HP6 HQ6
      go_wp2_with fail
      refine HP7.out.mono ?_
      rintro e w8 ⟨rfl, rfl⟩
      go_wp2_with fail
      refine HQ7.out.mono ?_
      rintro e w8 ⟨rfl, rfl⟩
      go_wp2_with fail
      go_ret
      exact ⟨rfl, HB7.out⟩
end Go.Proofs.Ytnpcpbjoonjaoaa
