/- sha: (*Hash).Sum -/
import Derived.Test.YtnfchojekcoplaaDoorSha5
namespace Go.Proofs.YtnfchojekcoplaaDoor
set_option linter.unusedVariables false
set_option linter.unusedSimpArgs false
open Go.RowKit

/-- make([]byte, 0, n). -/
theorem run_make0 (w : World) (n : Nat) (hn : n ≤ 1000000) : ∃ w', (Instr.makeSlice 22 (.int .i64 0) (.int .i64 (n : Int))).run Tryd.prog w = .ok (.slice (some ⟨w.heap.size, 0, none⟩) 0 n) w' ∧
    OwnB w' w.heap.size (.slice (some ⟨w.heap.size, 0, none⟩) 0 n) [] ∧ w.grownBy w' none := by
  obtain ⟨i0, hi, hz0, hz1, hz2⟩ := info_parts info_u8
  obtain ⟨w', hrun, r1, r2⟩ := run_make_own (P := Tryd.prog) w w.heap.size 22 5 i0 (.int .u8 0) 1 Tryd.underlying22 hi hz0 hz1 .i64 .i64 n (by rw [hz2]; omega) (by unfold maxLen; omega) (Nat.le_refl _)
  exact ⟨w', hrun, OwnG.of r1, r2⟩

theorem Mid.below {W W' : World} {g lo : Nat} {r : Option Nat} {p : List UInt8} {n : Int} (h : Mid W g r lo p n) (hb : Below W.heap.size W W') : Mid W' g r lo p n := by
  obtain ⟨a, c, h1, h2, h3, h4⟩ := h
  exact ⟨a, c, h1.below hb, OwnG.below h2 hb, h3, h4⟩

def zero32 : List Value := bs (List.replicate 32 0)
/-- The hash that Sum makes, when it is new. -/
theorem sum_new (w : World) (lo : Nat) (p : List UInt8) (hr : restOf p = []) (o1 o2 : Obj) (h : o2 = Obj.cells (us (stOf p) ++ [Value.slice none 0 0, Value.int .u64 0]).toArray 57) : Mid ((w.alloc o1).alloc o2) (w.heap.size + 1) none lo p 0 := by
  subst h
  refine ⟨none, 0, ?_, ?_, rfl, by simp⟩
  · rw [hr]
    have := Blk.new (w.alloc o1) 57 (us (stOf p) ++ [.slice none 0 0, .int .u64 0])
    rwa [World.size_alloc] at this
  · rw [hr]; exact ⟨rfl, .inl ⟨rfl, rfl⟩⟩

theorem wr_sum (i k : Nat) (hi : i < 8) (hk : k < 4) : wrap64 (4 * (i : Int)) = 4 * (i : Int) ∧ wrap64 (4 * (i : Int) + (k : Int)) = 4 * (i : Int) + (k : Int) ∧ wrap64 (8 * (k : Int)) = 8 * (k : Int) ∧
    wrap64 (24 - 8 * (k : Int)) = 24 - 8 * (k : Int) ∧ (0 : Int) ≤ 24 - 8 * (k : Int) ∧ (0 : Int) ≤ 4 * (i : Int) + (k : Int) ∧ 4 * (i : Int) + (k : Int) < 32 :=
  ⟨IntWalk.wrap64_in _ (by omega), IntWalk.wrap64_in _ (by omega), IntWalk.wrap64_in _ (by omega), IntWalk.wrap64_in _ (by omega), by omega, by omega, by omega⟩
theorem lt32 (i k : Nat) (hi : i < 8) (hk : k < 4) : 4 * i + k < 32 := by omega
/-- Sum's loops: n bytes of the digest are laid. -/
def SumRel (w : World) (g6 : Nat) (L : List UInt8) (n : Nat) (wr : World) : Prop :=
  Blk wr g6 24 (bs (laidTo L n)) ∧ Blk wr w.heap.size 24 (bs (List.replicate 32 0)) ∧ Below w.heap.size w wr

set_option maxHeartbeats 2000000 in
set_option maxRecDepth 16000 in
theorem hsum_any (g : Nat) (r : Option Nat) (lo : Nat) (all : List UInt8) (w : World) (hH : IsHash w g r lo all) (hk : KOK w) :
    Calls Tryd.prog 27 #[.pointer (some ⟨g, 0, none⟩)] w fun e w' =>
      e = .returned (.agg (bs (shaL all)).toArray) ∧ Below w.heap.size w w' := by
  have hM : Mid w g r lo all ((all.length % 18446744073709551616 : Nat) : Int) := hH
  clear hH
  obtain ⟨nn, hnn⟩ : ∃ nn : Int, ((all.length % 18446744073709551616 : Nat) : Int) = nn := ⟨_, rfl⟩
  rw [hnn] at hM
  obtain ⟨a, c, hc8, hc9, hB, hO, hrb, hrg, hrc⟩ := hM.cells
  have HST : Hid ((stOf all).length = 8) := Lib.hid (stB_length _ _)
  obtain ⟨S, hS⟩ : ∃ S, stOf all = S := ⟨_, rfl⟩
  rw [hS] at hB HST
  have l0 := load8 hB HST.out 0 (by omega)
  have l1 := load8 hB HST.out 1 (by omega)
  have l2 := load8 hB HST.out 2 (by omega)
  have l3 := load8 hB HST.out 3 (by omega)
  have l4 := load8 hB HST.out 4 (by omega)
  have l5 := load8 hB HST.out 5 (by omega)
  have l6 := load8 hB HST.out 6 (by omega)
  have l7 := load8 hB HST.out 7 (by omega)
  have hlt := hB.lt
  have HM := Lib.hid hM
  have HNN := Lib.hid hnn
  have HB := Lib.hid hB
  have HO := Lib.hid hO
  have HK := Lib.hid hk
  have HS := Lib.hid hS
  clear hB hk hO hM hrb hrg hrc hnn hS
  go_enter Tryd.func27, Tryd.ntmps27
  go_upto_region 4 with (fail)
  have h8 : us S = [Value.int .u32 (val (at32 S 0)), Value.int .u32 (val (at32 S 1)), Value.int .u32 (val (at32 S 2)), Value.int .u32 (val (at32 S 3)), Value.int .u32 (val (at32 S 4)), Value.int .u32 (val (at32 S 5)), Value.int .u32 (val (at32 S 6)), Value.int .u32 (val (at32 S 7))] := by
    have e := congrArg us (eq8 S HST.out)
    rw [e]; rfl
  have hz : Blk (w.alloc (.cells (bs (List.replicate 32 0)).toArray 24)) w.heap.size 24 (bs (List.replicate 32 0)) := Blk.new _ _ _
  have hm := sum_new w (w.heap.size + 2) (whole all) (whole_rest all) (.cells (bs (List.replicate 32 0)).toArray 24) _ rfl
  have hz2 := hz.alloc (.cells (us (stOf (whole all)) ++ [Value.slice none 0 0, Value.int .u64 0]).toArray 57)
  rw [whole_st, HS.out, h8] at hm hz2
  have hb1 : Below w.heap.size w ((w.alloc (.cells (bs (List.replicate 32 0)).toArray 24)).alloc (.cells (([Value.int .u32 (val (at32 S 0)), Value.int .u32 (val (at32 S 1)), Value.int .u32 (val (at32 S 2)), Value.int .u32 (val (at32 S 3)), Value.int .u32 (val (at32 S 4)), Value.int .u32 (val (at32 S 5)), Value.int .u32 (val (at32 S 6)), Value.int .u32 (val (at32 S 7))] : List Value) ++ [Value.slice none 0 0, Value.int .u64 0]).toArray 57)) := ((Below.refl _ _).alloc (Nat.le_refl _) _).alloc (by rw [World.size_alloc]; omega) _
  generalize hw1 : ((w.alloc (.cells (bs (List.replicate 32 0)).toArray 24)).alloc (.cells (([Value.int .u32 (val (at32 S 0)), Value.int .u32 (val (at32 S 1)), Value.int .u32 (val (at32 S 2)), Value.int .u32 (val (at32 S 3)), Value.int .u32 (val (at32 S 4)), Value.int .u32 (val (at32 S 5)), Value.int .u32 (val (at32 S 6)), Value.int .u32 (val (at32 S 7))] : List Value) ++ [Value.slice none 0 0, Value.int .u64 0]).toArray 57)) = w1 at hm hz2 hb1
  have hsz1 : w1.heap.size = w.heap.size + 2 := by rw [← hw1, World.size_alloc, World.size_alloc]
  have hgoal : ∀ {X Y : World} {C : Code} {a : Act} {Q : Exit → Act → World → Prop}, X = Y → Code.wp Tryd.prog C Q a Y → Code.wp Tryd.prog C Q a X := fun e h => e ▸ h
  refine hgoal hw1 ?_
  have hc81 : w1.cell? ⟨g, 8, none⟩ = some (.slice a (restOf all).length c) := by rw [hb1.cell (p := ⟨g, 8, none⟩) hlt]; exact hc8
  have hc91 : w1.cell? ⟨g, 9, none⟩ = some (.int .u64 nn) := by rw [hb1.cell (p := ⟨g, 9, none⟩) hlt]; exact hc9
  have HO1 := Lib.hid (OwnG.below HO.out hb1)
  have HM1 := Lib.hid hm
  have HZ1 := Lib.hid hz2
  have HB1 := Lib.hid hb1
  have HSZ1 := Lib.hid hsz1
  have hlt1 : g < w1.heap.size := by omega
  clear hm hz hz2 hb1 hgoal h8 l0 l1 l2 l3 l4 l5 l6 l7 hc8 hc9 hw1 hsz1
  obtain ⟨L, hL⟩ : ∃ L, restOf all = L := ⟨_, rfl⟩
  obtain ⟨k, hkL⟩ : ∃ k, L.length = k := ⟨_, rfl⟩
  rw [hL] at hc81 HO HO1
  rw [hkL] at hc81 HO HO1
  have HK64 : Hid (k < 64) := Lib.hid (by rw [← hkL, ← hL, restOf_length]; omega)
  have HL := Lib.hid hL
  have HKL := Lib.hid hkL
  clear hL hkL
  have HRL : Hid (Rd w1 w1.heap.size a (bs L)) := Lib.hid HO1.out.rd
  obtain ⟨w2, hrun2, hown2, hgr2⟩ := run_make0 w1.drew 128 (by omega)
  obtain ⟨wc, hrunc, hownc, hgrc⟩ := run_make0 (w1.alloc (Obj.cells #[Value.int .u8 128] 5)).drew 128 (by omega)
  have hrun2' : (Instr.makeSlice 22 (.int .i64 0) (.int .i64 128)).run Tryd.prog w1.drew = .ok (.slice (some ⟨w1.heap.size, 0, none⟩) 0 128) w2 := hrun2
  have hdz : (w1.alloc (Obj.cells #[Value.int .u8 128] 5)).drew.heap.size = w1.heap.size + 1 := World.size_alloc _ _
  have hrunc' : (Instr.makeSlice 22 (.int .i64 0) (.int .i64 128)).run Tryd.prog (w1.alloc (Obj.cells #[Value.int .u8 128] 5)).drew = .ok (.slice (some ⟨w1.heap.size + 1, 0, none⟩) 0 128) wc := by
    rw [hdz] at hrunc
    exact hrunc
  have HOWN2 : Hid (OwnB w2 w1.heap.size (.slice (some ⟨w1.heap.size, 0, none⟩) 0 128) []) := Lib.hid hown2
  have HOWNC : Hid (OwnB wc w1.heap.size (.slice (some ⟨w1.heap.size + 1, 0, none⟩) 0 128) []) := Lib.hid (by
    rw [hdz] at hownc
    exact OwnG.base_mono hownc (by omega))
  have HBB2 : Hid (Below w1.heap.size w1 w2) := Lib.hid (((Below.refl w1.heap.size w1).drew).grown hgr2 (Nat.le_refl _) (fun _ h => by cases h))
  have HBBC : Hid (Below w1.heap.size w1 wc) := Lib.hid ((((Below.refl w1.heap.size w1).alloc (Nat.le_refl _) (Obj.cells #[Value.int .u8 128] 5)).drew).grown hgrc (by rw [hdz]; omega) (fun _ h => by cases h))
  have hsz2 : w1.heap.size ≤ w2.heap.size := HBB2.out.size
  have hszb : w1.heap.size ≤ (w2.alloc (Obj.cells #[Value.int .u8 128] 5)).heap.size := by rw [World.size_alloc]; omega
  have hszc : w1.heap.size ≤ wc.heap.size := HBBC.out.size
  have hc82 : w2.cell? ⟨g, 8, none⟩ = some (.slice a k c) := (HBB2.out.cell (p := ⟨g, 8, none⟩) hlt1).trans hc81
  have hc8c : wc.cell? ⟨g, 8, none⟩ = some (.slice a k c) := (HBBC.out.cell (p := ⟨g, 8, none⟩) hlt1).trans hc81
  have HRL2 : Hid (Rd w2 w1.heap.size a (bs L)) := Lib.hid (HRL.out.below HBB2.out)
  have HRLC : Hid (Rd wc w1.heap.size a (bs L)) := Lib.hid (HRL.out.below HBBC.out)
  have HXC : Hid (Rd wc (w1.heap.size + 1) (some ⟨w1.heap.size, 0, none⟩) (bs [128])) := Lib.hid ((Rd.new w1 (bs [128]) 5).drew.grown hgrc (Nat.le_of_eq hdz.symm) (fun _ h => by cases h))
  have HN1 : Hid (([] : List UInt8).length + k ≤ 140737488355328) := Lib.hid (by have := HK64.out; simp; omega)
  have HN2 : Hid ((([] : List UInt8) ++ L).length + 1 ≤ 140737488355328) := Lib.hid (by have := HK64.out; rw [List.nil_append, HKL.out]; omega)
  have hltg2 : g < w2.heap.size := by omega
  have hltgc : g < wc.heap.size := by omega
  have hc8b : (w2.alloc (Obj.cells #[Value.int .u8 128] 5)).cell? ⟨g, 8, none⟩ = some (.slice a k c) := (World.cell?_alloc_lt w2 _ ⟨g, 8, none⟩ hltg2).trans hc82
  have hlt2 : w1.heap.size < w2.heap.size := (OwnG.lt HOWN2.out _ rfl).2
  have hltc : w1.heap.size + 1 < wc.heap.size := (OwnG.lt HOWNC.out _ rfl).2
  have R3 : ∀ w3 : World, Rd (w3.alloc (Obj.cells #[Value.int .u8 128] 5)) (w3.heap.size + 1) (some ⟨w3.heap.size, 0, none⟩) (bs [128]) := fun w3 => Rd.new w3 (bs [128]) 5
  have S3 : ∀ w3 : World, Below w1.heap.size w1 w3 → w1.heap.size ≤ (w3.alloc (Obj.cells #[Value.int .u8 128] 5)).heap.size := fun w3 h => by rw [World.size_alloc]; have := h.size; omega
  have R4 : ∀ w3 : World, (w2.alloc (Obj.cells #[Value.int .u8 128] 5)).grownBy w3 (Value.slice (some ⟨w1.heap.size, 0, none⟩) 0 128).ownBlock → Rd w3 (w2.heap.size + 1) (some ⟨w2.heap.size, 0, none⟩) (bs [128]) := fun w3 h =>
    Rd.off (Rd.new w2 (bs [128]) 5) h (by rw [World.size_alloc]; omega) (fun e => by
      have e : some w2.heap.size = some w1.heap.size := e
      injection e with e; omega)
  have R5 : ∀ w3 : World, wc.grownBy w3 (Value.slice (some ⟨w1.heap.size + 1, 0, none⟩) 0 128).ownBlock → Rd w3 (w1.heap.size + 1) (some ⟨w1.heap.size, 0, none⟩) (bs [128]) := fun w3 h =>
    Rd.off HXC.out h (by omega) (fun e => by
      have e : some w1.heap.size = some (w1.heap.size + 1) := e
      injection e with e; omega)
  clear hrun2 hown2 hgr2 hrunc hownc hgrc hdz
  go_cut [4] (fun v4 wn => OwnB wn w1.heap.size v4 (L ++ [128]) ∧ Below w1.heap.size w1 wn)
  case first =>
    go_region_law (first
      | (refine step_app (by rfl) (.tmp 19) (.tmp 23) (by rfl) w1.heap.size (.slice (some ⟨w1.heap.size, 0, none⟩) 0 128) [] (by rfl) HOWN2.out w1.heap.size a k c L (by rfl) HKL.out HRL2.out HN1.out hsz2 ?_; intro v3 w3 hown3 hgr3 hat3; have hb3 := below_app HBB2.out HOWN2.out (Nat.le_refl _) hgr3)
      | (refine step_app (by rfl) (.tmp 19) (.tmp 23) (by rfl) w1.heap.size (.slice (some ⟨w1.heap.size, 0, none⟩) 0 128) [] (by rfl) (HOWN2.out.alloc (Obj.cells #[Value.int .u8 128] 5)) w1.heap.size a k c L (by rfl) HKL.out (HRL2.out.alloc hsz2 (Obj.cells #[Value.int .u8 128] 5)) HN1.out hszb ?_; intro v3 w3 hown3 hgr3 hat3; have hb3 := below_app (HBB2.out.alloc hsz2 (Obj.cells #[Value.int .u8 128] 5)) (HOWN2.out.alloc (Obj.cells #[Value.int .u8 128] 5)) (Nat.le_refl _) hgr3)
      | (refine step_app (by rfl) (.tmp 19) (.tmp 23) (by rfl) w1.heap.size (.slice (some ⟨w1.heap.size + 1, 0, none⟩) 0 128) [] (by rfl) HOWNC.out w1.heap.size a k c L (by rfl) HKL.out HRLC.out HN1.out hszc ?_; intro v3 w3 hown3 hgr3 hat3; have hb3 := below_app HBBC.out HOWNC.out (Nat.le_refl _) hgr3)
      | (refine step_app (by rfl) (.tmp 24) (.tmp 25) (by rfl) w1.heap.size v3 ([] ++ L) (by rfl) (hown3.alloc (Obj.cells #[Value.int .u8 128] 5)) (w3.heap.size + 1) (some ⟨w3.heap.size, 0, none⟩) 1 1 [128] (by rfl) (by rfl) (R3 w3) HN2.out (S3 w3 hb3) ?_; intro v4 w4 hown4 hgr4 hat4; have hb4 := below_app (hb3.alloc hb3.size _) (hown3.alloc (Obj.cells #[Value.int .u8 128] 5)) (Nat.le_refl _) hgr4)
      | (refine step_app (by rfl) (.tmp 24) (.tmp 25) (by rfl) w1.heap.size v3 ([] ++ L) (by rfl) hown3 (w2.heap.size + 1) (some ⟨w2.heap.size, 0, none⟩) 1 1 [128] (by rfl) (by rfl) (R4 w3 hgr3) HN2.out hb3.size ?_; intro v4 w4 hown4 hgr4 hat4; have hb4 := below_app hb3 hown3 (Nat.le_refl _) hgr4)
      | (refine step_app (by rfl) (.tmp 24) (.tmp 25) (by rfl) w1.heap.size v3 ([] ++ L) (by rfl) hown3 (w1.heap.size + 1) (some ⟨w1.heap.size, 0, none⟩) 1 1 [128] (by rfl) (by rfl) (R5 w3 hgr3) HN2.out hb3.size ?_; intro v4 w4 hown4 hgr4 hat4; have hb4 := below_app hb3 hown3 (Nat.le_refl _) hgr4))
    all_goals go_wp2_with fail
    all_goals go_meet
    all_goals exact ⟨hown4, hb4⟩
  case rest =>
    obtain ⟨hown4, hb4⟩ := hcut
    rename World => w4
    clear R3 S3 R4 R5 hlt2 hltc hc8b hltg2 hltgc hc8c hc82 hszc hszb hsz2 HN1 HN2 HXC HRLC HRL2 HBBC HBB2 HOWNC HOWN2 hrunc' hrun2' HRL
    have HK2 : Hid (k = all.length % 64) := Lib.hid (by rw [← HKL.out, ← HL.out, restOf_length])
    have HOWN4 := Lib.hid hown4
    have HB4 := Lib.hid hb4
    clear hown4 hb4
    go_wp2_with fail
    go_loopw [4] (fun v wr => ∃ z, z ≤ padZ all.length ∧ OwnB wr w1.heap.size v (L ++ [128] ++ List.replicate z 0) ∧ Below w1.heap.size w1 wr) (fun v _ => k + 1 + padZ all.length - (match v with | .slice _ n _ => n | _ => 0))
    case atStart => exact ⟨0, Nat.zero_le _, by simpa using HOWN4.out, HB4.out⟩
    case round =>
      obtain ⟨z, hz, hown, hb⟩ := hrel
      obtain ⟨av, cv, rfl, hcv⟩ := OwnG.shape hown
      have hNl : (L ++ [128] ++ List.replicate z 0).length = k + 1 + z := by rw [List.length_append, List.length_append, HKL.out, List.length_replicate]; rfl
      rw [hNl] at hown hcv ⊢
      have HZ := Lib.hid hz
      have HOW := Lib.hid hown
      have HBW := Lib.hid hb
      have hgl : g < wr.heap.size := Nat.lt_of_lt_of_le hlt1 hb.size
      clear hNl hown hb hcv hz
      obtain ⟨N, hN⟩ : ∃ N, k + 1 + z = N := ⟨_, rfl⟩
      rw [hN] at HOW ⊢
      have HNN2 := Lib.hid hN
      clear hN
      have hP := padZ_mod all.length
      by_cases hzz : z < padZ all.length
      · have hF := padZ_first all.length z hzz
        have t1 : ((N : Int) % 64 != 56) = true := by
          have h1 := HNN2.out
          have h2 := HK2.out
          simp only [bne_iff_ne, ne_eq]
          omega
        have hzl : z < 64 := Nat.lt_trans hzz (padZ_lt _)
        have S1 : Hid ((L ++ [128] ++ List.replicate z 0).length + 1 ≤ 140737488355328) := Lib.hid (by
          rw [List.length_append, List.length_append, HKL.out, List.length_replicate]
          have := HK64.out
          simp; omega)
        have S2 : w1.heap.size ≤ (wr.alloc (Obj.cells #[Value.int .u8 0] 5)).heap.size := by rw [World.size_alloc]; have := HBW.out.size; omega
        have HZZ := Lib.hid hzz
        clear hF hP hzz hzl
        go_wp2_with (at_builtin; refine wpList_app rfl _ _ rfl w1.heap.size _ _ rfl (HOW.out.alloc _) (wr.heap.size + 1) (some ⟨wr.heap.size, 0, none⟩) 1 1 [0] rfl rfl (Rd.new wr (bs [0]) 5) S1.out S2 ?_)
        intro v5 w5 hown5 hgr5 hat5
        have hb5 := below_app (HBW.out.alloc HBW.out.size (Obj.cells #[Value.int .u8 0] 5)) (HOW.out.alloc (Obj.cells #[Value.int .u8 0] 5)) (Nat.le_refl _) hgr5
        have hz1 : z + 1 ≤ padZ all.length := HZZ.out
        have hown6 : OwnB w5 w1.heap.size v5 (L ++ [128] ++ List.replicate (z + 1) 0) := by
          rw [show L ++ [128] ++ List.replicate (z + 1) 0 = L ++ 128 :: (List.replicate z 0 ++ [0]) by rw [List.replicate_succ']; simp]; exact hown5
        obtain ⟨a5, c5, rfl, _⟩ := OwnG.shape hown6
        have hN6 : (L ++ [128] ++ List.replicate (z + 1) 0).length = N + 1 := by rw [List.length_append, List.length_append, HKL.out, List.length_replicate, ← HNN2.out]; rfl
        rw [hN6] at hown6 ⊢
        clear hown5 hat5 hN6
        go_wp2_with fail
        all_goals go_roundw
        all_goals first
          | exact ⟨z + 1, hz1, hown6, hb5⟩
          | (have := HNN2.out; show k + 1 + padZ all.length - (N + 1) < k + 1 + padZ all.length - N; omega)
      · have hze : z = padZ all.length := by have := HZ.out; omega
        have t1 : ((N : Int) % 64 != 56) = false := by
          have h1 := HNN2.out
          have h2 := HK2.out
          simp only [bne_eq_false_iff_eq]
          omega
        subst hze
        clear hP
        go_upto_region 7 with (fail)
        obtain ⟨X, hX⟩ : ∃ X, 8 * all.length % 18446744073709551616 = X := ⟨_, rfl⟩
        have HX := Lib.hid hX
        have HNW : Hid (IntKind.u64.wrap (8 * nn) = (X : Int)) := Lib.hid (by rw [← hX, ← HNN.out, IntKind.wrap_u64]; omega)
        obtain ⟨Q0, hQ0⟩ : ∃ Q0, L ++ [128] ++ List.replicate (padZ all.length) 0 = Q0 := ⟨_, rfl⟩
        rw [hQ0] at HOW
        have HQ0 := Lib.hid hQ0
        have HQL : Hid (Q0.length = N) := Lib.hid (OwnB.cap HOW.out).2.2
        have HN128 : Hid (N < 128) := Lib.hid (by have := HNN2.out; have := HK64.out; have := padZ_lt all.length; omega)
        clear hX hQ0 t1 hzz
        go_wp2_with fail
        go_loopw [4, 34] (fun v vi wq => ∃ i : Nat, i ≤ 8 ∧ vi = .int .i64 i ∧ OwnB wq w1.heap.size v (Q0 ++ (be8 X).take i) ∧ Below w1.heap.size w1 wq) (fun _ vi _ => 8 - (intOf vi).toNat)
        case atStart => exact ⟨0, by omega, rfl, by simpa using HOW.out, HBW.out⟩
        case round =>
          obtain ⟨i, hi, rfl, hown, hb⟩ := hrel
          rename World => wq
          by_cases hi8 : i < 8
          · have hc9q : wq.cell? ⟨g, 9, none⟩ = some (.int .u64 nn) := (hb.cell (p := ⟨g, 9, none⟩) hlt1).trans hc91
            have hnw := HNW.out
            have hw1 : wrap64 (8 * (i : Int)) = 8 * (i : Int) := IntWalk.wrap64_in _ (by omega)
            have hw2 : wrap64 (56 - 8 * (i : Int)) = 56 - 8 * (i : Int) := IntWalk.wrap64_in _ (by omega)
            have hsh : (0 : Int) ≤ 56 - 8 * (i : Int) := by omega
            have HOWN := Lib.hid hown
            have HBQ := Lib.hid hb
            clear hown hb
            obtain ⟨y, hy⟩ : ∃ y : UInt8, y = UInt8.ofNat (X / 2 ^ (56 - 8 * i) % 256) := ⟨_, rfl⟩
            have hyv : (y.toNat : Int) = (X : Int) / 2 ^ (56 - 8 * i) % 256 := by
              rw [hy, UInt8.toNat_ofNat', Nat.mod_eq_of_lt (by omega)]
              simp
            have htk : (be8 X).take (i + 1) = (be8 X).take i ++ [y] := by
              rw [List.take_add_one]
              congr 1
              simp [be8, hi8, hy]
            have RB : Hid (Rd (wq.alloc (Obj.cells #[Value.int .u8 ((X : Int) / 2 ^ (56 - 8 * i) % 256)] 5)) (wq.heap.size + 1) (some ⟨wq.heap.size, 0, none⟩) (bs [y])) := Lib.hid (by
              have := Rd.new wq (bs [y]) 5
              rw [← hyv]
              exact this)
            have S1 : Hid ((Q0 ++ (be8 X).take i).length + 1 ≤ 140737488355328) := Lib.hid (by
              rw [List.length_append, HQL.out, List.length_take, be8_length]
              have := HN128.out
              omega)
            have S2 : w1.heap.size ≤ (wq.alloc (Obj.cells #[Value.int .u8 ((X : Int) / 2 ^ (56 - 8 * i) % 256)] 5)).heap.size := by rw [World.size_alloc]; have := HBQ.out.size; omega
            have HTK := Lib.hid htk
            clear hy hyv htk
            go_wp2_with (at_builtin; refine wpList_app rfl _ _ rfl w1.heap.size _ _ rfl (HOWN.out.alloc _) (wq.heap.size + 1) (some ⟨wq.heap.size, 0, none⟩) 1 1 [y] rfl rfl RB.out S1.out S2 ?_)
            intro v5 w5 hown5 hgr5 hat5
            have hb5 := below_app (HBQ.out.alloc HBQ.out.size (Obj.cells #[Value.int .u8 ((X : Int) / 2 ^ (56 - 8 * i) % 256)] 5)) (HOWN.out.alloc (Obj.cells #[Value.int .u8 ((X : Int) / 2 ^ (56 - 8 * i) % 256)] 5)) (Nat.le_refl _) hgr5
            have hown6 : OwnB w5 w1.heap.size v5 (Q0 ++ (be8 X).take (i + 1)) := by
              rw [HTK.out, ← List.append_assoc]
              first | exact hown5 | (rw [List.append_assoc]; exact hown5)
            have hi9 : i + 1 ≤ 8 := by omega
            go_wp2_with fail
            all_goals go_roundw
            all_goals first
              | exact ⟨i + 1, hi9, rfl, hown6, hb5⟩
              | (simp [intOf]; omega)
          · have hie : i = 8 := by omega
            subst hie
            rw [List.take_of_length_le (by rw [be8_length]; exact Nat.le_refl _)] at hown
            have HPP : Hid (whole all ++ (Q0 ++ be8 X) = shaPad all) := Lib.hid (by
              rw [← whole_pad, ← HQ0.out, ← HX.out, HL.out, padTail]
              simp)
            obtain ⟨P8, hP8⟩ : ∃ P8, Q0 ++ be8 X = P8 := ⟨_, rfl⟩
            rw [hP8] at hown HPP
            obtain ⟨ap, cp, rfl, hcp⟩ := OwnG.shape hown
            obtain ⟨np, hnp⟩ : ∃ np, P8.length = np := ⟨_, rfl⟩
            rw [hnp] at hown hcp ⊢
            obtain ⟨hp1, hp2, hp3⟩ := OwnB.cap hown
            have hsp : ∀ ad, ap = some ad → ad.block ≠ w.heap.size + 1 ∧ some ad.block ≠ none := by
              intro ad had
              subst had
              have := (OwnG.lt hown ad.block rfl).1
              exact ⟨by have := HSZ1.out; omega, by simp⟩
            have hmq := HM1.out.below hb
            have hkq : KOK wq := (HK.out.below HB1.out).below hb
            have hloq : w.heap.size + 2 ≤ wq.heap.size := by have := hb.size; have := HSZ1.out; omega
            have hcp2 : cp ≤ 9223372036854775807 := by unfold maxLen at hp2; omega
            have HW := Lib.hid (write_mid (w.heap.size + 1) none (w.heap.size + 2) (whole all) P8 0 ap np cp wq hmq hloq hnp hcp hcp2 hown.rd (.inr hsp) hkq)
            have HBQ := Lib.hid hb
            clear hown hb hp1 hp2 hp3 hsp hmq hkq hloq hcp2 hP8 hnp hc91 hc81
            go_wp2_with fail
            refine HW.out.mono ?_
            rintro e w5 ⟨rfl, ⟨r5, hm5, hr5⟩, hb5⟩
            rw [HPP.out] at hm5
            have HM5 := Lib.hid hm5
            have HR5 := Lib.hid hr5
            have HB5 := Lib.hid hb5
            clear hm5 hr5 hb5
            go_upto_region 14 with (fail)
            have hz6 : Blk (w5.alloc (.cells (bs (List.replicate 32 0)).toArray 24)) w5.heap.size 24 (bs (List.replicate 32 0)) := Blk.new _ _ _
            have hm6 := HM5.out.below ((Below.refl w5.heap.size w5).alloc (Nat.le_refl _) (.cells (bs (List.replicate 32 0)).toArray 24))
            have hs6 : ((w5.alloc (.cells (bs (List.replicate 32 0)).toArray 24))).heap.size = w5.heap.size + 1 := World.size_alloc _ _
            have hb6 : But2 wq (w5.alloc (.cells (bs (List.replicate 32 0)).toArray 24)) (w.heap.size + 1) none := HB5.out.grown (grownBy_below ((Below.refl w5.heap.size w5).alloc (Nat.le_refl _) _)) (.inr (.inl rfl))
            have hgoal : ∀ {X Y : World} {C : Code} {a : Act} {Q : Exit → Act → World → Prop}, X = Y → Code.wp Tryd.prog C Q a Y → Code.wp Tryd.prog C Q a X := fun e h => e ▸ h
            generalize hw6 : (w5.alloc (.cells (bs (List.replicate 32 0)).toArray 24)) = w6 at hz6 hm6 hs6 hb6
            refine hgoal hw6 ?_
            obtain ⟨a6, c6, _, _, hB6, _, _, _, _⟩ := hm6.cells
            have HST6 : Hid ((stOf (shaPad all)).length = 8) := Lib.hid (stB_length _ _)
            obtain ⟨S6, hS6⟩ : ∃ S6, stOf (shaPad all) = S6 := ⟨_, rfl⟩
            rw [hS6] at hB6 HST6
            have l0 := load8 hB6 HST6.out 0 (by omega)
            have l1 := load8 hB6 HST6.out 1 (by omega)
            have l2 := load8 hB6 HST6.out 2 (by omega)
            have l3 := load8 hB6 HST6.out 3 (by omega)
            have l4 := load8 hB6 HST6.out 4 (by omega)
            have l5 := load8 hB6 HST6.out 5 (by omega)
            have l6 := load8 hB6 HST6.out 6 (by omega)
            have l7 := load8 hB6 HST6.out 7 (by omega)
            have HZ6 := Lib.hid hz6
            have HS6 := Lib.hid hS6
            have HSZ6 := Lib.hid hs6
            have HB6 := Lib.hid hb6
            clear hz6 hm6 hs6 hb6 hgoal hw6 hB6 hS6
            have HIX : Hid (∀ k : Nat, k < 8 → ∀ W : World, (Instr.index 54 (.agg #[Value.int .u32 (val (at32 S6 0)), Value.int .u32 (val (at32 S6 1)), Value.int .u32 (val (at32 S6 2)), Value.int .u32 (val (at32 S6 3)), Value.int .u32 (val (at32 S6 4)), Value.int .u32 (val (at32 S6 5)), Value.int .u32 (val (at32 S6 6)), Value.int .u32 (val (at32 S6 7))]) (.int .i64 (k : Int))).run Tryd.prog W = .ok (.int .u32 (val (at32 S6 k))) W) := Lib.hid (fun k hk W => by
              have h := run_index_us 54 8 Tryd.underlying54 S6 HST6.out k hk W
              have e : us S6 = [Value.int .u32 (val (at32 S6 0)), Value.int .u32 (val (at32 S6 1)), Value.int .u32 (val (at32 S6 2)), Value.int .u32 (val (at32 S6 3)), Value.int .u32 (val (at32 S6 4)), Value.int .u32 (val (at32 S6 5)), Value.int .u32 (val (at32 S6 6)), Value.int .u32 (val (at32 S6 7))] := by
                have e := congrArg us (eq8 S6 HST6.out)
                rw [e]; rfl
              rw [e] at h
              exact h)
            obtain ⟨L6, hL6⟩ : ∃ L6, shaL all = L6 := ⟨_, rfl⟩
            have HLL : Hid (L6.length = 32) := Lib.hid (by rw [← hL6]; exact shaL_length all)
            have HLG : Hid (∀ i k, i < 8 → k < 4 → ∃ y : UInt8, L6[4 * i + k]? = some y ∧ (y.toNat : Int) = val (at32 S6 i) / 2 ^ (24 - 8 * k) % 256) := Lib.hid (by
              intro i k hi hk
              obtain ⟨y, hy, hv⟩ := word4_get (at32 S6 i) k hk
              exact ⟨y, by rw [← hL6, shaL, HS6.out, flat4_get _ _ _ (by rw [HST6.out]; exact hi) hk]; exact hy, hv⟩)
            have HREL0 : Hid (SumRel w w5.heap.size L6 0 w6) := Lib.hid (by
              have hbq := HBQ.out.size
              have h1 := HSZ1.out
              have hqb : Below w.heap.size w wq := HB1.out.trans (HBQ.out.mono (by omega))
              refine ⟨HZ6.out, (HZ1.out.below HBQ.out).keep (HB6.out.block _ (by omega) (by omega) (by simp)), ⟨HB6.out.os.trans hqb.os, HB6.out.tape.trans hqb.tape, HB6.out.output.trans hqb.output, Nat.le_trans hqb.size HB6.out.size, fun k hk => (HB6.out.block k (by omega) (by omega) (by simp)).trans (hqb.block k hk)⟩⟩)
            have HGT : Hid (w.heap.size + 2 ≤ w5.heap.size) := Lib.hid (by have := HBQ.out.size; have := HB5.out.size; have := HSZ1.out; omega)
            have HL6 := Lib.hid hL6
            clear hL6 HB6 HS6 HZ6 HB1 HZ1 HBQ HB5 HR5 HM5 HO1 HM1 HSZ6 HSZ1
            go_upto_region 15 with (fail)
            clear l0 l1 l2 l3 l4 l5 l6 l7
            clear HOWN4 HB4 HBW HNN2 HX HNW HOW HQ0 HQL HN128 HPP HK2 HL HKL HO HK64 HNN
            go_loopw [58] (fun v wr => ∃ i : Nat, i ≤ 8 ∧ v = .int .i64 i ∧ SumRel w w5.heap.size L6 (4 * i) wr) (fun v _ => 8 - (intOf v).toNat)
            case atStart => exact ⟨0, by omega, rfl, HREL0.out⟩
            case round =>
              clear HREL0
              obtain ⟨i, hi, rfl, hsr⟩ := hrel
              rename World => wo
              by_cases hi8 : i < 8
              · have hidx := HIX.out i hi8
                have HSR := Lib.hid hsr
                clear hsr
                go_upto_region 18 with (fail)
                clear hidx
                go_loopw [62] (fun v wr => ∃ k : Nat, k ≤ 4 ∧ v = .int .i64 k ∧ SumRel w w5.heap.size L6 (4 * i + k) wr) (fun v _ => 4 - (intOf v).toNat)
                case atStart => exact ⟨0, by omega, rfl, HSR.out⟩
                case round =>
                  clear HSR
                  obtain ⟨k, hk, rfl, hsr⟩ := hrel
                  rename World => wi
                  by_cases hk4 : k < 4
                  · have hm31 : 4 * i + k < 32 := lt32 i k hi8 hk4
                    have h5 := HGT.out
                    have h56 : w.heap.size ≤ w5.heap.size ∧ w.heap.size ≠ w5.heap.size := by clear hm31; omega
                    have hkI : (k : Int) < 4 := Int.ofNat_lt.2 hk4
                    have H56 := Lib.hid h56
                    clear h5 h56
                    obtain ⟨hw1, hw2, hw3, hw4, hsh, hn1, hn2⟩ := wr_sum i k hi8 hk4
                    have hfr := hsr.1.frozen (4 * i + k)
                    obtain ⟨y, hy⟩ := laidTo_at L6 HLL.out (4 * i + k) hm31
                    have hce := hsr.1.cell _ _ hy
                    have HSR := Lib.hid hsr
                    have HM31 := Lib.hid hm31
                    clear hsr hy hm31 hw1 hw2 hw3 hw4 hn1 hn2
                    go_wp2_with fail
                    all_goals clear hsh hce hfr
                    all_goals go_roundw
                    all_goals first
                      | (case measure => simp [intOf]; omega)
                      | (have hh : SumRel w w5.heap.size L6 (4 * i + (k + 1)) (wi.setCell ⟨w5.heap.size, 4 * i + k, none⟩ (.int .u8 (val (at32 S6 i) / 2 ^ (24 - 8 * k) % 256))) := by
                          obtain ⟨q1, q2, q3⟩ := HSR.out
                          obtain ⟨y8, hy8, hv8⟩ := HLG.out i k hi8 hk4
                          have h1 := q1.set (4 * i + k) (.int .u8 (val (at32 S6 i) / 2 ^ (24 - 8 * k) % 256))
                          rw [laidTo_set L6 HLL.out _ HM31.out y8 _ hy8 hv8] at h1
                          exact ⟨h1, q2.other (fun e => H56.out.2 e.symm) _, q3.setCell H56.out.1 _⟩
                         exact ⟨k + 1, hk4, by go_num, hh⟩)
                  · have hk4' : k = 4 := by omega
                    subst hk4'
                    have hsr' : SumRel w w5.heap.size L6 (4 * (i + 1)) wi := hsr
                    have HSR := Lib.hid hsr'
                    clear hsr hsr'
                    go_wp2_with fail
                    all_goals go_roundw
                    all_goals first
                      | (case measure => simp [intOf]; omega)
                      | exact ⟨i + 1, by omega, by go_num, HSR.out⟩
              · have hi8' : i = 8 := by omega
                subst hi8'
                obtain ⟨q1, q2, q3⟩ := hsr
                rw [show 4 * 8 = 32 from rfl, laidTo_all L6 HLL.out] at q1
                obtain ⟨X6, hX6⟩ : ∃ X6, (bs L6).toArray = X6 := ⟨_, rfl⟩
                have hXs : X6.size = 32 := by rw [← hX6]; simp [bs_length, HLL.out]
                have hinf : (Tryd.prog.info? 24).map (·.size) = some X6.size := by rw [hXs]; kernel_rfl
                have hone : X6.all (·.oneCell') = true := by
                  rw [← hX6, Array.all_eq_true_iff_forall_mem]
                  intro v hv
                  exact bs_one L6 v (by simpa using hv)
                have g1 : wo.heap[w5.heap.size]? = some (.cells X6 24 (0, 0)) := by rw [← hX6]; exact q1
                obtain ⟨Z6, hZ6⟩ : ∃ Z6, (bs (List.replicate 32 0)).toArray = Z6 := ⟨_, rfl⟩
                have hzs : Z6.size = X6.size := by rw [← hZ6, hXs]; simp [bs_length]
                have g2 : wo.heap[w.heap.size]? = some (.cells Z6 24 (0, 0)) := by rw [← hZ6]; exact q2
                have g3 := setRow_heap wo w.heap.size Z6 X6 24 (0, 0) g2
                have b3 : Below w.heap.size w (wo.setRow w.heap.size X6) := ⟨q3.os, q3.tape, q3.output, by rw [setRow_size]; exact q3.size, fun k hk => (setRow_other wo _ k X6 (by omega)).trans (q3.block k hk)⟩
                have HX6 := Lib.hid hX6
                have HXS := Lib.hid hXs
                have B3 := Lib.hid b3
                clear hX6 hZ6 q1 q2 q3 b3 hXs
                go_wp2_with (first
                  | refine wpList_load_row rfl 24 _ rfl w5.heap.size rfl 24 X6 (0, 0) _ g1 Tryd.underlying24 rfl hinf ?_
                  | refine wpList_store_row rfl 24 _ _ rfl w.heap.size X6 rfl rfl 24 Z6 g2 hinf hzs hone ?_)
                refine bodyPost_ret (results_cell_row rfl _ _ w.heap.size 24 X6 (0, 0) _ rfl g3 Tryd.underlying24 rfl hinf) rfl ?_
                exact ⟨by rw [← HX6.out, ← HL6.out], B3.out⟩
end Go.Proofs.YtnfchojekcoplaaDoor
