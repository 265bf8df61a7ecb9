/- sha: block -/
import Derived.Test.YtnfchojekcoplaaDoorSha2a
namespace Go.Proofs.YtnfchojekcoplaaDoor
set_option linter.unusedVariables false
set_option linter.unusedSimpArgs false
open Go.RowKit

set_option maxRecDepth 100000 in
set_option maxHeartbeats 2000000 in
theorem block_any (gh : Nat) (ab : Option Addr) (nb cb : Nat) (st : List W32) (b : List UInt8) (xs : List Value) (w : World) (hst : st.length = 8) (hb : b.length = nb) (hcb : nb ≤ cb) (h64 : 64 ≤ nb) (hcb2 : cb ≤ 9223372036854775807)
    (hh : Blk w gh 57 (us st ++ xs)) (hr : Rd w w.heap.size ab (bs b)) (hk : KOK w) :
    Calls Tryd.prog 30 #[.pointer (some ⟨gh, 0, none⟩), .slice ab nb cb] w fun e w' =>
      e = .returned (.tuple #[]) ∧ Blk w' gh 57 (us (compress st b) ++ xs) ∧ w.grownBy w' (some gh) := by
  subst hb
  have HH := Lib.hid hh
  have HR := Lib.hid hr
  have HK := Lib.hid hk
  have HST := Lib.hid hst
  clear hh hr hk hst
  obtain ⟨bb, ob, rfl, hbb, _⟩ := HR.out.byte 0 (by omega)
  go_enter Tryd.func30, Tryd.ntmps30
  go_wp2_with fail
  go_loopw [18] (fun i wr => L1Rel b w i wr) (fun i _ => 16 - (intOf i).toNat)
  case atStart => exact ⟨0, List.replicate 64 0, rfl, by omega, by simp, rfl, Blk.new w _ (us (List.replicate 64 0)), (Below.refl _ _).alloc (Nat.le_refl _) _⟩
  case round =>
    obtain ⟨k, ws, rfl, hk16, hwl, htk, hblk, hbel⟩ := hrel
    have HWL := Lib.hid hwl
    have HTK := Lib.hid htk
    have HBK := Lib.hid hblk
    have HB := Lib.hid hbel
    have hbz := hbel.size
    clear hwl htk hblk hbel
    by_cases hlt : k < 16
    · have hltI : (k : Int) < 16 := by omega
      have hc : ∀ j, (hj : j < 4) → wr.cell? ⟨bb, ob + (4 * k + j), none⟩ = some (.int .u8 ((b[4 * k + j]'(by omega)).toNat : Int)) := fun j hj => by
        obtain ⟨b', o', he, _, hc⟩ := (HR.out.below HB.out).byte (4 * k + j) (by omega)
        simp at he
        obtain ⟨rfl, rfl⟩ := he
        exact hc
      have c0 := hc 0 (by omega)
      have c1 := hc 1 (by omega)
      have c2 := hc 2 (by omega)
      have c3 := hc 3 (by omega)
      clear hc
      simp only [Nat.add_zero] at c0
      have w0 : IntKind.i64.wrap (4 * (k : Int)) = 4 * (k : Int) := IntWalk.i64_in _ (by omega)
      have w1 : IntKind.i64.wrap (4 * (k : Int) + 1) = 4 * (k : Int) + 1 := IntWalk.i64_in _ (by omega)
      have w2 : IntKind.i64.wrap (4 * (k : Int) + 2) = 4 * (k : Int) + 2 := IntWalk.i64_in _ (by omega)
      have w3 : IntKind.i64.wrap (4 * (k : Int) + 3) = 4 * (k : Int) + 3 := IntWalk.i64_in _ (by omega)
      have n0 : 0 ≤ 4 * (k : Int) := by omega
      have n1 : 0 ≤ 4 * (k : Int) + 1 := by omega
      have n2 : 0 ≤ 4 * (k : Int) + 2 := by omega
      have n3 : 0 ≤ 4 * (k : Int) + 3 := by omega
      have m0 : 4 * (k : Int) < (b.length : Int) := by omega
      have m1 : 4 * (k : Int) + 1 < (b.length : Int) := by omega
      have m2 : 4 * (k : Int) + 2 < (b.length : Int) := by omega
      have m3 : 4 * (k : Int) + 3 < (b.length : Int) := by omega
      have t0 : (4 * (k : Int)).toNat = 4 * k := by omega
      have t1 : (4 * (k : Int) + 1).toNat = 4 * k + 1 := by omega
      have t2 : (4 * (k : Int) + 2).toNat = 4 * k + 2 := by omega
      have t3 : (4 * (k : Int) + 3).toNat = 4 * k + 3 := by omega
      have k0 : (0 : Int) ≤ (k : Int) := by omega
      have k64 : (k : Int) < 64 := by omega
      have hcell := HBK.out.cell k _ (us_get ws k (by rw [HWL.out]; omega))
      have hfz := HBK.out.frozen k
      go_wp2_with fail
      have r1 := wrap_w8
      have r2 : ∀ x : W32, IntKind.u32.wrap (val x * 16777216) = val (x <<< 24) := fun x => val_shl x 24
      have r3 : ∀ x : W32, IntKind.u32.wrap (val x * 65536) = val (x <<< 16) := fun x => val_shl x 16
      have r4 : ∀ x : W32, IntKind.u32.wrap (val x * 256) = val (x <<< 8) := fun x => val_shl x 8
      have r5 := val_or
      have hne : ¬ w.heap.size = bb := by omega
      go_region_held3 (fun w' => w'.cell? ⟨bb, ob + 4 * k, none⟩ = some (.int .u8 ((b[4 * k]'(by omega)).toNat : Int)) ∧ w'.cell? ⟨bb, ob + (4 * k + 1), none⟩ = some (.int .u8 ((b[4 * k + 1]'(by omega)).toNat : Int)) ∧
        w'.cell? ⟨bb, ob + (4 * k + 2), none⟩ = some (.int .u8 ((b[4 * k + 2]'(by omega)).toNat : Int)) ∧ w'.cell? ⟨bb, ob + (4 * k + 3), none⟩ = some (.int .u8 ((b[4 * k + 3]'(by omega)).toNat : Int))) (first | go_keep | (refine ⟨?_, ?_, ?_, ?_⟩ <;> (refine (World.cell?_setCell_other wr _ _ _ (fun e => hne (by injection e))).trans ?_; assumption))) (fail)
      clear r1 r2 r3 r4 r5 w0 w1 w2 w3
      go_wp2_with fail
      go_roundw
      case rel =>
        refine ⟨k + 1, ws.set k (be4 b k), by go_num, by omega, by rw [List.length_set]; exact HWL.out, ?_, ?_, (HB.out.setCell (by simp) _).drew⟩
        · rw [take_set _ _ _ (by rw [HWL.out]; omega), HTK.out, first16_succ]
        · rw [us_set, be4_eq b k (by omega)]; exact (HBK.out.set k _).drew
      case measure => simp [intOf]; omega
    · have hk : k = 16 := by omega
      subst hk
      clear hlt hk16
      go_wp2_with fail
      go_loopw [7] (fun i wr => L2Rel b w i wr) (fun i _ => 64 - (intOf i).toNat)
      case atStart => exact ⟨16, ws, rfl, by omega, by omega, HWL.out, HTK.out, HBK.out, HB.out⟩
      case round =>
        clear HWL HTK HBK HB hbz ws
        rename World => wq
        obtain ⟨T, ws, rfl, hT16, hT64, hwl, htk, hblk, hbel⟩ := hrel
        have HWL := Lib.hid hwl
        have HTK := Lib.hid htk
        have HBK := Lib.hid hblk
        have HB := Lib.hid hbel
        have hbz := hbel.size
        clear hwl htk hblk hbel
        by_cases hlt : T < 64
        · have hltI : (T : Int) < 64 := by omega
          have a15 := HBK.out.cell (T - 15) _ (us_get ws (T - 15) (by rw [HWL.out]; omega))
          have a2 := HBK.out.cell (T - 2) _ (us_get ws (T - 2) (by rw [HWL.out]; omega))
          have a16 := HBK.out.cell (T - 16) _ (us_get ws (T - 16) (by rw [HWL.out]; omega))
          have a7 := HBK.out.cell (T - 7) _ (us_get ws (T - 7) (by rw [HWL.out]; omega))
          have hcell := HBK.out.cell T _ (us_get ws T (by rw [HWL.out]; omega))
          have hfz := HBK.out.frozen T
          have hne16 : (⟨w.heap.size, T, none⟩ : Addr) ≠ ⟨w.heap.size, T - 16, none⟩ := fun e => by injection e; omega
          have hne7 : (⟨w.heap.size, T, none⟩ : Addr) ≠ ⟨w.heap.size, T - 7, none⟩ := fun e => by injection e; omega
          have n15 : 0 ≤ (T : Int) - 15 := by omega
          have n2 : 0 ≤ (T : Int) - 2 := by omega
          have n16 : 0 ≤ (T : Int) - 16 := by omega
          have n7 : 0 ≤ (T : Int) - 7 := by omega
          have m15 : (T : Int) - 15 < 64 := by omega
          have m2 : (T : Int) - 2 < 64 := by omega
          have m16 : (T : Int) - 16 < 64 := by omega
          have m7 : (T : Int) - 7 < 64 := by omega
          have t15 : ((T : Int) - 15).toNat = T - 15 := by omega
          have t2 : ((T : Int) - 2).toNat = T - 2 := by omega
          have t16 : ((T : Int) - 16).toNat = T - 16 := by omega
          have t7 : ((T : Int) - 7).toNat = T - 7 := by omega
          have k0 : (0 : Int) ≤ (T : Int) := by omega
          have p16 : (16 : Int) ≤ (T : Int) := by omega
          have p7 : (7 : Int) ≤ (T : Int) := by omega
          have q16 : (T : Int) < 64 + 16 := by omega
          have q7 : (T : Int) < 64 + 7 := by omega
          have q16' : (T : Int) < 80 := by omega
          have q7' : (T : Int) < 71 := by omega
          have w15 : IntKind.i64.wrap ((T : Int) - 15) = (T : Int) - 15 := IntWalk.i64_in _ (by omega)
          have w2 : IntKind.i64.wrap ((T : Int) - 2) = (T : Int) - 2 := IntWalk.i64_in _ (by omega)
          have w16 : IntKind.i64.wrap ((T : Int) - 16) = (T : Int) - 16 := IntWalk.i64_in _ (by omega)
          have w7 : IntKind.i64.wrap ((T : Int) - 7) = (T : Int) - 7 := IntWalk.i64_in _ (by omega)
          have HN : Hid (nextW ws T = at32 ws (T - 16) + at32 ws (T - 7) + sg0 (at32 ws (T - 15)) + sg1 (at32 ws (T - 2))) := Lib.hid rfl
          generalize at32 ws (T - 15) = x15 at a15 HN
          generalize at32 ws (T - 2) = x2 at a2 HN
          generalize at32 ws (T - 16) = x16 at a16 HN
          generalize at32 ws (T - 7) = x7 at a7 HN
          have r1 := val_add
          have r2 := val_xor
          have r3 : ∀ x : W32, val x / (8 : Int) = val (x >>> 3) := fun x => val_shr x 3
          have r4 : ∀ x : W32, val x / (1024 : Int) = val (x >>> 10) := fun x => val_shr x 10
          go_wp2_with fail
          go_quiet (fail)
          go_wp2_with fail
          go_region_held3 (fun w' => w'.cell? ⟨w.heap.size, T - 16, none⟩ = some (.int .u32 (val x16)) ∧ w'.cell? ⟨w.heap.size, T - 7, none⟩ = some (.int .u32 (val x7))) (first | go_keep | exact ⟨(World.cell?_setCell_other _ _ _ _ hne16).trans a16, (World.cell?_setCell_other _ _ _ _ hne7).trans a7⟩)
            (first
              | ((with_reducible refine (right7 x15 _).mono ?_); rintro e w' ⟨rfl, rfl⟩)
              | ((with_reducible refine (right18 x15 _).mono ?_); rintro e w' ⟨rfl, rfl⟩)
              | ((with_reducible refine (right17 x2 _).mono ?_); rintro e w' ⟨rfl, rfl⟩)
              | ((with_reducible refine (right19 x2 _).mono ?_); rintro e w' ⟨rfl, rfl⟩))
          clear r1 r2 r3 r4 w15 w2 w16 w7 t15 t2 t16 t7
          go_wp2_with fail
          go_roundw
          case rel =>
            have hrel2 : L2Rel b w (.int .i64 ((T : Int) + 1)) (((wq.drewN (nq + 1)).setCell ⟨w.heap.size, T, none⟩ (.int .u32 (val (x16 + x7 + (rr x15 7 ^^^ rr x15 18 ^^^ x15 >>> 3) + (rr x2 17 ^^^ rr x2 19 ^^^ x2 >>> 10)))))) := by
              refine ⟨T + 1, ws.set T (nextW ws T), by go_num, by omega, by omega, by rw [List.length_set]; exact HWL.out, ?_, ?_, (below_drewN HB.out _).setCell (by simp) _⟩
              · rw [take_set _ _ _ (by rw [HWL.out]; omega), HTK.out, show T + 1 - 16 = (T - 16) + 1 by omega, sched, ← HTK.out, show T - 16 + 16 = T by omega, nextW_take _ _ hT16]
              · rw [us_set, HN.out]; exact (HBK.out.drewN _).set T _
            first | exact hrel2 | ((repeat apply Exists.intro); exact ⟨hrel2, rfl⟩)
          case measure => simp [intOf]; omega
        · have hT : T = 64 := by omega
          subst hT
          have hws : ws = sched b 48 := by
            have h := HTK.out
            rw [List.take_of_length_le (by rw [HWL.out]; exact Nat.le_refl _)] at h
            exact h
          have HWS := Lib.hid hws
          clear hws HTK
          have HHq := Lib.hid (HH.out.below HB.out)
          have d0 := load8 HHq.out HST.out 0 (by omega)
          have d1 := load8 HHq.out HST.out 1 (by omega)
          have d2 := load8 HHq.out HST.out 2 (by omega)
          have d3 := load8 HHq.out HST.out 3 (by omega)
          have d4 := load8 HHq.out HST.out 4 (by omega)
          have d5 := load8 HHq.out HST.out 5 (by omega)
          have d6 := load8 HHq.out HST.out 6 (by omega)
          have d7 := load8 HHq.out HST.out 7 (by omega)
          clear hlt hT16 hT64
          have HKq : Hid (∀ o, (wq.alloc o).heap[0]? = some (.cells (us kTab).toArray 59 (0, 0))) := Lib.hid (fun o => by
            have h1 := HK.out
            have h0 : 0 < w.heap.size := lt_of_heap h1
            rw [((Below.refl wq.heap.size wq).alloc (Nat.le_refl _) o).block 0 (by omega), HB.out.block 0 h0]
            exact h1)
          go_upto_region 13 with (fail)
          have HS0 : Hid (Blk (wq.alloc (Obj.cells #[Value.int IntKind.u32 (val (at32 st 0)), Value.int IntKind.u32 (val (at32 st 1)), Value.int IntKind.u32 (val (at32 st 2)), Value.int IntKind.u32 (val (at32 st 3)), Value.int IntKind.u32 (val (at32 st 4)), Value.int IntKind.u32 (val (at32 st 5)), Value.int IntKind.u32 (val (at32 st 6)), Value.int IntKind.u32 (val (at32 st 7))] 54)) wq.heap.size 54 (us st)) := Lib.hid (by
            have h := Blk.new wq 54 (us st)
            have e : (us st).toArray = #[Value.int IntKind.u32 (val (at32 st 0)), Value.int IntKind.u32 (val (at32 st 1)), Value.int IntKind.u32 (val (at32 st 2)), Value.int IntKind.u32 (val (at32 st 3)), Value.int IntKind.u32 (val (at32 st 4)), Value.int IntKind.u32 (val (at32 st 5)), Value.int IntKind.u32 (val (at32 st 6)), Value.int IntKind.u32 (val (at32 st 7))] := by
              have := congrArg (fun l => (us l).toArray) (eq8 st HST.out)
              exact this
            rw [e] at h
            exact h)
          have HB2 := Lib.hid (HB.out.alloc hbz (Obj.cells #[Value.int IntKind.u32 (val (at32 st 0)), Value.int IntKind.u32 (val (at32 st 1)), Value.int IntKind.u32 (val (at32 st 2)), Value.int IntKind.u32 (val (at32 st 3)), Value.int IntKind.u32 (val (at32 st 4)), Value.int IntKind.u32 (val (at32 st 5)), Value.int IntKind.u32 (val (at32 st 6)), Value.int IntKind.u32 (val (at32 st 7))] 54))
          have HW2 := Lib.hid (HBK.out.alloc (Obj.cells #[Value.int IntKind.u32 (val (at32 st 0)), Value.int IntKind.u32 (val (at32 st 1)), Value.int IntKind.u32 (val (at32 st 2)), Value.int IntKind.u32 (val (at32 st 3)), Value.int IntKind.u32 (val (at32 st 4)), Value.int IntKind.u32 (val (at32 st 5)), Value.int IntKind.u32 (val (at32 st 6)), Value.int IntKind.u32 (val (at32 st 7))] 54))
          have HK2 := Lib.hid (HKq.out (Obj.cells #[Value.int IntKind.u32 (val (at32 st 0)), Value.int IntKind.u32 (val (at32 st 1)), Value.int IntKind.u32 (val (at32 st 2)), Value.int IntKind.u32 (val (at32 st 3)), Value.int IntKind.u32 (val (at32 st 4)), Value.int IntKind.u32 (val (at32 st 5)), Value.int IntKind.u32 (val (at32 st 6)), Value.int IntKind.u32 (val (at32 st 7))] 54))
          generalize wq.alloc (Obj.cells #[Value.int IntKind.u32 (val (at32 st 0)), Value.int IntKind.u32 (val (at32 st 1)), Value.int IntKind.u32 (val (at32 st 2)), Value.int IntKind.u32 (val (at32 st 3)), Value.int IntKind.u32 (val (at32 st 4)), Value.int IntKind.u32 (val (at32 st 5)), Value.int IntKind.u32 (val (at32 st 6)), Value.int IntKind.u32 (val (at32 st 7))] 54) = W3 at HS0 HB2 HW2 HK2 ⊢
          obtain ⟨gs, hgs⟩ : ∃ gs, wq.heap.size = gs := ⟨_, rfl⟩
          have hgsw : w.heap.size ≤ gs := by omega
          have HNE : Hid (w.heap.size < gs) := Lib.hid (by have := HBK.out.lt; omega)
          rw [hgs] at HS0 ⊢
          clear d0 d1 d2 d3 d4 d5 d6 d7 hgs HKq HBK HB hbz HHq
          obtain ⟨KT, hKT⟩ : ∃ KT, KT = (us kTab).toArray := ⟨_, rfl⟩
          have hK2 := HK2.out
          rw [← hKT] at hK2
          have HKT := Lib.hid hKT
          have hinf : (Tryd.prog.info? 59).map (·.size) = some KT.size := by rw [hKT]; kernel_rfl
          clear hKT
          go_wp2_with (refine wpList_load_row rfl 59 _ rfl 0 rfl 59 KT (0, 0) _ hK2 Tryd.underlying59 rfl hinf ?_)
          clear hK2 hinf
          go_loopw [107] (fun i wr => L3Rel b st w gs i wr) (fun i _ => 64 - (intOf i).toNat)
          case atStart => exact ⟨0, ws, st, rfl, by omega, HWS.out, rfl, HW2.out, HS0.out, HB2.out⟩
          case round =>
            clear HWS HWL HS0 HB2 HW2 ws
            obtain ⟨k, ws, s, rfl, hk64, hws, hs, hblk, hsb, hbel⟩ := hrel
            have HWS := Lib.hid hws
            have HS := Lib.hid hs
            have HWB := Lib.hid hblk
            have HSB := Lib.hid hsb
            have HB := Lib.hid hbel
            have hbz := hbel.size
            have HSL : Hid (s.length = 8) := Lib.hid (by rw [hs]; exact rnds_length _ _ _ HST.out)
            clear hws hs hblk hsb hbel
            by_cases hlt : k < 64
            · have hltI : (k : Int) < 64 := by omega
              have hidx : ∀ W : World, (Instr.index 59 (.agg KT) (.int .i64 k)).run Tryd.prog W = .ok (.int .u32 (val (at32 kTab k))) W := fun W => by
                rw [HKT.out]; exact run_index_us 59 64 Tryd.underlying59 kTab (by decide) k hlt W
              have HR3 : Hid (rnds ws st (k + 1) = rnd s (at32 kTab k) (at32 ws k)) := Lib.hid (by rw [rnds, ← HS.out])
              obtain ⟨kk, hkk⟩ : ∃ kk, at32 kTab k = kk := ⟨_, rfl⟩
              rw [hkk] at hidx HR3
              clear hkk
              have hwl : ws.length = 64 := by rw [HWS.out, sched_length]
              obtain ⟨wk, hwk⟩ : ∃ wk, at32 ws k = wk := ⟨_, rfl⟩
              have akw := HWB.out.cell k _ (us_get ws k (by omega))
              rw [hwk] at akw HR3
              clear hwk
              clear hwl
              have y0 := HSB.out.cell 0 _ (us_get s 0 (by rw [HSL.out]; omega))
              have y1 := HSB.out.cell 1 _ (us_get s 1 (by rw [HSL.out]; omega))
              have y2 := HSB.out.cell 2 _ (us_get s 2 (by rw [HSL.out]; omega))
              have y4 := HSB.out.cell 4 _ (us_get s 4 (by rw [HSL.out]; omega))
              have y5 := HSB.out.cell 5 _ (us_get s 5 (by rw [HSL.out]; omega))
              have y6 := HSB.out.cell 6 _ (us_get s 6 (by rw [HSL.out]; omega))
              have y7 := HSB.out.cell 7 _ (us_get s 7 (by rw [HSL.out]; omega))
              have k0 : (0 : Int) ≤ (k : Int) := by omega
              have r1 := val_add
              have r2 := val_xor
              have r3 := val_and
              have r4 : ∀ x : W32, bits .xor .u32 (if IntKind.u32.signed = true then -1 else IntKind.u32.max) (val x) = val (~~~x) := val_not
              go_wp2_with fail
              go_quiet (fail)
              go_wp2_with fail
              go_quiet ((first | with_reducible exact quiet_add_left (right6 (at32 s 4) _) | with_reducible exact quiet_add_left (right11 (at32 s 4) _) | with_reducible exact quiet_add_left (right25 (at32 s 4) _)))
              go_wp2_with fail
              go_quiet ((first | with_reducible exact quiet_add_left (right2 (at32 s 0) _) | with_reducible exact quiet_add_left (right13 (at32 s 0) _) | with_reducible exact quiet_add_left (right22 (at32 s 0) _)))
              go_wp2_with fail
              go_region_law ((refine step_copy7 (by rfl) (.tmp 173) (.tmp 174) 60 60 (by rfl) Tryd.underlying60 gs 7 8 54 s HSL.out (by rfl) (by rfl) HSB.out ?_; intro w2 hblk2 hgr2))
              have HSB2 := Lib.hid hblk2
              have HWB2 : Hid (Blk w2 w.heap.size 59 (us ws)) := Lib.hid (HWB.out.keep (hgr2.block _ HWB.out.lt (fun e => by injection e; have := HNE.out; omega)))
              have HB2 : Hid (Below w.heap.size w w2) := by
                refine Lib.hid (Below.grown ?_ hgr2 ?_ (fun g hg => by injection hg; omega))
                · repeat (first | exact HB.out | refine below_drewN ?_ _ | refine Below.drew ?_)
                · exact hbz
              clear hblk2 hgr2 HSB HWB HB y0 y1 y2 y4 y5 y6 y7 akw
              have z0 : w2.cell? ⟨gs, 0, none⟩ = some (.int .u32 (val (at32 s 0))) := HSB2.out.cell 0 _ rfl
              have z4 : w2.cell? ⟨gs, 4, none⟩ = some (.int .u32 (val (at32 s 3))) := HSB2.out.cell 4 _ rfl
              have f0 := HSB2.out.frozen 0
              have f4 := HSB2.out.frozen 4
              have HR4 : Hid (rnd s kk wk = [rone s kk wk + rtwo s, at32 s 0, at32 s 1, at32 s 2, at32 s 3 + rone s kk wk, at32 s 4, at32 s 5, at32 s 6]) := Lib.hid rfl
              have HO1 : Hid (rone s kk wk = at32 s 7 + (rr (at32 s 4) 6 ^^^ rr (at32 s 4) 11 ^^^ rr (at32 s 4) 25) + (at32 s 4 &&& at32 s 5 ^^^ ~~~at32 s 4 &&& at32 s 6) + kk + wk) := Lib.hid rfl
              have HO2 : Hid (rtwo s = (rr (at32 s 0) 2 ^^^ rr (at32 s 0) 13 ^^^ rr (at32 s 0) 22) + (at32 s 0 &&& at32 s 1 ^^^ at32 s 0 &&& at32 s 2 ^^^ at32 s 1 &&& at32 s 2)) := Lib.hid rfl
              go_wp2_with fail
              go_roundw
              case rel =>
                have hrel3 : ∀ v1 v2 : W32, v1 = rone s kk wk + rtwo s → v2 = at32 s 3 + rone s kk wk → L3Rel b st w gs (.int .i64 ((k : Int) + 1)) ((w2.setCell ⟨gs, 0, none⟩ (.int .u32 (val v1))).setCell ⟨gs, 4, none⟩ (.int .u32 (val v2))) := fun v1 v2 h1 h2 => by
                  refine ⟨k + 1, ws, rnd s kk wk, by go_num, by omega, HWS.out, HR3.out.symm, ?_, ?_, (HB2.out.setCell hgsw _).setCell hgsw _⟩
                  · exact (HWB2.out.other (by have := HNE.out; omega) _).other (by have := HNE.out; omega) _
                  · rw [HR4.out, ← h1, ← h2]; exact (HSB2.out.set 0 (U v1)).set 4 (U v2)
                have hh := hrel3 _ _ (by rw [HO1.out, HO2.out]) (by rw [HO1.out])
                first | exact hh | ((repeat apply Exists.intro); exact ⟨hh, rfl⟩)
              case measure => simp [intOf]; omega
            · have hk : k = 64 := by omega
              subst hk
              clear hlt hk64
              have HHq := Lib.hid (HH.out.below HB.out)
              have HGW := Lib.hid (grownBy_below (row := some gh) HB.out)
              have hghw : gh < w.heap.size := HH.out.lt
              have hne : ¬ gs = gh := by omega
              have HSL8 : Hid (s.length = 8) := Lib.hid (by rw [HS.out]; exact rnds_length _ _ _ HST.out)
              have HFIN : Hid (compress st b = List.zipWith (· + ·) st s) := Lib.hid (by rw [compress, HS.out, HWS.out])
              clear HS HWS HWB HB hbz HKT HK2 HNE hgsw HSL ws
              go_wp2_with fail
              go_loopw [186] (fun i wr => L4Rel st s xs w gh gs i wr) (fun i _ => 8 - (intOf i).toNat)
              case atStart => exact ⟨0, st, rfl, by omega, HST.out, rfl, rfl, HHq.out, HSB.out, HGW.out⟩
              case round =>
                clear HHq HSB HGW
                rename World => wp
                obtain ⟨k, hs, rfl, hk8, hl, htk, hdr, hhb, hsb, hgw⟩ := hrel
                have HL := Lib.hid hl
                have HTK := Lib.hid htk
                have HDR := Lib.hid hdr
                have HHB := Lib.hid hhb
                have HSB := Lib.hid hsb
                have HGW := Lib.hid hgw
                clear hl htk hdr hhb hsb hgw
                by_cases hlt : k < 8
                · have hltI : (k : Int) < 8 := by omega
                  have hg1 : (us hs ++ xs)[k]? = some (.int .u32 (val (at32 hs k))) := by
                    rw [List.getElem?_append_left (by simp [us]; have := HL.out; omega)]
                    exact us_get hs k (by rw [HL.out]; omega)
                  have y1 := HHB.out.cell k _ hg1
                  have y2 := HSB.out.cell k _ (us_get s k (by rw [HSL8.out]; omega))
                  have fz := HHB.out.frozen k
                  have k0 : (0 : Int) ≤ (k : Int) := by omega
                  have hnes : (⟨gh, k, none⟩ : Addr) ≠ ⟨gs, k, none⟩ := fun e => by injection e; omega
                  have r1 := val_add
                  clear hg1
                  go_wp2_with fail
                  go_region_law (fail)
                  all_goals go_wp2_with fail
                  all_goals go_roundw
                  all_goals first
                    | (case measure => simp [intOf]; omega)
                    | (have hh : L4Rel st s xs w gh gs (.int .i64 ((k : Int) + 1)) ((wp.setCell ⟨gh, k, none⟩ (.int .u32 (val (at32 hs k + at32 s k)))).drew) := by
                        obtain ⟨q1, q2⟩ := l4_step HST.out HSL8.out HL.out hlt HTK.out HDR.out
                        refine ⟨k + 1, hs.set k (at32 hs k + at32 s k), by go_num, by omega, by rw [List.length_set]; exact HL.out, q1, q2, ?_, (HSB.out.other (by omega) _).drew, grownBy_drew (grownBy_set HGW.out _)⟩
                        rw [← us_app_set _ _ _ _ (by rw [HL.out]; exact hlt)]; exact (HHB.out.set k _).drew
                       first | exact hh | ((repeat apply Exists.intro); exact ⟨hh, rfl⟩))
                · have hk : k = 8 := by omega
                  subst hk
                  clear hlt hk8
                  have HE : Hid (hs = compress st b) := Lib.hid (by
                    have h := HTK.out
                    rw [List.take_of_length_le (by rw [HL.out]; exact Nat.le_refl _), List.take_of_length_le (by simp [HST.out, HSL8.out])] at h
                    rw [HFIN.out]; exact h)
                  have HF := Lib.hid (HE.out ▸ HHB.out)
                  clear HHB HTK HDR HFIN
                  go_wp2_with fail
                  go_end0
                  exact ⟨rfl, HF.out, HGW.out⟩
end Go.Proofs.YtnfchojekcoplaaDoor
