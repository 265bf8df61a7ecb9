/- codec.Ungroup: the walk -/
import Derived.Test.YtjmmabilpdiohaaUng3
namespace Go.Proofs.Ytjmmabilpdiohaa
set_option linter.unusedVariables false
set_option linter.unusedSimpArgs false
open Go.RowKit

set_option maxRecDepth 100000 in
set_option maxHeartbeats 8000000 in
theorem ungroup_any (a : Option Addr) (n c : Nat) (b : List UInt8) (w : World) (hn : b.length = n) (hc : n ≤ c) (hc2 : c ≤ 9223372036854775807) (hr : Rd w w.heap.size a (bs b)) :
    Calls Try.prog 21 #[.slice a n c] w (UngPost b w) := by
  have hmf : ∀ (fn : Fn) (first cap : Array Value) (w : World), (Instr.makeFunc fn first cap).run Try.prog w = .ok (.func fn first cap) w := fun _ _ _ _ => rfl
  subst hn
  have HR := Lib.hid hr
  clear hr
  go_enter_defers Try.func21, Try.ntmps21
  go_wp2_with fail
  have hU : Hid (US w ((((w.alloc (Obj.cells #[Value.slice a b.length c] 22)).alloc (Obj.cells #[Value.slice none 0 0] 37)).alloc (Obj.cells #[Value.int IntKind.i64 0] 25)).alloc
      (Obj.cells #[Value.func (Fn.func 34) #[] #[Value.pointer (some { block := w.heap.size, off := 0 })]] 58)) a b.length c (.slice none 0 0)) := Lib.hid (by
    refine ⟨by go_simp, by go_simp, by go_simp, by go_simp, ⟨.int .i64 0, by go_simp⟩, by go_simp, by go_simp, by simp, ?_⟩
    exact ((((Below.refl _ _).alloc (Nat.le_refl _) _).alloc (by simp) _).alloc (by simp; omega) _).alloc (by simp; omega) _)
  generalize ((((w.alloc (Obj.cells #[Value.slice a b.length c] 22)).alloc (Obj.cells #[Value.slice none 0 0] 37)).alloc (Obj.cells #[Value.int IntKind.i64 0] 25)).alloc
      (Obj.cells #[Value.func (Fn.func 34) #[] #[Value.pointer (some { block := w.heap.size, off := 0 })]] 58)) = W at hU ⊢
  by_cases h2 : b.length < 2
  · refine (number_no _ _ a 2 b.length c _ hU.out.c1 hU.out.c4 h2).mono ?_
    rintro e w' ⟨rfl, rfl⟩
    have hz : ungOk b = false := by rw [ungOk, decide_eq_false (by omega)]; rfl
    exact door_no hU.out hz rfl rfl
  · have HG0 : Hid (GS w W W.heap.size (.slice none 0 0) b []) := Lib.hid ⟨a, c, hU.out, hc, hc2, HR.out.below hU.out.bel, WOwn.nil _ _⟩
    refine (number_gs 2 HG0.out (by omega) (by omega) (by omega)).mono ?_
    rintro e w2 ⟨rfl, hg, hbut⟩
    have HG := Lib.hid hg.top
    clear hg hU HG0 hbut
    obtain ⟨N, hN⟩ : ∃ N, numOf (b.take 2) = N := ⟨_, rfl⟩
    rw [hN]
    have HN := Lib.hid hN
    have hN2 : N < 65536 := by
      have h1 := numOf_lt (b.take 2)
      have h2 : 256 ^ (b.take 2).length ≤ 256 ^ 2 := Nat.pow_le_pow_right (by omega) (by simp; omega)
      omega
    clear hN
    obtain ⟨a2, c2, hU, hca, hcb, hrd, how⟩ := HG.out
    have hll : (b.drop 2).length = b.length - 2 := List.length_drop
    rw [hll] at hU hca
    have q1 := hU.c1
    have HU := Lib.hid hU
    clear hU how hrd hll
    by_cases h100 : 100 < N
    · have h100' : (100 : Int) < (N : Int) := by omega
      have hz : ungOk b = false := by rw [ungOk, ungN, HN.out, decide_eq_false (show ¬ N ≤ 100 by omega)]; simp
      have HZ := Lib.hid hz
      clear hz
      go_wp2_with fail
      exact door_no HU.out HZ.out rfl rfl
    · have h100' : ¬ (100 : Int) < (N : Int) := by omega
      by_cases h69 : N * 69 = b.length - 2
      · have h69' : ((N : Int) * 69 != ((b.length - 2 : Nat) : Int)) = false := by rw [bne_eq_false_iff_eq]; omega
        have HL : Hid ((b.drop 2).length = N * 69) := Lib.hid (by rw [List.length_drop]; omega)
        have HH69 := Lib.hid h69
        obtain ⟨R, hR⟩ : ∃ R, b.drop 2 = R := ⟨_, rfl⟩
        rw [hR] at HL HG
        have HRR := Lib.hid hR
        have HH2 := Lib.hid h2
        clear h69 hR hc hc2 h2
        go_wp2_with fail
        clear q1 h69' hca hcb HU
        go_loopw [25] (fun i wr => ∃ (k : Nat) (v : Value), i = .int .i64 k ∧ k ≤ N ∧ GS w wr wr.heap.size v (R.drop (k * 69)) (parseN k R) ∧ (parseN k R).all mayW = true) (fun i _ => N - (intOf i).toNat)
        case atStart => exact ⟨0, _, rfl, Nat.zero_le _, by simpa [parseN] using HG.out, rfl⟩
        case round =>
          clear HG
          obtain ⟨k, v, rfl, hk, hg, hall⟩ := hrel
          have HG := Lib.hid hg
          have HALL := Lib.hid hall
          clear hg hall
          by_cases hkN : k < N
          · have hkI : (k : Int) < (N : Int) := by omega
            have c4 := HG.out.c4
            go_upto_region 10 with (fail)
            go_cut [7, 25] from 25 to 44 (fun v7 v25 wc => v25 = .int .i64 k ∧ OneW w wc wr.heap.size v7 (R.drop (k * 69)) ∧ GS w wc wr.heap.size v ((R.drop (k * 69)).drop 69) (parseN k R))
            case first =>
              have HL2 : Hid (69 ≤ (R.drop (k * 69)).length) := Lib.hid (by rw [List.length_drop, HL.out]; omega)
              obtain ⟨L, hLd⟩ : ∃ L, R.drop (k * 69) = L := ⟨_, rfl⟩
              have HLD := Lib.hid hLd
              rw [hLd] at HL2 HG
              clear hLd
              have l1 : 1 ≤ L.length := by have := HL2.out; omega
              have l2 : 4 ≤ (L.drop 1).length := by have := HL2.out; rw [List.length_drop]; omega
              have l3 : 64 ≤ ((L.drop 1).drop 4).length := by have := HL2.out; rw [List.length_drop, List.length_drop]; omega
              have l4 : (((L.drop 1).drop 4).take 64).length = 64 := by have := HL2.out; rw [List.length_take, List.length_drop, List.length_drop]; omega
              have L4 := Lib.hid l4
              clear l4
              have hbig := HG.out.big
              go_region_held3 (fun w' => w'.cell? ⟨w.heap.size + 1 + 1 + 1, 0, none⟩ = some (.func (.func 34) #[] #[.pointer (some ⟨w.heap.size, 0, none⟩)])) (first | go_keep | exact hg3.c4 | exact hg4.c4 | exact hg5.c4 | exact hg6.c4 | exact (hg6.alloc _).c4 | (refine (World.cell?_setCell_other _ _ _ _ ?_).trans ((World.cell?_setCell_other _ _ _ _ ?_).trans ((World.cell?_setCell_other _ _ _ _ ?_).trans hg6.c4)) <;> (intro e; injection e; omega)))
                (first
                  | ((with_reducible refine (number1_gs (hi := wr.heap.size) (v := v) (L := L) (ws := parseN k R) ?_ l1).mono ?_); (first | exact HG.out.drew | exact (HG.out.alloc _).drew); rintro e w3 ⟨rfl, hg3, hbut3⟩; have hbig3 := hg3.big; (try have z3 : Blk w3 wr.heap.size := Blk.but (Blk.drew (Blk.new _)) hbut3 (by omega)))
                  | ((with_reducible refine (number4_gs (hi := wr.heap.size) (v := v) (L := L.drop 1) (ws := parseN k R) ?_ l2).mono ?_); (first | exact hg3 | exact hg3.alloc _); rintro e w4 ⟨rfl, hg4, hbut4⟩; have hbig4 := hg4.big; (try have z4 : Blk w4 wr.heap.size := Blk.but z3 hbut4 (by omega)); (try have y4 : Blk w4 w3.heap.size := Blk.but (Blk.new _) hbut4 (by omega)))
                  | ((with_reducible refine (take64_gs (hi := wr.heap.size) (v := v) (L := (L.drop 1).drop 4) (ws := parseN k R) ?_ l3).mono ?_); (first | exact hg4 | exact hg4.alloc _); rintro e w5 ⟨a5, c5, rfl, hc5, hc5', hrd5, hg5, hbut5⟩; have hbig5 := hg5.big; (try have z5 : Blk w5 wr.heap.size := Blk.but z4 hbut5 (by omega)); (try have y5 : Blk w5 w3.heap.size := Blk.but y4 hbut5 (by omega)); (try have x5 : Blk w5 w4.heap.size := Blk.but (Blk.new _) hbut5 (by omega)))
                  | ((with_reducible refine (clone_any a5 64 c5 _ _ L4.out (by omega) (Bd := w.heap.size) ?_ ?_).mono ?_); (first | exact hrd5 | exact hrd5.alloc (by omega) _); (first | omega | (simp; omega)); rintro e w6 ⟨a6, n6, c6, rfl, hown6, hb6⟩; (first | have hg6 := hg5.below hb6 | have hg6 := (hg5.alloc _).below hb6);
                      (try have z6 : Blk w6 wr.heap.size := z5.below hb6); (try have z6 : Blk w6 w3.heap.size := y5.below hb6); (try have z6 : Blk w6 w4.heap.size := x5.below hb6); (try have z6 : Blk w6 w5.heap.size := (Blk.new _).below hb6); (try have z7 := z6); (try obtain ⟨u0, u1, u2, u3, u4, u5, u6⟩ := z6)))
              all_goals have s3 := hbut3.2.2
              all_goals have s4 := hbut4.2.2
              all_goals have s5 := hbut5.2.2
              all_goals simp at s3 s4 s5
              all_goals go_wp2_with fail
              all_goals go_meet
              all_goals rw [HLD.out]
              all_goals first
                | exact ⟨rfl, one_new hg6 hown6 L4.out (by omega)⟩
                | exact ⟨rfl, one_set hg6 hown6 L4.out (by first | omega | (simp; done) | (simp; omega)) z7 (by omega) (by omega) (by first | omega | (simp; done) | (simp; omega))⟩
            case rest =>
              obtain ⟨rfl, ⟨g, bd, od, cd, rfl, hg1, hg2, e0, e1, e2, hcd1, hcd2, hrd, hbd⟩, hgs⟩ := hcut
              clear c4
              have HGS := Lib.hid hgs
              have HRD := Lib.hid hrd
              clear hgs hrd
              obtain ⟨L, hLd⟩ : ∃ L, R.drop (k * 69) = L := ⟨_, rfl⟩
              rw [hLd] at HGS HRD HG e0 e1
              have HLD := Lib.hid hLd
              clear hLd
              have HLL : Hid (L.length = (N - k) * 69) := Lib.hid (by rw [← HLD.out, List.length_drop, HL.out, ← Nat.sub_mul])
              have HDL : Hid (((L.drop 5).take 64).length = 64) := Lib.hid (by
                have h1 := HLL.out
                have h2 : 69 ≤ (N - k) * 69 := by omega
                rw [List.length_take, List.length_drop]; omega)
              have hd1 : numOf (L.take 1) < 256 := by
                have h1 := numOf_lt (L.take 1)
                have h2 : 256 ^ (L.take 1).length ≤ 256 ^ 1 := Nat.pow_le_pow_right (by omega) (by simp; omega)
                omega
              have hs1 : numOf ((L.drop 1).take 4) < 4294967296 := by
                have h1 := numOf_lt ((L.drop 1).take 4)
                have h2 : 256 ^ ((L.drop 1).take 4).length ≤ 256 ^ 4 := Nat.pow_le_pow_right (by omega) (by simp; omega)
                omega
              have CM := Lib.hid (fun W => may_any (numOf (L.take 1)) (numOf ((L.drop 1).take 4)) (some ⟨bd, od, none⟩) 64 cd W (by omega) (by omega) ((L.drop 5).take 64) HDL.out)
              have HX : Hid (parse1 L = (((numOf (L.take 1) : Nat) : Int), ((numOf ((L.drop 1).take 4) : Nat) : Int), (L.drop 5).take 64)) := Lib.hid rfl
              generalize numOf (L.take 1) = d at e0 hd1 CM HX
              generalize numOf ((L.drop 1).take 4) = s at e1 hs1 CM HX
              generalize (L.drop 5).take 64 = dt at HRD HDL CM HX
              have hgl := HGS.out.big
              have hbig := HG.out.big
              go_wp2_with fail
              refine (CM.out _).mono ?_
              rintro e w3 ⟨rfl, hb3⟩
              have HG3 := Lib.hid (HGS.out.below hb3)
              replace e0 := (hb3.cell (by exact hg2)).trans e0
              replace e1 := (hb3.cell (by exact hg2)).trans e1
              replace e2 := (hb3.cell (by exact hg2)).trans e2
              have HRD3 := Lib.hid (HRD.out.below hb3)
              have hz3 := hb3.size
              rw [← HX.out]
              obtain ⟨a3, c3, hu3, hca3, hcb3, hrd3, how0, how1, xs, hx, hcl⟩ := HG3.out
              have HPL := Lib.hid (parseN_length k R)
              obtain ⟨av, cv, rfl, hle⟩ := hx.shape
              have t1 := hu3.c1
              have t2 := hu3.c2
              have HU3 := Lib.hid hu3
              have HRA := Lib.hid hrd3
              have HHV := Lib.hid how1
              have HX3 := Lib.hid hx
              have HCL := Lib.hid hcl
              clear hu3 hrd3 how1 hx hcl hb3
              cases hmay : mayW (parse1 L) with
              | false =>
                have hz : ungOk b = false := by
                  have hps : parse1 L ∈ parseN N R := by
                    have h1 : parseN N R = parseN (k + 1) R ++ parseN (N - (k + 1)) (R.drop ((k + 1) * 69)) := parseN_add (k + 1) (N - (k + 1)) N (by omega) R
                    rw [h1, parseN_succ, HLD.out]
                    simp
                  have h2 : (parseN N R).all mayW = false := by
                    rw [List.all_eq_false]
                    exact ⟨_, hps, by rw [hmay]; simp⟩
                  rw [ungOk, ungN, HN.out, HRR.out, h2]; simp
                have HZ := Lib.hid hz
                clear hmay hz
                go_wp2_with fail
                exact door_no HU3.out HZ.out rfl rfl
              | true =>
                have HM := Lib.hid hmay
                clear hmay
                rw [HPL.out] at t2
                have HX3o := HX3
                rw [HPL.out] at HX3
                go_wp2_with (at_builtin; refine wpList_append_g rfl _ _ 37 rfl (w.heap.size + 4) 47 (.agg #[.int .i64 0, .int .i64 0, .slice none 0 0]) 3 40 Try.underlying37 info_w rfl (by omega) _ k xs rfl (HX3.out.alloc _) (w3.heap.size + 1) (some ⟨w3.heap.size, 0, none⟩) 1 1 [.int .i64 d, .int .i64 s, .slice (some ⟨bd, od, none⟩) 64 cd] rfl rfl (Rd.new w3 _ _) ?c1 (by omega) (by omega) ?c2 ?_)
                case c1 => intro u hu; simp at hu; rcases hu with rfl | rfl | rfl <;> rfl
                case c2 => simp; omega
                intro v4 w4 hown4 hgr4 hat4
                obtain ⟨a4, c4, rfl, hle4⟩ := hown4.shape
                have hx0 := HX.out
                have hown5 : OwnG w4 (w.heap.size + 4) 47 3 (Value.slice a4 (k + 1) c4) ((parseN k R).length + 1) (xs ++ [.int .i64 d, .int .i64 s, .slice (some ⟨bd, od, none⟩) dt.length cd]) := by rw [HPL.out, HDL.out]; exact hown4
                have hgr5 : (w3.alloc (Obj.cells #[Value.int IntKind.i64 ↑d, Value.int IntKind.i64 ↑s, Value.slice (some ⟨bd, od, none⟩) 64 cd] 47)).grownBy w4 (Value.slice av (parseN k R).length cv).ownBlock := by rw [HPL.out]; exact hgr4
                have hat5 : (Value.slice a4 (k + 1) c4).ownBlock = (Value.slice av (parseN k R).length cv).ownBlock ∨ (Value.slice a4 (k + 1) c4).ownBlock = some (w3.alloc (Obj.cells #[Value.int IntKind.i64 ↑d, Value.int IntKind.i64 ↑s, Value.slice (some ⟨bd, od, none⟩) 64 cd] 47)).heap.size := by rw [HPL.out]; simpa using hat4
                have hrdX := HRD3.out
                have hbdl : bd < wc.heap.size := by
                  obtain ⟨b', o', he, hlt, _⟩ := hrdX.at 0 _ (bs_get dt 0 (by rw [HDL.out]; omega))
                  simp at he; omega
                have GA := GS.append HU3.out hca3 hcb3 HRA.out how0 HHV.out HX3o.out HCL.out hown5 hgr5 hat5 (by rw [HDL.out]; exact hcd1) hcd2 (hrdX.more hz3) (by omega) (by omega) (by omega) (by have h9 := of_decide_eq_true HM.out; rw [HX.out] at h9; exact ⟨h9.1, by omega, h9.2.2.1, by omega, h9.2.2.2.2⟩)
                obtain ⟨ga, g2, gf⟩ := GA
                have HGA := Lib.hid ga
                clear ga hown4 hown5 hgr4 hgr5 hat4 hat5 hrdX HX3o HX3 HCL hx0
                go_wp2_with fail
                go_roundw
                case rel =>
                  refine ⟨k + 1, .slice a4 (k + 1) c4, by go_num, by omega, ?_, by rw [parseN_succ, HLD.out, List.all_append, HALL.out]; simp [HM.out]⟩
                  rw [parseN_succ, HLD.out, HX.out, Nat.succ_mul, ← List.drop_drop, HLD.out]
                  simpa using HGA.out
                case measure => simp [intOf]; omega
          · have hkN' : k = N := by omega
            subst hkN'
            obtain ⟨a3, c3, hu3, hca3, hcb3, hrd3, how⟩ := HG.out
            have hwin := how
            obtain ⟨how0, how1, xs, hx, hcl⟩ := how
            obtain ⟨av, cv, rfl, hle⟩ := hx.shape
            have t2 := hu3.c2
            have t3 := hu3.c3
            have f2 := hu3.f2
            have f3 := hu3.f3
            have HU3 := Lib.hid hu3
            have HW := Lib.hid hwin
            have hok : ungOk b = true := by
              rw [ungOk, ungN, HN.out, HRR.out, HALL.out, decide_eq_true (show k ≤ 100 by omega), decide_eq_true HH69.out]
              have := HH2.out
              rw [decide_eq_true (show 2 ≤ b.length by omega)]; rfl
            have HOK := Lib.hid hok
            clear hok
            have HHV := Lib.hid how1
            have HX3 := Lib.hid hx
            have HCL := Lib.hid hcl
            have hbig := HG.out.big
            clear hu3 hrd3 how1 hx hcl hwin
            obtain ⟨u3, t3⟩ := t3
            go_wp2_with fail
            exact door_yes HU3.out HW.out HOK.out (by rw [ungW, HOK.out, ungN, HN.out, HRR.out]; rfl) rfl rfl
      · have h69' : ((N : Int) * 69 != ((b.length - 2 : Nat) : Int)) = true := by rw [bne_iff_ne]; omega
        have hz : ungOk b = false := by rw [ungOk, ungN, HN.out, decide_eq_false h69]; simp
        have HZ := Lib.hid hz
        clear hz h69
        go_wp2_with fail
        exact door_no HU.out HZ.out rfl rfl
end Go.Proofs.Ytjmmabilpdiohaa
