/- the document's handshake: the export's name -/
import Derived.Test.YtnpcpbjoonjaoaaSr4
namespace Go.Proofs.Ytnpcpbjoonjaoaa
set_option linter.unusedVariables false
set_option linter.unusedSimpArgs false
open Go.RowKit

set_option maxRecDepth 20000 in
set_option maxHeartbeats 4000000 in
theorem ropt_name (g : Nat) (s : Sk)  (a : Option Addr) (n c : Nat) (data : List UInt8) (w : World) (hb : RkAt w g s) (hsec : s.sectors ≤ 8192) (hnm : s.name.length ≤ 1000) (hdl : data.length = n) (hc : n ≤ c) (hc2 : n ≤ 140737488351232 ∧ c ≤ 9223372036854775807) (hr : Rd w w.heap.size a (bs data)) :
    Calls Try.prog 50 #[.pointer (some ⟨g, 0, none⟩), .agg #[.int .i64 1, .slice a n c]] w (RkPost g (expName s data) w) := by
  generalize hRR : expName s data = RR
  have HRR := Lib.hid hRR
  clear hRR
  have HS := Lib.hid hsec
  have HNM := Lib.hid hnm
  have HK := Lib.hid hb
  have hb1 : Below w.heap.size w (w.alloc (Obj.cells #[Value.int .i64 1, Value.slice a n c] 36)) := (Below.refl _ _).alloc (Nat.le_refl _) _
  have HBO : Hid (Blk (w.alloc (Obj.cells #[Value.int .i64 1, Value.slice a n c] 36)) w.heap.size 36 [Value.int .i64 1, Value.slice a n c]) := Lib.hid (Blk.new _ _ _)
  have HB1 := Lib.hid hb1
  have HGL : Hid (g < w.heap.size) := Lib.hid (Blk.lt HK.out)
  have HR0 := Lib.hid hr
  have HDL := Lib.hid hdl
  have hz1 : w.heap.size ≤ (w.alloc (Obj.cells #[Value.int .i64 1, Value.slice a n c] 36)).heap.size := hb1.size
  have HZ1 := Lib.hid hz1
  clear hb hb1 hr hz1 hsec hnm 
  go_enter Try.func50, Try.ntmps50
  go_upto_region 1 with (fail)
  generalize hw1 : w.alloc (Obj.cells #[Value.int .i64 1, Value.slice a n c] 36) = w1 at HBO HB1 HZ1
  obtain ⟨q, hq⟩ : ∃ q, w.heap.size = q := ⟨_, rfl⟩
  have HQ := Lib.hid hq
  rw [hq] at HBO HB1 HGL HZ1 HR0
  have HK1 : Hid (RkAt w1 g s) := Lib.hid (Blk.keep HK.out (HB1.out.block g HGL.out))
  rw [hq]
  have t0 : w1.cell? ⟨q, 0, none⟩ = some (.int .i64 1) := HBO.out.cell 0 _ rfl
  have t1 : w1.cell? ⟨q, 1, none⟩ = some (.slice a n c) := HBO.out.cell 1 _ rfl
  have k0 : w1.cell? ⟨g, 0, none⟩ = some (.string ⟨s.name.toArray⟩) := HK1.out.cell 0 _ rfl
  have k3 : w1.cell? ⟨g, 3, none⟩ = some (.int .i64 (s.phase : Int)) := HK1.out.cell 3 _ rfl
  have k4 : w1.cell? ⟨g, 4, none⟩ = some (.bool s.st) := HK1.out.cell 4 _ rfl
  have f3 := Blk.frozen HK1.out 3
  have f4 := Blk.frozen HK1.out 4
  have FIN : Hid (∀ (wx : World) (r : Sk) (o : List UInt8) (ax : Option Addr) (cx : Nat), OwnB wx q (.slice ax o.length cx) o → RkAt wx g r → w.grownBy wx (some g) → RkPost g (r, o) w (.returned (.slice ax o.length cx)) wx) := Lib.hid (fun wx r o ax cx h1 h2 h3 => ⟨ax, _, cx, rfl, by rw [HQ.out]; exact h1, h2, h3⟩)
  have HG1 : Hid (w.grownBy w1 (some g)) := Lib.hid (grownQ HB1.out HQ.out g)
  have HQD : Hid (q < w1.heap.size) := Lib.hid (Blk.lt HBO.out)
  have HK3 : Hid (∀ p : Nat, RkAt (w1.setCell ⟨g, 3, none⟩ (.int .i64 (p : Int))) g { s with phase := p }) := Lib.hid (fun p => Blk.set HK1.out 3 (.int .i64 (p : Int)))
  have HK4 : Hid (∀ p : Bool, RkAt (w1.setCell ⟨g, 4, none⟩ (.bool p)) g { s with st := p }) := Lib.hid (fun p => Blk.set HK1.out 4 (.bool p))
  have HGS : Hid (∀ (wn : World), w1.grownBy wn (some g) → wn.cell? ⟨q, 0, none⟩ = some (.int .i64 1) ∧ w.grownBy wn (some g) ∧ q ≤ wn.heap.size) := Lib.hid (fun wn hg => ⟨(World.cell?_of_block (a := ⟨q, 0, none⟩) (hg.block q HQD.out (fun e => by injection e with e; have := HGL.out; omega))).trans t0, grown_trans HG1.out hg, Nat.le_trans HZ1.out hg.size⟩)
  clear hw1 hq HK
  obtain ⟨nm, hnm⟩ : ∃ nm, s.name = nm := ⟨_, rfl⟩
  rw [hnm] at k0
  have HNE := Lib.hid hnm
  obtain ⟨bad, hbad⟩ : ∃ bad, decide (data ≠ [] ∧ data ≠ nm) = bad := ⟨_, rfl⟩
  have HBAD := Lib.hid hbad
  have hcv : ∀ wx, Below w1.heap.size w1 wx → (convert 23 9 (.slice a n c)).run Try.prog wx = .ok (.string ⟨data.toArray⟩) wx := fun wx hx => conv_rd (((HR0.out.below HB1.out).more HZ1.out).below hx) n c HDL.out
  have hr0 : Below w1.heap.size w1 w1 := Below.refl _ _
  have hr1 : Below w1.heap.size w1 w1.drew := (Below.refl _ _).drew
  have hd0 : data = [] ↔ n = 0 := by
    rw [← hdl]
    cases data <;> simp
  have HD0 := Lib.hid hd0
  clear hnm hbad hd0
  go_upto_region 3 with (fail)
  go_cut [25] (fun v wn => v = .bool bad ∧ Below w1.heap.size w1 wn)
  case first =>
    by_cases hn0 : n = 0
    · have hnI : ¬ ((0 : Int) < (n : Int)) := by omega
      have hb : bad = false := by rw [← HBAD.out]; exact decide_eq_false (fun h => h.1 (HD0.out.2 hn0))
      have hnN : ¬ 0 < n := by omega
      clear hcv hn0
      go_quiet (fail)
      all_goals go_wp2_with fail
      all_goals go_meet
      all_goals exact ⟨by rw [hb], below_drewN hr0 _⟩
    · have hnI : (0 : Int) < (n : Int) := by omega
      have hb : bad = !(data == nm) := by
        rw [← HBAD.out]
        by_cases h : data = nm
        · rw [decide_eq_false (fun e => e.2 h), h]; simp
        · rw [decide_eq_true ⟨fun e => hn0 (HD0.out.1 e), h⟩, beq_eq_false_iff_ne.2 h]; rfl
      have HB := Lib.hid hb
      have hnN : 0 < n := by omega
      clear hb hn0
      go_region_held3 (fun w' => w'.cell? ⟨q, 1, none⟩ = some (.slice a n c) ∧ w'.cell? ⟨g, 0, none⟩ = some (.string ⟨nm.toArray⟩) ∧ Below w1.heap.size w1 w')
        (first | assumption | go_keep)
        (fail)
      all_goals go_wp2_with fail
      all_goals go_meet
      all_goals exact ⟨by rw [HB.out], by assumption⟩
  case rest =>
    obtain ⟨rfl, hb2⟩ := hcut
    rename World => w2
    have HK2 : Hid (RkAt w2 g s) := Lib.hid (Blk.below HK1.out hb2)
    have HG2 := Lib.hid (grown_below HG1.out hb2)
    have HZ2 : Hid (q ≤ w2.heap.size) := Lib.hid (Nat.le_trans HZ1.out hb2.size)
    have k3 : w2.cell? ⟨g, 3, none⟩ = some (.int .i64 (s.phase : Int)) := HK2.out.cell 3 _ rfl
    have f3 := Blk.frozen HK2.out 3
    clear hb2 k0 k4 t0 t1 f4 hr0 hr1 hcv
    cases bad with
    | true =>
      have hrr := HRR.out
      have hbad := of_decide_eq_true HBAD.out
      rw [expName, HNE.out, if_pos hbad, ← HNE.out] at hrr
      subst hrr
      have hgs : w2.grownBy (w2.setCell ⟨g, 3, none⟩ (.int .i64 3)) (some g) := grownBy_setI _
      have HFI := Lib.hid (FIN.out _ { s with phase := 3 } [] none 0 (OwnG.nil _ _ _ _) (Blk.set HK2.out 3 (.int .i64 3)) (grown_trans HG2.out hgs))
      clear hgs hbad
      go_wp2_with fail
      go_ret
      exact HFI.out
    | false =>
      have hrr := HRR.out
      have hbad := of_decide_eq_false HBAD.out
      rw [expName, HNE.out, if_neg hbad, ← HNE.out] at hrr
      have HRR2 := Lib.hid hrr
      clear hrr HRR
      have hgs : w2.grownBy (w2.setCell ⟨g, 3, none⟩ (.int .i64 2)) (some g) := grownBy_setI _
      have hk3 : RkAt (w2.setCell ⟨g, 3, none⟩ (.int .i64 2)) g { s with phase := 2 } := Blk.set HK2.out 3 (.int .i64 2)
      have HK3 := Lib.hid hk3
      have HG3 := Lib.hid (grown_trans HG2.out hgs)
      have HZ3 := Lib.hid (Nat.le_trans HZ2.out hgs.size)
      have hcs : Calls Try.prog 56 #[.pointer (some ⟨g, 0, none⟩)] (w2.setCell ⟨g, 3, none⟩ (.int .i64 2)) (MsgPost (expL s) (w2.setCell ⟨g, 3, none⟩ (.int .i64 2))) := rsize_any g { s with phase := 2 } _ hk3 HS.out
      have HCS := Lib.hid hcs
      clear hgs hbad hk3 hcs
      go_wp2_with fail
      refine HCS.out.mono ?_
      rintro e w3 ⟨a3, n3, c3, rfl, hown3, hb3⟩
      have hn3 := OwnB.len hown3
      rw [expL_length] at hn3
      subst hn3
      have HO3 := Lib.hid (OwnG.base_mono hown3 HZ3.out : OwnB w3 q (.slice a3 10 c3) (expL s))
      have hk4 : RkAt w3 g { s with phase := 2 } := Blk.below HK3.out hb3
      have HK4' := Lib.hid hk4
      have HG4 := Lib.hid (grown_below HG3.out hb3)
      have HZ4 := Lib.hid (Nat.le_trans HZ3.out hb3.size)
      have k5 : w3.cell? ⟨g, 5, none⟩ = some (.bool s.bare) := hk4.cell 5 _ rfl
      have HXL := Lib.hid (expL_length s)
      clear hown3 hk4 hb3 k3 f3 HCS
      obtain ⟨br, hbr⟩ : ∃ br, s.bare = br := ⟨_, rfl⟩
      rw [hbr] at k5
      have HBR := Lib.hid hbr
      clear hbr
      cases br with
      | true =>
        have hrr := HRR2.out
        rw [if_pos HBR.out] at hrr
        subst hrr
        clear HRR2
        have hfi := FIN.out _ { s with phase := 2 } (expL s) a3 c3 (by rw [HXL.out]; exact HO3.out) HK4'.out HG4.out
        rw [HXL.out] at hfi
        have HFI := Lib.hid hfi
        clear hfi
        go_wp2_with fail
        go_ret
        exact HFI.out
      | false =>
        have hrr := HRR2.out
        rw [if_neg (by rw [HBR.out]; simp)] at hrr
        subst hrr
        clear HRR2
        have S4 : Hid ((expL s).length + 124 ≤ 140737488355328) := Lib.hid (by rw [HXL.out]; omega)
        go_wp2_with (at_builtin; refine wpList_appz rfl _ _ rfl q _ _ rfl HO3.out 124 _ rfl rfl S4.out HZ4.out ?_)
        intro v7 w7 hown7 hgr7 hat7
        obtain ⟨a7, c7, rfl, _⟩ := OwnG.shape hown7
        have hk7 : RkAt w7 g { s with phase := 2 } := Blk.keep HK4'.out (hgr7.block g (Blk.lt HK4'.out) (fun e => by have := (OwnG.lt HO3.out g e.symm).1; have := HGL.out; omega))
        have hg7 : w.grownBy w7 (some g) := ⟨hgr7.os.trans HG4.out.os, hgr7.tape.trans HG4.out.tape, hgr7.output.trans HG4.out.output, Nat.le_trans HG4.out.size hgr7.size, fun k hk hne => (hgr7.block k (by have := HG4.out.size; omega) (fun e => by have := (OwnG.lt HO3.out k e.symm).1; have := HQ.out; omega)).trans (HG4.out.block k hk hne)⟩
        have HFI := Lib.hid (FIN.out _ _ _ _ _ hown7 hk7 hg7)
        clear hown7 hgr7 hat7 hk7 hg7
        go_wp2_with fail
        go_ret
        exact HFI.out
end Go.Proofs.Ytnpcpbjoonjaoaa
