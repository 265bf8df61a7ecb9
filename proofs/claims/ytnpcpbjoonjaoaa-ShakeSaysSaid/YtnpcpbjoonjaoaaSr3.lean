/- the document's handshake: option -/
import Derived.Test.YtnpcpbjoonjaoaaSr2
namespace Go.Proofs.Ytnpcpbjoonjaoaa
set_option linter.unusedVariables false
set_option linter.unusedSimpArgs false
open Go.RowKit

set_option maxRecDepth 20000 in
set_option maxHeartbeats 4000000 in
theorem ropt_abort (g : Nat) (s : Sk)  (a : Option Addr) (n c : Nat) (data : List UInt8) (w : World) (hb : RkAt w g s) (hsec : s.sectors ≤ 8192) (hnm : s.name.length ≤ 1000) (hdl : data.length = n) (hc : n ≤ c) (hc2 : n ≤ 140737488351232 ∧ c ≤ 9223372036854775807) (hr : Rd w w.heap.size a (bs data)) :
    Calls Try.prog 50 #[.pointer (some ⟨g, 0, none⟩), .agg #[.int .i64 2, .slice a n c]] w (RkPost g ({ s with phase := 3 }, optionReplyL 2 1 []) w) := by
  have HS := Lib.hid hsec
  have HNM := Lib.hid hnm
  have HK := Lib.hid hb
  have hb1 : Below w.heap.size w (w.alloc (Obj.cells #[Value.int .i64 2, Value.slice a n c] 36)) := (Below.refl _ _).alloc (Nat.le_refl _) _
  have HBO : Hid (Blk (w.alloc (Obj.cells #[Value.int .i64 2, Value.slice a n c] 36)) w.heap.size 36 [Value.int .i64 2, Value.slice a n c]) := Lib.hid (Blk.new _ _ _)
  have HB1 := Lib.hid hb1
  have HGL : Hid (g < w.heap.size) := Lib.hid (Blk.lt HK.out)
  have HR0 := Lib.hid hr
  have HDL := Lib.hid hdl
  have hz1 : w.heap.size ≤ (w.alloc (Obj.cells #[Value.int .i64 2, Value.slice a n c] 36)).heap.size := hb1.size
  have HZ1 := Lib.hid hz1
  clear hb hb1 hr hz1 hsec hnm 
  go_enter Try.func50, Try.ntmps50
  go_upto_region 1 with (fail)
  generalize hw1 : w.alloc (Obj.cells #[Value.int .i64 2, Value.slice a n c] 36) = w1 at HBO HB1 HZ1
  obtain ⟨q, hq⟩ : ∃ q, w.heap.size = q := ⟨_, rfl⟩
  have HQ := Lib.hid hq
  rw [hq] at HBO HB1 HGL HZ1 HR0
  have HK1 : Hid (RkAt w1 g s) := Lib.hid (Blk.keep HK.out (HB1.out.block g HGL.out))
  rw [hq]
  have t0 : w1.cell? ⟨q, 0, none⟩ = some (.int .i64 2) := HBO.out.cell 0 _ rfl
  have t1 : w1.cell? ⟨q, 1, none⟩ = some (.slice a n c) := HBO.out.cell 1 _ rfl
  have k0 : w1.cell? ⟨g, 0, none⟩ = some (.string ⟨s.name.toArray⟩) := HK1.out.cell 0 _ rfl
  have k3 : w1.cell? ⟨g, 3, none⟩ = some (.int .i64 (s.phase : Int)) := HK1.out.cell 3 _ rfl
  have k4 : w1.cell? ⟨g, 4, none⟩ = some (.bool s.st) := HK1.out.cell 4 _ rfl
  have f3 := Blk.frozen HK1.out 3
  have f4 := Blk.frozen HK1.out 4
  have FIN : Hid (∀ (wx : World) (r : Sk) (o : List UInt8) (ax : Option Addr) (cx : Nat), OwnB wx q (.slice ax o.length cx) o → RkAt wx g r → w.grownBy wx (some g) → RkPost g (r, o) w (.returned (.slice ax o.length cx)) wx) := Lib.hid (fun wx r o ax cx h1 h2 h3 => ⟨ax, _, cx, rfl, by rw [HQ.out]; exact h1, h2, h3⟩)
  have HG1 : Hid (w.grownBy w1 (some g)) := Lib.hid (grownQ HB1.out HQ.out g)
  have HQD : Hid (q < w1.heap.size) := Lib.hid (Blk.lt HBO.out)
  have HK3 : Hid (∀ p : Nat, RkAt (w1.setCell ⟨g, 3, none⟩ (.int .i64 (p : Int))) g { s with phase := p }) := Lib.hid (fun p => Blk.set HK1.out 3 (.int .i64 (p : Int)))
  have HK4 : Hid (∀ p : Bool, RkAt (w1.setCell ⟨g, 4, none⟩ (.bool p)) g { s with st := p }) := Lib.hid (fun p => Blk.set HK1.out 4 (.bool p))
  have HGS : Hid (∀ (wn : World), w1.grownBy wn (some g) → wn.cell? ⟨q, 0, none⟩ = some (.int .i64 2) ∧ w.grownBy wn (some g) ∧ q ≤ wn.heap.size) := Lib.hid (fun wn hg => ⟨(World.cell?_of_block (a := ⟨q, 0, none⟩) (hg.block q HQD.out (fun e => by injection e with e; have := HGL.out; omega))).trans t0, grown_trans HG1.out hg, Nat.le_trans HZ1.out hg.size⟩)
  clear hw1 hq HK
  have hgs : w1.grownBy (w1.setCell ⟨g, 3, none⟩ (.int .i64 3)) (some g) := grownBy_setI _
  obtain ⟨t2, hg2, hz2⟩ := HGS.out _ hgs
  have HGW := Lib.hid hg2
  have HZW := Lib.hid hz2
  have HKW : Hid (RkAt (w1.setCell ⟨g, 3, none⟩ (.int .i64 3)) g { s with phase := 3 }) := Lib.hid (HK3.out 3)
  have HC := Lib.hid (roptionReply_any 2 1 none 0 0 [] (w1.setCell ⟨g, 3, none⟩ (.int .i64 3)) rfl (by omega) .nil)
  clear hgs hg2 hz2
  go_wp2_with fail
  refine HC.out.mono ?_
  rintro e wx ⟨ax, nx, cx, rfl, hownx, hbx⟩
  have hnx := OwnB.len hownx
  subst hnx
  have HFI := Lib.hid (FIN.out _ _ _ _ _ (OwnG.base_mono hownx HZW.out) (Blk.below HKW.out hbx) (grown_below HGW.out hbx))
  clear hownx hbx
  go_wp2_with fail
  go_ret
  exact HFI.out

set_option maxRecDepth 20000 in
set_option maxHeartbeats 4000000 in
theorem ropt_str (g : Nat) (s : Sk)  (a : Option Addr) (n c : Nat) (data : List UInt8) (w : World) (hb : RkAt w g s) (hsec : s.sectors ≤ 8192) (hnm : s.name.length ≤ 1000) (hdl : data.length = n) (hc : n ≤ c) (hc2 : n ≤ 140737488351232 ∧ c ≤ 9223372036854775807) (hr : Rd w w.heap.size a (bs data)) :
    Calls Try.prog 50 #[.pointer (some ⟨g, 0, none⟩), .agg #[.int .i64 8, .slice a n c]] w (RkPost g (if data ≠ [] then (s, optionReplyL 8 2147483651 []) else ({ s with st := true }, optionReplyL 8 1 [])) w) := by
  have hd : data ≠ [] ↔ ¬ n = 0 := by
    rw [← hdl]
    cases data <;> simp
  rw [show (if data ≠ [] then (s, optionReplyL 8 2147483651 []) else ({ s with st := true }, optionReplyL 8 1 [])) = (if ¬ n = 0 then (s, optionReplyL 8 2147483651 []) else ({ s with st := true }, optionReplyL 8 1 [])) by simp only [hd]]
  generalize hRR : (if ¬ n = 0 then (s, optionReplyL 8 2147483651 []) else ({ s with st := true }, optionReplyL 8 1 [])) = RR
  have HRR := Lib.hid hRR
  clear hRR hd
  have HS := Lib.hid hsec
  have HNM := Lib.hid hnm
  have HK := Lib.hid hb
  have hb1 : Below w.heap.size w (w.alloc (Obj.cells #[Value.int .i64 8, Value.slice a n c] 36)) := (Below.refl _ _).alloc (Nat.le_refl _) _
  have HBO : Hid (Blk (w.alloc (Obj.cells #[Value.int .i64 8, Value.slice a n c] 36)) w.heap.size 36 [Value.int .i64 8, Value.slice a n c]) := Lib.hid (Blk.new _ _ _)
  have HB1 := Lib.hid hb1
  have HGL : Hid (g < w.heap.size) := Lib.hid (Blk.lt HK.out)
  have HR0 := Lib.hid hr
  have HDL := Lib.hid hdl
  have hz1 : w.heap.size ≤ (w.alloc (Obj.cells #[Value.int .i64 8, Value.slice a n c] 36)).heap.size := hb1.size
  have HZ1 := Lib.hid hz1
  clear hb hb1 hr hz1 hsec hnm 
  go_enter Try.func50, Try.ntmps50
  go_upto_region 1 with (fail)
  generalize hw1 : w.alloc (Obj.cells #[Value.int .i64 8, Value.slice a n c] 36) = w1 at HBO HB1 HZ1
  obtain ⟨q, hq⟩ : ∃ q, w.heap.size = q := ⟨_, rfl⟩
  have HQ := Lib.hid hq
  rw [hq] at HBO HB1 HGL HZ1 HR0
  have HK1 : Hid (RkAt w1 g s) := Lib.hid (Blk.keep HK.out (HB1.out.block g HGL.out))
  rw [hq]
  have t0 : w1.cell? ⟨q, 0, none⟩ = some (.int .i64 8) := HBO.out.cell 0 _ rfl
  have t1 : w1.cell? ⟨q, 1, none⟩ = some (.slice a n c) := HBO.out.cell 1 _ rfl
  have k0 : w1.cell? ⟨g, 0, none⟩ = some (.string ⟨s.name.toArray⟩) := HK1.out.cell 0 _ rfl
  have k3 : w1.cell? ⟨g, 3, none⟩ = some (.int .i64 (s.phase : Int)) := HK1.out.cell 3 _ rfl
  have k4 : w1.cell? ⟨g, 4, none⟩ = some (.bool s.st) := HK1.out.cell 4 _ rfl
  have f3 := Blk.frozen HK1.out 3
  have f4 := Blk.frozen HK1.out 4
  have FIN : Hid (∀ (wx : World) (r : Sk) (o : List UInt8) (ax : Option Addr) (cx : Nat), OwnB wx q (.slice ax o.length cx) o → RkAt wx g r → w.grownBy wx (some g) → RkPost g (r, o) w (.returned (.slice ax o.length cx)) wx) := Lib.hid (fun wx r o ax cx h1 h2 h3 => ⟨ax, _, cx, rfl, by rw [HQ.out]; exact h1, h2, h3⟩)
  have HG1 : Hid (w.grownBy w1 (some g)) := Lib.hid (grownQ HB1.out HQ.out g)
  have HQD : Hid (q < w1.heap.size) := Lib.hid (Blk.lt HBO.out)
  have HK3 : Hid (∀ p : Nat, RkAt (w1.setCell ⟨g, 3, none⟩ (.int .i64 (p : Int))) g { s with phase := p }) := Lib.hid (fun p => Blk.set HK1.out 3 (.int .i64 (p : Int)))
  have HK4 : Hid (∀ p : Bool, RkAt (w1.setCell ⟨g, 4, none⟩ (.bool p)) g { s with st := p }) := Lib.hid (fun p => Blk.set HK1.out 4 (.bool p))
  have HGS : Hid (∀ (wn : World), w1.grownBy wn (some g) → wn.cell? ⟨q, 0, none⟩ = some (.int .i64 8) ∧ w.grownBy wn (some g) ∧ q ≤ wn.heap.size) := Lib.hid (fun wn hg => ⟨(World.cell?_of_block (a := ⟨q, 0, none⟩) (hg.block q HQD.out (fun e => by injection e with e; have := HGL.out; omega))).trans t0, grown_trans HG1.out hg, Nat.le_trans HZ1.out hg.size⟩)
  clear hw1 hq HK
  by_cases hn0 : n = 0
  · have hnI : ¬ ((0 : Int) < (n : Int)) := by omega
    have hrr := HRR.out
    rw [if_neg (by simp [hn0])] at hrr
    subst hrr
    clear HRR
    have hgs : w1.grownBy (w1.setCell ⟨g, 4, none⟩ (.bool true)) (some g) := grownBy_setI _
    obtain ⟨t2, hg2, hz2⟩ := HGS.out _ hgs
    have HGW := Lib.hid hg2
    have HZW := Lib.hid hz2
    have HKW : Hid (RkAt (w1.setCell ⟨g, 4, none⟩ (.bool true)) g { s with st := true }) := Lib.hid (HK4.out true)
    have HC := Lib.hid (roptionReply_any 8 1 none 0 0 [] (w1.setCell ⟨g, 4, none⟩ (.bool true)) rfl (by omega) .nil)
    clear hgs hg2 hz2
    go_wp2_with fail
    refine HC.out.mono ?_
    rintro e wx ⟨ax, nx, cx, rfl, hownx, hbx⟩
    have hnx := OwnB.len hownx
    subst hnx
    have HFI := Lib.hid (FIN.out _ _ _ _ _ (OwnG.base_mono hownx HZW.out) (Blk.below HKW.out hbx) (grown_below HGW.out hbx))
    clear hownx hbx
    go_wp2_with fail
    go_ret
    exact HFI.out
  · have hnI : (0 : Int) < (n : Int) := by omega
    have hrr := HRR.out
    rw [if_pos hn0] at hrr
    subst hrr
    clear HRR
    have hgs : w1.grownBy w1 (some g) := World.grownBy.refl _ _
    obtain ⟨t2, hg2, hz2⟩ := HGS.out _ hgs
    have HGW := Lib.hid hg2
    have HZW := Lib.hid hz2
    have HKW : Hid (RkAt w1 g s) := Lib.hid (HK1.out)
    have HC := Lib.hid (roptionReply_any 8 2147483651 none 0 0 [] w1 rfl (by omega) .nil)
    clear hgs hg2 hz2
    go_wp2_with fail
    refine HC.out.mono ?_
    rintro e wx ⟨ax, nx, cx, rfl, hownx, hbx⟩
    have hnx := OwnB.len hownx
    subst hnx
    have HFI := Lib.hid (FIN.out _ _ _ _ _ (OwnG.base_mono hownx HZW.out) (Blk.below HKW.out hbx) (grown_below HGW.out hbx))
    clear hownx hbx
    go_wp2_with fail
    go_ret
    exact HFI.out

set_option maxRecDepth 20000 in
set_option maxHeartbeats 4000000 in
theorem ropt_other (g : Nat) (s : Sk) (ty : Nat) (h1 : ty ≠ 1) (h2 : ty ≠ 2) (h3 : ty ≠ 3) (h6 : ty ≠ 6) (h7 : ty ≠ 7) (h8 : ty ≠ 8) (a : Option Addr) (n c : Nat) (data : List UInt8) (w : World) (hb : RkAt w g s) (hsec : s.sectors ≤ 8192) (hnm : s.name.length ≤ 1000) (hdl : data.length = n) (hc : n ≤ c) (hc2 : n ≤ 140737488351232 ∧ c ≤ 9223372036854775807) (hr : Rd w w.heap.size a (bs data)) :
    Calls Try.prog 50 #[.pointer (some ⟨g, 0, none⟩), .agg #[.int .i64 (ty : Int), .slice a n c]] w (RkPost g (s, optionReplyL (ty : Int) 2147483649 []) w) := by
  have i1 : ¬ (ty : Int) = 1 := by omega
  have i2 : ¬ (ty : Int) = 2 := by omega
  have i3 : ¬ (ty : Int) = 3 := by omega
  have i6 : ¬ (ty : Int) = 6 := by omega
  have i7 : ¬ (ty : Int) = 7 := by omega
  have i8 : ¬ (ty : Int) = 8 := by omega
  clear h1 h2 h3 h6 h7 h8
  have HS := Lib.hid hsec
  have HNM := Lib.hid hnm
  have HK := Lib.hid hb
  have hb1 : Below w.heap.size w (w.alloc (Obj.cells #[Value.int .i64 (ty : Int), Value.slice a n c] 36)) := (Below.refl _ _).alloc (Nat.le_refl _) _
  have HBO : Hid (Blk (w.alloc (Obj.cells #[Value.int .i64 (ty : Int), Value.slice a n c] 36)) w.heap.size 36 [Value.int .i64 (ty : Int), Value.slice a n c]) := Lib.hid (Blk.new _ _ _)
  have HB1 := Lib.hid hb1
  have HGL : Hid (g < w.heap.size) := Lib.hid (Blk.lt HK.out)
  have HR0 := Lib.hid hr
  have HDL := Lib.hid hdl
  have hz1 : w.heap.size ≤ (w.alloc (Obj.cells #[Value.int .i64 (ty : Int), Value.slice a n c] 36)).heap.size := hb1.size
  have HZ1 := Lib.hid hz1
  clear hb hb1 hr hz1 hsec hnm 
  go_enter Try.func50, Try.ntmps50
  go_upto_region 1 with (fail)
  generalize hw1 : w.alloc (Obj.cells #[Value.int .i64 (ty : Int), Value.slice a n c] 36) = w1 at HBO HB1 HZ1
  obtain ⟨q, hq⟩ : ∃ q, w.heap.size = q := ⟨_, rfl⟩
  have HQ := Lib.hid hq
  rw [hq] at HBO HB1 HGL HZ1 HR0
  have HK1 : Hid (RkAt w1 g s) := Lib.hid (Blk.keep HK.out (HB1.out.block g HGL.out))
  rw [hq]
  have t0 : w1.cell? ⟨q, 0, none⟩ = some (.int .i64 (ty : Int)) := HBO.out.cell 0 _ rfl
  have t1 : w1.cell? ⟨q, 1, none⟩ = some (.slice a n c) := HBO.out.cell 1 _ rfl
  have k0 : w1.cell? ⟨g, 0, none⟩ = some (.string ⟨s.name.toArray⟩) := HK1.out.cell 0 _ rfl
  have k3 : w1.cell? ⟨g, 3, none⟩ = some (.int .i64 (s.phase : Int)) := HK1.out.cell 3 _ rfl
  have k4 : w1.cell? ⟨g, 4, none⟩ = some (.bool s.st) := HK1.out.cell 4 _ rfl
  have f3 := Blk.frozen HK1.out 3
  have f4 := Blk.frozen HK1.out 4
  have FIN : Hid (∀ (wx : World) (r : Sk) (o : List UInt8) (ax : Option Addr) (cx : Nat), OwnB wx q (.slice ax o.length cx) o → RkAt wx g r → w.grownBy wx (some g) → RkPost g (r, o) w (.returned (.slice ax o.length cx)) wx) := Lib.hid (fun wx r o ax cx h1 h2 h3 => ⟨ax, _, cx, rfl, by rw [HQ.out]; exact h1, h2, h3⟩)
  have HG1 : Hid (w.grownBy w1 (some g)) := Lib.hid (grownQ HB1.out HQ.out g)
  have HQD : Hid (q < w1.heap.size) := Lib.hid (Blk.lt HBO.out)
  have HK3 : Hid (∀ p : Nat, RkAt (w1.setCell ⟨g, 3, none⟩ (.int .i64 (p : Int))) g { s with phase := p }) := Lib.hid (fun p => Blk.set HK1.out 3 (.int .i64 (p : Int)))
  have HK4 : Hid (∀ p : Bool, RkAt (w1.setCell ⟨g, 4, none⟩ (.bool p)) g { s with st := p }) := Lib.hid (fun p => Blk.set HK1.out 4 (.bool p))
  have HGS : Hid (∀ (wn : World), w1.grownBy wn (some g) → wn.cell? ⟨q, 0, none⟩ = some (.int .i64 (ty : Int)) ∧ w.grownBy wn (some g) ∧ q ≤ wn.heap.size) := Lib.hid (fun wn hg => ⟨(World.cell?_of_block (a := ⟨q, 0, none⟩) (hg.block q HQD.out (fun e => by injection e with e; have := HGL.out; omega))).trans t0, grown_trans HG1.out hg, Nat.le_trans HZ1.out hg.size⟩)
  clear hw1 hq HK
  have hgs : w1.grownBy w1 (some g) := World.grownBy.refl _ _
  obtain ⟨t2, hg2, hz2⟩ := HGS.out _ hgs
  have HGW := Lib.hid hg2
  have HZW := Lib.hid hz2
  have HKW : Hid (RkAt w1 g s) := Lib.hid (HK1.out)
  have HC := Lib.hid (roptionReply_any (ty : Int) 2147483649 none 0 0 [] w1 rfl (by omega) .nil)
  clear hgs hg2 hz2
  go_wp2_with fail
  refine HC.out.mono ?_
  rintro e wx ⟨ax, nx, cx, rfl, hownx, hbx⟩
  have hnx := OwnB.len hownx
  subst hnx
  have HFI := Lib.hid (FIN.out _ _ _ _ _ (OwnG.base_mono hownx HZW.out) (Blk.below HKW.out hbx) (grown_below HGW.out hbx))
  clear hownx hbx
  go_wp2_with fail
  go_ret
  exact HFI.out

end Go.Proofs.Ytnpcpbjoonjaoaa
