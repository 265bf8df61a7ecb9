/- the document's handshake: info, list -/
import Derived.Test.YtnpcpbjoonjaoaaSr3
namespace Go.Proofs.Ytnpcpbjoonjaoaa
set_option linter.unusedVariables false
set_option linter.unusedSimpArgs false
open Go.RowKit

theorem wpList_apps {w : World} {ops : Array Oper} {rest : List Oper} {o : Oper} {a : Act} {Q : Exit → Act → World → Prop} (hgd : o.guard = none) (s x : Operand)
    (ho : o.op = .call { callee := .builtin .append, args := #[s, x], argTypes := #[23, 9] })
    (base : Nat) (v : Value) (l : List UInt8) (hs : a.eval s = v) (hown : OwnB w base v l) (hpos : 0 < l.length) (m : List UInt8) (hx : a.eval x = .string ⟨m.toArray⟩)
    (h47 : l.length + m.length ≤ 140737488355328) (hbase : base ≤ w.heap.size)
    (h : ∀ v' w', OwnB w' base v' (l ++ m) → w.grownBy w' v.ownBlock → (v'.ownBlock = v.ownBlock ∨ v'.ownBlock = some w.heap.size) → wpList Try.prog ops Q rest (a.put o.dst v') w') : wpList Try.prog ops Q (o :: rest) a w :=
  wpList_step fun K hK => step_apps hgd s x ho base v l hs hown hpos m hx h47 hbase (fun v' w' h1 h2 h3 => hK _ _ (h v' w' h1 h2 h3))

set_option maxRecDepth 20000 in
set_option maxHeartbeats 4000000 in
theorem ropt_info6 (g : Nat) (s : Sk)  (a : Option Addr) (n c : Nat) (data : List UInt8) (w : World) (hb : RkAt w g s) (hsec : s.sectors ≤ 8192) (hnm : s.name.length ≤ 1000) (hdl : data.length = n) (hc : n ≤ c) (hc2 : n ≤ 140737488351232 ∧ c ≤ 9223372036854775807) (hr : Rd w w.heap.size a (bs data)) :
    Calls Try.prog 50 #[.pointer (some ⟨g, 0, none⟩), .agg #[.int .i64 6, .slice a n c]] w (RkPost g (if (6 : Nat) = 7 ∧ lastKind (infoReps s data) = 1 then { s with phase := 2 } else s, saidL 6 (infoReps s data)) w) := by
  generalize hRR : ((if (6 : Nat) = 7 ∧ lastKind (infoReps s data) = 1 then { s with phase := 2 } else s), saidL 6 (infoReps s data)) = RR
  have HRR := Lib.hid hRR
  clear hRR
  have HS := Lib.hid hsec
  have HNM := Lib.hid hnm
  have HK := Lib.hid hb
  have hb1 : Below w.heap.size w (w.alloc (Obj.cells #[Value.int .i64 6, Value.slice a n c] 36)) := (Below.refl _ _).alloc (Nat.le_refl _) _
  have HBO : Hid (Blk (w.alloc (Obj.cells #[Value.int .i64 6, Value.slice a n c] 36)) w.heap.size 36 [Value.int .i64 6, Value.slice a n c]) := Lib.hid (Blk.new _ _ _)
  have HB1 := Lib.hid hb1
  have HGL : Hid (g < w.heap.size) := Lib.hid (Blk.lt HK.out)
  have HR0 := Lib.hid hr
  have HDL := Lib.hid hdl
  have hz1 : w.heap.size ≤ (w.alloc (Obj.cells #[Value.int .i64 6, Value.slice a n c] 36)).heap.size := hb1.size
  have HZ1 := Lib.hid hz1
  clear hb hb1 hr hz1 hsec hnm 
  go_enter Try.func50, Try.ntmps50
  go_upto_region 1 with (fail)
  generalize hw1 : w.alloc (Obj.cells #[Value.int .i64 6, Value.slice a n c] 36) = w1 at HBO HB1 HZ1
  obtain ⟨q, hq⟩ : ∃ q, w.heap.size = q := ⟨_, rfl⟩
  have HQ := Lib.hid hq
  rw [hq] at HBO HB1 HGL HZ1 HR0
  have HK1 : Hid (RkAt w1 g s) := Lib.hid (Blk.keep HK.out (HB1.out.block g HGL.out))
  rw [hq]
  have t0 : w1.cell? ⟨q, 0, none⟩ = some (.int .i64 6) := HBO.out.cell 0 _ rfl
  have t1 : w1.cell? ⟨q, 1, none⟩ = some (.slice a n c) := HBO.out.cell 1 _ rfl
  have k0 : w1.cell? ⟨g, 0, none⟩ = some (.string ⟨s.name.toArray⟩) := HK1.out.cell 0 _ rfl
  have k3 : w1.cell? ⟨g, 3, none⟩ = some (.int .i64 (s.phase : Int)) := HK1.out.cell 3 _ rfl
  have k4 : w1.cell? ⟨g, 4, none⟩ = some (.bool s.st) := HK1.out.cell 4 _ rfl
  have f3 := Blk.frozen HK1.out 3
  have f4 := Blk.frozen HK1.out 4
  have FIN : Hid (∀ (wx : World) (r : Sk) (o : List UInt8) (ax : Option Addr) (cx : Nat), OwnB wx q (.slice ax o.length cx) o → RkAt wx g r → w.grownBy wx (some g) → RkPost g (r, o) w (.returned (.slice ax o.length cx)) wx) := Lib.hid (fun wx r o ax cx h1 h2 h3 => ⟨ax, _, cx, rfl, by rw [HQ.out]; exact h1, h2, h3⟩)
  have HG1 : Hid (w.grownBy w1 (some g)) := Lib.hid (grownQ HB1.out HQ.out g)
  have HQD : Hid (q < w1.heap.size) := Lib.hid (Blk.lt HBO.out)
  have HK3 : Hid (∀ p : Nat, RkAt (w1.setCell ⟨g, 3, none⟩ (.int .i64 (p : Int))) g { s with phase := p }) := Lib.hid (fun p => Blk.set HK1.out 3 (.int .i64 (p : Int)))
  have HK4 : Hid (∀ p : Bool, RkAt (w1.setCell ⟨g, 4, none⟩ (.bool p)) g { s with st := p }) := Lib.hid (fun p => Blk.set HK1.out 4 (.bool p))
  have HGS : Hid (∀ (wn : World), w1.grownBy wn (some g) → wn.cell? ⟨q, 0, none⟩ = some (.int .i64 6) ∧ w.grownBy wn (some g) ∧ q ≤ wn.heap.size) := Lib.hid (fun wn hg => ⟨(World.cell?_of_block (a := ⟨q, 0, none⟩) (hg.block q HQD.out (fun e => by injection e with e; have := HGL.out; omega))).trans t0, grown_trans HG1.out hg, Nat.le_trans HZ1.out hg.size⟩)
  clear hw1 hq HK
  have CI : Calls Try.prog 57 #[.pointer (some ⟨g, 0, none⟩), .agg #[.int .i64 6, .slice a n c]] w1 (RkPost g RR w1) := by
    have h := rinfo_any g s 6 a n c data w1 HK1.out HS.out (by decide) HDL.out hc hc2 ((HR0.out.below HB1.out).more HZ1.out)
    rw [HRR.out] at h
    exact h
  have HCI := Lib.hid CI
  clear CI
  go_wp2_with fail
  refine HCI.out.mono ?_
  rintro e wx ⟨ax, nx, cx, rfl, hownx, hkx, hgx⟩
  have hnx := OwnB.len hownx
  subst hnx
  have HFI := Lib.hid (FIN.out _ RR.1 RR.2 _ _ (OwnG.base_mono hownx HZ1.out) hkx (grown_trans HG1.out hgx))
  clear hownx hkx hgx
  go_wp2_with fail
  go_ret
  exact HFI.out

set_option maxRecDepth 20000 in
set_option maxHeartbeats 4000000 in
theorem ropt_info7 (g : Nat) (s : Sk)  (a : Option Addr) (n c : Nat) (data : List UInt8) (w : World) (hb : RkAt w g s) (hsec : s.sectors ≤ 8192) (hnm : s.name.length ≤ 1000) (hdl : data.length = n) (hc : n ≤ c) (hc2 : n ≤ 140737488351232 ∧ c ≤ 9223372036854775807) (hr : Rd w w.heap.size a (bs data)) :
    Calls Try.prog 50 #[.pointer (some ⟨g, 0, none⟩), .agg #[.int .i64 7, .slice a n c]] w (RkPost g (if (7 : Nat) = 7 ∧ lastKind (infoReps s data) = 1 then { s with phase := 2 } else s, saidL 7 (infoReps s data)) w) := by
  generalize hRR : ((if (7 : Nat) = 7 ∧ lastKind (infoReps s data) = 1 then { s with phase := 2 } else s), saidL 7 (infoReps s data)) = RR
  have HRR := Lib.hid hRR
  clear hRR
  have HS := Lib.hid hsec
  have HNM := Lib.hid hnm
  have HK := Lib.hid hb
  have hb1 : Below w.heap.size w (w.alloc (Obj.cells #[Value.int .i64 7, Value.slice a n c] 36)) := (Below.refl _ _).alloc (Nat.le_refl _) _
  have HBO : Hid (Blk (w.alloc (Obj.cells #[Value.int .i64 7, Value.slice a n c] 36)) w.heap.size 36 [Value.int .i64 7, Value.slice a n c]) := Lib.hid (Blk.new _ _ _)
  have HB1 := Lib.hid hb1
  have HGL : Hid (g < w.heap.size) := Lib.hid (Blk.lt HK.out)
  have HR0 := Lib.hid hr
  have HDL := Lib.hid hdl
  have hz1 : w.heap.size ≤ (w.alloc (Obj.cells #[Value.int .i64 7, Value.slice a n c] 36)).heap.size := hb1.size
  have HZ1 := Lib.hid hz1
  clear hb hb1 hr hz1 hsec hnm 
  go_enter Try.func50, Try.ntmps50
  go_upto_region 1 with (fail)
  generalize hw1 : w.alloc (Obj.cells #[Value.int .i64 7, Value.slice a n c] 36) = w1 at HBO HB1 HZ1
  obtain ⟨q, hq⟩ : ∃ q, w.heap.size = q := ⟨_, rfl⟩
  have HQ := Lib.hid hq
  rw [hq] at HBO HB1 HGL HZ1 HR0
  have HK1 : Hid (RkAt w1 g s) := Lib.hid (Blk.keep HK.out (HB1.out.block g HGL.out))
  rw [hq]
  have t0 : w1.cell? ⟨q, 0, none⟩ = some (.int .i64 7) := HBO.out.cell 0 _ rfl
  have t1 : w1.cell? ⟨q, 1, none⟩ = some (.slice a n c) := HBO.out.cell 1 _ rfl
  have k0 : w1.cell? ⟨g, 0, none⟩ = some (.string ⟨s.name.toArray⟩) := HK1.out.cell 0 _ rfl
  have k3 : w1.cell? ⟨g, 3, none⟩ = some (.int .i64 (s.phase : Int)) := HK1.out.cell 3 _ rfl
  have k4 : w1.cell? ⟨g, 4, none⟩ = some (.bool s.st) := HK1.out.cell 4 _ rfl
  have f3 := Blk.frozen HK1.out 3
  have f4 := Blk.frozen HK1.out 4
  have FIN : Hid (∀ (wx : World) (r : Sk) (o : List UInt8) (ax : Option Addr) (cx : Nat), OwnB wx q (.slice ax o.length cx) o → RkAt wx g r → w.grownBy wx (some g) → RkPost g (r, o) w (.returned (.slice ax o.length cx)) wx) := Lib.hid (fun wx r o ax cx h1 h2 h3 => ⟨ax, _, cx, rfl, by rw [HQ.out]; exact h1, h2, h3⟩)
  have HG1 : Hid (w.grownBy w1 (some g)) := Lib.hid (grownQ HB1.out HQ.out g)
  have HQD : Hid (q < w1.heap.size) := Lib.hid (Blk.lt HBO.out)
  have HK3 : Hid (∀ p : Nat, RkAt (w1.setCell ⟨g, 3, none⟩ (.int .i64 (p : Int))) g { s with phase := p }) := Lib.hid (fun p => Blk.set HK1.out 3 (.int .i64 (p : Int)))
  have HK4 : Hid (∀ p : Bool, RkAt (w1.setCell ⟨g, 4, none⟩ (.bool p)) g { s with st := p }) := Lib.hid (fun p => Blk.set HK1.out 4 (.bool p))
  have HGS : Hid (∀ (wn : World), w1.grownBy wn (some g) → wn.cell? ⟨q, 0, none⟩ = some (.int .i64 7) ∧ w.grownBy wn (some g) ∧ q ≤ wn.heap.size) := Lib.hid (fun wn hg => ⟨(World.cell?_of_block (a := ⟨q, 0, none⟩) (hg.block q HQD.out (fun e => by injection e with e; have := HGL.out; omega))).trans t0, grown_trans HG1.out hg, Nat.le_trans HZ1.out hg.size⟩)
  clear hw1 hq HK
  have CI : Calls Try.prog 57 #[.pointer (some ⟨g, 0, none⟩), .agg #[.int .i64 7, .slice a n c]] w1 (RkPost g RR w1) := by
    have h := rinfo_any g s 7 a n c data w1 HK1.out HS.out (by decide) HDL.out hc hc2 ((HR0.out.below HB1.out).more HZ1.out)
    rw [HRR.out] at h
    exact h
  have HCI := Lib.hid CI
  clear CI
  go_wp2_with fail
  refine HCI.out.mono ?_
  rintro e wx ⟨ax, nx, cx, rfl, hownx, hkx, hgx⟩
  have hnx := OwnB.len hownx
  subst hnx
  have HFI := Lib.hid (FIN.out _ RR.1 RR.2 _ _ (OwnG.base_mono hownx HZ1.out) hkx (grown_trans HG1.out hgx))
  clear hownx hkx hgx
  go_wp2_with fail
  go_ret
  exact HFI.out

set_option maxRecDepth 20000 in
set_option maxHeartbeats 4000000 in
theorem ropt_list (g : Nat) (s : Sk)  (a : Option Addr) (n c : Nat) (data : List UInt8) (w : World) (hb : RkAt w g s) (hsec : s.sectors ≤ 8192) (hnm : s.name.length ≤ 1000) (hdl : data.length = n) (hc : n ≤ c) (hc2 : n ≤ 140737488351232 ∧ c ≤ 9223372036854775807) (hr : Rd w w.heap.size a (bs data)) :
    Calls Try.prog 50 #[.pointer (some ⟨g, 0, none⟩), .agg #[.int .i64 3, .slice a n c]] w (RkPost g (if data ≠ [] then (s, optionReplyL 3 2147483651 []) else (s, saidL 3 [(2, numB [(s.name.length, 4)] ++ s.name), (1, [])])) w) := by
  have hd : data ≠ [] ↔ ¬ n = 0 := by
    rw [← hdl]
    cases data <;> simp
  rw [show (if data ≠ [] then (s, optionReplyL 3 2147483651 []) else (s, saidL 3 [(2, numB [(s.name.length, 4)] ++ s.name), (1, [])])) = (if ¬ n = 0 then (s, optionReplyL 3 2147483651 []) else (s, saidL 3 [(2, numB [(s.name.length, 4)] ++ s.name), (1, [])])) by simp only [hd]]
  generalize hRR : (if ¬ n = 0 then (s, optionReplyL 3 2147483651 []) else (s, saidL 3 [(2, numB [(s.name.length, 4)] ++ s.name), (1, [])])) = RR
  have HRR := Lib.hid hRR
  clear hRR hd
  have HS := Lib.hid hsec
  have HNM := Lib.hid hnm
  have HK := Lib.hid hb
  have hb1 : Below w.heap.size w (w.alloc (Obj.cells #[Value.int .i64 3, Value.slice a n c] 36)) := (Below.refl _ _).alloc (Nat.le_refl _) _
  have HBO : Hid (Blk (w.alloc (Obj.cells #[Value.int .i64 3, Value.slice a n c] 36)) w.heap.size 36 [Value.int .i64 3, Value.slice a n c]) := Lib.hid (Blk.new _ _ _)
  have HB1 := Lib.hid hb1
  have HGL : Hid (g < w.heap.size) := Lib.hid (Blk.lt HK.out)
  have HR0 := Lib.hid hr
  have HDL := Lib.hid hdl
  have hz1 : w.heap.size ≤ (w.alloc (Obj.cells #[Value.int .i64 3, Value.slice a n c] 36)).heap.size := hb1.size
  have HZ1 := Lib.hid hz1
  clear hb hb1 hr hz1 hsec hnm 
  go_enter Try.func50, Try.ntmps50
  go_upto_region 1 with (fail)
  generalize hw1 : w.alloc (Obj.cells #[Value.int .i64 3, Value.slice a n c] 36) = w1 at HBO HB1 HZ1
  obtain ⟨q, hq⟩ : ∃ q, w.heap.size = q := ⟨_, rfl⟩
  have HQ := Lib.hid hq
  rw [hq] at HBO HB1 HGL HZ1 HR0
  have HK1 : Hid (RkAt w1 g s) := Lib.hid (Blk.keep HK.out (HB1.out.block g HGL.out))
  rw [hq]
  have t0 : w1.cell? ⟨q, 0, none⟩ = some (.int .i64 3) := HBO.out.cell 0 _ rfl
  have t1 : w1.cell? ⟨q, 1, none⟩ = some (.slice a n c) := HBO.out.cell 1 _ rfl
  have k0 : w1.cell? ⟨g, 0, none⟩ = some (.string ⟨s.name.toArray⟩) := HK1.out.cell 0 _ rfl
  have k3 : w1.cell? ⟨g, 3, none⟩ = some (.int .i64 (s.phase : Int)) := HK1.out.cell 3 _ rfl
  have k4 : w1.cell? ⟨g, 4, none⟩ = some (.bool s.st) := HK1.out.cell 4 _ rfl
  have f3 := Blk.frozen HK1.out 3
  have f4 := Blk.frozen HK1.out 4
  have FIN : Hid (∀ (wx : World) (r : Sk) (o : List UInt8) (ax : Option Addr) (cx : Nat), OwnB wx q (.slice ax o.length cx) o → RkAt wx g r → w.grownBy wx (some g) → RkPost g (r, o) w (.returned (.slice ax o.length cx)) wx) := Lib.hid (fun wx r o ax cx h1 h2 h3 => ⟨ax, _, cx, rfl, by rw [HQ.out]; exact h1, h2, h3⟩)
  have HG1 : Hid (w.grownBy w1 (some g)) := Lib.hid (grownQ HB1.out HQ.out g)
  have HQD : Hid (q < w1.heap.size) := Lib.hid (Blk.lt HBO.out)
  have HK3 : Hid (∀ p : Nat, RkAt (w1.setCell ⟨g, 3, none⟩ (.int .i64 (p : Int))) g { s with phase := p }) := Lib.hid (fun p => Blk.set HK1.out 3 (.int .i64 (p : Int)))
  have HK4 : Hid (∀ p : Bool, RkAt (w1.setCell ⟨g, 4, none⟩ (.bool p)) g { s with st := p }) := Lib.hid (fun p => Blk.set HK1.out 4 (.bool p))
  have HGS : Hid (∀ (wn : World), w1.grownBy wn (some g) → wn.cell? ⟨q, 0, none⟩ = some (.int .i64 3) ∧ w.grownBy wn (some g) ∧ q ≤ wn.heap.size) := Lib.hid (fun wn hg => ⟨(World.cell?_of_block (a := ⟨q, 0, none⟩) (hg.block q HQD.out (fun e => by injection e with e; have := HGL.out; omega))).trans t0, grown_trans HG1.out hg, Nat.le_trans HZ1.out hg.size⟩)
  clear hw1 hq HK
  by_cases hn0 : n = 0
  · have hnI : ¬ ((0 : Int) < (n : Int)) := by omega
    have hrr := HRR.out
    rw [if_neg (by simp [hn0])] at hrr
    subst hrr
    clear HRR
    obtain ⟨nm, hnm⟩ : ∃ nm, s.name = nm := ⟨_, rfl⟩
    rw [hnm] at k0 HNM ⊢
    have hD : numB [(nm.length, 4)] ++ nm = bytesOf nm.length 4 ++ nm := by simp [numB]
    rw [hD]
    have hsaid : saidL 3 [(2, bytesOf nm.length 4 ++ nm), (1, [])] = optionReplyL 3 2 (bytesOf nm.length 4 ++ nm) ++ optionReplyL 3 1 [] := by simp [saidL]
    rw [hsaid]
    obtain ⟨ln, hln⟩ : ∃ ln, nm.length = ln := ⟨_, rfl⟩
    have hln2 : ln ≤ 1000 := by rw [← hln]; exact HNM.out
    rw [hln]
    have hcb : Calls Try.prog 28 #[.int .u64 (ln : Int), .int .i64 4] w1 (BytesPost ln 4 w1) := bytes_good ln 4 w1 (by omega) (by omega) (by omega)
    have HCB := Lib.hid hcb
    have HSAID := Lib.hid hsaid
    clear hD hsaid hcb
    go_wp2_with fail
    with_reducible refine HCB.out.mono ?_
    rintro e w2 ⟨rfl, hown2, hb2⟩
    have HO2 := Lib.hid hown2
    have HB2 := Lib.hid hb2
    have k0 : w2.cell? ⟨g, 0, none⟩ = some (.string ⟨nm.toArray⟩) := (hb2.cell (p := ⟨g, 0, none⟩) (Blk.lt HK1.out)).trans k0
    have t0 : w2.cell? ⟨q, 0, none⟩ = some (.int .i64 3) := (hb2.cell (p := ⟨q, 0, none⟩) HQD.out).trans t0
    clear hown2 hb2 HCB
    have HT0 : Hid (w1.cell? ⟨q, 0, none⟩ = some (.int .i64 3)) := Lib.hid (HBO.out.cell 0 _ rfl)
    have HZ2 : Hid (w1.heap.size ≤ w2.heap.size) := Lib.hid HB2.out.size
    have S2 : Hid ((bytesOf ln 4).length + nm.length ≤ 140737488355328) := Lib.hid (by rw [bytesOf_length, hln]; omega)
    have P2 : Hid (0 < (bytesOf ln 4).length) := Lib.hid (by rw [bytesOf_length]; omega)
    have hlD : (bytesOf ln 4 ++ nm).length = 4 + ln := by rw [List.length_append, bytesOf_length, hln]
    have HLD := Lib.hid hlD
    obtain ⟨D, hDD⟩ : ∃ D, bytesOf ln 4 ++ nm = D := ⟨_, rfl⟩
    have HDD := Lib.hid hDD
    rw [hDD] at HLD
    clear hlD hDD
    go_wp2_with (at_builtin; refine wpList_apps rfl _ _ rfl w1.heap.size _ _ rfl HO2.out P2.out nm rfl S2.out HZ2.out ?_)
    intro v3 w3 hown3 hgr3 hat3
    rw [HDD.out] at hown3
    have hb3 := below_app HB2.out HO2.out (Nat.le_refl _) hgr3
    obtain ⟨a3, c3, rfl, _⟩ := OwnG.shape hown3
    rw [HLD.out] at hown3 ⊢
    have HO3 := Lib.hid hown3
    have HB3 := Lib.hid hb3
    have t0 : w3.cell? ⟨q, 0, none⟩ = some (.int .i64 3) := (hb3.cell (p := ⟨q, 0, none⟩) HQD.out).trans (by assumption)
    have HC3 := Lib.hid (roptionReply_any 3 2 a3 (4 + ln) c3 D w3 HLD.out (by omega) (OwnB.rd hown3))
    clear hown3 hgr3 hat3 hb3 HO2
    go_wp2_with fail
    refine HC3.out.mono ?_
    rintro e w4 ⟨a4, n4, c4, rfl, hown4, hb4⟩
    have hn4 := OwnB.len hown4
    rw [reply_len, HLD.out] at hn4
    subst hn4
    have HO4 := Lib.hid (OwnG.base_mono hown4 HB3.out.size : OwnB w4 w1.heap.size (.slice a4 (20 + (4 + ln)) c4) (optionReplyL 3 2 D))
    have HB4 := Lib.hid (HB3.out.trans (hb4.mono HB3.out.size))
    have t0 : w4.cell? ⟨q, 0, none⟩ = some (.int .i64 3) := (HB4.out.cell (p := ⟨q, 0, none⟩) HQD.out).trans HT0.out
    have HC4 := Lib.hid (roptionReply_any 3 1 none 0 0 [] w4 rfl (by omega) .nil)
    clear hown4 hb4
    go_wp2_with fail
    refine HC4.out.mono ?_
    rintro e w5 ⟨a5, n5, c5, rfl, hown5, hb5⟩
    have hn5 := OwnB.len hown5
    rw [reply_len] at hn5
    subst hn5
    have HO5 := Lib.hid (OwnG.below HO4.out hb5 : OwnB w5 w1.heap.size (.slice a4 (20 + (4 + ln)) c4) (optionReplyL 3 2 D))
    have HR5 := Lib.hid (OwnB.rd hown5)
    have HB5 := Lib.hid (HB4.out.trans (hb5.mono HB4.out.size))
    have S5 : Hid ((optionReplyL 3 2 D).length + (20 + ([] : List UInt8).length) ≤ 140737488355328) := Lib.hid (by rw [reply_len, HLD.out, List.length_nil]; omega)
    have HL5 : Hid ((optionReplyL 3 1 []).length = 20 + ([] : List UInt8).length) := Lib.hid (by rw [reply_len])
    have HZ5 : Hid (w1.heap.size ≤ w5.heap.size) := Lib.hid HB5.out.size
    clear hown5 hb5
    go_wp2_with (at_builtin; refine wpList_app rfl _ _ rfl w1.heap.size _ _ rfl HO5.out w5.heap.size a5 _ c5 (optionReplyL 3 1 []) rfl HL5.out HR5.out S5.out HZ5.out ?_)
    intro v7 w7 hown7 hgr7 hat7
    obtain ⟨a7, c7, rfl, _⟩ := OwnG.shape hown7
    have hb7 := below_app HB5.out HO5.out (Nat.le_refl _) hgr7
    have HFI := Lib.hid (FIN.out _ s _ _ _ (OwnG.base_mono hown7 HZ1.out) (Blk.below HK1.out hb7) (grown_below HG1.out hb7))
    clear hown7 hgr7 hat7 hb7
    go_wp2_with fail
    go_ret
    have hR : saidL 3 [(2, numB [(s.name.length, 4)] ++ s.name), (1, [])] = optionReplyL 3 2 D ++ optionReplyL 3 1 [] := by
      rw [hnm, ← HDD.out, ← hln]
      simp [saidL, numB]
    rw [hR]
    exact HFI.out
  · have hnI : (0 : Int) < (n : Int) := by omega
    have hrr := HRR.out
    rw [if_pos hn0] at hrr
    subst hrr
    clear HRR
    have hgs : w1.grownBy w1 (some g) := World.grownBy.refl _ _
    obtain ⟨t2, hg2, hz2⟩ := HGS.out _ hgs
    have HGW := Lib.hid hg2
    have HZW := Lib.hid hz2
    have HKW : Hid (RkAt w1 g s) := Lib.hid (HK1.out)
    have HC := Lib.hid (roptionReply_any 3 2147483651 none 0 0 [] w1 rfl (by omega) .nil)
    clear hgs hg2 hz2
    go_wp2_with fail
    refine HC.out.mono ?_
    rintro e wx ⟨ax, nx, cx, rfl, hownx, hbx⟩
    have hnx := OwnB.len hownx
    subst hnx
    have HFI := Lib.hid (FIN.out _ _ _ _ _ (OwnG.base_mono hownx HZW.out) (Blk.below HKW.out hbx) (grown_below HGW.out hbx))
    clear hownx hbx
    go_wp2_with fail
    go_ret
    exact HFI.out

end Go.Proofs.Ytnpcpbjoonjaoaa
