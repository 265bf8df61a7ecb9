/- shake: what is said to an option -/
import Derived.Test.YtnpcpbjoonjaoaaApS
namespace Go.Proofs.Ytnpcpbjoonjaoaa
set_option linter.unusedVariables false
set_option linter.unusedSimpArgs false
open Go.RowKit

def lastKind (l : List (Nat × List UInt8)) : Nat := (l.getLast?.map (·.1)).getD 0
/-- What is said to an option, and what becomes of the handshake. -/
def ansR (s : Sk) (ty : Nat) (data : List UInt8) : Sk × List (Nat × List UInt8) :=
  if ty = 2 then ({ s with phase := 3 }, [(1, [])])
  else if ty = 6 then (s, infoReps s data)
  else if ty = 7 then (if lastKind (infoReps s data) = 1 then { s with phase := 2 } else s, infoReps s data)
  else if ty = 3 ∨ ty = 8 then
    if data ≠ [] then (s, [(2147483651, [])])
    else if ty = 8 then ({ s with st := true }, [(1, [])])
    else (s, [(2, numB [(s.name.length, 4)] ++ s.name), (1, [])])
  else (s, [(2147483649, [])])

def AnsPost (g : Nat) (r : Sk × List (Nat × List UInt8)) (w : World) (e : Ending) (w' : World) : Prop :=
  ∃ a n c L, e = .returned (.slice a n c) ∧ RepsS w' w.heap.size (.slice a n c) n L ∧ rpL L = r.2 ∧ SkAt w' g r.1 ∧ w.grownBy w' (some g)

theorem sk_grown {w w' : World} (g : Nat) (h : Below w.heap.size w w') : w.grownBy w' (some g) := ⟨h.os, h.tape, h.output, h.size, fun k hk _ => h.block k hk⟩
theorem grown_trans {w w1 w2 : World} {g : Nat} (h : w.grownBy w1 (some g)) (h2 : w1.grownBy w2 (some g)) : w.grownBy w2 (some g) :=
  ⟨h2.os.trans h.os, h2.tape.trans h.tape, h2.output.trans h.output, Nat.le_trans h.size h2.size, fun k hk hne => (h2.block k (by have := h.size; omega) hne).trans (h.block k hk hne)⟩
theorem RepsS.grown {w w' : World} {base : Nat} {v : Value} {n : Nat} {L : List Rp} {g : Nat} (h : RepsS w base v n L) (hg : w.grownBy w' (some g)) (hb : g < base) : RepsS w' base v n L := by
  have key : ∀ {v' : Value} {e : TypeId} {size m : Nat} {xs : List Value}, OwnG w base e size v' m xs → OwnG w' base e size v' m xs := fun {v'} {e} {size} {m} {xs} h => OwnG.grown h hg (by
    cases hq : v'.ownBlock with
    | none => exact .inl rfl
    | some z => exact .inr (fun e => by injection e with e; have := (OwnG.lt h z hq).1; omega))
  exact ⟨key h.own, h.len, fun x hx => ⟨key (h.data x hx).1, (h.data x hx).2⟩⟩
/-- A list of two, written out. -/
theorem RepsS.two {w : World} {base : Nat} (y z : Rp) (hb : base ≤ w.heap.size) (hy : OwnB w base (.slice y.a y.data.length y.c) y.data) (hz : OwnB w base (.slice z.a z.data.length z.c) z.data) :
    RepsS (w.alloc (.cells #[Value.int .i64 (y.kind : Int), Value.slice y.a y.data.length y.c, Value.int .i64 (z.kind : Int), Value.slice z.a z.data.length z.c] 94)) base (.slice (some ⟨w.heap.size, 0, none⟩) 2 2) 2 [y, z] := by
  refine ⟨OwnG.base_mono (own_lit w 94 2 2 (rpCells [y, z]) rfl (by omega)) hb, rfl, fun x hx => ?_⟩
  have key : ∀ x : Rp, OwnB w base (.slice x.a x.data.length x.c) x.data → OwnB (w.alloc (.cells #[Value.int .i64 (y.kind : Int), Value.slice y.a y.data.length y.c, Value.int .i64 (z.kind : Int), Value.slice z.a z.data.length z.c] 94)) base (.slice x.a x.data.length x.c) x.data ∧ ((Value.slice x.a x.data.length x.c).ownBlock = none ∨ (Value.slice x.a x.data.length x.c).ownBlock ≠ (Value.slice (some ⟨w.heap.size, 0, none⟩) 2 2).ownBlock) := fun x h => by
    refine ⟨OwnG.alloc h _, ?_⟩
    cases hq : (Value.slice x.a x.data.length x.c).ownBlock with
    | none => exact .inl rfl
    | some q => exact .inr (fun e2 => by have e2 : some q = some w.heap.size := e2; injection e2 with e2; have := (OwnG.lt h q hq).2; omega)
  simp at hx
  rcases hx with rfl | rfl
  · exact key _ hy
  · exact key _ hz

theorem Sk.set_st (s : Sk) (p : Bool) : s.cells.set 4 (.bool p) = ({ s with st := p } : Sk).cells := rfl
theorem SkAt.structured {w : World} {g : Nat} {s : Sk} (h : SkAt w g s) (p : Bool) : SkAt (w.setCell ⟨g, 4, none⟩ (.bool p)) g { s with st := p } := by
  have := Blk.set h 4 (.bool p)
  rwa [Sk.set_st] at this

set_option maxRecDepth 20000 in
set_option maxHeartbeats 4000000 in
theorem answer_any (g : Nat) (s : Sk) (ty : Nat) (a : Option Addr) (n c : Nat) (data : List UInt8) (w : World) (hb : SkAt w g s) (hsec : s.sectors ≤ 8192) (hnm : s.name.length ≤ 1000) (hdl : data.length = n) (hc : n ≤ c) (hc2 : c ≤ 9223372036854775807) (hr : Rd w w.heap.size a (bs data)) :
    Calls Try.prog 55 #[.pointer (some ⟨g, 0, none⟩), .agg #[.int .i64 (ty : Int), .slice a n c]] w (AnsPost g (ansR s ty data) w) := by
  have HB := Lib.hid hb
  have HS := Lib.hid hsec
  have HNM := Lib.hid hnm
  have hglt := hb.lt
  have hbb : Below w.heap.size w ((w.alloc (Obj.cells #[Value.int .i64 (ty : Int), Value.slice a n c] 36)).alloc (Obj.cells #[Value.int .i64 1, Value.slice none 0 0] 94)) := ((Below.refl _ _).alloc (Nat.le_refl _) _).alloc (by rw [World.size_alloc]; omega) _
  have k0 : ((w.alloc (Obj.cells #[Value.int .i64 (ty : Int), Value.slice a n c] 36)).alloc (Obj.cells #[Value.int .i64 1, Value.slice none 0 0] 94)).cell? ⟨w.heap.size, 0, none⟩ = some (.int .i64 (ty : Int)) := by go_simp
  have k1 : ((w.alloc (Obj.cells #[Value.int .i64 (ty : Int), Value.slice a n c] 36)).alloc (Obj.cells #[Value.int .i64 1, Value.slice none 0 0] 94)).cell? ⟨w.heap.size, 1, none⟩ = some (.slice a n c) := by go_simp
  have j0 : ((w.alloc (Obj.cells #[Value.int .i64 (ty : Int), Value.slice a n c] 36)).alloc (Obj.cells #[Value.int .i64 1, Value.slice none 0 0] 94)).cell? ⟨w.heap.size + 1, 0, none⟩ = some (.int .i64 1) := by go_simp
  have j1 : ((w.alloc (Obj.cells #[Value.int .i64 (ty : Int), Value.slice a n c] 36)).alloc (Obj.cells #[Value.int .i64 1, Value.slice none 0 0] 94)).cell? ⟨w.heap.size + 1, 1, none⟩ = some (.slice none 0 0) := by go_simp
  have hs1 : ((w.alloc (Obj.cells #[Value.int .i64 (ty : Int), Value.slice a n c] 36)).alloc (Obj.cells #[Value.int .i64 1, Value.slice none 0 0] 94)).heap.size = w.heap.size + 2 := by rw [World.size_alloc, World.size_alloc]
  go_enter Try.func55, Try.ntmps55
  go_upto_region 2 with (fail)
  generalize hw1 : ((w.alloc (Obj.cells #[Value.int .i64 (ty : Int), Value.slice a n c] 36)).alloc (Obj.cells #[Value.int .i64 1, Value.slice none 0 0] 94)) = w1 at hbb k0 k1 j0 j1 hs1
  clear hw1
  have hk1 : SkAt w1 g s := HB.out.below hbb
  have HK1 := Lib.hid hk1
  have HBB := Lib.hid hbb
  have HS1 := Lib.hid hs1
  have h3 : w1.cell? ⟨g, 3, none⟩ = some (.int .i64 (s.phase : Int)) := hk1.cell 3 _ rfl
  have f3 := Blk.frozen hk1 3
  have h4 : w1.cell? ⟨g, 4, none⟩ = some (.bool s.st) := hk1.cell 4 _ rfl
  have f4 := Blk.frozen hk1 4
  have HG1 := Lib.hid (sk_grown g hbb)
  have HJ : Hid (∀ wx, w1.grownBy wx (some g) → wx.cell? ⟨w.heap.size + 1, 0, none⟩ = some (.int .i64 1) ∧ wx.cell? ⟨w.heap.size + 1, 1, none⟩ = some (.slice none 0 0) ∧ wx.cell? ⟨w.heap.size, 0, none⟩ = some (.int .i64 (ty : Int))) := Lib.hid (fun wx hx => by
    have e1 := hx.block (w.heap.size + 1) (by omega) (fun e => by injection e; omega)
    have e0 := hx.block w.heap.size (by omega) (fun e => by injection e; omega)
    exact ⟨(World.cell?_of_block (a := ⟨w.heap.size + 1, 0, none⟩) e1).trans j0, (World.cell?_of_block (a := ⟨w.heap.size + 1, 1, none⟩) e1).trans j1, (World.cell?_of_block (a := ⟨w.heap.size, 0, none⟩) e0).trans k0⟩)
  clear hk1 hbb hs1 hb hsec hnm
  have hz1 : w.heap.size ≤ w1.heap.size := HBB.out.size
  by_cases t2 : ty = 2
  · have HF : Hid (ansR s ty data = ({ s with phase := 3 }, [(1, [])])) := Lib.hid (by rw [ansR, if_pos t2])
    subst t2
    obtain ⟨q0, q1, _⟩ := HJ.out (w1.setCell ⟨g, 3, none⟩ (.int .i64 3)) (grownBy_setI _)
    go_wp2_with fail
    go_ret
    rw [HF.out]
    have hgs : w1.grownBy (w1.setCell ⟨g, 3, none⟩ (.int .i64 3)) (some g) := grownBy_setI _
    have hrb := reps_bare (w1.setCell ⟨g, 3, none⟩ (.int .i64 3)) (base := w.heap.size) 1 (by rw [World.size_setCell]; exact hz1)
    rw [World.size_setCell] at hrb
    exact ⟨_, _, _, [⟨1, [], none, 0⟩], rfl, hrb, rfl, Blk.below (HK1.out.phase 3) ((Below.refl _ _).alloc (Nat.le_refl _) _), grown_trans HG1.out (grown_trans hgs (sk_grown g ((Below.refl _ _).alloc (Nat.le_refl _) _)))⟩
  · by_cases t6 : ty = 6
    · have HF : Hid (ansR s ty data = (s, infoReps s data)) := Lib.hid (by rw [ansR, if_neg t2, if_pos t6])
      subst t6
      have C := Lib.hid (info_any g s a n c data w1 HK1.out HS.out hdl hc hc2 ((hr.below HBB.out).more HBB.out.size))
      clear t2 j0 j1 h3 f3 h4 f4 hr
      go_wp2_with fail
      refine C.out.mono ?_
      rintro e w2 ⟨a2, n2, c2, L, rfl, hreps, hL, hb2⟩
      have HR2 := Lib.hid hreps
      have HB2 := Lib.hid hb2
      have HL := Lib.hid hL
      clear hreps hb2 hL
      go_wp2_with fail
      go_ret
      rw [HF.out]
      exact ⟨_, _, _, _, rfl, HR2.out.mono hz1, HL.out, Blk.below HK1.out HB2.out, grown_below HG1.out HB2.out⟩
    · by_cases t7 : ty = 7
      · have HF : Hid (ansR s ty data = (if lastKind (infoReps s data) = 1 then { s with phase := 2 } else s, infoReps s data)) := Lib.hid (by rw [ansR, if_neg t2, if_neg t6, if_pos t7])
        subst t7
        have C := Lib.hid (info_any g s a n c data w1 HK1.out HS.out hdl hc hc2 ((hr.below HBB.out).more HBB.out.size))
        clear t2 t6 j0 j1 h3 f3 h4 f4 hr
        go_wp2_with fail
        refine C.out.mono ?_
        rintro e w2 ⟨a2, n2, c2, L, rfl, hreps, hL, hb2⟩
        have hpos : 0 < n2 := by
          have h1 := congrArg List.length hL
          rw [rpL, List.length_map, hreps.len] at h1
          rw [h1, infoReps]
          split
          · simp
          · split <;> simp
        obtain ⟨m, rfl⟩ : ∃ m, n2 = m + 1 := ⟨n2 - 1, by omega⟩
        have hmL : m < L.length := by rw [hreps.len]; omega
        have hget := (rpCells_get L m hmL).1
        obtain ⟨b2, o2, rfl, hbl, hcell⟩ := (OwnG.rd hreps.own).at _ _ hget
        obtain ⟨kd, hkd⟩ : ∃ kd, (L[m]).kind = kd := ⟨_, rfl⟩
        rw [hkd] at hcell
        have hlast : lastKind (infoReps s data) = kd := by
          rw [← hL, lastKind, rpL, List.getLast?_map, List.getLast?_eq_getElem?, hreps.len, Nat.add_sub_cancel, List.getElem?_eq_getElem hmL, ← hkd]
          rfl
        rw [hlast] at HF
        have hsm : (m : Int) + 1 ≤ 9223372036854775807 := by
          rcases hreps.own.2 with ⟨h, _⟩ | ⟨_, _, cap, _, _, _, _, _, _, _, _, q1, q2, _⟩
          · cases h
          · unfold maxLen at q2; omega
        have x1 : wrap64 (m : Int) = (m : Int) := IntWalk.wrap64_in _ (by omega)
        have m0 : (0 : Int) ≤ (m : Int) := Int.natCast_nonneg m
        have m1 : (m : Int) < (m : Int) + 1 := by omega
        have hk2 : SkAt w2 g s := Blk.below HK1.out hb2
        have h3 : w2.cell? ⟨g, 3, none⟩ = some (.int .i64 (s.phase : Int)) := hk2.cell 3 _ rfl
        have f3 := Blk.frozen hk2 3
        have HK2 := Lib.hid hk2
        have HR2 := Lib.hid hreps
        have HG2 := Lib.hid (grown_below HG1.out hb2)
        have HL := Lib.hid hL
        have HZ2 := Lib.hid hb2.size
        clear hreps hb2 hL hpos hmL hget hkd hlast hsm hk2 hbl
        by_cases hk1 : kd = 1
        · rw [if_pos hk1] at HF
          subst hk1
          have hgs : w2.grownBy (w2.setCell ⟨g, 3, none⟩ (.int .i64 2)) (some g) := grownBy_setI _
          have HGS := Lib.hid hgs
          clear hgs
          go_wp2_with fail
          go_ret
          rw [HF.out]
          exact ⟨_, _, _, _, rfl, (HR2.out.mono hz1).grown HGS.out hglt, HL.out, HK2.out.phase 2, grown_trans HG2.out HGS.out⟩
        · rw [if_neg hk1] at HF
          have hk1' : ¬ ((kd : Int) = 1) := by omega
          go_wp2_with fail
          go_ret
          rw [HF.out]
          exact ⟨_, _, _, _, rfl, HR2.out.mono hz1, HL.out, HK2.out, HG2.out⟩
      · by_cases t38 : ty = 3 ∨ ty = 8
        · by_cases hd : data = []
          · have hn0 : n = 0 := by rw [← hdl, hd]; rfl
            subst hn0
            by_cases t8 : ty = 8
            · have HF : Hid (ansR s ty data = ({ s with st := true }, [(1, [])])) := Lib.hid (by rw [ansR, if_neg t2, if_neg t6, if_neg t7, if_pos t38, if_neg (by simp [hd]), if_pos t8])
              subst t8
              obtain ⟨q0, q1, _⟩ := HJ.out (w1.setCell ⟨g, 4, none⟩ (.bool true)) (grownBy_setI _)
              clear t38 t2 t6 t7
              go_wp2_with fail
              go_ret
              rw [HF.out]
              have hgs : w1.grownBy (w1.setCell ⟨g, 4, none⟩ (.bool true)) (some g) := grownBy_setI _
              have hrb := reps_bare (w1.setCell ⟨g, 4, none⟩ (.bool true)) (base := w.heap.size) 1 (by rw [World.size_setCell]; exact hz1)
              rw [World.size_setCell] at hrb
              exact ⟨_, _, _, [⟨1, [], none, 0⟩], rfl, hrb, rfl, Blk.below (HK1.out.structured true) ((Below.refl _ _).alloc (Nat.le_refl _) _), grown_trans HG1.out (grown_trans hgs (sk_grown g ((Below.refl _ _).alloc (Nat.le_refl _) _)))⟩
            · have t3 : ty = 3 := by rcases t38 with h | h; exact h; exact absurd h t8
              have HF : Hid (ansR s ty data = (s, [(2, numB [(s.name.length, 4)] ++ s.name), (1, [])])) := Lib.hid (by rw [ansR, if_neg t2, if_neg t6, if_neg t7, if_pos t38, if_neg (by simp [hd]), if_neg t8])
              subst t3
              clear t38 t2 t6 t7 t8
              obtain ⟨nm0, hnm0⟩ : ∃ nm0, s.name = nm0 := ⟨_, rfl⟩
              have hnl := HNM.out
              rw [hnm0] at HF hnl
              have g0 : ∀ wx, Below w1.heap.size w1 wx → wx.cell? ⟨g, 0, none⟩ = some (.string ⟨nm0.toArray⟩) := fun wx hx => by rw [← hnm0]; exact (HK1.out.below hx).cell 0 _ rfl
              have g1 : ∀ wx, Below w1.heap.size w1 wx → wx.cell? ⟨w.heap.size + 1, 0, none⟩ = some (.int .i64 1) := fun wx hx => (HJ.out wx (sk_grown g hx)).1
              have g2 : ∀ wx, Below w1.heap.size w1 wx → wx.cell? ⟨w.heap.size + 1, 1, none⟩ = some (.slice none 0 0) := fun wx hx => (HJ.out wx (sk_grown g hx)).2.1
              have hr0 : Below w1.heap.size w1 w1 := Below.refl _ _
              have hr1 : Below w1.heap.size w1 w1.drew := (Below.refl _ _).drew
              clear h3 f3 h4 f4 hnm0
              obtain ⟨D, hD⟩ : ∃ D, numB [(nm0.length, 4)] = D := ⟨_, rfl⟩
              have hDl : D.length = 4 := by rw [← hD]; simp [numB, bytesOf_length]
              obtain ⟨DN, hDN⟩ : ∃ DN, D ++ nm0 = DN := ⟨_, rfl⟩
              rw [hD, hDN] at HF
              have hba : Below w1.heap.size w1 (w1.alloc (Obj.cells #[Value.int .i64 (nm0.length : Int), Value.int .i64 4] 98)).drew := ((Below.refl _ _).alloc (Nat.le_refl _) _).drew
              have CN : Hid (Calls Try.prog 61 #[.slice (some ⟨w1.heap.size, 0, none⟩) 1 1] (w1.alloc (Obj.cells #[Value.int .i64 (nm0.length : Int), Value.int .i64 4] 98)).drew fun e w' => ∃ a2 n2 c2, e = .returned (.slice a2 n2 c2) ∧ OwnB w' w1.heap.size (.slice a2 n2 c2) D ∧ Below w1.heap.size w1 w') := Lib.hid (by
                refine (numbers_any _ 1 1 [(nm0.length, 4)] _ rfl (by simp) (by intro p hp; simp at hp; subst hp; simp; omega) ?_).mono ?_
                · have h := (Rd.new w1 (ci2 [(nm0.length, 4)]) 98).drew
                  have e : (ci2 [(nm0.length, 4)]).toArray = #[Value.int .i64 (nm0.length : Int), Value.int .i64 4] := by simp [ci2]
                  rw [e] at h
                  refine h.more ?_
                  show w1.heap.size + 1 ≤ (w1.alloc (Obj.cells #[Value.int .i64 (nm0.length : Int), Value.int .i64 4] 98)).heap.size
                  rw [World.size_alloc]
                  exact Nat.le_refl _
                · rintro e w' ⟨a2, n2, c2, rfl, h1, h2⟩
                  rw [hD] at h1
                  exact ⟨a2, n2, c2, rfl, OwnG.base_mono h1 hba.size, hba.trans (h2.mono hba.size)⟩)
              have hpos : 0 < D.length := by omega
              have h47 : D.length + nm0.length ≤ 140737488355328 := by omega
              have HDN := Lib.hid hDN
              clear hD hDN hDl
              go_upto_region 21 with (fail)
              go_cut [4] (fun v wn => ∃ a c L, v = .slice a 2 c ∧ RepsS wn w.heap.size (.slice a 2 c) 2 L ∧ rpL L = [(2, DN), (1, [])] ∧ Below w1.heap.size w1 wn)
              case first =>
                go_region_held3 (fun w' => Below w1.heap.size w1 w')
                  (first | assumption | go_keep | exact (hS3.alloc hS3.size _))
                  (first
                    | ((with_reducible refine CN.out.mono ?_); rintro e w2 ⟨a2, n2, c2, rfl, hown2, hS2⟩)
                    | (refine step_apps (by rfl) (.tmp 67) (.tmp 71) (by rfl) w1.heap.size _ D (by rfl) hown2 hpos nm0 (by rfl) h47 hS2.size ?_; intro v3 w3 hown3 hgr3 hat3; have hS3 := hS2.grown hgr3 hS2.size (fun z hz => (OwnG.lt hown2 z hz).1); rw [HDN.out] at hown3; obtain ⟨a3, c3, rfl, _⟩ := OwnG.shape hown3)
                    | fail)
                all_goals go_wp2_with fail
                all_goals go_meet
                all_goals exact ⟨_, _, [⟨2, DN, a3, c3⟩, ⟨1, [], none, 0⟩], rfl, RepsS.two ⟨2, DN, a3, c3⟩ ⟨1, [], none, 0⟩ (Nat.le_trans hz1 hS3.size) (OwnG.base_mono hown3 hz1) (OwnG.nil _ _ _ _), rfl, hS3.alloc hS3.size _⟩
              case rest =>
                obtain ⟨a5, c5, L5, rfl, hr5, hL5, hb5⟩ := hcut
                go_wp2_with fail
                go_ret
                rw [HF.out]
                exact ⟨_, _, _, L5, rfl, hr5, hL5, Blk.below HK1.out hb5, grown_below HG1.out hb5⟩
          · have hn0 : 0 < n := by
              rcases Nat.eq_zero_or_pos n with h | h
              · exact absurd (List.eq_nil_of_length_eq_zero (by omega)) hd
              · exact h
            have hI : (0 : Int) < (n : Int) := by omega
            have HF : Hid (ansR s ty data = (s, [(2147483651, [])])) := Lib.hid (by rw [ansR, if_neg t2, if_neg t6, if_neg t7, if_pos t38, if_pos hd])
            rcases t38 with rfl | rfl
            all_goals
              go_wp2_with fail
              go_ret
              rw [HF.out]
              exact ⟨_, _, _, [⟨2147483651, [], none, 0⟩], rfl, reps_bare w1 2147483651 hz1, rfl, Blk.below HK1.out ((Below.refl _ _).alloc (Nat.le_refl _) _), grown_below HG1.out ((Below.refl _ _).alloc (Nat.le_refl _) _)⟩
        · have HF : Hid (ansR s ty data = (s, [(2147483649, [])])) := Lib.hid (by rw [ansR, if_neg t2, if_neg t6, if_neg t7, if_neg t38])
          have t3 : ¬ ty = 3 := fun h => t38 (.inl h)
          have t8 : ¬ ty = 8 := fun h => t38 (.inr h)
          have i2 : ¬ ((ty : Int) = 2) := by omega
          have i6 : ¬ ((ty : Int) = 6) := by omega
          have i7 : ¬ ((ty : Int) = 7) := by omega
          have i3 : ¬ ((ty : Int) = 3) := by omega
          have i8 : ¬ ((ty : Int) = 8) := by omega
          go_wp2_with fail
          go_ret
          rw [HF.out]
          exact ⟨_, _, _, [⟨2147483649, [], none, 0⟩], rfl, reps_bare w1 2147483649 hz1, rfl, Blk.below HK1.out ((Below.refl _ _).alloc (Nat.le_refl _) _), grown_below HG1.out ((Below.refl _ _).alloc (Nat.le_refl _) _)⟩
end Go.Proofs.Ytnpcpbjoonjaoaa
