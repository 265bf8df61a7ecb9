/- shake: what is said to an option Info -/
import Derived.Test.YtnpcpbjoonjaoaaSkD
namespace Go.Proofs.Ytnpcpbjoonjaoaa
set_option linter.unusedVariables false
set_option linter.unusedSimpArgs false
open Go.RowKit

/-- Replies of the call's own, and their data, apart. -/
structure RepsS (w : World) (base : Nat) (v : Value) (n : Nat) (L : List Rp) : Prop where
  own : OwnR w base v n L
  len : L.length = n
  data : ∀ x ∈ L, OwnB w base (.slice x.a x.data.length x.c) x.data ∧ ((Value.slice x.a x.data.length x.c).ownBlock = none ∨ (Value.slice x.a x.data.length x.c).ownBlock ≠ v.ownBlock)
theorem RepsS.below {w w' : World} {base : Nat} {v : Value} {n : Nat} {L : List Rp} (h : RepsS w base v n L) (hb : Below w.heap.size w w') : RepsS w' base v n L :=
  ⟨OwnG.below h.own hb, h.len, fun x hx => ⟨OwnG.below (h.data x hx).1 hb, (h.data x hx).2⟩⟩
theorem RepsS.mono {w : World} {base base' : Nat} {v : Value} {n : Nat} {L : List Rp} (h : RepsS w base v n L) (hb : base' ≤ base) : RepsS w base' v n L :=
  ⟨OwnG.base_mono h.own hb, h.len, fun x hx => ⟨OwnG.base_mono (h.data x hx).1 hb, (h.data x hx).2⟩⟩
theorem RepsS.alloc {w : World} {base : Nat} {v : Value} {n : Nat} {L : List Rp} (h : RepsS w base v n L) (o : Obj) : RepsS (w.alloc o) base v n L := h.below ((Below.refl _ _).alloc (Nat.le_refl _) o)
theorem RepsS.append {w w' : World} {base : Nat} {v v' : Value} {n : Nat} {L : List Rp} {y : Rp} (h : RepsS w base v n L) (hown : OwnR w' base v' (n + 1) (L ++ [y])) (hgr : w.grownBy w' v.ownBlock) (hat : v'.ownBlock = v.ownBlock ∨ v'.ownBlock = some w.heap.size)
    (hy : OwnB w base (.slice y.a y.data.length y.c) y.data) (hs : (Value.slice y.a y.data.length y.c).ownBlock = none ∨ (Value.slice y.a y.data.length y.c).ownBlock ≠ v.ownBlock) : RepsS w' base v' (n + 1) (L ++ [y]) := by
  have key : ∀ x : Rp, OwnB w base (.slice x.a x.data.length x.c) x.data → ((Value.slice x.a x.data.length x.c).ownBlock = none ∨ (Value.slice x.a x.data.length x.c).ownBlock ≠ v.ownBlock) →
      OwnB w' base (.slice x.a x.data.length x.c) x.data ∧ ((Value.slice x.a x.data.length x.c).ownBlock = none ∨ (Value.slice x.a x.data.length x.c).ownBlock ≠ v'.ownBlock) := fun x h1 h2 => by
    refine ⟨OwnG.grown h1 hgr h2, ?_⟩
    rcases hat with e | e
    · rw [e]; exact h2
    · rw [e]
      cases hq : (Value.slice x.a x.data.length x.c).ownBlock with
      | none => exact .inl rfl
      | some z => exact .inr (fun e2 => by injection e2 with e2; have := (OwnG.lt h1 z hq).2; omega)
  refine ⟨hown, by rw [List.length_append, h.len]; rfl, fun x hx => ?_⟩
  rcases List.mem_append.1 hx with hx | hx
  · exact key x (h.data x hx).1 (h.data x hx).2
  · simp at hx
    subst hx
    exact key x hy hs
theorem RepsS.reps {w : World} {base : Nat} {v : Value} {n : Nat} {L : List Rp} (h : RepsS w base v n L) : RepsAt w base v (rpL L) := by
  refine ⟨L, rfl, by rw [h.len]; exact h.own, fun x hx => OwnB.rd (h.data x hx).1⟩
/-- A list of one, written out. -/
theorem RepsS.one {w : World} {base : Nat} (y : Rp) (hb : base ≤ w.heap.size) (hy : OwnB w base (.slice y.a y.data.length y.c) y.data) :
    RepsS (w.alloc (.cells #[Value.int .i64 (y.kind : Int), Value.slice y.a y.data.length y.c] 94)) base (.slice (some ⟨w.heap.size, 0, none⟩) 1 1) 1 [y] := by
  refine ⟨OwnG.base_mono (own_lit w 94 2 1 y.cells rfl (by omega)) hb, rfl, fun x hx => ?_⟩
  simp at hx
  subst hx
  refine ⟨OwnG.alloc hy _, ?_⟩
  cases hq : (Value.slice x.a x.data.length x.c).ownBlock with
  | none => exact .inl rfl
  | some z => exact .inr (fun e2 => by have e2 : some z = some w.heap.size := e2; injection e2 with e2; have := (OwnG.lt hy z hq).2; omega)
theorem reps_bare (w : World) {base : Nat} (k : Nat) (hb : base ≤ w.heap.size) :
    RepsS (w.alloc (.cells #[Value.int .i64 (k : Int), Value.slice none 0 0] 94)) base (.slice (some ⟨w.heap.size, 0, none⟩) 1 1) 1 [⟨k, [], none, 0⟩] := RepsS.one ⟨k, [], none, 0⟩ hb (OwnG.nil _ _ _ _)

def infoReps (s : Sk) (data : List UInt8) : List (Nat × List UInt8) :=
  if (infoR data).2.2 ≠ 0 then [(2147483651, [])]
  else if (infoR data).1 ≠ [] ∧ (infoR data).1 ≠ s.name then [(2147483654, [])]
  else [(3, numB [(0, 2)] ++ expL s)] ++ (if 3 ∈ (infoR data).2.1 then [(3, numB [(3, 2), (64, 4), (64, 4), (1024, 4)])] else []) ++ [(1, [])]

def RepPost (reps : List (Nat × List UInt8)) (w : World) (e : Ending) (w' : World) : Prop :=
  ∃ a n c L, e = .returned (.slice a n c) ∧ RepsS w' w.heap.size (.slice a n c) n L ∧ rpL L = reps ∧ Below w.heap.size w w'

theorem nums_lit (w : World) (l : List (Nat × Nat)) (hl : l.length ≤ 100) (hls : ∀ p ∈ l, 1 ≤ p.2 ∧ p.2 ≤ 8 ∧ p.1 < 256 ^ p.2 ∧ p.1 < 9223372036854775808) {cs : Array Value} (hcs : (ci2 l).toArray = cs) {k : Nat} (hk : l.length = k) :
    Calls Try.prog 61 #[.slice (some ⟨w.heap.size, 0, none⟩) k k] (w.alloc (Obj.cells cs 98)) (MsgPost (numB l) (w.alloc (Obj.cells cs 98))) := by
  subst hcs
  refine numbers_any _ k k l _ hk hl hls ?_
  exact (Rd.new w (ci2 l) 98).more (by rw [World.size_alloc]; omega)

theorem ownI_facts {w : World} {base n c : Nat} {a : Option Addr} {L : List Nat} (h : OwnI w base (.slice a n c) n L) : L.length = n ∧ n ≤ 9223372036854775807 := by
  refine ⟨by have := h.1; rw [ints_length] at this; omega, ?_⟩
  rcases h.2 with ⟨_, h0⟩ | ⟨_, _, cap, _, _, _, _, _, _, _, _, h1, h2, _⟩
  · omega
  · unfold maxLen at h2; omega
theorem mem_int (L : List Nat) (k : Nat) : (∃ x ∈ L, (x : Int) = (k : Int)) ↔ k ∈ L := by
  constructor
  · rintro ⟨x, hx, e⟩; have : x = k := by omega
    subst this; exact hx
  · exact fun h => ⟨k, h, rfl⟩
theorem num14 : (numB [(3, 2), (64, 4), (64, 4), (1024, 4)]).length = 14 := by simp [numB, bytesOf_length]

set_option maxRecDepth 20000 in
set_option maxHeartbeats 4000000 in
theorem info_any (g : Nat) (s : Sk) (a : Option Addr) (n c : Nat) (data : List UInt8) (w : World) (hb : SkAt w g s) (hsec : s.sectors ≤ 8192) (hdl : data.length = n) (hc : n ≤ c) (hc2 : c ≤ 9223372036854775807) (hr : Rd w w.heap.size a (bs data)) :
    Calls Try.prog 60 #[.pointer (some ⟨g, 0, none⟩), .slice a n c] w (RepPost (infoReps s data) w) := by
  have HB := Lib.hid hb
  have HS := Lib.hid hsec
  obtain ⟨⟨nm, L, ie⟩, hir⟩ : ∃ r, infoR data = r := ⟨_, rfl⟩
  have C1 := Lib.hid (takeInfo_any a n c data w hdl hc hc2 hr)
  rw [hir] at C1
  have HF : Hid (infoReps s data = if ie ≠ 0 then [(2147483651, [])] else if nm ≠ [] ∧ nm ≠ s.name then [(2147483654, [])] else [(3, numB [(0, 2)] ++ expL s)] ++ (if 3 ∈ L then [(3, numB [(3, 2), (64, 4), (64, 4), (1024, 4)])] else []) ++ [(1, [])]) := Lib.hid (by rw [infoReps, hir])
  clear hb hsec hdl hc hc2 hr hir
  go_enter Try.func60, Try.ntmps60
  go_wp2_with fail
  refine C1.out.mono ?_
  rintro e w1 ⟨ai, ni, ci, rfl, hoi, hb1⟩
  simp only
  have hoi : OwnI w1 w.heap.size (.slice ai ni ci) ni L := hoi
  have HOI := Lib.hid hoi
  have HB1 := Lib.hid hb1
  have hk1 : SkAt w1 g s := HB.out.below hb1
  have k0 : w1.cell? ⟨g, 0, none⟩ = some (.string ⟨s.name.toArray⟩) := hk1.cell 0 _ rfl
  have HK1 := Lib.hid hk1
  obtain ⟨nm0, hnm0⟩ : ∃ nm0, s.name = nm0 := ⟨_, rfl⟩
  rw [hnm0] at k0 HF
  clear hoi hb1 hk1 hnm0 C1
  by_cases hie : ie = 0
  · subst hie
    rw [if_neg (by simp)] at HF
    by_cases hbad : nm ≠ [] ∧ nm ≠ nm0
    · rw [if_pos hbad] at HF
      have e1 : nm.isEmpty = false := by cases nm with
        | nil => exact absurd rfl hbad.1
        | cons => rfl
      have e2 : (nm == nm0) = false := beq_eq_false_iff_ne.2 hbad.2
      clear hbad
      go_wp2_with fail
      go_ret
      rw [HF.out]
      exact ⟨_, _, _, _, rfl, reps_bare w1 2147483654 HB1.out.size, rfl, HB1.out.alloc HB1.out.size _⟩
    · rw [if_neg hbad] at HF
      have hT : Hid (nm.isEmpty = true ∨ (nm.isEmpty = false ∧ (nm == nm0) = true)) := Lib.hid (by
        cases nm with
        | nil => exact .inl rfl
        | cons x l => exact .inr ⟨rfl, by
            rcases Classical.em (x :: l = nm0) with h | h
            · exact beq_iff_eq.2 h
            · exact absurd ⟨by simp, h⟩ hbad⟩)
      clear hbad
      have N1 := Lib.hid (nums_lit w1 [(0, 2)] (by simp) (by intro p hp; simp at hp; subst hp; simp) (cs := #[Value.int .i64 0, Value.int .i64 2]) (by simp [ci2]) (k := 1) rfl)
      have HA1 := Lib.hid ((Below.refl w1.heap.size w1).alloc (Nat.le_refl _) (Obj.cells #[Value.int .i64 0, Value.int .i64 2] 98))
      rcases hT.out with h1 | ⟨h1, h2⟩
      case' inl => clear hT
      case' inr => clear hT
      all_goals
        go_wp2_with fail
        refine N1.out.mono ?_
        rintro e w2 ⟨a2, n2, c2, rfl, hown2, hb2⟩
        have hn2 := OwnB.len hown2
        have e2 : (numB [(0, 2)]).length = 2 := by simp [numB, bytesOf_length]
        rw [e2] at hn2
        subst hn2
        have HO2 := Lib.hid (OwnG.base_mono hown2 HA1.out.size : OwnB w2 w1.heap.size _ _)
        have HB2 := Lib.hid (HA1.out.trans (hb2.mono HA1.out.size))
        have hk2 : SkAt w2 g s := Blk.below HK1.out HB2.out
        have HX := Lib.hid (export_any g s w2 hk2 HS.out)
        have HE2 := Lib.hid e2
        clear hown2 hb2 hk2 e2 k0 N1
        go_wp2_with fail
        refine HX.out.mono ?_
        rintro e w3 ⟨a3, n3, c3, rfl, hown3, hb3⟩
        have hn3 := OwnB.len hown3
        rw [expL_length] at hn3
        subst hn3
        have HO3 := Lib.hid (OwnG.below HO2.out hb3 : OwnB w3 w1.heap.size (.slice a2 2 c2) (numB [(0, 2)]))
        have HR3 := Lib.hid (OwnB.rd hown3)
        have HB3 := Lib.hid (HB2.out.trans (hb3.mono HB2.out.size))
        have S3 : Hid ((numB [(0, 2)]).length + 10 ≤ 140737488355328) := Lib.hid (by rw [HE2.out]; omega)
        have HXL := Lib.hid (expL_length s)
        clear hown3 hb3 HX
        go_wp2_with (at_builtin; refine wpList_app rfl _ _ rfl w1.heap.size _ _ rfl HO3.out w3.heap.size a3 10 c3 (expL s) rfl HXL.out HR3.out S3.out HB3.out.size ?_)
        intro v4 w4 hown4 hgr4 hat4
        have hgr4 : w3.grownBy w4 (Value.slice a2 2 c2).ownBlock := hgr4
        have hb4 := below_app HB3.out HO3.out (Nat.le_refl _) hgr4
        have hl4 : (numB [(0, 2)] ++ expL s).length = 12 := by rw [List.length_append, HE2.out, HXL.out]
        obtain ⟨a4, c4, rfl, _⟩ := OwnG.shape hown4
        obtain ⟨D1, hD1⟩ : ∃ D1, numB [(0, 2)] ++ expL s = D1 := ⟨_, rfl⟩
        rw [hD1] at hown4 hl4 ⊢
        rw [hD1] at HF
        rw [hl4] at hown4 ⊢
        have h5 := RepsS.one (w := w4) (base := w1.heap.size) ⟨3, D1, a4, c4⟩ hb4.size (by show OwnB w4 w1.heap.size (.slice a4 D1.length c4) D1; rw [hl4]; exact hown4)
        simp only [hl4] at h5
        have hb5 := hb4.alloc hb4.size (Obj.cells #[Value.int .i64 3, Value.slice a4 12 c4] 94)
        clear hgr4 hat4 hown4 hb4 hD1
        go_upto_region 7 with (fail)
        generalize hw5 : w4.alloc (Obj.cells #[Value.int .i64 3, Value.slice a4 12 c4] 94) = w5 at h5 hb5
        have HL5 := Lib.hid h5
        have HB5 := Lib.hid hb5
        obtain ⟨gl, hgl⟩ : ∃ gl, w4.heap.size = gl := ⟨_, rfl⟩
        rw [hgl] at HL5 ⊢
        have hoi5 : OwnI w5 w.heap.size (.slice ai ni ci) ni L := OwnG.below HOI.out hb5
        obtain ⟨hil, hin⟩ := ownI_facts HOI.out
        have CC := Lib.hid (contains_any 3 ai ni ci L w5 hil hin (OwnG.rd hoi5))
        have HL4 := Lib.hid hl4
        clear h5 hb5 hw5 hgl hoi5 hil hin HA1 HO2 HB2 HO3 HR3 HB3 S3 hl4
        go_wp2_with fail
        refine CC.out.mono ?_
        rintro e w6 ⟨⟨v, rfl, hv⟩, hw6⟩
        subst hw6
        rename World => w5
        rw [show ((3 : Int)) = ((3 : Nat) : Int) from rfl, mem_int] at hv
        clear CC
        cases v with
        | true =>
          have h3L : 3 ∈ L := hv.1 rfl
          rw [if_pos h3L] at HF
          clear hv h3L
          obtain ⟨D2, hD2⟩ : ∃ D2, numB [(3, 2), (64, 4), (64, 4), (1024, 4)] = D2 := ⟨_, rfl⟩
          have N2 := nums_lit w5 [(3, 2), (64, 4), (64, 4), (1024, 4)] (by simp) (by intro p hp; simp at hp; rcases hp with rfl | rfl | rfl <;> simp) (cs := #[Value.int .i64 3, Value.int .i64 2, Value.int .i64 64, Value.int .i64 4, Value.int .i64 64, Value.int .i64 4, Value.int .i64 1024, Value.int .i64 4]) (by simp [ci2]) (k := 4) rfl
          have hl2 := num14
          rw [hD2] at N2 HF hl2
          have HN2 := Lib.hid N2
          have HD2 := Lib.hid hl2
          have HB5a := Lib.hid (HB5.out.alloc HB5.out.size (Obj.cells #[Value.int .i64 3, Value.int .i64 2, Value.int .i64 64, Value.int .i64 4, Value.int .i64 64, Value.int .i64 4, Value.int .i64 1024, Value.int .i64 4] 98))
          have HL5a := Lib.hid (HL5.out.alloc (Obj.cells #[Value.int .i64 3, Value.int .i64 2, Value.int .i64 64, Value.int .i64 4, Value.int .i64 64, Value.int .i64 4, Value.int .i64 1024, Value.int .i64 4] 98))
          have HGL : Hid (gl < w5.heap.size) := Lib.hid (OwnG.lt HL5.out.own gl rfl).2
          clear N2 hD2 hl2
          go_wp2_with fail
          refine HN2.out.mono ?_
          rintro e w6 ⟨a6, n6, c6, rfl, hown6, hb6⟩
          have hn6 := OwnB.len hown6
          subst hn6
          have hsep6 : (Value.slice a6 D2.length c6).ownBlock = none ∨ (Value.slice a6 D2.length c6).ownBlock ≠ (Value.slice (some ⟨gl, 0, none⟩) 1 1).ownBlock := by
            cases hq : (Value.slice a6 D2.length c6).ownBlock with
            | none => exact .inl rfl
            | some z => exact .inr (fun e2 => by
                have e2 : some z = some gl := e2
                injection e2 with e2
                have h1 := (OwnG.lt hown6 z hq).1
                rw [World.size_alloc] at h1
                have := HGL.out
                omega)
          have HSEP := Lib.hid hsep6
          have HO6 := Lib.hid (OwnG.alloc (OwnG.base_mono hown6 HB5a.out.size) (Obj.cells #[Value.int .i64 3, Value.slice a6 D2.length c6] 94) : OwnB (w6.alloc (Obj.cells #[Value.int .i64 3, Value.slice a6 D2.length c6] 94)) w1.heap.size (.slice a6 D2.length c6) D2)
          have HL6 := Lib.hid ((HL5a.out.below hb6).alloc (Obj.cells #[Value.int .i64 3, Value.slice a6 D2.length c6] 94))
          have hb06 := HB5a.out.trans (hb6.mono HB5a.out.size)
          have HB6 := Lib.hid (hb06.alloc hb06.size (Obj.cells #[Value.int .i64 3, Value.slice a6 D2.length c6] 94))
          have HR6 := Lib.hid ((Rd.new w6 (Rp.cells ⟨3, D2, a6, c6⟩) 94).more (Nat.le_refl _))
          clear hown6 hb6 hsep6 hb06 HN2 HL5a HL5 HB5
          go_wp2_with (at_builtin; refine wpList_appR rfl _ _ rfl w1.heap.size _ 1 _ rfl HL6.out.own (by omega) (w6.heap.size + 1) (some ⟨w6.heap.size, 0, none⟩) 1 ⟨3, D2, a6, c6⟩ rfl HR6.out HB6.out.size ?_)
          intro v8 w8 hown8 hgr8 hat8
          have h8 := HL6.out.append hown8 hgr8 (by rw [World.size_alloc]; exact hat8) HO6.out HSEP.out
          have hb8 := HB6.out.grown hgr8 HB6.out.size (fun z hz => (OwnG.lt HL6.out.own z hz).1)
          obtain ⟨a8, c8, rfl, _⟩ := OwnG.shape hown8
          have HL8 := Lib.hid h8
          have HB8 := Lib.hid hb8
          clear hown8 hgr8 hat8 h8 hb8 HL6 HB6 HR6 HO6 HSEP
          have HL9 := Lib.hid (HL8.out.alloc (Obj.cells #[Value.int .i64 1, Value.slice none 0 0] 94))
          have HB9 := Lib.hid (HB8.out.alloc HB8.out.size (Obj.cells #[Value.int .i64 1, Value.slice none 0 0] 94))
          have HR9 := Lib.hid ((Rd.new w8 (Rp.cells ⟨1, [], none, 0⟩) 94).more (Nat.le_refl _))
          go_wp2_with (at_builtin; refine wpList_appR rfl _ _ rfl w1.heap.size _ 2 _ rfl HL9.out.own (by omega) (w8.heap.size + 1) (some ⟨w8.heap.size, 0, none⟩) 1 ⟨1, [], none, 0⟩ rfl HR9.out HB9.out.size ?_)
          intro v7 w7 hown7 hgr7 hat7
          have hf := HL9.out.append hown7 hgr7 (by rw [World.size_alloc]; exact hat7) (OwnG.nil _ _ _ _) (.inl rfl)
          have hbf := HB9.out.grown hgr7 HB9.out.size (fun z hz => (OwnG.lt HL9.out.own z hz).1)
          obtain ⟨a7, c7, rfl, _⟩ := OwnG.shape hown7
          have HFF := Lib.hid hf
          have HBF := Lib.hid (HB1.out.trans (hbf.mono HB1.out.size))
          clear hown7 hgr7 hat7 hf hbf
          go_wp2_with fail
          go_ret
          rw [HF.out]
          exact ⟨_, _, _, _, rfl, HFF.out.mono HB1.out.size, rfl, HBF.out⟩
        | false =>
          have h3L : ¬ 3 ∈ L := fun h => by have := hv.2 h; cases this
          rw [if_neg h3L, List.append_nil] at HF
          clear hv h3L
          have HL9 := Lib.hid (HL5.out.alloc (Obj.cells #[Value.int .i64 1, Value.slice none 0 0] 94))
          have HB9 := Lib.hid (HB5.out.alloc HB5.out.size (Obj.cells #[Value.int .i64 1, Value.slice none 0 0] 94))
          have HR9 := Lib.hid ((Rd.new w5 (Rp.cells ⟨1, [], none, 0⟩) 94).more (Nat.le_refl _))
          go_wp2_with (at_builtin; refine wpList_appR rfl _ _ rfl w1.heap.size _ 1 _ rfl HL9.out.own (by omega) (w5.heap.size + 1) (some ⟨w5.heap.size, 0, none⟩) 1 ⟨1, [], none, 0⟩ rfl HR9.out HB9.out.size ?_)
          intro v7 w7 hown7 hgr7 hat7
          have hf := HL9.out.append hown7 hgr7 (by rw [World.size_alloc]; exact hat7) (OwnG.nil _ _ _ _) (.inl rfl)
          have hbf := HB9.out.grown hgr7 HB9.out.size (fun z hz => (OwnG.lt HL9.out.own z hz).1)
          obtain ⟨a7, c7, rfl, _⟩ := OwnG.shape hown7
          have HFF := Lib.hid hf
          have HBF := Lib.hid (HB1.out.trans (hbf.mono HB1.out.size))
          clear hown7 hgr7 hat7 hf hbf
          go_wp2_with fail
          go_ret
          rw [HF.out]
          exact ⟨_, _, _, _, rfl, HFF.out.mono HB1.out.size, rfl, HBF.out⟩
  · have hie' : ¬ (ie = 0) := hie
    rw [if_pos hie] at HF
    go_wp2_with fail
    go_ret
    rw [HF.out]
    exact ⟨_, _, _, _, rfl, reps_bare w1 2147483651 HB1.out.size, rfl, HB1.out.alloc HB1.out.size _⟩
end Go.Proofs.Ytnpcpbjoonjaoaa
