/- shake: one message -/
import Derived.Test.YtnpcpbjoonjaoaaSkF
import Derived.Test.YtnpcpbjoonjaoaaBits
namespace Go.Proofs.Ytnpcpbjoonjaoaa
set_option linter.unusedVariables false
set_option linter.unusedSimpArgs false
open Go.RowKit

def saidL (ty : Nat) (l : List (Nat × List UInt8)) : List UInt8 := l.flatMap fun p => optionReplyL (ty : Int) (p.1 : Int) p.2
/-- One message is taken. -/
def oneR (s : Sk) (b : List UInt8) : Sk × List UInt8 × Nat :=
  if s.phase = 0 then
    if b.length < 4 then (s, [], 0)
    else ({ s with phase := if numOf (b.take 4) = 1 ∨ numOf (b.take 4) = 3 then 1 else 3, bare := numOf (b.take 4) == 3 }, [], 4)
  else if (optR b).2.2.2 ≠ 0 then ({ s with phase := 3 }, [], b.length)
  else if (optR b).2.2.1 = 0 then (s, [], 0)
  else if (optR b).1 = 1 then ((expName s (optR b).2.1).1, (expName s (optR b).2.1).2, (optR b).2.2.1)
  else ((ansR s (optR b).1 (optR b).2.1).1, saidL (optR b).1 (ansR s (optR b).1 (optR b).2.1).2, (optR b).2.2.1)

def OnePost (g : Nat) (r : Sk × List UInt8 × Nat) (w : World) (e : Ending) (w' : World) : Prop :=
  ∃ a m c, e = .returned (.tuple #[.slice a m c, .int .i64 (r.2.2 : Int)]) ∧ OwnB w' w.heap.size (.slice a m c) r.2.1 ∧ SkAt w' g r.1 ∧ w.grownBy w' (some g)

theorem Sk.set_bare (s : Sk) (p : Bool) : s.cells.set 5 (.bool p) = ({ s with bare := p } : Sk).cells := rfl
theorem SkAt.bared {w : World} {g : Nat} {s : Sk} (h : SkAt w g s) (p : Bool) : SkAt (w.setCell ⟨g, 5, none⟩ (.bool p)) g { s with bare := p } := by
  have := Blk.set h 5 (.bool p)
  rwa [Sk.set_bare] at this

/-- k replies are said. -/
def OneRel (w4 : World) (ty : Nat) (reps : List (Nat × List UInt8)) (v vi : Value) (wr : World) : Prop :=
  ∃ k : Nat, k ≤ reps.length ∧ vi = .int .i64 (k : Int) ∧ OwnB wr w4.heap.size v (saidL ty (reps.take k)) ∧ Below w4.heap.size w4 wr

theorem ans_small (s : Sk) (ty : Nat) (data : List UInt8) (hn : s.name.length ≤ 1000) : (ansR s ty data).2.length ≤ 3 ∧ ∀ p ∈ (ansR s ty data).2, p.2.length ≤ 2000 := by
  have hi : (infoReps s data).length ≤ 3 ∧ ∀ p ∈ infoReps s data, p.2.length ≤ 2000 := by
    rw [infoReps]
    split
    · simp
    · split
      · simp
      · have e1 : (numB [(0, 2)] ++ expL s).length = 12 := by rw [List.length_append, expL_length]; simp [numB, bytesOf_length]
        split
        · refine ⟨by simp, fun p hp => ?_⟩
          simp only [List.cons_append, List.nil_append, List.mem_cons, List.not_mem_nil, or_false] at hp
          rcases hp with rfl | rfl | rfl
          · rw [e1]; omega
          · rw [num14]; omega
          · simp
        · refine ⟨by simp, fun p hp => ?_⟩
          simp only [List.cons_append, List.nil_append, List.mem_cons, List.not_mem_nil, or_false] at hp
          rcases hp with rfl | rfl
          · rw [e1]; omega
          · simp
  rw [ansR]
  split
  · simp
  · split
    · exact hi
    · split
      · exact hi
      · split
        · split
          · simp
          · split
            · simp
            · refine ⟨by simp, fun p hp => ?_⟩
              simp only [List.mem_cons, List.not_mem_nil, or_false] at hp
              rcases hp with rfl | rfl
              · simp [numB, bytesOf_length]; omega
              · simp
        · simp
theorem reply_len (a b : Int) (d : List UInt8) : (optionReplyL a b d).length = 20 + d.length := by simp [optionReplyL, bytesOf_length]; omega
theorem said_len (ty : Nat) : ∀ l : List (Nat × List UInt8), (∀ p ∈ l, p.2.length ≤ 2000) → (saidL ty l).length ≤ l.length * 2020
  | [], _ => by simp [saidL]
  | p :: l, h => by
    have h1 := said_len ty l (fun q hq => h q (List.mem_cons_of_mem _ hq))
    have h2 := h p (List.mem_cons_self ..)
    rw [saidL, List.flatMap_cons, List.length_append, reply_len, List.length_cons]
    unfold saidL at h1
    omega

set_option maxRecDepth 20000 in
set_option maxHeartbeats 4000000 in
theorem one_any (g : Nat) (s : Sk) (a : Option Addr) (n c : Nat) (b : List UInt8) (w : World) (hb : SkAt w g s) (hsec : s.sectors ≤ 8192) (hnm : s.name.length ≤ 1000) (hdl : b.length = n) (hc : n ≤ c) (hc2 : c ≤ 9223372036854775807) (hr : Rd w w.heap.size a (bs b)) :
    Calls Try.prog 49 #[.pointer (some ⟨g, 0, none⟩), .slice a n c] w (OnePost g (oneR s b) w) := by
  have HB := Lib.hid hb
  have HS := Lib.hid hsec
  have HNM := Lib.hid hnm
  have HR := Lib.hid hr
  have HDL := Lib.hid hdl
  have k3 : w.cell? ⟨g, 3, none⟩ = some (.int .i64 (s.phase : Int)) := hb.cell 3 _ rfl
  have f3 := Blk.frozen hb 3
  have k5 : w.cell? ⟨g, 5, none⟩ = some (.bool s.bare) := hb.cell 5 _ rfl
  have f5 := Blk.frozen hb 5
  clear hb hsec hnm hr
  go_enter Try.func49, Try.ntmps49
  by_cases hp0 : s.phase = 0
  · rw [hp0] at k3
    by_cases h4 : n < 4
    · have HF : Hid (oneR s b = (s, [], 0)) := Lib.hid (by rw [oneR, if_pos hp0, if_pos (by omega)])
      have hI : (n : Int) < 4 := by omega
      go_wp2_with fail
      refine bodyPost_ret (v := .tuple #[.slice none 0 0, .int .i64 0]) (by simp [results, Try.results49, go_sem]) rfl ?_
      rw [HF.out]
      exact ⟨none, 0, 0, rfl, OwnG.nil _ _ _ _, HB.out, World.grownBy.refl _ _⟩
    · have HF : Hid (oneR s b = ({ s with phase := if numOf (b.take 4) = 1 ∨ numOf (b.take 4) = 3 then 1 else 3, bare := numOf (b.take 4) == 3 }, [], 4)) := Lib.hid (by rw [oneR, if_pos hp0, if_neg (by omega)])
      have hI : ¬ ((n : Int) < 4) := by omega
      have h4c : (4 : Int) ≤ (c : Int) := by omega
      have l4 : (b.take 4).length = 4 := by rw [List.length_take]; omega
      have C := get_good a c (b.take 4) w (by omega) (by omega) (by rw [bs_take]; exact HR.out.take 4)
      rw [l4] at C
      obtain ⟨v, hv⟩ : ∃ v, numOf (b.take 4) = v := ⟨_, rfl⟩
      rw [hv] at C HF
      have HC := Lib.hid C
      clear C hv l4
      go_wp2_with fail
      refine HC.out.mono ?_
      rintro e w1 ⟨rfl, rfl⟩
      by_cases v1 : v = 1
      · subst v1
        go_wp2_with fail
        refine bodyPost_ret (v := .tuple #[.slice none 0 0, .int .i64 4]) (by simp [results, Try.results49, go_sem]) rfl ?_
        rw [HF.out]
        exact ⟨none, 0, 0, rfl, OwnG.nil _ _ _ _, ((HB.out.phase 3).bared false).phase 1, grown_trans (grown_trans (grownBy_setI _) (grownBy_setI _)) (grownBy_setI _)⟩
      · by_cases v3 : v = 3
        · subst v3
          go_wp2_with fail
          refine bodyPost_ret (v := .tuple #[.slice none 0 0, .int .i64 4]) (by simp [results, Try.results49, go_sem]) rfl ?_
          rw [HF.out]
          exact ⟨none, 0, 0, rfl, OwnG.nil _ _ _ _, ((HB.out.phase 3).bared true).phase 1, grown_trans (grown_trans (grownBy_setI _) (grownBy_setI _)) (grownBy_setI _)⟩
        · have HF2 : Hid (oneR s b = ({ s with phase := 3, bare := false }, [], 4)) := Lib.hid (by rw [HF.out, if_neg (by rintro (h | h); exact v1 h; exact v3 h), beq_eq_false_iff_ne.2 v3])
          have i1 : ¬ ((v : Int) = 1) := by omega
          have i3 : ¬ ((v : Int) = 3) := by omega
          have e1 : ((v : Int) == 1) = false := beq_eq_false_iff_ne.2 i1
          have e3 : ((v : Int) == 3) = false := beq_eq_false_iff_ne.2 i3
          clear HF
          go_wp2_with fail
          refine bodyPost_ret (v := .tuple #[.slice none 0 0, .int .i64 4]) (by simp [results, Try.results49, go_sem]) rfl ?_
          rw [HF2.out]
          exact ⟨none, 0, 0, rfl, OwnG.nil _ _ _ _, (HB.out.phase 3).bared false, grown_trans (grownBy_setI _) (grownBy_setI _)⟩
  · have hp0' : ¬ ((s.phase : Int) = 0) := by omega
    have C := Lib.hid (takeOpt_any a n c b w hdl hc hc2 HR.out)
    go_wp2_with fail
    refine C.out.mono ?_
    rintro e w1 ⟨a1, n1, c1, rfl, hown1, hb1⟩
    have HB1 := Lib.hid hb1
    have HK1 := Lib.hid (HB.out.below hb1)
    have HO1 := Lib.hid hown1
    clear hown1 hb1 C k3 f3 k5 f5
    have hstep : ∀ (r : Nat × List UInt8 × Nat × Int), optR b = r → True := fun _ _ => trivial
    clear hstep
    rcases opt_cases b with ho | ho | ⟨_, _, hn1, hn2, ho⟩
    · have HF : Hid (oneR s b = ({ s with phase := 3 }, [], n)) := Lib.hid (by rw [oneR, if_neg hp0, ho, if_pos (by simp), HDL.out])
      rw [ho] at HO1 ⊢
      simp only at HO1 ⊢
      have HW := Lib.hid (HB1.out.alloc HB1.out.size (Obj.cells #[Value.int .i64 0, Value.slice a1 n1 c1] 36))
      have hk2 : SkAt (w1.alloc (Obj.cells #[Value.int .i64 0, Value.slice a1 n1 c1] 36)) g s := HB.out.below HW.out
      have HK2 := Lib.hid hk2
      have k3 := hk2.cell 3 _ rfl
      have f3 := Blk.frozen hk2 3
      clear hk2
      go_upto_region 10 with (fail)
      generalize w1.alloc (Obj.cells #[Value.int .i64 0, Value.slice a1 n1 c1] 36) = w2 at HW HK2 k3 f3 ⊢
      go_wp2_with fail
      refine bodyPost_ret (v := .tuple #[.slice none 0 0, .int .i64 (n : Int)]) (by simp [results, Try.results49, go_sem]) rfl ?_
      rw [HF.out]
      exact ⟨none, 0, 0, rfl, OwnG.nil _ _ _ _, HK2.out.phase 3, grown_trans (sk_grown g HW.out) (grownBy_setI _)⟩
    · have HF : Hid (oneR s b = (s, [], 0)) := Lib.hid (by rw [oneR, if_neg hp0, ho, if_neg (by simp), if_pos rfl])
      rw [ho] at HO1 ⊢
      simp only at HO1 ⊢
      have HW := Lib.hid (HB1.out.alloc HB1.out.size (Obj.cells #[Value.int .i64 0, Value.slice a1 n1 c1] 36))
      go_wp2_with fail
      refine bodyPost_ret (v := .tuple #[.slice none 0 0, .int .i64 0]) (by simp [results, Try.results49, go_sem]) rfl ?_
      rw [HF.out]
      exact ⟨none, 0, 0, rfl, OwnG.nil _ _ _ _, HB.out.below HW.out, sk_grown g HW.out⟩
    · have hty := num4_lt (b.drop 8)
      generalize numOf ((b.drop 8).take 4) = ty at ho hty
      generalize numOf ((b.drop 12).take 4) = nl at ho hn1 hn2
      generalize (b.drop 16).take nl = dl at ho
      rw [ho] at HO1 ⊢
      simp only at HO1 ⊢
      have hW := HB1.out.alloc HB1.out.size (Obj.cells #[Value.int .i64 (ty : Int), Value.slice a1 n1 c1] 36)
      have hk2 : SkAt (w1.alloc (Obj.cells #[Value.int .i64 (ty : Int), Value.slice a1 n1 c1] 36)) g s := HB.out.below hW
      have ho2 : OwnB (w1.alloc (Obj.cells #[Value.int .i64 (ty : Int), Value.slice a1 n1 c1] 36)) w.heap.size (.slice a1 n1 c1) dl := OwnG.alloc HO1.out _
      have q0 : (w1.alloc (Obj.cells #[Value.int .i64 (ty : Int), Value.slice a1 n1 c1] 36)).cell? ⟨w1.heap.size, 0, none⟩ = some (.int .i64 (ty : Int)) := by go_simp
      have q1 : (w1.alloc (Obj.cells #[Value.int .i64 (ty : Int), Value.slice a1 n1 c1] 36)).cell? ⟨w1.heap.size, 1, none⟩ = some (.slice a1 n1 c1) := by go_simp
      have hs2 : (w1.alloc (Obj.cells #[Value.int .i64 (ty : Int), Value.slice a1 n1 c1] 36)).heap.size = w1.heap.size + 1 := World.size_alloc _ _
      have hz0 := HB1.out.size
      go_upto_region 10 with (fail)
      generalize w1.alloc (Obj.cells #[Value.int .i64 (ty : Int), Value.slice a1 n1 c1] 36) = w2 at hW hk2 ho2 q0 q1 hs2 ⊢
      obtain ⟨go, hgo⟩ : ∃ go, w1.heap.size = go := ⟨_, rfl⟩
      rw [hgo] at q0 q1 hs2 hz0 ⊢
      have HW := Lib.hid hW
      have HK2 := Lib.hid hk2
      have HO2 := Lib.hid ho2
      have HGO : Hid (w.heap.size ≤ go ∧ go < w2.heap.size) := Lib.hid ⟨hz0, by omega⟩
      have hn1' := OwnB.len ho2
      have hcap := OwnB.capm ho2
      have hgl := HB.out.lt
      have hnI : ¬ ((16 : Int) + (nl : Int) = 0) := by omega
      have hnI2 : ¬ (((16 + nl : Nat) : Int) = 0) := by omega
      clear hgo hW hk2 ho2 hs2 hz0 HB1 HK1 HO1
      by_cases t1 : ty = 1
      · have HF : Hid (oneR s b = ((expName s dl).1, (expName s dl).2, 16 + nl)) := Lib.hid (by rw [oneR, if_neg hp0, ho, if_neg (by simp), if_neg (by simp), if_pos t1])
        subst t1
        have hcv := conv_rd (OwnB.rd HO2.out) n1 c1 hn1'
        have HC := Lib.hid (exportName_any g s dl w2 HK2.out HS.out)
        clear ho
        go_wp2_with fail
        refine HC.out.mono ?_
        rintro e w3 ⟨a3, n3, c3, rfl, hown3, hk3, hg3⟩
        have HO3 := Lib.hid (OwnG.base_mono hown3 HW.out.size : OwnB w3 w.heap.size _ _)
        have HK3 := Lib.hid hk3
        have HG3 := Lib.hid (grown_trans (sk_grown g HW.out) hg3)
        clear hown3 hk3 hg3 HC hcv
        go_wp2_with fail
        refine bodyPost_ret (v := .tuple #[.slice a3 n3 c3, .int .i64 ((16 + nl : Nat) : Int)]) (by simp [results, Try.results49, go_sem]) rfl ?_
        rw [HF.out]
        exact ⟨a3, n3, c3, rfl, HO3.out, HK3.out, HG3.out⟩
      · have t1I : ¬ ((ty : Int) = 1) := by omega
        have HF : Hid (oneR s b = ((ansR s ty dl).1, saidL ty (ansR s ty dl).2, 16 + nl)) := Lib.hid (by rw [oneR, if_neg hp0, ho, if_neg (by simp), if_neg (by simp), if_neg t1])
        have HC := Lib.hid (answer_any g s ty a1 n1 c1 dl w2 HK2.out HS.out HNM.out hn1' hcap.1 hcap.2 (OwnB.rd HO2.out))
        have HSM := Lib.hid (ans_small s ty dl HNM.out)
        generalize ansR s ty dl = ar at HF HC HSM
        obtain ⟨s', reps⟩ := ar
        simp only at HF HSM
        clear ho
        go_wp2_with fail
        refine HC.out.mono ?_
        rintro e w4 ⟨a4, n4, c4, L, rfl, hreps, hL, hk4, hg4⟩
        simp only at hL hk4
        have hlen : reps.length = n4 := by rw [← hL, rpL, List.length_map, hreps.len]
        have q0 : w4.cell? ⟨go, 0, none⟩ = some (.int .i64 (ty : Int)) := (World.cell?_of_block (a := ⟨go, 0, none⟩) (hg4.block go HGO.out.2 (fun e => by injection e with e; have := HGO.out.1; omega))).trans q0
        have HG4 := Lib.hid (grown_trans (sk_grown g HW.out) hg4)
        have HR4 := Lib.hid hreps
        have HK4 := Lib.hid hk4
        have HL := Lib.hid hL
        have HLEN := Lib.hid hlen
        have HZ4 : Hid (w2.heap.size ≤ w4.heap.size) := Lib.hid hg4.size
        have Q0 := Lib.hid q0
        have hn4 : n4 ≤ 3 := by rw [← hlen]; exact HSM.out.1
        clear hreps hL hk4 hg4 hlen HC q1 hcap hn1'
        go_wp2_with fail
        go_loopw [11, 73] (fun v vi wr => OneRel w4 ty reps v vi wr) (fun _ vi _ => n4 - (intOf vi).toNat)
        case atStart => exact ⟨0, Nat.zero_le _, rfl, OwnG.nil _ _ _ _, Below.refl _ _⟩
        case round =>
          clear q0
          obtain ⟨k, hk, rfl, hown, hbl⟩ := hrel
          obtain ⟨av, cv, rfl, hcv⟩ := OwnG.shape hown
          have HOV := Lib.hid hown
          have HBL := Lib.hid hbl
          clear hown hcv
          by_cases hlt : k < n4
          · have hI : (k : Int) < (n4 : Int) := by omega
            have k0 : (0 : Int) ≤ (k : Int) := Int.natCast_nonneg k
            have hkL : k < L.length := by rw [HR4.out.len]; exact hlt
            have hrw := HR4.out.below hbl
            have hget := rpCells_get L k hkL
            obtain ⟨b1, o1, rfl, hb1, p1⟩ := (OwnG.rd hrw.own).at _ _ hget.1
            obtain ⟨b2, o2, he, hb2, p2⟩ := (OwnG.rd hrw.own).at _ _ hget.2
            simp only [Option.some.injEq, Addr.mk.injEq, and_true] at he
            obtain ⟨rfl, rfl⟩ := he
            rw [← Nat.add_assoc] at p2
            have hdat := (hrw.data L[k] (List.getElem_mem _)).1
            have hkr : k < reps.length := by rw [HLEN.out]; exact hlt
            have hrk : reps[k] = ((L[k]).kind, (L[k]).data) := by
              have h := HL.out
              subst h
              simp [rpL]
            have HTK : Hid (saidL ty (reps.take (k + 1)) = saidL ty (reps.take k) ++ optionReplyL (ty : Int) ((L[k]).kind : Int) (L[k]).data) := Lib.hid (by
              rw [List.take_succ_eq_append_getElem hkr, saidL, saidL, List.flatMap_append, List.flatMap_singleton, hrk])
            have hsd : (L[k]).data.length ≤ 2000 := by
              have := HSM.out.2 reps[k] (List.getElem_mem _)
              rw [hrk] at this
              exact this
            generalize L[k] = y at p1 p2 hdat HTK hsd
            obtain ⟨kd, dd, ad, cd⟩ := y
            simp only at p1 p2 hdat HTK hsd
            have q0 : wr.cell? ⟨go, 0, none⟩ = some (.int .i64 (ty : Int)) := (hbl.cell (p := ⟨go, 0, none⟩) (by have := HGO.out.2; have := HZ4.out; show go < w4.heap.size; omega)).trans Q0.out
            have q0' : (wr.alloc (Obj.cells #[Value.int .i64 (kd : Int), Value.slice ad dd.length cd] 94)).cell? ⟨go, 0, none⟩ = some (.int .i64 (ty : Int)) := (World.cell?_alloc_lt wr _ ⟨go, 0, none⟩ (by have := HGO.out.2; have := HZ4.out; have := hbl.size; show go < wr.heap.size; omega)).trans q0
            have HB5 := Lib.hid (HBL.out.alloc HBL.out.size (Obj.cells #[Value.int .i64 (kd : Int), Value.slice ad dd.length cd] 94))
            have HO5 := Lib.hid (OwnG.alloc HOV.out (Obj.cells #[Value.int .i64 (kd : Int), Value.slice ad dd.length cd] 94))
            have HC := Lib.hid (optionReply_any (ty : Int) (kd : Int) ad dd.length cd dd (wr.alloc (Obj.cells #[Value.int .i64 (kd : Int), Value.slice ad dd.length cd] 94)) rfl (by omega) (OwnB.rd (OwnG.alloc hdat _)))
            have hfl := said_len ty (reps.take k) (fun p hp => HSM.out.2 p (List.mem_of_mem_take hp))
            have hlr := reply_len (ty : Int) (kd : Int) dd
            generalize optionReplyL (ty : Int) (kd : Int) dd = RB at HTK HC hlr
            have S1 : Hid ((saidL ty (reps.take k)).length + RB.length ≤ 140737488355328) := Lib.hid (by
              rw [List.length_take] at hfl
              omega)
            clear hkL hrw hget hb1 hb2 hdat hkr hrk hsd hfl hlr hbl
            go_wp2_with fail
            refine HC.out.mono ?_
            rintro e w6 ⟨a6, n6, c6, rfl, hown6, hb6⟩
            have hn6 := OwnB.len hown6
            subst hn6
            have HB6 := Lib.hid (HB5.out.trans (hb6.mono HB5.out.size))
            have HO6 := Lib.hid (OwnG.below HO5.out hb6 : OwnB w6 w4.heap.size _ _)
            have HR6 := Lib.hid (OwnB.rd hown6)
            clear hown6 hb6 HC
            go_wp2_with (at_builtin; refine wpList_app rfl _ _ rfl w4.heap.size _ _ rfl HO6.out w6.heap.size a6 RB.length c6 RB rfl rfl HR6.out S1.out HB6.out.size ?_)
            intro v7 w7 hown7 hgr7 hat7
            have hfin : OneRel w4 ty reps v7 (.int .i64 ((k : Int) + 1)) w7 := ⟨k + 1, by rw [HLEN.out]; omega, by go_num, by rw [HTK.out]; exact hown7, HB6.out.grown hgr7 HB6.out.size (fun z hz => (OwnG.lt HO6.out z hz).1)⟩
            obtain ⟨a7, c7, rfl, _⟩ := OwnG.shape hown7
            have HFIN := Lib.hid hfin
            clear hown7 hgr7 hat7 hfin
            go_wp2_with fail
            all_goals go_roundw
            all_goals first
              | (case measure => simp [intOf]; omega)
              | exact HFIN.out
          · have hI : ¬ ((k : Int) < (n4 : Int)) := by omega
            have hke : reps.take k = reps := List.take_of_length_le (by rw [HLEN.out]; omega)
            rw [hke] at HOV ⊢
            go_wp2_with fail
            refine bodyPost_ret (v := .tuple #[.slice av (saidL ty reps).length cv, .int .i64 ((16 + nl : Nat) : Int)]) (by simp [results, Try.results49, go_sem]) rfl ?_
            rw [HF.out]
            exact ⟨av, _, cv, rfl, OwnG.base_mono HOV.out (Nat.le_trans HW.out.size HZ4.out), Blk.below HK4.out HBL.out, grown_below HG4.out HBL.out⟩
end Go.Proofs.Ytnpcpbjoonjaoaa
