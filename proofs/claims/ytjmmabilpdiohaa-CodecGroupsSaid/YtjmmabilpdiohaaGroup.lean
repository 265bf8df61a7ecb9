/- codec.Group: the program's -/
import Derived.Test.YtjmmabilpdiohaaNumber
import Derived.Deep.RegionHeld3
namespace Go.Proofs.Ytjmmabilpdiohaa
set_option linter.unusedVariables false
set_option linter.unusedSimpArgs false
open Go.RowKit

def mayW (x : Int × Int × List UInt8) : Bool := decide (0 ≤ x.1 ∧ x.1 < 8 ∧ 0 ≤ x.2.1 ∧ x.2.1 < 2048 ∧ x.2.2.length = 64)
def wrL (x : Int × Int × List UInt8) : List UInt8 := UInt8.ofNat x.1.toNat :: (bytesOf x.2.1.toNat 4 ++ x.2.2)
def groupOk (ws : List (Int × Int × List UInt8)) : Bool := decide (ws.length ≤ 100) && ws.all mayW
def groupL (ws : List (Int × Int × List UInt8)) : List UInt8 := if groupOk ws then bytesOf ws.length 2 ++ ws.flatMap wrL else []
def groupE (ws : List (Int × Int × List UInt8)) : Int := if groupOk ws then 0 else 81

/-- A list of writes that can be read. -/
def WrsIn (w : World) (a : Option Addr) (ws : List (Int × Int × List UInt8)) : Prop :=
  ∀ i (h : i < ws.length), ∃ b off ad c, a = some ⟨b, off, none⟩ ∧ b < w.heap.size ∧ w.cell? ⟨b, off + i * 3, none⟩ = some (.int .i64 ws[i].1) ∧ w.cell? ⟨b, off + i * 3 + 1, none⟩ = some (.int .i64 ws[i].2.1) ∧
    w.cell? ⟨b, off + i * 3 + 2, none⟩ = some (.slice ad ws[i].2.2.length c) ∧ ws[i].2.2.length ≤ c ∧ c ≤ 9223372036854775807 ∧ Rd w w.heap.size ad (bs ws[i].2.2) ∧
    (-9223372036854775808 ≤ ws[i].1 ∧ ws[i].1 ≤ 9223372036854775807) ∧ (-9223372036854775808 ≤ ws[i].2.1 ∧ ws[i].2.1 ≤ 9223372036854775807)

theorem WrsIn.below {w w' : World} {a : Option Addr} {ws : List (Int × Int × List UInt8)} (h : WrsIn w a ws) (hb : Below w.heap.size w w') : WrsIn w' a ws := fun i hi => by
  obtain ⟨b, off, ad, c, h1, h2, h3, h4, h5, h6, h7, h8, h9, h10⟩ := h i hi
  have hs := hb.size
  exact ⟨b, off, ad, c, h1, by omega, (hb.cell (by exact h2)).trans h3, (hb.cell (by exact h2)).trans h4, (hb.cell (by exact h2)).trans h5, h6, h7, (h8.below hb).lt_size, h9, h10⟩

theorem may_any (d s : Int) (ad : Option Addr) (n c : Nat) (w : World) (hd : -9223372036854775808 ≤ d ∧ d ≤ 9223372036854775807) (hs : -9223372036854775808 ≤ s ∧ s ≤ 9223372036854775807) (dt : List UInt8) (hn : dt.length = n) :
    Calls Try.prog 32 #[.agg #[.int .i64 d, .int .i64 s, .slice ad n c]] w fun e w' => e = .returned (.bool (mayW (d, s, dt))) ∧ Below w.heap.size w w' := by
  have C1 := Lib.hid (fun W => fits_any d 1 8 W hd (by decide) (by decide))
  have C2 := Lib.hid (fun W => fits_any s 1 2048 W hs (by decide) (by decide))
  have HB := Lib.hid ((Below.refl w.heap.size w).alloc (Nat.le_refl _) (Obj.cells #[.int .i64 d, .int .i64 s, .slice ad n c] 47))
  have HV : Hid (mayW (d, s, dt) = (fitsB d 1 8 && fitsB s 1 2048 && ((n : Int) == 64))) := Lib.hid (by
    unfold mayW fitsB
    rw [Bool.eq_iff_iff]
    simp only [decide_eq_true_iff, Bool.and_eq_true, beq_iff_eq]
    omega)
  rw [HV.out]
  clear HV
  generalize fitsB d 1 8 = B1 at C1 ⊢
  generalize fitsB s 1 2048 = B2 at C2 ⊢
  clear hd hs
  cases B1
  · go_enter Try.func32, Try.ntmps32
    go_wp2_with fail
    refine (C1.out _).mono ?_
    rintro e w4 ⟨rfl, rfl⟩
    go_wp2_with fail
    go_ret
    exact ⟨by simp, HB.out⟩
  · cases B2
    · go_enter Try.func32, Try.ntmps32
      go_wp2_with fail
      refine (C1.out _).mono ?_
      rintro e w4 ⟨rfl, rfl⟩
      go_wp2_with fail
      refine (C2.out _).mono ?_
      rintro e w4 ⟨rfl, rfl⟩
      go_wp2_with fail
      go_ret
      exact ⟨by simp, HB.out⟩
    · go_enter Try.func32, Try.ntmps32
      go_wp2_with fail
      refine (C1.out _).mono ?_
      rintro e w4 ⟨rfl, rfl⟩
      go_wp2_with fail
      refine (C2.out _).mono ?_
      rintro e w4 ⟨rfl, rfl⟩
      go_wp2_with fail
      go_ret
      exact ⟨by simp, HB.out⟩


def GrpRel (ws : List (Int × Int × List UInt8)) (w : World) (v i : Value) (wr : World) : Prop :=
  ∃ k : Nat, k ≤ ws.length ∧ i = .int .i64 k ∧ OwnB wr w.heap.size v (bytesOf ws.length 2 ++ (ws.take k).flatMap wrL) ∧ (∃ a n c, v = .slice a n c) ∧ (ws.take k).all mayW = true ∧ Below w.heap.size w wr

theorem wrL_length {x : Int × Int × List UInt8} (h : mayW x = true) : (wrL x).length = 69 := by
  have := of_decide_eq_true h
  simp [wrL, bytesOf_length, this.2.2.2.2]

theorem flat69 (ws : List (Int × Int × List UInt8)) (h : ws.all mayW = true) : (ws.flatMap wrL).length = 69 * ws.length := by
  induction ws with
  | nil => rfl
  | cons x ws ih =>
    simp only [List.all_cons, Bool.and_eq_true] at h
    simp only [List.flatMap_cons, List.length_append, wrL_length h.1, ih h.2, List.length_cons]
    omega

theorem all_take_succ {ws : List (Int × Int × List UInt8)} {k : Nat} (h : k < ws.length) : (ws.take (k + 1)).all mayW = ((ws.take k).all mayW && mayW ws[k]) := by
  rw [List.take_succ_eq_append_getElem h, List.all_append]; simp

theorem all_of_take {ws : List (Int × Int × List UInt8)} {k : Nat} (h : k < ws.length) (hm : mayW ws[k] = false) : ws.all mayW = false := by
  rw [List.all_eq_false]
  exact ⟨ws[k], List.getElem_mem _, by simp [hm]⟩

set_option maxRecDepth 100000 in
set_option maxHeartbeats 1000000 in
theorem group_any (al : Option Addr) (n cl : Nat) (ws : List (Int × Int × List UInt8)) (w : World) (hn : ws.length = n) (hr : WrsIn w al ws) :
    Calls Try.prog 19 #[.slice al n cl] w (Made2 (groupL ws) (groupE ws) w) := by
  subst hn
  have HR := Lib.hid hr
  clear hr
  by_cases h100 : 100 < ws.length
  · have hz : groupOk ws = false := by unfold groupOk; rw [decide_eq_false (by omega)]; rfl
    have h100' : (100 : Int) < (ws.length : Int) := by omega
    rw [groupL, groupE, hz]
    clear hz HR
    go_enter Try.func19, Try.ntmps19
    go_wp2_with fail
    go_ret2
    exact ⟨_, _, _, rfl, OwnB.nil _ _, Below.refl _ _⟩
  · have h100' : ¬ (100 : Int) < (ws.length : Int) := by omega
    have hw : IntKind.u64.wrap (ws.length : Int) = (ws.length : Int) := by rw [IntKind.wrap_u64]; omega
    have CP := Lib.hid (put_good ws.length 2 w (by decide) (by decide) (by omega))
    have HN := Lib.hid h100
    have hnb : ws.length ≤ 100 := by omega
    go_enter Try.func19, Try.ntmps19
    go_wp2_with fail
    refine CP.out.mono ?_
    rintro e w1 ⟨rfl, hown1, hb1⟩
    have HO1 := Lib.hid hown1
    have HB1 := Lib.hid hb1
    clear hown1 hb1 CP hw
    go_wp2_with fail
    go_loopw [4, 22] (fun v i wr => GrpRel ws w v i wr) (fun _ i _ => ws.length - (intOf i).toNat)
    case atStart => exact ⟨0, Nat.zero_le _, rfl, by simpa using HO1.out, ⟨_, _, _, rfl⟩, rfl, HB1.out⟩
    case round =>
      clear HO1 HB1
      obtain ⟨k, hk, rfl, hown, ⟨a, n, c, rfl⟩, hall, hbl⟩ := hrel
      have HO := Lib.hid hown
      have HB := Lib.hid hbl
      have hba := hbl.size
      have HA := Lib.hid hall
      clear hown hbl hall
      by_cases hlt : k < ws.length
      · obtain ⟨b, off, ad, cd, rfl, hb, p1, p2, p3, hcd1, hcd2, hrd, hri1, hri2⟩ := HR.out k hlt
        replace p1 := (HB.out.cell (by exact hb)).trans p1
        replace p2 := (HB.out.cell (by exact hb)).trans p2
        replace p3 := (HB.out.cell (by exact hb)).trans p3
        have hbz := HB.out.size
        have HOold := HO
        have HT1 := Lib.hid (all_take_succ hlt)
        have HT2 := Lib.hid (fun hm => all_of_take (ws := ws) hlt hm)
        have HTK := Lib.hid (List.take_succ_eq_append_getElem hlt)
        have HFL := Lib.hid (flat69 (ws.take k) HA.out)
        generalize ws[k] = x at *
        obtain ⟨d, s, dt⟩ := x
        simp only at p1 p2 p3 hcd1 hrd hri1 hri2
        have HRD := Lib.hid hrd
        have CM := Lib.hid (fun W => may_any d s ad dt.length cd W hri1 hri2 dt rfl)
        clear hrd hri1 hri2
        have hlti : (k : Int) < (ws.length : Int) := by omega
        go_wp2_with fail
        have q0 : (wr.alloc (Obj.cells #[Value.int IntKind.i64 d, Value.int IntKind.i64 s, Value.slice ad dt.length cd] 47)).cell? ⟨wr.heap.size, 0, none⟩ = some (.int .i64 d) := by go_simp
        have q1 : (wr.alloc (Obj.cells #[Value.int IntKind.i64 d, Value.int IntKind.i64 s, Value.slice ad dt.length cd] 47)).cell? ⟨wr.heap.size, 1, none⟩ = some (.int .i64 s) := by go_simp
        have q2 : (wr.alloc (Obj.cells #[Value.int IntKind.i64 d, Value.int IntKind.i64 s, Value.slice ad dt.length cd] 47)).cell? ⟨wr.heap.size, 2, none⟩ = some (.slice ad dt.length cd) := by go_simp
        have HBW := Lib.hid ((Below.refl wr.heap.size wr).alloc (Nat.le_refl _) (Obj.cells #[Value.int IntKind.i64 d, Value.int IntKind.i64 s, Value.slice ad dt.length cd] 47))
        have hWs : wr.heap.size < (wr.alloc (Obj.cells #[Value.int IntKind.i64 d, Value.int IntKind.i64 s, Value.slice ad dt.length cd] 47)).heap.size := by simp
        generalize wr.alloc (Obj.cells #[Value.int IntKind.i64 d, Value.int IntKind.i64 s, Value.slice ad dt.length cd] 47) = W at q0 q1 q2 HBW hWs ⊢
        refine (CM.out _).mono ?_
        rintro e w2 ⟨rfl, hb2⟩
        have HB2 := Lib.hid (HB.out.trans (((HBW.out.trans (hb2.mono (Nat.le_of_lt hWs))).mono hba)))
        have Q0 := Lib.hid ((hb2.cell (by exact hWs)).trans q0)
        have Q1 := Lib.hid ((hb2.cell (by exact hWs)).trans q1)
        have Q2 := Lib.hid ((hb2.cell (by exact hWs)).trans q2)
        have hbx : Below wr.heap.size wr w2 := HBW.out.trans (hb2.mono (Nat.le_of_lt hWs))
        have HO := Lib.hid (HO.out.below hbx)
        have hlt2 : wr.heap.size < w2.heap.size := Nat.lt_of_lt_of_le hWs hb2.size
        have HOB := Lib.hid (fun g (hg : (Value.slice a n c).ownBlock = some g) => (HOold.out.lt g hg).2)
        clear q0 q1 q2 hb2 hbx HBW CM
        cases hmay : mayW (d, s, dt) with
        | false =>
          have hz : groupOk ws = false := by unfold groupOk; rw [HT2.out hmay]; simp
          have HZ := Lib.hid hz
          clear hz hmay
          go_wp2_with fail
          go_ret2
          rw [groupL, groupE, HZ.out]
          exact ⟨_, _, _, rfl, OwnB.nil _ _, HB2.out⟩
        | true =>
          have hm := of_decide_eq_true hmay
          simp only at hm
          have HM := Lib.hid hmay
          clear hmay
          obtain ⟨hd0, hd8, hs0, hs2, h64⟩ := hm
          obtain ⟨dn, rfl⟩ : ∃ k : Nat, (k : Int) = d := ⟨d.toNat, by omega⟩
          obtain ⟨sn, rfl⟩ : ∃ k : Nat, (k : Int) = s := ⟨s.toNat, by omega⟩
          have hws : IntKind.u64.wrap (sn : Int) = (sn : Int) := by rw [IntKind.wrap_u64]; omega
          have hwd : IntKind.u8.wrap (dn : Int) = (dn : Int) := IntWalk.u8_in _ (by omega)
          have CP := Lib.hid (fun W => put_good sn 4 W (by decide) (by decide) (by omega))
          have k1 := Q1.out
          go_wp2_with fail
          clear k1
          refine (CP.out _).mono ?_
          rintro e w3 ⟨rfl, hown3, hb3⟩
          have HB3 := Lib.hid (HB2.out.trans (hb3.mono HB2.out.size))
          have q0 := (hb3.cell (by exact hlt2)).trans Q0.out
          have q2 := (hb3.cell (by exact hlt2)).trans Q2.out
          have HO3 := Lib.hid (HO.out.below hb3)
          have h2lt3 : w2.heap.size < w3.heap.size := (hown3.lt w2.heap.size rfl).2
          have HS3 := Lib.hid (OwnB.rd hown3)
          have HPRE : Hid ((bytesOf ws.length 2 ++ List.flatMap wrL (List.take k ws)).length ≤ 7000) := Lib.hid (by
            have h1 := HFL.out
            rw [List.length_append, bytesOf_length, h1, List.length_take]
            omega)
          clear hb3 hown3 CP Q0 Q1 Q2 HO HB2 p1 p2 p3 hWs
          go_wp2_with fail
          obtain ⟨PRE, hPRE⟩ : ∃ P, P = bytesOf ws.length 2 ++ List.flatMap wrL (List.take k ws) := ⟨_, rfl⟩
          rw [← hPRE] at HO3 HPRE
          have HPR := Lib.hid hPRE
          clear hPRE
          have h8 : (bs [UInt8.ofNat dn]).toArray = #[Value.int IntKind.u8 (dn : Int)] := by
            have : dn % 256 = dn := by omega
            simp [bs, B, UInt8.toNat_ofNat', this]
          have L1 : OwnB ((w3.alloc (Obj.cells #[Value.int IntKind.u8 (dn : Int)] 5)).drew) w.heap.size (.slice a n c) PRE := OwnB.drew (HO3.out.alloc _)
          have R1 : Rd ((w3.alloc (Obj.cells #[Value.int IntKind.u8 (dn : Int)] 5)).drew) (w3.heap.size + 1) (some ⟨w3.heap.size, 0, none⟩) (bs [UInt8.ofNat dn]) := by
            rw [← h8]; exact Rd.drew (Rd.new w3 _ _)
          have S1 : PRE.length + 1 ≤ 140737488355328 := by have := HPRE.out; omega
          have N1 : w.heap.size ≤ ((w3.alloc (Obj.cells #[Value.int IntKind.u8 (dn : Int)] 5)).drew).heap.size := by have := HB3.out.size; simp; omega
          have HB4 : Below w.heap.size w ((w3.alloc (Obj.cells #[Value.int IntKind.u8 (dn : Int)] 5)).drew) := (HB3.out.alloc HB3.out.size _).drew
          have hx3 : wr.heap.size < w3.heap.size := by omega
          have hne : ∀ g, wr.heap.size ≤ g → some g ≠ (Value.slice a n c).ownBlock := fun g hg he => by
            have := HOB.out g he.symm; omega
          have K4 : ∀ v4 w4, OwnB w4 w.heap.size v4 (PRE ++ [UInt8.ofNat dn]) → ((w3.alloc (Obj.cells #[Value.int IntKind.u8 (dn : Int)] 5)).drew).grownBy w4 (Value.slice a n c).ownBlock → (v4.ownBlock = (Value.slice a n c).ownBlock ∨ v4.ownBlock = some ((w3.alloc (Obj.cells #[Value.int IntKind.u8 (dn : Int)] 5)).drew).heap.size) →
              w4.cell? ⟨wr.heap.size, 0, none⟩ = some (.int .i64 (dn : Int)) ∧ w4.cell? ⟨wr.heap.size, 2, none⟩ = some (.slice ad dt.length cd) ∧ Rd w4 w3.heap.size (some ⟨w2.heap.size, 0, none⟩) (bs (bytesOf sn 4)) ∧ Below w.heap.size w w4 ∧
              (∀ g, wr.heap.size ≤ g → g < w3.heap.size → some g ≠ v4.ownBlock) ∧ w3.heap.size ≤ w4.heap.size := fun v4 w4 h1 h2 h3 => by
            have hz := h2.size
            simp at hz
            refine ⟨h2.cell ((World.cell?_alloc_lt w3 _ _ (by exact hx3)).trans q0) (hne _ (Nat.le_refl _)), h2.cell ((World.cell?_alloc_lt w3 _ _ (by exact hx3)).trans q2) (hne _ (Nat.le_refl _)), ?_, below_app HB4 L1 (Nat.le_refl _) h2, ?_, by omega⟩
            · exact Rd.off (Rd.drew (HS3.out.alloc (Nat.le_refl _) _)) h2 (by simp; omega) (hne _ (by omega))
            · intro g hg1 hg2 he
              rcases h3 with h3 | h3
              · exact hne g hg1 (he.trans h3)
              · rw [h3] at he; simp at he; omega
          have K5 : ∀ (L : List UInt8) (v4 : Value) (w4 : World) (v5 : Value) (w5 : World), OwnB w4 w.heap.size v4 L → Below w.heap.size w w4 → w3.heap.size ≤ w4.heap.size → (∀ g, wr.heap.size ≤ g → g < w3.heap.size → some g ≠ v4.ownBlock) →
              w4.cell? ⟨wr.heap.size, 0, none⟩ = some (.int .i64 (dn : Int)) → w4.cell? ⟨wr.heap.size, 2, none⟩ = some (.slice ad dt.length cd) → w4.grownBy w5 v4.ownBlock → (v5.ownBlock = v4.ownBlock ∨ v5.ownBlock = some w4.heap.size) →
              w5.cell? ⟨wr.heap.size, 0, none⟩ = some (.int .i64 (dn : Int)) ∧ w5.cell? ⟨wr.heap.size, 2, none⟩ = some (.slice ad dt.length cd) ∧ Below w.heap.size w w5 ∧ (∀ g, wr.heap.size ≤ g → g < w3.heap.size → some g ≠ v5.ownBlock) ∧ w3.heap.size ≤ w5.heap.size :=
            fun L v4 w4 v5 w5 h1 h2 h3 h4 c0 c2 h5 h6 => by
            have hz := h5.size
            refine ⟨h5.cell c0 (h4 _ (Nat.le_refl _) hx3), h5.cell c2 (h4 _ (Nat.le_refl _) hx3), below_app h2 h1 (Nat.le_refl _) h5, ?_, by omega⟩
            intro g hg1 hg2 he
            rcases h6 with h6 | h6
            · exact h4 g hg1 hg2 (he.trans h6)
            · rw [h6] at he; simp at he; omega
          have S2 : (PRE ++ [UInt8.ofNat dn]).length + 4 ≤ 140737488355328 := by have := HPRE.out; simp; omega
          have S3 : (PRE ++ [UInt8.ofNat dn] ++ bytesOf sn 4).length + 64 ≤ 140737488355328 := by have := HPRE.out; simp [bytesOf_length]; omega
          have HB3s := HB3.out.size
          go_region_held3 (fun w' => w'.cell? ⟨wr.heap.size, 0, none⟩ = some (.int .i64 (dn : Int)) ∧ w'.cell? ⟨wr.heap.size, 2, none⟩ = some (.slice ad dt.length cd))
            (first
              | go_keep
              | exact ⟨c60, c62⟩
              | exact ⟨c50, c52⟩
              | exact ⟨c40, c42⟩)
            (first
              | (refine step_app (by rfl) (.tmp 36) (.tmp 40) (by rfl) w.heap.size _ PRE (by rfl) L1 (w3.heap.size + 1) (some ⟨w3.heap.size, 0, none⟩) 1 1 [UInt8.ofNat dn] (by rfl) rfl R1 S1 N1 ?_; intro v4 w4 hown4 hgr4 hat4; obtain ⟨c40, c42, hrd4, hB4, hne4, hz4⟩ := K4 v4 w4 hown4 hgr4 hat4)
              | (refine step_app (by rfl) (.tmp 41) (.tmp 42) (by rfl) w.heap.size _ _ (by rfl) hown4 w3.heap.size (some ⟨w2.heap.size, 0, none⟩) 4 4 (bytesOf sn 4) (by rfl) (bytesOf_length _ _) hrd4 S2 (Nat.le_trans HB3s hz4) ?_; intro v5 w5 hown5 hgr5 hat5; obtain ⟨c50, c52, hB5, hne5, hz5⟩ := K5 _ v4 w4 v5 w5 hown4 hB4 hz4 hne4 c40 c42 hgr5 hat5)
              | (refine step_app (by rfl) (.tmp 43) (.tmp 45) (by rfl) w.heap.size _ _ (by rfl) hown5 w.heap.size ad 64 cd dt (by rfl) h64 (HRD.out.below hB5) S3 (Nat.le_trans HB3s hz5) ?_; intro v6 w6 hown6 hgr6 hat6; obtain ⟨c60, c62, hB6, hne6, hz6⟩ := K5 _ v5 w5 v6 w6 hown5 hB5 hz5 hne5 c50 c52 hgr6 hat6))
          obtain ⟨a6, c6, hv6, _⟩ := hown6.shape
          have HO6 := Lib.hid hown6
          have HB6 := Lib.hid hB6
          have HV6 := Lib.hid hv6
          clear hown6 hB6 hv6 hgr6 hat6 hne6 hown5 hown4 hgr5 hgr4 hat5 hat4 hne5 hne4 K4 K5 hne
          go_wp2_with fail
          go_roundw
          case rel =>
            refine ⟨k + 1, by omega, by go_num, ?_, ⟨_, _, _, HV6.out⟩, ?_, HB6.out⟩
            · rw [HTK.out]
              have := HO6.out
              rw [HPR.out] at this
              simpa [wrL, List.append_assoc] using this
            · rw [HT1.out, HA.out, HM.out]; rfl
          case measure => simp [intOf]; omega
      · have hk' : k = ws.length := by omega
        subst hk'
        have hz : groupOk ws = true := by
          have := HA.out
          rw [List.take_length] at this
          unfold groupOk; rw [this, decide_eq_true hnb]; rfl
        have HZ := Lib.hid hz
        have HT := Lib.hid (List.take_length (l := ws))
        clear hz HA
        go_wp2_with fail
        go_ret2
        rw [groupL, groupE, HZ.out]
        refine ⟨_, _, _, rfl, ?_, HB.out⟩
        have := HO.out
        rw [HT.out] at this
        exact this
end Go.Proofs.Ytjmmabilpdiohaa
