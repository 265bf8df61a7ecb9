/- codec.Group: the reference's -/
import Derived.Test.YtjmmabilpdiohaaGroup
namespace Go.Proofs.Ytjmmabilpdiohaa
set_option linter.unusedVariables false
set_option linter.unusedSimpArgs false
open Go.RowKit

set_option maxRecDepth 100000 in
set_option maxHeartbeats 1000000 in
theorem rgroup_any (al : Option Addr) (n cl : Nat) (ws : List (Int × Int × List UInt8)) (w : World) (hn : ws.length = n) (hr : WrsIn w al ws) :
    Calls Try.prog 20 #[.slice al n cl] w (Made2 (groupL ws) (groupE ws) w) := by
  subst hn
  have HR := Lib.hid hr
  clear hr
  by_cases h100 : 100 < ws.length
  · have hz : groupOk ws = false := by unfold groupOk; rw [decide_eq_false (by omega)]; rfl
    have h100' : (100 : Int) < (ws.length : Int) := by omega
    rw [groupL, groupE, hz]
    clear hz HR
    go_enter Try.func20, Try.ntmps20
    go_wp2_with fail
    go_ret2
    exact ⟨_, _, _, rfl, OwnB.nil _ _, Below.refl _ _⟩
  · have h100' : ¬ (100 : Int) < (ws.length : Int) := by omega
    have hw : IntKind.u64.wrap (ws.length : Int) = (ws.length : Int) := by rw [IntKind.wrap_u64]; omega
    have CP := Lib.hid (bytes_good ws.length 2 w (by decide) (by decide) (by omega))
    have HN := Lib.hid h100
    have hnb : ws.length ≤ 100 := by omega
    go_enter Try.func20, Try.ntmps20
    go_wp2_with fail
    refine CP.out.mono ?_
    rintro e w1 ⟨rfl, hown1, hb1⟩
    have HO1 := Lib.hid hown1
    have HB1 := Lib.hid hb1
    clear hown1 hb1 CP hw
    go_wp2_with fail
    go_loopw [4, 5] (fun v i wr => GrpRel ws w v i wr) (fun _ i _ => ws.length - (intOf i).toNat)
    case atStart => exact ⟨0, Nat.zero_le _, rfl, by simpa using HO1.out, ⟨_, _, _, rfl⟩, rfl, HB1.out⟩
    case round =>
      clear HO1 HB1
      obtain ⟨k, hk, rfl, hown, ⟨a, n, c, rfl⟩, hall, hbl⟩ := hrel
      have HO := Lib.hid hown
      have HB := Lib.hid hbl
      have hba := hbl.size
      have HA := Lib.hid hall
      clear hown hbl hall
      by_cases hlt : k < ws.length
      · obtain ⟨b, off, ad, cd, rfl, hb, p1, p2, p3, hcd1, hcd2, hrd, hri1, hri2⟩ := HR.out k hlt
        replace p1 := (HB.out.cell (by exact hb)).trans p1
        replace p2 := (HB.out.cell (by exact hb)).trans p2
        replace p3 := (HB.out.cell (by exact hb)).trans p3
        have hbz := HB.out.size
        have HOold := HO
        have HT1 := Lib.hid (all_take_succ hlt)
        have HT2 := Lib.hid (fun hm => all_of_take (ws := ws) hlt hm)
        have HTK := Lib.hid (List.take_succ_eq_append_getElem hlt)
        have HFL := Lib.hid (flat69 (ws.take k) HA.out)
        generalize ws[k] = x at *
        obtain ⟨d, s, dt⟩ := x
        simp only at p1 p2 p3 hcd1 hrd hri1 hri2
        have HRD := Lib.hid hrd
        clear hrd hri1 hri2
        have hlti : (k : Int) < (ws.length : Int) := by omega
        go_upto_region 8 with (fail)
        have q0 : (wr.alloc (Obj.cells #[Value.int IntKind.i64 d, Value.int IntKind.i64 s, Value.slice ad dt.length cd] 47)).cell? ⟨wr.heap.size, 0, none⟩ = some (.int .i64 d) := by go_simp
        have q1 : (wr.alloc (Obj.cells #[Value.int IntKind.i64 d, Value.int IntKind.i64 s, Value.slice ad dt.length cd] 47)).cell? ⟨wr.heap.size, 1, none⟩ = some (.int .i64 s) := by go_simp
        have q2 : (wr.alloc (Obj.cells #[Value.int IntKind.i64 d, Value.int IntKind.i64 s, Value.slice ad dt.length cd] 47)).cell? ⟨wr.heap.size, 2, none⟩ = some (.slice ad dt.length cd) := by go_simp
        have HBW := Lib.hid ((Below.refl wr.heap.size wr).alloc (Nat.le_refl _) (Obj.cells #[Value.int IntKind.i64 d, Value.int IntKind.i64 s, Value.slice ad dt.length cd] 47))
        have hWs : wr.heap.size < (wr.alloc (Obj.cells #[Value.int IntKind.i64 d, Value.int IntKind.i64 s, Value.slice ad dt.length cd] 47)).heap.size := by simp
        generalize wr.alloc (Obj.cells #[Value.int IntKind.i64 d, Value.int IntKind.i64 s, Value.slice ad dt.length cd] 47) = W at q0 q1 q2 HBW hWs ⊢
        have HO := Lib.hid (HO.out.below HBW.out)
        have HBB := Lib.hid (HB.out.trans (HBW.out.mono hba))
        have HOB := Lib.hid (fun g (hg : (Value.slice a n c).ownBlock = some g) => (HOold.out.lt g hg).2)
        clear p1 p2 p3
        cases hmay : mayW (d, s, dt) with
        | false =>
          have hz : groupOk ws = false := by unfold groupOk; rw [HT2.out hmay]; simp
          have HZ := Lib.hid hz
          have hno := of_decide_eq_false hmay
          simp only at hno
          have hcase : d < 0 ∨ (0 ≤ d ∧ 8 ≤ d) ∨ (0 ≤ d ∧ d < 8 ∧ s < 0) ∨ (0 ≤ d ∧ d < 8 ∧ 0 ≤ s ∧ 2048 ≤ s) ∨ (0 ≤ d ∧ d < 8 ∧ 0 ≤ s ∧ s < 2048 ∧ ¬ (dt.length : Int) = 64) := by omega
          clear hz hmay hno
          rcases hcase with h1 | ⟨h1, h2⟩ | ⟨h1, h2, h3⟩ | ⟨h1, h2, h3, h4⟩ | ⟨h1, h2, h3, h4, h5⟩
          all_goals
            (try have h6 : ((dt.length : Int) != 64) = true := by simpa using h5)
            (try clear h5)
            go_wp2_with fail
            go_ret2
            rw [groupL, groupE, HZ.out]
            exact ⟨_, _, _, rfl, OwnB.nil _ _, HBB.out⟩
        | true =>
          have hm := of_decide_eq_true hmay
          simp only at hm
          have HM := Lib.hid hmay
          clear hmay
          obtain ⟨hd0, hd8, hs0, hs2, h64⟩ := hm
          obtain ⟨dn, rfl⟩ : ∃ k : Nat, (k : Int) = d := ⟨d.toNat, by omega⟩
          obtain ⟨sn, rfl⟩ : ∃ k : Nat, (k : Int) = s := ⟨s.toNat, by omega⟩
          have h64i : (dt.length : Int) = 64 := by omega
          have hws : IntKind.u64.wrap (sn : Int) = (sn : Int) := by rw [IntKind.wrap_u64]; omega
          have hwd : IntKind.u8.wrap (dn : Int) = (dn : Int) := IntWalk.u8_in _ (by omega)
          have CP := Lib.hid (fun W => bytes_good sn 4 W (by decide) (by decide) (by omega))
          go_upto_region 10 with (fail)
          have HPRE : Hid ((bytesOf ws.length 2 ++ List.flatMap wrL (List.take k ws)).length ≤ 7000) := Lib.hid (by
            have h1 := HFL.out
            rw [List.length_append, bytesOf_length, h1, List.length_take]
            omega)
          obtain ⟨PRE, hPRE⟩ : ∃ P, P = bytesOf ws.length 2 ++ List.flatMap wrL (List.take k ws) := ⟨_, rfl⟩
          rw [← hPRE] at HO HPRE
          have HPR := Lib.hid hPRE
          clear hPRE
          have h8 : (bs [UInt8.ofNat dn]).toArray = #[Value.int IntKind.u8 (dn : Int)] := by
            have : dn % 256 = dn := by omega
            simp [bs, B, UInt8.toNat_ofNat', this]
          have L1 := Lib.hid (HO.out.alloc (Obj.cells #[Value.int IntKind.u8 (dn : Int)] 5))
          have R1 : Hid (Rd (W.alloc (Obj.cells #[Value.int IntKind.u8 (dn : Int)] 5)) (W.heap.size + 1) (some ⟨W.heap.size, 0, none⟩) (bs [UInt8.ofNat dn])) := Lib.hid (by
            rw [← h8]; exact Rd.new W _ _)
          clear h8
          have HB4 := Lib.hid (HBB.out.alloc HBB.out.size (Obj.cells #[Value.int IntKind.u8 (dn : Int)] 5))
          have Q1 := Lib.hid ((World.cell?_alloc_lt W (Obj.cells #[Value.int IntKind.u8 (dn : Int)] 5) ⟨wr.heap.size, 1, none⟩ (by exact hWs)).trans q1)
          have Q2 := Lib.hid ((World.cell?_alloc_lt W (Obj.cells #[Value.int IntKind.u8 (dn : Int)] 5) ⟨wr.heap.size, 2, none⟩ (by exact hWs)).trans q2)
          have hne : some wr.heap.size ≠ (Value.slice a n c).ownBlock := fun he => by
            have := HOB.out _ he.symm; omega
          have HNE := Lib.hid hne
          clear hne q1 q2
          go_wp2_with (at_builtin; refine wpList_app rfl _ _ rfl w.heap.size _ PRE rfl L1.out (W.heap.size + 1) _ 1 1 [UInt8.ofNat dn] rfl rfl R1.out (by have := HPRE.out; omega) HB4.out.size ?_)
          intro v4 w4 hown4 hgr4 hat4
          obtain ⟨L4, hL4⟩ : ∃ L, L = PRE ++ [UInt8.ofNat dn] := ⟨_, rfl⟩
          rw [← hL4] at hown4
          have HL4 := Lib.hid hL4
          clear hL4
          obtain ⟨a4, c4, hv4, _⟩ := hown4.shape
          have hb4 := below_app HB4.out L1.out (Nat.le_refl _) hgr4
          have q1 := hgr4.cell Q1.out HNE.out
          have q2 := hgr4.cell Q2.out HNE.out
          have hne4 : some wr.heap.size ≠ v4.ownBlock := fun he => by
            rcases hat4 with h | h
            · exact HNE.out (he.trans h)
            · rw [h] at he; simp at he; omega
          have hz4 : wr.heap.size < w4.heap.size := by have := hgr4.size; simp at this; omega
          subst hv4
          have HO4 := Lib.hid hown4
          have HB4 := Lib.hid hb4
          have HNE4 := Lib.hid hne4
          have HQ2 := Lib.hid q2
          clear hown4 hgr4 hat4 hb4 hne4 HNE Q1 Q2 L1 R1 q2
          go_wp2_with fail
          refine (CP.out _).mono ?_
          rintro e w5 ⟨rfl, hown5, hb5⟩
          have HR5 := Lib.hid (OwnB.rd hown5)
          have HO4 := Lib.hid (HO4.out.below hb5)
          have HB5 := Lib.hid (HB4.out.trans (hb5.mono HB4.out.size))
          have q2 := (hb5.cell (by exact hz4)).trans HQ2.out
          have hz5 : wr.heap.size < w5.heap.size := Nat.lt_of_lt_of_le hz4 hb5.size
          clear hown5 hb5 HB4 HQ2 q1 CP
          have hlen4 : Hid (L4.length + 4 ≤ 140737488355328) := Lib.hid (by have := HPRE.out; rw [HL4.out]; simp; omega)
          go_wp2_with (at_builtin; refine wpList_app rfl _ _ rfl w.heap.size _ _ rfl HO4.out w5.heap.size _ 4 4 (bytesOf sn 4) rfl (bytesOf_length _ _) HR5.out hlen4.out HB5.out.size ?_)
          intro v6 w6 hown6 hgr6 hat6
          obtain ⟨L6, hL6⟩ : ∃ L, L = L4 ++ bytesOf sn 4 := ⟨_, rfl⟩
          rw [← hL6] at hown6
          have HL6 := Lib.hid hL6
          clear hL6
          obtain ⟨a6, c6, hv6, _⟩ := hown6.shape
          have hb6 := below_app HB5.out HO4.out (Nat.le_refl _) hgr6
          have q2 := hgr6.cell q2 HNE4.out
          have hz6 : wr.heap.size < w6.heap.size := by have := hgr6.size; omega
          subst hv6
          have HO6 := Lib.hid hown6
          have HB6 := Lib.hid hb6
          clear hown6 hgr6 hat6 hb6 HO4 HR5 hlen4
          have hlen6 : Hid (L6.length + 64 ≤ 140737488355328) := Lib.hid (by have := HPRE.out; rw [HL6.out, HL4.out]; simp [bytesOf_length]; omega)
          go_wp2_with (at_builtin; refine wpList_app rfl _ _ rfl w.heap.size _ _ rfl HO6.out w.heap.size _ _ _ dt rfl (by first | rfl | exact h64) (HRD.out.below HB6.out) (by have := hlen6.out; first | exact this | (rw [h64]; exact this)) HB6.out.size ?_)
          intro v7 w7 hown7 hgr7 hat7
          obtain ⟨a7, c7, hv7, _⟩ := hown7.shape
          have hb7 := below_app HB6.out HO6.out (Nat.le_refl _) hgr7
          have HO7 := Lib.hid hown7
          have HB7 := Lib.hid hb7
          have HV7 := Lib.hid hv7
          clear hown7 hgr7 hat7 hb7 hv7 HO6 hlen6
          go_wp2_with fail
          go_roundw
          case rel =>
            refine ⟨k + 1, by omega, by go_num, ?_, ⟨_, _, _, HV7.out⟩, ?_, HB7.out⟩
            · rw [HTK.out]
              have := HO7.out
              rw [HL6.out, HL4.out, HPR.out] at this
              simpa [wrL, List.append_assoc] using this
            · rw [HT1.out, HA.out, HM.out]; rfl
          case measure => simp [intOf]; omega
      · have hk' : k = ws.length := by omega
        subst hk'
        have hz : groupOk ws = true := by
          have := HA.out
          rw [List.take_length] at this
          unfold groupOk; rw [this, decide_eq_true hnb]; rfl
        have HZ := Lib.hid hz
        have HT := Lib.hid (List.take_length (l := ws))
        clear hz HA
        go_wp2_with fail
        go_ret2
        rw [groupL, groupE, HZ.out]
        refine ⟨_, _, _, rfl, ?_, HB.out⟩
        have := HO.out
        rw [HT.out] at this
        exact this
end Go.Proofs.Ytjmmabilpdiohaa
