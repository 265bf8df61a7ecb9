/- WireBits: the walk -/
import Derived.Test.YtnpcpbjoonjaoaaBits
namespace Go.Proofs.Ytnpcpbjoonjaoaa
set_option linter.unusedVariables false
set_option linter.unusedSimpArgs false
open Go.RowKit

set_option maxRecDepth 100000 in
set_option maxHeartbeats 8000000 in
theorem law_WireBits (a0 : Option Addr) (n0 c0 : Nat) (b : List UInt8) (a1 : Option Addr) (n1 c1 : Nat) (m : List UInt8) (cut : Int) (w : World) (h0 : BytesIn w a0 n0 c0 b) (h1 : BytesIn w a1 n1 c1 m) (hcut : (Lit.int .i64 cut).wf = true) :
    Calls Try.prog 4 #[.slice a0 n0 c0, .slice a1 n1 c1, .int .i64 cut] w fun e w' => e = .returned (.bool true) ∧ Below w.heap.size w w' := by
  have hb0 := h0.len_eq
  subst hb0
  have hb1 := h1.len_eq
  subst hb1
  have hcb := bounds_i64 hcut
  have hc0 := h0.le_cap
  have hs0 := h0.small
  have hc1 := h1.le_cap
  have HR0 := Lib.hid h0.rd
  have HR1 := Lib.hid h1.rd
  have HBw := Lib.hid (Below.refl w.heap.size w)
  clear h0 h1 hcut
  by_cases hl0 : 4000 < b.length
  · have hl0' : decide ((4000 : Int) < (b.length : Int)) = true := decide_eq_true (by omega)
    go_enter Try.func4, Try.ntmps4
    go_wp2_with fail
    refine (walive_any _).mono ?_
    rintro e wz ⟨rfl, hbz⟩
    have HBZ := Lib.hid (HBw.out.trans (hbz.mono HBw.out.size))
    clear hbz
    go_wp2_with fail
    go_ret
    exact ⟨rfl, HBZ.out⟩
  · have hl0' : decide ((4000 : Int) < (b.length : Int)) = false := decide_eq_false (by omega)
    by_cases hl1 : 4000 < m.length
    · have hl1' : decide ((4000 : Int) < (m.length : Int)) = true := decide_eq_true (by omega)
      go_enter Try.func4, Try.ntmps4
      go_wp2_with fail
      refine (walive_any _).mono ?_
      rintro e wz ⟨rfl, hbz⟩
      have HBZ := Lib.hid (HBw.out.trans (hbz.mono HBw.out.size))
      clear hbz
      go_wp2_with fail
      go_ret
      exact ⟨rfl, HBZ.out⟩
    · have hl1' : decide ((4000 : Int) < (m.length : Int)) = false := decide_eq_false (by omega)
      go_enter Try.func4, Try.ntmps4
      go_wp2_with (at_builtin; refine wpList_app rfl (.tmp 39) (.tmp 40) rfl w.heap.size _ [] rfl (OwnB.lit0 w) w.heap.size a0 b.length c0 b rfl rfl (HR0.out.alloc (Nat.le_refl _) _) (by simp; omega) (by simp) ?_)
      intro v3 w3 hown3 hgr3 hat3
      have hb3 : Below w.heap.size w w3 := below_app ((Below.refl w.heap.size w).alloc (Nat.le_refl _) _) (OwnB.lit0 w) (Nat.le_refl _) hgr3
      obtain ⟨a3, c3, rfl, _⟩ := hown3.shape
      have HO3 := Lib.hid hown3
      have HB3 := Lib.hid hb3
      clear hown3 hb3 hgr3 hat3
      go_wp2_with (at_builtin; refine wpList_app rfl (.tmp 41) (.tmp 42) rfl w.heap.size _ b rfl HO3.out w.heap.size a1 m.length c1 m rfl rfl (HR1.out.below HB3.out) (by omega) HB3.out.size ?_)
      intro v4 w4 hown4 hgr4 hat4
      have hb4 : Below w.heap.size w w4 := below_app HB3.out HO3.out (Nat.le_refl _) hgr4
      obtain ⟨a4, c4, rfl, _⟩ := hown4.shape
      have hcp4 := hown4.capm
      have HA := Lib.hid hown4.rd
      have HB4 := Lib.hid hb4
      clear hown4 hb4 hgr4 hat4 HB3 HO3
      obtain ⟨all, hall⟩ : ∃ all, b ++ m = all := ⟨_, rfl⟩
      rw [hall] at hcp4 HA ⊢
      have HALL := Lib.hid hall
      clear hall
      go_upto_if 45 with (fail)
      go_cut [2] (fun v2 wc => wc = w4 ∧ ∃ q : Nat, v2 = .int .i64 q ∧ Hid ((q : Int) ≤ 9223372036854775807))
      case first =>
        by_cases h0 : cut < 0
        · have e1 : IntKind.i64.wrap (cut + 1) = cut + 1 := IntWalk.i64_in _ (by omega)
          have e2 : IntKind.i64.wrap (-(cut + 1)) = -(cut + 1) := IntWalk.i64_in _ (by omega)
          go_wp2_with fail
          go_meet
          case rel => exact ⟨rfl, (-(cut + 1)).toNat, by congr 1; (try simp only [e1, e2]); omega, Lib.hid (by omega)⟩
        · go_wp2_with fail
          go_meet
          case rel => exact ⟨rfl, cut.toNat, by congr 1; omega, Lib.hid (by omega)⟩
      case rest =>
        obtain ⟨rfl, q, rfl, hq⟩ := hcut
        rename World => W
        have HRb := Lib.hid (HR0.out.below HB4.out).lt_size
        clear HR1
        go_wp2_with fail
        refine (takeOpt_any a0 b.length c0 b W rfl hc0 (by omega) HRb.out).mono ?_
        rintro e w5 ⟨a5, n5, c5, rfl, hown5, hb5⟩
        have HO5 := Lib.hid hown5
        have HB5 := Lib.hid (HB4.out.trans (hb5.mono HB4.out.size))
        have HR5 := Lib.hid (HRb.out.below hb5).lt_size
        have HA5 := Lib.hid (HA.out.below hb5).lt_size
        clear hown5 hb5 HRb HA HB4
        rcases opt_cases b with ho | ho | ⟨hk, h16, hn1, hn2, ho⟩
        case' inl =>
          have HO := Lib.hid (show optR all = (0, [], 0, 201) by rw [← HALL.out]; exact opt_err b m ho)
          rw [ho]
          clear ho HO5
          have HBX := Lib.hid (HB5.out.alloc HB5.out.size (Obj.cells #[Value.int IntKind.i64 0, Value.slice a5 n5 c5] 36))
          have HRX := Lib.hid (HR5.out.alloc (Nat.le_refl _) (Obj.cells #[Value.int IntKind.i64 0, Value.slice a5 n5 c5] 36)).lt_size
          have HAX := Lib.hid (HA5.out.alloc (Nat.le_refl _) (Obj.cells #[Value.int IntKind.i64 0, Value.slice a5 n5 c5] 36)).lt_size
          clear HB5 HR5 HA5
          go_wp2_with fail
          refine (takeOpt_any a4 all.length c4 all _ rfl hcp4.1 hcp4.2 HAX.out).mono ?_
          rintro e w6 ⟨a6, n6, c6, rfl, hown6, hb6⟩
          rw [HO.out]
          have HBX := Lib.hid ((HBX.out.trans (hb6.mono HBX.out.size)).alloc (HBX.out.trans (hb6.mono HBX.out.size)).size (Obj.cells #[Value.int IntKind.i64 0, Value.slice a6 n6 c6] 36))
          have HRX := Lib.hid ((HRX.out.below hb6).lt_size.alloc (Nat.le_refl _) (Obj.cells #[Value.int IntKind.i64 0, Value.slice a6 n6 c6] 36)).lt_size
          have HAX := Lib.hid ((HAX.out.below hb6).lt_size.alloc (Nat.le_refl _) (Obj.cells #[Value.int IntKind.i64 0, Value.slice a6 n6 c6] 36)).lt_size
          clear hown6 hb6 HO
          go_wp2_with fail
        case' inr.inl =>
          rw [ho]
          clear ho HO5
          have HBX := Lib.hid (HB5.out.alloc HB5.out.size (Obj.cells #[Value.int IntKind.i64 0, Value.slice a5 n5 c5] 36))
          have HRX := Lib.hid (HR5.out.alloc (Nat.le_refl _) (Obj.cells #[Value.int IntKind.i64 0, Value.slice a5 n5 c5] 36)).lt_size
          have HAX := Lib.hid (HA5.out.alloc (Nat.le_refl _) (Obj.cells #[Value.int IntKind.i64 0, Value.slice a5 n5 c5] 36)).lt_size
          clear HB5 HR5 HA5
          go_wp2_with fail
        case' inr.inr =>
          have hO := opt_more b m hk h16 hn1 hn2
          rw [HALL.out] at hO
          have HO := Lib.hid hO
          clear hO
          have HL := Lib.hid (fun k hk' => opt_less b k hk h16 hn1 hn2 hk')
          rw [ho] at HO5 ⊢
          clear ho hk
          generalize numOf ((b.drop 8).take 4) = ty at HO HO5 ⊢
          generalize numOf ((b.drop 12).take 4) = nn at HO HO5 HL hn1 hn2 ⊢
          generalize (b.drop 16).take nn = dt at HO HO5
          simp only at HO5
          obtain ⟨N, hN⟩ : ∃ N, 16 + nn = N := ⟨_, rfl⟩
          rw [hN] at HO HL
          simp only [hN]
          have hN0 : 0 < N := by omega
          have hNb : N ≤ b.length := by omega
          have hNI : (0 : Int) < (N : Int) := by omega
          clear hN hn1 hn2
          obtain ⟨W5, hW5⟩ : ∃ W5, W5 = w5.alloc (Obj.cells #[Value.int IntKind.i64 (ty : Int), Value.slice a5 n5 c5] 36) := ⟨_, rfl⟩
          have HBX := Lib.hid (HB5.out.alloc HB5.out.size (Obj.cells #[Value.int IntKind.i64 (ty : Int), Value.slice a5 n5 c5] 36))
          have HRX := Lib.hid (HR5.out.alloc (Nat.le_refl _) (Obj.cells #[Value.int IntKind.i64 (ty : Int), Value.slice a5 n5 c5] 36)).lt_size
          have HAX := Lib.hid (HA5.out.alloc (Nat.le_refl _) (Obj.cells #[Value.int IntKind.i64 (ty : Int), Value.slice a5 n5 c5] 36)).lt_size
          have HO5 := Lib.hid (HO5.out.alloc (Obj.cells #[Value.int IntKind.i64 (ty : Int), Value.slice a5 n5 c5] 36))
          have k0 : (w5.alloc (Obj.cells #[Value.int IntKind.i64 (ty : Int), Value.slice a5 n5 c5] 36)).cell? ⟨w5.heap.size, 0, none⟩ = some (.int .i64 (ty : Int)) := by go_simp
          have k1 : (w5.alloc (Obj.cells #[Value.int IntKind.i64 (ty : Int), Value.slice a5 n5 c5] 36)).cell? ⟨w5.heap.size, 1, none⟩ = some (.slice a5 n5 c5) := by go_simp
          have hs : w5.heap.size < (w5.alloc (Obj.cells #[Value.int IntKind.i64 (ty : Int), Value.slice a5 n5 c5] 36)).heap.size := by simp
          rw [← hW5] at HBX HRX HAX HO5 k0 k1 hs
          have HWE := Lib.hid hW5
          clear HB5 HR5 HA5 hW5
          go_wp2_with fail
          rw [← HWE.out]
          refine (takeOpt_any a4 all.length c4 all _ rfl hcp4.1 hcp4.2 HAX.out).mono ?_
          rintro e w6 ⟨a6, n6, c6, rfl, hown6, hb6⟩
          rw [HO.out] at hown6 ⊢
          simp only at hown6
          have HBX := Lib.hid (HBX.out.trans (hb6.mono HBX.out.size))
          have HRX := Lib.hid (HRX.out.below hb6).lt_size
          have HAX := Lib.hid (HAX.out.below hb6).lt_size
          have HO5 := Lib.hid (HO5.out.below hb6)
          replace k0 := (hb6.cell (by exact hs)).trans k0
          replace k1 := (hb6.cell (by exact hs)).trans k1
          replace hs : w5.heap.size < w6.heap.size := Nat.lt_of_lt_of_le hs hb6.size
          have HO6 := Lib.hid hown6
          clear hown6 hb6 HWE
          obtain ⟨W6, hW6⟩ : ∃ W6, W6 = w6.alloc (Obj.cells #[Value.int IntKind.i64 (ty : Int), Value.slice a6 n6 c6] 36) := ⟨_, rfl⟩
          have hb7 := (Below.refl w6.heap.size w6).alloc (Nat.le_refl _) (Obj.cells #[Value.int IntKind.i64 (ty : Int), Value.slice a6 n6 c6] 36)
          have j0 : (w6.alloc (Obj.cells #[Value.int IntKind.i64 (ty : Int), Value.slice a6 n6 c6] 36)).cell? ⟨w6.heap.size, 0, none⟩ = some (.int .i64 (ty : Int)) := by go_simp
          have j1 : (w6.alloc (Obj.cells #[Value.int IntKind.i64 (ty : Int), Value.slice a6 n6 c6] 36)).cell? ⟨w6.heap.size, 1, none⟩ = some (.slice a6 n6 c6) := by go_simp
          have hs6 : w6.heap.size < (w6.alloc (Obj.cells #[Value.int IntKind.i64 (ty : Int), Value.slice a6 n6 c6] 36)).heap.size := by simp
          rw [← hW6] at hb7 j0 j1 hs6
          have HBX := Lib.hid (HBX.out.trans (hb7.mono HBX.out.size))
          have HRX := Lib.hid (HRX.out.below hb7).lt_size
          have HAX := Lib.hid (HAX.out.below hb7).lt_size
          have HO5 := Lib.hid (HO5.out.below hb7)
          have HO6 := Lib.hid (HO6.out.below hb7)
          replace k0 := (hb7.cell (by exact hs)).trans k0
          replace k1 := (hb7.cell (by exact hs)).trans k1
          replace hs : w5.heap.size < W6.heap.size := Nat.lt_of_lt_of_le hs hb7.size
          have HWE := Lib.hid hW6
          clear hb7 hW6
          have hrem : (q : Int) % (N : Int) = ((q % N : Nat) : Int) := by simp
          have hlt : q % N < N := Nat.mod_lt _ hN0
          obtain ⟨k, hk⟩ : ∃ k, q % N = k := ⟨_, rfl⟩
          rw [hk] at hrem hlt
          have hN0' : ¬ (N : Int) = 0 := by omega
          have hkc : (k : Int) ≤ (c0 : Int) := by omega
          clear hk
          go_wp2_with fail
          rw [← HWE.out]
          have hlk : (b.take k).length = k := by rw [List.length_take]; omega
          have hrk : Rd W6 W6.heap.size a0 (bs (b.take k)) := by rw [bs_take]; exact HRX.out.take k
          refine (takeOpt_any a0 k c0 (b.take k) _ hlk (by omega) (by omega) hrk).mono ?_
          rintro e w7 ⟨a7, n7, c7, rfl, hown7, hb7⟩
          rw [HL.out k hlt]
          have hb8 : Below W6.heap.size W6 (w7.alloc (Obj.cells #[Value.int IntKind.i64 0, Value.slice a7 n7 c7] 36)) := hb7.alloc hb7.size _
          have HBX := Lib.hid (HBX.out.trans (hb8.mono HBX.out.size))
          have HRX := Lib.hid (HRX.out.below hb8).lt_size
          have HAX := Lib.hid (HAX.out.below hb8).lt_size
          have HO5 := Lib.hid (HO5.out.below hb8)
          have HO6 := Lib.hid (HO6.out.below hb8)
          replace k0 := (hb8.cell (by exact hs)).trans k0
          replace k1 := (hb8.cell (by exact hs)).trans k1
          replace j0 := (hb8.cell (by exact hs6)).trans j0
          replace j1 := (hb8.cell (by exact hs6)).trans j1
          clear hown7 hb7 hb8 hlk hrk HWE HL HO
          have hbN : ¬ (b.length : Int) < (N : Int) := by omega
          go_wp2_with fail
          refine (option_same ty a5 a6 n5 c5 n6 c6 dt _ HO5.out.len HO6.out.len HO5.out.rd HO6.out.rd (Nat.le_refl _) (Nat.le_refl _)).mono ?_
          rintro e w9 ⟨rfl, hb9⟩
          have HBX := Lib.hid (HBX.out.trans (hb9.mono HBX.out.size))
          have HRX := Lib.hid (HRX.out.below hb9).lt_size
          have HAX := Lib.hid (HAX.out.below hb9).lt_size
          clear hb9 HO5 HO6
          go_wp2_with fail
          clear k0 k1 j0 j1 hs hs6 hNb hN0 hNI hN0' hkc hrem hlt h16
        all_goals
          refine (takeHdr_any a0 b.length c0 b _ rfl hc0 (by omega) HRX.out).mono ?_
          rintro e wh ⟨rfl, hbh⟩
          have HBX := Lib.hid (HBX.out.trans (hbh.mono HBX.out.size))
          have HRX := Lib.hid (HRX.out.below hbh).lt_size
          have HAX := Lib.hid (HAX.out.below hbh).lt_size
          clear hbh
          rcases hdr_cases b with ho | ho | ⟨hk, h28, ho⟩
          · have hO := hdr_err b m ho
            rw [HALL.out] at hO
            have HO := Lib.hid hO
            rw [ho]
            clear ho hO
            have HBX := Lib.hid (HBX.out.alloc HBX.out.size (Obj.cells #[Value.int IntKind.i64 0, Value.int IntKind.i64 0, Value.int IntKind.u64 0, Value.int IntKind.u64 0, Value.int IntKind.i64 0] 41))
            have HRX := Lib.hid (HRX.out.alloc (Nat.le_refl _) (Obj.cells #[Value.int IntKind.i64 0, Value.int IntKind.i64 0, Value.int IntKind.u64 0, Value.int IntKind.u64 0, Value.int IntKind.i64 0] 41)).lt_size
            have HAX := Lib.hid (HAX.out.alloc (Nat.le_refl _) (Obj.cells #[Value.int IntKind.i64 0, Value.int IntKind.i64 0, Value.int IntKind.u64 0, Value.int IntKind.u64 0, Value.int IntKind.i64 0] 41)).lt_size
            simp only [Hdr.val]
            go_wp2_with fail
            refine (takeHdr_any a4 all.length c4 all _ rfl hcp4.1 hcp4.2 HAX.out).mono ?_
            rintro e wi ⟨rfl, hbi⟩
            rw [HO.out]
            have HBX := Lib.hid ((HBX.out.trans (hbi.mono HBX.out.size)).alloc (HBX.out.trans (hbi.mono HBX.out.size)).size (Obj.cells #[Value.int IntKind.i64 0, Value.int IntKind.i64 0, Value.int IntKind.u64 0, Value.int IntKind.u64 0, Value.int IntKind.i64 0] 41))
            clear hbi HO
            simp only [Hdr.val]
            go_wp2_with fail
            refine (walive_any _).mono ?_
            rintro e wz ⟨rfl, hbz⟩
            have HBZ := Lib.hid (HBX.out.trans (hbz.mono HBX.out.size))
            clear hbz
            go_wp2_with fail
            go_ret
            exact ⟨rfl, HBZ.out⟩
          · rw [ho]
            clear ho
            have HBX := Lib.hid (HBX.out.alloc HBX.out.size (Obj.cells #[Value.int IntKind.i64 0, Value.int IntKind.i64 0, Value.int IntKind.u64 0, Value.int IntKind.u64 0, Value.int IntKind.i64 0] 41))
            simp only [Hdr.val]
            go_wp2_with fail
            refine (walive_any _).mono ?_
            rintro e wz ⟨rfl, hbz⟩
            have HBZ := Lib.hid (HBX.out.trans (hbz.mono HBX.out.size))
            clear hbz
            go_wp2_with fail
            go_ret
            exact ⟨rfl, HBZ.out⟩
          · have hO := hdr_more b m hk h28
            rw [HALL.out] at hO
            have HO := Lib.hid hO
            have HL := Lib.hid (fun k hk' => hdr_less b k hk h28 hk')
            rw [ho]
            clear ho hO hk
            generalize numOf ((b.drop 4).take 2) = g0 at HO ⊢
            generalize numOf ((b.drop 6).take 2) = g1 at HO ⊢
            generalize numOf ((b.drop 8).take 8) = g2 at HO ⊢
            generalize numOf ((b.drop 16).take 8) = g3 at HO ⊢
            generalize numOf ((b.drop 24).take 4) = g4 at HO ⊢
            obtain ⟨W5, hW5⟩ : ∃ W5, W5 = wh.alloc (Obj.cells #[Value.int IntKind.i64 (g0 : Int), Value.int IntKind.i64 (g1 : Int), Value.int IntKind.u64 (g2 : Int), Value.int IntKind.u64 (g3 : Int), Value.int IntKind.i64 (g4 : Int)] 41) := ⟨_, rfl⟩
            have hb5 := (Below.refl wh.heap.size wh).alloc (Nat.le_refl _) (Obj.cells #[Value.int IntKind.i64 (g0 : Int), Value.int IntKind.i64 (g1 : Int), Value.int IntKind.u64 (g2 : Int), Value.int IntKind.u64 (g3 : Int), Value.int IntKind.i64 (g4 : Int)] 41)
            have k0 : (wh.alloc (Obj.cells #[Value.int IntKind.i64 (g0 : Int), Value.int IntKind.i64 (g1 : Int), Value.int IntKind.u64 (g2 : Int), Value.int IntKind.u64 (g3 : Int), Value.int IntKind.i64 (g4 : Int)] 41)).cell? ⟨wh.heap.size, 0, none⟩ = some (.int .i64 (g0 : Int)) := by go_simp
            have k1 : (wh.alloc (Obj.cells #[Value.int IntKind.i64 (g0 : Int), Value.int IntKind.i64 (g1 : Int), Value.int IntKind.u64 (g2 : Int), Value.int IntKind.u64 (g3 : Int), Value.int IntKind.i64 (g4 : Int)] 41)).cell? ⟨wh.heap.size, 1, none⟩ = some (.int .i64 (g1 : Int)) := by go_simp
            have k2 : (wh.alloc (Obj.cells #[Value.int IntKind.i64 (g0 : Int), Value.int IntKind.i64 (g1 : Int), Value.int IntKind.u64 (g2 : Int), Value.int IntKind.u64 (g3 : Int), Value.int IntKind.i64 (g4 : Int)] 41)).cell? ⟨wh.heap.size, 2, none⟩ = some (.int .u64 (g2 : Int)) := by go_simp
            have k3 : (wh.alloc (Obj.cells #[Value.int IntKind.i64 (g0 : Int), Value.int IntKind.i64 (g1 : Int), Value.int IntKind.u64 (g2 : Int), Value.int IntKind.u64 (g3 : Int), Value.int IntKind.i64 (g4 : Int)] 41)).cell? ⟨wh.heap.size, 3, none⟩ = some (.int .u64 (g3 : Int)) := by go_simp
            have k4 : (wh.alloc (Obj.cells #[Value.int IntKind.i64 (g0 : Int), Value.int IntKind.i64 (g1 : Int), Value.int IntKind.u64 (g2 : Int), Value.int IntKind.u64 (g3 : Int), Value.int IntKind.i64 (g4 : Int)] 41)).cell? ⟨wh.heap.size, 4, none⟩ = some (.int .i64 (g4 : Int)) := by go_simp
            have hs : wh.heap.size < (wh.alloc (Obj.cells #[Value.int IntKind.i64 (g0 : Int), Value.int IntKind.i64 (g1 : Int), Value.int IntKind.u64 (g2 : Int), Value.int IntKind.u64 (g3 : Int), Value.int IntKind.i64 (g4 : Int)] 41)).heap.size := by simp
            rw [← hW5] at hb5 k0 k1 k2 k3 k4 hs
            have HBX := Lib.hid (HBX.out.trans (hb5.mono HBX.out.size))
            have HRX := Lib.hid (HRX.out.below hb5).lt_size
            have HAX := Lib.hid (HAX.out.below hb5).lt_size
            have HWE := Lib.hid hW5
            clear hb5 hW5
            simp only [Hdr.val]
            go_wp2_with fail
            rw [← HWE.out]
            refine (takeHdr_any a4 all.length c4 all _ rfl hcp4.1 hcp4.2 HAX.out).mono ?_
            rintro e wi ⟨rfl, hbi⟩
            rw [HO.out]
            have HBX := Lib.hid (HBX.out.trans (hbi.mono HBX.out.size))
            have HRX := Lib.hid (HRX.out.below hbi).lt_size
            replace k0 := (hbi.cell (by exact hs)).trans k0
            replace k1 := (hbi.cell (by exact hs)).trans k1
            replace k2 := (hbi.cell (by exact hs)).trans k2
            replace k3 := (hbi.cell (by exact hs)).trans k3
            replace k4 := (hbi.cell (by exact hs)).trans k4
            replace hs : wh.heap.size < wi.heap.size := Nat.lt_of_lt_of_le hs hbi.size
            clear hbi HO HWE
            obtain ⟨W6, hW6⟩ : ∃ W6, W6 = wi.alloc (Obj.cells #[Value.int IntKind.i64 (g0 : Int), Value.int IntKind.i64 (g1 : Int), Value.int IntKind.u64 (g2 : Int), Value.int IntKind.u64 (g3 : Int), Value.int IntKind.i64 (g4 : Int)] 41) := ⟨_, rfl⟩
            have hb6 := (Below.refl wi.heap.size wi).alloc (Nat.le_refl _) (Obj.cells #[Value.int IntKind.i64 (g0 : Int), Value.int IntKind.i64 (g1 : Int), Value.int IntKind.u64 (g2 : Int), Value.int IntKind.u64 (g3 : Int), Value.int IntKind.i64 (g4 : Int)] 41)
            have j0 : (wi.alloc (Obj.cells #[Value.int IntKind.i64 (g0 : Int), Value.int IntKind.i64 (g1 : Int), Value.int IntKind.u64 (g2 : Int), Value.int IntKind.u64 (g3 : Int), Value.int IntKind.i64 (g4 : Int)] 41)).cell? ⟨wi.heap.size, 0, none⟩ = some (.int .i64 (g0 : Int)) := by go_simp
            have j1 : (wi.alloc (Obj.cells #[Value.int IntKind.i64 (g0 : Int), Value.int IntKind.i64 (g1 : Int), Value.int IntKind.u64 (g2 : Int), Value.int IntKind.u64 (g3 : Int), Value.int IntKind.i64 (g4 : Int)] 41)).cell? ⟨wi.heap.size, 1, none⟩ = some (.int .i64 (g1 : Int)) := by go_simp
            have j2 : (wi.alloc (Obj.cells #[Value.int IntKind.i64 (g0 : Int), Value.int IntKind.i64 (g1 : Int), Value.int IntKind.u64 (g2 : Int), Value.int IntKind.u64 (g3 : Int), Value.int IntKind.i64 (g4 : Int)] 41)).cell? ⟨wi.heap.size, 2, none⟩ = some (.int .u64 (g2 : Int)) := by go_simp
            have j3 : (wi.alloc (Obj.cells #[Value.int IntKind.i64 (g0 : Int), Value.int IntKind.i64 (g1 : Int), Value.int IntKind.u64 (g2 : Int), Value.int IntKind.u64 (g3 : Int), Value.int IntKind.i64 (g4 : Int)] 41)).cell? ⟨wi.heap.size, 3, none⟩ = some (.int .u64 (g3 : Int)) := by go_simp
            have j4 : (wi.alloc (Obj.cells #[Value.int IntKind.i64 (g0 : Int), Value.int IntKind.i64 (g1 : Int), Value.int IntKind.u64 (g2 : Int), Value.int IntKind.u64 (g3 : Int), Value.int IntKind.i64 (g4 : Int)] 41)).cell? ⟨wi.heap.size, 4, none⟩ = some (.int .i64 (g4 : Int)) := by go_simp
            have hs6 : wi.heap.size < (wi.alloc (Obj.cells #[Value.int IntKind.i64 (g0 : Int), Value.int IntKind.i64 (g1 : Int), Value.int IntKind.u64 (g2 : Int), Value.int IntKind.u64 (g3 : Int), Value.int IntKind.i64 (g4 : Int)] 41)).heap.size := by simp
            rw [← hW6] at hb6 j0 j1 j2 j3 j4 hs6
            have HBX := Lib.hid (HBX.out.trans (hb6.mono HBX.out.size))
            have HRX := Lib.hid (HRX.out.below hb6).lt_size
            replace k0 := (hb6.cell (by exact hs)).trans k0
            replace k1 := (hb6.cell (by exact hs)).trans k1
            replace k2 := (hb6.cell (by exact hs)).trans k2
            replace k3 := (hb6.cell (by exact hs)).trans k3
            replace k4 := (hb6.cell (by exact hs)).trans k4
            replace hs : wh.heap.size < W6.heap.size := Nat.lt_of_lt_of_le hs hb6.size
            have HWE := Lib.hid hW6
            clear hb6 hW6
            have hrem : (q : Int) % 28 = ((q % 28 : Nat) : Int) := by simp
            have hlt : q % 28 < 28 := Nat.mod_lt _ (by omega)
            obtain ⟨k, hk⟩ : ∃ k, q % 28 = k := ⟨_, rfl⟩
            rw [hk] at hrem hlt
            have hkc : (k : Int) ≤ (c0 : Int) := by omega
            clear hk
            simp only [Hdr.val]
            go_wp2_with fail
            rw [← HWE.out]
            have hlk : (b.take k).length = k := by rw [List.length_take]; omega
            have hrk : Rd W6 W6.heap.size a0 (bs (b.take k)) := by rw [bs_take]; exact HRX.out.take k
            refine (takeHdr_any a0 k c0 (b.take k) _ hlk (by omega) (by omega) hrk).mono ?_
            rintro e w7 ⟨rfl, hb7⟩
            rw [HL.out k hlt]
            have hb8 : Below W6.heap.size W6 (w7.alloc (Obj.cells #[Value.int IntKind.i64 0, Value.int IntKind.i64 0, Value.int IntKind.u64 0, Value.int IntKind.u64 0, Value.int IntKind.i64 0] 41)) := hb7.alloc hb7.size _
            have HBX := Lib.hid (HBX.out.trans (hb8.mono HBX.out.size))
            replace k0 := (hb8.cell (by exact hs)).trans k0
            replace j0 := (hb8.cell (by exact hs6)).trans j0
            replace k1 := (hb8.cell (by exact hs)).trans k1
            replace j1 := (hb8.cell (by exact hs6)).trans j1
            replace k2 := (hb8.cell (by exact hs)).trans k2
            replace j2 := (hb8.cell (by exact hs6)).trans j2
            replace k3 := (hb8.cell (by exact hs)).trans k3
            replace j3 := (hb8.cell (by exact hs6)).trans j3
            replace k4 := (hb8.cell (by exact hs)).trans k4
            replace j4 := (hb8.cell (by exact hs6)).trans j4
            clear hb7 hb8 hlk hrk HWE HL
            have hbN : ¬ (b.length : Int) < 28 := by omega
            simp only [Hdr.val]
            go_wp2_with fail
            refine (walive_any _).mono ?_
            rintro e wz ⟨rfl, hbz⟩
            have HBZ := Lib.hid (HBX.out.trans (hbz.mono HBX.out.size))
            clear hbz
            go_wp2_with fail
            go_ret
            exact ⟨rfl, HBZ.out⟩

end Go.Proofs.Ytnpcpbjoonjaoaa
