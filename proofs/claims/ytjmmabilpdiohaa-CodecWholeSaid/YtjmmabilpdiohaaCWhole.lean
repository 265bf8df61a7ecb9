/- CodecWhole: the walk -/
import Derived.Test.YtjmmabilpdiohaaCG2
namespace Go.Proofs.Ytjmmabilpdiohaa
set_option linter.unusedVariables false
set_option linter.unusedSimpArgs false
open Go.RowKit

set_option maxRecDepth 100000 in
set_option maxHeartbeats 4000000 in
theorem law_CodecWhole (a0 : Option Addr) (n0 c0 : Nat) (l0 : List WTy.den) (cut : Int) (a2 : Option Addr) (n2 c2 : Nat) (more : List UInt8) (w : World) (hx0 : (Ty.slice WTy).reads w [.slice a0 n0 c0] l0) (hcut : (Lit.int .i64 cut).wf = true) (h1 : BytesIn w a2 n2 c2 more) :
    Calls Try.prog 8 #[.slice a0 n0 c0, .int .i64 cut, .slice a2 n2 c2] w fun e w' => e = .returned (.bool true) ∧ Below w.heap.size w w' := by
  obtain ⟨ws, hn0, hc0, hc0', hin⟩ := wrs_of_reads hx0
  have hcb := bounds_i64 hcut
  have hbl := h1.len_eq
  subst hbl
  have hcm := h1.le_cap
  have hsm := h1.small
  have HR := Lib.hid h1.rd
  have HIN := Lib.hid hin
  have HN := Lib.hid hn0
  clear hx0 h1 hin hn0 l0 hcut
  go_enter Try.func8, Try.ntmps8
  go_wp2_with fail
  refine (group_any a0 n0 c0 ws _ HN.out HIN.out).mono ?_
  rintro e w1 ⟨ap, np, cp, rfl, hownp, hb1⟩
  have hnp := hownp.len
  subst hnp
  have hcp := hownp.capm
  have HP := Lib.hid hownp
  have HB1 := Lib.hid hb1
  clear hownp hb1
  cases hgo : groupOk ws with
  | false =>
    obtain ⟨e1, e2⟩ := group_no ws hgo
    rw [e2]
    clear e1 e2 hgo
    go_wp2_with fail
    refine (calive_any _).mono ?_
    rintro e w7 ⟨rfl, hb7⟩
    have HB7 := Lib.hid (HB1.out.trans (hb7.mono HB1.out.size))
    clear hb7 HB1
    go_wp2_with fail
    go_ret
    exact ⟨rfl, HB7.out⟩
  | true =>
    obtain ⟨e1, e2, e3, e4⟩ := group_back ws hgo
    have hl : ws.length ≤ 1000000 := by
      have := hgo
      simp only [groupOk, Bool.and_eq_true, decide_eq_true_eq] at this
      omega
    have hgl : (groupL ws).length ≤ 10000 := by
      have := hgo
      simp only [groupOk, Bool.and_eq_true, decide_eq_true_eq] at this
      rw [groupL, hgo, if_pos rfl, List.length_append, bytesOf_length, flat69 _ this.2]; omega
    rw [e3]
    have HLL := Lib.hid hl
    have E1 := Lib.hid e1
    have E2 := Lib.hid e2
    clear e1 e2 e3 hgo hl
    obtain ⟨G, hG⟩ : ∃ G, groupL ws = G := ⟨_, rfl⟩
    rw [hG] at e4 hgl hcp HP E1 E2 ⊢
    clear hG
    have hg0 : ((G.length : Int) == 0) = false := beq_eq_false_iff_ne.2 (by omega)
    by_cases hmo : 1000 < more.length
    · have hmoI : (1000 : Int) < (more.length : Int) := by omega
      go_wp2_with fail
      refine (calive_any _).mono ?_
      rintro e w7 ⟨rfl, hb7⟩
      have HB7 := Lib.hid (HB1.out.trans (hb7.mono HB1.out.size))
      clear hb7 HB1
      go_wp2_with fail
      go_ret
      exact ⟨rfl, HB7.out⟩
    · have hmoI : ¬ (1000 : Int) < (more.length : Int) := by omega
      go_upto_if 30 with (fail)
      go_cut [1] (fun v1 wc => wc = w1 ∧ ∃ m : Nat, v1 = .int .i64 m ∧ Hid ((m : Int) ≤ 9223372036854775807))
      case first =>
        by_cases h0 : cut < 0
        · have e1 : IntKind.i64.wrap (cut + 1) = cut + 1 := IntWalk.i64_in _ (by omega)
          have e2 : IntKind.i64.wrap (-(cut + 1)) = -(cut + 1) := IntWalk.i64_in _ (by omega)
          go_wp2_with fail
          go_meet
          case rel => exact ⟨rfl, (-(cut + 1)).toNat, by congr 1; (try simp only [e1, e2]); omega, Lib.hid (by omega)⟩
        · go_wp2_with fail
          go_meet
          case rel => exact ⟨rfl, cut.toNat, by congr 1; omega, Lib.hid (by omega)⟩
      case rest =>
        obtain ⟨rfl, m, rfl, hm⟩ := hcut
        rename World => w1
        have hrem : (m : Int) % (G.length : Int) = ((m % G.length : Nat) : Int) := by simp
        have hlt : m % G.length < G.length := Nat.mod_lt _ (by omega)
        obtain ⟨k, hk⟩ : ∃ k, m % G.length = k := ⟨_, rfl⟩
        rw [hk] at hrem hlt
        have hg0' : ¬ (G.length : Int) = 0 := by omega
        clear hk
        go_wp2_with fail
        have hlk : (G.take k).length = k := by rw [List.length_take]; omega
        have hrk : Rd w1 w1.heap.size ap (bs (G.take k)) := by rw [bs_take]; exact HP.out.rd.take k
        refine (ungroup_any ap k cp (G.take k) w1 hlk (by omega) hcp.2 hrk).mono ?_
        rintro e w2 ⟨am, cm, rfl, hinm, hb2⟩
        rw [(ung_no _ (ung_take G k E1.out hlt)).2]
        have HB2 := Lib.hid (HB1.out.trans (hb2.mono HB1.out.size))
        have HP2 := Lib.hid (HP.out.below hb2)
        have hz2 := HB2.out.size
        clear hinm hb2 HB1 HP hlk hrk hrem hg0 hg0'
        go_wp2_with (at_builtin; refine wpList_app rfl (.tmp 45) (.tmp 46) rfl w2.heap.size _ [] rfl (OwnB.lit0 w2) w2.heap.size ap G.length cp G rfl rfl (HP2.out.rd.alloc (Nat.le_refl _) _) (by simp; omega) (by simp) ?_)
        intro v3 w3 hown3 hgr3 hat3
        have hb3 : Below w2.heap.size w2 w3 := below_app ((Below.refl w2.heap.size w2).alloc (Nat.le_refl _) _) (OwnB.lit0 w2) (Nat.le_refl _) hgr3
        obtain ⟨a3, c3, rfl, _⟩ := hown3.shape
        have HO3 := Lib.hid hown3
        have HB3 := Lib.hid hb3
        have HBW3 := Lib.hid (HB2.out.trans (hb3.mono hz2))
        have hz3 := hb3.size
        clear hown3 hb3 hgr3 hat3 HB2 HP2
        go_wp2_with (at_builtin; refine wpList_app rfl (.tmp 47) (.tmp 48) rfl w2.heap.size _ G rfl HO3.out w.heap.size a2 more.length c2 more rfl rfl (HR.out.below HBW3.out) (by omega) (by omega) ?_)
        intro v4 w4 hown4 hgr4 hat4
        have hb4 : Below w2.heap.size w2 w4 := below_app HB3.out HO3.out (Nat.le_refl _) hgr4
        have HBW4 := Lib.hid (below_app HBW3.out HO3.out hz2 hgr4)
        have hl4 : (G ++ more).length = G.length + more.length := List.length_append
        obtain ⟨a4, c4, rfl, _⟩ := hown4.shape
        have hcp4 := hown4.capm
        have HR4 := Lib.hid hown4.rd
        rw [hl4] at hcp4 ⊢
        have HL4 := Lib.hid hl4
        clear hown4 hb4 hgr4 hat4 HB3 HO3 HBW3 hl4
        go_wp2_with fail
        refine (ungroup_any a4 (G.length + more.length) c4 (G ++ more) w4 HL4.out hcp4.1 hcp4.2 HR4.out).mono ?_
        rintro e w5 ⟨a5, c5, rfl, hin5, hb5⟩
        have HB5 := Lib.hid (HBW4.out.trans (hb5.mono HBW4.out.size))
        have HIN5 := Lib.hid hin5
        clear hin5 hb5 HBW4 HR4
        by_cases hm0 : more.length = 0
        · have hmn : more = [] := List.eq_nil_of_length_eq_zero hm0
          subst hmn
          simp only [List.append_nil] at HIN5 ⊢
          rw [E2.out] at HIN5
          rw [E2.out]
          have hue : ungE G = 0 := by rw [ungE, E1.out]; rfl
          rw [hue]
          have HN' := HN.out
          subst HN'
          clear hue hm0
          go_wp2_with fail
          refine (wsame_any a5 ws.length c5 ws a0 ws.length c0 ws w5 rfl rfl HIN5.out (HIN.out.below HB5.out) HLL.out HLL.out).mono ?_
          rintro e w6 ⟨rfl, hb6⟩
          have HB6 := Lib.hid (HB5.out.trans (hb6.mono HB5.out.size))
          clear hb6 HB5
          rw [decide_eq_true rfl]
          go_wp2_with fail
          refine (calive_any _).mono ?_
          rintro e w7 ⟨rfl, hb7⟩
          have HB7 := Lib.hid (HB6.out.trans (hb7.mono HB6.out.size))
          clear hb7 HB6
          go_wp2_with fail
          go_ret
          exact ⟨rfl, HB7.out⟩
        · have hno := ung_no _ (ung_app G more E1.out (by omega))
          rw [hno.1, hno.2]
          have t1 : decide ((0 : Int) < (more.length : Int)) = true := decide_eq_true (by omega)
          have t2 : ((more.length : Int) == 0) = false := beq_eq_false_iff_ne.2 (by omega)
          clear hno HIN5
          go_wp2_with fail
          refine (calive_any _).mono ?_
          rintro e w7 ⟨rfl, hb7⟩
          have HB7 := Lib.hid (HB5.out.trans (hb7.mono HB5.out.size))
          clear hb7 HB5
          go_wp2_with fail
          go_ret
          exact ⟨rfl, HB7.out⟩
end Go.Proofs.Ytjmmabilpdiohaa
