/- law MerkleTrees -/
import Derived.Test.YtnfchojekcoplaaDoorMe11
namespace Go.Proofs.YtnfchojekcoplaaDoor
set_option linter.unusedVariables false
set_option linter.unusedSimpArgs false
open Go Go.RowKit

theorem own77 {data : List UInt8} {w : World} {base : Nat} {v : Value} (h : OwnB w base v (data ++ [77])) :
    ∃ g off cap, v = .slice (some ⟨g, off, none⟩) (data.length + 1) cap ∧ data.length + 1 ≤ cap ∧ base ≤ g ∧ g < w.heap.size ∧ cap ≤ 9223372036854775807 ∧ Rd w w.heap.size (some ⟨g, off, none⟩) (bs data) ∧ w.cell? ⟨g, off + data.length, none⟩ = some (.int .u8 77) := by
  have hcm : ∀ a n c, v = .slice a n c → c ≤ 9223372036854775807 := fun a n c e => by
    subst e
    rcases h.2 with ⟨h', _⟩ | ⟨_, _, _, _, _, _, hv, _, _, _, _, _, hm, _⟩
    · injection h' with _ _ e3; omega
    · injection hv with _ _ e; unfold maxLen at hm; omega
  obtain ⟨g, off, cap, hv, h1, h2, h3, h4⟩ := h.form (by simp)
  have hl : (data ++ [77]).length = data.length + 1 := by simp
  rw [hl] at hv h3
  have hrd := (hv ▸ h : OwnB w base (.slice (some ⟨g, off, none⟩) (data.length + 1) cap) (data ++ [77])).rd
  refine ⟨g, off, cap, hv, h3, h1, h2, hcm _ _ _ hv, ?_, ?_⟩
  · have := hrd.take data.length
    rw [← bs_take, List.take_left] at this
    exact this
  · have := h4 data.length (by simp)
    simpa using this
theorem wpList_load_rowG {P : Program} {ops : Array Oper} {rest : List Oper} {o : Oper} {a : Act} {w : World} {Q : Exit → Act → World → Prop} (hw : Region.wanted o (yielded ops a.tmps) = true) (ty : TypeId) (x : Operand) (ho : o.op = .load ty x)
    (g : Nat) (hx : a.eval x = .pointer (some ⟨g, 0, none⟩)) (t : TypeId) (cs : Array Value) (fr : Nat × Nat) (d : TypeDesc) (hg : w.heap[g]? = some (.cells cs t fr))
    (hu : P.underlying ty = some d) (hd : (match d with | .struct _ | .array _ _ => true | _ => false) = true) (hi : (P.info? ty).map (·.size) = some cs.size)
    (h : wpList P ops Q rest (a.put o.dst (.agg cs)) w) : wpList P ops Q (o :: rest) a w :=
  wpList_step fun K hK => step_load_row hw ty x ho g hx t cs fr d hg hu hd hi (hK _ _ h)

set_option maxRecDepth 16000 in
set_option maxHeartbeats 2000000 in
theorem law_MerkleTrees (ad : Option Addr) (nd cd : Nat) (data : List UInt8) (W : World) (hx : BytesIn W ad nd cd data) (hk : KOK W) :
    Calls Tryd.prog 3 #[.slice ad nd cd] W fun e w' => e = .returned (.bool true) ∧ Below W.heap.size W w' := by
  have HX := Lib.hid hx
  have HK := Lib.hid hk
  have hsm := hx.small
  have hcp := hx.le_cap
  clear hx hk
  go_enter Tryd.func3, Tryd.ntmps3
  by_cases hbig : 2560 < nd
  · have hbig' : (2560 : Int) < (nd : Int) := by omega
    go_wp2_with fail
    refine (mealive_any W HK.out).mono ?_
    rintro e w1 ⟨rfl, hb⟩
    go_wp2_with fail
    go_ret
    exact ⟨rfl, hb⟩
  have hbig' : ¬ ((2560 : Int) < (nd : Int)) := by omega
  have HL0 := Lib.hid (OwnB.lit0 W)
  have hlen := HX.out.len_eq
  have KO1 : Hid (∀ v w1, OwnB w1 W.heap.size v ([] ++ data) → (W.alloc (.cells #[] 5)).grownBy w1 (some W.heap.size) → Below W.heap.size W w1 ∧ ∃ a1 c1, v = .slice a1 nd c1 ∧ OwnB (w1.alloc (.cells #[.int .u8 77] 5)) W.heap.size (.slice a1 nd c1) data ∧ Rd (w1.alloc (.cells #[.int .u8 77] 5)) (w1.heap.size + 1) (some ⟨w1.heap.size, 0, none⟩) (bs [77]) ∧ W.heap.size ≤ (w1.alloc (.cells #[.int .u8 77] 5)).heap.size) := Lib.hid (fun v w1 h1 h2 => by
    have hb : Below W.heap.size W w1 := ((Below.refl _ W).alloc (Nat.le_refl _) _).trans (below_grown h2 (by rw [World.size_alloc]; omega) (fun q h => by cases h; exact Nat.le_refl _))
    obtain ⟨a1, c1, e, hc⟩ := OwnB.shape h1
    rw [List.nil_append] at h1 e
    rw [hlen] at e
    subst e
    exact ⟨hb, a1, c1, rfl, h1.alloc _, Rd.new w1 (bs [77]) _, by rw [World.size_alloc]; have := hb.size; omega⟩)
  have KO2 : Hid (∀ (w1 : World) (a1 : Option Addr) (c1 : Nat) v w2, Below W.heap.size W w1 → OwnB (w1.alloc (.cells #[.int .u8 77] 5)) W.heap.size (.slice a1 nd c1) data → OwnB w2 W.heap.size v (data ++ [77]) → (w1.alloc (.cells #[.int .u8 77] 5)).grownBy w2 (Value.slice a1 nd c1).ownBlock →
      Below W.heap.size W w2 ∧ ∃ g o c, v = .slice (some ⟨g, o, none⟩) (nd + 1) c ∧ nd + 1 ≤ c ∧ c ≤ 9223372036854775807 ∧ g < w2.heap.size ∧ Rd w2 w2.heap.size (some ⟨g, o, none⟩) (bs data) ∧ w2.cell? ⟨g, o + nd, none⟩ = some (.int .u8 77)) := Lib.hid (fun w1 a1 c1 v w2 hb h0 h1 h2 => by
    obtain ⟨g, o, c, e, hc, hg, hg2, hc2, hr, h77⟩ := own77 h1
    rw [hlen] at e hc h77
    refine ⟨(hb.alloc hb.size _).trans (below_grown h2 (by rw [World.size_alloc]; have := hb.size; omega) (fun q hq => (OwnB.lt h0 q hq).1)), g, o, c, e, hc, hc2, hg2, hr, h77⟩)
  go_wp2_with (first
    | (refine wpList_app rfl _ _ rfl W.heap.size _ [] rfl HL0.out W.heap.size ad nd cd data rfl hlen (HX.out.rd.alloc (Nat.le_refl _) _) (by simp; omega) (by rw [World.size_alloc]; omega) ?_; intro v1 w1 ho1 hg1 hv1; obtain ⟨hb1, a1, c1, rfl, ho1', hr77, hsz1⟩ := KO1.out v1 w1 ho1 hg1; have HO1 := Lib.hid ho1'; have HR77 := Lib.hid hr77; have HB1 := Lib.hid hb1; clear ho1 hg1 hv1 ho1' hr77 hb1)
    | (refine wpList_app rfl _ _ rfl W.heap.size _ data rfl HO1.out (w1.heap.size + 1) (some ⟨w1.heap.size, 0, none⟩) 1 1 [77] rfl rfl HR77.out (by omega) hsz1 ?_; intro v2 w2 ho2 hg2 hv2; obtain ⟨hb2, g, o, c, rfl, hc1', hc2', hgl, hr2, h77⟩ := KO2.out w1 a1 c1 v2 w2 HB1.out HO1.out ho2 hg2; have HR2 := Lib.hid hr2; have H77 := Lib.hid h77; have HB2 := Lib.hid hb2; clear ho2 hg2 hv2 hr2 h77 hb2))
  refine (mb_any data (some ⟨g, o, none⟩) nd c w2 hlen (by omega) hc2' (by omega) HR2.out (HK.out.below HB2.out)).mono ?_
  rintro e w3 ⟨vt, rfl, hot, hb3⟩
  obtain ⟨at_, ct, rfl, hct⟩ := OwnB.shape hot
  obtain ⟨E0, hE0⟩ : ∃ E0, bE data = E0 := ⟨_, rfl⟩
  obtain ⟨LT, hLT⟩ : ∃ LT, (bT data).length = LT := ⟨_, rfl⟩
  rw [hE0, hLT]
  rw [hLT] at hot hct
  obtain ⟨X, Z, hX, hinf, hone, hzz, hzs, w4, hw4, hB4, hb4, hs4⟩ := keep_digest w3 (bR data) (bR_length _)
  rw [hX]
  have hb24 := hb3.trans (hb4.mono hb3.size)
  have HB04 := Lib.hid (HB2.out.trans (hb24.mono HB2.out.size))
  have HB24 := Lib.hid hb24
  have HT4 : Hid (Rd w4 w4.heap.size at_ (bs (bT data))) := Lib.hid ((hot.rd.below hb4).more hb4.size)
  have HX4 := Lib.hid hB4
  have HXX := Lib.hid hX
  have HINF := Lib.hid hinf
  have HRB := Lib.hid (rb_any data ad nd cd w4 hlen hcp (by omega) ((HX.out.rd.below HB04.out).more HB04.out.size))
  rw [hX, hE0] at HRB
  have HE0 := Lib.hid hE0
  have HLT := Lib.hid hLT
  clear hX hB4 hb4 hs4 hb3 hb24 hot hE0 hLT hct
  go_wp2_with (refine wpList_store_row rfl 24 _ _ rfl w3.heap.size X rfl rfl 24 Z hzz hinf hzs hone (hgoalL hw4 ?_))
  refine HRB.out.mono ?_
  rintro e w5 ⟨vu, rfl, hou, hb5⟩
  obtain ⟨au, cu, rfl, hcu⟩ := OwnB.shape hou
  rw [HLT.out] at hou hcu ⊢
  obtain ⟨X6, Z6, hX6, hinf6, hone6, hzz6, hzs6, w6, hw6, hB6, hb6, hs6⟩ := keep_digest w5 (bR data) (bR_length _)
  have hXX : X6 = X := by rw [← hX6]; exact HXX.out
  subst hXX
  have hb46 := hb5.trans (hb6.mono hb5.size)
  have HB06 := Lib.hid (HB04.out.trans (hb46.mono HB04.out.size))
  have HB26 := Lib.hid (HB24.out.trans (hb46.mono HB24.out.size))
  have HX46 := Lib.hid (HX4.out.below hb46)
  have HX66 := Lib.hid hB6
  have hs1 := same_any at_ au LT LT ct cu (bT data) (bT data) w6 HLT.out HLT.out ((HT4.out.below hb46).more hb46.size) ((hou.rd.below hb6).more hb6.size)
  have hs2 := same_any (some ⟨g, o, none⟩) ad nd nd c cd data data w6 hlen hlen ((HR2.out.below HB26.out).more HB26.out.size) ((HX.out.rd.below HB06.out).more HB06.out.size)
  rw [beq_self_eq_true] at hs1 hs2
  have HS1 := Lib.hid hs1
  have HS2 := Lib.hid hs2
  clear hX6 hB6 hb6 hs6 hb5 hb46 hou hcu hs1 hs2 hzz hinf hzs hone hw4 HRB HT4
  go_wp2_with (refine wpList_store_row rfl 24 _ _ rfl w5.heap.size X6 rfl rfl 24 Z6 hzz6 hinf6 hzs6 hone6 (hgoalL hw6 ?_))
  refine HS1.out.mono ?_
  rintro e w7 ⟨rfl, hw7⟩
  subst hw7
  go_wp2_with fail
  refine HS2.out.mono ?_
  rintro e w7 ⟨rfl, hw7⟩
  subst hw7
  clear HS1 HS2
  go_wp2_with fail
  refine (mealive_any w6 (HK.out.below HB06.out)).mono ?_
  rintro e w8 ⟨rfl, hb8⟩
  have HB8 := Lib.hid (HB06.out.trans (hb8.mono HB06.out.size))
  have h77 : w8.cell? ⟨g, o + nd, none⟩ = some (.int .u8 77) := (((HB26.out.trans (hb8.mono HB26.out.size))).cell (p := ⟨g, o + nd, none⟩) hgl).trans H77.out
  have g3 := HX46.out.below hb8
  have g5 := HX66.out.below hb8
  rw [show (bs (bR data)) = X6.toList from by rw [← HXX.out]] at g3 g5
  have h3 : w8.heap[w3.heap.size]? = some (.cells X6 24 (0, 0)) := by simpa [Blk] using g3
  have h5 : w8.heap[w5.heap.size]? = some (.cells X6 24 (0, 0)) := by simpa [Blk] using g5
  have he : ∀ wx, (Op.equalIn 10000 24 (.agg X6) (.agg X6)).run Tryd.prog wx = .ok true wx := fun wx => by
    have := eq_digest (bR data) (bR data) (bR_length _) (bR_length _) HXX.out HXX.out wx
    rwa [beq_self_eq_true] at this
  clear g3 g5 hb8 hzz6 hinf6 hzs6 hone6 hw6 HX46 HX66
  go_wp2_with (first
    | refine wpList_load_rowG (by rfl) 24 (.tmp 5) rfl w3.heap.size rfl 24 X6 (0, 0) _ h3 Tryd.underlying24 rfl HINF.out ?_
    | refine wpList_load_rowG (by rfl) 24 (.tmp 8) rfl w5.heap.size rfl 24 X6 (0, 0) _ h5 Tryd.underlying24 rfl HINF.out ?_)
  go_ret
  exact ⟨rfl, HB8.out⟩
end Go.Proofs.YtnfchojekcoplaaDoor
