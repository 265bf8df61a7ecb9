/- devices: put -/
import Derived.Test.YthenpkimcjdkcaaDv4
namespace Go.Proofs.Ythenpkimcjdkcaa
set_option linter.unusedVariables false
set_option linter.unusedSimpArgs false
open Go.RowKit

/-- From L to L', from I to I': what a call on a device turns. -/
structure Grow (w w' : World) (L L' : Lay) (I I' : Nat → Prop) : Prop where
  g : L'.g = L.g
  clk : L'.clk = L.clk
  chg : Chg (fun k => L.M k ∨ k = L.clk) w w'
  m : ∀ k, L'.M k → L.M k ∨ w.heap.size ≤ k
  i : ∀ k, I' k → I k ∨ w.heap.size ≤ k
theorem Grow.refl (w : World) (L : Lay) (I : Nat → Prop) : Grow w w L L I I := ⟨rfl, rfl, Chg.refl _ _, fun _ => .inl, fun _ => .inl⟩
theorem Grow.trans {w w' w'' : World} {L L' L'' : Lay} {I I' I'' : Nat → Prop} (h : Grow w w' L L' I I') (h' : Grow w' w'' L' L'' I' I'') : Grow w w'' L L'' I I'' :=
  ⟨h'.g.trans h.g, h'.clk.trans h.clk, h.chg.trans h'.chg (fun k hk => by
      rcases hk with hk | hk
      · rcases h.m k hk with h1 | h1
        · exact .inl (.inl h1)
        · exact .inr h1
      · rw [h.clk] at hk; exact .inl (.inr hk)),
    fun k hk => (h'.m k hk).elim (fun hk => h.m k hk) (fun hk => .inr (Nat.le_trans h.chg.size hk)),
    fun k hk => (h'.i k hk).elim (fun hk => h.i k hk) (fun hk => .inr (Nat.le_trans h.chg.size hk))⟩
theorem Grow.of_below {w w' : World} (h : Below w.heap.size w w') (L : Lay) (I : Nat → Prop) : Grow w w' L L I I := ⟨rfl, rfl, Chg.of_below h, fun _ => .inl, fun _ => .inl⟩

theorem grown_drew {w w' : World} {r : Option Nat} (h : w.drew.grownBy w' r) : w.grownBy w' r := ⟨h.os, h.tape, h.output, h.size, h.block⟩
theorem info_wr : (Try.prog.info? 102).map (fun i => (i.zero, i.size, i.bytes)) = some (some (.agg #[.int .i64 0, .slice none 0 0, .bool false, .int .i64 0]), 4, 48) := by kernel_rfl
theorem bcell {W w1 : World} (hb : Below W.heap.size W w1) : (∀ b o, b < W.heap.size → w1.cell? ⟨b, o, none⟩ = W.cell? ⟨b, o, none⟩) ∧ (∀ b o, b < W.heap.size → w1.frozen? ⟨b, o, none⟩ = W.frozen? ⟨b, o, none⟩) :=
  ⟨fun b o h => hb.cell (p := ⟨b, o, none⟩) h, fun b o h => hb.frozen (p := ⟨b, o, none⟩) h⟩
theorem DevAt.drew {w : World} {L : Lay} {I : Nat → Prop} {D : Dv} (h : DevAt w L I D) : DevAt w.drew L I D := h.keep (fun _ _ => rfl) (fun _ _ => rfl)
theorem DevAt.drewN {w : World} {L : Lay} {I : Nat → Prop} {D : Dv} (h : DevAt w L I D) (n : Nat) : DevAt (w.drewN n) L I D := h.keep (fun _ _ => rfl) (fun _ _ => rfl)
/-- Bytes that do not lie in block q. -/
def Apt (q : Nat) (a : Option Addr) (b : List UInt8) : Prop := b = [] ∨ ∀ ad, a = some ad → ad.block ≠ q
theorem Apt.of {w : World} {a : Option Addr} {b : List UInt8} {Bd q : Nat} (h : Rd w Bd a (bs b)) (hq : Bd ≤ q) : Apt q a b := by
  rcases h with h | ⟨g, off, ha, hlt, _⟩
  · exact .inl (by simpa [bs] using h)
  · refine .inr fun ad had => ?_
    rw [ha] at had
    injection had with had
    subst had
    show g ≠ q
    omega
theorem Apt.new {g off q : Nat} {b : List UInt8} (h : q < g) : Apt q (some ⟨g, off, none⟩) b := .inr fun ad had => by
  injection had with had
  subst had
  show g ≠ q
  omega
def Dv.put (D : Dv) (i : Int) (b : List UInt8) (sure : Bool) (m : Int) : Dv := { D with now := setF D.now i (full b), log := D.log ++ [⟨i, b, sure, m⟩] }
def PutPost (L : Lay) (I : Nat → Prop) (D : Dv) (c : Int) (w : World) (e : Ending) (w' : World) : Prop :=
  e = .returned (.tuple #[]) ∧ ∃ L' I', DevAt w' L' I' D ∧ Clk w' L.clk c ∧ Grow w w' L L' I I'

set_option maxRecDepth 20000 in
set_option maxHeartbeats 2000000 in
theorem put_any {w : World} {L : Lay} {I : Nat → Prop} {D : Dv} {k : Int} (h : DevAt w L I D) (hk : Clk w L.clk k) (hk1 : 0 ≤ k) (hk2 : k ≤ 1000000000) (hlog : D.log.length ≤ 1000000) (i : Int) (hi1 : -9223372036854775808 ≤ i) (hi2 : i ≤ 9223372036854775807)
    (a : Option Addr) (n c : Nat) (b : List UInt8) (sure : Bool) (hn : b.length = n) (hn2 : n ≤ 64) (hr : Rd w w.heap.size a (bs b)) (hcl : Apt L.clk a b) :
    Calls Try.prog 61 #[.pointer (some ⟨L.g, 0, none⟩), .int .i64 i, .slice a n c, .bool sure] w (PutPost L I (D.put i b sure (k + 1)) (k + 1) w) := by
  have H := Lib.hid h
  have HK := Lib.hid hk
  have HR := Lib.hid hr
  have HN := Lib.hid hn
  have HI1 := Lib.hid hi1
  have HI2 := Lib.hid hi2
  have HL := Lib.hid hlog
  have HCL := Lib.hid hcl
  have k7 := h.cell 7 _ rfl
  have c0 := Blk.cell hk 0 _ rfl
  have fc0 := Blk.frozen hk 0
  have h1 : DevAt (w.setCell ⟨L.clk, 0, none⟩ (.int .i64 (k + 1))) L I D := h.chg (Chg.setCell w _ _ rfl : Chg (fun j => j = L.clk) w _) (fun j hj => by subst hj; exact ⟨h.clk_notM hk, h.clk_notI hk⟩)
  have hc1 : Clk (w.setCell ⟨L.clk, 0, none⟩ (.int .i64 (k + 1))) L.clk (k + 1) := Blk.set hk 0 (.int .i64 (k + 1))
  have hr1 : Rd (w.setCell ⟨L.clk, 0, none⟩ (.int .i64 (k + 1))) w.heap.size a (bs b) := by
    rcases hr with hr | ⟨q, off, ha, hlt, hcell⟩
    · exact .inl hr
    · rcases hcl with hcl | hcl
      · subst hcl; exact .inl rfl
      · exact .inr ⟨q, off, ha, hlt, fun j u hu => (World.cell?_of_block (a := ⟨q, off + j, none⟩) (Below.heap_setCell w _ _ q (hcl _ ha))).trans (hcell j u hu)⟩
  have H1 := Lib.hid h1
  have HC1 := Lib.hid hc1
  have HR1 := Lib.hid hr1
  have HG1 : Hid (Grow w (w.setCell ⟨L.clk, 0, none⟩ (.int .i64 (k + 1))) L L I I) := Lib.hid ⟨rfl, rfl, Chg.setCell w _ _ (.inr rfl), fun _ => .inl, fun _ => .inl⟩
  clear h hk hr hn hi1 hi2 hlog h1 hc1 hr1 hcl
  go_enter Try.func61, Try.ntmps61
  go_upto_region 1 with (fail)
  generalize w.setCell ⟨L.clk, 0, none⟩ (.int .i64 (k + 1)) = w1 at H1 HC1 HR1 HG1 ⊢
  have b7 : ∀ wx, Below w1.heap.size w1 wx → wx.cell? ⟨L.g, 7, none⟩ = some (.pointer (some ⟨L.clk, 0, none⟩)) := fun wx hx => (H1.out.below hx).cell 7 _ rfl
  have bc : ∀ wx, Below w1.heap.size w1 wx → wx.cell? ⟨L.clk, 0, none⟩ = some (.int .i64 (k + 1)) := fun wx hx => Blk.cell (Blk.below HC1.out hx) 0 _ rfl
  have KC : Hid (∀ wx, Below w1.heap.size w1 wx → Calls Try.prog 79 #[.slice a n c] wx fun e w' => ∃ a2 c2, e = .returned (.slice a2 n c2) ∧ OwnB w' wx.heap.size (.slice a2 n c2) b ∧ Below wx.heap.size wx w' ∧ Below w1.heap.size w1 w') := Lib.hid (fun wx hx => by
    refine (sclone_any a n c b wx HN.out (by omega) (HR1.out.below (hx.mono HG1.out.chg.size)) (Nat.le_trans HG1.out.chg.size hx.size)).mono ?_
    rintro e w' ⟨a2, n2, c2, rfl, hown, hb⟩
    have := OwnB.len hown
    rw [HN.out] at this
    subst this
    exact ⟨a2, c2, rfl, hown, hb, hx.trans (hb.mono hx.size)⟩)
  have hr0 : Below w1.heap.size w1 w1 := Below.refl _ _
  have hr1 : Below w1.heap.size w1 w1.drew := (Below.refl _ _).drew
  have HAL : Hid (∀ wx o, Below w1.heap.size w1 wx → Below w1.heap.size w1 (wx.alloc o)) := Lib.hid (fun wx o h => h.alloc h.size o)
  have HS4 : Hid (∀ wx v0 v1 v2 v3, Below w1.heap.size w1 wx → Below w1.heap.size w1 ((((wx.setCell ⟨w1.heap.size, 0, none⟩ v0).setCell ⟨w1.heap.size, 1, none⟩ v1).setCell ⟨w1.heap.size, 2, none⟩ v2).setCell ⟨w1.heap.size, 3, none⟩ v3)) := Lib.hid (fun wx v0 v1 v2 v3 h => (((h.setCell (Nat.le_refl _) v0).setCell (Nat.le_refl _) v1).setCell (Nat.le_refl _) v2).setCell (Nat.le_refl _) v3)
  have HST : Hid (∀ wx o j v, Below w1.heap.size w1 wx → Below w1.heap.size w1 ((wx.alloc o).setCell ⟨wx.heap.size, j, none⟩ v)) := Lib.hid (fun wx o j v h => (h.alloc h.size o).setCell h.size v)
  clear k7 c0 fc0
  go_cut [8] (fun v8 wn => ∃ q a2 c2, v8 = .pointer (some ⟨q, 0, none⟩) ∧ Blk wn q 102 [.int .i64 i, .slice a2 n c2, .bool sure, .int .i64 (k + 1)] ∧ Below w1.heap.size w1 wn ∧ w1.heap.size ≤ q ∧ OwnB wn w1.heap.size (.slice a2 n c2) b)
  case first =>
    go_region_held3 (fun w' => Below w1.heap.size w1 w')
      (first | assumption | exact HAL.out _ _ (by assumption) | exact HST.out _ _ _ _ (by assumption) | exact HS4.out _ _ _ _ _ (by assumption) | go_keep)
      (first
        | ((with_reducible refine (KC.out _ (by assumption)).mono ?_); rintro e w2 ⟨a2, c2, rfl, hown2, hb2, hS2⟩; obtain ⟨hcb, hfb⟩ := bcell hb2)
        | fail)
    all_goals go_wp2_with fail
    all_goals go_meet
    · exact ⟨w2.heap.size, a2, c2, rfl, Blk.new w2 _ _, HAL.out _ _ hS2, hS2.size, OwnB.alloc (OwnB.base_mono hown2 (by simp)) _⟩
    · have hq := ((((Blk.below (Blk.drew (Blk.new w1 102 [Value.int IntKind.i64 0, Value.slice none 0 0, Value.bool false, Value.int IntKind.i64 0])) hb2).set 0 (.int .i64 i)).set 1 (.slice a2 n c2)).set 2 (.bool sure)).set 3 (.int .i64 (k + 1))
      refine ⟨w1.heap.size, a2, c2, rfl, hq, HS4.out _ _ _ _ _ hS2, Nat.le_refl _, OwnG.keep (OwnB.base_mono hown2 (by simp)) fun g hg hlt => ?_⟩
      have hne := (OwnG.lt hown2 g hg).1
      simp at hne
      rw [Below.heap_setCell _ _ _ _ (by show g ≠ w1.heap.size; omega), Below.heap_setCell _ _ _ _ (by show g ≠ w1.heap.size; omega), Below.heap_setCell _ _ _ _ (by show g ≠ w1.heap.size; omega), Below.heap_setCell _ _ _ _ (by show g ≠ w1.heap.size; omega)]
  case rest =>
    obtain ⟨q, a2, c2, rfl, hq, hb, hqs, hown⟩ := hcut
    have hI' : ∀ j, (I j ∨ (Value.slice a2 n c2).ownBlock = some j) → isU8 wc j := fun j hj => hj.elim (fun hj => ((H1.out.below hb).imm j hj)) (fun hj => OwnB.u8 hown hj)
    have hbv : BytesV wc (fun j => I j ∨ (Value.slice a2 n c2).ownBlock = some j) (.slice a2 n c2) b := BytesV.own hown _ (fun j hj => .inr hj)
    have HQ := Lib.hid hq
    have HB := Lib.hid hb
    have HQS := Lib.hid hqs
    have HOW := Lib.hid hown
    have HIM := Lib.hid hI'
    have HBV := Lib.hid hbv
    obtain ⟨w3, hr3, h3, hg3⟩ := DevAt.putNow (I' := fun j => I j ∨ (Value.slice a2 n c2).ownBlock = some j) (H1.out.below hb).drew (fun j => .inl) hI' i HI1.out HI2.out hbv (by rw [HN.out]; exact hn2)
    have p2 : wc.cell? ⟨L.g, 2, none⟩ = some (.map (some L.nm)) := (H1.out.below hb).cell 2 _ rfl
    have q1 : wc.cell? ⟨q, 1, none⟩ = some (.slice a2 n c2) := Blk.cell hq 1 _ rfl
    have H3 := Lib.hid h3
    have HG3 := Lib.hid (grown_drew hg3)
    clear hq hb hqs hown hI' hbv h3 hg3 hr0 hr1 b7 bc
    go_upto_region 2 with (fail)
    go_still_tail 7, (by kernel_rfl)
    change wpList _ _ _ _ _ wc.drew
    go_wp2_with fail
    go_upto_region 3 with (fail)
    have h3 := H3.out
    have hq3 : Blk w3 q 102 [.int .i64 i, .slice a2 n c2, .bool sure, .int .i64 (k + 1)] := Blk.keep HQ.out (HG3.out.block q (Blk.lt HQ.out) (fun e => by injection e with e; exact ne_map HQ.out ((H1.out.below HB.out).now.isMap) e))
    obtain ⟨cs, hl3, hlc3⟩ := h3.log
    have p5 : w3.cell? ⟨L.g, 5, none⟩ = some L.vl := h3.cell 5 _ rfl
    have fp5 := h3.blk.frozen 5
    have q0 := Blk.cell hq3 0 _ rfl
    have q1 := Blk.cell hq3 1 _ rfl
    have q2 := Blk.cell hq3 2 _ rfl
    have q3 := Blk.cell hq3 3 _ rfl
    have HLC := Lib.hid hlc3
    have HOL : Hid (OwnG (w3.alloc (Obj.cells #[.int .i64 i, .slice a2 n c2, .bool sure, .int .i64 (k + 1)] 102)) 0 102 4 L.vl D.log.length cs) := Lib.hid (OwnG.alloc hl3 _)
    have HRN : Hid (Rd (w3.alloc (Obj.cells #[.int .i64 i, .slice a2 n c2, .bool sure, .int .i64 (k + 1)] 102)) (w3.heap.size + 1) (some ⟨w3.heap.size, 0, none⟩) [.int .i64 i, .slice a2 n c2, .bool sure, .int .i64 (k + 1)]) := Lib.hid (Rd.new w3 _ _)
    have HOC : Hid (∀ u ∈ [Value.int .i64 i, .slice a2 n c2, .bool sure, .int .i64 (k + 1)], u.oneCell' = true) := Lib.hid (by
      intro u hu
      simp only [List.mem_cons, List.not_mem_nil, or_false] at hu
      rcases hu with rfl | rfl | rfl | rfl <;> rfl)
    have HBY : Hid ((D.log.length + 1) * 48 ≤ 140737488355328) := Lib.hid (by have := HL.out; omega)
    have HB3 : Hid (D.log.length + 1 ≤ 140737488355328) := Lib.hid (by have := HL.out; omega)
    have KP : Hid (∀ w4, (w3.alloc (Obj.cells #[.int .i64 i, .slice a2 n c2, .bool sure, .int .i64 (k + 1)] 102)).grownBy w4 L.vl.ownBlock → (∃ u, w4.cell? ⟨L.g, 5, none⟩ = some u) ∧ w4.frozen? ⟨L.g, 5, none⟩ = false ∧ w4.heap[L.g]? = w3.heap[L.g]?) := Lib.hid (fun w4 hg4 => by
      have hk := (hg4.block L.g (by rw [World.size_alloc]; have := h3.blk.lt; omega) (fun e => (h3.ne.2.2.2.1 L.g e.symm).1 rfl)).trans (Below.heap_alloc w3 _ _ h3.blk.lt)
      exact ⟨⟨_, (World.cell?_of_block (a := ⟨L.g, 5, none⟩) hk).trans p5⟩, (World.frozen?_of_block (a := ⟨L.g, 5, none⟩) hk).trans fp5, hk⟩)
    have p5a : (w3.alloc (Obj.cells #[.int .i64 i, .slice a2 n c2, .bool sure, .int .i64 (k + 1)] 102)).cell? ⟨L.g, 5, none⟩ = some L.vl := (World.cell?_alloc_lt w3 _ _ h3.blk.lt).trans p5
    have FIN : Hid (∀ w4 a4 c4, OwnG w4 0 102 4 (.slice a4 (D.log.length + 1) c4) (D.log.length + 1) (cs ++ [.int .i64 i, .slice a2 n c2, .bool sure, .int .i64 (k + 1)]) → (w3.alloc (Obj.cells #[.int .i64 i, .slice a2 n c2, .bool sure, .int .i64 (k + 1)] 102)).grownBy w4 L.vl.ownBlock → ((Value.slice a4 (D.log.length + 1) c4).ownBlock = L.vl.ownBlock ∨ (Value.slice a4 (D.log.length + 1) c4).ownBlock = some (w3.alloc (Obj.cells #[.int .i64 i, .slice a2 n c2, .bool sure, .int .i64 (k + 1)] 102)).heap.size) →
        PutPost L I (D.put i b sure (k + 1)) (k + 1) w (.returned (.tuple #[])) (w4.setCell ⟨L.g, 5, none⟩ (.slice a4 (D.log.length + 1) c4))) := Lib.hid (fun w4 a4 c4 ho hg4 hat => by
      have hbA : Below w3.heap.size w3 (w3.alloc (Obj.cells #[.int .i64 i, .slice a2 n c2, .bool sure, .int .i64 (k + 1)] 102)) := (Below.refl _ _).alloc (Nat.le_refl _) _
      have hA := h3.below hbA
      have hi3 : ∀ j, I j ∨ (Value.slice a2 n c2).ownBlock = some j → w3.heap[j]? = wc.heap[j]? := fun j hj => HG3.out.block j (HIM.out j hj).lt (fun e => by
        injection e with e
        obtain ⟨cur, fr, h5⟩ := HIM.out j hj
        exact ne_map h5 ((H1.out.below HB.out).now.isMap) e)
      have hv3 : BytesV w3 (fun j => I j ∨ (Value.slice a2 n c2).ownBlock = some j) (.slice a2 n c2) b := HBV.out.keep (fun _ h => h) hi3
      have hkA : ∀ j, (I j ∨ (Value.slice a2 n c2).ownBlock = some j) → (w3.alloc (Obj.cells #[.int .i64 i, .slice a2 n c2, .bool sure, .int .i64 (k + 1)] 102)).heap[j]? = w3.heap[j]? := fun j hj => hbA.block j (h3.ltI hj)
      have hfin := hA.addLog (hlc3.keep (fun _ h => h) hkA) ⟨i, b, sure, k + 1⟩ (hv3.keep (fun _ h => h) hkA) (by rw [HN.out]; exact hn2) ho hg4
      have g2 : Grow w1 w3 L L I (fun j => I j ∨ (Value.slice a2 n c2).ownBlock = some j) := ⟨rfl, rfl, (Chg.of_below HB.out).trans (Chg.of_grown (S := fun j => L.M j ∨ j = L.clk) HG3.out (fun j hj => by injection hj with hj; exact .inl (.inr (.inr (.inl hj.symm))))) (fun _ => .inl), fun _ => .inl, fun j hj => hj.elim .inl (fun hj => .inr (OwnG.lt HOW.out j hj).1)⟩
      have g3 : Grow w3 (w4.setCell ⟨L.g, 5, none⟩ (.slice a4 (D.log.length + 1) c4)) L { L with vl := .slice a4 (D.log.length + 1) c4 } (fun j => I j ∨ (Value.slice a2 n c2).ownBlock = some j) (fun j => I j ∨ (Value.slice a2 n c2).ownBlock = some j) := by
        refine ⟨rfl, rfl, ?_, ?_, fun _ => .inl⟩
        · exact ((Chg.of_below hbA).trans' (Chg.of_grown hg4 (fun j hj => .inl (.inr (.inr (.inr (.inr (.inl hj)))))))).trans' (Chg.setCell w4 _ _ (.inl (.inl rfl)))
        · intro j hj
          rcases hj with hj | hj | hj | hj | hj | hj
          · exact .inl (.inl hj)
          · exact .inl (.inr (.inl hj))
          · exact .inl (.inr (.inr (.inl hj)))
          · exact .inl (.inr (.inr (.inr (.inl hj))))
          · rcases hat with hat | hat
            · exact .inl (.inr (.inr (.inr (.inr (.inl (by rw [← hat]; exact hj))))))
            · right
              have : (Value.slice a4 (D.log.length + 1) c4).ownBlock = some j := hj
              rw [hat] at this
              injection this with this
              rw [← this, World.size_alloc]; omega
          · exact .inl (.inr (.inr (.inr (.inr (.inr hj)))))
      have hgr := (HG1.out.trans g2).trans g3
      have hclk := (HC1.out : Clk w1 L.clk (k + 1))
      refine ⟨rfl, _, _, hfin, ?_, hgr⟩
      have n1 := H1.out.clk_notM hclk
      have hc3 : Clk w3 L.clk (k + 1) := Blk.keep (Blk.below hclk HB.out) (HG3.out.block _ (Blk.lt (Blk.below hclk HB.out)) (fun e => by injection e with e; exact n1 (.inr (.inr (.inl e)))))
      have hc4 : Clk w4 L.clk (k + 1) := Blk.keep (Blk.below hc3 hbA) (hg4.block _ (Blk.lt (Blk.below hc3 hbA)) (fun e => n1 (.inr (.inr (.inr (.inr (.inl e.symm)))))))
      exact Blk.keep hc4 (Below.heap_setCell _ _ _ _ (fun e => n1 (.inl e))))
    clear h3 hq3 hl3 hlc3 p2 hr3
    go_region_law ((refine step_append_g (by rfl) (.tmp 39) (.tmp 41) 92 (by rfl) 0 102 (.agg #[.int .i64 0, .slice none 0 0, .bool false, .int .i64 0]) 4 48 Try.underlying92 info_wr (by rfl) (by omega) L.vl D.log.length cs (by rfl) HOL.out (w3.heap.size + 1) (some ⟨w3.heap.size, 0, none⟩) 1 1 [.int .i64 i, .slice a2 n c2, .bool sure, .int .i64 (k + 1)] (by rfl) rfl HRN.out HOC.out HBY.out HB3.out (Nat.zero_le _) ?_; intro v4 w4 hown4 hg4 hat4; obtain ⟨a4, c4, rfl, _⟩ := OwnG.shape hown4; obtain ⟨⟨u4, hu4⟩, hf4, hk4⟩ := KP.out w4 (grown_drew hg4)))
    all_goals go_wp2_with fail
    all_goals go_end0
    all_goals exact FIN.out _ _ _ hown4 (grown_drew hg4) hat4
end Go.Proofs.Ythenpkimcjdkcaa
