/- devices: New, Read, Clone, put -/
import Derived.Test.YthenpkimcjdkcaaDv3
import Derived.Test.YthenpkimcjdkcaaCopy
namespace Go.Proofs.Ythenpkimcjdkcaa
set_option linter.unusedVariables false
set_option linter.unusedSimpArgs false
open Go.RowKit

theorem sclone_any (a : Option Addr) (n cap : Nat) (l : List UInt8) (w : World) (hn : l.length = n) (hl : n ≤ 140737488355327) {Bd : Nat} (hr : Rd w Bd a (bs l)) (hB : Bd ≤ w.heap.size) :
    Calls Try.prog 79 #[.slice a n cap] w (Made1 l w) := by
  have qT : ∀ (w : World) (a : Option Addr) (n c n' c' : Nat), (binOp .eql 30 (.slice a n c) (.slice none n' c')).run Try.prog w = .ok (.bool a.isNone) w := fun w a n c n' c' => Lib.run_eql_slice_nil w _ _ a n c n' c' Try.underlying30
  cases a with
  | none =>
    have h0 : l = [] := by
      rcases hr with h | ⟨b, off, h, _⟩
      · simpa [bs] using h
      · cases h
    subst h0
    go_enter Try.func79, Try.ntmps79
    go_wp2_with fail
    go_ret
    exact ⟨_, _, _, rfl, OwnB.nil _ _, Below.refl _ _⟩
  | some b =>
    have HR := Lib.hid hr
    have HN := Lib.hid hn
    clear hr hn
    go_enter Try.func79, Try.ntmps79
    go_wp2_with (at_builtin; refine wpList_app rfl _ _ rfl w.heap.size _ [] rfl (OwnB.lit0 w) Bd _ n cap l rfl HN.out (Rd.alloc HR.out hB _) (by simp; omega) (by simp) ?_)
    intro v2 w2 hown2 hgr2 hat2
    have hb := below_app ((Below.refl w.heap.size w).alloc (Nat.le_refl _) _) (OwnB.lit0 w) (Nat.le_refl _) hgr2
    obtain ⟨a2, c2, rfl, _⟩ := hown2.shape
    have HO := Lib.hid hown2
    clear hown2
    go_wp2_with fail
    go_ret
    exact ⟨_, _, _, rfl, by simpa using HO.out, hb⟩

theorem FMap.alloc {w : World} {b : Nat} {f : Int → List UInt8} {I : Nat → Prop} (h : FMap w I b f) (o : Obj) (hI : ∀ k, I k → k < w.heap.size := by intro k h; exact h.elim) : FMap (w.alloc o) I b f :=
  h.keep (Below.heap_alloc _ _ _ h.lt) (fun _ h => h) fun k hk => Below.heap_alloc _ _ _ (hI k hk)
theorem BMap.alloc {w : World} {b : Nat} {f : Int → Bool} (h : BMap w b f) (o : Obj) : BMap (w.alloc o) b f := h.keep (Below.heap_alloc _ _ _ h.lt)
/-- A new device. -/
def dv0 (n : Nat) : Dv := ⟨n, fun _ => zeros 64, fun _ => zeros 64, fun _ => false, false, [], []⟩
def NewPost (n : Nat) (w : World) (e : Ending) (w' : World) : Prop :=
  ∃ L : Lay, e = .returned (.tuple #[.pointer (some ⟨L.g, 0, none⟩), .int .i64 0]) ∧ DevAt w' L (fun _ => False) (dv0 n) ∧ Clk w' L.clk 0 ∧ Below w.heap.size w w' ∧ (∀ k, L.M k → w.heap.size ≤ k) ∧ w.heap.size ≤ L.clk
theorem newDev_any (n : Nat) (h1 : 1 ≤ n) (h2 : n ≤ 2048) (w : World) : Calls Try.prog 14 #[.int .i64 (n : Int)] w (NewPost n w) := by
  have n1 : ¬ (n : Int) < 1 := by omega
  have n2 : ¬ (2048 : Int) < (n : Int) := by omega
  have hmm := @run_makeMap Try.prog
  go_enter Try.func14, Try.ntmps14
  go_wp2_with fail
  refine bodyPost_ret (v := .tuple #[.pointer (some ⟨w.heap.size + 1 + 1 + 1 + 1, 0, none⟩), .int .i64 0]) (by simp [results, Try.results14, go_sem]) rfl ?_
  refine ⟨⟨w.heap.size + 1 + 1 + 1 + 1, w.heap.size, w.heap.size + 1, w.heap.size + 1 + 1, w.heap.size + 1 + 1 + 1, .slice none 0 0, .slice none 0 0⟩, rfl, ?_, ?_, ?_, ?_, ?_⟩
  · have f1 := ((((FMap.new w (fun _ => False)).alloc (.map #[] 0)).alloc (.map #[] 0)).alloc (Obj.cells #[Value.int IntKind.i64 0] 3))
    have f2 := (((FMap.new (w.alloc (.map #[] 0)) (fun _ => False)).alloc (.map #[] 0)).alloc (Obj.cells #[Value.int IntKind.i64 0] 3))
    have f3 := ((BMap.new ((w.alloc (.map #[] 0)).alloc (.map #[] 0))).alloc (Obj.cells #[Value.int IntKind.i64 0] 3))
    have b4 := Blk.new ((((w.alloc (.map #[] 0)).alloc (.map #[] 0)).alloc (.map #[] 0)).alloc (Obj.cells #[Value.int IntKind.i64 0] 3)) 95 [Value.int IntKind.i64 ↑n, Value.map (some w.heap.size), Value.map (some (w.heap.size + 1)), Value.map (some (w.heap.size + 1 + 1)), Value.bool false, Value.slice none 0 0, Value.slice none 0 0, Value.pointer (some { block := w.heap.size + 1 + 1 + 1, off := 0 })]
    simp only [World.size_alloc] at f2 f3 b4
    exact ⟨b4, f1.alloc _, f2.alloc _, f3.alloc _, ⟨[], OwnG.nil _ _ _ _, by simp [LogC, dv0]⟩, OwnG.nil _ _ _ _, fun _ h => h.elim, by simp, by simp; omega, by simp⟩
  · have b3 := Blk.new (((w.alloc (.map #[] 0)).alloc (.map #[] 0)).alloc (.map #[] 0)) 3 [Value.int IntKind.i64 0]
    simp only [World.size_alloc] at b3
    exact b3.alloc _
  · exact ((((((Below.refl _ _).alloc (Nat.le_refl _) _).alloc (by simp) _).alloc (by simp; omega) _).alloc (by simp; omega) _).alloc (by simp; omega) _)
  · intro k hk
    simp only [Lay.M, Value.ownBlock] at hk
    rcases hk with hk | hk | hk | hk | hk | hk <;> first | (subst hk; omega) | cases hk
  · simp; omega
theorem newDev_bad (n : Int) (h : n < 1 ∨ 2048 < n) (w : World) : Calls Try.prog 14 #[.int .i64 n] w fun e w' => e = .returned (.tuple #[.pointer none, .int .i64 1]) ∧ w = w' := by
  go_enter Try.func14, Try.ntmps14
  by_cases h1 : n < 1
  · clear h
    go_wp2_with fail
    refine bodyPost_ret (v := .tuple #[.pointer none, .int .i64 1]) (by simp [results, Try.results14, go_sem]) rfl ⟨rfl, rfl⟩
  · have h2 : 2048 < n := by omega
    clear h
    go_wp2_with fail
    refine bodyPost_ret (v := .tuple #[.pointer none, .int .i64 1]) (by simp [results, Try.results14, go_sem]) rfl ⟨rfl, rfl⟩

/-- What is read of a sector. -/
def readR (D : Dv) (i : Int) : List UInt8 × Int := if faultN D i ≠ 0 then ([], faultN D i) else if D.bad i then ([], 72) else (D.now i, 0)
def ReadPost (r : List UInt8 × Int) (w : World) (e : Ending) (w' : World) : Prop := ∃ a c, e = .returned (.tuple #[.slice a r.1.length c, .int .i64 r.2]) ∧ OwnB w' w.heap.size (.slice a r.1.length c) r.1 ∧ Below w.heap.size w w'
set_option maxRecDepth 20000 in
set_option maxHeartbeats 1000000 in
theorem read_any {w : World} {L : Lay} {I : Nat → Prop} {D : Dv} (h : DevAt w L I D) (i : Int) (h1 : -9223372036854775808 ≤ i) (h2 : i ≤ 9223372036854775807) :
    Calls Try.prog 18 #[.pointer (some ⟨L.g, 0, none⟩), .int .i64 i] w (ReadPost (readR D i) w) := by
  obtain ⟨r, hr⟩ : ∃ r, readR D i = r := ⟨_, rfl⟩
  rw [hr]
  have HR := Lib.hid hr
  have HF := Lib.hid (fault_any h i)
  have hb := h.bad.look i h1 h2
  have k3 := h.cell 3 _ rfl
  have H := Lib.hid h
  have H1 := Lib.hid h1
  have H2 := Lib.hid h2
  clear h hr h1 h2
  go_enter Try.func18, Try.ntmps18
  go_wp2_with fail
  refine HF.out.mono ?_
  rintro e w1 ⟨rfl, rfl⟩
  obtain ⟨f, hf⟩ : ∃ f, faultN D i = f := ⟨_, rfl⟩
  rw [hf]
  have HFE := Lib.hid hf
  by_cases hf0 : f = 0
  · subst hf0
    clear hf HF
    by_cases hbad : D.bad i = true
    · have HE : Hid (r = ([], 72)) := Lib.hid (by rw [← HR.out, readR, if_neg (by simp [HFE.out]), if_pos hbad])
      rw [hbad] at hb
      go_wp2_with fail
      refine bodyPost_ret (v := .tuple #[.slice none 0 0, .int .i64 72]) (by simp [results, Try.results18, go_sem]) rfl ?_
      rw [HE.out]
      exact ⟨none, 0, rfl, OwnB.nil _ _, Below.refl _ _⟩
    · have hbad2 : D.bad i = false := by simpa using hbad
      have HE : Hid (r = (D.now i, 0)) := Lib.hid (by rw [← HR.out, readR, if_neg (by simp [HFE.out]), if_neg hbad])
      rw [hbad2] at hb
      clear hbad
      go_wp2_with (at_make; refine wpList_makeB _ rfl _ _ rfl _ _ _ _ 64 rfl rfl rfl rfl (by decide) ?_)
      intro w2 hown2 hg2
      have hb2 : Below w.heap.size w w2 := (Below.refl _ _).grown hg2 (Nat.le_refl _) (fun k hk => by cases hk)
      have H2' := H.out.below hb2
      have k2 := H2'.cell 2 _ rfl
      obtain ⟨v, x, hlk, hv, hx, hfx⟩ := H2'.now.look i H1.out H2.out
      obtain ⟨ax, cx, rfl, hcx, hrx⟩ := hv.rd
      have HO2 := Lib.hid hown2
      have HB2 := Lib.hid hb2
      have HX := Lib.hid hx
      have HRX := Lib.hid hrx
      have HFX := Lib.hid hfx
      clear hown2 hg2 hb2 H2' hv hx hrx hfx k3 hb hbad2
      go_wp2_with ((with_reducible show wpList _ _ _ _ _ _); (refine wpList_copyB rfl (.tmp 21) (.tmp 27) _ _ rfl Try.underlying30 _ _ _ _ _ _ rfl rfl w.heap.size w.heap.size 0 64 (zeros 64) HO2.out 0 x (by have := HX.out; exact (Nat.min_eq_left this).symm) (by have := HX.out; rw [zeros_length]; omega) (fun _ => rfl) HRX.out ?_))
      intro w3 hown3 hg3
      have hov : overlay (zeros 64) 0 x = full x := by
        have h1 : (zeros 64).drop (0 + x.length) = zeros (64 - x.length) := by rw [zeros, zeros, List.drop_replicate, Nat.zero_add]
        rw [overlay, h1]; rfl
      rw [hov] at hown3
      have hb3 : Below w.heap.size w w3 := HB2.out.grown hg3 HB2.out.size (fun k hk => by injection hk with hk; omega)
      have HO3 := Lib.hid hown3
      have HB3 := Lib.hid hb3
      clear hown3 hg3 hov hb3 hlk k2
      go_wp2_with fail
      refine bodyPost_ret (v := .tuple #[.slice (some ⟨w.heap.size, 0, none⟩) 64 64, .int .i64 0]) (by simp [results, Try.results18, go_sem]) rfl ?_
      rw [HE.out, HFX.out]
      have hl : (full x).length = 64 := full_length x HX.out
      refine ⟨some ⟨w.heap.size, 0, none⟩, 64, by simp only [hl], ?_, HB3.out⟩
      simp only [hl]
      have := HO3.out
      rw [zeros_length] at this
      exact this
  · have HE : Hid (r = ([], f)) := Lib.hid (by rw [← HR.out, readR, HFE.out, if_pos hf0])
    have hfB : (f == 0) = false := beq_eq_false_iff_ne.2 hf0
    clear hf HF
    go_wp2_with fail
    refine bodyPost_ret (v := .tuple #[.slice none 0 0, .int .i64 f]) (by simp [results, Try.results18, go_sem]) rfl ?_
    rw [HE.out]
    exact ⟨none, 0, rfl, OwnB.nil _ _, Below.refl _ _⟩
end Go.Proofs.Ythenpkimcjdkcaa
