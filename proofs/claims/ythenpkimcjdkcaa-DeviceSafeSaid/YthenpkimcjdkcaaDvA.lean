/- devices: the document's Full; the live question -/
import Derived.Test.YthenpkimcjdkcaaDvN
import Derived.Test.YthenpkimcjdkcaaDvS
import Derived.Test.YthenpkimcjdkcaaSame
import Derived.Test.YthenpkimcjdkcaaFr
namespace Go.Proofs.Ythenpkimcjdkcaa
set_option linter.unusedVariables false
set_option linter.unusedSimpArgs false
open Go.RowKit

theorem overlay_full (x : List UInt8) (h : x.length ≤ 64) : overlay (zeros 64) 0 x = full x := by
  have h1 : (zeros 64).drop (0 + x.length) = zeros (64 - x.length) := by rw [zeros, zeros, List.drop_replicate, Nat.zero_add]
  rw [overlay, h1]; rfl
set_option maxRecDepth 20000 in
set_option maxHeartbeats 1000000 in
theorem full_any (a : Option Addr) (n c : Nat) (b : List UInt8) (w : World) (hn : b.length = n) (hn2 : n ≤ 64) (hr : Rd w w.heap.size a (bs b)) :
    Calls Try.prog 19 #[.slice a n c] w fun e w' => ∃ a' c', e = .returned (.slice a' 64 c') ∧ OwnB w' w.heap.size (.slice a' 64 c') (full b) ∧ Below w.heap.size w w' := by
  have HN := Lib.hid hn
  have HR := Lib.hid hr
  have HN2 := Lib.hid hn2
  clear hn hr hn2
  go_enter Try.func19, Try.ntmps19
  go_wp2_with (at_make; refine wpList_makeB _ rfl _ _ rfl _ _ _ _ 64 rfl rfl rfl rfl (by decide) ?_)
  intro w2 hown2 hg2
  have hb2 : Below w.heap.size w w2 := (Below.refl _ _).grown hg2 (Nat.le_refl _) (fun k hk => by cases hk)
  have HO2 := Lib.hid hown2
  have HB2 := Lib.hid hb2
  have HR2 := Lib.hid (HR.out.below hb2)
  clear hown2 hg2 hb2
  go_wp2_with ((with_reducible show wpList _ _ _ _ _ _); (refine wpList_copyB rfl (.tmp 5) (.tmp 6) _ _ rfl Try.underlying30 _ _ _ _ _ _ rfl rfl w.heap.size w.heap.size 0 64 (zeros 64) HO2.out 0 b (by have := HN2.out; have := HN.out; rw [HN.out]; exact (Nat.min_eq_left HN2.out).symm) (by have := HN2.out; have := HN.out; rw [zeros_length]; omega) (fun _ => rfl) HR2.out ?_))
  intro w3 hown3 hg3
  rw [overlay_full b (by rw [HN.out]; exact HN2.out)] at hown3
  have hb3 : Below w.heap.size w w3 := HB2.out.grown hg3 HB2.out.size (fun k hk => by injection hk with hk; omega)
  have HO3 := Lib.hid hown3
  have HB3 := Lib.hid hb3
  clear hown3 hg3 hb3
  go_wp2_with fail
  go_ret
  exact ⟨_, _, rfl, HO3.out, HB3.out⟩

/-- One device of a law's own. -/
structure DevIn (W w : World) (L : Lay) (I : Nat → Prop) (D : Dv) (k : Int) : Prop where
  dev : DevAt w L I D
  clk : Clk w L.clk k
  m : ∀ j, L.M j → W.heap.size ≤ j
  c : W.heap.size ≤ L.clk
  i : ∀ j, I j → W.heap.size ≤ j
  bel : Below W.heap.size W w
theorem DevIn.step {W w w' : World} {L L' : Lay} {I I' : Nat → Prop} {D D' : Dv} {k k' : Int} (h : DevIn W w L I D k) (hd : DevAt w' L' I' D') (hk : Clk w' L.clk k') (hg : Grow w w' L L' I I') : DevIn W w' L' I' D' k' :=
  ⟨hd, by rw [hg.clk]; exact hk, fun j hj => (hg.m j hj).elim (h.m j) (Nat.le_trans h.bel.size), by rw [hg.clk]; exact h.c, fun j hj => (hg.i j hj).elim (h.i j) (Nat.le_trans h.bel.size),
    h.bel.trans (hg.chg.below h.bel.size (fun j hj => hj.elim (h.m j) (fun e => by rw [e]; exact h.c)))⟩
theorem DevIn.below {W w w' : World} {L : Lay} {I : Nat → Prop} {D : Dv} {k : Int} (h : DevIn W w L I D k) (hb : Below w.heap.size w w') : DevIn W w' L I D k :=
  ⟨h.dev.below hb, Clk.below h.clk hb, h.m, h.c, h.i, h.bel.trans (hb.mono h.bel.size)⟩
theorem DevIn.drewN {W w : World} {L : Lay} {I : Nat → Prop} {D : Dv} {k : Int} (h : DevIn W w L I D k) (n : Nat) : DevIn W (w.drewN n) L I D k := h.below (below_drewN (Below.refl _ _) n)
theorem DevIn.new {W w w' : World} {L : Lay} {n : Nat} (hb : Below W.heap.size W w) (h1 : DevAt w' L (fun _ => False) (dv0 n)) (h2 : Clk w' L.clk 0) (h3 : Below w.heap.size w w') (h4 : ∀ k, L.M k → w.heap.size ≤ k) (h5 : w.heap.size ≤ L.clk) : DevIn W w' L (fun _ => False) (dv0 n) 0 :=
  ⟨h1, h2, fun j hj => Nat.le_trans hb.size (h4 j hj), Nat.le_trans hb.size h5, fun _ h => h.elim, hb.trans (h3.mono hb.size)⟩
/-- A cut of it. -/
theorem DevIn.fresh {W w w' : World} {L L' : Lay} {I I' : Nat → Prop} {D D' : Dv} {k : Int} (h : DevIn W w L I D k) (h1 : DevAt w' L' I' D') (h2 : Clk w' L'.clk 0) (h3 : Fresh w w' L' I I') : DevIn W w' L' I' D' 0 :=
  ⟨h1, h2, fun j hj => Nat.le_trans h.bel.size (h3.m j hj), Nat.le_trans h.bel.size h3.clk, fun j hj => (h3.i j hj).elim (h.i j) (Nat.le_trans h.bel.size), h.bel.trans (h3.below.mono h.bel.size)⟩
theorem clk_ne {w : World} {q : Nat} {c : Int} (h : Clk w q c) {ad : Addr} (hb : w.heap.size ≤ ad.block) : ad.block ≠ q := fun e => by have := Blk.lt h; omega

def aD1 : Dv := (writeR (dv0 4) 1 [97, 98] 0).2.1
def aD2 : Dv := (syncR aD1 1).2
def aD3 : Dv := (writeR aD2 1 [99, 100] 1).2.1
theorem aw1 : (writeR (dv0 4) 1 [97, 98] 0).1 = 0 ∧ (writeR (dv0 4) 1 [97, 98] 0).2.2 = 1 := by decide +kernel
theorem aw3 : (writeR aD2 1 [99, 100] 1).2.2 = 2 := by decide +kernel
theorem ar1 : readR (aD3.cut []) 1 = (full [97, 98], 0) := by decide +kernel
theorem ar2 : readR aD3 1 = (full [99, 100], 0) := by decide +kernel
theorem ap3 : openN (aD3.log.drop (safeN aD3)) = 1 := by decide +kernel
theorem asound : Sound aD3 := by
  refine ⟨by decide +kernel, by decide +kernel, by decide +kernel, by decide +kernel, ?_, ?_⟩
  · intro x hx
    have : aD3.log = [⟨1, [97, 98], false, 1⟩, ⟨1, [99, 100], false, 2⟩] := rfl
    rw [this] at hx
    simp only [List.mem_cons, List.not_mem_nil, or_false] at hx
    rcases hx with rfl | rfl <;> exact ⟨by decide, by decide⟩
  · intro p hp
    have : aD3.syncs = [(1, 1)] := rfl
    rw [this] at hp
    simp only [List.mem_cons, List.not_mem_nil, or_false] at hp
    subst hp
    decide +kernel

set_option maxRecDepth 20000 in
set_option maxHeartbeats 4000000 in
theorem dalive_any (w : World) : Calls Try.prog 15 #[] w fun e w' => e = .returned (.bool true) ∧ Below w.heap.size w w' := by
  have kc := fun (w : World) (C : Array Value) (n c : Nat) => Lib.run_convert_bytes_const (P := Try.prog) w 30 5 C n c Try.underlying30 Try.underlying5
  go_enter Try.func15, Try.ntmps15
  go_wp2_with fail
  refine (newDev_any 4 (by omega) (by omega) w).mono ?_
  rintro e w1 ⟨L, rfl, h1, hk1, hb1, hm1, hc1⟩
  have hd1 := DevIn.new (Below.refl _ _) h1 hk1 hb1 hm1 hc1
  have hbA : Below w1.heap.size w1 (w1.alloc (.cells (bs [97, 98]).toArray 5 (2, 3))) := (Below.refl _ _).alloc (Nat.le_refl _) _
  have hrA := OwnB.rd (OwnB.const w1 [97, 98] 2 (by decide) (by decide))
  have hdA := hd1.below hbA
  have W1 := Lib.hid (write_any hdA.dev hdA.clk (by omega) (by omega) (by simp [dv0]) 1 (by omega) (by omega) (some ⟨w1.heap.size, 0, none⟩) 2 2 [97, 98] rfl hrA (Apt.new (Blk.lt hd1.clk)))
  have HDA := Lib.hid hdA
  clear h1 hk1 hb1 hm1 hc1 hd1 hbA hrA hdA
  go_wp2_with fail
  refine W1.out.mono ?_
  rintro e w2 ⟨rfl, L2, I2, h2, hk2, hg2⟩
  rw [aw1.1]
  rw [aw1.2] at hk2
  have hd2 := HDA.out.step h2 hk2 hg2
  have hg := hg2.g
  have W2 := Lib.hid (sync_any hd2.dev hd2.clk (by decide +kernel))
  have HD2 := Lib.hid hd2
  have HGG := Lib.hid hg
  rw [hg] at W2
  clear h2 hk2 hg2 hd2 hg W1 HDA
  go_wp2_with fail
  refine W2.out.mono ?_
  rintro e w3 ⟨rfl, L3, I3, h3, hk3, hg3⟩
  have hd3 := HD2.out.step h3 hk3 hg3
  have hg : L3.g = L.g := hg3.g.trans HGG.out
  have hbA : Below w3.heap.size w3 (w3.alloc (.cells (bs [99, 100]).toArray 5 (2, 3))) := (Below.refl _ _).alloc (Nat.le_refl _) _
  have hrA := OwnB.rd (OwnB.const w3 [99, 100] 2 (by decide) (by decide))
  have hdA := hd3.below hbA
  have W3 := Lib.hid (write_any hdA.dev hdA.clk (by omega) (by omega) (by decide +kernel) 1 (by omega) (by omega) (some ⟨w3.heap.size, 0, none⟩) 2 2 [99, 100] rfl hrA (Apt.new (Blk.lt hd3.clk)))
  have HDA := Lib.hid hdA
  have HGG := Lib.hid hg
  rw [hg] at W3
  clear h3 hk3 hg3 hd3 hg hbA hrA hdA W2 HD2
  go_wp2_with fail
  refine W3.out.mono ?_
  rintro e w4 ⟨rfl, L4, I4, h4, hk4, hg4⟩
  have hd4 : DevIn w w4 L4 I4 aD3 2 := HDA.out.step h4 hk4 hg4
  have hg : L4.g = L.g := hg4.g.trans HGG.out
  have W4 := Lib.hid (cut_any hd4.dev asound none 0 0 [] rfl (Nat.le_refl _) (by omega) (.inl rfl))
  have HD4 := Lib.hid hd4
  have HGG := Lib.hid hg
  rw [hg] at W4
  clear h4 hk4 hg4 hd4 hg W3 HDA
  go_wp2_with fail
  refine W4.out.mono ?_
  rintro e w5 ⟨Lc, Ic, rfl, h5, hk5, hf5⟩
  have hc5 := HD4.out.fresh h5 hk5 hf5
  have hd5 := HD4.out.below hf5.below
  have W5 := read_any hc5.dev 1 (by omega) (by omega)
  rw [ar1] at W5
  have W5 := Lib.hid W5
  have HD5 := Lib.hid hd5
  clear h5 hk5 hf5 hc5 hd5 W4 HD4
  go_wp2_with fail
  refine W5.out.mono ?_
  rintro e w6 ⟨a6, c6, rfl, hown6, hb6⟩
  have hd6 := HD5.out.below hb6
  have W6 := read_any hd6.dev 1 (by omega) (by omega)
  rw [ar2, HGG.out] at W6
  have W6 := Lib.hid W6
  have HD6 := Lib.hid hd6
  have HO6 : Hid (OwnB w6 w5.heap.size (.slice a6 (full [97, 98]).length c6) (full [97, 98])) := Lib.hid hown6
  have hl : (full [97, 98]).length = 64 := by decide +kernel
  have hl2 : (full [99, 100]).length = 64 := by decide +kernel
  simp only [hl]
  clear hown6 hb6 hd6 W5 HD5
  go_wp2_with fail
  refine W6.out.mono ?_
  rintro e w7 ⟨a7, c7, rfl, hown7, hb7⟩
  have HD7 := Lib.hid (HD6.out.below hb7)
  obtain ⟨b3, o3, rfl, _, q3⟩ := ((OwnB.rd HO6.out).below hb7).byte 0 (by rw [hl]; omega)
  obtain ⟨b4, o4, rfl, _, q4⟩ := (OwnB.rd hown7).byte 0 (by simp only [hl2]; omega)
  have q3 : w7.cell? ⟨b3, o3, none⟩ = some (.int .u8 97) := q3
  have q4 : w7.cell? ⟨b4, o4, none⟩ = some (.int .u8 99) := q4
  simp only [hl2]
  have W7 := pending_any HD7.out.dev (by decide +kernel) (by decide +kernel) asound.safeN
  rw [ap3, HGG.out] at W7
  have W7 := Lib.hid W7
  clear hown7 hb7 W6 HD6
  go_wp2_with fail
  refine W7.out.mono ?_
  rintro e w8 ⟨rfl, hb8⟩
  have HD8 := Lib.hid (HD7.out.below hb8)
  go_wp2_with fail
  go_ret
  exact ⟨rfl, HD8.out.bel⟩

set_option maxRecDepth 20000 in
set_option maxHeartbeats 4000000 in
theorem law_DeviceNil (i : Int) (a : Option Addr) (n c : Nat) (l : List UInt8) (W : World) (hi : (Lit.int .i64 i).wf = true) (h : BytesIn W a n c l) :
    Calls Try.prog 9 #[.int .i64 i, .slice a n c] W fun e w' => e = .returned (.bool true) ∧ Below W.heap.size W w' := by
  clear h
  go_enter Try.func9, Try.ntmps9
  go_wp2_with fail
  refine (spoil_nil i _).mono ?_
  rintro e w1 ⟨rfl, rfl⟩
  go_wp2_with fail
  refine (kill_nil _).mono ?_
  rintro e w1 ⟨rfl, rfl⟩
  go_wp2_with fail
  refine (tamper_nil i a n c _).mono ?_
  rintro e w1 ⟨rfl, rfl⟩
  go_wp2_with fail
  refine (read_nil i _).mono ?_
  rintro e w1 ⟨rfl, rfl⟩
  go_wp2_with fail
  refine (dalive_any _).mono ?_
  rintro e w1 ⟨rfl, hb⟩
  have HB := Lib.hid hb
  clear hb
  go_wp2_with fail
  refine (write_nil' i a n c _).mono ?_
  rintro e w2 ⟨rfl, rfl⟩
  go_wp2_with fail
  refine (size_nil _).mono ?_
  rintro e w2 ⟨rfl, rfl⟩
  go_wp2_with fail
  refine (sync_nil _).mono ?_
  rintro e w2 ⟨rfl, rfl⟩
  go_wp2_with fail
  refine (dead_nil _).mono ?_
  rintro e w2 ⟨rfl, rfl⟩
  go_wp2_with fail
  refine (bad_nil i _).mono ?_
  rintro e w2 ⟨rfl, rfl⟩
  go_wp2_with fail
  refine (pending_nil _).mono ?_
  rintro e w2 ⟨rfl, rfl⟩
  go_wp2_with fail
  refine (writes_nil _).mono ?_
  rintro e w2 ⟨rfl, rfl⟩
  go_wp2_with fail
  refine (cut_nil none 0 0 _).mono ?_
  rintro e w2 ⟨rfl, rfl⟩
  go_wp2_with fail
  refine (cutAt_nil i none 0 0 _).mono ?_
  rintro e w2 ⟨rfl, rfl⟩
  go_wp2_with fail
  refine (moment_nil _).mono ?_
  rintro e w2 ⟨rfl, rfl⟩
  go_wp2_with fail
  refine (cutMoment_nil i none 0 0 _).mono ?_
  rintro e w2 ⟨rfl, rfl⟩
  go_wp2_with fail
  go_ret
  exact ⟨rfl, HB.out⟩
end Go.Proofs.Ythenpkimcjdkcaa
