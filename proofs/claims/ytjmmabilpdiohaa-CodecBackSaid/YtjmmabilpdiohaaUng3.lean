/- codec.Ungroup -/
import Derived.Test.YtjmmabilpdiohaaUng2
import Derived.Outline
import Derived.Laws.EntriesVeiled
namespace Go.Proofs.Ytjmmabilpdiohaa
set_option linter.unusedVariables false
set_option linter.unusedSimpArgs false
open Go.RowKit

def parse1 (l : List UInt8) : Int × Int × List UInt8 := ((numOf (l.take 1) : Int), (numOf ((l.drop 1).take 4) : Int), (l.drop 5).take 64)
def parseN : Nat → List UInt8 → List (Int × Int × List UInt8)
  | 0, _ => []
  | n + 1, l => parse1 l :: parseN n (l.drop 69)
def ungN (b : List UInt8) : Nat := numOf (b.take 2)
def ungOk (b : List UInt8) : Bool := decide (2 ≤ b.length) && (decide (ungN b ≤ 100) && (decide (ungN b * 69 = b.length - 2) && (parseN (ungN b) (b.drop 2)).all mayW))
def ungW (b : List UInt8) : List (Int × Int × List UInt8) := if ungOk b then parseN (ungN b) (b.drop 2) else []
def ungE (b : List UInt8) : Int := if ungOk b then 0 else 81

def UngPost (b : List UInt8) (w : World) (e : Ending) (w' : World) : Prop :=
  ∃ a c, e = .returned (.tuple #[.slice a (ungW b).length c, .int .i64 (ungE b)]) ∧ WrsIn w' a (ungW b) ∧ Below w.heap.size w w'

/-- Where the walk stands: the captured bytes, the list that is gathered, the error, the closure. -/
structure US (w W : World) (a' : Option Addr) (m c' : Nat) (v : Value) : Prop where
  c1 : W.cell? ⟨w.heap.size, 0, none⟩ = some (.slice a' m c')
  f1 : W.frozen? ⟨w.heap.size, 0, none⟩ = false
  c2 : W.cell? ⟨w.heap.size + 1, 0, none⟩ = some v
  f2 : W.frozen? ⟨w.heap.size + 1, 0, none⟩ = false
  c3 : ∃ u, W.cell? ⟨w.heap.size + 1 + 1, 0, none⟩ = some u
  f3 : W.frozen? ⟨w.heap.size + 1 + 1, 0, none⟩ = false
  c4 : W.cell? ⟨w.heap.size + 1 + 1 + 1, 0, none⟩ = some (.func (.func 34) #[] #[.pointer (some ⟨w.heap.size, 0, none⟩)])
  big : w.heap.size + 1 + 1 + 1 < W.heap.size
  bel : Below w.heap.size w W

theorem US.below {w W W' : World} {a' : Option Addr} {m c' : Nat} {v : Value} (h : US w W a' m c' v) (hb : Below W.heap.size W W') : US w W' a' m c' v := by
  have hz := hb.size
  have hbig := h.big
  have k : ∀ j, j < W.heap.size → W'.cell? ⟨j, 0, none⟩ = W.cell? ⟨j, 0, none⟩ := fun j hj => hb.cell (by exact hj)
  have q : ∀ j, j < W.heap.size → W'.frozen? ⟨j, 0, none⟩ = W.frozen? ⟨j, 0, none⟩ := fun j hj => hb.frozen (by exact hj)
  obtain ⟨u, hu⟩ := h.c3
  exact ⟨(k _ (by omega)).trans h.c1, (q _ (by omega)).trans h.f1, (k _ (by omega)).trans h.c2, (q _ (by omega)).trans h.f2, ⟨u, (k _ (by omega)).trans hu⟩, (q _ (by omega)).trans h.f3, (k _ (by omega)).trans h.c4, by omega, h.bel.trans (hb.mono h.bel.size)⟩

theorem US.goes {w W W' : World} {a' : Option Addr} {n m c' : Nat} {v : Value} (h : US w W a' m c' v) (hg : Goes w.heap.size a' n m c' W W') :
    ∃ a'', US w W' a'' (m - n) (c' - n) v ∧ ∀ (W : World) (Bd : Nat) (l : List UInt8), Rd W Bd a' (bs l) → l.length = m → Rd W Bd a'' (bs (l.drop n)) := by
  obtain ⟨a'', rfl, hr⟩ := hg
  refine ⟨a'', ⟨?_, ?_, ?_, ?_, ?_, ?_, ?_, ?_, ?_⟩, hr⟩
  · exact World.cell?_setCell_same _ _ _ h.c1
  · simpa using h.f1
  · exact (World.cell?_setCell_other W _ _ _ (by simp)).trans h.c2
  · simpa using h.f2
  · obtain ⟨u, hu⟩ := h.c3
    exact ⟨u, (World.cell?_setCell_other W _ _ _ (by simp)).trans hu⟩
  · simpa using h.f3
  · exact (World.cell?_setCell_other W _ _ _ (by simp)).trans h.c4
  · simpa using h.big
  · exact h.bel.setCell (by simp) _

theorem door_no {b : List UInt8} {w W : World} {a' : Option Addr} {m c' : Nat} {v : Value} {tmps : Array Value} (h : US w W a' m c' v) (hz : ungOk b = false)
    (h2 : tmps.getD 2 undef = .pointer (some ⟨w.heap.size + 1, 0, none⟩)) (h3 : tmps.getD 3 undef = .pointer (some ⟨w.heap.size + 1 + 1, 0, none⟩)) :
    bodyPostD Try.prog Try.f21 (UngPost b w) (Exit.panic [{ v := .iface 56 (.agg #[]), recovered := false }])
      { tmps := tmps, defers := [{ target := .fn (.func 33) #[.pointer (some ⟨w.heap.size + 1, 0, none⟩), .pointer (some ⟨w.heap.size + 1 + 1, 0, none⟩)], args := #[] }] } W := by
  have hbig := h.big
  obtain ⟨u, hu⟩ := h.c3
  refine leaves_cons (f := 33) (args := #[.pointer (some ⟨w.heap.size + 1, 0, none⟩), .pointer (some ⟨w.heap.size + 1 + 1, 0, none⟩)]) (by simp) (by simp [go_sem]) ?_
  refine (catch_no _ _ [] W _ _ h.c2 hu h.f2 h.f3 (by simp; omega) (by simp; omega) (by simp)).mono ?_
  rintro e u' w'' ⟨rfl, rfl, rfl⟩
  have e1 : (((W.alloc (Obj.cells #[] 56)).setCell ⟨w.heap.size + 1, 0, none⟩ (.slice none 0 0)).setCell ⟨w.heap.size + 1 + 1, 0, none⟩ (.int .i64 81)).cell? ⟨w.heap.size + 1, 0, none⟩ = some (.slice none 0 0) :=
    (World.cell?_setCell_other _ _ _ _ (by simp)).trans (World.cell?_setCell_same _ _ _ ((World.cell?_alloc_lt W _ _ (by simp; omega)).trans h.c2))
  have e2 : (((W.alloc (Obj.cells #[] 56)).setCell ⟨w.heap.size + 1, 0, none⟩ (.slice none 0 0)).setCell ⟨w.heap.size + 1 + 1, 0, none⟩ (.int .i64 81)).cell? ⟨w.heap.size + 1 + 1, 0, none⟩ = some (.int .i64 81) :=
    World.cell?_setCell_same _ _ _ ((World.cell?_setCell_other _ _ _ _ (by simp)).trans ((World.cell?_alloc_lt W _ _ (by simp; omega)).trans hu))
  have hB : Below w.heap.size w (((W.alloc (Obj.cells #[] 56)).setCell ⟨w.heap.size + 1, 0, none⟩ (.slice none 0 0)).setCell ⟨w.heap.size + 1 + 1, 0, none⟩ (.int .i64 81)) :=
    ((h.bel.alloc h.bel.size _).setCell (by simp) _).setCell (by simp; omega) _
  generalize (((W.alloc (Obj.cells #[] 56)).setCell ⟨w.heap.size + 1, 0, none⟩ (.slice none 0 0)).setCell ⟨w.heap.size + 1 + 1, 0, none⟩ (.int .i64 81)) = W2 at e1 e2 hB ⊢
  have k2 : tmps[2]?.getD undef = Value.pointer (some ⟨w.heap.size + 1, 0, none⟩) := by simpa using h2
  have k3 : tmps[3]?.getD undef = Value.pointer (some ⟨w.heap.size + 1 + 1, 0, none⟩) := by simpa using h3
  simp [Leaves, settle, results, Try.results21, go_sem, k2, k3, e1, e2]
  have hw : ungW b = [] := by rw [ungW, hz]; rfl
  have he : ungE b = 81 := by rw [ungE, hz]; rfl
  refine ⟨none, 0, ?_, ?_, hB⟩
  · rw [hw, he]; rfl
  · rw [hw]; intro i hi; simp at hi

def okW (x : Int × Int × List UInt8) : Prop := 0 ≤ x.1 ∧ x.1 < 256 ∧ 0 ≤ x.2.1 ∧ x.2.1 < 4294967296 ∧ x.2.2.length = 64
/-- Cells of writes, the data of each in a block between base and hi, other than 'row'. -/
def WCells (w : World) (base hi : Nat) (row : Option Nat) (ws : List (Int × Int × List UInt8)) (xs : List Value) : Prop :=
  ∀ i (h : i < ws.length), ∃ bd od c, xs[i * 3]? = some (.int .i64 ws[i].1) ∧ xs[i * 3 + 1]? = some (.int .i64 ws[i].2.1) ∧ xs[i * 3 + 2]? = some (.slice (some ⟨bd, od, none⟩) ws[i].2.2.length c) ∧ ws[i].2.2.length ≤ c ∧ c ≤ 9223372036854775807 ∧
    Rd w hi (some ⟨bd, od, none⟩) (bs ws[i].2.2) ∧ base ≤ bd ∧ some bd ≠ row ∧ okW ws[i]

/-- A list of writes of the call's own. -/
def WOwn (w : World) (base hi : Nat) (v : Value) (ws : List (Int × Int × List UInt8)) : Prop :=
  hi ≤ w.heap.size ∧ (∀ g, v.ownBlock = some g → g < hi) ∧ ∃ xs, OwnG w base 47 3 v ws.length xs ∧ WCells w base hi v.ownBlock ws xs

theorem WCells.below {w w' : World} {base hi : Nat} {row : Option Nat} {ws : List (Int × Int × List UInt8)} {xs : List Value} (h : WCells w base hi row ws xs) (hhi : hi ≤ w.heap.size) (hb : Below w.heap.size w w') : WCells w' base hi row ws xs := fun i hi => by
  obtain ⟨bd, od, c, a1, a2, a3, a4, a5, a6, a7, a8, a9⟩ := h i hi
  exact ⟨bd, od, c, a1, a2, a3, a4, a5, a6.keep fun p hp => hb.cell (by omega), a7, a8, a9⟩

theorem WOwn.nil (w : World) (base : Nat) : WOwn w base w.heap.size (.slice none 0 0) [] := ⟨Nat.le_refl _, (fun g h => by cases h), [], OwnG.nil _ _ _ _, fun i hi => by simp at hi⟩

theorem WOwn.below {w w' : World} {base hi : Nat} {v : Value} {ws : List (Int × Int × List UInt8)} (h : WOwn w base hi v ws) (hb : Below w.heap.size w w') : WOwn w' base hi v ws := by
  obtain ⟨h0, h1, xs, h2, h3⟩ := h
  have := hb.size
  refine ⟨by omega, h1, xs, h2.below hb, fun i hi => ?_⟩
  obtain ⟨bd, od, c, a1, a2, a3, a4, a5, a6, a7, a8, a9⟩ := h3 i hi
  exact ⟨bd, od, c, a1, a2, a3, a4, a5, a6.keep fun p hp => hb.cell (by omega), a7, a8, a9⟩

theorem WOwn.top {w : World} {base hi : Nat} {v : Value} {ws : List (Int × Int × List UInt8)} (h : WOwn w base hi v ws) : WOwn w base w.heap.size v ws := by
  obtain ⟨h0, h1, xs, h2, h3⟩ := h
  refine ⟨Nat.le_refl _, fun g hg => by have := h1 g hg; omega, xs, h2, fun i hi => ?_⟩
  obtain ⟨bd, od, c, a1, a2, a3, a4, a5, a6, a7, a8, a9⟩ := h3 i hi
  exact ⟨bd, od, c, a1, a2, a3, a4, a5, a6.more h0, a7, a8, a9⟩

theorem WOwn.in {w : World} {base hi : Nat} {a : Option Addr} {n c : Nat} {ws : List (Int × Int × List UInt8)} (h : WOwn w base hi (.slice a n c) ws) : n = ws.length ∧ WrsIn w a ws := by
  obtain ⟨h0, _, xs, h1, h2⟩ := h
  obtain ⟨a', c', hv, _⟩ := h1.shape
  have hn : n = ws.length := by injection hv
  refine ⟨hn, fun i hi => ?_⟩
  obtain ⟨g, off, cap, hv2, _, hg, _, hx⟩ := h1.form (by omega)
  obtain ⟨bd, od, c2, a1, a2, a3, a4, a5, a6, a7, a8, a9⟩ := h2 i hi
  have hm := a9
  unfold okW at hm
  injection hv2 with e1 e2 e3
  refine ⟨g, off, some ⟨bd, od, none⟩, c2, e1, hg, hx _ _ a1, ?_, ?_, a4, a5, a6.more h0, ?_, ?_⟩
  · rw [Nat.add_assoc]; exact hx _ _ a2
  · rw [Nat.add_assoc]; exact hx _ _ a3
  · omega
  · omega

theorem WOwn.set {w : World} {base hi b o : Nat} {v : Value} {ws : List (Int × Int × List UInt8)} (h : WOwn w base hi v ws) (hb : b < base ∨ hi ≤ b) (u : Value) : WOwn (w.setCell ⟨b, o, none⟩ u) base hi v ws := by
  obtain ⟨h0, h1, xs, h2, h3⟩ := h
  refine ⟨by simpa using h0, h1, xs, h2.keep fun g hg hlt => ?_, fun i hi => ?_⟩
  · have := (h2.lt g hg).1
    have := h1 g hg
    simp [World.setCell, Array.getElem?_modify]
    omega
  · obtain ⟨bd, od, c, a1, a2, a3, a4, a5, a6, a7, a8, a9⟩ := h3 i hi
    refine ⟨bd, od, c, a1, a2, a3, a4, a5, ?_, a7, a8, a9⟩
    rcases a6 with h | ⟨b', o', he, hlt, hc⟩
    · exact .inl h
    · obtain ⟨rfl, rfl⟩ : bd = b' ∧ od = o' := by simpa using he
      exact .inr ⟨bd, od, rfl, hlt, fun j u' hj => (World.cell?_setCell_other _ _ _ _ (fun e => by injection e; omega)).trans (hc j u' hj)⟩

/-- The walk at the bytes L that are left, and the list that was gathered. -/
def GS (w W : World) (hi : Nat) (v : Value) (L : List UInt8) (ws : List (Int × Int × List UInt8)) : Prop :=
  ∃ a' c', US w W a' L.length c' v ∧ L.length ≤ c' ∧ c' ≤ 9223372036854775807 ∧ Rd W w.heap.size a' (bs L) ∧ WOwn W (w.heap.size + 4) hi v ws

section
variable {w W W' : World} {hi : Nat} {v : Value} {L : List UInt8} {ws : List (Int × Int × List UInt8)}
theorem GS.below (h : GS w W hi v L ws) (hb : Below W.heap.size W W') : GS w W' hi v L ws := by
  obtain ⟨a', c', h1, h2, h3, h4, h5⟩ := h
  exact ⟨a', c', h1.below hb, h2, h3, h4.keep fun p hp => hb.cell (by have := h1.big; omega), h5.below hb⟩
theorem GS.top (h : GS w W hi v L ws) : GS w W W.heap.size v L ws := by
  obtain ⟨a', c', h1, h2, h3, h4, h5⟩ := h
  exact ⟨a', c', h1, h2, h3, h4, h5.top⟩
theorem GS.c4 (h : GS w W hi v L ws) :
    W.cell? ⟨w.heap.size + 1 + 1 + 1, 0, none⟩ = some (.func (.func 34) #[] #[.pointer (some ⟨w.heap.size, 0, none⟩)]) := by
  obtain ⟨a', c', h1, h2, h3, h4, h5⟩ := h
  exact h1.c4
theorem GS.drew (h : GS w W hi v L ws) : GS w W.drew hi v L ws := h.below (Below.refl _ _).drew
theorem GS.alloc (h : GS w W hi v L ws) (o : Obj) : GS w (W.alloc o) hi v L ws := h.below ((Below.refl _ _).alloc (Nat.le_refl _) o)
theorem GS.big (h : GS w W hi v L ws) : w.heap.size + 3 < W.heap.size := by
  obtain ⟨a', c', h1, _⟩ := h
  exact h1.big
theorem GS.set (h : GS w W hi v L ws) {g o : Nat} (hg : w.heap.size + 4 ≤ g) (hg2 : hi ≤ g) (u : Value) : GS w (W.setCell ⟨g, o, none⟩ u) hi v L ws := by
  obtain ⟨a', c', h1, h2, h3, h4, h5⟩ := h
  have k : ∀ j, j < g → (W.setCell ⟨g, o, none⟩ u).cell? ⟨j, 0, none⟩ = W.cell? ⟨j, 0, none⟩ := fun j hj => World.cell?_setCell_other _ _ _ _ (fun e => by injection e; omega)
  obtain ⟨u3, hu3⟩ := h1.c3
  refine ⟨a', c', ⟨(k _ (by omega)).trans h1.c1, by simpa using h1.f1, (k _ (by omega)).trans h1.c2, by simpa using h1.f2, ⟨u3, (k _ (by omega)).trans hu3⟩, by simpa using h1.f3, (k _ (by omega)).trans h1.c4, by simpa using h1.big, h1.bel.setCell (by simp; omega) _⟩, h2, h3, h4.setCell (by simp; omega) _, h5.set (.inr hg2) _⟩

/-- Nothing but block b turns. -/
def But (b : Nat) (w w' : World) : Prop := (∀ p : Addr, p.block ≠ b → w'.cell? p = w.cell? p) ∧ (∀ p : Addr, w'.frozen? p = w.frozen? p) ∧ w'.heap.size = w.heap.size

theorem Goes.but {g : Nat} {a : Option Addr} {n m c : Nat} {w w' : World} (h : Goes g a n m c w w') : But g w w' := by
  obtain ⟨a', rfl, _⟩ := h
  exact ⟨fun p hp => World.cell?_setCell_other _ _ _ _ (fun e => hp (by rw [← e])), fun p => by simp, by simp⟩

def NumP (w W : World) (hi : Nat) (v : Value) (L : List UInt8) (ws : List (Int × Int × List UInt8)) (n : Nat) (e : Ending) (w' : World) : Prop :=
  e = .returned (.int .i64 (numOf (L.take n))) ∧ GS w w' hi v (L.drop n) ws ∧ But w.heap.size W w'
def TakeP (w W : World) (hi : Nat) (v : Value) (L : List UInt8) (ws : List (Int × Int × List UInt8)) (n : Nat) (e : Ending) (w' : World) : Prop :=
  ∃ a c, e = .returned (.slice a n c) ∧ n ≤ c ∧ c ≤ 9223372036854775807 ∧ Rd w' w.heap.size a (bs (L.take n)) ∧ GS w w' hi v (L.drop n) ws ∧ But w.heap.size W w'

theorem GS.goes {a' : Option Addr} {c' n : Nat} (h1 : US w W a' L.length c' v) (h2 : L.length ≤ c') (h3 : c' ≤ 9223372036854775807) (h4 : Rd W w.heap.size a' (bs L)) (h5 : WOwn W (w.heap.size + 4) hi v ws)
    (hg : Goes w.heap.size a' n L.length c' W W') : GS w W' hi v (L.drop n) ws ∧ Rd W' w.heap.size a' (bs L) := by
  have hbut := hg.but
  obtain ⟨a'', hu, hr⟩ := h1.goes hg
  obtain ⟨x, rfl, _⟩ := hg
  have h6 : Rd (W.setCell ⟨w.heap.size, 0, none⟩ (.slice x (L.length - n) (c' - n))) w.heap.size a' (bs L) := h4.setCell (Nat.le_refl _) _
  refine ⟨⟨a'', c' - n, by rw [List.length_drop]; exact hu, by rw [List.length_drop]; omega, by omega, hr _ _ _ h6 rfl, h5.set (.inl (by omega)) _⟩, h6⟩

theorem number_gs (n : Nat) (h : GS w W hi v L ws) (hn : n ≤ L.length) (hn1 : 1 ≤ n) (hn4 : n ≤ 4) :
    Calls Try.prog 35 #[.int .i64 n, .pointer (some ⟨w.heap.size + 1 + 1 + 1, 0, none⟩)] W (NumP w W hi v L ws n) := by
  obtain ⟨a', c', h1, h2, h3, h4, h5⟩ := h
  refine (number_ok _ _ a' n c' L W h1.c1 h1.f1 h1.c4 hn hn1 hn4 h2 (by omega) h4 (Nat.le_refl _)).mono ?_
  rintro e w' ⟨rfl, hg⟩
  exact ⟨rfl, (GS.goes h1 h2 h3 h4 h5 hg).1, hg.but⟩

theorem take_gs (n : Nat) (h : GS w W hi v L ws) (hn : n ≤ L.length) :
    Calls Try.prog 34 #[.int .i64 n, .pointer (some ⟨w.heap.size, 0, none⟩)] W (TakeP w W hi v L ws n) := by
  obtain ⟨a', c', h1, h2, h3, h4, h5⟩ := h
  refine (take_ok _ a' n L.length c' W h1.c1 h1.f1 hn h2 (by omega)).mono ?_
  rintro e w' ⟨rfl, hg⟩
  obtain ⟨k1, k2⟩ := GS.goes h1 h2 h3 h4 h5 hg
  exact ⟨a', c', rfl, by omega, h3, by rw [bs_take]; exact k2.take n, k1, hg.but⟩

theorem number1_gs (h : GS w W hi v L ws) (hn : 1 ≤ L.length) :
    Calls Try.prog 35 #[.int .i64 1, .pointer (some ⟨w.heap.size + 1 + 1 + 1, 0, none⟩)] W (NumP w W hi v L ws 1) := number_gs 1 h hn (by omega) (by omega)
theorem number4_gs (h : GS w W hi v L ws) (hn : 4 ≤ L.length) :
    Calls Try.prog 35 #[.int .i64 4, .pointer (some ⟨w.heap.size + 1 + 1 + 1, 0, none⟩)] W (NumP w W hi v L ws 4) := number_gs 4 h hn (by omega) (by omega)
theorem take64_gs (h : GS w W hi v L ws) (hn : 64 ≤ L.length) :
    Calls Try.prog 34 #[.int .i64 64, .pointer (some ⟨w.heap.size, 0, none⟩)] W (TakeP w W hi v L ws 64) := take_gs 64 h hn
end

/-- Block g holds an empty write. -/
def Blk (W : World) (g : Nat) : Prop :=
  W.cell? ⟨g, 0, none⟩ = some (.int .i64 0) ∧ W.cell? ⟨g, 1, none⟩ = some (.int .i64 0) ∧ W.cell? ⟨g, 2, none⟩ = some (.slice none 0 0) ∧ W.frozen? ⟨g, 0, none⟩ = false ∧ W.frozen? ⟨g, 1, none⟩ = false ∧ W.frozen? ⟨g, 2, none⟩ = false ∧ g < W.heap.size
theorem Blk.new (W : World) : Blk (W.alloc (Obj.cells #[Value.int IntKind.i64 0, Value.int IntKind.i64 0, Value.slice none 0 0] 47)) W.heap.size :=
  ⟨by go_simp, by go_simp, by go_simp, by go_simp, by go_simp, by go_simp, by simp⟩
theorem Blk.drew {W : World} {g : Nat} (h : Blk W g) : Blk W.drew g := h
theorem Blk.but {W W' : World} {g b : Nat} (h : Blk W g) (hb : But b W W') (hne : b < g) : Blk W' g := by
  obtain ⟨h0, h1, h2, h3, h4, h5, h6⟩ := h
  refine ⟨(hb.1 _ (by simp; omega)).trans h0, (hb.1 _ (by simp; omega)).trans h1, (hb.1 _ (by simp; omega)).trans h2, (hb.2.1 _).trans h3, (hb.2.1 _).trans h4, (hb.2.1 _).trans h5, by rw [hb.2.2]; exact h6⟩
theorem Blk.below {W W' : World} {g : Nat} (h : Blk W g) (hb : Below W.heap.size W W') : Blk W' g := by
  obtain ⟨h0, h1, h2, h3, h4, h5, h6⟩ := h
  have := hb.size
  exact ⟨(hb.cell (by exact h6)).trans h0, (hb.cell (by exact h6)).trans h1, (hb.cell (by exact h6)).trans h2, (hb.frozen (by exact h6)).trans h3, (hb.frozen (by exact h6)).trans h4, (hb.frozen (by exact h6)).trans h5, by omega⟩

/-- A write that was read: its cells in block g, its data. -/
def OneW (w W : World) (lo : Nat) (p : Value) (L : List UInt8) : Prop :=
  ∃ g bd od c, p = .pointer (some ⟨g, 0, none⟩) ∧ lo ≤ g ∧ g < W.heap.size ∧ W.cell? ⟨g, 0, none⟩ = some (.int .i64 (numOf (L.take 1))) ∧ W.cell? ⟨g, 1, none⟩ = some (.int .i64 (numOf ((L.drop 1).take 4))) ∧
    W.cell? ⟨g, 2, none⟩ = some (.slice (some ⟨bd, od, none⟩) 64 c) ∧ 64 ≤ c ∧ c ≤ 9223372036854775807 ∧ Rd W W.heap.size (some ⟨bd, od, none⟩) (bs ((L.drop 5).take 64)) ∧ lo ≤ bd

theorem drop45 (L : List UInt8) : ((L.drop 1).drop 4).take 64 = (L.drop 5).take 64 := by rw [List.drop_drop]
theorem drop69 (L : List UInt8) : ((L.drop 1).drop 4).drop 64 = L.drop 69 := by rw [List.drop_drop, List.drop_drop]

theorem one_new {w w6 : World} {hi : Nat} {v : Value} {L : List UInt8} {ws : List (Int × Int × List UInt8)} {a6 : Option Addr} {n6 c6 lo : Nat} (hg : GS w w6 hi v (((L.drop 1).drop 4).drop 64) ws) (hown : OwnB w6 lo (.slice a6 n6 c6) (((L.drop 1).drop 4).take 64))
    (hl : (((L.drop 1).drop 4).take 64).length = 64) (hhi : hi ≤ lo) : 
    OneW w (w6.alloc (Obj.cells #[Value.int .i64 (numOf (L.take 1)), Value.int .i64 (numOf (L.tail.take 4)), Value.slice a6 n6 c6] 47)) hi (.pointer (some ⟨w6.heap.size, 0, none⟩)) L ∧
      GS w (w6.alloc (Obj.cells #[Value.int .i64 (numOf (L.take 1)), Value.int .i64 (numOf (L.tail.take 4)), Value.slice a6 n6 c6] 47)) hi v (L.drop 69) ws := by
  have hrd := OwnB.rd hown
  obtain ⟨g, off, rfl, hn, h1, h2, h3, h4⟩ := hown.formS (by omega)
  have hcm : c6 ≤ 9223372036854775807 := by
    rcases hown.2 with ⟨h', _⟩ | ⟨_, _, _, _, _, _, hv, _, _, _, _, _, hm, _⟩
    · cases h'
    · injection hv with _ _ e; unfold maxLen at hm; omega
  rw [hl] at hn h3
  subst hn
  rw [drop69] at hg
  rw [drop45] at hrd
  refine ⟨⟨_, g, off, c6, rfl, by omega, by simp, by go_simp, by rw [List.drop_one]; go_simp, by go_simp, h3, hcm, (hrd.alloc (Nat.le_refl _) _).more (by simp), by omega⟩, hg.alloc _⟩

theorem one_set {w w6 : World} {hi g : Nat} {v : Value} {L : List UInt8} {ws : List (Int × Int × List UInt8)} {a6 : Option Addr} {n6 c6 lo : Nat} (hg : GS w w6 hi v (((L.drop 1).drop 4).drop 64) ws) (hown : OwnB w6 lo (.slice a6 n6 c6) (((L.drop 1).drop 4).take 64))
    (hl : (((L.drop 1).drop 4).take 64).length = 64) (hhi : hi ≤ lo) (hb : Blk w6 g) (hg1 : w.heap.size + 4 ≤ g) (hg2 : hi ≤ g) (hg3 : g < lo) : 
    OneW w (((w6.setCell ⟨g, 0, none⟩ (Value.int .i64 (numOf (L.take 1)))).setCell ⟨g, 1, none⟩ (Value.int .i64 (numOf (L.tail.take 4)))).setCell ⟨g, 2, none⟩ (Value.slice a6 n6 c6)) hi (.pointer (some ⟨g, 0, none⟩)) L ∧
      GS w (((w6.setCell ⟨g, 0, none⟩ (Value.int .i64 (numOf (L.take 1)))).setCell ⟨g, 1, none⟩ (Value.int .i64 (numOf (L.tail.take 4)))).setCell ⟨g, 2, none⟩ (Value.slice a6 n6 c6)) hi v (L.drop 69) ws := by
  have hrd := OwnB.rd hown
  obtain ⟨gd, off, rfl, hn, h1, h2, h3, h4⟩ := hown.formS (by omega)
  have hcm : c6 ≤ 9223372036854775807 := by
    rcases hown.2 with ⟨h', _⟩ | ⟨_, _, _, _, _, _, hv, _, _, _, _, _, hm, _⟩
    · cases h'
    · injection hv with _ _ e; unfold maxLen at hm; omega
  rw [hl] at hn h3
  subst hn
  rw [drop69] at hg
  rw [drop45] at hrd
  obtain ⟨b0, b1, b2, _, _, _, b6⟩ := hb
  have hr2 : Rd (((w6.setCell ⟨g, 0, none⟩ (Value.int .i64 (numOf (L.take 1)))).setCell ⟨g, 1, none⟩ (Value.int .i64 (numOf (L.tail.take 4)))).setCell ⟨g, 2, none⟩ (Value.slice (some ⟨gd, off, none⟩) 64 c6)) w6.heap.size (some ⟨gd, off, none⟩) (bs ((L.drop 5).take 64)) := by
    rcases hrd with h | ⟨b', o', he, hlt, hc⟩
    · exact .inl h
    · obtain ⟨rfl, rfl⟩ : gd = b' ∧ off = o' := by simpa using he
      exact .inr ⟨gd, off, rfl, hlt, fun j u' hj => (World.cell?_setCell_other _ _ _ _ (fun e => by injection e; omega)).trans ((World.cell?_setCell_other _ _ _ _ (fun e => by injection e; omega)).trans ((World.cell?_setCell_other _ _ _ _ (fun e => by injection e; omega)).trans (hc j u' hj)))⟩
  refine ⟨⟨_, gd, off, c6, rfl, hg2, by simpa using b6, ?_, ?_, ?_, h3, hcm, by simpa using hr2, by omega⟩, ((hg.set hg1 hg2 _).set hg1 hg2 _).set hg1 hg2 _⟩
  · exact (World.cell?_setCell_other _ _ _ _ (by simp)).trans ((World.cell?_setCell_other _ _ _ _ (by simp)).trans (World.cell?_setCell_same _ _ _ b0))
  · rw [List.drop_one]; exact (World.cell?_setCell_other _ _ _ _ (by simp)).trans (World.cell?_setCell_same _ _ _ ((World.cell?_setCell_other _ _ _ _ (by simp)).trans b1))
  · exact World.cell?_setCell_same _ _ _ ((World.cell?_setCell_other _ _ _ _ (by simp)).trans ((World.cell?_setCell_other _ _ _ _ (by simp)).trans b2))
theorem door_yes {b : List UInt8} {w W : World} {a' : Option Addr} {m c' hi n : Nat} {av : Option Addr} {cv : Nat} {ws : List (Int × Int × List UInt8)} {tmps : Array Value} (h : US w W a' m c' (.slice av n cv)) (how : WOwn W (w.heap.size + 4) hi (.slice av n cv) ws) (hz : ungOk b = true) (hws : ungW b = ws)
    (h2 : tmps.getD 2 undef = .pointer (some ⟨w.heap.size + 1, 0, none⟩)) (h3 : tmps.getD 3 undef = .pointer (some ⟨w.heap.size + 1 + 1, 0, none⟩)) :
    bodyPostD Try.prog Try.f21 (UngPost b w) Exit.ret
      { tmps := tmps, defers := [{ target := .fn (.func 33) #[.pointer (some ⟨w.heap.size + 1, 0, none⟩), .pointer (some ⟨w.heap.size + 1 + 1, 0, none⟩)], args := #[] }] }
      ((W.setCell ⟨w.heap.size + 1, 0, none⟩ (.slice av n cv)).setCell ⟨w.heap.size + 1 + 1, 0, none⟩ (.int .i64 0)) := by
  have hbig := h.big
  obtain ⟨u, hu⟩ := h.c3
  have how2 := (how.set (o := 0) (.inl (show w.heap.size + 1 < w.heap.size + 4 by omega)) (.slice av n cv)).set (o := 0) (.inl (show w.heap.size + 1 + 1 < w.heap.size + 4 by omega)) (.int .i64 0)
  have e1 : ((W.setCell ⟨w.heap.size + 1, 0, none⟩ (.slice av n cv)).setCell ⟨w.heap.size + 1 + 1, 0, none⟩ (.int .i64 0)).cell? ⟨w.heap.size + 1, 0, none⟩ = some (.slice av n cv) :=
    (World.cell?_setCell_other _ _ _ _ (by simp)).trans (World.cell?_setCell_same _ _ _ h.c2)
  have e2 : ((W.setCell ⟨w.heap.size + 1, 0, none⟩ (.slice av n cv)).setCell ⟨w.heap.size + 1 + 1, 0, none⟩ (.int .i64 0)).cell? ⟨w.heap.size + 1 + 1, 0, none⟩ = some (.int .i64 0) :=
    World.cell?_setCell_same _ _ _ ((World.cell?_setCell_other _ _ _ _ (by simp)).trans hu)
  have hB : Below w.heap.size w ((W.setCell ⟨w.heap.size + 1, 0, none⟩ (.slice av n cv)).setCell ⟨w.heap.size + 1 + 1, 0, none⟩ (.int .i64 0)) := (h.bel.setCell (by simp) _).setCell (by simp; omega) _
  generalize ((W.setCell ⟨w.heap.size + 1, 0, none⟩ (.slice av n cv)).setCell ⟨w.heap.size + 1 + 1, 0, none⟩ (.int .i64 0)) = W2 at e1 e2 hB how2 ⊢
  refine leaves_cons (f := 33) (args := #[.pointer (some ⟨w.heap.size + 1, 0, none⟩), .pointer (some ⟨w.heap.size + 1 + 1, 0, none⟩)]) (by simp) (by simp [go_sem]) ?_
  refine (catch_idle _ _ W2).mono ?_
  rintro e u' w'' ⟨rfl, rfl, rfl⟩
  have k2 : tmps[2]?.getD undef = Value.pointer (some ⟨w.heap.size + 1, 0, none⟩) := by simpa using h2
  have k3 : tmps[3]?.getD undef = Value.pointer (some ⟨w.heap.size + 1 + 1, 0, none⟩) := by simpa using h3
  simp [Leaves, settle, results, Try.results21, go_sem, k2, k3, e1, e2]
  have he : ungE b = 0 := by rw [ungE, hz]; rfl
  obtain ⟨hn, hin⟩ := how2.in
  refine ⟨av, cv, ?_, ?_, hB⟩
  · rw [hws, he, hn]
  · rw [hws]; exact hin

theorem GS.append {w w3 w4 : World} {hi : Nat} {a' : Option Addr} {c' : Nat} {v v4 : Value} {L : List UInt8} {ws : List (Int × Int × List UInt8)} {xs : List Value} {O : Obj} {d s : Int} {bd od cd : Nat} {dt : List UInt8}
    (h1 : US w w3 a' L.length c' v) (h2 : L.length ≤ c') (h3 : c' ≤ 9223372036854775807) (h4 : Rd w3 w.heap.size a' (bs L)) (h0 : hi ≤ w3.heap.size) (hv : ∀ g, v.ownBlock = some g → g < hi)
    (hown0 : OwnG w3 (w.heap.size + 4) 47 3 v ws.length xs) (hc : WCells w3 (w.heap.size + 4) hi v.ownBlock ws xs)
    (hown : OwnG w4 (w.heap.size + 4) 47 3 v4 (ws.length + 1) (xs ++ [.int .i64 d, .int .i64 s, .slice (some ⟨bd, od, none⟩) dt.length cd])) (hg : (w3.alloc O).grownBy w4 v.ownBlock)
    (hat : v4.ownBlock = v.ownBlock ∨ v4.ownBlock = some (w3.alloc O).heap.size) (hcd : dt.length ≤ cd) (hcd2 : cd ≤ 9223372036854775807) (hrd : Rd w3 w3.heap.size (some ⟨bd, od, none⟩) (bs dt)) (hbd : hi ≤ bd) (hbd0 : w.heap.size + 4 ≤ bd) (hbd' : bd < w3.heap.size) (hm : okW (d, s, dt)) :
    GS w (w4.setCell ⟨w.heap.size + 1, 0, none⟩ v4) w4.heap.size v4 L (ws ++ [(d, s, dt)]) ∧ w4.cell? ⟨w.heap.size + 1, 0, none⟩ = some v ∧ w4.frozen? ⟨w.heap.size + 1, 0, none⟩ = false := by
  have hbig := h1.big
  have hz := hg.size
  have hza : (w3.alloc O).heap.size = w3.heap.size + 1 := by simp
  rw [hza] at hz
  have hrow : ∀ j, j < w.heap.size + 4 → some j ≠ v.ownBlock := fun j hj e => by
    have := (hown0.lt j e.symm).1
    omega
  have far : ∀ p : Addr, p.block < w3.heap.size → some p.block ≠ v.ownBlock → w4.cell? p = w3.cell? p := fun p hp hr =>
    (hg.cell_far p (by rw [hza]; omega) hr).trans (World.cell?_alloc_lt w3 O p hp)
  have fz : ∀ p : Addr, p.block < w3.heap.size → some p.block ≠ v.ownBlock → w4.frozen? p = w3.frozen? p := fun p hp hr =>
    (hg.frozen_far p (by rw [hza]; omega) hr).trans (World.frozen?_alloc_old w3 _ _ (by omega))
  have k2 := (far ⟨w.heap.size + 1, 0, none⟩ (by simp; omega) (hrow _ (by simp))).trans h1.c2
  have f2 := (fz ⟨w.heap.size + 1, 0, none⟩ (by simp; omega) (hrow _ (by simp))).trans h1.f2
  refine ⟨?_, k2, f2⟩
  obtain ⟨u3, hu3⟩ := h1.c3
  have o : ∀ j, j ≠ w.heap.size + 1 → (w4.setCell ⟨w.heap.size + 1, 0, none⟩ v4).cell? ⟨j, 0, none⟩ = w4.cell? ⟨j, 0, none⟩ := fun j hj => World.cell?_setCell_other _ _ _ _ (fun e => by injection e; omega)
  have hbel : Below w.heap.size w w4 := below_app (h1.bel.alloc h1.bel.size O) hown0 (by omega) hg
  have hlt4 : ∀ g, v4.ownBlock = some g → g < w4.heap.size := fun g hg4 => (hown.lt g hg4).2
  have keepR : ∀ (Bd bd od : Nat) (dt : List UInt8), some bd ≠ v.ownBlock → w.heap.size + 4 ≤ bd → bd < w3.heap.size → Rd w3 Bd (some ⟨bd, od, none⟩) (bs dt) → Rd (w4.setCell ⟨w.heap.size + 1, 0, none⟩ v4) w4.heap.size (some ⟨bd, od, none⟩) (bs dt) := fun Bd bd od dt h5 h6 h7 h8 => by
    rcases h8 with h | ⟨b', o', he, hlt, hcl⟩
    · exact .inl h
    · obtain ⟨rfl, rfl⟩ : bd = b' ∧ od = o' := by simpa using he
      exact .inr ⟨bd, od, rfl, by omega, fun j u' hj => (World.cell?_setCell_other _ _ _ _ (fun e => by injection e; omega)).trans ((far _ (by exact h7) (by exact h5)).trans (hcl j u' hj))⟩
  have hne4 : ∀ bd, some bd ≠ v.ownBlock → bd < w3.heap.size → some bd ≠ v4.ownBlock := fun bd h5 h6 e => by
    rcases hat with h | h
    · exact h5 (e.trans h)
    · rw [h, hza] at e; injection e; omega
  refine ⟨a', c', ⟨?_, ?_, ?_, ?_, ⟨u3, ?_⟩, ?_, ?_, ?_, ?_⟩, h2, h3, ?_, ?_, ?_, xs ++ [.int .i64 d, .int .i64 s, .slice (some ⟨bd, od, none⟩) dt.length cd], ?_, ?_⟩
  · exact (o _ (by omega)).trans ((far _ (by simp; omega) (hrow _ (by simp))).trans h1.c1)
  · simpa using (fz ⟨w.heap.size, 0, none⟩ (by simp; omega) (hrow _ (by simp))).trans h1.f1
  · exact World.cell?_setCell_same _ _ _ k2
  · simpa using f2
  · exact (o _ (by omega)).trans ((far _ (by simp; omega) (hrow _ (by simp))).trans hu3)
  · simpa using (fz ⟨w.heap.size + 1 + 1, 0, none⟩ (by simp; omega) (hrow _ (by simp))).trans h1.f3
  · exact (o _ (by omega)).trans ((far _ (by simp; omega) (hrow _ (by simp))).trans h1.c4)
  · simp; omega
  · exact hbel.setCell (by simp) _
  · refine (h4.keep fun p hp => ?_).setCell (by simp) _
    exact far _ (by omega) (hrow _ (by omega))
  · simp
  · exact hlt4
  · rw [List.length_append]
    refine hown.keep fun g hg4 hlt => ?_
    have := (hown.lt g hg4).1
    simp [World.setCell, Array.getElem?_modify]
    omega
  · intro i hi4
    have hxl : xs.length = ws.length * 3 := hown0.1
    by_cases hi5 : i < ws.length
    · obtain ⟨bd1, od1, c1, a1, a2, a3, a4, a5, a6, a7, a8, a9⟩ := hc i hi5
      have hbl : bd1 < w3.heap.size := by
        have hm9 := a9
        unfold okW at hm9
        have := a6.at 0 _ (bs_get _ 0 (by omega))
        obtain ⟨b', o', he, hlt, _⟩ := this
        simp at he
        omega
      rw [List.getElem_append_left hi5]
      exact ⟨bd1, od1, c1, by rw [List.getElem?_append_left (by omega)]; exact a1, by rw [List.getElem?_append_left (by omega)]; exact a2, by rw [List.getElem?_append_left (by omega)]; exact a3, a4, a5, keepR _ _ _ _ a8 a7 hbl a6, a7, hne4 _ a8 hbl, a9⟩
    · have hie : i = ws.length := by simp at hi4; omega
      subst hie
      rw [List.getElem_append_right (by omega)]
      have hbn : some bd ≠ v.ownBlock := fun e => by have := hv _ e.symm; omega
      refine ⟨bd, od, cd, ?_, ?_, ?_, by simpa using hcd, hcd2, by simpa using keepR _ _ _ _ hbn hbd0 hbd' hrd, hbd0, hne4 _ hbn hbd', by simpa using hm⟩
      · rw [List.getElem?_append_right (by omega), hxl]; simp
      · rw [List.getElem?_append_right (by omega), hxl]; simp
      · rw [List.getElem?_append_right (by omega), hxl]; simp

theorem WOwn.append {w3 w4 : World} {base hi : Nat} {v v4 : Value} {ws : List (Int × Int × List UInt8)} {xs : List Value} {O : Obj} {d s : Int} {bd od cd : Nat} {dt : List UInt8}
    (h0 : hi ≤ w3.heap.size) (hv : ∀ g, v.ownBlock = some g → g < hi) (hown0 : OwnG w3 base 47 3 v ws.length xs) (hc : WCells w3 base hi v.ownBlock ws xs)
    (hown : OwnG w4 base 47 3 v4 (ws.length + 1) (xs ++ [.int .i64 d, .int .i64 s, .slice (some ⟨bd, od, none⟩) dt.length cd])) (hg : (w3.alloc O).grownBy w4 v.ownBlock)
    (hat : v4.ownBlock = v.ownBlock ∨ v4.ownBlock = some (w3.alloc O).heap.size) (hcd : dt.length ≤ cd) (hcd2 : cd ≤ 9223372036854775807) (hrd : Rd w3 w3.heap.size (some ⟨bd, od, none⟩) (bs dt)) (hbd : hi ≤ bd) (hbd0 : base ≤ bd) (hbd' : bd < w3.heap.size) (hm : okW (d, s, dt)) :
    WOwn w4 base w4.heap.size v4 (ws ++ [(d, s, dt)]) := by
  have hz := hg.size
  have hza : (w3.alloc O).heap.size = w3.heap.size + 1 := by simp
  rw [hza] at hz
  have far : ∀ p : Addr, p.block < w3.heap.size → some p.block ≠ v.ownBlock → w4.cell? p = w3.cell? p := fun p hp hr =>
    (hg.cell_far p (by rw [hza]; omega) hr).trans (World.cell?_alloc_lt w3 O p hp)
  have keepR : ∀ (Bd bd od : Nat) (dt : List UInt8), some bd ≠ v.ownBlock → bd < w3.heap.size → Rd w3 Bd (some ⟨bd, od, none⟩) (bs dt) → Rd w4 w4.heap.size (some ⟨bd, od, none⟩) (bs dt) := fun Bd bd od dt h5 h7 h8 => by
    rcases h8 with h | ⟨b', o', he, hlt, hcl⟩
    · exact .inl h
    · obtain ⟨rfl, rfl⟩ : bd = b' ∧ od = o' := by simpa using he
      exact .inr ⟨bd, od, rfl, by omega, fun j u' hj => ((far _ (by exact h7) (by exact h5)).trans (hcl j u' hj))⟩
  have hne4 : ∀ bd, some bd ≠ v.ownBlock → bd < w3.heap.size → some bd ≠ v4.ownBlock := fun bd h5 h6 e => by
    rcases hat with h | h
    · exact h5 (e.trans h)
    · rw [h, hza] at e; injection e; omega
  refine ⟨Nat.le_refl _, fun g hg4 => (hown.lt g hg4).2, xs ++ [.int .i64 d, .int .i64 s, .slice (some ⟨bd, od, none⟩) dt.length cd], by rw [List.length_append]; exact hown, ?_⟩
  intro i hi4
  have hxl : xs.length = ws.length * 3 := hown0.1
  by_cases hi5 : i < ws.length
  · obtain ⟨bd1, od1, c1, a1, a2, a3, a4, a5, a6, a7, a8, a9⟩ := hc i hi5
    have hbl : bd1 < w3.heap.size := by
      have hm9 := a9
      unfold okW at hm9
      have := a6.at 0 _ (bs_get _ 0 (by omega))
      obtain ⟨b', o', he, hlt, _⟩ := this
      simp at he
      omega
    rw [List.getElem_append_left hi5]
    exact ⟨bd1, od1, c1, by rw [List.getElem?_append_left (by omega)]; exact a1, by rw [List.getElem?_append_left (by omega)]; exact a2, by rw [List.getElem?_append_left (by omega)]; exact a3, a4, a5, keepR _ _ _ _ a8 hbl a6, a7, hne4 _ a8 hbl, a9⟩
  · have hie : i = ws.length := by simp at hi4; omega
    subst hie
    rw [List.getElem_append_right (by omega)]
    have hbn : some bd ≠ v.ownBlock := fun e => by have := hv _ e.symm; omega
    refine ⟨bd, od, cd, ?_, ?_, ?_, by simpa using hcd, hcd2, by simpa using keepR _ _ _ _ hbn hbd' hrd, hbd0, hne4 _ hbn hbd', by simpa using hm⟩
    · rw [List.getElem?_append_right (by omega), hxl]; simp
    · rw [List.getElem?_append_right (by omega), hxl]; simp
    · rw [List.getElem?_append_right (by omega), hxl]; simp

theorem info_w : (Try.prog.info? 47).map (fun i => (i.zero, i.size, i.bytes)) = some (some (.agg #[.int .i64 0, .int .i64 0, .slice none 0 0]), 3, 40) := by kernel_rfl

theorem parseN_length (k : Nat) : ∀ R : List UInt8, (parseN k R).length = k := by
  induction k with
  | zero => intro R; rfl
  | succ k ih => intro R; simp [parseN, ih]

theorem parseN_add (i j n : Nat) (h : n = i + j) : ∀ R : List UInt8, parseN n R = parseN i R ++ parseN j (R.drop (i * 69)) := by
  subst h
  induction i with
  | zero => intro R; simp [parseN]
  | succ i ih =>
    intro R
    rw [show i + 1 + j = (i + j) + 1 by omega, parseN, ih, parseN, List.cons_append, List.drop_drop, show 69 + i * 69 = (i + 1) * 69 by omega]

theorem parseN_succ (k : Nat) : ∀ R : List UInt8, parseN (k + 1) R = parseN k R ++ [parse1 (R.drop (k * 69))] := by
  induction k with
  | zero => intro R; simp [parseN]
  | succ k ih =>
    intro R
    rw [parseN, ih, parseN, List.cons_append, List.drop_drop, show 69 + k * 69 = (k + 1) * 69 by omega]

theorem parse1_at (b : List UInt8) (q : Nat) (h : q < b.length) : parse1 (b.drop q) = ((b[q].toNat : Int), (numOf ((b.drop (q + 1)).take 4) : Int), (b.drop (q + 5)).take 64) := by
  have ed : b.drop q = b[q] :: b.drop (q + 1) := List.drop_eq_getElem_cons h
  have e5 : (b.drop q).drop 5 = b.drop (q + 5) := by rw [List.drop_drop]
  have e1 : (b.drop q).drop 1 = b.drop (q + 1) := by rw [List.drop_drop]
  have e0 : numOf ((b.drop q).take 1) = b[q].toNat := by rw [ed, List.take_succ_cons, List.take_zero]; simp [numOf]
  rw [parse1, e5, e1, e0]

theorem one3 (d s : Int) (a : Option Addr) (n c : Nat) : ∀ u ∈ [Value.int .i64 d, .int .i64 s, .slice a n c], u.oneCell' = true := by
  intro u hu; simp at hu; rcases hu with rfl | rfl | rfl <;> rfl
end Go.Proofs.Ytjmmabilpdiohaa
