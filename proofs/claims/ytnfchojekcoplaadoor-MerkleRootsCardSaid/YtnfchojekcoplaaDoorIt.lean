import Derived.RangeFuncBound
import Derived.RangeFuncCalls
import Derived.RangeFuncBox
import Derived.RangeFuncRecord
namespace Go.Proofs.YtnfchojekcoplaaDoor
open Go Go.RowKit

/-- ALL BUT BLOCK B AND WHAT LIES AT OR BEYOND T AND IS NO CELLS LIES AS IT LAY. -/
structure Kept (B T : Nat) (W W' : World) : Prop where
  os : W'.os = W.os
  tape : W'.tape = W.tape
  output : W'.output = W.output
  size : W.heap.size ≤ W'.heap.size
  blk : ∀ j o, W.heap[j]? = some o → j ≠ B → (j < T ∨ o.isCells = true) → W'.heap[j]? = some o

theorem Kept.alloc {B T : Nat} (W : World) (o : Obj) : Kept B T W (W.alloc o) := by
  refine ⟨rfl, rfl, rfl, by simp, fun j o' h _ _ => ?_⟩
  exact (Below.heap_alloc W o j (Array.getElem?_eq_some_iff.1 h).1).trans h

theorem Kept.putObj {B T : Nat} {W : World} {l : Nat} {o : Obj} (o' : Obj) (hl : W.heap[l]? = some o) (hc : o.isCells = false) (hT : T ≤ l) : Kept B T W (W.putObj l o') := by
  refine ⟨rfl, rfl, rfl, by simp, fun j o2 h _ hj => ?_⟩
  by_cases e : j = l
  · subst e
    rw [hl] at h
    cases h
    rcases hj with hj | hj
    · omega
    · rw [hc] at hj; cases hj
  · exact (World.putObj_heap_other e).trans h

theorem Kept.setBox {B T : Nat} (W : World) (v : Value) : Kept B T W (W.setCell ⟨B, 0, none⟩ v) := by
  refine ⟨rfl, rfl, rfl, by simp, fun j o h hB _ => ?_⟩
  exact (Below.heap_setCell W ⟨B, 0, none⟩ v j hB).trans h

theorem Kept.below {B T n : Nat} {w W W' : World} (h : Kept B T W W') (hb : Below n w W) (hnB : n ≤ B) (hnT : n ≤ T) (hn : n ≤ w.heap.size) : Below n w W' := by
  refine ⟨h.os.trans hb.os, h.tape.trans hb.tape, h.output.trans hb.output, Nat.le_trans hb.size h.size, fun k hk => ?_⟩
  have h1 := hb.block k hk
  have h2 : k < w.heap.size := by omega
  rw [Array.getElem?_eq_getElem h2] at h1 ⊢
  exact h.blk k _ h1 (by omega) (.inl (by omega))

/-- HOW THE BODY OF A ROUND THAT ALWAYS GOES ON IS LEFT. -/
def goesOn {α : Type} (B : Nat) (I : List α → World → Prop) (xs : List α) (W : World) : Exit → Act → World → Prop
  | .normal, _, W' => KeepsOthers W W' ∧ W'.heap[B]? = W.heap[B]? ∧ I xs W'
  | _, _, _ => False

/-- THE CONTRACT OF AN ITERATOR VALUE THAT WRITES ONE BOX OF ITS OWN (B, read and written between the rounds), and whose rounds all go on: what comes is xs. -/
def Gives {α : Type} (n : Nat) (P : Program) (g : Nat) (lb : Array Value) (encs : α → Array Value) (B : Nat) (xs : List α) (Pre : World → Prop) : Prop :=
  ∀ (l : Nat) (J : List α → World → Prop) (W : World), Pre W → (∀ pre W1 v, J pre W1 → J pre (W1.setCell ⟨B, 0, none⟩ v)) →
    (∀ pre x post, xs = pre ++ x :: post → ∀ W1, J pre W1 → YieldAt Fence.wide (n - 1) P l (encs x) W1 fun e W' =>
      e = .returned (.bool true) ∧ J (pre ++ [x]) W' ∧ W'.heap[B]? = W1.heap[B]?) →
    J [] W →
    CallsIn Fence.wide n P g (#[.func (.yield l) #[] #[]] ++ lb) W fun e W' => (∃ v, e = .returned v) ∧ J xs W'

variable {n : Nat} {P : Program}

/-- **A RANGE OVER SUCH AN ITERATOR, AT THE WIDE FENCE.** -/
theorem range_box {α : Type} {g : Operand} {ps : Array Tmp} {assign body : Code} {Q : Exit → Act → World → Prop} {a : Act} {w : World}
    {gf : Nat} {lb : Array Value} (hg : a.eval g = .func (.func gf) #[] lb) (eg : ∀ args w, (callFunc gf args).run P w = .ok (.enter gf args) w)
    {encs : α → Array Value} {B : Nat} {xs : List α} {Pre : World → Prop} (hseq : Gives (n - 1) P gf lb encs B xs Pre) (hps : ∀ x, (encs x).size = ps.size)
    {o0 : Obj} (hB : w.heap[B]? = some o0) (hPre : ∀ W, W.heap[B]? = some o0 → Pre W)
    (I : List α → World → Prop) (hI : ∀ pre W W', Kept B w.heap.size W W' → I pre W → I pre W') (h0 : I [] w) (a₁ : α → Act)
    (hassign : ∀ (l : Nat) (x : α) (W : World) (K : Act → World → Prop), K (a₁ x) W →
      assign.wpIn (Fence.wide.inRound l) (n - 1 - 1) P (Exit.then K (fun _ _ _ => False)) { tmps := (ps.zip (encs x)).foldl (fun t (p, v) => t.setIfInBounds p v) a.tmps, defers := [] } W)
    (hbody : ∀ (l : Nat) (pre : List α) (x : α) (post : List α) (W : World), xs = pre ++ x :: post → I pre W → body.wpIn (Fence.wide.inRound l) (n - 1 - 1) P (goesOn B I (pre ++ [x]) W) (a₁ x) W)
    (hdone : ∀ (D : Nat) (W : World), w.heap.size ≤ D → I xs W → W.heap[D]? = some (.deferred (some [])) → Q .normal { a with defers := { target := .collected D, args := #[] } :: a.defers } W) :
    (Code.rangeFunc g ps assign body).wpIn Fence.wide n P Q a w := by
  have hBlt : B < w.heap.size := (Array.getElem?_eq_some_iff.1 hB).1
  refine wpIn_rangeFunc ?_
  intro fn hfn
  obtain ⟨rec, hrec⟩ : ∃ rec : LoopState → Option Code → Loop, rec = fun st pe => { state := st, pending := pe, fn, tmps := a.tmps, params := ps, assign, body, defers := w.heap.size } := ⟨_, rfl⟩
  obtain ⟨W1, hW1⟩ : ∃ W1, (w.alloc (.deferred (some []))).alloc (.loop (rec .ready none)) = W1 := ⟨_, rfl⟩
  have hL1 : W1.heap[w.heap.size + 1]? = some (.loop (rec .ready none)) := by
    have := World.alloc_heap_new (w.alloc (.deferred (some []))) (.loop (rec .ready none))
    rwa [World.size_alloc, hW1] at this
  have hK1 : W1.heap[w.heap.size]? = some (.deferred (some [])) := by
    rw [← hW1]
    exact (Below.heap_alloc _ _ _ (by simp)).trans (World.alloc_heap_new w _)
  have hB1 : W1.heap[B]? = some o0 := by
    rw [← hW1]
    exact ((Below.heap_alloc _ _ _ (by simp; omega)).trans (Below.heap_alloc _ _ _ hBlt)).trans hB
  have hI1 : I [] W1 := by
    rw [← hW1]
    exact hI _ _ _ (Kept.alloc _ _) (hI _ _ _ (Kept.alloc _ _) h0)
  refine ⟨w.heap.size + 1, [{ target := .collected w.heap.size, args := #[] }], W1, { target := .fn (.func gf) lb, args := #[.func (.yield (w.heap.size + 1)) #[] #[]] }, W1, gf,
    #[.func (.yield (w.heap.size + 1)) #[] #[]] ++ lb, W1, ?_, ?_, fun _ _ => trivial, ?_, fun h => by simp [Fence.wide] at h, ?_⟩
  · rw [← hW1, hrec]
    exact run_enterLoop_outer _ _ _ _ _
  · simp only [resolve, hg]
    simp [go_sem]
  · simp [invoke, go_sem, eg]
  refine (hseq (w.heap.size + 1)
    (fun pre W => I pre W ∧ W.heap[w.heap.size + 1]? = some (.loop (rec .ready none)) ∧ W.heap[w.heap.size]? = some (.deferred (some [])))
    W1 (hPre _ hB1) ?_ ?_ ⟨hI1, hL1, hK1⟩).mono ?_
  · rintro pre W v ⟨h1, h2, h3⟩
    refine ⟨hI _ _ _ (Kept.setBox _ _) h1, ?_, ?_⟩
    · exact (Below.heap_setCell W ⟨B, 0, none⟩ v _ (by simp; omega)).trans h2
    · exact (Below.heap_setCell W ⟨B, 0, none⟩ v _ (by simp; omega)).trans h3
  · rintro pre x post hx W ⟨hi, hl, hk⟩
    have hlt : w.heap.size + 1 < W.heap.size := (Array.getElem?_eq_some_iff.1 hl).1
    have hy := run_yield (P := P) (args := encs x) hl (by rw [hrec]; exact hps x)
    rw [hrec] at hy
    refine ⟨fn, _, assign, body, hy, roundIn_of_wpIn hfn (hassign _ x W _ ⟨_, run_beginRound hl (by rw [hrec]), ?_⟩)⟩
    have hl2 : (W.putObj (w.heap.size + 1) (.loop { rec .ready none with state := .busy })).heap[w.heap.size + 1]? = some (.loop { rec .ready none with state := .busy }) := World.putObj_heap_same hlt
    have hk2 : (W.putObj (w.heap.size + 1) (.loop { rec .ready none with state := .busy })).heap[w.heap.size]? = some (.deferred (some [])) := (World.putObj_heap_other (by omega)).trans hk
    refine wpIn_mono (hbody _ pre x post _ hx (hI _ _ _ (Kept.putObj _ hl rfl (by omega)) hi)) ?_
    intro e a3 W3 hp
    cases e with
    | normal =>
      obtain ⟨hk3, hb3, hi3⟩ := hp
      have hl3 := hk3.same _ _ hl2 rfl
      have hr := run_endRound (P := P) none hl3
      have hlt3 : w.heap.size + 1 < W3.heap.size := (Array.getElem?_eq_some_iff.1 hl3).1
      refine ⟨_, _, hr, rfl, ⟨hI _ _ _ (Kept.putObj _ hl3 rfl (by omega)) hi3, ?_, (World.putObj_heap_other (by omega)).trans (hk3.same _ _ hk2 rfl)⟩, ?_⟩
      · rw [World.putObj_heap_same hlt3, hrec]
        rfl
      · rw [World.putObj_heap_other (by omega), hb3, World.putObj_heap_other (by omega)]
    | ret => exact hp.elim
    | exit id => exact hp.elim
    | goto t => exact hp.elim
    | panic ch => exact hp.elim
    | outgrown => exact hp.elim
  · rintro e W2 ⟨⟨v, rfl⟩, hi, hl, hk⟩
    have hr := run_endLoop (P := P) hl (by rw [hrec]; simp)
    rw [hrec] at hr
    rw [hrec] at hl
    exact ⟨none, _, hr, hdone _ _ (Nat.le_refl _) (hI _ _ _ (Kept.putObj _ hl rfl (by omega)) hi) ((World.putObj_heap_other (by omega)).trans hk)⟩

end Go.Proofs.YtnfchojekcoplaaDoor
