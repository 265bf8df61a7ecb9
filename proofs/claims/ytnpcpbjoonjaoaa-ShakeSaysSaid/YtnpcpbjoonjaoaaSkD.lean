/- shake: replies -/
import Derived.Test.YtnpcpbjoonjaoaaSkC
namespace Go.Proofs.Ytnpcpbjoonjaoaa
set_option linter.unusedVariables false
set_option linter.unusedSimpArgs false
open Go.RowKit

/-- A reply, as it lies. -/
structure Rp where
  kind : Nat
  data : List UInt8
  a : Option Addr
  c : Nat
def Rp.cells (x : Rp) : List Value := [.int .i64 (x.kind : Int), .slice x.a x.data.length x.c]
def rpCells (L : List Rp) : List Value := L.flatMap Rp.cells
def rpL (L : List Rp) : List (Nat × List UInt8) := L.map fun x => (x.kind, x.data)
theorem rpCells_length (L : List Rp) : (rpCells L).length = L.length * 2 := by
  induction L with
  | nil => rfl
  | cons x l ih => simp [rpCells, Rp.cells] at *; omega
theorem rpCells_get (L : List Rp) : ∀ (i : Nat) (h : i < L.length), (rpCells L)[i * 2]? = some (.int .i64 ((L[i]).kind : Int)) ∧ (rpCells L)[i * 2 + 1]? = some (.slice (L[i]).a (L[i]).data.length (L[i]).c) := by
  induction L with
  | nil => intro i h; simp at h
  | cons p l ih =>
    intro i h
    cases i with
    | zero => simp [rpCells, Rp.cells]
    | succ i =>
      have := ih i (by simpa using h)
      have e : rpCells (p :: l) = .int .i64 (p.kind : Int) :: .slice p.a p.data.length p.c :: rpCells l := rfl
      rw [e, show (i + 1) * 2 = i * 2 + 1 + 1 by omega]
      simpa using this
def OwnR (w : World) (base : Nat) (v : Value) (n : Nat) (L : List Rp) : Prop := OwnG w base 94 2 v n (rpCells L)
/-- A list of replies that a call made. -/
def RepsAt (w : World) (base : Nat) (v : Value) (reps : List (Nat × List UInt8)) : Prop :=
  ∃ L, rpL L = reps ∧ OwnR w base v L.length L ∧ ∀ x ∈ L, Rd w w.heap.size x.a (bs x.data)

theorem info_reply : (Try.prog.info? 94).map (fun i => (i.zero, i.size, i.bytes)) = some (some (.agg #[.int .i64 0, .slice none 0 0]), 2, 32) := by kernel_rfl

/-- A list that is written out. -/
theorem own_lit (w : World) (e : TypeId) (size n : Nat) (cs : List Value) (hl : cs.length = n * size) (hn : n ≤ 1000000) : OwnG (w.alloc (.cells cs.toArray e)) w.heap.size e size (.slice (some ⟨w.heap.size, 0, none⟩) n n) n cs := by
  refine ⟨hl, .inr ⟨w.heap.size, 0, n, cs.toArray, 0, 0, rfl, Nat.le_refl _, heap_alloc_new w _, by simp [hl], .inr (.inr (Nat.le_refl _)), Nat.le_refl _, by unfold maxLen; omega, fun j u hu => by simpa using hu⟩⟩

theorem wpList_appR {w : World} {ops : Array Oper} {rest : List Oper} {o : Oper} {a : Act} {Q : Exit → Act → World → Prop} (hgd : o.guard = none) (s x : Operand)
    (ho : o.op = .call { callee := .builtin .append, args := #[s, x], argTypes := #[91, 91] })
    (base : Nat) (v : Value) (n : Nat) (L : List Rp) (hs : a.eval s = v) (hown : OwnR w base v n L) (hn : n ≤ 1000)
    (Bd : Nat) (ad : Option Addr) (c : Nat) (y : Rp) (hx : a.eval x = .slice ad 1 c) (hr : Rd w Bd ad y.cells) (hbase : base ≤ w.heap.size)
    (h : ∀ v' w', OwnR w' base v' (n + 1) (L ++ [y]) → w.grownBy w' v.ownBlock → (v'.ownBlock = v.ownBlock ∨ v'.ownBlock = some w.heap.size) → wpList Try.prog ops Q rest (a.put o.dst v') w') : wpList Try.prog ops Q (o :: rest) a w := by
  refine wpList_append_g hgd s x 91 ho base 94 (.agg #[.int .i64 0, .slice none 0 0]) 2 32 Try.underlying91 info_reply rfl (by omega) v n (rpCells L) hs hown Bd ad 1 c y.cells hx rfl hr (by intro u hu; simp [Rp.cells] at hu; rcases hu with rfl | rfl <;> rfl) (by omega) (by omega) hbase ?_
  intro v' w' h1 h2 h3
  refine h v' w' ?_ h2 h3
  unfold OwnR
  have e : rpCells (L ++ [y]) = rpCells L ++ y.cells := by simp [rpCells]
  rw [e]
  exact h1

/-- slices.Index -/
theorem index_any (y : Int) (a : Option Addr) (n c : Nat) (L : List Nat) (w : World) {Bd : Nat} (hl : L.length = n) (hn : n ≤ 9223372036854775807) (hr : Rd w Bd a (ints L)) :
    Calls Try.prog 63 #[.slice a n c, .int .i64 y] w fun e w' => (∃ z : Int, e = .returned (.int .i64 z) ∧ (0 ≤ z ↔ ∃ x ∈ L, (x : Int) = y)) ∧ w = w' := by
  have HR := Lib.hid hr
  have HL := Lib.hid hl
  clear hr hl
  go_enter Try.func63, Try.ntmps63
  go_wp2_with fail
  go_loopw [8, 5] (fun vi v5 wr => ∃ k : Nat, k ≤ n ∧ vi = .int .i64 k ∧ (∀ x ∈ L.take k, (x : Int) ≠ y) ∧ wr = w) (fun vi _ _ => n - (intOf vi).toNat)
  case atStart => exact ⟨0, Nat.zero_le _, rfl, by simp, rfl⟩
  case round =>
    obtain ⟨k, hk, rfl, hno, rfl⟩ := hrel
    have HNO := Lib.hid hno
    clear hno
    by_cases hlt : k < n
    · have hI : (k : Int) < (n : Int) := by omega
      have k0 : (0 : Int) ≤ (k : Int) := Int.natCast_nonneg k
      have hkl : k < L.length := by rw [HL.out]; exact hlt
      obtain ⟨x, hx⟩ : ∃ x, L[k] = x := ⟨_, rfl⟩
      have hx2 : L[k]? = some x := by rw [List.getElem?_eq_getElem hkl, hx]
      obtain ⟨b, off, rfl, _, hc⟩ := HR.out.at k (.int .i64 (x : Int)) (by rw [ints, List.getElem?_map, hx2]; rfl)
      have HT : Hid (L.take (k + 1) = L.take k ++ [x]) := Lib.hid (by rw [List.take_succ_eq_append_getElem hkl, hx])
      have HM : Hid (x ∈ L) := Lib.hid (by rw [← hx]; exact List.getElem_mem _)
      clear hx hx2 hkl
      by_cases he : (x : Int) = y
      · subst he
        go_wp2_with fail
        go_ret
        exact ⟨⟨(k : Int), rfl, ⟨fun _ => ⟨x, HM.out, rfl⟩, fun _ => k0⟩⟩, rfl⟩
      · have he' : ¬ (y = (x : Int)) := fun e => he e.symm
        go_wp2_with fail
        all_goals go_roundw
        all_goals first
          | (case measure => simp [intOf]; omega)
          | exact ⟨k + 1, hlt, by go_num, by rw [HT.out]; intro z hz; rcases List.mem_append.1 hz with h | h; exact HNO.out z h; (simp at h; subst h; exact he), by first | rfl | trivial⟩
    · have hI : ¬ ((k : Int) < (n : Int)) := by omega
      have hke : k = n := by omega
      subst hke
      have HA : Hid (∀ x ∈ L, (x : Int) ≠ y) := Lib.hid (by have h := HNO.out; rwa [List.take_of_length_le (by rw [HL.out]; exact Nat.le_refl _)] at h)
      go_wp2_with fail
      go_ret
      exact ⟨⟨-1, rfl, ⟨fun h => by omega, fun ⟨x, hx, he⟩ => absurd he (HA.out x hx)⟩⟩, rfl⟩

theorem contains_any (y : Int) (a : Option Addr) (n c : Nat) (L : List Nat) (w : World) {Bd : Nat} (hl : L.length = n) (hn : n ≤ 9223372036854775807) (hr : Rd w Bd a (ints L)) :
    Calls Try.prog 62 #[.slice a n c, .int .i64 y] w fun e w' => (∃ v : Bool, e = .returned (.bool v) ∧ (v = true ↔ ∃ x ∈ L, (x : Int) = y)) ∧ w = w' := by
  have C := Lib.hid (index_any y a n c L w hl hn hr)
  clear hl hn hr
  go_enter Try.func62, Try.ntmps62
  go_wp2_with fail
  refine C.out.mono ?_
  rintro e w' ⟨⟨z, rfl, hz⟩, rfl⟩
  have HZ := Lib.hid hz
  clear hz C
  go_wp2_with fail
  go_ret
  exact ⟨⟨decide (0 ≤ z), rfl, by rw [decide_eq_true_iff]; exact HZ.out⟩, rfl⟩
end Go.Proofs.Ytnpcpbjoonjaoaa
