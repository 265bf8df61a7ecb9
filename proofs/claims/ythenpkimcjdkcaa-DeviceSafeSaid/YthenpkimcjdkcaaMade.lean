/- bytes that a call makes; bytes.Clone -/
import Derived.Test.YthenpkimcjdkcaaA
import Derived.Test.YthenpkimcjdkcaaNum
import Derived.Lib.SliceRun
namespace Go.Proofs.Ythenpkimcjdkcaa
set_option linter.unusedVariables false
set_option linter.unusedSimpArgs false
open Go.RowKit

def Made1 (out : List UInt8) (w : World) (e : Ending) (w' : World) : Prop :=
  ∃ a n c, e = .returned (.slice a n c) ∧ OwnB w' w.heap.size (.slice a n c) out ∧ Below w.heap.size w w'
def Made2 (out : List UInt8) (er : Int) (w : World) (e : Ending) (w' : World) : Prop :=
  ∃ a n c, e = .returned (.tuple #[.slice a n c, .int .i64 er]) ∧ OwnB w' w.heap.size (.slice a n c) out ∧ Below w.heap.size w w'

theorem clone_any (a : Option Addr) (n cap : Nat) (l : List UInt8) (w : World) (hn : l.length = n) (hl : n ≤ 140737488355327) {Bd : Nat} (hr : Rd w Bd a (bs l)) (hB : Bd ≤ w.heap.size) :
    Calls Try.prog 66 #[.slice a n cap] w (Made1 l w) := by
  have qT : ∀ (w : World) (a : Option Addr) (n c n' c' : Nat), (binOp .eql 30 (.slice a n c) (.slice none n' c')).run Try.prog w = .ok (.bool a.isNone) w := fun w a n c n' c' => Lib.run_eql_slice_nil w _ _ a n c n' c' Try.underlying30
  cases a with
  | none =>
    have h0 : l = [] := by
      rcases hr with h | ⟨b, off, h, _⟩
      · simpa [bs] using h
      · cases h
    subst h0
    go_enter Try.func66, Try.ntmps66
    go_wp2_with fail
    go_ret
    exact ⟨_, _, _, rfl, OwnB.nil _ _, Below.refl _ _⟩
  | some b =>
    have HR := Lib.hid hr
    have HN := Lib.hid hn
    clear hr hn
    go_enter Try.func66, Try.ntmps66
    go_wp2_with (at_builtin; refine wpList_app rfl _ _ rfl w.heap.size _ [] rfl (OwnB.lit0 w) Bd _ n cap l rfl HN.out (Rd.alloc HR.out hB _) (by simp; omega) (by simp) ?_)
    intro v2 w2 hown2 hgr2 hat2
    have hb := below_app ((Below.refl w.heap.size w).alloc (Nat.le_refl _) _) (OwnB.lit0 w) (Nat.le_refl _) hgr2
    obtain ⟨a2, c2, rfl, _⟩ := hown2.shape
    have HO := Lib.hid hown2
    clear hown2
    go_wp2_with fail
    go_ret
    exact ⟨_, _, _, rfl, by simpa using HO.out, hb⟩

def zeros (n : Nat) : List UInt8 := List.replicate n 0
theorem zeros_length (n : Nat) : (zeros n).length = n := by simp [zeros]

/-- make([]byte, n). -/
theorem wpList_makeB (w : World) {ops : Array Oper} {rest : List Oper} {o : Oper} {a : Act} {Q : Exit → Act → World → Prop} (hg : o.guard = none) (l c : Operand) (hop : o.op = Op.makeSlice 30 l c)
    (kl kc : IntKind) (L C : Int) (n : Nat) (hl : a.eval l = .int kl L) (hc : a.eval c = .int kc C) (hL : L = (n : Int)) (hC : C = (n : Int)) (hn : n ≤ 281474976710656)
    (hK : ∀ w', OwnB w' w.heap.size (.slice (some ⟨w.heap.size, 0, none⟩) n n) (zeros n) → w.grownBy w' none → wpList Try.prog ops Q rest (a.put o.dst (.slice (some ⟨w.heap.size, 0, none⟩) n n)) w') :
    wpList Try.prog ops Q (o :: rest) a w := by
  obtain ⟨i0, hi, hz0, hz1, hz2⟩ := info_parts info_u8
  refine wpList_make_full _ hg l c _ hop w.heap.size 5 i0 (.int .u8 0) 1 Try.underlying30 hi hz0 hz1 kl kc L C n hl hc hL hC (by rw [hz2]; omega) (by unfold maxLen; omega) (Nat.le_refl _) ?_
  intro w' hown hgr
  rw [Nat.mul_one] at hown
  have h := OwnB.of (own_zero hown)
  exact hK w' h hgr
end Go.Proofs.Ythenpkimcjdkcaa
