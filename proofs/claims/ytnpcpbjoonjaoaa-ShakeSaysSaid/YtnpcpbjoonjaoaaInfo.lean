/- wire: what an option Info asks for -/
import Derived.Test.YtnpcpbjoonjaoaaRW3
namespace Go.Proofs.Ytnpcpbjoonjaoaa
set_option linter.unusedVariables false
set_option linter.unusedSimpArgs false
open Go.RowKit

/-- m numbers of two bytes each. -/
def numsL (l : List UInt8) (m : Nat) : List Nat := (List.range m).map fun i => numOf ((l.drop (2 * i)).take 2)
theorem numsL_succ (l : List UInt8) (m : Nat) : numsL l (m + 1) = numsL l m ++ [numOf ((l.drop (2 * m)).take 2)] := by
  rw [numsL, numsL, List.range_succ, List.map_append]; rfl
theorem numsL_length (l : List UInt8) (m : Nat) : (numsL l m).length = m := by simp [numsL]
def ints (L : List Nat) : List Value := L.map fun (x : Nat) => Value.int .i64 (x : Int)
theorem ints_length (L : List Nat) : (ints L).length = L.length := by simp [ints]
theorem ints_snoc (L : List Nat) (x : Nat) : ints (L ++ [x]) = ints L ++ [Value.int .i64 (x : Int)] := by simp [ints]

/-- What is asked for: a name, numbers, the error. -/
def infoR (b : List UInt8) : List UInt8 × List Nat × Int :=
  if b.length < 6 then ([], [], 201)
  else if b.length - 6 < numOf (b.take 4) then ([], [], 201)
  else if b.length - (6 + numOf (b.take 4)) ≠ 2 * numOf ((b.drop (4 + numOf (b.take 4))).take 2) then ([], [], 201)
  else ((b.drop 4).take (numOf (b.take 4)), numsL (b.drop (6 + numOf (b.take 4))) (numOf ((b.drop (4 + numOf (b.take 4))).take 2)), 0)

def OwnI (w : World) (base : Nat) (v : Value) (n : Nat) (L : List Nat) : Prop := OwnG w base 3 1 v n (ints L)

def InfoPost (r : List UInt8 × List Nat × Int) (w : World) (e : Ending) (w' : World) : Prop :=
  ∃ a n c, e = .returned (.tuple #[.string ⟨r.1.toArray⟩, .slice a n c, .int .i64 r.2.2]) ∧ OwnI w' w.heap.size (.slice a n c) n r.2.1 ∧ Below w.heap.size w w'

theorem info_int : (Try.prog.info? 3).map (fun i => (i.zero, i.size, i.bytes)) = some (some (.int .i64 0), 1, 8) := by kernel_rfl

theorem rd_int1 (w : World) (y : Int) : Rd (w.alloc (.cells #[Value.int .i64 y] 3)) (w.heap.size + 1) (some ⟨w.heap.size, 0, none⟩) [Value.int .i64 y] := Rd.new w [Value.int .i64 y] 3

/-- append(l, x) of an int. -/
theorem wpList_appI {w : World} {ops : Array Oper} {rest : List Oper} {o : Oper} {a : Act} {Q : Exit → Act → World → Prop} (hgd : o.guard = none) (s x : Operand)
    (ho : o.op = .call { callee := .builtin .append, args := #[s, x], argTypes := #[49, 49] })
    (base : Nat) (v : Value) (n : Nat) (L : List Nat) (hs : a.eval s = v) (hown : OwnI w base v n L) (hn : n ≤ 1000000)
    (Bd : Nat) (ad : Option Addr) (c : Nat) (y : Nat) (hx : a.eval x = .slice ad 1 c) (hr : Rd w Bd ad [Value.int .i64 (y : Int)]) (hbase : base ≤ w.heap.size)
    (h : ∀ v' w', OwnI w' base v' (n + 1) (L ++ [y]) → w.grownBy w' v.ownBlock → (v'.ownBlock = v.ownBlock ∨ v'.ownBlock = some w.heap.size) → wpList Try.prog ops Q rest (a.put o.dst v') w') : wpList Try.prog ops Q (o :: rest) a w := by
  refine wpList_append_g hgd s x 49 ho base 3 (.int .i64 0) 1 8 Try.underlying49 info_int rfl (by omega) v n (ints L) hs hown Bd ad 1 c [Value.int .i64 (y : Int)] hx rfl hr (by intro u hu; simp at hu; subst hu; rfl) (by omega) (by omega) hbase ?_
  intro v' w' h1 h2 h3
  refine h v' w' ?_ h2 h3
  unfold OwnI
  rw [ints_snoc]
  exact h1

theorem grownBy_setI {w : World} {g off : Nat} {s : Option Nat} (v : Value) : w.grownBy (w.setCell ⟨g, off, s⟩ v) (some g) := by
  refine ⟨rfl, rfl, rfl, by rw [World.size_setCell]; exact Nat.le_refl _, fun k hk hne => ?_⟩
  have : g ≠ k := fun e => hne (by rw [e])
  simp [World.setCell, Array.getElem?_modify, this]

/-- take, and which block turns. -/
theorem rtake_rsG (n : Nat) {W : World} {Bd g : Nat} {L : List UInt8} {nI : Int} (hI : nI = (n : Int)) (h : RS W Bd g L) (hn : n ≤ L.length) (hn1 : 1 ≤ n) (hn8 : n ≤ 8) {x : Nat} (hx : numOf (L.take n) = x) :
    Calls Try.prog 44 #[.pointer (some ⟨g, 0, none⟩), .int .i64 nI] W fun e w' => e = .returned (.int .u64 (x : Int)) ∧ RS w' Bd g (L.drop n) ∧ W.grownBy w' (some g) := by
  subst hI; subst hx
  obtain ⟨a, c, h1, h2, h3, h4, h5, h6, h7⟩ := h
  refine (rtake_any g a n c L W h1 h2 hn hn1 hn8 h3 h4 h5 h6).mono ?_
  rintro e w' ⟨rfl, hg⟩
  obtain ⟨a', rfl, hr⟩ := hg
  refine ⟨rfl, ?_, grownBy_setI _⟩
  refine ⟨a', c - n, ?_, by simpa using h2, by rw [List.length_drop]; omega, by omega, hr _ _ _ (h5.setCell h6 _) rfl, h6, by simpa using h7⟩
  rw [List.length_drop]; exact World.cell?_setCell_same _ _ _ h1

theorem RS.under {W W' : World} {B Bd g : Nat} {L : List UInt8} (h : RS W Bd g L) (hb : Below B W W') (hg : g < B) : RS W' Bd g L := by
  obtain ⟨a, c, h1, h2, h3, h4, h5, h6, h7⟩ := h
  have := hb.size
  exact ⟨a, c, (hb.cell (by exact hg)).trans h1, (hb.frozen (by exact hg)).trans h2, h3, h4, h5.keep fun p hp => hb.cell (by omega), h6, Nat.lt_of_lt_of_le h7 hb.size⟩
end Go.Proofs.Ytnpcpbjoonjaoaa
