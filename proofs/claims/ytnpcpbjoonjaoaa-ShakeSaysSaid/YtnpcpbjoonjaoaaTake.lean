/- wire: the reader, begins -/
import Derived.Test.YtnpcpbjoonjaoaaGet
import Derived.Test.YtnpcpbjoonjaoaaMade
import Derived.Lib.Strings
namespace Go.Proofs.Ytnpcpbjoonjaoaa
set_option linter.unusedVariables false
set_option linter.unusedSimpArgs false
open Go.RowKit

/-- The bytes in block g go on by n. -/
def Goes (g : Nat) (a : Option Addr) (n m c : Nat) (w w' : World) : Prop :=
  ∃ a', w.setCell ⟨g, 0, none⟩ (.slice a' (m - n) (c - n)) = w' ∧ ∀ (W : World) (Bd : Nat) (l : List UInt8), Rd W Bd a (bs l) → l.length = m → Rd W Bd a' (bs (l.drop n))

theorem goes_of {g : Nat} {a : Option Addr} {n m c : Nat} {w : World} (hm : m ≤ c) : Goes g a n m c w (w.setCell ⟨g, 0, none⟩ (.slice (if c = n then a else a.map (·.add n)) (m - n) (c - n))) :=
  ⟨_, rfl, fun W Bd l h hl => by rw [bs_drop]; exact h.cut (by rw [bs_length]; omega)⟩

theorem rtake_any (g : Nat) (a : Option Addr) (n c : Nat) (l : List UInt8) (w : World) (hc : w.cell? ⟨g, 0, none⟩ = some (.slice a l.length c)) (hf : w.frozen? ⟨g, 0, none⟩ = false)
    (hn : n ≤ l.length) (hn1 : 1 ≤ n) (hn8 : n ≤ 8) (hm : l.length ≤ c) (hc2 : c ≤ 9223372036854775807) {Bd : Nat} (hr : Rd w Bd a (bs l)) (hg : Bd ≤ g) :
    Calls Try.prog 44 #[.pointer (some ⟨g, 0, none⟩), .int .i64 n] w fun e w' => e = .returned (.int .u64 (numOf (l.take n))) ∧ Goes g a n l.length c w w' := by
  have HR := Lib.hid hr
  have hlen : (l.take n).length = n := by simp; omega
  have G := Lib.hid (goes_of (g := g) (a := a) (n := n) (w := w) hm)
  have HG := Lib.hid (get_good a c (l.take n) w (by omega) (by omega) (by rw [bs_take]; exact hr.take n))
  rw [hlen] at HG
  have hn' : (n : Int) ≤ (l.length : Int) := by omega
  clear hr hlen
  by_cases hne : c = n
  · subst hne
    rw [if_pos rfl, show l.length - c = 0 by omega] at G
    go_enter Try.func44, Try.ntmps44
    go_wp2_with fail
    refine HG.out.mono ?_
    rintro e w' ⟨rfl, rfl⟩
    go_wp2_with fail
    go_ret
    exact ⟨rfl, by simpa using G.out⟩
  · rw [if_neg hne] at G
    go_enter Try.func44, Try.ntmps44
    go_wp2_with fail
    refine HG.out.mono ?_
    rintro e w' ⟨rfl, rfl⟩
    go_wp2_with fail
    go_ret
    exact ⟨rfl, G.out⟩

/-- Do the bytes begin as the text does, as far as both go? -/
def beginsB (l s : List UInt8) : Bool := l.take s.length == s.take l.length

theorem prefix_in (s p : ByteArray) (w : World) (hs : s.size ≤ 1000) (hp : p.size ≤ 1000) :
    Calls Try.prog 58 #[.string s, .string p] w fun e w' => e = .returned (.bool (decide (p.size ≤ s.size) && (s.data.toList.take p.size == p.data.toList))) ∧ w = w' := by
  by_cases h : p.size ≤ s.size
  · rw [decide_eq_true h]
    have h' : (p.size : Int) ≤ (s.size : Int) := by omega
    go_enter Try.func58, Try.ntmps58
    go_wp2_with fail
    go_ret
    refine ⟨?_, rfl⟩
    have e := Lib.extract_toList s 0 p.size
    rw [List.drop_zero, Nat.sub_zero] at e
    have e2 := Lib.toList_data p
    simp [e, e2]
  · rw [decide_eq_false h]
    have h' : ¬ (p.size : Int) ≤ (s.size : Int) := by omega
    go_enter Try.func58, Try.ntmps58
    go_wp2_with fail
    go_ret
    exact ⟨by simp, rfl⟩

theorem prefix_any (s p : ByteArray) (w : World) (hs : s.size ≤ 1000) (hp : p.size ≤ 1000) :
    Calls Try.prog 52 #[.string s, .string p] w fun e w' => e = .returned (.bool (decide (p.size ≤ s.size) && (s.data.toList.take p.size == p.data.toList))) ∧ w = w' := by
  go_enter Try.func52, Try.ntmps52
  go_wp2_with fail
  refine (prefix_in s p w hs hp).mono ?_
  rintro e w' ⟨rfl, rfl⟩
  go_wp2_with fail
  go_ret
  exact ⟨rfl, rfl⟩

theorem begins_any (a : Option Addr) (n c : Nat) (l : List UInt8) (s : ByteArray) (w : World) (hn : l.length = n) (hnc : n ≤ c) (hs : s.size ≤ 1000) {Bd : Nat} (hr : Rd w Bd a (bs l)) :
    Calls Try.prog 43 #[.slice a n c, .string s] w fun e w' => e = .returned (.bool (beginsB l s.data.toList)) ∧ w = w' := by
  subst hn
  have hz : s.size = s.data.toList.length := Lib.size_eq s
  by_cases h : l.length ≤ s.size
  · have h1 : (l.length : Int) ≤ (s.size : Int) := by omega
    have c1 := conv_rd hr l.length c rfl
    have P := Lib.hid (prefix_any s ⟨l.toArray⟩ w hs (by show l.length ≤ 1000; omega))
    have HB : Hid ((decide ((⟨l.toArray⟩ : ByteArray).size ≤ s.size) && (s.data.toList.take (⟨l.toArray⟩ : ByteArray).size == (⟨l.toArray⟩ : ByteArray).data.toList)) = beginsB l s.data.toList) := Lib.hid (by
      have e : (⟨l.toArray⟩ : ByteArray).size = l.length := rfl
      rw [e, decide_eq_true h, Bool.true_and, beginsB, List.take_of_length_le (show l.length ≤ s.data.toList.length by omega)]
      show (List.take l.length s.data.toList == l) = _
      rw [Bool.eq_iff_iff, beq_iff_eq, beq_iff_eq]
      exact ⟨Eq.symm, Eq.symm⟩)
    clear hz hr
    go_enter Try.func43, Try.ntmps43
    go_wp2_with fail
    refine P.out.mono ?_
    rintro e w' ⟨rfl, rfl⟩
    rw [HB.out]
    go_wp2_with fail
    go_ret
    exact ⟨rfl, rfl⟩
  · have h1 : ¬ (l.length : Int) ≤ (s.size : Int) := by omega
    have hl : (l.take s.size).length = s.size := by rw [List.length_take]; omega
    have c1 := conv_rd (bs_take l s.size ▸ hr.take s.size) s.size c hl
    have P := Lib.hid (prefix_any s ⟨(l.take s.size).toArray⟩ w hs (by show (l.take s.size).length ≤ 1000; omega))
    have HB : Hid ((decide ((⟨(l.take s.size).toArray⟩ : ByteArray).size ≤ s.size) && (s.data.toList.take (⟨(l.take s.size).toArray⟩ : ByteArray).size == l.take s.size)) = beginsB l s.data.toList) := Lib.hid (by
      have e : (⟨(l.take s.size).toArray⟩ : ByteArray).size = s.size := hl
      rw [e, decide_eq_true (Nat.le_refl _), Bool.true_and, beginsB, ← hz, List.take_of_length_le (show s.data.toList.length ≤ s.size by omega), List.take_of_length_le (show s.data.toList.length ≤ l.length by omega)]
      rw [Bool.eq_iff_iff, beq_iff_eq, beq_iff_eq]
      exact ⟨Eq.symm, Eq.symm⟩)
    have hsc : (s.size : Int) ≤ (c : Int) := by omega
    clear hz hr hl
    obtain ⟨t, ht⟩ : ∃ t, l.take s.size = t := ⟨_, rfl⟩
    rw [ht] at c1 P HB
    clear ht
    go_enter Try.func43, Try.ntmps43
    go_wp2_with fail
    refine P.out.mono ?_
    rintro e w' ⟨rfl, rfl⟩
    rw [HB.out]
    go_wp2_with fail
    go_ret
    exact ⟨rfl, rfl⟩

theorem OwnB.keepB {w w' : World} {base : Nat} {v : Value} {l : List UInt8} (h : OwnB w base v l) (hb : ∀ g, v.ownBlock = some g → g < w.heap.size → w'.heap[g]? = w.heap[g]?) : OwnB w' base v l := OwnG.keep h hb

/-- Nothing but block b turns. -/
def But (b : Nat) (w w' : World) : Prop := (∀ p : Addr, p.block ≠ b → w'.cell? p = w.cell? p) ∧ (∀ p : Addr, w'.frozen? p = w.frozen? p) ∧ w'.heap.size = w.heap.size ∧ ∀ B, B ≤ b → Below B w w'

theorem Goes.but {g : Nat} {a : Option Addr} {n m c : Nat} {w w' : World} (h : Goes g a n m c w w') : But g w w' := by
  obtain ⟨a', rfl, _⟩ := h
  exact ⟨fun p hp => World.cell?_setCell_other _ _ _ _ (fun e => hp (by rw [← e])), fun p => by simp, by simp, fun B hB => (Below.refl _ _).setCell hB _⟩

/-- The reader in block g stands at the bytes L. -/
def RS (W : World) (Bd g : Nat) (L : List UInt8) : Prop :=
  ∃ a c, W.cell? ⟨g, 0, none⟩ = some (.slice a L.length c) ∧ W.frozen? ⟨g, 0, none⟩ = false ∧ L.length ≤ c ∧ c ≤ 9223372036854775807 ∧ Rd W Bd a (bs L) ∧ Bd ≤ g ∧ g < W.heap.size

theorem RS.below {W W' : World} {Bd g : Nat} {L : List UInt8} (h : RS W Bd g L) (hb : Below W.heap.size W W') : RS W' Bd g L := by
  obtain ⟨a, c, h1, h2, h3, h4, h5, h6, h7⟩ := h
  have := hb.size
  exact ⟨a, c, (hb.cell (by exact h7)).trans h1, (hb.frozen (by exact h7)).trans h2, h3, h4, h5.keep fun p hp => hb.cell (by omega), h6, by omega⟩

def RTake (W : World) (Bd g : Nat) (L : List UInt8) (n : Nat) (e : Ending) (w' : World) : Prop :=
  e = .returned (.int .u64 (numOf (L.take n))) ∧ RS w' Bd g (L.drop n) ∧ But g W w'

theorem rtake_rs (n : Nat) {W : World} {Bd g : Nat} {L : List UInt8} (h : RS W Bd g L) (hn : n ≤ L.length) (hn1 : 1 ≤ n) (hn8 : n ≤ 8) :
    Calls Try.prog 44 #[.pointer (some ⟨g, 0, none⟩), .int .i64 n] W (RTake W Bd g L n) := by
  obtain ⟨a, c, h1, h2, h3, h4, h5, h6, h7⟩ := h
  refine (rtake_any g a n c L W h1 h2 hn hn1 hn8 h3 h4 h5 h6).mono ?_
  rintro e w' ⟨rfl, hg⟩
  refine ⟨rfl, ?_, hg.but⟩
  obtain ⟨a', rfl, hr⟩ := hg
  refine ⟨a', c - n, ?_, by simpa using h2, by rw [List.length_drop]; omega, by omega, hr _ _ _ (h5.setCell h6 _) rfl, h6, by simpa using h7⟩
  rw [List.length_drop]; exact World.cell?_setCell_same _ _ _ h1
theorem rtake2 {W : World} {Bd g : Nat} {L : List UInt8} (h : RS W Bd g L) (hn : 2 ≤ L.length) :
    Calls Try.prog 44 #[.pointer (some ⟨g, 0, none⟩), .int .i64 2] W (RTake W Bd g L 2) := rtake_rs 2 h hn (by omega) (by omega)
theorem rtake4 {W : World} {Bd g : Nat} {L : List UInt8} (h : RS W Bd g L) (hn : 4 ≤ L.length) :
    Calls Try.prog 44 #[.pointer (some ⟨g, 0, none⟩), .int .i64 4] W (RTake W Bd g L 4) := rtake_rs 4 h hn (by omega) (by omega)
theorem rtake8 {W : World} {Bd g : Nat} {L : List UInt8} (h : RS W Bd g L) (hn : 8 ≤ L.length) :
    Calls Try.prog 44 #[.pointer (some ⟨g, 0, none⟩), .int .i64 8] W (RTake W Bd g L 8) := rtake_rs 8 h hn (by omega) (by omega)
end Go.Proofs.Ytnpcpbjoonjaoaa
