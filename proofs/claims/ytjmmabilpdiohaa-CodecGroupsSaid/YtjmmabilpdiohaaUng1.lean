/- codec.Ungroup's closures: take and number -/
import Derived.Test.YtjmmabilpdiohaaGroup
import Derived.Recover
namespace Go.Proofs.Ytjmmabilpdiohaa
set_option linter.unusedVariables false
set_option linter.unusedSimpArgs false
open Go.RowKit

/-- The captured bytes go on by n. -/
def Goes (g : Nat) (a : Option Addr) (n m c : Nat) (w w' : World) : Prop :=
  ∃ a', w.setCell ⟨g, 0, none⟩ (.slice a' (m - n) (c - n)) = w' ∧ ∀ (W : World) (Bd : Nat) (l : List UInt8), Rd W Bd a (bs l) → l.length = m → Rd W Bd a' (bs (l.drop n))

theorem goes_of {g : Nat} {a : Option Addr} {n m c : Nat} {w : World} (hm : m ≤ c) : Goes g a n m c w (w.setCell ⟨g, 0, none⟩ (.slice (if c = n then a else a.map (·.add n)) (m - n) (c - n))) :=
  ⟨_, rfl, fun W Bd l h hl => by rw [bs_drop]; exact h.cut (by rw [bs_length]; omega)⟩

theorem take_ok (g : Nat) (a : Option Addr) (n m c : Nat) (w : World) (hc : w.cell? ⟨g, 0, none⟩ = some (.slice a m c)) (hf : w.frozen? ⟨g, 0, none⟩ = false) (hn : n ≤ m) (hm : m ≤ c) (hc2 : c ≤ 9223372036854775807) :
    Calls Try.prog 34 #[.int .i64 n, .pointer (some ⟨g, 0, none⟩)] w fun e w' => e = .returned (.slice a n c) ∧ Goes g a n m c w w' := by
  have hn' : (n : Int) ≤ (m : Int) := by omega
  have hn2 : ¬ (m : Int) < (n : Int) := by omega
  have G := Lib.hid (goes_of (g := g) (a := a) (n := n) (w := w) hm)
  by_cases hne : c = n
  · subst hne
    obtain rfl : c = m := by omega
    rw [if_pos rfl] at G
    go_enter Try.func34, Try.ntmps34
    go_wp2_with fail
    go_ret
    exact ⟨rfl, by simpa using G.out⟩
  · rw [if_neg hne] at G
    go_enter Try.func34, Try.ntmps34
    go_wp2_with fail
    go_ret
    exact ⟨rfl, G.out⟩

theorem take_no (g : Nat) (a : Option Addr) (n m c : Nat) (w : World) (hc : w.cell? ⟨g, 0, none⟩ = some (.slice a m c)) (hn : m < n) :
    Calls Try.prog 34 #[.int .i64 n, .pointer (some ⟨g, 0, none⟩)] w fun e w' => e = .panicked [{ v := .iface 56 (.agg #[]), recovered := false }] ∧ w = w' := by
  have hn' : (m : Int) < (n : Int) := by omega
  go_enter Try.func34, Try.ntmps34
  go_wp2_with fail
  exact ⟨rfl, rfl, rfl⟩

theorem number_no (g h : Nat) (a : Option Addr) (n m c : Nat) (w : World) (hc : w.cell? ⟨g, 0, none⟩ = some (.slice a m c)) (ht : w.cell? ⟨h, 0, none⟩ = some (.func (.func 34) #[] #[.pointer (some ⟨g, 0, none⟩)])) (hn : m < n) :
    Calls Try.prog 35 #[.int .i64 n, .pointer (some ⟨h, 0, none⟩)] w fun e w' => e = .panicked [{ v := .iface 56 (.agg #[]), recovered := false }] ∧ w = w' := by
  go_enter Try.func35, Try.ntmps35
  go_wp2_with fail
  refine (take_no g a n m c _ hc hn).mono ?_
  rintro e w' ⟨rfl, rfl⟩
  dsimp only
  go_wp2_with fail
  exact ⟨rfl, rfl, rfl⟩

theorem number_ok (g h : Nat) (a : Option Addr) (n c : Nat) (l : List UInt8) (w : World) (hc : w.cell? ⟨g, 0, none⟩ = some (.slice a l.length c)) (hf : w.frozen? ⟨g, 0, none⟩ = false) (ht : w.cell? ⟨h, 0, none⟩ = some (.func (.func 34) #[] #[.pointer (some ⟨g, 0, none⟩)]))
    (hn : n ≤ l.length) (hn1 : 1 ≤ n) (hn4 : n ≤ 4) (hm : l.length ≤ c) (hc2 : c ≤ 9223372036854775807) {Bd : Nat} (hr : Rd w Bd a (bs l)) (hg : Bd ≤ g) :
    Calls Try.prog 35 #[.int .i64 n, .pointer (some ⟨h, 0, none⟩)] w fun e w' => e = .returned (.int .i64 (numOf (l.take n))) ∧ Goes g a n l.length c w w' := by
  have hlt : numOf (l.take n) < 4294967296 := by
    have h1 := numOf_lt (l.take n)
    have h2 : 256 ^ (l.take n).length ≤ 256 ^ 4 := Nat.pow_le_pow_right (by omega) (by simp; omega)
    omega
  have HR := Lib.hid hr
  have T := Lib.hid (take_ok g a n l.length c w hc hf hn hm hc2)
  have hlen : (l.take n).length = n := by simp; omega
  have HL := Lib.hid hlen
  clear hlen hr hc hf
  go_enter Try.func35, Try.ntmps35
  go_wp2_with fail
  refine T.out.mono ?_
  rintro e w' ⟨rfl, hg2⟩
  have hrd : Rd w' Bd a (bs (l.take n)) := by
    obtain ⟨a', rfl, _⟩ := hg2
    rw [bs_take]
    exact (HR.out.setCell hg _).take n
  have HG := Lib.hid hg2
  have GG := Lib.hid (get_good a c (l.take n) w' (by rw [HL.out]; exact hn1) (by rw [HL.out]; omega) hrd)
  rw [HL.out] at GG
  obtain ⟨v, hv⟩ : ∃ v, numOf (l.take n) = v := ⟨_, rfl⟩
  rw [hv] at hlt GG
  have HV := Lib.hid hv
  have hw : IntKind.i64.wrap (v : Int) = (v : Int) := IntWalk.i64_in _ (by omega)
  clear hg2 hrd hv
  go_wp2_with fail
  refine GG.out.mono ?_
  rintro e w2 ⟨rfl, rfl⟩
  go_wp2_with fail
  go_ret
  rw [HV.out]
  exact ⟨rfl, HG.out⟩
end Go.Proofs.Ytjmmabilpdiohaa
