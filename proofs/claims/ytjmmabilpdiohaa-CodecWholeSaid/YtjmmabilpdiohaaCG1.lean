/- the laws of codec's groups: what comes in -/
import Derived.Test.YtjmmabilpdiohaaUng4
import Derived.Test.YtjmmabilpdiohaaRUng
import Derived.Test.YtjmmabilpdiohaaWSame
import Derived.Test.YtjmmabilpdiohaaCAlive
import Derived.Test.YtjmmabilpdiohaaFr
namespace Go.Proofs.Ytjmmabilpdiohaa
set_option linter.unusedVariables false
set_option linter.unusedSimpArgs false
open Go.RowKit

abbrev WTy : Ty := .st (.pair (.int .i64) (.pair (.int .i64) (.pair .bytes .unit)))
def wrOf (x : WTy.den) : Int × Int × List UInt8 := (x.1, x.2.1, x.2.2.1)

theorem wrs_of_reads {w : World} {a : Option Addr} {n c : Nat} {l : List WTy.den} (h : (Ty.slice WTy).reads w [.slice a n c] l) : ∃ ws : List (Int × Int × List UInt8), ws.length = n ∧ n ≤ c ∧ c ≤ 9223372036854775807 ∧ WrsIn w a ws := by
  obtain ⟨a', n', c', he, hl, hc, hc2, hr⟩ := h
  simp only [List.cons.injEq, Value.slice.injEq, and_true] at he
  obtain ⟨rfl, rfl, rfl⟩ := he
  refine ⟨l.map wrOf, by simp [hl], hc, hc2, fun i hi => ?_⟩
  have hi' : i < l.length := by simpa using hi
  rcases hr with h0 | ⟨b, off, rfl, hb, hat⟩
  · omega
  · obtain ⟨cells, hlen, hcell, hrd⟩ := hat i l[i] (List.getElem?_eq_getElem hi')
    have e : (l.map wrOf)[i] = wrOf l[i] := by simp
    rw [e]
    generalize l[i] = x at hrd
    have hs : WTy.size = 3 := rfl
    rw [hs] at hlen hcell
    have hrd' : (Ty.pair (.int .i64) (.pair (.int .i64) (.pair .bytes .unit))).reads w cells x := hrd
    obtain ⟨cs1, e1, w1, hrd'⟩ := reads_int hrd'
    obtain ⟨cs2, e2, w2, hrd'⟩ := reads_int hrd'
    obtain ⟨ad, nd, cd, cs3, e3, hD, hrd'⟩ := reads_bytes hrd'
    have h4 : cs3 = [] := hrd'
    subst h4; subst e3; subst e2; subst e1
    have hn : List.length (wrOf x).2.2 = nd := hD.len_eq
    have hle := hD.le_cap
    have hsm := hD.small
    refine ⟨b, off, ad, cd, rfl, hb, hcell 0 _ rfl, hcell 1 _ rfl, ?_, by omega, by omega, hD.rd, bounds_i64 w1, bounds_i64 w2⟩
    rw [hn]; exact hcell 2 _ rfl

/-- own := append(append([]byte{}, b...), 77)[:len(b)] -/
theorem own77 {data : List UInt8} {w : World} {base : Nat} {v : Value} (h : OwnB w base v (data ++ [77])) :
    ∃ g off cap, v = .slice (some ⟨g, off, none⟩) (data.length + 1) cap ∧ data.length + 1 ≤ cap ∧ base ≤ g ∧ g < w.heap.size ∧ cap ≤ 9223372036854775807 ∧ Rd w w.heap.size (some ⟨g, off, none⟩) (bs data) ∧ w.cell? ⟨g, off + data.length, none⟩ = some (.int .u8 77) := by
  have hcm : ∀ a n c, v = .slice a n c → c ≤ 9223372036854775807 := fun a n c e => by
    subst e
    rcases h.2 with ⟨h', _⟩ | ⟨_, _, _, _, _, _, hv, _, _, _, _, _, hm, _⟩
    · injection h' with _ _ e3; omega
    · injection hv with _ _ e; unfold maxLen at hm; omega
  obtain ⟨g, off, cap, hv, h1, h2, h3, h4⟩ := h.form (by simp)
  have hl : (data ++ [77]).length = data.length + 1 := by simp
  rw [hl] at hv h3
  have hrd := (hv ▸ h : OwnB w base (.slice (some ⟨g, off, none⟩) (data.length + 1) cap) (data ++ [77])).rd
  refine ⟨g, off, cap, hv, h3, h1, h2, hcm _ _ _ hv, ?_, ?_⟩
  · have := hrd.take data.length
    rw [← bs_take, List.take_left] at this
    exact this
  · have := h4 data.length (by simp)
    simpa using this
end Go.Proofs.Ytjmmabilpdiohaa
