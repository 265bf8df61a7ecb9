/- How arguments are opened for a law's row. -/
import Derived.Test.YtnhfpjjmhanehaaRows
import Derived.Test.YtnhfpjjmhanehaaA
import Derived.ProofKit
import Derived.OpenShut
import Derived.ShutString
import Derived.ChangeOld
import Derived.SizedLaws
import Derived.ChangeSlices
namespace Go.Proofs.Ytnhfpjjmhanehaa
set_option linter.unusedVariables false
set_option linter.unusedSimpArgs false
open Go.ChangeShapes Go.WideShapes Go.ChangeAt Go.RowKit
open Go.ChangeMaps (open_string shut_string)

theorem own : ownKnob Try.prog.godebug = none := by kernel_rfl
theorem laidOut : laidOutB Try.prog = true := by kernel_rfl

/-- What the walk is told of a slice of bytes that came in. -/
structure BytesIn (w : World) (a : Option Addr) (n cap : Nat) (l : List UInt8) : Prop where
  len_eq : l.length = n
  le_cap : n ≤ cap
  rd : Rd w w.heap.size a (bs l)
  small : cap ≤ 140737488351232

theorem bytes_of_ints (xs : List Int) (h : ∀ n ∈ xs, (Lit.int .u8 n).wf = true) : xs.map (Value.int .u8) = bs (xs.map fun n => UInt8.ofNat n.toNat) := by
  simp only [bs, List.map_map]
  refine List.map_congr_left fun n hn => ?_
  have hw := h n hn
  have h2 := bounds_u8 hw
  simp only [Function.comp, B, Value.int.injEq, true_and, UInt8.toNat_ofNat']
  omega

theorem open_bytes {H : Type} {enc : TypeId × Value → H} {P : Program} {W : World} {t e : TypeId} {a : Option Addr} {len cap : Nat} {d : DataW H} {ps : List MemPlace} {ts : List TypeId} {ds : List (DataW H)} {j : Nat}
    (hsz : (DataW.weightsEach P ts ds).all (· ≤ reachBytes) = true) (ht : ts[j]? = some t) (hd : ds[j]? = some d) (hu : P.underlying t = some (.slice e)) (he : P.underlying e = some (.int .u8)) (hc : P.cellsOf e = 1) (hB : P.bytesOf e = 1)
    (h : DataW.Trod enc P W 0 (fun _ => true) true t (.slice a len cap) d ps) : ∃ l, BytesIn W a len cap l := by
  obtain ⟨fuel, hf⟩ := h
  rcases open_ints hu he hc hf with ⟨hcs, _⟩ | ⟨x, l, c, zs, hcs, _, hl, _, hz, hx, hcell, hwf⟩
  · simp [Value.cells] at hcs
    obtain ⟨rfl, rfl, rfl⟩ := hcs
    exact ⟨[], rfl, Nat.le_refl _, .nil, by omega⟩
  · simp [Value.cells] at hcs
    obtain ⟨rfl, rfl, rfl⟩ := hcs
    obtain ⟨hx, _⟩ := Prod.mk.inj hx
    subst hx
    have z := sized_slice hsz ht hd hu
    rw [hB] at z
    have hz' : zs.length = cap := by simpa using hz
    have h1 : (lits (H := H) .u8 (zs.take len)).length + (lits (H := H) .u8 (zs.drop len)).length = zs.length := by
      simp [lits]
      omega
    rw [h1, hz'] at z
    have hcap : cap ≤ 140737488351232 := by simpa [reachBytes] using z
    have hwt : ∀ n ∈ zs.take len, (Lit.int .u8 n).wf = true := fun n hn => hwf n (List.mem_of_mem_take hn)
    refine ⟨(zs.take len).map fun n => UInt8.ofNat n.toNat, by simp; omega, hl, ?_, hcap⟩
    rw [← bytes_of_ints _ hwt]
    by_cases h0 : len = 0
    · subst h0; simp [Rd]
    · obtain ⟨b, off, s⟩ := x
      have hc0 := hcell 0 (by omega)
      have hs : s = none := by simpa [Addr.add] using World.cell?_spot hc0
      subst hs
      refine .inr ⟨b, off, rfl, World.block_lt_of_cell? W _ hc0, fun i u hi => ?_⟩
      have hi' : i < len := by
        have := (List.getElem?_eq_some_iff.1 hi).1
        simpa [hz', hl] using this
      have hci := hcell i (by omega)
      rw [Addr.add_lit] at hci
      rw [hci]
      simp only [List.getElem?_map, List.getElem?_take, hi', if_true] at hi
      rw [List.getElem?_eq_getElem (by omega)] at hi
      simp only [Option.map_some, Option.some.injEq] at hi
      subst hi
      simp [List.getD, List.getElem?_eq_getElem (show i < zs.length by omega)]

end Go.Proofs.Ytnhfpjjmhanehaa
