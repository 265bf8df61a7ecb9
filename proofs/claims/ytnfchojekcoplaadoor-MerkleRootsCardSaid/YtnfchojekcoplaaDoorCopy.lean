/- copy into bytes of the call's own -/
import Derived.Test.YtnfchojekcoplaaDoorA
import Derived.Laws.CopyOwn
namespace Go.Proofs.YtnfchojekcoplaaDoor
set_option linter.unusedVariables false
set_option linter.unusedSimpArgs false
open Go.RowKit

theorem setCells_after (b : Nat) : ∀ (vs : List Value) (o : Nat) (w : World) (cur : Array Value) (e : TypeId) (fr : Nat × Nat), w.heap[b]? = some (.cells cur e fr) →
    ∀ (cur' : Array Value) (e' : TypeId) (fr' : Nat × Nat), (w.setCells b o vs).heap[b]? = some (.cells cur' e' fr') → ∀ j, o + vs.length ≤ j → cur'[j]? = cur[j]? := by
  intro vs
  induction vs with
  | nil =>
    intro o w cur e fr h cur' e' fr' h' j hj
    have h2 : w.heap[b]? = some (.cells cur' e' fr') := h'
    rw [h] at h2
    simp only [Option.some.injEq, Obj.cells.injEq] at h2
    rw [h2.1]
  | cons x vs ih =>
    intro o w cur e fr h cur' e' fr' h' j hj
    simp only [List.length_cons] at hj
    have h1 : (w.setCell ⟨b, o, none⟩ x).heap[b]? = some (.cells (cur.setIfInBounds o x) e fr) := by simp [World.setCell, Array.getElem?_modify, h]
    rw [ih (o + 1) _ _ e fr h1 cur' e' fr' h' j (by omega), Array.getElem?_setIfInBounds_ne (by omega)]

def overlay (l : List UInt8) (k : Nat) (ms : List UInt8) : List UInt8 := l.take k ++ (ms ++ l.drop (k + ms.length))
theorem overlay_length (l : List UInt8) (k : Nat) (ms : List UInt8) (h : k + ms.length ≤ l.length) : (overlay l k ms).length = l.length := by
  simp [overlay]; omega

theorem OwnB.copy {w : World} {base g off cap : Nat} {l : List UInt8} (h : OwnB w base (.slice (some ⟨g, off, none⟩) l.length cap) l) (k : Nat) (ms : List UInt8) (hk : k + ms.length ≤ l.length) :
    OwnB (w.setCells g (off + k) (bs ms)) base (.slice (some ⟨g, off, none⟩) l.length cap) (overlay l k ms) ∧ w.grownBy (w.setCells g (off + k) (bs ms)) (some g) := by
  have hlen := overlay_length l k ms hk
  unfold OwnB OwnG at h ⊢
  rw [hlen]
  rcases h.2 with ⟨h', _⟩ | ⟨g', off', cap', cur, lo, hi, hv, hb, hh, hs, hf, hc, hm, hx⟩
  · cases h'
  · simp only [Value.slice.injEq, Option.some.injEq, Addr.mk.injEq, and_true, true_and] at hv
    obtain ⟨⟨rfl, rfl⟩, rfl⟩ := hv
    have hsz : off + k + (bs ms).length ≤ cur.size := by rw [bs_length]; omega
    obtain ⟨cur', h1, h2, h3, h4, h5⟩ := setCells_heap g (bs ms) (off + k) w cur _ _ hh hsz
    have h6 := setCells_after g (bs ms) (off + k) w cur _ _ hh cur' _ _ h1
    refine ⟨⟨by rw [bs_length, hlen]; omega, .inr ⟨g, off, cap, cur', lo, hi, rfl, hb, h1, by omega, hf, hc, hm, fun j u hu => ?_⟩⟩, h5⟩
    by_cases hj : j < k
    · rw [h3 _ (by omega)]
      refine hx j u ?_
      rw [overlay, bs_append, List.getElem?_append_left (by simp [bs]; omega), bs_take, List.getElem?_take_of_lt hj] at hu
      exact hu
    · rw [overlay, bs_append, List.getElem?_append_right (by simp [bs]; omega)] at hu
      have hkl : (bs (l.take k)).length = k := by simp [bs]; omega
      rw [hkl, bs_append] at hu
      by_cases hj2 : j < k + ms.length
      · rw [List.getElem?_append_left (by simp [bs]; omega)] at hu
        have := h4 (j - k) u hu
        rwa [show off + k + (j - k) = off + j by omega] at this
      · rw [List.getElem?_append_right (by simp [bs]; omega), bs_length, bs_drop, List.getElem?_drop] at hu
        rw [h6 _ (by rw [bs_length]; omega)]
        refine hx j u ?_
        rwa [show k + ms.length + (j - k - ms.length) = j by omega] at hu

/-- copy over bytes of the call's own, from place k on. -/
theorem wpList_copyB {w : World} {ops : Array Oper} {rest : List Oper} {o : Oper} {a : Act} {Q : Exit → Act → World → Prop} (hgd : o.guard = none) (d s : Operand) (dT sT : TypeId)
    (ho : o.op = .call { callee := .builtin .copy, args := #[d, s], argTypes := #[dT, sT] }) (hdT : Tryd.prog.underlying dT = some (.slice 5))
    (dp sp : Option Addr) (dLen dCap sLen sCap : Nat) (hd : a.eval d = .slice dp dLen dCap) (hs : a.eval s = .slice sp sLen sCap)
    (base g off cap : Nat) (l : List UInt8) (own : OwnB w base (.slice (some ⟨g, off, none⟩) l.length cap) l) (k : Nat) (ms : List UInt8) (hm : ms.length = Nat.min sLen dLen) (hfit : k + ms.length ≤ l.length)
    (hpos : 0 < ms.length → dp = some ⟨g, off + k, none⟩) {Bd : Nat} (hr : Rd w Bd sp (bs ms))
    (h : ∀ w', OwnB w' base (.slice (some ⟨g, off, none⟩) l.length cap) (overlay l k ms) → w.grownBy w' (some g) → wpList Tryd.prog ops Q rest (a.put o.dst (goInt ms.length)) w') :
    wpList Tryd.prog ops Q (o :: rest) a w := by
  have hsz : (Tryd.prog.info? 5).map (·.size) = some 1 := by
    have := info_u8
    cases hq : Tryd.prog.info? 5 with
    | none => simp [hq] at this
    | some i => simp [hq] at this ⊢; exact this.2.1
  by_cases h0 : ms.length = 0
  · obtain rfl : ms = [] := List.eq_nil_of_length_eq_zero h0
    refine wpList_copy_nothing hgd d s dT sT ho _ hdT hsz dp sp dLen dCap sLen sCap hd hs (by simpa using hm.symm) ?_
    exact h w (by simpa [overlay] using own) (World.grownBy.refl _ _)
  · obtain rfl := hpos (by omega)
    obtain ⟨b, so, rfl, hbB, _⟩ := hr.byte 0 (by omega)
    have hcells : ∀ j v, (bs ms)[j]? = some v → w.cell? ((⟨b, so, none⟩ : Addr).add j) = some v := fun j v hv => by
      obtain ⟨b', o', he, _, hc⟩ := hr.at j v hv
      simp only [Option.some.injEq, Addr.mk.injEq, and_true] at he
      obtain ⟨rfl, rfl⟩ := he
      rw [Addr.add_lit]
      exact hc
    have hrun := run_copy_cells (P := Tryd.prog) w dT sT o.type _ g (off + k) dLen dCap ⟨b, so, none⟩ sLen sCap (bs ms) hdT hsz (by rw [bs_length]; exact hm) hcells
      (fun j hj => by
        rw [bs_length] at hj
        obtain ⟨u, hu⟩ := OwnG.cellEx own (k + j) (by rw [bs_length]; omega)
        rw [Nat.add_assoc, hu]; rfl)
      (fun j hj => by
        rw [bs_length] at hj
        have hc : l.length ≤ cap := by obtain ⟨a', c', e, hle⟩ := OwnB.shape own; cases e; exact hle
        rw [Nat.add_assoc]
        exact OwnG.frozenAt own (k + j) (by omega)) (bs_one ms)
    obtain ⟨h1, h2⟩ := own.copy k ms hfit
    refine wpList_plain hgd fun K hK => ?_
    unfold Oper.wp
    simp [execOp, ho, resolve, invoke, builtin, hd, hs, hrun, Result.andThen, bs_length]
    refine hK _ _ ?_
    have := h _ h1 h2
    simpa [goInt] using this
end Go.Proofs.YtnfchojekcoplaaDoor
