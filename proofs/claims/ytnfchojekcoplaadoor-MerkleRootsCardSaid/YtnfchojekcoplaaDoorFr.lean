/- How the arguments of a law are opened: a shape of types, what it reads as, and that whatever can be read has such a reading. -/
import Derived.Test.YtnfchojekcoplaaDoorRows
import Derived.Test.YtnfchojekcoplaaDoorA
import Derived.ProofKit
import Derived.OpenShut
import Derived.ShutString
import Derived.ChangeOld
import Derived.SizedLaws
import Derived.ChangeSlices
import Derived.Deep.Slices
import Derived.Deep.Fields
namespace Go.Proofs.YtnfchojekcoplaaDoor
set_option linter.unusedVariables false
set_option linter.unusedSimpArgs false
open Go.ChangeShapes Go.WideShapes Go.ChangeAt Go.RowKit Go.Deep
open Go.ChangeMaps (open_string shut_string)

theorem own : ownKnob Tryd.prog.godebug = none := by kernel_rfl
theorem laidOut : laidOutB Tryd.prog = true := by kernel_rfl

/-- What the walk is told of a slice of bytes that came in. -/
structure BytesIn (w : World) (a : Option Addr) (n cap : Nat) (l : List UInt8) : Prop where
  len_eq : l.length = n
  le_cap : n ≤ cap
  rd : Rd w w.heap.size a (bs l)
  small : cap ≤ 140737488351232

theorem BytesIn.below {w w' : World} {a : Option Addr} {n cap : Nat} {l : List UInt8} (h : BytesIn w a n cap l) (hb : Below w.heap.size w w') : BytesIn w' a n cap l :=
  ⟨h.len_eq, h.le_cap, (h.rd.below hb).lt_size, h.small⟩

theorem bytes_of_ints (xs : List Int) (h : ∀ n ∈ xs, (Lit.int .u8 n).wf = true) : xs.map (Value.int .u8) = bs (xs.map fun n => UInt8.ofNat n.toNat) := by
  simp only [bs, List.map_map]
  refine List.map_congr_left fun n hn => ?_
  have hw := h n hn
  have h2 := bounds_u8 hw
  simp only [Function.comp, B, Value.int.injEq, true_and, UInt8.toNat_ofNat']
  omega

/-- A shape: a whole number, a bool, a string, bytes, a slice, a struct's fields one by one, an array of bytes. -/
inductive Ty where
  | int (k : IntKind)
  | bool
  | str
  | bytes
  | slice (t : Ty)
  | st (t : Ty)
  | pair (t r : Ty)
  | unit
  | arr (n : Nat)

def Ty.den : Ty → Type
  | .int _ => Int
  | .bool => Bool
  | .str => ByteArray
  | .bytes => List UInt8
  | .slice t => List t.den
  | .st t => t.den
  | .pair t r => t.den × r.den
  | .unit => Unit
  | .arr _ => List UInt8

def Ty.size : Ty → Nat
  | .st t => t.size
  | .pair t r => t.size + r.size
  | .unit => 0
  | .arr n => n
  | _ => 1

/-- The cells cs read as x. -/
def Ty.reads : (t : Ty) → World → List Value → t.den → Prop
  | .int k, _, cs, x => cs = [.int k x] ∧ (Lit.int k x).wf = true
  | .bool, _, cs, x => cs = [.bool x]
  | .str, _, cs, x => cs = [.string x] ∧ x.size ≤ 140737488351232
  | .bytes, w, cs, x => ∃ a n c, cs = [.slice a n c] ∧ BytesIn w a n c x
  | .slice t, w, cs, (x : List t.den) => ∃ a n c, cs = [.slice a n c] ∧ x.length = n ∧ n ≤ c ∧ c ≤ 9223372036854775807 ∧
      (n = 0 ∨ ∃ b off, a = some ⟨b, off, none⟩ ∧ b < w.heap.size ∧ ∀ (i : Nat) (y : t.den), x[i]? = some y → ∃ cells : List Value, cells.length = t.size ∧
        (∀ j u, cells[j]? = some u → w.cell? ⟨b, off + i * t.size + j, none⟩ = some u) ∧ t.reads w cells y)
  | .st t, w, cs, x => t.reads w cs x
  | .pair t r, w, cs, x => t.reads w (cs.take t.size) x.1 ∧ r.reads w (cs.drop t.size) x.2
  | .unit, _, cs, _ => cs = []
  | .arr n, _, cs, x => cs = bs x ∧ x.length = n

mutual
/-- The program's type t has this shape. -/
def Ty.fits (P : Program) : Ty → TypeId → Prop
  | .int k, t => P.underlying t = some (.int k)
  | .bool, t => P.underlying t = some .bool
  | .str, t => P.underlying t = some .string
  | .bytes, t => ∃ e, P.underlying t = some (.slice e) ∧ P.underlying e = some (.int .u8) ∧ P.cellsOf e = 1 ∧ P.bytesOf e = 1
  | .slice s, t => ∃ e, P.underlying t = some (.slice e) ∧ P.cellsOf e = s.size ∧ 0 < s.size ∧ s.fits P e
  | .st s, t => ∃ fs, P.underlying t = some (.struct fs) ∧ P.cellsOf t = s.size ∧ s.fitsAll P fs.toList 0
  | .pair _ _, _ => False
  | .unit, _ => False
  | .arr n, t => ∃ e, P.underlying t = some (.array n e) ∧ P.underlying e = some (.int .u8) ∧ P.cellsOf e = 1 ∧ P.cellsOf t = n
def Ty.fitsAll (P : Program) : Ty → List Field → Nat → Prop
  | .pair s r, f :: fs, o => f.offset = o ∧ P.cellsOf f.type = s.size ∧ s.fits P f.type ∧ r.fitsAll P fs (o + s.size)
  | .unit, [], _ => True
  | _, _, _ => False
end

section
variable {H : Type} {enc : TypeId × Value → H} {P : Program} {w : World}

def Light (P : Program) (t : TypeId) (d : DataW H) : Prop := ∀ n ∈ d.weights P t, n ≤ 140737488351232

theorem open_bytes' {t : TypeId} {fuel : Nat} {cs : List Value} {d : DataW H} {ps : List MemPlace} (hf : Ty.fits P .bytes t) (hl : Light P t d) (h : DataW.trod enc P w 0 (fun _ => true) true fuel t cs = some (d, ps)) : ∃ x, Ty.reads .bytes w cs x := by
  obtain ⟨e, hu, he, hc, hB⟩ := hf
  rcases open_ints hu he hc h with ⟨rfl, _⟩ | ⟨x, len, cap, zs, rfl, _, hle, _, hz, hx, hcell, hwf⟩
  · exact ⟨[], none, 0, 0, rfl, rfl, Nat.le_refl _, .nil, by omega⟩
  · obtain ⟨hx, _⟩ := Prod.mk.inj hx
    subst hx
    have hz' : zs.length = cap := by simpa using hz
    have z : ((lits (H := H) .u8 (zs.take len)).length + (lits (H := H) .u8 (zs.drop len)).length) * P.bytesOf e ≤ 140737488351232 := hl _ (by simp [DataW.weights, hu])
    have h1 : (lits (H := H) .u8 (zs.take len)).length + (lits (H := H) .u8 (zs.drop len)).length = zs.length := by
      simp [lits]
      omega
    rw [h1, hz', hB, Nat.mul_one] at z
    have hwt : ∀ n ∈ zs.take len, (Lit.int .u8 n).wf = true := fun n hn => hwf n (List.mem_of_mem_take hn)
    refine ⟨(zs.take len).map fun n => UInt8.ofNat n.toNat, _, _, _, rfl, by simp; omega, hle, ?_, z⟩
    rw [← bytes_of_ints _ hwt]
    by_cases h0 : len = 0
    · subst h0; simp [Rd]
    · obtain ⟨b, off, s⟩ := x
      have hc0 := hcell 0 (by omega)
      have hs : s = none := by simpa [Addr.add] using World.cell?_spot hc0
      subst hs
      refine .inr ⟨b, off, rfl, World.block_lt_of_cell? w _ hc0, fun i u hi => ?_⟩
      have hi' : i < len := by
        have := (List.getElem?_eq_some_iff.1 hi).1
        simpa [hz', hle] using this
      have hci := hcell i (by omega)
      rw [Addr.add_lit] at hci
      rw [hci]
      simp only [List.getElem?_map, List.getElem?_take, hi', if_true] at hi
      rw [List.getElem?_eq_getElem (by omega)] at hi
      simp only [Option.map_some, Option.some.injEq] at hi
      subst hi
      simp [List.getD, List.getElem?_eq_getElem (show i < zs.length by omega)]

theorem list_of {α : Type} {p : Nat → α → Prop} : ∀ (n : Nat), (∀ i, i < n → ∃ x, p i x) → ∃ l : List α, l.length = n ∧ ∀ (i : Nat) (x : α), l[i]? = some x → p i x
  | 0, _ => ⟨[], rfl, fun i x h => by simp at h⟩
  | n + 1, h => by
    obtain ⟨l, hl, hp⟩ := list_of n (fun i hi => h i (by omega))
    obtain ⟨x, hx⟩ := h n (by omega)
    refine ⟨l ++ [x], by simp [hl], fun i y hy => ?_⟩
    by_cases hi : i < n
    · rw [List.getElem?_append_left (by omega)] at hy
      exact hp i y hy
    · have : i = n := by
        have := (List.getElem?_eq_some_iff.1 hy).1
        simp at this
        omega
      subst this
      rw [List.getElem?_append_right (by omega), hl, Nat.sub_self] at hy
      simp at hy
      subst hy
      exact hx

theorem light_all {e : TypeId} {l : List (DataW H)} (h : ∀ n ∈ DataW.weightsAll P e l, n ≤ 140737488351232) : ∀ d ∈ l, Light P e d := by
  induction l with
  | nil => intro d hd; cases hd
  | cons x l ih =>
    intro d hd n hn
    simp only [DataW.weightsAll, List.mem_append] at h
    rcases List.mem_cons.1 hd with rfl | hd
    · exact h n (.inl hn)
    · exact ih (fun n hn => h n (.inr hn)) d hd n hn

theorem light_each : ∀ {ts : List TypeId} {l : List (DataW H)}, (∀ n ∈ DataW.weightsEach P ts l, n ≤ 140737488351232) → ∀ (i : Nat) (t : TypeId) (d : DataW H), ts[i]? = some t → l[i]? = some d → Light P t d
  | [], _, _, _, _, _, ht, _ => by simp at ht
  | _ :: _, [], _, _, _, _, _, hd => by simp at hd
  | t0 :: ts, d0 :: l, h, i, t, d, ht, hd => by
    simp only [DataW.weightsEach, List.mem_append] at h
    cases i with
    | zero =>
      simp only [List.getElem?_cons_zero, Option.some.injEq] at ht hd
      subst ht; subst hd
      exact fun n hn => h n (.inl hn)
    | succ i =>
      exact light_each (fun n hn => h n (.inr hn)) i t d (by simpa using ht) (by simpa using hd)

mutual
theorem open_ty : ∀ (s : Ty) {t : TypeId} {fuel : Nat} {cs : List Value} {d : DataW H} {ps : List MemPlace}, s.fits P t → Light P t d → DataW.trod enc P w 0 (fun _ => true) true fuel t cs = some (d, ps) → ∃ x, s.reads w cs x
  | .int k, t, fuel, cs, d, ps, hf, _, h => by
    obtain ⟨n, rfl, _, hw⟩ := DataW.trod_int hf h
    exact ⟨n, rfl, hw⟩
  | .bool, t, fuel, cs, d, ps, hf, _, h => by
    obtain ⟨b, rfl, _⟩ := DataW.trod_bool hf h
    exact ⟨b, rfl⟩
  | .str, t, fuel, cs, d, ps, hf, hl, h => by
    obtain ⟨s, rfl, hx, _⟩ := DataW.trod_string hf h
    obtain ⟨rfl, _⟩ := Prod.mk.inj hx
    have : s.data.toList.length ≤ 140737488351232 := hl _ (by simp [DataW.weights])
    exact ⟨s, rfl, by simpa using this⟩
  | .bytes, t, fuel, cs, d, ps, hf, hl, h => open_bytes' hf hl h
  | .slice s, t, fuel, cs, d, ps, hf, hl, h => by
    obtain ⟨e, hu, hc, hpos, he⟩ := hf
    rcases DataW.trod_slice hu h with ⟨rfl, _⟩ | ⟨a, len, cap, elems, rest, n, _, rfl, hx, _, hle, hm, hel, hat, _, _⟩
    · exact ⟨[], none, 0, 0, rfl, rfl, Nat.le_refl _, by omega, .inl rfl⟩
    · obtain ⟨rfl, _⟩ := Prod.mk.inj hx
      have hlw : ∀ n ∈ DataW.weightsAll P e (elems.map (·.1)), n ≤ 140737488351232 := fun n hn => hl n (by simp [DataW.weights, hu, hn])
      have hla := light_all hlw
      have key : ∀ i, i < len → ∃ y : s.den, ∃ cells : List Value, cells.length = s.size ∧ (∀ j u, cells[j]? = some u → w.cell? ((a.add (i * s.size)).add j) = some u) ∧ s.reads w cells y := by
        intro i hi
        have hi2 := hat i hi
        rw [List.getElem?_eq_getElem (by omega)] at hi2
        obtain ⟨cells, h1, h2⟩ := Option.bind_eq_some_iff.1 hi2
        obtain ⟨_, hcl, hcell⟩ := World.cells?_some h1
        rw [hc] at hcl hcell
        obtain ⟨y, hy⟩ := open_ty s (d := elems[i].1) (ps := elems[i].2) he (hla _ (List.mem_map.2 ⟨_, List.getElem_mem _, rfl⟩)) h2
        exact ⟨y, cells, hcl, fun j u hj => by rw [hcell j (by have := (List.getElem?_eq_some_iff.1 hj).1; omega)]; exact hj, hy⟩
      obtain ⟨l, hl1, hl2⟩ := list_of len key
      refine ⟨l, some a, len, cap, rfl, hl1, hle, by unfold maxLen at hm; omega, ?_⟩
      by_cases h0 : len = 0
      · exact .inl h0
      · obtain ⟨b, off, sp⟩ := a
        obtain ⟨y0, cells0, hcl0, hcell0, _⟩ := key 0 (by omega)
        have hc0 := hcell0 0 cells0[0] (List.getElem?_eq_getElem (by omega))
        have hsp : sp = none := by simpa [Addr.add] using World.cell?_spot hc0
        subst hsp
        simp only [Nat.zero_mul, Addr.add_lit] at hc0
        refine .inr ⟨b, off, rfl, World.block_lt_of_cell? w _ hc0, fun i y hy => ?_⟩
        obtain ⟨cells, hcl, hcell, hr⟩ := hl2 i y hy
        exact ⟨cells, hcl, fun j u hj => by have := hcell j u hj; rwa [Addr.add_lit, Addr.add_lit] at this, hr⟩
  | .st s, t, fuel, cs, d, ps, hf, hl, h => by
    obtain ⟨fs, hu, hc, hall⟩ := hf
    obtain ⟨xs, n, _, hx, hlen, hxs, hat⟩ := DataW.trod_struct hu h
    obtain ⟨rfl, _⟩ := Prod.mk.inj hx
    have hle : ∀ n ∈ DataW.weightsEach P (fs.toList.map (·.type)) (xs.map (·.1)), n ≤ 140737488351232 := fun n hn => hl n (by simp [DataW.weights, hu, hn])
    have hli := light_each hle
    exact open_all s (n := n) (cs := cs) fs.toList 0 hall (by rw [← hc]; omega) fun i f hi => by
      have h1 := hat i f (by simpa using hi)
      have hlt : i < xs.length := by have := (List.getElem?_eq_some_iff.1 hi).1; simp at this; omega
      rw [List.getElem?_eq_getElem hlt] at h1
      exact ⟨xs[i].1, xs[i].2, hli i f.type _ (by simp [hi]) (by simp [List.getElem?_eq_getElem hlt]), h1⟩
  | .pair _ _, _, _, _, _, _, hf, _, _ => hf.elim
  | .unit, _, _, _, _, _, hf, _, _ => hf.elim
  | .arr n, t, fuel, cs, d, ps, hf, hl, h => by
    obtain ⟨e, hu, he, hc, hct⟩ := hf
    obtain ⟨xs, m, _, _, hlen, hxs, hat⟩ := DataW.trod_array hu h
    rw [hct] at hlen
    have key : ∀ i, i < n → ∃ x : UInt8, cs[i]? = some (B x) := by
      intro i hi
      have h1 := hat i hi
      rw [hc, Nat.mul_one, List.getElem?_eq_getElem (by omega)] at h1
      obtain ⟨z, hz, _, hw⟩ := DataW.trod_int he h1
      have hb := bounds_u8 hw
      rw [List.drop_eq_getElem_cons (by omega)] at hz
      simp only [List.take_succ_cons, List.take_zero, List.cons.injEq, and_true] at hz
      refine ⟨UInt8.ofNat z.toNat, ?_⟩
      rw [List.getElem?_eq_getElem (by omega), hz]
      simp only [B, UInt8.toNat_ofNat', Option.some.injEq, Value.int.injEq, true_and]
      omega
    obtain ⟨l, hl1, hl2⟩ := list_of n key
    refine ⟨l, ?_, hl1⟩
    apply List.ext_getElem?
    intro i
    by_cases hi : i < n
    · have := hl2 i l[i] (List.getElem?_eq_getElem (by omega))
      rw [this]
      simp [bs, List.getElem?_eq_getElem (show i < l.length by omega)]
    · rw [List.getElem?_eq_none (by omega), List.getElem?_eq_none (by rw [bs_length]; omega)]
theorem open_all : ∀ (s : Ty) {n : Nat} {cs : List Value} (fs : List Field) (o : Nat), s.fitsAll P fs o → cs.length = o + s.size →
    (∀ (i : Nat) (f : Field), fs[i]? = some f → ∃ (d : DataW H) (ps : List MemPlace), Light P f.type d ∧ DataW.trod enc P w 0 (fun _ => true) true n f.type ((cs.drop f.offset).take (P.cellsOf f.type)) = some (d, ps)) →
    ∃ x, s.reads w (cs.drop o) x
  | .pair s r, n, cs, f :: fs, o, hf, hlen, h => by
    obtain ⟨ho, hc, hs, hr⟩ := hf
    obtain ⟨d, ps, hl, ht⟩ := h 0 f rfl
    rw [ho, hc] at ht
    obtain ⟨x, hx⟩ := open_ty s hs hl ht
    obtain ⟨y, hy⟩ := open_all r (n := n) (cs := cs) fs (o + s.size) hr (by simp only [Ty.size] at hlen; omega) (fun i f hi => h (i + 1) f (by simpa using hi))
    exact ⟨(x, y), hx, by rw [List.drop_drop]; exact hy⟩
  | .unit, n, cs, [], o, _, hlen, _ => ⟨(), List.drop_of_length_le (by simp only [Ty.size] at hlen; omega)⟩
end
end

/-- What could be read at the start can be read as long as nothing that was there turns. -/
theorem reads_below : ∀ (s : Ty) {w w' : World} {cs : List Value} {x : s.den}, s.reads w cs x → Below w.heap.size w w' → s.reads w' cs x
  | .int _, _, _, _, _, h, _ => h
  | .bool, _, _, _, _, h, _ => h
  | .str, _, _, _, _, h, _ => h
  | .bytes, w, w', cs, x, h, hb => by
    obtain ⟨a, n, c, h1, h2⟩ := h
    exact ⟨a, n, c, h1, h2.below hb⟩
  | .slice t, w, w', cs, x, h, hb => by
    obtain ⟨a, n, c, h1, h2, h3, h4, h5⟩ := h
    refine ⟨a, n, c, h1, h2, h3, h4, ?_⟩
    rcases h5 with h5 | ⟨b, off, ha, hlt, hat⟩
    · exact .inl h5
    · refine .inr ⟨b, off, ha, Nat.lt_of_lt_of_le hlt hb.size, fun i y hy => ?_⟩
      obtain ⟨cells, hc, hcell, hr⟩ := hat i y hy
      exact ⟨cells, hc, fun j u hj => by rw [hb.cell (by exact hlt)]; exact hcell j u hj, reads_below t hr hb⟩
  | .st t, _, _, _, _, h, hb => reads_below t h hb
  | .pair t r, _, _, _, _, h, hb => ⟨reads_below t h.1 hb, reads_below r h.2 hb⟩
  | .unit, _, _, _, _, h, _ => h
  | .arr _, _, _, _, _, h, _ => h

theorem okWide_array {P : Program} {w : World} {r : Reach} {base : Nat} {t e : TypeId} {n : Nat} {v : Value} (ht : P.underlying t = some (.array n e)) (h : Value.okWide P w r base t v) : ∃ cs, v = .agg cs ∧ cs.size = P.cellsOf t := by
  simp only [Value.okWide, ht] at h
  obtain ⟨cs, h1, h2, _⟩ := h
  exact ⟨cs, h1, h2⟩
theorem take_one {cs : List Value} {u : Value} (h : cs.take 1 = [u]) : cs = u :: cs.drop 1 := by
  cases cs with
  | nil => simp at h
  | cons x cs => simp only [List.take_succ_cons, List.take_zero, List.cons.injEq, and_true] at h; subst h; rfl
theorem reads_int {w : World} {k : IntKind} {r : Ty} {cs : List Value} {x : (Ty.pair (.int k) r).den} (h : (Ty.pair (.int k) r).reads w cs x) : ∃ cs', cs = .int k x.1 :: cs' ∧ (Lit.int k x.1).wf = true ∧ r.reads w cs' x.2 := by
  obtain ⟨⟨h1, h2⟩, h3⟩ := h
  exact ⟨_, take_one h1, h2, h3⟩
theorem reads_bool {w : World} {r : Ty} {cs : List Value} {x : (Ty.pair .bool r).den} (h : (Ty.pair .bool r).reads w cs x) : ∃ cs', cs = .bool x.1 :: cs' ∧ r.reads w cs' x.2 := by
  obtain ⟨h1, h3⟩ := h
  exact ⟨_, take_one h1, h3⟩
theorem reads_str {w : World} {r : Ty} {cs : List Value} {x : (Ty.pair .str r).den} (h : (Ty.pair .str r).reads w cs x) : ∃ cs', cs = .string x.1 :: cs' ∧ x.1.size ≤ 140737488351232 ∧ r.reads w cs' x.2 := by
  obtain ⟨⟨h1, h2⟩, h3⟩ := h
  exact ⟨_, take_one h1, h2, h3⟩
theorem reads_bytes {w : World} {r : Ty} {cs : List Value} {x : (Ty.pair .bytes r).den} (h : (Ty.pair .bytes r).reads w cs x) : ∃ a n c cs', cs = .slice a n c :: cs' ∧ BytesIn w a n c x.1 ∧ r.reads w cs' x.2 := by
  obtain ⟨⟨a, n, c, h1, h2⟩, h3⟩ := h
  exact ⟨a, n, c, _, take_one h1, h2, h3⟩
theorem reads_slice {w : World} {t r : Ty} {cs : List Value} {x : (Ty.pair (.slice t) r).den} (h : (Ty.pair (.slice t) r).reads w cs x) : ∃ a n c cs', cs = .slice a n c :: cs' ∧ (Ty.slice t).reads w [.slice a n c] x.1 ∧ r.reads w cs' x.2 := by
  obtain ⟨⟨a, n, c, h1, h2⟩, h3⟩ := h
  exact ⟨a, n, c, _, take_one h1, ⟨a, n, c, rfl, h2⟩, h3⟩
theorem toArray_of {cs : Array Value} {l : List Value} (h : (Value.agg cs).cells.toList = l) : cs = l.toArray := by subst h; simp [Value.cells]
theorem u64_nat (x : Int) (h : (Lit.int .u64 x).wf = true) : ∃ n : Nat, x = (n : Int) ∧ n < 18446744073709551616 := by
  have := bounds_u64 h
  exact ⟨x.toNat, by omega, by omega⟩
theorem bytes_arg {w : World} {a : Option Addr} {n c : Nat} {x : List UInt8} (h : Ty.reads .bytes w (Value.slice a n c).cells.toList x) : BytesIn w a n c x := by
  obtain ⟨a', n', c', h1, h2⟩ := h
  simp only [Value.cells, List.cons.injEq, Value.slice.injEq, and_true] at h1
  obtain ⟨rfl, rfl, rfl⟩ := h1
  exact h2

theorem light_arg {H : Type} {P : Program} {ts : List TypeId} {ds : List (DataW H)} (hsz : (DataW.weightsEach P ts ds).all (· ≤ reachBytes) = true) {j : Nat} {t : TypeId} {d : DataW H} (ht : ts[j]? = some t) (hd : ds[j]? = some d) : Light P t d := by
  intro n hn
  have := List.all_eq_true.1 hsz n (DataW.weights_mem_each ht hd n hn)
  exact of_decide_eq_true this

theorem open_arg {H : Type} {enc : TypeId × Value → H} {P : Program} {w : World} (s : Ty) {t : TypeId} {v : Value} {d : DataW H} {ps : List MemPlace} {ts : List TypeId} {ds : List (DataW H)} {j : Nat}
    (hf : s.fits P t) (hsz : (DataW.weightsEach P ts ds).all (· ≤ reachBytes) = true) (ht : ts[j]? = some t) (hd : ds[j]? = some d) (h : DataW.Trod enc P w 0 (fun _ => true) true t v d ps) : ∃ x, s.reads w v.cells.toList x := by
  obtain ⟨fuel, hh⟩ := h
  exact open_ty s hf (light_arg hsz ht hd) hh

end Go.Proofs.YtnfchojekcoplaaDoor
