/- shake: numbers -/
import Derived.Test.YtnpcpbjoonjaoaaInfoT
import Derived.Test.YtnpcpbjoonjaoaaWire2
namespace Go.Proofs.Ytnpcpbjoonjaoaa
set_option linter.unusedVariables false
set_option linter.unusedSimpArgs false
open Go.RowKit

/-- A block that is known whole. -/
def Blk (W : World) (g : Nat) (T : TypeId) (cs : List Value) : Prop := W.heap[g]? = some (.cells cs.toArray T (0, 0))
section
variable {W W' : World} {g : Nat} {T : TypeId} {cs : List Value}
theorem Blk.lt (h : Blk W g T cs) : g < W.heap.size := lt_of_heap h
theorem Blk.cell (h : Blk W g T cs) (i : Nat) (v : Value) (hi : cs[i]? = some v) : W.cell? ⟨g, i, none⟩ = some v := by
  rw [cell_of_block h]; simpa using hi
theorem Blk.frozen (h : Blk W g T cs) (i : Nat) : W.frozen? ⟨g, i, none⟩ = false := by
  have h' : W.heap[g]? = some (.cells cs.toArray T (0, 0)) := h
  simp [World.frozen?, h']
theorem Blk.new (W : World) (T : TypeId) (cs : List Value) : Blk (W.alloc (.cells cs.toArray T)) W.heap.size T cs := heap_alloc_new W _
theorem Blk.keep (h : Blk W g T cs) (hb : W'.heap[g]? = W.heap[g]?) : Blk W' g T cs := hb.trans h
theorem Blk.under {B : Nat} (h : Blk W g T cs) (hb : Below B W W') (hg : g < B) : Blk W' g T cs := h.keep (hb.block g hg)
theorem Blk.below (h : Blk W g T cs) (hb : Below W.heap.size W W') : Blk W' g T cs := h.keep (hb.block g h.lt)
theorem Blk.set (h : Blk W g T cs) (i : Nat) (v : Value) : Blk (W.setCell ⟨g, i, none⟩ v) g T (cs.set i v) := by
  have h' : W.heap[g]? = some (.cells cs.toArray T (0, 0)) := h
  show (W.setCell ⟨g, i, none⟩ v).heap[g]? = _
  simp [World.setCell, Array.getElem?_modify, h']
theorem Blk.other (h : Blk W g T cs) {b i : Nat} {s : Option Nat} (hne : b ≠ g) (v : Value) : Blk (W.setCell ⟨b, i, s⟩ v) g T cs := by
  refine h.keep ?_
  simp [World.setCell, Array.getElem?_modify, hne]
end

/-- Pairs of numbers as cells. -/
def ci2 (l : List (Nat × Nat)) : List Value := l.flatMap fun p => [.int .i64 (p.1 : Int), .int .i64 (p.2 : Int)]
theorem ci2_length (l : List (Nat × Nat)) : (ci2 l).length = l.length * 2 := by
  induction l with
  | nil => rfl
  | cons p l ih => simp [ci2] at *; omega
theorem ci2_get (l : List (Nat × Nat)) : ∀ (i : Nat) (h : i < l.length), (ci2 l)[i * 2]? = some (.int .i64 ((l[i]).1 : Int)) ∧ (ci2 l)[i * 2 + 1]? = some (.int .i64 ((l[i]).2 : Int)) := by
  induction l with
  | nil => intro i h; simp at h
  | cons p l ih =>
    intro i h
    cases i with
    | zero => simp [ci2]
    | succ i =>
      have := ih i (by simpa using h)
      have e : ci2 (p :: l) = .int .i64 (p.1 : Int) :: .int .i64 (p.2 : Int) :: ci2 l := rfl
      rw [e, show (i + 1) * 2 = i * 2 + 1 + 1 by omega]
      simpa using this

/-- Numbers as bytes. -/
def numB (l : List (Nat × Nat)) : List UInt8 := l.flatMap fun p => bytesOf p.1 p.2

def NumRel (l : List (Nat × Nat)) (w : World) (v i : Value) (wr : World) : Prop :=
  ∃ k : Nat, k ≤ l.length ∧ i = .int .i64 k ∧ OwnB wr w.heap.size v (numB (l.take k)) ∧ Below w.heap.size w wr

set_option maxRecDepth 100000 in
set_option maxHeartbeats 1000000 in
theorem numbers_any (al : Option Addr) (nl cl : Nat) (l : List (Nat × Nat)) (w : World) (hn : l.length = nl) (hl : l.length ≤ 100) (hls : ∀ p ∈ l, 1 ≤ p.2 ∧ p.2 ≤ 8 ∧ p.1 < 256 ^ p.2 ∧ p.1 < 9223372036854775808) (hrl : Rd w w.heap.size al (ci2 l)) :
    Calls Try.prog 61 #[.slice al nl cl] w (MsgPost (numB l) w) := by
  subst hn
  have HRL := Lib.hid hrl
  have HLS := Lib.hid hls
  have HFL := Lib.hid (fun k => flat_len (l.take k) (fun p hp => (hls p (List.mem_of_mem_take hp)).2.1))
  clear hrl hls
  go_enter Try.func61, Try.ntmps61
  go_wp2_with fail
  go_loopw [3, 10] (fun v i wr => NumRel l w v i wr) (fun _ i _ => l.length - (intOf i).toNat)
  case atStart => exact ⟨0, Nat.zero_le _, rfl, OwnG.nil _ _ _ _, Below.refl _ _⟩
  case round =>
    obtain ⟨k, hk, rfl, hown, hbl⟩ := hrel
    obtain ⟨av, cv, rfl, hcv⟩ := OwnG.shape hown
    have HO := Lib.hid hown
    have HB := Lib.hid hbl
    clear hown hbl
    by_cases hlt : k < l.length
    · have hget := ci2_get l k hlt
      obtain ⟨b1, o1, rfl, hb1, p1⟩ := (HRL.out.below HB.out).at _ _ hget.1
      obtain ⟨b2, o2, he, hb2, p2⟩ := (HRL.out.below HB.out).at _ _ hget.2
      simp only [Option.some.injEq, Addr.mk.injEq, and_true] at he
      obtain ⟨rfl, rfl⟩ := he
      obtain ⟨s1, s2, s3, s4⟩ := HLS.out l[k] (List.getElem_mem _)
      have HTK := Lib.hid (List.take_succ_eq_append_getElem hlt)
      rw [← Nat.add_assoc] at p2
      generalize l[k] = f at *
      obtain ⟨fn, fs⟩ := f
      simp only at p1 p2 s1 s2 s3 s4
      have x1 : IntKind.u64.wrap (fn : Int) = (fn : Int) := by rw [IntKind.wrap_u64]; omega
      have C := Lib.hid (fun W => put_good fn fs W s1 s2 s3)
      have HL8 := Lib.hid (bytesOf_length fs fn)
      have hfl : (numB (l.take k)).length + fs ≤ 2000 := by
        have h1 := HFL.out k
        rw [List.length_take] at h1
        unfold numB
        omega
      have HFL2 := Lib.hid hfl
      have HB1 := Lib.hid (HB.out.alloc HB.out.size (Obj.cells #[Value.int .i64 (fn : Int), Value.int .i64 (fs : Int)] 98))
      have HO1 := Lib.hid (OwnG.alloc HO.out (Obj.cells #[Value.int .i64 (fn : Int), Value.int .i64 (fs : Int)] 98))
      clear hget s3 hfl
      go_wp2_with fail
      refine (C.out _).mono ?_
      rintro e w1 ⟨rfl, hown1, hb1⟩
      have HO := Lib.hid (OwnG.below HO1.out hb1)
      have hr1 := OwnB.rd hown1
      rw [World.size_alloc] at hr1
      have HR1 := Lib.hid hr1
      have HB := Lib.hid (HB1.out.trans (hb1.mono HB1.out.size))
      clear hown1 hb1 C hr1
      go_wp2_with (at_builtin; refine wpList_app rfl _ _ rfl w.heap.size _ _ rfl HO.out w1.heap.size _ fs fs (bytesOf fn fs) rfl HL8.out HR1.out (by have := HFL2.out; omega) HB.out.size ?_)
      intro v2 w2 hown2 hgr2 hat2
      have hb2 := below_app HB.out HO.out (Nat.le_refl _) hgr2
      have hfin : NumRel l w v2 (.int .i64 ((k : Int) + 1)) w2 := ⟨k + 1, hlt, by go_num, by rw [HTK.out, numB, List.flatMap_append, List.flatMap_singleton]; exact hown2, hb2⟩
      obtain ⟨a2, c2, rfl, _⟩ := OwnG.shape hown2
      have HFIN := Lib.hid hfin
      clear hown2 hgr2 hat2 hb2 hfin
      go_wp2_with fail
      all_goals go_roundw
      all_goals first
        | (case measure => simp [intOf]; omega)
        | exact HFIN.out
    · have hk' : k = l.length := by omega
      subst hk'
      have hT := List.take_length (l := l)
      rw [hT] at HO
      rw [hT]
      go_wp2_with fail
      go_ret
      exact ⟨_, _, _, rfl, HO.out, HB.out⟩
end Go.Proofs.Ytnpcpbjoonjaoaa
