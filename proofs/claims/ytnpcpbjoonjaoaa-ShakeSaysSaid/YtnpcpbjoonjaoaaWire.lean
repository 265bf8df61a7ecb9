/- wire: what is sent; the document's Bytes -/
import Derived.Test.YtnpcpbjoonjaoaaGet
import Derived.Test.YtnpcpbjoonjaoaaPut
import Derived.Test.YtnpcpbjoonjaoaaRPut
import Derived.Test.YtnpcpbjoonjaoaaSame
namespace Go.Proofs.Ytnpcpbjoonjaoaa
set_option linter.unusedVariables false
set_option linter.unusedSimpArgs false
open Go.RowKit

theorem bytesOf_mod (s : Nat) : ∀ n, bytesOf (n % 256 ^ s) s = bytesOf n s := by
  intro n
  apply List.ext_getElem
  · rw [bytesOf_length, bytesOf_length]
  · intro i h1 h2
    rw [bytesOf_length] at h1
    rw [bytesOf_get, bytesOf_get]
    refine UInt8.toNat_inj.1 ?_
    rw [UInt8.toNat_ofNat', UInt8.toNat_ofNat']
    have e : 256 ^ s = 256 ^ (s - 1 - i) * 256 ^ (i + 1) := by rw [← Nat.pow_add]; congr 1; omega
    rw [e, Nat.mod_mul_right_div_self, Nat.pow_succ, Nat.mul_comm (256 ^ i) 256]
    exact Nat.mod_mul_right_mod _ _ _

/-- Fields as cells. -/
def cs2 (l : List (Nat × Nat)) : List Value := l.flatMap fun p => [.int .u64 (p.1 : Int), .int .i64 (p.2 : Int)]
theorem cs2_length (l : List (Nat × Nat)) : (cs2 l).length = l.length * 2 := by
  induction l with
  | nil => rfl
  | cons p l ih => simp [cs2] at *; omega
theorem cs2_get (l : List (Nat × Nat)) : ∀ (i : Nat) (h : i < l.length), (cs2 l)[i * 2]? = some (.int .u64 ((l[i]).1 : Int)) ∧ (cs2 l)[i * 2 + 1]? = some (.int .i64 ((l[i]).2 : Int)) := by
  induction l with
  | nil => intro i h; simp at h
  | cons p l ih =>
    intro i h
    cases i with
    | zero => simp [cs2]
    | succ i =>
      have := ih i (by simpa using h)
      have e : cs2 (p :: l) = .int .u64 (p.1 : Int) :: .int .i64 (p.2 : Int) :: cs2 l := rfl
      rw [e, show (i + 1) * 2 = i * 2 + 1 + 1 by omega]
      simpa using this

/-- A message: a head, numbers, data. -/
def msg (head : List UInt8) (l : List (Nat × Nat)) (data : List UInt8) : List UInt8 := head ++ l.flatMap (fun p => bytesOf p.1 p.2) ++ data

theorem and_mask (n s : Nat) (hs : 1 ≤ s) (h8 : s ≤ 8) (hn : n < 18446744073709551616) :
    bits .and .u64 (n : Int) (IntKind.u64.wrap (IntKind.u64.wrap (2 ^ (8 * s)) - 1)) = ((n % 256 ^ s : Nat) : Int) := by
  have e : IntKind.u64.wrap (IntKind.u64.wrap (2 ^ (8 * s)) - 1) = ((2 ^ (8 * s) - 1 : Nat) : Int) := by
    rcases (show s = 1 ∨ s = 2 ∨ s = 3 ∨ s = 4 ∨ s = 5 ∨ s = 6 ∨ s = 7 ∨ s = 8 by omega) with rfl | rfl | rfl | rfl | rfl | rfl | rfl | rfl <;> decide
  have hp : 2 ^ (8 * s) - 1 < 18446744073709551616 := by
    rcases (show s = 1 ∨ s = 2 ∨ s = 3 ∨ s = 4 ∨ s = 5 ∨ s = 6 ∨ s = 7 ∨ s = 8 by omega) with rfl | rfl | rfl | rfl | rfl | rfl | rfl | rfl <;> decide
  rw [e, u64_and_nat _ _ hn hp, Nat.and_two_pow_sub_one_eq_mod, Nat.pow_mul]

theorem below_bytesWorld (w : World) (e : TypeId) (s : ByteArray) : Below w.heap.size w (Lib.bytesWorld w e s) := by
  refine ⟨?_, ?_, ?_, by rw [Lib.bytesWorld_size]; omega, fun k hk => Lib.bytesWorld_at_old w e s k hk⟩ <;>
    simp [Lib.bytesWorld, World.freeze, World.alloc, World.drew, -World.alloc_eq, -World.drew_eq]

def MsgPost (out : List UInt8) (w : World) (e : Ending) (w' : World) : Prop :=
  ∃ a n c, e = .returned (.slice a n c) ∧ OwnB w' w.heap.size (.slice a n c) out ∧ Below w.heap.size w w'

def MsgRel (head : List UInt8) (l : List (Nat × Nat)) (w : World) (v i : Value) (wr : World) : Prop :=
  ∃ k : Nat, k ≤ l.length ∧ i = .int .i64 k ∧ OwnB wr w.heap.size v (head ++ (l.take k).flatMap (fun p => bytesOf p.1 p.2)) ∧ (∃ a n c, v = .slice a n c) ∧ Below w.heap.size w wr

theorem flat_len (l : List (Nat × Nat)) (h : ∀ p ∈ l, p.2 ≤ 8) : (l.flatMap (fun p => bytesOf p.1 p.2)).length ≤ l.length * 8 := by
  induction l with
  | nil => simp
  | cons p l ih =>
    have h1 := ih (fun q hq => h q (List.mem_cons_of_mem _ hq))
    have h2 := h p (List.mem_cons_self ..)
    simp only [List.flatMap_cons, List.length_append, bytesOf_length, List.length_cons]
    omega

set_option maxRecDepth 100000 in
set_option maxHeartbeats 1000000 in
theorem message_any (head : List UInt8) (ad : Option Addr) (nd cd : Nat) (data : List UInt8) (al : Option Addr) (cl : Nat) (l : List (Nat × Nat)) (w : World)
    (hh : head.length ≤ 100) (hl : l.length ≤ 100) (hls : ∀ p ∈ l, 1 ≤ p.2 ∧ p.2 ≤ 8 ∧ p.1 < 18446744073709551616) (hdn : data.length = nd) (hdl : nd ≤ 140737488351232) (hrd : Rd w w.heap.size ad (bs data)) (hrl : Rd w w.heap.size al (cs2 l)) :
    Calls Try.prog 42 #[.string ⟨head.toArray⟩, .slice ad nd cd, .slice al l.length cl] w (MsgPost (msg head l data) w) := by
  have HRD := Lib.hid hrd
  have HRL := Lib.hid hrl
  have HLS := Lib.hid hls
  have HDN := Lib.hid hdn
  have HFL := Lib.hid (fun k => flat_len (l.take k) (fun p hp => (hls p (List.mem_of_mem_take hp)).2.1))
  clear hrd hrl hls hdn
  have hk := Lib.run_convert_string_bytes (P := Try.prog) w 9 23 5 ⟨head.toArray⟩ Try.underlying9 Try.underlying23 Try.underlying5
  have HO := Lib.hid (OwnB.str w head (by omega))
  go_enter Try.func42, Try.ntmps42
  go_wp2_with fail
  go_loopw [7, 16] (fun v i wr => MsgRel head l w v i wr) (fun _ i _ => l.length - (intOf i).toNat)
  case atStart => exact ⟨0, Nat.zero_le _, rfl, by simpa using HO.out, ⟨_, _, _, rfl⟩, below_bytesWorld _ _ _⟩
  case round =>
    clear HO hk
    obtain ⟨k, hk, rfl, hown, ⟨a, n, c, rfl⟩, hbl⟩ := hrel
    have HO := Lib.hid hown
    have HB := Lib.hid hbl
    have hba := hbl.size
    clear hown hbl
    by_cases hlt : k < l.length
    · have hget := cs2_get l k hlt
      obtain ⟨b1, o1, rfl, hb1, p1⟩ := (HRL.out.below HB.out).at _ _ hget.1
      obtain ⟨b2, o2, he, hb2, p2⟩ := (HRL.out.below HB.out).at _ _ hget.2
      simp only [Option.some.injEq, Addr.mk.injEq, and_true] at he
      obtain ⟨rfl, rfl⟩ := he
      obtain ⟨s1, s2, s3⟩ := HLS.out l[k] (List.getElem_mem _)
      have hmask := and_mask l[k].1 l[k].2 s1 s2 s3
      have HTK := Lib.hid (List.take_succ_eq_append_getElem hlt)
      rw [← Nat.add_assoc] at p2
      generalize l[k] = f at *
      obtain ⟨fn, fs⟩ := f
      simp only at p1 p2 s1 s2 s3 hmask
      have hw8 : IntKind.i64.wrap (8 * (fs : Int)) = 8 * (fs : Int) := IntWalk.i64_in _ (by omega)
      have h8n : (8 * (fs : Int)).toNat = 8 * fs := by omega
      have h80 : 0 ≤ 8 * (fs : Int) := by omega
      have hlt2 : fn % 256 ^ fs < 256 ^ fs := Nat.mod_lt _ (Nat.pow_pos (by omega))
      have C := Lib.hid (fun W => put_good (fn % 256 ^ fs) fs W s1 s2 hlt2)
      have HM := Lib.hid (bytesOf_mod fs fn)
      have HL8 := Lib.hid (bytesOf_length fs fn)
      have hfl : (head ++ List.flatMap (fun p => bytesOf p.fst p.snd) (List.take k l)).length + fs ≤ 2000 := by
        have h1 := HFL.out k
        rw [List.length_append]
        rw [List.length_take] at h1
        omega
      clear hget hlt2 s3
      go_wp2_with fail
      have q1 : (wr.alloc (Obj.cells #[Value.int IntKind.u64 (fn : Int), Value.int IntKind.i64 (fs : Int)] 76)).cell? ⟨wr.heap.size, 0, none⟩ = some (.int .u64 (fn : Int)) := by go_simp
      have q2 : (wr.alloc (Obj.cells #[Value.int IntKind.u64 (fn : Int), Value.int IntKind.i64 (fs : Int)] 76)).cell? ⟨wr.heap.size, 1, none⟩ = some (.int .i64 (fs : Int)) := by go_simp
      have HBW := Lib.hid ((Below.refl wr.heap.size wr).alloc (Nat.le_refl _) (Obj.cells #[Value.int IntKind.u64 (fn : Int), Value.int IntKind.i64 (fs : Int)] 76))
      have hWs : wr.heap.size ≤ (wr.alloc (Obj.cells #[Value.int IntKind.u64 (fn : Int), Value.int IntKind.i64 (fs : Int)] 76)).heap.size := HBW.out.size
      generalize wr.alloc (Obj.cells #[Value.int IntKind.u64 (fn : Int), Value.int IntKind.i64 (fs : Int)] 76) = W at q1 q2 HBW hWs ⊢
      have hgl := World.block_lt_of_cell? W _ q1
      go_region_held3 (fun w' => w'.cell? ⟨wr.heap.size, 0, none⟩ = some (.int .u64 (fn : Int)) ∧ w'.cell? ⟨wr.heap.size, 1, none⟩ = some (.int .i64 (fs : Int)))
        (first
          | go_keep
          | exact ⟨(hb1.cell (by exact hgl)).trans q1, (hb1.cell (by exact hgl)).trans q2⟩)
        ((go_at_call 51; refine (C.out _).mono ?_; rintro e w1 ⟨rfl, hown1, hb1⟩))
      rw [HM.out] at hown1
      have hbw : Below wr.heap.size wr w1 := (HBW.out.drew).trans (hb1.mono hWs)
      have HO1 := Lib.hid hown1
      have HO := Lib.hid (HO.out.below hbw)
      have HB1 := Lib.hid (HB.out.trans (hbw.mono HB.out.size))
      have hba1 := HB1.out.size
      clear hown1 hb1 hbw C
      go_wp2_with (at_builtin; refine wpList_app rfl _ _ rfl w.heap.size _ _ rfl HO.out w1.heap.size _ fs fs (bytesOf fn fs) rfl HL8.out HO1.out.rd (by omega) hba1 ?_)
      intro v2 w2 hown2 hgr2 hat2
      have hb2 := below_app HB1.out HO.out (Nat.le_refl _) hgr2
      obtain ⟨a2, c2, hv2, _⟩ := hown2.shape
      have HO2 := Lib.hid hown2
      have HB2 := Lib.hid hb2
      have HV := Lib.hid hv2
      clear hown2 hgr2 hat2 hb2 hv2 HO HO1 HB1 hfl
      go_wp2_with fail
      go_roundw
      case rel =>
        refine ⟨k + 1, by omega, by go_num, ?_, ⟨_, _, _, HV.out⟩, HB2.out⟩
        rw [HTK.out]
        simpa using HO2.out
      case measure => simp [intOf]; omega
    · have hk' : k = l.length := by omega
      subst hk'
      have hfl : (head ++ List.flatMap (fun p => bytesOf p.fst p.snd) (List.take l.length l)).length ≤ 2000 := by
        have h1 := HFL.out l.length
        rw [List.length_append]
        rw [List.length_take] at h1
        omega
      go_wp2_with (at_builtin; refine wpList_app rfl _ _ rfl w.heap.size _ _ rfl HO.out w.heap.size _ nd cd data rfl HDN.out (HRD.out.below HB.out) (by omega) hba ?_)
      intro v2 w2 hown2 hgr2 hat2
      have hb2 := below_app HB.out HO.out (Nat.le_refl _) hgr2
      obtain ⟨a2, c2, rfl, _⟩ := hown2.shape
      have HO2 := Lib.hid hown2
      have HB2 := Lib.hid hb2
      have HT := Lib.hid (List.take_length (l := l))
      clear hown2 hgr2 hat2 hb2 hfl
      go_wp2_with fail
      go_ret
      refine ⟨_, _, _, rfl, ?_, HB2.out⟩
      unfold msg
      simpa using HO2.out
end Go.Proofs.Ytnpcpbjoonjaoaa
