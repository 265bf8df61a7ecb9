/- shake: an option as it is sent -/
import Derived.Test.YtnpcpbjoonjaoaaSkJ
namespace Go.Proofs.Ytnpcpbjoonjaoaa
set_option linter.unusedVariables false
set_option linter.unusedSimpArgs false
open Go.RowKit

theorem opt_sent2 (t : Nat) (ht : t < 4294967296) (data more : List UInt8) (hd : data.length ≤ 1024) :
    optR (ihave ++ bytesOf t 4 ++ bytesOf data.length 4 ++ data ++ more) = (t, data, 16 + data.length, 0) := by
  have l : (ihave ++ bytesOf t 4 ++ bytesOf data.length 4 ++ data).length = 16 + data.length := by simp [ihave, bytesOf_length]; omega
  have e8 : (ihave ++ bytesOf t 4 ++ bytesOf data.length 4 ++ data).drop 8 = bytesOf t 4 ++ (bytesOf data.length 4 ++ data) := by
    rw [List.append_assoc, List.append_assoc]; exact List.drop_left' rfl
  have e12 : (ihave ++ bytesOf t 4 ++ bytesOf data.length 4 ++ data).drop 12 = bytesOf data.length 4 ++ data := by
    rw [List.append_assoc (ihave ++ bytesOf t 4)]; exact List.drop_left' (by simp [ihave, bytesOf_length])
  have e16 : (ihave ++ bytesOf t 4 ++ bytesOf data.length 4 ++ data).drop 16 = data := List.drop_left' (by simp [ihave, bytesOf_length])
  have n8 : numOf (((ihave ++ bytesOf t 4 ++ bytesOf data.length 4 ++ data).drop 8).take 4) = t := by
    rw [e8, List.take_left' (bytesOf_length _ _), numOf_bytesOf]; omega
  have n12 : numOf (((ihave ++ bytesOf t 4 ++ bytesOf data.length 4 ++ data).drop 12).take 4) = data.length := by
    rw [e12, List.take_left' (bytesOf_length _ _), numOf_bytesOf]; omega
  have hb : beginsB (ihave ++ bytesOf t 4 ++ bytesOf data.length 4 ++ data) ihave = true := by
    rw [beginsB, beq_iff_eq, List.append_assoc, List.append_assoc, List.take_left' rfl, List.take_of_length_le (by simp [ihave])]
  rw [opt_more _ more hb (by omega) (by rw [n12]; exact hd) (by rw [n12, l]; omega), n8, n12, e16, List.take_of_length_le (Nat.le_refl _)]


/-- An option as it is sent. -/
def optE (k : Nat) (d : List UInt8) : List UInt8 := ihave ++ bytesOf k 4 ++ bytesOf d.length 4 ++ d
theorem optE_length (k : Nat) (d : List UInt8) : (optE k d).length = 16 + d.length := by simp [optE, ihave, bytesOf_length]; omega
theorem optE_is (k : Nat) (hk : k < 4294967296) (d : List UInt8) (hd : d.length ≤ 1024) : optR (optE k d) = (k, d, 16 + d.length, 0) := by
  have h := opt_sent2 k hk d [] hd
  rwa [List.append_nil] at h

/-- An option that the document does not know. -/
theorem feed_unknown (s : Sk) (k : Nat) (hk : 9 ≤ k) (hk2 : k < 4294967296) (d : List UInt8) (hd : d.length ≤ 1024) (hnm : s.name.length ≤ 1000) (hp : s.phase = 1) :
    feedR s (optE k d) = (s, optionReplyL (k : Int) 2147483649 [], (optE k d).length) := by
  have ho := optE_is k hk2 d hd
  have ha : ansR s k d = (s, [(2147483649, [])]) := by
    rw [ansR, if_neg (by omega), if_neg (by omega), if_neg (by omega), if_neg (by omega)]
  have h1 : oneR s (optE k d) = (s, optionReplyL (k : Int) 2147483649 [], 16 + d.length) := by
    rw [oneR, if_neg (by omega), ho, if_neg (by simp), if_neg (by simp), if_neg (by simp only; omega)]
    simp only [ha, saidL, List.flatMap_cons, List.flatMap_nil, List.append_nil]
    rfl
  have h2 : oneR s [] = (s, [], 0) := by
    rw [oneR, if_neg (by omega)]
    rfl
  have h3 : feedR s [] = (s, [], 0) := by rw [feedR_eq s [] hnm, if_pos (by omega), h2, if_pos rfl]
  rw [feedR_eq s _ hnm, if_pos (by omega), h1, if_neg (by simp), List.drop_of_length_le (by rw [optE_length]; exact Nat.le_refl _)]
  simp only [h3, List.append_nil, Nat.add_zero, optE_length]

def BytesEx2 (n s : Nat) (w : World) (e : Ending) (w' : World) : Prop :=
  ∃ a c, e = .returned (.slice a s c) ∧ OwnB w' w.heap.size (.slice a s c) (bytesOf n s) ∧ Below w.heap.size w w'
theorem bytes_ex2 (n s : Nat) (w : World) (h1 : 1 ≤ s) (h8 : s ≤ 8) (hn : n < 256 ^ s) :
    Calls Try.prog 28 #[.int .u64 n, .int .i64 s] w (BytesEx2 n s w) := by
  refine (bytes_good n s w h1 h8 hn).mono ?_
  rintro e w' ⟨rfl, h2, h3⟩
  exact ⟨_, _, rfl, h2, h3⟩

set_option maxRecDepth 20000 in
set_option maxHeartbeats 2000000 in
theorem option21_any (k : Nat) (hk : k < 4294967296) (a : Option Addr) (n c : Nat) (data : List UInt8) (w : World) (hn : data.length = n) (hc : n ≤ c) (hc2 : c ≤ 140737488351232) (hr : Rd w w.heap.size a (bs data)) :
    Calls Try.prog 41 #[.int .i64 (k : Int), .slice a n c] w (MsgPost (optE k (data.take 1000)) w) := by
  obtain ⟨m, hm⟩ : ∃ m, min n 1000 = m := ⟨_, rfl⟩
  obtain ⟨D, hD⟩ : ∃ D, data.take 1000 = D := ⟨_, rfl⟩
  have hDl : D.length = m := by rw [← hD, List.length_take, hn, Nat.min_comm]; exact hm
  have hrD : Rd w w.heap.size a (bs D) := by rw [← hD, bs_take]; exact hr.take 1000
  rw [hD]
  have hmI : (if (1000 : Int) < (n : Int) then (1000 : Int) else (n : Int)) = (m : Int) := by split <;> omega
  have m0 : (0 : Int) ≤ (m : Int) := Int.natCast_nonneg m
  have m1 : (m : Int) ≤ (n : Int) := by omega
  have m2 : (m : Int) ≤ (c : Int) := by omega
  have hm1000 : m ≤ 1000 := by omega
  have x1 : IntKind.u32.wrap (k : Int) = (k : Int) := by rw [IntKind.wrap_u32]; omega
  have x2 : IntKind.u64.wrap (k : Int) = (k : Int) := by rw [IntKind.wrap_u64]; omega
  have x3 : IntKind.u64.wrap (m : Int) = (m : Int) := by rw [IntKind.wrap_u64]; omega
  have kc := fun (w : World) (C : Array Value) (n c : Nat) => Lib.run_convert_bytes_const (P := Try.prog) w 23 5 C n c Try.underlying23 Try.underlying5
  have HRD := Lib.hid hrD
  have HDL := Lib.hid hDl
  have HO : Hid (OwnB (w.alloc (Obj.cells #[.int .u8 73, .int .u8 72, .int .u8 65, .int .u8 86, .int .u8 69, .int .u8 79, .int .u8 80, .int .u8 84] 5 (8, 9))) w.heap.size (.slice (some ⟨w.heap.size, 0, none⟩) 8 8) ihave) := Lib.hid (OwnB.const w ihave 8 (by decide) (by decide))
  have HBW := Lib.hid ((Below.refl w.heap.size w).alloc (Nat.le_refl _) (Obj.cells #[.int .u8 73, .int .u8 72, .int .u8 65, .int .u8 86, .int .u8 69, .int .u8 79, .int .u8 80, .int .u8 84] 5 (8, 9)))
  clear hn hc hc2 hr hm hD hDl hrD
  go_enter Try.func41, Try.ntmps41
  go_wp2_with fail
  refine (bytes_ex2 k 4 _ (by omega) (by omega) (by omega)).mono ?_
  rintro e w1 ⟨ab1, cb1, rfl, hob, hbb⟩
  have HO := Lib.hid (HO.out.below hbb)
  have HBW := Lib.hid (HBW.out.trans (hbb.mono HBW.out.size))
  have HRB := Lib.hid (OwnB.rd hob)
  have S1 : Hid (ihave.length + 4 ≤ 140737488355328) := Lib.hid (by decide)
  have HBL := Lib.hid (bytesOf_length 4 k)
  clear hob hbb kc
  go_wp2_with (at_builtin; refine wpList_app rfl _ _ rfl w.heap.size _ ihave rfl HO.out w1.heap.size ab1 4 cb1 (bytesOf k 4) rfl HBL.out HRB.out S1.out HBW.out.size ?_)
  intro v2 w2 hown2 hgr2 hat2
  have hbn := below_app HBW.out HO.out (Nat.le_refl _) hgr2
  obtain ⟨X1, hX1⟩ : ∃ X, ihave ++ bytesOf k 4 = X := ⟨_, rfl⟩
  have hl1 : X1.length = 12 := by rw [← hX1]; simp [ihave, bytesOf_length]
  rw [hX1] at hown2
  obtain ⟨a2, c2, rfl, _⟩ := OwnG.shape hown2
  rw [hl1] at hown2 ⊢
  have HO := Lib.hid hown2
  have HBW := Lib.hid hbn
  have HX1 := Lib.hid hX1
  have HL1 := Lib.hid hl1
  clear hown2 hgr2 hat2 hbn hX1 hl1 HRB
  go_wp2_with fail
  refine (bytes_ex2 m 4 _ (by omega) (by omega) (by omega)).mono ?_
  rintro e w3 ⟨ab3, cb3, rfl, hob, hbb⟩
  have HO := Lib.hid (OwnG.below HO.out hbb : OwnB w3 w.heap.size (.slice a2 12 c2) X1)
  have HBW := Lib.hid (HBW.out.trans (hbb.mono HBW.out.size))
  have HRB := Lib.hid (OwnB.rd hob)
  have S2 : Hid (X1.length + 4 ≤ 140737488355328) := Lib.hid (by rw [HL1.out]; omega)
  have HBM := Lib.hid (bytesOf_length 4 m)
  clear hob hbb
  go_wp2_with (at_builtin; refine wpList_app rfl _ _ rfl w.heap.size _ X1 rfl HO.out w3.heap.size ab3 4 cb3 (bytesOf m 4) rfl HBM.out HRB.out S2.out HBW.out.size ?_)
  intro v4 w4 hown4 hgr4 hat4
  have hbn := below_app HBW.out HO.out (Nat.le_refl _) hgr4
  obtain ⟨X2, hX2⟩ : ∃ X, X1 ++ bytesOf m 4 = X := ⟨_, rfl⟩
  have hl2 : X2.length = 16 := by rw [← hX2, List.length_append, HL1.out, bytesOf_length]
  rw [hX2] at hown4
  obtain ⟨a4, c4, rfl, _⟩ := OwnG.shape hown4
  rw [hl2] at hown4 ⊢
  have HO := Lib.hid hown4
  have HBW := Lib.hid hbn
  have HX2 := Lib.hid hX2
  have HRX := Lib.hid ((HRD.out.below hbn).more hbn.size)
  have S3 : Hid (X2.length + m ≤ 140737488355328) := Lib.hid (by rw [hl2]; omega)
  clear hown4 hgr4 hat4 hbn hX2 hl2 HRB
  go_wp2_with (at_builtin; refine wpList_app rfl _ _ rfl w.heap.size _ X2 rfl HO.out w4.heap.size a m c D rfl HDL.out HRX.out S3.out HBW.out.size ?_)
  intro v5 w5 hown5 hgr5 hat5
  have hbn := below_app HBW.out HO.out (Nat.le_refl _) hgr5
  obtain ⟨a5, c5, rfl, _⟩ := OwnG.shape hown5
  have HO := Lib.hid hown5
  have HBW := Lib.hid hbn
  have HEQ : Hid (optE k D = X2 ++ D) := Lib.hid (by rw [optE, HDL.out, HX1.out, HX2.out])
  clear hown5 hgr5 hat5 hbn
  go_wp2_with fail
  go_ret
  refine ⟨a5, _, c5, rfl, ?_, HBW.out⟩
  rw [HEQ.out]
  exact HO.out
end Go.Proofs.Ytnpcpbjoonjaoaa
