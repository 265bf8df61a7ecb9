/- wire: the replies as the document has them; Number; the live question -/
import Derived.Test.YtnpcpbjoonjaoaaWire2
namespace Go.Proofs.Ytnpcpbjoonjaoaa
set_option linter.unusedVariables false
set_option linter.unusedSimpArgs false
open Go.RowKit

theorem m32 (x : Int) : ∃ m : Nat, IntKind.u32.wrap x = (m : Int) ∧ m < 4294967296 ∧ bytesOf m 4 = bytesOf (u64n x) 4 :=
  ⟨u64n x % 4294967296, u32_wrap x, by omega, bytesOf_mod 4 (u64n x)⟩
theorem m16 (x : Int) : ∃ m : Nat, IntKind.u16.wrap x = (m : Int) ∧ m < 65536 ∧ bytesOf m 2 = bytesOf (u64n x) 2 :=
  ⟨u64n x % 65536, u16_wrap x, by omega, bytesOf_mod 2 (u64n x)⟩

set_option maxRecDepth 100000 in
set_option maxHeartbeats 1000000 in
theorem roptionReply_any (a b : Int) (ad : Option Addr) (nd cd : Nat) (data : List UInt8) (w : World) (hdn : data.length = nd) (hdl : nd ≤ 140737488351232) (hrd : Rd w w.heap.size ad (bs data)) :
    Calls Try.prog 17 #[.int .i64 a, .int .i64 b, .slice ad nd cd] w (MsgPost (optionReplyL a b data) w) := by
  have HRD := Lib.hid hrd
  have HDN := Lib.hid hdn
  obtain ⟨ma, ema, lma, bma⟩ := m32 (a)
  have Bma := Lib.hid bma
  clear bma
  obtain ⟨mb, emb, lmb, bmb⟩ := m32 (b)
  have Bmb := Lib.hid bmb
  clear bmb
  obtain ⟨mn, emn, lmn, bmn⟩ := m32 ((nd : Int))
  have Bmn := Lib.hid bmn
  clear bmn
  clear hrd hdn
  have HO : Hid (OwnB (w.alloc (Obj.cells #[Value.int IntKind.u8 0, Value.int IntKind.u8 3, Value.int IntKind.u8 232, Value.int IntKind.u8 137, Value.int IntKind.u8 4, Value.int IntKind.u8 85, Value.int IntKind.u8 101, Value.int IntKind.u8 169] 5)) w.heap.size (.slice (some ⟨w.heap.size, 0, none⟩) 8 8) [0, 3, 232, 137, 4, 85, 101, 169]) := Lib.hid (OwnB.lit w [0, 3, 232, 137, 4, 85, 101, 169] (by decide))
  have HB : Hid (Below w.heap.size w (w.alloc (Obj.cells #[Value.int IntKind.u8 0, Value.int IntKind.u8 3, Value.int IntKind.u8 232, Value.int IntKind.u8 137, Value.int IntKind.u8 4, Value.int IntKind.u8 85, Value.int IntKind.u8 101, Value.int IntKind.u8 169] 5))) := Lib.hid ((Below.refl w.heap.size w).alloc (Nat.le_refl _) _)
  go_enter Try.func17, Try.ntmps17
  go_wp2_with fail
  generalize w.alloc (Obj.cells #[Value.int IntKind.u8 0, Value.int IntKind.u8 3, Value.int IntKind.u8 232, Value.int IntKind.u8 137, Value.int IntKind.u8 4, Value.int IntKind.u8 85, Value.int IntKind.u8 101, Value.int IntKind.u8 169] 5) = W at HO HB ⊢
  go_wp2_with fail
  refine (bytes_good (ma) 4 _ (by omega) (by omega) (by omega)).mono ?_
  rintro e wb ⟨rfl, hownb, hbb⟩
  have HOB := Lib.hid hownb
  have HO := Lib.hid (HO.out.below hbb)
  have HB := Lib.hid (HB.out.trans (hbb.mono HB.out.size))
  have hba := HB.out.size
  clear hownb hbb
  go_wp2_with (at_builtin; refine wpList_app rfl _ _ rfl w.heap.size _ _ rfl HO.out wb.heap.size _ 4 4 (bytesOf (ma) 4) rfl (bytesOf_length _ _) HOB.out.rd (by simp [bytesOf_length]; done) hba ?_)
  intro v2 w2 hown2 hgr2 hat2
  have hb2 := below_app HB.out HO.out (Nat.le_refl _) hgr2
  obtain ⟨a2, c2, rfl, _⟩ := hown2.shape
  have HO := Lib.hid hown2
  have HB := Lib.hid hb2
  clear hown2 hgr2 hat2 hb2 hba HOB
  go_wp2_with fail
  refine (bytes_good (mb) 4 _ (by omega) (by omega) (by omega)).mono ?_
  rintro e wb ⟨rfl, hownb, hbb⟩
  have HOB := Lib.hid hownb
  have HO := Lib.hid (HO.out.below hbb)
  have HB := Lib.hid (HB.out.trans (hbb.mono HB.out.size))
  have hba := HB.out.size
  clear hownb hbb
  go_wp2_with (at_builtin; refine wpList_app rfl _ _ rfl w.heap.size _ _ rfl HO.out wb.heap.size _ 4 4 (bytesOf (mb) 4) rfl (bytesOf_length _ _) HOB.out.rd (by simp [bytesOf_length]; done) hba ?_)
  intro v2 w2 hown2 hgr2 hat2
  have hb2 := below_app HB.out HO.out (Nat.le_refl _) hgr2
  obtain ⟨a2, c2, rfl, _⟩ := hown2.shape
  have HO := Lib.hid hown2
  have HB := Lib.hid hb2
  clear hown2 hgr2 hat2 hb2 hba HOB
  go_wp2_with fail
  refine (bytes_good (mn) 4 _ (by omega) (by omega) (by omega)).mono ?_
  rintro e wb ⟨rfl, hownb, hbb⟩
  have HOB := Lib.hid hownb
  have HO := Lib.hid (HO.out.below hbb)
  have HB := Lib.hid (HB.out.trans (hbb.mono HB.out.size))
  have hba := HB.out.size
  clear hownb hbb
  go_wp2_with (at_builtin; refine wpList_app rfl _ _ rfl w.heap.size _ _ rfl HO.out wb.heap.size _ 4 4 (bytesOf (mn) 4) rfl (bytesOf_length _ _) HOB.out.rd (by simp [bytesOf_length]; done) hba ?_)
  intro v2 w2 hown2 hgr2 hat2
  have hb2 := below_app HB.out HO.out (Nat.le_refl _) hgr2
  obtain ⟨a2, c2, rfl, _⟩ := hown2.shape
  have HO := Lib.hid hown2
  have HB := Lib.hid hb2
  clear hown2 hgr2 hat2 hb2 hba HOB
  have hba := HB.out.size
  go_wp2_with (at_builtin; refine wpList_app rfl _ _ rfl w.heap.size _ _ rfl HO.out w.heap.size _ nd cd data rfl HDN.out (HRD.out.below HB.out) (by simp [bytesOf_length]; omega) hba ?_)
  intro v2 w2 hown2 hgr2 hat2
  have hb2 := below_app HB.out HO.out (Nat.le_refl _) hgr2
  obtain ⟨a2, c2, rfl, _⟩ := hown2.shape
  have HO := Lib.hid hown2
  have HB := Lib.hid hb2
  clear hown2 hgr2 hat2 hb2 hba
  go_wp2_with fail
  go_ret
  refine ⟨_, _, _, rfl, ?_, HB.out⟩
  have h := HO.out
  simpa [optionReplyL, Bma.out, Bmb.out, Bmn.out, u64n_nat nd (by omega), List.append_assoc, HDN.out] using h

set_option maxRecDepth 100000 in
set_option maxHeartbeats 1000000 in
theorem rsimpleReply_any (a : Int) (cookie : Nat) (ad : Option Addr) (nd cd : Nat) (data : List UInt8) (w : World) (hdn : data.length = nd) (hdl : nd ≤ 140737488351232) (hrd : Rd w w.heap.size ad (bs data)) (hck : cookie < 18446744073709551616) :
    Calls Try.prog 19 #[.int .i64 a, .int .u64 cookie, .slice ad nd cd] w (MsgPost (simpleReplyL a cookie data) w) := by
  have HRD := Lib.hid hrd
  have HDN := Lib.hid hdn
  obtain ⟨ma, ema, lma, bma⟩ := m32 (a)
  have Bma := Lib.hid bma
  clear bma
  clear hrd hdn
  have HO : Hid (OwnB (w.alloc (Obj.cells #[Value.int IntKind.u8 103, Value.int IntKind.u8 68, Value.int IntKind.u8 102, Value.int IntKind.u8 152] 5)) w.heap.size (.slice (some ⟨w.heap.size, 0, none⟩) 4 4) [103, 68, 102, 152]) := Lib.hid (OwnB.lit w [103, 68, 102, 152] (by decide))
  have HB : Hid (Below w.heap.size w (w.alloc (Obj.cells #[Value.int IntKind.u8 103, Value.int IntKind.u8 68, Value.int IntKind.u8 102, Value.int IntKind.u8 152] 5))) := Lib.hid ((Below.refl w.heap.size w).alloc (Nat.le_refl _) _)
  go_enter Try.func19, Try.ntmps19
  go_wp2_with fail
  generalize w.alloc (Obj.cells #[Value.int IntKind.u8 103, Value.int IntKind.u8 68, Value.int IntKind.u8 102, Value.int IntKind.u8 152] 5) = W at HO HB ⊢
  go_wp2_with fail
  refine (bytes_good (ma) 4 _ (by omega) (by omega) (by omega)).mono ?_
  rintro e wb ⟨rfl, hownb, hbb⟩
  have HOB := Lib.hid hownb
  have HO := Lib.hid (HO.out.below hbb)
  have HB := Lib.hid (HB.out.trans (hbb.mono HB.out.size))
  have hba := HB.out.size
  clear hownb hbb
  go_wp2_with (at_builtin; refine wpList_app rfl _ _ rfl w.heap.size _ _ rfl HO.out wb.heap.size _ 4 4 (bytesOf (ma) 4) rfl (bytesOf_length _ _) HOB.out.rd (by simp [bytesOf_length]; done) hba ?_)
  intro v2 w2 hown2 hgr2 hat2
  have hb2 := below_app HB.out HO.out (Nat.le_refl _) hgr2
  obtain ⟨a2, c2, rfl, _⟩ := hown2.shape
  have HO := Lib.hid hown2
  have HB := Lib.hid hb2
  clear hown2 hgr2 hat2 hb2 hba HOB
  go_wp2_with fail
  refine (bytes_good (cookie) 8 _ (by omega) (by omega) (by omega)).mono ?_
  rintro e wb ⟨rfl, hownb, hbb⟩
  have HOB := Lib.hid hownb
  have HO := Lib.hid (HO.out.below hbb)
  have HB := Lib.hid (HB.out.trans (hbb.mono HB.out.size))
  have hba := HB.out.size
  clear hownb hbb
  go_wp2_with (at_builtin; refine wpList_app rfl _ _ rfl w.heap.size _ _ rfl HO.out wb.heap.size _ 8 8 (bytesOf (cookie) 8) rfl (bytesOf_length _ _) HOB.out.rd (by simp [bytesOf_length]; done) hba ?_)
  intro v2 w2 hown2 hgr2 hat2
  have hb2 := below_app HB.out HO.out (Nat.le_refl _) hgr2
  obtain ⟨a2, c2, rfl, _⟩ := hown2.shape
  have HO := Lib.hid hown2
  have HB := Lib.hid hb2
  clear hown2 hgr2 hat2 hb2 hba HOB
  have hba := HB.out.size
  go_wp2_with (at_builtin; refine wpList_app rfl _ _ rfl w.heap.size _ _ rfl HO.out w.heap.size _ nd cd data rfl HDN.out (HRD.out.below HB.out) (by simp [bytesOf_length]; omega) hba ?_)
  intro v2 w2 hown2 hgr2 hat2
  have hb2 := below_app HB.out HO.out (Nat.le_refl _) hgr2
  obtain ⟨a2, c2, rfl, _⟩ := hown2.shape
  have HO := Lib.hid hown2
  have HB := Lib.hid hb2
  clear hown2 hgr2 hat2 hb2 hba
  go_wp2_with fail
  go_ret
  refine ⟨_, _, _, rfl, ?_, HB.out⟩
  have h := HO.out
  simpa [simpleReplyL, Bma.out, List.append_assoc, HDN.out] using h

set_option maxRecDepth 100000 in
set_option maxHeartbeats 1000000 in
theorem rchunk_false_any (a : Int) (cookie : Nat) (ad : Option Addr) (nd cd : Nat) (data : List UInt8) (w : World) (hdn : data.length = nd) (hdl : nd ≤ 140737488351232) (hrd : Rd w w.heap.size ad (bs data)) (hck : cookie < 18446744073709551616) :
    Calls Try.prog 21 #[.bool false, .int .i64 a, .int .u64 cookie, .slice ad nd cd] w (MsgPost (chunkL false a cookie data) w) := by
  have HRD := Lib.hid hrd
  have HDN := Lib.hid hdn
  obtain ⟨ma, ema, lma, bma⟩ := m16 (a)
  have Bma := Lib.hid bma
  clear bma
  obtain ⟨mn, emn, lmn, bmn⟩ := m32 ((nd : Int))
  have Bmn := Lib.hid bmn
  clear bmn
  clear hrd hdn
  have HO : Hid (OwnB (w.alloc (Obj.cells #[Value.int IntKind.u8 102, Value.int IntKind.u8 142, Value.int IntKind.u8 51, Value.int IntKind.u8 239, Value.int IntKind.u8 0, Value.int IntKind.u8 0] 5)) w.heap.size (.slice (some ⟨w.heap.size, 0, none⟩) 6 6) [102, 142, 51, 239, 0, 0]) := Lib.hid (OwnB.lit w [102, 142, 51, 239, 0, 0] (by decide))
  have HB : Hid (Below w.heap.size w (w.alloc (Obj.cells #[Value.int IntKind.u8 102, Value.int IntKind.u8 142, Value.int IntKind.u8 51, Value.int IntKind.u8 239, Value.int IntKind.u8 0, Value.int IntKind.u8 0] 5))) := Lib.hid ((Below.refl w.heap.size w).alloc (Nat.le_refl _) _)
  go_enter Try.func21, Try.ntmps21
  go_wp2_with fail
  generalize w.alloc (Obj.cells #[Value.int IntKind.u8 102, Value.int IntKind.u8 142, Value.int IntKind.u8 51, Value.int IntKind.u8 239, Value.int IntKind.u8 0, Value.int IntKind.u8 0] 5) = W at HO HB ⊢
  go_wp2_with fail
  refine (bytes_good (ma) 2 _ (by omega) (by omega) (by omega)).mono ?_
  rintro e wb ⟨rfl, hownb, hbb⟩
  have HOB := Lib.hid hownb
  have HO := Lib.hid (HO.out.below hbb)
  have HB := Lib.hid (HB.out.trans (hbb.mono HB.out.size))
  have hba := HB.out.size
  clear hownb hbb
  go_wp2_with (at_builtin; refine wpList_app rfl _ _ rfl w.heap.size _ _ rfl HO.out wb.heap.size _ 2 2 (bytesOf (ma) 2) rfl (bytesOf_length _ _) HOB.out.rd (by simp [bytesOf_length]; done) hba ?_)
  intro v2 w2 hown2 hgr2 hat2
  have hb2 := below_app HB.out HO.out (Nat.le_refl _) hgr2
  obtain ⟨a2, c2, rfl, _⟩ := hown2.shape
  have HO := Lib.hid hown2
  have HB := Lib.hid hb2
  clear hown2 hgr2 hat2 hb2 hba HOB
  go_wp2_with fail
  refine (bytes_good (cookie) 8 _ (by omega) (by omega) (by omega)).mono ?_
  rintro e wb ⟨rfl, hownb, hbb⟩
  have HOB := Lib.hid hownb
  have HO := Lib.hid (HO.out.below hbb)
  have HB := Lib.hid (HB.out.trans (hbb.mono HB.out.size))
  have hba := HB.out.size
  clear hownb hbb
  go_wp2_with (at_builtin; refine wpList_app rfl _ _ rfl w.heap.size _ _ rfl HO.out wb.heap.size _ 8 8 (bytesOf (cookie) 8) rfl (bytesOf_length _ _) HOB.out.rd (by simp [bytesOf_length]; done) hba ?_)
  intro v2 w2 hown2 hgr2 hat2
  have hb2 := below_app HB.out HO.out (Nat.le_refl _) hgr2
  obtain ⟨a2, c2, rfl, _⟩ := hown2.shape
  have HO := Lib.hid hown2
  have HB := Lib.hid hb2
  clear hown2 hgr2 hat2 hb2 hba HOB
  go_wp2_with fail
  refine (bytes_good (mn) 4 _ (by omega) (by omega) (by omega)).mono ?_
  rintro e wb ⟨rfl, hownb, hbb⟩
  have HOB := Lib.hid hownb
  have HO := Lib.hid (HO.out.below hbb)
  have HB := Lib.hid (HB.out.trans (hbb.mono HB.out.size))
  have hba := HB.out.size
  clear hownb hbb
  go_wp2_with (at_builtin; refine wpList_app rfl _ _ rfl w.heap.size _ _ rfl HO.out wb.heap.size _ 4 4 (bytesOf (mn) 4) rfl (bytesOf_length _ _) HOB.out.rd (by simp [bytesOf_length]; done) hba ?_)
  intro v2 w2 hown2 hgr2 hat2
  have hb2 := below_app HB.out HO.out (Nat.le_refl _) hgr2
  obtain ⟨a2, c2, rfl, _⟩ := hown2.shape
  have HO := Lib.hid hown2
  have HB := Lib.hid hb2
  clear hown2 hgr2 hat2 hb2 hba HOB
  have hba := HB.out.size
  go_wp2_with (at_builtin; refine wpList_app rfl _ _ rfl w.heap.size _ _ rfl HO.out w.heap.size _ nd cd data rfl HDN.out (HRD.out.below HB.out) (by simp [bytesOf_length]; omega) hba ?_)
  intro v2 w2 hown2 hgr2 hat2
  have hb2 := below_app HB.out HO.out (Nat.le_refl _) hgr2
  obtain ⟨a2, c2, rfl, _⟩ := hown2.shape
  have HO := Lib.hid hown2
  have HB := Lib.hid hb2
  clear hown2 hgr2 hat2 hb2 hba
  go_wp2_with fail
  go_ret
  refine ⟨_, _, _, rfl, ?_, HB.out⟩
  have h := HO.out
  simpa [chunkL, Bma.out, Bmn.out, u64n_nat nd (by omega), List.append_assoc, HDN.out] using h

set_option maxRecDepth 100000 in
set_option maxHeartbeats 1000000 in
theorem rchunk_true_any (a : Int) (cookie : Nat) (ad : Option Addr) (nd cd : Nat) (data : List UInt8) (w : World) (hdn : data.length = nd) (hdl : nd ≤ 140737488351232) (hrd : Rd w w.heap.size ad (bs data)) (hck : cookie < 18446744073709551616) :
    Calls Try.prog 21 #[.bool true, .int .i64 a, .int .u64 cookie, .slice ad nd cd] w (MsgPost (chunkL true a cookie data) w) := by
  have HRD := Lib.hid hrd
  have HDN := Lib.hid hdn
  obtain ⟨ma, ema, lma, bma⟩ := m16 (a)
  have Bma := Lib.hid bma
  clear bma
  obtain ⟨mn, emn, lmn, bmn⟩ := m32 ((nd : Int))
  have Bmn := Lib.hid bmn
  clear bmn
  clear hrd hdn
  have HO : Hid (OwnB (w.alloc (Obj.cells #[Value.int IntKind.u8 102, Value.int IntKind.u8 142, Value.int IntKind.u8 51, Value.int IntKind.u8 239, Value.int IntKind.u8 0, Value.int IntKind.u8 1] 5)) w.heap.size (.slice (some ⟨w.heap.size, 0, none⟩) 6 6) [102, 142, 51, 239, 0, 1]) := Lib.hid (OwnB.lit w [102, 142, 51, 239, 0, 1] (by decide))
  have HB : Hid (Below w.heap.size w (w.alloc (Obj.cells #[Value.int IntKind.u8 102, Value.int IntKind.u8 142, Value.int IntKind.u8 51, Value.int IntKind.u8 239, Value.int IntKind.u8 0, Value.int IntKind.u8 1] 5))) := Lib.hid ((Below.refl w.heap.size w).alloc (Nat.le_refl _) _)
  go_enter Try.func21, Try.ntmps21
  go_wp2_with fail
  generalize w.alloc (Obj.cells #[Value.int IntKind.u8 102, Value.int IntKind.u8 142, Value.int IntKind.u8 51, Value.int IntKind.u8 239, Value.int IntKind.u8 0, Value.int IntKind.u8 1] 5) = W at HO HB ⊢
  go_wp2_with fail
  refine (bytes_good (ma) 2 _ (by omega) (by omega) (by omega)).mono ?_
  rintro e wb ⟨rfl, hownb, hbb⟩
  have HOB := Lib.hid hownb
  have HO := Lib.hid (HO.out.below hbb)
  have HB := Lib.hid (HB.out.trans (hbb.mono HB.out.size))
  have hba := HB.out.size
  clear hownb hbb
  go_wp2_with (at_builtin; refine wpList_app rfl _ _ rfl w.heap.size _ _ rfl HO.out wb.heap.size _ 2 2 (bytesOf (ma) 2) rfl (bytesOf_length _ _) HOB.out.rd (by simp [bytesOf_length]; done) hba ?_)
  intro v2 w2 hown2 hgr2 hat2
  have hb2 := below_app HB.out HO.out (Nat.le_refl _) hgr2
  obtain ⟨a2, c2, rfl, _⟩ := hown2.shape
  have HO := Lib.hid hown2
  have HB := Lib.hid hb2
  clear hown2 hgr2 hat2 hb2 hba HOB
  go_wp2_with fail
  refine (bytes_good (cookie) 8 _ (by omega) (by omega) (by omega)).mono ?_
  rintro e wb ⟨rfl, hownb, hbb⟩
  have HOB := Lib.hid hownb
  have HO := Lib.hid (HO.out.below hbb)
  have HB := Lib.hid (HB.out.trans (hbb.mono HB.out.size))
  have hba := HB.out.size
  clear hownb hbb
  go_wp2_with (at_builtin; refine wpList_app rfl _ _ rfl w.heap.size _ _ rfl HO.out wb.heap.size _ 8 8 (bytesOf (cookie) 8) rfl (bytesOf_length _ _) HOB.out.rd (by simp [bytesOf_length]; done) hba ?_)
  intro v2 w2 hown2 hgr2 hat2
  have hb2 := below_app HB.out HO.out (Nat.le_refl _) hgr2
  obtain ⟨a2, c2, rfl, _⟩ := hown2.shape
  have HO := Lib.hid hown2
  have HB := Lib.hid hb2
  clear hown2 hgr2 hat2 hb2 hba HOB
  go_wp2_with fail
  refine (bytes_good (mn) 4 _ (by omega) (by omega) (by omega)).mono ?_
  rintro e wb ⟨rfl, hownb, hbb⟩
  have HOB := Lib.hid hownb
  have HO := Lib.hid (HO.out.below hbb)
  have HB := Lib.hid (HB.out.trans (hbb.mono HB.out.size))
  have hba := HB.out.size
  clear hownb hbb
  go_wp2_with (at_builtin; refine wpList_app rfl _ _ rfl w.heap.size _ _ rfl HO.out wb.heap.size _ 4 4 (bytesOf (mn) 4) rfl (bytesOf_length _ _) HOB.out.rd (by simp [bytesOf_length]; done) hba ?_)
  intro v2 w2 hown2 hgr2 hat2
  have hb2 := below_app HB.out HO.out (Nat.le_refl _) hgr2
  obtain ⟨a2, c2, rfl, _⟩ := hown2.shape
  have HO := Lib.hid hown2
  have HB := Lib.hid hb2
  clear hown2 hgr2 hat2 hb2 hba HOB
  have hba := HB.out.size
  go_wp2_with (at_builtin; refine wpList_app rfl _ _ rfl w.heap.size _ _ rfl HO.out w.heap.size _ nd cd data rfl HDN.out (HRD.out.below HB.out) (by simp [bytesOf_length]; omega) hba ?_)
  intro v2 w2 hown2 hgr2 hat2
  have hb2 := below_app HB.out HO.out (Nat.le_refl _) hgr2
  obtain ⟨a2, c2, rfl, _⟩ := hown2.shape
  have HO := Lib.hid hown2
  have HB := Lib.hid hb2
  clear hown2 hgr2 hat2 hb2 hba
  go_wp2_with fail
  go_ret
  refine ⟨_, _, _, rfl, ?_, HB.out⟩
  have h := HO.out
  simpa [chunkL, Bma.out, Bmn.out, u64n_nat nd (by omega), List.append_assoc, HDN.out] using h

def numberV (e : Int) : Int := if e = 0 then 0 else if e = 143 then 1 else if e = 144 then 28 else if e = 142 then 5 else if e = 141 then 5 else 22

theorem number_any (e : Int) (w : World) : Calls Try.prog 23 #[.int .i64 e] w fun r w' => r = .returned (.int .i64 (numberV e)) ∧ w = w' := by
  unfold numberV
  by_cases h0 : e = 0
  · subst h0
    go_enter Try.func23, Try.ntmps23
    go_wp2_with fail
    go_ret
    exact ⟨rfl, rfl⟩
  · by_cases h1 : e = 143
    · subst h1
      go_enter Try.func23, Try.ntmps23
      go_wp2_with fail
      go_ret
      exact ⟨rfl, rfl⟩
    · by_cases h2 : e = 144
      · subst h2
        go_enter Try.func23, Try.ntmps23
        go_wp2_with fail
        go_ret
        exact ⟨rfl, rfl⟩
      · by_cases h3 : e = 142
        · subst h3
          go_enter Try.func23, Try.ntmps23
          go_wp2_with fail
          go_ret
          exact ⟨rfl, rfl⟩
        · by_cases h4 : e = 141
          · subst h4
            go_enter Try.func23, Try.ntmps23
            go_wp2_with fail
            go_ret
            exact ⟨rfl, rfl⟩
          · rw [if_neg h0, if_neg h1, if_neg h2, if_neg h3, if_neg h4]
            have b0 : (e == 0) = false := by simpa using h0
            have b1 : (e == 143) = false := by simpa using h1
            have b2 : (e == 144) = false := by simpa using h2
            have b3 : (e == 142) = false := by simpa using h3
            have b4 : (e == 141) = false := by simpa using h4
            go_enter Try.func23, Try.ntmps23
            go_wp2_with fail
            go_ret
            exact ⟨rfl, rfl⟩

theorem rnumber_any (e : Int) (w : World) : Calls Try.prog 24 #[.int .i64 e] w fun r w' => r = .returned (.int .i64 (numberV e)) ∧ w = w' := by
  unfold numberV
  by_cases h0 : e = 0
  · subst h0
    go_enter Try.func24, Try.ntmps24
    go_wp2_with fail
    go_ret
    exact ⟨rfl, rfl⟩
  · by_cases h1 : e = 143
    · subst h1
      go_enter Try.func24, Try.ntmps24
      go_wp2_with fail
      go_ret
      exact ⟨rfl, rfl⟩
    · by_cases h2 : e = 144
      · subst h2
        go_enter Try.func24, Try.ntmps24
        go_wp2_with fail
        go_ret
        exact ⟨rfl, rfl⟩
      · by_cases h3 : e = 142
        · subst h3
          go_enter Try.func24, Try.ntmps24
          go_wp2_with fail
          go_ret
          exact ⟨rfl, rfl⟩
        · by_cases h4 : e = 141
          · subst h4
            go_enter Try.func24, Try.ntmps24
            go_wp2_with fail
            go_ret
            exact ⟨rfl, rfl⟩
          · rw [if_neg h0, if_neg h1, if_neg h2, if_neg h3, if_neg h4]
            have b0 : (e == 0) = false := by simpa using h0
            have b1 : (e == 143) = false := by simpa using h1
            have b2 : (e == 144) = false := by simpa using h2
            have b3 : (e == 142) = false := by simpa using h3
            have b4 : (e == 141) = false := by simpa using h4
            go_enter Try.func24, Try.ntmps24
            go_wp2_with fail
            go_ret
            exact ⟨rfl, rfl⟩

end Go.Proofs.Ytnpcpbjoonjaoaa
