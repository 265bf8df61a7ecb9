/- wire: the replies, the program's and the document's -/
import Derived.Test.YtnpcpbjoonjaoaaWire
namespace Go.Proofs.Ytnpcpbjoonjaoaa
set_option linter.unusedVariables false
set_option linter.unusedSimpArgs false
open Go.RowKit

/-- A whole number as an unsigned one of 64 bits. -/
def u64n (x : Int) : Nat := (x % 18446744073709551616).toNat
theorem u64n_wrap (x : Int) : IntKind.u64.wrap x = ((u64n x : Nat) : Int) := by rw [IntKind.wrap_u64]; unfold u64n; omega
theorem u64n_lt (x : Int) : u64n x < 18446744073709551616 := by unfold u64n; omega
theorem u32_wrap (x : Int) : IntKind.u32.wrap x = ((u64n x % 4294967296 : Nat) : Int) := by rw [IntKind.wrap_u32]; unfold u64n; omega
theorem u16_wrap (x : Int) : IntKind.u16.wrap x = ((u64n x % 65536 : Nat) : Int) := by
  have : IntKind.u16.wrap x = x % 65536 := by simp [IntKind.wrap, IntKind.bits, IntKind.signed]
  rw [this]; unfold u64n; omega
theorem u64n_nat (n : Nat) (h : n < 18446744073709551616) : u64n (n : Int) = n := by unfold u64n; omega

def BytesPost (n s : Nat) (w : World) (e : Ending) (w' : World) : Prop :=
  e = .returned (.slice (some ⟨w.heap.size, 0, none⟩) s s) ∧ OwnB w' w.heap.size (.slice (some ⟨w.heap.size, 0, none⟩) s s) (bytesOf n s) ∧ Below w.heap.size w w'

set_option maxRecDepth 100000 in
theorem bytes_good (n s : Nat) (w : World) (h1 : 1 ≤ s) (h8 : s ≤ 8) (hn : n < 256 ^ s) :
    Calls Try.prog 28 #[.int .u64 n, .int .i64 s] w (BytesPost n s w) := by
  have hn2 : n < 18446744073709551616 := Nat.lt_of_lt_of_le hn (Nat.pow_le_pow_right (by omega) h8)
  have C := Lib.hid (rput_any n s w h1 h8 hn2)
  have HN := Lib.hid hn
  clear hn hn2
  go_enter Try.func28, Try.ntmps28
  go_wp2_with fail
  refine C.out.mono ?_
  rintro e w1 ⟨hb, hr⟩
  rw [if_pos HN.out] at hr
  obtain ⟨rfl, hown⟩ := hr
  have HO := Lib.hid hown
  have HB := Lib.hid hb
  clear hown hb
  go_wp2_with fail
  go_ret
  exact ⟨rfl, HO.out, HB.out⟩

def greetingL : List UInt8 := [78, 66, 68, 77, 65, 71, 73, 67, 73, 72, 65, 86, 69, 79, 80, 84, 0, 3]
def optionReplyL (a b : Int) (data : List UInt8) : List UInt8 := [0, 3, 232, 137, 4, 85, 101, 169] ++ bytesOf (u64n a) 4 ++ bytesOf (u64n b) 4 ++ bytesOf data.length 4 ++ data
def simpleReplyL (n : Int) (cookie : Nat) (data : List UInt8) : List UInt8 := [103, 68, 102, 152] ++ bytesOf (u64n n) 4 ++ bytesOf cookie 8 ++ data
def chunkL (last : Bool) (kind : Int) (cookie : Nat) (data : List UInt8) : List UInt8 :=
  [102, 142, 51, 239, 0, if last then 1 else 0] ++ bytesOf (u64n kind) 2 ++ bytesOf cookie 8 ++ bytesOf data.length 4 ++ data

set_option maxRecDepth 100000 in
theorem greeting_any (w : World) : Calls Try.prog 14 #[] w (MsgPost greetingL w) := by
  go_enter Try.func14, Try.ntmps14
  go_wp2_with fail
  have hb : Below w.heap.size w (w.alloc (.cells (cs2 [(3, 2)]).toArray 76)) := (Below.refl _ _).alloc (Nat.le_refl _) _
  refine (message_any [78, 66, 68, 77, 65, 71, 73, 67, 73, 72, 65, 86, 69, 79, 80, 84] none 0 0 [] (some ⟨w.heap.size, 0, none⟩) 1 [(3, 2)] _ (by decide) (by decide) (by decide) rfl (by omega) .nil
    ((Rd.new w (cs2 [(3, 2)]) 76).lt_size)).mono ?_
  rintro e w1 ⟨a, n, c, rfl, hown, hb1⟩
  have HO := Lib.hid (hown.base_mono hb.size)
  have HB := Lib.hid (hb.trans (hb1.mono hb.size))
  clear hown hb1 hb
  go_wp2_with fail
  go_ret
  exact ⟨_, _, _, rfl, HO.out, HB.out⟩

set_option maxRecDepth 100000 in
theorem rgreeting_any (w : World) : Calls Try.prog 15 #[] w (MsgPost greetingL w) := by
  have kc := fun (w : World) (C : Array Value) (n c : Nat) => Lib.run_convert_bytes_const (P := Try.prog) w 23 5 C n c Try.underlying23 Try.underlying5
  go_enter Try.func15, Try.ntmps15
  go_wp2_with fail
  go_ret
  exact ⟨_, _, _, rfl, OwnB.const w greetingL 18 (by decide) (by decide), (Below.refl _ _).alloc (Nat.le_refl _) _⟩

set_option maxRecDepth 100000 in
set_option maxHeartbeats 1000000 in
theorem optionReply_any (a b : Int) (ad : Option Addr) (nd cd : Nat) (data : List UInt8) (w : World) (hdn : data.length = nd) (hdl : nd ≤ 140737488351232) (hrd : Rd w w.heap.size ad (bs data)) :
    Calls Try.prog 16 #[.int .i64 a, .int .i64 b, .slice ad nd cd] w (MsgPost (optionReplyL a b data) w) := by
  have hls : ∀ p ∈ [(u64n a, 4), (u64n b, 4), (nd, 4)], 1 ≤ p.2 ∧ p.2 ≤ 8 ∧ p.1 < 18446744073709551616 := by
    intro p hp
    simp only [List.mem_cons, List.not_mem_nil, or_false] at hp
    rcases hp with rfl | rfl | rfl <;> refine ⟨by omega, by omega, ?_⟩ <;> first | omega | exact u64n_lt _
  have C := Lib.hid (fun W c h1 h2 => message_any [0, 3, 232, 137, 4, 85, 101, 169] ad nd cd data (some ⟨w.heap.size, 0, none⟩) c [(u64n a, 4), (u64n b, 4), (nd, 4)] W (by decide) (by simp) hls hdn hdl h1 h2)
  have HLS := Lib.hid hls
  have HRD := Lib.hid hrd
  have HDN := Lib.hid hdn
  clear hrd hls hdn
  have e1 := u64n_wrap a
  have e2 := u64n_wrap b
  go_enter Try.func16, Try.ntmps16
  go_wp2_with fail
  have hb : Below w.heap.size w (w.alloc (.cells (cs2 [(u64n a, 4), (u64n b, 4), (nd, 4)]).toArray 76)) := (Below.refl _ _).alloc (Nat.le_refl _) _
  refine (C.out (w.alloc (.cells (cs2 [(u64n a, 4), (u64n b, 4), (nd, 4)]).toArray 76)) _ ((HRD.out.below hb).lt_size) ((Rd.new w (cs2 [(u64n a, 4), (u64n b, 4), (nd, 4)]) 76).lt_size)).mono ?_
  rintro e w1 ⟨a, n, c, rfl, hown, hb1⟩
  have HO := Lib.hid (hown.base_mono hb.size)
  have HB := Lib.hid (hb.trans (hb1.mono hb.size))
  clear hown hb1 hb
  go_wp2_with fail
  go_ret
  refine ⟨_, _, _, rfl, ?_, HB.out⟩
  have h := HO.out
  simpa [msg, optionReplyL, List.append_assoc, HDN.out] using h

set_option maxRecDepth 100000 in
set_option maxHeartbeats 1000000 in
theorem simpleReply_any (a : Int) (cookie : Nat) (ad : Option Addr) (nd cd : Nat) (data : List UInt8) (w : World) (hdn : data.length = nd) (hdl : nd ≤ 140737488351232) (hrd : Rd w w.heap.size ad (bs data)) (hck : cookie < 18446744073709551616) :
    Calls Try.prog 18 #[.int .i64 a, .int .u64 cookie, .slice ad nd cd] w (MsgPost (simpleReplyL a cookie data) w) := by
  have hls : ∀ p ∈ [(u64n a, 4), (cookie, 8)], 1 ≤ p.2 ∧ p.2 ≤ 8 ∧ p.1 < 18446744073709551616 := by
    intro p hp
    simp only [List.mem_cons, List.not_mem_nil, or_false] at hp
    rcases hp with rfl | rfl <;> refine ⟨by omega, by omega, ?_⟩ <;> first | omega | exact u64n_lt _
  have C := Lib.hid (fun W c h1 h2 => message_any [103, 68, 102, 152] ad nd cd data (some ⟨w.heap.size, 0, none⟩) c [(u64n a, 4), (cookie, 8)] W (by decide) (by simp) hls hdn hdl h1 h2)
  have HLS := Lib.hid hls
  have HRD := Lib.hid hrd
  have HDN := Lib.hid hdn
  clear hrd hls hdn
  have e1 := u64n_wrap a
  go_enter Try.func18, Try.ntmps18
  go_wp2_with fail
  have hb : Below w.heap.size w (w.alloc (.cells (cs2 [(u64n a, 4), (cookie, 8)]).toArray 76)) := (Below.refl _ _).alloc (Nat.le_refl _) _
  refine (C.out (w.alloc (.cells (cs2 [(u64n a, 4), (cookie, 8)]).toArray 76)) _ ((HRD.out.below hb).lt_size) ((Rd.new w (cs2 [(u64n a, 4), (cookie, 8)]) 76).lt_size)).mono ?_
  rintro e w1 ⟨a, n, c, rfl, hown, hb1⟩
  have HO := Lib.hid (hown.base_mono hb.size)
  have HB := Lib.hid (hb.trans (hb1.mono hb.size))
  clear hown hb1 hb
  go_wp2_with fail
  go_ret
  refine ⟨_, _, _, rfl, ?_, HB.out⟩
  have h := HO.out
  simpa [msg, simpleReplyL, List.append_assoc, HDN.out] using h

set_option maxRecDepth 100000 in
set_option maxHeartbeats 1000000 in
theorem chunk_true_any (a : Int) (cookie : Nat) (ad : Option Addr) (nd cd : Nat) (data : List UInt8) (w : World) (hdn : data.length = nd) (hdl : nd ≤ 140737488351232) (hrd : Rd w w.heap.size ad (bs data)) (hck : cookie < 18446744073709551616) :
    Calls Try.prog 20 #[.bool true, .int .i64 a, .int .u64 cookie, .slice ad nd cd] w (MsgPost (chunkL true a cookie data) w) := by
  have hls : ∀ p ∈ [(1, 2), (u64n a, 2), (cookie, 8), (nd, 4)], 1 ≤ p.2 ∧ p.2 ≤ 8 ∧ p.1 < 18446744073709551616 := by
    intro p hp
    simp only [List.mem_cons, List.not_mem_nil, or_false] at hp
    rcases hp with rfl | rfl | rfl | rfl <;> refine ⟨by omega, by omega, ?_⟩ <;> first | omega | exact u64n_lt _
  have C := Lib.hid (fun W c h1 h2 => message_any [102, 142, 51, 239] ad nd cd data (some ⟨w.heap.size, 0, none⟩) c [(1, 2), (u64n a, 2), (cookie, 8), (nd, 4)] W (by decide) (by simp) hls hdn hdl h1 h2)
  have HLS := Lib.hid hls
  have HRD := Lib.hid hrd
  have HDN := Lib.hid hdn
  clear hrd hls hdn
  have e1 := u64n_wrap a
  go_enter Try.func20, Try.ntmps20
  go_wp2_with fail
  have hb : Below w.heap.size w (w.alloc (.cells (cs2 [(1, 2), (u64n a, 2), (cookie, 8), (nd, 4)]).toArray 76)) := (Below.refl _ _).alloc (Nat.le_refl _) _
  refine (C.out (w.alloc (.cells (cs2 [(1, 2), (u64n a, 2), (cookie, 8), (nd, 4)]).toArray 76)) _ ((HRD.out.below hb).lt_size) ((Rd.new w (cs2 [(1, 2), (u64n a, 2), (cookie, 8), (nd, 4)]) 76).lt_size)).mono ?_
  rintro e w1 ⟨a, n, c, rfl, hown, hb1⟩
  have HO := Lib.hid (hown.base_mono hb.size)
  have HB := Lib.hid (hb.trans (hb1.mono hb.size))
  clear hown hb1 hb
  go_wp2_with fail
  go_ret
  refine ⟨_, _, _, rfl, ?_, HB.out⟩
  have h := HO.out
  simpa [msg, chunkL, show bytesOf 1 2 = [0, 1] by decide, List.append_assoc, HDN.out] using h

set_option maxRecDepth 100000 in
set_option maxHeartbeats 1000000 in
theorem chunk_false_any (a : Int) (cookie : Nat) (ad : Option Addr) (nd cd : Nat) (data : List UInt8) (w : World) (hdn : data.length = nd) (hdl : nd ≤ 140737488351232) (hrd : Rd w w.heap.size ad (bs data)) (hck : cookie < 18446744073709551616) :
    Calls Try.prog 20 #[.bool false, .int .i64 a, .int .u64 cookie, .slice ad nd cd] w (MsgPost (chunkL false a cookie data) w) := by
  have hls : ∀ p ∈ [(0, 2), (u64n a, 2), (cookie, 8), (nd, 4)], 1 ≤ p.2 ∧ p.2 ≤ 8 ∧ p.1 < 18446744073709551616 := by
    intro p hp
    simp only [List.mem_cons, List.not_mem_nil, or_false] at hp
    rcases hp with rfl | rfl | rfl | rfl <;> refine ⟨by omega, by omega, ?_⟩ <;> first | omega | exact u64n_lt _
  have C := Lib.hid (fun W c h1 h2 => message_any [102, 142, 51, 239] ad nd cd data (some ⟨w.heap.size, 0, none⟩) c [(0, 2), (u64n a, 2), (cookie, 8), (nd, 4)] W (by decide) (by simp) hls hdn hdl h1 h2)
  have HLS := Lib.hid hls
  have HRD := Lib.hid hrd
  have HDN := Lib.hid hdn
  clear hrd hls hdn
  have e1 := u64n_wrap a
  go_enter Try.func20, Try.ntmps20
  go_wp2_with fail
  have hb : Below w.heap.size w (w.alloc (.cells (cs2 [(0, 2), (u64n a, 2), (cookie, 8), (nd, 4)]).toArray 76)) := (Below.refl _ _).alloc (Nat.le_refl _) _
  refine (C.out (w.alloc (.cells (cs2 [(0, 2), (u64n a, 2), (cookie, 8), (nd, 4)]).toArray 76)) _ ((HRD.out.below hb).lt_size) ((Rd.new w (cs2 [(0, 2), (u64n a, 2), (cookie, 8), (nd, 4)]) 76).lt_size)).mono ?_
  rintro e w1 ⟨a, n, c, rfl, hown, hb1⟩
  have HO := Lib.hid (hown.base_mono hb.size)
  have HB := Lib.hid (hb.trans (hb1.mono hb.size))
  clear hown hb1 hb
  go_wp2_with fail
  go_ret
  refine ⟨_, _, _, rfl, ?_, HB.out⟩
  have h := HO.out
  simpa [msg, chunkL, show bytesOf 0 2 = [0, 0] by decide, List.append_assoc, HDN.out] using h

end Go.Proofs.Ytnpcpbjoonjaoaa
