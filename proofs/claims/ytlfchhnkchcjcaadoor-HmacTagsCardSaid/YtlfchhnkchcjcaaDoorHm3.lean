/- hmac: the live question, tags -/
import Derived.Test.YtlfchhnkchcjcaaDoorHm2
import Derived.Test.YtlfchhnkchcjcaaDoorPut
import Derived.Test.YtlfchhnkchcjcaaDoorBytes
import Derived.Test.YtlfchhnkchcjcaaDoorXr
import Derived.Deep.MidRow
namespace Go.Proofs.YtlfchhnkchcjcaaDoor
set_option linter.unusedVariables false
set_option linter.unusedSimpArgs false
open Go.RowKit

def jefe : List UInt8 := [74, 101, 102, 101]
def want : List UInt8 := [119, 104, 97, 116, 32, 100, 111, 32, 121, 97, 32, 119, 97, 110, 116, 32, 102, 111, 114, 32, 110, 111, 116, 104, 105, 110, 103, 63]
theorem alive_h : (hmacL jefe want).getD 0 0 = 0x5b ∧ (hmacL jefe want).getD 1 0 = 0xdc ∧ (hmacL jefe want).getD 31 0 = 0x43 := by decide +kernel
theorem hdigest_at (k l : List UInt8) (i : Nat) (hi : i < 32) (y : UInt8) (h : (hmacL k l).getD i 0 = y) : (bs (hmacL k l))[i]? = some (.int .u8 (y.toNat : Int)) := digest_at _ i hi y h

theorem hmalive_any (w : World) (hk : KOK w) : Calls Tryd.prog 20 #[] w fun e w' => e = .returned (.bool true) ∧ Below w.heap.size w w' := by
  have HK := Lib.hid hk
  have kc := fun (w : World) (C : Array Value) (n c : Nat) => Lib.run_convert_bytes_const (P := Tryd.prog) w 22 5 C n c Tryd.underlying22 Tryd.underlying5
  have kc2 := kc (w.alloc (.cells #[Value.int IntKind.u8 74, Value.int IntKind.u8 101, Value.int IntKind.u8 102, Value.int IntKind.u8 101] 5 (4, 5))) #[Value.int IntKind.u8 119, Value.int IntKind.u8 104, Value.int IntKind.u8 97, Value.int IntKind.u8 116, Value.int IntKind.u8 32, Value.int IntKind.u8 100, Value.int IntKind.u8 111, Value.int IntKind.u8 32, Value.int IntKind.u8 121, Value.int IntKind.u8 97, Value.int IntKind.u8 32, Value.int IntKind.u8 119, Value.int IntKind.u8 97, Value.int IntKind.u8 110, Value.int IntKind.u8 116, Value.int IntKind.u8 32, Value.int IntKind.u8 102, Value.int IntKind.u8 111, Value.int IntKind.u8 114, Value.int IntKind.u8 32, Value.int IntKind.u8 110, Value.int IntKind.u8 111, Value.int IntKind.u8 116, Value.int IntKind.u8 104, Value.int IntKind.u8 105, Value.int IntKind.u8 110, Value.int IntKind.u8 103, Value.int IntKind.u8 63] 28 28
  rw [World.size_alloc] at kc2
  clear hk
  go_enter Tryd.func20, Tryd.ntmps20
  have r1 := (OwnB.const w jefe 4 (by decide) (by decide))
  have r2 := (OwnB.const (w.alloc (.cells (bs jefe).toArray 5 (4, 5))) want 28 (by decide) (by decide))
  have hb2 : Below w.heap.size w ((w.alloc (.cells (bs jefe).toArray 5 (4, 5))).alloc (.cells (bs want).toArray 5 (28, 29))) := ((Below.refl _ _).alloc (Nat.le_refl _) _).alloc (by rw [World.size_alloc]; omega) _
  have r3 := OwnB.rd ((OwnG.alloc r1 (.cells (bs want).toArray 5 (28, 29)) : OwnB _ _ (.slice (some ⟨w.heap.size, 0, none⟩) 4 4) jefe))
  have C := Lib.hid (hmac_any jefe want (some ⟨w.heap.size, 0, none⟩) 4 4 (some ⟨(w.alloc (.cells (bs jefe).toArray 5 (4, 5))).heap.size, 0, none⟩) 28 28 _ rfl (Nat.le_refl _) (by omega) r3 rfl (Nat.le_refl _) (by omega) (OwnB.rd r2) (HK.out.below hb2))
  rw [World.size_alloc] at C
  have HB2 := Lib.hid hb2
  clear r1 r2 r3 hb2
  go_wp2_with fail
  refine C.out.mono ?_
  rintro e w4 ⟨rfl, hb4⟩
  obtain ⟨X2, Z2, hX2, hinf2, hone2, hzz2, hzs2, w5, hw5, hB5, hb5, hs5⟩ := keep_digest w4 (hmacL jefe want) (hmacL_length _ _)
  rw [hX2]
  have c1 := hB5.cell 0 _ (hdigest_at _ _ 0 (by omega) _ alive_h.1)
  have c2 := hB5.cell 1 _ (hdigest_at _ _ 1 (by omega) _ alive_h.2.1)
  have c3 := hB5.cell 31 _ (hdigest_at _ _ 31 (by omega) _ alive_h.2.2)
  have hb04 := HB2.out.trans (hb4.mono HB2.out.size)
  have HBB5 := Lib.hid (hb04.trans (hb5.mono hb04.size))
  clear hX2 hb4 hb5 hs5 hb04 hB5 kc kc2
  go_wp2_with (refine wpList_store_row rfl 23 _ _ rfl w4.heap.size X2 rfl rfl 23 Z2 hzz2 hinf2 hzs2 hone2 (hgoalL hw5 ?_))
  go_ret
  exact ⟨rfl, HBB5.out⟩

/-- The number of a sector, as 64 bits. -/
def n64 (x : Int) : Nat := (x % 18446744073709551616).toNat
theorem n64_lt (x : Int) : n64 x < 18446744073709551616 := by unfold n64; omega
/-- A sector's tag. -/
def tagL (key : List UInt8) (x : Int) (data : List UInt8) : List UInt8 := (hmacL key (bytesOf (n64 x) 8 ++ data)).take 16
theorem tagL_length (key : List UInt8) (x : Int) (data : List UInt8) : (tagL key x data).length = 16 := by rw [tagL, List.length_take, hmacL_length]; rfl

theorem bytes_ex (n s : Nat) (w : World) (h1 : 1 ≤ s) (h8 : s ≤ 8) (hn : n < 256 ^ s) :
    Calls Tryd.prog 22 #[.int .u64 n, .int .i64 s] w fun e w' => ∃ a c, e = .returned (.slice a s c) ∧ OwnB w' w.heap.size (.slice a s c) (bytesOf n s) ∧ Below w.heap.size w w' := by
  refine (bytes_good n s w h1 h8 hn).mono ?_
  rintro e w' ⟨rfl, h2, h3⟩
  exact ⟨_, _, rfl, h2, h3⟩

theorem put8_any (m : Nat) (w : World) (hm : m < 18446744073709551616) :
    Calls Tryd.prog 34 #[.int .u64 m, .int .i64 8] w fun e w' => ∃ a c, e = .returned (.tuple #[.slice a 8 c, .int .i64 0]) ∧ OwnB w' w.heap.size (.slice a 8 c) (bytesOf m 8) ∧ Below w.heap.size w w' := by
  refine (put_any m 8 w hm).mono ?_
  rintro e w' ⟨a, n, c, rfl, h2, h3⟩
  have hc : (1 : Int) ≤ 8 ∧ (8 : Int) ≤ 8 ∧ m < 256 ^ (8 : Int).toNat := ⟨by omega, by omega, by simpa using hm⟩
  have e1 : putL m 8 = bytesOf m 8 := by unfold putL; rw [if_pos hc]; rfl
  have e2 : putE m 8 = 0 := by unfold putE; rw [if_pos hc]
  rw [e1] at h2
  have hn := OwnB.len h2
  rw [bytesOf_length] at hn
  subst hn
  exact ⟨a, c, by rw [e2], h2, h3⟩
end Go.Proofs.YtlfchhnkchcjcaaDoor
