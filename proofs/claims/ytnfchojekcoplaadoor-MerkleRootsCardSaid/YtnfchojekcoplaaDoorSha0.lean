/- sha: plain definitions, words of 32 bits -/
import Derived.Test.YtnfchojekcoplaaDoorNum
namespace Go.Proofs.YtnfchojekcoplaaDoor
set_option linter.unusedVariables false
set_option linter.unusedSimpArgs false
open Go.RowKit

abbrev W32 := BitVec 32
/-- A word as a whole number: closed to simp. -/
def val (x : W32) : Int := (x.toNat : Int)
def U (x : W32) : Value := .int .u32 (val x)

theorem val_range (x : W32) : 0 ≤ val x ∧ val x < 4294967296 := by
  have := x.isLt
  unfold val
  omega
theorem val_ofNat (n : Nat) (h : n < 4294967296) : val (BitVec.ofNat 32 n) = (n : Int) := by
  unfold val
  rw [BitVec.toNat_ofNat, Nat.mod_eq_of_lt (by omega)]

theorem val_add (x y : W32) : IntKind.u32.wrap (val x + val y) = val (x + y) := by
  rw [IntKind.wrap_u32]
  unfold val
  rw [BitVec.toNat_add]
  omega
theorem ofInt_val (x : W32) : BitVec.ofInt 32 (val x) = x := by
  unfold val
  simp
theorem wrap_nat (x : W32) : IntKind.u32.wrap (x.toNat : Int) = val x := by
  have := x.isLt
  rw [IntKind.wrap_u32]
  unfold val
  omega
theorem val_xor (x y : W32) : bits .xor .u32 (val x) (val y) = val (x ^^^ y) := by
  have e : bits .xor .u32 (val x) (val y) = IntKind.u32.wrap ((BitVec.ofInt 32 (val x) ^^^ BitVec.ofInt 32 (val y)).toNat : Int) := rfl
  rw [e, ofInt_val, ofInt_val, wrap_nat]
theorem val_and (x y : W32) : bits .and .u32 (val x) (val y) = val (x &&& y) := by
  have e : bits .and .u32 (val x) (val y) = IntKind.u32.wrap ((BitVec.ofInt 32 (val x) &&& BitVec.ofInt 32 (val y)).toNat : Int) := rfl
  rw [e, ofInt_val, ofInt_val, wrap_nat]
theorem val_or (x y : W32) : bits .or .u32 (val x) (val y) = val (x ||| y) := by
  have e : bits .or .u32 (val x) (val y) = IntKind.u32.wrap ((BitVec.ofInt 32 (val x) ||| BitVec.ofInt 32 (val y)).toNat : Int) := rfl
  rw [e, ofInt_val, ofInt_val, wrap_nat]
theorem val_not (x : W32) : bits .xor .u32 4294967295 (val x) = val (~~~x) := by
  have e : bits .xor .u32 4294967295 (val x) = IntKind.u32.wrap ((BitVec.ofInt 32 4294967295 ^^^ BitVec.ofInt 32 (val x)).toNat : Int) := rfl
  have h : BitVec.ofInt 32 4294967295 = BitVec.allOnes 32 := by decide
  rw [e, ofInt_val, h, BitVec.allOnes_xor, wrap_nat]
theorem val_not' (x : W32) : bits .xor .u32 (val x) 4294967295 = val (~~~x) := by
  have e : bits .xor .u32 (val x) 4294967295 = IntKind.u32.wrap ((BitVec.ofInt 32 (val x) ^^^ BitVec.ofInt 32 4294967295).toNat : Int) := rfl
  have h : BitVec.ofInt 32 4294967295 = BitVec.allOnes 32 := by decide
  rw [e, ofInt_val, h, BitVec.xor_allOnes, wrap_nat]
theorem val_shr (x : W32) (k : Nat) : val x / ((2 ^ k : Nat) : Int) = val (x >>> k) := by
  unfold val
  rw [BitVec.toNat_ushiftRight, Nat.shiftRight_eq_div_pow]
  simp
theorem val_shl (x : W32) (k : Nat) : IntKind.u32.wrap (val x * ((2 ^ k : Nat) : Int)) = val (x <<< k) := by
  rw [IntKind.wrap_u32]
  unfold val
  rw [BitVec.toNat_shiftLeft, Nat.shiftLeft_eq]
  simp
/-- A byte as a word. -/
def w8 (x : UInt8) : W32 := BitVec.ofNat 32 x.toNat
theorem val_w8 (x : UInt8) : val (w8 x) = (x.toNat : Int) := val_ofNat _ (by have := x.toNat_lt; omega)
theorem wrap_w8 (x : UInt8) : IntKind.u32.wrap (x.toNat : Int) = val (w8 x) := by
  have := x.toNat_lt
  rw [val_w8, IntKind.wrap_u32]
  omega

/-! ### the digest -/
def rr (x : W32) (n : Nat) : W32 := (x <<< (32 - n)) ||| (x >>> n)
def sg0 (x : W32) : W32 := rr x 7 ^^^ rr x 18 ^^^ (x >>> 3)
def sg1 (x : W32) : W32 := rr x 17 ^^^ rr x 19 ^^^ (x >>> 10)
def at32 (l : List W32) (i : Nat) : W32 := l.getD i 0
def be4 (b : List UInt8) (i : Nat) : W32 := (w8 (b.getD (4 * i) 0) <<< 24) ||| (w8 (b.getD (4 * i + 1) 0) <<< 16) ||| (w8 (b.getD (4 * i + 2) 0) <<< 8) ||| w8 (b.getD (4 * i + 3) 0)
def first16 (b : List UInt8) (n : Nat) : List W32 := (List.range n).map (be4 b)
def nextW (l : List W32) (t : Nat) : W32 := at32 l (t - 16) + at32 l (t - 7) + sg0 (at32 l (t - 15)) + sg1 (at32 l (t - 2))
def sched (b : List UInt8) : Nat → List W32
  | 0 => first16 b 16
  | n + 1 => sched b n ++ [nextW (sched b n) (n + 16)]
def kTab : List W32 := [0x428a2f98, 0x71374491, 0xb5c0fbcf, 0xe9b5dba5, 0x3956c25b, 0x59f111f1, 0x923f82a4, 0xab1c5ed5, 0xd807aa98, 0x12835b01, 0x243185be, 0x550c7dc3, 0x72be5d74, 0x80deb1fe, 0x9bdc06a7, 0xc19bf174, 0xe49b69c1, 0xefbe4786, 0x0fc19dc6, 0x240ca1cc, 0x2de92c6f, 0x4a7484aa, 0x5cb0a9dc, 0x76f988da, 0x983e5152, 0xa831c66d, 0xb00327c8, 0xbf597fc7, 0xc6e00bf3, 0xd5a79147, 0x06ca6351, 0x14292967, 0x27b70a85, 0x2e1b2138, 0x4d2c6dfc, 0x53380d13, 0x650a7354, 0x766a0abb, 0x81c2c92e, 0x92722c85, 0xa2bfe8a1, 0xa81a664b, 0xc24b8b70, 0xc76c51a3, 0xd192e819, 0xd6990624, 0xf40e3585, 0x106aa070, 0x19a4c116, 0x1e376c08, 0x2748774c, 0x34b0bcb5, 0x391c0cb3, 0x4ed8aa4a, 0x5b9cca4f, 0x682e6ff3, 0x748f82ee, 0x78a5636f, 0x84c87814, 0x8cc70208, 0x90befffa, 0xa4506ceb, 0xbef9a3f7, 0xc67178f2]
def iv : List W32 := [0x6a09e667, 0xbb67ae85, 0x3c6ef372, 0xa54ff53a, 0x510e527f, 0x9b05688c, 0x1f83d9ab, 0x5be0cd19]
def rone (s : List W32) (k w : W32) : W32 := at32 s 7 + (rr (at32 s 4) 6 ^^^ rr (at32 s 4) 11 ^^^ rr (at32 s 4) 25) + ((at32 s 4 &&& at32 s 5) ^^^ (~~~(at32 s 4) &&& at32 s 6)) + k + w
def rtwo (s : List W32) : W32 := (rr (at32 s 0) 2 ^^^ rr (at32 s 0) 13 ^^^ rr (at32 s 0) 22) + ((at32 s 0 &&& at32 s 1) ^^^ (at32 s 0 &&& at32 s 2) ^^^ (at32 s 1 &&& at32 s 2))
def rnd (s : List W32) (k w : W32) : List W32 := [rone s k w + rtwo s, at32 s 0, at32 s 1, at32 s 2, at32 s 3 + rone s k w, at32 s 4, at32 s 5, at32 s 6]
def rnds (ws : List W32) (s : List W32) : Nat → List W32
  | 0 => s
  | n + 1 => rnd (rnds ws s n) (at32 kTab n) (at32 ws n)
def compress (s : List W32) (b : List UInt8) : List W32 := List.zipWith (· + ·) s (rnds (sched b 48) s 64)
end Go.Proofs.YtnfchojekcoplaaDoor
