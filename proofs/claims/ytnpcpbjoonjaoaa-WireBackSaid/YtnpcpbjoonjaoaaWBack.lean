/- WireBack: the walk -/
import Derived.Test.YtnpcpbjoonjaoaaBits
namespace Go.Proofs.Ytnpcpbjoonjaoaa
set_option linter.unusedVariables false
set_option linter.unusedSimpArgs false
open Go.RowKit

theorem opt_sent (t : Nat) (ht : t < 4294967296) (data more : List UInt8) (hd : data.length ≤ 1024) :
    optR (ihave ++ bytesOf t 4 ++ bytesOf data.length 4 ++ data ++ more) = (t, data, 16 + data.length, 0) := by
  have l : (ihave ++ bytesOf t 4 ++ bytesOf data.length 4 ++ data).length = 16 + data.length := by simp [ihave, bytesOf_length]; omega
  have e8 : (ihave ++ bytesOf t 4 ++ bytesOf data.length 4 ++ data).drop 8 = bytesOf t 4 ++ (bytesOf data.length 4 ++ data) := by
    rw [List.append_assoc, List.append_assoc]; exact List.drop_left' rfl
  have e12 : (ihave ++ bytesOf t 4 ++ bytesOf data.length 4 ++ data).drop 12 = bytesOf data.length 4 ++ data := by
    rw [List.append_assoc (ihave ++ bytesOf t 4)]; exact List.drop_left' (by simp [ihave, bytesOf_length])
  have e16 : (ihave ++ bytesOf t 4 ++ bytesOf data.length 4 ++ data).drop 16 = data := List.drop_left' (by simp [ihave, bytesOf_length])
  have n8 : numOf (((ihave ++ bytesOf t 4 ++ bytesOf data.length 4 ++ data).drop 8).take 4) = t := by
    rw [e8, List.take_left' (bytesOf_length _ _), numOf_bytesOf]; omega
  have n12 : numOf (((ihave ++ bytesOf t 4 ++ bytesOf data.length 4 ++ data).drop 12).take 4) = data.length := by
    rw [e12, List.take_left' (bytesOf_length _ _), numOf_bytesOf]; omega
  have hb : beginsB (ihave ++ bytesOf t 4 ++ bytesOf data.length 4 ++ data) ihave = true := by
    rw [beginsB, beq_iff_eq, List.append_assoc, List.append_assoc, List.take_left' rfl, List.take_of_length_le (by simp [ihave])]
  rw [opt_more _ more hb (by omega) (by rw [n12]; exact hd) (by rw [n12, l]; omega), n8, n12, e16, List.take_of_length_le (Nat.le_refl _)]

theorem hdr_sent (f t ck at_ len : Nat) (hf : f < 65536) (ht : t < 65536) (hck : ck < 18446744073709551616) (hat : at_ < 18446744073709551616) (hl : len < 4294967296) (more : List UInt8) :
    hdrR (magicH ++ bytesOf f 2 ++ bytesOf t 2 ++ bytesOf ck 8 ++ bytesOf at_ 8 ++ bytesOf len 4 ++ more) = (⟨f, t, ck, at_, len⟩, 28, 0) := by
  obtain ⟨B, hB⟩ : ∃ B, B = magicH ++ bytesOf f 2 ++ bytesOf t 2 ++ bytesOf ck 8 ++ bytesOf at_ 8 ++ bytesOf len 4 := ⟨_, rfl⟩
  have l : B.length = 28 := by rw [hB]; simp [magicH, bytesOf_length]
  have e4 : B.drop 4 = bytesOf f 2 ++ (bytesOf t 2 ++ (bytesOf ck 8 ++ (bytesOf at_ 8 ++ bytesOf len 4))) := by
    rw [hB, List.append_assoc, List.append_assoc, List.append_assoc, List.append_assoc]; exact List.drop_left' rfl
  have e6 : B.drop 6 = bytesOf t 2 ++ (bytesOf ck 8 ++ (bytesOf at_ 8 ++ bytesOf len 4)) := by
    rw [hB, List.append_assoc, List.append_assoc, List.append_assoc]; exact List.drop_left' (by simp [magicH, bytesOf_length])
  have e8 : B.drop 8 = bytesOf ck 8 ++ (bytesOf at_ 8 ++ bytesOf len 4) := by
    rw [hB, List.append_assoc, List.append_assoc]; exact List.drop_left' (by simp [magicH, bytesOf_length])
  have e16 : B.drop 16 = bytesOf at_ 8 ++ bytesOf len 4 := by
    rw [hB, List.append_assoc]; exact List.drop_left' (by simp [magicH, bytesOf_length])
  have e24 : B.drop 24 = bytesOf len 4 := by
    rw [hB]; exact List.drop_left' (by simp [magicH, bytesOf_length])
  have hb : beginsB B magicH = true := by
    rw [beginsB, beq_iff_eq, hB, List.append_assoc, List.append_assoc, List.append_assoc, List.append_assoc, List.take_left' rfl, List.take_of_length_le (by simp [magicH])]
  rw [← hB, hdr_more B more hb (by omega), e4, e6, e8, e16, e24, List.take_left' (bytesOf_length _ _), List.take_left' (bytesOf_length _ _), List.take_left' (bytesOf_length _ _), List.take_left' (bytesOf_length _ _), List.take_of_length_le (by rw [bytesOf_length]; omega)]
  simp only [numOf_bytesOf]
  rw [Nat.mod_eq_of_lt (by exact hf), Nat.mod_eq_of_lt (by exact ht), Nat.mod_eq_of_lt (by exact hck), Nat.mod_eq_of_lt (by exact hat), Nat.mod_eq_of_lt (by exact hl)]

def BytesEx (n s : Nat) (w : World) (e : Ending) (w' : World) : Prop :=
  ∃ a c, e = .returned (.slice a s c) ∧ OwnB w' w.heap.size (.slice a s c) (bytesOf n s) ∧ Below w.heap.size w w'
theorem bytes_ex (n s : Nat) (w : World) (h1 : 1 ≤ s) (h8 : s ≤ 8) (hn : n < 256 ^ s) :
    Calls Try.prog 28 #[.int .u64 n, .int .i64 s] w (BytesEx n s w) := by
  refine (bytes_good n s w h1 h8 hn).mono ?_
  rintro e w' ⟨rfl, h2, h3⟩
  exact ⟨_, _, rfl, h2, h3⟩

abbrev SaidTy : Ty := .st (.pair (.int .i64) (.pair (.int .i64) (.pair (.int .u64) (.pair (.bytes) (.pair (.bool) (.unit))))))
abbrev HdrTy : Ty := .st (.pair (.int .i64) (.pair (.int .i64) (.pair (.int .u64) (.pair (.int .u64) (.pair (.int .i64) (.unit))))))

theorem said_open (cs : Array Value) (x : SaidTy.den) (w : World) (h : SaidTy.reads w (Value.agg cs).cells.toList x) :
    ∃ (A Bv : Int) (ck : Nat) (data : List UInt8) (last : Bool) (ad : Option Addr) (cd : Nat), cs = #[.int .i64 A, .int .i64 Bv, .int .u64 (ck : Int), .slice ad data.length cd, .bool last] ∧
      (Lit.int .i64 A).wf = true ∧ (Lit.int .i64 Bv).wf = true ∧ ck < 18446744073709551616 ∧ BytesIn w ad data.length cd data := by
  obtain ⟨A, Bv, ck, data, last, u⟩ := x
  obtain ⟨cs1, hc1, hA, h⟩ := reads_int h
  obtain ⟨cs2, hc2, hB, h⟩ := reads_int h
  obtain ⟨cs3, hc3, hC, h⟩ := reads_int h
  obtain ⟨ad, nd, cd, cs4, hc4, hD, h⟩ := reads_bytes h
  obtain ⟨cs5, hc5, h⟩ := reads_bool h
  have h5 : cs5 = [] := h
  subst h5; subst hc5; subst hc4; subst hc3; subst hc2
  obtain ⟨n, hn, hlt⟩ := u64_nat ck hC
  have hnd : List.length data = nd := hD.len_eq
  subst hnd
  subst hn
  exact ⟨A, Bv, n, data, last, ad, cd, toArray_of hc1, hA, hB, hlt, hD⟩

theorem hdr_open (cs : Array Value) (x : HdrTy.den) (w : World) (h : HdrTy.reads w (Value.agg cs).cells.toList x) :
    ∃ (f t : Int) (ck at_ : Nat) (len : Int), cs = #[.int .i64 f, .int .i64 t, .int .u64 (ck : Int), .int .u64 (at_ : Int), .int .i64 len] ∧
      (Lit.int .i64 f).wf = true ∧ (Lit.int .i64 t).wf = true ∧ ck < 18446744073709551616 ∧ at_ < 18446744073709551616 ∧ (Lit.int .i64 len).wf = true := by
  obtain ⟨f, t, ck, at_, len, u⟩ := x
  obtain ⟨cs1, hc1, hA, h⟩ := reads_int h
  obtain ⟨cs2, hc2, hB, h⟩ := reads_int h
  obtain ⟨cs3, hc3, hC, h⟩ := reads_int h
  obtain ⟨cs4, hc4, hD, h⟩ := reads_int h
  obtain ⟨cs5, hc5, hE, h⟩ := reads_int h
  have h5 : cs5 = [] := h
  subst h5; subst hc5; subst hc4; subst hc3; subst hc2
  obtain ⟨n, hn, hlt⟩ := u64_nat ck hC
  obtain ⟨n2, hn2, hlt2⟩ := u64_nat at_ hD
  subst hn; subst hn2
  exact ⟨f, t, n, n2, len, toArray_of hc1, hA, hB, hlt, hlt2, hE⟩

set_option maxRecDepth 100000 in
set_option maxHeartbeats 8000000 in
theorem law_WireBack (cs : Array Value) (x : SaidTy.den) (hs : Array Value) (y : HdrTy.den) (am : Option Addr) (nm cm : Nat) (more : List UInt8) (w : World)
    (hx : SaidTy.reads w (Value.agg cs).cells.toList x) (hy : HdrTy.reads w (Value.agg hs).cells.toList y) (h2 : BytesIn w am nm cm more) :
    Calls Try.prog 5 #[.agg cs, .agg hs, .slice am nm cm] w fun e w' => e = .returned (.bool true) ∧ Below w.heap.size w w' := by
  obtain ⟨A, Bv, ck, data, last, ad, cd, rfl, hA, _, _, hD⟩ := said_open cs x w hx
  obtain ⟨fl, ty, hk, at_, len, rfl, hfl, hty, hhk, hat, hlen⟩ := hdr_open hs y w hy
  have hnm := h2.len_eq
  subst hnm
  have hsm := hD.small
  have hcd := hD.le_cap
  have hsm2 := h2.small
  have hcm := h2.le_cap
  have HRD := Lib.hid hD.rd
  have HRM := Lib.hid h2.rd
  have HHK := Lib.hid hhk
  have HAT := Lib.hid hat
  clear hx hy x y hA hfl hty hlen hD h2 hhk hat
  have HB0 : Hid (Below w.heap.size w ((w.alloc (Obj.cells #[.int .i64 A, .int .i64 Bv, .int .u64 (ck : Int), .slice ad data.length cd, .bool last] 25)).alloc (Obj.cells #[.int .i64 fl, .int .i64 ty, .int .u64 (hk : Int), .int .u64 (at_ : Int), .int .i64 len] 41))) := Lib.hid (((Below.refl _ _).alloc (Nat.le_refl _) _).alloc (by simp) _)
  have hs0 : w.heap.size < ((w.alloc (Obj.cells #[.int .i64 A, .int .i64 Bv, .int .u64 (ck : Int), .slice ad data.length cd, .bool last] 25)).alloc (Obj.cells #[.int .i64 fl, .int .i64 ty, .int .u64 (hk : Int), .int .u64 (at_ : Int), .int .i64 len] 41)).heap.size := by simp; omega
  have hs1 : w.heap.size + 1 < ((w.alloc (Obj.cells #[.int .i64 A, .int .i64 Bv, .int .u64 (ck : Int), .slice ad data.length cd, .bool last] 25)).alloc (Obj.cells #[.int .i64 fl, .int .i64 ty, .int .u64 (hk : Int), .int .u64 (at_ : Int), .int .i64 len] 41)).heap.size := by simp
  have s0 : ((w.alloc (Obj.cells #[.int .i64 A, .int .i64 Bv, .int .u64 (ck : Int), .slice ad data.length cd, .bool last] 25)).alloc (Obj.cells #[.int .i64 fl, .int .i64 ty, .int .u64 (hk : Int), .int .u64 (at_ : Int), .int .i64 len] 41)).cell? ⟨w.heap.size, 0, none⟩ = some (.int .i64 A) := by go_simp
  have s3 : ((w.alloc (Obj.cells #[.int .i64 A, .int .i64 Bv, .int .u64 (ck : Int), .slice ad data.length cd, .bool last] 25)).alloc (Obj.cells #[.int .i64 fl, .int .i64 ty, .int .u64 (hk : Int), .int .u64 (at_ : Int), .int .i64 len] 41)).cell? ⟨w.heap.size, 3, none⟩ = some (.slice ad data.length cd) := by go_simp
  have p0 : ((w.alloc (Obj.cells #[.int .i64 A, .int .i64 Bv, .int .u64 (ck : Int), .slice ad data.length cd, .bool last] 25)).alloc (Obj.cells #[.int .i64 fl, .int .i64 ty, .int .u64 (hk : Int), .int .u64 (at_ : Int), .int .i64 len] 41)).cell? ⟨w.heap.size + 1, 0, none⟩ = some (.int .i64 fl) := by go_simp
  have p1 : ((w.alloc (Obj.cells #[.int .i64 A, .int .i64 Bv, .int .u64 (ck : Int), .slice ad data.length cd, .bool last] 25)).alloc (Obj.cells #[.int .i64 fl, .int .i64 ty, .int .u64 (hk : Int), .int .u64 (at_ : Int), .int .i64 len] 41)).cell? ⟨w.heap.size + 1, 1, none⟩ = some (.int .i64 ty) := by go_simp
  have p2 : ((w.alloc (Obj.cells #[.int .i64 A, .int .i64 Bv, .int .u64 (ck : Int), .slice ad data.length cd, .bool last] 25)).alloc (Obj.cells #[.int .i64 fl, .int .i64 ty, .int .u64 (hk : Int), .int .u64 (at_ : Int), .int .i64 len] 41)).cell? ⟨w.heap.size + 1, 2, none⟩ = some (.int .u64 (hk : Int)) := by go_simp
  have p3 : ((w.alloc (Obj.cells #[.int .i64 A, .int .i64 Bv, .int .u64 (ck : Int), .slice ad data.length cd, .bool last] 25)).alloc (Obj.cells #[.int .i64 fl, .int .i64 ty, .int .u64 (hk : Int), .int .u64 (at_ : Int), .int .i64 len] 41)).cell? ⟨w.heap.size + 1, 3, none⟩ = some (.int .u64 (at_ : Int)) := by go_simp
  have p4 : ((w.alloc (Obj.cells #[.int .i64 A, .int .i64 Bv, .int .u64 (ck : Int), .slice ad data.length cd, .bool last] 25)).alloc (Obj.cells #[.int .i64 fl, .int .i64 ty, .int .u64 (hk : Int), .int .u64 (at_ : Int), .int .i64 len] 41)).cell? ⟨w.heap.size + 1, 4, none⟩ = some (.int .i64 len) := by go_simp
  obtain ⟨t, htA, htlt⟩ : ∃ t : Nat, IntKind.u32.wrap A = (t : Int) ∧ t < 4294967296 := ⟨(IntKind.u32.wrap A).toNat, by rw [IntKind.wrap_u32]; omega, by rw [IntKind.wrap_u32]; omega⟩
  obtain ⟨f, hfl, hflt⟩ : ∃ t : Nat, IntKind.u16.wrap fl = (t : Int) ∧ t < 65536 := ⟨(IntKind.u16.wrap fl).toNat, by rw [IntKind.wrap_u16]; omega, by rw [IntKind.wrap_u16]; omega⟩
  obtain ⟨u, htu, hult⟩ : ∃ t : Nat, IntKind.u16.wrap ty = (t : Int) ∧ t < 65536 := ⟨(IntKind.u16.wrap ty).toNat, by rw [IntKind.wrap_u16]; omega, by rw [IntKind.wrap_u16]; omega⟩
  obtain ⟨l, htl, hllt⟩ : ∃ t : Nat, IntKind.u32.wrap len = (t : Int) ∧ t < 4294967296 := ⟨(IntKind.u32.wrap len).toNat, by rw [IntKind.wrap_u32]; omega, by rw [IntKind.wrap_u32]; omega⟩
  have kc := fun (w : World) (C : Array Value) (n c : Nat) => Lib.run_convert_bytes_const (P := Try.prog) w 23 5 C n c Try.underlying23 Try.underlying5
  by_cases hl0 : 1024 < data.length
  · have hl0' : decide ((1024 : Int) < (data.length : Int)) = true := decide_eq_true (by omega)
    go_enter Try.func5, Try.ntmps5
    go_upto_region 1 with (fail)
    generalize ((w.alloc (Obj.cells #[.int .i64 A, .int .i64 Bv, .int .u64 (ck : Int), .slice ad data.length cd, .bool last] 25)).alloc (Obj.cells #[.int .i64 fl, .int .i64 ty, .int .u64 (hk : Int), .int .u64 (at_ : Int), .int .i64 len] 41)) = W0 at HB0 hs0 hs1 s0 s3 p0 p1 p2 p3 p4 ⊢
    have HBW := Lib.hid (Below.refl W0.heap.size W0)
    go_wp2_with fail
    refine (walive_any _).mono ?_
    rintro e wz ⟨rfl, hbz⟩
    have HBZ := Lib.hid (HBW.out.trans (hbz.mono HBW.out.size))
    clear hbz
    go_wp2_with fail
    go_ret
    exact ⟨rfl, HB0.out.trans (HBZ.out.mono (Nat.le_trans (Nat.le_of_lt hs0) (Nat.le_refl _)))⟩
  · have hl0' : decide ((1024 : Int) < (data.length : Int)) = false := decide_eq_false (by omega)
    by_cases hl1 : 4000 < more.length
    · have hl1' : decide ((4000 : Int) < (more.length : Int)) = true := decide_eq_true (by omega)
      go_enter Try.func5, Try.ntmps5
      go_upto_region 1 with (fail)
      generalize ((w.alloc (Obj.cells #[.int .i64 A, .int .i64 Bv, .int .u64 (ck : Int), .slice ad data.length cd, .bool last] 25)).alloc (Obj.cells #[.int .i64 fl, .int .i64 ty, .int .u64 (hk : Int), .int .u64 (at_ : Int), .int .i64 len] 41)) = W0 at HB0 hs0 hs1 s0 s3 p0 p1 p2 p3 p4 ⊢
      have HBW := Lib.hid (Below.refl W0.heap.size W0)
      go_wp2_with fail
      refine (walive_any _).mono ?_
      rintro e wz ⟨rfl, hbz⟩
      have HBZ := Lib.hid (HBW.out.trans (hbz.mono HBW.out.size))
      clear hbz
      go_wp2_with fail
      go_ret
      exact ⟨rfl, HB0.out.trans (HBZ.out.mono (Nat.le_trans (Nat.le_of_lt hs0) (Nat.le_refl _)))⟩
    · have hl1' : decide ((4000 : Int) < (more.length : Int)) = false := decide_eq_false (by omega)
      go_enter Try.func5, Try.ntmps5
      go_upto_region 1 with (fail)
      generalize ((w.alloc (Obj.cells #[.int .i64 A, .int .i64 Bv, .int .u64 (ck : Int), .slice ad data.length cd, .bool last] 25)).alloc (Obj.cells #[.int .i64 fl, .int .i64 ty, .int .u64 (hk : Int), .int .u64 (at_ : Int), .int .i64 len] 41)) = W0 at HB0 hs0 hs1 s0 s3 p0 p1 p2 p3 p4 ⊢
      have HBW := Lib.hid (Below.refl W0.heap.size W0)
      have S0 := Lib.hid s0
      have S3 := Lib.hid s3
      have P0 := Lib.hid p0
      have P1 := Lib.hid p1
      have P2 := Lib.hid p2
      have P3 := Lib.hid p3
      have P4 := Lib.hid p4
      clear s0 s3 p0 p1 p2 p3 p4
      have htw : IntKind.u64.wrap (t : Int) = (t : Int) := by rw [IntKind.wrap_u64]; omega
      have hdw : IntKind.u64.wrap (data.length : Int) = (data.length : Int) := by rw [IntKind.wrap_u64]; omega
      have hfw : IntKind.u64.wrap (f : Int) = (f : Int) := by rw [IntKind.wrap_u64]; omega
      have huw : IntKind.u64.wrap (u : Int) = (u : Int) := by rw [IntKind.wrap_u64]; omega
      have hlw : IntKind.u64.wrap (l : Int) = (l : Int) := by rw [IntKind.wrap_u64]; omega
      have HO : Hid (OwnB (W0.alloc (Obj.cells #[.int .u8 73, .int .u8 72, .int .u8 65, .int .u8 86, .int .u8 69, .int .u8 79, .int .u8 80, .int .u8 84] 5 (8, 9))) W0.heap.size (.slice (some ⟨W0.heap.size, 0, none⟩) 8 8) ihave) := Lib.hid (OwnB.const W0 ihave 8 (by decide) (by decide))
      have HBW := Lib.hid ((Below.refl W0.heap.size W0).alloc (Nat.le_refl _) (Obj.cells #[.int .u8 73, .int .u8 72, .int .u8 65, .int .u8 86, .int .u8 69, .int .u8 79, .int .u8 80, .int .u8 84] 5 (8, 9)))
      have HLN : Hid (ihave.length ≤ 8) := Lib.hid (by decide)
      have s0 := S0.out
      have s3 := S3.out
      go_wp2_with fail
      refine (bytes_ex t 4 _ (by omega) (by omega) (by omega)).mono ?_
      rintro e w1 ⟨ab1, cb1, rfl, hob, hbb⟩
      clear s0 s3
      have HO := Lib.hid (HO.out.below hbb)
      have HBW := Lib.hid (HBW.out.trans (hbb.mono HBW.out.size))
      have HOB := Lib.hid hob
      clear hob hbb
      have hsz := HBW.out.size
      go_wp2_with (at_builtin; refine wpList_app rfl (.tmp 27) (.tmp 32) rfl W0.heap.size _ ihave rfl HO.out _ ab1 4 cb1 (bytesOf t 4) rfl (bytesOf_length _ _) HOB.out.rd (by have := HLN.out; omega) hsz ?_)
      intro v2 w2 hown2 hgr2 hat2
      have hbn := below_app HBW.out HO.out (Nat.le_refl _) hgr2
      obtain ⟨X1, hX1⟩ : ∃ X, ihave ++ (bytesOf t 4) = X := ⟨_, rfl⟩
      rw [hX1] at hown2
      have HLN : Hid (X1.length ≤ 12) := Lib.hid (by rw [← hX1, List.length_append]; have := HLN.out; rw [bytesOf_length]; omega)
      obtain ⟨a2, c2, rfl, _⟩ := hown2.shape
      have HO := Lib.hid hown2
      have HBW := Lib.hid hbn
      have HX1 := Lib.hid hX1
      clear hown2 hgr2 hat2 hbn hX1 hsz
      have s3 := (HBW.out.cell (p := ⟨w.heap.size, 3, none⟩) (by simp; omega)).trans S3.out
      go_wp2_with fail
      refine (bytes_ex data.length 4 _ (by omega) (by omega) (by omega)).mono ?_
      rintro e w3 ⟨ab3, cb3, rfl, hob, hbb⟩
      clear s3
      have HO := Lib.hid (HO.out.below hbb)
      have HBW := Lib.hid (HBW.out.trans (hbb.mono HBW.out.size))
      have HOB := Lib.hid hob
      clear hob hbb
      have hsz := HBW.out.size
      go_wp2_with (at_builtin; refine wpList_app rfl (.tmp 34) (.tmp 39) rfl W0.heap.size _ X1 rfl HO.out _ ab3 4 cb3 (bytesOf data.length 4) rfl (bytesOf_length _ _) HOB.out.rd (by have := HLN.out; omega) hsz ?_)
      intro v4 w4 hown4 hgr4 hat4
      have hbn := below_app HBW.out HO.out (Nat.le_refl _) hgr4
      obtain ⟨X2, hX2⟩ : ∃ X, X1 ++ (bytesOf data.length 4) = X := ⟨_, rfl⟩
      rw [hX2] at hown4
      have HLN : Hid (X2.length ≤ 16) := Lib.hid (by rw [← hX2, List.length_append]; have := HLN.out; rw [bytesOf_length]; omega)
      obtain ⟨a4, c4, rfl, _⟩ := hown4.shape
      have HO := Lib.hid hown4
      have HBW := Lib.hid hbn
      have HX2 := Lib.hid hX2
      clear hown4 hgr4 hat4 hbn hX2 hsz
      have s3 := (HBW.out.cell (p := ⟨w.heap.size, 3, none⟩) (by simp; omega)).trans S3.out
      have HRDx := Lib.hid (HRD.out.below (HB0.out.trans (HBW.out.mono (Nat.le_of_lt hs0))))
      have hsz := HBW.out.size
      go_wp2_with (at_builtin; refine wpList_app rfl (.tmp 41) (.tmp 43) rfl W0.heap.size _ X2 rfl HO.out _ ad data.length cd data rfl rfl HRDx.out (by have := HLN.out; omega) hsz ?_)
      intro v5 w5 hown5 hgr5 hat5
      have hbn := below_app HBW.out HO.out (Nat.le_refl _) hgr5
      obtain ⟨X3, hX3⟩ : ∃ X, X2 ++ data = X := ⟨_, rfl⟩
      rw [hX3] at hown5
      have HLN : Hid (X3.length ≤ 2000) := Lib.hid (by rw [← hX3, List.length_append]; have := HLN.out; omega)
      obtain ⟨a5, c5, rfl, _⟩ := hown5.shape
      have HO := Lib.hid hown5
      have HBW := Lib.hid hbn
      have HX3 := Lib.hid hX3
      clear hown5 hgr5 hat5 hbn hX3 hsz
      clear s3
      have hK : X3.length = 16 + data.length := by
        rw [← HX3.out, ← HX2.out, ← HX1.out]; simp only [List.length_append, bytesOf_length]; show 8 + 4 + 4 + _ = _; omega
      obtain ⟨K, hKK⟩ : ∃ K, 16 + data.length = K := ⟨_, rfl⟩
      rw [hKK] at hK
      have HRMx := Lib.hid (HRM.out.below (HB0.out.trans (HBW.out.mono (Nat.le_of_lt hs0))))
      have HX3K := Lib.hid hK
      have HOK : Hid (∀ X4, X3 ++ more = X4 → optR X4 = (t, data, K, 0)) := Lib.hid (fun X4 h => by
        rw [← h, ← HX3.out, ← HX2.out, ← HX1.out, opt_sent t htlt data more (by omega), hKK])
      clear hK hKK
      have hsz := HBW.out.size
      go_wp2_with (at_builtin; refine wpList_app rfl (.tmp 47) (.tmp 48) rfl W0.heap.size _ X3 rfl HO.out _ am more.length cm more rfl rfl HRMx.out (by have := HLN.out; omega) hsz ?_)
      intro v6 w6 hown6 hgr6 hat6
      have hbn := below_app HBW.out HO.out (Nat.le_refl _) hgr6
      obtain ⟨X4, hX4⟩ : ∃ X, X3 ++ more = X := ⟨_, rfl⟩
      rw [hX4] at hown6
      have HLN : Hid (X4.length ≤ 6000) := Lib.hid (by rw [← hX4, List.length_append]; have := HLN.out; omega)
      obtain ⟨a6, c6, rfl, _⟩ := hown6.shape
      have HO := Lib.hid hown6
      have HBW := Lib.hid hbn
      have HX4 := Lib.hid hX4
      clear hown6 hgr6 hat6 hbn hX4 hsz
      go_wp2_with fail
      refine (takeOpt_any a6 X4.length c6 X4 _ rfl HO.out.capm.1 HO.out.capm.2 HO.out.rd).mono ?_
      rintro e w7 ⟨a7, n7, c7, rfl, hown7, hb7⟩
      rw [HOK.out X4 HX4.out] at hown7 ⊢
      simp only at hown7
      have hn7 := hown7.len
      subst hn7
      have p0 := ((HBW.out.trans (hb7.mono HBW.out.size)).cell (p := ⟨w.heap.size + 1, 0, none⟩) (by simp; omega)).trans P0.out
      have hw7 : w.heap.size + 1 < w7.heap.size := Nat.lt_of_lt_of_le hs1 (HBW.out.trans (hb7.mono HBW.out.size)).size
      have hw7b : w.heap.size < w7.heap.size := by omega
      have hb8 : Below W0.heap.size W0 (w7.alloc (Obj.cells #[Value.int IntKind.i64 (t : Int), Value.slice a7 data.length c7] 36)) := (HBW.out.trans (hb7.mono HBW.out.size)).alloc (HBW.out.trans (hb7.mono HBW.out.size)).size _
      have q1 := conv_rd (hown7.rd.alloc (Nat.le_refl _) (Obj.cells #[Value.int IntKind.i64 (t : Int), Value.slice a7 data.length c7] 36)) data.length c7 rfl
      have q2 := conv_rd (HRD.out.below (HB0.out.trans (hb8.mono (Nat.le_of_lt hs0)))) data.length cd rfl
      have HBW := Lib.hid hb8
      have s0 := (HBW.out.cell (p := ⟨w.heap.size, 0, none⟩) (by simp; omega)).trans S0.out
      have s3 := (HBW.out.cell (p := ⟨w.heap.size, 3, none⟩) (by simp; omega)).trans S3.out
      have k0 : (w7.alloc (Obj.cells #[Value.int IntKind.i64 (t : Int), Value.slice a7 data.length c7] 36)).cell? ⟨w7.heap.size, 0, none⟩ = some (.int .i64 (t : Int)) := by go_simp
      have k1 : (w7.alloc (Obj.cells #[Value.int IntKind.i64 (t : Int), Value.slice a7 data.length c7] 36)).cell? ⟨w7.heap.size, 1, none⟩ = some (.slice a7 data.length c7) := by go_simp
      have hx3 := HX3K.out
      have hiw : IntKind.i64.wrap (t : Int) = (t : Int) := IntWalk.i64_in _ (by omega)
      obtain ⟨W8, hW8⟩ : ∃ W, W = w7.alloc (Obj.cells #[Value.int IntKind.i64 (t : Int), Value.slice a7 data.length c7] 36) := ⟨_, rfl⟩
      clear hown7 hb7 hb8
      have HO : Hid (OwnB ((w7.alloc (Obj.cells #[Value.int IntKind.i64 (t : Int), Value.slice a7 data.length c7] 36)).alloc (Obj.cells #[.int .u8 37, .int .u8 96, .int .u8 149, .int .u8 19] 5 (4, 5))) W0.heap.size (.slice (some ⟨w7.heap.size + 1, 0, none⟩) 4 4) magicH) := Lib.hid (by
        have h := OwnB.const (w7.alloc (Obj.cells #[Value.int IntKind.i64 (t : Int), Value.slice a7 data.length c7] 36)) magicH 4 (by decide) (by decide)
        have e : (w7.alloc (Obj.cells #[Value.int IntKind.i64 (t : Int), Value.slice a7 data.length c7] 36)).heap.size = w7.heap.size + 1 := by simp
        rw [e] at h
        exact h.base_mono (by have := HBW.out.size; simp at this; omega))
      have HBW := Lib.hid (HBW.out.alloc HBW.out.size (Obj.cells #[.int .u8 37, .int .u8 96, .int .u8 149, .int .u8 19] 5 (4, 5)))
      have HLN : Hid (magicH.length ≤ 4) := Lib.hid (by decide)
      have kc2 := kc (w7.alloc (Obj.cells #[Value.int IntKind.i64 (t : Int), Value.slice a7 data.length c7] 36)) #[.int .u8 37, .int .u8 96, .int .u8 149, .int .u8 19] 4 4
      rw [show (w7.alloc (Obj.cells #[Value.int IntKind.i64 (t : Int), Value.slice a7 data.length c7] 36)).heap.size = w7.heap.size + 1 by simp] at kc2
      go_wp2_with fail
      clear kc2
      clear q1 q2 s0 s3 k0 k1 hx3 hiw p0 hW8
      refine (bytes_ex f 2 _ (by omega) (by omega) (by omega)).mono ?_
      rintro e w8 ⟨ab8, cb8, rfl, hob, hbb⟩
      have HO := Lib.hid (HO.out.below hbb)
      have HBW := Lib.hid (HBW.out.trans (hbb.mono HBW.out.size))
      have HOB := Lib.hid hob
      clear hob hbb
      have hsz := HBW.out.size
      go_wp2_with (at_builtin; refine wpList_app rfl (.tmp 82) (.tmp 87) rfl W0.heap.size _ magicH rfl HO.out _ ab8 2 cb8 (bytesOf f 2) rfl (bytesOf_length _ _) HOB.out.rd (by have := HLN.out; omega) hsz ?_)
      intro v9 w9 hown9 hgr9 hat9
      have hbn := below_app HBW.out HO.out (Nat.le_refl _) hgr9
      obtain ⟨Y1, hY1⟩ : ∃ X, magicH ++ (bytesOf f 2) = X := ⟨_, rfl⟩
      rw [hY1] at hown9
      have HLN : Hid (Y1.length ≤ 6) := Lib.hid (by rw [← hY1, List.length_append]; have := HLN.out; rw [bytesOf_length]; omega)
      obtain ⟨a9, c9, rfl, _⟩ := hown9.shape
      have HO := Lib.hid hown9
      have HBW := Lib.hid hbn
      have HY1 := Lib.hid hY1
      clear hown9 hgr9 hat9 hbn hY1 hsz
      have p1 := (HBW.out.cell (p := ⟨w.heap.size + 1, 1, none⟩) (by simp; omega)).trans P1.out
      go_wp2_with fail
      refine (bytes_ex u 2 _ (by omega) (by omega) (by omega)).mono ?_
      rintro e w10 ⟨ab10, cb10, rfl, hob, hbb⟩
      clear p1
      have HO := Lib.hid (HO.out.below hbb)
      have HBW := Lib.hid (HBW.out.trans (hbb.mono HBW.out.size))
      have HOB := Lib.hid hob
      clear hob hbb
      have hsz := HBW.out.size
      go_wp2_with (at_builtin; refine wpList_app rfl (.tmp 89) (.tmp 94) rfl W0.heap.size _ Y1 rfl HO.out _ ab10 2 cb10 (bytesOf u 2) rfl (bytesOf_length _ _) HOB.out.rd (by have := HLN.out; omega) hsz ?_)
      intro v11 w11 hown11 hgr11 hat11
      have hbn := below_app HBW.out HO.out (Nat.le_refl _) hgr11
      obtain ⟨Y2, hY2⟩ : ∃ X, Y1 ++ (bytesOf u 2) = X := ⟨_, rfl⟩
      rw [hY2] at hown11
      have HLN : Hid (Y2.length ≤ 8) := Lib.hid (by rw [← hY2, List.length_append]; have := HLN.out; rw [bytesOf_length]; omega)
      obtain ⟨a11, c11, rfl, _⟩ := hown11.shape
      have HO := Lib.hid hown11
      have HBW := Lib.hid hbn
      have HY2 := Lib.hid hY2
      clear hown11 hgr11 hat11 hbn hY2 hsz
      have p2 := (HBW.out.cell (p := ⟨w.heap.size + 1, 2, none⟩) (by simp; omega)).trans P2.out
      go_wp2_with fail
      refine (bytes_ex hk 8 _ (by omega) (by omega) (by exact HHK.out)).mono ?_
      rintro e w12 ⟨ab12, cb12, rfl, hob, hbb⟩
      clear p2
      have HO := Lib.hid (HO.out.below hbb)
      have HBW := Lib.hid (HBW.out.trans (hbb.mono HBW.out.size))
      have HOB := Lib.hid hob
      clear hob hbb
      have hsz := HBW.out.size
      go_wp2_with (at_builtin; refine wpList_app rfl (.tmp 96) (.tmp 99) rfl W0.heap.size _ Y2 rfl HO.out _ ab12 8 cb12 (bytesOf hk 8) rfl (bytesOf_length _ _) HOB.out.rd (by have := HLN.out; omega) hsz ?_)
      intro v13 w13 hown13 hgr13 hat13
      have hbn := below_app HBW.out HO.out (Nat.le_refl _) hgr13
      obtain ⟨Y3, hY3⟩ : ∃ X, Y2 ++ (bytesOf hk 8) = X := ⟨_, rfl⟩
      rw [hY3] at hown13
      have HLN : Hid (Y3.length ≤ 16) := Lib.hid (by rw [← hY3, List.length_append]; have := HLN.out; rw [bytesOf_length]; omega)
      obtain ⟨a13, c13, rfl, _⟩ := hown13.shape
      have HO := Lib.hid hown13
      have HBW := Lib.hid hbn
      have HY3 := Lib.hid hY3
      clear hown13 hgr13 hat13 hbn hY3 hsz
      have p3 := (HBW.out.cell (p := ⟨w.heap.size + 1, 3, none⟩) (by simp; omega)).trans P3.out
      go_wp2_with fail
      refine (bytes_ex at_ 8 _ (by omega) (by omega) (by exact HAT.out)).mono ?_
      rintro e w14 ⟨ab14, cb14, rfl, hob, hbb⟩
      clear p3
      have HO := Lib.hid (HO.out.below hbb)
      have HBW := Lib.hid (HBW.out.trans (hbb.mono HBW.out.size))
      have HOB := Lib.hid hob
      clear hob hbb
      have hsz := HBW.out.size
      go_wp2_with (at_builtin; refine wpList_app rfl (.tmp 101) (.tmp 104) rfl W0.heap.size _ Y3 rfl HO.out _ ab14 8 cb14 (bytesOf at_ 8) rfl (bytesOf_length _ _) HOB.out.rd (by have := HLN.out; omega) hsz ?_)
      intro v15 w15 hown15 hgr15 hat15
      have hbn := below_app HBW.out HO.out (Nat.le_refl _) hgr15
      obtain ⟨Y4, hY4⟩ : ∃ X, Y3 ++ (bytesOf at_ 8) = X := ⟨_, rfl⟩
      rw [hY4] at hown15
      have HLN : Hid (Y4.length ≤ 24) := Lib.hid (by rw [← hY4, List.length_append]; have := HLN.out; rw [bytesOf_length]; omega)
      obtain ⟨a15, c15, rfl, _⟩ := hown15.shape
      have HO := Lib.hid hown15
      have HBW := Lib.hid hbn
      have HY4 := Lib.hid hY4
      clear hown15 hgr15 hat15 hbn hY4 hsz
      have p4 := (HBW.out.cell (p := ⟨w.heap.size + 1, 4, none⟩) (by simp; omega)).trans P4.out
      go_wp2_with fail
      refine (bytes_ex l 4 _ (by omega) (by omega) (by omega)).mono ?_
      rintro e w16 ⟨ab16, cb16, rfl, hob, hbb⟩
      clear p4
      have HO := Lib.hid (HO.out.below hbb)
      have HBW := Lib.hid (HBW.out.trans (hbb.mono HBW.out.size))
      have HOB := Lib.hid hob
      clear hob hbb
      have hsz := HBW.out.size
      go_wp2_with (at_builtin; refine wpList_app rfl (.tmp 106) (.tmp 111) rfl W0.heap.size _ Y4 rfl HO.out _ ab16 4 cb16 (bytesOf l 4) rfl (bytesOf_length _ _) HOB.out.rd (by have := HLN.out; omega) hsz ?_)
      intro v17 w17 hown17 hgr17 hat17
      have hbn := below_app HBW.out HO.out (Nat.le_refl _) hgr17
      obtain ⟨Y5, hY5⟩ : ∃ X, Y4 ++ (bytesOf l 4) = X := ⟨_, rfl⟩
      rw [hY5] at hown17
      have HLN : Hid (Y5.length ≤ 28) := Lib.hid (by rw [← hY5, List.length_append]; have := HLN.out; rw [bytesOf_length]; omega)
      obtain ⟨a17, c17, rfl, _⟩ := hown17.shape
      have HO := Lib.hid hown17
      have HBW := Lib.hid hbn
      have HY5 := Lib.hid hY5
      clear hown17 hgr17 hat17 hbn hY5 hsz
      have HRMx := Lib.hid (HRM.out.below (HB0.out.trans (HBW.out.mono (Nat.le_of_lt hs0))))
      have hsz := HBW.out.size
      go_wp2_with (at_builtin; refine wpList_app rfl (.tmp 113) (.tmp 114) rfl W0.heap.size _ Y5 rfl HO.out _ am more.length cm more rfl rfl HRMx.out (by have := HLN.out; omega) hsz ?_)
      intro v18 w18 hown18 hgr18 hat18
      have hbn := below_app HBW.out HO.out (Nat.le_refl _) hgr18
      obtain ⟨Y6, hY6⟩ : ∃ X, Y5 ++ more = X := ⟨_, rfl⟩
      rw [hY6] at hown18
      have HLN : Hid (Y6.length ≤ 6000) := Lib.hid (by rw [← hY6, List.length_append]; have := HLN.out; omega)
      obtain ⟨a18, c18, rfl, _⟩ := hown18.shape
      have HO := Lib.hid hown18
      have HBW := Lib.hid hbn
      have HY6 := Lib.hid hY6
      clear hown18 hgr18 hat18 hbn hY6 hsz
      have HHR : Hid (hdrR Y6 = (⟨f, u, hk, at_, l⟩, 28, 0)) := Lib.hid (by
        rw [← HY6.out, ← HY5.out, ← HY4.out, ← HY3.out, ← HY2.out, ← HY1.out]; exact hdr_sent f u hk at_ l hflt hult HHK.out HAT.out hllt more)
      go_wp2_with fail
      refine (takeHdr_any a18 Y6.length c18 Y6 _ rfl HO.out.capm.1 HO.out.capm.2 HO.out.rd).mono ?_
      rintro e w19 ⟨rfl, hb19⟩
      rw [HHR.out]
      have hb20 : Below W0.heap.size W0 (w19.alloc (Obj.cells #[Value.int IntKind.i64 (f : Int), Value.int IntKind.i64 (u : Int), Value.int IntKind.u64 (hk : Int), Value.int IntKind.u64 (at_ : Int), Value.int IntKind.i64 (l : Int)] 41)) := (HBW.out.trans (hb19.mono HBW.out.size)).alloc (HBW.out.trans (hb19.mono HBW.out.size)).size _
      have HBW := Lib.hid hb20
      clear hb19 hb20
      simp only [Hdr.val]
      go_wp2_with fail
      refine (walive_any _).mono ?_
      rintro e wz ⟨rfl, hbz⟩
      have j0 : wz.cell? ⟨w19.heap.size, 0, none⟩ = some (.int .i64 (f : Int)) := (hbz.cell (by simp)).trans (by go_simp)
      have j1 : wz.cell? ⟨w19.heap.size, 1, none⟩ = some (.int .i64 (u : Int)) := (hbz.cell (by simp)).trans (by go_simp)
      have j2 : wz.cell? ⟨w19.heap.size, 2, none⟩ = some (.int .u64 (hk : Int)) := (hbz.cell (by simp)).trans (by go_simp)
      have j3 : wz.cell? ⟨w19.heap.size, 3, none⟩ = some (.int .u64 (at_ : Int)) := (hbz.cell (by simp)).trans (by go_simp)
      have j4 : wz.cell? ⟨w19.heap.size, 4, none⟩ = some (.int .i64 (l : Int)) := (hbz.cell (by simp)).trans (by go_simp)
      have HBZ := Lib.hid (HBW.out.trans (hbz.mono HBW.out.size))
      clear hbz
      have HBW := HBZ
      have p0 := (HBW.out.cell (p := ⟨w.heap.size + 1, 0, none⟩) (by simp; omega)).trans P0.out
      have p1 := (HBW.out.cell (p := ⟨w.heap.size + 1, 1, none⟩) (by simp; omega)).trans P1.out
      have p2 := (HBW.out.cell (p := ⟨w.heap.size + 1, 2, none⟩) (by simp; omega)).trans P2.out
      have p3 := (HBW.out.cell (p := ⟨w.heap.size + 1, 3, none⟩) (by simp; omega)).trans P3.out
      have p4 := (HBW.out.cell (p := ⟨w.heap.size + 1, 4, none⟩) (by simp; omega)).trans P4.out
      have i1 : IntKind.i64.wrap (f : Int) = (f : Int) := IntWalk.i64_in _ (by omega)
      have i2 : IntKind.i64.wrap (u : Int) = (u : Int) := IntWalk.i64_in _ (by omega)
      have i3 : IntKind.i64.wrap (l : Int) = (l : Int) := IntWalk.i64_in _ (by omega)
      go_wp2_with fail
      go_ret
      exact ⟨rfl, HB0.out.trans (HBZ.out.mono (Nat.le_of_lt hs0))⟩
end Go.Proofs.Ytnpcpbjoonjaoaa
