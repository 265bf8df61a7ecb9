/- shake: the live question, what is fit -/
import Derived.Test.YtnpcpbjoonjaoaaSkH
namespace Go.Proofs.Ytnpcpbjoonjaoaa
set_option linter.unusedVariables false
set_option linter.unusedSimpArgs false
open Go.RowKit

theorem new_sk (nm : List UInt8) (sec : Nat) (ro : Bool) (w : World) :
    Calls Try.prog 35 #[.string ⟨nm.toArray⟩, .int .i64 (sec : Int), .bool ro] w fun e w' => e = .returned (.pointer (some ⟨w.heap.size, 0, none⟩)) ∧ SkAt w' w.heap.size ⟨nm, sec, ro, 0, false, false⟩ ∧ Below w.heap.size w w' := by
  go_enter Try.func35, Try.ntmps35
  go_wp2_with fail
  go_ret
  exact ⟨rfl, Blk.new w 85 (Sk.cells ⟨nm, sec, ro, 0, false, false⟩), (Below.refl _ _).alloc (Nat.le_refl _) _⟩

theorem phase_any (g : Nat) (s : Sk) (w : World) (hb : SkAt w g s) :
    Calls Try.prog 38 #[.pointer (some ⟨g, 0, none⟩)] w fun e w' => e = .returned (.int .i64 (s.phase : Int)) ∧ w = w' := by
  have k3 : w.cell? ⟨g, 3, none⟩ = some (.int .i64 (s.phase : Int)) := hb.cell 3 _ rfl
  clear hb
  go_enter Try.func38, Try.ntmps38
  go_wp2_with fail
  go_ret
  exact ⟨rfl, rfl⟩
theorem phase_nil (w : World) : Calls Try.prog 38 #[.pointer none] w fun e w' => e = .returned (.int .i64 3) ∧ w = w' := by
  go_enter Try.func38, Try.ntmps38
  go_wp2_with fail
  go_ret
  exact ⟨rfl, rfl⟩
theorem structured_any (g : Nat) (s : Sk) (w : World) (hb : SkAt w g s) :
    Calls Try.prog 40 #[.pointer (some ⟨g, 0, none⟩)] w fun e w' => e = .returned (.bool s.st) ∧ w = w' := by
  have k4 : w.cell? ⟨g, 4, none⟩ = some (.bool s.st) := hb.cell 4 _ rfl
  clear hb
  go_enter Try.func40, Try.ntmps40
  go_wp2_with fail
  go_ret
  exact ⟨rfl, rfl⟩
theorem structured_nil (w : World) : Calls Try.prog 40 #[.pointer none] w fun e w' => e = .returned (.bool false) ∧ w = w' := by
  go_enter Try.func40, Try.ntmps40
  go_wp2_with fail
  go_ret
  exact ⟨rfl, rfl⟩
theorem feed_nil (a : Option Addr) (n c : Nat) (w : World) : Calls Try.prog 36 #[.pointer none, .slice a n c] w fun e w' => e = .returned (.tuple #[.slice none 0 0, .int .i64 0]) ∧ w = w' := by
  go_enter Try.func36, Try.ntmps36
  go_wp2_with fail
  go_loopw [6, 7] (fun v vi wr => v = .slice none 0 0 ∧ vi = .int .i64 0 ∧ wr = w) (fun _ _ _ => 0)
  case atStart => exact ⟨rfl, rfl, rfl⟩
  case round =>
    obtain ⟨rfl, rfl, rfl⟩ := hrel
    go_wp2_with fail
    refine bodyPost_ret (v := .tuple #[.slice none 0 0, .int .i64 0]) (by simp [results, Try.results36, go_sem]) rfl ?_
    exact ⟨rfl, rfl⟩

def skLit : List UInt8 := [0, 0, 0, 3, 73, 72, 65, 86, 69, 79, 80, 84, 0, 0, 0, 1, 0, 0, 0, 1, 118, 63]
theorem alive_sk : (feedR ⟨[118], 2, false, 0, false, false⟩ skLit).2.1 = [0, 0, 0, 0, 0, 0, 0, 128, 1, 109] ∧ (feedR ⟨[118], 2, false, 0, false, false⟩ skLit).2.2 = 21 ∧ (feedR ⟨[118], 2, false, 0, false, false⟩ skLit).1.phase = 2 := by decide +kernel

set_option maxHeartbeats 1000000 in
theorem skalive_any (w : World) : Calls Try.prog 33 #[] w fun e w' => e = .returned (.bool true) ∧ Below w.heap.size w w' := by
  go_enter Try.func33, Try.ntmps33
  go_wp2_with fail
  refine (new_sk [118] 2 false w).mono ?_
  rintro e w1 ⟨rfl, hk1, hb1⟩
  have HK1 := Lib.hid hk1
  have HB1 := Lib.hid hb1
  have kc := fun (w : World) (C : Array Value) (n c : Nat) => Lib.run_convert_bytes_const (P := Try.prog) w 23 5 C n c Try.underlying23 Try.underlying5
  have hgl := hk1.lt
  have r1 := OwnB.const w1 skLit 22 (by decide) (by decide)
  have hb2 : Below w1.heap.size w1 (w1.alloc (.cells (bs skLit).toArray 5 (22, 23))) := (Below.refl _ _).alloc (Nat.le_refl _) _
  have hF := feed_any w.heap.size ⟨[118], 2, false, 0, false, false⟩ (some ⟨w1.heap.size, 0, none⟩) 22 22 skLit (w1.alloc (.cells (bs skLit).toArray 5 (22, 23))) (Blk.below hk1 hb2) (by show 2 ≤ 8192; omega) (by simp) rfl (Nat.le_refl _) (by omega) (OwnB.rd r1) (.inr fun ad had => by injection had with had; subst had; show w1.heap.size ≠ w.heap.size; omega) (by omega)
  obtain ⟨A1, A2, A3⟩ := alive_sk
  generalize feedR ⟨[118], 2, false, 0, false, false⟩ skLit = fr at hF A1 A2 A3
  obtain ⟨s2, out, m⟩ := fr
  simp only at A1 A2 A3
  subst A1; subst A2
  have HF := Lib.hid hF
  have H3 := Lib.hid A3
  have HB2 := Lib.hid (hb1.trans (hb2.mono hb1.size))
  clear hk1 hb1 r1 hb2 hF A3
  go_wp2_with fail
  refine HF.out.mono ?_
  rintro e w3 ⟨a3, m3, c3, rfl, hown3, hk3, hg3⟩
  simp only at hown3 hk3 ⊢
  have hm3 := OwnB.len hown3
  have hm3 : 10 = m3 := hm3
  subst hm3
  obtain ⟨b3, o3, rfl, _, q7⟩ := (OwnB.rd hown3).byte 7 (by simp)
  obtain ⟨b4, o4, he4, _, q8⟩ := (OwnB.rd hown3).byte 8 (by simp)
  obtain ⟨b5, o5, he5, _, q9⟩ := (OwnB.rd hown3).byte 9 (by simp)
  simp only [Option.some.injEq, Addr.mk.injEq, and_true] at he4 he5
  obtain ⟨rfl, rfl⟩ := he4
  obtain ⟨rfl, rfl⟩ := he5
  have q7 : w3.cell? ⟨b3, o3 + 7, none⟩ = some (.int .u8 128) := q7
  have q8 : w3.cell? ⟨b3, o3 + 8, none⟩ = some (.int .u8 1) := q8
  have q9 : w3.cell? ⟨b3, o3 + 9, none⟩ = some (.int .u8 109) := q9
  have HP := Lib.hid (phase_any w.heap.size s2 w3 hk3)
  rw [H3.out] at HP
  have HBE : Hid (Below w.heap.size w w3) := Lib.hid (HB2.out.grown hg3 HB2.out.size (fun z hz => by injection hz with hz; omega))
  clear hown3 hk3 hg3 HF kc
  go_wp2_with fail
  refine HP.out.mono ?_
  rintro e w4 ⟨rfl, rfl⟩
  go_wp2_with fail
  go_ret
  exact ⟨rfl, HBE.out⟩

/-- No handshake. -/
theorem law_ShakeNil (a : Option Addr) (n c : Nat) (l : List UInt8) (W : World) (h : BytesIn W a n c l) :
    Calls Try.prog 10 #[.slice a n c] W fun e w' => e = .returned (.bool true) ∧ Below W.heap.size W w' := by
  clear h
  go_enter Try.func10, Try.ntmps10
  go_wp2_with fail
  refine (feed_nil a n c W).mono ?_
  rintro e w1 ⟨rfl, rfl⟩
  go_wp2_with fail
  refine (skalive_any _).mono ?_
  rintro e w2 ⟨rfl, hb2⟩
  have HB2 := Lib.hid hb2
  clear hb2
  go_wp2_with fail
  refine (phase_nil _).mono ?_
  rintro e w3 ⟨rfl, rfl⟩
  go_wp2_with fail
  refine (structured_nil _).mono ?_
  rintro e w3 ⟨rfl, rfl⟩
  go_wp2_with fail
  go_ret
  exact ⟨rfl, HB2.out⟩
end Go.Proofs.Ytnpcpbjoonjaoaa
