/- codec: the live question -/
import Derived.Test.YtjmmabilpdiohaaGroup
import Derived.BigQuiet
namespace Go.Proofs.Ytjmmabilpdiohaa
set_option linter.unusedVariables false
set_option linter.unusedSimpArgs false
open Go.RowKit

set_option maxRecDepth 100000 in
theorem calive_any (w : World) : Calls Try.prog 10 #[] w fun e w' => e = .returned (.bool true) ∧ Below w.heap.size w w' := by
  go_enter Try.func10, Try.ntmps10
  go_wp2_with (at_make; refine wpList_makeB _ rfl _ _ rfl _ _ _ _ 64 rfl rfl rfl rfl (by decide) ?_)
  intro w1 hown1 hgr1
  have hb1 : Below w.heap.size w w1 := below_grown hgr1 (Nat.le_refl _) (fun g h => by cases h)
  obtain ⟨Z, hZ⟩ : ∃ Z, Z = zeros 64 := ⟨_, rfl⟩
  rw [← hZ] at hown1
  have hZl : Z.length = 64 := by rw [hZ]; rfl
  have HO1 := Lib.hid hown1
  have HB1 := Lib.hid hb1
  have HG : Hid (groupL [(1, 258, Z)] = [0, 1, 1, 0, 0, 1, 2] ++ Z ∧ groupE [(1, 258, Z)] = 0) := Lib.hid (by rw [hZ]; decide)
  have HS : Hid (setNL Z 1 5 = [0, 0, 0, 0, 0, 0, 0, 5] ++ Z.take 56 ∧ setNE Z 1 5 = 0) := Lib.hid (by rw [hZ]; decide)
  have HZ := Lib.hid hZ
  have HZL := Lib.hid hZl
  have hlt := (hown1.lt w.heap.size rfl).2
  clear hown1 hgr1 hb1 hZ hZl
  go_wp2_with fail
  have HW : Hid (WrsIn (w1.alloc (Obj.cells #[Value.int IntKind.i64 1, Value.int IntKind.i64 258, Value.slice (some ⟨w.heap.size, 0, none⟩) 64 64] 47)) (some ⟨w1.heap.size, 0, none⟩) [(1, 258, Z)]) := Lib.hid (fun i hi => by
    have hi0 : i = 0 := by simp at hi; omega
    subst hi0
    have hO := OwnB.rd (HO1.out.alloc (Obj.cells #[Value.int IntKind.i64 1, Value.int IntKind.i64 258, Value.slice (some ⟨w.heap.size, 0, none⟩) 64 64] 47))
    have hl : ([(1, 258, Z)] : List (Int × Int × List UInt8))[0].2.2.length = 64 := HZL.out
    refine ⟨w1.heap.size, 0, some ⟨w.heap.size, 0, none⟩, 64, rfl, by simp, by go_simp, by go_simp, ?_, by rw [hl]; omega, by decide, hO, by simp, by simp⟩
    rw [hl]; go_simp)
  have HBW : Hid (Below w.heap.size w (w1.alloc (Obj.cells #[Value.int IntKind.i64 1, Value.int IntKind.i64 258, Value.slice (some ⟨w.heap.size, 0, none⟩) 64 64] 47))) := Lib.hid (HB1.out.alloc HB1.out.size _)
  generalize w1.alloc (Obj.cells #[Value.int IntKind.i64 1, Value.int IntKind.i64 258, Value.slice (some ⟨w.heap.size, 0, none⟩) 64 64] 47) = W at HW HBW ⊢
  refine (group_any _ _ _ [(1, 258, Z)] _ rfl HW.out).mono ?_
  rintro e w2 ⟨a2, n2, c2, rfl, hown2, hb2⟩
  rw [HG.out.1] at hown2
  rw [HG.out.2]
  have HB2 := Lib.hid (HBW.out.trans (hb2.mono HBW.out.size))
  have hn2 : n2 = 71 := by rw [← hown2.len, List.length_append, HZL.out]; rfl
  obtain ⟨g2, o2, rfl, hn2', hg2a, hg2b, hc2, hcell⟩ := hown2.formS (by simp)
  subst hn2
  have k1 := hcell 1 (by simp)
  have k2 := hcell 2 (by simp)
  have k5 := hcell 5 (by simp)
  have k6 := hcell 6 (by simp)
  have K1 : Hid (w2.cell? ⟨g2, o2 + 1, none⟩ = some (.int .u8 1)) := Lib.hid k1
  have K2 : Hid (w2.cell? ⟨g2, o2 + 2, none⟩ = some (.int .u8 1)) := Lib.hid k2
  have K5 : Hid (w2.cell? ⟨g2, o2 + 5, none⟩ = some (.int .u8 1)) := Lib.hid k5
  have K6 : Hid (w2.cell? ⟨g2, o2 + 6, none⟩ = some (.int .u8 2)) := Lib.hid k6
  clear hcell k1 k2 k5 k6 hown2 hb2 hn2' hc2 HW HBW HO1 HB1 hlt HG
  go_wp2_with (at_make; refine wpList_makeB _ rfl _ _ rfl _ _ _ _ 64 rfl rfl rfl rfl (by decide) ?_)
  intro w3 hown3 hgr3
  have hb3 : Below w2.heap.size w2 w3 := below_grown hgr3 (Nat.le_refl _) (fun g h => by cases h)
  rw [← HZ.out] at hown3
  have HO3 := Lib.hid (OwnB.rd hown3)
  have HB3 := Lib.hid (HB2.out.trans (hb3.mono HB2.out.size))
  have K1 := Lib.hid ((hb3.cell (by exact hg2b)).trans K1.out)
  have K2 := Lib.hid ((hb3.cell (by exact hg2b)).trans K2.out)
  have K5 := Lib.hid ((hb3.cell (by exact hg2b)).trans K5.out)
  have K6 := Lib.hid ((hb3.cell (by exact hg2b)).trans K6.out)
  have hg3 : g2 < w3.heap.size := Nat.lt_of_lt_of_le hg2b hb3.size
  clear hown3 hgr3 hb3 HB2
  go_wp2_with fail
  refine (setnumber_any _ 64 64 Z 1 5 _ HZL.out (by decide) HO3.out (by decide)).mono ?_
  rintro e w4 ⟨a4, n4, c4, rfl, hown4, hb4⟩
  rw [HS.out.1] at hown4
  rw [HS.out.2]
  have hn4 : n4 = 64 := by rw [← hown4.len, List.length_append, List.length_take, HZL.out]; rfl
  obtain ⟨g4, o4, rfl, hn4', hg4a, hg4b, hc4, hcell⟩ := hown4.formS (by simp)
  subst hn4
  have j7 : w4.cell? ⟨g4, o4 + 7, none⟩ = some (.int .u8 5) := hcell 7 (by simp)
  have j1 := (hb4.cell (by exact hg3)).trans K1.out
  have j2 := (hb4.cell (by exact hg3)).trans K2.out
  have j5 := (hb4.cell (by exact hg3)).trans K5.out
  have j6 := (hb4.cell (by exact hg3)).trans K6.out
  have HB4 := Lib.hid (HB3.out.trans (hb4.mono HB3.out.size))
  clear hcell hown4 hb4 hn4' hc4 K1 K2 K5 K6 HS
  go_wp2_with fail
  go_ret
  exact ⟨by simp, HB4.out⟩
end Go.Proofs.Ytjmmabilpdiohaa
