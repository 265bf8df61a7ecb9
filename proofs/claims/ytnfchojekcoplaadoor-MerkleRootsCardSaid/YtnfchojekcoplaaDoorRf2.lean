/- the document's padding -/
import Derived.Test.YtnfchojekcoplaaDoorRf1
namespace Go.Proofs.YtnfchojekcoplaaDoor
set_option linter.unusedVariables false
set_option linter.unusedSimpArgs false
open Go.RowKit

set_option maxHeartbeats 1000000 in
theorem padded_any (b : List UInt8) (a : Option Addr) (n c : Nat) (w : World) (hl : b.length = n) (hn : n ≤ 140737488352000) (hr : Rd w w.heap.size a (bs b)) :
    Calls Tryd.prog 32 #[.slice a n c] w fun e w' => ∃ a' n' c', e = .returned (.slice a' n' c') ∧ OwnB w' w.heap.size (.slice a' n' c') (shaPad b) ∧ Below w.heap.size w w' := by
  have HL := Lib.hid hl
  have HR := Lib.hid hr
  have HN := Lib.hid hn
  have HRW : Hid (Rd (w.alloc (.cells #[] 5)) w.heap.size a (bs b)) := Lib.hid (hr.alloc (Nat.le_refl _) _)
  have S1 : Hid (([] : List UInt8).length + n ≤ 140737488355328) := Lib.hid (by simp; omega)
  have S2 : Hid (w.heap.size ≤ (w.alloc (.cells #[] 5)).heap.size) := Lib.hid (by rw [World.size_alloc]; omega)
  clear hl hr hn
  go_enter Tryd.func32, Tryd.ntmps32
  go_wp2_with (at_builtin; refine wpList_app rfl _ _ rfl w.heap.size _ [] rfl (OwnB.lit0 w) w.heap.size a n c b rfl HL.out HRW.out S1.out S2.out ?_)
  intro v1 w1 hown1 hgr1 hat1
  have hb1 := below_app ((Below.refl w.heap.size w).alloc (Nat.le_refl _) (.cells #[] 5)) (OwnB.lit0 w) (Nat.le_refl _) hgr1
  have hown1' : OwnB w1 w.heap.size v1 b := hown1
  have HO1 : Hid (OwnB (w1.alloc (Obj.cells #[Value.int .u8 128] 5)) w.heap.size v1 b) := Lib.hid (OwnG.alloc hown1' _)
  have HB1 : Hid (Below w.heap.size w (w1.alloc (Obj.cells #[Value.int .u8 128] 5))) := Lib.hid (hb1.alloc hb1.size _)
  have R3 : Hid (Rd (w1.alloc (Obj.cells #[Value.int .u8 128] 5)) (w1.heap.size + 1) (some ⟨w1.heap.size, 0, none⟩) (bs [128])) := Lib.hid (Rd.new w1 (bs [128]) 5)
  have S3 : Hid (b.length + 1 ≤ 140737488355328) := Lib.hid (by have := HL.out; have := HN.out; omega)
  clear hown1 hown1' hgr1 hat1 hb1
  go_wp2_with (at_builtin; refine wpList_app rfl _ _ rfl w.heap.size _ b rfl HO1.out (w1.heap.size + 1) (some ⟨w1.heap.size, 0, none⟩) 1 1 [128] rfl rfl R3.out S3.out HB1.out.size ?_)
  intro v2 w2 hown2 hgr2 hat2
  have HB2 := Lib.hid (below_app HB1.out HO1.out (Nat.le_refl _) hgr2)
  have HO2 := Lib.hid hown2
  clear hown2 hgr2 hat2 HO1 HB1
  go_wp2_with fail
  go_loopw [3] (fun v wr => ∃ z, z ≤ padZ n ∧ OwnB wr w.heap.size v (b ++ [128] ++ List.replicate z 0) ∧ Below w.heap.size w wr) (fun v _ => n + 1 + padZ n - (match v with | .slice _ n _ => n | _ => 0))
  case atStart => exact ⟨0, Nat.zero_le _, by simpa using HO2.out, HB2.out⟩
  case round =>
    clear HO2 HB2
    obtain ⟨z, hz, hown, hb⟩ := hrel
    obtain ⟨av, cv, rfl, hcv⟩ := OwnG.shape hown
    have hNl : (b ++ [128] ++ List.replicate z 0).length = n + 1 + z := by rw [List.length_append, List.length_append, HL.out, List.length_replicate]; rfl
    rw [hNl] at hown hcv ⊢
    have HZ := Lib.hid hz
    have HOW : Hid (OwnB wr w.heap.size (.slice av (n + 1 + z) cv) (b ++ [128] ++ List.replicate z 0)) := Lib.hid hown
    have HBW := Lib.hid hb
    clear hown hb hcv hz hNl
    obtain ⟨N, hN⟩ : ∃ N, n + 1 + z = N := ⟨_, rfl⟩
    rw [hN] at HOW ⊢
    have HNN2 := Lib.hid hN
    clear hN
    have hP := padZ_mod n
    by_cases hzz : z < padZ n
    · have hF := padZ_first n z hzz
      have t1 : ((N : Int) % 64 != 56) = true := by
        have h1 := HNN2.out
        simp only [bne_iff_ne, ne_eq]
        omega
      have hzl : z < 64 := Nat.lt_trans hzz (padZ_lt _)
      have S4 : Hid ((b ++ [128] ++ List.replicate z 0).length + 1 ≤ 140737488355328) := Lib.hid (by
        rw [List.length_append, List.length_append, HL.out, List.length_replicate]
        have := HN.out
        simp; omega)
      have S5 : w.heap.size ≤ (wr.alloc (Obj.cells #[Value.int IntKind.u8 0] 5)).heap.size := by rw [World.size_alloc]; have := HBW.out.size; omega
      have HZZ := Lib.hid hzz
      clear hF hP hzz hzl
      go_wp2_with (at_builtin; refine wpList_app rfl _ _ rfl w.heap.size _ _ rfl (HOW.out.alloc _) (wr.heap.size + 1) (some ⟨wr.heap.size, 0, none⟩) 1 1 [0] rfl rfl (Rd.new wr (bs [0]) 5) S4.out S5 ?_)
      intro v5 w5 hown5 hgr5 hat5
      have hb5 := below_app (HBW.out.alloc HBW.out.size (Obj.cells #[Value.int IntKind.u8 0] 5)) (HOW.out.alloc (Obj.cells #[Value.int IntKind.u8 0] 5)) (Nat.le_refl _) hgr5
      have hz1 : z + 1 ≤ padZ n := HZZ.out
      have hown6 : OwnB w5 w.heap.size v5 (b ++ [128] ++ List.replicate (z + 1) 0) := by
        rw [show b ++ [128] ++ List.replicate (z + 1) 0 = b ++ 128 :: (List.replicate z 0 ++ [0]) by rw [List.replicate_succ']; simp]; exact hown5
      obtain ⟨a5, c5, rfl, _⟩ := OwnG.shape hown6
      have hN6 : (b ++ [128] ++ List.replicate (z + 1) 0).length = N + 1 := by rw [List.length_append, List.length_append, HL.out, List.length_replicate, ← HNN2.out]; rfl
      rw [hN6] at hown6 ⊢
      clear hown5 hat5 hN6
      go_wp2_with fail
      all_goals go_roundw
      all_goals first
        | exact ⟨z + 1, hz1, hown6, hb5⟩
        | (have := HNN2.out; show n + 1 + padZ n - (N + 1) < n + 1 + padZ n - N; omega)
    · have hze : z = padZ n := by have := HZ.out; omega
      have t1 : ((N : Int) % 64 != 56) = false := by
        have h1 := HNN2.out
        simp only [bne_eq_false_iff_eq]
        omega
      subst hze
      clear hP hzz
      have hw1 : IntKind.u64.wrap (n : Int) = (n : Int) := by rw [IntKind.wrap_u64]; have := HN.out; omega
      obtain ⟨X, hX⟩ : ∃ X, 8 * n = X := ⟨_, rfl⟩
      have hw2 : IntKind.u64.wrap (8 * (n : Int)) = (X : Int) := by rw [IntKind.wrap_u64]; have := HN.out; omega
      obtain ⟨Q0, hQ0⟩ : ∃ Q0, b ++ [128] ++ List.replicate (padZ n) 0 = Q0 := ⟨_, rfl⟩
      rw [hQ0] at HOW
      have HQ0 := Lib.hid hQ0
      have HX := Lib.hid hX
      have HQL : Hid (Q0.length = N) := Lib.hid (OwnB.cap HOW.out).2.2
      have HNB : Hid (N ≤ 140737488352200) := Lib.hid (by have := HNN2.out; have := HN.out; have := padZ_lt n; omega)
      clear hX hQ0
      go_upto_region 6 with (fail)
      clear t1 hw1 hw2
      go_loopw [3, 5] (fun v vi wq => ∃ j : Nat, j ≤ 8 ∧ vi = .int .i64 (56 - 8 * (j : Int)) ∧ OwnB wq w.heap.size v (Q0 ++ (be8 X).take j) ∧ Below w.heap.size w wq) (fun _ vi _ => match vi with | .int _ z => (z + 8).toNat | _ => 0)
      case atStart => exact ⟨0, by omega, by go_num, by simpa using HOW.out, HBW.out⟩
      case round =>
        obtain ⟨j, hj, rfl, hown, hb⟩ := hrel
        rename World => wq
        by_cases hj8 : j < 8
        · obtain ⟨e, he⟩ : ∃ e : Nat, (56 : Int) - 8 * (j : Int) = (e : Int) := ⟨56 - 8 * j, by omega⟩
          rw [he]
          have he0 : (0 : Int) ≤ (e : Int) := Int.natCast_nonneg e
          have hwe : IntKind.u64.wrap (e : Int) = (e : Int) := by rw [IntKind.wrap_u64]; omega
          have HEE : Hid (e = 56 - 8 * j) := Lib.hid (by omega)
          have hmin : min e 64 = e := by omega
          obtain ⟨y, hy⟩ : ∃ y : UInt8, y = UInt8.ofNat (X / 2 ^ (56 - 8 * j) % 256) := ⟨_, rfl⟩
          have hyv : (y.toNat : Int) = (X : Int) / 2 ^ e % 256 := by
            rw [hy, UInt8.toNat_ofNat', Nat.mod_eq_of_lt (by omega), HEE.out]
            simp
          have htk : (be8 X).take (j + 1) = (be8 X).take j ++ [y] := by
            rw [List.take_add_one]
            congr 1
            simp [be8, hj8, hy]
          have RB : Hid (Rd (wq.alloc (Obj.cells #[Value.int .u8 ((X : Int) / 2 ^ e % 256)] 5)) (wq.heap.size + 1) (some ⟨wq.heap.size, 0, none⟩) (bs [y])) := Lib.hid (by
            have := Rd.new wq (bs [y]) 5
            rw [← hyv]
            exact this)
          have S1 : Hid ((Q0 ++ (be8 X).take j).length + 1 ≤ 140737488355328) := Lib.hid (by
            rw [List.length_append, HQL.out, List.length_take, be8_length]
            have := HNB.out
            omega)
          have S2 : w.heap.size ≤ (wq.alloc (Obj.cells #[Value.int .u8 ((X : Int) / 2 ^ e % 256)] 5)).heap.size := by rw [World.size_alloc]; have := hb.size; omega
          have HTK := Lib.hid htk
          have HOWN := Lib.hid hown
          have HBQ := Lib.hid hb
          clear hown hb he hy hyv htk
          go_wp2_with (at_builtin; refine wpList_app rfl _ _ rfl w.heap.size _ _ rfl (HOWN.out.alloc _) (wq.heap.size + 1) (some ⟨wq.heap.size, 0, none⟩) 1 1 [y] rfl rfl RB.out S1.out S2 ?_)
          intro v5 w5 hown5 hgr5 hat5
          have hb5 := below_app (HBQ.out.alloc HBQ.out.size (Obj.cells #[Value.int .u8 ((X : Int) / 2 ^ e % 256)] 5)) (HOWN.out.alloc (Obj.cells #[Value.int .u8 ((X : Int) / 2 ^ e % 256)] 5)) (Nat.le_refl _) hgr5
          have hown6 : OwnB w5 w.heap.size v5 (Q0 ++ (be8 X).take (j + 1)) := by
            rw [HTK.out, ← List.append_assoc]
            first | exact hown5 | (rw [List.append_assoc]; exact hown5)
          have hj9 : j + 1 ≤ 8 := by omega
          clear hown5 hat5
          go_wp2_with fail
          all_goals go_roundw
          all_goals first
            | exact ⟨j + 1, hj9, by have := HEE.out; simp; omega, hown6, hb5⟩
            | (have := HEE.out; simp; omega)
        · have hje : j = 8 := by omega
          subst hje
          rw [List.take_of_length_le (by rw [be8_length]; exact Nat.le_refl _)] at hown
          have hpp : Q0 ++ be8 X = shaPad b := by
            rw [shaPad, padTail, ← HQ0.out, ← HX.out, HL.out]
            have e : 8 * n % 18446744073709551616 = 8 * n := Nat.mod_eq_of_lt (by have := HN.out; omega)
            rw [e]
            simp
          rw [hpp] at hown
          obtain ⟨ap, cp, rfl, hcp⟩ := OwnG.shape hown
          have HOWN := Lib.hid hown
          have HBQ := Lib.hid hb
          clear hown hb hcp hpp
          go_wp2_with fail
          go_ret
          exact ⟨_, _, _, rfl, HOWN.out, HBQ.out⟩
end Go.Proofs.YtnfchojekcoplaaDoor
