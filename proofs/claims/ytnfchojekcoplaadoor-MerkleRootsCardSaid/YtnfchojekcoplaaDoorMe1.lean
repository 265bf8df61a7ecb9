/- merkle.hash -/
import Derived.Test.YtnfchojekcoplaaDoorShaTwo
namespace Go.Proofs.YtnfchojekcoplaaDoor
set_option linter.unusedVariables false
set_option linter.unusedSimpArgs false
open Go.RowKit

def hashL (kind : UInt8) (b : List UInt8) : List UInt8 := shaL (kind :: b)
theorem hashL_length (kind : UInt8) (b : List UInt8) : (hashL kind b).length = 32 := shaL_length _

theorem hash_any (kind : UInt8) (b : List UInt8) (a : Option Addr) (n c : Nat) (w : World) (hl : b.length = n) (hc : n ≤ c) (hc2 : c ≤ 9223372036854775807) (hr : Rd w w.heap.size a (bs b)) (hk : KOK w) :
    Calls Tryd.prog 21 #[.int .u8 (kind.toNat : Int), .slice a n c] w fun e w' => ∃ g, e = .returned (.slice (some ⟨g, 0, none⟩) 32 32) ∧ w.heap.size ≤ g ∧ Blk w' g 24 (bs (hashL kind b)) ∧ Below w.heap.size w w' := by
  have HR := Lib.hid hr
  have HK := Lib.hid hk
  clear hr hk
  go_enter Tryd.func21, Tryd.ntmps21
  go_wp2_with fail
  refine (new_any w).mono ?_
  rintro e w1 ⟨rfl, hH, hb1, hs1⟩
  have HH := Lib.hid hH
  have HB1 := Lib.hid hb1
  have HS1 := Lib.hid hs1
  clear hH hb1 hs1
  go_wp2_with fail
  have h1 := HS1.out
  have hbw : Below w1.heap.size w1 (w1.alloc (.cells #[.int .u8 (kind.toNat : Int)] 5)) := (Below.refl _ _).alloc (Nat.le_refl _) _
  have hk1 : KOK w1 := HK.out.below HB1.out
  refine (write_any w.heap.size none 0 [] [kind] (some ⟨w1.heap.size, 0, none⟩) 1 1 _ (HH.out.below hbw) (Nat.zero_le _) rfl (Nat.le_refl _) (by omega)
    ((Rd.new w1 (bs [kind]) _).more (by rw [World.size_alloc]; exact Nat.le_refl _)) (.inr fun ad had => by cases had; exact ⟨by show w1.heap.size ≠ w.heap.size; omega, by simp⟩) (hk1.below hbw)).mono ?_
  rintro e w3 ⟨rfl, ⟨r3, hH3, hr3⟩, hbut⟩
  rw [List.nil_append] at hH3
  have hb01 : Below w.heap.size w (w1.alloc (.cells #[.int .u8 (kind.toNat : Int)] 5)) := HB1.out.trans (hbw.mono (by omega))
  have hb3 : Below w.heap.size w w3 := hbut.fresh hb01 (Nat.le_refl _) (Nat.le_refl _) (fun x h => by cases h)
  have hk3 : KOK w3 := HK.out.below hb3
  have hs3 : w.heap.size + 2 ≤ w3.heap.size := by have := hbut.size; rw [World.size_alloc] at this; omega
  have hgr3 : ∀ x, r3 = some x → w.heap.size ≤ x ∧ x ≠ w.heap.size := fun x hx => by
    rcases hr3 with h | ⟨q, h, hq⟩
    · rw [h] at hx; cases hx
    · rw [h] at hx; cases hx
      rw [World.size_alloc] at hq
      exact ⟨by omega, by omega⟩
  have hr : Rd w3 w3.heap.size a (bs b) := (HR.out.below hb3).more hb3.size
  have hsep : Sep w.heap.size r3 a b := by
    rcases HR.out with h | ⟨q, off, ha, hq, _⟩
    · exact .inl (bs_inj (h.trans rfl))
    · refine .inr fun ad had => ?_
      rw [ha] at had
      injection had with had
      subst had
      refine ⟨by show q ≠ w.heap.size; omega, fun e' => ?_⟩
      have := (hgr3 q e'.symm).1
      omega
  have HW := Lib.hid (write_any w.heap.size r3 0 [kind] b a n c w3 hH3 (Nat.zero_le _) hl hc hc2 hr hsep hk3)
  have HB3 := Lib.hid hb3
  have HG3 := Lib.hid hgr3
  clear hbut hH3 hr3 hb3 hk3 hs3 hgr3 hr hsep hb01 hbw hk1 h1
  go_wp2_with fail
  refine HW.out.mono ?_
  rintro e w4 ⟨rfl, ⟨r4, hH4, hr4⟩, hbut⟩
  have hb4 : Below w.heap.size w w4 := hbut.fresh HB3.out (Nat.le_refl _) (Nat.le_refl _) (fun x h => (HG3.out x h).1)
  have hk4 : KOK w4 := HK.out.below hb4
  have HU := Lib.hid (hsum_any w.heap.size r4 0 ([kind] ++ b) w4 hH4 hk4)
  have HB4 := Lib.hid hb4
  clear hbut hH4 hr4 hb4 hk4
  go_wp2_with fail
  refine HU.out.mono ?_
  rintro e w5 ⟨rfl, hb5⟩
  obtain ⟨X, Z, hX, hinf, hone, hzz, hzs, w6, hw6, hB6, hb6, hs6⟩ := keep_digest w5 (shaL ([kind] ++ b)) (shaL_length _)
  rw [hX]
  have HB5 := Lib.hid (HB4.out.trans (hb5.mono HB4.out.size))
  have HB6 := Lib.hid hB6
  have HBB6 := Lib.hid hb6
  clear hX hb5 hB6 hb6 hs6
  go_wp2_with (refine wpList_store_row rfl 24 _ _ rfl w5.heap.size X rfl rfl 24 Z hzz hinf hzs hone (hgoalL hw6 ?_))
  have hh : shaL ([kind] ++ b) = hashL kind b := rfl
  rw [hh] at HB6
  refine bodyPost_ret (results_tmp rfl _ _ _) rfl ?_
  exact ⟨_, rfl, HB5.out.size, HB6.out, HB5.out.trans (HBB6.out.mono HB5.out.size)⟩
end Go.Proofs.YtnfchojekcoplaaDoor
