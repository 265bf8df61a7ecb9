/- hmac: Right -/
import Derived.Test.YtlfchhnkchcjcaaDoorHm4
namespace Go.Proofs.YtlfchhnkchcjcaaDoor
set_option linter.unusedVariables false
set_option linter.unusedSimpArgs false
open Go.RowKit

def orL (l : List UInt8) : UInt8 := l.foldl (fun x y => x ||| y) 0
theorem orL_snoc (l : List UInt8) (y : UInt8) : orL (l ++ [y]) = orL l ||| y := by simp [orL]
theorem u8_or_zero (x y : UInt8) : x ||| y = 0 ↔ x = 0 ∧ y = 0 := by
  constructor
  · intro h
    have h1 : (x ||| y).toNat = 0 := by rw [h]; rfl
    rw [UInt8.toNat_or, Nat.or_eq_zero_iff] at h1
    exact ⟨UInt8.toNat_inj.1 h1.1, UInt8.toNat_inj.1 h1.2⟩
  · rintro ⟨rfl, rfl⟩; rfl
theorem orL_zero (l : List UInt8) : orL l = 0 ↔ ∀ x ∈ l, x = 0 := by
  have key : ∀ (l : List UInt8) (a : UInt8), l.foldl (fun x y => x ||| y) a = 0 ↔ a = 0 ∧ ∀ x ∈ l, x = 0 := by
    intro l
    induction l with
    | nil => intro a; simp
    | cons x l ih =>
      intro a
      rw [List.foldl_cons, ih, u8_or_zero, List.forall_mem_cons, and_assoc]
  rw [orL, key]; simp
theorem xor_zero (x y : UInt8) : x ^^^ y = 0 ↔ x = y := by
  constructor
  · intro h
    have h1 : (x ^^^ y).toNat = 0 := by rw [h]; rfl
    rw [UInt8.toNat_xor] at h1
    refine UInt8.toNat_inj.1 ?_
    have h2 : x.toNat ^^^ y.toNat ^^^ y.toNat = 0 ^^^ y.toNat := by rw [h1]
    rwa [Nat.xor_assoc, Nat.xor_self, Nat.xor_zero, Nat.zero_xor] at h2
  · rintro rfl; simp
theorem xorL_zero : ∀ (l r : List UInt8), l.length = r.length → ((∀ x ∈ xorL l r, x = 0) ↔ l = r)
  | [], [], _ => by simp [xorL]
  | [], _ :: _, h => by simp at h
  | _ :: _, [], h => by simp at h
  | x :: l, y :: r, h => by
    have ih := xorL_zero l r (by simpa using h)
    unfold xorL at ih ⊢
    rw [List.zipWith_cons_cons, List.forall_mem_cons, ih, xor_zero, List.cons.injEq]
theorem right_is (l r : List UInt8) (h : l.length = r.length) : (orL (xorL l r) == 0) = (l == r) := by
  have e : orL (xorL l r) = 0 ↔ l = r := (orL_zero _).trans (xorL_zero l r h)
  by_cases hl : l = r
  · rw [e.2 hl, hl]; simp
  · rw [beq_eq_false_iff_ne.2 hl, beq_eq_false_iff_ne.2 (fun h => hl (e.1 h))]
theorem u8_or_byte (x y : UInt8) : bits .or .u8 (x.toNat : Int) (y.toNat : Int) = ((x ||| y).toNat : Int) := by
  rw [u8_or_nat _ _ x.toNat_lt y.toNat_lt, UInt8.toNat_or]
theorem u8_zero_int (x : UInt8) : ((x.toNat : Int) == 0) = (x == 0) := by
  by_cases h : x = 0
  · subst h; rfl
  · have : x.toNat ≠ 0 := fun e => h (UInt8.toNat_inj.1 e)
    rw [beq_eq_false_iff_ne.2 h, beq_eq_false_iff_ne.2 (by omega)]

theorem right_any (key : List UInt8) (x : Int) (data tag : List UInt8) (ak : Option Addr) (nk ck : Nat) (ad : Option Addr) (nd cd : Nat) (at_ : Option Addr) (nt ct : Nat) (w : World) (hlk : key.length = nk) (hck : nk ≤ ck) (hck2 : ck ≤ 140737488351232) (hrk : Rd w w.heap.size ak (bs key))
    (hld : data.length = nd) (hcd : nd ≤ cd) (hcd2 : cd ≤ 140737488351232) (hrd : Rd w w.heap.size ad (bs data)) (hlt : tag.length = nt) (hrt : Rd w w.heap.size at_ (bs tag)) (hk : KOK w) :
    Calls Tryd.prog 25 #[.slice ak nk ck, .int .i64 x, .slice ad nd cd, .slice at_ nt ct] w fun e w' => e = .returned (.bool (tagL key x data == tag)) ∧ Below w.heap.size w w' := by
  have HRT := Lib.hid hrt
  have HLT := Lib.hid hlt
  have HT := Lib.hid (tag_any key x data ak nk ck ad nd cd w hlk hck hck2 hrk hld hcd hcd2 hrd hk)
  clear hlk hrk hld hrd hlt hrt hk
  go_enter Tryd.func25, Tryd.ntmps25
  go_wp2_with fail
  refine HT.out.mono ?_
  rintro e w6 ⟨rfl, hb6⟩
  obtain ⟨G, hG⟩ : ∃ G, tagL key x data = G := ⟨_, rfl⟩
  rw [hG]
  have hGl : G.length = 16 := by rw [← hG]; exact tagL_length _ _ _
  obtain ⟨X6, Z6, hX6, hinf6, hone6, hzz6, hzs6, w7, hw7, hB7, hb7, hs7⟩ := keep16 w6 G hGl
  rw [hX6]
  have hb07 := hb6.trans (hb7.mono hb6.size)
  have HB7 := Lib.hid hb07
  have HBK := Lib.hid hB7
  have HG := Lib.hid hG
  have HGL := Lib.hid hGl
  have HRT7 := Lib.hid ((HRT.out.below hb07).more hb07.size)
  clear hX6 hb6 hB7 hb7 hs7 hb07 hG hGl HT
  by_cases h16 : nt = 16
  · subst h16
    have HX := Lib.hid (xor_good (some ⟨w6.heap.size, 0, none⟩) at_ 16 ct G tag w7 (by rw [HLT.out, HGL.out]) (by rw [HGL.out]; omega) HBK.out.rd HRT7.out)
    rw [HGL.out] at HX
    go_wp2_with (first
      | refine wpList_store_row0 rfl 44 _ _ rfl rfl w6.heap.size X6 rfl rfl 44 Z6 hzz6 hinf6 hzs6 hone6 hw7 ?_)
    refine HX.out.mono ?_
    rintro e w8 ⟨a8, n8, c8, rfl, hown8, hb8⟩
    obtain ⟨L, hL⟩ : ∃ L, xorL G tag = L := ⟨_, rfl⟩
    have hLl : L.length = 16 := by rw [← hL, xorL_length _ _ (by rw [HGL.out, HLT.out]), HGL.out]
    have hn8 := OwnB.len hown8
    rw [hL] at hown8 hn8
    rw [hLl] at hn8
    subst hn8
    have hrd8 := OwnB.rd hown8
    have HRD8 := Lib.hid hrd8
    have HLL := Lib.hid hLl
    have HXL := Lib.hid hL
    have HB8 := Lib.hid (HB7.out.trans (hb8.mono HB7.out.size))
    clear hown8 hb8 hL hLl hrd8 HX hzz6 hinf6 hzs6 hone6 hw7 HBK HRT7
    go_wp2_with fail
    go_loopw [12, 27] (fun vo vi wr => ∃ k : Nat, k ≤ 16 ∧ vi = .int .i64 k ∧ vo = .int .u8 ((orL (L.take k)).toNat : Int) ∧ wr = w8) (fun _ vi _ => 16 - (intOf vi).toNat)
    case atStart => exact ⟨0, by omega, rfl, rfl, rfl⟩
    case round =>
      obtain ⟨k, hk, rfl, rfl, rfl⟩ := hrel
      by_cases hk16 : k < 16
      · have hkl : k < L.length := by rw [HLL.out]; exact hk16
        obtain ⟨b1, o1, rfl, _, hc1⟩ := HRD8.out.byte k hkl
        obtain ⟨z, hzz⟩ : ∃ z, L[k] = z := ⟨_, rfl⟩
        rw [hzz] at hc1
        have HE : Hid (orL (L.take k) ||| z = orL (L.take (k + 1))) := Lib.hid (by rw [List.take_succ_eq_append_getElem hkl, orL_snoc, hzz])
        obtain ⟨q, hq⟩ : ∃ q, orL (L.take k) = q := ⟨_, rfl⟩
        rw [hq] at HE ⊢
        have E1 := Lib.hid (u8_or_byte q z)
        have hkI : (k : Int) < 16 := by omega
        have hk0 : (0 : Int) ≤ (k : Int) := Int.natCast_nonneg k
        clear hzz hq hkl
        go_wp2_with fail
        all_goals go_roundw
        all_goals first
          | (case measure => simp [intOf]; omega)
          | exact ⟨k + 1, hk16, by go_num, by rw [E1.out, HE.out], by first | rfl | trivial⟩
      · have hke : k = 16 := by omega
        subst hke
        rw [List.take_of_length_le (by rw [HLL.out]; exact Nat.le_refl _)]
        have HE : Hid ((((orL L).toNat : Int) == 0) = (G == tag)) := Lib.hid (by rw [u8_zero_int, ← HXL.out]; exact right_is G tag (by rw [HGL.out, HLT.out]))
        obtain ⟨q, hq⟩ : ∃ q, orL L = q := ⟨_, rfl⟩
        rw [hq] at HE ⊢
        cases hb : (((q.toNat : Int)) == 0) with
        | true =>
          have h1 := HE.out
          rw [hb] at h1
          have H1 := Lib.hid h1
          clear hq h1 HE
          go_wp2_with fail
          go_ret
          exact ⟨by rw [HG.out, ← H1.out]; rfl, HB8.out⟩
        | false =>
          have h1 := HE.out
          rw [hb] at h1
          have H1 := Lib.hid h1
          clear hq h1 HE
          go_wp2_with fail
          go_ret
          exact ⟨by rw [HG.out, ← H1.out]; rfl, HB8.out⟩
  · have hne : (G == tag) = false := by
      refine beq_eq_false_iff_ne.2 (fun e => h16 ?_)
      rw [← HLT.out, ← e, HGL.out]
    have HX := Lib.hid (xor_bad (some ⟨w6.heap.size, 0, none⟩) at_ 16 16 nt ct w7 (fun e => h16 e.symm))
    go_wp2_with (first
      | refine wpList_store_row0 rfl 44 _ _ rfl rfl w6.heap.size X6 rfl rfl 44 Z6 hzz6 hinf6 hzs6 hone6 hw7 ?_)
    refine HX.out.mono ?_
    rintro e w8 ⟨rfl, hb8⟩
    have HB8 := Lib.hid (HB7.out.trans (hb8.mono HB7.out.size))
    have HNE := Lib.hid hne
    clear hb8 HX hzz6 hinf6 hzs6 hone6 hw7 HBK HRT7 hne
    go_wp2_with fail
    go_loopw [12, 27] (fun vo vi wr => vi = .int .i64 0 ∧ wr = w8) (fun _ vi _ => 0)
    case atStart => exact ⟨rfl, rfl⟩
    case round =>
      obtain ⟨rfl, rfl⟩ := hrel
      go_wp2_with fail
      go_ret
      exact ⟨by rw [HG.out, HNE.out]; rfl, HB8.out⟩
end Go.Proofs.YtlfchhnkchcjcaaDoor
