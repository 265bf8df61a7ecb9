/- the document's hmac -/
import Derived.Test.YtlfchhnkchcjcaaDoorRf5
import Derived.Test.YtlfchhnkchcjcaaDoorHm3
namespace Go.Proofs.YtlfchhnkchcjcaaDoor
set_option linter.unusedVariables false
set_option linter.unusedSimpArgs false
open Go.RowKit

theorem beforeP {w wn : World} {B g : Nat} {T : TypeId} {cs : List Value} (h : Blk w g T cs) (hb : Below B w wn) (hg : g < B) : Blk wn g T cs := h.keep (hb.block g hg)

/-- The two paddings, i bytes of each. -/
def Rf7r (wL : World) (K : List UInt8) (v1 v2 vi : Value) (wr : World) : Prop :=
  ∃ i : Nat, i ≤ 64 ∧ vi = .int .i64 (i : Int) ∧ OwnB wr wL.heap.size v1 (xorBy (K.take i) 54) ∧ OwnB wr wL.heap.size v2 (xorBy (K.take i) 92) ∧ (v1.ownBlock = none ∨ v1.ownBlock ≠ v2.ownBlock) ∧ Below wL.heap.size wL wr

theorem own_two {w w1 : World} {B : Nat} {v1 v1' v2 : Value} {l2 : List UInt8} (h2 : OwnB w B v2 l2) (ha : v1.ownBlock = none ∨ v1.ownBlock ≠ v2.ownBlock) (hg : w.grownBy w1 v1.ownBlock) (hat : v1'.ownBlock = v1.ownBlock ∨ v1'.ownBlock = some w.heap.size) :
    OwnB w1 B v2 l2 ∧ (v1'.ownBlock = none ∨ v1'.ownBlock ≠ v2.ownBlock) := by
  have hl := OwnG.lt h2
  refine ⟨OwnG.grown h2 hg ?_, ?_⟩
  · rcases ha with h | h
    · cases hq : v2.ownBlock with
      | none => exact .inl rfl
      | some z => exact .inr (by rw [h]; simp)
    · exact .inr (fun e => h e.symm)
  · rcases hat with h | h
    · rw [h]; exact ha
    · refine .inr (fun e => ?_)
      rw [h] at e
      have := (hl _ e.symm).2
      omega
theorem sep_symm {a b : Option Nat} (h : a = none ∨ a ≠ b) : b = none ∨ b ≠ a := by
  cases b with
  | none => exact .inl rfl
  | some z =>
    refine .inr (fun e => ?_)
    rcases h with h | h
    · rw [h] at e; cases e
    · exact h e.symm
theorem xorBy_snoc (K : List UInt8) (i : Nat) (hi : i < K.length) (y : UInt8) : xorBy (K.take (i + 1)) y = xorBy (K.take i) y ++ [K[i] ^^^ y] := by
  rw [List.take_succ_eq_append_getElem hi, xorBy, xorBy, List.map_append]
  rfl

set_option maxHeartbeats 4000000 in
set_option maxRecDepth 16000 in
theorem rhmac_any (key b : List UInt8) (ak : Option Addr) (nk ck : Nat) (ab : Option Addr) (nb cb : Nat) (w : World) (hlk : key.length = nk) (hnk : nk ≤ 140737488351232) (hrk : Rd w w.heap.size ak (bs key))
    (hlb : b.length = nb) (hnb : nb ≤ 140737488351300) (hrb : Rd w w.heap.size ab (bs b)) :
    Calls Tryd.prog 21 #[.slice ak nk ck, .slice ab nb cb] w fun e w' => e = .returned (.agg (bs (hmacL key b)).toArray) ∧ Below w.heap.size w w' := by
  have HLK := Lib.hid hlk
  have HRK := Lib.hid hrk
  have HLB := Lib.hid hlb
  have HRB := Lib.hid hrb
  have HNK := Lib.hid hnk
  have HNB := Lib.hid hnb
  clear hlk hrk hlb hrb hnk hnb
  go_enter Tryd.func21, Tryd.ntmps21
  go_upto_region 1 with (fail)
  have hz : Blk (w.alloc (.cells (bs (List.replicate 32 0)).toArray 23)) w.heap.size 23 (bs (List.replicate 32 0)) := Blk.new _ _ _
  have hb1 := (Below.refl w.heap.size w).alloc (Nat.le_refl _) (.cells (bs (List.replicate 32 0)).toArray 23)
  have hs1 : (w.alloc (.cells (bs (List.replicate 32 0)).toArray 23)).heap.size = w.heap.size + 1 := World.size_alloc _ _
  generalize hw1 : (w.alloc (.cells (bs (List.replicate 32 0)).toArray 23)) = w1 at hz hb1 hs1
  refine hgoalR hw1 ?_
  clear hw1
  have HZ := Lib.hid hz
  have HZ1 : Hid (∀ wx, Below w1.heap.size w1 wx → Blk wx w.heap.size 23 (bs (List.replicate 32 0))) := Lib.hid (fun wx hx => hz.below hx)
  have HB1 := Lib.hid hb1
  have HS1 := Lib.hid hs1
  have HB01 := Lib.hid hb1
  have R1 : Hid (Rd (w1.alloc (.cells #[] 5)) w.heap.size ak (bs key)) := Lib.hid ((HRK.out.below hb1).alloc (by omega) _)
  have S1 : Hid (([] : List UInt8).length + nk ≤ 140737488355328) := Lib.hid (by have := HNK.out; simp; omega)
  have S2 : Hid (w1.heap.size ≤ (w1.alloc (.cells #[] 5)).heap.size) := Lib.hid (by rw [World.size_alloc]; omega)
  clear hz hb1 hs1
  go_wp2_with (at_builtin; refine wpList_app rfl _ _ rfl w1.heap.size _ [] rfl (OwnB.lit0 w1) w.heap.size ak nk ck key rfl HLK.out R1.out S1.out S2.out ?_)
  intro v2 w2 hown2 hgr2 hat2
  have hb12 := below_app ((Below.refl w1.heap.size w1).alloc (Nat.le_refl _) (.cells #[] 5)) (OwnB.lit0 w1) (Nat.le_refl _) hgr2
  have hown2 : OwnB w2 w1.heap.size v2 key := hown2
  obtain ⟨a2, c2, rfl, hc2⟩ := OwnG.shape hown2
  rw [HLK.out] at hown2 hc2 ⊢
  have HO2 := Lib.hid hown2
  have HB12 := Lib.hid hb12
  clear hown2 hgr2 hat2 hb12 hc2 R1 S1 S2
  go_upto_if 16 with (fail)
  go_cut [5] (fun v wn => OwnB wn w1.heap.size v (keyOf key) ∧ Below w1.heap.size w1 wn)
  case first =>
    by_cases hlong : 64 < nk
    · have hI : (64 : Int) < (nk : Int) := by omega
      have HE : Hid (keyOf key = shaL key) := Lib.hid (by rw [keyOf, if_pos (by rw [HLK.out]; exact hlong)])
      have hb02 := HB1.out.trans (HB12.out.mono (by have := HS1.out; omega))
      have HS := Lib.hid (rsum_any key ak nk ck w2 HLK.out (by have := HNK.out; omega) ((HRK.out.below hb02).more hb02.size))
      clear hb02
      go_wp2_with fail
      refine HS.out.mono ?_
      rintro e w3 ⟨rfl, hb3⟩
      obtain ⟨X, Z, hX, hinf, hone, hzz, hzs, w4, hw4, hB4, hb4, hs4⟩ := keep_digest w3 (shaL key) (shaL_length _)
      rw [hX]
      have hb24 := hb3.trans (hb4.mono hb3.size)
      have HB4 := Lib.hid (HB12.out.trans (hb24.mono HB12.out.size))
      have HR4 : Hid (Rd (w4.alloc (.cells #[] 5)) w4.heap.size (some ⟨w3.heap.size, 0, none⟩) (bs (shaL key))) := Lib.hid (hB4.rd.alloc (Nat.le_refl _) _)
      have S1 : Hid (([] : List UInt8).length + 32 ≤ 140737488355328) := Lib.hid (by simp)
      have S2 : Hid (w4.heap.size ≤ (w4.alloc (.cells #[] 5)).heap.size) := Lib.hid (by rw [World.size_alloc]; omega)
      clear hb3 hX hB4 hb4 hs4 hb24 HS
      go_wp2_with (first
        | refine wpList_store_row0 rfl 23 _ _ rfl rfl w3.heap.size X rfl rfl 23 Z hzz hinf hzs hone hw4 ?_
        | (at_builtin; refine wpList_app rfl _ _ rfl w4.heap.size _ [] rfl (OwnB.lit0 w4) w4.heap.size (some ⟨w3.heap.size, 0, none⟩) 32 32 (shaL key) rfl (shaL_length _) HR4.out S1.out S2.out ?_))
      intro v5 w5 hown5 hgr5 hat5
      have hb45 := below_app ((Below.refl w4.heap.size w4).alloc (Nat.le_refl _) (.cells #[] 5)) (OwnB.lit0 w4) (Nat.le_refl _) hgr5
      have hown5 : OwnB w5 w4.heap.size v5 (shaL key) := hown5
      have HO5 : Hid (OwnB w5 w1.heap.size v5 (keyOf key)) := Lib.hid (by rw [HE.out]; exact OwnG.base_mono hown5 HB4.out.size)
      have HB5 := Lib.hid (HB4.out.trans (hb45.mono HB4.out.size))
      clear hown5 hgr5 hat5 hb45
      go_wp2_with fail
      go_meet
      exact ⟨HO5.out, HB5.out⟩
    · have hI : ¬ ((64 : Int) < (nk : Int)) := by omega
      have HE : Hid (keyOf key = key) := Lib.hid (by rw [keyOf, if_neg (by rw [HLK.out]; exact hlong)])
      go_wp2_with fail
      go_meet
      exact ⟨by rw [HE.out]; have h := HO2.out; rw [← HLK.out] at h ⊢; exact h, HB12.out⟩
  case rest =>
    obtain ⟨hown5, hb5⟩ := hcut
    rename World => w5
    have HO5 := Lib.hid hown5
    have HB5 := Lib.hid hb5
    clear hown5 hb5 HO2 HB12
    obtain ⟨K0, hK0⟩ : ∃ K0, keyOf key = K0 := ⟨_, rfl⟩
    have hkl : K0.length ≤ 64 := by rw [← hK0]; exact keyOf_length key
    rw [hK0] at HO5
    have HKL := Lib.hid hkl
    have HKO := Lib.hid hK0
    clear hkl hK0
    have HZ5 : Hid (Blk w5 w.heap.size 23 (bs (List.replicate 32 0))) := Lib.hid (beforeP HZ.out HB5.out (by have := HS1.out; omega))
    have HB05 : Hid (Below w.heap.size w w5) := Lib.hid (HB1.out.trans (HB5.out.mono (by have := HS1.out; omega)))
    clear HZ HB1
    go_wp2_with fail
    go_loopw [5] (fun v wr => ∃ z, K0.length + z ≤ 64 ∧ OwnB wr w1.heap.size v (K0 ++ List.replicate z 0) ∧ Below w1.heap.size w1 wr) (fun v _ => 64 - (match v with | .slice _ n _ => n | _ => 0))
    case atStart => exact ⟨0, by have := HKL.out; omega, by simpa using HO5.out, HB5.out⟩
    case round =>
      obtain ⟨z, hz, hown, hb⟩ := hrel
      obtain ⟨av, cv, rfl, hcv⟩ := OwnG.shape hown
      obtain ⟨N, hN⟩ : ∃ N, (K0 ++ List.replicate z 0).length = N := ⟨_, rfl⟩
      have hN2 : N = K0.length + z := by rw [← hN]; simp
      rw [hN] at hown hcv ⊢
      have HOW : Hid (OwnB wr w1.heap.size (.slice av N cv) (K0 ++ List.replicate z 0)) := Lib.hid hown
      have HBW := Lib.hid hb
      have HN2 := Lib.hid hN2
      have HN := Lib.hid hN
      clear hown hb hcv hN2 hN
      by_cases hlt : N < 64
      · have hI : (N : Int) < 64 := by omega
        have S4 : Hid ((K0 ++ List.replicate z 0).length + 1 ≤ 140737488355328) := Lib.hid (by rw [HN.out]; omega)
        have S5 : w1.heap.size ≤ (wr.alloc (Obj.cells #[Value.int IntKind.u8 0] 5)).heap.size := by rw [World.size_alloc]; have := HBW.out.size; omega
        go_wp2_with (at_builtin; refine wpList_app rfl _ _ rfl w1.heap.size _ _ rfl (HOW.out.alloc _) (wr.heap.size + 1) (some ⟨wr.heap.size, 0, none⟩) 1 1 [0] rfl rfl (Rd.new wr (bs [0]) 5) S4.out S5 ?_)
        intro v5 w7 hown5 hgr5 hat5
        have hb7 := below_app (HBW.out.alloc HBW.out.size (Obj.cells #[Value.int IntKind.u8 0] 5)) (HOW.out.alloc (Obj.cells #[Value.int IntKind.u8 0] 5)) (Nat.le_refl _) hgr5
        have hown6 : OwnB w7 w1.heap.size v5 (K0 ++ List.replicate (z + 1) 0) := by
          rw [List.replicate_succ', ← List.append_assoc]; first | exact hown5 | (rw [List.append_assoc]; exact hown5)
        obtain ⟨a5, c5, rfl, _⟩ := OwnG.shape hown6
        have hN6 : (K0 ++ List.replicate (z + 1) 0).length = N + 1 := by rw [List.length_append, List.length_replicate, HN2.out]; omega
        rw [hN6] at hown6 ⊢
        have hz1 : K0.length + (z + 1) ≤ 64 := by have := HN2.out; omega
        clear hown5 hat5 hN6
        go_wp2_with fail
        all_goals go_roundw
        all_goals first
          | exact ⟨z + 1, hz1, hown6, hb7⟩
          | (show 64 - (N + 1) < 64 - N; omega)
      · have hN64 : N = 64 := by have := HN2.out; omega
        subst hN64
        have hKB : K0 ++ List.replicate z 0 = keyBlk (keyOf key) := by
          rw [keyBlk, HKO.out]
          congr 2
          have := HN2.out
          omega
        obtain ⟨K, hK⟩ : ∃ K, keyBlk (keyOf key) = K := ⟨_, rfl⟩
        have hKl : K.length = 64 := by rw [← hK, ← hKB]; exact HN.out
        rw [hKB, hK] at HOW
        have HK := Lib.hid hK
        have HKL6 := Lib.hid hKl
        have HZR : Hid (Blk wr w.heap.size 23 (bs (List.replicate 32 0))) := Lib.hid (by
          have h1 := HZ5.out
          exact HZ1.out wr HBW.out)
        have hwrs := HBW.out.size
        clear hKB hK hKl HN HN2 hz
        go_wp2_with fail
        go_loopw [7, 8, 9] (fun v1 v2 vi wq => Rf7r wr K v1 v2 vi wq) (fun _ _ vi _ => 64 - (intOf vi).toNat)
        case atStart => exact ⟨0, by omega, rfl, OwnG.nil _ _ _ _, OwnG.nil _ _ _ _, .inl rfl, Below.refl _ _⟩
        case round =>
          obtain ⟨i, hi, rfl, ho1, ho2, hap, hbl⟩ := hrel
          rename World => wq
          have HO1 := Lib.hid ho1
          have HO2 := Lib.hid ho2
          have HAP := Lib.hid hap
          have HBL := Lib.hid hbl
          by_cases hi64 : i < 64
          · have hiK : i < K.length := by rw [HKL6.out]; exact hi64
            have hkw := OwnG.below HOW.out hbl
            obtain ⟨q, o, cq, hv, _, hq2, _, hcl⟩ := OwnG.form HOW.out (by rw [HKL6.out]; omega)
            rw [HKL6.out] at hv
            injection hv with hv1 _ hv3
            subst hv1; subst hv3
            obtain ⟨z0, hz0⟩ : ∃ z0, K[i] = z0 := ⟨_, rfl⟩
            have hcK := hcl i (.int .u8 (z0.toNat : Int)) (by rw [bs_get K i hiK, hz0])
            have hce : wq.cell? ⟨q, o + i, none⟩ = some (.int .u8 (z0.toNat : Int)) := (hbl.cell (p := ⟨q, o + i, none⟩) hq2).trans hcK
            have X54 : Hid (xorBy (K.take (i + 1)) 54 = xorBy (K.take i) 54 ++ [z0 ^^^ 54]) := Lib.hid (by rw [← hz0]; exact xorBy_snoc K i hiK 54)
            have X92 : Hid (xorBy (K.take (i + 1)) 92 = xorBy (K.take i) 92 ++ [z0 ^^^ 92]) := Lib.hid (by rw [← hz0]; exact xorBy_snoc K i hiK 92)
            have E54 : bits .xor .u8 (z0.toNat : Int) 54 = ((z0 ^^^ 54).toNat : Int) := u8_xor_byte z0 54
            have E92 : bits .xor .u8 (z0.toNat : Int) 92 = ((z0 ^^^ 92).toNat : Int) := u8_xor_byte z0 92
            have HE54 := Lib.hid E54
            have HE92 := Lib.hid E92
            have R54 : Hid (Rd (wq.alloc (Obj.cells #[Value.int .u8 (bits .xor .u8 (z0.toNat : Int) 54)] 5)) (wq.heap.size + 1) (some ⟨wq.heap.size, 0, none⟩) (bs [z0 ^^^ 54])) := Lib.hid (by rw [E54]; exact Rd.new wq (bs [z0 ^^^ 54]) 5)
            have S1 : Hid ((xorBy (K.take i) 54).length + 1 ≤ 140737488355328) := Lib.hid (by rw [xorBy_length, List.length_take]; omega)
            have S2 : Hid ((xorBy (K.take i) 92).length + 1 ≤ 140737488355328) := Lib.hid (by rw [xorBy_length, List.length_take]; omega)
            have S3 : Hid (wr.heap.size ≤ (wq.alloc (Obj.cells #[Value.int .u8 (bits .xor .u8 (z0.toNat : Int) 54)] 5)).heap.size) := Lib.hid (by rw [World.size_alloc]; have := hbl.size; omega)
            have iI : (i : Int) < 64 := by omega
            have i0 : (0 : Int) ≤ (i : Int) := Int.natCast_nonneg i
            clear ho1 ho2 hap hbl hkw hcl hz0 E54 E92
            go_wp2_with (at_builtin; refine wpList_app rfl _ _ rfl wr.heap.size _ _ rfl (OwnG.alloc HO1.out _) (wq.heap.size + 1) (some ⟨wq.heap.size, 0, none⟩) 1 1 [z0 ^^^ 54] rfl rfl R54.out S1.out S3.out ?_)
            intro v8 w8 hown8 hgr8 hat8
            have hb8 := below_app (HBL.out.alloc HBL.out.size (Obj.cells #[Value.int .u8 (bits .xor .u8 (z0.toNat : Int) 54)] 5)) (OwnG.alloc HO1.out (Obj.cells #[Value.int .u8 (bits .xor .u8 (z0.toNat : Int) 54)] 5)) (Nat.le_refl _) hgr8
            obtain ⟨ho2, hap2⟩ := own_two (OwnG.alloc HO2.out (Obj.cells #[Value.int .u8 (bits .xor .u8 (z0.toNat : Int) 54)] 5)) HAP.out hgr8 (by rw [World.size_alloc]; exact hat8)
            have hce8 : w8.cell? ⟨q, o + i, none⟩ = some (.int .u8 (z0.toNat : Int)) := (hb8.cell (p := ⟨q, o + i, none⟩) hq2).trans hcK
            have hown8' : OwnB w8 wr.heap.size v8 (xorBy (K.take (i + 1)) 54) := by rw [X54.out]; exact hown8
            have HOI := Lib.hid hown8'
            have HOO := Lib.hid ho2
            have HAP2 := Lib.hid (sep_symm hap2)
            have HB8 := Lib.hid hb8
            have R92 : Hid (Rd (w8.alloc (Obj.cells #[Value.int .u8 (bits .xor .u8 (z0.toNat : Int) 92)] 5)) (w8.heap.size + 1) (some ⟨w8.heap.size, 0, none⟩) (bs [z0 ^^^ 92])) := Lib.hid (by rw [HE92.out]; exact Rd.new w8 (bs [z0 ^^^ 92]) 5)
            have S4 : Hid (wr.heap.size ≤ (w8.alloc (Obj.cells #[Value.int .u8 (bits .xor .u8 (z0.toNat : Int) 92)] 5)).heap.size) := Lib.hid (by rw [World.size_alloc]; have := hb8.size; omega)
            clear hown8 hgr8 hat8 hb8 ho2 hap2 hown8' hce R54 S1 S3 HO1 HO2 HAP
            go_wp2_with (at_builtin; refine wpList_app rfl _ _ rfl wr.heap.size _ _ rfl (OwnG.alloc HOO.out _) (w8.heap.size + 1) (some ⟨w8.heap.size, 0, none⟩) 1 1 [z0 ^^^ 92] rfl rfl R92.out S2.out S4.out ?_)
            intro v9 w9 hown9 hgr9 hat9
            have hb9 := below_app (HB8.out.alloc HB8.out.size (Obj.cells #[Value.int .u8 (bits .xor .u8 (z0.toNat : Int) 92)] 5)) (OwnG.alloc HOO.out (Obj.cells #[Value.int .u8 (bits .xor .u8 (z0.toNat : Int) 92)] 5)) (Nat.le_refl _) hgr9
            obtain ⟨hoi, hap9⟩ := own_two (OwnG.alloc HOI.out (Obj.cells #[Value.int .u8 (bits .xor .u8 (z0.toNat : Int) 92)] 5)) HAP2.out hgr9 (by rw [World.size_alloc]; exact hat9)
            have hfin : Rf7r wr K v8 v9 (.int .i64 ((i : Int) + 1)) w9 := ⟨i + 1, by omega, by go_num, hoi, by rw [X92.out]; exact hown9, sep_symm hap9, hb9⟩
            have HFIN := Lib.hid hfin
            clear hown9 hgr9 hat9 hb9 hoi hap9 hfin hce8
            go_wp2_with fail
            all_goals go_roundw
            all_goals first
              | (case measure => simp [intOf]; omega)
              | (first | exact HFIN.out | ((repeat apply Exists.intro); exact ⟨HFIN.out, rfl⟩))
          · have hie : i = 64 := by omega
            subst hie
            have hK54 : xorBy (K.take 64) 54 = padK key 54 := by rw [List.take_of_length_le (by rw [HKL6.out]; exact Nat.le_refl _), ← HK.out]; rfl
            have hK92 : xorBy (K.take 64) 92 = padK key 92 := by rw [List.take_of_length_le (by rw [HKL6.out]; exact Nat.le_refl _), ← HK.out]; rfl
            rw [hK54] at ho1
            rw [hK92] at ho2
            have hl1 : (padK key 54).length = 64 := by rw [padK, xorBy_length, HK.out, HKL6.out]
            have hl2 : (padK key 92).length = 64 := by rw [padK, xorBy_length, HK.out, HKL6.out]
            have hb1q : Below w1.heap.size w1 wq := HBW.out.trans (hbl.mono hwrs)
            have hb0q : Below w.heap.size w wq := HB01.out.trans (hb1q.mono (by have := HS1.out; omega))
            have hb10q : Below w1.heap.size w1 wq := hb1q
            have hrb6 : Rd wq wq.heap.size ab (bs b) := (HRB.out.below hb0q).more hb0q.size
            have S1 : Hid ((padK key 54).length + nb ≤ 140737488355328) := Lib.hid (by rw [hl1]; have := HNB.out; omega)
            have HO1 := Lib.hid ho1
            have HO2 := Lib.hid ho2
            have HAP := Lib.hid hap
            have HB0 := Lib.hid hb0q
            have HBQ := Lib.hid hbl
            have HRB6 := Lib.hid hrb6
            have HL1 := Lib.hid hl1
            have HL2 := Lib.hid hl2
            have HWS := Lib.hid hwrs
            clear ho1 ho2 hap hb0q hbl hrb6 hl1 hl2 hb1q hb10q hwrs hK54 hK92 hi
            go_wp2_with (at_builtin; refine wpList_app rfl _ _ rfl wr.heap.size _ _ rfl HO1.out wq.heap.size ab nb cb b rfl HLB.out HRB6.out S1.out HBQ.out.size ?_)
            intro v10 w10 hown10 hgr10 hat10
            have hb10 := below_app HBQ.out HO1.out (Nat.le_refl _) hgr10
            obtain ⟨ho2, hap2⟩ := own_two HO2.out HAP.out hgr10 hat10
            obtain ⟨a10, c10, rfl, hc10⟩ := OwnG.shape hown10
            obtain ⟨L10, hL10⟩ : ∃ L10, padK key 54 ++ b = L10 := ⟨_, rfl⟩
            obtain ⟨n10, hn10⟩ : ∃ n10, L10.length = n10 := ⟨_, rfl⟩
            have hlen10 : n10 = 64 + nb := by rw [← hn10, ← hL10, List.length_append, HL1.out, HLB.out]
            rw [hL10] at hown10 hc10 ⊢
            rw [hn10] at hown10 hc10 ⊢
            have HS := Lib.hid (rsum_any L10 a10 n10 c10 w10 hn10 (by have := HNB.out; omega) (OwnB.rd hown10))
            have HL10 := Lib.hid hL10
            have HO2' := Lib.hid ho2
            have HB10 := Lib.hid hb10
            clear hown10 hgr10 hat10 hb10 ho2 hap2 hc10 hlen10 hL10 hn10 S1 HRB6 HO1 HO2 HAP
            go_wp2_with fail
            refine HS.out.mono ?_
            rintro e w11 ⟨rfl, hb11⟩
            obtain ⟨D, hD⟩ : ∃ D, shaL L10 = D := ⟨_, rfl⟩
            rw [hD]
            have hDl : D.length = 32 := by rw [← hD]; exact shaL_length _
            obtain ⟨X, Z, hX, hinf, hone, hzz, hzs, w12, hw12, hB12, hb12, hs12⟩ := keep_digest w11 D hDl
            rw [hX]
            have hb1012 : Below w10.heap.size w10 w12 := hb11.trans (hb12.mono hb11.size)
            have HO12 := Lib.hid (OwnG.below HO2'.out hb1012)
            have HB12 := Lib.hid (HB10.out.trans (hb1012.mono HB10.out.size))
            have HR12 := Lib.hid hB12.rd
            have HD := Lib.hid hD
            have HDL := Lib.hid hDl
            have S2 : Hid ((padK key 92).length + 32 ≤ 140737488355328) := Lib.hid (by rw [HL2.out]; omega)
            clear hb11 hX hB12 hb12 hs12 hb1012 hD hDl HS HO2'
            go_wp2_with (first
              | refine wpList_store_row0 rfl 23 _ _ rfl rfl w11.heap.size X rfl rfl 23 Z hzz hinf hzs hone hw12 ?_
              | (at_builtin; refine wpList_app rfl _ _ rfl wr.heap.size _ _ rfl HO12.out w12.heap.size (some ⟨w11.heap.size, 0, none⟩) 32 32 D rfl HDL.out HR12.out S2.out HB12.out.size ?_))
            intro v13 w13 hown13 hgr13 hat13
            have hb13 := below_app HB12.out HO12.out (Nat.le_refl _) hgr13
            obtain ⟨a13, c13, rfl, hc13⟩ := OwnG.shape hown13
            have hlen13 : (padK key 92 ++ D).length = 96 := by rw [List.length_append, HL2.out, HDL.out]
            obtain ⟨L13, hL13⟩ : ∃ L13, padK key 92 ++ D = L13 := ⟨_, rfl⟩
            rw [hL13] at hown13 hc13 hlen13 ⊢
            rw [hlen13] at hown13 hc13 ⊢
            have HS := Lib.hid (rsum_any L13 a13 96 c13 w13 hlen13 (by omega) (OwnB.rd hown13))
            have HL13 := Lib.hid hL13
            have HB13 := Lib.hid hb13
            clear hown13 hgr13 hat13 hb13 hc13 hlen13 hL13 S2 HR12 HO12 hzz hinf hzs hone hw12
            go_wp2_with fail
            refine HS.out.mono ?_
            rintro e w14 ⟨rfl, hb14⟩
            have hbw14 : Below wr.heap.size wr w14 := HB13.out.trans (hb14.mono HB13.out.size)
            have hb1w : Below w1.heap.size w1 w14 := HBW.out.trans (hbw14.mono HWS.out)
            have hb0w : Below w.heap.size w w14 := HB01.out.trans (hb1w.mono (by have := HS1.out; omega))
            obtain ⟨X, Z, hX, hinf, hone, hzz, hzs, hg4, hb5⟩ := store_digest (shaL_length L13) (by simp) (HZ1.out w14 hb1w) (Nat.le_refl _) hb0w
            rw [hX]
            have HX := Lib.hid hX
            have HBE := Lib.hid hb5
            clear hX hb14 hb5 hbw14 hb1w hb0w
            go_wp2_with (refine wpList_store_row rfl 23 _ _ rfl w.heap.size X rfl rfl 23 Z hzz hinf hzs hone ?_)
            refine bodyPost_ret (results_cell_row rfl _ _ w.heap.size 23 X (0, 0) _ rfl hg4 Tryd.underlying23 rfl hinf) rfl ?_
            exact ⟨by rw [← HX.out, hmacL, HL10.out, HD.out, HL13.out], HBE.out⟩
end Go.Proofs.YtlfchhnkchcjcaaDoor
