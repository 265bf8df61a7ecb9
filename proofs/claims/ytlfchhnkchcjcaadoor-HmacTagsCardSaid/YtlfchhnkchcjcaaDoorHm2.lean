/- hmac: Sum -/
import Derived.Test.YtlfchhnkchcjcaaDoorHm1
namespace Go.Proofs.YtlfchhnkchcjcaaDoor
set_option linter.unusedVariables false
set_option linter.unusedSimpArgs false
open Go.RowKit

theorem hgoalC {X Y : World} {P : Program} {C : Code} {a : Act} {Q : Exit → Act → World → Prop} (e : X = Y) (h : Code.wp P C Q a Y) : Code.wp P C Q a X := e ▸ h

theorem Blk.rd {W : World} {g : Nat} {T : TypeId} {l : List UInt8} (h : Blk W g T (bs l)) : Rd W W.heap.size (some ⟨g, 0, none⟩) (bs l) :=
  .inr ⟨g, 0, rfl, h.lt, fun i u hi => by rw [Nat.zero_add]; exact h.cell i u hi⟩

/-- The key as it is used: where it lies. -/
def KeyAt (w : World) (key : List UInt8) (wn : World) : Prop :=
  ∃ a n c, wn.cell? ⟨w.heap.size, 0, none⟩ = some (.slice a n c) ∧ (keyOf key).length = n ∧ Rd wn wn.heap.size a (bs (keyOf key)) ∧ Below w.heap.size w wn ∧
    Blk wn (w.heap.size + 1) 23 (bs (List.replicate 32 0)) ∧ w.heap.size + 2 ≤ wn.heap.size

set_option maxHeartbeats 2000000 in
theorem hmac_any (key b : List UInt8) (ak : Option Addr) (nk ck : Nat) (ab : Option Addr) (nb cb : Nat) (w : World) (hlk : key.length = nk) (hck : nk ≤ ck) (hck2 : ck ≤ 9223372036854775807) (hrk : Rd w w.heap.size ak (bs key))
    (hlb : b.length = nb) (hcb : nb ≤ cb) (hcb2 : cb ≤ 9223372036854775807) (hrb : Rd w w.heap.size ab (bs b)) (hk : KOK w) :
    Calls Tryd.prog 19 #[.slice ak nk ck, .slice ab nb cb] w fun e w' => e = .returned (.agg (bs (hmacL key b)).toArray) ∧ Below w.heap.size w w' := by
  have HLK := Lib.hid hlk
  have HRK := Lib.hid hrk
  have HLB := Lib.hid hlb
  have HRB := Lib.hid hrb
  have HK := Lib.hid hk
  clear hlk hrk hlb hrb hk
  go_enter Tryd.func19, Tryd.ntmps19
  go_upto_region 1 with (fail)
  have hbx : Blk ((w.alloc (.cells #[Value.slice ak nk ck] 22)).alloc (.cells (bs (List.replicate 32 0)).toArray 23)) w.heap.size 22 [Value.slice ak nk ck] := (Blk.new w 22 [Value.slice ak nk ck]).alloc _
  have hz : Blk ((w.alloc (.cells #[Value.slice ak nk ck] 22)).alloc (.cells (bs (List.replicate 32 0)).toArray 23)) (w.heap.size + 1) 23 (bs (List.replicate 32 0)) := by
    have h := Blk.new (w.alloc (.cells #[Value.slice ak nk ck] 22)) 23 (bs (List.replicate 32 0))
    rw [World.size_alloc] at h
    exact h
  have hb1 : Below w.heap.size w ((w.alloc (.cells #[Value.slice ak nk ck] 22)).alloc (.cells (bs (List.replicate 32 0)).toArray 23)) := ((Below.refl _ _).alloc (Nat.le_refl _) _).alloc (by rw [World.size_alloc]; omega) _
  have hs1 : ((w.alloc (.cells #[Value.slice ak nk ck] 22)).alloc (.cells (bs (List.replicate 32 0)).toArray 23)).heap.size = w.heap.size + 2 := by rw [World.size_alloc, World.size_alloc]
  generalize hw1 : ((w.alloc (.cells #[Value.slice ak nk ck] 22)).alloc (.cells (bs (List.replicate 32 0)).toArray 23)) = w1 at hbx hz hb1 hs1
  refine hgoalC hw1 ?_
  clear hw1
  have hcell := hbx.cell 0 _ rfl
  have hfr0 := hbx.frozen 0
  have HBX := Lib.hid hbx
  have HZ := Lib.hid hz
  have HB1 := Lib.hid hb1
  have HS1 := Lib.hid hs1
  clear hbx hz hb1 hs1
  go_upto_if 12 with (fail)
  go_cut [5] (fun v wn => KeyAt w key wn)
  case first =>
    by_cases hlong : 64 < nk
    · have hI : (64 : Int) < (nk : Int) := by omega
      have HE : Hid (keyOf key = shaL key) := Lib.hid (by rw [keyOf, if_pos (by rw [HLK.out]; exact hlong)])
      have HS := Lib.hid (sum_any key ak nk ck w1 HLK.out hck hck2 ((HRK.out.below HB1.out).more HB1.out.size) (HK.out.below HB1.out))
      go_wp2_with fail
      refine HS.out.mono ?_
      rintro e w2 ⟨rfl, hb2⟩
      obtain ⟨X, Z, hX, hinf, hone, hzz, hzs, w3, hw3, hB3, hb3, hs3⟩ := keep_digest w2 (shaL key) (shaL_length _)
      rw [hX]
      have hb13 : Below w1.heap.size w1 w3 := hb2.trans (hb3.mono hb2.size)
      have hbx3 := HBX.out.below hb13
      have hc3 := hbx3.cell 0 _ rfl
      have hf3 := hbx3.frozen 0
      have HB13 := Lib.hid hb13
      have HBX3 := Lib.hid hbx3
      have HB3 := Lib.hid hB3
      have HSZ := Lib.hid hb2.size
      clear hcell hfr0 hb13 hbx3 hB3 hb2 hb3 hX
      go_wp2_with (refine wpList_store_row0 rfl 23 _ _ rfl rfl w2.heap.size X rfl rfl 23 Z hzz hinf hzs hone hw3 ?_)
      go_meet
      have h1 := HS1.out
      have h2 := HSZ.out
      have hbs := HBX3.out.set 0 (.slice (some ⟨w2.heap.size, 0, none⟩) 32 32)
      have hbd : Blk (w3.setCell ⟨w.heap.size, 0, none⟩ (.slice (some ⟨w2.heap.size, 0, none⟩) 32 32)) w2.heap.size 23 (bs (shaL key)) := HB3.out.other (by omega) _
      refine ⟨some ⟨w2.heap.size, 0, none⟩, 32, 32, hbs.cell 0 _ rfl, by rw [HE.out]; exact shaL_length _, by rw [HE.out]; exact hbd.rd, (HB1.out.trans (HB13.out.mono HB1.out.size)).setCell (Nat.le_refl _) _, (HZ.out.below HB13.out).other (by omega) _, ?_⟩
      have h3 := HB13.out.size
      have h4 : (w3.setCell ⟨w.heap.size, 0, none⟩ (.slice (some ⟨w2.heap.size, 0, none⟩) 32 32)).heap.size = w3.heap.size := World.size_setCell _ _ _
      omega
    · have hI : ¬ ((64 : Int) < (nk : Int)) := by omega
      have HE : Hid (keyOf key = key) := Lib.hid (by rw [keyOf, if_neg (by rw [HLK.out]; exact hlong)])
      go_wp2_with fail
      go_meet
      exact ⟨ak, nk, ck, hcell, by rw [HE.out]; exact HLK.out, by rw [HE.out]; exact (HRK.out.below HB1.out).more HB1.out.size, HB1.out, HZ.out, by rw [HS1.out]; omega⟩
  case rest =>
    obtain ⟨a4, n4, c4, hc4, hl4, hr4, hb4, hz4, hs4⟩ := hcut
    rename World => w4
    have h64 : n4 ≤ 64 := by rw [← hl4]; exact keyOf_length key
    have C54 := Lib.hid (begun_any 54 w.heap.size a4 n4 c4 (keyOf key) w4 hc4 hl4 h64 hr4 (HK.out.below hb4))
    have HC4 := Lib.hid hc4
    have HL4 := Lib.hid hl4
    have HR4 := Lib.hid hr4
    have HB4 := Lib.hid hb4
    have HZ4 := Lib.hid hz4
    have HS4 := Lib.hid hs4
    have HH64 := Lib.hid h64
    clear hcell hfr0 hc4 hl4 hr4 hb4 hz4 hs4 h64 HBX HZ HB1 HS1
    go_wp2_with fail
    refine C54.out.mono ?_
    rintro e w5 ⟨g1, r1, rfl, hh1, hg1, hr1, hb5⟩
    have hc5 := (hb5.cell (p := ⟨w.heap.size, 0, none⟩) (by show w.heap.size < _; have := HS4.out; omega)).trans HC4.out
    have C92 := Lib.hid (begun_any 92 w.heap.size a4 n4 c4 (keyOf key) w5 hc5 HL4.out HH64.out ((HR4.out.below hb5).more hb5.size) ((HK.out.below HB4.out).below hb5))
    have HH1 := Lib.hid hh1
    have HG1 := Lib.hid hg1
    have HR1 := Lib.hid hr1
    have HB5 := Lib.hid hb5
    clear hc5 hh1 hg1 hr1 hb5 C54
    go_wp2_with fail
    refine C92.out.mono ?_
    rintro e w6 ⟨g2, r2, rfl, hh2, hg2, hr2, hb6⟩
    have hlt1 := HH1.out.lt
    have hb46 := HB5.out.trans (hb6.mono HB5.out.size)
    have hb06 := HB4.out.trans (hb46.mono HB4.out.size)
    have hs4 := HS4.out
    have hg1 := HG1.out
    have hb6s := hb06.size
    have hrb6 : Rd w6 w6.heap.size ab (bs b) := (HRB.out.below hb06).more hb06.size
    have hsep : Sep g1 r1 ab b := by
      rcases HRB.out with h | ⟨q, off, ha, hq, _⟩
      · exact .inl (bs_inj (h.trans rfl))
      · refine .inr fun ad had => ?_
        rw [ha] at had
        injection had with had
        subst had
        exact ⟨by show q ≠ g1; omega, fun e => by have := HR1.out q e.symm; omega⟩
    have HW := Lib.hid (write_any g1 r1 0 (xorBy (keyBlk (keyOf key)) 54) b ab nb cb w6 (HH1.out.below hb6) (Nat.zero_le _) HLB.out hcb hcb2 hrb6 hsep (HK.out.below hb06))
    have HH2 := Lib.hid hh2
    have HR2 := Lib.hid hr2
    have HG2 : Hid (g1 < g2 ∧ ∀ x, r1 = some x → x < g2) := Lib.hid ⟨by omega, fun x hx => by have := (hlt1.2 x hx).2; omega⟩
    have HB6 := Lib.hid hb06
    have HZ6 : Hid (Blk w6 (w.heap.size + 1) 23 (bs (List.replicate 32 0))) := Lib.hid (HZ4.out.below hb46)
    clear hh2 hg2 hr2 hb6 hlt1 hb46 hb06 hs4 hg1 hb6s hrb6 hsep C92
    go_wp2_with fail
    refine HW.out.mono ?_
    rintro e w7 ⟨rfl, ⟨r3, hh3, hr3⟩, hbut⟩
    have hg := HG1.out
    have hs := HS4.out
    have hg2 := HG2.out
    have h27 : IsHash w7 g2 r2 0 (xorBy (keyBlk (keyOf key)) 92) := HH2.out.but2 hbut (by omega) (fun e => by have := hg2.2 _ e.symm; omega) (fun e => by have := HR2.out _ e; omega) (by
      cases hq : r2 with
      | none => exact .inl rfl
      | some q => exact .inr (fun e => by have h1 := HR2.out q hq; have h2 := hg2.2 q e.symm; omega))
    have hr3' : ∀ x, r3 = some x → g1 < x := fun x hx => by
      rcases hr3 with h | ⟨q, h, hq⟩
      · exact HR1.out x (h ▸ hx)
      · rw [h] at hx; injection hx with hx; have := HH1.out.lt.1; have := HB6.out.size; have := (HH2.out.lt).1; omega
    have hb7 : Below w.heap.size w w7 := hbut.fresh HB6.out (Nat.le_refl _) (by omega) (fun x hx => by have := HR1.out x hx; omega)
    have hz7 : Blk w7 (w.heap.size + 1) 23 (bs (List.replicate 32 0)) := HZ6.out.keep (hbut.block _ HZ6.out.lt (by omega) (fun e => by have := HR1.out _ e.symm; omega))
    have HS := Lib.hid (hsum_any g1 r3 0 _ w7 hh3 (HK.out.below hb7))
    have HB7 := Lib.hid hb7
    have HZ7 := Lib.hid hz7
    have H27 := Lib.hid h27
    clear hh3 hr3 hbut hg hs hg2 h27 hr3' hb7 hz7 HW HH2 HB6 HZ6
    go_wp2_with fail
    refine HS.out.mono ?_
    rintro e w8 ⟨rfl, hb8⟩
    obtain ⟨D, hD⟩ : ∃ D, shaL (xorBy (keyBlk (keyOf key)) 54 ++ b) = D := ⟨_, rfl⟩
    rw [hD]
    have hDl : D.length = 32 := by rw [← hD]; exact shaL_length _
    obtain ⟨X, Z, hX, hinf, hone, hzz, hzs, w9, hw9, hB9, hb9, hs9⟩ := keep_digest w8 D hDl
    rw [hX]
    have hb79 : Below w7.heap.size w7 w9 := hb8.trans (hb9.mono hb8.size)
    have h29 := H27.out.below hb79
    have hlt2 := H27.out.lt
    have hsz8 := hb8.size
    have HW := Lib.hid (write_any g2 r2 0 _ D (some ⟨w8.heap.size, 0, none⟩) 32 32 w9 h29 (Nat.zero_le _) hDl (Nat.le_refl _) (by omega) hB9.rd (.inr fun ad had => by
      injection had with had
      subst had
      exact ⟨by show w8.heap.size ≠ g2; omega, fun e => by have := (hlt2.2 _ e.symm).2; have : w8.heap.size < w7.heap.size := this; omega⟩) ((HK.out.below HB7.out).below hb79))
    have HB9 := Lib.hid (HB7.out.trans (hb79.mono HB7.out.size))
    have HZ9 := Lib.hid (HZ7.out.below hb79)
    have HD := Lib.hid hD
    clear hX hb8 hB9 hb9 hs9 hb79 h29 hlt2 hsz8 hD hDl HS HZ7 H27 HB7
    go_wp2_with (refine wpList_store_row0 rfl 23 _ _ rfl rfl w8.heap.size X rfl rfl 23 Z hzz hinf hzs hone hw9 ?_)
    refine HW.out.mono ?_
    rintro e w10 ⟨rfl, ⟨r4, hh4, hr4⟩, hbut⟩
    have hg := HG1.out
    have hs := HS4.out
    have hg2 := HG2.out
    have hb10 : Below w.heap.size w w10 := hbut.fresh HB9.out (Nat.le_refl _) (by omega) (fun x hx => by have := HR2.out x hx; omega)
    have hz10 : Blk w10 (w.heap.size + 1) 23 (bs (List.replicate 32 0)) := HZ9.out.keep (hbut.block _ HZ9.out.lt (by omega) (fun e => by have := HR2.out _ e.symm; omega))
    have HS := Lib.hid (hsum_any g2 r4 0 _ w10 hh4 (HK.out.below hb10))
    have HB10 := Lib.hid hb10
    have HZ10 := Lib.hid hz10
    clear hh4 hr4 hbut hg hs hg2 hb10 hz10 HW HB9 HZ9 hzz hinf hzs hone hw9
    go_wp2_with fail
    refine HS.out.mono ?_
    rintro e w11 ⟨rfl, hb11⟩
    obtain ⟨X, Z, hX, hinf, hone, hzz, hzs, hg4, hb5⟩ := store_digest (shaL_length (xorBy (keyBlk (keyOf key)) 92 ++ D)) (by simp) (HZ10.out.below hb11) (by omega : w.heap.size ≤ w.heap.size + 1) (HB10.out.trans (hb11.mono HB10.out.size))
    rw [hX]
    have HX := Lib.hid hX
    have HBE := Lib.hid hb5
    clear hX hb11 hb5
    go_wp2_with (refine wpList_store_row rfl 23 _ _ rfl (w.heap.size + 1) X rfl rfl 23 Z hzz hinf hzs hone ?_)
    refine bodyPost_ret (results_cell_row rfl _ _ (w.heap.size + 1) 23 X (0, 0) _ rfl hg4 Tryd.underlying23 rfl hinf) rfl ?_
    exact ⟨by rw [← HX.out, hmacL, padK, padK, HD.out], HBE.out⟩
end Go.Proofs.YtlfchhnkchcjcaaDoor
