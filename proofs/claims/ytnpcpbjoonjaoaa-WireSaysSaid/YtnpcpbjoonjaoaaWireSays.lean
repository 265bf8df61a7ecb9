/- WireSays: the walk -/
import Derived.Test.YtnpcpbjoonjaoaaWireLaw
namespace Go.Proofs.Ytnpcpbjoonjaoaa
set_option linter.unusedVariables false
set_option linter.unusedSimpArgs false
open Go.RowKit

abbrev SaidTy : Ty := .st (.pair (.int .i64) (.pair (.int .i64) (.pair (.int .u64) (.pair (.bytes) (.pair (.bool) (.unit))))))

theorem said_open (cs : Array Value) (x : SaidTy.den) (w : World) (h : SaidTy.reads w (Value.agg cs).cells.toList x) :
    ∃ (A Bv : Int) (ck : Nat) (data : List UInt8) (last : Bool) (ad : Option Addr) (cd : Nat), cs = #[.int .i64 A, .int .i64 Bv, .int .u64 (ck : Int), .slice ad data.length cd, .bool last] ∧
      (Lit.int .i64 A).wf = true ∧ (Lit.int .i64 Bv).wf = true ∧ ck < 18446744073709551616 ∧ BytesIn w ad data.length cd data := by
  obtain ⟨A, Bv, ck, data, last, u⟩ := x
  obtain ⟨cs1, hc1, hA, h⟩ := reads_int h
  obtain ⟨cs2, hc2, hB, h⟩ := reads_int h
  obtain ⟨cs3, hc3, hC, h⟩ := reads_int h
  obtain ⟨ad, nd, cd, cs4, hc4, hD, h⟩ := reads_bytes h
  obtain ⟨cs5, hc5, h⟩ := reads_bool h
  have h5 : cs5 = [] := h
  subst h5; subst hc5; subst hc4; subst hc3; subst hc2
  obtain ⟨n, hn, hlt⟩ := u64_nat ck hC
  have hnd : List.length data = nd := hD.len_eq
  subst hnd
  subst hn
  exact ⟨A, Bv, n, data, last, ad, cd, toArray_of hc1, hA, hB, hlt, hD⟩

theorem own77 {data : List UInt8} {w : World} {base : Nat} {v : Value} (h : OwnB w base v ([] ++ data ++ [77])) :
    ∃ g off cap, v = .slice (some ⟨g, off, none⟩) (data.length + 1) cap ∧ data.length + 1 ≤ cap ∧ base ≤ g ∧ g < w.heap.size ∧ (data.length : Int) ≤ (cap : Int) := by
  obtain ⟨g, off, cap, hv, h1, h2, h3, _⟩ := h.form (by simp)
  have hl : ([] ++ data ++ [77]).length = data.length + 1 := by simp
  rw [hl] at hv h3
  exact ⟨g, off, cap, hv, h3, h1, h2, by omega⟩

theorem chunk_any (last : Bool) (a : Int) (cookie : Nat) (ad : Option Addr) (nd cd : Nat) (data : List UInt8) (w : World) (hdn : data.length = nd) (hdl : nd ≤ 140737488351232) (hrd : Rd w w.heap.size ad (bs data)) (hck : cookie < 18446744073709551616) :
    Calls Try.prog 20 #[.bool last, .int .i64 a, .int .u64 cookie, .slice ad nd cd] w (MsgPost (chunkL last a cookie data) w) := by
  cases last
  · exact chunk_false_any a cookie ad nd cd data w hdn hdl hrd hck
  · exact chunk_true_any a cookie ad nd cd data w hdn hdl hrd hck
theorem rchunk_any (last : Bool) (a : Int) (cookie : Nat) (ad : Option Addr) (nd cd : Nat) (data : List UInt8) (w : World) (hdn : data.length = nd) (hdl : nd ≤ 140737488351232) (hrd : Rd w w.heap.size ad (bs data)) (hck : cookie < 18446744073709551616) :
    Calls Try.prog 21 #[.bool last, .int .i64 a, .int .u64 cookie, .slice ad nd cd] w (MsgPost (chunkL last a cookie data) w) := by
  cases last
  · exact rchunk_false_any a cookie ad nd cd data w hdn hdl hrd hck
  · exact rchunk_true_any a cookie ad nd cd data w hdn hdl hrd hck

def SaysPost (wc W : World) (out : List UInt8) (e : Ending) (w' : World) : Prop :=
  ∃ a n c, e = .returned (.slice a n c) ∧ OwnB w' wc.heap.size (.slice a n c) out ∧ Below wc.heap.size wc w' ∧ Below W.heap.size W w'

theorem says_of {wc W : World} {f : FuncId} {args : Array Value} {out : List UInt8} (hW : Below wc.heap.size wc W) (h : Calls Try.prog f args W (MsgPost out W)) : Calls Try.prog f args W (SaysPost wc W out) := by
  refine h.mono ?_
  rintro e w' ⟨a, n, c, rfl, hown, hb⟩
  exact ⟨a, n, c, rfl, hown.base_mono hW.size, hW.trans (hb.mono hW.size), hb⟩

def OwnRel (data : List UInt8) (w : World) (v : Value) (wc : World) : Prop :=
  ∃ g off c, v = .slice (some ⟨g, off, none⟩) data.length c ∧ data.length + 1 ≤ c ∧ w.heap.size ≤ g ∧ g < wc.heap.size ∧ Rd wc wc.heap.size (some ⟨g, off, none⟩) (bs (data ++ [77])) ∧ Below w.heap.size w wc

set_option maxRecDepth 100000 in
set_option maxHeartbeats 4000000 in
theorem law_WireSays (cs : Array Value) (x : SaidTy.den) (w : World) (h : SaidTy.reads w (Value.agg cs).cells.toList x) :
    Calls Try.prog 3 #[.agg cs] w fun e w' => e = .returned (.bool true) ∧ Below w.heap.size w w' := by
  obtain ⟨A, Bv, ck, data, last, ad, cd, rfl, hA, hB, hck, hD⟩ := said_open cs x w h
  have hcd := hD.le_cap
  have hsm := hD.small
  have HRD := Lib.hid hD.rd
  clear hA hB hD h x
  go_enter Try.func3, Try.ntmps3
  go_upto_region 1 with (fail)
  have c0 : (w.alloc (Obj.cells #[.int .i64 A, .int .i64 Bv, .int .u64 (ck : Int), .slice ad data.length cd, .bool last] 25)).cell? ⟨w.heap.size, 0, none⟩ = some (.int .i64 A) := by go_simp
  have c1 : (w.alloc (Obj.cells #[.int .i64 A, .int .i64 Bv, .int .u64 (ck : Int), .slice ad data.length cd, .bool last] 25)).cell? ⟨w.heap.size, 1, none⟩ = some (.int .i64 Bv) := by go_simp
  have c2 : (w.alloc (Obj.cells #[.int .i64 A, .int .i64 Bv, .int .u64 (ck : Int), .slice ad data.length cd, .bool last] 25)).cell? ⟨w.heap.size, 2, none⟩ = some (.int .u64 (ck : Int)) := by go_simp
  have c3 : (w.alloc (Obj.cells #[.int .i64 A, .int .i64 Bv, .int .u64 (ck : Int), .slice ad data.length cd, .bool last] 25)).cell? ⟨w.heap.size, 3, none⟩ = some (.slice ad data.length cd) := by go_simp
  have c4 : (w.alloc (Obj.cells #[.int .i64 A, .int .i64 Bv, .int .u64 (ck : Int), .slice ad data.length cd, .bool last] 25)).cell? ⟨w.heap.size, 4, none⟩ = some (.bool last) := by go_simp
  have HB0 := Lib.hid ((Below.refl w.heap.size w).alloc (Nat.le_refl _) (Obj.cells #[.int .i64 A, .int .i64 Bv, .int .u64 (ck : Int), .slice ad data.length cd, .bool last] 25))
  have hs0 : w.heap.size < (w.alloc (Obj.cells #[.int .i64 A, .int .i64 Bv, .int .u64 (ck : Int), .slice ad data.length cd, .bool last] 25)).heap.size := by simp
  generalize w.alloc (Obj.cells #[.int .i64 A, .int .i64 Bv, .int .u64 (ck : Int), .slice ad data.length cd, .bool last] 25) = W0 at c0 c1 c2 c3 c4 HB0 hs0 ⊢
  have C0 := Lib.hid c0
  have C1 := Lib.hid c1
  have C2 := Lib.hid c2
  have C4 := Lib.hid c4
  clear c0 c1 c2 c4
  go_cut [3] (fun v3 wc => OwnRel data W0 v3 wc)
  case first =>
    have L1 : OwnB (W0.alloc (Obj.cells #[] 5)).drew W0.heap.size (.slice (some ⟨W0.heap.size, 0, none⟩) 0 0) [] := OwnB.drew (OwnB.lit0 W0)
    have L2 : OwnB ((W0.alloc (Obj.cells #[] 5)).alloc (Obj.cells #[Value.int IntKind.u8 77] 5)).drew W0.heap.size (.slice (some ⟨W0.heap.size, 0, none⟩) 0 0) [] := OwnB.drew ((OwnB.lit0 W0).alloc _)
    have R1 : Rd (W0.alloc (Obj.cells #[] 5)).drew w.heap.size ad (bs data) := Rd.drew ((HRD.out.below HB0.out).alloc (Nat.le_of_lt hs0) _)
    have R2 : Rd ((W0.alloc (Obj.cells #[] 5)).alloc (Obj.cells #[Value.int IntKind.u8 77] 5)).drew w.heap.size ad (bs data) := Rd.drew (((HRD.out.below HB0.out).alloc (Nat.le_of_lt hs0) _).alloc (by simp; omega) _)
    have N1 : W0.heap.size ≤ (W0.alloc (Obj.cells #[] 5)).drew.heap.size := by simp
    have N2 : W0.heap.size ≤ ((W0.alloc (Obj.cells #[] 5)).alloc (Obj.cells #[Value.int IntKind.u8 77] 5)).drew.heap.size := by simp; omega
    have S1 : ([] : List UInt8).length + data.length ≤ 140737488355328 := by simp; omega
    have S2 : (([] : List UInt8) ++ data).length + 1 ≤ 140737488355328 := by simp; omega
    have K1 : ∀ w1, (W0.alloc (Obj.cells #[] 5)).drew.grownBy w1 (Value.slice (some ⟨W0.heap.size, 0, none⟩) 0 0).ownBlock → w1.cell? ⟨w.heap.size, 3, none⟩ = some (.slice ad data.length cd) := fun w1 hg => by
      rw [L1.far hg (by exact hs0) N1]; go_simp
    have K2 : ∀ w1, ((W0.alloc (Obj.cells #[] 5)).alloc (Obj.cells #[Value.int IntKind.u8 77] 5)).drew.grownBy w1 (Value.slice (some ⟨W0.heap.size, 0, none⟩) 0 0).ownBlock → w1.cell? ⟨w.heap.size, 3, none⟩ = some (.slice ad data.length cd) := fun w1 hg => by
      rw [L2.far hg (by exact hs0) N2]; go_simp
    have M1 : ∀ w1, (W0.alloc (Obj.cells #[] 5)).drew.grownBy w1 (Value.slice (some ⟨W0.heap.size, 0, none⟩) 0 0).ownBlock → W0.heap.size ≤ (w1.alloc (Obj.cells #[Value.int IntKind.u8 77] 5)).heap.size := fun w1 hg => by
      have := hg.size; simp at this ⊢; omega
    have M2 : ∀ w1, ((W0.alloc (Obj.cells #[] 5)).alloc (Obj.cells #[Value.int IntKind.u8 77] 5)).drew.grownBy w1 (Value.slice (some ⟨W0.heap.size, 0, none⟩) 0 0).ownBlock → W0.heap.size ≤ w1.heap.size ∧ Rd w1 (W0.heap.size + 1 + 1) (some ⟨W0.heap.size + 1, 0, none⟩) (bs [77]) := fun w1 hg => by
      have := hg.size
      refine ⟨by simp at this ⊢; omega, ?_⟩
      have h := Rd.off (Rd.drew (Rd.new (W0.alloc (Obj.cells #[] 5)) (bs [77]) 5)) hg (by simp) (by simp [Value.ownBlock])
      simpa using h
    have L3 : OwnB ((W0.alloc (Obj.cells #[Value.int IntKind.u8 77] 5)).alloc (Obj.cells #[] 5)).drew W0.heap.size (.slice (some ⟨W0.heap.size + 1, 0, none⟩) 0 0) [] := by
      have h := OwnB.drew (OwnB.lit0 (W0.alloc (Obj.cells #[Value.int IntKind.u8 77] 5)))
      rw [World.size_alloc] at h
      exact h.base_mono (by omega)
    have R3 : Rd ((W0.alloc (Obj.cells #[Value.int IntKind.u8 77] 5)).alloc (Obj.cells #[] 5)).drew w.heap.size ad (bs data) := Rd.drew (((HRD.out.below HB0.out).alloc (Nat.le_of_lt hs0) _).alloc (by simp; omega) _)
    have N3 : W0.heap.size ≤ (((W0.alloc (Obj.cells #[Value.int IntKind.u8 77] 5)).alloc (Obj.cells #[] 5)).drew).heap.size := by simp; omega
    have K3 : ∀ w1, (((W0.alloc (Obj.cells #[Value.int IntKind.u8 77] 5)).alloc (Obj.cells #[] 5)).drew).grownBy w1 (Value.slice (some ⟨W0.heap.size + 1, 0, none⟩) 0 0).ownBlock → w1.cell? ⟨w.heap.size, 3, none⟩ = some (.slice ad data.length cd) := fun w1 hg => by
      rw [L3.far hg (by exact hs0) N3]; go_simp
    have M3 : ∀ w1, (((W0.alloc (Obj.cells #[Value.int IntKind.u8 77] 5)).alloc (Obj.cells #[] 5)).drew).grownBy w1 (Value.slice (some ⟨W0.heap.size + 1, 0, none⟩) 0 0).ownBlock → W0.heap.size ≤ w1.heap.size ∧ Rd w1 (W0.heap.size + 1) (some ⟨W0.heap.size, 0, none⟩) (bs [77]) := fun w1 hg => by
      have := hg.size
      refine ⟨by simp at this ⊢; omega, ?_⟩
      exact Rd.off (Rd.drew ((Rd.new W0 (bs [77]) 5).alloc (by simp) _)) hg (by simp; omega) (by simp [Value.ownBlock])
    go_region_held3 (fun w' => w'.cell? ⟨w.heap.size, 3, none⟩ = some (.slice ad data.length cd))
      (first
        | go_keep
        | exact hk1
        | (rw [hown1.far hgr2 (by exact hs0) hwz]; assumption))
      (first
        | (refine step_app (by rfl) (.tmp 8) (.tmp 10) (by rfl) W0.heap.size _ [] (by rfl) L1 w.heap.size ad data.length cd data (by rfl) rfl R1 S1 N1 ?_; intro v1 w1 hown1 hgr1 hat1; have hk1 := K1 w1 hgr1; have hwz := M1 w1 hgr1; have hown1 := hown1.alloc (Obj.cells #[Value.int IntKind.u8 77] 5))
        | (refine step_app (by rfl) (.tmp 8) (.tmp 10) (by rfl) W0.heap.size _ [] (by rfl) L2 w.heap.size ad data.length cd data (by rfl) rfl R2 S1 N2 ?_; intro v1 w1 hown1 hgr1 hat1; have hk1 := K2 w1 hgr1; obtain ⟨hwz, hr77⟩ := M2 w1 hgr1)
        | (refine step_app (by rfl) (.tmp 8) (.tmp 10) (by rfl) W0.heap.size _ [] (by rfl) L3 w.heap.size ad data.length cd data (by rfl) rfl R3 S1 N3 ?_; intro v1 w1 hown1 hgr1 hat1; have hk1 := K3 w1 hgr1; obtain ⟨hwz, hr77⟩ := M3 w1 hgr1)
        | (refine step_app (by rfl) (.tmp 11) (.tmp 12) (by rfl) W0.heap.size _ _ (by rfl) hown1 (w1.heap.size + 1) (some ⟨w1.heap.size, 0, none⟩) 1 1 [77] (by rfl) rfl (Rd.new w1 (bs [77]) 5) S2 hwz ?_; intro v2 w2 hown2 hgr2 hat2; obtain ⟨g, off, cap, hv, hcap1, hg1, hg2, hcap2⟩ := own77 hown2; subst hv)
        | (refine step_app (by rfl) (.tmp 11) (.tmp 12) (by rfl) W0.heap.size _ _ (by rfl) hown1 (W0.heap.size + 1 + 1) (some ⟨W0.heap.size + 1, 0, none⟩) 1 1 [77] (by rfl) rfl hr77 S2 hwz ?_; intro v2 w2 hown2 hgr2 hat2; obtain ⟨g, off, cap, hv, hcap1, hg1, hg2, hcap2⟩ := own77 hown2; subst hv)
        | (refine step_app (by rfl) (.tmp 11) (.tmp 12) (by rfl) W0.heap.size _ _ (by rfl) hown1 (W0.heap.size + 1) (some ⟨W0.heap.size, 0, none⟩) 1 1 [77] (by rfl) rfl hr77 S2 hwz ?_; intro v2 w2 hown2 hgr2 hat2; obtain ⟨g, off, cap, hv, hcap1, hg1, hg2, hcap2⟩ := own77 hown2; subst hv))
    all_goals (go_wp2_with fail)
    all_goals go_meet
    all_goals
      have hB2 : Below W0.heap.size W0 w2 := by
        first
          | exact below_app ((below_app (((Below.refl _ W0).alloc (Nat.le_refl _) _).drew) L1 (Nat.le_refl _) hgr1).alloc (by have := hgr1.size; simp at this ⊢; omega) _) hown1 (Nat.le_refl _) hgr2
          | exact below_app (below_app ((((Below.refl _ W0).alloc (Nat.le_refl _) _).alloc (by simp) _).drew) L2 (Nat.le_refl _) hgr1) hown1 (Nat.le_refl _) hgr2
          | exact below_app (below_app ((((Below.refl _ W0).alloc (Nat.le_refl _) _).alloc (by simp) _).drew) L3 (Nat.le_refl _) hgr1) hown1 (Nat.le_refl _) hgr2
      exact ⟨g, off, cap, rfl, hcap1, hg1, hg2, by simpa using OwnB.rd hown2, hB2⟩
  case rest =>
    rename World => W1
    obtain ⟨g, off, c, rfl, hc1, hg1, hg2, hrd, hb⟩ := hcut
    have hsz := hb.size
    have hbw : Below w.heap.size w W1 := HB0.out.trans (hb.mono (Nat.le_of_lt hs0))
    have hrd1 : Rd W1 W1.heap.size (some ⟨g, off, none⟩) (bs data) := by
      have := hrd.take data.length
      rwa [← bs_take, List.take_left] at this
    have hrd2 : Rd W1 W1.heap.size ad (bs data) := (HRD.out.below hbw).lt_size
    have ST : ∀ W, Below W1.heap.size W1 W → W.cell? ⟨w.heap.size, 0, none⟩ = some (.int .i64 A) ∧ W.cell? ⟨w.heap.size, 1, none⟩ = some (.int .i64 Bv) ∧ W.cell? ⟨w.heap.size, 2, none⟩ = some (.int .u64 (ck : Int)) ∧
        W.cell? ⟨w.heap.size, 3, none⟩ = some (.slice ad data.length cd) ∧ W.cell? ⟨w.heap.size, 4, none⟩ = some (.bool last) := fun W hW => by
      have h1 : w.heap.size < W1.heap.size := by omega
      have T : ∀ (k : Nat) (v : Value), W0.cell? ⟨w.heap.size, k, none⟩ = some v → W.cell? ⟨w.heap.size, k, none⟩ = some v := fun k v hv => by
        rw [hW.cell (by exact h1), hb.cell (by exact hs0)]; exact hv
      exact ⟨T _ _ C0.out, T _ _ C1.out, T _ _ C2.out, T _ _ c3, T _ _ C4.out⟩
    have SO : ∀ W, Below W1.heap.size W1 W → Rd W W.heap.size (some ⟨g, off, none⟩) (bs data) := fun W hW => (hrd1.below hW).lt_size
    have SD : ∀ W, Below W1.heap.size W1 W → Rd W W.heap.size ad (bs data) := fun W hW => (hrd2.below hW).lt_size
    have S7 : ∀ W, Below W1.heap.size W1 W → W.cell? ⟨g, off + data.length, none⟩ = some (.int .u8 77) := fun W hW => by
      obtain ⟨b, o, hbo, _, h⟩ := hrd.byte data.length (by simp)
      obtain ⟨rfl, rfl⟩ : b = g ∧ o = off := by simpa [eq_comm] using hbo
      rw [hW.cell (by exact hg2), h]
      simp
    have hNW : w.heap.size < W1.heap.size := by omega
    have ST := Lib.hid ST
    have SO := Lib.hid SO
    have SD := Lib.hid SD
    have S7 := Lib.hid S7
    have HBW := Lib.hid hbw
    clear hrd hb hsz hrd1 hrd2 hbw HRD HB0 hs0 C0 C1 C2 c3 C4 hg1
    generalize hN : w.heap.size = N at *
    go_wp2_with fail
    refine (greeting_any _).mono ?_
    rintro e w1 ⟨a1, n1, k1, rfl, hown1, hb1⟩
    have HO1 := Lib.hid hown1
    have HB1 := Lib.hid hb1
    clear hown1 hb1
    go_wp2_with fail
    refine (rgreeting_any _).mono ?_
    rintro e w2 ⟨a2, n2, k2, rfl, hown2, hb2⟩
    have HO2 := Lib.hid hown2
    have HO1 := Lib.hid (HO1.out.below hb2)
    have HB2 := Lib.hid (HB1.out.trans (hb2.mono HB1.out.size))
    clear hown2 hb2 HB1
    go_wp2_with fail
    refine (same_any _ _ _ _ _ _ _ _ _ (OwnB.len HO1.out) (OwnB.len HO2.out) (OwnB.rd HO1.out) (OwnB.rd HO2.out)).mono ?_
    rintro e w3 ⟨rfl, rfl⟩
    clear HO1 HO2
    go_upto_region 3 with (fail)
    go_cut [5] (fun v5 w5 => v5 = .bool true ∧ Below W1.heap.size W1 w5)
    case first =>
      obtain ⟨c0, c1, c2, c3, c4⟩ := ST.out w2 HB2.out
      have hb0 := HB2.out
      have hbd := HB2.out.drew
      have CA := Lib.hid fun W hW => says_of hW (optionReply_any A Bv (some ⟨g, off, none⟩) data.length c data W rfl (by omega) (SO.out _ hW))
      have CB := Lib.hid fun W hW => says_of hW (roptionReply_any A Bv ad data.length cd data W rfl (by omega) (SD.out _ hW))
      go_region_held3 (fun w' => w'.cell? ⟨N, 0, none⟩ = some (.int .i64 A) ∧ w'.cell? ⟨N, 1, none⟩ = some (.int .i64 Bv) ∧ w'.cell? ⟨N, 3, none⟩ = some (.slice ad data.length cd))
        (first
          | go_keep
          | exact ⟨k0, k1, k3⟩)
        (first
          | (go_at_call 16; refine (CA.out _ (by assumption)).mono ?_; rintro e wa ⟨aa, na, ka, rfl, hownA, hbA, hbA2⟩; obtain ⟨k0, k1, k2, k3, k4⟩ := ST.out wa hbA; have hbAd := hbA.drew; (first | (have hownB := OwnB.below hownB hbA2) | (have hownB := OwnB.below (OwnB.drew hownB) hbA2) | skip))
          | (go_at_call 17; refine (CB.out _ (by assumption)).mono ?_; rintro e wb ⟨ab, nb, kb, rfl, hownB, hbB, hbB2⟩; obtain ⟨k0, k1, k2, k3, k4⟩ := ST.out wb hbB; have hbBd := hbB.drew; (first | (have hownA := OwnB.below hownA hbB2) | (have hownA := OwnB.below (OwnB.drew hownA) hbB2) | skip))
          | (go_at_call 13; refine (same_any _ _ _ _ _ _ _ _ _ (OwnB.len hownA) (OwnB.len hownB) (OwnB.rd hownA) (OwnB.rd hownB)).mono ?_; rintro e w3 ⟨rfl, rfl⟩))
      all_goals (go_wp2_with fail)
      all_goals go_meet
      all_goals exact ⟨by simp, by assumption⟩
    case rest =>
      rename World => W4
      obtain ⟨rfl, hb4⟩ := hcut
      have HB4 := Lib.hid hb4
      clear hb4 HB2
      go_upto_region 4 with (fail)
      go_cut [6] (fun v6 w6 => v6 = .bool true ∧ Below W1.heap.size W1 w6)
      case first =>
        obtain ⟨c0, c1, c2, c3, c4⟩ := ST.out W4 HB4.out
        have hb0 := HB4.out
        have hbd := HB4.out.drew
        have CA := Lib.hid fun W hW => says_of hW (simpleReply_any A ck (some ⟨g, off, none⟩) data.length c data W rfl (by omega) (SO.out _ hW) hck)
        have CB := Lib.hid fun W hW => says_of hW (rsimpleReply_any A ck ad data.length cd data W rfl (by omega) (SD.out _ hW) hck)
        go_region_held3 (fun w' => w'.cell? ⟨N, 0, none⟩ = some (.int .i64 A) ∧ w'.cell? ⟨N, 2, none⟩ = some (.int .u64 (ck : Int)) ∧ w'.cell? ⟨N, 3, none⟩ = some (.slice ad data.length cd))
          (first
            | go_keep
            | exact ⟨k0, k2, k3⟩)
          (first
            | (go_at_call 18; refine (CA.out _ (by assumption)).mono ?_; rintro e wa ⟨aa, na, ka, rfl, hownA, hbA, hbA2⟩; obtain ⟨k0, k1, k2, k3, k4⟩ := ST.out wa hbA; have hbAd := hbA.drew; (first | (have hownB := OwnB.below hownB hbA2) | (have hownB := OwnB.below (OwnB.drew hownB) hbA2) | skip))
            | (go_at_call 19; refine (CB.out _ (by assumption)).mono ?_; rintro e wb ⟨ab, nb, kb, rfl, hownB, hbB, hbB2⟩; obtain ⟨k0, k1, k2, k3, k4⟩ := ST.out wb hbB; have hbBd := hbB.drew; (first | (have hownA := OwnB.below hownA hbB2) | (have hownA := OwnB.below (OwnB.drew hownA) hbB2) | skip))
            | (go_at_call 13; refine (same_any _ _ _ _ _ _ _ _ _ (OwnB.len hownA) (OwnB.len hownB) (OwnB.rd hownA) (OwnB.rd hownB)).mono ?_; rintro e w3 ⟨rfl, rfl⟩))
        all_goals (go_wp2_with fail)
        all_goals go_meet
        all_goals exact ⟨by simp, by assumption⟩
      case rest =>
        rename World => W5
        obtain ⟨rfl, hb5⟩ := hcut
        have HB5 := Lib.hid hb5
        clear hb5 HB4
        go_upto_region 5 with (fail)
        go_cut [7] (fun v7 w7 => v7 = .bool true ∧ Below W1.heap.size W1 w7)
        case first =>
          obtain ⟨c0, c1, c2, c3, c4⟩ := ST.out W5 HB5.out
          have hb0 := HB5.out
          have hbd := HB5.out.drew
          have CA := Lib.hid fun W hW => says_of hW (chunk_any last A ck (some ⟨g, off, none⟩) data.length c data W rfl (by omega) (SO.out _ hW) hck)
          have CB := Lib.hid fun W hW => says_of hW (rchunk_any last A ck ad data.length cd data W rfl (by omega) (SD.out _ hW) hck)
          go_region_held3 (fun w' => w'.cell? ⟨N, 0, none⟩ = some (.int .i64 A) ∧ w'.cell? ⟨N, 2, none⟩ = some (.int .u64 (ck : Int)) ∧ w'.cell? ⟨N, 3, none⟩ = some (.slice ad data.length cd) ∧ w'.cell? ⟨N, 4, none⟩ = some (.bool last))
            (first
              | go_keep
              | exact ⟨k0, k2, k3, k4⟩)
            (first
              | (go_at_call 20; refine (CA.out _ (by assumption)).mono ?_; rintro e wa ⟨aa, na, ka, rfl, hownA, hbA, hbA2⟩; obtain ⟨k0, k1, k2, k3, k4⟩ := ST.out wa hbA; have hbAd := hbA.drew; (first | (have hownB := OwnB.below hownB hbA2) | (have hownB := OwnB.below (OwnB.drew hownB) hbA2) | skip))
              | (go_at_call 21; refine (CB.out _ (by assumption)).mono ?_; rintro e wb ⟨ab, nb, kb, rfl, hownB, hbB, hbB2⟩; obtain ⟨k0, k1, k2, k3, k4⟩ := ST.out wb hbB; have hbBd := hbB.drew; (first | (have hownA := OwnB.below hownA hbB2) | (have hownA := OwnB.below (OwnB.drew hownA) hbB2) | skip))
              | (go_at_call 13; refine (same_any _ _ _ _ _ _ _ _ _ (OwnB.len hownA) (OwnB.len hownB) (OwnB.rd hownA) (OwnB.rd hownB)).mono ?_; rintro e w3 ⟨rfl, rfl⟩))
          all_goals (go_wp2_with fail)
          all_goals go_meet
          all_goals exact ⟨by simp, by assumption⟩
        case rest =>
          rename World => W6
          obtain ⟨rfl, hb6⟩ := hcut
          have HB6 := Lib.hid hb6
          clear hb6 HB5
          go_upto_region 6 with (fail)
          obtain ⟨c0, c1, c2, c3, c4⟩ := ST.out W6 HB6.out
          have c7 := S7.out W6 HB6.out
          have hb0 := HB6.out
          have hbd := HB6.out.drew
          have cg : (data.length : Int) + 1 ≤ (c : Int) := by omega
          have e0 : (0 : Int) ≤ (data.length : Int) + 1 := by omega
          have e2 : ((data.length : Int) + 1).toNat = data.length + 1 := by omega
          have e3 : (data.length : Int) < (data.length : Int) + 1 := by omega
          have e1 : IntKind.i64.wrap ((data.length : Int) + 1) = (data.length : Int) + 1 := IntWalk.i64_in _ (by omega)
          go_region_held3 (fun w' => w'.cell? ⟨N, 0, none⟩ = some (.int .i64 A) ∧ w'.cell? ⟨N, 3, none⟩ = some (.slice ad data.length cd) ∧ w'.cell? ⟨g, off + data.length, none⟩ = some (.int .u8 77))
            (first
              | go_keep
              | exact ⟨k0, k3, k7⟩)
            (first
              | (go_at_call 22; refine (walive_any _).mono ?_; rintro e wa ⟨rfl, hba⟩; have hbA : Below W1.heap.size W1 wa := hbd.trans (hba.mono hbd.size); obtain ⟨k0, k1, k2, k3, k4⟩ := ST.out wa hbA; have k7 := S7.out wa hbA)
              | (go_at_call 23; refine (number_any A _).mono ?_; rintro e wn ⟨rfl, rfl⟩)
              | (go_at_call 24; refine (rnumber_any A _).mono ?_; rintro e wn ⟨rfl, rfl⟩))
          all_goals (go_wp2_with fail; go_ret)
          all_goals exact ⟨by simp, by rw [hN]; exact HBW.out.trans (Below.mono (by assumption) (Nat.le_of_lt hNW))⟩
end Go.Proofs.Ytnpcpbjoonjaoaa
