/- devices: Sync -/
import Derived.Test.YthenpkimcjdkcaaDv6
namespace Go.Proofs.Ythenpkimcjdkcaa
set_option linter.unusedVariables false
set_option linter.unusedSimpArgs false
open Go.RowKit

theorem info_sy : (Try.prog.info? 99).map (fun i => (i.zero, i.size, i.bytes)) = some (some (.agg #[.int .i64 0, .int .i64 0]), 2, 16) := by kernel_rfl
def syncR (D : Dv) (k : Int) : Int × Dv := if D.dead = true then (73, D) else if D.n = 0 then (71, D) else (0, { D with syncs := D.syncs ++ [(D.log.length, k)] })

set_option maxRecDepth 20000 in
set_option maxHeartbeats 2000000 in
theorem sync_any {w : World} {L : Lay} {I : Nat → Prop} {D : Dv} {k : Int} (h : DevAt w L I D) (hk : Clk w L.clk k) (hlog : D.syncs.length ≤ 1000000) :
    Calls Try.prog 17 #[.pointer (some ⟨L.g, 0, none⟩)] w (WPost L I (.int .i64 (syncR D k).1) (syncR D k).2 k w) := by
  obtain ⟨r, hr0⟩ : ∃ r, syncR D k = r := ⟨_, rfl⟩
  rw [hr0]
  have HR := Lib.hid hr0
  have HF := Lib.hid (fault_any h 0)
  have H := Lib.hid h
  have HK := Lib.hid hk
  have HL := Lib.hid hlog
  clear h hr0 hk hlog
  go_enter Try.func17, Try.ntmps17
  go_wp2_with fail
  refine HF.out.mono ?_
  rintro e w1 ⟨rfl, rfl⟩
  obtain ⟨f, hf⟩ : ∃ f, faultN D 0 = f := ⟨_, rfl⟩
  rw [hf]
  have HFE := Lib.hid hf
  clear hf HF
  by_cases hf0 : f = 0
  · subst hf0
    have HE : Hid (r = (0, { D with syncs := D.syncs ++ [(D.log.length, k)] })) := Lib.hid (by
      have h1 : ¬ D.dead = true := fun e => by have h2 := HFE.out; rw [faultN, if_pos e] at h2; cases h2
      have h2 : ¬ D.n = 0 := fun e => by have h2 := HFE.out; rw [faultN, if_neg h1, if_pos (.inr (by omega))] at h2; cases h2
      rw [← HR.out, syncR, if_neg h1, if_neg h2])
    obtain ⟨cs, hl, _⟩ := H.out.log
    obtain ⟨a5, c5, hv5, _⟩ := hl.shape
    have p5 : w.cell? ⟨L.g, 5, none⟩ = some L.vl := H.out.cell 5 _ rfl
    rw [hv5] at p5
    have p6 : w.cell? ⟨L.g, 6, none⟩ = some L.vs := H.out.cell 6 _ rfl
    have p7 := H.out.cell 7 _ rfl
    have pc := Blk.cell HK.out 0 _ rfl
    obtain ⟨m, hm⟩ : ∃ m, D.log.length = m := ⟨_, rfl⟩
    rw [hm] at p5 HE
    have HO : Hid (OwnG (w.alloc (Obj.cells #[.int .i64 (m : Int), .int .i64 k] 99)) 0 99 2 L.vs D.syncs.length (syncC D.syncs)) := Lib.hid (OwnG.alloc H.out.syncs _)
    have HRN : Hid (Rd (w.alloc (Obj.cells #[.int .i64 (m : Int), .int .i64 k] 99)) (w.heap.size + 1) (some ⟨w.heap.size, 0, none⟩) [.int .i64 (m : Int), .int .i64 k]) := Lib.hid (Rd.new w _ _)
    have HOC : Hid (∀ u ∈ [Value.int .i64 (m : Int), .int .i64 k], u.oneCell' = true) := Lib.hid (by
      intro u hu
      simp only [List.mem_cons, List.not_mem_nil, or_false] at hu
      rcases hu with rfl | rfl <;> rfl)
    have HBY : Hid ((D.syncs.length + 1) * 16 ≤ 140737488355328) := Lib.hid (by have := HL.out; omega)
    have HB3 : Hid (D.syncs.length + 1 ≤ 140737488355328) := Lib.hid (by have := HL.out; omega)
    have hbA : Below w.heap.size w (w.alloc (Obj.cells #[.int .i64 (m : Int), .int .i64 k] 99)) := (Below.refl _ _).alloc (Nat.le_refl _) _
    have HBA := Lib.hid hbA
    have hbB : Below w.heap.size w (w.alloc (Obj.cells #[.int .i64 (m : Int), .int .i64 k] 99)) := (Below.refl _ _).alloc (Nat.le_refl _) _
    have hcg : L.clk ≠ L.g := fun e => H.out.clk_notM HK.out (.inl e)
    have p6a : (w.alloc (Obj.cells #[.int .i64 (m : Int), .int .i64 k] 99)).cell? ⟨L.g, 6, none⟩ = some L.vs := (World.cell?_alloc_lt w _ _ H.out.blk.lt).trans p6
    have S0 : ∀ wx, Below w.heap.size w wx → wx.cell? ⟨L.g, 5, none⟩ = some (.slice a5 m c5) ∧ wx.cell? ⟨L.g, 7, none⟩ = some (.pointer (some ⟨L.clk, 0, none⟩)) ∧ wx.cell? ⟨L.clk, 0, none⟩ = some (.int .i64 k) := fun wx hx => ⟨(hx.cell (p := ⟨L.g, 5, none⟩) H.out.blk.lt).trans p5, (hx.cell (p := ⟨L.g, 7, none⟩) H.out.blk.lt).trans p7, (hx.cell (p := ⟨L.clk, 0, none⟩) (Blk.lt HK.out)).trans pc⟩
    have S1 := S0 _ (Below.refl _ _)
    have S2 : ∀ o, (w.alloc o).cell? ⟨L.g, 5, none⟩ = some (.slice a5 m c5) ∧ (w.alloc o).cell? ⟨L.g, 7, none⟩ = some (.pointer (some ⟨L.clk, 0, none⟩)) ∧ (w.alloc o).cell? ⟨L.clk, 0, none⟩ = some (.int .i64 k) := fun o => S0 _ ((Below.refl _ _).alloc (Nat.le_refl _) o)
    have HS2 := Lib.hid S2
    have KP : Hid (∀ w4, (w.alloc (Obj.cells #[.int .i64 (m : Int), .int .i64 k] 99)).grownBy w4 L.vs.ownBlock → (∃ u, w4.cell? ⟨L.g, 6, none⟩ = some u) ∧ w4.frozen? ⟨L.g, 6, none⟩ = false ∧ (w4.cell? ⟨L.g, 5, none⟩ = some (.slice a5 m c5) ∧ w4.cell? ⟨L.g, 7, none⟩ = some (.pointer (some ⟨L.clk, 0, none⟩)) ∧ w4.cell? ⟨L.clk, 0, none⟩ = some (.int .i64 k)) ∧ ∀ u, (w4.setCell ⟨L.g, 6, none⟩ u).cell? ⟨L.g, 5, none⟩ = some (.slice a5 m c5) ∧ (w4.setCell ⟨L.g, 6, none⟩ u).cell? ⟨L.g, 7, none⟩ = some (.pointer (some ⟨L.clk, 0, none⟩)) ∧ (w4.setCell ⟨L.g, 6, none⟩ u).cell? ⟨L.clk, 0, none⟩ = some (.int .i64 k)) := Lib.hid (fun w4 hg4 => by
      have hA := H.out.below hbB
      have hkg : w4.heap[L.g]? = w.heap[L.g]? := (hg4.block L.g hA.blk.lt (fun e => (hA.ne.2.2.2.2 L.g e.symm).1 rfl)).trans (hbB.block _ H.out.blk.lt)
      have hkc : w4.heap[L.clk]? = w.heap[L.clk]? := (hg4.block L.clk (Blk.lt (Blk.below HK.out hbB)) (fun e => H.out.clk_notM HK.out (.inr (.inr (.inr (.inr (.inr e.symm))))))).trans (hbB.block _ (Blk.lt HK.out))
      have c5' : w4.cell? ⟨L.g, 5, none⟩ = some (.slice a5 m c5) := (World.cell?_of_block (a := ⟨L.g, 5, none⟩) hkg).trans p5
      have c7' : w4.cell? ⟨L.g, 7, none⟩ = some (.pointer (some ⟨L.clk, 0, none⟩)) := (World.cell?_of_block (a := ⟨L.g, 7, none⟩) hkg).trans p7
      have cc' : w4.cell? ⟨L.clk, 0, none⟩ = some (.int .i64 k) := (World.cell?_of_block (a := ⟨L.clk, 0, none⟩) hkc).trans pc
      refine ⟨⟨_, (World.cell?_of_block (a := ⟨L.g, 6, none⟩) hkg).trans p6⟩, (World.frozen?_of_block (a := ⟨L.g, 6, none⟩) hkg).trans (H.out.blk.frozen 6), ⟨c5', c7', cc'⟩, fun u => ⟨(World.cell?_setCell_other _ _ _ _ (by simp)).trans c5', (World.cell?_setCell_other _ _ _ _ (by simp)).trans c7', (World.cell?_setCell_other _ _ _ _ (by simp [hcg.symm])).trans cc'⟩⟩)
    clear hl hv5 hm hbA hbB hcg S0 S2
    go_upto_region 3 with (fail)
    go_region_law ((refine step_append_g (by rfl) (.tmp 12) (.tmp 25) 93 (by rfl) 0 99 (.agg #[.int .i64 0, .int .i64 0]) 2 16 Try.underlying93 info_sy (by rfl) (by omega) L.vs D.syncs.length (syncC D.syncs) (by rfl) HO.out (w.heap.size + 1) (some ⟨w.heap.size, 0, none⟩) 1 1 [.int .i64 (m : Int), .int .i64 k] (by rfl) rfl HRN.out HOC.out HBY.out HB3.out (Nat.zero_le _) ?_; intro v4 w4 hown4 hg4' hat4; have hg4 := grown_drew hg4'; clear hg4'; obtain ⟨a4, c4, rfl, _⟩ := OwnG.shape hown4; obtain ⟨⟨u6, p6'⟩, f6', _, _⟩ := KP.out w4 hg4))
    all_goals
      have hA := H.out.below HBA.out
      have hfin := hA.addSync (m, k) hown4 hg4
      have hgr : Grow w (w4.setCell ⟨L.g, 6, none⟩ (.slice a4 (D.syncs.length + 1) c4)) L { L with vs := .slice a4 (D.syncs.length + 1) c4 } I I := by
        refine ⟨rfl, rfl, ?_, ?_, fun _ => .inl⟩
        · exact ((Chg.of_below HBA.out).trans' (Chg.of_grown hg4 (fun j hj => .inl (.inr (.inr (.inr (.inr (.inr hj)))))))).trans' (Chg.setCell w4 _ _ (.inl (.inl rfl)))
        · intro j hj
          rcases hj with hj | hj | hj | hj | hj | hj
          · exact .inl (.inl hj)
          · exact .inl (.inr (.inl hj))
          · exact .inl (.inr (.inr (.inl hj)))
          · exact .inl (.inr (.inr (.inr (.inl hj))))
          · exact .inl (.inr (.inr (.inr (.inr (.inl hj)))))
          · rcases hat4 with hat | hat
            · exact .inl (.inr (.inr (.inr (.inr (.inr (by rw [← hat]; exact hj))))))
            · right
              have : (Value.slice a4 (D.syncs.length + 1) c4).ownBlock = some j := hj
              rw [hat] at this
              injection this with this
              rw [← this]
              simp
      have n1 := H.out.clk_notM HK.out
      have hck : Clk (w4.setCell ⟨L.g, 6, none⟩ (.slice a4 (D.syncs.length + 1) c4)) L.clk k := Blk.keep (Blk.keep (Blk.below HK.out HBA.out) (hg4.block _ (Blk.lt (Blk.below HK.out HBA.out)) (fun e => n1 (.inr (.inr (.inr (.inr (.inr e.symm)))))))) (Below.heap_setCell _ _ _ _ (fun e => n1 (.inl e)))
      have HFIN := Lib.hid hfin
      have HGR := Lib.hid hgr
      have HCK := Lib.hid hck
      clear hA hfin hown4 hg4 hat4 hgr hck n1 p5 p6 p7 pc p6' f6'
      go_wp2_with fail
      go_ret
      rw [HE.out]
      exact ⟨rfl, _, I, HFIN.out, HCK.out, HGR.out⟩
  · have HE : Hid (r = (f, D)) := Lib.hid (by
      have h2 := HFE.out
      rw [← HR.out, syncR]
      by_cases hd : D.dead = true
      · rw [if_pos hd]
        rw [faultN, if_pos hd] at h2
        rw [h2]
      · rw [if_neg hd]
        rw [faultN, if_neg hd] at h2
        by_cases hn : D.n = 0
        · rw [if_pos hn]
          rw [if_pos (.inr (by omega))] at h2
          rw [h2]
        · rw [if_neg (by omega)] at h2
          exact absurd h2.symm hf0)
    have hfB : (f == 0) = false := beq_eq_false_iff_ne.2 hf0
    go_wp2_with fail
    go_ret
    rw [HE.out]
    exact ⟨rfl, L, I, H.out, HK.out, Grow.refl _ _ _⟩

end Go.Proofs.Ythenpkimcjdkcaa
