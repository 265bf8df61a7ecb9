/- octets.Split, the document's Split -/
import Derived.Test.YtnhfpjjmhanehaaOct
namespace Go.Proofs.Ytnhfpjjmhanehaa
set_option linter.unusedVariables false
set_option linter.unusedSimpArgs false
open Go.RowKit

/-- How the range of n things from 'at' on is cut at the multiples of 'step', by rounds. -/
def splitF (step : Nat) : Nat → Nat → Nat → List (Nat × Nat)
  | 0, _, _ => []
  | k + 1, x, n => if n = 0 then [] else (x, min n (step - x % step)) :: splitF step k (x + min n (step - x % step)) (n - min n (step - x % step))

theorem splitF_zero (step k x : Nat) : splitF step k x 0 = [] := by cases k <;> simp [splitF]

theorem splitF_more (step : Nat) (hs : 1 ≤ step) : ∀ (n k j x : Nat), n ≤ k → n ≤ j → splitF step k x n = splitF step j x n := by
  intro n
  induction n using Nat.strongRecOn with
  | _ n ih =>
    intro k j x hk hj
    by_cases hn : n = 0
    · subst hn; rw [splitF_zero, splitF_zero]
    · obtain ⟨k, rfl⟩ : ∃ m, k = m + 1 := ⟨k - 1, by omega⟩
      obtain ⟨j, rfl⟩ : ∃ m, j = m + 1 := ⟨j - 1, by omega⟩
      have hm := Nat.mod_lt x hs
      simp only [splitF, if_neg hn]
      rw [ih (n - min n (step - x % step)) (by omega) k j _ (by omega) (by omega)]

def splitL (step x n : Nat) : List (Nat × Nat) := splitF step n x n

theorem splitL_zero (step x : Nat) : splitL step x 0 = [] := rfl
theorem splitL_cons (step x n : Nat) (hs : 1 ≤ step) (hn : 0 < n) :
    splitL step x n = (x, min n (step - x % step)) :: splitL step (x + min n (step - x % step)) (n - min n (step - x % step)) := by
  obtain ⟨n, rfl⟩ : ∃ m, n = m + 1 := ⟨n - 1, by omega⟩
  have hm := Nat.mod_lt x hs
  unfold splitL
  rw [splitF, if_neg (by omega), splitF_more step hs _ n _ _ (by omega) (Nat.le_refl _)]

theorem splitL_length (step : Nat) (hs : 1 ≤ step) : ∀ (n x : Nat), (splitL step x n).length ≤ n := by
  intro n
  induction n using Nat.strongRecOn with
  | _ n ih =>
    intro x
    by_cases hn : n = 0
    · subst hn; simp [splitL_zero]
    · have hm := Nat.mod_lt x hs
      rw [splitL_cons step x n hs (by omega), List.length_cons]
      have := ih (n - min n (step - x % step)) (by omega) (x + min n (step - x % step))
      omega

/-- Lists of pairs as cells. -/
def cs2 (l : List (Nat × Nat)) : List Value := l.flatMap fun p => [.int .i64 (p.1 : Int), .int .i64 (p.2 : Int)]
theorem cs2_length (l : List (Nat × Nat)) : (cs2 l).length = l.length * 2 := by
  induction l with
  | nil => rfl
  | cons p l ih => simp [cs2] at *; omega
theorem cs2_append (l m : List (Nat × Nat)) : cs2 (l ++ m) = cs2 l ++ cs2 m := by simp [cs2]
theorem cs2_get (l : List (Nat × Nat)) : ∀ (i : Nat) (h : i < l.length), (cs2 l)[2 * i]? = some (.int .i64 ((l[i]).1 : Int)) ∧ (cs2 l)[2 * i + 1]? = some (.int .i64 ((l[i]).2 : Int)) := by
  induction l with
  | nil => intro i h; simp at h
  | cons p l ih =>
    intro i h
    cases i with
    | zero => simp [cs2]
    | succ i =>
      have := ih i (by simpa using h)
      have e : cs2 (p :: l) = .int .i64 (p.1 : Int) :: .int .i64 (p.2 : Int) :: cs2 l := rfl
      rw [e, show 2 * (i + 1) = 2 * i + 1 + 1 by omega]
      simpa using this
theorem cs2_one (l : List (Nat × Nat)) : ∀ u ∈ cs2 l, u.oneCell' = true := by
  intro u hu
  obtain ⟨p, _, hp⟩ := List.mem_flatMap.1 hu
  simp at hp
  rcases hp with rfl | rfl <;> rfl

theorem info_2 : (Try.prog.info? 38).map (fun i => (i.zero, i.size, i.bytes)) = some (some (.agg #[.int .i64 0, .int .i64 0]), 2, 16) := by kernel_rfl

def OwnP (w : World) (base : Nat) (v : Value) (l : List (Nat × Nat)) : Prop := w.ownsRow base 38 2 v l.length (cs2 l)
theorem OwnP.shape {w : World} {base : Nat} {v : Value} {l : List (Nat × Nat)} (h : OwnP w base v l) : ∃ a c, v = .slice a l.length c ∧ l.length ≤ c := Own.shape h

theorem OwnP.alloc {w : World} {base : Nat} {v : Value} {l : List (Nat × Nat)} (h : OwnP w base v l) (o : Obj) : OwnP (w.alloc o) base v l := World.ownsRow.alloc h o
theorem OwnP.below {w w' : World} {base : Nat} {v : Value} {l : List (Nat × Nat)} (h : OwnP w base v l) (hb : Below w.heap.size w w') : OwnP w' base v l := Own.below h hb
theorem Below.appP {w0 w w' : World} {base : Nat} {v : Value} {l : List (Nat × Nat)} (hb : Below w0.heap.size w0 w) (h : OwnP w base v l) (hbase : w0.heap.size ≤ base) (hg : w.grownBy w' v.ownBlock) : Below w0.heap.size w0 w' :=
  hb.grown hg hb.size fun k hk => Nat.le_trans hbase (World.ownsRow.lt h k hk).1

def validB (x n s : Int) : Prop := 1 ≤ s ∧ n ≤ 65536 ∧ 0 ≤ x ∧ 0 ≤ n ∧ n ≤ 2147483647 - x

theorem split_bad (x n s : Int) (w : World) (hx : -9223372036854775808 ≤ x ∧ x ≤ 9223372036854775807) (hn : -9223372036854775808 ≤ n ∧ n ≤ 9223372036854775807) (hs : -9223372036854775808 ≤ s ∧ s ≤ 9223372036854775807)
    (h : ¬ validB x n s) :
    Calls Try.prog 20 #[.int .i64 x, .int .i64 n, .int .i64 s] w fun e w' => e = .returned (.slice none 0 0) ∧ w = w' := by
  unfold validB at h
  by_cases h1 : s < 1
  · go_enter Try.func20, Try.ntmps20
    go_wp2_with fail
    go_ret
    exact ⟨rfl, rfl⟩
  · by_cases h2 : 65536 < n
    · go_enter Try.func20, Try.ntmps20
      go_wp2_with fail
      go_ret
      exact ⟨rfl, rfl⟩
    · have hf := fits_no (show ¬ (0 ≤ x ∧ 0 ≤ n ∧ x ≤ 2147483647 ∧ n ≤ 2147483647 - x) by omega)
      have C := Lib.hid (fits_any x n 2147483647 w hx hn (by omega))
      clear h
      go_enter Try.func20, Try.ntmps20
      go_wp2_with (go_at_call 17; refine C.out.mono ?_; rintro e w' ⟨rfl, rfl⟩)
      go_ret
      exact ⟨rfl, rfl⟩

def SplitPost (s x n : Nat) (w : World) (e : Ending) (w' : World) : Prop :=
  ∃ a c, e = .returned (.slice a (splitL s x n).length c) ∧ OwnP w' w.heap.size (.slice a (splitL s x n).length c) (splitL s x n) ∧ Below w.heap.size w w'

def SplitRel (s x n : Nat) (w : World) (xv nv v : Value) (wr : World) : Prop :=
  ∃ (y m : Nat) (done : List (Nat × Nat)), xv = .int .i64 y ∧ nv = .int .i64 m ∧ m ≤ n ∧ y + m = x + n ∧ (∃ a c, v = .slice a done.length c) ∧ splitL s x n = done ++ splitL s y m ∧ OwnP wr w.heap.size v done ∧ Below w.heap.size w wr

set_option maxHeartbeats 1000000 in
theorem split_good (x n s : Nat) (w : World) (hs : 1 ≤ s) (hs2 : s ≤ 9223372036854775807) (hn : n ≤ 65536) (hxn : x + n ≤ 2147483647) :
    Calls Try.prog 20 #[.int .i64 x, .int .i64 n, .int .i64 s] w (SplitPost s x n w) := by
  have hf := fits_yes (show 0 ≤ (x : Int) ∧ 0 ≤ (n : Int) ∧ (x : Int) ≤ 2147483647 ∧ (n : Int) ≤ 2147483647 - x by omega)
  have C := Lib.hid (fits_any x n 2147483647 w (by omega) (by omega) (by omega))
  have HS := Lib.hid (splitL_length s hs n x)
  go_enter Try.func20, Try.ntmps20
  go_wp2_with (go_at_call 17; refine C.out.mono ?_; rintro e w' ⟨rfl, rfl⟩)
  go_loopw [0, 1, 7] (fun xv nv v wr => SplitRel s x n w xv nv v wr) (fun _ m _ _ => (intOf m).toNat)
  case atStart => exact ⟨x, n, [], rfl, rfl, Nat.le_refl _, rfl, ⟨none, 0, rfl⟩, rfl, World.ownsRow_nil _ _ _ _, Below.refl _ _⟩
  case round =>
    obtain ⟨y, m, done, rfl, rfl, hm, hy, ⟨a, c, rfl⟩, hsp, hown, hbl⟩ := hrel
    have HSP := Lib.hid hsp
    have HO := Lib.hid hown
    have HB := Lib.hid hbl
    clear hsp hown hbl
    clear C hf
    by_cases h0 : 0 < m
    · have hmod := Nat.mod_lt y hs
      have hmin := splitL_cons s y m hs h0
      generalize hq : y % s = q at hmod hmin ⊢
      have HQ := Lib.hid hq
      have HC := Lib.hid hmin
      clear hq hmin
      have hyq : q ≤ y := by rw [← HQ.out]; exact Nat.mod_le _ _
      have e1 : ((y : Int) % (s : Int)) = (q : Int) := by rw [← HQ.out]; simp
      have e2 : ((s : Int) - (q : Int)) = ((s - q : Nat) : Int) := by omega
      have hba := HB.out.size
      have hdl : done.length ≤ n := by
        have h1 := HS.out
        rw [HSP.out, List.length_append] at h1
        omega
      by_cases hc : s - q < m
      · have HT : min m (s - q) = s - q := by omega
        have hT := Lib.hid HT
        clear HT
        go_wp2_with (at_builtin; refine wpList_append_rd rfl _ _ 36 rfl w.heap.size 38 _ 2 16 Try.underlying36 info_2 rfl (by omega) _ done.length (cs2 done) rfl (OwnP.alloc HO.out _) (wr.heap.size + 1) (some ⟨wr.heap.size, 0, none⟩) 1 1 (cs2 [(y, (s - q))]) rfl rfl (Rd.new wr (cs2 [(y, (s - q))]) 38) (cs2_one _) (by omega) (by omega) (by simp; omega) ?_)
        intro v1 w1 hown1 hgr1 hat1
        have hown2 : OwnP w1 w.heap.size v1 (done ++ [(y, (s - q))]) := by
          unfold OwnP
          rw [List.length_append, cs2_append]
          exact hown1
        have hb1 := Below.appP (HB.out.alloc hba (.cells (cs2 [(y, (s - q))]).toArray 38)) (OwnP.alloc HO.out _) (Nat.le_refl _) hgr1
        have HO1 := Lib.hid hown2
        have HB1 := Lib.hid hb1
        obtain ⟨a1, c1, rfl, _⟩ := hown2.shape
        clear hown1 hgr1 hat1 hown2 hb1 HO
        go_wp2_with fail
        go_roundw
        case rel =>
          refine ⟨y + (s - q), m - (s - q), done ++ [(y, (s - q))], by go_num, by first | rfl | (congr 1; omega), by omega, by omega, ⟨_, _, rfl⟩, ?_, HO1.out, HB1.out⟩
          rw [HSP.out, HC.out, hT.out]
          simp
        case measure => simp [intOf]; omega
      · have HT : min m (s - q) = m := by omega
        have hT := Lib.hid HT
        clear HT
        go_wp2_with (at_builtin; refine wpList_append_rd rfl _ _ 36 rfl w.heap.size 38 _ 2 16 Try.underlying36 info_2 rfl (by omega) _ done.length (cs2 done) rfl (OwnP.alloc HO.out _) (wr.heap.size + 1) (some ⟨wr.heap.size, 0, none⟩) 1 1 (cs2 [(y, m)]) rfl rfl (Rd.new wr (cs2 [(y, m)]) 38) (cs2_one _) (by omega) (by omega) (by simp; omega) ?_)
        intro v1 w1 hown1 hgr1 hat1
        have hown2 : OwnP w1 w.heap.size v1 (done ++ [(y, m)]) := by
          unfold OwnP
          rw [List.length_append, cs2_append]
          exact hown1
        have hb1 := Below.appP (HB.out.alloc hba (.cells (cs2 [(y, m)]).toArray 38)) (OwnP.alloc HO.out _) (Nat.le_refl _) hgr1
        have HO1 := Lib.hid hown2
        have HB1 := Lib.hid hb1
        obtain ⟨a1, c1, rfl, _⟩ := hown2.shape
        clear hown1 hgr1 hat1 hown2 hb1 HO
        go_wp2_with fail
        go_roundw
        case rel =>
          refine ⟨y + m, m - m, done ++ [(y, m)], by go_num, by first | rfl | (congr 1; omega), by omega, by omega, ⟨_, _, rfl⟩, ?_, HO1.out, HB1.out⟩
          rw [HSP.out, HC.out, hT.out]
          simp
        case measure => simp [intOf]; omega
    · have h0' : m = 0 := by omega
      subst h0'
      go_wp2_with fail
      go_ret
      have h := HSP.out
      rw [splitL_zero, List.append_nil] at h
      subst h
      exact ⟨_, _, rfl, HO.out, HB.out⟩
end Go.Proofs.Ytnhfpjjmhanehaa
