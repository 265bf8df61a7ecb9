/- devices: two of one clock -/
import Derived.Test.YthenpkimcjdkcaaDvC
import Derived.Test.YthenpkimcjdkcaaDvT
namespace Go.Proofs.Ythenpkimcjdkcaa
set_option linter.unusedVariables false
set_option linter.unusedSimpArgs false
open Go.RowKit

/-! ### moments -/
theorem cntM_all (m : Int) : ∀ l : List Wr, (∀ x ∈ l, x.m ≤ m) → cntM m l = l.length
  | [], _ => rfl
  | x :: l, h => by
    rw [cntM, if_pos (h x List.mem_cons_self), cntM_all m l fun y hy => h y (List.mem_cons_of_mem _ hy)]; rfl
theorem cntM_gt (m : Int) (x : Wr) (hx : m < x.m) : ∀ l : List Wr, cntM m (l ++ [x]) = cntM m l
  | [] => by
    show cntM m [x] = 0
    rw [cntM, if_neg (by omega)]
  | y :: l => by
    rw [List.cons_append, cntM, cntM, cntM_gt m x hx l]
theorem safeM_snoc (m : Int) (p : Nat × Int) : ∀ (l : List (Nat × Int)) (s : Nat), safeM m (l ++ [p]) s = if p.2 < m then p.1 else safeM m l s
  | [], s => by
    show safeM m [] _ = _
    rw [safeM]; rfl
  | q :: l, s => by rw [List.cons_append, safeM, safeM_snoc m p l, safeM]
theorem leftF_none (safe : Nat) : ∀ (l : List Wr) (i : Nat) (f : Int → List UInt8), (∀ x ∈ l, x.sure = false) → leftF safe l i [] f = applyL (l.take (safe - i)) f
  | [], i, f, _ => by rw [leftF, List.take_nil]; rfl
  | x :: l, i, f, h => by
    have hl : ∀ y ∈ l, y.sure = false := fun y hy => h y (List.mem_cons_of_mem _ hy)
    have hx := h x List.mem_cons_self
    by_cases hi : i < safe
    · obtain ⟨d, hd⟩ : ∃ d, safe - i = d + 1 := ⟨safe - i - 1, by omega⟩
      rw [leftF_keep (.inl hi), leftF_none safe l _ _ hl, hd, List.take_succ_cons, show safe - (i + 1) = d from by omega]
      rfl
    · rw [leftF_nil (by rw [hx]; simp; omega), leftF_none safe l _ _ hl, show safe - (i + 1) = 0 from by omega, show safe - i = 0 from by omega]
      rfl

/-- One of two: its number. -/
def two (s : Bool) : Nat := if s = true then 1 else 0
theorem two_lt (s : Bool) : two s < 2 := by cases s <;> decide
theorem two_inj {s t : Bool} (h : two s = two t) : s = t := by revert h; cases s <;> cases t <;> decide
def upd {α : Type} (f : Bool → α) (s : Bool) (x : α) : Bool → α := fun t => if t = s then x else f t
theorem upd_same {α : Type} (f : Bool → α) (s : Bool) (x : α) : upd f s x s = x := if_pos rfl
theorem upd_other {α : Type} (f : Bool → α) {s t : Bool} (x : α) (h : t ≠ s) : upd f s x t = f t := if_neg h

/-- What the statement knows of the devices. -/
structure TInv (M : Int) (D : Bool → Dv) (k : Int) (c : Nat) (N S : List (List UInt8)) : Prop where
  inv : ∀ s, Inv 4 (D s) k c
  m : ∀ s, ∀ x ∈ (D s).log, x.m ≤ k
  raw : ∀ s, ∀ x ∈ (D s).log, x.sure = false
  nl : N.length = 8
  sl : S.length = 8
  n64 : ∀ b ∈ N, b.length ≤ 64
  s64 : ∀ b ∈ S, b.length ≤ 64
  now : ∀ s (j : Nat), j < 4 → full (N.getD (two s * 4 + j) []) = applyL ((D s).log.take (cntM M (D s).log)) (D s).first (j : Int)
  sur : ∀ s (j : Nat), j < 4 → full (S.getD (two s * 4 + j) []) = applyL ((D s).log.take (safeM M (D s).syncs 0)) (D s).first (j : Int)
  le : ∀ s, safeM M (D s).syncs 0 ≤ cntM M (D s).log
/-- A row of four put over another. -/
def rowSet (S N : List (List UInt8)) (s : Nat) : List (List UInt8) := (((S.set (s * 4) (N.getD (s * 4) [])).set (s * 4 + 1) (N.getD (s * 4 + 1) [])).set (s * 4 + 2) (N.getD (s * 4 + 2) [])).set (s * 4 + 3) (N.getD (s * 4 + 3) [])
theorem rowSet_len (S N : List (List UInt8)) (s : Nat) : (rowSet S N s).length = S.length := by simp [rowSet]
theorem getD_set (l : List (List UInt8)) (i j : Nat) (x : List UInt8) (h : i < l.length) : (l.set i x).getD j [] = if i = j then x else l.getD j [] := by
  rw [List.getD_eq_getElem?_getD, List.getD_eq_getElem?_getD]
  by_cases e : i = j
  · subst e; rw [if_pos rfl, List.getElem?_set_self h]; rfl
  · rw [if_neg e, List.getElem?_set_ne e]
theorem rowSet_get {S N : List (List UInt8)} (hs : S.length = 8) (s t : Bool) (j : Nat) (hj : j < 4) : (rowSet S N (two s)).getD (two t * 4 + j) [] = if t = s then N.getD (two t * 4 + j) [] else S.getD (two t * 4 + j) [] := by
  have h2 := two_lt s
  rw [rowSet, getD_set _ _ _ _ (by simp [hs]; omega), getD_set _ _ _ _ (by simp [hs]; omega), getD_set _ _ _ _ (by simp [hs]; omega), getD_set _ _ _ _ (by rw [hs]; omega)]
  by_cases e : t = s
  · subst e
    rw [if_pos rfl]
    have hj4 : j = 0 ∨ j = 1 ∨ j = 2 ∨ j = 3 := by omega
    rcases hj4 with rfl | rfl | rfl | rfl
    · rw [if_neg (by omega), if_neg (by omega), if_neg (by omega), Nat.add_zero, if_pos rfl]
    · rw [if_neg (by omega), if_neg (by omega), if_pos rfl]
    · rw [if_neg (by omega), if_pos rfl]
    · rw [if_pos rfl]
  · have hne : two s ≠ two t := fun h => e (two_inj h).symm
    rw [if_neg e, if_neg (by omega), if_neg (by omega), if_neg (by omega), if_neg (by omega)]
theorem mem_getD (l : List (List UInt8)) (i : Nat) (h : ∀ b ∈ l, b.length ≤ 64) : (l.getD i []).length ≤ 64 := by
  rw [List.getD_eq_getElem?_getD]
  cases hh : l[i]? with
  | none => exact Nat.zero_le _
  | some x => exact h x (List.mem_of_getElem? hh)
theorem mem_set64 {l : List (List UInt8)} {i : Nat} {x : List UInt8} (h : ∀ b ∈ l, b.length ≤ 64) (hx : x.length ≤ 64) : ∀ b ∈ l.set i x, b.length ≤ 64 := fun b hb => (List.mem_or_eq_of_mem_set hb).elim (h b) (fun e => by rw [e]; exact hx)
theorem rowSet_64 {S N : List (List UInt8)} (s : Nat) (hs : ∀ b ∈ S, b.length ≤ 64) (hn : ∀ b ∈ N, b.length ≤ 64) : ∀ b ∈ rowSet S N s, b.length ≤ 64 :=
  mem_set64 (mem_set64 (mem_set64 (mem_set64 hs (mem_getD _ _ hn)) (mem_getD _ _ hn)) (mem_getD _ _ hn)) (mem_getD _ _ hn)
theorem full_len (b : List UInt8) (h : b.length ≤ 64) : (full b).length = 64 := by simp [full, zeros]; omega
theorem full_full (b : List UInt8) (h : b.length ≤ 64) : full (full b) = full b := by
  rw [full, full_len b h]; simp [zeros]

variable {M : Int} {D : Bool → Dv} {k : Int} {c : Nat} {N S : List (List UInt8)}
theorem TInv.new (M : Int) : TInv M (fun _ => dv0 4) 0 0 (List.replicate 8 []) (List.replicate 8 []) := by
  have h0 : ∀ (s : Bool) (j : Nat), j < 4 → full ((List.replicate 8 ([] : List UInt8)).getD (two s * 4 + j) []) = zeros 64 := by
    intro s j hj
    have h2 := two_lt s
    rw [List.getD_eq_getElem?_getD, List.getElem?_replicate, if_pos (by omega)]
    rfl
  have e1 : (dv0 4).log = [] := rfl
  have e2 : (dv0 4).syncs = [] := rfl
  have e3 : (dv0 4).first = fun _ => zeros 64 := rfl
  refine ⟨fun _ => Inv.new 4, fun _ x hx => (List.not_mem_nil hx).elim, fun _ x hx => (List.not_mem_nil hx).elim, by simp, by simp, fun b hb => ?_, fun b hb => ?_, fun s j hj => ?_, fun s j hj => ?_, fun _ => Nat.zero_le _⟩
  · rw [(List.mem_replicate.1 hb).2]; exact Nat.zero_le _
  · rw [(List.mem_replicate.1 hb).2]; exact Nat.zero_le _
  · rw [h0 s j hj, e1, e3]; rfl
  · rw [h0 s j hj, e1, e3, List.take_nil]; rfl
theorem TInv.more {c' : Nat} (h : TInv M D k c N S) (hc : c ≤ c') : TInv M D k c' N S := ⟨fun s => (h.inv s).more hc, h.m, h.raw, h.nl, h.sl, h.n64, h.s64, h.now, h.sur, h.le⟩
/-- A sync, ahead of the moment. -/
theorem TInv.sync (h : TInv M D k c N S) (s : Bool) (hk : k < M) : TInv M (upd D s (syncR (D s) k).2) k (c + 1) N (rowSet S N (two s)) := by
  have hc : cntM M (D s).log = (D s).log.length := cntM_all M _ fun x hx => by have := h.m s x hx; omega
  have e := syncR_ok (h.inv s) (by omega) k
  have elog : (syncR (D s) k).2.log = (D s).log := by rw [e]
  have efi : (syncR (D s) k).2.first = (D s).first := by rw [e]
  have esy : (syncR (D s) k).2.syncs = (D s).syncs ++ [((D s).log.length, k)] := by rw [e]
  have esa : safeM M (syncR (D s) k).2.syncs 0 = (D s).log.length := by rw [esy, safeM_snoc, if_pos hk]
  have hp : ∀ (P : Bool → Dv → Prop), P s (syncR (D s) k).2 → (∀ t, t ≠ s → P t (D t)) → ∀ t, P t (upd D s (syncR (D s) k).2 t) := fun P h1 h2 t => by
    by_cases ht : t = s
    · subst ht; rw [upd_same]; exact h1
    · rw [upd_other _ _ ht]; exact h2 t ht
  refine ⟨hp (fun _ E => Inv 4 E k (c + 1)) ((h.inv s).sync (by omega) k) fun t _ => (h.inv t).more (Nat.le_succ _), hp (fun _ E => ∀ x ∈ E.log, x.m ≤ k) (by rw [elog]; exact h.m s) fun t _ => h.m t,
    hp (fun _ E => ∀ x ∈ E.log, x.sure = false) (by rw [elog]; exact h.raw s) fun t _ => h.raw t, h.nl, by rw [rowSet_len]; exact h.sl, h.n64, rowSet_64 _ h.s64 h.n64,
    hp (fun t E => ∀ j : Nat, j < 4 → full (N.getD (two t * 4 + j) []) = applyL (E.log.take (cntM M E.log)) E.first (j : Int)) (by rw [elog, efi]; exact h.now s) fun t _ => h.now t,
    hp (fun t E => ∀ j : Nat, j < 4 → full ((rowSet S N (two s)).getD (two t * 4 + j) []) = applyL (E.log.take (safeM M E.syncs 0)) E.first (j : Int)) ?_ ?_,
    hp (fun _ E => safeM M E.syncs 0 ≤ cntM M E.log) (by rw [esa, elog, hc]; exact Nat.le_refl _) fun t _ => h.le t⟩
  · intro j hj
    rw [rowSet_get h.sl s s j hj, if_pos rfl, h.now s j hj, esa, elog, efi, hc]
  · intro t ht j hj
    rw [rowSet_get h.sl s t j hj, if_neg ht]
    exact h.sur t j hj
/-- A sync, behind it. -/
theorem TInv.sync' (h : TInv M D k c N S) (s : Bool) (hk : ¬ k < M) : TInv M (upd D s (syncR (D s) k).2) k (c + 1) N S := by
  have e := syncR_ok (h.inv s) (by omega) k
  have elog : (syncR (D s) k).2.log = (D s).log := by rw [e]
  have efi : (syncR (D s) k).2.first = (D s).first := by rw [e]
  have esa : safeM M (syncR (D s) k).2.syncs 0 = safeM M (D s).syncs 0 := by rw [e, safeM_snoc, if_neg hk]
  have hp : ∀ (P : Bool → Dv → Prop), P s (syncR (D s) k).2 → (∀ t, t ≠ s → P t (D t)) → ∀ t, P t (upd D s (syncR (D s) k).2 t) := fun P h1 h2 t => by
    by_cases ht : t = s
    · subst ht; rw [upd_same]; exact h1
    · rw [upd_other _ _ ht]; exact h2 t ht
  refine ⟨hp (fun _ E => Inv 4 E k (c + 1)) ((h.inv s).sync (by omega) k) fun t _ => (h.inv t).more (Nat.le_succ _), hp (fun _ E => ∀ x ∈ E.log, x.m ≤ k) (by rw [elog]; exact h.m s) fun t _ => h.m t,
    hp (fun _ E => ∀ x ∈ E.log, x.sure = false) (by rw [elog]; exact h.raw s) fun t _ => h.raw t, h.nl, h.sl, h.n64, h.s64,
    hp (fun t E => ∀ j : Nat, j < 4 → full (N.getD (two t * 4 + j) []) = applyL (E.log.take (cntM M E.log)) E.first (j : Int)) (by rw [elog, efi]; exact h.now s) fun t _ => h.now t,
    hp (fun t E => ∀ j : Nat, j < 4 → full (S.getD (two t * 4 + j) []) = applyL (E.log.take (safeM M E.syncs 0)) E.first (j : Int)) (by rw [esa, elog, efi]; exact h.sur s) fun t _ => h.sur t,
    hp (fun _ E => safeM M E.syncs 0 ≤ cntM M E.log) (by rw [esa, elog]; exact h.le s) fun t _ => h.le t⟩
/-- A write that fails. -/
theorem TInv.no (h : TInv M D k c N S) (s : Bool) (i : Int) (b : List UInt8) (hb : ¬ (0 ≤ i ∧ i < (4 : Nat) ∧ b.length ≤ 64)) : TInv M (upd D s (writeR (D s) i b k).2.1) (writeR (D s) i b k).2.2 (c + 1) N S := by
  have e := (writeR_no (h.inv s) i b hb).2
  rw [e]
  have : upd D s (D s) = D := by
    funext t
    by_cases ht : t = s
    · subst ht; rw [upd_same]
    · rw [upd_other _ _ ht]
  rw [this]
  exact h.more (Nat.le_succ _)
/-- A write. -/
theorem TInv.put (h : TInv M D k c N S) (s : Bool) (i : Nat) (hi : i < 4) (b : List UInt8) (hb : b.length ≤ 64) :
    (writeR (D s) (i : Int) b k).1 = 0 ∧ (writeR (D s) (i : Int) b k).2.2 = k + 1 ∧ TInv M (upd D s (writeR (D s) (i : Int) b k).2.1) (k + 1) (c + 1) (if k + 1 ≤ M then N.set (two s * 4 + i) (full b) else N) S := by
  have e := writeR_ok (h.inv s) (i : Int) b (by omega) (by omega) hb
  refine ⟨by rw [e], by rw [e], ?_⟩
  obtain ⟨E, hE⟩ : ∃ E, (D s).put (i : Int) b false (k + 1) = E := ⟨_, rfl⟩
  have hv : Inv 4 E (k + 1) (c + 1) := hE ▸ (h.inv s).put (i : Int) (by omega) (by omega) b hb false
  obtain ⟨x, hx⟩ : ∃ x : Wr, x = ⟨(i : Int), b, false, k + 1⟩ := ⟨_, rfl⟩
  have elog : E.log = (D s).log ++ [x] := by rw [← hE, hx]; rfl
  have efi : E.first = (D s).first := by rw [← hE]; rfl
  have esy : E.syncs = (D s).syncs := by rw [← hE]; rfl
  have hxm : x.m = k + 1 := by rw [hx]
  have hxs : x.sure = false := by rw [hx]
  have hxi : x.i = (i : Int) := by rw [hx]
  have hxb : x.b = b := by rw [hx]
  have hlen : (E.log).length = (D s).log.length + 1 := by rw [elog]; simp
  have hcl := cntM_le M (D s).log
  have hmn : ∀ y ∈ E.log, y.m ≤ k + 1 := by
    intro y hy
    rw [elog] at hy
    rcases List.mem_append.1 hy with hy | hy
    · have := h.m s y hy; omega
    · rw [List.mem_singleton.1 hy, hxm]; exact Int.le_refl _
  have hsn : ∀ y ∈ E.log, y.sure = false := by
    intro y hy
    rw [elog] at hy
    rcases List.mem_append.1 hy with hy | hy
    · exact h.raw s y hy
    · rw [List.mem_singleton.1 hy, hxs]
  have hp : ∀ (P : Bool → Dv → Prop), P s E → (∀ t, t ≠ s → P t (D t)) → ∀ t, P t (upd D s E t) := fun P h1 h2 t => by
    by_cases ht : t = s
    · subst ht; rw [upd_same]; exact h1
    · rw [upd_other _ _ ht]; exact h2 t ht
  have hle : cntM M (D s).log ≤ cntM M E.log := by
    by_cases hm : k + 1 ≤ M
    · rw [cntM_all M E.log fun y hy => by have := hmn y hy; omega, hlen]; omega
    · rw [elog, cntM_gt M x (by omega)]; exact Nat.le_refl _
  have hw : (writeR (D s) (i : Int) b k).2.1 = E := by rw [e]; exact hE
  rw [hw]
  refine ⟨hp (fun _ E => Inv 4 E (k + 1) (c + 1)) hv fun t _ => ⟨(h.inv t).nn, (h.inv t).dead, (h.inv t).bad, Nat.le_succ_of_le (h.inv t).log, Nat.le_succ_of_le (h.inv t).syncs, by have := (h.inv t).k0; omega, by have := (h.inv t).k1; omega, (h.inv t).int, (h.inv t).safe, (h.inv t).now, (h.inv t).first⟩,
    hp (fun _ E => ∀ x ∈ E.log, x.m ≤ k + 1) hmn fun t _ x hx => by have := h.m t x hx; omega,
    hp (fun _ E => ∀ x ∈ E.log, x.sure = false) hsn fun t _ => h.raw t, by split <;> simp [h.nl], h.sl, ?_, h.s64,
    hp (fun t E => ∀ j : Nat, j < 4 → full ((if k + 1 ≤ M then N.set (two s * 4 + i) (full b) else N).getD (two t * 4 + j) []) = applyL (E.log.take (cntM M E.log)) E.first (j : Int)) ?_ ?_,
    hp (fun t E => ∀ j : Nat, j < 4 → full (S.getD (two t * 4 + j) []) = applyL (E.log.take (safeM M E.syncs 0)) E.first (j : Int)) ?_ fun t _ => h.sur t,
    hp (fun _ E => safeM M E.syncs 0 ≤ cntM M E.log) (by rw [esy]; exact Nat.le_trans (h.le s) hle) fun t _ => h.le t⟩
  · split
    · exact mem_set64 h.n64 (by rw [full_len b hb]; exact Nat.le_refl _)
    · exact h.n64
  · intro j hj
    have h2 := two_lt s
    by_cases hm : k + 1 ≤ M
    · rw [if_pos hm, getD_set _ _ _ _ (by rw [h.nl]; omega), cntM_all M E.log fun y hy => by have := hmn y hy; omega, List.take_of_length_le (Nat.le_refl _), elog, applyL_snoc, efi, hxi, hxb]
      by_cases e : i = j
      · subst e
        rw [if_pos rfl, setF_same, full_full b hb]
      · rw [if_neg (by omega), setF_other _ (by omega), h.now s j hj, cntM_all M (D s).log fun y hy => by have := h.m s y hy; omega, List.take_of_length_le (Nat.le_refl _)]
    · rw [if_neg hm, elog, cntM_gt M x (by omega), List.take_append_of_le_length hcl, efi]
      exact h.now s j hj
  · intro t ht j hj
    rw [← h.now t j hj]
    split
    · have h2 := two_lt s
      have h3 : two s ≠ two t := fun e => ht (two_inj e).symm
      rw [getD_set _ _ _ _ (by rw [h.nl]; omega), if_neg (by omega)]
    · rfl
  · intro j hj
    rw [esy, elog, efi, List.take_append_of_le_length (Nat.le_trans (h.le s) hcl)]
    exact h.sur s j hj
theorem cutM_read {k0 : Int} (h : TInv M D k c N S) (s : Bool) (hM : 0 ≤ M) (hk : M ≤ k) (j : Nat) (hj : j < 4) :
    readR ((D s).cutM k M []) (j : Int) = (full (S.getD (two s * 4 + j) []), 0) ∧ (∀ m, c ≤ m → readR ((D s).cutM k M (List.replicate m true)) (j : Int) = (full (N.getD (two s * 4 + j) []), 0)) := by
  have hcl : clampI M k = M := by rw [clampI, if_neg (by omega), if_neg (by omega)]
  have hr : ∀ ks, readR ((D s).cutM k M ks) (j : Int) = (leftF (safeM M (D s).syncs 0) ((D s).log.take (cntM M (D s).log)) 0 ks (D s).first (j : Int), 0) := by
    intro ks
    have hf : faultN ((D s).cutM k M ks) (j : Int) = 0 := by
      have e1 : ((D s).cutM k M ks).dead = false := (h.inv s).dead
      have e2 : ((D s).cutM k M ks).n = 4 := (h.inv s).nn
      rw [faultN, e1, e2, if_neg (by simp), if_neg (by omega)]
    have hb : ((D s).cutM k M ks).bad (j : Int) = false := (h.inv s).bad _
    rw [readR, hf, hb, if_neg (by simp), if_neg (by simp), Dv.cutM, hcl]
    rfl
  refine ⟨?_, fun m hm => ?_⟩
  · rw [hr, leftF_none _ _ _ _ (fun x hx => h.raw s x (List.mem_of_mem_take hx)), Nat.sub_zero, List.take_take, Nat.min_eq_left (h.le s), h.sur s j hj]
  · rw [hr, leftF_all _ _ _ _ _ (by have := List.length_take_le (cntM M (D s).log) (D s).log; have := cntM_le M (D s).log; have := (h.inv s).log; omega), h.now s j hj]

/-! ### together -/
/-- Two devices of one clock, in blocks behind W. -/
structure Two (W w : World) (L : Bool → Lay) (I : Bool → Nat → Prop) (D : Bool → Dv) (q : Nat) (k : Int) : Prop where
  dev : ∀ s, DevAt w (L s) (I s) (D s)
  clk : Clk w q k
  same : ∀ s, (L s).clk = q
  sep : ∀ j, (L false).M j → ¬ (L true).M j
  m : ∀ s j, (L s).M j → W.heap.size ≤ j
  c : W.heap.size ≤ q
  i : ∀ s j, I s j → W.heap.size ≤ j
  bel : Below W.heap.size W w
section
variable {W w w' : World} {L : Bool → Lay} {I : Bool → Nat → Prop} {D' : Dv} {q : Nat}
theorem Two.sep' (h : Two W w L I D q k) {s t : Bool} (hst : s ≠ t) (j : Nat) (h1 : (L s).M j) : ¬ (L t).M j := by
  cases s <;> cases t
  · exact absurd rfl hst
  · exact h.sep j h1
  · exact fun h2 => h.sep j h2 h1
  · exact absurd rfl hst
theorem Two.clkAt (h : Two W w L I D q k) (s : Bool) : Clk w (L s).clk k := by rw [h.same]; exact h.clk
theorem Two.step (h : Two W w L I D q k) (s : Bool) {L' : Lay} {I' : Nat → Prop} {D' : Dv} {k' : Int} (hd : DevAt w' L' I' D') (hk : Clk w' (L s).clk k') (hg : Grow w w' (L s) L' (I s) I') :
    Two W w' (upd L s L') (upd I s I') (upd D s D') q k' := by
  have hlt : ∀ t j, (L t).M j → j < w.heap.size := fun t j hj => (h.dev t).ltM hj
  have hother : ∀ t, t ≠ s → DevAt w' (L t) (I t) (D t) := by
    intro t ht
    refine (h.dev t).chg hg.chg fun j hj => ?_
    rcases hj with hj | hj
    · refine ⟨h.sep' (Ne.symm ht) j hj, fun hi => (h.dev s).I_notM (k := j) ?_ hj⟩
      exact absurd hj ((h.dev s).notM ((h.dev t).imm j hi).choose_spec.choose_spec (by decide))
    · rw [hj, h.same s]
      exact ⟨(h.dev t).clk_notM h.clk, (h.dev t).clk_notI h.clk⟩
  have hsep : ∀ t, t ≠ s → ∀ j, L'.M j → ¬ (L t).M j := fun t ht j hj h2 => (hg.m j hj).elim (fun h1 => h.sep' (Ne.symm ht) j h1 h2) (fun h1 => by have := hlt t j h2; omega)
  refine ⟨fun t => ?_, by rw [h.same s] at hk; exact hk, fun t => ?_, fun j => ?_, fun t j => ?_, h.c, fun t j => ?_, h.bel.trans (hg.chg.below h.bel.size fun j hj => hj.elim (h.m s j) fun e => by rw [e, h.same s]; exact h.c)⟩
  · by_cases ht : t = s
    · subst ht; rw [upd_same, upd_same, upd_same]; exact hd
    · rw [upd_other _ _ ht, upd_other _ _ ht, upd_other _ _ ht]; exact hother t ht
  · by_cases ht : t = s
    · subst ht; rw [upd_same, hg.clk, h.same]
    · rw [upd_other _ _ ht, h.same]
  · cases s
    · rw [upd_same, upd_other _ _ (by decide)]
      exact hsep true (by decide) j
    · rw [upd_same, upd_other _ _ (by decide)]
      exact fun h1 h2 => hsep false (by decide) j h2 h1
  · by_cases ht : t = s
    · subst ht; rw [upd_same]
      exact fun hj => (hg.m j hj).elim (h.m t j) (Nat.le_trans h.bel.size)
    · rw [upd_other _ _ ht]; exact h.m t j
  · by_cases ht : t = s
    · subst ht; rw [upd_same]
      exact fun hj => (hg.i j hj).elim (h.i t j) (Nat.le_trans h.bel.size)
    · rw [upd_other _ _ ht]; exact h.i t j
theorem Two.below (h : Two W w L I D q k) (hb : Below w.heap.size w w') : Two W w' L I D q k :=
  ⟨fun s => (h.dev s).below hb, Clk.below h.clk hb, h.same, h.sep, h.m, h.c, h.i, h.bel.trans (hb.mono h.bel.size)⟩
theorem Two.chg {S : Nat → Prop} (h : Two W w L I D q k) (hc : Chg S w w') (hS : ∀ j, S j → ¬ isU8 w j ∧ j ≠ q ∧ (∀ s, ¬ (L s).M j) ∧ W.heap.size ≤ j) : Two W w' L I D q k :=
  ⟨fun s => (h.dev s).chg hc fun j hj => ⟨(hS j hj).2.2.1 s, fun hi => (hS j hj).1 ((h.dev s).imm j hi)⟩, Blk.keep h.clk (hc.block q (Blk.lt h.clk) fun hj => (hS q hj).2.1 rfl), h.same, h.sep, h.m, h.c, h.i, h.bel.trans (hc.below h.bel.size fun j hj => (hS j hj).2.2.2)⟩
end
end Go.Proofs.Ythenpkimcjdkcaa
