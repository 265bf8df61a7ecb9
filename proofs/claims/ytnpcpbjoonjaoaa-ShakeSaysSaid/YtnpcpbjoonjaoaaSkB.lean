/- shake: what is exported -/
import Derived.Test.YtnpcpbjoonjaoaaSkA
import Derived.Test.YtnpcpbjoonjaoaaApzM
namespace Go.Proofs.Ytnpcpbjoonjaoaa
set_option linter.unusedVariables false
set_option linter.unusedSimpArgs false
open Go.RowKit

theorem wpList_appz {w : World} {ops : Array Oper} {rest : List Oper} {o : Oper} {a : Act} {Q : Exit → Act → World → Prop} (hgd : o.guard = none) (s x : Operand)
    (ho : o.op = .call { callee := .builtin .append, args := #[s, x], argTypes := #[23, 3] })
    (base : Nat) (v : Value) (l : List UInt8) (hs : a.eval s = v) (hown : OwnB w base v l) (m : Nat) (z : Int) (hx : a.eval x = .int .i64 z) (hz : z = (m : Int))
    (h47 : l.length + m ≤ 140737488355328) (hbase : base ≤ w.heap.size)
    (h : ∀ v' w', OwnB w' base v' (l ++ zeros m) → w.grownBy w' v.ownBlock → (v'.ownBlock = v.ownBlock ∨ v'.ownBlock = some w.heap.size) → wpList Try.prog ops Q rest (a.put o.dst v') w') : wpList Try.prog ops Q (o :: rest) a w :=
  wpList_step fun K hK => step_appz hgd s x ho base v l hs hown m z hx hz h47 hbase (fun v' w' h1 h2 h3 => hK _ _ (h v' w' h1 h2 h3))

/-- A handshake. -/
structure Sk where
  name : List UInt8
  sectors : Nat
  ro : Bool
  phase : Nat
  st : Bool
  bare : Bool
def Sk.cells (s : Sk) : List Value := [.string ⟨s.name.toArray⟩, .int .i64 (s.sectors : Int), .bool s.ro, .int .i64 (s.phase : Int), .bool s.st, .bool s.bare]
def SkAt (w : World) (g : Nat) (s : Sk) : Prop := Blk w g 85 s.cells

/-- Size and flags. -/
def expL (s : Sk) : List UInt8 := numB [(s.sectors * 64, 8), (if s.ro then 367 else 365, 2)]
theorem expL_length (s : Sk) : (expL s).length = 10 := by simp [expL, numB, bytesOf_length]

theorem export_any (g : Nat) (s : Sk) (w : World) (hb : SkAt w g s) (hsec : s.sectors ≤ 8192) :
    Calls Try.prog 59 #[.pointer (some ⟨g, 0, none⟩)] w (MsgPost (expL s) w) := by
  obtain ⟨nm, sec, ro, ph, st, bare⟩ := s
  have k1 : w.cell? ⟨g, 1, none⟩ = some (.int .i64 (sec : Int)) := hb.cell 1 _ rfl
  have k2 : w.cell? ⟨g, 2, none⟩ = some (.bool ro) := hb.cell 2 _ rfl
  have hsec : sec ≤ 8192 := hsec
  have x1 : wrap64 ((sec : Int) * 64) = (sec : Int) * 64 := IntWalk.wrap64_in _ (by omega)
  have hor : bits .or .i64 365 2 = 367 := by decide
  clear hb
  have C : Hid (∀ f : Nat, f < 65536 → Calls Try.prog 61 #[.slice (some ⟨w.heap.size, 0, none⟩) 2 2] (w.alloc (Obj.cells #[Value.int .i64 ((sec : Int) * 64), Value.int .i64 8, Value.int .i64 (f : Int), Value.int .i64 2] 98)) (MsgPost (numB [(sec * 64, 8), (f, 2)]) (w.alloc (Obj.cells #[Value.int .i64 ((sec : Int) * 64), Value.int .i64 8, Value.int .i64 (f : Int), Value.int .i64 2] 98)))) := Lib.hid (fun f hf => by
    refine numbers_any _ 2 2 [(sec * 64, 8), (f, 2)] _ rfl (by simp) ?_ ?_
    · intro p hp
      simp only [List.mem_cons, List.not_mem_nil, or_false] at hp
      rcases hp with rfl | rfl
      · simp only; omega
      · simp only; omega
    · have h := Rd.new w (ci2 [(sec * 64, 8), (f, 2)]) 98
      have e : (ci2 [(sec * 64, 8), (f, 2)]).toArray = #[Value.int .i64 ((sec : Int) * 64), Value.int .i64 8, Value.int .i64 (f : Int), Value.int .i64 2] := by simp [ci2]
      rw [e] at h
      exact h.more (by rw [World.size_alloc]; omega))
  have HB : Hid (∀ o, Below w.heap.size w (w.alloc o)) := Lib.hid (fun o => (Below.refl _ _).alloc (Nat.le_refl _) o)
  go_enter Try.func59, Try.ntmps59
  cases ro with
  | true =>
    go_wp2_with fail
    refine (C.out 367 (by omega)).mono ?_
    rintro e w1 ⟨a, n, c, rfl, hown, hb1⟩
    have HO := Lib.hid (OwnG.base_mono hown (HB.out _).size : OwnB w1 w.heap.size _ _)
    have HB1 := Lib.hid ((HB.out _).trans (hb1.mono (HB.out _).size))
    clear hown hb1
    go_wp2_with fail
    go_ret
    exact ⟨_, _, _, rfl, HO.out, HB1.out⟩
  | false =>
    go_wp2_with fail
    refine (C.out 365 (by omega)).mono ?_
    rintro e w1 ⟨a, n, c, rfl, hown, hb1⟩
    have HO := Lib.hid (OwnG.base_mono hown (HB.out _).size : OwnB w1 w.heap.size _ _)
    have HB1 := Lib.hid ((HB.out _).trans (hb1.mono (HB.out _).size))
    clear hown hb1
    go_wp2_with fail
    go_ret
    exact ⟨_, _, _, rfl, HO.out, HB1.out⟩
end Go.Proofs.Ytnpcpbjoonjaoaa
