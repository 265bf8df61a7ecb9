/- the document's handshake: any option -/
import Derived.Test.YtnpcpbjoonjaoaaSr5
namespace Go.Proofs.Ytnpcpbjoonjaoaa
set_option linter.unusedVariables false
set_option linter.unusedSimpArgs false
open Go.RowKit

/-- What becomes of the handshake and what is said, to one option. -/
def optS (s : Sk) (ty : Nat) (data : List UInt8) : Sk × List UInt8 := if ty = 1 then expName s data else ((ansR s ty data).1, saidL ty (ansR s ty data).2)

theorem said_one (ty k : Nat) : saidL ty [(k, [])] = optionReplyL (ty : Int) (k : Int) [] := by simp [saidL]

theorem ropt_any (g : Nat) (s : Sk) (ty : Nat) (a : Option Addr) (n c : Nat) (data : List UInt8) (w : World) (hb : RkAt w g s) (hsec : s.sectors ≤ 8192) (hnm : s.name.length ≤ 1000) (hdl : data.length = n) (hc : n ≤ c) (hc2 : n ≤ 140737488351232 ∧ c ≤ 9223372036854775807) (hr : Rd w w.heap.size a (bs data)) :
    Calls Try.prog 50 #[.pointer (some ⟨g, 0, none⟩), .agg #[.int .i64 (ty : Int), .slice a n c]] w (RkPost g (optS s ty data) w) := by
  by_cases h1 : ty = 1
  · subst h1
    exact ropt_name g s a n c data w hb hsec hnm hdl hc hc2 hr
  · by_cases h2 : ty = 2
    · subst h2
      have e : optS s 2 data = ({ s with phase := 3 }, optionReplyL 2 1 []) := by
        rw [optS, if_neg (by decide), ansR, if_pos rfl, said_one]; rfl
      rw [e]
      exact ropt_abort g s a n c data w hb hsec hnm hdl hc hc2 hr
    · by_cases h6 : ty = 6
      · subst h6
        have e : optS s 6 data = (if (6 : Nat) = 7 ∧ lastKind (infoReps s data) = 1 then { s with phase := 2 } else s, saidL 6 (infoReps s data)) := by
          rw [optS, if_neg (by decide), ansR, if_neg (by decide), if_pos rfl, if_neg (by omega)]
        rw [e]
        exact ropt_info6 g s a n c data w hb hsec hnm hdl hc hc2 hr
      · by_cases h7 : ty = 7
        · subst h7
          have e : optS s 7 data = (if (7 : Nat) = 7 ∧ lastKind (infoReps s data) = 1 then { s with phase := 2 } else s, saidL 7 (infoReps s data)) := by
            rw [optS, if_neg (by decide), ansR, if_neg (by decide), if_neg (by decide), if_pos rfl]
            simp
          rw [e]
          exact ropt_info7 g s a n c data w hb hsec hnm hdl hc hc2 hr
        · by_cases h3 : ty = 3
          · subst h3
            have e : optS s 3 data = (if data ≠ [] then (s, optionReplyL 3 2147483651 []) else (s, saidL 3 [(2, numB [(s.name.length, 4)] ++ s.name), (1, [])])) := by
              rw [optS, if_neg (by decide), ansR, if_neg (by decide), if_neg (by decide), if_neg (by decide), if_pos (.inl rfl)]
              by_cases hd : data ≠ []
              · rw [if_pos hd, if_pos hd, said_one]; rfl
              · rw [if_neg hd, if_neg hd, if_neg (by decide)]
            rw [e]
            exact ropt_list g s a n c data w hb hsec hnm hdl hc hc2 hr
          · by_cases h8 : ty = 8
            · subst h8
              have e : optS s 8 data = (if data ≠ [] then (s, optionReplyL 8 2147483651 []) else ({ s with st := true }, optionReplyL 8 1 [])) := by
                rw [optS, if_neg (by decide), ansR, if_neg (by decide), if_neg (by decide), if_neg (by decide), if_pos (.inr rfl)]
                by_cases hd : data ≠ []
                · rw [if_pos hd, if_pos hd, said_one]; rfl
                · rw [if_neg hd, if_neg hd, if_pos rfl, said_one]; rfl
              rw [e]
              exact ropt_str g s a n c data w hb hsec hnm hdl hc hc2 hr
            · have e : optS s ty data = (s, optionReplyL (ty : Int) 2147483649 []) := by
                rw [optS, if_neg h1, ansR, if_neg h2, if_neg h6, if_neg h7, if_neg (fun h => h.elim h3 h8), said_one]; rfl
              rw [e]
              exact ropt_other g s ty h1 h2 h3 h6 h7 h8 a n c data w hb hsec hnm hdl hc hc2 hr
end Go.Proofs.Ytnpcpbjoonjaoaa
