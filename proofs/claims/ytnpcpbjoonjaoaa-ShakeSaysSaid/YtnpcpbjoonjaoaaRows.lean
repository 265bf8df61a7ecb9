/-
  No cell of these rows narrows 'for every input' (looked for: loops, veiled, ifaces, maps, wideKeys, modest, calm, conditions, laid).
  DERIVED. THE GIVEN ROWS OF THIS SEAT. 10 by the template 'for every input the law returns true; each argument reads behind the call as it read before'; 0 by the template 'total and deterministic' (their statements: YtnpcpbjoonjaoaaTotals.lean).
  GIVEN WITH THE SEED: the statements are not yours to turn. If you find one false, say at which input.
  Laid BY PROGRAM, IN A SANDBOX (cutbox-rows.mjs): the forced cells as the released guide's own fill.sh prints them over the translation 56ee7475aa15f800… (all of the seat's roots in one cut). By AI agents, Wed Nov 11 2026. No macro, syntax, notation, axiom, sorry.
-/
import Derived.Test.YtnpcpbjoonjaoaaChecked
import GoSem.Claim
import GoSem.ClaimJoined
import GoSem.ClaimMapViews
import Derived.JoinedTies
import Derived.KernelRfl
namespace Go.Proofs.Ytnpcpbjoonjaoaa
/- THE CELL 'sum', in the pinned program and in every row, IS THE sha256 OF THE DUMP (.gsa) THAT YtnpcpbjoonjaoaaProg.lean LOADS. Nothing in Lean hashes anything: it is a label: what it is worth is what the hold of that sum in a sandbox is worth. -/
noncomputable def Try.pinned : Pinned := { name := "ytnpcpbjoonjaoaa", sum := "56ee7475aa15f8006c0400289fdb55224cec755b62ade1dee3982182219eb49b", checked := Try.checked }
namespace Rows
def none {H : Type} : Left H := { results := [], args := [] }

/-- 'cofferdamlaw20.WireSays': WHATEVER THE INPUT: true; the input reads as it did. -/
def wireSaysSpec : ChangeSpec := { name := "wireSays", fn := fun _ => fun
  | [d] => { results := [.lit (.bool true)], args := [d] }
  | _ => none }
def wireSaysRow : OpenClaim := { program := "ytnpcpbjoonjaoaa", sum := "56ee7475aa15f8006c0400289fdb55224cec755b62ade1dee3982182219eb49b", func := "cofferdam/cofferdamlaw20.WireSays", spec := "wireSays", apart := false }
def WireSaysSaid : Prop := wireSaysRow.holds Try.pinned (OpenSpec.ofChange wireSaysSpec)

/-- ITS FALSE NEIGHBOUR: 'it returns false'. Refute it at one input. -/
def wireSaysWrong : ChangeSpec := { name := "wireSays", fn := fun _ => fun
  | [d] => { results := [.lit (.bool false)], args := [d] }
  | _ => none }
def WireSaysWrongFalsely : Prop := wireSaysRow.holds Try.pinned (OpenSpec.ofChange wireSaysWrong)

/-- 'cofferdamlaw20.WireBits': WHATEVER THE INPUT: true; the input reads as it did. -/
def wireBitsSpec : ChangeSpec := { name := "wireBits", fn := fun _ => fun
  | [d1, d2, d3] => { results := [.lit (.bool true)], args := [d1, d2, d3] }
  | _ => none }
def wireBitsRow : OpenClaim := { program := "ytnpcpbjoonjaoaa", sum := "56ee7475aa15f8006c0400289fdb55224cec755b62ade1dee3982182219eb49b", func := "cofferdam/cofferdamlaw20.WireBits", spec := "wireBits", apart := false }
def WireBitsSaid : Prop := wireBitsRow.holds Try.pinned (OpenSpec.ofChange wireBitsSpec)

/-- ITS FALSE NEIGHBOUR: 'it returns false'. Refute it at one input. -/
def wireBitsWrong : ChangeSpec := { name := "wireBits", fn := fun _ => fun
  | [d1, d2, d3] => { results := [.lit (.bool false)], args := [d1, d2, d3] }
  | _ => none }
def WireBitsWrongFalsely : Prop := wireBitsRow.holds Try.pinned (OpenSpec.ofChange wireBitsWrong)

/-- 'cofferdamlaw20.WireBack': WHATEVER THE INPUT: true; the input reads as it did. -/
def wireBackSpec : ChangeSpec := { name := "wireBack", fn := fun _ => fun
  | [d1, d2, d3] => { results := [.lit (.bool true)], args := [d1, d2, d3] }
  | _ => none }
def wireBackRow : OpenClaim := { program := "ytnpcpbjoonjaoaa", sum := "56ee7475aa15f8006c0400289fdb55224cec755b62ade1dee3982182219eb49b", func := "cofferdam/cofferdamlaw20.WireBack", spec := "wireBack", apart := false }
def WireBackSaid : Prop := wireBackRow.holds Try.pinned (OpenSpec.ofChange wireBackSpec)

/-- ITS FALSE NEIGHBOUR: 'it returns false'. Refute it at one input. -/
def wireBackWrong : ChangeSpec := { name := "wireBack", fn := fun _ => fun
  | [d1, d2, d3] => { results := [.lit (.bool false)], args := [d1, d2, d3] }
  | _ => none }
def WireBackWrongFalsely : Prop := wireBackRow.holds Try.pinned (OpenSpec.ofChange wireBackWrong)

/-- 'cofferdamlaw20.WireTakes': WHATEVER THE INPUT: true; the input reads as it did. -/
def wireTakesSpec : ChangeSpec := { name := "wireTakes", fn := fun _ => fun
  | [d] => { results := [.lit (.bool true)], args := [d] }
  | _ => none }
def wireTakesRow : OpenClaim := { program := "ytnpcpbjoonjaoaa", sum := "56ee7475aa15f8006c0400289fdb55224cec755b62ade1dee3982182219eb49b", func := "cofferdam/cofferdamlaw20.WireTakes", spec := "wireTakes", apart := false }
def WireTakesSaid : Prop := wireTakesRow.holds Try.pinned (OpenSpec.ofChange wireTakesSpec)

/-- ITS FALSE NEIGHBOUR: 'it returns false'. Refute it at one input. -/
def wireTakesWrong : ChangeSpec := { name := "wireTakes", fn := fun _ => fun
  | [d] => { results := [.lit (.bool false)], args := [d] }
  | _ => none }
def WireTakesWrongFalsely : Prop := wireTakesRow.holds Try.pinned (OpenSpec.ofChange wireTakesWrong)

/-- 'cofferdamlaw21.ShakeForms': WHATEVER THE INPUT: true; the input reads as it did. -/
def shakeFormsSpec : ChangeSpec := { name := "shakeForms", fn := fun _ => fun
  | [d1, d2] => { results := [.lit (.bool true)], args := [d1, d2] }
  | _ => none }
def shakeFormsRow : OpenClaim := { program := "ytnpcpbjoonjaoaa", sum := "56ee7475aa15f8006c0400289fdb55224cec755b62ade1dee3982182219eb49b", func := "cofferdam/cofferdamlaw21.ShakeForms", spec := "shakeForms", apart := false }
def ShakeFormsSaid : Prop := shakeFormsRow.holds Try.pinned (OpenSpec.ofChange shakeFormsSpec)

/-- ITS FALSE NEIGHBOUR: 'it returns false'. Refute it at one input. -/
def shakeFormsWrong : ChangeSpec := { name := "shakeForms", fn := fun _ => fun
  | [d1, d2] => { results := [.lit (.bool false)], args := [d1, d2] }
  | _ => none }
def ShakeFormsWrongFalsely : Prop := shakeFormsRow.holds Try.pinned (OpenSpec.ofChange shakeFormsWrong)

/-- 'cofferdamlaw21.ShakeSays': WHATEVER THE INPUT: true; the input reads as it did. -/
def shakeSaysSpec : ChangeSpec := { name := "shakeSays", fn := fun _ => fun
  | [d1, d2] => { results := [.lit (.bool true)], args := [d1, d2] }
  | _ => none }
def shakeSaysRow : OpenClaim := { program := "ytnpcpbjoonjaoaa", sum := "56ee7475aa15f8006c0400289fdb55224cec755b62ade1dee3982182219eb49b", func := "cofferdam/cofferdamlaw21.ShakeSays", spec := "shakeSays", apart := false }
def ShakeSaysSaid : Prop := shakeSaysRow.holds Try.pinned (OpenSpec.ofChange shakeSaysSpec)

/-- ITS FALSE NEIGHBOUR: 'it returns false'. Refute it at one input. -/
def shakeSaysWrong : ChangeSpec := { name := "shakeSays", fn := fun _ => fun
  | [d1, d2] => { results := [.lit (.bool false)], args := [d1, d2] }
  | _ => none }
def ShakeSaysWrongFalsely : Prop := shakeSaysRow.holds Try.pinned (OpenSpec.ofChange shakeSaysWrong)

/-- 'cofferdamlaw21.ShakeBits': WHATEVER THE INPUT: true; the input reads as it did. -/
def shakeBitsSpec : ChangeSpec := { name := "shakeBits", fn := fun _ => fun
  | [d1, d2, d3] => { results := [.lit (.bool true)], args := [d1, d2, d3] }
  | _ => none }
def shakeBitsRow : OpenClaim := { program := "ytnpcpbjoonjaoaa", sum := "56ee7475aa15f8006c0400289fdb55224cec755b62ade1dee3982182219eb49b", func := "cofferdam/cofferdamlaw21.ShakeBits", spec := "shakeBits", apart := false }
def ShakeBitsSaid : Prop := shakeBitsRow.holds Try.pinned (OpenSpec.ofChange shakeBitsSpec)

/-- ITS FALSE NEIGHBOUR: 'it returns false'. Refute it at one input. -/
def shakeBitsWrong : ChangeSpec := { name := "shakeBits", fn := fun _ => fun
  | [d1, d2, d3] => { results := [.lit (.bool false)], args := [d1, d2, d3] }
  | _ => none }
def ShakeBitsWrongFalsely : Prop := shakeBitsRow.holds Try.pinned (OpenSpec.ofChange shakeBitsWrong)

/-- 'cofferdamlaw21.ShakeNil': WHATEVER THE INPUT: true; the input reads as it did. -/
def shakeNilSpec : ChangeSpec := { name := "shakeNil", fn := fun _ => fun
  | [d] => { results := [.lit (.bool true)], args := [d] }
  | _ => none }
def shakeNilRow : OpenClaim := { program := "ytnpcpbjoonjaoaa", sum := "56ee7475aa15f8006c0400289fdb55224cec755b62ade1dee3982182219eb49b", func := "cofferdam/cofferdamlaw21.ShakeNil", spec := "shakeNil", apart := false }
def ShakeNilSaid : Prop := shakeNilRow.holds Try.pinned (OpenSpec.ofChange shakeNilSpec)

/-- ITS FALSE NEIGHBOUR: 'it returns false'. Refute it at one input. -/
def shakeNilWrong : ChangeSpec := { name := "shakeNil", fn := fun _ => fun
  | [d] => { results := [.lit (.bool false)], args := [d] }
  | _ => none }
def ShakeNilWrongFalsely : Prop := shakeNilRow.holds Try.pinned (OpenSpec.ofChange shakeNilWrong)

/-- 'cofferdamlaw21.ShakeUnknown': WHATEVER THE INPUT: true; the input reads as it did. -/
def shakeUnknownSpec : ChangeSpec := { name := "shakeUnknown", fn := fun _ => fun
  | [d1, d2, d3] => { results := [.lit (.bool true)], args := [d1, d2, d3] }
  | _ => none }
def shakeUnknownRow : OpenClaim := { program := "ytnpcpbjoonjaoaa", sum := "56ee7475aa15f8006c0400289fdb55224cec755b62ade1dee3982182219eb49b", func := "cofferdam/cofferdamlaw21.ShakeUnknown", spec := "shakeUnknown", apart := false }
def ShakeUnknownSaid : Prop := shakeUnknownRow.holds Try.pinned (OpenSpec.ofChange shakeUnknownSpec)

/-- ITS FALSE NEIGHBOUR: 'it returns false'. Refute it at one input. -/
def shakeUnknownWrong : ChangeSpec := { name := "shakeUnknown", fn := fun _ => fun
  | [d1, d2, d3] => { results := [.lit (.bool false)], args := [d1, d2, d3] }
  | _ => none }
def ShakeUnknownWrongFalsely : Prop := shakeUnknownRow.holds Try.pinned (OpenSpec.ofChange shakeUnknownWrong)

/-- 'cofferdamlaw21.ShakeOver': WHATEVER THE INPUT: true; the input reads as it did. -/
def shakeOverSpec : ChangeSpec := { name := "shakeOver", fn := fun _ => fun
  | [d1, d2, d3] => { results := [.lit (.bool true)], args := [d1, d2, d3] }
  | _ => none }
def shakeOverRow : OpenClaim := { program := "ytnpcpbjoonjaoaa", sum := "56ee7475aa15f8006c0400289fdb55224cec755b62ade1dee3982182219eb49b", func := "cofferdam/cofferdamlaw21.ShakeOver", spec := "shakeOver", apart := false }
def ShakeOverSaid : Prop := shakeOverRow.holds Try.pinned (OpenSpec.ofChange shakeOverSpec)

/-- ITS FALSE NEIGHBOUR: 'it returns false'. Refute it at one input. -/
def shakeOverWrong : ChangeSpec := { name := "shakeOver", fn := fun _ => fun
  | [d1, d2, d3] => { results := [.lit (.bool false)], args := [d1, d2, d3] }
  | _ => none }
def ShakeOverWrongFalsely : Prop := shakeOverRow.holds Try.pinned (OpenSpec.ofChange shakeOverWrong)

/- THE SECOND FORM. 'bulk': how many values and letters a reading holds, each counted each time it is reached (what is shared counts as often as it is met; a slice's spare places count too). A statement '..UptoSaid' is the law's where the arguments, and the package variables that the reading takes, are together of bulk at most 1048576: NARROWER than '..Said'. Prove '..Said' where nothing that the law and all that it calls make is longer than what came in: it says more and counts as full. Else prove '..UptoSaid'. A law counts once. -/
mutual
def uptoBulk {H : Type} : DataW H → Nat
  | .lit (.string bytes) => bytes.length + 1
  | .lit _ => 1
  | .nil => 1
  | .ptr d => uptoBulk d + 1
  | .slice elems spare => uptoBulkAll elems + uptoBulkAll spare + 1
  | .agg parts => uptoBulkAll parts + 1
  | .iface _ d => uptoBulk d + 1
  | .map entries => uptoBulkEntries entries + 1
  | .held _ => 1
def uptoBulkAll {H : Type} : List (DataW H) → Nat
  | [] => 0
  | d :: r => uptoBulk d + uptoBulkAll r
def uptoBulkEntries {H : Type} : List (Lit × DataW H) → Nat
  | [] => 0
  | x :: r => uptoBulkEntry x + uptoBulkEntries r
def uptoBulkEntry {H : Type} : Lit × DataW H → Nat
  | (.string bytes, d) => bytes.length + uptoBulk d + 1
  | (_, d) => uptoBulk d + 1
 end
def uptoSmall : (H : Type) → List (DataW H) → Bool := fun _ ds => decide (uptoBulkAll ds ≤ 1048576)
def OpenSpec.upto (s : _root_.Go.ChangeSpec) : _root_.Go.OpenSpec := { _root_.Go.OpenSpec.ofChange s with cond := some uptoSmall }

/-- 'cofferdamlaw20.WireSays', WHERE WHAT IT READS IS OF BULK AT MOST 1048576: true; the input reads as it did. -/
def wireSaysUptoRow : OpenClaim := { program := "ytnpcpbjoonjaoaa", sum := "56ee7475aa15f8006c0400289fdb55224cec755b62ade1dee3982182219eb49b", func := "cofferdam/cofferdamlaw20.WireSays", spec := "wireSays", apart := false, narrowed := true }
def WireSaysUptoSaid : Prop := wireSaysUptoRow.holds Try.pinned (OpenSpec.upto wireSaysSpec)

/-- 'cofferdamlaw20.WireBits', WHERE WHAT IT READS IS OF BULK AT MOST 1048576: true; the input reads as it did. -/
def wireBitsUptoRow : OpenClaim := { program := "ytnpcpbjoonjaoaa", sum := "56ee7475aa15f8006c0400289fdb55224cec755b62ade1dee3982182219eb49b", func := "cofferdam/cofferdamlaw20.WireBits", spec := "wireBits", apart := false, narrowed := true }
def WireBitsUptoSaid : Prop := wireBitsUptoRow.holds Try.pinned (OpenSpec.upto wireBitsSpec)

/-- 'cofferdamlaw20.WireBack', WHERE WHAT IT READS IS OF BULK AT MOST 1048576: true; the input reads as it did. -/
def wireBackUptoRow : OpenClaim := { program := "ytnpcpbjoonjaoaa", sum := "56ee7475aa15f8006c0400289fdb55224cec755b62ade1dee3982182219eb49b", func := "cofferdam/cofferdamlaw20.WireBack", spec := "wireBack", apart := false, narrowed := true }
def WireBackUptoSaid : Prop := wireBackUptoRow.holds Try.pinned (OpenSpec.upto wireBackSpec)

/-- 'cofferdamlaw20.WireTakes', WHERE WHAT IT READS IS OF BULK AT MOST 1048576: true; the input reads as it did. -/
def wireTakesUptoRow : OpenClaim := { program := "ytnpcpbjoonjaoaa", sum := "56ee7475aa15f8006c0400289fdb55224cec755b62ade1dee3982182219eb49b", func := "cofferdam/cofferdamlaw20.WireTakes", spec := "wireTakes", apart := false, narrowed := true }
def WireTakesUptoSaid : Prop := wireTakesUptoRow.holds Try.pinned (OpenSpec.upto wireTakesSpec)

/-- 'cofferdamlaw21.ShakeForms', WHERE WHAT IT READS IS OF BULK AT MOST 1048576: true; the input reads as it did. -/
def shakeFormsUptoRow : OpenClaim := { program := "ytnpcpbjoonjaoaa", sum := "56ee7475aa15f8006c0400289fdb55224cec755b62ade1dee3982182219eb49b", func := "cofferdam/cofferdamlaw21.ShakeForms", spec := "shakeForms", apart := false, narrowed := true }
def ShakeFormsUptoSaid : Prop := shakeFormsUptoRow.holds Try.pinned (OpenSpec.upto shakeFormsSpec)

/-- 'cofferdamlaw21.ShakeSays', WHERE WHAT IT READS IS OF BULK AT MOST 1048576: true; the input reads as it did. -/
def shakeSaysUptoRow : OpenClaim := { program := "ytnpcpbjoonjaoaa", sum := "56ee7475aa15f8006c0400289fdb55224cec755b62ade1dee3982182219eb49b", func := "cofferdam/cofferdamlaw21.ShakeSays", spec := "shakeSays", apart := false, narrowed := true }
def ShakeSaysUptoSaid : Prop := shakeSaysUptoRow.holds Try.pinned (OpenSpec.upto shakeSaysSpec)

/-- 'cofferdamlaw21.ShakeBits', WHERE WHAT IT READS IS OF BULK AT MOST 1048576: true; the input reads as it did. -/
def shakeBitsUptoRow : OpenClaim := { program := "ytnpcpbjoonjaoaa", sum := "56ee7475aa15f8006c0400289fdb55224cec755b62ade1dee3982182219eb49b", func := "cofferdam/cofferdamlaw21.ShakeBits", spec := "shakeBits", apart := false, narrowed := true }
def ShakeBitsUptoSaid : Prop := shakeBitsUptoRow.holds Try.pinned (OpenSpec.upto shakeBitsSpec)

/-- 'cofferdamlaw21.ShakeNil', WHERE WHAT IT READS IS OF BULK AT MOST 1048576: true; the input reads as it did. -/
def shakeNilUptoRow : OpenClaim := { program := "ytnpcpbjoonjaoaa", sum := "56ee7475aa15f8006c0400289fdb55224cec755b62ade1dee3982182219eb49b", func := "cofferdam/cofferdamlaw21.ShakeNil", spec := "shakeNil", apart := false, narrowed := true }
def ShakeNilUptoSaid : Prop := shakeNilUptoRow.holds Try.pinned (OpenSpec.upto shakeNilSpec)

/-- 'cofferdamlaw21.ShakeUnknown', WHERE WHAT IT READS IS OF BULK AT MOST 1048576: true; the input reads as it did. -/
def shakeUnknownUptoRow : OpenClaim := { program := "ytnpcpbjoonjaoaa", sum := "56ee7475aa15f8006c0400289fdb55224cec755b62ade1dee3982182219eb49b", func := "cofferdam/cofferdamlaw21.ShakeUnknown", spec := "shakeUnknown", apart := false, narrowed := true }
def ShakeUnknownUptoSaid : Prop := shakeUnknownUptoRow.holds Try.pinned (OpenSpec.upto shakeUnknownSpec)

/-- 'cofferdamlaw21.ShakeOver', WHERE WHAT IT READS IS OF BULK AT MOST 1048576: true; the input reads as it did. -/
def shakeOverUptoRow : OpenClaim := { program := "ytnpcpbjoonjaoaa", sum := "56ee7475aa15f8006c0400289fdb55224cec755b62ade1dee3982182219eb49b", func := "cofferdam/cofferdamlaw21.ShakeOver", spec := "shakeOver", apart := false, narrowed := true }
def ShakeOverUptoSaid : Prop := shakeOverUptoRow.holds Try.pinned (OpenSpec.upto shakeOverSpec)

end Rows
end Go.Proofs.Ytnpcpbjoonjaoaa
