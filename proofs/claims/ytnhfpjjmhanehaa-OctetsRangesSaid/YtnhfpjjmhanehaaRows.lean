/-
  No cell of these rows narrows 'for every input' (looked for: loops, veiled, ifaces, maps, wideKeys, modest, calm, conditions, laid).
  DERIVED. THE GIVEN ROWS OF THIS SEAT. 8 by the template 'for every input the law returns true; each argument reads behind the call as it read before'; 0 by the template 'total and deterministic' (their statements: YtnhfpjjmhanehaaTotals.lean).
  GIVEN WITH THE SEED: the statements are not yours to turn. If you find one false, say at which input.
  Laid BY PROGRAM, IN A SANDBOX (cutbox-rows.mjs): the forced cells as the released guide's own fill.sh prints them over the translation 655b38460e7ba334… (all of the seat's roots in one cut). By AI agents, Wed Nov 11 2026. No macro, syntax, notation, axiom, sorry.
-/
import Derived.Test.YtnhfpjjmhanehaaChecked
import GoSem.Claim
import GoSem.ClaimJoined
import GoSem.ClaimMapViews
import Derived.JoinedTies
import Derived.KernelRfl
namespace Go.Proofs.Ytnhfpjjmhanehaa
/- THE CELL 'sum', in the pinned program and in every row, IS THE sha256 OF THE DUMP (.gsa) THAT YtnhfpjjmhanehaaProg.lean LOADS. Nothing in Lean hashes anything: it is a label: what it is worth is what the hold of that sum in a sandbox is worth. -/
noncomputable def Try.pinned : Pinned := { name := "ytnhfpjjmhanehaa", sum := "655b38460e7ba334f7bd7e5d341279f0d4e3f9da8e602403ebc4bb6f30d60353", checked := Try.checked }
namespace Rows
def none {H : Type} : Left H := { results := [], args := [] }

/-- 'cofferdamlaw01.OctetsNumbers': WHATEVER THE INPUT: true; the input reads as it did. -/
def octetsNumbersSpec : ChangeSpec := { name := "octetsNumbers", fn := fun _ => fun
  | [d1, d2, d3] => { results := [.lit (.bool true)], args := [d1, d2, d3] }
  | _ => none }
def octetsNumbersRow : OpenClaim := { program := "ytnhfpjjmhanehaa", sum := "655b38460e7ba334f7bd7e5d341279f0d4e3f9da8e602403ebc4bb6f30d60353", func := "cofferdam/cofferdamlaw01.OctetsNumbers", spec := "octetsNumbers", apart := false }
def OctetsNumbersSaid : Prop := octetsNumbersRow.holds Try.pinned (OpenSpec.ofChange octetsNumbersSpec)

/-- ITS FALSE NEIGHBOUR: 'it returns false'. Refute it at one input. -/
def octetsNumbersWrong : ChangeSpec := { name := "octetsNumbers", fn := fun _ => fun
  | [d1, d2, d3] => { results := [.lit (.bool false)], args := [d1, d2, d3] }
  | _ => none }
def OctetsNumbersWrongFalsely : Prop := octetsNumbersRow.holds Try.pinned (OpenSpec.ofChange octetsNumbersWrong)

/-- 'cofferdamlaw01.OctetsBack': WHATEVER THE INPUT: true; the input reads as it did. -/
def octetsBackSpec : ChangeSpec := { name := "octetsBack", fn := fun _ => fun
  | [d1, d2] => { results := [.lit (.bool true)], args := [d1, d2] }
  | _ => none }
def octetsBackRow : OpenClaim := { program := "ytnhfpjjmhanehaa", sum := "655b38460e7ba334f7bd7e5d341279f0d4e3f9da8e602403ebc4bb6f30d60353", func := "cofferdam/cofferdamlaw01.OctetsBack", spec := "octetsBack", apart := false }
def OctetsBackSaid : Prop := octetsBackRow.holds Try.pinned (OpenSpec.ofChange octetsBackSpec)

/-- ITS FALSE NEIGHBOUR: 'it returns false'. Refute it at one input. -/
def octetsBackWrong : ChangeSpec := { name := "octetsBack", fn := fun _ => fun
  | [d1, d2] => { results := [.lit (.bool false)], args := [d1, d2] }
  | _ => none }
def OctetsBackWrongFalsely : Prop := octetsBackRow.holds Try.pinned (OpenSpec.ofChange octetsBackWrong)

/-- 'cofferdamlaw01.OctetsOrder': WHATEVER THE INPUT: true; the input reads as it did. -/
def octetsOrderSpec : ChangeSpec := { name := "octetsOrder", fn := fun _ => fun
  | [d1, d2] => { results := [.lit (.bool true)], args := [d1, d2] }
  | _ => none }
def octetsOrderRow : OpenClaim := { program := "ytnhfpjjmhanehaa", sum := "655b38460e7ba334f7bd7e5d341279f0d4e3f9da8e602403ebc4bb6f30d60353", func := "cofferdam/cofferdamlaw01.OctetsOrder", spec := "octetsOrder", apart := false }
def OctetsOrderSaid : Prop := octetsOrderRow.holds Try.pinned (OpenSpec.ofChange octetsOrderSpec)

/-- ITS FALSE NEIGHBOUR: 'it returns false'. Refute it at one input. -/
def octetsOrderWrong : ChangeSpec := { name := "octetsOrder", fn := fun _ => fun
  | [d1, d2] => { results := [.lit (.bool false)], args := [d1, d2] }
  | _ => none }
def OctetsOrderWrongFalsely : Prop := octetsOrderRow.holds Try.pinned (OpenSpec.ofChange octetsOrderWrong)

/-- 'cofferdamlaw01.OctetsFit': WHATEVER THE INPUT: true; the input reads as it did. -/
def octetsFitSpec : ChangeSpec := { name := "octetsFit", fn := fun _ => fun
  | [d1, d2, d3] => { results := [.lit (.bool true)], args := [d1, d2, d3] }
  | _ => none }
def octetsFitRow : OpenClaim := { program := "ytnhfpjjmhanehaa", sum := "655b38460e7ba334f7bd7e5d341279f0d4e3f9da8e602403ebc4bb6f30d60353", func := "cofferdam/cofferdamlaw01.OctetsFit", spec := "octetsFit", apart := false }
def OctetsFitSaid : Prop := octetsFitRow.holds Try.pinned (OpenSpec.ofChange octetsFitSpec)

/-- ITS FALSE NEIGHBOUR: 'it returns false'. Refute it at one input. -/
def octetsFitWrong : ChangeSpec := { name := "octetsFit", fn := fun _ => fun
  | [d1, d2, d3] => { results := [.lit (.bool false)], args := [d1, d2, d3] }
  | _ => none }
def OctetsFitWrongFalsely : Prop := octetsFitRow.holds Try.pinned (OpenSpec.ofChange octetsFitWrong)

/-- 'cofferdamlaw01.OctetsXor': WHATEVER THE INPUT: true; the input reads as it did. -/
def octetsXorSpec : ChangeSpec := { name := "octetsXor", fn := fun _ => fun
  | [d1, d2] => { results := [.lit (.bool true)], args := [d1, d2] }
  | _ => none }
def octetsXorRow : OpenClaim := { program := "ytnhfpjjmhanehaa", sum := "655b38460e7ba334f7bd7e5d341279f0d4e3f9da8e602403ebc4bb6f30d60353", func := "cofferdam/cofferdamlaw01.OctetsXor", spec := "octetsXor", unfollowed := true, recurses := true, apart := false }
def OctetsXorSaid : Prop := octetsXorRow.holds Try.pinned (OpenSpec.ofChange octetsXorSpec)

/-- ITS FALSE NEIGHBOUR: 'it returns false'. Refute it at one input. -/
def octetsXorWrong : ChangeSpec := { name := "octetsXor", fn := fun _ => fun
  | [d1, d2] => { results := [.lit (.bool false)], args := [d1, d2] }
  | _ => none }
def OctetsXorWrongFalsely : Prop := octetsXorRow.holds Try.pinned (OpenSpec.ofChange octetsXorWrong)

/-- 'cofferdamlaw01.OctetsRanges': WHATEVER THE INPUT: true; the input reads as it did. -/
def octetsRangesSpec : ChangeSpec := { name := "octetsRanges", fn := fun _ => fun
  | [d1, d2, d3] => { results := [.lit (.bool true)], args := [d1, d2, d3] }
  | _ => none }
def octetsRangesRow : OpenClaim := { program := "ytnhfpjjmhanehaa", sum := "655b38460e7ba334f7bd7e5d341279f0d4e3f9da8e602403ebc4bb6f30d60353", func := "cofferdam/cofferdamlaw01.OctetsRanges", spec := "octetsRanges", apart := false }
def OctetsRangesSaid : Prop := octetsRangesRow.holds Try.pinned (OpenSpec.ofChange octetsRangesSpec)

/-- ITS FALSE NEIGHBOUR: 'it returns false'. Refute it at one input. -/
def octetsRangesWrong : ChangeSpec := { name := "octetsRanges", fn := fun _ => fun
  | [d1, d2, d3] => { results := [.lit (.bool false)], args := [d1, d2, d3] }
  | _ => none }
def OctetsRangesWrongFalsely : Prop := octetsRangesRow.holds Try.pinned (OpenSpec.ofChange octetsRangesWrong)

/-- 'cofferdamlaw01.OctetsParts': WHATEVER THE INPUT: true; the input reads as it did. -/
def octetsPartsSpec : ChangeSpec := { name := "octetsParts", fn := fun _ => fun
  | [d1, d2, d3] => { results := [.lit (.bool true)], args := [d1, d2, d3] }
  | _ => none }
def octetsPartsRow : OpenClaim := { program := "ytnhfpjjmhanehaa", sum := "655b38460e7ba334f7bd7e5d341279f0d4e3f9da8e602403ebc4bb6f30d60353", func := "cofferdam/cofferdamlaw01.OctetsParts", spec := "octetsParts", apart := false }
def OctetsPartsSaid : Prop := octetsPartsRow.holds Try.pinned (OpenSpec.ofChange octetsPartsSpec)

/-- ITS FALSE NEIGHBOUR: 'it returns false'. Refute it at one input. -/
def octetsPartsWrong : ChangeSpec := { name := "octetsParts", fn := fun _ => fun
  | [d1, d2, d3] => { results := [.lit (.bool false)], args := [d1, d2, d3] }
  | _ => none }
def OctetsPartsWrongFalsely : Prop := octetsPartsRow.holds Try.pinned (OpenSpec.ofChange octetsPartsWrong)

/-- 'cofferdamlaw01.OctetsOnce': WHATEVER THE INPUT: true; the input reads as it did. -/
def octetsOnceSpec : ChangeSpec := { name := "octetsOnce", fn := fun _ => fun
  | [d1, d2, d3] => { results := [.lit (.bool true)], args := [d1, d2, d3] }
  | _ => none }
def octetsOnceRow : OpenClaim := { program := "ytnhfpjjmhanehaa", sum := "655b38460e7ba334f7bd7e5d341279f0d4e3f9da8e602403ebc4bb6f30d60353", func := "cofferdam/cofferdamlaw01.OctetsOnce", spec := "octetsOnce", apart := false }
def OctetsOnceSaid : Prop := octetsOnceRow.holds Try.pinned (OpenSpec.ofChange octetsOnceSpec)

/-- ITS FALSE NEIGHBOUR: 'it returns false'. Refute it at one input. -/
def octetsOnceWrong : ChangeSpec := { name := "octetsOnce", fn := fun _ => fun
  | [d1, d2, d3] => { results := [.lit (.bool false)], args := [d1, d2, d3] }
  | _ => none }
def OctetsOnceWrongFalsely : Prop := octetsOnceRow.holds Try.pinned (OpenSpec.ofChange octetsOnceWrong)

/- THE SECOND FORM. 'bulk': how many values and letters a reading holds, each counted each time it is reached (what is shared counts as often as it is met; a slice's spare places count too). A statement '..UptoSaid' is the law's where the arguments, and the package variables that the reading takes, are together of bulk at most 1048576: NARROWER than '..Said'. Prove '..Said' where nothing that the law and all that it calls make is longer than what came in: it says more and counts as full. Else prove '..UptoSaid'. A law counts once. -/
mutual
def uptoBulk {H : Type} : DataW H → Nat
  | .lit (.string bytes) => bytes.length + 1
  | .lit _ => 1
  | .nil => 1
  | .ptr d => uptoBulk d + 1
  | .slice elems spare => uptoBulkAll elems + uptoBulkAll spare + 1
  | .agg parts => uptoBulkAll parts + 1
  | .iface _ d => uptoBulk d + 1
  | .map entries => uptoBulkEntries entries + 1
  | .held _ => 1
def uptoBulkAll {H : Type} : List (DataW H) → Nat
  | [] => 0
  | d :: r => uptoBulk d + uptoBulkAll r
def uptoBulkEntries {H : Type} : List (Lit × DataW H) → Nat
  | [] => 0
  | x :: r => uptoBulkEntry x + uptoBulkEntries r
def uptoBulkEntry {H : Type} : Lit × DataW H → Nat
  | (.string bytes, d) => bytes.length + uptoBulk d + 1
  | (_, d) => uptoBulk d + 1
 end
def uptoSmall : (H : Type) → List (DataW H) → Bool := fun _ ds => decide (uptoBulkAll ds ≤ 1048576)
def OpenSpec.upto (s : _root_.Go.ChangeSpec) : _root_.Go.OpenSpec := { _root_.Go.OpenSpec.ofChange s with cond := some uptoSmall }

/-- 'cofferdamlaw01.OctetsNumbers', WHERE WHAT IT READS IS OF BULK AT MOST 1048576: true; the input reads as it did. -/
def octetsNumbersUptoRow : OpenClaim := { program := "ytnhfpjjmhanehaa", sum := "655b38460e7ba334f7bd7e5d341279f0d4e3f9da8e602403ebc4bb6f30d60353", func := "cofferdam/cofferdamlaw01.OctetsNumbers", spec := "octetsNumbers", apart := false, narrowed := true }
def OctetsNumbersUptoSaid : Prop := octetsNumbersUptoRow.holds Try.pinned (OpenSpec.upto octetsNumbersSpec)

/-- 'cofferdamlaw01.OctetsBack', WHERE WHAT IT READS IS OF BULK AT MOST 1048576: true; the input reads as it did. -/
def octetsBackUptoRow : OpenClaim := { program := "ytnhfpjjmhanehaa", sum := "655b38460e7ba334f7bd7e5d341279f0d4e3f9da8e602403ebc4bb6f30d60353", func := "cofferdam/cofferdamlaw01.OctetsBack", spec := "octetsBack", apart := false, narrowed := true }
def OctetsBackUptoSaid : Prop := octetsBackUptoRow.holds Try.pinned (OpenSpec.upto octetsBackSpec)

/-- 'cofferdamlaw01.OctetsOrder', WHERE WHAT IT READS IS OF BULK AT MOST 1048576: true; the input reads as it did. -/
def octetsOrderUptoRow : OpenClaim := { program := "ytnhfpjjmhanehaa", sum := "655b38460e7ba334f7bd7e5d341279f0d4e3f9da8e602403ebc4bb6f30d60353", func := "cofferdam/cofferdamlaw01.OctetsOrder", spec := "octetsOrder", apart := false, narrowed := true }
def OctetsOrderUptoSaid : Prop := octetsOrderUptoRow.holds Try.pinned (OpenSpec.upto octetsOrderSpec)

/-- 'cofferdamlaw01.OctetsFit', WHERE WHAT IT READS IS OF BULK AT MOST 1048576: true; the input reads as it did. -/
def octetsFitUptoRow : OpenClaim := { program := "ytnhfpjjmhanehaa", sum := "655b38460e7ba334f7bd7e5d341279f0d4e3f9da8e602403ebc4bb6f30d60353", func := "cofferdam/cofferdamlaw01.OctetsFit", spec := "octetsFit", apart := false, narrowed := true }
def OctetsFitUptoSaid : Prop := octetsFitUptoRow.holds Try.pinned (OpenSpec.upto octetsFitSpec)

/-- 'cofferdamlaw01.OctetsXor', WHERE WHAT IT READS IS OF BULK AT MOST 1048576: true; the input reads as it did. -/
def octetsXorUptoRow : OpenClaim := { program := "ytnhfpjjmhanehaa", sum := "655b38460e7ba334f7bd7e5d341279f0d4e3f9da8e602403ebc4bb6f30d60353", func := "cofferdam/cofferdamlaw01.OctetsXor", spec := "octetsXor", unfollowed := true, recurses := true, apart := false, narrowed := true }
def OctetsXorUptoSaid : Prop := octetsXorUptoRow.holds Try.pinned (OpenSpec.upto octetsXorSpec)

/-- 'cofferdamlaw01.OctetsRanges', WHERE WHAT IT READS IS OF BULK AT MOST 1048576: true; the input reads as it did. -/
def octetsRangesUptoRow : OpenClaim := { program := "ytnhfpjjmhanehaa", sum := "655b38460e7ba334f7bd7e5d341279f0d4e3f9da8e602403ebc4bb6f30d60353", func := "cofferdam/cofferdamlaw01.OctetsRanges", spec := "octetsRanges", apart := false, narrowed := true }
def OctetsRangesUptoSaid : Prop := octetsRangesUptoRow.holds Try.pinned (OpenSpec.upto octetsRangesSpec)

/-- 'cofferdamlaw01.OctetsParts', WHERE WHAT IT READS IS OF BULK AT MOST 1048576: true; the input reads as it did. -/
def octetsPartsUptoRow : OpenClaim := { program := "ytnhfpjjmhanehaa", sum := "655b38460e7ba334f7bd7e5d341279f0d4e3f9da8e602403ebc4bb6f30d60353", func := "cofferdam/cofferdamlaw01.OctetsParts", spec := "octetsParts", apart := false, narrowed := true }
def OctetsPartsUptoSaid : Prop := octetsPartsUptoRow.holds Try.pinned (OpenSpec.upto octetsPartsSpec)

/-- 'cofferdamlaw01.OctetsOnce', WHERE WHAT IT READS IS OF BULK AT MOST 1048576: true; the input reads as it did. -/
def octetsOnceUptoRow : OpenClaim := { program := "ytnhfpjjmhanehaa", sum := "655b38460e7ba334f7bd7e5d341279f0d4e3f9da8e602403ebc4bb6f30d60353", func := "cofferdam/cofferdamlaw01.OctetsOnce", spec := "octetsOnce", apart := false, narrowed := true }
def OctetsOnceUptoSaid : Prop := octetsOnceUptoRow.holds Try.pinned (OpenSpec.upto octetsOnceSpec)

end Rows
end Go.Proofs.Ytnhfpjjmhanehaa
