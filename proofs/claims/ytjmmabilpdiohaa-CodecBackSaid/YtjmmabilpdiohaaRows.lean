/-
  No cell of these rows narrows 'for every input' (looked for: loops, veiled, ifaces, maps, wideKeys, modest, calm, conditions, laid).
  DERIVED. THE GIVEN ROWS OF THIS SEAT. 6 by the template 'for every input the law returns true; each argument reads behind the call as it read before'; 0 by the template 'total and deterministic' (their statements: YtjmmabilpdiohaaTotals.lean).
  GIVEN WITH THE SEED: the statements are not yours to turn. If you find one false, say at which input.
  Laid BY PROGRAM, IN A SANDBOX (cutbox-rows.mjs): the forced cells as the released guide's own fill.sh prints them over the translation 17952950d4efa905… (all of the seat's roots in one cut). By AI agents, Wed Nov 11 2026. No macro, syntax, notation, axiom, sorry.
-/
import Derived.Test.YtjmmabilpdiohaaChecked
import GoSem.Claim
import GoSem.ClaimJoined
import GoSem.ClaimMapViews
import Derived.JoinedTies
import Derived.KernelRfl
namespace Go.Proofs.Ytjmmabilpdiohaa
/- THE CELL 'sum', in the pinned program and in every row, IS THE sha256 OF THE DUMP (.gsa) THAT YtjmmabilpdiohaaProg.lean LOADS. Nothing in Lean hashes anything: it is a label: what it is worth is what the hold of that sum in a sandbox is worth. -/
noncomputable def Try.pinned : Pinned := { name := "ytjmmabilpdiohaa", sum := "17952950d4efa905298ebe52008dd80c7485b4df70bcf170e196796d766157c9", checked := Try.checked }
namespace Rows
def none {H : Type} : Left H := { results := [], args := [] }

/-- 'cofferdamlaw08.CodecApart': WHATEVER THE INPUT: true; the input reads as it did. -/
def codecApartSpec : ChangeSpec := { name := "codecApart", fn := fun _ => fun
  | [d1, d2] => { results := [.lit (.bool true)], args := [d1, d2] }
  | _ => none }
def codecApartRow : OpenClaim := { program := "ytjmmabilpdiohaa", sum := "17952950d4efa905298ebe52008dd80c7485b4df70bcf170e196796d766157c9", func := "cofferdam/cofferdamlaw08.CodecApart", spec := "codecApart", apart := false }
def CodecApartSaid : Prop := codecApartRow.holds Try.pinned (OpenSpec.ofChange codecApartSpec)

/-- ITS FALSE NEIGHBOUR: 'it returns false'. Refute it at one input. -/
def codecApartWrong : ChangeSpec := { name := "codecApart", fn := fun _ => fun
  | [d1, d2] => { results := [.lit (.bool false)], args := [d1, d2] }
  | _ => none }
def CodecApartWrongFalsely : Prop := codecApartRow.holds Try.pinned (OpenSpec.ofChange codecApartWrong)

/-- 'cofferdamlaw08.CodecFields': WHATEVER THE INPUT: true; the input reads as it did. -/
def codecFieldsSpec : ChangeSpec := { name := "codecFields", fn := fun _ => fun
  | [d1, d2, d3] => { results := [.lit (.bool true)], args := [d1, d2, d3] }
  | _ => none }
def codecFieldsRow : OpenClaim := { program := "ytjmmabilpdiohaa", sum := "17952950d4efa905298ebe52008dd80c7485b4df70bcf170e196796d766157c9", func := "cofferdam/cofferdamlaw08.CodecFields", spec := "codecFields", apart := false }
def CodecFieldsSaid : Prop := codecFieldsRow.holds Try.pinned (OpenSpec.ofChange codecFieldsSpec)

/-- ITS FALSE NEIGHBOUR: 'it returns false'. Refute it at one input. -/
def codecFieldsWrong : ChangeSpec := { name := "codecFields", fn := fun _ => fun
  | [d1, d2, d3] => { results := [.lit (.bool false)], args := [d1, d2, d3] }
  | _ => none }
def CodecFieldsWrongFalsely : Prop := codecFieldsRow.holds Try.pinned (OpenSpec.ofChange codecFieldsWrong)

/-- 'cofferdamlaw08.CodecNumbers': WHATEVER THE INPUT: true; the input reads as it did. -/
def codecNumbersSpec : ChangeSpec := { name := "codecNumbers", fn := fun _ => fun
  | [d1, d2, d3] => { results := [.lit (.bool true)], args := [d1, d2, d3] }
  | _ => none }
def codecNumbersRow : OpenClaim := { program := "ytjmmabilpdiohaa", sum := "17952950d4efa905298ebe52008dd80c7485b4df70bcf170e196796d766157c9", func := "cofferdam/cofferdamlaw08.CodecNumbers", spec := "codecNumbers", apart := false }
def CodecNumbersSaid : Prop := codecNumbersRow.holds Try.pinned (OpenSpec.ofChange codecNumbersSpec)

/-- ITS FALSE NEIGHBOUR: 'it returns false'. Refute it at one input. -/
def codecNumbersWrong : ChangeSpec := { name := "codecNumbers", fn := fun _ => fun
  | [d1, d2, d3] => { results := [.lit (.bool false)], args := [d1, d2, d3] }
  | _ => none }
def CodecNumbersWrongFalsely : Prop := codecNumbersRow.holds Try.pinned (OpenSpec.ofChange codecNumbersWrong)

/-- 'cofferdamlaw08.CodecGroups': WHATEVER THE INPUT: true; the input reads as it did. -/
def codecGroupsSpec : ChangeSpec := { name := "codecGroups", fn := fun _ => fun
  | [d1, d2] => { results := [.lit (.bool true)], args := [d1, d2] }
  | _ => none }
def codecGroupsRow : OpenClaim := { program := "ytjmmabilpdiohaa", sum := "17952950d4efa905298ebe52008dd80c7485b4df70bcf170e196796d766157c9", func := "cofferdam/cofferdamlaw08.CodecGroups", spec := "codecGroups", unfollowed := true, recurses := true, apart := false }
def CodecGroupsSaid : Prop := codecGroupsRow.holds Try.pinned (OpenSpec.ofChange codecGroupsSpec)

/-- ITS FALSE NEIGHBOUR: 'it returns false'. Refute it at one input. -/
def codecGroupsWrong : ChangeSpec := { name := "codecGroups", fn := fun _ => fun
  | [d1, d2] => { results := [.lit (.bool false)], args := [d1, d2] }
  | _ => none }
def CodecGroupsWrongFalsely : Prop := codecGroupsRow.holds Try.pinned (OpenSpec.ofChange codecGroupsWrong)

/-- 'cofferdamlaw08.CodecBack': WHATEVER THE INPUT: true; the input reads as it did. -/
def codecBackSpec : ChangeSpec := { name := "codecBack", fn := fun _ => fun
  | [d1, d2] => { results := [.lit (.bool true)], args := [d1, d2] }
  | _ => none }
def codecBackRow : OpenClaim := { program := "ytjmmabilpdiohaa", sum := "17952950d4efa905298ebe52008dd80c7485b4df70bcf170e196796d766157c9", func := "cofferdam/cofferdamlaw08.CodecBack", spec := "codecBack", unfollowed := true, recurses := true, apart := false }
def CodecBackSaid : Prop := codecBackRow.holds Try.pinned (OpenSpec.ofChange codecBackSpec)

/-- ITS FALSE NEIGHBOUR: 'it returns false'. Refute it at one input. -/
def codecBackWrong : ChangeSpec := { name := "codecBack", fn := fun _ => fun
  | [d1, d2] => { results := [.lit (.bool false)], args := [d1, d2] }
  | _ => none }
def CodecBackWrongFalsely : Prop := codecBackRow.holds Try.pinned (OpenSpec.ofChange codecBackWrong)

/-- 'cofferdamlaw08.CodecWhole': WHATEVER THE INPUT: true; the input reads as it did. -/
def codecWholeSpec : ChangeSpec := { name := "codecWhole", fn := fun _ => fun
  | [d1, d2, d3] => { results := [.lit (.bool true)], args := [d1, d2, d3] }
  | _ => none }
def codecWholeRow : OpenClaim := { program := "ytjmmabilpdiohaa", sum := "17952950d4efa905298ebe52008dd80c7485b4df70bcf170e196796d766157c9", func := "cofferdam/cofferdamlaw08.CodecWhole", spec := "codecWhole", unfollowed := true, recurses := true, apart := false }
def CodecWholeSaid : Prop := codecWholeRow.holds Try.pinned (OpenSpec.ofChange codecWholeSpec)

/-- ITS FALSE NEIGHBOUR: 'it returns false'. Refute it at one input. -/
def codecWholeWrong : ChangeSpec := { name := "codecWhole", fn := fun _ => fun
  | [d1, d2, d3] => { results := [.lit (.bool false)], args := [d1, d2, d3] }
  | _ => none }
def CodecWholeWrongFalsely : Prop := codecWholeRow.holds Try.pinned (OpenSpec.ofChange codecWholeWrong)

/- THE SECOND FORM. 'bulk': how many values and letters a reading holds, each counted each time it is reached (what is shared counts as often as it is met; a slice's spare places count too). A statement '..UptoSaid' is the law's where the arguments, and the package variables that the reading takes, are together of bulk at most 1048576: NARROWER than '..Said'. Prove '..Said' where nothing that the law and all that it calls make is longer than what came in: it says more and counts as full. Else prove '..UptoSaid'. A law counts once. -/
mutual
def uptoBulk {H : Type} : DataW H → Nat
  | .lit (.string bytes) => bytes.length + 1
  | .lit _ => 1
  | .nil => 1
  | .ptr d => uptoBulk d + 1
  | .slice elems spare => uptoBulkAll elems + uptoBulkAll spare + 1
  | .agg parts => uptoBulkAll parts + 1
  | .iface _ d => uptoBulk d + 1
  | .map entries => uptoBulkEntries entries + 1
  | .held _ => 1
def uptoBulkAll {H : Type} : List (DataW H) → Nat
  | [] => 0
  | d :: r => uptoBulk d + uptoBulkAll r
def uptoBulkEntries {H : Type} : List (Lit × DataW H) → Nat
  | [] => 0
  | x :: r => uptoBulkEntry x + uptoBulkEntries r
def uptoBulkEntry {H : Type} : Lit × DataW H → Nat
  | (.string bytes, d) => bytes.length + uptoBulk d + 1
  | (_, d) => uptoBulk d + 1
 end
def uptoSmall : (H : Type) → List (DataW H) → Bool := fun _ ds => decide (uptoBulkAll ds ≤ 1048576)
def OpenSpec.upto (s : _root_.Go.ChangeSpec) : _root_.Go.OpenSpec := { _root_.Go.OpenSpec.ofChange s with cond := some uptoSmall }

/-- 'cofferdamlaw08.CodecApart', WHERE WHAT IT READS IS OF BULK AT MOST 1048576: true; the input reads as it did. -/
def codecApartUptoRow : OpenClaim := { program := "ytjmmabilpdiohaa", sum := "17952950d4efa905298ebe52008dd80c7485b4df70bcf170e196796d766157c9", func := "cofferdam/cofferdamlaw08.CodecApart", spec := "codecApart", apart := false, narrowed := true }
def CodecApartUptoSaid : Prop := codecApartUptoRow.holds Try.pinned (OpenSpec.upto codecApartSpec)

/-- 'cofferdamlaw08.CodecFields', WHERE WHAT IT READS IS OF BULK AT MOST 1048576: true; the input reads as it did. -/
def codecFieldsUptoRow : OpenClaim := { program := "ytjmmabilpdiohaa", sum := "17952950d4efa905298ebe52008dd80c7485b4df70bcf170e196796d766157c9", func := "cofferdam/cofferdamlaw08.CodecFields", spec := "codecFields", apart := false, narrowed := true }
def CodecFieldsUptoSaid : Prop := codecFieldsUptoRow.holds Try.pinned (OpenSpec.upto codecFieldsSpec)

/-- 'cofferdamlaw08.CodecNumbers', WHERE WHAT IT READS IS OF BULK AT MOST 1048576: true; the input reads as it did. -/
def codecNumbersUptoRow : OpenClaim := { program := "ytjmmabilpdiohaa", sum := "17952950d4efa905298ebe52008dd80c7485b4df70bcf170e196796d766157c9", func := "cofferdam/cofferdamlaw08.CodecNumbers", spec := "codecNumbers", apart := false, narrowed := true }
def CodecNumbersUptoSaid : Prop := codecNumbersUptoRow.holds Try.pinned (OpenSpec.upto codecNumbersSpec)

/-- 'cofferdamlaw08.CodecGroups', WHERE WHAT IT READS IS OF BULK AT MOST 1048576: true; the input reads as it did. -/
def codecGroupsUptoRow : OpenClaim := { program := "ytjmmabilpdiohaa", sum := "17952950d4efa905298ebe52008dd80c7485b4df70bcf170e196796d766157c9", func := "cofferdam/cofferdamlaw08.CodecGroups", spec := "codecGroups", unfollowed := true, recurses := true, apart := false, narrowed := true }
def CodecGroupsUptoSaid : Prop := codecGroupsUptoRow.holds Try.pinned (OpenSpec.upto codecGroupsSpec)

/-- 'cofferdamlaw08.CodecBack', WHERE WHAT IT READS IS OF BULK AT MOST 1048576: true; the input reads as it did. -/
def codecBackUptoRow : OpenClaim := { program := "ytjmmabilpdiohaa", sum := "17952950d4efa905298ebe52008dd80c7485b4df70bcf170e196796d766157c9", func := "cofferdam/cofferdamlaw08.CodecBack", spec := "codecBack", unfollowed := true, recurses := true, apart := false, narrowed := true }
def CodecBackUptoSaid : Prop := codecBackUptoRow.holds Try.pinned (OpenSpec.upto codecBackSpec)

/-- 'cofferdamlaw08.CodecWhole', WHERE WHAT IT READS IS OF BULK AT MOST 1048576: true; the input reads as it did. -/
def codecWholeUptoRow : OpenClaim := { program := "ytjmmabilpdiohaa", sum := "17952950d4efa905298ebe52008dd80c7485b4df70bcf170e196796d766157c9", func := "cofferdam/cofferdamlaw08.CodecWhole", spec := "codecWhole", unfollowed := true, recurses := true, apart := false, narrowed := true }
def CodecWholeUptoSaid : Prop := codecWholeUptoRow.holds Try.pinned (OpenSpec.upto codecWholeSpec)

end Rows
end Go.Proofs.Ytjmmabilpdiohaa
