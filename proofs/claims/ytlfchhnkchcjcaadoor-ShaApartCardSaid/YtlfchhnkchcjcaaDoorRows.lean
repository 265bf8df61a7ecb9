/-
  NARROWER THAN 'FOR EVERY INPUT', by the rows' own cells (each row's printed sentence says how): ShaSums: laid · ShaPieces: laid · ShaNil: laid · ShaApart: laid · HmacSums: laid · HmacKeys: laid · HmacParts: laid · HmacTags: laid · HmacOwn: laid.
  DERIVED. THE GIVEN ROWS OF THIS SEAT. 9 by the template 'for every input the law returns true; each argument reads behind the call as it read before'; 0 by the template 'total and deterministic' (their statements: YtlfchhnkchcjcaaDoorTotals.lean).
  GIVEN WITH THE SEED: the statements are not yours to turn. If you find one false, say at which input.
  Laid BY PROGRAM, IN A SANDBOX (cutbox-rows.mjs): the forced cells as the released guide's own fill.sh prints them over the translation b8c1f3375116c97b… (all of the seat's roots in one cut). By AI agents, Wed Nov 11 2026. No macro, syntax, notation, axiom, sorry.
-/
import Derived.Test.YtlfchhnkchcjcaaDoorChecked
import GoSem.Claim
import GoSem.ClaimJoined
import GoSem.ClaimMapViews
import Derived.JoinedTies
import Derived.KernelRfl
namespace Go.Proofs.YtlfchhnkchcjcaaDoor
/- THE CELL 'sum', in the pinned program and in every row, IS THE sha256 OF THE DUMP (.gsa) THAT YtlfchhnkchcjcaaDoorProg.lean LOADS. Nothing in Lean hashes anything: it is a label: what it is worth is what the hold of that sum in a sandbox is worth. -/
noncomputable def Tryd.pinned : Pinned := { name := "ytlfchhnkchcjcaadoor", sum := "b8c1f3375116c97b95d870b85a7e577f0a2d8740be023e99e7c2b2ecbb12d73b", checked := Tryd.checked }
namespace Rows
def none {H : Type} : Left H := { results := [], args := [] }

/- WHAT THE LISTED PACKAGE-LEVEL VARIABLES READ AS WHEN THE CALL BEGINS. Each datum BY PROGRAM (the guide's laid-datum.mjs) off the statement by which the dump's own 'gosem.cut.vars' lays the variable. In a bare row this is a premise. The card (YtlfchhnkchcjcaaDoorCards.lean) ties it to the program's text. -/
def laid_cofferdam_sha_constants {H : Type} : DataW H := .agg [.lit (.int .u32 1116352408), .lit (.int .u32 1899447441), .lit (.int .u32 3049323471), .lit (.int .u32 3921009573), .lit (.int .u32 961987163), .lit (.int .u32 1508970993), .lit (.int .u32 2453635748), .lit (.int .u32 2870763221), .lit (.int .u32 3624381080), .lit (.int .u32 310598401), .lit (.int .u32 607225278), .lit (.int .u32 1426881987), .lit (.int .u32 1925078388), .lit (.int .u32 2162078206), .lit (.int .u32 2614888103), .lit (.int .u32 3248222580), .lit (.int .u32 3835390401), .lit (.int .u32 4022224774), .lit (.int .u32 264347078), .lit (.int .u32 604807628), .lit (.int .u32 770255983), .lit (.int .u32 1249150122), .lit (.int .u32 1555081692), .lit (.int .u32 1996064986), .lit (.int .u32 2554220882), .lit (.int .u32 2821834349), .lit (.int .u32 2952996808), .lit (.int .u32 3210313671), .lit (.int .u32 3336571891), .lit (.int .u32 3584528711), .lit (.int .u32 113926993), .lit (.int .u32 338241895), .lit (.int .u32 666307205), .lit (.int .u32 773529912), .lit (.int .u32 1294757372), .lit (.int .u32 1396182291), .lit (.int .u32 1695183700), .lit (.int .u32 1986661051), .lit (.int .u32 2177026350), .lit (.int .u32 2456956037), .lit (.int .u32 2730485921), .lit (.int .u32 2820302411), .lit (.int .u32 3259730800), .lit (.int .u32 3345764771), .lit (.int .u32 3516065817), .lit (.int .u32 3600352804), .lit (.int .u32 4094571909), .lit (.int .u32 275423344), .lit (.int .u32 430227734), .lit (.int .u32 506948616), .lit (.int .u32 659060556), .lit (.int .u32 883997877), .lit (.int .u32 958139571), .lit (.int .u32 1322822218), .lit (.int .u32 1537002063), .lit (.int .u32 1747873779), .lit (.int .u32 1955562222), .lit (.int .u32 2024104815), .lit (.int .u32 2227730452), .lit (.int .u32 2361852424), .lit (.int .u32 2428436474), .lit (.int .u32 2756734187), .lit (.int .u32 3204031479), .lit (.int .u32 3329325298)]

/-- 'cofferdamlaw02.ShaSums': WHATEVER THE INPUT: true; the input reads as it did. -/
def shaSumsSpec : ChangeSpec := { name := "shaSums", fn := fun _ => fun
  | [d] => { results := [.lit (.bool true)], args := [d] }
  | _ => none }
def shaSumsRow : OpenClaim := { program := "ytlfchhnkchcjcaadoor", sum := "b8c1f3375116c97b95d870b85a7e577f0a2d8740be023e99e7c2b2ecbb12d73b", func := "cofferdam/cofferdamlaw02.ShaSums", spec := "shaSums", unfollowed := true, recurses := true, named := ["cofferdam/sha.constants"], apart := false, laid := [("cofferdam/sha.constants", laid_cofferdam_sha_constants)] }
def ShaSumsSaid : Prop := shaSumsRow.holds Tryd.pinned (OpenSpec.ofChange shaSumsSpec)

/-- ITS FALSE NEIGHBOUR: 'it returns false'. Refute it at one input. -/
def shaSumsWrong : ChangeSpec := { name := "shaSums", fn := fun _ => fun
  | [d] => { results := [.lit (.bool false)], args := [d] }
  | _ => none }
def ShaSumsWrongFalsely : Prop := shaSumsRow.holds Tryd.pinned (OpenSpec.ofChange shaSumsWrong)

/-- 'cofferdamlaw02.ShaPieces': WHATEVER THE INPUT: true; the input reads as it did. -/
def shaPiecesSpec : ChangeSpec := { name := "shaPieces", fn := fun _ => fun
  | [d] => { results := [.lit (.bool true)], args := [d] }
  | _ => none }
def shaPiecesRow : OpenClaim := { program := "ytlfchhnkchcjcaadoor", sum := "b8c1f3375116c97b95d870b85a7e577f0a2d8740be023e99e7c2b2ecbb12d73b", func := "cofferdam/cofferdamlaw02.ShaPieces", spec := "shaPieces", unfollowed := true, recurses := true, named := ["cofferdam/sha.constants"], apart := false, laid := [("cofferdam/sha.constants", laid_cofferdam_sha_constants)] }
def ShaPiecesSaid : Prop := shaPiecesRow.holds Tryd.pinned (OpenSpec.ofChange shaPiecesSpec)

/-- ITS FALSE NEIGHBOUR: 'it returns false'. Refute it at one input. -/
def shaPiecesWrong : ChangeSpec := { name := "shaPieces", fn := fun _ => fun
  | [d] => { results := [.lit (.bool false)], args := [d] }
  | _ => none }
def ShaPiecesWrongFalsely : Prop := shaPiecesRow.holds Tryd.pinned (OpenSpec.ofChange shaPiecesWrong)

/-- 'cofferdamlaw02.ShaNil': WHATEVER THE INPUT: true; the input reads as it did. -/
def shaNilSpec : ChangeSpec := { name := "shaNil", fn := fun _ => fun
  | [d] => { results := [.lit (.bool true)], args := [d] }
  | _ => none }
def shaNilRow : OpenClaim := { program := "ytlfchhnkchcjcaadoor", sum := "b8c1f3375116c97b95d870b85a7e577f0a2d8740be023e99e7c2b2ecbb12d73b", func := "cofferdam/cofferdamlaw02.ShaNil", spec := "shaNil", unfollowed := true, recurses := true, named := ["cofferdam/sha.constants"], apart := false, laid := [("cofferdam/sha.constants", laid_cofferdam_sha_constants)] }
def ShaNilSaid : Prop := shaNilRow.holds Tryd.pinned (OpenSpec.ofChange shaNilSpec)

/-- ITS FALSE NEIGHBOUR: 'it returns false'. Refute it at one input. -/
def shaNilWrong : ChangeSpec := { name := "shaNil", fn := fun _ => fun
  | [d] => { results := [.lit (.bool false)], args := [d] }
  | _ => none }
def ShaNilWrongFalsely : Prop := shaNilRow.holds Tryd.pinned (OpenSpec.ofChange shaNilWrong)

/-- 'cofferdamlaw02.ShaApart': WHATEVER THE INPUT: true; the input reads as it did. -/
def shaApartSpec : ChangeSpec := { name := "shaApart", fn := fun _ => fun
  | [d1, d2] => { results := [.lit (.bool true)], args := [d1, d2] }
  | _ => none }
def shaApartRow : OpenClaim := { program := "ytlfchhnkchcjcaadoor", sum := "b8c1f3375116c97b95d870b85a7e577f0a2d8740be023e99e7c2b2ecbb12d73b", func := "cofferdam/cofferdamlaw02.ShaApart", spec := "shaApart", unfollowed := true, recurses := true, named := ["cofferdam/sha.constants"], apart := false, laid := [("cofferdam/sha.constants", laid_cofferdam_sha_constants)] }
def ShaApartSaid : Prop := shaApartRow.holds Tryd.pinned (OpenSpec.ofChange shaApartSpec)

/-- ITS FALSE NEIGHBOUR: 'it returns false'. Refute it at one input. -/
def shaApartWrong : ChangeSpec := { name := "shaApart", fn := fun _ => fun
  | [d1, d2] => { results := [.lit (.bool false)], args := [d1, d2] }
  | _ => none }
def ShaApartWrongFalsely : Prop := shaApartRow.holds Tryd.pinned (OpenSpec.ofChange shaApartWrong)

/-- 'cofferdamlaw03.HmacSums': WHATEVER THE INPUT: true; the input reads as it did. -/
def hmacSumsSpec : ChangeSpec := { name := "hmacSums", fn := fun _ => fun
  | [d1, d2] => { results := [.lit (.bool true)], args := [d1, d2] }
  | _ => none }
def hmacSumsRow : OpenClaim := { program := "ytlfchhnkchcjcaadoor", sum := "b8c1f3375116c97b95d870b85a7e577f0a2d8740be023e99e7c2b2ecbb12d73b", func := "cofferdam/cofferdamlaw03.HmacSums", spec := "hmacSums", unfollowed := true, recurses := true, named := ["cofferdam/sha.constants"], apart := false, laid := [("cofferdam/sha.constants", laid_cofferdam_sha_constants)] }
def HmacSumsSaid : Prop := hmacSumsRow.holds Tryd.pinned (OpenSpec.ofChange hmacSumsSpec)

/-- ITS FALSE NEIGHBOUR: 'it returns false'. Refute it at one input. -/
def hmacSumsWrong : ChangeSpec := { name := "hmacSums", fn := fun _ => fun
  | [d1, d2] => { results := [.lit (.bool false)], args := [d1, d2] }
  | _ => none }
def HmacSumsWrongFalsely : Prop := hmacSumsRow.holds Tryd.pinned (OpenSpec.ofChange hmacSumsWrong)

/-- 'cofferdamlaw03.HmacKeys': WHATEVER THE INPUT: true; the input reads as it did. -/
def hmacKeysSpec : ChangeSpec := { name := "hmacKeys", fn := fun _ => fun
  | [d1, d2, d3] => { results := [.lit (.bool true)], args := [d1, d2, d3] }
  | _ => none }
def hmacKeysRow : OpenClaim := { program := "ytlfchhnkchcjcaadoor", sum := "b8c1f3375116c97b95d870b85a7e577f0a2d8740be023e99e7c2b2ecbb12d73b", func := "cofferdam/cofferdamlaw03.HmacKeys", spec := "hmacKeys", unfollowed := true, recurses := true, named := ["cofferdam/sha.constants"], apart := false, laid := [("cofferdam/sha.constants", laid_cofferdam_sha_constants)] }
def HmacKeysSaid : Prop := hmacKeysRow.holds Tryd.pinned (OpenSpec.ofChange hmacKeysSpec)

/-- ITS FALSE NEIGHBOUR: 'it returns false'. Refute it at one input. -/
def hmacKeysWrong : ChangeSpec := { name := "hmacKeys", fn := fun _ => fun
  | [d1, d2, d3] => { results := [.lit (.bool false)], args := [d1, d2, d3] }
  | _ => none }
def HmacKeysWrongFalsely : Prop := hmacKeysRow.holds Tryd.pinned (OpenSpec.ofChange hmacKeysWrong)

/-- 'cofferdamlaw03.HmacParts': WHATEVER THE INPUT: true; the input reads as it did. -/
def hmacPartsSpec : ChangeSpec := { name := "hmacParts", fn := fun _ => fun
  | [d] => { results := [.lit (.bool true)], args := [d] }
  | _ => none }
def hmacPartsRow : OpenClaim := { program := "ytlfchhnkchcjcaadoor", sum := "b8c1f3375116c97b95d870b85a7e577f0a2d8740be023e99e7c2b2ecbb12d73b", func := "cofferdam/cofferdamlaw03.HmacParts", spec := "hmacParts", unfollowed := true, recurses := true, named := ["cofferdam/sha.constants"], apart := false, laid := [("cofferdam/sha.constants", laid_cofferdam_sha_constants)] }
def HmacPartsSaid : Prop := hmacPartsRow.holds Tryd.pinned (OpenSpec.ofChange hmacPartsSpec)

/-- ITS FALSE NEIGHBOUR: 'it returns false'. Refute it at one input. -/
def hmacPartsWrong : ChangeSpec := { name := "hmacParts", fn := fun _ => fun
  | [d] => { results := [.lit (.bool false)], args := [d] }
  | _ => none }
def HmacPartsWrongFalsely : Prop := hmacPartsRow.holds Tryd.pinned (OpenSpec.ofChange hmacPartsWrong)

/-- 'cofferdamlaw03.HmacTags': WHATEVER THE INPUT: true; the input reads as it did. -/
def hmacTagsSpec : ChangeSpec := { name := "hmacTags", fn := fun _ => fun
  | [d] => { results := [.lit (.bool true)], args := [d] }
  | _ => none }
def hmacTagsRow : OpenClaim := { program := "ytlfchhnkchcjcaadoor", sum := "b8c1f3375116c97b95d870b85a7e577f0a2d8740be023e99e7c2b2ecbb12d73b", func := "cofferdam/cofferdamlaw03.HmacTags", spec := "hmacTags", unfollowed := true, recurses := true, named := ["cofferdam/sha.constants"], apart := false, laid := [("cofferdam/sha.constants", laid_cofferdam_sha_constants)] }
def HmacTagsSaid : Prop := hmacTagsRow.holds Tryd.pinned (OpenSpec.ofChange hmacTagsSpec)

/-- ITS FALSE NEIGHBOUR: 'it returns false'. Refute it at one input. -/
def hmacTagsWrong : ChangeSpec := { name := "hmacTags", fn := fun _ => fun
  | [d] => { results := [.lit (.bool false)], args := [d] }
  | _ => none }
def HmacTagsWrongFalsely : Prop := hmacTagsRow.holds Tryd.pinned (OpenSpec.ofChange hmacTagsWrong)

/-- 'cofferdamlaw03.HmacOwn': WHATEVER THE INPUT: true; the input reads as it did. -/
def hmacOwnSpec : ChangeSpec := { name := "hmacOwn", fn := fun _ => fun
  | [d1, d2, d3] => { results := [.lit (.bool true)], args := [d1, d2, d3] }
  | _ => none }
def hmacOwnRow : OpenClaim := { program := "ytlfchhnkchcjcaadoor", sum := "b8c1f3375116c97b95d870b85a7e577f0a2d8740be023e99e7c2b2ecbb12d73b", func := "cofferdam/cofferdamlaw03.HmacOwn", spec := "hmacOwn", unfollowed := true, recurses := true, named := ["cofferdam/sha.constants"], apart := false, laid := [("cofferdam/sha.constants", laid_cofferdam_sha_constants)] }
def HmacOwnSaid : Prop := hmacOwnRow.holds Tryd.pinned (OpenSpec.ofChange hmacOwnSpec)

/-- ITS FALSE NEIGHBOUR: 'it returns false'. Refute it at one input. -/
def hmacOwnWrong : ChangeSpec := { name := "hmacOwn", fn := fun _ => fun
  | [d1, d2, d3] => { results := [.lit (.bool false)], args := [d1, d2, d3] }
  | _ => none }
def HmacOwnWrongFalsely : Prop := hmacOwnRow.holds Tryd.pinned (OpenSpec.ofChange hmacOwnWrong)

/- THE SECOND FORM. 'bulk': how many values and letters a reading holds, each counted each time it is reached (what is shared counts as often as it is met; a slice's spare places count too). A statement '..UptoSaid' is the law's where the arguments, and the package variables that the reading takes, are together of bulk at most 1048576: NARROWER than '..Said'. Prove '..Said' where nothing that the law and all that it calls make is longer than what came in: it says more and counts as full. Else prove '..UptoSaid'. A law counts once. -/
mutual
def uptoBulk {H : Type} : DataW H → Nat
  | .lit (.string bytes) => bytes.length + 1
  | .lit _ => 1
  | .nil => 1
  | .ptr d => uptoBulk d + 1
  | .slice elems spare => uptoBulkAll elems + uptoBulkAll spare + 1
  | .agg parts => uptoBulkAll parts + 1
  | .iface _ d => uptoBulk d + 1
  | .map entries => uptoBulkEntries entries + 1
  | .held _ => 1
def uptoBulkAll {H : Type} : List (DataW H) → Nat
  | [] => 0
  | d :: r => uptoBulk d + uptoBulkAll r
def uptoBulkEntries {H : Type} : List (Lit × DataW H) → Nat
  | [] => 0
  | x :: r => uptoBulkEntry x + uptoBulkEntries r
def uptoBulkEntry {H : Type} : Lit × DataW H → Nat
  | (.string bytes, d) => bytes.length + uptoBulk d + 1
  | (_, d) => uptoBulk d + 1
 end
def uptoSmall : (H : Type) → List (DataW H) → Bool := fun _ ds => decide (uptoBulkAll ds ≤ 1048576)
def OpenSpec.upto (s : _root_.Go.ChangeSpec) : _root_.Go.OpenSpec := { _root_.Go.OpenSpec.ofChange s with cond := some uptoSmall }

/-- 'cofferdamlaw02.ShaSums', WHERE WHAT IT READS IS OF BULK AT MOST 1048576: true; the input reads as it did. -/
def shaSumsUptoRow : OpenClaim := { program := "ytlfchhnkchcjcaadoor", sum := "b8c1f3375116c97b95d870b85a7e577f0a2d8740be023e99e7c2b2ecbb12d73b", func := "cofferdam/cofferdamlaw02.ShaSums", spec := "shaSums", unfollowed := true, recurses := true, named := ["cofferdam/sha.constants"], apart := false, laid := [("cofferdam/sha.constants", laid_cofferdam_sha_constants)], narrowed := true }
def ShaSumsUptoSaid : Prop := shaSumsUptoRow.holds Tryd.pinned (OpenSpec.upto shaSumsSpec)

/-- 'cofferdamlaw02.ShaPieces', WHERE WHAT IT READS IS OF BULK AT MOST 1048576: true; the input reads as it did. -/
def shaPiecesUptoRow : OpenClaim := { program := "ytlfchhnkchcjcaadoor", sum := "b8c1f3375116c97b95d870b85a7e577f0a2d8740be023e99e7c2b2ecbb12d73b", func := "cofferdam/cofferdamlaw02.ShaPieces", spec := "shaPieces", unfollowed := true, recurses := true, named := ["cofferdam/sha.constants"], apart := false, laid := [("cofferdam/sha.constants", laid_cofferdam_sha_constants)], narrowed := true }
def ShaPiecesUptoSaid : Prop := shaPiecesUptoRow.holds Tryd.pinned (OpenSpec.upto shaPiecesSpec)

/-- 'cofferdamlaw02.ShaNil', WHERE WHAT IT READS IS OF BULK AT MOST 1048576: true; the input reads as it did. -/
def shaNilUptoRow : OpenClaim := { program := "ytlfchhnkchcjcaadoor", sum := "b8c1f3375116c97b95d870b85a7e577f0a2d8740be023e99e7c2b2ecbb12d73b", func := "cofferdam/cofferdamlaw02.ShaNil", spec := "shaNil", unfollowed := true, recurses := true, named := ["cofferdam/sha.constants"], apart := false, laid := [("cofferdam/sha.constants", laid_cofferdam_sha_constants)], narrowed := true }
def ShaNilUptoSaid : Prop := shaNilUptoRow.holds Tryd.pinned (OpenSpec.upto shaNilSpec)

/-- 'cofferdamlaw02.ShaApart', WHERE WHAT IT READS IS OF BULK AT MOST 1048576: true; the input reads as it did. -/
def shaApartUptoRow : OpenClaim := { program := "ytlfchhnkchcjcaadoor", sum := "b8c1f3375116c97b95d870b85a7e577f0a2d8740be023e99e7c2b2ecbb12d73b", func := "cofferdam/cofferdamlaw02.ShaApart", spec := "shaApart", unfollowed := true, recurses := true, named := ["cofferdam/sha.constants"], apart := false, laid := [("cofferdam/sha.constants", laid_cofferdam_sha_constants)], narrowed := true }
def ShaApartUptoSaid : Prop := shaApartUptoRow.holds Tryd.pinned (OpenSpec.upto shaApartSpec)

/-- 'cofferdamlaw03.HmacSums', WHERE WHAT IT READS IS OF BULK AT MOST 1048576: true; the input reads as it did. -/
def hmacSumsUptoRow : OpenClaim := { program := "ytlfchhnkchcjcaadoor", sum := "b8c1f3375116c97b95d870b85a7e577f0a2d8740be023e99e7c2b2ecbb12d73b", func := "cofferdam/cofferdamlaw03.HmacSums", spec := "hmacSums", unfollowed := true, recurses := true, named := ["cofferdam/sha.constants"], apart := false, laid := [("cofferdam/sha.constants", laid_cofferdam_sha_constants)], narrowed := true }
def HmacSumsUptoSaid : Prop := hmacSumsUptoRow.holds Tryd.pinned (OpenSpec.upto hmacSumsSpec)

/-- 'cofferdamlaw03.HmacKeys', WHERE WHAT IT READS IS OF BULK AT MOST 1048576: true; the input reads as it did. -/
def hmacKeysUptoRow : OpenClaim := { program := "ytlfchhnkchcjcaadoor", sum := "b8c1f3375116c97b95d870b85a7e577f0a2d8740be023e99e7c2b2ecbb12d73b", func := "cofferdam/cofferdamlaw03.HmacKeys", spec := "hmacKeys", unfollowed := true, recurses := true, named := ["cofferdam/sha.constants"], apart := false, laid := [("cofferdam/sha.constants", laid_cofferdam_sha_constants)], narrowed := true }
def HmacKeysUptoSaid : Prop := hmacKeysUptoRow.holds Tryd.pinned (OpenSpec.upto hmacKeysSpec)

/-- 'cofferdamlaw03.HmacParts', WHERE WHAT IT READS IS OF BULK AT MOST 1048576: true; the input reads as it did. -/
def hmacPartsUptoRow : OpenClaim := { program := "ytlfchhnkchcjcaadoor", sum := "b8c1f3375116c97b95d870b85a7e577f0a2d8740be023e99e7c2b2ecbb12d73b", func := "cofferdam/cofferdamlaw03.HmacParts", spec := "hmacParts", unfollowed := true, recurses := true, named := ["cofferdam/sha.constants"], apart := false, laid := [("cofferdam/sha.constants", laid_cofferdam_sha_constants)], narrowed := true }
def HmacPartsUptoSaid : Prop := hmacPartsUptoRow.holds Tryd.pinned (OpenSpec.upto hmacPartsSpec)

/-- 'cofferdamlaw03.HmacTags', WHERE WHAT IT READS IS OF BULK AT MOST 1048576: true; the input reads as it did. -/
def hmacTagsUptoRow : OpenClaim := { program := "ytlfchhnkchcjcaadoor", sum := "b8c1f3375116c97b95d870b85a7e577f0a2d8740be023e99e7c2b2ecbb12d73b", func := "cofferdam/cofferdamlaw03.HmacTags", spec := "hmacTags", unfollowed := true, recurses := true, named := ["cofferdam/sha.constants"], apart := false, laid := [("cofferdam/sha.constants", laid_cofferdam_sha_constants)], narrowed := true }
def HmacTagsUptoSaid : Prop := hmacTagsUptoRow.holds Tryd.pinned (OpenSpec.upto hmacTagsSpec)

/-- 'cofferdamlaw03.HmacOwn', WHERE WHAT IT READS IS OF BULK AT MOST 1048576: true; the input reads as it did. -/
def hmacOwnUptoRow : OpenClaim := { program := "ytlfchhnkchcjcaadoor", sum := "b8c1f3375116c97b95d870b85a7e577f0a2d8740be023e99e7c2b2ecbb12d73b", func := "cofferdam/cofferdamlaw03.HmacOwn", spec := "hmacOwn", unfollowed := true, recurses := true, named := ["cofferdam/sha.constants"], apart := false, laid := [("cofferdam/sha.constants", laid_cofferdam_sha_constants)], narrowed := true }
def HmacOwnUptoSaid : Prop := hmacOwnUptoRow.holds Tryd.pinned (OpenSpec.upto hmacOwnSpec)

end Rows
end Go.Proofs.YtlfchhnkchcjcaaDoor
