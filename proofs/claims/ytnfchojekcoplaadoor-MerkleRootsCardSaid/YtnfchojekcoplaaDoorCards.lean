/-
  DERIVED. GIVEN WITH THE SEED: THE CARDS: each row of YtnfchojekcoplaaDoorRows.lean that lists a variable, with what it lists TIED to the program's text (the seventh form; the later family's looks); each row that meets fmt, with fmt's text TOLD by the authors' own Lean function (tested against real Go, not proved from fmt's source: count such statements apart). THE CARD IS WHAT COUNTS. Prove the row's statement (the work); the ties are given (YtnfchojekcoplaaDoorTie.lean); close each card by the builder's one call (the guide's Derived/Test/ToyasCard.lean, 'card_holds'). Laid BY PROGRAM, IN A SANDBOX (cutbox-door.mjs). By AI agents, Wed Nov 11 2026. No macro, syntax, notation, axiom, sorry.
-/
import Derived.Test.YtnfchojekcoplaaDoorRows
import GoSem.ClaimSeven
namespace Go.Proofs.YtnfchojekcoplaaDoor
namespace Rows

/-- THE TIED CARD OF 'cofferdamlaw06.MerkleTrees'. -/
def merkleTreesCard : Claim7 := { stood := { row := merkleTreesRow, standIns := [], harness := (true, "d4dfe0fa01931b4e18a153c88bfaf9e75dceaf6e7c1cff618c78980425d6decd"), looks := false }, kinds := [], alts := [], laidByText := true, laidKinds := [.data], laidTests := true, laidLooks := .later }
def MerkleTreesCardSaid : Prop := Claim7.holds Tryd.pinned (.plain (OpenSpec.ofChange merkleTreesSpec)) merkleTreesCard

/-- THE TIED CARD OF 'cofferdamlaw06.MerkleChecks'. -/
def merkleChecksCard : Claim7 := { stood := { row := merkleChecksRow, standIns := [], harness := (true, "d4dfe0fa01931b4e18a153c88bfaf9e75dceaf6e7c1cff618c78980425d6decd"), looks := false }, kinds := [], alts := [], laidByText := true, laidKinds := [.data], laidTests := true, laidLooks := .later }
def MerkleChecksCardSaid : Prop := Claim7.holds Tryd.pinned (.plain (OpenSpec.ofChange merkleChecksSpec)) merkleChecksCard

/-- THE TIED CARD OF 'cofferdamlaw06.MerkleOwn'. -/
def merkleOwnCard : Claim7 := { stood := { row := merkleOwnRow, standIns := [], harness := (true, "d4dfe0fa01931b4e18a153c88bfaf9e75dceaf6e7c1cff618c78980425d6decd"), looks := false }, kinds := [], alts := [], laidByText := true, laidKinds := [.data], laidTests := true, laidLooks := .later }
def MerkleOwnCardSaid : Prop := Claim7.holds Tryd.pinned (.plain (OpenSpec.ofChange merkleOwnSpec)) merkleOwnCard

/-- THE TIED CARD OF 'cofferdamlaw06.MerkleNoOther'. -/
def merkleNoOtherCard : Claim7 := { stood := { row := merkleNoOtherRow, standIns := [], harness := (true, "d4dfe0fa01931b4e18a153c88bfaf9e75dceaf6e7c1cff618c78980425d6decd"), looks := false }, kinds := [], alts := [], laidByText := true, laidKinds := [.data], laidTests := true, laidLooks := .later }
def MerkleNoOtherCardSaid : Prop := Claim7.holds Tryd.pinned (.plain (OpenSpec.ofChange merkleNoOtherSpec)) merkleNoOtherCard

/-- THE TIED CARD OF 'cofferdamlaw06.MerkleRoots'. -/
def merkleRootsCard : Claim7 := { stood := { row := merkleRootsRow, standIns := [], harness := (true, "d4dfe0fa01931b4e18a153c88bfaf9e75dceaf6e7c1cff618c78980425d6decd"), looks := false }, kinds := [], alts := [], laidByText := true, laidKinds := [.data], laidTests := true, laidLooks := .later }
def MerkleRootsCardSaid : Prop := Claim7.holds Tryd.pinned (.plain (OpenSpec.ofChange merkleRootsSpec)) merkleRootsCard

/-- THE TIED CARD OF 'cofferdamlaw06.MerkleOne'. -/
def merkleOneCard : Claim7 := { stood := { row := merkleOneRow, standIns := [], harness := (true, "d4dfe0fa01931b4e18a153c88bfaf9e75dceaf6e7c1cff618c78980425d6decd"), looks := false }, kinds := [], alts := [], laidByText := true, laidKinds := [.data], laidTests := true, laidLooks := .later }
def MerkleOneCardSaid : Prop := Claim7.holds Tryd.pinned (.plain (OpenSpec.ofChange merkleOneSpec)) merkleOneCard

/-- THE SECOND FORM's CARD OF 'cofferdamlaw06.MerkleTrees'. -/
def merkleTreesUptoCard : Claim7 := { stood := { row := merkleTreesUptoRow, standIns := [], harness := (true, "d4dfe0fa01931b4e18a153c88bfaf9e75dceaf6e7c1cff618c78980425d6decd"), looks := false }, kinds := [], alts := [], laidByText := true, laidKinds := [.data], laidTests := true, laidLooks := .later }
def MerkleTreesUptoCardSaid : Prop := Claim7.holds Tryd.pinned (.plain (OpenSpec.upto merkleTreesSpec)) merkleTreesUptoCard

/-- THE SECOND FORM's CARD OF 'cofferdamlaw06.MerkleChecks'. -/
def merkleChecksUptoCard : Claim7 := { stood := { row := merkleChecksUptoRow, standIns := [], harness := (true, "d4dfe0fa01931b4e18a153c88bfaf9e75dceaf6e7c1cff618c78980425d6decd"), looks := false }, kinds := [], alts := [], laidByText := true, laidKinds := [.data], laidTests := true, laidLooks := .later }
def MerkleChecksUptoCardSaid : Prop := Claim7.holds Tryd.pinned (.plain (OpenSpec.upto merkleChecksSpec)) merkleChecksUptoCard

/-- THE SECOND FORM's CARD OF 'cofferdamlaw06.MerkleOwn'. -/
def merkleOwnUptoCard : Claim7 := { stood := { row := merkleOwnUptoRow, standIns := [], harness := (true, "d4dfe0fa01931b4e18a153c88bfaf9e75dceaf6e7c1cff618c78980425d6decd"), looks := false }, kinds := [], alts := [], laidByText := true, laidKinds := [.data], laidTests := true, laidLooks := .later }
def MerkleOwnUptoCardSaid : Prop := Claim7.holds Tryd.pinned (.plain (OpenSpec.upto merkleOwnSpec)) merkleOwnUptoCard

/-- THE SECOND FORM's CARD OF 'cofferdamlaw06.MerkleNoOther'. -/
def merkleNoOtherUptoCard : Claim7 := { stood := { row := merkleNoOtherUptoRow, standIns := [], harness := (true, "d4dfe0fa01931b4e18a153c88bfaf9e75dceaf6e7c1cff618c78980425d6decd"), looks := false }, kinds := [], alts := [], laidByText := true, laidKinds := [.data], laidTests := true, laidLooks := .later }
def MerkleNoOtherUptoCardSaid : Prop := Claim7.holds Tryd.pinned (.plain (OpenSpec.upto merkleNoOtherSpec)) merkleNoOtherUptoCard

/-- THE SECOND FORM's CARD OF 'cofferdamlaw06.MerkleRoots'. -/
def merkleRootsUptoCard : Claim7 := { stood := { row := merkleRootsUptoRow, standIns := [], harness := (true, "d4dfe0fa01931b4e18a153c88bfaf9e75dceaf6e7c1cff618c78980425d6decd"), looks := false }, kinds := [], alts := [], laidByText := true, laidKinds := [.data], laidTests := true, laidLooks := .later }
def MerkleRootsUptoCardSaid : Prop := Claim7.holds Tryd.pinned (.plain (OpenSpec.upto merkleRootsSpec)) merkleRootsUptoCard

/-- THE SECOND FORM's CARD OF 'cofferdamlaw06.MerkleOne'. -/
def merkleOneUptoCard : Claim7 := { stood := { row := merkleOneUptoRow, standIns := [], harness := (true, "d4dfe0fa01931b4e18a153c88bfaf9e75dceaf6e7c1cff618c78980425d6decd"), looks := false }, kinds := [], alts := [], laidByText := true, laidKinds := [.data], laidTests := true, laidLooks := .later }
def MerkleOneUptoCardSaid : Prop := Claim7.holds Tryd.pinned (.plain (OpenSpec.upto merkleOneSpec)) merkleOneUptoCard
end Rows
end Go.Proofs.YtnfchojekcoplaaDoor
