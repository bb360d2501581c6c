/-
  DERIVED. GIVEN WITH THE SEED: THE CARDS: each row of YtfacahgkhpcfmaaGreatDoorRows.lean that lists a variable, with what it lists TIED to the program's text (the seventh form; the later family's looks); each row that meets fmt, with fmt's text TOLD by the authors' own Lean function (tested against real Go, not proved from fmt's source: count such statements apart). THE CARD IS WHAT COUNTS. Prove the row's statement (the work); the ties are given (YtfacahgkhpcfmaaGreatDoorTie.lean); close each card by the builder's one call (the guide's Derived/Test/ToyasCard.lean, 'card_holds'). Laid BY PROGRAM, IN A SANDBOX (cutbox-door.mjs). By AI agents, Wed Nov 11 2026. No macro, syntax, notation, axiom, sorry.
-/
import Derived.Test.YtfacahgkhpcfmaaGreatDoorRows
import GoSem.ClaimSeven
namespace Go.Proofs.YtfacahgkhpcfmaaGreatDoor
namespace Rows

/-- THE TIED CARD OF 'motleylaw04.TreeWords'. -/
def treeWordsCard : Claim7 := { stood := { row := treeWordsRow, standIns := [], harness := (true, "198e52cbcc7dee2aa1f47fb69a701e240ecc95b470d5af0075c7e0c2d4023ed1"), looks := true }, kinds := [], alts := [], laidByText := true, laidKinds := [.data, .data, .data, .data, .sentinel, .sentinel, .listed, .data, .pinned], laidTests := true, laidLooks := .later }
def TreeWordsCardSaid : Prop := Claim7.holds Tryz.pinned (.plain (OpenSpec.ofChange treeWordsSpec)) treeWordsCard

/-- THE TIED CARD OF 'motleylaw04.TreeSames'. -/
def treeSamesCard : Claim7 := { stood := { row := treeSamesRow, standIns := [], harness := (true, "198e52cbcc7dee2aa1f47fb69a701e240ecc95b470d5af0075c7e0c2d4023ed1"), looks := true }, kinds := [], alts := [], laidByText := true, laidKinds := [.data, .data, .data, .data, .sentinel, .sentinel, .listed, .data, .pinned], laidTests := true, laidLooks := .later }
def TreeSamesCardSaid : Prop := Claim7.holds Tryz.pinned (.plain (OpenSpec.ofChange treeSamesSpec)) treeSamesCard

/-- THE SECOND FORM's CARD OF 'motleylaw04.TreeWords'. -/
def treeWordsUptoCard : Claim7 := { stood := { row := treeWordsUptoRow, standIns := [], harness := (true, "198e52cbcc7dee2aa1f47fb69a701e240ecc95b470d5af0075c7e0c2d4023ed1"), looks := true }, kinds := [], alts := [], laidByText := true, laidKinds := [.data, .data, .data, .data, .sentinel, .sentinel, .listed, .data, .pinned], laidTests := true, laidLooks := .later }
def TreeWordsUptoCardSaid : Prop := Claim7.holds Tryz.pinned (.plain (OpenSpec.upto treeWordsSpec)) treeWordsUptoCard

/-- THE SECOND FORM's CARD OF 'motleylaw04.TreeSames'. -/
def treeSamesUptoCard : Claim7 := { stood := { row := treeSamesUptoRow, standIns := [], harness := (true, "198e52cbcc7dee2aa1f47fb69a701e240ecc95b470d5af0075c7e0c2d4023ed1"), looks := true }, kinds := [], alts := [], laidByText := true, laidKinds := [.data, .data, .data, .data, .sentinel, .sentinel, .listed, .data, .pinned], laidTests := true, laidLooks := .later }
def TreeSamesUptoCardSaid : Prop := Claim7.holds Tryz.pinned (.plain (OpenSpec.upto treeSamesSpec)) treeSamesUptoCard
end Rows
end Go.Proofs.YtfacahgkhpcfmaaGreatDoor
