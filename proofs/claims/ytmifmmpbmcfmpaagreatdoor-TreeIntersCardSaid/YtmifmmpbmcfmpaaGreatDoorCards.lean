/-
  DERIVED. GIVEN WITH THE SEED: THE CARDS: each row of YtmifmmpbmcfmpaaGreatDoorRows.lean that lists a variable, with what it lists TIED to the program's text (the seventh form; the later family's looks); each row that meets fmt, with fmt's text TOLD by the authors' own Lean function (tested against real Go, not proved from fmt's source: count such statements apart). THE CARD IS WHAT COUNTS. Prove the row's statement (the work); the ties are given (YtmifmmpbmcfmpaaGreatDoorTie.lean); close each card by the builder's one call (the guide's Derived/Test/ToyasCard.lean, 'card_holds'). Laid BY PROGRAM, IN A SANDBOX (cutbox-door.mjs). By AI agents, Wed Nov 11 2026. No macro, syntax, notation, axiom, sorry.
-/
import Derived.Test.YtmifmmpbmcfmpaaGreatDoorRows
import GoSem.ClaimSeven
namespace Go.Proofs.YtmifmmpbmcfmpaaGreatDoor
namespace Rows

/-- THE TIED CARD OF 'motleylaw04.TreeInters'. -/
def treeIntersCard : Claim7 := { stood := { row := treeIntersRow, standIns := [], harness := (true, "fd4ef9b1bfa669e01f1fe1242ef01c4692702d2ab3d5f20797e4fe411b18f266"), looks := true }, kinds := [], alts := [], laidByText := true, laidKinds := [.data, .data, .data, .data, .sentinel, .sentinel, .listed, .data, .pinned], laidTests := true, laidLooks := .later }
def TreeIntersCardSaid : Prop := Claim7.holds Tryz.pinned (.plain (OpenSpec.ofChange treeIntersSpec)) treeIntersCard

/-- THE SECOND FORM's CARD OF 'motleylaw04.TreeInters'. -/
def treeIntersUptoCard : Claim7 := { stood := { row := treeIntersUptoRow, standIns := [], harness := (true, "fd4ef9b1bfa669e01f1fe1242ef01c4692702d2ab3d5f20797e4fe411b18f266"), looks := true }, kinds := [], alts := [], laidByText := true, laidKinds := [.data, .data, .data, .data, .sentinel, .sentinel, .listed, .data, .pinned], laidTests := true, laidLooks := .later }
def TreeIntersUptoCardSaid : Prop := Claim7.holds Tryz.pinned (.plain (OpenSpec.upto treeIntersSpec)) treeIntersUptoCard
end Rows
end Go.Proofs.YtmifmmpbmcfmpaaGreatDoor
