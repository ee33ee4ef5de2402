/-
  DERIVED. GIVEN WITH THE SEED: THE CARDS: each row of YtocppbocphnbcaaGreatDoorRows.lean that lists a variable, with what it lists TIED to the program's text (the seventh form; the later family's looks); each row that meets fmt, with fmt's text TOLD by the authors' own Lean function (tested against real Go, not proved from fmt's source: count such statements apart). THE CARD IS WHAT COUNTS. Prove the row's statement (the work); the ties are given (YtocppbocphnbcaaGreatDoorTie.lean); close each card by the builder's one call (the guide's Derived/Test/ToyasCard.lean, 'card_holds'). Laid BY PROGRAM, IN A SANDBOX (cutbox-door.mjs). By AI agents, Wed Nov 11 2026. No macro, syntax, notation, axiom, sorry.
-/
import Derived.Test.YtocppbocphnbcaaGreatDoorRows
import GoSem.ClaimSeven
namespace Go.Proofs.YtocppbocphnbcaaGreatDoor
namespace Rows

/-- THE TIED CARD OF 'sieveholeslaw13.IrSets'. -/
def irSetsCard : Claim7 := { stood := { row := irSetsRow, standIns := [], harness := (true, "0aed6d0f41eea4a25334f2b623e1dd2ddaeae16c0c7f086147b68b25dce15098"), looks := true }, kinds := [], alts := [], laidByText := true, laidKinds := [.data], laidTests := true, laidLooks := .later }
def IrSetsCardSaid : Prop := Claim7.holds Tryz.pinned (.plain (OpenSpec.ofChange irSetsSpec)) irSetsCard

/-- THE TIED CARD OF 'sieveholeslaw13.IrBlocks'. -/
def irBlocksCard : Claim7 := { stood := { row := irBlocksRow, standIns := [], harness := (true, "0aed6d0f41eea4a25334f2b623e1dd2ddaeae16c0c7f086147b68b25dce15098"), looks := true }, kinds := [], alts := [], laidByText := true, laidKinds := [.data], laidTests := true, laidLooks := .later }
def IrBlocksCardSaid : Prop := Claim7.holds Tryz.pinned (.plain (OpenSpec.ofChange irBlocksSpec)) irBlocksCard

/-- THE SECOND FORM's CARD OF 'sieveholeslaw13.IrSets'. -/
def irSetsUptoCard : Claim7 := { stood := { row := irSetsUptoRow, standIns := [], harness := (true, "0aed6d0f41eea4a25334f2b623e1dd2ddaeae16c0c7f086147b68b25dce15098"), looks := true }, kinds := [], alts := [], laidByText := true, laidKinds := [.data], laidTests := true, laidLooks := .later }
def IrSetsUptoCardSaid : Prop := Claim7.holds Tryz.pinned (.plain (OpenSpec.upto irSetsSpec)) irSetsUptoCard

/-- THE SECOND FORM's CARD OF 'sieveholeslaw13.IrBlocks'. -/
def irBlocksUptoCard : Claim7 := { stood := { row := irBlocksUptoRow, standIns := [], harness := (true, "0aed6d0f41eea4a25334f2b623e1dd2ddaeae16c0c7f086147b68b25dce15098"), looks := true }, kinds := [], alts := [], laidByText := true, laidKinds := [.data], laidTests := true, laidLooks := .later }
def IrBlocksUptoCardSaid : Prop := Claim7.holds Tryz.pinned (.plain (OpenSpec.upto irBlocksSpec)) irBlocksUptoCard
end Rows
end Go.Proofs.YtocppbocphnbcaaGreatDoor
