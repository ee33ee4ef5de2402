/-
  DERIVED. GIVEN WITH THE SEED: THE CARDS: each row of YtnfppdblcmollaaGreatDoorRows.lean that lists a variable, with what it lists TIED to the program's text (the seventh form; the later family's looks); each row that meets fmt, with fmt's text TOLD by the authors' own Lean function (tested against real Go, not proved from fmt's source: count such statements apart). THE CARD IS WHAT COUNTS. Prove the row's statement (the work); the ties are given (YtnfppdblcmollaaGreatDoorTie.lean); close each card by the builder's one call (the guide's Derived/Test/ToyasCard.lean, 'card_holds'). Laid BY PROGRAM, IN A SANDBOX (cutbox-door.mjs). By AI agents, Wed Nov 11 2026. No macro, syntax, notation, axiom, sorry.
-/
import Derived.Test.YtnfppdblcmollaaGreatDoorRows
import GoSem.ClaimSeven
namespace Go.Proofs.YtnfppdblcmollaaGreatDoor
namespace Rows

/-- THE TIED CARD OF 'sieveholeslaw26.TaintSets'. -/
def taintSetsCard : Claim7 := { stood := { row := taintSetsRow, standIns := [], harness := (true, "1483ad7e0e92fde89f781e1c44cfe58502759e64bead281dda2a854da1308bfb"), looks := true }, kinds := [], alts := [], laidByText := true, laidKinds := [.data], laidTests := true, laidLooks := .later }
def TaintSetsCardSaid : Prop := Claim7.holds Tryz.pinned (.plain (OpenSpec.ofChange taintSetsSpec)) taintSetsCard

/-- THE TIED CARD OF 'sieveholeslaw25.StorePlays'. -/
def storePlaysCard : Claim7 := { stood := { row := storePlaysRow, standIns := [], harness := (true, "1483ad7e0e92fde89f781e1c44cfe58502759e64bead281dda2a854da1308bfb"), looks := true }, kinds := [], alts := [], laidByText := true, laidKinds := [.data, .data, .data, .data], laidTests := true, laidLooks := .later }
def StorePlaysCardSaid : Prop := Claim7.holds Tryz.pinned (.plain (OpenSpec.ofChange storePlaysSpec)) storePlaysCard

/-- THE TIED CARD OF 'sieveholeslaw26.TaintMarks'. -/
def taintMarksCard : Claim7 := { stood := { row := taintMarksRow, standIns := [], harness := (true, "1483ad7e0e92fde89f781e1c44cfe58502759e64bead281dda2a854da1308bfb"), looks := true }, kinds := [], alts := [], laidByText := true, laidKinds := [.data], laidTests := true, laidLooks := .later }
def TaintMarksCardSaid : Prop := Claim7.holds Tryz.pinned (.plain (OpenSpec.ofChange taintMarksSpec)) taintMarksCard

/-- THE SECOND FORM's CARD OF 'sieveholeslaw26.TaintSets'. -/
def taintSetsUptoCard : Claim7 := { stood := { row := taintSetsUptoRow, standIns := [], harness := (true, "1483ad7e0e92fde89f781e1c44cfe58502759e64bead281dda2a854da1308bfb"), looks := true }, kinds := [], alts := [], laidByText := true, laidKinds := [.data], laidTests := true, laidLooks := .later }
def TaintSetsUptoCardSaid : Prop := Claim7.holds Tryz.pinned (.plain (OpenSpec.upto taintSetsSpec)) taintSetsUptoCard

/-- THE SECOND FORM's CARD OF 'sieveholeslaw25.StorePlays'. -/
def storePlaysUptoCard : Claim7 := { stood := { row := storePlaysUptoRow, standIns := [], harness := (true, "1483ad7e0e92fde89f781e1c44cfe58502759e64bead281dda2a854da1308bfb"), looks := true }, kinds := [], alts := [], laidByText := true, laidKinds := [.data, .data, .data, .data], laidTests := true, laidLooks := .later }
def StorePlaysUptoCardSaid : Prop := Claim7.holds Tryz.pinned (.plain (OpenSpec.upto storePlaysSpec)) storePlaysUptoCard

/-- THE SECOND FORM's CARD OF 'sieveholeslaw26.TaintMarks'. -/
def taintMarksUptoCard : Claim7 := { stood := { row := taintMarksUptoRow, standIns := [], harness := (true, "1483ad7e0e92fde89f781e1c44cfe58502759e64bead281dda2a854da1308bfb"), looks := true }, kinds := [], alts := [], laidByText := true, laidKinds := [.data], laidTests := true, laidLooks := .later }
def TaintMarksUptoCardSaid : Prop := Claim7.holds Tryz.pinned (.plain (OpenSpec.upto taintMarksSpec)) taintMarksUptoCard
end Rows
end Go.Proofs.YtnfppdblcmollaaGreatDoor
