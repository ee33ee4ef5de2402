/-
  DERIVED. GIVEN WITH THE SEED: THE CARDS: each row of YtcemohoigdninaaGreatDoorRows.lean that lists a variable, with what it lists TIED to the program's text (the seventh form; the later family's looks); each row that meets fmt, with fmt's text TOLD by the authors' own Lean function (tested against real Go, not proved from fmt's source: count such statements apart). THE CARD IS WHAT COUNTS. Prove the row's statement (the work); the ties are given (YtcemohoigdninaaGreatDoorTie.lean); close each card by the builder's one call (the guide's Derived/Test/ToyasCard.lean, 'card_holds'). Laid BY PROGRAM, IN A SANDBOX (cutbox-door.mjs). By AI agents, Wed Nov 11 2026. No macro, syntax, notation, axiom, sorry.
-/
import Derived.Test.YtcemohoigdninaaGreatDoorRows
import GoSem.ClaimSeven
namespace Go.Proofs.YtcemohoigdninaaGreatDoor
namespace Rows

/-- THE TIED CARD OF 'sieveholeslaw21.ValueKnown'. -/
def valueKnownCard : Claim7 := { stood := { row := valueKnownRow, standIns := [], harness := (true, "8e22c27f184286f252f897d0e8d1261b3b0b20c9f812fdc4832cee65ab5e2f1c"), looks := false }, kinds := [], alts := [], laidByText := true, laidKinds := [.data, .data, .data], laidTests := true, laidLooks := .later }
def ValueKnownCardSaid : Prop := Claim7.holds Tryz.pinned (.plain (OpenSpec.ofChange valueKnownSpec)) valueKnownCard

/-- THE TIED CARD OF 'sieveholeslaw24.CondTells'. -/
def condTellsCard : Claim7 := { stood := { row := condTellsRow, standIns := [], harness := (true, "8e22c27f184286f252f897d0e8d1261b3b0b20c9f812fdc4832cee65ab5e2f1c"), looks := false }, kinds := [], alts := [], laidByText := true, laidKinds := [.data, .data, .data], laidTests := true, laidLooks := .later }
def CondTellsCardSaid : Prop := Claim7.holds Tryz.pinned (.plain (OpenSpec.ofChange condTellsSpec)) condTellsCard

/-- THE TIED CARD OF 'sieveholeslaw22.ArithDoes'. -/
def arithDoesCard : Claim7 := { stood := { row := arithDoesRow, standIns := [], harness := (true, "8e22c27f184286f252f897d0e8d1261b3b0b20c9f812fdc4832cee65ab5e2f1c"), looks := false }, kinds := [], alts := [], laidByText := true, laidKinds := [.data, .data, .data], laidTests := true, laidLooks := .later }
def ArithDoesCardSaid : Prop := Claim7.holds Tryz.pinned (.plain (OpenSpec.ofChange arithDoesSpec)) arithDoesCard

/-- THE TIED CARD OF 'sieveholeslaw24.CondKnown'. -/
def condKnownCard : Claim7 := { stood := { row := condKnownRow, standIns := [], harness := (true, "8e22c27f184286f252f897d0e8d1261b3b0b20c9f812fdc4832cee65ab5e2f1c"), looks := false }, kinds := [], alts := [], laidByText := true, laidKinds := [.data, .data, .data], laidTests := true, laidLooks := .later }
def CondKnownCardSaid : Prop := Claim7.holds Tryz.pinned (.plain (OpenSpec.ofChange condKnownSpec)) condKnownCard

/-- THE TIED CARD OF 'sieveholeslaw22.ArithKnown'. -/
def arithKnownCard : Claim7 := { stood := { row := arithKnownRow, standIns := [], harness := (true, "8e22c27f184286f252f897d0e8d1261b3b0b20c9f812fdc4832cee65ab5e2f1c"), looks := false }, kinds := [], alts := [], laidByText := true, laidKinds := [.data, .data, .data], laidTests := true, laidLooks := .later }
def ArithKnownCardSaid : Prop := Claim7.holds Tryz.pinned (.plain (OpenSpec.ofChange arithKnownSpec)) arithKnownCard

/-- THE SECOND FORM's CARD OF 'sieveholeslaw21.ValueKnown'. -/
def valueKnownUptoCard : Claim7 := { stood := { row := valueKnownUptoRow, standIns := [], harness := (true, "8e22c27f184286f252f897d0e8d1261b3b0b20c9f812fdc4832cee65ab5e2f1c"), looks := false }, kinds := [], alts := [], laidByText := true, laidKinds := [.data, .data, .data], laidTests := true, laidLooks := .later }
def ValueKnownUptoCardSaid : Prop := Claim7.holds Tryz.pinned (.plain (OpenSpec.upto valueKnownSpec)) valueKnownUptoCard

/-- THE SECOND FORM's CARD OF 'sieveholeslaw24.CondTells'. -/
def condTellsUptoCard : Claim7 := { stood := { row := condTellsUptoRow, standIns := [], harness := (true, "8e22c27f184286f252f897d0e8d1261b3b0b20c9f812fdc4832cee65ab5e2f1c"), looks := false }, kinds := [], alts := [], laidByText := true, laidKinds := [.data, .data, .data], laidTests := true, laidLooks := .later }
def CondTellsUptoCardSaid : Prop := Claim7.holds Tryz.pinned (.plain (OpenSpec.upto condTellsSpec)) condTellsUptoCard

/-- THE SECOND FORM's CARD OF 'sieveholeslaw22.ArithDoes'. -/
def arithDoesUptoCard : Claim7 := { stood := { row := arithDoesUptoRow, standIns := [], harness := (true, "8e22c27f184286f252f897d0e8d1261b3b0b20c9f812fdc4832cee65ab5e2f1c"), looks := false }, kinds := [], alts := [], laidByText := true, laidKinds := [.data, .data, .data], laidTests := true, laidLooks := .later }
def ArithDoesUptoCardSaid : Prop := Claim7.holds Tryz.pinned (.plain (OpenSpec.upto arithDoesSpec)) arithDoesUptoCard

/-- THE SECOND FORM's CARD OF 'sieveholeslaw24.CondKnown'. -/
def condKnownUptoCard : Claim7 := { stood := { row := condKnownUptoRow, standIns := [], harness := (true, "8e22c27f184286f252f897d0e8d1261b3b0b20c9f812fdc4832cee65ab5e2f1c"), looks := false }, kinds := [], alts := [], laidByText := true, laidKinds := [.data, .data, .data], laidTests := true, laidLooks := .later }
def CondKnownUptoCardSaid : Prop := Claim7.holds Tryz.pinned (.plain (OpenSpec.upto condKnownSpec)) condKnownUptoCard

/-- THE SECOND FORM's CARD OF 'sieveholeslaw22.ArithKnown'. -/
def arithKnownUptoCard : Claim7 := { stood := { row := arithKnownUptoRow, standIns := [], harness := (true, "8e22c27f184286f252f897d0e8d1261b3b0b20c9f812fdc4832cee65ab5e2f1c"), looks := false }, kinds := [], alts := [], laidByText := true, laidKinds := [.data, .data, .data], laidTests := true, laidLooks := .later }
def ArithKnownUptoCardSaid : Prop := Claim7.holds Tryz.pinned (.plain (OpenSpec.upto arithKnownSpec)) arithKnownUptoCard
end Rows
end Go.Proofs.YtcemohoigdninaaGreatDoor
