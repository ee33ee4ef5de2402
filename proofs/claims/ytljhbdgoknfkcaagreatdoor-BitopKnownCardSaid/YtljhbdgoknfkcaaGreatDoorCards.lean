/-
  DERIVED. GIVEN WITH THE SEED: THE CARDS: each row of YtljhbdgoknfkcaaGreatDoorRows.lean that lists a variable, with what it lists TIED to the program's text (the seventh form; the later family's looks); each row that meets fmt, with fmt's text TOLD by the authors' own Lean function (tested against real Go, not proved from fmt's source: count such statements apart). THE CARD IS WHAT COUNTS. Prove the row's statement (the work); the ties are given (YtljhbdgoknfkcaaGreatDoorTie.lean); close each card by the builder's one call (the guide's Derived/Test/ToyasCard.lean, 'card_holds'). Laid BY PROGRAM, IN A SANDBOX (cutbox-door.mjs). By AI agents, Wed Nov 11 2026. No macro, syntax, notation, axiom, sorry.
-/
import Derived.Test.YtljhbdgoknfkcaaGreatDoorRows
import GoSem.ClaimSeven
namespace Go.Proofs.YtljhbdgoknfkcaaGreatDoor
namespace Rows

/-- THE TIED CARD OF 'sieveholeslaw21.ValueKnown'. -/
def valueKnownCard : Claim7 := { stood := { row := valueKnownRow, standIns := [], harness := (true, "94e2b11c9e3796b07b900d29b2c5f3d812da8fe9cc41531f1df75ac898dd622c"), looks := false }, kinds := [], alts := [], laidByText := true, laidKinds := [.data, .data, .data], laidTests := true, laidLooks := .later }
def ValueKnownCardSaid : Prop := Claim7.holds Tryz.pinned (.plain (OpenSpec.ofChange valueKnownSpec)) valueKnownCard

/-- THE TIED CARD OF 'sieveholeslaw22.ArithDoes'. -/
def arithDoesCard : Claim7 := { stood := { row := arithDoesRow, standIns := [], harness := (true, "94e2b11c9e3796b07b900d29b2c5f3d812da8fe9cc41531f1df75ac898dd622c"), looks := false }, kinds := [], alts := [], laidByText := true, laidKinds := [.data, .data, .data], laidTests := true, laidLooks := .later }
def ArithDoesCardSaid : Prop := Claim7.holds Tryz.pinned (.plain (OpenSpec.ofChange arithDoesSpec)) arithDoesCard

/-- THE TIED CARD OF 'sieveholeslaw22.ArithKnown'. -/
def arithKnownCard : Claim7 := { stood := { row := arithKnownRow, standIns := [], harness := (true, "94e2b11c9e3796b07b900d29b2c5f3d812da8fe9cc41531f1df75ac898dd622c"), looks := false }, kinds := [], alts := [], laidByText := true, laidKinds := [.data, .data, .data], laidTests := true, laidLooks := .later }
def ArithKnownCardSaid : Prop := Claim7.holds Tryz.pinned (.plain (OpenSpec.ofChange arithKnownSpec)) arithKnownCard

/-- THE TIED CARD OF 'sieveholeslaw23.BitopSingle'. -/
def bitopSingleCard : Claim7 := { stood := { row := bitopSingleRow, standIns := [], harness := (true, "94e2b11c9e3796b07b900d29b2c5f3d812da8fe9cc41531f1df75ac898dd622c"), looks := false }, kinds := [], alts := [], laidByText := true, laidKinds := [.data, .data, .data], laidTests := true, laidLooks := .later }
def BitopSingleCardSaid : Prop := Claim7.holds Tryz.pinned (.plain (OpenSpec.ofChange bitopSingleSpec)) bitopSingleCard

/-- THE TIED CARD OF 'sieveholeslaw23.BitopDoes'. -/
def bitopDoesCard : Claim7 := { stood := { row := bitopDoesRow, standIns := [], harness := (true, "94e2b11c9e3796b07b900d29b2c5f3d812da8fe9cc41531f1df75ac898dd622c"), looks := false }, kinds := [], alts := [], laidByText := true, laidKinds := [.data, .data, .data], laidTests := true, laidLooks := .later }
def BitopDoesCardSaid : Prop := Claim7.holds Tryz.pinned (.plain (OpenSpec.ofChange bitopDoesSpec)) bitopDoesCard

/-- THE TIED CARD OF 'sieveholeslaw23.BitopSound'. -/
def bitopSoundCard : Claim7 := { stood := { row := bitopSoundRow, standIns := [], harness := (true, "94e2b11c9e3796b07b900d29b2c5f3d812da8fe9cc41531f1df75ac898dd622c"), looks := false }, kinds := [], alts := [], laidByText := true, laidKinds := [.data, .data, .data], laidTests := true, laidLooks := .later }
def BitopSoundCardSaid : Prop := Claim7.holds Tryz.pinned (.plain (OpenSpec.ofChange bitopSoundSpec)) bitopSoundCard

/-- THE TIED CARD OF 'sieveholeslaw23.BitopKnown'. -/
def bitopKnownCard : Claim7 := { stood := { row := bitopKnownRow, standIns := [], harness := (true, "94e2b11c9e3796b07b900d29b2c5f3d812da8fe9cc41531f1df75ac898dd622c"), looks := false }, kinds := [], alts := [], laidByText := true, laidKinds := [.data, .data, .data], laidTests := true, laidLooks := .later }
def BitopKnownCardSaid : Prop := Claim7.holds Tryz.pinned (.plain (OpenSpec.ofChange bitopKnownSpec)) bitopKnownCard

/-- THE SECOND FORM's CARD OF 'sieveholeslaw21.ValueKnown'. -/
def valueKnownUptoCard : Claim7 := { stood := { row := valueKnownUptoRow, standIns := [], harness := (true, "94e2b11c9e3796b07b900d29b2c5f3d812da8fe9cc41531f1df75ac898dd622c"), looks := false }, kinds := [], alts := [], laidByText := true, laidKinds := [.data, .data, .data], laidTests := true, laidLooks := .later }
def ValueKnownUptoCardSaid : Prop := Claim7.holds Tryz.pinned (.plain (OpenSpec.upto valueKnownSpec)) valueKnownUptoCard

/-- THE SECOND FORM's CARD OF 'sieveholeslaw22.ArithDoes'. -/
def arithDoesUptoCard : Claim7 := { stood := { row := arithDoesUptoRow, standIns := [], harness := (true, "94e2b11c9e3796b07b900d29b2c5f3d812da8fe9cc41531f1df75ac898dd622c"), looks := false }, kinds := [], alts := [], laidByText := true, laidKinds := [.data, .data, .data], laidTests := true, laidLooks := .later }
def ArithDoesUptoCardSaid : Prop := Claim7.holds Tryz.pinned (.plain (OpenSpec.upto arithDoesSpec)) arithDoesUptoCard

/-- THE SECOND FORM's CARD OF 'sieveholeslaw22.ArithKnown'. -/
def arithKnownUptoCard : Claim7 := { stood := { row := arithKnownUptoRow, standIns := [], harness := (true, "94e2b11c9e3796b07b900d29b2c5f3d812da8fe9cc41531f1df75ac898dd622c"), looks := false }, kinds := [], alts := [], laidByText := true, laidKinds := [.data, .data, .data], laidTests := true, laidLooks := .later }
def ArithKnownUptoCardSaid : Prop := Claim7.holds Tryz.pinned (.plain (OpenSpec.upto arithKnownSpec)) arithKnownUptoCard

/-- THE SECOND FORM's CARD OF 'sieveholeslaw23.BitopSingle'. -/
def bitopSingleUptoCard : Claim7 := { stood := { row := bitopSingleUptoRow, standIns := [], harness := (true, "94e2b11c9e3796b07b900d29b2c5f3d812da8fe9cc41531f1df75ac898dd622c"), looks := false }, kinds := [], alts := [], laidByText := true, laidKinds := [.data, .data, .data], laidTests := true, laidLooks := .later }
def BitopSingleUptoCardSaid : Prop := Claim7.holds Tryz.pinned (.plain (OpenSpec.upto bitopSingleSpec)) bitopSingleUptoCard

/-- THE SECOND FORM's CARD OF 'sieveholeslaw23.BitopDoes'. -/
def bitopDoesUptoCard : Claim7 := { stood := { row := bitopDoesUptoRow, standIns := [], harness := (true, "94e2b11c9e3796b07b900d29b2c5f3d812da8fe9cc41531f1df75ac898dd622c"), looks := false }, kinds := [], alts := [], laidByText := true, laidKinds := [.data, .data, .data], laidTests := true, laidLooks := .later }
def BitopDoesUptoCardSaid : Prop := Claim7.holds Tryz.pinned (.plain (OpenSpec.upto bitopDoesSpec)) bitopDoesUptoCard

/-- THE SECOND FORM's CARD OF 'sieveholeslaw23.BitopSound'. -/
def bitopSoundUptoCard : Claim7 := { stood := { row := bitopSoundUptoRow, standIns := [], harness := (true, "94e2b11c9e3796b07b900d29b2c5f3d812da8fe9cc41531f1df75ac898dd622c"), looks := false }, kinds := [], alts := [], laidByText := true, laidKinds := [.data, .data, .data], laidTests := true, laidLooks := .later }
def BitopSoundUptoCardSaid : Prop := Claim7.holds Tryz.pinned (.plain (OpenSpec.upto bitopSoundSpec)) bitopSoundUptoCard

/-- THE SECOND FORM's CARD OF 'sieveholeslaw23.BitopKnown'. -/
def bitopKnownUptoCard : Claim7 := { stood := { row := bitopKnownUptoRow, standIns := [], harness := (true, "94e2b11c9e3796b07b900d29b2c5f3d812da8fe9cc41531f1df75ac898dd622c"), looks := false }, kinds := [], alts := [], laidByText := true, laidKinds := [.data, .data, .data], laidTests := true, laidLooks := .later }
def BitopKnownUptoCardSaid : Prop := Claim7.holds Tryz.pinned (.plain (OpenSpec.upto bitopKnownSpec)) bitopKnownUptoCard
end Rows
end Go.Proofs.YtljhbdgoknfkcaaGreatDoor
