/-
  DERIVED. GIVEN WITH THE SEED: THE CARDS: each row of YtmcjdbkjiedolaaGreatDoorRows.lean that lists a variable, with what it lists TIED to the program's text (the seventh form; the later family's looks); each row that meets fmt, with fmt's text TOLD by the authors' own Lean function (tested against real Go, not proved from fmt's source: count such statements apart). THE CARD IS WHAT COUNTS. Prove the row's statement (the work); the ties are given (YtmcjdbkjiedolaaGreatDoorTie.lean); close each card by the builder's one call (the guide's Derived/Test/ToyasCard.lean, 'card_holds'). Laid BY PROGRAM, IN A SANDBOX (cutbox-door.mjs). By AI agents, Wed Nov 11 2026. No macro, syntax, notation, axiom, sorry.
-/
import Derived.Test.YtmcjdbkjiedolaaGreatDoorRows
import GoSem.ClaimSeven
namespace Go.Proofs.YtmcjdbkjiedolaaGreatDoor
namespace Rows

/-- THE TIED CARD OF 'sieveholeslaw12.TypingKnown'. -/
def typingKnownCard : Claim7 := { stood := { row := typingKnownRow, standIns := [], harness := (true, "a1a111ce82babfcdf6adaf509cb1f07aaa02f4b98b860459e72cefc7cae5bf54"), looks := true }, kinds := [], alts := [], laidByText := true, laidKinds := [.data], laidTests := true, laidLooks := .later }
def TypingKnownCardSaid : Prop := Claim7.holds Tryz.pinned (.plain (OpenSpec.ofChange typingKnownSpec)) typingKnownCard

/-- THE TIED CARD OF 'sieveholeslaw15.EnvNone'. -/
def envNoneCard : Claim7 := { stood := { row := envNoneRow, standIns := [], harness := (true, "a1a111ce82babfcdf6adaf509cb1f07aaa02f4b98b860459e72cefc7cae5bf54"), looks := true }, kinds := [], alts := [], laidByText := true, laidKinds := [.data, .data], laidTests := true, laidLooks := .later }
def EnvNoneCardSaid : Prop := Claim7.holds Tryz.pinned (.plain (OpenSpec.ofChange envNoneSpec)) envNoneCard

/-- THE TIED CARD OF 'sieveholeslaw13.IrKnown'. -/
def irKnownCard : Claim7 := { stood := { row := irKnownRow, standIns := [], harness := (true, "a1a111ce82babfcdf6adaf509cb1f07aaa02f4b98b860459e72cefc7cae5bf54"), looks := true }, kinds := [], alts := [], laidByText := true, laidKinds := [.data], laidTests := true, laidLooks := .later }
def IrKnownCardSaid : Prop := Claim7.holds Tryz.pinned (.plain (OpenSpec.ofChange irKnownSpec)) irKnownCard

/-- THE TIED CARD OF 'sieveholeslaw15.EnvKnown'. -/
def envKnownCard : Claim7 := { stood := { row := envKnownRow, standIns := [], harness := (true, "a1a111ce82babfcdf6adaf509cb1f07aaa02f4b98b860459e72cefc7cae5bf54"), looks := true }, kinds := [], alts := [], laidByText := true, laidKinds := [.data, .data, .data, .data, .data], laidTests := true, laidLooks := .later }
def EnvKnownCardSaid : Prop := Claim7.holds Tryz.pinned (.plain (OpenSpec.ofChange envKnownSpec)) envKnownCard

/-- THE TIED CARD OF 'sieveholeslaw25.StoreKnown'. -/
def storeKnownCard : Claim7 := { stood := { row := storeKnownRow, standIns := [], harness := (true, "a1a111ce82babfcdf6adaf509cb1f07aaa02f4b98b860459e72cefc7cae5bf54"), looks := true }, kinds := [], alts := [], laidByText := true, laidKinds := [.data, .data, .data, .data], laidTests := true, laidLooks := .later }
def StoreKnownCardSaid : Prop := Claim7.holds Tryz.pinned (.plain (OpenSpec.ofChange storeKnownSpec)) storeKnownCard

/-- THE SECOND FORM's CARD OF 'sieveholeslaw12.TypingKnown'. -/
def typingKnownUptoCard : Claim7 := { stood := { row := typingKnownUptoRow, standIns := [], harness := (true, "a1a111ce82babfcdf6adaf509cb1f07aaa02f4b98b860459e72cefc7cae5bf54"), looks := true }, kinds := [], alts := [], laidByText := true, laidKinds := [.data], laidTests := true, laidLooks := .later }
def TypingKnownUptoCardSaid : Prop := Claim7.holds Tryz.pinned (.plain (OpenSpec.upto typingKnownSpec)) typingKnownUptoCard

/-- THE SECOND FORM's CARD OF 'sieveholeslaw15.EnvNone'. -/
def envNoneUptoCard : Claim7 := { stood := { row := envNoneUptoRow, standIns := [], harness := (true, "a1a111ce82babfcdf6adaf509cb1f07aaa02f4b98b860459e72cefc7cae5bf54"), looks := true }, kinds := [], alts := [], laidByText := true, laidKinds := [.data, .data], laidTests := true, laidLooks := .later }
def EnvNoneUptoCardSaid : Prop := Claim7.holds Tryz.pinned (.plain (OpenSpec.upto envNoneSpec)) envNoneUptoCard

/-- THE SECOND FORM's CARD OF 'sieveholeslaw13.IrKnown'. -/
def irKnownUptoCard : Claim7 := { stood := { row := irKnownUptoRow, standIns := [], harness := (true, "a1a111ce82babfcdf6adaf509cb1f07aaa02f4b98b860459e72cefc7cae5bf54"), looks := true }, kinds := [], alts := [], laidByText := true, laidKinds := [.data], laidTests := true, laidLooks := .later }
def IrKnownUptoCardSaid : Prop := Claim7.holds Tryz.pinned (.plain (OpenSpec.upto irKnownSpec)) irKnownUptoCard

/-- THE SECOND FORM's CARD OF 'sieveholeslaw15.EnvKnown'. -/
def envKnownUptoCard : Claim7 := { stood := { row := envKnownUptoRow, standIns := [], harness := (true, "a1a111ce82babfcdf6adaf509cb1f07aaa02f4b98b860459e72cefc7cae5bf54"), looks := true }, kinds := [], alts := [], laidByText := true, laidKinds := [.data, .data, .data, .data, .data], laidTests := true, laidLooks := .later }
def EnvKnownUptoCardSaid : Prop := Claim7.holds Tryz.pinned (.plain (OpenSpec.upto envKnownSpec)) envKnownUptoCard

/-- THE SECOND FORM's CARD OF 'sieveholeslaw25.StoreKnown'. -/
def storeKnownUptoCard : Claim7 := { stood := { row := storeKnownUptoRow, standIns := [], harness := (true, "a1a111ce82babfcdf6adaf509cb1f07aaa02f4b98b860459e72cefc7cae5bf54"), looks := true }, kinds := [], alts := [], laidByText := true, laidKinds := [.data, .data, .data, .data], laidTests := true, laidLooks := .later }
def StoreKnownUptoCardSaid : Prop := Claim7.holds Tryz.pinned (.plain (OpenSpec.upto storeKnownSpec)) storeKnownUptoCard
end Rows
end Go.Proofs.YtmcjdbkjiedolaaGreatDoor
