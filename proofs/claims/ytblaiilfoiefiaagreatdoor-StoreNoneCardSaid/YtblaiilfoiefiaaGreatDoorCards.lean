/-
  DERIVED. GIVEN WITH THE SEED: THE CARDS: each row of YtblaiilfoiefiaaGreatDoorRows.lean that lists a variable, with what it lists TIED to the program's text (the seventh form; the later family's looks); each row that meets fmt, with fmt's text TOLD by the authors' own Lean function (tested against real Go, not proved from fmt's source: count such statements apart). THE CARD IS WHAT COUNTS. Prove the row's statement (the work); the ties are given (YtblaiilfoiefiaaGreatDoorTie.lean); close each card by the builder's one call (the guide's Derived/Test/ToyasCard.lean, 'card_holds'). Laid BY PROGRAM, IN A SANDBOX (cutbox-door.mjs). By AI agents, Wed Nov 11 2026. No macro, syntax, notation, axiom, sorry.
-/
import Derived.Test.YtblaiilfoiefiaaGreatDoorRows
import GoSem.ClaimSeven
namespace Go.Proofs.YtblaiilfoiefiaaGreatDoor
namespace Rows

/-- THE TIED CARD OF 'sieveholeslaw13.IrSets'. -/
def irSetsCard : Claim7 := { stood := { row := irSetsRow, standIns := [], harness := (true, "30d92ad83b26868c2a5b4925411523422c26a0e6f055f7b738c391a6050aa75e"), looks := true }, kinds := [], alts := [], laidByText := true, laidKinds := [.data], laidTests := true, laidLooks := .later }
def IrSetsCardSaid : Prop := Claim7.holds Tryz.pinned (.plain (OpenSpec.ofChange irSetsSpec)) irSetsCard

/-- THE TIED CARD OF 'sieveholeslaw15.EnvPlays'. -/
def envPlaysCard : Claim7 := { stood := { row := envPlaysRow, standIns := [], harness := (true, "30d92ad83b26868c2a5b4925411523422c26a0e6f055f7b738c391a6050aa75e"), looks := true }, kinds := [], alts := [], laidByText := true, laidKinds := [.data, .data], laidTests := true, laidLooks := .later }
def EnvPlaysCardSaid : Prop := Claim7.holds Tryz.pinned (.plain (OpenSpec.ofChange envPlaysSpec)) envPlaysCard

/-- THE TIED CARD OF 'sieveholeslaw13.IrBlocks'. -/
def irBlocksCard : Claim7 := { stood := { row := irBlocksRow, standIns := [], harness := (true, "30d92ad83b26868c2a5b4925411523422c26a0e6f055f7b738c391a6050aa75e"), looks := true }, kinds := [], alts := [], laidByText := true, laidKinds := [.data], laidTests := true, laidLooks := .later }
def IrBlocksCardSaid : Prop := Claim7.holds Tryz.pinned (.plain (OpenSpec.ofChange irBlocksSpec)) irBlocksCard

/-- THE TIED CARD OF 'sieveholeslaw25.StorePlays'. -/
def storePlaysCard : Claim7 := { stood := { row := storePlaysRow, standIns := [], harness := (true, "30d92ad83b26868c2a5b4925411523422c26a0e6f055f7b738c391a6050aa75e"), looks := true }, kinds := [], alts := [], laidByText := true, laidKinds := [.data, .data, .data, .data], laidTests := true, laidLooks := .later }
def StorePlaysCardSaid : Prop := Claim7.holds Tryz.pinned (.plain (OpenSpec.ofChange storePlaysSpec)) storePlaysCard

/-- THE TIED CARD OF 'sieveholeslaw25.StoreNone'. -/
def storeNoneCard : Claim7 := { stood := { row := storeNoneRow, standIns := [], harness := (true, "30d92ad83b26868c2a5b4925411523422c26a0e6f055f7b738c391a6050aa75e"), looks := true }, kinds := [], alts := [], laidByText := true, laidKinds := [.data, .data, .data, .data], laidTests := true, laidLooks := .later }
def StoreNoneCardSaid : Prop := Claim7.holds Tryz.pinned (.plain (OpenSpec.ofChange storeNoneSpec)) storeNoneCard

/-- THE SECOND FORM's CARD OF 'sieveholeslaw13.IrSets'. -/
def irSetsUptoCard : Claim7 := { stood := { row := irSetsUptoRow, standIns := [], harness := (true, "30d92ad83b26868c2a5b4925411523422c26a0e6f055f7b738c391a6050aa75e"), looks := true }, kinds := [], alts := [], laidByText := true, laidKinds := [.data], laidTests := true, laidLooks := .later }
def IrSetsUptoCardSaid : Prop := Claim7.holds Tryz.pinned (.plain (OpenSpec.upto irSetsSpec)) irSetsUptoCard

/-- THE SECOND FORM's CARD OF 'sieveholeslaw15.EnvPlays'. -/
def envPlaysUptoCard : Claim7 := { stood := { row := envPlaysUptoRow, standIns := [], harness := (true, "30d92ad83b26868c2a5b4925411523422c26a0e6f055f7b738c391a6050aa75e"), looks := true }, kinds := [], alts := [], laidByText := true, laidKinds := [.data, .data], laidTests := true, laidLooks := .later }
def EnvPlaysUptoCardSaid : Prop := Claim7.holds Tryz.pinned (.plain (OpenSpec.upto envPlaysSpec)) envPlaysUptoCard

/-- THE SECOND FORM's CARD OF 'sieveholeslaw13.IrBlocks'. -/
def irBlocksUptoCard : Claim7 := { stood := { row := irBlocksUptoRow, standIns := [], harness := (true, "30d92ad83b26868c2a5b4925411523422c26a0e6f055f7b738c391a6050aa75e"), looks := true }, kinds := [], alts := [], laidByText := true, laidKinds := [.data], laidTests := true, laidLooks := .later }
def IrBlocksUptoCardSaid : Prop := Claim7.holds Tryz.pinned (.plain (OpenSpec.upto irBlocksSpec)) irBlocksUptoCard

/-- THE SECOND FORM's CARD OF 'sieveholeslaw25.StorePlays'. -/
def storePlaysUptoCard : Claim7 := { stood := { row := storePlaysUptoRow, standIns := [], harness := (true, "30d92ad83b26868c2a5b4925411523422c26a0e6f055f7b738c391a6050aa75e"), looks := true }, kinds := [], alts := [], laidByText := true, laidKinds := [.data, .data, .data, .data], laidTests := true, laidLooks := .later }
def StorePlaysUptoCardSaid : Prop := Claim7.holds Tryz.pinned (.plain (OpenSpec.upto storePlaysSpec)) storePlaysUptoCard

/-- THE SECOND FORM's CARD OF 'sieveholeslaw25.StoreNone'. -/
def storeNoneUptoCard : Claim7 := { stood := { row := storeNoneUptoRow, standIns := [], harness := (true, "30d92ad83b26868c2a5b4925411523422c26a0e6f055f7b738c391a6050aa75e"), looks := true }, kinds := [], alts := [], laidByText := true, laidKinds := [.data, .data, .data, .data], laidTests := true, laidLooks := .later }
def StoreNoneUptoCardSaid : Prop := Claim7.holds Tryz.pinned (.plain (OpenSpec.upto storeNoneSpec)) storeNoneUptoCard
end Rows
end Go.Proofs.YtblaiilfoiefiaaGreatDoor
