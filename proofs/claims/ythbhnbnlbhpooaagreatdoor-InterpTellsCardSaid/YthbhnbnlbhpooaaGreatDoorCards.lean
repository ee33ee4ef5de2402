/-
  DERIVED. GIVEN WITH THE SEED: THE CARDS: each row of YthbhnbnlbhpooaaGreatDoorRows.lean that lists a variable, with what it lists TIED to the program's text (the seventh form; the later family's looks); each row that meets fmt, with fmt's text TOLD by the authors' own Lean function (tested against real Go, not proved from fmt's source: count such statements apart). THE CARD IS WHAT COUNTS. Prove the row's statement (the work); the ties are given (YthbhnbnlbhpooaaGreatDoorTie.lean); close each card by the builder's one call (the guide's Derived/Test/ToyasCard.lean, 'card_holds'). Laid BY PROGRAM, IN A SANDBOX (cutbox-door.mjs). By AI agents, Wed Nov 11 2026. No macro, syntax, notation, axiom, sorry.
-/
import Derived.Test.YthbhnbnlbhpooaaGreatDoorRows
import GoSem.ClaimSeven
namespace Go.Proofs.YthbhnbnlbhpooaaGreatDoor
namespace Rows

/-- THE TIED CARD OF 'sieveholeslaw16.InterpTells'. -/
def interpTellsCard : Claim7 := { stood := { row := interpTellsRow, standIns := [], harness := (true, "c485867d9d2154bebcd3a5747c72151e6b41c3d40131280c1553e13babdf2982"), looks := true }, kinds := [], alts := [], laidByText := true, laidKinds := [.data], laidTests := true, laidLooks := .later }
def InterpTellsCardSaid : Prop := Claim7.holds Tryz.pinned (.plain (OpenSpec.ofChange interpTellsSpec)) interpTellsCard

/-- THE TIED CARD OF 'sieveholeslaw18.ObsTells'. -/
def obsTellsCard : Claim7 := { stood := { row := obsTellsRow, standIns := [], harness := (true, "c485867d9d2154bebcd3a5747c72151e6b41c3d40131280c1553e13babdf2982"), looks := true }, kinds := [], alts := [], laidByText := true, laidKinds := [.data], laidTests := true, laidLooks := .later }
def ObsTellsCardSaid : Prop := Claim7.holds Tryz.pinned (.plain (OpenSpec.ofChange obsTellsSpec)) obsTellsCard

/-- THE SECOND FORM's CARD OF 'sieveholeslaw16.InterpTells'. -/
def interpTellsUptoCard : Claim7 := { stood := { row := interpTellsUptoRow, standIns := [], harness := (true, "c485867d9d2154bebcd3a5747c72151e6b41c3d40131280c1553e13babdf2982"), looks := true }, kinds := [], alts := [], laidByText := true, laidKinds := [.data], laidTests := true, laidLooks := .later }
def InterpTellsUptoCardSaid : Prop := Claim7.holds Tryz.pinned (.plain (OpenSpec.upto interpTellsSpec)) interpTellsUptoCard

/-- THE SECOND FORM's CARD OF 'sieveholeslaw18.ObsTells'. -/
def obsTellsUptoCard : Claim7 := { stood := { row := obsTellsUptoRow, standIns := [], harness := (true, "c485867d9d2154bebcd3a5747c72151e6b41c3d40131280c1553e13babdf2982"), looks := true }, kinds := [], alts := [], laidByText := true, laidKinds := [.data], laidTests := true, laidLooks := .later }
def ObsTellsUptoCardSaid : Prop := Claim7.holds Tryz.pinned (.plain (OpenSpec.upto obsTellsSpec)) obsTellsUptoCard
end Rows
end Go.Proofs.YthbhnbnlbhpooaaGreatDoor
