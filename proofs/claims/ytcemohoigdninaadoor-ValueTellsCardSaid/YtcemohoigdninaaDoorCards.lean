/-
  DERIVED. GIVEN WITH THE SEED: THE CARDS: each row of YtcemohoigdninaaDoorRows.lean that lists a variable, with what it lists TIED to the program's text (the seventh form; the later family's looks); each row that meets fmt, with fmt's text TOLD by the authors' own Lean function (tested against real Go, not proved from fmt's source: count such statements apart). THE CARD IS WHAT COUNTS. Prove the row's statement (the work); the ties are given (YtcemohoigdninaaDoorTie.lean); close each card by the builder's one call (the guide's Derived/Test/ToyasCard.lean, 'card_holds'). Laid BY PROGRAM, IN A SANDBOX (cutbox-door.mjs). By AI agents, Wed Nov 11 2026. No macro, syntax, notation, axiom, sorry.
-/
import Derived.Test.YtcemohoigdninaaDoorRows
import GoSem.ClaimSeven
namespace Go.Proofs.YtcemohoigdninaaDoor
namespace Rows

/-- THE TIED CARD OF 'sieveholeslaw21.ValueTells'. -/
def valueTellsCard : Claim7 := { stood := { row := valueTellsRow, standIns := [], harness := (true, "e7e0be88bbb95799b0af279e322d2dc1a6af0442308c45deca9aac75c7e88b24"), looks := false }, kinds := [], alts := [], laidByText := true, laidKinds := [.data, .data, .data], laidTests := true, laidLooks := .later }
def ValueTellsCardSaid : Prop := Claim7.holds Tryd.pinned (.plain (OpenSpec.ofChange valueTellsSpec)) valueTellsCard

/-- THE TIED CARD OF 'sieveholeslaw21.ValueJoins'. -/
def valueJoinsCard : Claim7 := { stood := { row := valueJoinsRow, standIns := [], harness := (true, "e7e0be88bbb95799b0af279e322d2dc1a6af0442308c45deca9aac75c7e88b24"), looks := false }, kinds := [], alts := [], laidByText := true, laidKinds := [.data, .data, .data], laidTests := true, laidLooks := .later }
def ValueJoinsCardSaid : Prop := Claim7.holds Tryd.pinned (.plain (OpenSpec.ofChange valueJoinsSpec)) valueJoinsCard

/-- THE TIED CARD OF 'sieveholeslaw21.ValueLattice'. -/
def valueLatticeCard : Claim7 := { stood := { row := valueLatticeRow, standIns := [], harness := (true, "e7e0be88bbb95799b0af279e322d2dc1a6af0442308c45deca9aac75c7e88b24"), looks := false }, kinds := [], alts := [], laidByText := true, laidKinds := [.data, .data, .data], laidTests := true, laidLooks := .later }
def ValueLatticeCardSaid : Prop := Claim7.holds Tryd.pinned (.plain (OpenSpec.ofChange valueLatticeSpec)) valueLatticeCard

/-- THE TIED CARD OF 'sieveholeslaw24.CondKeeps'. -/
def condKeepsCard : Claim7 := { stood := { row := condKeepsRow, standIns := [], harness := (true, "e7e0be88bbb95799b0af279e322d2dc1a6af0442308c45deca9aac75c7e88b24"), looks := false }, kinds := [], alts := [], laidByText := true, laidKinds := [.data, .data, .data], laidTests := true, laidLooks := .later }
def CondKeepsCardSaid : Prop := Claim7.holds Tryd.pinned (.plain (OpenSpec.ofChange condKeepsSpec)) condKeepsCard

/-- THE TIED CARD OF 'sieveholeslaw22.ArithLaws'. -/
def arithLawsCard : Claim7 := { stood := { row := arithLawsRow, standIns := [], harness := (true, "e7e0be88bbb95799b0af279e322d2dc1a6af0442308c45deca9aac75c7e88b24"), looks := false }, kinds := [], alts := [], laidByText := true, laidKinds := [.data, .data, .data], laidTests := true, laidLooks := .later }
def ArithLawsCardSaid : Prop := Claim7.holds Tryd.pinned (.plain (OpenSpec.ofChange arithLawsSpec)) arithLawsCard

/-- THE TIED CARD OF 'sieveholeslaw24.CondExact'. -/
def condExactCard : Claim7 := { stood := { row := condExactRow, standIns := [], harness := (true, "e7e0be88bbb95799b0af279e322d2dc1a6af0442308c45deca9aac75c7e88b24"), looks := false }, kinds := [], alts := [], laidByText := true, laidKinds := [.data, .data, .data], laidTests := true, laidLooks := .later }
def CondExactCardSaid : Prop := Claim7.holds Tryd.pinned (.plain (OpenSpec.ofChange condExactSpec)) condExactCard

/-- THE TIED CARD OF 'sieveholeslaw24.CondSound'. -/
def condSoundCard : Claim7 := { stood := { row := condSoundRow, standIns := [], harness := (true, "e7e0be88bbb95799b0af279e322d2dc1a6af0442308c45deca9aac75c7e88b24"), looks := false }, kinds := [], alts := [], laidByText := true, laidKinds := [.data, .data, .data], laidTests := true, laidLooks := .later }
def CondSoundCardSaid : Prop := Claim7.holds Tryd.pinned (.plain (OpenSpec.ofChange condSoundSpec)) condSoundCard

/-- THE TIED CARD OF 'sieveholeslaw22.ArithSound'. -/
def arithSoundCard : Claim7 := { stood := { row := arithSoundRow, standIns := [], harness := (true, "e7e0be88bbb95799b0af279e322d2dc1a6af0442308c45deca9aac75c7e88b24"), looks := false }, kinds := [], alts := [], laidByText := true, laidKinds := [.data, .data, .data], laidTests := true, laidLooks := .later }
def ArithSoundCardSaid : Prop := Claim7.holds Tryd.pinned (.plain (OpenSpec.ofChange arithSoundSpec)) arithSoundCard

/-- THE SECOND FORM's CARD OF 'sieveholeslaw21.ValueTells'. -/
def valueTellsUptoCard : Claim7 := { stood := { row := valueTellsUptoRow, standIns := [], harness := (true, "e7e0be88bbb95799b0af279e322d2dc1a6af0442308c45deca9aac75c7e88b24"), looks := false }, kinds := [], alts := [], laidByText := true, laidKinds := [.data, .data, .data], laidTests := true, laidLooks := .later }
def ValueTellsUptoCardSaid : Prop := Claim7.holds Tryd.pinned (.plain (OpenSpec.upto valueTellsSpec)) valueTellsUptoCard

/-- THE SECOND FORM's CARD OF 'sieveholeslaw21.ValueJoins'. -/
def valueJoinsUptoCard : Claim7 := { stood := { row := valueJoinsUptoRow, standIns := [], harness := (true, "e7e0be88bbb95799b0af279e322d2dc1a6af0442308c45deca9aac75c7e88b24"), looks := false }, kinds := [], alts := [], laidByText := true, laidKinds := [.data, .data, .data], laidTests := true, laidLooks := .later }
def ValueJoinsUptoCardSaid : Prop := Claim7.holds Tryd.pinned (.plain (OpenSpec.upto valueJoinsSpec)) valueJoinsUptoCard

/-- THE SECOND FORM's CARD OF 'sieveholeslaw21.ValueLattice'. -/
def valueLatticeUptoCard : Claim7 := { stood := { row := valueLatticeUptoRow, standIns := [], harness := (true, "e7e0be88bbb95799b0af279e322d2dc1a6af0442308c45deca9aac75c7e88b24"), looks := false }, kinds := [], alts := [], laidByText := true, laidKinds := [.data, .data, .data], laidTests := true, laidLooks := .later }
def ValueLatticeUptoCardSaid : Prop := Claim7.holds Tryd.pinned (.plain (OpenSpec.upto valueLatticeSpec)) valueLatticeUptoCard

/-- THE SECOND FORM's CARD OF 'sieveholeslaw24.CondKeeps'. -/
def condKeepsUptoCard : Claim7 := { stood := { row := condKeepsUptoRow, standIns := [], harness := (true, "e7e0be88bbb95799b0af279e322d2dc1a6af0442308c45deca9aac75c7e88b24"), looks := false }, kinds := [], alts := [], laidByText := true, laidKinds := [.data, .data, .data], laidTests := true, laidLooks := .later }
def CondKeepsUptoCardSaid : Prop := Claim7.holds Tryd.pinned (.plain (OpenSpec.upto condKeepsSpec)) condKeepsUptoCard

/-- THE SECOND FORM's CARD OF 'sieveholeslaw22.ArithLaws'. -/
def arithLawsUptoCard : Claim7 := { stood := { row := arithLawsUptoRow, standIns := [], harness := (true, "e7e0be88bbb95799b0af279e322d2dc1a6af0442308c45deca9aac75c7e88b24"), looks := false }, kinds := [], alts := [], laidByText := true, laidKinds := [.data, .data, .data], laidTests := true, laidLooks := .later }
def ArithLawsUptoCardSaid : Prop := Claim7.holds Tryd.pinned (.plain (OpenSpec.upto arithLawsSpec)) arithLawsUptoCard

/-- THE SECOND FORM's CARD OF 'sieveholeslaw24.CondExact'. -/
def condExactUptoCard : Claim7 := { stood := { row := condExactUptoRow, standIns := [], harness := (true, "e7e0be88bbb95799b0af279e322d2dc1a6af0442308c45deca9aac75c7e88b24"), looks := false }, kinds := [], alts := [], laidByText := true, laidKinds := [.data, .data, .data], laidTests := true, laidLooks := .later }
def CondExactUptoCardSaid : Prop := Claim7.holds Tryd.pinned (.plain (OpenSpec.upto condExactSpec)) condExactUptoCard

/-- THE SECOND FORM's CARD OF 'sieveholeslaw24.CondSound'. -/
def condSoundUptoCard : Claim7 := { stood := { row := condSoundUptoRow, standIns := [], harness := (true, "e7e0be88bbb95799b0af279e322d2dc1a6af0442308c45deca9aac75c7e88b24"), looks := false }, kinds := [], alts := [], laidByText := true, laidKinds := [.data, .data, .data], laidTests := true, laidLooks := .later }
def CondSoundUptoCardSaid : Prop := Claim7.holds Tryd.pinned (.plain (OpenSpec.upto condSoundSpec)) condSoundUptoCard

/-- THE SECOND FORM's CARD OF 'sieveholeslaw22.ArithSound'. -/
def arithSoundUptoCard : Claim7 := { stood := { row := arithSoundUptoRow, standIns := [], harness := (true, "e7e0be88bbb95799b0af279e322d2dc1a6af0442308c45deca9aac75c7e88b24"), looks := false }, kinds := [], alts := [], laidByText := true, laidKinds := [.data, .data, .data], laidTests := true, laidLooks := .later }
def ArithSoundUptoCardSaid : Prop := Claim7.holds Tryd.pinned (.plain (OpenSpec.upto arithSoundSpec)) arithSoundUptoCard
end Rows
end Go.Proofs.YtcemohoigdninaaDoor
