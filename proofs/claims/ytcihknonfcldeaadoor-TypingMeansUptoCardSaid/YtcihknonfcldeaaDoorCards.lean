/-
  DERIVED. GIVEN WITH THE SEED: THE CARDS: each row of YtcihknonfcldeaaDoorRows.lean that lists a variable, with what it lists TIED to the program's text (the seventh form; the later family's looks); each row that meets fmt, with fmt's text TOLD by the authors' own Lean function (tested against real Go, not proved from fmt's source: count such statements apart). THE CARD IS WHAT COUNTS. Prove the row's statement (the work); the ties are given (YtcihknonfcldeaaDoorTie.lean); close each card by the builder's one call (the guide's Derived/Test/ToyasCard.lean, 'card_holds'). Laid BY PROGRAM, IN A SANDBOX (cutbox-door.mjs). By AI agents, Wed Nov 11 2026. No macro, syntax, notation, axiom, sorry.
-/
import Derived.Test.YtcihknonfcldeaaDoorRows
import GoSem.ClaimSeven
namespace Go.Proofs.YtcihknonfcldeaaDoor
namespace Rows

/-- THE TIED CARD OF 'sieveholeslaw12.TypingMeans'. -/
def typingMeansCard : Claim7 := { stood := { row := typingMeansRow, standIns := [], harness := (true, "e695c2e7791a65add9e6ef6014cfab169d3e69a2779a84dd28f4698076140918"), looks := false }, kinds := [], alts := [], laidByText := true, laidKinds := [.data], laidTests := true, laidLooks := .later }
def TypingMeansCardSaid : Prop := Claim7.holds Tryd.pinned (.plain (OpenSpec.ofChange typingMeansSpec)) typingMeansCard

/-- THE SECOND FORM's CARD OF 'sieveholeslaw12.TypingMeans'. -/
def typingMeansUptoCard : Claim7 := { stood := { row := typingMeansUptoRow, standIns := [], harness := (true, "e695c2e7791a65add9e6ef6014cfab169d3e69a2779a84dd28f4698076140918"), looks := false }, kinds := [], alts := [], laidByText := true, laidKinds := [.data], laidTests := true, laidLooks := .later }
def TypingMeansUptoCardSaid : Prop := Claim7.holds Tryd.pinned (.plain (OpenSpec.upto typingMeansSpec)) typingMeansUptoCard
end Rows
end Go.Proofs.YtcihknonfcldeaaDoor
