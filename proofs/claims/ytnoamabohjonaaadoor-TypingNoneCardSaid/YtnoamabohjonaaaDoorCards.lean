/-
  DERIVED. GIVEN WITH THE SEED: THE CARDS: each row of YtnoamabohjonaaaDoorRows.lean that lists a variable, with what it lists TIED to the program's text (the seventh form; the later family's looks); each row that meets fmt, with fmt's text TOLD by the authors' own Lean function (tested against real Go, not proved from fmt's source: count such statements apart). THE CARD IS WHAT COUNTS. Prove the row's statement (the work); the ties are given (YtnoamabohjonaaaDoorTie.lean); close each card by the builder's one call (the guide's Derived/Test/ToyasCard.lean, 'card_holds'). Laid BY PROGRAM, IN A SANDBOX (cutbox-door.mjs). By AI agents, Wed Nov 11 2026. No macro, syntax, notation, axiom, sorry.
-/
import Derived.Test.YtnoamabohjonaaaDoorRows
import GoSem.ClaimSeven
namespace Go.Proofs.YtnoamabohjonaaaDoor
namespace Rows

/-- THE TIED CARD OF 'sieveholeslaw12.TypingNone'. -/
def typingNoneCard : Claim7 := { stood := { row := typingNoneRow, standIns := [], harness := (true, "9475995fd9a7d20d123153c1cf599f243edd8dfeb708da06cbb1c457d2a1ada9"), looks := false }, kinds := [], alts := [], laidByText := true, laidKinds := [.data], laidTests := true, laidLooks := .later }
def TypingNoneCardSaid : Prop := Claim7.holds Tryd.pinned (.plain (OpenSpec.ofChange typingNoneSpec)) typingNoneCard

/-- THE SECOND FORM's CARD OF 'sieveholeslaw12.TypingNone'. -/
def typingNoneUptoCard : Claim7 := { stood := { row := typingNoneUptoRow, standIns := [], harness := (true, "9475995fd9a7d20d123153c1cf599f243edd8dfeb708da06cbb1c457d2a1ada9"), looks := false }, kinds := [], alts := [], laidByText := true, laidKinds := [.data], laidTests := true, laidLooks := .later }
def TypingNoneUptoCardSaid : Prop := Claim7.holds Tryd.pinned (.plain (OpenSpec.upto typingNoneSpec)) typingNoneUptoCard
end Rows
end Go.Proofs.YtnoamabohjonaaaDoor
