/-
  NARROWER THAN 'FOR EVERY INPUT', by the rows' own cells (each row's printed sentence says how): TypingMeans: loops, laid.
  DERIVED. THE GIVEN ROWS OF THIS SEAT. 1 by the template 'for every input the law returns true; each argument reads behind the call as it read before'; 0 by the template 'total and deterministic' (their statements: YtcihknonfcldeaaDoorTotals.lean).
  GIVEN WITH THE SEED: the statements are not yours to turn. If you find one false, say at which input.
  Laid BY PROGRAM, IN A SANDBOX (cutbox-rows.mjs): the forced cells as the released guide's own fill.sh prints them over the translation 0a8eaf372058f3ff… (all of the seat's roots in one cut). By AI agents, Wed Nov 11 2026. No macro, syntax, notation, axiom, sorry.
-/
import Derived.Test.YtcihknonfcldeaaDoorChecked
import GoSem.Claim
import GoSem.ClaimJoined
import GoSem.ClaimMapViews
import Derived.JoinedTies
import Derived.KernelRfl
namespace Go.Proofs.YtcihknonfcldeaaDoor
/- THE CELL 'sum', in the pinned program and in every row, IS THE sha256 OF THE DUMP (.gsa) THAT YtcihknonfcldeaaDoorProg.lean LOADS. Nothing in Lean hashes anything: it is a label: what it is worth is what the hold of that sum in a sandbox is worth. -/
noncomputable def Tryd.pinned : Pinned := { name := "ytcihknonfcldeaadoor", sum := "0a8eaf372058f3ffa83f14e3899d4382271445ff2c74cf37c918a4e91417c16b", checked := Tryd.checked }
namespace Rows
def none {H : Type} : Left H := { results := [], args := [] }

/- WHAT THE LISTED PACKAGE-LEVEL VARIABLES READ AS WHEN THE CALL BEGINS. Each datum BY PROGRAM (the guide's laid-datum.mjs) off the statement by which the dump's own 'gosem.cut.vars' lays the variable. In a bare row this is a premise. The card (YtcihknonfcldeaaDoorCards.lean) ties it to the program's text. -/
def laid_sieveholes_ast_keywords {H : Type} : DataW H := .agg [.lit (.string [97, 114, 114, 97, 121]), .lit (.string [99, 97, 108, 108]), .lit (.string [101, 108, 115, 101]), .lit (.string [105, 102]), .lit (.string [105, 110]), .lit (.string [109, 97, 105, 110]), .lit (.string [111, 117, 116, 112, 117, 116]), .lit (.string [112, 114, 111, 99]), .lit (.string [112, 117, 98, 108, 105, 99]), .lit (.string [115, 101, 99, 114, 101, 116]), .lit (.string [115, 107, 105, 112]), .lit (.string [118, 97, 114]), .lit (.string [119, 104, 105, 108, 101])]

/-- 'sieveholeslaw12.TypingMeans': WHATEVER THE INPUT: true; the input reads as it did. -/
def typingMeansSpec : ChangeSpec := { name := "typingMeans", fn := fun _ => fun
  | [d] => { results := [.lit (.bool true)], args := [d] }
  | _ => none }
def typingMeansRow : OpenClaim := { program := "ytcihknonfcldeaadoor", sum := "0a8eaf372058f3ffa83f14e3899d4382271445ff2c74cf37c918a4e91417c16b", func := "sieveholes/sieveholeslaw12.TypingMeans", spec := "typingMeans", unfollowed := true, recurses := true, named := ["sieveholes/ast.keywords"], loops := true, plainKeys := false, apart := false, laid := [("sieveholes/ast.keywords", laid_sieveholes_ast_keywords)] }
def TypingMeansSaid : Prop := typingMeansRow.holds Tryd.pinned (OpenSpec.ofChange typingMeansSpec)

/-- ITS FALSE NEIGHBOUR: 'it returns false'. Refute it at one input. -/
def typingMeansWrong : ChangeSpec := { name := "typingMeans", fn := fun _ => fun
  | [d] => { results := [.lit (.bool false)], args := [d] }
  | _ => none }
def TypingMeansWrongFalsely : Prop := typingMeansRow.holds Tryd.pinned (OpenSpec.ofChange typingMeansWrong)

/- THE SECOND FORM. 'bulk': how many values and letters a reading holds, each counted each time it is reached (what is shared counts as often as it is met; a slice's spare places count too). A statement '..UptoSaid' is the law's where the arguments, and the package variables that the reading takes, are together of bulk at most 1048576: NARROWER than '..Said'. Prove '..Said' where nothing that the law and all that it calls make is longer than what came in: it says more and counts as full. Else prove '..UptoSaid'. A law counts once. -/
mutual
def uptoBulk {H : Type} : DataW H → Nat
  | .lit (.string bytes) => bytes.length + 1
  | .lit _ => 1
  | .nil => 1
  | .ptr d => uptoBulk d + 1
  | .slice elems spare => uptoBulkAll elems + uptoBulkAll spare + 1
  | .agg parts => uptoBulkAll parts + 1
  | .iface _ d => uptoBulk d + 1
  | .map entries => uptoBulkEntries entries + 1
  | .held _ => 1
def uptoBulkAll {H : Type} : List (DataW H) → Nat
  | [] => 0
  | d :: r => uptoBulk d + uptoBulkAll r
def uptoBulkEntries {H : Type} : List (Lit × DataW H) → Nat
  | [] => 0
  | x :: r => uptoBulkEntry x + uptoBulkEntries r
def uptoBulkEntry {H : Type} : Lit × DataW H → Nat
  | (.string bytes, d) => bytes.length + uptoBulk d + 1
  | (_, d) => uptoBulk d + 1
 end
def uptoSmall : (H : Type) → List (DataW H) → Bool := fun _ ds => decide (uptoBulkAll ds ≤ 1048576)
def OpenSpec.upto (s : _root_.Go.ChangeSpec) : _root_.Go.OpenSpec := { _root_.Go.OpenSpec.ofChange s with cond := some uptoSmall }

/-- 'sieveholeslaw12.TypingMeans', WHERE WHAT IT READS IS OF BULK AT MOST 1048576: true; the input reads as it did. -/
def typingMeansUptoRow : OpenClaim := { program := "ytcihknonfcldeaadoor", sum := "0a8eaf372058f3ffa83f14e3899d4382271445ff2c74cf37c918a4e91417c16b", func := "sieveholes/sieveholeslaw12.TypingMeans", spec := "typingMeans", unfollowed := true, recurses := true, named := ["sieveholes/ast.keywords"], loops := true, plainKeys := false, apart := false, laid := [("sieveholes/ast.keywords", laid_sieveholes_ast_keywords)], narrowed := true }
def TypingMeansUptoSaid : Prop := typingMeansUptoRow.holds Tryd.pinned (OpenSpec.upto typingMeansSpec)

end Rows
end Go.Proofs.YtcihknonfcldeaaDoor
