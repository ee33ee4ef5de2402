/-
  NARROWER THAN 'FOR EVERY INPUT', by the rows' own cells (each row's printed sentence says how): IrTraps: loops.
  DERIVED. THE GIVEN ROWS OF THIS SEAT. 6 by the template 'for every input the law returns true; each argument reads behind the call as it read before'; 0 by the template 'total and deterministic' (their statements: YtiefoahdikmilaaTotals.lean).
  GIVEN WITH THE SEED: the statements are not yours to turn. If you find one false, say at which input.
  Laid BY PROGRAM, IN A SANDBOX (cutbox-rows.mjs): the forced cells as the released guide's own fill.sh prints them over the translation 90a49d6d25da7355… (all of the seat's roots in one cut). By AI agents, Wed Nov 11 2026. No macro, syntax, notation, axiom, sorry.
-/
import Derived.Test.YtiefoahdikmilaaChecked
import GoSem.Claim
import GoSem.ClaimJoined
import GoSem.ClaimMapViews
import Derived.JoinedTies
import Derived.KernelRfl
namespace Go.Proofs.Ytiefoahdikmilaa
/- THE CELL 'sum', in the pinned program and in every row, IS THE sha256 OF THE DUMP (.gsa) THAT YtiefoahdikmilaaProg.lean LOADS. Nothing in Lean hashes anything: it is a label: what it is worth is what the hold of that sum in a sandbox is worth. -/
noncomputable def Try.pinned : Pinned := { name := "ytiefoahdikmilaa", sum := "90a49d6d25da7355dc96e7f4642a5098f9947cd853b4ed49f30c7269babcecac", checked := Try.checked }
namespace Rows
def none {H : Type} : Left H := { results := [], args := [] }

/-- 'sieveholeslaw13.IrTraps': WHATEVER THE INPUT: true; the input reads as it did. -/
def irTrapsSpec : ChangeSpec := { name := "irTraps", fn := fun _ => fun
  | [d] => { results := [.lit (.bool true)], args := [d] }
  | _ => none }
def irTrapsRow : OpenClaim := { program := "ytiefoahdikmilaa", sum := "90a49d6d25da7355dc96e7f4642a5098f9947cd853b4ed49f30c7269babcecac", func := "sieveholes/sieveholeslaw13.IrTraps", spec := "irTraps", unfollowed := true, recurses := true, loops := true, apart := false }
def IrTrapsSaid : Prop := irTrapsRow.holds Try.pinned (OpenSpec.ofChange irTrapsSpec)

/-- ITS FALSE NEIGHBOUR: 'it returns false'. Refute it at one input. -/
def irTrapsWrong : ChangeSpec := { name := "irTraps", fn := fun _ => fun
  | [d] => { results := [.lit (.bool false)], args := [d] }
  | _ => none }
def IrTrapsWrongFalsely : Prop := irTrapsRow.holds Try.pinned (OpenSpec.ofChange irTrapsWrong)

/-- 'sieveholeslaw20.CongMakes': WHATEVER THE INPUT: true; the input reads as it did. -/
def congMakesSpec : ChangeSpec := { name := "congMakes", fn := fun _ => fun
  | [d1, d2, d3, d4] => { results := [.lit (.bool true)], args := [d1, d2, d3, d4] }
  | _ => none }
def congMakesRow : OpenClaim := { program := "ytiefoahdikmilaa", sum := "90a49d6d25da7355dc96e7f4642a5098f9947cd853b4ed49f30c7269babcecac", func := "sieveholes/sieveholeslaw20.CongMakes", spec := "congMakes", named := ["math/bits.divideError", "math/bits.overflowError"], apart := false }
def CongMakesSaid : Prop := congMakesRow.holds Try.pinned (OpenSpec.ofChange congMakesSpec)

/-- ITS FALSE NEIGHBOUR: 'it returns false'. Refute it at one input. -/
def congMakesWrong : ChangeSpec := { name := "congMakes", fn := fun _ => fun
  | [d1, d2, d3, d4] => { results := [.lit (.bool false)], args := [d1, d2, d3, d4] }
  | _ => none }
def CongMakesWrongFalsely : Prop := congMakesRow.holds Try.pinned (OpenSpec.ofChange congMakesWrong)

/-- 'sieveholeslaw20.CongOperates': WHATEVER THE INPUT: true; the input reads as it did. -/
def congOperatesSpec : ChangeSpec := { name := "congOperates", fn := fun _ => fun
  | [d1, d2] => { results := [.lit (.bool true)], args := [d1, d2] }
  | _ => none }
def congOperatesRow : OpenClaim := { program := "ytiefoahdikmilaa", sum := "90a49d6d25da7355dc96e7f4642a5098f9947cd853b4ed49f30c7269babcecac", func := "sieveholes/sieveholeslaw20.CongOperates", spec := "congOperates", recurses := true, named := ["math/bits.divideError", "math/bits.overflowError"], apart := false }
def CongOperatesSaid : Prop := congOperatesRow.holds Try.pinned (OpenSpec.ofChange congOperatesSpec)

/-- ITS FALSE NEIGHBOUR: 'it returns false'. Refute it at one input. -/
def congOperatesWrong : ChangeSpec := { name := "congOperates", fn := fun _ => fun
  | [d1, d2] => { results := [.lit (.bool false)], args := [d1, d2] }
  | _ => none }
def CongOperatesWrongFalsely : Prop := congOperatesRow.holds Try.pinned (OpenSpec.ofChange congOperatesWrong)

/-- 'sieveholeslaw20.CongSound': WHATEVER THE INPUT: true; the input reads as it did. -/
def congSoundSpec : ChangeSpec := { name := "congSound", fn := fun _ => fun
  | [d1, d2, d3, d4] => { results := [.lit (.bool true)], args := [d1, d2, d3, d4] }
  | _ => none }
def congSoundRow : OpenClaim := { program := "ytiefoahdikmilaa", sum := "90a49d6d25da7355dc96e7f4642a5098f9947cd853b4ed49f30c7269babcecac", func := "sieveholes/sieveholeslaw20.CongSound", spec := "congSound", named := ["math/bits.divideError", "math/bits.overflowError"], apart := false }
def CongSoundSaid : Prop := congSoundRow.holds Try.pinned (OpenSpec.ofChange congSoundSpec)

/-- ITS FALSE NEIGHBOUR: 'it returns false'. Refute it at one input. -/
def congSoundWrong : ChangeSpec := { name := "congSound", fn := fun _ => fun
  | [d1, d2, d3, d4] => { results := [.lit (.bool false)], args := [d1, d2, d3, d4] }
  | _ => none }
def CongSoundWrongFalsely : Prop := congSoundRow.holds Try.pinned (OpenSpec.ofChange congSoundWrong)

/-- 'sieveholeslaw20.CongCounts': WHATEVER THE INPUT: true; the input reads as it did. -/
def congCountsSpec : ChangeSpec := { name := "congCounts", fn := fun _ => fun
  | [d1, d2, d3] => { results := [.lit (.bool true)], args := [d1, d2, d3] }
  | _ => none }
def congCountsRow : OpenClaim := { program := "ytiefoahdikmilaa", sum := "90a49d6d25da7355dc96e7f4642a5098f9947cd853b4ed49f30c7269babcecac", func := "sieveholes/sieveholeslaw20.CongCounts", spec := "congCounts", named := ["math/bits.divideError", "math/bits.overflowError"], apart := false }
def CongCountsSaid : Prop := congCountsRow.holds Try.pinned (OpenSpec.ofChange congCountsSpec)

/-- ITS FALSE NEIGHBOUR: 'it returns false'. Refute it at one input. -/
def congCountsWrong : ChangeSpec := { name := "congCounts", fn := fun _ => fun
  | [d1, d2, d3] => { results := [.lit (.bool false)], args := [d1, d2, d3] }
  | _ => none }
def CongCountsWrongFalsely : Prop := congCountsRow.holds Try.pinned (OpenSpec.ofChange congCountsWrong)

/-- 'sieveholeslaw20.CongKnown': WHATEVER THE INPUT: true; the input reads as it did. -/
def congKnownSpec : ChangeSpec := { name := "congKnown", fn := fun _ => fun
  | [] => { results := [.lit (.bool true)], args := [] }
  | _ => none }
def congKnownRow : OpenClaim := { program := "ytiefoahdikmilaa", sum := "90a49d6d25da7355dc96e7f4642a5098f9947cd853b4ed49f30c7269babcecac", func := "sieveholes/sieveholeslaw20.CongKnown", spec := "congKnown", recurses := true, named := ["math/bits.divideError", "math/bits.overflowError"], apart := false }
def CongKnownSaid : Prop := congKnownRow.holds Try.pinned (OpenSpec.ofChange congKnownSpec)

/-- ITS FALSE NEIGHBOUR: 'it returns false'. Refute it at one input. -/
def congKnownWrong : ChangeSpec := { name := "congKnown", fn := fun _ => fun
  | [] => { results := [.lit (.bool false)], args := [] }
  | _ => none }
def CongKnownWrongFalsely : Prop := congKnownRow.holds Try.pinned (OpenSpec.ofChange congKnownWrong)

/- THE SECOND FORM. 'bulk': how many values and letters a reading holds, each counted each time it is reached (what is shared counts as often as it is met; a slice's spare places count too). A statement '..UptoSaid' is the law's where the arguments, and the package variables that the reading takes, are together of bulk at most 1048576: NARROWER than '..Said'. Prove '..Said' where nothing that the law and all that it calls make is longer than what came in: it says more and counts as full. Else prove '..UptoSaid'. A law counts once. -/
mutual
def uptoBulk {H : Type} : DataW H → Nat
  | .lit (.string bytes) => bytes.length + 1
  | .lit _ => 1
  | .nil => 1
  | .ptr d => uptoBulk d + 1
  | .slice elems spare => uptoBulkAll elems + uptoBulkAll spare + 1
  | .agg parts => uptoBulkAll parts + 1
  | .iface _ d => uptoBulk d + 1
  | .map entries => uptoBulkEntries entries + 1
  | .held _ => 1
def uptoBulkAll {H : Type} : List (DataW H) → Nat
  | [] => 0
  | d :: r => uptoBulk d + uptoBulkAll r
def uptoBulkEntries {H : Type} : List (Lit × DataW H) → Nat
  | [] => 0
  | x :: r => uptoBulkEntry x + uptoBulkEntries r
def uptoBulkEntry {H : Type} : Lit × DataW H → Nat
  | (.string bytes, d) => bytes.length + uptoBulk d + 1
  | (_, d) => uptoBulk d + 1
 end
def uptoSmall : (H : Type) → List (DataW H) → Bool := fun _ ds => decide (uptoBulkAll ds ≤ 1048576)
def OpenSpec.upto (s : _root_.Go.ChangeSpec) : _root_.Go.OpenSpec := { _root_.Go.OpenSpec.ofChange s with cond := some uptoSmall }

/-- 'sieveholeslaw13.IrTraps', WHERE WHAT IT READS IS OF BULK AT MOST 1048576: true; the input reads as it did. -/
def irTrapsUptoRow : OpenClaim := { program := "ytiefoahdikmilaa", sum := "90a49d6d25da7355dc96e7f4642a5098f9947cd853b4ed49f30c7269babcecac", func := "sieveholes/sieveholeslaw13.IrTraps", spec := "irTraps", unfollowed := true, recurses := true, loops := true, apart := false, narrowed := true }
def IrTrapsUptoSaid : Prop := irTrapsUptoRow.holds Try.pinned (OpenSpec.upto irTrapsSpec)

/-- 'sieveholeslaw20.CongMakes', WHERE WHAT IT READS IS OF BULK AT MOST 1048576: true; the input reads as it did. -/
def congMakesUptoRow : OpenClaim := { program := "ytiefoahdikmilaa", sum := "90a49d6d25da7355dc96e7f4642a5098f9947cd853b4ed49f30c7269babcecac", func := "sieveholes/sieveholeslaw20.CongMakes", spec := "congMakes", named := ["math/bits.divideError", "math/bits.overflowError"], apart := false, narrowed := true }
def CongMakesUptoSaid : Prop := congMakesUptoRow.holds Try.pinned (OpenSpec.upto congMakesSpec)

/-- 'sieveholeslaw20.CongOperates', WHERE WHAT IT READS IS OF BULK AT MOST 1048576: true; the input reads as it did. -/
def congOperatesUptoRow : OpenClaim := { program := "ytiefoahdikmilaa", sum := "90a49d6d25da7355dc96e7f4642a5098f9947cd853b4ed49f30c7269babcecac", func := "sieveholes/sieveholeslaw20.CongOperates", spec := "congOperates", recurses := true, named := ["math/bits.divideError", "math/bits.overflowError"], apart := false, narrowed := true }
def CongOperatesUptoSaid : Prop := congOperatesUptoRow.holds Try.pinned (OpenSpec.upto congOperatesSpec)

/-- 'sieveholeslaw20.CongSound', WHERE WHAT IT READS IS OF BULK AT MOST 1048576: true; the input reads as it did. -/
def congSoundUptoRow : OpenClaim := { program := "ytiefoahdikmilaa", sum := "90a49d6d25da7355dc96e7f4642a5098f9947cd853b4ed49f30c7269babcecac", func := "sieveholes/sieveholeslaw20.CongSound", spec := "congSound", named := ["math/bits.divideError", "math/bits.overflowError"], apart := false, narrowed := true }
def CongSoundUptoSaid : Prop := congSoundUptoRow.holds Try.pinned (OpenSpec.upto congSoundSpec)

/-- 'sieveholeslaw20.CongCounts', WHERE WHAT IT READS IS OF BULK AT MOST 1048576: true; the input reads as it did. -/
def congCountsUptoRow : OpenClaim := { program := "ytiefoahdikmilaa", sum := "90a49d6d25da7355dc96e7f4642a5098f9947cd853b4ed49f30c7269babcecac", func := "sieveholes/sieveholeslaw20.CongCounts", spec := "congCounts", named := ["math/bits.divideError", "math/bits.overflowError"], apart := false, narrowed := true }
def CongCountsUptoSaid : Prop := congCountsUptoRow.holds Try.pinned (OpenSpec.upto congCountsSpec)

/-- 'sieveholeslaw20.CongKnown', WHERE WHAT IT READS IS OF BULK AT MOST 1048576: true; the input reads as it did. -/
def congKnownUptoRow : OpenClaim := { program := "ytiefoahdikmilaa", sum := "90a49d6d25da7355dc96e7f4642a5098f9947cd853b4ed49f30c7269babcecac", func := "sieveholes/sieveholeslaw20.CongKnown", spec := "congKnown", recurses := true, named := ["math/bits.divideError", "math/bits.overflowError"], apart := false, narrowed := true }
def CongKnownUptoSaid : Prop := congKnownUptoRow.holds Try.pinned (OpenSpec.upto congKnownSpec)

end Rows
end Go.Proofs.Ytiefoahdikmilaa
