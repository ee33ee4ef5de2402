
import Derived.Test.YthekpmpcbidjiaaR21
/- The abstract machine with unknowns: iterators: a state of which much is not looked at; rounds one behind the other. No condition. -/
namespace Go.Proofs.Ythekpmpcbidjiaa.U
open Go Go.RowKit Go.Sort
set_option linter.unusedVariables false
set_option linter.unusedSimpArgs false
/-- A state told anew, the frame aside. -/
structure CovS (P : Program) (n0 : Nat) (s s1 : AS) : Prop where
  lo : s1.lo = s.lo
  glb : s1.glb = s.glb
  next : n0 ≤ s1.next
  keep : ∀ (k : Nat), k < s.lo → s1.heap.get k = s.heap.get k
  rel : ∀ (W0 : World) (β : Bt) (W : World), Rel P W0 β s W → FreeA β s.next → ∃ β1 : Bt, (∀ k, k < n0 → β1 k = β k) ∧ FreeA β1 s1.next ∧ FrzLe W0.heap.size β β1 ∧ Rel P W0 β1 s1 W
/-- A state in which nothing is laid behind the number 65536. -/
structure St3 where
  a : Tr Blk
  g : Tr Blk
  z : Tr Blk
end Go.Proofs.Ythekpmpcbidjiaa.U
