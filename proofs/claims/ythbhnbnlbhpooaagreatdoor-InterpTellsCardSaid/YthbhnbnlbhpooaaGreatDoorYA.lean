/- The examples of layer 16's statements come to true. -/
import Derived.Test.YthbhnbnlbhpooaaGreatDoorUK
namespace Go.Proofs.YthbhnbnlbhpooaaGreatDoor
open Go Go.RowKit Go.Sort U
set_option linter.unusedVariables false
set_option linter.unusedSimpArgs false
set_option maxRecDepth 100000
set_option maxHeartbeats 4000000
theorem hmixU : Tryz.prog.follows .mixedOrders = true := by kernel_rfl
def kwB : List (List UInt8) := [[97, 114, 114, 97, 121], [99, 97, 108, 108], [101, 108, 115, 101], [105, 102], [105, 110], [109, 97, 105, 110], [111, 117, 116, 112, 117, 116], [112, 114, 111, 99], [112, 117, 98, 108, 105, 99], [115, 101, 99, 114, 101, 116], [115, 107, 105, 112], [118, 97, 114], [119, 104, 105, 108, 101]]
def kwT : List (Nat × List Value) := [(2, kwB.map fun b => .string ⟨b.toArray⟩)]
theorem kw_ok : gOk kwT = true := by kernel_rfl
theorem works16_d : DenU Tryz.prog kwT 5 [] (.bool true) := denU_closedT hmixU kw_ok 100000 60 60 fun Ts => by kernel_rfl
end Go.Proofs.YthbhnbnlbhpooaaGreatDoor
