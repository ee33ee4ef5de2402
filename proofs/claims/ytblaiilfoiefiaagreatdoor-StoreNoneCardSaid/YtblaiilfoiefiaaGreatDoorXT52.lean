import Derived.Test.YtblaiilfoiefiaaGreatDoorCards
import Derived.Test.YtblaiilfoiefiaaGreatDoorTie
import Derived.SevenTiedAt
import Derived.Handed
import Derived.Test.YtblaiilfoiefiaaGreatDoorXT01
import Derived.Test.YtblaiilfoiefiaaGreatDoorXT02
import Derived.Test.YtblaiilfoiefiaaGreatDoorXT51
namespace Go.Proofs.YtblaiilfoiefiaaGreatDoor
open Go Go.ChangeShapes Go.WideShapes Go.ChangeAt Go.RowKit Go.Joins U
set_option linter.unusedVariables false
set_option linter.unusedSimpArgs false
set_option maxRecDepth 100000
set_option maxHeartbeats 1000000 in
theorem storeNone_holds : Rows.StoreNoneSaid :=
  OpenClaim.holds_of_wide 7 Tryz.f7 rfl rfl rfl rfl rfl rfl rfl ⟨rfl, rfl, rfl, rfl, rfl⟩ rfl rfl rfl rfl rfl (by kernel_rfl) Tryz.func7 storeNone_facts
    (of_decide_eq_true (by kernel_rfl)) (by unfold Func.isWrapper; rw [if_neg (of_decide_eq_false (by kernel_rfl))]; exact ⟨rfl, rfl⟩)
    (fun os started H enc _ => storeNone_lifted os started H enc)
end Go.Proofs.YtblaiilfoiefiaaGreatDoor
