import Derived.Test.YtblaiilfoiefiaaGreatDoorCards
import Derived.Test.YtblaiilfoiefiaaGreatDoorTie
import Derived.SevenTiedAt
import Derived.Handed
import Derived.Test.YtblaiilfoiefiaaGreatDoorXT01
namespace Go.Proofs.YtblaiilfoiefiaaGreatDoor
open Go Go.ChangeShapes Go.WideShapes Go.ChangeAt Go.RowKit Go.Joins
set_option linter.unusedVariables false
set_option linter.unusedSimpArgs false
set_option maxRecDepth 100000
set_option maxHeartbeats 1000000 in
theorem storeNone_facts : joinedFacts Tryz.pinned.checked.prog 7 Tryz.f7 Rows.storeNoneSpec Rows.storeNoneRow = true := by
  simp only [joinedFacts, Bool.and_eq_true]
  and_intros
  all_goals (as_aux_lemma => kernel_rfl)
end Go.Proofs.YtblaiilfoiefiaaGreatDoor
