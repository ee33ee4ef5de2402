import Derived.Test.YtocppbocphnbcaaGreatDoorCards
import Derived.Test.YtocppbocphnbcaaGreatDoorTie
import Derived.SevenTiedAt
import Derived.Handed
import Derived.Test.YtocppbocphnbcaaGreatDoorXS01
namespace Go.Proofs.YtocppbocphnbcaaGreatDoor
open Go Go.ChangeShapes Go.WideShapes Go.ChangeAt Go.RowKit Go.Joins
set_option linter.unusedVariables false
set_option linter.unusedSimpArgs false
set_option maxRecDepth 100000
set_option maxHeartbeats 40000000
set_option maxHeartbeats 1000000 in
theorem irSets_facts:joinedFacts Tryz.pinned.checked.prog 3 Tryz.f3 Rows.irSetsSpec Rows.irSetsRow=true:=by
 simp only[joinedFacts,Bool.and_eq_true];and_intros
 all_goals (as_aux_lemma=>kernel_rfl)
end Go.Proofs.YtocppbocphnbcaaGreatDoor
