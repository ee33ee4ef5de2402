import Derived.Test.YtnfppdblcmollaaGreatDoorCards
import Derived.Test.YtnfppdblcmollaaGreatDoorTie
import Derived.SevenTiedAt
import Derived.Handed
import Derived.Test.YtnfppdblcmollaaGreatDoorTS01
namespace Go.Proofs.YtnfppdblcmollaaGreatDoor
open Go Go.ChangeShapes Go.WideShapes Go.ChangeAt Go.RowKit Go.Joins
set_option linter.unusedVariables false
set_option linter.unusedSimpArgs false
set_option maxRecDepth 100000
set_option maxHeartbeats 40000000
set_option maxHeartbeats 1000000 in
theorem taintMarks_facts:joinedFacts Tryz.pinned.checked.prog 5 Tryz.f5 Rows.taintMarksSpec Rows.taintMarksRow=true:=by
 simp only[joinedFacts,Bool.and_eq_true];and_intros
 all_goals (as_aux_lemma=>kernel_rfl)
end Go.Proofs.YtnfppdblcmollaaGreatDoor
