import Derived.Test.YtcihknonfcldeaaDoorCards
import Derived.Test.YtcihknonfcldeaaDoorTie
import Derived.JoinedCond
import Derived.Test.YtcihknonfcldeaaDoorKT01
namespace Go.Proofs.YtcihknonfcldeaaDoor
open Go Go.ChangeShapes Go.WideShapes Go.ChangeAt Go.RowKit Go.Joins
set_option linter.unusedVariables false
set_option linter.unusedSimpArgs false
set_option maxRecDepth 100000
set_option maxHeartbeats 40000000
set_option maxHeartbeats 1000000 in
theorem typingMeans_facts:joinedFacts Tryd.pinned.checked.prog 3 Tryd.f3 (Rows.OpenSpec.upto Rows.typingMeansSpec).bare Rows.typingMeansUptoRow=true:=by
 simp only[joinedFacts,Bool.and_eq_true];and_intros
 all_goals (as_aux_lemma=>kernel_rfl)
end Go.Proofs.YtcihknonfcldeaaDoor
