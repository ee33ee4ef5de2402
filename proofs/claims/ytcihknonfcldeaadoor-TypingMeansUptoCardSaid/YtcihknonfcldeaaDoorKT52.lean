import Derived.Test.YtcihknonfcldeaaDoorCards
import Derived.Test.YtcihknonfcldeaaDoorTie
import Derived.JoinedCond
import Derived.Deep.DeepHandedRow
import Derived.SevenTiedAt
import Derived.Test.YtcihknonfcldeaaDoorKT01
import Derived.Test.YtcihknonfcldeaaDoorKT02
import Derived.Test.YtcihknonfcldeaaDoorKT51
namespace Go.Proofs.YtcihknonfcldeaaDoor
open Go Go.ChangeShapes Go.WideShapes Go.ChangeAt Go.RowKit Go.Joins U
set_option linter.unusedVariables false
set_option linter.unusedSimpArgs false
set_option maxRecDepth 100000
set_option maxHeartbeats 40000000
set_option maxHeartbeats 1000000 in
theorem typingMeansUpto_holds:Rows.TypingMeansUptoSaid :=
 OpenClaim.holds_of_cond 3 Tryd.f3 rfl rfl rfl rfl rfl rfl rfl ⟨rfl,rfl,rfl,rfl,rfl⟩ rfl rfl rfl rfl rfl (by kernel_rfl) Tryd.func3 typingMeans_facts
  (of_decide_eq_true (by kernel_rfl)) (by unfold Func.isWrapper;rw[if_neg (of_decide_eq_false (by kernel_rfl))];exact ⟨rfl,rfl⟩)
  (fun os started H enc _ F=>by rw[OpenClaim.pre_eq_preRow];exact typingMeans_lifted os started H enc F)
end Go.Proofs.YtcihknonfcldeaaDoor
