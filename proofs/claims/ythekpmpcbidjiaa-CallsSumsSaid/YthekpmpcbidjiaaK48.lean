
import Derived.Test.YthekpmpcbidjiaaK24
import Derived.Test.YthekpmpcbidjiaaK38
import Derived.Test.YthekpmpcbidjiaaK47
/- Layer 11: the chapter's examples: closed runs, numbers inlined, depths. -/
namespace Go.Proofs.Ythekpmpcbidjiaa
open Go Go.RowKit Go.Sort U
set_option linter.unusedVariables false
set_option linter.unusedSimpArgs false
set_option maxRecDepth 100000
set_option maxHeartbeats 4000000
theorem inlinedW : DenN Try.prog 12 [encG gW, imS (uL [10, 3, 1])] (imS (uL [16, 3, 20])) := denN_closed hmixU (chk := chkRow (uL [16, 3, 20])) (fun _ _ h => chkRow_frz h) 100000 60 60 fun Ts => by kernel_rfl
theorem deepW : DenN Try.prog 29 [encG gW] (imS (iL [2, 1, 3])) := denN_closed hmixU (chk := chkRow (iL [2, 1, 3])) (fun _ _ h => chkRow_frz h) 100000 60 60 fun Ts => by kernel_rfl
end Go.Proofs.Ythekpmpcbidjiaa
/- Layer 11: the chapter's examples: closed runs, a ring. -/
namespace Go.Proofs.Ythekpmpcbidjiaa
open Go Go.RowKit Go.Sort U
set_option linter.unusedVariables false
set_option linter.unusedSimpArgs false
set_option maxRecDepth 100000
set_option maxHeartbeats 4000000
theorem calleesH : DenU Try.prog [] 34 [encG hW] (imS (gL [[1], [0], [0, 1]])) := callees_d hW ⟨by decide, by simp [hW, maxI], by simp [hW, maxI]⟩ (by decide) (by decide) (by decide)
theorem ringHW : DenN Try.prog 11 [encG hW] (imS (iL [0, 1])) := denN_closedC hmixU [⟨false, 34, [encG hW], imS (gL [[1], [0], [0, 1]])⟩] (by intro c hc; simp at hc; subst hc; exact calleesH) (chk := chkRow (iL [0, 1])) (fun _ _ h => chkRow_frz h) 100000 60 60 fun Ts => by kernel_rfl
end Go.Proofs.Ythekpmpcbidjiaa
/- Layer 11: the chapter's examples: closed runs, no ring. -/
namespace Go.Proofs.Ythekpmpcbidjiaa
open Go Go.RowKit Go.Sort U
set_option linter.unusedVariables false
set_option linter.unusedSimpArgs false
set_option maxRecDepth 100000
set_option maxHeartbeats 4000000
theorem ringGW : DenN Try.prog 11 [encG gW] (imS (iL [])) := denN_closed hmixU (chk := chkRow (iL [])) (fun _ _ h => chkRow_frz h) 100000 60 60 fun Ts => by kernel_rfl
end Go.Proofs.Ythekpmpcbidjiaa
