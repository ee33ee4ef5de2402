
import Derived.Test.YthekpmpcbidjiaaS32
import Derived.Test.YthekpmpcbidjiaaS41
namespace Go.Proofs.Ythekpmpcbidjiaa
open Go Go.RowKit Go.Sort U
set_option linter.unusedVariables false
set_option linter.unusedSimpArgs false
set_option maxRecDepth 100000
set_option maxHeartbeats 4000000
end Go.Proofs.Ythekpmpcbidjiaa
namespace Go.Proofs.Ythekpmpcbidjiaa
open Go Go.RowKit Go.Sort U
set_option linter.unusedVariables false
set_option linter.unusedSimpArgs false
set_option maxRecDepth 100000
set_option maxHeartbeats 4000000
end Go.Proofs.Ythekpmpcbidjiaa
namespace Go.Proofs.Ythekpmpcbidjiaa
open Go Go.RowKit Go.Sort U
set_option linter.unusedVariables false
set_option linter.unusedSimpArgs false
set_option maxRecDepth 100000
set_option maxHeartbeats 4000000
theorem frz_nil {P : Program} {s : AS} {l : List Int} (h : l = []) : FrzV P s (retC [.slice none 0 0]) (imS (iL l)) := by
  subst h
  exact .nil
end Go.Proofs.Ythekpmpcbidjiaa
