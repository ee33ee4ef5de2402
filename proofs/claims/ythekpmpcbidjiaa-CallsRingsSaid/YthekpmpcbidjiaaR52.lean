
import Derived.Test.YthekpmpcbidjiaaR46
/- Layer 11: a graph, copied as the reference has it. -/
namespace Go.Proofs.Ythekpmpcbidjiaa
open Go Go.RowKit Go.Sort U
set_option linter.unusedVariables false
set_option linter.unusedSimpArgs false
set_option maxRecDepth 100000
set_option maxHeartbeats 4000000
end Go.Proofs.Ythekpmpcbidjiaa
