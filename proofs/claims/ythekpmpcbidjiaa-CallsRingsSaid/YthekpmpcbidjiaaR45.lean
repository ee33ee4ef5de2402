
import Derived.Test.YthekpmpcbidjiaaR44
/- Layer 11: calls.Nested: its contract. -/
namespace Go.Proofs.Ythekpmpcbidjiaa
open Go Go.RowKit Go.Sort U
set_option linter.unusedVariables false
set_option linter.unusedSimpArgs false
set_option maxRecDepth 100000
set_option maxHeartbeats 4000000
end Go.Proofs.Ythekpmpcbidjiaa
