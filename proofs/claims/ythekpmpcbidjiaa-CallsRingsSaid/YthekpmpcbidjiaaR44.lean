
import Derived.Test.YthekpmpcbidjiaaR35
import Derived.Test.YthekpmpcbidjiaaR42
/- Layer 11: calls.Nested: the memory, the rule. -/
namespace Go.Proofs.Ythekpmpcbidjiaa
open Go Go.RowKit Go.Sort U
set_option linter.unusedVariables false
set_option linter.unusedSimpArgs false
set_option maxRecDepth 100000
set_option maxHeartbeats 4000000
end Go.Proofs.Ythekpmpcbidjiaa
/- Layer 11: calls.Nested: a node that is not known yet. -/
namespace Go.Proofs.Ythekpmpcbidjiaa
open Go Go.RowKit Go.Sort U
set_option linter.unusedVariables false
set_option linter.unusedSimpArgs false
set_option maxRecDepth 100000
set_option maxHeartbeats 4000000
end Go.Proofs.Ythekpmpcbidjiaa
