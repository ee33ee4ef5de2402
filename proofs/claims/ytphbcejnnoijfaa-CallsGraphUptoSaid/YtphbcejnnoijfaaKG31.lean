
import Derived.Test.YtphbcejnnoijfaaKG30
namespace Go.Proofs.Ytphbcejnnoijfaa
open Go Go.RowKit Go.Sort U
set_option linter.unusedVariables false
set_option linter.unusedSimpArgs false
set_option maxRecDepth 100000
set_option maxHeartbeats 4000000
end Go.Proofs.Ytphbcejnnoijfaa
