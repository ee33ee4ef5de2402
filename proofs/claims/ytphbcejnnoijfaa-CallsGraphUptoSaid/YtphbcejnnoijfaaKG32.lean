
import Derived.Test.YtphbcejnnoijfaaKG31
namespace Go.Proofs.Ytphbcejnnoijfaa
open Go Go.RowKit Go.Sort U
set_option linter.unusedVariables false
set_option linter.unusedSimpArgs false
theorem kg32 : True := trivial
end Go.Proofs.Ytphbcejnnoijfaa
