/- Contracts of the reference: least and greatest numbers, how many; sums, differences, products. -/
import Derived.Test.YtcemohoigdninaaDoorR1
namespace Go.Proofs.YtcemohoigdninaaDoor
open Go Go.RowKit Go.Sort
set_option linter.unusedVariables false
set_option linter.unusedSimpArgs false
set_option maxRecDepth 100000

end Go.Proofs.YtcemohoigdninaaDoor
