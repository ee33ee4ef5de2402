/- Contract of cond.Refine, over what it is handed. -/
import Derived.Test.YtljhbdgoknfkcaaGreatDoorG1
namespace Go.Proofs.YtljhbdgoknfkcaaGreatDoor
open Go Go.RowKit Go.Sort
set_option linter.unusedVariables false
set_option linter.unusedSimpArgs false
set_option maxRecDepth 100000

def otherL : List (Value × Value) := [(.int .i64 4, .int .i64 7), (.int .i64 5, .int .i64 6), (.int .i64 2, .int .i64 3), (.int .i64 3, .int .i64 2), (.int .i64 6, .int .i64 5), (.int .i64 7, .int .i64 4)]
end Go.Proofs.YtljhbdgoknfkcaaGreatDoor
