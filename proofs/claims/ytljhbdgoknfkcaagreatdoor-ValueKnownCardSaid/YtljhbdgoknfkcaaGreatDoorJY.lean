/- ValueTells as a call. -/
import Derived.Test.YtljhbdgoknfkcaaGreatDoorJU
import Derived.Test.YtljhbdgoknfkcaaGreatDoorJV
import Derived.Test.YtljhbdgoknfkcaaGreatDoorJW
import Derived.Test.YtljhbdgoknfkcaaGreatDoorJX
namespace Go.Proofs.YtljhbdgoknfkcaaGreatDoor
open Go Go.RowKit Go.Sort
set_option linter.unusedVariables false
set_option linter.unusedSimpArgs false
set_option maxRecDepth 100000

theorem valueTells_d (x : VV) (n most : Int) (hx : InV x) (hn : IS n) (hm : IS most) : Den Tryz.prog 10 #[.agg #[.int .i64 x.lo, .int .i64 x.hi], .agg #[.int .u64 x.m, .int .u64 x.r], .int .i64 n, .int .i64 most] tabF (.bool true) := by
  by_cases hm0 : (if (40 : Int) < most then 40 else most) ≤ 0
  · by_cases nb : vmake x = vbot
    · exact vt_bot1 x n most hx hn hm nb hm0
    · by_cases hs : (vmake x).lo = (vmake x).hi
      · exact vt_none1 x n most hx hn hm nb hm0 hs
      · exact vt_none2 x n most hx hn hm nb hm0 hs
  · by_cases nb : vmake x = vbot
    · exact vt_bot2 x n most hx hn hm nb hm0
    · by_cases hs : (vmake x).lo = (vmake x).hi
      · exact vt_one x n most hx hn hm nb hm0 hs
      · exact vt_many x n most hx hn hm nb hm0 hs
end Go.Proofs.YtljhbdgoknfkcaaGreatDoor
