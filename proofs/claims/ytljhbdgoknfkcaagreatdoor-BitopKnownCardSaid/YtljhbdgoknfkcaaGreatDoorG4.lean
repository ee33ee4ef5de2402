/- The chapter's examples of conditions: they work, over the table that a text reads. -/
import Derived.Test.YtljhbdgoknfkcaaGreatDoorJ0
import Derived.Test.YtljhbdgoknfkcaaGreatDoorG3
namespace Go.Proofs.YtljhbdgoknfkcaaGreatDoor
open Go Go.RowKit Go.Sort
set_option linter.unusedVariables false
set_option linter.unusedSimpArgs false
set_option maxRecDepth 100000

theorem vRange_e {lo hi : Int} {y : VV} (h1 : IS lo) (h2 : IS hi) (e : vmake ⟨(iof lo hi).1, (iof lo hi).2, 1, 0⟩ = y) : Den Tryz.prog 16 #[.int .i64 lo, .int .i64 hi] noFacts (VVal y) := e ▸ vRange_d lo hi h1 h2
theorem text2 {lo hi : Int} {s : ByteArray} (h : InV ⟨lo, hi, 1, 0⟩) (e : vmake ⟨lo, hi, 1, 0⟩ = ⟨lo, hi, 1, 0⟩) (e2 : vtext ⟨lo, hi, 1, 0⟩ = s) : Den Tryz.prog 53 #[VVal ⟨lo, hi, 1, 0⟩] tabF (.string s) := vText_e h e e2
end Go.Proofs.YtljhbdgoknfkcaaGreatDoor
