/- What the rows of this seat share: the listed variables (three tables) at the call's start: the table of tens that the walks read; a world that meets the condition. -/
import Derived.Test.YtljhbdgoknfkcaaGreatDoorP
import Derived.Test.YtljhbdgoknfkcaaGreatDoorT1
import Derived.Test.YtljhbdgoknfkcaaGreatDoorRows
import Derived.LaidLaws
import Derived.LaidHandle
import Derived.LaidSub
import Derived.Lib.LaidTab
namespace Go.Proofs.YtljhbdgoknfkcaaGreatDoor
open Go Go.ChangeShapes Go.WideShapes Go.ChangeAt Go.RowKit Go.Joins
set_option linter.unusedVariables false
set_option maxRecDepth 100000

def laidL : List (String × DataW Unit) := [("math/bits.deBruijn32tab", Rows.laid_math_bits_deBruijn32tab), ("math/bits.deBruijn64tab", Rows.laid_math_bits_deBruijn64tab), ("internal/strconv.uint64pow10", Rows.laid_internal_strconv_uint64pow10)]
theorem glob_tab_type : (Tryz.prog.globals[0]?).map (·.type) = some 223 := by kernel_rfl
theorem tab_of_laid {W : World} (h : laidMetH Tryz.prog laidL W) : Tab W := by
  have h1 := h.filter fun x => x.1 == "internal/strconv.uint64pow10"
  have e : (laidL.filter fun x => x.1 == "internal/strconv.uint64pow10") = [("internal/strconv.uint64pow10", Lib.tabData .u64 Lib.pow10Tab)] := by kernel_rfl
  rw [e] at h1
  have h2 : laidMet Tryz.prog [("internal/strconv.uint64pow10", Lib.tabData .u64 Lib.pow10Tab)] W := by
    have := (laidMetH_iff.1 h1).1
    have e2 : ([("internal/strconv.uint64pow10", (Lib.tabData .u64 Lib.pow10Tab : DataW Unit))].filter fun x => x.2.handleName?.isNone) = [("internal/strconv.uint64pow10", Lib.tabData .u64 Lib.pow10Tab)] := by kernel_rfl
    rwa [e2] at this
  exact Lib.tabIs_of_head glob_tab glob_tab_type Tryz.underlying223 Tryz.underlying23 (by kernel_rfl) (by kernel_rfl) h2

/-- The cells of a listed table of integers. -/
def tabCells : DataW Unit → Array Value
  | .agg ds => (ds.map fun | .lit (.int k n) => Value.int k n | _ => Value.bool false).toArray
  | _ => #[]
def layAt (g : Nat) (d : DataW Unit) (h : Array Obj) : Array Obj := h.modify g fun
  | .cells _ t frozen => .cells (tabCells d) t frozen
  | o => o
noncomputable def laidWorld (os : Os) : World :=
  { World.holding Tryz.prog os ⟨#[], #[], []⟩ with heap := layAt 0 Rows.laid_internal_strconv_uint64pow10 (layAt 4 Rows.laid_math_bits_deBruijn64tab (layAt 3 Rows.laid_math_bits_deBruijn32tab (World.holding Tryz.prog os ⟨#[], #[], []⟩).heap)) }
theorem laidWorld_met (os : Os) (args : Array Value) : laidMetH Tryz.prog laidL ((laidWorld os).forCall (fun _ _ => 0) ⟨#[], args, []⟩).memory :=
  laidMetH_of_parts (laidMet_of_run' 8 (by kernel_rfl) (by kernel_rfl)) (by kernel_rfl)
end Go.Proofs.YtljhbdgoknfkcaaGreatDoor
