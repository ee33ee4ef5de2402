/- EnvNone's card: its main; whether the program looks. No condition. -/
import Derived.Test.YtmcjdbkjiedolaaGreatDoorQ
import Derived.Test.YtmcjdbkjiedolaaGreatDoorCards
import Derived.SevenTiedAt
namespace Go.Proofs.YtmcjdbkjiedolaaGreatDoor
open Go Go.RowKit
set_option linter.unusedVariables false
set_option maxRecDepth 100000
theorem card_main : Tryz.pinned.checked.prog.mainIs = some (true, "a1a111ce82babfcdf6adaf509cb1f07aaa02f4b98b860459e72cefc7cae5bf54".toList) := by kernel_rfl
theorem card_looks : true = Tryz.pinned.checked.prog.looks [] := by kernel_rfl
end Go.Proofs.YtmcjdbkjiedolaaGreatDoor
