/- EnvNone's card: whether the row goes; stand-ins. No condition. -/
import Derived.Test.YtmcjdbkjiedolaaGreatDoorQ
import Derived.Test.YtmcjdbkjiedolaaGreatDoorH24
import Derived.Test.YtmcjdbkjiedolaaGreatDoorCards
import Derived.SevenTiedAt
namespace Go.Proofs.YtmcjdbkjiedolaaGreatDoor
open Go Go.RowKit
set_option linter.unusedVariables false
set_option maxRecDepth 100000
theorem any_of {α : Type} {p : α → Bool} {o : Option α} {x : α} (h : o = some x) (h2 : p x = false) : o.any p = false := by rw [h]; exact h2
theorem goes_none : Tryz.pinned.checked.prog.goes 4 = false := by
  unfold Program.goes
  rw [envNone_reach, envNone_unfollowed]
  kernel_rfl
theorem goes_name : Tryz.pinned.checked.prog.funcNamed "sieveholes/sieveholeslaw15.EnvNone" = some 4 := by kernel_rfl
theorem goes_any : (Tryz.pinned.checked.prog.funcNamed "sieveholes/sieveholeslaw15.EnvNone").any Tryz.pinned.checked.prog.goes = false := any_of goes_name goes_none
theorem goesBy_of {P : Program} {c : OpenClaim} {n : String} (hs : c.start = .entering) (hf : c.func = n) (h : (P.funcNamed n).any P.goes = false) : false = c.goesBy P := by
  unfold OpenClaim.goesBy Program.goesAt Program.goesFrom
  rw [hs, hf, h]
  rfl
theorem card_goes : false = Rows.envNoneRow.goesBy Tryz.pinned.checked.prog := goesBy_of rfl rfl goes_any
theorem card_own : (Tryz.f4.params.toList.all fun t => !Tryz.pinned.checked.prog.wantsStandIn t) = true := by kernel_rfl
end Go.Proofs.YtmcjdbkjiedolaaGreatDoor
