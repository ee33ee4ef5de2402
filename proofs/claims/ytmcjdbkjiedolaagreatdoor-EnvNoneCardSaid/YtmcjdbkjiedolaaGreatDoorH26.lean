/- EnvNone: the closed facts of the row. No condition. -/
import Derived.Test.YtmcjdbkjiedolaaGreatDoorP
import Derived.Test.YtmcjdbkjiedolaaGreatDoorH24
import Derived.Test.YtmcjdbkjiedolaaGreatDoorH25
namespace Go.Proofs.YtmcjdbkjiedolaaGreatDoor
open Go Go.RowKit
set_option maxRecDepth 100000
theorem envNone_facts : joinedFacts Tryz.pinned.checked.prog 4 Tryz.f4 Rows.envNoneSpec Rows.envNoneRow = true := by
  unfold joinedFacts
  rw [show laidOutB Tryz.pinned.checked.prog = true from laidOut, mapsRowed_all, envNone_inPlace, envNone_unfollowed, envNone_recurses, envNone_named]
  kernel_rfl
end Go.Proofs.YtmcjdbkjiedolaaGreatDoor
