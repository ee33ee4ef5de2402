/- EnvNone: how maps are laid. No condition. -/
import Derived.Test.YtmcjdbkjiedolaaGreatDoorQ
import Derived.JoinedOf
namespace Go.Proofs.YtmcjdbkjiedolaaGreatDoor
open Go Go.RowKit
set_option maxRecDepth 100000
theorem mapsRowed_all : mapsRowed Tryz.pinned.checked.prog = true := by kernel_rfl
end Go.Proofs.YtmcjdbkjiedolaaGreatDoor
