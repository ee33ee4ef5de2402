/- EnvNone: what the statement reaches. No condition. -/
import Derived.Test.YtmcjdbkjiedolaaGreatDoorQ
namespace Go.Proofs.YtmcjdbkjiedolaaGreatDoor
open Go Go.RowKit
set_option maxRecDepth 100000
theorem envNone_reach : Tryz.pinned.checked.prog.closure 4 = [4, 14, 70, 15, 16, 17, 18, 71, 19, 20, 21, 72, 73, 22, 74, 196, 330, 408, 448, 449, 450, 409, 451, 483, 484, 452, 453, 454, 485, 494, 331, 410, 455, 456, 457, 486, 495, 508, 496, 497, 498, 509, 411, 458, 197, 198, 200, 201, 199, 76, 75, 25, 83, 84, 207, 332, 85, 208, 86, 209, 210, 87, 211, 333, 334, 212, 335, 89, 217, 218, 338, 88, 191, 192, 324, 403, 445, 446, 402, 437, 438, 478, 439, 479, 480, 440, 481, 482, 493, 441, 442, 443, 444, 325, 405, 447, 404, 193, 213, 336, 214, 215, 216, 337, 82, 204, 205, 206, 242, 77] := by kernel_rfl
theorem envNone_inPlace : Tryz.pinned.checked.prog.inPlace 4 = ["internal/bytealg.CountString", "internal/bytealg.IndexByteString", "internal/bytealg.IndexString"] := by
  unfold Program.inPlace
  rw [envNone_reach]
  kernel_rfl
theorem envNone_unfollowed : Tryz.pinned.checked.prog.unfollowed 4 = true := by
  unfold Program.unfollowed
  rw [envNone_reach]
  kernel_rfl
theorem envNone_recurses : Tryz.pinned.checked.prog.recurses 4 = true := by
  unfold Program.recurses
  rw [envNone_unfollowed]
  rfl
theorem envNone_named : Tryz.pinned.checked.prog.varsNamed 4 = ["sieveholes/token.signs", "internal/bytealg.MaxLen", "sieveholes/ast.keywords"] := by
  unfold Program.varsNamed
  rw [envNone_reach]
  kernel_rfl
end Go.Proofs.YtmcjdbkjiedolaaGreatDoor
