
import Derived.Test.YthekpmpcbidjiaaK24
import Derived.Test.YthekpmpcbidjiaaK37
/- Layer 11: the chapter's examples: closed runs. -/
namespace Go.Proofs.Ythekpmpcbidjiaa
open Go Go.RowKit Go.Sort U
set_option linter.unusedVariables false
set_option linter.unusedSimpArgs false
set_option maxRecDepth 100000
set_option maxHeartbeats 4000000
def gW : Gz := ⟨[⟨#[112]⟩, ⟨#[113]⟩], [[1, 1], [], [0, 1]]⟩
def hW : Gz := ⟨[⟨#[112]⟩, ⟨#[113]⟩], [[1, 1], [0], [0, 1]]⟩
def chkTup (ys : List Value) (u : Value) (s : AS) : Bool := match u with
  | .tuple ⟨[a, .bool true]⟩ => chkRow ys a s
  | _ => false
theorem chkTup_frz {P : Program} {ys : List Value} {u : Value} {s : AS} (h : chkTup ys u s = true) : FrzN P s u (.tuple ⟨[imS ys, .bool true]⟩) := by
  unfold chkTup at h
  split at h
  · rename_i a
    refine .tup _ _ rfl fun i u v hu hv => ?_
    rcases i with _ | _ | i
    · simp at hu hv; subst hu; subst hv; exact chkRow_frz h
    · simp at hu hv; subst hu; subst hv; exact .flat _ rfl
    · simp at hu
  · cases h
theorem orderW : DenN Try.prog 10 [encG gW] (.tuple ⟨[imS (iL [1, 0, 2]), .bool true]⟩) := denN_closed hmixU (chk := chkTup (iL [1, 0, 2])) (fun _ _ h => chkTup_frz h) 100000 60 60 fun Ts => by kernel_rfl
end Go.Proofs.Ythekpmpcbidjiaa
