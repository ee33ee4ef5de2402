
import Derived.Test.YtphbcejnnoijfaaKG26
import Derived.Test.YtphbcejnnoijfaaKG27
namespace Go.Proofs.Ytphbcejnnoijfaa
open Go Go.RowKit Go.Sort U
set_option linter.unusedVariables false
set_option linter.unusedSimpArgs false
set_option maxRecDepth 100000
set_option maxHeartbeats 4000000
theorem sortE_C (d : List (Int × Int)) (W : World) (r cap : Nat) (hH : HoldsK e2L 2 W r 0 d.toArray) (hr : r < W.heap.size) (hd : d.length ≤ 1000000) : Calls Try.prog 49 #[.slice (some ⟨r, 0, none⟩) d.length cap, .func (.func 50) #[] #[]] W fun e w' => e = .returned (.tuple #[]) ∧ ∃ n os, w' = sortWorldK e2L 2 W r 0 n (sortE d).toArray os := by
  have aE : ∀ w, (isAgg 123).run Try.prog w = .ok true w := fun w => by kernel_rfl
  have zE : ∀ w, (Go.sizeOf 123).run Try.prog w = .ok 2 w := fun w => by kernel_rfl
  have eg : ∀ args w, (callFunc 50 args).run Try.prog w = .ok (.enter 50 args) w := enters_of Try.func50 (by kernel_rfl) rfl
  have h := AnyQ.slices_SortFunc_total Try.laysSlF06_f49 2 aE zE e2L (fun _ => rfl) (fun x v hv => by simp [e2L] at hv; rcases hv with rfl | rfl <;> rfl) cmpE cmpE_swo 50 #[] r 0 cap d.toArray W eg (edgeCmp _ _ _ _) hH hr (by simp; omega) cmpE_total
  exact h
theorem sort_s {es : List (Int × Int)} {tl : List Value} {s : AS} {b n c : Nat} {op : Bool} (hb : s.heap.get b = some (.cells 123 (es.flatMap e2L ++ tl) op)) (hlo : s.lo ≤ b) (hn : es.length = n) (hm : n ≤ 1000000) {K : Value → AS → Prop} (hK : K (.tuple ⟨[]⟩) ⟨s.heap.set b (some (.cells 123 ((sortE es).flatMap e2L ++ tl) op)), s.next, s.lo, s.glb⟩) :
    SoundAt Try.prog 49 [.slice (some ⟨b, 0, none⟩) n c, .func (.func 50) ⟨[]⟩ ⟨[]⟩] s K :=
  sortAt (k := 2) (fun _ => rfl) (fun x v hv => by simp [e2L] at hv; rcases hv with rfl | rfl <;> rfl) (fun x v hv => by simp [e2L] at hv; rcases hv with rfl | rfl <;> rfl) (srt := sortE) (fun l => by simp [sortE]) sortE_C hb hlo hn hm hK
end Go.Proofs.Ytphbcejnnoijfaa
