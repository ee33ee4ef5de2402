/- CondTells as a call. -/
import Derived.Test.YtcemohoigdninaaGreatDoorG7
import Derived.Test.YtcemohoigdninaaGreatDoorG4
namespace Go.Proofs.YtcemohoigdninaaGreatDoor
open Go Go.RowKit Go.Sort
set_option linter.unusedVariables false
set_option linter.unusedSimpArgs false
set_option maxRecDepth 100000

set_option maxHeartbeats 4000000 in
theorem condTells_d (op : Int) (x y : VV) (t : Bool) (n : Int) (hx : InV x) (hy : InV y) (hn : IS n) : Den Tryz.prog 4 #[.int .i64 op, VVal x, VVal y, .bool t, .int .i64 n] tabF (.bool true) := by
  refine den_of_body (args := [.int .i64 op, VVal x, VVal y, .bool t, .int .i64 n]) hmix Tryz.func4 ?_
  have R := cRefine_d op x y t hx hy
  have R' := r24Refine_d op x y t hx hy
  have T := cTruth_d x hx
  have P := rVPlain_d x hx
  have T' := r24Truth_d _ (vmake_rv hx)
  have D := cDo_d op x y hx hy
  have D' := r24Do_d op x y hx hy
  have W := cWithout_d x n hx
  have W' := r24Without_d x n hx hn
  have O := cOnly_d x t hx
  have O' := r24Only_d x t hx
  generalize crefine op (vmake x) (vmake y) t = re at *
  generalize cdo op (vmake x) (vmake y) = d at *
  generalize cwithout (vmake x) n = w at *
  generalize conly (vmake x) t = o at *
  (repeat' ((conv => whnf); first | refine CallN.any _ (docValue_d _) ?_ | refine CallN.any _ R ?_ | refine CallN.any _ R' ?_ | refine CallN.any _ T ?_ | refine CallN.any _ P ?_ | refine CallN.any _ T' ?_ | refine CallN.any _ D ?_ | refine CallN.any _ D' ?_ | refine CallN.any _ W ?_ | refine CallN.any _ W' ?_ | refine CallN.any _ O ?_ | refine CallN.any _ O' ?_ | refine CallN.mk _ works24_d ?_ | refine AdN.mk _ _ rfl ?_ | refine DrawN.a (Ob.mk (by decide +kernel) ?_) | refine DrawN.c (Ob.mk (by decide +kernel) ?_) | refine DrawN.b (Ob.mk (by decide +kernel) ?_) | refine Ob.mk (by kernel_rfl) ?_ | (refine Br.mk (fun h => ?_) (fun h => ?_) <;> (first | (exfalso; exact Bool.false_ne_true h) | (exfalso; exact Bool.false_ne_true h.symm) | skip)) | refine SeqN.go ?_)); all_goals (conv => whnf)
  all_goals (clear R R' T P T' D D' W W' O O'; first | rfl | (exfalso; simp at *; done))
end Go.Proofs.YtcemohoigdninaaGreatDoor
