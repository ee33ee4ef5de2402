/- ArithDoes as a call. -/
import Derived.Test.YtljhbdgoknfkcaaGreatDoorZ8
import Derived.Test.YtljhbdgoknfkcaaGreatDoorE4
namespace Go.Proofs.YtljhbdgoknfkcaaGreatDoor
open Go Go.RowKit Go.Sort
set_option linter.unusedVariables false
set_option linter.unusedSimpArgs false
set_option maxRecDepth 100000

set_option maxHeartbeats 4000000 in
theorem arithDoes_d (op : Int) (x y : VV) (hx : InV x) (hy : InV y) : Den Tryz.prog 4 #[.int .i64 op, VVal x, VVal y] tabF (.bool true) := by
  refine den_of_body (args := [.int .i64 op, VVal x, VVal y]) hmix Tryz.func4 ?_
  have D := aDo_d op x y hx hy
  have N := aNeg_d x hx
  have W := aWraps_d op x y hx hy
  have D' := rDo22_d op x y hx hy
  have N' := rNeg22_d x hx
  have W' := rWraps_d op x y hx hy
  generalize ado op (vmake x) (vmake y) = d at *
  generalize ado 14 (vone 0) (vmake x) = n at *
  generalize awraps op (vmake x) (vmake y) = w at *
  (repeat' ((conv => whnf); first | refine CallN.any _ (docValue_d _) ?_ | refine CallN.any _ D ?_ | refine CallN.any _ N ?_ | refine CallN.any _ W ?_ | refine CallN.any _ D' ?_ | refine CallN.any _ N' ?_ | refine CallN.any _ W' ?_ | refine CallN.mk _ works22_d ?_ | refine AdN.mk _ _ rfl ?_ | refine DrawN.a (Ob.mk (by decide +kernel) ?_) | refine DrawN.c (Ob.mk (by decide +kernel) ?_) | refine DrawN.b (Ob.mk (by decide +kernel) ?_) | refine Ob.mk (by kernel_rfl) ?_ | (refine Br.mk (fun h => ?_) (fun h => ?_) <;> (first | (exfalso; exact Bool.false_ne_true h) | (exfalso; exact Bool.false_ne_true h.symm) | skip)) | refine SeqN.go ?_)); all_goals (conv => whnf)
  all_goals (clear D N W D' N' W'; first | rfl | (exfalso; simp at *; done) | trace_state)
end Go.Proofs.YtljhbdgoknfkcaaGreatDoor
