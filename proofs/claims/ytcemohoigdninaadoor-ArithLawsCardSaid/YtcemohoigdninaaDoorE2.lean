/- Contracts of package arith: the span of exact results. -/
import Derived.Test.YtcemohoigdninaaDoorE1
namespace Go.Proofs.YtcemohoigdninaaDoor
open Go Go.RowKit Go.Sort
set_option linter.unusedVariables false
set_option linter.unusedSimpArgs false
set_option maxRecDepth 100000

set_option maxHeartbeats 2000000 in
theorem span_d (op : Int) (a b : VV) (ho : op = 13 ∨ op = 14 ∨ op = 15) (ha : InV a) (hb : InV b) : Den Tryd.prog 114 #[.int .i64 op, VVal a, VVal b] noFacts (.tuple #[wdv (spanL op a b), wdv (spanG op a b)]) := by
  refine den_of_body (args := [.int .i64 op, VVal a, VVal b]) hmix Tryd.func114 ?_
  have X : ∀ x y, IS x → IS y → Den Tryd.prog 113 #[.int .i64 op, .int .i64 x, .int .i64 y] noFacts (wdv (wex op x y)) := fun x y hx hy => exact_d op x y ho hx hy
  have X1 := X _ _ ha.lo hb.lo
  have X2 := X _ _ ha.lo hb.hi
  have X3 := X _ _ ha.hi hb.lo
  have X4 := X _ _ ha.hi hb.hi
  have i1 := wex_in (op := op) ha.lo hb.lo
  have i2 := wex_in (op := op) ha.lo hb.hi
  have i3 := wex_in (op := op) ha.hi hb.lo
  have i4 := wex_in (op := op) ha.hi hb.hi
  clear X
  unfold spanL spanG
  generalize wex op a.lo b.lo = z1 at *
  generalize wex op a.lo b.hi = z2 at *
  generalize wex op a.hi b.lo = z3 at *
  generalize wex op a.hi b.hi = z4 at *
  have L21 := less_d z2 z1 i2 i1
  have L12 := less_d z1 z2 i1 i2
  have L31 := less_d z3 z1 i3 i1
  have L13 := less_d z1 z3 i1 i3
  have L41 := less_d z4 z1 i4 i1
  have L14 := less_d z1 z4 i1 i4
  have L32 := less_d z3 z2 i3 i2
  have L23 := less_d z2 z3 i2 i3
  have L42 := less_d z4 z2 i4 i2
  have L24 := less_d z2 z4 i2 i4
  have L43 := less_d z4 z3 i4 i3
  have L34 := less_d z3 z4 i3 i4
  (repeat' ((conv => whnf); first | refine CallN.any _ X1 ?_ | refine CallN.any _ X2 ?_ | refine CallN.any _ X3 ?_ | refine CallN.any _ X4 ?_ | refine CallN.any _ L21 ?_ | refine CallN.any _ L12 ?_ | refine CallN.any _ L31 ?_ | refine CallN.any _ L13 ?_ | refine CallN.any _ L41 ?_ | refine CallN.any _ L14 ?_ | refine CallN.any _ L32 ?_ | refine CallN.any _ L23 ?_ | refine CallN.any _ L42 ?_ | refine CallN.any _ L24 ?_ | refine CallN.any _ L43 ?_ | refine CallN.any _ L34 ?_ | refine LoopN.roll 5 ?_ | refine Ob.mk (by decide) ?_ | refine Ob.mk ⟨by decide, by decide⟩ ?_ | refine AdN.mk _ _ rfl ?_ | refine DrawN.a (Ob.mk (by decide +kernel) ?_) | refine DrawN.c (Ob.mk (by decide +kernel) ?_) | refine DrawN.b (Ob.mk (by decide +kernel) ?_) | refine Ob.mk (by kernel_rfl) ?_ | (refine Br.mk (fun h => ?_) (fun h => ?_) <;> (first | (exfalso; exact Bool.false_ne_true h) | (exfalso; exact Bool.false_ne_true h.symm) | skip)) | refine SeqN.go ?_)); all_goals (conv => whnf)
  all_goals (clear X1 X2 X3 X4 L21 L12 L31 L13 L41 L14 L32 L23 L42 L24 L43 L34; simp only [decide_eq_true_eq, decide_eq_false_iff_not] at *; (simp only [wmin, wmax, *, if_true, if_false]); rfl)
end Go.Proofs.YtcemohoigdninaaDoor
