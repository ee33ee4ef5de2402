/- Contracts of package cond, over values that are reduced: what is left behind an operator. -/
import Derived.Test.YtcemohoigdninaaDoorG1
namespace Go.Proofs.YtcemohoigdninaaDoor
open Go Go.RowKit Go.Sort
set_option linter.unusedVariables false
set_option linter.unusedSimpArgs false
set_option maxRecDepth 100000

def cupto (v : VV) (n : Int) (o : Bool) : VV := if o = true ∧ n ≤ v.hi then vmk (iof v.lo (IntKind.i64.wrap (n - 1))) (v.m, v.r) else vmk (iof v.lo (if n < v.hi then n else v.hi)) (v.m, v.r)
def cfrom (v : VV) (n : Int) (o : Bool) : VV := if o = true ∧ n ≥ v.lo then vmk (iof (IntKind.i64.wrap (n + 1)) v.hi) (v.m, v.r) else vmk (iof (if v.lo < n then n else v.lo) v.hi) (v.m, v.r)
theorem vMk_d {v : VV} (ha : RV v) {a b : Int} (h1 : IS a) (h2 : IS b) : Den Tryd.prog 12 #[.agg #[.int .i64 (iof a b).1, .int .i64 (iof a b).2], .agg #[.int .u64 v.m, .int .u64 v.r]] noFacts (VVal (vmk (iof a b) (v.m, v.r))) :=
  vMake_d ⟨_, _, _, _⟩ (show InV ⟨(iof a b).1, (iof a b).2, v.m, v.r⟩ from ⟨(iof_in h1 h2).1, (iof_in h1 h2).2, ha.inn.m, ha.inn.r⟩)
theorem vmk_rv {v : VV} (ha : RV v) {a b : Int} (h1 : IS a) (h2 : IS b) : RV (vmk (iof a b) (v.m, v.r)) :=
  vmake_rv (x := ⟨(iof a b).1, (iof a b).2, v.m, v.r⟩) ⟨(iof_in h1 h2).1, (iof_in h1 h2).2, ha.inn.m, ha.inn.r⟩
theorem ite_is {p : Prop} [Decidable p] {a b : Int} (h : IS a) (k : IS b) : IS (if p then a else b) := by split <;> assumption
theorem cUpTo_d (v : VV) (n : Int) (o : Bool) (ha : RV v) (hn : IS n) : Den Tryd.prog 150 #[VVal v, .int .i64 n, .bool o] noFacts (VVal (cupto v n o)) := by
  refine den_of_body (args := [VVal v, .int .i64 n, .bool o]) hmix Tryd.func150 ?_
  (repeat' ((conv => whnf); first | refine CallN.any _ (iOf_d _ _) ?_ | refine CallN.any _ (vMk_d ha ha.inn.lo (wrap_is (n - 1))) ?_ | refine CallN.any _ (vMk_d ha ha.inn.lo (ite_is hn ha.inn.hi)) ?_ | refine AdN.mk _ _ rfl ?_ | refine DrawN.a (Ob.mk (by decide +kernel) ?_) | refine DrawN.b (Ob.mk (by decide +kernel) ?_) | refine Ob.mk (by kernel_rfl) ?_ | (refine Br.mk (fun h => ?_) (fun h => ?_) <;> (first | (exfalso; exact Bool.false_ne_true h) | (exfalso; exact Bool.false_ne_true h.symm) | skip)) | refine SeqN.go ?_)); all_goals (conv => whnf)
  all_goals grind [retV, cupto]
theorem cFrom_d (v : VV) (n : Int) (o : Bool) (ha : RV v) (hn : IS n) : Den Tryd.prog 151 #[VVal v, .int .i64 n, .bool o] noFacts (VVal (cfrom v n o)) := by
  refine den_of_body (args := [VVal v, .int .i64 n, .bool o]) hmix Tryd.func151 ?_
  (repeat' ((conv => whnf); first | refine CallN.any _ (iOf_d _ _) ?_ | refine CallN.any _ (vMk_d ha (wrap_is (n + 1)) ha.inn.hi) ?_ | refine CallN.any _ (vMk_d ha (ite_is hn ha.inn.lo) ha.inn.hi) ?_ | refine AdN.mk _ _ rfl ?_ | refine DrawN.a (Ob.mk (by decide +kernel) ?_) | refine DrawN.b (Ob.mk (by decide +kernel) ?_) | refine Ob.mk (by kernel_rfl) ?_ | (refine Br.mk (fun h => ?_) (fun h => ?_) <;> (first | (exfalso; exact Bool.false_ne_true h) | (exfalso; exact Bool.false_ne_true h.symm) | skip)) | refine SeqN.go ?_)); all_goals (conv => whnf)
  all_goals grind [retV, cfrom]
theorem cupto_rv {v : VV} {n : Int} {o : Bool} (h : RV v) (hn : IS n) : RV (cupto v n o) := by
  unfold cupto
  split
  · exact vmk_rv h h.inn.lo (wrap_is _)
  · exact vmk_rv h h.inn.lo (ite_is hn h.inn.hi)
theorem cfrom_rv {v : VV} {n : Int} {o : Bool} (h : RV v) (hn : IS n) : RV (cfrom v n o) := by
  unfold cfrom
  split
  · exact vmk_rv h (wrap_is _) h.inn.hi
  · exact vmk_rv h (ite_is hn h.inn.lo) h.inn.hi
def cleft (op : Int) (a b : VV) : VV × VV :=
  if op = 4 then (cupto a b.hi true, cfrom b a.lo true)
  else if op = 5 then (cupto a b.hi false, cfrom b a.lo false)
  else if op = 6 then (cfrom a b.lo true, cupto b a.hi true)
  else if op = 7 then (cfrom a b.lo false, cupto b a.hi false)
  else if op = 2 then (ceq1 a b, ceq2 a b)
  else if op = 3 then (if b.lo = b.hi then cwithout a b.lo else a, if a.lo = a.hi then cwithout b a.lo else b)
  else if op = 1 then (cwithout a 0, cwithout b 0)
  else (a, b)
theorem only_r {x : VV} (t : Bool) (h : RV x) : Den Tryd.prog 58 #[VVal x, .bool t] noFacts (VVal (conly x t)) := by
  have := cOnly_d x t h.inn
  rwa [h.fix] at this
theorem only_t {x : VV} (h : RV x) : Den Tryd.prog 58 #[VVal x, .bool true] noFacts (VVal (cwithout x 0)) := only_r true h
set_option maxHeartbeats 2000000 in
theorem cLeft_d (op : Int) (a b : VV) (ha : RV a) (hb : RV b) : Den Tryd.prog 110 #[.int .i64 op, VVal a, VVal b] noFacts (.tuple #[VVal (cleft op a b).1, VVal (cleft op a b).2]) := by
  refine den_of_body (args := [.int .i64 op, VVal a, VVal b]) hmix Tryd.func110 ?_
  (repeat' ((conv => whnf); first | refine CallN.any _ (cUpTo_d a b.hi _ ha hb.inn.hi) ?_ | refine CallN.any _ (cFrom_d b a.lo _ hb ha.inn.lo) ?_ | refine CallN.any _ (cFrom_d a b.lo _ ha hb.inn.lo) ?_ | refine CallN.any _ (cUpTo_d b a.hi _ hb ha.inn.hi) ?_ | refine CallN.any _ (cEqual_d a b ha hb) ?_ | refine CallN.any _ (single_r ha) ?_ | refine CallN.any _ (single_r hb) ?_ | refine CallN.any _ (without_r _ ha) ?_ | refine CallN.any _ (without_r _ hb) ?_ | refine CallN.any _ (only_t ha) ?_ | refine CallN.any _ (only_t hb) ?_ | refine AdN.mk _ _ rfl ?_ | refine DrawN.a (Ob.mk (by decide +kernel) ?_) | refine DrawN.b (Ob.mk (by decide +kernel) ?_) | refine Ob.mk (by kernel_rfl) ?_ | (refine Br.mk (fun h => ?_) (fun h => ?_) <;> (first | (exfalso; exact Bool.false_ne_true h) | (exfalso; exact Bool.false_ne_true h.symm) | skip)) | refine SeqN.go ?_)); all_goals (conv => whnf)
  all_goals (simp only [beq_iff_eq, beq_eq_false_iff_ne, ne_eq] at *; first | (subst op; simp_all [retV, cleft]; done) | (simp_all [retV, cleft]; done))
theorem vmeet_in' {x y : VV} (h : RV x) (k : RV y) : RV (vmeet x y) := by
  unfold vmeet
  have b1 := imeet_in (a := -9223372036854775808) (b := 9223372036854775807) ⟨by decide, by decide⟩ ⟨by decide, by decide⟩ h.inn.lo h.inn.hi
  have b2 := imeet_in b1.1 b1.2 k.inn.lo k.inn.hi
  split
  · exact rv_bot
  · exact vmake_rv ⟨b2.1, b2.2, (cm_in h.inn k.inn).1, (cm_in h.inn k.inn).2⟩
theorem conly_rv {x : VV} (t : Bool) (h : RV x) : RV (conly x t) := by
  unfold conly
  split
  · exact cwithout_rv h
  · exact vmeet_in' h (rv_one ⟨by decide, by decide⟩)
theorem cleft_rv {op : Int} {a b : VV} (h : RV a) (k : RV b) : RV (cleft op a b).1 ∧ RV (cleft op a b).2 := by
  unfold cleft
  by_cases h3 : op = 3
  · subst h3
    simp only [show ¬ (3 : Int) = 4 by decide, show ¬ (3 : Int) = 5 by decide, show ¬ (3 : Int) = 6 by decide, show ¬ (3 : Int) = 7 by decide, show ¬ (3 : Int) = 2 by decide, if_false, if_true]
    constructor
    · split
      · exact cwithout_rv h
      · exact h
    · split
      · exact cwithout_rv k
      · exact k
  rw [if_neg h3]
  (repeat' split) <;> dsimp only
  all_goals first
    | exact ⟨cupto_rv h k.inn.hi, cfrom_rv k h.inn.lo⟩
    | exact ⟨cfrom_rv h k.inn.lo, cupto_rv k h.inn.hi⟩
    | exact ceq_rv h k
    | exact ⟨cwithout_rv h, cwithout_rv k⟩
    | exact ⟨h, k⟩
    | exact ⟨cwithout_rv h, k⟩
    | exact ⟨h, cwithout_rv k⟩
def cother (op : Int) : Int := if op = 4 then 7 else if op = 5 then 6 else if op = 2 then 3 else if op = 3 then 2 else if op = 6 then 5 else if op = 7 then 4 else 0
def cpart (op : Int) (a b : VV) (t : Bool) : VV × VV :=
  if t then cleft op a b else if 2 ≤ op ∧ op ≤ 7 then cleft (cother op) a b else if op = 0 then (conly a false, conly b false) else (a, b)
def crefine (op : Int) (a b : VV) (t : Bool) : VV × VV :=
  if veq a vbot = true ∨ veq b vbot = true then (vbot, vbot)
  else if (t = true ∧ (cmay op a b).1 = false) ∨ (t = false ∧ (cmay op a b).2 = false) then (vbot, vbot)
  else if veq (cpart op a b t).1 vbot = true ∨ veq (cpart op a b t).2 vbot = true then (vbot, vbot)
  else cpart op a b t
theorem cpart_rv {op : Int} {a b : VV} {t : Bool} (h : RV a) (k : RV b) : RV (cpart op a b t).1 ∧ RV (cpart op a b t).2 := by
  unfold cpart
  repeat' split
  · exact cleft_rv h k
  · exact cleft_rv h k
  · exact ⟨conly_rv false h, conly_rv false k⟩
  · exact ⟨h, k⟩
theorem crefine_rv {op : Int} {a b : VV} {t : Bool} (h : RV a) (k : RV b) : RV (crefine op a b t).1 ∧ RV (crefine op a b t).2 := by
  unfold crefine
  repeat' split
  · exact ⟨rv_bot, rv_bot⟩
  · exact ⟨rv_bot, rv_bot⟩
  · exact ⟨rv_bot, rv_bot⟩
  · exact cpart_rv h k
end Go.Proofs.YtcemohoigdninaaDoor
