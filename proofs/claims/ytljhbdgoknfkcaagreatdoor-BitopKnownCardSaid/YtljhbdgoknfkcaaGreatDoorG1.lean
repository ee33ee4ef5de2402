/- Contracts of package cond, over values that are reduced: truth, what operators may tell, what is left. -/
import Derived.Test.YtljhbdgoknfkcaaGreatDoorPV
namespace Go.Proofs.YtljhbdgoknfkcaaGreatDoor
open Go Go.RowKit Go.Sort
set_option linter.unusedVariables false
set_option linter.unusedSimpArgs false
set_option maxRecDepth 100000

theorem bottom_r {x : VV} (h : RV x) : Den Tryz.prog 33 #[VVal x] noFacts (.bool (veq x vbot)) := by
  have := vIsBottom_d x h.inn
  rwa [h.fix] at this
theorem has_r {x : VV} (n : Int) (h : RV x) (hn : IS n) : Den Tryz.prog 41 #[VVal x, .int .i64 n] noFacts (.bool (vhas x n)) := by
  have := vHas_d x n h.inn hn
  rwa [h.fix] at this
theorem single_r {x : VV} (h : RV x) : Den Tryz.prog 32 #[VVal x] noFacts (.tuple #[.int .i64 (if x.lo = x.hi then x.lo else 0), .bool (x.lo == x.hi)]) := by
  have := vSingle_d x h.inn
  rwa [h.fix] at this
theorem wrap_is (n : Int) : IS (IntKind.i64.wrap n) := by rw [sg_eq]; exact sg_rng n

def tY (w : VV) : Bool := !(veq w vbot) && (!(w.lo == w.hi) || !(w.lo == 0))
def tN (w : VV) : Bool := !(veq w vbot) && vhas w 0
def ctold (y n : Bool) : VV := if y = true ∧ n = true then ⟨0, 1, 1, 0⟩ else if y then vone 1 else if n then vone 0 else vbot
def calike (a b : VV) : Bool := (a.lo == a.hi && b.lo == b.hi) && (a.lo == b.lo)
def ceq1 (a b : VV) : VV := if (cmeet a.m a.r b.m b.r).2 = false then vbot else vmk (imeet a.lo a.hi b.lo b.hi) (if cwithin b.m b.r a.m a.r then (b.m, b.r) else (a.m, a.r))
def ceq2 (a b : VV) : VV := if (cmeet a.m a.r b.m b.r).2 = false then vbot else vmk (imeet a.lo a.hi b.lo b.hi) (if cwithin a.m a.r b.m b.r then (a.m, a.r) else (b.m, b.r))
theorem ceq_rv {a b : VV} (h : RV a) (k : RV b) : RV (ceq1 a b) ∧ RV (ceq2 a b) := by
  have b2 := imeet_in h.inn.lo h.inn.hi k.inn.lo k.inn.hi
  unfold ceq1 ceq2
  constructor
  · split
    · exact rv_bot
    · refine vmake_rv ⟨b2.1, b2.2, ?_, ?_⟩ <;> (dsimp only; split) <;> first | exact h.inn.m | exact k.inn.m | exact h.inn.r | exact k.inn.r
  · split
    · exact rv_bot
    · refine vmake_rv ⟨b2.1, b2.2, ?_, ?_⟩ <;> (dsimp only; split) <;> first | exact h.inn.m | exact k.inn.m | exact h.inn.r | exact k.inn.r
def cmay (op : Int) (a b : VV) : Bool × Bool :=
  if op = 6 then (decide (b.lo < a.hi), decide (b.hi ≥ a.lo))
  else if op = 4 then (decide (a.lo < b.hi), decide (a.hi ≥ b.lo))
  else if op = 7 then (decide (b.lo ≤ a.hi), decide (b.hi > a.lo))
  else if op = 5 then (decide (a.lo ≤ b.hi), decide (a.hi > b.lo))
  else if op = 2 then (!(veq (ceq1 a b) vbot) && !(veq (ceq2 a b) vbot), !(calike a b))
  else if op = 3 then (!(calike a b), !(veq (ceq1 a b) vbot) && !(veq (ceq2 a b) vbot))
  else if op = 0 then (tY a || tY b, tN a && tN b)
  else if op = 1 then (tY a && tY b, tN a || tN b)
  else (true, true)
def cdo (op : Int) (a b : VV) : VV := if veq a vbot = true ∨ veq b vbot = true then vbot else if op < 0 ∨ op > 7 then vtop else ctold (cmay op a b).1 (cmay op a b).2
def cwithout (v : VV) (n : Int) : VV :=
  if veq v vbot = true then vbot
  else if v.lo = v.hi ∧ v.lo = n then vbot
  else if v.lo = n ∧ v.lo ≠ v.hi then vmk (iof (IntKind.i64.wrap (n + 1)) v.hi) (v.m, v.r)
  else if v.hi = n ∧ v.lo ≠ v.hi then vmk (iof v.lo (IntKind.i64.wrap (n - 1))) (v.m, v.r)
  else v
theorem cwithout_rv {v : VV} {n : Int} (h : RV v) : RV (cwithout v n) := by
  have i1 := iof_in (wrap_is (n + 1)) h.inn.hi
  have i2 := iof_in h.inn.lo (wrap_is (n - 1))
  unfold cwithout
  repeat' split
  · exact rv_bot
  · exact rv_bot
  · exact vmake_rv ⟨i1.1, i1.2, h.inn.m, h.inn.r⟩
  · exact vmake_rv ⟨i2.1, i2.2, h.inn.m, h.inn.r⟩
  · exact h
def conly (v : VV) (t : Bool) : VV := if t then cwithout v 0 else vmeet v (vone 0)
def cupto (v : VV) (n : Int) (o : Bool) : VV := if o = true ∧ n ≤ v.hi then vmk (iof v.lo (IntKind.i64.wrap (n - 1))) (v.m, v.r) else vmk (iof v.lo (if n < v.hi then n else v.hi)) (v.m, v.r)
def cfrom (v : VV) (n : Int) (o : Bool) : VV := if o = true ∧ n ≥ v.lo then vmk (iof (IntKind.i64.wrap (n + 1)) v.hi) (v.m, v.r) else vmk (iof (if v.lo < n then n else v.lo) v.hi) (v.m, v.r)
theorem vMk_d {v : VV} (ha : RV v) {a b : Int} (h1 : IS a) (h2 : IS b) : Den Tryz.prog 43 #[.agg #[.int .i64 (iof a b).1, .int .i64 (iof a b).2], .agg #[.int .u64 v.m, .int .u64 v.r]] noFacts (VVal (vmk (iof a b) (v.m, v.r))) :=
  vMake_d ⟨_, _, _, _⟩ (show InV ⟨(iof a b).1, (iof a b).2, v.m, v.r⟩ from ⟨(iof_in h1 h2).1, (iof_in h1 h2).2, ha.inn.m, ha.inn.r⟩)
theorem vmk_rv {v : VV} (ha : RV v) {a b : Int} (h1 : IS a) (h2 : IS b) : RV (vmk (iof a b) (v.m, v.r)) :=
  vmake_rv (x := ⟨(iof a b).1, (iof a b).2, v.m, v.r⟩) ⟨(iof_in h1 h2).1, (iof_in h1 h2).2, ha.inn.m, ha.inn.r⟩
theorem ite_is {p : Prop} [Decidable p] {a b : Int} (h : IS a) (k : IS b) : IS (if p then a else b) := by split <;> assumption
theorem cupto_rv {v : VV} {n : Int} {o : Bool} (h : RV v) (hn : IS n) : RV (cupto v n o) := by
  unfold cupto
  split
  · exact vmk_rv h h.inn.lo (wrap_is _)
  · exact vmk_rv h h.inn.lo (ite_is hn h.inn.hi)
theorem cfrom_rv {v : VV} {n : Int} {o : Bool} (h : RV v) (hn : IS n) : RV (cfrom v n o) := by
  unfold cfrom
  split
  · exact vmk_rv h (wrap_is _) h.inn.hi
  · exact vmk_rv h (ite_is hn h.inn.lo) h.inn.hi
def cleft (op : Int) (a b : VV) : VV × VV :=
  if op = 4 then (cupto a b.hi true, cfrom b a.lo true)
  else if op = 5 then (cupto a b.hi false, cfrom b a.lo false)
  else if op = 6 then (cfrom a b.lo true, cupto b a.hi true)
  else if op = 7 then (cfrom a b.lo false, cupto b a.hi false)
  else if op = 2 then (ceq1 a b, ceq2 a b)
  else if op = 3 then (if b.lo = b.hi then cwithout a b.lo else a, if a.lo = a.hi then cwithout b a.lo else b)
  else if op = 1 then (cwithout a 0, cwithout b 0)
  else (a, b)
theorem vmeet_in' {x y : VV} (h : RV x) (k : RV y) : RV (vmeet x y) := by
  unfold vmeet
  have b1 := imeet_in (a := -9223372036854775808) (b := 9223372036854775807) ⟨by decide, by decide⟩ ⟨by decide, by decide⟩ h.inn.lo h.inn.hi
  have b2 := imeet_in b1.1 b1.2 k.inn.lo k.inn.hi
  split
  · exact rv_bot
  · exact vmake_rv ⟨b2.1, b2.2, (cm_in h.inn k.inn).1, (cm_in h.inn k.inn).2⟩
theorem conly_rv {x : VV} (t : Bool) (h : RV x) : RV (conly x t) := by
  unfold conly
  split
  · exact cwithout_rv h
  · exact vmeet_in' h (rv_one ⟨by decide, by decide⟩)
theorem cleft_rv {op : Int} {a b : VV} (h : RV a) (k : RV b) : RV (cleft op a b).1 ∧ RV (cleft op a b).2 := by
  unfold cleft
  by_cases h3 : op = 3
  · subst h3
    simp only [show ¬ (3 : Int) = 4 by decide, show ¬ (3 : Int) = 5 by decide, show ¬ (3 : Int) = 6 by decide, show ¬ (3 : Int) = 7 by decide, show ¬ (3 : Int) = 2 by decide, if_false, if_true]
    constructor
    · split
      · exact cwithout_rv h
      · exact h
    · split
      · exact cwithout_rv k
      · exact k
  rw [if_neg h3]
  (repeat' split) <;> dsimp only
  all_goals first
    | exact ⟨cupto_rv h k.inn.hi, cfrom_rv k h.inn.lo⟩
    | exact ⟨cfrom_rv h k.inn.lo, cupto_rv k h.inn.hi⟩
    | exact ceq_rv h k
    | exact ⟨cwithout_rv h, cwithout_rv k⟩
    | exact ⟨h, k⟩
    | exact ⟨cwithout_rv h, k⟩
    | exact ⟨h, cwithout_rv k⟩
def cother (op : Int) : Int := if op = 4 then 7 else if op = 5 then 6 else if op = 2 then 3 else if op = 3 then 2 else if op = 6 then 5 else if op = 7 then 4 else 0
def cpart (op : Int) (a b : VV) (t : Bool) : VV × VV :=
  if t then cleft op a b else if 2 ≤ op ∧ op ≤ 7 then cleft (cother op) a b else if op = 0 then (conly a false, conly b false) else (a, b)
def crefine (op : Int) (a b : VV) (t : Bool) : VV × VV :=
  if veq a vbot = true ∨ veq b vbot = true then (vbot, vbot)
  else if (t = true ∧ (cmay op a b).1 = false) ∨ (t = false ∧ (cmay op a b).2 = false) then (vbot, vbot)
  else if veq (cpart op a b t).1 vbot = true ∨ veq (cpart op a b t).2 vbot = true then (vbot, vbot)
  else cpart op a b t
theorem cpart_rv {op : Int} {a b : VV} {t : Bool} (h : RV a) (k : RV b) : RV (cpart op a b t).1 ∧ RV (cpart op a b t).2 := by
  unfold cpart
  repeat' split
  · exact cleft_rv h k
  · exact cleft_rv h k
  · exact ⟨conly_rv false h, conly_rv false k⟩
  · exact ⟨h, k⟩
theorem crefine_rv {op : Int} {a b : VV} {t : Bool} (h : RV a) (k : RV b) : RV (crefine op a b t).1 ∧ RV (crefine op a b t).2 := by
  unfold crefine
  repeat' split
  · exact ⟨rv_bot, rv_bot⟩
  · exact ⟨rv_bot, rv_bot⟩
  · exact ⟨rv_bot, rv_bot⟩
  · exact cpart_rv h k
end Go.Proofs.YtljhbdgoknfkcaaGreatDoor
