/- Contracts of package cond, over values that are reduced: truth, what operators may tell, what is left. -/
import Derived.Test.YtcemohoigdninaaDoorPV
namespace Go.Proofs.YtcemohoigdninaaDoor
open Go Go.RowKit Go.Sort
set_option linter.unusedVariables false
set_option linter.unusedSimpArgs false
set_option maxRecDepth 100000

theorem cReduced_d (x : VV) (h : InV x) : Den Tryd.prog 107 #[VVal x] noFacts (VVal (vmake x)) := by
  refine den_of_body (args := [VVal x]) hmix Tryd.func107 ?_
  (repeat' ((conv => whnf); first | refine CallN.any _ (vMake_d x h) ?_ | refine AdN.mk _ _ rfl ?_ | refine DrawN.a (Ob.mk (by decide +kernel) ?_) | refine DrawN.c (Ob.mk (by decide +kernel) ?_) | refine DrawN.b (Ob.mk (by decide +kernel) ?_) | refine Ob.mk (by kernel_rfl) ?_ | (refine Br.mk (fun h => ?_) (fun h => ?_) <;> (first | (exfalso; exact Bool.false_ne_true h) | (exfalso; exact Bool.false_ne_true h.symm) | skip)) | refine SeqN.go ?_)); all_goals (conv => whnf)
  all_goals rfl
theorem bottom_r {x : VV} (h : RV x) : Den Tryd.prog 18 #[VVal x] noFacts (.bool (veq x vbot)) := by
  have := vIsBottom_d x h.inn
  rwa [h.fix] at this
theorem has_r {x : VV} (n : Int) (h : RV x) (hn : IS n) : Den Tryd.prog 20 #[VVal x, .int .i64 n] noFacts (.bool (vhas x n)) := by
  have := vHas_d x n h.inn hn
  rwa [h.fix] at this
theorem single_r {x : VV} (h : RV x) : Den Tryd.prog 16 #[VVal x] noFacts (.tuple #[.int .i64 (if x.lo = x.hi then x.lo else 0), .bool (x.lo == x.hi)]) := by
  have := vSingle_d x h.inn
  rwa [h.fix] at this
theorem creduced_r {x : VV} (h : RV x) : Den Tryd.prog 107 #[VVal x] noFacts (VVal x) := by
  have := cReduced_d x h.inn
  rwa [h.fix] at this
theorem wrap_is (n : Int) : IS (IntKind.i64.wrap n) := by rw [sg_eq]; exact sg_rng n

def tY (w : VV) : Bool := !(veq w vbot) && (!(w.lo == w.hi) || !(w.lo == 0))
def tN (w : VV) : Bool := !(veq w vbot) && vhas w 0
theorem cTruth_d (x : VV) (h : InV x) : Den Tryd.prog 48 #[VVal x] noFacts (.tuple #[.bool (tY (vmake x)), .bool (tN (vmake x))]) := by
  refine den_of_body (args := [VVal x]) hmix Tryd.func48 ?_
  have k := vmake_rv h
  have D1 := bottom_r k
  have D2 := has_r 0 k ⟨by decide, by decide⟩
  have D3 := single_r k
  (repeat' ((conv => whnf); first | refine CallN.any _ (cReduced_d x h) ?_ | refine CallN.any _ D1 ?_ | refine CallN.any _ D2 ?_ | refine CallN.any _ D3 ?_ | refine AdN.mk _ _ rfl ?_ | refine DrawN.a (Ob.mk (by decide +kernel) ?_) | refine DrawN.c (Ob.mk (by decide +kernel) ?_) | refine DrawN.b (Ob.mk (by decide +kernel) ?_) | refine Ob.mk (by kernel_rfl) ?_ | (refine Br.mk (fun h => ?_) (fun h => ?_) <;> (first | (exfalso; exact Bool.false_ne_true h) | (exfalso; exact Bool.false_ne_true h.symm) | skip)) | refine SeqN.go ?_)); all_goals (conv => whnf)
  all_goals (clear D1 D2 D3; grind [retV, tY, tN])
theorem truth_r {x : VV} (h : RV x) : Den Tryd.prog 48 #[VVal x] noFacts (.tuple #[.bool (tY x), .bool (tN x)]) := by
  have := cTruth_d x h.inn
  rwa [h.fix] at this
def ctold (y n : Bool) : VV := if y = true ∧ n = true then ⟨0, 1, 1, 0⟩ else if y then vone 1 else if n then vone 0 else vbot
theorem cTold_d (y n : Bool) : Den Tryd.prog 111 #[.bool y, .bool n] noFacts (VVal (ctold y n)) := by
  refine den_of_body (args := [.bool y, .bool n]) hmix Tryd.func111 ?_
  have R := (vRange_d 0 1 ⟨by decide, by decide⟩ ⟨by decide, by decide⟩).eq (congrArg VVal (show vmake ⟨(iof 0 1).1, (iof 0 1).2, 1, 0⟩ = ⟨0, 1, 1, 0⟩ by decide +kernel))
  (repeat' ((conv => whnf); first | refine CallN.any _ R ?_ | refine CallN.any _ (vOne_d _) ?_ | refine CallN.any _ vBottom_d ?_ | refine AdN.mk _ _ rfl ?_ | refine DrawN.a (Ob.mk (by decide +kernel) ?_) | refine DrawN.c (Ob.mk (by decide +kernel) ?_) | refine DrawN.b (Ob.mk (by decide +kernel) ?_) | refine Ob.mk (by kernel_rfl) ?_ | (refine Br.mk (fun h => ?_) (fun h => ?_) <;> (first | (exfalso; exact Bool.false_ne_true h) | (exfalso; exact Bool.false_ne_true h.symm) | skip)) | refine SeqN.go ?_)); all_goals (conv => whnf)
  all_goals (clear R; cases y <;> cases n <;> first | rfl | (exfalso; grind))
def calike (a b : VV) : Bool := (a.lo == a.hi && b.lo == b.hi) && (a.lo == b.lo)
theorem cAlike_d (a b : VV) (h : RV a) (k : RV b) : Den Tryd.prog 149 #[VVal a, VVal b] noFacts (.bool (calike a b)) := by
  refine den_of_body (args := [VVal a, VVal b]) hmix Tryd.func149 ?_
  (repeat' ((conv => whnf); first | refine CallN.any _ (single_r h) ?_ | refine CallN.any _ (single_r k) ?_ | refine AdN.mk _ _ rfl ?_ | refine DrawN.a (Ob.mk (by decide +kernel) ?_) | refine DrawN.c (Ob.mk (by decide +kernel) ?_) | refine DrawN.b (Ob.mk (by decide +kernel) ?_) | refine Ob.mk (by kernel_rfl) ?_ | (refine Br.mk (fun h => ?_) (fun h => ?_) <;> (first | (exfalso; exact Bool.false_ne_true h) | (exfalso; exact Bool.false_ne_true h.symm) | skip)) | refine SeqN.go ?_)); all_goals (conv => whnf)
  all_goals grind [retV, calike]
def ceq1 (a b : VV) : VV := if (cmeet a.m a.r b.m b.r).2 = false then vbot else vmk (imeet a.lo a.hi b.lo b.hi) (if cwithin b.m b.r a.m a.r then (b.m, b.r) else (a.m, a.r))
def ceq2 (a b : VV) : VV := if (cmeet a.m a.r b.m b.r).2 = false then vbot else vmk (imeet a.lo a.hi b.lo b.hi) (if cwithin a.m a.r b.m b.r then (a.m, a.r) else (b.m, b.r))
theorem cEqual_d (a b : VV) (h : RV a) (k : RV b) : Den Tryd.prog 148 #[VVal a, VVal b] noFacts (.tuple #[VVal (ceq1 a b), VVal (ceq2 a b)]) := by
  refine den_of_body (args := [VVal a, VVal b]) hmix Tryd.func148 ?_
  have C := cmeet_d h.inn k.inn
  have b2 := imeet_in h.inn.lo h.inn.hi k.inn.lo k.inn.hi
  have I := iMeet_d a.lo a.hi b.lo b.hi
  rw [imeet_whole h.inn.lo h.inn.hi h.lohi] at I
  have M1 := vMake_d ⟨_, _, _, _⟩ (show InV ⟨(imeet a.lo a.hi b.lo b.hi).1, (imeet a.lo a.hi b.lo b.hi).2, a.m, a.r⟩ from ⟨b2.1, b2.2, h.inn.m, h.inn.r⟩)
  have M2 := vMake_d ⟨_, _, _, _⟩ (show InV ⟨(imeet a.lo a.hi b.lo b.hi).1, (imeet a.lo a.hi b.lo b.hi).2, b.m, b.r⟩ from ⟨b2.1, b2.2, k.inn.m, k.inn.r⟩)
  have W1 := den_of (F := noFacts) fun W => within_c a.m a.r b.m b.r W h.inn.m.1 h.inn.m.2 h.inn.r.1 h.inn.r.2 k.inn.m.1 k.inn.m.2
  have W2 := den_of (F := noFacts) fun W => within_c b.m b.r a.m a.r W k.inn.m.1 k.inn.m.2 k.inn.r.1 k.inn.r.2 h.inn.m.1 h.inn.m.2
  (repeat' ((conv => whnf); first | refine CallN.any _ C ?_ | refine CallN.any _ vBottom_d ?_ | refine CallA.any _ I ?_ | refine CallN.any _ W1 ?_ | refine CallN.any _ W2 ?_ | refine CallN.any _ M1 ?_ | refine CallN.any _ M2 ?_ | refine AdN.mk _ _ rfl ?_ | refine DrawN.a (Ob.mk (by decide +kernel) ?_) | refine DrawN.c (Ob.mk (by decide +kernel) ?_) | refine DrawN.b (Ob.mk (by decide +kernel) ?_) | refine Ob.mk (by kernel_rfl) ?_ | (refine Br.mk (fun h => ?_) (fun h => ?_) <;> (first | (exfalso; exact Bool.false_ne_true h) | (exfalso; exact Bool.false_ne_true h.symm) | skip)) | refine SeqN.go ?_)); all_goals (conv => whnf)
  all_goals (clear C I M1 M2 W1 W2; grind [retV, ceq1, ceq2, vmk])
theorem ceq_rv {a b : VV} (h : RV a) (k : RV b) : RV (ceq1 a b) ∧ RV (ceq2 a b) := by
  have b2 := imeet_in h.inn.lo h.inn.hi k.inn.lo k.inn.hi
  unfold ceq1 ceq2
  constructor
  · split
    · exact rv_bot
    · refine vmake_rv ⟨b2.1, b2.2, ?_, ?_⟩ <;> (dsimp only; split) <;> first | exact h.inn.m | exact k.inn.m | exact h.inn.r | exact k.inn.r
  · split
    · exact rv_bot
    · refine vmake_rv ⟨b2.1, b2.2, ?_, ?_⟩ <;> (dsimp only; split) <;> first | exact h.inn.m | exact k.inn.m | exact h.inn.r | exact k.inn.r
def cmay (op : Int) (a b : VV) : Bool × Bool :=
  if op = 6 then (decide (b.lo < a.hi), decide (b.hi ≥ a.lo))
  else if op = 4 then (decide (a.lo < b.hi), decide (a.hi ≥ b.lo))
  else if op = 7 then (decide (b.lo ≤ a.hi), decide (b.hi > a.lo))
  else if op = 5 then (decide (a.lo ≤ b.hi), decide (a.hi > b.lo))
  else if op = 2 then (!(veq (ceq1 a b) vbot) && !(veq (ceq2 a b) vbot), !(calike a b))
  else if op = 3 then (!(calike a b), !(veq (ceq1 a b) vbot) && !(veq (ceq2 a b) vbot))
  else if op = 0 then (tY a || tY b, tN a && tN b)
  else if op = 1 then (tY a && tY b, tN a || tN b)
  else (true, true)
theorem cMay2_d (a b : VV) (ha : RV a) (hb : RV b) : Den Tryd.prog 108 #[.int .i64 2, VVal a, VVal b] noFacts (.tuple #[.bool (cmay 2 a b).1, .bool (cmay 2 a b).2]) := by
  refine den_of_body (args := [.int .i64 2, VVal a, VVal b]) hmix Tryd.func108 ?_
  have B1 := bottom_r (ceq_rv ha hb).1
  have B2 := bottom_r (ceq_rv ha hb).2
  (repeat' ((conv => whnf); first | refine CallN.any _ (cEqual_d a b ha hb) ?_ | refine CallN.any _ (cAlike_d a b ha hb) ?_ | refine CallN.any _ B1 ?_ | refine CallN.any _ B2 ?_ | refine AdN.mk _ _ rfl ?_ | refine DrawN.a (Ob.mk (by decide +kernel) ?_) | refine DrawN.c (Ob.mk (by decide +kernel) ?_) | refine DrawN.b (Ob.mk (by decide +kernel) ?_) | refine Ob.mk (by kernel_rfl) ?_ | (refine Br.mk (fun h => ?_) (fun h => ?_) <;> (first | (exfalso; exact Bool.false_ne_true h) | (exfalso; exact Bool.false_ne_true h.symm) | skip)) | refine SeqN.go ?_)); all_goals (conv => whnf)
  all_goals (clear B1 B2; grind [retV, cmay])
theorem cMay_d (op : Int) (a b : VV) (ha : RV a) (hb : RV b) : Den Tryd.prog 108 #[.int .i64 op, VVal a, VVal b] noFacts (.tuple #[.bool (cmay op a b).1, .bool (cmay op a b).2]) := by
  refine den_of_body (args := [.int .i64 op, VVal a, VVal b]) hmix Tryd.func108 ?_
  have B1 := bottom_r (ceq_rv ha hb).1
  have B2 := bottom_r (ceq_rv ha hb).2
  (repeat' ((conv => whnf); first | refine CallN.any _ (cEqual_d a b ha hb) ?_ | refine CallN.any _ (cAlike_d a b ha hb) ?_ | refine CallN.any _ B1 ?_ | refine CallN.any _ B2 ?_ | refine CallN.any _ (cMay2_d a b ha hb) ?_ | refine CallN.any _ (truth_r ha) ?_ | refine CallN.any _ (truth_r hb) ?_ | refine AdN.mk _ _ rfl ?_ | refine DrawN.a (Ob.mk (by decide +kernel) ?_) | refine DrawN.c (Ob.mk (by decide +kernel) ?_) | refine DrawN.b (Ob.mk (by decide +kernel) ?_) | refine Ob.mk (by kernel_rfl) ?_ | (refine Br.mk (fun h => ?_) (fun h => ?_) <;> (first | (exfalso; exact Bool.false_ne_true h) | (exfalso; exact Bool.false_ne_true h.symm) | skip)) | refine SeqN.go ?_)); all_goals (conv => whnf)
  all_goals (clear B1 B2; grind [retV, cmay])
def cdo (op : Int) (a b : VV) : VV := if veq a vbot = true ∨ veq b vbot = true then vbot else if op < 0 ∨ op > 7 then vtop else ctold (cmay op a b).1 (cmay op a b).2
theorem cDo_d (op : Int) (x y : VV) (h : InV x) (k : InV y) : Den Tryd.prog 47 #[.int .i64 op, VVal x, VVal y] noFacts (VVal (cdo op (vmake x) (vmake y))) := by
  refine den_of_body (args := [.int .i64 op, VVal x, VVal y]) hmix Tryd.func47 ?_
  have hm := vmake_rv h
  have km := vmake_rv k
  have B1 := bottom_r hm
  have B2 := bottom_r km
  have M := cMay_d op _ _ hm km
  (repeat' ((conv => whnf); first | refine CallN.any _ (cReduced_d x h) ?_ | refine CallN.any _ (cReduced_d y k) ?_ | refine CallN.any _ vBottom_d ?_ | refine CallN.any _ vTop_d ?_ | refine CallN.any _ B1 ?_ | refine CallN.any _ B2 ?_ | refine CallN.any _ M ?_ | refine CallN.any _ (cTold_d _ _) ?_ | refine AdN.mk _ _ rfl ?_ | refine DrawN.a (Ob.mk (by decide +kernel) ?_) | refine DrawN.c (Ob.mk (by decide +kernel) ?_) | refine DrawN.b (Ob.mk (by decide +kernel) ?_) | refine Ob.mk (by kernel_rfl) ?_ | (refine Br.mk (fun h => ?_) (fun h => ?_) <;> (first | (exfalso; exact Bool.false_ne_true h) | (exfalso; exact Bool.false_ne_true h.symm) | skip)) | refine SeqN.go ?_)); all_goals (conv => whnf)
  all_goals (clear B1 B2 M; grind [retV, cdo])
def cwithout (v : VV) (n : Int) : VV :=
  if veq v vbot = true then vbot
  else if v.lo = v.hi ∧ v.lo = n then vbot
  else if v.lo = n ∧ v.lo ≠ v.hi then vmk (iof (IntKind.i64.wrap (n + 1)) v.hi) (v.m, v.r)
  else if v.hi = n ∧ v.lo ≠ v.hi then vmk (iof v.lo (IntKind.i64.wrap (n - 1))) (v.m, v.r)
  else v
theorem cWithout_d (x : VV) (n : Int) (h : InV x) : Den Tryd.prog 59 #[VVal x, .int .i64 n] noFacts (VVal (cwithout (vmake x) n)) := by
  refine den_of_body (args := [VVal x, .int .i64 n]) hmix Tryd.func59 ?_
  have hm := vmake_rv h
  have B1 := bottom_r hm
  have S1 := single_r hm
  have i1 := iof_in (wrap_is (n + 1)) hm.inn.hi
  have i2 := iof_in hm.inn.lo (wrap_is (n - 1))
  have M1 := vMake_d ⟨_, _, _, _⟩ (show InV ⟨(iof (IntKind.i64.wrap (n + 1)) (vmake x).hi).1, (iof (IntKind.i64.wrap (n + 1)) (vmake x).hi).2, (vmake x).m, (vmake x).r⟩ from ⟨i1.1, i1.2, hm.inn.m, hm.inn.r⟩)
  have M2 := vMake_d ⟨_, _, _, _⟩ (show InV ⟨(iof (vmake x).lo (IntKind.i64.wrap (n - 1))).1, (iof (vmake x).lo (IntKind.i64.wrap (n - 1))).2, (vmake x).m, (vmake x).r⟩ from ⟨i2.1, i2.2, hm.inn.m, hm.inn.r⟩)
  (repeat' ((conv => whnf); first | refine CallN.any _ (cReduced_d x h) ?_ | refine CallN.any _ vBottom_d ?_ | refine CallN.any _ B1 ?_ | refine CallN.any _ S1 ?_ | refine CallN.any _ (iOf_d _ _) ?_ | refine CallN.any _ M1 ?_ | refine CallN.any _ M2 ?_ | refine AdN.mk _ _ rfl ?_ | refine DrawN.a (Ob.mk (by decide +kernel) ?_) | refine DrawN.c (Ob.mk (by decide +kernel) ?_) | refine DrawN.b (Ob.mk (by decide +kernel) ?_) | refine Ob.mk (by kernel_rfl) ?_ | (refine Br.mk (fun h => ?_) (fun h => ?_) <;> (first | (exfalso; exact Bool.false_ne_true h) | (exfalso; exact Bool.false_ne_true h.symm) | skip)) | refine SeqN.go ?_)); all_goals (conv => whnf)
  all_goals (clear B1 S1 M1 M2; grind [retV, cwithout, vmk])
theorem cwithout_rv {v : VV} {n : Int} (h : RV v) : RV (cwithout v n) := by
  have i1 := iof_in (wrap_is (n + 1)) h.inn.hi
  have i2 := iof_in h.inn.lo (wrap_is (n - 1))
  unfold cwithout
  repeat' split
  · exact rv_bot
  · exact rv_bot
  · exact vmake_rv ⟨i1.1, i1.2, h.inn.m, h.inn.r⟩
  · exact vmake_rv ⟨i2.1, i2.2, h.inn.m, h.inn.r⟩
  · exact h
theorem without_r {x : VV} (n : Int) (h : RV x) : Den Tryd.prog 59 #[VVal x, .int .i64 n] noFacts (VVal (cwithout x n)) := by
  have := cWithout_d x n h.inn
  rwa [h.fix] at this
def conly (v : VV) (t : Bool) : VV := if t then cwithout v 0 else vmeet v (vone 0)
theorem cOnly_d (x : VV) (t : Bool) (h : InV x) : Den Tryd.prog 58 #[VVal x, .bool t] noFacts (VVal (conly (vmake x) t)) := by
  refine den_of_body (args := [VVal x, .bool t]) hmix Tryd.func58 ?_
  have hm := vmake_rv h
  have W := cWithout_d x 0 h
  have M := vMeet2_d x ⟨0, 0, 0, 0⟩ h ⟨⟨by decide, by decide⟩, ⟨by decide, by decide⟩, ⟨by decide, by decide⟩, ⟨by decide, by decide⟩⟩
  have e : vmeets [x, ⟨0, 0, 0, 0⟩] = vmeet (vmake x) (vone 0) := by
    have e1 : vmeets [x, ⟨0, 0, 0, 0⟩] = vmeet (vmeet vtop (vmake x)) (vmake ⟨0, 0, 0, 0⟩) := rfl
    rw [e1, show vmake ⟨0, 0, 0, 0⟩ = vone 0 by decide +kernel, vmeet_top hm]
  rw [e] at M
  (repeat' ((conv => whnf); first | refine CallN.any _ W ?_ | refine CallN.any _ (vOne_d _) ?_ | refine CallA.any _ M ?_ | refine AdN.mk _ _ rfl ?_ | refine DrawN.a (Ob.mk (by decide +kernel) ?_) | refine DrawN.c (Ob.mk (by decide +kernel) ?_) | refine DrawN.b (Ob.mk (by decide +kernel) ?_) | refine Ob.mk (by kernel_rfl) ?_ | (refine Br.mk (fun h => ?_) (fun h => ?_) <;> (first | (exfalso; exact Bool.false_ne_true h) | (exfalso; exact Bool.false_ne_true h.symm) | skip)) | refine SeqN.go ?_)); all_goals (conv => whnf)
  all_goals (clear M W; cases t <;> first | rfl | (exfalso; simp_all; done))
/-! Contracts of package cond, over values that are reduced: what is left behind an operator. -/
def cupto (v : VV) (n : Int) (o : Bool) : VV := if o = true ∧ n ≤ v.hi then vmk (iof v.lo (IntKind.i64.wrap (n - 1))) (v.m, v.r) else vmk (iof v.lo (if n < v.hi then n else v.hi)) (v.m, v.r)
def cfrom (v : VV) (n : Int) (o : Bool) : VV := if o = true ∧ n ≥ v.lo then vmk (iof (IntKind.i64.wrap (n + 1)) v.hi) (v.m, v.r) else vmk (iof (if v.lo < n then n else v.lo) v.hi) (v.m, v.r)
theorem vMk_d {v : VV} (ha : RV v) {a b : Int} (h1 : IS a) (h2 : IS b) : Den Tryd.prog 12 #[.agg #[.int .i64 (iof a b).1, .int .i64 (iof a b).2], .agg #[.int .u64 v.m, .int .u64 v.r]] noFacts (VVal (vmk (iof a b) (v.m, v.r))) :=
  vMake_d ⟨_, _, _, _⟩ (show InV ⟨(iof a b).1, (iof a b).2, v.m, v.r⟩ from ⟨(iof_in h1 h2).1, (iof_in h1 h2).2, ha.inn.m, ha.inn.r⟩)
theorem vmk_rv {v : VV} (ha : RV v) {a b : Int} (h1 : IS a) (h2 : IS b) : RV (vmk (iof a b) (v.m, v.r)) :=
  vmake_rv (x := ⟨(iof a b).1, (iof a b).2, v.m, v.r⟩) ⟨(iof_in h1 h2).1, (iof_in h1 h2).2, ha.inn.m, ha.inn.r⟩
theorem ite_is {p : Prop} [Decidable p] {a b : Int} (h : IS a) (k : IS b) : IS (if p then a else b) := by split <;> assumption
theorem cUpTo_d (v : VV) (n : Int) (o : Bool) (ha : RV v) (hn : IS n) : Den Tryd.prog 150 #[VVal v, .int .i64 n, .bool o] noFacts (VVal (cupto v n o)) := by
  refine den_of_body (args := [VVal v, .int .i64 n, .bool o]) hmix Tryd.func150 ?_
  (repeat' ((conv => whnf); first | refine CallN.any _ (iOf_d _ _) ?_ | refine CallN.any _ (vMk_d ha ha.inn.lo (wrap_is (n - 1))) ?_ | refine CallN.any _ (vMk_d ha ha.inn.lo (ite_is hn ha.inn.hi)) ?_ | refine AdN.mk _ _ rfl ?_ | refine DrawN.a (Ob.mk (by decide +kernel) ?_) | refine DrawN.c (Ob.mk (by decide +kernel) ?_) | refine DrawN.b (Ob.mk (by decide +kernel) ?_) | refine Ob.mk (by kernel_rfl) ?_ | (refine Br.mk (fun h => ?_) (fun h => ?_) <;> (first | (exfalso; exact Bool.false_ne_true h) | (exfalso; exact Bool.false_ne_true h.symm) | skip)) | refine SeqN.go ?_)); all_goals (conv => whnf)
  all_goals grind [retV, cupto]
theorem cFrom_d (v : VV) (n : Int) (o : Bool) (ha : RV v) (hn : IS n) : Den Tryd.prog 151 #[VVal v, .int .i64 n, .bool o] noFacts (VVal (cfrom v n o)) := by
  refine den_of_body (args := [VVal v, .int .i64 n, .bool o]) hmix Tryd.func151 ?_
  (repeat' ((conv => whnf); first | refine CallN.any _ (iOf_d _ _) ?_ | refine CallN.any _ (vMk_d ha (wrap_is (n + 1)) ha.inn.hi) ?_ | refine CallN.any _ (vMk_d ha (ite_is hn ha.inn.lo) ha.inn.hi) ?_ | refine AdN.mk _ _ rfl ?_ | refine DrawN.a (Ob.mk (by decide +kernel) ?_) | refine DrawN.c (Ob.mk (by decide +kernel) ?_) | refine DrawN.b (Ob.mk (by decide +kernel) ?_) | refine Ob.mk (by kernel_rfl) ?_ | (refine Br.mk (fun h => ?_) (fun h => ?_) <;> (first | (exfalso; exact Bool.false_ne_true h) | (exfalso; exact Bool.false_ne_true h.symm) | skip)) | refine SeqN.go ?_)); all_goals (conv => whnf)
  all_goals grind [retV, cfrom]
theorem cupto_rv {v : VV} {n : Int} {o : Bool} (h : RV v) (hn : IS n) : RV (cupto v n o) := by
  unfold cupto
  split
  · exact vmk_rv h h.inn.lo (wrap_is _)
  · exact vmk_rv h h.inn.lo (ite_is hn h.inn.hi)
theorem cfrom_rv {v : VV} {n : Int} {o : Bool} (h : RV v) (hn : IS n) : RV (cfrom v n o) := by
  unfold cfrom
  split
  · exact vmk_rv h (wrap_is _) h.inn.hi
  · exact vmk_rv h (ite_is hn h.inn.lo) h.inn.hi
def cleft (op : Int) (a b : VV) : VV × VV :=
  if op = 4 then (cupto a b.hi true, cfrom b a.lo true)
  else if op = 5 then (cupto a b.hi false, cfrom b a.lo false)
  else if op = 6 then (cfrom a b.lo true, cupto b a.hi true)
  else if op = 7 then (cfrom a b.lo false, cupto b a.hi false)
  else if op = 2 then (ceq1 a b, ceq2 a b)
  else if op = 3 then (if b.lo = b.hi then cwithout a b.lo else a, if a.lo = a.hi then cwithout b a.lo else b)
  else if op = 1 then (cwithout a 0, cwithout b 0)
  else (a, b)
theorem only_r {x : VV} (t : Bool) (h : RV x) : Den Tryd.prog 58 #[VVal x, .bool t] noFacts (VVal (conly x t)) := by
  have := cOnly_d x t h.inn
  rwa [h.fix] at this
theorem only_t {x : VV} (h : RV x) : Den Tryd.prog 58 #[VVal x, .bool true] noFacts (VVal (cwithout x 0)) := only_r true h
set_option maxHeartbeats 2000000 in
theorem cLeft_d (op : Int) (a b : VV) (ha : RV a) (hb : RV b) : Den Tryd.prog 110 #[.int .i64 op, VVal a, VVal b] noFacts (.tuple #[VVal (cleft op a b).1, VVal (cleft op a b).2]) := by
  refine den_of_body (args := [.int .i64 op, VVal a, VVal b]) hmix Tryd.func110 ?_
  (repeat' ((conv => whnf); first | refine CallN.any _ (cUpTo_d a b.hi _ ha hb.inn.hi) ?_ | refine CallN.any _ (cFrom_d b a.lo _ hb ha.inn.lo) ?_ | refine CallN.any _ (cFrom_d a b.lo _ ha hb.inn.lo) ?_ | refine CallN.any _ (cUpTo_d b a.hi _ hb ha.inn.hi) ?_ | refine CallN.any _ (cEqual_d a b ha hb) ?_ | refine CallN.any _ (single_r ha) ?_ | refine CallN.any _ (single_r hb) ?_ | refine CallN.any _ (without_r _ ha) ?_ | refine CallN.any _ (without_r _ hb) ?_ | refine CallN.any _ (only_t ha) ?_ | refine CallN.any _ (only_t hb) ?_ | refine AdN.mk _ _ rfl ?_ | refine DrawN.a (Ob.mk (by decide +kernel) ?_) | refine DrawN.c (Ob.mk (by decide +kernel) ?_) | refine DrawN.b (Ob.mk (by decide +kernel) ?_) | refine Ob.mk (by kernel_rfl) ?_ | (refine Br.mk (fun h => ?_) (fun h => ?_) <;> (first | (exfalso; exact Bool.false_ne_true h) | (exfalso; exact Bool.false_ne_true h.symm) | skip)) | refine SeqN.go ?_)); all_goals (conv => whnf)
  all_goals (simp only [beq_iff_eq, beq_eq_false_iff_ne, ne_eq] at *; first | (subst op; simp_all [retV, cleft]; done) | (simp_all [retV, cleft]; done))
theorem vmeet_in' {x y : VV} (h : RV x) (k : RV y) : RV (vmeet x y) := by
  unfold vmeet
  have b1 := imeet_in (a := -9223372036854775808) (b := 9223372036854775807) ⟨by decide, by decide⟩ ⟨by decide, by decide⟩ h.inn.lo h.inn.hi
  have b2 := imeet_in b1.1 b1.2 k.inn.lo k.inn.hi
  split
  · exact rv_bot
  · exact vmake_rv ⟨b2.1, b2.2, (cm_in h.inn k.inn).1, (cm_in h.inn k.inn).2⟩
theorem conly_rv {x : VV} (t : Bool) (h : RV x) : RV (conly x t) := by
  unfold conly
  split
  · exact cwithout_rv h
  · exact vmeet_in' h (rv_one ⟨by decide, by decide⟩)
theorem cleft_rv {op : Int} {a b : VV} (h : RV a) (k : RV b) : RV (cleft op a b).1 ∧ RV (cleft op a b).2 := by
  unfold cleft
  by_cases h3 : op = 3
  · subst h3
    simp only [show ¬ (3 : Int) = 4 by decide, show ¬ (3 : Int) = 5 by decide, show ¬ (3 : Int) = 6 by decide, show ¬ (3 : Int) = 7 by decide, show ¬ (3 : Int) = 2 by decide, if_false, if_true]
    constructor
    · split
      · exact cwithout_rv h
      · exact h
    · split
      · exact cwithout_rv k
      · exact k
  rw [if_neg h3]
  (repeat' split) <;> dsimp only
  all_goals first
    | exact ⟨cupto_rv h k.inn.hi, cfrom_rv k h.inn.lo⟩
    | exact ⟨cfrom_rv h k.inn.lo, cupto_rv k h.inn.hi⟩
    | exact ceq_rv h k
    | exact ⟨cwithout_rv h, cwithout_rv k⟩
    | exact ⟨h, k⟩
    | exact ⟨cwithout_rv h, k⟩
    | exact ⟨h, cwithout_rv k⟩
def cother (op : Int) : Int := if op = 4 then 7 else if op = 5 then 6 else if op = 2 then 3 else if op = 3 then 2 else if op = 6 then 5 else if op = 7 then 4 else 0
def cpart (op : Int) (a b : VV) (t : Bool) : VV × VV :=
  if t then cleft op a b else if 2 ≤ op ∧ op ≤ 7 then cleft (cother op) a b else if op = 0 then (conly a false, conly b false) else (a, b)
def crefine (op : Int) (a b : VV) (t : Bool) : VV × VV :=
  if veq a vbot = true ∨ veq b vbot = true then (vbot, vbot)
  else if (t = true ∧ (cmay op a b).1 = false) ∨ (t = false ∧ (cmay op a b).2 = false) then (vbot, vbot)
  else if veq (cpart op a b t).1 vbot = true ∨ veq (cpart op a b t).2 vbot = true then (vbot, vbot)
  else cpart op a b t
theorem cpart_rv {op : Int} {a b : VV} {t : Bool} (h : RV a) (k : RV b) : RV (cpart op a b t).1 ∧ RV (cpart op a b t).2 := by
  unfold cpart
  repeat' split
  · exact cleft_rv h k
  · exact cleft_rv h k
  · exact ⟨conly_rv false h, conly_rv false k⟩
  · exact ⟨h, k⟩
theorem crefine_rv {op : Int} {a b : VV} {t : Bool} (h : RV a) (k : RV b) : RV (crefine op a b t).1 ∧ RV (crefine op a b t).2 := by
  unfold crefine
  repeat' split
  · exact ⟨rv_bot, rv_bot⟩
  · exact ⟨rv_bot, rv_bot⟩
  · exact ⟨rv_bot, rv_bot⟩
  · exact cpart_rv h k
end Go.Proofs.YtcemohoigdninaaDoor
