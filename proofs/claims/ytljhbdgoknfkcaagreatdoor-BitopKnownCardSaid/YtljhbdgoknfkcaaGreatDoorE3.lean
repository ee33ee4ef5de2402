/- Contracts of package arith: Do, Neg, Wraps. -/
import Derived.Test.YtljhbdgoknfkcaaGreatDoorE1
import Derived.Test.YtljhbdgoknfkcaaGreatDoorG1
import Derived.Test.YtljhbdgoknfkcaaGreatDoorC3
import Derived.Test.YtljhbdgoknfkcaaGreatDoorC6
namespace Go.Proofs.YtljhbdgoknfkcaaGreatDoor
open Go Go.RowKit Go.Sort
set_option linter.unusedVariables false
set_option linter.unusedSimpArgs false
set_option maxRecDepth 100000

def aknown (op : Int) : Prop := op = 13 ∨ op = 14 ∨ op = 15
instance (op : Int) : Decidable (aknown op) := by unfold aknown; exact inferInstance
theorem known_d (op : Int) : Den Tryz.prog 72 #[.int .i64 op] noFacts (.bool (decide (aknown op))) := by
  refine den_of_body (args := [.int .i64 op]) hmix Tryz.func72 ?_
  (repeat' ((conv => whnf); first | refine AdN.mk _ _ rfl ?_ | refine DrawN.a (Ob.mk (by decide +kernel) ?_) | refine DrawN.c (Ob.mk (by decide +kernel) ?_) | refine DrawN.b (Ob.mk (by decide +kernel) ?_) | refine Ob.mk (by kernel_rfl) ?_ | (refine Br.mk (fun h => ?_) (fun h => ?_) <;> (first | (exfalso; exact Bool.false_ne_true h) | (exfalso; exact Bool.false_ne_true h.symm) | skip)) | refine SeqN.go ?_)); all_goals (conv => whnf)
  all_goals grind [retV, aknown]
def acong (op : Int) (a b : VV) : Int × Int := if op = 13 then cadd a.m a.r b.m b.r else if op = 14 then csub a.m a.r b.m b.r else cmul a.m a.r b.m b.r
theorem acong_d (op : Int) (a b : VV) (ha : InV a) (hb : InV b) : Den Tryz.prog 75 #[.int .i64 op, .agg #[.int .u64 a.m, .int .u64 a.r], .agg #[.int .u64 b.m, .int .u64 b.r]] noFacts (.agg #[.int .u64 (acong op a b).1, .int .u64 (acong op a b).2]) := by
  refine den_of_body (args := [.int .i64 op, .agg #[.int .u64 a.m, .int .u64 a.r], .agg #[.int .u64 b.m, .int .u64 b.r]]) hmix Tryz.func75 ?_
  have A := den_of (F := noFacts) fun W => add_c a.m a.r b.m b.r W ha.m.1 ha.m.2 ha.r.1 ha.r.2 hb.m.1 hb.m.2 hb.r.1 hb.r.2
  have S := den_of (F := noFacts) fun W => sub_c a.m a.r b.m b.r W ha.m.1 ha.m.2 ha.r.1 ha.r.2 hb.m.1 hb.m.2 hb.r.1 hb.r.2
  have M := den_of (F := noFacts) fun W => mul_c a.m a.r b.m b.r W ha.m.1 ha.m.2 ha.r.1 ha.r.2 hb.m.1 hb.m.2 hb.r.1 hb.r.2
  (repeat' ((conv => whnf); first | refine CallN.any _ A ?_ | refine CallN.any _ S ?_ | refine CallN.any _ M ?_ | refine AdN.mk _ _ rfl ?_ | refine DrawN.a (Ob.mk (by decide +kernel) ?_) | refine DrawN.c (Ob.mk (by decide +kernel) ?_) | refine DrawN.b (Ob.mk (by decide +kernel) ?_) | refine Ob.mk (by kernel_rfl) ?_ | (refine Br.mk (fun h => ?_) (fun h => ?_) <;> (first | (exfalso; exact Bool.false_ne_true h) | (exfalso; exact Bool.false_ne_true h.symm) | skip)) | refine SeqN.go ?_)); all_goals (conv => whnf)
  all_goals (clear A S M; grind [retV, acong])
theorem acong_in {op : Int} {a b : VV} (ha : InV a) (hb : InV b) : IU (acong op a b).1 ∧ IU (acong op a b).2 := by
  unfold acong
  split
  · exact cadd_in ha.m.1 ha.m.2 ha.r.1 ha.r.2 hb.m.1 hb.m.2 hb.r.1 hb.r.2
  · split
    · exact csub_in ha.m.1 ha.m.2 ha.r.1 ha.r.2 hb.m.1 hb.m.2 hb.r.1 hb.r.2
    · exact cmul_in ha.m.1 ha.m.2 ha.r.1 ha.r.2 hb.m.1 hb.m.2 hb.r.1 hb.r.2
/-- The round of an exact result. -/
def arnd (z : Int) : Int := (z + 9223372036854775808) / 18446744073709551616 % 18446744073709551616
/-- An exact result, wrapped. -/
def alow (z : Int) : Int := IntKind.i64.wrap (z % 18446744073709551616)
def ado (op : Int) (a b : VV) : VV :=
  if veq a vbot = true ∨ veq b vbot = true then vbot
  else if ¬ aknown op then vtop
  else if a.lo = a.hi ∧ b.lo = b.hi then vone (alow (wex op a.lo b.lo))
  else if arnd (spanL op a b) ≠ arnd (spanG op a b) then vmk (-9223372036854775808, 9223372036854775807) (cwrapped (acong op a b).1 (acong op a b).2)
  else vmk (iof (alow (spanL op a b)) (alow (spanG op a b))) (if arnd (spanL op a b) ≠ 0 then cwrapped (acong op a b).1 (acong op a b).2 else acong op a b)
theorem span_in {op : Int} {a b : VV} (ha : InV a) (hb : InV b) : IW (spanL op a b) ∧ IW (spanG op a b) := by
  have i1 := wex_in (op := op) ha.lo hb.lo
  have i2 := wex_in (op := op) ha.lo hb.hi
  have i3 := wex_in (op := op) ha.hi hb.lo
  have i4 := wex_in (op := op) ha.hi hb.hi
  have mn : ∀ {x y : Int}, IW x → IW y → IW (wmin x y) := fun h k => by unfold wmin; split <;> assumption
  have mx : ∀ {x y : Int}, IW x → IW y → IW (wmax x y) := fun h k => by unfold wmax; split <;> assumption
  exact ⟨mn i4 (mn i3 (mn i2 i1)), mx i4 (mx i3 (mx i2 i1))⟩
theorem cwr_in {m r : Int} (hm : IU m) (hr : IU r) : IU (cwrapped m r).1 ∧ IU (cwrapped m r).2 := cwrapped_in hm.1 hm.2 hr.1 hr.2
theorem alow_is (z : Int) : IS (alow z) := wrap_is _
set_option maxHeartbeats 4000000 in
theorem aDo_d (op : Int) (x y : VV) (hx : InV x) (hy : InV y) : Den Tryz.prog 19 #[.int .i64 op, VVal x, VVal y] noFacts (VVal (ado op (vmake x) (vmake y))) := by
  refine den_of_body (args := [.int .i64 op, VVal x, VVal y]) hmix Tryz.func19 ?_
  have Mx := vMake_d x hx
  have My := vMake_d y hy
  have ha := vmake_rv hx
  have hb := vmake_rv hy
  generalize vmake x = a at *
  generalize vmake y = b at *
  have Bx := bottom_r ha
  have By := bottom_r hb
  have K := known_d op
  by_cases ho : aknown op
  · have S1 := single_r ha
    have S2 := single_r hb
    have z : IS 0 := ⟨by decide, by decide⟩
    have si1 : IS (if a.lo = a.hi then a.lo else 0) := by split <;> first | exact ha.inn.lo | exact z
    have si2 : IS (if b.lo = b.hi then b.lo else 0) := by split <;> first | exact hb.inn.lo | exact z
    have X := exact_d op _ _ ho si1 si2
    have SP := span_d op a b ho ha.inn hb.inn
    have si := span_in (op := op) ha.inn hb.inn
    have C := acong_d op a b ha.inn hb.inn
    have ci := acong_in (op := op) ha.inn hb.inn
    have wi := cwr_in ci.1 ci.2
    have W := den_of (F := noFacts) fun w => wrapped_c (acong op a b).1 (acong op a b).2 w ci.1.1 ci.1.2 ci.2.1 ci.2.2
    have R1 := round_d _ si.1
    have R2 := round_d _ si.2
    have ii := iof_in (alow_is (spanL op a b)) (alow_is (spanG op a b))
    have M1 := vMake_d ⟨-9223372036854775808, 9223372036854775807, _, _⟩ (show InV ⟨-9223372036854775808, 9223372036854775807, (cwrapped (acong op a b).1 (acong op a b).2).1, (cwrapped (acong op a b).1 (acong op a b).2).2⟩ from ⟨by constructor <;> dsimp only <;> decide, by constructor <;> dsimp only <;> decide, wi.1, wi.2⟩)
    have M2 := vMake_d ⟨_, _, _, _⟩ (show InV ⟨(iof (alow (spanL op a b)) (alow (spanG op a b))).1, (iof (alow (spanL op a b)) (alow (spanG op a b))).2, (cwrapped (acong op a b).1 (acong op a b).2).1, (cwrapped (acong op a b).1 (acong op a b).2).2⟩ from ⟨ii.1, ii.2, wi.1, wi.2⟩)
    have M3 := vMake_d ⟨_, _, _, _⟩ (show InV ⟨(iof (alow (spanL op a b)) (alow (spanG op a b))).1, (iof (alow (spanL op a b)) (alow (spanG op a b))).2, (acong op a b).1, (acong op a b).2⟩ from ⟨ii.1, ii.2, ci.1, ci.2⟩)
    (repeat' ((conv => whnf); first | refine CallN.any _ Mx ?_ | refine CallN.any _ My ?_ | refine CallN.any _ Bx ?_ | refine CallN.any _ By ?_ | refine CallN.any _ K ?_ | refine CallN.any _ S1 ?_ | refine CallN.any _ S2 ?_ | refine CallN.any _ X ?_ | refine CallN.any _ vTop_d ?_ | refine CallN.any _ vBottom_d ?_ | refine CallN.any _ SP ?_ | refine CallN.any _ C ?_ | refine CallN.any _ W ?_ | refine CallN.any _ R1 ?_ | refine CallN.any _ R2 ?_ | refine CallN.any _ M1 ?_ | refine CallN.any _ M2 ?_ | refine CallN.any _ M3 ?_ | refine CallN.any _ (vOne_d _) ?_ | refine CallN.any _ iWhole_d ?_ | refine CallN.any _ (iOf_d _ _) ?_ | refine Ob.mk (by decide) ?_ | refine AdN.mk _ _ rfl ?_ | refine DrawN.a (Ob.mk (by decide +kernel) ?_) | refine DrawN.c (Ob.mk (by decide +kernel) ?_) | refine DrawN.b (Ob.mk (by decide +kernel) ?_) | refine Ob.mk (by kernel_rfl) ?_ | (refine Br.mk (fun h => ?_) (fun h => ?_) <;> (first | (exfalso; exact Bool.false_ne_true h) | (exfalso; exact Bool.false_ne_true h.symm) | skip)) | refine SeqN.go ?_)); all_goals (conv => whnf)
    all_goals (clear Mx My Bx By K S1 S2 X SP C W R1 R2 M1 M2 M3; simp only [ado, arnd, retV]; generalize spanL op a b = sl at *; generalize spanG op a b = sg at *; grind [alow, vmk])
  · (repeat' ((conv => whnf); first | refine CallN.any _ Mx ?_ | refine CallN.any _ My ?_ | refine CallN.any _ Bx ?_ | refine CallN.any _ By ?_ | refine CallN.any _ K ?_ | refine CallN.any _ vTop_d ?_ | refine CallN.any _ vBottom_d ?_ | refine AdN.mk _ _ rfl ?_ | refine DrawN.a (Ob.mk (by decide +kernel) ?_) | refine DrawN.c (Ob.mk (by decide +kernel) ?_) | refine DrawN.b (Ob.mk (by decide +kernel) ?_) | refine Ob.mk (by kernel_rfl) ?_ | (refine Br.mk (fun h => ?_) (fun h => ?_) <;> (first | (exfalso; exact Bool.false_ne_true h) | (exfalso; exact Bool.false_ne_true h.symm) | (exfalso; exact ho (of_decide_eq_true ‹_›)) | skip)) | refine SeqN.go ?_)); all_goals (conv => whnf)
    all_goals (clear Mx My Bx By K; simp only [ado, retV]; grind)
theorem aNeg_d (x : VV) (hx : InV x) : Den Tryz.prog 20 #[VVal x] noFacts (VVal (ado 14 (vone 0) (vmake x))) := by
  refine den_of_body (args := [VVal x]) hmix Tryz.func20 ?_
  have z := rv_one (n := 0) ⟨by decide, by decide⟩
  have D := aDo_d 14 (vone 0) x z.inn hx
  rw [z.fix] at D
  (repeat' ((conv => whnf); first | refine CallN.any _ (vOne_d _) ?_ | refine CallN.any _ D ?_ | refine AdN.mk _ _ rfl ?_ | refine DrawN.a (Ob.mk (by decide +kernel) ?_) | refine DrawN.c (Ob.mk (by decide +kernel) ?_) | refine DrawN.b (Ob.mk (by decide +kernel) ?_) | refine Ob.mk (by kernel_rfl) ?_ | (refine Br.mk (fun h => ?_) (fun h => ?_) <;> (first | (exfalso; exact Bool.false_ne_true h) | (exfalso; exact Bool.false_ne_true h.symm) | skip)) | refine SeqN.go ?_)); all_goals (conv => whnf)
  all_goals rfl
def awraps (op : Int) (a b : VV) : Bool := decide (aknown op) && !(veq a vbot) && !(veq b vbot) && (!(arnd (spanL op a b) == 0) || !(arnd (spanG op a b) == 0))
set_option maxHeartbeats 4000000 in
theorem aWraps_d (op : Int) (x y : VV) (hx : InV x) (hy : InV y) : Den Tryz.prog 23 #[.int .i64 op, VVal x, VVal y] noFacts (.bool (awraps op (vmake x) (vmake y))) := by
  refine den_of_body (args := [.int .i64 op, VVal x, VVal y]) hmix Tryz.func23 ?_
  have Mx := vMake_d x hx
  have My := vMake_d y hy
  have ha := vmake_rv hx
  have hb := vmake_rv hy
  generalize vmake x = a at *
  generalize vmake y = b at *
  have Bx := bottom_r ha
  have By := bottom_r hb
  have K := known_d op
  by_cases ho : aknown op
  · have SP := span_d op a b ho ha.inn hb.inn
    have si := span_in (op := op) ha.inn hb.inn
    have R1 := round_d _ si.1
    have R2 := round_d _ si.2
    (repeat' ((conv => whnf); first | refine CallN.any _ Mx ?_ | refine CallN.any _ My ?_ | refine CallN.any _ Bx ?_ | refine CallN.any _ By ?_ | refine CallN.any _ K ?_ | refine CallN.any _ SP ?_ | refine CallN.any _ R1 ?_ | refine CallN.any _ R2 ?_ | refine Ob.mk (by decide) ?_ | refine AdN.mk _ _ rfl ?_ | refine DrawN.a (Ob.mk (by decide +kernel) ?_) | refine DrawN.c (Ob.mk (by decide +kernel) ?_) | refine DrawN.b (Ob.mk (by decide +kernel) ?_) | refine Ob.mk (by kernel_rfl) ?_ | (refine Br.mk (fun h => ?_) (fun h => ?_) <;> (first | (exfalso; exact Bool.false_ne_true h) | (exfalso; exact Bool.false_ne_true h.symm) | skip)) | refine SeqN.go ?_)); all_goals (conv => whnf)
    all_goals (clear Mx My Bx By K SP R1 R2; simp only [awraps, arnd, retV]; generalize spanL op a b = sl at *; generalize spanG op a b = sg at *; first | grind | (simp_all; done))
  · (repeat' ((conv => whnf); first | refine CallN.any _ Mx ?_ | refine CallN.any _ My ?_ | refine CallN.any _ Bx ?_ | refine CallN.any _ By ?_ | refine CallN.any _ K ?_ | refine AdN.mk _ _ rfl ?_ | refine DrawN.a (Ob.mk (by decide +kernel) ?_) | refine DrawN.c (Ob.mk (by decide +kernel) ?_) | refine DrawN.b (Ob.mk (by decide +kernel) ?_) | refine Ob.mk (by kernel_rfl) ?_ | (refine Br.mk (fun h => ?_) (fun h => ?_) <;> (first | (exfalso; exact Bool.false_ne_true h) | (exfalso; exact Bool.false_ne_true h.symm) | (exfalso; exact ho (of_decide_eq_true ‹_›)) | skip)) | refine SeqN.go ?_)); all_goals (conv => whnf)
    all_goals (clear Mx My Bx By K; simp only [awraps, retV]; grind)
end Go.Proofs.YtljhbdgoknfkcaaGreatDoor
