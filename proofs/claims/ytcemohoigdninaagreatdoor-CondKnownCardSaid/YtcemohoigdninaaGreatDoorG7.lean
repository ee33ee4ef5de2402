/- Contracts of the reference of conditions: they are the program's, over values that are reduced. -/
import Derived.Test.YtcemohoigdninaaGreatDoorG3
import Derived.Test.YtcemohoigdninaaGreatDoorJ2
namespace Go.Proofs.YtcemohoigdninaaGreatDoor
open Go Go.RowKit Go.Sort
set_option linter.unusedVariables false
set_option linter.unusedSimpArgs false
set_option maxRecDepth 100000

theorem r24Least_d : Den Tryz.prog 156 #[] noFacts (.int .i64 (-9223372036854775808)) := by
  refine den_of_body (args := []) hmix Tryz.func156 ?_
  (repeat' ((conv => whnf); first | refine AdN.mk _ _ rfl ?_ | refine DrawN.a (Ob.mk (by decide +kernel) ?_) | refine DrawN.c (Ob.mk (by decide +kernel) ?_) | refine DrawN.b (Ob.mk (by decide +kernel) ?_) | refine Ob.mk (by kernel_rfl) ?_ | (refine Br.mk (fun h => ?_) (fun h => ?_) <;> (first | (exfalso; exact Bool.false_ne_true h) | (exfalso; exact Bool.false_ne_true h.symm) | skip)) | refine SeqN.go ?_)); all_goals (conv => whnf)
  all_goals rfl
theorem r24Most_d : Den Tryz.prog 155 #[] noFacts (.int .i64 9223372036854775807) := by
  refine den_of_body (args := []) hmix Tryz.func155 ?_
  (repeat' ((conv => whnf); first | refine AdN.mk _ _ rfl ?_ | refine DrawN.a (Ob.mk (by decide +kernel) ?_) | refine DrawN.c (Ob.mk (by decide +kernel) ?_) | refine DrawN.b (Ob.mk (by decide +kernel) ?_) | refine Ob.mk (by kernel_rfl) ?_ | (refine Br.mk (fun h => ?_) (fun h => ?_) <;> (first | (exfalso; exact Bool.false_ne_true h) | (exfalso; exact Bool.false_ne_true h.symm) | skip)) | refine SeqN.go ?_)); all_goals (conv => whnf)
  all_goals rfl
theorem RV.zero {v : VV} (h : RV v) : v.lo = 0 → v.hi = 0 → v.m = 0 ∧ v.r = 0 := fun h1 h2 => by
  rcases h.way with w | ⟨w1, w2, w3⟩ | ⟨w1, _⟩
  · subst w; exact absurd h1 (by decide)
  · rw [h1] at w3; exact ⟨w2, w3.trans (by decide)⟩
  · omega
theorem r24Truth_d (v : VV) (h : RV v) : Den Tryz.prog 20 #[VVal v] noFacts (.tuple #[.bool (tY v), .bool (tN v)]) := by
  refine den_of_body (args := [VVal v]) hmix Tryz.func20 ?_
  have H := rVHas_d v 0 h.red ⟨by decide, by decide⟩
  have O := rOne_d 0 ⟨by decide, by decide⟩
  have z := h.zero
  (repeat' ((conv => whnf); first | refine CallN.any _ rBottom_d ?_ | refine CallN.any _ H ?_ | refine CallN.any _ O ?_ | refine AdN.mk _ _ rfl ?_ | refine DrawN.a (Ob.mk (by decide +kernel) ?_) | refine DrawN.c (Ob.mk (by decide +kernel) ?_) | refine DrawN.b (Ob.mk (by decide +kernel) ?_) | refine Ob.mk (by kernel_rfl) ?_ | (refine Br.mk (fun h => ?_) (fun h => ?_) <;> (first | (exfalso; exact Bool.false_ne_true h) | (exfalso; exact Bool.false_ne_true h.symm) | skip)) | refine SeqN.go ?_)); all_goals (conv => whnf)
  all_goals (clear H O; grind [retV, tY, tN, veq, vbot, vone, show us 0 = 0 by decide])
theorem r24told_d (y n : Bool) : Den Tryz.prog 84 #[.bool y, .bool n] noFacts (VVal (ctold y n)) := by
  refine den_of_body (args := [.bool y, .bool n]) hmix Tryz.func84 ?_
  have O1 := rOne_d 1 ⟨by decide, by decide⟩
  have O0 := rOne_d 0 ⟨by decide, by decide⟩
  have M := rMake_d ⟨0, 1, 1, 0⟩ ⟨⟨by decide, by decide⟩, ⟨by decide, by decide⟩, ⟨by decide, by decide⟩, ⟨by decide, by decide⟩⟩
  rw [show vmake ⟨0, 1, 1, 0⟩ = ⟨0, 1, 1, 0⟩ by decide +kernel] at M
  (repeat' ((conv => whnf); first | refine CallN.any _ rTop_d ?_ | refine CallN.any _ rBottom_d ?_ | refine CallN.any _ O1 ?_ | refine CallN.any _ O0 ?_ | refine CallN.any _ M ?_ | refine AdN.mk _ _ rfl ?_ | refine DrawN.a (Ob.mk (by decide +kernel) ?_) | refine DrawN.c (Ob.mk (by decide +kernel) ?_) | refine DrawN.b (Ob.mk (by decide +kernel) ?_) | refine Ob.mk (by kernel_rfl) ?_ | (refine Br.mk (fun h => ?_) (fun h => ?_) <;> (first | (exfalso; exact Bool.false_ne_true h) | (exfalso; exact Bool.false_ne_true h.symm) | skip)) | refine SeqN.go ?_)); all_goals (conv => whnf)
  all_goals (clear O1 O0 M; cases y <;> cases n <;> first | rfl | (exfalso; grind))
/-- A value in an interval, of another one's congruence, if that is a part of its own. -/
def rin (v : VV) (i : Int × Int) (m r : Int) : VV := vmk i (if cwithin m r v.m v.r then (m, r) else (v.m, v.r))
theorem r24within_d (v : VV) (a b m r : Int) (h : RV v) (ha : IS a) (hb : IS b) (hm : IU m) (hr : IU r) : Den Tryz.prog 205 #[VVal v, .agg #[.int .i64 a, .int .i64 b], .agg #[.int .u64 m, .int .u64 r]] noFacts (VVal (rin v (a, b) m r)) := by
  refine den_of_body (args := [VVal v, .agg #[.int .i64 a, .int .i64 b], .agg #[.int .u64 m, .int .u64 r]]) hmix Tryz.func205 ?_
  have W := den_of (F := noFacts) fun w => rwithin_c m r v.m v.r w hm.1 hm.2 hr.1 hr.2 h.inn.m.1 h.inn.m.2
  have M1 := rMake_d ⟨a, b, m, r⟩ ⟨ha, hb, hm, hr⟩
  have M2 := rMake_d ⟨a, b, v.m, v.r⟩ ⟨ha, hb, h.inn.m, h.inn.r⟩
  (repeat' ((conv => whnf); first | refine CallN.any _ W ?_ | refine CallN.any _ M1 ?_ | refine CallN.any _ M2 ?_ | refine AdN.mk _ _ rfl ?_ | refine DrawN.a (Ob.mk (by decide +kernel) ?_) | refine DrawN.c (Ob.mk (by decide +kernel) ?_) | refine DrawN.b (Ob.mk (by decide +kernel) ?_) | refine Ob.mk (by kernel_rfl) ?_ | (refine Br.mk (fun h => ?_) (fun h => ?_) <;> (first | (exfalso; exact Bool.false_ne_true h) | (exfalso; exact Bool.false_ne_true h.symm) | skip)) | refine SeqN.go ?_)); all_goals (conv => whnf)
  all_goals (clear W M1 M2; grind [retV, rin, vmk])
theorem r24alike_d (a b : VV) (ha : RV a) (hb : RV b) : Den Tryz.prog 149 #[VVal a, VVal b] noFacts (.tuple #[VVal (ceq1 a b), VVal (ceq2 a b)]) := by
  refine den_of_body (args := [VVal a, VVal b]) hmix Tryz.func149 ?_
  have C := rCMeet_d ha.red hb.red
  have b2 := imeet_in ha.inn.lo ha.inn.hi hb.inn.lo hb.inn.hi
  have W1 := r24within_d a (imeet a.lo a.hi b.lo b.hi).1 (imeet a.lo a.hi b.lo b.hi).2 b.m b.r ha b2.1 b2.2 hb.inn.m hb.inn.r
  have W2 := r24within_d b (imeet a.lo a.hi b.lo b.hi).1 (imeet a.lo a.hi b.lo b.hi).2 a.m a.r hb b2.1 b2.2 ha.inn.m ha.inn.r
  (repeat' ((conv => whnf); first | refine CallN.any _ C ?_ | refine CallN.any _ rBottom_d ?_ | refine CallN.any _ (rIMeet_d _ _ _ _) ?_ | refine CallN.any _ W1 ?_ | refine CallN.any _ W2 ?_ | refine AdN.mk _ _ rfl ?_ | refine DrawN.a (Ob.mk (by decide +kernel) ?_) | refine DrawN.c (Ob.mk (by decide +kernel) ?_) | refine DrawN.b (Ob.mk (by decide +kernel) ?_) | refine Ob.mk (by kernel_rfl) ?_ | (refine Br.mk (fun h => ?_) (fun h => ?_) <;> (first | (exfalso; exact Bool.false_ne_true h) | (exfalso; exact Bool.false_ne_true h.symm) | skip)) | refine SeqN.go ?_)); all_goals (conv => whnf)
  all_goals (clear C W1 W2; grind [retV, ceq1, ceq2, rin])
theorem RV.alone {v : VV} (h : RV v) : v.lo = v.hi → v.m = 0 ∧ v.r = us v.lo := fun h1 => by
  rcases h.way with w | ⟨w1, w2, w3⟩ | ⟨w1, _⟩
  · subst w; exact absurd h1 (by decide)
  · exact ⟨w2, w3⟩
  · omega
theorem r24tells2_d (a b : VV) (ha : RV a) (hb : RV b) : Den Tryz.prog 80 #[.int .i64 2, VVal a, VVal b] noFacts (.tuple #[.bool (cmay 2 a b).1, .bool (cmay 2 a b).2]) := by
  refine den_of_body (args := [.int .i64 2, VVal a, VVal b]) hmix Tryz.func80 ?_
  have ka := ha.alone
  have kb := hb.alone
  have T1 := r24Truth_d a ha
  have T2 := r24Truth_d b hb
  have A := r24alike_d a b ha hb
  have e : cmay 2 a b = (!(veq (ceq1 a b) vbot) && !(veq (ceq2 a b) vbot), !(calike a b)) := rfl
  rw [e]
  clear e
  generalize ceq1 a b = p at *
  generalize ceq2 a b = q at *
  have key : calike a b = (veq a b && a.lo == a.hi) := by
    rw [Bool.eq_iff_iff]
    unfold calike veq
    simp only [Bool.and_eq_true, beq_iff_eq]
    constructor
    · rintro ⟨⟨h1, h2⟩, h3⟩
      have := ka h1; have := kb h2
      refine ⟨?_, h1⟩
      rw [this.1, this.2, (ka h1).1, (ka h1).2]
      simp only [h3, true_and, and_true]
      omega
    · rintro ⟨h1, h2⟩
      grind
  rw [key]
  clear key ka kb
  (repeat' ((conv => whnf); first | refine CallN.any _ T1 ?_ | refine CallN.any _ T2 ?_ | refine CallN.any _ A ?_ | refine CallN.any _ rBottom_d ?_ | refine AdN.mk _ _ rfl ?_ | refine DrawN.a (Ob.mk (by decide +kernel) ?_) | refine DrawN.c (Ob.mk (by decide +kernel) ?_) | refine DrawN.b (Ob.mk (by decide +kernel) ?_) | refine Ob.mk (by kernel_rfl) ?_ | (refine Br.mk (fun h => ?_) (fun h => ?_) <;> (first | (exfalso; exact Bool.false_ne_true h) | (exfalso; exact Bool.false_ne_true h.symm) | skip)) | refine SeqN.go ?_)); all_goals (conv => whnf)
  all_goals (clear T1 T2 A; grind [retV, veq, vbot])
theorem r24tellsA_d (op : Int) (a b : VV) (ha : RV a) (hb : RV b) (ho : op = 0 ∨ op = 1 ∨ op = 4 ∨ op = 5) : Den Tryz.prog 80 #[.int .i64 op, VVal a, VVal b] noFacts (.tuple #[.bool (cmay op a b).1, .bool (cmay op a b).2]) := by
  have T1 := r24Truth_d a ha
  have T2 := r24Truth_d b hb
  rcases ho with rfl | rfl | rfl | rfl
  all_goals
    refine den_of_body (args := [.int .i64 _, VVal a, VVal b]) hmix Tryz.func80 ?_
    (repeat' ((conv => whnf); first | refine CallN.any _ T1 ?_ | refine CallN.any _ T2 ?_ | refine AdN.mk _ _ rfl ?_ | refine DrawN.a (Ob.mk (by decide +kernel) ?_) | refine DrawN.c (Ob.mk (by decide +kernel) ?_) | refine DrawN.b (Ob.mk (by decide +kernel) ?_) | refine Ob.mk (by kernel_rfl) ?_ | (refine Br.mk (fun h => ?_) (fun h => ?_) <;> (first | (exfalso; exact Bool.false_ne_true h) | (exfalso; exact Bool.false_ne_true h.symm) | skip)) | refine SeqN.go ?_)); all_goals (conv => whnf)
    all_goals (clear T1 T2; first | (grind [retV, cmay]; done) | (exfalso; simp at *; done))
theorem r24tellsB_d (op : Int) (a b : VV) (ha : RV a) (hb : RV b) (ho : op = 3 ∨ op = 6 ∨ op = 7) : Den Tryz.prog 80 #[.int .i64 op, VVal a, VVal b] noFacts (.tuple #[.bool (cmay op a b).1, .bool (cmay op a b).2]) := by
  have T1 := r24Truth_d a ha
  have T2 := r24Truth_d b hb
  have E2 := r24tells2_d a b ha hb
  have E4 := r24tellsA_d 4 b a hb ha (by decide)
  have E5 := r24tellsA_d 5 b a hb ha (by decide)
  rcases ho with rfl | rfl | rfl
  all_goals
    refine den_of_body (args := [.int .i64 _, VVal a, VVal b]) hmix Tryz.func80 ?_
    (repeat' ((conv => whnf); first | refine CallN.any _ T1 ?_ | refine CallN.any _ T2 ?_ | refine CallN.any _ E2 ?_ | refine CallN.any _ E4 ?_ | refine CallN.any _ E5 ?_ | refine AdN.mk _ _ rfl ?_ | refine DrawN.a (Ob.mk (by decide +kernel) ?_) | refine DrawN.c (Ob.mk (by decide +kernel) ?_) | refine DrawN.b (Ob.mk (by decide +kernel) ?_) | refine Ob.mk (by kernel_rfl) ?_ | (refine Br.mk (fun h => ?_) (fun h => ?_) <;> (first | (exfalso; exact Bool.false_ne_true h) | (exfalso; exact Bool.false_ne_true h.symm) | skip)) | refine SeqN.go ?_)); all_goals (conv => whnf)
    all_goals (clear T1 T2 E2 E4 E5; first | rfl | (grind [retV, cmay]; done) | (exfalso; simp at *; done))
theorem r24tells_d (op : Int) (a b : VV) (ha : RV a) (hb : RV b) (h1 : 0 ≤ op) (h2 : op ≤ 7) : Den Tryz.prog 80 #[.int .i64 op, VVal a, VVal b] noFacts (.tuple #[.bool (cmay op a b).1, .bool (cmay op a b).2]) := by
  rcases op_cases h1 h2 with rfl | rfl | rfl | rfl | rfl | rfl | rfl | rfl
  · exact r24tellsA_d 0 a b ha hb (by decide)
  · exact r24tellsA_d 1 a b ha hb (by decide)
  · exact r24tells2_d a b ha hb
  · exact r24tellsB_d 3 a b ha hb (by decide)
  · exact r24tellsA_d 4 a b ha hb (by decide)
  · exact r24tellsA_d 5 a b ha hb (by decide)
  · exact r24tellsB_d 6 a b ha hb (by decide)
  · exact r24tellsB_d 7 a b ha hb (by decide)
theorem r24Do_d (op : Int) (x y : VV) (hx : InV x) (hy : InV y) : Den Tryz.prog 23 #[.int .i64 op, VVal x, VVal y] noFacts (VVal (cdo op (vmake x) (vmake y))) := by
  refine den_of_body (args := [.int .i64 op, VVal x, VVal y]) hmix Tryz.func23 ?_
  have ha := vmake_rv hx
  have hb := vmake_rv hy
  have Px := rVPlain_d x hx
  have Py := rVPlain_d y hy
  generalize vmake x = a at *
  generalize vmake y = b at *
  have T := fun h1 h2 => r24tells_d op a b ha hb h1 h2
  have t1 : decide (op < 0) = false → 0 ≤ op := fun h => by have := of_decide_eq_false h; omega
  have t2 : decide (op > 7) = false → op ≤ 7 := fun h => by have := of_decide_eq_false h; omega
  (repeat' ((conv => whnf); first | refine CallN.any _ Px ?_ | refine CallN.any _ Py ?_ | refine CallN.any _ rBottom_d ?_ | refine CallN.any _ rTop_d ?_ | refine CallN.any _ (T (t1 ‹_›) (t2 ‹_›)) ?_ | refine CallN.any _ (r24told_d _ _) ?_ | refine AdN.mk _ _ rfl ?_ | refine DrawN.a (Ob.mk (by decide +kernel) ?_) | refine DrawN.c (Ob.mk (by decide +kernel) ?_) | refine DrawN.b (Ob.mk (by decide +kernel) ?_) | refine Ob.mk (by kernel_rfl) ?_ | (refine Br.mk (fun h => ?_) (fun h => ?_) <;> (first | (exfalso; exact Bool.false_ne_true h) | (exfalso; exact Bool.false_ne_true h.symm) | skip)) | refine SeqN.go ?_)); all_goals (conv => whnf)
  all_goals (clear T Px Py; grind [retV, cdo, veq, vbot])
def rfrom (v : VV) (n : Int) : VV := vmk (imeet v.lo v.hi n 9223372036854775807) (v.m, v.r)
def rupto (v : VV) (n : Int) : VV := vmk (imeet v.lo v.hi (-9223372036854775808) n) (v.m, v.r)
def rabove (v : VV) (n : Int) : VV := if n = 9223372036854775807 then vbot else rfrom v (n + 1)
def rbelow (v : VV) (n : Int) : VV := if n = -9223372036854775808 then vbot else rupto v (n - 1)
theorem r24from_d (v : VV) (n : Int) (h : RV v) (hn : IS n) : Den Tryz.prog 151 #[VVal v, .int .i64 n] noFacts (VVal (rfrom v n)) := by
  refine den_of_body (args := [VVal v, .int .i64 n]) hmix Tryz.func151 ?_
  have b2 := imeet_in h.inn.lo h.inn.hi hn (show IS 9223372036854775807 from ⟨by decide, by decide⟩)
  have M := rMake_d ⟨_, _, _, _⟩ (show InV ⟨(imeet v.lo v.hi n 9223372036854775807).1, (imeet v.lo v.hi n 9223372036854775807).2, v.m, v.r⟩ from ⟨b2.1, b2.2, h.inn.m, h.inn.r⟩)
  (repeat' ((conv => whnf); first | refine CallN.any _ r24Most_d ?_ | refine CallN.any _ (rIMeet_d _ _ _ _) ?_ | refine CallN.any _ M ?_ | refine AdN.mk _ _ rfl ?_ | refine DrawN.a (Ob.mk (by decide +kernel) ?_) | refine DrawN.c (Ob.mk (by decide +kernel) ?_) | refine DrawN.b (Ob.mk (by decide +kernel) ?_) | refine Ob.mk (by kernel_rfl) ?_ | (refine Br.mk (fun h => ?_) (fun h => ?_) <;> (first | (exfalso; exact Bool.false_ne_true h) | (exfalso; exact Bool.false_ne_true h.symm) | skip)) | refine SeqN.go ?_)); all_goals (conv => whnf)
  all_goals rfl
theorem r24upto_d (v : VV) (n : Int) (h : RV v) (hn : IS n) : Den Tryz.prog 150 #[VVal v, .int .i64 n] noFacts (VVal (rupto v n)) := by
  refine den_of_body (args := [VVal v, .int .i64 n]) hmix Tryz.func150 ?_
  have b2 := imeet_in h.inn.lo h.inn.hi (show IS (-9223372036854775808) from ⟨by decide, by decide⟩) hn
  have M := rMake_d ⟨_, _, _, _⟩ (show InV ⟨(imeet v.lo v.hi (-9223372036854775808) n).1, (imeet v.lo v.hi (-9223372036854775808) n).2, v.m, v.r⟩ from ⟨b2.1, b2.2, h.inn.m, h.inn.r⟩)
  (repeat' ((conv => whnf); first | refine CallN.any _ r24Least_d ?_ | refine CallN.any _ (rIMeet_d _ _ _ _) ?_ | refine CallN.any _ M ?_ | refine AdN.mk _ _ rfl ?_ | refine DrawN.a (Ob.mk (by decide +kernel) ?_) | refine DrawN.c (Ob.mk (by decide +kernel) ?_) | refine DrawN.b (Ob.mk (by decide +kernel) ?_) | refine Ob.mk (by kernel_rfl) ?_ | (refine Br.mk (fun h => ?_) (fun h => ?_) <;> (first | (exfalso; exact Bool.false_ne_true h) | (exfalso; exact Bool.false_ne_true h.symm) | skip)) | refine SeqN.go ?_)); all_goals (conv => whnf)
  all_goals rfl
theorem r24above_d (v : VV) (n : Int) (h : RV v) (hn : IS n) : Den Tryz.prog 85 #[VVal v, .int .i64 n] noFacts (VVal (rabove v n)) := by
  refine den_of_body (args := [VVal v, .int .i64 n]) hmix Tryz.func85 ?_
  have U := r24from_d v (IntKind.i64.wrap (n + 1)) h (wrap_is _)
  have e : n ≠ 9223372036854775807 → IntKind.i64.wrap (n + 1) = n + 1 := fun q => i64_in (by have := hn.1; omega) (by have := hn.2; omega)
  (repeat' ((conv => whnf); first | refine CallN.any _ r24Most_d ?_ | refine CallN.any _ rBottom_d ?_ | refine CallN.any _ U ?_ | refine AdN.mk _ _ rfl ?_ | refine DrawN.a (Ob.mk (by decide +kernel) ?_) | refine DrawN.c (Ob.mk (by decide +kernel) ?_) | refine DrawN.b (Ob.mk (by decide +kernel) ?_) | refine Ob.mk (by kernel_rfl) ?_ | (refine Br.mk (fun h => ?_) (fun h => ?_) <;> (first | (exfalso; exact Bool.false_ne_true h) | (exfalso; exact Bool.false_ne_true h.symm) | skip)) | refine SeqN.go ?_)); all_goals (conv => whnf)
  all_goals (clear U; simp only [beq_iff_eq, beq_eq_false_iff_ne, ne_eq] at *; simp_all [retV, rabove])
theorem r24below_d (v : VV) (n : Int) (h : RV v) (hn : IS n) : Den Tryz.prog 86 #[VVal v, .int .i64 n] noFacts (VVal (rbelow v n)) := by
  refine den_of_body (args := [VVal v, .int .i64 n]) hmix Tryz.func86 ?_
  have U := r24upto_d v (IntKind.i64.wrap (n - 1)) h (wrap_is _)
  have e : n ≠ -9223372036854775808 → IntKind.i64.wrap (n - 1) = n - 1 := fun q => i64_in (by have := hn.1; omega) (by have := hn.2; omega)
  (repeat' ((conv => whnf); first | refine CallN.any _ r24Least_d ?_ | refine CallN.any _ rBottom_d ?_ | refine CallN.any _ U ?_ | refine AdN.mk _ _ rfl ?_ | refine DrawN.a (Ob.mk (by decide +kernel) ?_) | refine DrawN.c (Ob.mk (by decide +kernel) ?_) | refine DrawN.b (Ob.mk (by decide +kernel) ?_) | refine Ob.mk (by kernel_rfl) ?_ | (refine Br.mk (fun h => ?_) (fun h => ?_) <;> (first | (exfalso; exact Bool.false_ne_true h) | (exfalso; exact Bool.false_ne_true h.symm) | skip)) | refine SeqN.go ?_)); all_goals (conv => whnf)
  all_goals (clear U; simp only [beq_iff_eq, beq_eq_false_iff_ne, ne_eq] at *; simp_all [retV, rbelow])
/-! They are what the program has. -/
theorem rfrom_eq {v : VV} {n : Int} (h : RV v) (hn : IS n) : rfrom v n = cfrom v n false := by
  unfold rfrom cfrom
  rw [if_neg (fun q => by cases q.1)]
  have h1 := h.inn.hi
  congr 1
  unfold imeet
  congr 1
  · split <;> split <;> omega
  · split <;> omega
theorem rupto_eq {v : VV} {n : Int} (h : RV v) (hn : IS n) : rupto v n = cupto v n false := by
  unfold rupto cupto
  rw [if_neg (fun q => by cases q.1)]
  have h1 := h.inn.lo
  congr 1
  unfold imeet
  congr 1
  · split <;> omega
  · split <;> split <;> omega
theorem rabove_eq {v : VV} {n : Int} (h : RV v) (hn : IS n) (hm : n < v.hi) : rabove v n = cfrom v n true := by
  have h1 := h.inn.hi
  have n1 : IS (n + 1) := ⟨by have := hn.1; omega, by omega⟩
  unfold rabove
  rw [if_neg (by omega), rfrom_eq h n1]
  unfold cfrom
  rw [if_neg (show ¬ (false = true ∧ n + 1 ≥ v.lo) from fun q => by cases q.1)]
  by_cases q : n ≥ v.lo
  · rw [if_pos (show true = true ∧ n ≥ v.lo from ⟨rfl, q⟩), if_pos (show v.lo < n + 1 by omega), i64_in n1.1 n1.2]
  · rw [if_neg (show ¬ (true = true ∧ n ≥ v.lo) from fun e => q e.2)]
    have e : (if v.lo < n + 1 then n + 1 else v.lo) = if v.lo < n then n else v.lo := by split <;> split <;> omega
    rw [e]
theorem rbelow_eq {v : VV} {n : Int} (h : RV v) (hn : IS n) (hm : v.lo < n) : rbelow v n = cupto v n true := by
  have h1 := h.inn.lo
  have n1 : IS (n - 1) := ⟨by omega, by have := hn.2; omega⟩
  unfold rbelow
  rw [if_neg (by omega), rupto_eq h n1]
  unfold cupto
  rw [if_neg (show ¬ (false = true ∧ n - 1 ≤ v.hi) from fun q => by cases q.1)]
  by_cases q : n ≤ v.hi
  · rw [if_pos (show true = true ∧ n ≤ v.hi from ⟨rfl, q⟩), if_pos (show n - 1 < v.hi by omega), i64_in n1.1 n1.2]
  · rw [if_neg (show ¬ (true = true ∧ n ≤ v.hi) from fun e => q e.2)]
    have e : (if n - 1 < v.hi then n - 1 else v.hi) = if n < v.hi then n else v.hi := by split <;> split <;> omega
    rw [e]
def rwithout (v : VV) (n : Int) : VV := if v = vbot then v else if n = v.lo then rabove v n else if n = v.hi then rbelow v n else v
theorem vmk_no {a b : Int} {c : Int × Int} (h : a > b) : vmk (iof a b) c = vbot := by
  rw [vmk_iof]; exact vmake_empty (x := ⟨a, b, c.1, c.2⟩) h
theorem rwithout_eq {v : VV} {n : Int} (h : RV v) (hn : IS n) : rwithout v n = cwithout v n := by
  unfold rwithout cwithout
  have h1 := h.inn.lo
  have h2 := h.inn.hi
  by_cases nb : v = vbot
  · rw [if_pos nb, if_pos (veq_iff.2 nb), nb]
  rw [if_neg nb, if_neg (fun q => nb (veq_iff.1 q))]
  have le := h.le nb
  by_cases e1 : n = v.lo
  · subst e1
    rw [if_pos rfl]
    by_cases e2 : v.lo = v.hi
    · rw [if_pos ⟨e2, rfl⟩]
      unfold rabove
      split
      · rfl
      · rw [rfrom_eq h ⟨by omega, by omega⟩]
        unfold cfrom
        rw [if_neg (fun q => by cases q.1), if_pos (by omega)]
        exact vmk_no (by omega)
    · rw [if_neg (fun q => e2 q.1), if_pos ⟨rfl, e2⟩, rabove_eq h hn (by omega)]
      unfold cfrom
      rw [if_pos ⟨rfl, Int.le_refl _⟩]
  · rw [if_neg e1, if_neg (show ¬ (v.lo = v.hi ∧ v.lo = n) from fun q => e1 q.2.symm), if_neg (show ¬ (v.lo = n ∧ v.lo ≠ v.hi) from fun q => e1 q.1.symm)]
    by_cases e2 : n = v.hi
    · subst e2
      rw [if_pos (show v.hi = v.hi from rfl), if_pos (show v.hi = v.hi ∧ v.lo ≠ v.hi from ⟨rfl, fun e => e1 e.symm⟩), rbelow_eq h hn (by omega)]
      unfold cupto
      rw [if_pos ⟨rfl, Int.le_refl _⟩]
    · rw [if_neg e2, if_neg (show ¬ (v.hi = n ∧ v.lo ≠ v.hi) from fun q => e2 q.1.symm)]
theorem r24Without_d (x : VV) (n : Int) (hx : InV x) (hn : IS n) : Den Tryz.prog 25 #[VVal x, .int .i64 n] noFacts (VVal (cwithout (vmake x) n)) := by
  refine den_of_body (args := [VVal x, .int .i64 n]) hmix Tryz.func25 ?_
  have ha := vmake_rv hx
  have P := rVPlain_d x hx
  generalize vmake x = v at *
  have A := r24above_d v n ha hn
  have B := r24below_d v n ha hn
  rw [← rwithout_eq ha hn]
  have vb : v = vbot ↔ veq v vbot = true := veq_iff.symm
  (repeat' ((conv => whnf); first | refine CallN.any _ P ?_ | refine CallN.any _ rBottom_d ?_ | refine CallN.any _ A ?_ | refine CallN.any _ B ?_ | refine AdN.mk _ _ rfl ?_ | refine DrawN.a (Ob.mk (by decide +kernel) ?_) | refine DrawN.c (Ob.mk (by decide +kernel) ?_) | refine DrawN.b (Ob.mk (by decide +kernel) ?_) | refine Ob.mk (by kernel_rfl) ?_ | (refine Br.mk (fun h => ?_) (fun h => ?_) <;> (first | (exfalso; exact Bool.false_ne_true h) | (exfalso; exact Bool.false_ne_true h.symm) | skip)) | refine SeqN.go ?_)); all_goals (conv => whnf)
  all_goals (clear A B P; unfold rwithout; (split <;> (try split) <;> (try split)) <;> first | rfl | (exfalso; simp only [vb] at *; simp only [veq, vbot] at *; grind))
theorem r24without_r {x : VV} (n : Int) (h : RV x) (hn : IS n) : Den Tryz.prog 25 #[VVal x, .int .i64 n] noFacts (VVal (cwithout x n)) := by
  have := r24Without_d x n h.inn hn
  rwa [h.fix] at this
theorem r24Only_d (x : VV) (t : Bool) (hx : InV x) : Den Tryz.prog 27 #[VVal x, .bool t] noFacts (VVal (conly (vmake x) t)) := by
  refine den_of_body (args := [VVal x, .bool t]) hmix Tryz.func27 ?_
  have ha := vmake_rv hx
  have z : IS 0 := ⟨by decide, by decide⟩
  have P := rVPlain_d x hx
  have W := r24Without_d x 0 hx z
  have M := rMeet_d _ _ ha.red (rv_one z).red
  rw [rvmeet_eq ha (rv_one z)] at M
  (repeat' ((conv => whnf); first | refine CallN.any _ P ?_ | refine CallN.any _ W ?_ | refine CallN.any _ (rOne_d 0 z) ?_ | refine CallN.any _ M ?_ | refine AdN.mk _ _ rfl ?_ | refine DrawN.a (Ob.mk (by decide +kernel) ?_) | refine DrawN.c (Ob.mk (by decide +kernel) ?_) | refine DrawN.b (Ob.mk (by decide +kernel) ?_) | refine Ob.mk (by kernel_rfl) ?_ | (refine Br.mk (fun h => ?_) (fun h => ?_) <;> (first | (exfalso; exact Bool.false_ne_true h) | (exfalso; exact Bool.false_ne_true h.symm) | skip)) | refine SeqN.go ?_)); all_goals (conv => whnf)
  all_goals (clear P W M; cases t <;> first | rfl | (exfalso; simp_all; done))
theorem r24only_r {x : VV} (t : Bool) (h : RV x) : Den Tryz.prog 27 #[VVal x, .bool t] noFacts (VVal (conly x t)) := by
  have := r24Only_d x t h.inn
  rwa [h.fix] at this
theorem r24only_t {x : VV} (h : RV x) : Den Tryz.prog 27 #[VVal x, .bool true] noFacts (VVal (cwithout x 0)) := r24only_r true h
theorem r24leftA_d (op : Int) (a b : VV) (ha : RV a) (hb : RV b) (h6 : op ≠ 6) (h7 : op ≠ 7) (h4 : op = 4 → a.lo < b.hi) : Den Tryz.prog 81 #[.int .i64 op, VVal a, VVal b] noFacts (.tuple #[VVal (cleft op a b).1, VVal (cleft op a b).2]) := by
  refine den_of_body (args := [.int .i64 op, VVal a, VVal b]) hmix Tryz.func81 ?_
  have e1 : op = 4 → rbelow a b.hi = cupto a b.hi true := fun e => rbelow_eq ha hb.inn.hi (h4 e)
  have e2 : op = 4 → rabove b a.lo = cfrom b a.lo true := fun e => rabove_eq hb ha.inn.lo (h4 e)
  have e3 := rupto_eq ha hb.inn.hi
  have e4 := rfrom_eq hb ha.inn.lo
  (repeat' ((conv => whnf); first | refine CallN.any _ (r24only_t ha) ?_ | refine CallN.any _ (r24only_t hb) ?_ | refine CallN.any _ (r24alike_d a b ha hb) ?_ | refine CallN.any _ (r24without_r b.lo ha hb.inn.lo) ?_ | refine CallN.any _ (r24without_r a.lo hb ha.inn.lo) ?_ | refine CallN.any _ (r24below_d a b.hi ha hb.inn.hi) ?_ | refine CallN.any _ (r24above_d b a.lo hb ha.inn.lo) ?_ | refine CallN.any _ (r24upto_d a b.hi ha hb.inn.hi) ?_ | refine CallN.any _ (r24from_d b a.lo hb ha.inn.lo) ?_ | refine AdN.mk _ _ rfl ?_ | refine DrawN.a (Ob.mk (by decide +kernel) ?_) | refine DrawN.c (Ob.mk (by decide +kernel) ?_) | refine DrawN.b (Ob.mk (by decide +kernel) ?_) | refine Ob.mk (by kernel_rfl) ?_ | (refine Br.mk (fun h => ?_) (fun h => ?_) <;> (first | (exfalso; exact Bool.false_ne_true h) | (exfalso; exact Bool.false_ne_true h.symm) | skip)) | refine SeqN.go ?_)); all_goals (conv => whnf)
  all_goals (simp only [beq_iff_eq, beq_eq_false_iff_ne, ne_eq] at *; first | (subst op; simp_all [retV, cleft]; done) | (simp_all [retV, cleft]; done))
theorem r24left_d (op : Int) (a b : VV) (ha : RV a) (hb : RV b) (h4 : op = 4 → a.lo < b.hi) (h6 : op = 6 → b.lo < a.hi) : Den Tryz.prog 81 #[.int .i64 op, VVal a, VVal b] noFacts (.tuple #[VVal (cleft op a b).1, VVal (cleft op a b).2]) := by
  by_cases k6 : op = 6
  · subst k6
    have L := r24leftA_d 4 b a hb ha (by decide) (by decide) fun _ => h6 rfl
    refine den_of_body (args := [.int .i64 6, VVal a, VVal b]) hmix Tryz.func81 ?_
    (repeat' ((conv => whnf); first | refine CallN.any _ L ?_ | refine AdN.mk _ _ rfl ?_ | refine DrawN.a (Ob.mk (by decide +kernel) ?_) | refine DrawN.c (Ob.mk (by decide +kernel) ?_) | refine DrawN.b (Ob.mk (by decide +kernel) ?_) | refine Ob.mk (by kernel_rfl) ?_ | (refine Br.mk (fun h => ?_) (fun h => ?_) <;> (first | (exfalso; exact Bool.false_ne_true h) | (exfalso; exact Bool.false_ne_true h.symm) | skip)) | refine SeqN.go ?_)); all_goals (conv => whnf)
    all_goals first | rfl | (exfalso; simp at *; done)
  by_cases k7 : op = 7
  · subst k7
    have L := r24leftA_d 5 b a hb ha (by decide) (by decide) fun q => absurd q (by decide)
    refine den_of_body (args := [.int .i64 7, VVal a, VVal b]) hmix Tryz.func81 ?_
    (repeat' ((conv => whnf); first | refine CallN.any _ L ?_ | refine AdN.mk _ _ rfl ?_ | refine DrawN.a (Ob.mk (by decide +kernel) ?_) | refine DrawN.c (Ob.mk (by decide +kernel) ?_) | refine DrawN.b (Ob.mk (by decide +kernel) ?_) | refine Ob.mk (by kernel_rfl) ?_ | (refine Br.mk (fun h => ?_) (fun h => ?_) <;> (first | (exfalso; exact Bool.false_ne_true h) | (exfalso; exact Bool.false_ne_true h.symm) | skip)) | refine SeqN.go ?_)); all_goals (conv => whnf)
    all_goals first | rfl | (exfalso; simp at *; done)
  exact r24leftA_d op a b ha hb k6 k7 h4
/-! Contract of the reference's Refine: it is the program's. -/
theorem crefine_is {op : Int} {a b : VV} {t : Bool} : crefine op a b t =
    if veq a vbot = true ∨ veq b vbot = true then (vbot, vbot)
    else if (t = true ∧ (cmay op a b).1 = false) ∨ (t = false ∧ (cmay op a b).2 = false) then (vbot, vbot)
    else if veq (cpart op a b t).1 vbot = true ∨ veq (cpart op a b t).2 vbot = true then (vbot, vbot)
    else cpart op a b t := rfl
set_option maxHeartbeats 8000000 in
theorem r24Refine_k (o : Int) (x y : VV) (t : Bool) (hx : InV x) (hy : InV y) (ho : o = 0 ∨ o = 1 ∨ o = 2 ∨ o = 3 ∨ o = 4 ∨ o = 5 ∨ o = 6 ∨ o = 7) : Den Tryz.prog 18 #[.int .i64 o, VVal x, VVal y, .bool t] noFacts (.tuple #[VVal (crefine o (vmake x) (vmake y) t).1, VVal (crefine o (vmake x) (vmake y) t).2]) := by
  have ha := vmake_rv hx
  have hb := vmake_rv hy
  have Px := rVPlain_d x hx
  have Py := rVPlain_d y hy
  generalize vmake x = a at *
  generalize vmake y = b at *
  have T := r24tells_d o a b ha hb (by omega) (by omega)
  have L0 : (cmay o a b).1 = true → Den Tryz.prog 81 #[.int .i64 o, VVal a, VVal b] noFacts (.tuple #[VVal (cleft o a b).1, VVal (cleft o a b).2]) := fun q => r24left_d o a b ha hb (fun e => by subst e; exact of_decide_eq_true (show decide (a.lo < b.hi) = true from q)) (fun e => by subst e; exact of_decide_eq_true (show decide (b.lo < a.hi) = true from q))
  have N0 : (cmay o a b).2 = true → Den Tryz.prog 81 #[.int .i64 (cother o), VVal a, VVal b] noFacts (.tuple #[VVal (cleft (cother o) a b).1, VVal (cleft (cother o) a b).2]) := fun q => r24left_d (cother o) a b ha hb
    (fun e => by
      have : o = 7 := by unfold cother at e; grind
      subst this
      exact of_decide_eq_true (show decide (b.hi > a.lo) = true from q))
    (fun e => by
      have : o = 5 := by unfold cother at e; grind
      subst this
      exact of_decide_eq_true (show decide (a.hi > b.lo) = true from q))
  have L := fun (q : (!(cmay o a b).1) = false) => L0 (by simpa using q)
  have N := fun (q : (!(cmay o a b).2) = false) => N0 (by simpa using q)
  clear L0 N0
  have O1 := r24only_r false ha
  have O2 := r24only_r false hb
  rw [crefine_is]
  have p1 : t = true → cpart o a b t = cleft o a b := fun e => by subst e; rfl
  have p2 : t = false → o = 0 → cpart o a b t = (conly a false, conly b false) := fun e f => by subst e; subst f; rfl
  have p3 : t = false → o = 1 → cpart o a b t = (a, b) := fun e f => by subst e; subst f; rfl
  have p4 : t = false → o ≠ 0 → o ≠ 1 → cpart o a b t = cleft (cother o) a b := fun e f g => by
    subst e
    unfold cpart
    rw [if_neg (by decide), if_pos (by omega)]
  generalize cpart o a b t = cp at *
  generalize cmay o a b = mm at *
  generalize conly a false = oa at *
  generalize conly b false = ob at *
  generalize cleft o a b = l1 at *
  generalize cleft (cother o) a b = l2 at *
  rcases ho with rfl | rfl | rfl | rfl | rfl | rfl | rfl | rfl
  all_goals
    cases t
    all_goals
      refine den_of_body (args := [.int .i64 _, VVal x, VVal y, .bool _]) hmix Tryz.func18 ?_
      (repeat' ((conv => whnf); first | refine CallN.any _ Px ?_ | refine CallN.any _ Py ?_ | refine CallN.any _ rBottom_d ?_ | refine CallN.any _ T ?_ | refine CallN.any _ (L ‹_›) ?_ | refine CallN.any _ (N ‹_›) ?_ | refine CallN.any _ O1 ?_ | refine CallN.any _ O2 ?_ | refine Ob.mk ⟨by decide, by decide⟩ ?_ | refine RowN.mk _ rfl rfl ?_ | refine AdN.mk _ _ rfl ?_ | refine DrawN.a (Ob.mk (by decide +kernel) ?_) | refine DrawN.c (Ob.mk (by decide +kernel) ?_) | refine DrawN.b (Ob.mk (by decide +kernel) ?_) | refine Ob.mk (by kernel_rfl) ?_ | (refine Br.mk (fun h => ?_) (fun h => ?_) <;> (first | (exfalso; exact Bool.false_ne_true h) | (exfalso; exact Bool.false_ne_true h.symm) | skip)) | refine SeqN.go ?_)); all_goals (conv => whnf)
      all_goals (clear Px Py T L N O1 O2; first | (grind [retV, veq, vbot]; done) | (exfalso; simp at *; done))
set_option maxHeartbeats 8000000 in
theorem r24Refine_o (o : Int) (x y : VV) (t : Bool) (hx : InV x) (hy : InV y) (ho : o < 0 ∨ o > 7) : Den Tryz.prog 18 #[.int .i64 o, VVal x, VVal y, .bool t] noFacts (.tuple #[VVal (crefine o (vmake x) (vmake y) t).1, VVal (crefine o (vmake x) (vmake y) t).2]) := by
  have ha := vmake_rv hx
  have hb := vmake_rv hy
  have Px := rVPlain_d x hx
  have Py := rVPlain_d y hy
  generalize vmake x = a at *
  generalize vmake y = b at *
  have L := r24leftA_d o a b ha hb (by omega) (by omega) (fun e => by omega)
  rw [crefine_is]
  have cm : cmay o a b = (true, true) := by
    unfold cmay
    rw [if_neg (by omega), if_neg (by omega), if_neg (by omega), if_neg (by omega), if_neg (by omega), if_neg (by omega), if_neg (by omega), if_neg (by omega)]
  have cl : cleft o a b = (a, b) := by
    unfold cleft
    rw [if_neg (by omega), if_neg (by omega), if_neg (by omega), if_neg (by omega), if_neg (by omega), if_neg (by omega), if_neg (by omega)]
  have cp : cpart o a b t = (a, b) := by
    unfold cpart
    split
    · exact cl
    · rw [if_neg (by omega), if_neg (by omega)]
  rw [cl] at L
  rw [cm, cp]
  cases t
  all_goals
    refine den_of_body (args := [.int .i64 o, VVal x, VVal y, .bool _]) hmix Tryz.func18 ?_
    (repeat' ((conv => whnf); first | refine CallN.any _ Px ?_ | refine CallN.any _ Py ?_ | refine CallN.any _ rBottom_d ?_ | refine CallN.any _ L ?_ | (exfalso; have g1 := of_decide_eq_true ‹decide (o ≥ 0) = true›; have g2 := of_decide_eq_true ‹decide (o ≤ 7) = true›; omega) | refine AdN.mk _ _ rfl ?_ | refine DrawN.a (Ob.mk (by decide +kernel) ?_) | refine DrawN.c (Ob.mk (by decide +kernel) ?_) | refine DrawN.b (Ob.mk (by decide +kernel) ?_) | refine Ob.mk (by kernel_rfl) ?_ | (refine Br.mk (fun h => ?_) (fun h => ?_) <;> (first | (exfalso; exact Bool.false_ne_true h) | (exfalso; exact Bool.false_ne_true h.symm) | skip)) | refine SeqN.go ?_)); all_goals (conv => whnf)
    all_goals (clear Px Py L; first | (grind [retV, veq, vbot]; done) | (exfalso; simp at *; done))
theorem r24Refine_d (op : Int) (x y : VV) (t : Bool) (hx : InV x) (hy : InV y) : Den Tryz.prog 18 #[.int .i64 op, VVal x, VVal y, .bool t] noFacts (.tuple #[VVal (crefine op (vmake x) (vmake y) t).1, VVal (crefine op (vmake x) (vmake y) t).2]) := by
  by_cases h : 0 ≤ op ∧ op ≤ 7
  · exact r24Refine_k op x y t hx hy (op_cases h.1 h.2)
  · exact r24Refine_o op x y t hx hy (by omega)
end Go.Proofs.YtcemohoigdninaaGreatDoor
