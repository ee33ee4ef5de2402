/- The reference's sums, differences and products of values. -/
import Derived.Test.YtljhbdgoknfkcaaGreatDoorZ6
import Derived.Test.YtljhbdgoknfkcaaGreatDoorZ5
import Derived.Test.YtljhbdgoknfkcaaGreatDoorE3
import Derived.Test.YtljhbdgoknfkcaaGreatDoorJ1
namespace Go.Proofs.YtljhbdgoknfkcaaGreatDoor
open Go Go.RowKit Go.Sort
set_option linter.unusedVariables false
set_option linter.unusedSimpArgs false
set_option maxRecDepth 100000

theorem rcong22_d (op : Int) (a b : VV) (ha : InV a) (hb : InV b) : Den Tryz.prog 82 #[.int .i64 op, .agg #[.int .u64 a.m, .int .u64 a.r], .agg #[.int .u64 b.m, .int .u64 b.r]] noFacts (.agg #[.int .u64 (acong op a b).1, .int .u64 (acong op a b).2]) := by
  refine den_of_body (args := [.int .i64 op, .agg #[.int .u64 a.m, .int .u64 a.r], .agg #[.int .u64 b.m, .int .u64 b.r]]) hmix Tryz.func82 ?_
  have A := den_of (F := noFacts) fun W => radd_c a.m a.r b.m b.r W ha.m.1 ha.m.2 ha.r.1 ha.r.2 hb.m.1 hb.m.2 hb.r.1 hb.r.2
  have S := den_of (F := noFacts) fun W => rsub_c a.m a.r b.m b.r W ha.m.1 ha.m.2 ha.r.1 ha.r.2 hb.m.1 hb.m.2 hb.r.1 hb.r.2
  have M := den_of (F := noFacts) fun W => rmul_c a.m a.r b.m b.r W ha.m.1 ha.m.2 ha.r.1 ha.r.2 hb.m.1 hb.m.2 hb.r.1 hb.r.2
  (repeat' ((conv => whnf); first | refine CallN.any _ A ?_ | refine CallN.any _ S ?_ | refine CallN.any _ M ?_ | refine AdN.mk _ _ rfl ?_ | refine DrawN.a (Ob.mk (by decide +kernel) ?_) | refine DrawN.c (Ob.mk (by decide +kernel) ?_) | refine DrawN.b (Ob.mk (by decide +kernel) ?_) | refine Ob.mk (by kernel_rfl) ?_ | (refine Br.mk (fun h => ?_) (fun h => ?_) <;> (first | (exfalso; exact Bool.false_ne_true h) | (exfalso; exact Bool.false_ne_true h.symm) | skip)) | refine SeqN.go ?_)); all_goals (conv => whnf)
  all_goals (clear A S M; grind [retV, acong])
theorem p64 : (256 : Nat) ^ 8 = 18446744073709551616 := by decide
theorem mv_round {z : Int} (h : IW z) : ((mv z / 256 ^ 8 : Nat) : Int) = 85070591730234615865843651857942052864 + (z + 9223372036854775808) / 18446744073709551616 := by
  have e := mv_eq h
  have := h.1
  have := x0v
  rw [p64]
  omega
theorem b_round : ((B190 / 256 ^ 8 : Nat) : Int) = 85070591730234615865843651857942052864 := by decide
theorem mv_low {z : Int} (h : IW z) : rlow (mv z) = alow z := by
  have e := mv_eq h
  have := h.1
  have := x0v
  unfold rlow alow
  rw [p64]
  simp only [us_eq, sg_eq]
  unfold us sg
  omega
theorem round_ne {z w : Int} (hz : IW z) (hw : IW w) : (cmpN (mv z / 256 ^ 8) (mv w / 256 ^ 8) != 0) = decide (arnd z ≠ arnd w) := by
  have e1 := mv_round hz
  have e2 := mv_round hw
  have h1 := hz.1
  have h2 := hz.2
  have h3 := hw.1
  have h4 := hw.2
  generalize mv z / 256 ^ 8 = x at *
  generalize mv w / 256 ^ 8 = y at *
  unfold arnd cmpN
  by_cases c : x = y
  · have : (z + 9223372036854775808) / 18446744073709551616 = (w + 9223372036854775808) / 18446744073709551616 := by omega
    subst c
    simp [this]
  · have : ¬ (z + 9223372036854775808) / 18446744073709551616 % 18446744073709551616 = (w + 9223372036854775808) / 18446744073709551616 % 18446744073709551616 := by omega
    simp [this, c]
    split <;> omega
theorem round_nz {z : Int} (hz : IW z) : (cmpN (mv z / 256 ^ 8) (B190 / 256 ^ 8) != 0) = decide (arnd z ≠ 0) := by
  have e1 := mv_round hz
  have e2 := b_round
  have h1 := hz.1
  have h2 := hz.2
  generalize mv z / 256 ^ 8 = x at *
  generalize B190 / 256 ^ 8 = y at *
  unfold arnd cmpN
  by_cases c : x = y
  · have : (z + 9223372036854775808) / 18446744073709551616 = 0 := by omega
    subst c
    simp [this]
  · have : ¬ (z + 9223372036854775808) / 18446744073709551616 % 18446744073709551616 = 0 := by omega
    simp [this, c]
    split <;> omega
theorem round_len {z : Int} (h : IW z) : mv z / 256 ^ 8 < 256 ^ 16 := Nat.div_lt_of_lt_mul (by rw [← Nat.pow_add]; exact (mv_in h).2)
theorem wop_low {op a b : Int} (ho : aknown' op) (ha : IS a) (hb : IS b) : wopV op a b = alow (wex op a b) := by
  rcases ho with rfl | rfl | rfl
  · show IntKind.i64.wrap (a + b) = IntKind.i64.wrap ((a + b) % 18446744073709551616)
    simp only [sg_eq]; unfold sg; omega
  · show IntKind.i64.wrap (a - b) = IntKind.i64.wrap ((a - b) % 18446744073709551616)
    simp only [sg_eq]; unfold sg; omega
  · show IntKind.i64.wrap (a * b) = IntKind.i64.wrap ((a * b) % 18446744073709551616)
    simp only [sg_eq]; unfold sg; omega
theorem arg_sp {z : Int} (h : IW z) : AR.r 1 24 (partRow 1 0 24 (BVs (b8 24 ((mv z : Nat) : Int)))) = argN 24 (mv z) := by unfold argN; rw [mv_len h]
set_option maxHeartbeats 8000000 in
theorem rDo22_d (op : Int) (x y : VV) (hx : InV x) (hy : InV y) : Den Tryz.prog 21 #[.int .i64 op, VVal x, VVal y] noFacts (VVal (ado op (vmake x) (vmake y))) := by
  refine den_of_body (args := [.int .i64 op, VVal x, VVal y]) hmix Tryz.func21 ?_
  have Mx := rVPlain_d x hx
  have My := rVPlain_d y hy
  have ha := vmake_rv hx
  have hb := vmake_rv hy
  generalize vmake x = a at *
  generalize vmake y = b at *
  by_cases ho : aknown' op
  · have hop : 0 ≤ op ∧ op ≤ 17 := by rcases ho with rfl | rfl | rfl <;> decide
    have D := rDo_d op a.lo b.lo ha.inn.lo hb.inn.lo hop
    rw [wop_low ho ha.inn.lo hb.inn.lo] at D
    have O := rOne_d (alow (wex op a.lo b.lo)) (alow_is _)
    have BD := Bounds_f op a b ho ha.inn hb.inn
    have si := span_in (op := op) ha.inn hb.inn
    have R1 := Round_f (mv_in si.1).1 (mv_in si.1).2
    have R2 := Round_f (mv_in si.2).1 (mv_in si.2).2
    rw [mv_low si.1, ← arg_sp si.1] at R1
    rw [mv_low si.2, ← arg_sp si.2] at R2
    have C := rcong22_d op a b ha.inn hb.inn
    have ci := acong_in (op := op) ha.inn hb.inn
    have wi := cwr_in ci.1 ci.2
    have W := den_of (F := noFacts) fun w => rwrapped_c (acong op a b).1 (acong op a b).2 w ci.1.1 ci.1.2 ci.2.1 ci.2.2
    have K1 := cmp_n (round_len si.1) (round_len si.2) (Nat.le_trans (byt_len (round_len si.1)) (by decide)) (Nat.le_trans (byt_len (round_len si.2)) (by decide))
    have K2 := cmp_n (LB := 16) (round_len si.1) (show B190 / 256 ^ 8 < 256 ^ 16 by decide) (Nat.le_trans (byt_len (round_len si.1)) (by decide)) (Nat.le_trans (byt_len (k := 16) (by decide)) (by decide))
    have o1 := part_ok (round_len si.1)
    have o2 := part_ok (round_len si.2)
    have o3 : 0 + (byt (B190 / 256 ^ 8)).length * 1 ≤ 16 * 1 := part_ok (by decide)
    have q1 := round_ne si.1 si.2
    have q2 := round_nz si.1
    generalize cmpN (mv (spanL op a b) / 256 ^ 8) (mv (spanG op a b) / 256 ^ 8) = k1 at *
    generalize cmpN (mv (spanL op a b) / 256 ^ 8) (B190 / 256 ^ 8) = k2 at *
    have M1 := rMake_d ⟨-9223372036854775808, 9223372036854775807, _, _⟩ (show InV ⟨-9223372036854775808, 9223372036854775807, (cwrapped (acong op a b).1 (acong op a b).2).1, (cwrapped (acong op a b).1 (acong op a b).2).2⟩ from ⟨by constructor <;> dsimp only <;> decide, by constructor <;> dsimp only <;> decide, wi.1, wi.2⟩)
    have M2 := rMake_d ⟨_, _, _, _⟩ (show InV ⟨alow (spanL op a b), alow (spanG op a b), (cwrapped (acong op a b).1 (acong op a b).2).1, (cwrapped (acong op a b).1 (acong op a b).2).2⟩ from ⟨alow_is _, alow_is _, wi.1, wi.2⟩)
    have M3 := rMake_d ⟨_, _, _, _⟩ (show InV ⟨alow (spanL op a b), alow (spanG op a b), (acong op a b).1, (acong op a b).2⟩ from ⟨alow_is _, alow_is _, ci.1, ci.2⟩)
    generalize mv (spanL op a b) = NL at *
    generalize mv (spanG op a b) = NG at *
    (repeat' ((conv => whnf); first | refine CallN.any _ Mx ?_ | refine CallN.any _ My ?_ | refine CallN.any _ rBottom_d ?_ | refine CallN.any _ rTop_d ?_ | refine CallN.any _ D ?_ | refine CallN.any _ O ?_ | refine CallN.anyFresh _ _ BD ?_ | refine CallA.anyFresh _ _ R1 ?_ | refine CallA.anyFresh _ _ R2 ?_ | refine CallN.any _ C ?_ | refine CallN.any _ W ?_ | refine CallA.any _ K1 ?_ | refine CallA.any _ K2 ?_ | refine CallN.anyFresh _ _ zero_f ?_ | refine CallN.any _ M1 ?_ | refine CallN.any _ M2 ?_ | refine CallN.any _ M3 ?_ | refine Ob.mk o1 ?_ | refine Ob.mk o2 ?_ | refine Ob.mk o3 ?_ | refine Ob.mk (by decide) ?_ | refine AdN.mk _ _ rfl ?_ | refine DrawN.a (Ob.mk (by decide +kernel) ?_) | refine DrawN.c (Ob.mk (by decide +kernel) ?_) | refine DrawN.b (Ob.mk (by decide +kernel) ?_) | refine Ob.mk (by kernel_rfl) ?_ | (refine Br.mk (fun h => ?_) (fun h => ?_) <;> (first | (exfalso; exact Bool.false_ne_true h) | (exfalso; exact Bool.false_ne_true h.symm) | skip)) | refine SeqN.go ?_)); all_goals (conv => whnf)
    all_goals (clear Mx My D O BD R1 R2 C W K1 K2 M1 M2 M3 o1 o2 o3; have hk : aknown op := ho; have ho2 : 13 ≤ op ∧ op ≤ 15 := (by rcases ho with rfl | rfl | rfl <;> decide); clear ho; first | (exfalso; have := of_decide_eq_true ‹decide (op < 13) = true›; omega) | (exfalso; have := of_decide_eq_true ‹decide (op > 15) = true›; omega) | (simp only [retV, vmk_iof] at *; refine congrArg VVal (?_ : _ = _); unfold ado; rw [vmk_iof]; unfold vmk; generalize spanL op a b = sl at *; generalize spanG op a b = sg at *; simp only [veq] at *; first | grind | trace_state))
  · (repeat' ((conv => whnf); first | refine CallN.any _ Mx ?_ | refine CallN.any _ My ?_ | refine CallN.any _ rBottom_d ?_ | refine CallN.any _ rTop_d ?_ | refine AdN.mk _ _ rfl ?_ | refine DrawN.a (Ob.mk (by decide +kernel) ?_) | refine DrawN.c (Ob.mk (by decide +kernel) ?_) | refine DrawN.b (Ob.mk (by decide +kernel) ?_) | refine Ob.mk (by kernel_rfl) ?_ | (refine Br.mk (fun h => ?_) (fun h => ?_) <;> (first | (exfalso; exact Bool.false_ne_true h) | (exfalso; exact Bool.false_ne_true h.symm) | skip)) | refine SeqN.go ?_)); all_goals (conv => whnf)
    all_goals (clear Mx My; have hk : ¬ aknown op := ho; unfold aknown' at ho; first | (refine congrArg VVal (?_ : vbot = _); unfold ado; simp only [veq] at *; grind) | (refine congrArg VVal (?_ : vtop = _); unfold ado; simp only [veq] at *; grind) | (exfalso; simp at *; omega) | trace_state)
theorem rNeg22_d (x : VV) (hx : InV x) : Den Tryz.prog 22 #[VVal x] noFacts (VVal (ado 14 (vone 0) (vmake x))) := by
  refine den_of_body (args := [VVal x]) hmix Tryz.func22 ?_
  have z := rv_one (n := 0) ⟨by decide, by decide⟩
  have O := rOne_d 0 ⟨by decide, by decide⟩
  have D := rDo22_d 14 (vone 0) x z.inn hx
  rw [z.fix] at D
  (repeat' ((conv => whnf); first | refine CallN.any _ O ?_ | refine CallN.any _ D ?_ | refine AdN.mk _ _ rfl ?_ | refine DrawN.a (Ob.mk (by decide +kernel) ?_) | refine DrawN.c (Ob.mk (by decide +kernel) ?_) | refine DrawN.b (Ob.mk (by decide +kernel) ?_) | refine Ob.mk (by kernel_rfl) ?_ | (refine Br.mk (fun h => ?_) (fun h => ?_) <;> (first | (exfalso; exact Bool.false_ne_true h) | (exfalso; exact Bool.false_ne_true h.symm) | skip)) | refine SeqN.go ?_)); all_goals (conv => whnf)
  all_goals rfl
set_option maxHeartbeats 8000000 in
theorem rWraps_d (op : Int) (x y : VV) (hx : InV x) (hy : InV y) : Den Tryz.prog 24 #[.int .i64 op, VVal x, VVal y] noFacts (.bool (awraps op (vmake x) (vmake y))) := by
  refine den_of_body (args := [.int .i64 op, VVal x, VVal y]) hmix Tryz.func24 ?_
  have Mx := rVPlain_d x hx
  have My := rVPlain_d y hy
  have ha := vmake_rv hx
  have hb := vmake_rv hy
  generalize vmake x = a at *
  generalize vmake y = b at *
  by_cases ho : aknown' op
  · have BD := Bounds_f op a b ho ha.inn hb.inn
    have si := span_in (op := op) ha.inn hb.inn
    have R1 := Round_f (mv_in si.1).1 (mv_in si.1).2
    have R2 := Round_f (mv_in si.2).1 (mv_in si.2).2
    rw [mv_low si.1, ← arg_sp si.1] at R1
    rw [mv_low si.2, ← arg_sp si.2] at R2
    have K1 := cmp_n (LB := 16) (round_len si.2) (show B190 / 256 ^ 8 < 256 ^ 16 by decide) (Nat.le_trans (byt_len (round_len si.2)) (by decide)) (Nat.le_trans (byt_len (k := 16) (by decide)) (by decide))
    have K2 := cmp_n (LB := 16) (round_len si.1) (show B190 / 256 ^ 8 < 256 ^ 16 by decide) (Nat.le_trans (byt_len (round_len si.1)) (by decide)) (Nat.le_trans (byt_len (k := 16) (by decide)) (by decide))
    have o1 := part_ok (round_len si.1)
    have o2 := part_ok (round_len si.2)
    have o3 : 0 + (byt (B190 / 256 ^ 8)).length * 1 ≤ 16 * 1 := part_ok (by decide)
    have q1 := round_nz si.2
    have q2 := round_nz si.1
    generalize cmpN (mv (spanG op a b) / 256 ^ 8) (B190 / 256 ^ 8) = k1 at *
    generalize cmpN (mv (spanL op a b) / 256 ^ 8) (B190 / 256 ^ 8) = k2 at *
    generalize mv (spanL op a b) = NL at *
    generalize mv (spanG op a b) = NG at *
    (repeat' ((conv => whnf); first | refine CallN.any _ Mx ?_ | refine CallN.any _ My ?_ | refine CallN.any _ rBottom_d ?_ | refine CallN.anyFresh _ _ BD ?_ | refine CallA.anyFresh _ _ R1 ?_ | refine CallA.anyFresh _ _ R2 ?_ | refine CallA.any _ K1 ?_ | refine CallA.any _ K2 ?_ | refine CallN.anyFresh _ _ zero_f ?_ | refine Ob.mk o1 ?_ | refine Ob.mk o2 ?_ | refine Ob.mk o3 ?_ | refine Ob.mk (by decide) ?_ | refine AdN.mk _ _ rfl ?_ | refine DrawN.a (Ob.mk (by decide +kernel) ?_) | refine DrawN.c (Ob.mk (by decide +kernel) ?_) | refine DrawN.b (Ob.mk (by decide +kernel) ?_) | refine Ob.mk (by kernel_rfl) ?_ | (refine Br.mk (fun h => ?_) (fun h => ?_) <;> (first | (exfalso; exact Bool.false_ne_true h) | (exfalso; exact Bool.false_ne_true h.symm) | skip)) | refine SeqN.go ?_)); all_goals (conv => whnf)
    all_goals (clear Mx My BD R1 R2 K1 K2 o1 o2 o3; have hk : aknown op := ho; have ho2 : 13 ≤ op ∧ op ≤ 15 := (by rcases ho with rfl | rfl | rfl <;> decide); clear ho; first | (exfalso; have := of_decide_eq_true ‹decide (op < 13) = true›; omega) | (exfalso; have := of_decide_eq_true ‹decide (op > 15) = true›; omega) | (refine congrArg Value.bool (?_ : _ = _); unfold awraps; generalize spanL op a b = sl at *; generalize spanG op a b = sg at *; simp only [veq] at *; first | grind | trace_state))
  · (repeat' ((conv => whnf); first | refine CallN.any _ Mx ?_ | refine CallN.any _ My ?_ | refine CallN.any _ rBottom_d ?_ | refine AdN.mk _ _ rfl ?_ | refine DrawN.a (Ob.mk (by decide +kernel) ?_) | refine DrawN.c (Ob.mk (by decide +kernel) ?_) | refine DrawN.b (Ob.mk (by decide +kernel) ?_) | refine Ob.mk (by kernel_rfl) ?_ | (refine Br.mk (fun h => ?_) (fun h => ?_) <;> (first | (exfalso; exact Bool.false_ne_true h) | (exfalso; exact Bool.false_ne_true h.symm) | skip)) | refine SeqN.go ?_)); all_goals (conv => whnf)
    all_goals (clear Mx My; have hk : ¬ aknown op := ho; unfold aknown' at ho; first | (refine congrArg Value.bool (?_ : _ = _); unfold awraps; simp only [veq] at *; grind) | (exfalso; simp at *; omega) | trace_state)
end Go.Proofs.YtljhbdgoknfkcaaGreatDoor
