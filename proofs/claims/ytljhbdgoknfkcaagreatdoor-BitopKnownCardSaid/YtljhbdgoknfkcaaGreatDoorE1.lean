/- Contracts of package arith: exact results in two limbs. -/
import Derived.Test.YtljhbdgoknfkcaaGreatDoorG5
import Derived.Test.YtljhbdgoknfkcaaGreatDoorK1
import Derived.Test.YtljhbdgoknfkcaaGreatDoorM4
import Derived.Test.YtljhbdgoknfkcaaGreatDoorShelf
import Derived.Laws.Externs
namespace Go.Proofs.YtljhbdgoknfkcaaGreatDoor
open Go Go.RowKit Go.Sort
set_option linter.unusedVariables false
set_option linter.unusedSimpArgs false
set_option maxRecDepth 100000

theorem add64_x (x y c : Int) (hx : 0 ≤ x) (hy : 0 ≤ y) (hc0 : 0 ≤ c) (hc : c ≤ 1) (W : World) : (callFunc 153 #[.int .u64 x, .int .u64 y, .int .u64 c]).run Tryz.prog W = .ok (.value (.tuple #[.int .u64 ((x + y + c) % 18446744073709551616), .int .u64 ((x + y + c) / 18446744073709551616)])) W := by
  rw [run_callFunc_extern Tryz.func153 (by kernel_rfl) (by kernel_rfl) (by kernel_rfl) (e := add64Entry) (by kernel_rfl), run_add64 x y c hx hy hc0 hc]
  rfl
theorem sub64_x (x y b : Int) (hx : 0 ≤ x) (hy : 0 ≤ y) (hx' : x < 18446744073709551616) (hy' : y < 18446744073709551616) (hb : b = 0 ∨ b = 1) (W : World) : (callFunc 155 #[.int .u64 x, .int .u64 y, .int .u64 b]).run Tryz.prog W = .ok (.value (.tuple #[.int .u64 ((x - y - b) % 18446744073709551616), .int .u64 (if x < y + b then 1 else 0)])) W := by
  rw [run_callFunc_extern Tryz.func155 (by kernel_rfl) (by kernel_rfl) (by kernel_rfl) (e := (Extern.MathBitsCarry.rows.getD 1 default).2) (by kernel_rfl)]
  obtain ⟨X, rfl⟩ := Int.eq_ofNat_of_zero_le hx
  obtain ⟨Y, rfl⟩ := Int.eq_ofNat_of_zero_le hy
  have key : ∀ k : Nat, k ≤ 1 → ((Extern.MathBitsCarry.rows.getD 1 default).2 #[.int .u64 (X : Int), .int .u64 (Y : Int), .int .u64 (k : Int)]).run Tryz.prog W = .ok (.tuple #[.int .u64 (((X + 18446744073709551616 - Y - k) % 18446744073709551616 : Nat) : Int), .int .u64 ((if X < Y + k then 1 else 0 : Nat) : Int)]) W := by
    intro k hk
    have : k = 0 ∨ k = 1 := by omega
    rcases this with rfl | rfl <;> rfl
  have fin : ∀ k : Nat, k ≤ 1 → b = (k : Int) → (((Extern.MathBitsCarry.rows.getD 1 default).2 #[.int .u64 (X : Int), .int .u64 (Y : Int), .int .u64 b]).run Tryz.prog W).andThen (fun v w' => Result.ok (Next.value v) w') = .ok (.value (.tuple #[.int .u64 (((X : Int) - Y - b) % 18446744073709551616), .int .u64 (if (X : Int) < Y + b then 1 else 0)])) W := by
    intro k hk e
    rw [e, key k hk]
    have e1 : (((X + 18446744073709551616 - Y - k) % 18446744073709551616 : Nat) : Int) = ((X : Int) - Y - k) % 18446744073709551616 := by omega
    have e2 : ((if X < Y + k then 1 else 0 : Nat) : Int) = if (X : Int) < Y + k then 1 else 0 := by split <;> split <;> omega
    rw [e1, e2]
    rfl
  rcases hb with rfl | rfl
  · exact fin 0 (by omega) rfl
  · exact fin 1 (by omega) rfl
theorem mul64_d (x y : Int) (hx : 0 ≤ x) (hy : 0 ≤ y) (hx' : x < 18446744073709551616) (hy' : y < 18446744073709551616) : Den Tryz.prog 156 #[.int .u64 x, .int .u64 y] noFacts (.tuple #[.int .u64 (x * y / 18446744073709551616), .int .u64 (x * y % 18446744073709551616)]) := by
  obtain ⟨X, rfl⟩ := Int.eq_ofNat_of_zero_le hx
  obtain ⟨Y, rfl⟩ := Int.eq_ofNat_of_zero_le hy
  refine ⟨fun W _ => (Tryz.bits_Mul64 X Y (by omega) (by omega) W).mono fun e w' ⟨h1, h2⟩ => ⟨?_, h2 ▸ Below.refl _ _⟩⟩
  rw [h1]
  simp
theorem sign_d (n : Int) (h : IS n) : Den Tryz.prog 154 #[.int .i64 n] noFacts (.int .u64 (if n < 0 then 18446744073709551615 else 0)) := by
  refine den_of_body (args := [.int .i64 n]) hmix Tryz.func154 ?_
  (repeat' ((conv => whnf); first | refine Ob.mk (by decide) ?_ | refine AdN.mk _ _ rfl ?_ | refine DrawN.a (Ob.mk (by decide +kernel) ?_) | refine DrawN.c (Ob.mk (by decide +kernel) ?_) | refine DrawN.b (Ob.mk (by decide +kernel) ?_) | refine Ob.mk (by kernel_rfl) ?_ | (refine Br.mk (fun h => ?_) (fun h => ?_) <;> (first | (exfalso; exact Bool.false_ne_true h) | (exfalso; exact Bool.false_ne_true h.symm) | skip)) | refine SeqN.go ?_)); all_goals (conv => whnf)
  have e : n.fdiv (2 ^ min (Int.toNat 63) IntKind.i64.bits) = n / 9223372036854775808 := by
    rw [show ((2 : Int) ^ min (Int.toNat 63) IntKind.i64.bits) = 9223372036854775808 by decide +kernel]
    exact Int.fdiv_eq_ediv_of_nonneg n (by decide)
  show Value.int .u64 _ = _
  rw [e, us_eq]
  congr 1
  unfold us
  split <;> omega
/-- An exact result, in two limbs. -/
def wdv (z : Int) : Value := .agg #[.int .u64 (z % 18446744073709551616), .int .u64 (z / 18446744073709551616 % 18446744073709551616)]
def wex (op x y : Int) : Int := if op = 13 then x + y else if op = 14 then x - y else x * y
theorem agg2 {a b c d : Int} (h : a = c) (k : b = d) : Value.agg #[.int .u64 a, .int .u64 b] = .agg #[.int .u64 c, .int .u64 d] := by rw [h, k]
theorem exact13_d (x y : Int) (hx : IS x) (hy : IS y) : Den Tryz.prog 73 #[.int .i64 13, .int .i64 x, .int .i64 y] noFacts (wdv (x + y)) := by
  refine den_of_body (args := [.int .i64 13, .int .i64 x, .int .i64 y]) hmix Tryz.func73 ?_
  have r1 := us_rng x
  have r2 := us_rng y
  rw [← us_eq] at r1 r2
  have S1 := sign_d x hx
  have S2 := sign_d y hy
  have A1 := add64_x (IntKind.u64.wrap x) (IntKind.u64.wrap y) 0 r1.1 r2.1 (by decide) (by decide)
  have A2 := add64_x (if x < 0 then 18446744073709551615 else 0) (if y < 0 then 18446744073709551615 else 0) ((IntKind.u64.wrap x + IntKind.u64.wrap y + 0) / 18446744073709551616) (by split <;> decide) (by split <;> decide) (by omega) (by omega)
  (repeat' ((conv => whnf); first | refine CallN.any _ S1 ?_ | refine CallN.any _ S2 ?_ | refine ExtN.mk _ A1 ?_ | refine ExtN.mk _ A2 ?_ | refine AdN.mk _ _ rfl ?_ | refine DrawN.a (Ob.mk (by decide +kernel) ?_) | refine DrawN.c (Ob.mk (by decide +kernel) ?_) | refine DrawN.b (Ob.mk (by decide +kernel) ?_) | refine Ob.mk (by kernel_rfl) ?_ | (refine Br.mk (fun h => ?_) (fun h => ?_) <;> (first | (exfalso; exact Bool.false_ne_true h) | (exfalso; exact Bool.false_ne_true h.symm) | skip)) | refine SeqN.go ?_)); all_goals (conv => whnf)
  · refine agg2 ?_ ?_
    · rw [us_eq, us_eq]; unfold us; omega
    · rw [us_eq, us_eq]; unfold us; split <;> split <;> omega
  all_goals (exfalso; simp at *; done)
theorem exact14_d (x y : Int) (hx : IS x) (hy : IS y) : Den Tryz.prog 73 #[.int .i64 14, .int .i64 x, .int .i64 y] noFacts (wdv (x - y)) := by
  refine den_of_body (args := [.int .i64 14, .int .i64 x, .int .i64 y]) hmix Tryz.func73 ?_
  have r1 := us_rng x
  have r2 := us_rng y
  rw [← us_eq] at r1 r2
  have S1 := sign_d x hx
  have S2 := sign_d y hy
  have A1 := sub64_x (IntKind.u64.wrap x) (IntKind.u64.wrap y) 0 r1.1 r2.1 (by omega) (by omega) (.inl rfl)
  have A2 := sub64_x (if x < 0 then 18446744073709551615 else 0) (if y < 0 then 18446744073709551615 else 0) (if IntKind.u64.wrap x < IntKind.u64.wrap y + 0 then 1 else 0) (by split <;> decide) (by split <;> decide) (by split <;> decide) (by split <;> decide) (by split <;> simp)
  (repeat' ((conv => whnf); first | refine CallN.any _ S1 ?_ | refine CallN.any _ S2 ?_ | refine ExtN.mk _ A1 ?_ | refine ExtN.mk _ A2 ?_ | refine AdN.mk _ _ rfl ?_ | refine DrawN.a (Ob.mk (by decide +kernel) ?_) | refine DrawN.c (Ob.mk (by decide +kernel) ?_) | refine DrawN.b (Ob.mk (by decide +kernel) ?_) | refine Ob.mk (by kernel_rfl) ?_ | (refine Br.mk (fun h => ?_) (fun h => ?_) <;> (first | (exfalso; exact Bool.false_ne_true h) | (exfalso; exact Bool.false_ne_true h.symm) | skip)) | refine SeqN.go ?_)); all_goals (conv => whnf)
  all_goals first
    | (exfalso; simp at *; done)
    | (refine agg2 ?_ ?_
       · rw [us_eq, us_eq]; unfold us; omega
       · rw [us_eq, us_eq]; unfold us; split <;> split <;> split <;> omega)
theorem and_mask {w : Int} (h : IU w) (b : Prop) [Decidable b] : IntKind.u64.wrap (((BitVec.ofInt IntKind.u64.bits (if b then 18446744073709551615 else 0) &&& BitVec.ofInt IntKind.u64.bits w).toNat : Nat) : Int) = if b then w else 0 := by
  have e : ((BitVec.ofInt 64 w).toNat : Int) = w := by
    rw [BitVec.toNat_ofInt]
    have := h.1; have := h.2
    omega
  split
  · have e1 : (BitVec.ofInt 64 18446744073709551615) = BitVec.allOnes 64 := by decide
    show IntKind.u64.wrap (((BitVec.ofInt 64 18446744073709551615 &&& BitVec.ofInt 64 w).toNat : Nat) : Int) = w
    rw [e1, BitVec.allOnes_and, e, us_eq, us_in w h.1 h.2]
  · show IntKind.u64.wrap (((BitVec.ofInt 64 0 &&& BitVec.ofInt 64 w).toNat : Nat) : Int) = 0
    have e0 : BitVec.ofInt 64 0 = 0#64 := by decide
    rw [e0, BitVec.zero_and]
    decide
theorem us_neg {x : Int} (h : IS x) : us x = if x < 0 then x + 18446744073709551616 else x := by
  have := h.1; have := h.2
  unfold us; split <;> omega
theorem mul_hi {x y : Int} (hx : IS x) (hy : IS y) : us (us (us x * us y / 18446744073709551616 - (if x < 0 then us y else 0)) - (if y < 0 then us x else 0)) = x * y / 18446744073709551616 % 18446744073709551616 := by
  rw [us_neg hx, us_neg hy]
  have hB : (18446744073709551616 : Int) ≠ 0 := by decide
  by_cases h1 : x < 0 <;> by_cases h2 : y < 0
  · simp only [h1, h2, if_true]
    have e : (x + 18446744073709551616) * (y + 18446744073709551616) = x * y + (x + y + 18446744073709551616) * 18446744073709551616 := by
      simp only [Int.add_mul, Int.mul_add]; omega
    rw [e, Int.add_mul_ediv_right _ _ hB]
    unfold us
    omega
  · simp only [h1, h2, if_true, if_false]
    have e : (x + 18446744073709551616) * y = x * y + y * 18446744073709551616 := by
      simp only [Int.add_mul]; omega
    rw [e, Int.add_mul_ediv_right _ _ hB]
    unfold us
    omega
  · simp only [h1, h2, if_true, if_false]
    have e : x * (y + 18446744073709551616) = x * y + x * 18446744073709551616 := by
      simp only [Int.mul_add]
    rw [e, Int.add_mul_ediv_right _ _ hB]
    unfold us
    omega
  · simp only [h1, h2, if_false]
    unfold us
    omega
theorem exact15_d (x y : Int) (hx : IS x) (hy : IS y) : Den Tryz.prog 73 #[.int .i64 15, .int .i64 x, .int .i64 y] noFacts (wdv (x * y)) := by
  refine den_of_body (args := [.int .i64 15, .int .i64 x, .int .i64 y]) hmix Tryz.func73 ?_
  have r1 := us_rng x
  have r2 := us_rng y
  rw [← us_eq] at r1 r2
  have S1 := sign_d x hx
  have S2 := sign_d y hy
  have M := mul64_d (IntKind.u64.wrap x) (IntKind.u64.wrap y) r1.1 r2.1 (by omega) (by omega)
  (repeat' ((conv => whnf); first | refine CallN.any _ S1 ?_ | refine CallN.any _ S2 ?_ | refine CallN.any _ M ?_ | refine AdN.mk _ _ rfl ?_ | refine DrawN.a (Ob.mk (by decide +kernel) ?_) | refine DrawN.c (Ob.mk (by decide +kernel) ?_) | refine DrawN.b (Ob.mk (by decide +kernel) ?_) | refine Ob.mk (by kernel_rfl) ?_ | (refine Br.mk (fun h => ?_) (fun h => ?_) <;> (first | (exfalso; exact Bool.false_ne_true h) | (exfalso; exact Bool.false_ne_true h.symm) | skip)) | refine SeqN.go ?_)); all_goals (conv => whnf)
  all_goals first
    | (exfalso; simp at *; done)
    | (refine agg2 ?_ ?_
       · rw [us_eq, us_eq]
         show us x * us y % 18446744073709551616 = _
         exact us_mul x y
       · rw [and_mask r2, and_mask r1]
         simp only [us_eq]
         exact mul_hi hx hy)
/-- An operator's exact result. -/
theorem exact_d (op x y : Int) (ho : op = 13 ∨ op = 14 ∨ op = 15) (hx : IS x) (hy : IS y) : Den Tryz.prog 73 #[.int .i64 op, .int .i64 x, .int .i64 y] noFacts (wdv (wex op x y)) := by
  rcases ho with rfl | rfl | rfl
  · exact exact13_d x y hx hy
  · exact exact14_d x y hx hy
  · exact exact15_d x y hx hy
/-- In the range of exact results. -/
abbrev IW (z : Int) : Prop := -85070591730234615865843651857942052864 ≤ z ∧ z ≤ 85070591730234615865843651857942052864
theorem less_d (z w : Int) (hz : IW z) (hw : IW w) : Den Tryz.prog 157 #[wdv z, wdv w] noFacts (.bool (decide (z < w))) := by
  refine den_of_body (args := [wdv z, wdv w]) hmix Tryz.func157 ?_
  (repeat' ((conv => whnf); first | refine Ob.mk (by decide) ?_ | refine AdN.mk _ _ rfl ?_ | refine DrawN.a (Ob.mk (by decide +kernel) ?_) | refine DrawN.c (Ob.mk (by decide +kernel) ?_) | refine DrawN.b (Ob.mk (by decide +kernel) ?_) | refine Ob.mk (by kernel_rfl) ?_ | (refine Br.mk (fun h => ?_) (fun h => ?_) <;> (first | (exfalso; exact Bool.false_ne_true h) | (exfalso; exact Bool.false_ne_true h.symm) | skip)) | refine SeqN.go ?_)); all_goals (conv => whnf)
  · have h : z / 18446744073709551616 % 18446744073709551616 ≠ w / 18446744073709551616 % 18446744073709551616 := by simpa using h
    show Value.bool _ = Value.bool _
    refine congrArg Value.bool (decide_eq_decide.2 ?_)
    rw [sg_eq, sg_eq]
    unfold sg
    omega
  · have h : z / 18446744073709551616 % 18446744073709551616 = w / 18446744073709551616 % 18446744073709551616 := by simpa using h
    show Value.bool _ = Value.bool _
    refine congrArg Value.bool (decide_eq_decide.2 ?_)
    omega
theorem round_d (z : Int) (hz : IW z) : Den Tryz.prog 76 #[wdv z] noFacts (.agg #[.int .u64 0, .int .u64 ((z + 9223372036854775808) / 18446744073709551616 % 18446744073709551616)]) := by
  refine den_of_body (args := [wdv z]) hmix Tryz.func76 ?_
  have A := add64_x (z % 18446744073709551616) 9223372036854775808 0 (by omega) (by decide) (by decide) (by decide)
  (repeat' ((conv => whnf); first | refine ExtN.mk _ A ?_ | refine Ob.mk (by decide) ?_ | refine AdN.mk _ _ rfl ?_ | refine DrawN.a (Ob.mk (by decide +kernel) ?_) | refine DrawN.c (Ob.mk (by decide +kernel) ?_) | refine DrawN.b (Ob.mk (by decide +kernel) ?_) | refine Ob.mk (by kernel_rfl) ?_ | (refine Br.mk (fun h => ?_) (fun h => ?_) <;> (first | (exfalso; exact Bool.false_ne_true h) | (exfalso; exact Bool.false_ne_true h.symm) | skip)) | refine SeqN.go ?_)); all_goals (conv => whnf)
  refine agg2 rfl ?_
  rw [us_eq]
  unfold us
  omega
theorem wex_in {op x y : Int} (hx : IS x) (hy : IS y) : IW (wex op x y) := by
  have a := hx.1; have b := hx.2; have c := hy.1; have d := hy.2
  unfold wex
  split
  · exact ⟨by omega, by omega⟩
  · split
    · exact ⟨by omega, by omega⟩
    · have h1 : x * y ≤ 9223372036854775808 * 9223372036854775808 := by
        rcases Int.le_total 0 x with h | h <;> rcases Int.le_total 0 y with k | k
        · exact Int.mul_le_mul (by omega) (by omega) k (by decide)
        · have := Int.mul_nonpos_of_nonneg_of_nonpos h k; omega
        · have := Int.mul_nonpos_of_nonpos_of_nonneg h k; omega
        · have := Int.mul_le_mul (a := -x) (b := -y) (c := 9223372036854775808) (d := 9223372036854775808) (by omega) (by omega) (by omega) (by decide)
          rw [Int.neg_mul_neg] at this; exact this
      have h2 : -(9223372036854775808 * 9223372036854775808) ≤ x * y := by
        rcases Int.le_total 0 x with h | h <;> rcases Int.le_total 0 y with k | k
        · have := Int.mul_nonneg h k; omega
        · have := Int.mul_le_mul (a := x) (b := -y) (c := 9223372036854775808) (d := 9223372036854775808) (by omega) (by omega) (by omega) (by decide)
          rw [Int.mul_neg] at this; omega
        · have := Int.mul_le_mul (a := -x) (b := y) (c := 9223372036854775808) (d := 9223372036854775808) (by omega) (by omega) (by omega) (by decide)
          rw [Int.neg_mul] at this; omega
        · have := Int.mul_nonneg_of_nonpos_of_nonpos h k; omega
      exact ⟨by omega, by omega⟩
/-- The least and the greatest exact result, as they are found. -/
def wmin (a b : Int) : Int := if a < b then a else b
def wmax (a b : Int) : Int := if b < a then a else b
def spanL (op : Int) (a b : VV) : Int := wmin (wex op a.hi b.hi) (wmin (wex op a.hi b.lo) (wmin (wex op a.lo b.hi) (wex op a.lo b.lo)))
def spanG (op : Int) (a b : VV) : Int := wmax (wex op a.hi b.hi) (wmax (wex op a.hi b.lo) (wmax (wex op a.lo b.hi) (wex op a.lo b.lo)))
/-! Contracts of package arith: the span of exact results. -/
set_option maxHeartbeats 2000000 in
theorem span_d (op : Int) (a b : VV) (ho : op = 13 ∨ op = 14 ∨ op = 15) (ha : InV a) (hb : InV b) : Den Tryz.prog 74 #[.int .i64 op, VVal a, VVal b] noFacts (.tuple #[wdv (spanL op a b), wdv (spanG op a b)]) := by
  refine den_of_body (args := [.int .i64 op, VVal a, VVal b]) hmix Tryz.func74 ?_
  have X : ∀ x y, IS x → IS y → Den Tryz.prog 73 #[.int .i64 op, .int .i64 x, .int .i64 y] noFacts (wdv (wex op x y)) := fun x y hx hy => exact_d op x y ho hx hy
  have X1 := X _ _ ha.lo hb.lo
  have X2 := X _ _ ha.lo hb.hi
  have X3 := X _ _ ha.hi hb.lo
  have X4 := X _ _ ha.hi hb.hi
  have i1 := wex_in (op := op) ha.lo hb.lo
  have i2 := wex_in (op := op) ha.lo hb.hi
  have i3 := wex_in (op := op) ha.hi hb.lo
  have i4 := wex_in (op := op) ha.hi hb.hi
  clear X
  unfold spanL spanG
  generalize wex op a.lo b.lo = z1 at *
  generalize wex op a.lo b.hi = z2 at *
  generalize wex op a.hi b.lo = z3 at *
  generalize wex op a.hi b.hi = z4 at *
  have L21 := less_d z2 z1 i2 i1
  have L12 := less_d z1 z2 i1 i2
  have L31 := less_d z3 z1 i3 i1
  have L13 := less_d z1 z3 i1 i3
  have L41 := less_d z4 z1 i4 i1
  have L14 := less_d z1 z4 i1 i4
  have L32 := less_d z3 z2 i3 i2
  have L23 := less_d z2 z3 i2 i3
  have L42 := less_d z4 z2 i4 i2
  have L24 := less_d z2 z4 i2 i4
  have L43 := less_d z4 z3 i4 i3
  have L34 := less_d z3 z4 i3 i4
  (repeat' ((conv => whnf); first | refine CallN.any _ X1 ?_ | refine CallN.any _ X2 ?_ | refine CallN.any _ X3 ?_ | refine CallN.any _ X4 ?_ | refine CallN.any _ L21 ?_ | refine CallN.any _ L12 ?_ | refine CallN.any _ L31 ?_ | refine CallN.any _ L13 ?_ | refine CallN.any _ L41 ?_ | refine CallN.any _ L14 ?_ | refine CallN.any _ L32 ?_ | refine CallN.any _ L23 ?_ | refine CallN.any _ L42 ?_ | refine CallN.any _ L24 ?_ | refine CallN.any _ L43 ?_ | refine CallN.any _ L34 ?_ | refine LoopN.roll 5 ?_ | refine Ob.mk (by decide) ?_ | refine Ob.mk ⟨by decide, by decide⟩ ?_ | refine AdN.mk _ _ rfl ?_ | refine DrawN.a (Ob.mk (by decide +kernel) ?_) | refine DrawN.c (Ob.mk (by decide +kernel) ?_) | refine DrawN.b (Ob.mk (by decide +kernel) ?_) | refine Ob.mk (by kernel_rfl) ?_ | (refine Br.mk (fun h => ?_) (fun h => ?_) <;> (first | (exfalso; exact Bool.false_ne_true h) | (exfalso; exact Bool.false_ne_true h.symm) | skip)) | refine SeqN.go ?_)); all_goals (conv => whnf)
  all_goals (clear X1 X2 X3 X4 L21 L12 L31 L13 L41 L14 L32 L23 L42 L24 L43 L34; simp only [decide_eq_true_eq, decide_eq_false_iff_not] at *; (simp only [wmin, wmax, *, if_true, if_false]); rfl)
end Go.Proofs.YtljhbdgoknfkcaaGreatDoor
