/- Contracts of the reference's numbers by their digits: what is turned about, products, shifts, digit by digit. -/
import Derived.Test.YtljhbdgoknfkcaaGreatDoorZ2
namespace Go.Proofs.YtljhbdgoknfkcaaGreatDoor
open Go Go.RowKit Go.Sort
set_option linter.unusedVariables false
set_option linter.unusedSimpArgs false
set_option maxRecDepth 100000

theorem inv_set {a v : Int} {i : Nat} (j : Nat) (hv : v = 1 - dg a i) : (if j = i then v else if j < i then 1 - dg a j else dg a j) = if j < i + 1 then 1 - dg a j else dg a j := by
  by_cases h : j = i
  · subst h
    rw [if_pos rfl, if_pos (Nat.lt_succ_self _), hv]
  · rw [if_neg h]
    by_cases h2 : j < i
    · rw [if_pos h2, if_pos (by omega)]
    · rw [if_neg h2, if_neg (by omega)]
theorem w8 {x : Int} (hx : 0 ≤ x ∧ x ≤ 1) : IntKind.i64.wrap (1 - x) = 1 - x := by rw [sg_eq]; exact sg_in _ (by omega) (by omega)
set_option maxHeartbeats 2000000 in
theorem rInv_d (a : Int) : Den Tryz.prog 229 #[.int .i64 a] noFacts (.int .i64 (IntKind.i64.wrap (-1 - a))) := by
  refine den_of_body (args := [.int .i64 a]) hmix Tryz.func229 ?_
  have A := rDigits_d a
  (repeat' ((conv => whnf); first | refine CallN.big _ A ?_ | refine Ob.mk (okA0 _ rfl) ?_ | refine AdN.mk _ _ rfl ?_ | refine DrawN.a (Ob.mk (by decide +kernel) ?_) | refine DrawN.c (Ob.mk (by decide +kernel) ?_) | refine DrawN.b (Ob.mk (by decide +kernel) ?_) | refine Ob.mk (by kernel_rfl) ?_ | (refine Br.mk (fun h => ?_) (fun h => ?_) <;> (first | (exfalso; exact Bool.false_ne_true h) | (exfalso; exact Bool.false_ne_true h.symm) | skip)))); all_goals (conv => whnf)
  refine SeqN.go ?_
  (repeat' ((conv => whnf); first | refine AdN.mk _ _ rfl ?_ | refine DrawN.a (Ob.mk (by decide +kernel) ?_) | refine DrawN.c (Ob.mk (by decide +kernel) ?_) | refine DrawN.b (Ob.mk (by decide +kernel) ?_) | refine Ob.mk (by kernel_rfl) ?_ | (refine Br.mk (fun h => ?_) (fun h => ?_) <;> (first | (exfalso; exact Bool.false_ne_true h) | (exfalso; exact Bool.false_ne_true h.symm) | skip)))); all_goals (conv => whnf)
  refine LoopN.mk {i : Nat // i ≤ 64} (fun i => [(4, .v (.int .i64 i.1))]) (fun i => [.arr (arrL fun j => if j < i.1 then 1 - dg a j else dg a j)]) (fun i => 64 - i.1) ⟨0, Nat.zero_le _⟩ ?_ ?_
  · (conv => whnf); (repeat' (first | exact True.intro | exact rfl | refine And.intro ?_ ?_ | decide))
  (conv => whnf)
  rintro ⟨i, hi⟩
  by_cases hl : i < 64
  · (repeat' ((conv => whnf); first | refine Ob.mk (idxI hl) ?_ | refine rowA0 i rfl hl ?_ | refine Ob.mk (by decide) ?_ | refine Ob.mk (fitA i rfl hl) ?_ | refine AdN.mk _ _ rfl ?_ | refine DrawN.a (Ob.mk (by decide +kernel) ?_) | refine DrawN.c (Ob.mk (by decide +kernel) ?_) | refine DrawN.b (Ob.mk (by decide +kernel) ?_) | refine Ob.mk (by kernel_rfl) ?_ | (refine Br.mk (fun h => ?_) (fun h => ?_) <;> (first | (exfalso; exact Bool.false_ne_true h) | (exfalso; exact Bool.false_ne_true h.symm) | (exfalso; exact absurd (Int.ofNat_lt.2 hl) (of_decide_eq_false ‹_›)) | skip)) | refine SeqN.go ?_)); all_goals (conv => whnf)
    refine RoundN.mk ⟨i + 1, hl⟩ (Nat.sub_succ_lt_self _ _ hl) ?_
    have hself : (if i < i then 1 - dg a i else dg a i) = dg a i := if_neg (Nat.lt_irrefl i)
    (conv => whnf); (repeat' (first | exact True.intro | exact rfl | refine And.intro ?_ ?_ | decide))
    all_goals first
      | exact congrArg (Value.int _) (wi64 hl)
      | exact (storeA i rfl hl).trans (arrL_congr fun j hj => inv_set j ((congrArg (fun x => IntKind.i64.wrap (1 - x)) hself).trans (w8 (dg_in a i))))
      | trace_state
  · obtain rfl : i = 64 := Nat.le_antisymm hi (Nat.le_of_not_lt hl)
    have N := rNumber_d (fun j => if j < 64 then 1 - dg a j else dg a j) (fun j => by have := dg_in a j; split <;> omega)
    have e : IntKind.i64.wrap (vb (fun j => if j < 64 then 1 - dg a j else dg a j) 64) = IntKind.i64.wrap (-1 - a) := vb_eq fun j hj => (if_pos hj).trans (dg_inv a j).symm
    rw [e] at N
    (repeat' ((conv => whnf); first | refine CallN.any _ N ?_ | refine allA ?_ | refine AdN.mk _ _ rfl ?_ | refine DrawN.a (Ob.mk (by decide +kernel) ?_) | refine DrawN.c (Ob.mk (by decide +kernel) ?_) | refine DrawN.b (Ob.mk (by decide +kernel) ?_) | refine Ob.mk (by kernel_rfl) ?_ | (refine Br.mk (fun h => ?_) (fun h => ?_) <;> (first | (exfalso; exact Bool.false_ne_true h) | (exfalso; exact Bool.false_ne_true h.symm) | (exfalso; exact absurd (Int.ofNat_lt.1 (of_decide_eq_true ‹_›)) hl) | skip)) | refine SeqN.go ?_)); all_goals (conv => whnf)
    rfl
theorem neg_w (a : Int) : IntKind.i64.wrap (IntKind.i64.wrap (-1 - a) + 1) = IntKind.i64.wrap (-a) := by simp only [sg_eq]; unfold sg; omega
theorem rNeg_d (a : Int) : Den Tryz.prog 167 #[.int .i64 a] noFacts (.int .i64 (IntKind.i64.wrap (-a))) := by
  refine den_of_body (args := [.int .i64 a]) hmix Tryz.func167 ?_
  have A := rInv_d a
  have B := rAdd_d (IntKind.i64.wrap (-1 - a)) 1
  rw [neg_w] at B
  (repeat' ((conv => whnf); first | refine CallN.any _ A ?_ | refine CallN.any _ B ?_ | refine AdN.mk _ _ rfl ?_ | refine DrawN.a (Ob.mk (by decide +kernel) ?_) | refine DrawN.c (Ob.mk (by decide +kernel) ?_) | refine DrawN.b (Ob.mk (by decide +kernel) ?_) | refine Ob.mk (by kernel_rfl) ?_ | (refine Br.mk (fun h => ?_) (fun h => ?_) <;> (first | (exfalso; exact Bool.false_ne_true h) | (exfalso; exact Bool.false_ne_true h.symm) | skip)) | refine SeqN.go ?_)); all_goals (conv => whnf)
  rfl
theorem beq1 {x : Int} (h : (x == 1) = true) : x = 1 := by simpa using h
theorem bne1 {x : Int} (h : (x == 1) = false) : x ≠ 1 := by simpa using h
theorem mul_s1 {a : Int} (ha : IS a) : IntKind.i64.wrap (a * 2 ^ 0) = a := by rw [Int.pow_zero, Int.mul_one, sg_eq]; exact sg_in _ ha.1 ha.2
theorem mul_s2 (a b : Int) : IntKind.i64.wrap (a * (b % 2 ^ 0)) = 0 := by rw [Int.pow_zero, Int.emod_one, Int.mul_zero]; rfl
set_option maxHeartbeats 2000000 in
theorem rMul_d (a b : Int) (ha : IS a) : Den Tryz.prog 168 #[.int .i64 a, .int .i64 b] noFacts (.int .i64 (IntKind.i64.wrap (a * b))) := by
  refine den_of_body (args := [.int .i64 a, .int .i64 b]) hmix Tryz.func168 ?_
  have B := rDigits_d b
  (repeat' ((conv => whnf); first | refine CallN.big _ B ?_ | refine Ob.mk (okA0 _ rfl) ?_ | refine AdN.mk _ _ rfl ?_ | refine DrawN.a (Ob.mk (by decide +kernel) ?_) | refine DrawN.c (Ob.mk (by decide +kernel) ?_) | refine DrawN.b (Ob.mk (by decide +kernel) ?_) | refine Ob.mk (by kernel_rfl) ?_ | (refine Br.mk (fun h => ?_) (fun h => ?_) <;> (first | (exfalso; exact Bool.false_ne_true h) | (exfalso; exact Bool.false_ne_true h.symm) | skip)))); all_goals (conv => whnf)
  refine SeqN.go ?_
  (repeat' ((conv => whnf); first | refine AdN.mk _ _ rfl ?_ | refine DrawN.a (Ob.mk (by decide +kernel) ?_) | refine DrawN.c (Ob.mk (by decide +kernel) ?_) | refine DrawN.b (Ob.mk (by decide +kernel) ?_) | refine Ob.mk (by kernel_rfl) ?_ | (refine Br.mk (fun h => ?_) (fun h => ?_) <;> (first | (exfalso; exact Bool.false_ne_true h) | (exfalso; exact Bool.false_ne_true h.symm) | skip)))); all_goals (conv => whnf)
  refine LoopN.mk {i : Nat // i ≤ 64} (fun i => [(0, .v (.int .i64 (IntKind.i64.wrap (a * 2 ^ i.1)))), (7, .v (.int .i64 i.1)), (6, .v (.int .i64 (IntKind.i64.wrap (a * (b % 2 ^ i.1)))))]) (fun i => [.arr (arrL (dg b))]) (fun i => 64 - i.1) ⟨0, Nat.zero_le _⟩ ?_ ?_
  · (conv => whnf); (repeat' (first | exact True.intro | exact rfl | refine And.intro ?_ ?_ | decide))
    · exact congrArg (Value.int _) (mul_s1 ha).symm
    · exact congrArg (Value.int _) (mul_s2 a b).symm
  (conv => whnf)
  rintro ⟨i, hi⟩
  by_cases hl : i < 64
  · have D1 := rAdd_d (IntKind.i64.wrap (a * (b % 2 ^ i))) (IntKind.i64.wrap (a * 2 ^ i))
    have D2 := rAdd_d (IntKind.i64.wrap (a * 2 ^ i)) (IntKind.i64.wrap (a * 2 ^ i))
    rw [mul_dbl] at D2
    (repeat' ((conv => whnf); first | refine CallN.any _ D1 ?_ | refine CallN.any _ D2 ?_ | refine Ob.mk (idxI hl) ?_ | refine rowA0 i rfl hl ?_ | refine AdN.mk _ _ rfl ?_ | refine DrawN.a (Ob.mk (by decide +kernel) ?_) | refine DrawN.c (Ob.mk (by decide +kernel) ?_) | refine DrawN.b (Ob.mk (by decide +kernel) ?_) | refine Ob.mk (by kernel_rfl) ?_ | (refine Br.mk (fun h => ?_) (fun h => ?_) <;> (first | (exfalso; exact Bool.false_ne_true h) | (exfalso; exact Bool.false_ne_true h.symm) | (exfalso; exact absurd (Int.ofNat_lt.2 hl) (of_decide_eq_false ‹_›)) | skip)) | refine SeqN.go ?_)); all_goals (conv => whnf)
    · refine RoundN.mk ⟨i + 1, hl⟩ (Nat.sub_succ_lt_self _ _ hl) ?_
      (conv => whnf); (repeat' (first | exact True.intro | exact rfl | refine And.intro ?_ ?_ | decide))
      all_goals first | exact congrArg (Value.int _) (wi64 hl) | exact congrArg (Value.int _) (mul_dig (beq1 ‹_›)) | trace_state
    · refine RoundN.mk ⟨i + 1, hl⟩ (Nat.sub_succ_lt_self _ _ hl) ?_
      (conv => whnf); (repeat' (first | exact True.intro | exact rfl | refine And.intro ?_ ?_ | decide))
      all_goals first | exact congrArg (Value.int _) (wi64 hl) | exact congrArg (fun x => Value.int .i64 (IntKind.i64.wrap x)) (mul_dig0 (bne1 ‹_›)).symm | trace_state
  · obtain rfl : i = 64 := Nat.le_antisymm hi (Nat.le_of_not_lt hl)
    (repeat' ((conv => whnf); first | refine AdN.mk _ _ rfl ?_ | refine DrawN.a (Ob.mk (by decide +kernel) ?_) | refine DrawN.c (Ob.mk (by decide +kernel) ?_) | refine DrawN.b (Ob.mk (by decide +kernel) ?_) | refine Ob.mk (by kernel_rfl) ?_ | (refine Br.mk (fun h => ?_) (fun h => ?_) <;> (first | (exfalso; exact Bool.false_ne_true h) | (exfalso; exact Bool.false_ne_true h.symm) | (exfalso; exact absurd (Int.ofNat_lt.1 (of_decide_eq_true ‹_›)) hl) | skip)) | refine SeqN.go ?_)); all_goals (conv => whnf)
    exact congrArg (Value.int _) (wrap_mul_mod a b)
theorem low6 (b : Int) : up (dg b) 6 0 = b % 64 := by
  have := vb_up (dg b) 6 0
  rw [vb_dg, vb_dg] at this
  simp at this
  omega
theorem up6 {f : Nat → Int} (h : ∀ i, 0 ≤ f i ∧ f i ≤ 1) {j k : Nat} (hk : k + 1 ≤ 6) : IntKind.i64.wrap (IntKind.i64.wrap (2 * up f k (j + 1)) + f j) = up f (k + 1) j := by
  have h1 := up_in h k (j + 1)
  have h2 := h j
  have h3 : (2 : Int) ^ k ≤ 64 := by
    have : 2 ^ k ≤ 2 ^ 6 := Nat.pow_le_pow_right (by decide) (by omega)
    have e : (2 : Int) ^ k = ((2 ^ k : Nat) : Int) := by simp
    rw [e]
    omega
  have q1 : sg (2 * up f k (j + 1)) = 2 * up f k (j + 1) := sg_in _ (by omega) (by omega)
  simp only [sg_eq]
  rw [q1]
  show _ = f j + 2 * up f k (j + 1)
  rw [sg_in _ (by omega) (by omega)]
  omega
set_option maxHeartbeats 2000000 in
theorem rShiftN_d (b : Int) : Den Tryz.prog 165 #[.int .i64 b] noFacts (.int .i64 (b % 64)) := by
  refine den_of_body (args := [.int .i64 b]) hmix Tryz.func165 ?_
  have B := rDigits_d b
  (repeat' ((conv => whnf); first | refine CallN.big _ B ?_ | refine Ob.mk (okA0 _ rfl) ?_ | refine AdN.mk _ _ rfl ?_ | refine DrawN.a (Ob.mk (by decide +kernel) ?_) | refine DrawN.c (Ob.mk (by decide +kernel) ?_) | refine DrawN.b (Ob.mk (by decide +kernel) ?_) | refine Ob.mk (by kernel_rfl) ?_ | (refine Br.mk (fun h => ?_) (fun h => ?_) <;> (first | (exfalso; exact Bool.false_ne_true h) | (exfalso; exact Bool.false_ne_true h.symm) | skip)))); all_goals (conv => whnf)
  refine SeqN.go ?_
  (repeat' ((conv => whnf); first | refine AdN.mk _ _ rfl ?_ | refine DrawN.a (Ob.mk (by decide +kernel) ?_) | refine DrawN.c (Ob.mk (by decide +kernel) ?_) | refine DrawN.b (Ob.mk (by decide +kernel) ?_) | refine Ob.mk (by kernel_rfl) ?_ | (refine Br.mk (fun h => ?_) (fun h => ?_) <;> (first | (exfalso; exact Bool.false_ne_true h) | (exfalso; exact Bool.false_ne_true h.symm) | skip)))); all_goals (conv => whnf)
  refine LoopN.mk {i : Nat // i ≤ 6} (fun i => [(5, .v (.int .i64 ((i.1 : Int) - 1))), (4, .v (.int .i64 (up (dg b) (6 - i.1) i.1)))]) (fun i => [.arr (arrL (dg b))]) (fun i => i.1) ⟨6, Nat.le_refl _⟩ ?_ ?_
  · (conv => whnf); (repeat' (first | exact True.intro | exact rfl | refine And.intro ?_ ?_ | decide))
  (conv => whnf)
  rintro ⟨i, hi⟩
  rcases i with _ | j
  · (repeat' ((conv => whnf); first | refine AdN.mk _ _ rfl ?_ | refine DrawN.a (Ob.mk (by decide +kernel) ?_) | refine DrawN.c (Ob.mk (by decide +kernel) ?_) | refine DrawN.b (Ob.mk (by decide +kernel) ?_) | refine Ob.mk (by kernel_rfl) ?_ | (refine Br.mk (fun h => ?_) (fun h => ?_) <;> (first | (exfalso; exact Bool.false_ne_true h) | (exfalso; exact Bool.false_ne_true h.symm) | (exfalso; exact absurd (of_decide_eq_true ‹_›) (show ¬ ((0 : Nat) : Int) - 1 ≥ 0 by decide)) | skip)) | refine SeqN.go ?_)); all_goals (conv => whnf)
    exact congrArg (Value.int _) (low6 b)
  · have e : ((j + 1 : Nat) : Int) - 1 = (j : Int) := by omega
    have hj : j + 1 ≤ 64 := Nat.le_trans hi (by decide)
    have e2 : 6 - j = 6 - (j + 1) + 1 := by omega
    have st := up6 (dg_in b) (j := j) (k := 6 - (j + 1)) (by omega)
    rw [← e2] at st
    (repeat' ((conv => whnf); first | refine Ob.mk (idx64 e hj) ?_ | refine rowA0 j e hj ?_ | refine AdN.mk _ _ rfl ?_ | refine DrawN.a (Ob.mk (by decide +kernel) ?_) | refine DrawN.c (Ob.mk (by decide +kernel) ?_) | refine DrawN.b (Ob.mk (by decide +kernel) ?_) | refine Ob.mk (by kernel_rfl) ?_ | (refine Br.mk (fun h => ?_) (fun h => ?_) <;> (first | (exfalso; exact Bool.false_ne_true h) | (exfalso; exact Bool.false_ne_true h.symm) | (exfalso; exact absurd (show ((j + 1 : Nat) : Int) - 1 ≥ 0 by rw [e]; exact Int.natCast_nonneg _) (of_decide_eq_false ‹_›)) | skip)) | refine SeqN.go ?_)); all_goals (conv => whnf)
    refine RoundN.mk ⟨j, Nat.le_of_succ_le hi⟩ (Nat.lt_succ_self _) ?_
    (conv => whnf); (repeat' (first | exact True.intro | exact rfl | refine And.intro ?_ ?_ | decide))
    all_goals first | exact congrArg (Value.int _) (wdn hj) | exact congrArg (Value.int _) st | trace_state
theorem ech_set {h a b v : Int} {i : Nat} (j : Nat) (hv : v = ech h a b i) : (if j = i then v else if j < i then ech h a b j else 0) = if j < i + 1 then ech h a b j else 0 := set_dig j hv
theorem ech_keep {h a b : Int} {i : Nat} (j : Nat) (hv : ech h a b i = 0) : (if j < i then ech h a b j else 0) = if j < i + 1 then ech h a b j else 0 := by
  by_cases h2 : j < i
  · rw [if_pos h2, if_pos (by omega)]
  · by_cases e : j = i
    · subst e; rw [if_neg h2, if_pos (Nat.lt_succ_self _), hv]
    · rw [if_neg h2, if_neg (by omega)]
theorem w9 {x y : Int} (hx : 0 ≤ x ∧ x ≤ 1) (hy : 0 ≤ y ∧ y ≤ 1) : IntKind.i64.wrap (x + y) = x + y := by rw [sg_eq]; exact sg_in _ (by omega) (by omega)
theorem ech0 {a b : Int} {i : Nat} {c : Bool} (h : decide (IntKind.i64.wrap (dg a i + dg b i) > 0) = c) : ech 0 a b i = if c = true then 1 else 0 := by
  rw [w9 (dg_in a i) (dg_in b i)] at h
  subst h
  unfold ech
  simp
theorem ech1 {a b : Int} {i : Nat} {c : Bool} (h : (IntKind.i64.wrap (dg a i + dg b i) == 1) = c) : ech 1 a b i = if c = true then 1 else 0 := by
  rw [w9 (dg_in a i) (dg_in b i)] at h
  subst h
  unfold ech
  simp
theorem ech2 {a b : Int} {i : Nat} {c : Bool} (h : (IntKind.i64.wrap (dg a i + dg b i) == 2) = c) : ech 2 a b i = if c = true then 1 else 0 := by
  rw [w9 (dg_in a i) (dg_in b i)] at h
  subst h
  unfold ech
  simp
set_option maxHeartbeats 4000000 in
theorem rEach_d (a b h : Int) (hh : h = 0 ∨ h = 1 ∨ h = 2) : Den Tryz.prog 163 #[.int .i64 a, .int .i64 b, .int .i64 h] noFacts (.int .i64 (IntKind.i64.wrap (vb (ech h a b) 64))) := by
  refine den_of_body (args := [.int .i64 a, .int .i64 b, .int .i64 h]) hmix Tryz.func163 ?_
  have A := rDigits_d a
  have B := rDigits_d b
  have N := rNumber_d (fun j => if j < 64 then ech h a b j else 0) (fun j => by split; exact ech_in _ _ _ _; decide)
  have e : IntKind.i64.wrap (vb (fun j => if j < 64 then ech h a b j else 0) 64) = IntKind.i64.wrap (vb (ech h a b) 64) := congrArg IntKind.i64.wrap (vb_congr 64 fun j hj => if_pos hj)
  rw [e] at N
  clear e
  rcases hh with rfl | rfl | rfl
  all_goals
    (repeat' ((conv => whnf); first | refine CallN.big _ A ?_ | refine CallN.big _ B ?_ | refine Ob.mk (okA0 _ rfl) ?_ | refine AdN.mk _ _ rfl ?_ | refine DrawN.a (Ob.mk (by decide +kernel) ?_) | refine DrawN.c (Ob.mk (by decide +kernel) ?_) | refine DrawN.b (Ob.mk (by decide +kernel) ?_) | refine Ob.mk (by kernel_rfl) ?_ | (refine Br.mk (fun h => ?_) (fun h => ?_) <;> (first | (exfalso; exact Bool.false_ne_true h) | (exfalso; exact Bool.false_ne_true h.symm) | skip)))); all_goals (conv => whnf)
    refine SeqN.go ?_
    (repeat' ((conv => whnf); first | refine AdN.mk _ _ rfl ?_ | refine DrawN.a (Ob.mk (by decide +kernel) ?_) | refine DrawN.c (Ob.mk (by decide +kernel) ?_) | refine DrawN.b (Ob.mk (by decide +kernel) ?_) | refine Ob.mk (by kernel_rfl) ?_ | (refine Br.mk (fun h => ?_) (fun h => ?_) <;> (first | (exfalso; exact Bool.false_ne_true h) | (exfalso; exact Bool.false_ne_true h.symm) | skip)))); all_goals (conv => whnf)
  · refine LoopN.mk {i : Nat // i ≤ 64} (fun i => [(10, .v (.int .i64 i.1))]) (fun i => [.arr (arrL (dg a)), .arr (arrL (dg b)), .arr (arrL fun j => if j < i.1 then ech 0 a b j else 0)]) (fun i => 64 - i.1) ⟨0, Nat.zero_le _⟩ ?_ ?_
    · (conv => whnf); (repeat' (first | exact True.intro | exact rfl | refine And.intro ?_ ?_ | decide))
    (conv => whnf)
    rintro ⟨i, hi⟩
    by_cases hl : i < 64
    · (repeat' ((conv => whnf); first | refine Ob.mk (idxI hl) ?_ | refine rowA0 i rfl hl ?_ | refine Ob.mk (by decide) ?_ | refine Ob.mk (fitA i rfl hl) ?_ | refine AdN.mk _ _ rfl ?_ | refine DrawN.a (Ob.mk (by decide +kernel) ?_) | refine DrawN.c (Ob.mk (by decide +kernel) ?_) | refine DrawN.b (Ob.mk (by decide +kernel) ?_) | refine Ob.mk (by kernel_rfl) ?_ | (refine Br.mk (fun h => ?_) (fun h => ?_) <;> (first | (exfalso; exact Bool.false_ne_true h) | (exfalso; exact Bool.false_ne_true h.symm) | (exfalso; exact absurd (Int.ofNat_lt.2 hl) (of_decide_eq_false ‹_›)) | skip)) | refine SeqN.go ?_)); all_goals (conv => whnf)
      all_goals
        have hv := ech0 ‹_›
        refine RoundN.mk ⟨i + 1, hl⟩ (Nat.sub_succ_lt_self _ _ hl) ?_
        (conv => whnf); (repeat' (first | exact True.intro | exact rfl | refine And.intro ?_ ?_ | decide))
        all_goals first
          | exact congrArg (Value.int _) (wi64 hl)
          | exact (storeA i rfl hl).trans (arrL_congr fun j hj => ech_set j (hv.trans (if_pos rfl)).symm)
          | exact arrL_congr fun j hj => ech_keep j (hv.trans (if_neg (by decide)))
          | trace_state
    · obtain rfl : i = 64 := Nat.le_antisymm hi (Nat.le_of_not_lt hl)
      (repeat' ((conv => whnf); first | refine CallN.any _ N ?_ | refine allA ?_ | refine AdN.mk _ _ rfl ?_ | refine DrawN.a (Ob.mk (by decide +kernel) ?_) | refine DrawN.c (Ob.mk (by decide +kernel) ?_) | refine DrawN.b (Ob.mk (by decide +kernel) ?_) | refine Ob.mk (by kernel_rfl) ?_ | (refine Br.mk (fun h => ?_) (fun h => ?_) <;> (first | (exfalso; exact Bool.false_ne_true h) | (exfalso; exact Bool.false_ne_true h.symm) | (exfalso; exact absurd (Int.ofNat_lt.1 (of_decide_eq_true ‹_›)) hl) | skip)) | refine SeqN.go ?_)); all_goals (conv => whnf)
      rfl
  · refine LoopN.mk {i : Nat // i ≤ 64} (fun i => [(10, .v (.int .i64 i.1))]) (fun i => [.arr (arrL (dg a)), .arr (arrL (dg b)), .arr (arrL fun j => if j < i.1 then ech 1 a b j else 0)]) (fun i => 64 - i.1) ⟨0, Nat.zero_le _⟩ ?_ ?_
    · (conv => whnf); (repeat' (first | exact True.intro | exact rfl | refine And.intro ?_ ?_ | decide))
    (conv => whnf)
    rintro ⟨i, hi⟩
    by_cases hl : i < 64
    · (repeat' ((conv => whnf); first | refine Ob.mk (idxI hl) ?_ | refine rowA0 i rfl hl ?_ | refine Ob.mk (by decide) ?_ | refine Ob.mk (fitA i rfl hl) ?_ | refine AdN.mk _ _ rfl ?_ | refine DrawN.a (Ob.mk (by decide +kernel) ?_) | refine DrawN.c (Ob.mk (by decide +kernel) ?_) | refine DrawN.b (Ob.mk (by decide +kernel) ?_) | refine Ob.mk (by kernel_rfl) ?_ | (refine Br.mk (fun h => ?_) (fun h => ?_) <;> (first | (exfalso; exact Bool.false_ne_true h) | (exfalso; exact Bool.false_ne_true h.symm) | (exfalso; exact absurd (Int.ofNat_lt.2 hl) (of_decide_eq_false ‹_›)) | skip)) | refine SeqN.go ?_)); all_goals (conv => whnf)
      all_goals
        have hv := ech1 ‹_›
        refine RoundN.mk ⟨i + 1, hl⟩ (Nat.sub_succ_lt_self _ _ hl) ?_
        (conv => whnf); (repeat' (first | exact True.intro | exact rfl | refine And.intro ?_ ?_ | decide))
        all_goals first
          | exact congrArg (Value.int _) (wi64 hl)
          | exact (storeA i rfl hl).trans (arrL_congr fun j hj => ech_set j (hv.trans (if_pos rfl)).symm)
          | exact arrL_congr fun j hj => ech_keep j (hv.trans (if_neg (by decide)))
          | trace_state
    · obtain rfl : i = 64 := Nat.le_antisymm hi (Nat.le_of_not_lt hl)
      (repeat' ((conv => whnf); first | refine CallN.any _ N ?_ | refine allA ?_ | refine AdN.mk _ _ rfl ?_ | refine DrawN.a (Ob.mk (by decide +kernel) ?_) | refine DrawN.c (Ob.mk (by decide +kernel) ?_) | refine DrawN.b (Ob.mk (by decide +kernel) ?_) | refine Ob.mk (by kernel_rfl) ?_ | (refine Br.mk (fun h => ?_) (fun h => ?_) <;> (first | (exfalso; exact Bool.false_ne_true h) | (exfalso; exact Bool.false_ne_true h.symm) | (exfalso; exact absurd (Int.ofNat_lt.1 (of_decide_eq_true ‹_›)) hl) | skip)) | refine SeqN.go ?_)); all_goals (conv => whnf)
      rfl
  · refine LoopN.mk {i : Nat // i ≤ 64} (fun i => [(10, .v (.int .i64 i.1))]) (fun i => [.arr (arrL (dg a)), .arr (arrL (dg b)), .arr (arrL fun j => if j < i.1 then ech 2 a b j else 0)]) (fun i => 64 - i.1) ⟨0, Nat.zero_le _⟩ ?_ ?_
    · (conv => whnf); (repeat' (first | exact True.intro | exact rfl | refine And.intro ?_ ?_ | decide))
    (conv => whnf)
    rintro ⟨i, hi⟩
    by_cases hl : i < 64
    · (repeat' ((conv => whnf); first | refine Ob.mk (idxI hl) ?_ | refine rowA0 i rfl hl ?_ | refine Ob.mk (by decide) ?_ | refine Ob.mk (fitA i rfl hl) ?_ | refine AdN.mk _ _ rfl ?_ | refine DrawN.a (Ob.mk (by decide +kernel) ?_) | refine DrawN.c (Ob.mk (by decide +kernel) ?_) | refine DrawN.b (Ob.mk (by decide +kernel) ?_) | refine Ob.mk (by kernel_rfl) ?_ | (refine Br.mk (fun h => ?_) (fun h => ?_) <;> (first | (exfalso; exact Bool.false_ne_true h) | (exfalso; exact Bool.false_ne_true h.symm) | (exfalso; exact absurd (Int.ofNat_lt.2 hl) (of_decide_eq_false ‹_›)) | skip)) | refine SeqN.go ?_)); all_goals (conv => whnf)
      all_goals
        have hv := ech2 ‹_›
        refine RoundN.mk ⟨i + 1, hl⟩ (Nat.sub_succ_lt_self _ _ hl) ?_
        (conv => whnf); (repeat' (first | exact True.intro | exact rfl | refine And.intro ?_ ?_ | decide))
        all_goals first
          | exact congrArg (Value.int _) (wi64 hl)
          | exact (storeA i rfl hl).trans (arrL_congr fun j hj => ech_set j (hv.trans (if_pos rfl)).symm)
          | exact arrL_congr fun j hj => ech_keep j (hv.trans (if_neg (by decide)))
          | trace_state
    · obtain rfl : i = 64 := Nat.le_antisymm hi (Nat.le_of_not_lt hl)
      (repeat' ((conv => whnf); first | refine CallN.any _ N ?_ | refine allA ?_ | refine AdN.mk _ _ rfl ?_ | refine DrawN.a (Ob.mk (by decide +kernel) ?_) | refine DrawN.c (Ob.mk (by decide +kernel) ?_) | refine DrawN.b (Ob.mk (by decide +kernel) ?_) | refine Ob.mk (by kernel_rfl) ?_ | (refine Br.mk (fun h => ?_) (fun h => ?_) <;> (first | (exfalso; exact Bool.false_ne_true h) | (exfalso; exact Bool.false_ne_true h.symm) | (exfalso; exact absurd (Int.ofNat_lt.1 (of_decide_eq_true ‹_›)) hl) | skip)) | refine SeqN.go ?_)); all_goals (conv => whnf)
      rfl
end Go.Proofs.YtljhbdgoknfkcaaGreatDoor
