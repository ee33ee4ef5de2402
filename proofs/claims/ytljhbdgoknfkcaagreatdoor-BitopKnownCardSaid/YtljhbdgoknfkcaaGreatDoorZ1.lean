/- Contracts of the reference's numbers by their digits: digits, number. -/
import Derived.Test.YtljhbdgoknfkcaaGreatDoorI1
import Derived.Test.YtljhbdgoknfkcaaGreatDoorPD
import Derived.Test.YtljhbdgoknfkcaaGreatDoorK1
import Derived.Test.YtljhbdgoknfkcaaGreatDoorG5
namespace Go.Proofs.YtljhbdgoknfkcaaGreatDoor
open Go Go.RowKit Go.Sort
set_option linter.unusedVariables false
set_option linter.unusedSimpArgs false
set_option maxRecDepth 100000

theorem rowA {f : Nat → Int} {z : Int} {K : List Value → Prop} (n : Nat) (e : z = (n : Int)) (h : n < 64) (k : K [.int .i64 (f n)]) : RowN (arrL f) (z.toNat * 1) 1 K := by
  subst e
  rw [Int.toNat_natCast, Nat.mul_one]
  refine .mk _ ?_ rfl k
  have h2 : n < (arrL f).length := by rw [arrL_len]; exact h
  rw [List.drop_eq_getElem_cons h2]
  have := arrL_at (f := f) h
  rw [List.getElem?_eq_getElem h2] at this
  rw [Option.some.inj this]
  rfl
theorem rowA0 {f : Nat → Int} {z : Int} {K : List Value → Prop} (n : Nat) (e : z = (n : Int)) (h : n < 64) (k : K [.int .i64 (f n)]) : RowN (arrL f) (0 + z.toNat * 1) 1 K := by
  rw [Nat.zero_add]; exact rowA n e h k
theorem storeA {f : Nat → Int} {z v : Int} (n : Nat) (e : z = (n : Int)) (h : n < 64) : storeV (arrL f) (0 + z.toNat * 1) [.int .i64 v] = arrL fun j => if j = n then v else f j := by
  subst e
  rw [Int.toNat_natCast, Nat.mul_one, Nat.zero_add]
  show setL (arrL f) n _ = _
  rw [setL_eq, arrL_set h]
theorem fitA {f : Nat → Int} {z : Int} (n : Nat) (e : z = (n : Int)) (h : n < 64) : 0 + z.toNat * 1 + 1 ≤ (arrL f).length := by rw [arrL_len]; omega
theorem allA {f : Nat → Int} {K : List Value → Prop} (k : K (arrL f)) : RowN (arrL f) 0 64 K := by
  refine .mk _ ?_ (arrL_len f) k
  rw [List.drop_zero, List.take_of_length_le (by rw [arrL_len]; exact Nat.le_refl _)]
theorem okA (f g : Nat → Int) : 0 = 0 ∧ (arrL f).toArray.toList.length = 64 ∧ (arrL g).length = 64 ∧ ∀ u ∈ (arrL f).toArray.toList, u.oneCell' = true := by
  refine ⟨rfl, by rw [List.toList_toArray, arrL_len], arrL_len g, fun u hu => ?_⟩
  rw [List.toList_toArray] at hu
  obtain ⟨i, _, rfl⟩ := List.mem_map.1 hu
  rfl
theorem okA0 (f : Nat → Int) {xs : List Value} (h : xs.length = 64) : 0 = 0 ∧ (arrL f).toArray.toList.length = 64 ∧ xs.length = 64 ∧ ∀ u ∈ (arrL f).toArray.toList, u.oneCell' = true := ⟨rfl, (okA f f).2.1, h, (okA f f).2.2.2⟩
theorem allAt {f : Nat → Int} {K : List Value → Prop} (k : K (arrL f)) : RowN ((arrL f).toArray.toList) 0 64 K := allA k
theorem wi64 {i : Nat} (h : i < 64) : IntKind.i64.wrap ((i : Int) + 1) = ((i + 1 : Nat) : Int) := by rw [sg_eq, sg_in _ (by omega) (by omega)]; omega
theorem dig_q (n : Int) (i : Nat) : IntKind.u64.wrap ((us n / 2 ^ i).tdiv 2) = us n / 2 ^ (i + 1) := by
  have h0 : 0 ≤ us n := by unfold us; omega
  have h1 : us n ≤ 18446744073709551615 := by unfold us; omega
  have h2 : 0 ≤ us n / 2 ^ i := Int.ediv_nonneg h0 (Int.le_of_lt (p2pos i))
  have h3 : us n / 2 ^ i ≤ us n := Int.ediv_le_self _ h0
  rw [div2_succ, Int.tdiv_eq_ediv_of_nonneg h2, us_eq]
  generalize us n / 2 ^ i = x at *
  exact us_in _ (by omega) (by omega)
theorem dig_p (n : Int) {i : Nat} (hi : i < 64) (j : Nat) : (if j = i then IntKind.i64.wrap ((us n / 2 ^ i).tmod 2) else if j < i then dg n j else 0) = if j < i + 1 then dg n j else 0 := by
  by_cases h : j = i
  · subst h
    rw [if_pos rfl, if_pos (Nat.lt_succ_self _)]
    have h0 : 0 ≤ us n := by unfold us; omega
    have h2 : 0 ≤ us n / 2 ^ j := Int.ediv_nonneg h0 (Int.le_of_lt (p2pos j))
    rw [Int.tmod_eq_emod_of_nonneg h2]
    have e : us n / 2 ^ j % 2 = dg n j := by
      rw [← dg_mod (z := n) hi]
      unfold dg us
      rw [show (2 : Int) ^ 64 = 18446744073709551616 by decide]
    rw [e, sg_eq]
    have := dg_in n j
    exact sg_in _ (by omega) (by omega)
  · rw [if_neg h]
    by_cases h2 : j < i
    · rw [if_pos h2, if_pos (by omega)]
    · rw [if_neg h2, if_neg (by omega)]
set_option maxHeartbeats 2000000 in
theorem rDigits_d (n : Int) : Den Tryz.prog 227 #[.int .i64 n] noFacts (.agg (arrL (dg n)).toArray) := by
  refine den_of_body (args := [.int .i64 n]) hmix Tryz.func227 ?_
  (repeat' ((conv => whnf); first | refine AdN.mk _ _ rfl ?_ | refine DrawN.a (Ob.mk (by decide +kernel) ?_) | refine DrawN.c (Ob.mk (by decide +kernel) ?_) | refine DrawN.b (Ob.mk (by decide +kernel) ?_) | refine Ob.mk (by kernel_rfl) ?_ | (refine Br.mk (fun h => ?_) (fun h => ?_) <;> (first | (exfalso; exact Bool.false_ne_true h) | (exfalso; exact Bool.false_ne_true h.symm) | skip)))); all_goals (conv => whnf)
  refine SeqN.go ?_
  (repeat' ((conv => whnf); first | refine AdN.mk _ _ rfl ?_ | refine DrawN.a (Ob.mk (by decide +kernel) ?_) | refine DrawN.c (Ob.mk (by decide +kernel) ?_) | refine DrawN.b (Ob.mk (by decide +kernel) ?_) | refine Ob.mk (by kernel_rfl) ?_ | (refine Br.mk (fun h => ?_) (fun h => ?_) <;> (first | (exfalso; exact Bool.false_ne_true h) | (exfalso; exact Bool.false_ne_true h.symm) | skip)))); all_goals (conv => whnf)
  refine LoopN.mk {i : Nat // i ≤ 64} (fun i => [(5, .v (.int .i64 i.1)), (4, .v (.int .u64 (us n / 2 ^ i.1)))]) (fun i => [.arr (arrL fun _ => 0), .arr (arrL fun j => if j < i.1 then dg n j else 0)]) (fun i => 64 - i.1) ⟨0, Nat.zero_le _⟩ ?_ ?_
  · (conv => whnf); (repeat' (first | exact True.intro | exact rfl | refine And.intro ?_ ?_ | decide))
    all_goals first | (refine congrArg (Value.int _) ?_; rw [us_eq]; simp; done) | trace_state
  (conv => whnf)
  rintro ⟨i, hi⟩
  by_cases hl : i < 64
  · (repeat' ((conv => whnf); first | refine Ob.mk ⟨Int.natCast_nonneg _, Int.ofNat_lt.2 hl⟩ ?_ | refine Ob.mk (by decide) ?_ | refine Ob.mk (fitA i rfl hl) ?_ | refine AdN.mk _ _ rfl ?_ | refine DrawN.a (Ob.mk (by decide +kernel) ?_) | refine DrawN.c (Ob.mk (by decide +kernel) ?_) | refine DrawN.b (Ob.mk (by decide +kernel) ?_) | refine Ob.mk (by kernel_rfl) ?_ | (refine Br.mk (fun h => ?_) (fun h => ?_) <;> (first | (exfalso; exact Bool.false_ne_true h) | (exfalso; exact Bool.false_ne_true h.symm) | (exfalso; exact absurd (Int.ofNat_lt.2 hl) (of_decide_eq_false ‹_›)) | skip)) | refine SeqN.go ?_)); all_goals (conv => whnf)
    refine RoundN.mk ⟨i + 1, hl⟩ (Nat.sub_succ_lt_self _ _ hl) ?_
    (conv => whnf); (repeat' (first | exact True.intro | exact rfl | refine And.intro ?_ ?_ | decide))
    all_goals first
      | exact congrArg (Value.int _) (wi64 hl)
      | exact congrArg (Value.int _) (dig_q n i)
      | exact (storeA i rfl hl).trans (arrL_congr fun j hj => dig_p n hl j)
      | trace_state
  · obtain rfl : i = 64 := by omega
    have e : arrL (fun j => if j < 64 then dg n j else 0) = arrL (dg n) := arrL_congr fun j hj => if_pos hj
    (repeat' ((conv => whnf); first | refine allA ?_ | refine AdN.mk _ _ rfl ?_ | refine DrawN.a (Ob.mk (by decide +kernel) ?_) | refine DrawN.c (Ob.mk (by decide +kernel) ?_) | refine DrawN.b (Ob.mk (by decide +kernel) ?_) | refine Ob.mk (by kernel_rfl) ?_ | (refine Br.mk (fun h => ?_) (fun h => ?_) <;> (first | (exfalso; exact Bool.false_ne_true h) | (exfalso; exact Bool.false_ne_true h.symm) | (exfalso; exact absurd (Int.ofNat_lt.1 (of_decide_eq_true ‹_›)) hl) | skip)) | refine SeqN.go ?_)); all_goals (conv => whnf)
    refine Ob.mk (okA _ _) ?_
    (conv => whnf)
    refine allAt ?_
    exact congrArg (fun l => Value.agg (List.toArray l)) e

theorem up_step {f : Nat → Int} (h : ∀ i, 0 ≤ f i ∧ f i ≤ 1) {j k : Nat} (hk : k + 1 ≤ 64) : IntKind.u64.wrap (IntKind.u64.wrap (2 * up f k (j + 1)) + IntKind.u64.wrap (f j)) = up f (k + 1) j := by
  have h1 := up_in h k (j + 1)
  have h2 := h j
  have h3 := p2le hk
  rw [Int.pow_succ] at h3
  have q1 : us (2 * up f k (j + 1)) = 2 * up f k (j + 1) := us_in _ (by omega) (by omega)
  have q2 : us (f j) = f j := us_in _ (by omega) (by omega)
  simp only [us_eq]
  rw [q1, q2]
  show _ = f j + 2 * up f k (j + 1)
  rw [us_in _ (by omega) (by omega)]
  omega
theorem wdn {j : Nat} (h : j + 1 ≤ 64) : IntKind.i64.wrap (((j + 1 : Nat) : Int) - 1 - 1) = (j : Int) - 1 := by rw [sg_eq, sg_in _ (by omega) (by omega)]; omega
theorem idx64 {z : Int} {j : Nat} (e : z = (j : Int)) (h : j + 1 ≤ 64) : 0 ≤ z ∧ z < ((64 : Nat) : Int) := by omega
set_option maxHeartbeats 2000000 in
theorem rNumber_d (f : Nat → Int) (hf : ∀ i, 0 ≤ f i ∧ f i ≤ 1) : Den Tryz.prog 228 #[.agg (arrL f).toArray] noFacts (.int .i64 (IntKind.i64.wrap (vb f 64))) := by
  refine den_of_body (args := [.agg (arrL f).toArray]) hmix Tryz.func228 ?_
  (repeat' ((conv => whnf); first | refine AdN.mk _ _ rfl ?_ | refine DrawN.a (Ob.mk (by decide +kernel) ?_) | refine DrawN.c (Ob.mk (by decide +kernel) ?_) | refine DrawN.b (Ob.mk (by decide +kernel) ?_) | refine Ob.mk (by kernel_rfl) ?_ | (refine Br.mk (fun h => ?_) (fun h => ?_) <;> (first | (exfalso; exact Bool.false_ne_true h) | (exfalso; exact Bool.false_ne_true h.symm) | skip)))); all_goals (conv => whnf)
  refine SeqN.go ?_
  (repeat' ((conv => whnf); first | refine AdN.mk _ _ rfl ?_ | refine DrawN.a (Ob.mk (by decide +kernel) ?_) | refine DrawN.c (Ob.mk (by decide +kernel) ?_) | refine DrawN.b (Ob.mk (by decide +kernel) ?_) | refine Ob.mk (by kernel_rfl) ?_ | (refine Br.mk (fun h => ?_) (fun h => ?_) <;> (first | (exfalso; exact Bool.false_ne_true h) | (exfalso; exact Bool.false_ne_true h.symm) | skip)))); all_goals (conv => whnf)
  refine LoopN.mk {i : Nat // i ≤ 64} (fun i => [(4, .v (.int .i64 ((i.1 : Int) - 1))), (3, .v (.int .u64 (up f (64 - i.1) i.1)))]) (fun i => [.arr (arrL f)]) (fun i => i.1) ⟨64, Nat.le_refl _⟩ ?_ ?_
  · (conv => whnf); (repeat' (first | exact True.intro | exact rfl | refine And.intro ?_ ?_ | decide))
  (conv => whnf)
  rintro ⟨i, hi⟩
  rcases i with _ | j
  · (repeat' ((conv => whnf); first | refine AdN.mk _ _ rfl ?_ | refine DrawN.a (Ob.mk (by decide +kernel) ?_) | refine DrawN.c (Ob.mk (by decide +kernel) ?_) | refine DrawN.b (Ob.mk (by decide +kernel) ?_) | refine Ob.mk (by kernel_rfl) ?_ | (refine Br.mk (fun h => ?_) (fun h => ?_) <;> (first | (exfalso; exact Bool.false_ne_true h) | (exfalso; exact Bool.false_ne_true h.symm) | (exfalso; exact absurd (of_decide_eq_true ‹_›) (show ¬ ((0 : Nat) : Int) - 1 ≥ 0 by decide)) | skip)) | refine SeqN.go ?_)); all_goals (conv => whnf)
    show Value.int .i64 (IntKind.i64.wrap (up f 64 0)) = _
    rw [up_all]
  · have e : ((j + 1 : Nat) : Int) - 1 = (j : Int) := by omega
    have e2 : 64 - j = 64 - (j + 1) + 1 := by omega
    have st := up_step hf (j := j) (k := 64 - (j + 1)) (by omega)
    rw [← e2] at st
    (repeat' ((conv => whnf); first | refine Ob.mk (idx64 e hi) ?_ | refine rowA0 j e hi ?_ | refine AdN.mk _ _ rfl ?_ | refine DrawN.a (Ob.mk (by decide +kernel) ?_) | refine DrawN.c (Ob.mk (by decide +kernel) ?_) | refine DrawN.b (Ob.mk (by decide +kernel) ?_) | refine Ob.mk (by kernel_rfl) ?_ | (refine Br.mk (fun h => ?_) (fun h => ?_) <;> (first | (exfalso; exact Bool.false_ne_true h) | (exfalso; exact Bool.false_ne_true h.symm) | (exfalso; exact absurd (show ((j + 1 : Nat) : Int) - 1 ≥ 0 by rw [e]; exact Int.natCast_nonneg _) (of_decide_eq_false ‹_›)) | skip)) | refine SeqN.go ?_)); all_goals (conv => whnf)
    refine RoundN.mk ⟨j, Nat.le_of_succ_le hi⟩ (Nat.lt_succ_self _) ?_
    (conv => whnf); (repeat' (first | exact True.intro | exact rfl | refine And.intro ?_ ?_ | decide))
    all_goals first | exact congrArg (Value.int _) (wdn hi) | exact congrArg (Value.int _) st | trace_state
/-! Contracts of the reference's numbers by their digits: which is less, sums, what is turned about. -/
theorem rowT {f : Nat → Int} {z : Int} {K : List Value → Prop} (n : Nat) (e : z = (n : Int)) (h : n < 64) (k : K [.int .i64 (f n)]) : RowN ((arrL f).toArray.toList) (0 + z.toNat * 1) 1 K := rowA0 n e h k
theorem idxI {i : Nat} (h : i < 64) : 0 ≤ (i : Int) ∧ (i : Int) < ((64 : Nat) : Int) := by omega
theorem dg_sign {a : Int} (h : IS a) : a / 2 ^ 63 = if a < 0 then -1 else 0 := by
  have := h.1
  have := h.2
  rw [show (2 : Int) ^ 63 = 9223372036854775808 by decide]
  split <;> omega
theorem div_dg (n : Int) (i : Nat) : n / 2 ^ i = 2 * (n / 2 ^ (i + 1)) + dg n i := by
  unfold dg
  rw [div2_succ]
  omega
theorem lt_of_div {a b : Int} {i : Nat} (h : a / 2 ^ i < b / 2 ^ i) : a < b := by
  refine Int.not_le.1 fun c => ?_
  have := Int.ediv_le_ediv (p2pos i) c
  omega
theorem less_hi {a b : Int} (ha : IS a) (hb : IS b) (h : dg a 63 ≠ dg b 63) : decide (a < b) = (dg a 63 == 1) := by
  have h1 := dg_sign ha
  have h2 := dg_sign hb
  unfold dg at h ⊢
  rw [h1, h2] at h
  rw [h1]
  by_cases c1 : a < 0 <;> by_cases c2 : b < 0 <;> simp [c1, c2] at h ⊢ <;> omega
theorem less_top {a b : Int} (ha : IS a) (hb : IS b) (h : dg a 63 = dg b 63) : a / 2 ^ 63 = b / 2 ^ 63 := by
  have h1 := dg_sign ha
  have h2 := dg_sign hb
  unfold dg at h
  rw [h1, h2] at h ⊢
  by_cases c1 : a < 0 <;> by_cases c2 : b < 0 <;> simp [c1, c2] at h ⊢
theorem less_at {a b : Int} {j : Nat} (h : a / 2 ^ (j + 1) = b / 2 ^ (j + 1)) (hd : dg a j ≠ dg b j) : decide (a < b) = decide (dg a j < dg b j) := by
  have h1 := div_dg a j
  have h2 := div_dg b j
  rw [h] at h1
  rcases Int.lt_or_gt_of_ne hd with c | c
  · have : a < b := lt_of_div (i := j) (by omega)
    simp [c, this]
  · have : b < a := lt_of_div (i := j) (by omega)
    have c1 : ¬ a < b := by omega
    have c2 : ¬ dg a j < dg b j := by omega
    simp [c1, c2]
theorem less_eq {a b : Int} {j : Nat} (h : a / 2 ^ (j + 1) = b / 2 ^ (j + 1)) (hd : dg a j = dg b j) : a / 2 ^ j = b / 2 ^ j := by
  rw [div_dg a j, div_dg b j, h, hd]
theorem bne_of {x y : Int} (h : (x != y) = true) : x ≠ y := by simpa using h
theorem beq_of {x y : Int} (h : (x != y) = false) : x = y := by simpa using h
set_option maxHeartbeats 2000000 in
theorem rLess_d (a b : Int) (ha : IS a) (hb : IS b) : Den Tryz.prog 162 #[.int .i64 a, .int .i64 b] noFacts (.bool (decide (a < b))) := by
  refine den_of_body (args := [.int .i64 a, .int .i64 b]) hmix Tryz.func162 ?_
  have A := rDigits_d a
  have B := rDigits_d b
  (repeat' ((conv => whnf); first | refine CallN.big _ A ?_ | refine CallN.big _ B ?_ | refine Ob.mk (okA0 _ rfl) ?_ | refine Ob.mk ⟨by decide, by decide⟩ ?_ | refine rowT 63 rfl (by decide) ?_ | refine AdN.mk _ _ rfl ?_ | refine DrawN.a (Ob.mk (by decide +kernel) ?_) | refine DrawN.c (Ob.mk (by decide +kernel) ?_) | refine DrawN.b (Ob.mk (by decide +kernel) ?_) | refine Ob.mk (by kernel_rfl) ?_ | (refine Br.mk (fun h => ?_) (fun h => ?_) <;> (first | (exfalso; exact Bool.false_ne_true h) | (exfalso; exact Bool.false_ne_true h.symm) | skip)))); all_goals (conv => whnf)
  refine SeqN.go ?_
  (repeat' ((conv => whnf); first | refine Ob.mk ⟨by decide, by decide⟩ ?_ | refine rowT 63 rfl (by decide) ?_ | refine AdN.mk _ _ rfl ?_ | refine DrawN.a (Ob.mk (by decide +kernel) ?_) | refine DrawN.c (Ob.mk (by decide +kernel) ?_) | refine DrawN.b (Ob.mk (by decide +kernel) ?_) | refine Ob.mk (by kernel_rfl) ?_ | (refine Br.mk (fun h => ?_) (fun h => ?_) <;> (first | (exfalso; exact Bool.false_ne_true h) | (exfalso; exact Bool.false_ne_true h.symm) | skip)) | refine SeqN.go ?_)); all_goals (conv => whnf)
  · exact congrArg Value.bool (less_hi ha hb (bne_of ‹_›)).symm
  have h63 := less_top ha hb (beq_of ‹_›)
  refine LoopN.mk {i : Nat // i ≤ 63 ∧ a / 2 ^ i = b / 2 ^ i} (fun i => [(7, .v (.int .i64 ((i.1 : Int) - 1)))]) (fun _ => [.arr (arrL (dg a)), .arr (arrL (dg b))]) (fun i => i.1) ⟨63, Nat.le_refl _, h63⟩ ?_ ?_
  · (conv => whnf); (repeat' (first | exact True.intro | exact rfl | refine And.intro ?_ ?_ | decide))
  (conv => whnf)
  rintro ⟨i, hi, he⟩
  rcases i with _ | j
  · obtain rfl : a = b := by simpa using he
    (repeat' ((conv => whnf); first | refine AdN.mk _ _ rfl ?_ | refine DrawN.a (Ob.mk (by decide +kernel) ?_) | refine DrawN.c (Ob.mk (by decide +kernel) ?_) | refine DrawN.b (Ob.mk (by decide +kernel) ?_) | refine Ob.mk (by kernel_rfl) ?_ | (refine Br.mk (fun h => ?_) (fun h => ?_) <;> (first | (exfalso; exact Bool.false_ne_true h) | (exfalso; exact Bool.false_ne_true h.symm) | (exfalso; exact absurd (of_decide_eq_true ‹_›) (show ¬ ((0 : Nat) : Int) - 1 ≥ 0 by decide)) | skip)) | refine SeqN.go ?_)); all_goals (conv => whnf)
    show Value.bool false = _
    simp
  · have e : ((j + 1 : Nat) : Int) - 1 = (j : Int) := by clear he; omega
    have hj : j < 64 := Nat.lt_of_lt_of_le hi (by decide)
    (repeat' ((conv => whnf); first | refine Ob.mk (idx64 e hj) ?_ | refine rowA0 j e hj ?_ | refine AdN.mk _ _ rfl ?_ | refine DrawN.a (Ob.mk (by decide +kernel) ?_) | refine DrawN.c (Ob.mk (by decide +kernel) ?_) | refine DrawN.b (Ob.mk (by decide +kernel) ?_) | refine Ob.mk (by kernel_rfl) ?_ | (refine Br.mk (fun h => ?_) (fun h => ?_) <;> (first | (exfalso; exact Bool.false_ne_true h) | (exfalso; exact Bool.false_ne_true h.symm) | (exfalso; exact absurd (show ((j + 1 : Nat) : Int) - 1 ≥ 0 by rw [e]; exact Int.natCast_nonneg _) (of_decide_eq_false ‹_›)) | skip)) | refine SeqN.go ?_)); all_goals (conv => whnf)
    · exact congrArg Value.bool (less_at he (bne_of ‹_›)).symm
    · refine RoundN.mk ⟨j, Nat.le_of_succ_le hi, less_eq he (beq_of ‹_›)⟩ (Nat.lt_succ_self _) ?_
      (conv => whnf); (repeat' (first | exact True.intro | exact rfl | refine And.intro ?_ ?_ | decide))
      all_goals first | exact congrArg (Value.int _) (wdn hj) | trace_state
theorem add_dig {a b : Int} {i c : Nat} (h : (a + b) / 2 ^ i = a / 2 ^ i + b / 2 ^ i + (c : Int)) (hc : c ≤ 1) :
    (dg a i + dg b i + c) % 2 = dg (a + b) i ∧ (a + b) / 2 ^ (i + 1) = a / 2 ^ (i + 1) + b / 2 ^ (i + 1) + (((dg a i + dg b i + c) / 2).toNat : Int) ∧ ((dg a i + dg b i + c) / 2).toNat ≤ 1 ∧ 0 ≤ (dg a i + dg b i + c) / 2 := by
  unfold dg
  rw [div2_succ, div2_succ, div2_succ, h]
  generalize a / 2 ^ i = x at *
  generalize b / 2 ^ i = y at *
  omega
theorem w7 {x y : Int} {c : Nat} (hx : 0 ≤ x ∧ x ≤ 1) (hy : 0 ≤ y ∧ y ≤ 1) (hc : c ≤ 1) : IntKind.i64.wrap (IntKind.i64.wrap (x + y) + (c : Int)) = x + y + c := by
  have q : sg (x + y) = x + y := sg_in _ (by omega) (by omega)
  simp only [sg_eq]; rw [q, sg_in _ (by omega) (by omega)]
theorem w7a {x y : Int} {c : Nat} (hx : 0 ≤ x ∧ x ≤ 1) (hy : 0 ≤ y ∧ y ≤ 1) (hc : c ≤ 1) : IntKind.i64.wrap ((IntKind.i64.wrap (IntKind.i64.wrap (x + y) + (c : Int))).tdiv 2) = (((x + y + c) / 2).toNat : Int) := by
  rw [w7 hx hy hc, Int.tdiv_eq_ediv_of_nonneg (by omega), sg_eq, sg_in _ (by omega) (by omega)]; omega
theorem w7b {x y : Int} {c : Nat} (hx : 0 ≤ x ∧ x ≤ 1) (hy : 0 ≤ y ∧ y ≤ 1) (hc : c ≤ 1) : (IntKind.i64.wrap (IntKind.i64.wrap (x + y) + (c : Int))).tmod 2 = (x + y + c) % 2 := by
  rw [w7 hx hy hc, Int.tmod_eq_emod_of_nonneg (by omega)]
theorem set_dig {g : Nat → Int} {v : Int} {i : Nat} (j : Nat) (hv : v = g i) : (if j = i then v else if j < i then g j else 0) = if j < i + 1 then g j else 0 := by
  by_cases h : j = i
  · subst h
    rw [if_pos rfl, if_pos (Nat.lt_succ_self _), hv]
  · rw [if_neg h]
    by_cases h2 : j < i
    · rw [if_pos h2, if_pos (by omega)]
    · rw [if_neg h2, if_neg (by omega)]
set_option maxHeartbeats 2000000 in
theorem rAdd_d (a b : Int) : Den Tryz.prog 166 #[.int .i64 a, .int .i64 b] noFacts (.int .i64 (IntKind.i64.wrap (a + b))) := by
  refine den_of_body (args := [.int .i64 a, .int .i64 b]) hmix Tryz.func166 ?_
  have A := rDigits_d a
  have B := rDigits_d b
  (repeat' ((conv => whnf); first | refine CallN.big _ A ?_ | refine CallN.big _ B ?_ | refine Ob.mk (okA0 _ rfl) ?_ | refine AdN.mk _ _ rfl ?_ | refine DrawN.a (Ob.mk (by decide +kernel) ?_) | refine DrawN.c (Ob.mk (by decide +kernel) ?_) | refine DrawN.b (Ob.mk (by decide +kernel) ?_) | refine Ob.mk (by kernel_rfl) ?_ | (refine Br.mk (fun h => ?_) (fun h => ?_) <;> (first | (exfalso; exact Bool.false_ne_true h) | (exfalso; exact Bool.false_ne_true h.symm) | skip)))); all_goals (conv => whnf)
  refine SeqN.go ?_
  (repeat' ((conv => whnf); first | refine AdN.mk _ _ rfl ?_ | refine DrawN.a (Ob.mk (by decide +kernel) ?_) | refine DrawN.c (Ob.mk (by decide +kernel) ?_) | refine DrawN.b (Ob.mk (by decide +kernel) ?_) | refine Ob.mk (by kernel_rfl) ?_ | (refine Br.mk (fun h => ?_) (fun h => ?_) <;> (first | (exfalso; exact Bool.false_ne_true h) | (exfalso; exact Bool.false_ne_true h.symm) | skip)))); all_goals (conv => whnf)
  refine LoopN.mk {x : Nat × Nat // x.1 ≤ 64 ∧ x.2 ≤ 1 ∧ (a + b) / 2 ^ x.1 = a / 2 ^ x.1 + b / 2 ^ x.1 + (x.2 : Int)} (fun x => [(9, .v (.int .i64 x.1.1)), (8, .v (.int .i64 x.1.2))]) (fun x => [.arr (arrL (dg a)), .arr (arrL (dg b)), .arr (arrL fun j => if j < x.1.1 then dg (a + b) j else 0)]) (fun x => 64 - x.1.1) ⟨(0, 0), by simp⟩ ?_ ?_
  · (conv => whnf); (repeat' (first | exact True.intro | exact rfl | refine And.intro ?_ ?_ | decide))
  (conv => whnf)
  rintro ⟨⟨i, c⟩, hi, hc, he⟩
  dsimp only at hi hc he
  by_cases hl : i < 64
  · obtain ⟨s1, s2, s3, _⟩ := add_dig he hc
    (repeat' ((conv => whnf); first | refine Ob.mk (idxI hl) ?_ | refine rowA0 i rfl hl ?_ | refine Ob.mk (by decide) ?_ | refine Ob.mk (fitA i rfl hl) ?_ | refine AdN.mk _ _ rfl ?_ | refine DrawN.a (Ob.mk (by decide +kernel) ?_) | refine DrawN.c (Ob.mk (by decide +kernel) ?_) | refine DrawN.b (Ob.mk (by decide +kernel) ?_) | refine Ob.mk (by kernel_rfl) ?_ | (refine Br.mk (fun h => ?_) (fun h => ?_) <;> (first | (exfalso; exact Bool.false_ne_true h) | (exfalso; exact Bool.false_ne_true h.symm) | (exfalso; exact absurd (Int.ofNat_lt.2 hl) (of_decide_eq_false ‹_›)) | skip)) | refine SeqN.go ?_)); all_goals (conv => whnf)
    refine RoundN.mk ⟨(i + 1, ((dg a i + dg b i + c) / 2).toNat), hl, s3, s2⟩ (Nat.sub_succ_lt_self _ _ hl) ?_
    (conv => whnf); (repeat' (first | exact True.intro | exact rfl | refine And.intro ?_ ?_ | decide))
    all_goals first
      | exact congrArg (Value.int _) (wi64 hl)
      | exact congrArg (Value.int _) (w7a (dg_in a i) (dg_in b i) hc)
      | exact (storeA i rfl hl).trans (arrL_congr fun j hj => set_dig (g := dg (a + b)) j ((w7b (dg_in a i) (dg_in b i) hc).trans s1))
      | trace_state
  · obtain rfl : i = 64 := Nat.le_antisymm hi (Nat.le_of_not_lt hl)
    have N := rNumber_d (fun j => if j < 64 then dg (a + b) j else 0) (fun j => by split; exact dg_in _ _; decide)
    have e : IntKind.i64.wrap (vb (fun j => if j < 64 then dg (a + b) j else 0) 64) = IntKind.i64.wrap (a + b) := vb_eq fun j hj => if_pos hj
    rw [e] at N
    (repeat' ((conv => whnf); first | refine CallN.any _ N ?_ | refine allA ?_ | refine AdN.mk _ _ rfl ?_ | refine DrawN.a (Ob.mk (by decide +kernel) ?_) | refine DrawN.c (Ob.mk (by decide +kernel) ?_) | refine DrawN.b (Ob.mk (by decide +kernel) ?_) | refine Ob.mk (by kernel_rfl) ?_ | (refine Br.mk (fun h => ?_) (fun h => ?_) <;> (first | (exfalso; exact Bool.false_ne_true h) | (exfalso; exact Bool.false_ne_true h.symm) | (exfalso; exact absurd (Int.ofNat_lt.1 (of_decide_eq_true ‹_›)) hl) | skip)) | refine SeqN.go ?_)); all_goals (conv => whnf)
    rfl
/-! Contracts of the reference's numbers by their digits: what is turned about, products, shifts, digit by digit. -/
theorem inv_set {a v : Int} {i : Nat} (j : Nat) (hv : v = 1 - dg a i) : (if j = i then v else if j < i then 1 - dg a j else dg a j) = if j < i + 1 then 1 - dg a j else dg a j := by
  by_cases h : j = i
  · subst h
    rw [if_pos rfl, if_pos (Nat.lt_succ_self _), hv]
  · rw [if_neg h]
    by_cases h2 : j < i
    · rw [if_pos h2, if_pos (by omega)]
    · rw [if_neg h2, if_neg (by omega)]
theorem w8 {x : Int} (hx : 0 ≤ x ∧ x ≤ 1) : IntKind.i64.wrap (1 - x) = 1 - x := by rw [sg_eq]; exact sg_in _ (by omega) (by omega)
set_option maxHeartbeats 2000000 in
theorem rInv_d (a : Int) : Den Tryz.prog 229 #[.int .i64 a] noFacts (.int .i64 (IntKind.i64.wrap (-1 - a))) := by
  refine den_of_body (args := [.int .i64 a]) hmix Tryz.func229 ?_
  have A := rDigits_d a
  (repeat' ((conv => whnf); first | refine CallN.big _ A ?_ | refine Ob.mk (okA0 _ rfl) ?_ | refine AdN.mk _ _ rfl ?_ | refine DrawN.a (Ob.mk (by decide +kernel) ?_) | refine DrawN.c (Ob.mk (by decide +kernel) ?_) | refine DrawN.b (Ob.mk (by decide +kernel) ?_) | refine Ob.mk (by kernel_rfl) ?_ | (refine Br.mk (fun h => ?_) (fun h => ?_) <;> (first | (exfalso; exact Bool.false_ne_true h) | (exfalso; exact Bool.false_ne_true h.symm) | skip)))); all_goals (conv => whnf)
  refine SeqN.go ?_
  (repeat' ((conv => whnf); first | refine AdN.mk _ _ rfl ?_ | refine DrawN.a (Ob.mk (by decide +kernel) ?_) | refine DrawN.c (Ob.mk (by decide +kernel) ?_) | refine DrawN.b (Ob.mk (by decide +kernel) ?_) | refine Ob.mk (by kernel_rfl) ?_ | (refine Br.mk (fun h => ?_) (fun h => ?_) <;> (first | (exfalso; exact Bool.false_ne_true h) | (exfalso; exact Bool.false_ne_true h.symm) | skip)))); all_goals (conv => whnf)
  refine LoopN.mk {i : Nat // i ≤ 64} (fun i => [(4, .v (.int .i64 i.1))]) (fun i => [.arr (arrL fun j => if j < i.1 then 1 - dg a j else dg a j)]) (fun i => 64 - i.1) ⟨0, Nat.zero_le _⟩ ?_ ?_
  · (conv => whnf); (repeat' (first | exact True.intro | exact rfl | refine And.intro ?_ ?_ | decide))
  (conv => whnf)
  rintro ⟨i, hi⟩
  by_cases hl : i < 64
  · (repeat' ((conv => whnf); first | refine Ob.mk (idxI hl) ?_ | refine rowA0 i rfl hl ?_ | refine Ob.mk (by decide) ?_ | refine Ob.mk (fitA i rfl hl) ?_ | refine AdN.mk _ _ rfl ?_ | refine DrawN.a (Ob.mk (by decide +kernel) ?_) | refine DrawN.c (Ob.mk (by decide +kernel) ?_) | refine DrawN.b (Ob.mk (by decide +kernel) ?_) | refine Ob.mk (by kernel_rfl) ?_ | (refine Br.mk (fun h => ?_) (fun h => ?_) <;> (first | (exfalso; exact Bool.false_ne_true h) | (exfalso; exact Bool.false_ne_true h.symm) | (exfalso; exact absurd (Int.ofNat_lt.2 hl) (of_decide_eq_false ‹_›)) | skip)) | refine SeqN.go ?_)); all_goals (conv => whnf)
    refine RoundN.mk ⟨i + 1, hl⟩ (Nat.sub_succ_lt_self _ _ hl) ?_
    have hself : (if i < i then 1 - dg a i else dg a i) = dg a i := if_neg (Nat.lt_irrefl i)
    (conv => whnf); (repeat' (first | exact True.intro | exact rfl | refine And.intro ?_ ?_ | decide))
    all_goals first
      | exact congrArg (Value.int _) (wi64 hl)
      | exact (storeA i rfl hl).trans (arrL_congr fun j hj => inv_set j ((congrArg (fun x => IntKind.i64.wrap (1 - x)) hself).trans (w8 (dg_in a i))))
      | trace_state
  · obtain rfl : i = 64 := Nat.le_antisymm hi (Nat.le_of_not_lt hl)
    have N := rNumber_d (fun j => if j < 64 then 1 - dg a j else dg a j) (fun j => by have := dg_in a j; split <;> omega)
    have e : IntKind.i64.wrap (vb (fun j => if j < 64 then 1 - dg a j else dg a j) 64) = IntKind.i64.wrap (-1 - a) := vb_eq fun j hj => (if_pos hj).trans (dg_inv a j).symm
    rw [e] at N
    (repeat' ((conv => whnf); first | refine CallN.any _ N ?_ | refine allA ?_ | refine AdN.mk _ _ rfl ?_ | refine DrawN.a (Ob.mk (by decide +kernel) ?_) | refine DrawN.c (Ob.mk (by decide +kernel) ?_) | refine DrawN.b (Ob.mk (by decide +kernel) ?_) | refine Ob.mk (by kernel_rfl) ?_ | (refine Br.mk (fun h => ?_) (fun h => ?_) <;> (first | (exfalso; exact Bool.false_ne_true h) | (exfalso; exact Bool.false_ne_true h.symm) | (exfalso; exact absurd (Int.ofNat_lt.1 (of_decide_eq_true ‹_›)) hl) | skip)) | refine SeqN.go ?_)); all_goals (conv => whnf)
    rfl
theorem neg_w (a : Int) : IntKind.i64.wrap (IntKind.i64.wrap (-1 - a) + 1) = IntKind.i64.wrap (-a) := by simp only [sg_eq]; unfold sg; omega
theorem rNeg_d (a : Int) : Den Tryz.prog 167 #[.int .i64 a] noFacts (.int .i64 (IntKind.i64.wrap (-a))) := by
  refine den_of_body (args := [.int .i64 a]) hmix Tryz.func167 ?_
  have A := rInv_d a
  have B := rAdd_d (IntKind.i64.wrap (-1 - a)) 1
  rw [neg_w] at B
  (repeat' ((conv => whnf); first | refine CallN.any _ A ?_ | refine CallN.any _ B ?_ | refine AdN.mk _ _ rfl ?_ | refine DrawN.a (Ob.mk (by decide +kernel) ?_) | refine DrawN.c (Ob.mk (by decide +kernel) ?_) | refine DrawN.b (Ob.mk (by decide +kernel) ?_) | refine Ob.mk (by kernel_rfl) ?_ | (refine Br.mk (fun h => ?_) (fun h => ?_) <;> (first | (exfalso; exact Bool.false_ne_true h) | (exfalso; exact Bool.false_ne_true h.symm) | skip)) | refine SeqN.go ?_)); all_goals (conv => whnf)
  rfl
theorem beq1 {x : Int} (h : (x == 1) = true) : x = 1 := by simpa using h
theorem bne1 {x : Int} (h : (x == 1) = false) : x ≠ 1 := by simpa using h
theorem mul_s1 {a : Int} (ha : IS a) : IntKind.i64.wrap (a * 2 ^ 0) = a := by rw [Int.pow_zero, Int.mul_one, sg_eq]; exact sg_in _ ha.1 ha.2
theorem mul_s2 (a b : Int) : IntKind.i64.wrap (a * (b % 2 ^ 0)) = 0 := by rw [Int.pow_zero, Int.emod_one, Int.mul_zero]; rfl
set_option maxHeartbeats 2000000 in
theorem rMul_d (a b : Int) (ha : IS a) : Den Tryz.prog 168 #[.int .i64 a, .int .i64 b] noFacts (.int .i64 (IntKind.i64.wrap (a * b))) := by
  refine den_of_body (args := [.int .i64 a, .int .i64 b]) hmix Tryz.func168 ?_
  have B := rDigits_d b
  (repeat' ((conv => whnf); first | refine CallN.big _ B ?_ | refine Ob.mk (okA0 _ rfl) ?_ | refine AdN.mk _ _ rfl ?_ | refine DrawN.a (Ob.mk (by decide +kernel) ?_) | refine DrawN.c (Ob.mk (by decide +kernel) ?_) | refine DrawN.b (Ob.mk (by decide +kernel) ?_) | refine Ob.mk (by kernel_rfl) ?_ | (refine Br.mk (fun h => ?_) (fun h => ?_) <;> (first | (exfalso; exact Bool.false_ne_true h) | (exfalso; exact Bool.false_ne_true h.symm) | skip)))); all_goals (conv => whnf)
  refine SeqN.go ?_
  (repeat' ((conv => whnf); first | refine AdN.mk _ _ rfl ?_ | refine DrawN.a (Ob.mk (by decide +kernel) ?_) | refine DrawN.c (Ob.mk (by decide +kernel) ?_) | refine DrawN.b (Ob.mk (by decide +kernel) ?_) | refine Ob.mk (by kernel_rfl) ?_ | (refine Br.mk (fun h => ?_) (fun h => ?_) <;> (first | (exfalso; exact Bool.false_ne_true h) | (exfalso; exact Bool.false_ne_true h.symm) | skip)))); all_goals (conv => whnf)
  refine LoopN.mk {i : Nat // i ≤ 64} (fun i => [(0, .v (.int .i64 (IntKind.i64.wrap (a * 2 ^ i.1)))), (7, .v (.int .i64 i.1)), (6, .v (.int .i64 (IntKind.i64.wrap (a * (b % 2 ^ i.1)))))]) (fun i => [.arr (arrL (dg b))]) (fun i => 64 - i.1) ⟨0, Nat.zero_le _⟩ ?_ ?_
  · (conv => whnf); (repeat' (first | exact True.intro | exact rfl | refine And.intro ?_ ?_ | decide))
    · exact congrArg (Value.int _) (mul_s1 ha).symm
    · exact congrArg (Value.int _) (mul_s2 a b).symm
  (conv => whnf)
  rintro ⟨i, hi⟩
  by_cases hl : i < 64
  · have D1 := rAdd_d (IntKind.i64.wrap (a * (b % 2 ^ i))) (IntKind.i64.wrap (a * 2 ^ i))
    have D2 := rAdd_d (IntKind.i64.wrap (a * 2 ^ i)) (IntKind.i64.wrap (a * 2 ^ i))
    rw [mul_dbl] at D2
    (repeat' ((conv => whnf); first | refine CallN.any _ D1 ?_ | refine CallN.any _ D2 ?_ | refine Ob.mk (idxI hl) ?_ | refine rowA0 i rfl hl ?_ | refine AdN.mk _ _ rfl ?_ | refine DrawN.a (Ob.mk (by decide +kernel) ?_) | refine DrawN.c (Ob.mk (by decide +kernel) ?_) | refine DrawN.b (Ob.mk (by decide +kernel) ?_) | refine Ob.mk (by kernel_rfl) ?_ | (refine Br.mk (fun h => ?_) (fun h => ?_) <;> (first | (exfalso; exact Bool.false_ne_true h) | (exfalso; exact Bool.false_ne_true h.symm) | (exfalso; exact absurd (Int.ofNat_lt.2 hl) (of_decide_eq_false ‹_›)) | skip)) | refine SeqN.go ?_)); all_goals (conv => whnf)
    · refine RoundN.mk ⟨i + 1, hl⟩ (Nat.sub_succ_lt_self _ _ hl) ?_
      (conv => whnf); (repeat' (first | exact True.intro | exact rfl | refine And.intro ?_ ?_ | decide))
      all_goals first | exact congrArg (Value.int _) (wi64 hl) | exact congrArg (Value.int _) (mul_dig (beq1 ‹_›)) | trace_state
    · refine RoundN.mk ⟨i + 1, hl⟩ (Nat.sub_succ_lt_self _ _ hl) ?_
      (conv => whnf); (repeat' (first | exact True.intro | exact rfl | refine And.intro ?_ ?_ | decide))
      all_goals first | exact congrArg (Value.int _) (wi64 hl) | exact congrArg (fun x => Value.int .i64 (IntKind.i64.wrap x)) (mul_dig0 (bne1 ‹_›)).symm | trace_state
  · obtain rfl : i = 64 := Nat.le_antisymm hi (Nat.le_of_not_lt hl)
    (repeat' ((conv => whnf); first | refine AdN.mk _ _ rfl ?_ | refine DrawN.a (Ob.mk (by decide +kernel) ?_) | refine DrawN.c (Ob.mk (by decide +kernel) ?_) | refine DrawN.b (Ob.mk (by decide +kernel) ?_) | refine Ob.mk (by kernel_rfl) ?_ | (refine Br.mk (fun h => ?_) (fun h => ?_) <;> (first | (exfalso; exact Bool.false_ne_true h) | (exfalso; exact Bool.false_ne_true h.symm) | (exfalso; exact absurd (Int.ofNat_lt.1 (of_decide_eq_true ‹_›)) hl) | skip)) | refine SeqN.go ?_)); all_goals (conv => whnf)
    exact congrArg (Value.int _) (wrap_mul_mod a b)
theorem low6 (b : Int) : up (dg b) 6 0 = b % 64 := by
  have := vb_up (dg b) 6 0
  rw [vb_dg, vb_dg] at this
  simp at this
  omega
theorem up6 {f : Nat → Int} (h : ∀ i, 0 ≤ f i ∧ f i ≤ 1) {j k : Nat} (hk : k + 1 ≤ 6) : IntKind.i64.wrap (IntKind.i64.wrap (2 * up f k (j + 1)) + f j) = up f (k + 1) j := by
  have h1 := up_in h k (j + 1)
  have h2 := h j
  have h3 : (2 : Int) ^ k ≤ 64 := by
    have : 2 ^ k ≤ 2 ^ 6 := Nat.pow_le_pow_right (by decide) (by omega)
    have e : (2 : Int) ^ k = ((2 ^ k : Nat) : Int) := by simp
    rw [e]
    omega
  have q1 : sg (2 * up f k (j + 1)) = 2 * up f k (j + 1) := sg_in _ (by omega) (by omega)
  simp only [sg_eq]
  rw [q1]
  show _ = f j + 2 * up f k (j + 1)
  rw [sg_in _ (by omega) (by omega)]
  omega
set_option maxHeartbeats 2000000 in
theorem rShiftN_d (b : Int) : Den Tryz.prog 165 #[.int .i64 b] noFacts (.int .i64 (b % 64)) := by
  refine den_of_body (args := [.int .i64 b]) hmix Tryz.func165 ?_
  have B := rDigits_d b
  (repeat' ((conv => whnf); first | refine CallN.big _ B ?_ | refine Ob.mk (okA0 _ rfl) ?_ | refine AdN.mk _ _ rfl ?_ | refine DrawN.a (Ob.mk (by decide +kernel) ?_) | refine DrawN.c (Ob.mk (by decide +kernel) ?_) | refine DrawN.b (Ob.mk (by decide +kernel) ?_) | refine Ob.mk (by kernel_rfl) ?_ | (refine Br.mk (fun h => ?_) (fun h => ?_) <;> (first | (exfalso; exact Bool.false_ne_true h) | (exfalso; exact Bool.false_ne_true h.symm) | skip)))); all_goals (conv => whnf)
  refine SeqN.go ?_
  (repeat' ((conv => whnf); first | refine AdN.mk _ _ rfl ?_ | refine DrawN.a (Ob.mk (by decide +kernel) ?_) | refine DrawN.c (Ob.mk (by decide +kernel) ?_) | refine DrawN.b (Ob.mk (by decide +kernel) ?_) | refine Ob.mk (by kernel_rfl) ?_ | (refine Br.mk (fun h => ?_) (fun h => ?_) <;> (first | (exfalso; exact Bool.false_ne_true h) | (exfalso; exact Bool.false_ne_true h.symm) | skip)))); all_goals (conv => whnf)
  refine LoopN.mk {i : Nat // i ≤ 6} (fun i => [(5, .v (.int .i64 ((i.1 : Int) - 1))), (4, .v (.int .i64 (up (dg b) (6 - i.1) i.1)))]) (fun i => [.arr (arrL (dg b))]) (fun i => i.1) ⟨6, Nat.le_refl _⟩ ?_ ?_
  · (conv => whnf); (repeat' (first | exact True.intro | exact rfl | refine And.intro ?_ ?_ | decide))
  (conv => whnf)
  rintro ⟨i, hi⟩
  rcases i with _ | j
  · (repeat' ((conv => whnf); first | refine AdN.mk _ _ rfl ?_ | refine DrawN.a (Ob.mk (by decide +kernel) ?_) | refine DrawN.c (Ob.mk (by decide +kernel) ?_) | refine DrawN.b (Ob.mk (by decide +kernel) ?_) | refine Ob.mk (by kernel_rfl) ?_ | (refine Br.mk (fun h => ?_) (fun h => ?_) <;> (first | (exfalso; exact Bool.false_ne_true h) | (exfalso; exact Bool.false_ne_true h.symm) | (exfalso; exact absurd (of_decide_eq_true ‹_›) (show ¬ ((0 : Nat) : Int) - 1 ≥ 0 by decide)) | skip)) | refine SeqN.go ?_)); all_goals (conv => whnf)
    exact congrArg (Value.int _) (low6 b)
  · have e : ((j + 1 : Nat) : Int) - 1 = (j : Int) := by omega
    have hj : j + 1 ≤ 64 := Nat.le_trans hi (by decide)
    have e2 : 6 - j = 6 - (j + 1) + 1 := by omega
    have st := up6 (dg_in b) (j := j) (k := 6 - (j + 1)) (by omega)
    rw [← e2] at st
    (repeat' ((conv => whnf); first | refine Ob.mk (idx64 e hj) ?_ | refine rowA0 j e hj ?_ | refine AdN.mk _ _ rfl ?_ | refine DrawN.a (Ob.mk (by decide +kernel) ?_) | refine DrawN.c (Ob.mk (by decide +kernel) ?_) | refine DrawN.b (Ob.mk (by decide +kernel) ?_) | refine Ob.mk (by kernel_rfl) ?_ | (refine Br.mk (fun h => ?_) (fun h => ?_) <;> (first | (exfalso; exact Bool.false_ne_true h) | (exfalso; exact Bool.false_ne_true h.symm) | (exfalso; exact absurd (show ((j + 1 : Nat) : Int) - 1 ≥ 0 by rw [e]; exact Int.natCast_nonneg _) (of_decide_eq_false ‹_›)) | skip)) | refine SeqN.go ?_)); all_goals (conv => whnf)
    refine RoundN.mk ⟨j, Nat.le_of_succ_le hi⟩ (Nat.lt_succ_self _) ?_
    (conv => whnf); (repeat' (first | exact True.intro | exact rfl | refine And.intro ?_ ?_ | decide))
    all_goals first | exact congrArg (Value.int _) (wdn hj) | exact congrArg (Value.int _) st | trace_state
theorem ech_set {h a b v : Int} {i : Nat} (j : Nat) (hv : v = ech h a b i) : (if j = i then v else if j < i then ech h a b j else 0) = if j < i + 1 then ech h a b j else 0 := set_dig j hv
theorem ech_keep {h a b : Int} {i : Nat} (j : Nat) (hv : ech h a b i = 0) : (if j < i then ech h a b j else 0) = if j < i + 1 then ech h a b j else 0 := by
  by_cases h2 : j < i
  · rw [if_pos h2, if_pos (by omega)]
  · by_cases e : j = i
    · subst e; rw [if_neg h2, if_pos (Nat.lt_succ_self _), hv]
    · rw [if_neg h2, if_neg (by omega)]
theorem w9 {x y : Int} (hx : 0 ≤ x ∧ x ≤ 1) (hy : 0 ≤ y ∧ y ≤ 1) : IntKind.i64.wrap (x + y) = x + y := by rw [sg_eq]; exact sg_in _ (by omega) (by omega)
theorem ech0 {a b : Int} {i : Nat} {c : Bool} (h : decide (IntKind.i64.wrap (dg a i + dg b i) > 0) = c) : ech 0 a b i = if c = true then 1 else 0 := by
  rw [w9 (dg_in a i) (dg_in b i)] at h
  subst h
  unfold ech
  simp
theorem ech1 {a b : Int} {i : Nat} {c : Bool} (h : (IntKind.i64.wrap (dg a i + dg b i) == 1) = c) : ech 1 a b i = if c = true then 1 else 0 := by
  rw [w9 (dg_in a i) (dg_in b i)] at h
  subst h
  unfold ech
  simp
theorem ech2 {a b : Int} {i : Nat} {c : Bool} (h : (IntKind.i64.wrap (dg a i + dg b i) == 2) = c) : ech 2 a b i = if c = true then 1 else 0 := by
  rw [w9 (dg_in a i) (dg_in b i)] at h
  subst h
  unfold ech
  simp
set_option maxHeartbeats 4000000 in
theorem rEach_d (a b h : Int) (hh : h = 0 ∨ h = 1 ∨ h = 2) : Den Tryz.prog 163 #[.int .i64 a, .int .i64 b, .int .i64 h] noFacts (.int .i64 (IntKind.i64.wrap (vb (ech h a b) 64))) := by
  refine den_of_body (args := [.int .i64 a, .int .i64 b, .int .i64 h]) hmix Tryz.func163 ?_
  have A := rDigits_d a
  have B := rDigits_d b
  have N := rNumber_d (fun j => if j < 64 then ech h a b j else 0) (fun j => by split; exact ech_in _ _ _ _; decide)
  have e : IntKind.i64.wrap (vb (fun j => if j < 64 then ech h a b j else 0) 64) = IntKind.i64.wrap (vb (ech h a b) 64) := congrArg IntKind.i64.wrap (vb_congr 64 fun j hj => if_pos hj)
  rw [e] at N
  clear e
  rcases hh with rfl | rfl | rfl
  all_goals
    (repeat' ((conv => whnf); first | refine CallN.big _ A ?_ | refine CallN.big _ B ?_ | refine Ob.mk (okA0 _ rfl) ?_ | refine AdN.mk _ _ rfl ?_ | refine DrawN.a (Ob.mk (by decide +kernel) ?_) | refine DrawN.c (Ob.mk (by decide +kernel) ?_) | refine DrawN.b (Ob.mk (by decide +kernel) ?_) | refine Ob.mk (by kernel_rfl) ?_ | (refine Br.mk (fun h => ?_) (fun h => ?_) <;> (first | (exfalso; exact Bool.false_ne_true h) | (exfalso; exact Bool.false_ne_true h.symm) | skip)))); all_goals (conv => whnf)
    refine SeqN.go ?_
    (repeat' ((conv => whnf); first | refine AdN.mk _ _ rfl ?_ | refine DrawN.a (Ob.mk (by decide +kernel) ?_) | refine DrawN.c (Ob.mk (by decide +kernel) ?_) | refine DrawN.b (Ob.mk (by decide +kernel) ?_) | refine Ob.mk (by kernel_rfl) ?_ | (refine Br.mk (fun h => ?_) (fun h => ?_) <;> (first | (exfalso; exact Bool.false_ne_true h) | (exfalso; exact Bool.false_ne_true h.symm) | skip)))); all_goals (conv => whnf)
  · refine LoopN.mk {i : Nat // i ≤ 64} (fun i => [(10, .v (.int .i64 i.1))]) (fun i => [.arr (arrL (dg a)), .arr (arrL (dg b)), .arr (arrL fun j => if j < i.1 then ech 0 a b j else 0)]) (fun i => 64 - i.1) ⟨0, Nat.zero_le _⟩ ?_ ?_
    · (conv => whnf); (repeat' (first | exact True.intro | exact rfl | refine And.intro ?_ ?_ | decide))
    (conv => whnf)
    rintro ⟨i, hi⟩
    by_cases hl : i < 64
    · (repeat' ((conv => whnf); first | refine Ob.mk (idxI hl) ?_ | refine rowA0 i rfl hl ?_ | refine Ob.mk (by decide) ?_ | refine Ob.mk (fitA i rfl hl) ?_ | refine AdN.mk _ _ rfl ?_ | refine DrawN.a (Ob.mk (by decide +kernel) ?_) | refine DrawN.c (Ob.mk (by decide +kernel) ?_) | refine DrawN.b (Ob.mk (by decide +kernel) ?_) | refine Ob.mk (by kernel_rfl) ?_ | (refine Br.mk (fun h => ?_) (fun h => ?_) <;> (first | (exfalso; exact Bool.false_ne_true h) | (exfalso; exact Bool.false_ne_true h.symm) | (exfalso; exact absurd (Int.ofNat_lt.2 hl) (of_decide_eq_false ‹_›)) | skip)) | refine SeqN.go ?_)); all_goals (conv => whnf)
      all_goals
        have hv := ech0 ‹_›
        refine RoundN.mk ⟨i + 1, hl⟩ (Nat.sub_succ_lt_self _ _ hl) ?_
        (conv => whnf); (repeat' (first | exact True.intro | exact rfl | refine And.intro ?_ ?_ | decide))
        all_goals first
          | exact congrArg (Value.int _) (wi64 hl)
          | exact (storeA i rfl hl).trans (arrL_congr fun j hj => ech_set j (hv.trans (if_pos rfl)).symm)
          | exact arrL_congr fun j hj => ech_keep j (hv.trans (if_neg (by decide)))
          | trace_state
    · obtain rfl : i = 64 := Nat.le_antisymm hi (Nat.le_of_not_lt hl)
      (repeat' ((conv => whnf); first | refine CallN.any _ N ?_ | refine allA ?_ | refine AdN.mk _ _ rfl ?_ | refine DrawN.a (Ob.mk (by decide +kernel) ?_) | refine DrawN.c (Ob.mk (by decide +kernel) ?_) | refine DrawN.b (Ob.mk (by decide +kernel) ?_) | refine Ob.mk (by kernel_rfl) ?_ | (refine Br.mk (fun h => ?_) (fun h => ?_) <;> (first | (exfalso; exact Bool.false_ne_true h) | (exfalso; exact Bool.false_ne_true h.symm) | (exfalso; exact absurd (Int.ofNat_lt.1 (of_decide_eq_true ‹_›)) hl) | skip)) | refine SeqN.go ?_)); all_goals (conv => whnf)
      rfl
  · refine LoopN.mk {i : Nat // i ≤ 64} (fun i => [(10, .v (.int .i64 i.1))]) (fun i => [.arr (arrL (dg a)), .arr (arrL (dg b)), .arr (arrL fun j => if j < i.1 then ech 1 a b j else 0)]) (fun i => 64 - i.1) ⟨0, Nat.zero_le _⟩ ?_ ?_
    · (conv => whnf); (repeat' (first | exact True.intro | exact rfl | refine And.intro ?_ ?_ | decide))
    (conv => whnf)
    rintro ⟨i, hi⟩
    by_cases hl : i < 64
    · (repeat' ((conv => whnf); first | refine Ob.mk (idxI hl) ?_ | refine rowA0 i rfl hl ?_ | refine Ob.mk (by decide) ?_ | refine Ob.mk (fitA i rfl hl) ?_ | refine AdN.mk _ _ rfl ?_ | refine DrawN.a (Ob.mk (by decide +kernel) ?_) | refine DrawN.c (Ob.mk (by decide +kernel) ?_) | refine DrawN.b (Ob.mk (by decide +kernel) ?_) | refine Ob.mk (by kernel_rfl) ?_ | (refine Br.mk (fun h => ?_) (fun h => ?_) <;> (first | (exfalso; exact Bool.false_ne_true h) | (exfalso; exact Bool.false_ne_true h.symm) | (exfalso; exact absurd (Int.ofNat_lt.2 hl) (of_decide_eq_false ‹_›)) | skip)) | refine SeqN.go ?_)); all_goals (conv => whnf)
      all_goals
        have hv := ech1 ‹_›
        refine RoundN.mk ⟨i + 1, hl⟩ (Nat.sub_succ_lt_self _ _ hl) ?_
        (conv => whnf); (repeat' (first | exact True.intro | exact rfl | refine And.intro ?_ ?_ | decide))
        all_goals first
          | exact congrArg (Value.int _) (wi64 hl)
          | exact (storeA i rfl hl).trans (arrL_congr fun j hj => ech_set j (hv.trans (if_pos rfl)).symm)
          | exact arrL_congr fun j hj => ech_keep j (hv.trans (if_neg (by decide)))
          | trace_state
    · obtain rfl : i = 64 := Nat.le_antisymm hi (Nat.le_of_not_lt hl)
      (repeat' ((conv => whnf); first | refine CallN.any _ N ?_ | refine allA ?_ | refine AdN.mk _ _ rfl ?_ | refine DrawN.a (Ob.mk (by decide +kernel) ?_) | refine DrawN.c (Ob.mk (by decide +kernel) ?_) | refine DrawN.b (Ob.mk (by decide +kernel) ?_) | refine Ob.mk (by kernel_rfl) ?_ | (refine Br.mk (fun h => ?_) (fun h => ?_) <;> (first | (exfalso; exact Bool.false_ne_true h) | (exfalso; exact Bool.false_ne_true h.symm) | (exfalso; exact absurd (Int.ofNat_lt.1 (of_decide_eq_true ‹_›)) hl) | skip)) | refine SeqN.go ?_)); all_goals (conv => whnf)
      rfl
  · refine LoopN.mk {i : Nat // i ≤ 64} (fun i => [(10, .v (.int .i64 i.1))]) (fun i => [.arr (arrL (dg a)), .arr (arrL (dg b)), .arr (arrL fun j => if j < i.1 then ech 2 a b j else 0)]) (fun i => 64 - i.1) ⟨0, Nat.zero_le _⟩ ?_ ?_
    · (conv => whnf); (repeat' (first | exact True.intro | exact rfl | refine And.intro ?_ ?_ | decide))
    (conv => whnf)
    rintro ⟨i, hi⟩
    by_cases hl : i < 64
    · (repeat' ((conv => whnf); first | refine Ob.mk (idxI hl) ?_ | refine rowA0 i rfl hl ?_ | refine Ob.mk (by decide) ?_ | refine Ob.mk (fitA i rfl hl) ?_ | refine AdN.mk _ _ rfl ?_ | refine DrawN.a (Ob.mk (by decide +kernel) ?_) | refine DrawN.c (Ob.mk (by decide +kernel) ?_) | refine DrawN.b (Ob.mk (by decide +kernel) ?_) | refine Ob.mk (by kernel_rfl) ?_ | (refine Br.mk (fun h => ?_) (fun h => ?_) <;> (first | (exfalso; exact Bool.false_ne_true h) | (exfalso; exact Bool.false_ne_true h.symm) | (exfalso; exact absurd (Int.ofNat_lt.2 hl) (of_decide_eq_false ‹_›)) | skip)) | refine SeqN.go ?_)); all_goals (conv => whnf)
      all_goals
        have hv := ech2 ‹_›
        refine RoundN.mk ⟨i + 1, hl⟩ (Nat.sub_succ_lt_self _ _ hl) ?_
        (conv => whnf); (repeat' (first | exact True.intro | exact rfl | refine And.intro ?_ ?_ | decide))
        all_goals first
          | exact congrArg (Value.int _) (wi64 hl)
          | exact (storeA i rfl hl).trans (arrL_congr fun j hj => ech_set j (hv.trans (if_pos rfl)).symm)
          | exact arrL_congr fun j hj => ech_keep j (hv.trans (if_neg (by decide)))
          | trace_state
    · obtain rfl : i = 64 := Nat.le_antisymm hi (Nat.le_of_not_lt hl)
      (repeat' ((conv => whnf); first | refine CallN.any _ N ?_ | refine allA ?_ | refine AdN.mk _ _ rfl ?_ | refine DrawN.a (Ob.mk (by decide +kernel) ?_) | refine DrawN.c (Ob.mk (by decide +kernel) ?_) | refine DrawN.b (Ob.mk (by decide +kernel) ?_) | refine Ob.mk (by kernel_rfl) ?_ | (refine Br.mk (fun h => ?_) (fun h => ?_) <;> (first | (exfalso; exact Bool.false_ne_true h) | (exfalso; exact Bool.false_ne_true h.symm) | (exfalso; exact absurd (Int.ofNat_lt.1 (of_decide_eq_true ‹_›)) hl) | skip)) | refine SeqN.go ?_)); all_goals (conv => whnf)
      rfl
/-! Contracts of the reference's numbers by their digits: shifts, quotients; what operators make. -/
theorem rBit_d (b : Bool) : Den Tryz.prog 161 #[.bool b] noFacts (.int .i64 (if b then 1 else 0)) := by
  refine den_of_body (args := [.bool b]) hmix Tryz.func161 ?_
  (repeat' ((conv => whnf); first | refine AdN.mk _ _ rfl ?_ | refine DrawN.a (Ob.mk (by decide +kernel) ?_) | refine DrawN.c (Ob.mk (by decide +kernel) ?_) | refine DrawN.b (Ob.mk (by decide +kernel) ?_) | refine Ob.mk (by kernel_rfl) ?_ | (refine Br.mk (fun h => ?_) (fun h => ?_) <;> (first | (exfalso; exact Bool.false_ne_true h) | (exfalso; exact Bool.false_ne_true h.symm) | skip)) | refine SeqN.go ?_)); all_goals (conv => whnf)
  all_goals (cases b <;> first | rfl | (exfalso; grind))
/-- Towards 0. -/
def quo (a b : Int) : Int := IntKind.i64.wrap (a.tdiv b)
theorem rSize_d (a : Int) (ha : IS a) : Den Tryz.prog 230 #[.int .i64 a] noFacts (.int .u64 (a.natAbs : Int)) := by
  refine den_of_body (args := [.int .i64 a]) hmix Tryz.func230 ?_
  have A := rNeg_d a
  (repeat' ((conv => whnf); first | refine CallN.any _ A ?_ | refine AdN.mk _ _ rfl ?_ | refine DrawN.a (Ob.mk (by decide +kernel) ?_) | refine DrawN.c (Ob.mk (by decide +kernel) ?_) | refine DrawN.b (Ob.mk (by decide +kernel) ?_) | refine Ob.mk (by kernel_rfl) ?_ | (refine Br.mk (fun h => ?_) (fun h => ?_) <;> (first | (exfalso; exact Bool.false_ne_true h) | (exfalso; exact Bool.false_ne_true h.symm) | skip)) | refine SeqN.go ?_)); all_goals (conv => whnf)
  · have h := of_decide_eq_true ‹decide (a < 0) = true›
    refine congrArg (Value.int _) ?_
    have h1 := ha.1
    simp only [us_eq, sg_eq]; unfold us sg; omega
  · have h := of_decide_eq_false ‹decide (a < 0) = false›
    refine congrArg (Value.int _) ?_
    have h1 := ha.2
    simp only [us_eq]; unfold us; omega
theorem quo_same {a b : Int} (ha : IS a) (hb : IS b) (h0 : b ≠ 0) (h : (decide (a < 0)) = (decide (b < 0))) : IntKind.i64.wrap (IntKind.u64.wrap (((a.natAbs : Nat) : Int).tdiv ((b.natAbs : Nat) : Int))) = quo a b := by
  unfold quo
  have e : ((a.natAbs : Nat) : Int).tdiv ((b.natAbs : Nat) : Int) = a.tdiv b := by
    by_cases c1 : a < 0 <;> by_cases c2 : b < 0 <;> simp [c1, c2] at h
    · rw [show ((a.natAbs : Nat) : Int) = -a by omega, show ((b.natAbs : Nat) : Int) = -b by omega, Int.neg_tdiv, Int.tdiv_neg, Int.neg_neg]
    · rw [show ((a.natAbs : Nat) : Int) = a by omega, show ((b.natAbs : Nat) : Int) = b by omega]
  rw [e, us_eq, sg_eq, sg_eq]
  unfold us sg
  omega
theorem quo_other {a b : Int} (ha : IS a) (hb : IS b) (h0 : b ≠ 0) (h : (decide (a < 0)) ≠ (decide (b < 0))) : IntKind.i64.wrap (-(IntKind.i64.wrap (IntKind.u64.wrap (((a.natAbs : Nat) : Int).tdiv ((b.natAbs : Nat) : Int))))) = quo a b := by
  unfold quo
  have e : ((a.natAbs : Nat) : Int).tdiv ((b.natAbs : Nat) : Int) = -(a.tdiv b) := by
    by_cases c1 : a < 0 <;> by_cases c2 : b < 0 <;> simp [c1, c2] at h
    · rw [show ((a.natAbs : Nat) : Int) = -a by omega, show ((b.natAbs : Nat) : Int) = b by omega, Int.neg_tdiv]
    · rw [show ((a.natAbs : Nat) : Int) = a by omega, show ((b.natAbs : Nat) : Int) = -b by omega, Int.tdiv_neg]
  rw [e, us_eq, sg_eq, sg_eq, sg_eq]
  unfold us sg
  omega
theorem bneB {x y : Bool} (h : (!(x == y)) = true) : x ≠ y := by simpa using h
theorem beqB {x y : Bool} (h : (!(x == y)) = false) : x = y := by simpa using h
theorem rQuot_d (a b : Int) (ha : IS a) (hb : IS b) (h0 : b ≠ 0) : Den Tryz.prog 169 #[.int .i64 a, .int .i64 b] noFacts (.int .i64 (quo a b)) := by
  refine den_of_body (args := [.int .i64 a, .int .i64 b]) hmix Tryz.func169 ?_
  have A := rSize_d a ha
  have B := rSize_d b hb
  have N := rNeg_d (IntKind.i64.wrap (IntKind.u64.wrap (((a.natAbs : Nat) : Int).tdiv ((b.natAbs : Nat) : Int))))
  (repeat' ((conv => whnf); first | refine CallN.any _ A ?_ | refine CallN.any _ B ?_ | refine CallN.any _ N ?_ | refine Ob.mk (show ((b.natAbs : Nat) : Int) ≠ 0 by omega) ?_ | refine AdN.mk _ _ rfl ?_ | refine DrawN.a (Ob.mk (by decide +kernel) ?_) | refine DrawN.c (Ob.mk (by decide +kernel) ?_) | refine DrawN.b (Ob.mk (by decide +kernel) ?_) | refine Ob.mk (by kernel_rfl) ?_ | (refine Br.mk (fun h => ?_) (fun h => ?_) <;> (first | (exfalso; exact Bool.false_ne_true h) | (exfalso; exact Bool.false_ne_true h.symm) | skip)) | refine SeqN.go ?_)); all_goals (conv => whnf)
  · exact congrArg (Value.int _) (quo_other ha hb h0 (bneB ‹_›))
  · exact congrArg (Value.int _) (quo_same ha hb h0 (beqB ‹_›))
theorem shf_set {a s v : Int} {i : Nat} (j : Nat) (hv : v = shf a s i) : (if j = i then v else if j < i then shf a s j else 0) = if j < i + 1 then shf a s j else 0 := set_dig j hv
theorem shf_keep {a s : Int} {i : Nat} (j : Nat) (hv : shf a s i = 0) : (if j < i then shf a s j else 0) = if j < i + 1 then shf a s j else 0 := by
  by_cases h2 : j < i
  · rw [if_pos h2, if_pos (by omega)]
  · by_cases e : j = i
    · subst e; rw [if_neg h2, if_pos (Nat.lt_succ_self _), hv]
    · rw [if_neg h2, if_neg (by omega)]
theorem sh_ix {i : Nat} {s z : Int} (e : z = (i : Int) - s) (h : decide (z > 63) = false) (k : decide (z ≥ 0) = true) : 0 ≤ z ∧ z < ((64 : Nat) : Int) := by
  have := of_decide_eq_false h
  have := of_decide_eq_true k
  omega
theorem sh_e {i : Nat} {s z : Int} (e : z = (i : Int) - s) (k : decide (z ≥ 0) = true) : z = ((((i : Int) - s).toNat : Nat) : Int) := by
  have := of_decide_eq_true k
  omega
theorem sh_lt {i : Nat} {s z : Int} (e : z = (i : Int) - s) (h : decide (z > 63) = false) (k : decide (z ≥ 0) = true) : ((i : Int) - s).toNat < 64 := by
  have := of_decide_eq_false h
  have := of_decide_eq_true k
  omega
theorem sh_v1 {a : Int} {i : Nat} {s z : Int} (e : z = (i : Int) - s) (h : decide (z > 63) = true) : dg a 63 = shf a s i := by
  have h := of_decide_eq_true h
  rw [e] at h
  unfold shf
  dsimp only
  rw [if_pos h, if_pos (by decide)]
  rfl
theorem sh_v2 {a : Int} {i : Nat} {s z : Int} (e : z = (i : Int) - s) (h : decide (z > 63) = false) (k : decide (z ≥ 0) = true) : dg a ((i : Int) - s).toNat = shf a s i := by
  have h := of_decide_eq_false h
  have k := of_decide_eq_true k
  rw [e] at h k
  unfold shf
  dsimp only
  rw [if_neg h, if_pos k]
theorem sh_v3 {a : Int} {i : Nat} {s z : Int} (e : z = (i : Int) - s) (h : decide (z > 63) = false) (k : decide (z ≥ 0) = false) : shf a s i = 0 := by
  have h := of_decide_eq_false h
  have k := of_decide_eq_false k
  rw [e] at h k
  unfold shf
  dsimp only
  rw [if_neg h, if_neg k]
set_option maxHeartbeats 4000000 in
theorem rShf_d (a s : Int) (hs : -63 ≤ s ∧ s ≤ 63) : Den Tryz.prog 164 #[.int .i64 a, .int .i64 s] noFacts (.int .i64 (IntKind.i64.wrap (vb (shf a s) 64))) := by
  refine den_of_body (args := [.int .i64 a, .int .i64 s]) hmix Tryz.func164 ?_
  have A := rDigits_d a
  have N := rNumber_d (fun j => if j < 64 then shf a s j else 0) (fun j => by split; exact shf_in _ _ _; decide)
  have e : IntKind.i64.wrap (vb (fun j => if j < 64 then shf a s j else 0) 64) = IntKind.i64.wrap (vb (shf a s) 64) := congrArg IntKind.i64.wrap (vb_congr 64 fun j hj => if_pos hj)
  rw [e] at N
  clear e
  (repeat' ((conv => whnf); first | refine CallN.big _ A ?_ | refine Ob.mk (okA0 _ rfl) ?_ | refine AdN.mk _ _ rfl ?_ | refine DrawN.a (Ob.mk (by decide +kernel) ?_) | refine DrawN.c (Ob.mk (by decide +kernel) ?_) | refine DrawN.b (Ob.mk (by decide +kernel) ?_) | refine Ob.mk (by kernel_rfl) ?_ | (refine Br.mk (fun h => ?_) (fun h => ?_) <;> (first | (exfalso; exact Bool.false_ne_true h) | (exfalso; exact Bool.false_ne_true h.symm) | skip)))); all_goals (conv => whnf)
  refine SeqN.go ?_
  (repeat' ((conv => whnf); first | refine AdN.mk _ _ rfl ?_ | refine DrawN.a (Ob.mk (by decide +kernel) ?_) | refine DrawN.c (Ob.mk (by decide +kernel) ?_) | refine DrawN.b (Ob.mk (by decide +kernel) ?_) | refine Ob.mk (by kernel_rfl) ?_ | (refine Br.mk (fun h => ?_) (fun h => ?_) <;> (first | (exfalso; exact Bool.false_ne_true h) | (exfalso; exact Bool.false_ne_true h.symm) | skip)))); all_goals (conv => whnf)
  refine LoopN.mk {i : Nat // i ≤ 64} (fun i => [(7, .v (.int .i64 i.1))]) (fun i => [.arr (arrL (dg a)), .arr (arrL fun j => if j < i.1 then shf a s j else 0)]) (fun i => 64 - i.1) ⟨0, Nat.zero_le _⟩ ?_ ?_
  · (conv => whnf); (repeat' (first | exact True.intro | exact rfl | refine And.intro ?_ ?_ | decide))
  (conv => whnf)
  rintro ⟨i, hi⟩
  by_cases hl : i < 64
  · have ew : IntKind.i64.wrap ((i : Int) - s) = (i : Int) - s := by rw [sg_eq]; exact sg_in _ (by omega) (by omega)
    (repeat' ((conv => whnf); first | refine Ob.mk (idxI hl) ?_ | refine Ob.mk (by decide) ?_ | refine Ob.mk (fitA i rfl hl) ?_ | refine rowA0 63 rfl (by decide) ?_ | refine Ob.mk (sh_ix ew ‹_› ‹_›) ?_ | refine rowA0 ((i : Int) - s).toNat (sh_e ew ‹_›) (sh_lt ew ‹decide (IntKind.i64.wrap ((i : Int) - s) > 63) = false› ‹_›) ?_ | refine AdN.mk _ _ rfl ?_ | refine DrawN.a (Ob.mk (by decide +kernel) ?_) | refine DrawN.c (Ob.mk (by decide +kernel) ?_) | refine DrawN.b (Ob.mk (by decide +kernel) ?_) | refine Ob.mk (by kernel_rfl) ?_ | (refine Br.mk (fun h => ?_) (fun h => ?_) <;> (first | (exfalso; exact Bool.false_ne_true h) | (exfalso; exact Bool.false_ne_true h.symm) | (exfalso; exact absurd (Int.ofNat_lt.2 hl) (of_decide_eq_false ‹_›)) | skip)) | refine SeqN.go ?_)); all_goals (conv => whnf)
    · refine RoundN.mk ⟨i + 1, hl⟩ (Nat.sub_succ_lt_self _ _ hl) ?_
      have hv := sh_v1 (a := a) ew ‹_›
      (conv => whnf); (repeat' (first | exact True.intro | exact rfl | refine And.intro ?_ ?_ | decide))
      all_goals first
        | exact congrArg (Value.int _) (wi64 hl)
        | exact (storeA i rfl hl).trans (arrL_congr fun j hj => shf_set j hv)
        | trace_state
    · refine RoundN.mk ⟨i + 1, hl⟩ (Nat.sub_succ_lt_self _ _ hl) ?_
      have hv := sh_v2 (a := a) ew ‹decide (IntKind.i64.wrap ((i : Int) - s) > 63) = false› ‹_›
      (conv => whnf); (repeat' (first | exact True.intro | exact rfl | refine And.intro ?_ ?_ | decide))
      all_goals first
        | exact congrArg (Value.int _) (wi64 hl)
        | exact (storeA i rfl hl).trans (arrL_congr fun j hj => shf_set j hv)
        | trace_state
    · refine RoundN.mk ⟨i + 1, hl⟩ (Nat.sub_succ_lt_self _ _ hl) ?_
      have hv := sh_v3 (a := a) ew ‹decide (IntKind.i64.wrap ((i : Int) - s) > 63) = false› ‹_›
      (conv => whnf); (repeat' (first | exact True.intro | exact rfl | refine And.intro ?_ ?_ | decide))
      all_goals first
        | exact congrArg (Value.int _) (wi64 hl)
        | exact arrL_congr fun j hj => shf_keep j hv
        | trace_state
  · obtain rfl : i = 64 := Nat.le_antisymm hi (Nat.le_of_not_lt hl)
    (repeat' ((conv => whnf); first | refine CallN.any _ N ?_ | refine allA ?_ | refine AdN.mk _ _ rfl ?_ | refine DrawN.a (Ob.mk (by decide +kernel) ?_) | refine DrawN.c (Ob.mk (by decide +kernel) ?_) | refine DrawN.b (Ob.mk (by decide +kernel) ?_) | refine Ob.mk (by kernel_rfl) ?_ | (refine Br.mk (fun h => ?_) (fun h => ?_) <;> (first | (exfalso; exact Bool.false_ne_true h) | (exfalso; exact Bool.false_ne_true h.symm) | (exfalso; exact absurd (Int.ofNat_lt.1 (of_decide_eq_true ‹_›)) hl) | skip)) | refine SeqN.go ?_)); all_goals (conv => whnf)
    rfl
end Go.Proofs.YtljhbdgoknfkcaaGreatDoor
