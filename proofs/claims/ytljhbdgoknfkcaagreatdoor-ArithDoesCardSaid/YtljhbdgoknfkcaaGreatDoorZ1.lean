/- Contracts of the reference's numbers by their digits: digits, number. -/
import Derived.Test.YtljhbdgoknfkcaaGreatDoorI1
import Derived.Test.YtljhbdgoknfkcaaGreatDoorPD
namespace Go.Proofs.YtljhbdgoknfkcaaGreatDoor
open Go Go.RowKit Go.Sort
set_option linter.unusedVariables false
set_option linter.unusedSimpArgs false
set_option maxRecDepth 100000

theorem rowA {f : Nat → Int} {z : Int} {K : List Value → Prop} (n : Nat) (e : z = (n : Int)) (h : n < 64) (k : K [.int .i64 (f n)]) : RowN (arrL f) (z.toNat * 1) 1 K := by
  subst e
  rw [Int.toNat_natCast, Nat.mul_one]
  refine .mk _ ?_ rfl k
  have h2 : n < (arrL f).length := by rw [arrL_len]; exact h
  rw [List.drop_eq_getElem_cons h2]
  have := arrL_at (f := f) h
  rw [List.getElem?_eq_getElem h2] at this
  rw [Option.some.inj this]
  rfl
theorem rowA0 {f : Nat → Int} {z : Int} {K : List Value → Prop} (n : Nat) (e : z = (n : Int)) (h : n < 64) (k : K [.int .i64 (f n)]) : RowN (arrL f) (0 + z.toNat * 1) 1 K := by
  rw [Nat.zero_add]; exact rowA n e h k
theorem storeA {f : Nat → Int} {z v : Int} (n : Nat) (e : z = (n : Int)) (h : n < 64) : storeV (arrL f) (0 + z.toNat * 1) [.int .i64 v] = arrL fun j => if j = n then v else f j := by
  subst e
  rw [Int.toNat_natCast, Nat.mul_one, Nat.zero_add]
  show setL (arrL f) n _ = _
  rw [setL_eq, arrL_set h]
theorem fitA {f : Nat → Int} {z : Int} (n : Nat) (e : z = (n : Int)) (h : n < 64) : 0 + z.toNat * 1 + 1 ≤ (arrL f).length := by rw [arrL_len]; omega
theorem allA {f : Nat → Int} {K : List Value → Prop} (k : K (arrL f)) : RowN (arrL f) 0 64 K := by
  refine .mk _ ?_ (arrL_len f) k
  rw [List.drop_zero, List.take_of_length_le (by rw [arrL_len]; exact Nat.le_refl _)]
theorem okA (f g : Nat → Int) : 0 = 0 ∧ (arrL f).toArray.toList.length = 64 ∧ (arrL g).length = 64 ∧ ∀ u ∈ (arrL f).toArray.toList, u.oneCell' = true := by
  refine ⟨rfl, by rw [List.toList_toArray, arrL_len], arrL_len g, fun u hu => ?_⟩
  rw [List.toList_toArray] at hu
  obtain ⟨i, _, rfl⟩ := List.mem_map.1 hu
  rfl
theorem okA0 (f : Nat → Int) {xs : List Value} (h : xs.length = 64) : 0 = 0 ∧ (arrL f).toArray.toList.length = 64 ∧ xs.length = 64 ∧ ∀ u ∈ (arrL f).toArray.toList, u.oneCell' = true := ⟨rfl, (okA f f).2.1, h, (okA f f).2.2.2⟩
theorem allAt {f : Nat → Int} {K : List Value → Prop} (k : K (arrL f)) : RowN ((arrL f).toArray.toList) 0 64 K := allA k
theorem wi64 {i : Nat} (h : i < 64) : IntKind.i64.wrap ((i : Int) + 1) = ((i + 1 : Nat) : Int) := by rw [sg_eq, sg_in _ (by omega) (by omega)]; omega
theorem dig_q (n : Int) (i : Nat) : IntKind.u64.wrap ((us n / 2 ^ i).tdiv 2) = us n / 2 ^ (i + 1) := by
  have h0 : 0 ≤ us n := by unfold us; omega
  have h1 : us n ≤ 18446744073709551615 := by unfold us; omega
  have h2 : 0 ≤ us n / 2 ^ i := Int.ediv_nonneg h0 (Int.le_of_lt (p2pos i))
  have h3 : us n / 2 ^ i ≤ us n := Int.ediv_le_self _ h0
  rw [div2_succ, Int.tdiv_eq_ediv_of_nonneg h2, us_eq]
  generalize us n / 2 ^ i = x at *
  exact us_in _ (by omega) (by omega)
theorem dig_p (n : Int) {i : Nat} (hi : i < 64) (j : Nat) : (if j = i then IntKind.i64.wrap ((us n / 2 ^ i).tmod 2) else if j < i then dg n j else 0) = if j < i + 1 then dg n j else 0 := by
  by_cases h : j = i
  · subst h
    rw [if_pos rfl, if_pos (Nat.lt_succ_self _)]
    have h0 : 0 ≤ us n := by unfold us; omega
    have h2 : 0 ≤ us n / 2 ^ j := Int.ediv_nonneg h0 (Int.le_of_lt (p2pos j))
    rw [Int.tmod_eq_emod_of_nonneg h2]
    have e : us n / 2 ^ j % 2 = dg n j := by
      rw [← dg_mod (z := n) hi]
      unfold dg us
      rw [show (2 : Int) ^ 64 = 18446744073709551616 by decide]
    rw [e, sg_eq]
    have := dg_in n j
    exact sg_in _ (by omega) (by omega)
  · rw [if_neg h]
    by_cases h2 : j < i
    · rw [if_pos h2, if_pos (by omega)]
    · rw [if_neg h2, if_neg (by omega)]
set_option maxHeartbeats 2000000 in
theorem rDigits_d (n : Int) : Den Tryz.prog 227 #[.int .i64 n] noFacts (.agg (arrL (dg n)).toArray) := by
  refine den_of_body (args := [.int .i64 n]) hmix Tryz.func227 ?_
  (repeat' ((conv => whnf); first | refine AdN.mk _ _ rfl ?_ | refine DrawN.a (Ob.mk (by decide +kernel) ?_) | refine DrawN.c (Ob.mk (by decide +kernel) ?_) | refine DrawN.b (Ob.mk (by decide +kernel) ?_) | refine Ob.mk (by kernel_rfl) ?_ | (refine Br.mk (fun h => ?_) (fun h => ?_) <;> (first | (exfalso; exact Bool.false_ne_true h) | (exfalso; exact Bool.false_ne_true h.symm) | skip)))); all_goals (conv => whnf)
  refine SeqN.go ?_
  (repeat' ((conv => whnf); first | refine AdN.mk _ _ rfl ?_ | refine DrawN.a (Ob.mk (by decide +kernel) ?_) | refine DrawN.c (Ob.mk (by decide +kernel) ?_) | refine DrawN.b (Ob.mk (by decide +kernel) ?_) | refine Ob.mk (by kernel_rfl) ?_ | (refine Br.mk (fun h => ?_) (fun h => ?_) <;> (first | (exfalso; exact Bool.false_ne_true h) | (exfalso; exact Bool.false_ne_true h.symm) | skip)))); all_goals (conv => whnf)
  refine LoopN.mk {i : Nat // i ≤ 64} (fun i => [(5, .v (.int .i64 i.1)), (4, .v (.int .u64 (us n / 2 ^ i.1)))]) (fun i => [.arr (arrL fun _ => 0), .arr (arrL fun j => if j < i.1 then dg n j else 0)]) (fun i => 64 - i.1) ⟨0, Nat.zero_le _⟩ ?_ ?_
  · (conv => whnf); (repeat' (first | exact True.intro | exact rfl | refine And.intro ?_ ?_ | decide))
    all_goals first | (refine congrArg (Value.int _) ?_; rw [us_eq]; simp; done) | trace_state
  (conv => whnf)
  rintro ⟨i, hi⟩
  by_cases hl : i < 64
  · (repeat' ((conv => whnf); first | refine Ob.mk ⟨Int.natCast_nonneg _, Int.ofNat_lt.2 hl⟩ ?_ | refine Ob.mk (by decide) ?_ | refine Ob.mk (fitA i rfl hl) ?_ | refine AdN.mk _ _ rfl ?_ | refine DrawN.a (Ob.mk (by decide +kernel) ?_) | refine DrawN.c (Ob.mk (by decide +kernel) ?_) | refine DrawN.b (Ob.mk (by decide +kernel) ?_) | refine Ob.mk (by kernel_rfl) ?_ | (refine Br.mk (fun h => ?_) (fun h => ?_) <;> (first | (exfalso; exact Bool.false_ne_true h) | (exfalso; exact Bool.false_ne_true h.symm) | (exfalso; exact absurd (Int.ofNat_lt.2 hl) (of_decide_eq_false ‹_›)) | skip)) | refine SeqN.go ?_)); all_goals (conv => whnf)
    refine RoundN.mk ⟨i + 1, hl⟩ (Nat.sub_succ_lt_self _ _ hl) ?_
    (conv => whnf); (repeat' (first | exact True.intro | exact rfl | refine And.intro ?_ ?_ | decide))
    all_goals first
      | exact congrArg (Value.int _) (wi64 hl)
      | exact congrArg (Value.int _) (dig_q n i)
      | exact (storeA i rfl hl).trans (arrL_congr fun j hj => dig_p n hl j)
      | trace_state
  · obtain rfl : i = 64 := by omega
    have e : arrL (fun j => if j < 64 then dg n j else 0) = arrL (dg n) := arrL_congr fun j hj => if_pos hj
    (repeat' ((conv => whnf); first | refine allA ?_ | refine AdN.mk _ _ rfl ?_ | refine DrawN.a (Ob.mk (by decide +kernel) ?_) | refine DrawN.c (Ob.mk (by decide +kernel) ?_) | refine DrawN.b (Ob.mk (by decide +kernel) ?_) | refine Ob.mk (by kernel_rfl) ?_ | (refine Br.mk (fun h => ?_) (fun h => ?_) <;> (first | (exfalso; exact Bool.false_ne_true h) | (exfalso; exact Bool.false_ne_true h.symm) | (exfalso; exact absurd (Int.ofNat_lt.1 (of_decide_eq_true ‹_›)) hl) | skip)) | refine SeqN.go ?_)); all_goals (conv => whnf)
    refine Ob.mk (okA _ _) ?_
    (conv => whnf)
    refine allAt ?_
    exact congrArg (fun l => Value.agg (List.toArray l)) e

theorem up_step {f : Nat → Int} (h : ∀ i, 0 ≤ f i ∧ f i ≤ 1) {j k : Nat} (hk : k + 1 ≤ 64) : IntKind.u64.wrap (IntKind.u64.wrap (2 * up f k (j + 1)) + IntKind.u64.wrap (f j)) = up f (k + 1) j := by
  have h1 := up_in h k (j + 1)
  have h2 := h j
  have h3 := p2le hk
  rw [Int.pow_succ] at h3
  have q1 : us (2 * up f k (j + 1)) = 2 * up f k (j + 1) := us_in _ (by omega) (by omega)
  have q2 : us (f j) = f j := us_in _ (by omega) (by omega)
  simp only [us_eq]
  rw [q1, q2]
  show _ = f j + 2 * up f k (j + 1)
  rw [us_in _ (by omega) (by omega)]
  omega
theorem wdn {j : Nat} (h : j + 1 ≤ 64) : IntKind.i64.wrap (((j + 1 : Nat) : Int) - 1 - 1) = (j : Int) - 1 := by rw [sg_eq, sg_in _ (by omega) (by omega)]; omega
theorem idx64 {z : Int} {j : Nat} (e : z = (j : Int)) (h : j + 1 ≤ 64) : 0 ≤ z ∧ z < ((64 : Nat) : Int) := by omega
set_option maxHeartbeats 2000000 in
theorem rNumber_d (f : Nat → Int) (hf : ∀ i, 0 ≤ f i ∧ f i ≤ 1) : Den Tryz.prog 228 #[.agg (arrL f).toArray] noFacts (.int .i64 (IntKind.i64.wrap (vb f 64))) := by
  refine den_of_body (args := [.agg (arrL f).toArray]) hmix Tryz.func228 ?_
  (repeat' ((conv => whnf); first | refine AdN.mk _ _ rfl ?_ | refine DrawN.a (Ob.mk (by decide +kernel) ?_) | refine DrawN.c (Ob.mk (by decide +kernel) ?_) | refine DrawN.b (Ob.mk (by decide +kernel) ?_) | refine Ob.mk (by kernel_rfl) ?_ | (refine Br.mk (fun h => ?_) (fun h => ?_) <;> (first | (exfalso; exact Bool.false_ne_true h) | (exfalso; exact Bool.false_ne_true h.symm) | skip)))); all_goals (conv => whnf)
  refine SeqN.go ?_
  (repeat' ((conv => whnf); first | refine AdN.mk _ _ rfl ?_ | refine DrawN.a (Ob.mk (by decide +kernel) ?_) | refine DrawN.c (Ob.mk (by decide +kernel) ?_) | refine DrawN.b (Ob.mk (by decide +kernel) ?_) | refine Ob.mk (by kernel_rfl) ?_ | (refine Br.mk (fun h => ?_) (fun h => ?_) <;> (first | (exfalso; exact Bool.false_ne_true h) | (exfalso; exact Bool.false_ne_true h.symm) | skip)))); all_goals (conv => whnf)
  refine LoopN.mk {i : Nat // i ≤ 64} (fun i => [(4, .v (.int .i64 ((i.1 : Int) - 1))), (3, .v (.int .u64 (up f (64 - i.1) i.1)))]) (fun i => [.arr (arrL f)]) (fun i => i.1) ⟨64, Nat.le_refl _⟩ ?_ ?_
  · (conv => whnf); (repeat' (first | exact True.intro | exact rfl | refine And.intro ?_ ?_ | decide))
  (conv => whnf)
  rintro ⟨i, hi⟩
  rcases i with _ | j
  · (repeat' ((conv => whnf); first | refine AdN.mk _ _ rfl ?_ | refine DrawN.a (Ob.mk (by decide +kernel) ?_) | refine DrawN.c (Ob.mk (by decide +kernel) ?_) | refine DrawN.b (Ob.mk (by decide +kernel) ?_) | refine Ob.mk (by kernel_rfl) ?_ | (refine Br.mk (fun h => ?_) (fun h => ?_) <;> (first | (exfalso; exact Bool.false_ne_true h) | (exfalso; exact Bool.false_ne_true h.symm) | (exfalso; exact absurd (of_decide_eq_true ‹_›) (show ¬ ((0 : Nat) : Int) - 1 ≥ 0 by decide)) | skip)) | refine SeqN.go ?_)); all_goals (conv => whnf)
    show Value.int .i64 (IntKind.i64.wrap (up f 64 0)) = _
    rw [up_all]
  · have e : ((j + 1 : Nat) : Int) - 1 = (j : Int) := by omega
    have e2 : 64 - j = 64 - (j + 1) + 1 := by omega
    have st := up_step hf (j := j) (k := 64 - (j + 1)) (by omega)
    rw [← e2] at st
    (repeat' ((conv => whnf); first | refine Ob.mk (idx64 e hi) ?_ | refine rowA0 j e hi ?_ | refine AdN.mk _ _ rfl ?_ | refine DrawN.a (Ob.mk (by decide +kernel) ?_) | refine DrawN.c (Ob.mk (by decide +kernel) ?_) | refine DrawN.b (Ob.mk (by decide +kernel) ?_) | refine Ob.mk (by kernel_rfl) ?_ | (refine Br.mk (fun h => ?_) (fun h => ?_) <;> (first | (exfalso; exact Bool.false_ne_true h) | (exfalso; exact Bool.false_ne_true h.symm) | (exfalso; exact absurd (show ((j + 1 : Nat) : Int) - 1 ≥ 0 by rw [e]; exact Int.natCast_nonneg _) (of_decide_eq_false ‹_›)) | skip)) | refine SeqN.go ?_)); all_goals (conv => whnf)
    refine RoundN.mk ⟨j, Nat.le_of_succ_le hi⟩ (Nat.lt_succ_self _) ?_
    (conv => whnf); (repeat' (first | exact True.intro | exact rfl | refine And.intro ?_ ?_ | decide))
    all_goals first | exact congrArg (Value.int _) (wdn hi) | exact congrArg (Value.int _) st | trace_state
end Go.Proofs.YtljhbdgoknfkcaaGreatDoor
