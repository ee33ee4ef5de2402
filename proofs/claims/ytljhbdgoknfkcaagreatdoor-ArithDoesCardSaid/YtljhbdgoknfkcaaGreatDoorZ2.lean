/- Contracts of the reference's numbers by their digits: which is less, sums, what is turned about. -/
import Derived.Test.YtljhbdgoknfkcaaGreatDoorZ1
import Derived.Test.YtljhbdgoknfkcaaGreatDoorPN
import Derived.Test.YtljhbdgoknfkcaaGreatDoorK1
namespace Go.Proofs.YtljhbdgoknfkcaaGreatDoor
open Go Go.RowKit Go.Sort
set_option linter.unusedVariables false
set_option linter.unusedSimpArgs false
set_option maxRecDepth 100000

theorem rowT {f : Nat → Int} {z : Int} {K : List Value → Prop} (n : Nat) (e : z = (n : Int)) (h : n < 64) (k : K [.int .i64 (f n)]) : RowN ((arrL f).toArray.toList) (0 + z.toNat * 1) 1 K := rowA0 n e h k
theorem idxI {i : Nat} (h : i < 64) : 0 ≤ (i : Int) ∧ (i : Int) < ((64 : Nat) : Int) := by omega
theorem dg_sign {a : Int} (h : IS a) : a / 2 ^ 63 = if a < 0 then -1 else 0 := by
  have := h.1
  have := h.2
  rw [show (2 : Int) ^ 63 = 9223372036854775808 by decide]
  split <;> omega
theorem div_dg (n : Int) (i : Nat) : n / 2 ^ i = 2 * (n / 2 ^ (i + 1)) + dg n i := by
  unfold dg
  rw [div2_succ]
  omega
theorem lt_of_div {a b : Int} {i : Nat} (h : a / 2 ^ i < b / 2 ^ i) : a < b := by
  refine Int.not_le.1 fun c => ?_
  have := Int.ediv_le_ediv (p2pos i) c
  omega
theorem less_hi {a b : Int} (ha : IS a) (hb : IS b) (h : dg a 63 ≠ dg b 63) : decide (a < b) = (dg a 63 == 1) := by
  have h1 := dg_sign ha
  have h2 := dg_sign hb
  unfold dg at h ⊢
  rw [h1, h2] at h
  rw [h1]
  by_cases c1 : a < 0 <;> by_cases c2 : b < 0 <;> simp [c1, c2] at h ⊢ <;> omega
theorem less_top {a b : Int} (ha : IS a) (hb : IS b) (h : dg a 63 = dg b 63) : a / 2 ^ 63 = b / 2 ^ 63 := by
  have h1 := dg_sign ha
  have h2 := dg_sign hb
  unfold dg at h
  rw [h1, h2] at h ⊢
  by_cases c1 : a < 0 <;> by_cases c2 : b < 0 <;> simp [c1, c2] at h ⊢
theorem less_at {a b : Int} {j : Nat} (h : a / 2 ^ (j + 1) = b / 2 ^ (j + 1)) (hd : dg a j ≠ dg b j) : decide (a < b) = decide (dg a j < dg b j) := by
  have h1 := div_dg a j
  have h2 := div_dg b j
  rw [h] at h1
  rcases Int.lt_or_gt_of_ne hd with c | c
  · have : a < b := lt_of_div (i := j) (by omega)
    simp [c, this]
  · have : b < a := lt_of_div (i := j) (by omega)
    have c1 : ¬ a < b := by omega
    have c2 : ¬ dg a j < dg b j := by omega
    simp [c1, c2]
theorem less_eq {a b : Int} {j : Nat} (h : a / 2 ^ (j + 1) = b / 2 ^ (j + 1)) (hd : dg a j = dg b j) : a / 2 ^ j = b / 2 ^ j := by
  rw [div_dg a j, div_dg b j, h, hd]
theorem bne_of {x y : Int} (h : (x != y) = true) : x ≠ y := by simpa using h
theorem beq_of {x y : Int} (h : (x != y) = false) : x = y := by simpa using h
set_option maxHeartbeats 2000000 in
theorem rLess_d (a b : Int) (ha : IS a) (hb : IS b) : Den Tryz.prog 162 #[.int .i64 a, .int .i64 b] noFacts (.bool (decide (a < b))) := by
  refine den_of_body (args := [.int .i64 a, .int .i64 b]) hmix Tryz.func162 ?_
  have A := rDigits_d a
  have B := rDigits_d b
  (repeat' ((conv => whnf); first | refine CallN.big _ A ?_ | refine CallN.big _ B ?_ | refine Ob.mk (okA0 _ rfl) ?_ | refine Ob.mk ⟨by decide, by decide⟩ ?_ | refine rowT 63 rfl (by decide) ?_ | refine AdN.mk _ _ rfl ?_ | refine DrawN.a (Ob.mk (by decide +kernel) ?_) | refine DrawN.c (Ob.mk (by decide +kernel) ?_) | refine DrawN.b (Ob.mk (by decide +kernel) ?_) | refine Ob.mk (by kernel_rfl) ?_ | (refine Br.mk (fun h => ?_) (fun h => ?_) <;> (first | (exfalso; exact Bool.false_ne_true h) | (exfalso; exact Bool.false_ne_true h.symm) | skip)))); all_goals (conv => whnf)
  refine SeqN.go ?_
  (repeat' ((conv => whnf); first | refine Ob.mk ⟨by decide, by decide⟩ ?_ | refine rowT 63 rfl (by decide) ?_ | refine AdN.mk _ _ rfl ?_ | refine DrawN.a (Ob.mk (by decide +kernel) ?_) | refine DrawN.c (Ob.mk (by decide +kernel) ?_) | refine DrawN.b (Ob.mk (by decide +kernel) ?_) | refine Ob.mk (by kernel_rfl) ?_ | (refine Br.mk (fun h => ?_) (fun h => ?_) <;> (first | (exfalso; exact Bool.false_ne_true h) | (exfalso; exact Bool.false_ne_true h.symm) | skip)) | refine SeqN.go ?_)); all_goals (conv => whnf)
  · exact congrArg Value.bool (less_hi ha hb (bne_of ‹_›)).symm
  have h63 := less_top ha hb (beq_of ‹_›)
  refine LoopN.mk {i : Nat // i ≤ 63 ∧ a / 2 ^ i = b / 2 ^ i} (fun i => [(7, .v (.int .i64 ((i.1 : Int) - 1)))]) (fun _ => [.arr (arrL (dg a)), .arr (arrL (dg b))]) (fun i => i.1) ⟨63, Nat.le_refl _, h63⟩ ?_ ?_
  · (conv => whnf); (repeat' (first | exact True.intro | exact rfl | refine And.intro ?_ ?_ | decide))
  (conv => whnf)
  rintro ⟨i, hi, he⟩
  rcases i with _ | j
  · obtain rfl : a = b := by simpa using he
    (repeat' ((conv => whnf); first | refine AdN.mk _ _ rfl ?_ | refine DrawN.a (Ob.mk (by decide +kernel) ?_) | refine DrawN.c (Ob.mk (by decide +kernel) ?_) | refine DrawN.b (Ob.mk (by decide +kernel) ?_) | refine Ob.mk (by kernel_rfl) ?_ | (refine Br.mk (fun h => ?_) (fun h => ?_) <;> (first | (exfalso; exact Bool.false_ne_true h) | (exfalso; exact Bool.false_ne_true h.symm) | (exfalso; exact absurd (of_decide_eq_true ‹_›) (show ¬ ((0 : Nat) : Int) - 1 ≥ 0 by decide)) | skip)) | refine SeqN.go ?_)); all_goals (conv => whnf)
    show Value.bool false = _
    simp
  · have e : ((j + 1 : Nat) : Int) - 1 = (j : Int) := by clear he; omega
    have hj : j < 64 := Nat.lt_of_lt_of_le hi (by decide)
    (repeat' ((conv => whnf); first | refine Ob.mk (idx64 e hj) ?_ | refine rowA0 j e hj ?_ | refine AdN.mk _ _ rfl ?_ | refine DrawN.a (Ob.mk (by decide +kernel) ?_) | refine DrawN.c (Ob.mk (by decide +kernel) ?_) | refine DrawN.b (Ob.mk (by decide +kernel) ?_) | refine Ob.mk (by kernel_rfl) ?_ | (refine Br.mk (fun h => ?_) (fun h => ?_) <;> (first | (exfalso; exact Bool.false_ne_true h) | (exfalso; exact Bool.false_ne_true h.symm) | (exfalso; exact absurd (show ((j + 1 : Nat) : Int) - 1 ≥ 0 by rw [e]; exact Int.natCast_nonneg _) (of_decide_eq_false ‹_›)) | skip)) | refine SeqN.go ?_)); all_goals (conv => whnf)
    · exact congrArg Value.bool (less_at he (bne_of ‹_›)).symm
    · refine RoundN.mk ⟨j, Nat.le_of_succ_le hi, less_eq he (beq_of ‹_›)⟩ (Nat.lt_succ_self _) ?_
      (conv => whnf); (repeat' (first | exact True.intro | exact rfl | refine And.intro ?_ ?_ | decide))
      all_goals first | exact congrArg (Value.int _) (wdn hj) | trace_state
theorem add_dig {a b : Int} {i c : Nat} (h : (a + b) / 2 ^ i = a / 2 ^ i + b / 2 ^ i + (c : Int)) (hc : c ≤ 1) :
    (dg a i + dg b i + c) % 2 = dg (a + b) i ∧ (a + b) / 2 ^ (i + 1) = a / 2 ^ (i + 1) + b / 2 ^ (i + 1) + (((dg a i + dg b i + c) / 2).toNat : Int) ∧ ((dg a i + dg b i + c) / 2).toNat ≤ 1 ∧ 0 ≤ (dg a i + dg b i + c) / 2 := by
  unfold dg
  rw [div2_succ, div2_succ, div2_succ, h]
  generalize a / 2 ^ i = x at *
  generalize b / 2 ^ i = y at *
  omega
theorem w7 {x y : Int} {c : Nat} (hx : 0 ≤ x ∧ x ≤ 1) (hy : 0 ≤ y ∧ y ≤ 1) (hc : c ≤ 1) : IntKind.i64.wrap (IntKind.i64.wrap (x + y) + (c : Int)) = x + y + c := by
  have q : sg (x + y) = x + y := sg_in _ (by omega) (by omega)
  simp only [sg_eq]; rw [q, sg_in _ (by omega) (by omega)]
theorem w7a {x y : Int} {c : Nat} (hx : 0 ≤ x ∧ x ≤ 1) (hy : 0 ≤ y ∧ y ≤ 1) (hc : c ≤ 1) : IntKind.i64.wrap ((IntKind.i64.wrap (IntKind.i64.wrap (x + y) + (c : Int))).tdiv 2) = (((x + y + c) / 2).toNat : Int) := by
  rw [w7 hx hy hc, Int.tdiv_eq_ediv_of_nonneg (by omega), sg_eq, sg_in _ (by omega) (by omega)]; omega
theorem w7b {x y : Int} {c : Nat} (hx : 0 ≤ x ∧ x ≤ 1) (hy : 0 ≤ y ∧ y ≤ 1) (hc : c ≤ 1) : (IntKind.i64.wrap (IntKind.i64.wrap (x + y) + (c : Int))).tmod 2 = (x + y + c) % 2 := by
  rw [w7 hx hy hc, Int.tmod_eq_emod_of_nonneg (by omega)]
theorem set_dig {g : Nat → Int} {v : Int} {i : Nat} (j : Nat) (hv : v = g i) : (if j = i then v else if j < i then g j else 0) = if j < i + 1 then g j else 0 := by
  by_cases h : j = i
  · subst h
    rw [if_pos rfl, if_pos (Nat.lt_succ_self _), hv]
  · rw [if_neg h]
    by_cases h2 : j < i
    · rw [if_pos h2, if_pos (by omega)]
    · rw [if_neg h2, if_neg (by omega)]
set_option maxHeartbeats 2000000 in
theorem rAdd_d (a b : Int) : Den Tryz.prog 166 #[.int .i64 a, .int .i64 b] noFacts (.int .i64 (IntKind.i64.wrap (a + b))) := by
  refine den_of_body (args := [.int .i64 a, .int .i64 b]) hmix Tryz.func166 ?_
  have A := rDigits_d a
  have B := rDigits_d b
  (repeat' ((conv => whnf); first | refine CallN.big _ A ?_ | refine CallN.big _ B ?_ | refine Ob.mk (okA0 _ rfl) ?_ | refine AdN.mk _ _ rfl ?_ | refine DrawN.a (Ob.mk (by decide +kernel) ?_) | refine DrawN.c (Ob.mk (by decide +kernel) ?_) | refine DrawN.b (Ob.mk (by decide +kernel) ?_) | refine Ob.mk (by kernel_rfl) ?_ | (refine Br.mk (fun h => ?_) (fun h => ?_) <;> (first | (exfalso; exact Bool.false_ne_true h) | (exfalso; exact Bool.false_ne_true h.symm) | skip)))); all_goals (conv => whnf)
  refine SeqN.go ?_
  (repeat' ((conv => whnf); first | refine AdN.mk _ _ rfl ?_ | refine DrawN.a (Ob.mk (by decide +kernel) ?_) | refine DrawN.c (Ob.mk (by decide +kernel) ?_) | refine DrawN.b (Ob.mk (by decide +kernel) ?_) | refine Ob.mk (by kernel_rfl) ?_ | (refine Br.mk (fun h => ?_) (fun h => ?_) <;> (first | (exfalso; exact Bool.false_ne_true h) | (exfalso; exact Bool.false_ne_true h.symm) | skip)))); all_goals (conv => whnf)
  refine LoopN.mk {x : Nat × Nat // x.1 ≤ 64 ∧ x.2 ≤ 1 ∧ (a + b) / 2 ^ x.1 = a / 2 ^ x.1 + b / 2 ^ x.1 + (x.2 : Int)} (fun x => [(9, .v (.int .i64 x.1.1)), (8, .v (.int .i64 x.1.2))]) (fun x => [.arr (arrL (dg a)), .arr (arrL (dg b)), .arr (arrL fun j => if j < x.1.1 then dg (a + b) j else 0)]) (fun x => 64 - x.1.1) ⟨(0, 0), by simp⟩ ?_ ?_
  · (conv => whnf); (repeat' (first | exact True.intro | exact rfl | refine And.intro ?_ ?_ | decide))
  (conv => whnf)
  rintro ⟨⟨i, c⟩, hi, hc, he⟩
  dsimp only at hi hc he
  by_cases hl : i < 64
  · obtain ⟨s1, s2, s3, _⟩ := add_dig he hc
    (repeat' ((conv => whnf); first | refine Ob.mk (idxI hl) ?_ | refine rowA0 i rfl hl ?_ | refine Ob.mk (by decide) ?_ | refine Ob.mk (fitA i rfl hl) ?_ | refine AdN.mk _ _ rfl ?_ | refine DrawN.a (Ob.mk (by decide +kernel) ?_) | refine DrawN.c (Ob.mk (by decide +kernel) ?_) | refine DrawN.b (Ob.mk (by decide +kernel) ?_) | refine Ob.mk (by kernel_rfl) ?_ | (refine Br.mk (fun h => ?_) (fun h => ?_) <;> (first | (exfalso; exact Bool.false_ne_true h) | (exfalso; exact Bool.false_ne_true h.symm) | (exfalso; exact absurd (Int.ofNat_lt.2 hl) (of_decide_eq_false ‹_›)) | skip)) | refine SeqN.go ?_)); all_goals (conv => whnf)
    refine RoundN.mk ⟨(i + 1, ((dg a i + dg b i + c) / 2).toNat), hl, s3, s2⟩ (Nat.sub_succ_lt_self _ _ hl) ?_
    (conv => whnf); (repeat' (first | exact True.intro | exact rfl | refine And.intro ?_ ?_ | decide))
    all_goals first
      | exact congrArg (Value.int _) (wi64 hl)
      | exact congrArg (Value.int _) (w7a (dg_in a i) (dg_in b i) hc)
      | exact (storeA i rfl hl).trans (arrL_congr fun j hj => set_dig (g := dg (a + b)) j ((w7b (dg_in a i) (dg_in b i) hc).trans s1))
      | trace_state
  · obtain rfl : i = 64 := Nat.le_antisymm hi (Nat.le_of_not_lt hl)
    have N := rNumber_d (fun j => if j < 64 then dg (a + b) j else 0) (fun j => by split; exact dg_in _ _; decide)
    have e : IntKind.i64.wrap (vb (fun j => if j < 64 then dg (a + b) j else 0) 64) = IntKind.i64.wrap (a + b) := vb_eq fun j hj => if_pos hj
    rw [e] at N
    (repeat' ((conv => whnf); first | refine CallN.any _ N ?_ | refine allA ?_ | refine AdN.mk _ _ rfl ?_ | refine DrawN.a (Ob.mk (by decide +kernel) ?_) | refine DrawN.c (Ob.mk (by decide +kernel) ?_) | refine DrawN.b (Ob.mk (by decide +kernel) ?_) | refine Ob.mk (by kernel_rfl) ?_ | (refine Br.mk (fun h => ?_) (fun h => ?_) <;> (first | (exfalso; exact Bool.false_ne_true h) | (exfalso; exact Bool.false_ne_true h.symm) | (exfalso; exact absurd (Int.ofNat_lt.1 (of_decide_eq_true ‹_›)) hl) | skip)) | refine SeqN.go ?_)); all_goals (conv => whnf)
    rfl
end Go.Proofs.YtljhbdgoknfkcaaGreatDoor
