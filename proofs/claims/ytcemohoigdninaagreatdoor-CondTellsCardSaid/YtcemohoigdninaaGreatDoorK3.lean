/- Contracts of the references of intervals and values: whatever the values, in the ranges of their kinds. -/
import Derived.Test.YtcemohoigdninaaGreatDoorK2
import Derived.Test.YtcemohoigdninaaGreatDoorR5
namespace Go.Proofs.YtcemohoigdninaaGreatDoor
open Go Go.RowKit Go.Sort
set_option linter.unusedVariables false
set_option linter.unusedSimpArgs false
set_option maxRecDepth 100000

theorem den_eq {P : Program} {f : FuncId} {args : Array Value} {F : Facts} {v : Value} (h : ∀ W, Calls P f args W fun e w' => e = .returned v ∧ W = w') : Den P f args F v := ⟨fun W _ => (h W).mono fun e w' ⟨h1, h2⟩ => ⟨h1, h2 ▸ Below.refl _ _⟩⟩
theorem rLeast_d : Den Tryz.prog 125 #[] noFacts (.int .i64 (-9223372036854775808)) := by
  refine den_of_body (args := []) hmix Tryz.func125 ?_
  (repeat' ((conv => whnf); first | refine AdN.mk _ _ rfl ?_ | refine DrawN.a (Ob.mk (by decide +kernel) ?_) | refine DrawN.c (Ob.mk (by decide +kernel) ?_) | refine DrawN.b (Ob.mk (by decide +kernel) ?_) | refine Ob.mk (by kernel_rfl) ?_ | (refine Br.mk (fun h => ?_) (fun h => ?_) <;> (first | (exfalso; exact Bool.false_ne_true h) | (exfalso; exact Bool.false_ne_true h.symm) | skip)) | refine SeqN.go ?_)); all_goals (conv => whnf)
  all_goals rfl
theorem rMost_d : Den Tryz.prog 126 #[] noFacts (.int .i64 9223372036854775807) := by
  refine den_of_body (args := []) hmix Tryz.func126 ?_
  (repeat' ((conv => whnf); first | refine AdN.mk _ _ rfl ?_ | refine DrawN.a (Ob.mk (by decide +kernel) ?_) | refine DrawN.c (Ob.mk (by decide +kernel) ?_) | refine DrawN.b (Ob.mk (by decide +kernel) ?_) | refine Ob.mk (by kernel_rfl) ?_ | (refine Br.mk (fun h => ?_) (fun h => ?_) <;> (first | (exfalso; exact Bool.false_ne_true h) | (exfalso; exact Bool.false_ne_true h.symm) | skip)) | refine SeqN.go ?_)); all_goals (conv => whnf)
  all_goals rfl
theorem rPlain_d (lo hi : Int) : Den Tryz.prog 195 #[.agg #[.int .i64 lo, .int .i64 hi]] noFacts (.agg #[.int .i64 (iof lo hi).1, .int .i64 (iof lo hi).2]) := by
  refine den_of_body (args := [.agg #[.int .i64 lo, .int .i64 hi]]) hmix Tryz.func195 ?_
  (repeat' ((conv => whnf); first | refine AdN.mk _ _ rfl ?_ | refine DrawN.a (Ob.mk (by decide +kernel) ?_) | refine DrawN.c (Ob.mk (by decide +kernel) ?_) | refine DrawN.b (Ob.mk (by decide +kernel) ?_) | refine Ob.mk (by kernel_rfl) ?_ | (refine Br.mk (fun h => ?_) (fun h => ?_) <;> (first | (exfalso; exact Bool.false_ne_true h) | (exfalso; exact Bool.false_ne_true h.symm) | skip)) | refine SeqN.go ?_)); all_goals (conv => whnf)
  all_goals grind [retV, iof]
theorem rIHas_d (lo hi n : Int) : Den Tryz.prog 118 #[.agg #[.int .i64 lo, .int .i64 hi], .int .i64 n] noFacts (.bool (decide (lo ≤ n) && decide (n ≤ hi))) := by
  refine den_of_body (args := [.agg #[.int .i64 lo, .int .i64 hi], .int .i64 n]) hmix Tryz.func118 ?_
  (repeat' ((conv => whnf); first | refine AdN.mk _ _ rfl ?_ | refine DrawN.a (Ob.mk (by decide +kernel) ?_) | refine DrawN.c (Ob.mk (by decide +kernel) ?_) | refine DrawN.b (Ob.mk (by decide +kernel) ?_) | refine Ob.mk (by kernel_rfl) ?_ | (refine Br.mk (fun h => ?_) (fun h => ?_) <;> (first | (exfalso; exact Bool.false_ne_true h) | (exfalso; exact Bool.false_ne_true h.symm) | skip)) | refine SeqN.go ?_)); all_goals (conv => whnf)
  all_goals grind [retV]
theorem rIEmpty_d (lo hi : Int) : Den Tryz.prog 152 #[.agg #[.int .i64 lo, .int .i64 hi]] noFacts (.bool (decide (lo > hi))) := by
  refine den_of_body (args := [.agg #[.int .i64 lo, .int .i64 hi]]) hmix Tryz.func152 ?_
  (repeat' ((conv => whnf); first | refine AdN.mk _ _ rfl ?_ | refine DrawN.a (Ob.mk (by decide +kernel) ?_) | refine DrawN.c (Ob.mk (by decide +kernel) ?_) | refine DrawN.b (Ob.mk (by decide +kernel) ?_) | refine Ob.mk (by kernel_rfl) ?_ | (refine Br.mk (fun h => ?_) (fun h => ?_) <;> (first | (exfalso; exact Bool.false_ne_true h) | (exfalso; exact Bool.false_ne_true h.symm) | skip)) | refine SeqN.go ?_)); all_goals (conv => whnf)
  all_goals rfl
def rijoin (a b c d : Int) : Int × Int := if a > b then iof c d else if c > d then (a, b) else (if a ≤ c then a else c, if b ≤ d then d else b)
theorem rIJoin_d (a b c d : Int) : Den Tryz.prog 128 #[.agg #[.int .i64 a, .int .i64 b], .agg #[.int .i64 c, .int .i64 d]] noFacts (.agg #[.int .i64 (rijoin a b c d).1, .int .i64 (rijoin a b c d).2]) := by
  refine den_of_body (args := [.agg #[.int .i64 a, .int .i64 b], .agg #[.int .i64 c, .int .i64 d]]) hmix Tryz.func128 ?_
  (repeat' ((conv => whnf); first | refine CallN.any _ (rIEmpty_d _ _) ?_ | refine CallN.any _ (rPlain_d _ _) ?_ | refine AdN.mk _ _ rfl ?_ | refine DrawN.a (Ob.mk (by decide +kernel) ?_) | refine DrawN.c (Ob.mk (by decide +kernel) ?_) | refine DrawN.b (Ob.mk (by decide +kernel) ?_) | refine Ob.mk (by kernel_rfl) ?_ | (refine Br.mk (fun h => ?_) (fun h => ?_) <;> (first | (exfalso; exact Bool.false_ne_true h) | (exfalso; exact Bool.false_ne_true h.symm) | skip)) | refine SeqN.go ?_)); all_goals (conv => whnf)
  all_goals grind [retV, rijoin]
theorem rIMeet_d (a b c d : Int) : Den Tryz.prog 131 #[.agg #[.int .i64 a, .int .i64 b], .agg #[.int .i64 c, .int .i64 d]] noFacts (.agg #[.int .i64 (imeet a b c d).1, .int .i64 (imeet a b c d).2]) := by
  refine den_of_body (args := [.agg #[.int .i64 a, .int .i64 b], .agg #[.int .i64 c, .int .i64 d]]) hmix Tryz.func131 ?_
  (repeat' ((conv => whnf); first | refine CallN.any _ (rPlain_d _ _) ?_ | refine AdN.mk _ _ rfl ?_ | refine DrawN.a (Ob.mk (by decide +kernel) ?_) | refine DrawN.c (Ob.mk (by decide +kernel) ?_) | refine DrawN.b (Ob.mk (by decide +kernel) ?_) | refine Ob.mk (by kernel_rfl) ?_ | (refine Br.mk (fun h => ?_) (fun h => ?_) <;> (first | (exfalso; exact Bool.false_ne_true h) | (exfalso; exact Bool.false_ne_true h.symm) | skip)) | refine SeqN.go ?_)); all_goals (conv => whnf)
  all_goals grind [retV, imeet]
theorem rIWiden_d (a b c d : Int) : Den Tryz.prog 140 #[.agg #[.int .i64 a, .int .i64 b], .agg #[.int .i64 c, .int .i64 d]] noFacts (.agg #[.int .i64 (iwiden a b c d).1, .int .i64 (iwiden a b c d).2]) := by
  refine den_of_body (args := [.agg #[.int .i64 a, .int .i64 b], .agg #[.int .i64 c, .int .i64 d]]) hmix Tryz.func140 ?_
  (repeat' ((conv => whnf); first | refine CallN.any _ (rIEmpty_d _ _) ?_ | refine CallN.any _ (rPlain_d _ _) ?_ | refine CallN.any _ rLeast_d ?_ | refine CallN.any _ rMost_d ?_ | refine AdN.mk _ _ rfl ?_ | refine DrawN.a (Ob.mk (by decide +kernel) ?_) | refine DrawN.c (Ob.mk (by decide +kernel) ?_) | refine DrawN.b (Ob.mk (by decide +kernel) ?_) | refine Ob.mk (by kernel_rfl) ?_ | (refine Br.mk (fun h => ?_) (fun h => ?_) <;> (first | (exfalso; exact Bool.false_ne_true h) | (exfalso; exact Bool.false_ne_true h.symm) | skip)) | refine SeqN.go ?_)); all_goals (conv => whnf)
  all_goals grind [retV, iwiden]
theorem rINarrow_d (a b c d : Int) : Den Tryz.prog 142 #[.agg #[.int .i64 a, .int .i64 b], .agg #[.int .i64 c, .int .i64 d]] noFacts (.agg #[.int .i64 (inarrow a b c d).1, .int .i64 (inarrow a b c d).2]) := by
  refine den_of_body (args := [.agg #[.int .i64 a, .int .i64 b], .agg #[.int .i64 c, .int .i64 d]]) hmix Tryz.func142 ?_
  (repeat' ((conv => whnf); first | refine CallN.any _ (rIEmpty_d _ _) ?_ | refine CallN.any _ (rPlain_d _ _) ?_ | refine CallN.any _ rLeast_d ?_ | refine CallN.any _ rMost_d ?_ | refine AdN.mk _ _ rfl ?_ | refine DrawN.a (Ob.mk (by decide +kernel) ?_) | refine DrawN.c (Ob.mk (by decide +kernel) ?_) | refine DrawN.b (Ob.mk (by decide +kernel) ?_) | refine Ob.mk (by kernel_rfl) ?_ | (refine Br.mk (fun h => ?_) (fun h => ?_) <;> (first | (exfalso; exact Bool.false_ne_true h) | (exfalso; exact Bool.false_ne_true h.symm) | skip)) | refine SeqN.go ?_)); all_goals (conv => whnf)
  all_goals grind [retV, inarrow]

theorem rTop_d : Den Tryz.prog 59 #[] noFacts (VVal vtop) := by
  refine den_of_body (args := []) hmix Tryz.func59 ?_
  (repeat' ((conv => whnf); first | refine CallN.any _ rLeast_d ?_ | refine CallN.any _ rMost_d ?_ | refine AdN.mk _ _ rfl ?_ | refine DrawN.a (Ob.mk (by decide +kernel) ?_) | refine DrawN.c (Ob.mk (by decide +kernel) ?_) | refine DrawN.b (Ob.mk (by decide +kernel) ?_) | refine Ob.mk (by kernel_rfl) ?_ | (refine Br.mk (fun h => ?_) (fun h => ?_) <;> (first | (exfalso; exact Bool.false_ne_true h) | (exfalso; exact Bool.false_ne_true h.symm) | skip)) | refine SeqN.go ?_)); all_goals (conv => whnf)
  all_goals rfl
theorem rBottom_d : Den Tryz.prog 51 #[] noFacts (VVal vbot) := by
  refine den_of_body (args := []) hmix Tryz.func51 ?_
  (repeat' ((conv => whnf); first | refine AdN.mk _ _ rfl ?_ | refine DrawN.a (Ob.mk (by decide +kernel) ?_) | refine DrawN.c (Ob.mk (by decide +kernel) ?_) | refine DrawN.b (Ob.mk (by decide +kernel) ?_) | refine Ob.mk (by kernel_rfl) ?_ | (refine Br.mk (fun h => ?_) (fun h => ?_) <;> (first | (exfalso; exact Bool.false_ne_true h) | (exfalso; exact Bool.false_ne_true h.symm) | skip)) | refine SeqN.go ?_)); all_goals (conv => whnf)
  all_goals rfl
theorem rOne_d (n : Int) (h : IS n) : Den Tryz.prog 58 #[.int .i64 n] noFacts (VVal (vone n)) := by
  refine den_of_body (args := [.int .i64 n]) hmix Tryz.func58 ?_
  have C := den_of (F := noFacts) fun W => rmake_c 0 n W (by decide) (by decide) h.1 h.2
  (repeat' ((conv => whnf); first | refine CallN.any _ C ?_ | refine AdN.mk _ _ rfl ?_ | refine DrawN.a (Ob.mk (by decide +kernel) ?_) | refine DrawN.c (Ob.mk (by decide +kernel) ?_) | refine DrawN.b (Ob.mk (by decide +kernel) ?_) | refine Ob.mk (by kernel_rfl) ?_ | (refine Br.mk (fun h => ?_) (fun h => ?_) <;> (first | (exfalso; exact Bool.false_ne_true h) | (exfalso; exact Bool.false_ne_true h.symm) | skip)) | refine SeqN.go ?_)); all_goals (conv => whnf)
  all_goals rfl
theorem rup_d (m r n : Int) (hm : 0 < m) (hm' : m ≤ 18446744073709551615) (hr : 0 ≤ r) (hr' : r < m) (h : IS n) : Den Tryz.prog 153 #[.agg #[.int .u64 m, .int .u64 r], .int .i64 n] noFacts (.int .u64 ((r - n) % m)) := by
  refine den_of_body (args := [.agg #[.int .u64 m, .int .u64 r], .int .i64 n]) hmix Tryz.func153 ?_
  have C := den_eq (F := noFacts) fun W => rrest_c n m W h.1 h.2 hm hm'
  have k := emod_rng n m hm
  have e := sub_mod_mod (a := r) (b := n) hm
  rw [Int.emod_eq_of_lt hr hr'] at e
  rw [← e]
  unfold cminus
  (repeat' ((conv => whnf); first | refine CallN.any _ C ?_ | refine AdN.mk _ _ rfl ?_ | refine DrawN.a (Ob.mk (by decide +kernel) ?_) | refine DrawN.c (Ob.mk (by decide +kernel) ?_) | refine DrawN.b (Ob.mk (by decide +kernel) ?_) | refine Ob.mk (by kernel_rfl) ?_ | (refine Br.mk (fun h => ?_) (fun h => ?_) <;> (first | (exfalso; exact Bool.false_ne_true h) | (exfalso; exact Bool.false_ne_true h.symm) | skip)) | refine SeqN.go ?_)); all_goals (conv => whnf)
  all_goals (simp only [retV, us_eq]; unfold us; clear C e; simp only [decide_eq_true_eq, decide_eq_false_iff_not] at *; congr 1; split <;> omega)
theorem rdown_d (m r n : Int) (hm : 0 < m) (hm' : m ≤ 18446744073709551615) (hr : 0 ≤ r) (hr' : r < m) (h : IS n) : Den Tryz.prog 154 #[.agg #[.int .u64 m, .int .u64 r], .int .i64 n] noFacts (.int .u64 ((n - r) % m)) := by
  refine den_of_body (args := [.agg #[.int .u64 m, .int .u64 r], .int .i64 n]) hmix Tryz.func154 ?_
  have C := den_eq (F := noFacts) fun W => rrest_c n m W h.1 h.2 hm hm'
  have k := emod_rng n m hm
  have e := sub_mod_mod (a := n) (b := r) hm
  rw [Int.emod_eq_of_lt hr hr'] at e
  rw [← e]
  unfold cminus
  (repeat' ((conv => whnf); first | refine CallN.any _ C ?_ | refine AdN.mk _ _ rfl ?_ | refine DrawN.a (Ob.mk (by decide +kernel) ?_) | refine DrawN.c (Ob.mk (by decide +kernel) ?_) | refine DrawN.b (Ob.mk (by decide +kernel) ?_) | refine Ob.mk (by kernel_rfl) ?_ | (refine Br.mk (fun h => ?_) (fun h => ?_) <;> (first | (exfalso; exact Bool.false_ne_true h) | (exfalso; exact Bool.false_ne_true h.symm) | skip)) | refine SeqN.go ?_)); all_goals (conv => whnf)
  all_goals (simp only [retV, us_eq]; unfold us; clear C e; simp only [decide_eq_true_eq, decide_eq_false_iff_not] at *; congr 1; split <;> omega)
theorem vr_mod {m r : Int} (hm : m ≠ 0) (hm' : 0 ≤ m) (hr : 0 ≤ r) : vr m r = r % m := by
  unfold vr
  split
  · rename_i h
    rcases cright_of m r h with h | h
    · exact absurd h hm
    · rw [Int.emod_eq_of_lt hr h]
  · rw [Int.tmod_eq_emod_of_nonneg hr]
/-- What is made, reckoned otherwise. -/
theorem vmake_mod {x : VV} (h : InV x) (hm : x.m ≠ 0) (hle : ¬ x.lo > x.hi) : vmake x =
    if (x.r % x.m - x.lo) % x.m > x.hi - x.lo ∨ (x.hi - x.r % x.m) % x.m > x.hi - x.lo ∨ (x.r % x.m - x.lo) % x.m > x.hi - x.lo - (x.hi - x.r % x.m) % x.m then vbot
    else if x.lo + (x.r % x.m - x.lo) % x.m = x.hi - (x.hi - x.r % x.m) % x.m then vone (x.lo + (x.r % x.m - x.lo) % x.m)
    else ⟨x.lo + (x.r % x.m - x.lo) % x.m, x.hi - (x.hi - x.r % x.m) % x.m, x.m, x.r % x.m⟩ := by
  unfold vmake cleast cgreat
  rw [vr_mod hm h.m.1 h.r.1]
  have h1 := emod_rng (x.r % x.m - x.lo) x.m (by have := h.m.1; omega)
  have h2 := emod_rng (x.hi - x.r % x.m) x.m (by have := h.m.1; omega)
  have h3 := h.lo
  have h4 := h.hi
  generalize (x.r % x.m - x.lo) % x.m = a at *
  generalize (x.hi - x.r % x.m) % x.m = b at *
  simp only [if_neg hm, if_neg hle]
  grind
theorem vmake_zero {x : VV} (h : InV x) (hm : x.m = 0) (hle : ¬ x.lo > x.hi) : vmake x = if x.lo ≤ sg x.r ∧ sg x.r ≤ x.hi then vone (sg x.r) else vbot := by
  unfold vmake cleast cgreat vr
  have hc : cright x.m x.r = true := by simp [cright, hm]
  simp only [if_neg hle, hm, if_true, hc]
  rw [hm] at hc
  simp only [hc, if_true]
  grind
theorem vmake_empty {x : VV} (hle : x.lo > x.hi) : vmake x = vbot := by unfold vmake; rw [if_pos hle]
end Go.Proofs.YtcemohoigdninaaGreatDoor
