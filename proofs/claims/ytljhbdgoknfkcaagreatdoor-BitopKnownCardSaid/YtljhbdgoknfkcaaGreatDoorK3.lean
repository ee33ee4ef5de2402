/- Contracts of the references of intervals and values: whatever the values, in the ranges of their kinds. -/
import Derived.Test.YtljhbdgoknfkcaaGreatDoorK1
import Derived.Test.YtljhbdgoknfkcaaGreatDoorR3
namespace Go.Proofs.YtljhbdgoknfkcaaGreatDoor
open Go Go.RowKit Go.Sort
set_option linter.unusedVariables false
set_option linter.unusedSimpArgs false
set_option maxRecDepth 100000

theorem den_eq {P : Program} {f : FuncId} {args : Array Value} {F : Facts} {v : Value} (h : ∀ W, Calls P f args W fun e w' => e = .returned v ∧ W = w') : Den P f args F v := ⟨fun W _ => (h W).mono fun e w' ⟨h1, h2⟩ => ⟨h1, h2 ▸ Below.refl _ _⟩⟩
theorem rLeast_d : Den Tryz.prog 133 #[] noFacts (.int .i64 (-9223372036854775808)) := by
  refine den_of_body (args := []) hmix Tryz.func133 ?_
  (repeat' ((conv => whnf); first | refine AdN.mk _ _ rfl ?_ | refine DrawN.a (Ob.mk (by decide +kernel) ?_) | refine DrawN.c (Ob.mk (by decide +kernel) ?_) | refine DrawN.b (Ob.mk (by decide +kernel) ?_) | refine Ob.mk (by kernel_rfl) ?_ | (refine Br.mk (fun h => ?_) (fun h => ?_) <;> (first | (exfalso; exact Bool.false_ne_true h) | (exfalso; exact Bool.false_ne_true h.symm) | skip)) | refine SeqN.go ?_)); all_goals (conv => whnf)
  all_goals rfl
theorem rMost_d : Den Tryz.prog 134 #[] noFacts (.int .i64 9223372036854775807) := by
  refine den_of_body (args := []) hmix Tryz.func134 ?_
  (repeat' ((conv => whnf); first | refine AdN.mk _ _ rfl ?_ | refine DrawN.a (Ob.mk (by decide +kernel) ?_) | refine DrawN.c (Ob.mk (by decide +kernel) ?_) | refine DrawN.b (Ob.mk (by decide +kernel) ?_) | refine Ob.mk (by kernel_rfl) ?_ | (refine Br.mk (fun h => ?_) (fun h => ?_) <;> (first | (exfalso; exact Bool.false_ne_true h) | (exfalso; exact Bool.false_ne_true h.symm) | skip)) | refine SeqN.go ?_)); all_goals (conv => whnf)
  all_goals rfl
theorem rPlain_d (lo hi : Int) : Den Tryz.prog 216 #[.agg #[.int .i64 lo, .int .i64 hi]] noFacts (.agg #[.int .i64 (iof lo hi).1, .int .i64 (iof lo hi).2]) := by
  refine den_of_body (args := [.agg #[.int .i64 lo, .int .i64 hi]]) hmix Tryz.func216 ?_
  (repeat' ((conv => whnf); first | refine AdN.mk _ _ rfl ?_ | refine DrawN.a (Ob.mk (by decide +kernel) ?_) | refine DrawN.c (Ob.mk (by decide +kernel) ?_) | refine DrawN.b (Ob.mk (by decide +kernel) ?_) | refine Ob.mk (by kernel_rfl) ?_ | (refine Br.mk (fun h => ?_) (fun h => ?_) <;> (first | (exfalso; exact Bool.false_ne_true h) | (exfalso; exact Bool.false_ne_true h.symm) | skip)) | refine SeqN.go ?_)); all_goals (conv => whnf)
  all_goals grind [retV, iof]
theorem rIHas_d (lo hi n : Int) : Den Tryz.prog 101 #[.agg #[.int .i64 lo, .int .i64 hi], .int .i64 n] noFacts (.bool (decide (lo ≤ n) && decide (n ≤ hi))) := by
  refine den_of_body (args := [.agg #[.int .i64 lo, .int .i64 hi], .int .i64 n]) hmix Tryz.func101 ?_
  (repeat' ((conv => whnf); first | refine AdN.mk _ _ rfl ?_ | refine DrawN.a (Ob.mk (by decide +kernel) ?_) | refine DrawN.c (Ob.mk (by decide +kernel) ?_) | refine DrawN.b (Ob.mk (by decide +kernel) ?_) | refine Ob.mk (by kernel_rfl) ?_ | (refine Br.mk (fun h => ?_) (fun h => ?_) <;> (first | (exfalso; exact Bool.false_ne_true h) | (exfalso; exact Bool.false_ne_true h.symm) | skip)) | refine SeqN.go ?_)); all_goals (conv => whnf)
  all_goals grind [retV]
theorem rIEmpty_d (lo hi : Int) : Den Tryz.prog 175 #[.agg #[.int .i64 lo, .int .i64 hi]] noFacts (.bool (decide (lo > hi))) := by
  refine den_of_body (args := [.agg #[.int .i64 lo, .int .i64 hi]]) hmix Tryz.func175 ?_
  (repeat' ((conv => whnf); first | refine AdN.mk _ _ rfl ?_ | refine DrawN.a (Ob.mk (by decide +kernel) ?_) | refine DrawN.c (Ob.mk (by decide +kernel) ?_) | refine DrawN.b (Ob.mk (by decide +kernel) ?_) | refine Ob.mk (by kernel_rfl) ?_ | (refine Br.mk (fun h => ?_) (fun h => ?_) <;> (first | (exfalso; exact Bool.false_ne_true h) | (exfalso; exact Bool.false_ne_true h.symm) | skip)) | refine SeqN.go ?_)); all_goals (conv => whnf)
  all_goals rfl
def rijoin (a b c d : Int) : Int × Int := if a > b then iof c d else if c > d then (a, b) else (if a ≤ c then a else c, if b ≤ d then d else b)
theorem rIJoin_d (a b c d : Int) : Den Tryz.prog 136 #[.agg #[.int .i64 a, .int .i64 b], .agg #[.int .i64 c, .int .i64 d]] noFacts (.agg #[.int .i64 (rijoin a b c d).1, .int .i64 (rijoin a b c d).2]) := by
  refine den_of_body (args := [.agg #[.int .i64 a, .int .i64 b], .agg #[.int .i64 c, .int .i64 d]]) hmix Tryz.func136 ?_
  (repeat' ((conv => whnf); first | refine CallN.any _ (rIEmpty_d _ _) ?_ | refine CallN.any _ (rPlain_d _ _) ?_ | refine AdN.mk _ _ rfl ?_ | refine DrawN.a (Ob.mk (by decide +kernel) ?_) | refine DrawN.c (Ob.mk (by decide +kernel) ?_) | refine DrawN.b (Ob.mk (by decide +kernel) ?_) | refine Ob.mk (by kernel_rfl) ?_ | (refine Br.mk (fun h => ?_) (fun h => ?_) <;> (first | (exfalso; exact Bool.false_ne_true h) | (exfalso; exact Bool.false_ne_true h.symm) | skip)) | refine SeqN.go ?_)); all_goals (conv => whnf)
  all_goals grind [retV, rijoin]
theorem rIMeet_d (a b c d : Int) : Den Tryz.prog 139 #[.agg #[.int .i64 a, .int .i64 b], .agg #[.int .i64 c, .int .i64 d]] noFacts (.agg #[.int .i64 (imeet a b c d).1, .int .i64 (imeet a b c d).2]) := by
  refine den_of_body (args := [.agg #[.int .i64 a, .int .i64 b], .agg #[.int .i64 c, .int .i64 d]]) hmix Tryz.func139 ?_
  (repeat' ((conv => whnf); first | refine CallN.any _ (rPlain_d _ _) ?_ | refine AdN.mk _ _ rfl ?_ | refine DrawN.a (Ob.mk (by decide +kernel) ?_) | refine DrawN.c (Ob.mk (by decide +kernel) ?_) | refine DrawN.b (Ob.mk (by decide +kernel) ?_) | refine Ob.mk (by kernel_rfl) ?_ | (refine Br.mk (fun h => ?_) (fun h => ?_) <;> (first | (exfalso; exact Bool.false_ne_true h) | (exfalso; exact Bool.false_ne_true h.symm) | skip)) | refine SeqN.go ?_)); all_goals (conv => whnf)
  all_goals grind [retV, imeet]
theorem rIWiden_d (a b c d : Int) : Den Tryz.prog 148 #[.agg #[.int .i64 a, .int .i64 b], .agg #[.int .i64 c, .int .i64 d]] noFacts (.agg #[.int .i64 (iwiden a b c d).1, .int .i64 (iwiden a b c d).2]) := by
  refine den_of_body (args := [.agg #[.int .i64 a, .int .i64 b], .agg #[.int .i64 c, .int .i64 d]]) hmix Tryz.func148 ?_
  (repeat' ((conv => whnf); first | refine CallN.any _ (rIEmpty_d _ _) ?_ | refine CallN.any _ (rPlain_d _ _) ?_ | refine CallN.any _ rLeast_d ?_ | refine CallN.any _ rMost_d ?_ | refine AdN.mk _ _ rfl ?_ | refine DrawN.a (Ob.mk (by decide +kernel) ?_) | refine DrawN.c (Ob.mk (by decide +kernel) ?_) | refine DrawN.b (Ob.mk (by decide +kernel) ?_) | refine Ob.mk (by kernel_rfl) ?_ | (refine Br.mk (fun h => ?_) (fun h => ?_) <;> (first | (exfalso; exact Bool.false_ne_true h) | (exfalso; exact Bool.false_ne_true h.symm) | skip)) | refine SeqN.go ?_)); all_goals (conv => whnf)
  all_goals grind [retV, iwiden]
theorem rINarrow_d (a b c d : Int) : Den Tryz.prog 150 #[.agg #[.int .i64 a, .int .i64 b], .agg #[.int .i64 c, .int .i64 d]] noFacts (.agg #[.int .i64 (inarrow a b c d).1, .int .i64 (inarrow a b c d).2]) := by
  refine den_of_body (args := [.agg #[.int .i64 a, .int .i64 b], .agg #[.int .i64 c, .int .i64 d]]) hmix Tryz.func150 ?_
  (repeat' ((conv => whnf); first | refine CallN.any _ (rIEmpty_d _ _) ?_ | refine CallN.any _ (rPlain_d _ _) ?_ | refine CallN.any _ rLeast_d ?_ | refine CallN.any _ rMost_d ?_ | refine AdN.mk _ _ rfl ?_ | refine DrawN.a (Ob.mk (by decide +kernel) ?_) | refine DrawN.c (Ob.mk (by decide +kernel) ?_) | refine DrawN.b (Ob.mk (by decide +kernel) ?_) | refine Ob.mk (by kernel_rfl) ?_ | (refine Br.mk (fun h => ?_) (fun h => ?_) <;> (first | (exfalso; exact Bool.false_ne_true h) | (exfalso; exact Bool.false_ne_true h.symm) | skip)) | refine SeqN.go ?_)); all_goals (conv => whnf)
  all_goals grind [retV, inarrow]

theorem rTop_d : Den Tryz.prog 56 #[] noFacts (VVal vtop) := by
  refine den_of_body (args := []) hmix Tryz.func56 ?_
  (repeat' ((conv => whnf); first | refine CallN.any _ rLeast_d ?_ | refine CallN.any _ rMost_d ?_ | refine AdN.mk _ _ rfl ?_ | refine DrawN.a (Ob.mk (by decide +kernel) ?_) | refine DrawN.c (Ob.mk (by decide +kernel) ?_) | refine DrawN.b (Ob.mk (by decide +kernel) ?_) | refine Ob.mk (by kernel_rfl) ?_ | (refine Br.mk (fun h => ?_) (fun h => ?_) <;> (first | (exfalso; exact Bool.false_ne_true h) | (exfalso; exact Bool.false_ne_true h.symm) | skip)) | refine SeqN.go ?_)); all_goals (conv => whnf)
  all_goals rfl
theorem rBottom_d : Den Tryz.prog 50 #[] noFacts (VVal vbot) := by
  refine den_of_body (args := []) hmix Tryz.func50 ?_
  (repeat' ((conv => whnf); first | refine AdN.mk _ _ rfl ?_ | refine DrawN.a (Ob.mk (by decide +kernel) ?_) | refine DrawN.c (Ob.mk (by decide +kernel) ?_) | refine DrawN.b (Ob.mk (by decide +kernel) ?_) | refine Ob.mk (by kernel_rfl) ?_ | (refine Br.mk (fun h => ?_) (fun h => ?_) <;> (first | (exfalso; exact Bool.false_ne_true h) | (exfalso; exact Bool.false_ne_true h.symm) | skip)) | refine SeqN.go ?_)); all_goals (conv => whnf)
  all_goals rfl
theorem rOne_d (n : Int) (h : IS n) : Den Tryz.prog 55 #[.int .i64 n] noFacts (VVal (vone n)) := by
  refine den_of_body (args := [.int .i64 n]) hmix Tryz.func55 ?_
  have C := den_of (F := noFacts) fun W => rmake_c 0 n W (by decide) (by decide) h.1 h.2
  (repeat' ((conv => whnf); first | refine CallN.any _ C ?_ | refine AdN.mk _ _ rfl ?_ | refine DrawN.a (Ob.mk (by decide +kernel) ?_) | refine DrawN.c (Ob.mk (by decide +kernel) ?_) | refine DrawN.b (Ob.mk (by decide +kernel) ?_) | refine Ob.mk (by kernel_rfl) ?_ | (refine Br.mk (fun h => ?_) (fun h => ?_) <;> (first | (exfalso; exact Bool.false_ne_true h) | (exfalso; exact Bool.false_ne_true h.symm) | skip)) | refine SeqN.go ?_)); all_goals (conv => whnf)
  all_goals rfl
theorem rup_d (m r n : Int) (hm : 0 < m) (hm' : m ≤ 18446744073709551615) (hr : 0 ≤ r) (hr' : r < m) (h : IS n) : Den Tryz.prog 176 #[.agg #[.int .u64 m, .int .u64 r], .int .i64 n] noFacts (.int .u64 ((r - n) % m)) := by
  refine den_of_body (args := [.agg #[.int .u64 m, .int .u64 r], .int .i64 n]) hmix Tryz.func176 ?_
  have C := den_eq (F := noFacts) fun W => rrest_c n m W h.1 h.2 hm hm'
  have k := emod_rng n m hm
  have e := sub_mod_mod (a := r) (b := n) hm
  rw [Int.emod_eq_of_lt hr hr'] at e
  rw [← e]
  unfold cminus
  (repeat' ((conv => whnf); first | refine CallN.any _ C ?_ | refine AdN.mk _ _ rfl ?_ | refine DrawN.a (Ob.mk (by decide +kernel) ?_) | refine DrawN.c (Ob.mk (by decide +kernel) ?_) | refine DrawN.b (Ob.mk (by decide +kernel) ?_) | refine Ob.mk (by kernel_rfl) ?_ | (refine Br.mk (fun h => ?_) (fun h => ?_) <;> (first | (exfalso; exact Bool.false_ne_true h) | (exfalso; exact Bool.false_ne_true h.symm) | skip)) | refine SeqN.go ?_)); all_goals (conv => whnf)
  all_goals (simp only [retV, us_eq]; unfold us; clear C e; simp only [decide_eq_true_eq, decide_eq_false_iff_not] at *; congr 1; split <;> omega)
theorem rdown_d (m r n : Int) (hm : 0 < m) (hm' : m ≤ 18446744073709551615) (hr : 0 ≤ r) (hr' : r < m) (h : IS n) : Den Tryz.prog 177 #[.agg #[.int .u64 m, .int .u64 r], .int .i64 n] noFacts (.int .u64 ((n - r) % m)) := by
  refine den_of_body (args := [.agg #[.int .u64 m, .int .u64 r], .int .i64 n]) hmix Tryz.func177 ?_
  have C := den_eq (F := noFacts) fun W => rrest_c n m W h.1 h.2 hm hm'
  have k := emod_rng n m hm
  have e := sub_mod_mod (a := n) (b := r) hm
  rw [Int.emod_eq_of_lt hr hr'] at e
  rw [← e]
  unfold cminus
  (repeat' ((conv => whnf); first | refine CallN.any _ C ?_ | refine AdN.mk _ _ rfl ?_ | refine DrawN.a (Ob.mk (by decide +kernel) ?_) | refine DrawN.c (Ob.mk (by decide +kernel) ?_) | refine DrawN.b (Ob.mk (by decide +kernel) ?_) | refine Ob.mk (by kernel_rfl) ?_ | (refine Br.mk (fun h => ?_) (fun h => ?_) <;> (first | (exfalso; exact Bool.false_ne_true h) | (exfalso; exact Bool.false_ne_true h.symm) | skip)) | refine SeqN.go ?_)); all_goals (conv => whnf)
  all_goals (simp only [retV, us_eq]; unfold us; clear C e; simp only [decide_eq_true_eq, decide_eq_false_iff_not] at *; congr 1; split <;> omega)
theorem vr_mod {m r : Int} (hm : m ≠ 0) (hm' : 0 ≤ m) (hr : 0 ≤ r) : vr m r = r % m := by
  unfold vr
  split
  · rename_i h
    rcases cright_of m r h with h | h
    · exact absurd h hm
    · rw [Int.emod_eq_of_lt hr h]
  · rw [Int.tmod_eq_emod_of_nonneg hr]
/-- What is made, reckoned otherwise. -/
theorem vmake_mod {x : VV} (h : InV x) (hm : x.m ≠ 0) (hle : ¬ x.lo > x.hi) : vmake x =
    if (x.r % x.m - x.lo) % x.m > x.hi - x.lo ∨ (x.hi - x.r % x.m) % x.m > x.hi - x.lo ∨ (x.r % x.m - x.lo) % x.m > x.hi - x.lo - (x.hi - x.r % x.m) % x.m then vbot
    else if x.lo + (x.r % x.m - x.lo) % x.m = x.hi - (x.hi - x.r % x.m) % x.m then vone (x.lo + (x.r % x.m - x.lo) % x.m)
    else ⟨x.lo + (x.r % x.m - x.lo) % x.m, x.hi - (x.hi - x.r % x.m) % x.m, x.m, x.r % x.m⟩ := by
  unfold vmake cleast cgreat
  rw [vr_mod hm h.m.1 h.r.1]
  have h1 := emod_rng (x.r % x.m - x.lo) x.m (by have := h.m.1; omega)
  have h2 := emod_rng (x.hi - x.r % x.m) x.m (by have := h.m.1; omega)
  have h3 := h.lo
  have h4 := h.hi
  generalize (x.r % x.m - x.lo) % x.m = a at *
  generalize (x.hi - x.r % x.m) % x.m = b at *
  simp only [if_neg hm, if_neg hle]
  grind
theorem vmake_zero {x : VV} (h : InV x) (hm : x.m = 0) (hle : ¬ x.lo > x.hi) : vmake x = if x.lo ≤ sg x.r ∧ sg x.r ≤ x.hi then vone (sg x.r) else vbot := by
  unfold vmake cleast cgreat vr
  have hc : cright x.m x.r = true := by simp [cright, hm]
  simp only [if_neg hle, hm, if_true, hc]
  rw [hm] at hc
  simp only [hc, if_true]
  grind
theorem vmake_empty {x : VV} (hle : x.lo > x.hi) : vmake x = vbot := by unfold vmake; rw [if_pos hle]
/-! Contracts of the reference of values: whatever the values, in the ranges of their kinds. -/
theorem sg_to (r : Int) : IntKind.i64.wrap r = sg r := sg_eq r
theorem rMake_d (x : VV) (h : InV x) : Den Tryz.prog 84 #[.agg #[.int .i64 x.lo, .int .i64 x.hi], .agg #[.int .u64 x.m, .int .u64 x.r]] noFacts (VVal (vmake x)) := by
  obtain ⟨lo, hi, m, r⟩ := x
  refine den_of_body (args := [.agg #[.int .i64 lo, .int .i64 hi], .agg #[.int .u64 m, .int .u64 r]]) hmix Tryz.func84 ?_
  have h1 : IU m := h.m
  have h2 : IS lo := h.lo
  have h3 : IS hi := h.hi
  have h4 : IU r := h.r
  by_cases he : lo > hi
  · rw [vmake_empty he]
    have E := rIEmpty_d lo hi
    rw [decide_eq_true he] at E
    (repeat' ((conv => whnf); first | refine CallN.any _ E ?_ | refine CallN.any _ rBottom_d ?_ | refine AdN.mk _ _ rfl ?_ | refine DrawN.a (Ob.mk (by decide +kernel) ?_) | refine DrawN.c (Ob.mk (by decide +kernel) ?_) | refine DrawN.b (Ob.mk (by decide +kernel) ?_) | refine Ob.mk (by kernel_rfl) ?_ | (refine Br.mk (fun h => ?_) (fun h => ?_) <;> (first | (exfalso; exact Bool.false_ne_true h) | (exfalso; exact Bool.false_ne_true h.symm) | skip)) | refine SeqN.go ?_)); all_goals (conv => whnf)
    all_goals rfl
  have E := rIEmpty_d lo hi
  rw [decide_eq_false he] at E
  by_cases hm : m = 0
  · subst hm
    have hs := sg_rng r
    have O := rOne_d (IntKind.i64.wrap r) (by rw [sg_eq]; exact hs)
    rw [vmake_zero h rfl he]
    (repeat' ((conv => whnf); first | refine CallN.any _ E ?_ | refine CallN.any _ rBottom_d ?_ | refine CallN.any _ (rIHas_d _ _ _) ?_ | refine CallN.any _ O ?_ | refine AdN.mk _ _ rfl ?_ | refine DrawN.a (Ob.mk (by decide +kernel) ?_) | refine DrawN.c (Ob.mk (by decide +kernel) ?_) | refine DrawN.b (Ob.mk (by decide +kernel) ?_) | refine Ob.mk (by kernel_rfl) ?_ | (refine Br.mk (fun h => ?_) (fun h => ?_) <;> (first | (exfalso; exact Bool.false_ne_true h) | (exfalso; exact Bool.false_ne_true h.symm) | skip)) | refine SeqN.go ?_)); all_goals (conv => whnf)
    all_goals (clear O E; simp only [retV, sg_eq] at *; grind)
  · have e0 : r.tmod m = r % m := Int.tmod_eq_emod_of_nonneg h4.1
    have k := emod_rng r m (by omega)
    rw [← e0] at k
    have U := rup_d m (r.tmod m) lo (by omega) h1.2 k.1 k.2 h2
    have D := rdown_d m (r.tmod m) hi (by omega) h1.2 k.1 k.2 h3
    rw [vmake_mod h hm he]
    dsimp only
    rw [← e0]
    have ka := emod_rng (r.tmod m - lo) m (by omega)
    have kb := emod_rng (hi - r.tmod m) m (by omega)
    have es : IntKind.u64.wrap (IntKind.u64.wrap hi - IntKind.u64.wrap lo) = hi - lo := by
      simp only [us_eq]; unfold us; omega
    have O := rOne_d (lo + (r.tmod m - lo) % m)
    generalize (r.tmod m - lo) % m = a at *
    generalize (hi - r.tmod m) % m = b at *
    have e1 : a ≤ hi - lo → IntKind.i64.wrap (IntKind.u64.wrap (IntKind.u64.wrap lo + a)) = lo + a := fun _ => by
      simp only [us_eq, sg_eq]; unfold us sg; omega
    have e2 : b ≤ hi - lo → IntKind.i64.wrap (IntKind.u64.wrap (IntKind.u64.wrap hi - b)) = hi - b := fun _ => by
      simp only [us_eq, sg_eq]; unfold us sg; omega
    have e3 : b ≤ hi - lo → IntKind.u64.wrap (hi - lo - b) = hi - lo - b := fun _ => by
      rw [us_eq]; unfold us; omega
    by_cases c : a ≤ hi - lo ∧ b ≤ hi - lo
    · have e1 := e1 c.1
      have e2 := e2 c.2
      have e3 := e3 c.2
      have O := O ⟨by omega, by omega⟩
      rw [← e1] at O
      (repeat' ((conv => whnf); first | refine CallN.any _ E ?_ | refine CallN.any _ rBottom_d ?_ | refine CallN.any _ U ?_ | refine CallN.any _ D ?_ | refine CallN.any _ O ?_ | refine Ob.mk hm ?_ | refine AdN.mk _ _ rfl ?_ | refine DrawN.a (Ob.mk (by decide +kernel) ?_) | refine DrawN.c (Ob.mk (by decide +kernel) ?_) | refine DrawN.b (Ob.mk (by decide +kernel) ?_) | refine Ob.mk (by kernel_rfl) ?_ | (refine Br.mk (fun h => ?_) (fun h => ?_) <;> (first | (exfalso; exact Bool.false_ne_true h) | (exfalso; exact Bool.false_ne_true h.symm) | skip)) | refine SeqN.go ?_)); all_goals (conv => whnf)
      all_goals (clear U D O E; simp only [retV, es, e1, e2, e3] at *; grind)
    · have O' : ∀ n, Den Tryz.prog 55 #[.int .i64 (IntKind.i64.wrap n)] noFacts (VVal (vone (IntKind.i64.wrap n))) := fun n => rOne_d _ (by rw [sg_eq]; exact sg_rng n)
      (repeat' ((conv => whnf); first | refine CallN.any _ E ?_ | refine CallN.any _ rBottom_d ?_ | refine CallN.any _ U ?_ | refine CallN.any _ D ?_ | refine CallN.any _ (O' _) ?_ | refine Ob.mk hm ?_ | refine AdN.mk _ _ rfl ?_ | refine DrawN.a (Ob.mk (by decide +kernel) ?_) | refine DrawN.c (Ob.mk (by decide +kernel) ?_) | refine DrawN.b (Ob.mk (by decide +kernel) ?_) | refine Ob.mk (by kernel_rfl) ?_ | (refine Br.mk (fun h => ?_) (fun h => ?_) <;> (first | (exfalso; exact Bool.false_ne_true h) | (exfalso; exact Bool.false_ne_true h.symm) | skip)) | refine SeqN.go ?_)); all_goals (conv => whnf)
      all_goals (clear U D O O' E e1 e2 e3; simp only [retV, es] at *; grind)
/-! Contracts of the reference of values, over what it makes: whatever the values, in the ranges of their kinds. -/
theorem docValue_d (x : VV) : Den Tryz.prog 18 #[VVal x] noFacts (VVal x) := by
  refine den_of_body (args := [VVal x]) hmix Tryz.func18 ?_
  (repeat' ((conv => whnf); first | refine AdN.mk _ _ rfl ?_ | refine DrawN.a (Ob.mk (by decide +kernel) ?_) | refine DrawN.c (Ob.mk (by decide +kernel) ?_) | refine DrawN.b (Ob.mk (by decide +kernel) ?_) | refine Ob.mk (by kernel_rfl) ?_ | (refine Br.mk (fun h => ?_) (fun h => ?_) <;> (first | (exfalso; exact Bool.false_ne_true h) | (exfalso; exact Bool.false_ne_true h.symm) | skip)) | refine SeqN.go ?_)); all_goals (conv => whnf)
  all_goals rfl
theorem rVPlain_d (x : VV) (h : InV x) : Den Tryz.prog 78 #[VVal x] noFacts (VVal (vmake x)) := by
  refine den_of_body (args := [VVal x]) hmix Tryz.func78 ?_
  (repeat' ((conv => whnf); first | refine CallN.any _ (rMake_d x h) ?_ | refine AdN.mk _ _ rfl ?_ | refine DrawN.a (Ob.mk (by decide +kernel) ?_) | refine DrawN.c (Ob.mk (by decide +kernel) ?_) | refine DrawN.b (Ob.mk (by decide +kernel) ?_) | refine Ob.mk (by kernel_rfl) ?_ | (refine Br.mk (fun h => ?_) (fun h => ?_) <;> (first | (exfalso; exact Bool.false_ne_true h) | (exfalso; exact Bool.false_ne_true h.symm) | skip)) | refine SeqN.go ?_)); all_goals (conv => whnf)
  all_goals rfl
theorem lplain_d (x : VV) (h : InV x) : Den Tryz.prog 46 #[VVal x] noFacts (VVal (vmake x)) := by
  refine den_of_body (args := [VVal x]) hmix Tryz.func46 ?_
  (repeat' ((conv => whnf); first | refine CallN.any _ (docValue_d x) ?_ | refine CallN.any _ (rVPlain_d x h) ?_ | refine AdN.mk _ _ rfl ?_ | refine DrawN.a (Ob.mk (by decide +kernel) ?_) | refine DrawN.c (Ob.mk (by decide +kernel) ?_) | refine DrawN.b (Ob.mk (by decide +kernel) ?_) | refine Ob.mk (by kernel_rfl) ?_ | (refine Br.mk (fun h => ?_) (fun h => ?_) <;> (first | (exfalso; exact Bool.false_ne_true h) | (exfalso; exact Bool.false_ne_true h.symm) | skip)) | refine SeqN.go ?_)); all_goals (conv => whnf)
  all_goals rfl
/-- A value that is right: as it is made. -/
def Red (x : VV) : Prop := InV x ∧ (x.m = 0 ∨ x.r < x.m)
theorem red_make {x : VV} (h : InV x) : Red (vmake x) := ⟨vmake_in h, vmake_right h⟩
theorem rVHas_d (x : VV) (n : Int) (h : Red x) (hn : IS n) : Den Tryz.prog 35 #[VVal x, .int .i64 n] noFacts (.bool (vhas x n)) := by
  obtain ⟨lo, hi, m, r⟩ := x
  refine den_of_body (args := [VVal ⟨lo, hi, m, r⟩, .int .i64 n]) hmix Tryz.func35 ?_
  obtain ⟨⟨h1, h2, h3, h4⟩, h5⟩ := h
  dsimp only at h1 h2 h3 h4 h5
  by_cases hm : m = 0
  · subst hm
    have C := den_of (F := noFacts) fun W => rhas_c 0 r n W h3.1 h3.2 hn.1 hn.2
    (repeat' ((conv => whnf); first | refine CallN.any _ (rIHas_d _ _ _) ?_ | refine CallN.any _ C ?_ | refine AdN.mk _ _ rfl ?_ | refine DrawN.a (Ob.mk (by decide +kernel) ?_) | refine DrawN.c (Ob.mk (by decide +kernel) ?_) | refine DrawN.b (Ob.mk (by decide +kernel) ?_) | refine Ob.mk (by kernel_rfl) ?_ | (refine Br.mk (fun h => ?_) (fun h => ?_) <;> (first | (exfalso; exact Bool.false_ne_true h) | (exfalso; exact Bool.false_ne_true h.symm) | skip)) | refine SeqN.go ?_)); all_goals (conv => whnf)
    all_goals (clear C; first | (exfalso; simp_all; done) | grind [retV, vhas])
  · have e : r.tmod m = r := Int.tmod_eq_of_lt h4.1 (by omega)
    have C := den_of (F := noFacts) fun W => rhas_c m r n W h3.1 h3.2 hn.1 hn.2
    rw [show ((Value.int .u64 r : Value)) = .int .u64 (r.tmod m) by rw [e]] at C
    (repeat' ((conv => whnf); first | refine CallN.any _ (rIHas_d _ _ _) ?_ | refine CallN.any _ C ?_ | refine Ob.mk hm ?_ | refine AdN.mk _ _ rfl ?_ | refine DrawN.a (Ob.mk (by decide +kernel) ?_) | refine DrawN.c (Ob.mk (by decide +kernel) ?_) | refine DrawN.b (Ob.mk (by decide +kernel) ?_) | refine Ob.mk (by kernel_rfl) ?_ | (refine Br.mk (fun h => ?_) (fun h => ?_) <;> (first | (exfalso; exact Bool.false_ne_true h) | (exfalso; exact Bool.false_ne_true h.symm) | skip)) | refine SeqN.go ?_)); all_goals (conv => whnf)
    all_goals (clear C; first | (exfalso; simp_all; omega) | grind [retV, vhas])
def rwithin (x y : VV) : Bool := veq x vbot || (if x.lo = x.hi then vhas y x.lo else vhas y x.lo && vhas y x.hi && decide (y.m > 0) && (x.m % y.m == 0))
theorem rWithin_d (x y : VV) (h : Red x) (k : Red y) : Den Tryz.prog 69 #[VVal x, VVal y] noFacts (.bool (rwithin x y)) := by
  refine den_of_body (args := [VVal x, VVal y]) hmix Tryz.func69 ?_
  have H1 := rVHas_d y x.lo k h.1.lo
  have H2 := rVHas_d y x.hi k h.1.hi
  have e : x.m.tmod y.m = x.m % y.m := Int.tmod_eq_emod_of_nonneg h.1.m.1
  (repeat' ((conv => whnf); first | refine CallN.any _ rBottom_d ?_ | refine CallN.any _ H1 ?_ | refine CallN.any _ H2 ?_ | refine Ob.mk (fun e => (by simp [e] at *)) ?_ | refine AdN.mk _ _ rfl ?_ | refine DrawN.a (Ob.mk (by decide +kernel) ?_) | refine DrawN.c (Ob.mk (by decide +kernel) ?_) | refine DrawN.b (Ob.mk (by decide +kernel) ?_) | refine Ob.mk (by kernel_rfl) ?_ | (refine Br.mk (fun h => ?_) (fun h => ?_) <;> (first | (exfalso; exact Bool.false_ne_true h) | (exfalso; exact Bool.false_ne_true h.symm) | skip)) | refine SeqN.go ?_)); all_goals (conv => whnf)
  all_goals (clear H1 H2; grind [retV, rwithin, veq, vbot])
theorem rCong_d {x y : VV} (h : Red x) (k : Red y) : Den Tryz.prog 137 #[.agg #[.int .u64 x.m, .int .u64 x.r], .agg #[.int .u64 y.m, .int .u64 y.r]] noFacts (.agg #[.int .u64 (cjoin x.m x.r y.m y.r).1, .int .u64 (cjoin x.m x.r y.m y.r).2]) :=
  den_of fun W => rjoin_c x.m x.r y.m y.r W h.1.m.1 h.1.m.2 h.1.r.1 h.1.r.2 k.1.m.1 k.1.m.2 k.1.r.1 k.1.r.2 h.2
theorem rCMeet_d {x y : VV} (h : Red x) (k : Red y) : Den Tryz.prog 138 #[.agg #[.int .u64 x.m, .int .u64 x.r], .agg #[.int .u64 y.m, .int .u64 y.r]] noFacts (.tuple #[.agg #[.int .u64 (cmeet x.m x.r y.m y.r).1.1, .int .u64 (cmeet x.m x.r y.m y.r).1.2], .bool (cmeet x.m x.r y.m y.r).2]) :=
  den_of fun W => rmeet_c x.m x.r y.m y.r W h.1.m.1 h.1.m.2 h.1.r.1 h.1.r.2 k.1.m.1 k.1.m.2 k.1.r.1 k.1.r.2
theorem rijoin_in {a b c d : Int} (ha : IS a) (hb : IS b) (hc : IS c) (hd : IS d) : IS (rijoin a b c d).1 ∧ IS (rijoin a b c d).2 := by
  unfold rijoin
  split
  · exact iof_in hc hd
  · split
    · exact ⟨ha, hb⟩
    · constructor <;> (dsimp only; split) <;> assumption
def rvjoin (a b : VV) : VV := if veq a vbot then b else if veq b vbot then a else vmk (rijoin a.lo a.hi b.lo b.hi) (cjoin a.m a.r b.m b.r)
def rvmeet (a b : VV) : VV := if (cmeet a.m a.r b.m b.r).2 = false then vbot else vmk (imeet a.lo a.hi b.lo b.hi) (cmeet a.m a.r b.m b.r).1
def rvwiden (a b : VV) : VV := if veq a vbot = true ∨ veq b vbot = true then rvjoin a b else vmk (iwiden a.lo a.hi b.lo b.hi) (cjoin a.m a.r b.m b.r)
theorem rJoin_d (x y : VV) (hm : Red x) (km : Red y) : Den Tryz.prog 60 #[VVal x, VVal y] noFacts (VVal (rvjoin x y)) := by
  refine den_of_body (args := [VVal x, VVal y]) hmix Tryz.func60 ?_
  have C := rCong_d hm km
  have b2 := rijoin_in hm.1.lo hm.1.hi km.1.lo km.1.hi
  have M := rMake_d ⟨_, _, _, _⟩ (show InV ⟨(rijoin x.lo x.hi y.lo y.hi).1, (rijoin x.lo x.hi y.lo y.hi).2, _, _⟩ from ⟨b2.1, b2.2, (cj_in hm.1 km.1).1, (cj_in hm.1 km.1).2⟩)
  (repeat' ((conv => whnf); first | refine CallN.any _ rBottom_d ?_ | refine CallN.any _ (rIJoin_d _ _ _ _) ?_ | refine CallN.any _ C ?_ | refine CallN.any _ M ?_ | refine AdN.mk _ _ rfl ?_ | refine DrawN.a (Ob.mk (by decide +kernel) ?_) | refine DrawN.c (Ob.mk (by decide +kernel) ?_) | refine DrawN.b (Ob.mk (by decide +kernel) ?_) | refine Ob.mk (by kernel_rfl) ?_ | (refine Br.mk (fun h => ?_) (fun h => ?_) <;> (first | (exfalso; exact Bool.false_ne_true h) | (exfalso; exact Bool.false_ne_true h.symm) | skip)) | refine SeqN.go ?_)); all_goals (conv => whnf)
  all_goals (clear C M; grind [retV, rvjoin, veq, vbot, vmk])
theorem rMeet_d (x y : VV) (hm : Red x) (km : Red y) : Den Tryz.prog 61 #[VVal x, VVal y] noFacts (VVal (rvmeet x y)) := by
  refine den_of_body (args := [VVal x, VVal y]) hmix Tryz.func61 ?_
  have C := rCMeet_d hm km
  have b2 := imeet_in hm.1.lo hm.1.hi km.1.lo km.1.hi
  have M := rMake_d ⟨_, _, _, _⟩ (show InV ⟨(imeet x.lo x.hi y.lo y.hi).1, (imeet x.lo x.hi y.lo y.hi).2, _, _⟩ from ⟨b2.1, b2.2, (cm_in hm.1 km.1).1, (cm_in hm.1 km.1).2⟩)
  (repeat' ((conv => whnf); first | refine CallN.any _ rBottom_d ?_ | refine CallN.any _ (rIMeet_d _ _ _ _) ?_ | refine CallN.any _ C ?_ | refine CallN.any _ M ?_ | refine AdN.mk _ _ rfl ?_ | refine DrawN.a (Ob.mk (by decide +kernel) ?_) | refine DrawN.c (Ob.mk (by decide +kernel) ?_) | refine DrawN.b (Ob.mk (by decide +kernel) ?_) | refine Ob.mk (by kernel_rfl) ?_ | (refine Br.mk (fun h => ?_) (fun h => ?_) <;> (first | (exfalso; exact Bool.false_ne_true h) | (exfalso; exact Bool.false_ne_true h.symm) | skip)) | refine SeqN.go ?_)); all_goals (conv => whnf)
  all_goals (clear C M; grind [retV, rvmeet, veq, vbot, vmk])
theorem rWiden_d (x y : VV) (hm : Red x) (km : Red y) : Den Tryz.prog 65 #[VVal x, VVal y] noFacts (VVal (rvwiden x y)) := by
  refine den_of_body (args := [VVal x, VVal y]) hmix Tryz.func65 ?_
  have C := rCong_d hm km
  have J := rJoin_d x y hm km
  have b2 := iwiden_in hm.1.lo hm.1.hi km.1.lo km.1.hi
  have M := rMake_d ⟨_, _, _, _⟩ (show InV ⟨(iwiden x.lo x.hi y.lo y.hi).1, (iwiden x.lo x.hi y.lo y.hi).2, _, _⟩ from ⟨b2.1, b2.2, (cj_in hm.1 km.1).1, (cj_in hm.1 km.1).2⟩)
  (repeat' ((conv => whnf); first | refine CallN.any _ rBottom_d ?_ | refine CallN.any _ (rIWiden_d _ _ _ _) ?_ | refine CallN.any _ C ?_ | refine CallN.any _ M ?_ | refine CallN.any _ J ?_ | refine AdN.mk _ _ rfl ?_ | refine DrawN.a (Ob.mk (by decide +kernel) ?_) | refine DrawN.c (Ob.mk (by decide +kernel) ?_) | refine DrawN.b (Ob.mk (by decide +kernel) ?_) | refine Ob.mk (by kernel_rfl) ?_ | (refine Br.mk (fun h => ?_) (fun h => ?_) <;> (first | (exfalso; exact Bool.false_ne_true h) | (exfalso; exact Bool.false_ne_true h.symm) | skip)) | refine SeqN.go ?_)); all_goals (conv => whnf)
  all_goals (clear C M J; grind [retV, rvwiden, veq, vbot, vmk])
theorem rNarrow_d (x y : VV) (hm : Red x) (km : Red y) : Den Tryz.prog 67 #[VVal x, VVal y] noFacts (VVal (vnarrow x y)) := by
  refine den_of_body (args := [VVal x, VVal y]) hmix Tryz.func67 ?_
  have C := rCMeet_d hm km
  have b2 := inarrow_in hm.1.lo hm.1.hi km.1.lo km.1.hi
  have M := rMake_d ⟨_, _, _, _⟩ (show InV ⟨(inarrow x.lo x.hi y.lo y.hi).1, (inarrow x.lo x.hi y.lo y.hi).2, _, _⟩ from ⟨b2.1, b2.2, (cm_in hm.1 km.1).1, (cm_in hm.1 km.1).2⟩)
  (repeat' ((conv => whnf); first | refine CallN.any _ rBottom_d ?_ | refine CallN.any _ (rINarrow_d _ _ _ _) ?_ | refine CallN.any _ C ?_ | refine CallN.any _ M ?_ | refine AdN.mk _ _ rfl ?_ | refine DrawN.a (Ob.mk (by decide +kernel) ?_) | refine DrawN.c (Ob.mk (by decide +kernel) ?_) | refine DrawN.b (Ob.mk (by decide +kernel) ?_) | refine Ob.mk (by kernel_rfl) ?_ | (refine Br.mk (fun h => ?_) (fun h => ?_) <;> (first | (exfalso; exact Bool.false_ne_true h) | (exfalso; exact Bool.false_ne_true h.symm) | skip)) | refine SeqN.go ?_)); all_goals (conv => whnf)
  all_goals (clear C M; grind [retV, vnarrow, veq, vbot, vmk])
end Go.Proofs.YtljhbdgoknfkcaaGreatDoor
