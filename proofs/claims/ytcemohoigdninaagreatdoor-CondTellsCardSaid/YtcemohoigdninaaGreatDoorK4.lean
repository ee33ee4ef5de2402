/- Contracts of the reference of values: whatever the values, in the ranges of their kinds. -/
import Derived.Test.YtcemohoigdninaaGreatDoorK3
namespace Go.Proofs.YtcemohoigdninaaGreatDoor
open Go Go.RowKit Go.Sort
set_option linter.unusedVariables false
set_option linter.unusedSimpArgs false
set_option maxRecDepth 100000

theorem sg_to (r : Int) : IntKind.i64.wrap r = sg r := sg_eq r
theorem rMake_d (x : VV) (h : InV x) : Den Tryz.prog 82 #[.agg #[.int .i64 x.lo, .int .i64 x.hi], .agg #[.int .u64 x.m, .int .u64 x.r]] noFacts (VVal (vmake x)) := by
  obtain ⟨lo, hi, m, r⟩ := x
  refine den_of_body (args := [.agg #[.int .i64 lo, .int .i64 hi], .agg #[.int .u64 m, .int .u64 r]]) hmix Tryz.func82 ?_
  have h1 : IU m := h.m
  have h2 : IS lo := h.lo
  have h3 : IS hi := h.hi
  have h4 : IU r := h.r
  by_cases he : lo > hi
  · rw [vmake_empty he]
    have E := rIEmpty_d lo hi
    rw [decide_eq_true he] at E
    (repeat' ((conv => whnf); first | refine CallN.any _ E ?_ | refine CallN.any _ rBottom_d ?_ | refine AdN.mk _ _ rfl ?_ | refine DrawN.a (Ob.mk (by decide +kernel) ?_) | refine DrawN.c (Ob.mk (by decide +kernel) ?_) | refine DrawN.b (Ob.mk (by decide +kernel) ?_) | refine Ob.mk (by kernel_rfl) ?_ | (refine Br.mk (fun h => ?_) (fun h => ?_) <;> (first | (exfalso; exact Bool.false_ne_true h) | (exfalso; exact Bool.false_ne_true h.symm) | skip)) | refine SeqN.go ?_)); all_goals (conv => whnf)
    all_goals rfl
  have E := rIEmpty_d lo hi
  rw [decide_eq_false he] at E
  by_cases hm : m = 0
  · subst hm
    have hs := sg_rng r
    have O := rOne_d (IntKind.i64.wrap r) (by rw [sg_eq]; exact hs)
    rw [vmake_zero h rfl he]
    (repeat' ((conv => whnf); first | refine CallN.any _ E ?_ | refine CallN.any _ rBottom_d ?_ | refine CallN.any _ (rIHas_d _ _ _) ?_ | refine CallN.any _ O ?_ | refine AdN.mk _ _ rfl ?_ | refine DrawN.a (Ob.mk (by decide +kernel) ?_) | refine DrawN.c (Ob.mk (by decide +kernel) ?_) | refine DrawN.b (Ob.mk (by decide +kernel) ?_) | refine Ob.mk (by kernel_rfl) ?_ | (refine Br.mk (fun h => ?_) (fun h => ?_) <;> (first | (exfalso; exact Bool.false_ne_true h) | (exfalso; exact Bool.false_ne_true h.symm) | skip)) | refine SeqN.go ?_)); all_goals (conv => whnf)
    all_goals (clear O E; simp only [retV, sg_eq] at *; grind)
  · have e0 : r.tmod m = r % m := Int.tmod_eq_emod_of_nonneg h4.1
    have k := emod_rng r m (by omega)
    rw [← e0] at k
    have U := rup_d m (r.tmod m) lo (by omega) h1.2 k.1 k.2 h2
    have D := rdown_d m (r.tmod m) hi (by omega) h1.2 k.1 k.2 h3
    rw [vmake_mod h hm he]
    dsimp only
    rw [← e0]
    have ka := emod_rng (r.tmod m - lo) m (by omega)
    have kb := emod_rng (hi - r.tmod m) m (by omega)
    have es : IntKind.u64.wrap (IntKind.u64.wrap hi - IntKind.u64.wrap lo) = hi - lo := by
      simp only [us_eq]; unfold us; omega
    have O := rOne_d (lo + (r.tmod m - lo) % m)
    generalize (r.tmod m - lo) % m = a at *
    generalize (hi - r.tmod m) % m = b at *
    have e1 : a ≤ hi - lo → IntKind.i64.wrap (IntKind.u64.wrap (IntKind.u64.wrap lo + a)) = lo + a := fun _ => by
      simp only [us_eq, sg_eq]; unfold us sg; omega
    have e2 : b ≤ hi - lo → IntKind.i64.wrap (IntKind.u64.wrap (IntKind.u64.wrap hi - b)) = hi - b := fun _ => by
      simp only [us_eq, sg_eq]; unfold us sg; omega
    have e3 : b ≤ hi - lo → IntKind.u64.wrap (hi - lo - b) = hi - lo - b := fun _ => by
      rw [us_eq]; unfold us; omega
    by_cases c : a ≤ hi - lo ∧ b ≤ hi - lo
    · have e1 := e1 c.1
      have e2 := e2 c.2
      have e3 := e3 c.2
      have O := O ⟨by omega, by omega⟩
      rw [← e1] at O
      (repeat' ((conv => whnf); first | refine CallN.any _ E ?_ | refine CallN.any _ rBottom_d ?_ | refine CallN.any _ U ?_ | refine CallN.any _ D ?_ | refine CallN.any _ O ?_ | refine Ob.mk hm ?_ | refine AdN.mk _ _ rfl ?_ | refine DrawN.a (Ob.mk (by decide +kernel) ?_) | refine DrawN.c (Ob.mk (by decide +kernel) ?_) | refine DrawN.b (Ob.mk (by decide +kernel) ?_) | refine Ob.mk (by kernel_rfl) ?_ | (refine Br.mk (fun h => ?_) (fun h => ?_) <;> (first | (exfalso; exact Bool.false_ne_true h) | (exfalso; exact Bool.false_ne_true h.symm) | skip)) | refine SeqN.go ?_)); all_goals (conv => whnf)
      all_goals (clear U D O E; simp only [retV, es, e1, e2, e3] at *; grind)
    · have O' : ∀ n, Den Tryz.prog 58 #[.int .i64 (IntKind.i64.wrap n)] noFacts (VVal (vone (IntKind.i64.wrap n))) := fun n => rOne_d _ (by rw [sg_eq]; exact sg_rng n)
      (repeat' ((conv => whnf); first | refine CallN.any _ E ?_ | refine CallN.any _ rBottom_d ?_ | refine CallN.any _ U ?_ | refine CallN.any _ D ?_ | refine CallN.any _ (O' _) ?_ | refine Ob.mk hm ?_ | refine AdN.mk _ _ rfl ?_ | refine DrawN.a (Ob.mk (by decide +kernel) ?_) | refine DrawN.c (Ob.mk (by decide +kernel) ?_) | refine DrawN.b (Ob.mk (by decide +kernel) ?_) | refine Ob.mk (by kernel_rfl) ?_ | (refine Br.mk (fun h => ?_) (fun h => ?_) <;> (first | (exfalso; exact Bool.false_ne_true h) | (exfalso; exact Bool.false_ne_true h.symm) | skip)) | refine SeqN.go ?_)); all_goals (conv => whnf)
      all_goals (clear U D O O' E e1 e2 e3; simp only [retV, es] at *; grind)
end Go.Proofs.YtcemohoigdninaaGreatDoor
