/- CongCounts, for every congruence and two bounds: the least and the greatest number, and how many there are, are the reference's, and what is told stands next to the bound. No condition. -/
import Derived.Test.YtiefoahdikmilaaH1
import Derived.Test.YtiefoahdikmilaaL3
namespace Go.Proofs.Ytiefoahdikmilaa
open Go Go.ChangeShapes Go.WideShapes Go.ChangeAt Go.RowKit Go.Joins
set_option linter.unusedVariables false
set_option maxRecDepth 100000

theorem congCounts_lifted (os : Os) (started : os.Started) (H : Type) (enc : TypeId × Value → H) :
    ReturnsInHanded {} Try.checked os 7 .any (Rows.congCountsSpec.pre6 enc Try.prog Try.f7 Rows.congCountsRow.domain false) (Rows.congCountsSpec.post enc Try.prog Try.f7 false true false false) := by
  refine returnsInHanded_of_change (C := Try.checked) own started (by kernel_rfl) Try.func7
    (ChangeSpec.witness6 (enc := enc) (C := Try.checked) false ⟨#[], #[.agg #[.int .u64 0, .int .u64 0], .int .i64 0, .int .i64 0], []⟩ 8 (by kernel_rfl) (by kernel_rfl) (by kernel_rfl) (by kernel_rfl)) ?_
  intro W base args ds gs before hval0 hW hcnd _
  have hval : ∀ (j : Nat) t v, Try.f7.params[j]? = some t → args[j]? = some v → Value.okWide Try.prog W .any base t v := hval0
  have hW' := hW
  obtain ⟨p, q, hA0, hV, hpq, hfz, hnd⟩ := hW
  have hA : DataW.TrodAll enc Try.prog W 0 (fun _ => true) true Try.f7.params.toList args.toList ds p := hA0
  rw [Try.params7] at hA hval
  obtain ⟨v0, v1, v2, d0, d1, d2, p0, p1, p2, rfl, rfl, rfl, h0, h1, h2⟩ := trodAll_three hA
  obtain ⟨rfl, rfl⟩ := trodVars_none hV
  obtain ⟨cm, cr, rfl, bc, bc'⟩ := open_cong (hval 0 _ v0 rfl rfl) h0
  obtain ⟨lo, rfl, _, _, wlo⟩ := open_int Try.underlying2 (hval 1 _ v1 rfl rfl) h1
  have blo := bounds_i64 wlo
  obtain ⟨hi, rfl, _, _, whi⟩ := open_int Try.underlying2 (hval 2 _ v2 rfl rfl) h2
  have bhi := bounds_i64 whi
  refine (congCounts_c cm cr lo hi W bc.1 bc.2 bc'.1 bc'.2 blo.1 blo.2 bhi.1 bhi.2).mono fun e W' ⟨he, hb⟩ => ?_
  subst he
  exact ⟨_, rfl, post_law laidOut (by kernel_rfl) rfl hW' rfl rfl Try.underlying4 hb⟩

theorem congCounts_holds : Rows.CongCountsSaid :=
  OpenClaim.holds_of_wide 7 Try.f7 rfl rfl rfl rfl rfl rfl rfl ⟨rfl, rfl, rfl, rfl, rfl⟩ rfl rfl rfl rfl rfl (by kernel_rfl) Try.func7 (by kernel_rfl)
    (of_decide_eq_true (by kernel_rfl)) (by unfold Func.isWrapper; rw [if_neg (of_decide_eq_false (by kernel_rfl))]; exact ⟨rfl, rfl⟩)
    (fun os started H enc _ => congCounts_lifted os started H enc)

#print axioms congCounts_holds
end Go.Proofs.Ytiefoahdikmilaa
