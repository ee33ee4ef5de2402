/- CongSound, for every two congruences and two numbers: joins, meets, sums, differences and products have the numbers that they should. No condition. -/
import Derived.Test.YtiefoahdikmilaaH1
import Derived.Test.YtiefoahdikmilaaN1
namespace Go.Proofs.Ytiefoahdikmilaa
open Go Go.ChangeShapes Go.WideShapes Go.ChangeAt Go.RowKit Go.Joins
set_option linter.unusedVariables false
set_option maxRecDepth 100000

theorem congSound_lifted (os : Os) (started : os.Started) (H : Type) (enc : TypeId × Value → H) :
    ReturnsInHanded {} Try.checked os 6 .any (Rows.congSoundSpec.pre6 enc Try.prog Try.f6 Rows.congSoundRow.domain false) (Rows.congSoundSpec.post enc Try.prog Try.f6 false true false false) := by
  refine returnsInHanded_of_change (C := Try.checked) own started (by kernel_rfl) Try.func6
    (ChangeSpec.witness6 (enc := enc) (C := Try.checked) false ⟨#[], #[.agg #[.int .u64 0, .int .u64 0], .agg #[.int .u64 0, .int .u64 0], .int .i64 0, .int .i64 0], []⟩ 8 (by kernel_rfl) (by kernel_rfl) (by kernel_rfl) (by kernel_rfl)) ?_
  intro W base args ds gs before hval0 hW hcnd _
  have hval : ∀ (j : Nat) t v, Try.f6.params[j]? = some t → args[j]? = some v → Value.okWide Try.prog W .any base t v := hval0
  have hW' := hW
  obtain ⟨p, q, hA0, hV, hpq, hfz, hnd⟩ := hW
  have hA : DataW.TrodAll enc Try.prog W 0 (fun _ => true) true Try.f6.params.toList args.toList ds p := hA0
  rw [Try.params6] at hA hval
  obtain ⟨v0, v1, v2, v3, d0, d1, d2, d3, p0, p1, p2, p3, rfl, rfl, rfl, h0, h1, h2, h3⟩ := trodAll_four hA
  obtain ⟨rfl, rfl⟩ := trodVars_none hV
  obtain ⟨am, ar, rfl, ba, ba'⟩ := open_cong (hval 0 _ v0 rfl rfl) h0
  obtain ⟨bm, br, rfl, bb, bb'⟩ := open_cong (hval 1 _ v1 rfl rfl) h1
  obtain ⟨n, rfl, _, _, wn⟩ := open_int Try.underlying2 (hval 2 _ v2 rfl rfl) h2
  have bn := bounds_i64 wn
  obtain ⟨m, rfl, _, _, wm⟩ := open_int Try.underlying2 (hval 3 _ v3 rfl rfl) h3
  have bm0 := bounds_i64 wm
  refine ((congSound_d am ar bm br n m ba.1 ba.2 ba'.1 ba'.2 bb.1 bb.2 bb'.1 bb'.2 bn.1 bn.2 bm0.1 bm0.2).out W (fun _ _ _ h => by cases h)).mono fun e W' ⟨he, hb⟩ => ?_
  subst he
  exact ⟨_, rfl, post_law laidOut (by kernel_rfl) rfl hW' rfl rfl Try.underlying4 hb⟩

theorem congSound_holds : Rows.CongSoundSaid :=
  OpenClaim.holds_of_wide 6 Try.f6 rfl rfl rfl rfl rfl rfl rfl ⟨rfl, rfl, rfl, rfl, rfl⟩ rfl rfl rfl rfl rfl (by kernel_rfl) Try.func6 (by kernel_rfl)
    (of_decide_eq_true (by kernel_rfl)) (by unfold Func.isWrapper; rw [if_neg (of_decide_eq_false (by kernel_rfl))]; exact ⟨rfl, rfl⟩)
    (fun os started H enc _ => congSound_lifted os started H enc)

#print axioms congSound_holds
end Go.Proofs.Ytiefoahdikmilaa
