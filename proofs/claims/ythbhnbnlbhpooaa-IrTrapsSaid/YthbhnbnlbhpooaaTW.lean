/- IrTraps, for every statement: of at most 250 parts, it has the trap sites that the reference tells, and it stays. No condition. -/
import Derived.Test.YthbhnbnlbhpooaaTV
import Derived.Test.YthbhnbnlbhpooaaTL
import Derived.Test.YthbhnbnlbhpooaaTS
namespace Go.Proofs.Ythbhnbnlbhpooaa
open Go Go.ChangeShapes Go.WideShapes Go.ChangeAt Go.RowKit Go.Joins U
set_option linter.unusedVariables false
set_option maxRecDepth 100000

set_option maxHeartbeats 1000000 in
theorem irTraps_lifted (os : Os) (started : os.Started) (H : Type) (enc : TypeId × Value → H) :
    ReturnsInHanded {} Try.checked os 3 .any (Rows.irTrapsSpec.pre6 enc Try.prog Try.f3 Rows.irTrapsRow.domain false) (Rows.irTrapsSpec.post enc Try.prog Try.f3 false true false false) := by
  refine returnsInHanded_of_change (C := Try.checked) own started (by kernel_rfl) Try.func3
    (ChangeSpec.witness6 (enc := enc) (C := Try.checked) false ⟨#[], #[.agg #[.int .i64 0, .int .i64 0, .slice none 0 0, .slice none 0 0, .slice none 0 0, .int .i64 0]], []⟩ 8 (by kernel_rfl) (by kernel_rfl) (by kernel_rfl) (by kernel_rfl)) ?_
  intro W base args ds gs before hval0 hW hcnd _
  have hval : ∀ (j : Nat) t v, Try.f3.params[j]? = some t → args[j]? = some v → Value.okWide Try.prog W .any base t v := hval0
  have hW' := hW
  obtain ⟨p, q, hA0, hV, hpq, hfz, hnd⟩ := hW
  have hA : DataW.TrodAll enc Try.prog W 0 (fun _ => true) true Try.f3.params.toList args.toList ds p := hA0
  rw [Try.params3] at hA hval
  obtain ⟨v0, d0, rfl, rfl, h0⟩ := trodAll_one hA
  obtain ⟨rfl, rfl⟩ := trodVars_none hV
  obtain ⟨s, hs, hv⟩ := open_stmt (hval 0 _ v0 rfl rfl) h0
  obtain ⟨k, a, xs, th, el, no⟩ := s
  have hD := law_d k a no xs th el ⟨hs, trivial⟩ fun h1 h2 => trapsR_d k a no xs th el h1 h2
  refine (hD.out (zW W) W [v0] (fun x hx => by cases hx) (fun _ _ _ h => h) (.cons hv (.nil _))).mono fun e W' ⟨v, z', he, hb, _, _, hr⟩ => ?_
  obtain rfl := hr.flat_eq rfl
  subst he
  exact ⟨_, rfl, post_law laidOut (by kernel_rfl) rfl hW' rfl rfl Try.underlying4 hb⟩

set_option maxHeartbeats 1000000 in
theorem irTraps_holds : Rows.IrTrapsSaid :=
  OpenClaim.holds_of_wide 3 Try.f3 rfl rfl rfl rfl rfl rfl rfl ⟨rfl, rfl, rfl, rfl, rfl⟩ rfl rfl rfl rfl rfl (by kernel_rfl) Try.func3 (by kernel_rfl)
    (of_decide_eq_true (by kernel_rfl)) (by unfold Func.isWrapper; rw [if_neg (of_decide_eq_false (by kernel_rfl))]; exact ⟨rfl, rfl⟩)
    (fun os started H enc _ => irTraps_lifted os started H enc)

#print axioms irTraps_holds
end Go.Proofs.Ythbhnbnlbhpooaa
