/- ValueJoins, for every row of values, two values and row of numbers: joins and meets, folded, read the same as the reference says. No condition but the tables. -/
import Derived.Test.YtcemohoigdninaaDoorHT
import Derived.Test.YtcemohoigdninaaDoorJ1
import Derived.Test.YtcemohoigdninaaDoorCards
import Derived.Test.YtcemohoigdninaaDoorTie
import Derived.SevenTiedAt
import Derived.Handed
namespace Go.Proofs.YtcemohoigdninaaDoor
open Go Go.ChangeShapes Go.WideShapes Go.ChangeAt Go.RowKit Go.Joins
set_option linter.unusedVariables false
set_option maxRecDepth 100000

set_option maxHeartbeats 1000000 in
theorem valueJoins_lifted (os : Os) (started : os.Started) (H : Type) (enc : TypeId × Value → H) :
    ReturnsInHanded {} Tryd.checked os 4 .any (fun w args => (Rows.valueJoinsSpec.pre enc Tryd.prog Tryd.f4 [] false w args ∧ laidMetH Tryd.prog Rows.valueJoinsRow.laid w) ∧ sizedMet enc Tryd.prog Tryd.f4 (OpenSpec.ofChange Rows.valueJoinsSpec) false w args) (Rows.valueJoinsSpec.post enc Tryd.prog Tryd.f4 false true false false) := by
  refine returnsInHanded_of_change_and (C := Tryd.checked) (X := fun w _ => laidMetH Tryd.prog Rows.valueJoinsRow.laid w) (fun _ _ _ hh h => h.of_heap hh) own started (by kernel_rfl) Tryd.func4
    (ChangeSpec.witness_at (enc := enc) (C := Tryd.checked) (os := os) (X := fun w _ => laidMetH Tryd.prog Rows.valueJoinsRow.laid w) false (laidWorld os) #[.slice none 0 0, .agg #[.int .i64 0, .int .i64 0, .int .u64 0, .int .u64 0], .agg #[.int .i64 0, .int .i64 0, .int .u64 0, .int .u64 0], .slice none 0 0] 8 rfl (by kernel_rfl) (by kernel_rfl) (by kernel_rfl) (by kernel_rfl) (by kernel_rfl) (laidWorld_met os _)) ?_
  intro W base args ds gs before hval0 hW _ _ hL _
  have hval : ∀ (j : Nat) t v, Tryd.f4.params[j]? = some t → args[j]? = some v → Value.okWide Tryd.prog W .any base t v := hval0
  have hW' := hW
  obtain ⟨p, q, hA0, hV, hpq, hfz, hnd⟩ := hW
  have hA : DataW.TrodAll enc Tryd.prog W 0 (fun _ => true) true Tryd.f4.params.toList args.toList ds p := hA0
  rw [Tryd.params4] at hA hval
  obtain ⟨v0, v1, v2, v3, d0, d1, d2, d3, p0, p1, p2, p3, rfl, rfl, rfl, h0, h1, h2, h3⟩ := trodAll_four hA
  obtain ⟨rfl, rfl⟩ := trodVars_none hV
  obtain ⟨L, i0, l0, r0⟩ := open_values (hval 0 _ v0 rfl rfl) h0
  obtain ⟨a, i1, rfl⟩ := open_value (hval 1 _ v1 rfl rfl) h1
  obtain ⟨b, i2, rfl⟩ := open_value (hval 2 _ v2 rfl rfl) h2
  obtain ⟨N, i3, l3, r3⟩ := open_nums (hval 3 _ v3 rfl rfl) h3
  have htab := sat_tab (tab_of_laid hL)
  refine ((valueJoins_d L a b N i0 i1 i2 i3 l0 l3).out W [v0, VVal a, VVal b, v3] htab (by refine ⟨_, _, rfl, r0, _, _, rfl, rfl, _, _, rfl, rfl, _, _, rfl, r3, ?_⟩; rfl)).mono fun e W' ⟨he, hb⟩ => ?_
  subst he
  exact ⟨_, rfl, post_law laidOut (by kernel_rfl) rfl hW' rfl rfl Tryd.underlying4 hb⟩

theorem valueJoins_holds : Rows.ValueJoinsSaid :=
  OpenClaim.holds_of_wide 4 Tryd.f4 rfl rfl rfl rfl rfl rfl rfl ⟨rfl, rfl, rfl, rfl, rfl⟩ rfl rfl rfl rfl rfl (by kernel_rfl) Tryd.func4 (by kernel_rfl)
    (of_decide_eq_true (by kernel_rfl)) (by unfold Func.isWrapper; rw [if_neg (of_decide_eq_false (by kernel_rfl))]; exact ⟨rfl, rfl⟩)
    (fun os started H enc _ => valueJoins_lifted os started H enc)

theorem valueJoins_card_holds : Rows.ValueJoinsCardSaid :=
  Claim7.holds_tied_plain_at .later [] [.data, .data, .data] true (true, "e7e0be88bbb95799b0af279e322d2dc1a6af0442308c45deca9aac75c7e88b24") false
    valueJoins_holds (fun _ h => by cases h) (by kernel_rfl) (fun _ h => by cases h) valueJoins_row_tie rfl ⟨rfl, rfl⟩ (by kernel_rfl) rfl
    (fun f fn hf hfn => by
      obtain rfl : f = 4 := Option.some.inj ((show Tryd.prog.funcNamed "sieveholes/sieveholeslaw21.ValueJoins" = some 4 by kernel_rfl).symm.trans hf) |>.symm
      obtain rfl : fn = Tryd.f4 := (Option.some.inj (Tryd.func4.symm.trans hfn)).symm
      exact ⟨by kernel_rfl, fun j t ht => by
        have hall : (Tryd.f4.params.toList.all fun t => !Tryd.pinned.checked.prog.wantsStandIn t) = true := by kernel_rfl
        have := List.all_eq_true.1 hall t (by rw [← Array.getElem?_toList] at ht; exact List.mem_of_getElem? ht)
        simpa using this⟩)
    (by kernel_rfl)
#print axioms valueJoins_card_holds
end Go.Proofs.YtcemohoigdninaaDoor
