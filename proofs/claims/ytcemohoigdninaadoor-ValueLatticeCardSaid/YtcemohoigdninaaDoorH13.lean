/- ValueLattice, for every two values, number and row of values. No condition but the tables. -/
import Derived.Test.YtcemohoigdninaaDoorHT
import Derived.Test.YtcemohoigdninaaDoorJ8
import Derived.Test.YtcemohoigdninaaDoorCards
import Derived.Test.YtcemohoigdninaaDoorTie
import Derived.SevenTiedAt
import Derived.Handed
namespace Go.Proofs.YtcemohoigdninaaDoor
open Go Go.ChangeShapes Go.WideShapes Go.ChangeAt Go.RowKit Go.Joins
set_option linter.unusedVariables false
set_option maxRecDepth 100000

set_option maxHeartbeats 1000000 in
theorem valueLattice_lifted (os : Os) (started : os.Started) (H : Type) (enc : TypeId × Value → H) :
    ReturnsInHanded {} Tryd.checked os 5 .any (fun w args => (Rows.valueLatticeSpec.pre enc Tryd.prog Tryd.f5 [] false w args ∧ laidMetH Tryd.prog Rows.valueLatticeRow.laid w) ∧ sizedMet enc Tryd.prog Tryd.f5 (OpenSpec.ofChange Rows.valueLatticeSpec) false w args) (Rows.valueLatticeSpec.post enc Tryd.prog Tryd.f5 false true false false) := by
  refine returnsInHanded_of_change_and (C := Tryd.checked) (X := fun w _ => laidMetH Tryd.prog Rows.valueLatticeRow.laid w) (fun _ _ _ hh h => h.of_heap hh) own started (by kernel_rfl) Tryd.func5
    (ChangeSpec.witness_at (enc := enc) (C := Tryd.checked) (os := os) (X := fun w _ => laidMetH Tryd.prog Rows.valueLatticeRow.laid w) false (laidWorld os) #[.agg #[.int .i64 0, .int .i64 0, .int .u64 0, .int .u64 0], .agg #[.int .i64 0, .int .i64 0, .int .u64 0, .int .u64 0], .int .i64 0, .slice none 0 0] 8 rfl (by kernel_rfl) (by kernel_rfl) (by kernel_rfl) (by kernel_rfl) (by kernel_rfl) (laidWorld_met os _)) ?_
  intro W base args ds gs before hval0 hW _ _ hL _
  have hval : ∀ (j : Nat) t v, Tryd.f5.params[j]? = some t → args[j]? = some v → Value.okWide Tryd.prog W .any base t v := hval0
  have hW' := hW
  obtain ⟨p, q, hA0, hV, hpq, hfz, hnd⟩ := hW
  have hA : DataW.TrodAll enc Tryd.prog W 0 (fun _ => true) true Tryd.f5.params.toList args.toList ds p := hA0
  rw [Tryd.params5] at hA hval
  obtain ⟨v0, v1, v2, v3, d0, d1, d2, d3, p0, p1, p2, p3, rfl, rfl, rfl, h0, h1, h2, h3⟩ := trodAll_four hA
  obtain ⟨rfl, rfl⟩ := trodVars_none hV
  obtain ⟨x, ix, rfl⟩ := open_value (hval 0 _ v0 rfl rfl) h0
  obtain ⟨y, iy, rfl⟩ := open_value (hval 1 _ v1 rfl rfl) h1
  obtain ⟨k, rfl, _, _, wk⟩ := open_int Tryd.underlying2 (hval 2 _ v2 rfl rfl) h2
  have ik : IS k := is_of wk
  obtain ⟨L, iL, lL, rL⟩ := open_values (hval 3 _ v3 rfl rfl) h3
  have htab := sat_tab (tab_of_laid hL)
  refine ((valueLattice_d x y k L ix iy ik iL lL).out W [VVal x, VVal y, .int .i64 k, v3] htab (by refine ⟨_, _, rfl, rfl, _, _, rfl, rfl, _, _, rfl, rfl, _, _, rfl, rL, ?_⟩; rfl)).mono fun e W' ⟨he, hb⟩ => ?_
  subst he
  exact ⟨_, rfl, post_law laidOut (by kernel_rfl) rfl hW' rfl rfl Tryd.underlying4 hb⟩

set_option maxHeartbeats 1000000 in
theorem valueLattice_holds : Rows.ValueLatticeSaid :=
  OpenClaim.holds_of_wide 5 Tryd.f5 rfl rfl rfl rfl rfl rfl rfl ⟨rfl, rfl, rfl, rfl, rfl⟩ rfl rfl rfl rfl rfl (by kernel_rfl) Tryd.func5 (by kernel_rfl)
    (of_decide_eq_true (by kernel_rfl)) (by unfold Func.isWrapper; rw [if_neg (of_decide_eq_false (by kernel_rfl))]; exact ⟨rfl, rfl⟩)
    (fun os started H enc _ => valueLattice_lifted os started H enc)

set_option maxHeartbeats 1000000 in
theorem valueLattice_card_holds : Rows.ValueLatticeCardSaid :=
  Claim7.holds_tied_plain_at .later [] [.data, .data, .data] true (true, "e7e0be88bbb95799b0af279e322d2dc1a6af0442308c45deca9aac75c7e88b24") false
    valueLattice_holds (fun _ h => by cases h) (by kernel_rfl) (fun _ h => by cases h) valueLattice_row_tie rfl ⟨rfl, rfl⟩ (by kernel_rfl) rfl
    (fun f fn hf hfn => by
      obtain rfl : f = 5 := Option.some.inj ((show Tryd.prog.funcNamed "sieveholes/sieveholeslaw21.ValueLattice" = some 5 by kernel_rfl).symm.trans hf) |>.symm
      obtain rfl : fn = Tryd.f5 := (Option.some.inj (Tryd.func5.symm.trans hfn)).symm
      exact ⟨by kernel_rfl, fun j t ht => by
        have hall : (Tryd.f5.params.toList.all fun t => !Tryd.pinned.checked.prog.wantsStandIn t) = true := by kernel_rfl
        have := List.all_eq_true.1 hall t (by rw [← Array.getElem?_toList] at ht; exact List.mem_of_getElem? ht)
        simpa using this⟩)
    (by kernel_rfl)
#print axioms valueLattice_card_holds
end Go.Proofs.YtcemohoigdninaaDoor
