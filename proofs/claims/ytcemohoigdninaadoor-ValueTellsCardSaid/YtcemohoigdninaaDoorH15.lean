/- ValueTells, for every interval, congruence, number and count. No condition but the tables. -/
import Derived.Test.YtcemohoigdninaaDoorHT
import Derived.Test.YtcemohoigdninaaDoorJY
import Derived.Test.YtcemohoigdninaaDoorCards
import Derived.Test.YtcemohoigdninaaDoorTie
import Derived.SevenTiedAt
import Derived.Handed
namespace Go.Proofs.YtcemohoigdninaaDoor
open Go Go.ChangeShapes Go.WideShapes Go.ChangeAt Go.RowKit Go.Joins
set_option linter.unusedVariables false
set_option maxRecDepth 100000

section
variable {H : Type} {enc : TypeId × Value → H} {W : World} {base : Nat} {spare : Nat → Bool} {held : Bool}
theorem open_interV {v : Value} {d : DataW H} {p : List MemPlace} {b0 : Nat} {r : Reach} (hv : Value.okWide Tryd.prog W r b0 23 v) (h : DataW.Trod enc Tryd.prog W base spare held 23 v d p) : ∃ a b : Int, v = .agg #[.int .i64 a, .int .i64 b] ∧ IS a ∧ IS b := by
  obtain ⟨cs, rfl, hsz⟩ := okWide_struct Tryd.underlying23 hv
  obtain ⟨fuel, hf⟩ := h
  obtain ⟨a, b, he, ha, hb⟩ := open_inter hf
  refine ⟨a, b, ?_, ha, hb⟩
  have : cs.toList = [.int .i64 a, .int .i64 b] := he
  congr 1
  apply Array.ext'
  rw [this]
theorem open_congV {v : Value} {d : DataW H} {p : List MemPlace} {b0 : Nat} {r : Reach} (hv : Value.okWide Tryd.prog W r b0 26 v) (h : DataW.Trod enc Tryd.prog W base spare held 26 v d p) : ∃ a b : Int, v = .agg #[.int .u64 a, .int .u64 b] ∧ IU a ∧ IU b := by
  obtain ⟨cs, rfl, hsz⟩ := okWide_struct Tryd.underlying26 hv
  obtain ⟨fuel, hf⟩ := h
  obtain ⟨a, b, he, ha, hb⟩ := open_congC hf
  refine ⟨a, b, ?_, ha, hb⟩
  have : cs.toList = [.int .u64 a, .int .u64 b] := he
  congr 1
  apply Array.ext'
  rw [this]
end
set_option maxHeartbeats 1000000 in
theorem valueTells_lifted (os : Os) (started : os.Started) (H : Type) (enc : TypeId × Value → H) :
    ReturnsInHanded {} Tryd.checked os 3 .any (fun w args => (Rows.valueTellsSpec.pre enc Tryd.prog Tryd.f3 [] false w args ∧ laidMetH Tryd.prog Rows.valueTellsRow.laid w) ∧ sizedMet enc Tryd.prog Tryd.f3 (OpenSpec.ofChange Rows.valueTellsSpec) false w args) (Rows.valueTellsSpec.post enc Tryd.prog Tryd.f3 false true false false) := by
  refine returnsInHanded_of_change_and (C := Tryd.checked) (X := fun w _ => laidMetH Tryd.prog Rows.valueTellsRow.laid w) (fun _ _ _ hh h => h.of_heap hh) own started (by kernel_rfl) Tryd.func3
    (ChangeSpec.witness_at (enc := enc) (C := Tryd.checked) (os := os) (X := fun w _ => laidMetH Tryd.prog Rows.valueTellsRow.laid w) false (laidWorld os) #[.agg #[.int .i64 0, .int .i64 0], .agg #[.int .u64 0, .int .u64 0], .int .i64 0, .int .i64 0] 8 rfl (by kernel_rfl) (by kernel_rfl) (by kernel_rfl) (by kernel_rfl) (by kernel_rfl) (laidWorld_met os _)) ?_
  intro W base args ds gs before hval0 hW _ _ hL _
  have hval : ∀ (j : Nat) t v, Tryd.f3.params[j]? = some t → args[j]? = some v → Value.okWide Tryd.prog W .any base t v := hval0
  have hW' := hW
  obtain ⟨p, q, hA0, hV, hpq, hfz, hnd⟩ := hW
  have hA : DataW.TrodAll enc Tryd.prog W 0 (fun _ => true) true Tryd.f3.params.toList args.toList ds p := hA0
  rw [Tryd.params3] at hA hval
  obtain ⟨v0, v1, v2, v3, d0, d1, d2, d3, p0, p1, p2, p3, rfl, rfl, rfl, h0, h1, h2, h3⟩ := trodAll_four hA
  obtain ⟨rfl, rfl⟩ := trodVars_none hV
  obtain ⟨vl, vh, rfl, ivl, ivh⟩ := open_interV (hval 0 _ v0 rfl rfl) h0
  obtain ⟨cm, cr, rfl, icm, icr⟩ := open_congV (hval 1 _ v1 rfl rfl) h1
  obtain ⟨k, rfl, _, _, wk⟩ := open_int Tryd.underlying2 (hval 2 _ v2 rfl rfl) h2
  have ik : IS k := is_of wk
  obtain ⟨most, rfl, _, _, wmost⟩ := open_int Tryd.underlying3 (hval 3 _ v3 rfl rfl) h3
  have imost : IS most := is_of wmost
  have htab := sat_tab (tab_of_laid hL)
  refine ((valueTells_d ⟨vl, vh, cm, cr⟩ k most ⟨ivl, ivh, icm, icr⟩ ik imost).out W htab).mono fun e W' ⟨he, hb⟩ => ?_
  subst he
  exact ⟨_, rfl, post_law laidOut (by kernel_rfl) rfl hW' rfl rfl Tryd.underlying4 hb⟩

set_option maxHeartbeats 1000000 in
theorem valueTells_holds : Rows.ValueTellsSaid :=
  OpenClaim.holds_of_wide 3 Tryd.f3 rfl rfl rfl rfl rfl rfl rfl ⟨rfl, rfl, rfl, rfl, rfl⟩ rfl rfl rfl rfl rfl (by kernel_rfl) Tryd.func3 (by kernel_rfl)
    (of_decide_eq_true (by kernel_rfl)) (by unfold Func.isWrapper; rw [if_neg (of_decide_eq_false (by kernel_rfl))]; exact ⟨rfl, rfl⟩)
    (fun os started H enc _ => valueTells_lifted os started H enc)

set_option maxHeartbeats 1000000 in
theorem valueTells_card_holds : Rows.ValueTellsCardSaid :=
  Claim7.holds_tied_plain_at .later [] [.data, .data, .data] true (true, "e7e0be88bbb95799b0af279e322d2dc1a6af0442308c45deca9aac75c7e88b24") false
    valueTells_holds (fun _ h => by cases h) (by kernel_rfl) (fun _ h => by cases h) valueTells_row_tie rfl ⟨rfl, rfl⟩ (by kernel_rfl) rfl
    (fun f fn hf hfn => by
      obtain rfl : f = 3 := Option.some.inj ((show Tryd.prog.funcNamed "sieveholes/sieveholeslaw21.ValueTells" = some 3 by kernel_rfl).symm.trans hf) |>.symm
      obtain rfl : fn = Tryd.f3 := (Option.some.inj (Tryd.func3.symm.trans hfn)).symm
      exact ⟨by kernel_rfl, fun j t ht => by
        have hall : (Tryd.f3.params.toList.all fun t => !Tryd.pinned.checked.prog.wantsStandIn t) = true := by kernel_rfl
        have := List.all_eq_true.1 hall t (by rw [← Array.getElem?_toList] at ht; exact List.mem_of_getElem? ht)
        simpa using this⟩)
    (by kernel_rfl)
#print axioms valueTells_card_holds
end Go.Proofs.YtcemohoigdninaaDoor
