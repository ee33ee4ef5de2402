/- TypingNone: what is not there answers so, for every name and node. No condition but the table. -/
import Derived.Test.YtnoamabohjonaaaDoorHS
import Derived.Test.YtnoamabohjonaaaDoorUX
import Derived.Test.YtnoamabohjonaaaDoorCards
import Derived.Test.YtnoamabohjonaaaDoorTie
import Derived.SevenTiedAt
import Derived.Handed
namespace Go.Proofs.YtnoamabohjonaaaDoor
open Go Go.ChangeShapes Go.WideShapes Go.ChangeAt Go.RowKit Go.Joins
set_option linter.unusedVariables false
set_option maxRecDepth 100000

theorem glob_kw : Tryd.prog.globalNamed "sieveholes/ast.keywords" = some 0 := by kernel_rfl
theorem type_kw : (Tryd.prog.globals[0]?).map (·.type) = some 127 := by kernel_rfl
def kwB : List (List UInt8) := [[97, 114, 114, 97, 121], [99, 97, 108, 108], [101, 108, 115, 101], [105, 102], [105, 110], [109, 97, 105, 110], [111, 117, 116, 112, 117, 116], [112, 114, 111, 99], [112, 117, 98, 108, 105, 99], [115, 101, 99, 114, 101, 116], [115, 107, 105, 112], [118, 97, 114], [119, 104, 105, 108, 101]]
theorem sat_kw {W : World} (h : laidMetH Tryd.prog Rows.typingNoneRow.laid W) : Sat kwF W := by
  have e : (Rows.typingNoneRow.laid.filter fun x => x.2.handleName?.isNone) = [("sieveholes/ast.keywords", strData kwB)] := by kernel_rfl
  have h2 := (laidMetH_iff.1 h).1
  rw [e] at h2
  obtain ⟨ps, h3, _⟩ := h2
  refine ⟨fun b o x hx => hx.elim, fun b p hp => ?_⟩
  obtain ⟨xs, hm, rfl⟩ := hp
  rcases List.mem_cons.1 hm with hm | hm
  · cases hm
    obtain ⟨T, fz, h4⟩ := laid_strs (bs := kwB) glob_kw type_kw Tryd.underlying127 Tryd.underlying9 (by kernel_rfl) (by kernel_rfl) h3 (by simp)
    exact ⟨_, h4, T, fz, rfl⟩
  · cases hm
noncomputable def laidWorld (os : Os) : World :=
  { World.holding Tryd.prog os ⟨#[], #[], []⟩ with heap := layAt 0 Rows.laid_sieveholes_ast_keywords (World.holding Tryd.prog os ⟨#[], #[], []⟩).heap }
theorem laidWorld_met (os : Os) (args : Array Value) : laidMetH Tryd.prog Rows.typingNoneRow.laid ((laidWorld os).forCall (fun _ _ => 0) ⟨#[], args, []⟩).memory :=
  laidMetH_of_parts (laidMet_of_run' 8 (by kernel_rfl) (by kernel_rfl)) (by kernel_rfl)

set_option maxHeartbeats 1000000 in
theorem typingNone_lifted (os : Os) (started : os.Started) (H : Type) (enc : TypeId × Value → H) :
    ReturnsInHanded {} Tryd.checked os 3 .any (fun w args => (Rows.typingNoneSpec.pre enc Tryd.prog Tryd.f3 [] false w args ∧ laidMetH Tryd.prog Rows.typingNoneRow.laid w) ∧ sizedMet enc Tryd.prog Tryd.f3 (OpenSpec.ofChange Rows.typingNoneSpec) false w args) (Rows.typingNoneSpec.post enc Tryd.prog Tryd.f3 false true false false) := by
  refine returnsInHanded_of_change_and (C := Tryd.checked) (X := fun w _ => laidMetH Tryd.prog Rows.typingNoneRow.laid w) (fun _ _ _ hh h => h.of_heap hh) own started (by kernel_rfl) Tryd.func3
    (ChangeSpec.witness_at (enc := enc) (C := Tryd.checked) (os := os) (X := fun w _ => laidMetH Tryd.prog Rows.typingNoneRow.laid w) false (laidWorld os) #[.string ⟨#[]⟩, .int .i64 0] 8 rfl (by kernel_rfl) (by kernel_rfl) (by kernel_rfl) (by kernel_rfl) (by kernel_rfl) (laidWorld_met os _)) ?_
  intro W base args ds gs before hval0 hW _ _ hL _
  have hval : ∀ (j : Nat) t v, Tryd.f3.params[j]? = some t → args[j]? = some v → Value.okWide Tryd.prog W .any base t v := hval0
  have hW' := hW
  obtain ⟨p, q, hA0, hV, hpq, hfz, hnd⟩ := hW
  have hA : DataW.TrodAll enc Tryd.prog W 0 (fun _ => true) true Tryd.f3.params.toList args.toList ds p := hA0
  rw [Tryd.params3] at hA hval
  obtain ⟨v0, v1, d0, d1, q0, q1, rfl, rfl, rfl, h0, h1⟩ := trodAll_two hA
  obtain ⟨rfl, rfl⟩ := trodVars_none hV
  obtain ⟨z, rfl⟩ := okWide_string Tryd.underlying9 (hval 0 _ v0 rfl rfl)
  obtain ⟨x, rfl⟩ := okWide_int Tryd.underlying3 (hval 1 _ v1 rfl rfl)
  refine ((typingNone_d z x).out W (sat_kw hL)).mono fun e W' ⟨he, hb⟩ => ?_
  subst he
  exact ⟨_, rfl, post_law laidOut (by kernel_rfl) rfl hW' rfl rfl Tryd.underlying4 hb⟩

set_option maxHeartbeats 1000000 in
theorem typingNone_holds : Rows.TypingNoneSaid :=
  OpenClaim.holds_of_wide 3 Tryd.f3 rfl rfl rfl rfl rfl rfl rfl ⟨rfl, rfl, rfl, rfl, rfl⟩ rfl rfl rfl rfl rfl (by kernel_rfl) Tryd.func3 (by kernel_rfl)
    (of_decide_eq_true (by kernel_rfl)) (by unfold Func.isWrapper; rw [if_neg (of_decide_eq_false (by kernel_rfl))]; exact ⟨rfl, rfl⟩)
    (fun os started H enc _ => typingNone_lifted os started H enc)

set_option maxHeartbeats 1000000 in
theorem typingNone_card_holds : Rows.TypingNoneCardSaid :=
  Claim7.holds_tied_plain_at .later [] [.data] true (true, "9475995fd9a7d20d123153c1cf599f243edd8dfeb708da06cbb1c457d2a1ada9") false
    typingNone_holds (fun _ h => by cases h) (by kernel_rfl) (fun _ h => by cases h) typingNone_row_tie rfl ⟨rfl, rfl⟩ (by kernel_rfl) rfl
    (fun f fn hf hfn => by
      obtain rfl : f = 3 := Option.some.inj ((show Tryd.prog.funcNamed "sieveholes/sieveholeslaw12.TypingNone" = some 3 by kernel_rfl).symm.trans hf) |>.symm
      obtain rfl : fn = Tryd.f3 := (Option.some.inj (Tryd.func3.symm.trans hfn)).symm
      exact ⟨by kernel_rfl, fun j t ht => by
        have hall : (Tryd.f3.params.toList.all fun t => !Tryd.pinned.checked.prog.wantsStandIn t) = true := by kernel_rfl
        have := List.all_eq_true.1 hall t (by rw [← Array.getElem?_toList] at ht; exact List.mem_of_getElem? ht)
        simpa using this⟩)
    (by kernel_rfl)
#print axioms typingNone_card_holds
end Go.Proofs.YtnoamabohjonaaaDoor
