/- CallsGraph: for every program that, with all that it holds, is of bulk at most 1048576, its graph is the one that the document says, or its fault; what came in reads as it did. Condition: that bulk (the second form of the statement). -/
import Derived.JoinedCond
import Derived.Test.YtphbcejnnoijfaaKG38
import Derived.Test.YtphbcejnnoijfaaKG52
/- CallsGraph, for every program that with all that it holds is of bulk at most 1048576: its graph is the reference's, or its fault; it stays. No other condition. -/
namespace Go.Proofs.Ytphbcejnnoijfaa
open Go Go.ChangeShapes Go.WideShapes Go.ChangeAt Go.RowKit Go.Joins U
set_option linter.unusedVariables false
set_option linter.unusedSimpArgs false
set_option maxRecDepth 100000
theorem trodAll_single {H : Type} {enc : TypeId × Value → H} {P : Program} {w : World} {base : Nat} {spare : Nat → Bool} {held : Bool} {t : TypeId} {args : Array Value} {ds : List (DataW H)} {ps : List MemPlace} (h : DataW.TrodAll enc P w base spare held [t] args.toList ds ps) :
    ∃ v d, args = #[v] ∧ ds = [d] ∧ DataW.Trod enc P w base spare held t v d ps := by
  obtain ⟨v, vs, d, ds', p, q, hargs, rfl, rfl, hd, hrest⟩ := trodAll_cons h
  obtain ⟨rfl, rfl, rfl⟩ := trodAll_nil hrest
  exact ⟨v, d, by cases args; simp_all, rfl, by simpa using hd⟩
set_option maxHeartbeats 1000000 in
theorem callsGraph_contract (H : Type) (enc : TypeId × Value → H) (W : World) (base : Nat) (args : Array Value) (ds gs : List (DataW H)) (before : List MemPlace)
    (hval : ∀ (j : Nat) t v, Try.f3.params[j]? = some t → args[j]? = some v → Value.okWide Try.prog W .any base t v)
    (hW : DataW.Whole enc Try.prog Try.f3.params.toList Rows.callsGraphSpec.vars false W args.toList ds gs before) (hk : Rows.uptoSmall H (ds ++ gs) = true) :
    Calls Try.prog 3 args W fun e W' => ∃ v, e = .returned v ∧ Rows.callsGraphSpec.post enc Try.prog Try.f3 false true false false W args v W' := by
  have hW' := hW
  obtain ⟨p, q, hA0, hV, hpq, hfz, hnd⟩ := hW
  have hA : DataW.TrodAll enc Try.prog W 0 (fun _ => true) true Try.f3.params.toList args.toList ds p := hA0
  rw [Try.params3] at hA hval
  obtain ⟨v0, d0, rfl, rfl, h0⟩ := trodAll_single hA
  obtain ⟨rfl, rfl⟩ := trodVars_none hV
  obtain ⟨s, hs, e0⟩ := open_program (hval 0 _ v0 rfl rfl) h0
  have hk2 := of_decide_eq_true hk
  simp only [List.append_nil, Rows.uptoBulkAll] at hk2
  have hsz : szPr s ≤ 800000 := by omega
  refine ((law_d s hsz).out (zW W) W [v0] (fun x hx => by cases hx) (fun _ _ _ h => h) (.cons e0 (.nil _))).mono fun e W' ⟨v, z', he, ⟨hb, _⟩, _, _, hr⟩ => ?_
  obtain rfl := hr.flat_eq rfl
  subst he
  exact ⟨_, rfl, post_law laidOut (by kernel_rfl) rfl hW' rfl rfl Try.underlying4 hb⟩
set_option maxHeartbeats 1000000 in
theorem callsGraph_lifted (os : Os) (started : os.Started) (H : Type) (enc : TypeId × Value → H) (F : Stop.Interp) :
    ReturnsInHanded {} Try.checked os 3 .any ((Rows.OpenSpec.upto Rows.callsGraphSpec).pre6 enc Try.prog Try.f3 Rows.callsGraphUptoRow.domain false) (((Rows.OpenSpec.upto Rows.callsGraphSpec).at F).post enc Try.prog Try.f3 false true false false) := by
  refine returnsInHanded_of_cond (C := Try.checked) (s := Rows.OpenSpec.upto Rows.callsGraphSpec) (k := Rows.uptoSmall) rfl own started (by kernel_rfl) Try.func3
    (OpenSpec.witness (enc := enc) (C := Try.checked) (s := Rows.OpenSpec.upto Rows.callsGraphSpec) (k := Rows.uptoSmall) rfl false ⟨#[], #[.agg #[.slice none 0 0, .slice none 0 0]], []⟩ 8 (by kernel_rfl) (by kernel_rfl) (by kernel_rfl)
      (x := ([.agg [.nil, .nil]], [], [])) (by kernel_rfl) rfl (by kernel_rfl)) ?_
  intro W base args ds gs before hval hW _ hk _
  exact callsGraph_contract H enc W base args ds gs before hval hW hk
set_option maxHeartbeats 1000000 in
theorem callsGraphUpto_holds : Rows.CallsGraphUptoSaid :=
  OpenClaim.holds_of_cond 3 Try.f3 rfl rfl rfl rfl rfl rfl rfl ⟨rfl, rfl, rfl, rfl, rfl⟩ rfl rfl rfl rfl rfl (by kernel_rfl) Try.func3 (by kernel_rfl)
    (of_decide_eq_true (by kernel_rfl)) (by unfold Func.isWrapper; rw [if_neg (of_decide_eq_false (by kernel_rfl))]; exact ⟨rfl, rfl⟩)
    (fun os started H enc _ F => callsGraph_lifted os started H enc F)
#print axioms callsGraphUpto_holds
end Go.Proofs.Ytphbcejnnoijfaa
