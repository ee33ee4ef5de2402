
import Derived.Test.YthekpmpcbidjiaaK45
import Derived.Test.YthekpmpcbidjiaaK46
import Derived.Test.YthekpmpcbidjiaaK48
/- Layer 11: the chapter's examples (the statements' own works). -/
namespace Go.Proofs.Ythekpmpcbidjiaa
open Go Go.RowKit Go.Sort U
set_option linter.unusedVariables false
set_option linter.unusedSimpArgs false
set_option maxRecDepth 100000
set_option maxHeartbeats 4000000
def chkT (u : Value) (_ : AS) : Bool := match u with
  | .bool true => true
  | _ => false
theorem chkT_frz {P : Program} {u : Value} {s : AS} (h : chkT u s = true) : FrzN P s u (.bool true) := by
  unfold chkT at h
  split at h
  · exact .flat _ rfl
  · cases h
def worksC : List Con := [⟨true, 10, [encG gW], .tuple ⟨[imS (iL [1, 0, 2]), .bool true]⟩⟩, ⟨true, 12, [encG gW, imS (uL [10, 3, 1])], imS (uL [16, 3, 20])⟩, ⟨true, 29, [encG gW], imS (iL [2, 1, 3])⟩, ⟨true, 11, [encG hW], imS (iL [0, 1])⟩, ⟨true, 11, [encG gW], imS (iL [])⟩]
theorem worksC_ok : ∀ c ∈ worksC, c.ok Try.prog := by
  intro c hc
  simp only [worksC, List.mem_cons, List.not_mem_nil, or_false] at hc
  rcases hc with rfl | rfl | rfl | rfl | rfl
  · exact orderW
  · exact inlinedW
  · exact deepW
  · exact ringHW
  · exact ringGW
theorem works_n : DenN Try.prog 9 [] (.bool true) := denN_closedC hmixU worksC worksC_ok (chk := chkT) (fun _ _ h => chkT_frz h) 100000 60 60 fun Ts => by kernel_rfl
theorem works_d : DenU Try.prog [] 9 [] (.bool true) := works_n.u
end Go.Proofs.Ythekpmpcbidjiaa
/- CallsSums, for every graph and numbers: of at most 7 procedures of 12 sites each, what is inlined, and nested, is the reference's; it stays. No condition. -/
namespace Go.Proofs.Ythekpmpcbidjiaa
open Go Go.ChangeShapes Go.WideShapes Go.ChangeAt Go.RowKit Go.Joins U
set_option linter.unusedVariables false
set_option linter.unusedSimpArgs false
set_option maxRecDepth 100000
set_option maxHeartbeats 1000000 in
theorem callsSums_lifted (os : Os) (started : os.Started) (H : Type) (enc : TypeId × Value → H) :
    ReturnsInHanded {} Try.checked os 4 .any (Rows.callsSumsSpec.pre6 enc Try.prog Try.f4 Rows.callsSumsRow.domain false) (Rows.callsSumsSpec.post enc Try.prog Try.f4 false true false false) := by
  refine returnsInHanded_of_change (C := Try.checked) own started (by kernel_rfl) Try.func4
    (ChangeSpec.witness6 (enc := enc) (C := Try.checked) false ⟨#[], #[.agg #[.slice none 0 0, .slice none 0 0], .slice none 0 0, .slice none 0 0, .slice none 0 0], []⟩ 8 (by kernel_rfl) (by kernel_rfl) (by kernel_rfl) (by kernel_rfl)) ?_
  intro W base args ds gs before hval0 hW hcnd _
  have hval : ∀ (j : Nat) t v, Try.f4.params[j]? = some t → args[j]? = some v → Value.okWide Try.prog W .any base t v := hval0
  have hW' := hW
  obtain ⟨p, q, hA0, hV, hpq, hfz, hnd⟩ := hW
  have hA : DataW.TrodAll enc Try.prog W 0 (fun _ => true) true Try.f4.params.toList args.toList ds p := hA0
  rw [Try.params4] at hA hval
  obtain ⟨v0, v1, v2, v3, d0, d1, d2, d3, p0, p1, p2, p3, rfl, rfl, rfl, h0, h1, h2, h3⟩ := trodAll_four hA
  obtain ⟨rfl, rfl⟩ := trodVars_none hV
  obtain ⟨g, hg, e0⟩ := open_graph (hval 0 _ v0 rfl rfl) h0
  obtain ⟨own1, ⟨ho, hu⟩, e1⟩ := open_unums (hval 1 _ v1 rfl rfl) h1
  obtain ⟨nest, hn, e2⟩ := open_nums (hval 2 _ v2 rfl rfl) h2
  obtain ⟨ats, ⟨ha, hr⟩, e3⟩ := open_rows (hval 3 _ v3 rfl rfl) h3
  refine ((sums_d g own1 nest ats hg ho hu hn ha hr works_d).out (zW W) W [v0, v1, v2, v3] (fun x hx => by cases hx) (fun _ _ _ h => h) (.cons e0 (.cons e1 (.cons e2 (.cons e3 (.nil _)))))).mono fun e W' ⟨v, z', he, ⟨hb, _⟩, _, _, hr⟩ => ?_
  obtain rfl := hr.flat_eq rfl
  subst he
  exact ⟨_, rfl, post_law laidOut (by kernel_rfl) rfl hW' rfl rfl Try.underlying4 hb⟩
set_option maxHeartbeats 1000000 in
theorem callsSums_holds : Rows.CallsSumsSaid :=
  OpenClaim.holds_of_wide 4 Try.f4 rfl rfl rfl rfl rfl rfl rfl ⟨rfl, rfl, rfl, rfl, rfl⟩ rfl rfl rfl rfl rfl (by kernel_rfl) Try.func4 (by kernel_rfl)
    (of_decide_eq_true (by kernel_rfl)) (by unfold Func.isWrapper; rw [if_neg (of_decide_eq_false (by kernel_rfl))]; exact ⟨rfl, rfl⟩)
    (fun os started H enc _ => callsSums_lifted os started H enc)
#print axioms callsSums_holds
end Go.Proofs.Ythekpmpcbidjiaa
