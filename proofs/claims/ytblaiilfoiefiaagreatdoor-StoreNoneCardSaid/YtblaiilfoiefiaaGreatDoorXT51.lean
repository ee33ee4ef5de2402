import Derived.Test.YtblaiilfoiefiaaGreatDoorCards
import Derived.Test.YtblaiilfoiefiaaGreatDoorTie
import Derived.SevenTiedAt
import Derived.Handed
import Derived.Test.YtblaiilfoiefiaaGreatDoorXT01
import Derived.Test.YtblaiilfoiefiaaGreatDoorXT49
import Derived.Test.YtblaiilfoiefiaaGreatDoorXT50
namespace Go.Proofs.YtblaiilfoiefiaaGreatDoor
open Go Go.ChangeShapes Go.WideShapes Go.ChangeAt Go.RowKit Go.Joins U
set_option linter.unusedVariables false
set_option linter.unusedSimpArgs false
set_option maxRecDepth 100000
def kwU : List (List UInt8) := [[97, 114, 114, 97, 121], [99, 97, 108, 108], [101, 108, 115, 101], [105, 102], [105, 110], [109, 97, 105, 110], [111, 117, 116, 112, 117, 116], [112, 114, 111, 99], [112, 117, 98, 108, 105, 99], [115, 101, 99, 114, 101, 116], [115, 107, 105, 112], [118, 97, 114], [119, 104, 105, 108, 101]]
theorem kwU_cells : strCells kwU = kwB.map Value.string := by kernel_rfl
theorem glob_kw : Tryz.prog.globalNamed "sieveholes/ast.keywords" = some 0 := by kernel_rfl
theorem type_kw : (Tryz.prog.globals[0]?).map (·.type) = some 331 := by kernel_rfl
theorem glob_tab : Tryz.prog.globalNamed "internal/strconv.uint64pow10" = some 1 := by kernel_rfl
theorem type_tab : (Tryz.prog.globals[1]?).map (·.type) = some 400 := by kernel_rfl
theorem set_all {W : World} (h : laidMetH Tryz.prog Rows.storeNoneRow.laid W) : gSet allT W := by
  have a1 := h.filter fun x => x.1 == "sieveholes/ast.keywords"
  have e1 : (Rows.storeNoneRow.laid.filter fun x => x.1 == "sieveholes/ast.keywords") = [("sieveholes/ast.keywords", strData kwU)] := by kernel_rfl
  rw [e1] at a1
  have b1 := (laidMetH_iff.1 a1).1
  have f1 : ([("sieveholes/ast.keywords", (strData kwU : DataW Unit))].filter fun x => x.2.handleName?.isNone) = [("sieveholes/ast.keywords", strData kwU)] := by kernel_rfl
  rw [f1] at b1
  have a2 := h.filter fun x => x.1 == "internal/strconv.uint64pow10"
  have e2 : (Rows.storeNoneRow.laid.filter fun x => x.1 == "internal/strconv.uint64pow10") = [("internal/strconv.uint64pow10", Lib.tabData .u64 Lib.pow10Tab)] := by kernel_rfl
  rw [e2] at a2
  have b2 : laidMet Tryz.prog [("internal/strconv.uint64pow10", Lib.tabData .u64 Lib.pow10Tab)] W := by
    have := (laidMetH_iff.1 a2).1
    have f2 : ([("internal/strconv.uint64pow10", (Lib.tabData .u64 Lib.pow10Tab : DataW Unit))].filter fun x => x.2.handleName?.isNone) = [("internal/strconv.uint64pow10", Lib.tabData .u64 Lib.pow10Tab)] := by kernel_rfl
    rwa [f2] at this
  have c2 := Lib.tabIs_of_head glob_tab type_tab Tryz.underlying400 Tryz.underlying96 (by kernel_rfl) (by kernel_rfl) b2
  intro x hx
  rcases List.mem_append.1 hx with hx | hx
  · rw [kwT, List.mem_singleton] at hx
    subst hx
    obtain ⟨ps, h3, _⟩ := b1
    obtain ⟨T, fz, h4⟩ := laid_strs (bs := kwU) glob_kw type_kw Tryz.underlying331 Tryz.underlying9 (by kernel_rfl) (by kernel_rfl) h3 (by simp)
    rw [kwU_cells] at h4
    exact ⟨T, fz, h4⟩
  · rw [List.mem_singleton] at hx
    subst hx
    unfold Lib.TabIs World.var? at c2
    rw [glob_tab] at c2
    simp only [Option.bind_some] at c2
    split at c2
    · rename_i cs T fz hh
      cases c2
      exact ⟨T, fz, hh⟩
    · cases c2
noncomputable def laidWorld (os : Os) : World :=
  { World.holding Tryz.prog os ⟨#[], #[], []⟩ with heap := layAt 0 Rows.laid_sieveholes_ast_keywords (layAt 1 Rows.laid_internal_strconv_uint64pow10 (layAt 5 Rows.laid_math_bits_deBruijn64tab (layAt 4 Rows.laid_math_bits_deBruijn32tab (World.holding Tryz.prog os ⟨#[], #[], []⟩).heap))) }
theorem laidWorld_met (os : Os) (args : Array Value) : laidMetH Tryz.prog Rows.storeNoneRow.laid ((laidWorld os).forCall (fun _ _ => 0) ⟨#[], args, []⟩).memory :=
  laidMetH_of_parts (laidMet_of_run' 8 (by kernel_rfl) (by kernel_rfl)) (by kernel_rfl)
set_option maxHeartbeats 1000000 in
theorem storeNone_lifted (os : Os) (started : os.Started) (H : Type) (enc : TypeId × Value → H) :
    ReturnsInHanded {} Tryz.checked os 7 .any (fun w args => (Rows.storeNoneSpec.pre enc Tryz.prog Tryz.f7 [] false w args ∧ laidMetH Tryz.prog Rows.storeNoneRow.laid w) ∧ sizedMet enc Tryz.prog Tryz.f7 (OpenSpec.ofChange Rows.storeNoneSpec) false w args) (Rows.storeNoneSpec.post enc Tryz.prog Tryz.f7 false true false false) := by
  refine returnsInHanded_of_change_and (C := Tryz.checked) (X := fun w _ => laidMetH Tryz.prog Rows.storeNoneRow.laid w) (fun _ _ _ hh h => h.of_heap hh) own started (by kernel_rfl) Tryz.func7
    (ChangeSpec.witness_at (enc := enc) (C := Tryz.checked) (os := os) (X := fun w _ => laidMetH Tryz.prog Rows.storeNoneRow.laid w) false (laidWorld os) #[.agg #[.int .i64 0, .int .i64 0, .int .i64 0, .int .i64 0, .int .u64 0, .int .u64 0, .bool false, .slice none 0 0, .slice none 0 0], .agg #[.int .i64 0, .slice none 0 0, .slice none 0 0, .slice none 0 0, .slice none 0 0]] 8 rfl (by kernel_rfl) (by kernel_rfl) (by kernel_rfl) (by kernel_rfl) (by kernel_rfl) (laidWorld_met os _)) ?_
  intro W base args ds gs before hval0 hW _ _ hL _
  have hval : ∀ (j : Nat) t v, Tryz.f7.params[j]? = some t → args[j]? = some v → Value.okWide Tryz.prog W .any base t v := hval0
  have hW' := hW
  obtain ⟨p, q, hA0, hV, hpq, hfz, hnd⟩ := hW
  have hA : DataW.TrodAll enc Tryz.prog W 0 (fun _ => true) true Tryz.f7.params.toList args.toList ds p := hA0
  rw [Tryz.params7] at hA hval
  obtain ⟨v0, v1, d0, d1, q0, q1, rfl, rfl, rfl, h0, h1⟩ := trodAll_two hA
  obtain ⟨rfl, rfl⟩ := trodVars_none hV
  obtain ⟨a, hva⟩ := open_act (hval 0 _ v0 rfl rfl) h0
  obtain ⟨b, ⟨hb1, hb2⟩, hvb⟩ := open_program (hval 1 _ v1 rfl rfl) h1
  refine ((law_d a b hb1 hb2).out (zW W) W [v0, v1] (set_all hL) (fun _ _ _ h => h) (.cons hva (.cons hvb (.nil _)))).mono fun e W' ⟨v, z', he, ⟨hbe, _⟩, _, _, hr⟩ => ?_
  obtain rfl := hr.flat_eq rfl
  subst he
  exact ⟨_, rfl, post_law laidOut (by kernel_rfl) rfl hW' rfl rfl Tryz.underlying4 hbe⟩
end Go.Proofs.YtblaiilfoiefiaaGreatDoor
