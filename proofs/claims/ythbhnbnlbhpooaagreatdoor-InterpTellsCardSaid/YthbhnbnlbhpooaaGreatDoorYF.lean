/- InterpTells, for every two results and every number: results are compared as the reference says, endings named; they stay. No condition but the table. -/
import Derived.Test.YthbhnbnlbhpooaaGreatDoorYE
import Derived.Test.YthbhnbnlbhpooaaGreatDoorHS
import Derived.Test.YthbhnbnlbhpooaaGreatDoorP
import Derived.Test.YthbhnbnlbhpooaaGreatDoorCards
import Derived.Test.YthbhnbnlbhpooaaGreatDoorTie
import Derived.SevenTiedAt
import Derived.Handed
namespace Go.Proofs.YthbhnbnlbhpooaaGreatDoor
open Go Go.ChangeShapes Go.WideShapes Go.ChangeAt Go.RowKit Go.Joins U
set_option linter.unusedVariables false
set_option linter.unusedSimpArgs false
set_option maxRecDepth 100000

def tysR : List TypeId := [27, 22, 23, 2, 24, 66, 3, 4, 25]
theorem tysR_ok : okTys Tryz.prog tysR = true := by kernel_rfl
theorem cells_Res : Tryz.prog.cellsOf 27 = 4 := by kernel_rfl
theorem cells_Bra : Tryz.prog.cellsOf 66 = 2 := by kernel_rfl
theorem datF_int {t : TypeId} {k : IntKind} (ht : Tryz.prog.underlying t = some (.int k)) {n : Nat} {us : List Value} (h : DatF Tryz.prog n t us) : ∃ m, us = [.int k m] := by
  cases n with
  | zero => exact h.elim
  | succ n =>
    unfold DatF at h
    rw [ht] at h
    obtain ⟨m, h, _⟩ := h
    exact ⟨m, h⟩
theorem datF_bool {t : TypeId} (ht : Tryz.prog.underlying t = some .bool) {n : Nat} {us : List Value} (h : DatF Tryz.prog n t us) : ∃ m, us = [.bool m] := by
  cases n with
  | zero => exact h.elim
  | succ n =>
    unfold DatF at h
    rw [ht] at h
    exact h
theorem datF_row {t e : TypeId} (ht : Tryz.prog.underlying t = some (.slice e)) {n : Nat} {us : List Value} (h : DatF Tryz.prog n t us) : ∃ (k : Nat) (rows : List (List Value)), n = k + 1 ∧ us = [imS (rows.map (packV Tryz.prog e))] ∧ rows.length ≤ maxLen ∧ ∀ r ∈ rows, r.length = Tryz.prog.cellsOf e ∧ DatF Tryz.prog k e r := by
  cases n with
  | zero => exact h.elim
  | succ n =>
    unfold DatF at h
    rw [ht] at h
    obtain ⟨rows, h⟩ := h
    exact ⟨n, rows, rfl, h⟩
theorem ints_data {n : Nat} {us : List Value} (h : DatF Tryz.prog n 23 us) : ∃ l : List Int, l.length ≤ maxI ∧ us = [imS (iL l)] := by
  obtain ⟨k, rows, rfl, rfl, hl, hr⟩ := datF_row Tryz.underlying23 h
  obtain ⟨l, _, rfl⟩ := all_map (p := fun _ => True) (g := fun m : Int => [Value.int .i64 m]) rows fun r hr' => by
    obtain ⟨m, hm⟩ := datF_int Tryz.underlying2 (hr r hr').2
    exact ⟨m, trivial, hm⟩
  refine ⟨l, by rw [List.length_map] at hl; exact hl, ?_⟩
  rw [List.map_map]
  congr 2
theorem branch_data {n : Nat} {us : List Value} (h : DatF Tryz.prog n 66 us) : ∃ b : Int × Bool, us = cellsOf (encB b) := by
  cases n with
  | zero => exact h.elim
  | succ n =>
    unfold DatF at h
    rw [Tryz.underlying66] at h
    obtain ⟨hl, h⟩ := h
    rw [cells_Bra] at hl
    obtain ⟨c0, c1, rfl⟩ : ∃ c0 c1, us = [c0, c1] := by match us, hl with | [c0, c1], _ => exact ⟨c0, c1, rfl⟩
    have h0 := h _ (List.mem_cons_self ..)
    have h1 := h _ (List.mem_cons_of_mem _ (List.mem_cons_self ..))
    obtain ⟨m0, e0⟩ := datF_int Tryz.underlying3 h0
    obtain ⟨m1, e1⟩ := datF_bool Tryz.underlying4 h1
    replace e0 : [c0] = _ := e0
    replace e1 : [c1] = _ := e1
    simp only [List.cons.injEq, and_true] at e0 e1
    subst e0 e1
    exact ⟨(m0, m1), rfl⟩
theorem branches_data {n : Nat} {us : List Value} (h : DatF Tryz.prog n 24 us) : ∃ l : List (Int × Bool), l.length ≤ maxI ∧ us = [imS (bL l)] := by
  obtain ⟨k, rows, rfl, rfl, hl, hr⟩ := datF_row Tryz.underlying24 h
  obtain ⟨l, _, rfl⟩ := all_map (p := fun _ => True) (g := fun b => cellsOf (encB b)) rows fun r hr' => by
    obtain ⟨m, hm⟩ := branch_data (hr r hr').2
    exact ⟨m, trivial, hm⟩
  refine ⟨l, by rw [List.length_map] at hl; exact hl, ?_⟩
  rw [List.map_map]
  congr 2
theorem result_data {n : Nat} {us : List Value} (h : DatF Tryz.prog n 27 us) : ∃ r : Rz, okR r ∧ us = cellsOf (encR r) := by
  cases n with
  | zero => exact h.elim
  | succ n =>
    unfold DatF at h
    rw [Tryz.underlying27] at h
    obtain ⟨hl, h⟩ := h
    rw [cells_Res] at hl
    obtain ⟨c0, c1, c2, c3, rfl⟩ : ∃ c0 c1 c2 c3, us = [c0, c1, c2, c3] := by match us, hl with | [c0, c1, c2, c3], _ => exact ⟨c0, c1, c2, c3, rfl⟩
    have h0 := h _ (List.mem_cons_self ..)
    have h1 := h _ (List.mem_cons_of_mem _ (List.mem_cons_self ..))
    have h2 := h _ (List.mem_cons_of_mem _ (List.mem_cons_of_mem _ (List.mem_cons_self ..)))
    have h3 := h _ (List.mem_cons_of_mem _ (List.mem_cons_of_mem _ (List.mem_cons_of_mem _ (List.mem_cons_self ..))))
    obtain ⟨m0, e0⟩ := datF_int Tryz.underlying22 h0
    obtain ⟨m1, k1, e1⟩ := ints_data h1
    obtain ⟨m2, k2, e2⟩ := branches_data h2
    obtain ⟨m3, e3⟩ := datF_int Tryz.underlying25 h3
    replace e0 : [c0] = _ := e0
    replace e1 : [c1] = _ := e1
    replace e2 : [c2] = _ := e2
    replace e3 : [c3] = _ := e3
    simp only [List.cons.injEq, and_true] at e0 e1 e2 e3
    subst e0 e1 e2 e3
    exact ⟨⟨m0, m1, m2, m3⟩, ⟨k1, k2⟩, rfl⟩
/-- A result that came in. -/
theorem open_result {H : Type} {enc : TypeId × Value → H} {W : World} {v : Value} {d : DataW H} {p : List MemPlace} {b0 base : Nat} {r : Reach} {held : Bool} (hv : Value.okWide Tryz.prog W r b0 27 v) (h : DataW.Trod enc Tryz.prog W base (fun _ => true) held 27 v d p) : ∃ s : Rz, okR s ∧ VR (bz W) (encR s) v := by
  obtain ⟨cs, rfl, _⟩ := okWide_struct Tryz.underlying27 hv
  obtain ⟨fuel, hf⟩ := h
  obtain ⟨us, h1, h2, _⟩ := open_data tysR_ok fuel _ _ _ (List.mem_cons_self ..) hf
  obtain ⟨s, h3, rfl⟩ := result_data h1
  refine ⟨s, h3, ?_⟩
  obtain ⟨l⟩ := cs
  exact .agg _ _ h2.1 h2.2

theorem glob_kw : Tryz.prog.globalNamed "sieveholes/ast.keywords" = some 2 := by kernel_rfl
theorem type_kw : (Tryz.prog.globals[2]?).map (·.type) = some 209 := by kernel_rfl
theorem set_kw {W : World} (h : laidMetH Tryz.prog Rows.interpTellsRow.laid W) : gSet kwT W := by
  have e : (Rows.interpTellsRow.laid.filter fun x => x.2.handleName?.isNone) = [("sieveholes/ast.keywords", strData kwB)] := by kernel_rfl
  have h2 := (laidMetH_iff.1 h).1
  rw [e] at h2
  obtain ⟨ps, h3, _⟩ := h2
  intro x hx
  rw [kwT, List.mem_singleton] at hx
  subst hx
  exact laid_strs (bs := kwB) glob_kw type_kw Tryz.underlying209 Tryz.underlying9 (by kernel_rfl) (by kernel_rfl) h3 (by simp)
noncomputable def laidWorld (os : Os) : World :=
  { World.holding Tryz.prog os ⟨#[], #[], []⟩ with heap := layAt 2 Rows.laid_sieveholes_ast_keywords (World.holding Tryz.prog os ⟨#[], #[], []⟩).heap }
theorem laidWorld_met (os : Os) (args : Array Value) : laidMetH Tryz.prog Rows.interpTellsRow.laid ((laidWorld os).forCall (fun _ _ => 0) ⟨#[], args, []⟩).memory :=
  laidMetH_of_parts (laidMet_of_run' 8 (by kernel_rfl) (by kernel_rfl)) (by kernel_rfl)

set_option maxHeartbeats 1000000 in
theorem interpTells_lifted (os : Os) (started : os.Started) (H : Type) (enc : TypeId × Value → H) :
    ReturnsInHanded {} Tryz.checked os 3 .any (fun w args => (Rows.interpTellsSpec.pre enc Tryz.prog Tryz.f3 [] false w args ∧ laidMetH Tryz.prog Rows.interpTellsRow.laid w) ∧ sizedMet enc Tryz.prog Tryz.f3 (OpenSpec.ofChange Rows.interpTellsSpec) false w args) (Rows.interpTellsSpec.post enc Tryz.prog Tryz.f3 false true false false) := by
  refine returnsInHanded_of_change_and (C := Tryz.checked) (X := fun w _ => laidMetH Tryz.prog Rows.interpTellsRow.laid w) (fun _ _ _ hh h => h.of_heap hh) own started (by kernel_rfl) Tryz.func3
    (ChangeSpec.witness_at (enc := enc) (C := Tryz.checked) (os := os) (X := fun w _ => laidMetH Tryz.prog Rows.interpTellsRow.laid w) false (laidWorld os) #[.agg #[.int .i64 0, .slice none 0 0, .slice none 0 0, .int .u64 0], .agg #[.int .i64 0, .slice none 0 0, .slice none 0 0, .int .u64 0], .int .i64 0] 8 rfl (by kernel_rfl) (by kernel_rfl) (by kernel_rfl) (by kernel_rfl) (by kernel_rfl) (laidWorld_met os _)) ?_
  intro W base args ds gs before hval0 hW _ _ hL _
  have hval : ∀ (j : Nat) t v, Tryz.f3.params[j]? = some t → args[j]? = some v → Value.okWide Tryz.prog W .any base t v := hval0
  have hW' := hW
  obtain ⟨p, q, hA0, hV, hpq, hfz, hnd⟩ := hW
  have hA : DataW.TrodAll enc Tryz.prog W 0 (fun _ => true) true Tryz.f3.params.toList args.toList ds p := hA0
  rw [Tryz.params3] at hA hval
  obtain ⟨v0, v1, v2, d0, d1, d2, q0, q1, q2, rfl, rfl, rfl, h0, h1, h2⟩ := trodAll_three hA
  obtain ⟨rfl, rfl⟩ := trodVars_none hV
  obtain ⟨a, ha, hva⟩ := open_result (hval 0 _ v0 rfl rfl) h0
  obtain ⟨b, hb, hvb⟩ := open_result (hval 1 _ v1 rfl rfl) h1
  obtain ⟨x, rfl⟩ := okWide_int Tryz.underlying3 (hval 2 _ v2 rfl rfl)
  refine ((tellsLaw_d a b x ha hb).out (zW W) W [v0, v1, .int .i64 x] (set_kw hL) (fun _ _ _ h => h) (.cons hva (.cons hvb (.cons (.of_flat _ rfl) (.nil _))))).mono fun e W' ⟨v, z', he, hbe, _, _, hr⟩ => ?_
  obtain rfl := hr.flat_eq rfl
  subst he
  exact ⟨_, rfl, post_law laidOut (by kernel_rfl) rfl hW' rfl rfl Tryz.underlying4 hbe⟩

set_option maxHeartbeats 1000000 in
theorem interpTells_holds : Rows.InterpTellsSaid :=
  OpenClaim.holds_of_wide 3 Tryz.f3 rfl rfl rfl rfl rfl rfl rfl ⟨rfl, rfl, rfl, rfl, rfl⟩ rfl rfl rfl rfl rfl (by kernel_rfl) Tryz.func3 (by kernel_rfl)
    (of_decide_eq_true (by kernel_rfl)) (by unfold Func.isWrapper; rw [if_neg (of_decide_eq_false (by kernel_rfl))]; exact ⟨rfl, rfl⟩)
    (fun os started H enc _ => interpTells_lifted os started H enc)

set_option maxHeartbeats 1000000 in
theorem interpTells_card_holds : Rows.InterpTellsCardSaid :=
  Claim7.holds_tied_plain_at .later [] [.data] true (true, "c485867d9d2154bebcd3a5747c72151e6b41c3d40131280c1553e13babdf2982") true
    interpTells_holds (fun _ h => by cases h) (by kernel_rfl) (fun _ h => by cases h) interpTells_row_tie rfl ⟨rfl, rfl⟩ (by kernel_rfl) rfl
    (fun f fn hf hfn => by
      obtain rfl : f = 3 := Option.some.inj ((show Tryz.prog.funcNamed "sieveholes/sieveholeslaw16.InterpTells" = some 3 by kernel_rfl).symm.trans hf) |>.symm
      obtain rfl : fn = Tryz.f3 := (Option.some.inj (Tryz.func3.symm.trans hfn)).symm
      exact ⟨by kernel_rfl, fun j t ht => by
        have hall : (Tryz.f3.params.toList.all fun t => !Tryz.pinned.checked.prog.wantsStandIn t) = true := by kernel_rfl
        have := List.all_eq_true.1 hall t (by rw [← Array.getElem?_toList] at ht; exact List.mem_of_getElem? ht)
        simpa using this⟩)
    (by kernel_rfl)
#print axioms interpTells_card_holds
end Go.Proofs.YthbhnbnlbhpooaaGreatDoor
