
import Derived.Test.YtblaiilfoiefiaaGreatDoorXT44
namespace Go.Proofs.YtblaiilfoiefiaaGreatDoor
open Go Go.RowKit Go.Sort U
set_option linter.unusedVariables false
set_option linter.unusedSimpArgs false
set_option maxRecDepth 100000
set_option maxHeartbeats 4000000
theorem shapeN : DenU Tryz.prog [] 51 [.pointer none] (.tuple ⟨[.int .i64 0, .int .i64 0]⟩) := by
  refine denU_of_run hmixU rfl 100 20 20 fun Ts => ?_
  (repeat' ((conv => whnf); first | refine goD ?_ | refine U.lw_c (fun hb => ?_) (fun hb => ?_)))
  (conv => whnf)
  exact .same (.flat _ rfl) rfl
theorem shapeS (s : SZ) : DenU Tryz.prog [] 51 [stV s] (.tuple ⟨[.int .i64 s.slots.length, .int .i64 s.arrs.length]⟩) := by
  refine denU_of_body hmixU rfl Tryz.func51 rfl rfl rfl 0 ?_
  intro Ts
  (repeat' ((conv => whnf); first | refine goD ?_ | refine U.drawX_p (D := U.propX) 12 [] (by decide +kernel) (by decide +kernel) ?_ | refine U.lw_c (fun hb => ?_) (fun hb => ?_)))
  (conv => whnf)
  exact .same (.flat _ rfl) (by rw [← cL_len, ← cL_len]; rfl)
theorem isbotN : DenU Tryz.prog [] 53 [.pointer none] (.bool true) := by
  refine denU_of_run hmixU rfl 100 20 20 fun Ts => ?_
  (repeat' ((conv => whnf); first | refine goD ?_ | refine U.lw_c (fun hb => ?_) (fun hb => ?_)))
  (conv => whnf)
  exact .same (.flat _ rfl) rfl
theorem isbotS (s : SZ) : DenU Tryz.prog [] 53 [stV s] (.bool s.none) := by
  refine denU_of_run hmixU rfl 100 20 20 fun Ts => ?_
  (repeat' ((conv => whnf); first | refine goD ?_ | refine U.lw_c (fun hb => ?_) (fun hb => ?_)))
  all_goals (conv => whnf)
  exact .same (.flat _ rfl) rfl
theorem alikeS (s : SZ) : DenU Tryz.prog [] 129 [stV s, stV s] (.bool true) := by
  refine denU_of_body hmixU rfl Tryz.func129 rfl rfl rfl 0 ?_
  intro Ts
  have h1 := shapeS s
  have h2 := cleanStV s
  generalize stV s = sv at *
  (repeat' ((conv => whnf); first | refine goA ?_ | refine U.lw_t' (beq_self_eq_true _) ?_ | refine goB ?_ | refine ⟨_, h1, (by (repeat (first | exact trivial | ((conv => whnf); first | exact trivial | refine And.intro (by first | assumption | exact cleanI _ | exact cleanEs _ | exact cleanSs _ | exact cleanE _ | exact cleanIL _ | exact NoNm.flat _ rfl) ?_)))), tab0 _, ?_⟩ | refine U.lw_c (fun hb => ?_) (fun hb => ?_)))
  all_goals (conv => whnf)
  exact .same (.flat _ rfl) (congrArg Value.bool (by simp))
theorem mergedN (s : SZ) (g : FuncId) : DenU Tryz.prog [] 134 [.pointer none, stV s, .func (.func g) ⟨[]⟩ ⟨[]⟩] (stV s) := by
  refine denU_of_body hmixU rfl Tryz.func134 rfl rfl rfl 0 ?_
  intro Ts
  (repeat' ((conv => whnf); first | refine goD ?_ | refine U.lw_c (fun hb => ?_) (fun hb => ?_)))
  all_goals (conv => whnf)
  exact .clean _ (cleanStV s)
theorem mergedS (s : SZ) (g : FuncId) : DenU Tryz.prog [] 134 [stV s, .pointer none, .func (.func g) ⟨[]⟩ ⟨[]⟩] (stV s) := by
  refine denU_of_body hmixU rfl Tryz.func134 rfl rfl rfl 0 ?_
  intro Ts
  (repeat' ((conv => whnf); first | refine goD ?_ | refine U.lw_c (fun hb => ?_) (fun hb => ?_)))
  all_goals (conv => whnf)
  exact .clean _ (cleanStV s)
theorem mergedNN (g : FuncId) : DenU Tryz.prog [] 134 [.pointer none, .pointer none, .func (.func g) ⟨[]⟩ ⟨[]⟩] (.pointer none) := by
  refine denU_of_body hmixU rfl Tryz.func134 rfl rfl rfl 0 ?_
  intro Ts
  (repeat' ((conv => whnf); first | refine goD ?_ | refine U.lw_c (fun hb => ?_) (fun hb => ?_)))
  all_goals (conv => whnf)
  exact .same (.flat _ rfl) rfl
theorem widenS (s : SZ) : DenU Tryz.prog [] 52 [stV s, .pointer none] (stV s) := by
  refine denU_of_body hmixU rfl Tryz.func52 rfl rfl rfl 0 ?_
  intro Ts
  have h1 := mergedS s
  have h2 := cleanStV s
  generalize stV s = sv at *
  (repeat' ((conv => whnf); first | refine goD ?_ | refine ⟨_, h1 _, (by (repeat (first | exact trivial | ((conv => whnf); first | exact trivial | refine And.intro (by first | assumption | exact cleanI _ | exact cleanEs _ | exact cleanSs _ | exact cleanE _ | exact cleanIL _ | exact NoNm.flat _ rfl) ?_)))), tab0 _, ?_⟩ | refine U.lw_c (fun hb => ?_) (fun hb => ?_)))
  all_goals (conv => whnf)
  exact .clean _ h2
theorem join0 : DenU Tryz.prog [] 49 [.slice none 0 0] (.pointer none) := by
  refine denU_of_body hmixU rfl Tryz.func49 rfl rfl rfl 0 ?_
  intro Ts
  (repeat' ((conv => whnf); first | refine goD ?_ | refine U.lw_c (fun hb => ?_) (fun hb => ?_)))
  (conv => whnf)
  refine loop_inv (α := Unit) (fun _ => True) (fun _ => (mkF [(2, .pointer none), (3, .pointer none), (6, .slice none 0 0), (7, .int .i64 0), (8, .int .i64 0)], ⟨mkO [], 0, 0, 0⟩)) (fun _ => 0) () trivial (Cov.renI rfl rfl rfl rfl .nil (.cons rfl (.F rfl rfl) (.cons rfl (.F rfl rfl) (.cons rfl (.F rfl rfl) (.cons rfl (.F rfl rfl) (.cons rfl (.F rfl rfl) .nil)))))) ?_
  rintro _ _
  (repeat' ((conv => whnf); first | refine goD ?_ | refine U.lw_c (fun hb => ?_) (fun hb => ?_)))
  (conv => whnf)
  exact .same (.flat _ rfl) rfl
theorem joinN (s : SZ) : DenU Tryz.prog [] 49 [imS [.pointer none, stV s]] (stV s) := by
  refine denU_of_body hmixU rfl Tryz.func49 rfl rfl rfl 0 ?_
  intro Ts
  have hc := cleanStV s
  have h1 := fun g => mergedN s g
  have h2 := fun g => mergedNN g
  have hcl : NoNm (imS [.pointer none, stV s]) := .ims _ fun c hc => by
    have hc : c ∈ [Value.pointer none, stV s] := hc
    simp only [List.mem_cons, List.not_mem_nil, or_false] at hc
    rcases hc with rfl | rfl
    · exact .flat _ rfl
    · exact cleanStV s
  (repeat' ((conv => whnf); first | refine goD ?_ | refine U.lw_c (fun hb => ?_) (fun hb => ?_)))
  (conv => whnf)
  refine loop_inv (α := Nat) (fun i => i ≤ 2) (fun i => (mkF [(2, .pointer none), (3, if i = 2 then stV s else .pointer none), (6, imS [.pointer none, stV s]), (7, .int .i64 2), (8, .int .i64 i)], ⟨mkO [], 0, 0, 0⟩)) (fun i => 2 - i) 0 (by decide) (Cov.renI rfl rfl rfl rfl .nil (.cons rfl (.F rfl rfl) (.cons rfl (.F rfl rfl) (.cons rfl (.clean _ _ (hcl) rfl) (.cons rfl (.F rfl rfl) (.cons rfl .I .nil)))))) ?_
  have n0 : nth [Value.pointer none, stV s] 0 = some (.pointer none) := rfl
  have n1 : nth [Value.pointer none, stV s] 1 = some (stV s) := rfl
  intro i hi
  rcases (by omega : i = 2 ∨ i = 0 ∨ i = 1) with rfl | rfl | rfl
  · (repeat' ((conv => whnf); first | refine goD ?_ | refine U.lw_c (fun hb => ?_) (fun hb => ?_)))
    (conv => whnf)
    exact .clean _ hc
  · (repeat' ((conv => whnf); first | refine goD ?_ | refine ⟨_, h2 _, (by (repeat (first | exact trivial | ((conv => whnf); first | exact trivial | refine And.intro (by first | assumption | exact cleanI _ | exact cleanEs _ | exact cleanSs _ | exact cleanE _ | exact cleanIL _ | exact NoNm.flat _ rfl) ?_)))), tab0 _, ?_⟩ | refine U.lw_c (fun hb => ?_) (fun hb => ?_)))
    (conv => whnf)
    exact ⟨1, by decide, by decide, (Cov.renI rfl rfl rfl rfl .nil (.cons rfl (.F rfl rfl) (.cons rfl (.F rfl rfl) (.cons rfl (.clean _ _ (hcl) rfl) (.cons rfl (.F rfl rfl) (.cons rfl (.F rfl rfl) .nil))))))⟩
  · (repeat' ((conv => whnf); first | refine goD ?_ | refine ⟨_, h1 _, (by (repeat (first | exact trivial | ((conv => whnf); first | exact trivial | refine And.intro (by first | assumption | exact cleanI _ | exact cleanEs _ | exact cleanSs _ | exact cleanE _ | exact cleanIL _ | exact NoNm.flat _ rfl) ?_)))), tab0 _, ?_⟩ | refine U.lw_c (fun hb => ?_) (fun hb => ?_)))
    (conv => whnf)
    exact ⟨2, by decide, by decide, (Cov.renI rfl rfl rfl rfl .nil (.cons rfl (.F rfl rfl) (.cons rfl (.clean _ _ (hc) rfl) (.cons rfl (.clean _ _ (hcl) rfl) (.cons rfl (.F rfl rfl) (.cons rfl (.F rfl rfl) .nil))))))⟩
theorem insideS (c : CZ) : DenU Tryz.prog [] 130 [encC c, encC c] (.bool true) := by
  refine denU_of_body hmixU rfl Tryz.func130 rfl rfl rfl 0 ?_
  intro Ts
  obtain ⟨⟨lo, hi, m, r⟩, k⟩ := c
  (repeat' ((conv => whnf); first | refine goD ?_ | refine U.lw_c (fun hb => ?_) (fun hb => ?_)))
  refine U.ob_c (by kernel_rfl) ?_
  (repeat' ((conv => whnf); first | refine goD ?_ | refine U.lw_c (fun hb => ?_) (fun hb => ?_)))
  all_goals (conv => whnf)
  · exact .same (.flat _ rfl) rfl
  · exfalso
    simp at hb
theorem withinS (s : SZ) (hn : s.none = false) (h1 : s.slots.length ≤ maxI) (h2 : s.arrs.length ≤ maxI) : DenU Tryz.prog [] 46 [stV s, stV s] (.bool true) := by
  refine denU_of_body hmixU rfl Tryz.func46 rfl rfl rfl 0 ?_
  intro Ts
  have c1 := alikeS s
  have c2 := isbotS s
  rw [hn] at c2
  have hc := cleanStV s
  (repeat' ((conv => whnf); first | refine goD ?_ | refine ⟨_, c1, (by (repeat (first | exact trivial | ((conv => whnf); first | exact trivial | refine And.intro (by first | assumption | exact cleanI _ | exact cleanEs _ | exact cleanSs _ | exact cleanE _ | exact cleanIL _ | exact NoNm.flat _ rfl) ?_)))), tab0 _, ?_⟩ | refine ⟨_, c2, (by (repeat (first | exact trivial | ((conv => whnf); first | exact trivial | refine And.intro (by first | assumption | exact cleanI _ | exact cleanEs _ | exact cleanSs _ | exact cleanE _ | exact cleanIL _ | exact NoNm.flat _ rfl) ?_)))), tab0 _, ?_⟩ | refine U.lw_c (fun hb => ?_) (fun hb => ?_)))
  (conv => whnf)
  refine loop_inv (α := List CZ × List CZ) (fun x => x.1 ++ x.2 = s.slots) (fun x => (mkF [(0, stV s), (1, stV s), (4, .bool false), (5, .func (.func 130) ⟨[]⟩ ⟨[]⟩), (33, imS (cL s.slots)), (34, .int .i64 (cL s.slots).length), (35, .int .i64 x.1.length)], ⟨mkO [], 0, 0, 0⟩)) (fun x => x.2.length) ([], s.slots) rfl (Cov.renI rfl rfl rfl rfl .nil (.cons rfl (.clean _ _ (cleanStV s) rfl) (.cons rfl (.clean _ _ (cleanStV s) rfl) (.cons rfl (.F rfl rfl) (.cons rfl (.F rfl rfl) (.cons rfl (.clean _ _ (cleanCL _) rfl) (.cons rfl .I (.cons rfl .I .nil)))))))) ?_
  rintro ⟨pre, rest⟩ p1
  dsimp only at p1
  rcases rest with _ | ⟨c, rest⟩
  · rw [List.append_nil] at p1
    have zb : decide ((pre.length : Int) < ((cL s.slots).length : Int)) = false := by rw [← p1]; exact U.lt_no cL_map pre
    dsimp only
    (repeat' ((conv => whnf); first | refine goD ?_ | refine U.lw_c (fun hb => ?_) (fun hb => ?_)))
    (conv => whnf)
    refine loop_inv (α := List CZ × List CZ) (fun x => x.1 ++ x.2 = s.arrs) (fun x => (mkF [(0, stV s), (1, stV s), (4, .bool false), (5, .func (.func 130) ⟨[]⟩ ⟨[]⟩), (55, imS (cL s.arrs)), (56, .int .i64 (cL s.arrs).length), (57, .int .i64 x.1.length)], ⟨mkO [], 0, 0, 0⟩)) (fun x => x.2.length) ([], s.arrs) rfl (Cov.renI rfl rfl rfl rfl .nil (.cons rfl (.clean _ _ (cleanStV s) rfl) (.cons rfl (.clean _ _ (cleanStV s) rfl) (.cons rfl (.F rfl rfl) (.cons rfl (.F rfl rfl) (.cons rfl (.clean _ _ (cleanCL _) rfl) (.cons rfl .I (.cons rfl .I .nil)))))))) ?_
    rintro ⟨pre2, rest2⟩ p2
    dsimp only at p2
    rcases rest2 with _ | ⟨c, rest2⟩
    · rw [List.append_nil] at p2
      have zb2 : decide ((pre2.length : Int) < ((cL s.arrs).length : Int)) = false := by rw [← p2]; exact U.lt_no cL_map pre2
      dsimp only
      (repeat' ((conv => whnf); first | refine goD ?_ | refine U.lw_c (fun hb => ?_) (fun hb => ?_)))
      (conv => whnf)
      exact .same (.flat _ rfl) rfl
    · have zb2 := U.lt_yes cL_map pre2 c rest2
      have zc2 := U.blt_yes cL_map pre2 c rest2
      have zn2 := U.nth_at cL_map pre2 c rest2
      have zw2 := U.len_snoc (pre := pre2) (x := c) (post := rest2) (by rw [p2]; exact h2)
      rw [p2] at zb2 zc2 zn2
      have c3 := insideS c
      have hcc := cleanC c
      dsimp only
      (repeat' ((conv => whnf); first | refine goD ?_ | refine ⟨_, c3, (by (repeat (first | exact trivial | ((conv => whnf); first | exact trivial | refine And.intro (by first | assumption | exact cleanI _ | exact cleanEs _ | exact cleanSs _ | exact cleanE _ | exact cleanIL _ | exact NoNm.flat _ rfl) ?_)))), tab0 _, ?_⟩ | refine U.drawX_p (D := U.propX) 11 [] (by decide +kernel) (by decide +kernel) ?_ | refine U.lw_c (fun hb => ?_) (fun hb => ?_)))
      (conv => whnf)
      exact ⟨(pre2 ++ [c], rest2), by rw [← p2]; simp, by simp, (Cov.renI rfl rfl rfl rfl .nil (.cons rfl (.clean _ _ (cleanStV s) rfl) (.cons rfl (.clean _ _ (cleanStV s) rfl) (.cons rfl (.F rfl rfl) (.cons rfl (.F rfl rfl) (.cons rfl (.clean _ _ (cleanCL _) rfl) (.cons rfl .I (.cons rfl (.clean _ _ (cleanI _) (congrArg (Value.int .i64) (zw2.symm))) .nil))))))))⟩
  · have zb := U.lt_yes cL_map pre c rest
    have zc := U.blt_yes cL_map pre c rest
    have zn := U.nth_at cL_map pre c rest
    have zw := U.len_snoc (pre := pre) (x := c) (post := rest) (by rw [p1]; exact h1)
    rw [p1] at zb zc zn
    have c3 := insideS c
    have hcc := cleanC c
    dsimp only
    (repeat' ((conv => whnf); first | refine goD ?_ | refine ⟨_, c3, (by (repeat (first | exact trivial | ((conv => whnf); first | exact trivial | refine And.intro (by first | assumption | exact cleanI _ | exact cleanEs _ | exact cleanSs _ | exact cleanE _ | exact cleanIL _ | exact NoNm.flat _ rfl) ?_)))), tab0 _, ?_⟩ | refine U.drawX_p (D := U.propX) 11 [] (by decide +kernel) (by decide +kernel) ?_ | refine U.lw_c (fun hb => ?_) (fun hb => ?_)))
    (conv => whnf)
    exact ⟨(pre ++ [c], rest), by rw [← p1]; simp, by simp, (Cov.renI rfl rfl rfl rfl .nil (.cons rfl (.clean _ _ (cleanStV s) rfl) (.cons rfl (.clean _ _ (cleanStV s) rfl) (.cons rfl (.F rfl rfl) (.cons rfl (.F rfl rfl) (.cons rfl (.clean _ _ (cleanCL _) rfl) (.cons rfl .I (.cons rfl (.clean _ _ (cleanI _) (congrArg (Value.int .i64) (zw.symm))) .nil))))))))⟩
theorem withinNS (s : SZ) : DenU Tryz.prog [] 46 [.pointer none, stV s] (.bool true) := by
  refine denU_of_body hmixU rfl Tryz.func46 rfl rfl rfl 0 ?_
  intro Ts
  have c1 := isbotN
  (repeat' ((conv => whnf); first | refine goD ?_ | refine ⟨_, c1, (by (repeat (first | exact trivial | ((conv => whnf); first | exact trivial | refine And.intro (by first | assumption | exact cleanI _ | exact cleanEs _ | exact cleanSs _ | exact cleanE _ | exact cleanIL _ | exact NoNm.flat _ rfl) ?_)))), tab0 _, ?_⟩ | refine U.lw_c (fun hb => ?_) (fun hb => ?_)))
  all_goals (conv => whnf)
  exact .same (.flat _ rfl) rfl
theorem withinSN (s : SZ) (hn : s.none = false) : DenU Tryz.prog [] 46 [stV s, .pointer none] (.bool false) := by
  refine denU_of_body hmixU rfl Tryz.func46 rfl rfl rfl 0 ?_
  intro Ts
  have c1 := isbotN
  have c2 := isbotS s
  rw [hn] at c2
  have hc := cleanStV s
  (repeat' ((conv => whnf); first | refine goD ?_ | refine ⟨_, c1, (by (repeat (first | exact trivial | ((conv => whnf); first | exact trivial | refine And.intro (by first | assumption | exact cleanI _ | exact cleanEs _ | exact cleanSs _ | exact cleanE _ | exact cleanIL _ | exact NoNm.flat _ rfl) ?_)))), tab0 _, ?_⟩ | refine ⟨_, c2, (by (repeat (first | exact trivial | ((conv => whnf); first | exact trivial | refine And.intro (by first | assumption | exact cleanI _ | exact cleanEs _ | exact cleanSs _ | exact cleanE _ | exact cleanIL _ | exact NoNm.flat _ rfl) ?_)))), tab0 _, ?_⟩ | refine U.lw_c (fun hb => ?_) (fun hb => ?_)))
  all_goals (conv => whnf)
  exact .same (.flat _ rfl) rfl
theorem withinNN : DenU Tryz.prog [] 46 [.pointer none, .pointer none] (.bool true) := by
  refine denU_of_body hmixU rfl Tryz.func46 rfl rfl rfl 0 ?_
  intro Ts
  have c1 := isbotN
  (repeat' ((conv => whnf); first | refine goD ?_ | refine ⟨_, c1, (by (repeat (first | exact trivial | ((conv => whnf); first | exact trivial | refine And.intro (by first | assumption | exact cleanI _ | exact cleanEs _ | exact cleanSs _ | exact cleanE _ | exact cleanIL _ | exact NoNm.flat _ rfl) ?_)))), tab0 _, ?_⟩ | refine U.lw_c (fun hb => ?_) (fun hb => ?_)))
  all_goals (conv => whnf)
  exact .same (.flat _ rfl) rfl
theorem sameS (s : SZ) (hn : s.none = false) (h1 : s.slots.length ≤ maxI) (h2 : s.arrs.length ≤ maxI) : DenU Tryz.prog [] 48 [stV s, stV s] (.bool true) := by
  refine denU_of_body hmixU rfl Tryz.func48 rfl rfl rfl 0 ?_
  intro Ts
  have c1 := withinS s hn h1 h2
  have hc := cleanStV s
  (repeat' ((conv => whnf); first | refine goD ?_ | refine ⟨_, c1, (by (repeat (first | exact trivial | ((conv => whnf); first | exact trivial | refine And.intro (by first | assumption | exact cleanI _ | exact cleanEs _ | exact cleanSs _ | exact cleanE _ | exact cleanIL _ | exact NoNm.flat _ rfl) ?_)))), tab0 _, ?_⟩ | refine U.lw_c (fun hb => ?_) (fun hb => ?_)))
  all_goals (conv => whnf)
  exact .same (.flat _ rfl) rfl
theorem sameN : DenU Tryz.prog [] 48 [.pointer none, .pointer none] (.bool true) := by
  refine denU_of_body hmixU rfl Tryz.func48 rfl rfl rfl 0 ?_
  intro Ts
  have c1 := withinNN
  (repeat' ((conv => whnf); first | refine goD ?_ | refine ⟨_, c1, (by (repeat (first | exact trivial | ((conv => whnf); first | exact trivial | refine And.intro (by first | assumption | exact cleanI _ | exact cleanEs _ | exact cleanSs _ | exact cleanE _ | exact cleanIL _ | exact NoNm.flat _ rfl) ?_)))), tab0 _, ?_⟩ | refine U.lw_c (fun hb => ?_) (fun hb => ?_)))
  all_goals (conv => whnf)
  exact .same (.flat _ rfl) rfl
def nilC : CZ := ⟨botZ, false⟩
theorem getN (a : Int) : DenU Tryz.prog [] 54 [.pointer none, .int .i64 a] (encC nilC) := by
  refine denU_of_run hmixU rfl 100 20 20 fun Ts => ?_
  (repeat' ((conv => whnf); first | refine goD ?_ | refine U.lw_c (fun hb => ?_) (fun hb => ?_)))
  all_goals (conv => whnf)
  exact .same (.flat _ rfl) rfl
theorem loadN (a : Int) : DenU Tryz.prog [] 56 [.pointer none, .int .i64 a] (encC nilC) := by
  refine denU_of_run hmixU rfl 100 20 20 fun Ts => ?_
  (repeat' ((conv => whnf); first | refine goD ?_ | refine U.lw_c (fun hb => ?_) (fun hb => ?_)))
  all_goals (conv => whnf)
  exact .same (.flat _ rfl) rfl
theorem setN (a : Int) (c : CZ) : DenU Tryz.prog [] 57 [.pointer none, .int .i64 a, encC c] (.pointer none) := by
  refine denU_of_body hmixU rfl Tryz.func57 rfl rfl rfl 0 ?_
  intro Ts
  have c1 := isbotN
  (repeat' ((conv => whnf); first | refine goD ?_ | refine ⟨_, c1, (by (repeat (first | exact trivial | ((conv => whnf); first | exact trivial | refine And.intro (by first | assumption | exact cleanI _ | exact cleanEs _ | exact cleanSs _ | exact cleanE _ | exact cleanIL _ | exact NoNm.flat _ rfl) ?_)))), tab0 _, ?_⟩ | refine U.drawX_p (D := U.propX) 15 [] (by decide +kernel) (by decide +kernel) ?_ | refine U.lw_c (fun hb => ?_) (fun hb => ?_)))
  all_goals (conv => whnf)
  exact .same (.flat _ rfl) rfl
theorem putN (a : Int) (c : CZ) : DenU Tryz.prog [] 58 [.pointer none, .int .i64 a, encC c] (.pointer none) := by
  refine denU_of_body hmixU rfl Tryz.func58 rfl rfl rfl 0 ?_
  intro Ts
  have c1 := isbotN
  (repeat' ((conv => whnf); first | refine goD ?_ | refine ⟨_, c1, (by (repeat (first | exact trivial | ((conv => whnf); first | exact trivial | refine And.intro (by first | assumption | exact cleanI _ | exact cleanEs _ | exact cleanSs _ | exact cleanE _ | exact cleanIL _ | exact NoNm.flat _ rfl) ?_)))), tab0 _, ?_⟩ | refine U.drawX_p (D := U.propX) 15 [] (by decide +kernel) (by decide +kernel) ?_ | refine U.lw_c (fun hb => ?_) (fun hb => ?_)))
  all_goals (conv => whnf)
  exact .same (.flat _ rfl) rfl
theorem restrictN (a : Int) (v : VZ) : DenU Tryz.prog [] 59 [.pointer none, .int .i64 a, encV v] (.pointer none) := by
  refine denU_of_body hmixU rfl Tryz.func59 rfl rfl rfl 0 ?_
  intro Ts
  have c1 := isbotN
  (repeat' ((conv => whnf); first | refine goD ?_ | refine ⟨_, c1, (by (repeat (first | exact trivial | ((conv => whnf); first | exact trivial | refine And.intro (by first | assumption | exact cleanI _ | exact cleanEs _ | exact cleanSs _ | exact cleanE _ | exact cleanIL _ | exact NoNm.flat _ rfl) ?_)))), tab0 _, ?_⟩ | refine U.drawX_p (D := U.propX) 15 [] (by decide +kernel) (by decide +kernel) ?_ | refine U.lw_c (fun hb => ?_) (fun hb => ?_)))
  all_goals (conv => whnf)
  exact .same (.flat _ rfl) rfl
theorem havocN (x : Value) (b : Bool) : DenU Tryz.prog [] 60 [.pointer none, .agg ⟨[.slice none 0 0, .slice none 0 0]⟩, .bool b] (.pointer none) := by
  refine denU_of_run hmixU rfl 100 20 20 fun Ts => ?_
  (repeat' ((conv => whnf); first | refine goD ?_ | refine U.lw_c (fun hb => ?_) (fun hb => ?_)))
  all_goals (conv => whnf)
  exact .same (.flat _ rfl) rfl
theorem markN : DenU Tryz.prog [] 61 [.pointer none, .agg ⟨[.slice none 0 0, .slice none 0 0]⟩] (.pointer none) := by
  refine denU_of_run hmixU rfl 100 20 20 fun Ts => ?_
  (repeat' ((conv => whnf); first | refine goD ?_ | refine U.lw_c (fun hb => ?_) (fun hb => ?_)))
  all_goals (conv => whnf)
  exact .same (.flat _ rfl) rfl
theorem hasN : DenU Tryz.prog [] 62 [.pointer none, .pointer none] (.bool false) := by
  refine denU_of_run hmixU rfl 100 20 20 fun Ts => ?_
  (repeat' ((conv => whnf); first | refine goD ?_ | refine U.lw_c (fun hb => ?_) (fun hb => ?_)))
  all_goals (conv => whnf)
  exact .same (.flat _ rfl) rfl
theorem vbot_d : DenU Tryz.prog [] 55 [encV botZ] (.bool true) := denU_of_run hmixU rfl 100 20 20 fun Ts => by
  (repeat' ((conv => whnf); first | refine goD ?_ | refine U.lw_c (fun hb => ?_) (fun hb => ?_)))
  refine U.ob_c (by kernel_rfl) ?_
  (repeat' ((conv => whnf); first | refine goD ?_ | refine U.lw_c (fun hb => ?_) (fun hb => ?_)))
  all_goals (conv => whnf)
  exact .same (.flat _ rfl) rfl
end Go.Proofs.YtblaiilfoiefiaaGreatDoor
