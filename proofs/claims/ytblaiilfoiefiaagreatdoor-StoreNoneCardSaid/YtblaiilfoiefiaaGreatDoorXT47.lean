
import Derived.Test.YtblaiilfoiefiaaGreatDoorXT46
namespace Go.Proofs.YtblaiilfoiefiaaGreatDoor
open Go Go.RowKit Go.Sort U
set_option linter.unusedVariables false
set_option linter.unusedSimpArgs false
set_option maxRecDepth 100000
set_option maxHeartbeats 4000000
structure OkP (p : Pg) : Prop where
  arrs : p.arrs.length ≤ maxI
  ins : p.ins.length ≤ maxI
  procs : p.procs.length ≤ maxI
  bodies : ∀ x ∈ p.procs, okSs x.body ∧ x.body.length ≤ maxI ∧ x.ps.length ≤ maxI
  main : okSs p.main ∧ p.main.length ≤ maxI
def fewGo : List Pr13 → Int → Int → Bool
  | [], m, n => decide (n ≤ m)
  | x :: l, m, n => if n ≤ m then (if 20 < x.ps.length then false else fewGo l m (IntKind.i64.wrap (n + cntL x.body (IntKind.i64.wrap (m - n)) 30))) else false
def fewP (p : Pg) (m : Int) : Bool := if 20 < p.arrs.length ∨ 20 < p.ins.length ∨ 20 < p.procs.length then false else fewGo p.procs m (cntL p.main m 30)
theorem fewIr_d (p : Pg) (m : Int) (hok : OkP p) : DenU Tryz.prog [] 8 [encP p, .int .i64 m] (.bool (fewP p m)) := by
  refine denU_of_body hmixU rfl Tryz.func8 rfl rfl rfl 0 ?_
  intro Ts
  obtain ⟨o1, o2, o3, o4, o5, o6⟩ := hok
  obtain ⟨sl, arrs, ins, procs, main⟩ := p
  dsimp only at *
  have e1 := iL_len arrs
  have e2 := inL_len ins
  have e3 := prL_len procs
  have c1 := irStmts_all (szSs main) main (Nat.le_refl _) o5 o6 m 30
  have hcl := cleanSs main
  by_cases hbig : 20 < arrs.length ∨ 20 < ins.length ∨ 20 < procs.length
  · rw [show fewP ⟨sl, arrs, ins, procs, main⟩ m = false from if_pos hbig]
    generalize cntL main m 30 = c0 at c1
    by_cases b1 : 20 < arrs.length
    · have g1 : decide (((iL arrs).length : Int) > 20) = true := decide_eq_true (by rw [e1]; omega)
      (repeat' ((conv => whnf); first | refine goD ?_ | refine U.lw_c (fun hb => ?_) (fun hb => ?_)))
      (conv => whnf)
      exact .same (.flat _ rfl) rfl
    · have g1 : decide (((iL arrs).length : Int) > 20) = false := decide_eq_false (by rw [e1]; omega)
      by_cases b2 : 20 < ins.length
      · have g2 : decide (((inL ins).length : Int) > 20) = true := decide_eq_true (by rw [e2]; omega)
        (repeat' ((conv => whnf); first | refine goD ?_ | refine U.lw_c (fun hb => ?_) (fun hb => ?_)))
        (conv => whnf)
        exact .same (.flat _ rfl) rfl
      · have g2 : decide (((inL ins).length : Int) > 20) = false := decide_eq_false (by rw [e2]; omega)
        have g3 : decide (((prL procs).length : Int) > 20) = true := decide_eq_true (by rw [e3]; omega)
        (repeat' ((conv => whnf); first | refine goD ?_ | refine U.lw_c (fun hb => ?_) (fun hb => ?_)))
        (conv => whnf)
        exact .same (.flat _ rfl) rfl
  · rw [show fewP ⟨sl, arrs, ins, procs, main⟩ m = fewGo procs m (cntL main m 30) from if_neg hbig]
    have g1 : decide (((iL arrs).length : Int) > 20) = false := decide_eq_false (by rw [e1]; omega)
    have g2 : decide (((inL ins).length : Int) > 20) = false := decide_eq_false (by rw [e2]; omega)
    have g3 : decide (((prL procs).length : Int) > 20) = false := decide_eq_false (by rw [e3]; omega)
    generalize cntL main m 30 = c0 at c1
    (repeat' ((conv => whnf); first | refine goD ?_ | refine ⟨_, c1, (by (repeat (first | exact trivial | ((conv => whnf); first | exact trivial | refine And.intro (by first | assumption | exact cleanI _ | exact cleanEs _ | exact cleanSs _ | exact cleanE _ | exact cleanIL _ | exact NoNm.flat _ rfl) ?_)))), tab0 _, ?_⟩ | refine U.lw_c (fun hb => ?_) (fun hb => ?_)))
    (conv => whnf)
    clear g1 g2 g3 c1
    obtain ⟨F, hF⟩ : ∃ F, F = cntL := ⟨_, rfl⟩
    refine loop_inv (α := List Pr13 × List Pr13 × Int) (fun x => x.1 ++ x.2.1 = procs ∧ fewGo x.2.1 m x.2.2 = fewGo procs m c0) (fun x => (mkF [(1, .int .i64 m), (2, .pointer (some ⟨0, 0, none⟩)), (4, .bool false), (5, .int .i64 x.2.2), (6, .int .i64 x.1.length)], ⟨mkO [(0, some (.cells 27 (cellsOf (encP ⟨sl, arrs, ins, procs, main⟩)) false))], 1, 0, 0⟩)) (fun x => x.2.1.length) ([], procs, c0) ⟨rfl, rfl⟩ (Cov.slots (Nat.le_refl _) ⟨rfl, rfl, rfl, rfl, rfl, trivial⟩) ?_
    rintro ⟨pre, rest, n⟩ ⟨p1, p2⟩
    dsimp only at p1 p2
    subst p1
    rw [← p2]
    dsimp only
    rcases rest with _ | ⟨⟨nm, ps, body⟩, rest⟩
    · rw [List.append_nil]
      have zb := U.lt_no prL_map pre
      (repeat' ((conv => whnf); first | refine goD ?_ | refine U.lw_c (fun hb => ?_) (fun hb => ?_)))
      (conv => whnf)
      exact .same (.flat _ rfl) rfl
    · have zb := U.lt_yes prL_map pre (Pr13.mk nm ps body) rest; have zc := U.blt_yes prL_map pre (Pr13.mk nm ps body) rest; have zn := U.nth_at prL_map pre (Pr13.mk nm ps body) rest; have zw := U.len_snoc (pre := pre) (x := Pr13.mk nm ps body) (post := rest) ((by simp at hbig ⊢; omega))
      obtain ⟨b1, b2, b3⟩ := o4 ⟨nm, ps, body⟩ (by simp)
      have hps := iL_len ps
      have hcb := cleanSs body
      by_cases hn : n ≤ m
      · have g1 : decide (n ≤ m) = true := decide_eq_true hn
        by_cases hq : 20 < ps.length
        · have g2 : decide (((iL ps).length : Int) > 20) = true := decide_eq_true (by rw [hps]; omega)
          (repeat' ((conv => whnf); first | refine goD ?_ | refine U.lw_c (fun hb => ?_) (fun hb => ?_)))
          (conv => whnf)
          exact .same (.flat _ rfl) (congrArg Value.bool (by rw [fewGo, if_pos hn, if_pos hq]))
        · have g2 : decide (((iL ps).length : Int) > 20) = false := decide_eq_false (by rw [hps]; omega)
          have c2 := irStmts_all (szSs body) body (Nat.le_refl _) b1 b2 (IntKind.i64.wrap (m - n)) 30
          have e9 : fewGo (⟨nm, ps, body⟩ :: rest) m n = fewGo rest m (IntKind.i64.wrap (n + cntL body (IntKind.i64.wrap (m - n)) 30)) := by rw [fewGo, if_pos hn, if_neg hq]
          rw [e9]
          generalize cntL body (IntKind.i64.wrap (m - n)) 30 = c3 at *
          (repeat' ((conv => whnf); first | refine goD ?_ | refine ⟨_, c2, (by (repeat (first | exact trivial | ((conv => whnf); first | exact trivial | refine And.intro (by first | assumption | exact cleanI _ | exact cleanEs _ | exact cleanSs _ | exact cleanE _ | exact cleanIL _ | exact NoNm.flat _ rfl) ?_)))), tab0 _, ?_⟩ | refine U.lw_c (fun hb => ?_) (fun hb => ?_)))
          (conv => whnf)
          exact ⟨(pre ++ [⟨nm, ps, body⟩], rest, IntKind.i64.wrap (n + c3)), ⟨by simp, rfl⟩, by simp, (Cov.renI rfl rfl rfl rfl (.cons rfl (.row _ _ _ _ ((fun c hc => cleanP_cells ⟨sl, arrs, ins, _, main⟩ c hc)) rfl) .nil) (.cons rfl .I (.cons rfl (.P rfl) (.cons rfl (.F rfl rfl) (.cons rfl .I (.cons rfl (.clean _ _ (cleanI _) (congrArg (Value.int .i64) (zw.symm))) .nil))))))⟩
      · have g1 : decide (n ≤ m) = false := decide_eq_false hn
        (repeat' ((conv => whnf); first | refine goD ?_ | refine U.lw_c (fun hb => ?_) (fun hb => ?_)))
        (conv => whnf)
        exact .same (.flat _ rfl) (congrArg Value.bool (by rw [fewGo, if_neg hn]; exact g1))
theorem fewGo_ok : ∀ (l : List Pr13) (m n : Int) (k : Nat), m ≤ 900 → n = k → fewGo l m n = true → (k : Int) + szPrs l ≤ m ∧ ∀ x ∈ l, x.ps.length ≤ 20
  | [], m, n, k, hm, hn, h => by
    have h := of_decide_eq_true (show decide (n ≤ m) = true from h)
    exact ⟨by simp [szPrs]; omega, fun x hx => by cases hx⟩
  | x :: l, m, n, k, hm, hn, h => by
    unfold fewGo at h
    by_cases h1 : n ≤ m
    · rw [if_pos h1] at h
      by_cases h2 : 20 < x.ps.length
      · rw [if_pos h2] at h; cases h
      · rw [if_neg h2] at h
        have hw : IntKind.i64.wrap (m - n) = m - n := wid (by omega) (by omega)
        rw [hw] at h
        obtain ⟨a1, a2, a3⟩ := cntL_few x.body (m - n) 30 (by omega) (by omega)
        have hw2 : IntKind.i64.wrap (n + cntL x.body (m - n) 30) = n + cntL x.body (m - n) 30 := wid (by omega) (by omega)
        rw [hw2] at h
        by_cases h3 : cntL x.body (m - n) 30 ≤ m - n
        · have e := a3 h3
          obtain ⟨g1, g2⟩ := fewGo_ok l m (n + cntL x.body (m - n) 30) (k + szSs x.body) hm (by rw [e, hn]; simp) h
          refine ⟨by rw [szPrs]; push_cast at g1 ⊢; omega, fun y hy => ?_⟩
          rcases List.mem_cons.1 hy with rfl | hy
          · omega
          · exact g2 y hy
        · have : fewGo l m (n + cntL x.body (m - n) 30) = false := by
            cases l with
            | nil => exact decide_eq_false (by omega)
            | cons y l => rw [fewGo, if_neg (by omega)]
          rw [this] at h; cases h
    · rw [if_neg h1] at h; cases h
theorem fewP_ok {p : Pg} {m : Int} (hm : 0 ≤ m ∧ m ≤ 900) (h : fewP p m = true) : FewP p := by
  unfold fewP at h
  split at h
  · cases h
  · rename_i hb
    obtain ⟨a1, a2, a3⟩ := cntL_few p.main m 30 (by omega) (by omega)
    by_cases h3 : cntL p.main m 30 ≤ m
    · obtain ⟨g1, g2⟩ := fewGo_ok p.procs m _ (szSs p.main) hm.2 (a3 h3) h
      exact ⟨by omega, by omega, by omega, g2, by omega⟩
    · have : fewGo p.procs m (cntL p.main m 30) = false := by
        cases p.procs with
        | nil => exact decide_eq_false (by omega)
        | cons y l => rw [fewGo, if_neg (by omega)]
      rw [this] at h; cases h
end Go.Proofs.YtblaiilfoiefiaaGreatDoor
