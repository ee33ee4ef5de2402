/- Layer 16: the reference's results of runs. -/
import Derived.Test.YthbhnbnlbhpooaaGreatDoorYC
namespace Go.Proofs.YthbhnbnlbhpooaaGreatDoor
open Go Go.RowKit Go.Sort U
set_option linter.unusedVariables false
set_option linter.unusedSimpArgs false
set_option maxRecDepth 100000
set_option maxHeartbeats 4000000
def firstR (a b : Rz) : Bool := decide (a.os <+: b.os) && decide (a.bs <+: b.bs)
theorem pre_cons {α : Type} {p : List α} {x y : α} {l m : List α} (h : ¬ x = y) : ¬ p ++ x :: l <+: p ++ y :: m := fun hp => by
  rw [List.prefix_append_right_inj] at hp
  exact h (List.cons_prefix_cons.1 hp).1
theorem rfirst_d (a b : Rz) (ha : okR a) : DenU Tryz.prog [] 23 [encR a, encR b] (.bool (firstR a b)) := by
  refine denU_of_body hmixU rfl Tryz.func23 rfl rfl rfl 0 ?_
  intro Ts
  obtain ⟨e, os, bs, n⟩ := a
  obtain ⟨e', os', bs', n'⟩ := b
  obtain ⟨ha1, ha2⟩ := ha
  dsimp only at ha1 ha2
  by_cases hl1 : os.length ≤ os'.length
  · have g1 : (decide (((iL os).length : Int) > ((iL os').length : Int))) = false := by rw [iL, iL, List.length_map, List.length_map]; exact decide_eq_false (by omega)
    by_cases hl2 : bs.length ≤ bs'.length
    · have g2 : (decide (((bL bs).length : Int) > ((bL bs').length : Int))) = false := by rw [bL, bL, List.length_map, List.length_map]; exact decide_eq_false (by omega)
      (repeat' ((conv => whnf); first | refine U.lw_t ?_ | refine U.lw_f ?_ | refine U.lit_t ?_ | refine U.lit_f ?_ | refine U.ob_t ?_ | refine U.ob_c (by first | (with_reducible assumption) | exact Nat.ble_eq_true_of_le (by omega) | exact Nat.ble_eq_true_of_le (by simp at *; omega)) ?_ | refine U.nv_c (by with_reducible assumption) ?_ | refine U.lw_t' (by with_reducible assumption) ?_ | refine U.lw_f' (by with_reducible assumption) ?_ | refine U.lw_c (fun hb => ?_) (fun hb => ?_)))
      (conv => whnf)
      refine loop_inv (α := List Int × List Int × List Int) (fun x => x.1 ++ x.2.1 = os ∧ x.1 ++ x.2.2 = os' ∧ x.2.1.length ≤ x.2.2.length) (fun x => (mkF [(2, .pointer (some ⟨0, 0, none⟩)), (3, .pointer (some ⟨1, 0, none⟩)), (4, .bool false), (5, .int .i64 x.1.length)], ⟨mkO [(0, some (.cells 31 [.int .i64 e, imS (iL os), imS (bL bs), .int .u64 n] false)), (1, some (.cells 31 [.int .i64 e', imS (iL os'), imS (bL bs'), .int .u64 n'] false))], 2, 0, 0⟩)) (fun x => x.2.1.length) ([], os, os') ⟨rfl, rfl, hl1⟩ (Cov.renO (fun k => k) rfl rfl (Nat.le_refl 2) (Nat.zero_le _) (fun _ _ => rfl) rfl (fun k hk => absurd hk (Nat.not_lt_zero k)) (.cons rfl (.row _ _ _ _ (cleanR_cells ⟨e, os, bs, n⟩) rfl) (.cons rfl (.row _ _ _ _ (cleanR_cells ⟨e', os', bs', n'⟩) rfl) .nil)) (.cons rfl (.ptr _ _ _ (by decide) rfl) (.cons rfl (.ptr _ _ _ (by decide) rfl) (.cons rfl (.clean _ _ (.flat _ rfl) rfl) (.cons rfl (.clean _ _ (cleanI _) rfl) .nil))))) ?_
      rintro ⟨pre, ra, rb⟩ ⟨p1, p2, p3⟩
      dsimp only at p1 p2 p3
      subst p1 p2
      dsimp only
      rcases ra with _ | ⟨x, ra⟩
      · rw [List.append_nil]
        have h3b := U.lt_no iL_map pre
        have hpo : pre <+: pre ++ rb := List.prefix_append _ _
        (repeat' ((conv => whnf); first | refine U.lw_t ?_ | refine U.lw_f ?_ | refine U.lit_t ?_ | refine U.lit_f ?_ | refine U.ob_t ?_ | refine U.ob_c (by first | (with_reducible assumption) | exact Nat.ble_eq_true_of_le (by omega) | exact Nat.ble_eq_true_of_le (by simp at *; omega)) ?_ | refine U.nv_c (by with_reducible assumption) ?_ | refine U.lw_t' (by with_reducible assumption) ?_ | refine U.lw_f' (by with_reducible assumption) ?_ | refine U.lw_c (fun hb => ?_) (fun hb => ?_)))
        (conv => whnf)
        refine loop_inv (α := List (Int × Bool) × List (Int × Bool) × List (Int × Bool)) (fun x => x.1 ++ x.2.1 = bs ∧ x.1 ++ x.2.2 = bs' ∧ x.2.1.length ≤ x.2.2.length) (fun x => (mkF [(2, .pointer (some ⟨0, 0, none⟩)), (3, .pointer (some ⟨1, 0, none⟩)), (4, .bool false), (6, .int .i64 x.1.length)], ⟨mkO [(0, some (.cells 31 [.int .i64 e, imS (iL pre), imS (bL bs), .int .u64 n] false)), (1, some (.cells 31 [.int .i64 e', imS (iL (pre ++ rb)), imS (bL bs'), .int .u64 n'] false))], 2, 0, 0⟩)) (fun x => x.2.1.length) ([], bs, bs') ⟨rfl, rfl, hl2⟩ (Cov.renO (fun k => k) rfl rfl (Nat.le_refl 2) (Nat.zero_le _) (fun _ _ => rfl) rfl (fun k hk => absurd hk (Nat.not_lt_zero k)) (.cons rfl (.row _ _ _ _ (cleanR_cells ⟨e, pre, bs, n⟩) rfl) (.cons rfl (.row _ _ _ _ (cleanR_cells ⟨e', pre ++ rb, bs', n'⟩) rfl) .nil)) (.cons rfl (.ptr _ _ _ (by decide) rfl) (.cons rfl (.ptr _ _ _ (by decide) rfl) (.cons rfl (.clean _ _ (.flat _ rfl) rfl) (.cons rfl (.clean _ _ (cleanI _) rfl) .nil))))) ?_
        rintro ⟨prb, qa, qb⟩ ⟨p1, p2, p3⟩
        dsimp only at p1 p2 p3
        subst p1 p2
        dsimp only
        rcases qa with _ | ⟨⟨x1, x2⟩, qa⟩
        · rw [List.append_nil]
          have h4b := U.lt_no bL_map prb
          (repeat' ((conv => whnf); first | refine U.lw_t ?_ | refine U.lw_f ?_ | refine U.lit_t ?_ | refine U.lit_f ?_ | refine U.ob_t ?_ | refine U.ob_c (by first | (with_reducible assumption) | exact Nat.ble_eq_true_of_le (by omega) | exact Nat.ble_eq_true_of_le (by simp at *; omega)) ?_ | refine U.nv_c (by with_reducible assumption) ?_ | refine U.lw_t' (by with_reducible assumption) ?_ | refine U.lw_f' (by with_reducible assumption) ?_ | refine U.lw_c (fun hb => ?_) (fun hb => ?_)))
          (conv => whnf)
          exact .same (.flat _ rfl) (congrArg Value.bool (by simp [firstR]))
        · rcases qb with _ | ⟨⟨y1, y2⟩, qb⟩
          · simp at p3
          · have h4b := U.lt_yes bL_map prb ((x1, x2)) qa; have h4c := U.blt_yes bL_map prb ((x1, x2)) qa; have h4n := U.nth_at bL_map prb ((x1, x2)) qa; have h4w := U.len_snoc (pre := prb) (x := (x1, x2)) (post := qa) (ha2)
            have h5b := U.lt_yes bL_map prb ((y1, y2)) qb; have h5c := U.blt_yes bL_map prb ((y1, y2)) qb; have h5n := U.nth_at bL_map prb ((y1, y2)) qb
            (repeat' ((conv => whnf); first | refine U.lw_t ?_ | refine U.lw_f ?_ | refine U.lit_t ?_ | refine U.lit_f ?_ | refine U.ob_t ?_ | refine U.ob_c (by first | (with_reducible assumption) | exact Nat.ble_eq_true_of_le (by omega) | exact Nat.ble_eq_true_of_le (by simp at *; omega)) ?_ | refine U.nv_c (by with_reducible assumption) ?_ | refine U.drawX_p (D := U.propX) 11 [] (by decide +kernel) (by decide +kernel) ?_ | refine U.lw_t' (by with_reducible assumption) ?_ | refine U.lw_f' (by with_reducible assumption) ?_ | refine U.lw_c (fun hb => ?_) (fun hb => ?_)))
            refine U.ob_c (by kernel_rfl) ?_
            (repeat' ((conv => whnf); first | refine U.lw_t ?_ | refine U.lw_f ?_ | refine U.lit_t ?_ | refine U.lit_f ?_ | refine U.ob_t ?_ | refine U.ob_c (by first | (with_reducible assumption) | exact Nat.ble_eq_true_of_le (by omega) | exact Nat.ble_eq_true_of_le (by simp at *; omega)) ?_ | refine U.nv_c (by with_reducible assumption) ?_ | refine U.lw_t' (by with_reducible assumption) ?_ | refine U.lw_f' (by with_reducible assumption) ?_ | refine U.lw_c (fun hb => ?_) (fun hb => ?_)))
            all_goals (conv => whnf)
            · have hne : ¬ (x1, x2) = (y1, y2) := fun e => by cases e; simp at hb
              have hnp : ¬ prb ++ (x1, x2) :: qa <+: prb ++ (y1, y2) :: qb := pre_cons hne
              exact .same (.flat _ rfl) (congrArg Value.bool (by simp only [firstR, decide_eq_false hnp, Bool.and_false]))
            · have hxy : (x1, x2) = (y1, y2) := by simp at hb; rw [hb.1, hb.2]
              cases hxy
              refine ⟨(prb ++ [(x1, x2)], qa, qb), ⟨by simp, by simp, by simpa using p3⟩, by simp, Cov.renO (fun k => k) rfl rfl (Nat.le_refl 2) (Nat.zero_le _) (fun _ _ => rfl) rfl (fun k hk => absurd hk (Nat.not_lt_zero k)) (.cons rfl (.row _ _ _ _ (cleanR_cells ⟨e, pre, _, n⟩) rfl) (.cons rfl (.row _ _ _ _ (cleanR_cells ⟨e', pre ++ rb, _, n'⟩) rfl) .nil)) (.cons rfl (.ptr _ _ _ (by decide) rfl) (.cons rfl (.ptr _ _ _ (by decide) rfl) (.cons rfl (.clean _ _ (.flat _ rfl) rfl) (.cons rfl (.clean _ _ (cleanI _) (congrArg (Value.int .i64) h4w.symm)) .nil))))⟩
      · rcases rb with _ | ⟨y, rb⟩
        · simp at p3
        · have h3b := U.lt_yes iL_map pre (x) ra; have h3c := U.blt_yes iL_map pre (x) ra; have h3n := U.nth_at iL_map pre (x) ra; have h3w := U.len_snoc (pre := pre) (x := x) (post := ra) (ha1)
          have h4b := U.lt_yes iL_map pre (y) rb; have h4c := U.blt_yes iL_map pre (y) rb; have h4n := U.nth_at iL_map pre (y) rb
          (repeat' ((conv => whnf); first | refine U.lw_t ?_ | refine U.lw_f ?_ | refine U.lit_t ?_ | refine U.lit_f ?_ | refine U.ob_t ?_ | refine U.ob_c (by first | (with_reducible assumption) | exact Nat.ble_eq_true_of_le (by omega) | exact Nat.ble_eq_true_of_le (by simp at *; omega)) ?_ | refine U.nv_c (by with_reducible assumption) ?_ | refine U.drawX_p (D := U.propX) 11 [] (by decide +kernel) (by decide +kernel) ?_ | refine U.lw_t' (by with_reducible assumption) ?_ | refine U.lw_f' (by with_reducible assumption) ?_ | refine U.lw_c (fun hb => ?_) (fun hb => ?_)))
          all_goals (conv => whnf)
          · have hne : ¬ x = y := by simpa using hb
            have hnp : ¬ pre ++ x :: ra <+: pre ++ y :: rb := pre_cons hne
            exact .same (.flat _ rfl) (congrArg Value.bool (by simp only [firstR, decide_eq_false hnp, Bool.false_and]))
          · have hxy : x = y := by simpa using hb
            subst hxy
            refine ⟨(pre ++ [x], ra, rb), ⟨by simp, by simp, by simpa using p3⟩, by simp, Cov.renO (fun k => k) rfl rfl (Nat.le_refl 2) (Nat.zero_le _) (fun _ _ => rfl) rfl (fun k hk => absurd hk (Nat.not_lt_zero k)) (.cons rfl (.row _ _ _ _ (cleanR_cells ⟨e, _, bs, n⟩) rfl) (.cons rfl (.row _ _ _ _ (cleanR_cells ⟨e', _, bs', n'⟩) rfl) .nil)) (.cons rfl (.ptr _ _ _ (by decide) rfl) (.cons rfl (.ptr _ _ _ (by decide) rfl) (.cons rfl (.clean _ _ (.flat _ rfl) rfl) (.cons rfl (.clean _ _ (cleanI _) (congrArg (Value.int .i64) h3w.symm)) .nil))))⟩
    · have g2 : (decide (((bL bs).length : Int) > ((bL bs').length : Int))) = true := by rw [bL, bL, List.length_map, List.length_map]; exact decide_eq_true (by omega)
      have hnp := not_pre hl2
      (repeat' ((conv => whnf); first | refine U.lw_t ?_ | refine U.lw_f ?_ | refine U.lit_t ?_ | refine U.lit_f ?_ | refine U.ob_t ?_ | refine U.ob_c (by first | (with_reducible assumption) | exact Nat.ble_eq_true_of_le (by omega) | exact Nat.ble_eq_true_of_le (by simp at *; omega)) ?_ | refine U.nv_c (by with_reducible assumption) ?_ | refine U.lw_t' (by with_reducible assumption) ?_ | refine U.lw_f' (by with_reducible assumption) ?_ | refine U.lw_c (fun hb => ?_) (fun hb => ?_)))
      all_goals (conv => whnf)
      all_goals exact .same (.flat _ rfl) (congrArg Value.bool (by simp only [firstR, decide_eq_false hnp, Bool.and_false]))
  · have g1 : (decide (((iL os).length : Int) > ((iL os').length : Int))) = true := by rw [iL, iL, List.length_map, List.length_map]; exact decide_eq_true (by omega)
    have hnp := not_pre hl1
    (repeat' ((conv => whnf); first | refine U.lw_t ?_ | refine U.lw_f ?_ | refine U.lit_t ?_ | refine U.lit_f ?_ | refine U.ob_t ?_ | refine U.ob_c (by first | (with_reducible assumption) | exact Nat.ble_eq_true_of_le (by omega) | exact Nat.ble_eq_true_of_le (by simp at *; omega)) ?_ | refine U.nv_c (by with_reducible assumption) ?_ | refine U.lw_t' (by with_reducible assumption) ?_ | refine U.lw_f' (by with_reducible assumption) ?_ | refine U.lw_c (fun hb => ?_) (fun hb => ?_)))
    all_goals (conv => whnf)
    all_goals exact .same (.flat _ rfl) (congrArg Value.bool (by simp only [firstR, decide_eq_false hnp, Bool.false_and]))
theorem pre_len {α : Type} {a b : List α} (h : a.length = b.length) : a <+: b ↔ a = b := ⟨fun hp => hp.eq_of_length h, fun e => e ▸ List.prefix_rfl⟩
theorem rsame_d (a b : Rz) (ha : okR a) : DenU Tryz.prog [] 8 [encR a, encR b] (.bool (sameR a b)) := by
  refine denU_of_body hmixU rfl Tryz.func8 rfl rfl rfl 0 ?_
  intro Ts
  have h0 := rfirst_d a b ha
  have c0 := cleanR a
  have c1 := cleanR b
  obtain ⟨e, os, bs, n⟩ := a
  obtain ⟨e', os', bs', n'⟩ := b
  have l1 : (iL os).length = os.length := List.length_map ..
  have l2 : (iL os').length = os'.length := List.length_map ..
  have l3 : (bL bs).length = bs.length := List.length_map ..
  have l4 : (bL bs').length = bs'.length := List.length_map ..
  (repeat' ((conv => whnf); first | refine U.lw_t ?_ | refine U.lw_f ?_ | refine U.lit_t ?_ | refine U.lit_f ?_ | refine U.ob_t ?_ | refine U.ob_c (by first | (with_reducible assumption) | exact Nat.ble_eq_true_of_le (by omega) | exact Nat.ble_eq_true_of_le (by simp at *; omega)) ?_ | refine U.nv_c (by with_reducible assumption) ?_ | refine ⟨_, h0, (by (repeat (first | exact trivial | ((conv => whnf); first | exact trivial | refine And.intro (by first | assumption | exact cleanI _ | exact cleanEs _ | exact cleanSs _ | exact cleanTs _ | exact cleanE _ | exact cleanIL _ | exact cleanBL _ | exact cleanR _ | exact NoNm.flat _ rfl) ?_)))), tab0 _, ?_⟩ | refine U.drawX_p (D := U.propX) 7 [] (by decide +kernel) (by decide +kernel) ?_ | refine U.lw_t' (by with_reducible assumption) ?_ | refine U.lw_f' (by with_reducible assumption) ?_ | refine U.lw_c (fun hb => ?_) (fun hb => ?_)))
  all_goals (conv => whnf)
  all_goals refine .same (.flat _ rfl) (congrArg Value.bool ?_)
  all_goals simp only [beq_iff_eq, beq_eq_false_iff_ne, ne_eq, l1, l2, l3, l4, firstR] at *
  all_goals unfold sameR
  · have h5 : os.length = os'.length := by omega
    have h6 : bs.length = bs'.length := by omega
    simp [*, pre_len h5, pre_len h6]
  · have h5 : ¬ bs = bs' := fun e => by subst e; omega
    simp [*]
  · have h5 : ¬ os = os' := fun e => by subst e; omega
    simp [*]
  · simp [*]
  · simp [*]
theorem rpref_d (a b : Rz) (ha : okR a) : DenU Tryz.prog [] 10 [encR a, encR b] (.bool (prefR a b)) := by
  refine denU_of_body hmixU rfl Tryz.func10 rfl rfl rfl 0 ?_
  intro Ts
  have h0 := rsame_d a b ha
  have h1 := rfirst_d a b ha
  have c0 := cleanR a
  have c1 := cleanR b
  obtain ⟨e, os, bs, n⟩ := a
  obtain ⟨e', os', bs', n'⟩ := b
  (repeat' ((conv => whnf); first | refine U.lw_t ?_ | refine U.lw_f ?_ | refine U.lit_t ?_ | refine U.lit_f ?_ | refine U.ob_t ?_ | refine U.ob_c (by first | (with_reducible assumption) | exact Nat.ble_eq_true_of_le (by omega) | exact Nat.ble_eq_true_of_le (by simp at *; omega)) ?_ | refine U.nv_c (by with_reducible assumption) ?_ | refine ⟨_, h0, (by (repeat (first | exact trivial | ((conv => whnf); first | exact trivial | refine And.intro (by first | assumption | exact cleanI _ | exact cleanEs _ | exact cleanSs _ | exact cleanTs _ | exact cleanE _ | exact cleanIL _ | exact cleanBL _ | exact cleanR _ | exact NoNm.flat _ rfl) ?_)))), tab0 _, ?_⟩ | refine ⟨_, h1, (by (repeat (first | exact trivial | ((conv => whnf); first | exact trivial | refine And.intro (by first | assumption | exact cleanI _ | exact cleanEs _ | exact cleanSs _ | exact cleanTs _ | exact cleanE _ | exact cleanIL _ | exact cleanBL _ | exact cleanR _ | exact NoNm.flat _ rfl) ?_)))), tab0 _, ?_⟩ | refine U.drawX_p (D := U.propX) 7 [] (by decide +kernel) (by decide +kernel) ?_ | refine U.lw_t' (by with_reducible assumption) ?_ | refine U.lw_f' (by with_reducible assumption) ?_ | refine U.lw_c (fun hb => ?_) (fun hb => ?_)))
  all_goals (conv => whnf)
  all_goals refine .same (.flat _ rfl) (congrArg Value.bool ?_)
  all_goals simp only [beq_iff_eq, beq_eq_false_iff_ne, ne_eq, decide_eq_true_eq, decide_eq_false_iff_not, firstR] at *
  all_goals unfold prefR
  all_goals generalize sameR _ _ = q at *
  all_goals simp [*]
theorem rword_d (e : Int) : DenU Tryz.prog [] 12 [.int .i64 e] (wordS e) := by
  refine denU_of_body hmixU rfl Tryz.func12 rfl rfl rfl 0 ?_
  intro Ts
  by_cases h1 : e < 0
  · have g1 : decide (e < 0) = true := decide_eq_true h1
    (repeat' ((conv => whnf); first | refine U.lw_t ?_ | refine U.lw_f ?_ | refine U.lit_t ?_ | refine U.lit_f ?_ | refine U.ob_t ?_ | refine U.ob_c (by first | (with_reducible assumption) | exact Nat.ble_eq_true_of_le (by omega) | exact Nat.ble_eq_true_of_le (by simp at *; omega)) ?_ | refine U.nv_c (by with_reducible assumption) ?_ | refine U.lw_t' (by with_reducible assumption) ?_ | refine U.lw_f' (by with_reducible assumption) ?_ | refine U.lw_c (fun hb => ?_) (fun hb => ?_)))
    (conv => whnf)
    exact .same (.flat _ rfl) (by unfold wordS; rw [if_neg (by omega), if_neg (by omega), if_neg (by omega)]; rfl)
  · have g1 : decide (e < 0) = false := decide_eq_false h1
    by_cases h2 : e > 2
    · have g2 : decide (e > 2) = true := decide_eq_true h2
      (repeat' ((conv => whnf); first | refine U.lw_t ?_ | refine U.lw_f ?_ | refine U.lit_t ?_ | refine U.lit_f ?_ | refine U.ob_t ?_ | refine U.ob_c (by first | (with_reducible assumption) | exact Nat.ble_eq_true_of_le (by omega) | exact Nat.ble_eq_true_of_le (by simp at *; omega)) ?_ | refine U.nv_c (by with_reducible assumption) ?_ | refine U.lw_t' (by with_reducible assumption) ?_ | refine U.lw_f' (by with_reducible assumption) ?_ | refine U.lw_c (fun hb => ?_) (fun hb => ?_)))
      (conv => whnf)
      exact .same (.flat _ rfl) (by unfold wordS; rw [if_neg (by omega), if_neg (by omega), if_neg (by omega)]; rfl)
    · have h3 : e = 0 ∨ e = 1 ∨ e = 2 := by omega
      clear g1 h1 h2
      rcases h3 with rfl | rfl | rfl
      all_goals (repeat' ((conv => whnf); first | refine U.lw_t ?_ | refine U.lw_f ?_ | refine U.lit_t ?_ | refine U.lit_f ?_ | refine U.ob_t ?_ | refine U.ob_c (by first | (with_reducible assumption) | exact Nat.ble_eq_true_of_le (by omega) | exact Nat.ble_eq_true_of_le (by simp at *; omega)) ?_ | refine U.nv_c (by with_reducible assumption) ?_ | refine U.lw_t' (by with_reducible assumption) ?_ | refine U.lw_f' (by with_reducible assumption) ?_ | refine U.lw_c (fun hb => ?_) (fun hb => ?_)))
      all_goals (conv => whnf)
      all_goals exact .same (.flat _ rfl) rfl
end Go.Proofs.YthbhnbnlbhpooaaGreatDoor
