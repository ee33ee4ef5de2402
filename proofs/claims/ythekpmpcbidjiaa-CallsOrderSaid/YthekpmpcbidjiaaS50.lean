
import Derived.Test.YthekpmpcbidjiaaS41
import Derived.Test.YthekpmpcbidjiaaS48
namespace Go.Proofs.Ythekpmpcbidjiaa
open Go Go.RowKit Go.Sort U
set_option linter.unusedVariables false
set_option linter.unusedSimpArgs false
set_option maxRecDepth 100000
set_option maxHeartbeats 4000000
end Go.Proofs.Ythekpmpcbidjiaa
namespace Go.Proofs.Ythekpmpcbidjiaa
open Go Go.RowKit Go.Sort U
set_option linter.unusedVariables false
set_option linter.unusedSimpArgs false
set_option maxRecDepth 100000
set_option maxHeartbeats 4000000
end Go.Proofs.Ythekpmpcbidjiaa
namespace Go.Proofs.Ythekpmpcbidjiaa
open Go Go.RowKit Go.Sort U
set_option linter.unusedVariables false
set_option linter.unusedSimpArgs false
set_option maxRecDepth 100000
set_option maxHeartbeats 4000000
theorem same_d (a b : List Int) (ha : a.length ≤ maxI) : DenU Try.prog [] 19 [imS (iL a), imS (iL b)] (.bool (decide (a = b))) := by
  refine denU_of_body hmixU rfl Try.func19 rfl rfl rfl 0 ?_
  intro Ts
  by_cases hl : a.length = b.length
  · have hne : (((iL a).length : Int) != ((iL b).length : Int)) = false := by rw [iL_len, iL_len, hl]; simp
    (repeat' ((conv => whnf); first | refine U.lw_t ?_ | refine U.lw_f ?_ | refine U.lit_t ?_ | refine U.lit_f ?_ | refine U.ob_t ?_ | refine U.ob_c (by first | (with_reducible assumption) | exact bLe (by omega) | exact bLe (by simp at *; omega)) ?_ | refine U.nv_c (by with_reducible assumption) ?_ | refine U.lw_t' (by with_reducible assumption) ?_ | refine U.lw_f' (by with_reducible assumption) ?_ | refine U.lw_c (fun hb => ?_) (fun hb => ?_)))
    (conv => whnf)
    refine loop_inv (α := List Int × List Int × List Int) (fun x => x.1 ++ x.2.1 = a ∧ x.1 ++ x.2.2 = b) (fun x => (mkF [(0, imS (iL a)), (1, imS (iL b)), (4, .bool false), (5, .int .i64 x.1.length)], ⟨.e, 0, 0, 0⟩)) (fun x => x.2.1.length) ([], a, b) ⟨rfl, rfl⟩ (Cov.slots (Nat.le_refl _) ⟨rfl, rfl, rfl, rfl, trivial⟩) ?_
    rintro ⟨pre, ra, rb⟩ ⟨h1, h2⟩
    dsimp only at h1 h2
    subst h1 h2
    dsimp only
    have hlr : ra.length = rb.length := by simp at hl; exact hl
    rcases ra with _ | ⟨x, ra⟩
    · have hrb : rb = [] := List.eq_nil_of_length_eq_zero (by simpa using hlr.symm)
      subst hrb
      rw [List.append_nil]
      have h3b := U.lt_no iL_map pre
      (repeat' ((conv => whnf); first | refine U.lw_t ?_ | refine U.lw_f ?_ | refine U.lit_t ?_ | refine U.lit_f ?_ | refine U.ob_t ?_ | refine U.ob_c (by first | (with_reducible assumption) | exact bLe (by omega) | exact bLe (by simp at *; omega)) ?_ | refine U.nv_c (by with_reducible assumption) ?_ | refine U.lw_t' (by with_reducible assumption) ?_ | refine U.lw_f' (by with_reducible assumption) ?_ | refine U.lw_c (fun hb => ?_) (fun hb => ?_)))
      (conv => whnf)
      exact .same (.flat _ rfl) (by rw [decide_eq_true rfl]; rfl)
    · rcases rb with _ | ⟨y, rb⟩
      · simp at hlr
      · have h3b := U.lt_yes iL_map pre (x) ra; have h3c := U.blt_yes iL_map pre (x) ra; have h3n := U.nth_at iL_map pre (x) ra; have h3w := U.len_snoc (pre := pre) (x := x) (post := ra) (ha)
        have h4b := U.lt_yes iL_map pre (y) rb; have h4c := U.blt_yes iL_map pre (y) rb; have h4n := U.nth_at iL_map pre (y) rb
        (repeat' ((conv => whnf); first | refine U.lw_t ?_ | refine U.lw_f ?_ | refine U.lit_t ?_ | refine U.lit_f ?_ | refine U.ob_t ?_ | refine U.ob_c (by first | (with_reducible assumption) | exact bLe (by omega) | exact bLe (by simp at *; omega)) ?_ | refine U.nv_c (by with_reducible assumption) ?_ | refine U.drawX_p (D := U.propX) 9 [] (by decide +kernel) (by decide +kernel) ?_ | refine U.lw_t' (by with_reducible assumption) ?_ | refine U.lw_f' (by with_reducible assumption) ?_ | refine U.lw_c (fun hb => ?_) (fun hb => ?_)))
        all_goals (conv => whnf)
        · have hne : ¬ x = y := by simpa using hb
          exact .same (.flat _ rfl) (by rw [decide_eq_false (fun e => hne (by simp at e; exact e.1))]; rfl)
        · have hxy : x = y := by simpa using hb
          subst hxy
          exact ⟨(pre ++ [x], ra, rb), ⟨by simp, by simp⟩, by simp, Cov.slots (s := ⟨.e, 0, 0, 0⟩) (Nat.le_refl _) ⟨rfl, rfl, rfl, congrArg some (congrArg (Value.int .i64) h3w), trivial⟩⟩
  · have hne : (((iL a).length : Int) != ((iL b).length : Int)) = true := by rw [iL_len, iL_len]; simp; omega
    (repeat' ((conv => whnf); first | refine U.lw_t ?_ | refine U.lw_f ?_ | refine U.lit_t ?_ | refine U.lit_f ?_ | refine U.ob_t ?_ | refine U.ob_c (by first | (with_reducible assumption) | exact bLe (by omega) | exact bLe (by simp at *; omega)) ?_ | refine U.nv_c (by with_reducible assumption) ?_ | refine U.lw_t' (by with_reducible assumption) ?_ | refine U.lw_f' (by with_reducible assumption) ?_ | refine U.lw_c (fun hb => ?_) (fun hb => ?_)))
    (conv => whnf)
    exact .same (.flat _ rfl) (by rw [decide_eq_false (fun e => hl (by rw [e]))]; rfl)
def fewB (g : Gz) : Bool := (g.st.take 9).all (fun r => decide (r.length ≤ 12)) && decide (g.nm.length ≤ 7) && decide (g.st.length ≤ 8)
theorem few_d (g : Gz) (hg : g.st.length ≤ maxI ∧ ∀ r ∈ g.st, r.length ≤ maxI) : DenU Try.prog [] 7 [encG g] (.bool (fewB g)) := by
  refine denU_of_body hmixU rfl Try.func7 rfl rfl rfl 0 ?_
  intro Ts
  obtain ⟨nm, st⟩ := g
  obtain ⟨g2, g3⟩ := hg
  dsimp only at g2 g3
  (repeat' ((conv => whnf); first | refine U.lw_t ?_ | refine U.lw_f ?_ | refine U.lit_t ?_ | refine U.lit_f ?_ | refine U.ob_t ?_ | refine U.ob_c (by first | (with_reducible assumption) | exact bLe (by omega) | exact bLe (by simp at *; omega)) ?_ | refine U.nv_c (by with_reducible assumption) ?_ | refine U.lw_t' (by with_reducible assumption) ?_ | refine U.lw_f' (by with_reducible assumption) ?_ | refine U.lw_c (fun hb => ?_) (fun hb => ?_)))
  (conv => whnf)
  refine loop_inv (α := List (List Int) × List (List Int)) (fun x => x.1 ++ x.2 = st ∧ x.1.length ≤ 9 ∧ (x.1.all fun r => decide (r.length ≤ 12)) = true) (fun x => (mkF [(1, .pointer (some ⟨0, 0, none⟩)), (2, .bool false), (3, .int .i64 x.1.length)], ⟨mkO [(0, some (.cells 25 [imS (sL nm), imS (gL st)] false))], 1, 0, 0⟩)) (fun x => x.2.length) ([], st) ⟨rfl, Nat.zero_le _, rfl⟩ (Cov.renO (fun k => k) rfl rfl (Nat.le_of_ble_eq_true rfl) (Nat.zero_le _) (fun _ _ => rfl) rfl (fun k hk => absurd hk (Nat.not_lt_zero k)) (.cons rfl (.row _ _ _ _ (cleanG_cells ⟨nm, st⟩) rfl) .nil) (.cons rfl (.ptr _ _ _ (by decide) rfl) (.cons rfl (.clean _ _ (.flat _ rfl) rfl) (.cons rfl (.clean _ _ (cleanI _) rfl) .nil)))) ?_
  rintro ⟨pre, rest⟩ ⟨p1, p2, p3⟩
  dsimp only at p1 p2 p3
  subst p1
  dsimp only
  rcases rest with _ | ⟨x, rest⟩
  · rw [List.append_nil] at *
    have h3b := U.lt_no gL_map pre
    (repeat' ((conv => whnf); first | refine U.lw_t ?_ | refine U.lw_f ?_ | refine U.lit_t ?_ | refine U.lit_f ?_ | refine U.ob_t ?_ | refine U.ob_c (by first | (with_reducible assumption) | exact bLe (by omega) | exact bLe (by simp at *; omega)) ?_ | refine U.nv_c (by with_reducible assumption) ?_ | refine U.lw_t' (by with_reducible assumption) ?_ | refine U.lw_f' (by with_reducible assumption) ?_ | refine U.lw_c (fun hb => ?_) (fun hb => ?_)))
    all_goals (conv => whnf)
    · have hall : ((pre.take 9).all fun r => decide (r.length ≤ 12)) = true := List.all_eq_true.2 fun r hr => List.all_eq_true.1 p3 r (List.mem_of_mem_take hr)
      rw [sL_len] at hb
      have hb : nm.length ≤ 7 := by have := of_decide_eq_true hb; omega
      refine .same (.flat _ rfl) (congrArg Value.bool ?_)
      simp only [fewB, hall, gL_len, decide_eq_true hb, Bool.true_and]
      exact decide_eq_decide.2 (by omega)
    · rw [sL_len] at hb
      have hb : ¬ nm.length ≤ 7 := by have := of_decide_eq_false hb; omega
      exact .same (.flat _ rfl) (congrArg Value.bool (by simp [fewB, hb]))
  · have h3b := U.lt_yes gL_map pre (x) rest; have h3c := U.blt_yes gL_map pre (x) rest; have h3n := U.nth_at gL_map pre (x) rest; have h3w := U.len_snoc (pre := pre) (x := x) (post := rest) (g2)
    (repeat' ((conv => whnf); first | refine U.lw_t ?_ | refine U.lw_f ?_ | refine U.lit_t ?_ | refine U.lit_f ?_ | refine U.ob_t ?_ | refine U.ob_c (by first | (with_reducible assumption) | exact bLe (by omega) | exact bLe (by simp at *; omega)) ?_ | refine U.nv_c (by with_reducible assumption) ?_ | refine U.lw_t' (by with_reducible assumption) ?_ | refine U.lw_f' (by with_reducible assumption) ?_ | refine U.lw_c (fun hb => ?_) (fun hb => ?_)))
    all_goals (conv => whnf)
    · rename_i hb0
      have hb0 : pre.length < 9 := by have := of_decide_eq_true hb0; omega
      rw [iL_len] at hb
      have hb : ¬ x.length ≤ 12 := by have := of_decide_eq_true hb; omega
      have hall : (((pre ++ x :: rest).take 9).all fun r => decide (r.length ≤ 12)) = false := Bool.eq_false_iff.2 fun h => hb (by
        have := List.all_eq_true.1 h x (by rw [List.take_append, List.mem_append]; right; obtain ⟨d, hd⟩ : ∃ d, 9 - pre.length = d + 1 := ⟨9 - pre.length - 1, by omega⟩; rw [hd]; simp)
        exact of_decide_eq_true this)
      exact .same (.flat _ rfl) (congrArg Value.bool (by simp [fewB, hall]))
    · rename_i hb0
      have hb0 : pre.length < 9 := by have := of_decide_eq_true hb0; omega
      rw [iL_len] at hb
      have hb : x.length ≤ 12 := by have := of_decide_eq_false hb; omega
      exact ⟨(pre ++ [x], rest), ⟨by simp, by simp; omega, by rw [List.all_append, p3]; simp [hb]⟩, by simp, Cov.slots (s := ⟨mkO [(0, some (.cells 25 [imS (sL nm), imS (gL (pre ++ x :: rest))] false))], 1, 0, 0⟩) (Nat.le_refl 1) ⟨rfl, rfl, congrArg some (congrArg (Value.int .i64) h3w), trivial⟩⟩
    · rename_i hb0
      have hb0 : 9 ≤ pre.length := by have := of_decide_eq_false hb0; omega
      have hall : (((pre ++ x :: rest).take 9).all fun r => decide (r.length ≤ 12)) = true := by
        rw [List.take_append_of_le_length hb0]
        exact List.all_eq_true.2 fun r hr => List.all_eq_true.1 p3 r (List.mem_of_mem_take hr)
      rw [sL_len] at hb
      have hb : nm.length ≤ 7 := by have := of_decide_eq_true hb; omega
      refine .same (.flat _ rfl) (congrArg Value.bool ?_)
      simp only [fewB, hall, gL_len, decide_eq_true hb, Bool.true_and]
      exact decide_eq_decide.2 (by omega)
    · rw [sL_len] at hb
      have hb : ¬ nm.length ≤ 7 := by have := of_decide_eq_false hb; omega
      exact .same (.flat _ rfl) (congrArg Value.bool (by simp [fewB, hb]))
end Go.Proofs.Ythekpmpcbidjiaa
