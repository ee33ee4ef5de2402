
import Derived.Test.YtblaiilfoiefiaaGreatDoorXT24
import Derived.Test.YtblaiilfoiefiaaGreatDoorXT26
namespace Go.Proofs.YtblaiilfoiefiaaGreatDoor
open Go Go.RowKit Go.Sort U
set_option linter.unusedVariables false
set_option linter.unusedSimpArgs false
set_option maxRecDepth 100000
set_option maxHeartbeats 4000000
structure VZ where
  lo : Int
  hi : Int
  m : Int
  r : Int
def encV (v : VZ) : Value := .agg ⟨[.int .i64 v.lo, .int .i64 v.hi, .int .u64 v.m, .int .u64 v.r]⟩
def botZ : VZ := ⟨1, 0, 1, 0⟩
def oneZ (n : Int) : VZ := ⟨n, n, 0, IntKind.u64.wrap n⟩
def rangeZ (lo hi : Int) : VZ := if lo > hi then botZ else if lo = hi then oneZ lo else ⟨lo, hi, 1, 0⟩
theorem one0_d : DenU Tryz.prog [] 114 [.int .i64 0] (encV ⟨0, 0, 0, 0⟩) := by
  refine denU_of_run hmixU rfl 100 20 20 fun Ts => ?_
  (repeat' ((conv => whnf); first | refine goD ?_ | refine U.lw_c (fun hb => ?_) (fun hb => ?_)))
  (conv => whnf)
  exact .same (.flat _ rfl) rfl
theorem bottom_d : DenU Tryz.prog [] 141 [] (encV botZ) := by
  refine denU_of_run hmixU rfl 100 20 20 fun Ts => ?_
  (repeat' ((conv => whnf); first | refine goD ?_ | refine U.lw_c (fun hb => ?_) (fun hb => ?_)))
  (conv => whnf)
  exact .same (.flat _ rfl) rfl
theorem minus0_d : DenU Tryz.prog [] 278 [.int .u64 0, .int .u64 0, .int .u64 1] (.int .u64 0) := by
  refine denU_of_run hmixU rfl 100 20 20 fun Ts => ?_
  (repeat' ((conv => whnf); first | refine goD ?_ | refine U.lw_c (fun hb => ?_) (fun hb => ?_)))
  (conv => whnf)
  exact .same (.flat _ rfl) rfl
theorem wu_nn (x : Int) : 0 ≤ IntKind.u64.wrap x := by rw [IntKind.wrap_u64]; omega
theorem rest1_d (n : Int) : DenU Tryz.prog [] 279 [.int .i64 n, .int .u64 1] (.int .u64 0) := by
  refine denU_of_body hmixU rfl Tryz.func279 rfl rfl rfl 0 ?_
  intro Ts
  have h1 : DenU Tryz.prog [] 278 [.int .u64 0, .int .u64 ((IntKind.u64.wrap (0 - IntKind.u64.wrap n)).tmod 1), .int .u64 1] (.int .u64 0) := by rw [Int.tmod_one]; exact minus0_d
  (repeat' ((conv => whnf); first | refine goD ?_ | refine ⟨_, h1, (by (repeat (first | exact trivial | ((conv => whnf); first | exact trivial | refine And.intro (by first | assumption | exact cleanI _ | exact cleanEs _ | exact cleanSs _ | exact cleanE _ | exact cleanIL _ | exact NoNm.flat _ rfl) ?_)))), tab0 _, ?_⟩ | refine U.lw_c (fun hb => ?_) (fun hb => ?_)))
  all_goals (conv => whnf)
  · exact .same (.flat _ rfl) (congrArg (Value.int .u64) (Int.tmod_one _))
  · exact .same (.flat _ rfl) rfl
theorem least1_d (n : Int) (h : -9223372036854775808 ≤ n ∧ n ≤ 9223372036854775807) : DenU Tryz.prog [] 241 [.agg ⟨[.int .u64 1, .int .u64 0]⟩, .int .i64 n] (.tuple ⟨[.int .i64 n, .bool true]⟩) := by
  refine denU_of_body hmixU rfl Tryz.func241 rfl rfl rfl 0 ?_
  intro Ts
  have h1 := minus0_d
  have h2 := rest1_d n
  (repeat' ((conv => whnf); first | refine goD ?_ | refine ⟨_, h1, (by (repeat (first | exact trivial | ((conv => whnf); first | exact trivial | refine And.intro (by first | assumption | exact cleanI _ | exact cleanEs _ | exact cleanSs _ | exact cleanE _ | exact cleanIL _ | exact NoNm.flat _ rfl) ?_)))), tab0 _, ?_⟩ | refine ⟨_, h2, (by (repeat (first | exact trivial | ((conv => whnf); first | exact trivial | refine And.intro (by first | assumption | exact cleanI _ | exact cleanEs _ | exact cleanSs _ | exact cleanE _ | exact cleanIL _ | exact NoNm.flat _ rfl) ?_)))), tab0 _, ?_⟩ | refine U.drawX_p (D := U.propX) 13 [] (by decide +kernel) (by decide +kernel) ?_ | refine U.lw_c (fun hb => ?_) (fun hb => ?_)))
  all_goals (conv => whnf)
  · have hb := of_decide_eq_true hb
    have := wu_nn (9223372036854775807 - IntKind.u64.wrap n)
    omega
  · exact .same (.flat _ rfl) (congrArg (fun z => Value.tuple ⟨[.int .i64 z, .bool true]⟩) (by rw [IntKind.wrap_i64, IntKind.wrap_u64, IntKind.wrap_u64]; omega))
theorem greatest1_d (n : Int) (h : -9223372036854775808 ≤ n ∧ n ≤ 9223372036854775807) : DenU Tryz.prog [] 242 [.agg ⟨[.int .u64 1, .int .u64 0]⟩, .int .i64 n] (.tuple ⟨[.int .i64 n, .bool true]⟩) := by
  refine denU_of_body hmixU rfl Tryz.func242 rfl rfl rfl 0 ?_
  intro Ts
  have h1 := minus0_d
  have h2 := rest1_d n
  (repeat' ((conv => whnf); first | refine goD ?_ | refine ⟨_, h1, (by (repeat (first | exact trivial | ((conv => whnf); first | exact trivial | refine And.intro (by first | assumption | exact cleanI _ | exact cleanEs _ | exact cleanSs _ | exact cleanE _ | exact cleanIL _ | exact NoNm.flat _ rfl) ?_)))), tab0 _, ?_⟩ | refine ⟨_, h2, (by (repeat (first | exact trivial | ((conv => whnf); first | exact trivial | refine And.intro (by first | assumption | exact cleanI _ | exact cleanEs _ | exact cleanSs _ | exact cleanE _ | exact cleanIL _ | exact NoNm.flat _ rfl) ?_)))), tab0 _, ?_⟩ | refine U.drawX_p (D := U.propX) 13 [] (by decide +kernel) (by decide +kernel) ?_ | refine U.lw_c (fun hb => ?_) (fun hb => ?_)))
  all_goals (conv => whnf)
  · have hb := of_decide_eq_true hb
    have := wu_nn (IntKind.u64.wrap n - 9223372036854775808)
    omega
  · exact .same (.flat _ rfl) (congrArg (fun z => Value.tuple ⟨[.int .i64 z, .bool true]⟩) (by rw [IntKind.wrap_i64, IntKind.wrap_u64, IntKind.wrap_u64]; omega))
theorem iof_d (lo hi : Int) : DenU Tryz.prog [] 196 [.int .i64 lo, .int .i64 hi] (if lo > hi then .agg ⟨[.int .i64 1, .int .i64 0]⟩ else .agg ⟨[.int .i64 lo, .int .i64 hi]⟩) := by
  refine denU_of_run hmixU rfl 100 20 20 fun Ts => ?_
  (repeat' ((conv => whnf); first | refine goD ?_ | refine U.lw_c (fun hb => ?_) (fun hb => ?_)))
  all_goals (conv => whnf)
  · rw [if_pos (of_decide_eq_true hb)]
    exact .same (.flat _ rfl) rfl
  · rw [if_neg (of_decide_eq_false hb)]
    exact .same (.flat _ rfl) rfl
theorem cright1_d : DenU Tryz.prog [] 239 [.agg ⟨[.int .u64 1, .int .u64 0]⟩] (.bool true) := by
  refine denU_of_run hmixU rfl 100 20 20 fun Ts => ?_
  (repeat' ((conv => whnf); first | refine goD ?_ | refine U.lw_c (fun hb => ?_) (fun hb => ?_)))
  (conv => whnf)
  exact .same (.flat _ rfl) rfl
theorem one_v (n : Int) : DenU Tryz.prog [] 114 [.int .i64 n] (encV (oneZ n)) := by
  refine denU_of_run hmixU rfl 100 20 20 fun Ts => ?_
  (repeat' ((conv => whnf); first | refine goD ?_ | refine U.lw_c (fun hb => ?_) (fun hb => ?_)))
  (conv => whnf)
  exact .same (.flat _ rfl) rfl
theorem ctop_d : DenU Tryz.prog [] 197 [] (.agg ⟨[.int .u64 1, .int .u64 0]⟩) := by
  refine denU_of_run hmixU rfl 100 20 20 fun Ts => ?_
  (repeat' ((conv => whnf); first | refine goD ?_ | refine U.lw_c (fun hb => ?_) (fun hb => ?_)))
  (conv => whnf)
  exact .same (.flat _ rfl) rfl
theorem iempty_d (lo hi : Int) : DenU Tryz.prog [] 240 [.agg ⟨[.int .i64 lo, .int .i64 hi]⟩] (.bool (decide (lo > hi))) := by
  refine denU_of_run hmixU rfl 100 20 20 fun Ts => ?_
  (repeat' ((conv => whnf); first | refine goD ?_ | refine U.lw_c (fun hb => ?_) (fun hb => ?_)))
  (conv => whnf)
  exact .same (.flat _ rfl) rfl
theorem imake_d (lo hi : Int) (hl : -9223372036854775808 ≤ lo ∧ lo ≤ 9223372036854775807) (hh : -9223372036854775808 ≤ hi ∧ hi ≤ 9223372036854775807) : DenU Tryz.prog [] 195 [.agg ⟨[.int .i64 lo, .int .i64 hi]⟩, .agg ⟨[.int .u64 1, .int .u64 0]⟩] (encV (rangeZ lo hi)) := by
  refine denU_of_body hmixU rfl Tryz.func195 rfl rfl rfl 0 ?_
  intro Ts
  have h1 := least1_d lo hl
  have h2 := greatest1_d hi hh
  have h3 := cright1_d
  have h4 := iof_d lo hi
  have h5 := bottom_d
  have h6 := one_v lo
  have h7 := iempty_d lo hi
  by_cases h : lo > hi
  · rw [decide_eq_true h] at h7
    rw [rangeZ, if_pos h]
    (repeat' ((conv => whnf); first | refine goD ?_ | refine ⟨_, h1, (by (repeat (first | exact trivial | ((conv => whnf); first | exact trivial | refine And.intro (by first | assumption | exact cleanI _ | exact cleanEs _ | exact cleanSs _ | exact cleanE _ | exact cleanIL _ | exact NoNm.flat _ rfl) ?_)))), tab0 _, ?_⟩ | refine ⟨_, h2, (by (repeat (first | exact trivial | ((conv => whnf); first | exact trivial | refine And.intro (by first | assumption | exact cleanI _ | exact cleanEs _ | exact cleanSs _ | exact cleanE _ | exact cleanIL _ | exact NoNm.flat _ rfl) ?_)))), tab0 _, ?_⟩ | refine ⟨_, h3, (by (repeat (first | exact trivial | ((conv => whnf); first | exact trivial | refine And.intro (by first | assumption | exact cleanI _ | exact cleanEs _ | exact cleanSs _ | exact cleanE _ | exact cleanIL _ | exact NoNm.flat _ rfl) ?_)))), tab0 _, ?_⟩ | refine ⟨_, h5, (by (repeat (first | exact trivial | ((conv => whnf); first | exact trivial | refine And.intro (by first | assumption | exact cleanI _ | exact cleanEs _ | exact cleanSs _ | exact cleanE _ | exact cleanIL _ | exact NoNm.flat _ rfl) ?_)))), tab0 _, ?_⟩ | refine ⟨_, h7, (by (repeat (first | exact trivial | ((conv => whnf); first | exact trivial | refine And.intro (by first | assumption | exact cleanI _ | exact cleanEs _ | exact cleanSs _ | exact cleanE _ | exact cleanIL _ | exact NoNm.flat _ rfl) ?_)))), tab0 _, ?_⟩ | refine U.lw_c (fun hb => ?_) (fun hb => ?_)))
    (conv => whnf)
    exact .same (.flat _ rfl) rfl
  · rw [decide_eq_false h] at h7
    rw [if_neg h] at h4
    rw [rangeZ, if_neg h]
    have g1 : decide (lo > hi) = false := decide_eq_false h
    by_cases he : lo = hi
    · have g2 : (lo == hi) = true := by simpa using he
      rw [if_pos he]
      (repeat' ((conv => whnf); first | refine goD ?_ | refine ⟨_, h1, (by (repeat (first | exact trivial | ((conv => whnf); first | exact trivial | refine And.intro (by first | assumption | exact cleanI _ | exact cleanEs _ | exact cleanSs _ | exact cleanE _ | exact cleanIL _ | exact NoNm.flat _ rfl) ?_)))), tab0 _, ?_⟩ | refine ⟨_, h2, (by (repeat (first | exact trivial | ((conv => whnf); first | exact trivial | refine And.intro (by first | assumption | exact cleanI _ | exact cleanEs _ | exact cleanSs _ | exact cleanE _ | exact cleanIL _ | exact NoNm.flat _ rfl) ?_)))), tab0 _, ?_⟩ | refine ⟨_, h3, (by (repeat (first | exact trivial | ((conv => whnf); first | exact trivial | refine And.intro (by first | assumption | exact cleanI _ | exact cleanEs _ | exact cleanSs _ | exact cleanE _ | exact cleanIL _ | exact NoNm.flat _ rfl) ?_)))), tab0 _, ?_⟩ | refine ⟨_, h6, (by (repeat (first | exact trivial | ((conv => whnf); first | exact trivial | refine And.intro (by first | assumption | exact cleanI _ | exact cleanEs _ | exact cleanSs _ | exact cleanE _ | exact cleanIL _ | exact NoNm.flat _ rfl) ?_)))), tab0 _, ?_⟩ | refine ⟨_, h7, (by (repeat (first | exact trivial | ((conv => whnf); first | exact trivial | refine And.intro (by first | assumption | exact cleanI _ | exact cleanEs _ | exact cleanSs _ | exact cleanE _ | exact cleanIL _ | exact NoNm.flat _ rfl) ?_)))), tab0 _, ?_⟩ | refine U.drawX_p (D := U.propX) 5 [] (by decide +kernel) (by decide +kernel) ?_ | refine U.lw_c (fun hb => ?_) (fun hb => ?_)))
      (conv => whnf)
      exact .same (.flat _ rfl) rfl
    · have g2 : (lo == hi) = false := by simpa using he
      rw [if_neg he]
      (repeat' ((conv => whnf); first | refine goD ?_ | refine ⟨_, h1, (by (repeat (first | exact trivial | ((conv => whnf); first | exact trivial | refine And.intro (by first | assumption | exact cleanI _ | exact cleanEs _ | exact cleanSs _ | exact cleanE _ | exact cleanIL _ | exact NoNm.flat _ rfl) ?_)))), tab0 _, ?_⟩ | refine ⟨_, h2, (by (repeat (first | exact trivial | ((conv => whnf); first | exact trivial | refine And.intro (by first | assumption | exact cleanI _ | exact cleanEs _ | exact cleanSs _ | exact cleanE _ | exact cleanIL _ | exact NoNm.flat _ rfl) ?_)))), tab0 _, ?_⟩ | refine ⟨_, h3, (by (repeat (first | exact trivial | ((conv => whnf); first | exact trivial | refine And.intro (by first | assumption | exact cleanI _ | exact cleanEs _ | exact cleanSs _ | exact cleanE _ | exact cleanIL _ | exact NoNm.flat _ rfl) ?_)))), tab0 _, ?_⟩ | refine ⟨_, h4, (by (repeat (first | exact trivial | ((conv => whnf); first | exact trivial | refine And.intro (by first | assumption | exact cleanI _ | exact cleanEs _ | exact cleanSs _ | exact cleanE _ | exact cleanIL _ | exact NoNm.flat _ rfl) ?_)))), tab0 _, ?_⟩ | refine ⟨_, h7, (by (repeat (first | exact trivial | ((conv => whnf); first | exact trivial | refine And.intro (by first | assumption | exact cleanI _ | exact cleanEs _ | exact cleanSs _ | exact cleanE _ | exact cleanIL _ | exact NoNm.flat _ rfl) ?_)))), tab0 _, ?_⟩ | refine U.drawX_p (D := U.propX) 5 [] (by decide +kernel) (by decide +kernel) ?_ | refine U.lw_c (fun hb => ?_) (fun hb => ?_)))
      (conv => whnf)
      exact .same (.flat _ rfl) rfl
theorem range_d (lo hi : Int) (hl : -9223372036854775808 ≤ lo ∧ lo ≤ 9223372036854775807) (hh : -9223372036854775808 ≤ hi ∧ hi ≤ 9223372036854775807) : DenU Tryz.prog [] 116 [.int .i64 lo, .int .i64 hi] (encV (rangeZ lo hi)) := by
  refine denU_of_body hmixU rfl Tryz.func116 rfl rfl rfl 0 ?_
  intro Ts
  have h3 := ctop_d
  have h4 := iof_d lo hi
  have h5 := imake_d lo hi hl hh
  by_cases h : lo > hi
  · rw [if_pos h] at h4
    have h6 := imake_d 1 0 (by decide) (by decide)
    rw [show rangeZ 1 0 = rangeZ lo hi by rw [rangeZ, rangeZ, if_pos h]; rfl] at h6
    generalize rangeZ lo hi = z at *
    (repeat' ((conv => whnf); first | refine goD ?_ | refine ⟨_, h3, (by (repeat (first | exact trivial | ((conv => whnf); first | exact trivial | refine And.intro (by first | assumption | exact cleanI _ | exact cleanEs _ | exact cleanSs _ | exact cleanE _ | exact cleanIL _ | exact NoNm.flat _ rfl) ?_)))), tab0 _, ?_⟩ | refine ⟨_, h4, (by (repeat (first | exact trivial | ((conv => whnf); first | exact trivial | refine And.intro (by first | assumption | exact cleanI _ | exact cleanEs _ | exact cleanSs _ | exact cleanE _ | exact cleanIL _ | exact NoNm.flat _ rfl) ?_)))), tab0 _, ?_⟩ | refine ⟨_, h6, (by (repeat (first | exact trivial | ((conv => whnf); first | exact trivial | refine And.intro (by first | assumption | exact cleanI _ | exact cleanEs _ | exact cleanSs _ | exact cleanE _ | exact cleanIL _ | exact NoNm.flat _ rfl) ?_)))), tab0 _, ?_⟩ | refine U.lw_c (fun hb => ?_) (fun hb => ?_)))
    (conv => whnf)
    exact .same (.flat _ rfl) rfl
  · rw [if_neg h] at h4
    generalize rangeZ lo hi = z at *
    (repeat' ((conv => whnf); first | refine goD ?_ | refine ⟨_, h3, (by (repeat (first | exact trivial | ((conv => whnf); first | exact trivial | refine And.intro (by first | assumption | exact cleanI _ | exact cleanEs _ | exact cleanSs _ | exact cleanE _ | exact cleanIL _ | exact NoNm.flat _ rfl) ?_)))), tab0 _, ?_⟩ | refine ⟨_, h4, (by (repeat (first | exact trivial | ((conv => whnf); first | exact trivial | refine And.intro (by first | assumption | exact cleanI _ | exact cleanEs _ | exact cleanSs _ | exact cleanE _ | exact cleanIL _ | exact NoNm.flat _ rfl) ?_)))), tab0 _, ?_⟩ | refine ⟨_, h5, (by (repeat (first | exact trivial | ((conv => whnf); first | exact trivial | refine And.intro (by first | assumption | exact cleanI _ | exact cleanEs _ | exact cleanSs _ | exact cleanE _ | exact cleanIL _ | exact NoNm.flat _ rfl) ?_)))), tab0 _, ?_⟩ | refine U.lw_c (fun hb => ?_) (fun hb => ?_)))
    (conv => whnf)
    exact .same (.flat _ rfl) rfl
end Go.Proofs.YtblaiilfoiefiaaGreatDoor
