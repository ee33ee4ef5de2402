/- Layer 16: results of runs as data; rows of numbers, of branches, are the same. -/
import Derived.Test.YthbhnbnlbhpooaaGreatDoorYA
import Derived.Test.YthbhnbnlbhpooaaGreatDoorUO
namespace Go.Proofs.YthbhnbnlbhpooaaGreatDoor
open Go Go.RowKit Go.Sort U
set_option linter.unusedVariables false
set_option linter.unusedSimpArgs false
set_option maxRecDepth 100000
set_option maxHeartbeats 4000000
def maxI : Nat := 9223372036854775807
def iL (l : List Int) : List Value := l.map (Value.int .i64)
theorem iL_map (l : List Int) : iL l = l.map (Value.int .i64) := rfl
def encB (b : Int × Bool) : Value := .agg ⟨[.int .i64 b.1, .bool b.2]⟩
def bL (l : List (Int × Bool)) : List Value := l.map encB
theorem bL_map (l : List (Int × Bool)) : bL l = l.map encB := rfl
theorem cleanI (n : Int) : NoNm (.int .i64 n) := .flat _ rfl
theorem cellsI : ∀ l : List Int, cellsAll (iL l) = iL l
  | [] => rfl
  | x :: l => by rw [iL, List.map_cons, cellsAll, List.flatMap_cons]; exact congrArg _ (cellsI l)
theorem cleanIL (l : List Int) : NoNm (imS (iL l)) := .ims _ fun c hc => by
  rw [cellsI] at hc
  obtain ⟨n, _, rfl⟩ := List.mem_map.1 hc
  exact cleanI n
theorem cleanBL (l : List (Int × Bool)) : NoNm (imS (bL l)) := .ims _ fun c hc => by
  obtain ⟨v, hv, hc⟩ := List.mem_flatMap.1 hc
  obtain ⟨b, _, rfl⟩ := List.mem_map.1 hv
  simp only [encB, cellsOf, List.mem_cons, List.not_mem_nil, or_false] at hc
  rcases hc with rfl | rfl
  · exact cleanI _
  · exact .flat _ rfl
theorem eqI_d (a b : List Int) (ha : a.length ≤ maxI) : DenU Tryz.prog [] 21 [imS (iL a), imS (iL b)] (.bool (decide (a = b))) := by
  refine denU_of_body hmixU rfl Tryz.func21 rfl rfl rfl 0 ?_
  intro Ts
  (conv => whnf); (repeat ((first | refine U.lw_t ?_ | refine U.lw_f ?_ | refine U.lit_t ?_ | refine U.lit_f ?_ | refine U.ob_t ?_); (conv => whnf)))
  refine lw_c (fun h => ?_) (fun h => ?_)
  · (conv => whnf); (repeat ((first | refine U.lw_t ?_ | refine U.lw_f ?_ | refine U.lit_t ?_ | refine U.lit_f ?_ | refine U.ob_t ?_); (conv => whnf)))
    have h : ¬ (iL a).length = (iL b).length := by simp only [bne_iff_ne, ne_eq] at h; omega
    rw [iL, iL, List.length_map, List.length_map] at h
    exact .same (.flat _ rfl) (by rw [decide_eq_false (fun e => h (by rw [e]))]; rfl)
  · have h : (iL a).length = (iL b).length := by simp only [bne_eq_false_iff_eq] at h; omega
    rw [iL, iL, List.length_map, List.length_map] at h
    (conv => whnf); (repeat ((first | refine U.lw_t ?_ | refine U.lw_f ?_ | refine U.lit_t ?_ | refine U.lit_f ?_ | refine U.ob_t ?_); (conv => whnf)))
    refine loop_inv (α := List Int × List Int × List Int) (fun x => x.1 ++ x.2.1 = a ∧ x.1 ++ x.2.2 = b) (fun x => (mkF [(0, imS (iL a)), (1, imS (iL b)), (4, .bool false), (12, .int .i64 (iL a).length), (13, .int .i64 x.1.length)], _)) (fun x => x.2.1.length) ([], a, b) ⟨rfl, rfl⟩ (Cov.slots (Nat.le_refl _) ⟨rfl, rfl, rfl, rfl, rfl, trivial⟩) ?_
    rintro ⟨pre, ra, rb⟩ ⟨h1, h2⟩
    dsimp only at h1 h2
    subst h1 h2
    have hlr : ra.length = rb.length := by simp at h; exact h
    rcases ra with _ | ⟨x, ra⟩
    · have hrb : rb = [] := List.eq_nil_of_length_eq_zero (by simpa using hlr.symm)
      subst hrb
      rw [List.append_nil]
      have h3b := U.lt_no iL_map pre
      (repeat' ((conv => whnf); first | refine U.lw_t ?_ | refine U.lw_f ?_ | refine U.lit_t ?_ | refine U.lit_f ?_ | refine U.ob_t ?_ | refine U.ob_c (by first | (with_reducible assumption) | exact Nat.ble_eq_true_of_le (by omega) | exact Nat.ble_eq_true_of_le (by simp at *; omega)) ?_ | refine U.nv_c (by with_reducible assumption) ?_ | refine U.lw_t' (by with_reducible assumption) ?_ | refine U.lw_f' (by with_reducible assumption) ?_ | refine U.lw_c (fun hb => ?_) (fun hb => ?_)))
      (conv => whnf)
      exact .same (.flat _ rfl) (by rw [decide_eq_true rfl]; rfl)
    · rcases rb with _ | ⟨y, rb⟩
      · simp at hlr
      · have h3b := U.lt_yes iL_map pre (x) ra; have h3c := U.blt_yes iL_map pre (x) ra; have h3n := U.nth_at iL_map pre (x) ra; have h3w := U.len_snoc (pre := pre) (x := x) (post := ra) (ha)
        have h4b := U.lt_yes iL_map pre (y) rb; have h4c := U.blt_yes iL_map pre (y) rb; have h4n := U.nth_at iL_map pre (y) rb
        (repeat' ((conv => whnf); first | refine U.lw_t ?_ | refine U.lw_f ?_ | refine U.lit_t ?_ | refine U.lit_f ?_ | refine U.ob_t ?_ | refine U.ob_c (by first | (with_reducible assumption) | exact Nat.ble_eq_true_of_le (by omega) | exact Nat.ble_eq_true_of_le (by simp at *; omega)) ?_ | refine U.nv_c (by with_reducible assumption) ?_ | refine U.drawX_p (D := U.propX) 9 [] (by decide +kernel) (by decide +kernel) ?_ | refine U.lw_t' (by with_reducible assumption) ?_ | refine U.lw_f' (by with_reducible assumption) ?_ | refine U.lw_c (fun hb => ?_) (fun hb => ?_)))
        all_goals (conv => whnf)
        · have hne : ¬ x = y := by simpa using hb
          exact .same (.flat _ rfl) (by rw [decide_eq_false (fun e => hne (by simp at e; exact e.1))]; rfl)
        · have hxy : x = y := by simpa using hb
          subst hxy
          refine ⟨(pre ++ [x], ra, rb), ⟨by simp, by simp⟩, by simp, Cov.slots (Nat.le_refl _) ⟨rfl, rfl, rfl, rfl, ?_, trivial⟩⟩
          exact congrArg some (congrArg (Value.int .i64) h3w)
theorem eqB_d (a b : List (Int × Bool)) (ha : a.length ≤ maxI) : DenU Tryz.prog [] 22 [imS (bL a), imS (bL b)] (.bool (decide (a = b))) := by
  refine denU_of_body hmixU rfl Tryz.func22 rfl rfl rfl 0 ?_
  intro Ts
  (conv => whnf); (repeat ((first | refine U.lw_t ?_ | refine U.lw_f ?_ | refine U.lit_t ?_ | refine U.lit_f ?_ | refine U.ob_t ?_); (conv => whnf)))
  refine lw_c (fun h => ?_) (fun h => ?_)
  · (conv => whnf); (repeat ((first | refine U.lw_t ?_ | refine U.lw_f ?_ | refine U.lit_t ?_ | refine U.lit_f ?_ | refine U.ob_t ?_); (conv => whnf)))
    have h : ¬ (bL a).length = (bL b).length := by simp only [bne_iff_ne, ne_eq] at h; omega
    rw [bL, bL, List.length_map, List.length_map] at h
    exact .same (.flat _ rfl) (by rw [decide_eq_false (fun e => h (by rw [e]))]; rfl)
  · have h : (bL a).length = (bL b).length := by simp only [bne_eq_false_iff_eq] at h; omega
    rw [bL, bL, List.length_map, List.length_map] at h
    (conv => whnf); (repeat ((first | refine U.lw_t ?_ | refine U.lw_f ?_ | refine U.lit_t ?_ | refine U.lit_f ?_ | refine U.ob_t ?_); (conv => whnf)))
    refine loop_inv (α := List (Int × Bool) × List (Int × Bool) × List (Int × Bool)) (fun x => x.1 ++ x.2.1 = a ∧ x.1 ++ x.2.2 = b) (fun x => (mkF [(0, imS (bL a)), (1, imS (bL b)), (4, .bool false), (12, .int .i64 (bL a).length), (13, .int .i64 x.1.length)], _)) (fun x => x.2.1.length) ([], a, b) ⟨rfl, rfl⟩ (Cov.slots (Nat.le_refl _) ⟨rfl, rfl, rfl, rfl, rfl, trivial⟩) ?_
    rintro ⟨pre, ra, rb⟩ ⟨h1, h2⟩
    dsimp only at h1 h2
    subst h1 h2
    have hlr : ra.length = rb.length := by simp at h; exact h
    rcases ra with _ | ⟨x, ra⟩
    · have hrb : rb = [] := List.eq_nil_of_length_eq_zero (by simpa using hlr.symm)
      subst hrb
      rw [List.append_nil]
      have h3b := U.lt_no bL_map pre
      (repeat' ((conv => whnf); first | refine U.lw_t ?_ | refine U.lw_f ?_ | refine U.lit_t ?_ | refine U.lit_f ?_ | refine U.ob_t ?_ | refine U.ob_c (by first | (with_reducible assumption) | exact Nat.ble_eq_true_of_le (by omega) | exact Nat.ble_eq_true_of_le (by simp at *; omega)) ?_ | refine U.nv_c (by with_reducible assumption) ?_ | refine U.lw_t' (by with_reducible assumption) ?_ | refine U.lw_f' (by with_reducible assumption) ?_ | refine U.lw_c (fun hb => ?_) (fun hb => ?_)))
      (conv => whnf)
      exact .same (.flat _ rfl) (by rw [decide_eq_true rfl]; rfl)
    · rcases rb with _ | ⟨y, rb⟩
      · simp at hlr
      · obtain ⟨x1, x2⟩ := x
        obtain ⟨y1, y2⟩ := y
        have h3b := U.lt_yes bL_map pre ((x1, x2)) ra; have h3c := U.blt_yes bL_map pre ((x1, x2)) ra; have h3n := U.nth_at bL_map pre ((x1, x2)) ra; have h3w := U.len_snoc (pre := pre) (x := (x1, x2)) (post := ra) (ha)
        have h4b := U.lt_yes bL_map pre ((y1, y2)) rb; have h4c := U.blt_yes bL_map pre ((y1, y2)) rb; have h4n := U.nth_at bL_map pre ((y1, y2)) rb
        (repeat' ((conv => whnf); first | refine U.lw_t ?_ | refine U.lw_f ?_ | refine U.lit_t ?_ | refine U.lit_f ?_ | refine U.ob_t ?_ | refine U.ob_c (by first | (with_reducible assumption) | exact Nat.ble_eq_true_of_le (by omega) | exact Nat.ble_eq_true_of_le (by simp at *; omega)) ?_ | refine U.nv_c (by with_reducible assumption) ?_ | refine U.drawX_p (D := U.propX) 9 [] (by decide +kernel) (by decide +kernel) ?_ | refine U.lw_t' (by with_reducible assumption) ?_ | refine U.lw_f' (by with_reducible assumption) ?_ | refine U.lw_c (fun hb => ?_) (fun hb => ?_)))
        refine U.ob_c (by kernel_rfl) ?_
        (repeat' ((conv => whnf); first | refine U.lw_t ?_ | refine U.lw_f ?_ | refine U.lit_t ?_ | refine U.lit_f ?_ | refine U.ob_t ?_ | refine U.ob_c (by first | (with_reducible assumption) | exact Nat.ble_eq_true_of_le (by omega) | exact Nat.ble_eq_true_of_le (by simp at *; omega)) ?_ | refine U.nv_c (by with_reducible assumption) ?_ | refine U.lw_t' (by with_reducible assumption) ?_ | refine U.lw_f' (by with_reducible assumption) ?_ | refine U.lw_c (fun hb => ?_) (fun hb => ?_)))
        all_goals (conv => whnf)
        · have hne : ¬ (x1, x2) = (y1, y2) := fun e => by cases e; simp at hb
          exact .same (.flat _ rfl) (by rw [decide_eq_false (fun e => hne (by simp at e; rw [e.1.1, e.1.2]))]; rfl)
        · have hxy : (x1, x2) = (y1, y2) := by simp at hb; rw [hb.1, hb.2]
          cases hxy
          refine ⟨(pre ++ [(x1, x2)], ra, rb), ⟨by simp, by simp⟩, by simp, Cov.slots (Nat.le_refl _) ⟨rfl, rfl, rfl, rfl, ?_, trivial⟩⟩
          exact congrArg some (congrArg (Value.int .i64) h3w)
/-- What a run did. -/
structure Rz where
  e : Int
  os : List Int
  bs : List (Int × Bool)
  n : Int
def encR (r : Rz) : Value := .agg ⟨[.int .i64 r.e, imS (iL r.os), imS (bL r.bs), .int .u64 r.n]⟩
def okR (r : Rz) : Prop := r.os.length ≤ maxI ∧ r.bs.length ≤ maxI
theorem cleanR_cells (r : Rz) : ∀ c ∈ [Value.int .i64 r.e, imS (iL r.os), imS (bL r.bs), .int .u64 r.n], NoNm c := fun c hc => by
  simp only [List.mem_cons, List.not_mem_nil, or_false] at hc
  rcases hc with rfl | rfl | rfl | rfl
  · exact cleanI _
  · exact cleanIL _
  · exact cleanBL _
  · exact .flat _ rfl
theorem cleanR (r : Rz) : NoNm (encR r) := .agg _ (cleanR_cells r)
def sameR (a b : Rz) : Bool := decide (a.e = b.e) && decide (a.n = b.n) && decide (a.os = b.os) && decide (a.bs = b.bs)
def wordS (e : Int) : Value := if e = 0 then .string ⟨#[101, 110, 100, 101, 100]⟩ else if e = 1 then .string ⟨#[115, 116, 97, 114, 118, 101, 100]⟩ else if e = 2 then .string ⟨#[116, 114, 97, 112, 112, 101, 100]⟩ else .string ⟨#[]⟩
theorem wordS_flat (e : Int) : flatV (wordS e) = true := by unfold wordS; split; rfl; split; rfl; split; rfl; rfl
theorem word_d (e : Int) : DenU Tryz.prog [] 11 [.int .i64 e] (wordS e) := by
  refine denU_of_body hmixU rfl Tryz.func11 rfl rfl rfl 0 ?_
  intro Ts
  (repeat' ((conv => whnf); first | refine U.lw_t ?_ | refine U.lw_f ?_ | refine U.lit_t ?_ | refine U.lit_f ?_ | refine U.ob_t ?_ | refine U.ob_c (by first | (with_reducible assumption) | exact Nat.ble_eq_true_of_le (by omega) | exact Nat.ble_eq_true_of_le (by simp at *; omega)) ?_ | refine U.nv_c (by with_reducible assumption) ?_ | refine U.lw_t' (by with_reducible assumption) ?_ | refine U.lw_f' (by with_reducible assumption) ?_ | refine U.lw_c (fun hb => ?_) (fun hb => ?_)))
  all_goals (conv => whnf)
  all_goals refine .same (.flat _ rfl) ?_
  all_goals simp only [beq_iff_eq, beq_eq_false_iff_ne] at *
  all_goals (unfold wordS; simp [retC, *])
theorem isame_d (a b : Rz) (ha : okR a) : DenU Tryz.prog [] 7 [encR a, encR b] (.bool (sameR a b)) := by
  refine denU_of_body hmixU rfl Tryz.func7 rfl rfl rfl 0 ?_
  intro Ts
  obtain ⟨e, os, bs, n⟩ := a
  obtain ⟨e', os', bs', n'⟩ := b
  have h1 := eqI_d os os' ha.1
  have h2 := eqB_d bs bs' ha.2
  (repeat' ((conv => whnf); first | refine U.lw_t ?_ | refine U.lw_f ?_ | refine U.lit_t ?_ | refine U.lit_f ?_ | refine U.ob_t ?_ | refine U.ob_c (by first | (with_reducible assumption) | exact Nat.ble_eq_true_of_le (by omega) | exact Nat.ble_eq_true_of_le (by simp at *; omega)) ?_ | refine U.nv_c (by with_reducible assumption) ?_ | refine ⟨_, h1, (by (repeat (first | exact trivial | ((conv => whnf); first | exact trivial | refine And.intro (by first | assumption | exact cleanI _ | exact cleanEs _ | exact cleanSs _ | exact cleanTs _ | exact cleanE _ | exact cleanIL _ | exact cleanBL _ | exact cleanR _ | exact NoNm.flat _ rfl) ?_)))), tab0 _, ?_⟩ | refine ⟨_, h2, (by (repeat (first | exact trivial | ((conv => whnf); first | exact trivial | refine And.intro (by first | assumption | exact cleanI _ | exact cleanEs _ | exact cleanSs _ | exact cleanTs _ | exact cleanE _ | exact cleanIL _ | exact cleanBL _ | exact cleanR _ | exact NoNm.flat _ rfl) ?_)))), tab0 _, ?_⟩ | refine U.lw_t' (by with_reducible assumption) ?_ | refine U.lw_f' (by with_reducible assumption) ?_ | refine U.lw_c (fun hb => ?_) (fun hb => ?_)))
  all_goals (conv => whnf)
  all_goals refine .same (.flat _ rfl) (congrArg Value.bool ?_)
  all_goals simp only [beq_iff_eq, beq_eq_false_iff_ne, ne_eq, decide_eq_true_eq, decide_eq_false_iff_not] at *
  all_goals simp [sameR, *]
def prefR (a b : Rz) : Bool := sameR a b || (decide (a.e = 1) && decide (a.n ≤ b.n) && (decide (a.os <+: b.os) && decide (a.bs <+: b.bs)))
theorem take_pre {α : Type} {a b : List α} (h : a.length ≤ b.length) : a = b.take a.length ↔ a <+: b := by
  rw [List.prefix_iff_eq_take]
theorem iL_take (l : List Int) (n : Nat) : (iL l).take n = iL (l.take n) := by rw [iL, iL, List.map_take]
theorem bL_take (l : List (Int × Bool)) (n : Nat) : (bL l).take n = bL (l.take n) := by rw [bL, bL, List.map_take]
theorem iL_part (l : List Int) (n : List Int) : List.take ((iL n).length - 0) (List.drop 0 (iL l)) = iL (l.take n.length) := by rw [Nat.sub_zero, List.drop_zero, iL_take, show (iL n).length = n.length from List.length_map ..]
theorem bL_part (l : List (Int × Bool)) (n : List (Int × Bool)) : List.take ((bL n).length - 0) (List.drop 0 (bL l)) = bL (l.take n.length) := by rw [Nat.sub_zero, List.drop_zero, bL_take, show (bL n).length = n.length from List.length_map ..]
theorem pre_dec {α : Type} [DecidableEq α] {a b : List α} : decide (a = b.take a.length) = decide (a <+: b) := decide_eq_decide.2 List.prefix_iff_eq_take.symm
theorem not_pre {α : Type} {a b : List α} (h : ¬ a.length ≤ b.length) : ¬ a <+: b := fun hp => h hp.length_le
theorem ipref_d (a b : Rz) (ha : okR a) : DenU Tryz.prog [] 9 [encR a, encR b] (.bool (prefR a b)) := by
  refine denU_of_body hmixU rfl Tryz.func9 rfl rfl rfl 0 ?_
  intro Ts
  have h0 := isame_d a b ha
  obtain ⟨e, os, bs, n⟩ := a
  obtain ⟨e', os', bs', n'⟩ := b
  have h1 : DenU Tryz.prog [] 21 [imS (iL os), imS (List.take ((iL os).length - 0) (List.drop 0 (iL os')))] (.bool (decide (os <+: os'))) := by
    rw [iL_part, ← pre_dec]; exact eqI_d _ _ ha.1
  have h2 : DenU Tryz.prog [] 22 [imS (bL bs), imS (List.take ((bL bs).length - 0) (List.drop 0 (bL bs')))] (.bool (decide (bs <+: bs'))) := by
    rw [bL_part, ← pre_dec]; exact eqB_d _ _ ha.2
  have c0 := cleanR ⟨e, os, bs, n⟩
  have c1 := cleanR ⟨e', os', bs', n'⟩
  have c2 : NoNm (imS (List.take ((iL os).length - 0) (List.drop 0 (iL os')))) := by rw [iL_part]; exact cleanIL _
  have c3 : NoNm (imS (List.take ((bL bs).length - 0) (List.drop 0 (bL bs')))) := by rw [bL_part]; exact cleanBL _
  by_cases hl1 : os.length ≤ os'.length
  · have g1 : (decide (((iL os).length : Int) > ((iL os').length : Int))) = false := by rw [iL, iL, List.length_map, List.length_map]; exact decide_eq_false (by omega)
    by_cases hl2 : bs.length ≤ bs'.length
    · have g2 : (decide (((bL bs).length : Int) > ((bL bs').length : Int))) = false := by rw [bL, bL, List.length_map, List.length_map]; exact decide_eq_false (by omega)
      (repeat' ((conv => whnf); first | refine U.lw_t ?_ | refine U.lw_f ?_ | refine U.lit_t ?_ | refine U.lit_f ?_ | refine U.ob_t ?_ | refine U.ob_c (Bool.and_eq_true_iff.2 ⟨Bool.and_eq_true_iff.2 ⟨rfl, Nat.ble_eq_true_of_le (by rw [iL, iL, List.length_map, List.length_map]; exact hl1)⟩, rfl⟩) ?_ | refine U.ob_c (Bool.and_eq_true_iff.2 ⟨Bool.and_eq_true_iff.2 ⟨rfl, Nat.ble_eq_true_of_le (by rw [bL, bL, List.length_map, List.length_map]; exact hl2)⟩, rfl⟩) ?_ | refine U.ob_c (by first | (with_reducible assumption) | exact Nat.ble_eq_true_of_le (by omega) | exact Nat.ble_eq_true_of_le (by simp at *; omega)) ?_ | refine U.nv_c (by with_reducible assumption) ?_ | refine ⟨_, h0, (by (repeat (first | exact trivial | ((conv => whnf); first | exact trivial | refine And.intro (by first | assumption | exact cleanI _ | exact cleanEs _ | exact cleanSs _ | exact cleanTs _ | exact cleanE _ | exact cleanIL _ | exact cleanBL _ | exact cleanR _ | exact NoNm.flat _ rfl) ?_)))), tab0 _, ?_⟩ | refine ⟨_, h1, (by (repeat (first | exact trivial | ((conv => whnf); first | exact trivial | refine And.intro (by first | assumption | exact cleanI _ | exact cleanEs _ | exact cleanSs _ | exact cleanTs _ | exact cleanE _ | exact cleanIL _ | exact cleanBL _ | exact cleanR _ | exact NoNm.flat _ rfl) ?_)))), tab0 _, ?_⟩ | refine ⟨_, h2, (by (repeat (first | exact trivial | ((conv => whnf); first | exact trivial | refine And.intro (by first | assumption | exact cleanI _ | exact cleanEs _ | exact cleanSs _ | exact cleanTs _ | exact cleanE _ | exact cleanIL _ | exact cleanBL _ | exact cleanR _ | exact NoNm.flat _ rfl) ?_)))), tab0 _, ?_⟩ | refine U.drawX_p (D := U.propX) 8 [] (by decide +kernel) (by decide +kernel) ?_ | refine U.drawX_p (D := U.propX) 17 [] (by decide +kernel) (by decide +kernel) ?_ | refine U.lw_t' (by with_reducible assumption) ?_ | refine U.lw_f' (by with_reducible assumption) ?_ | refine U.lw_c (fun hb => ?_) (fun hb => ?_)))
      all_goals (conv => whnf)
      all_goals refine .same (.flat _ rfl) (congrArg Value.bool ?_)
      all_goals simp only [beq_iff_eq, beq_eq_false_iff_ne, ne_eq, decide_eq_true_eq, decide_eq_false_iff_not, bne_iff_ne, bne_eq_false_iff_eq, gt_iff_lt, Int.not_lt] at *
      all_goals unfold prefR
      all_goals generalize sameR _ _ = q at *
      all_goals (simp [*] <;> (intro h; omega))
    · have g2 : (decide (((bL bs).length : Int) > ((bL bs').length : Int))) = true := by rw [bL, bL, List.length_map, List.length_map]; exact decide_eq_true (by omega)
      have hnp := not_pre hl2
      (repeat' ((conv => whnf); first | refine U.lw_t ?_ | refine U.lw_f ?_ | refine U.lit_t ?_ | refine U.lit_f ?_ | refine U.ob_t ?_ | refine U.ob_c (by first | (with_reducible assumption) | exact Nat.ble_eq_true_of_le (by omega) | exact Nat.ble_eq_true_of_le (by simp at *; omega)) ?_ | refine U.nv_c (by with_reducible assumption) ?_ | refine ⟨_, h0, (by (repeat (first | exact trivial | ((conv => whnf); first | exact trivial | refine And.intro (by first | assumption | exact cleanI _ | exact cleanEs _ | exact cleanSs _ | exact cleanTs _ | exact cleanE _ | exact cleanIL _ | exact cleanBL _ | exact cleanR _ | exact NoNm.flat _ rfl) ?_)))), tab0 _, ?_⟩ | refine U.drawX_p (D := U.propX) 8 [] (by decide +kernel) (by decide +kernel) ?_ | refine U.drawX_p (D := U.propX) 17 [] (by decide +kernel) (by decide +kernel) ?_ | refine U.lw_t' (by with_reducible assumption) ?_ | refine U.lw_f' (by with_reducible assumption) ?_ | refine U.lw_c (fun hb => ?_) (fun hb => ?_)))
      all_goals (conv => whnf)
      all_goals refine .same (.flat _ rfl) (congrArg Value.bool ?_)
      all_goals simp only [beq_iff_eq, beq_eq_false_iff_ne, ne_eq, decide_eq_true_eq, decide_eq_false_iff_not, bne_iff_ne, bne_eq_false_iff_eq, gt_iff_lt, Int.not_lt] at *
      all_goals unfold prefR
      all_goals generalize sameR _ _ = q at *
      all_goals (simp [*] <;> (intro h; omega))
  · have g1 : (decide (((iL os).length : Int) > ((iL os').length : Int))) = true := by rw [iL, iL, List.length_map, List.length_map]; exact decide_eq_true (by omega)
    have hnp := not_pre hl1
    (repeat' ((conv => whnf); first | refine U.lw_t ?_ | refine U.lw_f ?_ | refine U.lit_t ?_ | refine U.lit_f ?_ | refine U.ob_t ?_ | refine U.ob_c (by first | (with_reducible assumption) | exact Nat.ble_eq_true_of_le (by omega) | exact Nat.ble_eq_true_of_le (by simp at *; omega)) ?_ | refine U.nv_c (by with_reducible assumption) ?_ | refine ⟨_, h0, (by (repeat (first | exact trivial | ((conv => whnf); first | exact trivial | refine And.intro (by first | assumption | exact cleanI _ | exact cleanEs _ | exact cleanSs _ | exact cleanTs _ | exact cleanE _ | exact cleanIL _ | exact cleanBL _ | exact cleanR _ | exact NoNm.flat _ rfl) ?_)))), tab0 _, ?_⟩ | refine U.drawX_p (D := U.propX) 8 [] (by decide +kernel) (by decide +kernel) ?_ | refine U.drawX_p (D := U.propX) 17 [] (by decide +kernel) (by decide +kernel) ?_ | refine U.lw_t' (by with_reducible assumption) ?_ | refine U.lw_f' (by with_reducible assumption) ?_ | refine U.lw_c (fun hb => ?_) (fun hb => ?_)))
    all_goals (conv => whnf)
    all_goals refine .same (.flat _ rfl) (congrArg Value.bool ?_)
    all_goals simp only [beq_iff_eq, beq_eq_false_iff_ne, ne_eq, decide_eq_true_eq, decide_eq_false_iff_not, bne_iff_ne, bne_eq_false_iff_eq, gt_iff_lt, Int.not_lt] at *
    all_goals unfold prefR
    all_goals generalize sameR _ _ = q at *
    all_goals (simp [*] <;> (intro h; omega))
end Go.Proofs.YthbhnbnlbhpooaaGreatDoor
