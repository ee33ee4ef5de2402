/- Expressions of layer 13 as data; how many parts an expression has. -/
import Derived.Test.YthbhnbnlbhpooaaUE
namespace Go.Proofs.Ythbhnbnlbhpooaa
open Go Go.RowKit Go.Sort U
set_option linter.unusedVariables false
set_option linter.unusedSimpArgs false
set_option maxRecDepth 100000
set_option maxHeartbeats 4000000
theorem hmixU : Try.prog.follows .mixedOrders = true := by kernel_rfl
inductive Ex where
  | mk (k n a o : Int) (l : List Ex)
mutual
def encE : Ex → Value
  | .mk k n a o l => .agg ⟨[.int .i64 k, .int .i64 n, .int .i64 a, .int .i64 o, imS (encEs l)]⟩
def encEs : List Ex → List Value
  | [] => []
  | e :: l => encE e :: encEs l
end
theorem encEs_map : ∀ l, encEs l = l.map encE
  | [] => rfl
  | e :: l => by rw [encEs, encEs_map l]; rfl
def maxI : Nat := 9223372036854775807
mutual
def okE : Ex → Prop
  | .mk _ _ _ _ l => l.length ≤ maxI ∧ okEs l
def okEs : List Ex → Prop
  | [] => True
  | e :: l => okE e ∧ okEs l
end
theorem okEs_mem : ∀ {l : List Ex}, okEs l → ∀ e ∈ l, okE e
  | [], _, e, h => by cases h
  | x :: l, h, e, he => by
    rcases List.mem_cons.1 he with rfl | he
    · exact h.1
    · exact okEs_mem h.2 e he
theorem cleanE_cells : ∀ (e : Ex), ∀ c ∈ cellsOf (encE e), NoNm c
  | .mk k n a o l, c, hc => by
    simp only [encE, cellsOf, List.mem_cons, List.not_mem_nil, or_false] at hc
    rcases hc with rfl | rfl | rfl | rfl | rfl
    · exact .flat _ rfl
    · exact .flat _ rfl
    · exact .flat _ rfl
    · exact .flat _ rfl
    · refine .ims _ fun c hc => ?_
      rw [encEs_map] at hc
      obtain ⟨v, hv, hc⟩ := List.mem_flatMap.1 hc
      obtain ⟨e, he, rfl⟩ := List.mem_map.1 hv
      exact cleanE_cells e c hc
theorem cleanE (e : Ex) : NoNm (encE e) := by
  have h := cleanE_cells e
  cases e with
  | mk k n a o l =>
    rw [encE] at h ⊢
    exact .agg _ h
theorem cleanI (n : Int) : NoNm (.int .i64 n) := .flat _ rfl
theorem wadd1 {i : Nat} (h : i < 9223372036854775807) : IntKind.i64.wrap ((i : Int) + 1) = ((i + 1 : Nat) : Int) := by
  rw [IntKind.wrap_i64]
  omega
mutual
def cntE : Ex → Int → Int → Int
  | .mk _ _ _ _ l, m, d => if d = 0 then IntKind.i64.wrap (m + 1) else cntEs l m d 1
def cntEs : List Ex → Int → Int → Int → Int
  | [], _, _, n => n
  | e :: l, m, d, n => if n ≤ m then cntEs l m d (IntKind.i64.wrap (n + cntE e (IntKind.i64.wrap (m - n)) (IntKind.i64.wrap (d - 1)))) else n
end
theorem nth_mid {α : Type} (x : α) : ∀ (l m : List α), nth (l ++ x :: m) l.length = some x
  | [], m => rfl
  | y :: l, m => nth_mid x l m
theorem irExpr_d (k n a o : Int) (l : List Ex) (hl : l.length ≤ maxI) (ih : ∀ e ∈ l, ∀ m d, DenU Try.prog [] 20 [encE e, .int .i64 m, .int .i64 d] (.int .i64 (cntE e m d))) (m d : Int) : DenU Try.prog [] 20 [encE (.mk k n a o l), .int .i64 m, .int .i64 d] (.int .i64 (cntE (.mk k n a o l) m d)) := by
  refine denU_of_body hmixU rfl Try.func20 rfl rfl rfl 0 ?_
  intro Ts
  (conv => whnf); (repeat ((first | refine U.lw_t ?_ | refine U.lw_f ?_ | refine U.lit_t ?_ | refine U.lit_f ?_ | refine U.ob_t ?_); (conv => whnf)))
  refine U.lw_c (fun h => ?_) (fun h => ?_)
  · (conv => whnf); (repeat ((first | refine U.lw_t ?_ | refine U.lw_f ?_ | refine U.lit_t ?_ | refine U.lit_f ?_ | refine U.ob_t ?_); (conv => whnf)))
    have hd : d = 0 := by simpa using h
    rw [cntE, if_pos hd]
    exact .clean _ (cleanI _)
  · have hd : ¬ d = 0 := by simpa using h
    rw [cntE, if_neg hd]
    (conv => whnf); (repeat ((first | refine U.lw_t ?_ | refine U.lw_f ?_ | refine U.lit_t ?_ | refine U.lit_f ?_ | refine U.ob_t ?_); (conv => whnf)))
    refine loop_inv (α := List Ex × List Ex × Int) (fun x => x.1 ++ x.2.1 = l ∧ cntEs x.2.1 m d x.2.2 = cntEs l m d 1) (fun x => (mkF [(1, .int .i64 m), (2, .int .i64 d), (3, .pointer (some ⟨0, 0, none⟩)), (7, .int .i64 x.2.2), (8, .int .i64 x.1.length)], _)) (fun x => x.2.1.length) ([], l, 1) ⟨rfl, rfl⟩ (Cov.slots (Nat.le_refl _) ⟨rfl, rfl, rfl, rfl, rfl, trivial⟩) ?_
    rintro ⟨pre, rest, c⟩ ⟨h1, h2⟩
    dsimp only at h1 h2
    (conv => whnf); (repeat ((first | refine U.lw_t ?_ | refine U.lw_f ?_ | refine U.lit_t ?_ | refine U.lit_f ?_ | refine U.ob_t ?_); (conv => whnf)))
    refine U.lw_c (fun h => ?_) (fun h => ?_)
    · have h := of_decide_eq_true h
      dsimp only at h
      rw [encEs_map, List.length_map, ← h1, List.length_append] at h
      cases rest with
      | nil => simp at h
      | cons e post =>
      (conv => whnf); (repeat ((first | refine U.lw_t ?_ | refine U.lw_f ?_ | refine U.lit_t ?_ | refine U.lit_f ?_ | refine U.ob_t ?_); (conv => whnf)))
      refine U.lw_c (fun h3 => ?_) (fun h3 => ?_)
      · replace h3 : c ≤ m := of_decide_eq_true h3
        (conv => whnf); (repeat ((first | refine U.lw_t ?_ | refine U.lw_f ?_ | refine U.lit_t ?_ | refine U.lit_f ?_ | refine U.ob_t ?_); (conv => whnf)))
        refine ⟨Nat.ble_eq_true_of_le (by
          show pre.length + 1 ≤ (encEs l).length
          rw [encEs_map, List.length_map, ← h1]; simp), ?_⟩
        (conv => whnf); (repeat ((first | refine U.lw_t ?_ | refine U.lw_f ?_ | refine U.lit_t ?_ | refine U.lit_f ?_ | refine U.ob_t ?_); (conv => whnf)))
        refine ⟨encE e, by
          show nth (encEs l) pre.length = _
          have := nth_mid (encE e) (pre.map encE) (post.map encE)
          rw [List.length_map] at this
          rw [encEs_map, ← h1, List.map_append, List.map_cons]
          exact this, ?_⟩
        obtain ⟨k1, n1, a1, o1, l1⟩ := e
        (conv => whnf); (repeat ((first | refine U.lw_t ?_ | refine U.lw_f ?_ | refine U.lit_t ?_ | refine U.lit_f ?_ | refine U.ob_t ?_); (conv => whnf)))
        refine ⟨_, ih (.mk k1 n1 a1 o1 l1) (by rw [← h1]; simp) _ _, ⟨cleanE (.mk k1 n1 a1 o1 l1), cleanI _, cleanI _, trivial⟩, tab0 _, ?_⟩
        (conv => whnf); (repeat ((first | refine U.lw_t ?_ | refine U.lw_f ?_ | refine U.lit_t ?_ | refine U.lit_f ?_ | refine U.ob_t ?_); (conv => whnf)))
        refine ⟨(pre ++ [.mk k1 n1 a1 o1 l1], post, IntKind.i64.wrap (c + cntE (.mk k1 n1 a1 o1 l1) (IntKind.i64.wrap (m - c)) (IntKind.i64.wrap (d - 1)))), ⟨by rw [← h1]; simp, ?_⟩, by simp, Cov.slots (Nat.le_refl _) ⟨rfl, rfl, rfl, rfl, ?_, trivial⟩⟩
        · rw [← h2, cntEs, if_pos h3]
        · have hlen : pre.length < 9223372036854775807 := by
            have : l.length ≤ maxI := hl
            unfold maxI at this
            rw [← h1, List.length_append, List.length_cons] at this
            omega
          show some (Value.int .i64 (IntKind.i64.wrap ((pre.length : Int) + 1))) = some (.int .i64 ((pre ++ [Ex.mk k1 n1 a1 o1 l1]).length : Int))
          rw [wadd1 hlen, List.length_append]
          rfl
      · (conv => whnf); (repeat ((first | refine U.lw_t ?_ | refine U.lw_f ?_ | refine U.lit_t ?_ | refine U.lit_f ?_ | refine U.ob_t ?_); (conv => whnf)))
        replace h3 : ¬ c ≤ m := of_decide_eq_false h3
        exact .same (cleanI _) (by rw [← h2, cntEs, if_neg h3]; rfl)
    · have h := of_decide_eq_false h
      dsimp only at h
      rw [encEs_map, List.length_map, ← h1, List.length_append] at h
      have hr : rest = [] := List.eq_nil_of_length_eq_zero (by omega)
      subst hr
      (conv => whnf); (repeat ((first | refine U.lw_t ?_ | refine U.lw_f ?_ | refine U.lit_t ?_ | refine U.lit_f ?_ | refine U.ob_t ?_); (conv => whnf)))
      exact .same (cleanI _) (by rw [← h2, cntEs]; rfl)
theorem irExpr_all : ∀ (e : Ex), okE e → ∀ m d, DenU Try.prog [] 20 [encE e, .int .i64 m, .int .i64 d] (.int .i64 (cntE e m d))
  | .mk k n a o l, h, m, d => by
    rw [okE] at h
    exact irExpr_d k n a o l h.1 (fun e he m d => irExpr_all e (okEs_mem h.2 e he) m d) m d
end Go.Proofs.Ythbhnbnlbhpooaa
