/- Layer 13's reference: an expression is the same as itself; all trap sites. -/
import Derived.Test.YthbhnbnlbhpooaaTE
namespace Go.Proofs.Ythbhnbnlbhpooaa
open Go Go.RowKit Go.Sort U
set_option linter.unusedVariables false
set_option linter.unusedSimpArgs false
set_option maxRecDepth 100000
set_option maxHeartbeats 4000000
theorem exprTraps_all : ∀ (n : Nat) (e : Ex), szE e ≤ n → n ≤ 1000 → DenU Try.prog [] 17 [encE e] (imS (encTs (trE e)))
  | 0, e, h, _ => by have := szE_pos e; omega
  | n + 1, .mk k m a o l, h, hn => by
    rw [szE] at h
    exact exprTraps_d k m a o l (by omega) fun e he => exprTraps_all n e (by have := szEs_mem he; omega) (by omega)
theorem SameExpr_d (k n a o : Int) (l : List Ex) (hl : szEs l ≤ 1000) (ih : ∀ e ∈ l, DenU Try.prog [] 9 [encE e, encE e] (.bool true)) : DenU Try.prog [] 9 [encE (.mk k n a o l), encE (.mk k n a o l)] (.bool true) := by
  refine denU_of_body hmixU rfl Try.func9 rfl rfl rfl 0 ?_
  intro Ts
  (conv => whnf); (repeat ((first | refine U.lw_t ?_ | refine U.lw_f ?_ | refine U.lit_t ?_ | refine U.lit_f ?_ | refine U.ob_t ?_); (conv => whnf)))
  (repeat (refine ⟨false, by simp, ?_⟩; (conv => whnf); (repeat ((first | refine U.lw_t ?_ | refine U.lw_f ?_ | refine U.lit_t ?_ | refine U.lit_f ?_ | refine U.ob_t ?_); (conv => whnf)))))
  refine loop_inv (α := List Ex × List Ex) (fun x => x.1 ++ x.2 = l) (fun x => (mkF [(2, .pointer (some ⟨0, 0, none⟩)), (3, .pointer (some ⟨1, 0, none⟩)), (4, .bool false), (5, .int .i64 x.1.length)], ⟨mkO [(0, some (.cells 50 [.int .i64 k, .int .i64 n, .int .i64 a, .int .i64 o, imS (encEs l)] false)), (1, some (.cells 50 [.int .i64 k, .int .i64 n, .int .i64 a, .int .i64 o, imS (encEs l)] false))], 2, 0, 0⟩)) (fun x => x.2.length) ([], l) rfl
    (Cov.renO (fun k => k) rfl rfl (Nat.le_of_ble_eq_true rfl) (Nat.zero_le _) (fun _ _ => rfl) rfl (fun k hk => absurd hk (Nat.not_lt_zero k)) (by (repeat (first | refine blksO.cons rfl (.cells _ _ _ _ (by (repeat (refine RenL.cons (by (first | (with_reducible exact RenV.clean _ _ (cleanI _) rfl) | (with_reducible exact RenV.clean _ _ (cleanEs _) rfl) | (with_reducible exact RenV.clean _ _ (cleanSs _) rfl) | exact RenV.clean _ _ (cleanI _) (congrArg (Value.int IntKind.i64) (Eq.symm (by with_reducible assumption))) | exact RenV.clean _ _ (cleanI _) (congrArg (Value.int IntKind.i64) (by with_reducible assumption)) | (with_reducible exact RenV.clean _ _ (.flat _ rfl) rfl) | exact RenV.ptr _ _ _ (by decide) rfl | exact RenV.ofRow (by decide) rfl rfl | exact RenV.clean _ _ (.flat _ rfl) rfl | exact RenV.ptr _ _ _ (by decide) rfl | (refine RenV.sl _ _ _ _ _ _ _ (by decide) rfl ?_ ?_ <;> (simp [encEs_map]; done)) | (refine RenV.sl _ _ _ _ _ _ _ (by decide) rfl ?_ ?_ <;> (simp [encSs_map]; done)) | exact RenV.clean _ _ (cleanI _) rfl | exact RenV.clean _ _ (cleanEs _) rfl | exact RenV.clean _ _ (cleanSs _) rfl)) ?_)); exact RenL.nil)) ?_ | refine blksO.none ?_ | exact blksO.nil))) (by (repeat (refine slotsRen.cons rfl (by (first | (with_reducible exact RenV.clean _ _ (cleanI _) rfl) | (with_reducible exact RenV.clean _ _ (cleanEs _) rfl) | (with_reducible exact RenV.clean _ _ (cleanSs _) rfl) | exact RenV.clean _ _ (cleanI _) (congrArg (Value.int IntKind.i64) (Eq.symm (by with_reducible assumption))) | exact RenV.clean _ _ (cleanI _) (congrArg (Value.int IntKind.i64) (by with_reducible assumption)) | (with_reducible exact RenV.clean _ _ (.flat _ rfl) rfl) | exact RenV.ptr _ _ _ (by decide) rfl | exact RenV.ofRow (by decide) rfl rfl | exact RenV.clean _ _ (.flat _ rfl) rfl | exact RenV.ptr _ _ _ (by decide) rfl | (refine RenV.sl _ _ _ _ _ _ _ (by decide) rfl ?_ ?_ <;> (simp [encEs_map]; done)) | (refine RenV.sl _ _ _ _ _ _ _ (by decide) rfl ?_ ?_ <;> (simp [encSs_map]; done)) | exact RenV.clean _ _ (cleanI _) rfl | exact RenV.clean _ _ (cleanEs _) rfl | exact RenV.clean _ _ (cleanSs _) rfl)) ?_)); exact slotsRen.nil)) ?_
  rintro ⟨pre, rest⟩ h1
  dsimp only at h1
  (conv => whnf); (repeat ((first | refine U.lw_t ?_ | refine U.lw_f ?_ | refine U.lit_t ?_ | refine U.lit_f ?_ | refine U.ob_t ?_); (conv => whnf)))
  refine U.lw_c (fun h => ?_) (fun h => ?_)
  · have h := of_decide_eq_true h
    dsimp only at h
    rw [encEs_map, List.length_map, ← h1, List.length_append] at h
    cases rest with
    | nil => simp at h
    | cons e post =>
    have hb : Nat.blt pre.length (encEs l).length = true := Nat.ble_eq_true_of_le (by
      show pre.length + 1 ≤ (encEs l).length
      rw [encEs_map, List.length_map, ← h1]; simp)
    have hnt : nth (encEs l) pre.length = some (encE e) := by
      have := nth_mid (encE e) (pre.map encE) (post.map encE)
      rw [List.length_map] at this
      rw [encEs_map, ← h1, List.map_append, List.map_cons]
      exact this
    have hwr : IntKind.i64.wrap ((pre.length : Int) + 1) = ((pre ++ [e]).length : Int) := by
      rw [wadd1 (by have := congrArg List.length h1; have := szEs_len l; simp at *; omega), List.length_append]; rfl
    (conv => whnf); (repeat ((first | refine U.lw_t ?_ | refine U.lw_f ?_ | refine U.lit_t ?_ | refine U.lit_f ?_ | refine U.ob_t ?_); (conv => whnf)))
    refine U.drawX_p (D := U.propX) 12 [] (by kernel_rfl) (by kernel_rfl) ?_; (conv => whnf); (repeat ((first | refine U.lw_t ?_ | refine U.lw_f ?_ | refine U.lit_t ?_ | refine U.lit_f ?_ | refine U.ob_t ?_); (conv => whnf)))
    refine ⟨hb, ?_⟩
    (conv => whnf); (repeat ((first | refine U.lw_t ?_ | refine U.lw_f ?_ | refine U.lit_t ?_ | refine U.lit_f ?_ | refine U.ob_t ?_); (conv => whnf)))
    refine ⟨_, hnt, ?_⟩
    have ihe := ih e (by rw [← h1]; simp)
    obtain ⟨k1, n1, a1, o1, l1⟩ := e
    (conv => whnf); (repeat ((first | refine U.lw_t ?_ | refine U.lw_f ?_ | refine U.lit_t ?_ | refine U.lit_f ?_ | refine U.ob_t ?_); (conv => whnf)))
    refine ⟨hb, ?_⟩
    (conv => whnf); (repeat ((first | refine U.lw_t ?_ | refine U.lw_f ?_ | refine U.lit_t ?_ | refine U.lit_f ?_ | refine U.ob_t ?_); (conv => whnf)))
    refine ⟨_, hnt, ?_⟩
    (conv => whnf); (repeat ((first | refine U.lw_t ?_ | refine U.lw_f ?_ | refine U.lit_t ?_ | refine U.lit_f ?_ | refine U.ob_t ?_); (conv => whnf)))
    refine ⟨_, ihe, ⟨cleanE (.mk k1 n1 a1 o1 l1), cleanE (.mk k1 n1 a1 o1 l1), trivial⟩, tab0 _, ?_⟩
    (conv => whnf); (repeat ((first | refine U.lw_t ?_ | refine U.lw_f ?_ | refine U.lit_t ?_ | refine U.lit_f ?_ | refine U.ob_t ?_); (conv => whnf)))
    refine ⟨(pre ++ [.mk k1 n1 a1 o1 l1], post), by rw [← h1]; simp, by simp, Cov.renO (fun k => k) rfl rfl (Nat.le_of_ble_eq_true rfl) (Nat.zero_le _) (fun k hk => rfl) rfl (fun k hk => absurd hk (Nat.not_lt_zero k)) (by (repeat (first | refine blksO.cons rfl (.cells _ _ _ _ (by (repeat (refine RenL.cons (by (first | (with_reducible exact RenV.clean _ _ (cleanI _) rfl) | (with_reducible exact RenV.clean _ _ (cleanEs _) rfl) | (with_reducible exact RenV.clean _ _ (cleanSs _) rfl) | exact RenV.clean _ _ (cleanI _) (congrArg (Value.int IntKind.i64) (Eq.symm (by with_reducible assumption))) | exact RenV.clean _ _ (cleanI _) (congrArg (Value.int IntKind.i64) (by with_reducible assumption)) | (with_reducible exact RenV.clean _ _ (.flat _ rfl) rfl) | exact RenV.ptr _ _ _ (by decide) rfl | exact RenV.ofRow (by decide) rfl rfl | exact RenV.clean _ _ (.flat _ rfl) rfl | exact RenV.ptr _ _ _ (by decide) rfl | (refine RenV.sl _ _ _ _ _ _ _ (by decide) rfl ?_ ?_ <;> (simp [encEs_map]; done)) | (refine RenV.sl _ _ _ _ _ _ _ (by decide) rfl ?_ ?_ <;> (simp [encSs_map]; done)) | exact RenV.clean _ _ (cleanI _) rfl | exact RenV.clean _ _ (cleanEs _) rfl | exact RenV.clean _ _ (cleanSs _) rfl)) ?_)); exact RenL.nil)) ?_ | refine blksO.none ?_ | exact blksO.nil))) (.cons rfl (by (first | (with_reducible exact RenV.clean _ _ (cleanI _) rfl) | (with_reducible exact RenV.clean _ _ (cleanEs _) rfl) | (with_reducible exact RenV.clean _ _ (cleanSs _) rfl) | exact RenV.clean _ _ (cleanI _) (congrArg (Value.int IntKind.i64) (Eq.symm (by with_reducible assumption))) | exact RenV.clean _ _ (cleanI _) (congrArg (Value.int IntKind.i64) (by with_reducible assumption)) | (with_reducible exact RenV.clean _ _ (.flat _ rfl) rfl) | exact RenV.ptr _ _ _ (by decide) rfl | exact RenV.ofRow (by decide) rfl rfl | exact RenV.clean _ _ (.flat _ rfl) rfl | exact RenV.ptr _ _ _ (by decide) rfl | (refine RenV.sl _ _ _ _ _ _ _ (by decide) rfl ?_ ?_ <;> (simp [encEs_map]; done)) | (refine RenV.sl _ _ _ _ _ _ _ (by decide) rfl ?_ ?_ <;> (simp [encSs_map]; done)) | exact RenV.clean _ _ (cleanI _) rfl | exact RenV.clean _ _ (cleanEs _) rfl | exact RenV.clean _ _ (cleanSs _) rfl)) (.cons rfl (by (first | (with_reducible exact RenV.clean _ _ (cleanI _) rfl) | (with_reducible exact RenV.clean _ _ (cleanEs _) rfl) | (with_reducible exact RenV.clean _ _ (cleanSs _) rfl) | exact RenV.clean _ _ (cleanI _) (congrArg (Value.int IntKind.i64) (Eq.symm (by with_reducible assumption))) | exact RenV.clean _ _ (cleanI _) (congrArg (Value.int IntKind.i64) (by with_reducible assumption)) | (with_reducible exact RenV.clean _ _ (.flat _ rfl) rfl) | exact RenV.ptr _ _ _ (by decide) rfl | exact RenV.ofRow (by decide) rfl rfl | exact RenV.clean _ _ (.flat _ rfl) rfl | exact RenV.ptr _ _ _ (by decide) rfl | (refine RenV.sl _ _ _ _ _ _ _ (by decide) rfl ?_ ?_ <;> (simp [encEs_map]; done)) | (refine RenV.sl _ _ _ _ _ _ _ (by decide) rfl ?_ ?_ <;> (simp [encSs_map]; done)) | exact RenV.clean _ _ (cleanI _) rfl | exact RenV.clean _ _ (cleanEs _) rfl | exact RenV.clean _ _ (cleanSs _) rfl)) (.cons rfl (by (first | (with_reducible exact RenV.clean _ _ (cleanI _) rfl) | (with_reducible exact RenV.clean _ _ (cleanEs _) rfl) | (with_reducible exact RenV.clean _ _ (cleanSs _) rfl) | exact RenV.clean _ _ (cleanI _) (congrArg (Value.int IntKind.i64) (Eq.symm (by with_reducible assumption))) | exact RenV.clean _ _ (cleanI _) (congrArg (Value.int IntKind.i64) (by with_reducible assumption)) | (with_reducible exact RenV.clean _ _ (.flat _ rfl) rfl) | exact RenV.ptr _ _ _ (by decide) rfl | exact RenV.ofRow (by decide) rfl rfl | exact RenV.clean _ _ (.flat _ rfl) rfl | exact RenV.ptr _ _ _ (by decide) rfl | (refine RenV.sl _ _ _ _ _ _ _ (by decide) rfl ?_ ?_ <;> (simp [encEs_map]; done)) | (refine RenV.sl _ _ _ _ _ _ _ (by decide) rfl ?_ ?_ <;> (simp [encSs_map]; done)) | exact RenV.clean _ _ (cleanI _) rfl | exact RenV.clean _ _ (cleanEs _) rfl | exact RenV.clean _ _ (cleanSs _) rfl)) (.cons rfl (.clean _ _ (cleanI _) (congrArg _ hwr.symm)) .nil))))⟩
  · (conv => whnf); (repeat ((first | refine U.lw_t ?_ | refine U.lw_f ?_ | refine U.lit_t ?_ | refine U.lit_f ?_ | refine U.ob_t ?_); (conv => whnf)))
    exact .clean _ (.flat _ rfl)
theorem SameExpr_all : ∀ (n : Nat) (e : Ex), szE e ≤ n → n ≤ 1000 → DenU Try.prog [] 9 [encE e, encE e] (.bool true)
  | 0, e, h, _ => by have := szE_pos e; omega
  | n + 1, .mk k m a o l, h, hn => by
    rw [szE] at h
    exact SameExpr_d k m a o l (by omega) fun e he => SameExpr_all n e (by have := szEs_mem he; omega) (by omega)
end Go.Proofs.Ythbhnbnlbhpooaa
