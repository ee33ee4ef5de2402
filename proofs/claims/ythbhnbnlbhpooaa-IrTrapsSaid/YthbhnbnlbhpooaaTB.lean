/- Expressions of layer 13, copied part by part. -/
import Derived.Test.YthbhnbnlbhpooaaTA
import Derived.Test.YthbhnbnlbhpooaaUF
namespace Go.Proofs.Ythbhnbnlbhpooaa
open Go Go.RowKit Go.Sort U
set_option linter.unusedVariables false
set_option linter.unusedSimpArgs false
set_option maxRecDepth 100000
set_option maxHeartbeats 4000000
theorem cleanCells (l : List Ex) : ∀ c, c ∈ cellsAll (encEs l) → NoNm c := fun c hc => by
  rw [encEs_map] at hc
  obtain ⟨v, hv, hc⟩ := List.mem_flatMap.1 hc
  obtain ⟨e, he, rfl⟩ := List.mem_map.1 hv
  exact cleanE_cells e c hc
theorem cleanEs (l : List Ex) : NoNm (imS (encEs l)) := .ims _ (cleanCells l)
theorem cellsEs_len : ∀ l : List Ex, (cellsAll (encEs l)).length = l.length * 5
  | [] => rfl
  | .mk k n a o m :: l => by
    rw [encEs, cellsAll, List.flatMap_cons, List.length_append, ← cellsAll, cellsEs_len l, List.length_cons]
    show 5 + _ = _
    omega
theorem cellsEs_snoc (l : List Ex) (e : Ex) : cellsAll (encEs (l ++ [e])) = cellsAll (encEs l) ++ cellsOf (encE e) := by
  rw [encEs_map, encEs_map, List.map_append, cellsAll, List.flatMap_append]
  simp [cellsAll]
theorem cellsE_5 (l : List Ex) : ∀ y, y ∈ encEs l → (cellsOf y).length = 5 := fun y hy => by
  rw [encEs_map] at hy
  obtain ⟨⟨k, n, a, o, m⟩, _, rfl⟩ := List.mem_map.1 hy
  rfl
theorem IrExpr_d (k n a o : Int) (l : List Ex) (hl : l.length ≤ 1000000) (ih : ∀ e ∈ l, DenU Try.prog [] 10 [encE e] (encE e)) : DenU Try.prog [] 10 [encE (.mk k n a o l)] (encE (.mk k n a o l)) := by
  refine denU_of_body hmixU rfl Try.func10 rfl rfl rfl 0 ?_
  intro Ts
  (conv => whnf); (repeat ((first | refine U.lw_t ?_ | refine U.lw_f ?_ | refine U.lit_t ?_ | refine U.lit_f ?_ | refine U.ob_t ?_); (conv => whnf)))
  refine loop_inv (α := List Ex × List Ex) (fun x => x.1 ++ x.2 = l) (fun x => (mkF [(1, .pointer (some ⟨0, 0, none⟩)), (2, .pointer (some ⟨1, 0, none⟩)), (3, .pointer (some ⟨2, 0, none⟩)), (4, .int .i64 x.1.length)], ⟨mkH ([(0, .cells 46 [.int .i64 k, .int .i64 n, .int .i64 a, .int .i64 o, imS (encEs l)] false), (1, .cells 50 [.int .i64 0, .int .i64 0, .int .i64 0, .int .i64 0, .slice none 0 0] false), (2, .cells 50 [.int .i64 k, .int .i64 n, .int .i64 a, .int .i64 o, rowS 3 (encEs x.1)] false)] ++ rowB 50 3 (encEs x.1)), 4, 0, 0⟩)) (fun x => x.2.length) ([], l) rfl
    (Cov.ren (fun k => k) rfl rfl (Nat.le_of_ble_eq_true rfl) (Nat.zero_le _) (fun _ _ => rfl) rfl (fun k hk => absurd hk (Nat.not_lt_zero k)) (by (repeat (refine blksOk.cons rfl (.cells _ _ _ _ (by (repeat (refine RenL.cons (by (first | (with_reducible exact RenV.clean _ _ (cleanI _) rfl) | (with_reducible exact RenV.clean _ _ (cleanEs _) rfl) | (with_reducible exact RenV.clean _ _ (cleanSs _) rfl) | exact RenV.clean _ _ (cleanI _) (congrArg (Value.int IntKind.i64) (Eq.symm (by with_reducible assumption))) | exact RenV.clean _ _ (cleanI _) (congrArg (Value.int IntKind.i64) (by with_reducible assumption)) | (with_reducible exact RenV.clean _ _ (.flat _ rfl) rfl) | exact RenV.ptr _ _ _ (by decide) rfl | exact RenV.ofRow (by decide) rfl rfl | exact RenV.clean _ _ (.flat _ rfl) rfl | exact RenV.ptr _ _ _ (by decide) rfl | (refine RenV.sl _ _ _ _ _ _ _ (by decide) rfl ?_ ?_ <;> (simp [encEs_map]; done)) | (refine RenV.sl _ _ _ _ _ _ _ (by decide) rfl ?_ ?_ <;> (simp [encSs_map]; done)) | exact RenV.clean _ _ (cleanI _) rfl | exact RenV.clean _ _ (cleanEs _) rfl | exact RenV.clean _ _ (cleanSs _) rfl)) ?_)); exact RenL.nil)) ?_)); (first | exact blksOk.nil | skip)) (by (repeat (refine slotsRen.cons rfl (by (first | (with_reducible exact RenV.clean _ _ (cleanI _) rfl) | (with_reducible exact RenV.clean _ _ (cleanEs _) rfl) | (with_reducible exact RenV.clean _ _ (cleanSs _) rfl) | exact RenV.clean _ _ (cleanI _) (congrArg (Value.int IntKind.i64) (Eq.symm (by with_reducible assumption))) | exact RenV.clean _ _ (cleanI _) (congrArg (Value.int IntKind.i64) (by with_reducible assumption)) | (with_reducible exact RenV.clean _ _ (.flat _ rfl) rfl) | exact RenV.ptr _ _ _ (by decide) rfl | exact RenV.ofRow (by decide) rfl rfl | exact RenV.clean _ _ (.flat _ rfl) rfl | exact RenV.ptr _ _ _ (by decide) rfl | (refine RenV.sl _ _ _ _ _ _ _ (by decide) rfl ?_ ?_ <;> (simp [encEs_map]; done)) | (refine RenV.sl _ _ _ _ _ _ _ (by decide) rfl ?_ ?_ <;> (simp [encSs_map]; done)) | exact RenV.clean _ _ (cleanI _) rfl | exact RenV.clean _ _ (cleanEs _) rfl | exact RenV.clean _ _ (cleanSs _) rfl)) ?_)); exact slotsRen.nil)) ?_
  rintro ⟨pre, rest⟩ h1
  dsimp only at h1
  rcases pre with _ | ⟨e0, pre⟩
  · (conv => whnf); (repeat ((first | refine U.lw_t ?_ | refine U.lw_f ?_ | refine U.lit_t ?_ | refine U.lit_f ?_ | refine U.ob_t ?_); (conv => whnf)))
    refine U.lw_c (fun h => ?_) (fun h => ?_)
    · have h := of_decide_eq_true h
      dsimp only at h
      rw [encEs_map, List.length_map, ← h1, List.length_append] at h
      cases rest with
      | nil => simp at h
      | cons e post =>
      (conv => whnf); (repeat ((first | refine U.lw_t ?_ | refine U.lw_f ?_ | refine U.lit_t ?_ | refine U.lit_f ?_ | refine U.ob_t ?_); (conv => whnf)))
      refine U.drawX_p (D := U.propX) 9 [] (by kernel_rfl) (by kernel_rfl) ?_; (conv => whnf); (repeat ((first | refine U.lw_t ?_ | refine U.lw_f ?_ | refine U.lit_t ?_ | refine U.lit_f ?_ | refine U.ob_t ?_); (conv => whnf)))
      refine ⟨Nat.ble_eq_true_of_le (by
        show ([] : List Ex).length + 1 ≤ (encEs l).length
        rw [encEs_map, List.length_map, ← h1]; simp), ?_⟩
      (conv => whnf); (repeat ((first | refine U.lw_t ?_ | refine U.lw_f ?_ | refine U.lit_t ?_ | refine U.lit_f ?_ | refine U.ob_t ?_); (conv => whnf)))
      refine ⟨encE e, by
        show nth (encEs l) ([] : List Ex).length = _
        have := nth_mid (encE e) (([] : List Ex).map encE) (post.map encE)
        rw [List.length_map] at this
        rw [encEs_map, ← h1, List.map_append, List.map_cons]
        exact this, ?_⟩
      obtain ⟨k1, n1, a1, o1, l1⟩ := e
      (conv => whnf); (repeat ((first | refine U.lw_t ?_ | refine U.lw_f ?_ | refine U.lit_t ?_ | refine U.lit_f ?_ | refine U.ob_t ?_); (conv => whnf)))
      refine ⟨_, ih (.mk k1 n1 a1 o1 l1) (by rw [← h1]; simp), ⟨cleanE (.mk k1 n1 a1 o1 l1), trivial⟩, tab0 _, ?_⟩
      (conv => whnf); (repeat ((first | refine U.lw_t ?_ | refine U.lw_f ?_ | refine U.lit_t ?_ | refine U.lit_f ?_ | refine U.ob_t ?_); (conv => whnf)))
      refine ⟨([] ++ [.mk k1 n1 a1 o1 l1], post), by rw [← h1]; simp, by simp, Cov.ren (fun k => if k = 3 then 5 else k) rfl rfl (Nat.le_of_ble_eq_true rfl) (Nat.zero_le _) (fun k hk => if_neg (by have : k < 3 := hk; omega)) rfl (fun k hk => absurd hk (Nat.not_lt_zero k)) (by (repeat (refine blksOk.cons rfl (.cells _ _ _ _ (by (repeat (refine RenL.cons (by (first | (with_reducible exact RenV.clean _ _ (cleanI _) rfl) | (with_reducible exact RenV.clean _ _ (cleanEs _) rfl) | (with_reducible exact RenV.clean _ _ (cleanSs _) rfl) | exact RenV.clean _ _ (cleanI _) (congrArg (Value.int IntKind.i64) (Eq.symm (by with_reducible assumption))) | exact RenV.clean _ _ (cleanI _) (congrArg (Value.int IntKind.i64) (by with_reducible assumption)) | (with_reducible exact RenV.clean _ _ (.flat _ rfl) rfl) | exact RenV.ptr _ _ _ (by decide) rfl | exact RenV.ofRow (by decide) rfl rfl | exact RenV.clean _ _ (.flat _ rfl) rfl | exact RenV.ptr _ _ _ (by decide) rfl | (refine RenV.sl _ _ _ _ _ _ _ (by decide) rfl ?_ ?_ <;> (simp [encEs_map]; done)) | (refine RenV.sl _ _ _ _ _ _ _ (by decide) rfl ?_ ?_ <;> (simp [encSs_map]; done)) | exact RenV.clean _ _ (cleanI _) rfl | exact RenV.clean _ _ (cleanEs _) rfl | exact RenV.clean _ _ (cleanSs _) rfl)) ?_)); exact RenL.nil)) ?_)); (first | exact blksOk.nil | skip)) (by (repeat (refine slotsRen.cons rfl (by (first | (with_reducible exact RenV.clean _ _ (cleanI _) rfl) | (with_reducible exact RenV.clean _ _ (cleanEs _) rfl) | (with_reducible exact RenV.clean _ _ (cleanSs _) rfl) | exact RenV.clean _ _ (cleanI _) (congrArg (Value.int IntKind.i64) (Eq.symm (by with_reducible assumption))) | exact RenV.clean _ _ (cleanI _) (congrArg (Value.int IntKind.i64) (by with_reducible assumption)) | (with_reducible exact RenV.clean _ _ (.flat _ rfl) rfl) | exact RenV.ptr _ _ _ (by decide) rfl | exact RenV.ofRow (by decide) rfl rfl | exact RenV.clean _ _ (.flat _ rfl) rfl | exact RenV.ptr _ _ _ (by decide) rfl | (refine RenV.sl _ _ _ _ _ _ _ (by decide) rfl ?_ ?_ <;> (simp [encEs_map]; done)) | (refine RenV.sl _ _ _ _ _ _ _ (by decide) rfl ?_ ?_ <;> (simp [encSs_map]; done)) | exact RenV.clean _ _ (cleanI _) rfl | exact RenV.clean _ _ (cleanEs _) rfl | exact RenV.clean _ _ (cleanSs _) rfl)) ?_)); exact slotsRen.nil)⟩
    · have h := of_decide_eq_false h
      dsimp only at h
      rw [encEs_map, List.length_map, ← h1, List.length_append] at h
      have hr : rest = [] := List.eq_nil_of_length_eq_zero (by omega)
      subst hr
      rw [List.append_nil] at h1
      subst h1
      (conv => whnf); (repeat ((first | refine U.lw_t ?_ | refine U.lw_f ?_ | refine U.lit_t ?_ | refine U.lit_f ?_ | refine U.ob_t ?_); (conv => whnf)))
      refine .aggL (.cons (.clean _ (cleanI _)) (.cons (.clean _ (cleanI _)) (.cons (.clean _ (cleanI _)) (.cons (.clean _ (cleanI _)) (.cons .nil .nil)))))
  · (conv => whnf); (repeat ((first | refine U.lw_t ?_ | refine U.lw_f ?_ | refine U.lit_t ?_ | refine U.lit_f ?_ | refine U.ob_t ?_); (conv => whnf)))
    refine U.lw_c (fun h => ?_) (fun h => ?_)
    · have h := of_decide_eq_true h
      dsimp only at h
      rw [encEs_map, List.length_map, ← h1, List.length_append] at h
      cases rest with
      | nil => simp at h
      | cons e post =>
      (conv => whnf); (repeat ((first | refine U.lw_t ?_ | refine U.lw_f ?_ | refine U.lit_t ?_ | refine U.lit_f ?_ | refine U.ob_t ?_); (conv => whnf)))
      refine U.drawX_p (D := U.propX) 9 [] (by kernel_rfl) (by kernel_rfl) ?_; (conv => whnf); (repeat ((first | refine U.lw_t ?_ | refine U.lw_f ?_ | refine U.lit_t ?_ | refine U.lit_f ?_ | refine U.ob_t ?_); (conv => whnf)))
      refine ⟨Nat.ble_eq_true_of_le (by
        show (e0 :: pre : List Ex).length + 1 ≤ (encEs l).length
        rw [encEs_map, List.length_map, ← h1]; simp), ?_⟩
      (conv => whnf); (repeat ((first | refine U.lw_t ?_ | refine U.lw_f ?_ | refine U.lit_t ?_ | refine U.lit_f ?_ | refine U.ob_t ?_); (conv => whnf)))
      refine ⟨encE e, by
        show nth (encEs l) (e0 :: pre : List Ex).length = _
        have := nth_mid (encE e) ((e0 :: pre : List Ex).map encE) (post.map encE)
        rw [List.length_map] at this
        rw [encEs_map, ← h1, List.map_append, List.map_cons]
        exact this, ?_⟩
      obtain ⟨k1, n1, a1, o1, l1⟩ := e
      (conv => whnf); (repeat ((first | refine U.lw_t ?_ | refine U.lw_f ?_ | refine U.lit_t ?_ | refine U.lit_f ?_ | refine U.ob_t ?_); (conv => whnf)))
      refine ⟨_, ih (.mk k1 n1 a1 o1 l1) (by rw [← h1]; simp), ⟨cleanE (.mk k1 n1 a1 o1 l1), trivial⟩, tab0 _, ?_⟩
      (conv => whnf); (repeat ((first | refine U.lw_t ?_ | refine U.lw_f ?_ | refine U.lit_t ?_ | refine U.lit_f ?_ | refine U.ob_t ?_); (conv => whnf)))
      refine ⟨Nat.ble_eq_true_of_le (Nat.le_refl _), ?_⟩
      (conv => whnf); (repeat ((first | refine U.lw_t ?_ | refine U.lw_f ?_ | refine U.lit_t ?_ | refine U.lit_f ?_ | refine U.ob_t ?_); (conv => whnf)))
      have hq : (encEs pre).length + 1 + (0 + 1) ≤ 1000000 := by
        rw [encEs_map, List.length_map]
        have := congrArg List.length h1
        simp at this
        omega
      refine ⟨Bool.and_eq_true_iff.2 ⟨Nat.ble_eq_true_of_le (Nat.le_trans (Nat.mul_le_mul hq (Nat.le_of_ble_eq_true rfl : _ ≤ 1000)) (by decide)), Nat.ble_eq_true_of_le hq⟩, ?_⟩
      (conv => whnf); (repeat ((first | refine U.lw_t ?_ | refine U.lw_f ?_ | refine U.lit_t ?_ | refine U.lit_f ?_ | refine U.ob_t ?_); (conv => whnf)))
      rw [ble_f]
      dsimp only
      refine growRow_p (by rw [show encE e0 :: encEs pre = encEs (e0 :: pre) from rfl, cellsEs_len, encEs_map, List.length_map]; rfl) rfl ?_
      (conv => whnf); (repeat ((first | refine U.lw_t ?_ | refine U.lw_f ?_ | refine U.lit_t ?_ | refine U.lit_f ?_ | refine U.ob_t ?_); (conv => whnf)))
      refine ⟨(e0 :: pre ++ [.mk k1 n1 a1 o1 l1], post), by rw [← h1]; simp, by simp, Cov.ren (fun k => if k = 3 then 5 else k) rfl rfl (Nat.le_of_ble_eq_true rfl) (Nat.zero_le _) (fun k hk => if_neg (by have : k < 3 := hk; omega)) rfl (fun k hk => absurd hk (Nat.not_lt_zero k)) ?_ ?_⟩
      · (repeat (refine blksOk.cons rfl (.cells _ _ _ _ (by (repeat (refine RenL.cons (by (first | (with_reducible exact RenV.clean _ _ (cleanI _) rfl) | (with_reducible exact RenV.clean _ _ (cleanEs _) rfl) | (with_reducible exact RenV.clean _ _ (cleanSs _) rfl) | exact RenV.clean _ _ (cleanI _) (congrArg (Value.int IntKind.i64) (Eq.symm (by with_reducible assumption))) | exact RenV.clean _ _ (cleanI _) (congrArg (Value.int IntKind.i64) (by with_reducible assumption)) | (with_reducible exact RenV.clean _ _ (.flat _ rfl) rfl) | exact RenV.ptr _ _ _ (by decide) rfl | exact RenV.ofRow (by decide) rfl rfl | exact RenV.clean _ _ (.flat _ rfl) rfl | exact RenV.ptr _ _ _ (by decide) rfl | (refine RenV.sl _ _ _ _ _ _ _ (by decide) rfl ?_ ?_ <;> (simp [encEs_map]; done)) | (refine RenV.sl _ _ _ _ _ _ _ (by decide) rfl ?_ ?_ <;> (simp [encSs_map]; done)) | exact RenV.clean _ _ (cleanI _) rfl | exact RenV.clean _ _ (cleanEs _) rfl | exact RenV.clean _ _ (cleanSs _) rfl)) ?_)); exact RenL.nil)) ?_)); (first | exact blksOk.nil | skip)
        exact blksOk.cons rfl (.row _ _ _ _ (cleanCells ((e0 :: pre) ++ [Ex.mk k1 n1 a1 o1 l1])) (cellsEs_snoc (e0 :: pre) (Ex.mk k1 n1 a1 o1 l1))) blksOk.nil
      · refine slotsRen.cons rfl (by (first | (with_reducible exact RenV.clean _ _ (cleanI _) rfl) | (with_reducible exact RenV.clean _ _ (cleanEs _) rfl) | (with_reducible exact RenV.clean _ _ (cleanSs _) rfl) | exact RenV.clean _ _ (cleanI _) (congrArg (Value.int IntKind.i64) (Eq.symm (by with_reducible assumption))) | exact RenV.clean _ _ (cleanI _) (congrArg (Value.int IntKind.i64) (by with_reducible assumption)) | (with_reducible exact RenV.clean _ _ (.flat _ rfl) rfl) | exact RenV.ptr _ _ _ (by decide) rfl | exact RenV.ofRow (by decide) rfl rfl | exact RenV.clean _ _ (.flat _ rfl) rfl | exact RenV.ptr _ _ _ (by decide) rfl | (refine RenV.sl _ _ _ _ _ _ _ (by decide) rfl ?_ ?_ <;> (simp [encEs_map]; done)) | (refine RenV.sl _ _ _ _ _ _ _ (by decide) rfl ?_ ?_ <;> (simp [encSs_map]; done)) | exact RenV.clean _ _ (cleanI _) rfl | exact RenV.clean _ _ (cleanEs _) rfl | exact RenV.clean _ _ (cleanSs _) rfl)) (slotsRen.cons rfl (by (first | (with_reducible exact RenV.clean _ _ (cleanI _) rfl) | (with_reducible exact RenV.clean _ _ (cleanEs _) rfl) | (with_reducible exact RenV.clean _ _ (cleanSs _) rfl) | exact RenV.clean _ _ (cleanI _) (congrArg (Value.int IntKind.i64) (Eq.symm (by with_reducible assumption))) | exact RenV.clean _ _ (cleanI _) (congrArg (Value.int IntKind.i64) (by with_reducible assumption)) | (with_reducible exact RenV.clean _ _ (.flat _ rfl) rfl) | exact RenV.ptr _ _ _ (by decide) rfl | exact RenV.ofRow (by decide) rfl rfl | exact RenV.clean _ _ (.flat _ rfl) rfl | exact RenV.ptr _ _ _ (by decide) rfl | (refine RenV.sl _ _ _ _ _ _ _ (by decide) rfl ?_ ?_ <;> (simp [encEs_map]; done)) | (refine RenV.sl _ _ _ _ _ _ _ (by decide) rfl ?_ ?_ <;> (simp [encSs_map]; done)) | exact RenV.clean _ _ (cleanI _) rfl | exact RenV.clean _ _ (cleanEs _) rfl | exact RenV.clean _ _ (cleanSs _) rfl)) (slotsRen.cons rfl (by (first | (with_reducible exact RenV.clean _ _ (cleanI _) rfl) | (with_reducible exact RenV.clean _ _ (cleanEs _) rfl) | (with_reducible exact RenV.clean _ _ (cleanSs _) rfl) | exact RenV.clean _ _ (cleanI _) (congrArg (Value.int IntKind.i64) (Eq.symm (by with_reducible assumption))) | exact RenV.clean _ _ (cleanI _) (congrArg (Value.int IntKind.i64) (by with_reducible assumption)) | (with_reducible exact RenV.clean _ _ (.flat _ rfl) rfl) | exact RenV.ptr _ _ _ (by decide) rfl | exact RenV.ofRow (by decide) rfl rfl | exact RenV.clean _ _ (.flat _ rfl) rfl | exact RenV.ptr _ _ _ (by decide) rfl | (refine RenV.sl _ _ _ _ _ _ _ (by decide) rfl ?_ ?_ <;> (simp [encEs_map]; done)) | (refine RenV.sl _ _ _ _ _ _ _ (by decide) rfl ?_ ?_ <;> (simp [encSs_map]; done)) | exact RenV.clean _ _ (cleanI _) rfl | exact RenV.clean _ _ (cleanEs _) rfl | exact RenV.clean _ _ (cleanSs _) rfl)) (slotsRen.cons rfl (.clean _ _ (cleanI _) ?_) slotsRen.nil)))
        show Value.int .i64 _ = .int .i64 (IntKind.i64.wrap (((pre.length + 1 : Nat) : Int) + 1))
        rw [wadd1 (by rw [encEs_map, List.length_map] at hq; omega)]
        simp
    · have h := of_decide_eq_false h
      dsimp only at h
      rw [encEs_map, List.length_map, ← h1, List.length_append] at h
      have hr : rest = [] := List.eq_nil_of_length_eq_zero (by omega)
      subst hr
      rw [List.append_nil] at h1
      subst h1
      (conv => whnf); (repeat ((first | refine U.lw_t ?_ | refine U.lw_f ?_ | refine U.lit_t ?_ | refine U.lit_f ?_ | refine U.ob_t ?_); (conv => whnf)))
      refine .aggL (.cons (.clean _ (cleanI _)) (.cons (.clean _ (cleanI _)) (.cons (.clean _ (cleanI _)) (.cons (.clean _ (cleanI _)) (.cons (.rowL (Nat.zero_le _) rfl rfl (cellsE_5 (e0 :: pre)) rfl (Nat.le_refl _) (cleanCells (e0 :: pre))) .nil)))))
end Go.Proofs.Ythbhnbnlbhpooaa
