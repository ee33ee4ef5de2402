/- Statements of layer 13, copied part by part. -/
import Derived.Test.YthbhnbnlbhpooaaTB
namespace Go.Proofs.Ythbhnbnlbhpooaa
open Go Go.RowKit Go.Sort U
set_option linter.unusedVariables false
set_option linter.unusedSimpArgs false
set_option maxRecDepth 100000
set_option maxHeartbeats 4000000
inductive St where
  | mk (k a : Int) (xs : List Ex) (th el : List St) (no : Int)
mutual
def encS : St → Value
  | .mk k a xs th el no => .agg ⟨[.int .i64 k, .int .i64 a, imS (encEs xs), imS (encSs th), imS (encSs el), .int .i64 no]⟩
def encSs : List St → List Value
  | [] => []
  | e :: l => encS e :: encSs l
end
theorem encSs_map : ∀ l, encSs l = l.map encS
  | [] => rfl
  | e :: l => by rw [encSs, encSs_map l]; rfl
theorem cleanS_cells : ∀ (e : St), ∀ c ∈ cellsOf (encS e), NoNm c
  | .mk k a xs th el no, c, hc => by
    simp only [encS, cellsOf, List.mem_cons, List.not_mem_nil, or_false] at hc
    rcases hc with rfl | rfl | rfl | rfl | rfl | rfl
    · exact .flat _ rfl
    · exact .flat _ rfl
    · exact cleanEs xs
    · refine .ims _ fun c hc => ?_
      rw [encSs_map] at hc
      obtain ⟨v, hv, hc⟩ := List.mem_flatMap.1 hc
      obtain ⟨e, he, rfl⟩ := List.mem_map.1 hv
      exact cleanS_cells e c hc
    · refine .ims _ fun c hc => ?_
      rw [encSs_map] at hc
      obtain ⟨v, hv, hc⟩ := List.mem_flatMap.1 hc
      obtain ⟨e, he, rfl⟩ := List.mem_map.1 hv
      exact cleanS_cells e c hc
    · exact .flat _ rfl
theorem cleanSCells (l : List St) : ∀ c, c ∈ cellsAll (encSs l) → NoNm c := fun c hc => by
  rw [encSs_map] at hc
  obtain ⟨v, hv, hc⟩ := List.mem_flatMap.1 hc
  obtain ⟨e, he, rfl⟩ := List.mem_map.1 hv
  exact cleanS_cells e c hc
theorem cleanSs (l : List St) : NoNm (imS (encSs l)) := .ims _ (cleanSCells l)
theorem cellsSs_len : ∀ l : List St, (cellsAll (encSs l)).length = l.length * 6
  | [] => rfl
  | .mk k a xs th el no :: l => by
    rw [encSs, cellsAll, List.flatMap_cons, List.length_append, ← cellsAll, cellsSs_len l, List.length_cons]
    show 6 + _ = _
    omega
theorem cellsSs_snoc (l : List St) (e : St) : cellsAll (encSs (l ++ [e])) = cellsAll (encSs l) ++ cellsOf (encS e) := by
  rw [encSs_map, encSs_map, List.map_append, cellsAll, List.flatMap_append]
  simp [cellsAll]
theorem cellsS_6 (l : List St) : ∀ y, y ∈ encSs l → (cellsOf y).length = 6 := fun y hy => by
  rw [encSs_map] at hy
  obtain ⟨⟨k, a, xs, th, el, no⟩, _, rfl⟩ := List.mem_map.1 hy
  rfl
theorem IrStmts_d (l : List St) (hl : l.length ≤ 1000000)
    (ih : ∀ k a xs th el no, St.mk k a xs th el no ∈ l → xs.length ≤ 1000000 ∧ (∀ e ∈ xs, DenU Try.prog [] 10 [encE e] (encE e)) ∧ DenU Try.prog [] 6 [imS (encSs th)] (imS (encSs th)) ∧ DenU Try.prog [] 6 [imS (encSs el)] (imS (encSs el))) :
    DenU Try.prog [] 6 [imS (encSs l)] (imS (encSs l)) := by
  refine denU_of_body hmixU rfl Try.func6 rfl rfl rfl 0 ?_
  intro Ts
  (conv => whnf); (repeat ((first | refine U.lw_t ?_ | refine U.lw_f ?_ | refine U.lit_t ?_ | refine U.lit_f ?_ | refine U.ob_t ?_); (conv => whnf)))
  refine loop_inv (α := List St × List St) (fun x => x.1 ++ x.2 = l) (fun x => (mkF [(0, imS (encSs l)), (2, .slice none 0 0), (3, rowS 0 (encSs x.1)), (4, .int .i64 x.1.length)], ⟨mkO [(0, rowO 40 (encSs x.1))], 1, 0, 0⟩)) (fun x => x.2.length) ([], l) rfl
    (Cov.renO (fun k => k) rfl rfl (Nat.le_of_ble_eq_true rfl) (Nat.zero_le _) (fun _ _ => rfl) rfl (fun k hk => absurd hk (Nat.not_lt_zero k)) (.none .nil) (.cons rfl (.clean _ _ (cleanSs l) rfl) (.cons rfl (.clean _ _ (.flat _ rfl) rfl) (.cons rfl (.clean _ _ (.flat _ rfl) rfl) (.cons rfl (.clean _ _ (cleanI _) rfl) .nil))))) ?_
  rintro ⟨pre, rest⟩ h1
  dsimp only at h1
  (conv => whnf); (repeat ((first | refine U.lw_t ?_ | refine U.lw_f ?_ | refine U.lit_t ?_ | refine U.lit_f ?_ | refine U.ob_t ?_); (conv => whnf)))
  refine U.lw_c (fun h => ?_) (fun h => ?_)
  · have h := of_decide_eq_true h
    dsimp only at h
    rw [encSs_map, List.length_map, ← h1, List.length_append] at h
    cases rest with
    | nil => simp at h
    | cons e post =>
    obtain ⟨k, a, xs, th, el, no⟩ := e
    obtain ⟨hx, ihx, ih1, ih2⟩ := ih k a xs th el no (by rw [← h1]; simp)
    (conv => whnf); (repeat ((first | refine U.lw_t ?_ | refine U.lw_f ?_ | refine U.lit_t ?_ | refine U.lit_f ?_ | refine U.ob_t ?_); (conv => whnf)))
    refine ⟨Nat.ble_eq_true_of_le (by
      show pre.length + 1 ≤ (encSs l).length
      rw [encSs_map, List.length_map, ← h1]; simp), ?_⟩
    (conv => whnf); (repeat ((first | refine U.lw_t ?_ | refine U.lw_f ?_ | refine U.lit_t ?_ | refine U.lit_f ?_ | refine U.ob_t ?_); (conv => whnf)))
    refine ⟨encS (.mk k a xs th el no), by
      show nth (encSs l) pre.length = _
      have := nth_mid (encS (.mk k a xs th el no)) (pre.map encS) (post.map encS)
      rw [List.length_map] at this
      rw [encSs_map, ← h1, List.map_append, List.map_cons]
      exact this, ?_⟩
    (conv => whnf); (repeat ((first | refine U.lw_t ?_ | refine U.lw_f ?_ | refine U.lit_t ?_ | refine U.lit_f ?_ | refine U.ob_t ?_); (conv => whnf)))
    refine U.drawX_p (D := U.propX) 14 [] (by kernel_rfl) (by kernel_rfl) ?_; (conv => whnf); (repeat ((first | refine U.lw_t ?_ | refine U.lw_f ?_ | refine U.lit_t ?_ | refine U.lit_f ?_ | refine U.ob_t ?_); (conv => whnf)))
    refine ⟨_, ih1, ⟨cleanSs th, trivial⟩, tab0 _, ?_⟩
    (conv => whnf); (repeat ((first | refine U.lw_t ?_ | refine U.lw_f ?_ | refine U.lit_t ?_ | refine U.lit_f ?_ | refine U.ob_t ?_); (conv => whnf)))
    refine ⟨_, ih2, ⟨cleanSs el, trivial⟩, tab0 _, ?_⟩
    (conv => whnf); (repeat ((first | refine U.lw_t ?_ | refine U.lw_f ?_ | refine U.lit_t ?_ | refine U.lit_f ?_ | refine U.ob_t ?_); (conv => whnf)))
    refine loop_inv (α := List Ex × List Ex) (fun x => x.1 ++ x.2 = xs) (fun x => (mkF [(0, imS (encSs l)), (2, .slice none 0 0), (3, rowS 0 (encSs pre)), (4, .int .i64 pre.length), (5, .pointer (some ⟨1, 0, none⟩)), (6, .pointer (some ⟨2, 0, none⟩)), (7, .int .i64 x.1.length)], ⟨mkO [(0, rowO 40 (encSs pre)), (1, some (.cells 26 [.int .i64 k, .int .i64 a, imS (encEs xs), imS (encSs th), imS (encSs el), .int .i64 no] false)), (2, some (.cells 40 [.int .i64 k, .int .i64 a, rowS 3 (encEs x.1), imS (encSs th), imS (encSs el), .int .i64 no] false)), (3, rowO 50 (encEs x.1))], 4, 0, 0⟩)) (fun x => x.2.length) ([], xs) rfl
      (Cov.renO (fun k => k) rfl rfl (Nat.le_of_ble_eq_true rfl) (Nat.zero_le _) (fun _ _ => rfl) rfl (fun k hk => absurd hk (Nat.not_lt_zero k)) (.row rfl rfl (cleanSCells pre) (by (repeat (first | refine blksO.cons rfl (.cells _ _ _ _ (by (repeat (refine RenL.cons (by (first | (with_reducible exact RenV.clean _ _ (cleanI _) rfl) | (with_reducible exact RenV.clean _ _ (cleanEs _) rfl) | (with_reducible exact RenV.clean _ _ (cleanSs _) rfl) | exact RenV.clean _ _ (cleanI _) (congrArg (Value.int IntKind.i64) (Eq.symm (by with_reducible assumption))) | exact RenV.clean _ _ (cleanI _) (congrArg (Value.int IntKind.i64) (by with_reducible assumption)) | (with_reducible exact RenV.clean _ _ (.flat _ rfl) rfl) | exact RenV.ptr _ _ _ (by decide) rfl | exact RenV.ofRow (by decide) rfl rfl | exact RenV.clean _ _ (.flat _ rfl) rfl | exact RenV.ptr _ _ _ (by decide) rfl | (refine RenV.sl _ _ _ _ _ _ _ (by decide) rfl ?_ ?_ <;> (simp [encEs_map]; done)) | (refine RenV.sl _ _ _ _ _ _ _ (by decide) rfl ?_ ?_ <;> (simp [encSs_map]; done)) | exact RenV.clean _ _ (cleanI _) rfl | exact RenV.clean _ _ (cleanEs _) rfl | exact RenV.clean _ _ (cleanSs _) rfl)) ?_)); exact RenL.nil)) ?_ | refine blksO.none ?_ | exact blksO.nil)))) (by (repeat (refine slotsRen.cons rfl (by (first | (with_reducible exact RenV.clean _ _ (cleanI _) rfl) | (with_reducible exact RenV.clean _ _ (cleanEs _) rfl) | (with_reducible exact RenV.clean _ _ (cleanSs _) rfl) | exact RenV.clean _ _ (cleanI _) (congrArg (Value.int IntKind.i64) (Eq.symm (by with_reducible assumption))) | exact RenV.clean _ _ (cleanI _) (congrArg (Value.int IntKind.i64) (by with_reducible assumption)) | (with_reducible exact RenV.clean _ _ (.flat _ rfl) rfl) | exact RenV.ptr _ _ _ (by decide) rfl | exact RenV.ofRow (by decide) rfl rfl | exact RenV.clean _ _ (.flat _ rfl) rfl | exact RenV.ptr _ _ _ (by decide) rfl | (refine RenV.sl _ _ _ _ _ _ _ (by decide) rfl ?_ ?_ <;> (simp [encEs_map]; done)) | (refine RenV.sl _ _ _ _ _ _ _ (by decide) rfl ?_ ?_ <;> (simp [encSs_map]; done)) | exact RenV.clean _ _ (cleanI _) rfl | exact RenV.clean _ _ (cleanEs _) rfl | exact RenV.clean _ _ (cleanSs _) rfl)) ?_)); exact slotsRen.nil)) ?_
    rintro ⟨ipre, irest⟩ h2
    dsimp only at h2
    (conv => whnf); (repeat ((first | refine U.lw_t ?_ | refine U.lw_f ?_ | refine U.lit_t ?_ | refine U.lit_f ?_ | refine U.ob_t ?_); (conv => whnf)))
    refine U.lw_c (fun h3 => ?_) (fun h3 => ?_)
    · have h3 := of_decide_eq_true h3
      dsimp only at h3
      rw [encEs_map, List.length_map, ← h2, List.length_append] at h3
      cases irest with
      | nil => simp at h3
      | cons e ipost =>
      (conv => whnf); (repeat ((first | refine U.lw_t ?_ | refine U.lw_f ?_ | refine U.lit_t ?_ | refine U.lit_f ?_ | refine U.ob_t ?_); (conv => whnf)))
      refine U.drawX_p (D := U.propX) 9 [] (by kernel_rfl) (by kernel_rfl) ?_; (conv => whnf); (repeat ((first | refine U.lw_t ?_ | refine U.lw_f ?_ | refine U.lit_t ?_ | refine U.lit_f ?_ | refine U.ob_t ?_); (conv => whnf)))
      refine ⟨Nat.ble_eq_true_of_le (by
        show ipre.length + 1 ≤ (encEs xs).length
        rw [encEs_map, List.length_map, ← h2]; simp), ?_⟩
      (conv => whnf); (repeat ((first | refine U.lw_t ?_ | refine U.lw_f ?_ | refine U.lit_t ?_ | refine U.lit_f ?_ | refine U.ob_t ?_); (conv => whnf)))
      refine ⟨encE e, by
        show nth (encEs xs) ipre.length = _
        have := nth_mid (encE e) (ipre.map encE) (ipost.map encE)
        rw [List.length_map] at this
        rw [encEs_map, ← h2, List.map_append, List.map_cons]
        exact this, ?_⟩
      obtain ⟨k1, n1, a1, o1, l1⟩ := e
      (conv => whnf); (repeat ((first | refine U.lw_t ?_ | refine U.lw_f ?_ | refine U.lit_t ?_ | refine U.lit_f ?_ | refine U.ob_t ?_); (conv => whnf)))
      refine ⟨_, ihx (.mk k1 n1 a1 o1 l1) (by rw [← h2]; simp), ⟨cleanE (.mk k1 n1 a1 o1 l1), trivial⟩, tab0 _, ?_⟩
      (conv => whnf); (repeat ((first | refine U.lw_t ?_ | refine U.lw_f ?_ | refine U.lit_t ?_ | refine U.lit_f ?_ | refine U.ob_t ?_); (conv => whnf)))
      rcases ipre with _ | ⟨e0, ipre⟩
      · (conv => whnf); (repeat ((first | refine U.lw_t ?_ | refine U.lw_f ?_ | refine U.lit_t ?_ | refine U.lit_f ?_ | refine U.ob_t ?_); (conv => whnf)))
        refine ⟨([] ++ [.mk k1 n1 a1 o1 l1], ipost), by rw [← h2]; simp, by simp, Cov.renO (fun k => if k = 3 then 5 else k) rfl rfl (Nat.le_of_ble_eq_true rfl) (Nat.zero_le _) (fun k hk => if_neg (by have : k < 3 := hk; omega)) rfl (fun k hk => absurd hk (Nat.not_lt_zero k)) (.row rfl rfl (cleanSCells pre) (.cons rfl (.cells _ _ _ _ (by (repeat (refine RenL.cons (by (first | (with_reducible exact RenV.clean _ _ (cleanI _) rfl) | (with_reducible exact RenV.clean _ _ (cleanEs _) rfl) | (with_reducible exact RenV.clean _ _ (cleanSs _) rfl) | exact RenV.clean _ _ (cleanI _) (congrArg (Value.int IntKind.i64) (Eq.symm (by with_reducible assumption))) | exact RenV.clean _ _ (cleanI _) (congrArg (Value.int IntKind.i64) (by with_reducible assumption)) | (with_reducible exact RenV.clean _ _ (.flat _ rfl) rfl) | exact RenV.ptr _ _ _ (by decide) rfl | exact RenV.ofRow (by decide) rfl rfl | exact RenV.clean _ _ (.flat _ rfl) rfl | exact RenV.ptr _ _ _ (by decide) rfl | (refine RenV.sl _ _ _ _ _ _ _ (by decide) rfl ?_ ?_ <;> (simp [encEs_map]; done)) | (refine RenV.sl _ _ _ _ _ _ _ (by decide) rfl ?_ ?_ <;> (simp [encSs_map]; done)) | exact RenV.clean _ _ (cleanI _) rfl | exact RenV.clean _ _ (cleanEs _) rfl | exact RenV.clean _ _ (cleanSs _) rfl)) ?_)); exact RenL.nil)) (.cons rfl (.cells _ _ _ _ (by (repeat (refine RenL.cons (by (first | (with_reducible exact RenV.clean _ _ (cleanI _) rfl) | (with_reducible exact RenV.clean _ _ (cleanEs _) rfl) | (with_reducible exact RenV.clean _ _ (cleanSs _) rfl) | exact RenV.clean _ _ (cleanI _) (congrArg (Value.int IntKind.i64) (Eq.symm (by with_reducible assumption))) | exact RenV.clean _ _ (cleanI _) (congrArg (Value.int IntKind.i64) (by with_reducible assumption)) | (with_reducible exact RenV.clean _ _ (.flat _ rfl) rfl) | exact RenV.ptr _ _ _ (by decide) rfl | exact RenV.ofRow (by decide) rfl rfl | exact RenV.clean _ _ (.flat _ rfl) rfl | exact RenV.ptr _ _ _ (by decide) rfl | (refine RenV.sl _ _ _ _ _ _ _ (by decide) rfl ?_ ?_ <;> (simp [encEs_map]; done)) | (refine RenV.sl _ _ _ _ _ _ _ (by decide) rfl ?_ ?_ <;> (simp [encSs_map]; done)) | exact RenV.clean _ _ (cleanI _) rfl | exact RenV.clean _ _ (cleanEs _) rfl | exact RenV.clean _ _ (cleanSs _) rfl)) ?_)); exact RenL.nil)) (.grown rfl rfl (cleanCells ([] ++ [Ex.mk k1 n1 a1 o1 l1])) .nil)))) (by (repeat (refine slotsRen.cons rfl (by (first | (with_reducible exact RenV.clean _ _ (cleanI _) rfl) | (with_reducible exact RenV.clean _ _ (cleanEs _) rfl) | (with_reducible exact RenV.clean _ _ (cleanSs _) rfl) | exact RenV.clean _ _ (cleanI _) (congrArg (Value.int IntKind.i64) (Eq.symm (by with_reducible assumption))) | exact RenV.clean _ _ (cleanI _) (congrArg (Value.int IntKind.i64) (by with_reducible assumption)) | (with_reducible exact RenV.clean _ _ (.flat _ rfl) rfl) | exact RenV.ptr _ _ _ (by decide) rfl | exact RenV.ofRow (by decide) rfl rfl | exact RenV.clean _ _ (.flat _ rfl) rfl | exact RenV.ptr _ _ _ (by decide) rfl | (refine RenV.sl _ _ _ _ _ _ _ (by decide) rfl ?_ ?_ <;> (simp [encEs_map]; done)) | (refine RenV.sl _ _ _ _ _ _ _ (by decide) rfl ?_ ?_ <;> (simp [encSs_map]; done)) | exact RenV.clean _ _ (cleanI _) rfl | exact RenV.clean _ _ (cleanEs _) rfl | exact RenV.clean _ _ (cleanSs _) rfl)) ?_)); exact slotsRen.nil)⟩
      · (conv => whnf); (repeat ((first | refine U.lw_t ?_ | refine U.lw_f ?_ | refine U.lit_t ?_ | refine U.lit_f ?_ | refine U.ob_t ?_); (conv => whnf)))
        refine ⟨Nat.ble_eq_true_of_le (Nat.le_refl _), ?_⟩
        (conv => whnf); (repeat ((first | refine U.lw_t ?_ | refine U.lw_f ?_ | refine U.lit_t ?_ | refine U.lit_f ?_ | refine U.ob_t ?_); (conv => whnf)))
        have hq : (encEs ipre).length + 1 + (0 + 1) ≤ 1000000 := by
          rw [encEs_map, List.length_map]
          have := congrArg List.length h2
          simp at this
          omega
        refine ⟨Bool.and_eq_true_iff.2 ⟨Nat.ble_eq_true_of_le (Nat.le_trans (Nat.mul_le_mul hq (Nat.le_of_ble_eq_true rfl : _ ≤ 1000)) (by decide)), Nat.ble_eq_true_of_le hq⟩, ?_⟩
        (conv => whnf); (repeat ((first | refine U.lw_t ?_ | refine U.lw_f ?_ | refine U.lit_t ?_ | refine U.lit_f ?_ | refine U.ob_t ?_); (conv => whnf)))
        rw [ble_f]
        dsimp only
        refine growRow_p (by rw [show encE e0 :: encEs ipre = encEs (e0 :: ipre) from rfl, cellsEs_len, encEs_map, List.length_map]; rfl) rfl ?_
        (conv => whnf); (repeat ((first | refine U.lw_t ?_ | refine U.lw_f ?_ | refine U.lit_t ?_ | refine U.lit_f ?_ | refine U.ob_t ?_); (conv => whnf)))
        refine ⟨((e0 :: ipre) ++ [.mk k1 n1 a1 o1 l1], ipost), by rw [← h2]; simp, by simp, Cov.renO (fun k => if k = 3 then 5 else k) rfl rfl (Nat.le_of_ble_eq_true rfl) (Nat.zero_le _) (fun k hk => if_neg (by have : k < 3 := hk; omega)) rfl (fun k hk => absurd hk (Nat.not_lt_zero k)) (.row rfl rfl (cleanSCells pre) (.cons rfl (.cells _ _ _ _ (by (repeat (refine RenL.cons (by (first | (with_reducible exact RenV.clean _ _ (cleanI _) rfl) | (with_reducible exact RenV.clean _ _ (cleanEs _) rfl) | (with_reducible exact RenV.clean _ _ (cleanSs _) rfl) | exact RenV.clean _ _ (cleanI _) (congrArg (Value.int IntKind.i64) (Eq.symm (by with_reducible assumption))) | exact RenV.clean _ _ (cleanI _) (congrArg (Value.int IntKind.i64) (by with_reducible assumption)) | (with_reducible exact RenV.clean _ _ (.flat _ rfl) rfl) | exact RenV.ptr _ _ _ (by decide) rfl | exact RenV.ofRow (by decide) rfl rfl | exact RenV.clean _ _ (.flat _ rfl) rfl | exact RenV.ptr _ _ _ (by decide) rfl | (refine RenV.sl _ _ _ _ _ _ _ (by decide) rfl ?_ ?_ <;> (simp [encEs_map]; done)) | (refine RenV.sl _ _ _ _ _ _ _ (by decide) rfl ?_ ?_ <;> (simp [encSs_map]; done)) | exact RenV.clean _ _ (cleanI _) rfl | exact RenV.clean _ _ (cleanEs _) rfl | exact RenV.clean _ _ (cleanSs _) rfl)) ?_)); exact RenL.nil)) (.cons rfl (.cells _ _ _ _ (by (repeat (refine RenL.cons (by (first | (with_reducible exact RenV.clean _ _ (cleanI _) rfl) | (with_reducible exact RenV.clean _ _ (cleanEs _) rfl) | (with_reducible exact RenV.clean _ _ (cleanSs _) rfl) | exact RenV.clean _ _ (cleanI _) (congrArg (Value.int IntKind.i64) (Eq.symm (by with_reducible assumption))) | exact RenV.clean _ _ (cleanI _) (congrArg (Value.int IntKind.i64) (by with_reducible assumption)) | (with_reducible exact RenV.clean _ _ (.flat _ rfl) rfl) | exact RenV.ptr _ _ _ (by decide) rfl | exact RenV.ofRow (by decide) rfl rfl | exact RenV.clean _ _ (.flat _ rfl) rfl | exact RenV.ptr _ _ _ (by decide) rfl | (refine RenV.sl _ _ _ _ _ _ _ (by decide) rfl ?_ ?_ <;> (simp [encEs_map]; done)) | (refine RenV.sl _ _ _ _ _ _ _ (by decide) rfl ?_ ?_ <;> (simp [encSs_map]; done)) | exact RenV.clean _ _ (cleanI _) rfl | exact RenV.clean _ _ (cleanEs _) rfl | exact RenV.clean _ _ (cleanSs _) rfl)) ?_)); exact RenL.nil)) (.grown rfl (cellsEs_snoc (e0 :: ipre) (Ex.mk k1 n1 a1 o1 l1)) (cleanCells ((e0 :: ipre) ++ [Ex.mk k1 n1 a1 o1 l1])) .nil)))) ?_⟩
        (repeat (refine slotsRen.cons rfl (by (first | (with_reducible exact RenV.clean _ _ (cleanI _) rfl) | (with_reducible exact RenV.clean _ _ (cleanEs _) rfl) | (with_reducible exact RenV.clean _ _ (cleanSs _) rfl) | exact RenV.clean _ _ (cleanI _) (congrArg (Value.int IntKind.i64) (Eq.symm (by with_reducible assumption))) | exact RenV.clean _ _ (cleanI _) (congrArg (Value.int IntKind.i64) (by with_reducible assumption)) | (with_reducible exact RenV.clean _ _ (.flat _ rfl) rfl) | exact RenV.ptr _ _ _ (by decide) rfl | exact RenV.ofRow (by decide) rfl rfl | exact RenV.clean _ _ (.flat _ rfl) rfl | exact RenV.ptr _ _ _ (by decide) rfl | (refine RenV.sl _ _ _ _ _ _ _ (by decide) rfl ?_ ?_ <;> (simp [encEs_map]; done)) | (refine RenV.sl _ _ _ _ _ _ _ (by decide) rfl ?_ ?_ <;> (simp [encSs_map]; done)) | exact RenV.clean _ _ (cleanI _) rfl | exact RenV.clean _ _ (cleanEs _) rfl | exact RenV.clean _ _ (cleanSs _) rfl)) ?_))
        refine slotsRen.cons rfl (.clean _ _ (cleanI _) ?_) slotsRen.nil
        show Value.int .i64 _ = .int .i64 (IntKind.i64.wrap (((ipre.length + 1 : Nat) : Int) + 1))
        rw [wadd1 (by rw [encEs_map, List.length_map] at hq; omega)]
        simp
    · have h3 := of_decide_eq_false h3
      dsimp only at h3
      rw [encEs_map, List.length_map, ← h2, List.length_append] at h3
      have hr : irest = [] := List.eq_nil_of_length_eq_zero (by omega)
      subst hr
      rw [List.append_nil] at h2
      subst h2
      (conv => whnf); (repeat ((first | refine U.lw_t ?_ | refine U.lw_f ?_ | refine U.lit_t ?_ | refine U.lit_f ?_ | refine U.ob_t ?_); (conv => whnf)))
      refine ⟨by cases ipre <;> rfl, ?_⟩
      (conv => whnf); (repeat ((first | refine U.lw_t ?_ | refine U.lw_f ?_ | refine U.lit_t ?_ | refine U.lit_f ?_ | refine U.ob_t ?_); (conv => whnf)))
      rcases pre with _ | ⟨s0, pre⟩
      · (conv => whnf); (repeat ((first | refine U.lw_t ?_ | refine U.lw_f ?_ | refine U.lit_t ?_ | refine U.lit_f ?_ | refine U.ob_t ?_); (conv => whnf)))
        refine ⟨([] ++ [.mk k a ipre th el no], post), by rw [← h1]; simp, by simp, Cov.frz (fun k => if k = 0 then 5 else k) 3 5 (T := 50) (ys := encEs ipre) rfl rfl (Nat.zero_le _) (Nat.zero_le _) (fun k hk => absurd hk (Nat.not_lt_zero k)) rfl (fun k hk => absurd hk (Nat.not_lt_zero k)) (Nat.zero_le _) rfl rfl (cellsE_5 ipre) (cleanCells ipre) (.grownL rfl ((.cons (.clean _ _ (cleanI _) rfl) (.cons (.clean _ _ (cleanI _) rfl) (.cons (by exact .ext _ _ ⟨rfl, rfl⟩) (.cons (.clean _ _ (cleanSs _) rfl) (.cons (.clean _ _ (cleanSs _) rfl) (.cons (.clean _ _ (cleanI _) rfl) .nil))))))) .nil) ?_⟩
        (repeat (refine slotsRen.cons rfl (by (first | (with_reducible exact RenV.clean _ _ (cleanI _) rfl) | (with_reducible exact RenV.clean _ _ (cleanEs _) rfl) | (with_reducible exact RenV.clean _ _ (cleanSs _) rfl) | exact RenV.clean _ _ (cleanI _) (congrArg (Value.int IntKind.i64) (Eq.symm (by with_reducible assumption))) | exact RenV.clean _ _ (cleanI _) (congrArg (Value.int IntKind.i64) (by with_reducible assumption)) | (with_reducible exact RenV.clean _ _ (.flat _ rfl) rfl) | exact RenV.ptr _ _ _ (by decide) rfl | exact RenV.ofRow (by decide) rfl rfl | exact RenV.clean _ _ (.flat _ rfl) rfl | exact RenV.ptr _ _ _ (by decide) rfl | (refine RenV.sl _ _ _ _ _ _ _ (by decide) rfl ?_ ?_ <;> (simp [encEs_map]; done)) | (refine RenV.sl _ _ _ _ _ _ _ (by decide) rfl ?_ ?_ <;> (simp [encSs_map]; done)) | exact RenV.clean _ _ (cleanI _) rfl | exact RenV.clean _ _ (cleanEs _) rfl | exact RenV.clean _ _ (cleanSs _) rfl)) ?_)); exact slotsRen.nil
      · (conv => whnf); (repeat ((first | refine U.lw_t ?_ | refine U.lw_f ?_ | refine U.lit_t ?_ | refine U.lit_f ?_ | refine U.ob_t ?_); (conv => whnf)))
        refine ⟨Nat.ble_eq_true_of_le (Nat.le_refl _), ?_⟩
        (conv => whnf); (repeat ((first | refine U.lw_t ?_ | refine U.lw_f ?_ | refine U.lit_t ?_ | refine U.lit_f ?_ | refine U.ob_t ?_); (conv => whnf)))
        have hq : (encSs pre).length + 1 + (0 + 1) ≤ 1000000 := by
          rw [encSs_map, List.length_map]
          have := congrArg List.length h1
          simp at this
          omega
        refine ⟨Bool.and_eq_true_iff.2 ⟨Nat.ble_eq_true_of_le (Nat.le_trans (Nat.mul_le_mul hq (Nat.le_of_ble_eq_true rfl : _ ≤ 1000)) (by decide)), Nat.ble_eq_true_of_le hq⟩, ?_⟩
        (conv => whnf); (repeat ((first | refine U.lw_t ?_ | refine U.lw_f ?_ | refine U.lit_t ?_ | refine U.lit_f ?_ | refine U.ob_t ?_); (conv => whnf)))
        rw [ble_f]
        dsimp only
        refine growRow_p (by rw [show encS s0 :: encSs pre = encSs (s0 :: pre) from rfl, cellsSs_len, encSs_map, List.length_map]; rfl) rfl ?_
        (conv => whnf); (repeat ((first | refine U.lw_t ?_ | refine U.lw_f ?_ | refine U.lit_t ?_ | refine U.lit_f ?_ | refine U.ob_t ?_); (conv => whnf)))
        refine ⟨((s0 :: pre) ++ [.mk k a ipre th el no], post), by rw [← h1]; simp, by simp, Cov.frz (fun k => if k = 0 then 5 else k) 3 5 (T := 50) (ys := encEs ipre) rfl rfl (Nat.zero_le _) (Nat.zero_le _) (fun k hk => absurd hk (Nat.not_lt_zero k)) rfl (fun k hk => absurd hk (Nat.not_lt_zero k)) (Nat.zero_le _) rfl rfl (cellsE_5 ipre) (cleanCells ipre) (.grownL rfl (by rw [cellsSs_snoc]; exact RenL.app (RenL.refl (cleanSCells (s0 :: pre))) (.cons (.clean _ _ (cleanI _) rfl) (.cons (.clean _ _ (cleanI _) rfl) (.cons (by exact .ext _ _ ⟨rfl, rfl⟩) (.cons (.clean _ _ (cleanSs _) rfl) (.cons (.clean _ _ (cleanSs _) rfl) (.cons (.clean _ _ (cleanI _) rfl) .nil))))))) .nil) ?_⟩
        (repeat (refine slotsRen.cons rfl (by (first | (with_reducible exact RenV.clean _ _ (cleanI _) rfl) | (with_reducible exact RenV.clean _ _ (cleanEs _) rfl) | (with_reducible exact RenV.clean _ _ (cleanSs _) rfl) | exact RenV.clean _ _ (cleanI _) (congrArg (Value.int IntKind.i64) (Eq.symm (by with_reducible assumption))) | exact RenV.clean _ _ (cleanI _) (congrArg (Value.int IntKind.i64) (by with_reducible assumption)) | (with_reducible exact RenV.clean _ _ (.flat _ rfl) rfl) | exact RenV.ptr _ _ _ (by decide) rfl | exact RenV.ofRow (by decide) rfl rfl | exact RenV.clean _ _ (.flat _ rfl) rfl | exact RenV.ptr _ _ _ (by decide) rfl | (refine RenV.sl _ _ _ _ _ _ _ (by decide) rfl ?_ ?_ <;> (simp [encEs_map]; done)) | (refine RenV.sl _ _ _ _ _ _ _ (by decide) rfl ?_ ?_ <;> (simp [encSs_map]; done)) | exact RenV.clean _ _ (cleanI _) rfl | exact RenV.clean _ _ (cleanEs _) rfl | exact RenV.clean _ _ (cleanSs _) rfl)) ?_))
        refine slotsRen.cons rfl (.clean _ _ (cleanI _) ?_) slotsRen.nil
        show Value.int .i64 _ = .int .i64 (IntKind.i64.wrap (((pre.length + 1 : Nat) : Int) + 1))
        rw [wadd1 (by rw [encSs_map, List.length_map] at hq; omega)]
        simp
  · have h := of_decide_eq_false h
    dsimp only at h
    rw [encSs_map, List.length_map, ← h1, List.length_append] at h
    have hr : rest = [] := List.eq_nil_of_length_eq_zero (by omega)
    subst hr
    rw [List.append_nil] at h1
    subst h1
    (conv => whnf); (repeat ((first | refine U.lw_t ?_ | refine U.lw_f ?_ | refine U.lit_t ?_ | refine U.lit_f ?_ | refine U.ob_t ?_); (conv => whnf)))
    exact .ofRow (Nat.zero_le _) rfl (cellsS_6 pre) (cleanSCells pre)
end Go.Proofs.Ythbhnbnlbhpooaa
