/- Trap sites of layer 13's reference. -/
import Derived.Test.YthbhnbnlbhpooaaTD
namespace Go.Proofs.Ythbhnbnlbhpooaa
open Go Go.RowKit Go.Sort U
set_option linter.unusedVariables false
set_option linter.unusedSimpArgs false
set_option maxRecDepth 100000
set_option maxHeartbeats 4000000
def encT (p : Int × Ex) : Value := .agg ⟨.int .i64 p.1 :: cellsOf (encE p.2)⟩
def encTs (l : List (Int × Ex)) : List Value := l.map encT
theorem cellsT_6 (l : List (Int × Ex)) : ∀ y, y ∈ encTs l → (cellsOf y).length = 6 := fun y hy => by
  obtain ⟨⟨a, ⟨k, n, b, o, m⟩⟩, _, rfl⟩ := List.mem_map.1 hy
  rfl
theorem cleanT : ∀ (p : Int × Ex), ∀ c ∈ cellsOf (encT p), NoNm c := fun p c hc => by
  have hc : c ∈ Value.int .i64 p.1 :: cellsOf (encE p.2) := hc
  rcases List.mem_cons.1 hc with rfl | hc
  · exact .flat _ rfl
  · exact cleanE_cells p.2 c hc
theorem cleanTCells (l : List (Int × Ex)) : ∀ c, c ∈ cellsAll (encTs l) → NoNm c := fun c hc => by
  obtain ⟨v, hv, hc⟩ := List.mem_flatMap.1 hc
  obtain ⟨e, he, rfl⟩ := List.mem_map.1 hv
  exact cleanT e c hc
theorem cleanTs (l : List (Int × Ex)) : NoNm (imS (encTs l)) := .ims _ (cleanTCells l)
theorem cellsTs_len : ∀ l : List (Int × Ex), (cellsAll (encTs l)).length = l.length * 6
  | [] => rfl
  | (a, .mk k n b o m) :: l => by
    rw [show encTs ((a, Ex.mk k n b o m) :: l) = encT (a, Ex.mk k n b o m) :: encTs l from rfl, cellsAll, List.flatMap_cons, List.length_append, ← cellsAll, cellsTs_len l, List.length_cons]
    show 6 + _ = _
    omega
theorem cellsTs_app (l m : List (Int × Ex)) : cellsAll (encTs (l ++ m)) = cellsAll (encTs l) ++ cellsAll (encTs m) := by
  rw [encTs, List.map_append, cellsAll, List.flatMap_append]; rfl
theorem cellsTs_one (l : List (Int × Ex)) : (cellsAll (encTs l)).all Value.oneCell' = true := by
  refine List.all_eq_true.2 fun c hc => ?_
  obtain ⟨v, hv, hc⟩ := List.mem_flatMap.1 hc
  obtain ⟨⟨a, ⟨k, n, b, o, m⟩⟩, _, rfl⟩ := List.mem_map.1 hv
  have hc : c ∈ [Value.int .i64 a, .int .i64 k, .int .i64 n, .int .i64 b, .int .i64 o, imS (encEs m)] := hc
  simp only [List.mem_cons, List.not_mem_nil, or_false] at hc
  rcases hc with rfl | rfl | rfl | rfl | rfl | rfl <;> rfl
def ownT (k a o : Int) (l : List Ex) : List (Int × Ex) :=
  if k = 2 then (match l with
    | [] => []
    | e :: _ => [(a, e)])
  else if k = 4 ∧ (o = 16 ∨ o = 17) then (match l with
    | _ :: e :: _ => [(-1, e)]
    | _ => [])
  else []
mutual
def trE : Ex → List (Int × Ex)
  | .mk k n a o l => trEs l ++ ownT k a o l
def trEs : List Ex → List (Int × Ex)
  | [] => []
  | e :: l => trE e ++ trEs l
end
theorem ownT_len (k a o : Int) (l : List Ex) : (ownT k a o l).length ≤ 1 := by
  unfold ownT
  repeat' split
  all_goals simp
mutual
theorem trE_len : ∀ e : Ex, (trE e).length ≤ szE e
  | .mk k n a o l => by
    rw [trE, szE, List.length_append]
    have := ownT_len k a o l
    have := trEs_len l
    omega
theorem trEs_len : ∀ l : List Ex, (trEs l).length ≤ szEs l
  | [] => Nat.zero_le _
  | e :: l => by
    rw [trEs, szEs, List.length_append]
    have := trE_len e
    have := trEs_len l
    omega
end
theorem trEs_app : ∀ l m : List Ex, trEs (l ++ m) = trEs l ++ trEs m
  | [], m => rfl
  | e :: l, m => by rw [List.cons_append, trEs, trEs, trEs_app l m, List.append_assoc]
theorem exprTraps_d (k n a o : Int) (l : List Ex) (hl : szEs l ≤ 1000) (ih : ∀ e ∈ l, DenU Try.prog [] 17 [encE e] (imS (encTs (trE e)))) : DenU Try.prog [] 17 [encE (.mk k n a o l)] (imS (encTs (trE (.mk k n a o l)))) := by
  refine denU_of_body hmixU rfl Try.func17 rfl rfl rfl 0 ?_
  intro Ts
  (conv => whnf); (repeat ((first | refine U.lw_t ?_ | refine U.lw_f ?_ | refine U.lit_t ?_ | refine U.lit_f ?_ | refine U.ob_t ?_); (conv => whnf)))
  refine loop_inv (α := List Ex × List Ex) (fun x => x.1 ++ x.2 = l) (fun x => (mkF [(1, .pointer (some ⟨0, 0, none⟩)), (2, .slice none 0 0), (3, rowS 1 (encTs (trEs x.1))), (4, .int .i64 x.1.length)], ⟨mkO [(0, some (.cells 50 [.int .i64 k, .int .i64 n, .int .i64 a, .int .i64 o, imS (encEs l)] false)), (1, rowO 52 (encTs (trEs x.1)))], 2, 0, 0⟩)) (fun x => x.2.length) ([], l) rfl
    (Cov.renO (fun k => k) rfl rfl (Nat.le_of_ble_eq_true rfl) (Nat.zero_le _) (fun _ _ => rfl) rfl (fun k hk => absurd hk (Nat.not_lt_zero k)) (by (repeat (first | refine blksO.cons rfl (.cells _ _ _ _ (by (repeat (refine RenL.cons (by (first | (with_reducible exact RenV.clean _ _ (cleanI _) rfl) | (with_reducible exact RenV.clean _ _ (cleanEs _) rfl) | (with_reducible exact RenV.clean _ _ (cleanSs _) rfl) | exact RenV.clean _ _ (cleanI _) (congrArg (Value.int IntKind.i64) (Eq.symm (by with_reducible assumption))) | exact RenV.clean _ _ (cleanI _) (congrArg (Value.int IntKind.i64) (by with_reducible assumption)) | (with_reducible exact RenV.clean _ _ (.flat _ rfl) rfl) | exact RenV.ptr _ _ _ (by decide) rfl | exact RenV.ofRow (by decide) rfl rfl | exact RenV.clean _ _ (.flat _ rfl) rfl | exact RenV.ptr _ _ _ (by decide) rfl | (refine RenV.sl _ _ _ _ _ _ _ (by decide) rfl ?_ ?_ <;> (simp [encEs_map]; done)) | (refine RenV.sl _ _ _ _ _ _ _ (by decide) rfl ?_ ?_ <;> (simp [encSs_map]; done)) | exact RenV.clean _ _ (cleanI _) rfl | exact RenV.clean _ _ (cleanEs _) rfl | exact RenV.clean _ _ (cleanSs _) rfl)) ?_)); exact RenL.nil)) ?_ | refine blksO.none ?_ | exact blksO.nil))) (by (repeat (refine slotsRen.cons rfl (by (first | (with_reducible exact RenV.clean _ _ (cleanI _) rfl) | (with_reducible exact RenV.clean _ _ (cleanEs _) rfl) | (with_reducible exact RenV.clean _ _ (cleanSs _) rfl) | exact RenV.clean _ _ (cleanI _) (congrArg (Value.int IntKind.i64) (Eq.symm (by with_reducible assumption))) | exact RenV.clean _ _ (cleanI _) (congrArg (Value.int IntKind.i64) (by with_reducible assumption)) | (with_reducible exact RenV.clean _ _ (.flat _ rfl) rfl) | exact RenV.ptr _ _ _ (by decide) rfl | exact RenV.ofRow (by decide) rfl rfl | exact RenV.clean _ _ (.flat _ rfl) rfl | exact RenV.ptr _ _ _ (by decide) rfl | (refine RenV.sl _ _ _ _ _ _ _ (by decide) rfl ?_ ?_ <;> (simp [encEs_map]; done)) | (refine RenV.sl _ _ _ _ _ _ _ (by decide) rfl ?_ ?_ <;> (simp [encSs_map]; done)) | exact RenV.clean _ _ (cleanI _) rfl | exact RenV.clean _ _ (cleanEs _) rfl | exact RenV.clean _ _ (cleanSs _) rfl)) ?_)); exact slotsRen.nil)) ?_
  rintro ⟨pre, rest⟩ h1
  dsimp only at h1
  (conv => whnf); (repeat ((first | refine U.lw_t ?_ | refine U.lw_f ?_ | refine U.lit_t ?_ | refine U.lit_f ?_ | refine U.ob_t ?_); (conv => whnf)))
  refine U.lw_c (fun h => ?_) (fun h => ?_)
  · have h := of_decide_eq_true h
    dsimp only at h
    rw [encEs_map, List.length_map, ← h1, List.length_append] at h
    cases rest with
    | nil => simp at h
    | cons e post =>
    (conv => whnf); (repeat ((first | refine U.lw_t ?_ | refine U.lw_f ?_ | refine U.lit_t ?_ | refine U.lit_f ?_ | refine U.ob_t ?_); (conv => whnf)))
    refine ⟨Nat.ble_eq_true_of_le (by
      show pre.length + 1 ≤ (encEs l).length
      rw [encEs_map, List.length_map, ← h1]; simp), ?_⟩
    (conv => whnf); (repeat ((first | refine U.lw_t ?_ | refine U.lw_f ?_ | refine U.lit_t ?_ | refine U.lit_f ?_ | refine U.ob_t ?_); (conv => whnf)))
    refine ⟨encE e, by
      show nth (encEs l) pre.length = _
      have := nth_mid (encE e) (pre.map encE) (post.map encE)
      rw [List.length_map] at this
      rw [encEs_map, ← h1, List.map_append, List.map_cons]
      exact this, ?_⟩
    have ihe := ih e (by rw [← h1]; simp)
    obtain ⟨k1, n1, a1, o1, l1⟩ := e
    (conv => whnf); (repeat ((first | refine U.lw_t ?_ | refine U.lw_f ?_ | refine U.lit_t ?_ | refine U.lit_f ?_ | refine U.ob_t ?_); (conv => whnf)))
    refine ⟨_, ihe, ⟨cleanE (.mk k1 n1 a1 o1 l1), trivial⟩, tab0 _, ?_⟩
    clear ihe
    have hsz : (trEs pre).length + (trE (.mk k1 n1 a1 o1 l1)).length ≤ 1000 := by
      have e1 : (trEs l).length = _ := congrArg (fun x => (trEs x).length) h1.symm
      rw [trEs_app, trEs, List.length_append, List.length_append] at e1
      have := trEs_len l
      omega
    have hnx : trEs (pre ++ [.mk k1 n1 a1 o1 l1]) = trEs pre ++ trE (.mk k1 n1 a1 o1 l1) := by rw [trEs_app, trEs, trEs, List.append_nil]
    generalize trE (.mk k1 n1 a1 o1 l1) = ts at hsz hnx ⊢
    have hwr : IntKind.i64.wrap ((pre.length : Int) + 1) = ((pre ++ [Ex.mk k1 n1 a1 o1 l1]).length : Int) := by
      rw [wadd1 (by have := congrArg List.length h1; have := szEs_len l; simp at *; omega), List.length_append]; rfl
    generalize trEs pre = us at hsz hnx ⊢
    rcases us with _ | ⟨u0, us⟩ <;> rcases ts with _ | ⟨t0, ts⟩
    · (conv => whnf); (repeat ((first | refine U.lw_t ?_ | refine U.lw_f ?_ | refine U.lit_t ?_ | refine U.lit_f ?_ | refine U.ob_t ?_); (conv => whnf)))
      refine ⟨(pre ++ [.mk k1 n1 a1 o1 l1], post), by rw [← h1]; simp, by simp, Cov.renO (fun k => if k = 1 then 1 else k) rfl rfl (Nat.le_of_ble_eq_true rfl) (Nat.zero_le _) (fun k hk => if_neg (by have : k < 1 := hk; omega)) rfl (fun k hk => absurd hk (Nat.not_lt_zero k)) (.cons rfl (.cells _ _ _ _ (by (repeat (refine RenL.cons (by (first | (with_reducible exact RenV.clean _ _ (cleanI _) rfl) | (with_reducible exact RenV.clean _ _ (cleanEs _) rfl) | (with_reducible exact RenV.clean _ _ (cleanSs _) rfl) | exact RenV.clean _ _ (cleanI _) (congrArg (Value.int IntKind.i64) (Eq.symm (by with_reducible assumption))) | exact RenV.clean _ _ (cleanI _) (congrArg (Value.int IntKind.i64) (by with_reducible assumption)) | (with_reducible exact RenV.clean _ _ (.flat _ rfl) rfl) | exact RenV.ptr _ _ _ (by decide) rfl | exact RenV.ofRow (by decide) rfl rfl | exact RenV.clean _ _ (.flat _ rfl) rfl | exact RenV.ptr _ _ _ (by decide) rfl | (refine RenV.sl _ _ _ _ _ _ _ (by decide) rfl ?_ ?_ <;> (simp [encEs_map]; done)) | (refine RenV.sl _ _ _ _ _ _ _ (by decide) rfl ?_ ?_ <;> (simp [encSs_map]; done)) | exact RenV.clean _ _ (cleanI _) rfl | exact RenV.clean _ _ (cleanEs _) rfl | exact RenV.clean _ _ (cleanSs _) rfl)) ?_)); exact RenL.nil)) (.row (ys' := []) rfl (by rw [hnx]; rfl) (cleanTCells _) .nil)) (.cons rfl (by (first | (with_reducible exact RenV.clean _ _ (cleanI _) rfl) | (with_reducible exact RenV.clean _ _ (cleanEs _) rfl) | (with_reducible exact RenV.clean _ _ (cleanSs _) rfl) | exact RenV.clean _ _ (cleanI _) (congrArg (Value.int IntKind.i64) (Eq.symm (by with_reducible assumption))) | exact RenV.clean _ _ (cleanI _) (congrArg (Value.int IntKind.i64) (by with_reducible assumption)) | (with_reducible exact RenV.clean _ _ (.flat _ rfl) rfl) | exact RenV.ptr _ _ _ (by decide) rfl | exact RenV.ofRow (by decide) rfl rfl | exact RenV.clean _ _ (.flat _ rfl) rfl | exact RenV.ptr _ _ _ (by decide) rfl | (refine RenV.sl _ _ _ _ _ _ _ (by decide) rfl ?_ ?_ <;> (simp [encEs_map]; done)) | (refine RenV.sl _ _ _ _ _ _ _ (by decide) rfl ?_ ?_ <;> (simp [encSs_map]; done)) | exact RenV.clean _ _ (cleanI _) rfl | exact RenV.clean _ _ (cleanEs _) rfl | exact RenV.clean _ _ (cleanSs _) rfl)) (.cons rfl (by (first | (with_reducible exact RenV.clean _ _ (cleanI _) rfl) | (with_reducible exact RenV.clean _ _ (cleanEs _) rfl) | (with_reducible exact RenV.clean _ _ (cleanSs _) rfl) | exact RenV.clean _ _ (cleanI _) (congrArg (Value.int IntKind.i64) (Eq.symm (by with_reducible assumption))) | exact RenV.clean _ _ (cleanI _) (congrArg (Value.int IntKind.i64) (by with_reducible assumption)) | (with_reducible exact RenV.clean _ _ (.flat _ rfl) rfl) | exact RenV.ptr _ _ _ (by decide) rfl | exact RenV.ofRow (by decide) rfl rfl | exact RenV.clean _ _ (.flat _ rfl) rfl | exact RenV.ptr _ _ _ (by decide) rfl | (refine RenV.sl _ _ _ _ _ _ _ (by decide) rfl ?_ ?_ <;> (simp [encEs_map]; done)) | (refine RenV.sl _ _ _ _ _ _ _ (by decide) rfl ?_ ?_ <;> (simp [encSs_map]; done)) | exact RenV.clean _ _ (cleanI _) rfl | exact RenV.clean _ _ (cleanEs _) rfl | exact RenV.clean _ _ (cleanSs _) rfl)) (.cons rfl (.ofRow (b' := 1) (ys' := []) (by decide) rfl (by rw [hnx]; rfl)) (.cons rfl (.clean _ _ (cleanI _) (congrArg _ hwr.symm)) .nil))))⟩
    · (conv => whnf); (repeat ((first | refine U.lw_t ?_ | refine U.lw_f ?_ | refine U.lit_t ?_ | refine U.lit_f ?_ | refine U.ob_t ?_); (conv => whnf)))
      refine ⟨Bool.and_eq_true_iff.2 ⟨by rw [cellsTs_len, encTs, List.length_map]; exact Nat.beq_refl _, cellsTs_one (t0 :: ts)⟩, ?_⟩
      (conv => whnf); (repeat ((first | refine U.lw_t ?_ | refine U.lw_f ?_ | refine U.lit_t ?_ | refine U.lit_f ?_ | refine U.ob_t ?_); (conv => whnf)))
      have hq : 0 + ((List.map encT ts).length + 1) ≤ 1000000 := by
        rw [List.length_map]
        simp at hsz
        omega
      refine ⟨Bool.and_eq_true_iff.2 ⟨Nat.ble_eq_true_of_le (Nat.le_trans (Nat.mul_le_mul hq (Nat.le_of_ble_eq_true rfl : _ ≤ 1000)) (by decide)), Nat.ble_eq_true_of_le hq⟩, ?_⟩
      (conv => whnf); (repeat ((first | refine U.lw_t ?_ | refine U.lw_f ?_ | refine U.lit_t ?_ | refine U.lit_f ?_ | refine U.ob_t ?_); (conv => whnf)))
      refine ⟨(pre ++ [.mk k1 n1 a1 o1 l1], post), by rw [← h1]; simp, by simp, Cov.renO (fun k => if k = 1 then 2 else k) rfl rfl (Nat.le_of_ble_eq_true rfl) (Nat.zero_le _) (fun k hk => if_neg (by have : k < 1 := hk; omega)) rfl (fun k hk => absurd hk (Nat.not_lt_zero k)) (.cons rfl (.cells _ _ _ _ (by (repeat (refine RenL.cons (by (first | (with_reducible exact RenV.clean _ _ (cleanI _) rfl) | (with_reducible exact RenV.clean _ _ (cleanEs _) rfl) | (with_reducible exact RenV.clean _ _ (cleanSs _) rfl) | exact RenV.clean _ _ (cleanI _) (congrArg (Value.int IntKind.i64) (Eq.symm (by with_reducible assumption))) | exact RenV.clean _ _ (cleanI _) (congrArg (Value.int IntKind.i64) (by with_reducible assumption)) | (with_reducible exact RenV.clean _ _ (.flat _ rfl) rfl) | exact RenV.ptr _ _ _ (by decide) rfl | exact RenV.ofRow (by decide) rfl rfl | exact RenV.clean _ _ (.flat _ rfl) rfl | exact RenV.ptr _ _ _ (by decide) rfl | (refine RenV.sl _ _ _ _ _ _ _ (by decide) rfl ?_ ?_ <;> (simp [encEs_map]; done)) | (refine RenV.sl _ _ _ _ _ _ _ (by decide) rfl ?_ ?_ <;> (simp [encSs_map]; done)) | exact RenV.clean _ _ (cleanI _) rfl | exact RenV.clean _ _ (cleanEs _) rfl | exact RenV.clean _ _ (cleanSs _) rfl)) ?_)); exact RenL.nil)) (.grown rfl (by rw [hnx]; rfl) (cleanTCells _) .nil)) (.cons rfl (by (first | (with_reducible exact RenV.clean _ _ (cleanI _) rfl) | (with_reducible exact RenV.clean _ _ (cleanEs _) rfl) | (with_reducible exact RenV.clean _ _ (cleanSs _) rfl) | exact RenV.clean _ _ (cleanI _) (congrArg (Value.int IntKind.i64) (Eq.symm (by with_reducible assumption))) | exact RenV.clean _ _ (cleanI _) (congrArg (Value.int IntKind.i64) (by with_reducible assumption)) | (with_reducible exact RenV.clean _ _ (.flat _ rfl) rfl) | exact RenV.ptr _ _ _ (by decide) rfl | exact RenV.ofRow (by decide) rfl rfl | exact RenV.clean _ _ (.flat _ rfl) rfl | exact RenV.ptr _ _ _ (by decide) rfl | (refine RenV.sl _ _ _ _ _ _ _ (by decide) rfl ?_ ?_ <;> (simp [encEs_map]; done)) | (refine RenV.sl _ _ _ _ _ _ _ (by decide) rfl ?_ ?_ <;> (simp [encSs_map]; done)) | exact RenV.clean _ _ (cleanI _) rfl | exact RenV.clean _ _ (cleanEs _) rfl | exact RenV.clean _ _ (cleanSs _) rfl)) (.cons rfl (by (first | (with_reducible exact RenV.clean _ _ (cleanI _) rfl) | (with_reducible exact RenV.clean _ _ (cleanEs _) rfl) | (with_reducible exact RenV.clean _ _ (cleanSs _) rfl) | exact RenV.clean _ _ (cleanI _) (congrArg (Value.int IntKind.i64) (Eq.symm (by with_reducible assumption))) | exact RenV.clean _ _ (cleanI _) (congrArg (Value.int IntKind.i64) (by with_reducible assumption)) | (with_reducible exact RenV.clean _ _ (.flat _ rfl) rfl) | exact RenV.ptr _ _ _ (by decide) rfl | exact RenV.ofRow (by decide) rfl rfl | exact RenV.clean _ _ (.flat _ rfl) rfl | exact RenV.ptr _ _ _ (by decide) rfl | (refine RenV.sl _ _ _ _ _ _ _ (by decide) rfl ?_ ?_ <;> (simp [encEs_map]; done)) | (refine RenV.sl _ _ _ _ _ _ _ (by decide) rfl ?_ ?_ <;> (simp [encSs_map]; done)) | exact RenV.clean _ _ (cleanI _) rfl | exact RenV.clean _ _ (cleanEs _) rfl | exact RenV.clean _ _ (cleanSs _) rfl)) (.cons rfl (.grown (by decide) rfl (by rw [hnx]; simp [encTs]) (by rw [hnx]; simp [encTs]; try omega) (by rw [hnx]; simp [encTs]; try omega)) (.cons rfl (.clean _ _ (cleanI _) (congrArg _ hwr.symm)) .nil))))⟩
    · (conv => whnf); (repeat ((first | refine U.lw_t ?_ | refine U.lw_f ?_ | refine U.lit_t ?_ | refine U.lit_f ?_ | refine U.ob_t ?_); (conv => whnf)))
      refine ⟨Nat.ble_eq_true_of_le (Nat.le_refl _), ?_⟩
      (conv => whnf); (repeat ((first | refine U.lw_t ?_ | refine U.lw_f ?_ | refine U.lit_t ?_ | refine U.lit_f ?_ | refine U.ob_t ?_); (conv => whnf)))
      refine ⟨(pre ++ [.mk k1 n1 a1 o1 l1], post), by rw [← h1]; simp, by simp, Cov.renO (fun k => if k = 1 then 1 else k) rfl rfl (Nat.le_of_ble_eq_true rfl) (Nat.zero_le _) (fun k hk => if_neg (by have : k < 1 := hk; omega)) rfl (fun k hk => absurd hk (Nat.not_lt_zero k)) (.cons rfl (.cells _ _ _ _ (by (repeat (refine RenL.cons (by (first | (with_reducible exact RenV.clean _ _ (cleanI _) rfl) | (with_reducible exact RenV.clean _ _ (cleanEs _) rfl) | (with_reducible exact RenV.clean _ _ (cleanSs _) rfl) | exact RenV.clean _ _ (cleanI _) (congrArg (Value.int IntKind.i64) (Eq.symm (by with_reducible assumption))) | exact RenV.clean _ _ (cleanI _) (congrArg (Value.int IntKind.i64) (by with_reducible assumption)) | (with_reducible exact RenV.clean _ _ (.flat _ rfl) rfl) | exact RenV.ptr _ _ _ (by decide) rfl | exact RenV.ofRow (by decide) rfl rfl | exact RenV.clean _ _ (.flat _ rfl) rfl | exact RenV.ptr _ _ _ (by decide) rfl | (refine RenV.sl _ _ _ _ _ _ _ (by decide) rfl ?_ ?_ <;> (simp [encEs_map]; done)) | (refine RenV.sl _ _ _ _ _ _ _ (by decide) rfl ?_ ?_ <;> (simp [encSs_map]; done)) | exact RenV.clean _ _ (cleanI _) rfl | exact RenV.clean _ _ (cleanEs _) rfl | exact RenV.clean _ _ (cleanSs _) rfl)) ?_)); exact RenL.nil)) (.row (ys' := encTs (u0 :: us)) rfl (by rw [hnx, List.append_nil]) (cleanTCells _) .nil)) (.cons rfl (by (first | (with_reducible exact RenV.clean _ _ (cleanI _) rfl) | (with_reducible exact RenV.clean _ _ (cleanEs _) rfl) | (with_reducible exact RenV.clean _ _ (cleanSs _) rfl) | exact RenV.clean _ _ (cleanI _) (congrArg (Value.int IntKind.i64) (Eq.symm (by with_reducible assumption))) | exact RenV.clean _ _ (cleanI _) (congrArg (Value.int IntKind.i64) (by with_reducible assumption)) | (with_reducible exact RenV.clean _ _ (.flat _ rfl) rfl) | exact RenV.ptr _ _ _ (by decide) rfl | exact RenV.ofRow (by decide) rfl rfl | exact RenV.clean _ _ (.flat _ rfl) rfl | exact RenV.ptr _ _ _ (by decide) rfl | (refine RenV.sl _ _ _ _ _ _ _ (by decide) rfl ?_ ?_ <;> (simp [encEs_map]; done)) | (refine RenV.sl _ _ _ _ _ _ _ (by decide) rfl ?_ ?_ <;> (simp [encSs_map]; done)) | exact RenV.clean _ _ (cleanI _) rfl | exact RenV.clean _ _ (cleanEs _) rfl | exact RenV.clean _ _ (cleanSs _) rfl)) (.cons rfl (by (first | (with_reducible exact RenV.clean _ _ (cleanI _) rfl) | (with_reducible exact RenV.clean _ _ (cleanEs _) rfl) | (with_reducible exact RenV.clean _ _ (cleanSs _) rfl) | exact RenV.clean _ _ (cleanI _) (congrArg (Value.int IntKind.i64) (Eq.symm (by with_reducible assumption))) | exact RenV.clean _ _ (cleanI _) (congrArg (Value.int IntKind.i64) (by with_reducible assumption)) | (with_reducible exact RenV.clean _ _ (.flat _ rfl) rfl) | exact RenV.ptr _ _ _ (by decide) rfl | exact RenV.ofRow (by decide) rfl rfl | exact RenV.clean _ _ (.flat _ rfl) rfl | exact RenV.ptr _ _ _ (by decide) rfl | (refine RenV.sl _ _ _ _ _ _ _ (by decide) rfl ?_ ?_ <;> (simp [encEs_map]; done)) | (refine RenV.sl _ _ _ _ _ _ _ (by decide) rfl ?_ ?_ <;> (simp [encSs_map]; done)) | exact RenV.clean _ _ (cleanI _) rfl | exact RenV.clean _ _ (cleanEs _) rfl | exact RenV.clean _ _ (cleanSs _) rfl)) (.cons rfl (.ofRow (b' := 1) (ys' := encTs (u0 :: us)) (by decide) rfl (by rw [hnx, List.append_nil])) (.cons rfl (.clean _ _ (cleanI _) (congrArg _ hwr.symm)) .nil))))⟩
    · (conv => whnf); (repeat ((first | refine U.lw_t ?_ | refine U.lw_f ?_ | refine U.lit_t ?_ | refine U.lit_f ?_ | refine U.ob_t ?_); (conv => whnf)))
      refine ⟨Bool.and_eq_true_iff.2 ⟨by rw [cellsTs_len, encTs, List.length_map]; exact Nat.beq_refl _, cellsTs_one (t0 :: ts)⟩, ?_⟩
      (conv => whnf); (repeat ((first | refine U.lw_t ?_ | refine U.lw_f ?_ | refine U.lit_t ?_ | refine U.lit_f ?_ | refine U.ob_t ?_); (conv => whnf)))
      refine ⟨Nat.ble_eq_true_of_le (Nat.le_refl _), ?_⟩
      (conv => whnf); (repeat ((first | refine U.lw_t ?_ | refine U.lw_f ?_ | refine U.lit_t ?_ | refine U.lit_f ?_ | refine U.ob_t ?_); (conv => whnf)))
      have hq : (List.map encT us).length + 1 + ((List.map encT ts).length + 1) ≤ 1000000 := by
        rw [List.length_map, List.length_map]
        simp at hsz
        omega
      refine ⟨Bool.and_eq_true_iff.2 ⟨Nat.ble_eq_true_of_le (Nat.le_trans (Nat.mul_le_mul hq (Nat.le_of_ble_eq_true rfl : _ ≤ 1000)) (by decide)), Nat.ble_eq_true_of_le hq⟩, ?_⟩
      (conv => whnf); (repeat ((first | refine U.lw_t ?_ | refine U.lw_f ?_ | refine U.lit_t ?_ | refine U.lit_f ?_ | refine U.ob_t ?_); (conv => whnf)))
      rw [ble_g]
      dsimp only
      refine growRow_p (by rw [show encT u0 :: List.map encT us = encTs (u0 :: us) from rfl, cellsTs_len, List.length_map]; rfl) rfl ?_
      (conv => whnf); (repeat ((first | refine U.lw_t ?_ | refine U.lw_f ?_ | refine U.lit_t ?_ | refine U.lit_f ?_ | refine U.ob_t ?_); (conv => whnf)))
      refine ⟨(pre ++ [.mk k1 n1 a1 o1 l1], post), by rw [← h1]; simp, by simp, Cov.renO (fun k => if k = 1 then 2 else k) rfl rfl (Nat.le_of_ble_eq_true rfl) (Nat.zero_le _) (fun k hk => if_neg (by have : k < 1 := hk; omega)) rfl (fun k hk => absurd hk (Nat.not_lt_zero k)) (.cons rfl (.cells _ _ _ _ (by (repeat (refine RenL.cons (by (first | (with_reducible exact RenV.clean _ _ (cleanI _) rfl) | (with_reducible exact RenV.clean _ _ (cleanEs _) rfl) | (with_reducible exact RenV.clean _ _ (cleanSs _) rfl) | exact RenV.clean _ _ (cleanI _) (congrArg (Value.int IntKind.i64) (Eq.symm (by with_reducible assumption))) | exact RenV.clean _ _ (cleanI _) (congrArg (Value.int IntKind.i64) (by with_reducible assumption)) | (with_reducible exact RenV.clean _ _ (.flat _ rfl) rfl) | exact RenV.ptr _ _ _ (by decide) rfl | exact RenV.ofRow (by decide) rfl rfl | exact RenV.clean _ _ (.flat _ rfl) rfl | exact RenV.ptr _ _ _ (by decide) rfl | (refine RenV.sl _ _ _ _ _ _ _ (by decide) rfl ?_ ?_ <;> (simp [encEs_map]; done)) | (refine RenV.sl _ _ _ _ _ _ _ (by decide) rfl ?_ ?_ <;> (simp [encSs_map]; done)) | exact RenV.clean _ _ (cleanI _) rfl | exact RenV.clean _ _ (cleanEs _) rfl | exact RenV.clean _ _ (cleanSs _) rfl)) ?_)); exact RenL.nil)) (.grown rfl (by rw [hnx, cellsTs_app]; rfl) (cleanTCells _) .nil)) (.cons rfl (by (first | (with_reducible exact RenV.clean _ _ (cleanI _) rfl) | (with_reducible exact RenV.clean _ _ (cleanEs _) rfl) | (with_reducible exact RenV.clean _ _ (cleanSs _) rfl) | exact RenV.clean _ _ (cleanI _) (congrArg (Value.int IntKind.i64) (Eq.symm (by with_reducible assumption))) | exact RenV.clean _ _ (cleanI _) (congrArg (Value.int IntKind.i64) (by with_reducible assumption)) | (with_reducible exact RenV.clean _ _ (.flat _ rfl) rfl) | exact RenV.ptr _ _ _ (by decide) rfl | exact RenV.ofRow (by decide) rfl rfl | exact RenV.clean _ _ (.flat _ rfl) rfl | exact RenV.ptr _ _ _ (by decide) rfl | (refine RenV.sl _ _ _ _ _ _ _ (by decide) rfl ?_ ?_ <;> (simp [encEs_map]; done)) | (refine RenV.sl _ _ _ _ _ _ _ (by decide) rfl ?_ ?_ <;> (simp [encSs_map]; done)) | exact RenV.clean _ _ (cleanI _) rfl | exact RenV.clean _ _ (cleanEs _) rfl | exact RenV.clean _ _ (cleanSs _) rfl)) (.cons rfl (by (first | (with_reducible exact RenV.clean _ _ (cleanI _) rfl) | (with_reducible exact RenV.clean _ _ (cleanEs _) rfl) | (with_reducible exact RenV.clean _ _ (cleanSs _) rfl) | exact RenV.clean _ _ (cleanI _) (congrArg (Value.int IntKind.i64) (Eq.symm (by with_reducible assumption))) | exact RenV.clean _ _ (cleanI _) (congrArg (Value.int IntKind.i64) (by with_reducible assumption)) | (with_reducible exact RenV.clean _ _ (.flat _ rfl) rfl) | exact RenV.ptr _ _ _ (by decide) rfl | exact RenV.ofRow (by decide) rfl rfl | exact RenV.clean _ _ (.flat _ rfl) rfl | exact RenV.ptr _ _ _ (by decide) rfl | (refine RenV.sl _ _ _ _ _ _ _ (by decide) rfl ?_ ?_ <;> (simp [encEs_map]; done)) | (refine RenV.sl _ _ _ _ _ _ _ (by decide) rfl ?_ ?_ <;> (simp [encSs_map]; done)) | exact RenV.clean _ _ (cleanI _) rfl | exact RenV.clean _ _ (cleanEs _) rfl | exact RenV.clean _ _ (cleanSs _) rfl)) (.cons rfl (.grown (by decide) rfl (by rw [hnx]; simp [encTs]) (by rw [hnx]; simp [encTs]; try omega) (by rw [hnx]; simp [encTs]; try omega)) (.cons rfl (.clean _ _ (cleanI _) (congrArg _ hwr.symm)) .nil))))⟩
  · have h := of_decide_eq_false h
    dsimp only at h
    rw [encEs_map, List.length_map, ← h1, List.length_append] at h
    have hr : rest = [] := List.eq_nil_of_length_eq_zero (by omega)
    subst hr
    rw [List.append_nil] at h1
    subst h1
    have hus : (trEs pre).length ≤ 1000 := Nat.le_trans (trEs_len pre) hl
    rw [trE]
    generalize trEs pre = us at hus ⊢
    (conv => whnf); (repeat ((first | refine U.lw_t ?_ | refine U.lw_f ?_ | refine U.lit_t ?_ | refine U.lit_f ?_ | refine U.ob_t ?_); (conv => whnf)))
    refine U.lw_c (fun hk => ?_) (fun hk => ?_)
    · obtain rfl : k = 2 := eq_of_beq hk
      rcases pre with _ | ⟨e, pre⟩
      · (conv => whnf); (repeat ((first | refine U.lw_t ?_ | refine U.lw_f ?_ | refine U.lit_t ?_ | refine U.lit_f ?_ | refine U.ob_t ?_); (conv => whnf)))
        rw [show ownT 2 a o [] = [] from rfl, List.append_nil]
        exact .ofRow (Nat.zero_le _) rfl (cellsT_6 us) (cleanTCells us)
      · (conv => whnf); (repeat ((first | refine U.lw_t ?_ | refine U.lw_f ?_ | refine U.lit_t ?_ | refine U.lit_f ?_ | refine U.ob_t ?_); (conv => whnf)))
        refine U.lw_c (fun h5 => ?_) (fun h5 => ?_)
        · (conv => whnf); (repeat ((first | refine U.lw_t ?_ | refine U.lw_f ?_ | refine U.lit_t ?_ | refine U.lit_f ?_ | refine U.ob_t ?_); (conv => whnf)))
          refine U.drawX_p (D := U.propX) 9 [] (by kernel_rfl) (by kernel_rfl) ?_; (conv => whnf); (repeat ((first | refine U.lw_t ?_ | refine U.lw_f ?_ | refine U.lit_t ?_ | refine U.lit_f ?_ | refine U.ob_t ?_); (conv => whnf)))
          refine ⟨encE e, rfl, ?_⟩
          obtain ⟨k1, n1, a1, o1, l1⟩ := e
          (conv => whnf); (repeat ((first | refine U.lw_t ?_ | refine U.lw_f ?_ | refine U.lit_t ?_ | refine U.lit_f ?_ | refine U.ob_t ?_); (conv => whnf)))
          rcases us with _ | ⟨u0, us⟩
          · (conv => whnf); (repeat ((first | refine U.lw_t ?_ | refine U.lw_f ?_ | refine U.lit_t ?_ | refine U.lit_f ?_ | refine U.ob_t ?_); (conv => whnf)))
            rw [show ownT 2 a o (Ex.mk k1 n1 a1 o1 l1 :: pre) = [(a, Ex.mk k1 n1 a1 o1 l1)] from rfl]
            exact .rowL (Nat.zero_le _) rfl (e := rfl) (cellsT_6 [(a, Ex.mk k1 n1 a1 o1 l1)]) rfl (Nat.le_refl _) (cleanTCells [(a, Ex.mk k1 n1 a1 o1 l1)])
          · (conv => whnf); (repeat ((first | refine U.lw_t ?_ | refine U.lw_f ?_ | refine U.lit_t ?_ | refine U.lit_f ?_ | refine U.ob_t ?_); (conv => whnf)))
            refine ⟨Nat.ble_eq_true_of_le (Nat.le_refl _), ?_⟩
            (conv => whnf); (repeat ((first | refine U.lw_t ?_ | refine U.lw_f ?_ | refine U.lit_t ?_ | refine U.lit_f ?_ | refine U.ob_t ?_); (conv => whnf)))
            have hq : (List.map encT us).length + 1 + (0 + 1) ≤ 1000000 := by
              rw [List.length_map]
              simp at hus
              omega
            refine ⟨Bool.and_eq_true_iff.2 ⟨Nat.ble_eq_true_of_le (Nat.le_trans (Nat.mul_le_mul hq (Nat.le_of_ble_eq_true rfl : _ ≤ 1000)) (by decide)), Nat.ble_eq_true_of_le hq⟩, ?_⟩
            (conv => whnf); (repeat ((first | refine U.lw_t ?_ | refine U.lw_f ?_ | refine U.lit_t ?_ | refine U.lit_f ?_ | refine U.ob_t ?_); (conv => whnf)))
            rw [ble_f]
            dsimp only
            refine growRow_p (by rw [show encT u0 :: List.map encT us = encTs (u0 :: us) from rfl, cellsTs_len, List.length_map]; rfl) rfl ?_
            (conv => whnf); (repeat ((first | refine U.lw_t ?_ | refine U.lw_f ?_ | refine U.lit_t ?_ | refine U.lit_f ?_ | refine U.ob_t ?_); (conv => whnf)))
            rw [show ownT 2 a o (Ex.mk k1 n1 a1 o1 l1 :: pre) = [(a, Ex.mk k1 n1 a1 o1 l1)] from rfl]
            exact .rowL (Nat.zero_le _) rfl (by rw [cellsTs_app]; rfl) (cellsT_6 (u0 :: us ++ [(a, Ex.mk k1 n1 a1 o1 l1)])) (by simp [encTs]) (Nat.le_refl _) (cleanTCells (u0 :: us ++ [(a, Ex.mk k1 n1 a1 o1 l1)]))
        · exfalso
          have := of_decide_eq_false h5
          rw [encEs_map, List.length_map] at this
          simp at this
    · have hk : ¬ k = 2 := fun h => by rw [h] at hk; cases hk
      (conv => whnf); (repeat ((first | refine U.lw_t ?_ | refine U.lw_f ?_ | refine U.lit_t ?_ | refine U.lit_f ?_ | refine U.ob_t ?_); (conv => whnf)))
      refine U.lw_c (fun hk4 => ?_) (fun hk4 => ?_)
      · obtain rfl : k = 4 := eq_of_beq hk4
        (conv => whnf); (repeat ((first | refine U.lw_t ?_ | refine U.lw_f ?_ | refine U.lit_t ?_ | refine U.lit_f ?_ | refine U.ob_t ?_); (conv => whnf)))
        refine U.lw_c (fun ho => ?_) (fun ho => ?_)
        · obtain rfl : o = 16 := eq_of_beq ho
          rcases pre with _ | ⟨e, _ | ⟨e2, pre⟩⟩
          · (conv => whnf); (repeat ((first | refine U.lw_t ?_ | refine U.lw_f ?_ | refine U.lit_t ?_ | refine U.lit_f ?_ | refine U.ob_t ?_); (conv => whnf)))
            rw [show ownT 4 a 16 [] = [] from rfl, List.append_nil]
            exact .ofRow (Nat.zero_le _) rfl (cellsT_6 us) (cleanTCells us)
          · (conv => whnf); (repeat ((first | refine U.lw_t ?_ | refine U.lw_f ?_ | refine U.lit_t ?_ | refine U.lit_f ?_ | refine U.ob_t ?_); (conv => whnf)))
            rw [show ownT 4 a 16 [e] = [] from rfl, List.append_nil]
            exact .ofRow (Nat.zero_le _) rfl (cellsT_6 us) (cleanTCells us)
          · (conv => whnf); (repeat ((first | refine U.lw_t ?_ | refine U.lw_f ?_ | refine U.lit_t ?_ | refine U.lit_f ?_ | refine U.ob_t ?_); (conv => whnf)))
            refine U.lw_c (fun h5 => ?_) (fun h5 => ?_)
            · (conv => whnf); (repeat ((first | refine U.lw_t ?_ | refine U.lw_f ?_ | refine U.lit_t ?_ | refine U.lit_f ?_ | refine U.ob_t ?_); (conv => whnf)))
              refine ⟨encE e2, rfl, ?_⟩
              obtain ⟨k1, n1, a1, o1, l1⟩ := e2
              (conv => whnf); (repeat ((first | refine U.lw_t ?_ | refine U.lw_f ?_ | refine U.lit_t ?_ | refine U.lit_f ?_ | refine U.ob_t ?_); (conv => whnf)))
              rcases us with _ | ⟨u0, us⟩
              · (conv => whnf); (repeat ((first | refine U.lw_t ?_ | refine U.lw_f ?_ | refine U.lit_t ?_ | refine U.lit_f ?_ | refine U.ob_t ?_); (conv => whnf)))
                rw [show ownT 4 a 16 (e :: Ex.mk k1 n1 a1 o1 l1 :: pre) = [(-1, Ex.mk k1 n1 a1 o1 l1)] from rfl]
                exact .rowL (Nat.zero_le _) rfl (e := rfl) (cellsT_6 [(-1, Ex.mk k1 n1 a1 o1 l1)]) rfl (Nat.le_refl _) (cleanTCells [(-1, Ex.mk k1 n1 a1 o1 l1)])
              · (conv => whnf); (repeat ((first | refine U.lw_t ?_ | refine U.lw_f ?_ | refine U.lit_t ?_ | refine U.lit_f ?_ | refine U.ob_t ?_); (conv => whnf)))
                refine ⟨Nat.ble_eq_true_of_le (Nat.le_refl _), ?_⟩
                (conv => whnf); (repeat ((first | refine U.lw_t ?_ | refine U.lw_f ?_ | refine U.lit_t ?_ | refine U.lit_f ?_ | refine U.ob_t ?_); (conv => whnf)))
                have hq : (List.map encT us).length + 1 + (0 + 1) ≤ 1000000 := by
                  rw [List.length_map]
                  simp at hus
                  omega
                refine ⟨Bool.and_eq_true_iff.2 ⟨Nat.ble_eq_true_of_le (Nat.le_trans (Nat.mul_le_mul hq (Nat.le_of_ble_eq_true rfl : _ ≤ 1000)) (by decide)), Nat.ble_eq_true_of_le hq⟩, ?_⟩
                (conv => whnf); (repeat ((first | refine U.lw_t ?_ | refine U.lw_f ?_ | refine U.lit_t ?_ | refine U.lit_f ?_ | refine U.ob_t ?_); (conv => whnf)))
                rw [ble_f]
                dsimp only
                refine growRow_p (by rw [show encT u0 :: List.map encT us = encTs (u0 :: us) from rfl, cellsTs_len, List.length_map]; rfl) rfl ?_
                (conv => whnf); (repeat ((first | refine U.lw_t ?_ | refine U.lw_f ?_ | refine U.lit_t ?_ | refine U.lit_f ?_ | refine U.ob_t ?_); (conv => whnf)))
                rw [show ownT 4 a 16 (e :: Ex.mk k1 n1 a1 o1 l1 :: pre) = [(-1, Ex.mk k1 n1 a1 o1 l1)] from rfl]
                exact .rowL (Nat.zero_le _) rfl (by rw [cellsTs_app]; rfl) (cellsT_6 (u0 :: us ++ [(-1, Ex.mk k1 n1 a1 o1 l1)])) (by simp [encTs]) (Nat.le_refl _) (cleanTCells (u0 :: us ++ [(-1, Ex.mk k1 n1 a1 o1 l1)]))
            · exfalso
              have := of_decide_eq_false h5
              rw [encEs_map, List.length_map] at this
              simp at this
              omega
        · have ho : ¬ o = 16 := fun h => by rw [h] at ho; cases ho
          (conv => whnf); (repeat ((first | refine U.lw_t ?_ | refine U.lw_f ?_ | refine U.lit_t ?_ | refine U.lit_f ?_ | refine U.ob_t ?_); (conv => whnf)))
          refine U.lw_c (fun ho2 => ?_) (fun ho2 => ?_)
          · obtain rfl : o = 17 := eq_of_beq ho2
            rcases pre with _ | ⟨e, _ | ⟨e2, pre⟩⟩
            · (conv => whnf); (repeat ((first | refine U.lw_t ?_ | refine U.lw_f ?_ | refine U.lit_t ?_ | refine U.lit_f ?_ | refine U.ob_t ?_); (conv => whnf)))
              rw [show ownT 4 a 17 [] = [] from rfl, List.append_nil]
              exact .ofRow (Nat.zero_le _) rfl (cellsT_6 us) (cleanTCells us)
            · (conv => whnf); (repeat ((first | refine U.lw_t ?_ | refine U.lw_f ?_ | refine U.lit_t ?_ | refine U.lit_f ?_ | refine U.ob_t ?_); (conv => whnf)))
              rw [show ownT 4 a 17 [e] = [] from rfl, List.append_nil]
              exact .ofRow (Nat.zero_le _) rfl (cellsT_6 us) (cleanTCells us)
            · (conv => whnf); (repeat ((first | refine U.lw_t ?_ | refine U.lw_f ?_ | refine U.lit_t ?_ | refine U.lit_f ?_ | refine U.ob_t ?_); (conv => whnf)))
              refine U.lw_c (fun h5 => ?_) (fun h5 => ?_)
              · (conv => whnf); (repeat ((first | refine U.lw_t ?_ | refine U.lw_f ?_ | refine U.lit_t ?_ | refine U.lit_f ?_ | refine U.ob_t ?_); (conv => whnf)))
                refine ⟨encE e2, rfl, ?_⟩
                obtain ⟨k1, n1, a1, o1, l1⟩ := e2
                (conv => whnf); (repeat ((first | refine U.lw_t ?_ | refine U.lw_f ?_ | refine U.lit_t ?_ | refine U.lit_f ?_ | refine U.ob_t ?_); (conv => whnf)))
                rcases us with _ | ⟨u0, us⟩
                · (conv => whnf); (repeat ((first | refine U.lw_t ?_ | refine U.lw_f ?_ | refine U.lit_t ?_ | refine U.lit_f ?_ | refine U.ob_t ?_); (conv => whnf)))
                  rw [show ownT 4 a 17 (e :: Ex.mk k1 n1 a1 o1 l1 :: pre) = [(-1, Ex.mk k1 n1 a1 o1 l1)] from rfl]
                  exact .rowL (Nat.zero_le _) rfl (e := rfl) (cellsT_6 [(-1, Ex.mk k1 n1 a1 o1 l1)]) rfl (Nat.le_refl _) (cleanTCells [(-1, Ex.mk k1 n1 a1 o1 l1)])
                · (conv => whnf); (repeat ((first | refine U.lw_t ?_ | refine U.lw_f ?_ | refine U.lit_t ?_ | refine U.lit_f ?_ | refine U.ob_t ?_); (conv => whnf)))
                  refine ⟨Nat.ble_eq_true_of_le (Nat.le_refl _), ?_⟩
                  (conv => whnf); (repeat ((first | refine U.lw_t ?_ | refine U.lw_f ?_ | refine U.lit_t ?_ | refine U.lit_f ?_ | refine U.ob_t ?_); (conv => whnf)))
                  have hq : (List.map encT us).length + 1 + (0 + 1) ≤ 1000000 := by
                    rw [List.length_map]
                    simp at hus
                    omega
                  refine ⟨Bool.and_eq_true_iff.2 ⟨Nat.ble_eq_true_of_le (Nat.le_trans (Nat.mul_le_mul hq (Nat.le_of_ble_eq_true rfl : _ ≤ 1000)) (by decide)), Nat.ble_eq_true_of_le hq⟩, ?_⟩
                  (conv => whnf); (repeat ((first | refine U.lw_t ?_ | refine U.lw_f ?_ | refine U.lit_t ?_ | refine U.lit_f ?_ | refine U.ob_t ?_); (conv => whnf)))
                  rw [ble_f]
                  dsimp only
                  refine growRow_p (by rw [show encT u0 :: List.map encT us = encTs (u0 :: us) from rfl, cellsTs_len, List.length_map]; rfl) rfl ?_
                  (conv => whnf); (repeat ((first | refine U.lw_t ?_ | refine U.lw_f ?_ | refine U.lit_t ?_ | refine U.lit_f ?_ | refine U.ob_t ?_); (conv => whnf)))
                  rw [show ownT 4 a 17 (e :: Ex.mk k1 n1 a1 o1 l1 :: pre) = [(-1, Ex.mk k1 n1 a1 o1 l1)] from rfl]
                  exact .rowL (Nat.zero_le _) rfl (by rw [cellsTs_app]; rfl) (cellsT_6 (u0 :: us ++ [(-1, Ex.mk k1 n1 a1 o1 l1)])) (by simp [encTs]) (Nat.le_refl _) (cleanTCells (u0 :: us ++ [(-1, Ex.mk k1 n1 a1 o1 l1)]))
              · exfalso
                have := of_decide_eq_false h5
                rw [encEs_map, List.length_map] at this
                simp at this
                omega
          · have ho2 : ¬ o = 17 := fun h => by rw [h] at ho2; cases ho2
            (conv => whnf); (repeat ((first | refine U.lw_t ?_ | refine U.lw_f ?_ | refine U.lit_t ?_ | refine U.lit_f ?_ | refine U.ob_t ?_); (conv => whnf)))
            rw [show ownT 4 a o pre = [] by unfold ownT; rw [if_neg (by decide), if_neg (by omega)], List.append_nil]
            exact .ofRow (Nat.zero_le _) rfl (cellsT_6 us) (cleanTCells us)
      · have hk4 : ¬ k = 4 := fun h => by rw [h] at hk4; cases hk4
        (conv => whnf); (repeat ((first | refine U.lw_t ?_ | refine U.lw_f ?_ | refine U.lit_t ?_ | refine U.lit_f ?_ | refine U.ob_t ?_); (conv => whnf)))
        rw [show ownT k a o pre = [] by unfold ownT; rw [if_neg hk, if_neg (by omega)], List.append_nil]
        exact .ofRow (Nat.zero_le _) rfl (cellsT_6 us) (cleanTCells us)
end Go.Proofs.Ythbhnbnlbhpooaa
