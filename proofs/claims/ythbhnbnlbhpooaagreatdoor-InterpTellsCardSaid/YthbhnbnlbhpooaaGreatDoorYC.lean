/- Layer 16: results of runs, copied; the reference. -/
import Derived.Test.YthbhnbnlbhpooaaGreatDoorYB
import Derived.Test.YthbhnbnlbhpooaaGreatDoorUJ
namespace Go.Proofs.YthbhnbnlbhpooaaGreatDoor
open Go Go.RowKit Go.Sort U
set_option linter.unusedVariables false
set_option linter.unusedSimpArgs false
set_option maxRecDepth 100000
set_option maxHeartbeats 4000000
theorem iL_one (l : List Int) : (Nat.beq (cellsAll (iL l)).length ((iL l).length * 1) && (cellsAll (iL l)).all Value.oneCell') = true := by
  rw [cellsI, Nat.mul_one, Bool.and_eq_true]
  exact ⟨Nat.beq_refl _, List.all_eq_true.2 fun v hv => by obtain ⟨n, _, rfl⟩ := List.mem_map.1 hv; rfl⟩
theorem cleanIC (l : List Int) : ∀ x, x ∈ cellsAll (iL l) → NoNm x := fun c hc => by
  rw [cellsI] at hc
  obtain ⟨n, _, rfl⟩ := List.mem_map.1 hc
  exact cleanI n
theorem cleanBC (l : List (Int × Bool)) : ∀ x, x ∈ cellsAll (bL l) → NoNm x := fun c hc => by
  obtain ⟨v, hv, hc⟩ := List.mem_flatMap.1 hc
  obtain ⟨b, _, rfl⟩ := List.mem_map.1 hv
  simp only [encB, cellsOf, List.mem_cons, List.not_mem_nil, or_false] at hc
  rcases hc with rfl | rfl
  · exact cleanI _
  · exact .flat _ rfl
theorem iL_1 {l : List Int} : ∀ y, y ∈ iL l → (cellsOf y).length = 1 := fun y hy => by
  obtain ⟨n, _, rfl⟩ := List.mem_map.1 hy
  rfl
theorem bL_2 {l : List (Int × Bool)} : ∀ y, y ∈ bL l → (cellsOf y).length = 2 := fun y hy => by
  obtain ⟨n, _, rfl⟩ := List.mem_map.1 hy
  rfl
theorem bL_cells : ∀ l : List (Int × Bool), (cellsAll (bL l)).length = l.length * 2
  | [] => rfl
  | x :: l => by
    rw [bL, List.map_cons, cellsAll, List.flatMap_cons, List.length_append, ← cellsAll, show l.map encB = bL l from rfl, bL_cells l, List.length_cons]
    show 2 + _ = _
    omega
theorem cleanZ : ∀ x, x ∈ [Value.int .i64 0, .slice none 0 0, .slice none 0 0, .int .u64 0] → NoNm x := fun x hx => by
  simp only [List.mem_cons, List.not_mem_nil, or_false] at hx
  rcases hx with rfl | rfl | rfl | rfl <;> exact .flat _ rfl
theorem congr3 {b n m : Nat} (h : n = m) : Value.slice (some ⟨b, 0, none⟩) n n = .slice (some ⟨b, 0, none⟩) m m := by rw [h]
theorem result_d (r : Rz) (h1 : r.os.length ≤ 100000) (h2 : r.bs.length ≤ 99999) : DenU Tryz.prog [] 6 [encR r] (encR r) := by
  refine denU_of_body hmixU rfl Tryz.func6 rfl rfl rfl 0 ?_
  intro Ts
  obtain ⟨e, os, bs, n⟩ := r
  dsimp only at h1 h2
  rcases os with _ | ⟨o0, os⟩
  · (repeat' ((conv => whnf); first | refine U.lw_t ?_ | refine U.lw_f ?_ | refine U.lit_t ?_ | refine U.lit_f ?_ | refine U.ob_t ?_ | refine U.ob_c (by first | (with_reducible assumption) | exact Nat.ble_eq_true_of_le (by omega) | exact Nat.ble_eq_true_of_le (by simp at *; omega)) ?_ | refine U.nv_c (by with_reducible assumption) ?_ | refine U.drawX_m (D := U.propX) 10 [] (by decide +kernel) (by decide +kernel) (by decide +kernel) ?_ | refine U.lw_t' (by with_reducible assumption) ?_ | refine U.lw_f' (by with_reducible assumption) ?_ | refine U.lw_c (fun hb => ?_) (fun hb => ?_)))
    (conv => whnf)

    refine loop_inv (α := List (Int × Bool) × List (Int × Bool)) (fun x => x.1 ++ x.2 = bs) (fun x => (mkF [(1, .pointer (some ⟨0, 0, none⟩)), (2, .pointer (some ⟨1, 0, none⟩)), (4, .pointer (some ⟨2, 0, none⟩)), (5, .int .i64 x.1.length)], ⟨mkO [(0, some (.cells 27 [.int .i64 e, imS (iL ([])), imS (bL bs), .int .u64 n] false)), (1, some (.cells 31 [.int .i64 0, .slice none 0 0, .slice none 0 0, .int .u64 0] false)), (2, some (.cells 31 [.int .i64 e, .slice none 0 0, rowS 3 (bL x.1), .int .u64 n] false)), (3, rowO 67 (bL x.1))], 4, 0, 0⟩)) (fun x => x.2.length) ([], bs) rfl
      (Cov.renO (fun k => k) rfl rfl (by show 3 ≤ 4; decide) (Nat.zero_le _) (fun _ _ => rfl) rfl (fun k hk => absurd hk (Nat.not_lt_zero k)) (.cons rfl (.row _ _ _ _ (cleanR_cells ⟨e, [], bs, n⟩) rfl) (.cons rfl (.row _ _ _ _ cleanZ rfl) (.cons rfl (.cells _ _ _ _ (.cons (.clean _ _ (cleanI _) rfl) (.cons (.clean _ _ (.flat _ rfl) rfl) (.cons (.clean _ _ (.flat _ rfl) rfl) (.cons (.clean _ _ (.flat _ rfl) rfl) .nil))))) (.none .nil)))) (.cons rfl (.ptr _ _ _ (by decide) rfl) (.cons rfl (.ptr _ _ _ (by decide) rfl) (.cons rfl (.ptr _ _ _ (by decide) rfl) (.cons rfl (.clean _ _ (cleanI _) rfl) .nil))))) ?_
    rintro ⟨pre, rest⟩ hpr
    dsimp only at hpr
    subst hpr
    dsimp only
    rcases rest with _ | ⟨⟨x1, x2⟩, post⟩
    · rw [List.append_nil]
      have h3b := U.lt_no bL_map pre
      (repeat' ((conv => whnf); first | refine U.lw_t ?_ | refine U.lw_f ?_ | refine U.lit_t ?_ | refine U.lit_f ?_ | refine U.ob_t ?_ | refine U.ob_c (by cases pre <;> rfl) ?_ | refine U.ob_c (by first | (with_reducible assumption) | exact Nat.ble_eq_true_of_le (by omega) | exact Nat.ble_eq_true_of_le (by simp at *; omega)) ?_ | refine U.nv_c (by with_reducible assumption) ?_ | refine U.lw_t' (by with_reducible assumption) ?_ | refine U.lw_f' (by with_reducible assumption) ?_ | refine U.lw_c (fun hb => ?_) (fun hb => ?_)))
      (conv => whnf)
      exact .aggL (.cons (.clean _ (cleanI _)) (.cons .nil (.cons (.ofRow (Nat.zero_le _) rfl bL_2 (cleanBC _)) (.cons (.clean _ (.flat _ rfl)) .nil))))
    · have h3b := U.lt_yes bL_map pre ((x1, x2)) post; have h3c := U.blt_yes bL_map pre ((x1, x2)) post; have h3n := U.nth_at bL_map pre ((x1, x2)) post; have h3w := U.len_snoc (pre := pre) (x := (x1, x2)) (post := post) ((by simp at h2 ⊢; omega))
      rcases pre with _ | ⟨p0, pre⟩
      · (repeat' ((conv => whnf); first | refine U.lw_t ?_ | refine U.lw_f ?_ | refine U.lit_t ?_ | refine U.lit_f ?_ | refine U.ob_t ?_ | refine U.ob_c (by first | (with_reducible assumption) | exact Nat.ble_eq_true_of_le (by omega) | exact Nat.ble_eq_true_of_le (by simp at *; omega)) ?_ | refine U.nv_c (by with_reducible assumption) ?_ | refine U.drawX_p (D := U.propX) 16 [] (by decide +kernel) (by decide +kernel) ?_ | refine U.lw_t' (by with_reducible assumption) ?_ | refine U.lw_f' (by with_reducible assumption) ?_ | refine U.lw_c (fun hb => ?_) (fun hb => ?_)))
        all_goals (conv => whnf)
        all_goals refine ⟨([] ++ [(x1, x2)], post), by simp, by simp, Cov.renO (fun k => if k = 3 then 5 else k) rfl rfl (by show 3 ≤ 4; decide) (Nat.zero_le _) (fun k hk => if_neg (by have : k < 3 := hk; omega)) rfl (fun k hk => absurd hk (Nat.not_lt_zero k)) (.cons rfl (.row _ _ _ _ (cleanR_cells ⟨e, [], _, n⟩) rfl) (.cons rfl (.row _ _ _ _ cleanZ rfl) (.cons rfl (.cells _ _ _ _ (.cons (.clean _ _ (cleanI _) rfl) (.cons (.clean _ _ (.flat _ rfl) rfl) (.cons (.grown (by decide) rfl (by simp [bL]) (by simp [bL]) (by simp [bL])) (.cons (.clean _ _ (.flat _ rfl) rfl) .nil))))) (.grown rfl (by simp [bL, cellsAll, cellsOf, encB]) (cleanBC _) .nil)))) (.cons rfl (.ptr _ _ _ (by decide) rfl) (.cons rfl (.ptr _ _ _ (by decide) rfl) (.cons rfl (.ptr _ _ _ (by decide) rfl) (.cons rfl (.clean _ _ (cleanI _) (congrArg (Value.int .i64) h3w.symm)) .nil))))⟩
      · have hm : (List.map encB pre).length ≤ 99998 := by rw [List.length_map]; simp at h2; omega
        have hg1 : (List.map encB pre).length + 1 + (0 + 1) ≤ 100000 := by omega
        have hgr : (cellsAll (encB p0 :: List.map encB pre)).length = ((List.map encB pre).length + 1) * 2 := by rw [show encB p0 :: List.map encB pre = bL (p0 :: pre) from rfl, bL_cells, List.length_map, List.length_cons]
        (repeat' ((conv => whnf); first | refine U.lw_t ?_ | refine U.lw_f ?_ | refine U.lit_t ?_ | refine U.lit_f ?_ | refine U.ob_t ?_ | (rw [U.ble_f ((List.map encB pre).length + 1)]; dsimp only; refine U.growRow_p hgr rfl ?_) | refine U.ob_c (grow_ok (by decide +kernel) hg1) ?_ | refine U.ob_c (by first | (with_reducible assumption) | exact Nat.ble_eq_true_of_le (by omega) | exact Nat.ble_eq_true_of_le (by simp at *; omega)) ?_ | refine U.nv_c (by with_reducible assumption) ?_ | refine U.drawX_p (D := U.propX) 16 [] (by decide +kernel) (by decide +kernel) ?_ | refine U.lw_t' (by with_reducible assumption) ?_ | refine U.lw_f' (by with_reducible assumption) ?_ | refine U.lw_c (fun hb => ?_) (fun hb => ?_)))
        all_goals (conv => whnf)
        all_goals refine ⟨((p0 :: pre) ++ [(x1, x2)], post), by simp, by simp, Cov.renO (fun k => if k = 3 then 5 else k) rfl rfl (by show 3 ≤ 4; decide) (Nat.zero_le _) (fun k hk => if_neg (by have : k < 3 := hk; omega)) rfl (fun k hk => absurd hk (Nat.not_lt_zero k)) (.cons rfl (.row _ _ _ _ (cleanR_cells ⟨e, [], _, n⟩) rfl) (.cons rfl (.row _ _ _ _ cleanZ rfl) (.cons rfl (.cells _ _ _ _ (.cons (.clean _ _ (cleanI _) rfl) (.cons (.clean _ _ (.flat _ rfl) rfl) (.cons (.grown (by decide) rfl (by simp [bL]) (by simp [bL]) (by simp [bL])) (.cons (.clean _ _ (.flat _ rfl) rfl) .nil))))) (.grown rfl (by simp [bL, cellsAll, cellsOf, encB]) (cleanBC _) .nil)))) (.cons rfl (.ptr _ _ _ (by decide) rfl) (.cons rfl (.ptr _ _ _ (by decide) rfl) (.cons rfl (.ptr _ _ _ (by decide) rfl) (.cons rfl (.clean _ _ (cleanI _) (congrArg (Value.int .i64) h3w.symm)) .nil))))⟩
  · have hm : (List.map (Value.int .i64) os).length ≤ 99999 := by rw [List.length_map]; simp at h1; omega
    have hg1 : 0 + ((List.map (Value.int .i64) os).length + 1) ≤ 100000 := by omega
    (repeat' ((conv => whnf); first | refine U.lw_t ?_ | refine U.lw_f ?_ | refine U.lit_t ?_ | refine U.lit_f ?_ | refine U.ob_t ?_ | refine U.ob_c (iL_one (o0 :: os)) ?_ | refine U.ob_c (grow_ok (by decide +kernel) hg1) ?_ | refine U.ob_c (by first | (with_reducible assumption) | exact Nat.ble_eq_true_of_le (by omega) | exact Nat.ble_eq_true_of_le (by simp at *; omega)) ?_ | refine U.nv_c (by with_reducible assumption) ?_ | refine U.drawX_m (D := U.propX) 10 [] (by decide +kernel) (by decide +kernel) (by decide +kernel) ?_ | refine U.lw_t' (by with_reducible assumption) ?_ | refine U.lw_f' (by with_reducible assumption) ?_ | refine U.lw_c (fun hb => ?_) (fun hb => ?_)))
    (conv => whnf)
    clear hm hg1

    refine loop_inv (α := List (Int × Bool) × List (Int × Bool)) (fun x => x.1 ++ x.2 = bs) (fun x => (mkF [(1, .pointer (some ⟨0, 0, none⟩)), (2, .pointer (some ⟨1, 0, none⟩)), (4, .pointer (some ⟨3, 0, none⟩)), (5, .int .i64 x.1.length)], ⟨mkO [(0, some (.cells 27 [.int .i64 e, imS (iL (o0 :: os)), imS (bL bs), .int .u64 n] false)), (1, some (.cells 31 [.int .i64 0, .slice none 0 0, .slice none 0 0, .int .u64 0] false)), (3, some (.cells 31 [.int .i64 e, imS (iL (o0 :: os)), rowS 4 (bL x.1), .int .u64 n] false)), (4, rowO 67 (bL x.1))], 5, 0, 0⟩)) (fun x => x.2.length) ([], bs) rfl
      (Cov.frz (fun k => k) 2 1 (T := 2) (ys := iL (o0 :: os)) rfl rfl (by show 4 ≤ 5; decide) (Nat.zero_le _) (fun _ _ => rfl) rfl (fun k hk => absurd hk (Nat.not_lt_zero k)) (Nat.zero_le _) rfl rfl iL_1 (cleanIC _) (.cons rfl (.row _ _ _ _ (cleanR_cells ⟨e, o0 :: os, bs, n⟩) rfl) (.cons rfl (.row _ _ _ _ cleanZ rfl) (.cons rfl (.cells _ _ _ _ (.cons (.clean _ _ (cleanI _) rfl) (.cons (.ext _ _ ⟨rfl, congr3 (by simp [iL])⟩) (.cons (.clean _ _ (.flat _ rfl) rfl) (.cons (.clean _ _ (.flat _ rfl) rfl) .nil))))) (.none .nil)))) (.cons rfl (.ptr _ _ _ (by decide) rfl) (.cons rfl (.ptr _ _ _ (by decide) rfl) (.cons rfl (.ptr _ _ _ (by decide) rfl) (.cons rfl (.clean _ _ (cleanI _) rfl) .nil))))) ?_
    rintro ⟨pre, rest⟩ hpr
    dsimp only at hpr
    subst hpr
    dsimp only
    rcases rest with _ | ⟨⟨x1, x2⟩, post⟩
    · rw [List.append_nil]
      have h3b := U.lt_no bL_map pre
      (repeat' ((conv => whnf); first | refine U.lw_t ?_ | refine U.lw_f ?_ | refine U.lit_t ?_ | refine U.lit_f ?_ | refine U.ob_t ?_ | refine U.ob_c (by cases pre <;> rfl) ?_ | refine U.ob_c (by first | (with_reducible assumption) | exact Nat.ble_eq_true_of_le (by omega) | exact Nat.ble_eq_true_of_le (by simp at *; omega)) ?_ | refine U.nv_c (by with_reducible assumption) ?_ | refine U.lw_t' (by with_reducible assumption) ?_ | refine U.lw_f' (by with_reducible assumption) ?_ | refine U.lw_c (fun hb => ?_) (fun hb => ?_)))
      (conv => whnf)
      exact .aggL (.cons (.clean _ (cleanI _)) (.cons (.clean _ (cleanIL _)) (.cons (.ofRow (Nat.zero_le _) rfl bL_2 (cleanBC _)) (.cons (.clean _ (.flat _ rfl)) .nil))))
    · have h3b := U.lt_yes bL_map pre ((x1, x2)) post; have h3c := U.blt_yes bL_map pre ((x1, x2)) post; have h3n := U.nth_at bL_map pre ((x1, x2)) post; have h3w := U.len_snoc (pre := pre) (x := (x1, x2)) (post := post) ((by simp at h2 ⊢; omega))
      rcases pre with _ | ⟨p0, pre⟩
      · (repeat' ((conv => whnf); first | refine U.lw_t ?_ | refine U.lw_f ?_ | refine U.lit_t ?_ | refine U.lit_f ?_ | refine U.ob_t ?_ | refine U.ob_c (by first | (with_reducible assumption) | exact Nat.ble_eq_true_of_le (by omega) | exact Nat.ble_eq_true_of_le (by simp at *; omega)) ?_ | refine U.nv_c (by with_reducible assumption) ?_ | refine U.drawX_p (D := U.propX) 16 [] (by decide +kernel) (by decide +kernel) ?_ | refine U.lw_t' (by with_reducible assumption) ?_ | refine U.lw_f' (by with_reducible assumption) ?_ | refine U.lw_c (fun hb => ?_) (fun hb => ?_)))
        all_goals (conv => whnf)
        all_goals refine ⟨([] ++ [(x1, x2)], post), by simp, by simp, Cov.renO (fun k => if k = 4 then 6 else k) rfl rfl (by show 4 ≤ 5; decide) (Nat.zero_le _) (fun k hk => if_neg (by have : k < 4 := hk; omega)) rfl (fun k hk => absurd hk (Nat.not_lt_zero k)) (.cons rfl (.row _ _ _ _ (cleanR_cells ⟨e, o0 :: os, _, n⟩) rfl) (.cons rfl (.row _ _ _ _ cleanZ rfl) (.cons rfl (.cells _ _ _ _ (.cons (.clean _ _ (cleanI _) rfl) (.cons (.clean _ _ (cleanIL _) rfl) (.cons (.grown (by decide) rfl (by simp [bL]) (by simp [bL]) (by simp [bL])) (.cons (.clean _ _ (.flat _ rfl) rfl) .nil))))) (.grown rfl (by simp [bL, cellsAll, cellsOf, encB]) (cleanBC _) .nil)))) (.cons rfl (.ptr _ _ _ (by decide) rfl) (.cons rfl (.ptr _ _ _ (by decide) rfl) (.cons rfl (.ptr _ _ _ (by decide) rfl) (.cons rfl (.clean _ _ (cleanI _) (congrArg (Value.int .i64) h3w.symm)) .nil))))⟩
      · have hm : (List.map encB pre).length ≤ 99998 := by rw [List.length_map]; simp at h2; omega
        have hg1 : (List.map encB pre).length + 1 + (0 + 1) ≤ 100000 := by omega
        have hgr : (cellsAll (encB p0 :: List.map encB pre)).length = ((List.map encB pre).length + 1) * 2 := by rw [show encB p0 :: List.map encB pre = bL (p0 :: pre) from rfl, bL_cells, List.length_map, List.length_cons]
        (repeat' ((conv => whnf); first | refine U.lw_t ?_ | refine U.lw_f ?_ | refine U.lit_t ?_ | refine U.lit_f ?_ | refine U.ob_t ?_ | (rw [U.ble_f ((List.map encB pre).length + 1)]; dsimp only; refine U.growRow_p hgr rfl ?_) | refine U.ob_c (grow_ok (by decide +kernel) hg1) ?_ | refine U.ob_c (by first | (with_reducible assumption) | exact Nat.ble_eq_true_of_le (by omega) | exact Nat.ble_eq_true_of_le (by simp at *; omega)) ?_ | refine U.nv_c (by with_reducible assumption) ?_ | refine U.drawX_p (D := U.propX) 16 [] (by decide +kernel) (by decide +kernel) ?_ | refine U.lw_t' (by with_reducible assumption) ?_ | refine U.lw_f' (by with_reducible assumption) ?_ | refine U.lw_c (fun hb => ?_) (fun hb => ?_)))
        all_goals (conv => whnf)
        all_goals refine ⟨((p0 :: pre) ++ [(x1, x2)], post), by simp, by simp, Cov.renO (fun k => if k = 4 then 6 else k) rfl rfl (by show 4 ≤ 5; decide) (Nat.zero_le _) (fun k hk => if_neg (by have : k < 4 := hk; omega)) rfl (fun k hk => absurd hk (Nat.not_lt_zero k)) (.cons rfl (.row _ _ _ _ (cleanR_cells ⟨e, o0 :: os, _, n⟩) rfl) (.cons rfl (.row _ _ _ _ cleanZ rfl) (.cons rfl (.cells _ _ _ _ (.cons (.clean _ _ (cleanI _) rfl) (.cons (.clean _ _ (cleanIL _) rfl) (.cons (.grown (by decide) rfl (by simp [bL]) (by simp [bL]) (by simp [bL])) (.cons (.clean _ _ (.flat _ rfl) rfl) .nil))))) (.grown rfl (by simp [bL, cellsAll, cellsOf, encB]) (cleanBC _) .nil)))) (.cons rfl (.ptr _ _ _ (by decide) rfl) (.cons rfl (.ptr _ _ _ (by decide) rfl) (.cons rfl (.ptr _ _ _ (by decide) rfl) (.cons rfl (.clean _ _ (cleanI _) (congrArg (Value.int .i64) h3w.symm)) .nil))))⟩
end Go.Proofs.YthbhnbnlbhpooaaGreatDoor
