
import Derived.Test.YthekpmpcbidjiaaR30
/- Layer 11: calls.turned: its walk. -/
namespace Go.Proofs.Ythekpmpcbidjiaa
open Go Go.RowKit Go.Sort U
set_option linter.unusedVariables false
set_option linter.unusedSimpArgs false
set_option maxRecDepth 100000
set_option maxHeartbeats 4000000
def okRows (n : Nat) (rows : List (List Int)) : Prop := ∀ r ∈ rows, r.Nodup ∧ r.length ≤ maxI ∧ ∀ t ∈ r, ∃ k : Nat, t = (k : Int) ∧ k < n
theorem froms_len (pre : List (List Int)) (c : Nat) : (froms pre c).length ≤ pre.length := by
  rw [froms, List.length_map]
  exact Nat.le_trans (List.length_filter_le ..) (by simp)
def tHd (n : Nat) : List Int → Nat
  | [] => n
  | t :: _ => t.toNat
theorem rowS_snoc (b : Nat) (y x : Int) (ys : List Int) : rowS b (iL (y :: (ys ++ [x]))) = .slice (some ⟨b, 0, none⟩) ((iL ys).length + 1 + (0 + 1)) ((iL ys).length + 1 + (0 + 1)) := by
  show Value.slice (some ⟨b, 0, none⟩) ((iL (ys ++ [x])).length + 1) ((iL (ys ++ [x])).length + 1) = _
  rw [iL_len, iL_len, List.length_append]
  rfl
theorem turned_d (rows : List (List Int)) (hn : rows.length ≤ 65000) (ho : okRows rows.length rows) : DenU Try.prog [] 35 [imS (gL rows)] (imS (gL (turnedR rows))) := by
  refine denU_of_sound hmixU fun Ts => SoundAt.body hmixU Try.func35 rfl rfl rfl 0 ?_
  have hmf := mk_full (zs := [.slice none 0 0]) (n := (gL rows).length) (b := 24) rfl rfl (by decide) (by rw [gL_len]; omega)
  have g2 : rows.length ≤ maxI := by unfold maxI; omega
  (repeat' ((conv => whnf); first | refine U.ob_c hmf ?_ | refine U.lw_t ?_ | refine U.lw_f ?_ | refine U.lit_t ?_ | refine U.lit_f ?_ | refine U.ob_t ?_ | refine U.spineC_p ?_ | refine U.ob_c (by first | (with_reducible assumption) | exact Nat.ble_eq_true_of_le (by omega) | exact Nat.ble_eq_true_of_le (by simp at *; omega)) ?_ | refine U.nv_c (by with_reducible assumption) ?_ | refine U.lw_t' (by with_reducible assumption) ?_ | refine U.lw_f' (by with_reducible assumption) ?_ | refine U.lw_c (fun hb => ?_) (fun hb => ?_)))
  (conv => whnf)
  refine loop_inv (α := List (List Int) × List (List Int)) (fun x => x.1 ++ x.2 = rows) (fun x => (mkF [(2, .slice none 0 0), (3, .slice (some ⟨0, 0, none⟩) (gL rows).length (gL rows).length), (11, imS (gL rows)), (12, .int .i64 (gL rows).length), (13, .int .i64 x.1.length)], stO rows.length (froms x.1))) (fun x => x.2.length) ([], rows) rfl (cov_O (nm := nmO) ⟨congrArg (fun l => some (U.Blk.cells 28 l false)) (cellsN_start rows).symm, fun k _ h => absurd rfl h, fun k k' _ _ h => absurd rfl h, fun k _ h => absurd rfl h⟩ hn (.cons rfl (.clean _ _ (.flat _ rfl) rfl) (.cons rfl (.sl _ _ _ _ _ _ _ (by decide) rfl (rfl) (rfl)) (.cons rfl (.clean _ _ (cleanGL _) rfl) (.cons rfl (.clean _ _ (cleanI _) rfl) (.cons rfl (.clean _ _ (cleanI _) rfl) .nil)))))) ?_
  rintro ⟨pre, rest⟩ p1
  dsimp only at p1
  subst p1
  dsimp only
  rcases rest with _ | ⟨x, rest⟩
  · rw [List.append_nil] at *
    have h3b := U.lt_no gL_map pre
    (repeat' ((conv => whnf); first | refine U.lw_t ?_ | refine U.lw_f ?_ | refine U.lit_t ?_ | refine U.lit_f ?_ | refine U.ob_t ?_ | refine U.ob_c (by first | (with_reducible assumption) | exact Nat.ble_eq_true_of_le (by omega) | exact Nat.ble_eq_true_of_le (by simp at *; omega)) ?_ | refine U.nv_c (by with_reducible assumption) ?_ | refine U.lw_t' (by with_reducible assumption) ?_ | refine U.lw_f' (by with_reducible assumption) ?_ | refine U.lw_c (fun hb => ?_) (fun hb => ?_)))
    (conv => whnf)
    refine FrzV.row 0 _ _ 1 28 (cellsN pre.length (froms pre) nmO) (gL (turnedR pre)) false (Nat.zero_le _) rfl gL_1 (by rw [gL_len, gL_len, turnedR]; simp) (Nat.le_refl _) (by rw [cellsG, gL_len, turnedR, cellsN]; simp) fun i u v hu hv => ?_
    rw [cellsG, turnedR, gL_map, List.map_map, List.getElem?_map, Option.map_eq_some_iff] at hv
    rw [cellsN, List.getElem?_map, Option.map_eq_some_iff] at hu
    obtain ⟨k, hk1, rfl⟩ := hv
    obtain ⟨k', hk2, rfl⟩ := hu
    rw [hk1] at hk2
    cases hk2
    have hk : k < pre.length := List.mem_range.1 (List.mem_of_getElem? hk1)
    show FrzV _ _ (rowS (nmO k) (iL (froms pre k))) (imS (iL (froms pre k)))
    rcases hR : froms pre k with _ | ⟨y, ys⟩
    · exact .nil
    · have := (rows_O (R := froms pre) hn).at_ k hk (by rw [hR]; simp)
      rw [hR] at this
      refine .ofRow (T := 3) (Nat.zero_le _) (this.trans ?_) iL_1 (cleanIC _)
      show _ = some (U.Blk.cells 3 (cellsAll (iL (y :: ys))) true)
      rw [cellsI]
  · have h3b := U.lt_yes gL_map pre (x) rest; have h3c := U.blt_yes gL_map pre (x) rest; have h3n := U.nth_at gL_map pre (x) rest; have h3w := U.len_snoc (pre := pre) (x := x) (post := rest) (g2)
    obtain ⟨ho1, ho2, ho3⟩ := ho x (by simp)
    (repeat' ((conv => whnf); first | refine U.lw_t ?_ | refine U.lw_f ?_ | refine U.lit_t ?_ | refine U.lit_f ?_ | refine U.ob_t ?_ | refine U.ob_c (by first | (with_reducible assumption) | exact Nat.ble_eq_true_of_le (by omega) | exact Nat.ble_eq_true_of_le (by simp at *; omega)) ?_ | refine U.nv_c (by with_reducible assumption) ?_ | refine U.lw_t' (by with_reducible assumption) ?_ | refine U.lw_f' (by with_reducible assumption) ?_ | refine U.lw_c (fun hb => ?_) (fun hb => ?_)))
    (conv => whnf)
    have hT : ∀ (R R' : Nat → List Int) (h : R = R') (sh : Tr U.Blk) (n : Nat) (nm : Nat → Nat), RowsAt sh n R nm → RowsAt sh n R' nm := fun R R' h sh n nm hr => by subst h; exact hr
    refine loop_inv (α := List Int × List Int) (fun y => y.1 ++ y.2 = x) (fun y => (mkF [(2, .slice none 0 0), (3, .slice (some ⟨0, 0, none⟩) (gL (pre ++ x :: rest)).length (gL (pre ++ x :: rest)).length), (4, .int .i64 pre.length), (11, imS (gL (pre ++ x :: rest))), (12, .int .i64 (gL (pre ++ x :: rest)).length), (13, .int .i64 pre.length), (18, imS (iL x)), (19, .int .i64 (iL x).length), (20, .int .i64 y.1.length)], stT (pre ++ x :: rest).length (mid pre y.1) (tHd (pre ++ x :: rest).length y.2) (if tHd (pre ++ x :: rest).length y.2 < (pre ++ x :: rest).length then rowO 3 (iL (mid pre y.1 (tHd (pre ++ x :: rest).length y.2))) else none))) (fun y => y.2.length) ([], x) rfl (cov_T (nm := nmO) (hT _ _ (funext fun c => (mid_nil pre c).symm) _ _ _ (rows_O hn)) hn _ _ rfl (.cons rfl (.clean _ _ (.flat _ rfl) rfl) (.cons rfl (.sl _ _ _ _ _ _ _ (by decide) rfl (rfl) (rfl)) (.cons rfl (.clean _ _ (cleanI _) rfl) (.cons rfl (.clean _ _ (cleanGL _) rfl) (.cons rfl (.clean _ _ (cleanI _) rfl) (.cons rfl (.clean _ _ (cleanI _) rfl) (.cons rfl (.clean _ _ (cleanIL _) rfl) (.cons rfl (.clean _ _ (cleanI _) rfl) (.cons rfl (.clean _ _ (cleanI _) rfl) .nil)))))))))) ?_
    rintro ⟨p, q⟩ p3
    dsimp only at p3
    subst p3
    dsimp only
    rcases q with _ | ⟨t, q⟩
    · rw [List.append_nil] at *
      have h4b := U.lt_no iL_map p
      (repeat' ((conv => whnf); first | refine U.lw_t ?_ | refine U.lw_f ?_ | refine U.lit_t ?_ | refine U.lit_f ?_ | refine U.ob_t ?_ | refine U.ob_c (by first | (with_reducible assumption) | exact Nat.ble_eq_true_of_le (by omega) | exact Nat.ble_eq_true_of_le (by simp at *; omega)) ?_ | refine U.nv_c (by with_reducible assumption) ?_ | refine U.lw_t' (by with_reducible assumption) ?_ | refine U.lw_f' (by with_reducible assumption) ?_ | refine U.lw_c (fun hb => ?_) (fun hb => ?_)))
      (conv => whnf)
      refine ⟨(pre ++ [p], rest), by simp, by simp, cov_O (nm := nmT (pre ++ p :: rest).length) (hT _ _ (funext fun c => mid_all pre p c) _ _ _ (rows_T hn _)) hn (.cons rfl (.clean _ _ (.flat _ rfl) rfl) (.cons rfl (.sl _ _ _ _ _ _ _ (by decide) rfl (rfl) (rfl)) (.cons rfl (.clean _ _ (cleanGL _) rfl) (.cons rfl (.clean _ _ (cleanI _) rfl) (.cons rfl (.clean _ _ (cleanI _) (congrArg (Value.int .i64) (h3w.symm))) .nil)))))⟩
    · have h4b := U.lt_yes iL_map p (t) q; have h4c := U.blt_yes iL_map p (t) q; have h4n := U.nth_at iL_map p (t) q; have h4w := U.len_snoc (pre := p) (x := t) (post := q) (ho2)
      obtain ⟨k, rfl, hk⟩ := ho3 t (by simp)
      have hkp : (k : Int) ∉ p := fun h => by
        have := (List.nodup_append.1 ho1).2.2 _ h (k : Int) (by simp)
        exact this rfl
      have htk : tHd (pre ++ (p ++ (k : Int) :: q) :: rest).length ((k : Int) :: q) = k := rfl
      rw [htk, if_pos hk]
      have hgk : k.blt (gL (pre ++ (p ++ (k : Int) :: q) :: rest)).length = true := by rw [gL_len]; exact Nat.ble_eq_true_of_le hk
      have hn6 := cellsN_nth (n := (pre ++ (p ++ (k : Int) :: q) :: rest).length) (R := mid pre p) (nm := nmT k) hk
      have hst : ∀ v : Value, 0 + k * 1 + [v].length ≤ (cellsN (pre ++ (p ++ (k : Int) :: q) :: rest).length (mid pre p) (nmT k)).length := fun v => by
        simp [cellsN] at *
        omega
      rcases hR : mid pre p k with _ | ⟨y, ys⟩
      · rw [hR] at hn6
        (repeat' ((conv => whnf); first | refine U.lw_t ?_ | refine U.lw_f ?_ | refine U.lit_t ?_ | refine U.lit_f ?_ | refine U.ob_t ?_ | refine U.ob_c (by first | (with_reducible assumption) | exact Nat.ble_eq_true_of_le (by omega) | exact Nat.ble_eq_true_of_le (by simp at *; omega)) ?_ | refine U.nv_c (by with_reducible assumption) ?_ | refine U.lw_t' (by with_reducible assumption) ?_ | refine U.lw_f' (by with_reducible assumption) ?_ | refine U.lw_c (fun hb => ?_) (fun hb => ?_)))
        (conv => whnf)
        (conv in (nth _ _) => (change nth _ (0 + k * 1); rw [hn6]))
        (repeat' ((conv => whnf); first | refine U.lw_t ?_ | refine U.lw_f ?_ | refine U.lit_t ?_ | refine U.lit_f ?_ | refine U.ob_t ?_ | refine U.catC_p ?_ | refine U.storeC_p (hst _) ?_ | refine U.ob_c (by first | (with_reducible assumption) | exact Nat.ble_eq_true_of_le (by omega) | exact Nat.ble_eq_true_of_le (by simp at *; omega)) ?_ | refine U.nv_c (by with_reducible assumption) ?_ | refine U.lw_t' (by with_reducible assumption) ?_ | refine U.lw_f' (by with_reducible assumption) ?_ | refine U.lw_c (fun hb => ?_) (fun hb => ?_)))
        (conv => whnf)
        refine ⟨(p ++ [(k : Int)], q), by simp, by simp, cov_T (nm := fun j => if j = k then 131330 else 65793 + j) (rows_S (R := mid pre p) (R' := mid pre (p ++ [(k : Int)])) (x := (pre.length : Int)) hn hk (mid_same pre p k hkp) (fun c hc => mid_other pre p k c hc) ?_ ?_ (fun p => rfl)) hn _ _ rfl (.cons rfl (.clean _ _ (.flat _ rfl) rfl) (.cons rfl (.sl _ _ _ _ _ _ _ (by decide) rfl (rfl) (rfl)) (.cons rfl (.clean _ _ (cleanI _) rfl) (.cons rfl (.clean _ _ (cleanGL _) rfl) (.cons rfl (.clean _ _ (cleanI _) rfl) (.cons rfl (.clean _ _ (cleanI _) rfl) (.cons rfl (.clean _ _ (cleanIL _) rfl) (.cons rfl (.clean _ _ (cleanI _) rfl) (.cons rfl (.clean _ _ (cleanI _) (congrArg (Value.int .i64) (h4w.symm))) .nil)))))))))⟩
        · refine (congrArg (fun l => some (U.Blk.cells 28 l false)) (cellsN_set (c := 131330) (R := mid pre p) (R' := mid pre (p ++ [(k : Int)])) hk (fun c hc => mid_other pre p k c hc) ?_)).symm
          rw [mid_same pre p k hkp, hR]
          rfl
        · rw [hR]
          rfl
      · rw [hR, show nmT k k = 65537 by simp [nmT]] at hn6
        have hmi : ys.length + 1 ≤ 65000 := by
          have h5 : (mid pre p k).length ≤ pre.length + 1 := by
            unfold mid
            have := froms_len pre k
            rw [List.length_append]
            split <;> simp <;> omega
          rw [hR] at h5
          simp at h5 hn
          omega
        have hb7 : (Nat.ble (((iL ys).length + 1 + (0 + 1)) * 8) 140737488355328 && Nat.ble ((iL ys).length + 1 + (0 + 1)) 1000000) = true := by
          rw [iL_len, Nat.ble_eq_true_of_le (by omega), Nat.ble_eq_true_of_le (by omega)]
          rfl
        (repeat' ((conv => whnf); first | refine U.lw_t ?_ | refine U.lw_f ?_ | refine U.lit_t ?_ | refine U.lit_f ?_ | refine U.ob_t ?_ | refine U.ob_c (by first | (with_reducible assumption) | exact Nat.ble_eq_true_of_le (by omega) | exact Nat.ble_eq_true_of_le (by simp at *; omega)) ?_ | refine U.nv_c (by with_reducible assumption) ?_ | refine U.lw_t' (by with_reducible assumption) ?_ | refine U.lw_f' (by with_reducible assumption) ?_ | refine U.lw_c (fun hb => ?_) (fun hb => ?_)))
        (conv => whnf)
        (conv in (nth _ _) => (change nth _ (0 + k * 1); rw [hn6]))
        (repeat' ((conv => whnf); first | refine U.lw_t ?_ | refine U.lw_f ?_ | refine U.lit_t ?_ | refine U.lit_f ?_ | refine U.ob_t ?_ | refine U.ob_c hb7 ?_ | (rw [ble_f]; dsimp only; refine growRow_p (by rw [show Value.int .i64 y :: List.map (Value.int .i64) ys = iL (y :: ys) from rfl, cellsI, iL_len, iL_len]; simp) rfl ?_) | refine U.catC_p ?_ | refine U.storeC_p (hst _) ?_ | refine U.ob_c (by first | (with_reducible assumption) | exact Nat.ble_eq_true_of_le (by omega) | exact Nat.ble_eq_true_of_le (by simp at *; omega)) ?_ | refine U.nv_c (by with_reducible assumption) ?_ | refine U.lw_t' (by with_reducible assumption) ?_ | refine U.lw_f' (by with_reducible assumption) ?_ | refine U.lw_c (fun hb => ?_) (fun hb => ?_)))
        (conv => whnf)
        rw [ble_f]
        dsimp only
        have hyl : (cellsAll (iL (y :: ys))).length = ((iL ys).length + 1) * (0 + 1) := by rw [cellsI, iL_len, iL_len]; simp
        refine growRow_p hyl rfl ?_
        (repeat' ((conv => whnf); first | refine U.lw_t ?_ | refine U.lw_f ?_ | refine U.lit_t ?_ | refine U.lit_f ?_ | refine U.ob_t ?_ | refine U.storeC_p (hst _) ?_ | refine U.ob_c (by first | (with_reducible assumption) | exact Nat.ble_eq_true_of_le (by omega) | exact Nat.ble_eq_true_of_le (by simp at *; omega)) ?_ | refine U.nv_c (by with_reducible assumption) ?_ | refine U.lw_t' (by with_reducible assumption) ?_ | refine U.lw_f' (by with_reducible assumption) ?_ | refine U.lw_c (fun hb => ?_) (fun hb => ?_)))
        (conv => whnf)
        refine ⟨(p ++ [(k : Int)], q), by simp, by simp, cov_T (nm := fun j => if j = k then 131330 else 65793 + j) (rows_S (R := mid pre p) (R' := mid pre (p ++ [(k : Int)])) (x := (pre.length : Int)) hn hk (mid_same pre p k hkp) (fun c hc => mid_other pre p k c hc) ?_ ?_ (fun p => rfl)) hn _ _ rfl (.cons rfl (.clean _ _ (.flat _ rfl) rfl) (.cons rfl (.sl _ _ _ _ _ _ _ (by decide) rfl (rfl) (rfl)) (.cons rfl (.clean _ _ (cleanI _) rfl) (.cons rfl (.clean _ _ (cleanGL _) rfl) (.cons rfl (.clean _ _ (cleanI _) rfl) (.cons rfl (.clean _ _ (cleanI _) rfl) (.cons rfl (.clean _ _ (cleanIL _) rfl) (.cons rfl (.clean _ _ (cleanI _) rfl) (.cons rfl (.clean _ _ (cleanI _) (congrArg (Value.int .i64) (h4w.symm))) .nil)))))))))⟩
        · refine (congrArg (fun l => some (U.Blk.cells 28 l false)) (cellsN_set (c := 131330) (R := mid pre p) (R' := mid pre (p ++ [(k : Int)])) hk (fun c hc => mid_other pre p k c hc) ?_)).symm
          rw [mid_same pre p k hkp, hR]
          exact rowS_snoc _ _ _ _
        · rw [hR]
          exact congrArg (fun l => some (U.Blk.cells 3 l true)) (by show cellsAll (iL (y :: ys)) ++ iL [(pre.length : Int)] = _; rw [cellsI, ← iL_app])
end Go.Proofs.Ythekpmpcbidjiaa
