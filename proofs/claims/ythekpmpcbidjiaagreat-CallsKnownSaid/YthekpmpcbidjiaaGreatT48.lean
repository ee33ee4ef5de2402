
import Derived.Test.YthekpmpcbidjiaaGreatT47
namespace Go.Proofs.YthekpmpcbidjiaaGreat
open Go Go.RowKit Go.Sort U
set_option linter.unusedVariables false
set_option linter.unusedSimpArgs false
set_option maxRecDepth 100000
set_option maxHeartbeats 4000000
def frz1 : List Int → Value
  | [] => .slice none 0 0
  | a :: r => imS (iL (a :: r))
theorem frz1_clean : ∀ r, NoNm (frz1 r)
  | [] => .flat _ rfl
  | a :: r => cleanIL _
theorem frz1_cells : ∀ r, cellsOf (frz1 r) = [frz1 r]
  | [] => rfl
  | a :: r => rfl
theorem cellsF : ∀ l : List (List Int), cellsAll (l.map frz1) = l.map frz1
  | [] => rfl
  | x :: l => by rw [List.map_cons, cellsAll, List.flatMap_cons, frz1_cells]; exact congrArg _ (cellsF l)
theorem cleanFC (l : List (List Int)) : ∀ x, x ∈ cellsAll (l.map frz1) → NoNm x := fun c hc => by
  rw [cellsF] at hc
  obtain ⟨n, _, rfl⟩ := List.mem_map.1 hc
  exact frz1_clean n
theorem sL_one (l : List ByteArray) : (Nat.beq (cellsAll (sL l)).length ((sL l).length * 1) && (cellsAll (sL l)).all Value.oneCell') = true := by
  rw [cellsS, Nat.mul_one, Bool.and_eq_true]
  exact ⟨Nat.beq_refl _, List.all_eq_true.2 fun v hv => by obtain ⟨n, _, rfl⟩ := List.mem_map.1 hv; rfl⟩
theorem rowS_one (b : Nat) (l : List Value) : (rowS b l).oneCell' = true := by cases l <;> rfl
theorem two_one (a b : List Value) : (Nat.ble 0 1 && Nat.beq (cellsOf (Value.agg ⟨[rowS 3 a, rowS 4 b]⟩)).length 2 && (cellsOf (Value.agg ⟨[rowS 3 a, rowS 4 b]⟩)).all Value.oneCell') = true := by
  simp [cellsOf, rowS_one]
theorem ren_snoc {n : Nat} {ρ : U.Ren} {pre : List (List Int)} {x : List Int} {v : Value} (hv : U.RenV n ρ (frz1 x) v) : U.RenL n ρ (cellsAll ((pre ++ [x]).map frz1)) (cellsAll (pre.map frz1) ++ [v]) := by
  rw [cellsF, cellsF, List.map_append]
  exact RenL.app (RenL.refl fun y hy => by obtain ⟨r, _, rfl⟩ := List.mem_map.1 hy; exact frz1_clean r) (.cons hv .nil)
theorem lref_d (g : Gz) (hg : okG g) (hn : g.nm.length ≤ 1000) (hst : g.st.length ≤ 29000) (hrow : ∀ r ∈ g.st, r.length ≤ 29000) : DenU Tryz.prog [] 9 [encG g] (encG g) := by
  refine denU_of_sound hmixU fun Ts => SoundAt.body hmixU Tryz.func9 rfl rfl rfl 0 ?_
  obtain ⟨nm, st⟩ := g
  dsimp only at hn hst hrow
  have g2 : st.length ≤ maxI := by unfold maxI; omega
  have hb0 : (Nat.ble ((0 + (sL nm).length) * 16) 140737488355328 && Nat.ble (0 + (sL nm).length) 1000000) = true := by
    rw [sL_len, bLe (by omega), bLe (by omega)]
    rfl
  rcases nm with _ | ⟨a, nm⟩
  · (repeat' ((conv => whnf); first | refine goA ?_ | refine U.ob_c hb0 ?_ | refine U.ob_c (sL_one _) ?_ | refine U.catC_p ?_ | refine goB ?_ | refine U.lw_c (fun hb => ?_) (fun hb => ?_)))
    (conv => whnf)
    refine loop_inv (α := List (List Int) × List (List Int)) (fun x => x.1 ++ x.2 = st) (fun x => (mkF [(1, .pointer (some ⟨0, 0, none⟩)), (2, .pointer (some ⟨1, 0, none⟩)), (3, .pointer (some ⟨2, 0, none⟩)), (4, .int .i64 x.1.length)], ⟨mkO [(0, some (.cells 25 [imS (sL []), imS (gL (st))] false)), (1, some (.cells 34 [.slice none 0 0, .slice none 0 0] false)), (2, some (.cells 34 [rowS 3 (sL []), rowS 4 ((x.1).map frz1)] false)), (3, rowO 9 (sL [])), (4, rowO 26 ((x.1).map frz1))], 5, 0, 0⟩)) (fun x => x.2.length) ([], st) rfl (Cov.renI rfl rfl rfl rfl (.cons rfl (.row _ _ _ _ (cleanG_cells ⟨[], st⟩) rfl) (.cons rfl (.cells _ _ _ _ (.cons (.F rfl rfl) (.cons (.F rfl rfl) .nil))) (.cons rfl (.cells _ _ _ _ (.cons (.F rfl rfl) (.cons (.F rfl rfl) .nil))) (.none (.none .nil))))) (.cons rfl (.P rfl) (.cons rfl (.P rfl) (.cons rfl (.P rfl) (.cons rfl .I .nil))))) ?_
    rintro ⟨pre, rest⟩ p1
    dsimp only at p1
    dsimp only
    rcases rest with _ | ⟨x, rest⟩
    · rw [List.append_nil] at p1
      replace p1 := p1.symm
      subst p1
      have h3b := U.lt_no gL_map st
      (repeat' ((conv => whnf); first | refine goA ?_ | refine U.ob_c (two_one _ _) ?_ | refine goB ?_ | refine U.lw_c (fun hb => ?_) (fun hb => ?_)))
      (conv => whnf)
      refine .aggL (.cons ?_ (.cons ?_ .nil))
      · exact .ofRow (T := 9) (Nat.zero_le _) rfl sL_1 (cleanSC _)
      · rcases st with _ | ⟨y, ys⟩
        · exact .nil
        · refine FrzV.row 4 _ _ 1 26 (cellsAll ((y :: ys).map frz1)) (gL (y :: ys)) true (Nat.zero_le _) rfl gL_1 (by simp [gL]) (Nat.le_refl _) (by rw [cellsG, cellsF, gL_len, List.length_map]; exact Nat.le_refl _) fun i u v hu hv => ?_
          rw [cellsF, List.getElem?_map, Option.map_eq_some_iff] at hu
          rw [cellsG, gL, List.getElem?_map, Option.map_eq_some_iff] at hv
          obtain ⟨r, hr1, rfl⟩ := hu
          obtain ⟨r', hr2, rfl⟩ := hv
          rw [hr1] at hr2
          cases hr2
          cases r with
          | nil => exact .nil
          | cons b r => exact .clean _ (cleanIL _)
    · rw [← p1] at g2
      obtain ⟨h3b, h3c, h3n, h3w⟩ := U.at4 gL_map pre (x) rest (g2)
      rw [p1] at h3b h3c h3n
      have hfin : pre ++ [x] ++ rest = st := by rw [← p1]; simp
      have hxl := hrow x (by rw [← p1]; simp)
      have hpl : pre.length < 29000 := by
        have : pre.length < st.length := by rw [← p1]; simp
        omega
      have hb1 : (Nat.ble ((0 + (iL x).length) * 8) 140737488355328 && Nat.ble (0 + (iL x).length) 1000000) = true := by
        rw [iL_len, bLe (by omega), bLe (by omega)]
        rfl
      rcases x with _ | ⟨b, x⟩
      · rcases pre with _ | ⟨y, ys⟩
        · (repeat' ((conv => whnf); first | refine goA ?_ | refine U.ob_c hb1 ?_ | refine U.ob_c (iL_one _) ?_ | refine U.catC_p ?_ | refine goB ?_ | refine U.drawX_m (D := U.propX) 10 [] (by decide +kernel) (by decide +kernel) (by decide +kernel) ?_ | refine U.lw_c (fun hb => ?_) (fun hb => ?_)))
          (conv => whnf)
          exact ⟨([] ++ [[]], rest), hfin, by simp, Cov.renO (fun k => if k = 4 then 6 else k) rfl rfl (Nat.le_of_ble_eq_true rfl) (Nat.zero_le _) (fun k hk => by have : k < 3 := hk; rw [if_neg (by omega)]) rfl (fun k hk => absurd hk (Nat.not_lt_zero k)) (.cons rfl (.row _ _ _ _ (cleanG_cells ⟨[], st⟩) rfl) (.cons rfl (.cells _ _ _ _ (.cons (.F rfl rfl) (.cons (.F rfl rfl) .nil))) (.cons rfl (.cells _ _ _ _ (.cons (.ofRow (by decide) rfl rfl) (.cons (.grown (by decide) rfl (by simp) (by simp) (by simp)) .nil))) (.none (blksO.grownL rfl (ren_snoc (pre := []) (x := []) (.F rfl rfl)) .nil))))) (.cons rfl (.P rfl) (.cons rfl (.P rfl) (.cons rfl (.P rfl) (.cons rfl (.clean _ _ (cleanI _) (congrArg (Value.int .i64) (h3w.symm))) .nil))))⟩
        · have hyl : (cellsAll ((y :: ys).map frz1)).length = ((ys.map frz1).length + 1) * (0 + 1) := by rw [cellsF]; simp
          have hb7 : (Nat.ble (((ys.map frz1).length + 1 + (0 + 1)) * 24) 140737488355328 && Nat.ble ((ys.map frz1).length + 1 + (0 + 1)) 1000000) = true := by
            simp at hpl
            rw [List.length_map, bLe (by omega), bLe (by omega)]
            rfl
          (repeat' ((conv => whnf); first | refine goA ?_ | refine U.ob_c hb1 ?_ | refine U.ob_c (iL_one _) ?_ | refine U.catC_p ?_ | refine U.ob_c hb7 ?_ | (rw [ble_f]; dsimp only; refine growRow_p hyl rfl ?_) | refine goB ?_ | refine U.drawX_m (D := U.propX) 10 [] (by decide +kernel) (by decide +kernel) (by decide +kernel) ?_ | refine U.lw_c (fun hb => ?_) (fun hb => ?_)))
          (conv => whnf)
          exact ⟨((y :: ys) ++ [[]], rest), hfin, by simp, Cov.renO (fun k => if k = 4 then 6 else k) rfl rfl (Nat.le_of_ble_eq_true rfl) (Nat.zero_le _) (fun k hk => by have : k < 3 := hk; rw [if_neg (by omega)]) rfl (fun k hk => absurd hk (Nat.not_lt_zero k)) (.cons rfl (.row _ _ _ _ (cleanG_cells ⟨[], st⟩) rfl) (.cons rfl (.cells _ _ _ _ (.cons (.F rfl rfl) (.cons (.F rfl rfl) .nil))) (.cons rfl (.cells _ _ _ _ (.cons (.ofRow (by decide) rfl rfl) (.cons (.grown (by decide) rfl (by simp) (by simp) (by simp)) .nil))) (.none (blksO.grownL rfl (ren_snoc (pre := (y :: ys)) (x := []) (.F rfl rfl)) .nil))))) (.cons rfl (.P rfl) (.cons rfl (.P rfl) (.cons rfl (.P rfl) (.cons rfl (.clean _ _ (cleanI _) (congrArg (Value.int .i64) (h3w.symm))) .nil))))⟩
      · rcases pre with _ | ⟨y, ys⟩
        · (repeat' ((conv => whnf); first | refine goA ?_ | refine U.ob_c hb1 ?_ | refine U.ob_c (iL_one _) ?_ | refine U.catC_p ?_ | refine goB ?_ | refine U.drawX_m (D := U.propX) 10 [] (by decide +kernel) (by decide +kernel) (by decide +kernel) ?_ | refine U.lw_c (fun hb => ?_) (fun hb => ?_)))
          (conv => whnf)
          have hE : Value.slice (some ⟨5, 0, none⟩) (0 + ((List.map (Value.int .i64) x).length + 1)) (0 + ((List.map (Value.int .i64) x).length + 1)) = rowS 5 (iL (b :: x)) := by rw [Nat.zero_add]; rfl
          exact ⟨([] ++ [(b :: x)], rest), hfin, by simp, Cov.frz (fun k => if k = 4 then 7 else k) 5 1 (T := 3) (ys := iL (b :: x)) rfl rfl (Nat.le_of_ble_eq_true rfl) (Nat.zero_le _) (fun k hk => by have : k < 3 := hk; rw [if_neg (by omega)]) rfl (fun k hk => absurd hk (Nat.not_lt_zero k)) (Nat.zero_le _) rfl rfl iL_1 (cleanIC _) (.cons rfl (.row _ _ _ _ (cleanG_cells ⟨[], st⟩) rfl) (.cons rfl (.cells _ _ _ _ (.cons (.F rfl rfl) (.cons (.F rfl rfl) .nil))) (.cons rfl (.cells _ _ _ _ (.cons (.ofRow (by decide) rfl rfl) (.cons (.grown (by decide) rfl (by simp) (by simp) (by simp)) .nil))) (.none (blksO.grownL rfl (ren_snoc (pre := []) (x := (b :: x)) (.ext _ _ ⟨rfl, hE⟩)) .nil))))) (.cons rfl (.P rfl) (.cons rfl (.P rfl) (.cons rfl (.P rfl) (.cons rfl (.clean _ _ (cleanI _) (congrArg (Value.int .i64) (h3w.symm))) .nil))))⟩
        · have hyl : (cellsAll ((y :: ys).map frz1)).length = ((ys.map frz1).length + 1) * (0 + 1) := by rw [cellsF]; simp
          have hb7 : (Nat.ble (((ys.map frz1).length + 1 + (0 + 1)) * 24) 140737488355328 && Nat.ble ((ys.map frz1).length + 1 + (0 + 1)) 1000000) = true := by
            simp at hpl
            rw [List.length_map, bLe (by omega), bLe (by omega)]
            rfl
          (repeat' ((conv => whnf); first | refine goA ?_ | refine U.ob_c hb1 ?_ | refine U.ob_c (iL_one _) ?_ | refine U.catC_p ?_ | refine U.ob_c hb7 ?_ | (rw [ble_f]; dsimp only; refine growRow_p hyl rfl ?_) | refine goB ?_ | refine U.drawX_m (D := U.propX) 10 [] (by decide +kernel) (by decide +kernel) (by decide +kernel) ?_ | refine U.lw_c (fun hb => ?_) (fun hb => ?_)))
          (conv => whnf)
          have hE : Value.slice (some ⟨5, 0, none⟩) (0 + ((List.map (Value.int .i64) x).length + 1)) (0 + ((List.map (Value.int .i64) x).length + 1)) = rowS 5 (iL (b :: x)) := by rw [Nat.zero_add]; rfl
          exact ⟨((y :: ys) ++ [(b :: x)], rest), hfin, by simp, Cov.frz (fun k => if k = 4 then 7 else k) 5 1 (T := 3) (ys := iL (b :: x)) rfl rfl (Nat.le_of_ble_eq_true rfl) (Nat.zero_le _) (fun k hk => by have : k < 3 := hk; rw [if_neg (by omega)]) rfl (fun k hk => absurd hk (Nat.not_lt_zero k)) (Nat.zero_le _) rfl rfl iL_1 (cleanIC _) (.cons rfl (.row _ _ _ _ (cleanG_cells ⟨[], st⟩) rfl) (.cons rfl (.cells _ _ _ _ (.cons (.F rfl rfl) (.cons (.F rfl rfl) .nil))) (.cons rfl (.cells _ _ _ _ (.cons (.ofRow (by decide) rfl rfl) (.cons (.grown (by decide) rfl (by simp) (by simp) (by simp)) .nil))) (.none (blksO.grownL rfl (ren_snoc (pre := (y :: ys)) (x := (b :: x)) (.ext _ _ ⟨rfl, hE⟩)) .nil))))) (.cons rfl (.P rfl) (.cons rfl (.P rfl) (.cons rfl (.P rfl) (.cons rfl (.clean _ _ (cleanI _) (congrArg (Value.int .i64) (h3w.symm))) .nil))))⟩
  · have hnl : (sL nm).length + 1 = 0 + (sL (a :: nm)).length := by rw [sL_len, sL_len]; simp
    (repeat' ((conv => whnf); first | refine goA ?_ | refine U.ob_c hb0 ?_ | refine U.ob_c (sL_one _) ?_ | refine U.catC_p ?_ | refine goB ?_ | refine U.lw_c (fun hb => ?_) (fun hb => ?_)))
    (conv => whnf)
    refine loop_inv (α := List (List Int) × List (List Int)) (fun x => x.1 ++ x.2 = st) (fun x => (mkF [(1, .pointer (some ⟨0, 0, none⟩)), (2, .pointer (some ⟨1, 0, none⟩)), (3, .pointer (some ⟨2, 0, none⟩)), (4, .int .i64 x.1.length)], ⟨mkO [(0, some (.cells 25 [imS (sL (a :: nm)), imS (gL (st))] false)), (1, some (.cells 34 [.slice none 0 0, .slice none 0 0] false)), (2, some (.cells 34 [rowS 3 (sL (a :: nm)), rowS 4 ((x.1).map frz1)] false)), (3, rowO 9 (sL (a :: nm))), (4, rowO 26 ((x.1).map frz1))], 5, 0, 0⟩)) (fun x => x.2.length) ([], st) rfl (Cov.renI rfl rfl rfl rfl (.cons rfl (.row _ _ _ _ (cleanG_cells ⟨(a :: nm), st⟩) rfl) (.cons rfl (.cells _ _ _ _ (.cons (.F rfl rfl) (.cons (.F rfl rfl) .nil))) (.cons rfl (.cells _ _ _ _ (.cons (.sl _ _ _ _ _ _ _ (by decide) rfl hnl hnl) (.cons (.F rfl rfl) .nil))) (blksO.grown rfl rfl (cleanSC _) (.none .nil))))) (.cons rfl (.P rfl) (.cons rfl (.P rfl) (.cons rfl (.P rfl) (.cons rfl .I .nil))))) ?_
    rintro ⟨pre, rest⟩ p1
    dsimp only at p1
    dsimp only
    rcases rest with _ | ⟨x, rest⟩
    · rw [List.append_nil] at p1
      replace p1 := p1.symm
      subst p1
      have h3b := U.lt_no gL_map st
      (repeat' ((conv => whnf); first | refine goA ?_ | refine U.ob_c (two_one _ _) ?_ | refine goB ?_ | refine U.lw_c (fun hb => ?_) (fun hb => ?_)))
      (conv => whnf)
      refine .aggL (.cons ?_ (.cons ?_ .nil))
      · exact .ofRow (T := 9) (Nat.zero_le _) rfl sL_1 (cleanSC _)
      · rcases st with _ | ⟨y, ys⟩
        · exact .nil
        · refine FrzV.row 4 _ _ 1 26 (cellsAll ((y :: ys).map frz1)) (gL (y :: ys)) true (Nat.zero_le _) rfl gL_1 (by simp [gL]) (Nat.le_refl _) (by rw [cellsG, cellsF, gL_len, List.length_map]; exact Nat.le_refl _) fun i u v hu hv => ?_
          rw [cellsF, List.getElem?_map, Option.map_eq_some_iff] at hu
          rw [cellsG, gL, List.getElem?_map, Option.map_eq_some_iff] at hv
          obtain ⟨r, hr1, rfl⟩ := hu
          obtain ⟨r', hr2, rfl⟩ := hv
          rw [hr1] at hr2
          cases hr2
          cases r with
          | nil => exact .nil
          | cons b r => exact .clean _ (cleanIL _)
    · rw [← p1] at g2
      obtain ⟨h3b, h3c, h3n, h3w⟩ := U.at4 gL_map pre (x) rest (g2)
      rw [p1] at h3b h3c h3n
      have hfin : pre ++ [x] ++ rest = st := by rw [← p1]; simp
      have hxl := hrow x (by rw [← p1]; simp)
      have hpl : pre.length < 29000 := by
        have : pre.length < st.length := by rw [← p1]; simp
        omega
      have hb1 : (Nat.ble ((0 + (iL x).length) * 8) 140737488355328 && Nat.ble (0 + (iL x).length) 1000000) = true := by
        rw [iL_len, bLe (by omega), bLe (by omega)]
        rfl
      rcases x with _ | ⟨b, x⟩
      · rcases pre with _ | ⟨y, ys⟩
        · (repeat' ((conv => whnf); first | refine goA ?_ | refine U.ob_c hb1 ?_ | refine U.ob_c (iL_one _) ?_ | refine U.catC_p ?_ | refine goB ?_ | refine U.drawX_m (D := U.propX) 10 [] (by decide +kernel) (by decide +kernel) (by decide +kernel) ?_ | refine U.lw_c (fun hb => ?_) (fun hb => ?_)))
          (conv => whnf)
          exact ⟨([] ++ [[]], rest), hfin, by simp, Cov.renO (fun k => if k = 4 then 6 else k) rfl rfl (Nat.le_of_ble_eq_true rfl) (Nat.zero_le _) (fun k hk => by have : k < 4 := hk; rw [if_neg (by omega)]) rfl (fun k hk => absurd hk (Nat.not_lt_zero k)) (.cons rfl (.row _ _ _ _ (cleanG_cells ⟨(a :: nm), st⟩) rfl) (.cons rfl (.cells _ _ _ _ (.cons (.F rfl rfl) (.cons (.F rfl rfl) .nil))) (.cons rfl (.cells _ _ _ _ (.cons (.ofRow (by decide) rfl rfl) (.cons (.grown (by decide) rfl (by simp) (by simp) (by simp)) .nil))) (blksO.row rfl rfl (cleanSC _) (blksO.grownL rfl (ren_snoc (pre := []) (x := []) (.F rfl rfl)) .nil))))) (.cons rfl (.P rfl) (.cons rfl (.P rfl) (.cons rfl (.P rfl) (.cons rfl (.clean _ _ (cleanI _) (congrArg (Value.int .i64) (h3w.symm))) .nil))))⟩
        · have hyl : (cellsAll ((y :: ys).map frz1)).length = ((ys.map frz1).length + 1) * (0 + 1) := by rw [cellsF]; simp
          have hb7 : (Nat.ble (((ys.map frz1).length + 1 + (0 + 1)) * 24) 140737488355328 && Nat.ble ((ys.map frz1).length + 1 + (0 + 1)) 1000000) = true := by
            simp at hpl
            rw [List.length_map, bLe (by omega), bLe (by omega)]
            rfl
          (repeat' ((conv => whnf); first | refine goA ?_ | refine U.ob_c hb1 ?_ | refine U.ob_c (iL_one _) ?_ | refine U.catC_p ?_ | refine U.ob_c hb7 ?_ | (rw [ble_f]; dsimp only; refine growRow_p hyl rfl ?_) | refine goB ?_ | refine U.drawX_m (D := U.propX) 10 [] (by decide +kernel) (by decide +kernel) (by decide +kernel) ?_ | refine U.lw_c (fun hb => ?_) (fun hb => ?_)))
          (conv => whnf)
          exact ⟨((y :: ys) ++ [[]], rest), hfin, by simp, Cov.renO (fun k => if k = 4 then 6 else k) rfl rfl (Nat.le_of_ble_eq_true rfl) (Nat.zero_le _) (fun k hk => by have : k < 4 := hk; rw [if_neg (by omega)]) rfl (fun k hk => absurd hk (Nat.not_lt_zero k)) (.cons rfl (.row _ _ _ _ (cleanG_cells ⟨(a :: nm), st⟩) rfl) (.cons rfl (.cells _ _ _ _ (.cons (.F rfl rfl) (.cons (.F rfl rfl) .nil))) (.cons rfl (.cells _ _ _ _ (.cons (.ofRow (by decide) rfl rfl) (.cons (.grown (by decide) rfl (by simp) (by simp) (by simp)) .nil))) (blksO.row rfl rfl (cleanSC _) (blksO.grownL rfl (ren_snoc (pre := (y :: ys)) (x := []) (.F rfl rfl)) .nil))))) (.cons rfl (.P rfl) (.cons rfl (.P rfl) (.cons rfl (.P rfl) (.cons rfl (.clean _ _ (cleanI _) (congrArg (Value.int .i64) (h3w.symm))) .nil))))⟩
      · rcases pre with _ | ⟨y, ys⟩
        · (repeat' ((conv => whnf); first | refine goA ?_ | refine U.ob_c hb1 ?_ | refine U.ob_c (iL_one _) ?_ | refine U.catC_p ?_ | refine goB ?_ | refine U.drawX_m (D := U.propX) 10 [] (by decide +kernel) (by decide +kernel) (by decide +kernel) ?_ | refine U.lw_c (fun hb => ?_) (fun hb => ?_)))
          (conv => whnf)
          have hE : Value.slice (some ⟨5, 0, none⟩) (0 + ((List.map (Value.int .i64) x).length + 1)) (0 + ((List.map (Value.int .i64) x).length + 1)) = rowS 5 (iL (b :: x)) := by rw [Nat.zero_add]; rfl
          exact ⟨([] ++ [(b :: x)], rest), hfin, by simp, Cov.frz (fun k => if k = 4 then 7 else k) 5 1 (T := 3) (ys := iL (b :: x)) rfl rfl (Nat.le_of_ble_eq_true rfl) (Nat.zero_le _) (fun k hk => by have : k < 4 := hk; rw [if_neg (by omega)]) rfl (fun k hk => absurd hk (Nat.not_lt_zero k)) (Nat.zero_le _) rfl rfl iL_1 (cleanIC _) (.cons rfl (.row _ _ _ _ (cleanG_cells ⟨(a :: nm), st⟩) rfl) (.cons rfl (.cells _ _ _ _ (.cons (.F rfl rfl) (.cons (.F rfl rfl) .nil))) (.cons rfl (.cells _ _ _ _ (.cons (.ofRow (by decide) rfl rfl) (.cons (.grown (by decide) rfl (by simp) (by simp) (by simp)) .nil))) (blksO.row rfl rfl (cleanSC _) (blksO.grownL rfl (ren_snoc (pre := []) (x := (b :: x)) (.ext _ _ ⟨rfl, hE⟩)) .nil))))) (.cons rfl (.P rfl) (.cons rfl (.P rfl) (.cons rfl (.P rfl) (.cons rfl (.clean _ _ (cleanI _) (congrArg (Value.int .i64) (h3w.symm))) .nil))))⟩
        · have hyl : (cellsAll ((y :: ys).map frz1)).length = ((ys.map frz1).length + 1) * (0 + 1) := by rw [cellsF]; simp
          have hb7 : (Nat.ble (((ys.map frz1).length + 1 + (0 + 1)) * 24) 140737488355328 && Nat.ble ((ys.map frz1).length + 1 + (0 + 1)) 1000000) = true := by
            simp at hpl
            rw [List.length_map, bLe (by omega), bLe (by omega)]
            rfl
          (repeat' ((conv => whnf); first | refine goA ?_ | refine U.ob_c hb1 ?_ | refine U.ob_c (iL_one _) ?_ | refine U.catC_p ?_ | refine U.ob_c hb7 ?_ | (rw [ble_f]; dsimp only; refine growRow_p hyl rfl ?_) | refine goB ?_ | refine U.drawX_m (D := U.propX) 10 [] (by decide +kernel) (by decide +kernel) (by decide +kernel) ?_ | refine U.lw_c (fun hb => ?_) (fun hb => ?_)))
          (conv => whnf)
          have hE : Value.slice (some ⟨5, 0, none⟩) (0 + ((List.map (Value.int .i64) x).length + 1)) (0 + ((List.map (Value.int .i64) x).length + 1)) = rowS 5 (iL (b :: x)) := by rw [Nat.zero_add]; rfl
          exact ⟨((y :: ys) ++ [(b :: x)], rest), hfin, by simp, Cov.frz (fun k => if k = 4 then 7 else k) 5 1 (T := 3) (ys := iL (b :: x)) rfl rfl (Nat.le_of_ble_eq_true rfl) (Nat.zero_le _) (fun k hk => by have : k < 4 := hk; rw [if_neg (by omega)]) rfl (fun k hk => absurd hk (Nat.not_lt_zero k)) (Nat.zero_le _) rfl rfl iL_1 (cleanIC _) (.cons rfl (.row _ _ _ _ (cleanG_cells ⟨(a :: nm), st⟩) rfl) (.cons rfl (.cells _ _ _ _ (.cons (.F rfl rfl) (.cons (.F rfl rfl) .nil))) (.cons rfl (.cells _ _ _ _ (.cons (.ofRow (by decide) rfl rfl) (.cons (.grown (by decide) rfl (by simp) (by simp) (by simp)) .nil))) (blksO.row rfl rfl (cleanSC _) (blksO.grownL rfl (ren_snoc (pre := (y :: ys)) (x := (b :: x)) (.ext _ _ ⟨rfl, hE⟩)) .nil))))) (.cons rfl (.P rfl) (.cons rfl (.P rfl) (.cons rfl (.P rfl) (.cons rfl (.clean _ _ (cleanI _) (congrArg (Value.int .i64) (h3w.symm))) .nil))))⟩
end Go.Proofs.YthekpmpcbidjiaaGreat
