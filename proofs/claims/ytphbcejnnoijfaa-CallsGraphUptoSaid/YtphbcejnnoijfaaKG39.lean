
import Derived.Test.YtphbcejnnoijfaaKG33
import Derived.Test.YtphbcejnnoijfaaKG37
namespace Go.Proofs.Ytphbcejnnoijfaa
open Go Go.RowKit Go.Sort U
set_option linter.unusedVariables false
set_option linter.unusedSimpArgs false
set_option maxRecDepth 100000
set_option maxHeartbeats 40000000
structure FewA (p : APr) : Prop where
  dl : p.ds.length ≤ 300
  ps : ∀ d ∈ p.ds, d.ps.length ≤ 40
  sz : szPr p ≤ 300
theorem sL_oneC (l : List ByteArray) : (Nat.beq (cellsAll (sL l)).length ((sL l).length * 1) && (cellsAll (sL l)).all Value.oneCell') = true := by
  have h : cellsAll (sL l) = sL l := by
    induction l with
    | nil => rfl
    | cons a l ih =>
      rw [sL, List.map_cons, cellsAll, List.flatMap_cons]
      rw [sL, cellsAll] at ih
      rw [ih]; rfl
  rw [h, Nat.mul_one]
  simp only [Bool.and_eq_true]
  refine ⟨by simp, List.all_eq_true.2 fun x hx => ?_⟩
  obtain ⟨a, _, rfl⟩ := List.mem_map.1 hx
  rfl
theorem rowS_sc (b : Nat) (s0 : ByteArray) (ps : List ByteArray) : Value.slice (some ⟨b, 0, none⟩) (0 + ((List.map Value.string ps).length + 1)) (0 + ((List.map Value.string ps).length + 1)) = U.rowS b (sL (s0 :: ps)) := by
  rw [Nat.zero_add]; rfl
theorem sL_11 (l : List ByteArray) : ∀ y, y ∈ sL l → (cellsOf y).length = 1 := fun y hy => by
  obtain ⟨s, _, rfl⟩ := List.mem_map.1 hy
  rfl
theorem aProg_d (p : APr) (hf : FewA p) : DenU Try.prog [] 6 [encPr p] (encPr p) := by
  refine denU_of_body hmixU rfl Try.func6 rfl rfl rfl 0 ?_
  intro Ts
  have fd := hf.dl
  have fs := hf.ps
  have fz := hf.sz
  obtain ⟨ds, mn⟩ := p
  unfold szPr at fz
  dsimp only at *
  have c0 := aStmts_all _ mn (Nat.le_refl _) (by omega)
  have c2 : ∀ x ∈ ds, DenU Try.prog [] 21 [imS (encTs x.body)] (imS (encTs x.body)) := fun x hx => by
    have := szDs_mem hx
    exact aStmts_all _ x.body (Nat.le_refl _) (by omega)
  clear hf
  have cm := cleanT6s mn
  (repeat' ((conv => whnf); first | refine goD ?_ | refine ⟨_, c0, (by (repeat (first | exact trivial | ((conv => whnf); first | exact trivial | refine And.intro (by first | assumption | exact cleanI _ | exact cleanIL _ | exact cleanBL _ | exact NoNm.flat _ rfl) ?_)))), tab0 _, ?_⟩ | refine U.lw_c (fun hb => ?_) (fun hb => ?_)))
  (conv => whnf)
  refine loop_inv (α := List ADc × List ADc) (fun x => x.1 ++ x.2 = ds) (fun x => (mkF [(1, .pointer (some ⟨0, 0, none⟩)), (2, .pointer (some ⟨1, 0, none⟩)), (3, .pointer (some ⟨2, 0, none⟩)), (4, .int .i64 x.1.length)], ⟨mkO [(0, some (.cells 25 [imS (encDcs ds), imS (encTs mn)] false)), (1, some (.cells 31 [.slice none 0 0, .slice none 0 0] false)), (2, some (.cells 31 [rowS 3 (encDcs x.1), imS (encTs mn)] false)), (3, rowO 76 (encDcs x.1))], 4, 0, 0⟩)) (fun x => x.2.length) ([], ds) rfl (Cov.renI rfl rfl rfl rfl (.cons rfl (.row _ _ _ _ (cleanPr_cells ⟨ds, mn⟩) rfl) (.cons rfl (.cells _ _ _ _ (.cons (.F rfl rfl) (.cons (.F rfl rfl) .nil))) (.cons rfl (.cells _ _ _ _ (.cons (.F rfl rfl) (.cons (.clean _ _ (cm) rfl) .nil))) (.none .nil)))) (.cons rfl (.P rfl) (.cons rfl (.P rfl) (.cons rfl (.P rfl) (.cons rfl .I .nil))))) ?_
  rintro ⟨pre, rest⟩ p1
  dsimp only at p1
  dsimp only
  have hpl : (pre ++ rest).length ≤ 300 := by rw [p1]; exact fd
  rcases rest with _ | ⟨x, rest⟩
  · rw [List.append_nil] at *
    subst p1
    have yb := U.lt_no encDcs_map pre
    have hone : [rowS 3 (encDcs pre), imS (encTs mn)].all Value.oneCell' = true := by cases pre <;> rfl
    (repeat' ((conv => whnf); first | refine goA ?_ | refine U.ob_c hone ?_ | refine goB ?_ | refine U.lw_c (fun hb => ?_) (fun hb => ?_)))
    (conv => whnf)
    refine .aggL (.cons ?_ (.cons (.clean _ (cleanT6s _)) .nil))
    cases pre with
    | nil => exact .nil
    | cons x0 qre => exact .rowL (Nat.zero_le _) rfl rfl (cellsDc_9 (x0 :: qre)) rfl (Nat.le_refl _) (cleanDcCells (x0 :: qre))
  · subst p1
    have yb := U.lt_yes encDcs_map pre (x) rest; have yc := U.blt_yes encDcs_map pre (x) rest; have yn := U.nth_at encDcs_map pre (x) rest; have yw := U.len_snoc (pre := pre) (x := x) (post := rest) ((Nat.le_trans (show _ ≤ 300 by omega) (by decide)))
    have c3 := c2 x (by simp)
    have hsx := fs x (by simp)
    have c4 := pos_d x.ln x.cl
    obtain ⟨k1, nm1, lo1, hi1, sz1, ps, bd1, ln1, cl1⟩ := x
    dsimp only at c3 hsx c4
    have kb := cleanT6s bd1
    clear c2 fs
    rcases ps with _ | ⟨s0, ps⟩
    · rcases pre with _ | ⟨x0, pre⟩
      · (repeat' ((conv => whnf); first | refine goD ?_ | refine ⟨_, c3, (by (repeat (first | exact trivial | ((conv => whnf); first | exact trivial | refine And.intro (by first | assumption | exact cleanI _ | exact cleanIL _ | exact cleanBL _ | exact NoNm.flat _ rfl) ?_)))), tab0 _, ?_⟩ | refine ⟨_, c4, (by (repeat (first | exact trivial | ((conv => whnf); first | exact trivial | refine And.intro (by first | assumption | exact cleanI _ | exact cleanIL _ | exact cleanBL _ | exact NoNm.flat _ rfl) ?_)))), tab0 _, ?_⟩ | refine U.drawX_m (D := U.propX) 24 [] (by decide +kernel) (by decide +kernel) (by decide +kernel) ?_ | refine U.lw_c (fun hb => ?_) (fun hb => ?_)))
        (conv => whnf)
        exact ⟨([] ++ [⟨k1, nm1, lo1, hi1, sz1, [], bd1, ln1, cl1⟩], rest), by simp, by simp, (Cov.frz (fun k => if k = 3 then 6 else k) 1000 1 (T := 9) (ys := sL []) rfl rfl (Nat.le_of_ble_eq_true rfl) (Nat.zero_le _) (fun k hk => by have hk : k < 3 := hk; rw [if_neg (by omega)]) rfl (fun k hk => absurd hk (Nat.not_lt_zero k)) (Nat.zero_le _) rfl rfl (sL_11 _) (cleanSC _) (.cons rfl (.row _ _ _ _ (cleanPr_cells ⟨_, mn⟩) rfl) (.cons rfl (.cells _ _ _ _ (.cons (.F rfl rfl) (.cons (.F rfl rfl) .nil))) (.cons rfl (.cells _ _ _ _ (.cons (.grown (by decide) rfl (by simp [encDcs]) (by simp [encDcs]) (by simp [encDcs])) (.cons (.clean _ _ (cm) rfl) .nil))) (blksO.grownL rfl (.cons (.F rfl rfl) (.cons (.F rfl rfl) (.cons (.F rfl rfl) (.cons (.F rfl rfl) (.cons (.F rfl rfl) (.cons (by exact .ext _ _ ⟨rfl, rfl⟩) (.cons (.clean _ _ kb rfl) (.cons (.F rfl rfl) (.cons (.F rfl rfl) .nil))))))))) .nil)))) (.cons rfl (.P rfl) (.cons rfl (.P rfl) (.cons rfl (.P rfl) (.cons rfl (.clean _ _ (cleanI _) (congrArg (Value.int .i64) (yw.symm))) .nil)))))⟩
      · have hgr : (cellsAll (encDc x0 :: List.map encDc pre)).length = ((List.map encDc pre).length + 1) * 9 := (by rw [show encDc x0 :: List.map encDc pre = encDcs (x0 :: pre) from rfl, cellsDc_len, List.length_map]; rfl)
        have hg1 : (List.map encDc pre).length + 1 + (0 + 1) ≤ 100000 := (by rw [List.length_map]; simp at hpl; omega)
        (repeat' ((conv => whnf); first | refine goA ?_ | (rw [U.ble_f ((List.map encDc pre).length + 1)]; dsimp only; refine U.growRow_p hgr rfl ?_) | refine U.ob_c (grow_ok (by decide +kernel) hg1) ?_ | refine goB ?_ | refine ⟨_, c3, (by (repeat (first | exact trivial | ((conv => whnf); first | exact trivial | refine And.intro (by first | assumption | exact cleanI _ | exact cleanIL _ | exact cleanBL _ | exact NoNm.flat _ rfl) ?_)))), tab0 _, ?_⟩ | refine ⟨_, c4, (by (repeat (first | exact trivial | ((conv => whnf); first | exact trivial | refine And.intro (by first | assumption | exact cleanI _ | exact cleanIL _ | exact cleanBL _ | exact NoNm.flat _ rfl) ?_)))), tab0 _, ?_⟩ | refine U.drawX_m (D := U.propX) 24 [] (by decide +kernel) (by decide +kernel) (by decide +kernel) ?_ | refine U.lw_c (fun hb => ?_) (fun hb => ?_)))
        (conv => whnf)
        exact ⟨((x0 :: pre) ++ [⟨k1, nm1, lo1, hi1, sz1, [], bd1, ln1, cl1⟩], rest), by simp, by simp, (Cov.frz (fun k => if k = 3 then 6 else k) 1000 1 (T := 9) (ys := sL []) rfl rfl (Nat.le_of_ble_eq_true rfl) (Nat.zero_le _) (fun k hk => by have hk : k < 3 := hk; rw [if_neg (by omega)]) rfl (fun k hk => absurd hk (Nat.not_lt_zero k)) (Nat.zero_le _) rfl rfl (sL_11 _) (cleanSC _) (.cons rfl (.row _ _ _ _ (cleanPr_cells ⟨_, mn⟩) rfl) (.cons rfl (.cells _ _ _ _ (.cons (.F rfl rfl) (.cons (.F rfl rfl) .nil))) (.cons rfl (.cells _ _ _ _ (.cons (.grown (by decide) rfl (by simp [encDcs]) (by simp [encDcs]) (by simp [encDcs])) (.cons (.clean _ _ (cm) rfl) .nil))) (blksO.grownL rfl (by rw [cellsDc_snoc]; exact RenL.app (RenL.refl (cleanDcCells (x0 :: pre))) (.cons (.F rfl rfl) (.cons (.F rfl rfl) (.cons (.F rfl rfl) (.cons (.F rfl rfl) (.cons (.F rfl rfl) (.cons (by exact .ext _ _ ⟨rfl, rfl⟩) (.cons (.clean _ _ kb rfl) (.cons (.F rfl rfl) (.cons (.F rfl rfl) .nil)))))))))) .nil)))) (.cons rfl (.P rfl) (.cons rfl (.P rfl) (.cons rfl (.P rfl) (.cons rfl (.clean _ _ (cleanI _) (congrArg (Value.int .i64) (yw.symm))) .nil)))))⟩
    · rcases pre with _ | ⟨x0, pre⟩
      · have hg2 : 0 + ((List.map Value.string ps).length + 1) ≤ 100000 := (by simp at hsx ⊢; omega)
        (repeat' ((conv => whnf); first | refine goA ?_ | refine U.ob_c (sL_oneC _) ?_ | refine U.ob_c (grow_ok (by decide +kernel) hg2) ?_ | refine goB ?_ | refine ⟨_, c3, (by (repeat (first | exact trivial | ((conv => whnf); first | exact trivial | refine And.intro (by first | assumption | exact cleanI _ | exact cleanIL _ | exact cleanBL _ | exact NoNm.flat _ rfl) ?_)))), tab0 _, ?_⟩ | refine ⟨_, c4, (by (repeat (first | exact trivial | ((conv => whnf); first | exact trivial | refine And.intro (by first | assumption | exact cleanI _ | exact cleanIL _ | exact cleanBL _ | exact NoNm.flat _ rfl) ?_)))), tab0 _, ?_⟩ | refine U.drawX_m (D := U.propX) 24 [] (by decide +kernel) (by decide +kernel) (by decide +kernel) ?_ | refine U.lw_c (fun hb => ?_) (fun hb => ?_)))
        (conv => whnf)
        exact ⟨([] ++ [⟨k1, nm1, lo1, hi1, sz1, (s0 :: ps), bd1, ln1, cl1⟩], rest), by simp, by simp, (Cov.frz (fun k => if k = 3 then 7 else k) 5 1 (T := 9) (ys := sL (s0 :: ps)) rfl rfl (Nat.le_of_ble_eq_true rfl) (Nat.zero_le _) (fun k hk => by have hk : k < 3 := hk; rw [if_neg (by omega)]) rfl (fun k hk => absurd hk (Nat.not_lt_zero k)) (Nat.zero_le _) rfl rfl (sL_11 _) (cleanSC _) (.cons rfl (.row _ _ _ _ (cleanPr_cells ⟨_, mn⟩) rfl) (.cons rfl (.cells _ _ _ _ (.cons (.F rfl rfl) (.cons (.F rfl rfl) .nil))) (.cons rfl (.cells _ _ _ _ (.cons (.grown (by decide) rfl (by simp [encDcs]) (by simp [encDcs]) (by simp [encDcs])) (.cons (.clean _ _ (cm) rfl) .nil))) (blksO.grownL rfl (.cons (.F rfl rfl) (.cons (.F rfl rfl) (.cons (.F rfl rfl) (.cons (.F rfl rfl) (.cons (.F rfl rfl) (.cons (by exact .ext _ _ ⟨rfl, rowS_sc _ _ _⟩) (.cons (.clean _ _ kb rfl) (.cons (.F rfl rfl) (.cons (.F rfl rfl) .nil))))))))) .nil)))) (.cons rfl (.P rfl) (.cons rfl (.P rfl) (.cons rfl (.P rfl) (.cons rfl (.clean _ _ (cleanI _) (congrArg (Value.int .i64) (yw.symm))) .nil)))))⟩
      · have hg2 : 0 + ((List.map Value.string ps).length + 1) ≤ 100000 := (by simp at hsx ⊢; omega)
        have hgr : (cellsAll (encDc x0 :: List.map encDc pre)).length = ((List.map encDc pre).length + 1) * 9 := (by rw [show encDc x0 :: List.map encDc pre = encDcs (x0 :: pre) from rfl, cellsDc_len, List.length_map]; rfl)
        have hg1 : (List.map encDc pre).length + 1 + (0 + 1) ≤ 100000 := (by rw [List.length_map]; simp at hpl; omega)
        (repeat' ((conv => whnf); first | refine goA ?_ | refine U.ob_c (sL_oneC _) ?_ | refine U.ob_c (grow_ok (by decide +kernel) hg2) ?_ | (rw [U.ble_f ((List.map encDc pre).length + 1)]; dsimp only; refine U.growRow_p hgr rfl ?_) | refine U.ob_c (grow_ok (by decide +kernel) hg1) ?_ | refine goB ?_ | refine ⟨_, c3, (by (repeat (first | exact trivial | ((conv => whnf); first | exact trivial | refine And.intro (by first | assumption | exact cleanI _ | exact cleanIL _ | exact cleanBL _ | exact NoNm.flat _ rfl) ?_)))), tab0 _, ?_⟩ | refine ⟨_, c4, (by (repeat (first | exact trivial | ((conv => whnf); first | exact trivial | refine And.intro (by first | assumption | exact cleanI _ | exact cleanIL _ | exact cleanBL _ | exact NoNm.flat _ rfl) ?_)))), tab0 _, ?_⟩ | refine U.drawX_m (D := U.propX) 24 [] (by decide +kernel) (by decide +kernel) (by decide +kernel) ?_ | refine U.lw_c (fun hb => ?_) (fun hb => ?_)))
        (conv => whnf)
        exact ⟨((x0 :: pre) ++ [⟨k1, nm1, lo1, hi1, sz1, (s0 :: ps), bd1, ln1, cl1⟩], rest), by simp, by simp, (Cov.frz (fun k => if k = 3 then 7 else k) 5 1 (T := 9) (ys := sL (s0 :: ps)) rfl rfl (Nat.le_of_ble_eq_true rfl) (Nat.zero_le _) (fun k hk => by have hk : k < 3 := hk; rw [if_neg (by omega)]) rfl (fun k hk => absurd hk (Nat.not_lt_zero k)) (Nat.zero_le _) rfl rfl (sL_11 _) (cleanSC _) (.cons rfl (.row _ _ _ _ (cleanPr_cells ⟨_, mn⟩) rfl) (.cons rfl (.cells _ _ _ _ (.cons (.F rfl rfl) (.cons (.F rfl rfl) .nil))) (.cons rfl (.cells _ _ _ _ (.cons (.grown (by decide) rfl (by simp [encDcs]) (by simp [encDcs]) (by simp [encDcs])) (.cons (.clean _ _ (cm) rfl) .nil))) (blksO.grownL rfl (by rw [cellsDc_snoc]; exact RenL.app (RenL.refl (cleanDcCells (x0 :: pre))) (.cons (.F rfl rfl) (.cons (.F rfl rfl) (.cons (.F rfl rfl) (.cons (.F rfl rfl) (.cons (.F rfl rfl) (.cons (by exact .ext _ _ ⟨rfl, rowS_sc _ _ _⟩) (.cons (.clean _ _ kb rfl) (.cons (.F rfl rfl) (.cons (.F rfl rfl) .nil)))))))))) .nil)))) (.cons rfl (.P rfl) (.cons rfl (.P rfl) (.cons rfl (.P rfl) (.cons rfl (.clean _ _ (cleanI _) (congrArg (Value.int .i64) (yw.symm))) .nil)))))⟩
end Go.Proofs.Ytphbcejnnoijfaa
