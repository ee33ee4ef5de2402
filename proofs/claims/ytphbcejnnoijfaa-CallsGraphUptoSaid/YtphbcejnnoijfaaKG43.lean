
import Derived.Test.YtphbcejnnoijfaaKG39
namespace Go.Proofs.Ytphbcejnnoijfaa
open Go Go.RowKit Go.Sort U
set_option linter.unusedVariables false
set_option linter.unusedSimpArgs false
set_option maxRecDepth 100000
set_option maxHeartbeats 16000000
theorem exprOf_d (k n : Int) (nm : ByteArray) (o : Int) (l : List AE) (ln cl : Int) (hl : l.length ≤ 1000) (ih : ∀ e ∈ l, DenU Try.prog [] 48 [encA e] (encA e)) : DenU Try.prog [] 48 [encA (.mk k n nm o l ln cl)] (encA (.mk k n nm o l ln cl)) := by
  refine denU_of_body hmixU rfl Try.func48 rfl rfl rfl 0 ?_
  intro Ts
  (repeat' ((conv => whnf); first | refine goD ?_ | refine U.lw_c (fun hb => ?_) (fun hb => ?_)))
  (conv => whnf)
  refine loop_inv (α := List AE × List AE) (fun x => x.1 ++ x.2 = l) (fun x => (mkF [(1, .pointer (some ⟨0, 0, none⟩)), (2, .pointer (some ⟨1, 0, none⟩)), (3, .pointer (some ⟨2, 0, none⟩)), (4, .int .i64 x.1.length)], ⟨mkO [(0, some (.cells 121 [.int .i64 k, .int .i64 n, .string nm, .int .i64 o, imS (encAs l), .int .i64 ln, .int .i64 cl] false)), (1, some (.cells 117 [.int .i64 0, .int .i64 0, .string ⟨#[]⟩, .int .i64 0, .slice none 0 0, .int .i64 0, .int .i64 0] false)), (2, some (.cells 117 [.int .i64 k, .int .i64 n, .string nm, .int .i64 o, rowS 3 (encAs x.1), .int .i64 ln, .int .i64 cl] false)), (3, rowO 117 (encAs x.1))], 4, 0, 0⟩)) (fun x => x.2.length) ([], l) rfl (Cov.renI rfl rfl rfl rfl (.cons rfl (.cells _ _ _ _ (.cons (.F rfl rfl) (.cons (.F rfl rfl) (.cons (.F rfl rfl) (.cons (.F rfl rfl) (.cons (.clean _ _ (cleanAs _) rfl) (.cons (.F rfl rfl) (.cons (.F rfl rfl) .nil)))))))) (.cons rfl (.cells _ _ _ _ (.cons (.F rfl rfl) (.cons (.F rfl rfl) (.cons (.F rfl rfl) (.cons (.F rfl rfl) (.cons (.F rfl rfl) (.cons (.F rfl rfl) (.cons (.F rfl rfl) .nil)))))))) (.cons rfl (.cells _ _ _ _ (.cons (.F rfl rfl) (.cons (.F rfl rfl) (.cons (.F rfl rfl) (.cons (.F rfl rfl) (.cons (.F rfl rfl) (.cons (.F rfl rfl) (.cons (.F rfl rfl) .nil)))))))) (.none .nil)))) (.cons rfl (.P rfl) (.cons rfl (.P rfl) (.cons rfl (.P rfl) (.cons rfl .I .nil))))) ?_
  rintro ⟨pre, rest⟩ p1
  dsimp only at p1
  subst p1
  dsimp only
  rcases rest with _ | ⟨e, rest⟩
  · rw [List.append_nil] at *
    have zb := U.lt_no encAs_map pre
    have hone : [Value.int IntKind.i64 k, .int .i64 n, .string nm, .int .i64 o, rowS 3 (encAs pre), .int .i64 ln, .int .i64 cl].all Value.oneCell' = true := by cases pre <;> rfl
    (repeat' ((conv => whnf); first | refine goA ?_ | refine U.ob_c hone ?_ | refine goB ?_ | refine U.lw_c (fun hb => ?_) (fun hb => ?_)))
    (conv => whnf)
    refine .aggL (.cons (.clean _ (cleanI _)) (.cons (.clean _ (cleanI _)) (.cons (.clean _ (.flat _ rfl)) (.cons (.clean _ (cleanI _)) (.cons ?_ (.cons (.clean _ (cleanI _)) (.cons (.clean _ (cleanI _)) .nil)))))))
    cases pre with
    | nil => exact .nil
    | cons e0 pre => exact .rowL (Nat.zero_le _) rfl rfl (cellsA_7 (e0 :: pre)) rfl (Nat.le_refl _) (cleanACells (e0 :: pre))
  · have zb := U.lt_yes encAs_map pre (e) rest; have zc := U.blt_yes encAs_map pre (e) rest; have zn := U.nth_at encAs_map pre (e) rest; have zw := U.len_snoc (pre := pre) (x := e) (post := rest) ((Nat.le_trans (show _ ≤ 1000 by omega) (by decide)))
    have c1 := ih e (by simp)
    have ke := cleanA e
    clear ih
    obtain ⟨k1, n1, nm1, o1, l1, ln1, cl1⟩ := e
    rcases pre with _ | ⟨e0, pre⟩
    · (repeat' ((conv => whnf); first | refine goD ?_ | refine ⟨_, c1, (by (repeat (first | exact trivial | ((conv => whnf); first | exact trivial | refine And.intro (by first | assumption | exact cleanI _ | exact cleanIL _ | exact cleanBL _ | exact NoNm.flat _ rfl) ?_)))), tab0 _, ?_⟩ | refine U.drawX_p (D := U.propX) 9 [] (by decide +kernel) (by decide +kernel) ?_ | refine U.lw_c (fun hb => ?_) (fun hb => ?_)))
      (conv => whnf)
      exact ⟨([] ++ [.mk k1 n1 nm1 o1 l1 ln1 cl1], rest), by simp, by simp, (Cov.renO (fun k => if k = 3 then 5 else k) rfl rfl (Nat.le_of_ble_eq_true rfl) (Nat.zero_le _) (fun k hk => by have : k < 3 := hk; rw [if_neg (by omega)]) rfl (fun k hk => absurd hk (Nat.not_lt_zero k)) (.cons rfl (.cells _ _ _ _ (.cons (.F rfl rfl) (.cons (.F rfl rfl) (.cons (.F rfl rfl) (.cons (.F rfl rfl) (.cons (.clean _ _ (cleanAs _) rfl) (.cons (.F rfl rfl) (.cons (.F rfl rfl) .nil)))))))) (.cons rfl (.cells _ _ _ _ (.cons (.F rfl rfl) (.cons (.F rfl rfl) (.cons (.F rfl rfl) (.cons (.F rfl rfl) (.cons (.F rfl rfl) (.cons (.F rfl rfl) (.cons (.F rfl rfl) .nil)))))))) (.cons rfl (.cells _ _ _ _ (.cons (.F rfl rfl) (.cons (.F rfl rfl) (.cons (.F rfl rfl) (.cons (.F rfl rfl) (.cons (.grown (by decide) rfl (by simp [encAs]) (by simp [encAs]) (by simp [encAs])) (.cons (.F rfl rfl) (.cons (.F rfl rfl) .nil)))))))) (blksO.grown rfl rfl (cleanACells _) .nil)))) (.cons rfl (.P rfl) (.cons rfl (.P rfl) (.cons rfl (.P rfl) (.cons rfl (.clean _ _ (cleanI _) (congrArg (Value.int .i64) (zw.symm))) .nil)))))⟩
    · have hgr : (cellsAll (encA e0 :: encAs pre)).length = ((encAs pre).length + 1) * 7 := by
        rw [show encA e0 :: encAs pre = encAs (e0 :: pre) from rfl, cellsAs_len, encAs_map, List.length_map]; rfl
      have hg1 : (encAs pre).length + 1 + (0 + 1) ≤ 100000 := by rw [encAs_map, List.length_map]; simp at hl; omega
      (repeat' ((conv => whnf); first | refine goA ?_ | (rw [U.ble_f ((encAs pre).length + 1)]; dsimp only; refine U.growRow_p hgr rfl ?_) | refine U.ob_c (grow_ok (by decide +kernel) hg1) ?_ | refine goB ?_ | refine ⟨_, c1, (by (repeat (first | exact trivial | ((conv => whnf); first | exact trivial | refine And.intro (by first | assumption | exact cleanI _ | exact cleanIL _ | exact cleanBL _ | exact NoNm.flat _ rfl) ?_)))), tab0 _, ?_⟩ | refine U.drawX_p (D := U.propX) 9 [] (by decide +kernel) (by decide +kernel) ?_ | refine U.lw_c (fun hb => ?_) (fun hb => ?_)))
      (conv => whnf)
      exact ⟨((e0 :: pre) ++ [.mk k1 n1 nm1 o1 l1 ln1 cl1], rest), by simp, by simp, (Cov.renO (fun k => if k = 3 then 5 else k) rfl rfl (Nat.le_of_ble_eq_true rfl) (Nat.zero_le _) (fun k hk => by have : k < 3 := hk; rw [if_neg (by omega)]) rfl (fun k hk => absurd hk (Nat.not_lt_zero k)) (.cons rfl (.cells _ _ _ _ (.cons (.F rfl rfl) (.cons (.F rfl rfl) (.cons (.F rfl rfl) (.cons (.F rfl rfl) (.cons (.clean _ _ (cleanAs _) rfl) (.cons (.F rfl rfl) (.cons (.F rfl rfl) .nil)))))))) (.cons rfl (.cells _ _ _ _ (.cons (.F rfl rfl) (.cons (.F rfl rfl) (.cons (.F rfl rfl) (.cons (.F rfl rfl) (.cons (.F rfl rfl) (.cons (.F rfl rfl) (.cons (.F rfl rfl) .nil)))))))) (.cons rfl (.cells _ _ _ _ (.cons (.F rfl rfl) (.cons (.F rfl rfl) (.cons (.F rfl rfl) (.cons (.F rfl rfl) (.cons (.grown (by decide) rfl (by simp [encAs]) (by simp [encAs, encAs_map]) (by simp [encAs, encAs_map])) (.cons (.F rfl rfl) (.cons (.F rfl rfl) .nil)))))))) (blksO.grown rfl ((cellsAs_snoc (e0 :: pre) _)) (cleanACells _) .nil)))) (.cons rfl (.P rfl) (.cons rfl (.P rfl) (.cons rfl (.P rfl) (.cons rfl (.clean _ _ (cleanI _) (congrArg (Value.int .i64) (zw.symm))) .nil)))))⟩
theorem stmtsOf_d (l : List AS6) (hl : l.length ≤ 1000)
    (ih : ∀ k nm xs th el ln cl, AS6.mk k nm xs th el ln cl ∈ l → xs.length ≤ 1000 ∧ (∀ e ∈ xs, DenU Try.prog [] 48 [encA e] (encA e)) ∧ DenU Try.prog [] 30 [imS (encTs th)] (imS (encTs th)) ∧ DenU Try.prog [] 30 [imS (encTs el)] (imS (encTs el))) :
    DenU Try.prog [] 30 [imS (encTs l)] (imS (encTs l)) := by
  refine denU_of_body hmixU rfl Try.func30 rfl rfl rfl 0 ?_
  intro Ts
  (repeat' ((conv => whnf); first | refine goD ?_ | refine U.lw_c (fun hb => ?_) (fun hb => ?_)))
  (conv => whnf)
  refine loop_inv (α := List AS6 × List AS6) (fun x => x.1 ++ x.2 = l) (fun x => (mkF [(0, imS (encTs l)), (2, .slice none 0 0), (3, rowS 0 (encTs x.1)), (4, .int .i64 x.1.length)], ⟨mkO [(0, rowO 65 (encTs x.1))], 1, 0, 0⟩)) (fun x => x.2.length) ([], l) rfl (Cov.renI rfl rfl rfl rfl (.none .nil) (.cons rfl (.clean _ _ (cleanT6s _) rfl) (.cons rfl (.F rfl rfl) (.cons rfl (.F rfl rfl) (.cons rfl .I .nil))))) ?_
  rintro ⟨pre, rest⟩ h1
  dsimp only at h1
  subst h1
  dsimp only
  rcases rest with _ | ⟨s, rest⟩
  · rw [List.append_nil] at *
    have zb := U.lt_no encTs_map pre
    (repeat' ((conv => whnf); first | refine goD ?_ | refine U.lw_c (fun hb => ?_) (fun hb => ?_)))
    (conv => whnf)
    exact .ofRow (Nat.zero_le _) rfl (cellsT_7 pre) (cleanTCells pre)
  · have zb := U.lt_yes encTs_map pre (s) rest; have zc := U.blt_yes encTs_map pre (s) rest; have zn := U.nth_at encTs_map pre (s) rest; have zw := U.len_snoc (pre := pre) (x := s) (post := rest) ((Nat.le_trans (show _ ≤ 1000 by omega) (by decide)))
    obtain ⟨k, nm, xs, th, el, ln, cl⟩ := s
    obtain ⟨hx, ihx, c2, c3⟩ := ih k nm xs th el ln cl (by simp)
    clear ih
    have kt := cleanT6s th
    have ke := cleanT6s el
    have kx := cleanAs xs
    (repeat' ((conv => whnf); first | refine goD ?_ | refine ⟨_, c2, (by (repeat (first | exact trivial | ((conv => whnf); first | exact trivial | refine And.intro (by first | assumption | exact cleanI _ | exact cleanIL _ | exact cleanBL _ | exact NoNm.flat _ rfl) ?_)))), tab0 _, ?_⟩ | refine ⟨_, c3, (by (repeat (first | exact trivial | ((conv => whnf); first | exact trivial | refine And.intro (by first | assumption | exact cleanI _ | exact cleanIL _ | exact cleanBL _ | exact NoNm.flat _ rfl) ?_)))), tab0 _, ?_⟩ | refine U.drawX_p (D := U.propX) 37 [] (by decide +kernel) (by decide +kernel) ?_ | refine U.lw_c (fun hb => ?_) (fun hb => ?_)))
    (conv => whnf)
    refine loop_inv (α := List AE × List AE) (fun x => x.1 ++ x.2 = xs) (fun x => (mkF [(0, imS (encTs (pre ++ .mk k nm xs th el ln cl :: rest))), (2, .slice none 0 0), (3, rowS 0 (encTs pre)), (4, .int .i64 pre.length), (5, .pointer (some ⟨1, 0, none⟩)), (6, .int .i64 x.1.length)], ⟨mkO [(0, rowO 65 (encTs pre)), (1, some (.cells 65 [.int .i64 k, .string nm, rowS 2 (encAs x.1), imS (encTs th), imS (encTs el), .int .i64 ln, .int .i64 cl] false)), (2, rowO 117 (encAs x.1))], 3, 0, 0⟩)) (fun x => x.2.length) ([], xs) rfl (Cov.renI rfl rfl rfl rfl (blksO.row rfl rfl (cleanTCells _) (.cons rfl (.cells _ _ _ _ (.cons (.F rfl rfl) (.cons (.F rfl rfl) (.cons (.F rfl rfl) (.cons (.clean _ _ (kt) rfl) (.cons (.clean _ _ (ke) rfl) (.cons (.F rfl rfl) (.cons (.F rfl rfl) .nil)))))))) (.none .nil))) (.cons rfl (.clean _ _ (cleanT6s _) rfl) (.cons rfl (.F rfl rfl) (.cons rfl (.ofRow (by decide) rfl rfl) (.cons rfl .I (.cons rfl (.P rfl) (.cons rfl .I .nil))))))) ?_
    rintro ⟨ipre, irest⟩ h2
    dsimp only at h2
    subst h2
    dsimp only
    rcases irest with _ | ⟨e, irest⟩
    · rw [List.append_nil] at *
      have yb := U.lt_no encAs_map ipre
      have hone : [Value.int IntKind.i64 k, .string nm, rowS 2 (encAs ipre), imS (encTs th), imS (encTs el), .int .i64 ln, .int .i64 cl].all Value.oneCell' = true := by cases ipre <;> rfl
      rcases pre with _ | ⟨s0, pre⟩
      · (repeat' ((conv => whnf); first | refine goA ?_ | refine U.ob_c hone ?_ | refine goB ?_ | refine U.lw_c (fun hb => ?_) (fun hb => ?_)))
        (conv => whnf)
        exact ⟨([] ++ [.mk k nm ipre th el ln cl], rest), by simp, by simp, (Cov.frz (fun k => if k = 0 then 4 else k) 2 7 (T := 117) (ys := encAs ipre) rfl rfl (Nat.zero_le _) (Nat.zero_le _) (fun k hk => absurd hk (Nat.not_lt_zero k)) rfl (fun k hk => absurd hk (Nat.not_lt_zero k)) (Nat.zero_le _) rfl rfl (cellsA_7 ipre) (cleanACells ipre) (.grownL rfl (.cons .I (.cons (.F rfl rfl) (.cons (by exact .ext _ _ ⟨rfl, rfl⟩) (.cons (.clean _ _ kt rfl) (.cons (.clean _ _ ke rfl) (.cons .I (.cons .I .nil))))))) .nil) (.cons rfl (.clean _ _ (cleanT6s _) rfl) (.cons rfl (.F rfl rfl) (.cons rfl (.grown (by decide) rfl (by simp [encTs]) (by simp [encTs, encTs_map]) (by simp [encTs, encTs_map])) (.cons rfl (.clean _ _ (cleanI _) (congrArg (Value.int .i64) zw.symm)) .nil)))))⟩
      · have hgr : (cellsAll (encT s0 :: encTs pre)).length = ((encTs pre).length + 1) * 7 := by
          rw [show encT s0 :: encTs pre = encTs (s0 :: pre) from rfl, cellsTs_len, encTs_map, List.length_map]; rfl
        have hg1 : (encTs pre).length + 1 + (0 + 1) ≤ 100000 := by rw [encTs_map, List.length_map]; simp at hl; omega
        (repeat' ((conv => whnf); first | refine goA ?_ | (rw [U.ble_f ((encTs pre).length + 1)]; dsimp only; refine U.growRow_p hgr rfl ?_) | refine U.ob_c (grow_ok (by decide +kernel) hg1) ?_ | refine U.ob_c hone ?_ | refine goB ?_ | refine U.lw_c (fun hb => ?_) (fun hb => ?_)))
        (conv => whnf)
        exact ⟨((s0 :: pre) ++ [.mk k nm ipre th el ln cl], rest), by simp, by simp, (Cov.frz (fun k => if k = 0 then 4 else k) 2 7 (T := 117) (ys := encAs ipre) rfl rfl (Nat.zero_le _) (Nat.zero_le _) (fun k hk => absurd hk (Nat.not_lt_zero k)) rfl (fun k hk => absurd hk (Nat.not_lt_zero k)) (Nat.zero_le _) rfl rfl (cellsA_7 ipre) (cleanACells ipre) (.grownL rfl (by rw [cellsTs_snoc]; exact RenL.app (RenL.refl (cleanTCells (s0 :: pre))) (.cons .I (.cons (.F rfl rfl) (.cons (by exact .ext _ _ ⟨rfl, rfl⟩) (.cons (.clean _ _ kt rfl) (.cons (.clean _ _ ke rfl) (.cons .I (.cons .I .nil)))))))) .nil) (.cons rfl (.clean _ _ (cleanT6s _) rfl) (.cons rfl (.F rfl rfl) (.cons rfl (.grown (by decide) rfl (by simp [encTs]) (by simp [encTs, encTs_map]) (by simp [encTs, encTs_map])) (.cons rfl (.clean _ _ (cleanI _) (congrArg (Value.int .i64) zw.symm)) .nil)))))⟩
    · have yb := U.lt_yes encAs_map ipre (e) irest; have yc := U.blt_yes encAs_map ipre (e) irest; have yn := U.nth_at encAs_map ipre (e) irest; have yw := U.len_snoc (pre := ipre) (x := e) (post := irest) ((Nat.le_trans (show _ ≤ 1000 by omega) (by decide)))
      have c1 := ihx e (by simp)
      have kee := cleanA e
      clear ihx
      obtain ⟨k1, n1, nm1, o1, l1, ln1, cl1⟩ := e
      rcases ipre with _ | ⟨e0, ipre⟩
      · (repeat' ((conv => whnf); first | refine goD ?_ | refine ⟨_, c1, (by (repeat (first | exact trivial | ((conv => whnf); first | exact trivial | refine And.intro (by first | assumption | exact cleanI _ | exact cleanIL _ | exact cleanBL _ | exact NoNm.flat _ rfl) ?_)))), tab0 _, ?_⟩ | refine U.drawX_p (D := U.propX) 12 [] (by decide +kernel) (by decide +kernel) ?_ | refine U.lw_c (fun hb => ?_) (fun hb => ?_)))
        (conv => whnf)
        exact ⟨([] ++ [.mk k1 n1 nm1 o1 l1 ln1 cl1], irest), by simp, by simp, (Cov.renO (fun k => if k = 2 then 4 else k) rfl rfl (Nat.le_of_ble_eq_true rfl) (Nat.zero_le _) (fun k hk => by have : k < 2 := hk; rw [if_neg (by omega)]) rfl (fun k hk => absurd hk (Nat.not_lt_zero k)) (blksO.row rfl rfl (cleanTCells _) (.cons rfl (.cells _ _ _ _ (.cons (.F rfl rfl) (.cons (.F rfl rfl) (.cons (.grown (by decide) rfl (by simp [encAs]) (by simp [encAs]) (by simp [encAs])) (.cons (.clean _ _ (kt) rfl) (.cons (.clean _ _ (ke) rfl) (.cons (.F rfl rfl) (.cons (.F rfl rfl) .nil)))))))) (blksO.grown rfl rfl (cleanACells _) .nil))) (.cons rfl (.clean _ _ (cleanT6s _) rfl) (.cons rfl (.F rfl rfl) (.cons rfl (.ofRow (by decide) rfl rfl) (.cons rfl .I (.cons rfl (.P rfl) (.cons rfl (.clean _ _ (cleanI _) (congrArg (Value.int .i64) (yw.symm))) .nil)))))))⟩
      · have hgr : (cellsAll (encA e0 :: encAs ipre)).length = ((encAs ipre).length + 1) * 7 := by
          rw [show encA e0 :: encAs ipre = encAs (e0 :: ipre) from rfl, cellsAs_len, encAs_map, List.length_map]; rfl
        have hg1 : (encAs ipre).length + 1 + (0 + 1) ≤ 100000 := by rw [encAs_map, List.length_map]; simp at hx; omega
        (repeat' ((conv => whnf); first | refine goA ?_ | (rw [U.ble_f ((encAs ipre).length + 1)]; dsimp only; refine U.growRow_p hgr rfl ?_) | refine U.ob_c (grow_ok (by decide +kernel) hg1) ?_ | refine goB ?_ | refine ⟨_, c1, (by (repeat (first | exact trivial | ((conv => whnf); first | exact trivial | refine And.intro (by first | assumption | exact cleanI _ | exact cleanIL _ | exact cleanBL _ | exact NoNm.flat _ rfl) ?_)))), tab0 _, ?_⟩ | refine U.drawX_p (D := U.propX) 12 [] (by decide +kernel) (by decide +kernel) ?_ | refine U.lw_c (fun hb => ?_) (fun hb => ?_)))
        (conv => whnf)
        exact ⟨((e0 :: ipre) ++ [.mk k1 n1 nm1 o1 l1 ln1 cl1], irest), by simp, by simp, (Cov.renO (fun k => if k = 2 then 4 else k) rfl rfl (Nat.le_of_ble_eq_true rfl) (Nat.zero_le _) (fun k hk => by have : k < 2 := hk; rw [if_neg (by omega)]) rfl (fun k hk => absurd hk (Nat.not_lt_zero k)) (blksO.row rfl rfl (cleanTCells _) (.cons rfl (.cells _ _ _ _ (.cons (.F rfl rfl) (.cons (.F rfl rfl) (.cons (.grown (by decide) rfl (by simp [encAs]) (by simp [encAs, encAs_map]) (by simp [encAs, encAs_map])) (.cons (.clean _ _ (kt) rfl) (.cons (.clean _ _ (ke) rfl) (.cons (.F rfl rfl) (.cons (.F rfl rfl) .nil)))))))) (blksO.grown rfl ((cellsAs_snoc (e0 :: ipre) _)) (cleanACells _) .nil))) (.cons rfl (.clean _ _ (cleanT6s _) rfl) (.cons rfl (.F rfl rfl) (.cons rfl (.ofRow (by decide) rfl rfl) (.cons rfl .I (.cons rfl (.P rfl) (.cons rfl (.clean _ _ (cleanI _) (congrArg (Value.int .i64) (yw.symm))) .nil)))))))⟩
theorem exprOf_all : ∀ (n : Nat) (e : AE), szA e ≤ n → n ≤ 1000 → DenU Try.prog [] 48 [encA e] (encA e)
  | 0, e, h, _ => by have := szA_pos e; omega
  | n + 1, .mk k m nm o l ln cl, h, hn => by
    rw [szA] at h
    have := szAs_len l
    exact exprOf_d k m nm o l ln cl (by omega) fun e he => exprOf_all n e (by have := szAs_mem he; omega) (by omega)
theorem stmtsOf_all : ∀ (n : Nat) (l : List AS6), szTs l ≤ n → n ≤ 1000 → DenU Try.prog [] 30 [imS (encTs l)] (imS (encTs l))
  | 0, l, h, hn => by
    have := szTs_len l
    exact stmtsOf_d l (by omega) fun k nm xs th el ln cl hm => by
      have := szTs_mem hm
      rw [szT] at this
      omega
  | n + 1, l, h, hn => by
    have := szTs_len l
    refine stmtsOf_d l (by omega) fun k nm xs th el ln cl hm => ?_
    have := szTs_mem hm
    rw [szT] at this
    have := szAs_len xs
    exact ⟨by omega, fun e he => exprOf_all 1000 e (by have := szAs_mem he; omega) (Nat.le_refl _), stmtsOf_all n th (by omega) (by omega), stmtsOf_all n el (by omega) (by omega)⟩
end Go.Proofs.Ytphbcejnnoijfaa
