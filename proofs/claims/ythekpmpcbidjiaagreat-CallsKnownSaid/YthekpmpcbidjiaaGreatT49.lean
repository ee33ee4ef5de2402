
import Derived.Test.YthekpmpcbidjiaaGreatT48
namespace Go.Proofs.YthekpmpcbidjiaaGreat
open Go Go.RowKit Go.Sort U
set_option linter.unusedVariables false
set_option linter.unusedSimpArgs false
set_option maxRecDepth 100000
set_option maxHeartbeats 4000000
theorem few_bounds {g : Gz} (h : fewB g = true) : g.nm.length ≤ 7 ∧ g.st.length ≤ 8 ∧ (∀ r ∈ g.st, r.length ≤ 12) ∧ sumL g.st ≤ 500000 := by
  simp only [fewB, Bool.and_eq_true, decide_eq_true_eq] at h
  obtain ⟨⟨h1, h2⟩, h3⟩ := h
  rw [List.take_of_length_le (by omega)] at h1
  have hr : ∀ r ∈ g.st, r.length ≤ 12 := fun r hr => of_decide_eq_true (List.all_eq_true.1 h1 r hr)
  refine ⟨h2, h3, hr, ?_⟩
  have key : ∀ l : List (List Int), (∀ r ∈ l, r.length ≤ 12) → sumL l ≤ 12 * l.length := fun l => by
    induction l with
    | nil => intro _; simp [sumL]
    | cons x l ih =>
      intro h
      have h4 := ih fun r hr => h r (by simp [hr])
      have h5 := h x (by simp)
      simp only [sumL, List.map_cons, List.sum_cons, List.length_cons] at *
      omega
  have := key g.st hr
  omega
def fitP (st ats pre : List (List Int)) : Bool := decide (ats.length = st.length) && (List.range pre.length).all fun v => decide ((ats.getD v []).length = (st.getD v []).length)
theorem fitP_snoc (st ats pre : List (List Int)) (x : List Int) : fitP st ats (pre ++ [x]) = (fitP st ats pre && decide ((ats.getD pre.length []).length = (st.getD pre.length []).length)) := by
  unfold fitP
  rw [List.length_append, List.length_singleton, List.range_succ, List.all_append, ← Bool.and_assoc]
  simp
theorem fitP_all {st ats : List (List Int)} : fitP st ats ats = fitB st ats := by
  unfold fitP fitB
  by_cases h : ats.length = st.length
  · rw [h]
  · simp [h]
theorem sums_d (g : Gz) (own nest : List Int) (ats : List (List Int)) (hg : g.st.length ≤ maxI ∧ ∀ r ∈ g.st, r.length ≤ maxI) (hol : own.length ≤ maxI) (hu : okU own) (hnl : nest.length ≤ maxI) (hal : ats.length ≤ maxI) (har : ∀ r ∈ ats, r.length ≤ maxI) (hW : DenU Tryz.prog [] 7 [] (.bool true)) : DenU Tryz.prog [] 6 [encG g, imS (uL own), imS (iL nest), imS (gL ats)] (.bool true) := by
  refine denU_of_sound hmixU fun Ts => SoundAt.body hmixU Tryz.func6 rfl rfl rfl 0 ?_
  have cF := few_d g hg
  have cg := cleanG g
  have cO := cleanUL own
  have cN := cleanIL nest
  have cA := cleanGL ats
  cases hf : fewB g
  · rw [hf] at cF
    obtain ⟨nm, st⟩ := g
    (repeat' ((conv => whnf); first | refine goD ?_ | refine U.SoundAt.u (cF) clN ?_ | refine U.SoundAt.u (hW) clN ?_ | refine U.SoundC.u (cF) clN ?_ | refine U.SoundC.u (hW) clN ?_ | refine U.lw_c (fun hb => ?_) (fun hb => ?_)))
    all_goals (conv => whnf)
    all_goals exact .clean _ (.flat _ rfl)
  · rw [hf] at cF
    obtain ⟨b1, b2, b3, b4⟩ := few_bounds hf
    replace hg : okG g := ⟨by omega, hg⟩
    obtain ⟨nm, st⟩ := g
    dsimp only at b1 b2 b3 b4
    (repeat' ((conv => whnf); first | refine goD ?_ | refine U.SoundAt.u (cF) clN ?_ | refine U.SoundAt.u (hW) clN ?_ | refine U.SoundC.u (cF) clN ?_ | refine U.SoundC.u (hW) clN ?_ | refine U.lw_c (fun hb => ?_) (fun hb => ?_)))
    all_goals (conv => whnf)
    iterate 3 · exact .clean _ (.flat _ rfl)
    have cOr := order_g ⟨nm, st⟩ hg (by show st.length ≤ _; omega) b4
    refine loop_inv (α := List (List Int) × List (List Int)) (fun x => x.1 ++ x.2 = ats) (fun x => (mkF [(1, imS (uL own)), (2, imS (iL nest)), (3, imS (gL ats)), (4, .pointer (some ⟨0, 0, none⟩)), (8, .bool false), (9, .bool (fitP st ats x.1)), (10, .int .i64 x.1.length)], ⟨mkO [(0, some (.cells 25 [imS (sL nm), imS (gL st)] false))], 1, 0, 0⟩)) (fun x => x.2.length) ([], ats) rfl (Cov.renI rfl rfl rfl rfl (.cons rfl (.row _ _ _ _ (cleanG_cells ⟨nm, st⟩) rfl) .nil) (.cons rfl (.clean _ _ (cleanUL _) rfl) (.cons rfl (.clean _ _ (cleanIL _) rfl) (.cons rfl (.clean _ _ (cleanGL _) rfl) (.cons rfl (.P rfl) (.cons rfl (.F rfl rfl) (.cons rfl (.clean _ _ (.flat _ rfl) (congrArg Value.bool (by rw [gL_len, gL_len]; simp [fitP]; rw [Bool.eq_iff_iff]; simp; omega))) (.cons rfl .I .nil)))))))) ?_
    rintro ⟨pre, rest⟩ p1
    dsimp only at p1
    dsimp only
    rcases rest with _ | ⟨x, rest⟩
    · rw [List.append_nil] at p1
      replace p1 := p1.symm
      subst p1
      rw [fitP_all]
      have h3b := U.lt_no gL_map ats
      have hsb : st.length ≤ 29000 := by omega
      have hrb : ∀ r ∈ st, r.length ≤ maxI := fun r hr => Nat.le_trans (b3 r hr) (by decide)
      have cR := lref_d ⟨nm, st⟩ hg (by show nm.length ≤ _; omega) hsb (fun r hr => Nat.le_trans (b3 r hr) (by omega))
      have cT := rright_d ⟨nm, st⟩ hg
      have cQ := rorder_d ⟨nm, st⟩ (by show st.length ≤ _; omega) hrb
      have cI := inlined_v ⟨nm, st⟩ own hg hsb b4 hu hol
      have cX := nested_d ⟨nm, st⟩ nest ats hg hsb b4 hnl hal har
      dsimp only at cQ
      cases hok : (ordG ⟨nm, st⟩).2
      · have hA : inlV ⟨nm, st⟩ own = [] := by simp [inlV, hok]
        have hB : nesV ⟨nm, st⟩ nest ats = [] := by simp [nesV, hok]
        rw [hA] at cI
        rw [hB] at cX
        cases hr : rightG ⟨nm, st⟩
        · rw [hr] at cT
          (repeat' ((conv => whnf); first | refine goD ?_ | refine U.SoundAt.u (cR) clN ?_ | refine U.SoundAt.u (cT) clN ?_ | refine U.SoundAt.u (cI) clN ?_ | refine U.SoundAt.u (cX) clN ?_ | refine U.SoundAt.u (hW) clN ?_ | refine U.SoundC.u (cR) clN ?_ | refine U.SoundC.u (cT) clN ?_ | refine U.SoundC.u (cI) clN ?_ | refine U.SoundC.u (cX) clN ?_ | refine U.SoundC.u (hW) clN ?_ | refine U.drawX_p (D := U.propX) 9 [] (by decide +kernel) (by decide +kernel) ?_ | refine U.lw_c (fun hb => ?_) (fun hb => ?_)))
          all_goals (conv => whnf)
          all_goals exact .clean _ (.flat _ rfl)
        · rw [hr] at cT
          have hoo : ordG ⟨nm, st⟩ = orderR st := by unfold ordG; rw [if_pos hr]
          rw [hoo] at hok
          rw [hok] at cQ
          have cl := cleanIL (orderR st).1
          (repeat' ((conv => whnf); first | refine goD ?_ | refine U.SoundAt.u (cR) clN ?_ | refine U.SoundAt.u (cT) clN ?_ | refine U.SoundAt.u (cQ) clN ?_ | refine U.SoundAt.u (cI) clN ?_ | refine U.SoundAt.u (cX) clN ?_ | refine U.SoundAt.u (hW) clN ?_ | refine U.SoundC.u (cR) clN ?_ | refine U.SoundC.u (cT) clN ?_ | refine U.SoundC.u (cQ) clN ?_ | refine U.SoundC.u (cI) clN ?_ | refine U.SoundC.u (cX) clN ?_ | refine U.SoundC.u (hW) clN ?_ | refine U.drawX_p (D := U.propX) 9 [] (by decide +kernel) (by decide +kernel) ?_ | refine U.lw_c (fun hb => ?_) (fun hb => ?_)))
          all_goals (conv => whnf)
          all_goals exact .clean _ (.flat _ rfl)
      · have hr : rightG ⟨nm, st⟩ = true := by
          unfold ordG at hok
          split at hok
          · assumption
          · cases hok
        rw [hr] at cT
        have hoo : ordG ⟨nm, st⟩ = orderR st := by unfold ordG; rw [if_pos hr]
        have cl := cleanIL (orderR st).1
        rw [← hoo, hok] at cQ
        have hlo := ordG_len hok
        dsimp only at hlo
        by_cases hn : nest.length = st.length
        · cases hfb : fitB st ats
          · have gN : (((iL nest).length : Int) != ((gL st).length : Int)) = false := by rw [iL_len, gL_len]; simp; omega
            have hB : nesV ⟨nm, st⟩ nest ats = [] := by simp [nesV, hfb]
            rw [hB] at cX
            by_cases ho : own.length = st.length
            · have gO : (((uL own).length : Int) != ((gL st).length : Int)) = false := by rw [uL_len, gL_len]; simp; omega
              have cRI := rinl_d ⟨nm, st⟩ own hsb hrb ho hu
              dsimp only at cRI
              rw [← hoo] at cRI
              have hA : inlV ⟨nm, st⟩ own = foldO (inl1 own st) (ordG ⟨nm, st⟩).1 (List.replicate st.length 0) := by simp [inlV, ho, hok]
              rw [hA] at cI
              have hAl : (foldO (inl1 own st) (ordG ⟨nm, st⟩).1 (List.replicate st.length 0)).length ≤ maxI := by rw [foldO_len, List.length_replicate]; unfold maxI; omega
              generalize foldO (inl1 own st) (ordG ⟨nm, st⟩).1 (List.replicate st.length 0) = A at *
              have cAA := cleanUL A
              (repeat' ((conv => whnf); first | refine goD ?_ | refine U.SoundAt.u (cR) clN ?_ | refine U.SoundAt.u (cT) clN ?_ | refine U.SoundAt.u (cQ) clN ?_ | refine U.SoundAt.u (cI) clN ?_ | refine U.SoundAt.u (cX) clN ?_ | refine U.SoundAt.u (cRI) clN ?_ | refine U.SoundC.u (cR) clN ?_ | refine U.SoundC.u (cT) clN ?_ | refine U.SoundC.u (cQ) clN ?_ | refine U.SoundC.u (cI) clN ?_ | refine U.SoundC.u (cX) clN ?_ | refine U.SoundC.u (cRI) clN ?_ | refine U.drawX_p (D := U.propX) 9 [] (by decide +kernel) (by decide +kernel) ?_ | refine U.lw_c (fun hb => ?_) (fun hb => ?_)))
              (conv => whnf)
              refine loop_inv (α := List Int × List Int) (fun y => y.1 ++ y.2 = A) (fun y => (mkF [(1, imS (uL own)), (2, imS (iL nest)), (3, imS (gL ats)), (4, .pointer (some ⟨0, 0, none⟩)), (8, .bool false), (9, .bool false), (11, .pointer (some ⟨1, 0, none⟩)), (12, .bool true), (13, imS (uL A)), (14, imS (iL [])), (15, imS (uL A)), (16, .int .i64 y.1.length)], ⟨mkO [(0, some (.cells 25 [imS (sL nm), imS (gL st)] false)), (1, some (.cells 34 [imS (sL nm), imS (gL st)] false))], 2, 0, 0⟩)) (fun y => y.2.length) ([], A) rfl (Cov.slots (s := ⟨mkO [(0, some (.cells 25 [imS (sL nm), imS (gL st)] false)), (1, some (.cells 34 [imS (sL nm), imS (gL st)] false))], 2, 0, 0⟩) (Nat.le_of_ble_eq_true rfl) ⟨rfl, rfl, rfl, rfl, rfl, rfl, rfl, rfl, rfl, rfl, rfl, rfl, trivial⟩) ?_
              rintro ⟨p, q⟩ p3
              dsimp only at p3
              dsimp only
              rcases q with _ | ⟨z, q⟩
              · rw [List.append_nil] at p3
                subst p3
                have h4b := U.lt_no uL_map p
                (repeat' ((conv => whnf); first | refine goD ?_ | refine U.SoundAt.u (hW) clN ?_ | refine U.SoundC.u (hW) clN ?_ | refine U.drawX_p (D := U.propX) 9 [] (by decide +kernel) (by decide +kernel) ?_ | refine U.lw_c (fun hb => ?_) (fun hb => ?_)))
                all_goals (conv => whnf)
                all_goals exact .clean _ (.flat _ rfl)
              · rw [← p3] at hAl
                obtain ⟨h4b, h4c, h4n, h4w⟩ := U.at4 uL_map p (z) q (hAl)
                rw [p3] at h4b h4c h4n
                have gA : (((uL A).length : Int) != ((uL A).length : Int)) = false := by simp
                have gz : (z != z) = false := by simp
                (repeat' ((conv => whnf); first | refine goD ?_ | refine U.drawX_p (D := U.propX) 16 [] (by decide +kernel) (by decide +kernel) ?_ | refine U.lw_c (fun hb => ?_) (fun hb => ?_)))
                (conv => whnf)
                exact ⟨(p ++ [z], q), by rw [← p3]; simp, by simp, Cov.slots (s := ⟨mkO [(0, some (.cells 25 [imS (sL nm), imS (gL st)] false)), (1, some (.cells 34 [imS (sL nm), imS (gL st)] false))], 2, 0, 0⟩) (Nat.le_of_ble_eq_true rfl) ⟨rfl, rfl, rfl, rfl, rfl, rfl, rfl, rfl, rfl, rfl, rfl, congrArg some (congrArg (Value.int .i64) h4w), trivial⟩⟩
            · have gO : (((uL own).length : Int) != ((gL st).length : Int)) = true := by rw [uL_len, gL_len]; simp; omega
              have hA : inlV ⟨nm, st⟩ own = [] := by simp [inlV, ho]
              rw [hA] at cI
              (repeat' ((conv => whnf); first | refine goD ?_ | refine U.SoundAt.u (cR) clN ?_ | refine U.SoundAt.u (cT) clN ?_ | refine U.SoundAt.u (cQ) clN ?_ | refine U.SoundAt.u (cI) clN ?_ | refine U.SoundAt.u (cX) clN ?_ | refine U.SoundAt.u (hW) clN ?_ | refine U.SoundC.u (cR) clN ?_ | refine U.SoundC.u (cT) clN ?_ | refine U.SoundC.u (cQ) clN ?_ | refine U.SoundC.u (cI) clN ?_ | refine U.SoundC.u (cX) clN ?_ | refine U.SoundC.u (hW) clN ?_ | refine U.drawX_p (D := U.propX) 9 [] (by decide +kernel) (by decide +kernel) ?_ | refine U.lw_c (fun hb => ?_) (fun hb => ?_)))
              all_goals (conv => whnf)
              all_goals exact .clean _ (.flat _ rfl)
          · have gN : (((iL nest).length : Int) != ((gL st).length : Int)) = false := by rw [iL_len, gL_len]; simp; omega
            have cRN := rnes_d ⟨nm, st⟩ nest ats hsb hrb hn (fitB_iff.1 hfb)
            dsimp only at cRN
            rw [← hoo] at cRN
            have hB : nesV ⟨nm, st⟩ nest ats = foldO (nst1 nest ats st) (ordG ⟨nm, st⟩).1 (List.replicate st.length 0) := by simp [nesV, hn, hfb, hok]
            rw [hB] at cX
            have hBl : (foldO (nst1 nest ats st) (ordG ⟨nm, st⟩).1 (List.replicate st.length 0)).length ≤ maxI := by rw [foldO_len, List.length_replicate]; unfold maxI; omega
            generalize foldO (nst1 nest ats st) (ordG ⟨nm, st⟩).1 (List.replicate st.length 0) = B at *
            have cS := same_d B B hBl
            rw [decide_eq_true rfl] at cS
            have cB := cleanIL B
            by_cases ho : own.length = st.length
            · have gO : (((uL own).length : Int) != ((gL st).length : Int)) = false := by rw [uL_len, gL_len]; simp; omega
              have cRI := rinl_d ⟨nm, st⟩ own hsb hrb ho hu
              dsimp only at cRI
              rw [← hoo] at cRI
              have hA : inlV ⟨nm, st⟩ own = foldO (inl1 own st) (ordG ⟨nm, st⟩).1 (List.replicate st.length 0) := by simp [inlV, ho, hok]
              rw [hA] at cI
              have hAl : (foldO (inl1 own st) (ordG ⟨nm, st⟩).1 (List.replicate st.length 0)).length ≤ maxI := by rw [foldO_len, List.length_replicate]; unfold maxI; omega
              generalize foldO (inl1 own st) (ordG ⟨nm, st⟩).1 (List.replicate st.length 0) = A at *
              have cAA := cleanUL A
              (repeat' ((conv => whnf); first | refine goD ?_ | refine U.SoundAt.u (cR) clN ?_ | refine U.SoundAt.u (cT) clN ?_ | refine U.SoundAt.u (cQ) clN ?_ | refine U.SoundAt.u (cI) clN ?_ | refine U.SoundAt.u (cX) clN ?_ | refine U.SoundAt.u (cRI) clN ?_ | refine U.SoundC.u (cR) clN ?_ | refine U.SoundC.u (cT) clN ?_ | refine U.SoundC.u (cQ) clN ?_ | refine U.SoundC.u (cI) clN ?_ | refine U.SoundC.u (cX) clN ?_ | refine U.SoundC.u (cRI) clN ?_ | refine U.drawX_p (D := U.propX) 9 [] (by decide +kernel) (by decide +kernel) ?_ | refine U.lw_c (fun hb => ?_) (fun hb => ?_)))
              (conv => whnf)
              refine loop_inv (α := List Int × List Int) (fun y => y.1 ++ y.2 = A) (fun y => (mkF [(1, imS (uL own)), (2, imS (iL nest)), (3, imS (gL ats)), (4, .pointer (some ⟨0, 0, none⟩)), (8, .bool false), (9, .bool true), (11, .pointer (some ⟨1, 0, none⟩)), (12, .bool true), (13, imS (uL A)), (14, imS (iL B)), (15, imS (uL A)), (16, .int .i64 y.1.length)], ⟨mkO [(0, some (.cells 25 [imS (sL nm), imS (gL st)] false)), (1, some (.cells 34 [imS (sL nm), imS (gL st)] false))], 2, 0, 0⟩)) (fun y => y.2.length) ([], A) rfl (Cov.slots (s := ⟨mkO [(0, some (.cells 25 [imS (sL nm), imS (gL st)] false)), (1, some (.cells 34 [imS (sL nm), imS (gL st)] false))], 2, 0, 0⟩) (Nat.le_of_ble_eq_true rfl) ⟨rfl, rfl, rfl, rfl, rfl, rfl, rfl, rfl, rfl, rfl, rfl, rfl, trivial⟩) ?_
              rintro ⟨p, q⟩ p3
              dsimp only at p3
              dsimp only
              rcases q with _ | ⟨z, q⟩
              · rw [List.append_nil] at p3
                subst p3
                have h4b := U.lt_no uL_map p
                (repeat' ((conv => whnf); first | refine goD ?_ | refine U.SoundAt.u (hW) clN ?_ | refine U.SoundAt.u (cRN) clN ?_ | refine U.SoundAt.u (cS) clN ?_ | refine U.SoundC.u (hW) clN ?_ | refine U.SoundC.u (cRN) clN ?_ | refine U.SoundC.u (cS) clN ?_ | refine U.drawX_p (D := U.propX) 9 [] (by decide +kernel) (by decide +kernel) ?_ | refine U.lw_c (fun hb => ?_) (fun hb => ?_)))
                all_goals (conv => whnf)
                all_goals exact .clean _ (.flat _ rfl)
              · rw [← p3] at hAl
                obtain ⟨h4b, h4c, h4n, h4w⟩ := U.at4 uL_map p (z) q (hAl)
                rw [p3] at h4b h4c h4n
                have gA : (((uL A).length : Int) != ((uL A).length : Int)) = false := by simp
                have gz : (z != z) = false := by simp
                (repeat' ((conv => whnf); first | refine goD ?_ | refine U.drawX_p (D := U.propX) 16 [] (by decide +kernel) (by decide +kernel) ?_ | refine U.lw_c (fun hb => ?_) (fun hb => ?_)))
                (conv => whnf)
                exact ⟨(p ++ [z], q), by rw [← p3]; simp, by simp, Cov.slots (s := ⟨mkO [(0, some (.cells 25 [imS (sL nm), imS (gL st)] false)), (1, some (.cells 34 [imS (sL nm), imS (gL st)] false))], 2, 0, 0⟩) (Nat.le_of_ble_eq_true rfl) ⟨rfl, rfl, rfl, rfl, rfl, rfl, rfl, rfl, rfl, rfl, rfl, congrArg some (congrArg (Value.int .i64) h4w), trivial⟩⟩
            · have gO : (((uL own).length : Int) != ((gL st).length : Int)) = true := by rw [uL_len, gL_len]; simp; omega
              have hA : inlV ⟨nm, st⟩ own = [] := by simp [inlV, ho]
              rw [hA] at cI
              (repeat' ((conv => whnf); first | refine goD ?_ | refine U.SoundAt.u (cR) clN ?_ | refine U.SoundAt.u (cT) clN ?_ | refine U.SoundAt.u (cQ) clN ?_ | refine U.SoundAt.u (cI) clN ?_ | refine U.SoundAt.u (cX) clN ?_ | refine U.SoundAt.u (hW) clN ?_ | refine U.SoundAt.u (cRN) clN ?_ | refine U.SoundAt.u (cS) clN ?_ | refine U.SoundC.u (cR) clN ?_ | refine U.SoundC.u (cT) clN ?_ | refine U.SoundC.u (cQ) clN ?_ | refine U.SoundC.u (cI) clN ?_ | refine U.SoundC.u (cX) clN ?_ | refine U.SoundC.u (hW) clN ?_ | refine U.SoundC.u (cRN) clN ?_ | refine U.SoundC.u (cS) clN ?_ | refine U.drawX_p (D := U.propX) 9 [] (by decide +kernel) (by decide +kernel) ?_ | refine U.lw_c (fun hb => ?_) (fun hb => ?_)))
              all_goals (conv => whnf)
              all_goals exact .clean _ (.flat _ rfl)
        · have gN : (((iL nest).length : Int) != ((gL st).length : Int)) = true := by rw [iL_len, gL_len]; simp; omega
          have hB : nesV ⟨nm, st⟩ nest ats = [] := by simp [nesV, hn]
          rw [hB] at cX
          by_cases ho : own.length = st.length
          · have gO : (((uL own).length : Int) != ((gL st).length : Int)) = false := by rw [uL_len, gL_len]; simp; omega
            have cRI := rinl_d ⟨nm, st⟩ own hsb hrb ho hu
            dsimp only at cRI
            rw [← hoo] at cRI
            have hA : inlV ⟨nm, st⟩ own = foldO (inl1 own st) (ordG ⟨nm, st⟩).1 (List.replicate st.length 0) := by simp [inlV, ho, hok]
            rw [hA] at cI
            have hAl : (foldO (inl1 own st) (ordG ⟨nm, st⟩).1 (List.replicate st.length 0)).length ≤ maxI := by rw [foldO_len, List.length_replicate]; unfold maxI; omega
            generalize foldO (inl1 own st) (ordG ⟨nm, st⟩).1 (List.replicate st.length 0) = A at *
            have cAA := cleanUL A
            (repeat' ((conv => whnf); first | refine goD ?_ | refine U.SoundAt.u (cR) clN ?_ | refine U.SoundAt.u (cT) clN ?_ | refine U.SoundAt.u (cQ) clN ?_ | refine U.SoundAt.u (cI) clN ?_ | refine U.SoundAt.u (cX) clN ?_ | refine U.SoundAt.u (cRI) clN ?_ | refine U.SoundC.u (cR) clN ?_ | refine U.SoundC.u (cT) clN ?_ | refine U.SoundC.u (cQ) clN ?_ | refine U.SoundC.u (cI) clN ?_ | refine U.SoundC.u (cX) clN ?_ | refine U.SoundC.u (cRI) clN ?_ | refine U.drawX_p (D := U.propX) 9 [] (by decide +kernel) (by decide +kernel) ?_ | refine U.lw_c (fun hb => ?_) (fun hb => ?_)))
            (conv => whnf)
            refine loop_inv (α := List Int × List Int) (fun y => y.1 ++ y.2 = A) (fun y => (mkF [(1, imS (uL own)), (2, imS (iL nest)), (3, imS (gL ats)), (4, .pointer (some ⟨0, 0, none⟩)), (8, .bool false), (9, .bool (fitB st ats)), (11, .pointer (some ⟨1, 0, none⟩)), (12, .bool true), (13, imS (uL A)), (14, imS (iL [])), (15, imS (uL A)), (16, .int .i64 y.1.length)], ⟨mkO [(0, some (.cells 25 [imS (sL nm), imS (gL st)] false)), (1, some (.cells 34 [imS (sL nm), imS (gL st)] false))], 2, 0, 0⟩)) (fun y => y.2.length) ([], A) rfl (Cov.slots (s := ⟨mkO [(0, some (.cells 25 [imS (sL nm), imS (gL st)] false)), (1, some (.cells 34 [imS (sL nm), imS (gL st)] false))], 2, 0, 0⟩) (Nat.le_of_ble_eq_true rfl) ⟨rfl, rfl, rfl, rfl, rfl, rfl, rfl, rfl, rfl, rfl, rfl, rfl, trivial⟩) ?_
            rintro ⟨p, q⟩ p3
            dsimp only at p3
            dsimp only
            rcases q with _ | ⟨z, q⟩
            · rw [List.append_nil] at p3
              subst p3
              have h4b := U.lt_no uL_map p
              (repeat' ((conv => whnf); first | refine goD ?_ | refine U.SoundAt.u (hW) clN ?_ | refine U.SoundC.u (hW) clN ?_ | refine U.drawX_p (D := U.propX) 9 [] (by decide +kernel) (by decide +kernel) ?_ | refine U.lw_c (fun hb => ?_) (fun hb => ?_)))
              all_goals (conv => whnf)
              all_goals exact .clean _ (.flat _ rfl)
            · rw [← p3] at hAl
              obtain ⟨h4b, h4c, h4n, h4w⟩ := U.at4 uL_map p (z) q (hAl)
              rw [p3] at h4b h4c h4n
              have gA : (((uL A).length : Int) != ((uL A).length : Int)) = false := by simp
              have gz : (z != z) = false := by simp
              (repeat' ((conv => whnf); first | refine goD ?_ | refine U.drawX_p (D := U.propX) 16 [] (by decide +kernel) (by decide +kernel) ?_ | refine U.lw_c (fun hb => ?_) (fun hb => ?_)))
              (conv => whnf)
              exact ⟨(p ++ [z], q), by rw [← p3]; simp, by simp, Cov.slots (s := ⟨mkO [(0, some (.cells 25 [imS (sL nm), imS (gL st)] false)), (1, some (.cells 34 [imS (sL nm), imS (gL st)] false))], 2, 0, 0⟩) (Nat.le_of_ble_eq_true rfl) ⟨rfl, rfl, rfl, rfl, rfl, rfl, rfl, rfl, rfl, rfl, rfl, congrArg some (congrArg (Value.int .i64) h4w), trivial⟩⟩
          · have gO : (((uL own).length : Int) != ((gL st).length : Int)) = true := by rw [uL_len, gL_len]; simp; omega
            have hA : inlV ⟨nm, st⟩ own = [] := by simp [inlV, ho]
            rw [hA] at cI
            (repeat' ((conv => whnf); first | refine goD ?_ | refine U.SoundAt.u (cR) clN ?_ | refine U.SoundAt.u (cT) clN ?_ | refine U.SoundAt.u (cQ) clN ?_ | refine U.SoundAt.u (cI) clN ?_ | refine U.SoundAt.u (cX) clN ?_ | refine U.SoundAt.u (hW) clN ?_ | refine U.SoundC.u (cR) clN ?_ | refine U.SoundC.u (cT) clN ?_ | refine U.SoundC.u (cQ) clN ?_ | refine U.SoundC.u (cI) clN ?_ | refine U.SoundC.u (cX) clN ?_ | refine U.SoundC.u (hW) clN ?_ | refine U.drawX_p (D := U.propX) 9 [] (by decide +kernel) (by decide +kernel) ?_ | refine U.lw_c (fun hb => ?_) (fun hb => ?_)))
            all_goals (conv => whnf)
            all_goals exact .clean _ (.flat _ rfl)
    · rw [← p1] at hal
      obtain ⟨h3b, h3c, h3n, h3w⟩ := U.at4 gL_map pre (x) rest (hal)
      rw [p1] at h3b h3c h3n
      have hsn := fitP_snoc st ats pre x
      have hax : ats.getD pre.length [] = x := by rw [← p1]; simp
      cases hfb : fitP st ats pre
      · rw [hfb, Bool.false_and] at hsn
        (repeat' ((conv => whnf); first | refine goD ?_ | refine U.SoundAt.u (hW) clN ?_ | refine U.SoundC.u (hW) clN ?_ | refine U.drawX_p (D := U.propX) 16 [] (by decide +kernel) (by decide +kernel) ?_ | refine U.lw_c (fun hb => ?_) (fun hb => ?_)))
        all_goals (conv => whnf)
        · exact .clean _ (.flat _ rfl)
        · exact ⟨(pre ++ [x], rest), by rw [← p1]; simp, by simp, Cov.slots (s := ⟨mkO [(0, some (.cells 25 [imS (sL nm), imS (gL st)] false))], 1, 0, 0⟩) (Nat.le_refl _) ⟨rfl, rfl, rfl, rfl, rfl, congrArg some (congrArg Value.bool hsn.symm), congrArg some (congrArg (Value.int .i64) h3w), trivial⟩⟩
      · rw [hfb, Bool.true_and] at hsn
        have hpl : pre.length < st.length := by
          have h9 : ats.length = st.length := by
            simp only [fitP, Bool.and_eq_true, decide_eq_true_eq] at hfb
            exact hfb.1
          rw [← h9, ← p1]; simp
        obtain ⟨row, hrw⟩ : ∃ row, st[pre.length]? = some row := ⟨st[pre.length], by simp [hpl]⟩
        have hpb : pre.length.blt (gL st).length = true := by rw [gL_len]; exact bLe hpl
        have hpn : nth (gL st) pre.length = some (imS (iL row)) := by rw [nth_eq, gL]; simp [hrw]
        rw [hax, show st.getD pre.length [] = row by simp [hrw]] at hsn
        (repeat' ((conv => whnf); first | refine goD ?_ | refine U.SoundAt.u (hW) clN ?_ | refine U.SoundC.u (hW) clN ?_ | refine U.drawX_p (D := U.propX) 16 [] (by decide +kernel) (by decide +kernel) ?_ | refine U.lw_c (fun hb => ?_) (fun hb => ?_)))
        all_goals (conv => whnf)
        · exact .clean _ (.flat _ rfl)
        · exact ⟨(pre ++ [x], rest), by rw [← p1]; simp, by simp, Cov.slots (s := ⟨mkO [(0, some (.cells 25 [imS (sL nm), imS (gL st)] false))], 1, 0, 0⟩) (Nat.le_refl _) ⟨rfl, rfl, rfl, rfl, rfl, congrArg some (congrArg Value.bool (by rw [hsn, iL_len, iL_len, Bool.eq_iff_iff]; simp; omega)), congrArg some (congrArg (Value.int .i64) h3w), trivial⟩⟩
end Go.Proofs.YthekpmpcbidjiaaGreat
