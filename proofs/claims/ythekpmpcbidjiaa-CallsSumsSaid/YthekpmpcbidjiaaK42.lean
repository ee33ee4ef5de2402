
import Derived.Test.YthekpmpcbidjiaaK41
/- Layer 11: calls.Nested: its contract. -/
namespace Go.Proofs.Ythekpmpcbidjiaa
open Go Go.RowKit Go.Sort U
set_option linter.unusedVariables false
set_option linter.unusedSimpArgs false
set_option maxRecDepth 100000
set_option maxHeartbeats 4000000
def fitB (st ats : List (List Int)) : Bool := decide (ats.length = st.length) && (List.range st.length).all fun v => decide ((ats.getD v []).length = (st.getD v []).length)
theorem fitB_iff {st ats : List (List Int)} : fitB st ats = true ↔ okAt st ats := by
  simp [fitB, okAt]
def nesV (g : Gz) (own : List Int) (ats : List (List Int)) : List Int := if (decide (own.length = g.st.length) && fitB g.st ats && (ordG g).2) = true then foldO (nst1 own ats g.st) (ordG g).1 (List.replicate g.st.length 0) else []
theorem frz_nil {P : Program} {s : AS} {l : List Int} (h : l = []) : FrzV P s (retC [.slice none 0 0]) (imS (iL l)) := by
  subst h
  exact .nil
theorem nested_d (g : Gz) (own : List Int) (ats : List (List Int)) (hg : okG g) (hst : g.st.length ≤ 29000) (hs : sumL g.st ≤ 500000) (hol : own.length ≤ maxI) (hal0 : ats.length ≤ maxI) (har0 : ∀ r ∈ ats, r.length ≤ maxI) : DenU Try.prog [] 17 [encG g, imS (iL own), imS (gL ats)] (imS (iL (nesV g own ats))) := by
  refine denU_of_sound hmixU fun Ts => SoundAt.body hmixU Try.func17 rfl rfl rfl 0 ?_
  have c1 := order_g g hg hst hs
  by_cases h1 : own.length = g.st.length
  · have hne : (((iL own).length : Int) != ((gL g.st).length : Int)) = false := by rw [iL_len, gL_len, h1]; simp
    by_cases h2 : ats.length = g.st.length
    · have hne2 : (((gL ats).length : Int) != ((gL g.st).length : Int)) = false := by rw [gL_len, gL_len, h2]; simp
      have hO := ordG_ok g
      have hv : nesV g own ats = if ((List.range g.st.length).all fun v => decide ((ats.getD v []).length = (g.st.getD v []).length)) = true ∧ (ordG g).2 = true then foldO (nst1 own ats g.st) (ordG g).1 (List.replicate g.st.length 0) else [] := by
        unfold nesV fitB
        simp only [h1, h2, decide_true, Bool.true_and, Bool.and_eq_true]
      rw [hv]
      clear hv
      have hlg := fun h => ordG_len (g := g) h
      have hgr := hg.2.2
      obtain ⟨nm, st⟩ := g
      have cg := cleanG ⟨nm, st⟩
      dsimp only at hne hne2 h1 h2 hst hO hlg hgr ⊢
      have g2 : st.length ≤ maxI := by unfold maxI; omega
      (repeat' ((conv => whnf); first | refine U.lw_t ?_ | refine U.lw_f ?_ | refine U.lit_t ?_ | refine U.lit_f ?_ | refine U.ob_t ?_ | refine U.ob_c (by first | (with_reducible assumption) | exact Nat.ble_eq_true_of_le (by omega) | exact Nat.ble_eq_true_of_le (by simp at *; omega)) ?_ | refine U.nv_c (by with_reducible assumption) ?_ | refine U.lw_t' (by with_reducible assumption) ?_ | refine U.lw_f' (by with_reducible assumption) ?_ | refine U.lw_c (fun hb => ?_) (fun hb => ?_)))
      (conv => whnf)
      refine loop_inv (α := List (List Int) × List (List Int)) (fun x => x.1 ++ x.2 = st ∧ ∀ v : Nat, v < x.1.length → (ats.getD v []).length = (st.getD v []).length) (fun x => (mkF [(3, .pointer (some ⟨0, 0, none⟩)), (4, .pointer (some ⟨1, 0, none⟩)), (5, .pointer (some ⟨2, 0, none⟩)), (6, .slice none 0 0), (24, imS (gL st)), (25, .int .i64 (gL st).length), (26, .int .i64 x.1.length)], ⟨mkO [(0, some (.cells 25 [imS (sL nm), imS (gL st)] false)), (1, some (.cells 28 [imS (iL own)] false)), (2, some (.cells 23 [imS (gL ats)] false))], 3, 0, 0⟩)) (fun x => x.2.length) ([], st) ⟨rfl, fun v hv => by cases hv⟩ (Cov.renO (fun k => k) rfl rfl (Nat.le_of_ble_eq_true rfl) (Nat.zero_le _) (fun _ _ => rfl) rfl (fun k hk => absurd hk (Nat.not_lt_zero k)) (.cons rfl (.row _ _ _ _ (cleanG_cells ⟨nm, st⟩) rfl) (.cons rfl (.cells _ _ _ _ (.cons (.clean _ _ (cleanIL _) rfl) .nil)) (.cons rfl (.cells _ _ _ _ (.cons (.clean _ _ (cleanGL _) rfl) .nil)) .nil))) (.cons rfl (.ptr _ _ _ (by decide) rfl) (.cons rfl (.ptr _ _ _ (by decide) rfl) (.cons rfl (.ptr _ _ _ (by decide) rfl) (.cons rfl (.clean _ _ (.flat _ rfl) rfl) (.cons rfl (.clean _ _ (cleanGL _) rfl) (.cons rfl (.clean _ _ (cleanI _) rfl) (.cons rfl (.clean _ _ (cleanI _) rfl) .nil)))))))) ?_
      rintro ⟨pre, rest⟩ ⟨p1, p2⟩
      dsimp only at p1 p2
      dsimp only
      rcases rest with _ | ⟨x, rest⟩
      · rw [List.append_nil] at p1
        replace p1 := p1.symm
        subst p1
        have hfit : ((List.range st.length).all fun v => decide ((ats.getD v []).length = (st.getD v []).length)) = true := List.all_eq_true.2 fun v hv => decide_eq_true (p2 v (List.mem_range.1 hv))
        have h3b := U.lt_no gL_map st
        rw [hfit]
        generalize hOG : ordG ⟨nm, st⟩ = O at *
        obtain ⟨ord, ok⟩ := O
        dsimp only at hO hlg ⊢
        (repeat' ((conv => whnf); first | refine U.lw_t ?_ | refine U.lw_f ?_ | refine U.lit_t ?_ | refine U.lit_f ?_ | refine U.ob_t ?_ | refine U.ob_c (by first | (with_reducible assumption) | exact Nat.ble_eq_true_of_le (by omega) | exact Nat.ble_eq_true_of_le (by simp at *; omega)) ?_ | refine U.nv_c (by with_reducible assumption) ?_ | refine U.lw_t' (by with_reducible assumption) ?_ | refine U.lw_f' (by with_reducible assumption) ?_ | refine U.lw_c (fun hb => ?_) (fun hb => ?_)))
        (conv => whnf)
        refine SoundAt.body hmixU Try.func45 rfl rfl rfl 0 ?_
        cases ok
        · (repeat' ((conv => whnf); first | refine U.lw_t ?_ | refine U.lw_f ?_ | refine U.lit_t ?_ | refine U.lit_f ?_ | refine U.ob_t ?_ | refine U.ob_c (by first | (with_reducible assumption) | exact Nat.ble_eq_true_of_le (by omega) | exact Nat.ble_eq_true_of_le (by simp at *; omega)) ?_ | refine U.nv_c (by with_reducible assumption) ?_ | refine U.SoundAt.u (c1) (by (repeat (first | exact trivial | ((conv => whnf); first | exact trivial | refine And.intro (by first | assumption | exact cleanI _ | exact cleanEs _ | exact cleanSs _ | exact cleanTs _ | exact cleanE _ | exact cleanIL _ | exact cleanBL _ | exact cleanR _ | exact NoNm.flat _ rfl) ?_)))) ?_ | refine U.SoundC.u (c1) (by (repeat (first | exact trivial | ((conv => whnf); first | exact trivial | refine And.intro (by first | assumption | exact cleanI _ | exact cleanEs _ | exact cleanSs _ | exact cleanTs _ | exact cleanE _ | exact cleanIL _ | exact cleanBL _ | exact cleanR _ | exact NoNm.flat _ rfl) ?_)))) ?_ | refine U.lw_t' (by with_reducible assumption) ?_ | refine U.lw_f' (by with_reducible assumption) ?_ | refine U.lw_c (fun hb => ?_) (fun hb => ?_)))
          (conv => whnf)
          exact frz_nil (by simp)
        · have hlo := hlg rfl
          have hown := h1
          have hat : okAt st ats := ⟨h2, p2⟩
          rw [if_pos ⟨rfl, rfl⟩]
          have hmf := mk_full (zs := [.int .i64 0]) (n := (iL ord).length) (b := 8) rfl rfl (by decide) (by rw [iL_len, hlo]; omega)
          have hmb := mk_full (zs := [.bool false]) (n := (iL ord).length) (b := 1) rfl rfl (by decide) (by rw [iL_len, hlo]; omega)
          (repeat' ((conv => whnf); first | refine U.ob_c hmf ?_ | refine U.ob_c hmb ?_ | refine U.lw_t ?_ | refine U.lw_f ?_ | refine U.lit_t ?_ | refine U.lit_f ?_ | refine U.ob_t ?_ | refine U.spineC_p ?_ | refine U.ob_c (by first | (with_reducible assumption) | exact Nat.ble_eq_true_of_le (by omega) | exact Nat.ble_eq_true_of_le (by simp at *; omega)) ?_ | refine U.nv_c (by with_reducible assumption) ?_ | refine U.SoundAt.u (c1) (by (repeat (first | exact trivial | ((conv => whnf); first | exact trivial | refine And.intro (by first | assumption | exact cleanI _ | exact cleanEs _ | exact cleanSs _ | exact cleanTs _ | exact cleanE _ | exact cleanIL _ | exact cleanBL _ | exact cleanR _ | exact NoNm.flat _ rfl) ?_)))) ?_ | refine U.SoundC.u (c1) (by (repeat (first | exact trivial | ((conv => whnf); first | exact trivial | refine And.intro (by first | assumption | exact cleanI _ | exact cleanEs _ | exact cleanSs _ | exact cleanTs _ | exact cleanE _ | exact cleanIL _ | exact cleanBL _ | exact cleanR _ | exact NoNm.flat _ rfl) ?_)))) ?_ | refine U.lw_t' (by with_reducible assumption) ?_ | refine U.lw_f' (by with_reducible assumption) ?_ | refine U.lw_c (fun hb => ?_) (fun hb => ?_)))
          (conv => whnf)
          have hn : (iL ord).length = st.length := by rw [iL_len]; exact hlo
          have hFin : ∀ pre, (foldO (nst1 own ats st) pre (List.replicate st.length 0)).length = st.length := fun pre => by rw [foldO_len]; simp
          refine loop_inv (α := List Int × List Int) (fun x => x.1 ++ x.2 = ord) (fun x => (mkF [(4, .slice none 0 0), (7, .pointer (some ⟨6, 0, none⟩)), (9, .pointer (some ⟨9, 0, none⟩)), (26, imS (iL ord)), (27, .int .i64 (iL ord).length), (28, .int .i64 x.1.length)], stV 0 ⟨nm, st⟩ own ats (iL ord).length (foldO (nst1 own ats st) x.1 (List.replicate st.length 0)) (knO st.length x.1))) (fun x => x.2.length) ([], ord) rfl ?_ ?_
          · have eF : iL (foldO (nst1 own ats st) [] (List.replicate st.length 0)) = repX (((iL ord).length : Nat) : Int).toNat [.int .i64 0] := by
              rw [foldO_nil, iL_zero, ← hn]; rfl
            have eB : blL (knO st.length []) = repX (((iL ord).length : Nat) : Int).toNat [.bool false] := by
              rw [knO_nil, ← hn]; rfl
            show Cov _ _ _ _ _ _ (stVX 0 ⟨nm, st⟩ own ats (iL ord).length (iL (foldO (nst1 own ats st) [] (List.replicate st.length 0))) (blL (knO st.length [])))
            rw [eF, eB]
            exact Cov.slots (Nat.le_refl _) ⟨rfl, rfl, rfl, rfl, rfl, rfl, trivial⟩
          rintro ⟨pre, rest⟩ p1
          dsimp only at p1
          dsimp only
          rcases rest with _ | ⟨x, rest⟩
          · rw [List.append_nil] at p1
            subst p1
            have h3b := U.lt_no iL_map pre
            (repeat' ((conv => whnf); first | refine U.lw_t ?_ | refine U.lw_f ?_ | refine U.lit_t ?_ | refine U.lit_f ?_ | refine U.ob_t ?_ | refine U.ob_c (by first | (with_reducible assumption) | exact Nat.ble_eq_true_of_le (by omega) | exact Nat.ble_eq_true_of_le (by simp at *; omega)) ?_ | refine U.nv_c (by with_reducible assumption) ?_ | refine U.lw_t' (by with_reducible assumption) ?_ | refine U.lw_f' (by with_reducible assumption) ?_ | refine U.lw_c (fun hb => ?_) (fun hb => ?_)))
            (conv => whnf)
            exact .rowL (k := 5) (Nat.zero_le _) rfl (by rw [cellsI]) iL_1 (by rw [iL_len, iL_len, hFin]; exact hlo) (Nat.le_refl _) (cleanIC _)
          · have hpo : (pre ++ x :: rest).length ≤ maxI := by rw [p1, hlo]; unfold maxI; omega
            have h3b := U.lt_yes iL_map pre (x) rest; have h3c := U.blt_yes iL_map pre (x) rest; have h3n := U.nth_at iL_map pre (x) rest; have h3w := U.len_snoc (pre := pre) (x := x) (post := rest) (hpo)
            rw [p1] at h3b h3c h3n
            obtain ⟨u, hul, rfl⟩ := hO.inn x (by rw [← p1]; simp)
            obtain ⟨row, hrw⟩ : ∃ row, st[u]? = some row := ⟨st[u], by simp [hul]⟩
            have hrd : st.getD u [] = row := by simp [hrw]
            obtain ⟨arow, har⟩ : ∃ row, ats[u]? = some row := ⟨ats[u]'(by rw [hat.1]; exact hul), by simp [hat.1, hul]⟩
            have hal : arow.length = row.length := by
              have := hat.2 u hul
              rwa [show ats.getD u [] = arow by simp [har], hrd] at this
            have hrl : row.length ≤ maxI := hgr row (List.mem_of_getElem? hrw)
            have hnu : (u : Int) ∉ pre := fun h => by
              have := hO.nd
              rw [← p1] at this
              exact (List.nodup_append.1 this).2.2 _ h (u : Int) (by simp) rfl
            have hfs := foldO_snoc (nst1 own ats st) pre (List.replicate st.length 0) (u : Int)
            rw [show ((u : Nat) : Int).toNat = u from rfl] at hfs
            (repeat' ((conv => whnf); first | refine U.lw_t ?_ | refine U.lw_f ?_ | refine U.lit_t ?_ | refine U.lit_f ?_ | refine U.ob_t ?_ | refine U.ob_c (by first | (with_reducible assumption) | exact Nat.ble_eq_true_of_le (by omega) | exact Nat.ble_eq_true_of_le (by simp at *; omega)) ?_ | refine U.nv_c (by with_reducible assumption) ?_ | refine U.lw_t' (by with_reducible assumption) ?_ | refine U.lw_f' (by with_reducible assumption) ?_ | refine U.lw_c (fun hb => ?_) (fun hb => ?_)))
            (conv => whnf)
            refine ofn_new ⟨nm, st⟩ own ats _ _ (iL ord).length u row arow hrw har hal hrl (by rw [hFin, hn]) (by rw [knO_len, hn]) hn (by rw [hown, hn]) (foldN_ok own ats st pre (okN_zero st.length)) (fun t ht => ?_) (by rw [knO_at hul]; exact decide_eq_false hnu) fun v => ?_
            · have hm := hO.cl pre rest u p1.symm t (by rw [hrd]; exact ht)
              obtain ⟨j, hj, rfl⟩ := hO.inn t (by rw [← p1]; exact List.mem_append_left _ hm)
              exact ⟨j, rfl, by rw [hn]; exact hj, by rw [knO_at hj]; exact decide_eq_true hm⟩
            (repeat' ((conv => whnf); first | refine U.lw_t ?_ | refine U.lw_f ?_ | refine U.lit_t ?_ | refine U.lit_f ?_ | refine U.ob_t ?_ | refine U.ob_c (by first | (with_reducible assumption) | exact Nat.ble_eq_true_of_le (by omega) | exact Nat.ble_eq_true_of_le (by simp at *; omega)) ?_ | refine U.nv_c (by with_reducible assumption) ?_ | refine U.lw_t' (by with_reducible assumption) ?_ | refine U.lw_f' (by with_reducible assumption) ?_ | refine U.lw_c (fun hb => ?_) (fun hb => ?_)))
            (conv => whnf)
            refine ⟨(pre ++ [(u : Int)], rest), by rw [← p1]; simp, by simp, ?_⟩
            dsimp only
            rw [hfs, knO_snoc]
            refine Cov.slots (s := stV 0 ⟨nm, st⟩ own ats (iL ord).length ((foldO (nst1 own ats st) pre (List.replicate st.length 0)).set u (nst1 own ats st (foldO (nst1 own ats st) pre (List.replicate st.length 0)) u)) ((knO st.length pre).set u true)) (Nat.le_of_ble_eq_true rfl) ?_
            exact ⟨rfl, rfl, rfl, rfl, rfl, congrArg some (congrArg (Value.int .i64) h3w), trivial⟩
      · have hpl : pre.length < st.length := by rw [← p1]; simp
        rw [← p1] at g2
        have h3b := U.lt_yes gL_map pre (x) rest; have h3c := U.blt_yes gL_map pre (x) rest; have h3n := U.nth_at gL_map pre (x) rest; have h3w := U.len_snoc (pre := pre) (x := x) (post := rest) (g2)
        rw [p1] at h3b h3c h3n
        have hpa : pre.length < ats.length := by rw [h2]; exact hpl
        obtain ⟨arow, har⟩ : ∃ row, ats[pre.length]? = some row := ⟨ats[pre.length], by simp [hpa]⟩
        have hab : pre.length.blt (gL ats).length = true := by rw [gL_len]; exact Nat.ble_eq_true_of_le hpa
        have han : nth (gL ats) pre.length = some (imS (iL arow)) := by rw [nth_eq, gL]; simp [har]
        have hx : st.getD pre.length [] = x := by rw [← p1]; simp
        have ha : ats.getD pre.length [] = arow := by simp [har]
        by_cases h4 : arow.length = x.length
        · have g4 : (((iL arow).length : Int) != ((iL x).length : Int)) = false := by rw [iL_len, iL_len, h4]; simp
          (repeat' ((conv => whnf); first | refine U.lw_t ?_ | refine U.lw_f ?_ | refine U.lit_t ?_ | refine U.lit_f ?_ | refine U.ob_t ?_ | refine U.ob_c (by first | (with_reducible assumption) | exact Nat.ble_eq_true_of_le (by omega) | exact Nat.ble_eq_true_of_le (by simp at *; omega)) ?_ | refine U.nv_c (by with_reducible assumption) ?_ | refine U.lw_t' (by with_reducible assumption) ?_ | refine U.lw_f' (by with_reducible assumption) ?_ | refine U.lw_c (fun hb => ?_) (fun hb => ?_)))
          (conv => whnf)
          refine ⟨(pre ++ [x], rest), ⟨by rw [← p1]; simp, fun v hv => ?_⟩, by simp, Cov.slots (s := ⟨mkO [(0, some (.cells 25 [imS (sL nm), imS (gL st)] false)), (1, some (.cells 28 [imS (iL own)] false)), (2, some (.cells 23 [imS (gL ats)] false))], 3, 0, 0⟩) (Nat.le_of_ble_eq_true rfl) ⟨rfl, rfl, rfl, rfl, rfl, rfl, congrArg some (congrArg (Value.int .i64) h3w), trivial⟩⟩
          by_cases hv2 : v = pre.length
          · subst hv2
            rw [hx, ha, h4]
          · exact p2 v (by simp at hv; omega)
        · have g4 : (((iL arow).length : Int) != ((iL x).length : Int)) = true := by rw [iL_len, iL_len]; simp; omega
          (repeat' ((conv => whnf); first | refine U.lw_t ?_ | refine U.lw_f ?_ | refine U.lit_t ?_ | refine U.lit_f ?_ | refine U.ob_t ?_ | refine U.ob_c (by first | (with_reducible assumption) | exact Nat.ble_eq_true_of_le (by omega) | exact Nat.ble_eq_true_of_le (by simp at *; omega)) ?_ | refine U.nv_c (by with_reducible assumption) ?_ | refine U.lw_t' (by with_reducible assumption) ?_ | refine U.lw_f' (by with_reducible assumption) ?_ | refine U.lw_c (fun hb => ?_) (fun hb => ?_)))
          (conv => whnf)
          refine frz_nil (if_neg fun h => h4 ?_)
          have := List.all_eq_true.1 h.1 pre.length (List.mem_range.2 hpl)
          rw [hx, ha] at this
          exact of_decide_eq_true this
    · have hne2 : (((gL ats).length : Int) != ((gL g.st).length : Int)) = true := by rw [gL_len, gL_len]; simp; omega
      have hv : nesV g own ats = [] := by simp [nesV, fitB, h2]
      rw [hv]
      obtain ⟨nm, st⟩ := g
      dsimp only at hne hne2
      (repeat' ((conv => whnf); first | refine U.lw_t ?_ | refine U.lw_f ?_ | refine U.lit_t ?_ | refine U.lit_f ?_ | refine U.ob_t ?_ | refine U.ob_c (by first | (with_reducible assumption) | exact Nat.ble_eq_true_of_le (by omega) | exact Nat.ble_eq_true_of_le (by simp at *; omega)) ?_ | refine U.nv_c (by with_reducible assumption) ?_ | refine U.lw_t' (by with_reducible assumption) ?_ | refine U.lw_f' (by with_reducible assumption) ?_ | refine U.lw_c (fun hb => ?_) (fun hb => ?_)))
      (conv => whnf)
      exact frz_nil rfl
  · have hne : (((iL own).length : Int) != ((gL g.st).length : Int)) = true := by rw [iL_len, gL_len]; simp; omega
    have hv : nesV g own ats = [] := by simp [nesV, h1]
    rw [hv]
    obtain ⟨nm, st⟩ := g
    dsimp only at hne
    (repeat' ((conv => whnf); first | refine U.lw_t ?_ | refine U.lw_f ?_ | refine U.lit_t ?_ | refine U.lit_f ?_ | refine U.ob_t ?_ | refine U.ob_c (by first | (with_reducible assumption) | exact Nat.ble_eq_true_of_le (by omega) | exact Nat.ble_eq_true_of_le (by simp at *; omega)) ?_ | refine U.nv_c (by with_reducible assumption) ?_ | refine U.lw_t' (by with_reducible assumption) ?_ | refine U.lw_f' (by with_reducible assumption) ?_ | refine U.lw_c (fun hb => ?_) (fun hb => ?_)))
    (conv => whnf)
    exact frz_nil rfl
end Go.Proofs.Ythekpmpcbidjiaa
