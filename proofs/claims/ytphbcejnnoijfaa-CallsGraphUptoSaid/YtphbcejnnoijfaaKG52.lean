
import Derived.Test.YtphbcejnnoijfaaKG49
import Derived.Test.YtphbcejnnoijfaaKG50
import Derived.Test.YtphbcejnnoijfaaKG51
namespace Go.Proofs.Ytphbcejnnoijfaa
open Go Go.RowKit Go.Sort U
set_option linter.unusedVariables false
set_option linter.unusedSimpArgs false
set_option maxRecDepth 100000
set_option maxHeartbeats 16000000
theorem clean_Pr (p : APr) : NoNm (encPr p) := .agg _ (cleanPr_cells p)
theorem eqOkF : eqOk Try.prog 41 = true := by kernel_rfl
theorem law_d (p : APr) (hs : szPr p ≤ 800000) : DenU Try.prog [] 3 [encPr p] (.bool true) := by
  refine denU_of_sound hmixU fun Ts => SoundAt.body hmixU Try.func3 rfl rfl rfl 0 ?_
  have cw := works_d
  have kp := clean_Pr p
  (repeat' ((conv => whnf); first | refine goD ?_ | refine U.SoundAt.u (cw) (by (repeat (first | exact trivial | ((conv => whnf); first | exact trivial | refine And.intro (by first | assumption | exact cleanI _ | exact cleanIL _ | exact cleanBL _ | exact NoNm.flat _ rfl) ?_)))) ?_ | refine U.SoundC.u (cw) (by (repeat (first | exact trivial | ((conv => whnf); first | exact trivial | refine And.intro (by first | assumption | exact cleanI _ | exact cleanIL _ | exact cleanBL _ | exact NoNm.flat _ rfl) ?_)))) ?_ | refine U.lw_c (fun hb => ?_) (fun hb => ?_)))
  (conv => whnf)
  refine SoundAt.e (few_e p hs) ⟨kp, cleanI _, trivial⟩ fun u hq => ?_
  obtain ⟨b, rfl, hb⟩ := hq
  rcases b with _ | _
  · (repeat' ((conv => whnf); first | refine goD ?_ | refine U.SoundAt.u (cw) (by (repeat (first | exact trivial | ((conv => whnf); first | exact trivial | refine And.intro (by first | assumption | exact cleanI _ | exact cleanIL _ | exact cleanBL _ | exact NoNm.flat _ rfl) ?_)))) ?_ | refine U.SoundC.u (cw) (by (repeat (first | exact trivial | ((conv => whnf); first | exact trivial | refine And.intro (by first | assumption | exact cleanI _ | exact cleanIL _ | exact cleanBL _ | exact NoNm.flat _ rfl) ?_)))) ?_ | refine U.lw_c (fun hb => ?_) (fun hb => ?_)))
    (conv => whnf)
    exact .same (.flat _ rfl) rfl
  · obtain ⟨h1, h2, h3⟩ := hb rfl
    have hf : FewA p := ⟨h1, h2, h3⟩
    have cP := aProg_d p hf
    have cO := rof_d p hf
    have cG := progOf_d p hf
    have cS := same6_d p h1 h2 h3
    cases hg : ofG p with
    | inr f =>
      have hv : refV p = .tuple ⟨[.agg ⟨[imS [], imS []]⟩, fltV f.1 f.2 120]⟩ := by unfold refV; rw [hg]
      rw [hv] at cO
      have cN := of_no p hf hg
      have cF := fault_d f.1 f.2 120
      have cR : DenU Try.prog [] 10 [.agg ⟨[imS [], imS []]⟩] (.bool false) := cright_d ⟨[], []⟩ ⟨by simp, by simp, fun r hr => by cases hr⟩
      have cQ : DenU Try.prog [] 11 [.agg ⟨[imS [], imS []]⟩] (.bool false) := rright_d ⟨[], []⟩ ⟨by simp, by simp, fun r hr => by cases hr⟩
      have kz : NoNm (.agg ⟨[imS [], imS []]⟩) := .agg _ (fun c hc => by simp only [List.mem_cons, List.not_mem_nil, or_false] at hc; rcases hc with rfl | rfl <;> exact .ims _ (fun c hc => by cases hc))
      (repeat' ((conv => whnf); first | refine goD ?_ | refine U.SoundAt.u (cP) (by (repeat (first | exact trivial | ((conv => whnf); first | exact trivial | refine And.intro (by first | assumption | exact cleanI _ | exact cleanIL _ | exact cleanBL _ | exact NoNm.flat _ rfl) ?_)))) ?_ | refine U.SoundAt.u (cO) (by (repeat (first | exact trivial | ((conv => whnf); first | exact trivial | refine And.intro (by first | assumption | exact cleanI _ | exact cleanIL _ | exact cleanBL _ | exact NoNm.flat _ rfl) ?_)))) ?_ | refine U.SoundC.u (cP) (by (repeat (first | exact trivial | ((conv => whnf); first | exact trivial | refine And.intro (by first | assumption | exact cleanI _ | exact cleanIL _ | exact cleanBL _ | exact NoNm.flat _ rfl) ?_)))) ?_ | refine U.SoundC.u (cO) (by (repeat (first | exact trivial | ((conv => whnf); first | exact trivial | refine And.intro (by first | assumption | exact cleanI _ | exact cleanIL _ | exact cleanBL _ | exact NoNm.flat _ rfl) ?_)))) ?_ | refine U.lw_c (fun hb => ?_) (fun hb => ?_)))
      (conv => whnf)
      refine loop_inv (α := Nat) (fun t => t ≤ 2) (fun t => (mkF [(1, .pointer (some ⟨0, 0, none⟩)), (2, .bool false), (3, .pointer (some ⟨1, 0, none⟩)), (4, .pointer (some ⟨2, 0, none⟩)), (5, .pointer (some ⟨3, 0, none⟩)), (6, .int .i64 t)], stZ p (imS []) (imS []) (f.1, f.2, 120))) (fun t => 2 - t) 0 (by omega) (Cov.renI rfl rfl rfl rfl (.cons rfl (.row _ _ _ _ (cleanPr_cells p) rfl) (.cons rfl (.row _ _ _ _ (cleanPr_cells p) rfl) (.cons rfl (.cells _ _ _ _ (.cons (.clean _ _ (NoNm.ims _ (fun c hc => by cases hc)) rfl) (.cons (.clean _ _ (NoNm.ims _ (fun c hc => by cases hc)) rfl) .nil))) (.cons rfl (.cells _ _ _ _ (.cons .I (.cons .I (.cons .I .nil)))) .nil)))) (.cons rfl (.P rfl) (.cons rfl (.F rfl rfl) (.cons rfl (.P rfl) (.cons rfl (.P rfl) (.cons rfl (.P rfl) (.cons rfl .I .nil))))))) ?_
      intro t ht
      dsimp only
      rcases Nat.lt_or_ge t 2 with h2t | h2t
      · have g1 : decide ((t : Int) < 2) = true := decide_eq_true (by omega)
        have hw : IntKind.i64.wrap ((t : Int) + 1) = ((t + 1 : Nat) : Int) := wadd1 (by omega)
        have e1 : (!(f.1 == (f.1, f.2, (120 : Int)).1 && f.2 == (f.1, f.2, (120 : Int)).2.1 && (120 : Int) == (f.1, f.2, (120 : Int)).2.2)) = false := by simp
        (repeat' ((conv => whnf); first | refine goA ?_ | refine U.ob_c eqOkF ?_ | refine U.onV_p (eqFlt f.1 f.2 120) ?_ | refine goB ?_ | refine U.SoundAt.u (cN) (by (repeat (first | exact trivial | ((conv => whnf); first | exact trivial | refine And.intro (by first | assumption | exact cleanI _ | exact cleanIL _ | exact cleanBL _ | exact NoNm.flat _ rfl) ?_)))) ?_ | refine U.SoundAt.u (cF) (by (repeat (first | exact trivial | ((conv => whnf); first | exact trivial | refine And.intro (by first | assumption | exact cleanI _ | exact cleanIL _ | exact cleanBL _ | exact NoNm.flat _ rfl) ?_)))) ?_ | refine U.SoundAt.u (cR) (by (repeat (first | exact trivial | ((conv => whnf); first | exact trivial | refine And.intro (by first | assumption | exact cleanI _ | exact cleanIL _ | exact cleanBL _ | exact NoNm.flat _ rfl) ?_)))) ?_ | refine U.SoundAt.u (cQ) (by (repeat (first | exact trivial | ((conv => whnf); first | exact trivial | refine And.intro (by first | assumption | exact cleanI _ | exact cleanIL _ | exact cleanBL _ | exact NoNm.flat _ rfl) ?_)))) ?_ | refine U.SoundC.u (cN) (by (repeat (first | exact trivial | ((conv => whnf); first | exact trivial | refine And.intro (by first | assumption | exact cleanI _ | exact cleanIL _ | exact cleanBL _ | exact NoNm.flat _ rfl) ?_)))) ?_ | refine U.SoundC.u (cF) (by (repeat (first | exact trivial | ((conv => whnf); first | exact trivial | refine And.intro (by first | assumption | exact cleanI _ | exact cleanIL _ | exact cleanBL _ | exact NoNm.flat _ rfl) ?_)))) ?_ | refine U.SoundC.u (cR) (by (repeat (first | exact trivial | ((conv => whnf); first | exact trivial | refine And.intro (by first | assumption | exact cleanI _ | exact cleanIL _ | exact cleanBL _ | exact NoNm.flat _ rfl) ?_)))) ?_ | refine U.SoundC.u (cQ) (by (repeat (first | exact trivial | ((conv => whnf); first | exact trivial | refine And.intro (by first | assumption | exact cleanI _ | exact cleanIL _ | exact cleanBL _ | exact NoNm.flat _ rfl) ?_)))) ?_ | refine U.drawX_p (D := U.propX) 29 [] (by decide +kernel) (by decide +kernel) ?_ | refine U.lw_c (fun hb => ?_) (fun hb => ?_)))
        (conv => whnf)
        refine loop_inv (α := Unit) (fun _ => True) (fun _ => (mkF [(1, .pointer (some ⟨0, 0, none⟩)), (2, .bool false), (3, .pointer (some ⟨1, 0, none⟩)), (4, .pointer (some ⟨2, 0, none⟩)), (5, .pointer (some ⟨3, 0, none⟩)), (6, .int .i64 t), (7, .pointer (some ⟨4, 0, none⟩)), (8, .pointer (some ⟨5, 0, none⟩)), (9, .int .i64 0)], ⟨mkO [(0, some (bPr p)), (1, some (bPr6 p)), (2, some (bGr1 (imS []) (imS []))), (3, some (.cells 41 [.int .i64 f.1, .int .i64 f.2, .int .i64 120] false)), (4, some (bGr (imS []) (imS [])))], 6, 0, 0⟩)) (fun _ => 0) () trivial (Cov.renI rfl rfl rfl rfl (.cons rfl (.row _ _ _ _ (cleanPr_cells p) rfl) (.cons rfl (.row _ _ _ _ (cleanPr_cells p) rfl) (.cons rfl (.cells _ _ _ _ (.cons (.clean _ _ (NoNm.ims _ (fun c hc => by cases hc)) rfl) (.cons (.clean _ _ (NoNm.ims _ (fun c hc => by cases hc)) rfl) .nil))) (.cons rfl (.cells _ _ _ _ (.cons .I (.cons .I (.cons .I .nil)))) (.cons rfl (.cells _ _ _ _ (.cons (.clean _ _ (NoNm.ims _ (fun c hc => by cases hc)) rfl) (.cons (.clean _ _ (NoNm.ims _ (fun c hc => by cases hc)) rfl) .nil))) .nil))))) (.cons rfl (.P rfl) (.cons rfl (.F rfl rfl) (.cons rfl (.P rfl) (.cons rfl (.P rfl) (.cons rfl (.P rfl) (.cons rfl .I (.cons rfl (.P rfl) (.cons rfl (.P rfl) (.cons rfl .I .nil)))))))))) ?_
        rintro _ _
        (repeat' ((conv => whnf); first | refine goD ?_ | refine U.lw_c (fun hb => ?_) (fun hb => ?_)))
        (conv => whnf)
        refine loop_inv (α := Unit) (fun _ => True) (fun _ => (mkF [(1, .pointer (some ⟨0, 0, none⟩)), (2, .bool false), (3, .pointer (some ⟨1, 0, none⟩)), (4, .pointer (some ⟨2, 0, none⟩)), (5, .pointer (some ⟨3, 0, none⟩)), (6, .int .i64 t), (7, .pointer (some ⟨4, 0, none⟩)), (8, .pointer (some ⟨5, 0, none⟩)), (10, .int .i64 0)], ⟨mkO [(0, some (bPr p)), (1, some (bPr6 p)), (2, some (bGr1 (imS []) (imS []))), (3, some (.cells 41 [.int .i64 f.1, .int .i64 f.2, .int .i64 120] false)), (4, some (bGr (imS []) (imS [])))], 6, 0, 0⟩)) (fun _ => 0) () trivial (Cov.renI rfl rfl rfl rfl (.cons rfl (.row _ _ _ _ (cleanPr_cells p) rfl) (.cons rfl (.row _ _ _ _ (cleanPr_cells p) rfl) (.cons rfl (.cells _ _ _ _ (.cons (.clean _ _ (NoNm.ims _ (fun c hc => by cases hc)) rfl) (.cons (.clean _ _ (NoNm.ims _ (fun c hc => by cases hc)) rfl) .nil))) (.cons rfl (.cells _ _ _ _ (.cons .I (.cons .I (.cons .I .nil)))) (.cons rfl (.cells _ _ _ _ (.cons (.clean _ _ (NoNm.ims _ (fun c hc => by cases hc)) rfl) (.cons (.clean _ _ (NoNm.ims _ (fun c hc => by cases hc)) rfl) .nil))) .nil))))) (.cons rfl (.P rfl) (.cons rfl (.F rfl rfl) (.cons rfl (.P rfl) (.cons rfl (.P rfl) (.cons rfl (.P rfl) (.cons rfl .I (.cons rfl (.P rfl) (.cons rfl (.P rfl) (.cons rfl .I .nil)))))))))) ?_
        rintro _ _
        (repeat' ((conv => whnf); first | refine goD ?_ | refine U.lw_c (fun hb => ?_) (fun hb => ?_)))
        (conv => whnf)
        exact ⟨t + 1, by omega, by omega, (Cov.renI rfl rfl rfl rfl (.cons rfl (.row _ _ _ _ (cleanPr_cells p) rfl) (.cons rfl (.row _ _ _ _ (cleanPr_cells p) rfl) (.cons rfl (.cells _ _ _ _ (.cons (.clean _ _ (NoNm.ims _ (fun c hc => by cases hc)) rfl) (.cons (.clean _ _ (NoNm.ims _ (fun c hc => by cases hc)) rfl) .nil))) (.cons rfl (.cells _ _ _ _ (.cons .I (.cons .I (.cons .I .nil)))) .nil)))) (.cons rfl (.P rfl) (.cons rfl (.F rfl rfl) (.cons rfl (.P rfl) (.cons rfl (.P rfl) (.cons rfl (.P rfl) (.cons rfl (.clean _ _ (cleanI _) (congrArg (Value.int .i64) (hw.symm))) .nil)))))))⟩
      · have g1 : decide ((t : Int) < 2) = false := decide_eq_false (by omega)
        (repeat' ((conv => whnf); first | refine goD ?_ | refine U.SoundAt.u (cG) (by (repeat (first | exact trivial | ((conv => whnf); first | exact trivial | refine And.intro (by first | assumption | exact cleanI _ | exact cleanIL _ | exact cleanBL _ | exact NoNm.flat _ rfl) ?_)))) ?_ | refine U.SoundAt.u (cS) (by (repeat (first | exact trivial | ((conv => whnf); first | exact trivial | refine And.intro (by first | assumption | exact cleanI _ | exact cleanIL _ | exact cleanBL _ | exact NoNm.flat _ rfl) ?_)))) ?_ | refine U.SoundAt.u (cw) (by (repeat (first | exact trivial | ((conv => whnf); first | exact trivial | refine And.intro (by first | assumption | exact cleanI _ | exact cleanIL _ | exact cleanBL _ | exact NoNm.flat _ rfl) ?_)))) ?_ | refine U.SoundC.u (cG) (by (repeat (first | exact trivial | ((conv => whnf); first | exact trivial | refine And.intro (by first | assumption | exact cleanI _ | exact cleanIL _ | exact cleanBL _ | exact NoNm.flat _ rfl) ?_)))) ?_ | refine U.SoundC.u (cS) (by (repeat (first | exact trivial | ((conv => whnf); first | exact trivial | refine And.intro (by first | assumption | exact cleanI _ | exact cleanIL _ | exact cleanBL _ | exact NoNm.flat _ rfl) ?_)))) ?_ | refine U.SoundC.u (cw) (by (repeat (first | exact trivial | ((conv => whnf); first | exact trivial | refine And.intro (by first | assumption | exact cleanI _ | exact cleanIL _ | exact cleanBL _ | exact NoNm.flat _ rfl) ?_)))) ?_ | refine U.drawX_p (D := U.propX) 8 [] (by decide +kernel) (by decide +kernel) ?_ | refine U.lw_c (fun hb => ?_) (fun hb => ?_)))
        (conv => whnf)
        exact .same (.flat _ rfl) rfl
    | inl rows =>
      have hv : refV p = .tuple ⟨[.agg ⟨[imS (sL (namesD p.ds)), imS (gL rows)]⟩, fltV 0 0 0]⟩ := by unfold refV; rw [hg]
      rw [hv] at cO
      have kn := cleanSL (namesD p.ds)
      have kg := cleanGL rows
      have hlN : (namesD p.ds).length ≤ 300 := by
        rw [namesD, List.length_map]; exact Nat.le_trans (List.length_filter_le ..) h1
      have hrl : rows.length = (namesD p.ds).length + 1 := by
        have := rowsL_len hg
        rw [List.length_append, List.length_singleton] at this
        rw [this, namesD, bodsD, List.length_map, List.length_map]
      have hn : rows.length ≤ 65000 := by omega
      have hrw0 : ∀ r ∈ rows, r.length ≤ 300 := rowsL_mem hg fun b hb => by
        unfold szPr at h3
        rcases List.mem_append.1 hb with hb | hb
        · obtain ⟨d, hd, rfl⟩ := List.mem_map.1 hb
          have := szDs_mem (List.mem_filter.1 hd).1
          omega
        · rw [List.mem_singleton] at hb
          subst hb; omega
      have cA := of_ok p hf hg
      have cF := fault_d 0 0 0
      (repeat' ((conv => whnf); first | refine goD ?_ | refine U.SoundAt.u (cP) (by (repeat (first | exact trivial | ((conv => whnf); first | exact trivial | refine And.intro (by first | assumption | exact cleanI _ | exact cleanIL _ | exact cleanBL _ | exact NoNm.flat _ rfl) ?_)))) ?_ | refine U.SoundAt.u (cO) (by (repeat (first | exact trivial | ((conv => whnf); first | exact trivial | refine And.intro (by first | assumption | exact cleanI _ | exact cleanIL _ | exact cleanBL _ | exact NoNm.flat _ rfl) ?_)))) ?_ | refine U.SoundC.u (cP) (by (repeat (first | exact trivial | ((conv => whnf); first | exact trivial | refine And.intro (by first | assumption | exact cleanI _ | exact cleanIL _ | exact cleanBL _ | exact NoNm.flat _ rfl) ?_)))) ?_ | refine U.SoundC.u (cO) (by (repeat (first | exact trivial | ((conv => whnf); first | exact trivial | refine And.intro (by first | assumption | exact cleanI _ | exact cleanIL _ | exact cleanBL _ | exact NoNm.flat _ rfl) ?_)))) ?_ | refine U.lw_c (fun hb => ?_) (fun hb => ?_)))
      (conv => whnf)
      refine loop_inv (α := Nat) (fun t => t ≤ 2) (fun t => (mkF [(1, .pointer (some ⟨0, 0, none⟩)), (2, .bool false), (3, .pointer (some ⟨1, 0, none⟩)), (4, .pointer (some ⟨2, 0, none⟩)), (5, .pointer (some ⟨3, 0, none⟩)), (6, .int .i64 t)], stZ p (imS (sL (namesD p.ds))) (imS (gL rows)) (0, 0, 0))) (fun t => 2 - t) 0 (by omega) (Cov.renI rfl rfl rfl rfl (.cons rfl (.row _ _ _ _ (cleanPr_cells p) rfl) (.cons rfl (.row _ _ _ _ (cleanPr_cells p) rfl) (.cons rfl (.cells _ _ _ _ (.cons (.clean _ _ (cleanSL _) rfl) (.cons (.clean _ _ (cleanGL _) rfl) .nil))) (.cons rfl (.cells _ _ _ _ (.cons .I (.cons .I (.cons .I .nil)))) .nil)))) (.cons rfl (.P rfl) (.cons rfl (.F rfl rfl) (.cons rfl (.P rfl) (.cons rfl (.P rfl) (.cons rfl (.P rfl) (.cons rfl .I .nil))))))) ?_
      intro t ht
      dsimp only
      rcases Nat.lt_or_ge t 2 with h2t | h2t
      · have g1 : decide ((t : Int) < 2) = true := decide_eq_true (by omega)
        have hw : IntKind.i64.wrap ((t : Int) + 1) = ((t + 1 : Nat) : Int) := wadd1 (by omega)
        generalize hns : namesD p.ds = ns at *
        obtain ⟨r0, rows1, rfl⟩ : ∃ r0 rows1, rows = r0 :: rows1 := by
          cases rows with
          | nil => simp at hrl
          | cons r l => exact ⟨r, l, rfl⟩
        have hrw : ∀ r ∈ r0 :: rows1, r.length ≤ 300 := hrw0
        have hok : okG ⟨ns, (r0 :: rows1)⟩ := ⟨by show ns.length ≤ 1000000; omega, by show (r0 :: rows1).length ≤ maxI; unfold maxI; omega, fun r hr => by have := hrw r hr; unfold maxI; omega⟩
        have cR : DenU Try.prog [] 10 [encG ⟨ns, (r0 :: rows1)⟩] (.bool (rightG ⟨ns, (r0 :: rows1)⟩)) := cright_d ⟨ns, (r0 :: rows1)⟩ hok
        have cQ : DenU Try.prog [] 11 [.agg ⟨[imS (sL ns), imS (gL (r0 :: rows1))]⟩] (.bool (rightG ⟨ns, (r0 :: rows1)⟩)) := rright_d ⟨ns, (r0 :: rows1)⟩ hok
        generalize rightG ⟨ns, r0 :: rows1⟩ = v at cR cQ
        have kw : NoNm (.agg ⟨[imS (sL ns), imS (gL (r0 :: rows1))]⟩) := cleanG ⟨ns, (r0 :: rows1)⟩
        have hq1 : (((rows1.length + 1 : Nat) : Int) != (((gL (r0 :: rows1)).length : Nat) : Int)) = false := by rw [gL_len]; simp
        have hvv : (!(v == v)) = false := by simp
        rcases ns with _ | ⟨n0, ns1⟩
        · (repeat' ((conv => whnf); first | refine goD ?_ | refine U.drawX_p (D := U.propX) 29 [] (by decide +kernel) (by decide +kernel) ?_ | refine U.lw_c (fun hb => ?_) (fun hb => ?_)))
          (conv => whnf)
          refine SoundAt.r cA ⟨kp, trivial⟩ (Nat.zero_le _) (tellO p (imS (sL [])) (imS (gL (r0 :: rows1))) (0, 0, 0) [] none rfl (r0 :: rows1) hn) ?_
          (repeat' ((conv => whnf); first | refine goA ?_ | refine U.ob_c eqOkF ?_ | refine U.onV_p (eqFlt 0 0 0) ?_ | refine U.SoundC.uF cR rfl (.cons (.aggL (.cons .nil (.cons (frzS (rowsB (p := p) (w1 := imS (sL [])) (w2 := imS (gL (r0 :: rows1))) (f := (0, 0, 0)) (ns := []) (names := none) (rows := (r0 :: rows1)) hn) rfl) .nil))) .nil) ?_ | refine goB ?_ | refine U.SoundAt.u (cF) (by (repeat (first | exact trivial | ((conv => whnf); first | exact trivial | refine And.intro (by first | assumption | exact cleanI _ | exact cleanIL _ | exact cleanBL _ | exact NoNm.flat _ rfl) ?_)))) ?_ | refine U.SoundAt.u (cQ) (by (repeat (first | exact trivial | ((conv => whnf); first | exact trivial | refine And.intro (by first | assumption | exact cleanI _ | exact cleanIL _ | exact cleanBL _ | exact NoNm.flat _ rfl) ?_)))) ?_ | refine U.SoundC.u (cF) (by (repeat (first | exact trivial | ((conv => whnf); first | exact trivial | refine And.intro (by first | assumption | exact cleanI _ | exact cleanIL _ | exact cleanBL _ | exact NoNm.flat _ rfl) ?_)))) ?_ | refine U.SoundC.u (cQ) (by (repeat (first | exact trivial | ((conv => whnf); first | exact trivial | refine And.intro (by first | assumption | exact cleanI _ | exact cleanIL _ | exact cleanBL _ | exact NoNm.flat _ rfl) ?_)))) ?_ | refine U.drawX_p (D := U.propX) 29 [] (by decide +kernel) (by decide +kernel) ?_ | refine U.lw_c (fun hb => ?_) (fun hb => ?_)))
          (conv => whnf)
          refine loop_inv (α := Unit) (fun _ => True) (fun _ => (mkF [(1, .pointer (some ⟨0, 0, none⟩)), (2, .bool false), (3, .pointer (some ⟨1, 0, none⟩)), (4, .pointer (some ⟨2, 0, none⟩)), (5, .pointer (some ⟨3, 0, none⟩)), (6, .int .i64 t), (7, .pointer (some ⟨65537, 0, none⟩)), (9, .int .i64 0)], stB p (imS (sL [])) (imS (gL (r0 :: rows1))) (0, 0, 0) [] none (r0 :: rows1))) (fun _ => 0) () trivial (Cov.slots (s := stB p (imS (sL [])) (imS (gL (r0 :: rows1))) (0, 0, 0) [] none (r0 :: rows1)) (Nat.le_refl _) ⟨rfl, rfl, rfl, rfl, rfl, rfl, rfl, rfl, trivial⟩) ?_
          rintro _ _
          (repeat' ((conv => whnf); first | refine goD ?_ | refine U.lw_c (fun hb => ?_) (fun hb => ?_)))
          (conv => whnf)
          refine loop_inv (α := List (List Int) × List (List Int)) (fun x => x.1 ++ x.2 = (r0 :: rows1)) (fun x => (mkF [(1, .pointer (some ⟨0, 0, none⟩)), (2, .bool false), (3, .pointer (some ⟨1, 0, none⟩)), (4, .pointer (some ⟨2, 0, none⟩)), (5, .pointer (some ⟨3, 0, none⟩)), (6, .int .i64 t), (7, .pointer (some ⟨65537, 0, none⟩)), (10, .int .i64 x.1.length)], stS p (imS (sL [])) (imS (gL (r0 :: rows1))) (0, 0, 0) [] (r0 :: rows1) (spR x.1 x.2) x.1.length (bAt x.2))) (fun x => x.2.length) ([], (r0 :: rows1)) rfl (cov_S (nm := nmO) (rv := (r0 :: rows1)) (rows := (r0 :: rows1)) (cleanSL _) (cleanGL _) (rowsB (p := p) (w1 := imS (sL [])) (w2 := imS (gL (r0 :: rows1))) (f := (0, 0, 0)) (ns := []) (names := none) (rows := (r0 :: rows1)) hn) (by simp) hn 0 (bAt (r0 :: rows1)) (bAt_eq [] (r0 :: rows1)) (fun j _ _ => by unfold nmO; omega) rfl rfl rfl rfl rfl (.cons rfl (.P rfl) (.cons rfl (.F rfl rfl) (.cons rfl (.P rfl) (.cons rfl (.P rfl) (.cons rfl (.P rfl) (.cons rfl .I (.cons rfl (.P rfl) (.cons rfl .I .nil))))))))) ?_
          rintro ⟨pre, rest⟩ p1
          dsimp only at p1
          dsimp only
          rcases rest with _ | ⟨x, rest⟩
          · rw [List.append_nil] at p1
            have yb : decide (((pre.length : Nat) : Int) < ((rows1.length + 1 : Nat) : Int)) = false := decide_eq_false (by rw [p1]; simp)
            (repeat' ((conv => whnf); first | refine goD ?_ | refine U.lw_c (fun hb => ?_) (fun hb => ?_)))
            (conv => whnf)
            exact ⟨t + 1, by omega, by omega, (Cov.renI rfl rfl rfl rfl (.cons rfl (.row _ _ _ _ (cleanPr_cells p) rfl) (.cons rfl (.row _ _ _ _ (cleanPr_cells p) rfl) (.cons rfl (.cells _ _ _ _ (.cons (.clean _ _ (cleanSL _) rfl) (.cons (.clean _ _ (cleanGL _) rfl) .nil))) (.cons rfl (.cells _ _ _ _ (.cons .I (.cons .I (.cons .I .nil)))) .nil)))) (.cons rfl (.P rfl) (.cons rfl (.F rfl rfl) (.cons rfl (.P rfl) (.cons rfl (.P rfl) (.cons rfl (.P rfl) (.cons rfl (.clean _ _ (cleanI _) (congrArg (Value.int .i64) (hw.symm))) .nil)))))))⟩
          · have hpl : pre.length + rest.length + 1 = rows1.length + 1 := by
              have := congrArg List.length p1
              simp at this
              omega
            have yb1 : decide (((pre.length : Nat) : Int) < ((rows1.length + 1 : Nat) : Int)) = true := decide_eq_true (by omega)
            have yc1 : pre.length.blt (rows1.length + 1) = true := bLe (by omega)
            have yb := U.lt_yes gL_map pre (x) rest; have yc := U.blt_yes gL_map pre (x) rest; have yn := U.nth_at gL_map pre (x) rest; have yw := U.len_snoc (pre := pre) (x := x) (post := rest) ((Nat.le_trans (show _ ≤ 65000 by rw [p1]; exact hn) (by decide)))
            rw [p1] at yb yc yn
            have hx := hrw x (by rw [← p1]; simp)
            have hn6 := cells_nth pre rest x
            have kx := cleanIL x
            have cD : DenU Try.prog [] 12 [imS (iL x), imS (iL x)] (.bool true) := by
              have := same_d x x (Nat.le_trans hx (by decide))
              rwa [decide_eq_true rfl] at this
            rcases x with _ | ⟨y, ys⟩
            · (repeat' ((conv => whnf); first | refine goA ?_ | (conv in (nth _ _) => (change nth _ (0 + pre.length * 1); rw [hn6])) | refine U.SoundC.uF cD rfl (.cons .nil (.cons (.clean _ kx) .nil)) ?_ | refine goB ?_ | refine U.drawX_p (D := U.propX) 12 [] (by decide +kernel) (by decide +kernel) ?_ | refine U.lw_c (fun hb => ?_) (fun hb => ?_)))
              (conv => whnf)
              refine loop_inv (α := Unit) (fun _ => True) (fun _ => (mkF [(1, .pointer (some ⟨0, 0, none⟩)), (2, .bool false), (3, .pointer (some ⟨1, 0, none⟩)), (4, .pointer (some ⟨2, 0, none⟩)), (5, .pointer (some ⟨3, 0, none⟩)), (6, .int .i64 t), (7, .pointer (some ⟨65537, 0, none⟩)), (10, .int .i64 pre.length), (11, .int .i64 0)], stS p (imS (sL [])) (imS (gL (r0 :: rows1))) (0, 0, 0) [] (r0 :: rows1) (spR pre ([] :: rest)) pre.length none)) (fun _ => 0) () trivial (Cov.slots (s := stS p (imS (sL [])) (imS (gL (r0 :: rows1))) (0, 0, 0) [] (r0 :: rows1) (spR pre ([] :: rest)) pre.length none) (Nat.le_refl _) ⟨rfl, rfl, rfl, rfl, rfl, rfl, rfl, rfl, rfl, trivial⟩) ?_
              rintro _ _
              (repeat' ((conv => whnf); first | refine goA ?_ | (conv in (nth _ _) => (change nth _ (0 + pre.length * 1); rw [hn6])) | refine goB ?_ | refine U.lw_c (fun hb => ?_) (fun hb => ?_)))
              (conv => whnf)
              obtain ⟨z, hz⟩ : ∃ z : List Int, z = [] := ⟨_, rfl⟩
              exact ⟨(pre ++ [z], rest), by rw [hz]; simp [p1], by simp, cov_S (nm := nmS pre.length) (rv := (r0 :: rows1)) (rows := spR (pre ++ [z]) rest) (cleanSL _) (cleanGL _) (rowsE (pre := pre) (rest := rest) (x := z) (by rw [hz, p1]; exact hn) (by rw [hz]; rfl) (fun h => absurd hz h) (by rw [hz]; exact fun p => rfl)) (by simp [spR]) (by rw [spR_len, List.append_assoc, hz]; exact (show (pre ++ [] :: rest).length ≤ 65000 by rw [p1]; exact hn)) (pre ++ [z]).length (bAt rest) (bAt_eq (pre ++ [z]) rest) (fun j _ _ => by unfold nmS; split <;> omega) rfl rfl rfl rfl rfl (.cons rfl (.P rfl) (.cons rfl (.F rfl rfl) (.cons rfl (.P rfl) (.cons rfl (.P rfl) (.cons rfl (.P rfl) (.cons rfl .I (.cons rfl (.P rfl) (.cons rfl (.clean _ _ (cleanI _) (congrArg (Value.int .i64) ((by rw [yw]; simp)))) .nil))))))))⟩
            · (repeat' ((conv => whnf); first | refine goA ?_ | (conv in (nth _ _) => (change nth _ (0 + pre.length * 1); rw [hn6])) | refine U.SoundC.uF cD rfl (.cons (.ofRow (T := 3) (Nat.zero_le _) (rowI_eq y ys) iL_1 (cleanIC _)) (.cons (.clean _ kx) .nil)) ?_ | refine goB ?_ | refine U.drawX_p (D := U.propX) 12 [] (by decide +kernel) (by decide +kernel) ?_ | refine U.lw_c (fun hb => ?_) (fun hb => ?_)))
              (conv => whnf)
              refine loop_inv (α := List Int × List Int) (fun z => z.1 ++ z.2 = y :: ys) (fun z => (mkF [(1, .pointer (some ⟨0, 0, none⟩)), (2, .bool false), (3, .pointer (some ⟨1, 0, none⟩)), (4, .pointer (some ⟨2, 0, none⟩)), (5, .pointer (some ⟨3, 0, none⟩)), (6, .int .i64 t), (7, .pointer (some ⟨65537, 0, none⟩)), (10, .int .i64 pre.length), (11, .int .i64 z.1.length)], stS p (imS (sL [])) (imS (gL (r0 :: rows1))) (0, 0, 0) [] (r0 :: rows1) (spR pre ((y :: ys) :: rest)) pre.length (some (.cells 3 (iL (sp99 z.1.length z.2)) true)))) (fun z => z.2.length) ([], y :: ys) rfl (Cov.slots (s := stS p (imS (sL [])) (imS (gL (r0 :: rows1))) (0, 0, 0) [] (r0 :: rows1) (spR pre ((y :: ys) :: rest)) pre.length (some (.cells 3 (iL (y :: ys)) true))) (Nat.le_refl _) ⟨rfl, rfl, rfl, rfl, rfl, rfl, rfl, rfl, rfl, trivial⟩) ?_
              rintro ⟨zp, zq⟩ z1
              dsimp only at z1
              dsimp only
              rcases zq with _ | ⟨w, zq⟩
              · rw [List.append_nil] at z1
                have zb : decide (((zp.length : Nat) : Int) < (((List.map (Value.int .i64) ys).length + 1 : Nat) : Int)) = false := decide_eq_false (by rw [z1]; simp)
                (repeat' ((conv => whnf); first | refine goA ?_ | (conv in (nth _ _) => (change nth _ (0 + pre.length * 1); rw [hn6])) | refine goB ?_ | refine U.lw_c (fun hb => ?_) (fun hb => ?_)))
                (conv => whnf)
                exact ⟨(pre ++ [y :: ys], rest), by simp [p1], by simp, cov_S (nm := nmS pre.length) (rv := (r0 :: rows1)) (rows := spR (pre ++ [y :: ys]) rest) (cleanSL _) (cleanGL _) (rowsE (by rw [p1]; exact hn) rfl (fun h => by rw [← z1]; simp [sp99]; rfl) (fun p => rfl)) (by simp [spR]) (by rw [spR_len, List.append_assoc]; exact (show (pre ++ (y :: ys) :: rest).length ≤ 65000 by rw [p1]; exact hn)) (pre ++ [y :: ys]).length (bAt rest) (bAt_eq (pre ++ [y :: ys]) rest) (fun j _ _ => by unfold nmS; split <;> omega) rfl rfl rfl rfl rfl (.cons rfl (.P rfl) (.cons rfl (.F rfl rfl) (.cons rfl (.P rfl) (.cons rfl (.P rfl) (.cons rfl (.P rfl) (.cons rfl .I (.cons rfl (.P rfl) (.cons rfl (.clean _ _ (cleanI _) (congrArg (Value.int .i64) (yw.symm))) .nil))))))))⟩
              · have hzl : zp.length + zq.length = ys.length := by
                  have := congrArg List.length z1
                  simp at this
                  omega
                have zb1 : decide (((zp.length : Nat) : Int) < (((List.map (Value.int .i64) ys).length + 1 : Nat) : Int)) = true := decide_eq_true (by rw [List.length_map]; omega)
                have zc1 : zp.length.blt ((List.map (Value.int .i64) ys).length + 1) = true := bLe (by rw [List.length_map]; omega)
                have zw : IntKind.i64.wrap ((zp.length : Int) + 1) = ((zp.length + 1 : Nat) : Int) := wadd1 (by simp at hx; omega)
                have zst : ∀ v : Value, 0 + zp.length * 1 + [v].length ≤ (iL (sp99 zp.length (w :: zq))).length := fun v => by rw [iL_len, sp99_len]; simp
                (repeat' ((conv => whnf); first | refine goA ?_ | (conv in (nth _ _) => (change nth _ (0 + pre.length * 1); rw [hn6])) | refine U.storeC_p (zst _) ?_ | refine goB ?_ | refine U.lw_c (fun hb => ?_) (fun hb => ?_)))
                (conv => whnf)
                refine ⟨(zp ++ [w], zq), by simp [z1], by simp, ?_⟩
                dsimp only
                rw [show (zp ++ [w]).length = zp.length + 1 by simp, sp99_set zp.length w zq]
                refine Cov.slots (s := stS p (imS (sL [])) (imS (gL (r0 :: rows1))) (0, 0, 0) [] (r0 :: rows1) (spR pre ((y :: ys) :: rest)) pre.length (some (.cells 3 ((iL (sp99 zp.length (w :: zq))).take (0 + zp.length * 1) ++ [.int .i64 99] ++ (iL (sp99 zp.length (w :: zq))).drop (0 + zp.length * 1 + [Value.int .i64 99].length)) true))) (Nat.le_refl _) ?_
                exact ⟨rfl, rfl, rfl, rfl, rfl, rfl, rfl, rfl, congrArg some (congrArg (Value.int .i64) zw), trivial⟩
        · have hq2 : ((((List.map Value.string ns1).length + 1 : Nat) : Int) != (((sL (n0 :: ns1)).length : Nat) : Int)) = false := by rw [sL_len, List.length_map]; simp
          (repeat' ((conv => whnf); first | refine goD ?_ | refine U.drawX_p (D := U.propX) 29 [] (by decide +kernel) (by decide +kernel) ?_ | refine U.lw_c (fun hb => ?_) (fun hb => ?_)))
          (conv => whnf)
          refine SoundAt.r cA ⟨kp, trivial⟩ (Nat.zero_le _) (tellO p (imS (sL (n0 :: ns1))) (imS (gL (r0 :: rows1))) (0, 0, 0) (n0 :: ns1) (some (.cells 9 (spN 0 (n0 :: ns1)) true)) (spN_0 n0 ns1) (r0 :: rows1) hn) ?_
          (repeat' ((conv => whnf); first | refine goA ?_ | refine U.ob_c eqOkF ?_ | refine U.onV_p (eqFlt 0 0 0) ?_ | refine U.SoundC.uF cR rfl (.cons (.aggL (.cons (.ofRow (T := 9) (Nat.zero_le _) (spN_0 n0 ns1) sL_1 (cleanSC _)) (.cons (frzS (rowsB (p := p) (w1 := imS (sL (n0 :: ns1))) (w2 := imS (gL (r0 :: rows1))) (f := (0, 0, 0)) (ns := (n0 :: ns1)) (names := (some (.cells 9 (spN 0 (n0 :: ns1)) true))) (rows := (r0 :: rows1)) hn) rfl) .nil))) .nil) ?_ | refine goB ?_ | refine U.SoundAt.u (cF) (by (repeat (first | exact trivial | ((conv => whnf); first | exact trivial | refine And.intro (by first | assumption | exact cleanI _ | exact cleanIL _ | exact cleanBL _ | exact NoNm.flat _ rfl) ?_)))) ?_ | refine U.SoundAt.u (cQ) (by (repeat (first | exact trivial | ((conv => whnf); first | exact trivial | refine And.intro (by first | assumption | exact cleanI _ | exact cleanIL _ | exact cleanBL _ | exact NoNm.flat _ rfl) ?_)))) ?_ | refine U.SoundC.u (cF) (by (repeat (first | exact trivial | ((conv => whnf); first | exact trivial | refine And.intro (by first | assumption | exact cleanI _ | exact cleanIL _ | exact cleanBL _ | exact NoNm.flat _ rfl) ?_)))) ?_ | refine U.SoundC.u (cQ) (by (repeat (first | exact trivial | ((conv => whnf); first | exact trivial | refine And.intro (by first | assumption | exact cleanI _ | exact cleanIL _ | exact cleanBL _ | exact NoNm.flat _ rfl) ?_)))) ?_ | refine U.drawX_p (D := U.propX) 29 [] (by decide +kernel) (by decide +kernel) ?_ | refine U.lw_c (fun hb => ?_) (fun hb => ?_)))
          (conv => whnf)
          refine loop_inv (α := List ByteArray × List ByteArray) (fun x => x.1 ++ x.2 = n0 :: ns1) (fun x => (mkF [(1, .pointer (some ⟨0, 0, none⟩)), (2, .bool false), (3, .pointer (some ⟨1, 0, none⟩)), (4, .pointer (some ⟨2, 0, none⟩)), (5, .pointer (some ⟨3, 0, none⟩)), (6, .int .i64 t), (7, .pointer (some ⟨65537, 0, none⟩)), (9, .int .i64 x.1.length)], stB p (imS (sL (n0 :: ns1))) (imS (gL (r0 :: rows1))) (0, 0, 0) (n0 :: ns1) (some (.cells 9 (spN x.1.length x.2) true)) (r0 :: rows1))) (fun x => x.2.length) ([], n0 :: ns1) rfl (Cov.slots (s := stB p (imS (sL (n0 :: ns1))) (imS (gL (r0 :: rows1))) (0, 0, 0) (n0 :: ns1) (some (.cells 9 (spN 0 (n0 :: ns1)) true)) (r0 :: rows1)) (Nat.le_refl _) ⟨rfl, rfl, rfl, rfl, rfl, rfl, rfl, rfl, trivial⟩) ?_
          rintro ⟨npre, nrest⟩ m1
          dsimp only at m1
          dsimp only
          rcases nrest with _ | ⟨x, nrest⟩
          · rw [List.append_nil] at m1
            have mb : decide (((npre.length : Nat) : Int) < (((List.map Value.string ns1).length + 1 : Nat) : Int)) = false := decide_eq_false (by rw [List.length_map, m1]; simp)
            (repeat' ((conv => whnf); first | refine goD ?_ | refine U.lw_c (fun hb => ?_) (fun hb => ?_)))
            (conv => whnf)
            refine loop_inv (α := List (List Int) × List (List Int)) (fun x => x.1 ++ x.2 = (r0 :: rows1)) (fun x => (mkF [(1, .pointer (some ⟨0, 0, none⟩)), (2, .bool false), (3, .pointer (some ⟨1, 0, none⟩)), (4, .pointer (some ⟨2, 0, none⟩)), (5, .pointer (some ⟨3, 0, none⟩)), (6, .int .i64 t), (7, .pointer (some ⟨65537, 0, none⟩)), (10, .int .i64 x.1.length)], stS p (imS (sL (n0 :: ns1))) (imS (gL (r0 :: rows1))) (0, 0, 0) (n0 :: ns1) (r0 :: rows1) (spR x.1 x.2) x.1.length (bAt x.2))) (fun x => x.2.length) ([], (r0 :: rows1)) rfl (cov_S (nm := nmO) (rv := (r0 :: rows1)) (rows := (r0 :: rows1)) (cleanSL _) (cleanGL _) (rowsB (p := p) (w1 := imS (sL (n0 :: ns1))) (w2 := imS (gL (r0 :: rows1))) (f := (0, 0, 0)) (ns := (n0 :: ns1)) (names := (some (.cells 9 (spN npre.length []) true))) (rows := (r0 :: rows1)) hn) (by simp) hn 0 (bAt (r0 :: rows1)) (bAt_eq [] (r0 :: rows1)) (fun j _ _ => by unfold nmO; omega) rfl rfl rfl rfl rfl (.cons rfl (.P rfl) (.cons rfl (.F rfl rfl) (.cons rfl (.P rfl) (.cons rfl (.P rfl) (.cons rfl (.P rfl) (.cons rfl .I (.cons rfl (.P rfl) (.cons rfl .I .nil))))))))) ?_
            rintro ⟨pre, rest⟩ p1
            dsimp only at p1
            dsimp only
            rcases rest with _ | ⟨x, rest⟩
            · rw [List.append_nil] at p1
              have yb : decide (((pre.length : Nat) : Int) < ((rows1.length + 1 : Nat) : Int)) = false := decide_eq_false (by rw [p1]; simp)
              (repeat' ((conv => whnf); first | refine goD ?_ | refine U.lw_c (fun hb => ?_) (fun hb => ?_)))
              (conv => whnf)
              exact ⟨t + 1, by omega, by omega, (Cov.renI rfl rfl rfl rfl (.cons rfl (.row _ _ _ _ (cleanPr_cells p) rfl) (.cons rfl (.row _ _ _ _ (cleanPr_cells p) rfl) (.cons rfl (.cells _ _ _ _ (.cons (.clean _ _ (cleanSL _) rfl) (.cons (.clean _ _ (cleanGL _) rfl) .nil))) (.cons rfl (.cells _ _ _ _ (.cons .I (.cons .I (.cons .I .nil)))) .nil)))) (.cons rfl (.P rfl) (.cons rfl (.F rfl rfl) (.cons rfl (.P rfl) (.cons rfl (.P rfl) (.cons rfl (.P rfl) (.cons rfl (.clean _ _ (cleanI _) (congrArg (Value.int .i64) (hw.symm))) .nil)))))))⟩
            · have hpl : pre.length + rest.length + 1 = rows1.length + 1 := by
                have := congrArg List.length p1
                simp at this
                omega
              have yb1 : decide (((pre.length : Nat) : Int) < ((rows1.length + 1 : Nat) : Int)) = true := decide_eq_true (by omega)
              have yc1 : pre.length.blt (rows1.length + 1) = true := bLe (by omega)
              have yb := U.lt_yes gL_map pre (x) rest; have yc := U.blt_yes gL_map pre (x) rest; have yn := U.nth_at gL_map pre (x) rest; have yw := U.len_snoc (pre := pre) (x := x) (post := rest) ((Nat.le_trans (show _ ≤ 65000 by rw [p1]; exact hn) (by decide)))
              rw [p1] at yb yc yn
              have hx := hrw x (by rw [← p1]; simp)
              have hn6 := cells_nth pre rest x
              have kx := cleanIL x
              have cD : DenU Try.prog [] 12 [imS (iL x), imS (iL x)] (.bool true) := by
                have := same_d x x (Nat.le_trans hx (by decide))
                rwa [decide_eq_true rfl] at this
              rcases x with _ | ⟨y, ys⟩
              · (repeat' ((conv => whnf); first | refine goA ?_ | (conv in (nth _ _) => (change nth _ (0 + pre.length * 1); rw [hn6])) | refine U.SoundC.uF cD rfl (.cons .nil (.cons (.clean _ kx) .nil)) ?_ | refine goB ?_ | refine U.drawX_p (D := U.propX) 12 [] (by decide +kernel) (by decide +kernel) ?_ | refine U.lw_c (fun hb => ?_) (fun hb => ?_)))
                (conv => whnf)
                refine loop_inv (α := Unit) (fun _ => True) (fun _ => (mkF [(1, .pointer (some ⟨0, 0, none⟩)), (2, .bool false), (3, .pointer (some ⟨1, 0, none⟩)), (4, .pointer (some ⟨2, 0, none⟩)), (5, .pointer (some ⟨3, 0, none⟩)), (6, .int .i64 t), (7, .pointer (some ⟨65537, 0, none⟩)), (10, .int .i64 pre.length), (11, .int .i64 0)], stS p (imS (sL (n0 :: ns1))) (imS (gL (r0 :: rows1))) (0, 0, 0) (n0 :: ns1) (r0 :: rows1) (spR pre ([] :: rest)) pre.length none)) (fun _ => 0) () trivial (Cov.slots (s := stS p (imS (sL (n0 :: ns1))) (imS (gL (r0 :: rows1))) (0, 0, 0) (n0 :: ns1) (r0 :: rows1) (spR pre ([] :: rest)) pre.length none) (Nat.le_refl _) ⟨rfl, rfl, rfl, rfl, rfl, rfl, rfl, rfl, rfl, trivial⟩) ?_
                rintro _ _
                (repeat' ((conv => whnf); first | refine goA ?_ | (conv in (nth _ _) => (change nth _ (0 + pre.length * 1); rw [hn6])) | refine goB ?_ | refine U.lw_c (fun hb => ?_) (fun hb => ?_)))
                (conv => whnf)
                obtain ⟨z, hz⟩ : ∃ z : List Int, z = [] := ⟨_, rfl⟩
                exact ⟨(pre ++ [z], rest), by rw [hz]; simp [p1], by simp, cov_S (nm := nmS pre.length) (rv := (r0 :: rows1)) (rows := spR (pre ++ [z]) rest) (cleanSL _) (cleanGL _) (rowsE (pre := pre) (rest := rest) (x := z) (by rw [hz, p1]; exact hn) (by rw [hz]; rfl) (fun h => absurd hz h) (by rw [hz]; exact fun p => rfl)) (by simp [spR]) (by rw [spR_len, List.append_assoc, hz]; exact (show (pre ++ [] :: rest).length ≤ 65000 by rw [p1]; exact hn)) (pre ++ [z]).length (bAt rest) (bAt_eq (pre ++ [z]) rest) (fun j _ _ => by unfold nmS; split <;> omega) rfl rfl rfl rfl rfl (.cons rfl (.P rfl) (.cons rfl (.F rfl rfl) (.cons rfl (.P rfl) (.cons rfl (.P rfl) (.cons rfl (.P rfl) (.cons rfl .I (.cons rfl (.P rfl) (.cons rfl (.clean _ _ (cleanI _) (congrArg (Value.int .i64) ((by rw [yw]; simp)))) .nil))))))))⟩
              · (repeat' ((conv => whnf); first | refine goA ?_ | (conv in (nth _ _) => (change nth _ (0 + pre.length * 1); rw [hn6])) | refine U.SoundC.uF cD rfl (.cons (.ofRow (T := 3) (Nat.zero_le _) (rowI_eq y ys) iL_1 (cleanIC _)) (.cons (.clean _ kx) .nil)) ?_ | refine goB ?_ | refine U.drawX_p (D := U.propX) 12 [] (by decide +kernel) (by decide +kernel) ?_ | refine U.lw_c (fun hb => ?_) (fun hb => ?_)))
                (conv => whnf)
                refine loop_inv (α := List Int × List Int) (fun z => z.1 ++ z.2 = y :: ys) (fun z => (mkF [(1, .pointer (some ⟨0, 0, none⟩)), (2, .bool false), (3, .pointer (some ⟨1, 0, none⟩)), (4, .pointer (some ⟨2, 0, none⟩)), (5, .pointer (some ⟨3, 0, none⟩)), (6, .int .i64 t), (7, .pointer (some ⟨65537, 0, none⟩)), (10, .int .i64 pre.length), (11, .int .i64 z.1.length)], stS p (imS (sL (n0 :: ns1))) (imS (gL (r0 :: rows1))) (0, 0, 0) (n0 :: ns1) (r0 :: rows1) (spR pre ((y :: ys) :: rest)) pre.length (some (.cells 3 (iL (sp99 z.1.length z.2)) true)))) (fun z => z.2.length) ([], y :: ys) rfl (Cov.slots (s := stS p (imS (sL (n0 :: ns1))) (imS (gL (r0 :: rows1))) (0, 0, 0) (n0 :: ns1) (r0 :: rows1) (spR pre ((y :: ys) :: rest)) pre.length (some (.cells 3 (iL (y :: ys)) true))) (Nat.le_refl _) ⟨rfl, rfl, rfl, rfl, rfl, rfl, rfl, rfl, rfl, trivial⟩) ?_
                rintro ⟨zp, zq⟩ z1
                dsimp only at z1
                dsimp only
                rcases zq with _ | ⟨w, zq⟩
                · rw [List.append_nil] at z1
                  have zb : decide (((zp.length : Nat) : Int) < (((List.map (Value.int .i64) ys).length + 1 : Nat) : Int)) = false := decide_eq_false (by rw [z1]; simp)
                  (repeat' ((conv => whnf); first | refine goA ?_ | (conv in (nth _ _) => (change nth _ (0 + pre.length * 1); rw [hn6])) | refine goB ?_ | refine U.lw_c (fun hb => ?_) (fun hb => ?_)))
                  (conv => whnf)
                  exact ⟨(pre ++ [y :: ys], rest), by simp [p1], by simp, cov_S (nm := nmS pre.length) (rv := (r0 :: rows1)) (rows := spR (pre ++ [y :: ys]) rest) (cleanSL _) (cleanGL _) (rowsE (by rw [p1]; exact hn) rfl (fun h => by rw [← z1]; simp [sp99]; rfl) (fun p => rfl)) (by simp [spR]) (by rw [spR_len, List.append_assoc]; exact (show (pre ++ (y :: ys) :: rest).length ≤ 65000 by rw [p1]; exact hn)) (pre ++ [y :: ys]).length (bAt rest) (bAt_eq (pre ++ [y :: ys]) rest) (fun j _ _ => by unfold nmS; split <;> omega) rfl rfl rfl rfl rfl (.cons rfl (.P rfl) (.cons rfl (.F rfl rfl) (.cons rfl (.P rfl) (.cons rfl (.P rfl) (.cons rfl (.P rfl) (.cons rfl .I (.cons rfl (.P rfl) (.cons rfl (.clean _ _ (cleanI _) (congrArg (Value.int .i64) (yw.symm))) .nil))))))))⟩
                · have hzl : zp.length + zq.length = ys.length := by
                    have := congrArg List.length z1
                    simp at this
                    omega
                  have zb1 : decide (((zp.length : Nat) : Int) < (((List.map (Value.int .i64) ys).length + 1 : Nat) : Int)) = true := decide_eq_true (by rw [List.length_map]; omega)
                  have zc1 : zp.length.blt ((List.map (Value.int .i64) ys).length + 1) = true := bLe (by rw [List.length_map]; omega)
                  have zw : IntKind.i64.wrap ((zp.length : Int) + 1) = ((zp.length + 1 : Nat) : Int) := wadd1 (by simp at hx; omega)
                  have zst : ∀ v : Value, 0 + zp.length * 1 + [v].length ≤ (iL (sp99 zp.length (w :: zq))).length := fun v => by rw [iL_len, sp99_len]; simp
                  (repeat' ((conv => whnf); first | refine goA ?_ | (conv in (nth _ _) => (change nth _ (0 + pre.length * 1); rw [hn6])) | refine U.storeC_p (zst _) ?_ | refine goB ?_ | refine U.lw_c (fun hb => ?_) (fun hb => ?_)))
                  (conv => whnf)
                  refine ⟨(zp ++ [w], zq), by simp [z1], by simp, ?_⟩
                  dsimp only
                  rw [show (zp ++ [w]).length = zp.length + 1 by simp, sp99_set zp.length w zq]
                  refine Cov.slots (s := stS p (imS (sL (n0 :: ns1))) (imS (gL (r0 :: rows1))) (0, 0, 0) (n0 :: ns1) (r0 :: rows1) (spR pre ((y :: ys) :: rest)) pre.length (some (.cells 3 ((iL (sp99 zp.length (w :: zq))).take (0 + zp.length * 1) ++ [.int .i64 99] ++ (iL (sp99 zp.length (w :: zq))).drop (0 + zp.length * 1 + [Value.int .i64 99].length)) true))) (Nat.le_refl _) ?_
                  exact ⟨rfl, rfl, rfl, rfl, rfl, rfl, rfl, rfl, congrArg some (congrArg (Value.int .i64) zw), trivial⟩
          · have mb := U.lt_yes sL_map npre (x) nrest; have mc := U.blt_yes sL_map npre (x) nrest; have mn := U.nth_at sL_map npre (x) nrest; have mw := U.len_snoc (pre := npre) (x := x) (post := nrest) ((Nat.le_trans (show _ ≤ 300 by rw [m1]; exact hlN) (by decide)))
            rw [m1] at mb mc mn
            have hml : npre.length + nrest.length = ns1.length := by
              have := congrArg List.length m1
              simp at this
              omega
            have mb1 : decide (((npre.length : Nat) : Int) < (((List.map Value.string ns1).length + 1 : Nat) : Int)) = true := decide_eq_true (by rw [List.length_map]; omega)
            have mc1 : npre.length.blt ((List.map Value.string ns1).length + 1) = true := bLe (by rw [List.length_map]; omega)
            have hxx : (!(x.toList == x.toList)) = false := by simp
            have mn2 := spN_nth npre.length x nrest
            have mst : ∀ v : Value, 0 + npre.length * 1 + [v].length ≤ (spN npre.length (x :: nrest)).length := fun v => by rw [spN_len]; simp
            (repeat' ((conv => whnf); first | refine goA ?_ | (conv in (nth _ _) => (change nth _ (0 + npre.length * 1); rw [mn2])) | refine U.storeC_p (mst _) ?_ | refine goB ?_ | refine U.drawX_p (D := U.propX) 11 [] (by decide +kernel) (by decide +kernel) ?_ | refine U.lw_c (fun hb => ?_) (fun hb => ?_)))
            (conv => whnf)
            refine ⟨(npre ++ [x], nrest), by simp [m1], by simp, ?_⟩
            dsimp only
            rw [show (npre ++ [x]).length = npre.length + 1 by simp, spN_set npre.length x nrest]
            exact Cov.slots (s := stB p (imS (sL (n0 :: ns1))) (imS (gL (r0 :: rows1))) (0, 0, 0) (n0 :: ns1) (some (.cells 9 ((spN npre.length (x :: nrest)).take (0 + npre.length * 1) ++ [spV] ++ (spN npre.length (x :: nrest)).drop (0 + npre.length * 1 + [spV].length)) true)) (r0 :: rows1)) (Nat.le_refl _) ⟨rfl, rfl, rfl, rfl, rfl, rfl, rfl, congrArg some (congrArg (Value.int .i64) (by rw [mw]; simp)), trivial⟩
      · have g1 : decide ((t : Int) < 2) = false := decide_eq_false (by omega)
        (repeat' ((conv => whnf); first | refine goD ?_ | refine U.SoundAt.u (cG) (by (repeat (first | exact trivial | ((conv => whnf); first | exact trivial | refine And.intro (by first | assumption | exact cleanI _ | exact cleanIL _ | exact cleanBL _ | exact NoNm.flat _ rfl) ?_)))) ?_ | refine U.SoundAt.u (cS) (by (repeat (first | exact trivial | ((conv => whnf); first | exact trivial | refine And.intro (by first | assumption | exact cleanI _ | exact cleanIL _ | exact cleanBL _ | exact NoNm.flat _ rfl) ?_)))) ?_ | refine U.SoundAt.u (cw) (by (repeat (first | exact trivial | ((conv => whnf); first | exact trivial | refine And.intro (by first | assumption | exact cleanI _ | exact cleanIL _ | exact cleanBL _ | exact NoNm.flat _ rfl) ?_)))) ?_ | refine U.SoundC.u (cG) (by (repeat (first | exact trivial | ((conv => whnf); first | exact trivial | refine And.intro (by first | assumption | exact cleanI _ | exact cleanIL _ | exact cleanBL _ | exact NoNm.flat _ rfl) ?_)))) ?_ | refine U.SoundC.u (cS) (by (repeat (first | exact trivial | ((conv => whnf); first | exact trivial | refine And.intro (by first | assumption | exact cleanI _ | exact cleanIL _ | exact cleanBL _ | exact NoNm.flat _ rfl) ?_)))) ?_ | refine U.SoundC.u (cw) (by (repeat (first | exact trivial | ((conv => whnf); first | exact trivial | refine And.intro (by first | assumption | exact cleanI _ | exact cleanIL _ | exact cleanBL _ | exact NoNm.flat _ rfl) ?_)))) ?_ | refine U.drawX_p (D := U.propX) 8 [] (by decide +kernel) (by decide +kernel) ?_ | refine U.lw_c (fun hb => ?_) (fun hb => ?_)))
        (conv => whnf)
        exact .same (.flat _ rfl) rfl
end Go.Proofs.Ytphbcejnnoijfaa
