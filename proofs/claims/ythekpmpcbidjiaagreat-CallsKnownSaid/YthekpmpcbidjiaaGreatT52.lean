
import Derived.Test.YthekpmpcbidjiaaGreatT42
import Derived.Test.YthekpmpcbidjiaaGreatT49
import Derived.Test.YthekpmpcbidjiaaGreatT51
namespace Go.Proofs.YthekpmpcbidjiaaGreat
open Go Go.RowKit Go.Sort U
set_option linter.unusedVariables false
set_option linter.unusedSimpArgs false
set_option maxRecDepth 100000
set_option maxHeartbeats 4000000
theorem es_callees {g : Gz} (hr : rightG g = true) (u w : Nat) : ES (calleesR g) u w ↔ ES g.st u w := by
  unfold ES
  by_cases hu : u < g.st.length
  · rw [show (calleesR g).getD u [] = rowR g.nm.length g.st[u] by simp [calleesR, hu], show g.st.getD u [] = g.st[u] by simp [hu]]
    exact rowR_iff hr (List.getElem_mem hu) _
  · rw [show (calleesR g).getD u [] = [] by simp [calleesR, hu], show g.st.getD u [] = [] by simp [hu]]
theorem okB_callees {g : Gz} (hg : okG g) (hr : rightG g = true) : okB (calleesR g) := fun r hm x hx => by
  have hr2 := hr
  simp only [rightG, Bool.and_eq_true, decide_eq_true_eq] at hr2
  have h1 := callees_ok g hr2.1 (Nat.le_trans hg.1 (by unfold maxI; omega)) r hm
  exact h1.2.2 x hx
theorem ring_one {g : Gz} (hg : okG g) (hr : rightG g = true) : (ordG g).2 = true ↔ ∀ u, u < (calleesR g).length → ¬ Cyc (calleesR g) u := by
  rw [ordG, if_pos hr, ← order_callees hr]
  exact order_cyc (okB_callees hg hr)
theorem idx_snoc {pre rest : List Int} {x : Int} (hn : (pre ++ x :: rest).Nodup) : (pre ++ x :: rest).idxOf x = pre.length := by
  have : x ∉ pre := fun h => (List.nodup_append.1 hn).2.2 x h x (by simp) rfl
  rw [List.idxOf_append, if_neg this, List.idxOf_cons_self]; simp
theorem ord_all {g : Gz} (hok : (ordG g).2 = true) {u : Nat} (hu : u < g.st.length) : (u : Int) ∈ (ordG g).1 := by
  have hl := ordG_len hok
  have hO := ordG_ok g
  by_cases hm : (u : Int) ∈ (ordG g).1
  · exact hm
  · exfalso
    have h3 : ((u : Int) :: (ordG g).1).Nodup := List.nodup_cons.2 ⟨hm, hO.nd⟩
    have h4 := nodup_le (n := g.st.length) h3 fun t ht => by
      rcases List.mem_cons.1 ht with rfl | ht
      · exact ⟨u, hu, rfl⟩
      · exact hO.inn t ht
    simp at h4
    omega
theorem inl_ones {g : Gz} (hok : (ordG g).2 = true) : inlV g (List.replicate g.st.length 1) = onesF g := by
  simp [inlV, hok, onesF]
theorem slV_row (b : Nat) (l : List Int) : slV b l = rowS b (uL l) := by
  cases l with
  | nil => rfl
  | cons x l => simp [slV, rowS, uL]
theorem rings_d (g : Gz) (hg : g.st.length ≤ maxI ∧ ∀ r ∈ g.st, r.length ≤ maxI) (hW : DenU Tryz.prog [] 7 [] (.bool true)) : DenU Tryz.prog [] 5 [encG g] (.bool true) := by
  refine denU_of_sound hmixU fun Ts => SoundAt.body hmixU Tryz.func5 rfl rfl rfl 0 ?_
  have cF := few_d g hg
  have cg := cleanG g
  cases hf : fewB g
  · rw [hf] at cF
    obtain ⟨nm, st⟩ := g
    (repeat' ((conv => whnf); first | refine goD ?_ | refine U.SoundAt.u (cF) clN ?_ | refine U.SoundAt.u (hW) clN ?_ | refine U.SoundC.u (cF) clN ?_ | refine U.SoundC.u (hW) clN ?_ | refine U.lw_c (fun hb => ?_) (fun hb => ?_)))
    all_goals (conv => whnf)
    all_goals exact .clean _ (.flat _ rfl)
  rw [hf] at cF
  obtain ⟨b1, b2, b3, b4⟩ := few_bounds hf
  replace hg : okG g := ⟨by omega, hg⟩
  have cR := cright_d g hg
  cases hr : rightG g
  · rw [hr] at cR
    obtain ⟨nm, st⟩ := g
    (repeat' ((conv => whnf); first | refine goD ?_ | refine U.SoundAt.u (cF) clN ?_ | refine U.SoundAt.u (cR) clN ?_ | refine U.SoundAt.u (hW) clN ?_ | refine U.SoundC.u (cF) clN ?_ | refine U.SoundC.u (cR) clN ?_ | refine U.SoundC.u (hW) clN ?_ | refine U.lw_c (fun hb => ?_) (fun hb => ?_)))
    all_goals (conv => whnf)
    all_goals exact .clean _ (.flat _ rfl)
  rw [hr] at cR
  have hst : g.st.length ≤ 29000 := by omega
  have cO := order_g g hg hst b4
  have cN := ring_e g hg hst b4 hr
  have h1 := ring_one hg hr
  have hbk := okB_callees hg hr
  have hcl : (calleesR g).length = g.st.length := by simp [calleesR]
  have hOk := ordG_ok g
  have hec := es_callees hr
  cases hok : (ordG g).2
  · -- a ring
    rw [hok] at h1
    have hOG : ordG g = ([], false) := by
      unfold ordG at hok ⊢
      rw [if_pos hr] at hok ⊢
      unfold orderR at hok ⊢
      by_cases h2 : (greedy g.st g.st.length []).length < g.st.length
      · rw [if_pos h2]
      · rw [if_neg h2] at hok; cases hok
    rw [hOG] at cO
    replace cO : DenU Tryz.prog [] 12 [encG g] (.tuple ⟨[imS (iL []), .bool false]⟩) := cO
    obtain ⟨nm, st⟩ := g
    dsimp only at b1 b2 b3 b4 hst hcl hec
    (repeat' ((conv => whnf); first | refine goA ?_ | refine U.SoundAt.e cN clN ?_ | refine goB ?_ | refine U.SoundAt.u (cF) clN ?_ | refine U.SoundAt.u (cR) clN ?_ | refine U.SoundAt.u (cO) clN ?_ | refine U.SoundAt.u (hW) clN ?_ | refine U.SoundC.u (cF) clN ?_ | refine U.SoundC.u (cR) clN ?_ | refine U.SoundC.u (cO) clN ?_ | refine U.SoundC.u (hW) clN ?_ | refine U.lw_c (fun hb => ?_) (fun hb => ?_)))
    rintro u hq
    rcases hq with ⟨_, hno⟩ | ⟨v, way, L, rfl, hv, hcy, hmin, hfar, hL⟩
    · exact absurd (h1.2 hno) (by simp)
    have hLl : L.length ≤ st.length := by rw [← hcl]; exact nodup_len hL.nd hL.lt
    have hLne : L ≠ [] := fun e => by have := hL.hd; rw [e] at this; simp at this
    have hLp : 0 < L.length := List.length_pos_iff.2 hLne
    have g1 : (!(false == (((iL (nL L)).length : Int) == 0))) = false := by rw [iL_len, nL_len]; simp [hLne]
    (repeat' ((conv => whnf); first | refine goD ?_ | refine U.lw_c (fun hb => ?_) (fun hb => ?_)))
    (conv => whnf)
    refine loop_inv (α := Nat) (fun i => i ≤ L.length) (fun i => (mkF [(1, .pointer (some ⟨0, 0, none⟩)), (2, .bool false), (4, .bool false), (5, imS (iL (nL L))), (6, .int .i64 i)], ⟨mkO [(0, some (.cells 25 [imS (sL nm), imS (gL st)] false))], 1, 0, 0⟩)) (fun i => L.length - i) 0 (Nat.zero_le _) (Cov.renI rfl rfl rfl rfl (.cons rfl (.row _ _ _ _ (cleanG_cells ⟨nm, st⟩) rfl) .nil) (.cons rfl (.P rfl) (.cons rfl (.F rfl rfl) (.cons rfl (.F rfl rfl) (.cons rfl (.clean _ _ (cleanIL _) rfl) (.cons rfl .I .nil)))))) ?_
    rintro i hi
    dsimp only
    rcases Nat.lt_or_ge i L.length with hil | hil
    · have g2 : decide ((i : Int) < ((iL (nL L)).length : Int)) = true := by rw [iL_len, nL_len]; simp; omega
      obtain ⟨a, ha⟩ : ∃ a, L[i]? = some a := ⟨_, List.getElem?_eq_getElem hil⟩
      have han : nth (iL (nL L)) i = some (.int .i64 (a : Int)) := by rw [nth_eq, iL, nL]; simp [ha]
      have hib : i.blt (iL (nL L)).length = true := by rw [iL_len, nL_len]; exact bLe hil
      have hal := hL.lt a (List.mem_of_getElem? ha)
      obtain ⟨nx, hx, hes⟩ : ∃ nx, L[(i + 1) % L.length]? = some nx ∧ ES st a nx := by
        rcases Nat.lt_or_ge (i + 1) L.length with h2 | h2
        · rw [Nat.mod_eq_of_lt h2]
          obtain ⟨b, hb⟩ : ∃ b, L[i + 1]? = some b := ⟨_, List.getElem?_eq_getElem h2⟩
          exact ⟨b, hb, (hec a b).1 (hL.st i a b ha hb).1⟩
        · rw [show i + 1 = L.length by omega, Nat.mod_self]
          refine ⟨v, hL.hd, (hec a v).1 (hL.cl a ?_).1⟩
          rw [List.getLast?_eq_getElem?, show L.length - 1 = i by omega]
          exact ha
      have hml : (i + 1) % L.length < L.length := Nat.mod_lt _ hLp
      have hxn : nth (iL (nL L)) ((i + 1) % L.length) = some (.int .i64 (nx : Int)) := by rw [nth_eq, iL, nL]; simp [hx]
      have hxb : ((i + 1) % L.length).blt (iL (nL L)).length = true := by rw [iL_len, nL_len]; exact bLe hml
      have hz : decide (((iL (nL L)).length : Int) = 0) = false := by rw [iL_len, nL_len]; simp [hLne]
      have iw := wadd1 (i := i) (by omega)
      have hrem : intO .rem .i64 (IntKind.i64.wrap ((i : Int) + 1)) ((iL (nL L)).length : Int) = some (.int .i64 (((i + 1) % L.length : Nat) : Int)) := by
        unfold intO
        rw [hz, iw, iL_len, nL_len, ← Int.ofNat_tmod]
      obtain ⟨row, hrw⟩ : ∃ row, st[a]? = some row := ⟨_, List.getElem?_eq_getElem (by omega)⟩
      have hrd : st.getD a [] = row := by simp [hrw]
      have hrl := hg.2.2 row (List.mem_of_getElem? hrw)
      have hab : a.blt (gL st).length = true := by rw [gL_len]; exact bLe (by omega)
      have hax : nth (gL st) a = some (imS (iL row)) := by rw [nth_eq, gL]; simp [hrw]
      have hmem : (nx : Int) ∈ row := by rw [← hrd]; exact hes
      (repeat' ((conv => whnf); first | refine goA ?_ | (rw [hrem]; dsimp only) | refine goB ?_ | refine U.drawX_p (D := U.propX) 11 [] (by decide +kernel) (by decide +kernel) ?_ | refine U.lw_c (fun hb => ?_) (fun hb => ?_)))
      (conv => whnf)
      refine loop_inv (α := List Int × List Int) (fun y => y.1 ++ y.2 = row) (fun y => (mkF [(1, .pointer (some ⟨0, 0, none⟩)), (2, .bool false), (4, .bool false), (5, imS (iL (nL L))), (6, .int .i64 i), (7, .int .i64 nx), (8, .bool (decide ((nx : Int) ∈ y.1))), (9, .int .i64 y.1.length)], ⟨mkO [(0, some (.cells 25 [imS (sL nm), imS (gL st)] false))], 1, 0, 0⟩)) (fun y => y.2.length) ([], row) rfl (Cov.renI rfl rfl rfl rfl (.cons rfl (.row _ _ _ _ (cleanG_cells ⟨nm, st⟩) rfl) .nil) (.cons rfl (.P rfl) (.cons rfl (.F rfl rfl) (.cons rfl (.F rfl rfl) (.cons rfl (.clean _ _ (cleanIL _) rfl) (.cons rfl .I (.cons rfl .I (.cons rfl (.F rfl rfl) (.cons rfl .I .nil))))))))) ?_
      rintro ⟨p, q⟩ p3
      dsimp only at p3
      dsimp only
      rcases q with _ | ⟨t, q⟩
      · rw [List.append_nil] at p3
        subst p3
        have h4b := U.lt_no iL_map p
        rw [decide_eq_true hmem]
        (repeat' ((conv => whnf); first | refine goD ?_ | refine U.drawX_p (D := U.propX) 11 [] (by decide +kernel) (by decide +kernel) ?_ | refine U.drawX_p (D := U.propX) 17 [] (by decide +kernel) (by decide +kernel) ?_ | refine U.lw_c (fun hb => ?_) (fun hb => ?_)))
        (conv => whnf)
        refine loop_inv (α := Nat) (fun j => j ≤ i) (fun j => (mkF [(1, .pointer (some ⟨0, 0, none⟩)), (2, .bool false), (4, .bool false), (5, imS (iL (nL L))), (6, .int .i64 i), (7, .int .i64 nx), (8, .bool true), (10, .int .i64 j)], ⟨mkO [(0, some (.cells 25 [imS (sL nm), imS (gL st)] false))], 1, 0, 0⟩)) (fun j => i - j) 0 (Nat.zero_le _) (Cov.renI rfl rfl rfl rfl (.cons rfl (.row _ _ _ _ (cleanG_cells ⟨nm, st⟩) rfl) .nil) (.cons rfl (.P rfl) (.cons rfl (.F rfl rfl) (.cons rfl (.F rfl rfl) (.cons rfl (.clean _ _ (cleanIL _) rfl) (.cons rfl .I (.cons rfl .I (.cons rfl (.F rfl rfl) (.cons rfl .I .nil))))))))) ?_
        rintro j hj
        dsimp only
        rcases Nat.lt_or_ge j i with hji | hji
        · have g5 : decide ((j : Int) < (i : Int)) = true := by simpa using hji
          obtain ⟨x, hxj⟩ : ∃ x, L[j]? = some x := ⟨_, List.getElem?_eq_getElem (by omega)⟩
          have hjn : nth (iL (nL L)) j = some (.int .i64 (x : Int)) := by rw [nth_eq, iL, nL]; simp [hxj]
          have hjb : j.blt (iL (nL L)).length = true := by rw [iL_len, nL_len]; exact bLe (by omega)
          have hne : x ≠ a := fun e => by
            have h5 := List.pairwise_iff_getElem.1 hL.nd j i (by omega) hil hji
            rw [List.getElem?_eq_getElem (by omega)] at hxj ha
            exact h5 (by rw [Option.some.inj hxj, Option.some.inj ha, e])
          have hnb : (!(((x : Nat) : Int) == (a : Int))) = true := by simp; omega
          have jw := wadd1 (i := j) (by omega)
          (repeat' ((conv => whnf); first | refine goD ?_ | refine U.drawX_p (D := U.propX) 13 [] (by decide +kernel) (by decide +kernel) ?_ | refine U.lw_c (fun hb => ?_) (fun hb => ?_)))
          (conv => whnf)
          refine ⟨j + 1, hji, by omega, ?_⟩
          exact (Cov.renI rfl rfl rfl rfl (.cons rfl (.row _ _ _ _ (cleanG_cells ⟨nm, st⟩) rfl) .nil) (.cons rfl (.P rfl) (.cons rfl (.F rfl rfl) (.cons rfl (.F rfl rfl) (.cons rfl (.clean _ _ (cleanIL _) rfl) (.cons rfl .I (.cons rfl .I (.cons rfl (.clean _ _ (.flat _ rfl) (congrArg Value.bool hnb.symm)) (.cons rfl (.clean _ _ (cleanI _) (congrArg (Value.int .i64) (jw.symm))) .nil)))))))))
        · have g5 : decide ((j : Int) < (i : Int)) = false := by simpa using hji
          (repeat' ((conv => whnf); first | refine goD ?_ | refine U.lw_c (fun hb => ?_) (fun hb => ?_)))
          (conv => whnf)
          refine ⟨i + 1, hil, by omega, ?_⟩
          exact (Cov.renI rfl rfl rfl rfl (.cons rfl (.row _ _ _ _ (cleanG_cells ⟨nm, st⟩) rfl) .nil) (.cons rfl (.P rfl) (.cons rfl (.F rfl rfl) (.cons rfl (.F rfl rfl) (.cons rfl (.clean _ _ (cleanIL _) rfl) (.cons rfl (.clean _ _ (cleanI _) (congrArg (Value.int .i64) (iw.symm))) .nil))))))
      · have hrl2 := hrl
        rw [← p3] at hrl2
        obtain ⟨h4b, h4c, h4n, h4w⟩ := U.at4 iL_map p (t) q (hrl2)
        rw [p3] at h4b h4c h4n
        have hcs : decide ((nx : Int) ∈ p ++ [t]) = (decide ((nx : Int) ∈ p) || (t == (nx : Int))) := by
          rw [Bool.eq_iff_iff]
          simp only [decide_eq_true_eq, List.mem_append, List.mem_singleton, Bool.or_eq_true, beq_iff_eq]
          exact ⟨fun h => h.imp id Eq.symm, fun h => h.imp id Eq.symm⟩
        cases hc : decide ((nx : Int) ∈ p)
        · rw [hc, Bool.false_or] at hcs
          (repeat' ((conv => whnf); first | refine goD ?_ | refine U.drawX_p (D := U.propX) 11 [] (by decide +kernel) (by decide +kernel) ?_ | refine U.drawX_p (D := U.propX) 17 [] (by decide +kernel) (by decide +kernel) ?_ | refine U.lw_c (fun hb => ?_) (fun hb => ?_)))
          (conv => whnf)
          refine ⟨(p ++ [t], q), by rw [← p3]; simp, by simp, ?_⟩
          exact (Cov.renI rfl rfl rfl rfl (.cons rfl (.row _ _ _ _ (cleanG_cells ⟨nm, st⟩) rfl) .nil) (.cons rfl (.P rfl) (.cons rfl (.F rfl rfl) (.cons rfl (.F rfl rfl) (.cons rfl (.clean _ _ (cleanIL _) rfl) (.cons rfl .I (.cons rfl .I (.cons rfl (.clean _ _ (.flat _ rfl) (congrArg Value.bool hcs)) (.cons rfl (.clean _ _ (cleanI _) (congrArg (Value.int .i64) (h4w.symm))) .nil)))))))))
        · rw [hc, Bool.true_or] at hcs
          (repeat' ((conv => whnf); first | refine goD ?_ | refine U.drawX_p (D := U.propX) 11 [] (by decide +kernel) (by decide +kernel) ?_ | refine U.drawX_p (D := U.propX) 17 [] (by decide +kernel) (by decide +kernel) ?_ | refine U.lw_c (fun hb => ?_) (fun hb => ?_)))
          (conv => whnf)
          refine ⟨(p ++ [t], q), by rw [← p3]; simp, by simp, ?_⟩
          exact (Cov.renI rfl rfl rfl rfl (.cons rfl (.row _ _ _ _ (cleanG_cells ⟨nm, st⟩) rfl) .nil) (.cons rfl (.P rfl) (.cons rfl (.F rfl rfl) (.cons rfl (.F rfl rfl) (.cons rfl (.clean _ _ (cleanIL _) rfl) (.cons rfl .I (.cons rfl .I (.cons rfl (.clean _ _ (.flat _ rfl) (congrArg Value.bool hcs)) (.cons rfl (.clean _ _ (cleanI _) (congrArg (Value.int .i64) (h4w.symm))) .nil)))))))))
    · have g2 : decide ((i : Int) < ((iL (nL L)).length : Int)) = false := by rw [iL_len, nL_len]; simp; omega
      (repeat' ((conv => whnf); first | refine goD ?_ | refine U.SoundAt.u (hW) clN ?_ | refine U.SoundC.u (hW) clN ?_ | refine U.lw_c (fun hb => ?_) (fun hb => ?_)))
      (conv => whnf)
      exact .clean _ (.flat _ rfl)
  · rw [hok] at h1
    have hno := h1.1 rfl
    have hol := ordG_len hok
    have hall := fun u (hu : u < g.st.length) => ord_all hok hu
    have hOG : ordG g = ((ordG g).1, true) := Prod.ext rfl hok
    have cI := inlined_v g (List.replicate g.st.length 1) hg hst b4 (fun x hx => by rw [(List.mem_replicate.1 hx).2]; simp [maxU]) (by simp; unfold maxI; omega)
    rw [inl_ones hok] at cI
    have cS := steps_d g hg.2.1 hg.2.2
    have hFl := onesF_len g
    have hFo := onesF_ok g
    rw [hOG] at cO
    replace cO : DenU Tryz.prog [] 12 [encG g] (.tuple ⟨[imS (iL (ordG g).1), .bool true]⟩) := cO
    have hah := fun (v : Nat) (hv : (v : Int) ∈ (ordG g).1) (w : Nat) (e : ES g.st v w) => ord_ahead hOk hv e
    generalize (ordG g).1 = ord at *
    generalize onesF g = F at *
    obtain ⟨nm, st⟩ := g
    dsimp only at b1 b2 b3 b4 hst hcl hec hol hall hFl cO
    have co := cleanIL ord
    (repeat' ((conv => whnf); first | refine goA ?_ | refine U.SoundAt.e cN clN ?_ | refine goB ?_ | refine U.SoundAt.u (cF) clN ?_ | refine U.SoundAt.u (cR) clN ?_ | refine U.SoundAt.u (cO) clN ?_ | refine U.SoundAt.u (hW) clN ?_ | refine U.SoundC.u (cF) clN ?_ | refine U.SoundC.u (cR) clN ?_ | refine U.SoundC.u (cO) clN ?_ | refine U.SoundC.u (hW) clN ?_ | refine U.lw_c (fun hb => ?_) (fun hb => ?_)))
    rintro u hq
    rcases hq with ⟨rfl, _⟩ | ⟨v, way, L, rfl, hv, hcy, _⟩
    · (repeat' ((conv => whnf); first | refine goD ?_ | refine U.lw_c (fun hb => ?_) (fun hb => ?_)))
      (conv => whnf)
      refine loop_inv (α := Unit) (fun _ => True) (fun _ => (mkF [(1, .pointer (some ⟨0, 0, none⟩)), (2, .bool false), (3, imS (iL ord)), (4, .bool true), (5, imS (iL [])), (6, .int .i64 0)], ⟨mkO [(0, some (.cells 25 [imS (sL nm), imS (gL st)] false))], 1, 0, 0⟩)) (fun _ => 0) () trivial (Cov.renI rfl rfl rfl rfl (.cons rfl (.row _ _ _ _ (cleanG_cells ⟨nm, st⟩) rfl) .nil) (.cons rfl (.P rfl) (.cons rfl (.F rfl rfl) (.cons rfl (.clean _ _ (cleanIL _) rfl) (.cons rfl (.F rfl rfl) (.cons rfl (.clean _ _ (cleanIL _) rfl) (.cons rfl (.F rfl rfl) .nil))))))) ?_
      rintro ⟨⟩ _
      dsimp only
      have hmf := mk_full (zs := [.int .i64 0]) (n := (gL st).length) (b := 8) rfl rfl (by decide) (by rw [gL_len]; omega)
      have g6 : decide ((0 : Int) < ((iL []).length : Int)) = false := rfl
      (repeat' ((conv => whnf); first | refine U.ob_c hmf ?_ | refine goA ?_ | refine U.spineC_p ?_ | refine goB ?_ | refine U.lw_c (fun hb => ?_) (fun hb => ?_)))
      (conv => whnf)
      refine loop_inv (α := List Int × List Int × List Int) (fun x => x.1 ++ x.2.1 = ord ∧ x.2.2.length = st.length ∧ ∀ u : Nat, (u : Int) ∈ x.1 → gt0 x.2.2 u = (ord.idxOf (u : Int) : Nat)) (fun x => (mkF [(1, .pointer (some ⟨0, 0, none⟩)), (2, .bool false), (3, imS (iL ord)), (11, .slice (some ⟨1, 0, none⟩) (gL st).length (gL st).length), (12, slV 2 (List.replicate x.1.length 1)), (13, .int .i64 x.1.length)], ⟨mkO [(0, some (.cells 25 [imS (sL nm), imS (gL st)] false)), (1, some (.cells 3 (iL x.2.2) false)), (2, rowO 30 (uL (List.replicate x.1.length 1)))], 3, 0, 0⟩)) (fun x => x.2.1.length) ([], ord, List.replicate st.length 0) ⟨rfl, by simp, fun u h => by cases h⟩ (Cov.renI rfl rfl rfl rfl (.cons rfl (.row _ _ _ _ (cleanG_cells ⟨nm, st⟩) rfl) (.cons rfl (.row _ _ _ _ (cleanIl0 _) ((by rw [iL_zero, gL_len]; rfl))) (.none .nil))) (.cons rfl (.P rfl) (.cons rfl (.F rfl rfl) (.cons rfl (.clean _ _ (cleanIL _) rfl) (.cons rfl (.S rfl rfl rfl) (.cons rfl (.F rfl rfl) (.cons rfl .I .nil))))))) ?_
      rintro ⟨pre, rest, A⟩ ⟨p1, p2, pA⟩
      dsimp only at p1 p2 pA
      dsimp only
      rcases rest with _ | ⟨x, rest⟩
      · rw [List.append_nil] at p1
        subst p1
        have h4b := U.lt_no iL_map pre
        (repeat' ((conv => whnf); first | refine goD ?_ | refine U.lw_c (fun hb => ?_) (fun hb => ?_)))
        (conv => whnf)
        rw [hol]
        have cu := cleanUL F
        have ci := cleanUL (List.replicate st.length 1)
        refine SoundAt.cov (args1 := [encG ⟨nm, st⟩, imS (uL (List.replicate st.length 1))]) [(0, encG ⟨nm, st⟩), (1, imS (uL (List.replicate st.length 1)))] (Cov.frz (fun k => k) 2 1 (T := 30) (ys := uL (List.replicate st.length 1)) (hl := [(0, some (.cells 25 [imS (sL nm), imS (gL st)] false)), (1, some (.cells 3 (iL A) false))]) (n := 3) (lo := 0) (glb := 0) rfl rfl (Nat.le_of_ble_eq_true rfl) (Nat.zero_le _) (fun _ _ => rfl) rfl (fun k hk => absurd hk (Nat.not_lt_zero k)) (Nat.zero_le _) rfl (by rw [← hol]; rfl) uL_1 (cleanUC _) (.cons rfl (.row _ _ _ _ (cleanG_cells ⟨nm, st⟩) rfl) (.cons rfl (.row _ _ _ _ (cleanIl0 _) rfl) .nil)) (.cons rfl (.clean _ _ (cleanG ⟨nm, st⟩) rfl) (.cons rfl (.ext _ _ ⟨rfl, slV_row _ _⟩) .nil))) rfl (fun i u h => by
          rcases i with _ | _ | i
          · cases h; rfl
          · cases h; rfl
          · simp at h) ?_
        have g7 : (((iL pre).length : Int) != ((gL st).length : Int)) = false := by rw [iL_len, gL_len, hol]; simp
        have g8 : (((uL F).length : Int) != ((iL pre).length : Int)) = false := by rw [iL_len, uL_len, hol, hFl]; simp
        (repeat' ((conv => whnf); first | refine goD ?_ | refine U.SoundAt.u (cI) clN ?_ | refine U.SoundC.u (cI) clN ?_ | refine U.lw_c (fun hb => ?_) (fun hb => ?_)))
        (conv => whnf)
        refine loop_inv (α := Nat) (fun i => i ≤ st.length) (fun i => (mkF [(1, .pointer (some ⟨0, 0, none⟩)), (2, .bool false), (11, .slice (some ⟨1, 0, none⟩) (gL st).length (gL st).length), (14, imS (uL F)), (15, .int .i64 i)], ⟨mkO [(0, some (.cells 25 [imS (sL nm), imS (gL st)] false)), (1, some (.cells 3 (iL A) false))], 3, 0, 0⟩)) (fun i => st.length - i) 0 (Nat.zero_le _) (Cov.renI rfl rfl rfl rfl (.cons rfl (.row _ _ _ _ (cleanG_cells ⟨nm, st⟩) rfl) (.cons rfl (.row _ _ _ _ (cleanIl0 _) rfl) .nil)) (.cons rfl (.P rfl) (.cons rfl (.F rfl rfl) (.cons rfl (.S rfl rfl rfl) (.cons rfl (.clean _ _ (cleanUL _) rfl) (.cons rfl .I .nil)))))) ?_
        rintro i hi
        dsimp only
        rcases Nat.lt_or_ge i st.length with hil | hil
        · have g9 : decide ((i : Int) < ((gL st).length : Int)) = true := by rw [gL_len]; simp; omega
          obtain ⟨row, hrw⟩ : ∃ row, st[i]? = some row := ⟨_, List.getElem?_eq_getElem hil⟩
          have hrd : st.getD i [] = row := by simp [hrw]
          have hrl := hg.2.2 row (List.mem_of_getElem? hrw)
          have hib : i.blt (gL st).length = true := by rw [gL_len]; exact bLe hil
          have hix : nth (gL st) i = some (imS (iL row)) := by rw [nth_eq, gL]; simp [hrw]
          have him := hall i hil
          have hAi := pA i him
          have hni := iL_nth0 (L := A) (i := i) (by omega)
          (repeat' ((conv => whnf); first | refine goD ?_ | refine U.lw_c (fun hb => ?_) (fun hb => ?_)))
          (conv => whnf)
          refine loop_inv (α := List Int × List Int) (fun y => y.1 ++ y.2 = row) (fun y => (mkF [(1, .pointer (some ⟨0, 0, none⟩)), (2, .bool false), (11, .slice (some ⟨1, 0, none⟩) (gL st).length (gL st).length), (14, imS (uL F)), (15, .int .i64 i), (16, .int .i64 y.1.length)], ⟨mkO [(0, some (.cells 25 [imS (sL nm), imS (gL st)] false)), (1, some (.cells 3 (iL A) false))], 3, 0, 0⟩)) (fun y => y.2.length) ([], row) rfl (Cov.renI rfl rfl rfl rfl (.cons rfl (.row _ _ _ _ (cleanG_cells ⟨nm, st⟩) rfl) (.cons rfl (.row _ _ _ _ (cleanIl0 _) rfl) .nil)) (.cons rfl (.P rfl) (.cons rfl (.F rfl rfl) (.cons rfl (.S rfl rfl rfl) (.cons rfl (.clean _ _ (cleanUL _) rfl) (.cons rfl .I (.cons rfl .I .nil))))))) ?_
          rintro ⟨p, q⟩ p3
          dsimp only at p3
          dsimp only
          rcases q with _ | ⟨t, q⟩
          · rw [List.append_nil] at p3
            subst p3
            have h5b := U.lt_no iL_map p
            have iw := wadd1 (i := i) (by omega)
            have hFi := uL_at (l := F) (i := i) (by omega)
            have hFb : i.blt (uL F).length = true := by rw [uL_len, hFl]; exact bLe hil
            by_cases hlt : gt0 F i < 2000
            · have g10 : decide (gt0 F i < 2000) = true := decide_eq_true hlt
              have c1 := cS (pre.idxOf (i : Int) + 1) i 2000 him (Nat.lt_succ_self _) (by decide) (by decide)
              have hF0 := okU_at hFo i
              rw [show min (gt0 F i) 2000 = gt0 F i by omega] at c1
              have hcv : IntKind.i64.wrap (gt0 F i) = gt0 F i := by rw [IntKind.wrap_i64]; omega
              have g11 : (gt0 F i != IntKind.i64.wrap (gt0 F i)) = false := by rw [hcv]; simp
              (repeat' ((conv => whnf); first | refine goD ?_ | refine U.SoundAt.u (c1) clN ?_ | refine U.SoundC.u (c1) clN ?_ | refine U.drawX_p (D := U.propX) 16 [] (by decide +kernel) (by decide +kernel) ?_ | refine U.lw_c (fun hb => ?_) (fun hb => ?_)))
              (conv => whnf)
              refine ⟨i + 1, hil, by omega, ?_⟩
              exact (Cov.renI rfl rfl rfl rfl (.cons rfl (.row _ _ _ _ (cleanG_cells ⟨nm, st⟩) rfl) (.cons rfl (.row _ _ _ _ (cleanIl0 _) rfl) .nil)) (.cons rfl (.P rfl) (.cons rfl (.F rfl rfl) (.cons rfl (.S rfl rfl rfl) (.cons rfl (.clean _ _ (cleanUL _) rfl) (.cons rfl (.clean _ _ (cleanI _) (congrArg (Value.int .i64) (iw.symm))) .nil))))))
            · have g10 : decide (gt0 F i < 2000) = false := decide_eq_false hlt
              (repeat' ((conv => whnf); first | refine goD ?_ | refine U.drawX_p (D := U.propX) 16 [] (by decide +kernel) (by decide +kernel) ?_ | refine U.lw_c (fun hb => ?_) (fun hb => ?_)))
              (conv => whnf)
              refine ⟨i + 1, hil, by omega, ?_⟩
              exact (Cov.renI rfl rfl rfl rfl (.cons rfl (.row _ _ _ _ (cleanG_cells ⟨nm, st⟩) rfl) (.cons rfl (.row _ _ _ _ (cleanIl0 _) rfl) .nil)) (.cons rfl (.P rfl) (.cons rfl (.F rfl rfl) (.cons rfl (.S rfl rfl rfl) (.cons rfl (.clean _ _ (cleanUL _) rfl) (.cons rfl (.clean _ _ (cleanI _) (congrArg (Value.int .i64) (iw.symm))) .nil))))))
          · have hrl2 := hrl
            rw [← p3] at hrl2
            obtain ⟨h5b, h5c, h5n, h5w⟩ := U.at4 iL_map p (t) q (hrl2)
            rw [p3] at h5b h5c h5n
            obtain ⟨q1, q2⟩ : ∃ w : Nat, t = (w : Int) ∧ w < st.length := by
              have hri := hr
              simp only [rightG, Bool.and_eq_true, List.all_eq_true, okT, decide_eq_true_eq] at hri
              obtain ⟨r1, r2⟩ := hri
              obtain ⟨s1, s2⟩ := r2 row (List.mem_of_getElem? hrw) t (by rw [← p3]; simp)
              exact ⟨t.toNat, by omega, by omega⟩
            obtain ⟨rfl, hwl⟩ := q2
            obtain ⟨q3, q4⟩ := hah i him q1 (by unfold ES; rw [hrd, ← p3]; simp)
            have hAw := pA q1 q3
            have hnw := iL_nth0 (L := A) (i := q1) (by omega)
            have hwb : q1.blt (gL st).length = true := by rw [gL_len]; exact bLe hwl
            have g12 : decide (gt0 A q1 ≥ gt0 A i) = false := decide_eq_false (by rw [hAw, hAi]; omega)
            (repeat' ((conv => whnf); first | refine goA ?_ | (conv in (nth _ _) => (change nth _ (0 + q1 * 1); rw [hnw])) | (conv in (nth _ _) => (change nth _ (0 + i * 1); rw [hni])) | refine goB ?_ | refine U.drawX_p (D := U.propX) 16 [] (by decide +kernel) (by decide +kernel) ?_ | refine U.lw_c (fun hb => ?_) (fun hb => ?_)))
            (conv => whnf)
            refine ⟨(p ++ [(q1 : Int)], q), by rw [← p3]; simp, by simp, ?_⟩
            exact (Cov.renI rfl rfl rfl rfl (.cons rfl (.row _ _ _ _ (cleanG_cells ⟨nm, st⟩) rfl) (.cons rfl (.row _ _ _ _ (cleanIl0 _) rfl) .nil)) (.cons rfl (.P rfl) (.cons rfl (.F rfl rfl) (.cons rfl (.S rfl rfl rfl) (.cons rfl (.clean _ _ (cleanUL _) rfl) (.cons rfl .I (.cons rfl (.clean _ _ (cleanI _) (congrArg (Value.int .i64) (h5w.symm))) .nil)))))))
        · have g9 : decide ((i : Int) < ((gL st).length : Int)) = false := by rw [gL_len]; simp; omega
          (repeat' ((conv => whnf); first | refine goD ?_ | refine U.SoundAt.u (hW) clN ?_ | refine U.SoundC.u (hW) clN ?_ | refine U.lw_c (fun hb => ?_) (fun hb => ?_)))
          (conv => whnf)
          exact .clean _ (.flat _ rfl)
      · have hpo : (pre ++ x :: rest).length ≤ maxI := by rw [p1]; unfold maxI; omega
        obtain ⟨h4b, h4c, h4n, h4w⟩ := U.at4 iL_map pre (x) rest (hpo)
        have hidx := idx_snoc (pre := pre) (rest := rest) (x := x) (by rw [p1]; exact hOk.nd)
        rw [p1] at h4b h4c h4n hidx
        obtain ⟨u, hul, rfl⟩ := hOk.inn x (by rw [← p1]; simp)
        dsimp only at hul
        have hub : u.blt (gL st).length = true := by rw [gL_len]; exact bLe hul
        have es := iL_store0 (L := A) (i := u) (x := (pre.length : Int)) (by omega)
        have hst4 : ∀ x : Value, 0 + u * 1 + [x].length ≤ (iL A).length := fun x => by rw [iL_len, p2, List.length_singleton]; omega
        have hA2 : ∀ w : Nat, (w : Int) ∈ pre ++ [(u : Int)] → gt0 (A.set u (pre.length : Int)) w = (ord.idxOf (w : Int) : Nat) := fun w hw => by
          by_cases hwu : w = u
          · subst hwu
            rw [gt0_set_same (by omega), hidx]
          · rw [gt0_set_ne hwu]
            rcases List.mem_append.1 hw with hw | hw
            · exact pA w hw
            · have h5 : (w : Int) = (u : Int) := by simpa using hw
              exact absurd (Int.ofNat_inj.1 h5) hwu
        have hpl : pre.length + rest.length + 1 ≤ 29000 := by
          have := congrArg List.length p1
          simp at this
          omega
        rcases pre with _ | ⟨y, ys⟩
        · (repeat' ((conv => whnf); first | refine goA ?_ | refine U.storeC_p (hst4 _) ?_ | refine U.catC_p ?_ | refine goB ?_ | refine U.lw_c (fun hb => ?_) (fun hb => ?_)))
          (conv => whnf)
          refine ⟨([] ++ [(u : Int)], rest, A.set u 0), ⟨by rw [← p1]; simp, by simpa using p2, hA2⟩, by simp, ?_⟩
          exact (Cov.renO (fun k => if k = 2 then 4 else k) rfl rfl (Nat.le_of_ble_eq_true rfl) (Nat.zero_le _) (fun k hk => by have : k < 2 := hk; rw [if_neg (by omega)]) rfl (fun k hk => absurd hk (Nat.not_lt_zero k)) (.cons rfl (.row _ _ _ _ (cleanG_cells ⟨nm, st⟩) rfl) (.cons rfl (.row _ _ _ _ (cleanIl0 _) (es.symm)) (blksO.grown rfl rfl (cleanUC _) .nil))) (.cons rfl (.P rfl) (.cons rfl (.F rfl rfl) (.cons rfl (.clean _ _ (cleanIL _) rfl) (.cons rfl (.S rfl rfl rfl) (.cons rfl (slV_grown (by decide) rfl (by simp) rfl rfl) (.cons rfl .I .nil)))))))
        · have hyl : (cellsAll (uL (List.replicate (y :: ys).length 1))).length = ((List.replicate ys.length (1 : Int)).length + 1) * (0 + 1) := by rw [cellsU, uL_len]; simp
          have hb7 : (Nat.ble (((List.replicate ys.length (1 : Int)).length + 1 + (0 + 1)) * 8) 140737488355328 && Nat.ble ((List.replicate ys.length (1 : Int)).length + 1 + (0 + 1)) 1000000) = true := by
            simp only [List.length_cons] at hpl
            rw [List.length_replicate, bLe (by omega), bLe (by omega)]
            rfl
          have hgr : cellsAll (uL (List.replicate (y :: ys ++ [(u : Int)]).length 1)) = cellsAll (uL (List.replicate (y :: ys).length 1)) ++ [Value.int .u64 1] := by
            rw [List.length_append, List.length_singleton, List.replicate_succ' (n := (y :: ys).length), cellsU, cellsU, uL, List.map_append]; rfl
          (repeat' ((conv => whnf); first | refine goA ?_ | refine U.storeC_p (hst4 _) ?_ | refine U.ob_c hb7 ?_ | (rw [ble_f]; dsimp only; refine growRow_p hyl rfl ?_) | refine goB ?_ | refine U.lw_c (fun hb => ?_) (fun hb => ?_)))
          (conv => whnf)
          refine ⟨(y :: ys ++ [(u : Int)], rest, A.set u ((y :: ys).length : Int)), ⟨by rw [← p1]; simp, by simpa using p2, hA2⟩, by simp, ?_⟩
          exact (Cov.renO (fun k => if k = 2 then 4 else k) rfl rfl (Nat.le_of_ble_eq_true rfl) (Nat.zero_le _) (fun k hk => by have : k < 2 := hk; rw [if_neg (by omega)]) rfl (fun k hk => absurd hk (Nat.not_lt_zero k)) (.cons rfl (.row _ _ _ _ (cleanG_cells ⟨nm, st⟩) rfl) (.cons rfl (.row _ _ _ _ (cleanIl0 _) (es.symm)) (blksO.grown rfl (hgr) (cleanUC _) .nil))) (.cons rfl (.P rfl) (.cons rfl (.F rfl rfl) (.cons rfl (.clean _ _ (cleanIL _) rfl) (.cons rfl (.S rfl rfl rfl) (.cons rfl (slV_grown (by decide) rfl (by simp) (by simp) (by simp)) (.cons rfl (.clean _ _ (cleanI _) (congrArg (Value.int .i64) (h4w.symm))) .nil)))))))
    · exact absurd hcy (hno v hv)
end Go.Proofs.YthekpmpcbidjiaaGreat
