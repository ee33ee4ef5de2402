
import Derived.Test.YthekpmpcbidjiaaGreatT30
import Derived.Test.YthekpmpcbidjiaaGreatT33
namespace Go.Proofs.YthekpmpcbidjiaaGreat
open Go Go.RowKit Go.Sort U
set_option linter.unusedVariables false
set_option linter.unusedSimpArgs false
set_option maxRecDepth 100000
set_option maxHeartbeats 4000000
theorem cutW_eq_s {way : List Int} {s n w : Nat} (h : w < way.length) : (gt0 (cutW way s n) w == (s : Int)) = decide (gt0 way w = s) := by
  rw [cutW_at h, Bool.eq_iff_iff, beq_iff_eq, decide_eq_true_eq]
  split <;> omega
theorem rfar_d (g : Gz) (back : List (List Int)) (way : List Int) (v : Nat) (hT : Tur g.st back) (hb : okB g.st) (hb2 : okB back) (hF : farOk back v way) (hv : v < g.st.length) (hst : g.st.length ≤ 29000) (hrow : ∀ r ∈ g.st, r.length ≤ maxI) : DenU Tryz.prog [] 42 [encG g, .int .i64 v] (imS (iL way)) := by
  refine denU_of_sound hmixU fun Ts => SoundAt.body hmixU Tryz.func42 rfl rfl rfl 0 ?_
  have cg := cleanG g
  obtain ⟨nm, st⟩ := g
  dsimp only at *
  have hvb : v < back.length := by rw [hT.1]; exact hv
  have hwl : way.length = st.length := by rw [hF.1, hT.1]
  (repeat' ((conv => whnf); first | refine goD ?_ | refine U.lw_c (fun hb => ?_) (fun hb => ?_)))
  (conv => whnf)
  refine loop_inv (α := Nat) (fun i => i ≤ st.length) (fun i => (mkF [(1, .int .i64 v), (2, .pointer (some ⟨0, 0, none⟩)), (4, .slice none 0 0), (5, slV 1 (List.replicate i (-1))), (6, .int .i64 i)], ⟨mkO [(0, some (.cells 34 [imS (sL nm), imS (gL st)] false)), (1, rowO 3 (iL (List.replicate i (-1))))], 2, 0, 0⟩)) (fun i => st.length - i) 0 (Nat.zero_le _) (Cov.renI rfl rfl rfl rfl (.cons rfl (.row _ _ _ _ (cleanG_cells ⟨nm, st⟩) rfl) (.none .nil)) (.cons rfl .I (.cons rfl (.P rfl) (.cons rfl (.F rfl rfl) (.cons rfl (.F rfl rfl) (.cons rfl .I .nil)))))) ?_
  rintro i hi
  dsimp only
  rcases Nat.lt_or_ge i st.length with hil | hil
  · have g1 : decide ((i : Int) < ((gL st).length : Int)) = true := by rw [gL_len]; simp; omega
    have iw := wadd1 (i := i) (by omega)
    rcases i with _ | i
    · (repeat' ((conv => whnf); first | refine goA ?_ | refine U.catC_p ?_ | refine goB ?_ | refine U.lw_c (fun hb => ?_) (fun hb => ?_)))
      (conv => whnf)
      refine ⟨1, hil, by omega, ?_⟩
      exact (Cov.renO (fun k => if k = 1 then 3 else k) rfl rfl (Nat.le_of_ble_eq_true rfl) (Nat.zero_le _) (fun k hk => by have : k < 1 := hk; rw [if_neg (by omega)]) rfl (fun k hk => absurd hk (Nat.not_lt_zero k)) (.cons rfl (.row _ _ _ _ (cleanG_cells ⟨nm, st⟩) rfl) (blksO.grown rfl rfl (cleanIC _) .nil)) (.cons rfl .I (.cons rfl (.P rfl) (.cons rfl (.F rfl rfl) (.cons rfl (slV_grown (by decide) rfl (by simp) rfl rfl) (.cons rfl .I .nil))))))
    · have hyl : (cellsAll (iL (List.replicate (i + 1) (-1)))).length = ((List.replicate i (-1 : Int)).length + 1) * (0 + 1) := by rw [cellsI, iL_len]; simp
      have hb7 : (Nat.ble (((List.replicate i (-1 : Int)).length + 1 + (0 + 1)) * 8) 140737488355328 && Nat.ble ((List.replicate i (-1 : Int)).length + 1 + (0 + 1)) 1000000) = true := by
        rw [List.length_replicate, bLe (by omega), bLe (by omega)]
        rfl
      have hgr : cellsAll (iL (List.replicate (i + 1 + 1) (-1))) = cellsAll (iL (List.replicate (i + 1) (-1))) ++ [Value.int .i64 (-1)] := by
        rw [List.replicate_succ' (n := i + 1), cellsI, cellsI, iL_app]; rfl
      (repeat' ((conv => whnf); first | refine goA ?_ | refine U.ob_c hb7 ?_ | (rw [ble_f]; dsimp only; refine growRow_p hyl rfl ?_) | refine goB ?_ | refine U.lw_c (fun hb => ?_) (fun hb => ?_)))
      (conv => whnf)
      refine ⟨i + 1 + 1, hil, by omega, ?_⟩
      exact (Cov.renO (fun k => if k = 1 then 3 else k) rfl rfl (Nat.le_of_ble_eq_true rfl) (Nat.zero_le _) (fun k hk => by have : k < 1 := hk; rw [if_neg (by omega)]) rfl (fun k hk => absurd hk (Nat.not_lt_zero k)) (.cons rfl (.row _ _ _ _ (cleanG_cells ⟨nm, st⟩) rfl) (blksO.grown rfl (hgr) (cleanIC _) .nil)) (.cons rfl .I (.cons rfl (.P rfl) (.cons rfl (.F rfl rfl) (.cons rfl (slV_grown (by decide) rfl (by simp) (by simp) (by simp)) (.cons rfl (.clean _ _ (cleanI _) (congrArg (Value.int .i64) (iw.symm))) .nil))))))
  · have hin : i = st.length := by omega
    subst hin
    have g1 : decide ((st.length : Int) < ((gL st).length : Int)) = false := by rw [gL_len]; simp
    have es := iL_store0 (L := List.replicate st.length (-1)) (i := v) (x := 0) (by simp; omega)
    have hz := cutW_zero hF hvb
    rw [hT.1] at hz
    rw [← hz] at es
    have hst0 : ∀ x : Value, 0 + v * 1 + [x].length ≤ (iL (List.replicate st.length (-1))).length := fun x => by rw [iL_len, List.length_replicate, List.length_singleton]; omega
    have hvn : v.blt (List.replicate st.length (-1 : Int)).length = true := by rw [List.length_replicate]; exact bLe hv
    generalize hR : List.replicate st.length (-1 : Int) = R at *
    have hRl : R.length = st.length := by rw [← hR]; simp
    rcases R with _ | ⟨y, ys⟩
    · simp at hRl; omega
    have hys : ys.length + 1 = st.length := by simpa using hRl
    have hce : cellsAll (iL (y :: ys)) = iL (y :: ys) := cellsI _
    (repeat' ((conv => whnf); first | refine goD ?_ | refine U.lw_c (fun hb => ?_) (fun hb => ?_)))
    show storeC propX.toDom (cellsAll (iL (y :: ys))) (0 + v * 1) [Value.int .i64 0] _
    rw [hce]
    refine U.storeC_p (hst0 _) ?_
    (repeat' ((conv => whnf); first | refine goD ?_ | refine U.lw_c (fun hb => ?_) (fun hb => ?_)))
    (conv => whnf)
    refine loop_inv (α := Nat) (fun s => s ≤ st.length) (fun s => (mkF [(1, .int .i64 v), (2, .pointer (some ⟨0, 0, none⟩)), (4, .slice none 0 0), (5, .slice (some ⟨1, 0, none⟩) st.length st.length), (7, .int .i64 s)], ⟨mkO [(0, some (.cells 34 [imS (sL nm), imS (gL st)] false)), (1, some (.cells 3 (iL (cutW way s 0)) true))], 2, 0, 0⟩)) (fun s => st.length - s) 0 (Nat.zero_le _) (Cov.renI rfl rfl rfl rfl (.cons rfl (.row _ _ _ _ (cleanG_cells ⟨nm, st⟩) rfl) (.cons rfl (.row _ _ _ _ (cleanIl0 _) (es.symm)) .nil)) (.cons rfl .I (.cons rfl (.P rfl) (.cons rfl (.F rfl rfl) (.cons rfl (.sl _ _ _ _ _ _ _ (by decide) rfl (hys.symm) (hys.symm)) (.cons rfl .I .nil)))))) ?_
    rintro s hs
    dsimp only
    rcases Nat.lt_or_ge s st.length with hsl | hsl
    · have g2 : decide ((s : Int) < (st.length : Int)) = true := by simpa using hsl
      (repeat' ((conv => whnf); first | refine goD ?_ | refine U.lw_c (fun hb => ?_) (fun hb => ?_)))
      (conv => whnf)
      refine loop_inv (α := Nat) (fun j => j ≤ st.length) (fun j => (mkF [(1, .int .i64 v), (2, .pointer (some ⟨0, 0, none⟩)), (4, .slice none 0 0), (5, .slice (some ⟨1, 0, none⟩) st.length st.length), (7, .int .i64 s), (8, .int .i64 j)], ⟨mkO [(0, some (.cells 34 [imS (sL nm), imS (gL st)] false)), (1, some (.cells 3 (iL (cutW way s j)) true))], 2, 0, 0⟩)) (fun j => st.length - j) 0 (Nat.zero_le _) (Cov.renI rfl rfl rfl rfl (.cons rfl (.row _ _ _ _ (cleanG_cells ⟨nm, st⟩) rfl) (.cons rfl (.row _ _ _ _ (cleanIl0 _) rfl) .nil)) (.cons rfl .I (.cons rfl (.P rfl) (.cons rfl (.F rfl rfl) (.cons rfl (.S rfl rfl rfl) (.cons rfl .I (.cons rfl .I .nil))))))) ?_
      rintro j hj
      dsimp only
      rcases Nat.lt_or_ge j st.length with hjl | hjl
      · have g3 : decide ((j : Int) < (st.length : Int)) = true := by simpa using hjl
        obtain ⟨row, hrw⟩ : ∃ row, st[j]? = some row := ⟨_, List.getElem?_eq_getElem hjl⟩
        have hrd : st.getD j [] = row := by simp [hrw]
        have hrm := List.mem_of_getElem? hrw
        have hrl := hrow row hrm
        have hjb : j.blt (gL st).length = true := by rw [gL_len]; exact bLe hjl
        have hjx : nth (gL st) j = some (imS (iL row)) := by rw [nth_eq, gL]; simp [hrw]
        (repeat' ((conv => whnf); first | refine goD ?_ | refine U.lw_c (fun hb => ?_) (fun hb => ?_)))
        (conv => whnf)
        refine loop_inv (α := List Int × List Int × List Int) (fun y => y.1 ++ y.2.1 = row ∧ ((y.2.2 = cutW way s (j + 1) ∧ gt0 way j = s + 1) ∨ (y.2.2 = cutW way s j ∧ (gt0 y.2.2 j < 0 → ∀ w : Nat, (w : Int) ∈ y.1 → gt0 way w ≠ s)))) (fun y => (mkF [(1, .int .i64 v), (2, .pointer (some ⟨0, 0, none⟩)), (4, .slice none 0 0), (5, .slice (some ⟨1, 0, none⟩) st.length st.length), (7, .int .i64 s), (8, .int .i64 j), (9, .int .i64 y.1.length)], ⟨mkO [(0, some (.cells 34 [imS (sL nm), imS (gL st)] false)), (1, some (.cells 3 (iL y.2.2) true))], 2, 0, 0⟩)) (fun y => y.2.1.length) ([], row, cutW way s j) ⟨rfl, .inr ⟨rfl, fun _ w h => (by cases h)⟩⟩ (Cov.renI rfl rfl rfl rfl (.cons rfl (.row _ _ _ _ (cleanG_cells ⟨nm, st⟩) rfl) (.cons rfl (.row _ _ _ _ (cleanIl0 _) rfl) .nil)) (.cons rfl .I (.cons rfl (.P rfl) (.cons rfl (.F rfl rfl) (.cons rfl (.S rfl rfl rfl) (.cons rfl .I (.cons rfl .I (.cons rfl .I .nil)))))))) ?_
        rintro ⟨p, q, W⟩ ⟨p1, p2⟩
        dsimp only at p1 p2
        dsimp only
        rcases q with _ | ⟨t, q⟩
        · rw [List.append_nil] at p1
          subst p1
          have h4b := U.lt_no iL_map p
          have jw := wadd1 (i := j) (by omega)
          have hW : W = cutW way s (j + 1) := by
            rcases p2 with ⟨h, _⟩ | ⟨h, p3⟩
            · exact h
            · subst h
              refine cutW_skip fun hw => ?_
              obtain ⟨w, hw1, hw2, hw3⟩ := far_next hT hb2 hF hvb (u := j) (d := s) (by rw [hT.1]; exact hjl) (by rw [hw]; omega)
              refine p3 ?_ w (by have := hw2; unfold ES at this; rw [hrd] at this; exact this) hw3
              rw [cutW_at (by omega), if_neg (by omega)]
              decide
          rw [hW]
          (repeat' ((conv => whnf); first | refine goD ?_ | refine U.lw_c (fun hb => ?_) (fun hb => ?_)))
          (conv => whnf)
          refine ⟨j + 1, hjl, by omega, ?_⟩
          exact (Cov.renI rfl rfl rfl rfl (.cons rfl (.row _ _ _ _ (cleanG_cells ⟨nm, st⟩) rfl) (.cons rfl (.row _ _ _ _ (cleanIl0 _) rfl) .nil)) (.cons rfl .I (.cons rfl (.P rfl) (.cons rfl (.F rfl rfl) (.cons rfl (.S rfl rfl rfl) (.cons rfl .I (.cons rfl (.clean _ _ (cleanI _) (congrArg (Value.int .i64) (jw.symm))) .nil)))))))
        · have hrl2 := hrl
          rw [← p1] at hrl2
          obtain ⟨h4b, h4c, h4n, h4w⟩ := U.at4 iL_map p (t) q (hrl2)
          rw [p1] at h4b h4c h4n
          obtain ⟨w, rfl, hwn⟩ := hb row hrm t (by rw [← p1]; simp)
          have hes : ES st j w := by unfold ES; rw [hrd, ← p1]; simp
          have hwb : w.blt st.length = true := bLe hwn
          have hjb2 : j.blt st.length = true := bLe hjl
          have hWl : W.length = st.length := by
            rcases p2 with ⟨h, _⟩ | ⟨h, _⟩ <;> rw [h, cutW_len, hwl]
          have hWs : (gt0 W w == (s : Int)) = decide (gt0 way w = s) := by
            rcases p2 with ⟨h, _⟩ | ⟨h, _⟩ <;> rw [h, cutW_eq_s (by omega)]
          have hn1 := iL_nth0 (L := W) (i := j) (by omega)
          have hn2 := iL_nth0 (L := W) (i := w) (by omega)
          have hsw : IntKind.i64.wrap ((s : Int) + 1) = (s : Int) + 1 := by rw [IntKind.wrap_i64]; omega
          have hst5 : ∀ x : Value, 0 + j * 1 + [x].length ≤ (iL W).length := fun x => by rw [iL_len, hWl, List.length_singleton]; omega
          by_cases hneg : gt0 W j < 0
          · have g5 := decide_eq_true hneg
            obtain ⟨hWe, p3⟩ : W = cutW way s j ∧ (gt0 W j < 0 → ∀ w : Nat, (w : Int) ∈ p → gt0 way w ≠ s) := by
              rcases p2 with ⟨h, h2⟩ | h
              · exfalso
                rw [h, cutW_at (by omega), if_pos (.inr ⟨by omega, h2⟩), h2] at hneg
                omega
              · exact h
            by_cases heq : gt0 way w = s
            · have g6 : (gt0 W w == (s : Int)) = true := by rw [hWs, decide_eq_true heq]
              have hjs : gt0 way j = s + 1 := by
                have h7 := far_edge hT hF (u := j) (w := w) (by rw [hT.1]; exact hjl) (by rw [hT.1]; exact hwn) hes (by omega)
                rw [hWe, cutW_at (by omega)] at hneg
                split at hneg
                · omega
                · rename_i hno
                  have : ¬ gt0 way j ≤ s := fun h => hno (.inl h)
                  omega
              have es5 := iL_store0 (L := W) (i := j) (x := (s : Int) + 1) (by omega)
              have hset : W.set j ((s : Int) + 1) = cutW way s (j + 1) := by rw [hWe]; exact cutW_set (by omega) hjs
              rw [hset] at es5
              (repeat' ((conv => whnf); first | refine goA ?_ | (conv in (nth _ _) => (change nth _ (0 + j * 1); rw [hn1])) | (conv in (nth _ _) => (change nth _ (0 + w * 1); rw [hn2])) | refine U.storeC_p (hst5 _) ?_ | refine goB ?_ | refine U.lw_c (fun hb => ?_) (fun hb => ?_)))
              (conv => whnf)
              refine ⟨(p ++ [(w : Int)], q, cutW way s (j + 1)), ⟨by rw [← p1]; simp, .inl ⟨rfl, hjs⟩⟩, by simp, ?_⟩
              exact (Cov.renI rfl rfl rfl rfl (.cons rfl (.row _ _ _ _ (cleanG_cells ⟨nm, st⟩) rfl) (.cons rfl (.row _ _ _ _ (cleanIl0 _) ((by rw [hsw]; exact es5.symm))) .nil)) (.cons rfl .I (.cons rfl (.P rfl) (.cons rfl (.F rfl rfl) (.cons rfl (.S rfl rfl rfl) (.cons rfl .I (.cons rfl .I (.cons rfl (.clean _ _ (cleanI _) (congrArg (Value.int .i64) (h4w.symm))) .nil))))))))
            · have g6 : (gt0 W w == (s : Int)) = false := by rw [hWs, decide_eq_false heq]
              (repeat' ((conv => whnf); first | refine goA ?_ | (conv in (nth _ _) => (change nth _ (0 + j * 1); rw [hn1])) | (conv in (nth _ _) => (change nth _ (0 + w * 1); rw [hn2])) | refine goB ?_ | refine U.lw_c (fun hb => ?_) (fun hb => ?_)))
              (conv => whnf)
              refine ⟨(p ++ [(w : Int)], q, W), ⟨by rw [← p1]; simp, .inr ⟨hWe, fun h w' hw' => ?_⟩⟩, by simp, ?_⟩
              · rcases List.mem_append.1 hw' with hw' | hw'
                · exact p3 h w' hw'
                · have : w' = w := Int.ofNat_inj.1 (by simpa using hw')
                  subst this; exact heq
              · exact (Cov.renI rfl rfl rfl rfl (.cons rfl (.row _ _ _ _ (cleanG_cells ⟨nm, st⟩) rfl) (.cons rfl (.row _ _ _ _ (cleanIl0 _) rfl) .nil)) (.cons rfl .I (.cons rfl (.P rfl) (.cons rfl (.F rfl rfl) (.cons rfl (.S rfl rfl rfl) (.cons rfl .I (.cons rfl .I (.cons rfl (.clean _ _ (cleanI _) (congrArg (Value.int .i64) (h4w.symm))) .nil))))))))
          · have g5 := decide_eq_false hneg
            (repeat' ((conv => whnf); first | refine goA ?_ | (conv in (nth _ _) => (change nth _ (0 + j * 1); rw [hn1])) | (conv in (nth _ _) => (change nth _ (0 + w * 1); rw [hn2])) | refine goB ?_ | refine U.lw_c (fun hb => ?_) (fun hb => ?_)))
            (conv => whnf)
            refine ⟨(p ++ [(w : Int)], q, W), ⟨by rw [← p1]; simp, p2.imp id fun h => ⟨h.1, fun h' => absurd h' hneg⟩⟩, by simp, ?_⟩
            exact (Cov.renI rfl rfl rfl rfl (.cons rfl (.row _ _ _ _ (cleanG_cells ⟨nm, st⟩) rfl) (.cons rfl (.row _ _ _ _ (cleanIl0 _) rfl) .nil)) (.cons rfl .I (.cons rfl (.P rfl) (.cons rfl (.F rfl rfl) (.cons rfl (.S rfl rfl rfl) (.cons rfl .I (.cons rfl .I (.cons rfl (.clean _ _ (cleanI _) (congrArg (Value.int .i64) (h4w.symm))) .nil))))))))
      · have hjn : j = st.length := by omega
        subst hjn
        have g3 : decide ((st.length : Int) < (st.length : Int)) = false := by simp
        have sw := wadd1 (i := s) (by omega)
        have hcn : cutW way s st.length = cutW way (s + 1) 0 := by rw [← hwl]; exact cutW_next
        (repeat' ((conv => whnf); first | refine goD ?_ | refine U.lw_c (fun hb => ?_) (fun hb => ?_)))
        (conv => whnf)
        refine ⟨s + 1, hsl, by omega, ?_⟩
        exact (Cov.renI rfl rfl rfl rfl (.cons rfl (.row _ _ _ _ (cleanG_cells ⟨nm, st⟩) rfl) (.cons rfl (.row _ _ _ _ (cleanIl0 _) ((congrArg iL hcn.symm))) .nil)) (.cons rfl .I (.cons rfl (.P rfl) (.cons rfl (.F rfl rfl) (.cons rfl (.S rfl rfl rfl) (.cons rfl (.clean _ _ (cleanI _) (congrArg (Value.int .i64) (sw.symm))) .nil))))))
    · have hsn : s = st.length := by omega
      subst hsn
      have g2 : decide ((st.length : Int) < (st.length : Int)) = false := by simp
      have hfu : cutW way st.length 0 = way := cutW_full fun u hu => by
        have := far_lt hT hb2 hF hvb (u := u) (by rw [hT.1, ← hwl]; exact hu)
        rw [hT.1] at this
        omega
      rw [hfu]
      (repeat' ((conv => whnf); first | refine goD ?_ | refine U.lw_c (fun hb => ?_) (fun hb => ?_)))
      (conv => whnf)
      exact .rowL (k := 1) (ys := iL way) (Nat.zero_le _) rfl (by rw [cellsI]) iL_1 (by rw [iL_len, hwl]) (Nat.le_refl _) (cleanIC _)
end Go.Proofs.YthekpmpcbidjiaaGreat
