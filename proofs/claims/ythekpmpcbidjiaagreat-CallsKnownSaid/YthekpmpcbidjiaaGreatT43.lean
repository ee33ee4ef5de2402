
import Derived.Test.YthekpmpcbidjiaaGreatT34
import Derived.Test.YthekpmpcbidjiaaGreatT35
import Derived.Test.YthekpmpcbidjiaaGreatT38
import Derived.Test.YthekpmpcbidjiaaGreatT42
namespace Go.Proofs.YthekpmpcbidjiaaGreat
open Go Go.RowKit Go.Sort U
set_option linter.unusedVariables false
set_option linter.unusedSimpArgs false
set_option maxRecDepth 100000
set_option maxHeartbeats 4000000
theorem calR_at {g : Gz} {n : Nat} (hn : n < g.st.length) : calR g (n : Int) = (calleesR g).getD n [] := by
  unfold calR
  rw [if_pos (by omega)]
  simp [calleesR, hn]
theorem rring_d (g : Gz) (stop : Nat) (res : List Nat) (hg : okG g) (hst : g.st.length ≤ 29000) (hR : rightG g = true) (hs : stop ≤ g.nm.length) (hno : ∀ w, w < stop → ¬ Cyc (calleesR g) w)
    (hres : (stop = g.nm.length ∧ res = []) ∨ (stop < g.nm.length ∧ ∃ way, Cyc (calleesR g) stop ∧ farOk (turnedR (calleesR g)) stop way ∧ RingOk (calleesR g) way stop res)) : DenU Tryz.prog [] 19 [encG g] (imS (iL (nL res))) := by
  refine denU_of_sound hmixU fun Ts => SoundAt.body hmixU Tryz.func19 rfl rfl rfl 0 ?_
  have hR2 := hR
  simp only [rightG, Bool.and_eq_true, decide_eq_true_eq] at hR2
  have hok : okRows (calleesR g).length (calleesR g) := callees_ok g hR2.1 (Nat.le_trans hg.1 (by unfold maxI; omega))
  have hcl : (calleesR g).length = g.st.length := by simp [calleesR]
  have hb : okB (calleesR g) := fun r hr x hx => (hok r hr).2.2 x hx
  have hT := tur_turned hb
  have hb2 := okB_turned (calleesR g)
  have htl : (turnedR (calleesR g)).length = g.st.length := by simp [turnedR, calleesR]
  have hrise := callees_rise g
  have hbs : okB g.st := fun r hr x hx => by
    have h1 := hR2.2
    rw [List.all_eq_true] at h1
    have h2 := h1 r hr
    rw [List.all_eq_true] at h2
    have h3 := h2 x hx
    simp only [okT, Bool.and_eq_true, decide_eq_true_eq] at h3
    exact ⟨x.toNat, by omega, by omega⟩
  have hTs : Tur g.st (turnedR (calleesR g)) := by
    refine ⟨htl, fun u w => ?_⟩
    rw [hT.2 u w]
    unfold ES
    by_cases hu : u < g.st.length
    · rw [show (calleesR g).getD u [] = rowR g.nm.length g.st[u] by simp [calleesR, hu], show g.st.getD u [] = g.st[u] by simp [hu]]
      exact rowR_iff hR (List.getElem_mem hu) _
    · rw [show (calleesR g).getD u [] = [] by simp [calleesR, hu], show g.st.getD u [] = [] by simp [hu]]
  have cFar := fun (n : Nat) (hn : n < g.st.length) (way : List Int) (hF : farOk (turnedR (calleesR g)) n way) => rfar_d g (turnedR (calleesR g)) way n hTs hbs hb2 hF hn hst hg.2.2
  have cCal : ∀ n : Nat, n < g.st.length → DenU Tryz.prog [] 18 [encG g, .int .i64 n] (imS (iL ((calleesR g).getD n []))) := fun n hn => by
    have := rcallees_d g n (by omega) hg.2.2
    rwa [calR_at hn] at this
  have cg := cleanG g
  have hnm := hR2.1
  obtain ⟨nm, st⟩ := g
  dsimp only at *
  generalize hrows : calleesR ⟨nm, st⟩ = rows at *
  generalize hback : turnedR rows = back at *
  (repeat' ((conv => whnf); first | refine goD ?_ | refine U.lw_c (fun hb => ?_) (fun hb => ?_)))
  (conv => whnf)
  refine loop_inv (α := Nat) (fun n => n ≤ stop) (fun n => (mkF [(1, .pointer (some ⟨0, 0, none⟩)), (2, .slice none 0 0), (3, .int .i64 n)], ⟨mkO [(0, some (.cells 34 [imS (sL nm), imS (gL st)] false))], 1, 0, 0⟩)) (fun n => stop - n) 0 (Nat.zero_le _) (Cov.renI rfl rfl rfl rfl (.cons rfl (.row _ _ _ _ (cleanG_cells ⟨nm, st⟩) rfl) .nil) (.cons rfl (.P rfl) (.cons rfl (.F rfl rfl) (.cons rfl .I .nil)))) ?_
  rintro n hn
  dsimp only
  rcases Nat.lt_or_ge n nm.length with hnl | hnl
  · have g1 : decide ((n : Int) < ((sL nm).length : Int)) = true := by rw [sL_len]; simp; omega
    have hns : n < st.length := by omega
    obtain ⟨way, hW⟩ := far_ex back n
    have c1 := cFar n hns way hW
    have c2 := cCal n hns
    have hnr : n < rows.length := by omega
    obtain ⟨row, hrw⟩ : ∃ row, rows[n]? = some row := ⟨_, List.getElem?_eq_getElem hnr⟩
    have hrd : rows.getD n [] = row := by simp [hrw]
    have hrm := List.mem_of_getElem? hrw
    have hrl := (hok row hrm).2.1
    rw [hrd] at c2
    have hwl : way.length = st.length := by rw [hW.1]; exact htl
    (repeat' ((conv => whnf); first | refine goD ?_ | refine U.SoundAt.u (c1) clN ?_ | refine U.SoundAt.u (c2) clN ?_ | refine U.SoundC.u (c1) clN ?_ | refine U.SoundC.u (c2) clN ?_ | refine U.lw_c (fun hb => ?_) (fun hb => ?_)))
    (conv => whnf)
    refine loop_inv (α := List Int × List Int × Int) (fun y => y.1 ++ y.2.1 = row ∧ MinD way y.1 y.2.2) (fun y => (mkF [(1, .pointer (some ⟨0, 0, none⟩)), (2, .slice none 0 0), (3, .int .i64 n), (4, imS (iL way)), (5, imS (iL row)), (6, .int .i64 y.2.2), (7, .int .i64 y.1.length)], ⟨mkO [(0, some (.cells 34 [imS (sL nm), imS (gL st)] false))], 1, 0, 0⟩)) (fun y => y.2.1.length) ([], row, -1) ⟨rfl, minD_nil way⟩ (Cov.renI rfl rfl rfl rfl (.cons rfl (.row _ _ _ _ (cleanG_cells ⟨nm, st⟩) rfl) .nil) (.cons rfl (.P rfl) (.cons rfl (.F rfl rfl) (.cons rfl .I (.cons rfl (.clean _ _ (cleanIL _) rfl) (.cons rfl (.clean _ _ (cleanIL _) rfl) (.cons rfl .I (.cons rfl .I .nil)))))))) ?_
    rintro ⟨p, q, best⟩ ⟨p1, hM⟩
    dsimp only at p1 hM
    dsimp only
    rcases q with _ | ⟨t, q⟩
    · rw [List.append_nil] at p1
      have h4b := U.lt_no iL_map p
      rw [p1] at h4b hM
      rw [p1]
      have nw := wadd1 (i := n) (by omega)
      by_cases hns2 : n = stop
      · subst hns2
        obtain ⟨way', hcy, hF', hL⟩ : ∃ way', Cyc rows n ∧ farOk back n way' ∧ RingOk rows way' n res := by
          rcases hres with ⟨h, _⟩ | ⟨_, h⟩
          · omega
          · exact h
        have hww := far_unique hW hF'
        subst hww
        have hv0 := far_v hW (by rw [hT.1]; exact hnr)
        have hmn : res.length ≤ rows.length := nodup_len hL.nd hL.lt
        have hm0 : 0 < res.length := (List.getElem?_eq_some_iff.1 hL.hd).1
        have hway := ring_way hT hb hb2 hW hnr hL
        have hbest : best = ((res.length - 1 : Nat) : Int) := by
          rcases Nat.lt_or_ge 1 res.length with h1 | h1
          · obtain ⟨b, hb'⟩ : ∃ b, res[1]? = some b := ⟨_, List.getElem?_eq_getElem h1⟩
            have h2 := (hL.st 0 n b hL.hd hb').2.1
            rw [hrd] at h2
            rw [minD_bst hM h2, hway (res.length - 2) 1 b (by omega) (by omega) hb']
            omega
          · have hlast : res.getLast? = some n := by
              rw [List.getLast?_eq_getElem?, show res.length - 1 = 0 by omega]; exact hL.hd
            have h2 := (hL.cl n hlast).2
            rw [hrd] at h2
            rw [minD_bst hM h2, hv0]
            omega
        have g2 : decide (best < 0) = false := decide_eq_false (by omega)
        have hr1 : res.take 1 = [n] := by
          have := hL.hd
          rcases res with _ | ⟨z, zs⟩
          · simp at hm0
          · simp at this; simp [this]
        (repeat' ((conv => whnf); first | refine goD ?_ | refine U.lw_c (fun hb => ?_) (fun hb => ?_)))
        (conv => whnf)
        refine loop_inv (α := List Nat × Bool) (fun x => ∃ j, j < res.length ∧ x.1 = res.take (j + 1)) (fun x => (mkF [(1, .pointer (some ⟨0, 0, none⟩)), (2, .slice none 0 0), (3, .int .i64 n), (4, imS (iL way)), (8, .slice (some ⟨2, 0, none⟩) x.1.length x.1.length), (9, .int .i64 ((res.length - x.1.length : Nat) : Int))], ⟨mkO [(0, some (.cells 34 [imS (sL nm), imS (gL st)] false)), (2, some (.cells 3 (iL (nL x.1)) x.2))], 3, 0, 0⟩)) (fun x => res.length - x.1.length) ([n], false) ⟨0, hm0, hr1.symm⟩ (Cov.renO (fun k => if k = 2 then 1 else k) rfl rfl (Nat.le_of_ble_eq_true rfl) (Nat.zero_le _) (fun k hk => by have : k < 2 := hk; rw [if_neg (by omega)]) rfl (fun k hk => absurd hk (Nat.not_lt_zero k)) (.cons rfl (.row _ _ _ _ (cleanG_cells ⟨nm, st⟩) rfl) (.cons rfl (.row _ _ _ _ (cleanIl0 _) rfl) .nil)) (.cons rfl (.P rfl) (.cons rfl (.F rfl rfl) (.cons rfl .I (.cons rfl (.clean _ _ (cleanIL _) rfl) (.cons rfl (.S rfl rfl rfl) (.cons rfl (.clean _ _ (cleanI _) (congrArg (Value.int .i64) (hbest.symm))) .nil))))))) ?_
        rintro ⟨X, op⟩ ⟨j, hj, hX⟩
        dsimp only at hX
        dsimp only
        have hXl : X.length = j + 1 := by rw [hX, List.length_take]; omega
        rcases Nat.lt_or_ge (j + 1) res.length with hjm | hjm
        · have g5 : decide (((res.length - X.length : Nat) : Int) > 0) = true := decide_eq_true (by omega)
          obtain ⟨a, ha⟩ : ∃ a, res[j]? = some a := ⟨_, List.getElem?_eq_getElem hj⟩
          obtain ⟨b, hb'⟩ : ∃ b, res[j + 1]? = some b := ⟨_, List.getElem?_eq_getElem hjm⟩
          have hal := hL.lt a (List.mem_of_getElem? ha)
          obtain ⟨he1, he2, he3⟩ := hL.st j a b ha hb'
          have hwb2 := hway (res.length - (j + 2)) (j + 1) b (by omega) (by omega) hb'
          obtain ⟨ra, hra⟩ : ∃ ra, rows[a]? = some ra := ⟨_, List.getElem?_eq_getElem hal⟩
          have hrad : rows.getD a [] = ra := by simp [hra]
          have hram := List.mem_of_getElem? hra
          have hral := (hok ra hram).2.1
          have hrars := hrise ra hram
          rw [hrad] at he2
          have hbm : (b : Int) ∈ ra := by rw [← hrad]; exact he1
          have c3 := cCal a (by omega)
          rw [hrad] at c3
          have hXj : X[j]? = some a := by rw [hX, List.getElem?_take_of_lt (by omega)]; exact ha
          have hn1 := iL_nth0 (L := nL X) (i := j) (by rw [nL_len]; omega)
          rw [gt0_nL hXj] at hn1
          have hkw : IntKind.i64.wrap ((X.length : Int) - 1) = (j : Int) := by rw [IntKind.wrap_i64]; omega
          have hjb : j.blt X.length = true := bLe (by omega)
          have hlw : IntKind.i64.wrap (((res.length - X.length : Nat) : Int) - 1) = ((res.length - (X.length + 1) : Nat) : Int) := by rw [IntKind.wrap_i64]; omega
          (repeat' ((conv => whnf); first | refine goA ?_ | rw [hkw] | (conv in (nth _ _) => (change nth _ (0 + j * 1); rw [hn1])) | refine goB ?_ | refine U.SoundAt.u (c3) clN ?_ | refine U.SoundC.u (c3) clN ?_ | refine U.drawX_p (D := U.propX) 9 [] (by decide +kernel) (by decide +kernel) ?_ | refine U.lw_c (fun hb => ?_) (fun hb => ?_)))
          (conv => whnf)
          refine loop_inv (α := List Int × List Int) (fun y => y.1 ++ y.2 = ra ∧ ∀ x : Nat, (x : Int) ∈ y.1 → gt0 way x ≠ gt0 way b) (fun y => (mkF [(1, .pointer (some ⟨0, 0, none⟩)), (2, .slice none 0 0), (3, .int .i64 n), (4, imS (iL way)), (5, imS (iL ra)), (8, .slice (some ⟨2, 0, none⟩) X.length X.length), (9, .int .i64 ((res.length - X.length : Nat) : Int)), (10, .int .i64 y.1.length)], ⟨mkO [(0, some (.cells 34 [imS (sL nm), imS (gL st)] false)), (2, some (.cells 3 (iL (nL X)) op))], 3, 0, 0⟩)) (fun y => y.2.length) ([], ra) ⟨rfl, fun x h => (by cases h)⟩ (Cov.renI rfl rfl rfl rfl (.cons rfl (.row _ _ _ _ (cleanG_cells ⟨nm, st⟩) rfl) (.cons rfl (.row _ _ _ _ (cleanIl0 _) rfl) .nil)) (.cons rfl (.P rfl) (.cons rfl (.F rfl rfl) (.cons rfl .I (.cons rfl (.clean _ _ (cleanIL _) rfl) (.cons rfl (.clean _ _ (cleanIL _) rfl) (.cons rfl (.S rfl rfl rfl) (.cons rfl .I (.cons rfl .I .nil))))))))) ?_
          rintro ⟨p', q'⟩ ⟨p2, p3⟩
          dsimp only at p2 p3
          dsimp only
          rcases q' with _ | ⟨t, q'⟩
          · rw [List.append_nil] at p2
            subst p2
            exact absurd rfl (p3 b hbm)
          · have hral2 := hral
            rw [← p2] at hral2
            obtain ⟨h5b, h5c, h5n, h5w⟩ := U.at4 iL_map p' (t) q' (hral2)
            rw [p2] at h5b h5c h5n
            obtain ⟨w, rfl, hw⟩ := hb ra hram t (by rw [← p2]; simp)
            have hwb : w.blt (iL way).length = true := by rw [iL_len, hwl]; exact bLe (by omega)
            have hwx := iL_at (l := way) (i := w) (by omega)
            by_cases heq : gt0 way w = gt0 way b
            · have g6 : (gt0 way w == ((res.length - X.length : Nat) : Int)) = true := by rw [heq, hwb2]; simp; omega
              have hwe : w = b := by
                rcases he2 with ⟨e, _⟩ | ⟨b', e, h1, h2, h3⟩
                · omega
                · have : b = b' := Int.ofNat_inj.1 e
                  subst this
                  rcases h3 w (by rw [← p2]; simp) (by omega) with h4 | ⟨_, h4⟩
                  · omega
                  · rw [← p2] at hbm hrars
                    rcases List.mem_append.1 hbm with h6 | h6
                    · exact absurd rfl (p3 b h6)
                    · rcases List.mem_cons.1 h6 with h6 | h6
                      · omega
                      · have h7 := (List.pairwise_cons.1 (List.pairwise_append.1 hrars).2.1).1 (b : Int) h6
                        omega
              subst hwe
              have hX2 : X ++ [w] = res.take (j + 1 + 1) := by rw [take_snoc hb', hX]
              have hXl2 : (X ++ [w]).length = X.length + 1 := by simp
              rcases X with _ | ⟨y, ys⟩
              · simp at hXl
              have hyl : (iL (nL (y :: ys))).length = (y :: ys).length * (0 + 1) := by rw [iL_len, nL_len]; simp
              have hys : ys.length + 1 ≤ 29000 := by simp at hXl; omega
              have hb7 : (Nat.ble ((ys.length + 1 + (0 + 1)) * 8) 140737488355328 && Nat.ble (ys.length + 1 + (0 + 1)) 1000000) = true := by
                rw [bLe (by omega), bLe (by omega)]
                rfl
              have hgr : iL (nL (y :: ys ++ [w])) = iL (nL (y :: ys)) ++ [Value.int .i64 (w : Int)] := by simp [iL, nL]
              (repeat' ((conv => whnf); first | refine goA ?_ | refine U.ob_c hb7 ?_ | (rw [ble_f]; dsimp only; refine growRow_p hyl rfl ?_) | refine goB ?_ | refine U.lw_c (fun hb => ?_) (fun hb => ?_)))
              rw [ble_f]
              dsimp only
              cases op
              · dsimp only
                rw [dropL_eq]
                refine takeA_p hyl ?_
                refine U.catC_p ?_
                (repeat' ((conv => whnf); first | refine goD ?_ | refine U.lw_c (fun hb => ?_) (fun hb => ?_)))
                (conv => whnf)
                refine ⟨(y :: ys ++ [w], true), ⟨j + 1, hjm, hX2⟩, by dsimp only; rw [hXl2]; omega, ?_⟩
                exact (Cov.renO (fun k => if k = 2 then 4 else k) rfl rfl (Nat.le_of_ble_eq_true rfl) (Nat.zero_le _) (fun k hk => by have : k < 2 := hk; rw [if_neg (by omega)]) rfl (fun k hk => absurd hk (Nat.not_lt_zero k)) (.cons rfl (.row _ _ _ _ (cleanG_cells ⟨nm, st⟩) rfl) (.cons rfl (.row _ _ _ _ (cleanIl0 _) (hgr)) .nil)) (.cons rfl (.P rfl) (.cons rfl (.F rfl rfl) (.cons rfl .I (.cons rfl (.clean _ _ (cleanIL _) rfl) (.cons rfl (.sl _ _ _ _ _ _ _ (by decide) rfl ((by simp)) ((by simp))) (.cons rfl (.clean _ _ (cleanI _) (congrArg (Value.int .i64) ((by dsimp only; rw [hXl2]; exact hlw.symm)))) .nil)))))))
              · dsimp only
                refine growRow_p hyl (lo := 0) (b := 2) rfl ?_
                (repeat' ((conv => whnf); first | refine goD ?_ | refine U.lw_c (fun hb => ?_) (fun hb => ?_)))
                (conv => whnf)
                refine ⟨(y :: ys ++ [w], true), ⟨j + 1, hjm, hX2⟩, by dsimp only; rw [hXl2]; omega, ?_⟩
                exact (Cov.renO (fun k => if k = 2 then 4 else k) rfl rfl (Nat.le_of_ble_eq_true rfl) (Nat.zero_le _) (fun k hk => by have : k < 2 := hk; rw [if_neg (by omega)]) rfl (fun k hk => absurd hk (Nat.not_lt_zero k)) (.cons rfl (.row _ _ _ _ (cleanG_cells ⟨nm, st⟩) rfl) (.cons rfl (.row _ _ _ _ (cleanIl0 _) (hgr)) .nil)) (.cons rfl (.P rfl) (.cons rfl (.F rfl rfl) (.cons rfl .I (.cons rfl (.clean _ _ (cleanIL _) rfl) (.cons rfl (.sl _ _ _ _ _ _ _ (by decide) rfl ((by simp)) ((by simp))) (.cons rfl (.clean _ _ (cleanI _) (congrArg (Value.int .i64) ((by dsimp only; rw [hXl2]; exact hlw.symm)))) .nil)))))))
            · have g6 : (gt0 way w == ((res.length - X.length : Nat) : Int)) = false := by
                refine beq_eq_false_iff_ne.2 fun h => heq ?_
                rw [h, hwb2]; omega
              (repeat' ((conv => whnf); first | refine goD ?_ | refine U.lw_c (fun hb => ?_) (fun hb => ?_)))
              (conv => whnf)
              refine ⟨(p' ++ [(w : Int)], q'), ⟨by rw [← p2]; simp, fun x hx => ?_⟩, by simp, ?_⟩
              · rcases List.mem_append.1 hx with hx | hx
                · exact p3 x hx
                · have : x = w := Int.ofNat_inj.1 (by simpa using hx)
                  subst this; exact heq
              · exact (Cov.renI rfl rfl rfl rfl (.cons rfl (.row _ _ _ _ (cleanG_cells ⟨nm, st⟩) rfl) (.cons rfl (.row _ _ _ _ (cleanIl0 _) rfl) .nil)) (.cons rfl (.P rfl) (.cons rfl (.F rfl rfl) (.cons rfl .I (.cons rfl (.clean _ _ (cleanIL _) rfl) (.cons rfl (.clean _ _ (cleanIL _) rfl) (.cons rfl (.S rfl rfl rfl) (.cons rfl .I (.cons rfl (.clean _ _ (cleanI _) (congrArg (Value.int .i64) (h5w.symm))) .nil)))))))))
        · have hXr : X = res := by rw [hX, List.take_of_length_le (by omega)]
          subst hXr
          have g5 : decide (((X.length - X.length : Nat) : Int) > 0) = false := decide_eq_false (by omega)
          (repeat' ((conv => whnf); first | refine goD ?_ | refine U.lw_c (fun hb => ?_) (fun hb => ?_)))
          (conv => whnf)
          exact .rowL (k := 2) (ys := iL (nL X)) (Nat.zero_le _) rfl (by rw [cellsI]) iL_1 (by rw [iL_len, nL_len]) (Nat.le_refl _) (cleanIC _)
      · have hbest := minD_none hT hW hnr hb (hno n (by omega)) (by rw [hrd]; exact hM)
        subst hbest
        have g2 : decide ((-1 : Int) < 0) = true := by decide
        (repeat' ((conv => whnf); first | refine goD ?_ | refine U.lw_c (fun hb => ?_) (fun hb => ?_)))
        (conv => whnf)
        refine ⟨n + 1, by omega, by omega, ?_⟩
        exact (Cov.renI rfl rfl rfl rfl (.cons rfl (.row _ _ _ _ (cleanG_cells ⟨nm, st⟩) rfl) .nil) (.cons rfl (.P rfl) (.cons rfl (.F rfl rfl) (.cons rfl (.clean _ _ (cleanI _) (congrArg (Value.int .i64) (nw.symm))) .nil))))
    · have hrl2 := hrl
      rw [← p1] at hrl2
      obtain ⟨h4b, h4c, h4n, h4w⟩ := U.at4 iL_map p (t) q (hrl2)
      rw [p1] at h4b h4c h4n
      obtain ⟨w, rfl, hw⟩ := hb row hrm t (by rw [← p1]; simp)
      have hwb : w.blt (iL way).length = true := by rw [iL_len, hwl]; exact bLe (by omega)
      have hwx := iL_at (l := way) (i := w) (by omega)
      rcases Int.lt_or_le (gt0 way w) 0 with hneg | hpos
      · have g2 : decide (gt0 way w ≥ 0) = false := decide_eq_false (by omega)
        (repeat' ((conv => whnf); first | refine goD ?_ | refine U.lw_c (fun hb => ?_) (fun hb => ?_)))
        (conv => whnf)
        refine ⟨(p ++ [(w : Int)], q, best), ⟨by rw [← p1]; simp, minD_old hM (.inl hneg)⟩, by simp, ?_⟩
        exact (Cov.renI rfl rfl rfl rfl (.cons rfl (.row _ _ _ _ (cleanG_cells ⟨nm, st⟩) rfl) .nil) (.cons rfl (.P rfl) (.cons rfl (.F rfl rfl) (.cons rfl .I (.cons rfl (.clean _ _ (cleanIL _) rfl) (.cons rfl (.clean _ _ (cleanIL _) rfl) (.cons rfl .I (.cons rfl (.clean _ _ (cleanI _) (congrArg (Value.int .i64) (h4w.symm))) .nil))))))))
      · have g2 : decide (gt0 way w ≥ 0) = true := decide_eq_true (by omega)
        by_cases hbn : best < 0
        · have g3 : decide (best < 0) = true := decide_eq_true hbn
          (repeat' ((conv => whnf); first | refine goD ?_ | refine U.lw_c (fun hb => ?_) (fun hb => ?_)))
          (conv => whnf)
          refine ⟨(p ++ [(w : Int)], q, gt0 way w), ⟨by rw [← p1]; simp, minD_new hM hpos (.inl hbn)⟩, by simp, ?_⟩
          exact (Cov.renI rfl rfl rfl rfl (.cons rfl (.row _ _ _ _ (cleanG_cells ⟨nm, st⟩) rfl) .nil) (.cons rfl (.P rfl) (.cons rfl (.F rfl rfl) (.cons rfl .I (.cons rfl (.clean _ _ (cleanIL _) rfl) (.cons rfl (.clean _ _ (cleanIL _) rfl) (.cons rfl .I (.cons rfl (.clean _ _ (cleanI _) (congrArg (Value.int .i64) (h4w.symm))) .nil))))))))
        · have g3 : decide (best < 0) = false := decide_eq_false hbn
          by_cases hlt : gt0 way w < best
          · have g4 : decide (gt0 way w < best) = true := decide_eq_true hlt
            (repeat' ((conv => whnf); first | refine goD ?_ | refine U.lw_c (fun hb => ?_) (fun hb => ?_)))
            (conv => whnf)
            refine ⟨(p ++ [(w : Int)], q, gt0 way w), ⟨by rw [← p1]; simp, minD_new hM hpos (.inr hlt)⟩, by simp, ?_⟩
            exact (Cov.renI rfl rfl rfl rfl (.cons rfl (.row _ _ _ _ (cleanG_cells ⟨nm, st⟩) rfl) .nil) (.cons rfl (.P rfl) (.cons rfl (.F rfl rfl) (.cons rfl .I (.cons rfl (.clean _ _ (cleanIL _) rfl) (.cons rfl (.clean _ _ (cleanIL _) rfl) (.cons rfl .I (.cons rfl (.clean _ _ (cleanI _) (congrArg (Value.int .i64) (h4w.symm))) .nil))))))))
          · have g4 : decide (gt0 way w < best) = false := decide_eq_false hlt
            (repeat' ((conv => whnf); first | refine goD ?_ | refine U.lw_c (fun hb => ?_) (fun hb => ?_)))
            (conv => whnf)
            refine ⟨(p ++ [(w : Int)], q, best), ⟨by rw [← p1]; simp, minD_old (best := best) hM (.inr ⟨by omega, by omega⟩)⟩, by simp, ?_⟩
            exact (Cov.renI rfl rfl rfl rfl (.cons rfl (.row _ _ _ _ (cleanG_cells ⟨nm, st⟩) rfl) .nil) (.cons rfl (.P rfl) (.cons rfl (.F rfl rfl) (.cons rfl .I (.cons rfl (.clean _ _ (cleanIL _) rfl) (.cons rfl (.clean _ _ (cleanIL _) rfl) (.cons rfl .I (.cons rfl (.clean _ _ (cleanI _) (congrArg (Value.int .i64) (h4w.symm))) .nil))))))))
  · have hnn : n = nm.length := by omega
    subst hnn
    have g1 : decide ((nm.length : Int) < ((sL nm).length : Int)) = false := by rw [sL_len]; simp
    have hre : res = [] := by
      rcases hres with ⟨_, h⟩ | ⟨h, _⟩
      · exact h
      · omega
    subst hre
    (repeat' ((conv => whnf); first | refine goD ?_ | refine U.lw_c (fun hb => ?_) (fun hb => ?_)))
    (conv => whnf)
    exact .nil
end Go.Proofs.YthekpmpcbidjiaaGreat
