
import Derived.Test.YthekpmpcbidjiaaGreatT29
import Derived.Test.YthekpmpcbidjiaaGreatT33
import Derived.Test.YthekpmpcbidjiaaGreatT37
import Derived.Test.YthekpmpcbidjiaaGreatT41
namespace Go.Proofs.YthekpmpcbidjiaaGreat
open Go Go.RowKit Go.Sort U
set_option linter.unusedVariables false
set_option linter.unusedSimpArgs false
theorem turned_at {rows : List (List Int)} {v : Nat} (hv : v < rows.length) : (turnedR rows).getD v [] = froms rows v := by
  simp [turnedR, hv]
theorem tur_turned {rows : List (List Int)} (hb : okB rows) : Tur rows (turnedR rows) := by
  refine ⟨by simp [turnedR], fun u v => ?_⟩
  constructor
  · intro h
    unfold ES at h
    rcases Nat.lt_or_ge v rows.length with hv | hv
    · rw [turned_at hv, froms_mem] at h
      obtain ⟨i, hi, e, hm⟩ := h
      have : u = i := Int.ofNat_inj.1 e
      subst this; exact hm
    · rw [List.getD_eq_getElem?_getD, List.getElem?_eq_none (by simp [turnedR]; exact hv)] at h
      simp at h
  · intro h
    have hv := es_lt hb h
    unfold ES at h ⊢
    rw [turned_at hv, froms_mem]
    refine ⟨u, ?_, rfl, h⟩
    rcases Nat.lt_or_ge u rows.length with hu | hu
    · exact hu
    · rw [List.getD_eq_getElem?_getD, List.getElem?_eq_none hu] at h
      simp at h
theorem okB_turned (rows : List (List Int)) : okB (turnedR rows) := by
  intro r hr x hx
  obtain ⟨c, hc, rfl⟩ := List.mem_map.1 hr
  obtain ⟨i, hi, e, _⟩ := froms_mem.1 hx
  exact ⟨i, e, by simpa [turnedR] using hi⟩
end Go.Proofs.YthekpmpcbidjiaaGreat
namespace Go.Proofs.YthekpmpcbidjiaaGreat
open Go Go.RowKit Go.Sort U
set_option linter.unusedVariables false
set_option linter.unusedSimpArgs false
set_option maxRecDepth 100000
set_option maxHeartbeats 4000000
def RingQ (rows : List (List Int)) (u : Value) : Prop := (u = imS (iL []) ∧ ∀ w, w < rows.length → ¬ Cyc rows w) ∨ ∃ (v : Nat) (way : List Int) (L : List Nat), u = imS (iL (nL L)) ∧ v < rows.length ∧ Cyc rows v ∧ (∀ w, w < rows.length → Cyc rows w → v ≤ w) ∧ farOk (turnedR rows) v way ∧ RingOk rows way v L
theorem rg_len {rows : List (List Int)} {way : List Int} {v node : Nat} {pre : List Nat} (h : Rg rows way v pre node) (h0 : gt0 way v = 0) : (pre ++ [node]).length ≤ rows.length := nodup_len (h.nodup h0) h.lt
theorem callees_rise (g : Gz) : ∀ r ∈ calleesR g, r.Pairwise (· < ·) := fun r hr => by
  obtain ⟨s, _, rfl⟩ := List.mem_map.1 hr
  rw [rowR, List.pairwise_map]
  exact (List.pairwise_lt_range.filter _).imp fun h => by omega
theorem ring_e (g : Gz) (hg : okG g) (hst : g.st.length ≤ 29000) (hs : sumL g.st ≤ 500000) (hR : rightG g = true) : DenE Tryz.prog 14 [encG g] (RingQ (calleesR g)) := by
  refine denE_of_sound hmixU fun Ts => SoundAt.body hmixU Tryz.func14 rfl rfl rfl 0 ?_
  have c1 := cright_d g hg
  rw [hR] at c1
  have c2 := callees_d g hg hR (by omega) hs
  have hR2 := hR
  simp only [rightG, Bool.and_eq_true, decide_eq_true_eq] at hR2
  have hok : okRows (calleesR g).length (calleesR g) := callees_ok g hR2.1 (Nat.le_trans hg.1 (by unfold maxI; omega))
  have hcl : (calleesR g).length = g.st.length := by simp [calleesR]
  have htl : (turnedR (calleesR g)).length = g.st.length := by simp [turnedR, calleesR]
  have c3 := turned_d (calleesR g) (by simp [calleesR]; omega) hok
  have hb : okB (calleesR g) := fun r hr x hx => (hok r hr).2.2 x hx
  have hbl : ∀ r ∈ turnedR (calleesR g), r.length ≤ maxI := fun r hr => by
    obtain ⟨c, _, rfl⟩ := List.mem_map.1 hr
    exact Nat.le_trans (froms_len _ _) (by rw [hcl]; unfold maxI; omega)
  have c4 := start_e (calleesR g) (turnedR (calleesR g)) hb (okB_turned _) (tur_turned hb) (by omega) (fun r hr => (hok r hr).2.1) (fun r hr => hbl r hr)
  obtain ⟨nm, st⟩ := g
  dsimp only at hcl htl hst hs
  have cg := cleanG ⟨nm, st⟩
  have cr := cleanGL (calleesR ⟨nm, st⟩)
  have ct := cleanGL (turnedR (calleesR ⟨nm, st⟩))
  (repeat' ((conv => whnf); first | refine goA ?_ | refine U.SoundAt.e c4 clN ?_ | refine goB ?_ | refine U.SoundAt.u (c1) clN ?_ | refine U.SoundAt.u (c2) clN ?_ | refine U.SoundAt.u (c3) clN ?_ | refine U.SoundC.u (c1) clN ?_ | refine U.SoundC.u (c2) clN ?_ | refine U.SoundC.u (c3) clN ?_ | refine U.drawX_p (D := U.propX) 20 [] (by decide +kernel) (by decide +kernel) ?_ | refine U.lw_c (fun hb => ?_) (fun hb => ?_)))
  rintro u ⟨least, rfl, hS⟩
  rcases hS with ⟨rfl, hno⟩ | ⟨v, rfl, hv, hcy, hmin⟩
  · have g1 : decide ((-1 : Int) < 0) = true := by decide
    (repeat' ((conv => whnf); first | refine goD ?_ | refine U.lw_c (fun hb => ?_) (fun hb => ?_)))
    (conv => whnf)
    exact ⟨imS [], .inl ⟨rfl, hno⟩, .nil⟩
  · have g1 : decide ((v : Int) < 0) = false := by simp
    have c5 := far_e (turnedR (calleesR ⟨nm, st⟩)) v (okB_turned _) (by omega) (by omega) hbl
    (repeat' ((conv => whnf); first | refine goA ?_ | refine U.SoundAt.e c5 clN ?_ | refine goB ?_ | refine U.lw_c (fun hb => ?_) (fun hb => ?_)))
    rintro u ⟨way, rfl, hW⟩
    (repeat' ((conv => whnf); first | refine goD ?_ | refine U.lw_c (fun hb => ?_) (fun hb => ?_)))
    (conv => whnf)
    have hvt : v < (turnedR (calleesR ⟨nm, st⟩)).length := by omega
    have hT := tur_turned hb
    have hb2 := okB_turned (calleesR ⟨nm, st⟩)
    have hv0 := far_v hW hvt
    have hwl : way.length = st.length := by rw [hW.1]; exact htl
    have hrise := callees_rise ⟨nm, st⟩
    clear c1 c2 c3 c4 c5
    generalize hrows : calleesR ⟨nm, st⟩ = rows at *
    have hrl0 : rows.length ≤ 29000 := by omega
    refine loop_inv (α := List Nat × Nat × Bool) (fun x => ∃ pre, x.1 = pre ++ [x.2.1] ∧ Rg rows way v pre x.2.1) (fun x => (mkF [(2, .slice none 0 0), (3, imS (gL rows)), (4, imS (gL (turnedR rows))), (5, .int .i64 v), (6, imS (iL way)), (7, .slice (some ⟨2, 0, none⟩) x.1.length x.1.length), (8, .int .i64 x.2.1)], ⟨mkO [(0, some (.cells 25 [imS (sL nm), imS (gL st)] false)), (2, some (.cells 3 (iL (nL x.1)) x.2.2))], 3, 0, 0⟩)) (fun x => st.length + 1 - x.1.length) ([v], v, false) ⟨[], rfl, rg_init (by omega)⟩ (Cov.renO (fun k => if k = 2 then 1 else k) rfl rfl (Nat.le_of_ble_eq_true rfl) (Nat.zero_le _) (fun k hk => by have : k < 2 := hk; rw [if_neg (by omega)]) rfl (fun k hk => absurd hk (Nat.not_lt_zero k)) (.cons rfl (.row _ _ _ _ (cleanG_cells ⟨nm, st⟩) rfl) (.cons rfl (.row _ _ _ _ (cleanIl0 _) rfl) .nil)) (.cons rfl (.F rfl rfl) (.cons rfl (.clean _ _ (cleanGL _) rfl) (.cons rfl (.clean _ _ (cleanGL _) rfl) (.cons rfl .I (.cons rfl (.clean _ _ (cleanIL _) rfl) (.cons rfl (.S rfl rfl rfl) (.cons rfl .I .nil)))))))) ?_
    rintro ⟨L, node, op⟩ ⟨pre, p1, hG⟩
    dsimp only at p1 hG
    dsimp only
    have hLn := rg_len hG hv0
    rw [← p1] at hLn
    have hnd := hG.lt node (by simp)
    obtain ⟨row, hrw⟩ : ∃ row, rows[node]? = some row := ⟨_, List.getElem?_eq_getElem hnd⟩
    have hrd : rows.getD node [] = row := by simp [hrw]
    have hrm := List.mem_of_getElem? hrw
    have hrl := (hok row hrm).2.1
    have hrs := hrise row hrm
    have hnb : node.blt (gL rows).length = true := by rw [gL_len]; exact bLe hnd
    have hnx : nth (gL rows) node = some (imS (iL row)) := by rw [nth_eq, gL]; simp [hrw]
    (repeat' ((conv => whnf); first | refine goD ?_ | refine U.lw_c (fun hb => ?_) (fun hb => ?_)))
    (conv => whnf)
    refine loop_inv (α := List Int × List Int × Int) (fun y => y.1 ++ y.2.1 = row ∧ Bst way y.1 y.2.2) (fun y => (mkF [(2, .slice none 0 0), (3, imS (gL rows)), (4, imS (gL (turnedR rows))), (5, .int .i64 v), (6, imS (iL way)), (7, .slice (some ⟨2, 0, none⟩) L.length L.length), (8, .int .i64 node), (9, .int .i64 y.2.2), (33, imS (iL row)), (34, .int .i64 (iL row).length), (35, .int .i64 y.1.length)], ⟨mkO [(0, some (.cells 25 [imS (sL nm), imS (gL st)] false)), (2, some (.cells 3 (iL (nL L)) op))], 3, 0, 0⟩)) (fun y => y.2.1.length) ([], row, -1) ⟨rfl, bst_nil way⟩ (Cov.renI rfl rfl rfl rfl (.cons rfl (.row _ _ _ _ (cleanG_cells ⟨nm, st⟩) rfl) (.cons rfl (.row _ _ _ _ (cleanIl0 _) rfl) .nil)) (.cons rfl (.F rfl rfl) (.cons rfl (.clean _ _ (cleanGL _) rfl) (.cons rfl (.clean _ _ (cleanGL _) rfl) (.cons rfl .I (.cons rfl (.clean _ _ (cleanIL _) rfl) (.cons rfl (.S rfl rfl rfl) (.cons rfl .I (.cons rfl .I (.cons rfl (.clean _ _ (cleanIL _) rfl) (.cons rfl .I (.cons rfl .I .nil)))))))))))) ?_
    rintro ⟨p, q, best⟩ ⟨p2, hB⟩
    dsimp only at p2 hB
    dsimp only
    rcases q with _ | ⟨t, q⟩
    · rw [List.append_nil] at p2
      subst p2
      have h4b := U.lt_no iL_map p
      rw [← hrd] at hB
      obtain ⟨b, rfl, h1, h2, h3, h4⟩ := hG.near hT hb hb2 hW (by omega) hcy hB
      have g2 : decide ((b : Int) < 0) = false := by simp
      have hbb : b.blt (iL way).length = true := by rw [iL_len, hwl]; exact bLe (by omega)
      have hbx := iL_at (l := way) (i := b) (by omega)
      by_cases hz : gt0 way b = 0
      · have hbv := far_zero hW (by rw [htl]; omega) hz
        subst hbv
        have g3 : (gt0 way b == 0) = true := by rw [hz]; rfl
        (repeat' ((conv => whnf); first | refine goD ?_ | refine U.lw_c (fun hb => ?_) (fun hb => ?_)))
        (conv => whnf)
        have hfin := hG.fin hv0 h2 hB
        rw [← p1] at hfin
        exact ⟨imS (iL (nL L)), .inr ⟨b, way, L, rfl, hv, hcy, hmin, hW, hfin⟩, .rowL (k := 2) (ys := iL (nL L)) (Nat.zero_le _) rfl (by rw [cellsI]) iL_1 (by rw [iL_len, nL_len]) (Nat.le_refl _) (cleanIC _)⟩
      · have g3 : (gt0 way b == 0) = false := beq_eq_false_iff_ne.2 hz
        have hG2 := hG.next h1 h2 hB (by omega) h4
        have hLn2 := rg_len hG2 hv0
        rw [← p1] at hG2 hLn2
        rcases L with _ | ⟨y, ys⟩
        · simp at p1
        have hyl : (iL (nL (y :: ys))).length = (y :: ys).length * (0 + 1) := by rw [iL_len, nL_len]; simp
        have hys : ys.length + 1 ≤ 29000 := by simp at hLn; omega
        have hb7 : (Nat.ble ((ys.length + 1 + (0 + 1)) * 8) 140737488355328 && Nat.ble (ys.length + 1 + (0 + 1)) 1000000) = true := by
          rw [bLe (by omega), bLe (by omega)]
          rfl
        have hgr : iL (nL (y :: ys ++ [b])) = iL (nL (y :: ys)) ++ [Value.int .i64 (b : Int)] := by simp [iL, nL]
        (repeat' ((conv => whnf); first | refine goA ?_ | refine U.ob_c hb7 ?_ | (rw [ble_f]; dsimp only; refine growRow_p hyl rfl ?_) | refine goB ?_ | refine U.lw_c (fun hb => ?_) (fun hb => ?_)))
        rw [ble_f]
        dsimp only
        cases op
        · dsimp only
          rw [dropL_eq]
          refine takeA_p hyl ?_
          refine U.catC_p ?_
          (repeat' ((conv => whnf); first | refine goD ?_ | refine U.lw_c (fun hb => ?_) (fun hb => ?_)))
          (conv => whnf)
          refine ⟨(y :: ys ++ [b], b, true), ⟨y :: ys, rfl, hG2⟩, by dsimp only; rw [List.length_append, List.length_singleton] at hLn2 ⊢; omega, ?_⟩
          exact (Cov.renO (fun k => if k = 2 then 4 else k) rfl rfl (Nat.le_of_ble_eq_true rfl) (Nat.zero_le _) (fun k hk => by have : k < 2 := hk; rw [if_neg (by omega)]) rfl (fun k hk => absurd hk (Nat.not_lt_zero k)) (.cons rfl (.row _ _ _ _ (cleanG_cells ⟨nm, st⟩) rfl) (.cons rfl (.row _ _ _ _ (cleanIl0 _) (hgr)) .nil)) (.cons rfl (.F rfl rfl) (.cons rfl (.clean _ _ (cleanGL _) rfl) (.cons rfl (.clean _ _ (cleanGL _) rfl) (.cons rfl .I (.cons rfl (.clean _ _ (cleanIL _) rfl) (.cons rfl (.sl _ _ _ _ _ _ _ (by decide) rfl ((by simp)) ((by simp))) (.cons rfl .I .nil))))))))
        · dsimp only
          refine growRow_p hyl (lo := 0) (b := 2) rfl ?_
          (repeat' ((conv => whnf); first | refine goD ?_ | refine U.lw_c (fun hb => ?_) (fun hb => ?_)))
          (conv => whnf)
          refine ⟨(y :: ys ++ [b], b, true), ⟨y :: ys, rfl, hG2⟩, by dsimp only; rw [List.length_append, List.length_singleton] at hLn2 ⊢; omega, ?_⟩
          exact (Cov.renO (fun k => if k = 2 then 4 else k) rfl rfl (Nat.le_of_ble_eq_true rfl) (Nat.zero_le _) (fun k hk => by have : k < 2 := hk; rw [if_neg (by omega)]) rfl (fun k hk => absurd hk (Nat.not_lt_zero k)) (.cons rfl (.row _ _ _ _ (cleanG_cells ⟨nm, st⟩) rfl) (.cons rfl (.row _ _ _ _ (cleanIl0 _) (hgr)) .nil)) (.cons rfl (.F rfl rfl) (.cons rfl (.clean _ _ (cleanGL _) rfl) (.cons rfl (.clean _ _ (cleanGL _) rfl) (.cons rfl .I (.cons rfl (.clean _ _ (cleanIL _) rfl) (.cons rfl (.sl _ _ _ _ _ _ _ (by decide) rfl ((by simp)) ((by simp))) (.cons rfl .I .nil))))))))
    · have hrl2 := hrl
      rw [← p2] at hrl2
      obtain ⟨h4b, h4c, h4n, h4w⟩ := U.at4 iL_map p (t) q (hrl2)
      rw [p2] at h4b h4c h4n
      obtain ⟨w, rfl, hw⟩ := hb row hrm t (by rw [← p2]; simp)
      have hpw : (p ++ [(w : Int)]).Pairwise (· < ·) := by
        rw [← p2, show p ++ (w : Int) :: q = (p ++ [(w : Int)]) ++ q by simp] at hrs
        exact (List.pairwise_append.1 hrs).1
      have hwb : w.blt (iL way).length = true := by rw [iL_len, hwl]; exact bLe (by omega)
      have hwx := iL_at (l := way) (i := w) (by omega)
      have hold : ∀ b' : Nat, best = b' → gt0 way b' ≤ gt0 way w → Bst way (p ++ [(w : Int)]) best := fun b' e1 e2 => bst_old hB hpw (.inr ⟨b', e1, e2⟩)
      rcases Int.lt_or_le (gt0 way w) 0 with hneg | hpos
      · have g2 : decide (gt0 way w ≥ 0) = false := decide_eq_false (by omega)
        (repeat' ((conv => whnf); first | refine goD ?_ | refine U.drawX_p (D := U.propX) 20 [] (by decide +kernel) (by decide +kernel) ?_ | refine U.lw_c (fun hb => ?_) (fun hb => ?_)))
        (conv => whnf)
        refine ⟨(p ++ [(w : Int)], q, best), ⟨by rw [← p2]; simp, bst_old hB hpw (.inl hneg)⟩, by simp, ?_⟩
        exact (Cov.renI rfl rfl rfl rfl (.cons rfl (.row _ _ _ _ (cleanG_cells ⟨nm, st⟩) rfl) (.cons rfl (.row _ _ _ _ (cleanIl0 _) rfl) .nil)) (.cons rfl (.F rfl rfl) (.cons rfl (.clean _ _ (cleanGL _) rfl) (.cons rfl (.clean _ _ (cleanGL _) rfl) (.cons rfl .I (.cons rfl (.clean _ _ (cleanIL _) rfl) (.cons rfl (.S rfl rfl rfl) (.cons rfl .I (.cons rfl .I (.cons rfl (.clean _ _ (cleanIL _) rfl) (.cons rfl .I (.cons rfl (.clean _ _ (cleanI _) (congrArg (Value.int .i64) (h4w.symm))) .nil))))))))))))
      · have g2 : decide (gt0 way w ≥ 0) = true := decide_eq_true (by omega)
        have hB0 := hB
        rcases hB0 with ⟨rfl, _⟩ | ⟨b, rfl, hbm, hb0, _⟩
        · have g3 : decide ((-1 : Int) < 0) = true := by decide
          (repeat' ((conv => whnf); first | refine goD ?_ | refine U.drawX_p (D := U.propX) 20 [] (by decide +kernel) (by decide +kernel) ?_ | refine U.lw_c (fun hb => ?_) (fun hb => ?_)))
          (conv => whnf)
          refine ⟨(p ++ [(w : Int)], q, w), ⟨by rw [← p2]; simp, bst_new hB hpos (.inl (by decide))⟩, by simp, ?_⟩
          exact (Cov.renI rfl rfl rfl rfl (.cons rfl (.row _ _ _ _ (cleanG_cells ⟨nm, st⟩) rfl) (.cons rfl (.row _ _ _ _ (cleanIl0 _) rfl) .nil)) (.cons rfl (.F rfl rfl) (.cons rfl (.clean _ _ (cleanGL _) rfl) (.cons rfl (.clean _ _ (cleanGL _) rfl) (.cons rfl .I (.cons rfl (.clean _ _ (cleanIL _) rfl) (.cons rfl (.S rfl rfl rfl) (.cons rfl .I (.cons rfl .I (.cons rfl (.clean _ _ (cleanIL _) rfl) (.cons rfl .I (.cons rfl (.clean _ _ (cleanI _) (congrArg (Value.int .i64) (h4w.symm))) .nil))))))))))))
        · have g3 : decide ((b : Int) < 0) = false := by simp
          have hbl : b < st.length := by
            obtain ⟨b', e1, e2⟩ := hb row hrm (b : Int) (by rw [← p2]; simp [hbm])
            omega
          have hbb : b.blt (iL way).length = true := by rw [iL_len, hwl]; exact bLe (by omega)
          have hbx := iL_at (l := way) (i := b) (by omega)
          by_cases hlt : gt0 way w < gt0 way b
          · have g4 : decide (gt0 way w < gt0 way b) = true := decide_eq_true hlt
            (repeat' ((conv => whnf); first | refine goD ?_ | refine U.drawX_p (D := U.propX) 20 [] (by decide +kernel) (by decide +kernel) ?_ | refine U.lw_c (fun hb => ?_) (fun hb => ?_)))
            (conv => whnf)
            refine ⟨(p ++ [(w : Int)], q, w), ⟨by rw [← p2]; simp, bst_new hB hpos (.inr ⟨b, rfl, hlt⟩)⟩, by simp, ?_⟩
            exact (Cov.renI rfl rfl rfl rfl (.cons rfl (.row _ _ _ _ (cleanG_cells ⟨nm, st⟩) rfl) (.cons rfl (.row _ _ _ _ (cleanIl0 _) rfl) .nil)) (.cons rfl (.F rfl rfl) (.cons rfl (.clean _ _ (cleanGL _) rfl) (.cons rfl (.clean _ _ (cleanGL _) rfl) (.cons rfl .I (.cons rfl (.clean _ _ (cleanIL _) rfl) (.cons rfl (.S rfl rfl rfl) (.cons rfl .I (.cons rfl .I (.cons rfl (.clean _ _ (cleanIL _) rfl) (.cons rfl .I (.cons rfl (.clean _ _ (cleanI _) (congrArg (Value.int .i64) (h4w.symm))) .nil))))))))))))
          · have g4 : decide (gt0 way w < gt0 way b) = false := decide_eq_false hlt
            (repeat' ((conv => whnf); first | refine goD ?_ | refine U.drawX_p (D := U.propX) 20 [] (by decide +kernel) (by decide +kernel) ?_ | refine U.lw_c (fun hb => ?_) (fun hb => ?_)))
            (conv => whnf)
            refine ⟨(p ++ [(w : Int)], q, b), ⟨by rw [← p2]; simp, bst_old hB hpw (.inr ⟨b, rfl, by omega⟩)⟩, by simp, ?_⟩
            exact (Cov.renI rfl rfl rfl rfl (.cons rfl (.row _ _ _ _ (cleanG_cells ⟨nm, st⟩) rfl) (.cons rfl (.row _ _ _ _ (cleanIl0 _) rfl) .nil)) (.cons rfl (.F rfl rfl) (.cons rfl (.clean _ _ (cleanGL _) rfl) (.cons rfl (.clean _ _ (cleanGL _) rfl) (.cons rfl .I (.cons rfl (.clean _ _ (cleanIL _) rfl) (.cons rfl (.S rfl rfl rfl) (.cons rfl .I (.cons rfl .I (.cons rfl (.clean _ _ (cleanIL _) rfl) (.cons rfl .I (.cons rfl (.clean _ _ (cleanI _) (congrArg (Value.int .i64) (h4w.symm))) .nil))))))))))))
end Go.Proofs.YthekpmpcbidjiaaGreat
