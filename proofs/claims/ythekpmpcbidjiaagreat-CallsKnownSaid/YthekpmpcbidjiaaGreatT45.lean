
import Derived.Test.YthekpmpcbidjiaaGreatT31
import Derived.Test.YthekpmpcbidjiaaGreatT38
namespace Go.Proofs.YthekpmpcbidjiaaGreat
open Go Go.RowKit Go.Sort U
set_option linter.unusedVariables false
set_option linter.unusedSimpArgs false
set_option maxRecDepth 100000
set_option maxHeartbeats 4000000
def ofN : Value := .func (.func 59) ⟨[]⟩ ⟨[.pointer (some ⟨8, 0, none⟩), .pointer (some ⟨4, 0, none⟩), .pointer (some ⟨9, 0, none⟩), .pointer (some ⟨6, 0, none⟩)]⟩
def ruN : Value := .func (.func 45) ⟨[]⟩ ⟨[.pointer (some ⟨1, 0, none⟩), .pointer (some ⟨0, 0, none⟩), .pointer (some ⟨2, 0, none⟩)]⟩
def stVX (lo : Nat) (g : Gz) (own : List Int) (ats : List (List Int)) (n : Nat) (F B : List Value) : AS := ⟨mkO [(0, some (.cells 25 [imS (sL g.nm), imS (gL g.st)] false)), (1, some (.cells 26 [imS (iL own)] false)), (2, some (.cells 23 [imS (gL ats)] false)), (3, some (.cells 25 [imS (sL g.nm), imS (gL g.st)] false)), (4, some (.cells 84 [ruN] false)), (5, some (.cells 3 F false)), (6, some (.cells 26 [.slice (some ⟨5, 0, none⟩) n n] false)), (7, some (.cells 4 B false)), (8, some (.cells 109 [.slice (some ⟨7, 0, none⟩) n n] false)), (9, some (.cells 83 [ofN] false))], 10, lo, 0⟩
def stV (lo : Nat) (g : Gz) (own : List Int) (ats : List (List Int)) (n : Nat) (F : List Int) (B : List Bool) : AS := stVX lo g own ats n (iL F) (blL B)
theorem ofn_known (lo : Nat) (g : Gz) (own : List Int) (ats : List (List Int)) (F : List Int) (B : List Bool) (n j : Nat) (hF : F.length = n) (hB : B.length = n) (hj : j < n) (hk : B.getD j false = true) {K : Value → AS → Prop} (hK : K (.int .i64 (gt0 F j)) (stV lo g own ats n F B)) : SoundAt Tryz.prog 59 [.int .i64 (j : Int), .pointer (some ⟨8, 0, none⟩), .pointer (some ⟨4, 0, none⟩), .pointer (some ⟨9, 0, none⟩), .pointer (some ⟨6, 0, none⟩)] (stV lo g own ats n F B) K := by
  refine SoundAt.body hmixU Tryz.func59 rfl rfl rfl 0 ?_
  have hjb : j.blt n = true := bLe hj
  have n1 := blL_nth (l := B) (i := j) (by omega)
  have n2 := iL_nth0 (L := F) (i := j) (by omega)
  rw [hk] at n1
  (repeat' ((conv => whnf); first | refine goA ?_ | (conv in (nth _ _) => (change nth _ (0 + j * 1); rw [n1])) | (conv in (nth _ _) => (change nth _ (0 + j * 1); rw [n2])) | refine goB ?_ | refine U.lw_c (fun hb => ?_) (fun hb => ?_)))
  (conv => whnf)
  exact hK
theorem rule_n (lo : Nat) (g : Gz) (own : List Int) (ats : List (List Int)) (F : List Int) (B : List Bool) (n u : Nat) (row arow : List Int) (hrw : g.st[u]? = some row) (har : ats[u]? = some arow) (hal : arow.length = row.length) (hrl : row.length ≤ maxI) (hF : F.length = n) (hB : B.length = n) (hn : n = g.st.length) (hown : own.length = n) (hFu : okN F) (hk : ∀ t ∈ row, ∃ j : Nat, t = (j : Int) ∧ j < n ∧ B.getD j false = true) {K : Value → AS → Prop} (hK : K (.int .i64 (nst1 own ats g.st F u)) (stV lo g own ats n F B)) : SoundAt Tryz.prog 45 [.int .i64 (u : Int), ofN, .pointer (some ⟨1, 0, none⟩), .pointer (some ⟨0, 0, none⟩), .pointer (some ⟨2, 0, none⟩)] (stV lo g own ats n F B) K := by
  refine SoundAt.body hmixU Tryz.func45 rfl rfl rfl 0 ?_
  have hul : u < n := by rw [hn]; exact (List.getElem?_eq_some_iff.1 hrw).1
  have hua : u < ats.length := (List.getElem?_eq_some_iff.1 har).1
  have hub : u.blt (gL g.st).length = true := by rw [gL_len, ← hn]; exact bLe hul
  have hun : nth (gL g.st) u = some (imS (iL row)) := by rw [nth_eq, gL]; simp [hrw]
  have hab : u.blt (gL ats).length = true := by rw [gL_len]; exact bLe hua
  have han : nth (gL ats) u = some (imS (iL arow)) := by rw [nth_eq, gL]; simp [har]
  have hob : u.blt (iL own).length = true := by rw [iL_len, hown]; exact bLe hul
  have hon := iL_at (l := own) (i := u) (by omega)
  have hrd : g.st.getD u [] = row := by simp [hrw]
  have hard : ats.getD u [] = arow := by simp [har]
  have c2 := brought_d (gt0 own u)
  (repeat' ((conv => whnf); first | refine goD ?_ | refine U.SoundAt.u (c2) clN ?_ | refine U.SoundC.u (c2) clN ?_ | refine U.lw_c (fun hb => ?_) (fun hb => ?_)))
  (conv => whnf)
  refine loop_inv (α := List Int × List Int) (fun y => y.1 ++ y.2 = row) (fun y => (mkF [(0, .int .i64 (u : Int)), (1, ofN), (4, .pointer (some ⟨2, 0, none⟩)), (7, .int .i64 0), (8, .int .i64 (nstF F (y.1.zip arow) (brg (gt0 own u)))), (20, imS (iL row)), (21, .int .i64 (iL row).length), (22, .int .i64 y.1.length)], stV lo g own ats n F B)) (fun y => y.2.length) ([], row) rfl (Cov.slots (s := stV lo g own ats n F B) (Nat.le_refl _) ⟨rfl, rfl, rfl, rfl, rfl, rfl, rfl, rfl, trivial⟩) ?_
  rintro ⟨p, q⟩ p3
  dsimp only at p3
  dsimp only
  rcases q with _ | ⟨t, q⟩
  · rw [List.append_nil] at p3
    subst p3
    have h4b := U.lt_no iL_map p
    (repeat' ((conv => whnf); first | refine goD ?_ | refine U.lw_c (fun hb => ?_) (fun hb => ?_)))
    (conv => whnf)
    rw [nst1, hrd, hard] at hK
    exact hK
  · have hrl2 := hrl
    rw [← p3] at hrl2
    obtain ⟨h4b, h4c, h4n, h4w⟩ := U.at4 iL_map p (t) q (hrl2)
    rw [p3] at h4b h4c h4n
    obtain ⟨j, rfl, hjn, hjk⟩ := hk t (by rw [← p3]; simp)
    have hpl : p.length < arow.length := by rw [hal, ← p3]; simp
    have hub2 : p.length.blt (iL arow).length = true := by rw [iL_len]; exact bLe hpl
    have han2 := iL_at (l := arow) (i := p.length) hpl
    have hzs := zip_snoc (t := (j : Int)) hpl
    have hFj := okN_at hFu j
    have hss : nstF F ((p ++ [(j : Int)]).zip arow) (brg (gt0 own u)) = max (nstF F (p.zip arow) (brg (gt0 own u))) (brg (brg (gt0 arow p.length) + gt0 F j)) := by
      rw [hzs]; simp [nstF]
    generalize nstF F (p.zip arow) (brg (gt0 own u)) = s0 at *
    have c3 := brought_d (gt0 arow p.length)
    have c4 := brought_d (IntKind.i64.wrap (brg (gt0 arow p.length) + gt0 F j))
    rw [brg_wrap _ _ hFj] at c4
    have ew := brg_wrap (gt0 arow p.length) (gt0 F j) hFj
    (repeat' ((conv => whnf); first | refine goA ?_ | refine ofn_known lo g own ats F B n j hF hB hjn hjk ?_ | rw [ew] | refine goB ?_ | refine U.SoundAt.u (c3) clN ?_ | refine U.SoundAt.u (c4) clN ?_ | refine U.SoundC.u (c3) clN ?_ | refine U.SoundC.u (c4) clN ?_ | refine U.lw_c (fun hb => ?_) (fun hb => ?_)))
    (conv => whnf)
    exact ⟨(p ++ [(j : Int)], q), by rw [← p3]; simp, by simp, Cov.slots (s := stV lo g own ats n F B) (Nat.le_refl _) ⟨rfl, rfl, rfl, rfl, congrArg some (congrArg (Value.int .i64) (by rw [hss, max_if])), rfl, rfl, congrArg some (congrArg (Value.int .i64) h4w), trivial⟩⟩
theorem told_n (lo : Nat) (g : Gz) (own : List Int) (ats : List (List Int)) (F : List Int) (B : List Bool) (n : Nat) : ∀ k b, (stV lo g own ats n F B).heap.get k = some b → RenB 10 ⟨fun k => k, fun _ _ => False⟩ b b := told_of (.cons rfl (.row _ _ _ _ (cleanG_cells g) rfl) (.cons rfl (.cells _ _ _ _ (.cons (.clean _ _ (cleanIL _) rfl) .nil)) (.cons rfl (.cells _ _ _ _ (.cons (.clean _ _ (cleanGL _) rfl) .nil)) (.cons rfl (.row _ _ _ _ (cleanG_cells g) rfl) (.cons rfl (.cells _ _ _ _ (.cons (.fnL .nil (.cons (.P rfl) (.cons (.P rfl) (.cons (.P rfl) .nil)))) .nil)) (.cons rfl (.row _ _ _ _ (cleanIl0 _) rfl) (.cons rfl (.cells _ _ _ _ (.cons (.sl _ _ _ _ _ _ _ (by decide) rfl rfl rfl) .nil)) (.cons rfl (.row _ _ _ _ (cleanBq _) rfl) (.cons rfl (.cells _ _ _ _ (.cons (.sl _ _ _ _ _ _ _ (by decide) rfl rfl rfl) .nil)) (.cons rfl (.cells _ _ _ _ (.cons (.fnL .nil (.cons (.P rfl) (.cons (.P rfl) (.cons (.P rfl) (.cons (.P rfl) .nil))))) .nil)) .nil))))))))))
theorem rule_nc (lo : Nat) (g : Gz) (own : List Int) (ats : List (List Int)) (F : List Int) (B : List Bool) (n u : Nat) (row arow : List Int) (hrw : g.st[u]? = some row) (har : ats[u]? = some arow) (hal : arow.length = row.length) (hrl : row.length ≤ maxI) (hF : F.length = n) (hB : B.length = n) (hn : n = g.st.length) (hown : own.length = n) (hFu : okN F) (hk : ∀ t ∈ row, ∃ j : Nat, t = (j : Int) ∧ j < n ∧ B.getD j false = true) {K : Value → AS → Prop} (hK : K (.int .i64 (nst1 own ats g.st F u)) (stV lo g own ats n F B)) : SoundC Tryz.prog 45 [.int .i64 (u : Int), ofN, .pointer (some ⟨1, 0, none⟩), .pointer (some ⟨0, 0, none⟩), .pointer (some ⟨2, 0, none⟩)] (stV lo g own ats n F B) K :=
  .ofAt (.cons .I (.cons (.fnL .nil (.cons (.ptr _ _ _ (Nat.le_of_ble_eq_true rfl) rfl) (.cons (.ptr _ _ _ (Nat.le_of_ble_eq_true rfl) rfl) (.cons (.ptr _ _ _ (Nat.le_of_ble_eq_true rfl) rfl) (.cons (.ptr _ _ _ (Nat.le_of_ble_eq_true rfl) rfl) .nil))))) (.cons (.ptr _ _ _ (Nat.le_of_ble_eq_true rfl) rfl) (.cons (.ptr _ _ _ (Nat.le_of_ble_eq_true rfl) rfl) (.cons (.ptr _ _ _ (Nat.le_of_ble_eq_true rfl) rfl) .nil))))) (told_n lo g own ats F B n) (Nat.zero_le _) (rule_n lo g own ats F B n u row arow hrw har hal hrl hF hB hn hown hFu hk ⟨rfl, rfl⟩) hK
theorem ofn_new (g : Gz) (own : List Int) (ats : List (List Int)) (F : List Int) (B : List Bool) (n u : Nat) (row arow : List Int) (hrw : g.st[u]? = some row) (har : ats[u]? = some arow) (hal : arow.length = row.length) (hrl : row.length ≤ maxI) (hF : F.length = n) (hB : B.length = n) (hn : n = g.st.length) (hown : own.length = n) (hFu : okN F) (hk : ∀ t ∈ row, ∃ j : Nat, t = (j : Int) ∧ j < n ∧ B.getD j false = true) (hnk : B.getD u false = false) {K : Value → AS → Prop} (hK : ∀ v, K v (stV 0 g own ats n (F.set u (nst1 own ats g.st F u)) (B.set u true))) : SoundAt Tryz.prog 59 [.int .i64 (u : Int), .pointer (some ⟨8, 0, none⟩), .pointer (some ⟨4, 0, none⟩), .pointer (some ⟨9, 0, none⟩), .pointer (some ⟨6, 0, none⟩)] (stV 0 g own ats n F B) K := by
  refine SoundAt.body hmixU Tryz.func59 rfl rfl rfl 0 ?_
  have hul : u < n := by rw [hn]; exact (List.getElem?_eq_some_iff.1 hrw).1
  have hjb : u.blt n = true := bLe hul
  have n1 := blL_nth (l := B) (i := u) (by omega)
  rw [hnk] at n1
  have hst1 : ∀ v : Value, 0 + u * 1 + [v].length ≤ (iL F).length := fun v => by rw [iL_len, hF, List.length_singleton]; omega
  have hst2 : ∀ v : Value, 0 + u * 1 + [v].length ≤ (blL B).length := fun v => by rw [blL_len, hB, List.length_singleton]; omega
  have es1 := iL_store0 (L := F) (i := u) (x := nst1 own ats g.st F u) (by omega)
  have es2 := blL_store (L := B) (i := u) (x := true) (by omega)
  have n2 : nth ((iL F).take (0 + u * 1) ++ [Value.int .i64 (nst1 own ats g.st F u)] ++ (iL F).drop (0 + u * 1 + [Value.int .i64 (nst1 own ats g.st F u)].length)) (0 + u * 1) = some (.int .i64 (nst1 own ats g.st F u)) := by
    rw [es1, iL_nth0 (by rw [List.length_set]; omega)]
    simp [gt0, hF, hul]
  (repeat' ((conv => whnf); first | refine goA ?_ | (conv in (nth _ _) => (change nth _ (0 + u * 1); rw [n1])) | refine rule_nc 10 g own ats F B n u row arow hrw har hal hrl hF hB hn hown hFu hk ?_ | refine U.storeC_p (hst1 _) ?_ | refine U.storeC_p (hst2 _) ?_ | (conv in (nth _ _) => (change nth ((iL F).take (0 + u * 1) ++ [Value.int .i64 (nst1 own ats g.st F u)] ++ (iL F).drop (0 + u * 1 + [Value.int .i64 (nst1 own ats g.st F u)].length)) (0 + u * 1); rw [n2])) | refine goB ?_ | refine U.drawX_p (D := U.propX) 7 [] (by decide +kernel) (by decide +kernel) ?_ | refine U.lw_c (fun hb => ?_) (fun hb => ?_)))
  (conv => whnf)
  have := hK (retC [.int .i64 (nst1 own ats g.st F u)])
  rw [stV, ← es1, ← es2] at this
  exact this
def fitB (st ats : List (List Int)) : Bool := decide (ats.length = st.length) && (List.range st.length).all fun v => decide ((ats.getD v []).length = (st.getD v []).length)
theorem fitB_iff {st ats : List (List Int)} : fitB st ats = true ↔ okAt st ats := by
  simp [fitB, okAt]
def nesV (g : Gz) (own : List Int) (ats : List (List Int)) : List Int := if (decide (own.length = g.st.length) && fitB g.st ats && (ordG g).2) = true then foldO (nst1 own ats g.st) (ordG g).1 (List.replicate g.st.length 0) else []
theorem frz_nil {P : Program} {s : AS} {l : List Int} (h : l = []) : FrzV P s (retC [.slice none 0 0]) (imS (iL l)) := by
  subst h
  exact .nil
theorem nested_d (g : Gz) (own : List Int) (ats : List (List Int)) (hg : okG g) (hst : g.st.length ≤ 29000) (hs : sumL g.st ≤ 500000) (hol : own.length ≤ maxI) (hal0 : ats.length ≤ maxI) (har0 : ∀ r ∈ ats, r.length ≤ maxI) : DenU Tryz.prog [] 23 [encG g, imS (iL own), imS (gL ats)] (imS (iL (nesV g own ats))) := by
  refine denU_of_sound hmixU fun Ts => SoundAt.body hmixU Tryz.func23 rfl rfl rfl 0 ?_
  have c1 := order_g g hg hst hs
  by_cases h1 : own.length = g.st.length
  · have hne : (((iL own).length : Int) != ((gL g.st).length : Int)) = false := by rw [iL_len, gL_len, h1]; simp
    by_cases h2 : ats.length = g.st.length
    · have hne2 : (((gL ats).length : Int) != ((gL g.st).length : Int)) = false := by rw [gL_len, gL_len, h2]; simp
      have hO := ordG_ok g
      have hv : nesV g own ats = if ((List.range g.st.length).all fun v => decide ((ats.getD v []).length = (g.st.getD v []).length)) = true ∧ (ordG g).2 = true then foldO (nst1 own ats g.st) (ordG g).1 (List.replicate g.st.length 0) else [] := by
        unfold nesV fitB
        simp only [h1, h2, decide_true, Bool.true_and, Bool.and_eq_true]
      rw [hv]
      clear hv
      have hlg := fun h => ordG_len (g := g) h
      have hgr := hg.2.2
      obtain ⟨nm, st⟩ := g
      have cg := cleanG ⟨nm, st⟩
      dsimp only at hne hne2 h1 h2 hst hO hlg hgr ⊢
      have g2 : st.length ≤ maxI := by unfold maxI; omega
      (repeat' ((conv => whnf); first | refine goD ?_ | refine U.lw_c (fun hb => ?_) (fun hb => ?_)))
      (conv => whnf)
      refine loop_inv (α := List (List Int) × List (List Int)) (fun x => x.1 ++ x.2 = st ∧ ∀ v : Nat, v < x.1.length → (ats.getD v []).length = (st.getD v []).length) (fun x => (mkF [(3, .pointer (some ⟨0, 0, none⟩)), (4, .pointer (some ⟨1, 0, none⟩)), (5, .pointer (some ⟨2, 0, none⟩)), (6, .slice none 0 0), (24, imS (gL st)), (25, .int .i64 (gL st).length), (26, .int .i64 x.1.length)], ⟨mkO [(0, some (.cells 25 [imS (sL nm), imS (gL st)] false)), (1, some (.cells 26 [imS (iL own)] false)), (2, some (.cells 23 [imS (gL ats)] false))], 3, 0, 0⟩)) (fun x => x.2.length) ([], st) ⟨rfl, fun v hv => by cases hv⟩ (Cov.renI rfl rfl rfl rfl (.cons rfl (.row _ _ _ _ (cleanG_cells ⟨nm, st⟩) rfl) (.cons rfl (.cells _ _ _ _ (.cons (.clean _ _ (cleanIL _) rfl) .nil)) (.cons rfl (.cells _ _ _ _ (.cons (.clean _ _ (cleanGL _) rfl) .nil)) .nil))) (.cons rfl (.P rfl) (.cons rfl (.P rfl) (.cons rfl (.P rfl) (.cons rfl (.F rfl rfl) (.cons rfl (.clean _ _ (cleanGL _) rfl) (.cons rfl .I (.cons rfl .I .nil)))))))) ?_
      rintro ⟨pre, rest⟩ ⟨p1, p2⟩
      dsimp only at p1 p2
      dsimp only
      rcases rest with _ | ⟨x, rest⟩
      · rw [List.append_nil] at p1
        replace p1 := p1.symm
        subst p1
        have hfit : ((List.range st.length).all fun v => decide ((ats.getD v []).length = (st.getD v []).length)) = true := List.all_eq_true.2 fun v hv => decide_eq_true (p2 v (List.mem_range.1 hv))
        have h3b := U.lt_no gL_map st
        rw [hfit]
        generalize hOG : ordG ⟨nm, st⟩ = O at *
        obtain ⟨ord, ok⟩ := O
        dsimp only at hO hlg ⊢
        (repeat' ((conv => whnf); first | refine goD ?_ | refine U.lw_c (fun hb => ?_) (fun hb => ?_)))
        (conv => whnf)
        refine SoundAt.body hmixU Tryz.func39 rfl rfl rfl 0 ?_
        cases ok
        · (repeat' ((conv => whnf); first | refine goD ?_ | refine U.SoundAt.u (c1) clN ?_ | refine U.SoundC.u (c1) clN ?_ | refine U.lw_c (fun hb => ?_) (fun hb => ?_)))
          (conv => whnf)
          exact frz_nil (by simp)
        · have hlo := hlg rfl
          have hown := h1
          have hat : okAt st ats := ⟨h2, p2⟩
          rw [if_pos ⟨rfl, rfl⟩]
          have hmf := mk_full (zs := [.int .i64 0]) (n := (iL ord).length) (b := 8) rfl rfl (by decide) (by rw [iL_len, hlo]; omega)
          have hmb := mk_full (zs := [.bool false]) (n := (iL ord).length) (b := 1) rfl rfl (by decide) (by rw [iL_len, hlo]; omega)
          (repeat' ((conv => whnf); first | refine U.ob_c hmf ?_ | refine U.ob_c hmb ?_ | refine goA ?_ | refine U.spineC_p ?_ | refine goB ?_ | refine U.SoundAt.u (c1) clN ?_ | refine U.SoundC.u (c1) clN ?_ | refine U.lw_c (fun hb => ?_) (fun hb => ?_)))
          (conv => whnf)
          have hn : (iL ord).length = st.length := by rw [iL_len]; exact hlo
          have hFin : ∀ pre, (foldO (nst1 own ats st) pre (List.replicate st.length 0)).length = st.length := fun pre => by rw [foldO_len]; simp
          refine loop_inv (α := List Int × List Int) (fun x => x.1 ++ x.2 = ord) (fun x => (mkF [(4, .slice none 0 0), (7, .pointer (some ⟨6, 0, none⟩)), (9, .pointer (some ⟨9, 0, none⟩)), (26, imS (iL ord)), (27, .int .i64 (iL ord).length), (28, .int .i64 x.1.length)], stV 0 ⟨nm, st⟩ own ats (iL ord).length (foldO (nst1 own ats st) x.1 (List.replicate st.length 0)) (knO st.length x.1))) (fun x => x.2.length) ([], ord) rfl ?_ ?_
          · have eF : iL (foldO (nst1 own ats st) [] (List.replicate st.length 0)) = repX (((iL ord).length : Nat) : Int).toNat [.int .i64 0] := by
              rw [foldO_nil, iL_zero, ← hn]; rfl
            have eB : blL (knO st.length []) = repX (((iL ord).length : Nat) : Int).toNat [.bool false] := by
              rw [knO_nil, ← hn]; rfl
            show Cov _ _ _ _ _ _ (stVX 0 ⟨nm, st⟩ own ats (iL ord).length (iL (foldO (nst1 own ats st) [] (List.replicate st.length 0))) (blL (knO st.length [])))
            rw [eF, eB]
            exact Cov.slots (Nat.le_refl _) ⟨rfl, rfl, rfl, rfl, rfl, rfl, trivial⟩
          rintro ⟨pre, rest⟩ p1
          dsimp only at p1
          dsimp only
          rcases rest with _ | ⟨x, rest⟩
          · rw [List.append_nil] at p1
            subst p1
            have h3b := U.lt_no iL_map pre
            (repeat' ((conv => whnf); first | refine goD ?_ | refine U.lw_c (fun hb => ?_) (fun hb => ?_)))
            (conv => whnf)
            exact .rowL (k := 5) (Nat.zero_le _) rfl (by rw [cellsI]) iL_1 (by rw [iL_len, iL_len, hFin]; exact hlo) (Nat.le_refl _) (cleanIC _)
          · have hpo : (pre ++ x :: rest).length ≤ maxI := by rw [p1, hlo]; unfold maxI; omega
            obtain ⟨h3b, h3c, h3n, h3w⟩ := U.at4 iL_map pre (x) rest (hpo)
            rw [p1] at h3b h3c h3n
            obtain ⟨u, hul, rfl⟩ := hO.inn x (by rw [← p1]; simp)
            obtain ⟨row, hrw⟩ : ∃ row, st[u]? = some row := ⟨st[u], by simp [hul]⟩
            have hrd : st.getD u [] = row := by simp [hrw]
            obtain ⟨arow, har⟩ : ∃ row, ats[u]? = some row := ⟨ats[u]'(by rw [hat.1]; exact hul), by simp [hat.1, hul]⟩
            have hal : arow.length = row.length := by
              have := hat.2 u hul
              rwa [show ats.getD u [] = arow by simp [har], hrd] at this
            have hrl : row.length ≤ maxI := hgr row (List.mem_of_getElem? hrw)
            have hnu : (u : Int) ∉ pre := fun h => by
              have := hO.nd
              rw [← p1] at this
              exact (List.nodup_append.1 this).2.2 _ h (u : Int) (by simp) rfl
            have hfs := foldO_snoc (nst1 own ats st) pre (List.replicate st.length 0) (u : Int)
            rw [show ((u : Nat) : Int).toNat = u from rfl] at hfs
            (repeat' ((conv => whnf); first | refine goD ?_ | refine U.lw_c (fun hb => ?_) (fun hb => ?_)))
            (conv => whnf)
            refine ofn_new ⟨nm, st⟩ own ats _ _ (iL ord).length u row arow hrw har hal hrl (by rw [hFin, hn]) (by rw [knO_len, hn]) hn (by rw [hown, hn]) (foldN_ok own ats st pre (okN_zero st.length)) (fun t ht => ?_) (by rw [knO_at hul]; exact decide_eq_false hnu) fun v => ?_
            · have hm := hO.cl pre rest u p1.symm t (by rw [hrd]; exact ht)
              obtain ⟨j, hj, rfl⟩ := hO.inn t (by rw [← p1]; exact List.mem_append_left _ hm)
              exact ⟨j, rfl, by rw [hn]; exact hj, by rw [knO_at hj]; exact decide_eq_true hm⟩
            (repeat' ((conv => whnf); first | refine goD ?_ | refine U.lw_c (fun hb => ?_) (fun hb => ?_)))
            (conv => whnf)
            refine ⟨(pre ++ [(u : Int)], rest), by rw [← p1]; simp, by simp, ?_⟩
            dsimp only
            rw [hfs, knO_snoc]
            refine Cov.slots (s := stV 0 ⟨nm, st⟩ own ats (iL ord).length ((foldO (nst1 own ats st) pre (List.replicate st.length 0)).set u (nst1 own ats st (foldO (nst1 own ats st) pre (List.replicate st.length 0)) u)) ((knO st.length pre).set u true)) (Nat.le_of_ble_eq_true rfl) ?_
            exact ⟨rfl, rfl, rfl, rfl, rfl, congrArg some (congrArg (Value.int .i64) h3w), trivial⟩
      · have hpl : pre.length < st.length := by rw [← p1]; simp
        rw [← p1] at g2
        obtain ⟨h3b, h3c, h3n, h3w⟩ := U.at4 gL_map pre (x) rest (g2)
        rw [p1] at h3b h3c h3n
        have hpa : pre.length < ats.length := by rw [h2]; exact hpl
        obtain ⟨arow, har⟩ : ∃ row, ats[pre.length]? = some row := ⟨ats[pre.length], by simp [hpa]⟩
        have hab : pre.length.blt (gL ats).length = true := by rw [gL_len]; exact bLe hpa
        have han : nth (gL ats) pre.length = some (imS (iL arow)) := by rw [nth_eq, gL]; simp [har]
        have hx : st.getD pre.length [] = x := by rw [← p1]; simp
        have ha : ats.getD pre.length [] = arow := by simp [har]
        by_cases h4 : arow.length = x.length
        · have g4 : (((iL arow).length : Int) != ((iL x).length : Int)) = false := by rw [iL_len, iL_len, h4]; simp
          (repeat' ((conv => whnf); first | refine goD ?_ | refine U.lw_c (fun hb => ?_) (fun hb => ?_)))
          (conv => whnf)
          refine ⟨(pre ++ [x], rest), ⟨by rw [← p1]; simp, fun v hv => ?_⟩, by simp, Cov.slots (s := ⟨mkO [(0, some (.cells 25 [imS (sL nm), imS (gL st)] false)), (1, some (.cells 26 [imS (iL own)] false)), (2, some (.cells 23 [imS (gL ats)] false))], 3, 0, 0⟩) (Nat.le_of_ble_eq_true rfl) ⟨rfl, rfl, rfl, rfl, rfl, rfl, congrArg some (congrArg (Value.int .i64) h3w), trivial⟩⟩
          by_cases hv2 : v = pre.length
          · subst hv2
            rw [hx, ha, h4]
          · exact p2 v (by simp at hv; omega)
        · have g4 : (((iL arow).length : Int) != ((iL x).length : Int)) = true := by rw [iL_len, iL_len]; simp; omega
          (repeat' ((conv => whnf); first | refine goD ?_ | refine U.lw_c (fun hb => ?_) (fun hb => ?_)))
          (conv => whnf)
          refine frz_nil (if_neg fun h => h4 ?_)
          have := List.all_eq_true.1 h.1 pre.length (List.mem_range.2 hpl)
          rw [hx, ha] at this
          exact of_decide_eq_true this
    · have hne2 : (((gL ats).length : Int) != ((gL g.st).length : Int)) = true := by rw [gL_len, gL_len]; simp; omega
      have hv : nesV g own ats = [] := by simp [nesV, fitB, h2]
      rw [hv]
      obtain ⟨nm, st⟩ := g
      dsimp only at hne hne2
      (repeat' ((conv => whnf); first | refine goD ?_ | refine U.lw_c (fun hb => ?_) (fun hb => ?_)))
      (conv => whnf)
      exact frz_nil rfl
  · have hne : (((iL own).length : Int) != ((gL g.st).length : Int)) = true := by rw [iL_len, gL_len]; simp; omega
    have hv : nesV g own ats = [] := by simp [nesV, h1]
    rw [hv]
    obtain ⟨nm, st⟩ := g
    dsimp only at hne
    (repeat' ((conv => whnf); first | refine goD ?_ | refine U.lw_c (fun hb => ?_) (fun hb => ?_)))
    (conv => whnf)
    exact frz_nil rfl
end Go.Proofs.YthekpmpcbidjiaaGreat
