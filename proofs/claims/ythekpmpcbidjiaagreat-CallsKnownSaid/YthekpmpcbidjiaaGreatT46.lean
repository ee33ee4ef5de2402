
import Derived.Test.YthekpmpcbidjiaaGreatT38
import Derived.Test.YthekpmpcbidjiaaGreatT44
import Derived.Test.YthekpmpcbidjiaaGreatT45
namespace Go.Proofs.YthekpmpcbidjiaaGreat
open Go Go.RowKit Go.Sort U
set_option linter.unusedVariables false
set_option linter.unusedSimpArgs false
set_option maxRecDepth 100000
set_option maxHeartbeats 4000000
def ofD : Value := .func (.func 59) ⟨[]⟩ ⟨[.pointer (some ⟨6, 0, none⟩), .pointer (some ⟨2, 0, none⟩), .pointer (some ⟨7, 0, none⟩), .pointer (some ⟨4, 0, none⟩)]⟩
def ruD : Value := .func (.func 40) ⟨[]⟩ ⟨[.pointer (some ⟨0, 0, none⟩)]⟩
def stDX (lo : Nat) (g : Gz) (n : Nat) (F B : List Value) : AS := ⟨mkO [(0, some (.cells 25 [imS (sL g.nm), imS (gL g.st)] false)), (1, some (.cells 25 [imS (sL g.nm), imS (gL g.st)] false)), (2, some (.cells 84 [ruD] false)), (3, some (.cells 3 F false)), (4, some (.cells 26 [.slice (some ⟨3, 0, none⟩) n n] false)), (5, some (.cells 4 B false)), (6, some (.cells 109 [.slice (some ⟨5, 0, none⟩) n n] false)), (7, some (.cells 83 [ofD] false))], 8, lo, 0⟩
def stD (lo : Nat) (g : Gz) (n : Nat) (F : List Int) (B : List Bool) : AS := stDX lo g n (iL F) (blL B)
theorem ofd_known (lo : Nat) (g : Gz) (F : List Int) (B : List Bool) (n j : Nat) (hF : F.length = n) (hB : B.length = n) (hj : j < n) (hk : B.getD j false = true) {K : Value → AS → Prop} (hK : K (.int .i64 (gt0 F j)) (stD lo g n F B)) : SoundAt Tryz.prog 59 [.int .i64 (j : Int), .pointer (some ⟨6, 0, none⟩), .pointer (some ⟨2, 0, none⟩), .pointer (some ⟨7, 0, none⟩), .pointer (some ⟨4, 0, none⟩)] (stD lo g n F B) K := by
  refine SoundAt.body hmixU Tryz.func59 rfl rfl rfl 0 ?_
  have hjb : j.blt n = true := bLe hj
  have n1 := blL_nth (l := B) (i := j) (by omega)
  have n2 := iL_nth0 (L := F) (i := j) (by omega)
  rw [hk] at n1
  (repeat' ((conv => whnf); first | refine goA ?_ | (conv in (nth _ _) => (change nth _ (0 + j * 1); rw [n1])) | (conv in (nth _ _) => (change nth _ (0 + j * 1); rw [n2])) | refine goB ?_ | refine U.lw_c (fun hb => ?_) (fun hb => ?_)))
  (conv => whnf)
  exact hK
theorem rule_d (lo : Nat) (g : Gz) (F : List Int) (B : List Bool) (n u m : Nat) (row : List Int) (hrw : g.st[u]? = some row) (hrl : row.length ≤ maxI) (hF : F.length = n) (hB : B.length = n) (hn : n = g.st.length) (hFu : okD m F) (hm : m ≤ 29000) (hk : ∀ t ∈ row, ∃ j : Nat, t = (j : Int) ∧ j < n ∧ B.getD j false = true) {K : Value → AS → Prop} (hK : K (.int .i64 (dep1 g.st F u)) (stD lo g n F B)) : SoundAt Tryz.prog 40 [.int .i64 (u : Int), ofD, .pointer (some ⟨0, 0, none⟩)] (stD lo g n F B) K := by
  refine SoundAt.body hmixU Tryz.func40 rfl rfl rfl 0 ?_
  have hul : u < n := by rw [hn]; exact (List.getElem?_eq_some_iff.1 hrw).1
  have hub : u.blt (gL g.st).length = true := by rw [gL_len, ← hn]; exact bLe hul
  have hun : nth (gL g.st) u = some (imS (iL row)) := by rw [nth_eq, gL]; simp [hrw]
  have hrd : g.st.getD u [] = row := by simp [hrw]
  (repeat' ((conv => whnf); first | refine goD ?_ | refine U.lw_c (fun hb => ?_) (fun hb => ?_)))
  (conv => whnf)
  refine loop_inv (α := List Int × List Int) (fun y => y.1 ++ y.2 = row) (fun y => (mkF [(0, .int .i64 (u : Int)), (1, ofD), (5, .int .i64 0), (6, .int .i64 (depF F y.1 0)), (13, imS (iL row)), (14, .int .i64 (iL row).length), (15, .int .i64 y.1.length)], stD lo g n F B)) (fun y => y.2.length) ([], row) rfl (Cov.slots (s := stD lo g n F B) (Nat.le_refl _) ⟨rfl, rfl, rfl, rfl, rfl, rfl, rfl, trivial⟩) ?_
  rintro ⟨p, q⟩ p3
  dsimp only at p3
  dsimp only
  rcases q with _ | ⟨t, q⟩
  · rw [List.append_nil] at p3
    subst p3
    have h4b := U.lt_no iL_map p
    (repeat' ((conv => whnf); first | refine goD ?_ | refine U.lw_c (fun hb => ?_) (fun hb => ?_)))
    (conv => whnf)
    rw [dep1, hrd, ← depF_wrap hFu hm] at hK
    exact hK
  · have hrl2 := hrl
    rw [← p3] at hrl2
    obtain ⟨h4b, h4c, h4n, h4w⟩ := U.at4 iL_map p (t) q (hrl2)
    rw [p3] at h4b h4c h4n
    obtain ⟨j, rfl, hjn, hjk⟩ := hk t (by rw [← p3]; simp)
    have hss : depF F (p ++ [(j : Int)]) 0 = max (depF F p 0) (gt0 F j) := by simp [depF]
    generalize depF F p 0 = s0 at *
    (repeat' ((conv => whnf); first | refine goA ?_ | refine ofd_known lo g F B n j hF hB hjn hjk ?_ | refine goB ?_ | refine U.lw_c (fun hb => ?_) (fun hb => ?_)))
    (conv => whnf)
    exact ⟨(p ++ [(j : Int)], q), by rw [← p3]; simp, by simp, Cov.slots (s := stD lo g n F B) (Nat.le_refl _) ⟨rfl, rfl, rfl, congrArg some (congrArg (Value.int .i64) (by rw [hss, max_if])), rfl, rfl, congrArg some (congrArg (Value.int .i64) h4w), trivial⟩⟩
theorem told_d (lo : Nat) (g : Gz) (F : List Int) (B : List Bool) (n : Nat) : ∀ k b, (stD lo g n F B).heap.get k = some b → RenB 8 ⟨fun k => k, fun _ _ => False⟩ b b := told_of (.cons rfl (.row _ _ _ _ (cleanG_cells g) rfl) (.cons rfl (.row _ _ _ _ (cleanG_cells g) rfl) (.cons rfl (.cells _ _ _ _ (.cons (.fnL .nil (.cons (.P rfl) .nil)) .nil)) (.cons rfl (.row _ _ _ _ (cleanIl0 _) rfl) (.cons rfl (.cells _ _ _ _ (.cons (.sl _ _ _ _ _ _ _ (by decide) rfl rfl rfl) .nil)) (.cons rfl (.row _ _ _ _ (cleanBq _) rfl) (.cons rfl (.cells _ _ _ _ (.cons (.sl _ _ _ _ _ _ _ (by decide) rfl rfl rfl) .nil)) (.cons rfl (.cells _ _ _ _ (.cons (.fnL .nil (.cons (.P rfl) (.cons (.P rfl) (.cons (.P rfl) (.cons (.P rfl) .nil))))) .nil)) .nil))))))))
theorem rule_dc (lo : Nat) (g : Gz) (F : List Int) (B : List Bool) (n u m : Nat) (row : List Int) (hrw : g.st[u]? = some row) (hrl : row.length ≤ maxI) (hF : F.length = n) (hB : B.length = n) (hn : n = g.st.length) (hFu : okD m F) (hm : m ≤ 29000) (hk : ∀ t ∈ row, ∃ j : Nat, t = (j : Int) ∧ j < n ∧ B.getD j false = true) {K : Value → AS → Prop} (hK : K (.int .i64 (dep1 g.st F u)) (stD lo g n F B)) : SoundC Tryz.prog 40 [.int .i64 (u : Int), ofD, .pointer (some ⟨0, 0, none⟩)] (stD lo g n F B) K :=
  .ofAt (.cons .I (.cons (.fnL .nil (.cons (.ptr _ _ _ (Nat.le_of_ble_eq_true rfl) rfl) (.cons (.ptr _ _ _ (Nat.le_of_ble_eq_true rfl) rfl) (.cons (.ptr _ _ _ (Nat.le_of_ble_eq_true rfl) rfl) (.cons (.ptr _ _ _ (Nat.le_of_ble_eq_true rfl) rfl) .nil))))) (.cons (.ptr _ _ _ (Nat.le_of_ble_eq_true rfl) rfl) .nil))) (told_d lo g F B n) (Nat.zero_le _) (rule_d lo g F B n u m row hrw hrl hF hB hn hFu hm hk ⟨rfl, rfl⟩) hK
theorem ofd_new (g : Gz) (F : List Int) (B : List Bool) (n u m : Nat) (row : List Int) (hrw : g.st[u]? = some row) (hrl : row.length ≤ maxI) (hF : F.length = n) (hB : B.length = n) (hn : n = g.st.length) (hFu : okD m F) (hm : m ≤ 29000) (hk : ∀ t ∈ row, ∃ j : Nat, t = (j : Int) ∧ j < n ∧ B.getD j false = true) (hnk : B.getD u false = false) {K : Value → AS → Prop} (hK : ∀ v, K v (stD 0 g n (F.set u (dep1 g.st F u)) (B.set u true))) : SoundAt Tryz.prog 59 [.int .i64 (u : Int), .pointer (some ⟨6, 0, none⟩), .pointer (some ⟨2, 0, none⟩), .pointer (some ⟨7, 0, none⟩), .pointer (some ⟨4, 0, none⟩)] (stD 0 g n F B) K := by
  refine SoundAt.body hmixU Tryz.func59 rfl rfl rfl 0 ?_
  have hul : u < n := by rw [hn]; exact (List.getElem?_eq_some_iff.1 hrw).1
  have hjb : u.blt n = true := bLe hul
  have n1 := blL_nth (l := B) (i := u) (by omega)
  rw [hnk] at n1
  have hst1 : ∀ v : Value, 0 + u * 1 + [v].length ≤ (iL F).length := fun v => by rw [iL_len, hF, List.length_singleton]; omega
  have hst2 : ∀ v : Value, 0 + u * 1 + [v].length ≤ (blL B).length := fun v => by rw [blL_len, hB, List.length_singleton]; omega
  have es1 := iL_store0 (L := F) (i := u) (x := dep1 g.st F u) (by omega)
  have es2 := blL_store (L := B) (i := u) (x := true) (by omega)
  have n2 : nth ((iL F).take (0 + u * 1) ++ [Value.int .i64 (dep1 g.st F u)] ++ (iL F).drop (0 + u * 1 + [Value.int .i64 (dep1 g.st F u)].length)) (0 + u * 1) = some (.int .i64 (dep1 g.st F u)) := by
    rw [es1, iL_nth0 (by rw [List.length_set]; omega)]
    simp [gt0, hF, hul]
  (repeat' ((conv => whnf); first | refine goA ?_ | (conv in (nth _ _) => (change nth _ (0 + u * 1); rw [n1])) | refine rule_dc 8 g F B n u m row hrw hrl hF hB hn hFu hm hk ?_ | refine U.storeC_p (hst1 _) ?_ | refine U.storeC_p (hst2 _) ?_ | (conv in (nth _ _) => (change nth ((iL F).take (0 + u * 1) ++ [Value.int .i64 (dep1 g.st F u)] ++ (iL F).drop (0 + u * 1 + [Value.int .i64 (dep1 g.st F u)].length)) (0 + u * 1); rw [n2])) | refine goB ?_ | refine U.drawX_p (D := U.propX) 7 [] (by decide +kernel) (by decide +kernel) ?_ | refine U.lw_c (fun hb => ?_) (fun hb => ?_)))
  (conv => whnf)
  have := hK (retC [.int .i64 (dep1 g.st F u)])
  rw [stD, ← es1, ← es2] at this
  exact this
def depV (g : Gz) : List Int := if (ordG g).2 = true then foldO (dep1 g.st) (ordG g).1 (List.replicate g.st.length 0) else []
theorem deep_d (g : Gz) (hg : okG g) (hst : g.st.length ≤ 29000) (hs : sumL g.st ≤ 500000) : DenU Tryz.prog [] 15 [encG g] (imS (iL (depV g))) := by
  refine denU_of_sound hmixU fun Ts => SoundAt.body hmixU Tryz.func15 rfl rfl rfl 0 ?_
  have c1 := order_g g hg hst hs
  have hO := ordG_ok g
  have hlg := fun h => ordG_len (g := g) h
  have hgr := hg.2.2
  unfold depV
  obtain ⟨nm, st⟩ := g
  have cg := cleanG ⟨nm, st⟩
  dsimp only at hst hO hlg hgr ⊢
  generalize hOG : ordG ⟨nm, st⟩ = O at *
  obtain ⟨ord, ok⟩ := O
  dsimp only at hO hlg ⊢
  (repeat' ((conv => whnf); first | refine goD ?_ | refine U.lw_c (fun hb => ?_) (fun hb => ?_)))
  (conv => whnf)
  refine SoundAt.body hmixU Tryz.func39 rfl rfl rfl 0 ?_
  cases ok
  · (repeat' ((conv => whnf); first | refine goD ?_ | refine U.SoundAt.u (c1) clN ?_ | refine U.SoundC.u (c1) clN ?_ | refine U.lw_c (fun hb => ?_) (fun hb => ?_)))
    (conv => whnf)
    exact frz_nil (by simp)
  · have hlo := hlg rfl
    rw [if_pos rfl]
    have hmf := mk_full (zs := [.int .i64 0]) (n := (iL ord).length) (b := 8) rfl rfl (by decide) (by rw [iL_len, hlo]; omega)
    have hmb := mk_full (zs := [.bool false]) (n := (iL ord).length) (b := 1) rfl rfl (by decide) (by rw [iL_len, hlo]; omega)
    (repeat' ((conv => whnf); first | refine U.ob_c hmf ?_ | refine U.ob_c hmb ?_ | refine goA ?_ | refine U.spineC_p ?_ | refine goB ?_ | refine U.SoundAt.u (c1) clN ?_ | refine U.SoundC.u (c1) clN ?_ | refine U.lw_c (fun hb => ?_) (fun hb => ?_)))
    (conv => whnf)
    have hn : (iL ord).length = st.length := by rw [iL_len]; exact hlo
    have hFin : ∀ pre, (foldO (dep1 st) pre (List.replicate st.length 0)).length = st.length := fun pre => by rw [foldO_len]; simp
    refine loop_inv (α := List Int × List Int) (fun x => x.1 ++ x.2 = ord) (fun x => (mkF [(4, .slice none 0 0), (7, .pointer (some ⟨4, 0, none⟩)), (9, .pointer (some ⟨7, 0, none⟩)), (26, imS (iL ord)), (27, .int .i64 (iL ord).length), (28, .int .i64 x.1.length)], stD 0 ⟨nm, st⟩ (iL ord).length (foldO (dep1 st) x.1 (List.replicate st.length 0)) (knO st.length x.1))) (fun x => x.2.length) ([], ord) rfl ?_ ?_
    · have eF : iL (foldO (dep1 st) [] (List.replicate st.length 0)) = repX (((iL ord).length : Nat) : Int).toNat [.int .i64 0] := by
        rw [foldO_nil, iL_zero, ← hn]; rfl
      have eB : blL (knO st.length []) = repX (((iL ord).length : Nat) : Int).toNat [.bool false] := by
        rw [knO_nil, ← hn]; rfl
      show Cov _ _ _ _ _ _ (stDX 0 ⟨nm, st⟩ (iL ord).length (iL (foldO (dep1 st) [] (List.replicate st.length 0))) (blL (knO st.length [])))
      rw [eF, eB]
      exact Cov.slots (Nat.le_refl _) ⟨rfl, rfl, rfl, rfl, rfl, rfl, trivial⟩
    rintro ⟨pre, rest⟩ p1
    dsimp only at p1
    dsimp only
    rcases rest with _ | ⟨x, rest⟩
    · rw [List.append_nil] at p1
      subst p1
      have h3b := U.lt_no iL_map pre
      (repeat' ((conv => whnf); first | refine goD ?_ | refine U.lw_c (fun hb => ?_) (fun hb => ?_)))
      (conv => whnf)
      exact .rowL (k := 3) (Nat.zero_le _) rfl (by rw [cellsI]) iL_1 (by rw [iL_len, iL_len, hFin]; exact hlo) (Nat.le_refl _) (cleanIC _)
    · have hpo : (pre ++ x :: rest).length ≤ maxI := by rw [p1, hlo]; unfold maxI; omega
      have hpl : pre.length ≤ 29000 := by
        have := congrArg List.length p1
        simp at this
        omega
      obtain ⟨h3b, h3c, h3n, h3w⟩ := U.at4 iL_map pre (x) rest (hpo)
      rw [p1] at h3b h3c h3n
      obtain ⟨u, hul, rfl⟩ := hO.inn x (by rw [← p1]; simp)
      obtain ⟨row, hrw⟩ : ∃ row, st[u]? = some row := ⟨st[u], by simp [hul]⟩
      have hrd : st.getD u [] = row := by simp [hrw]
      have hrl : row.length ≤ maxI := hgr row (List.mem_of_getElem? hrw)
      have hnu : (u : Int) ∉ pre := fun h => by
        have := hO.nd
        rw [← p1] at this
        exact (List.nodup_append.1 this).2.2 _ h (u : Int) (by simp) rfl
      have hfs := foldO_snoc (dep1 st) pre (List.replicate st.length 0) (u : Int)
      rw [show ((u : Nat) : Int).toNat = u from rfl] at hfs
      (repeat' ((conv => whnf); first | refine goD ?_ | refine U.lw_c (fun hb => ?_) (fun hb => ?_)))
      (conv => whnf)
      refine ofd_new ⟨nm, st⟩ _ _ (iL ord).length u (0 + pre.length) row hrw hrl (by rw [hFin, hn]) (by rw [knO_len, hn]) hn (foldD_ok st pre (okD_zero st.length)) (by omega) (fun t ht => ?_) (by rw [knO_at hul]; exact decide_eq_false hnu) fun v => ?_
      · have hm := hO.cl pre rest u p1.symm t (by rw [hrd]; exact ht)
        obtain ⟨j, hj, rfl⟩ := hO.inn t (by rw [← p1]; exact List.mem_append_left _ hm)
        exact ⟨j, rfl, by rw [hn]; exact hj, by rw [knO_at hj]; exact decide_eq_true hm⟩
      (repeat' ((conv => whnf); first | refine goD ?_ | refine U.lw_c (fun hb => ?_) (fun hb => ?_)))
      (conv => whnf)
      refine ⟨(pre ++ [(u : Int)], rest), by rw [← p1]; simp, by simp, ?_⟩
      dsimp only
      rw [hfs, knO_snoc]
      refine Cov.slots (s := stD 0 ⟨nm, st⟩ (iL ord).length ((foldO (dep1 st) pre (List.replicate st.length 0)).set u (dep1 st (foldO (dep1 st) pre (List.replicate st.length 0)) u)) ((knO st.length pre).set u true)) (Nat.le_of_ble_eq_true rfl) ?_
      exact ⟨rfl, rfl, rfl, rfl, rfl, congrArg some (congrArg (Value.int .i64) h3w), trivial⟩
end Go.Proofs.YthekpmpcbidjiaaGreat
