
import Derived.Test.YthekpmpcbidjiaaGreatT38
import Derived.Test.YthekpmpcbidjiaaGreatT45
namespace Go.Proofs.YthekpmpcbidjiaaGreat
open Go Go.RowKit Go.Sort U
set_option linter.unusedVariables false
set_option linter.unusedSimpArgs false
set_option maxRecDepth 100000
set_option maxHeartbeats 4000000
theorem rule_u (lo : Nat) (g : Gz) (own F : List Int) (B : List Bool) (n u : Nat) (row : List Int) (hrw : g.st[u]? = some row) (hrl : row.length ≤ maxI) (hF : F.length = n) (hB : B.length = n) (hn : n = g.st.length) (hown : own.length = n) (hu : okU own) (hFu : okU F) (hk : ∀ t ∈ row, ∃ j : Nat, t = (j : Int) ∧ j < n ∧ B.getD j false = true) {K : Value → AS → Prop} (hK : K (.int .u64 (inl1 own g.st F u)) (stU lo g own n F B)) : SoundAt Tryz.prog 44 [.int .i64 (u : Int), ofU, .pointer (some ⟨1, 0, none⟩), .pointer (some ⟨0, 0, none⟩)] (stU lo g own n F B) K := by
  refine SoundAt.body hmixU Tryz.func44 rfl rfl rfl 0 ?_
  have hul : u < n := by rw [hn]; exact (List.getElem?_eq_some_iff.1 hrw).1
  have hub : u.blt (gL g.st).length = true := by rw [gL_len, ← hn]; exact bLe hul
  have hun : nth (gL g.st) u = some (imS (iL row)) := by rw [nth_eq, gL]; simp [hrw]
  have hob : u.blt (uL own).length = true := by rw [uL_len, hown]; exact bLe hul
  have hon := uL_at (l := own) (i := u) (by omega)
  have hrd : g.st.getD u [] = row := by simp [hrw]
  (repeat' ((conv => whnf); first | refine goD ?_ | refine U.lw_c (fun hb => ?_) (fun hb => ?_)))
  (conv => whnf)
  refine loop_inv (α := List Int × List Int) (fun y => y.1 ++ y.2 = row) (fun y => (mkF [(0, .int .i64 (u : Int)), (1, ofU), (6, .int .u64 0), (7, .int .u64 (y.1.foldl (fun s t => satA s (gt0 F t.toNat)) (gt0 own u))), (19, imS (iL row)), (20, .int .i64 (iL row).length), (21, .int .i64 y.1.length)], stU lo g own n F B)) (fun y => y.2.length) ([], row) rfl (Cov.slots (s := stU lo g own n F B) (Nat.le_refl _) ⟨rfl, rfl, rfl, rfl, rfl, rfl, rfl, trivial⟩) ?_
  rintro ⟨p, q⟩ p3
  dsimp only at p3
  dsimp only
  rcases q with _ | ⟨t, q⟩
  · rw [List.append_nil] at p3
    subst p3
    have h4b := U.lt_no iL_map p
    (repeat' ((conv => whnf); first | refine goD ?_ | refine U.lw_c (fun hb => ?_) (fun hb => ?_)))
    (conv => whnf)
    have ei : inl1 own g.st F u = p.foldl (fun s t => satA s (gt0 F t.toNat)) (gt0 own u) := by rw [inl1, hrd]
    rw [ei] at hK
    exact hK
  · have hrl2 := hrl
    rw [← p3] at hrl2
    obtain ⟨h4b, h4c, h4n, h4w⟩ := U.at4 iL_map p (t) q (hrl2)
    rw [p3] at h4b h4c h4n
    obtain ⟨j, rfl, hjn, hjk⟩ := hk t (by rw [← p3]; simp)
    have hsi := fold_in F hFu p _ (okU_at hu u)
    have hsn : (p ++ [(j : Int)]).foldl (fun s t => satA s (gt0 F t.toNat)) (gt0 own u) = satA (p.foldl (fun s t => satA s (gt0 F t.toNat)) (gt0 own u)) (gt0 F j) := by simp
    have hto : (p ++ (j : Int) :: q).foldl (fun s t => satA s (gt0 F t.toNat)) (gt0 own u) = q.foldl (fun s t => satA s (gt0 F t.toNat)) (satA (p.foldl (fun s t => satA s (gt0 F t.toNat)) (gt0 own u)) (gt0 F j)) := by simp
    have ei : inl1 own g.st F u = (p ++ (j : Int) :: q).foldl (fun s t => satA s (gt0 F t.toNat)) (gt0 own u) := by rw [inl1, hrd, p3]
    have hFj := okU_at hFu j
    generalize p.foldl (fun s t => satA s (gt0 F t.toNat)) (gt0 own u) = s0 at *
    obtain ⟨w1, w2⟩ := satA_wrap hsi hFj
    (repeat' ((conv => whnf); first | refine goA ?_ | refine of_known lo g own F B n j hF hB hjn hjk ?_ | refine goB ?_ | refine U.lw_c (fun hb => ?_) (fun hb => ?_)))
    all_goals (conv => whnf)
    · have hlt := w1.1 (of_decide_eq_true hb)
      rw [ei, hto, show satA s0 (gt0 F j) = maxU by unfold satA; rw [if_pos hlt], fold_top F hFu q] at hK
      exact hK
    · have hw := w2 (of_decide_eq_false hb)
      exact ⟨(p ++ [(j : Int)], q), by rw [← p3]; simp, by simp, Cov.slots (s := stU lo g own n F B) (Nat.le_refl _) ⟨rfl, rfl, rfl, congrArg some (congrArg (Value.int .u64) (by rw [hsn]; exact hw)), rfl, rfl, congrArg some (congrArg (Value.int .i64) h4w), trivial⟩⟩
theorem told_u (lo : Nat) (g : Gz) (own F : List Int) (B : List Bool) (n : Nat) : ∀ k b, (stU lo g own n F B).heap.get k = some b → RenB 9 ⟨fun k => k, fun _ _ => False⟩ b b := told_of (.cons rfl (.row _ _ _ _ (cleanG_cells g) rfl) (.cons rfl (.cells _ _ _ _ (.cons (.clean _ _ (cleanUL _) rfl) .nil)) (.cons rfl (.row _ _ _ _ (cleanG_cells g) rfl) (.cons rfl (.cells _ _ _ _ (.cons (.fnL .nil (.cons (.P rfl) (.cons (.P rfl) .nil))) .nil)) (.cons rfl (.row _ _ _ _ (cleanUl _) rfl) (.cons rfl (.cells _ _ _ _ (.cons (.sl _ _ _ _ _ _ _ (by decide) rfl rfl rfl) .nil)) (.cons rfl (.row _ _ _ _ (cleanBq _) rfl) (.cons rfl (.cells _ _ _ _ (.cons (.sl _ _ _ _ _ _ _ (by decide) rfl rfl rfl) .nil)) (.cons rfl (.cells _ _ _ _ (.cons (.fnL .nil (.cons (.P rfl) (.cons (.P rfl) (.cons (.P rfl) (.cons (.P rfl) .nil))))) .nil)) .nil)))))))))
theorem rule_c (lo : Nat) (g : Gz) (own F : List Int) (B : List Bool) (n u : Nat) (row : List Int) (hrw : g.st[u]? = some row) (hrl : row.length ≤ maxI) (hF : F.length = n) (hB : B.length = n) (hn : n = g.st.length) (hown : own.length = n) (hu : okU own) (hFu : okU F) (hk : ∀ t ∈ row, ∃ j : Nat, t = (j : Int) ∧ j < n ∧ B.getD j false = true) {K : Value → AS → Prop} (hK : K (.int .u64 (inl1 own g.st F u)) (stU lo g own n F B)) : SoundC Tryz.prog 44 [.int .i64 (u : Int), ofU, .pointer (some ⟨1, 0, none⟩), .pointer (some ⟨0, 0, none⟩)] (stU lo g own n F B) K :=
  .ofAt (.cons .I (.cons (.fnL .nil (.cons (.ptr _ _ _ (Nat.le_of_ble_eq_true rfl) rfl) (.cons (.ptr _ _ _ (Nat.le_of_ble_eq_true rfl) rfl) (.cons (.ptr _ _ _ (Nat.le_of_ble_eq_true rfl) rfl) (.cons (.ptr _ _ _ (Nat.le_of_ble_eq_true rfl) rfl) .nil))))) (.cons (.ptr _ _ _ (Nat.le_of_ble_eq_true rfl) rfl) (.cons (.ptr _ _ _ (Nat.le_of_ble_eq_true rfl) rfl) .nil)))) (told_u lo g own F B n) (Nat.zero_le _) (rule_u lo g own F B n u row hrw hrl hF hB hn hown hu hFu hk ⟨rfl, rfl⟩) hK
theorem of_new (g : Gz) (own F : List Int) (B : List Bool) (n u : Nat) (row : List Int) (hrw : g.st[u]? = some row) (hrl : row.length ≤ maxI) (hF : F.length = n) (hB : B.length = n) (hn : n = g.st.length) (hown : own.length = n) (hu : okU own) (hFu : okU F) (hk : ∀ t ∈ row, ∃ j : Nat, t = (j : Int) ∧ j < n ∧ B.getD j false = true) (hnk : B.getD u false = false) {K : Value → AS → Prop} (hK : ∀ v, K v (stU 0 g own n (F.set u (inl1 own g.st F u)) (B.set u true))) : SoundAt Tryz.prog 60 [.int .i64 (u : Int), .pointer (some ⟨7, 0, none⟩), .pointer (some ⟨3, 0, none⟩), .pointer (some ⟨8, 0, none⟩), .pointer (some ⟨5, 0, none⟩)] (stU 0 g own n F B) K := by
  refine SoundAt.body hmixU Tryz.func60 rfl rfl rfl 0 ?_
  have hul : u < n := by rw [hn]; exact (List.getElem?_eq_some_iff.1 hrw).1
  have hjb : u.blt n = true := bLe hul
  have n1 := blL_nth (l := B) (i := u) (by omega)
  rw [hnk] at n1
  have hst1 : ∀ v : Value, 0 + u * 1 + [v].length ≤ (uL F).length := fun v => by rw [uL_len, hF, List.length_singleton]; omega
  have hst2 : ∀ v : Value, 0 + u * 1 + [v].length ≤ (blL B).length := fun v => by rw [blL_len, hB, List.length_singleton]; omega
  have es1 := uL_store (L := F) (i := u) (x := inl1 own g.st F u) (by omega)
  have es2 := blL_store (L := B) (i := u) (x := true) (by omega)
  have n2 : nth ((uL F).take (0 + u * 1) ++ [Value.int .u64 (inl1 own g.st F u)] ++ (uL F).drop (0 + u * 1 + [Value.int .u64 (inl1 own g.st F u)].length)) (0 + u * 1) = some (.int .u64 (inl1 own g.st F u)) := by
    rw [es1, uL_nth (by rw [List.length_set]; omega)]
    simp [gt0, hF, hul]
  (repeat' ((conv => whnf); first | refine goA ?_ | (conv in (nth _ _) => (change nth _ (0 + u * 1); rw [n1])) | refine rule_c 9 g own F B n u row hrw hrl hF hB hn hown hu hFu hk ?_ | refine U.storeC_p (hst1 _) ?_ | refine U.storeC_p (hst2 _) ?_ | (conv in (nth _ _) => (change nth ((uL F).take (0 + u * 1) ++ [Value.int .u64 (inl1 own g.st F u)] ++ (uL F).drop (0 + u * 1 + [Value.int .u64 (inl1 own g.st F u)].length)) (0 + u * 1); rw [n2])) | refine goB ?_ | refine U.drawX_p (D := U.propX) 7 [] (by decide +kernel) (by decide +kernel) ?_ | refine U.lw_c (fun hb => ?_) (fun hb => ?_)))
  (conv => whnf)
  have := hK (retC [.int .u64 (inl1 own g.st F u)])
  rw [stU, ← es1, ← es2] at this
  exact this
theorem inlined_d (g : Gz) (own : List Int) (hg : okG g) (hst : g.st.length ≤ 29000) (hs : sumL g.st ≤ 500000) (hown : own.length = g.st.length) (hu : okU own) (hok : (ordG g).2 = true) : DenU Tryz.prog [] 21 [encG g, imS (uL own)] (imS (uL (foldO (inl1 own g.st) (ordG g).1 (List.replicate g.st.length 0)))) := by
  refine denU_of_sound hmixU fun Ts => SoundAt.body hmixU Tryz.func21 rfl rfl rfl 0 ?_
  have c1 := order_g g hg hst hs
  have hne : (((uL own).length : Int) != ((gL g.st).length : Int)) = false := by rw [uL_len, gL_len, hown]; simp
  obtain ⟨nm, st⟩ := g
  have cg := cleanG ⟨nm, st⟩
  have hO := ordG_ok ⟨nm, st⟩
  have hlo := ordG_len hok
  dsimp only at hO hlo hst
  have hmf := mk_full (zs := [.int .u64 0]) (n := (iL (ordG ⟨nm, st⟩).1).length) (b := 8) rfl rfl (by decide) (by rw [iL_len, hlo]; omega)
  have hmb := mk_full (zs := [.bool false]) (n := (iL (ordG ⟨nm, st⟩).1).length) (b := 1) rfl rfl (by decide) (by rw [iL_len, hlo]; omega)
  dsimp only at hne hown hst
  generalize ordG ⟨nm, st⟩ = O at *
  obtain ⟨ord, ok⟩ := O
  dsimp only at hok
  subst hok
  dsimp only
  (repeat' ((conv => whnf); first | refine goD ?_ | refine U.lw_c (fun hb => ?_) (fun hb => ?_)))
  (conv => whnf)
  refine SoundAt.body hmixU Tryz.func43 rfl rfl rfl 0 ?_
  (repeat' ((conv => whnf); first | refine U.ob_c hmf ?_ | refine U.ob_c hmb ?_ | refine goA ?_ | refine U.spineC_p ?_ | refine goB ?_ | refine U.SoundAt.u (c1) clN ?_ | refine U.SoundC.u (c1) clN ?_ | refine U.lw_c (fun hb => ?_) (fun hb => ?_)))
  (conv => whnf)
  have hn : (iL ord).length = st.length := by rw [iL_len]; exact hlo
  have hFin : ∀ pre, (foldO (inl1 own st) pre (List.replicate st.length 0)).length = st.length := fun pre => by rw [foldO_len]; simp
  refine loop_inv (α := List Int × List Int) (fun x => x.1 ++ x.2 = ord) (fun x => (mkF [(4, .slice none 0 0), (7, .pointer (some ⟨5, 0, none⟩)), (9, .pointer (some ⟨8, 0, none⟩)), (26, imS (iL ord)), (27, .int .i64 (iL ord).length), (28, .int .i64 x.1.length)], stU 0 ⟨nm, st⟩ own (iL ord).length (foldO (inl1 own st) x.1 (List.replicate st.length 0)) (knO st.length x.1))) (fun x => x.2.length) ([], ord) rfl ?_ ?_
  · have eF : uL (foldO (inl1 own st) [] (List.replicate st.length 0)) = repX (((iL ord).length : Nat) : Int).toNat [.int .u64 0] := by
      rw [foldO_nil, uL_zero, ← hn]; rfl
    have eB : blL (knO st.length []) = repX (((iL ord).length : Nat) : Int).toNat [.bool false] := by
      rw [knO_nil, ← hn]; rfl
    show Cov _ _ _ _ _ _ (stUX 0 ⟨nm, st⟩ own (iL ord).length (uL (foldO (inl1 own st) [] (List.replicate st.length 0))) (blL (knO st.length [])))
    rw [eF, eB]
    exact Cov.slots (Nat.le_refl _) ⟨rfl, rfl, rfl, rfl, rfl, rfl, trivial⟩
  rintro ⟨pre, rest⟩ p1
  dsimp only at p1
  dsimp only
  rcases rest with _ | ⟨x, rest⟩
  · rw [List.append_nil] at p1
    subst p1
    have h3b := U.lt_no iL_map pre
    (repeat' ((conv => whnf); first | refine goD ?_ | refine U.lw_c (fun hb => ?_) (fun hb => ?_)))
    (conv => whnf)
    exact .rowL (k := 4) (Nat.zero_le _) rfl (by rw [cellsU]) uL_1 (by rw [uL_len, hFin, hn]) (Nat.le_refl _) (cleanUC _)
  · have hpo : (pre ++ x :: rest).length ≤ maxI := by rw [p1, hlo]; unfold maxI; omega
    obtain ⟨h3b, h3c, h3n, h3w⟩ := U.at4 iL_map pre (x) rest (hpo)
    rw [p1] at h3b h3c h3n
    obtain ⟨u, hul, rfl⟩ := hO.inn x (by rw [← p1]; simp)
    obtain ⟨row, hrw⟩ : ∃ row, st[u]? = some row := ⟨st[u], by simp [hul]⟩
    have hrd : st.getD u [] = row := by simp [hrw]
    have hrl : row.length ≤ maxI := hg.2.2 row (List.mem_of_getElem? hrw)
    have hnu : (u : Int) ∉ pre := fun h => by
      have := hO.nd
      rw [← p1] at this
      exact (List.nodup_append.1 this).2.2 _ h (u : Int) (by simp) rfl
    have hfs := foldO_snoc (inl1 own st) pre (List.replicate st.length 0) (u : Int)
    rw [show ((u : Nat) : Int).toNat = u from rfl] at hfs
    (repeat' ((conv => whnf); first | refine goD ?_ | refine U.lw_c (fun hb => ?_) (fun hb => ?_)))
    (conv => whnf)
    refine of_new ⟨nm, st⟩ own _ _ (iL ord).length u row hrw hrl (by rw [hFin, hn]) (by rw [knO_len, hn]) hn (by rw [hown, hn]) hu (foldO_ok hu pre (okU_zero st.length)) (fun t ht => ?_) (by rw [knO_at hul]; exact decide_eq_false hnu) fun v => ?_
    · have hm := hO.cl pre rest u p1.symm t (by rw [hrd]; exact ht)
      obtain ⟨j, hj, rfl⟩ := hO.inn t (by rw [← p1]; exact List.mem_append_left _ hm)
      exact ⟨j, rfl, by rw [hn]; exact hj, by rw [knO_at hj]; exact decide_eq_true hm⟩
    (repeat' ((conv => whnf); first | refine goD ?_ | refine U.lw_c (fun hb => ?_) (fun hb => ?_)))
    (conv => whnf)
    refine ⟨(pre ++ [(u : Int)], rest), by rw [← p1]; simp, by simp, ?_⟩
    dsimp only
    rw [hfs, knO_snoc]
    refine Cov.slots (s := stU 0 ⟨nm, st⟩ own (iL ord).length ((foldO (inl1 own st) pre (List.replicate st.length 0)).set u (inl1 own st (foldO (inl1 own st) pre (List.replicate st.length 0)) u)) ((knO st.length pre).set u true)) (Nat.le_of_ble_eq_true rfl) ?_
    exact ⟨rfl, rfl, rfl, rfl, rfl, congrArg some (congrArg (Value.int .i64) h3w), trivial⟩
def inlV (g : Gz) (own : List Int) : List Int := if (decide (own.length = g.st.length) && (ordG g).2) = true then foldO (inl1 own g.st) (ordG g).1 (List.replicate g.st.length 0) else []
theorem frz_nilU {P : Program} {s : AS} {l : List Int} (h : l = []) : FrzV P s (retC [.slice none 0 0]) (imS (uL l)) := by
  subst h
  exact .nil
theorem inlined_v (g : Gz) (own : List Int) (hg : okG g) (hst : g.st.length ≤ 29000) (hs : sumL g.st ≤ 500000) (hu : okU own) (hol : own.length ≤ maxI) : DenU Tryz.prog [] 21 [encG g, imS (uL own)] (imS (uL (inlV g own))) := by
  by_cases h1 : own.length = g.st.length
  · cases hok : (ordG g).2
    · have hv : inlV g own = [] := by simp [inlV, hok]
      rw [hv]
      refine denU_of_sound hmixU fun Ts => SoundAt.body hmixU Tryz.func21 rfl rfl rfl 0 ?_
      have c1 := order_g g hg hst hs
      have hne : (((uL own).length : Int) != ((gL g.st).length : Int)) = false := by rw [uL_len, gL_len, h1]; simp
      generalize hOG : ordG g = O at *
      obtain ⟨ord, ok⟩ := O
      dsimp only at hok
      subst hok
      obtain ⟨nm, st⟩ := g
      have cg := cleanG ⟨nm, st⟩
      dsimp only at hne
      (repeat' ((conv => whnf); first | refine goD ?_ | refine U.lw_c (fun hb => ?_) (fun hb => ?_)))
      (conv => whnf)
      refine SoundAt.body hmixU Tryz.func43 rfl rfl rfl 0 ?_
      (repeat' ((conv => whnf); first | refine goD ?_ | refine U.SoundAt.u (c1) clN ?_ | refine U.SoundC.u (c1) clN ?_ | refine U.lw_c (fun hb => ?_) (fun hb => ?_)))
      (conv => whnf)
      exact frz_nilU rfl
    · have hv : inlV g own = foldO (inl1 own g.st) (ordG g).1 (List.replicate g.st.length 0) := by simp [inlV, hok, h1]
      rw [hv]
      exact inlined_d g own hg hst hs h1 hu hok
  · have hv : inlV g own = [] := by simp [inlV, h1]
    rw [hv]
    refine denU_of_sound hmixU fun Ts => SoundAt.body hmixU Tryz.func21 rfl rfl rfl 0 ?_
    have hne : (((uL own).length : Int) != ((gL g.st).length : Int)) = true := by rw [uL_len, gL_len]; simp; omega
    obtain ⟨nm, st⟩ := g
    dsimp only at hne
    (repeat' ((conv => whnf); first | refine goD ?_ | refine U.lw_c (fun hb => ?_) (fun hb => ?_)))
    (conv => whnf)
    exact frz_nilU rfl
theorem same_d (a b : List Int) (ha : a.length ≤ maxI) : DenU Tryz.prog [] 17 [imS (iL a), imS (iL b)] (.bool (decide (a = b))) := by
  refine denU_of_body hmixU rfl Tryz.func17 rfl rfl rfl 0 ?_
  intro Ts
  by_cases hl : a.length = b.length
  · have hne : (((iL a).length : Int) != ((iL b).length : Int)) = false := by rw [iL_len, iL_len, hl]; simp
    (repeat' ((conv => whnf); first | refine goD ?_ | refine U.lw_c (fun hb => ?_) (fun hb => ?_)))
    (conv => whnf)
    refine loop_inv (α := List Int × List Int × List Int) (fun x => x.1 ++ x.2.1 = a ∧ x.1 ++ x.2.2 = b) (fun x => (mkF [(0, imS (iL a)), (1, imS (iL b)), (4, .bool false), (5, .int .i64 x.1.length)], ⟨.e, 0, 0, 0⟩)) (fun x => x.2.1.length) ([], a, b) ⟨rfl, rfl⟩ (Cov.slots (Nat.le_refl _) ⟨rfl, rfl, rfl, rfl, trivial⟩) ?_
    rintro ⟨pre, ra, rb⟩ ⟨h1, h2⟩
    dsimp only at h1 h2
    subst h1 h2
    dsimp only
    have hlr : ra.length = rb.length := by simp at hl; exact hl
    rcases ra with _ | ⟨x, ra⟩
    · have hrb : rb = [] := List.eq_nil_of_length_eq_zero (by simpa using hlr.symm)
      subst hrb
      rw [List.append_nil]
      have h3b := U.lt_no iL_map pre
      (repeat' ((conv => whnf); first | refine goD ?_ | refine U.lw_c (fun hb => ?_) (fun hb => ?_)))
      (conv => whnf)
      exact .same (.flat _ rfl) (by rw [decide_eq_true rfl]; rfl)
    · rcases rb with _ | ⟨y, rb⟩
      · simp at hlr
      · obtain ⟨h3b, h3c, h3n, h3w⟩ := U.at4 iL_map pre (x) ra (ha)
        have h4b := U.lt_yes iL_map pre (y) rb; have h4c := U.blt_yes iL_map pre (y) rb; have h4n := U.nth_at iL_map pre (y) rb
        (repeat' ((conv => whnf); first | refine goD ?_ | refine U.drawX_p (D := U.propX) 9 [] (by decide +kernel) (by decide +kernel) ?_ | refine U.lw_c (fun hb => ?_) (fun hb => ?_)))
        all_goals (conv => whnf)
        · have hne : ¬ x = y := by simpa using hb
          exact .same (.flat _ rfl) (by rw [decide_eq_false (fun e => hne (by simp at e; exact e.1))]; rfl)
        · have hxy : x = y := by simpa using hb
          subst hxy
          exact ⟨(pre ++ [x], ra, rb), ⟨by simp, by simp⟩, by simp, Cov.slots (s := ⟨.e, 0, 0, 0⟩) (Nat.le_refl _) ⟨rfl, rfl, rfl, congrArg some (congrArg (Value.int .i64) h3w), trivial⟩⟩
  · have hne : (((iL a).length : Int) != ((iL b).length : Int)) = true := by rw [iL_len, iL_len]; simp; omega
    (repeat' ((conv => whnf); first | refine goD ?_ | refine U.lw_c (fun hb => ?_) (fun hb => ?_)))
    (conv => whnf)
    exact .same (.flat _ rfl) (by rw [decide_eq_false (fun e => hl (by rw [e]))]; rfl)
def fewB (g : Gz) : Bool := (g.st.take 9).all (fun r => decide (r.length ≤ 12)) && decide (g.nm.length ≤ 7) && decide (g.st.length ≤ 8)
theorem few_d (g : Gz) (hg : g.st.length ≤ maxI ∧ ∀ r ∈ g.st, r.length ≤ maxI) : DenU Tryz.prog [] 8 [encG g] (.bool (fewB g)) := by
  refine denU_of_body hmixU rfl Tryz.func8 rfl rfl rfl 0 ?_
  intro Ts
  obtain ⟨nm, st⟩ := g
  obtain ⟨g2, g3⟩ := hg
  dsimp only at g2 g3
  (repeat' ((conv => whnf); first | refine goD ?_ | refine U.lw_c (fun hb => ?_) (fun hb => ?_)))
  (conv => whnf)
  refine loop_inv (α := List (List Int) × List (List Int)) (fun x => x.1 ++ x.2 = st ∧ x.1.length ≤ 9 ∧ (x.1.all fun r => decide (r.length ≤ 12)) = true) (fun x => (mkF [(1, .pointer (some ⟨0, 0, none⟩)), (2, .bool false), (3, .int .i64 x.1.length)], ⟨mkO [(0, some (.cells 25 [imS (sL nm), imS (gL st)] false))], 1, 0, 0⟩)) (fun x => x.2.length) ([], st) ⟨rfl, Nat.zero_le _, rfl⟩ (Cov.renI rfl rfl rfl rfl (.cons rfl (.row _ _ _ _ (cleanG_cells ⟨nm, st⟩) rfl) .nil) (.cons rfl (.P rfl) (.cons rfl (.F rfl rfl) (.cons rfl .I .nil)))) ?_
  rintro ⟨pre, rest⟩ ⟨p1, p2, p3⟩
  dsimp only at p1 p2 p3
  subst p1
  dsimp only
  rcases rest with _ | ⟨x, rest⟩
  · rw [List.append_nil] at *
    have h3b := U.lt_no gL_map pre
    (repeat' ((conv => whnf); first | refine goD ?_ | refine U.lw_c (fun hb => ?_) (fun hb => ?_)))
    all_goals (conv => whnf)
    · have hall : ((pre.take 9).all fun r => decide (r.length ≤ 12)) = true := List.all_eq_true.2 fun r hr => List.all_eq_true.1 p3 r (List.mem_of_mem_take hr)
      rw [sL_len] at hb
      have hb : nm.length ≤ 7 := by have := of_decide_eq_true hb; omega
      refine .same (.flat _ rfl) (congrArg Value.bool ?_)
      simp only [fewB, hall, gL_len, decide_eq_true hb, Bool.true_and]
      exact decide_eq_decide.2 (by omega)
    · rw [sL_len] at hb
      have hb : ¬ nm.length ≤ 7 := by have := of_decide_eq_false hb; omega
      exact .same (.flat _ rfl) (congrArg Value.bool (by simp [fewB, hb]))
  · obtain ⟨h3b, h3c, h3n, h3w⟩ := U.at4 gL_map pre (x) rest (g2)
    (repeat' ((conv => whnf); first | refine goD ?_ | refine U.lw_c (fun hb => ?_) (fun hb => ?_)))
    all_goals (conv => whnf)
    · rename_i hb0
      have hb0 : pre.length < 9 := by have := of_decide_eq_true hb0; omega
      rw [iL_len] at hb
      have hb : ¬ x.length ≤ 12 := by have := of_decide_eq_true hb; omega
      have hall : (((pre ++ x :: rest).take 9).all fun r => decide (r.length ≤ 12)) = false := Bool.eq_false_iff.2 fun h => hb (by
        have := List.all_eq_true.1 h x (by rw [List.take_append, List.mem_append]; right; obtain ⟨d, hd⟩ : ∃ d, 9 - pre.length = d + 1 := ⟨9 - pre.length - 1, by omega⟩; rw [hd]; simp)
        exact of_decide_eq_true this)
      exact .same (.flat _ rfl) (congrArg Value.bool (by simp [fewB, hall]))
    · rename_i hb0
      have hb0 : pre.length < 9 := by have := of_decide_eq_true hb0; omega
      rw [iL_len] at hb
      have hb : x.length ≤ 12 := by have := of_decide_eq_false hb; omega
      exact ⟨(pre ++ [x], rest), ⟨by simp, by simp; omega, by rw [List.all_append, p3]; simp [hb]⟩, by simp, Cov.slots (s := ⟨mkO [(0, some (.cells 25 [imS (sL nm), imS (gL (pre ++ x :: rest))] false))], 1, 0, 0⟩) (Nat.le_refl 1) ⟨rfl, rfl, congrArg some (congrArg (Value.int .i64) h3w), trivial⟩⟩
    · rename_i hb0
      have hb0 : 9 ≤ pre.length := by have := of_decide_eq_false hb0; omega
      have hall : (((pre ++ x :: rest).take 9).all fun r => decide (r.length ≤ 12)) = true := by
        rw [List.take_append_of_le_length hb0]
        exact List.all_eq_true.2 fun r hr => List.all_eq_true.1 p3 r (List.mem_of_mem_take hr)
      rw [sL_len] at hb
      have hb : nm.length ≤ 7 := by have := of_decide_eq_true hb; omega
      refine .same (.flat _ rfl) (congrArg Value.bool ?_)
      simp only [fewB, hall, gL_len, decide_eq_true hb, Bool.true_and]
      exact decide_eq_decide.2 (by omega)
    · rw [sL_len] at hb
      have hb : ¬ nm.length ≤ 7 := by have := of_decide_eq_false hb; omega
      exact .same (.flat _ rfl) (congrArg Value.bool (by simp [fewB, hb]))
end Go.Proofs.YthekpmpcbidjiaaGreat
