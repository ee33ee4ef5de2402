
import Derived.Test.YthekpmpcbidjiaaR42
/- Layer 11: calls.Inlined: the rule, the memory, the walk. -/
namespace Go.Proofs.Ythekpmpcbidjiaa
open Go Go.RowKit Go.Sort U
set_option linter.unusedVariables false
set_option linter.unusedSimpArgs false
set_option maxRecDepth 100000
set_option maxHeartbeats 4000000
theorem rule_u (lo : Nat) (g : Gz) (own F : List Int) (B : List Bool) (n u : Nat) (row : List Int) (hrw : g.st[u]? = some row) (hrl : row.length ≤ maxI) (hF : F.length = n) (hB : B.length = n) (hn : n = g.st.length) (hown : own.length = n) (hu : okU own) (hFu : okU F) (hk : ∀ t ∈ row, ∃ j : Nat, t = (j : Int) ∧ j < n ∧ B.getD j false = true) {K : Value → AS → Prop} (hK : K (.int .u64 (inl1 own g.st F u)) (stU lo g own n F B)) : SoundAt Try.prog 43 [.int .i64 (u : Int), ofU, .pointer (some ⟨1, 0, none⟩), .pointer (some ⟨0, 0, none⟩)] (stU lo g own n F B) K := by
  refine SoundAt.body hmixU Try.func43 rfl rfl rfl 0 ?_
  have hul : u < n := by rw [hn]; exact (List.getElem?_eq_some_iff.1 hrw).1
  have hub : u.blt (gL g.st).length = true := by rw [gL_len, ← hn]; exact Nat.ble_eq_true_of_le hul
  have hun : nth (gL g.st) u = some (imS (iL row)) := by rw [nth_eq, gL]; simp [hrw]
  have hob : u.blt (uL own).length = true := by rw [uL_len, hown]; exact Nat.ble_eq_true_of_le hul
  have hon := uL_at (l := own) (i := u) (by omega)
  have hrd : g.st.getD u [] = row := by simp [hrw]
  (repeat' ((conv => whnf); first | refine U.lw_t ?_ | refine U.lw_f ?_ | refine U.lit_t ?_ | refine U.lit_f ?_ | refine U.ob_t ?_ | refine U.ob_c (by first | (with_reducible assumption) | exact Nat.ble_eq_true_of_le (by omega) | exact Nat.ble_eq_true_of_le (by simp at *; omega)) ?_ | refine U.nv_c (by with_reducible assumption) ?_ | refine U.lw_t' (by with_reducible assumption) ?_ | refine U.lw_f' (by with_reducible assumption) ?_ | refine U.lw_c (fun hb => ?_) (fun hb => ?_)))
  (conv => whnf)
  refine loop_inv (α := List Int × List Int) (fun y => y.1 ++ y.2 = row) (fun y => (mkF [(0, .int .i64 (u : Int)), (1, ofU), (6, .int .u64 0), (7, .int .u64 (y.1.foldl (fun s t => satA s (gt0 F t.toNat)) (gt0 own u))), (19, imS (iL row)), (20, .int .i64 (iL row).length), (21, .int .i64 y.1.length)], stU lo g own n F B)) (fun y => y.2.length) ([], row) rfl (Cov.slots (s := stU lo g own n F B) (Nat.le_refl _) ⟨rfl, rfl, rfl, rfl, rfl, rfl, rfl, trivial⟩) ?_
  rintro ⟨p, q⟩ p3
  dsimp only at p3
  dsimp only
  rcases q with _ | ⟨t, q⟩
  · rw [List.append_nil] at p3
    subst p3
    have h4b := U.lt_no iL_map p
    (repeat' ((conv => whnf); first | refine U.lw_t ?_ | refine U.lw_f ?_ | refine U.lit_t ?_ | refine U.lit_f ?_ | refine U.ob_t ?_ | refine U.ob_c (by first | (with_reducible assumption) | exact Nat.ble_eq_true_of_le (by omega) | exact Nat.ble_eq_true_of_le (by simp at *; omega)) ?_ | refine U.nv_c (by with_reducible assumption) ?_ | refine U.lw_t' (by with_reducible assumption) ?_ | refine U.lw_f' (by with_reducible assumption) ?_ | refine U.lw_c (fun hb => ?_) (fun hb => ?_)))
    (conv => whnf)
    have ei : inl1 own g.st F u = p.foldl (fun s t => satA s (gt0 F t.toNat)) (gt0 own u) := by rw [inl1, hrd]
    rw [ei] at hK
    exact hK
  · have hrl2 := hrl
    rw [← p3] at hrl2
    have h4b := U.lt_yes iL_map p (t) q; have h4c := U.blt_yes iL_map p (t) q; have h4n := U.nth_at iL_map p (t) q; have h4w := U.len_snoc (pre := p) (x := t) (post := q) (hrl2)
    rw [p3] at h4b h4c h4n
    obtain ⟨j, rfl, hjn, hjk⟩ := hk t (by rw [← p3]; simp)
    have hsi := fold_in F hFu p _ (okU_at hu u)
    have hsn : (p ++ [(j : Int)]).foldl (fun s t => satA s (gt0 F t.toNat)) (gt0 own u) = satA (p.foldl (fun s t => satA s (gt0 F t.toNat)) (gt0 own u)) (gt0 F j) := by simp
    have hto : (p ++ (j : Int) :: q).foldl (fun s t => satA s (gt0 F t.toNat)) (gt0 own u) = q.foldl (fun s t => satA s (gt0 F t.toNat)) (satA (p.foldl (fun s t => satA s (gt0 F t.toNat)) (gt0 own u)) (gt0 F j)) := by simp
    have ei : inl1 own g.st F u = (p ++ (j : Int) :: q).foldl (fun s t => satA s (gt0 F t.toNat)) (gt0 own u) := by rw [inl1, hrd, p3]
    have hFj := okU_at hFu j
    generalize p.foldl (fun s t => satA s (gt0 F t.toNat)) (gt0 own u) = s0 at *
    obtain ⟨w1, w2⟩ := satA_wrap hsi hFj
    (repeat' ((conv => whnf); first | refine U.lw_t ?_ | refine U.lw_f ?_ | refine U.lit_t ?_ | refine U.lit_f ?_ | refine U.ob_t ?_ | refine of_known lo g own F B n j hF hB hjn hjk ?_ | refine U.ob_c (by first | (with_reducible assumption) | exact Nat.ble_eq_true_of_le (by omega) | exact Nat.ble_eq_true_of_le (by simp at *; omega)) ?_ | refine U.nv_c (by with_reducible assumption) ?_ | refine U.lw_t' (by with_reducible assumption) ?_ | refine U.lw_f' (by with_reducible assumption) ?_ | refine U.lw_c (fun hb => ?_) (fun hb => ?_)))
    all_goals (conv => whnf)
    · have hlt := w1.1 (of_decide_eq_true hb)
      rw [ei, hto, show satA s0 (gt0 F j) = maxU by unfold satA; rw [if_pos hlt], fold_top F hFu q] at hK
      exact hK
    · have hw := w2 (of_decide_eq_false hb)
      exact ⟨(p ++ [(j : Int)], q), by rw [← p3]; simp, by simp, Cov.slots (s := stU lo g own n F B) (Nat.le_refl _) ⟨rfl, rfl, rfl, congrArg some (congrArg (Value.int .u64) (by rw [hsn]; exact hw)), rfl, rfl, congrArg some (congrArg (Value.int .i64) h4w), trivial⟩⟩
theorem told_u (lo : Nat) (g : Gz) (own F : List Int) (B : List Bool) (n : Nat) : ∀ k b, (stU lo g own n F B).heap.get k = some b → RenB 9 ⟨fun k => k, fun _ _ => False⟩ b b := told_of (.cons rfl (.row _ _ _ _ (cleanG_cells g) rfl) (.cons rfl (.cells _ _ _ _ (.cons (.clean _ _ (cleanUL _) rfl) .nil)) (.cons rfl (.row _ _ _ _ (cleanG_cells g) rfl) (.cons rfl (.cells _ _ _ _ (.cons (.fnL .nil (.cons (.ptr _ _ _ (by decide) rfl) (.cons (.ptr _ _ _ (by decide) rfl) .nil))) .nil)) (.cons rfl (.row _ _ _ _ (cleanUl _) rfl) (.cons rfl (.cells _ _ _ _ (.cons (.sl _ _ _ _ _ _ _ (by decide) rfl rfl rfl) .nil)) (.cons rfl (.row _ _ _ _ (cleanBq _) rfl) (.cons rfl (.cells _ _ _ _ (.cons (.sl _ _ _ _ _ _ _ (by decide) rfl rfl rfl) .nil)) (.cons rfl (.cells _ _ _ _ (.cons (.fnL .nil (.cons (.ptr _ _ _ (by decide) rfl) (.cons (.ptr _ _ _ (by decide) rfl) (.cons (.ptr _ _ _ (by decide) rfl) (.cons (.ptr _ _ _ (by decide) rfl) .nil))))) .nil)) .nil)))))))))
theorem rule_c (lo : Nat) (g : Gz) (own F : List Int) (B : List Bool) (n u : Nat) (row : List Int) (hrw : g.st[u]? = some row) (hrl : row.length ≤ maxI) (hF : F.length = n) (hB : B.length = n) (hn : n = g.st.length) (hown : own.length = n) (hu : okU own) (hFu : okU F) (hk : ∀ t ∈ row, ∃ j : Nat, t = (j : Int) ∧ j < n ∧ B.getD j false = true) {K : Value → AS → Prop} (hK : K (.int .u64 (inl1 own g.st F u)) (stU lo g own n F B)) : SoundC Try.prog 43 [.int .i64 (u : Int), ofU, .pointer (some ⟨1, 0, none⟩), .pointer (some ⟨0, 0, none⟩)] (stU lo g own n F B) K :=
  .ofAt (.cons (.clean _ _ (cleanI _) rfl) (.cons (.fnL .nil (.cons (.ptr _ _ _ (Nat.le_of_ble_eq_true rfl) rfl) (.cons (.ptr _ _ _ (Nat.le_of_ble_eq_true rfl) rfl) (.cons (.ptr _ _ _ (Nat.le_of_ble_eq_true rfl) rfl) (.cons (.ptr _ _ _ (Nat.le_of_ble_eq_true rfl) rfl) .nil))))) (.cons (.ptr _ _ _ (Nat.le_of_ble_eq_true rfl) rfl) (.cons (.ptr _ _ _ (Nat.le_of_ble_eq_true rfl) rfl) .nil)))) (told_u lo g own F B n) (Nat.zero_le _) (rule_u lo g own F B n u row hrw hrl hF hB hn hown hu hFu hk ⟨rfl, rfl⟩) hK
theorem of_new (g : Gz) (own F : List Int) (B : List Bool) (n u : Nat) (row : List Int) (hrw : g.st[u]? = some row) (hrl : row.length ≤ maxI) (hF : F.length = n) (hB : B.length = n) (hn : n = g.st.length) (hown : own.length = n) (hu : okU own) (hFu : okU F) (hk : ∀ t ∈ row, ∃ j : Nat, t = (j : Int) ∧ j < n ∧ B.getD j false = true) (hnk : B.getD u false = false) {K : Value → AS → Prop} (hK : ∀ v, K v (stU 0 g own n (F.set u (inl1 own g.st F u)) (B.set u true))) : SoundAt Try.prog 73 [.int .i64 (u : Int), .pointer (some ⟨7, 0, none⟩), .pointer (some ⟨3, 0, none⟩), .pointer (some ⟨8, 0, none⟩), .pointer (some ⟨5, 0, none⟩)] (stU 0 g own n F B) K := by
  refine SoundAt.body hmixU Try.func73 rfl rfl rfl 0 ?_
  have hul : u < n := by rw [hn]; exact (List.getElem?_eq_some_iff.1 hrw).1
  have hjb : u.blt n = true := Nat.ble_eq_true_of_le hul
  have n1 := blL_nth (l := B) (i := u) (by omega)
  rw [hnk] at n1
  have hst1 : ∀ v : Value, 0 + u * 1 + [v].length ≤ (uL F).length := fun v => by rw [uL_len, hF, List.length_singleton]; omega
  have hst2 : ∀ v : Value, 0 + u * 1 + [v].length ≤ (blL B).length := fun v => by rw [blL_len, hB, List.length_singleton]; omega
  have es1 := uL_store (L := F) (i := u) (x := inl1 own g.st F u) (by omega)
  have es2 := blL_store (L := B) (i := u) (x := true) (by omega)
  have n2 : nth ((uL F).take (0 + u * 1) ++ [Value.int .u64 (inl1 own g.st F u)] ++ (uL F).drop (0 + u * 1 + [Value.int .u64 (inl1 own g.st F u)].length)) (0 + u * 1) = some (.int .u64 (inl1 own g.st F u)) := by
    rw [es1, uL_nth (by rw [List.length_set]; omega)]
    simp [gt0, hF, hul]
  (repeat' ((conv => whnf); first | refine U.lw_t ?_ | refine U.lw_f ?_ | refine U.lit_t ?_ | refine U.lit_f ?_ | refine U.ob_t ?_ | (conv in (nth _ _) => (change nth _ (0 + u * 1); rw [n1])) | refine rule_c 9 g own F B n u row hrw hrl hF hB hn hown hu hFu hk ?_ | refine U.storeC_p (hst1 _) ?_ | refine U.storeC_p (hst2 _) ?_ | (conv in (nth _ _) => (change nth ((uL F).take (0 + u * 1) ++ [Value.int .u64 (inl1 own g.st F u)] ++ (uL F).drop (0 + u * 1 + [Value.int .u64 (inl1 own g.st F u)].length)) (0 + u * 1); rw [n2])) | refine U.ob_c (by first | (with_reducible assumption) | exact Nat.ble_eq_true_of_le (by omega) | exact Nat.ble_eq_true_of_le (by simp at *; omega)) ?_ | refine U.nv_c (by with_reducible assumption) ?_ | refine U.drawX_p (D := U.propX) 7 [] (by decide +kernel) (by decide +kernel) ?_ | refine U.lw_t' (by with_reducible assumption) ?_ | refine U.lw_f' (by with_reducible assumption) ?_ | refine U.lw_c (fun hb => ?_) (fun hb => ?_)))
  (conv => whnf)
  have := hK (retC [.int .u64 (inl1 own g.st F u)])
  rw [stU, ← es1, ← es2] at this
  exact this
end Go.Proofs.Ythekpmpcbidjiaa
/- Layer 11: calls.Inlined: its contract. -/
namespace Go.Proofs.Ythekpmpcbidjiaa
open Go Go.RowKit Go.Sort U
set_option linter.unusedVariables false
set_option linter.unusedSimpArgs false
set_option maxRecDepth 100000
set_option maxHeartbeats 4000000
theorem inlined_d (g : Gz) (own : List Int) (hg : okG g) (hst : g.st.length ≤ 29000) (hs : sumL g.st ≤ 500000) (hown : own.length = g.st.length) (hu : okU own) (hok : (ordG g).2 = true) : DenU Try.prog [] 12 [encG g, imS (uL own)] (imS (uL (foldO (inl1 own g.st) (ordG g).1 (List.replicate g.st.length 0)))) := by
  refine denU_of_sound hmixU fun Ts => SoundAt.body hmixU Try.func12 rfl rfl rfl 0 ?_
  have c1 := order_g g hg hst hs
  have hne : (((uL own).length : Int) != ((gL g.st).length : Int)) = false := by rw [uL_len, gL_len, hown]; simp
  obtain ⟨nm, st⟩ := g
  have cg := cleanG ⟨nm, st⟩
  have hO := ordG_ok ⟨nm, st⟩
  have hlo := ordG_len hok
  dsimp only at hO hlo hst
  have hmf := mk_full (zs := [.int .u64 0]) (n := (iL (ordG ⟨nm, st⟩).1).length) (b := 8) rfl rfl (by decide) (by rw [iL_len, hlo]; omega)
  have hmb := mk_full (zs := [.bool false]) (n := (iL (ordG ⟨nm, st⟩).1).length) (b := 1) rfl rfl (by decide) (by rw [iL_len, hlo]; omega)
  dsimp only at hne hown hst
  generalize ordG ⟨nm, st⟩ = O at *
  obtain ⟨ord, ok⟩ := O
  dsimp only at hok
  subst hok
  dsimp only
  (repeat' ((conv => whnf); first | refine U.lw_t ?_ | refine U.lw_f ?_ | refine U.lit_t ?_ | refine U.lit_f ?_ | refine U.ob_t ?_ | refine U.ob_c (by first | (with_reducible assumption) | exact Nat.ble_eq_true_of_le (by omega) | exact Nat.ble_eq_true_of_le (by simp at *; omega)) ?_ | refine U.nv_c (by with_reducible assumption) ?_ | refine U.lw_t' (by with_reducible assumption) ?_ | refine U.lw_f' (by with_reducible assumption) ?_ | refine U.lw_c (fun hb => ?_) (fun hb => ?_)))
  (conv => whnf)
  refine SoundAt.body hmixU Try.func42 rfl rfl rfl 0 ?_
  (repeat' ((conv => whnf); first | refine U.ob_c hmf ?_ | refine U.ob_c hmb ?_ | refine U.lw_t ?_ | refine U.lw_f ?_ | refine U.lit_t ?_ | refine U.lit_f ?_ | refine U.ob_t ?_ | refine U.spineC_p ?_ | refine U.ob_c (by first | (with_reducible assumption) | exact Nat.ble_eq_true_of_le (by omega) | exact Nat.ble_eq_true_of_le (by simp at *; omega)) ?_ | refine U.nv_c (by with_reducible assumption) ?_ | refine U.SoundAt.u (c1) (by (repeat (first | exact trivial | ((conv => whnf); first | exact trivial | refine And.intro (by first | assumption | exact cleanI _ | exact cleanEs _ | exact cleanSs _ | exact cleanTs _ | exact cleanE _ | exact cleanIL _ | exact cleanBL _ | exact cleanR _ | exact NoNm.flat _ rfl) ?_)))) ?_ | refine U.SoundC.u (c1) (by (repeat (first | exact trivial | ((conv => whnf); first | exact trivial | refine And.intro (by first | assumption | exact cleanI _ | exact cleanEs _ | exact cleanSs _ | exact cleanTs _ | exact cleanE _ | exact cleanIL _ | exact cleanBL _ | exact cleanR _ | exact NoNm.flat _ rfl) ?_)))) ?_ | refine U.lw_t' (by with_reducible assumption) ?_ | refine U.lw_f' (by with_reducible assumption) ?_ | refine U.lw_c (fun hb => ?_) (fun hb => ?_)))
  (conv => whnf)
  have hn : (iL ord).length = st.length := by rw [iL_len]; exact hlo
  have hFin : ∀ pre, (foldO (inl1 own st) pre (List.replicate st.length 0)).length = st.length := fun pre => by rw [foldO_len]; simp
  refine loop_inv (α := List Int × List Int) (fun x => x.1 ++ x.2 = ord) (fun x => (mkF [(4, .slice none 0 0), (7, .pointer (some ⟨5, 0, none⟩)), (9, .pointer (some ⟨8, 0, none⟩)), (26, imS (iL ord)), (27, .int .i64 (iL ord).length), (28, .int .i64 x.1.length)], stU 0 ⟨nm, st⟩ own (iL ord).length (foldO (inl1 own st) x.1 (List.replicate st.length 0)) (knO st.length x.1))) (fun x => x.2.length) ([], ord) rfl ?_ ?_
  · have eF : uL (foldO (inl1 own st) [] (List.replicate st.length 0)) = repX (((iL ord).length : Nat) : Int).toNat [.int .u64 0] := by
      rw [foldO_nil, uL_zero, ← hn]; rfl
    have eB : blL (knO st.length []) = repX (((iL ord).length : Nat) : Int).toNat [.bool false] := by
      rw [knO_nil, ← hn]; rfl
    show Cov _ _ _ _ _ _ (stUX 0 ⟨nm, st⟩ own (iL ord).length (uL (foldO (inl1 own st) [] (List.replicate st.length 0))) (blL (knO st.length [])))
    rw [eF, eB]
    exact Cov.slots (Nat.le_refl _) ⟨rfl, rfl, rfl, rfl, rfl, rfl, trivial⟩
  rintro ⟨pre, rest⟩ p1
  dsimp only at p1
  dsimp only
  rcases rest with _ | ⟨x, rest⟩
  · rw [List.append_nil] at p1
    subst p1
    have h3b := U.lt_no iL_map pre
    (repeat' ((conv => whnf); first | refine U.lw_t ?_ | refine U.lw_f ?_ | refine U.lit_t ?_ | refine U.lit_f ?_ | refine U.ob_t ?_ | refine U.ob_c (by first | (with_reducible assumption) | exact Nat.ble_eq_true_of_le (by omega) | exact Nat.ble_eq_true_of_le (by simp at *; omega)) ?_ | refine U.nv_c (by with_reducible assumption) ?_ | refine U.lw_t' (by with_reducible assumption) ?_ | refine U.lw_f' (by with_reducible assumption) ?_ | refine U.lw_c (fun hb => ?_) (fun hb => ?_)))
    (conv => whnf)
    exact .rowL (k := 4) (Nat.zero_le _) rfl (by rw [cellsU]) uL_1 (by rw [uL_len, hFin, hn]) (Nat.le_refl _) (cleanUC _)
  · have hpo : (pre ++ x :: rest).length ≤ maxI := by rw [p1, hlo]; unfold maxI; omega
    have h3b := U.lt_yes iL_map pre (x) rest; have h3c := U.blt_yes iL_map pre (x) rest; have h3n := U.nth_at iL_map pre (x) rest; have h3w := U.len_snoc (pre := pre) (x := x) (post := rest) (hpo)
    rw [p1] at h3b h3c h3n
    obtain ⟨u, hul, rfl⟩ := hO.inn x (by rw [← p1]; simp)
    obtain ⟨row, hrw⟩ : ∃ row, st[u]? = some row := ⟨st[u], by simp [hul]⟩
    have hrd : st.getD u [] = row := by simp [hrw]
    have hrl : row.length ≤ maxI := hg.2.2 row (List.mem_of_getElem? hrw)
    have hnu : (u : Int) ∉ pre := fun h => by
      have := hO.nd
      rw [← p1] at this
      exact (List.nodup_append.1 this).2.2 _ h (u : Int) (by simp) rfl
    have hfs := foldO_snoc (inl1 own st) pre (List.replicate st.length 0) (u : Int)
    rw [show ((u : Nat) : Int).toNat = u from rfl] at hfs
    (repeat' ((conv => whnf); first | refine U.lw_t ?_ | refine U.lw_f ?_ | refine U.lit_t ?_ | refine U.lit_f ?_ | refine U.ob_t ?_ | refine U.ob_c (by first | (with_reducible assumption) | exact Nat.ble_eq_true_of_le (by omega) | exact Nat.ble_eq_true_of_le (by simp at *; omega)) ?_ | refine U.nv_c (by with_reducible assumption) ?_ | refine U.lw_t' (by with_reducible assumption) ?_ | refine U.lw_f' (by with_reducible assumption) ?_ | refine U.lw_c (fun hb => ?_) (fun hb => ?_)))
    (conv => whnf)
    refine of_new ⟨nm, st⟩ own _ _ (iL ord).length u row hrw hrl (by rw [hFin, hn]) (by rw [knO_len, hn]) hn (by rw [hown, hn]) hu (foldO_ok hu pre (okU_zero st.length)) (fun t ht => ?_) (by rw [knO_at hul]; exact decide_eq_false hnu) fun v => ?_
    · have hm := hO.cl pre rest u p1.symm t (by rw [hrd]; exact ht)
      obtain ⟨j, hj, rfl⟩ := hO.inn t (by rw [← p1]; exact List.mem_append_left _ hm)
      exact ⟨j, rfl, by rw [hn]; exact hj, by rw [knO_at hj]; exact decide_eq_true hm⟩
    (repeat' ((conv => whnf); first | refine U.lw_t ?_ | refine U.lw_f ?_ | refine U.lit_t ?_ | refine U.lit_f ?_ | refine U.ob_t ?_ | refine U.ob_c (by first | (with_reducible assumption) | exact Nat.ble_eq_true_of_le (by omega) | exact Nat.ble_eq_true_of_le (by simp at *; omega)) ?_ | refine U.nv_c (by with_reducible assumption) ?_ | refine U.lw_t' (by with_reducible assumption) ?_ | refine U.lw_f' (by with_reducible assumption) ?_ | refine U.lw_c (fun hb => ?_) (fun hb => ?_)))
    (conv => whnf)
    refine ⟨(pre ++ [(u : Int)], rest), by rw [← p1]; simp, by simp, ?_⟩
    dsimp only
    rw [hfs, knO_snoc]
    refine Cov.slots (s := stU 0 ⟨nm, st⟩ own (iL ord).length ((foldO (inl1 own st) pre (List.replicate st.length 0)).set u (inl1 own st (foldO (inl1 own st) pre (List.replicate st.length 0)) u)) ((knO st.length pre).set u true)) (Nat.le_of_ble_eq_true rfl) ?_
    exact ⟨rfl, rfl, rfl, rfl, rfl, congrArg some (congrArg (Value.int .i64) h3w), trivial⟩
end Go.Proofs.Ythekpmpcbidjiaa
