
import Derived.Test.YthekpmpcbidjiaaK39
import Derived.Test.YthekpmpcbidjiaaK40
/- Layer 11: calls.Nested: the memory, the rule. -/
namespace Go.Proofs.Ythekpmpcbidjiaa
open Go Go.RowKit Go.Sort U
set_option linter.unusedVariables false
set_option linter.unusedSimpArgs false
set_option maxRecDepth 100000
set_option maxHeartbeats 4000000
def ofN : Value := .func (.func 74) ⟨[]⟩ ⟨[.pointer (some ⟨8, 0, none⟩), .pointer (some ⟨4, 0, none⟩), .pointer (some ⟨9, 0, none⟩), .pointer (some ⟨6, 0, none⟩)]⟩
def ruN : Value := .func (.func 46) ⟨[]⟩ ⟨[.pointer (some ⟨1, 0, none⟩), .pointer (some ⟨0, 0, none⟩), .pointer (some ⟨2, 0, none⟩)]⟩
def stVX (lo : Nat) (g : Gz) (own : List Int) (ats : List (List Int)) (n : Nat) (F B : List Value) : AS := ⟨mkO [(0, some (.cells 25 [imS (sL g.nm), imS (gL g.st)] false)), (1, some (.cells 28 [imS (iL own)] false)), (2, some (.cells 23 [imS (gL ats)] false)), (3, some (.cells 25 [imS (sL g.nm), imS (gL g.st)] false)), (4, some (.cells 100 [ruN] false)), (5, some (.cells 3 F false)), (6, some (.cells 28 [.slice (some ⟨5, 0, none⟩) n n] false)), (7, some (.cells 4 B false)), (8, some (.cells 136 [.slice (some ⟨7, 0, none⟩) n n] false)), (9, some (.cells 99 [ofN] false))], 10, lo, 0⟩
def stV (lo : Nat) (g : Gz) (own : List Int) (ats : List (List Int)) (n : Nat) (F : List Int) (B : List Bool) : AS := stVX lo g own ats n (iL F) (blL B)
theorem ofn_known (lo : Nat) (g : Gz) (own : List Int) (ats : List (List Int)) (F : List Int) (B : List Bool) (n j : Nat) (hF : F.length = n) (hB : B.length = n) (hj : j < n) (hk : B.getD j false = true) {K : Value → AS → Prop} (hK : K (.int .i64 (gt0 F j)) (stV lo g own ats n F B)) : SoundAt Try.prog 74 [.int .i64 (j : Int), .pointer (some ⟨8, 0, none⟩), .pointer (some ⟨4, 0, none⟩), .pointer (some ⟨9, 0, none⟩), .pointer (some ⟨6, 0, none⟩)] (stV lo g own ats n F B) K := by
  refine SoundAt.body hmixU Try.func74 rfl rfl rfl 0 ?_
  have hjb : j.blt n = true := Nat.ble_eq_true_of_le hj
  have n1 := blL_nth (l := B) (i := j) (by omega)
  have n2 := iL_nth0 (L := F) (i := j) (by omega)
  rw [hk] at n1
  (repeat' ((conv => whnf); first | refine U.lw_t ?_ | refine U.lw_f ?_ | refine U.lit_t ?_ | refine U.lit_f ?_ | refine U.ob_t ?_ | (conv in (nth _ _) => (change nth _ (0 + j * 1); rw [n1])) | (conv in (nth _ _) => (change nth _ (0 + j * 1); rw [n2])) | refine U.ob_c (by first | (with_reducible assumption) | exact Nat.ble_eq_true_of_le (by omega) | exact Nat.ble_eq_true_of_le (by simp at *; omega)) ?_ | refine U.nv_c (by with_reducible assumption) ?_ | refine U.lw_t' (by with_reducible assumption) ?_ | refine U.lw_f' (by with_reducible assumption) ?_ | refine U.lw_c (fun hb => ?_) (fun hb => ?_)))
  (conv => whnf)
  exact hK
theorem rule_n (lo : Nat) (g : Gz) (own : List Int) (ats : List (List Int)) (F : List Int) (B : List Bool) (n u : Nat) (row arow : List Int) (hrw : g.st[u]? = some row) (har : ats[u]? = some arow) (hal : arow.length = row.length) (hrl : row.length ≤ maxI) (hF : F.length = n) (hB : B.length = n) (hn : n = g.st.length) (hown : own.length = n) (hFu : okN F) (hk : ∀ t ∈ row, ∃ j : Nat, t = (j : Int) ∧ j < n ∧ B.getD j false = true) {K : Value → AS → Prop} (hK : K (.int .i64 (nst1 own ats g.st F u)) (stV lo g own ats n F B)) : SoundAt Try.prog 46 [.int .i64 (u : Int), ofN, .pointer (some ⟨1, 0, none⟩), .pointer (some ⟨0, 0, none⟩), .pointer (some ⟨2, 0, none⟩)] (stV lo g own ats n F B) K := by
  refine SoundAt.body hmixU Try.func46 rfl rfl rfl 0 ?_
  have hul : u < n := by rw [hn]; exact (List.getElem?_eq_some_iff.1 hrw).1
  have hua : u < ats.length := (List.getElem?_eq_some_iff.1 har).1
  have hub : u.blt (gL g.st).length = true := by rw [gL_len, ← hn]; exact Nat.ble_eq_true_of_le hul
  have hun : nth (gL g.st) u = some (imS (iL row)) := by rw [nth_eq, gL]; simp [hrw]
  have hab : u.blt (gL ats).length = true := by rw [gL_len]; exact Nat.ble_eq_true_of_le hua
  have han : nth (gL ats) u = some (imS (iL arow)) := by rw [nth_eq, gL]; simp [har]
  have hob : u.blt (iL own).length = true := by rw [iL_len, hown]; exact Nat.ble_eq_true_of_le hul
  have hon := iL_at (l := own) (i := u) (by omega)
  have hrd : g.st.getD u [] = row := by simp [hrw]
  have hard : ats.getD u [] = arow := by simp [har]
  have c2 := brought_d (gt0 own u)
  (repeat' ((conv => whnf); first | refine U.lw_t ?_ | refine U.lw_f ?_ | refine U.lit_t ?_ | refine U.lit_f ?_ | refine U.ob_t ?_ | refine U.ob_c (by first | (with_reducible assumption) | exact Nat.ble_eq_true_of_le (by omega) | exact Nat.ble_eq_true_of_le (by simp at *; omega)) ?_ | refine U.nv_c (by with_reducible assumption) ?_ | refine U.SoundAt.u (c2) (by (repeat (first | exact trivial | ((conv => whnf); first | exact trivial | refine And.intro (by first | assumption | exact cleanI _ | exact cleanEs _ | exact cleanSs _ | exact cleanTs _ | exact cleanE _ | exact cleanIL _ | exact cleanBL _ | exact cleanR _ | exact NoNm.flat _ rfl) ?_)))) ?_ | refine U.SoundC.u (c2) (by (repeat (first | exact trivial | ((conv => whnf); first | exact trivial | refine And.intro (by first | assumption | exact cleanI _ | exact cleanEs _ | exact cleanSs _ | exact cleanTs _ | exact cleanE _ | exact cleanIL _ | exact cleanBL _ | exact cleanR _ | exact NoNm.flat _ rfl) ?_)))) ?_ | refine U.lw_t' (by with_reducible assumption) ?_ | refine U.lw_f' (by with_reducible assumption) ?_ | refine U.lw_c (fun hb => ?_) (fun hb => ?_)))
  (conv => whnf)
  refine loop_inv (α := List Int × List Int) (fun y => y.1 ++ y.2 = row) (fun y => (mkF [(0, .int .i64 (u : Int)), (1, ofN), (4, .pointer (some ⟨2, 0, none⟩)), (7, .int .i64 0), (8, .int .i64 (nstF F (y.1.zip arow) (brg (gt0 own u)))), (20, imS (iL row)), (21, .int .i64 (iL row).length), (22, .int .i64 y.1.length)], stV lo g own ats n F B)) (fun y => y.2.length) ([], row) rfl (Cov.slots (s := stV lo g own ats n F B) (Nat.le_refl _) ⟨rfl, rfl, rfl, rfl, rfl, rfl, rfl, rfl, trivial⟩) ?_
  rintro ⟨p, q⟩ p3
  dsimp only at p3
  dsimp only
  rcases q with _ | ⟨t, q⟩
  · rw [List.append_nil] at p3
    subst p3
    have h4b := U.lt_no iL_map p
    (repeat' ((conv => whnf); first | refine U.lw_t ?_ | refine U.lw_f ?_ | refine U.lit_t ?_ | refine U.lit_f ?_ | refine U.ob_t ?_ | refine U.ob_c (by first | (with_reducible assumption) | exact Nat.ble_eq_true_of_le (by omega) | exact Nat.ble_eq_true_of_le (by simp at *; omega)) ?_ | refine U.nv_c (by with_reducible assumption) ?_ | refine U.lw_t' (by with_reducible assumption) ?_ | refine U.lw_f' (by with_reducible assumption) ?_ | refine U.lw_c (fun hb => ?_) (fun hb => ?_)))
    (conv => whnf)
    rw [nst1, hrd, hard] at hK
    exact hK
  · have hrl2 := hrl
    rw [← p3] at hrl2
    have h4b := U.lt_yes iL_map p (t) q; have h4c := U.blt_yes iL_map p (t) q; have h4n := U.nth_at iL_map p (t) q; have h4w := U.len_snoc (pre := p) (x := t) (post := q) (hrl2)
    rw [p3] at h4b h4c h4n
    obtain ⟨j, rfl, hjn, hjk⟩ := hk t (by rw [← p3]; simp)
    have hpl : p.length < arow.length := by rw [hal, ← p3]; simp
    have hub2 : p.length.blt (iL arow).length = true := by rw [iL_len]; exact Nat.ble_eq_true_of_le hpl
    have han2 := iL_at (l := arow) (i := p.length) hpl
    have hzs := zip_snoc (t := (j : Int)) hpl
    have hFj := okN_at hFu j
    have hss : nstF F ((p ++ [(j : Int)]).zip arow) (brg (gt0 own u)) = max (nstF F (p.zip arow) (brg (gt0 own u))) (brg (brg (gt0 arow p.length) + gt0 F j)) := by
      rw [hzs]; simp [nstF]
    generalize nstF F (p.zip arow) (brg (gt0 own u)) = s0 at *
    have c3 := brought_d (gt0 arow p.length)
    have c4 := brought_d (IntKind.i64.wrap (brg (gt0 arow p.length) + gt0 F j))
    rw [brg_wrap _ _ hFj] at c4
    have ew := brg_wrap (gt0 arow p.length) (gt0 F j) hFj
    (repeat' ((conv => whnf); first | refine U.lw_t ?_ | refine U.lw_f ?_ | refine U.lit_t ?_ | refine U.lit_f ?_ | refine U.ob_t ?_ | refine ofn_known lo g own ats F B n j hF hB hjn hjk ?_ | rw [ew] | refine U.ob_c (by first | (with_reducible assumption) | exact Nat.ble_eq_true_of_le (by omega) | exact Nat.ble_eq_true_of_le (by simp at *; omega)) ?_ | refine U.nv_c (by with_reducible assumption) ?_ | refine U.SoundAt.u (c3) (by (repeat (first | exact trivial | ((conv => whnf); first | exact trivial | refine And.intro (by first | assumption | exact cleanI _ | exact cleanEs _ | exact cleanSs _ | exact cleanTs _ | exact cleanE _ | exact cleanIL _ | exact cleanBL _ | exact cleanR _ | exact NoNm.flat _ rfl) ?_)))) ?_ | refine U.SoundAt.u (c4) (by (repeat (first | exact trivial | ((conv => whnf); first | exact trivial | refine And.intro (by first | assumption | exact cleanI _ | exact cleanEs _ | exact cleanSs _ | exact cleanTs _ | exact cleanE _ | exact cleanIL _ | exact cleanBL _ | exact cleanR _ | exact NoNm.flat _ rfl) ?_)))) ?_ | refine U.SoundC.u (c3) (by (repeat (first | exact trivial | ((conv => whnf); first | exact trivial | refine And.intro (by first | assumption | exact cleanI _ | exact cleanEs _ | exact cleanSs _ | exact cleanTs _ | exact cleanE _ | exact cleanIL _ | exact cleanBL _ | exact cleanR _ | exact NoNm.flat _ rfl) ?_)))) ?_ | refine U.SoundC.u (c4) (by (repeat (first | exact trivial | ((conv => whnf); first | exact trivial | refine And.intro (by first | assumption | exact cleanI _ | exact cleanEs _ | exact cleanSs _ | exact cleanTs _ | exact cleanE _ | exact cleanIL _ | exact cleanBL _ | exact cleanR _ | exact NoNm.flat _ rfl) ?_)))) ?_ | refine U.lw_t' (by with_reducible assumption) ?_ | refine U.lw_f' (by with_reducible assumption) ?_ | refine U.lw_c (fun hb => ?_) (fun hb => ?_)))
    (conv => whnf)
    exact ⟨(p ++ [(j : Int)], q), by rw [← p3]; simp, by simp, Cov.slots (s := stV lo g own ats n F B) (Nat.le_refl _) ⟨rfl, rfl, rfl, rfl, congrArg some (congrArg (Value.int .i64) (by rw [hss, max_if])), rfl, rfl, congrArg some (congrArg (Value.int .i64) h4w), trivial⟩⟩
end Go.Proofs.Ythekpmpcbidjiaa
/- Layer 11: calls.Nested: a node that is not known yet. -/
namespace Go.Proofs.Ythekpmpcbidjiaa
open Go Go.RowKit Go.Sort U
set_option linter.unusedVariables false
set_option linter.unusedSimpArgs false
set_option maxRecDepth 100000
set_option maxHeartbeats 4000000
theorem told_n (lo : Nat) (g : Gz) (own : List Int) (ats : List (List Int)) (F : List Int) (B : List Bool) (n : Nat) : ∀ k b, (stV lo g own ats n F B).heap.get k = some b → RenB 10 ⟨fun k => k, fun _ _ => False⟩ b b := told_of (.cons rfl (.row _ _ _ _ (cleanG_cells g) rfl) (.cons rfl (.cells _ _ _ _ (.cons (.clean _ _ (cleanIL _) rfl) .nil)) (.cons rfl (.cells _ _ _ _ (.cons (.clean _ _ (cleanGL _) rfl) .nil)) (.cons rfl (.row _ _ _ _ (cleanG_cells g) rfl) (.cons rfl (.cells _ _ _ _ (.cons (.fnL .nil (.cons (.ptr _ _ _ (by decide) rfl) (.cons (.ptr _ _ _ (by decide) rfl) (.cons (.ptr _ _ _ (by decide) rfl) .nil)))) .nil)) (.cons rfl (.row _ _ _ _ (cleanIl0 _) rfl) (.cons rfl (.cells _ _ _ _ (.cons (.sl _ _ _ _ _ _ _ (by decide) rfl rfl rfl) .nil)) (.cons rfl (.row _ _ _ _ (cleanBl _) rfl) (.cons rfl (.cells _ _ _ _ (.cons (.sl _ _ _ _ _ _ _ (by decide) rfl rfl rfl) .nil)) (.cons rfl (.cells _ _ _ _ (.cons (.fnL .nil (.cons (.ptr _ _ _ (by decide) rfl) (.cons (.ptr _ _ _ (by decide) rfl) (.cons (.ptr _ _ _ (by decide) rfl) (.cons (.ptr _ _ _ (by decide) rfl) .nil))))) .nil)) .nil))))))))))
theorem rule_nc (lo : Nat) (g : Gz) (own : List Int) (ats : List (List Int)) (F : List Int) (B : List Bool) (n u : Nat) (row arow : List Int) (hrw : g.st[u]? = some row) (har : ats[u]? = some arow) (hal : arow.length = row.length) (hrl : row.length ≤ maxI) (hF : F.length = n) (hB : B.length = n) (hn : n = g.st.length) (hown : own.length = n) (hFu : okN F) (hk : ∀ t ∈ row, ∃ j : Nat, t = (j : Int) ∧ j < n ∧ B.getD j false = true) {K : Value → AS → Prop} (hK : K (.int .i64 (nst1 own ats g.st F u)) (stV lo g own ats n F B)) : SoundC Try.prog 46 [.int .i64 (u : Int), ofN, .pointer (some ⟨1, 0, none⟩), .pointer (some ⟨0, 0, none⟩), .pointer (some ⟨2, 0, none⟩)] (stV lo g own ats n F B) K :=
  .ofAt (.cons (.clean _ _ (cleanI _) rfl) (.cons (.fnL .nil (.cons (.ptr _ _ _ (Nat.le_of_ble_eq_true rfl) rfl) (.cons (.ptr _ _ _ (Nat.le_of_ble_eq_true rfl) rfl) (.cons (.ptr _ _ _ (Nat.le_of_ble_eq_true rfl) rfl) (.cons (.ptr _ _ _ (Nat.le_of_ble_eq_true rfl) rfl) .nil))))) (.cons (.ptr _ _ _ (Nat.le_of_ble_eq_true rfl) rfl) (.cons (.ptr _ _ _ (Nat.le_of_ble_eq_true rfl) rfl) (.cons (.ptr _ _ _ (Nat.le_of_ble_eq_true rfl) rfl) .nil))))) (told_n lo g own ats F B n) (Nat.zero_le _) (rule_n lo g own ats F B n u row arow hrw har hal hrl hF hB hn hown hFu hk ⟨rfl, rfl⟩) hK
theorem ofn_new (g : Gz) (own : List Int) (ats : List (List Int)) (F : List Int) (B : List Bool) (n u : Nat) (row arow : List Int) (hrw : g.st[u]? = some row) (har : ats[u]? = some arow) (hal : arow.length = row.length) (hrl : row.length ≤ maxI) (hF : F.length = n) (hB : B.length = n) (hn : n = g.st.length) (hown : own.length = n) (hFu : okN F) (hk : ∀ t ∈ row, ∃ j : Nat, t = (j : Int) ∧ j < n ∧ B.getD j false = true) (hnk : B.getD u false = false) {K : Value → AS → Prop} (hK : ∀ v, K v (stV 0 g own ats n (F.set u (nst1 own ats g.st F u)) (B.set u true))) : SoundAt Try.prog 74 [.int .i64 (u : Int), .pointer (some ⟨8, 0, none⟩), .pointer (some ⟨4, 0, none⟩), .pointer (some ⟨9, 0, none⟩), .pointer (some ⟨6, 0, none⟩)] (stV 0 g own ats n F B) K := by
  refine SoundAt.body hmixU Try.func74 rfl rfl rfl 0 ?_
  have hul : u < n := by rw [hn]; exact (List.getElem?_eq_some_iff.1 hrw).1
  have hjb : u.blt n = true := Nat.ble_eq_true_of_le hul
  have n1 := blL_nth (l := B) (i := u) (by omega)
  rw [hnk] at n1
  have hst1 : ∀ v : Value, 0 + u * 1 + [v].length ≤ (iL F).length := fun v => by rw [iL_len, hF, List.length_singleton]; omega
  have hst2 : ∀ v : Value, 0 + u * 1 + [v].length ≤ (blL B).length := fun v => by rw [blL_len, hB, List.length_singleton]; omega
  have es1 := iL_store0 (L := F) (i := u) (x := nst1 own ats g.st F u) (by omega)
  have es2 := blL_store (L := B) (i := u) (x := true) (by omega)
  have n2 : nth ((iL F).take (0 + u * 1) ++ [Value.int .i64 (nst1 own ats g.st F u)] ++ (iL F).drop (0 + u * 1 + [Value.int .i64 (nst1 own ats g.st F u)].length)) (0 + u * 1) = some (.int .i64 (nst1 own ats g.st F u)) := by
    rw [es1, iL_nth0 (by rw [List.length_set]; omega)]
    simp [gt0, hF, hul]
  (repeat' ((conv => whnf); first | refine U.lw_t ?_ | refine U.lw_f ?_ | refine U.lit_t ?_ | refine U.lit_f ?_ | refine U.ob_t ?_ | (conv in (nth _ _) => (change nth _ (0 + u * 1); rw [n1])) | refine rule_nc 10 g own ats F B n u row arow hrw har hal hrl hF hB hn hown hFu hk ?_ | refine U.storeC_p (hst1 _) ?_ | refine U.storeC_p (hst2 _) ?_ | (conv in (nth _ _) => (change nth ((iL F).take (0 + u * 1) ++ [Value.int .i64 (nst1 own ats g.st F u)] ++ (iL F).drop (0 + u * 1 + [Value.int .i64 (nst1 own ats g.st F u)].length)) (0 + u * 1); rw [n2])) | refine U.ob_c (by first | (with_reducible assumption) | exact Nat.ble_eq_true_of_le (by omega) | exact Nat.ble_eq_true_of_le (by simp at *; omega)) ?_ | refine U.nv_c (by with_reducible assumption) ?_ | refine U.drawX_p (D := U.propX) 7 [] (by decide +kernel) (by decide +kernel) ?_ | refine U.lw_t' (by with_reducible assumption) ?_ | refine U.lw_f' (by with_reducible assumption) ?_ | refine U.lw_c (fun hb => ?_) (fun hb => ?_)))
  (conv => whnf)
  have := hK (retC [.int .i64 (nst1 own ats g.st F u)])
  rw [stV, ← es1, ← es2] at this
  exact this
end Go.Proofs.Ythekpmpcbidjiaa
