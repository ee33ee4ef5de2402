
import Derived.Test.YthekpmpcbidjiaaK38
/- Layer 11: the reference's Nested; numbers brought into a range. -/
namespace Go.Proofs.Ythekpmpcbidjiaa
open Go Go.RowKit Go.Sort U
set_option linter.unusedVariables false
set_option linter.unusedSimpArgs false
set_option maxRecDepth 100000
set_option maxHeartbeats 4000000
def brg (n : Int) : Int := max 0 (min n 1073741824)
theorem brg_in (n : Int) : 0 ≤ brg n ∧ brg n ≤ 1073741824 := by unfold brg; omega
theorem brought_d (n : Int) : DenU Try.prog [] 47 [.int .i64 n] (.int .i64 (brg n)) := by
  refine denU_of_body hmixU rfl Try.func47 rfl rfl rfl 0 ?_
  intro Ts
  (repeat' ((conv => whnf); first | refine U.lw_t ?_ | refine U.lw_f ?_ | refine U.lit_t ?_ | refine U.lit_f ?_ | refine U.ob_t ?_ | refine U.ob_c (by first | (with_reducible assumption) | exact Nat.ble_eq_true_of_le (by omega) | exact Nat.ble_eq_true_of_le (by simp at *; omega)) ?_ | refine U.nv_c (by with_reducible assumption) ?_ | refine U.lw_t' (by with_reducible assumption) ?_ | refine U.lw_f' (by with_reducible assumption) ?_ | refine U.lw_c (fun hb => ?_) (fun hb => ?_)))
  all_goals (conv => whnf)
  refine .same (.flat _ rfl) (congrArg (Value.int .i64) ?_)
  show _ = brg n
  unfold brg
  split <;> (try split) <;> omega
theorem bring_d (n : Int) : DenU Try.prog [] 48 [.int .i64 n] (.int .i64 (brg n)) := by
  refine denU_of_body hmixU rfl Try.func48 rfl rfl rfl 0 ?_
  intro Ts
  (repeat' ((conv => whnf); first | refine U.lw_t ?_ | refine U.lw_f ?_ | refine U.lit_t ?_ | refine U.lit_f ?_ | refine U.ob_t ?_ | refine U.ob_c (by first | (with_reducible assumption) | exact Nat.ble_eq_true_of_le (by omega) | exact Nat.ble_eq_true_of_le (by simp at *; omega)) ?_ | refine U.nv_c (by with_reducible assumption) ?_ | refine U.lw_t' (by with_reducible assumption) ?_ | refine U.lw_f' (by with_reducible assumption) ?_ | refine U.lw_c (fun hb => ?_) (fun hb => ?_)))
  all_goals (conv => whnf)
  refine .same (.flat _ rfl) (congrArg (Value.int .i64) ?_)
  show _ = brg n
  unfold brg
  split <;> split <;> omega
/-- How deep a node is nested, by its sites and what stands at them. -/
def nstF (F : List Int) (l : List (Int × Int)) (s : Int) : Int := l.foldl (fun s e => max s (brg (brg e.2 + gt0 F e.1.toNat))) s
def nst1 (own : List Int) (ats st : List (List Int)) (F : List Int) (v : Nat) : Int := nstF F ((st.getD v []).zip (ats.getD v [])) (brg (gt0 own v))
def okN (l : List Int) : Prop := ∀ x ∈ l, 0 ≤ x ∧ x ≤ 1073741824
theorem okN_at {l : List Int} (h : okN l) (i : Nat) : 0 ≤ gt0 l i ∧ gt0 l i ≤ 1073741824 := by
  unfold gt0
  rw [List.getD_eq_getElem?_getD]
  cases hi : l[i]? with
  | none => simp
  | some x => exact h x (List.mem_of_getElem? hi)
theorem nstF_in (F : List Int) : ∀ (l : List (Int × Int)) (s : Int), 0 ≤ s ∧ s ≤ 1073741824 → 0 ≤ nstF F l s ∧ nstF F l s ≤ 1073741824
  | [], s, h => h
  | e :: l, s, h => by
    have h2 : 0 ≤ max s (brg (brg e.2 + gt0 F e.1.toNat)) ∧ max s (brg (brg e.2 + gt0 F e.1.toNat)) ≤ 1073741824 := by
      have := brg_in (brg e.2 + gt0 F e.1.toNat)
      omega
    exact nstF_in F l _ h2
theorem nst1_in (own : List Int) (ats st : List (List Int)) (F : List Int) (v : Nat) : 0 ≤ nst1 own ats st F v ∧ nst1 own ats st F v ≤ 1073741824 := nstF_in _ _ _ (brg_in _)
theorem okN_set {F : List Int} (hF : okN F) (i : Nat) {x : Int} (hx : 0 ≤ x ∧ x ≤ 1073741824) : okN (F.set i x) := fun y hy => by
  rcases List.mem_or_eq_of_mem_set hy with h | rfl
  · exact hF y h
  · exact hx
theorem okN_zero (n : Nat) : okN (List.replicate n 0) := fun x hx => by
  rw [(List.mem_replicate.1 hx).2]
  simp
theorem foldN_ok (own : List Int) (ats st : List (List Int)) : ∀ (ord : List Int) {F : List Int}, okN F → okN (foldO (nst1 own ats st) ord F)
  | [], F, h => h
  | t :: ord, F, h => by rw [foldO_cons]; exact foldN_ok own ats st ord (okN_set h _ (nst1_in ..))
theorem iL_nth0 {L : List Int} {i : Nat} (h : i < L.length) : nth (iL L) (0 + i * 1) = some (.int .i64 (gt0 L i)) := by
  rw [Nat.zero_add, Nat.mul_one, nth_eq]
  simp [iL, gt0, h]
theorem iL_store0 {L : List Int} {i : Nat} {x : Int} (h : i < L.length) : (iL L).take (0 + i * 1) ++ [Value.int .i64 x] ++ (iL L).drop (0 + i * 1 + [Value.int .i64 x].length) = iL (L.set i x) := by
  rw [Nat.zero_add, Nat.mul_one, List.length_singleton, iL, iL, ← List.map_take, ← List.map_drop, List.set_eq_take_append_cons_drop, if_pos h]
  simp
theorem cleanIl0 (l : List Int) : ∀ x, x ∈ iL l → NoNm x := fun x hx => cleanIC l x (by rw [cellsI]; exact hx)
theorem iL_zero (n : Nat) : iL (List.replicate n 0) = repX n [.int .i64 0] := by rw [repX_one, iL]; simp
theorem brg_wrap (a x : Int) (hx : 0 ≤ x ∧ x ≤ 1073741824) : IntKind.i64.wrap (brg a + x) = brg a + x := by
  rw [IntKind.wrap_i64]
  have := brg_in a
  omega
theorem gt0_set_same {L : List Int} {m : Nat} {x : Int} (h : m < L.length) : gt0 (L.set m x) m = x := by simp [gt0, h]
theorem gt0_set_ne {L : List Int} {m k : Nat} {x : Int} (hk : k ≠ m) : gt0 (L.set m x) k = gt0 L k := by
  unfold gt0
  simp only [List.getD_eq_getElem?_getD, List.getElem?_set]
  rw [if_neg (fun e => hk e.symm)]
def okAt (st ats : List (List Int)) : Prop := ats.length = st.length ∧ ∀ v : Nat, v < st.length → (ats.getD v []).length = (st.getD v []).length
theorem zip_snoc : ∀ {p arow : List Int} {t : Int}, p.length < arow.length → (p ++ [t]).zip arow = p.zip arow ++ [(t, gt0 arow p.length)]
  | [], [], _, h => by simp at h
  | [], a :: l, t, _ => by simp [gt0]
  | x :: p, [], _, h => by simp at h
  | x :: p, a :: l, t, h => by
    have := zip_snoc (p := p) (arow := l) (t := t) (by simpa using h)
    simp only [List.cons_append, List.zip_cons_cons, this]
    simp [gt0]
theorem max_if (a b : Int) : max a b = if b > a then b else a := by split <;> omega
theorem rnes_d (g : Gz) (own : List Int) (ats : List (List Int)) (hst : g.st.length ≤ 29000) (hrow : ∀ r ∈ g.st, r.length ≤ maxI) (hown : own.length = g.st.length) (hat : okAt g.st ats) : DenU Try.prog [] 20 [encG g, imS (iL own), imS (gL ats)] (imS (iL (foldO (nst1 own ats g.st) (orderR g.st).1 (List.replicate g.st.length 0)))) := by
  refine denU_of_sound hmixU fun Ts => SoundAt.body hmixU Try.func20 rfl rfl rfl 0 ?_
  have c1 := rorder_d g (by omega) hrow
  have hO := ordOk_of g.st
  obtain ⟨nm, st⟩ := g
  have cg := cleanG ⟨nm, st⟩
  dsimp only at hown hst hrow c1 hO hat ⊢
  have hmf := mk_full (zs := [.int .i64 0]) (n := (gL st).length) (b := 8) rfl rfl (by decide) (by rw [gL_len]; omega)
  generalize hord : (orderR st).1 = ord at *
  (repeat' ((conv => whnf); first | refine U.ob_c hmf ?_ | refine U.lw_t ?_ | refine U.lw_f ?_ | refine U.lit_t ?_ | refine U.lit_f ?_ | refine U.ob_t ?_ | refine U.spineC_p ?_ | refine U.ob_c (by first | (with_reducible assumption) | exact Nat.ble_eq_true_of_le (by omega) | exact Nat.ble_eq_true_of_le (by simp at *; omega)) ?_ | refine U.nv_c (by with_reducible assumption) ?_ | refine U.SoundAt.u (c1) (by (repeat (first | exact trivial | ((conv => whnf); first | exact trivial | refine And.intro (by first | assumption | exact cleanI _ | exact cleanEs _ | exact cleanSs _ | exact cleanTs _ | exact cleanE _ | exact cleanIL _ | exact cleanBL _ | exact cleanR _ | exact NoNm.flat _ rfl) ?_)))) ?_ | refine U.SoundC.u (c1) (by (repeat (first | exact trivial | ((conv => whnf); first | exact trivial | refine And.intro (by first | assumption | exact cleanI _ | exact cleanEs _ | exact cleanSs _ | exact cleanTs _ | exact cleanE _ | exact cleanIL _ | exact cleanBL _ | exact cleanR _ | exact NoNm.flat _ rfl) ?_)))) ?_ | refine U.lw_t' (by with_reducible assumption) ?_ | refine U.lw_f' (by with_reducible assumption) ?_ | refine U.lw_c (fun hb => ?_) (fun hb => ?_)))
  (conv => whnf)
  have hol := hO.len
  refine loop_inv (α := List Int × List Int) (fun x => x.1 ++ x.2 = ord) (fun x => (mkF [(1, imS (iL own)), (2, imS (gL ats)), (3, .pointer (some ⟨0, 0, none⟩)), (6, .slice none 0 0), (7, .slice (some ⟨1, 0, none⟩) (gL st).length (gL st).length), (8, imS (iL ord)), (10, .int .i64 x.1.length)], ⟨mkO [(0, some (.cells 36 [imS (sL nm), imS (gL st)] false)), (1, some (.cells 3 (iL (foldO (nst1 own ats st) x.1 (List.replicate st.length 0))) false))], 2, 0, 0⟩)) (fun x => x.2.length) ([], ord) rfl (Cov.renO (fun k => k) rfl rfl (Nat.le_of_ble_eq_true rfl) (Nat.zero_le _) (fun _ _ => rfl) rfl (fun k hk => absurd hk (Nat.not_lt_zero k)) (.cons rfl (.row _ _ _ _ (cleanG_cells ⟨nm, st⟩) rfl) (.cons rfl (.row _ _ _ _ (cleanIl0 _) ((by rw [foldO_nil, iL_zero, gL_len]; rfl))) .nil)) (.cons rfl (.clean _ _ (cleanIL _) rfl) (.cons rfl (.clean _ _ (cleanGL _) rfl) (.cons rfl (.ptr _ _ _ (by decide) rfl) (.cons rfl (.clean _ _ (.flat _ rfl) rfl) (.cons rfl (.sl _ _ _ _ _ _ _ (by decide) rfl (rfl) (rfl)) (.cons rfl (.clean _ _ (cleanIL _) rfl) (.cons rfl (.clean _ _ (cleanI _) rfl) .nil)))))))) ?_
  rintro ⟨pre, rest⟩ p1
  dsimp only at p1
  dsimp only
  rcases rest with _ | ⟨x, rest⟩
  · rw [List.append_nil] at p1
    subst p1
    have h3b := U.lt_no iL_map pre
    (repeat' ((conv => whnf); first | refine U.lw_t ?_ | refine U.lw_f ?_ | refine U.lit_t ?_ | refine U.lit_f ?_ | refine U.ob_t ?_ | refine U.ob_c (by first | (with_reducible assumption) | exact Nat.ble_eq_true_of_le (by omega) | exact Nat.ble_eq_true_of_le (by simp at *; omega)) ?_ | refine U.nv_c (by with_reducible assumption) ?_ | refine U.lw_t' (by with_reducible assumption) ?_ | refine U.lw_f' (by with_reducible assumption) ?_ | refine U.lw_c (fun hb => ?_) (fun hb => ?_)))
    (conv => whnf)
    exact .rowL (k := 1) (Nat.zero_le _) rfl (by rw [cellsI]) iL_1 (by rw [iL_len, foldO_len, gL_len]; simp) (Nat.le_refl _) (cleanIC _)
  · have hpo : (pre ++ x :: rest).length ≤ maxI := by rw [p1]; unfold maxI; omega
    have h3b := U.lt_yes iL_map pre (x) rest; have h3c := U.blt_yes iL_map pre (x) rest; have h3n := U.nth_at iL_map pre (x) rest; have h3w := U.len_snoc (pre := pre) (x := x) (post := rest) (hpo)
    rw [p1] at h3b h3c h3n
    obtain ⟨u, hul, rfl⟩ := hO.inn x (by rw [← p1]; simp)
    have hFl : (foldO (nst1 own ats st) pre (List.replicate st.length 0)).length = st.length := by rw [foldO_len]; simp
    have hFu := foldN_ok own ats st pre (okN_zero st.length)
    have hfs := foldO_snoc (nst1 own ats st) pre (List.replicate st.length 0) (u : Int)
    rw [show ((u : Nat) : Int).toNat = u from rfl] at hfs
    generalize foldO (nst1 own ats st) pre (List.replicate st.length 0) = F at *
    obtain ⟨row, hrw⟩ : ∃ row, st[u]? = some row := ⟨st[u], by simp [hul]⟩
    obtain ⟨arow, har⟩ : ∃ row, ats[u]? = some row := ⟨ats[u]'(by rw [hat.1]; exact hul), by simp [hat.1, hul]⟩
    have hrd : st.getD u [] = row := by simp [hrw]
    have hard : ats.getD u [] = arow := by simp [har]
    have hal : arow.length = row.length := by rw [← hrd, ← hard]; exact hat.2 u hul
    have hrl := hrow row (List.mem_of_getElem? hrw)
    have hub : u.blt (gL st).length = true := by rw [gL_len]; exact Nat.ble_eq_true_of_le hul
    have hun : nth (gL st) u = some (imS (iL row)) := by rw [nth_eq, gL]; simp [hrw]
    have hab : u.blt (gL ats).length = true := by rw [gL_len, hat.1]; exact Nat.ble_eq_true_of_le hul
    have han : nth (gL ats) u = some (imS (iL arow)) := by rw [nth_eq, gL]; simp [har]
    have hob : u.blt (iL own).length = true := by rw [iL_len, hown]; exact Nat.ble_eq_true_of_le hul
    have hon := iL_at (l := own) (i := u) (by omega)
    have c2 := bring_d (gt0 own u)
    have hst4 : ∀ (M : List Int) (v : Value), M.length = st.length → 0 + u * 1 + [v].length ≤ (iL M).length := fun M v h => by rw [iL_len, h, List.length_singleton]; omega
    have es := iL_store0 (L := F) (i := u) (x := brg (gt0 own u)) (by omega)
    (repeat' ((conv => whnf); first | refine U.lw_t ?_ | refine U.lw_f ?_ | refine U.lit_t ?_ | refine U.lit_f ?_ | refine U.ob_t ?_ | refine U.storeC_p (hst4 F _ hFl) ?_ | refine U.ob_c (by first | (with_reducible assumption) | exact Nat.ble_eq_true_of_le (by omega) | exact Nat.ble_eq_true_of_le (by simp at *; omega)) ?_ | refine U.nv_c (by with_reducible assumption) ?_ | refine U.SoundAt.u (c2) (by (repeat (first | exact trivial | ((conv => whnf); first | exact trivial | refine And.intro (by first | assumption | exact cleanI _ | exact cleanEs _ | exact cleanSs _ | exact cleanTs _ | exact cleanE _ | exact cleanIL _ | exact cleanBL _ | exact cleanR _ | exact NoNm.flat _ rfl) ?_)))) ?_ | refine U.SoundC.u (c2) (by (repeat (first | exact trivial | ((conv => whnf); first | exact trivial | refine And.intro (by first | assumption | exact cleanI _ | exact cleanEs _ | exact cleanSs _ | exact cleanTs _ | exact cleanE _ | exact cleanIL _ | exact cleanBL _ | exact cleanR _ | exact NoNm.flat _ rfl) ?_)))) ?_ | refine U.lw_t' (by with_reducible assumption) ?_ | refine U.lw_f' (by with_reducible assumption) ?_ | refine U.lw_c (fun hb => ?_) (fun hb => ?_)))
    (conv => whnf)
    refine loop_inv (α := List Int × List Int) (fun y => y.1 ++ y.2 = row) (fun y => (mkF [(1, imS (iL own)), (2, imS (gL ats)), (3, .pointer (some ⟨0, 0, none⟩)), (6, .slice none 0 0), (7, .slice (some ⟨1, 0, none⟩) (gL st).length (gL st).length), (8, imS (iL ord)), (10, .int .i64 pre.length), (11, .int .i64 u), (12, .int .i64 y.1.length)], ⟨mkO [(0, some (.cells 36 [imS (sL nm), imS (gL st)] false)), (1, some (.cells 3 (iL (F.set u (nstF F (y.1.zip arow) (brg (gt0 own u))))) false))], 2, 0, 0⟩)) (fun y => y.2.length) ([], row) rfl (Cov.renO (fun k => k) rfl rfl (Nat.le_of_ble_eq_true rfl) (Nat.zero_le _) (fun _ _ => rfl) rfl (fun k hk => absurd hk (Nat.not_lt_zero k)) (.cons rfl (.row _ _ _ _ (cleanG_cells ⟨nm, st⟩) rfl) (.cons rfl (.row _ _ _ _ (cleanIl0 _) (es.symm)) .nil)) (.cons rfl (.clean _ _ (cleanIL _) rfl) (.cons rfl (.clean _ _ (cleanGL _) rfl) (.cons rfl (.ptr _ _ _ (by decide) rfl) (.cons rfl (.clean _ _ (.flat _ rfl) rfl) (.cons rfl (.sl _ _ _ _ _ _ _ (by decide) rfl (rfl) (rfl)) (.cons rfl (.clean _ _ (cleanIL _) rfl) (.cons rfl (.clean _ _ (cleanI _) rfl) (.cons rfl (.clean _ _ (cleanI _) rfl) (.cons rfl (.clean _ _ (cleanI _) rfl) .nil)))))))))) ?_
    rintro ⟨p, q⟩ p3
    dsimp only at p3
    dsimp only
    rcases q with _ | ⟨t, q⟩
    · rw [List.append_nil] at p3
      subst p3
      have h4b := U.lt_no iL_map p
      (repeat' ((conv => whnf); first | refine U.lw_t ?_ | refine U.lw_f ?_ | refine U.lit_t ?_ | refine U.lit_f ?_ | refine U.ob_t ?_ | refine U.ob_c (by first | (with_reducible assumption) | exact Nat.ble_eq_true_of_le (by omega) | exact Nat.ble_eq_true_of_le (by simp at *; omega)) ?_ | refine U.nv_c (by with_reducible assumption) ?_ | refine U.lw_t' (by with_reducible assumption) ?_ | refine U.lw_f' (by with_reducible assumption) ?_ | refine U.lw_c (fun hb => ?_) (fun hb => ?_)))
      (conv => whnf)
      refine ⟨(pre ++ [(u : Int)], rest), by rw [← p1]; simp, by simp, ?_⟩
      dsimp only
      rw [hfs, nst1, hrd, hard]
      exact Cov.slots (s := ⟨mkO [(0, some (.cells 36 [imS (sL nm), imS (gL st)] false)), (1, some (.cells 3 (iL (F.set u (nstF F (p.zip arow) (brg (gt0 own u))))) false))], 2, 0, 0⟩) (Nat.le_of_ble_eq_true rfl) ⟨rfl, rfl, rfl, rfl, rfl, rfl, congrArg some (congrArg (Value.int .i64) h3w), trivial⟩
    · have hrl2 := hrl
      rw [← p3] at hrl2
      have h4b := U.lt_yes iL_map p (t) q; have h4c := U.blt_yes iL_map p (t) q; have h4n := U.nth_at iL_map p (t) q; have h4w := U.len_snoc (pre := p) (x := t) (post := q) (hrl2)
      rw [p3] at h4b h4c h4n
      have htp := hO.cl pre rest u p1.symm t (by rw [hrd, ← p3]; simp)
      obtain ⟨j, hjl, rfl⟩ := hO.inn t (by rw [← p1]; exact List.mem_append_left _ htp)
      have hju : j ≠ u := fun e => by
        subst e
        have := hO.nd
        rw [← p1] at this
        exact (List.nodup_append.1 this).2.2 _ htp (j : Int) (by simp) rfl
      have hpl : p.length < arow.length := by rw [hal, ← p3]; simp
      have hjb : j.blt (gL st).length = true := by rw [gL_len]; exact Nat.ble_eq_true_of_le hjl
      have hub2 : p.length.blt (iL arow).length = true := by rw [iL_len]; exact Nat.ble_eq_true_of_le hpl
      have han2 := iL_at (l := arow) (i := p.length) hpl
      have hzs := zip_snoc (t := (j : Int)) hpl
      have hFj := okN_at hFu j
      have hst5 : ∀ (x : Int) (v : Value), 0 + u * 1 + [v].length ≤ (iL (F.set u x)).length := fun x v => by rw [iL_len, List.length_set, hFl, List.length_singleton]; omega
      have hss : nstF F ((p ++ [(j : Int)]).zip arow) (brg (gt0 own u)) = max (nstF F (p.zip arow) (brg (gt0 own u))) (brg (brg (gt0 arow p.length) + gt0 F j)) := by
        rw [hzs]; simp [nstF]
      generalize nstF F (p.zip arow) (brg (gt0 own u)) = s0 at *
      have hn1 := iL_nth0 (L := F.set u s0) (i := u) (by rw [List.length_set]; omega)
      rw [gt0_set_same (by omega)] at hn1
      have hn2 := iL_nth0 (L := F.set u s0) (i := j) (by rw [List.length_set]; omega)
      rw [gt0_set_ne hju] at hn2
      have c3 := bring_d (gt0 arow p.length)
      have c4 := bring_d (IntKind.i64.wrap (brg (gt0 arow p.length) + gt0 F j))
      rw [brg_wrap _ _ hFj] at c4
      have ew := brg_wrap (gt0 arow p.length) (gt0 F j) hFj
      (repeat' ((conv => whnf); first | refine U.lw_t ?_ | refine U.lw_f ?_ | refine U.lit_t ?_ | refine U.lit_f ?_ | refine U.ob_t ?_ | (conv in (nth _ _) => (change nth _ (0 + u * 1); rw [hn1])) | (conv in (nth _ _) => (change nth _ (0 + j * 1); rw [hn2])) | rw [ew] | refine U.storeC_p (hst5 s0 _) ?_ | refine U.ob_c (by first | (with_reducible assumption) | exact Nat.ble_eq_true_of_le (by omega) | exact Nat.ble_eq_true_of_le (by simp at *; omega)) ?_ | refine U.nv_c (by with_reducible assumption) ?_ | refine U.SoundAt.u (c3) (by (repeat (first | exact trivial | ((conv => whnf); first | exact trivial | refine And.intro (by first | assumption | exact cleanI _ | exact cleanEs _ | exact cleanSs _ | exact cleanTs _ | exact cleanE _ | exact cleanIL _ | exact cleanBL _ | exact cleanR _ | exact NoNm.flat _ rfl) ?_)))) ?_ | refine U.SoundAt.u (c4) (by (repeat (first | exact trivial | ((conv => whnf); first | exact trivial | refine And.intro (by first | assumption | exact cleanI _ | exact cleanEs _ | exact cleanSs _ | exact cleanTs _ | exact cleanE _ | exact cleanIL _ | exact cleanBL _ | exact cleanR _ | exact NoNm.flat _ rfl) ?_)))) ?_ | refine U.SoundC.u (c3) (by (repeat (first | exact trivial | ((conv => whnf); first | exact trivial | refine And.intro (by first | assumption | exact cleanI _ | exact cleanEs _ | exact cleanSs _ | exact cleanTs _ | exact cleanE _ | exact cleanIL _ | exact cleanBL _ | exact cleanR _ | exact NoNm.flat _ rfl) ?_)))) ?_ | refine U.SoundC.u (c4) (by (repeat (first | exact trivial | ((conv => whnf); first | exact trivial | refine And.intro (by first | assumption | exact cleanI _ | exact cleanEs _ | exact cleanSs _ | exact cleanTs _ | exact cleanE _ | exact cleanIL _ | exact cleanBL _ | exact cleanR _ | exact NoNm.flat _ rfl) ?_)))) ?_ | refine U.drawX_p (D := U.propX) 29 [] (by decide +kernel) (by decide +kernel) ?_ | refine U.lw_t' (by with_reducible assumption) ?_ | refine U.lw_f' (by with_reducible assumption) ?_ | refine U.lw_c (fun hb => ?_) (fun hb => ?_)))
      (conv => whnf)
      have es2 := iL_store0 (L := F.set u s0) (i := u) (x := if brg (brg (gt0 arow p.length) + gt0 F j) > s0 then brg (brg (gt0 arow p.length) + gt0 F j) else s0) (by rw [List.length_set]; omega)
      rw [List.set_set, ← max_if] at es2
      refine ⟨(p ++ [(j : Int)], q), by rw [← p3]; simp, by simp, ?_⟩
      dsimp only
      rw [hss]
      rw [max_if] at es2 ⊢
      exact (Cov.renO (fun k => k) rfl rfl (Nat.le_of_ble_eq_true rfl) (Nat.zero_le _) (fun _ _ => rfl) rfl (fun k hk => absurd hk (Nat.not_lt_zero k)) (.cons rfl (.row _ _ _ _ (cleanG_cells ⟨nm, st⟩) rfl) (.cons rfl (.row _ _ _ _ (cleanIl0 _) (es2.symm)) .nil)) (.cons rfl (.clean _ _ (cleanIL _) rfl) (.cons rfl (.clean _ _ (cleanGL _) rfl) (.cons rfl (.ptr _ _ _ (by decide) rfl) (.cons rfl (.clean _ _ (.flat _ rfl) rfl) (.cons rfl (.sl _ _ _ _ _ _ _ (by decide) rfl (rfl) (rfl)) (.cons rfl (.clean _ _ (cleanIL _) rfl) (.cons rfl (.clean _ _ (cleanI _) rfl) (.cons rfl (.clean _ _ (cleanI _) rfl) (.cons rfl (.clean _ _ (cleanI _) (congrArg (Value.int .i64) (h4w.symm))) .nil))))))))))
end Go.Proofs.Ythekpmpcbidjiaa
