/- One round of the walk over trap sites of layer 13. -/
import Derived.Test.YthbhnbnlbhpooaaTM
namespace Go.Proofs.Ythbhnbnlbhpooaa
open Go Go.RowKit Go.Sort U
set_option linter.unusedVariables false
set_option linter.unusedSimpArgs false
set_option maxRecDepth 100000
set_option maxHeartbeats 4000000
def trS (k a : Int) : List Ex → List (Int × Ex)
  | [] => []
  | e :: l => trE e ++ (if k = 1 then [(a, e)] else []) ++ trEs l
def ownE : Ex → List (Int × Ex)
  | .mk k _ a o l => ownT k a o l
def trL (l : List Ex) : List (Int × Ex) := l.flatMap ownE
theorem suffix_map {α : Type} {f : α → Value} {l : List α} {x : Value} {ts : List Value} (h : (x :: ts) <:+ l.map f) : ∃ p y q, l = p ++ y :: q ∧ f y = x ∧ q.map f = ts := by
  obtain ⟨t, ht⟩ := h
  obtain ⟨l1, l2, rfl, h1, h2⟩ := List.map_eq_append_iff.1 ht.symm
  obtain ⟨y, q, rfl, h3, h4⟩ := List.map_eq_cons_iff.1 h2
  exact ⟨l1, y, q, rfl, h3, h4⟩
def wsAt (ws : List (Int × Ex)) (exs : List Ex) (vs : List Value) : List (Int × Ex) := ws ++ trL (exs.take (exs.length - vs.length))
theorem wsAt_cons {ws : List (Int × Ex)} {p q : List Ex} {y : Ex} {x : Value} {ts : List Value} (h : q.map encE = ts) : wsAt ws (p ++ y :: q) (x :: ts) = ws ++ trL p ∧ wsAt ws (p ++ y :: q) ts = ws ++ trL p ++ ownE y := by
  have hl : ts.length = q.length := by rw [← h, List.length_map]
  constructor
  · rw [wsAt, List.length_cons, hl, List.length_append, List.length_cons, show p.length + (q.length + 1) - (q.length + 1) = p.length by omega, List.take_left]
  · rw [wsAt, hl, List.length_append, List.length_cons, show p.length + (q.length + 1) - q.length = p.length + 1 by omega, show p ++ y :: q = (p ++ [y]) ++ q by simp, List.take_left' (by simp), trL, trL, List.flatMap_append, List.append_assoc]
    simp
def rangeOf : Code → Option (List Tmp × Code × Code)
  | .rangeFunc _ ps asg bo => some (ps.toList, asg, bo)
  | .seq a b => match rangeOf a with
    | some x => some x
    | none => rangeOf b
  | .cond _ a b => match rangeOf a with
    | some x => some x
    | none => rangeOf b
  | .block _ c => rangeOf c
  | .loop c => rangeOf c
  | .scope c => rangeOf c
  | _ => none
noncomputable def rangeT : List Tmp × Code × Code := match (match Try.f8.body with
    | some c => rangeOf c
    | none => none) with
  | some x => x
  | none => ([], .skip, .skip)
noncomputable def lpT : U.Blk := .loop .ready none (mkF [(3, .pointer (some ⟨1, 0, none⟩))]) 92 rangeT.1 rangeT.2.1 rangeT.2.2
theorem own_idx {k : Int} (h : (k == 2) = true) (a o : Int) (e : Ex) (l : List Ex) : ownT k a o (e :: l) = [(a, e)] := by
  have h : k = 2 := by simpa using h
  subst h; rfl
theorem own_no {k : Int} (h : (k == 2) = false) (h2 : (k == 4) = false) (a o : Int) (l : List Ex) : ownT k a o l = [] := by
  have h : ¬ k = 2 := by simpa using h
  have h2 : ¬ k = 4 := by simpa using h2
  unfold ownT; rw [if_neg h, if_neg (fun hh => h2 hh.1)]
theorem own_no2 {k o : Int} (h : (k == 2) = false) (h2 : (o == 16) = false) (h3 : (o == 17) = false) (a : Int) (l : List Ex) : ownT k a o l = [] := by
  have h : ¬ k = 2 := by simpa using h
  have h2 : ¬ o = 16 := by simpa using h2
  have h3 : ¬ o = 17 := by simpa using h3
  unfold ownT; rw [if_neg h, if_neg (fun hh => hh.2.elim h2 h3)]
theorem own_one {k : Int} (h : (k == 2) = false) (a o : Int) (e : Ex) : ownT k a o [e] = [] := by
  have h : ¬ k = 2 := by simpa using h
  unfold ownT; rw [if_neg h]; split <;> rfl
theorem own_bin {k o : Int} (h1 : (k == 2) = false) (h2 : (k == 4) = true) (h3 : (o == 16) = true ∨ (o == 17) = true) (a : Int) (e0 e : Ex) (l : List Ex) : ownT k a o (e0 :: e :: l) = [(-1, e)] := by
  have h1 : ¬ k = 2 := by simpa using h1
  have h2 : k = 4 := by simpa using h2
  have h3 : o = 16 ∨ o = 17 := h3.imp (fun h => by simpa using h) (fun h => by simpa using h)
  unfold ownT; rw [if_neg h1, if_pos ⟨h2, h3⟩]
theorem round_d (s : St) (ws : List (Int × Ex)) (hw : ws.length + 1 ≤ 65280) (k n a o : Int) (m : List Ex) (hm : szEs m ≤ 999) : SoundRound Try.prog 65540 [encE (.mk k n a o m)] (stC s lpT ws) fun u t => u = .bool true ∧ CovS Try.prog 65541 t (stC s lpT (ws ++ ownT k a o m)) := by
  refine SoundRound.run hmixU 0 ?_
  have hws : ws.length ≤ 65280 := by omega
  rcases m with _ | ⟨⟨k1, n1, a1, o1, l1⟩, m⟩
  · have hown : ownT k a o [] = [] := by
      unfold ownT; split
      · rfl
      · split <;> rfl
    rw [hown, List.append_nil]
    (repeat' ((conv => whnf); first | refine U.lw_t ?_ | refine U.lw_f ?_ | refine U.lit_t ?_ | refine U.lit_f ?_ | refine U.ob_t ?_ | refine U.ob_c (by first | (with_reducible assumption) | exact Nat.ble_eq_true_of_le (by omega) | exact Nat.ble_eq_true_of_le (by simp at *; omega)) ?_ | refine U.nv_c (by with_reducible assumption) ?_ | refine U.lw_t' (by with_reducible assumption) ?_ | refine U.lw_f' (by with_reducible assumption) ?_ | refine U.lw_c (fun hb => ?_) (fun hb => ?_)))
    all_goals (conv => whnf)
    all_goals exact ⟨rfl, CovS.of (cov_same (l := []) s ws hws (Nat.le_refl _) rfl rfl rfl rfl (fun p => rfl) rfl trivial)⟩
  · have hl1 : szEs l1 ≤ 999 := by rw [szEs, szE] at hm; omega
    have hsame : ∀ {t}, ownT k a o (.mk k1 n1 a1 o1 l1 :: m) = [] → CovS Try.prog 65541 t (stC s lpT ws) → Value.bool (moreC none) = .bool true ∧ CovS Try.prog 65541 t (stC s lpT (ws ++ ownT k a o (.mk k1 n1 a1 o1 l1 :: m))) := fun h1 h2 => ⟨rfl, by rw [h1, List.append_nil]; exact h2⟩
    have hmore : ∀ {t} (p : Int × Ex), ownT k a o (.mk k1 n1 a1 o1 l1 :: m) = [p] → CovS Try.prog 65541 t (stC s lpT (ws ++ [p])) → Value.bool (moreC none) = .bool true ∧ CovS Try.prog 65541 t (stC s lpT (ws ++ ownT k a o (.mk k1 n1 a1 o1 l1 :: m))) := fun p h1 h2 => ⟨rfl, by rw [h1]; exact h2⟩
    rcases l1 with _ | ⟨x1, l1⟩ <;> rcases ws with _ | ⟨w0, ws⟩ <;> rcases m with _ | ⟨⟨k2, n2, a2, o2, l2⟩, m⟩
    · (repeat' ((conv => whnf); first | refine U.lw_t ?_ | refine U.lw_f ?_ | refine U.lit_t ?_ | refine U.lit_f ?_ | refine U.ob_t ?_ | refine U.SoundC.pair (copyC_d k1 n1 a1 o1 [] hl1) (show NoNms [imS (encEs [.mk k1 n1 a1 o1 []])] from ⟨cleanEs _, trivial⟩) rfl (cleanK _ _ _ _) (cleanEsC _) ?_ | refine U.ob_c (by first | (with_reducible assumption) | exact Nat.ble_eq_true_of_le (by omega) | exact Nat.ble_eq_true_of_le (by simp at *; omega)) ?_ | refine U.nv_c (by with_reducible assumption) ?_ | refine U.drawX_p (D := U.propX) 11 [] (by decide +kernel) (by decide +kernel) ?_ | refine U.drawX_p (D := U.propX) 9 [] (by decide +kernel) (by decide +kernel) ?_ | refine U.lw_t' (by with_reducible assumption) ?_ | refine U.lw_f' (by with_reducible assumption) ?_ | refine U.lw_c (fun hb => ?_) (fun hb => ?_)))
      all_goals (conv => whnf)
      all_goals first
        | exact hmore _ (own_idx ‹(k == 2) = true› _ _ _ _) (CovS.of (cov_more (l := []) s [] (a, .mk k1 n1 a1 o1 []) 131333 131331 hw (Nat.le_refl _) (by decide) (by decide) (by decide) rfl rfl rfl rfl rfl (fun p => rfl) rfl trivial))
        | exact hsame (own_no ‹(k == 2) = false› ‹(k == 4) = false› _ _ _) (CovS.of (cov_same (l := []) s [] hws (Nat.le_refl _) rfl rfl rfl rfl (fun p => rfl) rfl trivial))
        | exact hsame (own_no2 ‹(k == 2) = false› ‹(o == 16) = false› ‹(o == 17) = false› _ _) (CovS.of (cov_same (l := []) s [] hws (Nat.le_refl _) rfl rfl rfl rfl (fun p => rfl) rfl trivial))
        | exact hsame (own_one ‹(k == 2) = false› _ _ _) (CovS.of (cov_same (l := []) s [] hws (Nat.le_refl _) rfl rfl rfl rfl (fun p => rfl) rfl trivial))
    · have hl2 : szEs l2 ≤ 999 := by rw [szEs, szEs, szE, szE] at hm; omega
      rcases l2 with _ | ⟨x2, l2⟩
      · have hd0 : decide ((((encEs (.mk k1 n1 a1 o1 [] :: .mk k2 n2 a2 o2 [] :: m)).length : Nat) : Int) > 0) = true := by simp [encEs]; omega
        have hd1 : decide ((((encEs (.mk k1 n1 a1 o1 [] :: .mk k2 n2 a2 o2 [] :: m)).length : Nat) : Int) > 1) = true := by simp [encEs]; omega
        (repeat' ((conv => whnf); first | refine U.lw_t ?_ | refine U.lw_f ?_ | refine U.lit_t ?_ | refine U.lit_f ?_ | refine U.ob_t ?_ | refine U.SoundC.pair (copyC_d k1 n1 a1 o1 [] hl1) (show NoNms [imS (encEs [.mk k1 n1 a1 o1 []])] from ⟨cleanEs _, trivial⟩) rfl (cleanK _ _ _ _) (cleanEsC _) ?_ | refine U.SoundC.pair (copyC_d k2 n2 a2 o2 [] hl2) (show NoNms [imS (encEs [.mk k2 n2 a2 o2 []])] from ⟨cleanEs _, trivial⟩) rfl (cleanK _ _ _ _) (cleanEsC _) ?_ | refine U.ob_c (by first | (with_reducible assumption) | exact Nat.ble_eq_true_of_le (by omega) | exact Nat.ble_eq_true_of_le (by simp at *; omega)) ?_ | refine U.nv_c (by with_reducible assumption) ?_ | refine U.drawX_p (D := U.propX) 11 [] (by decide +kernel) (by decide +kernel) ?_ | refine U.drawX_p (D := U.propX) 9 [] (by decide +kernel) (by decide +kernel) ?_ | refine U.lw_t' (by with_reducible assumption) ?_ | refine U.lw_f' (by with_reducible assumption) ?_ | refine U.lw_c (fun hb => ?_) (fun hb => ?_)))
        all_goals (conv => whnf)
        all_goals first
          | exact hmore _ (own_idx ‹(k == 2) = true› _ _ _ _) (CovS.of (cov_more (l := []) s [] (a, .mk k1 n1 a1 o1 []) 131333 131331 hw (Nat.le_refl _) (by decide) (by decide) (by decide) rfl rfl rfl rfl rfl (fun p => rfl) rfl trivial))
          | exact hsame (own_no ‹(k == 2) = false› ‹(k == 4) = false› _ _ _) (CovS.of (cov_same (l := []) s [] hws (Nat.le_refl _) rfl rfl rfl rfl (fun p => rfl) rfl trivial))
          | exact hsame (own_no2 ‹(k == 2) = false› ‹(o == 16) = false› ‹(o == 17) = false› _ _) (CovS.of (cov_same (l := []) s [] hws (Nat.le_refl _) rfl rfl rfl rfl (fun p => rfl) rfl trivial))
          | exact hmore _ (own_bin ‹(k == 2) = false› ‹(k == 4) = true› (.inl ‹(o == 16) = true›) _ _ _ _) (CovS.of (cov_more (l := []) s [] (-1, .mk k2 n2 a2 o2 []) 131333 131331 hw (Nat.le_refl _) (by decide) (by decide) (by decide) rfl rfl rfl rfl rfl (fun p => rfl) rfl trivial))
          | exact hmore _ (own_bin ‹(k == 2) = false› ‹(k == 4) = true› (.inr ‹(o == 17) = true›) _ _ _ _) (CovS.of (cov_more (l := []) s [] (-1, .mk k2 n2 a2 o2 []) 131333 131331 hw (Nat.le_refl _) (by decide) (by decide) (by decide) rfl rfl rfl rfl rfl (fun p => rfl) rfl trivial))
      · have hd0 : decide ((((encEs (.mk k1 n1 a1 o1 [] :: .mk k2 n2 a2 o2 (x2 :: l2) :: m)).length : Nat) : Int) > 0) = true := by simp [encEs]; omega
        have hd1 : decide ((((encEs (.mk k1 n1 a1 o1 [] :: .mk k2 n2 a2 o2 (x2 :: l2) :: m)).length : Nat) : Int) > 1) = true := by simp [encEs]; omega
        (repeat' ((conv => whnf); first | refine U.lw_t ?_ | refine U.lw_f ?_ | refine U.lit_t ?_ | refine U.lit_f ?_ | refine U.ob_t ?_ | refine U.SoundC.pair (copyC_d k1 n1 a1 o1 [] hl1) (show NoNms [imS (encEs [.mk k1 n1 a1 o1 []])] from ⟨cleanEs _, trivial⟩) rfl (cleanK _ _ _ _) (cleanEsC _) ?_ | refine U.SoundC.pair (copyC_d k2 n2 a2 o2 (x2 :: l2) hl2) (show NoNms [imS (encEs [.mk k2 n2 a2 o2 (x2 :: l2)])] from ⟨cleanEs _, trivial⟩) rfl (cleanK _ _ _ _) (cleanEsC _) ?_ | refine U.ob_c (by first | (with_reducible assumption) | exact Nat.ble_eq_true_of_le (by omega) | exact Nat.ble_eq_true_of_le (by simp at *; omega)) ?_ | refine U.nv_c (by with_reducible assumption) ?_ | refine U.drawX_p (D := U.propX) 11 [] (by decide +kernel) (by decide +kernel) ?_ | refine U.drawX_p (D := U.propX) 9 [] (by decide +kernel) (by decide +kernel) ?_ | refine U.lw_t' (by with_reducible assumption) ?_ | refine U.lw_f' (by with_reducible assumption) ?_ | refine U.lw_c (fun hb => ?_) (fun hb => ?_)))
        all_goals (conv => whnf)
        all_goals first
          | exact hmore _ (own_idx ‹(k == 2) = true› _ _ _ _) (CovS.of (cov_more (l := []) s [] (a, .mk k1 n1 a1 o1 []) 131333 131331 hw (Nat.le_refl _) (by decide) (by decide) (by decide) rfl rfl rfl rfl rfl (fun p => rfl) rfl trivial))
          | exact hsame (own_no ‹(k == 2) = false› ‹(k == 4) = false› _ _ _) (CovS.of (cov_same (l := []) s [] hws (Nat.le_refl _) rfl rfl rfl rfl (fun p => rfl) rfl trivial))
          | exact hsame (own_no2 ‹(k == 2) = false› ‹(o == 16) = false› ‹(o == 17) = false› _ _) (CovS.of (cov_same (l := []) s [] hws (Nat.le_refl _) rfl rfl rfl rfl (fun p => rfl) rfl trivial))
          | exact hmore _ (own_bin ‹(k == 2) = false› ‹(k == 4) = true› (.inl ‹(o == 16) = true›) _ _ _ _) (CovS.of (cov_more (l := []) s [] (-1, .mk k2 n2 a2 o2 (x2 :: l2)) 131333 131331 hw (Nat.le_refl _) (by decide) (by decide) (by decide) rfl rfl rfl rfl rfl (fun p => rfl) rfl trivial))
          | exact hmore _ (own_bin ‹(k == 2) = false› ‹(k == 4) = true› (.inr ‹(o == 17) = true›) _ _ _ _) (CovS.of (cov_more (l := []) s [] (-1, .mk k2 n2 a2 o2 (x2 :: l2)) 131333 131331 hw (Nat.le_refl _) (by decide) (by decide) (by decide) rfl rfl rfl rfl rfl (fun p => rfl) rfl trivial))
    · have hgr : (rowTp 65793 (w0 :: ws)).length = (ws.length + 1) * 6 := rowTp_len _ _; have hgw : ws.length + 1 + (0 + 1) ≤ 100000 := by rw [List.length_cons] at hw; omega
      (repeat' ((conv => whnf); first | refine U.lw_t ?_ | refine U.lw_f ?_ | refine U.lit_t ?_ | refine U.lit_f ?_ | refine U.ob_t ?_ | refine U.SoundC.pair (copyC_d k1 n1 a1 o1 [] hl1) (show NoNms [imS (encEs [.mk k1 n1 a1 o1 []])] from ⟨cleanEs _, trivial⟩) rfl (cleanK _ _ _ _) (cleanEsC _) ?_ | refine U.growRow_p hgr rfl ?_ | rw [U.ble_f (ws.length + 1)] | refine U.ob_c (grow_ok (by decide +kernel) hgw) ?_ | refine U.ob_c (by first | (with_reducible assumption) | exact Nat.ble_eq_true_of_le (by omega) | exact Nat.ble_eq_true_of_le (by simp at *; omega)) ?_ | refine U.nv_c (by with_reducible assumption) ?_ | refine U.drawX_p (D := U.propX) 11 [] (by decide +kernel) (by decide +kernel) ?_ | refine U.drawX_p (D := U.propX) 9 [] (by decide +kernel) (by decide +kernel) ?_ | refine U.lw_t' (by with_reducible assumption) ?_ | refine U.lw_f' (by with_reducible assumption) ?_ | refine U.lw_c (fun hb => ?_) (fun hb => ?_)))
      all_goals (conv => whnf)
      all_goals first
        | exact hmore _ (own_idx ‹(k == 2) = true› _ _ _ _) (CovS.of (cov_more (l := []) s (w0 :: ws) (a, .mk k1 n1 a1 o1 []) 131333 131331 hw (Nat.le_refl _) (by decide) (by decide) (by decide) rfl rfl rfl rfl rfl (fun p => rfl) rfl trivial))
        | exact hsame (own_no ‹(k == 2) = false› ‹(k == 4) = false› _ _ _) (CovS.of (cov_same (l := []) s (w0 :: ws) hws (Nat.le_refl _) rfl rfl rfl rfl (fun p => rfl) rfl trivial))
        | exact hsame (own_no2 ‹(k == 2) = false› ‹(o == 16) = false› ‹(o == 17) = false› _ _) (CovS.of (cov_same (l := []) s (w0 :: ws) hws (Nat.le_refl _) rfl rfl rfl rfl (fun p => rfl) rfl trivial))
        | exact hsame (own_one ‹(k == 2) = false› _ _ _) (CovS.of (cov_same (l := []) s (w0 :: ws) hws (Nat.le_refl _) rfl rfl rfl rfl (fun p => rfl) rfl trivial))
    · have hl2 : szEs l2 ≤ 999 := by rw [szEs, szEs, szE, szE] at hm; omega
      rcases l2 with _ | ⟨x2, l2⟩
      · have hgr : (rowTp 65793 (w0 :: ws)).length = (ws.length + 1) * 6 := rowTp_len _ _; have hgw : ws.length + 1 + (0 + 1) ≤ 100000 := by rw [List.length_cons] at hw; omega
        have hd0 : decide ((((encEs (.mk k1 n1 a1 o1 [] :: .mk k2 n2 a2 o2 [] :: m)).length : Nat) : Int) > 0) = true := by simp [encEs]; omega
        have hd1 : decide ((((encEs (.mk k1 n1 a1 o1 [] :: .mk k2 n2 a2 o2 [] :: m)).length : Nat) : Int) > 1) = true := by simp [encEs]; omega
        (repeat' ((conv => whnf); first | refine U.lw_t ?_ | refine U.lw_f ?_ | refine U.lit_t ?_ | refine U.lit_f ?_ | refine U.ob_t ?_ | refine U.SoundC.pair (copyC_d k1 n1 a1 o1 [] hl1) (show NoNms [imS (encEs [.mk k1 n1 a1 o1 []])] from ⟨cleanEs _, trivial⟩) rfl (cleanK _ _ _ _) (cleanEsC _) ?_ | refine U.SoundC.pair (copyC_d k2 n2 a2 o2 [] hl2) (show NoNms [imS (encEs [.mk k2 n2 a2 o2 []])] from ⟨cleanEs _, trivial⟩) rfl (cleanK _ _ _ _) (cleanEsC _) ?_ | refine U.growRow_p hgr rfl ?_ | rw [U.ble_f (ws.length + 1)] | refine U.ob_c (grow_ok (by decide +kernel) hgw) ?_ | refine U.ob_c (by first | (with_reducible assumption) | exact Nat.ble_eq_true_of_le (by omega) | exact Nat.ble_eq_true_of_le (by simp at *; omega)) ?_ | refine U.nv_c (by with_reducible assumption) ?_ | refine U.drawX_p (D := U.propX) 11 [] (by decide +kernel) (by decide +kernel) ?_ | refine U.drawX_p (D := U.propX) 9 [] (by decide +kernel) (by decide +kernel) ?_ | refine U.lw_t' (by with_reducible assumption) ?_ | refine U.lw_f' (by with_reducible assumption) ?_ | refine U.lw_c (fun hb => ?_) (fun hb => ?_)))
        all_goals (conv => whnf)
        all_goals first
          | exact hmore _ (own_idx ‹(k == 2) = true› _ _ _ _) (CovS.of (cov_more (l := []) s (w0 :: ws) (a, .mk k1 n1 a1 o1 []) 131333 131331 hw (Nat.le_refl _) (by decide) (by decide) (by decide) rfl rfl rfl rfl rfl (fun p => rfl) rfl trivial))
          | exact hsame (own_no ‹(k == 2) = false› ‹(k == 4) = false› _ _ _) (CovS.of (cov_same (l := []) s (w0 :: ws) hws (Nat.le_refl _) rfl rfl rfl rfl (fun p => rfl) rfl trivial))
          | exact hsame (own_no2 ‹(k == 2) = false› ‹(o == 16) = false› ‹(o == 17) = false› _ _) (CovS.of (cov_same (l := []) s (w0 :: ws) hws (Nat.le_refl _) rfl rfl rfl rfl (fun p => rfl) rfl trivial))
          | exact hmore _ (own_bin ‹(k == 2) = false› ‹(k == 4) = true› (.inl ‹(o == 16) = true›) _ _ _ _) (CovS.of (cov_more (l := []) s (w0 :: ws) (-1, .mk k2 n2 a2 o2 []) 131333 131331 hw (Nat.le_refl _) (by decide) (by decide) (by decide) rfl rfl rfl rfl rfl (fun p => rfl) rfl trivial))
          | exact hmore _ (own_bin ‹(k == 2) = false› ‹(k == 4) = true› (.inr ‹(o == 17) = true›) _ _ _ _) (CovS.of (cov_more (l := []) s (w0 :: ws) (-1, .mk k2 n2 a2 o2 []) 131333 131331 hw (Nat.le_refl _) (by decide) (by decide) (by decide) rfl rfl rfl rfl rfl (fun p => rfl) rfl trivial))
      · have hgr : (rowTp 65793 (w0 :: ws)).length = (ws.length + 1) * 6 := rowTp_len _ _; have hgw : ws.length + 1 + (0 + 1) ≤ 100000 := by rw [List.length_cons] at hw; omega
        have hd0 : decide ((((encEs (.mk k1 n1 a1 o1 [] :: .mk k2 n2 a2 o2 (x2 :: l2) :: m)).length : Nat) : Int) > 0) = true := by simp [encEs]; omega
        have hd1 : decide ((((encEs (.mk k1 n1 a1 o1 [] :: .mk k2 n2 a2 o2 (x2 :: l2) :: m)).length : Nat) : Int) > 1) = true := by simp [encEs]; omega
        (repeat' ((conv => whnf); first | refine U.lw_t ?_ | refine U.lw_f ?_ | refine U.lit_t ?_ | refine U.lit_f ?_ | refine U.ob_t ?_ | refine U.SoundC.pair (copyC_d k1 n1 a1 o1 [] hl1) (show NoNms [imS (encEs [.mk k1 n1 a1 o1 []])] from ⟨cleanEs _, trivial⟩) rfl (cleanK _ _ _ _) (cleanEsC _) ?_ | refine U.SoundC.pair (copyC_d k2 n2 a2 o2 (x2 :: l2) hl2) (show NoNms [imS (encEs [.mk k2 n2 a2 o2 (x2 :: l2)])] from ⟨cleanEs _, trivial⟩) rfl (cleanK _ _ _ _) (cleanEsC _) ?_ | refine U.growRow_p hgr rfl ?_ | rw [U.ble_f (ws.length + 1)] | refine U.ob_c (grow_ok (by decide +kernel) hgw) ?_ | refine U.ob_c (by first | (with_reducible assumption) | exact Nat.ble_eq_true_of_le (by omega) | exact Nat.ble_eq_true_of_le (by simp at *; omega)) ?_ | refine U.nv_c (by with_reducible assumption) ?_ | refine U.drawX_p (D := U.propX) 11 [] (by decide +kernel) (by decide +kernel) ?_ | refine U.drawX_p (D := U.propX) 9 [] (by decide +kernel) (by decide +kernel) ?_ | refine U.lw_t' (by with_reducible assumption) ?_ | refine U.lw_f' (by with_reducible assumption) ?_ | refine U.lw_c (fun hb => ?_) (fun hb => ?_)))
        all_goals (conv => whnf)
        all_goals first
          | exact hmore _ (own_idx ‹(k == 2) = true› _ _ _ _) (CovS.of (cov_more (l := []) s (w0 :: ws) (a, .mk k1 n1 a1 o1 []) 131333 131331 hw (Nat.le_refl _) (by decide) (by decide) (by decide) rfl rfl rfl rfl rfl (fun p => rfl) rfl trivial))
          | exact hsame (own_no ‹(k == 2) = false› ‹(k == 4) = false› _ _ _) (CovS.of (cov_same (l := []) s (w0 :: ws) hws (Nat.le_refl _) rfl rfl rfl rfl (fun p => rfl) rfl trivial))
          | exact hsame (own_no2 ‹(k == 2) = false› ‹(o == 16) = false› ‹(o == 17) = false› _ _) (CovS.of (cov_same (l := []) s (w0 :: ws) hws (Nat.le_refl _) rfl rfl rfl rfl (fun p => rfl) rfl trivial))
          | exact hmore _ (own_bin ‹(k == 2) = false› ‹(k == 4) = true› (.inl ‹(o == 16) = true›) _ _ _ _) (CovS.of (cov_more (l := []) s (w0 :: ws) (-1, .mk k2 n2 a2 o2 (x2 :: l2)) 131333 131331 hw (Nat.le_refl _) (by decide) (by decide) (by decide) rfl rfl rfl rfl rfl (fun p => rfl) rfl trivial))
          | exact hmore _ (own_bin ‹(k == 2) = false› ‹(k == 4) = true› (.inr ‹(o == 17) = true›) _ _ _ _) (CovS.of (cov_more (l := []) s (w0 :: ws) (-1, .mk k2 n2 a2 o2 (x2 :: l2)) 131333 131331 hw (Nat.le_refl _) (by decide) (by decide) (by decide) rfl rfl rfl rfl rfl (fun p => rfl) rfl trivial))
    · (repeat' ((conv => whnf); first | refine U.lw_t ?_ | refine U.lw_f ?_ | refine U.lit_t ?_ | refine U.lit_f ?_ | refine U.ob_t ?_ | refine U.SoundC.pair (copyC_d k1 n1 a1 o1 (x1 :: l1) hl1) (show NoNms [imS (encEs [.mk k1 n1 a1 o1 (x1 :: l1)])] from ⟨cleanEs _, trivial⟩) rfl (cleanK _ _ _ _) (cleanEsC _) ?_ | refine U.ob_c (by first | (with_reducible assumption) | exact Nat.ble_eq_true_of_le (by omega) | exact Nat.ble_eq_true_of_le (by simp at *; omega)) ?_ | refine U.nv_c (by with_reducible assumption) ?_ | refine U.drawX_p (D := U.propX) 11 [] (by decide +kernel) (by decide +kernel) ?_ | refine U.drawX_p (D := U.propX) 9 [] (by decide +kernel) (by decide +kernel) ?_ | refine U.lw_t' (by with_reducible assumption) ?_ | refine U.lw_f' (by with_reducible assumption) ?_ | refine U.lw_c (fun hb => ?_) (fun hb => ?_)))
      all_goals (conv => whnf)
      all_goals first
        | exact hmore _ (own_idx ‹(k == 2) = true› _ _ _ _) (CovS.of (cov_more (l := []) s [] (a, .mk k1 n1 a1 o1 (x1 :: l1)) 131333 131331 hw (Nat.le_refl _) (by decide) (by decide) (by decide) rfl rfl rfl rfl rfl (fun p => rfl) rfl trivial))
        | exact hsame (own_no ‹(k == 2) = false› ‹(k == 4) = false› _ _ _) (CovS.of (cov_same (l := []) s [] hws (Nat.le_refl _) rfl rfl rfl rfl (fun p => rfl) rfl trivial))
        | exact hsame (own_no2 ‹(k == 2) = false› ‹(o == 16) = false› ‹(o == 17) = false› _ _) (CovS.of (cov_same (l := []) s [] hws (Nat.le_refl _) rfl rfl rfl rfl (fun p => rfl) rfl trivial))
        | exact hsame (own_one ‹(k == 2) = false› _ _ _) (CovS.of (cov_same (l := []) s [] hws (Nat.le_refl _) rfl rfl rfl rfl (fun p => rfl) rfl trivial))
    · have hl2 : szEs l2 ≤ 999 := by rw [szEs, szEs, szE, szE] at hm; omega
      rcases l2 with _ | ⟨x2, l2⟩
      · have hd0 : decide ((((encEs (.mk k1 n1 a1 o1 (x1 :: l1) :: .mk k2 n2 a2 o2 [] :: m)).length : Nat) : Int) > 0) = true := by simp [encEs]; omega
        have hd1 : decide ((((encEs (.mk k1 n1 a1 o1 (x1 :: l1) :: .mk k2 n2 a2 o2 [] :: m)).length : Nat) : Int) > 1) = true := by simp [encEs]; omega
        (repeat' ((conv => whnf); first | refine U.lw_t ?_ | refine U.lw_f ?_ | refine U.lit_t ?_ | refine U.lit_f ?_ | refine U.ob_t ?_ | refine U.SoundC.pair (copyC_d k1 n1 a1 o1 (x1 :: l1) hl1) (show NoNms [imS (encEs [.mk k1 n1 a1 o1 (x1 :: l1)])] from ⟨cleanEs _, trivial⟩) rfl (cleanK _ _ _ _) (cleanEsC _) ?_ | refine U.SoundC.pair (copyC_d k2 n2 a2 o2 [] hl2) (show NoNms [imS (encEs [.mk k2 n2 a2 o2 []])] from ⟨cleanEs _, trivial⟩) rfl (cleanK _ _ _ _) (cleanEsC _) ?_ | refine U.ob_c (by first | (with_reducible assumption) | exact Nat.ble_eq_true_of_le (by omega) | exact Nat.ble_eq_true_of_le (by simp at *; omega)) ?_ | refine U.nv_c (by with_reducible assumption) ?_ | refine U.drawX_p (D := U.propX) 11 [] (by decide +kernel) (by decide +kernel) ?_ | refine U.drawX_p (D := U.propX) 9 [] (by decide +kernel) (by decide +kernel) ?_ | refine U.lw_t' (by with_reducible assumption) ?_ | refine U.lw_f' (by with_reducible assumption) ?_ | refine U.lw_c (fun hb => ?_) (fun hb => ?_)))
        all_goals (conv => whnf)
        all_goals first
          | exact hmore _ (own_idx ‹(k == 2) = true› _ _ _ _) (CovS.of (cov_more (l := []) s [] (a, .mk k1 n1 a1 o1 (x1 :: l1)) 131333 131331 hw (Nat.le_refl _) (by decide) (by decide) (by decide) rfl rfl rfl rfl rfl (fun p => rfl) rfl trivial))
          | exact hsame (own_no ‹(k == 2) = false› ‹(k == 4) = false› _ _ _) (CovS.of (cov_same (l := []) s [] hws (Nat.le_refl _) rfl rfl rfl rfl (fun p => rfl) rfl trivial))
          | exact hsame (own_no2 ‹(k == 2) = false› ‹(o == 16) = false› ‹(o == 17) = false› _ _) (CovS.of (cov_same (l := []) s [] hws (Nat.le_refl _) rfl rfl rfl rfl (fun p => rfl) rfl trivial))
          | exact hmore _ (own_bin ‹(k == 2) = false› ‹(k == 4) = true› (.inl ‹(o == 16) = true›) _ _ _ _) (CovS.of (cov_more (l := []) s [] (-1, .mk k2 n2 a2 o2 []) 131333 131331 hw (Nat.le_refl _) (by decide) (by decide) (by decide) rfl rfl rfl rfl rfl (fun p => rfl) rfl trivial))
          | exact hmore _ (own_bin ‹(k == 2) = false› ‹(k == 4) = true› (.inr ‹(o == 17) = true›) _ _ _ _) (CovS.of (cov_more (l := []) s [] (-1, .mk k2 n2 a2 o2 []) 131333 131331 hw (Nat.le_refl _) (by decide) (by decide) (by decide) rfl rfl rfl rfl rfl (fun p => rfl) rfl trivial))
      · have hd0 : decide ((((encEs (.mk k1 n1 a1 o1 (x1 :: l1) :: .mk k2 n2 a2 o2 (x2 :: l2) :: m)).length : Nat) : Int) > 0) = true := by simp [encEs]; omega
        have hd1 : decide ((((encEs (.mk k1 n1 a1 o1 (x1 :: l1) :: .mk k2 n2 a2 o2 (x2 :: l2) :: m)).length : Nat) : Int) > 1) = true := by simp [encEs]; omega
        (repeat' ((conv => whnf); first | refine U.lw_t ?_ | refine U.lw_f ?_ | refine U.lit_t ?_ | refine U.lit_f ?_ | refine U.ob_t ?_ | refine U.SoundC.pair (copyC_d k1 n1 a1 o1 (x1 :: l1) hl1) (show NoNms [imS (encEs [.mk k1 n1 a1 o1 (x1 :: l1)])] from ⟨cleanEs _, trivial⟩) rfl (cleanK _ _ _ _) (cleanEsC _) ?_ | refine U.SoundC.pair (copyC_d k2 n2 a2 o2 (x2 :: l2) hl2) (show NoNms [imS (encEs [.mk k2 n2 a2 o2 (x2 :: l2)])] from ⟨cleanEs _, trivial⟩) rfl (cleanK _ _ _ _) (cleanEsC _) ?_ | refine U.ob_c (by first | (with_reducible assumption) | exact Nat.ble_eq_true_of_le (by omega) | exact Nat.ble_eq_true_of_le (by simp at *; omega)) ?_ | refine U.nv_c (by with_reducible assumption) ?_ | refine U.drawX_p (D := U.propX) 11 [] (by decide +kernel) (by decide +kernel) ?_ | refine U.drawX_p (D := U.propX) 9 [] (by decide +kernel) (by decide +kernel) ?_ | refine U.lw_t' (by with_reducible assumption) ?_ | refine U.lw_f' (by with_reducible assumption) ?_ | refine U.lw_c (fun hb => ?_) (fun hb => ?_)))
        all_goals (conv => whnf)
        all_goals first
          | exact hmore _ (own_idx ‹(k == 2) = true› _ _ _ _) (CovS.of (cov_more (l := []) s [] (a, .mk k1 n1 a1 o1 (x1 :: l1)) 131333 131331 hw (Nat.le_refl _) (by decide) (by decide) (by decide) rfl rfl rfl rfl rfl (fun p => rfl) rfl trivial))
          | exact hsame (own_no ‹(k == 2) = false› ‹(k == 4) = false› _ _ _) (CovS.of (cov_same (l := []) s [] hws (Nat.le_refl _) rfl rfl rfl rfl (fun p => rfl) rfl trivial))
          | exact hsame (own_no2 ‹(k == 2) = false› ‹(o == 16) = false› ‹(o == 17) = false› _ _) (CovS.of (cov_same (l := []) s [] hws (Nat.le_refl _) rfl rfl rfl rfl (fun p => rfl) rfl trivial))
          | exact hmore _ (own_bin ‹(k == 2) = false› ‹(k == 4) = true› (.inl ‹(o == 16) = true›) _ _ _ _) (CovS.of (cov_more (l := []) s [] (-1, .mk k2 n2 a2 o2 (x2 :: l2)) 131333 131331 hw (Nat.le_refl _) (by decide) (by decide) (by decide) rfl rfl rfl rfl rfl (fun p => rfl) rfl trivial))
          | exact hmore _ (own_bin ‹(k == 2) = false› ‹(k == 4) = true› (.inr ‹(o == 17) = true›) _ _ _ _) (CovS.of (cov_more (l := []) s [] (-1, .mk k2 n2 a2 o2 (x2 :: l2)) 131333 131331 hw (Nat.le_refl _) (by decide) (by decide) (by decide) rfl rfl rfl rfl rfl (fun p => rfl) rfl trivial))
    · have hgr : (rowTp 65793 (w0 :: ws)).length = (ws.length + 1) * 6 := rowTp_len _ _; have hgw : ws.length + 1 + (0 + 1) ≤ 100000 := by rw [List.length_cons] at hw; omega
      (repeat' ((conv => whnf); first | refine U.lw_t ?_ | refine U.lw_f ?_ | refine U.lit_t ?_ | refine U.lit_f ?_ | refine U.ob_t ?_ | refine U.SoundC.pair (copyC_d k1 n1 a1 o1 (x1 :: l1) hl1) (show NoNms [imS (encEs [.mk k1 n1 a1 o1 (x1 :: l1)])] from ⟨cleanEs _, trivial⟩) rfl (cleanK _ _ _ _) (cleanEsC _) ?_ | refine U.growRow_p hgr rfl ?_ | rw [U.ble_f (ws.length + 1)] | refine U.ob_c (grow_ok (by decide +kernel) hgw) ?_ | refine U.ob_c (by first | (with_reducible assumption) | exact Nat.ble_eq_true_of_le (by omega) | exact Nat.ble_eq_true_of_le (by simp at *; omega)) ?_ | refine U.nv_c (by with_reducible assumption) ?_ | refine U.drawX_p (D := U.propX) 11 [] (by decide +kernel) (by decide +kernel) ?_ | refine U.drawX_p (D := U.propX) 9 [] (by decide +kernel) (by decide +kernel) ?_ | refine U.lw_t' (by with_reducible assumption) ?_ | refine U.lw_f' (by with_reducible assumption) ?_ | refine U.lw_c (fun hb => ?_) (fun hb => ?_)))
      all_goals (conv => whnf)
      all_goals first
        | exact hmore _ (own_idx ‹(k == 2) = true› _ _ _ _) (CovS.of (cov_more (l := []) s (w0 :: ws) (a, .mk k1 n1 a1 o1 (x1 :: l1)) 131333 131331 hw (Nat.le_refl _) (by decide) (by decide) (by decide) rfl rfl rfl rfl rfl (fun p => rfl) rfl trivial))
        | exact hsame (own_no ‹(k == 2) = false› ‹(k == 4) = false› _ _ _) (CovS.of (cov_same (l := []) s (w0 :: ws) hws (Nat.le_refl _) rfl rfl rfl rfl (fun p => rfl) rfl trivial))
        | exact hsame (own_no2 ‹(k == 2) = false› ‹(o == 16) = false› ‹(o == 17) = false› _ _) (CovS.of (cov_same (l := []) s (w0 :: ws) hws (Nat.le_refl _) rfl rfl rfl rfl (fun p => rfl) rfl trivial))
        | exact hsame (own_one ‹(k == 2) = false› _ _ _) (CovS.of (cov_same (l := []) s (w0 :: ws) hws (Nat.le_refl _) rfl rfl rfl rfl (fun p => rfl) rfl trivial))
    · have hl2 : szEs l2 ≤ 999 := by rw [szEs, szEs, szE, szE] at hm; omega
      rcases l2 with _ | ⟨x2, l2⟩
      · have hgr : (rowTp 65793 (w0 :: ws)).length = (ws.length + 1) * 6 := rowTp_len _ _; have hgw : ws.length + 1 + (0 + 1) ≤ 100000 := by rw [List.length_cons] at hw; omega
        have hd0 : decide ((((encEs (.mk k1 n1 a1 o1 (x1 :: l1) :: .mk k2 n2 a2 o2 [] :: m)).length : Nat) : Int) > 0) = true := by simp [encEs]; omega
        have hd1 : decide ((((encEs (.mk k1 n1 a1 o1 (x1 :: l1) :: .mk k2 n2 a2 o2 [] :: m)).length : Nat) : Int) > 1) = true := by simp [encEs]; omega
        (repeat' ((conv => whnf); first | refine U.lw_t ?_ | refine U.lw_f ?_ | refine U.lit_t ?_ | refine U.lit_f ?_ | refine U.ob_t ?_ | refine U.SoundC.pair (copyC_d k1 n1 a1 o1 (x1 :: l1) hl1) (show NoNms [imS (encEs [.mk k1 n1 a1 o1 (x1 :: l1)])] from ⟨cleanEs _, trivial⟩) rfl (cleanK _ _ _ _) (cleanEsC _) ?_ | refine U.SoundC.pair (copyC_d k2 n2 a2 o2 [] hl2) (show NoNms [imS (encEs [.mk k2 n2 a2 o2 []])] from ⟨cleanEs _, trivial⟩) rfl (cleanK _ _ _ _) (cleanEsC _) ?_ | refine U.growRow_p hgr rfl ?_ | rw [U.ble_f (ws.length + 1)] | refine U.ob_c (grow_ok (by decide +kernel) hgw) ?_ | refine U.ob_c (by first | (with_reducible assumption) | exact Nat.ble_eq_true_of_le (by omega) | exact Nat.ble_eq_true_of_le (by simp at *; omega)) ?_ | refine U.nv_c (by with_reducible assumption) ?_ | refine U.drawX_p (D := U.propX) 11 [] (by decide +kernel) (by decide +kernel) ?_ | refine U.drawX_p (D := U.propX) 9 [] (by decide +kernel) (by decide +kernel) ?_ | refine U.lw_t' (by with_reducible assumption) ?_ | refine U.lw_f' (by with_reducible assumption) ?_ | refine U.lw_c (fun hb => ?_) (fun hb => ?_)))
        all_goals (conv => whnf)
        all_goals first
          | exact hmore _ (own_idx ‹(k == 2) = true› _ _ _ _) (CovS.of (cov_more (l := []) s (w0 :: ws) (a, .mk k1 n1 a1 o1 (x1 :: l1)) 131333 131331 hw (Nat.le_refl _) (by decide) (by decide) (by decide) rfl rfl rfl rfl rfl (fun p => rfl) rfl trivial))
          | exact hsame (own_no ‹(k == 2) = false› ‹(k == 4) = false› _ _ _) (CovS.of (cov_same (l := []) s (w0 :: ws) hws (Nat.le_refl _) rfl rfl rfl rfl (fun p => rfl) rfl trivial))
          | exact hsame (own_no2 ‹(k == 2) = false› ‹(o == 16) = false› ‹(o == 17) = false› _ _) (CovS.of (cov_same (l := []) s (w0 :: ws) hws (Nat.le_refl _) rfl rfl rfl rfl (fun p => rfl) rfl trivial))
          | exact hmore _ (own_bin ‹(k == 2) = false› ‹(k == 4) = true› (.inl ‹(o == 16) = true›) _ _ _ _) (CovS.of (cov_more (l := []) s (w0 :: ws) (-1, .mk k2 n2 a2 o2 []) 131333 131331 hw (Nat.le_refl _) (by decide) (by decide) (by decide) rfl rfl rfl rfl rfl (fun p => rfl) rfl trivial))
          | exact hmore _ (own_bin ‹(k == 2) = false› ‹(k == 4) = true› (.inr ‹(o == 17) = true›) _ _ _ _) (CovS.of (cov_more (l := []) s (w0 :: ws) (-1, .mk k2 n2 a2 o2 []) 131333 131331 hw (Nat.le_refl _) (by decide) (by decide) (by decide) rfl rfl rfl rfl rfl (fun p => rfl) rfl trivial))
      · have hgr : (rowTp 65793 (w0 :: ws)).length = (ws.length + 1) * 6 := rowTp_len _ _; have hgw : ws.length + 1 + (0 + 1) ≤ 100000 := by rw [List.length_cons] at hw; omega
        have hd0 : decide ((((encEs (.mk k1 n1 a1 o1 (x1 :: l1) :: .mk k2 n2 a2 o2 (x2 :: l2) :: m)).length : Nat) : Int) > 0) = true := by simp [encEs]; omega
        have hd1 : decide ((((encEs (.mk k1 n1 a1 o1 (x1 :: l1) :: .mk k2 n2 a2 o2 (x2 :: l2) :: m)).length : Nat) : Int) > 1) = true := by simp [encEs]; omega
        (repeat' ((conv => whnf); first | refine U.lw_t ?_ | refine U.lw_f ?_ | refine U.lit_t ?_ | refine U.lit_f ?_ | refine U.ob_t ?_ | refine U.SoundC.pair (copyC_d k1 n1 a1 o1 (x1 :: l1) hl1) (show NoNms [imS (encEs [.mk k1 n1 a1 o1 (x1 :: l1)])] from ⟨cleanEs _, trivial⟩) rfl (cleanK _ _ _ _) (cleanEsC _) ?_ | refine U.SoundC.pair (copyC_d k2 n2 a2 o2 (x2 :: l2) hl2) (show NoNms [imS (encEs [.mk k2 n2 a2 o2 (x2 :: l2)])] from ⟨cleanEs _, trivial⟩) rfl (cleanK _ _ _ _) (cleanEsC _) ?_ | refine U.growRow_p hgr rfl ?_ | rw [U.ble_f (ws.length + 1)] | refine U.ob_c (grow_ok (by decide +kernel) hgw) ?_ | refine U.ob_c (by first | (with_reducible assumption) | exact Nat.ble_eq_true_of_le (by omega) | exact Nat.ble_eq_true_of_le (by simp at *; omega)) ?_ | refine U.nv_c (by with_reducible assumption) ?_ | refine U.drawX_p (D := U.propX) 11 [] (by decide +kernel) (by decide +kernel) ?_ | refine U.drawX_p (D := U.propX) 9 [] (by decide +kernel) (by decide +kernel) ?_ | refine U.lw_t' (by with_reducible assumption) ?_ | refine U.lw_f' (by with_reducible assumption) ?_ | refine U.lw_c (fun hb => ?_) (fun hb => ?_)))
        all_goals (conv => whnf)
        all_goals first
          | exact hmore _ (own_idx ‹(k == 2) = true› _ _ _ _) (CovS.of (cov_more (l := []) s (w0 :: ws) (a, .mk k1 n1 a1 o1 (x1 :: l1)) 131333 131331 hw (Nat.le_refl _) (by decide) (by decide) (by decide) rfl rfl rfl rfl rfl (fun p => rfl) rfl trivial))
          | exact hsame (own_no ‹(k == 2) = false› ‹(k == 4) = false› _ _ _) (CovS.of (cov_same (l := []) s (w0 :: ws) hws (Nat.le_refl _) rfl rfl rfl rfl (fun p => rfl) rfl trivial))
          | exact hsame (own_no2 ‹(k == 2) = false› ‹(o == 16) = false› ‹(o == 17) = false› _ _) (CovS.of (cov_same (l := []) s (w0 :: ws) hws (Nat.le_refl _) rfl rfl rfl rfl (fun p => rfl) rfl trivial))
          | exact hmore _ (own_bin ‹(k == 2) = false› ‹(k == 4) = true› (.inl ‹(o == 16) = true›) _ _ _ _) (CovS.of (cov_more (l := []) s (w0 :: ws) (-1, .mk k2 n2 a2 o2 (x2 :: l2)) 131333 131331 hw (Nat.le_refl _) (by decide) (by decide) (by decide) rfl rfl rfl rfl rfl (fun p => rfl) rfl trivial))
          | exact hmore _ (own_bin ‹(k == 2) = false› ‹(k == 4) = true› (.inr ‹(o == 17) = true›) _ _ _ _) (CovS.of (cov_more (l := []) s (w0 :: ws) (-1, .mk k2 n2 a2 o2 (x2 :: l2)) 131333 131331 hw (Nat.le_refl _) (by decide) (by decide) (by decide) rfl rfl rfl rfl rfl (fun p => rfl) rfl trivial))
end Go.Proofs.Ythbhnbnlbhpooaa
