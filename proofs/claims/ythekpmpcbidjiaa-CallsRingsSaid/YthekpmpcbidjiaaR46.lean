
import Derived.Test.YthekpmpcbidjiaaR42
import Derived.Test.YthekpmpcbidjiaaR43
import Derived.Test.YthekpmpcbidjiaaR45
/- Layer 11: calls.Inlined, whatever the graph; the statements' own same and few. -/
namespace Go.Proofs.Ythekpmpcbidjiaa
open Go Go.RowKit Go.Sort U
set_option linter.unusedVariables false
set_option linter.unusedSimpArgs false
set_option maxRecDepth 100000
set_option maxHeartbeats 4000000
def inlV (g : Gz) (own : List Int) : List Int := if (decide (own.length = g.st.length) && (ordG g).2) = true then foldO (inl1 own g.st) (ordG g).1 (List.replicate g.st.length 0) else []
theorem frz_nilU {P : Program} {s : AS} {l : List Int} (h : l = []) : FrzV P s (retC [.slice none 0 0]) (imS (uL l)) := by
  subst h
  exact .nil
theorem inlined_v (g : Gz) (own : List Int) (hg : okG g) (hst : g.st.length ≤ 29000) (hs : sumL g.st ≤ 500000) (hu : okU own) (hol : own.length ≤ maxI) : DenU Try.prog [] 12 [encG g, imS (uL own)] (imS (uL (inlV g own))) := by
  by_cases h1 : own.length = g.st.length
  · cases hok : (ordG g).2
    · have hv : inlV g own = [] := by simp [inlV, hok]
      rw [hv]
      refine denU_of_sound hmixU fun Ts => SoundAt.body hmixU Try.func12 rfl rfl rfl 0 ?_
      have c1 := order_g g hg hst hs
      have hne : (((uL own).length : Int) != ((gL g.st).length : Int)) = false := by rw [uL_len, gL_len, h1]; simp
      generalize hOG : ordG g = O at *
      obtain ⟨ord, ok⟩ := O
      dsimp only at hok
      subst hok
      obtain ⟨nm, st⟩ := g
      have cg := cleanG ⟨nm, st⟩
      dsimp only at hne
      (repeat' ((conv => whnf); first | refine U.lw_t ?_ | refine U.lw_f ?_ | refine U.lit_t ?_ | refine U.lit_f ?_ | refine U.ob_t ?_ | refine U.ob_c (by first | (with_reducible assumption) | exact Nat.ble_eq_true_of_le (by omega) | exact Nat.ble_eq_true_of_le (by simp at *; omega)) ?_ | refine U.nv_c (by with_reducible assumption) ?_ | refine U.lw_t' (by with_reducible assumption) ?_ | refine U.lw_f' (by with_reducible assumption) ?_ | refine U.lw_c (fun hb => ?_) (fun hb => ?_)))
      (conv => whnf)
      refine SoundAt.body hmixU Try.func42 rfl rfl rfl 0 ?_
      (repeat' ((conv => whnf); first | refine U.lw_t ?_ | refine U.lw_f ?_ | refine U.lit_t ?_ | refine U.lit_f ?_ | refine U.ob_t ?_ | refine U.ob_c (by first | (with_reducible assumption) | exact Nat.ble_eq_true_of_le (by omega) | exact Nat.ble_eq_true_of_le (by simp at *; omega)) ?_ | refine U.nv_c (by with_reducible assumption) ?_ | refine U.SoundAt.u (c1) (by (repeat (first | exact trivial | ((conv => whnf); first | exact trivial | refine And.intro (by first | assumption | exact cleanI _ | exact cleanEs _ | exact cleanSs _ | exact cleanTs _ | exact cleanE _ | exact cleanIL _ | exact cleanBL _ | exact cleanR _ | exact NoNm.flat _ rfl) ?_)))) ?_ | refine U.SoundC.u (c1) (by (repeat (first | exact trivial | ((conv => whnf); first | exact trivial | refine And.intro (by first | assumption | exact cleanI _ | exact cleanEs _ | exact cleanSs _ | exact cleanTs _ | exact cleanE _ | exact cleanIL _ | exact cleanBL _ | exact cleanR _ | exact NoNm.flat _ rfl) ?_)))) ?_ | refine U.lw_t' (by with_reducible assumption) ?_ | refine U.lw_f' (by with_reducible assumption) ?_ | refine U.lw_c (fun hb => ?_) (fun hb => ?_)))
      (conv => whnf)
      exact frz_nilU rfl
    · have hv : inlV g own = foldO (inl1 own g.st) (ordG g).1 (List.replicate g.st.length 0) := by simp [inlV, hok, h1]
      rw [hv]
      exact inlined_d g own hg hst hs h1 hu hok
  · have hv : inlV g own = [] := by simp [inlV, h1]
    rw [hv]
    refine denU_of_sound hmixU fun Ts => SoundAt.body hmixU Try.func12 rfl rfl rfl 0 ?_
    have hne : (((uL own).length : Int) != ((gL g.st).length : Int)) = true := by rw [uL_len, gL_len]; simp; omega
    obtain ⟨nm, st⟩ := g
    dsimp only at hne
    (repeat' ((conv => whnf); first | refine U.lw_t ?_ | refine U.lw_f ?_ | refine U.lit_t ?_ | refine U.lit_f ?_ | refine U.ob_t ?_ | refine U.ob_c (by first | (with_reducible assumption) | exact Nat.ble_eq_true_of_le (by omega) | exact Nat.ble_eq_true_of_le (by simp at *; omega)) ?_ | refine U.nv_c (by with_reducible assumption) ?_ | refine U.lw_t' (by with_reducible assumption) ?_ | refine U.lw_f' (by with_reducible assumption) ?_ | refine U.lw_c (fun hb => ?_) (fun hb => ?_)))
    (conv => whnf)
    exact frz_nilU rfl
def fewB (g : Gz) : Bool := (g.st.take 9).all (fun r => decide (r.length ≤ 12)) && decide (g.nm.length ≤ 7) && decide (g.st.length ≤ 8)
theorem few_d (g : Gz) (hg : g.st.length ≤ maxI ∧ ∀ r ∈ g.st, r.length ≤ maxI) : DenU Try.prog [] 7 [encG g] (.bool (fewB g)) := by
  refine denU_of_body hmixU rfl Try.func7 rfl rfl rfl 0 ?_
  intro Ts
  obtain ⟨nm, st⟩ := g
  obtain ⟨g2, g3⟩ := hg
  dsimp only at g2 g3
  (repeat' ((conv => whnf); first | refine U.lw_t ?_ | refine U.lw_f ?_ | refine U.lit_t ?_ | refine U.lit_f ?_ | refine U.ob_t ?_ | refine U.ob_c (by first | (with_reducible assumption) | exact Nat.ble_eq_true_of_le (by omega) | exact Nat.ble_eq_true_of_le (by simp at *; omega)) ?_ | refine U.nv_c (by with_reducible assumption) ?_ | refine U.lw_t' (by with_reducible assumption) ?_ | refine U.lw_f' (by with_reducible assumption) ?_ | refine U.lw_c (fun hb => ?_) (fun hb => ?_)))
  (conv => whnf)
  refine loop_inv (α := List (List Int) × List (List Int)) (fun x => x.1 ++ x.2 = st ∧ x.1.length ≤ 9 ∧ (x.1.all fun r => decide (r.length ≤ 12)) = true) (fun x => (mkF [(1, .pointer (some ⟨0, 0, none⟩)), (2, .bool false), (3, .int .i64 x.1.length)], ⟨mkO [(0, some (.cells 25 [imS (sL nm), imS (gL st)] false))], 1, 0, 0⟩)) (fun x => x.2.length) ([], st) ⟨rfl, Nat.zero_le _, rfl⟩ (Cov.renO (fun k => k) rfl rfl (Nat.le_of_ble_eq_true rfl) (Nat.zero_le _) (fun _ _ => rfl) rfl (fun k hk => absurd hk (Nat.not_lt_zero k)) (.cons rfl (.row _ _ _ _ (cleanG_cells ⟨nm, st⟩) rfl) .nil) (.cons rfl (.ptr _ _ _ (by decide) rfl) (.cons rfl (.clean _ _ (.flat _ rfl) rfl) (.cons rfl (.clean _ _ (cleanI _) rfl) .nil)))) ?_
  rintro ⟨pre, rest⟩ ⟨p1, p2, p3⟩
  dsimp only at p1 p2 p3
  subst p1
  dsimp only
  rcases rest with _ | ⟨x, rest⟩
  · rw [List.append_nil] at *
    have h3b := U.lt_no gL_map pre
    (repeat' ((conv => whnf); first | refine U.lw_t ?_ | refine U.lw_f ?_ | refine U.lit_t ?_ | refine U.lit_f ?_ | refine U.ob_t ?_ | refine U.ob_c (by first | (with_reducible assumption) | exact Nat.ble_eq_true_of_le (by omega) | exact Nat.ble_eq_true_of_le (by simp at *; omega)) ?_ | refine U.nv_c (by with_reducible assumption) ?_ | refine U.lw_t' (by with_reducible assumption) ?_ | refine U.lw_f' (by with_reducible assumption) ?_ | refine U.lw_c (fun hb => ?_) (fun hb => ?_)))
    all_goals (conv => whnf)
    · have hall : ((pre.take 9).all fun r => decide (r.length ≤ 12)) = true := List.all_eq_true.2 fun r hr => List.all_eq_true.1 p3 r (List.mem_of_mem_take hr)
      rw [sL_len] at hb
      have hb : nm.length ≤ 7 := by have := of_decide_eq_true hb; omega
      refine .same (.flat _ rfl) (congrArg Value.bool ?_)
      simp only [fewB, hall, gL_len, decide_eq_true hb, Bool.true_and]
      exact decide_eq_decide.2 (by omega)
    · rw [sL_len] at hb
      have hb : ¬ nm.length ≤ 7 := by have := of_decide_eq_false hb; omega
      exact .same (.flat _ rfl) (congrArg Value.bool (by simp [fewB, hb]))
  · have h3b := U.lt_yes gL_map pre (x) rest; have h3c := U.blt_yes gL_map pre (x) rest; have h3n := U.nth_at gL_map pre (x) rest; have h3w := U.len_snoc (pre := pre) (x := x) (post := rest) (g2)
    (repeat' ((conv => whnf); first | refine U.lw_t ?_ | refine U.lw_f ?_ | refine U.lit_t ?_ | refine U.lit_f ?_ | refine U.ob_t ?_ | refine U.ob_c (by first | (with_reducible assumption) | exact Nat.ble_eq_true_of_le (by omega) | exact Nat.ble_eq_true_of_le (by simp at *; omega)) ?_ | refine U.nv_c (by with_reducible assumption) ?_ | refine U.lw_t' (by with_reducible assumption) ?_ | refine U.lw_f' (by with_reducible assumption) ?_ | refine U.lw_c (fun hb => ?_) (fun hb => ?_)))
    all_goals (conv => whnf)
    · rename_i hb0
      have hb0 : pre.length < 9 := by have := of_decide_eq_true hb0; omega
      rw [iL_len] at hb
      have hb : ¬ x.length ≤ 12 := by have := of_decide_eq_true hb; omega
      have hall : (((pre ++ x :: rest).take 9).all fun r => decide (r.length ≤ 12)) = false := Bool.eq_false_iff.2 fun h => hb (by
        have := List.all_eq_true.1 h x (by rw [List.take_append, List.mem_append]; right; obtain ⟨d, hd⟩ : ∃ d, 9 - pre.length = d + 1 := ⟨9 - pre.length - 1, by omega⟩; rw [hd]; simp)
        exact of_decide_eq_true this)
      exact .same (.flat _ rfl) (congrArg Value.bool (by simp [fewB, hall]))
    · rename_i hb0
      have hb0 : pre.length < 9 := by have := of_decide_eq_true hb0; omega
      rw [iL_len] at hb
      have hb : x.length ≤ 12 := by have := of_decide_eq_false hb; omega
      exact ⟨(pre ++ [x], rest), ⟨by simp, by simp; omega, by rw [List.all_append, p3]; simp [hb]⟩, by simp, Cov.slots (s := ⟨mkO [(0, some (.cells 25 [imS (sL nm), imS (gL (pre ++ x :: rest))] false))], 1, 0, 0⟩) (Nat.le_refl 1) ⟨rfl, rfl, congrArg some (congrArg (Value.int .i64) h3w), trivial⟩⟩
    · rename_i hb0
      have hb0 : 9 ≤ pre.length := by have := of_decide_eq_false hb0; omega
      have hall : (((pre ++ x :: rest).take 9).all fun r => decide (r.length ≤ 12)) = true := by
        rw [List.take_append_of_le_length hb0]
        exact List.all_eq_true.2 fun r hr => List.all_eq_true.1 p3 r (List.mem_of_mem_take hr)
      rw [sL_len] at hb
      have hb : nm.length ≤ 7 := by have := of_decide_eq_true hb; omega
      refine .same (.flat _ rfl) (congrArg Value.bool ?_)
      simp only [fewB, hall, gL_len, decide_eq_true hb, Bool.true_and]
      exact decide_eq_decide.2 (by omega)
    · rw [sL_len] at hb
      have hb : ¬ nm.length ≤ 7 := by have := of_decide_eq_false hb; omega
      exact .same (.flat _ rfl) (congrArg Value.bool (by simp [fewB, hb]))
end Go.Proofs.Ythekpmpcbidjiaa
/- Layer 11: what is inlined, of ones, is as long as all that is gone through: in plain words. -/
namespace Go.Proofs.Ythekpmpcbidjiaa
open Go Go.RowKit Go.Sort U
set_option linter.unusedVariables false
set_option linter.unusedSimpArgs false
set_option maxRecDepth 100000
theorem foldO_out {rule : List Int → Nat → Int} {i : Nat} : ∀ (ord F : List Int), (∀ t ∈ ord, ∃ v : Nat, t = (v : Int) ∧ v ≠ i) → gt0 (foldO rule ord F) i = gt0 F i
  | [], F, _ => rfl
  | t :: ord, F, h => by
    rw [foldO_cons, foldO_out ord _ fun t ht => h t (by simp [ht])]
    obtain ⟨v, rfl, hv⟩ := h t (by simp)
    exact gt0_set_ne (Ne.symm hv)
/-- Each node of an order has what the rule tells of those that it calls. -/
theorem foldO_fix {own : List Int} {st : List (List Int)} {ord F0 : List Int} (hO : OrdOk st ord) (hl : F0.length = st.length) {v : Nat} (hv : (v : Int) ∈ ord) : gt0 (foldO (inl1 own st) ord F0) v = inl1 own st (foldO (inl1 own st) ord F0) v := by
  obtain ⟨a, b, e⟩ := List.append_of_mem hv
  obtain ⟨u, hu, e1⟩ := hO.inn _ hv
  have hvl : v < st.length := by omega
  have hnd := hO.nd
  rw [e] at hnd
  have hin : ∀ t ∈ a ++ (v : Int) :: b, ∃ w : Nat, w < st.length ∧ t = (w : Int) := by rw [← e]; exact hO.inn
  have hcl := hO.cl a b v e
  have hsp : foldO (inl1 own st) ord F0 = foldO (inl1 own st) b ((foldO (inl1 own st) a F0).set v (inl1 own st (foldO (inl1 own st) a F0) v)) := by
    rw [e]
    simp [foldO]
  obtain ⟨_, h2, h3⟩ := List.nodup_append.1 hnd
  obtain ⟨h4, h5⟩ := List.nodup_cons.1 h2
  have hout : ∀ i : Nat, (i : Int) ∉ b → gt0 (foldO (inl1 own st) ord F0) i = gt0 ((foldO (inl1 own st) a F0).set v (inl1 own st (foldO (inl1 own st) a F0) v)) i := fun i hi => by
    rw [hsp]
    refine foldO_out _ _ fun t ht => ?_
    obtain ⟨w, _, rfl⟩ := hin t (by simp [ht])
    exact ⟨w, rfl, fun e => hi (e ▸ ht)⟩
  have hFl : v < (foldO (inl1 own st) a F0).length := by rw [foldO_len, hl]; exact hvl
  rw [hout v h4, gt0_set_same hFl]
  show (st.getD v []).foldl (fun s t => satA s (gt0 (foldO (inl1 own st) a F0) t.toNat)) (gt0 own v) = (st.getD v []).foldl (fun s t => satA s (gt0 (foldO (inl1 own st) ord F0) t.toNat)) (gt0 own v)
  have hag : ∀ t ∈ st.getD v [], gt0 (foldO (inl1 own st) ord F0) t.toNat = gt0 (foldO (inl1 own st) a F0) t.toNat := fun t ht => by
    have hta := hcl t ht
    obtain ⟨w, _, rfl⟩ := hin t (by simp [hta])
    have hwb : ((w : Int).toNat : Int) ∉ b := fun h => h3 _ hta _ (by simp; right; simpa using h) rfl
    rw [hout _ hwb]
    refine gt0_set_ne fun e2 => ?_
    have : w = v := by simpa using e2
    subst this
    exact h3 _ hta _ (by simp) rfl
  generalize foldO (inl1 own st) ord F0 = G at *
  generalize foldO (inl1 own st) a F0 = A at *
  have key : ∀ (l : List Int) (s : Int), (∀ t ∈ l, gt0 G t.toNat = gt0 A t.toNat) → l.foldl (fun s t => satA s (gt0 A t.toNat)) s = l.foldl (fun s t => satA s (gt0 G t.toNat)) s := fun l => by
    induction l with
    | nil => intro s _; rfl
    | cons x l ih =>
      intro s h
      rw [List.foldl_cons, List.foldl_cons, h x (by simp)]
      exact ih _ fun t ht => h t (by simp [ht])
  exact key _ _ hag
theorem fold_ge {F : List Int} (hF : okU F) : ∀ (q : List Int) (s : Int), 0 ≤ s ∧ s ≤ maxU → s ≤ q.foldl (fun s t => satA s (gt0 F t.toNat)) s
  | [], s, _ => Int.le_refl _
  | t :: q, s, h => by
    rw [List.foldl_cons]
    have h1 := okU_at hF t.toNat
    have h2 := satA_in h h1
    refine Int.le_trans ?_ (fold_ge hF q _ h2)
    unfold satA
    split
    · exact h.2
    · omega
theorem min_step {s x m n : Int} (hs : 0 ≤ s ∧ s ≤ maxU) (hx : 0 ≤ x ∧ x ≤ maxU) (hm : m ≤ 2000) (hn : n = min s m) (hlt : n < m) : n + min x (m - n) = min (satA s x) m := by
  unfold satA maxU at *
  split <;> omega
/-- What is inlined of ones. -/
def onesF (g : Gz) : List Int := foldO (inl1 (List.replicate g.st.length 1) g.st) (ordG g).1 (List.replicate g.st.length 0)
theorem onesF_len (g : Gz) : (onesF g).length = g.st.length := by rw [onesF, foldO_len]; simp
theorem onesF_ok (g : Gz) : okU (onesF g) := foldO_ok (fun x hx => by rw [(List.mem_replicate.1 hx).2]; simp [maxU]) _ (okU_zero _)
theorem onesF_at {g : Gz} {v : Nat} (hv : (v : Int) ∈ (ordG g).1) : gt0 (onesF g) v = (g.st.getD v []).foldl (fun s t => satA s (gt0 (onesF g) t.toNat)) 1 := by
  have h1 := foldO_fix (own := List.replicate g.st.length 1) (ordG_ok g) (F0 := List.replicate g.st.length 0) (by simp) hv
  obtain ⟨u, hu, e⟩ := (ordG_ok g).inn _ hv
  have hg : gt0 (List.replicate g.st.length (1 : Int)) v = 1 := by
    have : v < g.st.length := by omega
    simp [gt0, List.getElem?_replicate, this]
  have h2 : inl1 (List.replicate g.st.length 1) g.st (onesF g) v = (g.st.getD v []).foldl (fun s t => satA s (gt0 (onesF g) t.toNat)) (gt0 (List.replicate g.st.length 1) v) := rfl
  rw [hg] at h2
  exact h1.trans h2
end Go.Proofs.Ythekpmpcbidjiaa
/- Layer 11: how many sites are gone through: the statement's own steps. -/
namespace Go.Proofs.Ythekpmpcbidjiaa
open Go Go.RowKit Go.Sort U
set_option linter.unusedVariables false
set_option linter.unusedSimpArgs false
set_option maxRecDepth 100000
set_option maxHeartbeats 4000000
theorem steps_d (g : Gz) (hst : g.st.length ≤ maxI) (hrow : ∀ r ∈ g.st, r.length ≤ maxI) : ∀ (d v : Nat) (m : Int), (v : Int) ∈ (ordG g).1 → (ordG g).1.idxOf (v : Int) < d → 1 ≤ m → m ≤ 2000 → DenU Try.prog [] 13 [encG g, .int .i64 v, .int .i64 m] (.int .i64 (min (gt0 (onesF g) v) m))
  | 0, v, m, _, h, _, _ => absurd h (Nat.not_lt_zero _)
  | d + 1, v, m, hv, hd, h1, h2 => by
    have ih := steps_d g hst hrow d
    refine denU_of_sound hmixU fun Ts => SoundAt.body hmixU Try.func13 rfl rfl rfl 0 ?_
    have hO := ordG_ok g
    have hF := onesF_ok g
    have hat := onesF_at hv
    obtain ⟨v', hvl, e⟩ := hO.inn _ hv
    have hvv : v' = v := by omega
    subst hvv
    clear e
    obtain ⟨row, hrw⟩ : ∃ row, g.st[v']? = some row := ⟨_, List.getElem?_eq_getElem hvl⟩
    have hrd : g.st.getD v' [] = row := by simp [hrw]
    rw [hrd] at hat
    have hrl := hrow row (List.mem_of_getElem? hrw)
    have hvb : v'.blt (gL g.st).length = true := by rw [gL_len]; exact Nat.ble_eq_true_of_le hvl
    have hvx : nth (gL g.st) v' = some (imS (iL row)) := by rw [nth_eq, gL]; simp [hrw]
    have hin : ∀ t ∈ row, ∃ w : Nat, t = (w : Int) ∧ (w : Int) ∈ (ordG g).1 ∧ (ordG g).1.idxOf (w : Int) < d := fun t ht => by
      obtain ⟨a, b, e⟩ := List.append_of_mem hv
      have hta := hO.cl a b v' e t (by rw [hrd]; exact ht)
      obtain ⟨w, _, rfl⟩ := hO.inn t (by rw [e]; simp [hta])
      obtain ⟨q1, q2⟩ := ord_ahead hO hv (w := w) (by unfold ES; rw [hrd]; exact ht)
      exact ⟨w, rfl, q1, by omega⟩
    generalize onesF g = F at *
    generalize (ordG g).1 = ord at *
    have cg := cleanG g
    obtain ⟨nm, st⟩ := g
    dsimp only at *
    (repeat' ((conv => whnf); first | refine U.lw_t ?_ | refine U.lw_f ?_ | refine U.lit_t ?_ | refine U.lit_f ?_ | refine U.ob_t ?_ | refine U.ob_c (by first | (with_reducible assumption) | exact Nat.ble_eq_true_of_le (by omega) | exact Nat.ble_eq_true_of_le (by simp at *; omega)) ?_ | refine U.nv_c (by with_reducible assumption) ?_ | refine U.lw_t' (by with_reducible assumption) ?_ | refine U.lw_f' (by with_reducible assumption) ?_ | refine U.lw_c (fun hb => ?_) (fun hb => ?_)))
    (conv => whnf)
    refine loop_inv (α := List Int × List Int × Int) (fun x => x.1 ++ x.2.1 = row ∧ x.2.2 = min (x.1.foldl (fun s t => satA s (gt0 F t.toNat)) 1) m) (fun x => (mkF [(1, .int .i64 v'), (2, .int .i64 m), (3, .pointer (some ⟨0, 0, none⟩)), (6, .int .i64 0), (7, .int .i64 x.2.2), (8, .int .i64 x.1.length)], ⟨mkO [(0, some (.cells 25 [imS (sL nm), imS (gL st)] false))], 1, 0, 0⟩)) (fun x => x.2.1.length) ([], row, 1) ⟨rfl, by simp; omega⟩ (Cov.renO (fun k => k) rfl rfl (Nat.le_of_ble_eq_true rfl) (Nat.zero_le _) (fun _ _ => rfl) rfl (fun k hk => absurd hk (Nat.not_lt_zero k)) (.cons rfl (.row _ _ _ _ (cleanG_cells ⟨nm, st⟩) rfl) .nil) (.cons rfl (.clean _ _ (cleanI _) rfl) (.cons rfl (.clean _ _ (cleanI _) rfl) (.cons rfl (.ptr _ _ _ (by decide) rfl) (.cons rfl (.clean _ _ (cleanI _) rfl) (.cons rfl (.clean _ _ (cleanI _) rfl) (.cons rfl (.clean _ _ (cleanI _) rfl) .nil))))))) ?_
    rintro ⟨p, q, n⟩ ⟨p1, p2⟩
    dsimp only at p1 p2
    dsimp only
    have hp0 : 0 ≤ (1 : Int) ∧ (1 : Int) ≤ maxU := by simp [maxU]
    have hpi := fold_in F hF p 1 hp0
    rcases q with _ | ⟨t, q⟩
    · rw [List.append_nil] at p1
      subst p1
      have h4b := U.lt_no iL_map p
      (repeat' ((conv => whnf); first | refine U.lw_t ?_ | refine U.lw_f ?_ | refine U.lit_t ?_ | refine U.lit_f ?_ | refine U.ob_t ?_ | refine U.ob_c (by first | (with_reducible assumption) | exact Nat.ble_eq_true_of_le (by omega) | exact Nat.ble_eq_true_of_le (by simp at *; omega)) ?_ | refine U.nv_c (by with_reducible assumption) ?_ | refine U.lw_t' (by with_reducible assumption) ?_ | refine U.lw_f' (by with_reducible assumption) ?_ | refine U.lw_c (fun hb => ?_) (fun hb => ?_)))
      (conv => whnf)
      exact .same (.flat _ rfl) (by rw [p2, hat]; rfl)
    · have hrl2 := hrl
      rw [← p1] at hrl2
      have h4b := U.lt_yes iL_map p (t) q; have h4c := U.blt_yes iL_map p (t) q; have h4n := U.nth_at iL_map p (t) q; have h4w := U.len_snoc (pre := p) (x := t) (post := q) (hrl2)
      rw [p1] at h4b h4c h4n
      by_cases hn : n < m
      · have g1 : decide (n < m) = true := by simpa using hn
        obtain ⟨w, rfl, hw1, hw2⟩ := hin t (by rw [← p1]; simp)
        have hnp : 1 ≤ n := by
          have := fold_ge hF p 1 hp0
          rw [p2]; omega
        have hwr : IntKind.i64.wrap (m - n) = m - n := by rw [IntKind.wrap_i64]; omega
        have c1 := ih w (m - n) hw1 hw2 (by omega) (by omega)
        rw [← hwr] at c1
        have hw0 := okU_at hF w
        have hms := min_step hpi hw0 h2 p2 hn
        have hwa : IntKind.i64.wrap (n + min (gt0 F w) (IntKind.i64.wrap (m - n))) = min ((p ++ [(w : Int)]).foldl (fun s t => satA s (gt0 F t.toNat)) 1) m := by
          rw [hwr, hms, List.foldl_append, List.foldl_cons, List.foldl_nil]
          rw [show ((w : Nat) : Int).toNat = w from rfl, IntKind.wrap_i64]
          have := satA_in hpi hw0
          omega
        (repeat' ((conv => whnf); first | refine U.lw_t ?_ | refine U.lw_f ?_ | refine U.lit_t ?_ | refine U.lit_f ?_ | refine U.ob_t ?_ | refine U.ob_c (by first | (with_reducible assumption) | exact Nat.ble_eq_true_of_le (by omega) | exact Nat.ble_eq_true_of_le (by simp at *; omega)) ?_ | refine U.nv_c (by with_reducible assumption) ?_ | refine U.SoundAt.u (c1) (by (repeat (first | exact trivial | ((conv => whnf); first | exact trivial | refine And.intro (by first | assumption | exact cleanI _ | exact cleanEs _ | exact cleanSs _ | exact cleanTs _ | exact cleanE _ | exact cleanIL _ | exact cleanBL _ | exact cleanR _ | exact NoNm.flat _ rfl) ?_)))) ?_ | refine U.SoundC.u (c1) (by (repeat (first | exact trivial | ((conv => whnf); first | exact trivial | refine And.intro (by first | assumption | exact cleanI _ | exact cleanEs _ | exact cleanSs _ | exact cleanTs _ | exact cleanE _ | exact cleanIL _ | exact cleanBL _ | exact cleanR _ | exact NoNm.flat _ rfl) ?_)))) ?_ | refine U.drawX_p (D := U.propX) 16 [] (by decide +kernel) (by decide +kernel) ?_ | refine U.lw_t' (by with_reducible assumption) ?_ | refine U.lw_f' (by with_reducible assumption) ?_ | refine U.lw_c (fun hb => ?_) (fun hb => ?_)))
        (conv => whnf)
        refine ⟨(p ++ [(w : Int)], q, IntKind.i64.wrap (n + min (gt0 F w) (IntKind.i64.wrap (m - n)))), ⟨by rw [← p1]; simp, hwa⟩, by simp, ?_⟩
        exact (Cov.renO (fun k => k) rfl rfl (Nat.le_of_ble_eq_true rfl) (Nat.zero_le _) (fun _ _ => rfl) rfl (fun k hk => absurd hk (Nat.not_lt_zero k)) (.cons rfl (.row _ _ _ _ (cleanG_cells ⟨nm, st⟩) rfl) .nil) (.cons rfl (.clean _ _ (cleanI _) rfl) (.cons rfl (.clean _ _ (cleanI _) rfl) (.cons rfl (.ptr _ _ _ (by decide) rfl) (.cons rfl (.clean _ _ (cleanI _) rfl) (.cons rfl (.clean _ _ (cleanI _) rfl) (.cons rfl (.clean _ _ (cleanI _) (congrArg (Value.int .i64) (h4w.symm))) .nil)))))))
      · have g1 : decide (n < m) = false := by simpa using hn
        (repeat' ((conv => whnf); first | refine U.lw_t ?_ | refine U.lw_f ?_ | refine U.lit_t ?_ | refine U.lit_f ?_ | refine U.ob_t ?_ | refine U.ob_c (by first | (with_reducible assumption) | exact Nat.ble_eq_true_of_le (by omega) | exact Nat.ble_eq_true_of_le (by simp at *; omega)) ?_ | refine U.nv_c (by with_reducible assumption) ?_ | refine U.lw_t' (by with_reducible assumption) ?_ | refine U.lw_f' (by with_reducible assumption) ?_ | refine U.lw_c (fun hb => ?_) (fun hb => ?_)))
        (conv => whnf)
        have hge := fold_ge hF (t :: q) _ hpi
        rw [← List.foldl_append, p1] at hge
        exact .same (.flat _ rfl) (show Value.int .i64 n = _ from congrArg _ (by omega))
end Go.Proofs.Ythekpmpcbidjiaa
