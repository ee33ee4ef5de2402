
import Derived.Test.YtphbcejnnoijfaaKG35
namespace Go.Proofs.Ytphbcejnnoijfaa
open Go Go.RowKit Go.Sort U
set_option linter.unusedVariables false
set_option linter.unusedSimpArgs false
set_option maxRecDepth 100000
set_option maxHeartbeats 4000000
def wr (n : Int) : Int := IntKind.i64.wrap n
mutual
def parE : AE → Int → Int → Int
  | .mk _ _ _ _ l _ _, m, d => if d ≤ 0 ∧ 0 < l.length then 1000000 else parL l m d 0
def parL : List AE → Int → Int → Int → Int
  | [], _, _, n => n
  | e :: l, m, d, n => if n ≤ m then parL l m d (wr (wr (n + 1) + parE e m (wr (d - 1)))) else n
end
def parF (l : List AE) (m d : Int) : Int := if d ≤ 0 ∧ 0 < l.length then 1000000 else parL l m d 0
theorem parts_d (l : List AE) (hl : l.length ≤ 900000) (m d : Int) (ih : ∀ k n nm o l' ln cl, AE.mk k n nm o l' ln cl ∈ l → ∀ d', DenU Try.prog [] 31 [imS (encAs l'), .int .i64 m, .int .i64 d'] (.int .i64 (parF l' m d'))) : DenU Try.prog [] 31 [imS (encAs l), .int .i64 m, .int .i64 d] (.int .i64 (parF l m d)) := by
  refine denU_of_sound hmixU fun Ts => SoundAt.body hmixU Try.func31 rfl rfl rfl 0 ?_
  have hel : (encAs l).length = l.length := by rw [encAs_map, List.length_map]
  unfold parF
  by_cases hd : d ≤ 0 ∧ 0 < l.length
  · have g1 : decide (d ≤ 0) = true := decide_eq_true hd.1
    have g2 : decide (((encAs l).length : Int) > 0) = true := decide_eq_true (by rw [hel]; omega)
    rw [if_pos hd]
    (repeat' ((conv => whnf); first | refine goD ?_ | refine U.lw_c (fun hb => ?_) (fun hb => ?_)))
    (conv => whnf)
    exact .clean _ (cleanI _)
  · rw [if_neg hd]
    by_cases h0 : d ≤ 0
    · have hl0 : l = [] := List.eq_nil_of_length_eq_zero (by omega)
      subst hl0
      have g1 : decide (d ≤ 0) = true := decide_eq_true h0
      have g2 : decide (((encAs []).length : Int) > 0) = false := rfl
      (repeat' ((conv => whnf); first | refine goD ?_ | refine U.lw_c (fun hb => ?_) (fun hb => ?_)))
      (conv => whnf)
      refine loop_inv (α := Unit) (fun _ => True) (fun _ => (mkF [(0, imS (encAs [])), (1, .int .i64 m), (7, .int .i64 0), (8, .int .i64 0)], ⟨.e, 0, 0, 0⟩)) (fun _ => 0) () trivial (Cov.renI rfl rfl rfl rfl .nil (.cons rfl (.clean _ _ (cleanAs _) rfl) (.cons rfl .I (.cons rfl (.F rfl rfl) (.cons rfl (.F rfl rfl) .nil))))) ?_
      rintro ⟨⟩ _
      dsimp only
      have g3 : decide ((0 : Int) < ((encAs []).length : Int)) = false := rfl
      (repeat' ((conv => whnf); first | refine goD ?_ | refine U.lw_c (fun hb => ?_) (fun hb => ?_)))
      (conv => whnf)
      exact .same (.flat _ rfl) rfl
    · have g1 : decide (d ≤ 0) = false := decide_eq_false h0
      (repeat' ((conv => whnf); first | refine goD ?_ | refine U.lw_c (fun hb => ?_) (fun hb => ?_)))
      (conv => whnf)
      refine loop_inv (α := List AE × List AE × Int) (fun x => x.1 ++ x.2.1 = l ∧ parL x.2.1 m d x.2.2 = parL l m d 0) (fun x => (mkF [(0, imS (encAs l)), (1, .int .i64 m), (2, .int .i64 d), (7, .int .i64 x.2.2), (8, .int .i64 x.1.length)], ⟨.e, 0, 0, 0⟩)) (fun x => x.2.1.length) ([], l, 0) ⟨rfl, rfl⟩ (Cov.renI rfl rfl rfl rfl .nil (.cons rfl (.clean _ _ (cleanAs _) rfl) (.cons rfl .I (.cons rfl .I (.cons rfl .I (.cons rfl .I .nil)))))) ?_
      rintro ⟨pre, rest, n⟩ ⟨p1, p2⟩
      dsimp only at p1 p2
      dsimp only
      rcases rest with _ | ⟨e, rest⟩
      · rw [List.append_nil] at p1
        subst p1
        have h4b := U.lt_no encAs_map pre
        (repeat' ((conv => whnf); first | refine goD ?_ | refine U.lw_c (fun hb => ?_) (fun hb => ?_)))
        (conv => whnf)
        exact .same (.flat _ rfl) (by rw [← p2, parL]; rfl)
      · have hl2 : (pre ++ e :: rest).length ≤ maxI := by rw [p1]; unfold maxI; omega
        obtain ⟨h4b, h4c, h4n, h4w⟩ := U.at4 encAs_map pre (e) rest (hl2)
        rw [p1] at h4b h4c h4n
        obtain ⟨k1, n1, nm1, o1, l1, ln1, cl1⟩ := e
        have c1 := ih k1 n1 nm1 o1 l1 ln1 cl1 (by rw [← p1]; simp) (wr (d - 1))
        have ca := cleanAs l1
        by_cases hn : n ≤ m
        · have g5 : decide (n ≤ m) = true := decide_eq_true hn
          rw [parL, if_pos hn] at p2
          (repeat' ((conv => whnf); first | refine goD ?_ | refine U.SoundAt.u (c1) (by (repeat (first | exact trivial | ((conv => whnf); first | exact trivial | refine And.intro (by first | assumption | exact cleanI _ | exact cleanIL _ | exact cleanBL _ | exact NoNm.flat _ rfl) ?_)))) ?_ | refine U.SoundC.u (c1) (by (repeat (first | exact trivial | ((conv => whnf); first | exact trivial | refine And.intro (by first | assumption | exact cleanI _ | exact cleanIL _ | exact cleanBL _ | exact NoNm.flat _ rfl) ?_)))) ?_ | refine U.lw_c (fun hb => ?_) (fun hb => ?_)))
          (conv => whnf)
          refine ⟨(pre ++ [.mk k1 n1 nm1 o1 l1 ln1 cl1], rest, wr (wr (n + 1) + parF l1 m (wr (d - 1)))), ⟨by rw [← p1]; simp, p2⟩, by simp, ?_⟩
          exact (Cov.renI rfl rfl rfl rfl .nil (.cons rfl (.clean _ _ (cleanAs _) rfl) (.cons rfl .I (.cons rfl .I (.cons rfl .I (.cons rfl (.clean _ _ (cleanI _) (congrArg (Value.int .i64) (h4w.symm))) .nil))))))
        · have g5 : decide (n ≤ m) = false := decide_eq_false hn
          (repeat' ((conv => whnf); first | refine goD ?_ | refine U.lw_c (fun hb => ?_) (fun hb => ?_)))
          (conv => whnf)
          exact .same (.flat _ rfl) (by rw [← p2, parL, if_neg hn]; rfl)
theorem parts_all : ∀ (n : Nat) (l : List AE), szAs l ≤ n → n ≤ 900000 → ∀ m d, DenU Try.prog [] 31 [imS (encAs l), .int .i64 m, .int .i64 d] (.int .i64 (parF l m d))
  | 0, l, h, hn, m, d => by
    have := szAs_len l
    have : l = [] := List.eq_nil_of_length_eq_zero (by omega)
    subst this
    exact parts_d [] (by simp) m d fun _ _ _ _ _ _ _ he => by cases he
  | n + 1, l, h, hn, m, d => parts_d l (Nat.le_trans (szAs_len l) (by omega)) m d fun k n' nm o l' ln cl he d' => by
    have := szAs_mem he
    rw [szA] at this
    exact parts_all n l' (by omega) (by omega) m d'
mutual
def manS : AS6 → Int → Int → Int → Int
  | .mk _ _ xs th el _ _, m, d, n => wr (wr (wr (wr (n + 1) + parF xs m (wr (d - 1))) + (if wr (d - 1) = 0 ∧ 0 < th.length then 1000000 else manL th m (wr (d - 1)) 0)) + (if wr (d - 1) = 0 ∧ 0 < el.length then 1000000 else manL el m (wr (d - 1)) 0))
def manL : List AS6 → Int → Int → Int → Int
  | [], _, _, n => n
  | e :: l, m, d, n => if n ≤ m then manL l m d (manS e m d n) else n
end
def manF (l : List AS6) (m d : Int) : Int := if d = 0 ∧ 0 < l.length then 1000000 else manL l m d 0
theorem many_d (l : List AS6) (hl : l.length ≤ 900000) (m d : Int) (ih : ∀ k nm xs th el ln cl, AS6.mk k nm xs th el ln cl ∈ l → ∀ d', DenU Try.prog [] 31 [imS (encAs xs), .int .i64 m, .int .i64 d'] (.int .i64 (parF xs m d')) ∧ DenU Try.prog [] 15 [imS (encTs th), .int .i64 m, .int .i64 d'] (.int .i64 (manF th m d')) ∧ DenU Try.prog [] 15 [imS (encTs el), .int .i64 m, .int .i64 d'] (.int .i64 (manF el m d'))) : DenU Try.prog [] 15 [imS (encTs l), .int .i64 m, .int .i64 d] (.int .i64 (manF l m d)) := by
  refine denU_of_sound hmixU fun Ts => SoundAt.body hmixU Try.func15 rfl rfl rfl 0 ?_
  have hel : (encTs l).length = l.length := by rw [encTs_map, List.length_map]
  by_cases hd : d = 0 ∧ 0 < l.length
  · have g1 : (d == 0) = true := beq_iff_eq.2 hd.1
    have g2 : decide (((encTs l).length : Int) > 0) = true := decide_eq_true (by rw [hel]; omega)
    rw [manF, if_pos hd]
    (repeat' ((conv => whnf); first | refine goD ?_ | refine U.lw_c (fun hb => ?_) (fun hb => ?_)))
    (conv => whnf)
    exact .clean _ (cleanI _)
  · rw [manF, if_neg hd]
    by_cases h0 : d = 0
    · have hl0 : l = [] := List.eq_nil_of_length_eq_zero (by omega)
      subst hl0
      have g1 : (d == 0) = true := beq_iff_eq.2 h0
      have g2 : decide (((encTs []).length : Int) > 0) = false := rfl
      (repeat' ((conv => whnf); first | refine goD ?_ | refine U.lw_c (fun hb => ?_) (fun hb => ?_)))
      (conv => whnf)
      refine loop_inv (α := Unit) (fun _ => True) (fun _ => (mkF [(0, imS (encTs [])), (1, .int .i64 m), (7, .int .i64 0), (8, .int .i64 0)], ⟨.e, 0, 0, 0⟩)) (fun _ => 0) () trivial (Cov.renI rfl rfl rfl rfl .nil (.cons rfl (.clean _ _ (cleanT6s _) rfl) (.cons rfl .I (.cons rfl (.F rfl rfl) (.cons rfl (.F rfl rfl) .nil))))) ?_
      rintro ⟨⟩ _
      dsimp only
      have g3 : decide ((0 : Int) < ((encTs []).length : Int)) = false := rfl
      (repeat' ((conv => whnf); first | refine goD ?_ | refine U.lw_c (fun hb => ?_) (fun hb => ?_)))
      (conv => whnf)
      exact .same (.flat _ rfl) rfl
    · have g1 : (d == 0) = false := beq_eq_false_iff_ne.2 h0
      (repeat' ((conv => whnf); first | refine goD ?_ | refine U.lw_c (fun hb => ?_) (fun hb => ?_)))
      (conv => whnf)
      refine loop_inv (α := List AS6 × List AS6 × Int) (fun x => x.1 ++ x.2.1 = l ∧ manL x.2.1 m d x.2.2 = manL l m d 0) (fun x => (mkF [(0, imS (encTs l)), (1, .int .i64 m), (2, .int .i64 d), (7, .int .i64 x.2.2), (8, .int .i64 x.1.length)], ⟨.e, 0, 0, 0⟩)) (fun x => x.2.1.length) ([], l, 0) ⟨rfl, rfl⟩ (Cov.renI rfl rfl rfl rfl .nil (.cons rfl (.clean _ _ (cleanT6s _) rfl) (.cons rfl .I (.cons rfl .I (.cons rfl .I (.cons rfl .I .nil)))))) ?_
      rintro ⟨pre, rest, n⟩ ⟨p1, p2⟩
      dsimp only at p1 p2
      dsimp only
      rcases rest with _ | ⟨e, rest⟩
      · rw [List.append_nil] at p1
        subst p1
        have h4b := U.lt_no encTs_map pre
        (repeat' ((conv => whnf); first | refine goD ?_ | refine U.lw_c (fun hb => ?_) (fun hb => ?_)))
        (conv => whnf)
        exact .same (.flat _ rfl) (by rw [← p2, manL]; rfl)
      · have hl2 : (pre ++ e :: rest).length ≤ maxI := by rw [p1]; unfold maxI; omega
        obtain ⟨h4b, h4c, h4n, h4w⟩ := U.at4 encTs_map pre (e) rest (hl2)
        rw [p1] at h4b h4c h4n
        obtain ⟨k1, nm1, xs1, th1, el1, ln1, cl1⟩ := e
        obtain ⟨c1, c2, c3⟩ := ih k1 nm1 xs1 th1 el1 ln1 cl1 (by rw [← p1]; simp) (wr (d - 1))
        have cx := cleanAs xs1
        have ct := cleanT6s th1
        have cl := cleanT6s el1
        by_cases hn : n ≤ m
        · have g5 : decide (n ≤ m) = true := decide_eq_true hn
          rw [manL, if_pos hn, manS] at p2
          (repeat' ((conv => whnf); first | refine goD ?_ | refine U.SoundAt.u (c1) (by (repeat (first | exact trivial | ((conv => whnf); first | exact trivial | refine And.intro (by first | assumption | exact cleanI _ | exact cleanIL _ | exact cleanBL _ | exact NoNm.flat _ rfl) ?_)))) ?_ | refine U.SoundAt.u (c2) (by (repeat (first | exact trivial | ((conv => whnf); first | exact trivial | refine And.intro (by first | assumption | exact cleanI _ | exact cleanIL _ | exact cleanBL _ | exact NoNm.flat _ rfl) ?_)))) ?_ | refine U.SoundAt.u (c3) (by (repeat (first | exact trivial | ((conv => whnf); first | exact trivial | refine And.intro (by first | assumption | exact cleanI _ | exact cleanIL _ | exact cleanBL _ | exact NoNm.flat _ rfl) ?_)))) ?_ | refine U.SoundC.u (c1) (by (repeat (first | exact trivial | ((conv => whnf); first | exact trivial | refine And.intro (by first | assumption | exact cleanI _ | exact cleanIL _ | exact cleanBL _ | exact NoNm.flat _ rfl) ?_)))) ?_ | refine U.SoundC.u (c2) (by (repeat (first | exact trivial | ((conv => whnf); first | exact trivial | refine And.intro (by first | assumption | exact cleanI _ | exact cleanIL _ | exact cleanBL _ | exact NoNm.flat _ rfl) ?_)))) ?_ | refine U.SoundC.u (c3) (by (repeat (first | exact trivial | ((conv => whnf); first | exact trivial | refine And.intro (by first | assumption | exact cleanI _ | exact cleanIL _ | exact cleanBL _ | exact NoNm.flat _ rfl) ?_)))) ?_ | refine U.drawX_p (D := U.propX) 33 [] (by decide +kernel) (by decide +kernel) ?_ | refine U.lw_c (fun hb => ?_) (fun hb => ?_)))
          (conv => whnf)
          refine ⟨(pre ++ [.mk k1 nm1 xs1 th1 el1 ln1 cl1], rest, wr (wr (wr (wr (n + 1) + parF xs1 m (wr (d - 1))) + manF th1 m (wr (d - 1))) + manF el1 m (wr (d - 1)))), ⟨by rw [← p1]; simp, p2⟩, by simp, ?_⟩
          exact (Cov.renI rfl rfl rfl rfl .nil (.cons rfl (.clean _ _ (cleanT6s _) rfl) (.cons rfl .I (.cons rfl .I (.cons rfl .I (.cons rfl (.clean _ _ (cleanI _) (congrArg (Value.int .i64) (h4w.symm))) .nil))))))
        · have g5 : decide (n ≤ m) = false := decide_eq_false hn
          (repeat' ((conv => whnf); first | refine goD ?_ | refine U.lw_c (fun hb => ?_) (fun hb => ?_)))
          (conv => whnf)
          exact .same (.flat _ rfl) (by rw [← p2, manL, if_neg hn]; rfl)
theorem many_all : ∀ (n : Nat) (l : List AS6), szTs l ≤ n → n ≤ 900000 → ∀ m d, DenU Try.prog [] 15 [imS (encTs l), .int .i64 m, .int .i64 d] (.int .i64 (manF l m d))
  | 0, l, h, hn, m, d => by
    have := szTs_len l
    have : l = [] := List.eq_nil_of_length_eq_zero (by omega)
    subst this
    exact many_d [] (by simp) m d fun _ _ _ _ _ _ _ he => by cases he
  | n + 1, l, h, hn, m, d => many_d l (Nat.le_trans (szTs_len l) (by omega)) m d fun k nm xs th el ln cl he d' => by
    have := szTs_mem he
    rw [szT] at this
    exact ⟨parts_all _ xs (Nat.le_refl _) (by omega) m d', many_all n th (by omega) (by omega) m d', many_all n el (by omega) (by omega) m d'⟩
theorem wr_in {x : Int} (h : 0 ≤ x ∧ x ≤ 4000000000000000000) : wr x = x := by
  unfold wr
  rw [IntKind.wrap_i64]
  omega
theorem wr_pred {d : Int} (h : -1000 ≤ d ∧ d ≤ 1000) : wr (d - 1) = d - 1 := by
  unfold wr
  rw [IntKind.wrap_i64]
  omega
mutual
theorem parE_few : ∀ (e : AE) (m d : Int), 0 ≤ m ∧ m ≤ 100000 → -10 ≤ d ∧ d ≤ 1000 → szA e ≤ 2000000 → 0 ≤ parE e m d ∧ parE e m d ≤ 1000000 * (szA e - 1 : Nat) ∧ (parE e m d ≤ m → (szA e - 1 : Nat) ≤ parE e m d)
  | .mk k n nm o l ln cl, m, d, hm, hd, hs => by
    rw [szA] at *
    rw [parE]
    split
    · rename_i h
      have := szAs_len l
      refine ⟨by omega, by omega, fun h => by omega⟩
    · rename_i h
      have h1 : l = [] ∨ 1 ≤ d := by
        rcases Nat.eq_zero_or_pos l.length with h2 | h2
        · exact .inl (List.eq_nil_of_length_eq_zero h2)
        · exact .inr (by omega)
      have := parL_few l m d 0 0 hm ⟨h1, hd.2⟩ (by omega) (by omega) (fun _ => by omega)
      simpa using this
theorem parL_few : ∀ (l : List AE) (m d n : Int) (s : Nat), 0 ≤ m ∧ m ≤ 100000 → (l = [] ∨ 1 ≤ d) ∧ d ≤ 1000 → s + szAs l ≤ 2000000 → 0 ≤ n ∧ n ≤ 1000000 * s → (n ≤ m → s ≤ n) → 0 ≤ parL l m d n ∧ parL l m d n ≤ 1000000 * (s + szAs l : Nat) ∧ (parL l m d n ≤ m → (s + szAs l : Nat) ≤ parL l m d n)
  | [], m, d, n, s, hm, hd, hs, hn, hc => by
    rw [parL, szAs]
    exact ⟨hn.1, by omega, fun h => by have := hc h; omega⟩
  | e :: l, m, d, n, s, hm, hd, hs, hn, hc => by
    rw [parL, szAs]
    rw [szAs] at hs
    have hp := szA_pos e
    have hd1 : 1 ≤ d := by
      rcases hd.1 with h | h
      · cases h
      · exact h
    split
    · rename_i h
      have h1 := parE_few e m (wr (d - 1)) hm (by rw [wr_pred (by omega)]; omega) (by omega)
      have e1 : wr (n + 1) = n + 1 := wr_in (by omega)
      have e2 : wr (n + 1 + parE e m (wr (d - 1))) = n + 1 + parE e m (wr (d - 1)) := wr_in (by omega)
      rw [e1, e2]
      have h2 := parL_few l m d (n + 1 + parE e m (wr (d - 1))) (s + szA e) hm ⟨.inr hd1, hd.2⟩ (by omega) (by omega) (fun h3 => by
        have := h1.2.2 (by omega)
        have := hc h
        omega)
      rw [show s + (szA e + szAs l) = s + szA e + szAs l by omega]
      exact h2
    · rename_i h
      exact ⟨hn.1, by omega, fun h3 => absurd h3 h⟩
end
end Go.Proofs.Ytphbcejnnoijfaa
