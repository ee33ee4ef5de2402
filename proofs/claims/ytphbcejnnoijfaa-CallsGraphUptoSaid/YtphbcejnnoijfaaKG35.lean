
import Derived.Test.YtphbcejnnoijfaaKG33
import Derived.Test.YtphbcejnnoijfaaKG34
namespace Go.Proofs.Ytphbcejnnoijfaa
open Go Go.RowKit Go.Sort U
set_option linter.unusedVariables false
set_option linter.unusedSimpArgs false
set_option maxRecDepth 100000
set_option maxHeartbeats 4000000
inductive AE where
  | mk (k n : Int) (nm : ByteArray) (o : Int) (l : List AE) (ln cl : Int)
mutual
def encA : AE → Value
  | .mk k n nm o l ln cl => .agg ⟨[.int .i64 k, .int .i64 n, .string nm, .int .i64 o, imS (encAs l), .int .i64 ln, .int .i64 cl]⟩
def encAs : List AE → List Value
  | [] => []
  | e :: l => encA e :: encAs l
end
theorem encAs_map : ∀ l, encAs l = l.map encA
  | [] => rfl
  | e :: l => by rw [encAs, encAs_map l]; rfl
theorem cleanA_cells : ∀ (e : AE), ∀ c ∈ cellsOf (encA e), NoNm c
  | .mk k n nm o l ln cl, c, hc => by
    simp only [encA, cellsOf, List.mem_cons, List.not_mem_nil, or_false] at hc
    rcases hc with rfl | rfl | rfl | rfl | rfl | rfl | rfl
    · exact .flat _ rfl
    · exact .flat _ rfl
    · exact .flat _ rfl
    · exact .flat _ rfl
    · refine .ims _ fun c hc => ?_
      rw [encAs_map] at hc
      obtain ⟨v, hv, hc⟩ := List.mem_flatMap.1 hc
      obtain ⟨e, he, rfl⟩ := List.mem_map.1 hv
      exact cleanA_cells e c hc
    · exact .flat _ rfl
    · exact .flat _ rfl
theorem cleanA (e : AE) : NoNm (encA e) := by
  have h := cleanA_cells e
  cases e with
  | mk k n nm o l ln cl =>
    rw [encA] at h ⊢
    exact .agg _ h
theorem cleanACells (l : List AE) : ∀ c, c ∈ cellsAll (encAs l) → NoNm c := fun c hc => by
  rw [encAs_map] at hc
  obtain ⟨v, hv, hc⟩ := List.mem_flatMap.1 hc
  obtain ⟨e, he, rfl⟩ := List.mem_map.1 hv
  exact cleanA_cells e c hc
theorem cleanAs (l : List AE) : NoNm (imS (encAs l)) := .ims _ (cleanACells l)
theorem cellsAs_len : ∀ l : List AE, (cellsAll (encAs l)).length = l.length * 7
  | [] => rfl
  | .mk k n nm o m ln cl :: l => by
    rw [encAs, cellsAll, List.flatMap_cons, List.length_append, ← cellsAll, cellsAs_len l, List.length_cons]
    show 7 + _ = _
    omega
theorem cellsAs_snoc (l : List AE) (e : AE) : cellsAll (encAs (l ++ [e])) = cellsAll (encAs l) ++ cellsOf (encA e) := by
  rw [encAs_map, encAs_map, List.map_append, cellsAll, List.flatMap_append]
  simp [cellsAll]
theorem cellsA_7 (l : List AE) : ∀ y, y ∈ encAs l → (cellsOf y).length = 7 := fun y hy => by
  rw [encAs_map] at hy
  obtain ⟨⟨k, n, nm, o, m, ln, cl⟩, _, rfl⟩ := List.mem_map.1 hy
  rfl
inductive AS6 where
  | mk (k : Int) (nm : ByteArray) (xs : List AE) (th el : List AS6) (ln cl : Int)
mutual
def encT : AS6 → Value
  | .mk k nm xs th el ln cl => .agg ⟨[.int .i64 k, .string nm, imS (encAs xs), imS (encTs th), imS (encTs el), .int .i64 ln, .int .i64 cl]⟩
def encTs : List AS6 → List Value
  | [] => []
  | e :: l => encT e :: encTs l
end
theorem encTs_map : ∀ l, encTs l = l.map encT
  | [] => rfl
  | e :: l => by rw [encTs, encTs_map l]; rfl
theorem cleanT_cells : ∀ (e : AS6), ∀ c ∈ cellsOf (encT e), NoNm c
  | .mk k nm xs th el ln cl, c, hc => by
    simp only [encT, cellsOf, List.mem_cons, List.not_mem_nil, or_false] at hc
    rcases hc with rfl | rfl | rfl | rfl | rfl | rfl | rfl
    · exact .flat _ rfl
    · exact .flat _ rfl
    · exact cleanAs xs
    · refine .ims _ fun c hc => ?_
      rw [encTs_map] at hc
      obtain ⟨v, hv, hc⟩ := List.mem_flatMap.1 hc
      obtain ⟨e, he, rfl⟩ := List.mem_map.1 hv
      exact cleanT_cells e c hc
    · refine .ims _ fun c hc => ?_
      rw [encTs_map] at hc
      obtain ⟨v, hv, hc⟩ := List.mem_flatMap.1 hc
      obtain ⟨e, he, rfl⟩ := List.mem_map.1 hv
      exact cleanT_cells e c hc
    · exact .flat _ rfl
    · exact .flat _ rfl
theorem cleanTCells (l : List AS6) : ∀ c, c ∈ cellsAll (encTs l) → NoNm c := fun c hc => by
  rw [encTs_map] at hc
  obtain ⟨v, hv, hc⟩ := List.mem_flatMap.1 hc
  obtain ⟨e, he, rfl⟩ := List.mem_map.1 hv
  exact cleanT_cells e c hc
theorem cleanT6 (e : AS6) : NoNm (encT e) := by
  have h := cleanT_cells e
  cases e with
  | mk k nm xs th el ln cl =>
    rw [encT] at h ⊢
    exact .agg _ h
theorem cleanT6s (l : List AS6) : NoNm (imS (encTs l)) := .ims _ (cleanTCells l)
theorem cellsTs_len : ∀ l : List AS6, (cellsAll (encTs l)).length = l.length * 7
  | [] => rfl
  | .mk k nm xs th el ln cl :: l => by
    rw [encTs, cellsAll, List.flatMap_cons, List.length_append, ← cellsAll, cellsTs_len l, List.length_cons]
    show 7 + _ = _
    omega
theorem cellsTs_snoc (l : List AS6) (e : AS6) : cellsAll (encTs (l ++ [e])) = cellsAll (encTs l) ++ cellsOf (encT e) := by
  rw [encTs_map, encTs_map, List.map_append, cellsAll, List.flatMap_append]
  simp [cellsAll]
theorem cellsT_7 (l : List AS6) : ∀ y, y ∈ encTs l → (cellsOf y).length = 7 := fun y hy => by
  rw [encTs_map] at hy
  obtain ⟨⟨k, nm, xs, th, el, ln, cl⟩, _, rfl⟩ := List.mem_map.1 hy
  rfl
theorem pos_d (a b : Int) : DenU Try.prog [] 22 [.agg ⟨[.int .i64 a, .int .i64 b]⟩] (.agg ⟨[.int .i64 a, .int .i64 b]⟩) := by
  refine denU_of_body hmixU rfl Try.func22 rfl rfl rfl 0 ?_
  intro Ts
  (repeat' ((conv => whnf); first | refine goD ?_ | refine U.lw_c (fun hb => ?_) (fun hb => ?_)))
  (conv => whnf)
  exact .clean _ (.flat _ rfl)
theorem aExpr_d (k n : Int) (nm : ByteArray) (o : Int) (l : List AE) (ln cl : Int) (h : DenU Try.prog [] 44 [imS (encAs l)] (imS (encAs l))) : DenU Try.prog [] 59 [encA (.mk k n nm o l ln cl)] (encA (.mk k n nm o l ln cl)) := by
  refine denU_of_sound hmixU fun Ts => SoundAt.body hmixU Try.func59 rfl rfl rfl 0 ?_
  have c1 := pos_d ln cl
  have ca := cleanAs l
  (repeat' ((conv => whnf); first | refine goD ?_ | refine U.SoundAt.u (c1) (by (repeat (first | exact trivial | ((conv => whnf); first | exact trivial | refine And.intro (by first | assumption | exact cleanI _ | exact cleanIL _ | exact cleanBL _ | exact NoNm.flat _ rfl) ?_)))) ?_ | refine U.SoundAt.u (h) (by (repeat (first | exact trivial | ((conv => whnf); first | exact trivial | refine And.intro (by first | assumption | exact cleanI _ | exact cleanIL _ | exact cleanBL _ | exact NoNm.flat _ rfl) ?_)))) ?_ | refine U.SoundC.u (c1) (by (repeat (first | exact trivial | ((conv => whnf); first | exact trivial | refine And.intro (by first | assumption | exact cleanI _ | exact cleanIL _ | exact cleanBL _ | exact NoNm.flat _ rfl) ?_)))) ?_ | refine U.SoundC.u (h) (by (repeat (first | exact trivial | ((conv => whnf); first | exact trivial | refine And.intro (by first | assumption | exact cleanI _ | exact cleanIL _ | exact cleanBL _ | exact NoNm.flat _ rfl) ?_)))) ?_ | refine U.drawX_p (D := U.propX) 15 [] (by decide +kernel) (by decide +kernel) ?_ | refine U.lw_c (fun hb => ?_) (fun hb => ?_)))
  (conv => whnf)
  exact .clean _ (cleanA (.mk k n nm o l ln cl))
theorem aExprs_d (l : List AE) (hl : l.length ≤ 900000) (ih : ∀ e ∈ l, DenU Try.prog [] 59 [encA e] (encA e)) : DenU Try.prog [] 44 [imS (encAs l)] (imS (encAs l)) := by
  refine denU_of_sound hmixU fun Ts => SoundAt.body hmixU Try.func44 rfl rfl rfl 0 ?_
  (repeat' ((conv => whnf); first | refine goD ?_ | refine U.lw_c (fun hb => ?_) (fun hb => ?_)))
  (conv => whnf)
  refine loop_inv (α := List AE × List AE) (fun x => x.1 ++ x.2 = l) (fun x => (mkF [(0, imS (encAs l)), (2, .slice none 0 0), (3, rowS 0 (encAs x.1)), (4, .int .i64 x.1.length)], ⟨mkO [(0, rowO 121 (encAs x.1))], 1, 0, 0⟩)) (fun x => x.2.length) ([], l) rfl (Cov.renI rfl rfl rfl rfl (.none .nil) (.cons rfl (.clean _ _ (cleanAs _) rfl) (.cons rfl (.F rfl rfl) (.cons rfl (.F rfl rfl) (.cons rfl .I .nil))))) ?_
  rintro ⟨pre, rest⟩ p1
  dsimp only at p1
  dsimp only
  rcases rest with _ | ⟨e, rest⟩
  · rw [List.append_nil] at p1
    subst p1
    have h4b := U.lt_no encAs_map pre
    (repeat' ((conv => whnf); first | refine goD ?_ | refine U.lw_c (fun hb => ?_) (fun hb => ?_)))
    (conv => whnf)
    exact .ofRow (Nat.zero_le _) rfl (cellsA_7 pre) (cleanACells pre)
  · have hl2 : (pre ++ e :: rest).length ≤ maxI := by rw [p1]; unfold maxI; omega
    obtain ⟨h4b, h4c, h4n, h4w⟩ := U.at4 encAs_map pre (e) rest (hl2)
    have hpl : pre.length + 1 ≤ 900000 := by
      have := congrArg List.length p1
      simp at this
      omega
    rw [p1] at h4b h4c h4n
    have c1 := ih e (by rw [← p1]; simp)
    have ce := cleanA e
    rcases pre with _ | ⟨e0, pre⟩
    · obtain ⟨k1, n1, nm1, o1, l1, ln1, cl1⟩ := e
      (repeat' ((conv => whnf); first | refine goA ?_ | refine U.catC_p ?_ | refine goB ?_ | refine U.SoundAt.u (c1) (by (repeat (first | exact trivial | ((conv => whnf); first | exact trivial | refine And.intro (by first | assumption | exact cleanI _ | exact cleanIL _ | exact cleanBL _ | exact NoNm.flat _ rfl) ?_)))) ?_ | refine U.SoundC.u (c1) (by (repeat (first | exact trivial | ((conv => whnf); first | exact trivial | refine And.intro (by first | assumption | exact cleanI _ | exact cleanIL _ | exact cleanBL _ | exact NoNm.flat _ rfl) ?_)))) ?_ | refine U.drawX_p (D := U.propX) 9 [] (by decide +kernel) (by decide +kernel) ?_ | refine U.lw_c (fun hb => ?_) (fun hb => ?_)))
      (conv => whnf)
      refine ⟨([] ++ [.mk k1 n1 nm1 o1 l1 ln1 cl1], rest), by rw [← p1]; simp, by simp, ?_⟩
      exact (Cov.renO (fun k => if k = 0 then 2 else k) rfl rfl (Nat.le_of_ble_eq_true rfl) (Nat.zero_le _) (fun k hk => by have : k < 0 := hk; rw [if_neg (by omega)]) rfl (fun k hk => absurd hk (Nat.not_lt_zero k)) (blksO.grown rfl rfl (cleanACells ([] ++ [AE.mk k1 n1 nm1 o1 l1 ln1 cl1])) .nil) (.cons rfl (.clean _ _ (cleanAs _) rfl) (.cons rfl (.F rfl rfl) (.cons rfl (.grown (by decide) rfl ((by simp [encAs])) (rfl) (rfl)) (.cons rfl (.clean _ _ (cleanI _) (congrArg (Value.int .i64) (h4w.symm))) .nil)))))
    · have hel : (encAs pre).length = pre.length := by rw [encAs_map, List.length_map]
      have hyl : (cellsAll (encAs (e0 :: pre))).length = ((encAs pre).length + 1) * (0 + 7) := by rw [cellsAs_len, hel]; simp
      have hb7 : (Nat.ble (((encAs pre).length + 1 + (0 + 1)) * 80) 140737488355328 && Nat.ble ((encAs pre).length + 1 + (0 + 1)) 1000000) = true := by
        rw [hel]
        simp only [List.length_cons] at hpl
        rw [bLe (by omega), bLe (by omega)]
        rfl
      obtain ⟨k1, n1, nm1, o1, l1, ln1, cl1⟩ := e
      have hgr := cellsAs_snoc (e0 :: pre) (.mk k1 n1 nm1 o1 l1 ln1 cl1)
      (repeat' ((conv => whnf); first | refine goA ?_ | refine U.ob_c hb7 ?_ | (rw [ble_f]; dsimp only; refine growRow_p hyl rfl ?_) | refine goB ?_ | refine U.SoundAt.u (c1) (by (repeat (first | exact trivial | ((conv => whnf); first | exact trivial | refine And.intro (by first | assumption | exact cleanI _ | exact cleanIL _ | exact cleanBL _ | exact NoNm.flat _ rfl) ?_)))) ?_ | refine U.SoundC.u (c1) (by (repeat (first | exact trivial | ((conv => whnf); first | exact trivial | refine And.intro (by first | assumption | exact cleanI _ | exact cleanIL _ | exact cleanBL _ | exact NoNm.flat _ rfl) ?_)))) ?_ | refine U.drawX_p (D := U.propX) 9 [] (by decide +kernel) (by decide +kernel) ?_ | refine U.lw_c (fun hb => ?_) (fun hb => ?_)))
      (conv => whnf)
      refine ⟨((e0 :: pre) ++ [.mk k1 n1 nm1 o1 l1 ln1 cl1], rest), by rw [← p1]; simp, by simp, ?_⟩
      exact (Cov.renO (fun k => if k = 0 then 2 else k) rfl rfl (Nat.le_of_ble_eq_true rfl) (Nat.zero_le _) (fun k hk => by have : k < 0 := hk; rw [if_neg (by omega)]) rfl (fun k hk => absurd hk (Nat.not_lt_zero k)) (blksO.grown rfl (hgr) (cleanACells ((e0 :: pre) ++ [AE.mk k1 n1 nm1 o1 l1 ln1 cl1])) .nil) (.cons rfl (.clean _ _ (cleanAs _) rfl) (.cons rfl (.F rfl rfl) (.cons rfl (.grown (by decide) rfl ((by simp [encAs])) ((by simp [encAs_map])) ((by simp [encAs_map]))) (.cons rfl (.clean _ _ (cleanI _) (congrArg (Value.int .i64) (h4w.symm))) .nil)))))
theorem aStmts_d (l : List AS6) (hl : l.length ≤ 900000) (ih : ∀ k nm xs th el ln cl, AS6.mk k nm xs th el ln cl ∈ l → DenU Try.prog [] 44 [imS (encAs xs)] (imS (encAs xs)) ∧ DenU Try.prog [] 21 [imS (encTs th)] (imS (encTs th)) ∧ DenU Try.prog [] 21 [imS (encTs el)] (imS (encTs el))) : DenU Try.prog [] 21 [imS (encTs l)] (imS (encTs l)) := by
  refine denU_of_sound hmixU fun Ts => SoundAt.body hmixU Try.func21 rfl rfl rfl 0 ?_
  (repeat' ((conv => whnf); first | refine goD ?_ | refine U.lw_c (fun hb => ?_) (fun hb => ?_)))
  (conv => whnf)
  refine loop_inv (α := List AS6 × List AS6) (fun x => x.1 ++ x.2 = l) (fun x => (mkF [(0, imS (encTs l)), (2, .slice none 0 0), (3, rowS 0 (encTs x.1)), (4, .int .i64 x.1.length)], ⟨mkO [(0, rowO 82 (encTs x.1))], 1, 0, 0⟩)) (fun x => x.2.length) ([], l) rfl (Cov.renI rfl rfl rfl rfl (.none .nil) (.cons rfl (.clean _ _ (cleanT6s _) rfl) (.cons rfl (.F rfl rfl) (.cons rfl (.F rfl rfl) (.cons rfl .I .nil))))) ?_
  rintro ⟨pre, rest⟩ p1
  dsimp only at p1
  dsimp only
  rcases rest with _ | ⟨e, rest⟩
  · rw [List.append_nil] at p1
    subst p1
    have h4b := U.lt_no encTs_map pre
    (repeat' ((conv => whnf); first | refine goD ?_ | refine U.lw_c (fun hb => ?_) (fun hb => ?_)))
    (conv => whnf)
    exact .ofRow (Nat.zero_le _) rfl (cellsT_7 pre) (cleanTCells pre)
  · have hl2 : (pre ++ e :: rest).length ≤ maxI := by rw [p1]; unfold maxI; omega
    obtain ⟨h4b, h4c, h4n, h4w⟩ := U.at4 encTs_map pre (e) rest (hl2)
    have hpl : pre.length + 1 ≤ 900000 := by
      have := congrArg List.length p1
      simp at this
      omega
    rw [p1] at h4b h4c h4n
    obtain ⟨k1, nm1, xs1, th1, el1, ln1, cl1⟩ := e
    obtain ⟨c1, c2, c3⟩ := ih k1 nm1 xs1 th1 el1 ln1 cl1 (by rw [← p1]; simp)
    have c4 := pos_d ln1 cl1
    have cx := cleanAs xs1
    have ct := cleanT6s th1
    have cl := cleanT6s el1
    rcases pre with _ | ⟨e0, pre⟩
    · (repeat' ((conv => whnf); first | refine goA ?_ | refine U.catC_p ?_ | refine goB ?_ | refine U.SoundAt.u (c1) (by (repeat (first | exact trivial | ((conv => whnf); first | exact trivial | refine And.intro (by first | assumption | exact cleanI _ | exact cleanIL _ | exact cleanBL _ | exact NoNm.flat _ rfl) ?_)))) ?_ | refine U.SoundAt.u (c2) (by (repeat (first | exact trivial | ((conv => whnf); first | exact trivial | refine And.intro (by first | assumption | exact cleanI _ | exact cleanIL _ | exact cleanBL _ | exact NoNm.flat _ rfl) ?_)))) ?_ | refine U.SoundAt.u (c3) (by (repeat (first | exact trivial | ((conv => whnf); first | exact trivial | refine And.intro (by first | assumption | exact cleanI _ | exact cleanIL _ | exact cleanBL _ | exact NoNm.flat _ rfl) ?_)))) ?_ | refine U.SoundAt.u (c4) (by (repeat (first | exact trivial | ((conv => whnf); first | exact trivial | refine And.intro (by first | assumption | exact cleanI _ | exact cleanIL _ | exact cleanBL _ | exact NoNm.flat _ rfl) ?_)))) ?_ | refine U.SoundC.u (c1) (by (repeat (first | exact trivial | ((conv => whnf); first | exact trivial | refine And.intro (by first | assumption | exact cleanI _ | exact cleanIL _ | exact cleanBL _ | exact NoNm.flat _ rfl) ?_)))) ?_ | refine U.SoundC.u (c2) (by (repeat (first | exact trivial | ((conv => whnf); first | exact trivial | refine And.intro (by first | assumption | exact cleanI _ | exact cleanIL _ | exact cleanBL _ | exact NoNm.flat _ rfl) ?_)))) ?_ | refine U.SoundC.u (c3) (by (repeat (first | exact trivial | ((conv => whnf); first | exact trivial | refine And.intro (by first | assumption | exact cleanI _ | exact cleanIL _ | exact cleanBL _ | exact NoNm.flat _ rfl) ?_)))) ?_ | refine U.SoundC.u (c4) (by (repeat (first | exact trivial | ((conv => whnf); first | exact trivial | refine And.intro (by first | assumption | exact cleanI _ | exact cleanIL _ | exact cleanBL _ | exact NoNm.flat _ rfl) ?_)))) ?_ | refine U.drawX_p (D := U.propX) 19 [] (by decide +kernel) (by decide +kernel) ?_ | refine U.lw_c (fun hb => ?_) (fun hb => ?_)))
      (conv => whnf)
      refine ⟨([] ++ [.mk k1 nm1 xs1 th1 el1 ln1 cl1], rest), by rw [← p1]; simp, by simp, ?_⟩
      exact (Cov.renO (fun k => if k = 0 then 3 else k) rfl rfl (Nat.le_of_ble_eq_true rfl) (Nat.zero_le _) (fun k hk => by have : k < 0 := hk; rw [if_neg (by omega)]) rfl (fun k hk => absurd hk (Nat.not_lt_zero k)) (blksO.grown rfl rfl (cleanTCells ([] ++ [AS6.mk k1 nm1 xs1 th1 el1 ln1 cl1])) .nil) (.cons rfl (.clean _ _ (cleanT6s _) rfl) (.cons rfl (.F rfl rfl) (.cons rfl (.grown (by decide) rfl ((by simp [encTs])) (rfl) (rfl)) (.cons rfl (.clean _ _ (cleanI _) (congrArg (Value.int .i64) (h4w.symm))) .nil)))))
    · have hel : (encTs pre).length = pre.length := by rw [encTs_map, List.length_map]
      have hyl : (cellsAll (encTs (e0 :: pre))).length = ((encTs pre).length + 1) * (0 + 7) := by rw [cellsTs_len, hel]; simp
      have hb7 : (Nat.ble (((encTs pre).length + 1 + (0 + 1)) * 112) 140737488355328 && Nat.ble ((encTs pre).length + 1 + (0 + 1)) 1000000) = true := by
        rw [hel]
        simp only [List.length_cons] at hpl
        rw [bLe (by omega), bLe (by omega)]
        rfl
      have hgr := cellsTs_snoc (e0 :: pre) (.mk k1 nm1 xs1 th1 el1 ln1 cl1)
      (repeat' ((conv => whnf); first | refine goA ?_ | refine U.ob_c hb7 ?_ | (rw [ble_f]; dsimp only; refine growRow_p hyl rfl ?_) | refine goB ?_ | refine U.SoundAt.u (c1) (by (repeat (first | exact trivial | ((conv => whnf); first | exact trivial | refine And.intro (by first | assumption | exact cleanI _ | exact cleanIL _ | exact cleanBL _ | exact NoNm.flat _ rfl) ?_)))) ?_ | refine U.SoundAt.u (c2) (by (repeat (first | exact trivial | ((conv => whnf); first | exact trivial | refine And.intro (by first | assumption | exact cleanI _ | exact cleanIL _ | exact cleanBL _ | exact NoNm.flat _ rfl) ?_)))) ?_ | refine U.SoundAt.u (c3) (by (repeat (first | exact trivial | ((conv => whnf); first | exact trivial | refine And.intro (by first | assumption | exact cleanI _ | exact cleanIL _ | exact cleanBL _ | exact NoNm.flat _ rfl) ?_)))) ?_ | refine U.SoundAt.u (c4) (by (repeat (first | exact trivial | ((conv => whnf); first | exact trivial | refine And.intro (by first | assumption | exact cleanI _ | exact cleanIL _ | exact cleanBL _ | exact NoNm.flat _ rfl) ?_)))) ?_ | refine U.SoundC.u (c1) (by (repeat (first | exact trivial | ((conv => whnf); first | exact trivial | refine And.intro (by first | assumption | exact cleanI _ | exact cleanIL _ | exact cleanBL _ | exact NoNm.flat _ rfl) ?_)))) ?_ | refine U.SoundC.u (c2) (by (repeat (first | exact trivial | ((conv => whnf); first | exact trivial | refine And.intro (by first | assumption | exact cleanI _ | exact cleanIL _ | exact cleanBL _ | exact NoNm.flat _ rfl) ?_)))) ?_ | refine U.SoundC.u (c3) (by (repeat (first | exact trivial | ((conv => whnf); first | exact trivial | refine And.intro (by first | assumption | exact cleanI _ | exact cleanIL _ | exact cleanBL _ | exact NoNm.flat _ rfl) ?_)))) ?_ | refine U.SoundC.u (c4) (by (repeat (first | exact trivial | ((conv => whnf); first | exact trivial | refine And.intro (by first | assumption | exact cleanI _ | exact cleanIL _ | exact cleanBL _ | exact NoNm.flat _ rfl) ?_)))) ?_ | refine U.drawX_p (D := U.propX) 19 [] (by decide +kernel) (by decide +kernel) ?_ | refine U.lw_c (fun hb => ?_) (fun hb => ?_)))
      (conv => whnf)
      refine ⟨((e0 :: pre) ++ [.mk k1 nm1 xs1 th1 el1 ln1 cl1], rest), by rw [← p1]; simp, by simp, ?_⟩
      exact (Cov.renO (fun k => if k = 0 then 3 else k) rfl rfl (Nat.le_of_ble_eq_true rfl) (Nat.zero_le _) (fun k hk => by have : k < 0 := hk; rw [if_neg (by omega)]) rfl (fun k hk => absurd hk (Nat.not_lt_zero k)) (blksO.grown rfl (hgr) (cleanTCells ((e0 :: pre) ++ [AS6.mk k1 nm1 xs1 th1 el1 ln1 cl1])) .nil) (.cons rfl (.clean _ _ (cleanT6s _) rfl) (.cons rfl (.F rfl rfl) (.cons rfl (.grown (by decide) rfl ((by simp [encTs])) ((by simp [encTs_map])) ((by simp [encTs_map]))) (.cons rfl (.clean _ _ (cleanI _) (congrArg (Value.int .i64) (h4w.symm))) .nil)))))
mutual
def szA : AE → Nat
  | .mk _ _ _ _ l _ _ => szAs l + 1
def szAs : List AE → Nat
  | [] => 0
  | e :: l => szA e + szAs l
end
mutual
def szT : AS6 → Nat
  | .mk _ _ xs th el _ _ => szAs xs + szTs th + szTs el + 1
def szTs : List AS6 → Nat
  | [] => 0
  | e :: l => szT e + szTs l
end
theorem szA_pos : ∀ e : AE, 0 < szA e
  | .mk _ _ _ _ l _ _ => by rw [szA]; omega
theorem szT_pos : ∀ e : AS6, 0 < szT e
  | .mk _ _ xs th el _ _ => by rw [szT]; omega
theorem szAs_len : ∀ l : List AE, l.length ≤ szAs l
  | [] => Nat.zero_le _
  | e :: l => by
    have := szAs_len l
    have := szA_pos e
    rw [szAs, List.length_cons]; omega
theorem szTs_len : ∀ l : List AS6, l.length ≤ szTs l
  | [] => Nat.zero_le _
  | e :: l => by
    have := szTs_len l
    have := szT_pos e
    rw [szTs, List.length_cons]; omega
theorem szAs_mem : ∀ {l : List AE} {e : AE}, e ∈ l → szA e ≤ szAs l
  | x :: l, e, h => by
    rw [szAs]
    rcases List.mem_cons.1 h with rfl | h
    · omega
    · have := szAs_mem h; omega
theorem szTs_mem : ∀ {l : List AS6} {e : AS6}, e ∈ l → szT e ≤ szTs l
  | x :: l, e, h => by
    rw [szTs]
    rcases List.mem_cons.1 h with rfl | h
    · omega
    · have := szTs_mem h; omega
theorem aExprs_all : ∀ (n : Nat) (l : List AE), szAs l ≤ n → n ≤ 900000 → DenU Try.prog [] 44 [imS (encAs l)] (imS (encAs l))
  | 0, l, h, hn => by
    have := szAs_len l
    have : l = [] := List.eq_nil_of_length_eq_zero (by omega)
    subst this
    exact aExprs_d [] (by simp) fun e he => by cases he
  | n + 1, l, h, hn => aExprs_d l (Nat.le_trans (szAs_len l) (by omega)) fun e he => by
    obtain ⟨k, m, nm, o, l', ln, cl⟩ := e
    have := szAs_mem he
    rw [szA] at this
    exact aExpr_d k m nm o l' ln cl (aExprs_all n l' (by omega) (by omega))
theorem aStmts_all : ∀ (n : Nat) (l : List AS6), szTs l ≤ n → n ≤ 900000 → DenU Try.prog [] 21 [imS (encTs l)] (imS (encTs l))
  | 0, l, h, hn => by
    have := szTs_len l
    have : l = [] := List.eq_nil_of_length_eq_zero (by omega)
    subst this
    exact aStmts_d [] (by simp) fun _ _ _ _ _ _ _ he => by cases he
  | n + 1, l, h, hn => aStmts_d l (Nat.le_trans (szTs_len l) (by omega)) fun k nm xs th el ln cl he => by
    have := szTs_mem he
    rw [szT] at this
    exact ⟨aExprs_all _ xs (Nat.le_refl _) (by omega), aStmts_all n th (by omega) (by omega), aStmts_all n el (by omega) (by omega)⟩
end Go.Proofs.Ytphbcejnnoijfaa
