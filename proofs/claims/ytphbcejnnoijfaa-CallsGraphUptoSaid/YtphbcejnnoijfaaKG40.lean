
import Derived.Test.YtphbcejnnoijfaaKG39
namespace Go.Proofs.Ytphbcejnnoijfaa
open Go Go.RowKit Go.Sort U
set_option linter.unusedVariables false
set_option linter.unusedSimpArgs false
set_option maxRecDepth 100000
set_option maxHeartbeats 16000000
mutual
def callsT : AS6 → List AS6
  | .mk k nm xs th el ln cl => (if k = 5 then [.mk k nm xs th el ln cl] else []) ++ (callsTs th ++ callsTs el)
def callsTs : List AS6 → List AS6
  | [] => []
  | e :: l => callsT e ++ callsTs l
end
theorem callsTs_app : ∀ l m, callsTs (l ++ m) = callsTs l ++ callsTs m
  | [], m => rfl
  | e :: l, m => by rw [List.cons_append, callsTs, callsTs, callsTs_app l m, List.append_assoc]
theorem callsTs_snoc (l : List AS6) (s : AS6) : callsTs (l ++ [s]) = callsTs l ++ callsT s := by
  rw [callsTs_app]; simp [callsTs]
mutual
theorem callsT_len : ∀ s : AS6, (callsT s).length ≤ szT s
  | .mk k nm xs th el ln cl => by
    rw [callsT, szT, List.length_append, List.length_append]
    have := callsTs_len th
    have := callsTs_len el
    split <;> simp <;> omega
theorem callsTs_len : ∀ l : List AS6, (callsTs l).length ≤ szTs l
  | [] => Nat.zero_le _
  | e :: l => by
    rw [callsTs, szTs, List.length_append]
    have := callsT_len e
    have := callsTs_len l
    omega
end
theorem encTs_app (l m : List AS6) : encTs (l ++ m) = encTs l ++ encTs m := by rw [encTs_map, encTs_map, encTs_map, List.map_append]
theorem szTs_app : ∀ l m, szTs (l ++ m) = szTs l + szTs m
  | [], m => by rw [List.nil_append, szTs, Nat.zero_add]
  | e :: l, m => by rw [List.cons_append, szTs, szTs, szTs_app l m]; omega
structure SV (V : List Value) : Prop where
  one : (Nat.beq (cellsAll V).length (V.length * 7) && (cellsAll V).all Value.oneCell') = true
  len : (cellsAll V).length = V.length * 7
  cln : ∀ c, c ∈ cellsAll V → NoNm c
theorem one_T (s : AS6) : (cellsOf (encT s)).all Value.oneCell' = true := by cases s; rfl
theorem sv_of (l : List AS6) : SV (encTs l) := by
  have h := cellsTs_len l
  have hl : (encTs l).length = l.length := by rw [encTs_map, List.length_map]
  refine ⟨?_, by rw [h, hl], cleanTCells l⟩
  rw [h, hl, Bool.and_eq_true]
  refine ⟨by simp, List.all_eq_true.2 fun c hc => ?_⟩
  rw [encTs_map] at hc
  obtain ⟨v, hv, hc⟩ := List.mem_flatMap.1 hc
  obtain ⟨e, _, rfl⟩ := List.mem_map.1 hv
  exact List.all_eq_true.1 (one_T e) c hc
theorem calls_all : ∀ (N : Nat) (l : List AS6), szTs l ≤ N → szTs l ≤ 1000 → DenU Try.prog [] 23 [imS (encTs l)] (imS (encTs (callsTs l))) := by
  intro N
  induction N with
  | zero =>
    intro l h0 h1
    obtain rfl : l = [] := List.length_eq_zero_iff.1 (by have := szTs_len l; omega)
    refine denU_of_body hmixU rfl Try.func23 rfl rfl rfl 0 ?_
    intro Ts
    (repeat' ((conv => whnf); first | refine goD ?_ | refine U.lw_c (fun hb => ?_) (fun hb => ?_)))
    (conv => whnf)
    refine loop_inv (α := Unit) (fun _ => True) (fun _ => (mkF [(0, imS []), (2, .slice none 0 0), (3, .slice none 0 0), (4, .int .i64 0)], ⟨mkO [], 0, 0, 0⟩)) (fun _ => 0) () trivial (Cov.renI rfl rfl rfl rfl .nil (.cons rfl (.clean _ _ (cleanT6s []) rfl) (.cons rfl (.F rfl rfl) (.cons rfl (.F rfl rfl) (.cons rfl (.F rfl rfl) .nil))))) ?_
    rintro _ _
    (repeat' ((conv => whnf); first | refine goD ?_ | refine U.lw_c (fun hb => ?_) (fun hb => ?_)))
    (conv => whnf)
    exact .nil
  | succ N ih =>
    intro l h0 h1
    refine denU_of_body hmixU rfl Try.func23 rfl rfl rfl 0 ?_
    intro Ts
    have hcl := cleanT6s l
    (repeat' ((conv => whnf); first | refine goD ?_ | refine U.lw_c (fun hb => ?_) (fun hb => ?_)))
    (conv => whnf)
    refine loop_sem (α := List AS6 × List AS6) (fun x => x.1 ++ x.2 = l) (fun x => (mkF [(0, imS (encTs l)), (2, .slice none 0 0), (3, rowS 0 (encTs (callsTs x.1))), (4, .int .i64 x.1.length)], ⟨mkO [(0, rowO 82 (encTs (callsTs x.1)))], 1, 0, 0⟩)) (fun x => x.2.length) ([], l) rfl (Cov.renI rfl rfl rfl rfl (.none .nil) (.cons rfl (.clean _ _ (cleanT6s _) rfl) (.cons rfl (.F rfl rfl) (.cons rfl (.F rfl rfl) (.cons rfl (.F rfl rfl) .nil))))) ?_
    rintro ⟨pre, rest⟩ p1
    dsimp only at p1
    subst p1
    dsimp only
    have hlen := szTs_len (pre ++ rest)
    rcases rest with _ | ⟨s, rest⟩
    · rw [List.append_nil] at *
      have zb := U.lt_no encTs_map pre
      obtain ⟨R, hR⟩ : ∃ R, R = callsTs pre := ⟨_, rfl⟩
      rw [← hR]
      refine CodeS.run hmixU 0 (Nat.zero_le _) ?_
      cases R with
      | nil =>
        (repeat' ((conv => whnf); first | refine goD ?_ | refine U.lw_c (fun hb => ?_) (fun hb => ?_)))
        (conv => whnf)
        exact .nil
      | cons s0 o =>
        (repeat' ((conv => whnf); first | refine goD ?_ | refine U.lw_c (fun hb => ?_) (fun hb => ?_)))
        (conv => whnf)
        exact .rowL (Nat.zero_le _) rfl rfl (cellsT_7 _) rfl (Nat.le_refl _) (cleanTCells (s0 :: o))
    · have zb := U.lt_yes encTs_map pre (s) rest; have zc := U.blt_yes encTs_map pre (s) rest; have zn := U.nth_at encTs_map pre (s) rest; have zw := U.len_snoc (pre := pre) (x := s) (post := rest) ((Nat.le_trans (show _ ≤ 1000 by omega) (by decide)))
      obtain ⟨k, nm, xs, th, el, ln, cl⟩ := s
      have hsz := szTs_app pre (.mk k nm xs th el ln cl :: rest)
      rw [szTs, szT] at hsz
      have c2 := ih th (by omega) (by omega)
      have c3 := ih el (by omega) (by omega)
      have e1 : callsTs (pre ++ [.mk k nm xs th el ln cl]) = callsTs pre ++ ((if k = 5 then [.mk k nm xs th el ln cl] else []) ++ (callsTs th ++ callsTs el)) := by rw [callsTs_snoc, callsT]
      have l1 := callsTs_len pre
      have l3 := callsTs_len th
      have l5 := callsTs_len el
      have hm1 : pre.length + (rest.length + 1) ≤ 1000 := by simp at hlen; omega
      generalize callsTs pre = R at *
      generalize callsTs th = A at *
      generalize callsTs el = B at *
      have o1 := (sv_of A).one
      have o2 := (sv_of B).one
      clear ih
      have kt := cleanT6s th
      have ke := cleanT6s el
      have kx := cleanAs xs
      have fA : ∀ (R A : List AS6), (R ++ A).length ≤ 90000 → True := fun _ _ _ => trivial
      refine CodeS.then_ (mkF [(0, imS (encTs (pre ++ .mk k nm xs th el ln cl :: rest))), (2, .slice none 0 0), (3, rowS 0 (encTs R)), (4, .int .i64 pre.length)]) ⟨mkO [(0, rowO 82 (encTs R))], 1, 0, 0⟩ ?_ ?_
      · refine CodeS.run hmixU 0 (Nat.zero_le _) ?_
        (repeat' ((conv => whnf); first | refine goD ?_ | refine U.lw_c (fun hb => ?_) (fun hb => ?_)))
        (conv => whnf)
        exact (Cov.renI rfl rfl rfl rfl (blksO.row rfl rfl (cleanTCells _) .nil) (.cons rfl (.clean _ _ (cleanT6s _) rfl) (.cons rfl (.F rfl rfl) (.cons rfl (.ofRow (by decide) rfl rfl) (.cons rfl .I .nil)))))
      obtain ⟨R1, hR1⟩ : ∃ R1, R1 = R ++ (if k = 5 then [.mk k nm xs th el ln cl] else []) := ⟨_, rfl⟩
      have hl1 : R1.length ≤ R.length + 1 := by rw [hR1, List.length_append]; split <;> simp
      refine CodeS.then_ (mkF [(0, imS (encTs (pre ++ .mk k nm xs th el ln cl :: rest))), (2, .slice none 0 0), (3, rowS 15 (encTs (R1 ++ A ++ B))), (4, .int .i64 pre.length)]) ⟨mkO [(15, rowO 82 (encTs (R1 ++ A ++ B)))], 16, 0, 0⟩ (CodeS.block (CodeS.then_ (mkF [(0, imS (encTs (pre ++ .mk k nm xs th el ln cl :: rest))), (2, .slice none 0 0), (3, rowS 5 (encTs R1)), (4, .int .i64 pre.length)]) ⟨mkO [(5, rowO 82 (encTs R1))], 6, 0, 0⟩ ?_ (CodeS.then_ (mkF [(0, imS (encTs (pre ++ .mk k nm xs th el ln cl :: rest))), (2, .slice none 0 0), (3, rowS 10 (encTs (R1 ++ A))), (4, .int .i64 pre.length)]) ⟨mkO [(10, rowO 82 (encTs (R1 ++ A)))], 11, 0, 0⟩ ?_ ?_))) ?_
      · refine CodeS.run hmixU 0 (Nat.zero_le _) ?_
        rw [hR1]
        by_cases hk : k = 5
        · have g5 : (k == 5) = true := by simpa using hk
          rw [if_pos hk]
          rcases R with _ | ⟨r0, R⟩
          · (repeat' ((conv => whnf); first | refine goD ?_ | refine U.lw_c (fun hb => ?_) (fun hb => ?_)))
            (conv => whnf)
            exact (Cov.renO (fun k => if k = 5 then 2 else k) rfl rfl (Nat.le_of_ble_eq_true rfl) (Nat.zero_le _) (fun k hk => by have : k < 1 := hk; rw [if_neg (by omega)]) rfl (fun k hk => absurd hk (Nat.not_lt_zero k)) (blksO.grown rfl rfl (cleanTCells _) .nil) (.cons rfl (.clean _ _ (cleanT6s _) rfl) (.cons rfl (.F rfl rfl) (.cons rfl (.grown (by decide) rfl (by simp [encTs, encTs_map]) (by simp [encTs, encTs_map]) (by simp [encTs, encTs_map])) (.cons rfl .I .nil)))))
          · have hgr : (cellsAll (encT r0 :: encTs R)).length = ((encTs R).length + 1) * 7 := by
              rw [show encT r0 :: encTs R = encTs (r0 :: R) from rfl, cellsTs_len, encTs_map, List.length_map]; rfl
            have hg1 : (encTs R).length + 1 + (0 + 1) ≤ 100000 := by rw [encTs_map, List.length_map]; simp at l1; omega
            (repeat' ((conv => whnf); first | refine goA ?_ | (rw [U.ble_f ((encTs R).length + 1)]; dsimp only; refine U.growRow_p hgr rfl ?_) | refine U.ob_c (grow_ok (by decide +kernel) hg1) ?_ | refine goB ?_ | refine U.lw_c (fun hb => ?_) (fun hb => ?_)))
            (conv => whnf)
            exact (Cov.renO (fun k => if k = 5 then 2 else k) rfl rfl (Nat.le_of_ble_eq_true rfl) (Nat.zero_le _) (fun k hk => by have : k < 1 := hk; rw [if_neg (by omega)]) rfl (fun k hk => absurd hk (Nat.not_lt_zero k)) (blksO.grown rfl ((by rw [encTs_app]; exact List.flatMap_append)) (cleanTCells _) .nil) (.cons rfl (.clean _ _ (cleanT6s _) rfl) (.cons rfl (.F rfl rfl) (.cons rfl (.grown (by decide) rfl (by simp [encTs, encTs_map]) (by simp [encTs, encTs_map]) (by simp [encTs, encTs_map])) (.cons rfl .I .nil)))))
        · have g5 : (k == 5) = false := by simpa using hk
          rw [if_neg hk, List.append_nil]
          (repeat' ((conv => whnf); first | refine goD ?_ | refine U.lw_c (fun hb => ?_) (fun hb => ?_)))
          (conv => whnf)
          exact (Cov.renO (fun k => if k = 5 then 0 else k) rfl rfl (Nat.le_of_ble_eq_true rfl) (Nat.zero_le _) (fun k hk => by have : k < 1 := hk; rw [if_neg (by omega)]) rfl (fun k hk => absurd hk (Nat.not_lt_zero k)) (blksO.row rfl rfl (cleanTCells _) .nil) (.cons rfl (.clean _ _ (cleanT6s _) rfl) (.cons rfl (.F rfl rfl) (.cons rfl (.ofRow (by decide) rfl rfl) (.cons rfl .I .nil)))))
      · refine CodeS.run hmixU 0 (Nat.zero_le _) ?_
        rcases A with _ | ⟨a0, A0⟩
        · rw [List.append_nil]
          obtain ⟨Z, hZ⟩ : ∃ Z, Z = R1 := ⟨_, rfl⟩
          rw [← hZ]
          clear hZ
          rcases Z with _ | ⟨r0, Z⟩
          · (repeat' ((conv => whnf); first | refine goD ?_ | refine U.SoundAt.u (c2) (by (repeat (first | exact trivial | ((conv => whnf); first | exact trivial | refine And.intro (by first | assumption | exact cleanI _ | exact cleanIL _ | exact cleanBL _ | exact NoNm.flat _ rfl) ?_)))) ?_ | refine U.SoundC.u (c2) (by (repeat (first | exact trivial | ((conv => whnf); first | exact trivial | refine And.intro (by first | assumption | exact cleanI _ | exact cleanIL _ | exact cleanBL _ | exact NoNm.flat _ rfl) ?_)))) ?_ | refine U.lw_c (fun hb => ?_) (fun hb => ?_)))
            (conv => whnf)
            exact (Cov.renO (fun k => if k = 10 then 5 else k) rfl rfl (Nat.le_of_ble_eq_true rfl) (Nat.zero_le _) (fun k hk => by have : k < 6 := hk; rw [if_neg (by omega)]) rfl (fun k hk => absurd hk (Nat.not_lt_zero k)) (blksO.row rfl rfl (cleanTCells _) .nil) (.cons rfl (.clean _ _ (cleanT6s _) rfl) (.cons rfl (.F rfl rfl) (.cons rfl (.ofRow (by decide) rfl rfl) (.cons rfl .I .nil)))))
          · (repeat' ((conv => whnf); first | refine goD ?_ | refine U.SoundAt.u (c2) (by (repeat (first | exact trivial | ((conv => whnf); first | exact trivial | refine And.intro (by first | assumption | exact cleanI _ | exact cleanIL _ | exact cleanBL _ | exact NoNm.flat _ rfl) ?_)))) ?_ | refine U.SoundC.u (c2) (by (repeat (first | exact trivial | ((conv => whnf); first | exact trivial | refine And.intro (by first | assumption | exact cleanI _ | exact cleanIL _ | exact cleanBL _ | exact NoNm.flat _ rfl) ?_)))) ?_ | refine U.lw_c (fun hb => ?_) (fun hb => ?_)))
            (conv => whnf)
            exact (Cov.renO (fun k => if k = 10 then 5 else k) rfl rfl (Nat.le_of_ble_eq_true rfl) (Nat.zero_le _) (fun k hk => by have : k < 6 := hk; rw [if_neg (by omega)]) rfl (fun k hk => absurd hk (Nat.not_lt_zero k)) (blksO.row rfl rfl (cleanTCells _) .nil) (.cons rfl (.clean _ _ (cleanT6s _) rfl) (.cons rfl (.F rfl rfl) (.cons rfl (.ofRow (by decide) rfl rfl) (.cons rfl .I .nil)))))
        · have ha0 : A0.length ≤ 1000 := by simp at l3; omega
          obtain ⟨Z, hZ⟩ : ∃ Z, Z = R1 := ⟨_, rfl⟩
          have hZl : Z.length ≤ 9000 := by rw [hZ]; (try rw [List.length_append]); omega
          rw [← hZ]
          clear hZ
          rcases Z with _ | ⟨r0, Z⟩
          · have hg1 : 0 + ((encTs A0).length + 1) ≤ 100000 := by rw [encTs_map, List.length_map]; omega
            (repeat' ((conv => whnf); first | refine goA ?_ | refine U.ob_c o1 ?_ | refine U.ob_c (grow_ok (by decide +kernel) hg1) ?_ | refine goB ?_ | refine U.SoundAt.u (c2) (by (repeat (first | exact trivial | ((conv => whnf); first | exact trivial | refine And.intro (by first | assumption | exact cleanI _ | exact cleanIL _ | exact cleanBL _ | exact NoNm.flat _ rfl) ?_)))) ?_ | refine U.SoundC.u (c2) (by (repeat (first | exact trivial | ((conv => whnf); first | exact trivial | refine And.intro (by first | assumption | exact cleanI _ | exact cleanIL _ | exact cleanBL _ | exact NoNm.flat _ rfl) ?_)))) ?_ | refine U.lw_c (fun hb => ?_) (fun hb => ?_)))
            (conv => whnf)
            exact (Cov.renO (fun k => if k = 10 then 6 else k) rfl rfl (Nat.le_of_ble_eq_true rfl) (Nat.zero_le _) (fun k hk => by have : k < 6 := hk; rw [if_neg (by omega)]) rfl (fun k hk => absurd hk (Nat.not_lt_zero k)) (blksO.grown rfl rfl (cleanTCells _) .nil) (.cons rfl (.clean _ _ (cleanT6s _) rfl) (.cons rfl (.F rfl rfl) (.cons rfl (.grown (by decide) rfl (by simp [encTs, encTs_map]) (by simp [encTs, encTs_map] <;> omega) (by simp [encTs, encTs_map] <;> omega)) (.cons rfl .I .nil)))))
          · have hgr : (cellsAll (encT r0 :: encTs Z)).length = ((encTs Z).length + 1) * 7 := by
              rw [show encT r0 :: encTs Z = encTs (r0 :: Z) from rfl, cellsTs_len, encTs_map, List.length_map]; rfl
            have hg1 : (encTs Z).length + 1 + ((encTs A0).length + 1) ≤ 100000 := by rw [encTs_map, List.length_map, encTs_map, List.length_map]; simp at hZl; omega
            (repeat' ((conv => whnf); first | refine goA ?_ | refine U.ob_c o1 ?_ | (rw [U.ble_g ((encTs Z).length + 1)]; dsimp only; refine U.growRow_p hgr rfl ?_) | refine U.ob_c (grow_ok (by decide +kernel) hg1) ?_ | refine goB ?_ | refine U.SoundAt.u (c2) (by (repeat (first | exact trivial | ((conv => whnf); first | exact trivial | refine And.intro (by first | assumption | exact cleanI _ | exact cleanIL _ | exact cleanBL _ | exact NoNm.flat _ rfl) ?_)))) ?_ | refine U.SoundC.u (c2) (by (repeat (first | exact trivial | ((conv => whnf); first | exact trivial | refine And.intro (by first | assumption | exact cleanI _ | exact cleanIL _ | exact cleanBL _ | exact NoNm.flat _ rfl) ?_)))) ?_ | refine U.lw_c (fun hb => ?_) (fun hb => ?_)))
            (conv => whnf)
            exact (Cov.renO (fun k => if k = 10 then 6 else k) rfl rfl (Nat.le_of_ble_eq_true rfl) (Nat.zero_le _) (fun k hk => by have : k < 6 := hk; rw [if_neg (by omega)]) rfl (fun k hk => absurd hk (Nat.not_lt_zero k)) (blksO.grown rfl ((by rw [encTs_app]; exact List.flatMap_append)) (cleanTCells _) .nil) (.cons rfl (.clean _ _ (cleanT6s _) rfl) (.cons rfl (.F rfl rfl) (.cons rfl (.grown (by decide) rfl (by simp [encTs, encTs_map]) (by simp [encTs, encTs_map] <;> omega) (by simp [encTs, encTs_map] <;> omega)) (.cons rfl .I .nil)))))
      · refine CodeS.run hmixU 0 (Nat.zero_le _) ?_
        rcases B with _ | ⟨a0, A0⟩
        · rw [List.append_nil]
          obtain ⟨Z, hZ⟩ : ∃ Z, Z = R1 ++ A := ⟨_, rfl⟩
          rw [← hZ]
          clear hZ
          rcases Z with _ | ⟨r0, Z⟩
          · (repeat' ((conv => whnf); first | refine goD ?_ | refine U.SoundAt.u (c3) (by (repeat (first | exact trivial | ((conv => whnf); first | exact trivial | refine And.intro (by first | assumption | exact cleanI _ | exact cleanIL _ | exact cleanBL _ | exact NoNm.flat _ rfl) ?_)))) ?_ | refine U.SoundC.u (c3) (by (repeat (first | exact trivial | ((conv => whnf); first | exact trivial | refine And.intro (by first | assumption | exact cleanI _ | exact cleanIL _ | exact cleanBL _ | exact NoNm.flat _ rfl) ?_)))) ?_ | refine U.lw_c (fun hb => ?_) (fun hb => ?_)))
            (conv => whnf)
            exact (Cov.renO (fun k => if k = 15 then 10 else k) rfl rfl (Nat.le_of_ble_eq_true rfl) (Nat.zero_le _) (fun k hk => by have : k < 1 := hk; rw [if_neg (by omega)]) rfl (fun k hk => absurd hk (Nat.not_lt_zero k)) (blksO.row rfl rfl (cleanTCells _) .nil) (.cons rfl (.clean _ _ (cleanT6s _) rfl) (.cons rfl (.F rfl rfl) (.cons rfl (.ofRow (by decide) rfl rfl) (.cons rfl .I .nil)))))
          · (repeat' ((conv => whnf); first | refine goD ?_ | refine U.SoundAt.u (c3) (by (repeat (first | exact trivial | ((conv => whnf); first | exact trivial | refine And.intro (by first | assumption | exact cleanI _ | exact cleanIL _ | exact cleanBL _ | exact NoNm.flat _ rfl) ?_)))) ?_ | refine U.SoundC.u (c3) (by (repeat (first | exact trivial | ((conv => whnf); first | exact trivial | refine And.intro (by first | assumption | exact cleanI _ | exact cleanIL _ | exact cleanBL _ | exact NoNm.flat _ rfl) ?_)))) ?_ | refine U.lw_c (fun hb => ?_) (fun hb => ?_)))
            (conv => whnf)
            exact (Cov.renO (fun k => if k = 15 then 10 else k) rfl rfl (Nat.le_of_ble_eq_true rfl) (Nat.zero_le _) (fun k hk => by have : k < 1 := hk; rw [if_neg (by omega)]) rfl (fun k hk => absurd hk (Nat.not_lt_zero k)) (blksO.row rfl rfl (cleanTCells _) .nil) (.cons rfl (.clean _ _ (cleanT6s _) rfl) (.cons rfl (.F rfl rfl) (.cons rfl (.ofRow (by decide) rfl rfl) (.cons rfl .I .nil)))))
        · have ha0 : A0.length ≤ 1000 := by simp at l5; omega
          obtain ⟨Z, hZ⟩ : ∃ Z, Z = R1 ++ A := ⟨_, rfl⟩
          have hZl : Z.length ≤ 9000 := by rw [hZ]; (try rw [List.length_append]); omega
          rw [← hZ]
          clear hZ
          rcases Z with _ | ⟨r0, Z⟩
          · have hg1 : 0 + ((encTs A0).length + 1) ≤ 100000 := by rw [encTs_map, List.length_map]; omega
            (repeat' ((conv => whnf); first | refine goA ?_ | refine U.ob_c o2 ?_ | refine U.ob_c (grow_ok (by decide +kernel) hg1) ?_ | refine goB ?_ | refine U.SoundAt.u (c3) (by (repeat (first | exact trivial | ((conv => whnf); first | exact trivial | refine And.intro (by first | assumption | exact cleanI _ | exact cleanIL _ | exact cleanBL _ | exact NoNm.flat _ rfl) ?_)))) ?_ | refine U.SoundC.u (c3) (by (repeat (first | exact trivial | ((conv => whnf); first | exact trivial | refine And.intro (by first | assumption | exact cleanI _ | exact cleanIL _ | exact cleanBL _ | exact NoNm.flat _ rfl) ?_)))) ?_ | refine U.lw_c (fun hb => ?_) (fun hb => ?_)))
            (conv => whnf)
            exact (Cov.renO (fun k => if k = 15 then 11 else k) rfl rfl (Nat.le_of_ble_eq_true rfl) (Nat.zero_le _) (fun k hk => by have : k < 1 := hk; rw [if_neg (by omega)]) rfl (fun k hk => absurd hk (Nat.not_lt_zero k)) (blksO.grown rfl rfl (cleanTCells _) .nil) (.cons rfl (.clean _ _ (cleanT6s _) rfl) (.cons rfl (.F rfl rfl) (.cons rfl (.grown (by decide) rfl (by simp [encTs, encTs_map]) (by simp [encTs, encTs_map] <;> omega) (by simp [encTs, encTs_map] <;> omega)) (.cons rfl .I .nil)))))
          · have hgr : (cellsAll (encT r0 :: encTs Z)).length = ((encTs Z).length + 1) * 7 := by
              rw [show encT r0 :: encTs Z = encTs (r0 :: Z) from rfl, cellsTs_len, encTs_map, List.length_map]; rfl
            have hg1 : (encTs Z).length + 1 + ((encTs A0).length + 1) ≤ 100000 := by rw [encTs_map, List.length_map, encTs_map, List.length_map]; simp at hZl; omega
            (repeat' ((conv => whnf); first | refine goA ?_ | refine U.ob_c o2 ?_ | (rw [U.ble_g ((encTs Z).length + 1)]; dsimp only; refine U.growRow_p hgr rfl ?_) | refine U.ob_c (grow_ok (by decide +kernel) hg1) ?_ | refine goB ?_ | refine U.SoundAt.u (c3) (by (repeat (first | exact trivial | ((conv => whnf); first | exact trivial | refine And.intro (by first | assumption | exact cleanI _ | exact cleanIL _ | exact cleanBL _ | exact NoNm.flat _ rfl) ?_)))) ?_ | refine U.SoundC.u (c3) (by (repeat (first | exact trivial | ((conv => whnf); first | exact trivial | refine And.intro (by first | assumption | exact cleanI _ | exact cleanIL _ | exact cleanBL _ | exact NoNm.flat _ rfl) ?_)))) ?_ | refine U.lw_c (fun hb => ?_) (fun hb => ?_)))
            (conv => whnf)
            exact (Cov.renO (fun k => if k = 15 then 11 else k) rfl rfl (Nat.le_of_ble_eq_true rfl) (Nat.zero_le _) (fun k hk => by have : k < 1 := hk; rw [if_neg (by omega)]) rfl (fun k hk => absurd hk (Nat.not_lt_zero k)) (blksO.grown rfl ((by rw [encTs_app]; exact List.flatMap_append)) (cleanTCells _) .nil) (.cons rfl (.clean _ _ (cleanT6s _) rfl) (.cons rfl (.F rfl rfl) (.cons rfl (.grown (by decide) rfl (by simp [encTs, encTs_map]) (by simp [encTs, encTs_map] <;> omega) (by simp [encTs, encTs_map] <;> omega)) (.cons rfl .I .nil)))))
      · refine CodeS.run hmixU 0 (Nat.zero_le _) ?_
        (repeat' ((conv => whnf); first | refine goD ?_ | refine U.lw_c (fun hb => ?_) (fun hb => ?_)))
        (conv => whnf)
        refine ⟨(pre ++ [.mk k nm xs th el ln cl], rest), by simp, by simp, ?_⟩
        dsimp only
        rw [e1, ← List.append_assoc, ← hR1, ← List.append_assoc]
        exact (Cov.renO (fun k => if k = 0 then 15 else k) rfl rfl (Nat.le_of_ble_eq_true rfl) (Nat.zero_le _) (fun k hk => by have : k < 0 := hk; rw [if_neg (by omega)]) rfl (fun k hk => absurd hk (Nat.not_lt_zero k)) (blksO.row rfl rfl (cleanTCells _) .nil) (.cons rfl (.clean _ _ (cleanT6s _) rfl) (.cons rfl (.F rfl rfl) (.cons rfl (.ofRow (by decide) rfl rfl) (.cons rfl (.clean _ _ (cleanI _) (congrArg (Value.int .i64) (zw.symm))) .nil)))))
end Go.Proofs.Ytphbcejnnoijfaa
