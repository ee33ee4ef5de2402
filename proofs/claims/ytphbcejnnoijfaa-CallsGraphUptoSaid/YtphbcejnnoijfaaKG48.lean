
import Derived.Test.YtphbcejnnoijfaaKG33
import Derived.Test.YtphbcejnnoijfaaKG47
namespace Go.Proofs.Ytphbcejnnoijfaa
open Go Go.RowKit Go.Sort U
set_option linter.unusedVariables false
set_option linter.unusedSimpArgs false
set_option maxRecDepth 100000
set_option maxHeartbeats 16000000
abbrev bPr6 (p : APr) : U.Blk := .cells 31 [imS (encDcs p.ds), imS (encTs p.mn)] false
abbrev bGr1 (u v : Value) : U.Blk := .cells 36 [u, v] false
abbrev bF4 : U.Blk := .cells 41 [.int .i64 0, .int .i64 0, .int .i64 0] false
def refV (p : APr) : Value := match ofG p with
  | .inl rows => .tuple ⟨[.agg ⟨[imS (sL (namesD p.ds)), imS (gL rows)]⟩, fltV 0 0 0]⟩
  | .inr f => .tuple ⟨[.agg ⟨[imS [], imS []]⟩, fltV f.1 f.2 120]⟩
theorem cellsG_snoc (a : List (List Int)) (x : List Int) : cellsAll (gL (a ++ [x])) = cellsAll (gL a) ++ [imS (iL x)] := by
  rw [cellsG, cellsG, gL, List.map_append]; rfl
theorem siteL_plZ (ns : List ByteArray) (k : Int) (nm : ByteArray) (xs : List AE) (th el : List AS6) (ln cl : Int) (l : List AS6) : siteL (mOf ns) (.mk k nm xs th el ln cl :: l) = if plZ ns nm < 0 then .inr (ln, cl) else match siteL (mOf ns) l with
    | .inl r => .inl (plZ ns nm :: r)
    | .inr f => .inr f := by
  rw [siteL, plZ]
  cases h : getM (mOf ns) nm with
  | none => rfl
  | some i =>
    have := getM_nn h
    dsimp only
    rw [if_neg (by omega)]
    cases siteL (mOf ns) l <;> rfl
theorem rof_d (p : APr) (hf : FewA p) : DenU Try.prog [] 7 [encPr p] (refV p) := by
  refine denU_of_sound hmixU fun Ts => SoundAt.body hmixU Try.func7 rfl rfl rfl 0 ?_
  have fd := hf.dl
  have fz := hf.sz
  obtain ⟨ds, mn⟩ := p
  unfold szPr at fz
  dsimp only at fd fz
  have cm := cleanT6s mn
  (repeat' ((conv => whnf); first | refine goD ?_ | refine U.lw_c (fun hb => ?_) (fun hb => ?_)))
  (conv => whnf)
  refine loop_inv (α := List ADc × List ADc) (fun x => x.1 ++ x.2 = ds) (fun x => (mkF [(1, .pointer (some ⟨0, 0, none⟩)), (2, .pointer (some ⟨1, 0, none⟩)), (3, .pointer (some ⟨2, 0, none⟩)), (4, .pointer (some ⟨3, 0, none⟩)), (5, rowS 5 (bL (bodsD x.1))), (6, .int .i64 x.1.length)], ⟨mkO [(0, some (bPr6 ⟨ds, mn⟩)), (1, some (bGr1 (.slice none 0 0) (.slice none 0 0))), (2, some bF4), (3, some (bGr1 (rowS 4 (sL (namesD x.1))) (.slice none 0 0))), (4, rowO 9 (sL (namesD x.1))), (5, rowO 29 (bL (bodsD x.1)))], 6, 0, 0⟩)) (fun x => x.2.length) ([], ds) rfl (by exact (Cov.renI rfl rfl rfl rfl (.cons rfl (.row _ _ _ _ (cleanPr_cells ⟨ds, mn⟩) rfl) (.cons rfl (.cells _ _ _ _ (.cons (.F rfl rfl) (.cons (.F rfl rfl) .nil))) (.cons rfl (.cells _ _ _ _ (.cons (.F rfl rfl) (.cons (.F rfl rfl) (.cons (.F rfl rfl) .nil)))) (.cons rfl (.cells _ _ _ _ (.cons (.F rfl rfl) (.cons (.F rfl rfl) .nil))) (.none (.none .nil)))))) (.cons rfl (.P rfl) (.cons rfl (.P rfl) (.cons rfl (.P rfl) (.cons rfl (.P rfl) (.cons rfl (.F rfl rfl) (.cons rfl .I .nil)))))))) ?_
  rintro ⟨pre, rest⟩ p1
  dsimp only at p1
  subst p1
  dsimp only
  rcases rest with _ | ⟨d, rest⟩
  · rw [List.append_nil] at *
    have zb := U.lt_no encDcs_map pre
    have hres : ofG ⟨pre, mn⟩ = rowsL (mOf (namesD pre)) (bodsD pre ++ [mn]) := rfl
    have hlN : (namesD pre).length ≤ pre.length := by rw [namesD, List.length_map]; exact List.length_filter_le ..
    have hlB : (bodsD pre).length = (namesD pre).length := by rw [namesD, bodsD, List.length_map, List.length_map]
    have hB2 : ∀ b ∈ bodsD pre ++ [mn], szTs b ≤ 300 := fun b hb => by
      rcases List.mem_append.1 hb with hb | hb
      · obtain ⟨d, hd, rfl⟩ := List.mem_map.1 hb
        have := szDs_mem (List.mem_filter.1 hd).1
        omega
      · rw [List.mem_singleton] at hb
        subst hb; omega
    have hB1 : (bodsD pre ++ [mn]).length ≤ 301 := by rw [List.length_append, List.length_singleton]; omega
    obtain ⟨BB, hBB⟩ : ∃ BB, BB = bodsD pre ++ [mn] := ⟨_, rfl⟩
    rw [← hBB] at hres hB1 hB2
    obtain ⟨ns, hns⟩ : ∃ ns, ns = namesD pre := ⟨_, rfl⟩
    obtain ⟨bs, hbs⟩ : ∃ bs, bs = bodsD pre := ⟨_, rfl⟩
    rw [← hbs] at hBB hlB ⊢
    rw [← hns] at hres hlB hlN ⊢
    have hlN2 : ns.length ≤ 300 := Nat.le_trans hlN fd
    rcases bs with _ | ⟨b0, bs⟩
    · (repeat' ((conv => whnf); first | refine goD ?_ | refine U.lw_c (fun hb => ?_) (fun hb => ?_)))
      (conv => whnf)
      refine loop_inv (α := List (List AS6) × List (List AS6) × List (List Int)) (fun x => x.1 ++ x.2.1 = BB ∧ rowsL (mOf ns) x.1 = .inl x.2.2) (fun x => (mkF [(1, .pointer (some ⟨0, 0, none⟩)), (2, .pointer (some ⟨1, 0, none⟩)), (3, .pointer (some ⟨2, 0, none⟩)), (4, .pointer (some ⟨3, 0, none⟩)), (5, imS (bL BB)), (7, .int .i64 x.1.length)], ⟨mkO [(0, some (bPr6 ⟨pre, mn⟩)), (1, some (bGr1 (.slice none 0 0) (.slice none 0 0))), (2, some bF4), (3, some (bGr1 (imS (sL ns)) (rowS 20 (gL x.2.2)))), (20, rowO 54 (gL x.2.2))], 21, 0, 0⟩)) (fun x => x.2.1.length) ([], BB, []) ⟨rfl, rfl⟩ (by
              rw [hBB]
              refine ((Cov.renI rfl rfl rfl rfl (.cons rfl (.row _ _ _ _ (cleanPr_cells ⟨_, mn⟩) rfl) (.cons rfl (.cells _ _ _ _ (.cons (.F rfl rfl) (.cons (.F rfl rfl) .nil))) (.cons rfl (.cells _ _ _ _ (.cons (.F rfl rfl) (.cons (.F rfl rfl) (.cons (.F rfl rfl) .nil)))) (.cons rfl (.cells _ _ _ _ (.cons (.ofRow (by decide) rfl rfl) (.cons (.F rfl rfl) .nil))) (blksO.row rfl rfl (cleanSC _) (blksO.grown rfl rfl (cleanBC _) .nil)))))) (.cons rfl (.P rfl) (.cons rfl (.P rfl) (.cons rfl (.P rfl) (.cons rfl (.P rfl) (.cons rfl (.grown (by decide) rfl (by simp [bL]) (by simp [bL]) (by simp [bL])) (.cons rfl .I .nil))))))) : Cov _ _ _ _ _ (mkF [(1, .pointer (some ⟨0, 0, none⟩)), (2, .pointer (some ⟨1, 0, none⟩)), (3, .pointer (some ⟨2, 0, none⟩)), (4, .pointer (some ⟨3, 0, none⟩)), (5, rowS 7 (bL ([] ++ [mn]))), (7, .int .i64 0)]) ⟨mkO [(0, some (bPr6 ⟨pre, mn⟩)), (1, some (bGr1 (.slice none 0 0) (.slice none 0 0))), (2, some bF4), (3, some (bGr1 (rowS 4 (sL ns)) (.slice none 0 0))), (4, rowO 9 (sL ns)), (7, rowO 29 (bL ([] ++ [mn])))], 8, 0, 0⟩).trans ?_
              refine (Cov.frz (fun k => k) 7 1 (T := 29) (ys := bL ([] ++ [mn])) rfl rfl (Nat.le_of_ble_eq_true rfl) (Nat.zero_le _) (fun _ _ => rfl) rfl (fun k hk => absurd hk (Nat.not_lt_zero k)) (Nat.zero_le _) rfl rfl bL_1 (cleanBC _) (.cons rfl (.row _ _ _ _ (cleanPr_cells ⟨_, mn⟩) rfl) (.cons rfl (.cells _ _ _ _ (.cons (.F rfl rfl) (.cons (.F rfl rfl) .nil))) (.cons rfl (.cells _ _ _ _ (.cons (.F rfl rfl) (.cons (.F rfl rfl) (.cons (.F rfl rfl) .nil)))) (.cons rfl (.cells _ _ _ _ (.cons (.ofRow (by decide) rfl rfl) (.cons (.F rfl rfl) .nil))) (blksO.row rfl rfl (cleanSC _) .nil))))) (.cons rfl (.P rfl) (.cons rfl (.P rfl) (.cons rfl (.P rfl) (.cons rfl (.P rfl) (.cons rfl (.ext _ _ ⟨rfl, rfl⟩) (.cons rfl .I .nil)))))) : Cov _ _ _ _ _ (mkF [(1, .pointer (some ⟨0, 0, none⟩)), (2, .pointer (some ⟨1, 0, none⟩)), (3, .pointer (some ⟨2, 0, none⟩)), (4, .pointer (some ⟨3, 0, none⟩)), (5, imS (bL ([] ++ [mn]))), (7, .int .i64 0)]) ⟨mkO [(0, some (bPr6 ⟨pre, mn⟩)), (1, some (bGr1 (.slice none 0 0) (.slice none 0 0))), (2, some bF4), (3, some (bGr1 (rowS 4 (sL ns)) (.slice none 0 0))), (4, rowO 9 (sL ns))], 8, 0, 0⟩).trans ?_
              exact Cov.frz (fun k => k) 4 1 (T := 9) (ys := sL ns) rfl rfl (Nat.le_of_ble_eq_true rfl) (Nat.zero_le _) (fun _ _ => rfl) rfl (fun k hk => absurd hk (Nat.not_lt_zero k)) (Nat.zero_le _) rfl rfl (sL_11 _) (cleanSC _) (.cons rfl (.row _ _ _ _ (cleanPr_cells ⟨_, mn⟩) rfl) (.cons rfl (.cells _ _ _ _ (.cons (.F rfl rfl) (.cons (.F rfl rfl) .nil))) (.cons rfl (.cells _ _ _ _ (.cons (.F rfl rfl) (.cons (.F rfl rfl) (.cons (.F rfl rfl) .nil)))) (.cons rfl (.cells _ _ _ _ (.cons (.ext _ _ ⟨rfl, rfl⟩) (.cons (.F rfl rfl) .nil))) (.none .nil))))) (.cons rfl (.P rfl) (.cons rfl (.P rfl) (.cons rfl (.P rfl) (.cons rfl (.P rfl) (.cons rfl (.clean _ _ (cleanBL _) rfl) (.cons rfl .I .nil))))))) ?_
      rintro ⟨bpre, brest, rows⟩ ⟨q1, q2⟩
      dsimp only at q1 q2
      dsimp only
      have hrl := rowsL_len q2
      have hqb : (bpre ++ brest).length ≤ 301 := by rw [q1]; exact hB1
      rcases brest with _ | ⟨b, brest⟩
      · rw [List.append_nil] at q1
        have hend : decide (((bpre.length : Nat) : Int) < (((bL BB).length : Nat) : Int)) = false := decide_eq_false (by rw [bL, List.length_map, ← q1]; omega)
        have hgo : [imS (sL ns), rowS 20 (gL rows)].all Value.oneCell' = true := by cases rows <;> rfl
        (repeat' ((conv => whnf); first | refine goA ?_ | refine U.ob_c hgo ?_ | refine goB ?_ | refine U.lw_c (fun hb => ?_) (fun hb => ?_)))
        (conv => whnf)
        have hv : refV ⟨pre, mn⟩ = .tuple ⟨[.agg ⟨[imS (sL ns), imS (gL rows)]⟩, fltV 0 0 0]⟩ := by
          unfold refV
          rw [hres, ← q1, q2]
          dsimp only
          rw [← hns]
        rw [hv]
        exact .tupL (.cons (.aggL (.cons (.clean _ (cleanSL _)) (.cons (.ofRow (T := 54) (Nat.zero_le _) rfl gL_1 (cleanGC _)) .nil))) (.cons (.clean _ (.flat _ rfl)) .nil))
      · have hbm := hB2 b (by rw [← q1]; simp)
        have z2b := U.lt_yes bL_map bpre (b) brest; have z2c := U.blt_yes bL_map bpre (b) brest; have z2n := U.nth_at bL_map bpre (b) brest; have z2w := U.len_snoc (pre := bpre) (x := b) (post := brest) ((Nat.le_trans hqb (by decide)))
        rw [q1] at z2b z2c z2n
        have kb := cleanT6s b
        have cC := calls_all 300 b hbm (by omega)
        obtain ⟨C, hC⟩ : ∃ C, C = callsTs b := ⟨_, rfl⟩
        have hCl : C.length ≤ 300 := by rw [hC]; exact Nat.le_trans (callsTs_len b) hbm
        rw [← hC] at cC
        (repeat' ((conv => whnf); first | refine goD ?_ | refine U.SoundAt.u (cC) (by (repeat (first | exact trivial | ((conv => whnf); first | exact trivial | refine And.intro (by first | assumption | exact cleanI _ | exact cleanIL _ | exact cleanBL _ | exact NoNm.flat _ rfl) ?_)))) ?_ | refine U.SoundC.u (cC) (by (repeat (first | exact trivial | ((conv => whnf); first | exact trivial | refine And.intro (by first | assumption | exact cleanI _ | exact cleanIL _ | exact cleanBL _ | exact NoNm.flat _ rfl) ?_)))) ?_ | refine U.lw_c (fun hb => ?_) (fun hb => ?_)))
        (conv => whnf)
        refine loop_inv (α := List AS6 × List AS6 × List Int) (fun x => x.1 ++ x.2.1 = C ∧ siteL (mOf ns) x.1 = .inl x.2.2) (fun x => (mkF [(1, .pointer (some ⟨0, 0, none⟩)), (2, .pointer (some ⟨1, 0, none⟩)), (3, .pointer (some ⟨2, 0, none⟩)), (4, .pointer (some ⟨3, 0, none⟩)), (5, imS (bL BB)), (7, .int .i64 bpre.length), (8, imS (encTs C)), (9, rowS 21 (iL x.2.2)), (10, .int .i64 x.1.length)], ⟨mkO [(0, some (bPr6 ⟨pre, mn⟩)), (1, some (bGr1 (.slice none 0 0) (.slice none 0 0))), (2, some bF4), (3, some (bGr1 (imS (sL ns)) (rowS 20 (gL rows)))), (20, rowO 54 (gL rows)), (21, bI x.2.2)], 22, 0, 0⟩)) (fun x => x.2.1.length) ([], C, []) ⟨rfl, rfl⟩ (Cov.renI rfl rfl rfl rfl (.cons rfl (.row _ _ _ _ (cleanPr_cells ⟨_, mn⟩) rfl) (.cons rfl (.cells _ _ _ _ (.cons (.F rfl rfl) (.cons (.F rfl rfl) .nil))) (.cons rfl (.cells _ _ _ _ (.cons (.F rfl rfl) (.cons (.F rfl rfl) (.cons (.F rfl rfl) .nil)))) (.cons rfl (.cells _ _ _ _ (.cons (.clean _ _ (cleanSL _) rfl) (.cons (.ofRow (by decide) rfl rfl) .nil))) (blksO.row rfl rfl (cleanGC _) (.none .nil)))))) (.cons rfl (.P rfl) (.cons rfl (.P rfl) (.cons rfl (.P rfl) (.cons rfl (.P rfl) (.cons rfl (.clean _ _ (cleanBL _) rfl) (.cons rfl .I (.cons rfl (.clean _ _ (cleanT6s _) rfl) (.cons rfl (.F rfl rfl) (.cons rfl .I .nil)))))))))) ?_
        rintro ⟨cpre, crest, r⟩ ⟨w1, w2⟩
        dsimp only at w1 w2
        dsimp only
        have hrn := siteL_len w2
        have hqc : (cpre ++ crest).length ≤ 300 := by rw [w1]; exact hCl
        rcases crest with _ | ⟨c, crest⟩
        · rw [List.append_nil] at w1
          subst w1
          have z3b := U.lt_no encTs_map cpre
          have hq2 : rowsL (mOf ns) (bpre ++ [b]) = .inl (rows ++ [r]) := by
            rw [rowsL_app, q2]
            dsimp only
            rw [rowsL, ← hC, w2]; rfl
          rcases rows with _ | ⟨r0, rows⟩
          · rcases r with _ | ⟨x, r⟩
            all_goals (repeat' ((conv => whnf); first | refine goD ?_ | refine U.lw_c (fun hb => ?_) (fun hb => ?_)))
            all_goals (conv => whnf)
            · refine ⟨(bpre ++ [b], brest, [] ++ [[]]), ⟨by simp [q1], hq2⟩, by simp, ?_⟩
              exact Cov.frz (fun k => if k = 20 then 23 else k) 1000 1 (T := 3) (ys := iL []) rfl rfl (Nat.le_of_ble_eq_true rfl) (Nat.zero_le _) (fun k hk => by have hk : k < 8 := hk; rw [if_neg (by omega)]) rfl (fun k hk => absurd hk (Nat.not_lt_zero k)) (Nat.zero_le _) rfl rfl iL_1 (cleanIC _) (.cons rfl (.row _ _ _ _ (cleanPr_cells ⟨_, mn⟩) rfl) (.cons rfl (.cells _ _ _ _ (.cons (.F rfl rfl) (.cons (.F rfl rfl) .nil))) (.cons rfl (.cells _ _ _ _ (.cons (.F rfl rfl) (.cons (.F rfl rfl) (.cons (.F rfl rfl) .nil)))) (.cons rfl (.cells _ _ _ _ (.cons (.clean _ _ (cleanSL _) rfl) (.cons (.grown (by decide) rfl (by simp [gL]) (by simp [gL]) (by simp [gL])) .nil))) (blksO.grownL rfl (.cons (by exact .ext _ _ ⟨rfl, rfl⟩) .nil) .nil))))) (.cons rfl (.P rfl) (.cons rfl (.P rfl) (.cons rfl (.P rfl) (.cons rfl (.P rfl) (.cons rfl (.clean _ _ (cleanBL _) rfl) (.cons rfl (.clean _ _ (cleanI _) (congrArg (Value.int .i64) (z2w.symm))) .nil))))))
            · refine ⟨(bpre ++ [b], brest, [] ++ [(x :: r)]), ⟨by simp [q1], hq2⟩, by simp, ?_⟩
              exact Cov.frz (fun k => if k = 20 then 23 else k) 21 1 (T := 3) (ys := iL (x :: r)) rfl rfl (Nat.le_of_ble_eq_true rfl) (Nat.zero_le _) (fun k hk => by have hk : k < 8 := hk; rw [if_neg (by omega)]) rfl (fun k hk => absurd hk (Nat.not_lt_zero k)) (Nat.zero_le _) rfl rfl iL_1 (cleanIC _) (.cons rfl (.row _ _ _ _ (cleanPr_cells ⟨_, mn⟩) rfl) (.cons rfl (.cells _ _ _ _ (.cons (.F rfl rfl) (.cons (.F rfl rfl) .nil))) (.cons rfl (.cells _ _ _ _ (.cons (.F rfl rfl) (.cons (.F rfl rfl) (.cons (.F rfl rfl) .nil)))) (.cons rfl (.cells _ _ _ _ (.cons (.clean _ _ (cleanSL _) rfl) (.cons (.grown (by decide) rfl (by simp [gL]) (by simp [gL]) (by simp [gL])) .nil))) (blksO.grownL rfl (.cons (by exact .ext _ _ ⟨rfl, rfl⟩) .nil) .nil))))) (.cons rfl (.P rfl) (.cons rfl (.P rfl) (.cons rfl (.P rfl) (.cons rfl (.P rfl) (.cons rfl (.clean _ _ (cleanBL _) rfl) (.cons rfl (.clean _ _ (cleanI _) (congrArg (Value.int .i64) (z2w.symm))) .nil))))))
          · have hgr3 : (cellsAll (imS (iL r0) :: List.map (fun r => imS (iL r)) rows)).length = ((List.map (fun r => imS (iL r)) rows).length + 1) * 1 := by
              rw [show imS (iL r0) :: List.map (fun r => imS (iL r)) rows = gL (r0 :: rows) from rfl, cellsG, gL_len, List.length_map]
              simp
            have hg3 : (List.map (fun r => imS (iL r)) rows).length + 1 + (0 + 1) ≤ 100000 := by rw [List.length_map]; simp at hrl hqb; omega
            rcases r with _ | ⟨x, r⟩
            all_goals (repeat' ((conv => whnf); first | refine goA ?_ | (rw [U.ble_f ((List.map (fun r => imS (iL r)) rows).length + 1)]; dsimp only; refine U.growRow_p hgr3 rfl ?_) | refine U.ob_c (grow_ok (by decide +kernel) hg3) ?_ | refine goB ?_ | refine U.lw_c (fun hb => ?_) (fun hb => ?_)))
            all_goals (conv => whnf)
            · refine ⟨(bpre ++ [b], brest, (r0 :: rows) ++ [[]]), ⟨by simp [q1], hq2⟩, by simp, ?_⟩
              exact Cov.frz (fun k => if k = 20 then 23 else k) 1000 1 (T := 3) (ys := iL []) rfl rfl (Nat.le_of_ble_eq_true rfl) (Nat.zero_le _) (fun k hk => by have hk : k < 8 := hk; rw [if_neg (by omega)]) rfl (fun k hk => absurd hk (Nat.not_lt_zero k)) (Nat.zero_le _) rfl rfl iL_1 (cleanIC _) (.cons rfl (.row _ _ _ _ (cleanPr_cells ⟨_, mn⟩) rfl) (.cons rfl (.cells _ _ _ _ (.cons (.F rfl rfl) (.cons (.F rfl rfl) .nil))) (.cons rfl (.cells _ _ _ _ (.cons (.F rfl rfl) (.cons (.F rfl rfl) (.cons (.F rfl rfl) .nil)))) (.cons rfl (.cells _ _ _ _ (.cons (.clean _ _ (cleanSL _) rfl) (.cons (.grown (by decide) rfl (by simp [gL]) (by simp [gL]) (by simp [gL])) .nil))) (blksO.grownL rfl (by rw [cellsG_snoc]; exact RenL.app (RenL.refl (cleanGC (r0 :: rows))) (.cons (by exact .ext _ _ ⟨rfl, rfl⟩) .nil)) .nil))))) (.cons rfl (.P rfl) (.cons rfl (.P rfl) (.cons rfl (.P rfl) (.cons rfl (.P rfl) (.cons rfl (.clean _ _ (cleanBL _) rfl) (.cons rfl (.clean _ _ (cleanI _) (congrArg (Value.int .i64) (z2w.symm))) .nil))))))
            · refine ⟨(bpre ++ [b], brest, (r0 :: rows) ++ [(x :: r)]), ⟨by simp [q1], hq2⟩, by simp, ?_⟩
              exact Cov.frz (fun k => if k = 20 then 23 else k) 21 1 (T := 3) (ys := iL (x :: r)) rfl rfl (Nat.le_of_ble_eq_true rfl) (Nat.zero_le _) (fun k hk => by have hk : k < 8 := hk; rw [if_neg (by omega)]) rfl (fun k hk => absurd hk (Nat.not_lt_zero k)) (Nat.zero_le _) rfl rfl iL_1 (cleanIC _) (.cons rfl (.row _ _ _ _ (cleanPr_cells ⟨_, mn⟩) rfl) (.cons rfl (.cells _ _ _ _ (.cons (.F rfl rfl) (.cons (.F rfl rfl) .nil))) (.cons rfl (.cells _ _ _ _ (.cons (.F rfl rfl) (.cons (.F rfl rfl) (.cons (.F rfl rfl) .nil)))) (.cons rfl (.cells _ _ _ _ (.cons (.clean _ _ (cleanSL _) rfl) (.cons (.grown (by decide) rfl (by simp [gL]) (by simp [gL]) (by simp [gL])) .nil))) (blksO.grownL rfl (by rw [cellsG_snoc]; exact RenL.app (RenL.refl (cleanGC (r0 :: rows))) (.cons (by exact .ext _ _ ⟨rfl, rfl⟩) .nil)) .nil))))) (.cons rfl (.P rfl) (.cons rfl (.P rfl) (.cons rfl (.P rfl) (.cons rfl (.P rfl) (.cons rfl (.clean _ _ (cleanBL _) rfl) (.cons rfl (.clean _ _ (cleanI _) (congrArg (Value.int .i64) (z2w.symm))) .nil))))))
        · obtain ⟨ck, cnm, cxs, cth, cel, cln, ccl⟩ := c
          have z3b := U.lt_yes encTs_map cpre ((.mk ck cnm cxs cth cel cln ccl)) crest; have z3c := U.blt_yes encTs_map cpre ((.mk ck cnm cxs cth cel cln ccl)) crest; have z3n := U.nth_at encTs_map cpre ((.mk ck cnm cxs cth cel cln ccl)) crest; have z3w := U.len_snoc (pre := cpre) (x := (.mk ck cnm cxs cth cel cln ccl)) (post := crest) ((Nat.le_trans hqc (by decide)))
          rw [w1] at z3b z3c z3n
          have cP := place_d ns cnm (Nat.le_trans hlN2 (by decide))
          have kx := cleanAs cxs
          have kt := cleanT6s cth
          have ke := cleanT6s cel
          have kns := cleanSL ns
          have hs := siteL_plZ ns ck cnm cxs cth cel cln ccl []
          obtain ⟨z, hz⟩ : ∃ z, z = plZ ns cnm := ⟨_, rfl⟩
          have hs2 := siteL_plZ ns ck cnm cxs cth cel cln ccl crest
          rw [← hz] at hs hs2 cP
          by_cases hneg : z < 0
          · have g1 : decide (z < 0) = true := decide_eq_true hneg
            rw [if_pos hneg] at hs
            rw [if_pos hneg] at hs2
            (repeat' ((conv => whnf); first | refine goD ?_ | refine U.SoundAt.u (cP) (by (repeat (first | exact trivial | ((conv => whnf); first | exact trivial | refine And.intro (by first | assumption | exact cleanI _ | exact cleanIL _ | exact cleanBL _ | exact NoNm.flat _ rfl) ?_)))) ?_ | refine U.SoundC.u (cP) (by (repeat (first | exact trivial | ((conv => whnf); first | exact trivial | refine And.intro (by first | assumption | exact cleanI _ | exact cleanIL _ | exact cleanBL _ | exact NoNm.flat _ rfl) ?_)))) ?_ | refine U.drawX_p (D := U.propX) 9 [] (by decide +kernel) (by decide +kernel) ?_ | refine U.drawX_m (D := U.propX) 8 [] (by decide +kernel) (by decide +kernel) (by decide +kernel) ?_ | refine U.lw_c (fun hb => ?_) (fun hb => ?_)))
            (conv => whnf)
            have hv : refV ⟨pre, mn⟩ = .tuple ⟨[.agg ⟨[imS [], imS []]⟩, fltV cln ccl 120]⟩ := by
              unfold refV
              rw [hres, ← q1, rowsL_app, q2]
              dsimp only
              rw [rowsL, ← hC, ← w1, siteL_app, w2]
              dsimp only
              rw [hs2]
            rw [hv]
            exact .tupL (.cons (.aggL (.cons .nil (.cons .nil .nil))) (.cons (.clean _ (.flat _ rfl)) .nil))
          · have g1 : decide (z < 0) = false := decide_eq_false hneg
            rw [if_neg hneg, siteL] at hs
            dsimp only at hs
            have hw2 : siteL (mOf ns) (cpre ++ [.mk ck cnm cxs cth cel cln ccl]) = .inl (r ++ [z]) := by rw [siteL_app, w2, hs]
            rcases r with _ | ⟨x, r⟩
            · (repeat' ((conv => whnf); first | refine goD ?_ | refine U.SoundAt.u (cP) (by (repeat (first | exact trivial | ((conv => whnf); first | exact trivial | refine And.intro (by first | assumption | exact cleanI _ | exact cleanIL _ | exact cleanBL _ | exact NoNm.flat _ rfl) ?_)))) ?_ | refine U.SoundC.u (cP) (by (repeat (first | exact trivial | ((conv => whnf); first | exact trivial | refine And.intro (by first | assumption | exact cleanI _ | exact cleanIL _ | exact cleanBL _ | exact NoNm.flat _ rfl) ?_)))) ?_ | refine U.drawX_p (D := U.propX) 9 [] (by decide +kernel) (by decide +kernel) ?_ | refine U.drawX_m (D := U.propX) 8 [] (by decide +kernel) (by decide +kernel) (by decide +kernel) ?_ | refine U.lw_c (fun hb => ?_) (fun hb => ?_)))
              (conv => whnf)
              refine ⟨(cpre ++ [.mk ck cnm cxs cth cel cln ccl], crest, [] ++ [z]), ⟨by simp [w1], hw2⟩, by simp, ?_⟩
              exact (Cov.renO (fun k => if k = 21 then 23 else k) rfl rfl (Nat.le_of_ble_eq_true rfl) (Nat.zero_le _) (fun k hk => by have : k < 21 := hk; rw [if_neg (by omega)]) rfl (fun k hk => absurd hk (Nat.not_lt_zero k)) (.cons rfl (.row _ _ _ _ (cleanPr_cells ⟨_, mn⟩) rfl) (.cons rfl (.cells _ _ _ _ (.cons (.F rfl rfl) (.cons (.F rfl rfl) .nil))) (.cons rfl (.cells _ _ _ _ (.cons (.F rfl rfl) (.cons (.F rfl rfl) (.cons (.F rfl rfl) .nil)))) (.cons rfl (.cells _ _ _ _ (.cons (.clean _ _ (cleanSL _) rfl) (.cons (.ofRow (by decide) rfl rfl) .nil))) (blksO.row rfl rfl (cleanGC _) (blksO.grown rfl rfl (cleanIC _) .nil)))))) (.cons rfl (.P rfl) (.cons rfl (.P rfl) (.cons rfl (.P rfl) (.cons rfl (.P rfl) (.cons rfl (.clean _ _ (cleanBL _) rfl) (.cons rfl .I (.cons rfl (.clean _ _ (cleanT6s _) rfl) (.cons rfl (.grown (by decide) rfl (by simp [iL]) (by simp [iL]) (by simp [iL])) (.cons rfl (.clean _ _ (cleanI _) (congrArg (Value.int .i64) (z3w.symm))) .nil))))))))))
            · have hgr3 : (cellsAll (Value.int .i64 x :: List.map (Value.int .i64) r)).length = ((List.map (Value.int .i64) r).length + 1) * 1 := by
                rw [show Value.int .i64 x :: List.map (Value.int .i64) r = iL (x :: r) from rfl, cellsI, iL_len, List.length_map]
                simp
              have hg3 : (List.map (Value.int .i64) r).length + 1 + (0 + 1) ≤ 100000 := by rw [List.length_map]; simp at hrn hqc; omega
              (repeat' ((conv => whnf); first | refine goA ?_ | (rw [U.ble_f ((List.map (Value.int .i64) r).length + 1)]; dsimp only; refine U.growRow_p hgr3 rfl ?_) | refine U.ob_c (grow_ok (by decide +kernel) hg3) ?_ | refine goB ?_ | refine U.SoundAt.u (cP) (by (repeat (first | exact trivial | ((conv => whnf); first | exact trivial | refine And.intro (by first | assumption | exact cleanI _ | exact cleanIL _ | exact cleanBL _ | exact NoNm.flat _ rfl) ?_)))) ?_ | refine U.SoundC.u (cP) (by (repeat (first | exact trivial | ((conv => whnf); first | exact trivial | refine And.intro (by first | assumption | exact cleanI _ | exact cleanIL _ | exact cleanBL _ | exact NoNm.flat _ rfl) ?_)))) ?_ | refine U.drawX_p (D := U.propX) 9 [] (by decide +kernel) (by decide +kernel) ?_ | refine U.drawX_m (D := U.propX) 8 [] (by decide +kernel) (by decide +kernel) (by decide +kernel) ?_ | refine U.lw_c (fun hb => ?_) (fun hb => ?_)))
              (conv => whnf)
              refine ⟨(cpre ++ [.mk ck cnm cxs cth cel cln ccl], crest, (x :: r) ++ [z]), ⟨by simp [w1], hw2⟩, by simp, ?_⟩
              exact (Cov.renO (fun k => if k = 21 then 23 else k) rfl rfl (Nat.le_of_ble_eq_true rfl) (Nat.zero_le _) (fun k hk => by have : k < 21 := hk; rw [if_neg (by omega)]) rfl (fun k hk => absurd hk (Nat.not_lt_zero k)) (.cons rfl (.row _ _ _ _ (cleanPr_cells ⟨_, mn⟩) rfl) (.cons rfl (.cells _ _ _ _ (.cons (.F rfl rfl) (.cons (.F rfl rfl) .nil))) (.cons rfl (.cells _ _ _ _ (.cons (.F rfl rfl) (.cons (.F rfl rfl) (.cons (.F rfl rfl) .nil)))) (.cons rfl (.cells _ _ _ _ (.cons (.clean _ _ (cleanSL _) rfl) (.cons (.ofRow (by decide) rfl rfl) .nil))) (blksO.row rfl rfl (cleanGC _) (blksO.grown rfl ((by rw [iL, List.map_append]; exact List.flatMap_append)) (cleanIC _) .nil)))))) (.cons rfl (.P rfl) (.cons rfl (.P rfl) (.cons rfl (.P rfl) (.cons rfl (.P rfl) (.cons rfl (.clean _ _ (cleanBL _) rfl) (.cons rfl .I (.cons rfl (.clean _ _ (cleanT6s _) rfl) (.cons rfl (.grown (by decide) rfl (by simp [iL]) (by simp [iL]) (by simp [iL])) (.cons rfl (.clean _ _ (cleanI _) (congrArg (Value.int .i64) (z3w.symm))) .nil))))))))))
    · have hgr2 : (cellsAll (imS (encTs b0) :: List.map (fun b => imS (encTs b)) bs)).length = ((List.map (fun b => imS (encTs b)) bs).length + 1) * 1 := by
        rw [show imS (encTs b0) :: List.map (fun b => imS (encTs b)) bs = bL (b0 :: bs) from rfl, cellsB, bL, List.length_map, List.length_map]
        simp
      have hg2 : (List.map (fun b => imS (encTs b)) bs).length + 1 + (0 + 1) ≤ 100000 := by rw [List.length_map]; simp at hlN hlB; omega
      (repeat' ((conv => whnf); first | refine goA ?_ | (rw [U.ble_f ((List.map (fun b => imS (encTs b)) bs).length + 1)]; dsimp only; refine U.growRow_p hgr2 rfl ?_) | refine U.ob_c (grow_ok (by decide +kernel) hg2) ?_ | refine goB ?_ | refine U.lw_c (fun hb => ?_) (fun hb => ?_)))
      (conv => whnf)
      refine loop_inv (α := List (List AS6) × List (List AS6) × List (List Int)) (fun x => x.1 ++ x.2.1 = BB ∧ rowsL (mOf ns) x.1 = .inl x.2.2) (fun x => (mkF [(1, .pointer (some ⟨0, 0, none⟩)), (2, .pointer (some ⟨1, 0, none⟩)), (3, .pointer (some ⟨2, 0, none⟩)), (4, .pointer (some ⟨3, 0, none⟩)), (5, imS (bL BB)), (7, .int .i64 x.1.length)], ⟨mkO [(0, some (bPr6 ⟨pre, mn⟩)), (1, some (bGr1 (.slice none 0 0) (.slice none 0 0))), (2, some bF4), (3, some (bGr1 (imS (sL ns)) (rowS 20 (gL x.2.2)))), (20, rowO 54 (gL x.2.2))], 21, 0, 0⟩)) (fun x => x.2.1.length) ([], BB, []) ⟨rfl, rfl⟩ (by
              rw [hBB]
              refine ((Cov.renI rfl rfl rfl rfl (.cons rfl (.row _ _ _ _ (cleanPr_cells ⟨_, mn⟩) rfl) (.cons rfl (.cells _ _ _ _ (.cons (.F rfl rfl) (.cons (.F rfl rfl) .nil))) (.cons rfl (.cells _ _ _ _ (.cons (.F rfl rfl) (.cons (.F rfl rfl) (.cons (.F rfl rfl) .nil)))) (.cons rfl (.cells _ _ _ _ (.cons (.ofRow (by decide) rfl rfl) (.cons (.F rfl rfl) .nil))) (blksO.row rfl rfl (cleanSC _) (blksO.grown rfl ((by rw [bL, List.map_append]; exact List.flatMap_append)) (cleanBC _) .nil)))))) (.cons rfl (.P rfl) (.cons rfl (.P rfl) (.cons rfl (.P rfl) (.cons rfl (.P rfl) (.cons rfl (.grown (by decide) rfl (by simp [bL]) (by simp [bL]) (by simp [bL])) (.cons rfl .I .nil))))))) : Cov _ _ _ _ _ (mkF [(1, .pointer (some ⟨0, 0, none⟩)), (2, .pointer (some ⟨1, 0, none⟩)), (3, .pointer (some ⟨2, 0, none⟩)), (4, .pointer (some ⟨3, 0, none⟩)), (5, rowS 7 (bL (b0 :: bs ++ [mn]))), (7, .int .i64 0)]) ⟨mkO [(0, some (bPr6 ⟨pre, mn⟩)), (1, some (bGr1 (.slice none 0 0) (.slice none 0 0))), (2, some bF4), (3, some (bGr1 (rowS 4 (sL ns)) (.slice none 0 0))), (4, rowO 9 (sL ns)), (7, rowO 29 (bL (b0 :: bs ++ [mn])))], 8, 0, 0⟩).trans ?_
              refine (Cov.frz (fun k => k) 7 1 (T := 29) (ys := bL (b0 :: bs ++ [mn])) rfl rfl (Nat.le_of_ble_eq_true rfl) (Nat.zero_le _) (fun _ _ => rfl) rfl (fun k hk => absurd hk (Nat.not_lt_zero k)) (Nat.zero_le _) rfl rfl bL_1 (cleanBC _) (.cons rfl (.row _ _ _ _ (cleanPr_cells ⟨_, mn⟩) rfl) (.cons rfl (.cells _ _ _ _ (.cons (.F rfl rfl) (.cons (.F rfl rfl) .nil))) (.cons rfl (.cells _ _ _ _ (.cons (.F rfl rfl) (.cons (.F rfl rfl) (.cons (.F rfl rfl) .nil)))) (.cons rfl (.cells _ _ _ _ (.cons (.ofRow (by decide) rfl rfl) (.cons (.F rfl rfl) .nil))) (blksO.row rfl rfl (cleanSC _) .nil))))) (.cons rfl (.P rfl) (.cons rfl (.P rfl) (.cons rfl (.P rfl) (.cons rfl (.P rfl) (.cons rfl (.ext _ _ ⟨rfl, rfl⟩) (.cons rfl .I .nil)))))) : Cov _ _ _ _ _ (mkF [(1, .pointer (some ⟨0, 0, none⟩)), (2, .pointer (some ⟨1, 0, none⟩)), (3, .pointer (some ⟨2, 0, none⟩)), (4, .pointer (some ⟨3, 0, none⟩)), (5, imS (bL (b0 :: bs ++ [mn]))), (7, .int .i64 0)]) ⟨mkO [(0, some (bPr6 ⟨pre, mn⟩)), (1, some (bGr1 (.slice none 0 0) (.slice none 0 0))), (2, some bF4), (3, some (bGr1 (rowS 4 (sL ns)) (.slice none 0 0))), (4, rowO 9 (sL ns))], 8, 0, 0⟩).trans ?_
              exact Cov.frz (fun k => k) 4 1 (T := 9) (ys := sL ns) rfl rfl (Nat.le_of_ble_eq_true rfl) (Nat.zero_le _) (fun _ _ => rfl) rfl (fun k hk => absurd hk (Nat.not_lt_zero k)) (Nat.zero_le _) rfl rfl (sL_11 _) (cleanSC _) (.cons rfl (.row _ _ _ _ (cleanPr_cells ⟨_, mn⟩) rfl) (.cons rfl (.cells _ _ _ _ (.cons (.F rfl rfl) (.cons (.F rfl rfl) .nil))) (.cons rfl (.cells _ _ _ _ (.cons (.F rfl rfl) (.cons (.F rfl rfl) (.cons (.F rfl rfl) .nil)))) (.cons rfl (.cells _ _ _ _ (.cons (.ext _ _ ⟨rfl, rfl⟩) (.cons (.F rfl rfl) .nil))) (.none .nil))))) (.cons rfl (.P rfl) (.cons rfl (.P rfl) (.cons rfl (.P rfl) (.cons rfl (.P rfl) (.cons rfl (.clean _ _ (cleanBL _) rfl) (.cons rfl .I .nil))))))) ?_
      rintro ⟨bpre, brest, rows⟩ ⟨q1, q2⟩
      dsimp only at q1 q2
      dsimp only
      have hrl := rowsL_len q2
      have hqb : (bpre ++ brest).length ≤ 301 := by rw [q1]; exact hB1
      rcases brest with _ | ⟨b, brest⟩
      · rw [List.append_nil] at q1
        have hend : decide (((bpre.length : Nat) : Int) < (((bL BB).length : Nat) : Int)) = false := decide_eq_false (by rw [bL, List.length_map, ← q1]; omega)
        have hgo : [imS (sL ns), rowS 20 (gL rows)].all Value.oneCell' = true := by cases rows <;> rfl
        (repeat' ((conv => whnf); first | refine goA ?_ | refine U.ob_c hgo ?_ | refine goB ?_ | refine U.lw_c (fun hb => ?_) (fun hb => ?_)))
        (conv => whnf)
        have hv : refV ⟨pre, mn⟩ = .tuple ⟨[.agg ⟨[imS (sL ns), imS (gL rows)]⟩, fltV 0 0 0]⟩ := by
          unfold refV
          rw [hres, ← q1, q2]
          dsimp only
          rw [← hns]
        rw [hv]
        exact .tupL (.cons (.aggL (.cons (.clean _ (cleanSL _)) (.cons (.ofRow (T := 54) (Nat.zero_le _) rfl gL_1 (cleanGC _)) .nil))) (.cons (.clean _ (.flat _ rfl)) .nil))
      · have hbm := hB2 b (by rw [← q1]; simp)
        have z2b := U.lt_yes bL_map bpre (b) brest; have z2c := U.blt_yes bL_map bpre (b) brest; have z2n := U.nth_at bL_map bpre (b) brest; have z2w := U.len_snoc (pre := bpre) (x := b) (post := brest) ((Nat.le_trans hqb (by decide)))
        rw [q1] at z2b z2c z2n
        have kb := cleanT6s b
        have cC := calls_all 300 b hbm (by omega)
        obtain ⟨C, hC⟩ : ∃ C, C = callsTs b := ⟨_, rfl⟩
        have hCl : C.length ≤ 300 := by rw [hC]; exact Nat.le_trans (callsTs_len b) hbm
        rw [← hC] at cC
        (repeat' ((conv => whnf); first | refine goD ?_ | refine U.SoundAt.u (cC) (by (repeat (first | exact trivial | ((conv => whnf); first | exact trivial | refine And.intro (by first | assumption | exact cleanI _ | exact cleanIL _ | exact cleanBL _ | exact NoNm.flat _ rfl) ?_)))) ?_ | refine U.SoundC.u (cC) (by (repeat (first | exact trivial | ((conv => whnf); first | exact trivial | refine And.intro (by first | assumption | exact cleanI _ | exact cleanIL _ | exact cleanBL _ | exact NoNm.flat _ rfl) ?_)))) ?_ | refine U.lw_c (fun hb => ?_) (fun hb => ?_)))
        (conv => whnf)
        refine loop_inv (α := List AS6 × List AS6 × List Int) (fun x => x.1 ++ x.2.1 = C ∧ siteL (mOf ns) x.1 = .inl x.2.2) (fun x => (mkF [(1, .pointer (some ⟨0, 0, none⟩)), (2, .pointer (some ⟨1, 0, none⟩)), (3, .pointer (some ⟨2, 0, none⟩)), (4, .pointer (some ⟨3, 0, none⟩)), (5, imS (bL BB)), (7, .int .i64 bpre.length), (8, imS (encTs C)), (9, rowS 21 (iL x.2.2)), (10, .int .i64 x.1.length)], ⟨mkO [(0, some (bPr6 ⟨pre, mn⟩)), (1, some (bGr1 (.slice none 0 0) (.slice none 0 0))), (2, some bF4), (3, some (bGr1 (imS (sL ns)) (rowS 20 (gL rows)))), (20, rowO 54 (gL rows)), (21, bI x.2.2)], 22, 0, 0⟩)) (fun x => x.2.1.length) ([], C, []) ⟨rfl, rfl⟩ (Cov.renI rfl rfl rfl rfl (.cons rfl (.row _ _ _ _ (cleanPr_cells ⟨_, mn⟩) rfl) (.cons rfl (.cells _ _ _ _ (.cons (.F rfl rfl) (.cons (.F rfl rfl) .nil))) (.cons rfl (.cells _ _ _ _ (.cons (.F rfl rfl) (.cons (.F rfl rfl) (.cons (.F rfl rfl) .nil)))) (.cons rfl (.cells _ _ _ _ (.cons (.clean _ _ (cleanSL _) rfl) (.cons (.ofRow (by decide) rfl rfl) .nil))) (blksO.row rfl rfl (cleanGC _) (.none .nil)))))) (.cons rfl (.P rfl) (.cons rfl (.P rfl) (.cons rfl (.P rfl) (.cons rfl (.P rfl) (.cons rfl (.clean _ _ (cleanBL _) rfl) (.cons rfl .I (.cons rfl (.clean _ _ (cleanT6s _) rfl) (.cons rfl (.F rfl rfl) (.cons rfl .I .nil)))))))))) ?_
        rintro ⟨cpre, crest, r⟩ ⟨w1, w2⟩
        dsimp only at w1 w2
        dsimp only
        have hrn := siteL_len w2
        have hqc : (cpre ++ crest).length ≤ 300 := by rw [w1]; exact hCl
        rcases crest with _ | ⟨c, crest⟩
        · rw [List.append_nil] at w1
          subst w1
          have z3b := U.lt_no encTs_map cpre
          have hq2 : rowsL (mOf ns) (bpre ++ [b]) = .inl (rows ++ [r]) := by
            rw [rowsL_app, q2]
            dsimp only
            rw [rowsL, ← hC, w2]; rfl
          rcases rows with _ | ⟨r0, rows⟩
          · rcases r with _ | ⟨x, r⟩
            all_goals (repeat' ((conv => whnf); first | refine goD ?_ | refine U.lw_c (fun hb => ?_) (fun hb => ?_)))
            all_goals (conv => whnf)
            · refine ⟨(bpre ++ [b], brest, [] ++ [[]]), ⟨by simp [q1], hq2⟩, by simp, ?_⟩
              exact Cov.frz (fun k => if k = 20 then 23 else k) 1000 1 (T := 3) (ys := iL []) rfl rfl (Nat.le_of_ble_eq_true rfl) (Nat.zero_le _) (fun k hk => by have hk : k < 8 := hk; rw [if_neg (by omega)]) rfl (fun k hk => absurd hk (Nat.not_lt_zero k)) (Nat.zero_le _) rfl rfl iL_1 (cleanIC _) (.cons rfl (.row _ _ _ _ (cleanPr_cells ⟨_, mn⟩) rfl) (.cons rfl (.cells _ _ _ _ (.cons (.F rfl rfl) (.cons (.F rfl rfl) .nil))) (.cons rfl (.cells _ _ _ _ (.cons (.F rfl rfl) (.cons (.F rfl rfl) (.cons (.F rfl rfl) .nil)))) (.cons rfl (.cells _ _ _ _ (.cons (.clean _ _ (cleanSL _) rfl) (.cons (.grown (by decide) rfl (by simp [gL]) (by simp [gL]) (by simp [gL])) .nil))) (blksO.grownL rfl (.cons (by exact .ext _ _ ⟨rfl, rfl⟩) .nil) .nil))))) (.cons rfl (.P rfl) (.cons rfl (.P rfl) (.cons rfl (.P rfl) (.cons rfl (.P rfl) (.cons rfl (.clean _ _ (cleanBL _) rfl) (.cons rfl (.clean _ _ (cleanI _) (congrArg (Value.int .i64) (z2w.symm))) .nil))))))
            · refine ⟨(bpre ++ [b], brest, [] ++ [(x :: r)]), ⟨by simp [q1], hq2⟩, by simp, ?_⟩
              exact Cov.frz (fun k => if k = 20 then 23 else k) 21 1 (T := 3) (ys := iL (x :: r)) rfl rfl (Nat.le_of_ble_eq_true rfl) (Nat.zero_le _) (fun k hk => by have hk : k < 8 := hk; rw [if_neg (by omega)]) rfl (fun k hk => absurd hk (Nat.not_lt_zero k)) (Nat.zero_le _) rfl rfl iL_1 (cleanIC _) (.cons rfl (.row _ _ _ _ (cleanPr_cells ⟨_, mn⟩) rfl) (.cons rfl (.cells _ _ _ _ (.cons (.F rfl rfl) (.cons (.F rfl rfl) .nil))) (.cons rfl (.cells _ _ _ _ (.cons (.F rfl rfl) (.cons (.F rfl rfl) (.cons (.F rfl rfl) .nil)))) (.cons rfl (.cells _ _ _ _ (.cons (.clean _ _ (cleanSL _) rfl) (.cons (.grown (by decide) rfl (by simp [gL]) (by simp [gL]) (by simp [gL])) .nil))) (blksO.grownL rfl (.cons (by exact .ext _ _ ⟨rfl, rfl⟩) .nil) .nil))))) (.cons rfl (.P rfl) (.cons rfl (.P rfl) (.cons rfl (.P rfl) (.cons rfl (.P rfl) (.cons rfl (.clean _ _ (cleanBL _) rfl) (.cons rfl (.clean _ _ (cleanI _) (congrArg (Value.int .i64) (z2w.symm))) .nil))))))
          · have hgr3 : (cellsAll (imS (iL r0) :: List.map (fun r => imS (iL r)) rows)).length = ((List.map (fun r => imS (iL r)) rows).length + 1) * 1 := by
              rw [show imS (iL r0) :: List.map (fun r => imS (iL r)) rows = gL (r0 :: rows) from rfl, cellsG, gL_len, List.length_map]
              simp
            have hg3 : (List.map (fun r => imS (iL r)) rows).length + 1 + (0 + 1) ≤ 100000 := by rw [List.length_map]; simp at hrl hqb; omega
            rcases r with _ | ⟨x, r⟩
            all_goals (repeat' ((conv => whnf); first | refine goA ?_ | (rw [U.ble_f ((List.map (fun r => imS (iL r)) rows).length + 1)]; dsimp only; refine U.growRow_p hgr3 rfl ?_) | refine U.ob_c (grow_ok (by decide +kernel) hg3) ?_ | refine goB ?_ | refine U.lw_c (fun hb => ?_) (fun hb => ?_)))
            all_goals (conv => whnf)
            · refine ⟨(bpre ++ [b], brest, (r0 :: rows) ++ [[]]), ⟨by simp [q1], hq2⟩, by simp, ?_⟩
              exact Cov.frz (fun k => if k = 20 then 23 else k) 1000 1 (T := 3) (ys := iL []) rfl rfl (Nat.le_of_ble_eq_true rfl) (Nat.zero_le _) (fun k hk => by have hk : k < 8 := hk; rw [if_neg (by omega)]) rfl (fun k hk => absurd hk (Nat.not_lt_zero k)) (Nat.zero_le _) rfl rfl iL_1 (cleanIC _) (.cons rfl (.row _ _ _ _ (cleanPr_cells ⟨_, mn⟩) rfl) (.cons rfl (.cells _ _ _ _ (.cons (.F rfl rfl) (.cons (.F rfl rfl) .nil))) (.cons rfl (.cells _ _ _ _ (.cons (.F rfl rfl) (.cons (.F rfl rfl) (.cons (.F rfl rfl) .nil)))) (.cons rfl (.cells _ _ _ _ (.cons (.clean _ _ (cleanSL _) rfl) (.cons (.grown (by decide) rfl (by simp [gL]) (by simp [gL]) (by simp [gL])) .nil))) (blksO.grownL rfl (by rw [cellsG_snoc]; exact RenL.app (RenL.refl (cleanGC (r0 :: rows))) (.cons (by exact .ext _ _ ⟨rfl, rfl⟩) .nil)) .nil))))) (.cons rfl (.P rfl) (.cons rfl (.P rfl) (.cons rfl (.P rfl) (.cons rfl (.P rfl) (.cons rfl (.clean _ _ (cleanBL _) rfl) (.cons rfl (.clean _ _ (cleanI _) (congrArg (Value.int .i64) (z2w.symm))) .nil))))))
            · refine ⟨(bpre ++ [b], brest, (r0 :: rows) ++ [(x :: r)]), ⟨by simp [q1], hq2⟩, by simp, ?_⟩
              exact Cov.frz (fun k => if k = 20 then 23 else k) 21 1 (T := 3) (ys := iL (x :: r)) rfl rfl (Nat.le_of_ble_eq_true rfl) (Nat.zero_le _) (fun k hk => by have hk : k < 8 := hk; rw [if_neg (by omega)]) rfl (fun k hk => absurd hk (Nat.not_lt_zero k)) (Nat.zero_le _) rfl rfl iL_1 (cleanIC _) (.cons rfl (.row _ _ _ _ (cleanPr_cells ⟨_, mn⟩) rfl) (.cons rfl (.cells _ _ _ _ (.cons (.F rfl rfl) (.cons (.F rfl rfl) .nil))) (.cons rfl (.cells _ _ _ _ (.cons (.F rfl rfl) (.cons (.F rfl rfl) (.cons (.F rfl rfl) .nil)))) (.cons rfl (.cells _ _ _ _ (.cons (.clean _ _ (cleanSL _) rfl) (.cons (.grown (by decide) rfl (by simp [gL]) (by simp [gL]) (by simp [gL])) .nil))) (blksO.grownL rfl (by rw [cellsG_snoc]; exact RenL.app (RenL.refl (cleanGC (r0 :: rows))) (.cons (by exact .ext _ _ ⟨rfl, rfl⟩) .nil)) .nil))))) (.cons rfl (.P rfl) (.cons rfl (.P rfl) (.cons rfl (.P rfl) (.cons rfl (.P rfl) (.cons rfl (.clean _ _ (cleanBL _) rfl) (.cons rfl (.clean _ _ (cleanI _) (congrArg (Value.int .i64) (z2w.symm))) .nil))))))
        · obtain ⟨ck, cnm, cxs, cth, cel, cln, ccl⟩ := c
          have z3b := U.lt_yes encTs_map cpre ((.mk ck cnm cxs cth cel cln ccl)) crest; have z3c := U.blt_yes encTs_map cpre ((.mk ck cnm cxs cth cel cln ccl)) crest; have z3n := U.nth_at encTs_map cpre ((.mk ck cnm cxs cth cel cln ccl)) crest; have z3w := U.len_snoc (pre := cpre) (x := (.mk ck cnm cxs cth cel cln ccl)) (post := crest) ((Nat.le_trans hqc (by decide)))
          rw [w1] at z3b z3c z3n
          have cP := place_d ns cnm (Nat.le_trans hlN2 (by decide))
          have kx := cleanAs cxs
          have kt := cleanT6s cth
          have ke := cleanT6s cel
          have kns := cleanSL ns
          have hs := siteL_plZ ns ck cnm cxs cth cel cln ccl []
          obtain ⟨z, hz⟩ : ∃ z, z = plZ ns cnm := ⟨_, rfl⟩
          have hs2 := siteL_plZ ns ck cnm cxs cth cel cln ccl crest
          rw [← hz] at hs hs2 cP
          by_cases hneg : z < 0
          · have g1 : decide (z < 0) = true := decide_eq_true hneg
            rw [if_pos hneg] at hs
            rw [if_pos hneg] at hs2
            (repeat' ((conv => whnf); first | refine goD ?_ | refine U.SoundAt.u (cP) (by (repeat (first | exact trivial | ((conv => whnf); first | exact trivial | refine And.intro (by first | assumption | exact cleanI _ | exact cleanIL _ | exact cleanBL _ | exact NoNm.flat _ rfl) ?_)))) ?_ | refine U.SoundC.u (cP) (by (repeat (first | exact trivial | ((conv => whnf); first | exact trivial | refine And.intro (by first | assumption | exact cleanI _ | exact cleanIL _ | exact cleanBL _ | exact NoNm.flat _ rfl) ?_)))) ?_ | refine U.drawX_p (D := U.propX) 9 [] (by decide +kernel) (by decide +kernel) ?_ | refine U.drawX_m (D := U.propX) 8 [] (by decide +kernel) (by decide +kernel) (by decide +kernel) ?_ | refine U.lw_c (fun hb => ?_) (fun hb => ?_)))
            (conv => whnf)
            have hv : refV ⟨pre, mn⟩ = .tuple ⟨[.agg ⟨[imS [], imS []]⟩, fltV cln ccl 120]⟩ := by
              unfold refV
              rw [hres, ← q1, rowsL_app, q2]
              dsimp only
              rw [rowsL, ← hC, ← w1, siteL_app, w2]
              dsimp only
              rw [hs2]
            rw [hv]
            exact .tupL (.cons (.aggL (.cons .nil (.cons .nil .nil))) (.cons (.clean _ (.flat _ rfl)) .nil))
          · have g1 : decide (z < 0) = false := decide_eq_false hneg
            rw [if_neg hneg, siteL] at hs
            dsimp only at hs
            have hw2 : siteL (mOf ns) (cpre ++ [.mk ck cnm cxs cth cel cln ccl]) = .inl (r ++ [z]) := by rw [siteL_app, w2, hs]
            rcases r with _ | ⟨x, r⟩
            · (repeat' ((conv => whnf); first | refine goD ?_ | refine U.SoundAt.u (cP) (by (repeat (first | exact trivial | ((conv => whnf); first | exact trivial | refine And.intro (by first | assumption | exact cleanI _ | exact cleanIL _ | exact cleanBL _ | exact NoNm.flat _ rfl) ?_)))) ?_ | refine U.SoundC.u (cP) (by (repeat (first | exact trivial | ((conv => whnf); first | exact trivial | refine And.intro (by first | assumption | exact cleanI _ | exact cleanIL _ | exact cleanBL _ | exact NoNm.flat _ rfl) ?_)))) ?_ | refine U.drawX_p (D := U.propX) 9 [] (by decide +kernel) (by decide +kernel) ?_ | refine U.drawX_m (D := U.propX) 8 [] (by decide +kernel) (by decide +kernel) (by decide +kernel) ?_ | refine U.lw_c (fun hb => ?_) (fun hb => ?_)))
              (conv => whnf)
              refine ⟨(cpre ++ [.mk ck cnm cxs cth cel cln ccl], crest, [] ++ [z]), ⟨by simp [w1], hw2⟩, by simp, ?_⟩
              exact (Cov.renO (fun k => if k = 21 then 23 else k) rfl rfl (Nat.le_of_ble_eq_true rfl) (Nat.zero_le _) (fun k hk => by have : k < 21 := hk; rw [if_neg (by omega)]) rfl (fun k hk => absurd hk (Nat.not_lt_zero k)) (.cons rfl (.row _ _ _ _ (cleanPr_cells ⟨_, mn⟩) rfl) (.cons rfl (.cells _ _ _ _ (.cons (.F rfl rfl) (.cons (.F rfl rfl) .nil))) (.cons rfl (.cells _ _ _ _ (.cons (.F rfl rfl) (.cons (.F rfl rfl) (.cons (.F rfl rfl) .nil)))) (.cons rfl (.cells _ _ _ _ (.cons (.clean _ _ (cleanSL _) rfl) (.cons (.ofRow (by decide) rfl rfl) .nil))) (blksO.row rfl rfl (cleanGC _) (blksO.grown rfl rfl (cleanIC _) .nil)))))) (.cons rfl (.P rfl) (.cons rfl (.P rfl) (.cons rfl (.P rfl) (.cons rfl (.P rfl) (.cons rfl (.clean _ _ (cleanBL _) rfl) (.cons rfl .I (.cons rfl (.clean _ _ (cleanT6s _) rfl) (.cons rfl (.grown (by decide) rfl (by simp [iL]) (by simp [iL]) (by simp [iL])) (.cons rfl (.clean _ _ (cleanI _) (congrArg (Value.int .i64) (z3w.symm))) .nil))))))))))
            · have hgr3 : (cellsAll (Value.int .i64 x :: List.map (Value.int .i64) r)).length = ((List.map (Value.int .i64) r).length + 1) * 1 := by
                rw [show Value.int .i64 x :: List.map (Value.int .i64) r = iL (x :: r) from rfl, cellsI, iL_len, List.length_map]
                simp
              have hg3 : (List.map (Value.int .i64) r).length + 1 + (0 + 1) ≤ 100000 := by rw [List.length_map]; simp at hrn hqc; omega
              (repeat' ((conv => whnf); first | refine goA ?_ | (rw [U.ble_f ((List.map (Value.int .i64) r).length + 1)]; dsimp only; refine U.growRow_p hgr3 rfl ?_) | refine U.ob_c (grow_ok (by decide +kernel) hg3) ?_ | refine goB ?_ | refine U.SoundAt.u (cP) (by (repeat (first | exact trivial | ((conv => whnf); first | exact trivial | refine And.intro (by first | assumption | exact cleanI _ | exact cleanIL _ | exact cleanBL _ | exact NoNm.flat _ rfl) ?_)))) ?_ | refine U.SoundC.u (cP) (by (repeat (first | exact trivial | ((conv => whnf); first | exact trivial | refine And.intro (by first | assumption | exact cleanI _ | exact cleanIL _ | exact cleanBL _ | exact NoNm.flat _ rfl) ?_)))) ?_ | refine U.drawX_p (D := U.propX) 9 [] (by decide +kernel) (by decide +kernel) ?_ | refine U.drawX_m (D := U.propX) 8 [] (by decide +kernel) (by decide +kernel) (by decide +kernel) ?_ | refine U.lw_c (fun hb => ?_) (fun hb => ?_)))
              (conv => whnf)
              refine ⟨(cpre ++ [.mk ck cnm cxs cth cel cln ccl], crest, (x :: r) ++ [z]), ⟨by simp [w1], hw2⟩, by simp, ?_⟩
              exact (Cov.renO (fun k => if k = 21 then 23 else k) rfl rfl (Nat.le_of_ble_eq_true rfl) (Nat.zero_le _) (fun k hk => by have : k < 21 := hk; rw [if_neg (by omega)]) rfl (fun k hk => absurd hk (Nat.not_lt_zero k)) (.cons rfl (.row _ _ _ _ (cleanPr_cells ⟨_, mn⟩) rfl) (.cons rfl (.cells _ _ _ _ (.cons (.F rfl rfl) (.cons (.F rfl rfl) .nil))) (.cons rfl (.cells _ _ _ _ (.cons (.F rfl rfl) (.cons (.F rfl rfl) (.cons (.F rfl rfl) .nil)))) (.cons rfl (.cells _ _ _ _ (.cons (.clean _ _ (cleanSL _) rfl) (.cons (.ofRow (by decide) rfl rfl) .nil))) (blksO.row rfl rfl (cleanGC _) (blksO.grown rfl ((by rw [iL, List.map_append]; exact List.flatMap_append)) (cleanIC _) .nil)))))) (.cons rfl (.P rfl) (.cons rfl (.P rfl) (.cons rfl (.P rfl) (.cons rfl (.P rfl) (.cons rfl (.clean _ _ (cleanBL _) rfl) (.cons rfl .I (.cons rfl (.clean _ _ (cleanT6s _) rfl) (.cons rfl (.grown (by decide) rfl (by simp [iL]) (by simp [iL]) (by simp [iL])) (.cons rfl (.clean _ _ (cleanI _) (congrArg (Value.int .i64) (z3w.symm))) .nil))))))))))
  · have zb := U.lt_yes encDcs_map pre (d) rest; have zc := U.blt_yes encDcs_map pre (d) rest; have zn := U.nth_at encDcs_map pre (d) rest; have zw := U.len_snoc (pre := pre) (x := d) (post := rest) ((Nat.le_trans (show _ ≤ 300 from fd) (by decide)))
    obtain ⟨k1, nm1, lo1, hi1, sz1, ps1, bd1, ln1, cl1⟩ := d
    have kb := cleanT6s bd1
    have kp := cleanSL ps1
    have hpl : pre.length < 300 := by simp at fd; omega
    have hlN : (namesD pre).length ≤ pre.length := by rw [namesD, List.length_map]; exact List.length_filter_le ..
    have hlB : (bodsD pre).length = (namesD pre).length := by rw [namesD, bodsD, List.length_map, List.length_map]
    have e1 : namesD (pre ++ [⟨k1, nm1, lo1, hi1, sz1, ps1, bd1, ln1, cl1⟩]) = namesD pre ++ (if k1 = 4 then [nm1] else []) := by
      rw [namesD, procDs_snoc, List.map_append, ← namesD]
      dsimp only
      split <;> rfl
    have e2 : bodsD (pre ++ [⟨k1, nm1, lo1, hi1, sz1, ps1, bd1, ln1, cl1⟩]) = bodsD pre ++ (if k1 = 4 then [bd1] else []) := by
      rw [bodsD, procDs_snoc, List.map_append, ← bodsD]
      dsimp only
      split <;> rfl
    obtain ⟨ns, hns⟩ : ∃ ns, ns = namesD pre := ⟨_, rfl⟩
    obtain ⟨bs, hbs⟩ : ∃ bs, bs = bodsD pre := ⟨_, rfl⟩
    rw [← hns] at e1 hlN hlB ⊢
    rw [← hbs] at e2 hlB ⊢
    clear hns hbs
    by_cases hk : k1 = 4
    · have g4 : (k1 == 4) = true := by simpa using hk
      rw [if_pos hk] at e1 e2
      rcases ns with _ | ⟨n0, ns⟩
      · obtain rfl : bs = [] := List.eq_nil_of_length_eq_zero hlB
        (repeat' ((conv => whnf); first | refine goD ?_ | refine U.drawX_p (D := U.propX) 9 [] (by decide +kernel) (by decide +kernel) ?_ | refine U.lw_c (fun hb => ?_) (fun hb => ?_)))
        (conv => whnf)
        refine ⟨(pre ++ [⟨k1, nm1, lo1, hi1, sz1, ps1, bd1, ln1, cl1⟩], rest), by simp, by simp, ?_⟩
        dsimp only
        rw [e1, e2]
        exact (Cov.renO (fun k => if k = 4 then 7 else if k = 5 then 9 else k) rfl rfl (Nat.le_of_ble_eq_true rfl) (Nat.zero_le _) (fun k hk => by have : k < 4 := hk; rw [if_neg (by omega)]; rw [if_neg (by omega)]) rfl (fun k hk => absurd hk (Nat.not_lt_zero k)) (.cons rfl (.row _ _ _ _ (cleanPr_cells ⟨_, mn⟩) rfl) (.cons rfl (.cells _ _ _ _ (.cons (.F rfl rfl) (.cons (.F rfl rfl) .nil))) (.cons rfl (.cells _ _ _ _ (.cons (.F rfl rfl) (.cons (.F rfl rfl) (.cons (.F rfl rfl) .nil)))) (.cons rfl (.cells _ _ _ _ (.cons (.grown (by decide) rfl (by simp [sL]) (by simp [sL]) (by simp [sL])) (.cons (.F rfl rfl) .nil))) (blksO.grown rfl rfl (cleanSC _) (blksO.grown rfl rfl (cleanBC _) .nil)))))) (.cons rfl (.P rfl) (.cons rfl (.P rfl) (.cons rfl (.P rfl) (.cons rfl (.P rfl) (.cons rfl (.grown (by decide) rfl (by simp [bL]) (by simp [bL]) (by simp [bL])) (.cons rfl (.clean _ _ (cleanI _) (congrArg (Value.int .i64) (zw.symm))) .nil)))))))
      · obtain ⟨b0, bs, rfl⟩ : ∃ b0 bs1, bs = b0 :: bs1 := by
          cases bs with
          | nil => cases hlB
          | cons b0 bs => exact ⟨b0, bs, rfl⟩
        have hgr : (cellsAll (Value.string n0 :: List.map Value.string ns)).length = ((List.map Value.string ns).length + 1) * 1 := by
          rw [show Value.string n0 :: List.map Value.string ns = sL (n0 :: ns) from rfl, cellsS, sL_len, List.length_map]
          simp
        have hg1 : (List.map Value.string ns).length + 1 + (0 + 1) ≤ 100000 := by rw [List.length_map]; simp at hlN; omega
        have hgr2 : (cellsAll (imS (encTs b0) :: List.map (fun b => imS (encTs b)) bs)).length = ((List.map (fun b => imS (encTs b)) bs).length + 1) * 1 := by
          rw [show imS (encTs b0) :: List.map (fun b => imS (encTs b)) bs = bL (b0 :: bs) from rfl, cellsB, bL, List.length_map, List.length_map]
          simp
        have hg2 : (List.map (fun b => imS (encTs b)) bs).length + 1 + (0 + 1) ≤ 100000 := by rw [List.length_map]; simp at hlN hlB; omega
        (repeat' ((conv => whnf); first | refine goA ?_ | (rw [U.ble_f ((List.map Value.string ns).length + 1)]; dsimp only; refine U.growRow_p hgr rfl ?_) | refine U.ob_c (grow_ok (by decide +kernel) hg1) ?_ | (rw [U.ble_f ((List.map (fun b => imS (encTs b)) bs).length + 1)]; dsimp only; refine U.growRow_p hgr2 rfl ?_) | refine U.ob_c (grow_ok (by decide +kernel) hg2) ?_ | refine goB ?_ | refine U.drawX_p (D := U.propX) 9 [] (by decide +kernel) (by decide +kernel) ?_ | refine U.lw_c (fun hb => ?_) (fun hb => ?_)))
        (conv => whnf)
        refine ⟨(pre ++ [⟨k1, nm1, lo1, hi1, sz1, ps1, bd1, ln1, cl1⟩], rest), by simp, by simp, ?_⟩
        dsimp only
        rw [e1, e2]
        exact (Cov.renO (fun k => if k = 4 then 7 else if k = 5 then 9 else k) rfl rfl (Nat.le_of_ble_eq_true rfl) (Nat.zero_le _) (fun k hk => by have : k < 4 := hk; rw [if_neg (by omega)]; rw [if_neg (by omega)]) rfl (fun k hk => absurd hk (Nat.not_lt_zero k)) (.cons rfl (.row _ _ _ _ (cleanPr_cells ⟨_, mn⟩) rfl) (.cons rfl (.cells _ _ _ _ (.cons (.F rfl rfl) (.cons (.F rfl rfl) .nil))) (.cons rfl (.cells _ _ _ _ (.cons (.F rfl rfl) (.cons (.F rfl rfl) (.cons (.F rfl rfl) .nil)))) (.cons rfl (.cells _ _ _ _ (.cons (.grown (by decide) rfl (by simp [sL]) (by simp [sL]) (by simp [sL])) (.cons (.F rfl rfl) .nil))) (blksO.grown rfl ((by rw [sL, List.map_append]; exact List.flatMap_append)) (cleanSC _) (blksO.grown rfl ((by rw [bL, List.map_append]; exact List.flatMap_append)) (cleanBC _) .nil)))))) (.cons rfl (.P rfl) (.cons rfl (.P rfl) (.cons rfl (.P rfl) (.cons rfl (.P rfl) (.cons rfl (.grown (by decide) rfl (by simp [bL]) (by simp [bL]) (by simp [bL])) (.cons rfl (.clean _ _ (cleanI _) (congrArg (Value.int .i64) (zw.symm))) .nil)))))))
    · have g4 : (k1 == 4) = false := by simpa using hk
      rw [if_neg hk, List.append_nil] at e1 e2
      (repeat' ((conv => whnf); first | refine goD ?_ | refine U.lw_c (fun hb => ?_) (fun hb => ?_)))
      (conv => whnf)
      refine ⟨(pre ++ [⟨k1, nm1, lo1, hi1, sz1, ps1, bd1, ln1, cl1⟩], rest), by simp, by simp, ?_⟩
      dsimp only
      rw [e1, e2]
      exact (Cov.renI rfl rfl rfl rfl (.cons rfl (.row _ _ _ _ (cleanPr_cells ⟨_, mn⟩) rfl) (.cons rfl (.cells _ _ _ _ (.cons (.F rfl rfl) (.cons (.F rfl rfl) .nil))) (.cons rfl (.cells _ _ _ _ (.cons (.F rfl rfl) (.cons (.F rfl rfl) (.cons (.F rfl rfl) .nil)))) (.cons rfl (.cells _ _ _ _ (.cons (.ofRow (by decide) rfl rfl) (.cons (.F rfl rfl) .nil))) (blksO.row rfl rfl (cleanSC _) (blksO.row rfl rfl (cleanBC _) .nil)))))) (.cons rfl (.P rfl) (.cons rfl (.P rfl) (.cons rfl (.P rfl) (.cons rfl (.P rfl) (.cons rfl (.ofRow (by decide) rfl rfl) (.cons rfl (.clean _ _ (cleanI _) (congrArg (Value.int .i64) (zw.symm))) .nil)))))))
end Go.Proofs.Ytphbcejnnoijfaa
