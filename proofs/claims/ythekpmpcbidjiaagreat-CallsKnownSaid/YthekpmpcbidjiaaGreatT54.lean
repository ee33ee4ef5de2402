
import Derived.Test.YthekpmpcbidjiaaGreatT49
import Derived.Test.YthekpmpcbidjiaaGreatT50
import Derived.Test.YthekpmpcbidjiaaGreatT51
import Derived.Test.YthekpmpcbidjiaaGreatT52
import Derived.Test.YthekpmpcbidjiaaGreatT53
namespace Go.Proofs.YthekpmpcbidjiaaGreat
open Go Go.RowKit Go.Sort U
set_option linter.unusedVariables false
set_option linter.unusedSimpArgs false
set_option maxRecDepth 100000
set_option maxHeartbeats 4000000
theorem kO (g : Gz) (hg : g.st.length ≤ maxI ∧ ∀ r ∈ g.st, r.length ≤ maxI) (node : Int) : DenU Tryz.prog [] 4 [encG g, .int .i64 node] (.bool true) := order_walk g node hg works_d fun hf => ccallees_d g node ⟨by have := (few_bounds hf).1; omega, hg⟩ fun r hr => Nat.le_trans ((few_bounds hf).2.2.1 r hr) (by omega)
theorem kR (g : Gz) (hg : g.st.length ≤ maxI ∧ ∀ r ∈ g.st, r.length ≤ maxI) : DenU Tryz.prog [] 5 [encG g] (.bool true) := rings_d g hg works_d
theorem kS (g : Gz) (own nest : List Int) (ats : List (List Int)) (hg : g.st.length ≤ maxI ∧ ∀ r ∈ g.st, r.length ≤ maxI) (h : (own.length ≤ 100 ∧ okU own) ∧ nest.length ≤ 100 ∧ ats.length ≤ 100 ∧ ∀ r ∈ ats, r.length ≤ 100) : DenU Tryz.prog [] 6 [encG g, imS (uL own), imS (iL nest), imS (gL ats)] (.bool true) :=
  sums_d g own nest ats hg (by unfold maxI; omega) h.1.2 (by unfold maxI; omega) (by unfold maxI; omega) (fun r hr => by have := h.2.2.2 r hr; unfold maxI; omega) works_d
def nm4 : List ByteArray := [⟨#[97]⟩, ⟨#[98]⟩, ⟨#[99]⟩, ⟨#[100]⟩]
theorem frzG {s : AS} {rows : List (List Int)} (hlo : s.lo = 0) (h0 : Tr.at (pt 0) s.heap = some (.cells 9 (sL nm4) false)) (h2 : Tr.at (pt 2) s.heap = rowO 26 (rows.map frz1)) : FrzV Tryz.prog s (.agg ⟨[.slice (some ⟨0, 0, none⟩) 4 4, rowS 2 (rows.map frz1)]⟩) (encG ⟨nm4, rows⟩) := by
  refine .aggL (.cons (.rowL (k := 0) (by omega) h0 rfl sL_1 rfl (Nat.le_refl _) (cleanSC _)) (.cons ?_ .nil))
  rcases rows with _ | ⟨y, ys⟩
  · exact .nil
  · refine FrzV.row 2 _ _ 1 26 (cellsAll ((y :: ys).map frz1)) (gL (y :: ys)) true (by omega) h2 gL_1 (by simp [gL]) (Nat.le_refl _) (by rw [cellsG, cellsF, gL_len, List.length_map]; exact Nat.le_refl _) fun i u v hu hv => ?_
    rw [cellsF, List.getElem?_map, Option.map_eq_some_iff] at hu
    rw [cellsG, gL, List.getElem?_map, Option.map_eq_some_iff] at hv
    obtain ⟨r, hr1, rfl⟩ := hu
    obtain ⟨r', hr2, rfl⟩ := hv
    rw [hr1] at hr2
    cases hr2
    cases r with
    | nil => exact .nil
    | cons b r => exact .clean _ (cleanIL _)
theorem slV_rowI (b : Nat) (l : List Int) : slV b l = rowS b (iL l) := by
  cases l with
  | nil => rfl
  | cons x l => simp [slV, rowS, iL]
def oddG : List Gz := [⟨[], []⟩, ⟨[⟨#[97]⟩], []⟩, ⟨[], [[]]⟩, ⟨[⟨#[97]⟩], [[1], []]⟩, ⟨[⟨#[97]⟩], [[], [-1]]⟩, ⟨[⟨#[97]⟩], [[0], []]⟩, ⟨[⟨#[97]⟩, ⟨#[98]⟩, ⟨#[99]⟩, ⟨#[100]⟩, ⟨#[101]⟩, ⟨#[102]⟩], [[1, 1, 1, 1, 1, 1, 1, 1], [2, 2, 2, 2, 2, 2, 2, 2], [3, 3, 3, 3, 3, 3, 3, 3], [4, 4, 4, 4, 4, 4, 4, 4], [5, 5, 5, 5, 5, 5, 5, 5], [], [0]]⟩]
theorem oddG_ok : ∀ g ∈ oddG, g.st.length ≤ maxI ∧ ∀ r ∈ g.st, r.length ≤ maxI := by
  intro g hg
  simp only [oddG, List.mem_cons, List.not_mem_nil, or_false] at hg
  rcases hg with rfl | rfl | rfl | rfl | rfl | rfl | rfl <;> refine ⟨Nat.le_of_ble_eq_true rfl, fun r hr => ?_⟩ <;> simp only [List.mem_cons, List.not_mem_nil, or_false] at hr
  all_goals (first | exact hr.elim | (rcases hr with rfl | rfl | rfl | rfl | rfl | rfl | rfl <;> exact Nat.le_of_ble_eq_true rfl) | (rcases hr with rfl | rfl <;> exact Nat.le_of_ble_eq_true rfl) | (subst hr; exact Nat.le_of_ble_eq_true rfl))
theorem oddA : (([1, 2] : List Int).length ≤ 100 ∧ okU [1, 2]) ∧ ([1, 2] : List Int).length ≤ 100 ∧ ([[], []] : List (List Int)).length ≤ 100 ∧ ∀ r ∈ ([[], []] : List (List Int)), r.length ≤ 100 := by
  refine ⟨⟨by simp, fun x hx => ?_⟩, by simp, by simp, fun r hr => ?_⟩
  · simp only [List.mem_cons, List.not_mem_nil, or_false] at hx
    rcases hx with rfl | rfl <;> simp [maxU]
  · simp only [List.mem_cons, List.not_mem_nil, or_false] at hr
    rcases hr with rfl | rfl <;> simp
theorem oddB : (([1, 1, 1, 1, 1, 4611686018427387904, 1] : List Int).length ≤ 100 ∧ okU [1, 1, 1, 1, 1, 4611686018427387904, 1]) ∧ ([] : List Int).length ≤ 100 ∧ ([] : List (List Int)).length ≤ 100 ∧ ∀ r ∈ ([] : List (List Int)), r.length ≤ 100 := by
  refine ⟨⟨by simp, fun x hx => ?_⟩, by simp, by simp, fun r hr => by cases hr⟩
  simp only [List.mem_cons, List.not_mem_nil, or_false] at hx
  rcases hx with rfl | rfl | rfl | rfl | rfl | rfl | rfl <;> simp [maxU]
def oddS : AS := ⟨mkO [(0, some (.cells 9 (sL [⟨#[97]⟩, ⟨#[98]⟩, ⟨#[99]⟩, ⟨#[100]⟩, ⟨#[101]⟩, ⟨#[102]⟩]) false)), (1, some (.cells 3 (iL [1, 1, 1, 1, 1, 1, 1, 1]) false)), (2, some (.cells 3 (iL [2, 2, 2, 2, 2, 2, 2, 2]) false)), (3, some (.cells 3 (iL [3, 3, 3, 3, 3, 3, 3, 3]) false)), (4, some (.cells 3 (iL [4, 4, 4, 4, 4, 4, 4, 4]) false)), (5, some (.cells 3 (iL [5, 5, 5, 5, 5, 5, 5, 5]) false)), (6, some (.cells 3 (iL [0]) false)), (7, some (.cells 26 [.slice (some ⟨1, 0, none⟩) 8 8, .slice (some ⟨2, 0, none⟩) 8 8, .slice (some ⟨3, 0, none⟩) 8 8, .slice (some ⟨4, 0, none⟩) 8 8, .slice (some ⟨5, 0, none⟩) 8 8, .slice none 0 0, .slice (some ⟨6, 0, none⟩) 1 1] false)), (8, some (.cells 25 [.slice (some ⟨0, 0, none⟩) 6 6, .slice (some ⟨7, 0, none⟩) 7 7] false)), (9, some (.cells 9 (sL [⟨#[97]⟩]) false)), (10, some (.cells 26 [.slice none 0 0] false)), (11, some (.cells 9 (sL [⟨#[97]⟩]) false)), (12, some (.cells 3 (iL [1]) false)), (13, some (.cells 26 [.slice (some ⟨12, 0, none⟩) 1 1, .slice none 0 0] false)), (14, some (.cells 9 (sL [⟨#[97]⟩]) false)), (15, some (.cells 3 (iL [-1]) false)), (16, some (.cells 26 [.slice none 0 0, .slice (some ⟨15, 0, none⟩) 1 1] false)), (17, some (.cells 9 (sL [⟨#[97]⟩]) false)), (18, some (.cells 3 (iL [0]) false)), (19, some (.cells 26 [.slice (some ⟨18, 0, none⟩) 1 1, .slice none 0 0] false)), (20, some (.cells 25 [.slice none 0 0, .slice none 0 0, .slice (some ⟨9, 0, none⟩) 1 1, .slice none 0 0, .slice none 0 0, .slice (some ⟨10, 0, none⟩) 1 1, .slice (some ⟨11, 0, none⟩) 1 1, .slice (some ⟨13, 0, none⟩) 2 2, .slice (some ⟨14, 0, none⟩) 1 1, .slice (some ⟨16, 0, none⟩) 2 2, .slice (some ⟨17, 0, none⟩) 1 1, .slice (some ⟨19, 0, none⟩) 2 2, .slice (some ⟨0, 0, none⟩) 6 6, .slice (some ⟨7, 0, none⟩) 7 7] false))], 21, 0, 0⟩
theorem known_d : DenU Tryz.prog [] 3 [] (.bool true) := by
  refine denU_of_sound hmixU fun Ts => SoundAt.body hmixU Tryz.func3 rfl rfl rfl 0 ?_
  (repeat' ((conv => whnf); first | refine goD ?_ | refine U.lw_c (fun hb => ?_) (fun hb => ?_)))
  (conv => whnf)
  refine loop_inv (α := Nat) (fun n => n ≤ 300) (fun n => (mkF [(0, .bool false), (1, .int .i64 n)], ⟨.e, 0, 0, 0⟩)) (fun n => 300 - n) 0 (by decide) (Cov.renI rfl rfl rfl rfl .nil (.cons rfl (.F rfl rfl) (.cons rfl .I .nil))) ?_
  rintro n hn
  dsimp only
  rcases Nat.lt_or_ge n 300 with hnl | hnl
  · have g0 : decide ((n : Int) < 300) = true := decide_eq_true (by omega)
    have nw := wadd1 (i := n) (by omega)
    (repeat' ((conv => whnf); first | refine goD ?_ | refine U.lw_c (fun hb => ?_) (fun hb => ?_)))
    (conv => whnf)
    refine loop_inv (α := List (List Int) × Int) (fun x => x.1.length ≤ 5 ∧ ∀ r ∈ x.1, r.length ≤ 10) (fun x => (mkF [(0, .bool false), (1, .int .i64 n), (2, .pointer (some ⟨1, 0, none⟩)), (3, .int .i64 x.2), (4, .int .i64 x.1.length)], ⟨mkO [(0, some (.cells 9 (sL nm4) false)), (1, some (.cells 25 [.slice (some ⟨0, 0, none⟩) 4 4, rowS 2 (x.1.map frz1)] false)), (2, rowO 26 (x.1.map frz1))], 3, 0, 0⟩)) (fun x => 5 - x.1.length) ([], (n : Int)) ⟨by simp, by simp⟩ (Cov.renI rfl rfl rfl rfl (.cons rfl (.row _ _ _ _ ((fun x hx => cleanSC nm4 x (by rw [cellsS]; exact hx))) rfl) (.cons rfl (.cells _ _ _ _ (.cons (.S rfl rfl rfl) (.cons (.F rfl rfl) .nil))) (.none .nil))) (.cons rfl (.F rfl rfl) (.cons rfl .I (.cons rfl (.P rfl) (.cons rfl .I (.cons rfl .I .nil)))))) ?_
    rintro ⟨rows, k⟩ ⟨q1, q2⟩
    dsimp only at q1 q2
    dsimp only
    rcases Nat.lt_or_ge rows.length 5 with hr5 | hr5
    · have g1 : decide ((rows.length : Int) < 5) = true := decide_eq_true (by omega)
      have iw := wadd1 (i := rows.length) (by omega)
      (repeat' ((conv => whnf); first | refine goD ?_ | refine U.lw_c (fun hb => ?_) (fun hb => ?_)))
      (conv => whnf)
      have hk3 : k.tmod 3 ≤ 2 := by
        have := Int.tmod_lt_of_pos k (b := 3) (by decide)
        omega
      refine loop_inv (α := List Int × Int) (fun y => (y.1.length : Int) + y.2 ≤ 2 ∧ (y.1 = [] ∨ 0 ≤ y.2)) (fun y => (mkF [(0, .bool false), (1, .int .i64 n), (2, .pointer (some ⟨1, 0, none⟩)), (3, .int .i64 k), (4, .int .i64 rows.length), (5, slV 3 y.1), (6, .int .i64 y.2)], ⟨mkO [(0, some (.cells 9 (sL nm4) false)), (1, some (.cells 25 [.slice (some ⟨0, 0, none⟩) 4 4, rowS 2 (rows.map frz1)] false)), (2, rowO 26 (rows.map frz1)), (3, rowO 3 (iL y.1))], 4, 0, 0⟩)) (fun y => y.2.toNat) ([], k.tmod 3) ⟨by simpa using hk3, .inl rfl⟩ (Cov.renI rfl rfl rfl rfl (.cons rfl (.row _ _ _ _ ((fun x hx => cleanSC nm4 x (by rw [cellsS]; exact hx))) rfl) (.cons rfl (.cells _ _ _ _ (.cons (.sl _ _ _ _ _ _ _ (by decide) rfl rfl rfl) (.cons (.ofRow (by decide) rfl rfl) .nil))) (blksO.row rfl rfl (cleanFC _) (.none .nil)))) (.cons rfl (.F rfl rfl) (.cons rfl .I (.cons rfl (.P rfl) (.cons rfl .I (.cons rfl .I (.cons rfl (.F rfl rfl) (.cons rfl .I .nil)))))))) ?_
      rintro ⟨l, m⟩ ⟨r1, r2⟩
      dsimp only at r1 r2
      dsimp only
      by_cases hm : m > 0
      · have g2 : decide (m > 0) = true := decide_eq_true hm
        have mw : IntKind.i64.wrap (m - 1) = m - 1 := by rw [IntKind.wrap_i64]; omega
        have hl2 : l.length ≤ 2 := by omega
        rcases l with _ | ⟨y, ys⟩
        · (repeat' ((conv => whnf); first | refine goA ?_ | refine U.catC_p ?_ | refine goB ?_ | refine U.lw_c (fun hb => ?_) (fun hb => ?_)))
          (conv => whnf)
          refine ⟨([] ++ [(IntKind.i64.wrap (IntKind.i64.wrap (k.tdiv 3) + IntKind.i64.wrap (m * (rows.length : Int)))).tmod 4], m - 1), ⟨by simp; omega, .inr (by omega)⟩, by dsimp only; omega, ?_⟩
          exact (Cov.renO (fun k => if k = 3 then 5 else k) rfl rfl (Nat.le_of_ble_eq_true rfl) (Nat.zero_le _) (fun k hk => by have : k < 3 := hk; rw [if_neg (by omega)]) rfl (fun k hk => absurd hk (Nat.not_lt_zero k)) (.cons rfl (.row _ _ _ _ ((fun x hx => cleanSC nm4 x (by rw [cellsS]; exact hx))) rfl) (.cons rfl (.cells _ _ _ _ (.cons (.sl _ _ _ _ _ _ _ (by decide) rfl rfl rfl) (.cons (.ofRow (by decide) rfl rfl) .nil))) (blksO.row rfl rfl (cleanFC _) (blksO.grown rfl rfl (cleanIC _) .nil)))) (.cons rfl (.F rfl rfl) (.cons rfl .I (.cons rfl (.P rfl) (.cons rfl .I (.cons rfl .I (.cons rfl (slV_grown (by decide) rfl (by simp) rfl rfl) (.cons rfl (.clean _ _ (cleanI _) (congrArg (Value.int .i64) (mw.symm))) .nil))))))))
        · have hyl : (cellsAll (iL (y :: ys))).length = (ys.length + 1) * (0 + 1) := by rw [cellsI, iL_len]; simp
          have hys : ys.length + 1 ≤ 2 := by simpa using hl2
          have hb7 : (Nat.ble ((ys.length + 1 + (0 + 1)) * 8) 140737488355328 && Nat.ble (ys.length + 1 + (0 + 1)) 1000000) = true := by
            rw [bLe (by omega), bLe (by omega)]
            rfl
          (repeat' ((conv => whnf); first | refine goA ?_ | refine U.ob_c hb7 ?_ | (rw [ble_f]; dsimp only; refine growRow_p hyl rfl ?_) | refine goB ?_ | refine U.lw_c (fun hb => ?_) (fun hb => ?_)))
          (conv => whnf)
          have hgr : cellsAll (iL (y :: ys ++ [(IntKind.i64.wrap (IntKind.i64.wrap (k.tdiv 3) + IntKind.i64.wrap (m * (rows.length : Int)))).tmod 4])) = cellsAll (iL (y :: ys)) ++ [Value.int .i64 ((IntKind.i64.wrap (IntKind.i64.wrap (k.tdiv 3) + IntKind.i64.wrap (m * (rows.length : Int)))).tmod 4)] := by
            rw [cellsI, cellsI, iL_app]; rfl
          refine ⟨(y :: ys ++ [(IntKind.i64.wrap (IntKind.i64.wrap (k.tdiv 3) + IntKind.i64.wrap (m * (rows.length : Int)))).tmod 4], m - 1), ⟨by simp at r1 ⊢; omega, .inr (by omega)⟩, by dsimp only; omega, ?_⟩
          exact (Cov.renO (fun k => if k = 3 then 5 else k) rfl rfl (Nat.le_of_ble_eq_true rfl) (Nat.zero_le _) (fun k hk => by have : k < 3 := hk; rw [if_neg (by omega)]) rfl (fun k hk => absurd hk (Nat.not_lt_zero k)) (.cons rfl (.row _ _ _ _ ((fun x hx => cleanSC nm4 x (by rw [cellsS]; exact hx))) rfl) (.cons rfl (.cells _ _ _ _ (.cons (.sl _ _ _ _ _ _ _ (by decide) rfl rfl rfl) (.cons (.ofRow (by decide) rfl rfl) .nil))) (blksO.row rfl rfl (cleanFC _) (blksO.grown rfl (hgr) (cleanIC _) .nil)))) (.cons rfl (.F rfl rfl) (.cons rfl .I (.cons rfl (.P rfl) (.cons rfl .I (.cons rfl .I (.cons rfl (slV_grown (by decide) rfl (by simp) (by simp) (by simp)) (.cons rfl (.clean _ _ (cleanI _) (congrArg (Value.int .i64) (mw.symm))) .nil))))))))
      · have g2 : decide (m > 0) = false := decide_eq_false hm
        have hl2 : l.length ≤ 2 := by
          rcases r2 with rfl | r2
          · simp
          · omega
        rcases rows with _ | ⟨y, ys⟩
        · rcases l with _ | ⟨b, x⟩
          · (repeat' ((conv => whnf); first | refine goA ?_ | refine U.catC_p ?_ | refine goB ?_ | refine U.lw_c (fun hb => ?_) (fun hb => ?_)))
            (conv => whnf)
            refine ⟨([] ++ [[]], (IntKind.i64.wrap (IntKind.i64.wrap (IntKind.i64.wrap (k * 31) + IntKind.i64.wrap (7 * ((([] : List (List Int)).length : Nat) : Int))) + 11)).tmod 100003), ⟨by first | (simp at hr5 ⊢; done) | (simp at hr5 ⊢; omega), fun r hr => ?_⟩, by first | (simp at hr5 ⊢; done) | (simp at hr5 ⊢; omega), ?_⟩
            · rcases List.mem_append.1 hr with hr | hr
              · exact q2 r hr
              · have : r = [] := by simpa using hr
                subst this
                first | (simp at hl2 ⊢; done) | (simp at hl2 ⊢; omega)
            · exact Cov.renO (fun k => if k = 2 then 5 else k) rfl rfl (Nat.le_of_ble_eq_true rfl) (Nat.zero_le _) (fun k hk => by have : k < 2 := hk; rw [if_neg (by omega)]) rfl (fun k hk => absurd hk (Nat.not_lt_zero k)) (.cons rfl (.row _ _ _ _ (fun x hx => cleanSC nm4 x (by rw [cellsS]; exact hx)) rfl) (.cons rfl (.cells _ _ _ _ (.cons (.sl _ _ _ _ _ _ _ (by decide) rfl rfl rfl) (.cons (.grown (by decide) rfl (by simp) (by simp) (by simp)) .nil))) (blksO.grownL rfl (ren_snoc (pre := []) (x := []) (.F rfl rfl)) .nil))) (.cons rfl (.F rfl rfl) (.cons rfl .I (.cons rfl (.P rfl) (.cons rfl .I (.cons rfl (.clean _ _ (cleanI _) (congrArg (Value.int .i64) (iw.symm))) .nil)))))
          · (repeat' ((conv => whnf); first | refine goA ?_ | refine U.catC_p ?_ | refine goB ?_ | refine U.lw_c (fun hb => ?_) (fun hb => ?_)))
            (conv => whnf)
            refine ⟨([] ++ [(b :: x)], (IntKind.i64.wrap (IntKind.i64.wrap (IntKind.i64.wrap (k * 31) + IntKind.i64.wrap (7 * ((([] : List (List Int)).length : Nat) : Int))) + 11)).tmod 100003), ⟨by first | (simp at hr5 ⊢; done) | (simp at hr5 ⊢; omega), fun r hr => ?_⟩, by first | (simp at hr5 ⊢; done) | (simp at hr5 ⊢; omega), ?_⟩
            · rcases List.mem_append.1 hr with hr | hr
              · exact q2 r hr
              · have : r = (b :: x) := by simpa using hr
                subst this
                first | (simp at hl2 ⊢; done) | (simp at hl2 ⊢; omega)
            · exact Cov.frz (fun k => if k = 2 then 5 else k) 3 1 (T := 3) (ys := iL (b :: x)) rfl rfl (Nat.le_of_ble_eq_true rfl) (Nat.zero_le _) (fun k hk => by have : k < 2 := hk; rw [if_neg (by omega)]) rfl (fun k hk => absurd hk (Nat.not_lt_zero k)) (Nat.zero_le _) rfl rfl iL_1 (cleanIC _) (.cons rfl (.row _ _ _ _ (fun x hx => cleanSC nm4 x (by rw [cellsS]; exact hx)) rfl) (.cons rfl (.cells _ _ _ _ (.cons (.sl _ _ _ _ _ _ _ (by decide) rfl rfl rfl) (.cons (.grown (by decide) rfl (by simp) (by simp) (by simp)) .nil))) (blksO.grownL rfl (ren_snoc (pre := []) (x := (b :: x)) (.ext _ _ ⟨rfl, slV_rowI 3 (b :: x)⟩)) .nil))) (.cons rfl (.F rfl rfl) (.cons rfl .I (.cons rfl (.P rfl) (.cons rfl .I (.cons rfl (.clean _ _ (cleanI _) (congrArg (Value.int .i64) (iw.symm))) .nil)))))
        · rcases l with _ | ⟨b, x⟩
          · have hyl : (cellsAll ((y :: ys).map frz1)).length = ((ys.map frz1).length + 1) * (0 + 1) := by rw [cellsF]; simp
            have hb7 : (Nat.ble (((ys.map frz1).length + 1 + (0 + 1)) * 24) 140737488355328 && Nat.ble ((ys.map frz1).length + 1 + (0 + 1)) 1000000) = true := by
              simp at q1
              rw [List.length_map, bLe (by omega), bLe (by omega)]
              rfl
            (repeat' ((conv => whnf); first | refine goA ?_ | refine U.catC_p ?_ | refine U.ob_c hb7 ?_ | (rw [ble_f]; dsimp only; refine growRow_p hyl rfl ?_) | refine goB ?_ | refine U.lw_c (fun hb => ?_) (fun hb => ?_)))
            (conv => whnf)
            refine ⟨((y :: ys) ++ [[]], (IntKind.i64.wrap (IntKind.i64.wrap (IntKind.i64.wrap (k * 31) + IntKind.i64.wrap (7 * (((y :: ys).length : Nat) : Int))) + 11)).tmod 100003), ⟨by first | (simp at hr5 ⊢; done) | (simp at hr5 ⊢; omega), fun r hr => ?_⟩, by first | (simp at hr5 ⊢; done) | (simp at hr5 ⊢; omega), ?_⟩
            · rcases List.mem_append.1 hr with hr | hr
              · exact q2 r hr
              · have : r = [] := by simpa using hr
                subst this
                first | (simp at hl2 ⊢; done) | (simp at hl2 ⊢; omega)
            · exact Cov.renO (fun k => if k = 2 then 5 else k) rfl rfl (Nat.le_of_ble_eq_true rfl) (Nat.zero_le _) (fun k hk => by have : k < 2 := hk; rw [if_neg (by omega)]) rfl (fun k hk => absurd hk (Nat.not_lt_zero k)) (.cons rfl (.row _ _ _ _ (fun x hx => cleanSC nm4 x (by rw [cellsS]; exact hx)) rfl) (.cons rfl (.cells _ _ _ _ (.cons (.sl _ _ _ _ _ _ _ (by decide) rfl rfl rfl) (.cons (.grown (by decide) rfl (by simp) (by simp) (by simp)) .nil))) (blksO.grownL rfl (ren_snoc (pre := (y :: ys)) (x := []) (.F rfl rfl)) .nil))) (.cons rfl (.F rfl rfl) (.cons rfl .I (.cons rfl (.P rfl) (.cons rfl .I (.cons rfl (.clean _ _ (cleanI _) (congrArg (Value.int .i64) ((by dsimp only; rw [iw, List.length_append]; rfl)))) .nil)))))
          · have hyl : (cellsAll ((y :: ys).map frz1)).length = ((ys.map frz1).length + 1) * (0 + 1) := by rw [cellsF]; simp
            have hb7 : (Nat.ble (((ys.map frz1).length + 1 + (0 + 1)) * 24) 140737488355328 && Nat.ble ((ys.map frz1).length + 1 + (0 + 1)) 1000000) = true := by
              simp at q1
              rw [List.length_map, bLe (by omega), bLe (by omega)]
              rfl
            (repeat' ((conv => whnf); first | refine goA ?_ | refine U.catC_p ?_ | refine U.ob_c hb7 ?_ | (rw [ble_f]; dsimp only; refine growRow_p hyl rfl ?_) | refine goB ?_ | refine U.lw_c (fun hb => ?_) (fun hb => ?_)))
            (conv => whnf)
            refine ⟨((y :: ys) ++ [(b :: x)], (IntKind.i64.wrap (IntKind.i64.wrap (IntKind.i64.wrap (k * 31) + IntKind.i64.wrap (7 * (((y :: ys).length : Nat) : Int))) + 11)).tmod 100003), ⟨by first | (simp at hr5 ⊢; done) | (simp at hr5 ⊢; omega), fun r hr => ?_⟩, by first | (simp at hr5 ⊢; done) | (simp at hr5 ⊢; omega), ?_⟩
            · rcases List.mem_append.1 hr with hr | hr
              · exact q2 r hr
              · have : r = (b :: x) := by simpa using hr
                subst this
                first | (simp at hl2 ⊢; done) | (simp at hl2 ⊢; omega)
            · exact Cov.frz (fun k => if k = 2 then 5 else k) 3 1 (T := 3) (ys := iL (b :: x)) rfl rfl (Nat.le_of_ble_eq_true rfl) (Nat.zero_le _) (fun k hk => by have : k < 2 := hk; rw [if_neg (by omega)]) rfl (fun k hk => absurd hk (Nat.not_lt_zero k)) (Nat.zero_le _) rfl rfl iL_1 (cleanIC _) (.cons rfl (.row _ _ _ _ (fun x hx => cleanSC nm4 x (by rw [cellsS]; exact hx)) rfl) (.cons rfl (.cells _ _ _ _ (.cons (.sl _ _ _ _ _ _ _ (by decide) rfl rfl rfl) (.cons (.grown (by decide) rfl (by simp) (by simp) (by simp)) .nil))) (blksO.grownL rfl (ren_snoc (pre := (y :: ys)) (x := (b :: x)) (.ext _ _ ⟨rfl, slV_rowI 3 (b :: x)⟩)) .nil))) (.cons rfl (.F rfl rfl) (.cons rfl .I (.cons rfl (.P rfl) (.cons rfl .I (.cons rfl (.clean _ _ (cleanI _) (congrArg (Value.int .i64) ((by dsimp only; rw [iw, List.length_append]; rfl)))) .nil)))))
    · have g1 : decide ((rows.length : Int) < 5) = false := decide_eq_false (by omega)
      have hgr : (Gz.mk nm4 rows).st.length ≤ maxI ∧ ∀ r ∈ (Gz.mk nm4 rows).st, r.length ≤ maxI := ⟨by show rows.length ≤ maxI; unfold maxI; omega, fun r hr => by have := q2 r hr; unfold maxI; omega⟩
      have hun : 0 ≤ IntKind.u64.wrap (n : Int) ∧ IntKind.u64.wrap (n : Int) ≤ maxU := by
        have e : IntKind.u64.wrap (n : Int) = (n : Int) % 18446744073709551616 := rfl
        rw [e]; unfold maxU; omega
      have cS := kS ⟨nm4, rows⟩ [1, 2, IntKind.u64.wrap (n : Int), 18446744073709551613, 5] [(n : Int).tmod 3, 0, 2, -1, 1099511627776] [[1], [0, 2], [], [(n : Int).tmod 5], [1, 1]] hgr ⟨⟨by simp, fun x hx => by
        simp only [List.mem_cons, List.not_mem_nil, or_false] at hx
        rcases hx with rfl | rfl | rfl | rfl | rfl
        · simp [maxU]
        · simp [maxU]
        · exact hun
        · simp [maxU]
        · simp [maxU]⟩, by simp, by simp, fun r hr => by
        simp only [List.mem_cons, List.not_mem_nil, or_false] at hr
        rcases hr with rfl | rfl | rfl | rfl | rfl <;> simp⟩
      (repeat' ((conv => whnf); first | refine goA ?_ | refine .c (SoundC.uF (kO ⟨nm4, rows⟩ hgr _) rfl (.cons (frzG rfl rfl rfl) (.cons (.clean _ (cleanI _)) .nil)) ?_) | refine .c (SoundC.uF (kR ⟨nm4, rows⟩ hgr) rfl (.cons (frzG rfl rfl rfl) .nil) ?_) | refine goB ?_ | refine U.lw_c (fun hb => ?_) (fun hb => ?_)))
      (conv => whnf)
      refine .c (SoundC.uF cS rfl (.cons (frzG rfl rfl rfl) (.cons (.rowL (k := 3) (Nat.zero_le _) rfl rfl uL_1 rfl (Nat.le_refl _) (cleanUC _)) (.cons (.rowL (k := 4) (Nat.zero_le _) rfl rfl iL_1 rfl (Nat.le_refl _) (cleanIC _)) (.cons (FrzV.row 9 5 5 1 26 _ (gL [[1], [0, 2], [], [(n : Int).tmod 5], [1, 1]]) false (Nat.zero_le _) rfl gL_1 rfl (Nat.le_refl _) (Nat.le_refl _) (fun i u v hu hv => ?_)) .nil)))) ?_)
      · rcases i with _ | _ | _ | _ | _ | i
        · cases hu; cases hv
          exact .rowL (k := 5) (ys := iL [1]) (Nat.zero_le _) rfl rfl iL_1 rfl (Nat.le_refl _) (cleanIC _)
        · cases hu; cases hv
          exact .rowL (k := 6) (ys := iL [0, 2]) (Nat.zero_le _) rfl rfl iL_1 rfl (Nat.le_refl _) (cleanIC _)
        · cases hu; cases hv
          exact .nil
        · cases hu; cases hv
          exact .rowL (k := 7) (ys := iL [(n : Int).tmod 5]) (Nat.zero_le _) rfl rfl iL_1 rfl (Nat.le_refl _) (cleanIC _)
        · cases hu; cases hv
          exact .rowL (k := 8) (ys := iL [1, 1]) (Nat.zero_le _) rfl rfl iL_1 rfl (Nat.le_refl _) (cleanIC _)
        · simp at hu
      (repeat' ((conv => whnf); first | refine goD ?_ | refine U.lw_c (fun hb => ?_) (fun hb => ?_)))
      (conv => whnf)
      refine ⟨n + 1, hnl, by omega, ?_⟩
      exact (Cov.renI rfl rfl rfl rfl .nil (.cons rfl (.F rfl rfl) (.cons rfl (.clean _ _ (cleanI _) (congrArg (Value.int .i64) (nw.symm))) .nil)))
  · have g0 : decide ((n : Int) < 300) = false := decide_eq_false (by omega)
    (repeat' ((conv => whnf); first | refine goD ?_ | refine U.lw_c (fun hb => ?_) (fun hb => ?_)))
    (conv => whnf)
    refine loop_inv (α := Nat) (fun i => i ≤ 7) (fun i => (mkF [(0, .bool false), (8, .slice (some ⟨20, 0, none⟩) 7 7), (9, .int .i64 i)], oddS)) (fun i => 7 - i) 0 (by decide) (Cov.renI rfl rfl rfl rfl (.cons rfl (.row _ _ _ _ ((fun x hx => cleanSC _ x (by rw [cellsS]; exact hx))) rfl) (.cons rfl (.row _ _ _ _ (cleanIl0 _) rfl) (.cons rfl (.row _ _ _ _ (cleanIl0 _) rfl) (.cons rfl (.row _ _ _ _ (cleanIl0 _) rfl) (.cons rfl (.row _ _ _ _ (cleanIl0 _) rfl) (.cons rfl (.row _ _ _ _ (cleanIl0 _) rfl) (.cons rfl (.row _ _ _ _ (cleanIl0 _) rfl) (.cons rfl (.cells _ _ _ _ (.cons (.S rfl rfl rfl) (.cons (.S rfl rfl rfl) (.cons (.S rfl rfl rfl) (.cons (.S rfl rfl rfl) (.cons (.S rfl rfl rfl) (.cons (.F rfl rfl) (.cons (.S rfl rfl rfl) .nil)))))))) (.cons rfl (.cells _ _ _ _ (.cons (.S rfl rfl rfl) (.cons (.S rfl rfl rfl) .nil))) (.cons rfl (.row _ _ _ _ ((fun x hx => cleanSC _ x (by rw [cellsS]; exact hx))) rfl) (.cons rfl (.cells _ _ _ _ (.cons (.F rfl rfl) .nil)) (.cons rfl (.row _ _ _ _ ((fun x hx => cleanSC _ x (by rw [cellsS]; exact hx))) rfl) (.cons rfl (.row _ _ _ _ (cleanIl0 _) rfl) (.cons rfl (.cells _ _ _ _ (.cons (.S rfl rfl rfl) (.cons (.F rfl rfl) .nil))) (.cons rfl (.row _ _ _ _ ((fun x hx => cleanSC _ x (by rw [cellsS]; exact hx))) rfl) (.cons rfl (.row _ _ _ _ (cleanIl0 _) rfl) (.cons rfl (.cells _ _ _ _ (.cons (.F rfl rfl) (.cons (.S rfl rfl rfl) .nil))) (.cons rfl (.row _ _ _ _ ((fun x hx => cleanSC _ x (by rw [cellsS]; exact hx))) rfl) (.cons rfl (.row _ _ _ _ (cleanIl0 _) rfl) (.cons rfl (.cells _ _ _ _ (.cons (.S rfl rfl rfl) (.cons (.F rfl rfl) .nil))) (.cons rfl (.cells _ _ _ _ (.cons (.F rfl rfl) (.cons (.F rfl rfl) (.cons (.S rfl rfl rfl) (.cons (.F rfl rfl) (.cons (.F rfl rfl) (.cons (.S rfl rfl rfl) (.cons (.S rfl rfl rfl) (.cons (.S rfl rfl rfl) (.cons (.S rfl rfl rfl) (.cons (.S rfl rfl rfl) (.cons (.S rfl rfl rfl) (.cons (.S rfl rfl rfl) (.cons (.S rfl rfl rfl) (.cons (.S rfl rfl rfl) .nil))))))))))))))) .nil))))))))))))))))))))) (.cons rfl (.F rfl rfl) (.cons rfl (.S rfl rfl rfl) (.cons rfl .I .nil)))) ?_
    rintro i hi
    dsimp only
    have hcs : i = 0 ∨ i = 1 ∨ i = 2 ∨ i = 3 ∨ i = 4 ∨ i = 5 ∨ i = 6 ∨ i = 7 := by omega
    rcases hcs with rfl | rfl | rfl | rfl | rfl | rfl | rfl | rfl
    · have hg := oddG_ok (Gz.mk [] []) (by simp [oddG])
      have c1 := kO (Gz.mk [] []) hg 0
      have c2 := kR (Gz.mk [] []) hg
      have c3 := kS (Gz.mk [] []) [1, 2] [1, 2] [[], []] hg oddA
      have c4 := kS (Gz.mk [] []) [1, 1, 1, 1, 1, 4611686018427387904, 1] [] [] hg oddB
      (repeat' ((conv => whnf); first | refine goA ?_ | refine .c (SoundC.uF c1 rfl (sameR_L (n := 6) (by rfl)) ?_) | refine .c (SoundC.uF c2 rfl (sameR_L (n := 6) (by rfl)) ?_) | refine .c (SoundC.uF c3 rfl (sameR_L (n := 6) (by rfl)) ?_) | refine .c (SoundC.uF c4 rfl (sameR_L (n := 6) (by rfl)) ?_) | refine goB ?_ | refine U.lw_c (fun hb => ?_) (fun hb => ?_)))
      (conv => whnf)
      refine ⟨1, by decide, by decide, ?_⟩
      exact (Cov.renI rfl rfl rfl rfl (.cons rfl (.row _ _ _ _ ((fun x hx => cleanSC _ x (by rw [cellsS]; exact hx))) rfl) (.cons rfl (.row _ _ _ _ (cleanIl0 _) rfl) (.cons rfl (.row _ _ _ _ (cleanIl0 _) rfl) (.cons rfl (.row _ _ _ _ (cleanIl0 _) rfl) (.cons rfl (.row _ _ _ _ (cleanIl0 _) rfl) (.cons rfl (.row _ _ _ _ (cleanIl0 _) rfl) (.cons rfl (.row _ _ _ _ (cleanIl0 _) rfl) (.cons rfl (.cells _ _ _ _ (.cons (.S rfl rfl rfl) (.cons (.S rfl rfl rfl) (.cons (.S rfl rfl rfl) (.cons (.S rfl rfl rfl) (.cons (.S rfl rfl rfl) (.cons (.F rfl rfl) (.cons (.S rfl rfl rfl) .nil)))))))) (.cons rfl (.cells _ _ _ _ (.cons (.S rfl rfl rfl) (.cons (.S rfl rfl rfl) .nil))) (.cons rfl (.row _ _ _ _ ((fun x hx => cleanSC _ x (by rw [cellsS]; exact hx))) rfl) (.cons rfl (.cells _ _ _ _ (.cons (.F rfl rfl) .nil)) (.cons rfl (.row _ _ _ _ ((fun x hx => cleanSC _ x (by rw [cellsS]; exact hx))) rfl) (.cons rfl (.row _ _ _ _ (cleanIl0 _) rfl) (.cons rfl (.cells _ _ _ _ (.cons (.S rfl rfl rfl) (.cons (.F rfl rfl) .nil))) (.cons rfl (.row _ _ _ _ ((fun x hx => cleanSC _ x (by rw [cellsS]; exact hx))) rfl) (.cons rfl (.row _ _ _ _ (cleanIl0 _) rfl) (.cons rfl (.cells _ _ _ _ (.cons (.F rfl rfl) (.cons (.S rfl rfl rfl) .nil))) (.cons rfl (.row _ _ _ _ ((fun x hx => cleanSC _ x (by rw [cellsS]; exact hx))) rfl) (.cons rfl (.row _ _ _ _ (cleanIl0 _) rfl) (.cons rfl (.cells _ _ _ _ (.cons (.S rfl rfl rfl) (.cons (.F rfl rfl) .nil))) (.cons rfl (.cells _ _ _ _ (.cons (.F rfl rfl) (.cons (.F rfl rfl) (.cons (.S rfl rfl rfl) (.cons (.F rfl rfl) (.cons (.F rfl rfl) (.cons (.S rfl rfl rfl) (.cons (.S rfl rfl rfl) (.cons (.S rfl rfl rfl) (.cons (.S rfl rfl rfl) (.cons (.S rfl rfl rfl) (.cons (.S rfl rfl rfl) (.cons (.S rfl rfl rfl) (.cons (.S rfl rfl rfl) (.cons (.S rfl rfl rfl) .nil))))))))))))))) .nil))))))))))))))))))))) (.cons rfl (.F rfl rfl) (.cons rfl (.S rfl rfl rfl) (.cons rfl .I .nil))))
    · have hg := oddG_ok (Gz.mk [⟨#[97]⟩] []) (by simp [oddG])
      have c1 := kO (Gz.mk [⟨#[97]⟩] []) hg 0
      have c2 := kR (Gz.mk [⟨#[97]⟩] []) hg
      have c3 := kS (Gz.mk [⟨#[97]⟩] []) [1, 2] [1, 2] [[], []] hg oddA
      have c4 := kS (Gz.mk [⟨#[97]⟩] []) [1, 1, 1, 1, 1, 4611686018427387904, 1] [] [] hg oddB
      (repeat' ((conv => whnf); first | refine goA ?_ | refine .c (SoundC.uF c1 rfl (sameR_L (n := 6) (by rfl)) ?_) | refine .c (SoundC.uF c2 rfl (sameR_L (n := 6) (by rfl)) ?_) | refine .c (SoundC.uF c3 rfl (sameR_L (n := 6) (by rfl)) ?_) | refine .c (SoundC.uF c4 rfl (sameR_L (n := 6) (by rfl)) ?_) | refine goB ?_ | refine U.lw_c (fun hb => ?_) (fun hb => ?_)))
      (conv => whnf)
      refine ⟨2, by decide, by decide, ?_⟩
      exact (Cov.renI rfl rfl rfl rfl (.cons rfl (.row _ _ _ _ ((fun x hx => cleanSC _ x (by rw [cellsS]; exact hx))) rfl) (.cons rfl (.row _ _ _ _ (cleanIl0 _) rfl) (.cons rfl (.row _ _ _ _ (cleanIl0 _) rfl) (.cons rfl (.row _ _ _ _ (cleanIl0 _) rfl) (.cons rfl (.row _ _ _ _ (cleanIl0 _) rfl) (.cons rfl (.row _ _ _ _ (cleanIl0 _) rfl) (.cons rfl (.row _ _ _ _ (cleanIl0 _) rfl) (.cons rfl (.cells _ _ _ _ (.cons (.S rfl rfl rfl) (.cons (.S rfl rfl rfl) (.cons (.S rfl rfl rfl) (.cons (.S rfl rfl rfl) (.cons (.S rfl rfl rfl) (.cons (.F rfl rfl) (.cons (.S rfl rfl rfl) .nil)))))))) (.cons rfl (.cells _ _ _ _ (.cons (.S rfl rfl rfl) (.cons (.S rfl rfl rfl) .nil))) (.cons rfl (.row _ _ _ _ ((fun x hx => cleanSC _ x (by rw [cellsS]; exact hx))) rfl) (.cons rfl (.cells _ _ _ _ (.cons (.F rfl rfl) .nil)) (.cons rfl (.row _ _ _ _ ((fun x hx => cleanSC _ x (by rw [cellsS]; exact hx))) rfl) (.cons rfl (.row _ _ _ _ (cleanIl0 _) rfl) (.cons rfl (.cells _ _ _ _ (.cons (.S rfl rfl rfl) (.cons (.F rfl rfl) .nil))) (.cons rfl (.row _ _ _ _ ((fun x hx => cleanSC _ x (by rw [cellsS]; exact hx))) rfl) (.cons rfl (.row _ _ _ _ (cleanIl0 _) rfl) (.cons rfl (.cells _ _ _ _ (.cons (.F rfl rfl) (.cons (.S rfl rfl rfl) .nil))) (.cons rfl (.row _ _ _ _ ((fun x hx => cleanSC _ x (by rw [cellsS]; exact hx))) rfl) (.cons rfl (.row _ _ _ _ (cleanIl0 _) rfl) (.cons rfl (.cells _ _ _ _ (.cons (.S rfl rfl rfl) (.cons (.F rfl rfl) .nil))) (.cons rfl (.cells _ _ _ _ (.cons (.F rfl rfl) (.cons (.F rfl rfl) (.cons (.S rfl rfl rfl) (.cons (.F rfl rfl) (.cons (.F rfl rfl) (.cons (.S rfl rfl rfl) (.cons (.S rfl rfl rfl) (.cons (.S rfl rfl rfl) (.cons (.S rfl rfl rfl) (.cons (.S rfl rfl rfl) (.cons (.S rfl rfl rfl) (.cons (.S rfl rfl rfl) (.cons (.S rfl rfl rfl) (.cons (.S rfl rfl rfl) .nil))))))))))))))) .nil))))))))))))))))))))) (.cons rfl (.F rfl rfl) (.cons rfl (.S rfl rfl rfl) (.cons rfl .I .nil))))
    · have hg := oddG_ok (Gz.mk [] [[]]) (by simp [oddG])
      have c1 := kO (Gz.mk [] [[]]) hg 0
      have c2 := kR (Gz.mk [] [[]]) hg
      have c3 := kS (Gz.mk [] [[]]) [1, 2] [1, 2] [[], []] hg oddA
      have c4 := kS (Gz.mk [] [[]]) [1, 1, 1, 1, 1, 4611686018427387904, 1] [] [] hg oddB
      (repeat' ((conv => whnf); first | refine goA ?_ | refine .c (SoundC.uF c1 rfl (sameR_L (n := 6) (by rfl)) ?_) | refine .c (SoundC.uF c2 rfl (sameR_L (n := 6) (by rfl)) ?_) | refine .c (SoundC.uF c3 rfl (sameR_L (n := 6) (by rfl)) ?_) | refine .c (SoundC.uF c4 rfl (sameR_L (n := 6) (by rfl)) ?_) | refine goB ?_ | refine U.lw_c (fun hb => ?_) (fun hb => ?_)))
      (conv => whnf)
      refine ⟨3, by decide, by decide, ?_⟩
      exact (Cov.renI rfl rfl rfl rfl (.cons rfl (.row _ _ _ _ ((fun x hx => cleanSC _ x (by rw [cellsS]; exact hx))) rfl) (.cons rfl (.row _ _ _ _ (cleanIl0 _) rfl) (.cons rfl (.row _ _ _ _ (cleanIl0 _) rfl) (.cons rfl (.row _ _ _ _ (cleanIl0 _) rfl) (.cons rfl (.row _ _ _ _ (cleanIl0 _) rfl) (.cons rfl (.row _ _ _ _ (cleanIl0 _) rfl) (.cons rfl (.row _ _ _ _ (cleanIl0 _) rfl) (.cons rfl (.cells _ _ _ _ (.cons (.S rfl rfl rfl) (.cons (.S rfl rfl rfl) (.cons (.S rfl rfl rfl) (.cons (.S rfl rfl rfl) (.cons (.S rfl rfl rfl) (.cons (.F rfl rfl) (.cons (.S rfl rfl rfl) .nil)))))))) (.cons rfl (.cells _ _ _ _ (.cons (.S rfl rfl rfl) (.cons (.S rfl rfl rfl) .nil))) (.cons rfl (.row _ _ _ _ ((fun x hx => cleanSC _ x (by rw [cellsS]; exact hx))) rfl) (.cons rfl (.cells _ _ _ _ (.cons (.F rfl rfl) .nil)) (.cons rfl (.row _ _ _ _ ((fun x hx => cleanSC _ x (by rw [cellsS]; exact hx))) rfl) (.cons rfl (.row _ _ _ _ (cleanIl0 _) rfl) (.cons rfl (.cells _ _ _ _ (.cons (.S rfl rfl rfl) (.cons (.F rfl rfl) .nil))) (.cons rfl (.row _ _ _ _ ((fun x hx => cleanSC _ x (by rw [cellsS]; exact hx))) rfl) (.cons rfl (.row _ _ _ _ (cleanIl0 _) rfl) (.cons rfl (.cells _ _ _ _ (.cons (.F rfl rfl) (.cons (.S rfl rfl rfl) .nil))) (.cons rfl (.row _ _ _ _ ((fun x hx => cleanSC _ x (by rw [cellsS]; exact hx))) rfl) (.cons rfl (.row _ _ _ _ (cleanIl0 _) rfl) (.cons rfl (.cells _ _ _ _ (.cons (.S rfl rfl rfl) (.cons (.F rfl rfl) .nil))) (.cons rfl (.cells _ _ _ _ (.cons (.F rfl rfl) (.cons (.F rfl rfl) (.cons (.S rfl rfl rfl) (.cons (.F rfl rfl) (.cons (.F rfl rfl) (.cons (.S rfl rfl rfl) (.cons (.S rfl rfl rfl) (.cons (.S rfl rfl rfl) (.cons (.S rfl rfl rfl) (.cons (.S rfl rfl rfl) (.cons (.S rfl rfl rfl) (.cons (.S rfl rfl rfl) (.cons (.S rfl rfl rfl) (.cons (.S rfl rfl rfl) .nil))))))))))))))) .nil))))))))))))))))))))) (.cons rfl (.F rfl rfl) (.cons rfl (.S rfl rfl rfl) (.cons rfl .I .nil))))
    · have hg := oddG_ok (Gz.mk [⟨#[97]⟩] [[1], []]) (by simp [oddG])
      have c1 := kO (Gz.mk [⟨#[97]⟩] [[1], []]) hg 0
      have c2 := kR (Gz.mk [⟨#[97]⟩] [[1], []]) hg
      have c3 := kS (Gz.mk [⟨#[97]⟩] [[1], []]) [1, 2] [1, 2] [[], []] hg oddA
      have c4 := kS (Gz.mk [⟨#[97]⟩] [[1], []]) [1, 1, 1, 1, 1, 4611686018427387904, 1] [] [] hg oddB
      (repeat' ((conv => whnf); first | refine goA ?_ | refine .c (SoundC.uF c1 rfl (sameR_L (n := 6) (by rfl)) ?_) | refine .c (SoundC.uF c2 rfl (sameR_L (n := 6) (by rfl)) ?_) | refine .c (SoundC.uF c3 rfl (sameR_L (n := 6) (by rfl)) ?_) | refine .c (SoundC.uF c4 rfl (sameR_L (n := 6) (by rfl)) ?_) | refine goB ?_ | refine U.lw_c (fun hb => ?_) (fun hb => ?_)))
      (conv => whnf)
      refine ⟨4, by decide, by decide, ?_⟩
      exact (Cov.renI rfl rfl rfl rfl (.cons rfl (.row _ _ _ _ ((fun x hx => cleanSC _ x (by rw [cellsS]; exact hx))) rfl) (.cons rfl (.row _ _ _ _ (cleanIl0 _) rfl) (.cons rfl (.row _ _ _ _ (cleanIl0 _) rfl) (.cons rfl (.row _ _ _ _ (cleanIl0 _) rfl) (.cons rfl (.row _ _ _ _ (cleanIl0 _) rfl) (.cons rfl (.row _ _ _ _ (cleanIl0 _) rfl) (.cons rfl (.row _ _ _ _ (cleanIl0 _) rfl) (.cons rfl (.cells _ _ _ _ (.cons (.S rfl rfl rfl) (.cons (.S rfl rfl rfl) (.cons (.S rfl rfl rfl) (.cons (.S rfl rfl rfl) (.cons (.S rfl rfl rfl) (.cons (.F rfl rfl) (.cons (.S rfl rfl rfl) .nil)))))))) (.cons rfl (.cells _ _ _ _ (.cons (.S rfl rfl rfl) (.cons (.S rfl rfl rfl) .nil))) (.cons rfl (.row _ _ _ _ ((fun x hx => cleanSC _ x (by rw [cellsS]; exact hx))) rfl) (.cons rfl (.cells _ _ _ _ (.cons (.F rfl rfl) .nil)) (.cons rfl (.row _ _ _ _ ((fun x hx => cleanSC _ x (by rw [cellsS]; exact hx))) rfl) (.cons rfl (.row _ _ _ _ (cleanIl0 _) rfl) (.cons rfl (.cells _ _ _ _ (.cons (.S rfl rfl rfl) (.cons (.F rfl rfl) .nil))) (.cons rfl (.row _ _ _ _ ((fun x hx => cleanSC _ x (by rw [cellsS]; exact hx))) rfl) (.cons rfl (.row _ _ _ _ (cleanIl0 _) rfl) (.cons rfl (.cells _ _ _ _ (.cons (.F rfl rfl) (.cons (.S rfl rfl rfl) .nil))) (.cons rfl (.row _ _ _ _ ((fun x hx => cleanSC _ x (by rw [cellsS]; exact hx))) rfl) (.cons rfl (.row _ _ _ _ (cleanIl0 _) rfl) (.cons rfl (.cells _ _ _ _ (.cons (.S rfl rfl rfl) (.cons (.F rfl rfl) .nil))) (.cons rfl (.cells _ _ _ _ (.cons (.F rfl rfl) (.cons (.F rfl rfl) (.cons (.S rfl rfl rfl) (.cons (.F rfl rfl) (.cons (.F rfl rfl) (.cons (.S rfl rfl rfl) (.cons (.S rfl rfl rfl) (.cons (.S rfl rfl rfl) (.cons (.S rfl rfl rfl) (.cons (.S rfl rfl rfl) (.cons (.S rfl rfl rfl) (.cons (.S rfl rfl rfl) (.cons (.S rfl rfl rfl) (.cons (.S rfl rfl rfl) .nil))))))))))))))) .nil))))))))))))))))))))) (.cons rfl (.F rfl rfl) (.cons rfl (.S rfl rfl rfl) (.cons rfl .I .nil))))
    · have hg := oddG_ok (Gz.mk [⟨#[97]⟩] [[], [-1]]) (by simp [oddG])
      have c1 := kO (Gz.mk [⟨#[97]⟩] [[], [-1]]) hg 0
      have c2 := kR (Gz.mk [⟨#[97]⟩] [[], [-1]]) hg
      have c3 := kS (Gz.mk [⟨#[97]⟩] [[], [-1]]) [1, 2] [1, 2] [[], []] hg oddA
      have c4 := kS (Gz.mk [⟨#[97]⟩] [[], [-1]]) [1, 1, 1, 1, 1, 4611686018427387904, 1] [] [] hg oddB
      (repeat' ((conv => whnf); first | refine goA ?_ | refine .c (SoundC.uF c1 rfl (sameR_L (n := 6) (by rfl)) ?_) | refine .c (SoundC.uF c2 rfl (sameR_L (n := 6) (by rfl)) ?_) | refine .c (SoundC.uF c3 rfl (sameR_L (n := 6) (by rfl)) ?_) | refine .c (SoundC.uF c4 rfl (sameR_L (n := 6) (by rfl)) ?_) | refine goB ?_ | refine U.lw_c (fun hb => ?_) (fun hb => ?_)))
      (conv => whnf)
      refine ⟨5, by decide, by decide, ?_⟩
      exact (Cov.renI rfl rfl rfl rfl (.cons rfl (.row _ _ _ _ ((fun x hx => cleanSC _ x (by rw [cellsS]; exact hx))) rfl) (.cons rfl (.row _ _ _ _ (cleanIl0 _) rfl) (.cons rfl (.row _ _ _ _ (cleanIl0 _) rfl) (.cons rfl (.row _ _ _ _ (cleanIl0 _) rfl) (.cons rfl (.row _ _ _ _ (cleanIl0 _) rfl) (.cons rfl (.row _ _ _ _ (cleanIl0 _) rfl) (.cons rfl (.row _ _ _ _ (cleanIl0 _) rfl) (.cons rfl (.cells _ _ _ _ (.cons (.S rfl rfl rfl) (.cons (.S rfl rfl rfl) (.cons (.S rfl rfl rfl) (.cons (.S rfl rfl rfl) (.cons (.S rfl rfl rfl) (.cons (.F rfl rfl) (.cons (.S rfl rfl rfl) .nil)))))))) (.cons rfl (.cells _ _ _ _ (.cons (.S rfl rfl rfl) (.cons (.S rfl rfl rfl) .nil))) (.cons rfl (.row _ _ _ _ ((fun x hx => cleanSC _ x (by rw [cellsS]; exact hx))) rfl) (.cons rfl (.cells _ _ _ _ (.cons (.F rfl rfl) .nil)) (.cons rfl (.row _ _ _ _ ((fun x hx => cleanSC _ x (by rw [cellsS]; exact hx))) rfl) (.cons rfl (.row _ _ _ _ (cleanIl0 _) rfl) (.cons rfl (.cells _ _ _ _ (.cons (.S rfl rfl rfl) (.cons (.F rfl rfl) .nil))) (.cons rfl (.row _ _ _ _ ((fun x hx => cleanSC _ x (by rw [cellsS]; exact hx))) rfl) (.cons rfl (.row _ _ _ _ (cleanIl0 _) rfl) (.cons rfl (.cells _ _ _ _ (.cons (.F rfl rfl) (.cons (.S rfl rfl rfl) .nil))) (.cons rfl (.row _ _ _ _ ((fun x hx => cleanSC _ x (by rw [cellsS]; exact hx))) rfl) (.cons rfl (.row _ _ _ _ (cleanIl0 _) rfl) (.cons rfl (.cells _ _ _ _ (.cons (.S rfl rfl rfl) (.cons (.F rfl rfl) .nil))) (.cons rfl (.cells _ _ _ _ (.cons (.F rfl rfl) (.cons (.F rfl rfl) (.cons (.S rfl rfl rfl) (.cons (.F rfl rfl) (.cons (.F rfl rfl) (.cons (.S rfl rfl rfl) (.cons (.S rfl rfl rfl) (.cons (.S rfl rfl rfl) (.cons (.S rfl rfl rfl) (.cons (.S rfl rfl rfl) (.cons (.S rfl rfl rfl) (.cons (.S rfl rfl rfl) (.cons (.S rfl rfl rfl) (.cons (.S rfl rfl rfl) .nil))))))))))))))) .nil))))))))))))))))))))) (.cons rfl (.F rfl rfl) (.cons rfl (.S rfl rfl rfl) (.cons rfl .I .nil))))
    · have hg := oddG_ok (Gz.mk [⟨#[97]⟩] [[0], []]) (by simp [oddG])
      have c1 := kO (Gz.mk [⟨#[97]⟩] [[0], []]) hg 0
      have c2 := kR (Gz.mk [⟨#[97]⟩] [[0], []]) hg
      have c3 := kS (Gz.mk [⟨#[97]⟩] [[0], []]) [1, 2] [1, 2] [[], []] hg oddA
      have c4 := kS (Gz.mk [⟨#[97]⟩] [[0], []]) [1, 1, 1, 1, 1, 4611686018427387904, 1] [] [] hg oddB
      (repeat' ((conv => whnf); first | refine goA ?_ | refine .c (SoundC.uF c1 rfl (sameR_L (n := 6) (by rfl)) ?_) | refine .c (SoundC.uF c2 rfl (sameR_L (n := 6) (by rfl)) ?_) | refine .c (SoundC.uF c3 rfl (sameR_L (n := 6) (by rfl)) ?_) | refine .c (SoundC.uF c4 rfl (sameR_L (n := 6) (by rfl)) ?_) | refine goB ?_ | refine U.lw_c (fun hb => ?_) (fun hb => ?_)))
      (conv => whnf)
      refine ⟨6, by decide, by decide, ?_⟩
      exact (Cov.renI rfl rfl rfl rfl (.cons rfl (.row _ _ _ _ ((fun x hx => cleanSC _ x (by rw [cellsS]; exact hx))) rfl) (.cons rfl (.row _ _ _ _ (cleanIl0 _) rfl) (.cons rfl (.row _ _ _ _ (cleanIl0 _) rfl) (.cons rfl (.row _ _ _ _ (cleanIl0 _) rfl) (.cons rfl (.row _ _ _ _ (cleanIl0 _) rfl) (.cons rfl (.row _ _ _ _ (cleanIl0 _) rfl) (.cons rfl (.row _ _ _ _ (cleanIl0 _) rfl) (.cons rfl (.cells _ _ _ _ (.cons (.S rfl rfl rfl) (.cons (.S rfl rfl rfl) (.cons (.S rfl rfl rfl) (.cons (.S rfl rfl rfl) (.cons (.S rfl rfl rfl) (.cons (.F rfl rfl) (.cons (.S rfl rfl rfl) .nil)))))))) (.cons rfl (.cells _ _ _ _ (.cons (.S rfl rfl rfl) (.cons (.S rfl rfl rfl) .nil))) (.cons rfl (.row _ _ _ _ ((fun x hx => cleanSC _ x (by rw [cellsS]; exact hx))) rfl) (.cons rfl (.cells _ _ _ _ (.cons (.F rfl rfl) .nil)) (.cons rfl (.row _ _ _ _ ((fun x hx => cleanSC _ x (by rw [cellsS]; exact hx))) rfl) (.cons rfl (.row _ _ _ _ (cleanIl0 _) rfl) (.cons rfl (.cells _ _ _ _ (.cons (.S rfl rfl rfl) (.cons (.F rfl rfl) .nil))) (.cons rfl (.row _ _ _ _ ((fun x hx => cleanSC _ x (by rw [cellsS]; exact hx))) rfl) (.cons rfl (.row _ _ _ _ (cleanIl0 _) rfl) (.cons rfl (.cells _ _ _ _ (.cons (.F rfl rfl) (.cons (.S rfl rfl rfl) .nil))) (.cons rfl (.row _ _ _ _ ((fun x hx => cleanSC _ x (by rw [cellsS]; exact hx))) rfl) (.cons rfl (.row _ _ _ _ (cleanIl0 _) rfl) (.cons rfl (.cells _ _ _ _ (.cons (.S rfl rfl rfl) (.cons (.F rfl rfl) .nil))) (.cons rfl (.cells _ _ _ _ (.cons (.F rfl rfl) (.cons (.F rfl rfl) (.cons (.S rfl rfl rfl) (.cons (.F rfl rfl) (.cons (.F rfl rfl) (.cons (.S rfl rfl rfl) (.cons (.S rfl rfl rfl) (.cons (.S rfl rfl rfl) (.cons (.S rfl rfl rfl) (.cons (.S rfl rfl rfl) (.cons (.S rfl rfl rfl) (.cons (.S rfl rfl rfl) (.cons (.S rfl rfl rfl) (.cons (.S rfl rfl rfl) .nil))))))))))))))) .nil))))))))))))))))))))) (.cons rfl (.F rfl rfl) (.cons rfl (.S rfl rfl rfl) (.cons rfl .I .nil))))
    · have hg := oddG_ok (Gz.mk [⟨#[97]⟩, ⟨#[98]⟩, ⟨#[99]⟩, ⟨#[100]⟩, ⟨#[101]⟩, ⟨#[102]⟩] [[1, 1, 1, 1, 1, 1, 1, 1], [2, 2, 2, 2, 2, 2, 2, 2], [3, 3, 3, 3, 3, 3, 3, 3], [4, 4, 4, 4, 4, 4, 4, 4], [5, 5, 5, 5, 5, 5, 5, 5], [], [0]]) (by simp [oddG])
      have c1 := kO (Gz.mk [⟨#[97]⟩, ⟨#[98]⟩, ⟨#[99]⟩, ⟨#[100]⟩, ⟨#[101]⟩, ⟨#[102]⟩] [[1, 1, 1, 1, 1, 1, 1, 1], [2, 2, 2, 2, 2, 2, 2, 2], [3, 3, 3, 3, 3, 3, 3, 3], [4, 4, 4, 4, 4, 4, 4, 4], [5, 5, 5, 5, 5, 5, 5, 5], [], [0]]) hg 0
      have c2 := kR (Gz.mk [⟨#[97]⟩, ⟨#[98]⟩, ⟨#[99]⟩, ⟨#[100]⟩, ⟨#[101]⟩, ⟨#[102]⟩] [[1, 1, 1, 1, 1, 1, 1, 1], [2, 2, 2, 2, 2, 2, 2, 2], [3, 3, 3, 3, 3, 3, 3, 3], [4, 4, 4, 4, 4, 4, 4, 4], [5, 5, 5, 5, 5, 5, 5, 5], [], [0]]) hg
      have c3 := kS (Gz.mk [⟨#[97]⟩, ⟨#[98]⟩, ⟨#[99]⟩, ⟨#[100]⟩, ⟨#[101]⟩, ⟨#[102]⟩] [[1, 1, 1, 1, 1, 1, 1, 1], [2, 2, 2, 2, 2, 2, 2, 2], [3, 3, 3, 3, 3, 3, 3, 3], [4, 4, 4, 4, 4, 4, 4, 4], [5, 5, 5, 5, 5, 5, 5, 5], [], [0]]) [1, 2] [1, 2] [[], []] hg oddA
      have c4 := kS (Gz.mk [⟨#[97]⟩, ⟨#[98]⟩, ⟨#[99]⟩, ⟨#[100]⟩, ⟨#[101]⟩, ⟨#[102]⟩] [[1, 1, 1, 1, 1, 1, 1, 1], [2, 2, 2, 2, 2, 2, 2, 2], [3, 3, 3, 3, 3, 3, 3, 3], [4, 4, 4, 4, 4, 4, 4, 4], [5, 5, 5, 5, 5, 5, 5, 5], [], [0]]) [1, 1, 1, 1, 1, 4611686018427387904, 1] [] [] hg oddB
      (repeat' ((conv => whnf); first | refine goA ?_ | refine .c (SoundC.uF c1 rfl (sameR_L (n := 6) (by rfl)) ?_) | refine .c (SoundC.uF c2 rfl (sameR_L (n := 6) (by rfl)) ?_) | refine .c (SoundC.uF c3 rfl (sameR_L (n := 6) (by rfl)) ?_) | refine .c (SoundC.uF c4 rfl (sameR_L (n := 6) (by rfl)) ?_) | refine goB ?_ | refine U.lw_c (fun hb => ?_) (fun hb => ?_)))
      (conv => whnf)
      refine ⟨7, by decide, by decide, ?_⟩
      exact (Cov.renI rfl rfl rfl rfl (.cons rfl (.row _ _ _ _ ((fun x hx => cleanSC _ x (by rw [cellsS]; exact hx))) rfl) (.cons rfl (.row _ _ _ _ (cleanIl0 _) rfl) (.cons rfl (.row _ _ _ _ (cleanIl0 _) rfl) (.cons rfl (.row _ _ _ _ (cleanIl0 _) rfl) (.cons rfl (.row _ _ _ _ (cleanIl0 _) rfl) (.cons rfl (.row _ _ _ _ (cleanIl0 _) rfl) (.cons rfl (.row _ _ _ _ (cleanIl0 _) rfl) (.cons rfl (.cells _ _ _ _ (.cons (.S rfl rfl rfl) (.cons (.S rfl rfl rfl) (.cons (.S rfl rfl rfl) (.cons (.S rfl rfl rfl) (.cons (.S rfl rfl rfl) (.cons (.F rfl rfl) (.cons (.S rfl rfl rfl) .nil)))))))) (.cons rfl (.cells _ _ _ _ (.cons (.S rfl rfl rfl) (.cons (.S rfl rfl rfl) .nil))) (.cons rfl (.row _ _ _ _ ((fun x hx => cleanSC _ x (by rw [cellsS]; exact hx))) rfl) (.cons rfl (.cells _ _ _ _ (.cons (.F rfl rfl) .nil)) (.cons rfl (.row _ _ _ _ ((fun x hx => cleanSC _ x (by rw [cellsS]; exact hx))) rfl) (.cons rfl (.row _ _ _ _ (cleanIl0 _) rfl) (.cons rfl (.cells _ _ _ _ (.cons (.S rfl rfl rfl) (.cons (.F rfl rfl) .nil))) (.cons rfl (.row _ _ _ _ ((fun x hx => cleanSC _ x (by rw [cellsS]; exact hx))) rfl) (.cons rfl (.row _ _ _ _ (cleanIl0 _) rfl) (.cons rfl (.cells _ _ _ _ (.cons (.F rfl rfl) (.cons (.S rfl rfl rfl) .nil))) (.cons rfl (.row _ _ _ _ ((fun x hx => cleanSC _ x (by rw [cellsS]; exact hx))) rfl) (.cons rfl (.row _ _ _ _ (cleanIl0 _) rfl) (.cons rfl (.cells _ _ _ _ (.cons (.S rfl rfl rfl) (.cons (.F rfl rfl) .nil))) (.cons rfl (.cells _ _ _ _ (.cons (.F rfl rfl) (.cons (.F rfl rfl) (.cons (.S rfl rfl rfl) (.cons (.F rfl rfl) (.cons (.F rfl rfl) (.cons (.S rfl rfl rfl) (.cons (.S rfl rfl rfl) (.cons (.S rfl rfl rfl) (.cons (.S rfl rfl rfl) (.cons (.S rfl rfl rfl) (.cons (.S rfl rfl rfl) (.cons (.S rfl rfl rfl) (.cons (.S rfl rfl rfl) (.cons (.S rfl rfl rfl) .nil))))))))))))))) .nil))))))))))))))))))))) (.cons rfl (.F rfl rfl) (.cons rfl (.S rfl rfl rfl) (.cons rfl .I .nil))))
    · (repeat' ((conv => whnf); first | refine goD ?_ | refine U.SoundAt.u (works_d) clN ?_ | refine U.SoundC.u (works_d) clN ?_ | refine U.lw_c (fun hb => ?_) (fun hb => ?_)))
      (conv => whnf)
      exact .clean _ (.flat _ rfl)
end Go.Proofs.YthekpmpcbidjiaaGreat
