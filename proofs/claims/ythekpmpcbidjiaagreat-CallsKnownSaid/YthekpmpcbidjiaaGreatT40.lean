
import Derived.Test.YthekpmpcbidjiaaGreatT33
namespace Go.Proofs.YthekpmpcbidjiaaGreat
open Go Go.RowKit Go.Sort U
set_option linter.unusedVariables false
set_option linter.unusedSimpArgs false
set_option maxRecDepth 100000
set_option maxHeartbeats 4000000
theorem index_e (l : List Int) (x : Int) (hl : l.length ≤ maxI) : DenE Tryz.prog 76 [imS (iL l), .int .i64 x] (fun u => ∃ i : Int, u = .int .i64 i ∧ (0 ≤ i ↔ x ∈ l)) := by
  refine denE_of_sound hmixU fun Ts => SoundAt.body hmixU Tryz.func76 rfl rfl rfl 0 ?_
  (repeat' ((conv => whnf); first | refine goD ?_ | refine U.lw_c (fun hb => ?_) (fun hb => ?_)))
  (conv => whnf)
  refine loop_inv (α := List Int × List Int) (fun y => y.1 ++ y.2 = l ∧ x ∉ y.1) (fun y => (mkF [(0, imS (iL l)), (1, .int .i64 x), (4, .int .i64 0), (7, .int .i64 (iL l).length), (8, .int .i64 y.1.length)], ⟨.e, 0, 0, 0⟩)) (fun y => y.2.length) ([], l) ⟨rfl, by simp⟩ (Cov.slots (Nat.le_refl _) ⟨rfl, rfl, rfl, rfl, rfl, trivial⟩) ?_
  rintro ⟨pre, rest⟩ ⟨p1, p2⟩
  dsimp only at p1 p2
  subst p1
  dsimp only
  rcases rest with _ | ⟨y, rest⟩
  · rw [List.append_nil] at *
    have h3b := U.lt_no iL_map pre
    (repeat' ((conv => whnf); first | refine goD ?_ | refine U.lw_c (fun hb => ?_) (fun hb => ?_)))
    (conv => whnf)
    exact ⟨.int .i64 (-1), ⟨-1, rfl, ⟨fun h => by omega, fun h => absurd h p2⟩⟩, .clean _ (cleanI _)⟩
  · obtain ⟨h3b, h3c, h3n, h3w⟩ := U.at4 iL_map pre (y) rest (hl)
    (repeat' ((conv => whnf); first | refine goD ?_ | refine U.lw_c (fun hb => ?_) (fun hb => ?_)))
    all_goals (conv => whnf)
    · have hxy : x = y := by simpa using hb
      subst hxy
      exact ⟨.int .i64 pre.length, ⟨pre.length, rfl, ⟨fun _ => by simp, fun _ => by omega⟩⟩, .clean _ (cleanI _)⟩
    · have hxy : ¬ x = y := by simpa using hb
      exact ⟨(pre ++ [y], rest), ⟨by simp, by simp [p2, hxy]⟩, by simp, Cov.slots (s := ⟨.e, 0, 0, 0⟩) (Nat.le_refl _) ⟨rfl, rfl, rfl, rfl, congrArg some (congrArg (Value.int .i64) h3w), trivial⟩⟩
theorem contains_d (l : List Int) (x : Int) (hl : l.length ≤ maxI) : DenU Tryz.prog [] 57 [imS (iL l), .int .i64 x] (.bool (decide (x ∈ l))) := by
  refine denU_of_sound hmixU fun Ts => SoundAt.body hmixU Tryz.func57 rfl rfl rfl 0 ?_
  have cI := index_e l x hl
  have cg := cleanIL l
  (repeat' ((conv => whnf); first | refine goA ?_ | refine U.SoundAt.e cI clN (fun u hq => ?_) | refine goB ?_ | refine U.lw_c (fun hb => ?_) (fun hb => ?_)))
  obtain ⟨i, rfl, hi⟩ := hq
  (repeat' ((conv => whnf); first | refine goD ?_ | refine U.lw_c (fun hb => ?_) (fun hb => ?_)))
  all_goals (conv => whnf)
  all_goals refine FrzV.same (.flat _ rfl) (congrArg Value.bool ?_)
  all_goals exact decide_eq_decide.2 hi
theorem min_e (l : List Int) (h0 : l ≠ []) (hl : l.length ≤ maxI) : DenE Tryz.prog 58 [imS (iL l)] (fun u => ∃ m : Int, u = .int .i64 m ∧ m ∈ l ∧ ∀ x ∈ l, m ≤ x) := by
  refine denE_of_sound hmixU fun Ts => SoundAt.body hmixU Tryz.func58 rfl rfl rfl 0 ?_
  rcases l with _ | ⟨a, l⟩
  · exact absurd rfl h0
  have g0 : decide (((iL (a :: l)).length : Int) < 1) = false := by rw [iL_len]; simp; omega
  have hn0 : nth (iL (a :: l)) 0 = some (.int .i64 a) := rfl
  (repeat' ((conv => whnf); first | refine goD ?_ | refine U.lw_c (fun hb => ?_) (fun hb => ?_)))
  (conv => whnf)
  refine loop_inv (α := List Int × List Int × Int) (fun y => a :: (y.1 ++ y.2.1) = a :: l ∧ y.2.2 ∈ a :: y.1 ∧ ∀ x ∈ a :: y.1, y.2.2 ≤ x) (fun y => (mkF [(0, imS (iL (a :: l))), (2, .int .i64 0), (3, .int .i64 y.2.2), (4, .int .i64 ((y.1.length + 1 : Nat) : Int))], ⟨.e, 0, 0, 0⟩)) (fun y => y.2.1.length) ([], l, a) ⟨rfl, by simp, by simp⟩ (Cov.slots (Nat.le_refl _) ⟨rfl, rfl, rfl, rfl, trivial⟩) ?_
  rintro ⟨pre, rest, m⟩ ⟨p1, p2, p3⟩
  dsimp only at p1 p2 p3
  have p1 : pre ++ rest = l := by simpa using p1
  subst p1
  dsimp only
  rcases rest with _ | ⟨y, rest⟩
  · rw [List.append_nil] at *
    have g1 : decide (((pre.length + 1 : Nat) : Int) < ((iL (a :: pre)).length : Int)) = false := by rw [iL_len]; simp
    (repeat' ((conv => whnf); first | refine goD ?_ | refine U.lw_c (fun hb => ?_) (fun hb => ?_)))
    (conv => whnf)
    exact ⟨.int .i64 m, ⟨m, rfl, p2, p3⟩, .clean _ (cleanI _)⟩
  · have hpo : (a :: pre ++ y :: rest).length ≤ maxI := by simpa using hl
    have e1 : a :: (pre ++ y :: rest) = (a :: pre) ++ y :: rest := rfl
    rw [e1]
    obtain ⟨h3b, h3c, h3n, h3w⟩ := U.at4 iL_map (a :: pre) (y) rest (hpo)
    have h4b : decide (((pre.length + 1 : Nat) : Int) < ((iL (a :: pre ++ y :: rest)).length : Int)) = true := h3b
    have h4c : (pre.length + 1).blt (iL (a :: pre ++ y :: rest)).length = true := h3c
    have h4n : nth (iL (a :: pre ++ y :: rest)) (pre.length + 1) = some (.int .i64 y) := h3n
    (repeat' ((conv => whnf); first | refine goD ?_ | refine U.lw_c (fun hb => ?_) (fun hb => ?_)))
    (conv => whnf)
    refine ⟨(pre ++ [y], rest, if y < m then y else m), ⟨by simp, ?_, fun x hx => ?_⟩, by simp, Cov.slots (s := ⟨.e, 0, 0, 0⟩) (Nat.le_refl _) ⟨rfl, rfl, rfl, congrArg some (congrArg (Value.int .i64) ?_), trivial⟩⟩
    · dsimp only
      split
      · simp
      · rcases List.mem_cons.1 p2 with h | h
        · rw [h]; simp
        · simp [h]
    · dsimp only at hx ⊢
      have hx' : x ∈ a :: pre ∨ x = y := by
        rcases List.mem_cons.1 hx with h | h
        · exact .inl (by simp [h])
        · rcases List.mem_append.1 h with h | h
          · exact .inl (by simp [h])
          · exact .inr (by simpa using h)
      rcases hx' with h | h
      · have := p3 x h
        split <;> omega
      · subst h
        split <;> omega
    · exact h3w
end Go.Proofs.YthekpmpcbidjiaaGreat
