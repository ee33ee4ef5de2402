
import Derived.Test.YtphbcejnnoijfaaKG20
import Derived.Test.YtphbcejnnoijfaaKG25
import Derived.Test.YtphbcejnnoijfaaKG32
namespace Go.Proofs.Ytphbcejnnoijfaa
open Go Go.RowKit Go.Sort U
set_option linter.unusedVariables false
set_option linter.unusedSimpArgs false
set_option maxRecDepth 100000
set_option maxHeartbeats 4000000
theorem rright_d (g : Gz) (hg : okG g) : DenU Try.prog [] 11 [encG g] (.bool (rightG g)) := by
  refine denU_of_body hmixU rfl Try.func11 rfl rfl rfl 0 ?_
  intro Ts
  obtain ⟨nm, st⟩ := g
  obtain ⟨g1, g2, g3⟩ := hg
  dsimp only at g1 g2 g3
  have hw : IntKind.i64.wrap (((sL nm).length : Int) + 1) = ((nm.length + 1 : Nat) : Int) := by rw [sL_len]; exact wadd1 (by omega)
  (repeat' ((conv => whnf); first | refine goD ?_ | refine U.lw_c (fun hb => ?_) (fun hb => ?_)))
  (conv => whnf)
  refine loop_inv (α := List (List Int) × List (List Int)) (fun x => x.1 ++ x.2 = st ∧ (x.1.all fun r => r.all (okT nm.length)) = true) (fun x => (mkF [(1, .pointer (some ⟨0, 0, none⟩)), (2, .bool false), (3, .int .i64 x.1.length)], ⟨mkO [(0, some (.cells 36 [imS (sL nm), imS (gL st)] false))], 1, 0, 0⟩)) (fun x => x.2.length) ([], st) ⟨rfl, rfl⟩ (Cov.renI rfl rfl rfl rfl (.cons rfl (.row _ _ _ _ (cleanG_cells ⟨nm, st⟩) rfl) .nil) (.cons rfl (.P rfl) (.cons rfl (.F rfl rfl) (.cons rfl .I .nil)))) ?_
  rintro ⟨pre, rest⟩ ⟨p1, p2⟩
  dsimp only at p1 p2
  subst p1
  dsimp only
  rcases rest with _ | ⟨x, rest⟩
  · rw [List.append_nil] at *
    have h3b := U.lt_no gL_map pre
    (repeat' ((conv => whnf); first | refine goD ?_ | refine U.lw_c (fun hb => ?_) (fun hb => ?_)))
    (conv => whnf)
    refine .same (.flat _ rfl) (congrArg Value.bool ?_)
    rw [hw, gL_len]
    by_cases h : pre.length = nm.length + 1
    · simp [rightG, h, p2]
    · have h' : ¬ (pre.length : Int) = (nm.length : Int) + 1 := by omega
      simp [rightG, h, h']
  · obtain ⟨h3b, h3c, h3n, h3w⟩ := U.at4 gL_map pre (x) rest (g2)
    have hx := g3 x (by simp)
    (repeat' ((conv => whnf); first | refine goD ?_ | refine U.lw_c (fun hb => ?_) (fun hb => ?_)))
    (conv => whnf)
    refine loop_inv (α := List Int × List Int) (fun y => y.1 ++ y.2 = x ∧ y.1.all (okT nm.length) = true) (fun y => (mkF [(1, .pointer (some ⟨0, 0, none⟩)), (2, .bool false), (3, .int .i64 pre.length), (4, .int .i64 y.1.length)], ⟨mkO [(0, some (.cells 36 [imS (sL nm), imS (gL (pre ++ x :: rest))] false))], 1, 0, 0⟩)) (fun y => y.2.length) ([], x) ⟨rfl, rfl⟩ (Cov.slots (Nat.le_refl _) ⟨rfl, rfl, rfl, rfl, trivial⟩) ?_
    rintro ⟨p, q⟩ ⟨p3, p4⟩
    dsimp only at p3 p4
    subst p3
    dsimp only
    rcases q with _ | ⟨t, q⟩
    · rw [List.append_nil] at *
      have h4b := U.lt_no iL_map p
      (repeat' ((conv => whnf); first | refine goD ?_ | refine U.lw_c (fun hb => ?_) (fun hb => ?_)))
      (conv => whnf)
      refine ⟨(pre ++ [p], rest), ⟨by simp, by rw [List.all_append, p2]; simp [p4]⟩, by simp, ?_⟩
      refine Cov.slots (s := ⟨mkO [(0, some (.cells 36 [imS (sL nm), imS (gL (pre ++ p :: rest))] false))], 1, 0, 0⟩) (Nat.le_refl 1) ⟨rfl, rfl, ?_, trivial⟩
      exact congrArg some (congrArg (Value.int .i64) h3w)
    · obtain ⟨h4b, h4c, h4n, h4w⟩ := U.at4 iL_map p (t) q (hx)
      (repeat' ((conv => whnf); first | refine goD ?_ | refine U.drawX_p (D := U.propX) 23 [] (by decide +kernel) (by decide +kernel) ?_ | refine U.lw_c (fun hb => ?_) (fun hb => ?_)))
      all_goals (conv => whnf)
      · have h5 : ¬ okT nm.length t = true := by simp at hb; simp [okT]; omega
        exact .same (.flat _ rfl) (congrArg Value.bool (by simp [rightG, h5]))
      · have h5 : ¬ okT nm.length t = true := by rw [sL_len] at hb; simp at hb; simp [okT]; omega
        exact .same (.flat _ rfl) (congrArg Value.bool (by simp [rightG, h5]))
      · have h5 : okT nm.length t = true := by rename_i hb0; rw [sL_len] at hb; simp at hb hb0; simp [okT]; omega
        refine ⟨(p ++ [t], q), ⟨by simp, by rw [List.all_append, p4]; simp [h5]⟩, by simp, ?_⟩
        refine Cov.slots (s := ⟨mkO [(0, some (.cells 36 [imS (sL nm), imS (gL (pre ++ (p ++ t :: q) :: rest))] false))], 1, 0, 0⟩) (Nat.le_refl 1) ⟨rfl, rfl, rfl, congrArg some (congrArg (Value.int .i64) h4w), trivial⟩
end Go.Proofs.Ytphbcejnnoijfaa
namespace Go.Proofs.Ytphbcejnnoijfaa
open Go Go.RowKit Go.Sort U
set_option linter.unusedVariables false
set_option linter.unusedSimpArgs false
end Go.Proofs.Ytphbcejnnoijfaa
namespace Go.Proofs.Ytphbcejnnoijfaa
open Go Go.RowKit Go.Sort U
set_option linter.unusedVariables false
set_option linter.unusedSimpArgs false
set_option maxRecDepth 100000
set_option maxHeartbeats 4000000
def uL (l : List Int) : List Value := l.map (Value.int .u64)
structure OrdOk (st : List (List Int)) (ord : List Int) : Prop where
  nd : ord.Nodup
  inn : ∀ t ∈ ord, ∃ v : Nat, v < st.length ∧ t = (v : Int)
  cl : ∀ (a b : List Int) (v : Nat), ord = a ++ (v : Int) :: b → ∀ t ∈ st.getD v [], t ∈ a
end Go.Proofs.Ytphbcejnnoijfaa
namespace Go.Proofs.Ytphbcejnnoijfaa
open Go Go.ChangeShapes Go.WideShapes Go.ChangeAt Go.RowKit Go.Joins U
set_option linter.unusedVariables false
set_option linter.unusedSimpArgs false
set_option maxRecDepth 100000
set_option maxHeartbeats 1000000
section
variable {H : Type} {enc : TypeId × Value → H} {W : World} {v : Value} {d : DataW H} {p : List MemPlace} {b0 base : Nat} {r : Reach} {held : Bool}
end
end Go.Proofs.Ytphbcejnnoijfaa
