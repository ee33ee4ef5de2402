
import Derived.Test.YthekpmpcbidjiaaS51
namespace Go.Proofs.Ythekpmpcbidjiaa
open Go Go.RowKit Go.Sort U
set_option linter.unusedVariables false
set_option linter.unusedSimpArgs false
set_option maxRecDepth 100000
set_option maxHeartbeats 4000000
theorem few_bounds {g : Gz} (h : fewB g = true) : g.nm.length ≤ 7 ∧ g.st.length ≤ 8 ∧ (∀ r ∈ g.st, r.length ≤ 12) ∧ sumL g.st ≤ 500000 := by
  simp only [fewB, Bool.and_eq_true, decide_eq_true_eq] at h
  obtain ⟨⟨h1, h2⟩, h3⟩ := h
  rw [List.take_of_length_le (by omega)] at h1
  have hr : ∀ r ∈ g.st, r.length ≤ 12 := fun r hr => of_decide_eq_true (List.all_eq_true.1 h1 r hr)
  refine ⟨h2, h3, hr, ?_⟩
  have key : ∀ l : List (List Int), (∀ r ∈ l, r.length ≤ 12) → sumL l ≤ 12 * l.length := fun l => by
    induction l with
    | nil => intro _; simp [sumL]
    | cons x l ih =>
      intro h
      have h4 := ih fun r hr => h r (by simp [hr])
      have h5 := h x (by simp)
      simp only [sumL, List.map_cons, List.sum_cons, List.length_cons] at *
      omega
  have := key g.st hr
  omega
end Go.Proofs.Ythekpmpcbidjiaa
