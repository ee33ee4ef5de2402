/- The reference's comparison of statements with themselves. -/
import Derived.Test.YthbhnbnlbhpooaaTG
namespace Go.Proofs.Ythbhnbnlbhpooaa
open Go Go.RowKit Go.Sort U
set_option linter.unusedVariables false
set_option linter.unusedSimpArgs false
set_option maxRecDepth 100000
set_option maxHeartbeats 4000000
theorem SameStmts_all : ∀ (N : Nat) (l : List St), szSs l ≤ N → szSs l ≤ 1000 → DenU Try.prog [] 11 [imS (encSs l), imS (encSs l)] (.bool true)
  | 0, l, h, hn => SameStmts_d l hn fun k a xs th el no hm => by
    have := szSs_mem hm
    rw [szS] at this
    omega
  | N + 1, l, h, hn => SameStmts_d l hn fun k a xs th el no hm => by
    have h1 := szSs_mem hm
    rw [szS] at h1
    exact ⟨fun e he => SameExpr_all 1000 e (by have := szEs_mem he; omega) (Nat.le_refl _), SameStmts_all N th (by omega) (by omega), SameStmts_all N el (by omega) (by omega)⟩
end Go.Proofs.Ythbhnbnlbhpooaa
