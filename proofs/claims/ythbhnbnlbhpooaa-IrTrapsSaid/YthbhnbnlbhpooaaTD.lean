/- Trees of layer 13: how many parts; copies of all of them. -/
import Derived.Test.YthbhnbnlbhpooaaTC
namespace Go.Proofs.Ythbhnbnlbhpooaa
open Go Go.RowKit Go.Sort U
set_option linter.unusedVariables false
set_option linter.unusedSimpArgs false
set_option maxRecDepth 100000
set_option maxHeartbeats 4000000
mutual
def szE : Ex → Nat
  | .mk _ _ _ _ l => szEs l + 1
def szEs : List Ex → Nat
  | [] => 0
  | e :: l => szE e + szEs l
end
mutual
def szS : St → Nat
  | .mk _ _ xs th el _ => szEs xs + szSs th + szSs el + 1
def szSs : List St → Nat
  | [] => 0
  | e :: l => szS e + szSs l
end
theorem szE_pos : ∀ e : Ex, 1 ≤ szE e
  | .mk _ _ _ _ l => by rw [szE]; omega
theorem szS_pos : ∀ e : St, 1 ≤ szS e
  | .mk _ _ _ _ _ _ => by rw [szS]; omega
theorem szEs_len : ∀ l : List Ex, l.length ≤ szEs l
  | [] => Nat.zero_le _
  | e :: l => by
    rw [szEs, List.length_cons]
    have := szE_pos e
    have := szEs_len l
    omega
theorem szSs_len : ∀ l : List St, l.length ≤ szSs l
  | [] => Nat.zero_le _
  | e :: l => by
    rw [szSs, List.length_cons]
    have := szS_pos e
    have := szSs_len l
    omega
theorem szEs_mem : ∀ {l : List Ex} {e : Ex}, e ∈ l → szE e ≤ szEs l
  | [], e, h => by cases h
  | x :: l, e, h => by
    rw [szEs]
    rcases List.mem_cons.1 h with rfl | h
    · omega
    · have := szEs_mem h; omega
theorem szSs_mem : ∀ {l : List St} {e : St}, e ∈ l → szS e ≤ szSs l
  | [], e, h => by cases h
  | x :: l, e, h => by
    rw [szSs]
    rcases List.mem_cons.1 h with rfl | h
    · omega
    · have := szSs_mem h; omega
theorem IrExpr_all : ∀ (n : Nat) (e : Ex), szE e ≤ n → n ≤ 1000 → DenU Try.prog [] 10 [encE e] (encE e)
  | 0, e, h, _ => by have := szE_pos e; omega
  | n + 1, .mk k m a o l, h, hn => by
    rw [szE] at h
    have := szEs_len l
    exact IrExpr_d k m a o l (by omega) fun e he => IrExpr_all n e (by have := szEs_mem he; omega) (by omega)
theorem IrStmts_all : ∀ (n : Nat) (l : List St), szSs l ≤ n → n ≤ 1000 → DenU Try.prog [] 6 [imS (encSs l)] (imS (encSs l))
  | 0, l, h, hn => by
    have := szSs_len l
    exact IrStmts_d l (by omega) fun k a xs th el no hm => by
      have := szSs_mem hm
      rw [szS] at this
      omega
  | n + 1, l, h, hn => by
    have := szSs_len l
    refine IrStmts_d l (by omega) fun k a xs th el no hm => ?_
    have := szSs_mem hm
    rw [szS] at this
    have := szEs_len xs
    exact ⟨by omega, fun e he => IrExpr_all 1000 e (by have := szEs_mem he; omega) (Nat.le_refl _), IrStmts_all n th (by omega) (by omega), IrStmts_all n el (by omega) (by omega)⟩
end Go.Proofs.Ythbhnbnlbhpooaa
