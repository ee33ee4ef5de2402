
import Derived.Test.YthekpmpcbidjiaaS31
namespace Go.Proofs.Ythekpmpcbidjiaa
open Go Go.RowKit Go.Sort U
set_option linter.unusedVariables false
set_option linter.unusedSimpArgs false
set_option maxRecDepth 100000
set_option maxHeartbeats 4000000
theorem iL_nth0 {L : List Int} {i : Nat} (h : i < L.length) : nth (iL L) (0 + i * 1) = some (.int .i64 (gt0 L i)) := by
  rw [Nat.zero_add, Nat.mul_one, nth_eq]
  simp [iL, gt0, h]
theorem iL_store0 {L : List Int} {i : Nat} {x : Int} (h : i < L.length) : (iL L).take (0 + i * 1) ++ [Value.int .i64 x] ++ (iL L).drop (0 + i * 1 + [Value.int .i64 x].length) = iL (L.set i x) := by
  rw [Nat.zero_add, Nat.mul_one, List.length_singleton, iL, iL, ← List.map_take, ← List.map_drop, List.set_eq_take_append_cons_drop, if_pos h]
  simp
theorem cleanIl0 (l : List Int) : ∀ x, x ∈ iL l → NoNm x := fun x hx => cleanIC l x (by rw [cellsI]; exact hx)
theorem iL_zero (n : Nat) : iL (List.replicate n 0) = repX n [.int .i64 0] := by rw [repX_one, iL]; simp
theorem gt0_set_same {L : List Int} {m : Nat} {x : Int} (h : m < L.length) : gt0 (L.set m x) m = x := by simp [gt0, h]
theorem gt0_set_ne {L : List Int} {m k : Nat} {x : Int} (hk : k ≠ m) : gt0 (L.set m x) k = gt0 L k := by
  unfold gt0
  simp only [List.getD_eq_getElem?_getD, List.getElem?_set]
  rw [if_neg (fun e => hk e.symm)]
theorem max_if (a b : Int) : max a b = if b > a then b else a := by split <;> omega
end Go.Proofs.Ythekpmpcbidjiaa
