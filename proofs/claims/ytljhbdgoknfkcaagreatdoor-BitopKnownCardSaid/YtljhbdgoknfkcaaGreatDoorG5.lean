/- Contracts of package word: what operators make of numbers. -/
import Derived.Test.YtljhbdgoknfkcaaGreatDoorV8
import Derived.Test.YtljhbdgoknfkcaaGreatDoorI1
namespace Go.Proofs.YtljhbdgoknfkcaaGreatDoor
open Go Go.RowKit Go.Sort
set_option linter.unusedVariables false
set_option linter.unusedSimpArgs false
set_option maxRecDepth 100000

theorem wBit_d (b : Bool) : Den Tryz.prog 95 #[.bool b] noFacts (.int .i64 (if b then 1 else 0)) := by
  refine den_of_body (args := [.bool b]) hmix Tryz.func95 ?_
  (repeat' ((conv => whnf); first | refine AdN.mk _ _ rfl ?_ | refine DrawN.a (Ob.mk (by decide +kernel) ?_) | refine DrawN.c (Ob.mk (by decide +kernel) ?_) | refine DrawN.b (Ob.mk (by decide +kernel) ?_) | refine Ob.mk (by kernel_rfl) ?_ | (refine Br.mk (fun h => ?_) (fun h => ?_) <;> (first | (exfalso; exact Bool.false_ne_true h) | (exfalso; exact Bool.false_ne_true h.symm) | skip)) | refine SeqN.go ?_)); all_goals (conv => whnf)
  all_goals (cases b <;> first | rfl | (exfalso; grind))
theorem wTruth_d (n : Int) : Den Tryz.prog 121 #[.int .i64 n] noFacts (.bool (!(n == 0))) := by
  refine den_of_body (args := [.int .i64 n]) hmix Tryz.func121 ?_
  (repeat' ((conv => whnf); first | refine AdN.mk _ _ rfl ?_ | refine DrawN.a (Ob.mk (by decide +kernel) ?_) | refine DrawN.c (Ob.mk (by decide +kernel) ?_) | refine DrawN.b (Ob.mk (by decide +kernel) ?_) | refine Ob.mk (by kernel_rfl) ?_ | (refine Br.mk (fun h => ?_) (fun h => ?_) <;> (first | (exfalso; exact Bool.false_ne_true h) | (exfalso; exact Bool.false_ne_true h.symm) | skip)) | refine SeqN.go ?_)); all_goals (conv => whnf)
  all_goals grind [retV]
theorem wTraps_d (op : Int) : Den Tryz.prog 92 #[.int .i64 op] noFacts (.bool (op == 16 || op == 17)) := by
  refine den_of_body (args := [.int .i64 op]) hmix Tryz.func92 ?_
  (repeat' ((conv => whnf); first | refine AdN.mk _ _ rfl ?_ | refine DrawN.a (Ob.mk (by decide +kernel) ?_) | refine DrawN.c (Ob.mk (by decide +kernel) ?_) | refine DrawN.b (Ob.mk (by decide +kernel) ?_) | refine Ob.mk (by kernel_rfl) ?_ | (refine Br.mk (fun h => ?_) (fun h => ?_) <;> (first | (exfalso; exact Bool.false_ne_true h) | (exfalso; exact Bool.false_ne_true h.symm) | skip)) | refine SeqN.go ?_)); all_goals (conv => whnf)
  all_goals grind [retV]
def wcmp (op a b : Int) : Bool :=
  if op = 6 then decide (b < a) else if op = 4 then decide (a < b) else if op = 7 then decide (b ≤ a) else if op = 5 then decide (a ≤ b) else if op = 3 then !(a == b) else a == b
theorem wCompare_d (op a b : Int) : Den Tryz.prog 96 #[.int .i64 op, .int .i64 a, .int .i64 b] noFacts (.bool (wcmp op a b)) := by
  refine den_of_body (args := [.int .i64 op, .int .i64 a, .int .i64 b]) hmix Tryz.func96 ?_
  (repeat' ((conv => whnf); first | refine AdN.mk _ _ rfl ?_ | refine DrawN.a (Ob.mk (by decide +kernel) ?_) | refine DrawN.c (Ob.mk (by decide +kernel) ?_) | refine DrawN.b (Ob.mk (by decide +kernel) ?_) | refine Ob.mk (by kernel_rfl) ?_ | (refine Br.mk (fun h => ?_) (fun h => ?_) <;> (first | (exfalso; exact Bool.false_ne_true h) | (exfalso; exact Bool.false_ne_true h.symm) | skip)) | refine SeqN.go ?_)); all_goals (conv => whnf)
  all_goals grind [retV, wcmp]
/-- What an operator makes of two numbers. -/
def wdo (op a b : Int) : Int :=
  if op = 0 then (if (!(a == 0) || !(b == 0)) then 1 else 0)
  else if op = 1 then (if (!(a == 0) && !(b == 0)) then 1 else 0)
  else if op = 13 then IntKind.i64.wrap (a + b)
  else if op = 14 then IntKind.i64.wrap (a - b)
  else if op = 15 then IntKind.i64.wrap (a * b)
  else if wcmp op a b then 1 else 0
theorem wDo_c (op a b : Int) (h1 : 2 ≤ op) (h2 : op ≤ 7) : Den Tryz.prog 31 #[.int .i64 op, .int .i64 a, .int .i64 b] noFacts (.tuple #[.int .i64 (wdo op a b), .bool true]) := by
  refine den_of_body (args := [.int .i64 op, .int .i64 a, .int .i64 b]) hmix Tryz.func31 ?_
  (repeat' ((conv => whnf); first | refine CallN.any _ (wCompare_d op a b) ?_ | refine CallN.any _ (wBit_d _) ?_ | refine AdN.mk _ _ rfl ?_ | refine DrawN.a (Ob.mk (by decide +kernel) ?_) | refine DrawN.c (Ob.mk (by decide +kernel) ?_) | refine DrawN.b (Ob.mk (by decide +kernel) ?_) | refine Ob.mk (by kernel_rfl) ?_ | (refine Br.mk (fun h => ?_) (fun h => ?_) <;> (first | (exfalso; exact Bool.false_ne_true h) | (exfalso; exact Bool.false_ne_true h.symm) | (exfalso; have g2 := of_decide_eq_false ‹decide (op ≤ 7) = false›; omega) | (exfalso; have g2 := of_decide_eq_false ‹decide (op ≥ 2) = false›; omega) | skip)) | refine SeqN.go ?_)); all_goals (conv => whnf)
  all_goals grind [retV, wdo]
theorem wDigits0_d : Den Tryz.prog 97 #[.int .i64 0] noFacts (.tuple #[.func (.func 189) #[] #[], .bool true]) := by
  refine den_of_body (args := [.int .i64 0]) hmix Tryz.func97 ?_
  (repeat' ((conv => whnf); first | refine AdN.mk _ _ rfl ?_ | refine DrawN.a (Ob.mk (by decide +kernel) ?_) | refine DrawN.c (Ob.mk (by decide +kernel) ?_) | refine DrawN.b (Ob.mk (by decide +kernel) ?_) | refine Ob.mk (by kernel_rfl) ?_ | (refine Br.mk (fun h => ?_) (fun h => ?_) <;> (first | (exfalso; exact Bool.false_ne_true h) | (exfalso; exact Bool.false_ne_true h.symm) | skip)) | refine SeqN.go ?_)); all_goals (conv => whnf)
  all_goals first | rfl | (exfalso; simp at *; done)
theorem wDig0_d (a b : Int) : Den Tryz.prog 189 #[.int .i64 a, .int .i64 b] noFacts (.int .i64 (wdo 0 a b)) := by
  refine den_of_body (args := [.int .i64 a, .int .i64 b]) hmix Tryz.func189 ?_
  (repeat' ((conv => whnf); first | refine CallN.any _ (wTruth_d _) ?_ | refine CallN.any _ (wBit_d _) ?_ | refine AdN.mk _ _ rfl ?_ | refine DrawN.a (Ob.mk (by decide +kernel) ?_) | refine DrawN.c (Ob.mk (by decide +kernel) ?_) | refine DrawN.b (Ob.mk (by decide +kernel) ?_) | refine Ob.mk (by kernel_rfl) ?_ | (refine Br.mk (fun h => ?_) (fun h => ?_) <;> (first | (exfalso; exact Bool.false_ne_true h) | (exfalso; exact Bool.false_ne_true h.symm) | skip)) | refine SeqN.go ?_)); all_goals (conv => whnf)
  all_goals grind [retV, wdo]
theorem wDo0_d (a b : Int) : Den Tryz.prog 31 #[.int .i64 0, .int .i64 a, .int .i64 b] noFacts (.tuple #[.int .i64 (wdo 0 a b), .bool true]) := by
  refine den_of_body (args := [.int .i64 0, .int .i64 a, .int .i64 b]) hmix Tryz.func31 ?_
  (repeat' ((conv => whnf); first | refine CallN.any _ (wTraps_d _) ?_ | refine CallN.any _ wDigits0_d ?_ | refine CallN.any _ (wDig0_d a b) ?_ | refine AdN.mk _ _ rfl ?_ | refine DrawN.a (Ob.mk (by decide +kernel) ?_) | refine DrawN.c (Ob.mk (by decide +kernel) ?_) | refine DrawN.b (Ob.mk (by decide +kernel) ?_) | refine Ob.mk (by kernel_rfl) ?_ | (refine Br.mk (fun h => ?_) (fun h => ?_) <;> (first | (exfalso; exact Bool.false_ne_true h) | (exfalso; exact Bool.false_ne_true h.symm) | skip)) | refine SeqN.go ?_)); all_goals (conv => whnf)
  all_goals first | rfl | (exfalso; simp at *; done)
theorem wDigits1_d : Den Tryz.prog 97 #[.int .i64 1] noFacts (.tuple #[.func (.func 190) #[] #[], .bool true]) := by
  refine den_of_body (args := [.int .i64 1]) hmix Tryz.func97 ?_
  (repeat' ((conv => whnf); first | refine AdN.mk _ _ rfl ?_ | refine DrawN.a (Ob.mk (by decide +kernel) ?_) | refine DrawN.c (Ob.mk (by decide +kernel) ?_) | refine DrawN.b (Ob.mk (by decide +kernel) ?_) | refine Ob.mk (by kernel_rfl) ?_ | (refine Br.mk (fun h => ?_) (fun h => ?_) <;> (first | (exfalso; exact Bool.false_ne_true h) | (exfalso; exact Bool.false_ne_true h.symm) | skip)) | refine SeqN.go ?_)); all_goals (conv => whnf)
  all_goals first | rfl | (exfalso; simp at *; done)
theorem wDig1_d (a b : Int) : Den Tryz.prog 190 #[.int .i64 a, .int .i64 b] noFacts (.int .i64 (wdo 1 a b)) := by
  refine den_of_body (args := [.int .i64 a, .int .i64 b]) hmix Tryz.func190 ?_
  (repeat' ((conv => whnf); first | refine CallN.any _ (wTruth_d _) ?_ | refine CallN.any _ (wBit_d _) ?_ | refine AdN.mk _ _ rfl ?_ | refine DrawN.a (Ob.mk (by decide +kernel) ?_) | refine DrawN.c (Ob.mk (by decide +kernel) ?_) | refine DrawN.b (Ob.mk (by decide +kernel) ?_) | refine Ob.mk (by kernel_rfl) ?_ | (refine Br.mk (fun h => ?_) (fun h => ?_) <;> (first | (exfalso; exact Bool.false_ne_true h) | (exfalso; exact Bool.false_ne_true h.symm) | skip)) | refine SeqN.go ?_)); all_goals (conv => whnf)
  all_goals grind [retV, wdo]
theorem wDo1_d (a b : Int) : Den Tryz.prog 31 #[.int .i64 1, .int .i64 a, .int .i64 b] noFacts (.tuple #[.int .i64 (wdo 1 a b), .bool true]) := by
  refine den_of_body (args := [.int .i64 1, .int .i64 a, .int .i64 b]) hmix Tryz.func31 ?_
  (repeat' ((conv => whnf); first | refine CallN.any _ (wTraps_d _) ?_ | refine CallN.any _ wDigits1_d ?_ | refine CallN.any _ (wDig1_d a b) ?_ | refine AdN.mk _ _ rfl ?_ | refine DrawN.a (Ob.mk (by decide +kernel) ?_) | refine DrawN.c (Ob.mk (by decide +kernel) ?_) | refine DrawN.b (Ob.mk (by decide +kernel) ?_) | refine Ob.mk (by kernel_rfl) ?_ | (refine Br.mk (fun h => ?_) (fun h => ?_) <;> (first | (exfalso; exact Bool.false_ne_true h) | (exfalso; exact Bool.false_ne_true h.symm) | skip)) | refine SeqN.go ?_)); all_goals (conv => whnf)
  all_goals first | rfl | (exfalso; simp at *; done)
theorem wSums13_d : Den Tryz.prog 98 #[.int .i64 13] noFacts (.tuple #[.func (.func 197) #[] #[], .bool true]) := by
  refine den_of_body (args := [.int .i64 13]) hmix Tryz.func98 ?_
  (repeat' ((conv => whnf); first | refine AdN.mk _ _ rfl ?_ | refine DrawN.a (Ob.mk (by decide +kernel) ?_) | refine DrawN.c (Ob.mk (by decide +kernel) ?_) | refine DrawN.b (Ob.mk (by decide +kernel) ?_) | refine Ob.mk (by kernel_rfl) ?_ | (refine Br.mk (fun h => ?_) (fun h => ?_) <;> (first | (exfalso; exact Bool.false_ne_true h) | (exfalso; exact Bool.false_ne_true h.symm) | skip)) | refine SeqN.go ?_)); all_goals (conv => whnf)
  all_goals first | rfl | (exfalso; simp at *; done)
theorem wSum13_d (a b : Int) : Den Tryz.prog 197 #[.int .i64 a, .int .i64 b] noFacts (.int .i64 (wdo 13 a b)) := by
  refine den_of_body (args := [.int .i64 a, .int .i64 b]) hmix Tryz.func197 ?_
  (repeat' ((conv => whnf); first | refine AdN.mk _ _ rfl ?_ | refine DrawN.a (Ob.mk (by decide +kernel) ?_) | refine DrawN.c (Ob.mk (by decide +kernel) ?_) | refine DrawN.b (Ob.mk (by decide +kernel) ?_) | refine Ob.mk (by kernel_rfl) ?_ | (refine Br.mk (fun h => ?_) (fun h => ?_) <;> (first | (exfalso; exact Bool.false_ne_true h) | (exfalso; exact Bool.false_ne_true h.symm) | skip)) | refine SeqN.go ?_)); all_goals (conv => whnf)
  all_goals rfl
theorem wDo13_d (a b : Int) : Den Tryz.prog 31 #[.int .i64 13, .int .i64 a, .int .i64 b] noFacts (.tuple #[.int .i64 (wdo 13 a b), .bool true]) := by
  refine den_of_body (args := [.int .i64 13, .int .i64 a, .int .i64 b]) hmix Tryz.func31 ?_
  (repeat' ((conv => whnf); first | refine CallN.any _ (wTraps_d _) ?_ | refine CallN.any _ wSums13_d ?_ | refine CallN.any _ (wSum13_d a b) ?_ | refine AdN.mk _ _ rfl ?_ | refine DrawN.a (Ob.mk (by decide +kernel) ?_) | refine DrawN.c (Ob.mk (by decide +kernel) ?_) | refine DrawN.b (Ob.mk (by decide +kernel) ?_) | refine Ob.mk (by kernel_rfl) ?_ | (refine Br.mk (fun h => ?_) (fun h => ?_) <;> (first | (exfalso; exact Bool.false_ne_true h) | (exfalso; exact Bool.false_ne_true h.symm) | skip)) | refine SeqN.go ?_)); all_goals (conv => whnf)
  all_goals first | rfl | (exfalso; simp at *; done)
theorem wSums14_d : Den Tryz.prog 98 #[.int .i64 14] noFacts (.tuple #[.func (.func 198) #[] #[], .bool true]) := by
  refine den_of_body (args := [.int .i64 14]) hmix Tryz.func98 ?_
  (repeat' ((conv => whnf); first | refine AdN.mk _ _ rfl ?_ | refine DrawN.a (Ob.mk (by decide +kernel) ?_) | refine DrawN.c (Ob.mk (by decide +kernel) ?_) | refine DrawN.b (Ob.mk (by decide +kernel) ?_) | refine Ob.mk (by kernel_rfl) ?_ | (refine Br.mk (fun h => ?_) (fun h => ?_) <;> (first | (exfalso; exact Bool.false_ne_true h) | (exfalso; exact Bool.false_ne_true h.symm) | skip)) | refine SeqN.go ?_)); all_goals (conv => whnf)
  all_goals first | rfl | (exfalso; simp at *; done)
theorem wSum14_d (a b : Int) : Den Tryz.prog 198 #[.int .i64 a, .int .i64 b] noFacts (.int .i64 (wdo 14 a b)) := by
  refine den_of_body (args := [.int .i64 a, .int .i64 b]) hmix Tryz.func198 ?_
  (repeat' ((conv => whnf); first | refine AdN.mk _ _ rfl ?_ | refine DrawN.a (Ob.mk (by decide +kernel) ?_) | refine DrawN.c (Ob.mk (by decide +kernel) ?_) | refine DrawN.b (Ob.mk (by decide +kernel) ?_) | refine Ob.mk (by kernel_rfl) ?_ | (refine Br.mk (fun h => ?_) (fun h => ?_) <;> (first | (exfalso; exact Bool.false_ne_true h) | (exfalso; exact Bool.false_ne_true h.symm) | skip)) | refine SeqN.go ?_)); all_goals (conv => whnf)
  all_goals rfl
theorem wDo14_d (a b : Int) : Den Tryz.prog 31 #[.int .i64 14, .int .i64 a, .int .i64 b] noFacts (.tuple #[.int .i64 (wdo 14 a b), .bool true]) := by
  refine den_of_body (args := [.int .i64 14, .int .i64 a, .int .i64 b]) hmix Tryz.func31 ?_
  (repeat' ((conv => whnf); first | refine CallN.any _ (wTraps_d _) ?_ | refine CallN.any _ wSums14_d ?_ | refine CallN.any _ (wSum14_d a b) ?_ | refine AdN.mk _ _ rfl ?_ | refine DrawN.a (Ob.mk (by decide +kernel) ?_) | refine DrawN.c (Ob.mk (by decide +kernel) ?_) | refine DrawN.b (Ob.mk (by decide +kernel) ?_) | refine Ob.mk (by kernel_rfl) ?_ | (refine Br.mk (fun h => ?_) (fun h => ?_) <;> (first | (exfalso; exact Bool.false_ne_true h) | (exfalso; exact Bool.false_ne_true h.symm) | skip)) | refine SeqN.go ?_)); all_goals (conv => whnf)
  all_goals first | rfl | (exfalso; simp at *; done)
theorem wSums15_d : Den Tryz.prog 98 #[.int .i64 15] noFacts (.tuple #[.func (.func 199) #[] #[], .bool true]) := by
  refine den_of_body (args := [.int .i64 15]) hmix Tryz.func98 ?_
  (repeat' ((conv => whnf); first | refine AdN.mk _ _ rfl ?_ | refine DrawN.a (Ob.mk (by decide +kernel) ?_) | refine DrawN.c (Ob.mk (by decide +kernel) ?_) | refine DrawN.b (Ob.mk (by decide +kernel) ?_) | refine Ob.mk (by kernel_rfl) ?_ | (refine Br.mk (fun h => ?_) (fun h => ?_) <;> (first | (exfalso; exact Bool.false_ne_true h) | (exfalso; exact Bool.false_ne_true h.symm) | skip)) | refine SeqN.go ?_)); all_goals (conv => whnf)
  all_goals first | rfl | (exfalso; simp at *; done)
theorem wSum15_d (a b : Int) : Den Tryz.prog 199 #[.int .i64 a, .int .i64 b] noFacts (.int .i64 (wdo 15 a b)) := by
  refine den_of_body (args := [.int .i64 a, .int .i64 b]) hmix Tryz.func199 ?_
  (repeat' ((conv => whnf); first | refine AdN.mk _ _ rfl ?_ | refine DrawN.a (Ob.mk (by decide +kernel) ?_) | refine DrawN.c (Ob.mk (by decide +kernel) ?_) | refine DrawN.b (Ob.mk (by decide +kernel) ?_) | refine Ob.mk (by kernel_rfl) ?_ | (refine Br.mk (fun h => ?_) (fun h => ?_) <;> (first | (exfalso; exact Bool.false_ne_true h) | (exfalso; exact Bool.false_ne_true h.symm) | skip)) | refine SeqN.go ?_)); all_goals (conv => whnf)
  all_goals rfl
theorem wDo15_d (a b : Int) : Den Tryz.prog 31 #[.int .i64 15, .int .i64 a, .int .i64 b] noFacts (.tuple #[.int .i64 (wdo 15 a b), .bool true]) := by
  refine den_of_body (args := [.int .i64 15, .int .i64 a, .int .i64 b]) hmix Tryz.func31 ?_
  (repeat' ((conv => whnf); first | refine CallN.any _ (wTraps_d _) ?_ | refine CallN.any _ wSums15_d ?_ | refine CallN.any _ (wSum15_d a b) ?_ | refine AdN.mk _ _ rfl ?_ | refine DrawN.a (Ob.mk (by decide +kernel) ?_) | refine DrawN.c (Ob.mk (by decide +kernel) ?_) | refine DrawN.b (Ob.mk (by decide +kernel) ?_) | refine Ob.mk (by kernel_rfl) ?_ | (refine Br.mk (fun h => ?_) (fun h => ?_) <;> (first | (exfalso; exact Bool.false_ne_true h) | (exfalso; exact Bool.false_ne_true h.symm) | skip)) | refine SeqN.go ?_)); all_goals (conv => whnf)
  all_goals first | rfl | (exfalso; simp at *; done)
/-! Contract of word.One, at Neg. -/
theorem wOne1_d (b : Nat) (n : Int) (F : Facts) (h : F b 0 (.int .i64 n)) : Den Tryz.prog 119 #[.pointer (some ⟨b, 0, none⟩)] F (.int .i64 (IntKind.i64.wrap (-n))) := by
  refine den_of_body (args := [.pointer (some ⟨b, 0, none⟩)]) hmix Tryz.func119 ?_
  (repeat' ((conv => whnf); first | refine CellsN.mk [.int .i64 n] (fun j v hj => by rcases j with _ | j <;> simp at hj; subst hj; exact h) rfl ?_ | refine AdN.mk _ _ rfl ?_ | refine DrawN.a (Ob.mk (by decide +kernel) ?_) | refine DrawN.c (Ob.mk (by decide +kernel) ?_) | refine DrawN.b (Ob.mk (by decide +kernel) ?_) | refine Ob.mk (by kernel_rfl) ?_ | (refine Br.mk (fun h => ?_) (fun h => ?_) <;> (first | (exfalso; exact Bool.false_ne_true h) | (exfalso; exact Bool.false_ne_true h.symm) | skip)) | refine SeqN.go ?_)); all_goals (conv => whnf)
  all_goals (rw [← Int.zero_sub]; rfl)
theorem wNeg_d (n : Int) : Den Tryz.prog 42 #[.int .i64 18, .int .i64 n] noFacts (.tuple #[.int .i64 (IntKind.i64.wrap (-n)), .bool true]) := by
  refine den_of_box (args := [.int .i64 18, .int .i64 n]) hmix Tryz.func42 ?_
  (repeat' ((conv => whnf); first | refine AdN.mk _ _ rfl ?_ | refine DrawN.a (Ob.mk (by decide +kernel) ?_) | refine DrawN.c (Ob.mk (by decide +kernel) ?_) | refine DrawN.b (Ob.mk (by decide +kernel) ?_) | refine Ob.mk (by kernel_rfl) ?_ | (refine Br.mk (fun h => ?_) (fun h => ?_) <;> (first | (exfalso; exact Bool.false_ne_true h) | (exfalso; exact Bool.false_ne_true h.symm) | skip)) | refine SeqN.go ?_)); all_goals (conv => whnf)
  intro β
  (repeat' ((conv => whnf); first | refine CallN.mk _ (wOne1_d _ n _ ?_) ?_ | refine AdN.mk _ _ rfl ?_ | refine DrawN.a (Ob.mk (by decide +kernel) ?_) | refine DrawN.c (Ob.mk (by decide +kernel) ?_) | refine DrawN.b (Ob.mk (by decide +kernel) ?_) | refine Ob.mk (by kernel_rfl) ?_ | (refine Br.mk (fun h => ?_) (fun h => ?_) <;> (first | (exfalso; exact Bool.false_ne_true h) | (exfalso; exact Bool.false_ne_true h.symm) | skip)) | refine SeqN.go ?_)); all_goals (conv => whnf)
  all_goals first | rfl | exact Or.inr ⟨0, _, List.Mem.head _, rfl, rfl, rfl⟩ | (exfalso; simp at *; done)
end Go.Proofs.YtljhbdgoknfkcaaGreatDoor
