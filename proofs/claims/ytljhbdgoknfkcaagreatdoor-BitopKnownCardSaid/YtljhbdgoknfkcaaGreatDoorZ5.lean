/- Contracts of the reference's numbers by their digits: what operators make. -/
import Derived.Test.YtljhbdgoknfkcaaGreatDoorZ1
namespace Go.Proofs.YtljhbdgoknfkcaaGreatDoor
open Go Go.RowKit Go.Sort
set_option linter.unusedVariables false
set_option linter.unusedSimpArgs false
set_option maxRecDepth 100000

/-- What an operator makes of two numbers, and whether it makes some. -/
def wopV (op a b : Int) : Int :=
  if op = 8 then bor a b else if op = 9 then bxor a b else if op = 10 then band a b
  else if op = 11 then IntKind.i64.wrap (a * 2 ^ (b % 64).toNat) else if op = 12 then a / 2 ^ (b % 64).toNat
  else if op = 16 then (if b = 0 then 0 else quo a b) else if op = 17 then (if b = 0 then 0 else a.tmod b)
  else if 0 ≤ op ∧ op ≤ 15 then wdo op a b else 0
def wopB (op b : Int) : Bool := decide (0 ≤ op) && decide (op ≤ 17) && !((op == 16 || op == 17) && b == 0)
theorem rem_eq {a b : Int} (ha : IS a) (hb : IS b) (h0 : b ≠ 0) : IntKind.i64.wrap (a + IntKind.i64.wrap (-(IntKind.i64.wrap (quo a b * b)))) = a.tmod b := by
  unfold quo
  have e : a.tmod b = a - b * a.tdiv b := by have := Int.mul_tdiv_add_tmod a b; omega
  have h1 : (a.tmod b).natAbs ≤ a.natAbs := by
    rw [Int.natAbs_tmod]; exact Nat.mod_le _ _
  have key : ∀ q : Int, IntKind.i64.wrap (a + IntKind.i64.wrap (-(IntKind.i64.wrap (IntKind.i64.wrap q * b)))) = IntKind.i64.wrap (a - b * q) := by
    intro q
    have h2 : ∃ k, IntKind.i64.wrap q = q + 18446744073709551616 * k := ⟨(IntKind.i64.wrap q - q) / 18446744073709551616, by rw [sg_eq]; unfold sg; omega⟩
    obtain ⟨k, hk⟩ := h2
    rw [hk, Int.add_mul, Int.mul_assoc, Int.mul_comm q b]
    generalize b * q = x
    generalize k * b = y
    simp only [sg_eq]
    unfold sg
    omega
  rw [key, ← e, sg_eq]
  have a1 := ha.1
  have a2 := ha.2
  by_cases c : 0 ≤ a
  · have := Int.tmod_nonneg b c
    exact sg_in _ (by omega) (by omega)
  · have := Int.tmod_nonneg b (show 0 ≤ -a by omega)
    rw [Int.neg_tmod] at this
    exact sg_in _ (by omega) (by omega)
theorem shl_in {b : Int} : (-63 : Int) ≤ b % 64 ∧ b % 64 ≤ 63 := by omega
theorem shr_in {b : Int} : (-63 : Int) ≤ IntKind.i64.wrap (-(b % 64)) ∧ IntKind.i64.wrap (-(b % 64)) ≤ 63 := by rw [sg_eq, sg_in _ (by omega) (by omega)]; omega
theorem shl_v (a b : Int) : IntKind.i64.wrap (vb (shf a (b % 64)) 64) = IntKind.i64.wrap (a * 2 ^ (b % 64).toNat) := by
  have := shf_up a (k := (b % 64).toNat)
  rwa [show (((b % 64).toNat : Nat) : Int) = b % 64 by omega] at this
theorem shr_v {a : Int} (ha : IS a) (b : Int) : IntKind.i64.wrap (vb (shf a (IntKind.i64.wrap (-(b % 64)))) 64) = a / 2 ^ (b % 64).toNat := by
  have := shf_dn ha (k := (b % 64).toNat)
  rw [show IntKind.i64.wrap (-(b % 64)) = -(b % 64) by rw [sg_eq]; exact sg_in _ (by omega) (by omega)]
  rwa [show (((b % 64).toNat : Nat) : Int) = b % 64 by omega] at this
set_option maxHeartbeats 8000000 in
theorem rDo_d (op a b : Int) (ha : IS a) (hb : IS b) (hop : 0 ≤ op ∧ op ≤ 17) : Den Tryz.prog 79 #[.int .i64 op, .int .i64 a, .int .i64 b] noFacts (.tuple #[.int .i64 (wopV op a b), .bool (wopB op b)]) := by
  refine den_of_body (args := [.int .i64 op, .int .i64 a, .int .i64 b]) hmix Tryz.func79 ?_
  have L1 := rLess_d a b ha hb
  have L2 := rLess_d b a hb ha
  have E0 := rEach_d a b 0 (.inl rfl)
  have E1 := rEach_d a b 1 (.inr (.inl rfl))
  have E2 := rEach_d a b 2 (.inr (.inr rfl))
  rw [ech_or] at E0
  rw [ech_xor] at E1
  rw [ech_and] at E2
  have S := rShiftN_d b
  have U := rShf_d a (b % 64) shl_in
  have D := rShf_d a (IntKind.i64.wrap (0 - b % 64)) (by rw [Int.zero_sub]; exact shr_in)
  rw [shl_v] at U
  rw [show IntKind.i64.wrap (vb (shf a (IntKind.i64.wrap (0 - b % 64))) 64) = a / 2 ^ (b % 64).toNat by rw [Int.zero_sub]; exact shr_v ha b] at D
  have A := rAdd_d a b
  have N := rNeg_d b
  have A2 := rAdd_d a (IntKind.i64.wrap (-b))
  rw [show IntKind.i64.wrap (a + IntKind.i64.wrap (-b)) = IntKind.i64.wrap (a - b) by simp only [sg_eq]; unfold sg; omega] at A2
  have M := rMul_d a b ha
  have cases : op = 0 ∨ op = 1 ∨ op = 2 ∨ op = 3 ∨ op = 4 ∨ op = 5 ∨ op = 6 ∨ op = 7 ∨ op = 8 ∨ op = 9 ∨ op = 10 ∨ op = 11 ∨ op = 12 ∨ op = 13 ∨ op = 14 ∨ op = 15 ∨ op = 16 ∨ op = 17 := by omega
  rcases cases with rfl | rfl | rfl | rfl | rfl | rfl | rfl | rfl | rfl | rfl | rfl | rfl | rfl | rfl | rfl | rfl | rfl | rfl
  case inr.inr.inr.inr.inr.inr.inr.inr.inr.inr.inr.inr.inr.inr.inr.inr.inl =>
    by_cases h0 : b = 0
    · subst h0
      (repeat' ((conv => whnf); first | refine AdN.mk _ _ rfl ?_ | refine DrawN.a (Ob.mk (by decide +kernel) ?_) | refine DrawN.c (Ob.mk (by decide +kernel) ?_) | refine DrawN.b (Ob.mk (by decide +kernel) ?_) | refine Ob.mk (by kernel_rfl) ?_ | (refine Br.mk (fun h => ?_) (fun h => ?_) <;> (first | (exfalso; exact Bool.false_ne_true h) | (exfalso; exact Bool.false_ne_true h.symm) | skip)) | refine SeqN.go ?_)); all_goals (conv => whnf)
      all_goals first | rfl | (exfalso; simp at *; done)
    · have Q := rQuot_d a b ha hb h0
      (repeat' ((conv => whnf); first | refine CallN.any _ Q ?_ | refine AdN.mk _ _ rfl ?_ | refine DrawN.a (Ob.mk (by decide +kernel) ?_) | refine DrawN.c (Ob.mk (by decide +kernel) ?_) | refine DrawN.b (Ob.mk (by decide +kernel) ?_) | refine Ob.mk (by kernel_rfl) ?_ | (refine Br.mk (fun h => ?_) (fun h => ?_) <;> (first | (exfalso; exact Bool.false_ne_true h) | (exfalso; exact Bool.false_ne_true h.symm) | skip)) | refine SeqN.go ?_)); all_goals (conv => whnf)
      all_goals first | (exfalso; simp [h0] at *; done) | (simp [retV, wopV, wopB, h0]; done)
  case inr.inr.inr.inr.inr.inr.inr.inr.inr.inr.inr.inr.inr.inr.inr.inr.inr =>
    by_cases h0 : b = 0
    · subst h0
      (repeat' ((conv => whnf); first | refine AdN.mk _ _ rfl ?_ | refine DrawN.a (Ob.mk (by decide +kernel) ?_) | refine DrawN.c (Ob.mk (by decide +kernel) ?_) | refine DrawN.b (Ob.mk (by decide +kernel) ?_) | refine Ob.mk (by kernel_rfl) ?_ | (refine Br.mk (fun h => ?_) (fun h => ?_) <;> (first | (exfalso; exact Bool.false_ne_true h) | (exfalso; exact Bool.false_ne_true h.symm) | skip)) | refine SeqN.go ?_)); all_goals (conv => whnf)
      all_goals first | rfl | (exfalso; simp at *; done)
    · have Q := rQuot_d a b ha hb h0
      have iq : IS (quo a b) := by unfold quo; rw [sg_eq]; unfold sg; omega
      have M2 := rMul_d (quo a b) b iq
      have N2 := rNeg_d (IntKind.i64.wrap (quo a b * b))
      have A3 := rAdd_d a (IntKind.i64.wrap (-(IntKind.i64.wrap (quo a b * b))))
      rw [rem_eq ha hb h0] at A3
      (repeat' ((conv => whnf); first | refine CallN.any _ Q ?_ | refine CallN.any _ M2 ?_ | refine CallN.any _ N2 ?_ | refine CallN.any _ A3 ?_ | refine AdN.mk _ _ rfl ?_ | refine DrawN.a (Ob.mk (by decide +kernel) ?_) | refine DrawN.c (Ob.mk (by decide +kernel) ?_) | refine DrawN.b (Ob.mk (by decide +kernel) ?_) | refine Ob.mk (by kernel_rfl) ?_ | (refine Br.mk (fun h => ?_) (fun h => ?_) <;> (first | (exfalso; exact Bool.false_ne_true h) | (exfalso; exact Bool.false_ne_true h.symm) | skip)) | refine SeqN.go ?_)); all_goals (conv => whnf)
      all_goals first | (exfalso; simp [h0] at *; done) | (simp [retV, wopV, wopB, h0]; done)
  all_goals
    (repeat' ((conv => whnf); first | refine CallN.any _ L1 ?_ | refine CallN.any _ L2 ?_ | refine CallN.any _ E0 ?_ | refine CallN.any _ E1 ?_ | refine CallN.any _ E2 ?_ | refine CallN.any _ S ?_ | refine CallN.any _ U ?_ | refine CallN.any _ D ?_ | refine CallN.any _ A ?_ | refine CallN.any _ N ?_ | refine CallN.any _ A2 ?_ | refine CallN.any _ M ?_ | refine CallN.any _ (rBit_d _) ?_ | refine AdN.mk _ _ rfl ?_ | refine DrawN.a (Ob.mk (by decide +kernel) ?_) | refine DrawN.c (Ob.mk (by decide +kernel) ?_) | refine DrawN.b (Ob.mk (by decide +kernel) ?_) | refine Ob.mk (by kernel_rfl) ?_ | (refine Br.mk (fun h => ?_) (fun h => ?_) <;> (first | (exfalso; exact Bool.false_ne_true h) | (exfalso; exact Bool.false_ne_true h.symm) | skip)) | refine SeqN.go ?_)); all_goals (conv => whnf)
    clear L1 L2 E0 E1 E2 S U D A N A2 M
  all_goals first | rfl | (exfalso; simp at *; done) | (simp_all [retV, wopV, wopB, wdo, wcmp]; done) | grind [retV, wopV, wopB, wdo, wcmp] | trace_state
end Go.Proofs.YtljhbdgoknfkcaaGreatDoor
