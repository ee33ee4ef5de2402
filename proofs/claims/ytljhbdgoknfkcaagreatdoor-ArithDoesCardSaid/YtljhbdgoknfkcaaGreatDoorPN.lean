/- What operators do to a number's binary digits. -/
import Derived.Test.YtljhbdgoknfkcaaGreatDoorPD
namespace Go.Proofs.YtljhbdgoknfkcaaGreatDoor
open Go Go.RowKit Go.Sort
set_option linter.unusedVariables false
set_option linter.unusedSimpArgs false

theorem inv_div (a : Int) (i : Nat) : (-1 - a) / 2 ^ i = -1 - a / 2 ^ i := by
  have h := p2pos i
  have e := Int.mul_ediv_add_emod a (2 ^ i)
  have m1 := Int.emod_nonneg a (show (2 : Int) ^ i ≠ 0 by omega)
  have m2 := Int.emod_lt_of_pos a h
  refine ((Int.ediv_emod_unique h (r := 2 ^ i - 1 - a % 2 ^ i) (q := -1 - a / 2 ^ i)).2 ⟨?_, by omega, by omega⟩).1
  rw [Int.mul_sub]
  generalize (2 : Int) ^ i * (a / 2 ^ i) = x at *
  omega
theorem dg_inv (a : Int) (i : Nat) : dg (-1 - a) i = 1 - dg a i := by
  unfold dg
  rw [inv_div]
  omega
theorem wrap_add (x y : Int) : IntKind.i64.wrap (IntKind.i64.wrap x + IntKind.i64.wrap y) = IntKind.i64.wrap (x + y) := by
  simp only [sg_eq]; unfold sg; omega
theorem mul_dig {a b : Int} {i : Nat} (h : dg b i = 1) : IntKind.i64.wrap (IntKind.i64.wrap (a * (b % 2 ^ i)) + IntKind.i64.wrap (a * 2 ^ i)) = IntKind.i64.wrap (a * (b % 2 ^ (i + 1))) := by
  rw [wrap_add, mod2_succ, h, Int.one_mul, Int.mul_add]
theorem mul_dig0 {a b : Int} {i : Nat} (h : dg b i ≠ 1) : a * (b % 2 ^ (i + 1)) = a * (b % 2 ^ i) := by
  have h0 : dg b i = 0 := (dg_01 b i).resolve_right h
  rw [mod2_succ, h0, Int.zero_mul, Int.add_zero]
theorem mul_dbl (a : Int) (i : Nat) : IntKind.i64.wrap (IntKind.i64.wrap (a * 2 ^ i) + IntKind.i64.wrap (a * 2 ^ i)) = IntKind.i64.wrap (a * 2 ^ (i + 1)) := by
  rw [wrap_add, Int.pow_succ, ← Int.mul_assoc]
  congr 1
  omega
theorem wrap_mul_mod (a b : Int) : IntKind.i64.wrap (a * (b % 2 ^ 64)) = IntKind.i64.wrap (a * b) := by
  have h := Int.mul_ediv_add_emod b (2 ^ 64)
  rw [show (2 : Int) ^ 64 = 18446744073709551616 by decide] at *
  have e : a * b = a * (b % 18446744073709551616) + 18446744073709551616 * (a * (b / 18446744073709551616)) := by
    rw [← Int.mul_assoc, Int.mul_comm 18446744073709551616 a, Int.mul_assoc, ← Int.mul_add]
    congr 1
    omega
  rw [e, sg_eq, sg_eq]
  unfold sg
  omega
theorem dg_shl (a : Int) (k i : Nat) : dg (a * 2 ^ k) i = if i < k then 0 else dg a (i - k) := by
  unfold dg
  by_cases h : i < k
  · rw [if_pos h]
    obtain ⟨j, rfl⟩ : ∃ j, k = i + (j + 1) := ⟨k - i - 1, by omega⟩
    rw [Int.pow_add, Int.mul_comm (2 ^ i), ← Int.mul_assoc, Int.mul_ediv_cancel _ (by have := p2pos i; omega), Int.pow_succ, ← Int.mul_assoc]
    omega
  · rw [if_neg h]
    obtain ⟨j, rfl⟩ : ∃ j, i = j + k := ⟨i - k, by omega⟩
    rw [Nat.add_sub_cancel, Int.pow_add, Int.mul_ediv_mul_of_pos_left _ _ (p2pos k)]
theorem div_div2 (a : Int) (k i : Nat) : a / 2 ^ k / 2 ^ i = a / 2 ^ (i + k) := by
  rw [Int.ediv_ediv_of_nonneg (Int.le_of_lt (p2pos k)), Nat.add_comm, Int.pow_add]
theorem dg_shr (a : Int) (k i : Nat) : dg (a / 2 ^ k) i = dg a (i + k) := by
  unfold dg
  rw [div_div2]
theorem dg_top {a : Int} (h : -9223372036854775808 ≤ a ∧ a ≤ 9223372036854775807) {i : Nat} (hi : 63 ≤ i) : dg a i = dg a 63 := by
  obtain ⟨j, rfl⟩ : ∃ j, i = j + 63 := ⟨i - 63, by omega⟩
  rw [← dg_shr]
  unfold dg
  have e : a / 2 ^ 63 = -1 ∨ a / 2 ^ 63 = 0 := by
    rw [show (2 : Int) ^ 63 = 9223372036854775808 by decide]
    omega
  have hp := p2pos j
  rcases e with e | e <;> rw [e]
  · have : (-1 : Int) / 2 ^ j = -1 := by
      have := inv_div 0 j
      simpa using this
    rw [this]
  · simp
/-- Digit by digit, by rows of bits. -/
theorem dg_nat (n i : Nat) : dg (n : Int) i = if n.testBit i then 1 else 0 := by
  have e : dg (n : Int) i = ((n / 2 ^ i % 2 : Nat) : Int) := by unfold dg; simp
  rw [e, Nat.testBit_eq_decide_div_mod_eq]
  by_cases h : n / 2 ^ i % 2 = 1
  · simp [h]
  · have : n / 2 ^ i % 2 = 0 := by omega
    simp [this]
theorem dg_bit (a : Int) {i : Nat} (hi : i < 64) : dg a i = if (BitVec.ofInt 64 a).getLsbD i then 1 else 0 := by
  rw [← dg_mod hi, BitVec.getLsbD, BitVec.toNat_ofInt, ← dg_nat]
  congr 1
  have : 0 ≤ a % 2 ^ 64 := Int.emod_nonneg _ (by decide)
  have e : (((2 ^ 64 : Nat)) : Int) = 2 ^ 64 := by decide
  rw [e, Int.toNat_of_nonneg this]
theorem dg_of {x : BitVec 64} {i : Nat} : dg (x.toNat : Int) i = if x.getLsbD i then 1 else 0 := by
  rw [dg_nat]; rfl
def band (a b : Int) : Int := IntKind.i64.wrap ((BitVec.ofInt 64 a &&& BitVec.ofInt 64 b).toNat : Int)
def bor (a b : Int) : Int := IntKind.i64.wrap ((BitVec.ofInt 64 a ||| BitVec.ofInt 64 b).toNat : Int)
def bxor (a b : Int) : Int := IntKind.i64.wrap ((BitVec.ofInt 64 a ^^^ BitVec.ofInt 64 b).toNat : Int)
/-- What the reference asks of two digits. -/
def ech (h a b : Int) (i : Nat) : Int := if (h = 0 ∧ 0 < dg a i + dg b i) ∨ (h = 1 ∧ dg a i + dg b i = 1) ∨ (h = 2 ∧ dg a i + dg b i = 2) then 1 else 0
theorem ech_in (h a b : Int) (i : Nat) : 0 ≤ ech h a b i ∧ ech h a b i ≤ 1 := by unfold ech; split <;> omega
theorem ech_or (a b : Int) : IntKind.i64.wrap (vb (ech 0 a b) 64) = bor a b := by
  refine vb_eq fun i hi => ?_
  rw [dg_of, BitVec.getLsbD_or]
  unfold ech
  rw [dg_bit a hi, dg_bit b hi]
  cases (BitVec.ofInt 64 a).getLsbD i <;> cases (BitVec.ofInt 64 b).getLsbD i <;> simp
theorem ech_xor (a b : Int) : IntKind.i64.wrap (vb (ech 1 a b) 64) = bxor a b := by
  refine vb_eq fun i hi => ?_
  rw [dg_of, BitVec.getLsbD_xor]
  unfold ech
  rw [dg_bit a hi, dg_bit b hi]
  cases (BitVec.ofInt 64 a).getLsbD i <;> cases (BitVec.ofInt 64 b).getLsbD i <;> simp
theorem ech_and (a b : Int) : IntKind.i64.wrap (vb (ech 2 a b) 64) = band a b := by
  refine vb_eq fun i hi => ?_
  rw [dg_of, BitVec.getLsbD_and]
  unfold ech
  rw [dg_bit a hi, dg_bit b hi]
  cases (BitVec.ofInt 64 a).getLsbD i <;> cases (BitVec.ofInt 64 b).getLsbD i <;> simp
/-- Moved up or down, what comes in from above being the sign. -/
def shf (a by' : Int) (i : Nat) : Int := let f := if (i : Int) - by' > 63 then 63 else (i : Int) - by'; if f ≥ 0 then dg a f.toNat else 0
theorem shf_in (a by' : Int) (i : Nat) : 0 ≤ shf a by' i ∧ shf a by' i ≤ 1 := by unfold shf; dsimp only; split; exact dg_in _ _; split <;> first | exact dg_in _ _ | decide
theorem shf_up (a : Int) {k : Nat} : IntKind.i64.wrap (vb (shf a (k : Int)) 64) = IntKind.i64.wrap (a * 2 ^ k) := by
  refine vb_eq fun i hi => ?_
  rw [dg_shl]
  unfold shf
  dsimp only
  rw [if_neg (show ¬ (i : Int) - (k : Int) > 63 by omega)]
  by_cases h : i < k
  · rw [if_pos h, if_neg (show ¬ (i : Int) - (k : Int) ≥ 0 by omega)]
  · rw [if_neg h, if_pos (show (i : Int) - (k : Int) ≥ 0 by omega)]
    congr 1
    omega
theorem shf_dn {a : Int} (h : -9223372036854775808 ≤ a ∧ a ≤ 9223372036854775807) {k : Nat} : IntKind.i64.wrap (vb (shf a (-(k : Int))) 64) = a / 2 ^ k := by
  have e : IntKind.i64.wrap (vb (shf a (-(k : Int))) 64) = IntKind.i64.wrap (a / 2 ^ k) := by
    refine vb_eq fun i hi => ?_
    rw [dg_shr]
    unfold shf
    dsimp only
    by_cases c : (i : Int) - -(k : Int) > 63
    · rw [if_pos c, if_pos (by decide), dg_top h (show 63 ≤ i + k by omega)]
      rfl
    · rw [if_neg c, if_pos (show (i : Int) - -(k : Int) ≥ 0 by omega)]
      congr 1
      omega
  rw [e, sg_eq]
  have hp := p2pos k
  have h1 : a / 2 ^ k ≤ 9223372036854775807 := by
    by_cases c : 0 ≤ a
    · exact Int.le_trans (Int.ediv_le_self _ c) h.2
    · have := Int.ediv_neg_of_neg_of_pos (show a < 0 by omega) hp
      omega
  have h2 : -9223372036854775808 ≤ a / 2 ^ k := by
    by_cases c : 0 ≤ a
    · have := Int.ediv_nonneg c (Int.le_of_lt hp)
      omega
    · refine Int.le_ediv_of_mul_le hp ?_
      have : (-9223372036854775808 : Int) * 2 ^ k ≤ -9223372036854775808 * 1 := Int.mul_le_mul_of_nonpos_left (by decide) (by omega)
      omega
  exact sg_in _ h2 h1
end Go.Proofs.YtljhbdgoknfkcaaGreatDoor
