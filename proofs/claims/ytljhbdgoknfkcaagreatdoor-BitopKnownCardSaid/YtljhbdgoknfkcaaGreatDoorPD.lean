/- The binary digits of numbers. -/
import Derived.Test.YtljhbdgoknfkcaaGreatDoorM
namespace Go.Proofs.YtljhbdgoknfkcaaGreatDoor
open Go Go.RowKit Go.Sort
set_option linter.unusedVariables false
set_option linter.unusedSimpArgs false

/-- A number's digit. -/
def dg (n : Int) (i : Nat) : Int := n / 2 ^ i % 2
/-- The number of digits. -/
def vb (f : Nat → Int) : Nat → Int
  | 0 => 0
  | k + 1 => vb f k + f k * 2 ^ k
def arrL (f : Nat → Int) : List Value := (List.range 64).map fun i => Value.int .i64 (f i)
theorem dg_01 (n : Int) (i : Nat) : dg n i = 0 ∨ dg n i = 1 := by unfold dg; omega
theorem dg_in (n : Int) (i : Nat) : 0 ≤ dg n i ∧ dg n i ≤ 1 := by unfold dg; omega
theorem p2pos (i : Nat) : (0 : Int) < 2 ^ i := Int.pow_pos (by decide)
theorem div2_succ (n : Int) (i : Nat) : n / 2 ^ (i + 1) = n / 2 ^ i / 2 := by rw [Int.pow_succ, Int.ediv_ediv_of_nonneg (Int.le_of_lt (p2pos i))]
theorem mod2_succ (n : Int) (i : Nat) : n % 2 ^ (i + 1) = n % 2 ^ i + dg n i * 2 ^ i := by
  have h1 := Int.mul_ediv_add_emod n (2 ^ (i + 1))
  have h2 := Int.mul_ediv_add_emod n (2 ^ i)
  have h3 := Int.mul_ediv_add_emod (n / 2 ^ i) 2
  unfold dg
  rw [div2_succ, Int.pow_succ] at h1
  rw [Int.pow_succ]
  generalize n / 2 ^ i = q at *
  generalize (2 : Int) ^ i = p at *
  have e : p * 2 * (q / 2) = p * (2 * (q / 2)) := Int.mul_assoc _ _ _
  have e2 : 2 * (q / 2) = q - q % 2 := by omega
  rw [e, e2, Int.mul_sub, Int.mul_comm p (q % 2)] at h1
  omega
theorem vb_dg (n : Int) : ∀ k, vb (dg n) k = n % 2 ^ k
  | 0 => by simp [vb, Int.emod_one]
  | k + 1 => by rw [mod2_succ, ← vb_dg n k]; rfl
theorem vb_congr {f g : Nat → Int} : ∀ k, (∀ i, i < k → f i = g i) → vb f k = vb g k
  | 0, _ => rfl
  | k + 1, h => by show vb f k + f k * _ = vb g k + g k * _; rw [vb_congr k fun i hi => h i (by omega), h k (by omega)]
theorem wrap_mod (z : Int) : IntKind.i64.wrap (z % 2 ^ 64) = IntKind.i64.wrap z := by
  have e : (2 : Int) ^ 64 = 18446744073709551616 := by decide
  rw [sg_eq, sg_eq, e]
  unfold sg
  omega
/-- Whose digits these are. -/
theorem vb_eq {f : Nat → Int} {z : Int} (h : ∀ i, i < 64 → f i = dg z i) : IntKind.i64.wrap (vb f 64) = IntKind.i64.wrap z := by
  rw [vb_congr 64 h, vb_dg, wrap_mod]
theorem dg_mod {z : Int} {k i : Nat} (h : i < k) : dg (z % 2 ^ k) i = dg z i := by
  unfold dg
  obtain ⟨j, rfl⟩ : ∃ j, k = i + 1 + j := ⟨k - i - 1, by omega⟩
  have h1 := Int.mul_ediv_add_emod z (2 ^ (i + 1 + j))
  have e : z % 2 ^ (i + 1 + j) = z + (-(z / 2 ^ (i + 1 + j) * 2 ^ j * 2)) * 2 ^ i := by
    have : (2 : Int) ^ (i + 1 + j) = 2 ^ j * 2 * 2 ^ i := by rw [Int.pow_add, Int.pow_succ, Int.mul_comm, Int.mul_assoc, Int.mul_comm 2]
    rw [this] at h1 ⊢
    generalize z / (2 ^ j * 2 * 2 ^ i) = q at *
    rw [Int.neg_mul, Int.mul_assoc q, Int.mul_assoc q, Int.mul_comm q]
    omega
  rw [e, Int.add_mul_ediv_right _ _ (by have := p2pos i; omega)]
  omega
theorem dg_wrap {z : Int} {i : Nat} (h : i < 64) : dg (IntKind.i64.wrap z) i = dg z i := by
  rw [← dg_mod h, ← dg_mod (z := z) h]
  congr 1
  have e : (2 : Int) ^ 64 = 18446744073709551616 := by decide
  rw [sg_eq, e]
  unfold sg
  omega
theorem dg_zero (i : Nat) : dg 0 i = 0 := by simp [dg]
theorem vb_in {f : Nat → Int} (h : ∀ i, 0 ≤ f i ∧ f i ≤ 1) : ∀ k, 0 ≤ vb f k ∧ vb f k < 2 ^ k
  | 0 => by simp [vb]
  | k + 1 => by
    have := vb_in h k
    rcases (show f k = 0 ∨ f k = 1 by have := h k; omega) with e | e
    · simp only [vb, e, Int.pow_succ, Int.zero_mul]; omega
    · simp only [vb, e, Int.pow_succ, Int.one_mul]; omega
/-- The number of k digits from the i-th on. -/
def up (f : Nat → Int) : Nat → Nat → Int
  | 0, _ => 0
  | k + 1, i => f i + 2 * up f k (i + 1)
theorem vb_up (f : Nat → Int) : ∀ (k i : Nat), vb f (i + k) = vb f i + 2 ^ i * up f k i
  | 0, i => by simp [up]
  | k + 1, i => by
    have e : i + (k + 1) = i + 1 + k := by omega
    rw [e, vb_up f k (i + 1)]
    show vb f i + f i * 2 ^ i + 2 ^ (i + 1) * up f k (i + 1) = vb f i + 2 ^ i * (f i + 2 * up f k (i + 1))
    rw [Int.pow_succ, Int.mul_add, Int.mul_comm (f i), Int.mul_assoc, Int.add_assoc]
theorem up_in {f : Nat → Int} (h : ∀ i, 0 ≤ f i ∧ f i ≤ 1) : ∀ k i, 0 ≤ up f k i ∧ up f k i < 2 ^ k
  | 0, i => by simp [up]
  | k + 1, i => by
    have h1 := up_in h k (i + 1)
    have h2 := h i
    show 0 ≤ f i + 2 * up f k (i + 1) ∧ f i + 2 * up f k (i + 1) < 2 ^ (k + 1)
    rw [Int.pow_succ]
    omega
theorem up_all (f : Nat → Int) : up f 64 0 = vb f 64 := by
  have := vb_up f 64 0
  rw [Nat.zero_add] at this
  rw [this]; simp [vb]
theorem p2le {k : Nat} (h : k ≤ 64) : (2 : Int) ^ k ≤ 18446744073709551616 := by
  have h2 : 2 ^ k ≤ 2 ^ 64 := Nat.pow_le_pow_right (by decide) h
  have h1 : (2 : Int) ^ k = ((2 ^ k : Nat) : Int) := by simp
  rw [h1]
  omega
/-- Arrays of digits. -/
theorem arrL_len (f : Nat → Int) : (arrL f).length = 64 := by simp [arrL]
theorem arrL_congr {f g : Nat → Int} (h : ∀ i, i < 64 → f i = g i) : arrL f = arrL g := by
  unfold arrL
  refine List.map_congr_left fun i hi => ?_
  rw [h i (List.mem_range.1 hi)]
theorem arrL_at {f : Nat → Int} {i : Nat} (h : i < 64) : (arrL f)[i]? = some (.int .i64 (f i)) := by simp [arrL, h]
theorem arrL_set {f : Nat → Int} {i : Nat} {v : Int} (h : i < 64) : (arrL f).set i (.int .i64 v) = arrL fun j => if j = i then v else f j := by
  apply List.ext_getElem?
  intro j
  by_cases hj : j < 64
  · rw [arrL_at hj]
    by_cases hij : i = j
    · subst hij; rw [List.getElem?_set_self (by rw [arrL_len]; exact h), if_pos rfl]
    · rw [List.getElem?_set_ne hij, arrL_at hj, if_neg (fun e => hij e.symm)]
  · rw [List.getElem?_eq_none (by simp [arrL_len]; omega), List.getElem?_eq_none (by rw [arrL_len]; omega)]
/-! What operators do to a number's binary digits. -/
theorem inv_div (a : Int) (i : Nat) : (-1 - a) / 2 ^ i = -1 - a / 2 ^ i := by
  have h := p2pos i
  have e := Int.mul_ediv_add_emod a (2 ^ i)
  have m1 := Int.emod_nonneg a (show (2 : Int) ^ i ≠ 0 by omega)
  have m2 := Int.emod_lt_of_pos a h
  refine ((Int.ediv_emod_unique h (r := 2 ^ i - 1 - a % 2 ^ i) (q := -1 - a / 2 ^ i)).2 ⟨?_, by omega, by omega⟩).1
  rw [Int.mul_sub]
  generalize (2 : Int) ^ i * (a / 2 ^ i) = x at *
  omega
theorem dg_inv (a : Int) (i : Nat) : dg (-1 - a) i = 1 - dg a i := by
  unfold dg
  rw [inv_div]
  omega
theorem wrap_add (x y : Int) : IntKind.i64.wrap (IntKind.i64.wrap x + IntKind.i64.wrap y) = IntKind.i64.wrap (x + y) := by
  simp only [sg_eq]; unfold sg; omega
theorem mul_dig {a b : Int} {i : Nat} (h : dg b i = 1) : IntKind.i64.wrap (IntKind.i64.wrap (a * (b % 2 ^ i)) + IntKind.i64.wrap (a * 2 ^ i)) = IntKind.i64.wrap (a * (b % 2 ^ (i + 1))) := by
  rw [wrap_add, mod2_succ, h, Int.one_mul, Int.mul_add]
theorem mul_dig0 {a b : Int} {i : Nat} (h : dg b i ≠ 1) : a * (b % 2 ^ (i + 1)) = a * (b % 2 ^ i) := by
  have h0 : dg b i = 0 := (dg_01 b i).resolve_right h
  rw [mod2_succ, h0, Int.zero_mul, Int.add_zero]
theorem mul_dbl (a : Int) (i : Nat) : IntKind.i64.wrap (IntKind.i64.wrap (a * 2 ^ i) + IntKind.i64.wrap (a * 2 ^ i)) = IntKind.i64.wrap (a * 2 ^ (i + 1)) := by
  rw [wrap_add, Int.pow_succ, ← Int.mul_assoc]
  congr 1
  omega
theorem wrap_mul_mod (a b : Int) : IntKind.i64.wrap (a * (b % 2 ^ 64)) = IntKind.i64.wrap (a * b) := by
  have h := Int.mul_ediv_add_emod b (2 ^ 64)
  rw [show (2 : Int) ^ 64 = 18446744073709551616 by decide] at *
  have e : a * b = a * (b % 18446744073709551616) + 18446744073709551616 * (a * (b / 18446744073709551616)) := by
    rw [← Int.mul_assoc, Int.mul_comm 18446744073709551616 a, Int.mul_assoc, ← Int.mul_add]
    congr 1
    omega
  rw [e, sg_eq, sg_eq]
  unfold sg
  omega
theorem dg_shl (a : Int) (k i : Nat) : dg (a * 2 ^ k) i = if i < k then 0 else dg a (i - k) := by
  unfold dg
  by_cases h : i < k
  · rw [if_pos h]
    obtain ⟨j, rfl⟩ : ∃ j, k = i + (j + 1) := ⟨k - i - 1, by omega⟩
    rw [Int.pow_add, Int.mul_comm (2 ^ i), ← Int.mul_assoc, Int.mul_ediv_cancel _ (by have := p2pos i; omega), Int.pow_succ, ← Int.mul_assoc]
    omega
  · rw [if_neg h]
    obtain ⟨j, rfl⟩ : ∃ j, i = j + k := ⟨i - k, by omega⟩
    rw [Nat.add_sub_cancel, Int.pow_add, Int.mul_ediv_mul_of_pos_left _ _ (p2pos k)]
theorem div_div2 (a : Int) (k i : Nat) : a / 2 ^ k / 2 ^ i = a / 2 ^ (i + k) := by
  rw [Int.ediv_ediv_of_nonneg (Int.le_of_lt (p2pos k)), Nat.add_comm, Int.pow_add]
theorem dg_shr (a : Int) (k i : Nat) : dg (a / 2 ^ k) i = dg a (i + k) := by
  unfold dg
  rw [div_div2]
theorem dg_top {a : Int} (h : -9223372036854775808 ≤ a ∧ a ≤ 9223372036854775807) {i : Nat} (hi : 63 ≤ i) : dg a i = dg a 63 := by
  obtain ⟨j, rfl⟩ : ∃ j, i = j + 63 := ⟨i - 63, by omega⟩
  rw [← dg_shr]
  unfold dg
  have e : a / 2 ^ 63 = -1 ∨ a / 2 ^ 63 = 0 := by
    rw [show (2 : Int) ^ 63 = 9223372036854775808 by decide]
    omega
  have hp := p2pos j
  rcases e with e | e <;> rw [e]
  · have : (-1 : Int) / 2 ^ j = -1 := by
      have := inv_div 0 j
      simpa using this
    rw [this]
  · simp
/-- Digit by digit, by rows of bits. -/
theorem dg_nat (n i : Nat) : dg (n : Int) i = if n.testBit i then 1 else 0 := by
  have e : dg (n : Int) i = ((n / 2 ^ i % 2 : Nat) : Int) := by unfold dg; simp
  rw [e, Nat.testBit_eq_decide_div_mod_eq]
  by_cases h : n / 2 ^ i % 2 = 1
  · simp [h]
  · have : n / 2 ^ i % 2 = 0 := by omega
    simp [this]
theorem dg_bit (a : Int) {i : Nat} (hi : i < 64) : dg a i = if (BitVec.ofInt 64 a).getLsbD i then 1 else 0 := by
  rw [← dg_mod hi, BitVec.getLsbD, BitVec.toNat_ofInt, ← dg_nat]
  congr 1
  have : 0 ≤ a % 2 ^ 64 := Int.emod_nonneg _ (by decide)
  have e : (((2 ^ 64 : Nat)) : Int) = 2 ^ 64 := by decide
  rw [e, Int.toNat_of_nonneg this]
theorem dg_of {x : BitVec 64} {i : Nat} : dg (x.toNat : Int) i = if x.getLsbD i then 1 else 0 := by
  rw [dg_nat]; rfl
def band (a b : Int) : Int := IntKind.i64.wrap ((BitVec.ofInt 64 a &&& BitVec.ofInt 64 b).toNat : Int)
def bor (a b : Int) : Int := IntKind.i64.wrap ((BitVec.ofInt 64 a ||| BitVec.ofInt 64 b).toNat : Int)
def bxor (a b : Int) : Int := IntKind.i64.wrap ((BitVec.ofInt 64 a ^^^ BitVec.ofInt 64 b).toNat : Int)
/-- What the reference asks of two digits. -/
def ech (h a b : Int) (i : Nat) : Int := if (h = 0 ∧ 0 < dg a i + dg b i) ∨ (h = 1 ∧ dg a i + dg b i = 1) ∨ (h = 2 ∧ dg a i + dg b i = 2) then 1 else 0
theorem ech_in (h a b : Int) (i : Nat) : 0 ≤ ech h a b i ∧ ech h a b i ≤ 1 := by unfold ech; split <;> omega
theorem ech_or (a b : Int) : IntKind.i64.wrap (vb (ech 0 a b) 64) = bor a b := by
  refine vb_eq fun i hi => ?_
  rw [dg_of, BitVec.getLsbD_or]
  unfold ech
  rw [dg_bit a hi, dg_bit b hi]
  cases (BitVec.ofInt 64 a).getLsbD i <;> cases (BitVec.ofInt 64 b).getLsbD i <;> simp
theorem ech_xor (a b : Int) : IntKind.i64.wrap (vb (ech 1 a b) 64) = bxor a b := by
  refine vb_eq fun i hi => ?_
  rw [dg_of, BitVec.getLsbD_xor]
  unfold ech
  rw [dg_bit a hi, dg_bit b hi]
  cases (BitVec.ofInt 64 a).getLsbD i <;> cases (BitVec.ofInt 64 b).getLsbD i <;> simp
theorem ech_and (a b : Int) : IntKind.i64.wrap (vb (ech 2 a b) 64) = band a b := by
  refine vb_eq fun i hi => ?_
  rw [dg_of, BitVec.getLsbD_and]
  unfold ech
  rw [dg_bit a hi, dg_bit b hi]
  cases (BitVec.ofInt 64 a).getLsbD i <;> cases (BitVec.ofInt 64 b).getLsbD i <;> simp
/-- Moved up or down, what comes in from above being the sign. -/
def shf (a by' : Int) (i : Nat) : Int := let f := if (i : Int) - by' > 63 then 63 else (i : Int) - by'; if f ≥ 0 then dg a f.toNat else 0
theorem shf_in (a by' : Int) (i : Nat) : 0 ≤ shf a by' i ∧ shf a by' i ≤ 1 := by unfold shf; dsimp only; split; exact dg_in _ _; split <;> first | exact dg_in _ _ | decide
theorem shf_up (a : Int) {k : Nat} : IntKind.i64.wrap (vb (shf a (k : Int)) 64) = IntKind.i64.wrap (a * 2 ^ k) := by
  refine vb_eq fun i hi => ?_
  rw [dg_shl]
  unfold shf
  dsimp only
  rw [if_neg (show ¬ (i : Int) - (k : Int) > 63 by omega)]
  by_cases h : i < k
  · rw [if_pos h, if_neg (show ¬ (i : Int) - (k : Int) ≥ 0 by omega)]
  · rw [if_neg h, if_pos (show (i : Int) - (k : Int) ≥ 0 by omega)]
    congr 1
    omega
theorem shf_dn {a : Int} (h : -9223372036854775808 ≤ a ∧ a ≤ 9223372036854775807) {k : Nat} : IntKind.i64.wrap (vb (shf a (-(k : Int))) 64) = a / 2 ^ k := by
  have e : IntKind.i64.wrap (vb (shf a (-(k : Int))) 64) = IntKind.i64.wrap (a / 2 ^ k) := by
    refine vb_eq fun i hi => ?_
    rw [dg_shr]
    unfold shf
    dsimp only
    by_cases c : (i : Int) - -(k : Int) > 63
    · rw [if_pos c, if_pos (by decide), dg_top h (show 63 ≤ i + k by omega)]
      rfl
    · rw [if_neg c, if_pos (show (i : Int) - -(k : Int) ≥ 0 by omega)]
      congr 1
      omega
  rw [e, sg_eq]
  have hp := p2pos k
  have h1 : a / 2 ^ k ≤ 9223372036854775807 := by
    by_cases c : 0 ≤ a
    · exact Int.le_trans (Int.ediv_le_self _ c) h.2
    · have := Int.ediv_neg_of_neg_of_pos (show a < 0 by omega) hp
      omega
  have h2 : -9223372036854775808 ≤ a / 2 ^ k := by
    by_cases c : 0 ≤ a
    · have := Int.ediv_nonneg c (Int.le_of_lt hp)
      omega
    · refine Int.le_ediv_of_mul_le hp ?_
      have : (-9223372036854775808 : Int) * 2 ^ k ≤ -9223372036854775808 * 1 := Int.mul_le_mul_of_nonpos_left (by decide) (by omega)
      omega
  exact sg_in _ h2 h1
end Go.Proofs.YtljhbdgoknfkcaaGreatDoor
