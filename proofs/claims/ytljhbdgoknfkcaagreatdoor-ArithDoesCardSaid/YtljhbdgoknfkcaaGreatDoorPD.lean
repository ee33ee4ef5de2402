/- The binary digits of numbers. -/
import Derived.Test.YtljhbdgoknfkcaaGreatDoorM
namespace Go.Proofs.YtljhbdgoknfkcaaGreatDoor
open Go Go.RowKit Go.Sort
set_option linter.unusedVariables false
set_option linter.unusedSimpArgs false

/-- A number's digit. -/
def dg (n : Int) (i : Nat) : Int := n / 2 ^ i % 2
/-- The number of digits. -/
def vb (f : Nat → Int) : Nat → Int
  | 0 => 0
  | k + 1 => vb f k + f k * 2 ^ k
def arrL (f : Nat → Int) : List Value := (List.range 64).map fun i => Value.int .i64 (f i)
theorem dg_01 (n : Int) (i : Nat) : dg n i = 0 ∨ dg n i = 1 := by unfold dg; omega
theorem dg_in (n : Int) (i : Nat) : 0 ≤ dg n i ∧ dg n i ≤ 1 := by unfold dg; omega
theorem p2pos (i : Nat) : (0 : Int) < 2 ^ i := Int.pow_pos (by decide)
theorem div2_succ (n : Int) (i : Nat) : n / 2 ^ (i + 1) = n / 2 ^ i / 2 := by rw [Int.pow_succ, Int.ediv_ediv_of_nonneg (Int.le_of_lt (p2pos i))]
theorem mod2_succ (n : Int) (i : Nat) : n % 2 ^ (i + 1) = n % 2 ^ i + dg n i * 2 ^ i := by
  have h1 := Int.mul_ediv_add_emod n (2 ^ (i + 1))
  have h2 := Int.mul_ediv_add_emod n (2 ^ i)
  have h3 := Int.mul_ediv_add_emod (n / 2 ^ i) 2
  unfold dg
  rw [div2_succ, Int.pow_succ] at h1
  rw [Int.pow_succ]
  generalize n / 2 ^ i = q at *
  generalize (2 : Int) ^ i = p at *
  have e : p * 2 * (q / 2) = p * (2 * (q / 2)) := Int.mul_assoc _ _ _
  have e2 : 2 * (q / 2) = q - q % 2 := by omega
  rw [e, e2, Int.mul_sub, Int.mul_comm p (q % 2)] at h1
  omega
theorem vb_dg (n : Int) : ∀ k, vb (dg n) k = n % 2 ^ k
  | 0 => by simp [vb, Int.emod_one]
  | k + 1 => by rw [mod2_succ, ← vb_dg n k]; rfl
theorem vb_congr {f g : Nat → Int} : ∀ k, (∀ i, i < k → f i = g i) → vb f k = vb g k
  | 0, _ => rfl
  | k + 1, h => by show vb f k + f k * _ = vb g k + g k * _; rw [vb_congr k fun i hi => h i (by omega), h k (by omega)]
theorem wrap_mod (z : Int) : IntKind.i64.wrap (z % 2 ^ 64) = IntKind.i64.wrap z := by
  have e : (2 : Int) ^ 64 = 18446744073709551616 := by decide
  rw [sg_eq, sg_eq, e]
  unfold sg
  omega
/-- Whose digits these are. -/
theorem vb_eq {f : Nat → Int} {z : Int} (h : ∀ i, i < 64 → f i = dg z i) : IntKind.i64.wrap (vb f 64) = IntKind.i64.wrap z := by
  rw [vb_congr 64 h, vb_dg, wrap_mod]
theorem dg_mod {z : Int} {k i : Nat} (h : i < k) : dg (z % 2 ^ k) i = dg z i := by
  unfold dg
  obtain ⟨j, rfl⟩ : ∃ j, k = i + 1 + j := ⟨k - i - 1, by omega⟩
  have h1 := Int.mul_ediv_add_emod z (2 ^ (i + 1 + j))
  have e : z % 2 ^ (i + 1 + j) = z + (-(z / 2 ^ (i + 1 + j) * 2 ^ j * 2)) * 2 ^ i := by
    have : (2 : Int) ^ (i + 1 + j) = 2 ^ j * 2 * 2 ^ i := by rw [Int.pow_add, Int.pow_succ, Int.mul_comm, Int.mul_assoc, Int.mul_comm 2]
    rw [this] at h1 ⊢
    generalize z / (2 ^ j * 2 * 2 ^ i) = q at *
    rw [Int.neg_mul, Int.mul_assoc q, Int.mul_assoc q, Int.mul_comm q]
    omega
  rw [e, Int.add_mul_ediv_right _ _ (by have := p2pos i; omega)]
  omega
theorem dg_wrap {z : Int} {i : Nat} (h : i < 64) : dg (IntKind.i64.wrap z) i = dg z i := by
  rw [← dg_mod h, ← dg_mod (z := z) h]
  congr 1
  have e : (2 : Int) ^ 64 = 18446744073709551616 := by decide
  rw [sg_eq, e]
  unfold sg
  omega
theorem dg_zero (i : Nat) : dg 0 i = 0 := by simp [dg]
theorem vb_in {f : Nat → Int} (h : ∀ i, 0 ≤ f i ∧ f i ≤ 1) : ∀ k, 0 ≤ vb f k ∧ vb f k < 2 ^ k
  | 0 => by simp [vb]
  | k + 1 => by
    have := vb_in h k
    rcases (show f k = 0 ∨ f k = 1 by have := h k; omega) with e | e
    · simp only [vb, e, Int.pow_succ, Int.zero_mul]; omega
    · simp only [vb, e, Int.pow_succ, Int.one_mul]; omega
/-- The number of k digits from the i-th on. -/
def up (f : Nat → Int) : Nat → Nat → Int
  | 0, _ => 0
  | k + 1, i => f i + 2 * up f k (i + 1)
theorem vb_up (f : Nat → Int) : ∀ (k i : Nat), vb f (i + k) = vb f i + 2 ^ i * up f k i
  | 0, i => by simp [up]
  | k + 1, i => by
    have e : i + (k + 1) = i + 1 + k := by omega
    rw [e, vb_up f k (i + 1)]
    show vb f i + f i * 2 ^ i + 2 ^ (i + 1) * up f k (i + 1) = vb f i + 2 ^ i * (f i + 2 * up f k (i + 1))
    rw [Int.pow_succ, Int.mul_add, Int.mul_comm (f i), Int.mul_assoc, Int.add_assoc]
theorem up_in {f : Nat → Int} (h : ∀ i, 0 ≤ f i ∧ f i ≤ 1) : ∀ k i, 0 ≤ up f k i ∧ up f k i < 2 ^ k
  | 0, i => by simp [up]
  | k + 1, i => by
    have h1 := up_in h k (i + 1)
    have h2 := h i
    show 0 ≤ f i + 2 * up f k (i + 1) ∧ f i + 2 * up f k (i + 1) < 2 ^ (k + 1)
    rw [Int.pow_succ]
    omega
theorem up_all (f : Nat → Int) : up f 64 0 = vb f 64 := by
  have := vb_up f 64 0
  rw [Nat.zero_add] at this
  rw [this]; simp [vb]
theorem p2le {k : Nat} (h : k ≤ 64) : (2 : Int) ^ k ≤ 18446744073709551616 := by
  have h2 : 2 ^ k ≤ 2 ^ 64 := Nat.pow_le_pow_right (by decide) h
  have h1 : (2 : Int) ^ k = ((2 ^ k : Nat) : Int) := by simp
  rw [h1]
  omega
/-- Arrays of digits. -/
theorem arrL_len (f : Nat → Int) : (arrL f).length = 64 := by simp [arrL]
theorem arrL_congr {f g : Nat → Int} (h : ∀ i, i < 64 → f i = g i) : arrL f = arrL g := by
  unfold arrL
  refine List.map_congr_left fun i hi => ?_
  rw [h i (List.mem_range.1 hi)]
theorem arrL_at {f : Nat → Int} {i : Nat} (h : i < 64) : (arrL f)[i]? = some (.int .i64 (f i)) := by simp [arrL, h]
theorem arrL_set {f : Nat → Int} {i : Nat} {v : Int} (h : i < 64) : (arrL f).set i (.int .i64 v) = arrL fun j => if j = i then v else f j := by
  apply List.ext_getElem?
  intro j
  by_cases hj : j < 64
  · rw [arrL_at hj]
    by_cases hij : i = j
    · subst hij; rw [List.getElem?_set_self (by rw [arrL_len]; exact h), if_pos rfl]
    · rw [List.getElem?_set_ne hij, arrL_at hj, if_neg (fun e => hij e.symm)]
  · rw [List.getElem?_eq_none (by simp [arrL_len]; omega), List.getElem?_eq_none (by rw [arrL_len]; omega)]
end Go.Proofs.YtljhbdgoknfkcaaGreatDoor
