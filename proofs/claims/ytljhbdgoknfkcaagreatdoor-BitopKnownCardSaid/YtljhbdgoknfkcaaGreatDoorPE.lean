/- Rows of digits, turned about, and how many there are. -/
import Derived.Test.YtljhbdgoknfkcaaGreatDoorPD
import Derived.Test.YtljhbdgoknfkcaaGreatDoorPA
namespace Go.Proofs.YtljhbdgoknfkcaaGreatDoor
open Go Go.RowKit Go.Sort
set_option linter.unusedVariables false
set_option linter.unusedSimpArgs false

theorem dg_neg1 (i : Nat) : dg (-1) i = 1 := by
  have := dg_inv 0 i
  rw [dg_zero] at this
  simpa using this
theorem bxor_neg1 {n : Int} (h : -9223372036854775808 ≤ n ∧ n ≤ 9223372036854775807) : bxor n (-1) = -1 - n := by
  rw [← ech_xor]
  have : IntKind.i64.wrap (vb (ech 1 n (-1)) 64) = IntKind.i64.wrap (-1 - n) := vb_eq fun i hi => by
    rw [dg_inv]
    unfold ech
    rw [dg_neg1]
    rcases dg_01 n i with e | e <;> rw [e] <;> simp
  rw [this, sg_eq]
  exact sg_in _ (by omega) (by omega)
theorem bxor_zero {n : Int} (h : -9223372036854775808 ≤ n ∧ n ≤ 9223372036854775807) : bxor n 0 = n := by
  rw [← ech_xor]
  have : IntKind.i64.wrap (vb (ech 1 n 0) 64) = IntKind.i64.wrap n := vb_eq fun i hi => by
    unfold ech
    rw [dg_zero]
    rcases dg_01 n i with e | e <;> rw [e] <;> simp
  rw [this, sg_eq]
  exact sg_in _ h.1 h.2
theorem bxor_comm (a b : Int) : bxor a b = bxor b a := by unfold bxor; rw [BitVec.xor_comm]
theorem band_comm (a b : Int) : band a b = band b a := by unfold band; rw [BitVec.and_comm]
/-- How much a number is, without its sign, as its digits go. -/
def mag (n : Int) : Nat := (if n < 0 then -1 - n else n).toNat
theorem sign63 {n : Int} (h : -9223372036854775808 ≤ n ∧ n ≤ 9223372036854775807) : bxor n (n / 2 ^ 63) = (mag n : Int) := by
  have e : (2 : Int) ^ 63 = 9223372036854775808 := by decide
  unfold mag
  by_cases c : n < 0
  · rw [if_pos c, show n / 2 ^ 63 = -1 by rw [e]; omega, bxor_neg1 h]; omega
  · rw [if_neg c, show n / 2 ^ 63 = 0 by rw [e]; omega, bxor_zero h]; omega
/-! What operators make of numbers digit by digit: bounds, and remainders by powers of two. No program. -/
theorem vb_mono {f g : Nat → Int} : ∀ k, (∀ i, i < k → f i ≤ g i) → vb f k ≤ vb g k
  | 0, _ => Int.le_refl _
  | k + 1, h => by
    have h1 := vb_mono k fun i hi => h i (by omega)
    have h2 := Int.mul_le_mul_of_nonneg_right (h k (by omega)) (Int.le_of_lt (p2pos k))
    show vb f k + f k * _ ≤ vb g k + g k * _
    omega
theorem dg63 {z : Int} (h : IS z) : z = vb (dg z) 63 - dg z 63 * 9223372036854775808 := by
  have e : (2 : Int) ^ 63 = 9223372036854775808 := by decide
  have h1 := h.1; have h2 := h.2
  rw [vb_dg]
  unfold dg
  rw [e]
  omega
theorem dg_sg63 {z : Int} (h : IS z) : dg z 63 = if z < 0 then 1 else 0 := by
  have e : (2 : Int) ^ 63 = 9223372036854775808 := by decide
  have h1 := h.1; have h2 := h.2
  unfold dg
  rw [e]
  split <;> omega
theorem dg_le {x z : Int} (hx : IS x) (hz : IS z) (h63 : dg z 63 = dg x 63) (h : ∀ i, i < 63 → dg z i ≤ dg x i) : z ≤ x := by
  have h1 := dg63 hx
  have h2 := dg63 hz
  have h3 := vb_mono 63 h
  omega
theorem dg_ext {x z : Int} (hx : IS x) (hz : IS z) (h : ∀ i, i < 64 → dg z i = dg x i) : z = x := by
  have h1 := vb_eq (f := dg z) (z := x) h
  have h2 := vb_eq (f := dg z) (z := z) fun _ _ => rfl
  rw [h2] at h1
  rwa [sg_eq, sg_eq, sg_in _ hz.1 hz.2, sg_in _ hx.1 hx.2] at h1
theorem band_is (x y : Int) : IS (band x y) := wrap_is _
theorem bor_is (x y : Int) : IS (bor x y) := wrap_is _
theorem bxor_is (x y : Int) : IS (bxor x y) := wrap_is _
theorem band_dg {x y : Int} {i : Nat} (hi : i < 64) : dg (band x y) i = dg x i * dg y i := by
  unfold band
  rw [dg_wrap hi, dg_of, BitVec.getLsbD_and, dg_bit x hi, dg_bit y hi]
  cases (BitVec.ofInt 64 x).getLsbD i <;> cases (BitVec.ofInt 64 y).getLsbD i <;> simp
theorem bor_dg {x y : Int} {i : Nat} (hi : i < 64) : dg (bor x y) i = 1 - (1 - dg x i) * (1 - dg y i) := by
  unfold bor
  rw [dg_wrap hi, dg_of, BitVec.getLsbD_or, dg_bit x hi, dg_bit y hi]
  cases (BitVec.ofInt 64 x).getLsbD i <;> cases (BitVec.ofInt 64 y).getLsbD i <;> simp
theorem bxor_dg {x y : Int} {i : Nat} (hi : i < 64) : dg (bxor x y) i = if dg x i = dg y i then 0 else 1 := by
  unfold bxor
  rw [dg_wrap hi, dg_of, BitVec.getLsbD_xor, dg_bit x hi, dg_bit y hi]
  cases (BitVec.ofInt 64 x).getLsbD i <;> cases (BitVec.ofInt 64 y).getLsbD i <;> simp
theorem bor_inv (x y : Int) (hx : IS x) (hy : IS y) : -1 - band (-1 - x) (-1 - y) = bor x y := by
  have hb := band_is (-1 - x) (-1 - y)
  have h1 := hb.1; have h2 := hb.2
  refine dg_ext (bor_is _ _) ⟨by omega, by omega⟩ fun i hi => ?_
  rw [dg_inv, band_dg hi, bor_dg hi, dg_inv, dg_inv]
theorem band_nonneg {x y : Int} (hx : IS x) (hy : IS y) (h : 0 ≤ x ∨ 0 ≤ y) : 0 ≤ band x y := by
  have h1 := dg_sg63 (band_is x y)
  rw [band_dg (by decide), dg_sg63 hx, dg_sg63 hy] at h1
  by_cases c : band x y < 0
  · rw [if_pos c] at h1
    exfalso
    rcases h with h | h
    · rw [if_neg (show ¬ x < 0 by omega)] at h1; omega
    · rw [if_neg (show ¬ y < 0 by omega)] at h1; omega
  · omega
theorem band_le {x y : Int} (hx : IS x) (hy : IS y) (h : 0 ≤ x ∨ y < 0) : band x y ≤ x := by
  refine dg_le hx (band_is _ _) ?_ fun i hi => ?_
  · rw [band_dg (by decide), dg_sg63 hx, dg_sg63 hy]
    rcases h with h | h
    · rw [if_neg (show ¬ x < 0 by omega)]; omega
    · rw [if_pos h]; omega
  · rw [band_dg (by omega)]
    rcases dg_01 x i with e | e <;> rcases dg_01 y i with e' | e' <;> rw [e, e'] <;> decide
theorem p2mono {k i : Nat} (h : k ≤ i) : (2 : Int) ^ k ≤ 2 ^ i := by
  obtain ⟨j, rfl⟩ : ∃ j, i = k + j := ⟨i - k, by omega⟩
  rw [Int.pow_add]
  have h1 := p2pos j
  have h2 := Int.mul_le_mul_of_nonneg_left (show (1 : Int) ≤ 2 ^ j by omega) (Int.le_of_lt (p2pos k))
  omega
theorem dg_small {w : Int} {k i : Nat} (h0 : 0 ≤ w) (h : w < 2 ^ k) (hi : k ≤ i) : dg w i = 0 := by
  unfold dg
  rw [Int.ediv_eq_zero_of_lt h0 (Int.lt_of_lt_of_le h (p2mono hi))]
  rfl
theorem vb_zeros {f : Nat → Int} {k : Nat} : ∀ n, k ≤ n → (∀ i, k ≤ i → i < n → f i = 0) → vb f n = vb f k
  | 0, hk, _ => by rw [show k = 0 by omega]
  | n + 1, hk, h => by
    by_cases c : k = n + 1
    · rw [c]
    · show vb f n + f n * _ = _
      rw [h n (by omega) (by omega), vb_zeros n (by omega) fun i h1 h2 => h i h1 (by omega)]
      omega
theorem mag_int (n : Int) : ((mag n : Nat) : Int) = if n < 0 then -1 - n else n := by unfold mag; split <;> omega
theorem mag_lt {n : Int} {k : Nat} : mag n < 2 ^ k ↔ (if n < 0 then -1 - n else n) < (2 : Int) ^ k := by
  rw [← mag_int, ← Int.ofNat_lt]
  simp
theorem mag_top {x : Int} {k : Nat} (hx : IS x) (h : mag x < 2 ^ k) {i : Nat} (hi : k ≤ i) (h63 : i ≤ 63) : dg x i = dg x 63 := by
  rw [mag_lt] at h
  rw [dg_sg63 hx]
  by_cases c : x < 0
  · rw [if_pos c] at h ⊢
    have := dg_small (w := -1 - x) (by omega) h hi
    rw [dg_inv] at this
    omega
  · rw [if_neg c] at h ⊢
    exact dg_small (by omega) h hi
theorem mag_of {z : Int} {k : Nat} (hz : IS z) (hk : k ≤ 63) (h : ∀ i, k ≤ i → i ≤ 63 → dg z i = dg z 63) : mag z < 2 ^ k := by
  rw [mag_lt]
  have key : ∀ w : Int, IS w → 0 ≤ w → (∀ i, k ≤ i → i < 63 → dg w i = 0) → w < 2 ^ k := by
    intro w hw h0 hd
    have h1 := dg63 hw
    rw [dg_sg63 hw, if_neg (show ¬ w < 0 by omega), vb_zeros 63 hk hd] at h1
    have := (vb_in (dg_in w) k).2
    omega
  have h1 := hz.1; have h2 := hz.2
  by_cases c : z < 0
  · rw [if_pos c]
    refine key _ ⟨by omega, by omega⟩ (by omega) fun i h3 h4 => ?_
    rw [dg_inv, h i h3 (by omega), dg_sg63 hz, if_pos c]
    rfl
  · rw [if_neg c]
    refine key _ hz (by omega) fun i h3 h4 => ?_
    rw [h i h3 (by omega), dg_sg63 hz, if_neg c]
theorem mag_band {x y : Int} {k : Nat} (hx : IS x) (hy : IS y) (hk : k ≤ 63) (h1 : mag x < 2 ^ k) (h2 : mag y < 2 ^ k) : mag (band x y) < 2 ^ k :=
  mag_of (band_is _ _) hk fun i hi h63 => by rw [band_dg (by omega), band_dg (by omega), mag_top hx h1 hi h63, mag_top hy h2 hi h63]
theorem mag_bxor {x y : Int} {k : Nat} (hx : IS x) (hy : IS y) (hk : k ≤ 63) (h1 : mag x < 2 ^ k) (h2 : mag y < 2 ^ k) : mag (bxor x y) < 2 ^ k :=
  mag_of (bxor_is _ _) hk fun i hi h63 => by rw [bxor_dg (by omega), bxor_dg (by omega), mag_top hx h1 hi h63, mag_top hy h2 hi h63]
theorem bxor_sign {x y : Int} (hx : IS x) (hy : IS y) : bxor x y < 0 ↔ ¬ (x < 0 ↔ y < 0) := by
  have h1 := dg_sg63 (bxor_is x y)
  rw [bxor_dg (by decide), dg_sg63 hx, dg_sg63 hy] at h1
  by_cases cx : x < 0 <;> by_cases cy : y < 0 <;> by_cases cz : bxor x y < 0 <;> simp [cx, cy, cz] at h1 ⊢ <;> omega
theorem mag_bound {z : Int} {k : Nat} (h : mag z < 2 ^ k) : -(2 ^ k) ≤ z ∧ z ≤ 2 ^ k - 1 := by
  rw [mag_lt] at h
  split at h <;> omega
theorem mag_mono {x lo : Int} {k : Nat} (h : mag lo < 2 ^ k) (h1 : lo ≤ x) (h2 : x < 0) : mag x < 2 ^ k := by
  rw [mag_lt] at h ⊢
  rw [if_pos (by omega)] at h ⊢
  omega
theorem mag_between {x lo hi : Int} {k : Nat} (h : mag lo < 2 ^ k) (h' : mag hi < 2 ^ k) (h1 : lo ≤ x) (h2 : x ≤ hi) : mag x < 2 ^ k := by
  have a := mag_bound h
  have b := mag_bound h'
  rw [mag_lt]
  split <;> omega
/-! Remainders by powers of two. -/
theorem lbN_pow : ∀ f m, ∃ j, j ≤ f ∧ lbN f m = 2 ^ j
  | 0, m => ⟨0, Nat.le_refl _, rfl⟩
  | f + 1, m => by
    unfold lbN
    split
    · obtain ⟨j, h1, h2⟩ := lbN_pow f (m / 2)
      exact ⟨j + 1, by omega, by rw [h2, Nat.pow_succ]; omega⟩
    · exact ⟨0, by omega, rfl⟩
theorem clow_pow {m : Int} (h : m ≠ 0) (hm : IU m) : ∃ j, j ≤ 63 ∧ clow m = 2 ^ j := by
  obtain ⟨j, h1, h2⟩ := lbN_pow 64 m.toNat
  have h3 := (clow_rng m (by have := hm.1; omega) hm.2).2
  have e : clow m = 2 ^ j := by unfold clow; rw [h2]; simp
  refine ⟨j, ?_, e⟩
  by_cases c : j = 64
  · rw [e, c] at h3
    have := hm.2
    have : (2 : Int) ^ 64 = 18446744073709551616 := by decide
    omega
  · omega
theorem chas_low {m r x : Int} {j : Nat} (hm : IU m) (h : chas m r x = true) (hj : j ≤ 64) (hd : m ≠ 0 → (2 : Int) ^ j ∣ clow m) : x % 2 ^ j = r % 2 ^ j := by
  unfold chas at h
  by_cases c : m = 0
  · rw [if_pos c] at h
    have e : r = us x := by simpa using (beq_iff_eq.1 h).symm
    rw [e]
    unfold us
    refine (Int.emod_emod_of_dvd x ?_).symm
    have : (18446744073709551616 : Int) = 2 ^ j * 2 ^ (64 - j) := by rw [← Int.pow_add, show j + (64 - j) = 64 by omega]; decide
    rw [this]
    exact Int.dvd_mul_right _ _
  · rw [if_neg c] at h
    have e := beq_iff_eq.1 h
    have d : (2 : Int) ^ j ∣ m := Int.dvd_trans (hd c) (clow_dvd m (by have := hm.1; omega) hm.2)
    rw [← e, Int.emod_emod_of_dvd _ d]
theorem pow_dvd {i j : Nat} (h : (2 : Int) ^ i ≤ 2 ^ j) : (2 : Int) ^ i ∣ 2 ^ j := by
  by_cases c : i ≤ j
  · obtain ⟨k, rfl⟩ : ∃ k, j = i + k := ⟨j - i, by omega⟩
    rw [Int.pow_add]
    exact Int.dvd_mul_right _ _
  · exfalso
    have h1 := p2mono (show j + 1 ≤ i by omega)
    rw [Int.pow_succ] at h1
    have := p2pos j
    omega
theorem dgu_wrap {z : Int} {i : Nat} (h : i < 64) : dg (IntKind.u64.wrap z) i = dg z i := by
  rw [← dg_mod h, ← dg_mod (z := z) h]
  congr 1
  have e : (2 : Int) ^ 64 = 18446744073709551616 := by decide
  rw [us_eq, e]
  unfold us
  omega
theorem mod_dgs {x y : Int} {j : Nat} (h : ∀ i, i < j → dg x i = dg y i) : x % 2 ^ j = y % 2 ^ j := by
  rw [← vb_dg, ← vb_dg]
  exact vb_congr j h
theorem dgs_mod {x y : Int} {j i : Nat} (h : x % 2 ^ j = y % 2 ^ j) (hi : i < j) : dg x i = dg y i := by
  rw [← dg_mod hi, h, dg_mod hi]
end Go.Proofs.YtljhbdgoknfkcaaGreatDoor
