/- The arithmetic of a division of two digits to the base 2^32 by one of 64 binary digits, as math/bits does it. No program. -/
import Derived.Test.YtcemohoigdninaaGreatDoorM
import Derived.Laws.BitsAllLaws
namespace Go.Proofs.YtcemohoigdninaaGreatDoor
open Go Go.RowKit
set_option linter.unusedVariables false

theorem kd_split (q a b v : Int) (hv : v = a * 4294967296 + b) : q * v = q * a * 4294967296 + q * b := by rw [hv, Int.mul_add, Int.mul_assoc]

/-- what holds of the guess q and its rest r -/
structure KD (a b v u t q r : Int) : Prop where
  rest : q * a + r = u
  r0 : 0 ≤ r
  q0 : 0 ≤ q
  qB : q ≤ 4294967297
  up : (u * 4294967296 + t) / v ≤ q
/-- what is fixed -/
structure KF (a b v u t : Int) : Prop where
  hv : v = a * 4294967296 + b
  a0 : 2147483648 ≤ a
  a1 : a ≤ 4294967295
  b0 : 0 ≤ b
  b1 : b ≤ 4294967295
  u0 : 0 ≤ u
  u1 : u < v
  t0 : 0 ≤ t
  t1 : t ≤ 4294967295

section
variable {a b v u t q r : Int}
theorem KF.vpos (F : KF a b v u t) : 0 < v := by have := F.hv; have := F.a0; have := F.b0; omega
theorem KF.lt (F : KF a b v u t) : (u * 4294967296 + t) / v < 4294967296 := by
  refine Int.ediv_lt_of_lt_mul F.vpos ?_
  have := F.u1; have := F.t1; omega
theorem KF.nonneg (F : KF a b v u t) : 0 ≤ (u * 4294967296 + t) / v := Int.ediv_nonneg (by have := F.u0; have := F.t0; omega) (by have := F.vpos; omega)
theorem KF.start (F : KF a b v u t) : KD a b v u t (u / a) (u - u / a * a) ∧ u - u / a * a < 4294967296 ∧ 0 ≤ u / a * a ∧ u / a * a ≤ u := by
  have e := Int.emod_add_mul_ediv u a
  have e0 := emod_rng u a (by have := F.a0; omega)
  have hq0 : 0 ≤ u / a := Int.ediv_nonneg F.u0 (by have := F.a0; omega)
  have hm : u / a * a = a * (u / a) := Int.mul_comm _ _
  have hm0 : 0 ≤ u / a * a := Int.mul_nonneg hq0 (by have := F.a0; omega)
  have := F.a1
  refine ⟨⟨by omega, by omega, hq0, ?_, ?_⟩, by omega, hm0, by omega⟩
  · have h1 : u / a < 4294967298 := by
      refine Int.ediv_lt_of_lt_mul (by have := F.a0; omega) ?_
      have := F.u1; have := F.hv; have := F.b1; have := F.a0; omega
    omega
  · have h2 : (u * 4294967296 + t) / v < u / a + 1 := by
      refine Int.ediv_lt_of_lt_mul F.vpos ?_
      have h3 := kd_split (u / a + 1) a b v F.hv
      have h4 : (u / a + 1) * a = u / a * a + a := by rw [Int.add_mul, Int.one_mul]
      have h5 : 0 ≤ (u / a + 1) * b := Int.mul_nonneg (by omega) F.b0
      have := F.t1
      rw [h3, h4]; omega
    omega
/-- the product of the guess and the low digit -/
theorem KD.prod (F : KF a b v u t) (D : KD a b v u t q r) : 0 ≤ q * b ∧ q * b ≤ 18446744073709551615 := by
  have h1 : 0 ≤ q * b := Int.mul_nonneg D.q0 F.b0
  have h2 : q * b ≤ 4294967297 * 4294967295 := Int.mul_le_mul D.qB F.b1 F.b0 (by omega)
  omega
theorem KD.down_ge (F : KF a b v u t) (D : KD a b v u t q r) (h : 4294967296 ≤ q) : KD a b v u t (q - 1) (r + a) := by
  have := F.lt; have := F.a0
  refine ⟨?_, by have := D.r0; omega, by omega, by have := D.qB; omega, by omega⟩
  have := D.rest
  rw [Int.sub_mul, Int.one_mul]; omega
theorem KD.down_gt (F : KF a b v u t) (D : KD a b v u t q r) (h : 4294967296 * r + t < q * b) : KD a b v u t (q - 1) (r + a) := by
  have h0 := F.a0
  have h1 : (u * 4294967296 + t) / v < q := by
    refine Int.ediv_lt_of_lt_mul F.vpos ?_
    have := D.rest
    rw [kd_split q a b v F.hv]; omega
  have := F.nonneg
  refine ⟨?_, by have := D.r0; omega, by omega, by have := D.qB; omega, by omega⟩
  have := D.rest
  rw [Int.sub_mul, Int.one_mul]; omega
theorem KD.done (F : KF a b v u t) (D : KD a b v u t q r) (h : q * b ≤ 4294967296 * r + t) : q = (u * 4294967296 + t) / v := by
  have h1 : q ≤ (u * 4294967296 + t) / v := by
    refine Int.le_ediv_of_mul_le F.vpos ?_
    have := D.rest
    rw [kd_split q a b v F.hv]; omega
  have := D.up; omega
theorem KD.broke (F : KF a b v u t) (D : KD a b v u t q r) (h : q ≤ 4294967296) (hr : 4294967296 ≤ r) : q = (u * 4294967296 + t) / v := by
  refine KD.done F D ?_
  have h2 : q * b ≤ 4294967296 * 4294967295 := Int.mul_le_mul h F.b1 F.b0 (by omega)
  have := F.t0; omega
theorem KF.next (F : KF a b v u t) : us (us (us (u * 4294967296) + t) - us ((u * 4294967296 + t) / v * v)) = (u * 4294967296 + t) % v := by
  have e := Int.emod_add_mul_ediv (u * 4294967296 + t) v
  have e0 := emod_rng (u * 4294967296 + t) v F.vpos
  have := F.hv; have := F.a1; have := F.b1
  rw [Int.mul_comm v] at e
  generalize (u * 4294967296 + t) / v * v = p at *
  generalize (u * 4294967296 + t) % v = x at *
  unfold us; omega
end

/-- both halves together: what is divided, the quotient and the remainder -/
theorem kd_end {N y v u t1 t0 k : Int} (hk : 0 < k) (hy : 0 < y) (hv : v = y * k) (hN : u * 18446744073709551616 + (t1 * 4294967296 + t0) = N * k) (h1 : 0 ≤ t0) (h2 : t0 < 4294967296) (hu : 0 ≤ u) (ht : 0 ≤ t1) :
    let x := (u * 4294967296 + t1) % v
    (u * 4294967296 + t1) / v * 4294967296 + (x * 4294967296 + t0) / v = N / y ∧ (x * 4294967296 + t0) % v / k = N % y := by
  intro x
  have hvp : 0 < v := by rw [hv]; exact Int.mul_pos hy hk
  have e1 := Int.emod_add_mul_ediv (u * 4294967296 + t1) v
  have e2 := Int.emod_add_mul_ediv (x * 4294967296 + t0) v
  have r2 := emod_rng (x * 4294967296 + t0) v hvp
  have hX : x = (u * 4294967296 + t1) % v := rfl
  rw [← hX] at e1
  have key : N * k = v * ((u * 4294967296 + t1) / v * 4294967296 + (x * 4294967296 + t0) / v) + (x * 4294967296 + t0) % v := by
    rw [Int.mul_add, ← Int.mul_assoc]; omega
  have d1 : N * k / v = (u * 4294967296 + t1) / v * 4294967296 + (x * 4294967296 + t0) / v := by
    rw [key, Int.add_comm, Int.add_mul_ediv_left _ _ (by omega), Int.ediv_eq_zero_of_lt r2.1 r2.2]; omega
  have d2 : N * k % v = (x * 4294967296 + t0) % v := emod_of key r2.1 r2.2
  constructor
  · rw [← d1, hv, Int.mul_ediv_mul_of_pos_left _ _ hk]
  · rw [← d2, hv, Int.mul_comm N, Int.mul_comm y, Int.mul_emod_mul_of_pos _ _ hk, Int.mul_ediv_cancel_left _ (by omega)]

/-- the shift that makes the divisor's highest digit one -/
theorem kd_norm {hi lo y : Int} {k : Nat} (hk : k ≤ 63) (h0 : 0 ≤ hi) (h1 : hi < y) (h3 : 0 ≤ lo) (h4 : lo ≤ 18446744073709551615) (hb : y * (2:Int)^k ≤ 18446744073709551615) :
    bits .or .u64 (us (hi * (2:Int)^k)) (lo / (2:Int)^(64 - k)) = hi * 2^k + lo / 2^(64-k) ∧
    (hi * 2^k + lo / 2^(64-k)) * 18446744073709551616 + us (lo * 2^k) = (hi * 18446744073709551616 + lo) * 2^k ∧
    0 ≤ hi * 2^k + lo / 2^(64-k) ∧ hi * 2^k + lo / 2^(64-k) < y * 2^k := by
  have hp : (0:Int) < 2^k := Int.pow_pos (by omega)
  have hp2 : (0:Int) < 2^(64-k) := Int.pow_pos (by omega)
  have e64 : (2:Int)^k * 2^(64-k) = 18446744073709551616 := by rw [← Int.pow_add, show k + (64 - k) = 64 by omega]; rfl
  have hh : hi * 2^k ≤ (y - 1) * 2^k := Int.mul_le_mul_of_nonneg_right (by omega) (by omega)
  have hh0 : 0 ≤ hi * 2^k := Int.mul_nonneg h0 (by omega)
  have hs : (y - 1) * (2:Int)^k = y * 2^k - 2^k := by rw [Int.sub_mul, Int.one_mul]
  have hl0 : 0 ≤ lo / 2^(64-k) := Int.ediv_nonneg h3 (by omega)
  have hl1 : lo / 2^(64-k) < 2^k := Int.ediv_lt_of_lt_mul hp2 (by rw [e64]; omega)
  have hus : us (hi * (2:Int)^k) = hi * 2^k := us_in _ hh0 (by omega)
  have hlow : lo * 2^k / 18446744073709551616 = lo / 2^(64-k) := by
    rw [← e64, Int.mul_comm lo, Int.mul_ediv_mul_of_pos _ _ hp]
  refine ⟨?_, ?_, by omega, by omega⟩
  · rw [hus, u64_or _ _ hh0 (by omega) hl0 (by omega)]
    have : (hi * 2^k).toNat ||| (lo / 2^(64-k)).toNat = (hi * 2^k).toNat + (lo / 2^(64-k)).toNat := by
      refine nat_join k _ _ ?_ ?_
      · obtain ⟨n, rfl⟩ := Int.eq_ofNat_of_zero_le h0
        rw [show ((n : Int) * 2^k) = ((n * 2^k : Nat) : Int) by push_cast; rfl, Int.toNat_natCast]
        exact Nat.mul_mod_left _ _
      · have e : ((2^k : Nat) : Int) = (2:Int)^k := by push_cast; rfl
        omega
    rw [this]; omega
  · have e5 := Int.emod_add_mul_ediv (lo * 2^k) 18446744073709551616
    rw [hlow] at e5
    unfold us
    rw [Int.add_mul, Int.add_mul, Int.mul_right_comm hi]; omega

theorem and_low (x : Int) (h0 : 0 ≤ x) (h1 : x ≤ 18446744073709551615) : bits .and .u64 x 4294967295 = x % 4294967296 := by
  rw [u64_and x 4294967295 h0 (by omega) (by omega) (by omega)]
  have : x.toNat &&& (4294967295 : Int).toNat = x.toNat % 4294967296 := Nat.and_two_pow_sub_one_eq_mod x.toNat 32
  rw [this]; omega

end Go.Proofs.YtcemohoigdninaaGreatDoor
