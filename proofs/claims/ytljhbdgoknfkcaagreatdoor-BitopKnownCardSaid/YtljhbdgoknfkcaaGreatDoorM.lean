/- Plain arithmetic under congruences: remainders, wraps, greatest common divisors. No program. -/
import Derived.Test.YtljhbdgoknfkcaaGreatDoorQ
import Derived.Laws.BitsAllLaws
namespace Go.Proofs.YtljhbdgoknfkcaaGreatDoor
open Go Go.RowKit
set_option linter.unusedVariables false
set_option linter.unusedSimpArgs false

/-- a number as 64 binary digits without a sign -/
def us (n : Int) : Int := n % 18446744073709551616
/-- and with one -/
def sg (n : Int) : Int := (n + 9223372036854775808) % 18446744073709551616 - 9223372036854775808
theorem us_eq (n : Int) : IntKind.u64.wrap n = us n := by unfold us; rw [IntKind.wrap_u64]
theorem sg_eq (n : Int) : IntKind.i64.wrap n = sg n := by unfold sg; rw [IntKind.wrap_i64]
theorem sg_eq' (n : Int) : wrap64 n = sg n := by unfold sg; unfold wrap64; rfl
theorem us_rng (n : Int) : 0 ≤ us n ∧ us n ≤ 18446744073709551615 := by unfold us; omega
theorem sg_rng (n : Int) : -9223372036854775808 ≤ sg n ∧ sg n ≤ 9223372036854775807 := by unfold sg; omega
theorem us_sg (n : Int) (h : 0 ≤ n) (h1 : n ≤ 18446744073709551615) : us (sg n) = n := by unfold us sg; omega
theorem sg_us (n : Int) (h : -9223372036854775808 ≤ n) (h1 : n ≤ 9223372036854775807) : sg (us n) = n := by unfold us sg; omega
theorem us_in (n : Int) (h : 0 ≤ n) (h1 : n ≤ 18446744073709551615) : us n = n := by unfold us; omega
theorem sg_in (n : Int) (h : -9223372036854775808 ≤ n) (h1 : n ≤ 9223372036854775807) : sg n = n := by unfold sg; omega

theorem emod_of {n m q r : Int} (h : n = m * q + r) (h0 : 0 ≤ r) (h1 : r < m) : n % m = r := by
  rw [h, Int.add_comm, Int.add_mul_emod_self_left]; exact Int.emod_eq_of_lt h0 h1
theorem emod_rng (n m : Int) (h : 0 < m) : 0 ≤ n % m ∧ n % m < m := ⟨Int.emod_nonneg _ (by omega), Int.emod_lt_of_pos _ h⟩
/-- both have the same remainder, if their difference is a multiple -/
theorem emod_same {a b m : Int} (k : Int) (h : a = b + m * k) : a % m = b % m := by rw [h, Int.add_mul_emod_self_left]
theorem mod_sub_zero {m y : Int} (h : 0 < m) : ∀ x, x % m = y % m → ∃ k, x = y + m * k := by
  intro x e
  refine ⟨x / m - y / m, ?_⟩
  have e1 := Int.emod_add_mul_ediv x m
  have e2 := Int.emod_add_mul_ediv y m
  rw [Int.mul_sub]; omega

/-- the difference of remainders, as the program makes it -/
def cminus (a b m : Int) : Int := if a < b then a + (m - b) else a - b
theorem cminus_mod {a b m : Int} (ha : 0 ≤ a) (ha' : a < m) (hb : 0 ≤ b) (hb' : b < m) : cminus a b m = (a - b) % m := by
  unfold cminus; split
  · exact (emod_of (q := -1) (by omega) (by omega) (by omega)).symm
  · exact (emod_of (q := 0) (by omega) (by omega) (by omega)).symm
theorem cminus_rng {a b m : Int} (ha : 0 ≤ a) (ha' : a < m) (hb : 0 ≤ b) (hb' : b < m) : 0 ≤ cminus a b m ∧ cminus a b m < m := by unfold cminus; split <;> omega

theorem rest_neg (n m : Int) (h : n < 0) (h0 : 0 < m) : ∃ q, n.tmod m = -q ∧ 0 ≤ q ∧ q < m ∧ Hid (cminus 0 q m = n % m) := by
  refine ⟨(-n) % m, ?_, Int.emod_nonneg _ (by omega), Int.emod_lt_of_pos _ h0, ?_⟩
  · have : (-n).tmod m = (-n) % m := Int.tmod_eq_emod_of_nonneg (by omega)
    rw [Int.neg_tmod] at this; omega
  · have e1 := emod_rng (-n) m h0
    show cminus 0 ((-n) % m) m = n % m
    rw [cminus_mod (by omega) (by omega) e1.1 e1.2, Int.zero_sub]
    refine emod_same ((-n) / m) ?_
    have e3 := Int.emod_add_mul_ediv (-n) m
    omega
/-- the reference's way to the same remainder: m - 1 - (-(n + 1)) % m -/
theorem rest_neg' (n m : Int) (h : n < 0) (h0 : 0 < m) : m - 1 - (-(n + 1)) % m = n % m := by
  have e1 := emod_rng (-(n + 1)) m h0
  have e3 := Int.emod_add_mul_ediv (-(n + 1)) m
  refine (emod_of (q := -((-(n + 1)) / m) - 1) ?_ (by omega) (by omega)).symm
  rw [Int.mul_sub, Int.mul_neg]; omega

/-- a congruence: modulus and remainder -/
def crest (m r g : Int) : Int := if m = 0 then sg r % g else r % g
def chas (m r n : Int) : Bool := if m = 0 then us n == r else n % m == r
def cwithin (am ar bm br : Int) : Bool := if am = 0 then chas bm br (sg ar) else if bm = 0 then false else am % bm == 0 && ar % bm == br
def cright (m r : Int) : Bool := m == 0 || decide (r < m)
/-- the greatest common divisor -/
def cg (a b : Int) : Int := (Int.gcd a b : Int)
theorem crest_rng (m r g : Int) (h : 0 < g) : 0 ≤ crest m r g ∧ crest m r g < g := by unfold crest; split <;> exact emod_rng _ _ h
theorem cg_zero (a : Int) (h : 0 ≤ a) : cg a 0 = a := by unfold cg; rw [Int.gcd_zero_right]; omega
theorem cg_step (a b : Int) : cg b (a % b) = cg a b := by
  unfold cg
  have h := Int.gcd_add_mul_right_left b (a % b) (a / b)
  rw [Int.mul_comm, Int.emod_add_mul_ediv] at h
  rw [Int.gcd_comm b, ← h]
theorem cg_nonneg (a b : Int) : 0 ≤ cg a b := by unfold cg; omega
theorem cg_zero_iff {a b : Int} : cg a b = 0 ↔ a = 0 ∧ b = 0 := by
  unfold cg
  have := @Int.gcd_eq_zero_iff a b
  omega
theorem cg_dvd_left (a b : Int) : cg a b ∣ a := Int.gcd_dvd_left ..
theorem cg_dvd_right (a b : Int) : cg a b ∣ b := Int.gcd_dvd_right ..
theorem cg_le_left {a b : Int} (h : 0 < a) : cg a b ≤ a := Int.le_of_dvd h (cg_dvd_left a b)
theorem cg_le_right {a b : Int} (h : 0 < b) : cg a b ≤ b := Int.le_of_dvd h (cg_dvd_right a b)
theorem cg_bd {a b B : Int} (ha : 0 ≤ a) (hb : 0 ≤ b) (ha' : a ≤ B) (hb' : b ≤ B) : cg a b ≤ B := by
  by_cases h : a = 0
  · subst h
    have : cg 0 b = b := by unfold cg; rw [Int.gcd_zero_left]; omega
    omega
  · have := cg_le_left (a := a) (b := b) (by omega); omega
theorem cg_comm (a b : Int) : cg a b = cg b a := by unfold cg; rw [Int.gcd_comm]


/-- the least number from n on -/
def cleast (m r n : Int) : Int × Bool := if m = 0 then (if sg r < n then (0, false) else (sg r, true)) else if (r - n) % m > 9223372036854775807 - n then (0, false) else (n + (r - n) % m, true)
/-- the greatest one up to n -/
def cgreat (m r n : Int) : Int × Bool := if m = 0 then (if sg r > n then (0, false) else (sg r, true)) else if (n - r) % m > n + 9223372036854775808 then (0, false) else (n - (n - r) % m, true)
/-- how many there are -/
def cmany (m r lo hi : Int) : Int × Bool :=
  if (cleast m r lo).2 = false ∨ (cleast m r lo).1 > hi then (0, true) else if m = 0 then (1, true)
  else if ((cgreat m r hi).1 - (cleast m r lo).1) / m = 18446744073709551615 then (0, false) else (((cgreat m r hi).1 - (cleast m r lo).1) / m + 1, true)
theorem sub_mod_mod {a b m : Int} (h : 0 < m) : cminus (a % m) (b % m) m = (a - b) % m := by
  have ha := emod_rng a m h
  have hb := emod_rng b m h
  rw [cminus_mod ha.1 ha.2 hb.1 hb.2, ← Int.sub_emod]
theorem cleast_rng (m r n : Int) (hm : 0 ≤ m) (h1 : -9223372036854775808 ≤ n) (h2 : n ≤ 9223372036854775807) : -9223372036854775808 ≤ (cleast m r n).1 ∧ (cleast m r n).1 ≤ 9223372036854775807 := by
  have := sg_rng r
  unfold cleast; split
  · split <;> simp <;> omega
  · have := emod_rng (r - n) m (by omega)
    split <;> simp <;> omega
theorem cgreat_rng (m r n : Int) (hm : 0 ≤ m) (h1 : -9223372036854775808 ≤ n) (h2 : n ≤ 9223372036854775807) : -9223372036854775808 ≤ (cgreat m r n).1 ∧ (cgreat m r n).1 ≤ 9223372036854775807 := by
  have := sg_rng r
  unfold cgreat; split
  · split <;> simp <;> omega
  · have := emod_rng (n - r) m (by omega)
    split <;> simp <;> omega
theorem cleast_ge {m r n : Int} (hm : 0 ≤ m) (h : (cleast m r n).2 = true) : n ≤ (cleast m r n).1 := by
  unfold cleast at *
  split at h
  · split at h
    · cases h
    · simp only [*, if_true, if_false]; omega
  · have := emod_rng (r - n) m (by omega)
    split at h
    · cases h
    · simp only [*, if_false]; omega


theorem cgreat_le {m r n : Int} (hm : 0 ≤ m) (h : (cgreat m r n).2 = true) : (cgreat m r n).1 ≤ n := by
  unfold cgreat at *
  split at h
  · split at h
    · cases h
    · simp only [*, if_true, if_false]; omega
  · have := emod_rng (n - r) m (by omega)
    split at h
    · cases h
    · simp only [*, if_false]; omega

/-- by how much two numbers differ -/
def cdist (x y : Int) : Int := if x < y then y - x else x - y
def cjoin (am ar bm br : Int) : Int × Int :=
  if am = 0 ∧ bm = 0 then (if ar = br then (0, ar) else (cdist (sg ar) (sg br), sg ar % cdist (sg ar) (sg br)))
  else (cg (cg am bm) (cdist (crest am ar (cg am bm)) (crest bm br (cg am bm))), crest am ar (cg am bm) % cg (cg am bm) (cdist (crest am ar (cg am bm)) (crest bm br (cg am bm))))
def cadd (am ar bm br : Int) : Int × Int := if am = 0 ∧ bm = 0 then (0, us (ar + br)) else (cg am bm, (crest am ar (cg am bm) + crest bm br (cg am bm)) % cg am bm)
def csub (am ar bm br : Int) : Int × Int := if am = 0 ∧ bm = 0 then (0, us (ar - br)) else (cg am bm, (crest am ar (cg am bm) - crest bm br (cg am bm)) % cg am bm)
def cabs (n : Int) : Int := if n < 0 then -n else n
def cscale (n m r : Int) : Int × Int := if n = 0 then (0, 0) else if cabs n * m ≤ 18446744073709551615 then (cabs n * m, n * r % (cabs n * m)) else (m, n * r % m)
def cmul (am ar bm br : Int) : Int × Int :=
  if am = 0 then (if bm = 0 then (0, us (ar * br)) else cscale (sg ar) bm br) else if bm = 0 then cscale (sg br) am ar
  else if cg am ar * cg bm br ≤ 18446744073709551615 ∧ cg am bm < cg am ar * cg bm br then (cg am ar * cg bm br, 0)
  else (cg am bm, crest am ar (cg am bm) * crest bm br (cg am bm) % cg am bm)
def ccommon (am ar bm br : Int) : Bool := if am = 0 then chas bm br (sg ar) else if bm = 0 then chas am ar (sg br) else crest am ar (cg am bm) == crest bm br (cg am bm)
def cmeet (am ar bm br : Int) : (Int × Int) × Bool :=
  if ccommon am ar bm br = false then ((0, 0), false) else if cwithin am ar bm br = false ∧ (cwithin bm br am ar = true ∨ bm > am) then ((bm, br), true) else ((am, ar), true)
theorem cdist_rng {x y : Int} : 0 ≤ cdist x y := by unfold cdist; split <;> omega
theorem cg_pos {a b : Int} (h : ¬ (a = 0 ∧ b = 0)) : 0 < cg a b := by
  have := cg_nonneg a b
  have h2 := @cg_zero_iff a b
  omega
theorem cabs_rng {n : Int} (h : n ≠ 0) : 0 < cabs n := by unfold cabs; split <;> omega
theorem sg_inj {a b : Int} (ha : 0 ≤ a) (ha' : a ≤ 18446744073709551615) (hb : 0 ≤ b) (hb' : b ≤ 18446744073709551615) (h : sg a = sg b) : a = b := by
  rw [← us_sg a ha ha', ← us_sg b hb hb', h]

/-! The greatest power of two that divides a number, as the program (M and -M) and as the reference (a loop) makes it. -/
/-- f bits are looked at -/
def lbN : Nat → Nat → Nat
  | 0, _ => 1
  | f + 1, m => if m % 2 = 0 then 2 * lbN f (m / 2) else 1
theorem lbN_pos : ∀ f m, 0 < lbN f m := by
  intro f
  induction f with
  | zero => intro m; exact Nat.one_pos
  | succ f ih => intro m; unfold lbN; split
                 · have := ih (m / 2); omega
                 · omega
theorem and_compl (k f : Nat) (h : k < 2 ^ f) : k &&& (2 ^ f - 1 - k) = 0 := by
  apply Nat.eq_of_testBit_eq
  intro i
  rw [Nat.testBit_and, Nat.zero_testBit, show 2 ^ f - 1 - k = 2 ^ f - (k + 1) by omega, Nat.testBit_two_pow_sub_succ h]
  cases k.testBit i <;> simp
theorem and_two (a b : Nat) : (2 * a) &&& (2 * b) = 2 * (a &&& b) := by
  apply Nat.eq_of_testBit_eq
  intro i
  cases i with
  | zero => simp
  | succ i => rw [Nat.testBit_and, Nat.testBit_succ, Nat.testBit_succ, Nat.testBit_succ, show 2 * a / 2 = a by omega, show 2 * b / 2 = b by omega, show 2 * (a &&& b) / 2 = a &&& b by omega, Nat.testBit_and]
theorem and_odd (a b : Nat) (h : a &&& b = 0) : (2 * a + 1) &&& (2 * b + 1) = 1 := by
  apply Nat.eq_of_testBit_eq
  intro i
  cases i with
  | zero => simp
  | succ i =>
    have e := congrArg (fun x => Nat.testBit x i) h
    simp only [Nat.testBit_and, Nat.zero_testBit] at e
    rw [Nat.testBit_and, Nat.testBit_succ, Nat.testBit_succ, Nat.testBit_succ, show (2 * a + 1) / 2 = a by omega, show (2 * b + 1) / 2 = b by omega, e]
    simp
theorem and_neg : ∀ f m, 0 < m → m < 2 ^ f → m &&& (2 ^ f - m) = lbN f m := by
  intro f
  induction f with
  | zero => intro m h0 h1; simp at h1; omega
  | succ f ih =>
    intro m h0 h1
    have e : 2 ^ (f + 1) = 2 * 2 ^ f := by rw [Nat.pow_succ]; omega
    rw [e] at h1 ⊢
    unfold lbN
    split
    · rename_i h
      have h2 : m = 2 * (m / 2) := by omega
      have h3 := ih (m / 2) (by omega) (by omega)
      rw [← h3, ← and_two]
      congr 1; omega
    · rename_i h
      have h2 : m = 2 * (m / 2) + 1 := by omega
      have h3 := and_odd (m / 2) (2 ^ f - 1 - m / 2) (and_compl (m / 2) f (by omega))
      rw [← h3]
      congr 1; omega

/-- the greatest power of two that divides m -/
def clow (m : Int) : Int := (lbN 64 m.toNat : Int)
theorem clow_rng (m : Int) (h : 0 < m) (h' : m ≤ 18446744073709551615) : 0 < clow m ∧ clow m ≤ m := by
  have h1 := and_neg 64 m.toNat (by omega) (by omega)
  have h2 := lbN_pos 64 m.toNat
  have h3 := Nat.and_le_left (n := m.toNat) (m := 2 ^ 64 - m.toNat)
  unfold clow
  omega
theorem clow_and (m : Int) (h : 0 < m) (h' : m ≤ 18446744073709551615) : bits .and .u64 m (18446744073709551616 - m) = clow m := by
  rw [u64_and _ _ (by omega) (by omega) (by omega) (by omega), show (18446744073709551616 - m).toNat = 2 ^ 64 - m.toNat by omega, and_neg 64 m.toNat (by omega) (by omega)]
  rfl
def cwrapped (m r : Int) : Int × Int := if m = 0 then (0, r) else (clow m, r % clow m)

/-! The arithmetic of a division of two digits to the base 2^32 by one of 64 binary digits, as math/bits does it. No program. -/
theorem kd_split (q a b v : Int) (hv : v = a * 4294967296 + b) : q * v = q * a * 4294967296 + q * b := by rw [hv, Int.mul_add, Int.mul_assoc]

/-- what holds of the guess q and its rest r -/
structure KD (a b v u t q r : Int) : Prop where
  rest : q * a + r = u
  r0 : 0 ≤ r
  q0 : 0 ≤ q
  qB : q ≤ 4294967297
  up : (u * 4294967296 + t) / v ≤ q
/-- what is fixed -/
structure KF (a b v u t : Int) : Prop where
  hv : v = a * 4294967296 + b
  a0 : 2147483648 ≤ a
  a1 : a ≤ 4294967295
  b0 : 0 ≤ b
  b1 : b ≤ 4294967295
  u0 : 0 ≤ u
  u1 : u < v
  t0 : 0 ≤ t
  t1 : t ≤ 4294967295

section
variable {a b v u t q r : Int}
theorem KF.vpos (F : KF a b v u t) : 0 < v := by have := F.hv; have := F.a0; have := F.b0; omega
theorem KF.lt (F : KF a b v u t) : (u * 4294967296 + t) / v < 4294967296 := by
  refine Int.ediv_lt_of_lt_mul F.vpos ?_
  have := F.u1; have := F.t1; omega
theorem KF.nonneg (F : KF a b v u t) : 0 ≤ (u * 4294967296 + t) / v := Int.ediv_nonneg (by have := F.u0; have := F.t0; omega) (by have := F.vpos; omega)
theorem KF.start (F : KF a b v u t) : KD a b v u t (u / a) (u - u / a * a) ∧ u - u / a * a < 4294967296 ∧ 0 ≤ u / a * a ∧ u / a * a ≤ u := by
  have e := Int.emod_add_mul_ediv u a
  have e0 := emod_rng u a (by have := F.a0; omega)
  have hq0 : 0 ≤ u / a := Int.ediv_nonneg F.u0 (by have := F.a0; omega)
  have hm : u / a * a = a * (u / a) := Int.mul_comm _ _
  have hm0 : 0 ≤ u / a * a := Int.mul_nonneg hq0 (by have := F.a0; omega)
  have := F.a1
  refine ⟨⟨by omega, by omega, hq0, ?_, ?_⟩, by omega, hm0, by omega⟩
  · have h1 : u / a < 4294967298 := by
      refine Int.ediv_lt_of_lt_mul (by have := F.a0; omega) ?_
      have := F.u1; have := F.hv; have := F.b1; have := F.a0; omega
    omega
  · have h2 : (u * 4294967296 + t) / v < u / a + 1 := by
      refine Int.ediv_lt_of_lt_mul F.vpos ?_
      have h3 := kd_split (u / a + 1) a b v F.hv
      have h4 : (u / a + 1) * a = u / a * a + a := by rw [Int.add_mul, Int.one_mul]
      have h5 : 0 ≤ (u / a + 1) * b := Int.mul_nonneg (by omega) F.b0
      have := F.t1
      rw [h3, h4]; omega
    omega
/-- the product of the guess and the low digit -/
theorem KD.prod (F : KF a b v u t) (D : KD a b v u t q r) : 0 ≤ q * b ∧ q * b ≤ 18446744073709551615 := by
  have h1 : 0 ≤ q * b := Int.mul_nonneg D.q0 F.b0
  have h2 : q * b ≤ 4294967297 * 4294967295 := Int.mul_le_mul D.qB F.b1 F.b0 (by omega)
  omega
theorem KD.down_ge (F : KF a b v u t) (D : KD a b v u t q r) (h : 4294967296 ≤ q) : KD a b v u t (q - 1) (r + a) := by
  have := F.lt; have := F.a0
  refine ⟨?_, by have := D.r0; omega, by omega, by have := D.qB; omega, by omega⟩
  have := D.rest
  rw [Int.sub_mul, Int.one_mul]; omega
theorem KD.down_gt (F : KF a b v u t) (D : KD a b v u t q r) (h : 4294967296 * r + t < q * b) : KD a b v u t (q - 1) (r + a) := by
  have h0 := F.a0
  have h1 : (u * 4294967296 + t) / v < q := by
    refine Int.ediv_lt_of_lt_mul F.vpos ?_
    have := D.rest
    rw [kd_split q a b v F.hv]; omega
  have := F.nonneg
  refine ⟨?_, by have := D.r0; omega, by omega, by have := D.qB; omega, by omega⟩
  have := D.rest
  rw [Int.sub_mul, Int.one_mul]; omega
theorem KD.done (F : KF a b v u t) (D : KD a b v u t q r) (h : q * b ≤ 4294967296 * r + t) : q = (u * 4294967296 + t) / v := by
  have h1 : q ≤ (u * 4294967296 + t) / v := by
    refine Int.le_ediv_of_mul_le F.vpos ?_
    have := D.rest
    rw [kd_split q a b v F.hv]; omega
  have := D.up; omega
theorem KD.broke (F : KF a b v u t) (D : KD a b v u t q r) (h : q ≤ 4294967296) (hr : 4294967296 ≤ r) : q = (u * 4294967296 + t) / v := by
  refine KD.done F D ?_
  have h2 : q * b ≤ 4294967296 * 4294967295 := Int.mul_le_mul h F.b1 F.b0 (by omega)
  have := F.t0; omega
theorem KF.next (F : KF a b v u t) : us (us (us (u * 4294967296) + t) - us ((u * 4294967296 + t) / v * v)) = (u * 4294967296 + t) % v := by
  have e := Int.emod_add_mul_ediv (u * 4294967296 + t) v
  have e0 := emod_rng (u * 4294967296 + t) v F.vpos
  have := F.hv; have := F.a1; have := F.b1
  rw [Int.mul_comm v] at e
  generalize (u * 4294967296 + t) / v * v = p at *
  generalize (u * 4294967296 + t) % v = x at *
  unfold us; omega
end

/-- both halves together: what is divided, the quotient and the remainder -/
theorem kd_end {N y v u t1 t0 k : Int} (hk : 0 < k) (hy : 0 < y) (hv : v = y * k) (hN : u * 18446744073709551616 + (t1 * 4294967296 + t0) = N * k) (h1 : 0 ≤ t0) (h2 : t0 < 4294967296) (hu : 0 ≤ u) (ht : 0 ≤ t1) :
    let x := (u * 4294967296 + t1) % v
    (u * 4294967296 + t1) / v * 4294967296 + (x * 4294967296 + t0) / v = N / y ∧ (x * 4294967296 + t0) % v / k = N % y := by
  intro x
  have hvp : 0 < v := by rw [hv]; exact Int.mul_pos hy hk
  have e1 := Int.emod_add_mul_ediv (u * 4294967296 + t1) v
  have e2 := Int.emod_add_mul_ediv (x * 4294967296 + t0) v
  have r2 := emod_rng (x * 4294967296 + t0) v hvp
  have hX : x = (u * 4294967296 + t1) % v := rfl
  rw [← hX] at e1
  have key : N * k = v * ((u * 4294967296 + t1) / v * 4294967296 + (x * 4294967296 + t0) / v) + (x * 4294967296 + t0) % v := by
    rw [Int.mul_add, ← Int.mul_assoc]; omega
  have d1 : N * k / v = (u * 4294967296 + t1) / v * 4294967296 + (x * 4294967296 + t0) / v := by
    rw [key, Int.add_comm, Int.add_mul_ediv_left _ _ (by omega), Int.ediv_eq_zero_of_lt r2.1 r2.2]; omega
  have d2 : N * k % v = (x * 4294967296 + t0) % v := emod_of key r2.1 r2.2
  constructor
  · rw [← d1, hv, Int.mul_ediv_mul_of_pos_left _ _ hk]
  · rw [← d2, hv, Int.mul_comm N, Int.mul_comm y, Int.mul_emod_mul_of_pos _ _ hk, Int.mul_ediv_cancel_left _ (by omega)]

/-- the shift that makes the divisor's highest digit one -/
theorem kd_norm {hi lo y : Int} {k : Nat} (hk : k ≤ 63) (h0 : 0 ≤ hi) (h1 : hi < y) (h3 : 0 ≤ lo) (h4 : lo ≤ 18446744073709551615) (hb : y * (2:Int)^k ≤ 18446744073709551615) :
    bits .or .u64 (us (hi * (2:Int)^k)) (lo / (2:Int)^(64 - k)) = hi * 2^k + lo / 2^(64-k) ∧
    (hi * 2^k + lo / 2^(64-k)) * 18446744073709551616 + us (lo * 2^k) = (hi * 18446744073709551616 + lo) * 2^k ∧
    0 ≤ hi * 2^k + lo / 2^(64-k) ∧ hi * 2^k + lo / 2^(64-k) < y * 2^k := by
  have hp : (0:Int) < 2^k := Int.pow_pos (by omega)
  have hp2 : (0:Int) < 2^(64-k) := Int.pow_pos (by omega)
  have e64 : (2:Int)^k * 2^(64-k) = 18446744073709551616 := by rw [← Int.pow_add, show k + (64 - k) = 64 by omega]; rfl
  have hh : hi * 2^k ≤ (y - 1) * 2^k := Int.mul_le_mul_of_nonneg_right (by omega) (by omega)
  have hh0 : 0 ≤ hi * 2^k := Int.mul_nonneg h0 (by omega)
  have hs : (y - 1) * (2:Int)^k = y * 2^k - 2^k := by rw [Int.sub_mul, Int.one_mul]
  have hl0 : 0 ≤ lo / 2^(64-k) := Int.ediv_nonneg h3 (by omega)
  have hl1 : lo / 2^(64-k) < 2^k := Int.ediv_lt_of_lt_mul hp2 (by rw [e64]; omega)
  have hus : us (hi * (2:Int)^k) = hi * 2^k := us_in _ hh0 (by omega)
  have hlow : lo * 2^k / 18446744073709551616 = lo / 2^(64-k) := by
    rw [← e64, Int.mul_comm lo, Int.mul_ediv_mul_of_pos _ _ hp]
  refine ⟨?_, ?_, by omega, by omega⟩
  · rw [hus, u64_or _ _ hh0 (by omega) hl0 (by omega)]
    have : (hi * 2^k).toNat ||| (lo / 2^(64-k)).toNat = (hi * 2^k).toNat + (lo / 2^(64-k)).toNat := by
      refine nat_join k _ _ ?_ ?_
      · obtain ⟨n, rfl⟩ := Int.eq_ofNat_of_zero_le h0
        rw [show ((n : Int) * 2^k) = ((n * 2^k : Nat) : Int) by push_cast; rfl, Int.toNat_natCast]
        exact Nat.mul_mod_left _ _
      · have e : ((2^k : Nat) : Int) = (2:Int)^k := by push_cast; rfl
        omega
    rw [this]; omega
  · have e5 := Int.emod_add_mul_ediv (lo * 2^k) 18446744073709551616
    rw [hlow] at e5
    unfold us
    rw [Int.add_mul, Int.add_mul, Int.mul_right_comm hi]; omega

theorem and_low (x : Int) (h0 : 0 ≤ x) (h1 : x ≤ 18446744073709551615) : bits .and .u64 x 4294967295 = x % 4294967296 := by
  rw [u64_and x 4294967295 h0 (by omega) (by omega) (by omega)]
  have : x.toNat &&& (4294967295 : Int).toNat = x.toNat % 4294967296 := Nat.and_two_pow_sub_one_eq_mod x.toNat 32
  rw [this]; omega

end Go.Proofs.YtljhbdgoknfkcaaGreatDoor
