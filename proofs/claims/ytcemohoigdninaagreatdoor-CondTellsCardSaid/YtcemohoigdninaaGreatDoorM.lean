/- Plain arithmetic under congruences: remainders, wraps, greatest common divisors. No program. -/
import Derived.Test.YtcemohoigdninaaGreatDoorQ
namespace Go.Proofs.YtcemohoigdninaaGreatDoor
open Go Go.RowKit
set_option linter.unusedVariables false
set_option linter.unusedSimpArgs false

/-- a number as 64 binary digits without a sign -/
def us (n : Int) : Int := n % 18446744073709551616
/-- and with one -/
def sg (n : Int) : Int := (n + 9223372036854775808) % 18446744073709551616 - 9223372036854775808
theorem us_eq (n : Int) : IntKind.u64.wrap n = us n := by unfold us; rw [IntKind.wrap_u64]
theorem sg_eq (n : Int) : IntKind.i64.wrap n = sg n := by unfold sg; rw [IntKind.wrap_i64]
theorem sg_eq' (n : Int) : wrap64 n = sg n := by unfold sg; unfold wrap64; rfl
theorem us_rng (n : Int) : 0 ≤ us n ∧ us n ≤ 18446744073709551615 := by unfold us; omega
theorem sg_rng (n : Int) : -9223372036854775808 ≤ sg n ∧ sg n ≤ 9223372036854775807 := by unfold sg; omega
theorem us_sg (n : Int) (h : 0 ≤ n) (h1 : n ≤ 18446744073709551615) : us (sg n) = n := by unfold us sg; omega
theorem sg_us (n : Int) (h : -9223372036854775808 ≤ n) (h1 : n ≤ 9223372036854775807) : sg (us n) = n := by unfold us sg; omega
theorem us_in (n : Int) (h : 0 ≤ n) (h1 : n ≤ 18446744073709551615) : us n = n := by unfold us; omega
theorem sg_in (n : Int) (h : -9223372036854775808 ≤ n) (h1 : n ≤ 9223372036854775807) : sg n = n := by unfold sg; omega

theorem emod_of {n m q r : Int} (h : n = m * q + r) (h0 : 0 ≤ r) (h1 : r < m) : n % m = r := by
  rw [h, Int.add_comm, Int.add_mul_emod_self_left]; exact Int.emod_eq_of_lt h0 h1
theorem emod_rng (n m : Int) (h : 0 < m) : 0 ≤ n % m ∧ n % m < m := ⟨Int.emod_nonneg _ (by omega), Int.emod_lt_of_pos _ h⟩
/-- both have the same remainder, if their difference is a multiple -/
theorem emod_same {a b m : Int} (k : Int) (h : a = b + m * k) : a % m = b % m := by rw [h, Int.add_mul_emod_self_left]
theorem mod_sub_zero {m y : Int} (h : 0 < m) : ∀ x, x % m = y % m → ∃ k, x = y + m * k := by
  intro x e
  refine ⟨x / m - y / m, ?_⟩
  have e1 := Int.emod_add_mul_ediv x m
  have e2 := Int.emod_add_mul_ediv y m
  rw [Int.mul_sub]; omega

/-- the difference of remainders, as the program makes it -/
def cminus (a b m : Int) : Int := if a < b then a + (m - b) else a - b
theorem cminus_mod {a b m : Int} (ha : 0 ≤ a) (ha' : a < m) (hb : 0 ≤ b) (hb' : b < m) : cminus a b m = (a - b) % m := by
  unfold cminus; split
  · exact (emod_of (q := -1) (by omega) (by omega) (by omega)).symm
  · exact (emod_of (q := 0) (by omega) (by omega) (by omega)).symm
theorem cminus_rng {a b m : Int} (ha : 0 ≤ a) (ha' : a < m) (hb : 0 ≤ b) (hb' : b < m) : 0 ≤ cminus a b m ∧ cminus a b m < m := by unfold cminus; split <;> omega

theorem rest_neg (n m : Int) (h : n < 0) (h0 : 0 < m) : ∃ q, n.tmod m = -q ∧ 0 ≤ q ∧ q < m ∧ Hid (cminus 0 q m = n % m) := by
  refine ⟨(-n) % m, ?_, Int.emod_nonneg _ (by omega), Int.emod_lt_of_pos _ h0, ?_⟩
  · have : (-n).tmod m = (-n) % m := Int.tmod_eq_emod_of_nonneg (by omega)
    rw [Int.neg_tmod] at this; omega
  · have e1 := emod_rng (-n) m h0
    show cminus 0 ((-n) % m) m = n % m
    rw [cminus_mod (by omega) (by omega) e1.1 e1.2, Int.zero_sub]
    refine emod_same ((-n) / m) ?_
    have e3 := Int.emod_add_mul_ediv (-n) m
    omega
/-- the reference's way to the same remainder: m - 1 - (-(n + 1)) % m -/
theorem rest_neg' (n m : Int) (h : n < 0) (h0 : 0 < m) : m - 1 - (-(n + 1)) % m = n % m := by
  have e1 := emod_rng (-(n + 1)) m h0
  have e3 := Int.emod_add_mul_ediv (-(n + 1)) m
  refine (emod_of (q := -((-(n + 1)) / m) - 1) ?_ (by omega) (by omega)).symm
  rw [Int.mul_sub, Int.mul_neg]; omega

/-- a congruence: modulus and remainder -/
def crest (m r g : Int) : Int := if m = 0 then sg r % g else r % g
def chas (m r n : Int) : Bool := if m = 0 then us n == r else n % m == r
def cwithin (am ar bm br : Int) : Bool := if am = 0 then chas bm br (sg ar) else if bm = 0 then false else am % bm == 0 && ar % bm == br
def cright (m r : Int) : Bool := m == 0 || decide (r < m)
/-- the greatest common divisor -/
def cg (a b : Int) : Int := (Int.gcd a b : Int)
theorem crest_rng (m r g : Int) (h : 0 < g) : 0 ≤ crest m r g ∧ crest m r g < g := by unfold crest; split <;> exact emod_rng _ _ h
theorem cg_zero (a : Int) (h : 0 ≤ a) : cg a 0 = a := by unfold cg; rw [Int.gcd_zero_right]; omega
theorem cg_step (a b : Int) : cg b (a % b) = cg a b := by
  unfold cg
  have h := Int.gcd_add_mul_right_left b (a % b) (a / b)
  rw [Int.mul_comm, Int.emod_add_mul_ediv] at h
  rw [Int.gcd_comm b, ← h]
theorem cg_nonneg (a b : Int) : 0 ≤ cg a b := by unfold cg; omega
theorem cg_zero_iff {a b : Int} : cg a b = 0 ↔ a = 0 ∧ b = 0 := by
  unfold cg
  have := @Int.gcd_eq_zero_iff a b
  omega
theorem cg_dvd_left (a b : Int) : cg a b ∣ a := Int.gcd_dvd_left ..
theorem cg_dvd_right (a b : Int) : cg a b ∣ b := Int.gcd_dvd_right ..
theorem cg_le_left {a b : Int} (h : 0 < a) : cg a b ≤ a := Int.le_of_dvd h (cg_dvd_left a b)
theorem cg_le_right {a b : Int} (h : 0 < b) : cg a b ≤ b := Int.le_of_dvd h (cg_dvd_right a b)
theorem cg_bd {a b B : Int} (ha : 0 ≤ a) (hb : 0 ≤ b) (ha' : a ≤ B) (hb' : b ≤ B) : cg a b ≤ B := by
  by_cases h : a = 0
  · subst h
    have : cg 0 b = b := by unfold cg; rw [Int.gcd_zero_left]; omega
    omega
  · have := cg_le_left (a := a) (b := b) (by omega); omega
theorem cg_comm (a b : Int) : cg a b = cg b a := by unfold cg; rw [Int.gcd_comm]


/-- the least number from n on -/
def cleast (m r n : Int) : Int × Bool := if m = 0 then (if sg r < n then (0, false) else (sg r, true)) else if (r - n) % m > 9223372036854775807 - n then (0, false) else (n + (r - n) % m, true)
/-- the greatest one up to n -/
def cgreat (m r n : Int) : Int × Bool := if m = 0 then (if sg r > n then (0, false) else (sg r, true)) else if (n - r) % m > n + 9223372036854775808 then (0, false) else (n - (n - r) % m, true)
/-- how many there are -/
def cmany (m r lo hi : Int) : Int × Bool :=
  if (cleast m r lo).2 = false ∨ (cleast m r lo).1 > hi then (0, true) else if m = 0 then (1, true)
  else if ((cgreat m r hi).1 - (cleast m r lo).1) / m = 18446744073709551615 then (0, false) else (((cgreat m r hi).1 - (cleast m r lo).1) / m + 1, true)
theorem sub_mod_mod {a b m : Int} (h : 0 < m) : cminus (a % m) (b % m) m = (a - b) % m := by
  have ha := emod_rng a m h
  have hb := emod_rng b m h
  rw [cminus_mod ha.1 ha.2 hb.1 hb.2, ← Int.sub_emod]
theorem cleast_rng (m r n : Int) (hm : 0 ≤ m) (h1 : -9223372036854775808 ≤ n) (h2 : n ≤ 9223372036854775807) : -9223372036854775808 ≤ (cleast m r n).1 ∧ (cleast m r n).1 ≤ 9223372036854775807 := by
  have := sg_rng r
  unfold cleast; split
  · split <;> simp <;> omega
  · have := emod_rng (r - n) m (by omega)
    split <;> simp <;> omega
theorem cgreat_rng (m r n : Int) (hm : 0 ≤ m) (h1 : -9223372036854775808 ≤ n) (h2 : n ≤ 9223372036854775807) : -9223372036854775808 ≤ (cgreat m r n).1 ∧ (cgreat m r n).1 ≤ 9223372036854775807 := by
  have := sg_rng r
  unfold cgreat; split
  · split <;> simp <;> omega
  · have := emod_rng (n - r) m (by omega)
    split <;> simp <;> omega
theorem cleast_ge {m r n : Int} (hm : 0 ≤ m) (h : (cleast m r n).2 = true) : n ≤ (cleast m r n).1 := by
  unfold cleast at *
  split at h
  · split at h
    · cases h
    · simp only [*, if_true, if_false]; omega
  · have := emod_rng (r - n) m (by omega)
    split at h
    · cases h
    · simp only [*, if_false]; omega


theorem cgreat_le {m r n : Int} (hm : 0 ≤ m) (h : (cgreat m r n).2 = true) : (cgreat m r n).1 ≤ n := by
  unfold cgreat at *
  split at h
  · split at h
    · cases h
    · simp only [*, if_true, if_false]; omega
  · have := emod_rng (n - r) m (by omega)
    split at h
    · cases h
    · simp only [*, if_false]; omega

/-- by how much two numbers differ -/
def cdist (x y : Int) : Int := if x < y then y - x else x - y
def cjoin (am ar bm br : Int) : Int × Int :=
  if am = 0 ∧ bm = 0 then (if ar = br then (0, ar) else (cdist (sg ar) (sg br), sg ar % cdist (sg ar) (sg br)))
  else (cg (cg am bm) (cdist (crest am ar (cg am bm)) (crest bm br (cg am bm))), crest am ar (cg am bm) % cg (cg am bm) (cdist (crest am ar (cg am bm)) (crest bm br (cg am bm))))
def cadd (am ar bm br : Int) : Int × Int := if am = 0 ∧ bm = 0 then (0, us (ar + br)) else (cg am bm, (crest am ar (cg am bm) + crest bm br (cg am bm)) % cg am bm)
def csub (am ar bm br : Int) : Int × Int := if am = 0 ∧ bm = 0 then (0, us (ar - br)) else (cg am bm, (crest am ar (cg am bm) - crest bm br (cg am bm)) % cg am bm)
def cabs (n : Int) : Int := if n < 0 then -n else n
def cscale (n m r : Int) : Int × Int := if n = 0 then (0, 0) else if cabs n * m ≤ 18446744073709551615 then (cabs n * m, n * r % (cabs n * m)) else (m, n * r % m)
def cmul (am ar bm br : Int) : Int × Int :=
  if am = 0 then (if bm = 0 then (0, us (ar * br)) else cscale (sg ar) bm br) else if bm = 0 then cscale (sg br) am ar
  else if cg am ar * cg bm br ≤ 18446744073709551615 ∧ cg am bm < cg am ar * cg bm br then (cg am ar * cg bm br, 0)
  else (cg am bm, crest am ar (cg am bm) * crest bm br (cg am bm) % cg am bm)
def ccommon (am ar bm br : Int) : Bool := if am = 0 then chas bm br (sg ar) else if bm = 0 then chas am ar (sg br) else crest am ar (cg am bm) == crest bm br (cg am bm)
def cmeet (am ar bm br : Int) : (Int × Int) × Bool :=
  if ccommon am ar bm br = false then ((0, 0), false) else if cwithin am ar bm br = false ∧ (cwithin bm br am ar = true ∨ bm > am) then ((bm, br), true) else ((am, ar), true)
theorem cdist_rng {x y : Int} : 0 ≤ cdist x y := by unfold cdist; split <;> omega
theorem cg_pos {a b : Int} (h : ¬ (a = 0 ∧ b = 0)) : 0 < cg a b := by
  have := cg_nonneg a b
  have h2 := @cg_zero_iff a b
  omega
theorem cabs_rng {n : Int} (h : n ≠ 0) : 0 < cabs n := by unfold cabs; split <;> omega
theorem sg_inj {a b : Int} (ha : 0 ≤ a) (ha' : a ≤ 18446744073709551615) (hb : 0 ≤ b) (hb' : b ≤ 18446744073709551615) (h : sg a = sg b) : a = b := by
  rw [← us_sg a ha ha', ← us_sg b hb hb', h]

end Go.Proofs.YtcemohoigdninaaGreatDoor
