/- Contracts of the reference: products. -/
import Derived.Test.YtcemohoigdninaaDoorR2
import Derived.Test.YtcemohoigdninaaDoorC6
namespace Go.Proofs.YtcemohoigdninaaDoor
open Go Go.RowKit Go.Sort
set_option linter.unusedVariables false
set_option linter.unusedSimpArgs false
set_option maxRecDepth 100000

/-- a product, if it is below 2^64 -/
def cfits (a b : Int) : Int × Bool := if a * b ≤ 18446744073709551615 then (a * b, true) else (0, false)

theorem times_odd (o a b m : Int) (hb : b % 2 = 1) : ((o + a) % m + (a + a) % m * (b / 2)) % m = (o + a * b) % m := by
  have e : a * b = a + (a + a) * (b / 2) := by
    have h : b = 1 + 2 * (b / 2) := by omega
    rw [Int.add_mul a a, ← Int.mul_add]
    have h2 : a * b = a * (1 + 2 * (b / 2)) := by rw [← h]
    rw [h2, Int.mul_add, Int.mul_one, Int.two_mul]
  rw [e, ← Int.add_assoc, Int.add_emod, Int.emod_emod_of_dvd _ (Int.dvd_refl m), Int.mul_emod, Int.emod_emod_of_dvd _ (Int.dvd_refl m), ← Int.mul_emod, ← Int.add_emod]
theorem times_even (o a b m : Int) (hb : b % 2 = 0) : (o + (a + a) % m * (b / 2)) % m = (o + a * b) % m := by
  have e : a * b = (a + a) * (b / 2) := by
    have h : b = 2 * (b / 2) := by omega
    have h2 : a * b = a * (2 * (b / 2)) := by rw [← h]
    rw [h2, Int.add_mul a a, ← Int.mul_add, Int.two_mul]
  rw [e, Int.add_emod, Int.mul_emod, Int.emod_emod_of_dvd _ (Int.dvd_refl m), ← Int.mul_emod, ← Int.add_emod]

end Go.Proofs.YtcemohoigdninaaDoor
