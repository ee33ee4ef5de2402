/- The greatest power of two that divides a number, as the program (M and -M) and as the reference (a loop) makes it. -/
import Derived.Test.YtcemohoigdninaaGreatDoorM
import Derived.Laws.BitsAllLaws
namespace Go.Proofs.YtcemohoigdninaaGreatDoor
open Go Go.RowKit
set_option linter.unusedVariables false
set_option linter.unusedSimpArgs false

/-- f bits are looked at -/
def lbN : Nat → Nat → Nat
  | 0, _ => 1
  | f + 1, m => if m % 2 = 0 then 2 * lbN f (m / 2) else 1
theorem lbN_pos : ∀ f m, 0 < lbN f m := by
  intro f
  induction f with
  | zero => intro m; exact Nat.one_pos
  | succ f ih => intro m; unfold lbN; split
                 · have := ih (m / 2); omega
                 · omega
theorem and_compl (k f : Nat) (h : k < 2 ^ f) : k &&& (2 ^ f - 1 - k) = 0 := by
  apply Nat.eq_of_testBit_eq
  intro i
  rw [Nat.testBit_and, Nat.zero_testBit, show 2 ^ f - 1 - k = 2 ^ f - (k + 1) by omega, Nat.testBit_two_pow_sub_succ h]
  cases k.testBit i <;> simp
theorem and_two (a b : Nat) : (2 * a) &&& (2 * b) = 2 * (a &&& b) := by
  apply Nat.eq_of_testBit_eq
  intro i
  cases i with
  | zero => simp
  | succ i => rw [Nat.testBit_and, Nat.testBit_succ, Nat.testBit_succ, Nat.testBit_succ, show 2 * a / 2 = a by omega, show 2 * b / 2 = b by omega, show 2 * (a &&& b) / 2 = a &&& b by omega, Nat.testBit_and]
theorem and_odd (a b : Nat) (h : a &&& b = 0) : (2 * a + 1) &&& (2 * b + 1) = 1 := by
  apply Nat.eq_of_testBit_eq
  intro i
  cases i with
  | zero => simp
  | succ i =>
    have e := congrArg (fun x => Nat.testBit x i) h
    simp only [Nat.testBit_and, Nat.zero_testBit] at e
    rw [Nat.testBit_and, Nat.testBit_succ, Nat.testBit_succ, Nat.testBit_succ, show (2 * a + 1) / 2 = a by omega, show (2 * b + 1) / 2 = b by omega, e]
    simp
theorem and_neg : ∀ f m, 0 < m → m < 2 ^ f → m &&& (2 ^ f - m) = lbN f m := by
  intro f
  induction f with
  | zero => intro m h0 h1; simp at h1; omega
  | succ f ih =>
    intro m h0 h1
    have e : 2 ^ (f + 1) = 2 * 2 ^ f := by rw [Nat.pow_succ]; omega
    rw [e] at h1 ⊢
    unfold lbN
    split
    · rename_i h
      have h2 : m = 2 * (m / 2) := by omega
      have h3 := ih (m / 2) (by omega) (by omega)
      rw [← h3, ← and_two]
      congr 1; omega
    · rename_i h
      have h2 : m = 2 * (m / 2) + 1 := by omega
      have h3 := and_odd (m / 2) (2 ^ f - 1 - m / 2) (and_compl (m / 2) f (by omega))
      rw [← h3]
      congr 1; omega

/-- the greatest power of two that divides m -/
def clow (m : Int) : Int := (lbN 64 m.toNat : Int)
theorem clow_rng (m : Int) (h : 0 < m) (h' : m ≤ 18446744073709551615) : 0 < clow m ∧ clow m ≤ m := by
  have h1 := and_neg 64 m.toNat (by omega) (by omega)
  have h2 := lbN_pos 64 m.toNat
  have h3 := Nat.and_le_left (n := m.toNat) (m := 2 ^ 64 - m.toNat)
  unfold clow
  omega
theorem clow_and (m : Int) (h : 0 < m) (h' : m ≤ 18446744073709551615) : bits .and .u64 m (18446744073709551616 - m) = clow m := by
  rw [u64_and _ _ (by omega) (by omega) (by omega) (by omega), show (18446744073709551616 - m).toNat = 2 ^ 64 - m.toNat by omega, and_neg 64 m.toNat (by omega) (by omega)]
  rfl
def cwrapped (m r : Int) : Int × Int := if m = 0 then (0, r) else (clow m, r % clow m)

end Go.Proofs.YtcemohoigdninaaGreatDoor
