/- Laws of congruences, in plain numbers: what their least and greatest numbers have, what is right. No condition but those that are named. -/
import Derived.Test.YtcemohoigdninaaGreatDoorM
import Derived.Test.YtcemohoigdninaaGreatDoorW
namespace Go.Proofs.YtcemohoigdninaaGreatDoor
open Go Go.RowKit Go.Sort
set_option linter.unusedVariables false
set_option linter.unusedSimpArgs false

theorem cwithin_self (m r : Int) (hr : 0 ≤ r) (hr' : r ≤ 18446744073709551615) (h : m = 0 ∨ r < m) : cwithin m r m r = true := by
  unfold cwithin chas
  by_cases h0 : m = 0
  · simp [h0, us_sg r hr hr']
  · have h1 : r % m = r := Int.emod_eq_of_lt hr (by omega)
    simp [h0, h1]
theorem cwithin_top (m r : Int) : cwithin m r 1 0 = true := by
  unfold cwithin chas
  by_cases h0 : m = 0
  · simp [h0]
  · simp [h0]
theorem chas_pos {m r n : Int} (hm : m ≠ 0) (h : n % m = r) : chas m r n = true := by unfold chas; rw [if_neg hm]; simpa using h
theorem cleast_has {m r n : Int} (hm : 0 ≤ m) (hr : 0 ≤ r) (hr' : r ≤ 18446744073709551615) (hright : m = 0 ∨ r < m) (h : (cleast m r n).2 = true) :
    chas m r (cleast m r n).1 = true ∧ n ≤ (cleast m r n).1 ∧ (0 < m → (cleast m r n).1 - n < m) := by
  unfold cleast at *
  by_cases h0 : m = 0
  · simp only [h0, if_true] at h ⊢
    by_cases h1 : sg r < n
    · rw [if_pos h1] at h; cases h
    · rw [if_neg h1]
      refine ⟨?_, by show n ≤ sg r; omega, by omega⟩
      show chas 0 r (sg r) = true
      unfold chas; rw [if_pos rfl, us_sg r hr hr']; simp
  · simp only [h0, if_false] at h ⊢
    have h2 := emod_rng (r - n) m (by omega)
    split at h
    · cases h
    · rename_i h1
      rw [if_neg h1]
      refine ⟨chas_pos h0 ?_, by show n ≤ n + _; omega, fun _ => by show n + _ - n < m; omega⟩
      show (n + (r - n) % m) % m = r
      rw [Int.add_emod_emod, show n + (r - n) = r by omega]
      exact Int.emod_eq_of_lt hr (by omega)
theorem cgreat_has {m r n : Int} (hm : 0 ≤ m) (hr : 0 ≤ r) (hr' : r ≤ 18446744073709551615) (hright : m = 0 ∨ r < m) (h : (cgreat m r n).2 = true) :
    chas m r (cgreat m r n).1 = true ∧ (cgreat m r n).1 ≤ n ∧ (0 < m → n - (cgreat m r n).1 < m) := by
  unfold cgreat at *
  by_cases h0 : m = 0
  · simp only [h0, if_true] at h ⊢
    by_cases h1 : sg r > n
    · rw [if_pos h1] at h; cases h
    · rw [if_neg h1]
      refine ⟨?_, by show sg r ≤ n; omega, by omega⟩
      show chas 0 r (sg r) = true
      unfold chas; rw [if_pos rfl, us_sg r hr hr']; simp
  · simp only [h0, if_false] at h ⊢
    have h2 := emod_rng (n - r) m (by omega)
    split at h
    · cases h
    · rename_i h1
      rw [if_neg h1]
      refine ⟨chas_pos h0 ?_, by show n - _ ≤ n; omega, fun _ => by show n - (n - _) < m; omega⟩
      show (n - (n - r) % m) % m = r
      rw [Int.sub_emod, Int.emod_emod_of_dvd _ (Int.dvd_refl m), ← Int.sub_emod, show n - (n - r) = r by omega]
      exact Int.emod_eq_of_lt hr (by omega)
theorem least_great {m r lo hi : Int} (hm : 0 ≤ m) (hr : 0 ≤ r) (hr' : r ≤ 18446744073709551615) (hright : m = 0 ∨ r < m) (hl : -9223372036854775808 ≤ lo) (h : (cleast m r lo).2 = true) (h2 : (cleast m r lo).1 ≤ hi) :
    (cgreat m r hi).2 = true ∧ (cleast m r lo).1 ≤ (cgreat m r hi).1 := by
  have hh := cleast_has hm hr hr' hright h
  by_cases h0 : m = 0
  · subst h0
    have e : cleast 0 r lo = (sg r, true) := by
      unfold cleast at h ⊢; simp only [if_true] at h ⊢
      split at h
      · cases h
      · rename_i h1; rw [if_neg h1]
    rw [e] at h2 ⊢
    have h3 : cgreat 0 r hi = (sg r, true) := by unfold cgreat; rw [if_pos rfl, if_neg (by show ¬ _ > _; have : sg r ≤ hi := h2; omega)]
    rw [h3]; exact ⟨rfl, Int.le_refl _⟩
  · have hx : (cleast m r lo).1 % m = r := by
      have := hh.1; unfold chas at this; rw [if_neg h0] at this; simpa using this
    generalize (cleast m r lo).1 = x at *
    have e1 : (hi - r) % m = (hi - x) % m := by rw [← hx]; exact emod_same (x / m) (by have := Int.emod_add_mul_ediv x m; omega)
    have e2 : (hi - x) % m ≤ hi - x := by
      have h5 := Int.emod_add_mul_ediv (hi - x) m
      have h6 := Int.mul_nonneg hm (Int.ediv_nonneg (show 0 ≤ hi - x by omega) hm)
      omega
    have h3 : cgreat m r hi = (hi - (hi - r) % m, true) := by
      unfold cgreat; rw [if_neg h0, if_neg (by omega)]
    rw [h3]
    exact ⟨rfl, by show x ≤ hi - _; omega⟩
theorem cright_mk {m r : Int} (h : m = 0 ∨ r < m) : cright m r = true := by simpa [cright] using h
theorem cright_mod {g x : Int} (h : 0 < g) : cright g (x % g) = true := cright_mk (Or.inr (emod_rng x g h).2)
theorem cright_join {am ar bm br : Int} (ha : 0 ≤ am) (har : 0 ≤ ar) (har' : ar ≤ 18446744073709551615) (hb : 0 ≤ bm) (hbr : 0 ≤ br) (hbr' : br ≤ 18446744073709551615) : cright (cjoin am ar bm br).1 (cjoin am ar bm br).2 = true := by
  unfold cjoin
  by_cases h : am = 0 ∧ bm = 0
  · rw [if_pos h]
    by_cases h2 : ar = br
    · rw [if_pos h2]; exact cright_mk (Or.inl rfl)
    · rw [if_neg h2]
      have hne : sg ar ≠ sg br := fun e => h2 (sg_inj har har' hbr hbr' e)
      exact cright_mod (by unfold cdist; split <;> omega)
  · rw [if_neg h]
    have hg := cg_pos h
    exact cright_mod (cg_pos (by omega))
theorem cright_add {am ar bm br : Int} : cright (cadd am ar bm br).1 (cadd am ar bm br).2 = true := by
  unfold cadd
  by_cases h : am = 0 ∧ bm = 0
  · rw [if_pos h]; exact cright_mk (Or.inl rfl)
  · rw [if_neg h]; exact cright_mod (cg_pos h)
theorem cright_sub {am ar bm br : Int} : cright (csub am ar bm br).1 (csub am ar bm br).2 = true := by
  unfold csub
  by_cases h : am = 0 ∧ bm = 0
  · rw [if_pos h]; exact cright_mk (Or.inl rfl)
  · rw [if_neg h]; exact cright_mod (cg_pos h)
theorem cright_scale {n m r : Int} (hm : 0 < m) : cright (cscale n m r).1 (cscale n m r).2 = true := by
  unfold cscale
  by_cases h : n = 0
  · rw [if_pos h]; exact cright_mk (Or.inl rfl)
  · rw [if_neg h]
    have := Int.mul_pos (cabs_rng h) hm
    split
    · exact cright_mod this
    · exact cright_mod hm
theorem cright_mul {am ar bm br : Int} (ha : 0 ≤ am) (hb : 0 ≤ bm) : cright (cmul am ar bm br).1 (cmul am ar bm br).2 = true := by
  unfold cmul
  by_cases h : am = 0
  · rw [if_pos h]
    by_cases h2 : bm = 0
    · rw [if_pos h2]; exact cright_mk (Or.inl rfl)
    · rw [if_neg h2]; exact cright_scale (by omega)
  · rw [if_neg h]
    by_cases h2 : bm = 0
    · rw [if_pos h2]; exact cright_scale (by omega)
    · rw [if_neg h2]
      split
      · exact cright_mk (Or.inr (Int.mul_pos (cg_pos (by omega)) (cg_pos (by omega))))
      · exact cright_mod (cg_pos (by omega))
theorem cright_wrapped {m r : Int} (hm : 0 ≤ m) (hm' : m ≤ 18446744073709551615) : cright (cwrapped m r).1 (cwrapped m r).2 = true := by
  unfold cwrapped
  by_cases h : m = 0
  · rw [if_pos h]; exact cright_mk (Or.inl rfl)
  · rw [if_neg h]; exact cright_mod (clow_rng m (by omega) hm').1
theorem cright_meet {am ar bm br : Int} (h : cright am ar = true) (h' : cright bm br = true) : cright (cmeet am ar bm br).1.1 (cmeet am ar bm br).1.2 = true := by
  unfold cmeet
  split
  · exact cright_mk (Or.inl rfl)
  · split
    · exact h'
    · exact h

end Go.Proofs.YtcemohoigdninaaGreatDoor
