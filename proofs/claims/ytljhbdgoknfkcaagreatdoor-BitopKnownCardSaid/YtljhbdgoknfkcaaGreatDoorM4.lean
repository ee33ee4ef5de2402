/- Laws of congruences, in plain numbers: what their least and greatest numbers have, what is right. No condition but those that are named. -/
import Derived.Test.YtljhbdgoknfkcaaGreatDoorM
namespace Go.Proofs.YtljhbdgoknfkcaaGreatDoor
open Go Go.RowKit Go.Sort
set_option linter.unusedVariables false
set_option linter.unusedSimpArgs false

theorem cwithin_self (m r : Int) (hr : 0 ≤ r) (hr' : r ≤ 18446744073709551615) (h : m = 0 ∨ r < m) : cwithin m r m r = true := by
  unfold cwithin chas
  by_cases h0 : m = 0
  · simp [h0, us_sg r hr hr']
  · have h1 : r % m = r := Int.emod_eq_of_lt hr (by omega)
    simp [h0, h1]
theorem cwithin_top (m r : Int) : cwithin m r 1 0 = true := by
  unfold cwithin chas
  by_cases h0 : m = 0
  · simp [h0]
  · simp [h0]
theorem chas_pos {m r n : Int} (hm : m ≠ 0) (h : n % m = r) : chas m r n = true := by unfold chas; rw [if_neg hm]; simpa using h
theorem cleast_has {m r n : Int} (hm : 0 ≤ m) (hr : 0 ≤ r) (hr' : r ≤ 18446744073709551615) (hright : m = 0 ∨ r < m) (h : (cleast m r n).2 = true) :
    chas m r (cleast m r n).1 = true ∧ n ≤ (cleast m r n).1 ∧ (0 < m → (cleast m r n).1 - n < m) := by
  unfold cleast at *
  by_cases h0 : m = 0
  · simp only [h0, if_true] at h ⊢
    by_cases h1 : sg r < n
    · rw [if_pos h1] at h; cases h
    · rw [if_neg h1]
      refine ⟨?_, by show n ≤ sg r; omega, by omega⟩
      show chas 0 r (sg r) = true
      unfold chas; rw [if_pos rfl, us_sg r hr hr']; simp
  · simp only [h0, if_false] at h ⊢
    have h2 := emod_rng (r - n) m (by omega)
    split at h
    · cases h
    · rename_i h1
      rw [if_neg h1]
      refine ⟨chas_pos h0 ?_, by show n ≤ n + _; omega, fun _ => by show n + _ - n < m; omega⟩
      show (n + (r - n) % m) % m = r
      rw [Int.add_emod_emod, show n + (r - n) = r by omega]
      exact Int.emod_eq_of_lt hr (by omega)
theorem cgreat_has {m r n : Int} (hm : 0 ≤ m) (hr : 0 ≤ r) (hr' : r ≤ 18446744073709551615) (hright : m = 0 ∨ r < m) (h : (cgreat m r n).2 = true) :
    chas m r (cgreat m r n).1 = true ∧ (cgreat m r n).1 ≤ n ∧ (0 < m → n - (cgreat m r n).1 < m) := by
  unfold cgreat at *
  by_cases h0 : m = 0
  · simp only [h0, if_true] at h ⊢
    by_cases h1 : sg r > n
    · rw [if_pos h1] at h; cases h
    · rw [if_neg h1]
      refine ⟨?_, by show sg r ≤ n; omega, by omega⟩
      show chas 0 r (sg r) = true
      unfold chas; rw [if_pos rfl, us_sg r hr hr']; simp
  · simp only [h0, if_false] at h ⊢
    have h2 := emod_rng (n - r) m (by omega)
    split at h
    · cases h
    · rename_i h1
      rw [if_neg h1]
      refine ⟨chas_pos h0 ?_, by show n - _ ≤ n; omega, fun _ => by show n - (n - _) < m; omega⟩
      show (n - (n - r) % m) % m = r
      rw [Int.sub_emod, Int.emod_emod_of_dvd _ (Int.dvd_refl m), ← Int.sub_emod, show n - (n - r) = r by omega]
      exact Int.emod_eq_of_lt hr (by omega)
theorem least_great {m r lo hi : Int} (hm : 0 ≤ m) (hr : 0 ≤ r) (hr' : r ≤ 18446744073709551615) (hright : m = 0 ∨ r < m) (hl : -9223372036854775808 ≤ lo) (h : (cleast m r lo).2 = true) (h2 : (cleast m r lo).1 ≤ hi) :
    (cgreat m r hi).2 = true ∧ (cleast m r lo).1 ≤ (cgreat m r hi).1 := by
  have hh := cleast_has hm hr hr' hright h
  by_cases h0 : m = 0
  · subst h0
    have e : cleast 0 r lo = (sg r, true) := by
      unfold cleast at h ⊢; simp only [if_true] at h ⊢
      split at h
      · cases h
      · rename_i h1; rw [if_neg h1]
    rw [e] at h2 ⊢
    have h3 : cgreat 0 r hi = (sg r, true) := by unfold cgreat; rw [if_pos rfl, if_neg (by show ¬ _ > _; have : sg r ≤ hi := h2; omega)]
    rw [h3]; exact ⟨rfl, Int.le_refl _⟩
  · have hx : (cleast m r lo).1 % m = r := by
      have := hh.1; unfold chas at this; rw [if_neg h0] at this; simpa using this
    generalize (cleast m r lo).1 = x at *
    have e1 : (hi - r) % m = (hi - x) % m := by rw [← hx]; exact emod_same (x / m) (by have := Int.emod_add_mul_ediv x m; omega)
    have e2 : (hi - x) % m ≤ hi - x := by
      have h5 := Int.emod_add_mul_ediv (hi - x) m
      have h6 := Int.mul_nonneg hm (Int.ediv_nonneg (show 0 ≤ hi - x by omega) hm)
      omega
    have h3 : cgreat m r hi = (hi - (hi - r) % m, true) := by
      unfold cgreat; rw [if_neg h0, if_neg (by omega)]
    rw [h3]
    exact ⟨rfl, by show x ≤ hi - _; omega⟩
theorem cright_mk {m r : Int} (h : m = 0 ∨ r < m) : cright m r = true := by simpa [cright] using h
theorem cright_mod {g x : Int} (h : 0 < g) : cright g (x % g) = true := cright_mk (Or.inr (emod_rng x g h).2)
theorem cright_join {am ar bm br : Int} (ha : 0 ≤ am) (har : 0 ≤ ar) (har' : ar ≤ 18446744073709551615) (hb : 0 ≤ bm) (hbr : 0 ≤ br) (hbr' : br ≤ 18446744073709551615) : cright (cjoin am ar bm br).1 (cjoin am ar bm br).2 = true := by
  unfold cjoin
  by_cases h : am = 0 ∧ bm = 0
  · rw [if_pos h]
    by_cases h2 : ar = br
    · rw [if_pos h2]; exact cright_mk (Or.inl rfl)
    · rw [if_neg h2]
      have hne : sg ar ≠ sg br := fun e => h2 (sg_inj har har' hbr hbr' e)
      exact cright_mod (by unfold cdist; split <;> omega)
  · rw [if_neg h]
    have hg := cg_pos h
    exact cright_mod (cg_pos (by omega))
theorem cright_add {am ar bm br : Int} : cright (cadd am ar bm br).1 (cadd am ar bm br).2 = true := by
  unfold cadd
  by_cases h : am = 0 ∧ bm = 0
  · rw [if_pos h]; exact cright_mk (Or.inl rfl)
  · rw [if_neg h]; exact cright_mod (cg_pos h)
theorem cright_sub {am ar bm br : Int} : cright (csub am ar bm br).1 (csub am ar bm br).2 = true := by
  unfold csub
  by_cases h : am = 0 ∧ bm = 0
  · rw [if_pos h]; exact cright_mk (Or.inl rfl)
  · rw [if_neg h]; exact cright_mod (cg_pos h)
theorem cright_scale {n m r : Int} (hm : 0 < m) : cright (cscale n m r).1 (cscale n m r).2 = true := by
  unfold cscale
  by_cases h : n = 0
  · rw [if_pos h]; exact cright_mk (Or.inl rfl)
  · rw [if_neg h]
    have := Int.mul_pos (cabs_rng h) hm
    split
    · exact cright_mod this
    · exact cright_mod hm
theorem cright_mul {am ar bm br : Int} (ha : 0 ≤ am) (hb : 0 ≤ bm) : cright (cmul am ar bm br).1 (cmul am ar bm br).2 = true := by
  unfold cmul
  by_cases h : am = 0
  · rw [if_pos h]
    by_cases h2 : bm = 0
    · rw [if_pos h2]; exact cright_mk (Or.inl rfl)
    · rw [if_neg h2]; exact cright_scale (by omega)
  · rw [if_neg h]
    by_cases h2 : bm = 0
    · rw [if_pos h2]; exact cright_scale (by omega)
    · rw [if_neg h2]
      split
      · exact cright_mk (Or.inr (Int.mul_pos (cg_pos (by omega)) (cg_pos (by omega))))
      · exact cright_mod (cg_pos (by omega))
theorem cright_wrapped {m r : Int} (hm : 0 ≤ m) (hm' : m ≤ 18446744073709551615) : cright (cwrapped m r).1 (cwrapped m r).2 = true := by
  unfold cwrapped
  by_cases h : m = 0
  · rw [if_pos h]; exact cright_mk (Or.inl rfl)
  · rw [if_neg h]; exact cright_mod (clow_rng m (by omega) hm').1
theorem cright_meet {am ar bm br : Int} (h : cright am ar = true) (h' : cright bm br = true) : cright (cmeet am ar bm br).1.1 (cmeet am ar bm br).1.2 = true := by
  unfold cmeet
  split
  · exact cright_mk (Or.inl rfl)
  · split
    · exact h'
    · exact h

/-! Plain arithmetic: what is of two congruences is of their join, sum, difference, product and meet, and what it wraps to is of what they are wrapped to. No program. -/
theorem chas_zero {r n : Int} (h : chas 0 r n = true) : us n = r := by unfold chas at h; rw [if_pos rfl] at h; simpa using h
theorem chas_mod {m r n : Int} (hm : m ≠ 0) (h : chas m r n = true) : n % m = r := by unfold chas at h; rw [if_neg hm] at h; simpa using h
theorem chas_of_zero {r n : Int} (h : us n = r) : chas 0 r n = true := by unfold chas; rw [if_pos rfl]; simpa using h
/-- a number of the congruence leaves its rest by any divisor -/
theorem crest_has {m r g x : Int} (hg : g ∣ m) (hx : -9223372036854775808 ≤ x) (hx' : x ≤ 9223372036854775807) (h : chas m r x = true) : crest m r g = x % g := by
  unfold crest
  by_cases hm : m = 0
  · subst hm
    rw [if_pos rfl, ← chas_zero h, sg_us x hx hx']
  · rw [if_neg hm, ← chas_mod hm h, Int.emod_emod_of_dvd x hg]

theorem cdist_dvd (x y : Int) : cdist x y ∣ x - y := by
  unfold cdist; split
  · exact ⟨-1, by omega⟩
  · exact ⟨1, by omega⟩
theorem emod_of_dvd_sub {a b h : Int} (hd : h ∣ a - b) : a % h = b % h := by
  obtain ⟨k, hk⟩ := hd
  exact emod_same k (by omega)
theorem emod_crest {m r g h : Int} (hgm : g ∣ m) (hhg : h ∣ g) : crest m r g % h = crest m r h := by
  unfold crest; split <;> exact Int.emod_emod_of_dvd _ hhg

/-- a join: both the same number, or its modulus divides both, and both leave its rest -/
theorem cjoin_of {am ar bm br : Int} (har : 0 ≤ ar) (har' : ar ≤ 18446744073709551615) (hbr : 0 ≤ br) (hbr' : br ≤ 18446744073709551615) :
    (am = 0 ∧ bm = 0 ∧ ar = br ∧ cjoin am ar bm br = (0, ar)) ∨ (0 < (cjoin am ar bm br).1 ∧ (cjoin am ar bm br).1 ∣ am ∧ (cjoin am ar bm br).1 ∣ bm ∧ (cjoin am ar bm br).2 = crest am ar (cjoin am ar bm br).1 ∧ (cjoin am ar bm br).2 = crest bm br (cjoin am ar bm br).1) := by
  unfold cjoin
  by_cases h : am = 0 ∧ bm = 0
  · rw [if_pos h]
    obtain ⟨rfl, rfl⟩ := h
    by_cases h2 : ar = br
    · rw [if_pos h2]; exact Or.inl ⟨rfl, rfl, h2, rfl⟩
    · rw [if_neg h2]
      have hne : sg ar ≠ sg br := fun e => h2 (sg_inj har har' hbr hbr' e)
      have hd := cdist_dvd (sg ar) (sg br)
      refine Or.inr ⟨?_, Int.dvd_zero _, Int.dvd_zero _, ?_, ?_⟩
      · show 0 < cdist _ _
        unfold cdist; split <;> omega
      · show _ = crest 0 _ _
        unfold crest; rw [if_pos rfl]
      · show _ = crest 0 _ _
        unfold crest; rw [if_pos rfl]
        exact emod_of_dvd_sub hd
  · rw [if_neg h]
    have hg := cg_pos h
    have h1 : cg (cg am bm) (cdist (crest am ar (cg am bm)) (crest bm br (cg am bm))) ∣ cg am bm := cg_dvd_left _ _
    have h2 : cg (cg am bm) (cdist (crest am ar (cg am bm)) (crest bm br (cg am bm))) ∣ cdist (crest am ar (cg am bm)) (crest bm br (cg am bm)) := cg_dvd_right _ _
    have ha : cg am bm ∣ am := cg_dvd_left _ _
    have hb : cg am bm ∣ bm := cg_dvd_right _ _
    refine Or.inr ⟨cg_pos (by omega), Int.dvd_trans h1 ha, Int.dvd_trans h1 hb, emod_crest ha h1, ?_⟩
    rw [← emod_crest hb h1]
    exact emod_of_dvd_sub (Int.dvd_trans h2 (cdist_dvd _ _))

theorem chas_of_crest {m r J x : Int} (hJ : 0 < J) (hd : J ∣ m) (hx : -9223372036854775808 ≤ x) (hx' : x ≤ 9223372036854775807) (h : chas m r x = true) : chas J (crest m r J) x = true := by
  rw [crest_has hd hx hx' h]
  unfold chas; rw [if_neg (by omega)]; simp
theorem within_of_crest {m r J : Int} (hJ : 0 < J) (hd : J ∣ m) : cwithin m r J (crest m r J) = true := by
  unfold cwithin crest
  by_cases hm : m = 0
  · rw [if_pos hm, if_pos hm]; unfold chas; rw [if_neg (by omega)]; simp
  · rw [if_neg hm, if_neg hm, if_neg (by omega)]
    simp [Int.emod_eq_zero_of_dvd hd]
theorem within_self {m r : Int} (hr : 0 ≤ r) (hr' : r ≤ 18446744073709551615) (h : m = 0 ∨ r < m) : cwithin m r m r = true := by
  unfold cwithin
  by_cases hm : m = 0
  · subst hm; rw [if_pos rfl]; exact chas_of_zero (us_sg r hr hr')
  · rw [if_neg hm, if_neg hm]
    have : r % m = r := Int.emod_eq_of_lt hr (by omega)
    simp [this]

theorem join_sound {am ar bm br x y : Int} (har : 0 ≤ ar) (har' : ar ≤ 18446744073709551615) (hbr : 0 ≤ br) (hbr' : br ≤ 18446744073709551615) (hx : -9223372036854775808 ≤ x) (hx' : x ≤ 9223372036854775807) (hy : -9223372036854775808 ≤ y) (hy' : y ≤ 9223372036854775807) (h : chas am ar x = true) (h' : chas bm br y = true) :
    chas (cjoin am ar bm br).1 (cjoin am ar bm br).2 x = true ∧ chas (cjoin am ar bm br).1 (cjoin am ar bm br).2 y = true ∧ cwithin am ar (cjoin am ar bm br).1 (cjoin am ar bm br).2 = true ∧ cwithin bm br (cjoin am ar bm br).1 (cjoin am ar bm br).2 = true := by
  rcases cjoin_of (am := am) (bm := bm) har har' hbr hbr' with ⟨rfl, rfl, rfl, e⟩ | ⟨h0, h1, h2, h3, h4⟩
  · rw [e]; exact ⟨h, h', within_self har har' (Or.inl rfl), within_self har har' (Or.inl rfl)⟩
  · refine ⟨?_, ?_, ?_, ?_⟩
    · rw [h3]; exact chas_of_crest h0 h1 hx hx' h
    · rw [h4]; exact chas_of_crest h0 h2 hy hy' h'
    · rw [h3]; exact within_of_crest h0 h1
    · rw [h4]; exact within_of_crest h0 h2

theorem us_add (x y : Int) : us (us x + us y) = us (x + y) := by unfold us; omega
theorem us_sub (x y : Int) : us (us x - us y) = us (x - y) := by unfold us; omega
theorem us_mul (x y : Int) : us (us x * us y) = us (x * y) := by unfold us; rw [← Int.mul_emod]
theorem chas_mk {m r n : Int} (hm : m ≠ 0) (h : n % m = r) : chas m r n = true := chas_pos hm h

section
variable {am ar bm br x y : Int} (hx : -9223372036854775808 ≤ x) (hx' : x ≤ 9223372036854775807) (hy : -9223372036854775808 ≤ y) (hy' : y ≤ 9223372036854775807) (h : chas am ar x = true) (h' : chas bm br y = true)
include hx hx' hy hy' h h'
theorem add_sound : chas (cadd am ar bm br).1 (cadd am ar bm br).2 (x + y) = true := by
  unfold cadd
  by_cases hz : am = 0 ∧ bm = 0
  · rw [if_pos hz]
    obtain ⟨rfl, rfl⟩ := hz
    refine chas_of_zero ?_
    rw [← chas_zero h, ← chas_zero h', us_add]
  · rw [if_neg hz]
    have hg := cg_pos hz
    refine chas_mk (by show cg am bm ≠ 0; omega) ?_
    show (x + y) % cg am bm = _
    rw [crest_has (cg_dvd_left am bm) hx hx' h, crest_has (cg_dvd_right am bm) hy hy' h', ← Int.add_emod]
theorem sub_sound : chas (csub am ar bm br).1 (csub am ar bm br).2 (x - y) = true := by
  unfold csub
  by_cases hz : am = 0 ∧ bm = 0
  · rw [if_pos hz]
    obtain ⟨rfl, rfl⟩ := hz
    refine chas_of_zero ?_
    rw [← chas_zero h, ← chas_zero h', us_sub]
  · rw [if_neg hz]
    have hg := cg_pos hz
    refine chas_mk (by show cg am bm ≠ 0; omega) ?_
    show (x - y) % cg am bm = _
    rw [crest_has (cg_dvd_left am bm) hx hx' h, crest_has (cg_dvd_right am bm) hy hy' h', ← Int.sub_emod]
end

theorem cabs_dvd (n : Int) : cabs n ∣ n := by
  unfold cabs; split
  · exact ⟨-1, by omega⟩
  · exact Int.dvd_refl n
theorem scale_sound {n m r y : Int} (hm : 0 < m) (h : chas m r y = true) : chas (cscale n m r).1 (cscale n m r).2 (n * y) = true := by
  have hy := chas_mod (by omega) h
  have e1 : n * y = n * r + n * m * (y / m) := by
    have := Int.emod_add_mul_ediv y m
    rw [hy] at this
    calc n * y = n * (r + m * (y / m)) := by rw [this]
      _ = n * r + n * m * (y / m) := by rw [Int.mul_add, Int.mul_assoc]
  unfold cscale
  by_cases hn : n = 0
  · rw [if_pos hn, hn, Int.zero_mul]; exact chas_of_zero rfl
  · rw [if_neg hn]
    have hp := Int.mul_pos (cabs_rng hn) hm
    split
    · refine chas_mk (by show cabs n * m ≠ 0; omega) ?_
      show n * y % (cabs n * m) = n * r % (cabs n * m)
      obtain ⟨k, hk⟩ := cabs_dvd n
      refine emod_same (k * (y / m)) ?_
      rw [e1]
      have : n * m * (y / m) = cabs n * m * (k * (y / m)) := by
        have hk2 : n * m = cabs n * m * k := by rw [Int.mul_assoc, Int.mul_comm m k, ← Int.mul_assoc, ← hk]
        rw [hk2, Int.mul_assoc]
      omega
    · refine chas_mk (by show m ≠ 0; omega) ?_
      show n * y % m = n * r % m
      refine emod_same (n * (y / m)) ?_
      rw [e1]
      have : n * m * (y / m) = m * (n * (y / m)) := by rw [Int.mul_comm n m, Int.mul_assoc]
      omega
theorem mul_sound {am ar bm br x y : Int} (ha : 0 ≤ am) (hb : 0 ≤ bm) (hx : -9223372036854775808 ≤ x) (hx' : x ≤ 9223372036854775807) (hy : -9223372036854775808 ≤ y) (hy' : y ≤ 9223372036854775807) (h : chas am ar x = true) (h' : chas bm br y = true) :
    chas (cmul am ar bm br).1 (cmul am ar bm br).2 (x * y) = true := by
  unfold cmul
  by_cases ham : am = 0
  · rw [if_pos ham]
    subst ham
    have ex : sg ar = x := by rw [← chas_zero h, sg_us x hx hx']
    by_cases hbm : bm = 0
    · rw [if_pos hbm]
      subst hbm
      refine chas_of_zero ?_
      rw [← chas_zero h, ← chas_zero h', us_mul]
    · rw [if_neg hbm, ex]; exact scale_sound (by omega) h'
  · rw [if_neg ham]
    by_cases hbm : bm = 0
    · rw [if_pos hbm]
      subst hbm
      have ey : sg br = y := by rw [← chas_zero h', sg_us y hy hy']
      rw [ey, Int.mul_comm x y]; exact scale_sound (by omega) h
    · rw [if_neg hbm]
      have e1 := chas_mod ham h
      have e2 := chas_mod hbm h'
      split
      · have p1 : 0 < cg am ar := cg_pos (by omega)
        have p2 : 0 < cg bm br := cg_pos (by omega)
        have pp := Int.mul_pos p1 p2
        refine chas_mk (by show cg am ar * cg bm br ≠ 0; omega) ?_
        have d1 : cg am ar ∣ x := by
          have := Int.emod_add_mul_ediv x am
          rw [← this, e1]
          exact Int.dvd_add (cg_dvd_right _ _) (Int.dvd_trans (cg_dvd_left _ _) (Int.dvd_mul_right _ _))
        have d2 : cg bm br ∣ y := by
          have := Int.emod_add_mul_ediv y bm
          rw [← this, e2]
          exact Int.dvd_add (cg_dvd_right _ _) (Int.dvd_trans (cg_dvd_left _ _) (Int.dvd_mul_right _ _))
        exact Int.emod_eq_zero_of_dvd (Int.mul_dvd_mul d1 d2)
      · have hg : 0 < cg am bm := cg_pos (by omega)
        refine chas_mk (by show cg am bm ≠ 0; omega) ?_
        show x * y % cg am bm = _
        rw [crest_has (cg_dvd_left am bm) hx hx' h, crest_has (cg_dvd_right am bm) hy hy' h', ← Int.mul_emod]

theorem lbN_dvd : ∀ f m, lbN f m ∣ m := by
  intro f
  induction f with
  | zero => intro m; exact Nat.one_dvd m
  | succ f ih =>
    intro m
    unfold lbN; split
    · have h := Nat.mul_dvd_mul_left 2 (ih (m / 2))
      rwa [show 2 * (m / 2) = m by omega] at h
    · exact Nat.one_dvd m
theorem lbN_two : ∀ f m, lbN f m ∣ 2 ^ f := by
  intro f
  induction f with
  | zero => intro m; exact Nat.one_dvd _
  | succ f ih =>
    intro m
    unfold lbN; split
    · have h := Nat.mul_dvd_mul_left 2 (ih (m / 2))
      rwa [show 2 * 2 ^ f = 2 ^ (f + 1) by rw [Nat.pow_succ]; omega] at h
    · exact Nat.one_dvd _
theorem clow_dvd (m : Int) (h : 0 < m) (h' : m ≤ 18446744073709551615) : clow m ∣ m := by
  have := Int.ofNat_dvd.2 (lbN_dvd 64 m.toNat)
  unfold clow
  rwa [show ((m.toNat : Nat) : Int) = m by omega] at this
theorem clow_two (m : Int) (h : 0 < m) (h' : m ≤ 18446744073709551615) : clow m ∣ 18446744073709551616 := by
  have := Int.ofNat_dvd.2 (lbN_two 64 m.toNat)
  unfold clow
  exact this

/-- what is wrapped -/
theorem wrap_sound {m r z : Int} (hm : 0 ≤ m) (hm' : m ≤ 18446744073709551615) (h : chas m r z = true) : chas (cwrapped m r).1 (cwrapped m r).2 (sg z) = true := by
  unfold cwrapped
  by_cases h0 : m = 0
  · rw [if_pos h0]
    subst h0
    refine chas_of_zero ?_
    rw [← chas_zero h]; unfold us sg; omega
  · rw [if_neg h0]
    have hc := clow_rng m (by omega) hm'
    refine chas_mk (by show clow m ≠ 0; omega) ?_
    show sg z % clow m = r % clow m
    rw [← chas_mod h0 h, Int.emod_emod_of_dvd z (clow_dvd m (by omega) hm')]
    obtain ⟨k, hk⟩ := clow_two m (by omega) hm'
    have e : sg z = z - 18446744073709551616 * ((z + 9223372036854775808) / 18446744073709551616) := by unfold sg; omega
    generalize (z + 9223372036854775808) / 18446744073709551616 = q at e
    refine emod_same (-(k * q)) ?_
    rw [e, hk, Int.mul_assoc, Int.mul_neg]; omega
theorem wrap_within {m r : Int} (hm : 0 ≤ m) (hm' : m ≤ 18446744073709551615) (hr : 0 ≤ r) (hr' : r ≤ 18446744073709551615) : cwithin m r (cwrapped m r).1 (cwrapped m r).2 = true := by
  unfold cwrapped
  by_cases h0 : m = 0
  · rw [if_pos h0]; subst h0; exact within_self hr hr' (Or.inl rfl)
  · rw [if_neg h0]
    have hc := clow_rng m (by omega) hm'
    have h := within_of_crest (m := m) (r := r) (J := clow m) (by omega) (clow_dvd m (by omega) hm')
    unfold crest at h
    rw [if_neg h0] at h
    exact h

/-- what two have in common, their meet has -/
theorem common_of {am ar bm br x : Int} (hx : -9223372036854775808 ≤ x) (hx' : x ≤ 9223372036854775807) (h : chas am ar x = true) (h' : chas bm br x = true) : ccommon am ar bm br = true := by
  unfold ccommon
  by_cases ha : am = 0
  · rw [if_pos ha]; subst ha
    rw [← chas_zero h, sg_us x hx hx']; exact h'
  · rw [if_neg ha]
    by_cases hb : bm = 0
    · rw [if_pos hb]; subst hb
      rw [← chas_zero h', sg_us x hx hx']; exact h
    · rw [if_neg hb, crest_has (cg_dvd_left am bm) hx hx' h, crest_has (cg_dvd_right am bm) hx hx' h']; simp
theorem meet_sound {am ar bm br x : Int} (hx : -9223372036854775808 ≤ x) (hx' : x ≤ 9223372036854775807) (h : chas am ar x = true) (h' : chas bm br x = true) :
    (cmeet am ar bm br).2 = true ∧ chas (cmeet am ar bm br).1.1 (cmeet am ar bm br).1.2 x = true := by
  have := common_of hx hx' h h'
  unfold cmeet
  rw [if_neg (by rw [this]; simp)]
  split
  · exact ⟨rfl, h'⟩
  · exact ⟨rfl, h⟩
theorem meet_within {am ar bm br : Int} (har : 0 ≤ ar) (har' : ar ≤ 18446744073709551615) (hbr : 0 ≤ br) (hbr' : br ≤ 18446744073709551615) (ha : am = 0 ∨ ar < am) (hb : bm = 0 ∨ br < bm) (h : (cmeet am ar bm br).2 = true) :
    cwithin (cmeet am ar bm br).1.1 (cmeet am ar bm br).1.2 am ar = true ∨ cwithin (cmeet am ar bm br).1.1 (cmeet am ar bm br).1.2 bm br = true := by
  unfold cmeet at *
  split at h
  · cases h
  · rename_i hc
    rw [if_neg hc]
    split
    · exact Or.inr (within_self hbr hbr' hb)
    · exact Or.inl (within_self har har' ha)

/-- a number near another -/
def cnear (m r n : Int) : Int := if (cleast m r n).2 = true then (cleast m r n).1 else (cgreat m r n).1
theorem cnear_rng (m r n : Int) (hm : 0 ≤ m) (h1 : -9223372036854775808 ≤ n) (h2 : n ≤ 9223372036854775807) : -9223372036854775808 ≤ cnear m r n ∧ cnear m r n ≤ 9223372036854775807 := by
  unfold cnear; split
  · exact cleast_rng m r n hm h1 h2
  · exact cgreat_rng m r n hm h1 h2
theorem least_some {m r n x : Int} (hm : 0 ≤ m) (hx : x ≤ 9223372036854775807) (hx' : -9223372036854775808 ≤ x) (h : chas m r x = true) (hn : n ≤ x) : (cleast m r n).2 = true := by
  unfold cleast
  by_cases h0 : m = 0
  · rw [if_pos h0]; subst h0
    rw [← chas_zero h, sg_us x hx' hx, if_neg (by omega)]
  · rw [if_neg h0]
    have hr := chas_mod h0 h
    have e1 : (r - n) % m = (x - n) % m := by
      rw [← hr]; exact emod_same (-(x / m)) (by have := Int.emod_add_mul_ediv x m; rw [Int.mul_neg]; omega)
    have e2 : (x - n) % m ≤ x - n := by
      have h5 := Int.emod_add_mul_ediv (x - n) m
      have h6 := Int.mul_nonneg hm (Int.ediv_nonneg (show 0 ≤ x - n by omega) hm)
      omega
    rw [if_neg (by omega)]
theorem near_has {m r n : Int} (hm : 0 ≤ m) (hr : 0 ≤ r) (hr' : r ≤ 18446744073709551615) (hright : m = 0 ∨ r < m) (hn : -9223372036854775808 ≤ n) (hn' : n ≤ 9223372036854775807) (h : (cleast m r (-9223372036854775808)).2 = true) : chas m r (cnear m r n) = true := by
  unfold cnear
  split
  · rename_i h1
    exact (cleast_has hm hr hr' hright h1).1
  · rename_i h1
    have x0 := cleast_rng m r (-9223372036854775808) hm (by omega) (by omega)
    have hh := cleast_has hm hr hr' hright h
    have hlt : (cleast m r (-9223372036854775808)).1 ≤ n := by
      rcases Int.le_total (cleast m r (-9223372036854775808)).1 n with h2 | h2
      · exact h2
      · exact absurd (least_some hm x0.2 x0.1 hh.1 h2) h1
    exact (cgreat_has hm hr hr' hright (least_great hm hr hr' hright (by omega) h hlt).1).1

/-- do they fit? -/
def fitS (x y : Int) : Bool := decide (sg (x + y) > x) == decide (y > 0)
def fitD (x y : Int) : Bool := decide (sg (x - y) < x) == decide (y > 0)
def fitP (x y : Int) : Bool := x == 0 || ((!(x == -1) || !(y == -9223372036854775808)) && (sg ((sg (x * y)).tdiv x) == y)) && !(x == -9223372036854775808 && y == -1)
theorem fitS_of {x y : Int} (hx : -9223372036854775808 ≤ x) (hx' : x ≤ 9223372036854775807) (hy : -9223372036854775808 ≤ y) (hy' : y ≤ 9223372036854775807) (h : fitS x y = true) : sg (x + y) = x + y := by
  unfold fitS at h
  have h2 : (sg (x + y) > x) ↔ (y > 0) := by simpa using h
  unfold sg at *
  omega
theorem fitD_of {x y : Int} (hx : -9223372036854775808 ≤ x) (hx' : x ≤ 9223372036854775807) (hy : -9223372036854775808 ≤ y) (hy' : y ≤ 9223372036854775807) (h : fitD x y = true) : sg (x - y) = x - y := by
  unfold fitD at h
  have h2 : (sg (x - y) < x) ↔ (y > 0) := by simpa using h
  unfold sg at *
  omega
theorem fitP_of {x y : Int} (hx : -9223372036854775808 ≤ x) (hx' : x ≤ 9223372036854775807) (hy : -9223372036854775808 ≤ y) (hy' : y ≤ 9223372036854775807) (h : fitP x y = true) : sg (x * y) = x * y := by
  unfold fitP at h
  by_cases h0 : x = 0
  · subst h0; rw [Int.zero_mul]; rfl
  · have h1 : (x = -1 → ¬ y = -9223372036854775808) ∧ sg ((sg (x * y)).tdiv x) = y ∧ (x = -9223372036854775808 → ¬ y = -1) := by
      simp only [Bool.or_eq_true, Bool.and_eq_true, beq_iff_eq, h0, false_or, Bool.not_eq_true', beq_eq_false_iff_ne, ne_eq, Bool.and_eq_false_imp, decide_eq_true_eq] at h
      obtain ⟨⟨h2, h3⟩, h4⟩ := h
      refine ⟨fun e e' => ?_, h3, fun e e' => ?_⟩
      · rcases h2 with h2 | h2
        · exact h2 e
        · exact h2 e'
      · exact h4 e e'
    obtain ⟨h1, h2, h3⟩ := h1
    have hz := sg_rng (x * y)
    have hm : ∃ q, sg (x * y) = x * y + 18446744073709551616 * q := ⟨-((x * y + 9223372036854775808) / 18446744073709551616), by unfold sg; omega⟩
    obtain ⟨q, hq⟩ := hm
    by_cases hx1 : x = -1
    · subst hx1
      have := h1 rfl
      rw [Int.neg_one_mul, sg_in (-y) (by omega) (by omega)]
    · have hd : (sg (x * y)).tdiv x = y := by
        have hb : -9223372036854775808 ≤ (sg (x * y)).tdiv x ∧ (sg (x * y)).tdiv x ≤ 9223372036854775807 := by
          have h5 := Int.natAbs_tdiv_le_natAbs (sg (x * y)) x
          have h6 : (sg (x * y)).tdiv x ≠ 9223372036854775808 := fun e => by
            have h7 := Int.tmod_add_mul_tdiv (sg (x * y)) x
            have h8 : ((sg (x * y)).tmod x).natAbs < x.natAbs := by
              rw [Int.natAbs_tmod]
              exact Nat.mod_lt _ (by omega)
            rw [e] at h7
            omega
          omega
        rw [sg_in _ hb.1 hb.2] at h2
        exact h2
      have h7 := Int.tmod_add_mul_tdiv (sg (x * y)) x
      have h8 : ((sg (x * y)).tmod x).natAbs < x.natAbs := by
        rw [Int.natAbs_tmod]
        exact Nat.mod_lt _ (by omega)
      rw [hd] at h7
      generalize x * y = z at *
      omega

/-! Plain arithmetic: what congruences are made of has 64 binary digits. No program. -/
/-- both parts have 64 binary digits -/
def In2 (p : Int × Int) : Prop := (0 ≤ p.1 ∧ p.1 ≤ 18446744073709551615) ∧ 0 ≤ p.2 ∧ p.2 ≤ 18446744073709551615
theorem in2_mod {g x : Int} (h : 0 < g) (h' : g ≤ 18446744073709551615) : In2 (g, x % g) := by
  have := emod_rng x g h
  exact ⟨⟨by show 0 ≤ g; omega, h'⟩, this.1, by show x % g ≤ _; omega⟩
theorem in2_zero {r : Int} (h : 0 ≤ r) (h' : r ≤ 18446744073709551615) : In2 (0, r) := ⟨⟨Int.le_refl 0, show (0:Int) ≤ 18446744073709551615 by decide⟩, h, h'⟩
theorem cjoin_in {am ar bm br : Int} (ha : 0 ≤ am) (ha' : am ≤ 18446744073709551615) (har : 0 ≤ ar) (har' : ar ≤ 18446744073709551615) (hb : 0 ≤ bm) (hb' : bm ≤ 18446744073709551615) (hbr : 0 ≤ br) (hbr' : br ≤ 18446744073709551615) : In2 (cjoin am ar bm br) := by
  unfold cjoin
  by_cases h : am = 0 ∧ bm = 0
  · rw [if_pos h]
    by_cases h2 : ar = br
    · rw [if_pos h2]; exact in2_zero har har'
    · rw [if_neg h2]
      have hne : sg ar ≠ sg br := fun e => h2 (sg_inj har har' hbr hbr' e)
      have r1 := sg_rng ar
      have r2 := sg_rng br
      exact in2_mod (by unfold cdist; split <;> omega) (by unfold cdist; split <;> omega)
  · rw [if_neg h]
    have hg := cg_pos h
    have hx := crest_rng am ar (cg am bm) hg
    have hy := crest_rng bm br (cg am bm) hg
    have hgb := cg_bd ha hb ha' hb'
    refine in2_mod (cg_pos (by omega)) (cg_bd (by omega) cdist_rng hgb ?_)
    unfold cdist; split <;> omega
theorem cadd_in {am ar bm br : Int} (ha : 0 ≤ am) (ha' : am ≤ 18446744073709551615) (har : 0 ≤ ar) (har' : ar ≤ 18446744073709551615) (hb : 0 ≤ bm) (hb' : bm ≤ 18446744073709551615) (hbr : 0 ≤ br) (hbr' : br ≤ 18446744073709551615) : In2 (cadd am ar bm br) := by
  unfold cadd
  by_cases h : am = 0 ∧ bm = 0
  · rw [if_pos h]; exact in2_zero (us_rng _).1 (us_rng _).2
  · rw [if_neg h]; exact in2_mod (cg_pos h) (cg_bd ha hb ha' hb')
theorem csub_in {am ar bm br : Int} (ha : 0 ≤ am) (ha' : am ≤ 18446744073709551615) (har : 0 ≤ ar) (har' : ar ≤ 18446744073709551615) (hb : 0 ≤ bm) (hb' : bm ≤ 18446744073709551615) (hbr : 0 ≤ br) (hbr' : br ≤ 18446744073709551615) : In2 (csub am ar bm br) := by
  unfold csub
  by_cases h : am = 0 ∧ bm = 0
  · rw [if_pos h]; exact in2_zero (us_rng _).1 (us_rng _).2
  · rw [if_neg h]; exact in2_mod (cg_pos h) (cg_bd ha hb ha' hb')
theorem cscale_in {n m r : Int} (hm : 0 < m) (hm' : m ≤ 18446744073709551615) : In2 (cscale n m r) := by
  unfold cscale
  by_cases h : n = 0
  · rw [if_pos h]; exact in2_zero (Int.le_refl 0) (by decide)
  · rw [if_neg h]
    split
    · exact in2_mod (Int.mul_pos (cabs_rng h) hm) (by assumption)
    · exact in2_mod hm hm'
theorem cmul_in {am ar bm br : Int} (ha : 0 ≤ am) (ha' : am ≤ 18446744073709551615) (har : 0 ≤ ar) (har' : ar ≤ 18446744073709551615) (hb : 0 ≤ bm) (hb' : bm ≤ 18446744073709551615) (hbr : 0 ≤ br) (hbr' : br ≤ 18446744073709551615) : In2 (cmul am ar bm br) := by
  unfold cmul
  by_cases h : am = 0
  · rw [if_pos h]
    by_cases h2 : bm = 0
    · rw [if_pos h2]; exact in2_zero (us_rng _).1 (us_rng _).2
    · rw [if_neg h2]; exact cscale_in (by omega) hb'
  · rw [if_neg h]
    by_cases h2 : bm = 0
    · rw [if_pos h2]; exact cscale_in (by omega) ha'
    · rw [if_neg h2]
      split
      · rename_i hh
        have p1 : 0 < cg am ar := cg_pos (by omega)
        have p2 : 0 < cg bm br := cg_pos (by omega)
        have := Int.mul_pos p1 p2
        exact ⟨⟨by show 0 ≤ cg am ar * cg bm br; omega, hh.1⟩, Int.le_refl 0, show (0:Int) ≤ 18446744073709551615 by decide⟩
      · exact in2_mod (cg_pos (by omega)) (cg_bd ha hb ha' hb')
theorem cmeet_in {am ar bm br : Int} (ha : 0 ≤ am) (ha' : am ≤ 18446744073709551615) (har : 0 ≤ ar) (har' : ar ≤ 18446744073709551615) (hb : 0 ≤ bm) (hb' : bm ≤ 18446744073709551615) (hbr : 0 ≤ br) (hbr' : br ≤ 18446744073709551615) : In2 (cmeet am ar bm br).1 := by
  unfold cmeet
  split
  · exact in2_zero (Int.le_refl 0) (by decide)
  · split
    · exact ⟨⟨hb, hb'⟩, hbr, hbr'⟩
    · exact ⟨⟨ha, ha'⟩, har, har'⟩
theorem cwrapped_in {m r : Int} (hm : 0 ≤ m) (hm' : m ≤ 18446744073709551615) (hr : 0 ≤ r) (hr' : r ≤ 18446744073709551615) : In2 (cwrapped m r) := by
  unfold cwrapped
  by_cases h : m = 0
  · rw [if_pos h]; exact in2_zero hr hr'
  · rw [if_neg h]
    have := clow_rng m (by omega) hm'
    exact in2_mod this.1 (by omega)

end Go.Proofs.YtljhbdgoknfkcaaGreatDoor
