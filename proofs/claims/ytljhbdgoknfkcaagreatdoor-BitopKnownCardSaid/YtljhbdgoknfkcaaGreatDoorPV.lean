/- Laws of values that are reduced, in plain numbers. No condition but those that are named. -/
import Derived.Test.YtljhbdgoknfkcaaGreatDoorK3
namespace Go.Proofs.YtljhbdgoknfkcaaGreatDoor
open Go Go.RowKit Go.Sort
set_option linter.unusedVariables false
set_option linter.unusedSimpArgs false

/-- A value that is reduced. -/
structure RV (x : VV) : Prop where
  inn : InV x
  way : x = vbot ∨ (x.lo = x.hi ∧ x.m = 0 ∧ x.r = us x.lo) ∨ (x.lo < x.hi ∧ 0 < x.m ∧ 0 ≤ x.r ∧ x.r < x.m ∧ x.lo % x.m = x.r ∧ x.hi % x.m = x.r)
theorem rv_bot : RV vbot := ⟨vbot_in, .inl rfl⟩
theorem rv_one {n : Int} (h : IS n) : RV (vone n) := ⟨vone_in h, .inr (.inl ⟨rfl, rfl, rfl⟩)⟩
theorem rv_top : RV vtop := ⟨vtop_in, .inr (.inr (by decide))⟩
theorem vmake_rv {x : VV} (h : InV x) : RV (vmake x) := by
  refine ⟨vmake_in h, ?_⟩
  by_cases he : x.lo > x.hi
  · rw [vmake_empty he]; exact .inl rfl
  by_cases hm : x.m = 0
  · rw [vmake_zero h hm he]
    split
    · exact .inr (.inl ⟨rfl, rfl, rfl⟩)
    · exact .inl rfl
  · have h1 := h.m
    have k1 := emod_rng x.r x.m (by omega)
    have ka := emod_rng (x.r % x.m - x.lo) x.m (by omega)
    have kb := emod_rng (x.hi - x.r % x.m) x.m (by omega)
    rw [vmake_mod h hm he]
    split
    · exact .inl rfl
    · split
      · exact .inr (.inl ⟨rfl, rfl, rfl⟩)
      · refine .inr (.inr ⟨?_, by show 0 < x.m; omega, k1.1, k1.2, ?_, ?_⟩)
        · show x.lo + (x.r % x.m - x.lo) % x.m < x.hi - (x.hi - x.r % x.m) % x.m
          omega
        · show (x.lo + (x.r % x.m - x.lo) % x.m) % x.m = x.r % x.m
          rw [Int.add_emod_emod, show x.lo + (x.r % x.m - x.lo) = x.r % x.m by omega, Int.emod_emod]
        · show (x.hi - (x.hi - x.r % x.m) % x.m) % x.m = x.r % x.m
          rw [Int.sub_emod_emod, show x.hi - (x.hi - x.r % x.m) = x.r % x.m by omega, Int.emod_emod]
theorem RV.red {x : VV} (h : RV x) : Red x := by
  refine ⟨h.inn, ?_⟩
  rcases h.way with rfl | ⟨_, h, _⟩ | ⟨_, h1, h2, h3, _⟩
  · exact .inr (by decide)
  · exact .inl h
  · exact .inr h3
theorem RV.eq_bot {x : VV} (h : RV x) (hx : x.lo > x.hi) : x = vbot := by
  rcases h.way with h | ⟨h, _⟩ | ⟨h, _⟩
  · exact h
  · omega
  · omega
theorem RV.le {x : VV} (h : RV x) (hx : x ≠ vbot) : x.lo ≤ x.hi := by
  rcases h.way with h | ⟨h, _⟩ | ⟨h, _⟩
  · exact absurd h hx
  · omega
  · omega
theorem RV.fix {x : VV} (h : RV x) : vmake x = x := by
  obtain ⟨lo, hi, m, r⟩ := x
  have hI := h.inn
  rcases h.way with h | ⟨h1, h2, h3⟩ | ⟨h1, h2, h3, h4, h5, h6⟩
  · rw [h]; decide +kernel
  · dsimp only at h1 h2 h3
    subst h1 h2 h3
    rw [vmake_zero hI rfl (by show ¬ lo > lo; omega)]
    have hs : sg (us lo) = lo := sg_us lo hI.lo.1 hI.lo.2
    dsimp only
    rw [hs, if_pos ⟨Int.le_refl _, Int.le_refl _⟩]
    rfl
  · dsimp only at h1 h2 h3 h4 h5 h6
    rw [vmake_mod hI (by show m ≠ 0; omega) (by show ¬ lo > hi; omega)]
    dsimp only
    have e1 : r % m = r := Int.emod_eq_of_lt h3 h4
    have e2 : (r - lo) % m = 0 := by rw [Int.sub_emod, e1, h5]; simp
    have e3 : (hi - r) % m = 0 := by rw [Int.sub_emod, e1, h6]; simp
    rw [e1, e2, e3, if_neg (by omega), if_neg (by omega)]
    simp
theorem veq_false {x y : VV} (h : x ≠ y) : veq x y = false := by
  cases hv : veq x y with
  | false => rfl
  | true => exact absurd (veq_iff.1 hv) h
theorem ijoin_ne {a b c d : Int} (h : a ≤ b) (h' : c ≤ d) : ijoin (ijoin 1 0 a b).1 (ijoin 1 0 a b).2 c d = rijoin a b c d := by
  unfold ijoin rijoin
  grind
theorem rvjoin_eq {x y : VV} (h : RV x) (k : RV y) : rvjoin x y = vjoin x y := by
  unfold rvjoin vjoin
  by_cases h1 : x = vbot
  · rw [veq_iff.2 h1]; rfl
  · by_cases h2 : y = vbot
    · rw [veq_false h1, veq_iff.2 h2]; rfl
    · rw [veq_false h1, veq_false h2, ijoin_ne (h.le h1) (k.le h2)]
theorem imeet_whole {a b c d : Int} (ha : IS a) (hb : IS b) (h : a ≤ b ∨ (a = 1 ∧ b = 0)) : imeet (imeet (-9223372036854775808) 9223372036854775807 a b).1 (imeet (-9223372036854775808) 9223372036854775807 a b).2 c d = imeet a b c d := by
  unfold imeet iof
  grind
theorem RV.lohi {x : VV} (h : RV x) : x.lo ≤ x.hi ∨ (x.lo = 1 ∧ x.hi = 0) := by
  by_cases h1 : x = vbot
  · subst h1; exact .inr ⟨rfl, rfl⟩
  · exact .inl (h.le h1)
theorem rvmeet_eq {x y : VV} (h : RV x) (k : RV y) : rvmeet x y = vmeet x y := by
  unfold rvmeet vmeet
  rw [imeet_whole h.inn.lo h.inn.hi h.lohi]
theorem rvwiden_eq {x y : VV} (h : RV x) (k : RV y) : rvwiden x y = vwiden x y := by
  unfold rvwiden vwiden
  by_cases h1 : x = vbot
  · rw [veq_iff.2 h1]; simp [rvjoin, veq_iff.2 h1]
  · by_cases h2 : y = vbot
    · rw [veq_false h1, veq_iff.2 h2]; simp [rvjoin, veq_false h1, veq_iff.2 h2]
    · rw [veq_false h1, veq_false h2]; simp
theorem rwithin_eq {x y : VV} (h : RV x) (k : RV y) : rwithin x y = vwithin x y := by
  unfold rwithin vwithin
  rcases h.way with h1 | ⟨h1, h2, h3⟩ | ⟨h1, h2, h3, h4, h5, h6⟩
  · rw [veq_iff.2 h1]; rfl
  · have hs : sg (us x.lo) = x.lo := sg_us x.lo h.inn.lo.1 h.inn.lo.2
    congr 1
    rw [if_pos h1]
    unfold vhas iwithin cwithin
    rw [h2, h3, if_pos rfl, hs]
    grind
  · congr 1
    rw [if_neg (by omega)]
    unfold vhas iwithin cwithin chas
    rw [if_neg (show ¬ x.m = 0 by omega)]
    by_cases hy : y.m = 0
    · simp [hy]
    · have ky := k.inn.m
      simp only [if_neg hy]
      have hd : ∀ z, z % x.m = x.r → x.m % y.m = 0 → z % y.m = x.r % y.m := fun z hz hd => by
        rw [← hz]
        exact (Int.emod_emod_of_dvd z (Int.dvd_of_emod_eq_zero hd)).symm
      have d1 := hd x.lo h5
      have d2 := hd x.hi h6
      grind
/-! What numbers a value has: laws of values that are reduced, in plain numbers. -/
/-- A value has a number. -/
def vin (x : VV) (n : Int) : Prop := x.lo ≤ n ∧ n ≤ x.hi ∧ chas x.m x.r n = true
theorem vhas_iff {x : VV} {n : Int} : vhas x n = true ↔ vin x n := by
  unfold vhas vin
  simp only [Bool.and_eq_true, decide_eq_true_eq, and_assoc]
theorem vin_bot {n : Int} (h : vin vbot n) : False := by
  have h1 : (1 : Int) ≤ n := h.1
  have h2 : n ≤ 0 := h.2.1
  omega
theorem emod_le_self {z m : Int} (hz : 0 ≤ z) (hm : 0 < m) : z % m ≤ z := by
  have := Int.mul_ediv_add_emod z m
  have h1 := Int.ediv_nonneg hz (Int.le_of_lt hm)
  have h2 := Int.mul_nonneg (Int.le_of_lt hm) h1
  omega
theorem us_inj {a b : Int} (ha : IS a) (hb : IS b) (h : us a = us b) : a = b := by
  have := sg_us a ha.1 ha.2
  rw [h, sg_us b hb.1 hb.2] at this
  exact this.symm
theorem vin_one {k n : Int} (hk : IS k) (hn : IS n) : vin (vone k) n ↔ n = k := by
  constructor
  · intro h
    have h1 : k ≤ n := h.1
    have h2 : n ≤ k := h.2.1
    omega
  · rintro rfl
    exact ⟨Int.le_refl _, Int.le_refl _, by simp [vone, chas]⟩
/-- What is made has just the numbers of the interval that the congruence has. -/
theorem vin_make {x : VV} (h : InV x) {n : Int} (hn : IS n) : vin (vmake x) n ↔ x.lo ≤ n ∧ n ≤ x.hi ∧ (if x.m = 0 then n = sg x.r else n % x.m = x.r % x.m) := by
  by_cases he : x.lo > x.hi
  · rw [vmake_empty he]
    constructor
    · exact fun k => (vin_bot k).elim
    · rintro ⟨h1, h2, _⟩; omega
  by_cases hm : x.m = 0
  · rw [vmake_zero h hm he, if_pos hm]
    have hs := sg_rng x.r
    split
    · rw [vin_one hs hn]
      constructor
      · rintro rfl; exact ⟨by omega, by omega, rfl⟩
      · exact fun k => k.2.2
    · constructor
      · exact fun k => (vin_bot k).elim
      · rintro ⟨h1, h2, rfl⟩; omega
  · have hm0 := h.m
    have k1 := emod_rng x.r x.m (by omega)
    have ka := emod_rng (x.r % x.m - x.lo) x.m (by omega)
    have kb := emod_rng (x.hi - x.r % x.m) x.m (by omega)
    have key : x.lo ≤ n → n ≤ x.hi → n % x.m = x.r % x.m → x.lo + (x.r % x.m - x.lo) % x.m ≤ n ∧ n ≤ x.hi - (x.hi - x.r % x.m) % x.m := by
      intro h1 h2 h3
      have e1 : (n - x.lo) % x.m = (x.r % x.m - x.lo) % x.m := by rw [Int.sub_emod n, h3, ← Int.sub_emod, Int.emod_sub_emod]
      have e2 : (x.hi - n) % x.m = (x.hi - x.r % x.m) % x.m := by rw [Int.sub_emod x.hi n, h3, ← Int.sub_emod, Int.sub_emod_emod]
      have e3 := emod_le_self (z := n - x.lo) (m := x.m) (by omega) (by omega)
      have e4 := emod_le_self (z := x.hi - n) (m := x.m) (by omega) (by omega)
      omega
    rw [vmake_mod h hm he, if_neg hm]
    split
    · constructor
      · exact fun k => (vin_bot k).elim
      · rintro ⟨h1, h2, h3⟩
        have := key h1 h2 h3
        omega
    · have hlo := h.lo
      have hhi := h.hi
      split
      · rename_i hne heq
        rw [vin_one ⟨by omega, by omega⟩ hn]
        constructor
        · rintro rfl
          refine ⟨by omega, by omega, ?_⟩
          rw [Int.add_emod_emod, show x.lo + (x.r % x.m - x.lo) = x.r % x.m by omega, Int.emod_emod]
        · rintro ⟨h1, h2, h3⟩
          have := key h1 h2 h3
          omega
      · unfold vin
        dsimp only
        unfold chas
        rw [if_neg hm]
        constructor
        · rintro ⟨h1, h2, h3⟩
          exact ⟨by omega, by omega, by simpa using h3⟩
        · rintro ⟨h1, h2, h3⟩
          have := key h1 h2 h3
          exact ⟨this.1, this.2, by simpa using h3⟩
theorem Red.cong {x : VV} (h : InV x) (hr : x.m = 0 ∨ x.r < x.m) {n : Int} (hn : IS n) : (if x.m = 0 then n = sg x.r else n % x.m = x.r % x.m) ↔ chas x.m x.r n = true := by
  have hr0 := h.r
  unfold chas
  split
  · rename_i hm
    constructor
    · rintro rfl
      rw [us_sg x.r hr0.1 hr0.2]; simp
    · intro k
      have k : us n = x.r := by simpa using k
      rw [← k, sg_us n hn.1 hn.2]
  · rename_i hm
    rw [Int.emod_eq_of_lt hr0.1 (by omega)]
    simp
theorem vin_mk {x : VV} (h : InV x) (hr : x.m = 0 ∨ x.r < x.m) {n : Int} (hn : IS n) : vin (vmake x) n ↔ vin x n := by
  rw [vin_make h hn, Red.cong h hr hn]; rfl
theorem RV.right {x : VV} (h : RV x) : x.m = 0 ∨ x.r < x.m := h.red.2
theorem RV.lo_in {x : VV} (h : RV x) (hx : x ≠ vbot) : vin x x.lo := by
  rcases h.way with h1 | ⟨h1, h2, h3⟩ | ⟨h1, h2, h3, h4, h5, h6⟩
  · exact absurd h1 hx
  · exact ⟨Int.le_refl _, by omega, by rw [h2, h3]; simp [chas]⟩
  · exact ⟨Int.le_refl _, by omega, by unfold chas; rw [if_neg (by omega)]; simpa using h5⟩
theorem RV.hi_in {x : VV} (h : RV x) (hx : x ≠ vbot) : vin x x.hi := by
  rcases h.way with h1 | ⟨h1, h2, h3⟩ | ⟨h1, h2, h3, h4, h5, h6⟩
  · exact absurd h1 hx
  · exact ⟨by omega, Int.le_refl _, by rw [h2, h3, h1]; simp [chas]⟩
  · exact ⟨by omega, Int.le_refl _, by unfold chas; rw [if_neg (by omega)]; simpa using h6⟩
theorem RV.ne {x : VV} {n : Int} (h : vin x n) : x ≠ vbot := by rintro rfl; exact vin_bot h
/-- The second number. -/
theorem RV.next {x : VV} (h : RV x) (hx : x.lo < x.hi) : 0 < x.m ∧ x.lo + x.m ≤ x.hi ∧ vin x (x.lo + x.m) := by
  rcases h.way with h1 | ⟨h1, h2, h3⟩ | ⟨h1, h2, h3, h4, h5, h6⟩
  · subst h1; exact absurd hx (by decide)
  · omega
  · have e1 : (x.hi - x.lo) % x.m = 0 := by rw [Int.sub_emod, h5, h6]; simp
    have e2 := Int.mul_ediv_add_emod (x.hi - x.lo) x.m
    have e3 : 0 < (x.hi - x.lo) / x.m := by
      have h0 := Int.ediv_nonneg (show 0 ≤ x.hi - x.lo by omega) (Int.le_of_lt h2)
      rcases Int.lt_or_eq_of_le h0 with h0 | h0
      · exact h0
      · rw [← h0] at e2; omega
    have e4 : x.m * 1 ≤ x.m * ((x.hi - x.lo) / x.m) := Int.mul_le_mul_of_nonneg_left (by omega) (by omega)
    refine ⟨h2, by omega, by omega, by omega, ?_⟩
    unfold chas
    rw [if_neg (by omega)]
    simpa using h5
theorem vin_two {y : VV} {a b : Int} (ha : IS a) (hb : IS b) (h : a < b) (h1 : vin y a) (h2 : vin y b) : y.m ≠ 0 := by
  intro h0
  have k1 := h1.2.2
  have k2 := h2.2.2
  unfold chas at k1 k2
  rw [if_pos h0] at k1 k2
  have : us a = us b := by rw [show us a = y.r by simpa using k1, show us b = y.r by simpa using k2]
  have := us_inj ha hb this
  omega
theorem vin_mod {y : VV} {a : Int} (h : vin y a) (hm : y.m ≠ 0) : a % y.m = y.r := by
  have := h.2.2
  unfold chas at this
  rw [if_neg hm] at this
  simpa using this
theorem RV.is_lo {x : VV} (h : RV x) : IS x.lo := h.inn.lo
theorem within_dvd {x y : VV} (h : RV x) (k : RV y) (hx : x.lo < x.hi) (hs : ∀ n, IS n → vin x n → vin y n) : y.m ≠ 0 ∧ x.m % y.m = 0 := by
  have hne : x ≠ vbot := by rintro rfl; exact absurd hx (by decide)
  obtain ⟨h0, h1, h2⟩ := h.next hx
  have b1 := h.inn.lo
  have b2 := h.inn.hi
  have l1 := hs _ b1 (h.lo_in hne)
  have l2 := hs (x.lo + x.m) ⟨by omega, by omega⟩ h2
  have hy := vin_two b1 ⟨by omega, by omega⟩ (by omega) l1 l2
  refine ⟨hy, ?_⟩
  have e1 := vin_mod l1 hy
  have e2 := vin_mod l2 hy
  rw [show x.m = (x.lo + x.m) - x.lo by omega, Int.sub_emod, e2, e1]
  simp
/-- A value that is reduced is told by its numbers. -/
theorem RV.ext {x y : VV} (h : RV x) (k : RV y) (hs : ∀ n, IS n → (vin x n ↔ vin y n)) : x = y := by
  by_cases hx : x = vbot
  · by_cases hy : y = vbot
    · rw [hx, hy]
    · have := (hs _ k.inn.lo).2 (k.lo_in hy)
      rw [hx] at this
      exact (vin_bot this).elim
  · by_cases hy : y = vbot
    · have := (hs _ h.inn.lo).1 (h.lo_in hx)
      rw [hy] at this
      exact (vin_bot this).elim
    · have a1 := (hs _ h.inn.lo).1 (h.lo_in hx)
      have a2 := (hs _ h.inn.hi).1 (h.hi_in hx)
      have a3 := (hs _ k.inn.lo).2 (k.lo_in hy)
      have a4 := (hs _ k.inn.hi).2 (k.hi_in hy)
      have e1 : x.lo = y.lo := Int.le_antisymm a3.1 a1.1
      have e2 : x.hi = y.hi := Int.le_antisymm a2.2.1 a4.2.1
      have le := h.le hx
      rcases Int.lt_or_eq_of_le le with lt | eq
      · have d1 := within_dvd h k lt fun n hn => (hs n hn).1
        have d2 := within_dvd k h (by omega) fun n hn => (hs n hn).2
        have p1 := (h.next lt).1
        have p2 := (k.next (by omega)).1
        have e3 : x.m = y.m := by
          have q1 := Int.le_of_dvd p1 (Int.dvd_of_emod_eq_zero d1.2)
          have q2 := Int.le_of_dvd p2 (Int.dvd_of_emod_eq_zero d2.2)
          omega
        have e4 : x.r = y.r := by
          have r1 := vin_mod (h.lo_in hx) (by omega)
          have r2 := vin_mod (k.lo_in hy) (by omega)
          rw [← r1, ← r2, e1, e3]
        cases x; cases y
        simp only at e1 e2 e3 e4
        rw [e1, e2, e3, e4]
      · rcases h.way with w | ⟨w1, w2, w3⟩ | ⟨w1, _⟩
        · exact absurd w hx
        · rcases k.way with v | ⟨v1, v2, v3⟩ | ⟨v1, _⟩
          · exact absurd v hy
          · have e4 : x.r = y.r := by rw [w3, v3, e1]
            cases x; cases y
            simp only at e1 e2 w2 v2 e4
            rw [e1, e2, w2, v2, e4]
          · omega
        · omega
theorem vwithin_iff {x y : VV} (h : RV x) (k : RV y) : vwithin x y = true ↔ ∀ n, IS n → vin x n → vin y n := by
  unfold vwithin
  by_cases hx : x = vbot
  · rw [veq_iff.2 hx, hx]
    simp only [Bool.true_or, true_iff]
    exact fun n _ hn => (vin_bot hn).elim
  rw [veq_false hx, Bool.false_or, Bool.and_eq_true]
  have le := h.le hx
  have hi : iwithin x.lo x.hi y.lo y.hi = true ↔ y.lo ≤ x.lo ∧ x.hi ≤ y.hi := by
    unfold iwithin
    simp only [Bool.or_eq_true, decide_eq_true_eq, Bool.and_eq_true]
    omega
  rw [hi]
  rcases h.way with w | ⟨w1, w2, w3⟩ | ⟨w1, w2, w3, w4, w5, w6⟩
  · exact absurd w hx
  · have hc : cwithin x.m x.r y.m y.r = chas y.m y.r x.lo := by
      unfold cwithin
      rw [if_pos w2, w3, sg_us x.lo h.inn.lo.1 h.inn.lo.2]
    rw [hc]
    constructor
    · rintro ⟨⟨h1, h2⟩, h3⟩ n hn hv
      have : n = x.lo := by have := hv.1; have := hv.2.1; omega
      subst this
      exact ⟨h1, by omega, h3⟩
    · intro hs
      have := hs _ h.inn.lo (h.lo_in hx)
      exact ⟨⟨this.1, by have := this.2.1; omega⟩, this.2.2⟩
  · have hc : cwithin x.m x.r y.m y.r = true ↔ y.m ≠ 0 ∧ x.m % y.m = 0 ∧ x.r % y.m = y.r := by
      unfold cwithin
      rw [if_neg (by omega)]
      split
      · rename_i h0; simp [h0]
      · rename_i h0; simp [h0]
    rw [hc]
    constructor
    · rintro ⟨⟨h1, h2⟩, h3, h4, h5⟩ n hn hv
      refine ⟨by have := hv.1; omega, by have := hv.2.1; omega, ?_⟩
      have e := vin_mod hv (by omega)
      unfold chas
      rw [if_neg h3, ← h5, ← e, Int.emod_emod_of_dvd n (Int.dvd_of_emod_eq_zero h4)]
      simp
    · intro hs
      have d := within_dvd h k w1 hs
      have l1 := hs _ h.inn.lo (h.lo_in hx)
      have l2 := hs _ h.inn.hi (h.hi_in hx)
      refine ⟨⟨l1.1, l2.2.1⟩, d.1, d.2, ?_⟩
      rw [← vin_mod l1 d.1, ← w5, Int.emod_emod_of_dvd _ (Int.dvd_of_emod_eq_zero d.2)]
/-- The numbers of one within another's interval and congruence, made. -/
theorem vin_mkr {x : VV} (h : RV x) {a b : Int} (ha : IS a) (hb : IS b) {n : Int} (hn : IS n) : vin (vmk (a, b) (x.m, x.r)) n ↔ a ≤ n ∧ n ≤ b ∧ chas x.m x.r n = true :=
  vin_mk (x := ⟨a, b, x.m, x.r⟩) ⟨ha, hb, h.inn.m, h.inn.r⟩ h.right hn
theorem vmk_iof {a b : Int} (c : Int × Int) : vmk (iof a b) c = vmk (a, b) c := by
  unfold vmk iof
  split
  · rename_i h
    rw [vmake_empty (x := ⟨a, b, c.1, c.2⟩) h]
    exact vmake_empty (x := ⟨1, 0, c.1, c.2⟩) (show (1 : Int) > 0 by decide)
  · rfl
theorem cmeet_top {m r : Int} (h : m = 0 ∨ r < m) (hm : 0 ≤ m) (hr : 0 ≤ r) : cmeet 1 0 m r = ((m, r), true) := by
  have g : cg 1 m = 1 := by unfold cg; simp
  have hc : ccommon 1 0 m r = true := by
    unfold ccommon
    rw [if_neg (by decide), g]
    split
    · simp [chas]
    · simp [crest]
  have hw : m ≠ 0 → cwithin m r 1 0 = true := fun h0 => by
    unfold cwithin
    rw [if_neg h0, if_neg (by decide)]
    simp
  unfold cmeet
  rw [hc]
  rw [if_neg (by decide)]
  by_cases h0 : m = 0
  · subst h0
    rw [if_pos]
    refine ⟨by simp [cwithin], .inl ?_⟩
    simp [cwithin, chas]
  · by_cases h1 : m = 1
    · have : r = 0 := by omega
      subst h1; subst this
      split <;> rfl
    · rw [if_pos]
      refine ⟨?_, .inl (hw h0)⟩
      unfold cwithin
      rw [if_neg (by decide), if_neg h0]
      have : (1 : Int) % m = 1 := Int.emod_eq_of_lt (by decide) (by omega)
      rw [this]
      simp
theorem vmeet_top {x : VV} (h : RV x) : vmeet vtop x = x := by
  unfold vmeet
  have hm := h.inn.m
  have hr := h.inn.r
  have e := cmeet_top h.right hm.1 hr.1
  rw [show vtop.m = 1 from rfl, show vtop.r = 0 from rfl, e]
  have b1 := h.inn.lo
  have b2 := h.inn.hi
  have e2 : imeet (imeet (-9223372036854775808) 9223372036854775807 vtop.lo vtop.hi).1 (imeet (-9223372036854775808) 9223372036854775807 vtop.lo vtop.hi).2 x.lo x.hi = iof x.lo x.hi := by
    have : imeet (-9223372036854775808) 9223372036854775807 vtop.lo vtop.hi = (-9223372036854775808, 9223372036854775807) := by decide
    rw [this]
    unfold imeet
    dsimp only
    congr 1
    · split <;> omega
    · split <;> omega
  rw [e2]
  show vmk (iof x.lo x.hi) (x.m, x.r) = x
  rw [vmk_iof]
  exact h.fix
/-! Contract of value.Of: whatever the numbers. -/
set_option maxRecDepth 100000
theorem vjoin_rv {x y : VV} (h : RV x) (k : RV y) : RV (vjoin x y) := by
  unfold vjoin
  have b1 := ijoin_in (a := 1) (b := 0) ⟨by decide, by decide⟩ ⟨by decide, by decide⟩ h.inn.lo h.inn.hi
  split
  · exact k
  · split
    · exact h
    · exact vmake_rv ⟨(ijoin_in b1.1 b1.2 k.inn.lo k.inn.hi).1, (ijoin_in b1.1 b1.2 k.inn.lo k.inn.hi).2, (cj_in h.inn k.inn).1, (cj_in h.inn k.inn).2⟩
theorem vmeet_rv {x y : VV} (h : RV x) (k : RV y) : RV (vmeet x y) := by
  unfold vmeet
  have b1 := imeet_in (a := -9223372036854775808) (b := 9223372036854775807) ⟨by decide, by decide⟩ ⟨by decide, by decide⟩ h.inn.lo h.inn.hi
  split
  · exact rv_bot
  · exact vmake_rv ⟨(imeet_in b1.1 b1.2 k.inn.lo k.inn.hi).1, (imeet_in b1.1 b1.2 k.inn.lo k.inn.hi).2, (cm_in h.inn k.inn).1, (cm_in h.inn k.inn).2⟩
theorem vwiden_rv {x y : VV} (h : RV x) (k : RV y) : RV (vwiden x y) := by
  unfold vwiden
  have b1 := iwiden_in h.inn.lo h.inn.hi k.inn.lo k.inn.hi
  split
  · exact k
  · split
    · exact h
    · exact vmake_rv ⟨b1.1, b1.2, (cj_in h.inn k.inn).1, (cj_in h.inn k.inn).2⟩
theorem vnarrow_rv {x y : VV} (h : RV x) (k : RV y) : RV (vnarrow x y) := by
  unfold vnarrow
  have b1 := inarrow_in h.inn.lo h.inn.hi k.inn.lo k.inn.hi
  split
  · exact rv_bot
  · exact vmake_rv ⟨b1.1, b1.2, (cm_in h.inn k.inn).1, (cm_in h.inn k.inn).2⟩
theorem vjoin_bot (x : VV) : vjoin vbot x = x := by unfold vjoin; rw [veq_iff.2 rfl]; rfl
theorem vjoins_two {x y : VV} (h : RV x) (k : RV y) : vjoins [x, y] = vjoin x y := by
  unfold vjoins
  simp only [List.foldl_cons, List.foldl_nil]
  rw [h.fix, k.fix, vjoin_bot]
theorem fold_rv {α : Type} {f : VV → α → VV} {p : α → Prop} (hf : ∀ a x, RV a → p x → RV (f a x)) : ∀ (l : List α) (a : VV), RV a → (∀ x ∈ l, p x) → RV (l.foldl f a)
  | [], a, ha, _ => ha
  | x :: l, a, ha, h => fold_rv hf l _ (hf a x ha (h x (by simp))) fun p hp => h p (by simp [hp])
/-- The cells of numbers. -/
def ICs (l : List Int) : List Value := l.map (Value.int .i64)
theorem ICs_drop : ∀ (M : List Int) (j : Nat), j < M.length → ((ICs M).drop j).take 1 = [.int .i64 (M.getD j 0)]
  | p :: M, 0, _ => by simp [ICs]
  | p :: M, j + 1, h => by
    have ih := ICs_drop M j (by simpa using h)
    simpa [ICs] using ih
theorem cellsI {l : List Int} {b off : Nat} {K : List Value → Prop} (n : Int) (h0 : 0 ≤ n) (h : n < (l.length : Int)) (k : K [.int .i64 (l.getD n.toNat 0)]) : CellsN (rowF b off (ICs l)) b (off + n.toNat * 1) 1 K :=
  cellsN_row _ (by rw [Nat.mul_one]; exact ICs_drop l n.toNat (by omega)) rfl k
theorem getD_is {l : List Int} (h : ∀ p ∈ l, IS p) (j : Nat) : IS (l.getD j 0) := by
  by_cases hj : j < l.length
  · have : l.getD j 0 = l[j] := by simp [List.getD, hj]
    rw [this]; exact h _ (List.getElem_mem hj)
  · have : l.getD j 0 = 0 := by simp [List.getD, List.getElem?_eq_none (Nat.le_of_not_lt hj)]
    rw [this]; exact ⟨by decide, by decide⟩
theorem take_foldI {α : Type} (f : α → Int → α) (a : α) (l : List Int) (i : Nat) (h : i < l.length) : (l.take (i + 1)).foldl f a = f ((l.take i).foldl f a) (l.getD i 0) := by
  rw [List.take_add_one, List.foldl_append]
  have : l[i]? = some (l.getD i 0) := by simp [List.getD, h]
  rw [this]
  rfl
def vofs (l : List Int) : VV := l.foldl (fun a n => vjoin a (vone n)) vbot
theorem vofs_rv {l : List Int} (h : ∀ p ∈ l, IS p) : RV (vofs l) := fold_rv (p := IS) (fun a x ha hx => vjoin_rv ha (rv_one hx)) l _ rv_bot h
theorem vOf_m (l : List Int) (hl : ∀ p ∈ l, IS p) (hlen : l.length ≤ 9223372036854775807) (ad : Option Addr) (b off cap : Nat) (hs : 0 < l.length → ad = some ⟨b, off, none⟩) : Den Tryz.prog 14 #[.slice ad l.length cap] (rowF b off (ICs l)) (VVal (vofs l)) := by
  have hp : ∀ i : Nat, RV (vofs (l.take i)) := fun i => vofs_rv fun p hp => hl p (List.mem_of_mem_take hp)
  refine den_of_body (args := [.slice ad l.length cap]) hmix Tryz.func14 ?_
  (repeat' ((conv => whnf); first | refine CallN.any _ vBottom_d ?_ | refine AdN.mk _ _ rfl ?_ | refine DrawN.a (Ob.mk (by decide +kernel) ?_) | refine DrawN.c (Ob.mk (by decide +kernel) ?_) | refine DrawN.b (Ob.mk (by decide +kernel) ?_) | refine Ob.mk (by kernel_rfl) ?_ | (refine Br.mk (fun h => ?_) (fun h => ?_) <;> (first | (exfalso; exact Bool.false_ne_true h) | (exfalso; exact Bool.false_ne_true h.symm) | skip)) | refine SeqN.go ?_)); all_goals (conv => whnf)
  refine LoopN.mk {i : Nat // i ≤ l.length} (fun i => [(9, .v (.int .i64 i.1))]) (fun i => [.cells [.junk, .junk, .junk, .junk], .cells ((VC (vofs (l.take i.1))).map .v)]) (fun i => l.length - i.1) ⟨0, Nat.zero_le _⟩ ?_ ?_
  · (conv => whnf); (repeat' (first | exact True.intro | exact rfl | refine And.intro ?_ ?_ | decide))
  (conv => whnf)
  rintro ⟨i, hi⟩
  have ho := getD_is hl i
  have D := vJoin2_d (vofs (l.take i)) (vone (l.getD i 0)) (hp i).inn (vone_in ho)
  rw [vjoins_two (hp i) (rv_one ho)] at D
  (repeat' ((conv => whnf); first | refine CallN.any _ (vOne_d _) ?_ | refine CallA.any _ D ?_ | refine Ob.mk ⟨Int.natCast_nonneg _, of_decide_eq_true (by assumption)⟩ ?_ | refine AdN.mk b off (hs (by have := of_decide_eq_true ‹decide ((i : Int) < l.length) = true›; omega)) ?_ | refine cellsI _ (Int.natCast_nonneg _) (of_decide_eq_true (by assumption)) ?_ | refine AdN.mk _ _ rfl ?_ | refine DrawN.a (Ob.mk (by decide +kernel) ?_) | refine DrawN.c (Ob.mk (by decide +kernel) ?_) | refine DrawN.b (Ob.mk (by decide +kernel) ?_) | refine Ob.mk (by kernel_rfl) ?_ | (refine Br.mk (fun h => ?_) (fun h => ?_) <;> (first | (exfalso; exact Bool.false_ne_true h) | (exfalso; exact Bool.false_ne_true h.symm) | skip)) | refine SeqN.go ?_)); all_goals (conv => whnf)
  · have h' : (i : Int) < (l.length : Int) := of_decide_eq_true ‹_›
    refine RoundN.mk ⟨i + 1, by omega⟩ (by show l.length - (i + 1) < l.length - i; omega) ?_
    (conv => whnf); (repeat' (first | exact True.intro | exact rfl | refine And.intro ?_ ?_ | decide))
    all_goals first | (refine congrArg (Value.int _) ?_; dsimp only; rw [i64_in (by omega) (by omega)]; omega) | (dsimp only [vofs]; rw [take_foldI _ _ _ _ (by omega)]; exact rfl)
  · have h' : ¬ (i : Int) < (l.length : Int) := of_decide_eq_false ‹_›
    have e : i = l.length := by omega
    subst e
    simp [retV]
end Go.Proofs.YtljhbdgoknfkcaaGreatDoor
