/- Laws of values that are reduced, in plain numbers. No condition but those that are named. -/
import Derived.Test.YtcemohoigdninaaDoorK5
namespace Go.Proofs.YtcemohoigdninaaDoor
open Go Go.RowKit Go.Sort
set_option linter.unusedVariables false
set_option linter.unusedSimpArgs false

/-- A value that is reduced. -/
structure RV (x : VV) : Prop where
  inn : InV x
  way : x = vbot ∨ (x.lo = x.hi ∧ x.m = 0 ∧ x.r = us x.lo) ∨ (x.lo < x.hi ∧ 0 < x.m ∧ 0 ≤ x.r ∧ x.r < x.m ∧ x.lo % x.m = x.r ∧ x.hi % x.m = x.r)
theorem rv_bot : RV vbot := ⟨vbot_in, .inl rfl⟩
theorem rv_one {n : Int} (h : IS n) : RV (vone n) := ⟨vone_in h, .inr (.inl ⟨rfl, rfl, rfl⟩)⟩
theorem rv_top : RV vtop := ⟨vtop_in, .inr (.inr (by decide))⟩
theorem vmake_rv {x : VV} (h : InV x) : RV (vmake x) := by
  refine ⟨vmake_in h, ?_⟩
  by_cases he : x.lo > x.hi
  · rw [vmake_empty he]; exact .inl rfl
  by_cases hm : x.m = 0
  · rw [vmake_zero h hm he]
    split
    · exact .inr (.inl ⟨rfl, rfl, rfl⟩)
    · exact .inl rfl
  · have h1 := h.m
    have k1 := emod_rng x.r x.m (by omega)
    have ka := emod_rng (x.r % x.m - x.lo) x.m (by omega)
    have kb := emod_rng (x.hi - x.r % x.m) x.m (by omega)
    rw [vmake_mod h hm he]
    split
    · exact .inl rfl
    · split
      · exact .inr (.inl ⟨rfl, rfl, rfl⟩)
      · refine .inr (.inr ⟨?_, by show 0 < x.m; omega, k1.1, k1.2, ?_, ?_⟩)
        · show x.lo + (x.r % x.m - x.lo) % x.m < x.hi - (x.hi - x.r % x.m) % x.m
          omega
        · show (x.lo + (x.r % x.m - x.lo) % x.m) % x.m = x.r % x.m
          rw [Int.add_emod_emod, show x.lo + (x.r % x.m - x.lo) = x.r % x.m by omega, Int.emod_emod]
        · show (x.hi - (x.hi - x.r % x.m) % x.m) % x.m = x.r % x.m
          rw [Int.sub_emod_emod, show x.hi - (x.hi - x.r % x.m) = x.r % x.m by omega, Int.emod_emod]
theorem RV.red {x : VV} (h : RV x) : Red x := by
  refine ⟨h.inn, ?_⟩
  rcases h.way with rfl | ⟨_, h, _⟩ | ⟨_, h1, h2, h3, _⟩
  · exact .inr (by decide)
  · exact .inl h
  · exact .inr h3
theorem RV.eq_bot {x : VV} (h : RV x) (hx : x.lo > x.hi) : x = vbot := by
  rcases h.way with h | ⟨h, _⟩ | ⟨h, _⟩
  · exact h
  · omega
  · omega
theorem RV.le {x : VV} (h : RV x) (hx : x ≠ vbot) : x.lo ≤ x.hi := by
  rcases h.way with h | ⟨h, _⟩ | ⟨h, _⟩
  · exact absurd h hx
  · omega
  · omega
theorem RV.fix {x : VV} (h : RV x) : vmake x = x := by
  obtain ⟨lo, hi, m, r⟩ := x
  have hI := h.inn
  rcases h.way with h | ⟨h1, h2, h3⟩ | ⟨h1, h2, h3, h4, h5, h6⟩
  · rw [h]; decide +kernel
  · dsimp only at h1 h2 h3
    subst h1 h2 h3
    rw [vmake_zero hI rfl (by show ¬ lo > lo; omega)]
    have hs : sg (us lo) = lo := sg_us lo hI.lo.1 hI.lo.2
    dsimp only
    rw [hs, if_pos ⟨Int.le_refl _, Int.le_refl _⟩]
    rfl
  · dsimp only at h1 h2 h3 h4 h5 h6
    rw [vmake_mod hI (by show m ≠ 0; omega) (by show ¬ lo > hi; omega)]
    dsimp only
    have e1 : r % m = r := Int.emod_eq_of_lt h3 h4
    have e2 : (r - lo) % m = 0 := by rw [Int.sub_emod, e1, h5]; simp
    have e3 : (hi - r) % m = 0 := by rw [Int.sub_emod, e1, h6]; simp
    rw [e1, e2, e3, if_neg (by omega), if_neg (by omega)]
    simp
theorem veq_false {x y : VV} (h : x ≠ y) : veq x y = false := by
  cases hv : veq x y with
  | false => rfl
  | true => exact absurd (veq_iff.1 hv) h
theorem ijoin_ne {a b c d : Int} (h : a ≤ b) (h' : c ≤ d) : ijoin (ijoin 1 0 a b).1 (ijoin 1 0 a b).2 c d = rijoin a b c d := by
  unfold ijoin rijoin
  grind
theorem rvjoin_eq {x y : VV} (h : RV x) (k : RV y) : rvjoin x y = vjoin x y := by
  unfold rvjoin vjoin
  by_cases h1 : x = vbot
  · rw [veq_iff.2 h1]; rfl
  · by_cases h2 : y = vbot
    · rw [veq_false h1, veq_iff.2 h2]; rfl
    · rw [veq_false h1, veq_false h2, ijoin_ne (h.le h1) (k.le h2)]
theorem imeet_whole {a b c d : Int} (ha : IS a) (hb : IS b) (h : a ≤ b ∨ (a = 1 ∧ b = 0)) : imeet (imeet (-9223372036854775808) 9223372036854775807 a b).1 (imeet (-9223372036854775808) 9223372036854775807 a b).2 c d = imeet a b c d := by
  unfold imeet iof
  grind
theorem RV.lohi {x : VV} (h : RV x) : x.lo ≤ x.hi ∨ (x.lo = 1 ∧ x.hi = 0) := by
  by_cases h1 : x = vbot
  · subst h1; exact .inr ⟨rfl, rfl⟩
  · exact .inl (h.le h1)
theorem rvmeet_eq {x y : VV} (h : RV x) (k : RV y) : rvmeet x y = vmeet x y := by
  unfold rvmeet vmeet
  rw [imeet_whole h.inn.lo h.inn.hi h.lohi]
theorem rvwiden_eq {x y : VV} (h : RV x) (k : RV y) : rvwiden x y = vwiden x y := by
  unfold rvwiden vwiden
  by_cases h1 : x = vbot
  · rw [veq_iff.2 h1]; simp [rvjoin, veq_iff.2 h1]
  · by_cases h2 : y = vbot
    · rw [veq_false h1, veq_iff.2 h2]; simp [rvjoin, veq_false h1, veq_iff.2 h2]
    · rw [veq_false h1, veq_false h2]; simp
theorem rwithin_eq {x y : VV} (h : RV x) (k : RV y) : rwithin x y = vwithin x y := by
  unfold rwithin vwithin
  rcases h.way with h1 | ⟨h1, h2, h3⟩ | ⟨h1, h2, h3, h4, h5, h6⟩
  · rw [veq_iff.2 h1]; rfl
  · have hs : sg (us x.lo) = x.lo := sg_us x.lo h.inn.lo.1 h.inn.lo.2
    congr 1
    rw [if_pos h1]
    unfold vhas iwithin cwithin
    rw [h2, h3, if_pos rfl, hs]
    grind
  · congr 1
    rw [if_neg (by omega)]
    unfold vhas iwithin cwithin chas
    rw [if_neg (show ¬ x.m = 0 by omega)]
    by_cases hy : y.m = 0
    · simp [hy]
    · have ky := k.inn.m
      simp only [if_neg hy]
      have hd : ∀ z, z % x.m = x.r → x.m % y.m = 0 → z % y.m = x.r % y.m := fun z hz hd => by
        rw [← hz]
        exact (Int.emod_emod_of_dvd z (Int.dvd_of_emod_eq_zero hd)).symm
      have d1 := hd x.lo h5
      have d2 := hd x.hi h6
      grind
end Go.Proofs.YtcemohoigdninaaDoor
