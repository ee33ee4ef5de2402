/- What the reference makes of two values is what package bitop makes of them: digits, counts. -/
import Derived.Test.YtljhbdgoknfkcaaGreatDoorCC
import Derived.Test.YtljhbdgoknfkcaaGreatDoorBU
namespace Go.Proofs.YtljhbdgoknfkcaaGreatDoor
open Go Go.RowKit Go.Sort
set_option linter.unusedVariables false
set_option linter.unusedSimpArgs false
set_option maxRecDepth 100000

/-! Counts. -/
theorem lbN_pow_dvd : ∀ f k m : Nat, k ≤ f → 2 ^ k ∣ m → 2 ^ k ∣ lbN f m
  | f, 0, m, _, _ => by simp
  | 0, k + 1, m, h, _ => by omega
  | f + 1, k + 1, m, h, hd => by
    obtain ⟨c, rfl⟩ := hd
    have e : 2 ^ (k + 1) * c = 2 * (2 ^ k * c) := by rw [Nat.pow_succ, Nat.mul_comm (2 ^ k) 2, Nat.mul_assoc]
    rw [lbN_succ, e, if_pos (Nat.mul_mod_right 2 _), Nat.mul_div_cancel_left _ (by decide : 0 < 2), Nat.pow_succ, Nat.mul_comm (2 ^ k) 2]
    exact Nat.mul_dvd_mul_left 2 (lbN_pow_dvd f k _ (by omega) ⟨c, rfl⟩)
theorem clow_pow_dvd {m : Int} (hm : IU m) {k : Nat} (hk : k ≤ 64) (h : (2 : Int) ^ k ∣ m) : (2 : Int) ^ k ∣ clow m := by
  have h1 : 2 ^ k ∣ m.toNat := by
    have e : m = ((m.toNat : Nat) : Int) := by have := hm.1; omega
    rw [e] at h
    exact Int.natCast_dvd_natCast.1 (by rw [Int.natCast_pow]; exact h)
  have := Int.natCast_dvd_natCast.2 (lbN_pow_dvd 64 k _ hk h1)
  rw [Int.natCast_pow] at this
  exact this
theorem div64 {g : Int} (h0 : 0 < g) (h : g ∣ 64) : ∃ k, k ≤ 6 ∧ g = 2 ^ k := by
  have hl := Int.le_of_dvd (by decide) h
  have : ∀ n : Nat, n ≤ 64 → 0 < n → n ∣ 64 → ∃ k, k ≤ 6 ∧ n = 2 ^ k := by decide
  obtain ⟨n, rfl⟩ := Int.eq_ofNat_of_zero_le (Int.le_of_lt h0)
  obtain ⟨k, hk, e⟩ := this n (by omega) (by omega) (Int.natCast_dvd_natCast.1 h)
  exact ⟨k, hk, by rw [e, Int.natCast_pow]; rfl⟩
theorem cg64 {m : Int} (h : m ≠ 0) (hm : IU m) : cg m 64 = if 64 < clow m then 64 else clow m := by
  obtain ⟨i, hi, ei⟩ := clow_pow h hm
  have g0 : 0 < cg m 64 := cg_pos (by omega)
  obtain ⟨k, hk, ek⟩ := div64 g0 (cg_dvd_right m 64)
  have hm0 : 0 < m := by have := hm.1; omega
  have d1 : (2 : Int) ^ k ∣ 2 ^ i := by rw [← ei]; exact clow_pow_dvd hm (by omega) (by rw [← ek]; exact cg_dvd_left m 64)
  have l1 := Int.le_of_dvd (p2pos i) d1
  have e6 : (64 : Int) = 2 ^ 6 := by decide
  have up : ∀ j, j ≤ 6 → j ≤ i → (2 : Int) ^ j ≤ cg m 64 := by
    intro j h6 hj
    refine Int.le_of_dvd g0 ?_
    unfold cg
    refine Int.dvd_coe_gcd ?_ ?_
    · exact Int.dvd_trans (pow_dvd (p2mono hj)) (by rw [← ei]; exact clow_dvd m hm0 hm.2)
    · rw [e6]; exact pow_dvd (p2mono h6)
  rw [ei]
  split
  · rename_i c
    have : 6 ≤ i := by
      by_cases q : i ≤ 5
      · have := p2mono (k := i) (i := 5) q
        have e5 : (2 : Int) ^ 5 = 32 := by decide
        omega
      · omega
    have := up 6 (Nat.le_refl _) this
    have := Int.le_of_dvd (by decide : (0 : Int) < 64) (cg_dvd_right m 64)
    omega
  · rename_i c
    have : i ≤ 6 := by
      by_cases q : i ≤ 6
      · exact q
      · have := p2mono (k := 7) (i := i) (by omega)
        have e7 : (2 : Int) ^ 7 = 128 := by decide
        omega
    have := up i this (Nat.le_refl _)
    omega
theorem one_few {v : VV} (h : RV v) (nb : v ≠ vbot) (h0 : v.m = 0) : vcard v = (1, true) := by rw [vcard_eq h nb, if_pos h0]
theorem rmet_eq {b : VV} (rb : RV b) (nb : b ≠ vbot) (j : Nat) : rmet b j = bmet b j := by
  unfold rmet bmet
  by_cases few : bfew b = true
  · rw [if_pos few, if_pos few]
  · rw [if_neg few, if_neg few]
    have m0 : b.m ≠ 0 := by
      intro h
      apply few
      unfold bfew
      rw [one_few rb nb h]
      rfl
    have hs : bstep b = cg b.m 64 := by
      unfold bstep
      rw [cwr_fst, if_neg m0, cg64 m0 rb.inn.m]
    have g0 : 0 < cg b.m 64 := cg_pos (by omega)
    rw [hs]
    unfold cadd crest
    rw [if_neg (by omega), if_neg m0]
    dsimp only
    rw [if_neg (by decide), Int.zero_emod, Int.add_zero, Int.emod_emod, Int.tmod_eq_emod_of_nonneg (by omega), Int.tmod_eq_emod_of_nonneg rb.inn.r.1]
    unfold chas
    rw [if_neg (by omega)]
    have : (cg b.m 64 == 0) = false := by simp; omega
    rw [this, Bool.false_or]
theorem cntI_congr {f g : Nat → Bool} (h : ∀ j, f j = g j) : ∀ n, cntI f n = cntI g n
  | 0 => rfl
  | n + 1 => by rw [cntI, cntI, cntI_congr h n, h n]
theorem rshl_eq {a b : VV} (rb : RV b) (nb : b ≠ vbot) : rshl a b = bshl a b := by unfold rshl bshl; rw [cntI_congr (rmet_eq rb nb)]
theorem rshr_eq {a b : VV} (rb : RV b) (nb : b ≠ vbot) : rshr a b = bshr a b := by unfold rshr bshr; rw [cntI_congr (rmet_eq rb nb)]
/-! Digits. -/
theorem dig_core {g ug : Int → Int → Int} {o : Int → Int → Int} (hg : ∀ x y i, i < 64 → dg (g x y) i = o (dg x i) (dg y i)) (hu : ∀ x y i, i < 64 → dg (ug x y) i = o (dg x i) (dg y i)) (h0 : ∀ x y, 0 ≤ ug x y)
    {j : Nat} (hj : j ≤ 63) {x y r s : Int} (hr : 0 ≤ r) (hs : 0 ≤ s) (h1 : x % 2 ^ j = r % 2 ^ j) (h2 : y % 2 ^ j = s % 2 ^ j) : g x y % 2 ^ j = (ug (r.tmod (2 ^ j)) (s.tmod (2 ^ j))).tmod (2 ^ j) := by
  rw [Int.tmod_eq_emod_of_nonneg (h0 _ _), Int.tmod_eq_emod_of_nonneg hr, Int.tmod_eq_emod_of_nonneg hs]
  refine mod_dgs fun i hi => ?_
  rw [hg _ _ _ (by omega), hu _ _ _ (by omega), dg_mod hi, dg_mod hi, dgs_mod h1 hi, dgs_mod h2 hi]
theorem cdm_all {a b : VV} (ha : InV a) (hb : InV b) (h : ¬ (a.m = 0 ∧ b.m = 0)) : ∃ j, j ≤ 63 ∧ cdm a b = 2 ^ j ∧ rdM a b = 2 ^ j ∧ (a.m ≠ 0 → (2 : Int) ^ j ∣ clow a.m) ∧ (b.m ≠ 0 → (2 : Int) ^ j ∣ clow b.m) := by
  have e63 : (2 : Int) ^ 63 = 9223372036854775808 := by decide
  unfold cdm rdM rdM1 rmin
  rw [cwr_fst, cwr_fst]
  by_cases ca : a.m = 0 <;> by_cases cb : b.m = 0
  · exact absurd ⟨ca, cb⟩ h
  · obtain ⟨j, hj, e⟩ := clow_pow cb hb.m
    have := p2pos j
    have := p2mono hj
    rw [if_pos ca, if_neg cb, e]
    refine ⟨j, hj, ?_, ?_, fun q => absurd ca q, fun _ => Int.dvd_refl _⟩
    all_goals (repeat' split) <;> omega
  · obtain ⟨j, hj, e⟩ := clow_pow ca ha.m
    have := p2pos j
    have := p2mono hj
    rw [if_pos cb, if_neg ca, e]
    refine ⟨j, hj, ?_, ?_, fun _ => Int.dvd_refl _, fun q => absurd cb q⟩
    all_goals (repeat' split) <;> omega
  · obtain ⟨i, hi, e⟩ := clow_pow ca ha.m
    obtain ⟨j, hj, e'⟩ := clow_pow cb hb.m
    have := p2pos i
    have := p2pos j
    have := p2mono hi
    have := p2mono hj
    rw [if_neg ca, if_neg cb, e, e']
    by_cases c : (2 : Int) ^ j < 2 ^ i
    · refine ⟨j, hj, ?_, ?_, fun _ => pow_dvd (by omega), fun _ => Int.dvd_refl _⟩
      all_goals (repeat' split) <;> omega
    · refine ⟨i, hi, ?_, ?_, fun _ => Int.dvd_refl _, fun _ => pow_dvd (by omega)⟩
      all_goals (repeat' split) <;> omega
theorem sg_low {z : Int} {j : Nat} (hj : j ≤ 63) : sg z % 2 ^ j = z % 2 ^ j := by
  have : ∃ q, sg z = z + 18446744073709551616 * q := ⟨(sg z - z) / 18446744073709551616, by unfold sg; omega⟩
  obtain ⟨q, hq⟩ := this
  have d : (2 : Int) ^ j ∣ 18446744073709551616 := by
    have := pow_dvd (p2mono (show j ≤ 64 by omega))
    rwa [show (2 : Int) ^ 64 = 18446744073709551616 by decide] at this
  obtain ⟨c, hc⟩ := d
  rw [hq, hc, Int.mul_assoc, Int.add_mul_emod_self_left]
theorem wr_low {m r : Int} {j : Nat} (hj : j ≤ 63) (hd : m ≠ 0 → (2 : Int) ^ j ∣ clow m) : sg (cwrapped m r).2 % 2 ^ j = r % 2 ^ j := by
  rw [sg_low hj]
  unfold cwrapped
  split
  · rfl
  · rename_i h
    exact Int.emod_emod_of_dvd r (hd h)
theorem rdg_eq {g ug : Int → Int → Int} {o : Int → Int → Int} {op : Int} (hw : ∀ x y, wopV op x y = g x y) (hg : ∀ x y i, i < 64 → dg (g x y) i = o (dg x i) (dg y i)) (hu : ∀ x y i, i < 64 → dg (ug x y) i = o (dg x i) (dg y i)) (h0 : ∀ x y, 0 ≤ ug x y)
    {a b : VV} (ha : InV a) (hb : InV b) (h : ¬ (a.m = 0 ∧ b.m = 0)) : rdg op a b = cdig ug a b := by
  obtain ⟨j, hj, e, er, h1, h2⟩ := cdm_all ha hb h
  have ne : (2 : Int) ^ j ≠ 0 := by have := p2pos j; omega
  unfold rdg cdig cmake
  rw [e, er, if_neg ne, if_neg ne, hw, dig_core hg hu h0 hj ha.r.1 hb.r.1 (wr_low hj h1) (wr_low hj h2)]
theorem rand_eq {a b : VV} (ha : InV a) (hb : InV b) (h : ¬ (a.m = 0 ∧ b.m = 0)) : rand a b = bboth a b := by
  unfold rand bboth
  rw [vmk_iof, rdg_eq (g := band) (ug := uband) (o := fun p q => p * q) (fun _ _ => rfl) (fun _ _ _ hi => band_dg hi) uband_dg uband_in ha hb h]
theorem rxor_eq {a b : VV} (ha : InV a) (hb : InV b) (h : ¬ (a.m = 0 ∧ b.m = 0)) : rxor a b = bxone a b := by
  unfold rxor bxone
  rw [vmk_iof, rdg_eq (g := bxor) (ug := ubxor) (o := fun p q => if p = q then 0 else 1) (fun _ _ => rfl) (fun _ _ _ hi => bxor_dg hi) ubxor_dg ubxor_in ha hb h]
/-! BitOr. -/
theorem binv_x {a : VV} (ra : RV a) (nb : a ≠ vbot) : (binvert a).lo = -1 - a.hi ∧ (binvert a).hi = -1 - a.lo ∧ (binvert a).m = a.m ∧ (a.m ≠ 0 → (binvert a).r % a.m = (-1 - a.r) % a.m) ∧ (a.m = 0 → (binvert a).r = us (-1 - a.r)) := by
  have ha := ra.inn
  have hl := ha.lo
  have hh := ha.hi
  have key : ∀ X : VV, RV X → X = ⟨-1 - a.hi, -1 - a.lo, (csub 0 (us (-1)) a.m a.r).1, (csub 0 (us (-1)) a.m a.r).2⟩ → binvert a = X := by
    intro X rX e
    unfold binvert
    rw [vmk_iof]
    unfold vmk
    dsimp only
    rw [← e, rX.fix]
  have u1 : us (-1) = 18446744073709551615 := by decide
  have s1 : sg (us (-1)) = -1 := by decide
  rcases ra.way with c | c | c
  · exact absurd c nb
  · obtain ⟨h1, h2, h3⟩ := c
    have ec : csub 0 (us (-1)) a.m a.r = (0, us (-1 - a.r)) := by
      unfold csub
      rw [if_pos ⟨rfl, h2⟩]
      refine Prod.ext rfl ?_
      dsimp only
      rw [u1]; unfold us; omega
    have e : us (-1 - a.r) = us (-1 - a.lo) := by rw [h3]; unfold us; omega
    have := key (vone (-1 - a.lo)) (rv_one (inv_is hl)) (by rw [ec, e, h1]; rfl)
    rw [this]
    exact ⟨by rw [← h1]; rfl, rfl, h2.symm, fun q => absurd h2 q, fun _ => e.symm⟩
  · obtain ⟨h1, h2, h3, h4, h5, h6⟩ := c
    have g : cg 0 a.m = a.m := by rw [cg_comm]; exact cg_zero _ ha.m.1
    have ec : csub 0 (us (-1)) a.m a.r = (a.m, (-1 - a.r) % a.m) := by
      unfold csub crest
      rw [if_neg (by omega), g, if_pos rfl, if_neg (by omega), s1]
      refine Prod.ext rfl ?_
      dsimp only
      rw [← Int.sub_emod]
    have q1 : (-1 - a.hi) % a.m = (-1 - a.r) % a.m := by rw [Int.sub_emod, h6, ← Int.emod_eq_of_lt h3 h4, ← Int.sub_emod, Int.emod_eq_of_lt h3 h4]
    have q2 : (-1 - a.lo) % a.m = (-1 - a.r) % a.m := by rw [Int.sub_emod, h5, ← Int.emod_eq_of_lt h3 h4, ← Int.sub_emod, Int.emod_eq_of_lt h3 h4]
    have n1 := Int.emod_nonneg (-1 - a.r) (show a.m ≠ 0 by omega)
    have n2 := Int.emod_lt_of_pos (-1 - a.r) h2
    have rX : RV ⟨-1 - a.hi, -1 - a.lo, a.m, (-1 - a.r) % a.m⟩ := ⟨⟨inv_is hh, inv_is hl, ha.m, ⟨n1, by have := ha.m.2; show (-1 - a.r) % a.m ≤ 18446744073709551615; omega⟩⟩, .inr (.inr ⟨by show -1 - a.hi < -1 - a.lo; omega, h2, n1, n2, q1, q2⟩)⟩
    have := key _ rX (by rw [ec])
    rw [this]
    exact ⟨rfl, rfl, rfl, fun _ => Int.emod_emod_of_dvd _ (Int.dvd_refl _), fun q => by omega⟩
theorem binv_ne {a : VV} (ra : RV a) (nb : a ≠ vbot) : binvert a ≠ vbot := RV.ne (inv_sound ra ra.inn.lo (ra.lo_in nb))
theorem binv_iff {v : VV} (rv : RV v) {n : Int} (hn : IS n) : vin (binvert v) n ↔ vin v (-1 - n) := by
  constructor
  · intro h
    by_cases nb : v = vbot
    · exfalso
      subst nb
      have e : binvert vbot = vbot := by decide +kernel
      rw [e] at h
      exact vin_bot h
    obtain ⟨h1, h2, h3, h4, h5⟩ := binv_x rv nb
    obtain ⟨k1, k2, k3⟩ := h
    rw [h1] at k1
    rw [h2] at k2
    rw [h3] at k3
    refine ⟨by omega, by omega, ?_⟩
    by_cases m0 : v.m = 0
    · rw [m0] at k3 ⊢
      have := chas_zero k3
      rw [h5 m0] at this
      refine chas_of_zero ?_
      have := rv.inn.r.1
      have := rv.inn.r.2
      have := hn.1
      have := hn.2
      unfold us at *
      omega
    · have := chas_mod m0 k3
      refine chas_pos m0 ?_
      have q : n % v.m = (-1 - v.r) % v.m := by rw [← h4 m0, ← this, Int.emod_emod_of_dvd _ (Int.dvd_refl _)]
      have d : v.m ∣ (-1 - n) - v.r := by
        have := Int.dvd_of_emod_eq_zero (Int.emod_eq_emod_iff_emod_sub_eq_zero.1 q)
        obtain ⟨c, hc⟩ := this
        exact ⟨-c, by rw [Int.mul_neg, ← hc]; omega⟩
      have e := Int.emod_eq_emod_iff_emod_sub_eq_zero.2 (Int.emod_eq_zero_of_dvd d)
      rw [e]
      have lt : v.r < v.m := by rcases rv.right with h | h; exact absurd h m0; exact h
      exact Int.emod_eq_of_lt rv.inn.r.1 lt
  · intro h
    have := inv_sound rv (inv_is hn) h
    rwa [show -1 - (-1 - n) = n by omega] at this
theorem cdm_m {a b c d : VV} (h : c.m = a.m) (k : d.m = b.m) : cdm c d = cdm a b := by unfold cdm; rw [cwr_fst, cwr_fst, cwr_fst, cwr_fst, h, k]
theorem bothI_lh {a b c d : VV} (h1 : c.lo = a.lo) (h2 : c.hi = a.hi) (k1 : d.lo = b.lo) (k2 : d.hi = b.hi) : bothI c d = bothI a b := by unfold bothI; rw [h1, h2, k1, k2]
theorem binv_low {a : VV} (ra : RV a) (nb : a ≠ vbot) {j : Nat} (hj : j ≤ 63) (hd : a.m ≠ 0 → (2 : Int) ^ j ∣ clow a.m) {x : Int} (hx : x % 2 ^ j = a.r % 2 ^ j) : (-1 - x) % 2 ^ j = (binvert a).r % 2 ^ j := by
  have hm := ra.inn.m
  obtain ⟨_, _, _, h4, h5⟩ := binv_x ra nb
  have step : (-1 - x) % 2 ^ j = (-1 - a.r) % 2 ^ j := by rw [Int.sub_emod, hx, ← Int.sub_emod]
  rw [step]
  by_cases m0 : a.m = 0
  · rw [h5 m0]
    have : ∃ q, us (-1 - a.r) = (-1 - a.r) + 18446744073709551616 * q := ⟨(us (-1 - a.r) - (-1 - a.r)) / 18446744073709551616, by unfold us; omega⟩
    obtain ⟨q, hq⟩ := this
    have d : (2 : Int) ^ j ∣ 18446744073709551616 := by
      have := pow_dvd (p2mono (show j ≤ 64 by omega))
      rwa [show (2 : Int) ^ 64 = 18446744073709551616 by decide] at this
    obtain ⟨c, hc⟩ := d
    rw [hq, hc, Int.mul_assoc, Int.add_mul_emod_self_left]
  · have d : (2 : Int) ^ j ∣ a.m := Int.dvd_trans (hd m0) (clow_dvd _ (by have := hm.1; omega) hm.2)
    rw [← Int.emod_emod_of_dvd (-1 - a.r) d, ← h4 m0, Int.emod_emod_of_dvd _ d]
theorem ror_eq {a b : VV} (ra : RV a) (rb : RV b) (na : a ≠ vbot) (nb : b ≠ vbot) (h : ¬ (a.m = 0 ∧ b.m = 0)) : ror a b = beither a b := by
  have ha := ra.inn; have hb := rb.inn
  have ia := binvert_rv ha
  have ib := binvert_rv hb
  obtain ⟨a1, a2, a3, a4, a5⟩ := binv_x ra na
  obtain ⟨b1, b2, b3, b4, b5⟩ := binv_x rb nb
  have eB : bothI (binvert a) (binvert b) = bothI (iv a) (iv b) := bothI_lh a1 a2 b1 b2
  have bi := bothI_is (iv_in ha) (iv_in hb)
  obtain ⟨j, hj, e, er, d1, d2⟩ := cdm_all ha hb h
  have pj := p2pos j
  have ne : (2 : Int) ^ j ≠ 0 := by omega
  have l1 := wr_low (r := a.r) hj d1
  have l2 := wr_low (r := b.r) hj d2
  have ix := sg_rng (cwrapped a.m a.r).2
  have iy := sg_rng (cwrapped b.m b.r).2
  generalize hx : sg (cwrapped a.m a.r).2 = x at *
  generalize hy : sg (cwrapped b.m b.r).2 = y at *
  have eD : cdig uband (binvert a) (binvert b) = (2 ^ j, (-1 - bor x y) % 2 ^ j) := by
    unfold cdig
    rw [cdm_m a3 b3, e, if_neg ne]
    have w1 := binv_low ra na hj d1 l1
    have w2 := binv_low rb nb hj d2 l2
    rw [← dig_core (g := band) (ug := uband) (o := fun p q => p * q) (fun _ _ _ hi => band_dg hi) uband_dg uband_in hj ia.inn.r.1 ib.inn.r.1 w1 w2]
    have := bor_inv x y ix iy
    rw [show band (-1 - x) (-1 - y) = -1 - bor x y by omega]
  have eR : rdg 8 a b = (2 ^ j, bor x y % 2 ^ j) := by
    unfold rdg cmake
    rw [er, if_neg ne, ← hx, ← hy]
    rfl
  have j64 : (2 : Int) ^ j ≤ 9223372036854775808 := by
    have := p2mono hj
    rwa [show (2 : Int) ^ 63 = 9223372036854775808 by decide] at this
  have cin : ∀ z : Int, IU ((2 : Int) ^ j, z % 2 ^ j).1 ∧ IU ((2 : Int) ^ j, z % 2 ^ j).2 := fun z => by
    have n1 := Int.emod_nonneg z (show (2 : Int) ^ j ≠ 0 by omega)
    have n2 := Int.emod_lt_of_pos z pj
    exact ⟨⟨by show (0 : Int) ≤ 2 ^ j; omega, by show (2 : Int) ^ j ≤ 18446744073709551615; omega⟩, ⟨n1, by show z % 2 ^ j ≤ 18446744073709551615; omega⟩⟩
  have rg : ∀ z : Int, ((2 : Int) ^ j, z % 2 ^ j).1 = 0 ∨ ((2 : Int) ^ j, z % 2 ^ j).2 < ((2 : Int) ^ j, z % 2 ^ j).1 := fun z => .inr (Int.emod_lt_of_pos z pj)
  have rV := bboth_in ia.inn ib.inn
  have r1 : RV (ror a b) := by
    unfold ror
    rw [eR]
    exact vmake_rv (x := ⟨_, _, _, _⟩) ⟨inv_is bi.2, inv_is bi.1, (cin (bor x y)).1, (cin (bor x y)).2⟩
  have r2 : RV (beither a b) := binvert_rv rV.inn
  refine RV.ext r1 r2 fun n hn => ?_
  unfold beither
  rw [binv_iff rV hn]
  unfold ror bboth
  rw [vmk_iof, eB, eD, eR]
  generalize bor x y = z at *
  generalize bothI (iv a) (iv b) = B at *
  have ch : chas (2 ^ j) (z % 2 ^ j) n = true ↔ chas (2 ^ j) ((-1 - z) % 2 ^ j) (-1 - n) = true := by
    unfold chas
    rw [if_neg (by omega), if_neg (by omega), beq_iff_eq, beq_iff_eq, Int.emod_eq_emod_iff_emod_sub_eq_zero, Int.emod_eq_emod_iff_emod_sub_eq_zero]
    constructor
    · intro q
      obtain ⟨c, hc⟩ := Int.dvd_of_emod_eq_zero q
      exact Int.emod_eq_zero_of_dvd ⟨-c, by rw [Int.mul_neg, ← hc]; omega⟩
    · intro q
      obtain ⟨c, hc⟩ := Int.dvd_of_emod_eq_zero q
      exact Int.emod_eq_zero_of_dvd ⟨-c, by rw [Int.mul_neg, ← hc]; omega⟩
  constructor
  · intro q
    obtain ⟨q1, q2, q3⟩ := vin_to (c := (2 ^ j, z % 2 ^ j)) (inv_is bi.2) (inv_is bi.1) (cin z) (rg z) hn q
    exact vin_of (c := (2 ^ j, (-1 - z) % 2 ^ j)) bi.1 bi.2 (cin _) (inv_is hn) (by omega) (by omega) (ch.1 q3)
  · intro q
    obtain ⟨q1, q2, q3⟩ := vin_to (c := (2 ^ j, (-1 - z) % 2 ^ j)) bi.1 bi.2 (cin _) (rg _) (inv_is hn) q
    exact vin_of (c := (2 ^ j, z % 2 ^ j)) (inv_is bi.2) (inv_is bi.1) (cin z) hn (by omega) (by omega) (ch.2 q3)
/-! All operators. -/
theorem bsmall_m0 {v : VV} (rv : RV v) (nb : v ≠ vbot) (h : v.m = 0) : bsmall v = true := by unfold bsmall; rw [one_few rv nb h]; rfl
theorem bdoV_congr {op : Int} {p r r' a b : VV} (h : a ≠ vbot → b ≠ vbot → ¬ (b.lo = b.hi ∧ b.lo = 0 ∧ (op = 16 ∨ op = 17)) → ¬ (bsmall a && bsmall b) = true → r = r') : bdoV op p r a b = bdoV op p r' a b := by
  unfold bdoV
  split
  · rfl
  split
  · rfl
  split
  · rfl
  rename_i h1 h2 h3
  exact h (fun e => h1 (by rw [veq_iff.2 e]; rfl)) (fun e => h1 (by rw [veq_iff.2 e, Bool.or_true])) h2 h3
theorem r23Do_d (op : Int) (x y : VV) (hx : InV x) (hy : InV y) : Den Tryz.prog 36 #[.int .i64 op, VVal x, VVal y] noFacts (VVal (bdo op (vmake x) (vmake y))) := by
  unfold bdo
  by_cases h : bop op
  · rw [if_pos h]
    have ra := vmake_rv hx
    have rb := vmake_rv hy
    have two : vmake x ≠ vbot → vmake y ≠ vbot → ¬ (bsmall (vmake x) && bsmall (vmake y)) = true → ¬ ((vmake x).m = 0 ∧ (vmake y).m = 0) := fun na nb s q => s (by rw [bsmall_m0 ra na q.1, bsmall_m0 rb nb q.2]; rfl)
    have e : op = 8 ∨ op = 9 ∨ op = 10 ∨ op = 11 ∨ op = 12 ∨ op = 16 ∨ op = 17 := by unfold bop at h; omega
    rcases e with rfl | rfl | rfl | rfl | rfl | rfl | rfl
    · have q := rDo8_d x y hx hy
      rw [bdoV_congr (r' := bres 8 (vmake x) (vmake y)) (fun na nb _ s => ror_eq ra rb na nb (two na nb s))] at q
      exact q
    · have q := rDo9_d x y hx hy
      rw [bdoV_congr (r' := bres 9 (vmake x) (vmake y)) (fun na nb _ s => rxor_eq ra.inn rb.inn (two na nb s))] at q
      exact q
    · have q := rDo10_d x y hx hy
      rw [bdoV_congr (r' := bres 10 (vmake x) (vmake y)) (fun na nb _ s => rand_eq ra.inn rb.inn (two na nb s))] at q
      exact q
    · have q := rDo11_d x y hx hy
      rw [bdoV_congr (r' := bres 11 (vmake x) (vmake y)) (fun na nb _ s => rshl_eq rb nb)] at q
      exact q
    · have q := rDo12_d x y hx hy
      rw [bdoV_congr (r' := bres 12 (vmake x) (vmake y)) (fun na nb _ s => rshr_eq rb nb)] at q
      exact q
    · have q := rDo16_d x y hx hy
      rw [bdoV_congr (r' := bres 16 (vmake x) (vmake y)) (fun na nb z s => rdiv_eq (rb.le nb) (by
        have := rb.le nb
        by_cases c : (vmake y).lo = (vmake y).hi
        · have : (vmake y).lo ≠ 0 := fun e => z ⟨c, e, by decide⟩
          omega
        · omega))] at q
      exact q
    · exact rDo17_d x y hx hy
  · rw [if_neg h]
    exact rDoN_d op x y hx hy h
theorem rone_eq {op : Int} {a : VV} (ra : RV a) : rone op a = boneV op a := by
  unfold rone boneV
  by_cases na : a = vbot
  · rw [if_pos na, if_pos (veq_iff.2 na)]
  · rw [if_neg na, if_neg (show ¬ (veq a vbot = true) by rw [veq_false na]; decide)]
    by_cases c : op = 20
    · rw [if_pos c, if_pos c]
      unfold binvert
      rw [vmk_iof]
    · rw [if_neg c, if_neg c]
      by_cases d : op = 19
      · rw [if_pos d, if_pos d]
        by_cases z : a = vone 0
        · rw [if_pos z, if_pos ⟨by rw [z]; rfl, by rw [z]; rfl⟩]
        · rw [if_neg z, if_neg (show ¬ (a.lo = a.hi ∧ a.lo = 0) from fun q => z (by have := rv_single ra na q.1; rw [q.2] at this; exact this))]
          rw [show vmk (iof 0 1) (1, 0) = ⟨0, 1, 1, 0⟩ by decide +kernel]
      · rw [if_neg d, if_neg d]
theorem rHasR_d (x : VV) (n : Int) (h : InV x) (hn : IS n) : Den Tryz.prog 35 #[VVal x, .int .i64 n] noFacts (.bool (vhas (vmake x) n)) := by
  have ev : vhas (vmake x) n = true ↔ x.lo ≤ n ∧ n ≤ x.hi ∧ (if x.m = 0 then n = sg x.r else n % x.m = x.r % x.m) := vhas_iff.trans (vin_make h hn)
  generalize vhas (vmake x) n = res at *
  obtain ⟨lo, hi, m, r⟩ := x
  refine den_of_body (args := [VVal ⟨lo, hi, m, r⟩, .int .i64 n]) hmix Tryz.func35 ?_
  obtain ⟨h1, h2, h3, h4⟩ := h
  dsimp only at h1 h2 h3 h4 ev
  by_cases hm : m = 0
  · subst hm
    have C := den_of (F := noFacts) fun W => rhas_c 0 r n W h3.1 h3.2 hn.1 hn.2
    rw [if_pos rfl] at ev
    have ec : chas 0 r n = true ↔ n = sg r := by
      unfold chas
      rw [if_pos rfl, beq_iff_eq]
      have := h4.1; have := h4.2; have := hn.1; have := hn.2
      unfold us sg
      omega
    generalize chas 0 r n = c at *
    (repeat' ((conv => whnf); first | refine CallN.any _ (rIHas_d _ _ _) ?_ | refine CallN.any _ C ?_ | refine AdN.mk _ _ rfl ?_ | refine DrawN.a (Ob.mk (by decide +kernel) ?_) | refine DrawN.c (Ob.mk (by decide +kernel) ?_) | refine DrawN.b (Ob.mk (by decide +kernel) ?_) | refine Ob.mk (by kernel_rfl) ?_ | (refine Br.mk (fun h => ?_) (fun h => ?_) <;> (first | (exfalso; exact Bool.false_ne_true h) | (exfalso; exact Bool.false_ne_true h.symm) | skip)) | refine SeqN.go ?_)); all_goals (conv => whnf)
    all_goals (clear C; refine congrArg Value.bool ?_; rw [Bool.eq_iff_iff, ev]; simp_all <;> omega)
  · have e : r.tmod m = r % m := Int.tmod_eq_emod_of_nonneg h4.1
    have C := den_of (F := noFacts) fun W => rhas_c m (r.tmod m) n W h3.1 h3.2 hn.1 hn.2
    rw [if_neg hm] at ev
    have ec : chas m (r.tmod m) n = true ↔ n % m = r % m := by
      unfold chas
      rw [if_neg hm, beq_iff_eq, e]
    generalize chas m (r.tmod m) n = c at *
    (repeat' ((conv => whnf); first | refine CallN.any _ (rIHas_d _ _ _) ?_ | refine CallN.any _ C ?_ | refine Ob.mk hm ?_ | refine AdN.mk _ _ rfl ?_ | refine DrawN.a (Ob.mk (by decide +kernel) ?_) | refine DrawN.c (Ob.mk (by decide +kernel) ?_) | refine DrawN.b (Ob.mk (by decide +kernel) ?_) | refine Ob.mk (by kernel_rfl) ?_ | (refine Br.mk (fun h => ?_) (fun h => ?_) <;> (first | (exfalso; exact Bool.false_ne_true h) | (exfalso; exact Bool.false_ne_true h.symm) | skip)) | refine SeqN.go ?_)); all_goals (conv => whnf)
    all_goals (clear C; first | (exfalso; simp_all; omega) | (refine congrArg Value.bool ?_; rw [Bool.eq_iff_iff, ev]; simp_all <;> omega))
set_option maxHeartbeats 4000000 in
theorem bitopDoes_d (op : Int) (x y : VV) (hx : InV x) (hy : InV y) : Den Tryz.prog 7 #[.int .i64 op, VVal x, VVal y] tabF (.bool true) := by
  refine den_of_body (args := [.int .i64 op, VVal x, VVal y]) hmix Tryz.func7 ?_
  have D := bDo_d op x y hx hy
  have O := bOne_d op x hx
  have M := mayx_d op y hy
  have D' := r23Do_d op x y hx hy
  have O' := r23One_d op x hx
  rw [rone_eq (vmake_rv hx)] at O'
  have H := rHasR_d y 0 hy ⟨by decide, by decide⟩
  generalize bdo op (vmake x) (vmake y) = d at *
  generalize boneV op (vmake x) = n at *
  generalize vhas (vmake y) 0 = h at *
  (repeat' ((conv => whnf); first | refine CallN.any _ (docValue_d _) ?_ | refine CallN.any _ D ?_ | refine CallN.any _ O ?_ | refine CallN.any _ M ?_ | refine CallN.any _ D' ?_ | refine CallN.any _ O' ?_ | refine CallN.any _ H ?_ | refine CallN.mk _ works23_d ?_ | refine AdN.mk _ _ rfl ?_ | refine DrawN.a (Ob.mk (by decide +kernel) ?_) | refine DrawN.c (Ob.mk (by decide +kernel) ?_) | refine DrawN.b (Ob.mk (by decide +kernel) ?_) | refine Ob.mk (by kernel_rfl) ?_ | (refine Br.mk (fun h => ?_) (fun h => ?_) <;> (first | (exfalso; exact Bool.false_ne_true h) | (exfalso; exact Bool.false_ne_true h.symm) | skip)) | refine SeqN.go ?_)); all_goals (conv => whnf)
  all_goals (clear D O M D' O' H; first | rfl | (exfalso; simp_all; done) | trace_state)
end Go.Proofs.YtljhbdgoknfkcaaGreatDoor
