/- What package bitop makes of values has what its operators make of their numbers. -/
import Derived.Test.YtljhbdgoknfkcaaGreatDoorBE
import Derived.Test.YtljhbdgoknfkcaaGreatDoorPE
import Derived.Test.YtljhbdgoknfkcaaGreatDoorPL
import Derived.Test.YtljhbdgoknfkcaaGreatDoorS1
namespace Go.Proofs.YtljhbdgoknfkcaaGreatDoor
open Go Go.RowKit Go.Sort
set_option linter.unusedVariables false
set_option linter.unusedSimpArgs false

theorem cwr_fst (m r : Int) : (cwrapped m r).1 = if m = 0 then 0 else clow m := by unfold cwrapped; split <;> rfl
theorem cdm_pow {a b : VV} (ha : InV a) (hb : InV b) (h : cdm a b ≠ 0) : ∃ j, j ≤ 63 ∧ cdm a b = 2 ^ j ∧ (∀ x, chas a.m a.r x = true → x % 2 ^ j = a.r % 2 ^ j) ∧ ∀ y, chas b.m b.r y = true → y % 2 ^ j = b.r % 2 ^ j := by
  unfold cdm at h ⊢
  rw [cwr_fst, cwr_fst] at h ⊢
  by_cases ca : a.m = 0 <;> by_cases cb : b.m = 0
  · rw [if_pos ca, if_pos cb] at h
    simp at h
  · obtain ⟨j, hj, e⟩ := clow_pow cb hb.m
    rw [if_pos ca, if_neg cb, if_pos (.inl rfl)]
    exact ⟨j, hj, e, fun x hx => chas_low ha.m hx (by omega) fun q => absurd ca q, fun y hy => chas_low hb.m hy (by omega) fun _ => e ▸ Int.dvd_refl _⟩
  · obtain ⟨j, hj, e⟩ := clow_pow ca ha.m
    rw [if_pos cb, if_neg ca, if_neg (by have := p2pos j; rw [e]; omega)]
    exact ⟨j, hj, e, fun x hx => chas_low ha.m hx (by omega) fun _ => e ▸ Int.dvd_refl _, fun y hy => chas_low hb.m hy (by omega) fun q => absurd cb q⟩
  · obtain ⟨i, hi, e⟩ := clow_pow ca ha.m
    obtain ⟨j, hj, e'⟩ := clow_pow cb hb.m
    have pi := p2pos i
    have pj := p2pos j
    rw [if_neg ca, if_neg cb, e, e']
    by_cases c : (2 : Int) ^ j < 2 ^ i
    · rw [if_pos (.inr ⟨by omega, c⟩)]
      exact ⟨j, hj, rfl, fun x hx => chas_low ha.m hx (by omega) fun _ => e ▸ pow_dvd (by omega), fun y hy => chas_low hb.m hy (by omega) fun _ => e' ▸ Int.dvd_refl _⟩
    · rw [if_neg (by omega)]
      exact ⟨i, hi, rfl, fun x hx => chas_low ha.m hx (by omega) fun _ => e ▸ Int.dvd_refl _, fun y hy => chas_low hb.m hy (by omega) fun _ => e' ▸ pow_dvd (by omega)⟩
theorem dig_sound {g ug : Int → Int → Int} {o : Int → Int → Int} (hg : ∀ x y i, i < 64 → dg (g x y) i = o (dg x i) (dg y i)) (hu : ∀ x y i, i < 64 → dg (ug x y) i = o (dg x i) (dg y i)) (h0 : ∀ x y, 0 ≤ ug x y)
    {a b : VV} (ha : InV a) (hb : InV b) {x y : Int} (hx : chas a.m a.r x = true) (hy : chas b.m b.r y = true) : chas (cdig ug a b).1 (cdig ug a b).2 (g x y) = true := by
  unfold cdig
  by_cases h : cdm a b = 0
  · rw [if_pos h]
    show chas 1 0 _ = true
    unfold chas
    simp [Int.emod_one]
  · rw [if_neg h]
    refine chas_mk h ?_
    obtain ⟨j, hj, e, h1, h2⟩ := cdm_pow ha hb h
    dsimp only
    rw [Int.tmod_eq_emod_of_nonneg (h0 _ _), e, Int.tmod_eq_emod_of_nonneg ha.r.1, Int.tmod_eq_emod_of_nonneg hb.r.1]
    refine mod_dgs fun i hi => ?_
    rw [hg _ _ _ (by omega), hu _ _ _ (by omega), dg_mod hi, dg_mod hi, dgs_mod (h1 x hx) hi, dgs_mod (h2 y hy) hi]
theorem uband_dg (x y : Int) (i : Nat) (hi : i < 64) : dg (uband x y) i = dg x i * dg y i := by
  unfold uband
  rw [dgu_wrap hi, dg_of, BitVec.getLsbD_and, dg_bit x hi, dg_bit y hi]
  cases (BitVec.ofInt 64 x).getLsbD i <;> cases (BitVec.ofInt 64 y).getLsbD i <;> simp
theorem ubxor_dg (x y : Int) (i : Nat) (hi : i < 64) : dg (ubxor x y) i = if dg x i = dg y i then 0 else 1 := by
  unfold ubxor
  rw [dgu_wrap hi, dg_of, BitVec.getLsbD_xor, dg_bit x hi, dg_bit y hi]
  cases (BitVec.ofInt 64 x).getLsbD i <;> cases (BitVec.ofInt 64 y).getLsbD i <;> simp
theorem cand_sound {a b : VV} (ha : InV a) (hb : InV b) {x y : Int} (hx : chas a.m a.r x = true) (hy : chas b.m b.r y = true) : chas (cdig uband a b).1 (cdig uband a b).2 (band x y) = true :=
  dig_sound (o := fun p q => p * q) (fun _ _ _ hi => band_dg hi) uband_dg uband_in ha hb hx hy
theorem cxor_sound {a b : VV} (ha : InV a) (hb : InV b) {x y : Int} (hx : chas a.m a.r x = true) (hy : chas b.m b.r y = true) : chas (cdig ubxor a b).1 (cdig ubxor a b).2 (bxor x y) = true :=
  dig_sound (o := fun p q => if p = q then 0 else 1) (fun _ _ _ hi => bxor_dg hi) ubxor_dg ubxor_in ha hb hx hy
/-! How many digits numbers have. -/
theorem bl_lt : ∀ f n : Nat, n < 2 ^ f → n < 2 ^ Lib.bitLenAux f n
  | 0, n, h => h
  | f + 1, n, h => by
    unfold Lib.bitLenAux
    split
    · omega
    · have := bl_lt f (n / 2) (by rw [Nat.pow_succ] at h; omega)
      rw [Nat.add_comm, Nat.pow_succ]
      omega
theorem bl_le : ∀ f n k : Nat, n < 2 ^ k → Lib.bitLenAux f n ≤ k
  | 0, n, k, h => Nat.zero_le _
  | f + 1, n, k, h => by
    unfold Lib.bitLenAux
    split
    · exact Nat.zero_le _
    · cases k with
      | zero => rw [Nat.pow_zero] at h; omega
      | succ k =>
        have := bl_le f (n / 2) k (by rw [Nat.pow_succ] at h; omega)
        omega
theorem mag63 {n : Int} (h : IS n) : mag n < 2 ^ 63 := by
  have h1 := h.1; have h2 := h.2
  unfold mag
  have : (2 : Nat) ^ 63 = 9223372036854775808 := by decide
  rw [this]
  split <;> omega
theorem room_lt {n : Int} (h : IS n) : mag n < 2 ^ roomN n := bl_lt 64 _ (Nat.lt_trans (mag63 h) (by decide))
theorem room_le {n : Int} {k : Nat} (h : mag n < 2 ^ k) : roomN n ≤ k := bl_le 64 _ _ h
theorem room63 {n : Int} (h : IS n) : roomN n ≤ 63 := room_le (mag63 h)
theorem npow_wrap {k : Nat} (h : k ≤ 63) : IntKind.i64.wrap (-1 * 2 ^ min k 64) = -(2 ^ k) := by
  have e : (2 : Int) ^ 63 = 9223372036854775808 := by decide
  have h1 := p2mono h
  have h2 := p2pos k
  rw [show min k 64 = k by omega, sg_eq, sg_in _ (by omega) (by omega)]
  omega
theorem both_sound {a b : VV} (ra : RV a) (rb : RV b) {x y : Int} (hx : IS x) (hy : IS y) (vx : vin a x) (vy : vin b y) : vin (bboth a b) (band x y) := by
  have ha := ra.inn; have hb := rb.inn
  have ci := cdig_in uband_in ha hb
  have z : IS 0 := ⟨by decide, by decide⟩
  have x1 := vx.1; have x2 := vx.2.1; have y1 := vy.1; have y2 := vy.2.1
  have h1 : IS (bothI a b).1 := by unfold bothI; dsimp only; split; exact wrap_is _; exact z
  have h2 : IS (bothI a b).2 := by
    unfold bothI; dsimp only
    have := imin_is ha.hi hb.hi
    have := imax_is ha.hi hb.hi
    split
    · assumption
    split
    · exact ha.hi
    split
    · exact hb.hi
    split <;> assumption
  have bl := band_le hx hy
  have br := band_le hy hx
  rw [band_comm] at br
  have bn := band_nonneg hx hy
  unfold bboth
  rw [vmk_iof]
  refine vin_of h1 h2 ci (band_is x y) ?_ ?_ (cand_sound ha hb vx.2.2 vy.2.2)
  · unfold bothI; dsimp only
    split
    · rename_i c
      have im := imin_is ha.lo hb.lo
      rw [npow_wrap (room63 im)]
      by_cases cx : 0 ≤ x ∨ 0 ≤ y
      · have := bn cx
        have := p2pos (roomN (if b.lo < a.lo then b.lo else a.lo))
        omega
      · have q := room_lt im
        refine (mag_bound (mag_band hx hy (room63 im) (mag_mono q ?_ (by omega)) (mag_mono q ?_ (by omega)))).1
        · split <;> omega
        · split <;> omega
    · exact bn (by omega)
  · unfold bothI; dsimp only
    split
    · have := bl (by omega); have := br (by omega); split <;> omega
    split
    · have := bl (by omega); omega
    split
    · have := br (by omega); omega
    split
    · have := bl (by omega); have := br (by omega); split <;> omega
    · by_cases cx : 0 ≤ x
      · have := bl (.inl cx); split <;> omega
      · by_cases cy : 0 ≤ y
        · have := br (.inl cy); split <;> omega
        · have := bl (.inr (by omega)); split <;> omega
theorem inv_sound {a : VV} (ra : RV a) {x : Int} (hx : IS x) (vx : vin a x) : vin (binvert a) (-1 - x) := by
  have ha := ra.inn
  have z0 : IU 0 := ⟨by decide, by decide⟩
  have m1 : IS (-1) := ⟨by decide, by decide⟩
  have ci := csub_in z0.1 z0.2 (us_rng (-1)).1 (us_rng (-1)).2 ha.m.1 ha.m.2 ha.r.1 ha.r.2
  have x1 := vx.1; have x2 := vx.2.1
  unfold binvert
  rw [vmk_iof]
  exact vin_of (inv_is ha.hi) (inv_is ha.lo) ci (inv_is hx) (by omega) (by omega) (sub_sound m1.1 m1.2 hx.1 hx.2 (chas_of_zero rfl) vx.2.2)
theorem either_sound {a b : VV} (ra : RV a) (rb : RV b) {x y : Int} (hx : IS x) (hy : IS y) (vx : vin a x) (vy : vin b y) : vin (beither a b) (bor x y) := by
  have ia := binvert_rv ra.inn
  have ib := binvert_rv rb.inn
  rw [← bor_inv x y hx hy]
  exact inv_sound (bboth_in ia.inn ib.inn) (band_is _ _) (both_sound ia ib (inv_is hx) (inv_is hy) (inv_sound ra hx vx) (inv_sound rb hy vy))
theorem upow_wrap {k : Nat} (h : k ≤ 63) : IntKind.i64.wrap (IntKind.u64.wrap (IntKind.u64.wrap (1 * 2 ^ min k 64) - 1)) = 2 ^ k - 1 := by
  have e : (2 : Int) ^ 63 = 9223372036854775808 := by decide
  have h1 := p2mono h
  have h2 := p2pos k
  rw [show min k 64 = k by omega, us_eq, us_eq, sg_eq, Int.one_mul, us_in (2 ^ k) (by omega) (by omega), us_in _ (by omega) (by omega), sg_in _ (by omega) (by omega)]
theorem xor_sound {a b : VV} (ra : RV a) (rb : RV b) {x y : Int} (hx : IS x) (hy : IS y) (vx : vin a x) (vy : vin b y) : vin (bxone a b) (bxor x y) := by
  have ha := ra.inn; have hb := rb.inn
  have ci := cdig_in ubxor_in ha hb
  have z : IS 0 := ⟨by decide, by decide⟩
  have x1 := vx.1; have x2 := vx.2.1; have y1 := vy.1; have y2 := vy.2.1
  have h1 : IS (oneI a b).1 := by unfold oneI; dsimp only; split; exact z; exact wrap_is _
  have h2 : IS (oneI a b).2 := by
    unfold oneI; dsimp only
    split
    · exact wrap_is _
    split
    · exact ⟨by decide, by decide⟩
    · exact wrap_is _
  have hk : roomK a b ≤ 63 := by
    have := room63 ha.lo; have := room63 ha.hi; have := room63 hb.lo; have := room63 hb.hi
    unfold roomK; omega
  have up : ∀ n, IS n → roomN n ≤ roomK a b → mag n < 2 ^ roomK a b := fun n hn hr => Nat.lt_of_lt_of_le (room_lt hn) (Nat.pow_le_pow_right (by decide) hr)
  have mx := mag_between (up _ ha.lo (by unfold roomK; omega)) (up _ ha.hi (by unfold roomK; omega)) x1 x2
  have my := mag_between (up _ hb.lo (by unfold roomK; omega)) (up _ hb.hi (by unfold roomK; omega)) y1 y2
  have mb := mag_bound (mag_bxor hx hy hk mx my)
  have sn := bxor_sign hx hy
  unfold bxone
  rw [vmk_iof]
  refine vin_of h1 h2 ci (bxor_is x y) ?_ ?_ (cxor_sound ha hb vx.2.2 vy.2.2)
  · unfold oneI; dsimp only
    split
    · rename_i c
      have : ¬ (bxor x y < 0) := by rw [sn]; omega
      omega
    · rw [npow_wrap hk]; exact mb.1
  · unfold oneI; dsimp only
    rw [upow_wrap hk]
    split
    · exact mb.2
    split
    · have : bxor x y < 0 := by rw [sn]; omega
      omega
    · exact mb.2
/-! Quotients and rests. -/
theorem quo_abs (x y : Int) : (x.tdiv y).natAbs = x.natAbs / y.natAbs := by rw [Int.natAbs_tdiv]; rfl
theorem quo_eq {x y : Int} (hx : IS x) (h0 : y ≠ 0) (h : ¬ (x = -9223372036854775808 ∧ y = -1)) : quo x y = x.tdiv y := by
  unfold quo
  have e := quo_abs x y
  have h1 := hx.1; have h2 := hx.2
  rw [sg_eq]
  by_cases c1 : y = 1
  · subst c1; rw [Int.tdiv_one]; exact sg_in _ (by omega) (by omega)
  by_cases c2 : y = -1
  · subst c2; rw [Int.tdiv_neg, Int.tdiv_one]; exact sg_in _ (by omega) (by omega)
  · have : x.natAbs / y.natAbs ≤ x.natAbs / 2 := Nat.div_le_div_left (by omega) (by decide)
    exact sg_in _ (by omega) (by omega)
theorem tq_mono {x x' y : Int} (hy : 0 < y) (h : x ≤ x') : x.tdiv y ≤ x'.tdiv y := Int.tdiv_le_tdiv hy h
theorem tq_pos {x c y : Int} (hx : 0 ≤ x) (hc : 0 < c) (h : c ≤ y) : x.tdiv y ≤ x.tdiv c := by
  obtain ⟨n, rfl⟩ := Int.eq_ofNat_of_zero_le hx
  obtain ⟨k, rfl⟩ := Int.eq_ofNat_of_zero_le (Int.le_of_lt hc)
  obtain ⟨m, rfl⟩ := Int.eq_ofNat_of_zero_le (show 0 ≤ y by omega)
  rw [← Int.ofNat_tdiv, ← Int.ofNat_tdiv]
  have := Nat.div_le_div_left (a := n) (show k ≤ m by omega) (by omega)
  omega
theorem tq_neg {x c y : Int} (hx : x ≤ 0) (hc : 0 < c) (h : c ≤ y) : x.tdiv c ≤ x.tdiv y := by
  have := tq_pos (x := -x) (by omega) hc h
  rw [Int.neg_tdiv, Int.neg_tdiv] at this
  omega
/-- Between quotients of the ends, of a divisor above 0. -/
theorem tq_lo {x l c d y : Int} (hc : 0 < c) (h1 : c ≤ y) (h2 : y ≤ d) (h : l ≤ x) : l.tdiv c ≤ x.tdiv y ∨ l.tdiv d ≤ x.tdiv y := by
  have m := tq_mono (show 0 < y by omega) h
  by_cases s : 0 ≤ l
  · have := tq_pos s (show 0 < y by omega) h2; right; omega
  · have := tq_neg (show l ≤ 0 by omega) hc h1; left; omega
theorem tq_hi {x l c d y : Int} (hc : 0 < c) (h1 : c ≤ y) (h2 : y ≤ d) (h : x ≤ l) : x.tdiv y ≤ l.tdiv c ∨ x.tdiv y ≤ l.tdiv d := by
  have m := tq_mono (show 0 < y by omega) h
  by_cases s : 0 ≤ l
  · have := tq_pos s hc h1; left; omega
  · have := tq_neg (show l ≤ 0 by omega) (show 0 < y by omega) h2; right; omega
/-- Between quotients of the ends, of a divisor below 0. -/
theorem tq_loN {x l c d y : Int} (hc : d < 0) (h1 : c ≤ y) (h2 : y ≤ d) (h : x ≤ l) : l.tdiv c ≤ x.tdiv y ∨ l.tdiv d ≤ x.tdiv y := by
  have := tq_hi (x := x) (l := l) (c := -d) (d := -c) (y := -y) (by omega) (by omega) (by omega) h
  rw [Int.tdiv_neg, Int.tdiv_neg, Int.tdiv_neg] at this
  omega
theorem tq_hiN {x l c d y : Int} (hc : d < 0) (h1 : c ≤ y) (h2 : y ≤ d) (h : l ≤ x) : x.tdiv y ≤ l.tdiv c ∨ x.tdiv y ≤ l.tdiv d := by
  have := tq_lo (x := x) (l := l) (c := -d) (d := -c) (y := -y) (by omega) (by omega) (by omega) h
  rw [Int.tdiv_neg, Int.tdiv_neg, Int.tdiv_neg] at this
  omega
theorem span_has (l : List Int) : ∀ s : Int × Int, (l.foldl spanS s).1 ≤ s.1 ∧ s.2 ≤ (l.foldl spanS s).2 ∧ ∀ q ∈ l, (l.foldl spanS s).1 ≤ q ∧ q ≤ (l.foldl spanS s).2 := by
  induction l with
  | nil => intro s; exact ⟨Int.le_refl _, Int.le_refl _, fun q hq => by cases hq⟩
  | cons p l ih =>
    intro s
    obtain ⟨h1, h2, h3⟩ := ih (spanS s p)
    have e1 : (spanS s p).1 ≤ s.1 ∧ (spanS s p).1 ≤ p := by unfold spanS; dsimp only; split <;> omega
    have e2 : s.2 ≤ (spanS s p).2 ∧ p ≤ (spanS s p).2 := by unfold spanS; dsimp only; split <;> omega
    refine ⟨?_, ?_, fun q hq => ?_⟩
    · show (l.foldl spanS (spanS s p)).1 ≤ _; omega
    · show _ ≤ (l.foldl spanS (spanS s p)).2; omega
    · show (l.foldl spanS (spanS s p)).1 ≤ _ ∧ _ ≤ (l.foldl spanS (spanS s p)).2
      rcases List.mem_cons.1 hq with rfl | hq
      · omega
      · exact h3 q hq
theorem qspan_has (l : List Int) : ∀ q ∈ l, (qspan l).1 ≤ q ∧ q ≤ (qspan l).2 := by
  cases l with
  | nil => intro q hq; cases hq
  | cons p l => exact (span_has (p :: l) (p, p)).2.2
theorem top_has {n : Int} (hn : IS n) : vin vtop n := by
  refine ⟨hn.1, hn.2, ?_⟩
  show chas 1 0 n = true
  unfold chas
  simp [Int.emod_one]
/-- The part of a divisor in which a number is. -/
theorem part_has {b : VV} {y : Int} (h1 : b.lo ≤ y) (h2 : y ≤ b.hi) (h0 : y ≠ 0) : ∃ p ∈ partL b, (p.1 ≤ y ∧ y ≤ p.2 ∧ p.2 < 0 ∧ p.1 = b.lo ∧ (p.2 = -1 ∨ p.2 = b.hi)) ∨ (p.2 ≤ y ∧ y ≤ p.1 ∧ 0 < p.2 ∧ p.1 = b.hi) := by
  by_cases c : y < 0
  · refine ⟨(b.lo, if -1 < b.hi then -1 else b.hi), by unfold partL; rw [if_pos (show b.lo < 0 by omega)]; simp, .inl ?_⟩
    dsimp only
    split <;> omega
  · refine ⟨(b.hi, if 1 > b.lo then 1 else b.lo), by unfold partL; rw [if_pos (show 0 < b.hi by omega)]; simp, .inr ?_⟩
    dsimp only
    split <;> omega
theorem w16 {x y : Int} (h0 : y ≠ 0) : wopV 16 x y = quo x y := by
  show (if y = 0 then 0 else quo x y) = _
  rw [if_neg h0]
theorem w17 {x y : Int} (h0 : y ≠ 0) : wopV 17 x y = x.tmod y := by
  show (if y = 0 then 0 else x.tmod y) = _
  rw [if_neg h0]
theorem quot_sound {a b : VV} (ra : RV a) (rb : RV b) {x y : Int} (hx : IS x) (hy : IS y) (vx : vin a x) (vy : vin b y) (h0 : y ≠ 0) : vin (bquot a b) (wopV 16 x y) := by
  have ha := ra.inn; have hb := rb.inn
  have x1 := vx.1; have x2 := vx.2.1; have y1 := vy.1; have y2 := vy.2.1
  unfold bquot
  split
  · exact top_has (wop16_is _ _)
  rename_i ct
  obtain ⟨p, hp, hw⟩ := part_has y1 y2 h0
  have qi := qspan_is (quoL a (partL b)) (fun q hq => by
    unfold quoL at hq
    obtain ⟨l, hl, hq⟩ := List.mem_flatten.1 hq
    obtain ⟨r, _, rfl⟩ := List.mem_map.1 hl
    simp at hq
    rcases hq with rfl | rfl | rfl | rfl <;> exact wop16_is _ _)
  have qh := qspan_has (quoL a (partL b))
  have mem : ∀ q, q ∈ [wopV 16 a.lo p.1, wopV 16 a.hi p.1, wopV 16 a.lo p.2, wopV 16 a.hi p.2] → q ∈ quoL a (partL b) := fun q hq => List.mem_flatten.2 ⟨_, List.mem_map.2 ⟨p, hp, rfl⟩, hq⟩
  have q1 := qh _ (mem _ (.head _))
  have q2 := qh _ (mem _ (.tail _ (.head _)))
  have q3 := qh _ (mem _ (.tail _ (.tail _ (.head _))))
  have q4 := qh _ (mem _ (.tail _ (.tail _ (.tail _ (.head _)))))
  have nt : p.2 = -1 → a.lo ≠ -9223372036854775808 := fun e1 e2 => ct ⟨List.any_eq_true.2 ⟨p, hp, by simp [e1]⟩, e2⟩
  have i1 := ha.lo; have i2 := ha.hi
  have p0 : p.1 ≠ 0 ∧ p.2 ≠ 0 := by omega
  rw [w16 p0.1, quo_eq ha.lo p0.1 (by intro q; rcases hw with hw | hw <;> have := nt <;> omega)] at q1
  rw [w16 p0.1, quo_eq ha.hi p0.1 (by intro q; rcases hw with hw | hw <;> have := nt <;> omega)] at q2
  rw [w16 p0.2, quo_eq ha.lo p0.2 (by intro q; exact nt q.2 q.1)] at q3
  rw [w16 p0.2, quo_eq ha.hi p0.2 (by intro q; have := nt q.2; omega)] at q4
  rw [vmk_iof, w16 h0, quo_eq hx h0 (by intro q; rcases hw with hw | hw <;> have := nt <;> omega)]
  have is : IS (x.tdiv y) := by
    rw [← quo_eq hx h0 (by intro q; rcases hw with hw | hw <;> have := nt <;> omega)]
    exact wrap_is _
  refine vin_of qi.1 qi.2 ⟨⟨by decide, by decide⟩, by decide, by decide⟩ is ?_ ?_ (by show chas 1 0 _ = true; unfold chas; simp [Int.emod_one])
  · rcases hw with hw | hw
    · have := tq_loN (x := x) (l := a.hi) (c := p.1) (d := p.2) (y := y) (by omega) (by omega) (by omega) (by omega); omega
    · have := tq_lo (x := x) (l := a.lo) (c := p.2) (d := p.1) (y := y) (by omega) (by omega) (by omega) (by omega); omega
  · rcases hw with hw | hw
    · have := tq_hiN (x := x) (l := a.lo) (c := p.1) (d := p.2) (y := y) (by omega) (by omega) (by omega) (by omega); omega
    · have := tq_hi (x := x) (l := a.hi) (c := p.2) (d := p.1) (y := y) (by omega) (by omega) (by omega) (by omega); omega
theorem tmod_small {x y : Int} (h : x.natAbs < y.natAbs) : x.tmod y = x := by
  have e := quo_abs x y
  rw [Nat.div_eq_of_lt h] at e
  have e2 : x.tdiv y = 0 := by omega
  have := Int.mul_tdiv_add_tmod x y
  rw [e2, Int.mul_zero] at this
  omega
theorem tmod_rng {x y : Int} (h0 : y ≠ 0) : (x.tmod y).natAbs < y.natAbs ∧ (x.tmod y).natAbs ≤ x.natAbs ∧ (0 ≤ x → 0 ≤ x.tmod y) ∧ (x ≤ 0 → x.tmod y ≤ 0) := by
  have e : (x.tmod y).natAbs = x.natAbs % y.natAbs := Int.natAbs_tmod x y
  refine ⟨by rw [e]; exact Nat.mod_lt _ (by omega), by rw [e]; exact Nat.mod_le _ _, fun h => Int.tmod_nonneg y h, fun h => ?_⟩
  have := Int.tmod_nonneg (a := -x) y (by omega)
  rw [Int.neg_tmod] at this
  omega
theorem great_has (l : List (Int × Int)) : ∀ g : Int, g ≤ l.foldl (fun g p => gr (gr g (p.1.natAbs : Nat)) (p.2.natAbs : Nat)) g ∧ ∀ p ∈ l, ((p.1.natAbs : Nat) : Int) ≤ l.foldl (fun g p => gr (gr g (p.1.natAbs : Nat)) (p.2.natAbs : Nat)) g ∧ ((p.2.natAbs : Nat) : Int) ≤ l.foldl (fun g p => gr (gr g (p.1.natAbs : Nat)) (p.2.natAbs : Nat)) g := by
  induction l with
  | nil => intro g; exact ⟨Int.le_refl _, fun p hp => by cases hp⟩
  | cons q l ih =>
    intro g
    obtain ⟨h1, h2⟩ := ih (gr (gr g (q.1.natAbs : Nat)) (q.2.natAbs : Nat))
    have e : g ≤ gr (gr g (q.1.natAbs : Nat)) (q.2.natAbs : Nat) ∧ ((q.1.natAbs : Nat) : Int) ≤ gr (gr g (q.1.natAbs : Nat)) (q.2.natAbs : Nat) ∧ ((q.2.natAbs : Nat) : Int) ≤ gr (gr g (q.1.natAbs : Nat)) (q.2.natAbs : Nat) := by
      unfold gr; repeat' split
      all_goals omega
    rw [List.foldl_cons]
    refine ⟨by omega, fun p hp => ?_⟩
    rcases List.mem_cons.1 hp with rfl | hp
    · omega
    · exact h2 p hp
theorem great_le (l : List (Int × Int)) {M : Int} (h : ∀ p ∈ l, ((p.1.natAbs : Nat) : Int) ≤ M ∧ ((p.2.natAbs : Nat) : Int) ≤ M) : ∀ g : Int, g ≤ M → l.foldl (fun g p => gr (gr g (p.1.natAbs : Nat)) (p.2.natAbs : Nat)) g ≤ M := by
  induction l with
  | nil => intro g hg; exact hg
  | cons q l ih =>
    intro g hg
    rw [List.foldl_cons]
    refine ih (fun p hp => h p (List.mem_cons_of_mem _ hp)) _ ?_
    have := h q (.head _)
    unfold gr; repeat' split
    all_goals omega
theorem part_is {b : VV} (hb : InV b) : ∀ p ∈ partL b, ((p.1.natAbs : Nat) : Int) ≤ 9223372036854775808 ∧ ((p.2.natAbs : Nat) : Int) ≤ 9223372036854775808 := by
  have h1 := hb.lo; have h2 := hb.hi
  intro p hp
  unfold partL at hp
  rcases List.mem_append.1 hp with hp | hp
  · split at hp
    · simp at hp; subst hp; dsimp only; constructor
      · omega
      · split <;> omega
    · cases hp
  · split at hp
    · simp at hp; subst hp; dsimp only; constructor
      · omega
      · split <;> omega
    · cases hp
theorem rest_sound {a b : VV} (ra : RV a) (rb : RV b) {x y : Int} (hx : IS x) (hy : IS y) (vx : vin a x) (vy : vin b y) (h0 : y ≠ 0) : vin (brest a b) (wopV 17 x y) := by
  have ha := ra.inn; have hb := rb.inn
  have x1 := vx.1; have x2 := vx.2.1; have y1 := vy.1; have y2 := vy.2.1
  obtain ⟨p, hp, hw⟩ := part_has y1 y2 h0
  obtain ⟨t1, t2, t3, t4⟩ := tmod_rng (x := x) h0
  rw [w17 h0]
  unfold brest
  split
  · rename_i ct
    have := of_decide_eq_true (List.all_eq_true.1 ct p hp)
    have hg : ((x.natAbs : Nat) : Int) ≤ gr (a.lo.natAbs : Nat) (a.hi.natAbs : Nat) := by unfold gr; split <;> omega
    rw [tmod_small (by rcases hw with hw | hw <;> omega)]
    exact vx
  · have g1 := (great_has (partL b) 0).2 p hp
    have g2 := great_le (partL b) (part_is hb) 0 (by decide)
    have gy : ((y.natAbs : Nat) : Int) ≤ bgreat (partL b) := by unfold bgreat; rcases hw with hw | hw <;> omega
    have g2 : bgreat (partL b) ≤ 9223372036854775808 := g2
    have em : brM b = bgreat (partL b) - 1 := by
      unfold brM
      rw [us_eq, sg_eq, us_in _ (by omega) (by omega), sg_in _ (by omega) (by omega)]
    have en : IntKind.i64.wrap (-(brM b)) = -(brM b) := by rw [sg_eq, sg_in _ (by omega) (by omega)]
    have i1 := ha.lo; have i2 := ha.hi
    have z : IS 0 := ⟨by decide, by decide⟩
    have h1 : IS (brI a b).1 := by unfold brI gr; dsimp only; split; (split; exact wrap_is _; exact i1); exact z
    have h2 : IS (brI a b).2 := by unfold brI; dsimp only; split; (split; exact ⟨by omega, by omega⟩; exact i2); exact z
    rw [vmk_iof]
    refine vin_of h1 h2 (brC_in ha hb) ⟨by omega, by omega⟩ ?_ ?_ ?_
    · unfold brI gr; dsimp only
      rw [en]
      split
      · split <;> (by_cases s : 0 ≤ x; have := t3 s; omega; have := t4 (by omega); omega)
      · have := t3 (by omega); omega
    · unfold brI; dsimp only
      split
      · split <;> (by_cases s : 0 ≤ x; have := t3 s; omega; have := t4 (by omega); omega)
      · have := t4 (by omega); omega
    · unfold brC
      split
      · rename_i hs
        have e : y = b.lo := by omega
        subst e
        have nz : ((b.lo.natAbs : Nat) : Int) ≠ 0 := by omega
        unfold cadd
        rw [if_neg (fun q => nz q.2)]
        have dv : cg a.m (b.lo.natAbs : Nat) ∣ b.lo := Int.dvd_trans (cg_dvd_right _ _) (Int.natAbs_dvd.2 (Int.dvd_refl _))
        have ne : cg a.m (b.lo.natAbs : Nat) ≠ 0 := fun q => by rw [q] at dv; exact h0 (Int.zero_dvd.1 dv)
        refine chas_mk ne ?_
        dsimp only
        rw [crest_has (cg_dvd_left _ _) hx.1 hx.2 vx.2.2, cmake0_iu]
        have e0 : crest (b.lo.natAbs : Nat) 0 (cg a.m (b.lo.natAbs : Nat)) = 0 := by unfold crest; rw [if_neg nz, Int.zero_emod]
        rw [e0, Int.add_zero, Int.emod_emod]
        refine emod_of_dvd_sub ?_
        have := Int.mul_tdiv_add_tmod x b.lo
        have : x.tmod b.lo - x = -(b.lo * x.tdiv b.lo) := by omega
        rw [this]
        exact Int.dvd_neg.2 (Int.dvd_trans dv (Int.dvd_mul_right _ _))
      · show chas 1 0 _ = true
        unfold chas
        simp [Int.emod_one]
/-! Shifts. -/
theorem slK_eq {x : Int} {k : Nat} (h : IS (x * 2 ^ k)) : slK x k = x * 2 ^ k := by unfold slK; rw [sg_eq, sg_in _ h.1 h.2]
theorem slK_back {x : Int} {k : Nat} (hk : k < 64) (h : slK x k / 2 ^ k = x) : slK x k = x * 2 ^ k := by
  have e : (2 : Int) ^ 63 = 9223372036854775808 := by decide
  have h1 := p2mono (show k ≤ 63 by omega)
  have h2 := p2pos k
  have h3 := Int.mul_ediv_add_emod (slK x k) (2 ^ k)
  have h4 := Int.emod_nonneg (slK x k) (show (2 : Int) ^ k ≠ 0 by omega)
  have h5 := Int.emod_lt_of_pos (slK x k) h2
  rw [h, Int.mul_comm] at h3
  have h6 : ∃ q, slK x k = x * 2 ^ k + 18446744073709551616 * q := ⟨(slK x k - x * 2 ^ k) / 18446744073709551616, by unfold slK; rw [sg_eq]; unfold sg; omega⟩
  obtain ⟨q, hq⟩ := h6
  generalize x * 2 ^ k = z at *
  omega
theorem onew {k : Nat} : us (IntKind.i64.wrap (IntKind.u64.wrap (1 * 2 ^ k))) = us (2 ^ k) := by
  rw [us_eq, sg_eq, Int.one_mul]
  unfold us sg
  omega
theorem sg_mul_sg (x y : Int) : sg (x * sg y) = sg (x * y) := by
  have : ∃ q, sg y = y + 18446744073709551616 * q := ⟨(sg y - y) / 18446744073709551616, by unfold sg; omega⟩
  obtain ⟨q, hq⟩ := this
  rw [hq, Int.mul_add, Int.mul_comm x (18446744073709551616 * q), Int.mul_assoc, Int.mul_comm q x]
  generalize x * q = w
  generalize x * y = z
  unfold sg
  omega
theorem cup_sound {a : VV} (ra : RV a) {x : Int} (hx : IS x) (vx : vin a x) (k : Nat) : chas (cup a k).1 (cup a k).2 (x * sg (2 ^ k)) = true := by
  have ha := ra.inn
  have s := sg_rng (2 ^ k)
  unfold cup
  refine mul_sound ha.m.1 (by decide) hx.1 hx.2 s.1 s.2 vx.2.2 (chas_of_zero ?_)
  rw [onew]
  unfold us sg
  omega
theorem up_sound {a : VV} (ra : RV a) {x : Int} (hx : IS x) (vx : vin a x) {k : Nat} (hk : k < 64) : vin (bup a k) (slK x k) := by
  have ha := ra.inn
  have na := RV.ne vx
  have x1 := vx.1; have x2 := vx.2.1
  have ci := cup_in ha k
  have cs := cup_sound ra hx vx k
  have e63 : (2 : Int) ^ 63 = 9223372036854775808 := by decide
  have pk := p2pos k
  unfold bup
  split
  · rename_i hs
    have e : x = a.lo := by omega
    rw [e]
    exact (vin_one (wrap_is _) (wrap_is _)).2 rfl
  rename_i ns
  split
  · have wi := cwr_in ci.1 ci.2
    refine vin_of (c := cwrapped (cup a k).1 (cup a k).2) ⟨by decide, by decide⟩ ⟨by decide, by decide⟩ wi (wrap_is _) (wrap_is _).1 (wrap_is _).2 ?_
    have := wrap_sound ci.1.1 ci.1.2 cs
    rw [sg_mul_sg] at this
    unfold slK
    rw [sg_eq]
    exact this
  · rename_i hb
    have b1 := slK_back hk (show slK a.lo k / 2 ^ k = a.lo by omega)
    have b2 := slK_back hk (show slK a.hi k / 2 ^ k = a.hi by omega)
    have i1 : IS (slK a.lo k) := wrap_is _
    have i2 : IS (slK a.hi k) := wrap_is _
    have m1 := Int.mul_le_mul_of_nonneg_right x1 (Int.le_of_lt pk)
    have m2 := Int.mul_le_mul_of_nonneg_right x2 (Int.le_of_lt pk)
    have i3 : IS (x * 2 ^ k) := by
      have := i1.1; have := i2.2
      exact ⟨by omega, by omega⟩
    rw [vmk_iof, slK_eq i3]
    refine vin_of i1 i2 ci i3 (by omega) (by omega) ?_
    by_cases c : k = 63
    · subst c
      have nx := RV.next ra (by have := ra.le na; omega)
      rw [e63] at *
      have := i1.1; have := i2.2
      have l1 : a.lo = -1 := by omega
      have l2 : a.hi = 0 := by omega
      have am : a.m = 1 := by omega
      have ar : a.r = 0 := by rcases ra.right with h | h <;> have := ha.r.1 <;> omega
      have hc : cup a 63 = (9223372036854775808, 0) := by unfold cup; rw [am, ar]; decide +kernel
      rw [hc]
      refine chas_mk (by decide) ?_
      dsimp only
      have : x = -1 ∨ x = 0 := by omega
      rcases this with rfl | rfl <;> decide
    · have h2 := p2mono (show k ≤ 62 by omega)
      have e62 : (2 : Int) ^ 62 = 4611686018427387904 := by decide
      have : sg (2 ^ k) = 2 ^ k := by unfold sg; omega
      rw [this] at cs
      exact cs
theorem div_mono {x y p : Int} (hp : 0 < p) (h : x ≤ y) : x / p ≤ y / p := Int.ediv_le_ediv hp h
theorem down_sound {a : VV} (ra : RV a) {x : Int} (hx : IS x) (vx : vin a x) {k : Nat} (hk : k < 64) : vin (bdown a k) (x / 2 ^ k) := by
  have ha := ra.inn
  have na := RV.ne vx
  have x1 := vx.1; have x2 := vx.2.1
  have pk := p2pos k
  unfold bdown
  split
  · rename_i hs
    have e : x = a.lo := by omega
    rw [e]
    exact (vin_one (div2_is ha.lo _) (div2_is ha.lo _)).2 rfl
  rename_i ns
  rw [vmk_iof]
  have ic : IU (cdown a k).1 ∧ IU (cdown a k).2 := by
    unfold cdown
    split
    · exact ⟨div2_iu ha.m k, div2_iu ha.r k⟩
    · exact ⟨⟨by decide, by decide⟩, by decide, by decide⟩
  refine vin_of (div2_is ha.lo _) (div2_is ha.hi _) ic (div2_is hx _) (div_mono pk x1) (div_mono pk x2) ?_
  unfold cdown
  split
  · rename_i hm
    have nx := RV.next ra (by have := ra.le na; omega)
    have m0 : a.m ≠ 0 := by omega
    have hr := chas_mod m0 vx.2.2
    have h1 := Int.mul_ediv_add_emod a.m (2 ^ k)
    have h2 := Int.emod_nonneg a.m (show (2 : Int) ^ k ≠ 0 by omega)
    have h4 : 0 ≤ a.m / 2 ^ k * 2 ^ k := Int.mul_nonneg (Int.ediv_nonneg ha.m.1 (Int.le_of_lt pk)) (Int.le_of_lt pk)
    rw [Int.mul_comm] at h1
    have h3 := ha.m.2
    rw [us_eq, us_in _ h4 (by omega)] at hm
    have q1 := Int.mul_ediv_add_emod x a.m
    rw [hr] at q1
    generalize hq : a.m / 2 ^ k = q at *
    have q0 : q ≠ 0 := by intro c; rw [c] at hm; omega
    refine chas_mk q0 ?_
    dsimp only
    have e : x = a.r + (q * (x / a.m)) * 2 ^ k := by
      rw [Int.mul_assoc, Int.mul_comm (x / a.m), ← Int.mul_assoc, hm]
      omega
    rw [e, Int.add_mul_ediv_right _ _ (by omega), Int.add_mul_emod_self_left]
    refine Int.emod_eq_of_lt (Int.ediv_nonneg ha.r.1 (Int.le_of_lt pk)) ?_
    have rm : a.r < a.m := by rcases ra.right with h | h <;> omega
    rw [← hm] at rm
    exact Int.ediv_lt_of_lt_mul pk rm
  · show chas 1 0 _ = true
    unfold chas
    simp [Int.emod_one]
/-! What is joined. -/
theorem fold_has {α : Type} {f : α → VV} : ∀ (l : List α) (s : VV), RV s → (∀ q ∈ l, RV (f q)) → ∀ n, IS n → (vin s n ∨ ∃ q ∈ l, vin (f q) n) → vin (l.foldl (fun a q => vjoin a (f q)) s) n
  | [], s, hs, hl, n, hn, h => by
    rcases h with h | ⟨q, hq, _⟩
    · exact h
    · cases hq
  | p :: l, s, hs, hl, n, hn, h => by
    have rp := hl p (.head _)
    refine fold_has l (vjoin s (f p)) (vjoin_rv hs rp) (fun q hq => hl q (.tail _ hq)) n hn ?_
    rcases h with h | ⟨q, hq, hv⟩
    · exact .inl (join_in hs rp hn (.inl h))
    · rcases List.mem_cons.1 hq with rfl | hq
      · exact .inl (join_in hs rp hn (.inr hv))
      · exact .inr ⟨q, hq, hv⟩
theorem vofs_has {l : List Int} (hl : ∀ p ∈ l, IS p) {n : Int} (h : n ∈ l) : vin (vofs l) n :=
  fold_has (f := vone) l vbot rv_bot (fun q hq => rv_one (hl q hq)) n (hl n h) (.inr ⟨n, h, (vin_one (hl n h) (hl n h)).2 rfl⟩)
theorem vjoins_has {l : List VV} (hl : ∀ p ∈ l, RV p) {n : Int} (hn : IS n) {p : VV} (hp : p ∈ l) (h : vin p n) : vin (vjoins l) n :=
  fold_has (f := vmake) l vbot rv_bot (fun q hq => vmake_rv (hl q hq).inn) n hn (.inr ⟨p, hp, by rw [(hl p hp).fix]; exact h⟩)
/-- Each number stands among the least ones, if there are no more than are asked for. -/
theorem some_has {v : VV} (h : RV v) {n : Int} (hv : vin v n) {most : Nat} (hc : (vcard v).2 = true) (hm : (vcard v).1 ≤ most) : n ∈ vnums v (min most (vcnt v)) := by
  have nb := RV.ne hv
  have x1 := hv.1; have x2 := hv.2.1
  rw [vcard_eq h nb] at hc hm
  unfold vnums
  rw [List.mem_map]
  unfold vcnt vnum
  rw [veq_false nb, if_neg (by decide)]
  by_cases h0 : v.m = 0
  · rw [if_pos h0] at hc hm ⊢
    have : v.lo = v.hi := by
      rcases h.way with w | ⟨w, _⟩ | ⟨_, w, _⟩
      · exact absurd w nb
      · exact w
      · omega
    refine ⟨0, ?_, by omega⟩
    rw [List.mem_range]
    dsimp only at hm
    omega
  · rw [if_neg h0] at hc hm ⊢
    have pm : 0 < v.m := by have := h.inn.m.1; omega
    split at hm
    · rename_i q; rw [if_pos q] at hc; cases hc
    · dsimp only at hm
      have r1 := vin_mod hv h0
      have r2 := vin_mod (h.lo_in nb) h0
      have d : (n - v.lo) % v.m = 0 := by rw [Int.sub_emod, r1, r2]; simp
      have e1 := Int.mul_ediv_add_emod (n - v.lo) v.m
      rw [d, Int.mul_comm] at e1
      have e2 := Int.ediv_nonneg (show 0 ≤ n - v.lo by omega) (Int.le_of_lt pm)
      have e3 := Int.ediv_le_ediv pm (show n - v.lo ≤ v.hi - v.lo by omega)
      refine ⟨((n - v.lo) / v.m).toNat, ?_, ?_⟩
      · rw [List.mem_range]; omega
      · rw [Int.toNat_of_nonneg e2]; omega
theorem some_in_v {v : VV} (h : RV v) {n : Int} {most : Nat} (hn : n ∈ vnums v (min most (vcnt v))) : vin v n ∧ IS n := by
  unfold vnums at hn
  obtain ⟨k, hk, rfl⟩ := List.mem_map.1 hn
  rw [List.mem_range] at hk
  have := vnum_in h (k := k) (by omega)
  exact ⟨this, vin_is' h this⟩
end Go.Proofs.YtljhbdgoknfkcaaGreatDoor
