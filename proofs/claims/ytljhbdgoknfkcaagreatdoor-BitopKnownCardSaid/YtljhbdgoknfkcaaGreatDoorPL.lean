/- The lattice of values, in plain numbers: joins, meets, what is widened and narrowed. -/
import Derived.Test.YtljhbdgoknfkcaaGreatDoorM4
import Derived.Test.YtljhbdgoknfkcaaGreatDoorPV
import Derived.Test.YtljhbdgoknfkcaaGreatDoorPA
namespace Go.Proofs.YtljhbdgoknfkcaaGreatDoor
open Go Go.RowKit Go.Sort
set_option linter.unusedVariables false
set_option linter.unusedSimpArgs false

theorem RV.alone' {v : VV} (h : RV v) (nv : v ≠ vbot) (h1 : v.lo = v.hi) : v.m = 0 ∧ v.r = us v.lo := by
  rcases h.way with w | ⟨w1, w2, w3⟩ | ⟨w1, _⟩
  · exact absurd w nv
  · exact ⟨w2, w3⟩
  · omega
theorem cdist_comm (x y : Int) : cdist x y = cdist y x := by unfold cdist; split <;> split <;> omega
theorem cjoin_comm {am ar bm br : Int} : cjoin am ar bm br = cjoin bm br am ar := by
  unfold cjoin
  rw [cg_comm bm am]
  by_cases h : am = 0 ∧ bm = 0
  · rw [if_pos h, if_pos (show bm = 0 ∧ am = 0 from ⟨h.2, h.1⟩), cdist_comm (sg br)]
    by_cases e : ar = br
    · rw [if_pos e, if_pos (show br = ar from e.symm), e]
    · rw [if_neg e, if_neg (show ¬ br = ar from fun q => e q.symm), emod_of_dvd_sub (cdist_dvd (sg ar) (sg br))]
  · rw [if_neg h, if_neg (show ¬ (bm = 0 ∧ am = 0) from fun q => h ⟨q.2, q.1⟩), cdist_comm (crest bm br _)]
    rw [emod_of_dvd_sub (Int.dvd_trans (cg_dvd_right _ _) (cdist_dvd (crest am ar (cg am bm)) (crest bm br (cg am bm))))]
theorem cg_of_dvd {a b : Int} (h : b ∣ a) (hb : 0 < b) : cg a b = b := by
  have h1 : cg a b ≤ b := cg_le_right hb
  have h2 : b ∣ cg a b := by unfold cg; exact Int.dvd_coe_gcd h (Int.dvd_refl b)
  have h3 : 0 < cg a b := cg_pos (by omega)
  have := Int.le_of_dvd h3 h2
  omega
/-- The congruence of what is within. -/
theorem cjoin_absorb {a b : VV} (ha : RV a) (hb : RV b) (na : a ≠ vbot) (hs : ∀ n, IS n → vin a n → vin b n) : cjoin a.m a.r b.m b.r = (b.m, b.r) := by
  have al := hs _ ha.inn.lo (ha.lo_in na)
  have ah := hs _ ha.inn.hi (ha.hi_in na)
  have nb := RV.ne al
  have bm := hb.inn.m
  have br := hb.inn.r
  by_cases h0 : b.m = 0
  · have e1 : b.lo = b.hi := by
      rcases hb.way with w | ⟨w, _⟩ | ⟨_, w, _⟩
      · exact absurd w nb
      · exact w
      · omega
    have q1 := al.1; have q2 := al.2.1; have q3 := ah.1; have q4 := ah.2.1
    have e2 : a.lo = a.hi := by omega
    have k1 := ha.alone' na e2
    have k2 := hb.alone' nb e1
    have e3 : a.r = b.r := by rw [k1.2, k2.2]; congr 1; omega
    unfold cjoin
    rw [if_pos ⟨k1.1, k2.1⟩, if_pos e3, e3, h0]
  · have pb : 0 < b.m := by omega
    have e1 : a.lo % b.m = b.r := vin_mod al h0
    have rb : b.r % b.m = b.r := by rw [← e1, Int.emod_emod]
    have hd : b.m ∣ a.m := by
      rcases Int.lt_or_eq_of_le (ha.le na) with lt | eq
      · exact Int.dvd_of_emod_eq_zero (within_dvd ha hb lt hs).2
      · rw [(ha.alone' na eq).1]; exact Int.dvd_zero _
    have g1 : cg a.m b.m = b.m := cg_of_dvd hd pb
    have c1 : crest a.m a.r b.m = b.r := by rw [crest_has hd ha.inn.lo.1 ha.inn.lo.2 (ha.lo_in na).2.2, e1]
    have c2 : crest b.m b.r b.m = b.r := by unfold crest; rw [if_neg h0, rb]
    unfold cjoin
    rw [if_neg (fun q => h0 q.2), g1, c1, c2, show cdist b.r b.r = 0 by unfold cdist; split <;> omega, cg_zero b.m (by omega), rb]
theorem join_eq {a b : VV} (ha : RV a) (hb : RV b) (na : a ≠ vbot) (nb : b ≠ vbot) : vjoin a b = vmk (if a.lo ≤ b.lo then a.lo else b.lo, if b.hi ≤ a.hi then a.hi else b.hi) (cjoin a.m a.r b.m b.r) := by
  rw [← rvjoin_eq ha hb]
  unfold rvjoin rijoin
  have la := ha.le na
  have lb := hb.le nb
  rw [veq_false na, veq_false nb, if_neg (by decide), if_neg (by decide), if_neg (by omega), if_neg (by omega)]
  congr 2
  split <;> split <;> omega
theorem join_bot {b : VV} : vjoin vbot b = b := by unfold vjoin; rw [veq_iff.2 rfl]; rfl
theorem join_bot' {a : VV} : vjoin a vbot = a := by
  by_cases na : a = vbot
  · rw [na]; exact join_bot
  · unfold vjoin; rw [veq_false na, veq_iff.2 rfl]; rfl
theorem cj_iu {a b : VV} (ha : RV a) (hb : RV b) : IU (cjoin a.m a.r b.m b.r).1 ∧ IU (cjoin a.m a.r b.m b.r).2 := cj_in ha.inn hb.inn
theorem join_chas {a b : VV} (ha : RV a) (hb : RV b) (na : a ≠ vbot) (nb : b ≠ vbot) {n : Int} (hn : IS n) (h : chas a.m a.r n = true ∨ chas b.m b.r n = true) : chas (cjoin a.m a.r b.m b.r).1 (cjoin a.m a.r b.m b.r).2 n = true := by
  rcases h with h | h
  · exact (join_sound ha.inn.r.1 ha.inn.r.2 hb.inn.r.1 hb.inn.r.2 hn.1 hn.2 hb.inn.lo.1 hb.inn.lo.2 h (hb.lo_in nb).2.2).1
  · exact (join_sound ha.inn.r.1 ha.inn.r.2 hb.inn.r.1 hb.inn.r.2 ha.inn.lo.1 ha.inn.lo.2 hn.1 hn.2 (ha.lo_in na).2.2 h).2.1
theorem join_in {a b : VV} (ha : RV a) (hb : RV b) {n : Int} (hn : IS n) (h : vin a n ∨ vin b n) : vin (vjoin a b) n := by
  by_cases na : a = vbot
  · rw [na, join_bot]
    rcases h with h | h
    · rw [na] at h; exact (vin_bot h).elim
    · exact h
  by_cases nb : b = vbot
  · rw [nb, join_bot']
    rcases h with h | h
    · exact h
    · rw [nb] at h; exact (vin_bot h).elim
  rw [join_eq ha hb na nb]
  have al := ha.inn.lo; have ah := ha.inn.hi; have bl := hb.inn.lo; have bh := hb.inn.hi
  refine vin_of (ite_is al bl) (ite_is ah bh) (cj_iu ha hb) hn ?_ ?_ (join_chas ha hb na nb hn (h.imp (fun q => q.2.2) fun q => q.2.2))
  · rcases h with h | h <;> (have := h.1; split <;> omega)
  · rcases h with h | h <;> (have := h.2.1; split <;> omega)
theorem join_comm {a b : VV} (ha : RV a) (hb : RV b) : vjoin a b = vjoin b a := by
  by_cases na : a = vbot
  · rw [na, join_bot, join_bot']
  by_cases nb : b = vbot
  · rw [nb, join_bot, join_bot']
  rw [join_eq ha hb na nb, join_eq hb ha nb na, cjoin_comm]
  congr 2
  · split <;> split <;> omega
  · split <;> split <;> omega
theorem join_absorb {a b : VV} (ha : RV a) (hb : RV b) (h : ∀ n, IS n → vin a n → vin b n) : vjoin a b = b := by
  by_cases na : a = vbot
  · rw [na, join_bot]
  have al := h _ ha.inn.lo (ha.lo_in na)
  have ah := h _ ha.inn.hi (ha.hi_in na)
  have nb := RV.ne al
  rw [join_eq ha hb na nb, cjoin_absorb ha hb na h]
  have q1 := al.1; have q2 := ah.2.1
  have e1 : (if a.lo ≤ b.lo then a.lo else b.lo) = b.lo := by split <;> omega
  have e2 : (if b.hi ≤ a.hi then a.hi else b.hi) = b.hi := by split <;> omega
  rw [e1, e2]
  exact hb.fix
/-- A value lies within another, if, and only if, their join is that. -/
theorem within_join {a b : VV} (ha : RV a) (hb : RV b) : vwithin a b = veq (vjoin a b) b := by
  rw [Bool.eq_iff_iff, vwithin_iff ha hb, veq_iff]
  constructor
  · exact join_absorb ha hb
  · intro e n hn h
    rw [← e]
    exact join_in ha hb hn (.inl h)
theorem meet_eq {a b : VV} (ha : RV a) (hb : RV b) : vmeet a b = if (cmeet a.m a.r b.m b.r).2 = false then vbot else vmk (if a.lo ≤ b.lo then b.lo else a.lo, if a.hi ≤ b.hi then a.hi else b.hi) (cmeet a.m a.r b.m b.r).1 := by
  rw [← rvmeet_eq ha hb]
  unfold rvmeet imeet
  rw [vmk_iof]
theorem cm_iu {a b : VV} (ha : RV a) (hb : RV b) : IU (cmeet a.m a.r b.m b.r).1.1 ∧ IU (cmeet a.m a.r b.m b.r).1.2 := cm_in ha.inn hb.inn
theorem meet_in {a b : VV} (ha : RV a) (hb : RV b) {n : Int} (hn : IS n) (h : vin a n) (k : vin b n) : vin (vmeet a b) n := by
  have m := meet_sound hn.1 hn.2 h.2.2 k.2.2
  rw [meet_eq ha hb, if_neg (by rw [m.1]; decide)]
  have al := ha.inn.lo; have ah := ha.inn.hi; have bl := hb.inn.lo; have bh := hb.inn.hi
  have q1 := h.1; have q2 := h.2.1; have q3 := k.1; have q4 := k.2.1
  exact vin_of (ite_is bl al) (ite_is ah bh) (cm_iu ha hb) hn (by split <;> omega) (by split <;> omega) m.2
/-- A number of what is made, of a congruence that is right. -/
theorem vin_to {a b : Int} {c : Int × Int} (ha : IS a) (hb : IS b) (hc : IU c.1 ∧ IU c.2) (hr : c.1 = 0 ∨ c.2 < c.1) {n : Int} (hn : IS n) (h : vin (vmk (a, b) c) n) : a ≤ n ∧ n ≤ b ∧ chas c.1 c.2 n = true :=
  (vin_mk (x := ⟨a, b, c.1, c.2⟩) ⟨ha, hb, hc.1, hc.2⟩ hr hn).1 h
theorem cmeet_one {a b : VV} (ha : RV a) (hb : RV b) (h : (cmeet a.m a.r b.m b.r).2 ≠ false) : (cmeet a.m a.r b.m b.r).1 = (a.m, a.r) ∨ (cmeet a.m a.r b.m b.r).1 = (b.m, b.r) := by
  unfold cmeet at *
  split at h
  · exact absurd rfl h
  · rename_i q
    rw [if_neg q]
    split
    · exact .inr rfl
    · exact .inl rfl
theorem meet_join {a b : VV} (ha : RV a) (hb : RV b) {n : Int} (hn : IS n) (h : vin (vmeet a b) n) : vin (vjoin a b) n := by
  rw [meet_eq ha hb] at h
  split at h
  · exact (vin_bot h).elim
  · rename_i q
    have al := ha.inn.lo; have ah := ha.inn.hi; have bl := hb.inn.lo; have bh := hb.inn.hi
    have rt : (cmeet a.m a.r b.m b.r).1.1 = 0 ∨ (cmeet a.m a.r b.m b.r).1.2 < (cmeet a.m a.r b.m b.r).1.1 := by
      rcases cmeet_one ha hb q with e | e <;> rw [e]
      · exact ha.right
      · exact hb.right
    have v := vin_to (ite_is bl al) (ite_is ah bh) (cm_iu ha hb) rt hn h
    have v1 := v.1; have v2 := v.2.1
    have i1 : a.lo ≤ n ∧ b.lo ≤ n := by split at v1 <;> omega
    have i2 : n ≤ a.hi ∧ n ≤ b.hi := by split at v2 <;> omega
    have na : a ≠ vbot := fun e => by
      rw [e] at i1 i2
      have j1 : (1 : Int) ≤ n := i1.1
      have j2 : n ≤ 0 := i2.1
      omega
    have nb : b ≠ vbot := fun e => by
      rw [e] at i1 i2
      have j1 : (1 : Int) ≤ n := i1.2
      have j2 : n ≤ 0 := i2.2
      omega
    refine join_in ha hb hn ?_
    rcases cmeet_one ha hb q with e | e
    · rw [e] at v; exact .inl ⟨i1.1, i2.1, v.2.2⟩
    · rw [e] at v; exact .inr ⟨i1.2, i2.2, v.2.2⟩
theorem narrow_in {a b : VV} (ha : RV a) (hb : RV b) {n : Int} (hn : IS n) (h : vin a n) (k : vin b n) : vin (vnarrow a b) n := by
  have m := meet_sound hn.1 hn.2 h.2.2 k.2.2
  have na := RV.ne h
  have nb := RV.ne k
  have la := ha.le na
  have lb := hb.le nb
  unfold vnarrow
  rw [if_neg (by rw [m.1, veq_false na, veq_false nb]; simp)]
  unfold inarrow
  rw [if_neg (by omega), vmk_iof]
  have al := ha.inn.lo; have ah := ha.inn.hi; have bl := hb.inn.lo; have bh := hb.inn.hi
  have q1 := h.1; have q2 := h.2.1; have q3 := k.1; have q4 := k.2.1
  exact vin_of (ite_is bl al) (ite_is bh ah) (cm_iu ha hb) hn (by split <;> omega) (by split <;> omega) m.2
theorem widen_bot {b : VV} : vwiden vbot b = b := by unfold vwiden; rw [veq_iff.2 rfl]; rfl
theorem widen_bot' {a : VV} : vwiden a vbot = a := by
  by_cases na : a = vbot
  · rw [na]; exact widen_bot
  · unfold vwiden; rw [veq_false na, veq_iff.2 rfl]; rfl
theorem widen_eq {a b : VV} (ha : RV a) (hb : RV b) (na : a ≠ vbot) (nb : b ≠ vbot) : vwiden a b = vmk (if b.lo < a.lo then -9223372036854775808 else a.lo, if b.hi > a.hi then 9223372036854775807 else a.hi) (cjoin a.m a.r b.m b.r) := by
  unfold vwiden iwiden
  have la := ha.le na
  have lb := hb.le nb
  rw [veq_false na, veq_false nb, if_neg (by decide), if_neg (by decide), if_neg (by omega), if_neg (by omega)]
theorem join_widen {a b : VV} (ha : RV a) (hb : RV b) {n : Int} (hn : IS n) (h : vin (vjoin a b) n) : vin (vwiden a b) n := by
  by_cases na : a = vbot
  · rw [na, join_bot] at h; rw [na, widen_bot]; exact h
  by_cases nb : b = vbot
  · rw [nb, join_bot'] at h; rw [nb, widen_bot']; exact h
  have al := ha.inn.lo; have ah := ha.inn.hi; have bl := hb.inn.lo; have bh := hb.inn.hi
  rw [join_eq ha hb na nb] at h
  rw [widen_eq ha hb na nb]
  have ci := cj_iu ha hb
  have i1 : IS (if b.lo < a.lo then -9223372036854775808 else a.lo) := ite_is ⟨by decide, by decide⟩ al
  have i2 : IS (if b.hi > a.hi then 9223372036854775807 else a.hi) := ite_is ⟨by decide, by decide⟩ ah
  have v := (vin_make (x := ⟨_, _, _, _⟩) ⟨ite_is al bl, ite_is ah bh, ci.1, ci.2⟩ hn).1 h
  refine (vin_make (x := ⟨_, _, _, _⟩) ⟨i1, i2, ci.1, ci.2⟩ hn).2 ⟨?_, ?_, v.2.2⟩
  · have v1 : (if a.lo ≤ b.lo then a.lo else b.lo) ≤ n := v.1
    have n1 := hn.1
    show (if b.lo < a.lo then -9223372036854775808 else a.lo) ≤ n
    split at v1 <;> split <;> omega
  · have v1 : n ≤ (if b.hi ≤ a.hi then a.hi else b.hi) := v.2.1
    have n1 := hn.2
    show n ≤ (if b.hi > a.hi then 9223372036854775807 else a.hi)
    split at v1 <;> split <;> omega
theorem widen_in {a b : VV} (ha : RV a) (hb : RV b) {n : Int} (hn : IS n) (h : vin a n ∨ vin b n) : vin (vwiden a b) n := join_widen ha hb hn (join_in ha hb hn h)
/-- What is widened with what it has stays. -/
theorem widen_absorb {a b : VV} (ha : RV a) (hb : RV b) (h : ∀ n, IS n → vin b n → vin a n) : vwiden a b = a := by
  by_cases nb : b = vbot
  · rw [nb, widen_bot']
  have bl := h _ hb.inn.lo (hb.lo_in nb)
  have bh := h _ hb.inn.hi (hb.hi_in nb)
  have na := RV.ne bl
  rw [widen_eq ha hb na nb, cjoin_comm, cjoin_absorb hb ha nb h]
  have q1 := bl.1; have q2 := bh.2.1
  rw [if_neg (by omega), if_neg (by omega)]
  exact ha.fix
/-- What is widened time and again. -/
def wseq (a : VV) (f : Nat → VV) : Nat → VV
  | 0 => a
  | k + 1 => vwiden (vmake (wseq a f k)) (vmake (f k))
theorem wseq_in {a : VV} {f : Nat → VV} (ha : InV a) (hf : ∀ k, InV (f k)) (k : Nat) : InV (wseq a f k) := by
  induction k with
  | zero => exact ha
  | succ k ih => exact (vwiden_rv (vmake_rv ih) (vmake_rv (hf k))).inn
theorem wseq_mono {a : VV} {f : Nat → VV} (ha : InV a) (hf : ∀ k, InV (f k)) {j k : Nat} (hjk : j ≤ k) {n : Int} (hn : IS n) (h : vin (vmake (wseq a f j)) n) : vin (vmake (wseq a f k)) n := by
  induction k with
  | zero => obtain rfl : j = 0 := by omega
            exact h
  | succ k ih =>
    by_cases e : j = k + 1
    · subst e; exact h
    · have r := vwiden_rv (vmake_rv (wseq_in ha hf k)) (vmake_rv (hf k))
      show vin (vmake (vwiden (vmake (wseq a f k)) (vmake (f k)))) n
      rw [r.fix]
      exact widen_in (vmake_rv (wseq_in ha hf k)) (vmake_rv (hf k)) hn (.inl (ih (by omega)))
theorem wseq_has {a : VV} {f : Nat → VV} (ha : InV a) (hf : ∀ k, InV (f k)) {j k : Nat} (hjk : j < k) {n : Int} (hn : IS n) (h : vin (vmake (f j)) n) : vin (vmake (wseq a f k)) n := by
  refine wseq_mono ha hf (j := j + 1) hjk hn ?_
  have r := vwiden_rv (vmake_rv (wseq_in ha hf j)) (vmake_rv (hf j))
  show vin (vmake (vwiden (vmake (wseq a f j)) (vmake (f j)))) n
  rw [r.fix]
  exact widen_in (vmake_rv (wseq_in ha hf j)) (vmake_rv (hf j)) hn (.inr h)
/-! How many numbers a value has, and which are its least ones, in plain numbers. -/
/-- How many numbers a value has that is reduced. -/
def vcnt (v : VV) : Nat := if veq v vbot = true then 0 else if v.m = 0 then 1 else ((v.hi - v.lo) / v.m + 1).toNat
/-- A value's numbers, by their places. -/
def vnum (v : VV) (k : Nat) : Int := v.lo + (k : Int) * v.m
/-- Its least numbers. -/
def vsome (v : VV) (most : Nat) : List Int := (List.range (min most (vcnt v))).map (vnum v)
theorem vcnt_bot : vcnt vbot = 0 := by unfold vcnt; rw [veq_iff.2 rfl]; rfl
theorem vcnt_pos {v : VV} (h : RV v) (hb : v ≠ vbot) : 0 < vcnt v := by
  unfold vcnt
  rw [veq_false hb, if_neg (by decide)]
  split
  · decide
  · have := Int.ediv_nonneg (show 0 ≤ v.hi - v.lo by have := h.le hb; omega) h.inn.m.1
    omega
theorem vnum_in {v : VV} (h : RV v) {k : Nat} (hk : k < vcnt v) : vin v (vnum v k) := by
  have hb : v ≠ vbot := fun e => by rw [e, vcnt_bot] at hk; omega
  unfold vcnt at hk
  rw [veq_false hb, if_neg (by decide)] at hk
  unfold vnum
  by_cases h0 : v.m = 0
  · rw [if_pos h0] at hk
    obtain rfl : k = 0 := by omega
    rw [h0, Int.mul_zero, Int.add_zero]
    exact h.lo_in hb
  · rw [if_neg h0] at hk
    have pm : 0 < v.m := by have := h.inn.m.1; omega
    have e1 := Int.mul_ediv_add_emod (v.hi - v.lo) v.m
    have e2 := emod_rng (v.hi - v.lo) v.m pm
    have e3 := Int.ediv_nonneg (show 0 ≤ v.hi - v.lo by have := h.le hb; omega) h.inn.m.1
    have e4 : (k : Int) * v.m ≤ ((v.hi - v.lo) / v.m) * v.m := Int.mul_le_mul_of_nonneg_right (by omega) h.inn.m.1
    rw [Int.mul_comm ((v.hi - v.lo) / v.m)] at e4
    have e5 := Int.mul_nonneg (Int.natCast_nonneg k) h.inn.m.1
    refine ⟨by omega, by omega, chas_pos h0 ?_⟩
    rw [Int.add_mul_emod_self_right]
    exact vin_mod (h.lo_in hb) h0
theorem vnum_last {v : VV} (h : RV v) {k : Nat} (hk : k < vcnt v) : vnum v k = v.hi ↔ k + 1 = vcnt v := by
  have hb : v ≠ vbot := fun e => by rw [e, vcnt_bot] at hk; omega
  have hn := vnum_in h hk
  have hlo := h.lo_in hb
  have hhi := h.hi_in hb
  unfold vcnt at *
  rw [veq_false hb, if_neg (by decide)] at *
  unfold vnum at *
  by_cases h0 : v.m = 0
  · rw [if_pos h0] at hk ⊢
    obtain rfl : k = 0 := by omega
    have : v.lo = v.hi := by
      rcases h.way with w | ⟨w, _⟩ | ⟨_, w, _⟩
      · exact absurd w hb
      · exact w
      · omega
    rw [h0, Int.mul_zero, Int.add_zero]
    exact ⟨fun _ => rfl, fun _ => this⟩
  · rw [if_neg h0] at hk ⊢
    have pm : 0 < v.m := by have := h.inn.m.1; omega
    have e6 : (v.hi - v.lo) % v.m = 0 := by rw [Int.sub_emod, vin_mod hlo h0, vin_mod hhi h0]; simp
    have e1 := Int.mul_ediv_add_emod (v.hi - v.lo) v.m
    have e3 := Int.ediv_nonneg (show 0 ≤ v.hi - v.lo by have := h.le hb; omega) h.inn.m.1
    rw [Int.mul_comm] at e1
    generalize (v.hi - v.lo) / v.m = q at *
    constructor
    · intro e
      have : (k : Int) * v.m = q * v.m := by omega
      have := Int.eq_of_mul_eq_mul_right h0 this
      omega
    · intro e
      have : (k : Int) = q := by omega
      rw [this]; omega
theorem vnum_succ {v : VV} (h : RV v) {k : Nat} (hk : k + 1 < vcnt v) : vnum v (k + 1) = vnum v k + v.m ∧ vnum v k < vnum v (k + 1) := by
  have hb : v ≠ vbot := fun e => by rw [e, vcnt_bot] at hk; omega
  have pm : 0 < v.m := by
    unfold vcnt at hk
    rw [veq_false hb, if_neg (by decide)] at hk
    have := h.inn.m.1
    split at hk
    · omega
    · omega
  unfold vnum
  have : ((k + 1 : Nat) : Int) * v.m = (k : Int) * v.m + v.m := by rw [Int.natCast_add, Int.add_mul]; omega
  rw [this]
  constructor <;> omega
theorem vsome_len (v : VV) (most : Nat) : (vsome v most).length = min most (vcnt v) := by unfold vsome; simp
theorem vsome_get (v : VV) (most : Nat) (i : Nat) (h : i < (vsome v most).length) : (vsome v most).getD i 0 = vnum v i := by
  have h2 : i < min most (vcnt v) := by rw [← vsome_len]; exact h
  have : (vsome v most)[i]? = some (vnum v i) := by unfold vsome; rw [List.getElem?_map, List.getElem?_range h2]; rfl
  simp [List.getD, this]
theorem vcard_eq {v : VV} (h : RV v) (hb : v ≠ vbot) : vcard v = if v.m = 0 then (1, true) else if (v.hi - v.lo) / v.m = 18446744073709551615 then (0, false) else ((v.hi - v.lo) / v.m + 1, true) := by
  have le := h.le hb
  have hl := h.inn.lo
  have hh := h.inn.hi
  have c1 : cleast v.m v.r v.lo = (v.lo, true) := by
    unfold cleast
    rcases h.way with w | ⟨w1, w2, w3⟩ | ⟨w1, w2, w3, w4, w5, w6⟩
    · exact absurd w hb
    · rw [if_pos w2, w3, sg_us v.lo hl.1 hl.2, if_neg (by omega)]
    · have e : (v.r - v.lo) % v.m = 0 := by rw [Int.sub_emod, Int.emod_eq_of_lt w3 w4, w5]; simp
      rw [if_neg (by omega), e, if_neg (by omega), Int.add_zero]
  have c2 : cgreat v.m v.r v.hi = (v.hi, true) := by
    unfold cgreat
    rcases h.way with w | ⟨w1, w2, w3⟩ | ⟨w1, w2, w3, w4, w5, w6⟩
    · exact absurd w hb
    · rw [if_pos w2, w3, sg_us v.lo hl.1 hl.2, if_neg (by omega), w1]
    · have e : (v.hi - v.r) % v.m = 0 := by rw [Int.sub_emod, Int.emod_eq_of_lt w3 w4, w6]; simp
      rw [if_neg (by omega), e, if_neg (by omega), Int.sub_zero]
  unfold vcard cmany
  rw [c1, c2, if_neg (by simp; omega)]
theorem vcard_bot : vcard vbot = (0, true) := by decide +kernel
/-- Of at most 20: as many as there are, or 20. -/
theorem vcard_some {v : VV} (h : RV v) : ((vcard v).2 = true → (vcard v).1 ≤ 20 → ((vsome v 20).length : Int) = (vcard v).1) ∧ (((vcard v).2 = false ∨ (vcard v).1 > 20) → (vsome v 20).length = 20) := by
  rw [vsome_len]
  by_cases hb : v = vbot
  · rw [hb, vcard_bot, vcnt_bot]
    exact ⟨fun _ _ => rfl, fun q => q.elim (fun q => by cases q) fun q => absurd q (by decide)⟩
  have e3 := Int.ediv_nonneg (show 0 ≤ v.hi - v.lo by have := h.le hb; omega) h.inn.m.1
  rw [vcard_eq h hb]
  unfold vcnt
  rw [veq_false hb, if_neg (show ¬ (false = true) by decide)]
  by_cases h0 : v.m = 0
  · rw [if_pos h0, if_pos h0]
    exact ⟨fun _ _ => rfl, fun q => q.elim (fun q => by cases q) fun q => absurd q (by decide)⟩
  · rw [if_neg h0, if_neg h0]
    generalize (v.hi - v.lo) / v.m = q at *
    by_cases hq : q = 18446744073709551615
    · rw [if_pos hq]
      exact ⟨fun k => (by cases k), fun _ => by omega⟩
    · rw [if_neg hq]
      refine ⟨fun _ k => ?_, fun k => ?_⟩
      · have k : q + 1 ≤ 20 := k
        show ((min 20 (q + 1).toNat : Nat) : Int) = q + 1
        omega
      · have k : q + 1 > 20 := k.elim (fun k => by cases k) id
        omega
theorem vcard_in {v : VV} (h : RV v) : IU (vcard v).1 := by
  by_cases hb : v = vbot
  · rw [hb, vcard_bot]; exact ⟨by decide, by decide⟩
  rw [vcard_eq h hb]
  have e3 := Int.ediv_nonneg (show 0 ≤ v.hi - v.lo by have := h.le hb; omega) h.inn.m.1
  have hl := h.inn.lo
  have hh := h.inn.hi
  split
  · exact ⟨by decide, by decide⟩
  · split
    · exact ⟨by decide, by decide⟩
    · have e4 := Int.ediv_le_self v.m (show 0 ≤ v.hi - v.lo by have := h.le hb; omega)
      exact ⟨by dsimp only; omega, by dsimp only; omega⟩
end Go.Proofs.YtljhbdgoknfkcaaGreatDoor
