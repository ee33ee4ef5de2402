/- Laws of conditions, in plain numbers: what is left has what numbers; refined again, it stays. -/
import Derived.Test.YtljhbdgoknfkcaaGreatDoorG1
import Derived.Test.YtljhbdgoknfkcaaGreatDoorM4
import Derived.Test.YtljhbdgoknfkcaaGreatDoorG5
namespace Go.Proofs.YtljhbdgoknfkcaaGreatDoor
open Go Go.RowKit Go.Sort
set_option linter.unusedVariables false
set_option linter.unusedSimpArgs false

theorem RV.lo_hi {x : VV} (h : RV x) (hx : x ≠ vbot) : x.lo ≤ x.hi := h.le hx
theorem vin_vmk {v : VV} (h : RV v) {a b : Int} (ha : IS a) (hb : IS b) {k : Int} (hk : IS k) : vin (vmk (iof a b) (v.m, v.r)) k ↔ a ≤ k ∧ k ≤ b ∧ chas v.m v.r k = true := by
  rw [vmk_iof]; exact vin_mkr h ha hb hk
theorem wrap_id {n : Int} (h : IS n) : IntKind.i64.wrap n = n := i64_in h.1 h.2
theorem vin_upto {v : VV} {n k : Int} {o : Bool} (h : RV v) (hn : IS n) (hk : IS k) (ho : o = true → v.lo < n) : vin (cupto v n o) k ↔ vin v k ∧ (if o then k < n else k ≤ n) := by
  have b1 := h.inn.lo
  have b2 := h.inn.hi
  unfold cupto
  split
  · rename_i hc
    have := ho hc.1
    rw [vin_vmk h b1 (wrap_is _) hk, wrap_id (n := n - 1) ⟨by omega, by omega⟩, hc.1]
    unfold vin
    simp only [if_true]
    constructor
    · rintro ⟨h1, h2, h3⟩; exact ⟨⟨h1, by omega, h3⟩, by omega⟩
    · rintro ⟨⟨h1, h2, h3⟩, h4⟩; exact ⟨h1, by omega, h3⟩
  · rename_i hc
    rw [vin_vmk h b1 (ite_is hn b2) hk]
    unfold vin
    cases o with
    | true =>
      simp only [true_and] at hc
      simp only [if_true]
      constructor
      · rintro ⟨h1, h2, h3⟩
        refine ⟨⟨h1, ?_, h3⟩, ?_⟩ <;> (split at h2 <;> omega)
      · rintro ⟨⟨h1, h2, h3⟩, h4⟩
        refine ⟨h1, ?_, h3⟩
        split <;> omega
    | false =>
      simp only [Bool.false_eq_true, if_false]
      constructor
      · rintro ⟨h1, h2, h3⟩
        refine ⟨⟨h1, ?_, h3⟩, ?_⟩ <;> (split at h2 <;> omega)
      · rintro ⟨⟨h1, h2, h3⟩, h4⟩
        refine ⟨h1, ?_, h3⟩
        split <;> omega
theorem vin_from {v : VV} {n k : Int} {o : Bool} (h : RV v) (hn : IS n) (hk : IS k) (ho : o = true → n < v.hi) : vin (cfrom v n o) k ↔ vin v k ∧ (if o then n < k else n ≤ k) := by
  have b1 := h.inn.lo
  have b2 := h.inn.hi
  unfold cfrom
  split
  · rename_i hc
    have := ho hc.1
    rw [vin_vmk h (wrap_is _) b2 hk, wrap_id (n := n + 1) ⟨by omega, by omega⟩, hc.1]
    unfold vin
    simp only [if_true]
    constructor
    · rintro ⟨h1, h2, h3⟩; exact ⟨⟨by omega, h2, h3⟩, by omega⟩
    · rintro ⟨⟨h1, h2, h3⟩, h4⟩; exact ⟨by omega, h2, h3⟩
  · rename_i hc
    rw [vin_vmk h (ite_is hn b1) b2 hk]
    unfold vin
    cases o with
    | true =>
      simp only [true_and] at hc
      simp only [if_true]
      constructor
      · rintro ⟨h1, h2, h3⟩
        refine ⟨⟨?_, h2, h3⟩, ?_⟩ <;> (split at h1 <;> omega)
      · rintro ⟨⟨h1, h2, h3⟩, h4⟩
        refine ⟨?_, h2, h3⟩
        split <;> omega
    | false =>
      simp only [Bool.false_eq_true, if_false]
      constructor
      · rintro ⟨h1, h2, h3⟩
        refine ⟨⟨?_, h2, h3⟩, ?_⟩ <;> (split at h1 <;> omega)
      · rintro ⟨⟨h1, h2, h3⟩, h4⟩
        refine ⟨?_, h2, h3⟩
        split <;> omega
theorem vin_without {v : VV} {n k : Int} (h : RV v) (hk : IS k) : vin (cwithout v n) k ↔ vin v k ∧ (k = n → n ≠ v.lo ∧ n ≠ v.hi) := by
  have b1 := h.inn.lo
  have b2 := h.inn.hi
  unfold cwithout
  split
  · rename_i hv
    rw [veq_iff.1 hv]
    exact ⟨fun q => (vin_bot q).elim, fun q => q.1⟩
  · rename_i hv
    have hle := h.le fun e => hv (veq_iff.2 e)
    split
    · rename_i h1
      constructor
      · exact fun q => (vin_bot q).elim
      · rintro ⟨q, q2⟩
        have := q.1; have := q.2.1
        have := (q2 (by omega)).1
        omega
    · split
      · rename_i h2
        rw [vin_vmk h (wrap_is _) b2 hk, wrap_id (n := n + 1) ⟨by omega, by omega⟩]
        unfold vin
        constructor
        · rintro ⟨q1, q2, q3⟩; exact ⟨⟨by omega, q2, q3⟩, fun e => by omega⟩
        · rintro ⟨⟨q1, q2, q3⟩, q4⟩
          refine ⟨?_, q2, q3⟩
          by_cases e : k = n
          · exact absurd h2.1.symm (q4 e).1
          · omega
      · split
        · rename_i h3
          rw [vin_vmk h b1 (wrap_is _) hk, wrap_id (n := n - 1) ⟨by omega, by omega⟩]
          unfold vin
          constructor
          · rintro ⟨q1, q2, q3⟩; exact ⟨⟨q1, by omega, q3⟩, fun e => by omega⟩
          · rintro ⟨⟨q1, q2, q3⟩, q4⟩
            refine ⟨q1, ?_, q3⟩
            by_cases e : k = n
            · exact absurd h3.1.symm (q4 e).2
            · omega
        · constructor
          · exact fun q => ⟨q, fun e => by omega⟩
          · exact fun q => q.1
theorem cmeet_zero {m r : Int} (h : chas m r 0 = true) : cmeet m r 0 0 = ((0, 0), true) := by
  unfold cmeet
  have hc : ccommon m r 0 0 = true := by
    by_cases hm : m = 0
    · subst hm
      have := chas_zero h
      rw [show us 0 = 0 by decide] at this
      subst this
      decide
    · unfold ccommon
      rw [if_neg hm, if_pos rfl]
      exact h
  rw [hc, if_neg (by decide)]
  by_cases hm : m = 0
  · subst hm
    have := chas_zero h
    rw [show us 0 = 0 by decide] at this
    subst this
    split <;> rfl
  · rw [if_pos]
    constructor
    · unfold cwithin; rw [if_neg hm, if_pos rfl]
    · left; unfold cwithin; rw [if_pos rfl]; exact h
theorem cmeet_zero_no {m r : Int} (hr : 0 ≤ r ∧ r ≤ 18446744073709551615) (h : ¬ chas m r 0 = true) : (cmeet m r 0 0).2 = false := by
  unfold cmeet
  have hc : ccommon m r 0 0 = false := by
    unfold ccommon
    by_cases hm : m = 0
    · rw [if_pos hm]
      unfold chas
      rw [if_pos rfl, us_sg r hr.1 hr.2]
      subst hm
      cases hb : (r == 0) with
      | false => rfl
      | true =>
        have : r = 0 := by simpa using hb
        subst this
        exact absurd (by decide) h
    · rw [if_neg hm, if_pos rfl, show sg 0 = 0 by decide]
      simpa using h
  rw [hc, if_pos rfl]
theorem vin_only {v : VV} {k : Int} (h : RV v) (hk : IS k) : vin (conly v false) k ↔ vin v 0 ∧ k = 0 := by
  have z : IS 0 := ⟨by decide, by decide⟩
  unfold conly vmeet
  simp only [Bool.false_eq_true, if_false]
  rw [show (vone 0).m = 0 from rfl, show (vone 0).r = 0 from by decide, show (vone 0).lo = 0 from rfl, show (vone 0).hi = 0 from rfl]
  by_cases hc : chas v.m v.r 0 = true
  · rw [cmeet_zero hc, if_neg (by decide), imeet_whole h.inn.lo h.inn.hi h.lohi]
    unfold imeet
    rw [vmk_iof]
    have b1 := h.inn.lo
    have b2 := h.inn.hi
    have z0 : IU 0 := ⟨by decide, by decide⟩
    have key := vin_mk (x := ⟨if v.lo ≤ 0 then 0 else v.lo, if v.hi ≤ 0 then v.hi else 0, 0, 0⟩) ⟨ite_is z b1, ite_is b2 z, z0, z0⟩ (.inl rfl) hk
    refine key.trans ?_
    unfold vin
    dsimp only
    constructor
    · rintro ⟨q1, q2, q3⟩
      have e := chas_zero q3
      have : k = 0 := us_inj hk z (by rw [e]; decide)
      subst this
      refine ⟨⟨?_, ?_, hc⟩, rfl⟩
      · split at q1 <;> omega
      · split at q2 <;> omega
    · rintro ⟨⟨q1, q2, q3⟩, rfl⟩
      refine ⟨?_, ?_, by decide⟩ <;> (split <;> omega)
  · rw [if_pos (cmeet_zero_no h.inn.r hc)]
    constructor
    · exact fun q => (vin_bot q).elim
    · exact fun q => absurd q.1.2.2 hc
theorem cwithin_sound {am ar bm br k : Int} (hr : 0 ≤ ar ∧ ar ≤ 18446744073709551615) (hk : IS k) (h : cwithin am ar bm br = true) (ha : chas am ar k = true) : chas bm br k = true := by
  unfold cwithin at h
  split at h
  · rename_i hm
    subst hm
    rw [← chas_zero ha, sg_us k hk.1 hk.2] at h
    exact h
  · split at h
    · cases h
    · rename_i h1 h2
      simp only [Bool.and_eq_true, beq_iff_eq] at h
      exact chas_pos h2 (by rw [← h.2, ← chas_mod h1 ha, Int.emod_emod_of_dvd k (Int.dvd_of_emod_eq_zero h.1)])
theorem vin_imeet {v : VV} (h : RV v) {a b c d : Int} (ha : IS a) (hb : IS b) (hc : IS c) (hd : IS d) {k : Int} (hk : IS k) : vin (vmk (imeet a b c d) (v.m, v.r)) k ↔ a ≤ k ∧ c ≤ k ∧ k ≤ b ∧ k ≤ d ∧ chas v.m v.r k = true := by
  unfold imeet
  rw [vin_vmk h (ite_is hc ha) (ite_is hb hd) hk]
  constructor
  · rintro ⟨q1, q2, q3⟩
    refine ⟨?_, ?_, ?_, ?_, q3⟩
    · split at q1 <;> omega
    · split at q1 <;> omega
    · split at q2 <;> omega
    · split at q2 <;> omega
  · rintro ⟨q1, q2, q3, q4, q5⟩
    refine ⟨?_, ?_, q5⟩ <;> (split <;> omega)
/-- What is left of two that are the same: within them, and all that is common. -/
theorem ceq_sound {a b : VV} (h : RV a) (k : RV b) {n : Int} (hn : IS n) : (vin (ceq1 a b) n → vin a n) ∧ (vin (ceq2 a b) n → vin b n) ∧ (vin a n → vin b n → vin (ceq1 a b) n ∧ vin (ceq2 a b) n) := by
  have m1 := vin_imeet h h.inn.lo h.inn.hi k.inn.lo k.inn.hi hn
  have m2 := vin_imeet k h.inn.lo h.inn.hi k.inn.lo k.inn.hi hn
  have hr := h.inn.r
  have kr := k.inn.r
  unfold ceq1 ceq2
  by_cases hc : (cmeet a.m a.r b.m b.r).2 = false
  · rw [if_pos hc, if_pos hc]
    refine ⟨fun q => (vin_bot q).elim, fun q => (vin_bot q).elim, fun q1 q2 => ?_⟩
    have := (meet_sound hn.1 hn.2 q1.2.2 q2.2.2).1
    rw [this] at hc
    cases hc
  · rw [if_neg hc, if_neg hc]
    refine ⟨fun q => ?_, fun q => ?_, fun q1 q2 => ⟨?_, ?_⟩⟩
    · split at q
      · rename_i w
        have := m2.1 q
        exact ⟨this.1, this.2.2.1, cwithin_sound kr hn w this.2.2.2.2⟩
      · have := m1.1 q
        exact ⟨this.1, this.2.2.1, this.2.2.2.2⟩
    · split at q
      · rename_i w
        have := m1.1 q
        exact ⟨this.2.1, this.2.2.2.1, cwithin_sound hr hn w this.2.2.2.2⟩
      · have := m2.1 q
        exact ⟨this.2.1, this.2.2.2.1, this.2.2.2.2⟩
    · split
      · exact m2.2 ⟨q1.1, q2.1, q1.2.1, q2.2.1, q2.2.2⟩
      · exact m1.2 ⟨q1.1, q2.1, q1.2.1, q2.2.1, q1.2.2⟩
    · split
      · exact m1.2 ⟨q1.1, q2.1, q1.2.1, q2.2.1, q1.2.2⟩
      · exact m2.2 ⟨q1.1, q2.1, q1.2.1, q2.2.1, q2.2.2⟩
theorem ne_of_vin {x : VV} {n : Int} (h : vin x n) : x ≠ vbot := RV.ne h
theorem tY_iff {a : VV} (h : RV a) : tY a = true ↔ ∃ n, IS n ∧ vin a n ∧ n ≠ 0 := by
  unfold tY
  by_cases hv : a = vbot
  · rw [veq_iff.2 hv, hv]
    constructor
    · intro q; cases q
    · rintro ⟨n, _, q, _⟩; exact (vin_bot q).elim
  · rw [veq_false hv]
    have hle := h.le hv
    simp only [Bool.not_false, Bool.true_and, Bool.or_eq_true, Bool.not_eq_true', beq_eq_false_iff_ne, ne_eq]
    constructor
    · intro q
      by_cases h0 : a.lo = 0
      · exact ⟨a.hi, h.inn.hi, h.hi_in hv, by omega⟩
      · exact ⟨a.lo, h.inn.lo, h.lo_in hv, h0⟩
    · rintro ⟨n, _, q, q0⟩
      have := q.1; have := q.2.1
      omega
theorem tN_iff {a : VV} : tN a = true ↔ vin a 0 := by
  unfold tN
  rw [Bool.and_eq_true, vhas_iff]
  constructor
  · exact fun q => q.2
  · exact fun q => ⟨by rw [veq_false (RV.ne q)]; rfl, q⟩
/-- An order that may hold. -/
def mayO (o : Bool) (a b : VV) : Prop := if o then a.lo < b.hi else a.lo ≤ b.hi
theorem lo_eq {p a : VV} (hp : RV p) (hs : ∀ k, IS k → vin p k → vin a k) (h : vin p a.lo) : p.lo = a.lo := by
  have h1 := (hs _ hp.inn.lo (hp.lo_in (RV.ne h))).1
  have h2 := h.1
  omega
theorem hi_eq {p a : VV} (hp : RV p) (hs : ∀ k, IS k → vin p k → vin a k) (h : vin p a.hi) : p.hi = a.hi := by
  have h1 := (hs _ hp.inn.hi (hp.hi_in (RV.ne h))).2.1
  have h2 := h.2.1
  omega
structure Ord (o : Bool) (a b p q : VV) : Prop where
  rp : RV p
  rq : RV q
  vp : ∀ k, IS k → (vin p k ↔ vin a k ∧ (if o then k < b.hi else k ≤ b.hi))
  vq : ∀ k, IS k → (vin q k ↔ vin b k ∧ (if o then a.lo < k else a.lo ≤ k))
  lo : p.lo = a.lo
  hi : q.hi = b.hi
  ip : vin p a.lo
  iq : vin q b.hi
theorem ord_left {o : Bool} {a b : VV} (ha : RV a) (hb : RV b) (na : a ≠ vbot) (nb : b ≠ vbot) (hm : mayO o a b) : Ord o a b (cupto a b.hi o) (cfrom b a.lo o) := by
  have ho : o = true → a.lo < b.hi := fun e => by subst e; exact hm
  have rp := cupto_rv (o := o) ha hb.inn.hi
  have rq := cfrom_rv (o := o) hb ha.inn.lo
  have vp : ∀ k, IS k → (vin (cupto a b.hi o) k ↔ vin a k ∧ (if o then k < b.hi else k ≤ b.hi)) := fun k hk => vin_upto ha hb.inn.hi hk ho
  have vq : ∀ k, IS k → (vin (cfrom b a.lo o) k ↔ vin b k ∧ (if o then a.lo < k else a.lo ≤ k)) := fun k hk => vin_from hb ha.inn.lo hk ho
  have i1 := (vp _ ha.inn.lo).2 ⟨ha.lo_in na, hm⟩
  have i2 := (vq _ hb.inn.hi).2 ⟨hb.hi_in nb, hm⟩
  exact ⟨rp, rq, vp, vq, lo_eq rp (fun k hk q => ((vp k hk).1 q).1) i1, hi_eq rq (fun k hk q => ((vq k hk).1 q).1) i2, i1, i2⟩
theorem Ord.again {o : Bool} {a b p q : VV} (h : Ord o a b p q) (hm : mayO o a b) : mayO o p q ∧ cupto p q.hi o = p ∧ cfrom q p.lo o = q := by
  have hm' : mayO o p q := by unfold mayO; rw [h.lo, h.hi]; exact hm
  have k := ord_left h.rp h.rq (RV.ne h.ip) (RV.ne h.iq) hm'
  refine ⟨hm', k.rp.ext h.rp fun n hn => ?_, k.rq.ext h.rq fun n hn => ?_⟩
  · rw [k.vp n hn, h.vp n hn, h.hi]
    exact ⟨fun q => q.1, fun q => ⟨q, q.2⟩⟩
  · rw [k.vq n hn, h.vq n hn, h.lo]
    exact ⟨fun q => q.1, fun q => ⟨q, q.2⟩⟩
/-- An operator that may be true. -/
def mayL (op : Int) (a b : VV) : Prop :=
  if op = 4 then mayO true a b else if op = 5 then mayO false a b else if op = 6 then mayO true b a else if op = 7 then mayO false b a
  else if op = 2 then ceq1 a b ≠ vbot ∧ ceq2 a b ≠ vbot else if op = 3 then calike a b = false else if op = 1 then tY a = true ∧ tY b = true else True
/-- .. of numbers. -/
def relL (op x y : Int) : Prop :=
  if op = 4 then x < y else if op = 5 then x ≤ y else if op = 6 then y < x else if op = 7 then y ≤ x
  else if op = 2 then x = y else if op = 3 then x ≠ y else if op = 1 then x ≠ 0 ∧ y ≠ 0 else True
structure Left (op : Int) (a b p q : VV) : Prop where
  rp : RV p
  rq : RV q
  sp : ∀ k, IS k → vin p k → vin a k
  sq : ∀ k, IS k → vin q k → vin b k
  np : p ≠ vbot
  nq : q ≠ vbot
  snd : ∀ x y, IS x → IS y → vin a x → vin b y → relL op x y → vin p x ∧ vin q y
  again : op ≠ 2 → op ≠ 3 → mayL op p q ∧ cleft op p q = (p, q)
theorem without_two {a : VV} {n : Int} (ha : RV a) (na : a ≠ vbot) (h : a.lo = a.hi → a.lo ≠ n) : cwithout a n ≠ vbot := by
  by_cases e : a.lo = n
  · have : a.hi ≠ n := fun e2 => h (by omega) e
    exact RV.ne ((vin_without ha ha.inn.hi).2 ⟨ha.hi_in na, fun e3 => absurd e3 this⟩)
  · exact RV.ne ((vin_without ha ha.inn.lo).2 ⟨ha.lo_in na, fun e3 => absurd e3 e⟩)
theorem without_again {a : VV} (ha : RV a) {n : Int} (hn : IS n) : cwithout (cwithout a n) n = cwithout a n := by
  have hr := cwithout_rv (n := n) ha
  refine (cwithout_rv hr).ext hr fun k hk => ?_
  rw [vin_without hr hk]
  constructor
  · exact fun q => q.1
  · refine fun q => ⟨q, fun e => ?_⟩
    subst e
    have h1 := (vin_without ha hk).1 q
    have h2 := h1.2 rfl
    have hne := RV.ne q
    have l1 := (vin_without ha hr.inn.lo).1 (hr.lo_in hne)
    have l2 := (vin_without ha hr.inn.hi).1 (hr.hi_in hne)
    have m1 := h1.1.1
    have m2 := h1.1.2.1
    have t1 : vin (cwithout a k) a.lo := (vin_without ha ha.inn.lo).2 ⟨ha.lo_in (RV.ne h1.1), fun e => absurd e.symm h2.1⟩
    have t2 : vin (cwithout a k) a.hi := (vin_without ha ha.inn.hi).2 ⟨ha.hi_in (RV.ne h1.1), fun e => absurd e.symm h2.2⟩
    have := t1.1
    have := t2.2.1
    have := h2.1
    have := h2.2
    exact ⟨by omega, by omega⟩
theorem left_law {op : Int} {a b : VV} (ha : RV a) (hb : RV b) (na : a ≠ vbot) (nb : b ≠ vbot) (hm : mayL op a b) : Left op a b (cleft op a b).1 (cleft op a b).2 := by
  have z : IS 0 := ⟨by decide, by decide⟩
  have rv := cleft_rv (op := op) ha hb
  by_cases h4 : op = 4
  · subst h4
    have O := ord_left ha hb na nb (show mayO true a b from hm)
    refine ⟨rv.1, rv.2, fun k hk q => ((O.vp k hk).1 q).1, fun k hk q => ((O.vq k hk).1 q).1, RV.ne O.ip, RV.ne O.iq, fun x y hx hy vx vy r => ?_, fun _ _ => ?_⟩
    · have r : x < y := r
      exact ⟨(O.vp x hx).2 ⟨vx, show x < b.hi by have := vy.2.1; omega⟩, (O.vq y hy).2 ⟨vy, show a.lo < y by have := vx.1; omega⟩⟩
    · have A := O.again (show mayO true a b from hm)
      exact ⟨A.1, Prod.ext A.2.1 A.2.2⟩
  by_cases h5 : op = 5
  · subst h5
    have O := ord_left ha hb na nb (show mayO false a b from hm)
    refine ⟨rv.1, rv.2, fun k hk q => ((O.vp k hk).1 q).1, fun k hk q => ((O.vq k hk).1 q).1, RV.ne O.ip, RV.ne O.iq, fun x y hx hy vx vy r => ?_, fun _ _ => ?_⟩
    · have r : x ≤ y := r
      exact ⟨(O.vp x hx).2 ⟨vx, show x ≤ b.hi by have := vy.2.1; omega⟩, (O.vq y hy).2 ⟨vy, show a.lo ≤ y by have := vx.1; omega⟩⟩
    · have A := O.again (show mayO false a b from hm)
      exact ⟨A.1, Prod.ext A.2.1 A.2.2⟩
  by_cases h6 : op = 6
  · subst h6
    have O := ord_left hb ha nb na (show mayO true b a from hm)
    refine ⟨rv.1, rv.2, fun k hk q => ((O.vq k hk).1 q).1, fun k hk q => ((O.vp k hk).1 q).1, RV.ne O.iq, RV.ne O.ip, fun x y hx hy vx vy r => ?_, fun _ _ => ?_⟩
    · have r : y < x := r
      exact ⟨(O.vq x hx).2 ⟨vx, show b.lo < x by have := vy.1; omega⟩, (O.vp y hy).2 ⟨vy, show y < a.hi by have := vx.2.1; omega⟩⟩
    · have A := O.again (show mayO true b a from hm)
      exact ⟨A.1, Prod.ext A.2.2 A.2.1⟩
  by_cases h7 : op = 7
  · subst h7
    have O := ord_left hb ha nb na (show mayO false b a from hm)
    refine ⟨rv.1, rv.2, fun k hk q => ((O.vq k hk).1 q).1, fun k hk q => ((O.vp k hk).1 q).1, RV.ne O.iq, RV.ne O.ip, fun x y hx hy vx vy r => ?_, fun _ _ => ?_⟩
    · have r : y ≤ x := r
      exact ⟨(O.vq x hx).2 ⟨vx, show b.lo ≤ x by have := vy.1; omega⟩, (O.vp y hy).2 ⟨vy, show y ≤ a.hi by have := vx.2.1; omega⟩⟩
    · have A := O.again (show mayO false b a from hm)
      exact ⟨A.1, Prod.ext A.2.2 A.2.1⟩
  by_cases h2 : op = 2
  · subst h2
    refine ⟨rv.1, rv.2, fun k hk => (ceq_sound ha hb hk).1, fun k hk => (ceq_sound ha hb hk).2.1, hm.1, hm.2, fun x y hx hy vx vy r => ?_, fun e => absurd rfl e⟩
    have r : x = y := r
    subst r
    exact (ceq_sound ha hb hx).2.2 vx vy
  by_cases h3 : op = 3
  · subst h3
    have hm : calike a b = false := hm
    have hal : a.lo = a.hi → b.lo = b.hi → a.lo ≠ b.lo := fun e1 e2 e3 => by
      unfold calike at hm
      rw [e3] at hm
      simp [← e1, ← e2] at hm
      omega
    have e1 : (cleft 3 a b).1 = if b.lo = b.hi then cwithout a b.lo else a := rfl
    have e2 : (cleft 3 a b).2 = if a.lo = a.hi then cwithout b a.lo else b := rfl
    rw [e1, e2] at *
    refine ⟨rv.1, rv.2, fun k hk q => ?_, fun k hk q => ?_, ?_, ?_, fun x y hx hy vx vy r => ⟨?_, ?_⟩, fun _ e => absurd rfl e⟩
    · split at q
      · exact ((vin_without ha hk).1 q).1
      · exact q
    · split at q
      · exact ((vin_without hb hk).1 q).1
      · exact q
    · split
      · rename_i e
        exact without_two ha na fun e' => hal e' e
      · exact na
    · split
      · rename_i e
        exact without_two hb nb fun e' => fun e3 => hal e e' e3.symm
      · exact nb
    · have r : x ≠ y := r
      split
      · rename_i e
        have := vy.1; have := vy.2.1
        exact (vin_without ha hx).2 ⟨vx, fun e' => absurd e' (by omega)⟩
      · exact vx
    · have r : x ≠ y := r
      split
      · rename_i e
        have := vx.1; have := vx.2.1
        exact (vin_without hb hy).2 ⟨vy, fun e' => absurd e' (by omega)⟩
      · exact vy
  by_cases h1 : op = 1
  · subst h1
    have hm : tY a = true ∧ tY b = true := hm
    obtain ⟨x, hx, vx, x0⟩ := (tY_iff ha).1 hm.1
    obtain ⟨y, hy, vy, y0⟩ := (tY_iff hb).1 hm.2
    have wx := (vin_without (n := 0) ha hx).2 ⟨vx, fun e => absurd e x0⟩
    have wy := (vin_without (n := 0) hb hy).2 ⟨vy, fun e => absurd e y0⟩
    refine ⟨rv.1, rv.2, fun k hk q => ((vin_without (n := 0) ha hk).1 q).1, fun k hk q => ((vin_without (n := 0) hb hk).1 q).1, RV.ne wx, RV.ne wy, fun x y hx hy vx vy r => ?_, fun _ _ => ⟨?_, ?_⟩⟩
    · have r : x ≠ 0 ∧ y ≠ 0 := r
      exact ⟨(vin_without ha hx).2 ⟨vx, fun e => absurd e r.1⟩, (vin_without hb hy).2 ⟨vy, fun e => absurd e r.2⟩⟩
    · exact ⟨(tY_iff rv.1).2 ⟨x, hx, wx, x0⟩, (tY_iff rv.2).2 ⟨y, hy, wy, y0⟩⟩
    · exact Prod.ext (without_again ha z) (without_again hb z)
  · have e : ∀ p q, cleft op p q = (p, q) := fun p q => by unfold cleft; simp only [h1, h2, h3, h4, h5, h6, h7, if_false]
    have em : ∀ p q, mayL op p q := fun p q => by unfold mayL; simp only [h1, h2, h3, h4, h5, h6, h7, if_false]
    rw [e]
    exact ⟨ha, hb, fun _ _ q => q, fun _ _ q => q, na, nb, fun _ _ _ _ q q' _ => ⟨q, q'⟩, fun _ _ => ⟨em _ _, e _ _⟩⟩
/-! Laws of conditions, in plain numbers: what Refine leaves, what Do tells. -/
theorem op_cases {op : Int} (h1 : 0 ≤ op) (h2 : op ≤ 7) : op = 0 ∨ op = 1 ∨ op = 2 ∨ op = 3 ∨ op = 4 ∨ op = 5 ∨ op = 6 ∨ op = 7 := by omega
theorem not_veq {x y : VV} : (!(veq x y)) = true ↔ x ≠ y := by
  rw [Bool.not_eq_true', ← Bool.not_eq_true, veq_iff]
theorem wdo_rel {op x y : Int} (h1 : 1 ≤ op) (h2 : op ≤ 7) : wdo op x y ≠ 0 ↔ relL op x y := by
  rcases op_cases (by omega) h2 with rfl | rfl | rfl | rfl | rfl | rfl | rfl | rfl
  · omega
  all_goals simp [wdo, wcmp, relL]
theorem wdo_other {op x y : Int} (h1 : 2 ≤ op) (h2 : op ≤ 7) : wdo op x y = 0 ↔ relL (cother op) x y := by
  rcases op_cases (by omega) h2 with rfl | rfl | rfl | rfl | rfl | rfl | rfl | rfl
  · omega
  · omega
  all_goals simp [wdo, wcmp, relL, cother]
theorem may_iff {op : Int} {a b : VV} (h1 : 1 ≤ op) (h2 : op ≤ 7) : (cmay op a b).1 = true ↔ mayL op a b := by
  rcases op_cases (by omega) h2 with rfl | rfl | rfl | rfl | rfl | rfl | rfl | rfl
  · omega
  · simp [cmay, mayL]
  · show (!(veq (ceq1 a b) vbot) && !(veq (ceq2 a b) vbot)) = true ↔ ceq1 a b ≠ vbot ∧ ceq2 a b ≠ vbot
    rw [Bool.and_eq_true, not_veq, not_veq]
  · simp [cmay, mayL]
  · simp [cmay, mayL, mayO]
  · simp [cmay, mayL, mayO]
  · simp [cmay, mayL, mayO]
  · simp [cmay, mayL, mayO]
theorem may_other {op : Int} {a b : VV} (h1 : 2 ≤ op) (h2 : op ≤ 7) : (cmay op a b).2 = true ↔ mayL (cother op) a b := by
  rcases op_cases (by omega) h2 with rfl | rfl | rfl | rfl | rfl | rfl | rfl | rfl
  · omega
  · omega
  · simp [cmay, mayL, cother]
  · show (!(veq (ceq1 a b) vbot) && !(veq (ceq2 a b) vbot)) = true ↔ ceq1 a b ≠ vbot ∧ ceq2 a b ≠ vbot
    rw [Bool.and_eq_true, not_veq, not_veq]
  · simp [cmay, mayL, mayO, cother]
  · simp [cmay, mayL, mayO, cother]
  · simp [cmay, mayL, mayO, cother]
  · simp [cmay, mayL, mayO, cother]
theorem rel_may {op x y : Int} {a b : VV} (ha : RV a) (hb : RV b) (hx : IS x) (hy : IS y) (vx : vin a x) (vy : vin b y) (h1 : 1 ≤ op) (h2 : op ≤ 7) (h : relL op x y) : mayL op a b := by
  have x1 := vx.1; have x2 := vx.2.1; have y1 := vy.1; have y2 := vy.2.1
  rcases op_cases (by omega) h2 with rfl | rfl | rfl | rfl | rfl | rfl | rfl | rfl
  · omega
  · have h : x ≠ 0 ∧ y ≠ 0 := h
    exact ⟨(tY_iff ha).2 ⟨x, hx, vx, h.1⟩, (tY_iff hb).2 ⟨y, hy, vy, h.2⟩⟩
  · have h : x = y := h
    subst h
    have := (ceq_sound ha hb hx).2.2 vx vy
    exact ⟨RV.ne this.1, RV.ne this.2⟩
  · have h : x ≠ y := h
    show calike a b = false
    unfold calike
    cases hc : ((a.lo == a.hi && b.lo == b.hi) && (a.lo == b.lo)) with
    | false => rfl
    | true =>
      simp only [Bool.and_eq_true, beq_iff_eq] at hc
      omega
  · have h : x < y := h
    show a.lo < b.hi
    omega
  · have h : x ≤ y := h
    show a.lo ≤ b.hi
    omega
  · have h : y < x := h
    show b.lo < a.hi
    omega
  · have h : y ≤ x := h
    show b.lo ≤ a.hi
    omega
theorem cother_rng {op : Int} (h1 : 2 ≤ op) (h2 : op ≤ 7) : 1 ≤ cother op ∧ cother op ≤ 7 := by
  rcases op_cases (by omega) h2 with rfl | rfl | rfl | rfl | rfl | rfl | rfl | rfl
  · omega
  · omega
  all_goals decide
/-- What may be told, is. -/
theorem may_sound {op x y : Int} {a b : VV} (ha : RV a) (hb : RV b) (hx : IS x) (hy : IS y) (vx : vin a x) (vy : vin b y) (h1 : 0 ≤ op) (h2 : op ≤ 7) : (wdo op x y ≠ 0 → (cmay op a b).1 = true) ∧ (wdo op x y = 0 → (cmay op a b).2 = true) := by
  by_cases e0 : op = 0
  · subst e0
    have e : wdo 0 x y = if (!(x == 0) || !(y == 0)) then 1 else 0 := rfl
    rw [e]
    constructor
    · intro h
      show (tY a || tY b) = true
      rw [Bool.or_eq_true, tY_iff ha, tY_iff hb]
      by_cases hx0 : x = 0
      · refine .inr ⟨y, hy, vy, fun hy0 => h ?_⟩
        rw [hx0, hy0]; rfl
      · exact .inl ⟨x, hx, vx, hx0⟩
    · intro h
      show (tN a && tN b) = true
      rw [Bool.and_eq_true, tN_iff, tN_iff]
      have : x = 0 ∧ y = 0 := by
        by_cases hx0 : x = 0
        · by_cases hy0 : y = 0
          · exact ⟨hx0, hy0⟩
          · simp [hy0] at h
        · simp [hx0] at h
      rw [this.1] at vx
      rw [this.2] at vy
      exact ⟨vx, vy⟩
  by_cases e1 : op = 1
  · subst e1
    refine ⟨fun h => (may_iff (by decide) (by decide)).2 (rel_may ha hb hx hy vx vy (by decide) (by decide) ((wdo_rel (by decide) (by decide)).1 h)), fun h => ?_⟩
    show (tN a || tN b) = true
    rw [Bool.or_eq_true, tN_iff, tN_iff]
    have e : wdo 1 x y = if (!(x == 0) && !(y == 0)) then 1 else 0 := rfl
    rw [e] at h
    by_cases hx0 : x = 0
    · rw [hx0] at vx; exact .inl vx
    · by_cases hy0 : y = 0
      · rw [hy0] at vy; exact .inr vy
      · simp [hx0, hy0] at h
  · have k := cother_rng (show 2 ≤ op by omega) h2
    exact ⟨fun h => (may_iff (by omega) h2).2 (rel_may ha hb hx hy vx vy (by omega) h2 ((wdo_rel (by omega) h2).1 h)), fun h => (may_other (by omega) h2).2 (rel_may ha hb hx hy vx vy k.1 k.2 ((wdo_other (by omega) h2).1 h))⟩
/-- What Refine leaves. -/
structure Refd (op : Int) (a b : VV) (t : Bool) (c d : VV) : Prop where
  rp : RV c
  rq : RV d
  sp : ∀ k, IS k → vin c k → vin a k
  sq : ∀ k, IS k → vin d k → vin b k
  both : c = vbot ↔ d = vbot
  full : c ≠ vbot ↔ a ≠ vbot ∧ b ≠ vbot ∧ (if t then (cmay op a b).1 else (cmay op a b).2) = true
  snd : ∀ x y, IS x → IS y → vin a x → vin b y → (t = true ↔ wdo op x y ≠ 0) → vin c x ∧ vin d y
  again : op ≠ 2 → op ≠ 3 → crefine op c d t = (c, d)
theorem crefine_bot {op : Int} {t : Bool} : crefine op vbot vbot t = (vbot, vbot) := by
  unfold crefine
  rw [if_pos (.inl (veq_iff.2 rfl))]
theorem refined_bot {op : Int} {a b : VV} {t : Bool} (h : ¬ (a ≠ vbot ∧ b ≠ vbot ∧ (if t then (cmay op a b).1 else (cmay op a b).2) = true)) (hs : ∀ x y, IS x → IS y → vin a x → vin b y → (t = true ↔ wdo op x y ≠ 0) → False) : Refd op a b t vbot vbot :=
  ⟨rv_bot, rv_bot, fun _ _ q => (vin_bot q).elim, fun _ _ q => (vin_bot q).elim, Iff.rfl, ⟨fun q => absurd rfl q, fun q => absurd q h⟩, fun x y hx hy vx vy r => (hs x y hx hy vx vy r).elim, fun _ _ => crefine_bot⟩
theorem refine_law {op : Int} {a b : VV} {t : Bool} (ha : RV a) (hb : RV b) (h1 : 0 ≤ op) (h2 : op ≤ 7) : Refd op a b t (crefine op a b t).1 (crefine op a b t).2 := by
  by_cases na : a = vbot
  · have e : crefine op a b t = (vbot, vbot) := by unfold crefine; rw [if_pos (.inl (veq_iff.2 na))]
    rw [e]
    exact refined_bot (fun q => q.1 na) fun x y _ _ vx _ _ => by rw [na] at vx; exact vin_bot vx
  by_cases nb : b = vbot
  · have e : crefine op a b t = (vbot, vbot) := by unfold crefine; rw [if_pos (.inr (veq_iff.2 nb))]
    rw [e]
    exact refined_bot (fun q => q.2.1 nb) fun x y _ _ _ vy _ => by rw [nb] at vy; exact vin_bot vy
  by_cases hm : (if t then (cmay op a b).1 else (cmay op a b).2) = true
  · have e0 : crefine op a b t = if veq (cpart op a b t).1 vbot = true ∨ veq (cpart op a b t).2 vbot = true then (vbot, vbot) else cpart op a b t := by
      unfold crefine
      rw [if_neg (by rw [veq_iff, veq_iff]; exact fun q => q.elim na nb), if_neg]
      cases t <;> simp at hm ⊢ <;> exact hm
    have fin : ∀ p q, cpart op a b t = (p, q) → RV p → RV q → (∀ k, IS k → vin p k → vin a k) → (∀ k, IS k → vin q k → vin b k) → p ≠ vbot → q ≠ vbot → (∀ x y, IS x → IS y → vin a x → vin b y → (t = true ↔ wdo op x y ≠ 0) → vin p x ∧ vin q y) →
        (op ≠ 2 → op ≠ 3 → (if t then (cmay op p q).1 else (cmay op p q).2) = true ∧ cpart op p q t = (p, q)) → Refd op a b t (crefine op a b t).1 (crefine op a b t).2 := by
      intro p q ep hp hq sp sq np nq snd ag
      have e1 : crefine op a b t = (p, q) := by
        rw [e0, ep, if_neg (by rw [veq_iff, veq_iff]; exact fun z => z.elim np nq)]
      rw [e1]
      refine ⟨hp, hq, sp, sq, ⟨fun z => absurd z np, fun z => absurd z nq⟩, ⟨fun _ => ⟨na, nb, hm⟩, fun _ => np⟩, snd, fun o2 o3 => ?_⟩
      obtain ⟨g1, g2⟩ := ag o2 o3
      unfold crefine
      rw [if_neg (by rw [veq_iff, veq_iff]; exact fun z => z.elim np nq), if_neg, g2, if_neg (by rw [veq_iff, veq_iff]; exact fun z => z.elim np nq)]
      cases t <;> simp at g1 ⊢ <;> exact g1
    cases t with
    | true =>
      simp only [if_true] at hm
      by_cases e : op = 0
      · subst e
        exact fin a b rfl ha hb (fun _ _ z => z) (fun _ _ z => z) na nb (fun x y _ _ vx vy _ => ⟨vx, vy⟩) fun _ _ => ⟨hm, rfl⟩
      · have L := left_law ha hb na nb ((may_iff (by omega) h2).1 hm)
        exact fin _ _ rfl L.rp L.rq L.sp L.sq L.np L.nq (fun x y hx hy vx vy r => L.snd x y hx hy vx vy ((wdo_rel (by omega) h2).1 (r.1 rfl))) fun o2 o3 => ⟨(may_iff (by omega) h2).2 (L.again o2 o3).1, (L.again o2 o3).2⟩
    | false =>
      simp only [Bool.false_eq_true, if_false] at hm
      by_cases e : op = 0
      · subst e
        have hm : (tN a && tN b) = true := hm
        rw [Bool.and_eq_true, tN_iff, tN_iff] at hm
        have z : IS 0 := ⟨by decide, by decide⟩
        have ra := conly_rv false ha
        have rb := conly_rv false hb
        have va := (vin_only ha z).2 ⟨hm.1, rfl⟩
        have vb := (vin_only hb z).2 ⟨hm.2, rfl⟩
        have again : ∀ {v : VV}, RV v → vin v 0 → conly (conly v false) false = conly v false := fun {v} hv h0 => by
          refine (conly_rv false (conly_rv false hv)).ext (conly_rv false hv) fun k hk => ?_
          rw [vin_only (conly_rv false hv) hk, vin_only hv hk, vin_only hv z]
          exact ⟨fun q => ⟨q.1.1, q.2⟩, fun q => ⟨⟨q.1, rfl⟩, q.2⟩⟩
        refine fin (conly a false) (conly b false) rfl ra rb (fun k hk q => ?_) (fun k hk q => ?_) (RV.ne va) (RV.ne vb) (fun x y hx hy vx vy r => ?_) fun _ _ => ⟨?_, ?_⟩
        · have := (vin_only ha hk).1 q
          rw [this.2]; exact this.1
        · have := (vin_only hb hk).1 q
          rw [this.2]; exact this.1
        · have r0 : wdo 0 x y = 0 := by
            by_cases q : wdo 0 x y = 0
            · exact q
            · exact absurd (r.2 q) (by decide)
          have e : wdo 0 x y = if (!(x == 0) || !(y == 0)) then 1 else 0 := rfl
          rw [e] at r0
          have : x = 0 ∧ y = 0 := by
            by_cases hx0 : x = 0
            · by_cases hy0 : y = 0
              · exact ⟨hx0, hy0⟩
              · simp [hy0] at r0
            · simp [hx0] at r0
          rw [this.1, this.2]
          exact ⟨va, vb⟩
        · show (tN (conly a false) && tN (conly b false)) = true
          rw [Bool.and_eq_true, tN_iff, tN_iff]
          exact ⟨va, vb⟩
        · show (conly (conly a false) false, conly (conly b false) false) = _
          rw [again ha hm.1, again hb hm.2]
      · by_cases e1 : op = 1
        · subst e1
          exact fin a b rfl ha hb (fun _ _ z => z) (fun _ _ z => z) na nb (fun x y _ _ vx vy _ => ⟨vx, vy⟩) fun _ _ => ⟨hm, rfl⟩
        · have g : 2 ≤ op := by omega
          have ec : ∀ p q, cpart op p q false = cleft (cother op) p q := fun p q => by
            unfold cpart
            rw [if_neg (by decide), if_pos ⟨g, h2⟩]
          have L := left_law ha hb na nb ((may_other g h2).1 hm)
          refine fin _ _ (ec a b) L.rp L.rq L.sp L.sq L.np L.nq (fun x y hx hy vx vy r => L.snd x y hx hy vx vy ((wdo_other g h2).1 ?_)) fun o2 o3 => ?_
          · by_cases q : wdo op x y = 0
            · exact q
            · exact absurd (r.2 q) (by decide)
          · have o : cother op ≠ 2 ∧ cother op ≠ 3 := by
              rcases op_cases h1 h2 with rfl | rfl | rfl | rfl | rfl | rfl | rfl | rfl <;> first | omega | decide
            have A := L.again o.1 o.2
            exact ⟨(may_other g h2).2 A.1, by rw [ec]; exact A.2⟩
  · have e : crefine op a b t = (vbot, vbot) := by
      unfold crefine
      rw [if_neg (by rw [veq_iff, veq_iff]; exact fun q => q.elim na nb), if_pos]
      cases t <;> simp at hm ⊢ <;> exact hm
    rw [e]
    refine refined_bot (fun q => hm q.2.2) fun x y hx hy vx vy r => hm ?_
    have := may_sound ha hb hx hy vx vy h1 h2
    cases t with
    | true => exact this.1 (r.1 rfl)
    | false =>
      refine this.2 ?_
      by_cases q : wdo op x y = 0
      · exact q
      · exact absurd (r.2 q) (by decide)
/-- What Do tells. -/
structure Done (op : Int) (a b v : VV) : Prop where
  rv : RV v
  y : tY v = (!(veq a vbot) && !(veq b vbot) && (cmay op a b).1)
  n : tN v = (!(veq a vbot) && !(veq b vbot) && (cmay op a b).2)
  bot : v = vbot ↔ a = vbot ∨ b = vbot
  within : vwithin v ⟨0, 1, 1, 0⟩ = true
theorem ctold_rv (y n : Bool) : RV (ctold y n) := by
  cases y <;> cases n
  · exact rv_bot
  · exact rv_one ⟨by decide, by decide⟩
  · exact rv_one ⟨by decide, by decide⟩
  · rw [show ctold true true = vmake ⟨0, 1, 1, 0⟩ by decide +kernel]
    exact vmake_rv ⟨⟨by decide, by decide⟩, ⟨by decide, by decide⟩, ⟨by decide, by decide⟩, ⟨by decide, by decide⟩⟩
theorem ctold_tells (y n : Bool) : tY (ctold y n) = y ∧ tN (ctold y n) = n ∧ (ctold y n = vbot ↔ y = false ∧ n = false) ∧ vwithin (ctold y n) ⟨0, 1, 1, 0⟩ = true := by
  cases y <;> cases n <;> decide +kernel
theorem do_law {op : Int} {a b : VV} (ha : RV a) (hb : RV b) (h1 : 0 ≤ op) (h2 : op ≤ 7) : Done op a b (cdo op a b) := by
  by_cases na : a = vbot
  · have e : cdo op a b = vbot := by unfold cdo; rw [if_pos (.inl (veq_iff.2 na))]
    rw [e]
    exact ⟨rv_bot, by rw [veq_iff.2 na]; rfl, by rw [veq_iff.2 na]; rfl, ⟨fun _ => .inl na, fun _ => rfl⟩, by decide +kernel⟩
  by_cases nb : b = vbot
  · have e : cdo op a b = vbot := by unfold cdo; rw [if_pos (.inr (veq_iff.2 nb))]
    rw [e]
    exact ⟨rv_bot, by rw [veq_iff.2 nb, Bool.not_true, Bool.and_false]; rfl, by rw [veq_iff.2 nb, Bool.not_true, Bool.and_false]; rfl, ⟨fun _ => .inr nb, fun _ => rfl⟩, by decide +kernel⟩
  have e : cdo op a b = ctold (cmay op a b).1 (cmay op a b).2 := by
    unfold cdo
    rw [if_neg (by rw [veq_iff, veq_iff]; exact fun q => q.elim na nb), if_neg (by omega)]
  rw [e]
  obtain ⟨g1, g2, g3, g4⟩ := ctold_tells (cmay op a b).1 (cmay op a b).2
  refine ⟨ctold_rv _ _, ?_, ?_, ?_, g4⟩
  · rw [g1, veq_false na, veq_false nb]; rfl
  · rw [g2, veq_false na, veq_false nb]; rfl
  · rw [g3]
    constructor
    · rintro ⟨q1, q2⟩
      have := may_sound ha hb ha.inn.lo hb.inn.lo (ha.lo_in na) (hb.lo_in nb) h1 h2
      by_cases q : wdo op a.lo b.lo = 0
      · rw [this.2 q] at q2; cases q2
      · rw [this.1 q] at q1; cases q1
    · exact fun q => (q.elim na nb).elim
end Go.Proofs.YtljhbdgoknfkcaaGreatDoor
