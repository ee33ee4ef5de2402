/- Laws of conditions, in plain numbers: what is left has what numbers; refined again, it stays. -/
import Derived.Test.YtcemohoigdninaaDoorG2
import Derived.Test.YtcemohoigdninaaDoorM2
namespace Go.Proofs.YtcemohoigdninaaDoor
open Go Go.RowKit Go.Sort
set_option linter.unusedVariables false
set_option linter.unusedSimpArgs false

theorem RV.lo_hi {x : VV} (h : RV x) (hx : x ≠ vbot) : x.lo ≤ x.hi := h.le hx
theorem vin_vmk {v : VV} (h : RV v) {a b : Int} (ha : IS a) (hb : IS b) {k : Int} (hk : IS k) : vin (vmk (iof a b) (v.m, v.r)) k ↔ a ≤ k ∧ k ≤ b ∧ chas v.m v.r k = true := by
  rw [vmk_iof]; exact vin_mkr h ha hb hk
theorem wrap_id {n : Int} (h : IS n) : IntKind.i64.wrap n = n := i64_in h.1 h.2
theorem vin_upto {v : VV} {n k : Int} {o : Bool} (h : RV v) (hn : IS n) (hk : IS k) (ho : o = true → v.lo < n) : vin (cupto v n o) k ↔ vin v k ∧ (if o then k < n else k ≤ n) := by
  have b1 := h.inn.lo
  have b2 := h.inn.hi
  unfold cupto
  split
  · rename_i hc
    have := ho hc.1
    rw [vin_vmk h b1 (wrap_is _) hk, wrap_id (n := n - 1) ⟨by omega, by omega⟩, hc.1]
    unfold vin
    simp only [if_true]
    constructor
    · rintro ⟨h1, h2, h3⟩; exact ⟨⟨h1, by omega, h3⟩, by omega⟩
    · rintro ⟨⟨h1, h2, h3⟩, h4⟩; exact ⟨h1, by omega, h3⟩
  · rename_i hc
    rw [vin_vmk h b1 (ite_is hn b2) hk]
    unfold vin
    cases o with
    | true =>
      simp only [true_and] at hc
      simp only [if_true]
      constructor
      · rintro ⟨h1, h2, h3⟩
        refine ⟨⟨h1, ?_, h3⟩, ?_⟩ <;> (split at h2 <;> omega)
      · rintro ⟨⟨h1, h2, h3⟩, h4⟩
        refine ⟨h1, ?_, h3⟩
        split <;> omega
    | false =>
      simp only [Bool.false_eq_true, if_false]
      constructor
      · rintro ⟨h1, h2, h3⟩
        refine ⟨⟨h1, ?_, h3⟩, ?_⟩ <;> (split at h2 <;> omega)
      · rintro ⟨⟨h1, h2, h3⟩, h4⟩
        refine ⟨h1, ?_, h3⟩
        split <;> omega
theorem vin_from {v : VV} {n k : Int} {o : Bool} (h : RV v) (hn : IS n) (hk : IS k) (ho : o = true → n < v.hi) : vin (cfrom v n o) k ↔ vin v k ∧ (if o then n < k else n ≤ k) := by
  have b1 := h.inn.lo
  have b2 := h.inn.hi
  unfold cfrom
  split
  · rename_i hc
    have := ho hc.1
    rw [vin_vmk h (wrap_is _) b2 hk, wrap_id (n := n + 1) ⟨by omega, by omega⟩, hc.1]
    unfold vin
    simp only [if_true]
    constructor
    · rintro ⟨h1, h2, h3⟩; exact ⟨⟨by omega, h2, h3⟩, by omega⟩
    · rintro ⟨⟨h1, h2, h3⟩, h4⟩; exact ⟨by omega, h2, h3⟩
  · rename_i hc
    rw [vin_vmk h (ite_is hn b1) b2 hk]
    unfold vin
    cases o with
    | true =>
      simp only [true_and] at hc
      simp only [if_true]
      constructor
      · rintro ⟨h1, h2, h3⟩
        refine ⟨⟨?_, h2, h3⟩, ?_⟩ <;> (split at h1 <;> omega)
      · rintro ⟨⟨h1, h2, h3⟩, h4⟩
        refine ⟨?_, h2, h3⟩
        split <;> omega
    | false =>
      simp only [Bool.false_eq_true, if_false]
      constructor
      · rintro ⟨h1, h2, h3⟩
        refine ⟨⟨?_, h2, h3⟩, ?_⟩ <;> (split at h1 <;> omega)
      · rintro ⟨⟨h1, h2, h3⟩, h4⟩
        refine ⟨?_, h2, h3⟩
        split <;> omega
theorem vin_without {v : VV} {n k : Int} (h : RV v) (hk : IS k) : vin (cwithout v n) k ↔ vin v k ∧ (k = n → n ≠ v.lo ∧ n ≠ v.hi) := by
  have b1 := h.inn.lo
  have b2 := h.inn.hi
  unfold cwithout
  split
  · rename_i hv
    rw [veq_iff.1 hv]
    exact ⟨fun q => (vin_bot q).elim, fun q => q.1⟩
  · rename_i hv
    have hle := h.le fun e => hv (veq_iff.2 e)
    split
    · rename_i h1
      constructor
      · exact fun q => (vin_bot q).elim
      · rintro ⟨q, q2⟩
        have := q.1; have := q.2.1
        have := (q2 (by omega)).1
        omega
    · split
      · rename_i h2
        rw [vin_vmk h (wrap_is _) b2 hk, wrap_id (n := n + 1) ⟨by omega, by omega⟩]
        unfold vin
        constructor
        · rintro ⟨q1, q2, q3⟩; exact ⟨⟨by omega, q2, q3⟩, fun e => by omega⟩
        · rintro ⟨⟨q1, q2, q3⟩, q4⟩
          refine ⟨?_, q2, q3⟩
          by_cases e : k = n
          · exact absurd h2.1.symm (q4 e).1
          · omega
      · split
        · rename_i h3
          rw [vin_vmk h b1 (wrap_is _) hk, wrap_id (n := n - 1) ⟨by omega, by omega⟩]
          unfold vin
          constructor
          · rintro ⟨q1, q2, q3⟩; exact ⟨⟨q1, by omega, q3⟩, fun e => by omega⟩
          · rintro ⟨⟨q1, q2, q3⟩, q4⟩
            refine ⟨q1, ?_, q3⟩
            by_cases e : k = n
            · exact absurd h3.1.symm (q4 e).2
            · omega
        · constructor
          · exact fun q => ⟨q, fun e => by omega⟩
          · exact fun q => q.1
theorem cmeet_zero {m r : Int} (h : chas m r 0 = true) : cmeet m r 0 0 = ((0, 0), true) := by
  unfold cmeet
  have hc : ccommon m r 0 0 = true := by
    by_cases hm : m = 0
    · subst hm
      have := chas_zero h
      rw [show us 0 = 0 by decide] at this
      subst this
      decide
    · unfold ccommon
      rw [if_neg hm, if_pos rfl]
      exact h
  rw [hc, if_neg (by decide)]
  by_cases hm : m = 0
  · subst hm
    have := chas_zero h
    rw [show us 0 = 0 by decide] at this
    subst this
    split <;> rfl
  · rw [if_pos]
    constructor
    · unfold cwithin; rw [if_neg hm, if_pos rfl]
    · left; unfold cwithin; rw [if_pos rfl]; exact h
theorem cmeet_zero_no {m r : Int} (hr : 0 ≤ r ∧ r ≤ 18446744073709551615) (h : ¬ chas m r 0 = true) : (cmeet m r 0 0).2 = false := by
  unfold cmeet
  have hc : ccommon m r 0 0 = false := by
    unfold ccommon
    by_cases hm : m = 0
    · rw [if_pos hm]
      unfold chas
      rw [if_pos rfl, us_sg r hr.1 hr.2]
      subst hm
      cases hb : (r == 0) with
      | false => rfl
      | true =>
        have : r = 0 := by simpa using hb
        subst this
        exact absurd (by decide) h
    · rw [if_neg hm, if_pos rfl, show sg 0 = 0 by decide]
      simpa using h
  rw [hc, if_pos rfl]
theorem vin_only {v : VV} {k : Int} (h : RV v) (hk : IS k) : vin (conly v false) k ↔ vin v 0 ∧ k = 0 := by
  have z : IS 0 := ⟨by decide, by decide⟩
  unfold conly vmeet
  simp only [Bool.false_eq_true, if_false]
  rw [show (vone 0).m = 0 from rfl, show (vone 0).r = 0 from by decide, show (vone 0).lo = 0 from rfl, show (vone 0).hi = 0 from rfl]
  by_cases hc : chas v.m v.r 0 = true
  · rw [cmeet_zero hc, if_neg (by decide), imeet_whole h.inn.lo h.inn.hi h.lohi]
    unfold imeet
    rw [vmk_iof]
    have b1 := h.inn.lo
    have b2 := h.inn.hi
    have z0 : IU 0 := ⟨by decide, by decide⟩
    have key := vin_mk (x := ⟨if v.lo ≤ 0 then 0 else v.lo, if v.hi ≤ 0 then v.hi else 0, 0, 0⟩) ⟨ite_is z b1, ite_is b2 z, z0, z0⟩ (.inl rfl) hk
    refine key.trans ?_
    unfold vin
    dsimp only
    constructor
    · rintro ⟨q1, q2, q3⟩
      have e := chas_zero q3
      have : k = 0 := us_inj hk z (by rw [e]; decide)
      subst this
      refine ⟨⟨?_, ?_, hc⟩, rfl⟩
      · split at q1 <;> omega
      · split at q2 <;> omega
    · rintro ⟨⟨q1, q2, q3⟩, rfl⟩
      refine ⟨?_, ?_, by decide⟩ <;> (split <;> omega)
  · rw [if_pos (cmeet_zero_no h.inn.r hc)]
    constructor
    · exact fun q => (vin_bot q).elim
    · exact fun q => absurd q.1.2.2 hc
theorem cwithin_sound {am ar bm br k : Int} (hr : 0 ≤ ar ∧ ar ≤ 18446744073709551615) (hk : IS k) (h : cwithin am ar bm br = true) (ha : chas am ar k = true) : chas bm br k = true := by
  unfold cwithin at h
  split at h
  · rename_i hm
    subst hm
    rw [← chas_zero ha, sg_us k hk.1 hk.2] at h
    exact h
  · split at h
    · cases h
    · rename_i h1 h2
      simp only [Bool.and_eq_true, beq_iff_eq] at h
      exact chas_pos h2 (by rw [← h.2, ← chas_mod h1 ha, Int.emod_emod_of_dvd k (Int.dvd_of_emod_eq_zero h.1)])
theorem vin_imeet {v : VV} (h : RV v) {a b c d : Int} (ha : IS a) (hb : IS b) (hc : IS c) (hd : IS d) {k : Int} (hk : IS k) : vin (vmk (imeet a b c d) (v.m, v.r)) k ↔ a ≤ k ∧ c ≤ k ∧ k ≤ b ∧ k ≤ d ∧ chas v.m v.r k = true := by
  unfold imeet
  rw [vin_vmk h (ite_is hc ha) (ite_is hb hd) hk]
  constructor
  · rintro ⟨q1, q2, q3⟩
    refine ⟨?_, ?_, ?_, ?_, q3⟩
    · split at q1 <;> omega
    · split at q1 <;> omega
    · split at q2 <;> omega
    · split at q2 <;> omega
  · rintro ⟨q1, q2, q3, q4, q5⟩
    refine ⟨?_, ?_, q5⟩ <;> (split <;> omega)
/-- What is left of two that are the same: within them, and all that is common. -/
theorem ceq_sound {a b : VV} (h : RV a) (k : RV b) {n : Int} (hn : IS n) : (vin (ceq1 a b) n → vin a n) ∧ (vin (ceq2 a b) n → vin b n) ∧ (vin a n → vin b n → vin (ceq1 a b) n ∧ vin (ceq2 a b) n) := by
  have m1 := vin_imeet h h.inn.lo h.inn.hi k.inn.lo k.inn.hi hn
  have m2 := vin_imeet k h.inn.lo h.inn.hi k.inn.lo k.inn.hi hn
  have hr := h.inn.r
  have kr := k.inn.r
  unfold ceq1 ceq2
  by_cases hc : (cmeet a.m a.r b.m b.r).2 = false
  · rw [if_pos hc, if_pos hc]
    refine ⟨fun q => (vin_bot q).elim, fun q => (vin_bot q).elim, fun q1 q2 => ?_⟩
    have := (meet_sound hn.1 hn.2 q1.2.2 q2.2.2).1
    rw [this] at hc
    cases hc
  · rw [if_neg hc, if_neg hc]
    refine ⟨fun q => ?_, fun q => ?_, fun q1 q2 => ⟨?_, ?_⟩⟩
    · split at q
      · rename_i w
        have := m2.1 q
        exact ⟨this.1, this.2.2.1, cwithin_sound kr hn w this.2.2.2.2⟩
      · have := m1.1 q
        exact ⟨this.1, this.2.2.1, this.2.2.2.2⟩
    · split at q
      · rename_i w
        have := m1.1 q
        exact ⟨this.2.1, this.2.2.2.1, cwithin_sound hr hn w this.2.2.2.2⟩
      · have := m2.1 q
        exact ⟨this.2.1, this.2.2.2.1, this.2.2.2.2⟩
    · split
      · exact m2.2 ⟨q1.1, q2.1, q1.2.1, q2.2.1, q2.2.2⟩
      · exact m1.2 ⟨q1.1, q2.1, q1.2.1, q2.2.1, q1.2.2⟩
    · split
      · exact m1.2 ⟨q1.1, q2.1, q1.2.1, q2.2.1, q1.2.2⟩
      · exact m2.2 ⟨q1.1, q2.1, q1.2.1, q2.2.1, q2.2.2⟩
theorem ne_of_vin {x : VV} {n : Int} (h : vin x n) : x ≠ vbot := RV.ne h
theorem tY_iff {a : VV} (h : RV a) : tY a = true ↔ ∃ n, IS n ∧ vin a n ∧ n ≠ 0 := by
  unfold tY
  by_cases hv : a = vbot
  · rw [veq_iff.2 hv, hv]
    constructor
    · intro q; cases q
    · rintro ⟨n, _, q, _⟩; exact (vin_bot q).elim
  · rw [veq_false hv]
    have hle := h.le hv
    simp only [Bool.not_false, Bool.true_and, Bool.or_eq_true, Bool.not_eq_true', beq_eq_false_iff_ne, ne_eq]
    constructor
    · intro q
      by_cases h0 : a.lo = 0
      · exact ⟨a.hi, h.inn.hi, h.hi_in hv, by omega⟩
      · exact ⟨a.lo, h.inn.lo, h.lo_in hv, h0⟩
    · rintro ⟨n, _, q, q0⟩
      have := q.1; have := q.2.1
      omega
theorem tN_iff {a : VV} : tN a = true ↔ vin a 0 := by
  unfold tN
  rw [Bool.and_eq_true, vhas_iff]
  constructor
  · exact fun q => q.2
  · exact fun q => ⟨by rw [veq_false (RV.ne q)]; rfl, q⟩
/-- An order that may hold. -/
def mayO (o : Bool) (a b : VV) : Prop := if o then a.lo < b.hi else a.lo ≤ b.hi
theorem lo_eq {p a : VV} (hp : RV p) (hs : ∀ k, IS k → vin p k → vin a k) (h : vin p a.lo) : p.lo = a.lo := by
  have h1 := (hs _ hp.inn.lo (hp.lo_in (RV.ne h))).1
  have h2 := h.1
  omega
theorem hi_eq {p a : VV} (hp : RV p) (hs : ∀ k, IS k → vin p k → vin a k) (h : vin p a.hi) : p.hi = a.hi := by
  have h1 := (hs _ hp.inn.hi (hp.hi_in (RV.ne h))).2.1
  have h2 := h.2.1
  omega
structure Ord (o : Bool) (a b p q : VV) : Prop where
  rp : RV p
  rq : RV q
  vp : ∀ k, IS k → (vin p k ↔ vin a k ∧ (if o then k < b.hi else k ≤ b.hi))
  vq : ∀ k, IS k → (vin q k ↔ vin b k ∧ (if o then a.lo < k else a.lo ≤ k))
  lo : p.lo = a.lo
  hi : q.hi = b.hi
  ip : vin p a.lo
  iq : vin q b.hi
theorem ord_left {o : Bool} {a b : VV} (ha : RV a) (hb : RV b) (na : a ≠ vbot) (nb : b ≠ vbot) (hm : mayO o a b) : Ord o a b (cupto a b.hi o) (cfrom b a.lo o) := by
  have ho : o = true → a.lo < b.hi := fun e => by subst e; exact hm
  have rp := cupto_rv (o := o) ha hb.inn.hi
  have rq := cfrom_rv (o := o) hb ha.inn.lo
  have vp : ∀ k, IS k → (vin (cupto a b.hi o) k ↔ vin a k ∧ (if o then k < b.hi else k ≤ b.hi)) := fun k hk => vin_upto ha hb.inn.hi hk ho
  have vq : ∀ k, IS k → (vin (cfrom b a.lo o) k ↔ vin b k ∧ (if o then a.lo < k else a.lo ≤ k)) := fun k hk => vin_from hb ha.inn.lo hk ho
  have i1 := (vp _ ha.inn.lo).2 ⟨ha.lo_in na, hm⟩
  have i2 := (vq _ hb.inn.hi).2 ⟨hb.hi_in nb, hm⟩
  exact ⟨rp, rq, vp, vq, lo_eq rp (fun k hk q => ((vp k hk).1 q).1) i1, hi_eq rq (fun k hk q => ((vq k hk).1 q).1) i2, i1, i2⟩
theorem Ord.again {o : Bool} {a b p q : VV} (h : Ord o a b p q) (hm : mayO o a b) : mayO o p q ∧ cupto p q.hi o = p ∧ cfrom q p.lo o = q := by
  have hm' : mayO o p q := by unfold mayO; rw [h.lo, h.hi]; exact hm
  have k := ord_left h.rp h.rq (RV.ne h.ip) (RV.ne h.iq) hm'
  refine ⟨hm', k.rp.ext h.rp fun n hn => ?_, k.rq.ext h.rq fun n hn => ?_⟩
  · rw [k.vp n hn, h.vp n hn, h.hi]
    exact ⟨fun q => q.1, fun q => ⟨q, q.2⟩⟩
  · rw [k.vq n hn, h.vq n hn, h.lo]
    exact ⟨fun q => q.1, fun q => ⟨q, q.2⟩⟩
/-- An operator that may be true. -/
def mayL (op : Int) (a b : VV) : Prop :=
  if op = 4 then mayO true a b else if op = 5 then mayO false a b else if op = 6 then mayO true b a else if op = 7 then mayO false b a
  else if op = 2 then ceq1 a b ≠ vbot ∧ ceq2 a b ≠ vbot else if op = 3 then calike a b = false else if op = 1 then tY a = true ∧ tY b = true else True
/-- .. of numbers. -/
def relL (op x y : Int) : Prop :=
  if op = 4 then x < y else if op = 5 then x ≤ y else if op = 6 then y < x else if op = 7 then y ≤ x
  else if op = 2 then x = y else if op = 3 then x ≠ y else if op = 1 then x ≠ 0 ∧ y ≠ 0 else True
structure Left (op : Int) (a b p q : VV) : Prop where
  rp : RV p
  rq : RV q
  sp : ∀ k, IS k → vin p k → vin a k
  sq : ∀ k, IS k → vin q k → vin b k
  np : p ≠ vbot
  nq : q ≠ vbot
  snd : ∀ x y, IS x → IS y → vin a x → vin b y → relL op x y → vin p x ∧ vin q y
  again : op ≠ 2 → op ≠ 3 → mayL op p q ∧ cleft op p q = (p, q)
theorem without_two {a : VV} {n : Int} (ha : RV a) (na : a ≠ vbot) (h : a.lo = a.hi → a.lo ≠ n) : cwithout a n ≠ vbot := by
  by_cases e : a.lo = n
  · have : a.hi ≠ n := fun e2 => h (by omega) e
    exact RV.ne ((vin_without ha ha.inn.hi).2 ⟨ha.hi_in na, fun e3 => absurd e3 this⟩)
  · exact RV.ne ((vin_without ha ha.inn.lo).2 ⟨ha.lo_in na, fun e3 => absurd e3 e⟩)
theorem without_again {a : VV} (ha : RV a) {n : Int} (hn : IS n) : cwithout (cwithout a n) n = cwithout a n := by
  have hr := cwithout_rv (n := n) ha
  refine (cwithout_rv hr).ext hr fun k hk => ?_
  rw [vin_without hr hk]
  constructor
  · exact fun q => q.1
  · refine fun q => ⟨q, fun e => ?_⟩
    subst e
    have h1 := (vin_without ha hk).1 q
    have h2 := h1.2 rfl
    have hne := RV.ne q
    have l1 := (vin_without ha hr.inn.lo).1 (hr.lo_in hne)
    have l2 := (vin_without ha hr.inn.hi).1 (hr.hi_in hne)
    have m1 := h1.1.1
    have m2 := h1.1.2.1
    have t1 : vin (cwithout a k) a.lo := (vin_without ha ha.inn.lo).2 ⟨ha.lo_in (RV.ne h1.1), fun e => absurd e.symm h2.1⟩
    have t2 : vin (cwithout a k) a.hi := (vin_without ha ha.inn.hi).2 ⟨ha.hi_in (RV.ne h1.1), fun e => absurd e.symm h2.2⟩
    have := t1.1
    have := t2.2.1
    have := h2.1
    have := h2.2
    exact ⟨by omega, by omega⟩
theorem left_law {op : Int} {a b : VV} (ha : RV a) (hb : RV b) (na : a ≠ vbot) (nb : b ≠ vbot) (hm : mayL op a b) : Left op a b (cleft op a b).1 (cleft op a b).2 := by
  have z : IS 0 := ⟨by decide, by decide⟩
  have rv := cleft_rv (op := op) ha hb
  by_cases h4 : op = 4
  · subst h4
    have O := ord_left ha hb na nb (show mayO true a b from hm)
    refine ⟨rv.1, rv.2, fun k hk q => ((O.vp k hk).1 q).1, fun k hk q => ((O.vq k hk).1 q).1, RV.ne O.ip, RV.ne O.iq, fun x y hx hy vx vy r => ?_, fun _ _ => ?_⟩
    · have r : x < y := r
      exact ⟨(O.vp x hx).2 ⟨vx, show x < b.hi by have := vy.2.1; omega⟩, (O.vq y hy).2 ⟨vy, show a.lo < y by have := vx.1; omega⟩⟩
    · have A := O.again (show mayO true a b from hm)
      exact ⟨A.1, Prod.ext A.2.1 A.2.2⟩
  by_cases h5 : op = 5
  · subst h5
    have O := ord_left ha hb na nb (show mayO false a b from hm)
    refine ⟨rv.1, rv.2, fun k hk q => ((O.vp k hk).1 q).1, fun k hk q => ((O.vq k hk).1 q).1, RV.ne O.ip, RV.ne O.iq, fun x y hx hy vx vy r => ?_, fun _ _ => ?_⟩
    · have r : x ≤ y := r
      exact ⟨(O.vp x hx).2 ⟨vx, show x ≤ b.hi by have := vy.2.1; omega⟩, (O.vq y hy).2 ⟨vy, show a.lo ≤ y by have := vx.1; omega⟩⟩
    · have A := O.again (show mayO false a b from hm)
      exact ⟨A.1, Prod.ext A.2.1 A.2.2⟩
  by_cases h6 : op = 6
  · subst h6
    have O := ord_left hb ha nb na (show mayO true b a from hm)
    refine ⟨rv.1, rv.2, fun k hk q => ((O.vq k hk).1 q).1, fun k hk q => ((O.vp k hk).1 q).1, RV.ne O.iq, RV.ne O.ip, fun x y hx hy vx vy r => ?_, fun _ _ => ?_⟩
    · have r : y < x := r
      exact ⟨(O.vq x hx).2 ⟨vx, show b.lo < x by have := vy.1; omega⟩, (O.vp y hy).2 ⟨vy, show y < a.hi by have := vx.2.1; omega⟩⟩
    · have A := O.again (show mayO true b a from hm)
      exact ⟨A.1, Prod.ext A.2.2 A.2.1⟩
  by_cases h7 : op = 7
  · subst h7
    have O := ord_left hb ha nb na (show mayO false b a from hm)
    refine ⟨rv.1, rv.2, fun k hk q => ((O.vq k hk).1 q).1, fun k hk q => ((O.vp k hk).1 q).1, RV.ne O.iq, RV.ne O.ip, fun x y hx hy vx vy r => ?_, fun _ _ => ?_⟩
    · have r : y ≤ x := r
      exact ⟨(O.vq x hx).2 ⟨vx, show b.lo ≤ x by have := vy.1; omega⟩, (O.vp y hy).2 ⟨vy, show y ≤ a.hi by have := vx.2.1; omega⟩⟩
    · have A := O.again (show mayO false b a from hm)
      exact ⟨A.1, Prod.ext A.2.2 A.2.1⟩
  by_cases h2 : op = 2
  · subst h2
    refine ⟨rv.1, rv.2, fun k hk => (ceq_sound ha hb hk).1, fun k hk => (ceq_sound ha hb hk).2.1, hm.1, hm.2, fun x y hx hy vx vy r => ?_, fun e => absurd rfl e⟩
    have r : x = y := r
    subst r
    exact (ceq_sound ha hb hx).2.2 vx vy
  by_cases h3 : op = 3
  · subst h3
    have hm : calike a b = false := hm
    have hal : a.lo = a.hi → b.lo = b.hi → a.lo ≠ b.lo := fun e1 e2 e3 => by
      unfold calike at hm
      rw [e3] at hm
      simp [← e1, ← e2] at hm
      omega
    have e1 : (cleft 3 a b).1 = if b.lo = b.hi then cwithout a b.lo else a := rfl
    have e2 : (cleft 3 a b).2 = if a.lo = a.hi then cwithout b a.lo else b := rfl
    rw [e1, e2] at *
    refine ⟨rv.1, rv.2, fun k hk q => ?_, fun k hk q => ?_, ?_, ?_, fun x y hx hy vx vy r => ⟨?_, ?_⟩, fun _ e => absurd rfl e⟩
    · split at q
      · exact ((vin_without ha hk).1 q).1
      · exact q
    · split at q
      · exact ((vin_without hb hk).1 q).1
      · exact q
    · split
      · rename_i e
        exact without_two ha na fun e' => hal e' e
      · exact na
    · split
      · rename_i e
        exact without_two hb nb fun e' => fun e3 => hal e e' e3.symm
      · exact nb
    · have r : x ≠ y := r
      split
      · rename_i e
        have := vy.1; have := vy.2.1
        exact (vin_without ha hx).2 ⟨vx, fun e' => absurd e' (by omega)⟩
      · exact vx
    · have r : x ≠ y := r
      split
      · rename_i e
        have := vx.1; have := vx.2.1
        exact (vin_without hb hy).2 ⟨vy, fun e' => absurd e' (by omega)⟩
      · exact vy
  by_cases h1 : op = 1
  · subst h1
    have hm : tY a = true ∧ tY b = true := hm
    obtain ⟨x, hx, vx, x0⟩ := (tY_iff ha).1 hm.1
    obtain ⟨y, hy, vy, y0⟩ := (tY_iff hb).1 hm.2
    have wx := (vin_without (n := 0) ha hx).2 ⟨vx, fun e => absurd e x0⟩
    have wy := (vin_without (n := 0) hb hy).2 ⟨vy, fun e => absurd e y0⟩
    refine ⟨rv.1, rv.2, fun k hk q => ((vin_without (n := 0) ha hk).1 q).1, fun k hk q => ((vin_without (n := 0) hb hk).1 q).1, RV.ne wx, RV.ne wy, fun x y hx hy vx vy r => ?_, fun _ _ => ⟨?_, ?_⟩⟩
    · have r : x ≠ 0 ∧ y ≠ 0 := r
      exact ⟨(vin_without ha hx).2 ⟨vx, fun e => absurd e r.1⟩, (vin_without hb hy).2 ⟨vy, fun e => absurd e r.2⟩⟩
    · exact ⟨(tY_iff rv.1).2 ⟨x, hx, wx, x0⟩, (tY_iff rv.2).2 ⟨y, hy, wy, y0⟩⟩
    · exact Prod.ext (without_again ha z) (without_again hb z)
  · have e : ∀ p q, cleft op p q = (p, q) := fun p q => by unfold cleft; simp only [h1, h2, h3, h4, h5, h6, h7, if_false]
    have em : ∀ p q, mayL op p q := fun p q => by unfold mayL; simp only [h1, h2, h3, h4, h5, h6, h7, if_false]
    rw [e]
    exact ⟨ha, hb, fun _ _ q => q, fun _ _ q => q, na, nb, fun _ _ _ _ q q' _ => ⟨q, q'⟩, fun _ _ => ⟨em _ _, e _ _⟩⟩
end Go.Proofs.YtcemohoigdninaaDoor
