/- Laws of sums and products of values, in plain numbers. -/
import Derived.Test.YtljhbdgoknfkcaaGreatDoorE3
namespace Go.Proofs.YtljhbdgoknfkcaaGreatDoor
open Go Go.RowKit Go.Sort
set_option linter.unusedVariables false
set_option linter.unusedSimpArgs false

theorem cadd_comm (am ar bm br : Int) : cadd am ar bm br = cadd bm br am ar := by
  unfold cadd
  rw [cg_comm am bm, Int.add_comm ar br, Int.add_comm (crest am ar (cg bm am))]
  by_cases h : am = 0 ∧ bm = 0
  · rw [if_pos h, if_pos ⟨h.2, h.1⟩]
  · rw [if_neg h, if_neg fun q => h ⟨q.2, q.1⟩]
theorem cmul_comm (am ar bm br : Int) : cmul am ar bm br = cmul bm br am ar := by
  unfold cmul
  rw [cg_comm am bm, Int.mul_comm (cg am ar), Int.mul_comm (crest am ar (cg bm am)), Int.mul_comm ar br]
  by_cases h : am = 0 <;> by_cases k : bm = 0 <;> simp [h, k]
theorem span_comm {op : Int} (ho : op = 13 ∨ op = 15) (a b : VV) : spanL op a b = spanL op b a ∧ spanG op a b = spanG op b a := by
  have e : ∀ x y, wex op x y = wex op y x := fun x y => by
    unfold wex
    rcases ho with rfl | rfl
    · simp [Int.add_comm]
    · simp [Int.mul_comm]
  unfold spanL spanG
  rw [e b.hi a.hi, e b.hi a.lo, e b.lo a.hi, e b.lo a.lo]
  generalize wex op a.hi b.hi = p
  generalize wex op a.hi b.lo = q
  generalize wex op a.lo b.hi = r
  generalize wex op a.lo b.lo = s
  unfold wmin wmax
  constructor <;> grind
theorem ado_comm {op : Int} (ho : op = 13 ∨ op = 15) (a b : VV) : ado op a b = ado op b a := by
  have e := span_comm ho a b
  have c : acong op a b = acong op b a := by
    unfold acong
    rcases ho with rfl | rfl
    · exact cadd_comm _ _ _ _
    · exact cmul_comm _ _ _ _
  have w : wex op a.lo b.lo = wex op b.lo a.lo := by
    unfold wex
    rcases ho with rfl | rfl
    · simp [Int.add_comm]
    · simp [Int.mul_comm]
  unfold ado
  rw [e.1, e.2, c, w]
  grind
theorem us_zero : us 0 = 0 := by decide
theorem cadd_zero {m r : Int} (hm : 0 ≤ m) (hr : IU r) (h : m = 0 ∨ r < m) : cadd m r 0 (us 0) = (m, r) := by
  rw [us_zero]
  unfold cadd
  by_cases h0 : m = 0
  · subst h0
    rw [if_pos ⟨rfl, rfl⟩, Int.add_zero, us_in r hr.1 hr.2]
  · rw [if_neg fun q => h0 q.1]
    have e : cg m 0 = m := by unfold cg; simp; omega
    rw [e]
    have e1 : crest m r m = r := by unfold crest; rw [if_neg h0]; exact Int.emod_eq_of_lt hr.1 (by omega)
    have e2 : crest 0 0 m = 0 := by unfold crest; rw [if_pos rfl, show sg 0 = 0 by decide]; simp
    rw [e1, e2, Int.add_zero, Int.emod_eq_of_lt hr.1 (by omega)]
theorem arnd_in {z : Int} (h : IS z) : arnd z = 0 := by
  have := h.1; have := h.2
  unfold arnd; omega
theorem alow_in {z : Int} (h : IS z) : alow z = z := by
  have := h.1; have := h.2
  unfold alow
  rw [sg_eq]; unfold sg; omega
/-- An operator that leaves the ends and the congruence of a value as they are leaves the value. -/
theorem ado_same {op : Int} {a b : VV} (ha : RV a) (ho : aknown op) (hb : b ≠ vbot) (hs : b.lo = b.hi) (e1 : wex op a.lo b.lo = a.lo) (e2 : wex op a.hi b.lo = a.hi) (ec : a ≠ vbot → acong op a b = (a.m, a.r)) : ado op a b = a := by
  unfold ado
  by_cases na : a = vbot
  · rw [if_pos (.inl (veq_iff.2 na)), na]
  · have le := ha.le na
    rw [if_neg (by rw [veq_iff, veq_iff]; exact fun q => q.elim na hb), if_neg (fun q => q ho)]
    by_cases hs' : a.lo = a.hi
    · rw [if_pos ⟨hs', hs⟩, e1, alow_in ha.inn.lo]
      rcases ha.way with w | ⟨w1, w2, w3⟩ | ⟨w1, _⟩
      · exact absurd w na
      · cases a
        simp only at w1 w2 w3 hs' ⊢
        subst w1 w2 w3
        rfl
      · omega
    · rw [if_neg fun q => hs' q.1]
      have el : spanL op a b = a.lo := by
        unfold spanL wmin
        rw [← hs, e1, e2]
        grind
      have eg : spanG op a b = a.hi := by
        unfold spanG wmax
        rw [← hs, e1, e2]
        grind
      rw [el, eg, ec na, arnd_in ha.inn.lo, arnd_in ha.inn.hi, alow_in ha.inn.lo, alow_in ha.inn.hi]
      simp only [ne_eq, not_true_eq_false, if_false]
      rw [vmk_iof]
      exact ha.fix
theorem ado_zero {a : VV} (ha : RV a) : ado 13 a (vone 0) = a :=
  ado_same ha (.inl rfl) (by decide) rfl (by show a.lo + 0 = a.lo; omega) (by show a.hi + 0 = a.hi; omega) fun _ => cadd_zero ha.inn.m.1 ha.inn.r ha.right
theorem csub_zero {m r : Int} (hm : 0 ≤ m) (hr : IU r) (h : m = 0 ∨ r < m) : csub m r 0 (us 0) = (m, r) := by
  rw [us_zero]
  unfold csub
  by_cases h0 : m = 0
  · subst h0
    rw [if_pos ⟨rfl, rfl⟩, Int.sub_zero, us_in r hr.1 hr.2]
  · rw [if_neg fun q => h0 q.1]
    have e : cg m 0 = m := by unfold cg; simp; omega
    rw [e]
    have e1 : crest m r m = r := by unfold crest; rw [if_neg h0]; exact Int.emod_eq_of_lt hr.1 (by omega)
    have e2 : crest 0 0 m = 0 := by unfold crest; rw [if_pos rfl, show sg 0 = 0 by decide]; simp
    rw [e1, e2, Int.sub_zero, Int.emod_eq_of_lt hr.1 (by omega)]
theorem ado_less {a : VV} (ha : RV a) : ado 14 a (vone 0) = a :=
  ado_same ha (.inr (.inl rfl)) (by decide) rfl (by show a.lo - 0 = a.lo; omega) (by show a.hi - 0 = a.hi; omega) fun _ => csub_zero ha.inn.m.1 ha.inn.r ha.right
theorem cmul_one {m r : Int} (hm : IU m) (hr : IU r) (h : m = 0 ∨ r < m) : cmul m r 0 (us 1) = (m, r) := by
  rw [show us 1 = 1 by decide]
  unfold cmul
  by_cases h0 : m = 0
  · subst h0
    rw [if_pos rfl, if_pos rfl, Int.mul_one, us_in r hr.1 hr.2]
  · rw [if_neg h0, if_pos rfl]
    unfold cscale
    have e : cabs 1 * m = m := by rw [show cabs 1 = 1 by decide]; omega
    rw [show sg 1 = 1 by decide, if_neg (by decide), e, if_pos hm.2, Int.one_mul, Int.emod_eq_of_lt hr.1 (by omega)]
theorem ado_one {a : VV} (ha : RV a) : ado 15 a (vone 1) = a :=
  ado_same ha (.inr (.inr rfl)) (by decide) rfl (by show a.lo * 1 = a.lo; omega) (by show a.hi * 1 = a.hi; omega) fun _ => cmul_one ha.inn.m ha.inn.r ha.right
theorem ado_nought {a : VV} (ha : RV a) (na : a ≠ vbot) : ado 15 a (vone 0) = vone 0 := by
  unfold ado
  have z0 : vone 0 ≠ vbot := by decide
  have w : ∀ x, wex 15 x 0 = 0 := fun x => by show x * 0 = 0; omega
  rw [if_neg (by rw [veq_iff, veq_iff]; exact fun q => q.elim na z0), if_neg (by unfold aknown; decide)]
  by_cases hs : a.lo = a.hi
  · rw [if_pos ⟨hs, rfl⟩, show (vone 0).lo = 0 from rfl, w]
    decide
  · rw [if_neg fun q => hs q.1]
    have el : spanL 15 a (vone 0) = 0 := by
      unfold spanL wmin
      rw [show (vone 0).lo = 0 from rfl, show (vone 0).hi = 0 from rfl, w, w]
      decide
    have eg : spanG 15 a (vone 0) = 0 := by
      unfold spanG wmax
      rw [show (vone 0).lo = 0 from rfl, show (vone 0).hi = 0 from rfl, w, w]
      decide
    have hm : a.m ≠ 0 := by
      rcases ha.way with q | ⟨q, _⟩ | ⟨_, q, _⟩
      · exact absurd q na
      · exact absurd q hs
      · omega
    have ec : acong 15 a (vone 0) = (0, 0) := by
      show cmul a.m a.r 0 (us 0) = (0, 0)
      rw [us_zero]
      unfold cmul
      rw [if_neg hm, if_pos rfl]
      unfold cscale
      rw [if_pos (by decide)]
    rw [el, eg, ec]
    decide +kernel
theorem ado_botL {op : Int} (b : VV) : ado op vbot b = vbot := by unfold ado; rw [if_pos (.inl (veq_iff.2 rfl))]
theorem ado_botR {op : Int} (a : VV) : ado op a vbot = vbot := by unfold ado; rw [if_pos (.inr (veq_iff.2 rfl))]
theorem arnd_zero {z : Int} (h : IW z) (e : arnd z = 0) : IS z := by
  have := h.1; have := h.2
  unfold arnd at e
  exact ⟨by omega, by omega⟩
theorem awraps_false {op : Int} {a b : VV} (ho : aknown op) (na : a ≠ vbot) (nb : b ≠ vbot) (ha : InV a) (hb : InV b) (h : awraps op a b = false) : IS (spanL op a b) ∧ IS (spanG op a b) := by
  unfold awraps at h
  rw [decide_eq_true ho, veq_false na, veq_false nb] at h
  simp only [Bool.not_false, Bool.and_true, Bool.true_and, Bool.or_eq_false_iff, Bool.not_eq_false', beq_iff_eq] at h
  have si := span_in (op := op) ha hb
  exact ⟨arnd_zero si.1 h.1, arnd_zero si.2 h.2⟩
theorem span14 {a b : VV} (h : a.lo ≤ a.hi) (k : b.lo ≤ b.hi) : spanL 14 a b = a.lo - b.hi ∧ spanG 14 a b = a.hi - b.lo := by
  unfold spanL spanG wmin wmax
  simp only [wex, show ¬ (14 : Int) = 13 by decide, if_false, if_true]
  constructor <;> grind
theorem span13 {a b : VV} (h : a.lo ≤ a.hi) (k : b.lo ≤ b.hi) : spanL 13 a b = a.lo + b.lo ∧ spanG 13 a b = a.hi + b.hi := by
  unfold spanL spanG wmin wmax
  simp only [wex, if_true]
  constructor <;> grind
/-- A value's negative. -/
def vneg (b : VV) : VV := if b.lo = b.hi then vone (-b.lo) else ⟨-b.hi, -b.lo, b.m, (-b.r) % b.m⟩
theorem neg_is {b : VV} (hb : RV b) (nb : b ≠ vbot) (hw : awraps 14 (vone 0) b = false) : ado 14 (vone 0) b = vneg b ∧ IS (-b.lo) ∧ IS (-b.hi) := by
  have z0 : vone 0 ≠ vbot := by decide
  have zr := rv_one (n := 0) ⟨by decide, by decide⟩
  have le := hb.le nb
  have ho : aknown 14 := .inr (.inl rfl)
  have sp := span14 (a := vone 0) (b := b) (Int.le_refl _) le
  have si := awraps_false ho z0 nb zr.inn hb.inn hw
  rw [sp.1, sp.2] at si
  have i1 : IS (-b.hi) := by have := si.1; rwa [show (vone 0).lo - b.hi = -b.hi by show (0 : Int) - b.hi = -b.hi; omega] at this
  have i2 : IS (-b.lo) := by have := si.2; rwa [show (vone 0).hi - b.lo = -b.lo by show (0 : Int) - b.lo = -b.lo; omega] at this
  refine ⟨?_, i2, i1⟩
  unfold ado vneg
  rw [if_neg (by rw [veq_iff, veq_iff]; exact fun q => q.elim z0 nb), if_neg (fun q => q ho), sp.1, sp.2]
  rw [show (vone 0).lo - b.hi = -b.hi by show (0 : Int) - b.hi = -b.hi; omega, show (vone 0).hi - b.lo = -b.lo by show (0 : Int) - b.lo = -b.lo; omega]
  by_cases hs : b.lo = b.hi
  · rw [if_pos ⟨rfl, hs⟩, if_pos hs, show wex 14 (vone 0).lo b.lo = -b.lo by show (0 : Int) - b.lo = -b.lo; omega, alow_in i2]
  · rw [if_neg fun q => hs q.2, if_neg hs, arnd_in i1, arnd_in i2, alow_in i1, alow_in i2]
    simp only [ne_eq, not_true_eq_false, if_false]
    rcases hb.way with q | ⟨q, _⟩ | ⟨q1, q2, q3, q4, q5, q6⟩
    · exact absurd q nb
    · exact absurd q hs
    · have ec : acong 14 (vone 0) b = (b.m, (-b.r) % b.m) := by
        show csub 0 (us 0) b.m b.r = _
        rw [us_zero]
        unfold csub
        rw [if_neg fun q => by omega]
        have e : cg 0 b.m = b.m := by unfold cg; simp; omega
        rw [e]
        have e1 : crest b.m b.r b.m = b.r := by unfold crest; rw [if_neg (by omega)]; exact Int.emod_eq_of_lt q3 q4
        have e2 : crest 0 0 b.m = 0 := by unfold crest; rw [if_pos rfl, show sg 0 = 0 by decide]; simp
        rw [e1, e2, Int.zero_sub]
      rw [ec, vmk_iof]
      have k := emod_rng (-b.r) b.m q2
      have hm := hb.inn.m
      refine RV.fix (x := ⟨-b.hi, -b.lo, b.m, (-b.r) % b.m⟩) ⟨⟨i1, i2, hm, ⟨k.1, by have := hm.2; show (-b.r) % b.m ≤ _; omega⟩⟩, .inr (.inr ⟨by show -b.hi < -b.lo; omega, q2, k.1, k.2, ?_, ?_⟩)⟩
      · show (-b.hi) % b.m = (-b.r) % b.m
        rw [← q6, ← Int.zero_sub b.hi, ← Int.zero_sub (b.hi % b.m), Int.sub_emod_emod]
      · show (-b.lo) % b.m = (-b.r) % b.m
        rw [← q5, ← Int.zero_sub b.lo, ← Int.zero_sub (b.lo % b.m), Int.sub_emod_emod]
theorem sub_mod_add {x y g : Int} : (x - y) % g = (x + (-y) % g) % g := by
  rw [Int.add_emod_emod, Int.sub_eq_add_neg]
theorem ado_eq {op : Int} {a b : VV} (ho : aknown op) (na : a ≠ vbot) (nb : b ≠ vbot) : ado op a b =
    if a.lo = a.hi ∧ b.lo = b.hi then vone (alow (wex op a.lo b.lo))
    else if arnd (spanL op a b) ≠ arnd (spanG op a b) then vmk (-9223372036854775808, 9223372036854775807) (cwrapped (acong op a b).1 (acong op a b).2)
    else vmk (iof (alow (spanL op a b)) (alow (spanG op a b))) (if arnd (spanL op a b) ≠ 0 then cwrapped (acong op a b).1 (acong op a b).2 else acong op a b) := by
  unfold ado
  rw [if_neg (by rw [veq_iff, veq_iff]; exact fun q => q.elim na nb), if_neg (fun q => q ho)]
/-- A difference is the sum with the negative, if nothing wraps. -/
theorem ado_diff {a b : VV} (ha : RV a) (hb : RV b) (na : a ≠ vbot) (nb : b ≠ vbot) (h1 : awraps 14 (vone 0) b = false) (h2 : awraps 14 a b = false) : ado 14 a b = ado 13 a (ado 14 (vone 0) b) := by
  obtain ⟨en, i1, i2⟩ := neg_is hb nb h1
  rw [en]
  have lea := ha.le na
  have leb := hb.le nb
  have ho : aknown 14 := .inr (.inl rfl)
  have sa := span14 lea leb
  have nlo : (vneg b).lo = -b.hi := by unfold vneg; split <;> first | rfl | (rename_i q; show -b.lo = -b.hi; omega)
  have nhi : (vneg b).hi = -b.lo := by unfold vneg; split <;> rfl
  have nn : vneg b ≠ vbot := fun q => by
    have e1 := nlo; have e2 := nhi
    rw [q] at e1 e2
    have e1 : (1 : Int) = -b.hi := e1
    have e2 : (0 : Int) = -b.lo := e2
    omega
  have sn := span13 (a := a) (b := vneg b) lea (by rw [nlo, nhi]; omega)
  rw [nlo, nhi] at sn
  have ec : (¬ (a.lo = a.hi ∧ b.lo = b.hi)) → acong 14 a b = acong 13 a (vneg b) := fun hns => by
    show csub a.m a.r b.m b.r = cadd a.m a.r (vneg b).m (vneg b).r
    have e0 : a.m = 0 ∧ b.m = 0 → False := fun q => hns ⟨by
      rcases ha.way with w | ⟨w, _⟩ | ⟨_, w, _⟩
      · exact absurd w na
      · exact w
      · omega, by
      rcases hb.way with w | ⟨w, _⟩ | ⟨_, w, _⟩
      · exact absurd w nb
      · exact w
      · omega⟩
    have em : (vneg b).m = b.m := by
      unfold vneg
      split
      · rcases hb.way with w | ⟨_, w, _⟩ | ⟨w, _⟩
        · exact absurd w nb
        · exact w.symm
        · omega
      · rfl
    unfold csub cadd
    rw [em, if_neg e0, if_neg e0]
    have gp : 0 < cg a.m b.m := cg_pos e0
    have er : crest b.m (vneg b).r (cg a.m b.m) = (-(crest b.m b.r (cg a.m b.m))) % cg a.m b.m := by
      unfold vneg crest
      rcases hb.way with w | ⟨w1, w2, w3⟩ | ⟨w1, w2, w3, w4, w5, w6⟩
      · exact absurd w nb
      · rw [if_pos w1, if_pos w2, if_pos w2, w3, sg_us b.lo hb.inn.lo.1 hb.inn.lo.2]
        show sg (us (-b.lo)) % _ = _
        rw [sg_us (-b.lo) i1.1 i1.2, ← Int.zero_sub (b.lo % _), Int.sub_emod_emod, Int.zero_sub]
      · rw [if_neg (by omega), if_neg (by omega), if_neg (by omega)]
        show (-b.r) % b.m % _ = _
        rw [Int.emod_emod_of_dvd _ (cg_dvd_right a.m b.m), ← Int.zero_sub (b.r % _), Int.sub_emod_emod, Int.zero_sub]
    rw [er, sub_mod_add]
  rw [ado_eq ho na nb, ado_eq (.inl rfl) na nn]
  rw [sa.1, sa.2, sn.1, sn.2, ← Int.sub_eq_add_neg, ← Int.sub_eq_add_neg, nlo, nhi]
  by_cases hs : a.lo = a.hi ∧ b.lo = b.hi
  · rw [if_pos hs, if_pos (show a.lo = a.hi ∧ -b.hi = -b.lo from ⟨hs.1, by omega⟩)]
    have : wex 14 a.lo b.lo = wex 13 a.lo (-b.hi) := by
      show a.lo - b.lo = a.lo + -b.hi
      omega
    rw [this]
  · rw [if_neg hs, if_neg (show ¬ (a.lo = a.hi ∧ -b.hi = -b.lo) from fun q => hs ⟨q.1, by omega⟩), ec hs]
/-! What is made of two values has what is made of their numbers, in plain numbers. -/
theorem lin_r {a x b : Int} (y : Int) (h1 : a ≤ x) (h2 : x ≤ b) : (a * y ≤ x * y ∧ x * y ≤ b * y) ∨ (b * y ≤ x * y ∧ x * y ≤ a * y) := by
  rcases Int.le_total 0 y with h | h
  · exact .inl ⟨Int.mul_le_mul_of_nonneg_right h1 h, Int.mul_le_mul_of_nonneg_right h2 h⟩
  · exact .inr ⟨Int.mul_le_mul_of_nonpos_right h2 h, Int.mul_le_mul_of_nonpos_right h1 h⟩
theorem lin_l {a x b : Int} (y : Int) (h1 : a ≤ x) (h2 : x ≤ b) : (y * a ≤ y * x ∧ y * x ≤ y * b) ∨ (y * b ≤ y * x ∧ y * x ≤ y * a) := by
  rw [Int.mul_comm y a, Int.mul_comm y x, Int.mul_comm y b]
  exact lin_r y h1 h2
theorem spanL_le (op : Int) (a b : VV) : spanL op a b ≤ wex op a.lo b.lo ∧ spanL op a b ≤ wex op a.lo b.hi ∧ spanL op a b ≤ wex op a.hi b.lo ∧ spanL op a b ≤ wex op a.hi b.hi := by
  unfold spanL wmin
  generalize wex op a.lo b.lo = p
  generalize wex op a.lo b.hi = q
  generalize wex op a.hi b.lo = r
  generalize wex op a.hi b.hi = s
  grind
theorem spanG_ge (op : Int) (a b : VV) : wex op a.lo b.lo ≤ spanG op a b ∧ wex op a.lo b.hi ≤ spanG op a b ∧ wex op a.hi b.lo ≤ spanG op a b ∧ wex op a.hi b.hi ≤ spanG op a b := by
  unfold spanG wmax
  generalize wex op a.lo b.lo = p
  generalize wex op a.lo b.hi = q
  generalize wex op a.hi b.lo = r
  generalize wex op a.hi b.hi = s
  grind
theorem span_bounds {op : Int} {a b : VV} {x y : Int} (ho : aknown op) (h1 : a.lo ≤ x) (h2 : x ≤ a.hi) (k1 : b.lo ≤ y) (k2 : y ≤ b.hi) : spanL op a b ≤ wex op x y ∧ wex op x y ≤ spanG op a b := by
  have l := spanL_le op a b
  have g := spanG_ge op a b
  generalize spanL op a b = sl at *
  generalize spanG op a b = sg at *
  rcases ho with rfl | rfl | rfl
  · simp only [wex, if_true] at *
    omega
  · simp only [wex, show ¬ (14 : Int) = 13 by decide, if_false, if_true] at *
    omega
  · simp only [wex, show ¬ (15 : Int) = 13 by decide, show ¬ (15 : Int) = 14 by decide, if_false] at *
    have e1 := lin_r y h1 h2
    have e2 := lin_l a.lo k1 k2
    have e3 := lin_l a.hi k1 k2
    generalize a.lo * b.lo = p at *
    generalize a.lo * b.hi = q at *
    generalize a.hi * b.lo = r at *
    generalize a.hi * b.hi = s at *
    generalize x * y = t at *
    generalize a.lo * y = u at *
    generalize a.hi * y = v at *
    omega
/-- The corners. -/
def cox (a : VV) (k : Nat) : Int := if k / 2 = 0 then a.lo else a.hi
def coy (b : VV) (k : Nat) : Int := if k % 2 = 0 then b.lo else b.hi
theorem spanL_mem (op : Int) (a b : VV) : ∃ k, k < 4 ∧ spanL op a b = wex op (cox a k) (coy b k) := by
  have key : spanL op a b = wex op a.lo b.lo ∨ spanL op a b = wex op a.lo b.hi ∨ spanL op a b = wex op a.hi b.lo ∨ spanL op a b = wex op a.hi b.hi := by
    unfold spanL wmin
    generalize wex op a.lo b.lo = p
    generalize wex op a.lo b.hi = q
    generalize wex op a.hi b.lo = r
    generalize wex op a.hi b.hi = s
    grind
  rcases key with h | h | h | h
  · exact ⟨0, by decide, h⟩
  · exact ⟨1, by decide, h⟩
  · exact ⟨2, by decide, h⟩
  · exact ⟨3, by decide, h⟩
theorem spanG_mem (op : Int) (a b : VV) : ∃ k, k < 4 ∧ spanG op a b = wex op (cox a k) (coy b k) := by
  have key : spanG op a b = wex op a.lo b.lo ∨ spanG op a b = wex op a.lo b.hi ∨ spanG op a b = wex op a.hi b.lo ∨ spanG op a b = wex op a.hi b.hi := by
    unfold spanG wmax
    generalize wex op a.lo b.lo = p
    generalize wex op a.lo b.hi = q
    generalize wex op a.hi b.lo = r
    generalize wex op a.hi b.hi = s
    grind
  rcases key with h | h | h | h
  · exact ⟨0, by decide, h⟩
  · exact ⟨1, by decide, h⟩
  · exact ⟨2, by decide, h⟩
  · exact ⟨3, by decide, h⟩
theorem cox_in {a : VV} (h : RV a) (na : a ≠ vbot) (k : Nat) : vin a (cox a k) ∧ IS (cox a k) := by
  unfold cox
  split
  · exact ⟨h.lo_in na, h.inn.lo⟩
  · exact ⟨h.hi_in na, h.inn.hi⟩
theorem coy_in {a : VV} (h : RV a) (na : a ≠ vbot) (k : Nat) : vin a (coy a k) ∧ IS (coy a k) := by
  unfold coy
  split
  · exact ⟨h.lo_in na, h.inn.lo⟩
  · exact ⟨h.hi_in na, h.inn.hi⟩
theorem acong_sound {op : Int} {a b : VV} {x y : Int} (ha : RV a) (hb : RV b) (hx : IS x) (hy : IS y) (vx : vin a x) (vy : vin b y) : chas (acong op a b).1 (acong op a b).2 (wex op x y) = true := by
  unfold acong wex
  split
  · exact add_sound hx.1 hx.2 hy.1 hy.2 vx.2.2 vy.2.2
  · split
    · exact sub_sound hx.1 hx.2 hy.1 hy.2 vx.2.2 vy.2.2
    · exact mul_sound ha.inn.m.1 hb.inn.m.1 hx.1 hx.2 hy.1 hy.2 vx.2.2 vy.2.2
theorem vin_of {a b : Int} {c : Int × Int} (ha : IS a) (hb : IS b) (hc : IU c.1 ∧ IU c.2) {n : Int} (hn : IS n) (h1 : a ≤ n) (h2 : n ≤ b) (h3 : chas c.1 c.2 n = true) : vin (vmk (a, b) c) n := by
  refine (vin_make (x := ⟨a, b, c.1, c.2⟩) ⟨ha, hb, hc.1, hc.2⟩ hn).2 ⟨h1, h2, ?_⟩
  show if c.1 = 0 then n = sg c.2 else n % c.1 = c.2 % c.1
  split
  · rename_i h0
    rw [h0] at h3
    rw [← chas_zero h3, sg_us n hn.1 hn.2]
  · rename_i h0
    rw [← chas_mod h0 h3, Int.emod_emod]
theorem vmk_ends {a b : Int} {c : Int × Int} (ha : IS a) (hb : IS b) (hc : IU c.1 ∧ IU c.2) (h : a ≤ b) (k1 : chas c.1 c.2 a = true) (k2 : chas c.1 c.2 b = true) : (vmk (a, b) c).lo = a ∧ (vmk (a, b) c).hi = b := by
  have v1 := vin_of ha hb hc ha (Int.le_refl _) h k1
  have v2 := vin_of ha hb hc hb h (Int.le_refl _) k2
  have hi : InV ⟨a, b, c.1, c.2⟩ := ⟨ha, hb, hc.1, hc.2⟩
  have rv : RV (vmk (a, b) c) := vmake_rv hi
  have ne := RV.ne v1
  have l := (vin_make hi rv.inn.lo).1 (rv.lo_in ne)
  have g := (vin_make hi rv.inn.hi).1 (rv.hi_in ne)
  exact ⟨Int.le_antisymm v1.1 l.1, Int.le_antisymm g.2.1 v2.2.1⟩
theorem alow_eq (z : Int) : alow z = sg z := by
  unfold alow
  rw [sg_eq]; unfold sg; omega
theorem sg_is (z : Int) : IS (sg z) := sg_rng z
theorem ado_sound {op : Int} {a b : VV} {x y : Int} (ho : aknown op) (ha : RV a) (hb : RV b) (hx : IS x) (hy : IS y) (vx : vin a x) (vy : vin b y) : vin (ado op a b) (sg (wex op x y)) := by
  have na := RV.ne vx
  have nb := RV.ne vy
  have sp := span_bounds (op := op) ho vx.1 vx.2.1 vy.1 vy.2.1
  have si := span_in (op := op) ha.inn hb.inn
  have cs := acong_sound (op := op) ha hb hx hy vx vy
  have ci := acong_in (op := op) ha.inn hb.inn
  have wi := cwr_in ci.1 ci.2
  have ws := wrap_sound ci.1.1 ci.1.2 cs
  have zi := wex_in (op := op) hx hy
  rw [ado_eq ho na nb]
  split
  · rename_i hs
    have e1 : x = a.lo := by have := vx.1; have := vx.2.1; omega
    have e2 : y = b.lo := by have := vy.1; have := vy.2.1; omega
    rw [e1, e2, alow_eq]
    exact (vin_one (sg_is _) (sg_is _)).2 rfl
  · generalize wex op x y = z at *
    generalize spanL op a b = sl at *
    generalize spanG op a b = sh at *
    have gz := sg_is z
    split
    · exact vin_of ⟨by decide, by decide⟩ ⟨by decide, by decide⟩ wi gz gz.1 gz.2 ws
    · rename_i hr
      have hr : arnd sl = arnd sh := by simpa using hr
      have i1 := si.1; have i2 := si.2
      have hb1 : alow sl ≤ sg z ∧ sg z ≤ alow sh := by
        rw [alow_eq, alow_eq]
        unfold arnd at hr
        unfold sg
        omega
      rw [vmk_iof]
      split
      · exact vin_of (alow_is _) (alow_is _) wi gz hb1.1 hb1.2 ws
      · rename_i h0
        have h0 : arnd sl = 0 := by simpa using h0
        have e : sg z = z := by
          rw [h0] at hr
          unfold arnd at hr h0
          unfold sg
          omega
        rw [e] at hb1 gz ⊢
        exact vin_of (alow_is _) (alow_is _) ci gz hb1.1 hb1.2 cs
/-- If nothing wraps, the bounds are the least and the greatest exact result. -/
theorem ado_ends {op : Int} {a b : VV} (ho : aknown op) (ha : RV a) (hb : RV b) (na : a ≠ vbot) (nb : b ≠ vbot) (hw : awraps op a b = false) : (ado op a b).lo = spanL op a b ∧ (ado op a b).hi = spanG op a b ∧ IS (spanL op a b) ∧ IS (spanG op a b) := by
  have si := awraps_false ho na nb ha.inn hb.inn hw
  refine ⟨?_, ?_, si.1, si.2⟩ <;> rw [ado_eq ho na nb]
  all_goals
    split
    · rename_i hs
      have e1 : spanL op a b = wex op a.lo b.lo := by unfold spanL wmin; rw [← hs.1, ← hs.2]; grind
      have e2 : spanG op a b = wex op a.lo b.lo := by unfold spanG wmax; rw [← hs.1, ← hs.2]; grind
      rw [e1] at si
      first
        | (rw [e1]; show alow _ = _; exact alow_in si.1)
        | (rw [e2]; show alow _ = _; exact alow_in si.1)
    · obtain ⟨k, _, hk⟩ := spanL_mem op a b
      obtain ⟨j, _, hj⟩ := spanG_mem op a b
      have c1 := acong_sound (op := op) ha hb (cox_in ha na k).2 (coy_in hb nb k).2 (cox_in ha na k).1 (coy_in hb nb k).1
      have c2 := acong_sound (op := op) ha hb (cox_in ha na j).2 (coy_in hb nb j).2 (cox_in ha na j).1 (coy_in hb nb j).1
      rw [← hk] at c1
      rw [← hj] at c2
      have ci := acong_in (op := op) ha.inn hb.inn
      have le : spanL op a b ≤ spanG op a b := Int.le_trans (spanL_le op a b).1 (spanG_ge op a b).1
      rw [arnd_in si.1, arnd_in si.2, alow_in si.1, alow_in si.2]
      simp only [ne_eq, not_true_eq_false, if_false]
      rw [vmk_iof]
      have en := vmk_ends si.1 si.2 ci le c1 c2
      first | exact en.1 | exact en.2
theorem vone_ne (n : Int) : vone n ≠ vbot := fun h => by
  have h1 : n = 1 := congrArg VV.lo h
  have h2 : n = 0 := congrArg VV.hi h
  omega
theorem ado_ones {op : Int} (ho : aknown op) (x y : Int) : ado op (vone x) (vone y) = vone (sg (wex op x y)) := by
  rw [ado_eq ho (vone_ne x) (vone_ne y), if_pos ⟨rfl, rfl⟩, alow_eq]
  rfl
theorem wdo_sg {op : Int} (ho : aknown op) (x y : Int) : wdo op x y = sg (wex op x y) := by
  rcases ho with rfl | rfl | rfl
  · exact sg_eq _
  · exact sg_eq _
  · exact sg_eq _
end Go.Proofs.YtljhbdgoknfkcaaGreatDoor
