/- Laws of conditions, in plain numbers: what Refine leaves, what Do tells. -/
import Derived.Test.YtcemohoigdninaaDoorPK
import Derived.Test.YtcemohoigdninaaDoorG5
namespace Go.Proofs.YtcemohoigdninaaDoor
open Go Go.RowKit Go.Sort
set_option linter.unusedVariables false
set_option linter.unusedSimpArgs false

theorem op_cases {op : Int} (h1 : 0 ≤ op) (h2 : op ≤ 7) : op = 0 ∨ op = 1 ∨ op = 2 ∨ op = 3 ∨ op = 4 ∨ op = 5 ∨ op = 6 ∨ op = 7 := by omega
theorem not_veq {x y : VV} : (!(veq x y)) = true ↔ x ≠ y := by
  rw [Bool.not_eq_true', ← Bool.not_eq_true, veq_iff]
theorem wdo_rel {op x y : Int} (h1 : 1 ≤ op) (h2 : op ≤ 7) : wdo op x y ≠ 0 ↔ relL op x y := by
  rcases op_cases (by omega) h2 with rfl | rfl | rfl | rfl | rfl | rfl | rfl | rfl
  · omega
  all_goals simp [wdo, wcmp, relL]
theorem wdo_other {op x y : Int} (h1 : 2 ≤ op) (h2 : op ≤ 7) : wdo op x y = 0 ↔ relL (cother op) x y := by
  rcases op_cases (by omega) h2 with rfl | rfl | rfl | rfl | rfl | rfl | rfl | rfl
  · omega
  · omega
  all_goals simp [wdo, wcmp, relL, cother]
theorem may_iff {op : Int} {a b : VV} (h1 : 1 ≤ op) (h2 : op ≤ 7) : (cmay op a b).1 = true ↔ mayL op a b := by
  rcases op_cases (by omega) h2 with rfl | rfl | rfl | rfl | rfl | rfl | rfl | rfl
  · omega
  · simp [cmay, mayL]
  · show (!(veq (ceq1 a b) vbot) && !(veq (ceq2 a b) vbot)) = true ↔ ceq1 a b ≠ vbot ∧ ceq2 a b ≠ vbot
    rw [Bool.and_eq_true, not_veq, not_veq]
  · simp [cmay, mayL]
  · simp [cmay, mayL, mayO]
  · simp [cmay, mayL, mayO]
  · simp [cmay, mayL, mayO]
  · simp [cmay, mayL, mayO]
theorem may_other {op : Int} {a b : VV} (h1 : 2 ≤ op) (h2 : op ≤ 7) : (cmay op a b).2 = true ↔ mayL (cother op) a b := by
  rcases op_cases (by omega) h2 with rfl | rfl | rfl | rfl | rfl | rfl | rfl | rfl
  · omega
  · omega
  · simp [cmay, mayL, cother]
  · show (!(veq (ceq1 a b) vbot) && !(veq (ceq2 a b) vbot)) = true ↔ ceq1 a b ≠ vbot ∧ ceq2 a b ≠ vbot
    rw [Bool.and_eq_true, not_veq, not_veq]
  · simp [cmay, mayL, mayO, cother]
  · simp [cmay, mayL, mayO, cother]
  · simp [cmay, mayL, mayO, cother]
  · simp [cmay, mayL, mayO, cother]
theorem rel_may {op x y : Int} {a b : VV} (ha : RV a) (hb : RV b) (hx : IS x) (hy : IS y) (vx : vin a x) (vy : vin b y) (h1 : 1 ≤ op) (h2 : op ≤ 7) (h : relL op x y) : mayL op a b := by
  have x1 := vx.1; have x2 := vx.2.1; have y1 := vy.1; have y2 := vy.2.1
  rcases op_cases (by omega) h2 with rfl | rfl | rfl | rfl | rfl | rfl | rfl | rfl
  · omega
  · have h : x ≠ 0 ∧ y ≠ 0 := h
    exact ⟨(tY_iff ha).2 ⟨x, hx, vx, h.1⟩, (tY_iff hb).2 ⟨y, hy, vy, h.2⟩⟩
  · have h : x = y := h
    subst h
    have := (ceq_sound ha hb hx).2.2 vx vy
    exact ⟨RV.ne this.1, RV.ne this.2⟩
  · have h : x ≠ y := h
    show calike a b = false
    unfold calike
    cases hc : ((a.lo == a.hi && b.lo == b.hi) && (a.lo == b.lo)) with
    | false => rfl
    | true =>
      simp only [Bool.and_eq_true, beq_iff_eq] at hc
      omega
  · have h : x < y := h
    show a.lo < b.hi
    omega
  · have h : x ≤ y := h
    show a.lo ≤ b.hi
    omega
  · have h : y < x := h
    show b.lo < a.hi
    omega
  · have h : y ≤ x := h
    show b.lo ≤ a.hi
    omega
theorem cother_rng {op : Int} (h1 : 2 ≤ op) (h2 : op ≤ 7) : 1 ≤ cother op ∧ cother op ≤ 7 := by
  rcases op_cases (by omega) h2 with rfl | rfl | rfl | rfl | rfl | rfl | rfl | rfl
  · omega
  · omega
  all_goals decide
/-- What may be told, is. -/
theorem may_sound {op x y : Int} {a b : VV} (ha : RV a) (hb : RV b) (hx : IS x) (hy : IS y) (vx : vin a x) (vy : vin b y) (h1 : 0 ≤ op) (h2 : op ≤ 7) : (wdo op x y ≠ 0 → (cmay op a b).1 = true) ∧ (wdo op x y = 0 → (cmay op a b).2 = true) := by
  by_cases e0 : op = 0
  · subst e0
    have e : wdo 0 x y = if (!(x == 0) || !(y == 0)) then 1 else 0 := rfl
    rw [e]
    constructor
    · intro h
      show (tY a || tY b) = true
      rw [Bool.or_eq_true, tY_iff ha, tY_iff hb]
      by_cases hx0 : x = 0
      · refine .inr ⟨y, hy, vy, fun hy0 => h ?_⟩
        rw [hx0, hy0]; rfl
      · exact .inl ⟨x, hx, vx, hx0⟩
    · intro h
      show (tN a && tN b) = true
      rw [Bool.and_eq_true, tN_iff, tN_iff]
      have : x = 0 ∧ y = 0 := by
        by_cases hx0 : x = 0
        · by_cases hy0 : y = 0
          · exact ⟨hx0, hy0⟩
          · simp [hy0] at h
        · simp [hx0] at h
      rw [this.1] at vx
      rw [this.2] at vy
      exact ⟨vx, vy⟩
  by_cases e1 : op = 1
  · subst e1
    refine ⟨fun h => (may_iff (by decide) (by decide)).2 (rel_may ha hb hx hy vx vy (by decide) (by decide) ((wdo_rel (by decide) (by decide)).1 h)), fun h => ?_⟩
    show (tN a || tN b) = true
    rw [Bool.or_eq_true, tN_iff, tN_iff]
    have e : wdo 1 x y = if (!(x == 0) && !(y == 0)) then 1 else 0 := rfl
    rw [e] at h
    by_cases hx0 : x = 0
    · rw [hx0] at vx; exact .inl vx
    · by_cases hy0 : y = 0
      · rw [hy0] at vy; exact .inr vy
      · simp [hx0, hy0] at h
  · have k := cother_rng (show 2 ≤ op by omega) h2
    exact ⟨fun h => (may_iff (by omega) h2).2 (rel_may ha hb hx hy vx vy (by omega) h2 ((wdo_rel (by omega) h2).1 h)), fun h => (may_other (by omega) h2).2 (rel_may ha hb hx hy vx vy k.1 k.2 ((wdo_other (by omega) h2).1 h))⟩
/-- What Refine leaves. -/
structure Refd (op : Int) (a b : VV) (t : Bool) (c d : VV) : Prop where
  rp : RV c
  rq : RV d
  sp : ∀ k, IS k → vin c k → vin a k
  sq : ∀ k, IS k → vin d k → vin b k
  both : c = vbot ↔ d = vbot
  full : c ≠ vbot ↔ a ≠ vbot ∧ b ≠ vbot ∧ (if t then (cmay op a b).1 else (cmay op a b).2) = true
  snd : ∀ x y, IS x → IS y → vin a x → vin b y → (t = true ↔ wdo op x y ≠ 0) → vin c x ∧ vin d y
  again : op ≠ 2 → op ≠ 3 → crefine op c d t = (c, d)
theorem crefine_bot {op : Int} {t : Bool} : crefine op vbot vbot t = (vbot, vbot) := by
  unfold crefine
  rw [if_pos (.inl (veq_iff.2 rfl))]
theorem refined_bot {op : Int} {a b : VV} {t : Bool} (h : ¬ (a ≠ vbot ∧ b ≠ vbot ∧ (if t then (cmay op a b).1 else (cmay op a b).2) = true)) (hs : ∀ x y, IS x → IS y → vin a x → vin b y → (t = true ↔ wdo op x y ≠ 0) → False) : Refd op a b t vbot vbot :=
  ⟨rv_bot, rv_bot, fun _ _ q => (vin_bot q).elim, fun _ _ q => (vin_bot q).elim, Iff.rfl, ⟨fun q => absurd rfl q, fun q => absurd q h⟩, fun x y hx hy vx vy r => (hs x y hx hy vx vy r).elim, fun _ _ => crefine_bot⟩
theorem refine_law {op : Int} {a b : VV} {t : Bool} (ha : RV a) (hb : RV b) (h1 : 0 ≤ op) (h2 : op ≤ 7) : Refd op a b t (crefine op a b t).1 (crefine op a b t).2 := by
  by_cases na : a = vbot
  · have e : crefine op a b t = (vbot, vbot) := by unfold crefine; rw [if_pos (.inl (veq_iff.2 na))]
    rw [e]
    exact refined_bot (fun q => q.1 na) fun x y _ _ vx _ _ => by rw [na] at vx; exact vin_bot vx
  by_cases nb : b = vbot
  · have e : crefine op a b t = (vbot, vbot) := by unfold crefine; rw [if_pos (.inr (veq_iff.2 nb))]
    rw [e]
    exact refined_bot (fun q => q.2.1 nb) fun x y _ _ _ vy _ => by rw [nb] at vy; exact vin_bot vy
  by_cases hm : (if t then (cmay op a b).1 else (cmay op a b).2) = true
  · have e0 : crefine op a b t = if veq (cpart op a b t).1 vbot = true ∨ veq (cpart op a b t).2 vbot = true then (vbot, vbot) else cpart op a b t := by
      unfold crefine
      rw [if_neg (by rw [veq_iff, veq_iff]; exact fun q => q.elim na nb), if_neg]
      cases t <;> simp at hm ⊢ <;> exact hm
    have fin : ∀ p q, cpart op a b t = (p, q) → RV p → RV q → (∀ k, IS k → vin p k → vin a k) → (∀ k, IS k → vin q k → vin b k) → p ≠ vbot → q ≠ vbot → (∀ x y, IS x → IS y → vin a x → vin b y → (t = true ↔ wdo op x y ≠ 0) → vin p x ∧ vin q y) →
        (op ≠ 2 → op ≠ 3 → (if t then (cmay op p q).1 else (cmay op p q).2) = true ∧ cpart op p q t = (p, q)) → Refd op a b t (crefine op a b t).1 (crefine op a b t).2 := by
      intro p q ep hp hq sp sq np nq snd ag
      have e1 : crefine op a b t = (p, q) := by
        rw [e0, ep, if_neg (by rw [veq_iff, veq_iff]; exact fun z => z.elim np nq)]
      rw [e1]
      refine ⟨hp, hq, sp, sq, ⟨fun z => absurd z np, fun z => absurd z nq⟩, ⟨fun _ => ⟨na, nb, hm⟩, fun _ => np⟩, snd, fun o2 o3 => ?_⟩
      obtain ⟨g1, g2⟩ := ag o2 o3
      unfold crefine
      rw [if_neg (by rw [veq_iff, veq_iff]; exact fun z => z.elim np nq), if_neg, g2, if_neg (by rw [veq_iff, veq_iff]; exact fun z => z.elim np nq)]
      cases t <;> simp at g1 ⊢ <;> exact g1
    cases t with
    | true =>
      simp only [if_true] at hm
      by_cases e : op = 0
      · subst e
        exact fin a b rfl ha hb (fun _ _ z => z) (fun _ _ z => z) na nb (fun x y _ _ vx vy _ => ⟨vx, vy⟩) fun _ _ => ⟨hm, rfl⟩
      · have L := left_law ha hb na nb ((may_iff (by omega) h2).1 hm)
        exact fin _ _ rfl L.rp L.rq L.sp L.sq L.np L.nq (fun x y hx hy vx vy r => L.snd x y hx hy vx vy ((wdo_rel (by omega) h2).1 (r.1 rfl))) fun o2 o3 => ⟨(may_iff (by omega) h2).2 (L.again o2 o3).1, (L.again o2 o3).2⟩
    | false =>
      simp only [Bool.false_eq_true, if_false] at hm
      by_cases e : op = 0
      · subst e
        have hm : (tN a && tN b) = true := hm
        rw [Bool.and_eq_true, tN_iff, tN_iff] at hm
        have z : IS 0 := ⟨by decide, by decide⟩
        have ra := conly_rv false ha
        have rb := conly_rv false hb
        have va := (vin_only ha z).2 ⟨hm.1, rfl⟩
        have vb := (vin_only hb z).2 ⟨hm.2, rfl⟩
        have again : ∀ {v : VV}, RV v → vin v 0 → conly (conly v false) false = conly v false := fun {v} hv h0 => by
          refine (conly_rv false (conly_rv false hv)).ext (conly_rv false hv) fun k hk => ?_
          rw [vin_only (conly_rv false hv) hk, vin_only hv hk, vin_only hv z]
          exact ⟨fun q => ⟨q.1.1, q.2⟩, fun q => ⟨⟨q.1, rfl⟩, q.2⟩⟩
        refine fin (conly a false) (conly b false) rfl ra rb (fun k hk q => ?_) (fun k hk q => ?_) (RV.ne va) (RV.ne vb) (fun x y hx hy vx vy r => ?_) fun _ _ => ⟨?_, ?_⟩
        · have := (vin_only ha hk).1 q
          rw [this.2]; exact this.1
        · have := (vin_only hb hk).1 q
          rw [this.2]; exact this.1
        · have r0 : wdo 0 x y = 0 := by
            by_cases q : wdo 0 x y = 0
            · exact q
            · exact absurd (r.2 q) (by decide)
          have e : wdo 0 x y = if (!(x == 0) || !(y == 0)) then 1 else 0 := rfl
          rw [e] at r0
          have : x = 0 ∧ y = 0 := by
            by_cases hx0 : x = 0
            · by_cases hy0 : y = 0
              · exact ⟨hx0, hy0⟩
              · simp [hy0] at r0
            · simp [hx0] at r0
          rw [this.1, this.2]
          exact ⟨va, vb⟩
        · show (tN (conly a false) && tN (conly b false)) = true
          rw [Bool.and_eq_true, tN_iff, tN_iff]
          exact ⟨va, vb⟩
        · show (conly (conly a false) false, conly (conly b false) false) = _
          rw [again ha hm.1, again hb hm.2]
      · by_cases e1 : op = 1
        · subst e1
          exact fin a b rfl ha hb (fun _ _ z => z) (fun _ _ z => z) na nb (fun x y _ _ vx vy _ => ⟨vx, vy⟩) fun _ _ => ⟨hm, rfl⟩
        · have g : 2 ≤ op := by omega
          have ec : ∀ p q, cpart op p q false = cleft (cother op) p q := fun p q => by
            unfold cpart
            rw [if_neg (by decide), if_pos ⟨g, h2⟩]
          have L := left_law ha hb na nb ((may_other g h2).1 hm)
          refine fin _ _ (ec a b) L.rp L.rq L.sp L.sq L.np L.nq (fun x y hx hy vx vy r => L.snd x y hx hy vx vy ((wdo_other g h2).1 ?_)) fun o2 o3 => ?_
          · by_cases q : wdo op x y = 0
            · exact q
            · exact absurd (r.2 q) (by decide)
          · have o : cother op ≠ 2 ∧ cother op ≠ 3 := by
              rcases op_cases h1 h2 with rfl | rfl | rfl | rfl | rfl | rfl | rfl | rfl <;> first | omega | decide
            have A := L.again o.1 o.2
            exact ⟨(may_other g h2).2 A.1, by rw [ec]; exact A.2⟩
  · have e : crefine op a b t = (vbot, vbot) := by
      unfold crefine
      rw [if_neg (by rw [veq_iff, veq_iff]; exact fun q => q.elim na nb), if_pos]
      cases t <;> simp at hm ⊢ <;> exact hm
    rw [e]
    refine refined_bot (fun q => hm q.2.2) fun x y hx hy vx vy r => hm ?_
    have := may_sound ha hb hx hy vx vy h1 h2
    cases t with
    | true => exact this.1 (r.1 rfl)
    | false =>
      refine this.2 ?_
      by_cases q : wdo op x y = 0
      · exact q
      · exact absurd (r.2 q) (by decide)
/-- What Do tells. -/
structure Done (op : Int) (a b v : VV) : Prop where
  rv : RV v
  y : tY v = (!(veq a vbot) && !(veq b vbot) && (cmay op a b).1)
  n : tN v = (!(veq a vbot) && !(veq b vbot) && (cmay op a b).2)
  bot : v = vbot ↔ a = vbot ∨ b = vbot
  within : vwithin v ⟨0, 1, 1, 0⟩ = true
theorem ctold_rv (y n : Bool) : RV (ctold y n) := by
  cases y <;> cases n
  · exact rv_bot
  · exact rv_one ⟨by decide, by decide⟩
  · exact rv_one ⟨by decide, by decide⟩
  · rw [show ctold true true = vmake ⟨0, 1, 1, 0⟩ by decide +kernel]
    exact vmake_rv ⟨⟨by decide, by decide⟩, ⟨by decide, by decide⟩, ⟨by decide, by decide⟩, ⟨by decide, by decide⟩⟩
theorem ctold_tells (y n : Bool) : tY (ctold y n) = y ∧ tN (ctold y n) = n ∧ (ctold y n = vbot ↔ y = false ∧ n = false) ∧ vwithin (ctold y n) ⟨0, 1, 1, 0⟩ = true := by
  cases y <;> cases n <;> decide +kernel
theorem do_law {op : Int} {a b : VV} (ha : RV a) (hb : RV b) (h1 : 0 ≤ op) (h2 : op ≤ 7) : Done op a b (cdo op a b) := by
  by_cases na : a = vbot
  · have e : cdo op a b = vbot := by unfold cdo; rw [if_pos (.inl (veq_iff.2 na))]
    rw [e]
    exact ⟨rv_bot, by rw [veq_iff.2 na]; rfl, by rw [veq_iff.2 na]; rfl, ⟨fun _ => .inl na, fun _ => rfl⟩, by decide +kernel⟩
  by_cases nb : b = vbot
  · have e : cdo op a b = vbot := by unfold cdo; rw [if_pos (.inr (veq_iff.2 nb))]
    rw [e]
    exact ⟨rv_bot, by rw [veq_iff.2 nb, Bool.not_true, Bool.and_false]; rfl, by rw [veq_iff.2 nb, Bool.not_true, Bool.and_false]; rfl, ⟨fun _ => .inr nb, fun _ => rfl⟩, by decide +kernel⟩
  have e : cdo op a b = ctold (cmay op a b).1 (cmay op a b).2 := by
    unfold cdo
    rw [if_neg (by rw [veq_iff, veq_iff]; exact fun q => q.elim na nb), if_neg (by omega)]
  rw [e]
  obtain ⟨g1, g2, g3, g4⟩ := ctold_tells (cmay op a b).1 (cmay op a b).2
  refine ⟨ctold_rv _ _, ?_, ?_, ?_, g4⟩
  · rw [g1, veq_false na, veq_false nb]; rfl
  · rw [g2, veq_false na, veq_false nb]; rfl
  · rw [g3]
    constructor
    · rintro ⟨q1, q2⟩
      have := may_sound ha hb ha.inn.lo hb.inn.lo (ha.lo_in na) (hb.lo_in nb) h1 h2
      by_cases q : wdo op a.lo b.lo = 0
      · rw [this.2 q] at q2; cases q2
      · rw [this.1 q] at q1; cases q1
    · exact fun q => (q.elim na nb).elim
end Go.Proofs.YtcemohoigdninaaDoor
