/- CondKeeps as a call. -/
import Derived.Test.YtcemohoigdninaaGreatDoorPK
import Derived.Test.YtcemohoigdninaaGreatDoorG4
namespace Go.Proofs.YtcemohoigdninaaGreatDoor
open Go Go.RowKit Go.Sort
set_option linter.unusedVariables false
set_option linter.unusedSimpArgs false
set_option maxRecDepth 100000

theorem mod8 (op : Int) : 0 ≤ (IntKind.i64.wrap (op.tmod 8 + 8)).tmod 8 ∧ (IntKind.i64.wrap (op.tmod 8 + 8)).tmod 8 ≤ 7 := by
  have h1 := Int.tmod_lt_of_pos op (show (0 : Int) < 8 by decide)
  have h2 : -8 < op.tmod 8 := Int.lt_tmod_of_pos op (by decide)
  rw [wrap_id ⟨by omega, by omega⟩]
  have h3 := Int.tmod_nonneg 8 (show 0 ≤ op.tmod 8 + 8 by omega)
  have h4 := Int.tmod_lt_of_pos (op.tmod 8 + 8) (show (0 : Int) < 8 by decide)
  omega
theorem within_r {x y : VV} (h : RV x) (k : RV y) (hs : vwithin x y = true) : Den Tryz.prog 71 #[VVal x, VVal y] noFacts (.bool true) := by
  have := vWithin_d x y h.inn k.inn
  rwa [h.fix, k.fix, hs] at this
theorem within_i {x y : VV} (h : RV x) (k : InV y) (hs : vwithin x (vmake y) = true) : Den Tryz.prog 71 #[VVal x, VVal y] noFacts (.bool true) := by
  have := vWithin_d x y h.inn k
  rwa [h.fix, hs] at this
theorem refine_r {op : Int} {x y : VV} {t : Bool} (h : RV x) (k : RV y) : Den Tryz.prog 17 #[.int .i64 op, VVal x, VVal y, .bool t] noFacts (.tuple #[VVal (crefine op x y t).1, VVal (crefine op x y t).2]) := by
  have := cRefine_d op x y t h.inn k.inn
  rwa [h.fix, k.fix] at this
set_option maxHeartbeats 4000000 in
theorem condKeeps_d (op : Int) (x y : VV) (t : Bool) (hx : InV x) (hy : InV y) : Den Tryz.prog 39 #[.int .i64 op, VVal x, VVal y, .bool t] tabF (.bool true) := by
  refine den_of_body (args := [.int .i64 op, VVal x, VVal y, .bool t]) hmix Tryz.func39 ?_
  (repeat' ((conv => whnf); first | refine Ob.mk (by decide) ?_ | refine AdN.mk _ _ rfl ?_ | refine DrawN.a (Ob.mk (by decide +kernel) ?_) | refine DrawN.c (Ob.mk (by decide +kernel) ?_) | refine DrawN.b (Ob.mk (by decide +kernel) ?_) | refine Ob.mk (by kernel_rfl) ?_ | (refine Br.mk (fun h => ?_) (fun h => ?_) <;> (first | (exfalso; exact Bool.false_ne_true h) | (exfalso; exact Bool.false_ne_true h.symm) | skip)) | refine SeqN.go ?_)); all_goals (conv => whnf)
  have ho := mod8 op
  generalize (IntKind.i64.wrap (op.tmod 8 + 8)).tmod 8 = o at *
  have ha := vmake_rv hx
  have hb := vmake_rv hy
  have L := refine_law (t := t) ha hb ho.1 ho.2
  have D := do_law ha hb ho.1 ho.2
  have R1 := cRefine_d o x y t hx hy
  have Do := cDo_d o x y hx hy
  have W1 := within_i (y := x) L.rp hx ((vwithin_iff L.rp ha).2 L.sp)
  have W2 := within_i (y := y) L.rq hy ((vwithin_iff L.rq hb).2 L.sq)
  have key : (if t then tY (cdo o (vmake x) (vmake y)) else tN (cdo o (vmake x) (vmake y))) = !(veq (crefine o (vmake x) (vmake y) t).1 vbot) := by
    have := L.full
    rw [D.y, D.n]
    by_cases hc : (crefine o (vmake x) (vmake y) t).1 = vbot
    · rw [veq_iff.2 hc]
      have hn := fun q => (this.2 q) hc
      by_cases na : vmake x = vbot
      · rw [veq_iff.2 na]; cases t <;> rfl
      by_cases nb : vmake y = vbot
      · rw [veq_iff.2 nb]; cases t <;> simp
      have hm : ¬ (if t then (cmay o (vmake x) (vmake y)).1 else (cmay o (vmake x) (vmake y)).2) = true := fun q => hn ⟨na, nb, q⟩
      rw [veq_false na, veq_false nb]
      cases t <;> simpa using hm
    · obtain ⟨q1, q2, q3⟩ := this.1 hc
      rw [veq_false hc, veq_false q1, veq_false q2]
      cases t <;> simpa using q3
  have vb : veq (cdo o (vmake x) (vmake y)) vbot = true → veq (crefine o (vmake x) (vmake y) t).1 vbot = true := fun q => by
    rcases D.bot.1 (veq_iff.1 q) with q | q
    · by_cases hc : (crefine o (vmake x) (vmake y) t).1 = vbot
      · exact veq_iff.2 hc
      · exact absurd q (L.full.1 hc).1
    · by_cases hc : (crefine o (vmake x) (vmake y) t).1 = vbot
      · exact veq_iff.2 hc
      · exact absurd q (L.full.1 hc).2.1
  have bb : veq (crefine o (vmake x) (vmake y) t).1 vbot = veq (crefine o (vmake x) (vmake y) t).2 vbot := by
    cases h1 : veq (crefine o (vmake x) (vmake y) t).1 vbot with
    | true => rw [veq_iff.2 (L.both.1 (veq_iff.1 h1))]
    | false =>
      cases h2 : veq (crefine o (vmake x) (vmake y) t).2 vbot with
      | false => rfl
      | true => rw [veq_iff.2 (L.both.2 (veq_iff.1 h2))] at h1; cases h1
  have L2 := refine_law (t := t) L.rp L.rq ho.1 ho.2
  have R2 := refine_r (op := o) (t := t) L.rp L.rq
  have W3 := within_r L2.rp L.rp ((vwithin_iff L2.rp L.rp).2 L2.sp)
  have W4 := within_r L2.rq L.rq ((vwithin_iff L2.rq L.rq).2 L2.sq)
  have B1 := bottom_r L.rp
  have B2 := bottom_r L.rq
  have B3 := bottom_r D.rv
  have T := truth_r D.rv
  have e01 : vmake ⟨0, 1, 1, 0⟩ = ⟨0, 1, 1, 0⟩ := by decide +kernel
  have R01 := vRange_e (lo := 0) (hi := 1) (y := ⟨0, 1, 1, 0⟩) ⟨by decide, by decide⟩ ⟨by decide, by decide⟩ (by decide +kernel)
  have W5 := within_i (y := ⟨0, 1, 1, 0⟩) D.rv ⟨⟨by decide, by decide⟩, ⟨by decide, by decide⟩, ⟨by decide, by decide⟩, ⟨by decide, by decide⟩⟩ (by rw [e01]; exact D.within)
  have ag : o ≠ 2 → o ≠ 3 → (crefine o (crefine o (vmake x) (vmake y) t).1 (crefine o (vmake x) (vmake y) t).2 t).1 = (crefine o (vmake x) (vmake y) t).1 ∧ (crefine o (crefine o (vmake x) (vmake y) t).1 (crefine o (vmake x) (vmake y) t).2 t).2 = (crefine o (vmake x) (vmake y) t).2 := fun o2 o3 => by
    have := L.again o2 o3
    rw [this]
    exact ⟨rfl, rfl⟩
  clear L2 L D
  generalize (crefine o (crefine o (vmake x) (vmake y) t).1 (crefine o (vmake x) (vmake y) t).2 t).1 = e at *
  generalize (crefine o (crefine o (vmake x) (vmake y) t).1 (crefine o (vmake x) (vmake y) t).2 t).2 = f at *
  generalize (crefine o (vmake x) (vmake y) t).1 = c at *
  generalize (crefine o (vmake x) (vmake y) t).2 = d at *
  generalize cdo o (vmake x) (vmake y) = v at *
  (repeat' ((conv => whnf); first | refine CallN.any _ R1 ?_ | refine CallN.any _ R2 ?_ | refine CallN.any _ W1 ?_ | refine CallN.any _ W2 ?_ | refine CallN.any _ W3 ?_ | refine CallN.any _ W4 ?_ | refine CallN.any _ B1 ?_ | refine CallN.any _ B2 ?_ | refine CallN.any _ B3 ?_ | refine CallN.any _ T ?_ | refine CallN.any _ Do ?_ | refine CallN.any _ R01 ?_ | refine CallN.any _ W5 ?_ | refine CallN.mk _ works24_d ?_ | refine AdN.mk _ _ rfl ?_ | refine DrawN.a (Ob.mk (by decide +kernel) ?_) | refine DrawN.c (Ob.mk (by decide +kernel) ?_) | refine DrawN.b (Ob.mk (by decide +kernel) ?_) | refine Ob.mk (by kernel_rfl) ?_ | (refine Br.mk (fun h => ?_) (fun h => ?_) <;> (first | (exfalso; exact Bool.false_ne_true h) | (exfalso; exact Bool.false_ne_true h.symm) | skip)) | refine SeqN.go ?_)); all_goals (conv => whnf)
  all_goals (clear R1 R2 W1 W2 W3 W4 B1 B2 B3 T Do R01 W5 e01; first | rfl | (exfalso; clear ha hb hx hy; cases t <;> grind))
/-! A number near another, in a value; CondSound as a call. -/
/-- Brought into a value's bounds. -/
def clamp (m : VV) (n : Int) : Int := if m.hi < (if n < m.lo then m.lo else n) then m.hi else (if n < m.lo then m.lo else n)
def cnr (m : VV) (n : Int) : Int := if (cleast m.m m.r (clamp m n)).2 = false ∨ (cleast m.m m.r (clamp m n)).1 > m.hi then m.lo else (cleast m.m m.r (clamp m n)).1
theorem clamp_rng {m : VV} (h : RV m) (hb : m ≠ vbot) (n : Int) : m.lo ≤ clamp m n ∧ clamp m n ≤ m.hi := by
  have := h.le hb
  unfold clamp
  split <;> split <;> omega
theorem near_least {m : VV} (h : RV m) (hb : m ≠ vbot) {z : Int} (h1 : m.lo ≤ z) (h2 : z ≤ m.hi) (k1 : (cleast m.m m.r z).2 = true) (k2 : (cleast m.m m.r z).1 ≤ m.hi) : vin m (cleast m.m m.r z).1 := by
  have hl := h.inn.lo
  unfold cleast at *
  rcases h.way with w | ⟨w1, w2, w3⟩ | ⟨w1, w2, w3, w4, w5, w6⟩
  · exact absurd w hb
  · rw [if_pos w2] at *
    have e : sg m.r = m.lo := by rw [w3]; exact sg_us m.lo hl.1 hl.2
    split at k1
    · cases k1
    · rename_i q
      rw [if_neg q]
      show vin m (sg m.r)
      rw [e]
      exact h.lo_in hb
  · rw [if_neg (by omega)] at *
    split at k1
    · cases k1
    · rename_i q
      rw [if_neg q] at *
      have g := emod_rng (m.r - z) m.m w2
      refine ⟨by dsimp only; omega, k2, ?_⟩
      refine chas_pos (by omega) ?_
      dsimp only
      rw [Int.add_emod_emod, show z + (m.r - z) = m.r by omega]
      exact Int.emod_eq_of_lt w3 w4
theorem cnr_in {m : VV} (h : RV m) (hb : m ≠ vbot) (n : Int) : vin m (cnr m n) := by
  have c := clamp_rng h hb n
  unfold cnr
  split
  · exact h.lo_in hb
  · rename_i q
    refine near_least h hb c.1 c.2 ?_ ?_
    · cases e : (cleast m.m m.r (clamp m n)).2 with
      | true => rfl
      | false => exact absurd (.inl e) q
    · have : ¬ (cleast m.m m.r (clamp m n)).1 > m.hi := fun e => q (.inr e)
      omega
theorem vin_is {m : VV} (h : RV m) {n : Int} (v : vin m n) : IS n := by
  have h1 := h.inn.lo; have h2 := h.inn.hi; have h3 := v.1; have h4 := v.2.1
  exact ⟨by omega, by omega⟩
theorem near24_bot (x : VV) (n : Int) (hx : InV x) (hb : vmake x = vbot) : Den Tryz.prog 102 #[VVal x, .int .i64 n] noFacts (.tuple #[.int .i64 0, .bool false]) := by
  refine den_of_body (args := [VVal x, .int .i64 n]) hmix Tryz.func102 ?_
  have hm := vmake_rv hx
  have M := vMake_d x hx
  have B := bottom_r hm
  rw [hb] at M B
  (repeat' ((conv => whnf); first | refine CallN.any _ M ?_ | refine CallN.any _ B ?_ | refine AdN.mk _ _ rfl ?_ | refine DrawN.a (Ob.mk (by decide +kernel) ?_) | refine DrawN.c (Ob.mk (by decide +kernel) ?_) | refine DrawN.b (Ob.mk (by decide +kernel) ?_) | refine Ob.mk (by kernel_rfl) ?_ | (refine Br.mk (fun h => ?_) (fun h => ?_) <;> (first | (exfalso; exact Bool.false_ne_true h) | (exfalso; exact Bool.false_ne_true h.symm) | skip)) | refine SeqN.go ?_)); all_goals (conv => whnf)
  all_goals first | rfl | (exfalso; clear M B; revert hb; grind [veq])
theorem near24_d (x : VV) (n : Int) (hx : InV x) (hn : IS n) (hb : vmake x ≠ vbot) : Den Tryz.prog 102 #[VVal x, .int .i64 n] noFacts (.tuple #[.int .i64 (cnr (vmake x) n), .bool true]) := by
  refine den_of_body (args := [VVal x, .int .i64 n]) hmix Tryz.func102 ?_
  have hm := vmake_rv hx
  have M := vMake_d x hx
  have B := bottom_r hm
  have H2 := fun k => vHas_d x k hx
  generalize vmake x = m at *
  have c := clamp_rng hm hb n
  have hl := hm.inn.lo
  have hh := hm.inn.hi
  have zi : IS (clamp m n) := ⟨by omega, by omega⟩
  have k := cnr_in hm hb n
  have ki := vin_is hm k
  have L := den_of (F := noFacts) fun W => least_c m.m m.r (clamp m n) W hm.inn.m.1 hm.inn.m.2 hm.inn.r.1 hm.inn.r.2 zi.1 zi.2
  have li := cleast_rng m.m m.r (clamp m n) hm.inn.m.1 zi.1 zi.2
  have g1 := vhas_iff.2 (hm.lo_in hb)
  have A1 : Den Tryz.prog 52 #[VVal m, .int .i64 m.lo] noFacts (.bool true) := (has_r m.lo hm hl).eq (by rw [g1])
  have A2 : Den Tryz.prog 52 #[VVal x, .int .i64 m.lo] noFacts (.bool true) := (H2 m.lo hl).eq (by rw [g1])
  have A3 := has_r _ hm li
  have A4 := H2 _ li
  rw [veq_false hb] at B
  have kk : ¬ ((cleast m.m m.r (clamp m n)).2 = false ∨ (cleast m.m m.r (clamp m n)).1 > m.hi) → vhas m (cleast m.m m.r (clamp m n)).1 = true := fun q => by
    have := vhas_iff.2 k
    unfold cnr at this
    rwa [if_neg q] at this
  (repeat' ((conv => whnf); first | refine CallN.any _ M ?_ | refine CallN.any _ B ?_ | refine CallN.any _ L ?_ | refine CallN.any _ A1 ?_ | refine CallN.any _ A2 ?_ | refine CallN.any _ A3 ?_ | refine CallN.any _ A4 ?_ | refine AdN.mk _ _ rfl ?_ | refine DrawN.a (Ob.mk (by decide +kernel) ?_) | refine DrawN.c (Ob.mk (by decide +kernel) ?_) | refine DrawN.b (Ob.mk (by decide +kernel) ?_) | refine Ob.mk (by kernel_rfl) ?_ | (refine Br.mk (fun h => ?_) (fun h => ?_) <;> (first | (exfalso; exact Bool.false_ne_true h) | (exfalso; exact Bool.false_ne_true h.symm) | skip)) | refine SeqN.go ?_)); all_goals (conv => whnf)
  all_goals (clear M B L A1 A2 A3 A4 H2 k ki hm; grind [retV, cnr])
theorem wDo_d (op a b : Int) (h1 : 0 ≤ op) (h2 : op ≤ 7) : Den Tryz.prog 103 #[.int .i64 op, .int .i64 a, .int .i64 b] noFacts (.tuple #[.int .i64 (wdo op a b), .bool true]) := by
  by_cases e0 : op = 0
  · subst e0; exact wDo0_d a b
  by_cases e1 : op = 1
  · subst e1; exact wDo1_d a b
  exact wDo_c op a b (by omega) h2
theorem wdo_01 {op x y : Int} (h1 : 0 ≤ op) (h2 : op ≤ 7) : wdo op x y = 0 ∨ wdo op x y = 1 := by
  rcases op_cases h1 h2 with rfl | rfl | rfl | rfl | rfl | rfl | rfl | rfl <;> (unfold wdo; grind)
theorem ctold_has (y n : Bool) : (y = true → vhas (ctold y n) 1 = true) ∧ (n = true → vhas (ctold y n) 0 = true) := by
  cases y <;> cases n <;> decide +kernel
theorem do_has {op x y : Int} {a b : VV} (ha : RV a) (hb : RV b) (hx : IS x) (hy : IS y) (vx : vin a x) (vy : vin b y) (h1 : 0 ≤ op) (h2 : op ≤ 7) : vhas (cdo op a b) (wdo op x y) = true := by
  have na := RV.ne vx
  have nb := RV.ne vy
  have e : cdo op a b = ctold (cmay op a b).1 (cmay op a b).2 := by
    unfold cdo
    rw [if_neg (by rw [veq_iff, veq_iff]; exact fun q => q.elim na nb), if_neg (by omega)]
  have m := may_sound ha hb hx hy vx vy h1 h2
  have c := ctold_has (cmay op a b).1 (cmay op a b).2
  rw [e]
  rcases wdo_01 (x := x) (y := y) h1 h2 with r | r
  · rw [r]; exact c.2 (m.2 r)
  · rw [r]; exact c.1 (m.1 (by rw [r]; decide))
set_option maxHeartbeats 4000000 in
theorem condSound_d (op : Int) (x y : VV) (n m : Int) (hx : InV x) (hy : InV y) (hn : IS n) (hm : IS m) : Den Tryz.prog 41 #[.int .i64 op, VVal x, VVal y, .int .i64 n, .int .i64 m] tabF (.bool true) := by
  refine den_of_body (args := [.int .i64 op, VVal x, VVal y, .int .i64 n, .int .i64 m]) hmix Tryz.func41 ?_
  have ha := vmake_rv hx
  have hb := vmake_rv hy
  have Mx := vMake_d x hx
  have My := vMake_d y hy
  have Bx := bottom_r ha
  have By := bottom_r hb
  by_cases na : vmake x = vbot
  · have N := near24_bot x n hx na
    have tb : veq vbot vbot = true := veq_iff.2 rfl
    by_cases nb : vmake y = vbot
    · have N2 := near24_bot y m hy nb
      rw [na] at Mx Bx
      rw [nb] at My By
      rw [tb] at Bx By
      (repeat' ((conv => whnf); first | refine CallN.any _ N ?_ | refine CallN.any _ N2 ?_ | refine CallN.any _ Mx ?_ | refine CallN.any _ My ?_ | refine CallN.any _ Bx ?_ | refine CallN.any _ By ?_ | refine CallN.mk _ works24_d ?_ | refine AdN.mk _ _ rfl ?_ | refine DrawN.a (Ob.mk (by decide +kernel) ?_) | refine DrawN.c (Ob.mk (by decide +kernel) ?_) | refine DrawN.b (Ob.mk (by decide +kernel) ?_) | refine Ob.mk (by kernel_rfl) ?_ | (refine Br.mk (fun h => ?_) (fun h => ?_) <;> (first | (exfalso; exact Bool.false_ne_true h) | (exfalso; exact Bool.false_ne_true h.symm) | skip)) | refine SeqN.go ?_)); all_goals (conv => whnf)
      all_goals first | rfl | (exfalso; simp at *; done)
    · have N2 := near24_d y m hy hm nb
      rw [na] at Mx Bx
      rw [tb] at Bx
      (repeat' ((conv => whnf); first | refine CallN.any _ N ?_ | refine CallN.any _ N2 ?_ | refine CallN.any _ Mx ?_ | refine CallN.any _ My ?_ | refine CallN.any _ Bx ?_ | refine CallN.any _ By ?_ | refine CallN.mk _ works24_d ?_ | refine AdN.mk _ _ rfl ?_ | refine DrawN.a (Ob.mk (by decide +kernel) ?_) | refine DrawN.c (Ob.mk (by decide +kernel) ?_) | refine DrawN.b (Ob.mk (by decide +kernel) ?_) | refine Ob.mk (by kernel_rfl) ?_ | (refine Br.mk (fun h => ?_) (fun h => ?_) <;> (first | (exfalso; exact Bool.false_ne_true h) | (exfalso; exact Bool.false_ne_true h.symm) | skip)) | refine SeqN.go ?_)); all_goals (conv => whnf)
      all_goals first | rfl | (exfalso; simp at *; done)
  by_cases nb : vmake y = vbot
  · have tb : veq vbot vbot = true := veq_iff.2 rfl
    have N := near24_d x n hx hn na
    have N2 := near24_bot y m hy nb
    rw [nb] at My By
    rw [tb] at By
    rw [veq_false na] at Bx
    (repeat' ((conv => whnf); first | refine CallN.any _ N ?_ | refine CallN.any _ N2 ?_ | refine CallN.any _ Mx ?_ | refine CallN.any _ My ?_ | refine CallN.any _ Bx ?_ | refine CallN.any _ By ?_ | refine CallN.mk _ works24_d ?_ | refine AdN.mk _ _ rfl ?_ | refine DrawN.a (Ob.mk (by decide +kernel) ?_) | refine DrawN.c (Ob.mk (by decide +kernel) ?_) | refine DrawN.b (Ob.mk (by decide +kernel) ?_) | refine Ob.mk (by kernel_rfl) ?_ | (refine Br.mk (fun h => ?_) (fun h => ?_) <;> (first | (exfalso; exact Bool.false_ne_true h) | (exfalso; exact Bool.false_ne_true h.symm) | skip)) | refine SeqN.go ?_)); all_goals (conv => whnf)
    all_goals first | rfl | (exfalso; simp at *; done)
  have N := near24_d x n hx hn na
  have N2 := near24_d y m hy hm nb
  have vp := cnr_in ha na n
  have vq := cnr_in hb nb m
  generalize cnr (vmake x) n = p at *
  generalize cnr (vmake y) m = q at *
  have ip := vin_is ha vp
  have iq := vin_is hb vq
  (repeat' ((conv => whnf); first | refine CallN.any _ N ?_ | refine CallN.any _ N2 ?_ | refine Ob.mk (by decide) ?_ | refine AdN.mk _ _ rfl ?_ | refine DrawN.a (Ob.mk (by decide +kernel) ?_) | refine DrawN.c (Ob.mk (by decide +kernel) ?_) | refine DrawN.b (Ob.mk (by decide +kernel) ?_) | refine Ob.mk (by kernel_rfl) ?_ | (refine Br.mk (fun h => ?_) (fun h => ?_) <;> (first | (exfalso; exact Bool.false_ne_true h) | (exfalso; exact Bool.false_ne_true h.symm) | skip)) | refine SeqN.go ?_)); all_goals (conv => whnf)
  have ho := mod8 op
  generalize (IntKind.i64.wrap (op.tmod 8 + 8)).tmod 8 = o at *
  have W := wDo_d o p q ho.1 ho.2
  have r01 := wdo_01 (x := p) (y := q) ho.1 ho.2
  have D := cDo_d o x y hx hy
  have DL := do_law ha hb ho.1 ho.2
  have ri : IS (wdo o p q) := by rcases r01 with r | r <;> rw [r] <;> exact ⟨by decide, by decide⟩
  have DH := (has_r (wdo o p q) DL.rv ri).eq (by rw [do_has ha hb ip iq vp vq ho.1 ho.2])
  have R := cRefine_d o x y (!(wdo o p q == 0)) hx hy
  have L := refine_law (t := !(wdo o p q == 0)) ha hb ho.1 ho.2
  have S := L.snd p q ip iq vp vq (by simp)
  have H1 := (has_r p L.rp ip).eq (by rw [vhas_iff.2 S.1])
  have H2 := (has_r q L.rq iq).eq (by rw [vhas_iff.2 S.2])
  have T := cTruth_d x hx
  have tY1 : p ≠ 0 → tY (vmake x) = true := fun e => (tY_iff ha).2 ⟨p, ip, vp, e⟩
  have tN1 : p = 0 → tN (vmake x) = true := fun e => tN_iff.2 (e ▸ vp)
  have O := cOnly_d x (!(p == 0)) hx
  have ov : vin (conly (vmake x) (!(p == 0))) p := by
    by_cases e : p = 0
    · subst e
      rw [show (!((0 : Int) == 0)) = false from rfl]
      exact (vin_only ha ip).2 ⟨vp, rfl⟩
    · rw [show (!(p == 0)) = true by simpa using e]
      exact (vin_without ha ip).2 ⟨vp, fun e' => absurd e' e⟩
  have OH := (has_r p (conly_rv _ ha) ip).eq (by rw [vhas_iff.2 ov])
  have Wo := cWithout_d x q hx
  have wr := cwithout_rv (n := q) ha
  have WH := has_r p wr ip
  have wv : p ≠ q → vhas (cwithout (vmake x) q) p = true := fun e => vhas_iff.2 ((vin_without ha ip).2 ⟨vp, fun e' => absurd e' e⟩)
  have WW := within_i (y := x) wr hx ((vwithin_iff wr ha).2 fun k hk z => ((vin_without ha hk).1 z).1)
  clear L S DL vp vq
  (repeat' ((conv => whnf); first | refine CallN.any _ W ?_ | refine CallN.any _ D ?_ | refine CallN.any _ DH ?_ | refine CallN.any _ R ?_ | refine CallN.any _ H1 ?_ | refine CallN.any _ H2 ?_ | refine CallN.any _ T ?_ | refine CallN.any _ O ?_ | refine CallN.any _ OH ?_ | refine CallN.any _ Wo ?_ | refine CallN.any _ WH ?_ | refine CallN.any _ WW ?_ | refine CallN.mk _ works24_d ?_ | refine AdN.mk _ _ rfl ?_ | refine DrawN.a (Ob.mk (by decide +kernel) ?_) | refine DrawN.c (Ob.mk (by decide +kernel) ?_) | refine DrawN.b (Ob.mk (by decide +kernel) ?_) | refine Ob.mk (by kernel_rfl) ?_ | (refine Br.mk (fun h => ?_) (fun h => ?_) <;> (first | (exfalso; exact Bool.false_ne_true h) | (exfalso; exact Bool.false_ne_true h.symm) | skip)) | refine SeqN.go ?_)); all_goals (conv => whnf)
  all_goals (clear N N2 Mx My Bx By W D DH R H1 H2 T O OH Wo WH WW ha hb hx hy wr; first | rfl | (exfalso; grind))
end Go.Proofs.YtcemohoigdninaaGreatDoor
