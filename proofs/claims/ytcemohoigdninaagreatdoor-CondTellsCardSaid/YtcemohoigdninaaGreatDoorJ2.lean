/- CondKeeps as a call. -/
import Derived.Test.YtcemohoigdninaaGreatDoorPK
import Derived.Test.YtcemohoigdninaaGreatDoorG4
namespace Go.Proofs.YtcemohoigdninaaGreatDoor
open Go Go.RowKit Go.Sort
set_option linter.unusedVariables false
set_option linter.unusedSimpArgs false
set_option maxRecDepth 100000

theorem mod8 (op : Int) : 0 ≤ (IntKind.i64.wrap (op.tmod 8 + 8)).tmod 8 ∧ (IntKind.i64.wrap (op.tmod 8 + 8)).tmod 8 ≤ 7 := by
  have h1 := Int.tmod_lt_of_pos op (show (0 : Int) < 8 by decide)
  have h2 : -8 < op.tmod 8 := Int.lt_tmod_of_pos op (by decide)
  rw [wrap_id ⟨by omega, by omega⟩]
  have h3 := Int.tmod_nonneg 8 (show 0 ≤ op.tmod 8 + 8 by omega)
  have h4 := Int.tmod_lt_of_pos (op.tmod 8 + 8) (show (0 : Int) < 8 by decide)
  omega
theorem within_r {x y : VV} (h : RV x) (k : RV y) (hs : vwithin x y = true) : Den Tryz.prog 71 #[VVal x, VVal y] noFacts (.bool true) := by
  have := vWithin_d x y h.inn k.inn
  rwa [h.fix, k.fix, hs] at this
theorem within_i {x y : VV} (h : RV x) (k : InV y) (hs : vwithin x (vmake y) = true) : Den Tryz.prog 71 #[VVal x, VVal y] noFacts (.bool true) := by
  have := vWithin_d x y h.inn k
  rwa [h.fix, hs] at this
theorem refine_r {op : Int} {x y : VV} {t : Bool} (h : RV x) (k : RV y) : Den Tryz.prog 17 #[.int .i64 op, VVal x, VVal y, .bool t] noFacts (.tuple #[VVal (crefine op x y t).1, VVal (crefine op x y t).2]) := by
  have := cRefine_d op x y t h.inn k.inn
  rwa [h.fix, k.fix] at this
set_option maxHeartbeats 4000000 in
theorem condKeeps_d (op : Int) (x y : VV) (t : Bool) (hx : InV x) (hy : InV y) : Den Tryz.prog 39 #[.int .i64 op, VVal x, VVal y, .bool t] tabF (.bool true) := by
  refine den_of_body (args := [.int .i64 op, VVal x, VVal y, .bool t]) hmix Tryz.func39 ?_
  (repeat' ((conv => whnf); first | refine Ob.mk (by decide) ?_ | refine AdN.mk _ _ rfl ?_ | refine DrawN.a (Ob.mk (by decide +kernel) ?_) | refine DrawN.c (Ob.mk (by decide +kernel) ?_) | refine DrawN.b (Ob.mk (by decide +kernel) ?_) | refine Ob.mk (by kernel_rfl) ?_ | (refine Br.mk (fun h => ?_) (fun h => ?_) <;> (first | (exfalso; exact Bool.false_ne_true h) | (exfalso; exact Bool.false_ne_true h.symm) | skip)) | refine SeqN.go ?_)); all_goals (conv => whnf)
  have ho := mod8 op
  generalize (IntKind.i64.wrap (op.tmod 8 + 8)).tmod 8 = o at *
  have ha := vmake_rv hx
  have hb := vmake_rv hy
  have L := refine_law (t := t) ha hb ho.1 ho.2
  have D := do_law ha hb ho.1 ho.2
  have R1 := cRefine_d o x y t hx hy
  have Do := cDo_d o x y hx hy
  have W1 := within_i (y := x) L.rp hx ((vwithin_iff L.rp ha).2 L.sp)
  have W2 := within_i (y := y) L.rq hy ((vwithin_iff L.rq hb).2 L.sq)
  have key : (if t then tY (cdo o (vmake x) (vmake y)) else tN (cdo o (vmake x) (vmake y))) = !(veq (crefine o (vmake x) (vmake y) t).1 vbot) := by
    have := L.full
    rw [D.y, D.n]
    by_cases hc : (crefine o (vmake x) (vmake y) t).1 = vbot
    · rw [veq_iff.2 hc]
      have hn := fun q => (this.2 q) hc
      by_cases na : vmake x = vbot
      · rw [veq_iff.2 na]; cases t <;> rfl
      by_cases nb : vmake y = vbot
      · rw [veq_iff.2 nb]; cases t <;> simp
      have hm : ¬ (if t then (cmay o (vmake x) (vmake y)).1 else (cmay o (vmake x) (vmake y)).2) = true := fun q => hn ⟨na, nb, q⟩
      rw [veq_false na, veq_false nb]
      cases t <;> simpa using hm
    · obtain ⟨q1, q2, q3⟩ := this.1 hc
      rw [veq_false hc, veq_false q1, veq_false q2]
      cases t <;> simpa using q3
  have vb : veq (cdo o (vmake x) (vmake y)) vbot = true → veq (crefine o (vmake x) (vmake y) t).1 vbot = true := fun q => by
    rcases D.bot.1 (veq_iff.1 q) with q | q
    · by_cases hc : (crefine o (vmake x) (vmake y) t).1 = vbot
      · exact veq_iff.2 hc
      · exact absurd q (L.full.1 hc).1
    · by_cases hc : (crefine o (vmake x) (vmake y) t).1 = vbot
      · exact veq_iff.2 hc
      · exact absurd q (L.full.1 hc).2.1
  have bb : veq (crefine o (vmake x) (vmake y) t).1 vbot = veq (crefine o (vmake x) (vmake y) t).2 vbot := by
    cases h1 : veq (crefine o (vmake x) (vmake y) t).1 vbot with
    | true => rw [veq_iff.2 (L.both.1 (veq_iff.1 h1))]
    | false =>
      cases h2 : veq (crefine o (vmake x) (vmake y) t).2 vbot with
      | false => rfl
      | true => rw [veq_iff.2 (L.both.2 (veq_iff.1 h2))] at h1; cases h1
  have L2 := refine_law (t := t) L.rp L.rq ho.1 ho.2
  have R2 := refine_r (op := o) (t := t) L.rp L.rq
  have W3 := within_r L2.rp L.rp ((vwithin_iff L2.rp L.rp).2 L2.sp)
  have W4 := within_r L2.rq L.rq ((vwithin_iff L2.rq L.rq).2 L2.sq)
  have B1 := bottom_r L.rp
  have B2 := bottom_r L.rq
  have B3 := bottom_r D.rv
  have T := truth_r D.rv
  have e01 : vmake ⟨0, 1, 1, 0⟩ = ⟨0, 1, 1, 0⟩ := by decide +kernel
  have R01 := vRange_e (lo := 0) (hi := 1) (y := ⟨0, 1, 1, 0⟩) ⟨by decide, by decide⟩ ⟨by decide, by decide⟩ (by decide +kernel)
  have W5 := within_i (y := ⟨0, 1, 1, 0⟩) D.rv ⟨⟨by decide, by decide⟩, ⟨by decide, by decide⟩, ⟨by decide, by decide⟩, ⟨by decide, by decide⟩⟩ (by rw [e01]; exact D.within)
  have ag : o ≠ 2 → o ≠ 3 → (crefine o (crefine o (vmake x) (vmake y) t).1 (crefine o (vmake x) (vmake y) t).2 t).1 = (crefine o (vmake x) (vmake y) t).1 ∧ (crefine o (crefine o (vmake x) (vmake y) t).1 (crefine o (vmake x) (vmake y) t).2 t).2 = (crefine o (vmake x) (vmake y) t).2 := fun o2 o3 => by
    have := L.again o2 o3
    rw [this]
    exact ⟨rfl, rfl⟩
  clear L2 L D
  generalize (crefine o (crefine o (vmake x) (vmake y) t).1 (crefine o (vmake x) (vmake y) t).2 t).1 = e at *
  generalize (crefine o (crefine o (vmake x) (vmake y) t).1 (crefine o (vmake x) (vmake y) t).2 t).2 = f at *
  generalize (crefine o (vmake x) (vmake y) t).1 = c at *
  generalize (crefine o (vmake x) (vmake y) t).2 = d at *
  generalize cdo o (vmake x) (vmake y) = v at *
  (repeat' ((conv => whnf); first | refine CallN.any _ R1 ?_ | refine CallN.any _ R2 ?_ | refine CallN.any _ W1 ?_ | refine CallN.any _ W2 ?_ | refine CallN.any _ W3 ?_ | refine CallN.any _ W4 ?_ | refine CallN.any _ B1 ?_ | refine CallN.any _ B2 ?_ | refine CallN.any _ B3 ?_ | refine CallN.any _ T ?_ | refine CallN.any _ Do ?_ | refine CallN.any _ R01 ?_ | refine CallN.any _ W5 ?_ | refine CallN.mk _ works24_d ?_ | refine AdN.mk _ _ rfl ?_ | refine DrawN.a (Ob.mk (by decide +kernel) ?_) | refine DrawN.c (Ob.mk (by decide +kernel) ?_) | refine DrawN.b (Ob.mk (by decide +kernel) ?_) | refine Ob.mk (by kernel_rfl) ?_ | (refine Br.mk (fun h => ?_) (fun h => ?_) <;> (first | (exfalso; exact Bool.false_ne_true h) | (exfalso; exact Bool.false_ne_true h.symm) | skip)) | refine SeqN.go ?_)); all_goals (conv => whnf)
  all_goals (clear R1 R2 W1 W2 W3 W4 B1 B2 B3 T Do R01 W5 e01; first | rfl | (exfalso; clear ha hb hx hy; cases t <;> grind))
end Go.Proofs.YtcemohoigdninaaGreatDoor
