/- ArithSound as a call. -/
import Derived.Test.YtljhbdgoknfkcaaGreatDoorJ5
import Derived.Test.YtljhbdgoknfkcaaGreatDoorJ2
import Derived.Test.YtljhbdgoknfkcaaGreatDoorPA
import Derived.Test.YtljhbdgoknfkcaaGreatDoorG5
namespace Go.Proofs.YtljhbdgoknfkcaaGreatDoor
open Go Go.RowKit Go.Sort
set_option linter.unusedVariables false
set_option linter.unusedSimpArgs false
set_option maxRecDepth 100000

theorem near22_bot (x : VV) (n : Int) (hx : InV x) (hb : vmake x = vbot) : Den Tryz.prog 87 #[VVal x, .int .i64 n] noFacts (.tuple #[.int .i64 0, .bool false]) := by
  refine den_of_body (args := [VVal x, .int .i64 n]) hmix Tryz.func87 ?_
  have hm := vmake_rv hx
  have M := vMake_d x hx
  have B := bottom_r hm
  rw [hb] at M B
  (repeat' ((conv => whnf); first | refine CallN.any _ M ?_ | refine CallN.any _ B ?_ | refine AdN.mk _ _ rfl ?_ | refine DrawN.a (Ob.mk (by decide +kernel) ?_) | refine DrawN.c (Ob.mk (by decide +kernel) ?_) | refine DrawN.b (Ob.mk (by decide +kernel) ?_) | refine Ob.mk (by kernel_rfl) ?_ | (refine Br.mk (fun h => ?_) (fun h => ?_) <;> (first | (exfalso; exact Bool.false_ne_true h) | (exfalso; exact Bool.false_ne_true h.symm) | skip)) | refine SeqN.go ?_)); all_goals (conv => whnf)
  all_goals first | rfl | (exfalso; clear M B; revert hb; grind [veq])
theorem near22_d (x : VV) (n : Int) (hx : InV x) (hn : IS n) (hb : vmake x ≠ vbot) : Den Tryz.prog 87 #[VVal x, .int .i64 n] noFacts (.tuple #[.int .i64 (cnr (vmake x) n), .bool true]) := by
  refine den_of_body (args := [VVal x, .int .i64 n]) hmix Tryz.func87 ?_
  have hm := vmake_rv hx
  have M := vMake_d x hx
  have B := bottom_r hm
  have H2 := fun k => vHas_d x k hx
  generalize vmake x = m at *
  have c := clamp_rng hm hb n
  have hl := hm.inn.lo
  have hh := hm.inn.hi
  have zi : IS (clamp m n) := ⟨by omega, by omega⟩
  have k := cnr_in hm hb n
  have ki := vin_is hm k
  have L := den_of (F := noFacts) fun W => least_c m.m m.r (clamp m n) W hm.inn.m.1 hm.inn.m.2 hm.inn.r.1 hm.inn.r.2 zi.1 zi.2
  have li := cleast_rng m.m m.r (clamp m n) hm.inn.m.1 zi.1 zi.2
  have g1 := vhas_iff.2 (hm.lo_in hb)
  have A1 : Den Tryz.prog 41 #[VVal m, .int .i64 m.lo] noFacts (.bool true) := (has_r m.lo hm hl).eq (by rw [g1])
  have A2 : Den Tryz.prog 41 #[VVal x, .int .i64 m.lo] noFacts (.bool true) := (H2 m.lo hl).eq (by rw [g1])
  have A3 := has_r _ hm li
  have A4 := H2 _ li
  rw [veq_false hb] at B
  have kk : ¬ ((cleast m.m m.r (clamp m n)).2 = false ∨ (cleast m.m m.r (clamp m n)).1 > m.hi) → vhas m (cleast m.m m.r (clamp m n)).1 = true := fun q => by
    have := vhas_iff.2 k
    unfold cnr at this
    rwa [if_neg q] at this
  (repeat' ((conv => whnf); first | refine CallN.any _ M ?_ | refine CallN.any _ B ?_ | refine CallN.any _ L ?_ | refine CallN.any _ A1 ?_ | refine CallN.any _ A2 ?_ | refine CallN.any _ A3 ?_ | refine CallN.any _ A4 ?_ | refine AdN.mk _ _ rfl ?_ | refine DrawN.a (Ob.mk (by decide +kernel) ?_) | refine DrawN.c (Ob.mk (by decide +kernel) ?_) | refine DrawN.b (Ob.mk (by decide +kernel) ?_) | refine Ob.mk (by kernel_rfl) ?_ | (refine Br.mk (fun h => ?_) (fun h => ?_) <;> (first | (exfalso; exact Bool.false_ne_true h) | (exfalso; exact Bool.false_ne_true h.symm) | skip)) | refine SeqN.go ?_)); all_goals (conv => whnf)
  all_goals (clear M B L A1 A2 A3 A4 H2 k ki hm; grind [retV, cnr])
theorem wDoA_d {o : Int} (ho : aknown o) (a b : Int) : Den Tryz.prog 31 #[.int .i64 o, .int .i64 a, .int .i64 b] noFacts (.tuple #[.int .i64 (wdo o a b), .bool true]) := by
  rcases ho with rfl | rfl | rfl
  · exact wDo13_d a b
  · exact wDo14_d a b
  · exact wDo15_d a b
theorem made_d (o : Int) (a b : VV) (n : Int) (ho : aknown o) (hk : ∃ k, k < 4 ∧ wdo o (cox a k) (coy b k) = n) : Den Tryz.prog 89 #[.int .i64 o, VVal a, VVal b, .int .i64 n] noFacts (.bool true) := by
  refine den_of_body (args := [.int .i64 o, VVal a, VVal b, .int .i64 n]) hmix Tryz.func89 ?_
  have W1 := wDoA_d ho a.lo b.lo
  have W2 := wDoA_d ho a.lo b.hi
  have W3 := wDoA_d ho a.hi b.lo
  have W4 := wDoA_d ho a.hi b.hi
  have key : wdo o a.lo b.lo = n ∨ wdo o a.lo b.hi = n ∨ wdo o a.hi b.lo = n ∨ wdo o a.hi b.hi = n := by
    obtain ⟨k, h1, h2⟩ := hk
    rcases k with _ | _ | _ | _ | k
    · exact .inl h2
    · exact .inr (.inl h2)
    · exact .inr (.inr (.inl h2))
    · exact .inr (.inr (.inr h2))
    · omega
  clear hk
  (repeat' ((conv => whnf); first | refine CallN.any _ W1 ?_ | refine CallN.any _ W2 ?_ | refine CallN.any _ W3 ?_ | refine CallN.any _ W4 ?_ | refine LoopN.roll 5 ?_ | refine Ob.mk (by decide) ?_ | refine Ob.mk ⟨by decide, by decide⟩ ?_ | refine RowN.mk _ rfl rfl ?_ | refine AdN.mk _ _ rfl ?_ | refine DrawN.a (Ob.mk (by decide +kernel) ?_) | refine DrawN.c (Ob.mk (by decide +kernel) ?_) | refine DrawN.b (Ob.mk (by decide +kernel) ?_) | refine Ob.mk (by kernel_rfl) ?_ | (refine Br.mk (fun h => ?_) (fun h => ?_) <;> (first | (exfalso; exact Bool.false_ne_true h) | (exfalso; exact Bool.false_ne_true h.symm) | skip)) | refine SeqN.go ?_)); all_goals (conv => whnf)
  all_goals first
    | rfl
    | (exfalso; clear W1 W2 W3 W4; simp only [beq_eq_false_iff_ne, ne_eq, beq_iff_eq] at *; rcases key with q | q | q | q <;> contradiction)
structure Half (o : Int) (x y : VV) (p q : Int) : Prop where
  D : Den Tryz.prog 19 #[.int .i64 o, VVal x, VVal y] noFacts (VVal (ado o (vmake x) (vmake y)))
  W : Den Tryz.prog 31 #[.int .i64 o, .int .i64 p, .int .i64 q] noFacts (.tuple #[.int .i64 (wdo o p q), .bool true])
  S : Den Tryz.prog 19 #[.int .i64 o, VVal (vone p), VVal (vone q)] noFacts (VVal (vone (wdo o p q)))
  O : Den Tryz.prog 32 #[VVal (vone (wdo o p q))] noFacts (.tuple #[.int .i64 (wdo o p q), .bool true])
  H : Den Tryz.prog 41 #[VVal (ado o (vmake x) (vmake y)), .int .i64 (wdo o p q)] noFacts (.bool true)
  R : Den Tryz.prog 23 #[.int .i64 o, VVal x, VVal y] noFacts (.bool (awraps o (vmake x) (vmake y)))
  M1 : (!awraps o (vmake x) (vmake y)) = true → Den Tryz.prog 89 #[.int .i64 o, VVal (vmake x), VVal (vmake y), .int .i64 (ado o (vmake x) (vmake y)).lo] noFacts (.bool true)
  M2 : (!awraps o (vmake x) (vmake y)) = true → Den Tryz.prog 89 #[.int .i64 o, VVal (vmake x), VVal (vmake y), .int .i64 (ado o (vmake x) (vmake y)).hi] noFacts (.bool true)
theorem half {o : Int} {x y : VV} {p q : Int} (ho : aknown o) (hx : InV x) (hy : InV y) (hp : IS p) (hq : IS q) (vp : vin (vmake x) p) (vq : vin (vmake y) q) : Half o x y p q := by
  have ha := vmake_rv hx
  have hb := vmake_rv hy
  have na := RV.ne vp
  have nb := RV.ne vq
  have op := rv_one hp
  have oq := rv_one hq
  have ri : IS (wdo o p q) := by rw [wdo_sg ho]; exact sg_is _
  refine ⟨aDo_d o x y hx hy, wDoA_d ho p q, ?_, ?_, ?_, aWraps_d o x y hx hy, fun h => ?_, fun h => ?_⟩
  · have := aDo_d o _ _ op.inn oq.inn
    rwa [op.fix, oq.fix, ado_ones ho, ← wdo_sg ho] at this
  · have := single_r (rv_one ri)
    rwa [show (vone (wdo o p q)).lo = wdo o p q from rfl, show (vone (wdo o p q)).hi = wdo o p q from rfl, if_pos rfl, beq_self_eq_true] at this
  · have := has_r _ (ado_rv (op := o) ha hb) ri
    rwa [vhas_iff.2 (wdo_sg ho p q ▸ ado_sound ho ha hb hp hq vp vq)] at this
  · have e := ado_ends ho ha hb na nb (by simpa using h)
    rw [e.1]
    obtain ⟨k, hk, h2⟩ := spanL_mem o (vmake x) (vmake y)
    refine made_d o _ _ _ ho ⟨k, hk, ?_⟩
    rw [wdo_sg ho, ← h2]
    exact sg_in _ e.2.2.1.1 e.2.2.1.2
  · have e := ado_ends ho ha hb na nb (by simpa using h)
    rw [e.2.1]
    obtain ⟨k, hk, h2⟩ := spanG_mem o (vmake x) (vmake y)
    refine made_d o _ _ _ ho ⟨k, hk, ?_⟩
    rw [wdo_sg ho, ← h2]
    exact sg_in _ e.2.2.2.1 e.2.2.2.2
set_option maxHeartbeats 4000000 in
theorem arithSound_d (x y : VV) (n m : Int) (hx : InV x) (hy : InV y) (hn : IS n) (hm : IS m) : Den Tryz.prog 26 #[VVal x, VVal y, .int .i64 n, .int .i64 m] tabF (.bool true) := by
  refine den_of_body (args := [VVal x, VVal y, .int .i64 n, .int .i64 m]) hmix Tryz.func26 ?_
  have ha := vmake_rv hx
  have hb := vmake_rv hy
  have Mx := vMake_d x hx
  have My := vMake_d y hy
  have Bx := bottom_r ha
  have By := bottom_r hb
  by_cases na : vmake x = vbot
  · have N := near22_bot x n hx na
    have tb : veq vbot vbot = true := veq_iff.2 rfl
    by_cases nb : vmake y = vbot
    · have N2 := near22_bot y m hy nb
      rw [na] at Mx Bx
      rw [nb] at My By
      rw [tb] at Bx By
      (repeat' ((conv => whnf); first | refine CallN.any _ N ?_ | refine CallN.any _ N2 ?_ | refine CallN.any _ Mx ?_ | refine CallN.any _ My ?_ | refine CallN.any _ Bx ?_ | refine CallN.any _ By ?_ | refine CallN.mk _ works22_d ?_ | refine AdN.mk _ _ rfl ?_ | refine DrawN.a (Ob.mk (by decide +kernel) ?_) | refine DrawN.c (Ob.mk (by decide +kernel) ?_) | refine DrawN.b (Ob.mk (by decide +kernel) ?_) | refine Ob.mk (by kernel_rfl) ?_ | (refine Br.mk (fun h => ?_) (fun h => ?_) <;> (first | (exfalso; exact Bool.false_ne_true h) | (exfalso; exact Bool.false_ne_true h.symm) | skip)) | refine SeqN.go ?_)); all_goals (conv => whnf)
      all_goals first | rfl | (exfalso; simp at *; done)
    · have N2 := near22_d y m hy hm nb
      rw [na] at Mx Bx
      rw [tb] at Bx
      (repeat' ((conv => whnf); first | refine CallN.any _ N ?_ | refine CallN.any _ N2 ?_ | refine CallN.any _ Mx ?_ | refine CallN.any _ My ?_ | refine CallN.any _ Bx ?_ | refine CallN.any _ By ?_ | refine CallN.mk _ works22_d ?_ | refine AdN.mk _ _ rfl ?_ | refine DrawN.a (Ob.mk (by decide +kernel) ?_) | refine DrawN.c (Ob.mk (by decide +kernel) ?_) | refine DrawN.b (Ob.mk (by decide +kernel) ?_) | refine Ob.mk (by kernel_rfl) ?_ | (refine Br.mk (fun h => ?_) (fun h => ?_) <;> (first | (exfalso; exact Bool.false_ne_true h) | (exfalso; exact Bool.false_ne_true h.symm) | skip)) | refine SeqN.go ?_)); all_goals (conv => whnf)
      all_goals first | rfl | (exfalso; simp at *; done)
  by_cases nb : vmake y = vbot
  · have tb : veq vbot vbot = true := veq_iff.2 rfl
    have N := near22_d x n hx hn na
    have N2 := near22_bot y m hy nb
    rw [nb] at My By
    rw [tb] at By
    rw [veq_false na] at Bx
    (repeat' ((conv => whnf); first | refine CallN.any _ N ?_ | refine CallN.any _ N2 ?_ | refine CallN.any _ Mx ?_ | refine CallN.any _ My ?_ | refine CallN.any _ Bx ?_ | refine CallN.any _ By ?_ | refine CallN.mk _ works22_d ?_ | refine AdN.mk _ _ rfl ?_ | refine DrawN.a (Ob.mk (by decide +kernel) ?_) | refine DrawN.c (Ob.mk (by decide +kernel) ?_) | refine DrawN.b (Ob.mk (by decide +kernel) ?_) | refine Ob.mk (by kernel_rfl) ?_ | (refine Br.mk (fun h => ?_) (fun h => ?_) <;> (first | (exfalso; exact Bool.false_ne_true h) | (exfalso; exact Bool.false_ne_true h.symm) | skip)) | refine SeqN.go ?_)); all_goals (conv => whnf)
    all_goals first | rfl | (exfalso; simp at *; done)
  have N := near22_d x n hx hn na
  have N2 := near22_d y m hy hm nb
  have vp := cnr_in ha na n
  have vq := cnr_in hb nb m
  generalize cnr (vmake x) n = p at *
  generalize cnr (vmake y) m = q at *
  have ip := vin_is ha vp
  have iq := vin_is hb vq
  obtain ⟨D1, W1, S1, O1, H1, R1, P1, Q1⟩ := half (o := 13) (.inl rfl) hx hy ip iq vp vq
  obtain ⟨D2, W2, S2, O2, H2, R2, P2, Q2⟩ := half (o := 14) (.inr (.inl rfl)) hx hy ip iq vp vq
  obtain ⟨D3, W3, S3, O3, H3, R3, P3, Q3⟩ := half (o := 15) (.inr (.inr rfl)) hx hy ip iq vp vq
  have NG := aNeg_d x hx
  have WN := wNeg_d p
  have z0 := rv_one (n := 0) ⟨by decide, by decide⟩
  have v0 : vin (vone 0) 0 := (vin_one ⟨by decide, by decide⟩ ⟨by decide, by decide⟩).2 rfl
  have NH := has_r (IntKind.i64.wrap (-p)) (ado_rv (op := 14) z0 ha) (wrap_is _)
  have ns := ado_sound (op := 14) (.inr (.inl rfl)) z0 ha ⟨by decide, by decide⟩ ip v0 vp
  rw [show wex 14 0 p = -p from Int.zero_sub p, ← sg_eq] at ns
  rw [vhas_iff.2 ns] at NH
  clear ns v0 z0 vp vq Bx By ha hb hx hy na nb
  generalize vmake x = a at *
  generalize vmake y = b at *
  generalize ado 14 (vone 0) a = na at *
  generalize wdo 13 p q = r1 at *
  generalize wdo 14 p q = r2 at *
  generalize wdo 15 p q = r3 at *
  generalize ado 13 a b = v1 at *
  generalize ado 14 a b = v2 at *
  generalize ado 15 a b = v3 at *
  generalize awraps 13 a b = w1 at *
  generalize awraps 14 a b = w2 at *
  generalize awraps 15 a b = w3 at *
  (repeat' ((conv => whnf); first | refine CallN.any _ N ?_ | refine CallN.any _ N2 ?_ | refine CallN.any _ Mx ?_ | refine CallN.any _ My ?_ | refine CallN.anyFresh _ _ ops_f ?_ | refine CallN.any _ D1 ?_ | refine CallN.any _ W1 ?_ | refine CallN.any _ S1 ?_ | refine CallN.any _ O1 ?_ | refine CallN.any _ H1 ?_ | refine CallN.any _ R1 ?_ | refine CallN.any _ (P1 ‹_›) ?_ | refine CallN.any _ (Q1 ‹_›) ?_ | refine CallN.any _ D2 ?_ | refine CallN.any _ W2 ?_ | refine CallN.any _ S2 ?_ | refine CallN.any _ O2 ?_ | refine CallN.any _ H2 ?_ | refine CallN.any _ R2 ?_ | refine CallN.any _ (P2 ‹_›) ?_ | refine CallN.any _ (Q2 ‹_›) ?_ | refine CallN.any _ D3 ?_ | refine CallN.any _ W3 ?_ | refine CallN.any _ S3 ?_ | refine CallN.any _ O3 ?_ | refine CallN.any _ H3 ?_ | refine CallN.any _ R3 ?_ | refine CallN.any _ (P3 ‹_›) ?_ | refine CallN.any _ (Q3 ‹_›) ?_ | refine CallN.any _ (vOne_d _) ?_ | refine CallN.any _ NG ?_ | refine CallN.any _ WN ?_ | refine CallN.any _ NH ?_ | refine CallN.mk _ works22_d ?_ | refine LoopN.roll 4 ?_ | refine Ob.mk (by decide) ?_ | refine Ob.mk ⟨by decide, by decide⟩ ?_ | refine RowN.mk _ rfl rfl ?_ | refine AdN.mk _ _ rfl ?_ | refine DrawN.a (Ob.mk (by decide +kernel) ?_) | refine DrawN.c (Ob.mk (by decide +kernel) ?_) | refine DrawN.b (Ob.mk (by decide +kernel) ?_) | refine Ob.mk (by kernel_rfl) ?_ | (refine Br.mk (fun h => ?_) (fun h => ?_) <;> (first | (exfalso; exact Bool.false_ne_true h) | (exfalso; exact Bool.false_ne_true h.symm) | skip)) | refine SeqN.go ?_)); all_goals (conv => whnf)
  all_goals first | rfl | (exfalso; clear N N2 Mx My D1 W1 S1 O1 H1 R1 P1 Q1 D2 W2 S2 O2 H2 R2 P2 Q2 D3 W3 S3 O3 H3 R3 P3 Q3 NG WN NH; simp at *; done)
end Go.Proofs.YtljhbdgoknfkcaaGreatDoor
