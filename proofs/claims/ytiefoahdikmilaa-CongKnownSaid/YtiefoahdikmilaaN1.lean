/- The statement CongSound, as a call. -/
import Derived.Test.YtiefoahdikmilaaB8
import Derived.Test.YtiefoahdikmilaaL5
import Derived.Test.YtiefoahdikmilaaM3
namespace Go.Proofs.Ytiefoahdikmilaa
open Go Go.RowKit Go.Sort
set_option linter.unusedVariables false
set_option linter.unusedSimpArgs false
set_option maxRecDepth 100000

theorem hmix : Try.prog.follows .mixedOrders = true := by kernel_rfl
theorem den_of {P : Program} {f : FuncId} {args : Array Value} {F : Facts} {v : Value} (h : ∀ W, Calls P f args W fun e w' => e = .returned v ∧ Below W.heap.size W w') : Den P f args F v := ⟨fun W _ => h W⟩

theorem fit_d (x y : Int) : Den Try.prog 43 #[.int .i64 x, .int .i64 y] noFacts (.tuple #[.bool (fitS x y), .bool (fitD x y), .bool (fitP x y)]) := by
  refine den_of_body (args := [.int .i64 x, .int .i64 y]) hmix Try.func43 ?_
  repeat' ((conv => whnf); first | refine Ob.mk (by kernel_rfl) ?_ | (refine Ob.mk (fun e => (by simp [e] at *)) ?_) | (refine Br.mk (fun h => ?_) (fun h => ?_) <;> (first | (exfalso; exact Bool.false_ne_true h) | (exfalso; exact Bool.false_ne_true h.symm) | skip)))
  all_goals
    conv => whnf
    simp only [retV, fitS, fitD, fitP, ← sg_eq]
    simp_all
    try omega

set_option maxHeartbeats 1000000 in
theorem congSound_d (am ar bm br n m : Int) (ha : 0 ≤ am) (ha' : am ≤ 18446744073709551615) (har : 0 ≤ ar) (har' : ar ≤ 18446744073709551615) (hb : 0 ≤ bm) (hb' : bm ≤ 18446744073709551615) (hbr : 0 ≤ br) (hbr' : br ≤ 18446744073709551615)
    (hn : -9223372036854775808 ≤ n) (hn' : n ≤ 9223372036854775807) (hm : -9223372036854775808 ≤ m) (hm' : m ≤ 9223372036854775807) :
    Den Try.prog 6 #[.agg #[.int .u64 am, .int .u64 ar], .agg #[.int .u64 bm, .int .u64 br], .int .i64 n, .int .i64 m] noFacts (.bool true) := by
  refine den_of_body (args := [.agg #[.int .u64 am, .int .u64 ar], .agg #[.int .u64 bm, .int .u64 br], .int .i64 n, .int .i64 m]) hmix Try.func6 ?_
  have D1 := den_of (F := noFacts) (ref_c am ar)
  have D2 := den_of (F := noFacts) (ref_c bm br)
  have E1 := den_of (F := noFacts) (rright_c am ar)
  have E2 := den_of (F := noFacts) (rright_c bm br)
  have WK := den_of (F := noFacts) works_c
  cases hRa : cright am ar
  · rw [hRa] at E1
    (repeat' ((conv => whnf); first | refine CallN.any _ D1 ?_ | refine CallN.any _ D2 ?_ | refine CallN.any _ E1 ?_ | refine CallN.any _ E2 ?_ | refine CallN.any _ WK ?_ | refine DrawN.a (Ob.mk (by decide +kernel) ?_) | refine DrawN.b (Ob.mk (by decide +kernel) ?_) | refine Ob.mk (by kernel_rfl) ?_ | (refine Br.mk (fun h => ?_) (fun h => ?_) <;> (first | (exfalso; exact Bool.false_ne_true h) | (exfalso; exact Bool.false_ne_true h.symm) | skip)) | refine SeqN.go ?_)); all_goals (conv => whnf)
    all_goals rfl
  cases hRb : cright bm br
  · rw [hRa] at E1
    rw [hRb] at E2
    (repeat' ((conv => whnf); first | refine CallN.any _ D1 ?_ | refine CallN.any _ D2 ?_ | refine CallN.any _ E1 ?_ | refine CallN.any _ E2 ?_ | refine CallN.any _ WK ?_ | refine DrawN.a (Ob.mk (by decide +kernel) ?_) | refine DrawN.b (Ob.mk (by decide +kernel) ?_) | refine Ob.mk (by kernel_rfl) ?_ | (refine Br.mk (fun h => ?_) (fun h => ?_) <;> (first | (exfalso; exact Bool.false_ne_true h) | (exfalso; exact Bool.false_ne_true h.symm) | skip)) | refine SeqN.go ?_)); all_goals (conv => whnf)
    all_goals rfl
  have hra := cright_of _ _ hRa
  have hrb := cright_of _ _ hRb
  rw [hRa] at E1
  rw [hRb] at E2
  have rx := cnear_rng am ar n ha hn hn'
  have ry := cnear_rng bm br m hb hm hm'
  have N1 := den_of (F := noFacts) fun W => near_c am ar n W ha ha' har har' hn hn'
  have N2 := den_of (F := noFacts) fun W => near_c bm br m W hb hb' hbr hbr' hm hm'
  have G1 := den_of (F := noFacts) fun W => has_c am ar (cnear am ar n) W ha ha' rx.1 rx.2
  have G2 := den_of (F := noFacts) fun W => has_c bm br (cnear bm br m) W hb hb' ry.1 ry.2
  have L1 := den_of (F := noFacts) fun W => least_c am ar (-9223372036854775808) W ha ha' har har' (by omega) (by omega)
  have L2 := den_of (F := noFacts) fun W => least_c bm br (-9223372036854775808) W hb hb' hbr hbr' (by omega) (by omega)
  have na := near_has (n := n) ha har har' hra hn hn'
  have nb := near_has (n := m) hb hbr hbr' hrb hm hm'
  generalize cnear am ar n = x at *
  generalize cnear bm br m = y at *
  by_cases hAB : ¬ (chas am ar x = true ∧ chas bm br y = true)
  · have key : ((cleast am ar (-9223372036854775808)).2 && (cleast bm br (-9223372036854775808)).2) = false := by
      cases h1 : (cleast am ar (-9223372036854775808)).2
      · rfl
      · cases h2 : (cleast bm br (-9223372036854775808)).2
        · rfl
        · exact absurd ⟨na h1, nb h2⟩ hAB
    (repeat' ((conv => whnf); first | refine CallN.any _ D1 ?_ | refine CallN.any _ D2 ?_ | refine CallN.any _ E1 ?_ | refine CallN.any _ E2 ?_ | refine CallN.any _ WK ?_ | refine CallN.any _ N1 ?_ | refine CallN.any _ N2 ?_ | refine CallN.any _ G1 ?_ | refine CallN.any _ G2 ?_ | refine CallN.any _ L1 ?_ | refine CallN.any _ L2 ?_ | refine DrawN.a (Ob.mk (by decide +kernel) ?_) | refine DrawN.b (Ob.mk (by decide +kernel) ?_) | refine Ob.mk (by kernel_rfl) ?_ | (refine Br.mk (fun h => ?_) (fun h => ?_) <;> (first | (exfalso; exact Bool.false_ne_true h) | (exfalso; exact Bool.false_ne_true h.symm) | skip)) | refine SeqN.go ?_)); all_goals (conv => whnf)
    all_goals first | rfl | (exfalso; simp_all; done)
  have hA := (Classical.not_not.1 hAB).1
  have hB := (Classical.not_not.1 hAB).2
  clear L1 L2 na nb hAB
  rw [hA] at G1
  rw [hB] at G2
  have JS := join_sound har har' hbr hbr' rx.1 rx.2 ry.1 ry.2 hA hB
  have ji := cjoin_in ha ha' har har' hb hb' hbr hbr'
  have J := den_of (F := noFacts) fun W => join_c am ar bm br W ha ha' har har' hb hb' hbr hbr'
  have J1 := den_of (F := noFacts) fun W => has_c (cjoin am ar bm br).1 (cjoin am ar bm br).2 x W ji.1.1 ji.1.2 rx.1 rx.2
  have J2 := den_of (F := noFacts) fun W => has_c (cjoin am ar bm br).1 (cjoin am ar bm br).2 y W ji.1.1 ji.1.2 ry.1 ry.2
  have J3 := den_of (F := noFacts) fun W => within_c am ar (cjoin am ar bm br).1 (cjoin am ar bm br).2 W ha ha' har har' ji.1.1 ji.1.2
  have J4 := den_of (F := noFacts) fun W => within_c bm br (cjoin am ar bm br).1 (cjoin am ar bm br).2 W hb hb' hbr hbr' ji.1.1 ji.1.2
  rw [JS.1] at J1
  rw [JS.2.1] at J2
  rw [JS.2.2.1] at J3
  rw [JS.2.2.2] at J4
  clear JS ji
  have M := den_of (F := noFacts) fun W => meet_c am ar bm br W ha ha' har har' hb hb' hbr hbr'
  have mi := cmeet_in ha ha' har har' hb hb' hbr hbr'
  have X1 := den_of (F := noFacts) fun W => has_c bm br x W hb hb' rx.1 rx.2
  have X2 := den_of (F := noFacts) fun W => has_c am ar y W ha ha' ry.1 ry.2
  have X3 := den_of (F := noFacts) fun W => has_c (cmeet am ar bm br).1.1 (cmeet am ar bm br).1.2 x W mi.1.1 mi.1.2 rx.1 rx.2
  have X4 := den_of (F := noFacts) fun W => has_c (cmeet am ar bm br).1.1 (cmeet am ar bm br).1.2 y W mi.1.1 mi.1.2 ry.1 ry.2
  have X5 := den_of (F := noFacts) fun W => within_c (cmeet am ar bm br).1.1 (cmeet am ar bm br).1.2 am ar W mi.1.1 mi.1.2 mi.2.1 mi.2.2 ha ha'
  have X6 := den_of (F := noFacts) fun W => within_c (cmeet am ar bm br).1.1 (cmeet am ar bm br).1.2 bm br W mi.1.1 mi.1.2 mi.2.1 mi.2.2 hb hb'
  have F1 := meet_sound (am := am) (ar := ar) (bm := bm) (br := br) rx.1 rx.2 hA
  have F2 := fun h => meet_sound (am := am) (ar := ar) (bm := bm) (br := br) ry.1 ry.2 h hB
  have F3 := meet_within har har' hbr hbr' hra hrb (am := am) (bm := bm)
  have FI := fit_d x y
  have sS := fitS_of rx.1 rx.2 ry.1 ry.2
  have sD := fitD_of rx.1 rx.2 ry.1 ry.2
  have sP := fitP_of rx.1 rx.2 ry.1 ry.2
  have A := den_of (F := noFacts) fun W => add_c am ar bm br W ha ha' har har' hb hb' hbr hbr'
  have B := den_of (F := noFacts) fun W => sub_c am ar bm br W ha ha' har har' hb hb' hbr hbr'
  have C := den_of (F := noFacts) fun W => mul_c am ar bm br W ha ha' har har' hb hb' hbr hbr'
  have ai := cadd_in ha ha' har har' hb hb' hbr hbr'
  have bi := csub_in ha ha' har har' hb hb' hbr hbr'
  have ci := cmul_in ha ha' har har' hb hb' hbr hbr'
  have sa := add_sound rx.1 rx.2 ry.1 ry.2 hA hB
  have sb := sub_sound rx.1 rx.2 ry.1 ry.2 hA hB
  have sc := mul_sound ha hb rx.1 rx.2 ry.1 ry.2 hA hB
  have wa := sg_rng (x + y)
  have wb := sg_rng (x - y)
  have wc := sg_rng (x * y)
  have A1 := den_of (F := noFacts) fun W => has_c (cadd am ar bm br).1 (cadd am ar bm br).2 (sg (x + y)) W ai.1.1 ai.1.2 wa.1 wa.2
  have B1 := den_of (F := noFacts) fun W => has_c (csub am ar bm br).1 (csub am ar bm br).2 (sg (x - y)) W bi.1.1 bi.1.2 wb.1 wb.2
  have C1 := den_of (F := noFacts) fun W => has_c (cmul am ar bm br).1 (cmul am ar bm br).2 (sg (x * y)) W ci.1.1 ci.1.2 wc.1 wc.2
  have A2 := den_of (F := noFacts) fun W => wrapped_c (cadd am ar bm br).1 (cadd am ar bm br).2 W ai.1.1 ai.1.2 ai.2.1 ai.2.2
  have B2 := den_of (F := noFacts) fun W => wrapped_c (csub am ar bm br).1 (csub am ar bm br).2 W bi.1.1 bi.1.2 bi.2.1 bi.2.2
  have C2 := den_of (F := noFacts) fun W => wrapped_c (cmul am ar bm br).1 (cmul am ar bm br).2 W ci.1.1 ci.1.2 ci.2.1 ci.2.2
  have ti := cwrapped_in ai.1.1 ai.1.2 ai.2.1 ai.2.2
  have tj := cwrapped_in bi.1.1 bi.1.2 bi.2.1 bi.2.2
  have tk := cwrapped_in ci.1.1 ci.1.2 ci.2.1 ci.2.2
  have A3 := den_of (F := noFacts) fun W => has_c (cwrapped (cadd am ar bm br).1 (cadd am ar bm br).2).1 (cwrapped (cadd am ar bm br).1 (cadd am ar bm br).2).2 (sg (x + y)) W ti.1.1 ti.1.2 wa.1 wa.2
  have B3 := den_of (F := noFacts) fun W => has_c (cwrapped (csub am ar bm br).1 (csub am ar bm br).2).1 (cwrapped (csub am ar bm br).1 (csub am ar bm br).2).2 (sg (x - y)) W tj.1.1 tj.1.2 wb.1 wb.2
  have C3 := den_of (F := noFacts) fun W => has_c (cwrapped (cmul am ar bm br).1 (cmul am ar bm br).2).1 (cwrapped (cmul am ar bm br).1 (cmul am ar bm br).2).2 (sg (x * y)) W tk.1.1 tk.1.2 wc.1 wc.2
  rw [wrap_sound ai.1.1 ai.1.2 sa] at A3
  rw [wrap_sound bi.1.1 bi.1.2 sb] at B3
  rw [wrap_sound ci.1.1 ci.1.2 sc] at C3
  have A4 := den_of (F := noFacts) fun W => within_c (cadd am ar bm br).1 (cadd am ar bm br).2 (cwrapped (cadd am ar bm br).1 (cadd am ar bm br).2).1 (cwrapped (cadd am ar bm br).1 (cadd am ar bm br).2).2 W ai.1.1 ai.1.2 ai.2.1 ai.2.2 ti.1.1 ti.1.2
  rw [wrap_within ai.1.1 ai.1.2 ai.2.1 ai.2.2] at A4
  have kS : fitS x y = true → chas (cadd am ar bm br).1 (cadd am ar bm br).2 (sg (x + y)) = true := fun h => by rw [sS h]; exact sa
  have kD : fitD x y = true → chas (csub am ar bm br).1 (csub am ar bm br).2 (sg (x - y)) = true := fun h => by rw [sD h]; exact sb
  have kP : fitP x y = true → chas (cmul am ar bm br).1 (cmul am ar bm br).2 (sg (x * y)) = true := fun h => by rw [sP h]; exact sc
  rw [← sg_eq] at A1 A3 kS
  rw [← sg_eq] at B1 B3 kD
  rw [← sg_eq] at C1 C3 kP
  clear sS sD sP sa sb sc ai bi ci wa wb wc ti tj tk mi
  generalize cjoin am ar bm br = j at *
  obtain ⟨jm, jr⟩ := j
  generalize cmeet am ar bm br = c at *
  obtain ⟨⟨cm, cr⟩, ok⟩ := c
  generalize cadd am ar bm br = p at *
  generalize csub am ar bm br = q at *
  generalize cmul am ar bm br = r at *
  obtain ⟨pm, pr⟩ := p
  obtain ⟨qm, qr⟩ := q
  obtain ⟨rm, rr⟩ := r
  generalize cwrapped pm pr = p at *
  generalize cwrapped qm qr = q at *
  generalize cwrapped rm rr = r at *
  obtain ⟨p2m, p2r⟩ := p
  obtain ⟨q2m, q2r⟩ := q
  obtain ⟨r2m, r2r⟩ := r
  dsimp only at *
  generalize fitS x y = s at *
  generalize fitD x y = d at *
  generalize fitP x y = f at *
  generalize chas bm br x = k1 at *
  generalize chas am ar y = k2 at *
  generalize chas cm cr x = k3 at *
  generalize chas cm cr y = k4 at *
  generalize cwithin cm cr am ar = k5 at *
  generalize cwithin cm cr bm br = k6 at *
  (repeat' ((conv => whnf); first | refine DrawN.a (Ob.mk (by decide +kernel) ?_) | refine DrawN.b (Ob.mk (by decide +kernel) ?_) | refine Ob.mk (by kernel_rfl) ?_ | (refine Br.mk (fun h => ?_) (fun h => ?_) <;> (first | (exfalso; exact Bool.false_ne_true h) | (exfalso; exact Bool.false_ne_true h.symm) | skip)))); all_goals (conv => whnf)
  refine SeqN.go ?_
  (repeat' ((conv => whnf); first | refine CallN.any _ D1 ?_ | refine CallN.any _ D2 ?_ | refine CallN.any _ E1 ?_ | refine CallN.any _ E2 ?_ | refine CallN.any _ N1 ?_ | refine CallN.any _ N2 ?_ | refine DrawN.a (Ob.mk (by decide +kernel) ?_) | refine DrawN.b (Ob.mk (by decide +kernel) ?_) | refine Ob.mk (by kernel_rfl) ?_ | (refine Br.mk (fun h => ?_) (fun h => ?_) <;> (first | (exfalso; exact Bool.false_ne_true h) | (exfalso; exact Bool.false_ne_true h.symm) | skip)))); all_goals (conv => whnf)
  refine SeqN.go ?_
  (repeat' ((conv => whnf); first | refine CallN.any _ G1 ?_ | refine CallN.any _ G2 ?_ | refine CallN.any _ J ?_ | refine DrawN.a (Ob.mk (by decide +kernel) ?_) | refine DrawN.b (Ob.mk (by decide +kernel) ?_) | refine Ob.mk (by kernel_rfl) ?_ | (refine Br.mk (fun h => ?_) (fun h => ?_) <;> (first | (exfalso; exact Bool.false_ne_true h) | (exfalso; exact Bool.false_ne_true h.symm) | skip)))); all_goals (conv => whnf)
  refine SeqN.go ?_
  (repeat' ((conv => whnf); first | refine CallN.any _ J1 ?_ | refine CallN.any _ J2 ?_ | refine CallN.any _ J3 ?_ | refine CallN.any _ J4 ?_ | refine CallN.any _ M ?_ | refine DrawN.a (Ob.mk (by decide +kernel) ?_) | refine DrawN.b (Ob.mk (by decide +kernel) ?_) | refine Ob.mk (by kernel_rfl) ?_ | (refine Br.mk (fun h => ?_) (fun h => ?_) <;> (first | (exfalso; exact Bool.false_ne_true h) | (exfalso; exact Bool.false_ne_true h.symm) | skip)))); all_goals (conv => whnf)
  clear D1 D2 E1 E2 N1 N2 G1 G2 J J1 J2 J3 J4 M
  refine SeqN.join ?_ ?_
  · (repeat' ((conv => whnf); first | refine CallN.any _ X1 ?_ | refine CallN.any _ X2 ?_ | refine CallN.any _ X3 ?_ | refine CallN.any _ X4 ?_ | refine CallN.any _ X5 ?_ | refine CallN.any _ X6 ?_ | refine DrawN.a (Ob.mk (by decide +kernel) ?_) | refine DrawN.b (Ob.mk (by decide +kernel) ?_) | refine Ob.mk (by kernel_rfl) ?_ | (refine Br.mk (fun h => ?_) (fun h => ?_) <;> (first | (exfalso; exact Bool.false_ne_true h) | (exfalso; exact Bool.false_ne_true h.symm) | skip)))); all_goals (conv => whnf)
    all_goals clear X1 X2 X3 X4 X5 X6 FI A B C A1 B1 C1 A2 B2 C2 A3 B3 C3 A4 WK
    all_goals first | (exfalso; simp_all; done) | (refine EndN.mk () ?_; (conv => whnf); (repeat' (first | exact True.intro | exact rfl | refine And.intro ?_ ?_ | decide)))
  clear X1 X2 X3 X4 X5 X6
  (repeat' ((conv => whnf); first | refine CallN.any _ FI ?_ | refine CallN.any _ A ?_ | refine CallN.any _ B ?_ | refine CallN.any _ C ?_ | refine DrawN.a (Ob.mk (by decide +kernel) ?_) | refine DrawN.b (Ob.mk (by decide +kernel) ?_) | refine Ob.mk (by kernel_rfl) ?_ | (refine Br.mk (fun h => ?_) (fun h => ?_) <;> (first | (exfalso; exact Bool.false_ne_true h) | (exfalso; exact Bool.false_ne_true h.symm) | skip)))); all_goals (conv => whnf)
  refine SeqN.join ?_ ?_
  · (repeat' ((conv => whnf); first | refine CallN.any _ A1 ?_ | refine CallN.any _ B1 ?_ | refine CallN.any _ C1 ?_ | refine DrawN.a (Ob.mk (by decide +kernel) ?_) | refine DrawN.b (Ob.mk (by decide +kernel) ?_) | refine Ob.mk (by kernel_rfl) ?_ | (refine Br.mk (fun h => ?_) (fun h => ?_) <;> (first | (exfalso; exact Bool.false_ne_true h) | (exfalso; exact Bool.false_ne_true h.symm) | skip)))); all_goals (conv => whnf)
    all_goals clear FI A B C A1 B1 C1 A2 B2 C2 A3 B3 C3 A4 WK
    all_goals first | (exfalso; simp_all; done) | (refine EndN.mk () ?_; (conv => whnf); (repeat' (first | exact True.intro | exact rfl | refine And.intro ?_ ?_ | decide)))
  (repeat' ((conv => whnf); first | refine CallN.any _ A2 ?_ | refine CallN.any _ B2 ?_ | refine CallN.any _ C2 ?_ | refine CallN.any _ A3 ?_ | refine CallN.any _ B3 ?_ | refine CallN.any _ C3 ?_ | refine CallN.any _ A4 ?_ | refine CallN.any _ WK ?_ | refine DrawN.a (Ob.mk (by decide +kernel) ?_) | refine DrawN.b (Ob.mk (by decide +kernel) ?_) | refine Ob.mk (by kernel_rfl) ?_ | (refine Br.mk (fun h => ?_) (fun h => ?_) <;> (first | (exfalso; exact Bool.false_ne_true h) | (exfalso; exact Bool.false_ne_true h.symm) | skip)))); all_goals (conv => whnf)
  all_goals rfl

end Go.Proofs.Ytiefoahdikmilaa
