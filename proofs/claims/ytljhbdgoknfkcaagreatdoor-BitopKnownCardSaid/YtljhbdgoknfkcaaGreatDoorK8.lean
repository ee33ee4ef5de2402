/- Contracts of the reference of values: how many numbers, the least ones (what K7 has beside texts). -/
import Derived.Test.YtljhbdgoknfkcaaGreatDoorS1
import Derived.Test.YtljhbdgoknfkcaaGreatDoorK3
namespace Go.Proofs.YtljhbdgoknfkcaaGreatDoor
open Go Go.RowKit Go.Sort
set_option linter.unusedVariables false
set_option linter.unusedSimpArgs false
set_option maxRecDepth 100000

theorem top_of {v : VV} (h : RV v) (nb : v ≠ vbot) (hm : v.m ≠ 0) (hq : (v.hi - v.lo) / v.m = 18446744073709551615) : v = vtop := by
  have b1 := h.inn.lo; have b2 := h.inn.hi; have b3 := h.inn.m
  rcases h.way with w | ⟨_, w, _⟩ | ⟨w1, w2, w3, w4, w5, w6⟩
  · exact absurd w nb
  · exact absurd w hm
  · have e1 := Int.mul_ediv_add_emod (v.hi - v.lo) v.m
    have e2 := emod_rng (v.hi - v.lo) v.m w2
    rw [hq] at e1
    have : v.m = 1 := by
      have h1 : v.m * 18446744073709551615 ≤ 18446744073709551615 := by omega
      omega
    have hr : v.r = 0 := by omega
    obtain ⟨lo, hi, m, r⟩ := v
    dsimp only at *
    subst this hr
    rw [show lo = -9223372036854775808 by omega, show hi = 9223372036854775807 by omega]
    rfl
theorem rCard_d (v : VV) (h : RV v) : Den Tryz.prog 48 #[VVal v] noFacts (.tuple #[.int .u64 (vcard v).1, .bool (vcard v).2]) := by
  refine den_of_body (args := [VVal v]) hmix Tryz.func48 ?_
  have b1 := h.inn.lo; have b2 := h.inn.hi; have b3 := h.inn.m
  by_cases nb : v = vbot
  · subst nb
    rw [vcard_bot]
    (repeat' ((conv => whnf); first | refine CallN.any _ rBottom_d ?_ | refine CallN.any _ rTop_d ?_ | refine Ob.mk (by decide) ?_ | refine AdN.mk _ _ rfl ?_ | refine DrawN.a (Ob.mk (by decide +kernel) ?_) | refine DrawN.c (Ob.mk (by decide +kernel) ?_) | refine DrawN.b (Ob.mk (by decide +kernel) ?_) | refine Ob.mk (by kernel_rfl) ?_ | (refine Br.mk (fun h => ?_) (fun h => ?_) <;> (first | (exfalso; exact Bool.false_ne_true h) | (exfalso; exact Bool.false_ne_true h.symm) | skip)) | refine SeqN.go ?_)); all_goals (conv => whnf)
    all_goals first | rfl | (exfalso; simp [vbot] at *; done)
  have nb2 := veq_false nb
  have le := h.le nb
  rw [vcard_eq h nb]
  by_cases nt : v = vtop
  · subst nt
    (repeat' ((conv => whnf); first | refine CallN.any _ rBottom_d ?_ | refine CallN.any _ rTop_d ?_ | refine Ob.mk (by decide) ?_ | refine AdN.mk _ _ rfl ?_ | refine DrawN.a (Ob.mk (by decide +kernel) ?_) | refine DrawN.c (Ob.mk (by decide +kernel) ?_) | refine DrawN.b (Ob.mk (by decide +kernel) ?_) | refine Ob.mk (by kernel_rfl) ?_ | (refine Br.mk (fun h => ?_) (fun h => ?_) <;> (first | (exfalso; exact Bool.false_ne_true h) | (exfalso; exact Bool.false_ne_true h.symm) | skip)) | refine SeqN.go ?_)); all_goals (conv => whnf)
    all_goals first | rfl | (exfalso; simp [vbot, vtop] at *; done)
  have nt2 := veq_false nt
  have hq : v.m ≠ 0 → (v.hi - v.lo) / v.m ≠ 18446744073709551615 := fun hm e => nt (top_of h nb hm e)
  have es : IntKind.u64.wrap (IntKind.u64.wrap v.hi - IntKind.u64.wrap v.lo) = v.hi - v.lo := by simp only [us_eq]; unfold us; omega
  have ev : v.m ≠ 0 → IntKind.u64.wrap (IntKind.u64.wrap ((IntKind.u64.wrap (IntKind.u64.wrap v.hi - IntKind.u64.wrap v.lo)).tdiv v.m) + 1) = (v.hi - v.lo) / v.m + 1 := fun hm => by
    have h1 := Int.ediv_nonneg (show 0 ≤ v.hi - v.lo by omega) b3.1
    have h2 := Int.ediv_le_self v.m (show 0 ≤ v.hi - v.lo by omega)
    have h3 := hq hm
    rw [es, Int.tdiv_eq_ediv_of_nonneg (by omega)]
    generalize (v.hi - v.lo) / v.m = q at *
    simp only [us_eq]
    unfold us
    omega
  have om : (v.m == 0) = false → v.m ≠ 0 := fun h => by simpa using h
  (repeat' ((conv => whnf); first | refine CallN.any _ rBottom_d ?_ | refine CallN.any _ rTop_d ?_ | refine Ob.mk (om ‹_›) ?_ | refine AdN.mk _ _ rfl ?_ | refine DrawN.a (Ob.mk (by decide +kernel) ?_) | refine DrawN.c (Ob.mk (by decide +kernel) ?_) | refine DrawN.b (Ob.mk (by decide +kernel) ?_) | refine Ob.mk (by kernel_rfl) ?_ | (refine Br.mk (fun h => ?_) (fun h => ?_) <;> (first | (exfalso; exact Bool.false_ne_true h) | (exfalso; exact Bool.false_ne_true h.symm) | skip)) | refine SeqN.go ?_)); all_goals (conv => whnf)
  all_goals (first | (exfalso; unfold veq at nb2 nt2; grind [vbot, vtop]) | grind [retV])
set_option maxHeartbeats 2000000 in
theorem rSome_v (v : VV) (most : Int) (hv : RV v) (nb : v ≠ vbot) (hm : most ≤ 1000) : DenV Tryz.prog 52 noFacts [VVal v, .int .i64 most] [.s 0] [.row 2 1 (min most.toNat (vcnt v)) (IVl (vnums v (min most.toNat (vcnt v))))] := by
  refine denV_of_body (args := [VVal v, .int .i64 most]) hmix Tryz.func52 ?_
  have nb2 := veq_false nb
  (repeat' ((conv => whnf); first | refine CallN.any _ rBottom_d ?_ | refine AdN.mk _ _ rfl ?_ | refine DrawN.a (Ob.mk (by decide +kernel) ?_) | refine DrawN.c (Ob.mk (by decide +kernel) ?_) | refine DrawN.b (Ob.mk (by decide +kernel) ?_) | refine Ob.mk (by kernel_rfl) ?_ | (refine Br.mk (fun h => ?_) (fun h => ?_) <;> (first | (exfalso; exact Bool.false_ne_true h) | (exfalso; exact Bool.false_ne_true h.symm) | skip)))); all_goals (conv => whnf)
  refine SeqN.nilRow 5 2 1 rfl ?_
  (conv => whnf)
  refine SeqN.go ?_
  (repeat' ((conv => whnf); first | refine CallN.any _ rBottom_d ?_ | refine AdN.mk _ _ rfl ?_ | refine DrawN.a (Ob.mk (by decide +kernel) ?_) | refine DrawN.c (Ob.mk (by decide +kernel) ?_) | refine DrawN.b (Ob.mk (by decide +kernel) ?_) | refine Ob.mk (by kernel_rfl) ?_ | (refine Br.mk (fun h => ?_) (fun h => ?_) <;> (first | (exfalso; exact Bool.false_ne_true h) | (exfalso; exact Bool.false_ne_true h.symm) | skip)))); all_goals (conv => whnf)
  · exfalso
    unfold veq at nb2
    grind [vbot]
  have hc := vcnt_pos hv nb
  refine SeqN.go ?_
  (repeat' ((conv => whnf); first | refine AdN.mk _ _ rfl ?_ | refine DrawN.a (Ob.mk (by decide +kernel) ?_) | refine DrawN.c (Ob.mk (by decide +kernel) ?_) | refine DrawN.b (Ob.mk (by decide +kernel) ?_) | refine Ob.mk (by kernel_rfl) ?_ | (refine Br.mk (fun h => ?_) (fun h => ?_) <;> (first | (exfalso; exact Bool.false_ne_true h) | (exfalso; exact Bool.false_ne_true h.symm) | skip)))); all_goals (conv => whnf)
  refine LoopN.mk {i : Nat // i < vcnt v ∧ i ≤ most.toNat} (fun i => [(6, .v (.int .i64 (vnum v i.1))), (5, .s 1)]) (fun i => [.cells ((VC v).map .v), .row 2 1 i.1 (IVl (vnums v i.1))]) (fun i => vcnt v - i.1) ⟨0, hc, Nat.zero_le _⟩ ?_ ?_
  · (conv => whnf); (repeat' (first | exact True.intro | exact rfl | refine And.intro ?_ ?_ | decide))
    all_goals first | (show Value.int .i64 v.lo = Value.int .i64 (vnum v 0); unfold vnum; simp; done) | trace_state
  (conv => whnf)
  rintro ⟨i, hi, hm2⟩
  have i0 := vin_is' hv (vnum_in hv hi)
  have la := vnum_last hv hi
  have sc : i + 1 < vcnt v → IntKind.i64.wrap (IntKind.u64.wrap (IntKind.u64.wrap (vnum v i) + v.m)) = vnum v (i + 1) := fun hk => by
    have st := vnum_succ hv hk
    have i1 := vin_is' hv (vnum_in hv hk)
    rw [st.1] at i1 ⊢
    rw [sg_eq, ← sg_eq']
    exact step64 i0 i1
  (repeat' ((conv => whnf); first | refine Ob.mk ⟨by decide, (by show (i + 1) * 8 ≤ 140737488355328; omega), (by show i + 1 ≤ 140737488355328; omega)⟩ ?_ | refine AdN.mk _ _ rfl ?_ | refine DrawN.a (Ob.mk (by decide +kernel) ?_) | refine DrawN.c (Ob.mk (by decide +kernel) ?_) | refine DrawN.b (Ob.mk (by decide +kernel) ?_) | refine Ob.mk (by kernel_rfl) ?_ | (refine Br.mk (fun h => ?_) (fun h => ?_) <;> (first | (exfalso; exact Bool.false_ne_true h) | (exfalso; exact Bool.false_ne_true h.symm) | skip)) | refine SeqN.go ?_)); all_goals (conv => whnf)
  · have hlt : (i : Int) < most := of_decide_eq_true ‹decide ((i : Int) < most) = true›
    have he : vnum v i = v.hi := by
      have h' : (vnum v i == v.hi) = true := ‹_›
      simpa using h'
    have hk : min most.toNat (vcnt v) = i + 1 := by have := la.1 he; omega
    rw [hk, vnums_succ]
    refine RetN.mk [1] (by decide) rfl ?_ ?_ <;> (conv => whnf); (repeat' (first | exact True.intro | exact rfl | refine And.intro ?_ ?_ | decide))
    all_goals first | (simp [IVl]; done) | trace_state
  · have hlt : (i : Int) < most := of_decide_eq_true ‹decide ((i : Int) < most) = true›
    have he : vnum v i ≠ v.hi := by
      have h' : (vnum v i == v.hi) = false := ‹_›
      simpa using h'
    have hk : i + 1 < vcnt v := by
      have : ¬ (i + 1 = vcnt v) := fun e => he (la.2 e)
      omega
    refine RoundN.mk ⟨i + 1, hk, by omega⟩ (by show vcnt v - (i + 1) < vcnt v - i; omega) ?_
    (conv => whnf); (repeat' (first | exact True.intro | exact rfl | refine And.intro ?_ ?_ | decide))
    all_goals first
      | (exact congrArg (Value.int _) (sc hk))
      | (dsimp only; rw [vnums_succ]; simp [IVl]; done)
      | trace_state
  · have hlt : ¬ (i : Int) < most := of_decide_eq_false ‹decide ((i : Int) < most) = false›
    have hk : min most.toNat (vcnt v) = i := by omega
    rw [hk]
    refine RetN.mk [1] (by decide) rfl ?_ ?_ <;> (conv => whnf); (repeat' (first | exact True.intro | exact rfl | refine And.intro ?_ ?_ | decide))
theorem rSome_f (v : VV) (most : Int) (hv : RV v) (nb : v ≠ vbot) (hm : most ≤ 1000) : DenF Tryz.prog 52 noFacts [.v (VVal v), .v (.int .i64 most)] [.s 0] [.row 2 1 (min most.toNat (vcnt v)) (IVl (vnums v (min most.toNat (vcnt v))))] := DenF.fam rfl (rSome_v v most hv nb hm)
theorem rSome_bot (most : Int) : Den Tryz.prog 52 #[VVal vbot, .int .i64 most] noFacts (.slice none 0 0) := by
  refine den_of_body (args := [VVal vbot, .int .i64 most]) hmix Tryz.func52 ?_
  (repeat' ((conv => whnf); first | refine CallN.any _ rBottom_d ?_ | refine AdN.mk _ _ rfl ?_ | refine DrawN.a (Ob.mk (by decide +kernel) ?_) | refine DrawN.c (Ob.mk (by decide +kernel) ?_) | refine DrawN.b (Ob.mk (by decide +kernel) ?_) | refine Ob.mk (by kernel_rfl) ?_ | (refine Br.mk (fun h => ?_) (fun h => ?_) <;> (first | (exfalso; exact Bool.false_ne_true h) | (exfalso; exact Bool.false_ne_true h.symm) | (exfalso; simp [vbot] at *; done) | skip)) | refine SeqN.go ?_)); all_goals (conv => whnf)
  all_goals first | rfl | (exfalso; simp [vbot] at *; done)
end Go.Proofs.YtljhbdgoknfkcaaGreatDoor
