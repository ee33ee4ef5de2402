/- ValueTells: a value that has no number. -/
import Derived.Test.YtljhbdgoknfkcaaGreatDoorJT
namespace Go.Proofs.YtljhbdgoknfkcaaGreatDoor
open Go Go.RowKit Go.Sort
set_option linter.unusedVariables false
set_option linter.unusedSimpArgs false
set_option maxRecDepth 100000

set_option maxHeartbeats 4000000 in
theorem vt_bot1 (x : VV) (n most : Int) (hx : InV x) (hn : IS n) (hm : IS most) (nb : vmake x = vbot) (hm0 : (if (40 : Int) < most then 40 else most) ≤ 0) : Den Tryz.prog 10 #[.agg #[.int .i64 x.lo, .int .i64 x.hi], .agg #[.int .u64 x.m, .int .u64 x.r], .int .i64 n, .int .i64 most] tabF (.bool true) := by
  refine den_of_body (args := [.agg #[.int .i64 x.lo, .int .i64 x.hi], .agg #[.int .u64 x.m, .int .u64 x.r], .int .i64 n, .int .i64 most]) hmix Tryz.func10 ?_
  have A := vmake_rv hx
  have M := vMake_d x hx
  have P := lplain_d x hx
  (repeat' ((conv => whnf); first | refine CallN.any _ P ?_ | refine CallN.any _ M ?_ | refine CallN.any _ (docValue_d _) ?_ | refine AdN.mk _ _ rfl ?_ | refine DrawN.a (Ob.mk (by decide +kernel) ?_) | refine DrawN.c (Ob.mk (by decide +kernel) ?_) | refine DrawN.b (Ob.mk (by decide +kernel) ?_) | refine Ob.mk (by kernel_rfl) ?_ | (refine Br.mk (fun h => ?_) (fun h => ?_) <;> (first | (exfalso; exact Bool.false_ne_true h) | (exfalso; exact Bool.false_ne_true h.symm) | skip)))); all_goals (conv => whnf)
  refine SeqN.join ?_ ?_
  · (repeat' ((conv => whnf); first | refine CallN.any _ (docValue_d _) ?_ | refine AdN.mk _ _ rfl ?_ | refine DrawN.a (Ob.mk (by decide +kernel) ?_) | refine DrawN.c (Ob.mk (by decide +kernel) ?_) | refine DrawN.b (Ob.mk (by decide +kernel) ?_) | refine Ob.mk (by kernel_rfl) ?_ | (refine Br.mk (fun h => ?_) (fun h => ?_) <;> (first | (exfalso; exact Bool.false_ne_true h) | (exfalso; exact Bool.false_ne_true h.symm) | skip)) | refine SeqN.go ?_)); all_goals (conv => whnf)
    all_goals first | exact EndN.mk () (by (conv => whnf); (repeat' (first | exact True.intro | exact rfl | refine And.intro ?_ ?_ | decide))) | (exfalso; simp at *; done) | trace_state
  (conv => whnf)
  (repeat' ((conv => whnf); first | refine AdN.mk _ _ rfl ?_ | refine DrawN.a (Ob.mk (by decide +kernel) ?_) | refine DrawN.c (Ob.mk (by decide +kernel) ?_) | refine DrawN.b (Ob.mk (by decide +kernel) ?_) | refine Ob.mk (by kernel_rfl) ?_ | (refine Br.mk (fun h => ?_) (fun h => ?_) <;> (first | (exfalso; exact Bool.false_ne_true h) | (exfalso; exact Bool.false_ne_true h.symm) | skip)))); all_goals (conv => whnf)
  clear M P
  have fx := A.fix
  have C0 := vCard_d x hx
  have C1 := vCard_d _ A.inn
  have S0 := vSingle_d x hx
  have S1 := vSingle_d _ A.inn
  have B0 := vIsBottom_d x hx
  have B1 := vIsBottom_d _ A.inn
  have H0 := vHas_d x n hx hn
  have H1 := vHas_d _ n A.inn hn
  have T0 := vText_d x hx
  have T1 := vText_d _ A.inn
  rw [fx] at C1 S1 B1 H1 T1
  have RC := rCard_d _ A
  have RH := rVHas_d _ n A.red hn
  have RT := rText_d _ A
  have O1 := rOne_d n hn
  have RG := vRange_d x.lo x.hi hx.lo hx.hi
  have ii := iof_in hx.lo hx.hi
  have z1 : IU 1 := ⟨by decide, by decide⟩
  have z0 : IU 0 := ⟨by decide, by decide⟩
  have hV : RV (vmake ⟨(iof x.lo x.hi).1, (iof x.lo x.hi).2, 1, 0⟩) := vmake_rv ⟨ii.1, ii.2, z1, z0⟩
  have PG := lplain_d _ hV.inn
  have PT := lplain_d ⟨x.lo, x.hi, 1, 0⟩ ⟨hx.lo, hx.hi, z1, z0⟩
  rw [hV.fix, show vmake ⟨(iof x.lo x.hi).1, (iof x.lo x.hi).2, 1, 0⟩ = vmake ⟨x.lo, x.hi, 1, 0⟩ from vmk_iof (1, 0)] at PG
  rw [show vmake ⟨(iof x.lo x.hi).1, (iof x.lo x.hi).2, 1, 0⟩ = vmake ⟨x.lo, x.hi, 1, 0⟩ from vmk_iof (1, 0)] at RG
  have CT := den_of (F := noFacts) fun W => top_c W
  generalize vmake ⟨x.lo, x.hi, 1, 0⟩ = vg at *
  have S0 : Den Tryz.prog 32 #[VVal x] noFacts (.tuple #[.int .i64 0, .bool false]) := S0.eq (by rw [nb]; rfl)
  have S1 : Den Tryz.prog 32 #[VVal vbot] noFacts (.tuple #[.int .i64 0, .bool false]) := by rw [nb] at S1; exact S1.eq rfl
  rw [nb, vcard_bot] at C0 C1 RC
  rw [nb] at B0 B1 H0 H1 T0 T1 RH RT
  rw [show veq vbot vbot = true from rfl] at B0 B1
  have LR := rSome_bot (if (40 : Int) < most then 40 else most)
  have L0 := some_no x (if (40 : Int) < most then 40 else most) hm0
  have L1 := some_no vbot (if (40 : Int) < most then 40 else most) hm0
  have SM := same_nil
  rw [nb]
  have nb2 : True := trivial
  generalize (if (40 : Int) < most then 40 else most) = mm at *
  refine SeqN.go ?_
  (repeat' ((conv => whnf); first | refine AdN.mk _ _ rfl ?_ | refine DrawN.a (Ob.mk (by decide +kernel) ?_) | refine DrawN.c (Ob.mk (by decide +kernel) ?_) | refine DrawN.b (Ob.mk (by decide +kernel) ?_) | refine Ob.mk (by kernel_rfl) ?_ | (refine Br.mk (fun h => ?_) (fun h => ?_) <;> (first | (exfalso; exact Bool.false_ne_true h) | (exfalso; exact Bool.false_ne_true h.symm) | skip)))); all_goals (conv => whnf)
  refine LoopN.roll 3 ?_
  (repeat' ((conv => whnf); first | refine CallN.any _ C0 ?_ | refine CallN.any _ S0 ?_ | refine CallN.any _ B0 ?_ | refine CallN.any _ H0 ?_ | refine CallN.mk _ T0 ?_ | refine CallN.any _ RC ?_ | refine CallN.any _ RH ?_ | refine CallN.any _ RT ?_ | refine CallN.any _ L0 ?_ | refine CallN.any _ LR ?_ | refine CallN.any _ SM ?_ | refine CallN.any _ rBottom_d ?_ | refine AdN.mk _ _ rfl ?_ | refine DrawN.a (Ob.mk (by decide +kernel) ?_) | refine DrawN.c (Ob.mk (by decide +kernel) ?_) | refine DrawN.b (Ob.mk (by decide +kernel) ?_) | refine Ob.mk (by kernel_rfl) ?_ | (refine Br.mk (fun h => ?_) (fun h => ?_) <;> (first | (exfalso; exact Bool.false_ne_true h) | (exfalso; exact Bool.false_ne_true h.symm) | skip)) | refine SeqN.go ?_)); all_goals (conv => whnf)
  all_goals (try (first | (exfalso; clear C0 S0 B0 H0 T0 RC RH RT L0 LR SM C1 S1 B1 H1 T1 L1; simp_all; done) | (exfalso; (try unfold veq at nb2); (try rw [nb2] at h); simp [vbot] at *; done) | (exfalso; unfold veq at nb2; rw [nb2] at h; exact absurd h (by decide))))
  refine LoopN.roll 1 ?_
  (repeat' ((conv => whnf); first | refine CallN.any _ C1 ?_ | refine CallN.any _ S1 ?_ | refine CallN.any _ B1 ?_ | refine CallN.any _ H1 ?_ | refine CallN.mk _ T1 ?_ | refine CallN.any _ RC ?_ | refine CallN.any _ RH ?_ | refine CallN.any _ RT ?_ | refine CallN.any _ L1 ?_ | refine CallN.any _ LR ?_ | refine CallN.any _ SM ?_ | refine CallN.any _ rBottom_d ?_ | refine AdN.mk _ _ rfl ?_ | refine DrawN.a (Ob.mk (by decide +kernel) ?_) | refine DrawN.c (Ob.mk (by decide +kernel) ?_) | refine DrawN.b (Ob.mk (by decide +kernel) ?_) | refine Ob.mk (by kernel_rfl) ?_ | (refine Br.mk (fun h => ?_) (fun h => ?_) <;> (first | (exfalso; exact Bool.false_ne_true h) | (exfalso; exact Bool.false_ne_true h.symm) | skip)) | refine SeqN.go ?_)); all_goals (conv => whnf)
  all_goals (try (first | (exfalso; clear C0 S0 B0 H0 T0 RC RH RT L0 LR SM C1 S1 B1 H1 T1 L1; simp_all; done) | (exfalso; (try unfold veq at nb2); (try rw [nb2] at h); simp [vbot] at *; done) | (exfalso; unfold veq at nb2; rw [nb2] at h; exact absurd h (by decide))))
  refine LoopN.roll 1 ?_
  clear C0 S0 B0 H0 T0 RC RH RT L0 LR SM C1 S1 B1 H1 T1 L1
  (repeat' ((conv => whnf); first | refine CallN.any _ (docValue_d _) ?_ | refine CallN.any _ (vOne_d _) ?_ | refine CallN.any _ O1 ?_ | refine CallN.any _ vTop_d ?_ | refine CallN.any _ rTop_d ?_ | refine CallN.any _ vBottom_d ?_ | refine CallN.any _ rBottom_d ?_ | refine CallN.any _ RG ?_ | refine CallN.any _ PG ?_ | refine CallN.any _ PT ?_ | refine CallN.any _ CT ?_ | refine CallN.mk _ works21_d ?_ | refine AdN.mk _ _ rfl ?_ | refine DrawN.a (Ob.mk (by decide +kernel) ?_) | refine DrawN.c (Ob.mk (by decide +kernel) ?_) | refine DrawN.b (Ob.mk (by decide +kernel) ?_) | refine Ob.mk (by kernel_rfl) ?_ | (refine Br.mk (fun h => ?_) (fun h => ?_) <;> (first | (exfalso; exact Bool.false_ne_true h) | (exfalso; exact Bool.false_ne_true h.symm) | skip)) | refine SeqN.go ?_)); all_goals (conv => whnf)
  all_goals first | rfl | (exfalso; simp at *; done) | trace_state
set_option maxHeartbeats 4000000 in
theorem vt_bot2 (x : VV) (n most : Int) (hx : InV x) (hn : IS n) (hm : IS most) (nb : vmake x = vbot) (hm0 : ¬ (if (40 : Int) < most then 40 else most) ≤ 0) : Den Tryz.prog 10 #[.agg #[.int .i64 x.lo, .int .i64 x.hi], .agg #[.int .u64 x.m, .int .u64 x.r], .int .i64 n, .int .i64 most] tabF (.bool true) := by
  refine den_of_body (args := [.agg #[.int .i64 x.lo, .int .i64 x.hi], .agg #[.int .u64 x.m, .int .u64 x.r], .int .i64 n, .int .i64 most]) hmix Tryz.func10 ?_
  have A := vmake_rv hx
  have M := vMake_d x hx
  have P := lplain_d x hx
  (repeat' ((conv => whnf); first | refine CallN.any _ P ?_ | refine CallN.any _ M ?_ | refine CallN.any _ (docValue_d _) ?_ | refine AdN.mk _ _ rfl ?_ | refine DrawN.a (Ob.mk (by decide +kernel) ?_) | refine DrawN.c (Ob.mk (by decide +kernel) ?_) | refine DrawN.b (Ob.mk (by decide +kernel) ?_) | refine Ob.mk (by kernel_rfl) ?_ | (refine Br.mk (fun h => ?_) (fun h => ?_) <;> (first | (exfalso; exact Bool.false_ne_true h) | (exfalso; exact Bool.false_ne_true h.symm) | skip)))); all_goals (conv => whnf)
  refine SeqN.join ?_ ?_
  · (repeat' ((conv => whnf); first | refine CallN.any _ (docValue_d _) ?_ | refine AdN.mk _ _ rfl ?_ | refine DrawN.a (Ob.mk (by decide +kernel) ?_) | refine DrawN.c (Ob.mk (by decide +kernel) ?_) | refine DrawN.b (Ob.mk (by decide +kernel) ?_) | refine Ob.mk (by kernel_rfl) ?_ | (refine Br.mk (fun h => ?_) (fun h => ?_) <;> (first | (exfalso; exact Bool.false_ne_true h) | (exfalso; exact Bool.false_ne_true h.symm) | skip)) | refine SeqN.go ?_)); all_goals (conv => whnf)
    all_goals first | exact EndN.mk () (by (conv => whnf); (repeat' (first | exact True.intro | exact rfl | refine And.intro ?_ ?_ | decide))) | (exfalso; simp at *; done) | trace_state
  (conv => whnf)
  (repeat' ((conv => whnf); first | refine AdN.mk _ _ rfl ?_ | refine DrawN.a (Ob.mk (by decide +kernel) ?_) | refine DrawN.c (Ob.mk (by decide +kernel) ?_) | refine DrawN.b (Ob.mk (by decide +kernel) ?_) | refine Ob.mk (by kernel_rfl) ?_ | (refine Br.mk (fun h => ?_) (fun h => ?_) <;> (first | (exfalso; exact Bool.false_ne_true h) | (exfalso; exact Bool.false_ne_true h.symm) | skip)))); all_goals (conv => whnf)
  clear M P
  have fx := A.fix
  have C0 := vCard_d x hx
  have C1 := vCard_d _ A.inn
  have S0 := vSingle_d x hx
  have S1 := vSingle_d _ A.inn
  have B0 := vIsBottom_d x hx
  have B1 := vIsBottom_d _ A.inn
  have H0 := vHas_d x n hx hn
  have H1 := vHas_d _ n A.inn hn
  have T0 := vText_d x hx
  have T1 := vText_d _ A.inn
  rw [fx] at C1 S1 B1 H1 T1
  have RC := rCard_d _ A
  have RH := rVHas_d _ n A.red hn
  have RT := rText_d _ A
  have O1 := rOne_d n hn
  have RG := vRange_d x.lo x.hi hx.lo hx.hi
  have ii := iof_in hx.lo hx.hi
  have z1 : IU 1 := ⟨by decide, by decide⟩
  have z0 : IU 0 := ⟨by decide, by decide⟩
  have hV : RV (vmake ⟨(iof x.lo x.hi).1, (iof x.lo x.hi).2, 1, 0⟩) := vmake_rv ⟨ii.1, ii.2, z1, z0⟩
  have PG := lplain_d _ hV.inn
  have PT := lplain_d ⟨x.lo, x.hi, 1, 0⟩ ⟨hx.lo, hx.hi, z1, z0⟩
  rw [hV.fix, show vmake ⟨(iof x.lo x.hi).1, (iof x.lo x.hi).2, 1, 0⟩ = vmake ⟨x.lo, x.hi, 1, 0⟩ from vmk_iof (1, 0)] at PG
  rw [show vmake ⟨(iof x.lo x.hi).1, (iof x.lo x.hi).2, 1, 0⟩ = vmake ⟨x.lo, x.hi, 1, 0⟩ from vmk_iof (1, 0)] at RG
  have CT := den_of (F := noFacts) fun W => top_c W
  generalize vmake ⟨x.lo, x.hi, 1, 0⟩ = vg at *
  have S0 : Den Tryz.prog 32 #[VVal x] noFacts (.tuple #[.int .i64 0, .bool false]) := S0.eq (by rw [nb]; rfl)
  have S1 : Den Tryz.prog 32 #[VVal vbot] noFacts (.tuple #[.int .i64 0, .bool false]) := by rw [nb] at S1; exact S1.eq rfl
  rw [nb, vcard_bot] at C0 C1 RC
  rw [nb] at B0 B1 H0 H1 T0 T1 RH RT
  rw [show veq vbot vbot = true from rfl] at B0 B1
  have LR := rSome_bot (if (40 : Int) < most then 40 else most)
  have L0 := some_f x (if (40 : Int) < most then 40 else most) hx (by omega) (by split <;> omega)
  have L1 := some_f vbot (if (40 : Int) < most then 40 else most) vbot_in (by omega) (by split <;> omega)
  rw [nb, vcnt_bot, Nat.min_zero] at L0
  rw [rv_bot.fix, vcnt_bot, Nat.min_zero] at L1
  have SM : DenA Tryz.prog 51 noFacts [.r 1 0 (IVl (vnums vbot 0)), .v (.slice none 0 0)] (.bool true) := DenA.nilR (same_d [] (by decide))
  rw [nb]
  have nb2 : True := trivial
  generalize (if (40 : Int) < most then 40 else most) = mm at *
  refine SeqN.go ?_
  (repeat' ((conv => whnf); first | refine AdN.mk _ _ rfl ?_ | refine DrawN.a (Ob.mk (by decide +kernel) ?_) | refine DrawN.c (Ob.mk (by decide +kernel) ?_) | refine DrawN.b (Ob.mk (by decide +kernel) ?_) | refine Ob.mk (by kernel_rfl) ?_ | (refine Br.mk (fun h => ?_) (fun h => ?_) <;> (first | (exfalso; exact Bool.false_ne_true h) | (exfalso; exact Bool.false_ne_true h.symm) | skip)))); all_goals (conv => whnf)
  refine LoopN.roll 3 ?_
  (repeat' ((conv => whnf); first | refine CallN.any _ C0 ?_ | refine CallN.any _ S0 ?_ | refine CallN.any _ B0 ?_ | refine CallN.any _ H0 ?_ | refine CallN.mk _ T0 ?_ | refine CallN.any _ RC ?_ | refine CallN.any _ RH ?_ | refine CallN.any _ RT ?_ | refine CallN.anyFresh _ _ L0 ?_ | refine CallN.any _ LR ?_ | refine CallA.any _ SM ?_ | refine CallN.any _ rBottom_d ?_ | refine AdN.mk _ _ rfl ?_ | refine DrawN.a (Ob.mk (by decide +kernel) ?_) | refine DrawN.c (Ob.mk (by decide +kernel) ?_) | refine DrawN.b (Ob.mk (by decide +kernel) ?_) | refine Ob.mk (by kernel_rfl) ?_ | (refine Br.mk (fun h => ?_) (fun h => ?_) <;> (first | (exfalso; exact Bool.false_ne_true h) | (exfalso; exact Bool.false_ne_true h.symm) | skip)) | refine SeqN.go ?_)); all_goals (conv => whnf)
  all_goals (try (first | (exfalso; clear C0 S0 B0 H0 T0 RC RH RT L0 LR SM C1 S1 B1 H1 T1 L1; simp_all; done) | (exfalso; (try unfold veq at nb2); (try rw [nb2] at h); simp [vbot] at *; done) | (exfalso; unfold veq at nb2; rw [nb2] at h; exact absurd h (by decide))))
  refine LoopN.roll 1 ?_
  (repeat' ((conv => whnf); first | refine CallN.any _ C1 ?_ | refine CallN.any _ S1 ?_ | refine CallN.any _ B1 ?_ | refine CallN.any _ H1 ?_ | refine CallN.mk _ T1 ?_ | refine CallN.any _ RC ?_ | refine CallN.any _ RH ?_ | refine CallN.any _ RT ?_ | refine CallN.anyFresh _ _ L1 ?_ | refine CallN.any _ LR ?_ | refine CallA.any _ SM ?_ | refine CallN.any _ rBottom_d ?_ | refine AdN.mk _ _ rfl ?_ | refine DrawN.a (Ob.mk (by decide +kernel) ?_) | refine DrawN.c (Ob.mk (by decide +kernel) ?_) | refine DrawN.b (Ob.mk (by decide +kernel) ?_) | refine Ob.mk (by kernel_rfl) ?_ | (refine Br.mk (fun h => ?_) (fun h => ?_) <;> (first | (exfalso; exact Bool.false_ne_true h) | (exfalso; exact Bool.false_ne_true h.symm) | skip)) | refine SeqN.go ?_)); all_goals (conv => whnf)
  all_goals (try (first | (exfalso; clear C0 S0 B0 H0 T0 RC RH RT L0 LR SM C1 S1 B1 H1 T1 L1; simp_all; done) | (exfalso; (try unfold veq at nb2); (try rw [nb2] at h); simp [vbot] at *; done) | (exfalso; unfold veq at nb2; rw [nb2] at h; exact absurd h (by decide))))
  refine LoopN.roll 1 ?_
  clear C0 S0 B0 H0 T0 RC RH RT L0 LR SM C1 S1 B1 H1 T1 L1
  (repeat' ((conv => whnf); first | refine CallN.any _ (docValue_d _) ?_ | refine CallN.any _ (vOne_d _) ?_ | refine CallN.any _ O1 ?_ | refine CallN.any _ vTop_d ?_ | refine CallN.any _ rTop_d ?_ | refine CallN.any _ vBottom_d ?_ | refine CallN.any _ rBottom_d ?_ | refine CallN.any _ RG ?_ | refine CallN.any _ PG ?_ | refine CallN.any _ PT ?_ | refine CallN.any _ CT ?_ | refine CallN.mk _ works21_d ?_ | refine AdN.mk _ _ rfl ?_ | refine DrawN.a (Ob.mk (by decide +kernel) ?_) | refine DrawN.c (Ob.mk (by decide +kernel) ?_) | refine DrawN.b (Ob.mk (by decide +kernel) ?_) | refine Ob.mk (by kernel_rfl) ?_ | (refine Br.mk (fun h => ?_) (fun h => ?_) <;> (first | (exfalso; exact Bool.false_ne_true h) | (exfalso; exact Bool.false_ne_true h.symm) | skip)) | refine SeqN.go ?_)); all_goals (conv => whnf)
  all_goals first | rfl | (exfalso; simp at *; done) | trace_state
end Go.Proofs.YtljhbdgoknfkcaaGreatDoor
