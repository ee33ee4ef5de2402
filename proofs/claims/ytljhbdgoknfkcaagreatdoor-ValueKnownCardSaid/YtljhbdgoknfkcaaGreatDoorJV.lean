/- ValueTells: a value that has many numbers. -/
import Derived.Test.YtljhbdgoknfkcaaGreatDoorJT
namespace Go.Proofs.YtljhbdgoknfkcaaGreatDoor
open Go Go.RowKit Go.Sort
set_option linter.unusedVariables false
set_option linter.unusedSimpArgs false
set_option maxRecDepth 100000

set_option maxHeartbeats 4000000 in
theorem vt_many (x : VV) (n most : Int) (hx : InV x) (hn : IS n) (hm : IS most) (nb : vmake x ≠ vbot) (hm0 : ¬ (if (40 : Int) < most then 40 else most) ≤ 0) (hs : ¬ (vmake x).lo = (vmake x).hi) : Den Tryz.prog 10 #[.agg #[.int .i64 x.lo, .int .i64 x.hi], .agg #[.int .u64 x.m, .int .u64 x.r], .int .i64 n, .int .i64 most] tabF (.bool true) := by
  refine den_of_body (args := [.agg #[.int .i64 x.lo, .int .i64 x.hi], .agg #[.int .u64 x.m, .int .u64 x.r], .int .i64 n, .int .i64 most]) hmix Tryz.func10 ?_
  have A := vmake_rv hx
  have M := vMake_d x hx
  have P := lplain_d x hx
  (repeat' ((conv => whnf); first | refine CallN.any _ P ?_ | refine CallN.any _ M ?_ | refine CallN.any _ (docValue_d _) ?_ | refine AdN.mk _ _ rfl ?_ | refine DrawN.a (Ob.mk (by decide +kernel) ?_) | refine DrawN.c (Ob.mk (by decide +kernel) ?_) | refine DrawN.b (Ob.mk (by decide +kernel) ?_) | refine Ob.mk (by kernel_rfl) ?_ | (refine Br.mk (fun h => ?_) (fun h => ?_) <;> (first | (exfalso; exact Bool.false_ne_true h) | (exfalso; exact Bool.false_ne_true h.symm) | skip)))); all_goals (conv => whnf)
  refine SeqN.join ?_ ?_
  · (repeat' ((conv => whnf); first | refine CallN.any _ (docValue_d _) ?_ | refine AdN.mk _ _ rfl ?_ | refine DrawN.a (Ob.mk (by decide +kernel) ?_) | refine DrawN.c (Ob.mk (by decide +kernel) ?_) | refine DrawN.b (Ob.mk (by decide +kernel) ?_) | refine Ob.mk (by kernel_rfl) ?_ | (refine Br.mk (fun h => ?_) (fun h => ?_) <;> (first | (exfalso; exact Bool.false_ne_true h) | (exfalso; exact Bool.false_ne_true h.symm) | skip)) | refine SeqN.go ?_)); all_goals (conv => whnf)
    all_goals first | exact EndN.mk () (by (conv => whnf); (repeat' (first | exact True.intro | exact rfl | refine And.intro ?_ ?_ | decide))) | (exfalso; simp at *; done) | trace_state
  (conv => whnf)
  (repeat' ((conv => whnf); first | refine AdN.mk _ _ rfl ?_ | refine DrawN.a (Ob.mk (by decide +kernel) ?_) | refine DrawN.c (Ob.mk (by decide +kernel) ?_) | refine DrawN.b (Ob.mk (by decide +kernel) ?_) | refine Ob.mk (by kernel_rfl) ?_ | (refine Br.mk (fun h => ?_) (fun h => ?_) <;> (first | (exfalso; exact Bool.false_ne_true h) | (exfalso; exact Bool.false_ne_true h.symm) | skip)))); all_goals (conv => whnf)
  clear M P
  have fx := A.fix
  have C0 := vCard_d x hx
  have C1 := vCard_d _ A.inn
  have S0 := vSingle_d x hx
  have S1 := vSingle_d _ A.inn
  have B0 := vIsBottom_d x hx
  have B1 := vIsBottom_d _ A.inn
  have H0 := vHas_d x n hx hn
  have H1 := vHas_d _ n A.inn hn
  have T0 := vText_d x hx
  have T1 := vText_d _ A.inn
  rw [fx] at C1 S1 B1 H1 T1
  have RC := rCard_d _ A
  have RH := rVHas_d _ n A.red hn
  have RT := rText_d _ A
  have O1 := rOne_d n hn
  have RG := vRange_d x.lo x.hi hx.lo hx.hi
  have ii := iof_in hx.lo hx.hi
  have z1 : IU 1 := ⟨by decide, by decide⟩
  have z0 : IU 0 := ⟨by decide, by decide⟩
  have hV : RV (vmake ⟨(iof x.lo x.hi).1, (iof x.lo x.hi).2, 1, 0⟩) := vmake_rv ⟨ii.1, ii.2, z1, z0⟩
  have PG := lplain_d _ hV.inn
  have PT := lplain_d ⟨x.lo, x.hi, 1, 0⟩ ⟨hx.lo, hx.hi, z1, z0⟩
  rw [hV.fix, show vmake ⟨(iof x.lo x.hi).1, (iof x.lo x.hi).2, 1, 0⟩ = vmake ⟨x.lo, x.hi, 1, 0⟩ from vmk_iof (1, 0)] at PG
  rw [show vmake ⟨(iof x.lo x.hi).1, (iof x.lo x.hi).2, 1, 0⟩ = vmake ⟨x.lo, x.hi, 1, 0⟩ from vmk_iof (1, 0)] at RG
  have CT := den_of (F := noFacts) fun W => top_c W
  generalize vmake ⟨x.lo, x.hi, 1, 0⟩ = vg at *
  have L0 := some_f x (if (40 : Int) < most then 40 else most) hx (by omega) (by split <;> omega)
  have L1 := some_f _ (if (40 : Int) < most then 40 else most) A.inn (by omega) (by split <;> omega)
  rw [fx] at L1
  have LR := rSome_f _ (if (40 : Int) < most then 40 else most) A nb (by split <;> omega)
  have hk40 : min (if (40 : Int) < most then 40 else most).toNat (vcnt (vmake x)) ≤ 40 := by
    have : (if (40 : Int) < most then 40 else most) ≤ 40 := by split <;> omega
    omega
  have SM := same_d (vnums (vmake x) (min (if (40 : Int) < most then 40 else most).toNat (vcnt (vmake x)))) (by rw [vnums_len]; omega)
  rw [vnums_len] at SM
  rw [veq_false nb] at B0 B1
  have nb2 := veq_false nb
  generalize (if (40 : Int) < most then 40 else most) = mm at *
  generalize hkk : min mm.toNat (vcnt (vmake x)) = kk at *
  generalize hns : vnums (vmake x) kk = ns at *
  have hnl : ns.length = kk := by rw [← hns, vnums_len]
  refine SeqN.go ?_
  (repeat' ((conv => whnf); first | refine AdN.mk _ _ rfl ?_ | refine DrawN.a (Ob.mk (by decide +kernel) ?_) | refine DrawN.c (Ob.mk (by decide +kernel) ?_) | refine DrawN.b (Ob.mk (by decide +kernel) ?_) | refine Ob.mk (by kernel_rfl) ?_ | (refine Br.mk (fun h => ?_) (fun h => ?_) <;> (first | (exfalso; exact Bool.false_ne_true h) | (exfalso; exact Bool.false_ne_true h.symm) | skip)))); all_goals (conv => whnf)
  refine LoopN.roll 3 ?_
  rw [if_neg hs, show ((vmake x).lo == (vmake x).hi) = false by simpa using hs] at S0 S1
  (repeat' ((conv => whnf); first | refine CallN.any _ C0 ?_ | refine CallN.any _ S0 ?_ | refine CallN.any _ B0 ?_ | refine CallN.any _ H0 ?_ | refine CallN.mk _ T0 ?_ | refine CallN.any _ RC ?_ | refine CallN.any _ RH ?_ | refine CallN.any _ RT ?_ | refine CallN.anyFresh _ _ L0 ?_ | refine CallN.anyFresh _ _ LR ?_ | refine CallA.any _ SM ?_ | refine CallN.any _ rBottom_d ?_ | refine AdN.mk _ _ rfl ?_ | refine DrawN.a (Ob.mk (by decide +kernel) ?_) | refine DrawN.c (Ob.mk (by decide +kernel) ?_) | refine DrawN.b (Ob.mk (by decide +kernel) ?_) | refine Ob.mk (by kernel_rfl) ?_ | (refine Br.mk (fun h => ?_) (fun h => ?_) <;> (first | (exfalso; exact Bool.false_ne_true h) | (exfalso; exact Bool.false_ne_true h.symm) | skip)) | refine SeqN.go ?_)); all_goals (conv => whnf)
  all_goals (try (first | (exfalso; clear C0 S0 B0 H0 T0 RC RH RT L0 LR SM C1 S1 B1 H1 T1 L1; simp_all; done) | (exfalso; unfold veq at nb2; rw [nb2] at h; exact absurd h (by decide))))
  refine LoopN.mk {i : Nat // i ≤ kk} (fun i => [(20, .v (.int .i64 i.1)), (19, .s 5)]) (fun i => [.cells [.v (.int .i64 x.lo), .v (.int .i64 x.hi)], .dead, .cells ((VC x).map .v), .cells ((VC (vmake x)).map .v), .cells ((VC (vmake x)).map .v), .row 2 1 kk (IVl (List.replicate i.1 77 ++ ns.drop i.1)), .dead]) (fun i => kk - i.1) ⟨0, Nat.zero_le _⟩ ?_ ?_
  · (conv => whnf); (repeat' (first | exact True.intro | exact rfl | refine And.intro ?_ ?_ | decide))
    all_goals trace_state
    all_goals sorry
  (conv => whnf)
  rintro ⟨i, hi⟩
  have oi : decide ((i : Int) < (kk : Int)) = true → 0 ≤ (i : Int) ∧ (i : Int) < (kk : Int) := fun h => ⟨Int.natCast_nonneg _, of_decide_eq_true h⟩
  have hln : (IVl (List.replicate i 77 ++ ns.drop i)).length = kk := by unfold IVl; simp [hnl]; omega
  (repeat' ((conv => whnf); first | refine AdN.mk _ _ rfl ?_ | refine DrawN.a (Ob.mk (by decide +kernel) ?_) | refine DrawN.c (Ob.mk (by decide +kernel) ?_) | refine DrawN.b (Ob.mk (by decide +kernel) ?_) | refine Ob.mk (by kernel_rfl) ?_ | (refine Br.mk (fun h => ?_) (fun h => ?_) <;> (first | (exfalso; exact Bool.false_ne_true h) | (exfalso; exact Bool.false_ne_true h.symm) | skip)))); all_goals (conv => whnf)
  refine SeqN.go ?_
  (repeat' ((conv => whnf); first | refine AdN.mk _ _ rfl ?_ | refine DrawN.a (Ob.mk (by decide +kernel) ?_) | refine DrawN.c (Ob.mk (by decide +kernel) ?_) | refine DrawN.b (Ob.mk (by decide +kernel) ?_) | refine Ob.mk (by kernel_rfl) ?_ | (refine Br.mk (fun h => ?_) (fun h => ?_) <;> (first | (exfalso; exact Bool.false_ne_true h) | (exfalso; exact Bool.false_ne_true h.symm) | skip)))); all_goals (conv => whnf)
  · have hik := (oi ‹_›).2
    refine SeqN.go ?_
    (repeat' ((conv => whnf); first | refine Ob.mk (oi ‹_›) ?_ | refine Ob.mk (show ((i : Int)).toNat * 1 + 1 ≤ (IVl (List.replicate i 77 ++ ns.drop i)).length by rw [hln]; omega) ?_ | refine AdN.mk _ _ rfl ?_ | refine DrawN.a (Ob.mk (by decide +kernel) ?_) | refine DrawN.c (Ob.mk (by decide +kernel) ?_) | refine DrawN.b (Ob.mk (by decide +kernel) ?_) | refine Ob.mk (by kernel_rfl) ?_ | (refine Br.mk (fun h => ?_) (fun h => ?_) <;> (first | (exfalso; exact Bool.false_ne_true h) | (exfalso; exact Bool.false_ne_true h.symm) | skip)))); all_goals (conv => whnf)
    refine RoundN.mk ⟨i + 1, by omega⟩ (by show kk - (i + 1) < kk - i; omega) ?_
    (conv => whnf); (repeat' (first | exact True.intro | exact rfl | refine And.intro ?_ ?_ | decide))
    all_goals first
      | (refine congrArg (Value.int _) ?_; dsimp only; rw [i64_in (by omega) (by omega)]; omega)
      | (show storeV (IVl (List.replicate i 77 ++ ns.drop i)) (((i : Int)).toNat * 1) [Value.int .i64 77] = _
         rw [Int.toNat_natCast, storeI (by omega)])
      | trace_state
  (repeat' ((conv => whnf); first | refine CallN.any _ C1 ?_ | refine CallN.any _ S1 ?_ | refine CallN.any _ B1 ?_ | refine CallN.any _ H1 ?_ | refine CallN.mk _ T1 ?_ | refine CallN.any _ RC ?_ | refine CallN.any _ RH ?_ | refine CallN.any _ RT ?_ | refine CallN.anyFresh _ _ L1 ?_ | refine CallN.anyFresh _ _ LR ?_ | refine CallA.any _ SM ?_ | refine CallN.any _ rBottom_d ?_ | refine AdN.mk _ _ rfl ?_ | refine DrawN.a (Ob.mk (by decide +kernel) ?_) | refine DrawN.c (Ob.mk (by decide +kernel) ?_) | refine DrawN.b (Ob.mk (by decide +kernel) ?_) | refine Ob.mk (by kernel_rfl) ?_ | (refine Br.mk (fun h => ?_) (fun h => ?_) <;> (first | (exfalso; exact Bool.false_ne_true h) | (exfalso; exact Bool.false_ne_true h.symm) | skip)) | refine SeqN.go ?_)); all_goals (conv => whnf)
  all_goals (try (first | (exfalso; clear C0 S0 B0 H0 T0 RC RH RT L0 LR SM C1 S1 B1 H1 T1 L1; simp_all; done) | (exfalso; unfold veq at nb2; rw [nb2] at h; exact absurd h (by decide))))
  refine LoopN.mk {i : Nat // i ≤ kk} (fun i => [(20, .v (.int .i64 i.1)), (19, .s 7)]) (fun i => [.cells [.v (.int .i64 x.lo), .v (.int .i64 x.hi)], .dead, .cells ((VC (vmake x)).map .v), .cells ((VC (vmake x)).map .v), .cells ((VC (vmake x)).map .v), .dead, .dead, .row 2 1 kk (IVl (List.replicate i.1 77 ++ ns.drop i.1)), .dead]) (fun i => kk - i.1) ⟨0, Nat.zero_le _⟩ ?_ ?_
  · (conv => whnf); (repeat' (first | exact True.intro | exact rfl | refine And.intro ?_ ?_ | decide))
    all_goals trace_state
    all_goals sorry
  clear hln oi
  (conv => whnf)
  rintro ⟨i2, hi2⟩
  have oi : decide ((i2 : Int) < (kk : Int)) = true → 0 ≤ (i2 : Int) ∧ (i2 : Int) < (kk : Int) := fun h => ⟨Int.natCast_nonneg _, of_decide_eq_true h⟩
  have hln : (IVl (List.replicate i2 77 ++ ns.drop i2)).length = kk := by unfold IVl; simp [hnl]; omega
  (repeat' ((conv => whnf); first | refine AdN.mk _ _ rfl ?_ | refine DrawN.a (Ob.mk (by decide +kernel) ?_) | refine DrawN.c (Ob.mk (by decide +kernel) ?_) | refine DrawN.b (Ob.mk (by decide +kernel) ?_) | refine Ob.mk (by kernel_rfl) ?_ | (refine Br.mk (fun h => ?_) (fun h => ?_) <;> (first | (exfalso; exact Bool.false_ne_true h) | (exfalso; exact Bool.false_ne_true h.symm) | skip)))); all_goals (conv => whnf)
  refine SeqN.go ?_
  (repeat' ((conv => whnf); first | refine AdN.mk _ _ rfl ?_ | refine DrawN.a (Ob.mk (by decide +kernel) ?_) | refine DrawN.c (Ob.mk (by decide +kernel) ?_) | refine DrawN.b (Ob.mk (by decide +kernel) ?_) | refine Ob.mk (by kernel_rfl) ?_ | (refine Br.mk (fun h => ?_) (fun h => ?_) <;> (first | (exfalso; exact Bool.false_ne_true h) | (exfalso; exact Bool.false_ne_true h.symm) | skip)))); all_goals (conv => whnf)
  · have hik := (oi ‹_›).2
    refine SeqN.go ?_
    (repeat' ((conv => whnf); first | refine Ob.mk (oi ‹_›) ?_ | refine Ob.mk (show ((i2 : Int)).toNat * 1 + 1 ≤ (IVl (List.replicate i2 77 ++ ns.drop i2)).length by rw [hln]; omega) ?_ | refine AdN.mk _ _ rfl ?_ | refine DrawN.a (Ob.mk (by decide +kernel) ?_) | refine DrawN.c (Ob.mk (by decide +kernel) ?_) | refine DrawN.b (Ob.mk (by decide +kernel) ?_) | refine Ob.mk (by kernel_rfl) ?_ | (refine Br.mk (fun h => ?_) (fun h => ?_) <;> (first | (exfalso; exact Bool.false_ne_true h) | (exfalso; exact Bool.false_ne_true h.symm) | skip)))); all_goals (conv => whnf)
    refine RoundN.mk ⟨i2 + 1, by omega⟩ (by show kk - (i2 + 1) < kk - i2; omega) ?_
    (conv => whnf); (repeat' (first | exact True.intro | exact rfl | refine And.intro ?_ ?_ | decide))
    all_goals first
      | (refine congrArg (Value.int _) ?_; dsimp only; rw [i64_in (by omega) (by omega)]; omega)
      | (show storeV (IVl (List.replicate i2 77 ++ ns.drop i2)) (((i2 : Int)).toNat * 1) [Value.int .i64 77] = _
         rw [Int.toNat_natCast, storeI (by omega)])
      | trace_state
  clear C0 S0 B0 H0 T0 RC RH RT L0 LR SM C1 S1 B1 H1 T1 L1
  (repeat' ((conv => whnf); first | refine CallN.any _ (docValue_d _) ?_ | refine CallN.any _ (vOne_d _) ?_ | refine CallN.any _ O1 ?_ | refine CallN.any _ vTop_d ?_ | refine CallN.any _ rTop_d ?_ | refine CallN.any _ vBottom_d ?_ | refine CallN.any _ rBottom_d ?_ | refine CallN.any _ RG ?_ | refine CallN.any _ PG ?_ | refine CallN.any _ PT ?_ | refine CallN.any _ CT ?_ | refine CallN.mk _ works21_d ?_ | refine AdN.mk _ _ rfl ?_ | refine DrawN.a (Ob.mk (by decide +kernel) ?_) | refine DrawN.c (Ob.mk (by decide +kernel) ?_) | refine DrawN.b (Ob.mk (by decide +kernel) ?_) | refine Ob.mk (by kernel_rfl) ?_ | (refine Br.mk (fun h => ?_) (fun h => ?_) <;> (first | (exfalso; exact Bool.false_ne_true h) | (exfalso; exact Bool.false_ne_true h.symm) | skip)) | refine SeqN.go ?_)); all_goals (conv => whnf)
  all_goals first | rfl | (exfalso; simp at *; done) | trace_state
end Go.Proofs.YtljhbdgoknfkcaaGreatDoor
