/- Contract of cond.Refine, over what it is handed. -/
import Derived.Test.YtcemohoigdninaaGreatDoorG1
namespace Go.Proofs.YtcemohoigdninaaGreatDoor
open Go Go.RowKit Go.Sort
set_option linter.unusedVariables false
set_option linter.unusedSimpArgs false
set_option maxRecDepth 100000

def otherL : List (Value × Value) := [(.int .i64 4, .int .i64 7), (.int .i64 5, .int .i64 6), (.int .i64 2, .int .i64 3), (.int .i64 3, .int .i64 2), (.int .i64 6, .int .i64 5), (.int .i64 7, .int .i64 4)]
theorem cOther_v : DenV Tryz.prog 78 noFacts [] [.t 0] [.map otherL] := by
  refine denV_of_body (args := []) hmix Tryz.func78 ?_
  (repeat' ((conv => whnf); first | refine AdN.mk _ _ rfl ?_ | refine DrawN.a (Ob.mk (by decide +kernel) ?_) | refine DrawN.c (Ob.mk (by decide +kernel) ?_) | refine DrawN.b (Ob.mk (by decide +kernel) ?_) | refine Ob.mk (by kernel_rfl) ?_ | (refine Br.mk (fun h => ?_) (fun h => ?_) <;> (first | (exfalso; exact Bool.false_ne_true h) | (exfalso; exact Bool.false_ne_true h.symm) | skip)) | refine SeqN.go ?_)); all_goals (conv => whnf)
  refine RetN.mk [0] (by decide) rfl ?_ ?_ <;> (conv => whnf); (repeat' (first | exact True.intro | exact rfl | refine And.intro ?_ ?_ | decide))
theorem cOther_f : DenF Tryz.prog 78 noFacts [] [.t 0] [.map otherL] := DenF.fam rfl cOther_v
set_option maxHeartbeats 8000000 in
theorem cRefine_d (op : Int) (x y : VV) (t : Bool) (hx : InV x) (hy : InV y) : Den Tryz.prog 17 #[.int .i64 op, VVal x, VVal y, .bool t] noFacts (.tuple #[VVal (crefine op (vmake x) (vmake y) t).1, VVal (crefine op (vmake x) (vmake y) t).2]) := by
  have ha := vmake_rv hx
  have hb := vmake_rv hy
  have R1 := cReduced_d x hx
  have R2 := cReduced_d y hy
  generalize vmake x = a at *
  generalize vmake y = b at *
  cases t
  all_goals
    refine den_of_body (args := [.int .i64 op, VVal x, VVal y, .bool _]) hmix Tryz.func17 ?_
    have B1 := bottom_r ha
    have B2 := bottom_r hb
    have M := cMay_d op a b ha hb
    have L := fun op => cLeft_d op a b ha hb
    have BL1 := fun op => bottom_r (cleft_rv (op := op) ha hb).1
    have BL2 := fun op => bottom_r (cleft_rv (op := op) ha hb).2
    have O1 := only_r false ha
    have O2 := only_r false hb
    have BO1 := bottom_r (conly_rv false ha)
    have BO2 := bottom_r (conly_rv false hb)
    (repeat' ((conv => whnf); first | refine CallN.any _ R1 ?_ | refine CallN.any _ R2 ?_ | refine CallN.any _ vBottom_d ?_ | refine CallN.any _ B1 ?_ | refine CallN.any _ B2 ?_ | refine CallN.any _ M ?_ | refine CallN.anyFresh _ _ cOther_f ?_ | refine CallN.any _ (L _) ?_ | refine CallN.any _ (BL1 _) ?_ | refine CallN.any _ (BL2 _) ?_ | refine CallN.any _ O1 ?_ | refine CallN.any _ O2 ?_ | refine CallN.any _ BO1 ?_ | refine CallN.any _ BO2 ?_ | refine AdN.mk _ _ rfl ?_ | refine DrawN.a (Ob.mk (by decide +kernel) ?_) | refine DrawN.c (Ob.mk (by decide +kernel) ?_) | refine DrawN.b (Ob.mk (by decide +kernel) ?_) | refine Ob.mk (by kernel_rfl) ?_ | (refine Br.mk (fun h => ?_) (fun h => ?_) <;> (first | (exfalso; exact Bool.false_ne_true h) | (exfalso; exact Bool.false_ne_true h.symm) | skip)) | refine SeqN.go ?_)); all_goals (conv => whnf)
    all_goals (clear R1 R2 B1 B2 M L BL1 BL2 O1 O2 BO1 BO2; grind [retV, crefine, cpart, cother])
end Go.Proofs.YtcemohoigdninaaGreatDoor
