/- The chapter's examples; BitopSingle as a call. -/
import Derived.Test.YtljhbdgoknfkcaaGreatDoorBR
import Derived.Test.YtljhbdgoknfkcaaGreatDoorG4
namespace Go.Proofs.YtljhbdgoknfkcaaGreatDoor
open Go Go.RowKit Go.Sort
set_option linter.unusedVariables false
set_option linter.unusedSimpArgs false
set_option maxRecDepth 100000

theorem bDo_e {op : Int} {x y a : VV} (hx : InV x) (hy : InV y) (e : bdo op (vmake x) (vmake y) = a) : Den Tryz.prog 30 #[.int .i64 op, VVal x, VVal y] noFacts (VVal a) := e ▸ bDo_d op x y hx hy
theorem mayx_d (op : Int) (x : VV) (hx : InV x) : Den Tryz.prog 39 #[.int .i64 op, VVal x] noFacts (.bool ((op == 16 || op == 17) && vhas (vmake x) 0)) := by
  refine den_of_body (args := [.int .i64 op, VVal x]) hmix Tryz.func39 ?_
  have T := wTraps_d op
  have H := vHas_d x 0 hx ⟨by decide, by decide⟩
  (repeat' ((conv => whnf); first | refine CallN.any _ T ?_ | refine CallN.any _ H ?_ | refine AdN.mk _ _ rfl ?_ | refine DrawN.a (Ob.mk (by decide +kernel) ?_) | refine DrawN.c (Ob.mk (by decide +kernel) ?_) | refine DrawN.b (Ob.mk (by decide +kernel) ?_) | refine Ob.mk (by kernel_rfl) ?_ | (refine Br.mk (fun h => ?_) (fun h => ?_) <;> (first | (exfalso; exact Bool.false_ne_true h) | (exfalso; exact Bool.false_ne_true h.symm) | skip)) | refine SeqN.go ?_)); all_goals (conv => whnf)
  all_goals (refine congrArg Value.bool ?_; simp_all)
set_option maxHeartbeats 4000000 in
theorem works23_d : Den Tryz.prog 34 #[] tabF (.bool true) := by
  have T1 := vText_e (x := ⟨3, 6, 1, 0⟩) (y := ⟨3, 6, 1, 0⟩) (s := ⟨#[91, 51, 44, 32, 54, 93]⟩) ⟨⟨by decide, by decide⟩, ⟨by decide, by decide⟩, ⟨by decide, by decide⟩, ⟨by decide, by decide⟩⟩ (by decide +kernel) (by simp [vtext, veq, vbot, itoaB, decB, Lib.itoa, Lib.decDigits] <;> decide +kernel)
  have T2 := vText_e (x := ⟨0, 6, 1, 0⟩) (y := ⟨0, 6, 1, 0⟩) (s := ⟨#[91, 48, 44, 32, 54, 93]⟩) ⟨⟨by decide, by decide⟩, ⟨by decide, by decide⟩, ⟨by decide, by decide⟩, ⟨by decide, by decide⟩⟩ (by decide +kernel) (by simp [vtext, veq, vbot, itoaB, decB, Lib.itoa, Lib.decDigits] <;> decide +kernel)
  have T3 := vText_e (x := ⟨0, 15, 1, 0⟩) (y := ⟨0, 15, 1, 0⟩) (s := ⟨#[91, 48, 44, 32, 49, 53, 93]⟩) ⟨⟨by decide, by decide⟩, ⟨by decide, by decide⟩, ⟨by decide, by decide⟩, ⟨by decide, by decide⟩⟩ (by decide +kernel) (by simp [vtext, veq, vbot, itoaB, decB, Lib.itoa, Lib.decDigits] <;> decide +kernel)
  have T4 := vText_e (x := ⟨16, 144, 16, 0⟩) (y := ⟨16, 144, 16, 0⟩) (s := ⟨#[91, 49, 54, 44, 32, 49, 52, 52, 93, 32, 48, 32, 109, 111, 100, 32, 49, 54]⟩) ⟨⟨by decide, by decide⟩, ⟨by decide, by decide⟩, ⟨by decide, by decide⟩, ⟨by decide, by decide⟩⟩ (by decide +kernel) (by simp [vtext, veq, vbot, itoaB, decB, Lib.itoa, Lib.decDigits] <;> decide +kernel)
  have R1 := vRange_e (lo := 10) (hi := 20) (y := ⟨10, 20, 1, 0⟩) (by decide) (by decide) (by decide +kernel)
  have R2 := vRange_e (lo := 0) (hi := 100) (y := ⟨0, 100, 1, 0⟩) (by decide) (by decide) (by decide +kernel)
  have R3 := vRange_e (lo := 0) (hi := 15) (y := ⟨0, 15, 1, 0⟩) (by decide) (by decide) (by decide +kernel)
  have R4 := vRange_e (lo := 1) (hi := 9) (y := ⟨1, 9, 1, 0⟩) (by decide) (by decide) (by decide +kernel)
  have R5 := vRange_e (lo := 0) (hi := 9) (y := ⟨0, 9, 1, 0⟩) (by decide) (by decide) (by decide +kernel)
  have D1 := bDo_e (op := 16) (x := ⟨10, 20, 1, 0⟩) (y := ⟨3, 3, 0, 3⟩) (a := ⟨3, 6, 1, 0⟩) ⟨⟨by decide, by decide⟩, ⟨by decide, by decide⟩, ⟨by decide, by decide⟩, ⟨by decide, by decide⟩⟩ ⟨⟨by decide, by decide⟩, ⟨by decide, by decide⟩, ⟨by decide, by decide⟩, ⟨by decide, by decide⟩⟩ (by decide +kernel)
  have D2 := bDo_e (op := 17) (x := ⟨0, 100, 1, 0⟩) (y := ⟨7, 7, 0, 7⟩) (a := ⟨0, 6, 1, 0⟩) ⟨⟨by decide, by decide⟩, ⟨by decide, by decide⟩, ⟨by decide, by decide⟩, ⟨by decide, by decide⟩⟩ ⟨⟨by decide, by decide⟩, ⟨by decide, by decide⟩, ⟨by decide, by decide⟩, ⟨by decide, by decide⟩⟩ (by decide +kernel)
  have D3 := bDo_e (op := 10) (x := ⟨0, 100, 1, 0⟩) (y := ⟨0, 15, 1, 0⟩) (a := ⟨0, 15, 1, 0⟩) ⟨⟨by decide, by decide⟩, ⟨by decide, by decide⟩, ⟨by decide, by decide⟩, ⟨by decide, by decide⟩⟩ ⟨⟨by decide, by decide⟩, ⟨by decide, by decide⟩, ⟨by decide, by decide⟩, ⟨by decide, by decide⟩⟩ (by decide +kernel)
  have D4 := bDo_e (op := 11) (x := ⟨1, 9, 1, 0⟩) (y := ⟨4, 4, 0, 4⟩) (a := ⟨16, 144, 16, 0⟩) ⟨⟨by decide, by decide⟩, ⟨by decide, by decide⟩, ⟨by decide, by decide⟩, ⟨by decide, by decide⟩⟩ ⟨⟨by decide, by decide⟩, ⟨by decide, by decide⟩, ⟨by decide, by decide⟩, ⟨by decide, by decide⟩⟩ (by decide +kernel)
  have D5 := bDo_e (op := 16) (x := ⟨1, 9, 1, 0⟩) (y := ⟨0, 0, 0, 0⟩) (a := vbot) ⟨⟨by decide, by decide⟩, ⟨by decide, by decide⟩, ⟨by decide, by decide⟩, ⟨by decide, by decide⟩⟩ ⟨⟨by decide, by decide⟩, ⟨by decide, by decide⟩, ⟨by decide, by decide⟩, ⟨by decide, by decide⟩⟩ (by decide +kernel)
  have B5 := vIsBottom_d vbot vbot_in
  rw [rv_bot.fix, veq_iff.2 rfl] at B5
  have Y := mayx_d 17 ⟨0, 9, 1, 0⟩ ⟨⟨by decide, by decide⟩, ⟨by decide, by decide⟩, ⟨by decide, by decide⟩, ⟨by decide, by decide⟩⟩
  rw [show ((((17 : Int) == 16 || (17 : Int) == 17)) && vhas (vmake ⟨0, 9, 1, 0⟩) 0) = true by decide +kernel] at Y
  refine den_of_body (args := []) hmix Tryz.func34 ?_
  (repeat' ((conv => whnf); first | refine CallN.any _ (vOne_d _) ?_ | refine CallN.any _ R1 ?_ | refine CallN.any _ R2 ?_ | refine CallN.any _ R3 ?_ | refine CallN.any _ R4 ?_ | refine CallN.any _ R5 ?_ | refine CallN.any _ D1 ?_ | refine CallN.any _ D2 ?_ | refine CallN.any _ D3 ?_ | refine CallN.any _ D4 ?_ | refine CallN.any _ D5 ?_ | refine CallN.any _ B5 ?_ | refine CallN.any _ Y ?_ | refine CallN.mk _ T1 ?_ | refine CallN.mk _ T2 ?_ | refine CallN.mk _ T3 ?_ | refine CallN.mk _ T4 ?_ | refine AdN.mk _ _ rfl ?_ | refine DrawN.a (Ob.mk (by decide +kernel) ?_) | refine DrawN.c (Ob.mk (by decide +kernel) ?_) | refine DrawN.b (Ob.mk (by decide +kernel) ?_) | refine Ob.mk (by kernel_rfl) ?_ | (refine Br.mk (fun h => ?_) (fun h => ?_) <;> (first | (exfalso; exact Bool.false_ne_true h) | (exfalso; exact Bool.false_ne_true h.symm) | skip)) | refine SeqN.go ?_)); all_goals (conv => whnf)
  all_goals first | rfl | (simp [retV]; done) | (exfalso; simp at *; done)
end Go.Proofs.YtljhbdgoknfkcaaGreatDoor
