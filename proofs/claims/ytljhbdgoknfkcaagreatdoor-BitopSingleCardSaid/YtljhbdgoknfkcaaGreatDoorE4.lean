/- The chapter's examples of sums and products: they work, over the table that a text reads. -/
import Derived.Test.YtljhbdgoknfkcaaGreatDoorG4
import Derived.Test.YtljhbdgoknfkcaaGreatDoorPA
namespace Go.Proofs.YtljhbdgoknfkcaaGreatDoor
open Go Go.RowKit Go.Sort
set_option linter.unusedVariables false
set_option linter.unusedSimpArgs false
set_option maxRecDepth 100000

theorem aDo_e {op : Int} {x y a : VV} (hx : InV x) (hy : InV y) (e : ado op (vmake x) (vmake y) = a) : Den Tryz.prog 19 #[.int .i64 op, VVal x, VVal y] noFacts (VVal a) := e ▸ aDo_d op x y hx hy
theorem works22_d : Den Tryz.prog 25 #[] tabF (.bool true) := by
  have T1 := vText_e (x := ⟨1, 15, 2, 1⟩) (y := ⟨1, 15, 2, 1⟩) (s := ⟨#[91, 49, 44, 32, 49, 53, 93, 32, 49, 32, 109, 111, 100, 32, 50]⟩) ⟨⟨by decide, by decide⟩, ⟨by decide, by decide⟩, ⟨by decide, by decide⟩, ⟨by decide, by decide⟩⟩ (by decide +kernel) (by simp [vtext, veq, vbot, itoaB, decB, Lib.itoa, Lib.decDigits] <;> decide +kernel)
  have T2 := vText_e (x := ⟨-8, 12, 4, 0⟩) (y := ⟨-8, 12, 4, 0⟩) (s := ⟨#[91, 45, 56, 44, 32, 49, 50, 93, 32, 48, 32, 109, 111, 100, 32, 52]⟩) ⟨⟨by decide, by decide⟩, ⟨by decide, by decide⟩, ⟨by decide, by decide⟩, ⟨by decide, by decide⟩⟩ (by decide +kernel) (by simp [vtext, veq, vbot, itoaB, decB, Lib.itoa, Lib.decDigits] <;> decide +kernel)
  have T3 := vText_e (x := ⟨-9223372036854775805, -9223372036854775804, 1, 0⟩) (y := ⟨-9223372036854775805, -9223372036854775804, 1, 0⟩) (s := ⟨#[91, 45, 57, 50, 50, 51, 51, 55, 50, 48, 51, 54, 56, 53, 52, 55, 55, 53, 56, 48, 53, 44, 32, 45, 57, 50, 50, 51, 51, 55, 50, 48, 51, 54, 56, 53, 52, 55, 55, 53, 56, 48, 52, 93]⟩) ⟨⟨by decide, by decide⟩, ⟨by decide, by decide⟩, ⟨by decide, by decide⟩, ⟨by decide, by decide⟩⟩ (by decide +kernel) (by simp [vtext, veq, vbot, itoaB, decB, Lib.itoa, Lib.decDigits] <;> decide +kernel)
  have M1 := vMake_e (x := ⟨0, 6, 2, 0⟩) (y := ⟨0, 6, 2, 0⟩) ⟨⟨by decide, by decide⟩, ⟨by decide, by decide⟩, ⟨by decide, by decide⟩, ⟨by decide, by decide⟩⟩ (by decide +kernel)
  have M2 := vMake_e (x := ⟨1, 9, 4, 1⟩) (y := ⟨1, 9, 4, 1⟩) ⟨⟨by decide, by decide⟩, ⟨by decide, by decide⟩, ⟨by decide, by decide⟩, ⟨by decide, by decide⟩⟩ (by decide +kernel)
  have C1 := den_of (F := noFacts) fun W => make_c 2 0 W (by decide) (by decide) (by decide) (by decide)
  have C2 := den_of (F := noFacts) fun W => make_c 4 1 W (by decide) (by decide) (by decide) (by decide)
  have R1 := vRange_e (lo := -2) (hi := 3) (y := ⟨-2, 3, 1, 0⟩) (by decide) (by decide) (by decide +kernel)
  have R2 := vRange_e (lo := 9223372036854775806) (hi := 9223372036854775807) (y := ⟨9223372036854775806, 9223372036854775807, 1, 0⟩) (by decide) (by decide) (by decide +kernel)
  have R3 := vRange_e (lo := 0) (hi := 9223372036854775807) (y := ⟨0, 9223372036854775807, 1, 0⟩) (by decide) (by decide) (by decide +kernel)
  have R4 := vRange_e (lo := 1) (hi := 2) (y := ⟨1, 2, 1, 0⟩) (by decide) (by decide) (by decide +kernel)
  have R5 := vRange_e (lo := -9223372036854775808) (hi := 0) (y := ⟨-9223372036854775808, 0, 1, 0⟩) (by decide) (by decide) (by decide +kernel)
  have D1 := aDo_e (op := 13) (x := ⟨0, 6, 2, 0⟩) (y := ⟨1, 9, 4, 1⟩) (a := ⟨1, 15, 2, 1⟩) ⟨⟨by decide, by decide⟩, ⟨by decide, by decide⟩, ⟨by decide, by decide⟩, ⟨by decide, by decide⟩⟩ ⟨⟨by decide, by decide⟩, ⟨by decide, by decide⟩, ⟨by decide, by decide⟩, ⟨by decide, by decide⟩⟩ (by decide +kernel)
  have D2 := aDo_e (op := 15) (x := ⟨-2, 3, 1, 0⟩) (y := ⟨4, 4, 0, 4⟩) (a := ⟨-8, 12, 4, 0⟩) ⟨⟨by decide, by decide⟩, ⟨by decide, by decide⟩, ⟨by decide, by decide⟩, ⟨by decide, by decide⟩⟩ ⟨⟨by decide, by decide⟩, ⟨by decide, by decide⟩, ⟨by decide, by decide⟩, ⟨by decide, by decide⟩⟩ (by decide +kernel)
  have D3 := aDo_e (op := 13) (x := ⟨9223372036854775806, 9223372036854775807, 1, 0⟩) (y := ⟨5, 5, 0, 5⟩) (a := ⟨-9223372036854775805, -9223372036854775804, 1, 0⟩) ⟨⟨by decide, by decide⟩, ⟨by decide, by decide⟩, ⟨by decide, by decide⟩, ⟨by decide, by decide⟩⟩ ⟨⟨by decide, by decide⟩, ⟨by decide, by decide⟩, ⟨by decide, by decide⟩, ⟨by decide, by decide⟩⟩ (by decide +kernel)
  have D4 := aDo_e (op := 13) (x := ⟨0, 9223372036854775807, 1, 0⟩) (y := ⟨1, 2, 1, 0⟩) (a := vtop) ⟨⟨by decide, by decide⟩, ⟨by decide, by decide⟩, ⟨by decide, by decide⟩, ⟨by decide, by decide⟩⟩ ⟨⟨by decide, by decide⟩, ⟨by decide, by decide⟩, ⟨by decide, by decide⟩, ⟨by decide, by decide⟩⟩ (by decide +kernel)
  have N1 : Den Tryz.prog 20 #[VVal ⟨-9223372036854775808, 0, 1, 0⟩] noFacts (VVal vtop) := (aNeg_d ⟨-9223372036854775808, 0, 1, 0⟩ ⟨⟨by decide, by decide⟩, ⟨by decide, by decide⟩, ⟨by decide, by decide⟩, ⟨by decide, by decide⟩⟩).eq (congrArg VVal (show ado 14 (vone 0) (vmake ⟨-9223372036854775808, 0, 1, 0⟩) = vtop by decide +kernel))
  refine den_of_body (args := []) hmix Tryz.func25 ?_
  (repeat' ((conv => whnf); first | refine CallN.any _ C1 ?_ | refine CallN.any _ C2 ?_ | refine CallN.any _ M1 ?_ | refine CallN.any _ M2 ?_ | refine CallN.any _ (vOne_d _) ?_ | refine CallN.any _ R1 ?_ | refine CallN.any _ R2 ?_ | refine CallN.any _ R3 ?_ | refine CallN.any _ R4 ?_ | refine CallN.any _ R5 ?_ | refine CallN.any _ D1 ?_ | refine CallN.any _ D2 ?_ | refine CallN.any _ D3 ?_ | refine CallN.any _ D4 ?_ | refine CallN.any _ N1 ?_ | refine CallN.any _ vTop_d ?_ | refine CallN.mk _ T1 ?_ | refine CallN.mk _ T2 ?_ | refine CallN.mk _ T3 ?_ | refine AdN.mk _ _ rfl ?_ | refine DrawN.a (Ob.mk (by decide +kernel) ?_) | refine DrawN.c (Ob.mk (by decide +kernel) ?_) | refine DrawN.b (Ob.mk (by decide +kernel) ?_) | refine Ob.mk (by kernel_rfl) ?_ | (refine Br.mk (fun h => ?_) (fun h => ?_) <;> (first | (exfalso; exact Bool.false_ne_true h) | (exfalso; exact Bool.false_ne_true h.symm) | skip)) | refine SeqN.go ?_)); all_goals (conv => whnf)
  all_goals first | rfl | (simp [retV]; done) | (exfalso; simp at *; done)
end Go.Proofs.YtljhbdgoknfkcaaGreatDoor
