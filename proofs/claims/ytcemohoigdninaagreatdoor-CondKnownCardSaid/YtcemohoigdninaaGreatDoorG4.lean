/- The chapter's examples of conditions: they work, over the table that a text reads. -/
import Derived.Test.YtcemohoigdninaaGreatDoorJ0
import Derived.Test.YtcemohoigdninaaGreatDoorG3
namespace Go.Proofs.YtcemohoigdninaaGreatDoor
open Go Go.RowKit Go.Sort
set_option linter.unusedVariables false
set_option linter.unusedSimpArgs false
set_option maxRecDepth 100000

theorem vRange_e {lo hi : Int} {y : VV} (h1 : IS lo) (h2 : IS hi) (e : vmake ⟨(iof lo hi).1, (iof lo hi).2, 1, 0⟩ = y) : Den Tryz.prog 14 #[.int .i64 lo, .int .i64 hi] noFacts (VVal y) := e ▸ vRange_d lo hi h1 h2
theorem cRefine_e {op : Int} {x y a b : VV} {t : Bool} (hx : InV x) (hy : InV y) (e : crefine op (vmake x) (vmake y) t = (a, b)) : Den Tryz.prog 17 #[.int .i64 op, VVal x, VVal y, .bool t] noFacts (.tuple #[VVal a, VVal b]) := by
  have := cRefine_d op x y t hx hy
  rwa [e] at this
theorem cDo_e {op : Int} {x y a : VV} (hx : InV x) (hy : InV y) (e : cdo op (vmake x) (vmake y) = a) : Den Tryz.prog 22 #[.int .i64 op, VVal x, VVal y] noFacts (VVal a) := e ▸ cDo_d op x y hx hy
theorem cOnly_e {x a : VV} {t : Bool} (hx : InV x) (e : conly (vmake x) t = a) : Den Tryz.prog 26 #[VVal x, .bool t] noFacts (VVal a) := e ▸ cOnly_d x t hx
theorem text2 {lo hi : Int} {s : ByteArray} (h : InV ⟨lo, hi, 1, 0⟩) (e : vmake ⟨lo, hi, 1, 0⟩ = ⟨lo, hi, 1, 0⟩) (e2 : vtext ⟨lo, hi, 1, 0⟩ = s) : Den Tryz.prog 56 #[VVal ⟨lo, hi, 1, 0⟩] tabF (.string s) := vText_e h e e2
theorem works24_d : Den Tryz.prog 28 #[] tabF (.bool true) := by
  have T1 := text2 (lo := 0) (hi := 1) (s := ⟨#[91, 48, 44, 32, 49, 93]⟩) ⟨⟨by decide, by decide⟩, ⟨by decide, by decide⟩, ⟨by decide, by decide⟩, ⟨by decide, by decide⟩⟩ (by decide +kernel) (by simp [vtext, veq, vbot, itoaB, decB, Lib.itoa, Lib.decDigits] <;> decide +kernel)
  have T2 := vText_e (x := ⟨0, 0, 0, 0⟩) (y := ⟨0, 0, 0, 0⟩) (s := ⟨#[48]⟩) ⟨⟨by decide, by decide⟩, ⟨by decide, by decide⟩, ⟨by decide, by decide⟩, ⟨by decide, by decide⟩⟩ (by decide +kernel) (by simp [vtext, veq, vbot, itoaB, decB, Lib.itoa, Lib.decDigits] <;> decide +kernel)
  have T3 := text2 (lo := 0) (hi := 4) (s := ⟨#[91, 48, 44, 32, 52, 93]⟩) ⟨⟨by decide, by decide⟩, ⟨by decide, by decide⟩, ⟨by decide, by decide⟩, ⟨by decide, by decide⟩⟩ (by decide +kernel) (by simp [vtext, veq, vbot, itoaB, decB, Lib.itoa, Lib.decDigits] <;> decide +kernel)
  have T4 := text2 (lo := 2) (hi := 5) (s := ⟨#[91, 50, 44, 32, 53, 93]⟩) ⟨⟨by decide, by decide⟩, ⟨by decide, by decide⟩, ⟨by decide, by decide⟩, ⟨by decide, by decide⟩⟩ (by decide +kernel) (by simp [vtext, veq, vbot, itoaB, decB, Lib.itoa, Lib.decDigits] <;> decide +kernel)
  have T5 := text2 (lo := 2) (hi := 9) (s := ⟨#[91, 50, 44, 32, 57, 93]⟩) ⟨⟨by decide, by decide⟩, ⟨by decide, by decide⟩, ⟨by decide, by decide⟩, ⟨by decide, by decide⟩⟩ (by decide +kernel) (by simp [vtext, veq, vbot, itoaB, decB, Lib.itoa, Lib.decDigits] <;> decide +kernel)
  have T6 := text2 (lo := 0) (hi := 3) (s := ⟨#[91, 48, 44, 32, 51, 93]⟩) ⟨⟨by decide, by decide⟩, ⟨by decide, by decide⟩, ⟨by decide, by decide⟩, ⟨by decide, by decide⟩⟩ (by decide +kernel) (by simp [vtext, veq, vbot, itoaB, decB, Lib.itoa, Lib.decDigits] <;> decide +kernel)
  have T7 := vText_e (x := ⟨4, 4, 0, 4⟩) (y := ⟨4, 4, 0, 4⟩) (s := ⟨#[52]⟩) ⟨⟨by decide, by decide⟩, ⟨by decide, by decide⟩, ⟨by decide, by decide⟩, ⟨by decide, by decide⟩⟩ (by decide +kernel) (by simp [vtext, veq, vbot, itoaB, decB, Lib.itoa, Lib.decDigits] <;> decide +kernel)
  have T8 := text2 (lo := -1) (hi := 3) (s := ⟨#[91, 45, 49, 44, 32, 51, 93]⟩) ⟨⟨by decide, by decide⟩, ⟨by decide, by decide⟩, ⟨by decide, by decide⟩, ⟨by decide, by decide⟩⟩ (by decide +kernel) (by simp [vtext, veq, vbot, itoaB, decB, Lib.itoa, Lib.decDigits] <;> decide +kernel)
  have R1 := vRange_e (lo := 0) (hi := 9) (y := ⟨0, 9, 1, 0⟩) (by decide) (by decide) (by decide +kernel)
  have R2 := vRange_e (lo := 2) (hi := 5) (y := ⟨2, 5, 1, 0⟩) (by decide) (by decide) (by decide +kernel)
  have R3 := vRange_e (lo := 0) (hi := 4) (y := ⟨0, 4, 1, 0⟩) (by decide) (by decide) (by decide +kernel)
  have R4 := vRange_e (lo := 0) (hi := 3) (y := ⟨0, 3, 1, 0⟩) (by decide) (by decide) (by decide +kernel)
  have R5 := vRange_e (lo := 3) (hi := 9) (y := ⟨3, 9, 1, 0⟩) (by decide) (by decide) (by decide +kernel)
  have R6 := vRange_e (lo := -1) (hi := 3) (y := ⟨-1, 3, 1, 0⟩) (by decide) (by decide) (by decide +kernel)
  have E1 := cRefine_e (op := 4) (x := ⟨0, 9, 1, 0⟩) (y := ⟨2, 5, 1, 0⟩) (a := ⟨0, 4, 1, 0⟩) (b := ⟨2, 5, 1, 0⟩) (t := true) ⟨⟨by decide, by decide⟩, ⟨by decide, by decide⟩, ⟨by decide, by decide⟩, ⟨by decide, by decide⟩⟩ ⟨⟨by decide, by decide⟩, ⟨by decide, by decide⟩, ⟨by decide, by decide⟩, ⟨by decide, by decide⟩⟩ (by decide +kernel)
  have E2 := cRefine_e (op := 4) (x := ⟨0, 9, 1, 0⟩) (y := ⟨2, 5, 1, 0⟩) (a := ⟨2, 9, 1, 0⟩) (b := ⟨2, 5, 1, 0⟩) (t := false) ⟨⟨by decide, by decide⟩, ⟨by decide, by decide⟩, ⟨by decide, by decide⟩, ⟨by decide, by decide⟩⟩ ⟨⟨by decide, by decide⟩, ⟨by decide, by decide⟩, ⟨by decide, by decide⟩, ⟨by decide, by decide⟩⟩ (by decide +kernel)
  have E3 := cRefine_e (op := 3) (x := ⟨0, 4, 1, 0⟩) (y := ⟨4, 4, 0, 4⟩) (a := ⟨0, 3, 1, 0⟩) (b := ⟨4, 4, 0, 4⟩) (t := true) ⟨⟨by decide, by decide⟩, ⟨by decide, by decide⟩, ⟨by decide, by decide⟩, ⟨by decide, by decide⟩⟩ ⟨⟨by decide, by decide⟩, ⟨by decide, by decide⟩, ⟨by decide, by decide⟩, ⟨by decide, by decide⟩⟩ (by decide +kernel)
  have D1 := cDo_e (op := 4) (x := ⟨0, 3, 1, 0⟩) (y := ⟨3, 9, 1, 0⟩) (a := ⟨0, 1, 1, 0⟩) ⟨⟨by decide, by decide⟩, ⟨by decide, by decide⟩, ⟨by decide, by decide⟩, ⟨by decide, by decide⟩⟩ ⟨⟨by decide, by decide⟩, ⟨by decide, by decide⟩, ⟨by decide, by decide⟩, ⟨by decide, by decide⟩⟩ (by decide +kernel)
  have D2 := cDo_e (op := 2) (x := ⟨-9223372036854775807, 9223372036854775807, 2, 1⟩) (y := ⟨-9223372036854775808, 9223372036854775806, 2, 0⟩) (a := ⟨0, 0, 0, 0⟩) ⟨⟨by decide, by decide⟩, ⟨by decide, by decide⟩, ⟨by decide, by decide⟩, ⟨by decide, by decide⟩⟩ ⟨⟨by decide, by decide⟩, ⟨by decide, by decide⟩, ⟨by decide, by decide⟩, ⟨by decide, by decide⟩⟩ (by decide +kernel)
  have N1 := cOnly_e (x := ⟨-1, 3, 1, 0⟩) (a := ⟨-1, 3, 1, 0⟩) (t := true) ⟨⟨by decide, by decide⟩, ⟨by decide, by decide⟩, ⟨by decide, by decide⟩, ⟨by decide, by decide⟩⟩ (by decide +kernel)
  have M1 := vMake_e (x := ⟨-9223372036854775808, 9223372036854775807, 2, 1⟩) (y := ⟨-9223372036854775807, 9223372036854775807, 2, 1⟩) ⟨⟨by decide, by decide⟩, ⟨by decide, by decide⟩, ⟨by decide, by decide⟩, ⟨by decide, by decide⟩⟩ (by decide +kernel)
  have M2 := vMake_e (x := ⟨-9223372036854775808, 9223372036854775807, 2, 0⟩) (y := ⟨-9223372036854775808, 9223372036854775806, 2, 0⟩) ⟨⟨by decide, by decide⟩, ⟨by decide, by decide⟩, ⟨by decide, by decide⟩, ⟨by decide, by decide⟩⟩ (by decide +kernel)
  have C1 := den_of (F := noFacts) fun W => make_c 2 1 W (by decide) (by decide) (by decide) (by decide)
  have C2 := den_of (F := noFacts) fun W => make_c 2 0 W (by decide) (by decide) (by decide) (by decide)
  refine den_of_body (args := []) hmix Tryz.func28 ?_
  (repeat' ((conv => whnf); first | refine CallN.any _ (iOf_d _ _) ?_ | refine CallN.any _ iWhole_d ?_ | refine CallN.any _ C1 ?_ | refine CallN.any _ C2 ?_ | refine CallN.any _ M1 ?_ | refine CallN.any _ M2 ?_ | refine CallN.any _ (vOne_d _) ?_ | refine CallN.any _ R1 ?_ | refine CallN.any _ R2 ?_ | refine CallN.any _ R3 ?_ | refine CallN.any _ R4 ?_ | refine CallN.any _ R5 ?_ | refine CallN.any _ R6 ?_ | refine CallN.any _ E1 ?_ | refine CallN.any _ E2 ?_ | refine CallN.any _ E3 ?_ | refine CallN.any _ D1 ?_ | refine CallN.any _ D2 ?_ | refine CallN.any _ N1 ?_ | refine CallN.mk _ T1 ?_ | refine CallN.mk _ T2 ?_ | refine CallN.mk _ T3 ?_ | refine CallN.mk _ T4 ?_ | refine CallN.mk _ T5 ?_ | refine CallN.mk _ T6 ?_ | refine CallN.mk _ T7 ?_ | refine CallN.mk _ T8 ?_ | refine AdN.mk _ _ rfl ?_ | refine DrawN.a (Ob.mk (by decide +kernel) ?_) | refine DrawN.c (Ob.mk (by decide +kernel) ?_) | refine DrawN.b (Ob.mk (by decide +kernel) ?_) | refine Ob.mk (by kernel_rfl) ?_ | (refine Br.mk (fun h => ?_) (fun h => ?_) <;> (first | (exfalso; exact Bool.false_ne_true h) | (exfalso; exact Bool.false_ne_true h.symm) | skip)) | refine SeqN.go ?_)); all_goals (conv => whnf)
  all_goals first | rfl | (simp [retV]; done) | (exfalso; simp at *; done)
end Go.Proofs.YtcemohoigdninaaGreatDoor
