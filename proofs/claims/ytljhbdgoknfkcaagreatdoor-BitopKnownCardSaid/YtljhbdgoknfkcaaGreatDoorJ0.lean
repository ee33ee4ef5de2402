/- The chapter's examples of values: they work, over the table that a text reads. -/
import Derived.Test.YtljhbdgoknfkcaaGreatDoorT1
import Derived.Test.YtljhbdgoknfkcaaGreatDoorK1
namespace Go.Proofs.YtljhbdgoknfkcaaGreatDoor
open Go Go.RowKit Go.Sort
set_option linter.unusedVariables false
set_option linter.unusedSimpArgs false
set_option maxRecDepth 100000

theorem vText_e {x y : VV} {s : ByteArray} (h : InV x) (e : vmake x = y) (e2 : vtext y = s) : Den Tryz.prog 53 #[VVal x] tabF (.string s) := by
  have := vText_d x h
  rwa [e, e2] at this
theorem vMake_e {x y : VV} (h : InV x) (e : vmake x = y) : Den Tryz.prog 43 #[.agg #[.int .i64 x.lo, .int .i64 x.hi], .agg #[.int .u64 x.m, .int .u64 x.r]] noFacts (VVal y) := e ▸ vMake_d x h
theorem works21_d : Den Tryz.prog 17 #[] tabF (.bool true) := by
  have T1 := vText_e (x := ⟨4, 8, 4, 0⟩) (y := ⟨4, 8, 4, 0⟩) (s := ⟨#[91, 52, 44, 32, 56, 93, 32, 48, 32, 109, 111, 100, 32, 52]⟩) ⟨⟨by decide, by decide⟩, ⟨by decide, by decide⟩, ⟨by decide, by decide⟩, ⟨by decide, by decide⟩⟩ (by decide +kernel) (by simp [vtext, veq, vbot, itoaB, decB, Lib.itoa, Lib.decDigits]; decide +kernel)
  have T2 := vText_e (x := ⟨1, 0, 1, 0⟩) (y := ⟨1, 0, 1, 0⟩) (s := ⟨#[110, 111, 110, 101]⟩) ⟨⟨by decide, by decide⟩, ⟨by decide, by decide⟩, ⟨by decide, by decide⟩, ⟨by decide, by decide⟩⟩ (by decide +kernel) (by simp [vtext, veq, vbot])
  have T3 := vText_e (x := ⟨2, 8, 6, 2⟩) (y := ⟨2, 8, 6, 2⟩) (s := ⟨#[91, 50, 44, 32, 56, 93, 32, 50, 32, 109, 111, 100, 32, 54]⟩) ⟨⟨by decide, by decide⟩, ⟨by decide, by decide⟩, ⟨by decide, by decide⟩, ⟨by decide, by decide⟩⟩ (by decide +kernel) (by simp [vtext, veq, vbot, itoaB, decB, Lib.itoa, Lib.decDigits]; decide +kernel)
  have T4 := vText_e (x := ⟨0, 9, 1, 0⟩) (y := ⟨0, 9, 1, 0⟩) (s := ⟨#[91, 48, 44, 32, 57, 93]⟩) ⟨⟨by decide, by decide⟩, ⟨by decide, by decide⟩, ⟨by decide, by decide⟩, ⟨by decide, by decide⟩⟩ (by decide +kernel) (by simp [vtext, veq, vbot, itoaB, decB, Lib.itoa, Lib.decDigits]; decide +kernel)
  have M1 := vMake_e (x := ⟨1, 10, 4, 0⟩) (y := ⟨4, 8, 4, 0⟩) ⟨⟨by decide, by decide⟩, ⟨by decide, by decide⟩, ⟨by decide, by decide⟩, ⟨by decide, by decide⟩⟩ (by decide +kernel)
  have M2 := vMake_e (x := ⟨5, 7, 4, 0⟩) (y := ⟨1, 0, 1, 0⟩) ⟨⟨by decide, by decide⟩, ⟨by decide, by decide⟩, ⟨by decide, by decide⟩, ⟨by decide, by decide⟩⟩ (by decide +kernel)
  have C := den_of (F := noFacts) fun W => make_c 4 0 W (by decide) (by decide) (by decide) (by decide)
  have B : Den Tryz.prog 33 #[VVal ⟨1, 0, 1, 0⟩] noFacts (.bool true) := (vIsBottom_d ⟨1, 0, 1, 0⟩ ⟨⟨by decide, by decide⟩, ⟨by decide, by decide⟩, ⟨by decide, by decide⟩, ⟨by decide, by decide⟩⟩).eq (congrArg Value.bool (by decide +kernel))
  have J : DenA Tryz.prog 62 noFacts [.r 4 2 [.int .i64 2, .int .i64 2, .int .u64 0, .int .u64 2, .int .i64 8, .int .i64 8, .int .u64 0, .int .u64 8]] (VVal ⟨2, 8, 6, 2⟩) := by
    have := vJoin2_d ⟨2, 2, 0, 2⟩ ⟨8, 8, 0, 8⟩ ⟨⟨by decide, by decide⟩, ⟨by decide, by decide⟩, ⟨by decide, by decide⟩, ⟨by decide, by decide⟩⟩ ⟨⟨by decide, by decide⟩, ⟨by decide, by decide⟩, ⟨by decide, by decide⟩, ⟨by decide, by decide⟩⟩
    rwa [show vjoins [⟨2, 2, 0, 2⟩, ⟨8, 8, 0, 8⟩] = ⟨2, 8, 6, 2⟩ by decide +kernel] at this
  have K : Den Tryz.prog 47 #[VVal ⟨2, 8, 6, 2⟩] noFacts (.tuple #[.int .u64 2, .bool true]) := (vCard_d ⟨2, 8, 6, 2⟩ ⟨⟨by decide, by decide⟩, ⟨by decide, by decide⟩, ⟨by decide, by decide⟩, ⟨by decide, by decide⟩⟩).eq (by rw [show vcard (vmake ⟨2, 8, 6, 2⟩) = (2, true) by decide +kernel])
  have R : Den Tryz.prog 16 #[.int .i64 3, .int .i64 9] noFacts (VVal ⟨3, 9, 1, 0⟩) := (vRange_d 3 9 ⟨by decide, by decide⟩ ⟨by decide, by decide⟩).eq (by rw [show vmake ⟨(iof 3 9).1, (iof 3 9).2, 1, 0⟩ = ⟨3, 9, 1, 0⟩ by decide +kernel])
  have R2 : Den Tryz.prog 16 #[.int .i64 0, .int .i64 9] noFacts (VVal ⟨0, 9, 1, 0⟩) := (vRange_d 0 9 ⟨by decide, by decide⟩ ⟨by decide, by decide⟩).eq (by rw [show vmake ⟨(iof 0 9).1, (iof 0 9).2, 1, 0⟩ = ⟨0, 9, 1, 0⟩ by decide +kernel])
  have M : DenA Tryz.prog 63 noFacts [.r 4 2 [.int .i64 2, .int .i64 8, .int .u64 6, .int .u64 2, .int .i64 3, .int .i64 9, .int .u64 1, .int .u64 0]] (VVal ⟨8, 8, 0, 8⟩) := by
    have := vMeet2_d ⟨2, 8, 6, 2⟩ ⟨3, 9, 1, 0⟩ ⟨⟨by decide, by decide⟩, ⟨by decide, by decide⟩, ⟨by decide, by decide⟩, ⟨by decide, by decide⟩⟩ ⟨⟨by decide, by decide⟩, ⟨by decide, by decide⟩, ⟨by decide, by decide⟩, ⟨by decide, by decide⟩⟩
    rwa [show vmeets [⟨2, 8, 6, 2⟩, ⟨3, 9, 1, 0⟩] = ⟨8, 8, 0, 8⟩ by decide +kernel] at this
  have S : Den Tryz.prog 32 #[VVal ⟨8, 8, 0, 8⟩] noFacts (.tuple #[.int .i64 8, .bool true]) := (vSingle_d ⟨8, 8, 0, 8⟩ ⟨⟨by decide, by decide⟩, ⟨by decide, by decide⟩, ⟨by decide, by decide⟩, ⟨by decide, by decide⟩⟩).eq (by rw [show vmake ⟨8, 8, 0, 8⟩ = ⟨8, 8, 0, 8⟩ by decide +kernel]; rfl)
  refine den_of_body (args := []) hmix Tryz.func17 ?_
  (repeat' ((conv => whnf); first | refine CallN.any _ (iOf_d _ _) ?_ | refine CallN.any _ C ?_ | refine CallN.any _ M1 ?_ | refine CallN.any _ M2 ?_ | refine CallN.any _ (vOne_d _) ?_ | refine CallA.any _ J ?_ | refine CallN.any _ K ?_ | refine CallN.any _ R ?_ | refine CallN.any _ R2 ?_ | refine CallA.any _ M ?_ | refine CallN.any _ S ?_ | refine CallN.any _ B ?_ | refine CallN.mk _ T1 ?_ | refine CallN.mk _ T2 ?_ | refine CallN.mk _ T3 ?_ | refine CallN.mk _ T4 ?_ | refine AdN.mk _ _ rfl ?_ | refine DrawN.a (Ob.mk (by decide +kernel) ?_) | refine DrawN.c (Ob.mk (by decide +kernel) ?_) | refine DrawN.b (Ob.mk (by decide +kernel) ?_) | refine Ob.mk (by kernel_rfl) ?_ | (refine Br.mk (fun h => ?_) (fun h => ?_) <;> (first | (exfalso; exact Bool.false_ne_true h) | (exfalso; exact Bool.false_ne_true h.symm) | skip)) | refine SeqN.go ?_)); all_goals (conv => whnf)
  all_goals first | rfl | (simp [retV]; done) | (exfalso; simp at *; done)
end Go.Proofs.YtljhbdgoknfkcaaGreatDoor
