/- EnvNone, for every call: a memory that is not there answers so. No condition but the tables. -/
import Derived.Test.YtmcjdbkjiedolaaGreatDoorH23
import Derived.Test.YtmcjdbkjiedolaaGreatDoorH28
import Derived.Test.YtmcjdbkjiedolaaGreatDoorH29
namespace Go.Proofs.YtmcjdbkjiedolaaGreatDoor
open Go Go.ChangeShapes Go.WideShapes Go.ChangeAt Go.RowKit Go.Joins
set_option linter.unusedVariables false
set_option maxRecDepth 100000

set_option maxHeartbeats 1000000 in
theorem envNone_card_holds : Rows.EnvNoneCardSaid :=
  Claim7.holds_tied_plain_at .later [] [.data, .data] true (true, "a1a111ce82babfcdf6adaf509cb1f07aaa02f4b98b860459e72cefc7cae5bf54") true
    envNone_holds (fun _ h => by cases h) (by kernel_rfl) (fun _ h => by cases h) envNone_row_tie rfl ⟨rfl, rfl⟩ card_main rfl
    (fun f fn hf hfn => by
      obtain rfl : f = 4 := Option.some.inj ((show Tryz.prog.funcNamed "sieveholes/sieveholeslaw15.EnvNone" = some 4 by kernel_rfl).symm.trans hf) |>.symm
      obtain rfl : fn = Tryz.f4 := (Option.some.inj (Tryz.func4.symm.trans hfn)).symm
      exact ⟨card_looks, fun j t ht => by
        have := List.all_eq_true.1 card_own t (by rw [← Array.getElem?_toList] at ht; exact List.mem_of_getElem? ht)
        simpa using this⟩)
    card_goes
#print axioms envNone_card_holds
end Go.Proofs.YtmcjdbkjiedolaaGreatDoor
