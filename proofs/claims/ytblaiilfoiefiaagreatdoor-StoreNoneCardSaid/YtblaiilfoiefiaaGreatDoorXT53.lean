import Derived.Test.YtblaiilfoiefiaaGreatDoorCards
import Derived.Test.YtblaiilfoiefiaaGreatDoorTie
import Derived.SevenTiedAt
import Derived.Handed
import Derived.Test.YtblaiilfoiefiaaGreatDoorXT01
import Derived.Test.YtblaiilfoiefiaaGreatDoorXT52
/- StoreNone, for every call: the row. No condition but the tables. -/
namespace Go.Proofs.YtblaiilfoiefiaaGreatDoor
open Go Go.ChangeShapes Go.WideShapes Go.ChangeAt Go.RowKit Go.Joins U
set_option linter.unusedVariables false
set_option linter.unusedSimpArgs false
set_option maxRecDepth 100000
set_option maxHeartbeats 1000000 in
theorem storeNone_card_holds : Rows.StoreNoneCardSaid :=
  Claim7.holds_tied_plain_at .later [] [.data, .data, .data, .data] true (true, "30d92ad83b26868c2a5b4925411523422c26a0e6f055f7b738c391a6050aa75e") true
    storeNone_holds (fun _ h => by cases h) (by kernel_rfl) (fun _ h => by cases h) storeNone_row_tie rfl ⟨rfl, rfl⟩ (by kernel_rfl) rfl
    (fun f fn hf hfn => by
      obtain rfl : f = 7 := Option.some.inj ((show Tryz.prog.funcNamed "sieveholes/sieveholeslaw25.StoreNone" = some 7 by kernel_rfl).symm.trans hf) |>.symm
      obtain rfl : fn = Tryz.f7 := (Option.some.inj (Tryz.func7.symm.trans hfn)).symm
      exact ⟨by kernel_rfl, fun j t ht => by
        have hall : (Tryz.f7.params.toList.all fun t => !Tryz.pinned.checked.prog.wantsStandIn t) = true := by kernel_rfl
        have := List.all_eq_true.1 hall t (by rw [← Array.getElem?_toList] at ht; exact List.mem_of_getElem? ht)
        simpa using this⟩)
    (by kernel_rfl)
#print axioms storeNone_card_holds
end Go.Proofs.YtblaiilfoiefiaaGreatDoor
