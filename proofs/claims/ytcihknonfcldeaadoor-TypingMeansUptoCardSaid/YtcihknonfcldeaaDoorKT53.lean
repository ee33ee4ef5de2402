/- TypingMeans: for every program that, with all that it holds, is of bulk at most 1048576, the law comes to true: the slots of a checked program are different ones below Slots, each name that stands in a statement means what must stand there, and nothing calls itself round; what came in reads as it did. Conditions: that bulk (the second form of the statement), and that the table of keywords holds what the text lays (the card ties it). -/
import Derived.Test.YtcihknonfcldeaaDoorCards
import Derived.Test.YtcihknonfcldeaaDoorTie
import Derived.SevenTiedAt
import Derived.Handed
import Derived.Test.YtcihknonfcldeaaDoorKT01
import Derived.Test.YtcihknonfcldeaaDoorKT52
/- TypingMeans, for every program of bulk at most 1048576: the card. No condition but the table. -/
namespace Go.Proofs.YtcihknonfcldeaaDoor
open Go Go.ChangeShapes Go.WideShapes Go.ChangeAt Go.RowKit Go.Joins
set_option linter.unusedVariables false
set_option linter.unusedSimpArgs false
set_option maxRecDepth 100000
set_option maxHeartbeats 40000000
set_option maxHeartbeats 1000000 in
theorem typingMeansUpto_card_holds:Rows.TypingMeansUptoCardSaid :=
 Claim7.holds_tied_plain_at .later [] _ _ _ _
  typingMeansUpto_holds (fun _ h=>by cases h) (by kernel_rfl) (fun _ h=>by cases h) typingMeansUpto_row_tie rfl ⟨rfl,rfl⟩ (by kernel_rfl) rfl
  (fun f fn hf hfn=>by
   obtain rfl:f=3:=Option.some.inj ((show Tryd.prog.funcNamed "sieveholes/sieveholeslaw12.TypingMeans"=some 3 by kernel_rfl).symm.trans hf) |>.symm
   obtain rfl:fn=Tryd.f3:=(Option.some.inj (Tryd.func3.symm.trans hfn)).symm;exact ⟨by kernel_rfl,fun j t ht=>by
    have hall:(Tryd.f3.params.toList.all fun t=>!Tryd.pinned.checked.prog.wantsStandIn t)=true:=by kernel_rfl
    have:=List.all_eq_true.1 hall t (by rw[← Array.getElem?_toList] at ht;exact List.mem_of_getElem? ht)
    simpa using this⟩)
  (by kernel_rfl)
#print axioms typingMeansUpto_card_holds
end Go.Proofs.YtcihknonfcldeaaDoor
