
import Derived.Test.YtnfppdblcmollaaGreatDoorTS47
namespace Go.Proofs.YtnfppdblcmollaaGreatDoor
open Go Go.RowKit Go.Sort U
set_option linter.unusedVariables false
set_option linter.unusedSimpArgs false
set_option maxRecDepth 100000
set_option maxHeartbeats 40000000
mutual
def eqS:St->St->Bool
 |.mk k a xs th el no,.mk k' a' xs' th' el' no'=>decide (k=k')&&decide (a=a')&&decide (no=no')&&decide (xs.length=xs'.length)&&eqSs th th'&&eqSs el el'&&eqEs xs xs'
def eqSs:List St->List St->Bool
 |[],[]=>true
 |x::l,y::m=>eqS x y&&eqSs l m
 |[],_::_=>false
 |_::_,[]=>false
end
end Go.Proofs.YtnfppdblcmollaaGreatDoor
