
import Derived.Test.YtnfppdblcmollaaGreatDoorTS46
namespace Go.Proofs.YtnfppdblcmollaaGreatDoor
open Go Go.RowKit Go.Sort U
set_option linter.unusedVariables false
set_option linter.unusedSimpArgs false
set_option maxRecDepth 100000
set_option maxHeartbeats 40000000
mutual
def eqE:Ex->Ex->Bool
 |.mk k n a o l,.mk k' n' a' o' l'=>decide (k=k')&&decide (n=n')&&decide (a=a')&&decide (o=o')&&eqEs l l'
def eqEs:List Ex->List Ex->Bool
 |[],[]=>true
 |x::l,y::m=>eqE x y&&eqEs l m
 |[],_::_=>false
 |_::_,[]=>false
end
end Go.Proofs.YtnfppdblcmollaaGreatDoor
