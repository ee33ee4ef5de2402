import Derived.LaidLaws
import Derived.LaidHandle
import Derived.LaidSub
import Derived.Lib.LaidTab
import Derived.Test.YtcihknonfcldeaaDoorKT01
namespace Go.Proofs.YtcihknonfcldeaaDoor
open Go Go.ChangeShapes Go.WideShapes Go.ChangeAt Go.RowKit Go.Joins
set_option linter.unusedVariables false
set_option linter.unusedSimpArgs false
set_option maxRecDepth 100000
set_option maxHeartbeats 40000000
def strData {H:Type}(bs:List (List UInt8)):DataW H:=.agg (bs.map fun b=>.lit (.string b))
def strCells (bs:List (List UInt8)):List Value:=bs.map fun b=>.string ⟨b.toArray⟩
theorem cells_of_strs {H:Type}{enc:TypeId×Value->H}{P:Program}{w:World}{base:Nat}{sp:Nat->Bool}{held:Bool}{fuel:Nat}{t e:TypeId}{n:Nat}{cs:List Value}{bs:List (List UInt8)}{p:List MemPlace}
  (ht:P.underlying t=some (.array n e)) (he:P.underlying e=some .string) (hce:P.cellsOf e=1) (hct:P.cellsOf t=n)
  (h:DataW.trod enc P w base sp held fuel t cs=some (strData bs,p)):cs=strCells bs:=by
 cases fuel with
 |zero=>simp[DataW.trod] at h
 |succ fuel =>
  simp only[DataW.trod,ht,hce,hct,Nat.mul_one] at h;split at h
  ·rename_i hl;obtain ⟨xs,hm,hx⟩:=Option.map_eq_some_iff.1 h;have hxs:xs.map (·.1)=bs.map fun b=>(DataW.lit (.string b):DataW H):=by
    have:=congrArg Prod.fst hx;simpa [strData] using this
   have hxl:xs.length=n:=by simpa using Lib.mapM_length hm
   have hzl:bs.length=n:=by
    have:=congrArg List.length hxs;simp at this
    omega
   apply List.ext_getElem?;intro i;by_cases hi:i<n
   ·obtain ⟨b,hb,hf⟩:=Lib.mapM_at hm i i (by simp[hi])
    obtain ⟨z,hc,rfl,_⟩:=DataW.trod_string he hf;have h1:cs[i]?=some (.string z):=by
     have:=congrArg (·[0]?) hc
     simpa [List.getElem?_take,List.getElem?_drop] using this
    have h2:(xs.map (·.1))[i]?=some (DataW.lit (.string z.data.toList):DataW H):=by simp[hb]
    rw[hxs] at h2;simp only[List.getElem?_map,Option.map_eq_some_iff,DataW.lit.injEq,Lit.string.injEq] at h2;obtain ⟨z',hz',hz2⟩:=h2;have hz3:(⟨z'.toArray⟩:ByteArray)=z:=by rw[hz2]
    simp[h1,strCells,hz',hz3]
   ·rw[List.getElem?_eq_none (by omega),List.getElem?_eq_none (by simp[strCells];omega)]
  ·cases h
theorem laid_strs {P:Program}{W:World}{name:String}{bs:List (List UInt8)}{g:Nat}{t e:TypeId}{n:Nat}(hg:P.globalNamed name=some g) (hty:(P.globals[g]?).map (·.type)=some t)
  (ht:P.underlying t=some (.array n e)) (he:P.underlying e=some .string) (hce:P.cellsOf e=1) (hct:P.cellsOf t=n):∀{l:List (String×DataW Unit)}{ps:List MemPlace},DataW.LaidVars P W l ps->(name,strData bs)∈l->∃T fz,W.heap[g]?=some (.cells ⟨strCells bs⟩ T fz)
 |[],_,_,hm=>by cases hm
 |(n',d)::l,ps,h,hm=>by
  obtain ⟨g',t',cs,fuel,p,q,hg',ht',hvar,hd,hrest,_⟩:=h;rcases List.mem_cons.1 hm with hm|hm
  ·cases hm;obtain rfl:=Option.some.inj (hg.symm.trans hg');obtain rfl:=Option.some.inj (hty.symm.trans ht');have hc:=cells_of_strs ht he hce hct hd;unfold World.var? at hvar
   rw[hg] at hvar;simp only[Option.bind_some] at hvar;split at hvar
   ·rename_i cs' T fz hh
    cases hvar;refine ⟨T,fz,?_⟩;rw[hh,← hc]
   ·cases hvar
  ·exact laid_strs hg hty ht he hce hct hrest hm
def tabCells:DataW Unit->Array Value
 |.agg ds=>(ds.map fun | .lit (.int k n)=>Value.int k n | .lit (.string s)=>Value.string ⟨s.toArray⟩|_=>Value.bool false).toArray
 |_=>#[]
def layAt (g:Nat) (d:DataW Unit) (h:Array Obj):Array Obj:=h.modify g fun
 |.cells _ t frozen=>.cells (tabCells d) t frozen
 |o=>o
end Go.Proofs.YtcihknonfcldeaaDoor
