import Derived.Laws.MakeOwn
import Derived.Laws.BytesString
import Derived.MapKept
import Derived.Carry
import Derived.RangeFuncOwn
import Derived.Test.YtcihknonfcldeaaDoorKT03
namespace Go.Proofs.YtcihknonfcldeaaDoor
open Go Go.RowKit Go.Sort
set_option linter.unusedVariables false
set_option linter.unusedSimpArgs false
set_option maxRecDepth 100000
set_option maxHeartbeats 40000000
variable {P : Program} {F : Facts} {σ : Sg} {base : Nat} {fr : List AV} {own : List Blk} {a : Act} {o : Oper}
theorem run_enters {g:FuncId}{us:Array Value}(h:entersB P g=true) (W:World):(callFunc g us).run P W=.ok (.enter g us) W:=by
 unfold entersB at h;split at h
 ·rename_i fn hfn;split at h
  ·rename_i c hn hb;have h1:fn.name≠"runtime.NumGoroutine":=by simpa using hn
   simp[callFunc,hfn,h1,hb]
  ·cases h
 ·cases h
structure DenV (P:Program) (f:FuncId) (F:Facts) (us:List Value) (res:List AV) (own:List Blk):Prop where
 out:∀W,Sat F W->Calls P f us.toArray W fun e w'=>∃σ vs,e=.returned (retV vs)∧Reg W F σ own w'∧(∀k,k<own.length->σ k≠none)∧FrIs σ res vs.toArray
theorem storeV_len:∀(l cells:List Value) (off:Nat),(storeV cells off l).length=cells.length
 |[],cells,off=>rfl
 |x::l,cells,off=>by simp[storeV,setL_eq,storeV_len l]
theorem fillX_len {place:Nat->Option (Nat×Nat)}:∀(ps:List (Nat×Value)) (cells l:List Value),fillX place cells ps=some l->l.length=cells.length
 |[],cells,l,h=>by simp[fillX] at h;rw[h]
 |(i,v)::ps,cells,l,h=>by
  unfold fillX at h;split at h
  ·split at h
   ·rw[fillX_len ps _ l h,storeV_len]
   ·cases h
  ·cases h
theorem repX_len (n:Nat) (z:List Value):(repX n z).length=n*z.length:=by
 induction n with
 |zero=>simp[repX]
 |succ n ih=>rw[repX,List.length_append,ih,Nat.add_mul];omega
theorem repX_at:∀(n:Nat) (z:List Value) (i:Nat),i<n*z.length->(repX n z)[i]?=z[i % z.length]?
 |0,z,i,h=>by simp at h
 |n+1,z,i,h=>by
  rw[repX];by_cases hi:i<z.length
  ·rw[List.getElem?_append_left hi,Nat.mod_eq_of_lt hi]
  ·rw[List.getElem?_append_right (by omega),repX_at n z _ (by rw[Nat.add_mul] at h;omega),Nat.mod_eq_sub_mod (a:=i) (by omega)]
theorem rowInfo_spec {t e:TypeId}{z by':Nat}(h:rowInfo P t=some (e,z,by')):P.underlying t=some (.slice e)∧∃i v,P.info? e=some i∧i.zero=some v∧i.size=z∧i.bytes=by'∧v.cells.size=z∧0<z∧zeroX P e=some v.cells.toList:=by
 unfold rowInfo at h;split at h
 ·rename_i e' hu
  split at h
  ·rename_i i l hi hl;split at h
   ·cases h
   ·rename_i z' hz
    split at h
    ·rename_i hd;cases h;refine ⟨hu,i,?_⟩;have hl':=hl;unfold zeroX at hl;simp only[hi] at hl;split at hl
     ·rename_i v hv;cases hl;exact ⟨v,hi,hv,hz,rfl,by simpa using of_decide_eq_true hd,by omega,hl'⟩
     ·cases hl
    ·cases h
  ·cases h
 ·cases h
theorem run_rowX {t T:TypeId}{n z:Nat}{ps:List (Nat×Value)}{l:List Value}(h:rowX P t n ps=some (T,z,l)):l.length=n*z∧n≤maxLen∧∀w:World,(Instr.buildSlice t n ps.toArray).run P w=.ok (.slice (some ⟨w.heap.size,0,none⟩) n n) (w.alloc (.cells l.toArray T)):=by
 unfold rowX at h;split at h
 ·rename_i e z' by' hri
  split at h
  ·rename_i l0 hz0 hd;split at h
   ·rename_i l' hf
    cases h;obtain ⟨hu,i,v,hi,hv,hsz,hby,hvs,hpos,hzx⟩:=rowInfo_spec hri;rw[hzx] at hz0;cases hz0;have hd:=of_decide_eq_true hd;have hlen:=fillX_len _ _ _ hf;rw[repX_len] at hlen;have hl0:v.cells.toList.length=z:=by simpa using hvs
    rw[hl0] at hlen;have hn:n≤n*z:=Nat.le_mul_of_pos_right n hpos;refine ⟨hlen,by unfold maxLen;omega,fun w=>?_⟩
    have hzero:(zeroValue T).run P w=.ok v w:=by simp[zeroValue,typeInfo,hi,hv]
    have hrow:((Array.range (n*z)).map fun i=>v.cells[i % v.cells.size]!)=(repX n v.cells.toList).toArray:=by
     apply Array.ext_getElem?;intro i;by_cases hi':i<n*z
     ·have hm:i % z<v.cells.size:=by rw[hvs];exact Nat.mod_lt _ hpos
      have:=repX_at n v.cells.toList i (by rw[hl0];exact hi')
      rw[hl0] at this;simp[hi',hvs,this];rw[Array.getElem?_eq_getElem hm,getElem!_pos v.cells _ hm]
     ·rw[Array.getElem?_eq_none (by simp;omega),Array.getElem?_eq_none (by simp[repX_len];rw[hvs];omega)]
    have hfs:=fillX_sound (place:=fun i=>some (i*z,z)) ps (repX n v.cells.toList).toArray l (by simpa using hf)
    by_cases h0:n*z=0
    ·have hn0:n=0:=by rcases Nat.mul_eq_zero.1 h0 with h0|h0<;>omega
     subst hn0;have hfs':Instr.fill (fun i=>some (i*z,z)) #[] ps=some l.toArray:=hfs
     simp[Instr.buildSlice,run_underlying hu,sizeOf,typeInfo,hi,hsz,newRow];rw[show (Array.map (fun (_:Nat)=>(default:Value)) (Array.range 0))=#[] from by rw[Array.range_zero',Array.map_empty],hfs']
     rfl
    ·have hle:¬(16777216<n*z):=by omega
     rw[← hrow] at hfs;simp[Instr.buildSlice,run_underlying hu,sizeOf,typeInfo,hi,hsz,hle,h0,hzero,newRow,hfs]
   ·cases h
  ·cases h
 ·cases h
theorem run_slice_part {t e:TypeId}{i:TypeInfo}(ht:P.underlying t=some (.slice e)) (hi:P.info? e=some i) {x:Operand}{lo hi':Option Operand}{l h:Int}{ad:Option Addr}{len cap:Nat}{W:World}(ho:o.op=.slice t x lo hi' none) (hx:a.eval x=.slice ad len cap) (hlc:len≤cap)
  (hl:(lo=none∧l=((0:Nat):Int))∨∃y k,lo=some y∧a.eval y=.int k l) (hh:(hi'=none∧h=(len:Int))∨∃y k,hi'=some y∧a.eval y=.int k h) (h0:0≤l∧l≤h∧h≤len) :
  (execOp a.eval o).run P W=.ok (.value (.slice (if cap=l.toNat then ad else ad.map (·.add (l.toNat*i.size))) (h.toNat-l.toNat) (cap-l.toNat))) W:=by
 obtain ⟨h1,h2,h3⟩:=h0;have hb:(h≤(cap:Int)):=by omega
 have hn:0≤h:=by omega
 have e2:((h.toNat:Nat):Int)=h:=by omega
 rcases hl with ⟨rfl,rfl⟩|⟨y,k,rfl,hy⟩<;>rcases hh with ⟨rfl,rfl⟩|⟨y',k',rfl,hy'⟩
 ·simp[execOp,ho,hx,Instr.sliceAt,run_underlying ht,Instr.slice,Instr.sliceBounds,sizeOf,typeInfo,hi]
 ·simp[execOp,ho,hx,hy',Instr.sliceAt,run_underlying ht,Instr.slice,Instr.sliceBounds,Instr.sliceBound,asIntOf,sizeOf,typeInfo,hi,hn,hb]
 ·simp[execOp,ho,hx,hy,Instr.sliceAt,run_underlying ht,Instr.slice,Instr.sliceBounds,Instr.sliceBound,asIntOf,sizeOf,typeInfo,hi,h1,h2]
 ·simp[execOp,ho,hx,hy,hy',Instr.sliceAt,run_underlying ht,Instr.slice,Instr.sliceBounds,Instr.sliceBound,asIntOf,sizeOf,typeInfo,hi,h1,hn,hb,e2,h2]
theorem elemSize_spec {t:TypeId}{z:Nat}(h:elemSize P t=some z):∃e i,P.underlying t=some (.slice e)∧P.info? e=some i∧i.size=z:=by
 unfold elemSize at h;split at h
 ·rename_i e he;split at h
  ·rename_i i hi;cases h;exact ⟨e,i,he,hi,rfl⟩
  ·cases h
 ·cases h
variable {P : Program} {F : Facts} {σ : Sg} {fr : List AV} {own : List Blk} {a : Act} {o : Oper} {w0 w : World}
structure Holds (w0:World) (F:Facts) (σ:Sg) (fr:List AV) (own:List Blk) (a:Act) (w:World):Prop where
 reg:Reg w0 F σ own w
 fr:FrIs σ fr a.tmps
 dfr:a.defers=[]
def stored (cur:List Value) (off:Nat) (vs:List Value):List Value:=cur.take off++vs++cur.drop (off+vs.length)
theorem stored_len {cur vs:List Value}{off:Nat}(hl:off+vs.length≤cur.length):(stored cur off vs).length=cur.length:=by simp[stored];omega
theorem run_store_row {t T:TypeId}{i:TypeInfo}{v:Value}{vs:List Value}{b off:Nat}{cur:Array Value}(hb:w.heap[b]?=some (.cells cur T (0,0))) (hl:off+vs.length≤cur.size) (hv:v.cells=vs.toArray) (hi:P.info? t=some i) (hz:vs.length=i.size) (h1:∀v∈vs,v.oneCell'=true) :
  (storeVar t ⟨b,off,none⟩ v).run P w=.ok () (w.setRow b (stored cur.toList off vs).toArray):=by
 have hrun:=run_storeCells_at P b off T vs 0 cur w hb (by omega) h1
 simp only[Nat.add_zero] at hrun;simp[storeVar,sizeOf,typeInfo,hi,hv,hz,hrun,stored]
theorem appArgs_spec {c:Call}{t:TypeId}{s x:Operand}(h:appArgs c=some (t,s,x)):c.callee=.builtin .append∧c.argTypes=#[t,t]∧c.args=#[s,x]:=by
 unfold appArgs at h;split at h
 ·rename_i hc;split at h
  ·rename_i t1 t2 s1 x1 ht hx;split at h
   ·rename_i hd;obtain rfl:=of_decide_eq_true hd;cases h;exact ⟨hc,by rw[← Array.toArray_toList (xs:=c.argTypes),ht],by rw[← Array.toArray_toList (xs:=c.args),hx]⟩
   ·cases h
  ·cases h
 ·cases h
end Go.Proofs.YtcihknonfcldeaaDoor
