import Derived.Laws.Cells
import Derived.Laws.CopyOwn
import Derived.Laws.OwnMore
import Derived.ChangeKeysEq
import Derived.Laws.StructEq
import Derived.Test.YtcihknonfcldeaaDoorKT00
namespace Go.Proofs.YtcihknonfcldeaaDoor
open Go Go.RowKit Go.Sort
set_option linter.unusedVariables false
set_option linter.unusedSimpArgs false
set_option maxRecDepth 100000
set_option maxHeartbeats 40000000
inductive AV where
 |v (x:Value)
 |lit (b:Bool)
 |p (k off:Nat)
 |s (k:Nat)
 |e (k off:Nat)
 |sub (k off n:Nat)
 |t (k:Nat)
 |junk
structure Facts where
 c:Nat->Nat->Value->Prop
 o:Nat->(Obj->Prop)->Prop
instance:CoeFun Facts (fun _=>Nat->Nat->Value->Prop):=⟨Facts.c⟩
def Facts.at (F:Facts) (b:Nat):Prop:=(∃o x,F.c b o x)∨∃p,F.o b p
abbrev OP:=Facts->Value->Prop
inductive Blk where
 |cells (l:List AV)
 |row (T:TypeId) (z n:Nat) (xs:List Value)
 |comp (tup:Bool) (l:List AV)
 |map (es:List (Value×Value))
 |arr (xs:List Value)
 |clo (g:FuncId) (first:List Value) (l:List AV)
 |obj (p:OP)
 |dead
structure Br (b:Bool) (A B:Prop):Prop where
 t:b=true->A
 f:b=false->B
structure Ob (p K:Prop):Prop where
 ob:p
 k:K
def nth {α:Type}:List α->Nat->Option α
 |[],_=>none
 |x::_,0=>some x
 |_::l,n+1=>nth l n
def setL {α:Type}:List α->Nat->α->List α
 |[],_,_=>[]
 |_::l,0,x=>x::l
 |y::l,n+1,x=>y::setL l n x
def setK {α:Type}:List α->Nat->α->(List α->Prop)->Prop
 |[],_,_,K=>K []
 |_::l,0,x,K=>K (x::l)
 |y::l,n+1,x,K=>setK l n x fun l'=>K (y::l')
def pureRun {α:Type}(P:Program):Sem α->Option α
 |.pure a=>some a
 |.program k=>pureRun P (k P)
 |.mark _ k=>pureRun P k
 |_=>none
def forceL:List Value->(List Value->Prop)->Prop
 |[],K=>K []
 |x::l,K=>match x with
  |.int k n=>forceL l fun l=>K (.int k n::l)
  |.bool b=>forceL l fun l=>K (.bool b::l)
  |.string s=>forceL l fun l=>K (.string s::l)
  |.agg c=>forceL l fun l=>K (.agg c::l)
  |.tuple c=>forceL l fun l=>K (.tuple c::l)
  |.pointer a=>forceL l fun l=>K (.pointer a::l)
  |.slice a n c=>forceL l fun l=>K (.slice a n c::l)
  |.func f x y=>forceL l fun l=>K (.func f x y::l)
  |.map r=>forceL l fun l=>K (.map r::l)
  |.nilFunc=>forceL l fun l=>K (.nilFunc::l)
  |.nilIface=>forceL l fun l=>K (.nilIface::l)
  |x=>forceL l fun l=>K (x::l)
def forceV (x:Value) (K:Value->Prop):Prop :=
 match x with
 |.int k n=>K (.int k n)
 |.bool b=>K (.bool b)
 |.string s=>K (.string s)
 |.agg c=>forceL c.toList fun l=>K (.agg l.toArray)
 |.tuple c=>forceL c.toList fun l=>K (.tuple l.toArray)
 |.pointer a=>K (.pointer a)
 |.slice a n c=>K (.slice a n c)
 |.func f x y=>K (.func f x y)
 |.map r=>K (.map r)
 |.nilFunc=>K .nilFunc
 |.nilIface=>K .nilIface
 |x=>K x
def Sat (F:Facts) (W:World):Prop:=(∀b o x,F b o x->W.cell? ⟨b,o,none⟩=some x)∧∀b p,F.o b p->∃ob,W.heap[b]?=some ob∧p ob
def noFacts:Facts:=⟨fun _ _ _=>False,fun _ _=>False⟩
def memF (W:World):Facts:=⟨fun b o x=>W.cell? ⟨b,o,none⟩=some x,fun b p=>∃ob,W.heap[b]?=some ob∧p ob⟩
structure Den (P:Program) (f:FuncId) (args:Array Value) (F:Facts) (v:Value):Prop where
 out:∀W,Sat F W->Calls P f args W fun e w'=>e=.returned v∧Below W.heap.size W w'
inductive AR where
 |v (x:Value)
 |r (z n:Nat) (xs:List Value)
 |o (p:OP)
def SlP (z n:Nat) (xs:List Value):OP:=fun G u=>xs.length=n*z∧∃ad c,u=.slice ad n c∧(0<n->∃b off,ad=some ⟨b,off,none⟩∧∀(j:Nat) (v:Value),xs[j]?=some v->G b (off+j) v)
def ArIs (W:World):AR->Value->Prop
 |.v x,u=>u=x
 |.r z n xs,u=>SlP z n xs (memF W) u
 |.o p,u=>p (memF W) u
def ArsAre (W:World):List AR->List Value->Prop
 |[],us=>us=[]
 |x::l,us=>∃u us',us=u::us'∧ArIs W x u∧ArsAre W l us'
structure DenA (P:Program) (f:FuncId) (F:Facts) (args:List AR) (v:Value):Prop where
 out:∀W us,Sat F W->ArsAre W args us->Calls P f us.toArray W fun e w'=>e=.returned v∧Below W.heap.size W w'
structure Nm where
 v:Value
 fp:Nat->Prop
abbrev Sg:=Nat->Option Nm
def AV.Is (σ:Sg):AV->Value->Prop
 |.v x,u=>u=x
 |.lit b,u=>u=.bool b
 |.p k off,u=>∃m b,σ k=some m∧m.v=.pointer (some ⟨b,0,none⟩)∧u=.pointer (some ⟨b,off,none⟩)
 |.s k,u=>∃m,σ k=some m∧m.v=u∧∃ad n c,u=.slice ad n c
 |.e k off,u=>∃m b n c,σ k=some m∧m.v=.slice (some ⟨b,0,none⟩) n c∧u=.pointer (some ⟨b,off,none⟩)
 |.sub k off n,u=>∃m ad c,σ k=some m∧u=.slice ad n c∧n≤c∧(0<n->∃b N c',m.v=.slice (some ⟨b,0,none⟩) N c'∧ad=some ⟨b,off,none⟩)
 |.t k,u=>∃m,σ k=some m∧m.v=u
 |.junk,_=>True
structure FrIs (σ:Sg) (fr:List AV) (tmps:Array Value):Prop where
 len:fr.length=tmps.size
 at_:∀(i:Nat) (x:AV),fr[i]?=some x->∃u,tmps[i]?=some u∧x.Is σ u
def BlkIs (base:Nat) (F:Facts) (w:World) (σ:Sg) (m:Nm):Blk->Prop
 |.cells l=>∃b xs T,m.v=.pointer (some ⟨b,0,none⟩)∧w.heap[b]?=some (.cells xs T (0,0))∧FrIs σ l xs∧∀g,m.fp g↔g=b
 |.row T z n xs=>(w.ownsRow base T z m.v n xs∧∀u∈xs,u.oneCell'=true)∧∀g,m.fp g↔m.v.ownBlock=some g
 |.comp tup l=>∃vs,m.v=(match tup with|true=>.tuple vs|false=>.agg vs)∧FrIs σ l vs
 |.arr xs=>∃b T,m.v=.pointer (some ⟨b,0,none⟩)∧w.heap[b]?=some (.cells xs.toArray T (0,0))∧∀g,m.fp g↔g=b
 |.clo g first l=>∃vs,m.v=.func (.func g) first.toArray vs∧FrIs σ l vs
 |.map es=>∃r es' cl,m.v=.map (some r)∧w.heap[r]?=some (.map es' cl)∧(es'.toList.map fun e=>(e.key,e.val))=es∧∀g,m.fp g↔g=r
 |.obj p=>∀G:Facts,(∀b o x,F b o x->G b o x)->(∀b o x,m.fp b->w.cell? ⟨b,o,none⟩=some x->G b o x)->p G m.v
 |.dead=>True
structure Mem (base:Nat) (F:Facts) (σ:Sg) (own:List Blk) (w:World):Prop where
 blk:∀(k:Nat) (b:Blk) (m:Nm),own[k]?=some b->σ k=some m->BlkIs base F w σ m b
 lt:∀(k:Nat) (m:Nm) (b:Nat),σ k=some m->m.fp b->b<w.heap.size
 sat:Sat F w
structure Reg (w0:World) (F:Facts) (σ:Sg) (own:List Blk) (w:World):Prop where
 mem:Mem w0.heap.size F σ own w
 dom:∀(k:Nat) (m:Nm),σ k=some m->k<own.length
 inj:∀(k k':Nat) (m m':Nm) (b:Nat),σ k=some m->σ k'=some m'->m.fp b->m'.fp b->k=k'
 ge:∀(k:Nat) (m:Nm) (b:Nat),σ k=some m->m.fp b->w0.heap.size≤b
 old:∀b,F.at b->b<w0.heap.size
 below:Below w0.heap.size w0 w
def retV (l:List Value):Value :=
 match l with
 |[u]=>u
 |l=>.tuple l.toArray
structure DenF (P:Program) (f:FuncId) (F:Facts) (args:List AR) (res:List AV) (own:List Blk):Prop where
 out:∀W us,Sat F W->ArsAre W args us->Calls P f us.toArray W fun e w'=>∃σ vs,e=.returned (retV vs)∧Reg W F σ own w'∧(∀k,k<own.length->σ k≠none)∧FrIs σ res vs.toArray
def upAK (n:Nat):List AV->(List AV->Prop)->Prop
 |[],K=>K []
 |x::l,K=>match x with
  |.v u=>upAK n l fun l=>K (.v u::l)
  |.lit b=>upAK n l fun l=>K (.lit b::l)
  |.p k off=>upAK n l fun l=>K (.p (k+n) off::l)
  |.s k=>upAK n l fun l=>K (.s (k+n)::l)
  |.e k off=>upAK n l fun l=>K (.e (k+n) off::l)
  |.sub k off m=>upAK n l fun l=>K (.sub (k+n) off m::l)
  |.t k=>upAK n l fun l=>K (.t (k+n)::l)
  |.junk=>upAK n l fun l=>K (.junk::l)
def upBK (n:Nat):List Blk->(List Blk->Prop)->Prop
 |[],K=>K []
 |b::l,K=>match b with
  |.cells c=>upAK n c fun c=>upBK n l fun l=>K (.cells c::l)
  |.comp tup c=>upAK n c fun c=>upBK n l fun l=>K (.comp tup c::l)
  |.row T z m xs=>upBK n l fun l=>K (.row T z m xs::l)
  |.map es=>upBK n l fun l=>K (.map es::l)
  |.arr xs=>upBK n l fun l=>K (.arr xs::l)
  |.clo g first c=>upAK n c fun c=>upBK n l fun l=>K (.clo g first c::l)
  |.obj p=>upBK n l fun l=>K (.obj p::l)
  |.dead=>upBK n l fun l=>K (.dead::l)
def appK {α:Type}:List α->α->(List α->Prop)->Prop
 |[],x,K=>K [x]
 |y::l,x,K=>appK l x fun l=>K (y::l)
def freshResK (n:Nat) (res:List AV) (own:List Blk) (K:AV->List Blk->Prop):Prop :=
 upBK n own fun bs=>match res with
  |[x]=>upAK n [x] fun l=>match l with
   |[x]=>K x bs
   |_=>False
  |l=>upAK n l fun l=>appK bs (.comp true l) fun bs=>K (.t (own.length+n)) bs
inductive CallN (P:Program) (f:FuncId) (args:List Value) (F:Facts) (n:Nat) (K:AV->List Blk->Prop):Prop where
 |mk (v:Value) (h:Den P f args.toArray F v) (k:forceV v fun v=>K (.v v) []):CallN P f args F n K
 |any (v:Value) (h:Den P f args.toArray noFacts v) (k:forceV v fun v=>K (.v v) []):CallN P f args F n K
 |fresh (res:List AV) (own:List Blk) (h:DenF P f F (args.map .v) res own) (k:freshResK n res own K):CallN P f args F n K
 |anyFresh (res:List AV) (own:List Blk) (h:DenF P f noFacts (args.map .v) res own) (k:freshResK n res own K):CallN P f args F n K
inductive ExtN (P:Program) (f:FuncId) (args:List Value) (K:AV->List Blk->Prop):Prop where
 |mk (v:Value) (h:∀W,(callFunc f args.toArray).run P W=.ok (.value v) W) (k:forceV v fun v=>K (.v v) []):ExtN P f args K
inductive CallA (P:Program) (f:FuncId) (F:Facts) (args:List AR) (n:Nat) (K:AV->List Blk->Prop):Prop where
 |mk (v:Value) (h:DenA P f F args v) (k:forceV v fun v=>K (.v v) []):CallA P f F args n K
 |any (v:Value) (h:DenA P f noFacts args v) (k:forceV v fun v=>K (.v v) []):CallA P f F args n K
 |fresh (res:List AV) (own:List Blk) (h:DenF P f F args res own) (k:freshResK n res own K):CallA P f F args n K
 |anyFresh (res:List AV) (own:List Blk) (h:DenF P f noFacts args res own) (k:freshResK n res own K):CallA P f F args n K
def entersB (P:Program) (g:FuncId):Bool :=
 match P.funcs[g]? with
 |some fn=>match fn.name=="runtime.NumGoroutine",fn.body with
  |false,some _=>true
  |_,_=>false
 |none=>false
inductive RowN (xs:List Value) (off n:Nat) (K:List Value->Prop):Prop where
 |mk (vs:List Value) (h:(xs.drop off).take n=vs) (hl:vs.length=n) (k:K vs):RowN xs off n K
inductive CellsN (F:Facts) (b off n:Nat) (K:List Value->Prop):Prop where
 |mk (vs:List Value) (h:∀(j:Nat) (v:Value),vs[j]?=some v->F b (off+j) v) (hl:vs.length=n) (k:K vs):CellsN F b off n K
inductive AdN (ad:Option Addr) (K:Nat->Nat->Prop):Prop where
 |mk (b off:Nat) (h:ad=some ⟨b,off,none⟩) (k:K b off):AdN ad K
inductive ByteN (s:ByteArray) (n:Nat) (K:Value->Prop):Prop where
 |mk (b:UInt8) (h:s[n]?=some b) (k:K (.int .u8 b.toNat)):ByteN s n K
inductive StrN (xs:List Value) (K:Value->Prop):Prop where
 |mk (s:ByteArray) (h:xs=(s.data.toList.map fun b=>Value.int .u8 b.toNat)) (k:K (.string s)):StrN xs K
def isSel:Op->Bool
 |.select _ _=>true
 |_=>false
def mapA {α β:Type}(f:α->β) (xs:Array α):Array β:=(xs.toList.map f).toArray
def appA {α:Type}(xs ys:Array α):Array α:=(xs.toList++ys.toList).toArray
def execX (ρ:Operand->Value) (o:Oper):Sem Next :=
 match o.op with
 |.makeFunc fn first captured=>do pure (.value (← Instr.makeFunc fn (mapA ρ first) (mapA ρ captured)))
 |.call c=>match c.callee with
  |.builtin b=>builtin b c.argTypes o.type (c.args.map fun | .const _=>true|_=>false) (mapA ρ c.args)
  |.value f=>match ρ f with
   |.func (.func g) first captured=>callFunc g (appA (appA first (mapA ρ c.args)) captured)
   |_=>execOp ρ o
  |_=>execOp ρ o
 |_=>execOp ρ o
theorem mapA_eq {α β:Type}(f:α->β) (xs:Array α):mapA f xs=xs.map f:=by unfold mapA;rw[← Array.toList_map]
theorem appA_eq {α:Type}(xs ys:Array α):appA xs ys=xs++ys:=by unfold appA;rw[← Array.toList_append]
theorem execX_eq (ρ:Operand->Value) (o:Oper):execX ρ o=execOp ρ o:=by
 unfold execX;split
 ·rename_i fn first captured ho;simp only[execOp,ho,mapA_eq]
 ·rename_i c ho;split
  ·rename_i b hb;simp only[execOp,ho,resolve,hb,mapA_eq];rfl
  ·rename_i f hf;split
   ·rename_i g first captured hg;simp only[execOp,ho,resolve,hf,hg,mapA_eq,appA_eq,Deferred.ofValue];rfl
   ·rfl
  ·rfl
 ·rfl
def storeV:List Value->Nat->List Value->List Value
 |cells,_,[]=>cells
 |cells,off,x::l=>storeV (setL cells off x) (off+1) l
def fillX (place:Nat->Option (Nat×Nat)):List Value->List (Nat×Value)->Option (List Value)
 |cells,[]=>some cells
 |cells,(i,v)::l=>match place i with
  |some (off,size)=>match decide (v.cells.size=size),decide (off+v.cells.size≤cells.length) with
   |true,true=>fillX place (storeV cells off v.cells.toList) l
   |_,_=>none
  |none=>none
def placeX (P:Program) (fs:Array Field) (i:Nat):Option (Nat×Nat) :=
 match fs[i]? with
 |some f=>match P.info? f.type with
  |some g=>some (f.offset,g.size)
  |none=>none
 |none=>none
def zeroX (P:Program) (t:TypeId):Option (List Value) :=
 match P.info? t with
 |some i=>match i.zero with
  |some z=>some z.cells.toList
  |none=>none
 |none=>none
def allInfo (P:Program) (fs:Array Field):Bool:=fs.toList.all fun f=>(P.info? f.type).isSome
def buildX (P:Program) (t:TypeId) (ps:List (Nat×Value)):Option (List Value) :=
 match P.underlying t,zeroX P t with
 |some (.struct fs),some z=>match allInfo P fs with
  |true=>fillX (placeX P fs) z ps
  |false=>none
 |some (.array _ e),some z=>match P.info? e with
  |some g=>fillX (fun i=>some (i*g.size,g.size)) z ps
  |none=>none
 |_,_=>none
def lenK {α:Type}:List α->Nat->(Nat->Prop)->Prop
 |[],n,K=>K n
 |_::l,n,K=>lenK l (n+1) K
def dropL {α:Type}:List α->Nat->List α
 |l,0=>l
 |[],_+1=>[]
 |_::l,n+1=>dropL l n
def aggT (P:Program) (t:TypeId):Option Bool :=
 match P.underlying t with
 |some (.struct _)=>some true
 |some (.array _ _)=>some true
 |some _=>some false
 |none=>none
def elemSize (P:Program) (t:TypeId):Option Nat :=
 match P.underlying t with
 |some (.slice e)=>match P.info? e with
  |some i=>some i.size
  |none=>none
 |_=>none
def eqTy (P:Program):Nat->TypeId->Bool
 |0,_=>false
 |n+1,t=>match P.underlying t with
  |some (.int _)=>true
  |some .bool=>true
  |some .string=>true
  |some (.struct fs)=>!P.stoodInHeld t&&fs.toList.all fun f=>eqTy P n f.type
  |some (.array _ e)=>eqTy P n e
  |_=>false
def partV (P:Program) (t:TypeId) (cs:Array Value) (off:Nat):Option Value :=
 match aggT P t with
 |some true=>match P.info? t with
  |some i=>some (.agg (cs.extract off (off+i.size)))
  |none=>none
 |some false=>cs[off]?
 |none=>none
def rowInfo (P:Program) (t:TypeId):Option (TypeId×Nat×Nat) :=
 match P.underlying t with
 |some (.slice e)=>match P.info? e,zeroX P e with
  |some i,some l=>match i.size with
   |0=>none
   |z+1=>match decide (l.length=z+1) with
    |true=>some (e,z+1,i.bytes)
    |false=>none
  |_,_=>none
 |_=>none
def repX (n:Nat) (z:List Value):List Value :=
 match n with
 |0=>[]
 |n+1=>z++repX n z
def rowX (P:Program) (t:TypeId) (n:Nat) (ps:List (Nat×Value)):Option (TypeId×Nat×List Value) :=
 match rowInfo P t with
 |some (e,z,_)=>match zeroX P e,decide (n*z≤16777216) with
  |some l,true=>match fillX (fun i=>some (i*z,z)) (repX n l) ps with
   |some l=>some (e,z,l)
   |none=>none
  |_,_=>none
 |none=>none
def andO (x y:Option Bool):Option Bool :=
 match x,y with
 |some a,some b=>some (a&&b)
 |_,_=>none
def eqFs (P:Program) (eq:TypeId->Value->Value->Option Bool) (xs ys:Array Value):List Field->Option Bool
 |[]=>some true
 |f::fs=>match f.name != "_" with
  |true=>match partV P f.type xs f.offset,partV P f.type ys f.offset with
   |some a,some b=>match fs with
    |[]=>eq f.type a b
    |fs=>andO (eq f.type a b) (eqFs P eq xs ys fs)
   |_,_=>none
  |false=>eqFs P eq xs ys fs
def eqIs (P:Program) (eq:TypeId->Value->Value->Option Bool) (e:TypeId) (z:Nat) (xs ys:Array Value):List Nat->Option Bool
 |[]=>some true
 |i::is=>match partV P e xs (i*z),partV P e ys (i*z) with
  |some a,some b=>match is with
   |[]=>eq e a b
   |is=>andO (eq e a b) (eqIs P eq e z xs ys is)
  |_,_=>none
def eqV (P:Program):Nat->TypeId->Value->Value->Option Bool
 |0,_,_,_=>none
 |n+1,t,x,y=>match P.underlying t,x,y with
  |some (.int _),.int k a,.int k' b=>match decide (k=k') with
   |true=>some (a==b)
   |false=>none
  |some .bool,.bool a,.bool b=>some (a==b)
  |some .string,.string a,.string b=>some (a.toList==b.toList)
  |some (.struct fs),.agg xs,.agg ys=>eqFs P (eqV P n) xs ys fs.toList
  |some (.array m e),.agg xs,.agg ys=>match P.info? e with
   |some i=>eqIs P (eqV P n) e i.size xs ys (List.range m)
   |none=>none
  |_,_,_=>none
def eqDeep:Nat:=12
def eqOk (P:Program) (t:TypeId):Bool:=eqTy P eqDeep t&&!P.eqGuardType P.depth t
def isShift:BinOp->Bool
 |.shl=>true
 |.shr=>true
 |_=>false
def lenArg (c:Call):Option (TypeId×Operand) :=
 match c.callee with
 |.builtin .len=>match c.argTypes.toList,c.args.toList with
  |[t],[x]=>some (t,x)
  |_,_=>none
 |_=>none
def isSlice (P:Program) (t:TypeId):Bool :=
 match P.underlying t with
 |some (.slice _)=>true
 |_=>false
def appArgs (c:Call):Option (TypeId×Operand×Operand) :=
 match c.callee with
 |.builtin .append=>match c.argTypes.toList,c.args.toList with
  |[t,t'],[s,x]=>match decide (t=t') with
   |true=>some (t,s,x)
   |false=>none
  |_,_=>none
 |_=>none
def guardSlot (ops:List Oper) (j:Nat):Option Tmp :=
 match nth ops j with
 |some o=>o.dst
 |none=>none
theorem nth_eq {α:Type}:∀(l:List α) (n:Nat),nth l n=l[n]?
 |[],n=>by simp[nth]
 |_::_,0=>by simp[nth]
 |_::l,n+1=>by simp[nth,nth_eq l n]
theorem setL_eq {α:Type}(x:α):∀(l:List α) (n:Nat),setL l n x=l.set n x
 |[],n=>by simp[setL]
 |_::_,0=>by simp[setL]
 |_::l,n+1=>by simp[setL,setL_eq x l n]
theorem dropL_eq {α:Type}:∀(l:List α) (n:Nat),dropL l n=l.drop n
 |l,0=>by simp[dropL]
 |[],n+1=>by simp[dropL]
 |_::l,n+1=>by simp[dropL,dropL_eq l n]
theorem pureRun_run {α:Type}(P:Program):∀(s:Sem α) {v:α},pureRun P s=some v->∀w,s.run P w=.ok v w:=by
 intro s;induction s with
 |pure a=>intro v h w;simp[pureRun] at h;subst h;rfl
 |program k ih=>intro v h w;exact ih P h w
 |mark m k ih=>intro v h w;exact ih h w
 |_=>intro v h;simp[pureRun] at h
variable {P : Program} {F : Facts} {σ : Sg} {fr : List AV} {own : List Blk} {a : Act} {o : Oper} {base : Nat}
theorem run_isAgg {t:TypeId}{b:Bool}(h:aggT P t=some b) (w:World):(isAgg t).run P w=.ok b w:=by
 unfold aggT at h;unfold isAgg;cases hd:P.underlying t with
 |none=>rw[hd] at h;cases h
 |some d =>
  rw[hd] at h;have:=run_underlying hd w;simp only[Sem.run_bind,this,Result.andThen_ok];cases d<;>simp at h<;>subst h<;>rfl
variable {P : Program} {F : Facts} {σ : Sg} {fr : List AV} {own : List Blk} {a : Act} {o : Oper}
theorem add_at (b off n:Nat):(⟨b,off,none⟩:Addr).add n=⟨b,off+n,none⟩:=Addr.add_lit b off n
theorem run_load_agg {t:TypeId}{i:TypeInfo}{w:World}{b off:Nat}{vs:List Value}(hA:aggT P t=some true) (hi:P.info? t=some i) (hl:vs.length=i.size) (h:∀(j:Nat) (v:Value),vs[j]?=some v->w.cell? ⟨b,off+j,none⟩=some v) :
  (loadVar t ⟨b,off,none⟩).run P w=.ok (.agg vs.toArray) w:=by
 have hc:=run_loadCells_list (P:=P) w ⟨b,off,none⟩ vs (fun j v hj=>by rw[add_at];exact h j v hj)
 rw[hl] at hc;simp[loadVar,run_isAgg hA,sizeOf,typeInfo,hi,hc]
theorem run_load_cell {t:TypeId}{w:World}{b off:Nat}{v:Value}(hA:aggT P t=some false) (h:w.cell? ⟨b,off,none⟩=some v):(loadVar t ⟨b,off,none⟩).run P w=.ok v w:=by
 simp[loadVar,run_isAgg hA,h]
theorem run_part {t:TypeId}{cs:Array Value}{off:Nat}{v:Value}(h:partV P t cs off=some v) (w:World):(part t cs off).run P w=.ok v w:=by
 unfold partV at h;split at h
 ·rename_i hA;split at h
  ·rename_i i hi;cases h;simp[part,run_isAgg hA,sizeOf,typeInfo,hi]
  ·cases h
 ·rename_i hA;simp[part,run_isAgg hA,h]
 ·cases h
theorem andO_some {x y:Option Bool}{b:Bool}(h:andO x y=some b):∃c d,x=some c∧y=some d∧b=(c&&d):=by
 cases x<;>cases y<;>simp[andO] at h
 exact ⟨_,_,rfl,rfl,h.symm⟩
theorem eqFs_sound {d e:Nat}{eq:TypeId->Value->Value->Option Bool}(heq:∀t x y b w,eqTy P d t=true->eq t x y=some b->(Op.equalIn (d+e) t x y).run P w=.ok b w) {xs ys:Array Value}:∀(fs:List Field) (b:Bool) (w:World),(fs.all fun f=>eqTy P d f.type)=true ->
  eqFs P eq xs ys fs=some b->(Op.eqFields (d+e) xs ys fs).run P w=.ok b w
 |[],b,w,_,h=>by simp[eqFs] at h;subst h;simp[Op.eqFields]
 |f::fs,b,w,ht,h=>by
  simp only[List.all_cons,Bool.and_eq_true] at ht;unfold eqFs at h;unfold Op.eqFields;cases hn:(f.name != "_") with
  |false =>
   simp only[hn] at h;have:¬f.name≠"_":=by simpa using hn
   rw[if_neg this];exact eqFs_sound heq fs b w ht.2 h
  |true =>
   simp only[hn] at h;have hne:f.name≠"_":=by simpa using hn
   rw[if_pos hne];split at h
   ·rename_i u v hu hv;simp only[Sem.run_bind,run_part hu,run_part hv,Result.andThen_ok];split at h
    ·have:=heq _ _ _ _ w ht.1 h;simp only[this,Result.andThen_ok];cases b<;>simp[Op.eqFields]
    ·obtain ⟨c,g,h1,h2,rfl⟩:=andO_some h;have q1:=heq _ _ _ _ w ht.1 h1;have q2:=eqFs_sound heq fs g w ht.2 h2;simp only[q1,Result.andThen_ok];cases c
     ·simp
     ·simpa using q2
   ·cases h
theorem eqIs_sound {d e:Nat}{eq:TypeId->Value->Value->Option Bool}(heq:∀t x y b w,eqTy P d t=true->eq t x y=some b->(Op.equalIn (d+e) t x y).run P w=.ok b w) {xs ys:Array Value}{t:TypeId}{z:Nat}(ht:eqTy P d t=true):∀(is:List Nat) (b:Bool) (w:World),
  eqIs P eq t z xs ys is=some b->(Op.eqItems (d+e) t z xs ys is).run P w=.ok b w
 |[],b,w,h=>by simp[eqIs] at h;subst h;simp[Op.eqItems]
 |i::is,b,w,h=>by
  unfold eqIs at h;unfold Op.eqItems;split at h
  ·rename_i u v hu hv;simp only[Sem.run_bind,run_part hu,run_part hv,Result.andThen_ok];split at h
   ·have:=heq _ _ _ _ w ht h;simp only[this,Result.andThen_ok];cases b<;>simp[Op.eqItems]
   ·obtain ⟨c,g,h1,h2,rfl⟩:=andO_some h;have q1:=heq _ _ _ _ w ht h1;have q2:=eqIs_sound heq ht is g w h2;simp only[q1,Result.andThen_ok];cases c
    ·simp
    ·simpa using q2
  ·cases h
theorem eqV_sound (e:Nat):∀(d:Nat) (t:TypeId) (x y:Value) (b:Bool) (w:World),eqTy P d t=true->eqV P d t x y=some b->(Op.equalIn (d+e) t x y).run P w=.ok b w
 |0,t,x,y,b,w,_,h=>by simp[eqV] at h
 |d+1,t,x,y,b,w,ht,h=>by
  rw[show d+1+e=d+e+1 by omega];unfold eqV at h;split at h
  ·rename_i k0 k m k' n hu
   split at h
   ·rename_i hk;obtain rfl:=of_decide_eq_true hk;cases h;exact run_equalIn_int w _ t _ _ _ _ hu
   ·cases h
  ·rename_i m n hu;cases h;exact run_equalIn_bool' w _ t _ _ hu
  ·rename_i m n hu;cases h;exact run_equalIn_string w _ t _ _ hu
  ·rename_i fs xs ys hu;unfold eqTy at ht;simp only[hu,Bool.and_eq_true,Bool.not_eq_true'] at ht;have hf:P.fieldsOf t=fs:=by unfold Program.fieldsOf;rw[hu]
   rw[run_equalIn_struct w _ t xs ys (by rw[hf];exact hu) ht.1,hf]
   exact eqFs_sound (fun t x y b w=>eqV_sound e d t x y b w) fs.toList b w ht.2 h
  ·rename_i m el xs ys hu;unfold eqTy at ht;simp only[hu] at ht;split at h
   ·rename_i i hi;have hz:P.cellsOf el=i.size:=by simp[Program.cellsOf,hi]
    rw[run_equalIn_array w _ xs ys hu hi,hz];exact eqIs_sound (fun t x y b w=>eqV_sound e d t x y b w) ht (List.range m) b w h
   ·cases h
  ·cases h
theorem run_eqV {t:TypeId}{xs ys:Array Value}{b:Bool}(hok:eqOk P t=true) (h:eqV P eqDeep t (.agg xs) (.agg ys)=some b) (x y:Operand) (w:World) :
  ((do eqGuard .eql t x y (.agg xs) (.agg ys);binOp .eql t (.agg xs) (.agg ys)):Sem Value).run P w=.ok (.bool b) w∧((do eqGuard .neq t x y (.agg xs) (.agg ys);binOp .neq t (.agg xs) (.agg ys)):Sem Value).run P w=.ok (.bool !b) w:=by
 simp only[eqOk,Bool.and_eq_true,Bool.not_eq_true'] at hok;have h2:(Op.equalIn 10000 t (.agg xs) (.agg ys)).run P w=.ok b w:=eqV_sound 9988 eqDeep t _ _ b w hok.1 h;constructor
 ·simp only[Sem.run_bind,run_eqGuard_agg w _ t x y xs ys hok.2,Result.andThen_ok,run_eql_struct,h2]
 ·simp only[Sem.run_bind,run_eqGuard_agg w _ t x y xs ys hok.2,Result.andThen_ok,run_neq_struct,h2]
theorem storeV_toList:∀(vs:List Value) (cs:Array Value) (off i:Nat),((vs.zipIdx i).foldl (fun cs (x:Value×Nat)=>cs.setIfInBounds (off+x.2) x.1) cs).toList=storeV cs.toList (off+i) vs
 |[],cs,off,i=>by simp[storeV]
 |v::vs,cs,off,i=>by
  simp only[List.zipIdx_cons,List.foldl_cons];rw[storeV_toList vs _ off (i+1)];simp[storeV,setL_eq',Nat.add_assoc]
where setL_eq':∀(l:List Value) (n:Nat) (x:Value),setL l n x=l.set n x:=fun l n x=>setL_eq x l n
theorem fillX_sound {place:Nat->Option (Nat×Nat)}:∀(ps:List (Nat×Value)) (cells:Array Value) (l:List Value),fillX place cells.toList ps=some l->Instr.fill place cells ps=some l.toArray
 |[],cells,l,h=>by simp[fillX] at h;subst h;simp[Instr.fill]
 |(i,v)::ps,cells,l,h=>by
  unfold fillX at h;unfold Instr.fill;split at h
  ·rename_i off size hp;rw[hp];simp only;split at h
   ·rename_i h1 h2;have h1:=of_decide_eq_true h1;have h2:=of_decide_eq_true h2;rw[if_neg (by simp only[Array.length_toList] at h2;simp[h1];omega)]
    refine fillX_sound ps _ l ?_;rw[← Array.foldl_toList,Array.toList_zipIdx,storeV_toList];exact h
   ·cases h
  ·cases h
theorem run_zeroX {t:TypeId}{z:List Value}(h:zeroX P t=some z) (w:World):∃v,(zeroValue t).run P w=.ok v w∧v.cells.toList=z:=by
 unfold zeroX at h;split at h
 ·rename_i i hi;split at h
  ·rename_i v hv;cases h;exact ⟨v,by simp[zeroValue,typeInfo,hi,hv],rfl⟩
  ·cases h
 ·cases h
theorem run_places (w:World):∀(fs:List Field),(fs.all fun f=>(P.info? f.type).isSome)=true->(fs.mapM fun (f:Field)=>(do pure (f.offset,← sizeOf f.type):Sem (Nat×Nat))).run P w=.ok (fs.map fun f=>(f.offset,((P.info? f.type).map (·.size)).getD 0)) w
 |[],_=>by simp
 |f::fs,h=>by
  simp only[List.all_cons,Bool.and_eq_true] at h;obtain ⟨i,hi⟩:=Option.isSome_iff_exists.1 h.1;have:=run_places w fs h.2;have h1:(sizeOf f.type).run P w=.ok i.size w:=by simp[sizeOf,typeInfo,hi]
  rw[List.mapM_cons];simp only[Sem.run_bind,this,Sem.run_pure,Result.andThen_ok,h1,hi,List.map_cons,Option.map_some,Option.getD_some]
theorem run_buildX {t:TypeId}{ps:List (Nat×Value)}{l:List Value}(h:buildX P t ps=some l) (w:World):(Instr.build t ps.toArray).run P w=.ok (.agg l.toArray) w:=by
 unfold buildX at h;split at h
 ·rename_i fs z hu hz;split at h
  ·rename_i hall;obtain ⟨v,hv,hvz⟩:=run_zeroX hz w;have hpl:=run_places (P:=P) w fs.toList hall;have hplace:placeX P fs=fun i=>(fs.toList.map fun f=>(f.offset,((P.info? f.type).map (·.size)).getD 0)).toArray[i]?:=by
    funext i
    unfold placeX;cases hf:fs[i]? with
    |none=>simp[hf]
    |some f =>
     have:=List.all_eq_true.1 hall f (by simpa using Array.mem_of_getElem? hf)
     obtain ⟨g,hg⟩:=Option.isSome_iff_exists.1 this;simp[hf,hg]
   rw[← hvz,hplace] at h;have:=fillX_sound ps _ l h;simp only[Instr.build,Sem.run_bind,hv,run_underlying hu,Result.andThen_ok,Array.mapM_eq_mapM_toList,Sem.run_map,hpl,this];rfl
  ·cases h
 ·rename_i n e z hu hz;split at h
  ·rename_i g hg;obtain ⟨v,hv,hvz⟩:=run_zeroX hz w;rw[← hvz] at h;have:=fillX_sound ps _ l h;have h1:(sizeOf e).run P w=.ok g.size w:=by simp[sizeOf,typeInfo,hg]
   simp only[Instr.build,Sem.run_bind,hv,run_underlying hu,Result.andThen_ok,h1,this];rfl
  ·cases h
 ·cases h
end Go.Proofs.YtcihknonfcldeaaDoor
