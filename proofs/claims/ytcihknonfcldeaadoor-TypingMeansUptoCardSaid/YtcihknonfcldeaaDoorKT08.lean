
import Derived.Test.YtcihknonfcldeaaDoorKT07
namespace Go.Proofs.YtcihknonfcldeaaDoor.U
open Go Go.RowKit Go.Sort
set_option linter.unusedVariables false
set_option linter.unusedSimpArgs false
set_option maxRecDepth 100000
set_option maxHeartbeats 40000000
structure Dom (R:Type) where
 bad:R
 T:R->Prop
 nb:¬T bad
 frc:Value->(Value->R)->R
 frc_eq:∀v k,frc v k=k v
 frcN:Nat->(Nat->R)->R
 frcN_eq:∀n k,frcN n k=k n
 br:Bool->R->R->R
 br_ok:∀b x y,T (br b x y)->(b=true∧T x)∨(b=false∧T y)
 ob:Bool->R->R
 ob_ok:∀b x,T (ob b x)->b=true∧T x
 nv:List Value->Nat->(Value->R)->R
 nv_ok:∀l n k,T (nv l n k)->∃x,nth l n=some x∧T (k x)
 lt:Bool->(Bool->R)->R
 lt_ok:∀b k,T (lt b k)->T (k b)
def natC {R:Type}(n:Nat) (k:Nat->R):R :=
 match n with
 |0=>k 0
 |m+1=>k (Nat.succ m)
theorem natC_eq {R:Type}(n:Nat) (k:Nat->R):natC n k=k n:=by cases n<;>rfl
def intC {R:Type}(n:Int) (k:Int->R):R :=
 match n with
 |.ofNat m=>natC m fun m=>k (.ofNat m)
 |.negSucc m=>natC m fun m=>k (.negSucc m)
theorem intC_eq {R:Type}(n:Int) (k:Int->R):intC n k=k n:=by cases n<;>simp only[intC,natC_eq]
def bytesC {R:Type}:List UInt8->(List UInt8->R)->R
 |[],k=>k []
 |b::l,k=>bytesC l fun l=>k (b::l)
theorem bytesC_eq {R:Type}:∀(l:List UInt8) (k:List UInt8->R),bytesC l k=k l
 |[],k=>rfl
 |b::l,k=>by simp only[bytesC,bytesC_eq l]
def oneC {R:Type}(v:Value) (k:Value->R):R :=
 match v with
 |.int i n=>intC n fun n=>k (.int i n)
 |.bool b=>match b with
  |true=>k (.bool true)
  |false=>k (.bool false)
 |.string ⟨⟨l⟩⟩=>bytesC l fun l=>k (.string ⟨⟨l⟩⟩)
 |v=>k v
theorem oneC_eq {R:Type}(v:Value) (k:Value->R):oneC v k=k v:=by
 cases v with
 |bool b=>cases b<;>rfl
 |string s=>cases s with
  |mk d=>cases d with
   |mk l=>simp only[oneC,bytesC_eq]
 |_=>simp only[oneC,intC_eq]
def onesC {R:Type}:List Value->(List Value->R)->R
 |[],k=>k []
 |v::l,k=>oneC v fun v=>onesC l fun l=>k (v::l)
theorem onesC_eq {R:Type}:∀(l:List Value) (k:List Value->R),onesC l k=k l
 |[],k=>rfl
 |v::l,k=>by simp only[onesC,oneC_eq,onesC_eq l]
def valC {R:Type}(v:Value) (k:Value->R):R :=
 match v with
 |.agg ⟨l⟩=>onesC l fun l=>k (.agg ⟨l⟩)
 |.tuple ⟨l⟩=>onesC l fun l=>k (.tuple ⟨l⟩)
 |v=>oneC v k
theorem valC_eq {R:Type}(v:Value) (k:Value->R):valC v k=k v:=by
 cases v with
 |agg c=>cases c;simp only[valC,onesC_eq]
 |tuple c=>cases c;simp only[valC,onesC_eq]
 |_=>simp only[valC,oneC_eq]
def brB:Bool->Bool->Bool->Bool
 |true,x,_=>x
 |false,_,y=>y
def obB:Bool->Bool->Bool
 |true,x=>x
 |false,_=>false
def nvB (l:List Value) (n:Nat) (k:Value->Bool):Bool :=
 match nth l n with
 |some x=>k x
 |none=>false
theorem nvB_ok (l:List Value) (n:Nat) (k:Value->Bool) (h:nvB l n k=true):∃x,nth l n=some x∧k x=true:=by
 unfold nvB at h;split at h
 ·rename_i x hx;exact ⟨x,hx,h⟩
 ·cases h
def ltB:Bool->(Bool->Bool)->Bool
 |true,k=>k true
 |false,k=>k false
def boolD:Dom Bool:=⟨false,fun b=>b=true,by simp,valC,valC_eq,natC,natC_eq,brB,fun b x y h=>by cases b<;>simp_all[brB],obB,fun b x h=>by cases b<;>simp_all[obB],nvB,nvB_ok,ltB,fun b k h=>by cases b<;>exact h⟩
section
variable {R : Type} (D : Dom R) (P : Program)
def onV {α:Type}(x:Option α) (k:α->R):R :=
 match x with
 |some u=>k u
 |none=>D.bad
def ifB (b:Bool) (k:R):R:=D.ob b k
def evC (gl:Nat) (fr:Tr Value):Operand->Option Value
 |.tmp t=>Tr.at (pt t) fr
 |.const v=>match flatV v with
  |true=>some v
  |false=>none
 |.global g=>match Nat.blt g gl with
  |true=>some (.pointer (some ⟨g,0,none⟩))
  |false=>none
 |.func f=>some (.func (.func f) ⟨[]⟩ ⟨[]⟩)
def evxC (gl:Nat) (fr:Tr Value) (x:Operand):Value :=
 match evC gl fr x with
 |some u=>u
 |none=>undef
def flatX (gl:Nat) (fr:Tr Value) (x:Operand):Bool :=
 match evC gl fr x with
 |some u=>flatV u
 |none=>false
def lookC (s:AS) (k:Nat):Option Blk:=Tr.at (pt k) s.heap
def pushC (s:AS) (b:Blk) (k:Nat->AS->R):R :=
 match s with
 |⟨h,n,lo,gl⟩=>Tr.putK (pt n) (some b) h fun h=>D.frcN (Nat.add n 1) fun m=>k n ⟨h,m,lo,gl⟩
def turnC (s:AS) (i:Nat) (b:Option Blk) (k:AS->R):R :=
 match s with
 |⟨h,n,lo,gl⟩=>Tr.putK (pt i) b h fun h=>k ⟨h,n,lo,gl⟩
abbrev CallT (R:Type):=FuncId->List Value->AS->(Value->AS->R)->R
structure CallF (R:Type) where
 call:CallT R
 round:CallT R
def intO (op:BinOp) (k:IntKind) (a b:Int):Option Value :=
 match op with
 |.add=>some (.int k (k.wrap (a+b)))
 |.sub=>some (.int k (k.wrap (a-b)))
 |.mul=>some (.int k (k.wrap (a*b)))
 |.quo=>match decide (b=0) with
  |true=>none
  |false=>some (.int k (k.wrap (a.tdiv b)))
 |.rem=>match decide (b=0) with
  |true=>none
  |false=>some (.int k (a.tmod b))
 |.shl=>match decide (b<0) with
  |true=>none
  |false=>some (.int k (k.wrap (a*2 ^ min b.toNat k.bits)))
 |.shr=>match decide (b<0) with
  |true=>none
  |false=>some (.int k (a.fdiv (2 ^ min b.toNat k.bits)))
 |.eql=>some (.bool (a==b))
 |.neq=>some (.bool (a != b))
 |.lss=>some (.bool (decide (a<b)))
 |.leq=>some (.bool (decide (a≤b)))
 |.gtr=>some (.bool (decide (a > b)))
 |.geq=>some (.bool (decide (a≥b)))
 |_=>none
theorem intO_sound {op:BinOp}{k k':IntKind}{m n:Int}{v:Value}(hk:(isShift op || decide (k=k'))=true) (h:intO op k m n=some v) (w:World) (t:TypeId):(binOp op t (.int k m) (.int k' n)).run P w=.ok v w:=by
 cases op<;>simp only[intO] at h<;>simp[isShift] at hk
 case shl =>
  split at h
  ·cases h
  ·rename_i hb;have hb:=of_decide_eq_false hb;cases h;simp[binOp,Op.shift,hb]
 case shr =>
  split at h
  ·cases h
  ·rename_i hb;have hb:=of_decide_eq_false hb;cases h;simp[binOp,Op.shift,hb]
 all_goals subst hk
 case quo =>
  split at h
  ·cases h
  ·rename_i hb;have hb:=of_decide_eq_false hb;cases h;simp[binOp,Op.intDiv,hb]
 case rem =>
  split at h
  ·cases h
  ·rename_i hb;have hb:=of_decide_eq_false hb;cases h;simp[binOp,Op.intDiv,hb]
 all_goals first
  |cases h;done
  |(cases h;simp[binOp,Op.intArith,Op.intCmp])
def takeC:Nat->List Value->(List Value->R)->R
 |0,_,k=>k []
 |n+1,l,k=>match l with
  |[]=>D.bad
  |x::l=>takeC n l fun m=>k (x::m)
def partC (t:TypeId) (l:List Value) (off:Nat) (k:Value->R):R :=
 match aggT P t with
 |some true=>match P.info? t with
  |some i=>takeC D i.size (dropL l off) fun m=>k (.agg ⟨m⟩)
  |none=>D.bad
 |some false=>onV D (nth l off) k
 |none=>D.bad
def storeC:List Value->Nat->List Value->(List Value->R)->R
 |l,0,vs,k=>match vs with
  |[]=>k l
  |v::vs=>match l with
   |[]=>D.bad
   |_::l=>storeC l 0 vs fun l=>k (v::l)
 |l,n+1,vs,k=>match l with
  |[]=>D.bad
  |x::l=>storeC l n vs fun l=>k (x::l)
theorem takeC_sound {D:Dom R}:∀(n:Nat) (l:List Value) (k:List Value->R),D.T (takeC D n l k)->n≤l.length∧D.T (k (l.take n))
 |0,l,k,h=>⟨Nat.zero_le _,h⟩
 |n+1,[],k,h=>absurd h D.nb
 |n+1,x::l,k,h=>by
  obtain ⟨h1,h2⟩:=takeC_sound n l _ h;exact ⟨by simpa using h1,h2⟩
theorem storeC_sound {D:Dom R}:∀(n:Nat) (vs l:List Value) (k:List Value->R),D.T (storeC D l n vs k)->n+vs.length≤l.length∧D.T (k (l.take n++vs++l.drop (n+vs.length)))
 |0,[],l,k,h=>⟨by simp,by cases l<;>simpa [storeC] using h⟩
 |0,v::vs,[],k,h=>absurd h D.nb
 |0,v::vs,x::l,k,h=>by
  obtain ⟨h1,h2⟩:=storeC_sound 0 vs l _ h;refine ⟨by simpa using h1,?_⟩
  simpa using h2
 |n+1,vs,[],k,h=>absurd h D.nb
 |n+1,vs,x::l,k,h=>by
  obtain ⟨h1,h2⟩:=storeC_sound n vs l _ h;refine ⟨by simp;omega,?_⟩
  have e:n+1+vs.length=(n+vs.length)+1:=by omega
  rw[e];simpa using h2
def PartIs (t:TypeId) (l:List Value) (off:Nat) (u:Value):Prop :=
 (aggT P t=some true∧∃i,P.info? t=some i∧((l.drop off).take i.size).length=i.size∧u=.agg ⟨(l.drop off).take i.size⟩)∨(aggT P t=some false∧l[off]?=some u)
end
section
variable {R : Type} {D : Dom R} {P : Program}
theorem onV_sound {α:Type}{x:Option α}{k:α->R}(h:D.T (onV D x k)):∃u,x=some u∧D.T (k u):=by
 cases x with
 |none=>exact absurd h D.nb
 |some u=>exact ⟨u,rfl,h⟩
theorem ifB_sound {b:Bool}{k:R}(h:D.T (ifB D b k)):b=true∧D.T k:=D.ob_ok b k h
theorem partC_sound {t:TypeId}{l:List Value}{off:Nat}{k:Value->R}(h:D.T (partC D P t l off k)):∃u,PartIs P t l off u∧D.T (k u):=by
 unfold partC at h;split at h
 ·rename_i hA;split at h
  ·rename_i i hi;rw[dropL_eq] at h;obtain ⟨h1,h2⟩:=takeC_sound _ _ _ h;exact ⟨_,.inl ⟨hA,i,hi,by rw[List.length_take];omega,rfl⟩,h2⟩
  ·exact absurd h D.nb
 ·rename_i hA;obtain ⟨u,h1,h2⟩:=onV_sound h;rw[nth_eq] at h1;exact ⟨u,.inr ⟨hA,h1⟩,h2⟩
 ·exact absurd h D.nb
theorem PartIs.rel {β:Bt}{t:TypeId}{l l':List Value}{off:Nat}{u:Value}(h:PartIs P t l off u) (hl:VRs β l l'):∃v,PartIs P t l' off v∧VR β u v:=by
 rcases h with ⟨hA,i,hi,h1,rfl⟩|⟨hA,h1⟩
 ·have hr:=(hl.drop off).take i.size;exact ⟨_,.inl ⟨hA,i,hi,by rw[← hr.1];exact h1,rfl⟩,.agg _ _ hr.1 hr.2⟩
 ·obtain ⟨v,h2,h3⟩:=hl.get h1;exact ⟨v,.inr ⟨hA,h2⟩,h3⟩
theorem PartIs.part {t:TypeId}{l:List Value}{off:Nat}{v:Value}(h:PartIs P t l off v) (w:World):(Go.part t ⟨l⟩ off).run P w=.ok v w:=by
 rcases h with ⟨hA,i,hi,h1,rfl⟩|⟨hA,h1⟩
 ·refine run_part (P:=P) ?_ w;simp only[partV,hA,hi,Option.some.injEq,Value.agg.injEq];apply Array.ext';simp[List.extract_eq_take_drop]
 ·refine run_part (P:=P) ?_ w;simp only[partV,hA];simpa using h1
theorem PartIs.load {t:TypeId}{l:List Value}{off r:Nat}{v:Value}{w:World}(h:PartIs P t l off v) (hc:∀(j:Nat) (v:Value),l[j]?=some v->w.cell? ⟨r,j,none⟩=some v):(loadVar t ⟨r,off,none⟩).run P w=.ok v w:=by
 rcases h with ⟨hA,i,hi,h1,rfl⟩|⟨hA,h1⟩
 ·have:=run_load_agg (w:=w) (b:=r) (off:=off) hA hi h1 fun j v hj=>hc _ _ (by
   have hjl:=(List.getElem?_eq_some_iff.1 hj).1;rw[List.getElem?_take_of_lt (by simp at hjl;omega),List.getElem?_drop] at hj;exact hj)
  simpa using this
 ·exact run_load_cell hA (hc _ _ h1)
theorem BlkR.real {β:Bt}{W:World}{r sp:Nat}{q:Prop}{T:TypeId}{xs:List Value}{op:Bool}(h:BlkR P β W r sp q (.cells T xs op)):∃cs fz,W.heap[r]?=some (.cells cs T fz)∧(q->fz=(0,0))∧(op=false->sp=0)∧cs.size=xs.length+sp*P.cellsOf T∧VRs β xs (cs.toList.take xs.length)∧(∀u∈xs,u.oneCell'=true)∧(∀u∈cs.toList.take xs.length,u.oneCell'=true)∧∀(j:Nat) (v:Value),(cs.toList.take xs.length)[j]?=some v->W.cell? ⟨r,j,none⟩=some v:=by
 obtain ⟨cs,fz,h1,h2,h0,h3,h4⟩:=h;have hV:VRs β xs (cs.toList.take xs.length):=⟨by rw[List.length_take];simp;omega,fun i u v hu hv=>by
  obtain ⟨_,v',h5,h6⟩:=h4 i u hu;rw[List.getElem?_take] at hv;split at hv
  ·have:cs[i]?=some v:=by simpa using hv
   rw[this] at h5;cases h5;exact h6
  ·cases hv⟩
 have hone:∀u∈xs,u.oneCell'=true:=fun u hu=>by
  obtain ⟨i,hi⟩:=List.getElem?_of_mem hu;exact (h4 i u hi).1
 refine ⟨cs,fz,h1,h2,h0,h3,hV,hone,fun v hv=>?_,fun j v hj=>?_⟩
 ·obtain ⟨i,hi⟩:=List.getElem?_of_mem hv;have hlt:=(List.getElem?_eq_some_iff.1 hi).1;rw[← hV.1] at hlt;have:=hV.2 i _ v (List.getElem?_eq_getElem hlt) hi;rw[this.one];exact hone _ (List.getElem_mem _)
 ·rw[List.getElem?_take] at hj;split at hj
  ·simp[World.cell?,h1];simpa using hj
  ·cases hj
theorem exists_row {β:Bt}{Q:Nat->Value->Prop}:∀(xs:List Value) (n:Nat),(∀(i:Nat) (u:Value),xs[i]?=some u->∃v,Q (n+i) v∧VR β u v)->∃xs',VRs β xs xs'∧∀(j:Nat) (v:Value),xs'[j]?=some v->Q (n+j) v
 |[],n,h=>⟨[],.nil _,fun j v hj=>by simp at hj⟩
 |u::xs,n,h=>by
  obtain ⟨v,h1,h2⟩:=h 0 u rfl;obtain ⟨l,h3,h4⟩:=exists_row xs (n+1) fun i w hi=>by
   have:=h (i+1) w (by simpa using hi)
   rwa [show n+(i+1)=n+1+i by omega] at this
  refine ⟨v::l,.cons h2 h3,fun j w hj=>?_⟩
  cases j with
  |zero=>simp at hj;subst hj;exact h1
  |succ j =>
   have:=h4 j w (by simpa using hj)
   rwa [show n+1+j=n+(j+1) by omega] at this
def rowOf:Option Nat->Option Blk->Option (List Value)
 |some 1,some (.view xs)=>some xs
 |some 1,_=>none
 |_,some (.cells _ xs _)=>some xs
 |_,_=>none
theorem rowOf_spec {q:Option Nat}{o:Option Blk}{xs:List Value}(h:rowOf q o=some xs):(q=some 1∧o=some (.view xs))∨((∀sp,vo q sp=0)∧∃T op,o=some (.cells T xs op)):=by
 by_cases hq:q=some 1
 ·subst hq;cases o with
  |none=>cases h
  |some b=>cases b<;>first|(cases h;exact .inl ⟨rfl,rfl⟩)|cases h
 ·refine .inr ⟨fun sp=>?_,?_⟩
  ·unfold vo;split
   ·exact absurd rfl hq
   ·rfl
  ·unfold rowOf at h;split at h
   ·exact absurd rfl hq
   ·cases h
   ·cases h;exact ⟨_,_,rfl⟩
   ·cases h
theorem Rel.row {W0:World}{β:Bt}{s:AS}{W:World}(h:Rel P W0 β s W) {q:Option Nat}{b r sp:Nat}{xs:List Value}(hb:rowOf q (lookC s b)=some xs) (hr:β b=some (r,sp)):∃xs',VRs β xs xs'∧(∀u∈xs,u.oneCell'=true)∧(∀u∈xs',u.oneCell'=true)∧∀(j:Nat) (v:Value),xs'[j]?=some v->W.cell? ⟨r,vo q sp+j,none⟩=some v:=by
 rcases rowOf_spec hb with ⟨rfl,hl⟩|⟨hv,T,op,hl⟩
 ·have h1:∀(i:Nat) (u:Value),xs[i]?=some u->u.oneCell'=true∧∃v,W.cell? ⟨r,sp+i,none⟩=some v∧VR β u v:=(h.blk b _ r sp hl hr).2
  obtain ⟨xs',h2,h3⟩:=exists_row (β:=β) (Q:=fun i v=>W.cell? ⟨r,sp+i,none⟩=some v) xs 0 fun i u hi=>by
   obtain ⟨_,v,h4,h5⟩:=h1 i u hi;exact ⟨v,by simpa using h4,h5⟩
  have one:∀u∈xs,u.oneCell'=true:=fun u hu=>by
   obtain ⟨i,hi⟩:=List.getElem?_of_mem hu;exact (h1 i u hi).1
  refine ⟨xs',h2,one,fun v hv=>?_,fun j v hj=>by simpa [vo] using h3 j v hj⟩
  obtain ⟨i,hi⟩:=List.getElem?_of_mem hv;have hlt:=(List.getElem?_eq_some_iff.1 hi).1;rw[← h2.1] at hlt;rw[(h2.2 i _ v (List.getElem?_eq_getElem hlt) hi).one];exact one _ (List.getElem_mem _)
 ·obtain ⟨cs,fz,_,_,_,_,g1,g2,g3,g4⟩:=(h.blk b _ r sp hl hr).real;refine ⟨_,g1,g2,g3,fun j v hj=>?_⟩
  rw[hv,Nat.zero_add];exact g4 j v hj
theorem PartIs.loadB {t:TypeId}{l:List Value}{off r n:Nat}{v:Value}{w:World}(h:PartIs P t l off v) (hc:∀(j:Nat) (v:Value),l[j]?=some v->w.cell? ⟨r,n+j,none⟩=some v):(loadVar t ⟨r,n+off,none⟩).run P w=.ok v w:=by
 rcases h with ⟨hA,i,hi,h1,rfl⟩|⟨hA,h1⟩
 ·have:=run_load_agg (w:=w) (b:=r) (off:=n+off) hA hi h1 fun j v hj=>by
   have hjl:=(List.getElem?_eq_some_iff.1 hj).1;rw[List.getElem?_take_of_lt (by simp at hjl;omega),List.getElem?_drop] at hj;have:=hc _ _ hj;rwa [← Nat.add_assoc] at this
  simpa using this
 ·exact run_load_cell hA (hc _ _ h1)
def OpR (β:Bt) (gl:Nat) (fr:Tr Value) (a:Act) (o:Oper):Prop:=∀x∈o.op.operands,∀u,evC gl fr x=some u->VR β u (a.eval x)
def LaysG (P:Program) (W0:World) (β:Bt) (W:World) (n n':Nat) (s':AS) (u v:Value) (W':World):Prop:=∃β',Ext W0.heap.size β β' n n'∧Rel P W0 β' s' W'∧VR β' u v∧KD W W'
abbrev LaysC (P:Program) (W0:World) (β:Bt) (W:World) (s s':AS) (u v:Value) (W':World):Prop:=LaysG P W0 β W s.next s'.next s' u v W'
def DoesG (P:Program) (W0:World) (β:Bt) (n n':Nat) (s':AS) (u:Value) (W:World):Result Next->Prop
 |.ok (.value v) W'=>LaysG P W0 β W n n' s' u v W'
 |.ok .skip W'=>LaysG P W0 β W n n' s' u undef W'
 |.ok (.enter f args) W'=>W'=W∧Calls P f args W fun e w'=>∃v,e=.returned v∧LaysG P W0 β W n n' s' u v w'
 |.ok (.round l f tmps assign body) W'=>W'=W∧RoundIn Fence.wide 0 P l f tmps assign body W fun e w'=>∃v,e=.returned v∧LaysG P W0 β W n n' s' u v w'
 |_=>False
abbrev DoesC (P:Program) (W0:World) (β:Bt) (s s':AS) (u:Value) (W:World) (r:Result Next):Prop:=DoesG P W0 β s.next s'.next s' u W r
def OpOk (P:Program) (fr:Tr Value) (o:Oper) (s:AS) (u:Value) (s':AS):Prop :=
 Stp s s'∧∀W0 β a W,Rel P W0 β s W->Free β s.next s'.next->OpR β s.glb fr a o->DoesC P W0 β s s' u W ((execOp a.eval o).run P W)
structure CallOk (P:Program) (D:Dom R) (cf:CallF R):Prop where
 call:∀f args s k,s.lo≤s.next->D.T (cf.call f args s k)->∃u s',D.T (k u s')∧Stp s s'∧∀W0 β W vs,Rel P W0 β s W->Free β s.next s'.next->VRs β args vs->Calls P f ⟨vs⟩ W fun e w'=>∃v,e=.returned v∧LaysC P W0 β W s s' u v w'
 round:∀l args s k,s.lo≤s.next->D.T (cf.round l args s k)->∃u s',D.T (k u s')∧Stp s s'∧∀W0 β W vs r sp,Rel P W0 β s W->Free β s.next s'.next->VRs β args vs->β l=some (r,sp)->DoesC P W0 β s s' u W ((Instr.yield r ⟨vs⟩).run P W)
theorem lays_same {W0:World}{β:Bt}{s:AS}{u v:Value}{W:World}(h:Rel P W0 β s W) (hu:VR β u v):LaysC P W0 β W s s u v W:=⟨β,.refl _ _,h,hu,.refl _⟩
theorem op_value {fr:Tr Value}{o:Oper}{s:AS}{u:Value}(h:∀W0 β a W,Rel P W0 β s W->OpR β s.glb fr a o->∃v,(execOp a.eval o).run P W=.ok (.value v) W∧VR β u v):OpOk P fr o s u s :=
 ⟨.refl _,fun W0 β a W hR _ ho=>by
  obtain ⟨v,h1,h2⟩:=h W0 β a W hR ho;rw[h1];exact lays_same hR h2⟩
theorem pushC_eq (s:AS) (b:Blk) (k:Nat->AS->R):pushC D s b k=k s.next (s.push b):=by
 unfold pushC;simp only[Tr.putK_eq,D.frcN_eq];rfl
theorem turnC_eq (s:AS) (i:Nat) (b:Option Blk) (k:AS->R):turnC s i b k=k ⟨s.heap.set i b,s.next,s.lo,s.glb⟩:=by
 unfold turnC;simp only[Tr.putK_eq];rfl
theorem evC_flat {β:Bt}{gl:Nat}{fr:Tr Value}{a:Act}{x:Operand}(h:∀u,evC gl fr x=some u->VR β u (a.eval x)) (hf:flatX gl fr x=true):a.eval x=evxC gl fr x:=by
 unfold flatX at hf;unfold evxC;cases he:evC gl fr x with
 |none=>simp[he] at hf
 |some u=>simp only[he] at hf ⊢;exact (h u he).flat_eq hf
def exactC (D:Dom R) (P:Program) (cf:CallF R) (o:Oper) (fr:Tr Value) (s:AS) (k:Value->AS->R):R :=
 match !isSel o.op&&o.op.operands.toList.all (flatX s.glb fr) with
 |true=>match pureRun P (execX (evxC s.glb fr) o) with
  |some (.value u)=>match flatV u with
   |true=>D.frc u fun u=>k u s
   |false=>D.bad
  |some .skip=>k undef s
  |some (.enter f args)=>match args.toList.all flatV with
   |true=>cf.call f args.toList s k
   |false=>D.bad
  |_=>D.bad
 |false=>D.bad
theorem exactC_sound {cf:CallF R}(hc:CallOk P D cf) {o:Oper}{fr:Tr Value}{s:AS}{k:Value->AS->R}(hl:s.lo≤s.next) (h:D.T (exactC D P cf o fr s k)):∃u s',D.T (k u s')∧OpOk P fr o s u s':=by
 unfold exactC at h;split at h
 ·rename_i hx;simp only[Bool.and_eq_true,Bool.not_eq_true'] at hx;have hs:∀cs b,o.op≠.select cs b:=fun cs b he=>by rw[he] at hx;simp[isSel] at hx
  have he:∀{β:Bt}{a:Act},OpR β s.glb fr a o->execOp a.eval o=execX (evxC s.glb fr) o:=fun {β a} ho=>by
   rw[execX_eq];exact execOp_congr o hs fun x hx'=>evC_flat (ho x hx') (List.all_eq_true.1 hx.2 x (by simpa using hx'))
  split at h
  ·rename_i u hu;split at h
   ·rename_i hf;rw[D.frc_eq] at h;exact ⟨u,s,h,op_value fun W0 β a W hR ho=>⟨u,by rw[he ho];exact pureRun_run P _ hu W,.of_flat _ hf⟩⟩
   ·exact absurd h D.nb
  ·rename_i hu;refine ⟨undef,s,h,.refl _,fun W0 β a W hR _ ho=>?_⟩
   rw[he ho,pureRun_run P _ hu W];exact lays_same hR (.of_flat _ rfl)
  ·rename_i f args hu;split at h
   ·rename_i hf;obtain ⟨u,s',h1,h2,h3⟩:=hc.call f args.toList s k hl h;refine ⟨u,s',h1,h2,fun W0 β a W hR hfr ho=>?_⟩
    rw[he ho,pureRun_run P _ hu W];refine ⟨rfl,h3 W0 β W args.toList hR hfr ⟨rfl,fun i u v hu hv=>?_⟩⟩
    rw[hu] at hv;cases hv;exact .of_flat _ (List.all_eq_true.1 hf _ (List.mem_of_getElem? hu))
   ·exact absurd h D.nb
  ·exact absurd h D.nb
 ·exact absurd h D.nb
end
variable {R : Type} {D : Dom R} {P : Program} {cf : CallF R} {fr : Tr Value} {s : AS} {o : Oper} {k : Value → AS → R}
theorem VR.imP_inv {β:Bt}{x v:Value}{o:Nat}(h:VR β (imP x o) v):∃ws r off,VRs β (cellsOf x) ws∧(∀(i:Nat) (v:Value),ws[i]?=some v->β.z r (off+i)=some v)∧(∀v,v∈ws->v.oneCell'=true)∧v=.pointer (some ⟨r,off+o,none⟩):=by
 generalize hu:imP x o=u at h
 cases h<;>simp only[imP,imS,imE,imM0,Value.func.injEq,reduceCtorEq,Fn.yield.injEq,Array.mk.injEq,List.cons.injEq,and_true,false_and,and_false,Value.bool.injEq,Bool.false_eq_true,Bool.true_eq_false] at hu<;>try (subst hu;rename_i hf;simp[flat1] at hf)
 rename_i x' ws r off o' hl hm h1 h2
 obtain ⟨rfl,rfl⟩:=hu;exact ⟨ws,r,off,⟨hl.symm,h1⟩,hm,h2,rfl⟩
theorem VR.imS_inv {β:Bt}{xs:List Value}{v:Value}(h:VR β (imS xs) v):(xs=[]∧∃ad,v=.slice ad 0 0)∨∃ws z r off c,(∀x,x∈xs->(cellsOf x).length=z)∧xs.length≤c∧VRs β (cellsAll xs) ws∧(∀(i:Nat) (v:Value),ws[i]?=some v->β.z r (off+i)=some v)∧(∀v,v∈ws->v.oneCell'=true)∧v=.slice (some ⟨r,off,none⟩) xs.length c:=by
 generalize hu:imS xs=u at h
 cases h<;>simp only[imP,imS,imE,imM0,Value.func.injEq,reduceCtorEq,Fn.yield.injEq,Array.mk.injEq,List.cons.injEq,and_true,true_and,false_and,and_false,Nat.zero_ne_one,Value.bool.injEq,Bool.false_eq_true,Bool.true_eq_false] at hu<;>try (subst hu;rename_i hf;simp[flat1] at hf)
 ·subst hu;exact .inl ⟨rfl,_,rfl⟩
 ·rename_i xs' ws z r off c hz hc hl hm h1 h2
  subst hu;exact .inr ⟨ws,z,r,off,c,hz,hc,⟨hl.symm,h1⟩,hm,h2,rfl⟩
theorem VR.imE_inv {β:Bt}{v:Value}(h:VR β imE v):∃ad,v=.slice ad 0 0:=by
 generalize hu:imE=u at h
 cases h<;>simp only[imP,imS,imE,imM0,Value.func.injEq,reduceCtorEq,Fn.yield.injEq,Array.mk.injEq,List.cons.injEq,and_true,true_and,false_and,and_false,Nat.one_ne_zero,Nat.reduceEqDiff,Value.bool.injEq,Bool.false_eq_true,Bool.true_eq_false] at hu<;>try (subst hu;rename_i hf;simp[flat1] at hf)
 rename_i ad;exact ⟨ad,rfl⟩
theorem VR.imM_inv {β:Bt}{ps:List Value}{v:Value}(h:VR β (imM0 ps) v):∃r,β.z r 0=some (.tuple ⟨ps⟩)∧(∀e,pairV e∈ps->flatV e.2=true)∧v=.map (some r):=by
 generalize hu:imM0 ps=u at h
 cases h<;>simp only[imP,imS,imE,imM0,Value.func.injEq,reduceCtorEq,Fn.yield.injEq,Array.mk.injEq,List.cons.injEq,and_true,true_and,false_and,and_false,Nat.reduceEqDiff,Value.bool.injEq,Bool.false_eq_true,Bool.true_eq_false] at hu<;>try (subst hu;rename_i hf;simp[flat1] at hf;done)
 rename_i es' r hm hf
 subst hu;exact ⟨r,hm,hf,rfl⟩
theorem cellsAll_at {z:Nat}:∀{xs:List Value}{j:Nat}{x:Value},(∀x,x∈xs->(cellsOf x).length=z)->xs[j]?=some x->((cellsAll xs).drop (j*z)).take z=cellsOf x∧j*z+z≤(cellsAll xs).length
 |[],j,x,_,h=>by simp at h
 |y::xs,0,x,hz,h=>by
  simp at h
  subst h;have:=hz y (by simp)
  simp only[cellsAll,List.flatMap_cons,Nat.zero_mul,List.drop_zero,List.length_append];exact ⟨by rw[← this,List.take_left],by omega⟩
 |y::xs,j+1,x,hz,h=>by
  have hy:=hz y (by simp)
  obtain ⟨h1,h2⟩:=cellsAll_at (j:=j) (fun x hx=>hz x (List.mem_cons_of_mem _ hx)) (by simpa using h)
  have e:(j+1)*z=(cellsOf y).length+j*z:=by rw[Nat.add_mul,hy];omega
  simp only[cellsAll,List.flatMap_cons,List.length_append] at h1 h2 ⊢;rw[e,← List.drop_drop,List.drop_left];exact ⟨h1,by omega⟩
theorem cellsAll_drop {z:Nat}:∀(xs:List Value) (l:Nat),(∀x,x∈xs->(cellsOf x).length=z)->cellsAll (xs.drop l)=(cellsAll xs).drop (l*z)
 |[],l,_=>by simp[cellsAll]
 |x::xs,0,_=>by simp
 |x::xs,l+1,h=>by
  have e:(l+1)*z=(cellsOf x).length+l*z:=by rw[Nat.add_mul,h x (List.mem_cons_self ..)];omega
  have ih:=cellsAll_drop xs l fun y hy=>h y (List.mem_cons_of_mem _ hy)
  rw[List.drop_succ_cons,ih,e,← List.drop_drop];simp only[cellsAll,List.flatMap_cons,List.drop_left]
theorem cellsAll_take {z:Nat}:∀(xs:List Value) (l:Nat),(∀x,x∈xs->(cellsOf x).length=z)->cellsAll (xs.take l)=(cellsAll xs).take (l*z)
 |[],l,_=>by simp[cellsAll]
 |x::xs,0,_=>by simp[cellsAll]
 |x::xs,l+1,h=>by
  have e:(l+1)*z=(cellsOf x).length+l*z:=by rw[Nat.add_mul,h x (List.mem_cons_self ..)];omega
  have ih:=cellsAll_take xs l fun y hy=>h y (List.mem_cons_of_mem _ hy)
  have e2:cellsAll ((x::xs).take (l+1))=cellsOf x++cellsAll (xs.take l):=by simp[cellsAll]
  have e3:cellsAll (x::xs)=cellsOf x++cellsAll xs:=by simp[cellsAll]
  rw[e2,e3,ih,e,List.take_append];have h1:(cellsOf x).length+l*z-(cellsOf x).length=l*z:=by omega
  have h2:(cellsOf x).take ((cellsOf x).length+l*z)=cellsOf x:=List.take_of_length_le (by omega)
  rw[h1,h2]
theorem VR.imS_part {β:Bt}{ws xs:List Value}{z r off c l n:Nat}(hz:∀x,x∈xs->(cellsOf x).length=z) (hc:n≤c) (h1:VRs β (cellsAll xs) ws) (hm:∀(i:Nat) (v:Value),ws[i]?=some v->β.z r (off+i)=some v) (h2:∀v,v∈ws->v.oneCell'=true) (hl:l+n≤xs.length):VR β (imS ((xs.drop l).take n)) (.slice (some ⟨r,off+l*z,none⟩) n c):=by
 have hlen:((xs.drop l).take n).length=n:=by simp;omega
 have hz1:∀x,x∈xs.drop l->(cellsOf x).length=z:=fun x hx=>hz x (List.mem_of_mem_drop hx)
 have hz2:∀x,x∈(xs.drop l).take n->(cellsOf x).length=z:=fun x hx=>hz1 x (List.mem_of_mem_take hx)
 have he:cellsAll ((xs.drop l).take n)=((cellsAll xs).drop (l*z)).take (n*z):=by rw[cellsAll_take _ _ hz1,cellsAll_drop _ _ hz]
 have hv:=(h1.drop (l*z)).take (n*z);rw[← he] at hv;have:=VR.ims (β:=β) ((xs.drop l).take n) ((ws.drop (l*z)).take (n*z)) z r (off+l*z) c hz2 (by rw[hlen];exact hc) hv.1.symm (fun i v hi=>by
  have hil:=(List.getElem?_eq_some_iff.1 hi).1;rw[List.getElem?_take_of_lt (by rw[List.length_take] at hil;omega),List.getElem?_drop] at hi
  rw[Nat.add_assoc];exact hm _ v hi) hv.2 fun v hv=>h2 v (List.mem_of_mem_drop (List.mem_of_mem_take hv))
 rwa [hlen] at this
theorem VR.imS_at {β:Bt}{ws xs:List Value}{z r off j:Nat}{x:Value}(hz:∀x,x∈xs->(cellsOf x).length=z) (h1:VRs β (cellsAll xs) ws) (hm:∀(i:Nat) (v:Value),ws[i]?=some v->β.z r (off+i)=some v) (h2:∀v,v∈ws->v.oneCell'=true) (hx:xs[j]?=some x) (o:Nat):VR β (imP x o) (.pointer (some ⟨r,off+j*z+o,none⟩)):=by
 obtain ⟨e1,e2⟩:=cellsAll_at hz hx;have hv:=(h1.drop (j*z)).take z;rw[e1] at hv;refine .imp x ((ws.drop (j*z)).take z) r (off+j*z) o hv.1.symm (fun i v hi=>?_) hv.2 fun v hv=>h2 v (List.mem_of_mem_drop (List.mem_of_mem_take hv))
 have hil:=(List.getElem?_eq_some_iff.1 hi).1;rw[List.getElem?_take_of_lt (by rw[List.length_take] at hil;omega),List.getElem?_drop] at hi
 rw[Nat.add_assoc];exact hm _ v hi
def moveC (D:Dom R) (fr:Tr Value) (s:AS) (x:Operand) (k:Value->AS->R):R:=onV D (evC s.glb fr x) fun u=>k u s
theorem moveC_sound {x:Operand}(ho:o.op=.move x∨o.op=.assign x) (h:D.T (moveC D fr s x k)):∃u s',D.T (k u s')∧OpOk P fr o s u s':=by
 obtain ⟨u,h1,h2⟩:=onV_sound h;refine ⟨u,s,h2,op_value fun W0 β a W hR hf=>⟨a.eval x,?_,hf x (by rcases ho with ho|ho<;>simp[ho,Op.operands]) u h1⟩⟩
 rcases ho with ho|ho<;>simp[execOp,ho]
def pickC (D:Dom R) (fr:Tr Value) (s:AS) (c x y:Operand) (k:Value->AS->R):R :=
 match evC s.glb fr c with
 |some (.bool b)=>D.lt b fun b=>match b with
  |true=>onV D (evC s.glb fr x) fun u=>k u s
  |false=>onV D (evC s.glb fr y) fun u=>k u s
 |_=>D.bad
theorem pickC_sound {c x y:Operand}(ho:o.op=.pick c x y) (h:D.T (pickC D fr s c x y k)):∃u s',D.T (k u s')∧OpOk P fr o s u s':=by
 unfold pickC at h;split at h
 ·rename_i b hb;have run:∀(W0:World) (β:Bt) (a:Act) (W:World),OpR β s.glb fr a o->(execOp a.eval o).run P W=.ok (.value (if b then a.eval x else a.eval y)) W:=fun W0 β a W hf=>by
   have:=(hf c (by simp[ho,Op.operands]) _ hb).flat_eq rfl
   simp[execOp,ho,this,asBool]
  replace h:=D.lt_ok _ _ h;have h':(b=true∧D.T (onV D (evC s.glb fr x) fun u=>k u s))∨(b=false∧D.T (onV D (evC s.glb fr y) fun u=>k u s)):=by
   cases b
   ·exact .inr ⟨rfl,h⟩
   ·exact .inl ⟨rfl,h⟩
  clear h;rcases h' with ⟨rfl,h⟩|⟨rfl,h⟩
  ·obtain ⟨u,h1,h2⟩:=onV_sound h;exact ⟨u,s,h2,op_value fun W0 β a W hR hf=>⟨a.eval x,by simpa using run W0 β a W hf,hf x (by simp[ho,Op.operands]) u h1⟩⟩
  ·obtain ⟨u,h1,h2⟩:=onV_sound h;exact ⟨u,s,h2,op_value fun W0 β a W hR hf=>⟨a.eval y,by simpa using run W0 β a W hf,hf y (by simp[ho,Op.operands]) u h1⟩⟩
 ·exact absurd h D.nb
def loadC (D:Dom R) (P:Program) (fr:Tr Value) (s:AS) (t:TypeId) (x:Operand) (k:Value->AS->R):R :=
 match evC s.glb fr x with
 |some (.pointer (some ⟨b,off,q⟩))=>onV D (rowOf q (lookC s b)) fun xs=>partC D P t xs off fun u=>k u s
 |some (.func (.yield o) ⟨[x]⟩ ⟨[.bool false]⟩)=>partC D P t (cellsOf x) o fun u=>k u s
 |_=>D.bad
theorem loadC_sound {t:TypeId}{x:Operand}(ho:o.op=.load t x) (h:D.T (loadC D P fr s t x k)):∃u s',D.T (k u s')∧OpOk P fr o s u s':=by
 unfold loadC at h;split at h
 ·rename_i b off q hx;replace h:=onV_sound h;obtain ⟨xs,hb,h⟩:=h;obtain ⟨u,h1,h2⟩:=partC_sound h;refine ⟨u,s,h2,op_value fun W0 β a W hR hf=>?_⟩
  obtain ⟨r,sp,e1,e2,_⟩:=(hf x (by simp[ho,Op.operands]) _ hx).ptr_any
  obtain ⟨xs',g1,_,_,g2⟩:=hR.row hb e1;obtain ⟨v,h3,h4⟩:=h1.rel g1;refine ⟨v,?_,h4⟩;simp[execOp,ho,e2,Instr.loadAt,Instr.sureAddr,h3.loadB g2]
 ·rename_i o' y hx
  obtain ⟨u,h1,h2⟩:=partC_sound h;refine ⟨u,s,h2,op_value fun W0 β a W hR hf=>?_⟩
  obtain ⟨ws,r,off,e1,e3,e4,e2⟩:=(hf x (by simp[ho,Op.operands]) _ hx).imP_inv
  obtain ⟨v,h3,h4⟩:=h1.rel e1;refine ⟨v,?_,h4⟩;have:=h3.loadB fun j v hj=>fzc_cell (hR.frz r (off+j) v (e3 j v hj)).1 (e4 v (List.mem_of_getElem? hj))
  simp[execOp,ho,e2,Instr.loadAt,Instr.sureAddr,this]
 ·exact absurd h D.nb
def idxC (D:Dom R) (n:Nat) (i:Int) (k:Nat->R):R :=
 match i with
 |.ofNat i=>ifB D (Nat.blt i n) (k i)
 |.negSucc _=>D.bad
theorem idxC_sound {n:Nat}{i:Int}{k:Nat->R}(h:D.T (idxC D n i k)):0≤i∧i<n∧D.T (k i.toNat):=by
 unfold idxC at h;split at h
 ·rename_i i;obtain ⟨h1,h2⟩:=ifB_sound h;have h3:i<n:=of_decide_eq_true (by simpa [Nat.blt_eq] using h1)
  refine ⟨by simp,?_,by simpa using h2⟩
  show ((i:Nat):Int)<(n:Int)
  omega
 ·exact absurd h D.nb
def indexPC (D:Dom R) (P:Program) (cf:CallF R) (o:Oper) (fr:Tr Value) (s:AS) (t:TypeId) (x i:Operand) (k:Value->AS->R):R :=
 match evC s.glb fr x,evC s.glb fr i with
 |some (.func (.yield off) ⟨[x]⟩ ⟨[.bool false]⟩),some (.int _ j)=>match P.underlying t with
  |some (.array len e)=>onV D (P.info? e) fun i=>idxC D len j fun j=>D.frcN (off+j*i.size) fun q=>k (imP x q) s
  |_=>D.bad
 |_,_=>exactC D P cf o fr s k
theorem indexPC_sound (hc:CallOk P D cf) (hl:s.lo≤s.next) {t:TypeId}{x i:Operand}(ho:o.op=.indexAddr t x i) (h:D.T (indexPC D P cf o fr s t x i k)):∃u s',D.T (k u s')∧OpOk P fr o s u s':=by
 unfold indexPC at h;split at h
 ·rename_i off y kk j hx hi;split at h
  ·rename_i len e hu;obtain ⟨inf,hinf,h⟩:=onV_sound h;obtain ⟨h0,h1,h⟩:=idxC_sound h;rw[D.frcN_eq] at h;refine ⟨_,s,h,op_value fun W0 β a W hR hf=>?_⟩
   obtain ⟨ws,r,off',e1,e4,e5,e2⟩:=(hf x (by simp[ho,Op.operands]) _ hx).imP_inv
   have e3:=(hf i (by simp[ho,Op.operands]) _ hi).flat_eq rfl
   refine ⟨.pointer (some ⟨r,off'+(off+j.toNat*inf.size),none⟩),?_,.imp y ws r off' _ e1.1.symm e4 e1.2 e5⟩;simp[execOp,ho,e2,e3,Instr.indexAt,Instr.sureAddr,asIntOf,run_underlying hu,h0,h1,sizeOf,typeInfo,hinf,add_at,Nat.add_assoc]
  ·exact absurd h D.nb
 ·exact exactC_sound hc hl h
def indexAddrC (D:Dom R) (P:Program) (cf:CallF R) (o:Oper) (fr:Tr Value) (s:AS) (t:TypeId) (x i:Operand) (k:Value->AS->R):R :=
 match evC s.glb fr x,evC s.glb fr i with
 |some (.slice (some ⟨b,off,sp⟩) n _),some (.int _ j)=>onV D (elemSize P t) fun z=>idxC D n j fun j=>D.frcN (off+j*z) fun q=>k (.pointer (some ⟨b,q,vq sp⟩)) s
 |some (.pointer (some ⟨b,off,none⟩)),some (.int _ j)=>match P.underlying t with
  |some (.array len e)=>onV D (P.info? e) fun i=>idxC D len j fun j=>D.frcN (off+j*i.size) fun q=>k (.pointer (some ⟨b,q,none⟩)) s
  |_=>D.bad
 |some (.func (.yield 0) ⟨xs⟩ ⟨[.bool true]⟩),some (.int _ j)=>onV D (elemSize P t) fun z=>idxC D xs.length j fun j=>D.nv xs j fun x=>ifB D (Nat.beq (cellsOf x).length z) (k (imP x 0) s)
 |_,_=>indexPC D P cf o fr s t x i k
theorem indexAddrC_sound (hc:CallOk P D cf) (hl:s.lo≤s.next) {t:TypeId}{x i:Operand}(ho:o.op=.indexAddr t x i) (h:D.T (indexAddrC D P cf o fr s t x i k)):∃u s',D.T (k u s')∧OpOk P fr o s u s':=by
 unfold indexAddrC at h;split at h
 ·rename_i b off q n c kk j hx hi;obtain ⟨z,hz,h⟩:=onV_sound h;obtain ⟨h0,h1,h⟩:=idxC_sound h;rw[D.frcN_eq] at h;refine ⟨_,s,h,op_value fun W0 β a W hR hf=>?_⟩
  obtain ⟨r,sp,c',e1,e2,_⟩:=(hf x (by simp[ho,Op.operands]) _ hx).sl_any
  have e3:=(hf i (by simp[ho,Op.operands]) _ hi).flat_eq rfl
  obtain ⟨e,inf,he,hinf,rfl⟩:=elemSize_spec hz;refine ⟨.pointer (some ⟨r,vo q sp+(off+j.toNat*inf.size),none⟩),?_,.mk_ptr e1 q _⟩;simp[execOp,ho,e2,e3,Instr.indexAt,asIntOf,run_underlying he,Nat.add_assoc,h0,h1,sizeOf,typeInfo,hinf,add_at]
 ·rename_i b off kk j hx hi;split at h
  ·rename_i len e hu;obtain ⟨inf,hinf,h⟩:=onV_sound h;obtain ⟨h0,h1,h⟩:=idxC_sound h;rw[D.frcN_eq] at h;refine ⟨_,s,h,op_value fun W0 β a W hR hf=>?_⟩
   obtain ⟨r,sp,e1,e2⟩:=(hf x (by simp[ho,Op.operands]) _ hx).ptr_inv
   have e3:=(hf i (by simp[ho,Op.operands]) _ hi).flat_eq rfl
   refine ⟨.pointer (some ⟨r,off+j.toNat*inf.size,none⟩),?_,.ptr _ _ _ _ e1⟩;simp[execOp,ho,e2,e3,Instr.indexAt,Instr.sureAddr,asIntOf,run_underlying hu,h0,h1,sizeOf,typeInfo,hinf,add_at]
  ·exact absurd h D.nb
 ·rename_i xs kk j hx hi;obtain ⟨z,hz,h⟩:=onV_sound h;obtain ⟨h0,h1,h⟩:=idxC_sound h;obtain ⟨y,hy,h⟩:=D.nv_ok _ _ _ h;replace h:=ifB_sound h;obtain ⟨hzy,h⟩:=h;have hzy:=Nat.eq_of_beq_eq_true hzy
  rw[nth_eq] at hy;refine ⟨_,s,h,op_value fun W0 β a W hR hf=>?_⟩
  have e3:=(hf i (by simp[ho,Op.operands]) _ hi).flat_eq rfl
  obtain ⟨e,inf,he,hinf,rfl⟩:=elemSize_spec hz;rcases VR.imS_inv (xs:=xs) (hf x (by simp[ho,Op.operands]) _ hx) with ⟨rfl,_⟩|⟨ws,z',r,off,c,q1,q2,q3,q4,q5,e2⟩
  ·simp at hy
  ·have hz':z'=inf.size:=by rw[← hzy];exact (q1 y (List.mem_of_getElem? hy)).symm
   subst hz';refine ⟨.pointer (some ⟨r,off+j.toNat*inf.size+0,none⟩),?_,VR.imS_at q1 q3 q4 q5 hy 0⟩;simp[execOp,ho,e2,e3,Instr.indexAt,asIntOf,run_underlying he,Nat.add_assoc,h0,h1,sizeOf,typeInfo,hinf,add_at]
 ·exact indexPC_sound hc hl ho h
def byteV (b:UInt8):Value:=.int .u8 b.toNat
def indexC (D:Dom R) (P:Program) (cf:CallF R) (o:Oper) (fr:Tr Value) (s:AS) (t:TypeId) (x i:Operand) (k:Value->AS->R):R :=
 match evC s.glb fr x,evC s.glb fr i with
 |some (.agg ⟨cs⟩),some (.int _ j)=>match P.underlying t with
  |some (.array len e)=>onV D (P.info? e) fun i=>idxC D len j fun j=>partC D P e cs (j*i.size) fun u=>k u s
  |_=>D.bad
 |some (.string ⟨⟨l⟩⟩),some (.int _ j)=>match P.underlying t with
  |some .string=>idxC D l.length j fun j=>D.nv (l.map byteV) j fun u=>k u s
  |_=>D.bad
 |_,_=>exactC D P cf o fr s k
theorem indexC_sound (hc:CallOk P D cf) (hl:s.lo≤s.next) {t:TypeId}{x i:Operand}(ho:o.op=.index t x i) (h:D.T (indexC D P cf o fr s t x i k)):∃u s',D.T (k u s')∧OpOk P fr o s u s':=by
 unfold indexC at h;split at h
 ·rename_i cs kk j hx hi;split at h
  ·rename_i len e hu;obtain ⟨inf,hinf,h⟩:=onV_sound h;obtain ⟨h0,h1,h⟩:=idxC_sound h;obtain ⟨u,h2,h⟩:=partC_sound h;refine ⟨_,s,h,op_value fun W0 β a W hR hf=>?_⟩
   obtain ⟨cs',e1,e2⟩:=(hf x (by simp[ho,Op.operands]) _ hx).agg_inv
   have e3:=(hf i (by simp[ho,Op.operands]) _ hi).flat_eq rfl
   obtain ⟨v,h3,h4⟩:=h2.rel e1;refine ⟨v,?_,h4⟩;have hq:=h3.part W;simp[execOp,ho,e2,e3,Instr.index,asIntOf,run_underlying hu,h0,h1,sizeOf,typeInfo,hinf] at hq ⊢
   simp[hq]
  ·exact absurd h D.nb
 ·rename_i l kk j hx hi;split at h
  ·rename_i hu;obtain ⟨h0,h1,h⟩:=idxC_sound h;obtain ⟨u,h2,h⟩:=D.nv_ok _ _ _ h;rw[nth_eq,List.getElem?_map] at h2;obtain ⟨b,hb,hbu⟩:=Option.map_eq_some_iff.1 h2;subst hbu;refine ⟨_,s,h,op_value fun W0 β a W hR hf=>?_⟩
   have e2:=(hf x (by simp[ho,Op.operands]) _ hx).flat_eq rfl
   have e3:=(hf i (by simp[ho,Op.operands]) _ hi).flat_eq rfl
   refine ⟨byteV b,?_,.of_flat _ rfl⟩;have hsz:(⟨⟨l⟩⟩:ByteArray)[j.toNat]?=some b:=by
    obtain ⟨hlt,hb⟩:=List.getElem?_eq_some_iff.1 hb;exact (getElem?_pos (⟨⟨l⟩⟩:ByteArray) j.toNat hlt).trans (congrArg some hb)
   simp[execOp,ho,e2,e3,Instr.index,asIntOf,run_underlying hu,h0,hsz,byteV]
  ·exact absurd h D.nb
 ·exact exactC_sound hc hl h
def fieldC (D:Dom R) (P:Program) (fr:Tr Value) (s:AS) (t:TypeId) (x:Operand) (f:Nat) (k:Value->AS->R):R :=
 match evC s.glb fr x,P.underlying t with
 |some (.agg ⟨cs⟩),some (.struct fs)=>onV D fs[f]? fun g=>partC D P g.type cs g.offset fun u=>k u s
 |_,_=>D.bad
theorem fieldC_sound {t:TypeId}{x:Operand}{f:Nat}(ho:o.op=.field t x f) (h:D.T (fieldC D P fr s t x f k)):∃u s',D.T (k u s')∧OpOk P fr o s u s':=by
 unfold fieldC at h;split at h
 ·rename_i cs fs hx hu;obtain ⟨g,hg,h⟩:=onV_sound h;obtain ⟨u,h2,h⟩:=partC_sound h;refine ⟨_,s,h,op_value fun W0 β a W hR hf=>?_⟩
  obtain ⟨cs',e1,e2⟩:=(hf x (by simp[ho,Op.operands]) _ hx).agg_inv
  obtain ⟨v,h3,h4⟩:=h2.rel e1;refine ⟨v,?_,h4⟩;have hq:=h3.part W;simp[execOp,ho,e2,Instr.field,run_underlying hu,hg,asAgg,hq]
 ·exact absurd h D.nb
def fieldAddrC (D:Dom R) (P:Program) (cf:CallF R) (o:Oper) (fr:Tr Value) (s:AS) (t:TypeId) (x:Operand) (f:Nat) (k:Value->AS->R):R :=
 match evC s.glb fr x,P.underlying t with
 |some (.pointer (some ⟨b,off,sp⟩)),some (.struct fs)=>onV D fs[f]? fun g=>onV D (P.info? g.type) fun i=>ifB D (Nat.blt 0 i.size) (D.frcN (off+g.offset) fun q=>k (.pointer (some ⟨b,q,vq sp⟩)) s)
 |some (.func (.yield o) ⟨[x]⟩ ⟨[.bool false]⟩),some (.struct fs)=>onV D fs[f]? fun g=>onV D (P.info? g.type) fun i=>ifB D (Nat.blt 0 i.size) (D.frcN (o+g.offset) fun q=>k (imP x q) s)
 |_,_=>D.bad
theorem fieldAddrC_sound {t:TypeId}{x:Operand}{f:Nat}(ho:o.op=.fieldAddr t x f) (h:D.T (fieldAddrC D P cf o fr s t x f k)):∃u s',D.T (k u s')∧OpOk P fr o s u s':=by
 unfold fieldAddrC at h;split at h
 ·rename_i b off q fs hx hS;obtain ⟨g,hg,h⟩:=onV_sound h;obtain ⟨i,hi,h⟩:=onV_sound h;replace h:=ifB_sound h;obtain ⟨hz,h⟩:=h;have hz:i.size≠0:=by
   have:0<i.size:=of_decide_eq_true (by simpa [Nat.blt_eq] using hz)
   omega
  rw[D.frcN_eq] at h;refine ⟨_,s,h,op_value fun W0 β a W hR hf=>?_⟩
  obtain ⟨r,sp,e1,e2,_⟩:=(hf x (by simp[ho,Op.operands]) _ hx).ptr_any
  exact ⟨.pointer (some ⟨r,vo q sp+(off+g.offset),none⟩),by simp[execOp,ho,e2,Instr.fieldAt,Instr.sureAddr,run_underlying hS,hg,fieldPlace,sizeOf,typeInfo,hi,hz,add_at,Nat.add_assoc],.mk_ptr e1 q _⟩
 ·rename_i o' y fs hx hS
  obtain ⟨g,hg,h⟩:=onV_sound h;obtain ⟨i,hi,h⟩:=onV_sound h;replace h:=ifB_sound h;obtain ⟨hz,h⟩:=h;have hz:i.size≠0:=by
   have:0<i.size:=of_decide_eq_true (by simpa [Nat.blt_eq] using hz)
   omega
  rw[D.frcN_eq] at h;refine ⟨_,s,h,op_value fun W0 β a W hR hf=>?_⟩
  obtain ⟨ws,r,off,e1,e3,e4,e2⟩:=(hf x (by simp[ho,Op.operands]) _ hx).imP_inv
  exact ⟨.pointer (some ⟨r,off+(o'+g.offset),none⟩),by simp[execOp,ho,e2,Instr.fieldAt,Instr.sureAddr,run_underlying hS,hg,fieldPlace,sizeOf,typeInfo,hi,hz,add_at,Nat.add_assoc],.imp y ws r off _ e1.1.symm e3 e1.2 e4⟩
 ·exact absurd h D.nb
def nilC (D:Dom R) (P:Program) (cf:CallF R) (o:Oper) (fr:Tr Value) (s:AS) (x:Operand) (k:Value->AS->R):R :=
 match evC s.glb fr x with
 |some (.pointer (some ⟨b,off,q⟩))=>k (.pointer (some ⟨b,off,q⟩)) s
 |some (.func (.func g) a b)=>k (.func (.func g) a b) s
 |some (.func (.yield o) ⟨[x]⟩ ⟨[.bool false]⟩)=>k (imP x o) s
 |some (.iface t u)=>k (.iface t u) s
 |_=>exactC D P cf o fr s k
theorem nilC_sound (hc:CallOk P D cf) (hl:s.lo≤s.next) {x:Operand}(ho:o.op=.nilCheck x) (h:D.T (nilC D P cf o fr s x k)):∃u s',D.T (k u s')∧OpOk P fr o s u s':=by
 unfold nilC at h;split at h
 ·rename_i b off sq hx;refine ⟨_,s,h,op_value fun W0 β a W hR hf=>?_⟩
  have q:=hf x (by simp[ho,Op.operands]) _ hx
  obtain ⟨r,sp,e1,e2,e3⟩:=q.ptr_any;refine ⟨.pointer (some ⟨r,vo sq sp+off,none⟩),by simp[execOp,ho,e2],?_⟩
  have:=VR.mk_ptr e1 sq off;rwa [e3] at this
 ·rename_i g a0 b0 hx;refine ⟨_,s,h,op_value fun W0 β a W hR hf=>?_⟩
  have q:=hf x (by simp[ho,Op.operands]) _ hx
  cases a0 with
  |mk l1=>cases b0 with
   |mk l2 =>
    obtain ⟨a',b',e1,e2,e3⟩:=q.func_inv;exact ⟨.func (.func g) ⟨a'⟩ ⟨b'⟩,by simp[execOp,ho,e3],.func _ _ _ _ _ e1.1 e2.1 e1.2 e2.2⟩
 ·rename_i o' y hx
  refine ⟨_,s,h,op_value fun W0 β a W hR hf=>?_⟩
  have q:=hf x (by simp[ho,Op.operands]) _ hx
  obtain ⟨ws,r,off,e1,e3,e4,e2⟩:=VR.imP_inv (x:=y) q;exact ⟨_,by simp[execOp,ho,e2],.imp y ws r off _ e1.1.symm e3 e1.2 e4⟩
 ·rename_i t u hx;refine ⟨_,s,h,op_value fun W0 β a W hR hf=>?_⟩
  have q:=hf x (by simp[ho,Op.operands]) _ hx
  obtain ⟨v,e1,e2⟩:=q.ifc_inv;exact ⟨.iface t v,by simp[execOp,ho,e2],.ifc _ _ _ e1⟩
 ·exact exactC_sound hc hl h
def extractC (D:Dom R) (fr:Tr Value) (s:AS) (x:Operand) (i:Nat) (k:Value->AS->R):R :=
 match evC s.glb fr x with
 |some (.tuple ⟨l⟩)=>onV D (nth l i) fun u=>k u s
 |_=>D.bad
theorem extractC_sound {x:Operand}{i:Nat}(ho:o.op=.extract x i) (h:D.T (extractC D fr s x i k)):∃u s',D.T (k u s')∧OpOk P fr o s u s':=by
 unfold extractC at h;split at h
 ·rename_i l hx;obtain ⟨u,hu,h⟩:=onV_sound h;rw[nth_eq] at hu;refine ⟨_,s,h,op_value fun W0 β a W hR hf=>?_⟩
  obtain ⟨l',e1,e2⟩:=(hf x (by simp[ho,Op.operands]) _ hx).tup_inv
  obtain ⟨v,h1,h2⟩:=e1.get hu;exact ⟨v,by simp[execOp,ho,e2,Instr.extract,h1],h2⟩
 ·exact absurd h D.nb
def makeIfaceC (D:Dom R) (P:Program) (fr:Tr Value) (s:AS) (t:TypeId) (x:Operand) (k:Value->AS->R):R :=
 match P.concrete t with
 |true=>onV D (evC s.glb fr x) fun u=>k (.iface t u) s
 |false=>D.bad
theorem makeIfaceC_sound {t:TypeId}{x:Operand}(ho:o.op=.makeInterface t x) (h:D.T (makeIfaceC D P fr s t x k)):∃u s',D.T (k u s')∧OpOk P fr o s u s':=by
 unfold makeIfaceC at h;split at h
 ·rename_i hc;obtain ⟨u,hu,h⟩:=onV_sound h;refine ⟨_,s,h,op_value fun W0 β a W hR hf=>?_⟩
  have e:=hf x (by simp[ho,Op.operands]) _ hu
  exact ⟨.iface t (a.eval x),by simp[execOp,ho,run_makeInterface (P:=P) W t _ hc],.ifc _ _ _ e⟩
 ·exact absurd h D.nb
def assertC (D:Dom R) (P:Program) (fr:Tr Value) (s:AS) (x:Operand) (t:TypeId) (ok:Bool) (k:Value->AS->R):R :=
 match evC s.glb fr x with
 |some (.iface t' u)=>match P.concrete t,Nat.beq t' t with
  |true,true=>match ok with
   |true=>k (.tuple ⟨[u,.bool true]⟩) s
   |false=>k u s
  |_,_=>D.bad
 |_=>D.bad
theorem assertC_sound {t xT:TypeId}{x:Operand}{ok:Bool}(ho:o.op=.typeAssert x xT t ok) (h:D.T (assertC D P fr s x t ok k)):∃u s',D.T (k u s')∧OpOk P fr o s u s':=by
 unfold assertC at h;split at h
 ·rename_i t' u hx
  split at h
  ·rename_i hc hb;obtain rfl:=Nat.eq_of_beq_eq_true hb;have run:∀(v:Value) (W:World),(Instr.typeAssert (.iface t' v) xT t' ok).run P W=.ok (if ok then .tuple #[v,.bool true] else v) W:=fun v W=>by
    unfold Program.concrete at hc;cases hd:P.underlying t' with
    |none=>simp[hd] at hc
    |some d=>cases d<;>first|(simp[hd] at hc;done)|simp[Instr.typeAssert,run_underlying hd]
   split at h
   ·refine ⟨_,s,h,op_value fun W0 β a W hR hf=>?_⟩
    obtain ⟨v,e1,e2⟩:=(hf x (by simp[ho,Op.operands]) _ hx).ifc_inv
    have er:=run v W;exact ⟨.tuple ⟨[v,.bool true]⟩,by simp[execOp,ho,e2,er],by
     have hv:VRs β [u,.bool true] [v,.bool true]:=.cons e1 (.cons (.of_flat _ rfl) (.nil _));exact .tup _ _ hv.1 hv.2⟩
   ·refine ⟨_,s,h,op_value fun W0 β a W hR hf=>?_⟩
    obtain ⟨v,e1,e2⟩:=(hf x (by simp[ho,Op.operands]) _ hx).ifc_inv
    have er:=run v W;exact ⟨v,by simp[execOp,ho,e2,er],e1⟩
  ·exact absurd h D.nb
 ·exact absurd h D.nb
def nilsC (P:Program) (t:TypeId) (x y:Value):Option Bool :=
 match P.underlying t,x,y with
 |some (.pointer _),.pointer none,.pointer none=>some true
 |some (.pointer _),.pointer none,.pointer (some _)=>some false
 |some (.pointer _),.pointer (some _),.pointer none=>some false
 |some (.pointer _),.func (.yield _) ⟨[_]⟩ ⟨[.bool false]⟩,.pointer none=>some false
 |some (.pointer _),.pointer none,.func (.yield _) ⟨[_]⟩ ⟨[.bool false]⟩=>some false
 |some (.slice _),.slice none _ _,.slice none _ _=>some true
 |some (.slice _),.slice none _ _,.slice (some _) _ _=>some false
 |some (.slice _),.slice (some _) _ _,.slice none _ _=>some false
 |some (.slice _),.func (.yield 0) ⟨_::_⟩ ⟨[.bool true]⟩,.slice none _ _=>some false
 |some (.map _ _),.map none,.map none=>some true
 |some (.map _ _),.map none,.map (some _)=>some false
 |some (.map _ _),.map (some _),.map none=>some false
 |some (.func _ _ _),.nilFunc,.nilFunc=>some true
 |some (.func _ _ _),.nilFunc,.func (.func _) _ _=>some false
 |some (.func _ _ _),.func (.func _) _ _,.nilFunc=>some false
 |_,_,_=>none
set_option maxHeartbeats 2000000 in
theorem nilsC_sound {t:TypeId}{x y x' y':Value}{b:Bool}{β:Bt}(h:nilsC P t x y=some b) (hx:VR β x x') (hy:VR β y y') (W:World):(Op.equal t x' y').run P W=.ok b W∧∀u v,x'≠.agg u∨y'≠.agg v:=by
 unfold nilsC at h;split at h<;>cases h<;>rename_i hu<;>cases hx<;>cases hy <;>
  first|(exfalso;rename_i q1 q2;exact Bool.false_ne_true q1)|(exfalso;rename_i q1 q2;exact Bool.false_ne_true q2)|(refine ⟨?_,fun u v=>.inl (by simp)⟩;show (Op.equalIn (9999+1) t _ _).run P W=_;unfold Op.equalIn;simp[run_underlying hu])
end Go.Proofs.YtcihknonfcldeaaDoor.U
