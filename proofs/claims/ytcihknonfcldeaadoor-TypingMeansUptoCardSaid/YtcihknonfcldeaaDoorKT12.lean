import Derived.RangeFuncIn
import Derived.RangeFuncLeaves
import Derived.OrdersIn
import Derived.LoopNIn
import Derived.RangeFuncCalls
import Derived.RangeFuncNested
import Derived.Test.YtcihknonfcldeaaDoorKT11
namespace Go.Proofs.YtcihknonfcldeaaDoor.U
open Go Go.RowKit Go.Sort
set_option linter.unusedVariables false
set_option linter.unusedSimpArgs false
set_option maxRecDepth 100000
set_option maxHeartbeats 40000000
variable {R : Type} {D : Dom R} {P : Program} {cf : CallF R} {fr : Tr Value} {s : AS} {o : Oper} {N : Nat}
structure FrR (β:Bt) (N:Nat) (fr:Tr Value) (a:Act):Prop where
 size:a.tmps.size=N
 at_:∀(t:Nat) (u:Value),Tr.at (pt t) fr=some u->VR β u (a.tmps.getD t undef)
 lt:∀(t:Nat),Tr.at (pt t) fr≠none->t<N
theorem FrR.grow {B:Nat}{β β':Bt}{a:Act}(h:FrR β N fr a) (hs:BLe B β β'):FrR β' N fr a:=⟨h.size,fun t u hu=>(h.at_ t u hu).grow hs,h.lt⟩
theorem opR_of {β:Bt}{W0 W:World}{a:Act}(hR:Rel P W0 β s W) (h:∀t u,.tmp t∈o.op.operands.toList->Tr.at (pt t) fr=some u->VR β u (a.tmps.getD t undef)):OpR β s.glb fr a o:=by
 intro x hx u hu;cases x with
 |tmp t=>exact h t u (by simpa using hx) hu
 |const v =>
  simp only[evC] at hu;split at hu
  ·rename_i hf;cases hu;exact .of_flat _ hf
  ·cases hu
 |global g =>
  simp only[evC] at hu;split at hu
  ·rename_i hg;cases hu;exact .ptr _ _ _ _ (hR.glob g (of_decide_eq_true (by simpa [Nat.blt_eq] using hg)))
  ·cases hu
 |func f=>simp only[evC] at hu;cases hu;exact .flat _ rfl
theorem FrR.op {β:Bt}{W0 W:World}{a:Act}(h:FrR β N fr a) (hR:Rel P W0 β s W) (o:Oper):OpR β s.glb fr a o:=opR_of hR fun t u _ hu=>h.at_ t u hu
def putF (D:Dom R) (N:Nat) (d:Option Tmp) (u:Value) (fr:Tr Value) (k:Tr Value->R):R :=
 match d with
 |none=>k fr
 |some d=>ifB D (Nat.blt d N) (Tr.putK (pt d) (some u) fr k)
def setF (d:Option Tmp) (u:Value) (fr:Tr Value):Tr Value :=
 match d with
 |none=>fr
 |some d=>fr.set d (some u)
theorem putF_sound {d:Option Tmp}{u:Value}{k:Tr Value->R}(h:D.T (putF D N d u fr k)):(∀t,d=some t->t<N)∧D.T (k (setF d u fr)):=by
 cases d with
 |none=>exact ⟨fun t ht=>(by cases ht),h⟩
 |some d =>
  replace h:=ifB_sound h;obtain ⟨h1,h⟩:=h;rw[Tr.putK_eq] at h;refine ⟨fun t ht=>?_,h⟩
  cases ht;exact of_decide_eq_true (by simpa [Nat.blt_eq] using h1)
theorem setF_at {d:Option Tmp}{u:Value}{t:Nat}:Tr.at (pt t) (setF d u fr)=if d=some t then some u else Tr.at (pt t) fr:=by
 cases d with
 |none=>simp[setF]
 |some d =>
  have:=Tr.get_set fr d t (some u);by_cases he:t=d
  ·subst he;simpa [setF,Tr.get] using this
  ·rw[if_neg he] at this;rw[if_neg (fun e=>he (Option.some.inj e).symm)];exact this
theorem FrR.put {β:Bt}{a:Act}{d:Option Tmp}{u v:Value}(h:FrR β N fr a) (hd:∀t,d=some t->t<N) (hu:VR β u v):FrR β N (setF d u fr) (a.put d v):=by
 refine ⟨by rw[put_size];exact h.size,fun t w hw=>?_,fun t ht=>?_⟩
 ·rw[setF_at] at hw;split at hw
  ·rename_i he;cases hw;have:=put_self (a:=a) (v:=v) (s:=t) (by rw[h.size];exact hd t he)
   rw[he];simpa [this] using hu
  ·rename_i he;have:=put_other (a:=a) (x:=d) (v:=v) (s:=t) he;have e2:(a.put d v).tmps.getD t undef=a.tmps.getD t undef:=by simp[this]
   rw[e2];exact h.at_ t w hw
 ·rw[setF_at] at ht;split at ht
  ·rename_i he;exact hd t he
  ·exact h.lt t ht
def guardC (ops:List Oper) (o:Oper) (fr:Tr Value):Option Bool :=
 match o.guard with
 |none=>some true
 |some (j,want)=>match guardSlot ops j with
  |none=>some false
  |some d=>match Tr.at (pt d) fr with
   |some (.bool b)=>match b,want with
    |true,true=>some true
    |false,false=>some true
    |_,_=>some false
   |some (.tuple _)=>some false
   |_=>none
theorem guardC_sound {ops:List Oper}{wd:Bool}(h:guardC ops o fr=some wd) {β:Bt}{a:Act}(hS:∀t∈o.looksAt ops.toArray,∀u,Tr.at (pt t) fr=some u->VR β u (a.tmps.getD t undef)):Region.wanted o (yielded ops.toArray a.tmps)=wd:=by
 unfold guardC at h;split at h
 ·rename_i hg;cases h;simp[Region.wanted,hg]
 ·rename_i j want hg;split at h
  ·rename_i hd;cases h;have:yielded ops.toArray a.tmps j=none:=by
    unfold yielded;unfold guardSlot at hd;rw[nth_eq] at hd;split at hd
    ·rename_i oj hoj;simp[hoj,hd]
    ·rename_i hoj;simp[hoj]
   simp[Region.wanted,hg,this]
  ·rename_i d hd;have hslot:(ops.toArray[j]?).bind (·.dst)=some d:=by
    unfold guardSlot at hd;rw[nth_eq] at hd;split at hd
    ·rename_i oj hoj;simp[hoj,hd]
    ·cases hd
   have hlook:d∈o.looksAt ops.toArray:=by
    unfold Oper.looksAt;simp only[hg,hslot];exact List.mem_append_right _ (by simp)
   split at h
   ·rename_i b hb;have hv:=(hS d hlook _ hb).flat_eq rfl;have hs:a.tmps[d]?=some (.bool b):=by
     rcases Nat.lt_or_ge d a.tmps.size with hlt|hge
     ·simp[hlt] at hv ⊢;exact hv
     ·simp[Array.getElem?_eq_none hge,undef] at hv
    have:yielded ops.toArray a.tmps j=some b:=by
     unfold yielded;rw[hslot];simp only[Option.bind_some,hs]
    simp only[Region.wanted,hg,this];cases b<;>cases want<;>simp at h<;>subst h<;>rfl
   ·rename_i vs hb;cases h;cases vs with
    |mk l =>
    obtain ⟨l',_,hv⟩:=(hS d hlook _ hb).tup_inv;have:yielded ops.toArray a.tmps j=none:=by
     unfold yielded;rw[hslot];simp only[Option.bind_some];rcases Nat.lt_or_ge d a.tmps.size with hlt|hge
     ·simp[hlt] at hv ⊢;rw[hv]
     ·simp[Array.getElem?_eq_none hge]
    simp[Region.wanted,hg,this]
   ·cases h
def litC (D:Dom R) (d:Nat) (fr:Tr Value) (k:Tr Value->R):R :=
 match Tr.at (pt d) fr with
 |some (.bool b)=>D.lt b fun b=>Tr.putK (pt d) (some (.bool b)) fr k
 |_=>k fr
theorem litC_sound {d:Nat}{k:Tr Value->R}(h:D.T (litC D d fr k)):∃fr',(∀t,Tr.at (pt t) fr'=Tr.at (pt t) fr)∧D.T (k fr'):=by
 unfold litC at h;split at h
 ·rename_i b hb;have key:∀c:Bool,b=c->D.T (k (fr.set d (some (.bool c))))->∃fr',(∀t,Tr.at (pt t) fr'=Tr.at (pt t) fr)∧D.T (k fr'):=fun c hc h=>by
   refine ⟨_,fun t=>?_,h⟩
   have:=Tr.get_set fr d t (some (.bool c));rw[show Tr.at (pt t) (fr.set d (some (.bool c)))=(fr.set d (some (.bool c))).get t from rfl,this];split
   ·rename_i e;subst e;rw[hb,hc]
   ·rfl
  replace h:=D.lt_ok _ _ h;rw[Tr.putK_eq] at h;exact key b rfl h
 ·exact ⟨fr,fun _=>rfl,h⟩
def litG (D:Dom R) (ops:List Oper) (o:Oper) (fr:Tr Value) (k:Tr Value->R):R :=
 match o.guard with
 |none=>k fr
 |some (j,_)=>match guardSlot ops j with
  |none=>k fr
  |some d=>litC D d fr k
theorem litG_sound {ops:List Oper}{k:Tr Value->R}(h:D.T (litG D ops o fr k)):∃fr',(∀t,Tr.at (pt t) fr'=Tr.at (pt t) fr)∧D.T (k fr'):=by
 unfold litG at h;split at h
 ·exact ⟨fr,fun _=>rfl,h⟩
 ·split at h
  ·exact ⟨fr,fun _=>rfl,h⟩
  ·exact litC_sound h
theorem FrR.ext {β:Bt}{fr':Tr Value}{a:Act}(h:FrR β N fr a) (e:∀t,Tr.at (pt t) fr'=Tr.at (pt t) fr):FrR β N fr' a:=⟨h.size,fun t u hu=>h.at_ t u (by rw[← e];exact hu),fun t ht=>h.lt t (by rw[← e];exact ht)⟩
def guardK {R:Type}(g:Option Bool) (run:(Value->AS->R)->R) (s:AS) (bad:R) (k:Value->AS->R):R :=
 match g with
 |some true=>run k
 |some false=>k undef s
 |none=>bad
def opsC (D:Dom R) (P:Program) (cf:CallF R) (N:Nat) (ops:List Oper):List Oper->Tr Value->AS->(Tr Value->AS->R)->R
 |[],fr,s,k=>k fr s
 |o::l,fr,s,k=>litG D ops o fr fun fr=>guardK (guardC ops o fr) (opC D P cf o fr s) s D.bad fun u s=>putF D N o.dst u fr fun fr=>opsC D P cf N ops l fr s k
def After (P:Program) (W0:World) (N:Nat) (β:Bt) (s s':AS) (fr':Tr Value) (a:Act) (W:World) (a':Act) (W':World):Prop:=∃β',Ext W0.heap.size β β' s.next s'.next∧Rel P W0 β' s' W'∧FrR β' N fr' a'∧KD W W'∧a'.defers=a.defers
def WF (F:Fence):Prop:=F=Fence.wide∨∃l,F=Fence.wide.inRound l
theorem WF.fn {F:Fence}(h:WF F) (f:FuncId):F.fn f:=by rcases h with rfl|⟨l,rfl⟩<;>trivial
theorem WF.dep {F:Fence}(h:WF F) {q:Prop}:F.depth.isSome=true->q:=by rcases h with rfl|⟨l,rfl⟩<;>(intro h;cases h)
theorem WF.calls {F:Fence}(h:WF F) {n:Nat}{f:FuncId}{args:Array Value}{w:World}{Q:Ending->World->Prop}(hc:Calls P f args w Q):CallsIn F n P f args w Q:=by
 rcases h with rfl|⟨l,rfl⟩
 ·exact callsIn_wide.2 hc
 ·exact CallsIn.inRound l (callsIn_wide.2 hc)
theorem WF.round {F:Fence}(h:WF F) {n l:Nat}{f:FuncId}{tmps:Array Value}{x y:Code}{w:World}{Q:Ending->World->Prop}(hc:RoundIn Fence.wide 0 P l f tmps x y w Q):RoundIn F n P l f tmps x y w Q:=by
 rcases h with rfl|⟨l,rfl⟩
 ·exact ⟨trivial,fun c cs _=>hc.2 c cs (room_wide _)⟩
 ·exact ⟨trivial,fun c cs _=>hc.2 c cs (room_wide _)⟩
theorem does_plain {W0:World}{β:Bt}{n n':Nat}{s':AS}{u:Value}{a:Act}{W:World}(h:DoesG P W0 β n n' s' u W ((execOp a.eval o).run P W)):∀c,o.op≠.defer c:=fun c ho=>by
 simp only[execOp,ho,Sem.run_bind] at h;generalize (resolve a.eval c o.type).run P W=r at h
 cases r with
 |ok d w=>exact h
 |halt x w=>exact h
theorem does_stepC {F:Fence}{n n0 n1:Nat}(hF:WF F) {W0:World}{β:Bt}{s':AS}{u:Value}{a:Act}{W:World}{next:Act->World->Prop}{Q:Exit->Act->World->Prop}(h:DoesG P W0 β n0 n1 s' u W ((execOp a.eval o).run P W)) (hn:∀v W',LaysG P W0 β W n0 n1 s' u v W'->next (a.put o.dst v) W'):o.wpIn F n P a W next Q:=by
 refine ⟨fun f _=>hF.fn f,?_⟩
 rw[Oper.semAt_eq _ _ _ (does_plain h)];generalize (execOp a.eval o).run P W=r at *
 cases r with
 |ok x w' =>
  cases x<;>simp only[DoesG] at h<;>simp only[Oper.uponIn]
  case value v=>exact hn _ _ h
  case skip=>exact hn _ _ h
  case enter f args =>
   obtain ⟨rfl,hc⟩:=h;exact ⟨hF.dep,hF.calls (hc.mono fun e w'' ⟨v,he,hw''⟩=>by subst he;exact hn _ _ hw'')⟩
  case round =>
   obtain ⟨rfl,hc⟩:=h;exact ⟨hF.dep,hF.round (hc.mono fun e w'' ⟨v,he,hw''⟩=>by subst he;exact hn _ _ hw'')⟩
 |halt x w'=>simp only[DoesG] at h
theorem LaysG.named {W0:World}{β:Bt}{n n' m m':Nat}{s':AS}{u v:Value}{W W':World}(h:LaysG P W0 β W n n' s' u v W') (hn:∀β',Ext W0.heap.size β β' n n'->Ext W0.heap.size β β' m m'):LaysG P W0 β W m m' s' u v W' :=
 let ⟨β',h1,h2⟩:=h
 ⟨β',hn β' h1,h2⟩
theorem DoesG.named {W0:World}{β:Bt}{n n' m m':Nat}{s':AS}{u:Value}{W:World}{r:Result Next}(h:DoesG P W0 β n n' s' u W r) (hn:∀β',Ext W0.heap.size β β' n n'->Ext W0.heap.size β β' m m'):DoesG P W0 β m m' s' u W r:=by
 cases r with
 |ok x w' =>
  cases x<;>simp only[DoesG] at h ⊢
  case value v=>exact h.named hn
  case skip=>exact h.named hn
  case enter f args=>exact ⟨h.1,h.2.mono fun e w'' ⟨v,he,hw''⟩=>⟨v,he,hw''.named hn⟩⟩
  case round=>exact ⟨h.1,h.2.mono fun e w'' ⟨v,he,hw''⟩=>⟨v,he,hw''.named hn⟩⟩
 |halt x w'=>simp only[DoesG] at h
theorem VR.undef (β:Bt):VR β undef undef:=.of_flat _ rfl
theorem opsC_sound (hc:CallOk P D cf) {ops:List Oper}:∀(l:List Oper) (fr:Tr Value) (s:AS) (k:Tr Value->AS->R),s.lo≤s.next->D.T (opsC D P cf N ops l fr s k)->∃fr' s',D.T (k fr' s')∧Stp s s' ∧
  ∀(F:Fence) (n:Nat) (W0:World) (β:Bt) (a:Act) (W:World) (Q:Exit->Act->World->Prop),WF F->Rel P W0 β s W->Free β s.next s'.next->FrR β N fr a->(∀a' W',After P W0 N β s s' fr' a W a' W'->Q .normal a' W')->wpListIn F n P ops.toArray Q l a W
 |[],fr,s,k,hl,h=>⟨fr,s,h,.refl _,fun F n W0 β a W Q hW hR hf hF hn=>hn _ _ ⟨β,.refl _ _,hR,hF,.refl _,rfl⟩⟩
 |o::l,fr,s,k,hl,h=>by
  unfold opsC at h;replace h:=litG_sound h;obtain ⟨frx,hfrx,h⟩:=h;unfold guardK at h;split at h
  ·rename_i hg;obtain ⟨u,s1,h1,hst,hop⟩:=opC_sound hc hl h;replace h1:=putF_sound h1;obtain ⟨hd,h1⟩:=h1;obtain ⟨fr',s',h2,hst2,hrun⟩:=opsC_sound hc l _ s1 k (by rw[hst.lo];exact Nat.le_trans hl hst.next) h1
   refine ⟨fr',s',h2,hst.trans hst2,fun F n W0 β a W Q hW hR hf hF0 hn=>?_⟩
   have hF:=hF0.ext hfrx;unfold wpListIn;rw[if_pos (guardC_sound hg fun t _ u hu=>hF.at_ t u hu)];refine does_stepC hW (hop W0 β a W hR (hf.sub hst2.next) (hF.op hR o)) fun v W' ⟨β',q1,q2,q3,q4⟩=>?_
   refine hrun F n W0 β' _ W' Q hW q2 (hf.ext q1 hst.next) ((hF.grow q1.le).put hd q3) fun a' W'' ⟨β2,p1,p2,p3,p4,p5⟩=>hn _ _ ⟨β2,q1.trans p1 hst.next hst2.next,p2,p3,q4.trans p4,p5.trans (by cases o.dst<;>rfl)⟩
  ·rename_i hg;replace h:=putF_sound h;obtain ⟨hd,h⟩:=h;obtain ⟨fr',s',h2,hst2,hrun⟩:=opsC_sound hc l _ s k hl h;refine ⟨fr',s',h2,hst2,fun F n W0 β a W Q hW hR hf hF0 hn=>?_⟩
   have hF:=hF0.ext hfrx;unfold wpListIn;rw[if_neg (by rw[guardC_sound hg fun t _ u hu=>hF.at_ t u hu];simp)]
   refine ⟨fun f _=>hW.fn f,hrun F n W0 β _ W Q hW hR hf (hF.put hd (.undef _)) fun a' W'' ⟨β2,p1,p2,p3,p4,p5⟩=>hn _ _ ⟨β2,p1,p2,p3,p4,p5.trans (by cases o.dst<;>rfl)⟩⟩
  ·exact absurd h D.nb
def raiseS (s:AS):AS:=⟨s.heap,s.next,s.next,s.glb⟩
def lowerS (lo:Nat) (s:AS):AS:=⟨s.heap,s.next,lo,s.glb⟩
def liftC {R:Type}(s:AS) (k:Nat->AS->R):R :=
 match s with
 |⟨h,n,lo,g⟩=>k lo ⟨h,n,n,g⟩
theorem liftC_eq {R:Type}(s:AS) (k:Nat->AS->R):liftC s k=k s.lo (raiseS s):=by cases s;rfl
def dropC {R:Type}(lo:Nat) (s:AS) (k:AS->R):R :=
 match s with
 |⟨h,n,_,g⟩=>k ⟨h,n,lo,g⟩
theorem dropC_eq {R:Type}(lo:Nat) (s:AS) (k:AS->R):dropC lo s k=k (lowerS lo s):=by cases s;rfl
structure Mut where
 b:Nat
 old:Blk
 new:Option Blk
def mutC (D:Dom R) (P:Program) (fr:Tr Value) (gl b:Nat) (blk:Blk) (t:TypeId) (x y:Operand) (k:Blk->R):R :=
 match evC gl fr x with
 |some (.pointer (some ⟨b',off,none⟩))=>match Nat.beq b' b with
  |true=>storeOpC D P fr ⟨Tr.set .e b (some blk),0,0,gl⟩ t x y fun _ s1=>match lookC s1 b with
   |some blk'=>k blk'
   |none=>D.bad
  |false=>D.bad
 |_=>D.bad
def propD:Dom Prop:=⟨False,fun p=>p,by simp,fun v k=>k v,fun _ _=>rfl,fun n k=>k n,fun _ _=>rfl,fun b x y=>(b=true->x)∧(b=false->y),fun b x y h=>(by cases b;exact .inr ⟨rfl,h.2 rfl⟩;exact .inl ⟨rfl,h.1 rfl⟩),fun b x=>b=true∧x,fun b x h=>h,fun l n k=>∃x,nth l n=some x∧k x,fun l n k h=>h,fun b k=>∃w,b=w∧k w,fun b k ⟨w,e,h⟩=>by rw[e];exact h⟩
theorem storeC_eq {D:Dom R}:∀(n:Nat) (vs l:List Value) (k:List Value->R),n+vs.length≤l.length->storeC D l n vs k=k (l.take n++vs++l.drop (n+vs.length))
 |0,[],l,k,h=>by cases l<;>simp[storeC]
 |0,v::vs,[],k,h=>by simp at h
 |0,v::vs,x::l,k,h=>by
  show storeC D l 0 vs (fun l=>k (v::l))=_
  rw[storeC_eq 0 vs l _ (by simpa using h)];simp
 |n+1,vs,[],k,h=>by simp at h
 |n+1,vs,x::l,k,h=>by
  show storeC D l n vs (fun l=>k (x::l))=_
  rw[storeC_eq n vs l _ (by simp at h;omega)];have e:n+1+vs.length=(n+vs.length)+1:=by omega
  rw[e];simp
theorem mutC_name {t:TypeId}{x y:Operand}{b gl:Nat}{blk:Blk}{k:Blk->R}(h:D.T (mutC D P fr gl b blk t x y k)):∃off,evC gl fr x=some (.pointer (some ⟨b,off,none⟩)):=by
 unfold mutC at h;split at h
 ·rename_i b' off hx
  split at h
  ·rename_i hb;obtain rfl:=Nat.eq_of_beq_eq_true hb;exact ⟨off,hx⟩
  ·exact absurd h D.nb
 ·exact absurd h D.nb
theorem mutC_sound {t:TypeId}{x y:Operand}{b gl:Nat}{blk:Blk}{k:Blk->R}(ho:o.op=.store t x y) (h:D.T (mutC D P fr gl b blk t x y k)):∃blk',D.T (k blk')∧isLoop (some blk)=false∧∀sF:AS,sF.heap.get b=some blk->sF.lo≤b->sF.glb=gl->OpOk P fr o sF undef ⟨sF.heap.set b (some blk'),sF.next,sF.lo,sF.glb⟩:=by
 unfold mutC at h;split at h
 ·rename_i b' off hx
  split at h
  ·rename_i hb;obtain rfl:=Nat.eq_of_beq_eq_true hb;unfold storeOpC at h;simp only[hx] at h;split at h
   ·rename_i b1 off1 u i e1 hy hi;cases e1;replace h:=ifB_sound h;obtain ⟨hob,h⟩:=h;split at h
    ·rename_i T xs op hl;have hl':(Tr.set .e b' (some blk):Tr Blk).get b'=some (.cells T xs op):=hl;rw[Tr.get_set,if_pos rfl] at hl'
     cases hl';obtain ⟨hle,h⟩:=storeC_sound _ _ _ _ h;rw[turnC_eq] at h;split at h
     ·rename_i blk' hb'
      have hb2:((Tr.set .e b' (some (.cells T xs op)):Tr Blk).set b' (some (.cells T (xs.take off++cellsOf u++xs.drop (off+(cellsOf u).length)) op))).get b'=some blk':=hb';rw[Tr.get_set,if_pos rfl] at hb2
      cases hb2;refine ⟨_,h,rfl,fun sF h1 h2 h3=>?_⟩
      have hT:propD.T (storeOpC propD P fr sF t x y fun z1 z2=>z1=undef∧z2=⟨sF.heap.set b' (some (.cells T (xs.take off++cellsOf u++xs.drop (off+(cellsOf u).length)) op)),sF.next,sF.lo,sF.glb⟩):=by
       subst h3;simp only[Bool.and_eq_true] at hob;unfold storeOpC;simp only[hx,hy,hi];have hc:(Nat.ble sF.lo b'&&Nat.beq (cellsOf u).length i.size&&(cellsOf u).all Value.oneCell')=true:=by
        simp only[Bool.and_eq_true];exact ⟨⟨bLe h2,hob.1.2⟩,hob.2⟩
       have hlk:lookC sF b'=some (.cells T xs op):=h1;rw[hc];refine ⟨rfl,?_⟩;simp only[hlk];rw[storeC_eq _ _ _ _ hle,turnC_eq];exact ⟨trivial,rfl⟩
      obtain ⟨u',s1,⟨rfl,rfl⟩,hop⟩:=storeOpC_sound (D:=propD) ho hT;exact hop
     ·exact absurd h D.nb
    ·exact absurd h D.nb
   ·exact absurd h D.nb
  ·exact absurd h D.nb
 ·exact absurd h D.nb
def valB1:Value->Value->Bool
 |.int a x,.int b y=>decide (a=b)&&decide (x=y)
 |.string a,.string b=>a==b
 |.bool a,.bool b=>a==b
 |_,_=>false
theorem valB1_eq {u v:Value}(h:valB1 u v=true):u=v:=by
 unfold valB1 at h;split at h
 ·simp only[Bool.and_eq_true,decide_eq_true_eq] at h;rw[h.1,h.2]
 ·rw[(Go.MapKept.bytes_beq _ _).1 h]
 ·rw[beq_iff_eq.1 h]
 ·cases h
def valsB:List Value->List Value->Bool
 |[],[]=>true
 |u::l,v::m=>valB1 u v&&valsB l m
 |_,_=>false
theorem valsB_eq:∀{l m:List Value},valsB l m=true->l=m
 |[],[],_=>rfl
 |u::l,v::m,h=>by
  simp only[valsB,Bool.and_eq_true] at h;rw[valB1_eq h.1,valsB_eq h.2]
 |[],_::_,h=>by cases h
 |_::_,[],h=>by cases h
def valB (u v:Value):Bool :=
 match u,v with
 |.agg ⟨l⟩,.agg ⟨m⟩=>valsB l m
 |u,v=>valB1 u v
theorem valB_eq {u v:Value}(h:valB u v=true):u=v:=by
 unfold valB at h;split at h
 ·rw[valsB_eq h]
 ·exact valB1_eq h
def entsB:List (Value×Value)->List (Value×Value)->Bool
 |[],[]=>true
 |(a,b)::l,(c,d)::m=>valB a c&&valB b d&&entsB l m
 |_,_=>false
theorem entsB_eq:∀{l m:List (Value×Value)},entsB l m=true->l=m
 |[],[],_=>rfl
 |(a,b)::l,(c,d)::m,h=>by
  simp only[entsB,Bool.and_eq_true] at h;rw[valB_eq h.1.1,valB_eq h.1.2,entsB_eq h.2]
 |[],_::_,h=>by cases h
 |_::_,[],h=>by cases h
def blkB:Blk->Blk->Bool
 |.map es bs cl,.map es' bs' cl'=>entsB es es'&&(decide (bs=bs')&&Nat.beq cl cl')
 |_,_=>false
theorem blkB_eq {a b:Blk}(h:blkB a b=true):a=b:=by
 unfold blkB at h;split at h
 ·simp only[Bool.and_eq_true,decide_eq_true_eq] at h;rw[entsB_eq h.1,h.2.1,Nat.eq_of_beq_eq_true h.2.2]
 ·cases h
theorem lookupC_same {s':AS}{t:TypeId}{x i:Operand}{ok:Bool}{k:Value->AS->R}(hg:s'.glb=s.glb) (hl:∀b,evC s.glb fr x=some (.map (some b))->lookC s' b=lookC s b) (h:D.T (lookupC D P fr s t x i ok k)):∃u,D.T (k u s)∧propD.T (lookupC propD P fr s' t x i ok fun u' s''=>u'=u∧s''=s'):=by
 unfold lookupC at h ⊢
 rw[hg];split at h
 ·rename_i m y kt e hx hi ht;obtain ⟨d,hd,h⟩:=onV_sound h;obtain ⟨inf,hinf,h⟩:=onV_sound h;obtain ⟨z,hz,h⟩:=onV_sound h;replace h:=ifB_sound h;obtain ⟨hb,h⟩:=h;obtain ⟨es,hes,h⟩:=onV_sound h;obtain ⟨r,hr,h⟩:=onV_sound h
  cases m with
  |none =>
   cases hes;simp only[hx,hi,ht,hd,hinf,hz,hb,onV,ifB,hr];cases r with
   |none=>cases ok<;>exact ⟨_,h,by refine ⟨by first|trivial|rfl,?_⟩;exact ⟨rfl,trivial⟩⟩
   |some p=>cases ok<;>exact ⟨_,h,by refine ⟨by first|trivial|rfl,?_⟩;exact ⟨rfl,trivial⟩⟩
  |some b =>
   dsimp only at hes;split at hes
   ·rename_i es0 bs0 cl0 hlk;cases hes;have hlk':=(hl b hx).trans hlk;simp only[hx,hi,ht,hd,hinf,hz,hb,onV,ifB,hlk',hr];cases r with
    |none=>cases ok<;>exact ⟨_,h,by refine ⟨by first|trivial|rfl,?_⟩;exact ⟨rfl,trivial⟩⟩
    |some p=>cases ok<;>exact ⟨_,h,by refine ⟨by first|trivial|rfl,?_⟩;exact ⟨rfl,trivial⟩⟩
   ·cases hes
 ·rename_i ps y kt e hx hi ht;obtain ⟨d,hd,h⟩:=onV_sound h;obtain ⟨inf,hinf,h⟩:=onV_sound h;obtain ⟨z,hz,h⟩:=onV_sound h;replace h:=ifB_sound h;obtain ⟨hb,h⟩:=h;obtain ⟨es,hes,h⟩:=onV_sound h;obtain ⟨r,hr,h⟩:=onV_sound h
  simp only[hx,hi,ht,hd,hinf,hz,hb,hes,onV,ifB,hr];cases r with
  |none=>cases ok<;>exact ⟨_,h,by refine ⟨by first|trivial|rfl,?_⟩;exact ⟨rfl,trivial⟩⟩
  |some p=>cases ok<;>exact ⟨_,h,by refine ⟨by first|trivial|rfl,?_⟩;exact ⟨rfl,trivial⟩⟩
 ·exact absurd h D.nb
def rdC (D:Dom R) (P:Program) (fr:Tr Value) (gl b:Nat) (blk:Blk) (t:TypeId) (x i:Operand) (k:Value->Blk->R):R :=
 match evC gl fr x with
 |some (.map (some b'))=>ifB D (Nat.beq b' b) (lookupC D P fr ⟨Tr.set .e b (some blk),0,0,gl⟩ t x i false fun u _=>entryX D P fr gl blk t i fun _ blk'=>lookupC D P fr ⟨Tr.set .e b (some blk'),0,0,gl⟩ t x i false fun u' _=>ifB D (valB u' u) (k u blk'))
 |_=>D.bad
theorem entryX_blk {t:TypeId}{x:Operand}{gl:Nat}{blk:Blk}{k:Value->Blk->R}(h:D.T (entryX D P fr gl blk t x k)):∃u blk',D.T (k u blk'):=by
 unfold entryX at h;split at h
 ·obtain ⟨d,hd,h⟩:=onV_sound h;obtain ⟨inf,hinf,h⟩:=onV_sound h;obtain ⟨zv,hz,h⟩:=onV_sound h;replace h:=ifB_sound h;obtain ⟨hb,h⟩:=h;obtain ⟨r,hr,h⟩:=onV_sound h;split at h
  ·rw[natC_eq,D.frc_eq] at h;exact ⟨_,_,h⟩
  ·obtain ⟨bj,hbj,h⟩:=onV_sound h;rw[D.frc_eq] at h;exact ⟨_,_,h⟩
 ·exact absurd h D.nb
theorem rdC_sound {t:TypeId}{x i:Operand}{b gl:Nat}{blk:Blk}{k:Value->Blk->R}(ho:o.op=.lookup t x i false) (h:D.T (rdC D P fr gl b blk t x i k)):∃u blk',D.T (k u blk')∧∀sF:AS,(sF.heap.get b=some blk∨sF.heap.get b=some blk')->sF.glb=gl->OpOk P fr o sF u sF:=by
 unfold rdC at h;split at h
 ·rename_i b' hx
  replace h:=ifB_sound h;obtain ⟨hb,h⟩:=h;obtain rfl:=Nat.eq_of_beq_eq_true hb;have key:∀{k:Value->AS->R}{B:Blk}(sF:AS),sF.heap.get b'=some B->sF.glb=gl->D.T (lookupC D P fr ⟨Tr.set .e b' (some B),0,0,gl⟩ t x i false k)->∃u,D.T (k u ⟨Tr.set .e b' (some B),0,0,gl⟩)∧OpOk P fr o sF u sF:=fun {k B} sF h1 h2 h=>by
   obtain ⟨u,hu,hp⟩:=lookupC_same (s':=sF) h2 (fun c hc=>by
    have:evC gl fr x=some (.map (some c)):=hc;rw[hx] at this;cases this;have e:(Tr.set .e b' (some B):Tr Blk).get b'=some B:=by rw[Tr.get_set,if_pos rfl]
    exact h1.trans e.symm) h
   obtain ⟨u',s'',⟨rfl,rfl⟩,hop⟩:=lookupC_sound (D:=propD) ho hp;exact ⟨_,hu,hop⟩
  obtain ⟨u,h1,hp1⟩:=lookupC_same (s':=⟨Tr.set .e b' (some blk),0,0,gl⟩) rfl (fun _ _=>rfl) h
  obtain ⟨_,blk',h2⟩:=entryX_blk h1;obtain ⟨u',h3,hp2⟩:=lookupC_same (s':=⟨Tr.set .e b' (some blk'),0,0,gl⟩) rfl (fun _ _=>rfl) h2
  replace h3:=ifB_sound h3;obtain ⟨hv,h3⟩:=h3;obtain rfl:=valB_eq hv;have conv:∀(B:Blk) (sF:AS),sF.heap.get b'=some B->sF.glb=gl->propD.T (lookupC propD P fr ⟨Tr.set .e b' (some B),0,0,gl⟩ t x i false fun u'' s''=>u''=u'∧s''=⟨Tr.set .e b' (some B),0,0,gl⟩)->OpOk P fr o sF u' sF:=fun B sF hB hgl hp=>by
   obtain ⟨u2,⟨rfl,_⟩,hp3⟩:=lookupC_same (D:=propD) (s':=sF) hgl (fun c hc=>by
    have:evC gl fr x=some (.map (some c)):=hc;rw[hx] at this;cases this;have e:(Tr.set .e b' (some B):Tr Blk).get b'=some B:=by rw[Tr.get_set,if_pos rfl]
    exact hB.trans e.symm) hp
   obtain ⟨u',s'',⟨rfl,rfl⟩,hop⟩:=lookupC_sound (D:=propD) ho hp3;exact hop
  refine ⟨u',blk',h3,fun sF hor hgl=>?_⟩
  rcases hor with hB|hB
  ·exact conv _ sF hB hgl hp1
  ·exact conv _ sF hB hgl hp2
 ·exact absurd h D.nb
def meetsC (b:Nat):Option Value->Bool
 |some (.slice (some ⟨b',_,none⟩) _ _)=>Nat.beq b' b
 |_=>false
def meetsM (b:Nat):Option Value->Bool
 |some (.map (some b'))=>Nat.beq b' b
 |_=>false
theorem meetsM_is {b:Nat}{v:Option Value}(h:meetsM b v=true):v=some (.map (some b)):=by
 unfold meetsM at h;split at h
 ·rw[Nat.eq_of_beq_eq_true h]
 ·cases h
inductive HK where
 |st (t:TypeId) (x y:Operand)
 |ap (t:TypeId) (x y:Operand)
 |me (t:TypeId) (x:Operand)
 |rd (t:TypeId) (x y:Operand)
 |no
def kindH (o:Oper) (fr:Tr Value) (gl b:Nat):HK :=
 match o.op with
 |.store t x y=>.st t x y
 |.call c=>match appArgs c with
  |some (t,x,y)=>match meetsC b (evC gl fr x) with
   |true=>.ap t x y
   |false=>.no
  |none=>.no
 |.mapEntry t m x=>match meetsM b (evC gl fr m) with
  |true=>.me t x
  |false=>.no
 |.lookup t x y false=>match meetsM b (evC gl fr x) with
  |true=>.rd t x y
  |false=>.no
 |_=>.no
theorem kindH_st {gl b:Nat}{t:TypeId}{x y:Operand}(h:kindH o fr gl b=.st t x y):o.op=.store t x y:=by
 unfold kindH at h;split at h
 ·rename_i e;cases h;exact e
 ·split at h
  ·split at h<;>cases h
  ·cases h
 ·split at h<;>cases h
 ·split at h<;>cases h
 ·cases h
theorem kindH_ap {gl b:Nat}{t:TypeId}{x y:Operand}(h:kindH o fr gl b=.ap t x y):∃c,o.op=.call c∧appArgs c=some (t,x,y):=by
 unfold kindH at h;split at h
 ·cases h
 ·rename_i e;split at h
  ·rename_i ha;split at h
   ·cases h;exact ⟨_,e,ha⟩
   ·cases h
  ·cases h
 ·split at h<;>cases h
 ·split at h<;>cases h
 ·cases h
theorem kindH_apN {gl b:Nat}{t:TypeId}{x y:Operand}(h:kindH o fr gl b=.ap t x y):∃off n c,evC gl fr x=some (.slice (some ⟨b,off,none⟩) n c):=by
 unfold kindH at h;split at h
 ·cases h
 ·split at h
  ·split at h
   ·rename_i hm;cases h;unfold meetsC at hm;split at hm
    ·rename_i hx;rw[← Nat.eq_of_beq_eq_true hm];exact ⟨_,_,_,hx⟩
    ·cases hm
   ·cases h
  ·cases h
 ·split at h<;>cases h
 ·split at h<;>cases h
 ·cases h
theorem kindH_me {gl b:Nat}{t:TypeId}{x:Operand}(h:kindH o fr gl b=.me t x):∃m,o.op=.mapEntry t m x∧evC gl fr m=some (.map (some b)):=by
 unfold kindH at h;split at h
 ·cases h
 ·split at h
  ·split at h<;>cases h
  ·cases h
 ·rename_i e;split at h
  ·rename_i hm;cases h;exact ⟨_,e,meetsM_is hm⟩
  ·cases h
 ·split at h<;>cases h
 ·cases h
theorem kindH_rd {gl b:Nat}{t:TypeId}{x y:Operand}(h:kindH o fr gl b=.rd t x y):o.op=.lookup t x y false:=by
 unfold kindH at h;split at h
 ·cases h
 ·split at h
  ·split at h<;>cases h
  ·cases h
 ·split at h<;>cases h
 ·rename_i e;split at h
  ·cases h;exact e
  ·cases h
 ·cases h
abbrev MutL:=List (Nat×Blk×Option Blk)
def exB (ex:Option Blk) (b:Blk):Bool :=
 match ex with
 |none=>true
 |some e=>blkB e b
theorem exB_is {ex:Option Blk}{b:Blk}(h:exB ex b=true):∀e,ex=some e->e=b:=fun e he=>by
 subst he;exact blkB_eq h
def isNone' (ex:Option Blk):Bool :=
 match ex with
 |none=>true
 |some _=>false
def pureNow (o:Oper) (fr:Tr Value) (gl:Nat):Bool :=
 match o.op with
 |.move _=>true
 |.binOp op _ x y _=>match evC gl fr x,evC gl fr y with
  |some (.int k m),some (.int k' n)=>!(decide (op=.eql) || decide (op=.neq))&&(isShift op || decide (k=k'))&&(intO op k m n).isSome
  |_,_=>false
 |_=>false
theorem evC_int {gl:Nat}{x:Operand}{k:IntKind}{m:Int}(h:evC gl fr x=some (.int k m)) {β:Bt}{a:Act}(hS:∀t,x=.tmp t->∀u,Tr.at (pt t) fr=some u->VR β u (a.tmps.getD t undef)):a.eval x=.int k m:=by
 cases x with
 |tmp t=>exact (hS t rfl _ h).flat_eq rfl
 |const v =>
  simp only[evC] at h;split at h
  ·cases h;rfl
  ·cases h
 |global g =>
  simp only[evC] at h;split at h<;>cases h
 |func f=>simp only[evC] at h;cases h
theorem pureNow_ok {gl:Nat}(h:pureNow o fr gl=true) {β:Bt}{a:Act}(hS:∀t,.tmp t∈o.op.operands.toList->∀u,Tr.at (pt t) fr=some u->VR β u (a.tmps.getD t undef)):∃v,(∀w,(execOp a.eval o).run P w=.ok (.value v) w)∧∀w,o.about P w a.eval=none:=by
 unfold pureNow at h;split at h
 ·rename_i x ho;exact ⟨a.eval x,fun w=>by simp[execOp,ho],fun w=>by unfold Oper.about;rw[ho]⟩
 ·rename_i op t x y yt ho;split at h
  ·rename_i k m k' n hx hy
   simp only[Bool.and_eq_true,Option.isSome_iff_exists,Bool.not_eq_true',Bool.or_eq_false_iff,decide_eq_false_iff_not] at h;obtain ⟨⟨⟨hne1,hne2⟩,hk⟩,v,hv⟩:=h;have ex:=evC_int hx (β:=β) (a:=a) fun t' e u hu=>hS t' (by simp[ho,Op.operands,e]) u hu
   have ey:=evC_int hy (β:=β) (a:=a) fun t' e u hu=>hS t' (by simp[ho,Op.operands,e]) u hu
   refine ⟨v,fun w=>?_,fun w=>by unfold Oper.about;rw[ho]⟩
   have hr:=intO_sound P hk hv w t;have hg:(eqGuard op t x y (.int k m) (.int k' n)).run P w=.ok () w:=by
    unfold eqGuard;cases op<;>first|exact absurd rfl hne1|exact absurd rfl hne2|rfl
   simp[execOp,ho,ex,ey,hr,hg]
  ·cases h
 ·cases h
def earlyNow (er:List Nat) (i:Nat) (o:Oper) (fr:Tr Value) (gl:Nat):Bool :=
 match er.any (Nat.beq i) with
 |true=>pureNow o fr gl
 |false=>true
def agedB (M:MutL) (n n':Nat):Bool:=M.all fun x=>Nat.blt x.1 n || Nat.ble n' x.1
def setM (n:Nat) (blk:Blk):MutL->MutL
 |[]=>[]
 |x::M=>match Nat.beq x.1 n with
  |true=>(x.1,blk,x.2.2)::setM n blk M
  |false=>x::setM n blk M
def bornC (D:Dom R) (M:MutL) (n:Nat) (s:AS) (k:MutL->AS->R):R :=
 match agedB M n s.next with
 |true=>k M s
 |false=>ifB D (Nat.beq s.next (n+1)) (match lookC s n with
  |some blk=>turnC s n none fun s=>k (setM n blk M) s
  |none=>D.bad)
theorem agedB_is {M:MutL}{n n':Nat}(h:agedB M n n'=true):∀x∈M,x.1<n∨n'≤x.1:=fun x hx=>by
 have:=List.all_eq_true.1 h x hx;simp only[Bool.or_eq_true] at this;exact this.imp (fun h=>bR h) bR
theorem bornC_sound {D:Dom R}{M:MutL}{n:Nat}{s:AS}{k:MutL->AS->R}(h:D.T (bornC D M n s k)):(D.T (k M s)∧∀x∈M,x.1<n∨s.next≤x.1)∨∃blk,(∃x∈M,x.1=n)∧s.next=n+1∧s.heap.get n=some blk∧D.T (k (setM n blk M) ⟨s.heap.set n none,s.next,s.lo,s.glb⟩):=by
 unfold bornC at h;split at h
 ·rename_i ha;exact .inl ⟨h,agedB_is ha⟩
 ·rename_i ha;replace h:=ifB_sound h;obtain ⟨hn,h⟩:=h;have hn:=Nat.eq_of_beq_eq_true hn;obtain ⟨x,hx,hx2⟩:=List.all_eq_false.1 ha;simp only[Bool.or_eq_true,not_or] at hx2;have e1:n≤x.1:=Nat.le_of_not_lt fun h=>hx2.1 (bLe h)
  have e2:x.1<s.next:=Nat.lt_of_not_le fun h=>hx2.2 (bLe h)
  split at h
  ·rename_i blk hb;rw[turnC_eq] at h;exact .inr ⟨blk,⟨x,hx,by omega⟩,hn,hb,h⟩
  ·exact absurd h D.nb
def opsH (D:Dom R) (P:Program) (cf:CallF R) (N:Nat) (ops:List Oper) (er:List Nat):Nat->List Oper->MutL->Tr Value->AS->(Tr Value->AS->List (Nat×Option Blk)->R)->R
 |_,[],M,fr,s,k=>match M with
  |[]=>k fr s []
  |_=>D.bad
 |i,o::l,M,fr,s,k=>litG D ops o fr fun fr=>ifB D (earlyNow er i o fr s.glb) (match guardC ops o fr with
  |some true=>match M with
   |[]=>liftC s fun lo s0=>opC D P cf o fr s0 fun u s1=>putF D N o.dst u fr fun fr=>dropC lo s1 fun s2=>opsH D P cf N ops er (Nat.succ i) l [] fr s2 k
   |(b,blk,ex)::M=>match kindH o fr s.glb b with
    |.st t x y=>ifB D (isNone' ex&&Nat.blt b s.next) (mutC D P fr s.glb b blk t x y fun blk'=>putF D N o.dst undef fr fun fr=>opsH D P cf N ops er (Nat.succ i) l M fr s fun fr s l=>k fr s ((b,some blk')::l))
    |.ap t x y=>ifB D (isNone' ex&&Nat.blt b s.next&&agedB M s.next (Nat.succ s.next)) (appM D P fr s b blk t x y fun u blk'=>pushC D s blk' fun _ s1=>putF D N o.dst u fr fun fr=>opsH D P cf N ops er (Nat.succ i) l M fr s1 fun fr s l=>k fr s ((b,none)::l))
    |.me t x=>entryX D P fr s.glb blk t x fun u blk'=>ifB D (exB ex blk'&&Nat.blt b s.next) (putF D N o.dst u fr fun fr=>opsH D P cf N ops er (Nat.succ i) l M fr s fun fr s l=>k fr s ((b,some blk')::l))
    |.rd t x y=>rdC D P fr s.glb b blk t x y fun u blk'=>ifB D (exB ex blk'&&Nat.blt b s.next) (putF D N o.dst u fr fun fr=>opsH D P cf N ops er (Nat.succ i) l ((b,blk,some blk')::M) fr s k)
    |.no=>liftC s fun lo s0=>opC D P cf o fr s0 fun u s1=>putF D N o.dst u fr fun fr=>dropC lo s1 fun s2=>bornC D ((b,blk,ex)::M) s.next s2 fun M s3=>opsH D P cf N ops er (Nat.succ i) l M fr s3 k
  |some false=>putF D N o.dst undef fr fun fr=>opsH D P cf N ops er (Nat.succ i) l M fr s k
  |none=>D.bad)
abbrev SFC:=Nat->Bt->Value->Prop
def sfC (fr:Tr Value):SFC:=fun t β v=>∀u,Tr.at (pt t) fr=some u->VR β u v
def updC (S:SFC) (d:Option Tmp) (u:Value):SFC:=fun t=>if d=some t then fun β v=>VR β u v else S t
theorem sfC_put {d:Option Tmp}{u:Value}:sfC (setF d u fr)=updC (sfC fr) d u:=by
 funext t β v
 unfold updC sfC;simp only[setF_at];by_cases h:d=some t
 ·simp[h]
 ·simp[h]
structure EntC where
 u:Value
 wd:Bool
 s:AS
 s':AS
 /-- A block that it lays and that the head turns later. -/
 bo:Option Mut:=none
def GoodC (P:Program) (ops:List Oper) (o:Oper) (S:SFC) (e:EntC):Prop :=
 ∀(W0:World) (β:Bt) (a:Act) (W:World),Rel P W0 β e.s W->Free β e.s.next e.s'.next->(∀t∈o.looksAt ops.toArray,S t β (a.tmps.getD t undef)) ->
  Region.wanted o (yielded ops.toArray a.tmps)=e.wd∧match e.wd with
   |false=>e.u=undef∧e.s'=e.s
   |true=>DoesC P W0 β e.s e.s' e.u W ((execOp a.eval o).run P W)
structure MidS (gl:Nat) (m:Mut) (st st' sF:AS):Prop where
 at_:sF.heap.get m.b=some m.old
 lob:sF.lo≤m.b
 glb:sF.glb=gl
 lo:st.lo=sF.lo
 glb':st.glb=sF.glb
 agree:∀k y,st.heap.get k=some y->sF.heap.get k=some y
 dom:∀k,st.heap.get k≠none->k<st.next
 lt:m.b<st.next
 new:∀k,st.next≤k->k<st'.next->sF.heap.get k=st'.heap.get k
 ln:st.lo≤st.next
def GoodM (P:Program) (ops:List Oper) (o:Oper) (S:SFC) (gl:Nat) (m:Mut) (u:Value) (st st':AS):Prop :=
 ∀sF:AS,MidS gl m st st' sF->∀(W0:World) (β:Bt) (a:Act) (W:World),Rel P W0 β sF W->Free β st.next st'.next->(∀t∈o.looksAt ops.toArray,S t β (a.tmps.getD t undef)) ->
  Region.wanted o (yielded ops.toArray a.tmps)=true∧DoesG P W0 β st.next st'.next ⟨sF.heap.set m.b m.new,sF.next,sF.lo,sF.glb⟩ u W ((execOp a.eval o).run P W)
def GoodR (P:Program) (ops:List Oper) (o:Oper) (S:SFC) (gl:Nat) (m:Mut) (u:Value) (st:AS):Prop :=
 ∀sF:AS,(sF.heap.get m.b=some m.old∨sF.heap.get m.b=m.new)->sF.glb=gl->∀(W0:World) (β:Bt) (a:Act) (W:World),Rel P W0 β sF W->(∀t∈o.looksAt ops.toArray,S t β (a.tmps.getD t undef)) ->
  Region.wanted o (yielded ops.toArray a.tmps)=true∧DoesG P W0 β st.next st.next sF u W ((execOp a.eval o).run P W)
def StepsC (P:Program) (ops:List Oper) (lo gl:Nat) (S:SFC) (st st':AS) (o:Oper) (e:EntC):Option Mut->Option Mut->Prop
 |none,none=>GoodC P ops o S e∧e.s=raiseS st∧Stp e.s e.s'∧match e.bo with
  |none=>st'=lowerS lo e.s'
  |some m=>m.b=st.next∧e.s'.next=st.next+1∧e.s'.heap.get m.b=some m.old∧st'=lowerS lo ⟨e.s'.heap.set m.b none,e.s'.next,e.s'.lo,e.s'.glb⟩
 |some m,_=>(st'=st∨∃x,isLoop (some x)=false∧st'=st.push x)∧isLoop (some m.old)=false∧GoodM P ops o S gl m e.u st st'∧e.bo=none∧∀(W0 W:World) (sF:AS) (β:Bt) (a:Act),Rel P W0 β sF W->sF.glb=gl->(∀t∈o.looksAt ops.toArray,S t β (a.tmps.getD t undef))->β m.b≠none
 |none,some m=>st'=st∧GoodR P ops o S gl m e.u st∧e.bo=none
structure HeadC (P:Program) (N:Nat) (ops:List Oper) (er:List Nat) (i0:Nat) (l:List Oper) (K L:Nat->Option Mut) (ms:List Mut) (fr fr':Tr Value) (s s':AS) (E:List EntC) (S:Nat->SFC) (st:Nat->AS):Prop where
 len:E.length=l.length
 s0:S 0=sfC fr
 s1:S l.length=sfC fr'
 t0:st 0=s
 t1:st l.length=s'
 kin:∀(i:Nat) (m:Mut),K i=some m->m∈ms∧i<l.length
 lin:∀(i:Nat) (m:Mut),L i=some m->m∈ms
 kal:∀m∈ms,∃i,K i=some m
 kdis:(ms.map (·.b)).Nodup->∀(i i':Nat) (m m':Mut),K i=some m->K i'=some m'->m.b=m'.b->i=i'
 ent:∀(j:Nat) (o:Oper) (e:EntC),l[j]?=some o->E[j]?=some e->S (j+1)=updC (S j) o.dst e.u∧(∀t,o.dst=some t->t<N)∧StepsC P ops s.lo s.glb (S j) (st j) (st (j+1)) o e (K j) (L j)
 old:∀m∈ms,m.b<s.next∨∃(j:Nat) (e:EntC) (m':Mut),E[j]?=some e∧e.bo=some m'∧m'.b=m.b
 bin:∀(j:Nat) (e:EntC) (m:Mut),E[j]?=some e->e.bo=some m->m∈ms∧((ms.map (·.b)).Nodup->∀(i:Nat),K i=some m->j<i)
 early:∀(j:Nat) (o:Oper),l[j]?=some o->i0+j∈er->∀(β:Bt) (a:Act),(∀t∈o.looksAt ops.toArray,S j t β (a.tmps.getD t undef))->∃v,(∀w,(execOp a.eval o).run P w=.ok (.value v) w)∧∀w,o.about P w a.eval=none
inductive AllM (n:Nat):MutL->List Mut->Prop where
 |nil:AllM n [] []
 |cons (b:Nat) (blk:Blk) (ex:Option Blk) (m:Mut) (M:MutL) (ms:List Mut) (h1:b=m.b) (h2:blk=m.old∨n≤b) (h3:∀e,ex=some e->m.new=some e) (h:AllM n M ms):AllM n ((b,blk,ex)::M) (m::ms)
theorem AllM.mono {n n':Nat}(hn:n≤n'):∀{M:MutL}{ms:List Mut},AllM n' M ms->AllM n M ms
 |[],_,h=>by cases h;exact .nil
 |_::M,_,h=>by
  cases h with
  |cons b blk ex m M ms h1 h2 h3 h4=>exact .cons b blk ex m M ms h1 (h2.imp id fun h=>Nat.le_trans hn h) h3 (h4.mono hn)
theorem AllM.names {n:Nat}:∀{M:MutL}{ms:List Mut},AllM n M ms->∀m∈ms,∃x∈M,x.1=m.b
 |[],_,h,m,hm=>by cases h;cases hm
 |_::M,_,h,m,hm=>by
  cases h with
  |cons b blk ex m' M ms h1 h2 h3 h4 =>
   rcases List.mem_cons.1 hm with rfl|hm
   ·exact ⟨_,List.mem_cons_self ..,h1⟩
   ·obtain ⟨x,hx,e⟩:=h4.names m hm;exact ⟨x,List.mem_cons_of_mem _ hx,e⟩
theorem AllM.mems {n:Nat}:∀{M:MutL}{ms:List Mut},AllM n M ms->∀x∈M,∃m∈ms,m.b=x.1
 |[],_,h,x,hx=>by cases hx
 |_::M,_,h,x,hx=>by
  cases h with
  |cons b blk ex m' M ms h1 h2 h3 h4 =>
   rcases List.mem_cons.1 hx with rfl|hx
   ·exact ⟨m',List.mem_cons_self ..,h1.symm⟩
   ·obtain ⟨m,hm,e⟩:=h4.mems x hx;exact ⟨m,List.mem_cons_of_mem _ hm,e⟩
theorem AllM.unset {n:Nat}{blk0:Blk}:∀{M:MutL}{ms:List Mut},AllM (n+1) (setM n blk0 M) ms->AllM n M ms∧(∀m∈ms,m.b=n->m.old=blk0)∧∀m∈ms,∃x∈M,x.1=m.b
 |[],ms,h=>by
  cases h;exact ⟨.nil,fun m hm=>(by cases hm),fun m hm=>by cases hm⟩
 |(b,blk,ex)::M,ms,h=>by
  unfold setM at h;split at h
  ·rename_i hb;have hb:=Nat.eq_of_beq_eq_true hb;cases h with
   |cons _ _ _ m _ ms h1 h2 h3 h4 =>
    obtain ⟨q1,q2,q3⟩:=h4.unset;dsimp only at hb h1;refine ⟨.cons _ _ _ m _ _ h1 (.inr (by omega)) h3 q1,fun m' hm' hb'=>?_,fun m' hm'=>?_⟩
    ·rcases List.mem_cons.1 hm' with rfl|hm'
     ·rcases h2 with h2|h2
      ·exact h2.symm
      ·dsimp only at h2;omega
     ·exact q2 m' hm' hb'
    ·rcases List.mem_cons.1 hm' with rfl|hm'
     ·exact ⟨_,List.mem_cons_self ..,h1⟩
     ·obtain ⟨x,hx,e⟩:=q3 m' hm';exact ⟨x,List.mem_cons_of_mem _ hx,e⟩
  ·rename_i hb;cases h with
   |cons _ _ _ m _ ms h1 h2 h3 h4 =>
    obtain ⟨q1,q2,q3⟩:=h4.unset;have hne:b≠n:=fun e=>by subst e;simp at hb
    refine ⟨.cons _ _ _ m _ _ h1 (h2.imp id fun h=>by omega) h3 q1,fun m' hm' hb'=>?_,fun m' hm'=>?_⟩
    ·rcases List.mem_cons.1 hm' with rfl|hm'
     ·exact absurd (h1.trans hb') hne
     ·exact q2 m' hm' hb'
    ·rcases List.mem_cons.1 hm' with rfl|hm'
     ·exact ⟨_,List.mem_cons_self ..,h1⟩
     ·obtain ⟨x,hx,e⟩:=q3 m' hm';exact ⟨x,List.mem_cons_of_mem _ hx,e⟩
theorem isNone'_is {ex:Option Blk}(h:isNone' ex=true) (x:Option Blk):∀e,ex=some e->x=some e:=fun e he=>by subst he;cases h
theorem opsH_sound (hc:CallOk P D cf) {ops:List Oper}{er:List Nat}:∀(i0:Nat) (l:List Oper) (M:MutL) (fr:Tr Value) (s:AS) (k:Tr Value->AS->List (Nat×Option Blk)->R),s.lo≤s.next->D.T (opsH D P cf N ops er i0 l M fr s k) ->
  ∃fr' s' K L ms E S st,AllM s.next M ms∧D.T (k fr' s' (ms.map fun m=>(m.b,m.new)))∧HeadC P N ops er i0 l K L ms fr fr' s s' E S st
 |i0,[],M,fr,s,k,hl,h=>by
  unfold opsH at h;split at h
  ·exact ⟨fr,s,fun _=>none,fun _=>none,[],[],fun _=>sfC fr,fun _=>s,.nil,h,⟨rfl,rfl,rfl,rfl,rfl,fun i m hm=>(by cases hm),fun i m hm=>(by cases hm),fun m hm=>(by cases hm),fun _ i i' m m' hm=>(by cases hm),fun j o e hj=>(by simp at hj),fun m hm=>(by cases hm),fun j e m hj=>(by simp at hj),fun j o hj=>by simp at hj⟩⟩
  ·exact absurd h D.nb
 |i0,o::l,M,fr,s,k,hl,h=>by
  unfold opsH at h;simp only[liftC_eq,dropC_eq] at h;replace h:=litG_sound h;obtain ⟨frx,hfrx,h⟩:=h;have hsf:sfC frx=sfC fr:=by
   funext t β v
   unfold sfC;rw[hfrx]
  suffices hgoal:∃fr' s' K L ms E S st,AllM s.next M ms∧D.T (k fr' s' (ms.map fun m=>(m.b,m.new)))∧HeadC P N ops er i0 (o::l) K L ms frx fr' s s' E S st by
   obtain ⟨fr',s',K,L,ms,E,S,st,g1,g2,g3⟩:=hgoal;exact ⟨fr',s',K,L,ms,E,S,st,g1,g2,⟨g3.len,g3.s0.trans hsf,g3.s1,g3.t0,g3.t1,g3.kin,g3.lin,g3.kal,g3.kdis,g3.ent,g3.old,g3.bin,g3.early⟩⟩
  clear hsf hfrx;generalize frx=fr at h
  replace h:=ifB_sound h;obtain ⟨hearly,h⟩:=h;have early0:i0∈er->∀(β:Bt) (a:Act),(∀t∈o.looksAt ops.toArray,sfC fr t β (a.tmps.getD t undef))->∃v,(∀w,(execOp a.eval o).run P w=.ok (.value v) w)∧∀w,o.about P w a.eval=none:=fun hi β a hS=>by
   unfold earlyNow at hearly;have:er.any (Nat.beq i0)=true:=List.any_eq_true.2 ⟨i0,hi,by simp⟩
   rw[this] at hearly;exact pureNow_ok hearly fun t ht u hu=>hS t (by
    unfold Oper.looksAt;exact List.mem_append_left _ (List.mem_filterMap.2 ⟨.tmp t,ht,rfl⟩)) u hu
  have main:∃(e:EntC) (k':Tr Value->AS->List (Nat×Option Blk)->R) (M':MutL) (st':AS),D.T (opsH D P cf N ops er (i0+1) l M' (setF o.dst e.u fr) st' k')∧st'.lo=s.lo∧st'.glb=s.glb∧s.next≤st'.next∧(∀t,o.dst=some t->t<N) ∧
    ((M'=M∧k'=k∧StepsC P ops s.lo s.glb (sfC fr) s st' o e none none∧e.bo=none∧∀x∈M,x.1<s.next∨st'.next≤x.1) ∨
    (∃blk,M'=setM s.next blk M∧(∃x∈M,x.1=s.next)∧st'.next=s.next+1∧k'=k∧∀m:Mut,m.b=s.next->m.old=blk->StepsC P ops s.lo s.glb (sfC fr) s st' o { e with bo:=some m } none none) ∨
    (∃m ex,M=(m.b,m.old,ex)::M'∧(∀e,ex=some e->m.new=some e)∧k'=(fun fr s l=>k fr s ((m.b,m.new)::l))∧StepsC P ops s.lo s.glb (sfC fr) s st' o e (some m) none∧m.b<s.next∧∀x∈M',x.1<s.next∨st'.next≤x.1) ∨
    (∃b blk ex blk' M0,M=(b,blk,ex)::M0∧M'=(b,blk,some blk')::M0∧(∀e,ex=some e->e=blk')∧k'=k∧st'=s∧b<s.next∧e.bo=none∧∀m:Mut,m.b=b->m.old=blk->m.new=some blk'->StepsC P ops s.lo s.glb (sfC fr) s st' o e none (some m))):=by
   split at h
   ·rename_i hg;have look:∀{β:Bt}{W0 W:World}{sF:AS}{a:Act},Rel P W0 β sF W->sF.glb=s.glb->(∀t∈o.looksAt ops.toArray,sfC fr t β (a.tmps.getD t undef))->OpR β s.glb fr a o:=fun {β W0 W sF a} hR hgl hS=>by
     rw[← hgl];refine opR_of hR fun t u ht hu=>hS t ?_ u hu
     unfold Oper.looksAt;exact List.mem_append_left _ (List.mem_filterMap.2 ⟨.tmp t,ht,rfl⟩)
    have plain:∀(X:Tr Value->AS->R),D.T (opC D P cf o fr (raiseS s) fun u s1=>putF D N o.dst u fr fun fr=>X fr (lowerS s.lo s1))->∃(u:Value) (s1:AS),D.T (X (setF o.dst u fr) (lowerS s.lo s1))∧Stp (raiseS s) s1∧(∀t,o.dst=some t->t<N)∧∀bo,GoodC P ops o (sfC fr) ⟨u,true,raiseS s,s1,bo⟩:=fun X h=>by
     obtain ⟨u,s1,h1,hst,hop⟩:=opC_sound hc (s:=raiseS s) rL h;replace h1:=putF_sound h1;obtain ⟨hd,h1⟩:=h1;refine ⟨u,s1,h1,hst,hd,fun bo W0 β a W hR hf hS=>⟨guardC_sound hg fun t ht u hu=>hS t ht u hu,?_⟩⟩
     refine hop W0 β a W hR hf (opR_of hR fun t u ht hu=>hS t ?_ u hu)
     unfold Oper.looksAt;exact List.mem_append_left _ (List.mem_filterMap.2 ⟨.tmp t,ht,rfl⟩)
    split at h
    ·obtain ⟨u,s1,h1,hst,hd,hG⟩:=plain (fun fr s=>opsH D P cf N ops er (i0+1) l [] fr s k) h
     exact ⟨⟨u,true,raiseS s,s1,none⟩,k,_,lowerS s.lo s1,h1,rfl,hst.glb,hst.next,hd,.inl ⟨rfl,rfl,⟨hG none,rfl,hst,rfl⟩,rfl,fun x hx=>by cases hx⟩⟩
    ·rename_i b blk ex M;split at h
     ·rename_i t x y hst;have hst2:=kindH_st hst;replace h:=ifB_sound h;obtain ⟨hex,h⟩:=h;rw[Bool.and_eq_true] at hex;obtain ⟨off,hname⟩:=mutC_name h;obtain ⟨blk',h,hnl,hop⟩:=mutC_sound hst2 h;replace h:=putF_sound h
      obtain ⟨hd,h⟩:=h;refine ⟨⟨undef,true,s,s,none⟩,_,M,s,h,rfl,rfl,Nat.le_refl _,hd,.inr (.inr (.inl ⟨⟨b,blk,some blk'⟩,ex,rfl,isNone'_is hex.1 _,rfl,⟨.inl rfl,hnl,fun sF hm W0 β a W hR hf hS=>⟨guardC_sound hg fun t ht u hu=>hS t ht u hu,?_⟩,rfl,fun W0 W sF β a hR hgl hS hnn=>by obtain ⟨r,sp,e1,_⟩:=(look hR hgl hS x (by simp[hst2,Op.operands]) _ hname).ptr_inv;rw[hnn] at e1;cases e1⟩,bR hex.2,fun x _=>Nat.lt_or_ge x.1 s.next⟩))⟩
      have h5:=(hop sF hm.at_ hm.lob hm.glb).2 W0 β a W hR (fun k hk hk'=>absurd hk (Nat.not_le.2 hk')) (by
       have:=look hR hm.glb hS;rwa [← hm.glb] at this)
      exact h5.named fun β' q=>⟨q.le,fun k _=>q.out k (by dsimp only;omega)⟩
     ·rename_i t x y hst;obtain ⟨c,hst2,happ⟩:=kindH_ap hst;replace h:=ifB_sound h;obtain ⟨hex,h⟩:=h;simp only[Bool.and_eq_true] at hex;obtain ⟨off,an,ac,hname⟩:=kindH_apN hst;obtain ⟨hcal,hct,hca⟩:=appArgs_spec happ
      obtain ⟨u,blk',h,hnl,hnl',hop⟩:=appM_sound hst2 happ h;rw[pushC_eq] at h;replace h:=putF_sound h;obtain ⟨hd,h⟩:=h;refine ⟨⟨u,true,s,s,none⟩,_,M,s.push blk',h,rfl,rfl,Nat.le_succ _,hd,.inr (.inr (.inl ⟨⟨b,blk,none⟩,ex,rfl,isNone'_is hex.1.1 _,rfl,⟨.inr ⟨blk',hnl',rfl⟩,hnl,fun sF hm W0 β a W hR hf hS=>⟨guardC_sound hg fun t ht u hu=>hS t ht u hu,?_⟩,rfl,fun W0 W sF β a hR hgl hS hnn=>by obtain ⟨r,sp,e1,_⟩:=(look hR hgl hS x (by simp[hst2,Op.operands,Call.operands,hcal,hca]) _ hname).sl_inv;rw[hnn] at e1;cases e1⟩,bR hex.1.2,agedB_is hex.2⟩))⟩
      refine hop sF W0 β a W hm.at_ hm.lob hm.lo hm.glb' hm.agree hm.dom hm.lt ?_ hm.ln hR (hf _ rL (Nat.lt_succ_self _)) (look hR hm.glb hS);rw[hm.new _ rL (Nat.lt_succ_self _)];show (s.heap.set s.next (some blk')).get s.next=_
      rw[Tr.get_set,if_pos rfl]
     ·rename_i t x hst;obtain ⟨m,hst2,hmv⟩:=kindH_me hst;obtain ⟨u,blk',h,hnl,_,hop⟩:=entryX_sound hst2 hmv h;replace h:=ifB_sound h;obtain ⟨hex,h⟩:=h;rw[Bool.and_eq_true] at hex;replace h:=putF_sound h
      obtain ⟨hd,h⟩:=h;refine ⟨⟨u,true,s,s,none⟩,_,M,s,h,rfl,rfl,Nat.le_refl _,hd,.inr (.inr (.inl ⟨⟨b,blk,some blk'⟩,ex,rfl,fun e he=>by rw[exB_is hex.1 e he],rfl,⟨.inl rfl,hnl,fun sF hm W0 β a W hR hf hS=>⟨guardC_sound hg fun t ht u hu=>hS t ht u hu,?_⟩,rfl,fun W0 W sF β a hR hgl hS hnn=>by obtain ⟨r,sp,e1,_⟩:=(look hR hgl hS m (by simp[hst2,Op.operands]) _ hmv).map_inv;rw[hnn] at e1;cases e1⟩,bR hex.2,fun x _=>Nat.lt_or_ge x.1 s.next⟩))⟩
      have h5:=(hop sF hm.at_ hm.lob hm.glb).2 W0 β a W hR (fun k hk hk'=>absurd hk (Nat.not_le.2 hk')) (by
       have:=look hR hm.glb hS;rwa [← hm.glb] at this)
      exact h5.named fun β' q=>⟨q.le,fun k _=>q.out k (by dsimp only;omega)⟩
     ·rename_i t x y hst;have hst2:=kindH_rd hst;obtain ⟨u,blk',h,hop⟩:=rdC_sound hst2 h;replace h:=ifB_sound h;obtain ⟨hex,h⟩:=h;rw[Bool.and_eq_true] at hex;replace h:=putF_sound h;obtain ⟨hd,h⟩:=h
      refine ⟨⟨u,true,s,s,none⟩,k,_,s,h,rfl,rfl,Nat.le_refl _,hd,.inr (.inr (.inr ⟨b,blk,ex,blk',M,rfl,rfl,exB_is hex.1,rfl,rfl,bR hex.2,rfl,fun m h1 h2 h3=>⟨rfl,fun sF hor hgl W0 β a W hR hS=>⟨guardC_sound hg fun t ht u hu=>hS t ht u hu,?_⟩,rfl⟩⟩))⟩
      rw[h1,h2,h3] at hor;have h5:=(hop sF hor hgl).2 W0 β a W hR (fun k hk hk'=>absurd hk (Nat.not_le.2 hk')) (by
       have:=look hR hgl hS;rwa [← hgl] at this)
      exact h5.named fun β' q=>⟨q.le,fun k _=>q.out k (by omega)⟩
     ·obtain ⟨u,s1,h1,hst,hd,hG⟩:=plain (fun fr s2=>bornC D ((b,blk,ex)::M) s.next s2 fun M s3=>opsH D P cf N ops er (i0+1) l M fr s3 k) h
      rcases bornC_sound h1 with ⟨h1,hrg⟩|⟨nb,q0,q1,q2,h1⟩
      ·exact ⟨⟨u,true,raiseS s,s1,none⟩,k,_,lowerS s.lo s1,h1,rfl,hst.glb,hst.next,hd,.inl ⟨rfl,rfl,⟨hG none,rfl,hst,rfl⟩,rfl,hrg⟩⟩
      ·exact ⟨⟨u,true,raiseS s,s1,none⟩,k,_,_,h1,rfl,hst.glb,hst.next,hd,.inr (.inl ⟨nb,rfl,q0,q1,rfl,fun m e1 e2=>⟨hG (some m),rfl,hst,e1,q1,by rw[e1,e2];exact q2,by rw[e1];rfl⟩⟩)⟩
   ·rename_i hg;replace h:=putF_sound h;obtain ⟨hd,h⟩:=h;refine ⟨⟨undef,false,raiseS s,raiseS s,none⟩,k,M,lowerS s.lo (raiseS s),h,rfl,rfl,Nat.le_refl _,hd,.inl ⟨rfl,rfl,⟨fun W0 β a W hR hf hS=>⟨guardC_sound hg fun t ht u hu=>hS t ht u hu,rfl,rfl⟩,rfl,.refl _,rfl⟩,rfl,fun x _=>Nat.lt_or_ge x.1 s.next⟩⟩
   ·exact absurd h D.nb
  obtain ⟨e,k',M',st',h1,e1,e2,hnx,hd,hom⟩:=main;obtain ⟨fr',s',K,L,ms,E,S,st,hM,h2,H⟩:=opsH_sound hc (i0+1) l M' _ st' k' (by rw[e1];exact Nat.le_trans hl hnx) h1
  have ent':∀(e:EntC) (he:D.T (opsH D P cf N ops er (i0+1) l M' (setF o.dst e.u fr) st' k')∧S 0=sfC (setF o.dst e.u fr)) (om ol:Option Mut),StepsC P ops s.lo s.glb (sfC fr) s st' o e om ol->∀(j:Nat) (o':Oper) (e':EntC),(o::l)[j]?=some o'->(e::E)[j]?=some e'->(match j+1 with|0=>sfC fr|n+1=>S n)=updC (match j with|0=>sfC fr|n+1=>S n) o'.dst e'.u∧(∀t,o'.dst=some t->t<N)∧StepsC P ops s.lo s.glb (match j with|0=>sfC fr|n+1=>S n) (match j with|0=>s|n+1=>st n) (match j+1 with|0=>s|n+1=>st n) o' e' (match j with|0=>om|n+1=>K n) (match j with|0=>ol|n+1=>L n):=fun e he om ol hst j o' e' hj hj'=>by
   cases j with
   |zero =>
    simp at hj hj'
    subst hj;subst hj';exact ⟨by show S 0=_;rw[he.2,sfC_put],hd,by show StepsC _ _ _ _ _ _ (st 0) _ _ _ _;rw[H.t0];exact hst⟩
   |succ j =>
    have:=H.ent j o' e' (by simpa using hj) (by simpa using hj')
    rw[e1,e2] at this;exact this
  have early':∀(j:Nat) (o':Oper),(o::l)[j]?=some o'->i0+j∈er->∀(β:Bt) (a:Act),(∀t∈o'.looksAt ops.toArray,(match j with|0=>sfC fr|n+1=>S n) t β (a.tmps.getD t undef))->∃v,(∀w,(execOp a.eval o').run P w=.ok (.value v) w)∧∀w,o'.about P w a.eval=none:=fun j o' hj hi β a hS=>by
   cases j with
   |zero=>simp at hj;subst hj;exact early0 hi β a hS
   |succ j=>exact H.early j o' (by simpa using hj) (by rw[show i0+1+j=i0+(j+1) by omega];exact hi) β a hS
  have bin':∀(e0:EntC) (K':Nat->Option Mut) (ms':List Mut),(∀m∈ms,m∈ms')->(∀m,e0.bo=some m->m∈ms'∧∀i,K' i=some m->0<i)->(∀i,K' (i+1)=K i)->((ms'.map (·.b)).Nodup->(ms.map (·.b)).Nodup∧∀m∈ms,K' 0≠some m)->∀(j:Nat) (e:EntC) (m:Mut),(e0::E)[j]?=some e->e.bo=some m->m∈ms'∧((ms'.map (·.b)).Nodup->∀(i:Nat),K' i=some m->j<i):=fun e0 K' ms' q1 q2 q3 q4 j e m hj hb=>by
   cases j with
   |zero=>simp at hj;subst hj;exact ⟨(q2 m hb).1,fun _ i hi=>(q2 m hb).2 i hi⟩
   |succ j =>
    obtain ⟨p1,p2⟩:=H.bin j e m (by simpa using hj) hb
    refine ⟨q1 m p1,fun hn i hi=>?_⟩
    obtain ⟨r1,r2⟩:=q4 hn;cases i with
    |zero=>exact absurd hi (r2 m p1)
    |succ i=>rw[q3 i] at hi;have:=p2 r1 i hi;omega
  have old':∀(e0:EntC) (m:Mut),m∈ms->(m.b<s.next∨st'.next≤m.b)->m.b<s.next∨∃(j:Nat) (e:EntC) (m':Mut),(e0::E)[j]?=some e∧e.bo=some m'∧m'.b=m.b:=fun e0 m hm hr=>by
   rcases hr with hr|hr
   ·exact .inl hr
   ·rcases H.old m hm with h|⟨j,e,m',h3,h4,h5⟩
    ·omega
    ·exact .inr ⟨j+1,e,m',by simpa using h3,h4,h5⟩
  have bo0:∀(e0:EntC) (X:Mut->Prop),e0.bo=none->∀m,e0.bo=some m->X m:=fun e0 X h m hm=>by rw[h] at hm;cases hm
  rcases hom with ⟨rfl,rfl,hst,hbo,hrg⟩|⟨blk,rfl,hex,hnx1,rfl,hst⟩|⟨m0,ex,rfl,hex,rfl,hst,hmb,hrg⟩|⟨b,blk,ex,blk',M0,rfl,rfl,hex,rfl,hss,hbn,hbo,hst⟩
  ·refine ⟨fr',s',fun n=>match n with|0=>none|n+1=>K n,fun n=>match n with|0=>none|n+1=>L n,ms,e::E,fun n=>match n with|0=>sfC fr|n+1=>S n,fun n=>match n with|0=>s|n+1=>st n,hM.mono hnx,h2,⟨by simp[H.len],rfl,by simpa using H.s1,rfl,by simpa using H.t1,fun i m hm=>?_,fun i m hm=>?_,fun m hm=>?_,fun hn i i' m m' hm hm' hb=>?_,ent' e ⟨h1,H.s0⟩ none none hst,fun m hm=>old' e m hm (by obtain ⟨x,hx,ex⟩:=hM.names m hm;rw[← ex];exact hrg x hx),bin' e _ ms (fun _ h=>h) (bo0 e _ hbo) (fun _=>rfl) (fun hn=>⟨hn,fun m _ h=>by cases h⟩),early'⟩⟩
   ·cases i with
    |zero=>cases hm
    |succ i=>exact ⟨(H.kin i m hm).1,by have:=(H.kin i m hm).2;simp;omega⟩
   ·cases i with
    |zero=>cases hm
    |succ i=>exact H.lin i m hm
   ·obtain ⟨i,hi⟩:=H.kal m hm;exact ⟨i+1,hi⟩
   ·cases i with
    |zero=>cases hm
    |succ i =>
     cases i' with
     |zero=>cases hm'
     |succ i'=>rw[H.kdis hn i i' m m' hm hm' hb]
  ·obtain ⟨u1,u2,u3⟩:=AllM.unset (n:=s.next) (blk0:=blk) (by rw[← hnx1];exact hM)
   obtain ⟨mb,hmb,hmb2⟩:∃m∈ms,m.b=s.next:=by
    obtain ⟨x,hx,ex⟩:=hex;obtain ⟨m,hm,em⟩:=u1.mems x hx;exact ⟨m,hm,em.trans ex⟩
   have hst:=hst mb hmb2 (u2 mb hmb hmb2);refine ⟨fr',s',fun n=>match n with|0=>none|n+1=>K n,fun n=>match n with|0=>none|n+1=>L n,ms,{ e with bo:=some mb }::E,fun n=>match n with|0=>sfC fr|n+1=>S n,fun n=>match n with|0=>s|n+1=>st n,u1,h2,⟨by simp[H.len],rfl,by simpa using H.s1,rfl,by simpa using H.t1,fun i m hm=>?_,fun i m hm=>?_,fun m hm=>?_,fun hn i i' m m' hm hm' hb=>?_,ent' { e with bo:=some mb } ⟨h1,H.s0⟩ none none hst,fun m hm=>?_,bin' { e with bo:=some mb } _ ms (fun _ h=>h) (fun m hm=>by cases hm;exact ⟨hmb,fun i hi=>by cases i with|zero=>cases hi|succ i=>exact Nat.succ_pos i⟩) (fun _=>rfl) (fun hn=>⟨hn,fun m _ h=>by cases h⟩),early'⟩⟩
   ·cases i with
    |zero=>cases hm
    |succ i=>exact ⟨(H.kin i m hm).1,by have:=(H.kin i m hm).2;simp;omega⟩
   ·cases i with
    |zero=>cases hm
    |succ i=>exact H.lin i m hm
   ·obtain ⟨i,hi⟩:=H.kal m hm;exact ⟨i+1,hi⟩
   ·cases i with
    |zero=>cases hm
    |succ i =>
     cases i' with
     |zero=>cases hm'
     |succ i'=>rw[H.kdis hn i i' m m' hm hm' hb]
   ·rcases Nat.lt_or_ge m.b s.next with h|h
    ·exact .inl h
    ·rcases Nat.eq_or_lt_of_le h with h|h
     ·exact .inr ⟨0,{ e with bo:=some mb },mb,rfl,rfl,hmb2.trans h⟩
     ·exact old' _ m hm (.inr (by omega))
  ·refine ⟨fr',s',fun n=>match n with|0=>some m0|n+1=>K n,fun n=>match n with|0=>none|n+1=>L n,m0::ms,e::E,fun n=>match n with|0=>sfC fr|n+1=>S n,fun n=>match n with|0=>s|n+1=>st n,.cons _ _ _ _ _ _ rfl (.inl rfl) hex (hM.mono hnx),h2,⟨by simp[H.len],rfl,by simpa using H.s1,rfl,by simpa using H.t1,fun i m hm=>?_,fun i m hm=>?_,fun m hm=>?_,fun hn i i' m m' hm hm' hb=>?_,ent' e ⟨h1,H.s0⟩ (some m0) none hst,fun m hm=>?_,bin' e _ (m0::ms) (fun _ h=>List.mem_cons_of_mem _ h) (bo0 e _ hst.2.2.2.1) (fun _=>rfl) (fun hn=>?_),early'⟩⟩
   ·cases i with
    |zero=>cases hm;exact ⟨by simp,by simp⟩
    |succ i=>exact ⟨by simp[(H.kin i m hm).1],by have:=(H.kin i m hm).2;simp;omega⟩
   ·cases i with
    |zero=>cases hm
    |succ i=>exact List.mem_cons_of_mem _ (H.lin i m hm)
   ·rcases List.mem_cons.1 hm with rfl|hm
    ·exact ⟨0,rfl⟩
    ·obtain ⟨i,hi⟩:=H.kal m hm;exact ⟨i+1,hi⟩
   ·simp only[List.map_cons,List.nodup_cons,List.mem_map,not_exists,not_and] at hn;cases i with
    |zero =>
     cases hm;cases i' with
     |zero=>rfl
     |succ i'=>exact absurd hb.symm (hn.1 m' (H.kin i' m' hm').1)
    |succ i =>
     cases i' with
     |zero=>cases hm';exact absurd hb (hn.1 m (H.kin i m hm).1)
     |succ i'=>rw[H.kdis hn.2 i i' m m' hm hm' hb]
   ·rcases List.mem_cons.1 hm with rfl|hm
    ·exact .inl hmb
    ·exact old' e m hm (by obtain ⟨x,hx,ex⟩:=hM.names m hm;rw[← ex];exact hrg x hx)
   ·simp only[List.map_cons,List.nodup_cons,List.mem_map,not_exists,not_and] at hn;exact ⟨hn.2,fun m hm h=>by cases h;exact hn.1 m0 hm rfl⟩
  ·cases hM.mono hnx with
   |cons _ _ _ m0 _ ms1 q1 q2 q3 q4 =>
    have hnew:=q3 blk' rfl;have q2:=q2.resolve_right (by omega)
    have hst:=hst m0 q1.symm q2.symm hnew;refine ⟨fr',s',fun n=>match n with|0=>none|n+1=>K n,fun n=>match n with|0=>some m0|n+1=>L n,m0::ms1,e::E,fun n=>match n with|0=>sfC fr|n+1=>S n,fun n=>match n with|0=>s|n+1=>st n,.cons _ _ _ _ _ _ q1 (.inl q2) (fun e he=>by rw[hnew,hex e he]) q4,h2,⟨by simp[H.len],rfl,by simpa using H.s1,rfl,by simpa using H.t1,fun i m hm=>?_,fun i m hm=>?_,fun m hm=>?_,fun hn i i' m m' hm hm' hb=>?_,ent' e ⟨h1,H.s0⟩ none (some m0) hst,fun m hm=>old' e m hm (by rw[hss];exact Nat.lt_or_ge m.b _),bin' e _ (m0::ms1) (fun _ h=>h) (bo0 e _ hbo) (fun _=>rfl) (fun hn=>⟨hn,fun m _ h=>by cases h⟩),early'⟩⟩
    ·cases i with
     |zero=>cases hm
     |succ i=>exact ⟨(H.kin i m hm).1,by have:=(H.kin i m hm).2;simp;omega⟩
    ·cases i with
     |zero=>cases hm;simp
     |succ i=>exact H.lin i m hm
    ·obtain ⟨i,hi⟩:=H.kal m hm;exact ⟨i+1,hi⟩
    ·cases i with
     |zero=>cases hm
     |succ i =>
      cases i' with
      |zero=>cases hm'
      |succ i'=>rw[H.kdis hn i i' m m' hm hm' hb]
end Go.Proofs.YtcihknonfcldeaaDoor.U
