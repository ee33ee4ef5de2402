
import Derived.Test.YtocppbocphnbcaaGreatDoorXS20
import Derived.Test.YtocppbocphnbcaaGreatDoorXS22
import Derived.Test.YtocppbocphnbcaaGreatDoorXS25
namespace Go.Proofs.YtocppbocphnbcaaGreatDoor.U
open Go Go.RowKit Go.Sort
set_option linter.unusedVariables false
set_option linter.unusedSimpArgs false
set_option maxRecDepth 100000
set_option maxHeartbeats 40000000
def cat (o:Option (List Value)) (l:List Value):Option (List Value):=match o with
 |some t=>some (t++l)
 |none=>none
def DoesQ (P:Program) (W:World) (Q:Value->World->Prop):Result Next->Prop
 |.ok (.value v) W'=>Q v W'
 |.ok (.enter f args) W'=>W'=W∧Calls P f args W fun e w'=>∃v,e=.returned v∧Q v w'
 |.ok (.round l f tmps assign body) W'=>W'=W∧RoundIn Fence.wide 0 P l f tmps assign body W fun e w'=>∃v,e=.returned v∧Q v w'
 |_=>False
structure InvQ (P:Program) (r:Nat) (J:Frz->Option (List Value)->World->Prop):Prop where
 val:∀z ts W,J z ts W->∀o i v,z o i=some v->W.cell? ⟨o,i,none⟩=some v
 loop:∀z ts W,J z ts W->∃L,W.heap[r]?=some (.loop L)
 below:∀z ts W W' z',J z ts W->Below W.heap.size W W'->(∀o i v,z o i=some v->z' o i=some v)->(∀o i v,z' o i=some v->W'.cell? ⟨o,i,none⟩=some v∧(z o i=some v∨W.heap.size≤o))->J z' ts W'
 takes:∀z ts W z1 ts1 W1 W' (l:List Nat),J z ts W->J z1 ts1 W1->(∀d∈l,W1.heap.size≤d∧W.heap[d]?=some (.deferred (some [])))->W'.os=W.os->W'.tape=W.tape->W'.output=W.output->W'.heap.size=W.heap.size->(∀i,(∀d∈l,i≠d)->W'.heap[i]?=W.heap[i]?)->J z ts W'
 round:∀z x ts W v,J z (some (x::ts)) W->VR ⟨fun _=>none,z⟩ x v->DoesQ P W (fun u w'=>∃z',(∀o i v,z o i=some v->z' o i=some v)∧KD W w'∧((u=.bool true∧J z' (some ts) w')∨(u=.bool false∧J z' none w'))) ((Instr.yield r ⟨[v]⟩).run P W)
def IterQ (P:Program) (f:FuncId) (args ts:List Value) (v0 v1:Value):Prop :=
 ∀r J,InvQ P r J->∀z ts' W vs,J z (some (ts++ts')) W->VRs (lpB r z) args vs->Calls P f ⟨vs⟩ W fun e w'=>∃v,e=.returned v∧∃z',(∀o i v,z o i=some v->z' o i=some v)∧KD W w'∧((v=v0∧J z' (some ts') w')∨(v=v1∧J z' none w'))
structure IterU (P:Program) (N:Nat) (c:Code) (fr:Tr Value) (ts:Option (List Value)) (k:Exit->Tr Value->Option (List Value)->Prop):Prop where
 out:∀r J,InvQ P r J->∀(F:Fence) (n:Nat) z ts' a W (Q:Exit->Act->World->Prop),WF F->LoopAt F W->J z (cat ts ts') W->FrR (lpB r z) N fr a ->
  (∀e fr' ts1 z' a' W',k e fr' ts1->(∀o i v,z o i=some v->z' o i=some v)->J z' (cat ts1 ts') W'->FrR (lpB r z') N fr' a'->KD W W'->DM W.heap.size W' a.defers a'.defers->Q e a' W')->c.wpIn F n P Q a W
structure OpsU (P:Program) (N:Nat) (ops l:List Oper) (fr:Tr Value) (ts:Option (List Value)) (k:Tr Value->Option (List Value)->Prop):Prop where
 out:∀r J,InvQ P r J->∀(F:Fence) (n:Nat) z ts' a W (Q:Exit->Act->World->Prop),WF F->LoopAt F W->J z (cat ts ts') W->FrR (lpB r z) N fr a ->
  (∀fr' ts1 z' a' W',k fr' ts1->(∀o i v,z o i=some v->z' o i=some v)->J z' (cat ts1 ts') W'->FrR (lpB r z') N fr' a'->KD W W'->a'.defers=a.defers->Q .normal a' W')->wpListIn F n P ops.toArray Q l a W
variable {P : Program} {N : Nat} {fr : Tr Value} {ts : Option (List Value)}
theorem InvQ.rel {r:Nat}{J:Frz->Option (List Value)->World->Prop}(hJ:InvQ P r J) {z:Frz}{W:World}(h:J z ts W):Rel P W (lpB r z) stL W∧FreeA (lpB r z) stL.next:=by
 obtain ⟨L,hL⟩:=hJ.loop z ts W h;have hlt:=(Array.getElem?_eq_some_iff.1 hL).1;have h0:∀k,stL.heap.get k=none:=fun k=>Tr.get_e k
 refine ⟨⟨fun k b r sp hk=>(by rw[h0] at hk;cases hk),fun k k' r sp sp' _ hk=>absurd (h0 k) hk,fun k hk=>absurd (h0 k) hk,fun k r' sp hr=>?_,fun k r sp hk=>absurd (h0 k) hk,.refl _ _,fun g hg=>absurd hg (Nat.not_lt_zero g),fun o i v hv=>⟨hJ.val z ts W h o i v hv,fun k sp _ hk=>absurd (h0 k) hk⟩⟩,fun k hk=>if_neg (by have:1≤k:=hk;omega)⟩
 have hr:(if k=0 then some (r,0) else none)=some (r',sp):=hr
 split at hr
 ·cases hr;exact hlt
 ·cases hr
theorem InvQ.back {r:Nat}{J:Frz->Option (List Value)->World->Prop}(hJ:InvQ P r J) {z:Frz}{W W':World}{s':AS}{β':Bt}{fr1 fr2:Tr Value}{a:Act}(h:J z ts W) (hx:ExtX W.heap.size (lpB r z) β' stL.next s'.next) (hR:Rel P W β' s' W') (hF:FrR β' N fr1 a) (hc:Cov P N 1 fr1 s' fr2 stL) :
  ∃z',(∀o i v,z o i=some v->z' o i=some v)∧J z' ts W'∧FrR (lpB r z') N fr2 a:=by
 obtain ⟨β2,p1,p2,p5,p3,p4⟩:=hc.rel W β' W' a hR hx.free hF;have e:β2=lpB r β2.z:=by
  have:β2.m=fun k=>if k=0 then some (r,0) else none:=by
   funext k
   rcases Nat.lt_or_ge k 1 with hk|hk
   ·rw[p1 k hk,hx.keep k hk];rfl
   ·rw[p2 k hk,if_neg (by omega)]
  cases β2;simp only at this
  subst this;rfl
 have hz:=hx.z.trans p5;refine ⟨β2.z,hz.1,hJ.below z ts W W' β2.z h p3.below hz.1 fun o i v hv=>⟨(p3.frz o i v hv).1,hz.2 o i v hv⟩,?_⟩
 rw[← e];exact p4
theorem OpsU.nil {ops:List Oper}{k:Tr Value->Option (List Value)->Prop}(h:k fr ts):OpsU P N ops [] fr ts k:=⟨fun r J hJ F n z ts' a W Q hW hL h0 hF hn=>hn fr ts z a W h (fun _ _ _ h=>h) h0 hF (.refl _) rfl⟩
theorem OpsU.pure {ops l1 l2:List Oper}{k:Tr Value->Option (List Value)->Prop}(h:opsX propX P (extC P) (extS P) N ops (fun _ _=>False) l1 fr stL fun fr' s'=>∃fr2,Cov P N 1 fr' s' fr2 stL∧OpsU P N ops l2 fr2 ts k):OpsU P N ops (l1++l2) fr ts k:=by
 refine ⟨fun r J hJ F n z ts' a W Q hW hL h0 hF hn=>?_⟩
 obtain ⟨hR,hfa⟩:=hJ.rel h0;refine opsX_sound2 extC_ok extS_ok hW l2 l1 fr stL _ zL h _ a W hR hfa hF (fun _ _ _ _ h=>h.elim) fun fr' s' a' W' ⟨fr2,hc,h2⟩ hst ⟨β',q1,q2,q3,q4,q5⟩=>?_
 obtain ⟨z',z1,z2,z3⟩:=hJ.back h0 q1 q2 q3 hc;exact h2.out r J hJ F n z' ts' a' W' Q hW (hL.kd q4) z2 z3 fun fr' ts1 z2 a2 W2 u1 u2 u3 u4 u5 u6=>hn fr' ts1 z2 a2 W2 u1 (fun o i v h=>u2 o i v (z1 o i v h)) u3 u4 (q4.trans u5) (u6.trans q5)
theorem OpsU.cut {ops l:List Oper}{k:Tr Value->Option (List Value)->Prop}(n:Nat) (h:opsX propX P (extC P) (extS P) N ops (fun _ _=>False) (l.take n) fr stL fun fr' s'=>∃fr2,Cov P N 1 fr' s' fr2 stL∧OpsU P N ops (l.drop n) fr2 ts k):OpsU P N ops l fr ts k:=by
 have:=OpsU.pure h;rwa [List.take_append_drop] at this
theorem OpsU.op {v0 v1:Value}(hv0:flatV v0=true) (hv1:flatV v1=true) {ops l2:List Oper}{o:Oper}{ts1:List Value}{k:Tr Value->Option (List Value)->Prop}(hg:guardC ops o fr=some true) (ts0:List Value)
  (hd:∀r J,InvQ P r J->∀z ts' a W,J z (some (ts0++ts')) W->FrR (lpB r z) N fr a->DoesQ P W (fun v w'=>∃z',(∀o i v,z o i=some v->z' o i=some v)∧KD W w'∧((v=v0∧J z' (some ts') w')∨(v=v1∧J z' none w'))) ((execOp a.eval o).run P W))
  (h:putF propD N o.dst v0 fr fun fr=>OpsU P N ops l2 fr (some ts1) k) (h':putF propD N o.dst v1 fr fun fr=>OpsU P N ops l2 fr none k):OpsU P N ops (o::l2) fr (some (ts0++ts1)) k:=by
 refine ⟨fun r J hJ F n z ts' a W Q hW hL h0 hF hn=>?_⟩
 replace h0:J z (some (ts0++ts1++ts')) W:=h0;rw[List.append_assoc] at h0;have hdo:=hd r J hJ z (ts1++ts') a W h0 hF;unfold wpListIn;rw[if_pos (guardC_sound hg fun t _ u hu=>hF.at_ t u hu)];have hplain:∀c,o.op≠.defer c:=fun c ho=>by
  simp only[execOp,ho,Sem.run_bind] at hdo;generalize (resolve a.eval c o.type).run P W=r at hdo
  cases r with
  |ok d w=>exact hdo
  |halt x w=>exact hdo
 have next:∀v W',(∃z',(∀o i v,z o i=some v->z' o i=some v)∧KD W W'∧((v=v0∧J z' (some (ts1++ts')) W')∨(v=v1∧J z' none W')))->wpListIn F n P ops.toArray Q l2 (a.put o.dst v) W':=fun v W' ⟨z',z1,q4,hz⟩=>by
  rcases hz with ⟨rfl,z2⟩|⟨rfl,z2⟩
  ·have h':propD.T (putF propD N o.dst v fr fun fr=>OpsU P N ops l2 fr (some ts1) k):=h
   obtain ⟨hp,h1⟩:=putF_sound h';replace h1:OpsU P N ops l2 (setF o.dst v fr) (some ts1) k:=h1;refine h1.out r J hJ F n z' ts' _ W' Q hW (hL.kd q4) z2 ((hF.growX (β':=lpB r z') ⟨fun _ _ h=>h,z1⟩).put hp (.of_flat _ hv0)) fun fr' ts1 z2 a2 W2 u1 u2 u3 u4 u5 u6=>hn fr' ts1 z2 a2 W2 u1 (fun o i v h=>u2 o i v (z1 o i v h)) u3 u4 (q4.trans u5) (u6.trans (by cases o.dst<;>rfl))
  ·have h':propD.T (putF propD N o.dst v fr fun fr=>OpsU P N ops l2 fr none k):=h'
   obtain ⟨hp,h1⟩:=putF_sound h';replace h1:OpsU P N ops l2 (setF o.dst v fr) none k:=h1;refine h1.out r J hJ F n z' ts' _ W' Q hW (hL.kd q4) z2 ((hF.growX (β':=lpB r z') ⟨fun _ _ h=>h,z1⟩).put hp (.of_flat _ hv1)) fun fr' ts1 z2 a2 W2 u1 u2 u3 u4 u5 u6=>hn fr' ts1 z2 a2 W2 u1 (fun o i v h=>u2 o i v (z1 o i v h)) u3 u4 (q4.trans u5) (u6.trans (by cases o.dst<;>rfl))
 refine ⟨fun f _=>hW.fn f,?_⟩
 rw[Oper.semAt_eq _ _ _ hplain];generalize (execOp a.eval o).run P W=r at *
 cases r with
 |ok x w' =>
  cases x<;>simp only[DoesQ] at hdo<;>simp only[Oper.uponIn]
  case value v=>exact next _ _ hdo
  case enter f args =>
   obtain ⟨rfl,hc⟩:=hdo;exact ⟨hW.dep,hW.calls (hc.mono fun e w'' ⟨v,he,h⟩=>by subst he;exact next _ _ h)⟩
  case round =>
   obtain ⟨rfl,hc⟩:=hdo;exact ⟨hW.dep,hW.round (hc.mono fun e w'' ⟨v,he,h⟩=>by subst he;exact next _ _ h)⟩
 |halt x w'=>simp only[DoesQ] at hdo
theorem OpsU.call {v0 v1:Value}(hv0:flatV v0=true) (hv1:flatV v1=true) {ops l2:List Oper}{o:Oper}{c:Call}{f:Operand}{g:FuncId}{us ts0 ts1:List Value}{k:Tr Value->Option (List Value)->Prop}(hg:guardC ops o fr=some true) (ho:o.op=.call c) (hcal:c.callee=.value f) (hff:evC 0 fr f=some (.func (.func g) ⟨[]⟩ ⟨[]⟩)) (hen:entersB P g=true) (hus:evsC 0 fr c.args.toList=some us) (hI:IterQ P g us ts0 v0 v1)
  (h:putF propD N o.dst v0 fr fun fr=>OpsU P N ops l2 fr (some ts1) k) (h':putF propD N o.dst v1 fr fun fr=>OpsU P N ops l2 fr none k):OpsU P N ops (o::l2) fr (some (ts0++ts1)) k:=by
 refine .op hv0 hv1 hg ts0 (fun r J hJ z ts' a W h0 hF=>?_) h h'
 obtain ⟨hR,hfa⟩:=hJ.rel h0;have hop:=hF.op hR o;obtain ⟨a',b',e1,e2,e3⟩:=(hop f (by simp[ho,Op.operands,Call.operands,hcal]) _ hff).func_inv
 have e4:=evsC_sound (β:=lpB r z) (a:=a) hus fun z hz=>hop z (by simp only[ho,Op.operands,Call.operands,hcal];simp at hz ⊢;simp[hz])
 have h1:=e1.inv_nil;have h2:=e2.inv_nil;subst h1;subst h2;have e:execOp a.eval o=callFunc g (⟨c.args.toList.map a.eval⟩:Array Value):=by
  have ea:((⟨[]⟩:Array Value)++c.args.map a.eval++(⟨[]⟩:Array Value))=⟨c.args.toList.map a.eval⟩:=by
   apply Array.ext';simp
  rw[← ea];simp only[execOp,ho,resolve,hcal,e3,Deferred.ofValue];rfl
 rw[e,run_enters hen W];exact ⟨rfl,hI r J hJ z ts' W _ h0 e4⟩
theorem OpsU.round {ops l2:List Oper}{o:Oper}{c:Call}{f:Operand}{x:Value}{ts1:List Value}{k:Tr Value->Option (List Value)->Prop}(hg:guardC ops o fr=some true) (ho:o.op=.call c) (hcal:c.callee=.value f) (hff:evC 0 fr f=some (.func (.yield 0) ⟨[]⟩ ⟨[]⟩)) (hus:evsC 0 fr c.args.toList=some [x]) (hx:NoNm x)
  (h:putF propD N o.dst (.bool true) fr fun fr=>OpsU P N ops l2 fr (some ts1) k) (h':putF propD N o.dst (.bool false) fr fun fr=>OpsU P N ops l2 fr none k):OpsU P N ops (o::l2) fr (some (x::ts1)) k:=by
 refine .op (v0:=.bool true) (v1:=.bool false) rfl rfl hg [x] (fun r J hJ z ts' a W h0 hF=>?_) h h'
 obtain ⟨hR,hfa⟩:=hJ.rel h0;have hop:=hF.op hR o;obtain ⟨r',sp,e1,e3⟩:=(hop f (by simp[ho,Op.operands,Call.operands,hcal]) _ hff).yld_inv
 have e1':(r,0)=(r',sp):=by
  have:(if (0:Nat)=0 then some (r,0) else none)=some (r',sp):=e1
  simpa using this
 cases e1';have e4:=evsC_sound (β:=lpB r z) (a:=a) hus fun z hz=>hop z (by simp only[ho,Op.operands,Call.operands,hcal];simp at hz ⊢;simp[hz])
 obtain ⟨v,t,e5,e6,e7⟩:=e4.inv_cons;have h1:=e7.inv_nil;subst h1;have e:(execOp a.eval o).run P W=(Instr.yield r ⟨[v]⟩).run P W:=by
  have ea:(c.args.map a.eval:Array Value)=⟨[v]⟩:=by apply Array.ext';simpa using e5
  simp[execOp,ho,resolve,hcal,e3,Deferred.ofValue,invoke,ea]
 rw[e];exact hJ.round z x ts' W v h0 (hx.rel e6)
theorem IterU.region {id:Nat}{ops:List Oper}{k:Exit->Tr Value->Option (List Value)->Prop}(h:OpsU P N ops ops fr ts (k .normal)):IterU P N (.region id ⟨ops⟩ false) fr ts k:=by
 refine ⟨fun r J hJ F n z ts' a W Q hW hL h0 hF hn=>?_⟩
 exact wpIn_region_list (h.out r J hJ F n z ts' a W Q hW hL h0 hF fun fr' ts1 z' a' W' h1 h2 h3 h4 h5 h6=>hn .normal fr' ts1 z' a' W' h1 h2 h3 h4 h5 (by rw[h6];exact .refl _ _ _))
theorem IterU.pure {c:Code}{k:Exit->Tr Value->Option (List Value)->Prop}(hm:P.follows .mixedOrders=true) (h:codeX propX P (extC P) (extS P) N 0 c fr stL fun e fr' s'=>∃fr2,Cov P N 1 fr' s' fr2 stL∧k e fr2 ts):IterU P N c fr ts k:=by
 refine ⟨fun r J hJ F n z ts' a W Q hW hL h0 hF hn=>?_⟩
 obtain ⟨hR,hfa⟩:=hJ.rel h0;refine codeX_sound hm extC_ok extS_ok 0 c fr stL _ zL h F n W (lpB r z) a W Q hW hL hR hfa hF fun e fr' s' a' W' ⟨fr2,hc,h2⟩ hst ⟨β',q1,q2,q3,q4,q5,q6⟩=>?_
 obtain ⟨z',z1,z2,z3⟩:=hJ.back h0 q1 q2 q3 hc;exact hn e fr2 ts z' a' W' h2 z1 z2 z3 q4 q6
theorem IterU.seq {c d:Code}{k:Exit->Tr Value->Option (List Value)->Prop}(h:IterU P N c fr ts fun e fr' ts'=>match e with
  |.normal=>IterU P N d fr' ts' k
  |e=>k e fr' ts'):IterU P N (c.seq d) fr ts k:=by
 refine ⟨fun r J hJ F n z ts' a W Q hW hL h0 hF hn=>?_⟩
 refine wpIn_seq (h.out r J hJ F n z ts' a W _ hW hL h0 hF fun e fr' ts1 z' a' W' h1 h2 h3 h4 h5 h6=>?_)
 cases e with
 |normal=>exact h1.out r J hJ F n z' ts' a' W' Q hW (hL.kd h5) h3 h4 fun e fr'' ts2 z2 a2 W2 u1 u2 u3 u4 u5 u6=>hn e fr'' ts2 z2 a2 W2 u1 (fun o i v h=>u2 o i v (h2 o i v h)) u3 u4 (h5.trans u5) (h6.trans u5 h5.z u6)
 |_=>exact hn _ fr' ts1 z' a' W' h1 h2 h3 h4 h5 h6
theorem IterU.block {id:Nat}{c:Code}{k:Exit->Tr Value->Option (List Value)->Prop}(h:IterU P N c fr ts fun e fr ts=>match e with
  |.exit id'=>match decide (id'=id) with
   |true=>k .normal fr ts
   |false=>k (.exit id') fr ts
  |e=>k e fr ts):IterU P N (.block id c) fr ts k:=by
 refine ⟨fun r J hJ F n z ts' a W Q hW hL h0 hF hn=>?_⟩
 refine wpIn_block (h.out r J hJ F n z ts' a W _ hW hL h0 hF fun e fr' ts1 z' a' W' h1 h2 h3 h4 h5 h6=>?_)
 have key:∃e',k e' fr' ts1∧∀Q:Exit->Act->World->Prop,Exit.inBlock id Q e=Q e':=by
  cases e with
  |exit id' =>
   by_cases he:id'=id
   ·simp only[he,decide_true] at h1;exact ⟨_,h1,fun Q=>by funext a w;simp[Exit.inBlock,he]⟩
   ·simp only[he,decide_false] at h1;exact ⟨_,h1,fun Q=>by funext a w;simp[Exit.inBlock,he]⟩
  |_=>exact ⟨_,h1,fun Q=>rfl⟩
 obtain ⟨e',h2',he⟩:=key;rw[he];exact hn _ _ _ _ _ _ h2' h2 h3 h4 h5 h6
theorem IterU.loop {c:Code}{k:Exit->Tr Value->Option (List Value)->Prop}{α:Type}(I:α->Prop) (f:α->Tr Value×Option (List Value)) (μ:α->Nat) (a0:α) (hI:I a0) (e0:(fr,ts)=f a0)
  (h:∀x,I x->IterU P N c (f x).1 (f x).2 fun e fr' ts'=>match e with
   |.normal=>∃x',I x'∧μ x'<μ x∧(fr',ts')=f x'
   |e=>k e fr' ts'):IterU P N (.loop c) fr ts k:=by
 refine ⟨fun r J hJ F n z ts' a W Q hW hL h0 hF hn=>?_⟩
 have key:∀(m:Nat) (x:α),I x->μ x<m->∀(z1:Frz) (a1:Act) (W1:World),(∀o i v,z o i=some v->z1 o i=some v)->J z1 (cat (f x).2 ts') W1->FrR (lpB r z1) N (f x).1 a1->KD W W1->DM W.heap.size W1 a.defers a1.defers->Code.roundsIn F n P c Q m a1 W1:=by
  intro m;induction m with
  |zero=>intro x _ hx;omega
  |succ m ih =>
   intro x hxI hx z1 a1 W1 g1 g2 g3 g4 g5;refine (h x hxI).out r J hJ F n z1 ts' a1 W1 _ hW (hL.kd g4) g2 g3 fun e fr' ts1 z2 a2 W2 h1 h2 h3 h4 h5 h6=>?_
   have hz:∀o i v,z o i=some v->z2 o i=some v:=fun o i v h=>h2 o i v (g1 o i v h)
   have fin:k e fr' ts1->Q e a2 W2:=fun h'=>hn e fr' ts1 z2 a2 W2 h' hz h3 h4 (g4.trans h5) (g5.trans h5 g4.z h6)
   cases e with
   |normal =>
    obtain ⟨x',hI',hm',he⟩:=h1;have e1:fr'=(f x').1:=by rw[← he]
    have e2:ts1=(f x').2:=by rw[← he]
    subst e1;subst e2;exact ih x' hI' (by omega) z2 a2 W2 hz h3 h4 (g4.trans h5) (g5.trans h5 g4.z h6)
   |_=>exact fin h1
 have e1:fr=(f a0).1:=by rw[← e0]
 have e2:ts=(f a0).2:=by rw[← e0]
 subst e1;subst e2;exact wpIn_loop_rounds _ (key (μ a0+1) a0 hI (Nat.lt_succ_self _) z a W (fun _ _ _ h=>h) h0 hF (.refl _) (.refl _ _ _))
theorem IterQ.body {v0 v1:Value}{ts:List Value}(hv0:flatV v0=true) (hv1:flatV v1=true) {f:FuncId}{fn:Func}{c:Code}{args:List Value}{rs:List ResultVar}(hfn:P.funcs[f]?=some fn) (hb:fn.body=some c) (hN:args.length+(fn.ntmps-args.length)=N) (hrs:fn.results.toList=rs)
  (h:IterU P N c (argsF args 0 .e) (some ts) fun e fr ts'=>(ts'=some []∨ts'=none)∧match e with
   |.normal=>resC propD P fr stL rs fun l=>(ts'=some []->retC l=v0)∧(ts'=none->retC l=v1)
   |.ret=>resC propD P fr stL rs fun l=>(ts'=some []->retC l=v0)∧(ts'=none->retC l=v1)
   |_=>False):IterQ P f args ts v0 v1:=by
 subst hN;subst hrs;intro r J hJ z ts' W vs h0 hv
 refine (callsIn_wide (n:=0)).1 (callsIn_of_wp_marks hfn hb trivial (h.out r J hJ Fence.wide 0 z ts' _ W _ (.inl rfl) (fun l hl=>by cases hl) h0 (frR_start hv fn.ntmps) fun e fr' ts1 z' a' W' ⟨h1,h2⟩ h3 h4 h5 h6 h7=>?_))
 have key:resC propD P fr' stL fn.results.toList (fun l=>(ts1=some []->retC l=v0)∧(ts1=none->retC l=v1))∧(e=.normal∨e=.ret):=by
  cases e<;>first|exact ⟨h2,.inl rfl⟩|exact ⟨h2,.inr rfl⟩|exact absurd h2 id
 obtain ⟨us,h8,h9⟩:=resC_sound (D:=propD) (N:=args.length+(fn.ntmps-args.length)) _ _ key.1;obtain ⟨l,e1,e2,e3⟩:=h7;have fin:LeavesInM Fence.wide 0 P fn a'.tmps (fun e w'=>∃v,e=.returned v∧∃z',(∀o i v,z o i=some v->z' o i=some v)∧KD W w'∧((v=v0∧J z' (some ts') w')∨(v=v1∧J z' none w'))) a'.defers .returning W':=by
  rw[e1,List.append_nil];refine run_takes l W' e2 (fun d hd=>(e3 d hd).2) fun W'' p1 p2 p3 p4 p5 p6=>?_
  have hJ':=hJ.takes z' (cat ts1 ts') W' z (some (ts++ts')) W W'' l h4 h0 (fun d hd=>e3 d hd) p1 p2 p3 p4 p5
  have hR2:=(hJ.rel hJ').1;obtain ⟨ws,r1,r2⟩:=h9 W'' _ a' W'' hR2 h5;have hkd:KD W W'':=⟨fun d hd=>by
   rw[p5 d fun x hx e=>by
    have:=(e3 x hx).1;have:=(Array.getElem?_eq_some_iff.1 hd).1;omega]
   exact h6.d d hd,fun d L hd=>by
   rw[p5 d fun x hx e=>by
    have:=(e3 x hx).1;have:=(Array.getElem?_eq_some_iff.1 hd).1;omega]
   exact h6.l d L hd,by rw[p4];exact h6.z,by rw[p6];exact h6.n⟩
  have hrl:=retC_rel r1;have h8:(ts1=some []->retC us=v0)∧(ts1=none->retC us=v1):=h8;refine ⟨_,run_results r2,_,rfl,z',h3,hkd,?_⟩;rcases h1 with rfl|rfl
  ·rw[h8.1 rfl] at hrl;exact .inl ⟨hrl.flat_eq hv0,hJ'⟩
  ·rw[h8.2 rfl] at hrl;exact .inr ⟨hrl.flat_eq hv1,hJ'⟩
 rcases key.2 with rfl|rfl
 ·exact fin
 ·exact fin
theorem SoundAt.iterQ {l:Nat}{f:FuncId}{args rest ts:List Value}{v0 v1:Value}{s:AS}{K:Value->AS->Prop}{σ:Type}(hv0:flatV v0=true) (hv1':flatV v1=true) (hI:IterQ P f (.func (.yield 0) ⟨[]⟩ ⟨[]⟩::rest) ts v0 v1) (hc:NoNms rest) (S:List Value->AS) (I:List Value->Prop) (st:σ->AS) (SP:σ->Prop) (hI0:I ts) (sl:List (Nat×Value))
  (hcov:Cov P (args.length+(0-args.length)) s.next (argsF args 0 .e) s (mkF sl) (S ts)) (hlen:args.length=rest.length+1) (hsl:∀i u,(Value.func (.yield l) ⟨[]⟩ ⟨[]⟩::rest)[i]?=some u->Tr.at (pt i) (mkF sl)=some u) (hl:l<s.next)
  (hS:∀ts',ts' <:+ ts->(S ts').lo=s.lo∧(S ts').glb=s.glb∧s.next≤(S ts').next∧(∀k,k<s.lo->(S ts').heap.get k=s.heap.get k)∧isLoop ((S ts').heap.get l)=true)
  (hSt:∀b,SP b->(st b).lo=s.lo∧(st b).glb=s.glb∧s.next≤(st b).next∧(∀k,k<s.lo->(st b).heap.get k=s.heap.get k)∧isLoop ((st b).heap.get l)=true)
  (hround:∀x ts',(x::ts') <:+ ts->I (x::ts')->SoundRound P l [x] (S (x::ts')) fun u t=>(u=.bool true∧I ts'∧CovS P s.next t (S ts'))∨(u=.bool false∧∃b,SP b∧CovS P s.next t (st b))) (hK:I []->K v0 (S [])) (hK1:∀b,SP b->K v1 (st b)):SoundAt P f args s K:=by
 refine ⟨fun hlo W0 β W vs hR hf hv=>?_⟩
 obtain ⟨β1,g1,g2,g3,g4,g5⟩:=hcov.rel W0 β W _ hR hf (frR_start hv 0);have hv1:VRs β1 (Value.func (.yield l) ⟨[]⟩ ⟨[]⟩::rest) vs:=⟨by rw[← hv.1,hlen,List.length_cons],fun i u v hu hv'=>by
  have:=g5.at_ i u (hsl i u hu);have e:(((⟨vs⟩:Array Value)++Array.replicate (0-(⟨vs⟩:Array Value).size) undef:Array Value)[i]?)=some v:=by simp[hv']
  rw[Array.getD_eq_getD_getElem?,e] at this;exact this⟩
 obtain ⟨v2,vt,rfl,hvh,hvt⟩:=hv1.inv_cons;obtain ⟨r,sp,e1,e2⟩:=hvh.yld_inv;subst e2;let SS:List Value ⊕ σ->AS:=fun t=>match t with | .inl ts'=>S ts' | .inr b=>st b
 let OK:List Value ⊕ σ->Prop:=fun t=>match t with | .inl ts'=>ts' <:+ ts∧I ts' | .inr b=>SP b
 have hSS:∀t,OK t->(SS t).lo=s.lo∧(SS t).glb=s.glb∧s.next≤(SS t).next∧(∀k,k<s.lo->(SS t).heap.get k=s.heap.get k)∧isLoop ((SS t).heap.get l)=true:=fun t ht=>by
  cases t with
  |inl ts'=>exact hS ts' ht.1
  |inr b=>exact hSt b ht
 let G:Frz->List Value ⊕ σ->World->Prop:=fun z t W'=>OK t∧(∀o i x,β1.z o i=some x->z o i=some x)∧(∀o i x,z o i=some x->β1.z o i=some x∨W0.heap.size≤o)∧∃m:Nat->Option (Nat×Nat),(∀k,k<s.next->m k=β1 k)∧FreeA ⟨m,z⟩ (SS t).next∧Rel P W0 ⟨m,z⟩ (SS t) W'
 let J:Frz->Option (List Value)->World->Prop:=fun z o W'=>match o with
  |some ts'=>G z (.inl ts') W'
  |none=>∃b,G z (.inr b) W'
 have gval:∀z t W,G z t W->∀o i v,z o i=some v->W.cell? ⟨o,i,none⟩=some v:=fun z t W' ⟨_,_,_,m,_,_,h⟩ o i v hv=>(h.frz o i v hv).1
 have gloop:∀z t W,G z t W->∃L,W.heap[r]?=some (.loop L):=fun z t W' ⟨h1,_,_,m,h2,_,h3⟩=>by
  have hlp:=(hSS t h1).2.2.2.2;cases hb:(SS t).heap.get l with
  |none=>rw[hb] at hlp;cases hlp
  |some b =>
   rw[hb] at hlp;cases b<;>simp only[isLoop,Bool.false_eq_true] at hlp
   obtain ⟨L,hL,_⟩:=h3.blk l _ r sp hb ((h2 l hl).trans e1);exact ⟨L,hL⟩
 have gbelow:∀z t W W' z',G z t W->Below W.heap.size W W'->(∀o i v,z o i=some v->z' o i=some v)->(∀o i v,z' o i=some v->W'.cell? ⟨o,i,none⟩=some v∧(z o i=some v∨W.heap.size≤o))->G z' t W':=fun z t W1 W2 z' ⟨h1,h4,h5,m,h2,h6,h3⟩ hb hz hz'=>by
  refine ⟨h1,fun o i x hx=>hz o i x (h4 o i x hx),fun o i x hx=>?_,m,h2,h6,?_⟩
  ·rcases (hz' o i x hx).2 with h|h
   ·exact h5 o i x h
   ·exact .inr (Nat.le_trans h3.below.size h)
  ·exact (h3.later hb).frozen (n:=W1.heap.size) h3.lt hz hz'
 have gtakes:∀z t W z1 t1 W1 W' (l:List Nat),G z t W->G z1 t1 W1->(∀d∈l,W1.heap.size≤d∧W.heap[d]?=some (.deferred (some [])))->W'.os=W.os->W'.tape=W.tape->W'.output=W.output->W'.heap.size=W.heap.size->(∀i,(∀d∈l,i≠d)->W'.heap[i]?=W.heap[i]?)->G z t W':=fun z t W1 z1 t1 W2 W3 l' ⟨h1,h4,h5,m,h2,h6,h3⟩ ⟨_,_,_,m1,_,_,q3⟩ hd p1 p2 p3 p4 p5 =>
  ⟨h1,h4,h5,m,h2,h6,h3.takes (fun d hd'=>⟨Nat.le_trans q3.below.size (hd d hd').1,(hd d hd').2⟩) p1 p2 p3 p4 p5⟩
 have jg:∀z o W,J z o W->∃t,G z t W∧∀z' W',G z' t W'->J z' o W':=fun z o W h=>by
  cases o with
  |some ts'=>exact ⟨.inl ts',h,fun _ _ h=>h⟩
  |none=>obtain ⟨b,h⟩:=h;exact ⟨.inr b,h,fun _ _ h=>⟨b,h⟩⟩
 have hJ:InvQ P r J:=by
  refine ⟨fun z o W h=>?_,fun z o W h=>?_,fun z o W1 W2 z' h hb hz hz'=>?_,fun z o W1 z1 o1 W2 W3 l' h h' hd p1 p2 p3 p4 p5=>?_,fun z x ts' W1 v ⟨h1,h4,h5,m,h2,h6,h3⟩ hv=>?_⟩
  ·obtain ⟨t,h,_⟩:=jg _ _ _ h;exact gval z t W h
  ·obtain ⟨t,h,_⟩:=jg _ _ _ h;exact gloop z t W h
  ·obtain ⟨t,h,hh⟩:=jg _ _ _ h;exact hh _ _ (gbelow z t W1 W2 z' h hb hz hz')
  ·obtain ⟨t,h,hh⟩:=jg _ _ _ h;obtain ⟨t1,h',_⟩:=jg _ _ _ h';exact hh _ _ (gtakes z t W1 z1 t1 W2 W3 l' h h' hd p1 p2 p3 p4 p5)
  ·obtain ⟨h1,hi1⟩:(x::ts') <:+ ts∧I (x::ts'):=h1;replace h3:Rel P W0 ⟨m,z⟩ (S (x::ts')) W1:=h3;replace h6:FreeA ⟨m,z⟩ (S (x::ts')).next:=h6;have hdo:=(hround x ts' h1 hi1).out (by rw[(hS _ h1).1];exact Nat.le_trans hlo (hS _ h1).2.2.1) W0 ⟨m,z⟩ W1 [v] r sp h3 h6 (.cons (VR.growX (β:=⟨fun _=>none,z⟩) (β':=⟨m,z⟩) ⟨fun k y hk=>(by cases hk),fun _ _ _ h=>h⟩ hv) (.nil _)) ((h2 l hl).trans e1) (fun _ _=>False)
   have h1':ts' <:+ ts:=(List.suffix_cons x ts').trans h1;have key:∀u t v W2,((u=.bool true∧I ts'∧CovS P s.next t (S ts'))∨(u=.bool false∧∃b,SP b∧CovS P s.next t (st b)))->LaysX P W0 ⟨m,z⟩ W1 (S (x::ts')) t u v W2->∃z',(∀o i v,z o i=some v->z' o i=some v)∧KD W1 W2∧((v=.bool true∧J z' (some ts') W2)∨(v=.bool false∧J z' none W2)):=by
    rintro u t v W2 hcv ⟨β2,u1,u2,u3,u4⟩
    have one:∀y:List Value ⊕ σ,OK y->CovS P s.next t (SS y)->∃z',(∀o i v,z o i=some v->z' o i=some v)∧G z' y W2:=fun y hy hcv=>by
     obtain ⟨β3,p1,p2,p3,p4⟩:=hcv.rel W0 β2 W2 u2 u1.free;have hz:=u1.z.trans p3;refine ⟨β3.z,hz.1,hy,fun o i x hx=>hz.1 o i x (h4 o i x hx),fun o i x hx=>(hz.2 o i x hx).elim (h5 o i x) .inr,β3.m,fun k hk=>?_,p2,p4⟩
     rw[p1 k hk,u1.keep k (Nat.lt_of_lt_of_le hk (hS _ h1).2.2.1)];exact h2 k hk
    rcases hcv with ⟨rfl,hi2,hcv⟩|⟨rfl,b,hb,hcv⟩
    ·obtain ⟨z',hz,hg⟩:=one (.inl ts') ⟨h1',hi2⟩ hcv;exact ⟨z',hz,u4,.inl ⟨u3.flat1_eq rfl,hg⟩⟩
    ·obtain ⟨z',hz,hg⟩:=one (.inr b) hb hcv;exact ⟨z',hz,u4,.inr ⟨u3.flat1_eq rfl,b,hg⟩⟩
   generalize (Instr.yield r ⟨[v]⟩).run P W1=res at hdo
   cases res with
   |ok y W2 =>
    cases y<;>simp only[DoesX] at hdo<;>simp only[DoesQ]
    case value v' =>
     obtain ⟨u,t,q1,q2,q3⟩:=hdo;exact key u t _ W2 q1 q3
    case skip =>
     obtain ⟨u,t,q1,q2,q3⟩:=hdo;obtain ⟨_,_,_,h|h⟩:=key u t _ W2 q1 q3
     ·simp[undef] at h
     ·simp[undef] at h
    case enter f' args' =>
     refine ⟨hdo.1,hdo.2.mono fun e w'' h=>?_⟩
     rcases h with ⟨v,u,t,q0,q1,q2,q3⟩|⟨_,_,_,h,_⟩
     ·exact ⟨v,q0,key u t v w'' q1 q3⟩
     ·exact h.elim
    case round =>
     exact ⟨hdo.1,hdo.2.mono fun e w'' ⟨v,u,t,q0,q1,q2,q3⟩=>⟨v,q0,key u t v w'' q1 q3⟩⟩
   |halt y W2 =>
    cases y<;>simp only[DoesX] at hdo
    obtain ⟨_,h,_⟩:=hdo;exact h.elim
 have hJ0:J β1.z (some (ts++[])) W:=by
  rw[List.append_nil];exact ⟨⟨List.suffix_refl _,hI0⟩,fun _ _ _ h=>h,fun _ _ _ h=>.inl h,β1.m,fun _ _=>rfl,g2,g4⟩
 refine (hI r J hJ β1.z [] W _ hJ0 (.cons (.yld 0 r 0 rfl) (VRs.growX (β:=⟨fun _=>none,β1.z⟩) (β':=lpB r β1.z) ⟨fun k y hk=>(by cases hk),fun _ _ _ h=>h⟩ (NoNm.rels hc.all hvt)))).mono fun e w' ⟨v,he,z',h1,h8,hfin⟩=>?_
 have fin:∀y v',OK y->flatV v'=true->K v' (SS y)->G z' y w'->v=v'->∃v u s',e=.returned v∧K u s'∧StpX s s'∧LaysX P W0 β W s s' u v w':=fun y v' hy hfl hk ⟨h2,h3,h4,m,h5,h6,h7⟩ hvv=>by
  obtain ⟨s1,s2,s3,s4,s5⟩:=hSS y hy;refine ⟨v',v',SS y,by rw[he,hvv],hk,⟨s3,s1,s2,s4⟩,⟨m,z'⟩,⟨fun k hk=>(h5 k hk).trans (g1 k hk),h6,fun o i x hx=>h3 o i x (g3.1 o i x hx),fun o i x hx=>(h4 o i x hx).elim (g3.2 o i x) .inr⟩,h7,.of_flat _ hfl,h8⟩
 rcases hfin with ⟨hvv,hg⟩|⟨hvv,b,hg⟩
 ·exact fin (.inl []) v0 hg.1 hv0 (hK hg.1.2) hg hvv
 ·exact fin (.inr b) v1 hg.1 hv1' (hK1 b hg.1) hg hvv
theorem Cov.boxF {P:Program}{N n0:Nat}{fr:Tr Value}{s:AS}(ρ:Nat->Nat) (kf:Nat) (x:Value) {T:TypeId}{xs:List Value}{l:List (Nat×Value)}{hl:List (Nat×Option Blk)}{n lo glb:Nat}(e1:lo=s.lo) (e2:glb=s.glb) (hn:n0≤n) (hg:glb≤n0) (hρ:∀k,k<n0->ρ k=k)
  (hkeys:keysB ρ lo n (hl.map (·.1))=true) (hkeep:∀k,k<lo->(mkO hl).get k=s.heap.get k) (hkf:s.lo≤kf) (hno:((hl.map (·.1)).all fun k=>decide (ρ k≠kf))=true) (hk:s.heap.get kf=some (.cells T xs false)) (hxs:cellsOf x=xs) (hx:xs≠[]) (hc:∀y,y∈xs->NoNm y)
  (hb:blksO s.heap n ⟨ρ,fun u1 u=>u1=imP x 0∧u=.pointer (some ⟨kf,0,none⟩)⟩ hl) (hf:slotsRen fr n ⟨ρ,fun u1 u=>u1=imP x 0∧u=.pointer (some ⟨kf,0,none⟩)⟩ l):Cov P N n0 fr s (mkF l) ⟨mkO hl,n,lo,glb⟩:=by
 have hkeys:=keysB.all hkeys;have hget:∀k b,(mkO hl).get k=some b->k∈hl.map (·.1)∧∃b',s.heap.get (ρ k)=some b'∧RenB n ⟨ρ,fun u1 u=>u1=imP x 0∧u=.pointer (some ⟨kf,0,none⟩)⟩ b b':=fun k b h=>by
  have hm:=mkO_get h;exact ⟨List.mem_map.2 ⟨_,hm,rfl⟩,hb.all _ hm b rfl⟩
 have hmem:∀k,(mkO hl).get k≠none->k∈hl.map (·.1):=fun k h=>by
  obtain ⟨b,hbk⟩:=Option.ne_none_iff_exists'.1 h;exact (hget k b hbk).1
 refine Cov.gen ρ kf (fun u1 u=>u1=imP x 0∧u=.pointer (some ⟨kf,0,none⟩)) (T:=T) (op:=false) (xs:=xs) e1 e2 hn hg hρ (fun k b h=>?_) (fun k k' h h' e=>?_) hkeep hkf (fun _=>hk) (fun u1 u ⟨h1,h2⟩=>?_) (fun t u hu=>?_)
 ·obtain ⟨h1,h2⟩:=hget k b h;obtain ⟨g1,g2,_⟩:=hkeys k h1;exact ⟨g1,g2,fun _=>of_decide_eq_true (List.all_eq_true.1 hno k h1),h2⟩
 ·exact (hkeys k (hmem k h)).2.2 k' (hmem k' h') e
 ·subst h1;subst h2;exact .box x 0 hx hxs hc
 ·exact hf.all _ (mkF_mem hu)
theorem RenB.lp {n:Nat}{ρ:Ren}{st:LoopState}{pe:Option Code}{l:List (Nat×Value)}{fr:Tr Value}{N:Nat}{ps:List Tmp}{asg bo:Code}(h:slotsRen fr n ρ l):RenB n ρ (.loop st pe (mkF l) N ps asg bo) (.loop st pe fr N ps asg bo) :=
 .loop _ _ _ _ _ _ _ _ fun t u hu=>h.all _ (mkF_mem hu)
def rangeIn:Code->Option (List Tmp×Code×Code)
 |.rangeFunc _ ps a b=>some (ps.toList,a,b)
 |.seq a b=>match rangeIn a with
  |some x=>some x
  |none=>rangeIn b
 |.cond _ a b=>match rangeIn a with
  |some x=>some x
  |none=>rangeIn b
 |.block _ c=>rangeIn c
 |.loop c=>rangeIn c
 |.scope c=>rangeIn c
 |_=>none
def rangeF (b:Option Code):List Tmp×Code×Code:=match (match b with
  |some c=>rangeIn c
  |none=>none) with
 |some x=>x
 |none=>([],.skip,.skip)
theorem SoundAt.coverS {P:Program}{f:FuncId}{args:List Value}{s:AS}{K:Value->AS->Prop}(h:SoundAt P f args s fun u t=>flatV u=true∧∃t',CovS P s.next t t'∧K u t'):SoundAt P f args s K:=by
 refine ⟨fun hlo W0 β W vs hR hf hv=>?_⟩
 refine (h.out hlo W0 β W vs hR hf hv).mono fun e w' ⟨v,u,s',he,⟨hfl,t',hc,hk⟩,hst,β',h1,h2,h3,h4⟩=>?_
 obtain ⟨β1,p1,p2,p3,p4⟩:=hc.rel W0 β' w' h2 h1.free;refine ⟨v,u,t',he,hk,⟨hc.next,hc.lo.trans hst.lo,hc.glb.trans hst.glb,fun k hk'=>(hc.keep k (by rw[hst.lo];exact hk')).trans (hst.keep k hk')⟩,β1,⟨fun k hk'=>(p1 k hk').trans (h1.keep k hk'),p2,h1.z.trans p3⟩,p4,?_,h4⟩
 rw[h3.flat_eq hfl];exact .of_flat _ hfl
end Go.Proofs.YtocppbocphnbcaaGreatDoor.U
namespace Go.Proofs.YtocppbocphnbcaaGreatDoor
open Go Go.RowKit Go.Sort U
set_option linter.unusedVariables false
set_option linter.unusedSimpArgs false
set_option maxRecDepth 100000
set_option maxHeartbeats 40000000
theorem keyN_at {m:List (Int×Int)}{i:Nat}{z c:Int}(h:m[i]?=some (z,c)):keyN m i=z:=by simp[keyN,h]
theorem keys_perm {m:List (Int×Int)}{x:List Nat}(h1:x.Nodup) (h2:∀i∈x,i<m.length) (h3:∀i,i<m.length->i∈x):(x.map (keyN m)).Perm (m.map (·.1)):=by
 have h4:x.Perm (List.range m.length):=(List.perm_ext_iff_of_nodup h1 List.nodup_range).2 fun i=>⟨fun h=>by simpa using h2 i h,fun h=>h3 i (by simpa using h)⟩
 have h5:(List.range m.length).map (keyN m)=m.map (·.1):=by
  apply List.ext_getElem?;intro i;rcases Nat.lt_or_ge i m.length with h|h
  ·simp[h,keyN]
  ·simp[h]
 rw[← h5];exact h4.map _
noncomputable def rangeA:List Tmp×Code×Code:=rangeF Tryz.f109.body
noncomputable def lpA:U.Blk:=.loop .ready none (mkF [(2,.pointer (some ⟨2,0,none⟩))]) 13 rangeA.1 rangeA.2.1 rangeA.2.2
theorem lpA_ren {n:Nat}{ρ:U.Ren}{fr:Tr Value}{N:Nat}{ps:List Tmp}{asg bo:Code}(hn:2<n) (h0:ρ 2=2) (e0:N=13) (e1:ps=rangeA.1) (e2:asg=rangeA.2.1) (e3:bo=rangeA.2.2) (g1:Tr.at (pt 2) fr=some (.pointer (some ⟨2,0,none⟩))):U.RenB n ρ lpA (.loop .ready none fr N ps asg bo):=by
 subst e0;subst e1;subst e2;subst e3;exact RenB.lp (.cons g1 (.ptr _ _ _ hn h0) .nil)
abbrev kV:Value:=.func (.func 103) ⟨[]⟩ ⟨[.pointer (some ⟨0,0,none⟩)]⟩
theorem sorted_i (m:List (Int×Int)) (hm:m.length≤40000) (hn:(m.map (·.1)).Nodup):DenI Tryz.prog 91 [kV] [.cells 123 [.map (some 1)] false,mB m] (rowS 0 (iL (srtI (m.map (·.1))))) [rowO 3 (iL (srtI (m.map (·.1))))]:=by
 obtain ⟨TT,hTT⟩:∃TT,TT=srtI (m.map (·.1)):=⟨_,rfl⟩
 rw[← hTT];refine denI_of_sound 2 rfl (h:=mkO [(0,some (.cells 123 [.map (some 1)] false)),(1,some (mB m))]) ?_ (SoundAt.body hmixU Tryz.func91 rfl rfl rfl 0 ?_)
 ·intro k b h;have:=mkO_get h;simp only[List.mem_cons,List.not_mem_nil,or_false,Prod.mk.injEq,Option.some.injEq] at this;rcases this with ⟨rfl,rfl⟩|⟨rfl,rfl⟩<;>rfl
 (repeat' ((conv=>whnf);first|refine goA ?_|refine U.SoundAt.body hmixU Tryz.func101 rfl rfl rfl 0 ?_|refine U.SoundAt.body hmixU Tryz.func109 rfl rfl rfl 0 ?_|refine U.SoundAt.body hmixU Tryz.func103 rfl rfl rfl 0 ?_|refine goB ?_|refine U.lw_c ?_ ?_<;>intro hb))
 (conv=>whnf);refine loop_inv (α:=List Nat×List Int) (fun x=>(x.1.Nodup∧∀i∈x.1,i<m.length)∧x.2=x.1.map (keyN m)) (fun x=>(mkF [(0,.func (.yield 3) ⟨[]⟩ ⟨[]⟩),(5,.pointer (some ⟨4,0,none⟩))],⟨mkO [(0,some (.cells 123 [.map (some 1)] false)),(1,some (mB m)),(2,some (.cells 22 [rowS 5 (iL x.2)] false)),(3,some lpA),(4,some (.iter 1 m.length x.1 m.length)),(5,rowO 3 (iL x.2))],6,2,0⟩)) (fun x=>m.length-x.1.length) ([],[]) ⟨⟨.nil,fun i hi=>by cases hi⟩,rfl⟩ (Cov.renO (fun k=>k) rfl rfl (bR rfl) zL (fun _ _=>rfl) rfl (fun k hk=>by have hk:k<2:=hk;rcases (by omega:k=0∨k=1) with rfl|rfl<;>rfl) (.C rfl (.cons (.mp _ _ (by decide) rfl) .nil) (.cons rfl (RenB.mapE rfl rfl rfl (mE_noNm cleanI _)) (.C rfl (.K rfl rfl .nil) (.cons rfl (lpA_ren (by decide) rfl rfl rfl rfl rfl rfl) (.cons rfl (.iter _ _ _ _ _ (by decide) rfl) (.none .nil)))))) (.cons rfl (.yld _ _ (by decide) rfl) (.cons rfl (.P rfl) .nil))) ?_
 rintro ⟨x,R⟩ ⟨⟨i1,i2⟩,hR⟩
 dsimp only at i1 i2 hR;dsimp only;have hb:(bornB m.length m.length (List.range m.length)&&Nat.ble 0 3)=true:=by rw[bornB_range];rfl
 (repeat' ((conv=>whnf);first|refine goA ?_|refine U.ob_c hb ?_|refine goB ?_|refine U.lw_c ?_ ?_<;>intro hb))
 (conv=>whnf);generalize hL:leftI x (List.range m.length) 0=L
 rcases L with _|⟨i0,L⟩
 ·have hall:=left_nil hL;have hpm:=keys_perm i1 i2 hall;have hnx:(x.map (keyN m)).Nodup:=hpm.nodup_iff.2 hn;have hso:=srtI_of hnx hpm;have hxl:x.length≤m.length:=nodup_len i1 i2;rw[← hR,← hTT] at hso
  have hRl:R.length≤40000:=by rw[hR,List.length_map];omega
  clear hpm hall hL i2 i1 hn hnx hR hTT;rcases R with _|⟨r0,R⟩
  ·have e0:srtI []=[]:=by simp[srtI]
   rw[e0] at hso;subst hso;(repeat' ((conv=>whnf);first|refine goD ?_|refine U.SoundAt.u (srtN) clM ?_|refine U.SoundC.u (srtN) clM ?_|refine U.lw_c ?_ ?_<;>intro hb))
   refine ⟨fun _=>2,fun k hk=>Nat.le_refl _,?_,fun k b hk=>?_,fun k k' b b' hk hk' _=>?_⟩
   ·exact .F rfl rfl
   ·rcases k with _|k
    ·simp[rowO,iL] at hk
    ·simp at hk
   ·rcases k with _|k
    ·simp[rowO,iL] at hk
    ·simp at hk
  ·subst hso;(repeat' ((conv=>whnf);first|refine goA ?_|refine sortI_s (es:=r0::R) (b:=5) (by exact congrArg (fun z=>some (U.Blk.cells 3 z true)) (cellsI (r0::R))) (bR rfl) (by simp[iL]) rL (by rw[List.length_map];simp at hRl;omega) ?_|refine goB ?_|refine U.lw_c ?_ ?_<;>intro hb))
   have hsl:(srtI (r0::R)).length=R.length+1:=by rw[srtI_len];simp
   generalize srtI (r0::R)=T at *
   rcases T with _|⟨t0,T⟩
   ·simp at hsl
   refine ⟨fun _=>5,fun k hk=>by show 2≤5;decide,?_,fun k b hk=>?_,fun k k' b b' hk hk' _=>?_⟩
   ·exact .sl _ _ _ _ _ _ _ (by simp) rfl (by simp at hsl;simp[iL,hsl]) (by simp at hsl;simp[iL,hsl])
   ·rcases k with _|k
    ·have hk:rowO 3 (iL (t0::T))=some b:=Option.some.inj hk;replace hk:some (U.Blk.cells 3 (cellsAll (iL (t0::T))) true)=some b:=hk;cases hk;exact ⟨_,rfl,.row _ _ _ _ (cleanIC (t0::T)) (cellsI (t0::T))⟩
    ·simp at hk
   ·rcases k with _|k
    ·rcases k' with _|k'
     ·rfl
     ·simp at hk'
    ·simp at hk
 ·(conv=>whnf);intro i hi;rw[← hL] at hi;obtain ⟨j1,j2⟩:=left_in hi;obtain ⟨⟨kz,cv⟩,hc⟩:∃e,m[i]?=some e:=⟨_,List.getElem?_eq_getElem j1⟩
  have hp:=nthP_at (ek:=Value.int .i64) (ev:=Value.int .i64) hc;have hkz:=keyN_at hc;have hgl:(x++[i]).getLast?=some i:=by simp
  have hxl:x.length+1≤m.length:=nodup_len (l:=i::x) (List.nodup_cons.2 ⟨j2,i1⟩) (fun k hk=>(List.mem_cons.1 hk).elim (fun e=>by rw[e];exact j1) (i2 k))
  have hnx:(x++[i]).Nodup∧∀k∈x++[i],k<m.length:=⟨nd_snoc i1 j2,fun k hk=>by
   rcases List.mem_append.1 hk with hk|hk
   ·exact i2 k hk
   ·rw[List.mem_singleton] at hk;subst hk;exact j1⟩
  have hmap:R++[kz]=(x++[i]).map (keyN m):=by rw[hR];simp[hkz]
  have hRl:R.length≤40000:=by rw[hR,List.length_map];omega
  clear hR hL hi;rcases R with _|⟨r0,R⟩
  ·(repeat' ((conv=>whnf);first|refine goA ?_|refine U.onV_p (nthN_range j1) ?_|refine U.onV_p hp ?_|refine U.onV_p hgl ?_|refine U.onV_p (idxB_range j1) ?_|refine U.ob_c (Nat.beq_refl _) ?_|refine U.SoundRound.run hmixU 0 ?_|refine goB ?_|refine U.lw_c ?_ ?_<;>intro hb))
   (conv=>whnf);exact ⟨(x++[i],[]++[kz]),⟨hnx,hmap⟩,by simp;omega,(Cov.renO (fun k=>if k=5 then 7 else k) rfl rfl (bR rfl) zL (fun k hk=>by have:k<5:=hk;rw[if_neg (by omega)]) rfl (fun k hk=>by have hk:k<2:=hk;rcases (by omega:k=0∨k=1) with rfl|rfl<;>rfl) (.C rfl (.cons (.mp _ _ (by decide) rfl) .nil) (.cons rfl (RenB.mapE rfl rfl rfl (mE_noNm cleanI _)) (.C rfl (.cons (.grown (by decide) rfl (by simp[iL]) (by simp[iL]) (by simp[iL])) .nil) (.cons rfl (lpA_ren (by decide) rfl rfl rfl rfl rfl rfl) (.cons rfl (.iter _ _ _ _ _ (by decide) rfl) (blksO.grown rfl rfl (cleanIC _) .nil)))))) (.cons rfl (.yld _ _ (by decide) rfl) (.cons rfl (.P rfl) .nil)))⟩
  ·have hgr:(cellsAll (Value.int .i64 r0::List.map (Value.int .i64) R)).length=((List.map (Value.int .i64) R).length+1)*1:=by
    rw[show Value.int .i64 r0::List.map (Value.int .i64) R=iL (r0::R) from rfl,cellsI,iL_len,List.length_map];simp
   have hg1:(List.map (Value.int .i64) R).length+1+(0+1)≤100000:=by rw[List.length_map];simp at hRl;omega
   (repeat' ((conv=>whnf);first|refine goA ?_|refine U.onV_p (nthN_range j1) ?_|refine U.onV_p hp ?_|refine U.onV_p hgl ?_|refine U.onV_p (idxB_range j1) ?_|refine U.ob_c (Nat.beq_refl _) ?_|refine U.SoundRound.run hmixU 0 ?_|(rw[U.ble_f ((List.map (Value.int .i64) R).length+1)];dsimp only;refine U.growRow_p hgr rfl ?_)|refine U.ob_c (grow_ok (by decide +kernel) hg1) ?_|refine goB ?_|refine U.lw_c ?_ ?_<;>intro hb))
   (conv=>whnf);exact ⟨(x++[i],(r0::R)++[kz]),⟨hnx,hmap⟩,by simp;omega,(Cov.renO (fun k=>if k=5 then 7 else k) rfl rfl (bR rfl) zL (fun k hk=>by have:k<5:=hk;rw[if_neg (by omega)]) rfl (fun k hk=>by have hk:k<2:=hk;rcases (by omega:k=0∨k=1) with rfl|rfl<;>rfl) (.C rfl (.cons (.mp _ _ (by decide) rfl) .nil) (.cons rfl (RenB.mapE rfl rfl rfl (mE_noNm cleanI _)) (.C rfl (.cons (.grown (by decide) rfl (by simp[iL]) (by simp[iL]) (by simp[iL])) .nil) (.cons rfl (lpA_ren (by decide) rfl rfl rfl rfl rfl rfl) (.cons rfl (.iter _ _ _ _ _ (by decide) rfl) (blksO.grown rfl ((by rw[iL_app];exact List.flatMap_append)) (cleanIC _) .nil)))))) (.cons rfl (.yld _ _ (by decide) rfl) (.cons rfl (.P rfl) .nil)))⟩
end Go.Proofs.YtocppbocphnbcaaGreatDoor
