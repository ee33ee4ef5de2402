
import Derived.Test.YtnfppdblcmollaaGreatDoorTS21
import Derived.Test.YtnfppdblcmollaaGreatDoorTS30
namespace Go.Proofs.YtnfppdblcmollaaGreatDoor.U
open Go Go.RowKit Go.Sort
set_option linter.unusedVariables false
set_option linter.unusedSimpArgs false
set_option maxRecDepth 100000
set_option maxHeartbeats 40000000
def cat (o:Option (List Value)) (l:List Value):Option (List Value):=match o with
 |some t=>some (t++l)
 |none=>none
def DoesQ (P:Program) (W:World) (Q:Value->World->Prop):Result Next->Prop
 |.ok (.value v) W'=>Q v W'
 |.ok (.enter f args) W'=>W'=W∧Calls P f args W fun e w'=>∃v,e=.returned v∧Q v w'
 |.ok (.round l f tmps assign body) W'=>W'=W∧RoundIn Fence.wide 0 P l f tmps assign body W fun e w'=>∃v,e=.returned v∧Q v w'
 |_=>False
structure InvQ (P:Program) (r:Nat) (J:Frz->Option (List Value)->World->Prop):Prop where
 val:∀z ts W,J z ts W->∀o i v,z o i=some v->W.cell? ⟨o,i,none⟩=some v
 loop:∀z ts W,J z ts W->∃L,W.heap[r]?=some (.loop L)
 below:∀z ts W W' z',J z ts W->Below W.heap.size W W'->(∀o i v,z o i=some v->z' o i=some v)->(∀o i v,z' o i=some v->W'.cell? ⟨o,i,none⟩=some v∧(z o i=some v∨W.heap.size≤o))->J z' ts W'
 takes:∀z ts W z1 ts1 W1 W' (l:List Nat),J z ts W->J z1 ts1 W1->(∀d∈l,W1.heap.size≤d∧W.heap[d]?=some (.deferred (some [])))->W'.os=W.os->W'.tape=W.tape->W'.output=W.output->W'.heap.size=W.heap.size->(∀i,(∀d∈l,i≠d)->W'.heap[i]?=W.heap[i]?)->J z ts W'
 round:∀z x ts W v,J z (some (x::ts)) W->VR ⟨fun _=>none,z⟩ x v->DoesQ P W (fun u w'=>∃z',(∀o i v,z o i=some v->z' o i=some v)∧KD W w'∧((u=.bool true∧J z' (some ts) w')∨(u=.bool false∧J z' none w'))) ((Instr.yield r ⟨[v]⟩).run P W)
def IterQ (P:Program) (f:FuncId) (args ts:List Value) (v0 v1:Value):Prop :=
 ∀r J,InvQ P r J->∀z ts' W vs,J z (some (ts++ts')) W->VRs (lpB r z) args vs->Calls P f ⟨vs⟩ W fun e w'=>∃v,e=.returned v∧∃z',(∀o i v,z o i=some v->z' o i=some v)∧KD W w'∧((v=v0∧J z' (some ts') w')∨(v=v1∧J z' none w'))
structure IterU (P:Program) (N:Nat) (c:Code) (fr:Tr Value) (ts:Option (List Value)) (k:Exit->Tr Value->Option (List Value)->Prop):Prop where
 out:∀r J,InvQ P r J->∀(F:Fence) (n:Nat) z ts' a W (Q:Exit->Act->World->Prop),WF F->LoopAt F W->J z (cat ts ts') W->FrR (lpB r z) N fr a ->
  (∀e fr' ts1 z' a' W',k e fr' ts1->(∀o i v,z o i=some v->z' o i=some v)->J z' (cat ts1 ts') W'->FrR (lpB r z') N fr' a'->KD W W'->DM W.heap.size W' a.defers a'.defers->Q e a' W')->c.wpIn F n P Q a W
structure OpsU (P:Program) (N:Nat) (ops l:List Oper) (fr:Tr Value) (ts:Option (List Value)) (k:Tr Value->Option (List Value)->Prop):Prop where
 out:∀r J,InvQ P r J->∀(F:Fence) (n:Nat) z ts' a W (Q:Exit->Act->World->Prop),WF F->LoopAt F W->J z (cat ts ts') W->FrR (lpB r z) N fr a ->
  (∀fr' ts1 z' a' W',k fr' ts1->(∀o i v,z o i=some v->z' o i=some v)->J z' (cat ts1 ts') W'->FrR (lpB r z') N fr' a'->KD W W'->a'.defers=a.defers->Q .normal a' W')->wpListIn F n P ops.toArray Q l a W
variable {P : Program} {N : Nat} {fr : Tr Value} {ts : Option (List Value)}
theorem InvQ.rel {r:Nat}{J:Frz->Option (List Value)->World->Prop}(hJ:InvQ P r J) {z:Frz}{W:World}(h:J z ts W):Rel P W (lpB r z) stL W∧FreeA (lpB r z) stL.next:=by
 obtain ⟨L,hL⟩:=hJ.loop z ts W h;have hlt:=(Array.getElem?_eq_some_iff.1 hL).1;have h0:∀k,stL.heap.get k=none:=fun k=>Tr.get_e k
 refine ⟨⟨fun k b r sp hk=>(by rw[h0] at hk;cases hk),fun k k' r sp sp' _ hk=>absurd (h0 k) hk,fun k hk=>absurd (h0 k) hk,fun k r' sp hr=>?_,fun k r sp hk=>absurd (h0 k) hk,.refl _ _,fun g hg=>absurd hg (Nat.not_lt_zero g),fun o i v hv=>⟨hJ.val z ts W h o i v hv,fun k sp _ hk=>absurd (h0 k) hk⟩⟩,fun k hk=>if_neg (by have:1≤k:=hk;omega)⟩
 have hr:(if k=0 then some (r,0) else none)=some (r',sp):=hr
 split at hr
 ·cases hr;exact hlt
 ·cases hr
theorem InvQ.back {r:Nat}{J:Frz->Option (List Value)->World->Prop}(hJ:InvQ P r J) {z:Frz}{W W':World}{s':AS}{β':Bt}{fr1 fr2:Tr Value}{a:Act}(h:J z ts W) (hx:ExtX W.heap.size (lpB r z) β' stL.next s'.next) (hR:Rel P W β' s' W') (hF:FrR β' N fr1 a) (hc:Cov P N 1 fr1 s' fr2 stL) :
  ∃z',(∀o i v,z o i=some v->z' o i=some v)∧J z' ts W'∧FrR (lpB r z') N fr2 a:=by
 obtain ⟨β2,p1,p2,p5,p3,p4⟩:=hc.rel W β' W' a hR hx.free hF;have e:β2=lpB r β2.z:=by
  have:β2.m=fun k=>if k=0 then some (r,0) else none:=by
   funext k
   rcases Nat.lt_or_ge k 1 with hk|hk
   ·rw[p1 k hk,hx.keep k hk];rfl
   ·rw[p2 k hk,if_neg (by omega)]
  cases β2;simp only at this
  subst this;rfl
 have hz:=hx.z.trans p5;refine ⟨β2.z,hz.1,hJ.below z ts W W' β2.z h p3.below hz.1 fun o i v hv=>⟨(p3.frz o i v hv).1,hz.2 o i v hv⟩,?_⟩
 rw[← e];exact p4
theorem OpsU.nil {ops:List Oper}{k:Tr Value->Option (List Value)->Prop}(h:k fr ts):OpsU P N ops [] fr ts k:=⟨fun r J hJ F n z ts' a W Q hW hL h0 hF hn=>hn fr ts z a W h (fun _ _ _ h=>h) h0 hF (.refl _) rfl⟩
theorem OpsU.pure {ops l1 l2:List Oper}{k:Tr Value->Option (List Value)->Prop}(h:opsX propX P (extC P) (extS P) N ops (fun _ _=>False) l1 fr stL fun fr' s'=>∃fr2,Cov P N 1 fr' s' fr2 stL∧OpsU P N ops l2 fr2 ts k):OpsU P N ops (l1++l2) fr ts k:=by
 refine ⟨fun r J hJ F n z ts' a W Q hW hL h0 hF hn=>?_⟩
 obtain ⟨hR,hfa⟩:=hJ.rel h0;refine opsX_sound2 extC_ok extS_ok hW l2 l1 fr stL _ zL h _ a W hR hfa hF (fun _ _ _ _ h=>h.elim) fun fr' s' a' W' ⟨fr2,hc,h2⟩ hst ⟨β',q1,q2,q3,q4,q5⟩=>?_
 obtain ⟨z',z1,z2,z3⟩:=hJ.back h0 q1 q2 q3 hc;exact h2.out r J hJ F n z' ts' a' W' Q hW (hL.kd q4) z2 z3 fun fr' ts1 z2 a2 W2 u1 u2 u3 u4 u5 u6=>hn fr' ts1 z2 a2 W2 u1 (fun o i v h=>u2 o i v (z1 o i v h)) u3 u4 (q4.trans u5) (u6.trans q5)
theorem OpsU.cut {ops l:List Oper}{k:Tr Value->Option (List Value)->Prop}(n:Nat) (h:opsX propX P (extC P) (extS P) N ops (fun _ _=>False) (l.take n) fr stL fun fr' s'=>∃fr2,Cov P N 1 fr' s' fr2 stL∧OpsU P N ops (l.drop n) fr2 ts k):OpsU P N ops l fr ts k:=by
 have:=OpsU.pure h;rwa [List.take_append_drop] at this
theorem OpsU.op {v0 v1:Value}(hv0:flatV v0=true) (hv1:flatV v1=true) {ops l2:List Oper}{o:Oper}{ts1:List Value}{k:Tr Value->Option (List Value)->Prop}(hg:guardC ops o fr=some true) (ts0:List Value)
  (hd:∀r J,InvQ P r J->∀z ts' a W,J z (some (ts0++ts')) W->FrR (lpB r z) N fr a->DoesQ P W (fun v w'=>∃z',(∀o i v,z o i=some v->z' o i=some v)∧KD W w'∧((v=v0∧J z' (some ts') w')∨(v=v1∧J z' none w'))) ((execOp a.eval o).run P W))
  (h:putF propD N o.dst v0 fr fun fr=>OpsU P N ops l2 fr (some ts1) k) (h':putF propD N o.dst v1 fr fun fr=>OpsU P N ops l2 fr none k):OpsU P N ops (o::l2) fr (some (ts0++ts1)) k:=by
 refine ⟨fun r J hJ F n z ts' a W Q hW hL h0 hF hn=>?_⟩
 replace h0:J z (some (ts0++ts1++ts')) W:=h0;rw[List.append_assoc] at h0;have hdo:=hd r J hJ z (ts1++ts') a W h0 hF;unfold wpListIn;rw[if_pos (guardC_sound hg fun t _ u hu=>hF.at_ t u hu)];have hplain:∀c,o.op≠.defer c:=fun c ho=>by
  simp only[execOp,ho,Sem.run_bind] at hdo;generalize (resolve a.eval c o.type).run P W=r at hdo
  cases r with
  |ok d w=>exact hdo
  |halt x w=>exact hdo
 have next:∀v W',(∃z',(∀o i v,z o i=some v->z' o i=some v)∧KD W W'∧((v=v0∧J z' (some (ts1++ts')) W')∨(v=v1∧J z' none W')))->wpListIn F n P ops.toArray Q l2 (a.put o.dst v) W':=fun v W' ⟨z',z1,q4,hz⟩=>by
  rcases hz with ⟨rfl,z2⟩|⟨rfl,z2⟩
  ·have h':propD.T (putF propD N o.dst v fr fun fr=>OpsU P N ops l2 fr (some ts1) k):=h
   obtain ⟨hp,h1⟩:=putF_sound h';replace h1:OpsU P N ops l2 (setF o.dst v fr) (some ts1) k:=h1;refine h1.out r J hJ F n z' ts' _ W' Q hW (hL.kd q4) z2 ((hF.growX (β':=lpB r z') ⟨fun _ _ h=>h,z1⟩).put hp (.of_flat _ hv0)) fun fr' ts1 z2 a2 W2 u1 u2 u3 u4 u5 u6=>hn fr' ts1 z2 a2 W2 u1 (fun o i v h=>u2 o i v (z1 o i v h)) u3 u4 (q4.trans u5) (u6.trans (by cases o.dst<;>rfl))
  ·have h':propD.T (putF propD N o.dst v fr fun fr=>OpsU P N ops l2 fr none k):=h'
   obtain ⟨hp,h1⟩:=putF_sound h';replace h1:OpsU P N ops l2 (setF o.dst v fr) none k:=h1;refine h1.out r J hJ F n z' ts' _ W' Q hW (hL.kd q4) z2 ((hF.growX (β':=lpB r z') ⟨fun _ _ h=>h,z1⟩).put hp (.of_flat _ hv1)) fun fr' ts1 z2 a2 W2 u1 u2 u3 u4 u5 u6=>hn fr' ts1 z2 a2 W2 u1 (fun o i v h=>u2 o i v (z1 o i v h)) u3 u4 (q4.trans u5) (u6.trans (by cases o.dst<;>rfl))
 refine ⟨fun f _=>hW.fn f,?_⟩
 rw[Oper.semAt_eq _ _ _ hplain];generalize (execOp a.eval o).run P W=r at *
 cases r with
 |ok x w' =>
  cases x<;>simp only[DoesQ] at hdo<;>simp only[Oper.uponIn]
  case value v=>exact next _ _ hdo
  case enter f args =>
   obtain ⟨rfl,hc⟩:=hdo;exact ⟨hW.dep,hW.calls (hc.mono fun e w'' ⟨v,he,h⟩=>by subst he;exact next _ _ h)⟩
  case round =>
   obtain ⟨rfl,hc⟩:=hdo;exact ⟨hW.dep,hW.round (hc.mono fun e w'' ⟨v,he,h⟩=>by subst he;exact next _ _ h)⟩
 |halt x w'=>simp only[DoesQ] at hdo
theorem OpsU.call {v0 v1:Value}(hv0:flatV v0=true) (hv1:flatV v1=true) {ops l2:List Oper}{o:Oper}{c:Call}{f:Operand}{g:FuncId}{us ts0 ts1:List Value}{k:Tr Value->Option (List Value)->Prop}(hg:guardC ops o fr=some true) (ho:o.op=.call c) (hcal:c.callee=.value f) (hff:evC 0 fr f=some (.func (.func g) ⟨[]⟩ ⟨[]⟩)) (hen:entersB P g=true) (hus:evsC 0 fr c.args.toList=some us) (hI:IterQ P g us ts0 v0 v1)
  (h:putF propD N o.dst v0 fr fun fr=>OpsU P N ops l2 fr (some ts1) k) (h':putF propD N o.dst v1 fr fun fr=>OpsU P N ops l2 fr none k):OpsU P N ops (o::l2) fr (some (ts0++ts1)) k:=by
 refine .op hv0 hv1 hg ts0 (fun r J hJ z ts' a W h0 hF=>?_) h h'
 obtain ⟨hR,hfa⟩:=hJ.rel h0;have hop:=hF.op hR o;obtain ⟨a',b',e1,e2,e3⟩:=(hop f (by simp[ho,Op.operands,Call.operands,hcal]) _ hff).func_inv
 have e4:=evsC_sound (β:=lpB r z) (a:=a) hus fun z hz=>hop z (by simp only[ho,Op.operands,Call.operands,hcal];simp at hz ⊢;simp[hz])
 have h1:=e1.inv_nil;have h2:=e2.inv_nil;subst h1;subst h2;have e:execOp a.eval o=callFunc g (⟨c.args.toList.map a.eval⟩:Array Value):=by
  have ea:((⟨[]⟩:Array Value)++c.args.map a.eval++(⟨[]⟩:Array Value))=⟨c.args.toList.map a.eval⟩:=by
   apply Array.ext';simp
  rw[← ea];simp only[execOp,ho,resolve,hcal,e3,Deferred.ofValue];rfl
 rw[e,run_enters hen W];exact ⟨rfl,hI r J hJ z ts' W _ h0 e4⟩
theorem OpsU.round {ops l2:List Oper}{o:Oper}{c:Call}{f:Operand}{x:Value}{ts1:List Value}{k:Tr Value->Option (List Value)->Prop}(hg:guardC ops o fr=some true) (ho:o.op=.call c) (hcal:c.callee=.value f) (hff:evC 0 fr f=some (.func (.yield 0) ⟨[]⟩ ⟨[]⟩)) (hus:evsC 0 fr c.args.toList=some [x]) (hx:NoNm x)
  (h:putF propD N o.dst (.bool true) fr fun fr=>OpsU P N ops l2 fr (some ts1) k) (h':putF propD N o.dst (.bool false) fr fun fr=>OpsU P N ops l2 fr none k):OpsU P N ops (o::l2) fr (some (x::ts1)) k:=by
 refine .op (v0:=.bool true) (v1:=.bool false) rfl rfl hg [x] (fun r J hJ z ts' a W h0 hF=>?_) h h'
 obtain ⟨hR,hfa⟩:=hJ.rel h0;have hop:=hF.op hR o;obtain ⟨r',sp,e1,e3⟩:=(hop f (by simp[ho,Op.operands,Call.operands,hcal]) _ hff).yld_inv
 have e1':(r,0)=(r',sp):=by
  have:(if (0:Nat)=0 then some (r,0) else none)=some (r',sp):=e1
  simpa using this
 cases e1';have e4:=evsC_sound (β:=lpB r z) (a:=a) hus fun z hz=>hop z (by simp only[ho,Op.operands,Call.operands,hcal];simp at hz ⊢;simp[hz])
 obtain ⟨v,t,e5,e6,e7⟩:=e4.inv_cons;have h1:=e7.inv_nil;subst h1;have e:(execOp a.eval o).run P W=(Instr.yield r ⟨[v]⟩).run P W:=by
  have ea:(c.args.map a.eval:Array Value)=⟨[v]⟩:=by apply Array.ext';simpa using e5
  simp[execOp,ho,resolve,hcal,e3,Deferred.ofValue,invoke,ea]
 rw[e];exact hJ.round z x ts' W v h0 (hx.rel e6)
theorem IterU.region {id:Nat}{ops:List Oper}{k:Exit->Tr Value->Option (List Value)->Prop}(h:OpsU P N ops ops fr ts (k .normal)):IterU P N (.region id ⟨ops⟩ false) fr ts k:=by
 refine ⟨fun r J hJ F n z ts' a W Q hW hL h0 hF hn=>?_⟩
 exact wpIn_region_list (h.out r J hJ F n z ts' a W Q hW hL h0 hF fun fr' ts1 z' a' W' h1 h2 h3 h4 h5 h6=>hn .normal fr' ts1 z' a' W' h1 h2 h3 h4 h5 (by rw[h6];exact .refl _ _ _))
theorem IterU.pure {c:Code}{k:Exit->Tr Value->Option (List Value)->Prop}(hm:P.follows .mixedOrders=true) (h:codeX propX P (extC P) (extS P) N 0 c fr stL fun e fr' s'=>∃fr2,Cov P N 1 fr' s' fr2 stL∧k e fr2 ts):IterU P N c fr ts k:=by
 refine ⟨fun r J hJ F n z ts' a W Q hW hL h0 hF hn=>?_⟩
 obtain ⟨hR,hfa⟩:=hJ.rel h0;refine codeX_sound hm extC_ok extS_ok 0 c fr stL _ zL h F n W (lpB r z) a W Q hW hL hR hfa hF fun e fr' s' a' W' ⟨fr2,hc,h2⟩ hst ⟨β',q1,q2,q3,q4,q5,q6⟩=>?_
 obtain ⟨z',z1,z2,z3⟩:=hJ.back h0 q1 q2 q3 hc;exact hn e fr2 ts z' a' W' h2 z1 z2 z3 q4 q6
theorem IterU.seq {c d:Code}{k:Exit->Tr Value->Option (List Value)->Prop}(h:IterU P N c fr ts fun e fr' ts'=>match e with
  |.normal=>IterU P N d fr' ts' k
  |e=>k e fr' ts'):IterU P N (c.seq d) fr ts k:=by
 refine ⟨fun r J hJ F n z ts' a W Q hW hL h0 hF hn=>?_⟩
 refine wpIn_seq (h.out r J hJ F n z ts' a W _ hW hL h0 hF fun e fr' ts1 z' a' W' h1 h2 h3 h4 h5 h6=>?_)
 cases e with
 |normal=>exact h1.out r J hJ F n z' ts' a' W' Q hW (hL.kd h5) h3 h4 fun e fr'' ts2 z2 a2 W2 u1 u2 u3 u4 u5 u6=>hn e fr'' ts2 z2 a2 W2 u1 (fun o i v h=>u2 o i v (h2 o i v h)) u3 u4 (h5.trans u5) (h6.trans u5 h5.z u6)
 |_=>exact hn _ fr' ts1 z' a' W' h1 h2 h3 h4 h5 h6
theorem IterU.block {id:Nat}{c:Code}{k:Exit->Tr Value->Option (List Value)->Prop}(h:IterU P N c fr ts fun e fr ts=>match e with
  |.exit id'=>match decide (id'=id) with
   |true=>k .normal fr ts
   |false=>k (.exit id') fr ts
  |e=>k e fr ts):IterU P N (.block id c) fr ts k:=by
 refine ⟨fun r J hJ F n z ts' a W Q hW hL h0 hF hn=>?_⟩
 refine wpIn_block (h.out r J hJ F n z ts' a W _ hW hL h0 hF fun e fr' ts1 z' a' W' h1 h2 h3 h4 h5 h6=>?_)
 have key:∃e',k e' fr' ts1∧∀Q:Exit->Act->World->Prop,Exit.inBlock id Q e=Q e':=by
  cases e with
  |exit id' =>
   by_cases he:id'=id
   ·simp only[he,decide_true] at h1;exact ⟨_,h1,fun Q=>by funext a w;simp[Exit.inBlock,he]⟩
   ·simp only[he,decide_false] at h1;exact ⟨_,h1,fun Q=>by funext a w;simp[Exit.inBlock,he]⟩
  |_=>exact ⟨_,h1,fun Q=>rfl⟩
 obtain ⟨e',h2',he⟩:=key;rw[he];exact hn _ _ _ _ _ _ h2' h2 h3 h4 h5 h6
theorem IterU.loop {c:Code}{k:Exit->Tr Value->Option (List Value)->Prop}{α:Type}(I:α->Prop) (f:α->Tr Value×Option (List Value)) (μ:α->Nat) (a0:α) (hI:I a0) (e0:(fr,ts)=f a0)
  (h:∀x,I x->IterU P N c (f x).1 (f x).2 fun e fr' ts'=>match e with
   |.normal=>∃x',I x'∧μ x'<μ x∧(fr',ts')=f x'
   |e=>k e fr' ts'):IterU P N (.loop c) fr ts k:=by
 refine ⟨fun r J hJ F n z ts' a W Q hW hL h0 hF hn=>?_⟩
 have key:∀(m:Nat) (x:α),I x->μ x<m->∀(z1:Frz) (a1:Act) (W1:World),(∀o i v,z o i=some v->z1 o i=some v)->J z1 (cat (f x).2 ts') W1->FrR (lpB r z1) N (f x).1 a1->KD W W1->DM W.heap.size W1 a.defers a1.defers->Code.roundsIn F n P c Q m a1 W1:=by
  intro m;induction m with
  |zero=>intro x _ hx;omega
  |succ m ih =>
   intro x hxI hx z1 a1 W1 g1 g2 g3 g4 g5;refine (h x hxI).out r J hJ F n z1 ts' a1 W1 _ hW (hL.kd g4) g2 g3 fun e fr' ts1 z2 a2 W2 h1 h2 h3 h4 h5 h6=>?_
   have hz:∀o i v,z o i=some v->z2 o i=some v:=fun o i v h=>h2 o i v (g1 o i v h)
   have fin:k e fr' ts1->Q e a2 W2:=fun h'=>hn e fr' ts1 z2 a2 W2 h' hz h3 h4 (g4.trans h5) (g5.trans h5 g4.z h6)
   cases e with
   |normal =>
    obtain ⟨x',hI',hm',he⟩:=h1;have e1:fr'=(f x').1:=by rw[← he]
    have e2:ts1=(f x').2:=by rw[← he]
    subst e1;subst e2;exact ih x' hI' (by omega) z2 a2 W2 hz h3 h4 (g4.trans h5) (g5.trans h5 g4.z h6)
   |_=>exact fin h1
 have e1:fr=(f a0).1:=by rw[← e0]
 have e2:ts=(f a0).2:=by rw[← e0]
 subst e1;subst e2;exact wpIn_loop_rounds _ (key (μ a0+1) a0 hI (Nat.lt_succ_self _) z a W (fun _ _ _ h=>h) h0 hF (.refl _) (.refl _ _ _))
theorem IterQ.body {v0 v1:Value}{ts:List Value}(hv0:flatV v0=true) (hv1:flatV v1=true) {f:FuncId}{fn:Func}{c:Code}{args:List Value}{rs:List ResultVar}(hfn:P.funcs[f]?=some fn) (hb:fn.body=some c) (hN:args.length+(fn.ntmps-args.length)=N) (hrs:fn.results.toList=rs)
  (h:IterU P N c (argsF args 0 .e) (some ts) fun e fr ts'=>(ts'=some []∨ts'=none)∧match e with
   |.normal=>resC propD P fr stL rs fun l=>(ts'=some []->retC l=v0)∧(ts'=none->retC l=v1)
   |.ret=>resC propD P fr stL rs fun l=>(ts'=some []->retC l=v0)∧(ts'=none->retC l=v1)
   |_=>False):IterQ P f args ts v0 v1:=by
 subst hN;subst hrs;intro r J hJ z ts' W vs h0 hv
 refine (callsIn_wide (n:=0)).1 (callsIn_of_wp_marks hfn hb trivial (h.out r J hJ Fence.wide 0 z ts' _ W _ (.inl rfl) (fun l hl=>by cases hl) h0 (frR_start hv fn.ntmps) fun e fr' ts1 z' a' W' ⟨h1,h2⟩ h3 h4 h5 h6 h7=>?_))
 have key:resC propD P fr' stL fn.results.toList (fun l=>(ts1=some []->retC l=v0)∧(ts1=none->retC l=v1))∧(e=.normal∨e=.ret):=by
  cases e<;>first|exact ⟨h2,.inl rfl⟩|exact ⟨h2,.inr rfl⟩|exact absurd h2 id
 obtain ⟨us,h8,h9⟩:=resC_sound (D:=propD) (N:=args.length+(fn.ntmps-args.length)) _ _ key.1;obtain ⟨l,e1,e2,e3⟩:=h7;have fin:LeavesInM Fence.wide 0 P fn a'.tmps (fun e w'=>∃v,e=.returned v∧∃z',(∀o i v,z o i=some v->z' o i=some v)∧KD W w'∧((v=v0∧J z' (some ts') w')∨(v=v1∧J z' none w'))) a'.defers .returning W':=by
  rw[e1,List.append_nil];refine run_takes l W' e2 (fun d hd=>(e3 d hd).2) fun W'' p1 p2 p3 p4 p5 p6=>?_
  have hJ':=hJ.takes z' (cat ts1 ts') W' z (some (ts++ts')) W W'' l h4 h0 (fun d hd=>e3 d hd) p1 p2 p3 p4 p5
  have hR2:=(hJ.rel hJ').1;obtain ⟨ws,r1,r2⟩:=h9 W'' _ a' W'' hR2 h5;have hkd:KD W W'':=⟨fun d hd=>by
   rw[p5 d fun x hx e=>by
    have:=(e3 x hx).1;have:=(Array.getElem?_eq_some_iff.1 hd).1;omega]
   exact h6.d d hd,fun d L hd=>by
   rw[p5 d fun x hx e=>by
    have:=(e3 x hx).1;have:=(Array.getElem?_eq_some_iff.1 hd).1;omega]
   exact h6.l d L hd,by rw[p4];exact h6.z,by rw[p6];exact h6.n⟩
  have hrl:=retC_rel r1;have h8:(ts1=some []->retC us=v0)∧(ts1=none->retC us=v1):=h8;refine ⟨_,run_results r2,_,rfl,z',h3,hkd,?_⟩;rcases h1 with rfl|rfl
  ·rw[h8.1 rfl] at hrl;exact .inl ⟨hrl.flat_eq hv0,hJ'⟩
  ·rw[h8.2 rfl] at hrl;exact .inr ⟨hrl.flat_eq hv1,hJ'⟩
 rcases key.2 with rfl|rfl
 ·exact fin
 ·exact fin
theorem SoundAt.iterQ {l:Nat}{f:FuncId}{args rest ts:List Value}{v0 v1:Value}{s:AS}{K:Value->AS->Prop}{σ:Type}(hv0:flatV v0=true) (hv1':flatV v1=true) (hI:IterQ P f (.func (.yield 0) ⟨[]⟩ ⟨[]⟩::rest) ts v0 v1) (hc:NoNms rest) (S:List Value->AS) (I:List Value->Prop) (st:σ->AS) (SP:σ->Prop) (hI0:I ts) (sl:List (Nat×Value))
  (hcov:Cov P (args.length+(0-args.length)) s.next (argsF args 0 .e) s (mkF sl) (S ts)) (hlen:args.length=rest.length+1) (hsl:∀i u,(Value.func (.yield l) ⟨[]⟩ ⟨[]⟩::rest)[i]?=some u->Tr.at (pt i) (mkF sl)=some u) (hl:l<s.next)
  (hS:∀ts',ts' <:+ ts->(S ts').lo=s.lo∧(S ts').glb=s.glb∧s.next≤(S ts').next∧(∀k,k<s.lo->(S ts').heap.get k=s.heap.get k)∧isLoop ((S ts').heap.get l)=true)
  (hSt:∀b,SP b->(st b).lo=s.lo∧(st b).glb=s.glb∧s.next≤(st b).next∧(∀k,k<s.lo->(st b).heap.get k=s.heap.get k)∧isLoop ((st b).heap.get l)=true)
  (hround:∀x ts',(x::ts') <:+ ts->I (x::ts')->SoundRound P l [x] (S (x::ts')) fun u t=>(u=.bool true∧I ts'∧CovS P s.next t (S ts'))∨(u=.bool false∧∃b,SP b∧CovS P s.next t (st b))) (hK:I []->K v0 (S [])) (hK1:∀b,SP b->K v1 (st b)):SoundAt P f args s K:=by
 refine ⟨fun hlo W0 β W vs hR hf hv=>?_⟩
 obtain ⟨β1,g1,g2,g3,g4,g5⟩:=hcov.rel W0 β W _ hR hf (frR_start hv 0);have hv1:VRs β1 (Value.func (.yield l) ⟨[]⟩ ⟨[]⟩::rest) vs:=⟨by rw[← hv.1,hlen,List.length_cons],fun i u v hu hv'=>by
  have:=g5.at_ i u (hsl i u hu);have e:(((⟨vs⟩:Array Value)++Array.replicate (0-(⟨vs⟩:Array Value).size) undef:Array Value)[i]?)=some v:=by simp[hv']
  rw[Array.getD_eq_getD_getElem?,e] at this;exact this⟩
 obtain ⟨v2,vt,rfl,hvh,hvt⟩:=hv1.inv_cons;obtain ⟨r,sp,e1,e2⟩:=hvh.yld_inv;subst e2;let SS:List Value ⊕ σ->AS:=fun t=>match t with | .inl ts'=>S ts' | .inr b=>st b
 let OK:List Value ⊕ σ->Prop:=fun t=>match t with | .inl ts'=>ts' <:+ ts∧I ts' | .inr b=>SP b
 have hSS:∀t,OK t->(SS t).lo=s.lo∧(SS t).glb=s.glb∧s.next≤(SS t).next∧(∀k,k<s.lo->(SS t).heap.get k=s.heap.get k)∧isLoop ((SS t).heap.get l)=true:=fun t ht=>by
  cases t with
  |inl ts'=>exact hS ts' ht.1
  |inr b=>exact hSt b ht
 let G:Frz->List Value ⊕ σ->World->Prop:=fun z t W'=>OK t∧(∀o i x,β1.z o i=some x->z o i=some x)∧(∀o i x,z o i=some x->β1.z o i=some x∨W0.heap.size≤o)∧∃m:Nat->Option (Nat×Nat),(∀k,k<s.next->m k=β1 k)∧FreeA ⟨m,z⟩ (SS t).next∧Rel P W0 ⟨m,z⟩ (SS t) W'
 let J:Frz->Option (List Value)->World->Prop:=fun z o W'=>match o with
  |some ts'=>G z (.inl ts') W'
  |none=>∃b,G z (.inr b) W'
 have gval:∀z t W,G z t W->∀o i v,z o i=some v->W.cell? ⟨o,i,none⟩=some v:=fun z t W' ⟨_,_,_,m,_,_,h⟩ o i v hv=>(h.frz o i v hv).1
 have gloop:∀z t W,G z t W->∃L,W.heap[r]?=some (.loop L):=fun z t W' ⟨h1,_,_,m,h2,_,h3⟩=>by
  have hlp:=(hSS t h1).2.2.2.2;cases hb:(SS t).heap.get l with
  |none=>rw[hb] at hlp;cases hlp
  |some b =>
   rw[hb] at hlp;cases b<;>simp only[isLoop,Bool.false_eq_true] at hlp
   obtain ⟨L,hL,_⟩:=h3.blk l _ r sp hb ((h2 l hl).trans e1);exact ⟨L,hL⟩
 have gbelow:∀z t W W' z',G z t W->Below W.heap.size W W'->(∀o i v,z o i=some v->z' o i=some v)->(∀o i v,z' o i=some v->W'.cell? ⟨o,i,none⟩=some v∧(z o i=some v∨W.heap.size≤o))->G z' t W':=fun z t W1 W2 z' ⟨h1,h4,h5,m,h2,h6,h3⟩ hb hz hz'=>by
  refine ⟨h1,fun o i x hx=>hz o i x (h4 o i x hx),fun o i x hx=>?_,m,h2,h6,?_⟩
  ·rcases (hz' o i x hx).2 with h|h
   ·exact h5 o i x h
   ·exact .inr (Nat.le_trans h3.below.size h)
  ·exact (h3.later hb).frozen (n:=W1.heap.size) h3.lt hz hz'
 have gtakes:∀z t W z1 t1 W1 W' (l:List Nat),G z t W->G z1 t1 W1->(∀d∈l,W1.heap.size≤d∧W.heap[d]?=some (.deferred (some [])))->W'.os=W.os->W'.tape=W.tape->W'.output=W.output->W'.heap.size=W.heap.size->(∀i,(∀d∈l,i≠d)->W'.heap[i]?=W.heap[i]?)->G z t W':=fun z t W1 z1 t1 W2 W3 l' ⟨h1,h4,h5,m,h2,h6,h3⟩ ⟨_,_,_,m1,_,_,q3⟩ hd p1 p2 p3 p4 p5 =>
  ⟨h1,h4,h5,m,h2,h6,h3.takes (fun d hd'=>⟨Nat.le_trans q3.below.size (hd d hd').1,(hd d hd').2⟩) p1 p2 p3 p4 p5⟩
 have jg:∀z o W,J z o W->∃t,G z t W∧∀z' W',G z' t W'->J z' o W':=fun z o W h=>by
  cases o with
  |some ts'=>exact ⟨.inl ts',h,fun _ _ h=>h⟩
  |none=>obtain ⟨b,h⟩:=h;exact ⟨.inr b,h,fun _ _ h=>⟨b,h⟩⟩
 have hJ:InvQ P r J:=by
  refine ⟨fun z o W h=>?_,fun z o W h=>?_,fun z o W1 W2 z' h hb hz hz'=>?_,fun z o W1 z1 o1 W2 W3 l' h h' hd p1 p2 p3 p4 p5=>?_,fun z x ts' W1 v ⟨h1,h4,h5,m,h2,h6,h3⟩ hv=>?_⟩
  ·obtain ⟨t,h,_⟩:=jg _ _ _ h;exact gval z t W h
  ·obtain ⟨t,h,_⟩:=jg _ _ _ h;exact gloop z t W h
  ·obtain ⟨t,h,hh⟩:=jg _ _ _ h;exact hh _ _ (gbelow z t W1 W2 z' h hb hz hz')
  ·obtain ⟨t,h,hh⟩:=jg _ _ _ h;obtain ⟨t1,h',_⟩:=jg _ _ _ h';exact hh _ _ (gtakes z t W1 z1 t1 W2 W3 l' h h' hd p1 p2 p3 p4 p5)
  ·obtain ⟨h1,hi1⟩:(x::ts') <:+ ts∧I (x::ts'):=h1;replace h3:Rel P W0 ⟨m,z⟩ (S (x::ts')) W1:=h3;replace h6:FreeA ⟨m,z⟩ (S (x::ts')).next:=h6;have hdo:=(hround x ts' h1 hi1).out (by rw[(hS _ h1).1];exact Nat.le_trans hlo (hS _ h1).2.2.1) W0 ⟨m,z⟩ W1 [v] r sp h3 h6 (.cons (VR.growX (β:=⟨fun _=>none,z⟩) (β':=⟨m,z⟩) ⟨fun k y hk=>(by cases hk),fun _ _ _ h=>h⟩ hv) (.nil _)) ((h2 l hl).trans e1) (fun _ _=>False)
   have h1':ts' <:+ ts:=(List.suffix_cons x ts').trans h1;have key:∀u t v W2,((u=.bool true∧I ts'∧CovS P s.next t (S ts'))∨(u=.bool false∧∃b,SP b∧CovS P s.next t (st b)))->LaysX P W0 ⟨m,z⟩ W1 (S (x::ts')) t u v W2->∃z',(∀o i v,z o i=some v->z' o i=some v)∧KD W1 W2∧((v=.bool true∧J z' (some ts') W2)∨(v=.bool false∧J z' none W2)):=by
    rintro u t v W2 hcv ⟨β2,u1,u2,u3,u4⟩
    have one:∀y:List Value ⊕ σ,OK y->CovS P s.next t (SS y)->∃z',(∀o i v,z o i=some v->z' o i=some v)∧G z' y W2:=fun y hy hcv=>by
     obtain ⟨β3,p1,p2,p3,p4⟩:=hcv.rel W0 β2 W2 u2 u1.free;have hz:=u1.z.trans p3;refine ⟨β3.z,hz.1,hy,fun o i x hx=>hz.1 o i x (h4 o i x hx),fun o i x hx=>(hz.2 o i x hx).elim (h5 o i x) .inr,β3.m,fun k hk=>?_,p2,p4⟩
     rw[p1 k hk,u1.keep k (Nat.lt_of_lt_of_le hk (hS _ h1).2.2.1)];exact h2 k hk
    rcases hcv with ⟨rfl,hi2,hcv⟩|⟨rfl,b,hb,hcv⟩
    ·obtain ⟨z',hz,hg⟩:=one (.inl ts') ⟨h1',hi2⟩ hcv;exact ⟨z',hz,u4,.inl ⟨u3.flat1_eq rfl,hg⟩⟩
    ·obtain ⟨z',hz,hg⟩:=one (.inr b) hb hcv;exact ⟨z',hz,u4,.inr ⟨u3.flat1_eq rfl,b,hg⟩⟩
   generalize (Instr.yield r ⟨[v]⟩).run P W1=res at hdo
   cases res with
   |ok y W2 =>
    cases y<;>simp only[DoesX] at hdo<;>simp only[DoesQ]
    case value v' =>
     obtain ⟨u,t,q1,q2,q3⟩:=hdo;exact key u t _ W2 q1 q3
    case skip =>
     obtain ⟨u,t,q1,q2,q3⟩:=hdo;obtain ⟨_,_,_,h|h⟩:=key u t _ W2 q1 q3
     ·simp[undef] at h
     ·simp[undef] at h
    case enter f' args' =>
     refine ⟨hdo.1,hdo.2.mono fun e w'' h=>?_⟩
     rcases h with ⟨v,u,t,q0,q1,q2,q3⟩|⟨_,_,_,h,_⟩
     ·exact ⟨v,q0,key u t v w'' q1 q3⟩
     ·exact h.elim
    case round =>
     exact ⟨hdo.1,hdo.2.mono fun e w'' ⟨v,u,t,q0,q1,q2,q3⟩=>⟨v,q0,key u t v w'' q1 q3⟩⟩
   |halt y W2 =>
    cases y<;>simp only[DoesX] at hdo
    obtain ⟨_,h,_⟩:=hdo;exact h.elim
 have hJ0:J β1.z (some (ts++[])) W:=by
  rw[List.append_nil];exact ⟨⟨List.suffix_refl _,hI0⟩,fun _ _ _ h=>h,fun _ _ _ h=>.inl h,β1.m,fun _ _=>rfl,g2,g4⟩
 refine (hI r J hJ β1.z [] W _ hJ0 (.cons (.yld 0 r 0 rfl) (VRs.growX (β:=⟨fun _=>none,β1.z⟩) (β':=lpB r β1.z) ⟨fun k y hk=>(by cases hk),fun _ _ _ h=>h⟩ (NoNm.rels hc.all hvt)))).mono fun e w' ⟨v,he,z',h1,h8,hfin⟩=>?_
 have fin:∀y v',OK y->flatV v'=true->K v' (SS y)->G z' y w'->v=v'->∃v u s',e=.returned v∧K u s'∧StpX s s'∧LaysX P W0 β W s s' u v w':=fun y v' hy hfl hk ⟨h2,h3,h4,m,h5,h6,h7⟩ hvv=>by
  obtain ⟨s1,s2,s3,s4,s5⟩:=hSS y hy;refine ⟨v',v',SS y,by rw[he,hvv],hk,⟨s3,s1,s2,s4⟩,⟨m,z'⟩,⟨fun k hk=>(h5 k hk).trans (g1 k hk),h6,fun o i x hx=>h3 o i x (g3.1 o i x hx),fun o i x hx=>(h4 o i x hx).elim (g3.2 o i x) .inr⟩,h7,.of_flat _ hfl,h8⟩
 rcases hfin with ⟨hvv,hg⟩|⟨hvv,b,hg⟩
 ·exact fin (.inl []) v0 hg.1 hv0 (hK hg.1.2) hg hvv
 ·exact fin (.inr b) v1 hg.1 hv1' (hK1 b hg.1) hg hvv
end Go.Proofs.YtnfppdblcmollaaGreatDoor.U
namespace Go.Proofs.YtnfppdblcmollaaGreatDoor
open Go Go.RowKit Go.Sort U
set_option linter.unusedVariables false
set_option linter.unusedSimpArgs false
set_option maxRecDepth 100000
set_option maxHeartbeats 40000000
theorem one_d (o:Int):DenU Tryz.prog [] 185 [.int .i64 o] (.bool (oneB o)):=by
 refine denU_of_body hmixU rfl Tryz.func185 rfl rfl rfl 0 ?_;intro Ts;(repeat' ((conv=>whnf);first|refine goD ?_|refine U.lw_c ?_ ?_<;>intro hb))
 all_goals (conv=>whnf)
 all_goals refine .same (.flat _ rfl) (congrArg Value.bool ?_)
 all_goals unfold oneB
 all_goals rw[hb]
 all_goals rfl
theorem encEs_len (l:List Ex):(encEs l).length=l.length:=by rw[encEs_map,List.length_map]
theorem isE_iff {α:Type}(l:List α):l.isEmpty=decide (l.length=0):=by cases l<;>simp
theorem standsE_d (p:Pg) (e:Ex):DenU Tryz.prog [] 112 [encP p,encE e] (.bool (ownE p.slots p.arrs.length e)):=by
 refine denU_of_body hmixU rfl Tryz.func112 rfl rfl rfl 0 ?_;intro Ts;obtain ⟨k,n,a,o,l⟩:=e;obtain ⟨sl,arrs,ins,procs,main⟩:=p;have h1:=one_d o;have hl:=encEs_len l;have ha:=iL_len arrs;obtain ⟨q,hq⟩:∃q,oneB o=q:=⟨_,rfl⟩
 rw[hq] at h1;dsimp only;obtain ⟨b,hr⟩:∃b,b=ownE sl arrs.length (.mk k n a o l):=⟨_,rfl⟩
 rw[← hr];simp only[ownE,hq,isE_iff] at hr;rcases (by omega:k=0∨k=1∨k=2∨k=3∨k=4∨(¬k=0∧¬k=1∧¬k=2∧¬k=3∧¬k=4)) with rfl|rfl|rfl|rfl|rfl|⟨k0,k1,k2,k3,k4⟩
 ·(repeat' ((conv=>whnf);first|refine goD ?_|refine ⟨_,h1,clM,tab0 _,?_⟩|refine U.lw_c ?_ ?_<;>intro hb))
  all_goals (conv=>whnf)
  all_goals refine .same (.flat _ rfl) (congrArg Value.bool ?_)
  all_goals (clear h1;first|grind|(subst hr;simp at *;grind)|skip)
 ·(repeat' ((conv=>whnf);first|refine goD ?_|refine ⟨_,h1,clM,tab0 _,?_⟩|refine U.lw_c ?_ ?_<;>intro hb))
  all_goals (conv=>whnf)
  all_goals refine .same (.flat _ rfl) (congrArg Value.bool ?_)
  all_goals (clear h1;first|grind|(subst hr;simp at *;grind)|skip)
 ·(repeat' ((conv=>whnf);first|refine goD ?_|refine ⟨_,h1,clM,tab0 _,?_⟩|refine U.drawX_p (D:=U.propX) 5 [] (by decide +kernel) (by decide +kernel) ?_|refine U.lw_c ?_ ?_<;>intro hb))
  all_goals (conv=>whnf)
  all_goals refine .same (.flat _ rfl) (congrArg Value.bool ?_)
  all_goals (clear h1;first|grind|(subst hr;simp at *;grind)|skip)
 ·(repeat' ((conv=>whnf);first|refine goD ?_|refine ⟨_,h1,clM,tab0 _,?_⟩|refine U.lw_c ?_ ?_<;>intro hb))
  all_goals (conv=>whnf)
  all_goals refine .same (.flat _ rfl) (congrArg Value.bool ?_)
  all_goals (clear h1;first|grind|(subst hr;simp at *;grind)|skip)
 ·(repeat' ((conv=>whnf);first|refine goD ?_|refine ⟨_,h1,clM,tab0 _,?_⟩|refine U.lw_c ?_ ?_<;>intro hb))
  all_goals (conv=>whnf)
  all_goals refine .same (.flat _ rfl) (congrArg Value.bool ?_)
  all_goals (clear h1;first|grind|(subst hr;simp at *;grind)|skip)
 ·have g0:(k==0)=false:=by simpa using k0
  have g1:(k==1)=false:=by simpa using k1
  have g2:(k==2)=false:=by simpa using k2
  have g3:(k==3)=false:=by simpa using k3
  have g4:(k==4)=false:=by simpa using k4
  (repeat' ((conv=>whnf);first|refine goD ?_|refine ⟨_,h1,clM,tab0 _,?_⟩|refine U.lw_c ?_ ?_<;>intro hb))
  all_goals (conv=>whnf)
  all_goals refine .same (.flat _ rfl) (congrArg Value.bool ?_)
  all_goals (clear h1;first|grind|(subst hr;simp at *;grind)|skip)
def yl (l:Nat):Value:=.func (.yield l) ⟨[]⟩ ⟨[]⟩
theorem eachq_d (es:List Ex) (hes:es.length≤maxI) (ih:∀k n a o m,Ex.mk k n a o m∈es->IterQ Tryz.prog 184 [imS (encEs m),yl 0] (encEs (postEs m)) (.bool true) (.bool false)):IterQ Tryz.prog 184 [imS (encEs es),yl 0] (encEs (postEs es)) (.bool true) (.bool false):=by
 refine IterQ.body rfl rfl Tryz.func184 rfl rfl rfl ?_;refine IterU.seq (IterU.pure hmixU ?_);(repeat' ((conv=>whnf);first|refine goD ?_|refine U.lw_c ?_ ?_<;>intro hb))
 refine ⟨mkF [(0,imS (encEs es)),(1,yl 0),(4,.bool false)],.sl0 ⟨rfl,rfl,rfl,trivial⟩,?_⟩;refine IterU.seq (IterU.seq (IterU.pure hmixU ?_));(repeat' ((conv=>whnf);first|refine goD ?_|refine U.lw_c ?_ ?_<;>intro hb))
 refine ⟨mkF [(1,yl 0),(4,.bool false),(7,imS (encEs es)),(8,.int .i64 (encEs es).length),(9,.int .i64 0)],.sl0 ⟨rfl,rfl,rfl,rfl,rfl,trivial⟩,?_⟩;refine IterU.block (IterU.loop (α:=List Ex×List Ex) (fun x=>x.1++x.2=es) (fun x=>(mkF [(1,yl 0),(4,.bool false),(7,imS (encEs es)),(8,.int .i64 (encEs es).length),(9,.int .i64 x.1.length)],some (encEs (postEs x.2)))) (fun x=>x.2.length) ([],es) rfl rfl ?_)
 rintro ⟨pre,rest⟩ h1
 dsimp only at h1 ⊢;rcases rest with _|⟨⟨k,n,a,o,m⟩,post⟩
 ·rw[List.append_nil] at h1;subst h1;have zb:=U.lt_no encEs_map pre;refine IterU.pure hmixU ?_;(repeat' ((conv=>whnf);first|refine goD ?_|refine U.lw_c ?_ ?_<;>intro hb))
  (conv=>whnf);refine ⟨mkF [],.sl0 trivial,IterU.pure hmixU ?_⟩;(repeat' ((conv=>whnf);first|refine goD ?_|refine U.lw_c ?_ ?_<;>intro hb))
  exact ⟨mkF [(4,.bool true)],.sl0 ⟨rfl,trivial⟩,.inl rfl,fun _=>rfl,fun h=>by cases h⟩
 ·subst h1;have zb:=U.lt_yes encEs_map pre (Ex.mk k n a o m) post;have zc:=U.blt_yes encEs_map pre (Ex.mk k n a o m) post;have zn:=U.nth_at encEs_map pre (Ex.mk k n a o m) post;have zw:=U.len_snoc (pre:=pre) (x:=Ex.mk k n a o m) (post:=post) (hes)
  rw[show encEs (postEs (.mk k n a o m::post))=encEs (postEs m)++(encE (.mk k n a o m)::encEs (postEs post)) by
   rw[postEs,postE,encEs_map,encEs_map,encEs_map,List.map_append,List.map_append,List.append_assoc];rfl]
  refine IterU.seq (IterU.pure hmixU ?_);(repeat' ((conv=>whnf);first|refine goD ?_|refine U.lw_c ?_ ?_<;>intro hb))
  refine ⟨mkF [(1,yl 0),(4,.bool false),(7,imS (encEs (pre++.mk k n a o m::post))),(8,.int .i64 (encEs (pre++.mk k n a o m::post)).length),(9,.int .i64 pre.length),(10,.bool true)],.sl0 ⟨rfl,rfl,rfl,rfl,rfl,congrArg (fun b=>some (Value.bool b)) zb,trivial⟩,?_⟩
  refine IterU.seq (IterU.pure hmixU ?_);(repeat' ((conv=>whnf);first|refine goD ?_|refine U.lw_c ?_ ?_<;>intro hb))
  refine ⟨mkF [(1,yl 0),(4,.bool false),(7,imS (encEs (pre++.mk k n a o m::post))),(8,.int .i64 (encEs (pre++.mk k n a o m::post)).length),(9,.int .i64 pre.length)],.sl0 ⟨rfl,rfl,rfl,rfl,rfl,trivial⟩,?_⟩
  refine IterU.seq (IterU.block (IterU.seq (IterU.pure hmixU ?_)));(repeat' ((conv=>whnf);first|refine goD ?_|refine U.lw_c ?_ ?_<;>intro hb))
  refine ⟨mkF [(1,yl 0),(4,.bool false),(6,imP (encE (.mk k n a o m)) 0),(7,imS (encEs (pre++.mk k n a o m::post))),(8,.int .i64 (encEs (pre++.mk k n a o m::post)).length),(9,.int .i64 pre.length)],.box1 (T:=32) (x:=encE (.mk k n a o m)) (xs:=[.int .i64 k,.int .i64 n,.int .i64 a,.int .i64 o,imS (encEs m)]) rfl rfl rfl rfl (by simp) (cleanE_cells (.mk k n a o m))
     (.cons rfl (.yld 0 0 (by decide) rfl) (.K rfl rfl rfl (.cons rfl (.ext _ _ ⟨rfl,rfl⟩) (.L rfl (cleanEs _) rfl (.cons rfl .I (.cons rfl .I .nil)))))),?_⟩
  refine IterU.seq (IterU.region (OpsU.cut 3 ?_));(repeat' ((conv=>whnf);first|refine goD ?_|refine U.lw_c ?_ ?_<;>intro hb))
  refine ⟨mkF [(1,yl 0),(4,.bool false),(6,imP (encE (.mk k n a o m)) 0),(7,imS (encEs (pre++.mk k n a o m::post))),(8,.int .i64 (encEs (pre++.mk k n a o m::post)).length),(9,.int .i64 pre.length),(14,imS (encEs m)),(15,yl 0)],.sl0 ⟨rfl,rfl,rfl,rfl,rfl,rfl,rfl,rfl,trivial⟩,?_⟩
  refine OpsU.call rfl rfl rfl rfl rfl rfl (by decide +kernel) rfl (ih k n a o m (by simp)) ?_ ?_
  rotate_left
  ·(conv=>whnf);refine U.ob_c rfl ?_;(conv=>whnf);refine OpsU.cut 7 ?_;(repeat' ((conv=>whnf);first|refine goD ?_|refine U.lw_c ?_ ?_<;>intro hb))
   refine ⟨mkF [(23,.bool true)],.sl0 ⟨rfl,trivial⟩,OpsU.nil ?_⟩;refine IterU.pure hmixU ?_;(repeat' ((conv=>whnf);first|refine goD ?_|refine U.lw_c ?_ ?_<;>intro hb))
   exact ⟨mkF [(4,.bool false)],.sl0 ⟨rfl,trivial⟩,.inr rfl,(fun h=>by cases h),fun _=>rfl⟩
  (conv=>whnf);refine U.ob_c rfl ?_;(conv=>whnf);refine OpsU.cut 4 ?_;(repeat' ((conv=>whnf);first|refine goD ?_|refine U.lw_c ?_ ?_<;>intro hb))
  refine ⟨mkF [(1,yl 0),(4,.bool false),(6,imP (encE (.mk k n a o m)) 0),(7,imS (encEs (pre++.mk k n a o m::post))),(8,.int .i64 (encEs (pre++.mk k n a o m::post)).length),(9,.int .i64 pre.length),(18,.bool false),(19,yl 0),(20,encE (.mk k n a o m))],.sl0 ⟨rfl,rfl,rfl,rfl,rfl,rfl,rfl,rfl,rfl,trivial⟩,?_⟩
  refine OpsU.round rfl rfl rfl rfl rfl (cleanE _) ?_ ?_;rotate_left
  ·(conv=>whnf);refine U.ob_c rfl ?_;(conv=>whnf);refine OpsU.cut 2 ?_;(repeat' ((conv=>whnf);first|refine goD ?_|refine U.lw_c ?_ ?_<;>intro hb))
   refine ⟨mkF [(23,.bool true)],.sl0 ⟨rfl,trivial⟩,OpsU.nil ?_⟩;refine IterU.pure hmixU ?_;(repeat' ((conv=>whnf);first|refine goD ?_|refine U.lw_c ?_ ?_<;>intro hb))
   exact ⟨mkF [(4,.bool false)],.sl0 ⟨rfl,trivial⟩,.inr rfl,(fun h=>by cases h),fun _=>rfl⟩
  (conv=>whnf);refine U.ob_c rfl ?_;(conv=>whnf);refine OpsU.cut 2 ?_;(repeat' ((conv=>whnf);first|refine goD ?_|refine U.lw_c ?_ ?_<;>intro hb))
  refine ⟨mkF [(1,yl 0),(4,.bool false),(7,imS (encEs (pre++.mk k n a o m::post))),(8,.int .i64 (encEs (pre++.mk k n a o m::post)).length),(9,.int .i64 pre.length),(23,.bool false)],.sl0 ⟨rfl,rfl,rfl,rfl,rfl,rfl,trivial⟩,OpsU.nil ?_⟩
  refine IterU.pure hmixU ?_;(repeat' ((conv=>whnf);first|refine goD ?_|refine U.lw_c ?_ ?_<;>intro hb))
  refine ⟨mkF [(1,yl 0),(4,.bool false),(7,imS (encEs (pre++.mk k n a o m::post))),(8,.int .i64 (encEs (pre++.mk k n a o m::post)).length),(9,.int .i64 pre.length)],.sl0 ⟨rfl,rfl,rfl,rfl,rfl,trivial⟩,IterU.pure hmixU ?_⟩
  (repeat' ((conv=>whnf);first|refine goD ?_|refine U.lw_c ?_ ?_<;>intro hb))
  refine ⟨mkF [(1,yl 0),(4,.bool false),(7,imS (encEs (pre++.mk k n a o m::post))),(8,.int .i64 (encEs (pre++.mk k n a o m::post)).length),(9,.int .i64 (pre++[Ex.mk k n a o m]).length)],.sl0 ?_,(pre++[.mk k n a o m],post),by simp,by simp,rfl⟩
  exact ⟨rfl,rfl,rfl,rfl,congrArg (fun z=>some (Value.int .i64 z)) zw,trivial⟩
theorem eachq_all:∀(N:Nat) (es:List Ex),szEs es≤N->szEs es≤1000->IterQ Tryz.prog 184 [imS (encEs es),yl 0] (encEs (postEs es)) (.bool true) (.bool false)
 |0,es,h0,h1=>eachq_d es (Nat.le_trans (Nat.le_trans (szEs_len es) h1) (by decide)) fun k n a o m hm=>by
  have:=szEs_mem hm;have:=szE_pos (.mk k n a o m);omega
 |N+1,es,h0,h1=>eachq_d es (Nat.le_trans (Nat.le_trans (szEs_len es) h1) (by decide)) fun k n a o m hm=>by
  have:=szEs_mem hm;rw[szE] at this;exact eachq_all N m (by omega) (by omega)
theorem exprs_q (es:List Ex) (hes:szEs es≤1000):IterQ Tryz.prog 183 [yl 0,imP (imS (encEs es)) 0] (encEs (postEs es)) undef undef:=by
 refine IterQ.body rfl rfl Tryz.func183 rfl rfl rfl ?_;have e:encEs (postEs es)=encEs (postEs es)++[]:=(List.append_nil _).symm;rw[e];refine IterU.region (OpsU.cut 2 ?_);(repeat' ((conv=>whnf);first|refine goD ?_|refine U.lw_c ?_ ?_<;>intro hb))
 refine ⟨mkF [(3,imS (encEs es)),(4,yl 0)],.sl0 ⟨rfl,rfl,trivial⟩,?_⟩;refine OpsU.call rfl rfl rfl rfl rfl rfl (by decide +kernel) rfl (eachq_all 1000 es hes hes) ?_ ?_
 all_goals (conv=>whnf)
 all_goals refine U.ob_c rfl ?_
 all_goals (conv=>whnf)
 ·exact OpsU.nil ⟨.inl rfl,(fun _=>rfl),fun h=>by cases h⟩
 ·exact OpsU.nil ⟨.inr rfl,(fun h=>by cases h),fun _=>rfl⟩
end Go.Proofs.YtnfppdblcmollaaGreatDoor
