
import Derived.Test.YtcihknonfcldeaaDoorKT13
namespace Go.Proofs.YtcihknonfcldeaaDoor.U
open Go Go.RowKit Go.Sort
set_option linter.unusedVariables false
set_option linter.unusedSimpArgs false
set_option maxRecDepth 100000
set_option maxHeartbeats 40000000
variable {R : Type} {D : Dom R} {P : Program} {cf : CallF R} {fr : Tr Value} {s : AS} {o : Oper} {N : Nat}
abbrev KontC (R:Type):=Exit->Tr Value->AS->R
def rollC (D:Dom R) (body:Tr Value->AS->KontC R->R) (k:KontC R):Nat->Tr Value->AS->R
 |0,_,_=>D.bad
 |n+1,fr,s=>body fr s fun e fr s=>match e with
  |.normal=>rollC D body k n fr s
  |e=>k e fr s
def condC (D:Dom R) (x:Option Value) (a b:R):R :=
 match x with
 |some (.bool c)=>D.br c a b
 |_=>D.bad
def jumpC:Exit->Option (Option Code)
 |.normal=>some none
 |.ret=>some (some .ret)
 |.exit id=>some (some (.exit id))
 |.goto t=>some (some (.goto t))
 |_=>none
def leftC (D:Dom R) (j:Option Code) (k:Exit->R):R :=
 match j with
 |none=>k .normal
 |some .ret=>k .ret
 |some (.exit id)=>k (.exit id)
 |some (.goto t)=>k (.goto t)
 |_=>D.bad
def calmC:LoopState->Bool
 |.busy=>false
 |_=>true
def rangeC (D:Dom R) (P:Program) (cf:CallF R) (N:Nat) (g:Operand) (ps:Array Tmp) (assign body:Code) (fr:Tr Value) (s:AS) (k:KontC R):R :=
 match evC s.glb fr g with
 |some (.func (.func gf) ⟨[]⟩ ⟨caps⟩)=>ifB D (entersB P gf) (pushC D s (.loop .ready none fr N ps.toList assign body) fun l s=>cf.call gf (.func (.yield l) ⟨[]⟩ ⟨[]⟩::caps) s fun _ s=>match lookC s l with
  |some (.loop st pe fr' N' ps' asg' bo')=>ifB D (Nat.ble s.lo l&&calmC st) (turnC s l (some (.loop .exhausted pe fr' N' ps' asg' bo')) fun s=>leftC D pe fun e=>k e fr s)
  |_=>D.bad)
 |_=>D.bad
def codeC (D:Dom R) (P:Program) (cf:CallF R) (N fuel:Nat):Code->Tr Value->AS->KontC R->R
 |.skip,fr,s,k=>k .normal fr s
 |.region _ ops draw,fr,s,k=>match draw with
  |false=>opsC D P cf N ops.toList ops.toList fr s (k .normal)
  |true=>drawC D P cf N ops.toList fr s (k .normal)
 |.seq a b,fr,s,k=>codeC D P cf N fuel a fr s fun e fr s=>match e with
  |.normal=>codeC D P cf N fuel b fr s k
  |e=>k e fr s
 |.cond c a b,fr,s,k=>condC D (evC s.glb fr c) (codeC D P cf N fuel a fr s k) (codeC D P cf N fuel b fr s k)
 |.block id c,fr,s,k=>codeC D P cf N fuel c fr s fun e fr s=>match e with
  |.exit id'=>match decide (id'=id) with
   |true=>k .normal fr s
   |false=>k (.exit id') fr s
  |e=>k e fr s
 |.loop c,fr,s,k=>rollC D (codeC D P cf N fuel c) k fuel fr s
 |.rangeFunc g ps assign body,fr,s,k=>rangeC D P cf N g ps assign body fr s k
 |.exit id,fr,s,k=>k (.exit id) fr s
 |.ret,fr,s,k=>k .ret fr s
 |.label _,fr,s,k=>k .normal fr s
 |.scope c,fr,s,k=>codeC D P cf N fuel c fr s fun e fr s=>match e with
  |.goto _=>D.bad
  |e=>k e fr s
 |_,_,_,_=>D.bad
def markD (d:Nat):Deferred:={ target:=.collected d,args:=#[] }
def DM (B:Nat) (W':World) (ds ds':List Deferred):Prop:=∃l:List Nat,ds'=l.map markD++ds∧l.Nodup∧∀d∈l,B≤d∧W'.heap[d]?=some (.deferred (some []))
theorem DM.refl (B:Nat) (W:World) (ds:List Deferred):DM B W ds ds:=⟨[],rfl,.nil,fun d h=>by cases h⟩
theorem DM.trans {W1 W2:World}{B:Nat}{a b c:List Deferred}(h:DM B W1 a b) (hk:KD W1 W2) (hB:B≤W1.heap.size) (k:DM W1.heap.size W2 b c):DM B W2 a c:=by
 obtain ⟨l1,rfl,n1,h1⟩:=h;obtain ⟨l2,rfl,n2,h2⟩:=k;refine ⟨l2++l1,by simp,List.nodup_append.2 ⟨n2,n1,fun x hx y hy e=>?_⟩,fun d hd=>?_⟩
 ·subst e;have:=(h2 x hx).1;have:=(Array.getElem?_eq_some_iff.1 (h1 x hy).2).1;omega
 ·rcases List.mem_append.1 hd with hd|hd
  ·exact ⟨Nat.le_trans hB (h2 d hd).1,(h2 d hd).2⟩
  ·exact ⟨(h1 d hd).1,hk.d d (h1 d hd).2⟩
def AfterC (P:Program) (W0:World) (N:Nat) (β:Bt) (s s':AS) (fr':Tr Value) (a:Act) (W:World) (a':Act) (W':World):Prop:=∃β',Ext W0.heap.size β β' s.next s'.next∧Rel P W0 β' s' W'∧FrR β' N fr' a'∧KD W W'∧W.heap.size≤W'.heap.size∧DM W.heap.size W' a.defers a'.defers
def LoopAt (F:Fence) (W:World):Prop:=∀l,F.round=some l->∃L,W.heap[l]?=some (.loop L)
theorem LoopAt.kd {F:Fence}{W W':World}(h:LoopAt F W) (k:KD W W'):LoopAt F W':=fun l hl=>let ⟨L,hL⟩:=h l hl;k.l l L hL
def CodeOk (P:Program) (D:Dom R) (N:Nat) (c:Code) (fr:Tr Value) (s:AS) (k:KontC R):Prop :=
 ∃e fr' s',D.T (k e fr' s')∧Stp s s'∧∀(F:Fence) (n:Nat) (W0:World) (β:Bt) (a:Act) (W:World) (Q:Exit->Act->World->Prop),WF F->LoopAt F W->Rel P W0 β s W->Free β s.next s'.next->FrR β N fr a->(∀a' W',AfterC P W0 N β s s' fr' a W a' W'->Q e a' W')->c.wpIn F n P Q a W
theorem Stp.le {s s':AS}(h:Stp s s') (hl:s.lo≤s.next):s'.lo≤s'.next:=by rw[h.lo];exact Nat.le_trans hl h.next
theorem AfterC.refl {W0:World}{β:Bt}{a:Act}{W:World}(hR:Rel P W0 β s W) (hF:FrR β N fr a):AfterC P W0 N β s s fr a W a W:=⟨β,.refl _ _,hR,hF,.refl _,Nat.le_refl _,.refl _ _ _⟩
theorem AfterC.trans {W0:World}{β β1:Bt}{s s1 s':AS}{fr':Tr Value}{a a1 a':Act}{W W1 W':World}(h1:Stp s s1) (h2:Stp s1 s') (e:Ext W0.heap.size β β1 s.next s1.next) (k:KD W W1) (z:W.heap.size≤W1.heap.size) (d:DM W.heap.size W1 a.defers a1.defers) (h:AfterC P W0 N β1 s1 s' fr' a1 W1 a' W'):AfterC P W0 N β s s' fr' a W a' W' :=
 let ⟨β2,p1,p2,p3,p4,p5,p6⟩:=h
 ⟨β2,e.trans p1 h1.next h2.next,p2,p3,k.trans p4,Nat.le_trans z p5,d.trans p4 z p6⟩
theorem After.size {W0:World}{β:Bt}{s':AS}{fr':Tr Value}{a a':Act}{W W':World}(h:After P W0 N β s s' fr' a W a' W'):AfterC P W0 N β s s' fr' a W a' W' :=
 let ⟨β2,p1,p2,p3,p4,p5⟩:=h
 ⟨β2,p1,p2,p3,p4,p4.z,by rw[p5];exact .refl _ _ _⟩
theorem rollC_sound {c:Code}{body:Tr Value->AS->KontC R->R}(hb:∀fr s k,s.lo≤s.next->D.T (body fr s k)->CodeOk P D N c fr s k) (k:KontC R):∀(n:Nat) (fr:Tr Value) (s:AS),s.lo≤s.next->D.T (rollC D body k n fr s)->CodeOk P D N (.loop c) fr s k:=by
 intro n fr s hl h;have key:∀(n:Nat) (fr:Tr Value) (s:AS),s.lo≤s.next->D.T (rollC D body k n fr s)->∃e fr' s',D.T (k e fr' s')∧Stp s s'∧∀(F:Fence) (m:Nat) (W0:World) (β:Bt) (a:Act) (W:World) (Q:Exit->Act->World->Prop),WF F->LoopAt F W->Rel P W0 β s W->Free β s.next s'.next->FrR β N fr a->(∀a' W',AfterC P W0 N β s s' fr' a W a' W'->Q e a' W')->Code.roundsIn F m P c Q n a W:=by
  intro n;induction n with
  |zero=>intro fr s hl h;exact absurd h D.nb
  |succ n ih =>
   intro fr s hl h;obtain ⟨e,fr1,s1,h1,hst,hrun⟩:=hb fr s _ hl h;by_cases he:e=.normal
   ·subst he;obtain ⟨e',fr',s',h2,hst2,hrun2⟩:=ih fr1 s1 (hst.le hl) h1;refine ⟨e',fr',s',h2,hst.trans hst2,fun F m W0 β a W Q hW hL hR hf hF hn=>?_⟩
    exact hrun F m W0 β a W _ hW hL hR (hf.sub hst2.next) hF fun a' W' ⟨β1,q1,q2,q3,q4,q5,q6⟩=>hrun2 F m W0 β1 a' W' Q hW (hL.kd q4) q2 (hf.ext q1 hst.next) q3 fun a'' W'' hA=>hn _ _ (hA.trans hst hst2 q1 q4 q5 q6)
   ·refine ⟨e,fr1,s1,?_,hst,fun F m W0 β a W Q hW hL hR hf hF hn=>?_⟩
    ·cases e<;>first|exact absurd rfl he|exact h1
    ·refine hrun F m W0 β a W _ hW hL hR hf hF fun a' W' hA=>?_
     have:=hn a' W' hA;cases e<;>first|exact absurd rfl he|exact this
 obtain ⟨e,fr',s',h1,h2,h3⟩:=key n fr s hl h;exact ⟨e,fr',s',h1,h2,fun F m W0 β a W Q hW hL hR hf hF hn=>wpIn_loop_rounds n (h3 F m W0 β a W Q hW hL hR hf hF hn)⟩
theorem condC_sound {c:Operand}{A B:R}(h:D.T (condC D (evC s.glb fr c) A B)):(D.T A∧∀(β:Bt) (W0 W:World) (a:Act),Rel P W0 β s W->FrR β N fr a->a.eval c=.bool true)∨(D.T B∧∀(β:Bt) (W0 W:World) (a:Act),Rel P W0 β s W->FrR β N fr a->a.eval c=.bool false):=by
 have ev:∀(b:Bool),evC s.glb fr c=some (.bool b)->∀(β:Bt) (W0 W:World) (a:Act),Rel P W0 β s W->FrR β N fr a->a.eval c=.bool b:=fun b hb β W0 W a hR hF=>by
  have hop:=hF.op hR { (default:Oper) with op:=.move c }
  exact (hop c (by simp[Op.operands]) _ hb).flat_eq rfl
 unfold condC at h;split at h
 ·rename_i b hb;replace h:=D.br_ok _ _ _ h;rcases h with ⟨rfl,h⟩|⟨rfl,h⟩
  ·exact .inl ⟨h,ev true hb⟩
  ·exact .inr ⟨h,ev false hb⟩
 ·exact absurd h D.nb
theorem stepR_scope {b:Frame}{a:Act}{k:List Item}{cs:List Frame}{w:World}{c:Code}:step P (lone (b.atR a (.code (.scope c)::k)) cs w)=.next (lone (b.atR a (.code c::.inScope c::k)) cs w) :=
 step_lone_go (by simp[stepG,stepG.exec,Frame.atR])
theorem stepR_inScope {b:Frame}{a:Act}{k:List Item}{cs:List Frame}{w:World}{c:Code}:step P (lone (b.atR a (.inScope c::k)) cs w)=.next (lone (b.atR a k) cs w) :=
 step_lone_go (by simp[stepG,stepG.exec,Frame.atR])
theorem wpIn_scope_straight {F:Fence}{n:Nat}{Q:Exit->Act->World->Prop}{a:Act}{w:World}{c:Code}(h:c.wpIn F n P (Exit.noGoto Q) a w):(Code.scope c).wpIn F n P Q a w:=by
 intro b k cs hro hb hr;have h0:(lone (b.atR a (.code (.scope c)::k)) cs w).fenced P F:=fenced_calm hb hr rfl;obtain ⟨e,a₁,w₁,hq,harr⟩:=h b (.inScope c::k) cs hro hb hr;cases e with
 |normal=>exact ⟨.normal,a₁,w₁,hq,.head h0 stepR_scope (StepsIn.trans harr (.one (fenced_calm hb hr rfl) stepR_inScope))⟩
 |exit id=>exact ⟨.exit id,a₁,w₁,hq,.of_steps (.one h0 stepR_scope) ⟨fun k' hk=>harr.1 k' (by simp[exitTo,hk]),fun hr hk=>harr.2 hr (by simp[exitTo,hk])⟩⟩
 |goto l=>exact hq.elim
 |ret=>exact ⟨_,a₁,w₁,hq,.of_steps (.one h0 stepR_scope) harr⟩
 |panic ch=>exact ⟨_,a₁,w₁,hq,.of_steps (.one h0 stepR_scope) harr⟩
 |outgrown=>exact ⟨_,a₁,w₁,hq,.of_steps (.one h0 stepR_scope) harr⟩
theorem leftC_sound {k:Exit->R}{j:Option Code}(h:D.T (leftC D j k)):∃e,D.T (k e)∧∀(F:Fence) (n:Nat) (Q:Exit->Act->World->Prop) (a:Act) (W:World),Q e a W->(j=none->Q .normal a W)∧∀c,j=some c->c.wpIn F n P Q a W:=by
 unfold leftC at h;split at h
 ·exact ⟨_,h,fun F n Q a W hq=>⟨fun _=>hq,fun c hc=>by cases hc⟩⟩
 ·exact ⟨_,h,fun F n Q a W hq=>⟨fun hc=>(by cases hc),fun c hc=>by cases hc;exact wpIn_ret hq⟩⟩
 ·exact ⟨_,h,fun F n Q a W hq=>⟨fun hc=>(by cases hc),fun c hc=>by cases hc;exact wpIn_exit hq⟩⟩
 ·exact ⟨_,h,fun F n Q a W hq=>⟨fun hc=>(by cases hc),fun c hc=>by cases hc;exact wpIn_goto hq⟩⟩
 ·exact absurd h D.nb
theorem Rel.putLoop {W0:World}{β:Bt}{W:World}{l r sp:Nat}{L L':Loop}{b:Blk}(hR:Rel P W0 β s W) (hb:s.heap.get l≠none) (hr:β l=some (r,sp)) (hlo:s.lo≤l) (hL:W.heap[r]?=some (.loop L)) (h:∀W',W'.heap[r]?=some (.loop L')->BlkR P β W' r sp True b) :
  Rel P W0 β ⟨s.heap.set l (some b),s.next,s.lo,s.glb⟩ (W.putObj r (.loop L'))∧KD W (W.putObj r (.loop L'))∧(W.putObj r (.loop L')).heap[r]?=some (.loop L')∧(W.putObj r (.loop L')).heap.size=W.heap.size:=by
 have hlt:=(Array.getElem?_eq_some_iff.1 hL).1;have h1:(W.putObj r (.loop L')).heap[r]?=some (.loop L'):=World.putObj_heap_same hlt;have h2:∀i,i≠r->(W.putObj r (.loop L')).heap[i]?=W.heap[i]?:=fun i hi=>World.putObj_heap_other hi
 have hge:=hR.ge l r sp hb hr hlo;exact ⟨hR.write hb hr hlo (by simp[World.putObj]) h2 (hR.below.grown (grownBy_putObj' W r _) hR.below.size fun i hi=>by cases hi;exact hge) (h _ h1),.writeL hL h1 h2 (by simp[World.putObj]),h1,by simp[World.putObj]⟩
theorem rangeC_sound (hc:CallOk P D cf) {g:Operand}{ps:Array Tmp}{assign body:Code}{k:KontC R}(hl:s.lo≤s.next) (h:D.T (rangeC D P cf N g ps assign body fr s k)):CodeOk P D N (.rangeFunc g ps assign body) fr s k:=by
 unfold rangeC at h;split at h
 ·rename_i gf caps hg;replace h:=ifB_sound h;obtain ⟨hen,h⟩:=h;rw[pushC_eq] at h;obtain ⟨u,s1,h,hst,hcall⟩:=hc.call gf _ _ _ (Nat.le_succ_of_le hl) h;have hp:=AS.push_stp s (.loop .ready none fr N ps.toList assign body) hl
  split at h
  ·rename_i st pe fr' N' ps' asg' bo' hlook
   have hlook':s1.heap.get s.next=some (.loop st pe fr' N' ps' asg' bo'):=hlook;replace h:=ifB_sound h;obtain ⟨hb,h⟩:=h;simp only[Bool.and_eq_true] at hb;have hlo:=bR hb.1;have hcalm:=hb.2;rw[turnC_eq] at h
   obtain ⟨e,h,hleft⟩:=leftC_sound (P:=P) h;have ht:Stp s1 ⟨s1.heap.set s.next (some (.loop .exhausted pe fr' N' ps' asg' bo')),s1.next,s1.lo,s1.glb⟩:=Stp.turn _ (by rw[hlook'];simp) hlo (fun _=>rfl)
   refine ⟨e,fr,_,h,(hp.trans hst).trans ht,fun F n W0 β a W Q hW hLA hR hf hF hn=>?_⟩
   have hop:=hF.op hR { (default:Oper) with op:=.move g }
   obtain ⟨a',b',e1,e2,e3⟩:=(hop g (by simp[Op.operands]) _ hg).func_inv
   obtain rfl:=e1.inv_nil;have hfree:β s.next=none:=hf s.next rL (by have:=hst.next;have:=ht.next;show s.next<s1.next;exact Nat.lt_of_lt_of_le (Nat.lt_succ_self _) hst.next)
   refine wpIn_rangeFunc fun fn _=>?_
   -- the loop is laid
   have main:∀(W1:World) (mark:List Deferred) (dd:Nat),Below W.heap.size W W1->W.drawn≤W1.drawn->Rel P W0 β s W1->(Instr.enterLoop fn a.tmps ps assign body F.round).run P W=.ok (W1.heap.size,mark) (W1.alloc (.loop { state:=.ready,pending:=none,fn,tmps:=a.tmps,params:=ps,assign,body,defers:=dd }))->DM W.heap.size W1 a.defers (mark++a.defers) ->
     ∃(l:Nat) (mark:List Deferred) (w₁:World) (d:Deferred) (w₁':World) (f:FuncId) (args:Array Value) (w₂:World),
   (Instr.enterLoop fn a.tmps ps assign body F.round).run P W=.ok (l,mark) w₁ ∧
   (resolve a.eval (rangeCall g l) 0).run P w₁=.ok d w₁' ∧
   (∀f',Target.leads P w₁' d.target d.args=some f'->F.fn f') ∧
   (invoke d.target d.args).run P w₁'=.ok (.enter f args) w₂ ∧
   (F.depth.isSome=true->1≤n) ∧
   CallsIn F (n-1) P f args w₂ (rangePost F n P l Q { a with defers:=mark++a.defers }):=fun W1 mark dd hB1 hD1 hR1 hrun hDM=>by
    obtain ⟨L0,hL0⟩:∃L0:Loop,L0={ state:=.ready,pending:=none,fn,tmps:=a.tmps,params:=ps,assign,body,defers:=dd }:=⟨_,rfl⟩
    rw[← hL0] at hrun;have hR2:Rel P W0 (β.set s.next (W1.heap.size,0)) (s.push (.loop .ready none fr N ps.toList assign body)) (W1.alloc (.loop L0)):=by
     refine hR1.alloc hfree ⟨L0,heap_new _ _,by rw[hL0],by rw[hL0],by rw[hL0],by rw[hL0],by rw[hL0],by rw[hL0];exact hF.size,fun t u hu=>?_,hF.lt⟩
     rw[hL0];exact (hF.at_ t u hu).grow (Bt.set_le (B:=0) _ hfree)
    have hx:Ext W0.heap.size β (β.set s.next (W1.heap.size,0)) s.next (s.next+1):=⟨Bt.set_le _ hfree,fun i hi=>Bt.set_other _ _ (by omega)⟩
    have hcalls:=hcall W0 _ (W1.alloc (.loop L0)) (.func (.yield W1.heap.size) ⟨[]⟩ ⟨[]⟩::b') hR2 ((hf.sub (m:=s1.next) ht.next).ext hx (Nat.le_succ _)) (.cons (.yld _ _ _ (Bt.set_same _ _ _)) (e2.grow hx.le))
    refine ⟨W1.heap.size,mark,W1.alloc (.loop L0),{ target:=.fn (.func gf) ⟨b'⟩,args:=#[.func (.yield W1.heap.size) #[] #[]] },W1.alloc (.loop L0),gf,⟨.func (.yield W1.heap.size) ⟨[]⟩ ⟨[]⟩::b'⟩,W1.alloc (.loop L0),hrun,?_,fun f' _=>hW.fn f',?_,hW.dep,?_⟩
    ·simp only[resolve,e3];simp[go_sem]
    ·have:=run_enters (P:=P) (us:=(⟨.func (.yield W1.heap.size) ⟨[]⟩ ⟨[]⟩::b'⟩:Array Value)) hen (W1.alloc (.loop L0));simpa [invoke,go_sem] using this
    ·refine hW.calls (hcalls.mono ?_);rintro e' W3 ⟨v,rfl,β2,q1,q2,q3,q4⟩
     have hname:β2 s.next=some (W1.heap.size,0):=q1.le _ _ (Bt.set_same _ _ _);obtain ⟨L,g1,g2,g3,g4,g5,g6,g7,g8,g9⟩:=q2.blk s.next _ _ _ hlook' hname;have hnb:L.state≠.busy:=by
      rw[g2];rintro rfl
      cases hcalm
     obtain ⟨r1,r2,r3,r4⟩:=q2.putLoop (by rw[hlook'];simp) hname hlo g1 (L':={ L with state:=.exhausted }) (b:=.loop .exhausted pe fr' N' ps' asg' bo') fun W' hW'=>⟨_,hW',rfl,g3,g4,g5,g6,g7,g8,g9⟩
     refine ⟨L.pending,_,run_endLoop (P:=P) g1 hnb,?_⟩;have hz1:W.heap.size≤W1.heap.size:=hB1.size;have hz2:(W1.alloc (.loop L0)).heap.size≤W3.heap.size:=by
      have:=q2.lt s.next _ _ hname;simp;omega
     have k1:KD W (W1.alloc (.loop L0)):=KD.below (hB1.trans (((Below.refl _ W1).alloc rL _).mono hz1));have k2:KD W1 (W3.putObj W1.heap.size (.loop { L with state:=.exhausted })):=((KD.below ((Below.refl _ W1).alloc rL _)).trans q4).trans r2
     have hlen:(s.push (.loop .ready none fr N ps.toList assign body)).next=s.next+1:=rfl;have hA:AfterC P W0 N β s ⟨s1.heap.set s.next (some (.loop .exhausted pe fr' N' ps' asg' bo')),s1.next,s1.lo,s1.glb⟩ fr a W { a with defers:=mark++a.defers } (W3.putObj W1.heap.size (.loop { L with state:=.exhausted })):=by
      refine ⟨β2,hx.trans q1 (Nat.le_succ _) hst.next,r1,⟨hF.size,fun t u hu=>(hF.at_ t u hu).grow (hx.le.trans q1.le),hF.lt⟩,(k1.trans q4).trans r2,?_,?_⟩
      ·rw[r4];simp at hz2
       omega
      ·exact (hDM.trans k2 hz1 (.refl _ _ _))
     have hq:=hleft F n Q _ _ (hn _ _ hA);clear hleft h hn;split
     ·rename_i hj;exact hq.1 (g3.symm.trans hj)
     ·rename_i c hj;exact hq.2 c (g3.symm.trans hj)
   rcases hround:F.round with _|l0
   ·have hE:=run_enterLoop_outer (P:=P) (w:=W) fn a.tmps ps assign body;have hB1:Below W.heap.size W (W.alloc (.deferred (some []))):=(Below.refl _ _).alloc rL _;have:=main (W.alloc (.deferred (some []))) [markD W.heap.size] W.heap.size hB1 rL (hR.later hB1) (by rw[hround];simpa [markD] using hE) ⟨[W.heap.size],rfl,by simp,fun d hd=>by
     have:d=W.heap.size:=by simpa using hd
     subst this;exact ⟨Nat.le_refl _,World.alloc_heap_new W _⟩⟩
    rwa [hround] at this
   ·obtain ⟨r0,hr0⟩:=hLA l0 hround;have hE:=run_enterLoop_inner (P:=P) hr0 fn a.tmps ps assign body;have:=main W [] r0.defers (.refl _ _) rL hR (by rw[hround];exact hE) (.refl _ _ _)
    rwa [hround] at this
  ·exact absurd h D.nb
 ·exact absurd h D.nb
theorem codeC_sound (hm:P.follows .mixedOrders=true) (hc:CallOk P D cf) (fuel:Nat):∀(c:Code) (fr:Tr Value) (s:AS) (k:KontC R),s.lo≤s.next->D.T (codeC D P cf N fuel c fr s k)->CodeOk P D N c fr s k:=by
 intro c;induction c with
 |skip=>intro fr s k hl h;exact ⟨_,_,_,h,.refl _,fun F n W0 β a W Q hW hL hR hf hF hn=>wpIn_skip (hn _ _ (.refl hR hF))⟩
 |region id ops draw =>
  intro fr s k hl h;cases draw with
  |false =>
   obtain ⟨fr',s',h1,hst,hrun⟩:=opsC_sound hc _ _ _ _ hl h;refine ⟨_,fr',s',h1,hst,fun F n W0 β a W Q hW hL hR hf hF hn=>wpIn_region_list ?_⟩
   have:=hrun F n W0 β a W Q hW hR hf hF fun a' W' hA=>hn a' W' hA.size
   simpa using this
  |true =>
   obtain ⟨fr',s',h1,hst,hrun⟩:=drawC_sound hm hc hl h;refine ⟨_,fr',s',h1,hst,fun F n W0 β a W Q hW hL hR hf hF hn=>?_⟩
   have:=hrun F n W0 β a W id Q hW hR hf hF fun a' W' hA=>hn a' W' hA.size
   simpa using this
 |seq x y ihx ihy =>
  intro fr s k hl h;obtain ⟨e,fr1,s1,h1,hst,hrun⟩:=ihx _ _ _ hl h;by_cases he:e=.normal
  ·subst he;obtain ⟨e',fr',s',h2,hst2,hrun2⟩:=ihy _ _ _ (hst.le hl) h1;exact ⟨e',fr',s',h2,hst.trans hst2,fun F n W0 β a W Q hW hL hR hf hF hn=>wpIn_seq (hrun F n W0 β a W _ hW hL hR (hf.sub hst2.next) hF fun a' W' ⟨β1,q1,q2,q3,q4,q5,q6⟩=>hrun2 F n W0 β1 a' W' Q hW (hL.kd q4) q2 (hf.ext q1 hst.next) q3 fun a'' W'' hA=>hn _ _ (hA.trans hst hst2 q1 q4 q5 q6))⟩
  ·refine ⟨e,fr1,s1,?_,hst,fun F n W0 β a W Q hW hL hR hf hF hn=>wpIn_seq (hrun F n W0 β a W _ hW hL hR hf hF fun a' W' hA=>?_)⟩
   ·cases e<;>first|exact absurd rfl he|exact h1
   ·have:=hn a' W' hA;cases e<;>first|exact absurd rfl he|exact this
 |cond c x y ihx ihy =>
  intro fr s k hl h;rcases condC_sound (P:=P) (N:=N) h with ⟨h,hev⟩|⟨h,hev⟩
  ·obtain ⟨e,fr',s',h1,hst,hrun⟩:=ihx _ _ _ hl h;exact ⟨e,fr',s',h1,hst,fun F n W0 β a W Q hW hL hR hf hF hn=>wpIn_cond_true (hev β W0 W a hR hF) (hrun F n W0 β a W Q hW hL hR hf hF hn)⟩
  ·obtain ⟨e,fr',s',h1,hst,hrun⟩:=ihy _ _ _ hl h;exact ⟨e,fr',s',h1,hst,fun F n W0 β a W Q hW hL hR hf hF hn=>wpIn_cond_false (hev β W0 W a hR hF) (hrun F n W0 β a W Q hW hL hR hf hF hn)⟩
 |block id c ih =>
  intro fr s k hl h;obtain ⟨e,fr',s',h1,hst,hrun⟩:=ih _ _ _ hl h;have key:∃e',D.T (k e' fr' s')∧∀Q:Exit->Act->World->Prop,Exit.inBlock id Q e=Q e':=by
   cases e with
   |exit id' =>
    by_cases he:id'=id
    ·simp only[he,decide_true] at h1;exact ⟨_,h1,fun Q=>by funext a w;simp[Exit.inBlock,he]⟩
    ·simp only[he,decide_false] at h1;exact ⟨_,h1,fun Q=>by funext a w;simp[Exit.inBlock,he]⟩
   |_=>exact ⟨_,h1,fun Q=>rfl⟩
  obtain ⟨e',h2,he⟩:=key;refine ⟨e',fr',s',h2,hst,fun F n W0 β a W Q hW hL hR hf hF hn=>wpIn_block (hrun F n W0 β a W _ hW hL hR hf hF fun a' W' hA=>?_)⟩
  rw[he];exact hn a' W' hA
 |loop c ih =>
  intro fr s k hl h;exact rollC_sound (fun fr s k hl h=>ih fr s k hl h) k fuel fr s hl h
 |rangeFunc g ps assign body _ _ =>
  intro fr s k hl h;exact rangeC_sound hc hl h
 |exit id=>intro fr s k hl h;exact ⟨_,_,_,h,.refl _,fun F n W0 β a W Q hW hL hR hf hF hn=>wpIn_exit (hn _ _ (.refl hR hF))⟩
 |ret=>intro fr s k hl h;exact ⟨_,_,_,h,.refl _,fun F n W0 β a W Q hW hL hR hf hF hn=>wpIn_ret (hn _ _ (.refl hR hF))⟩
 |label l=>intro fr s k hl h;exact ⟨_,_,_,h,.refl _,fun F n W0 β a W Q hW hL hR hf hF hn=>wpIn_label (hn _ _ (.refl hR hF))⟩
 |scope c ih =>
  intro fr s k hl h;obtain ⟨e,fr',s',h1,hst,hrun⟩:=ih _ _ _ hl h;have he:∀l,e≠.goto l:=fun l he=>by subst he;exact absurd h1 D.nb
  refine ⟨e,fr',s',?_,hst,fun F n W0 β a W Q hW hL hR hf hF hn=>wpIn_scope_straight (hrun F n W0 β a W _ hW hL hR hf hF fun a' W' hA=>?_)⟩
  ·cases e<;>first|exact absurd rfl (he _)|exact h1
  ·have:=hn a' W' hA;cases e<;>first|exact absurd rfl (he _)|exact this
 |_=>intro fr s k hl h;exact absurd h D.nb
variable {R : Type} {D : Dom R} {P : Program} {cf : CallF R} {fr : Tr Value} {s : AS} {o : Oper} {N : Nat}
def resC (D:Dom R) (P:Program) (fr:Tr Value) (s:AS):List ResultVar->(List Value->R)->R
 |[],k=>k []
 |.tmp t::rs,k=>match Tr.at (pt t) fr with
  |some u=>resC D P fr s rs fun l=>k (u::l)
  |none=>D.bad
 |.cell a t::rs,k=>match Tr.at (pt a) fr with
  |some (.pointer (some ⟨b,off,none⟩))=>match lookC s b with
   |some (.cells _ xs _)=>partC D P t xs off fun u=>resC D P fr s rs fun l=>k (u::l)
   |_=>D.bad
  |_=>D.bad
theorem resC_sound:∀(rs:List ResultVar) (k:List Value->R),D.T (resC D P fr s rs k)->∃us,D.T (k us)∧∀(W0:World) (β:Bt) (a:Act) (W:World),Rel P W0 β s W->FrR β N fr a->∃vs,VRs β us vs∧(rs.mapM (resF a)).run P W=.ok vs W
 |[],k,h=>⟨[],h,fun W0 β a W hR hF=>⟨[],.nil _,rfl⟩⟩
 |.tmp t::rs,k,h=>by
  unfold resC at h
  ·split at h
   ·rename_i u hu;obtain ⟨us,h1,h2⟩:=resC_sound rs _ h;refine ⟨_,h1,fun W0 β a W hR hF=>?_⟩
    obtain ⟨vs,q1,q2⟩:=h2 W0 β a W hR hF;exact ⟨_,.cons (hF.at_ t u hu) q1,resF_cons (by simp[resF]) q2⟩
   ·exact absurd h D.nb
 |.cell x t::rs,k,h=>by
  unfold resC at h
  ·split at h
   ·rename_i b off hx;split at h
    ·rename_i T xs op hb;obtain ⟨u,hu,h⟩:=partC_sound h;obtain ⟨us,h1,h2⟩:=resC_sound rs _ h;refine ⟨_,h1,fun W0 β a W hR hF=>?_⟩
     obtain ⟨vs,q1,q2⟩:=h2 W0 β a W hR hF;obtain ⟨r,sp,e1,e2⟩:=(hF.at_ x _ hx).ptr_inv;obtain ⟨cs,fz,_,_,_,_,g1,_,_,g2⟩:=(hR.blk b _ r sp hb e1).real;obtain ⟨v,h3,h4⟩:=hu.rel g1;refine ⟨_,.cons h4 q1,resF_cons ?_ q2⟩
     have e2':a.tmps.getD x undef=.pointer (some ⟨r,off,none⟩):=e2;have:=h3.load g2;simp only[resF,e2',asAddr,Sem.run_bind,Sem.run_pure,Result.andThen_ok];exact this
    ·exact absurd h D.nb
   ·exact absurd h D.nb
def argsC (l:List Value) (t:Nat) (fr:Tr Value) (k:Tr Value->R):R :=
 match l with
 |[]=>k fr
 |u::l=>Tr.putK (pt t) (some u) fr fun fr=>natC (Nat.succ t) fun t=>argsC l t fr k
def argsF:List Value->Nat->Tr Value->Tr Value
 |[],_,fr=>fr
 |u::l,t,fr=>argsF l (t+1) (fr.set t (some u))
theorem argsC_eq:∀(l:List Value) (t:Nat) (fr:Tr Value) (k:Tr Value->R),argsC l t fr k=k (argsF l t fr)
 |[],t,fr,k=>rfl
 |u::l,t,fr,k=>by
  simp only[argsC,argsF,Tr.putK_eq,natC_eq,argsC_eq l];try rfl
theorem argsF_get:∀(l:List Value) (t:Nat) (fr:Tr Value) (i:Nat),(argsF l t fr).get i=if t≤i∧i<t+l.length then l[i-t]? else fr.get i
 |[],t,fr,i=>by simp only[argsF];rw[if_neg (by simp)]
 |u::l,t,fr,i=>by
  simp only[argsF,argsF_get l,Tr.get_set,List.length_cons];by_cases h1:t+1≤i∧i<t+1+l.length
  ·rw[if_pos h1,if_pos (by omega),show i-t=(i-(t+1))+1 by omega,List.getElem?_cons_succ]
  ·rw[if_neg h1];by_cases h2:i=t
   ·subst h2;rw[if_pos rfl,if_pos (by omega),Nat.sub_self];rfl
   ·rw[if_neg h2,if_neg (by omega)]
theorem frR_start {β:Bt}{us vs:List Value}(h:VRs β us vs) (n:Nat):FrR β (us.length+(n-us.length)) (argsF us 0 .e) { tmps:=(⟨vs⟩:Array Value)++Array.replicate (n-(⟨vs⟩:Array Value).size) undef,defers:=[] }:=by
 have g:∀i,Tr.at (pt i) (argsF us 0 .e)=if i<us.length then us[i]? else none:=fun i=>by
  have:=argsF_get us 0 .e i;simp only[Nat.zero_le,true_and,Nat.zero_add,Nat.sub_zero,Tr.get_e] at this;exact this
 refine ⟨by simp[h.1],fun t u hu=>?_,fun t ht=>?_⟩
 ·rw[g] at hu;split at hu
  ·rename_i hlt;obtain ⟨v,h1,h2⟩:=h.get hu;have e:(((⟨vs⟩:Array Value)++Array.replicate (n-(⟨vs⟩:Array Value).size) undef:Array Value)[t]?)=some v:=by
    rw[Array.getElem?_append_left (by have:=(List.getElem?_eq_some_iff.1 h1).1;simpa using this)];simpa using h1
   simp only[Array.getD_eq_getD_getElem?,e,Option.getD_some];exact h2
  ·cases hu
 ·rw[g] at ht;split at ht
  ·omega
  ·exact absurd rfl ht
def retC (l:List Value):Value :=
 match l with
 |[u]=>u
 |l=>.tuple ⟨l⟩
theorem retC_rel {β:Bt}{us vs:List Value}(h:VRs β us vs):VR β (retC us) (retV vs):=by
 cases us with
 |nil=>rw[h.inv_nil];exact .tup _ _ rfl fun i u v hu=>by simp at hu
 |cons u us =>
  obtain ⟨v,t,rfl,h1,h2⟩:=h.inv_cons;cases us with
  |nil=>rw[h2.inv_nil];exact h1
  |cons u' us =>
   obtain ⟨v',t',rfl,h3,h4⟩:=h2.inv_cons;exact .tup _ _ h.1 h.2
def paramC (D:Dom R) (N:Nat):List Tmp->List Value->Tr Value->(Tr Value->R)->R
 |[],[],fr,k=>k fr
 |t::ps,u::us,fr,k=>putF D N (some t) u fr fun fr=>paramC D N ps us fr k
 |_,_,_,_=>D.bad
theorem paramC_sound {β:Bt}:∀(ps:List Tmp) (us:List Value) (fr:Tr Value) (k:Tr Value->R),D.T (paramC D N ps us fr k)->ps.length=us.length∧∃fr',D.T (k fr')∧∀(β:Bt) (vs:List Value) (tmps:Array Value),VRs β us vs->FrR β N fr { tmps,defers:=[] }->FrR β N fr' { tmps:=(ps.zip vs).foldl (fun tmps (t,a)=>tmps.setIfInBounds t a) tmps,defers:=[] }
 |[],[],fr,k,h=>⟨rfl,fr,h,fun β vs tmps hv hF=>by simpa using hF⟩
 |t::ps,u::us,fr,k,h=>by
  replace h:=putF_sound h;obtain ⟨hd,h⟩:=h;obtain ⟨h1,fr',h2,h3⟩:=paramC_sound (β:=β) ps us _ k h;refine ⟨by simp[h1],fr',h2,fun β vs tmps hv hF=>?_⟩
  obtain ⟨v,vs',rfl,e1,e2⟩:=hv.inv_cons;have:=hF.put (d:=some t) hd e1;exact h3 β vs' _ e2 this
 |[],_::_,fr,k,h=>absurd h D.nb
 |_::_,[],fr,k,h=>absurd h D.nb
def bodyC (D:Dom R) (P:Program) (cf:CallF R) (fuel:Nat):CallT R:=fun f args s k =>
 match P.funcs[f]? with
 |some fn=>match fn.body with
  |some c=>argsC args 0 .e fun fr=>natC (args.length+(fn.ntmps-args.length)) fun n=>codeC D P cf n fuel c fr s fun e fr s=>match e with
   |.normal=>resC D P fr s fn.results.toList fun l=>k (retC l) s
   |.ret=>resC D P fr s fn.results.toList fun l=>k (retC l) s
   |_=>D.bad
  |none=>D.bad
 |none=>D.bad
def doneC:Option Code->LoopState
 |none=>.ready
 |some _=>.done
def moreC:Option Code->Bool
 |none=>true
 |some _=>false
def roundC (D:Dom R) (P:Program) (cf:CallF R) (fuel:Nat):CallT R:=fun l args s k =>
 match lookC s l with
 |some (.loop st pe fr N ps asg bo)=>paramC D N ps args fr fun fr=>codeC D P cf N fuel asg fr s fun e fr s=>match e with
  |.normal=>match lookC s l with
   |some (.loop .ready pe2 fr2 N2 ps2 asg2 bo2)=>ifB D (Nat.ble s.lo l) (turnC s l (some (.loop .busy pe2 fr2 N2 ps2 asg2 bo2)) fun s=>codeC D P cf N fuel bo fr s fun e fr s=>match lookC s l with
    |some (.loop _ _ fr3 N3 ps3 asg3 bo3)=>onV D (jumpC e) fun j=>ifB D (Nat.ble s.lo l) (turnC s l (some (.loop (doneC j) j fr3 N3 ps3 asg3 bo3)) fun s=>k (.bool (moreC j)) s)
    |_=>D.bad)
   |_=>D.bad
  |_=>D.bad
 |_=>D.bad
theorem run_takesG {fn:Func}{tmps:Array Value}{Q:Ending->World->Prop}{n:Nat}{u:FrameMode}(hu:u≠.run) {ds:List Deferred}:∀(l:List Nat) (W:World),l.Nodup->(∀d∈l,W.heap[d]?=some (.deferred (some []))) ->
  (∀W',W'.os=W.os->W'.tape=W.tape->W'.output=W.output->W'.heap.size=W.heap.size->(∀i,(∀d∈l,i≠d)->W'.heap[i]?=W.heap[i]?)->W'.drawn=W.drawn->LeavesInM Fence.wide n P fn tmps Q ds u W')->LeavesInM Fence.wide n P fn tmps Q (l.map markD++ds) u W
 |[],W,_,_,h=>h W rfl rfl rfl rfl (fun _ _=>rfl) rfl
 |d::l,W,hn,hd,h=>by
  have h1:=hd d (by simp)
  have hlt:=(Array.getElem?_eq_some_iff.1 h1).1;obtain ⟨hn1,hn2⟩:=List.nodup_cons.1 hn;have oth:∀i,i≠d->(W.putObj d (.deferred none)).heap[i]?=W.heap[i]?:=fun i hi=>World.putObj_heap_other hi
  refine ⟨hu,.inl ⟨d,_,rfl,run_takeDeferred h1,?_⟩⟩;refine run_takesG hu l _ hn2 (fun x hx=>?_) fun W' q1 q2 q3 q4 q5 q6=>h W' (by rw[q1];rfl) (by rw[q2];rfl) (by rw[q3];rfl) (by rw[q4];simp[World.putObj]) (fun i hi=>?_) (by rw[q6];rfl)
  ·rw[oth x (fun e=>hn1 (e ▸ hx))];exact hd x (by simp[hx])
  ·rw[q5 i fun x hx=>hi x (by simp[hx]),oth i (hi d (by simp))]
theorem run_takes {fn:Func}{tmps:Array Value}{Q:Ending->World->Prop}{n:Nat}(l:List Nat) (W:World) (hn:l.Nodup) (hd:∀d∈l,W.heap[d]?=some (.deferred (some [])))
  (h:∀W',W'.os=W.os->W'.tape=W.tape->W'.output=W.output->W'.heap.size=W.heap.size->(∀i,(∀d∈l,i≠d)->W'.heap[i]?=W.heap[i]?)->W'.drawn=W.drawn->LeavesInM Fence.wide n P fn tmps Q [] .returning W'):LeavesInM Fence.wide n P fn tmps Q (l.map markD) .returning W:=by
 have:=run_takesG (P:=P) (ds:=[]) (u:=.returning) (by simp) l W hn hd h
 rwa [List.append_nil] at this
theorem Rel.takes {W0:World}{β:Bt}{W W':World}{l:List Nat}(h:Rel P W0 β s W) (hl:∀d∈l,W0.heap.size≤d∧W.heap[d]?=some (.deferred (some []))) (q1:W'.os=W.os) (q2:W'.tape=W.tape) (q3:W'.output=W.output) (q4:W'.heap.size=W.heap.size) (q5:∀i,(∀d∈l,i≠d)->W'.heap[i]?=W.heap[i]?):Rel P W0 β s W':=by
 refine ⟨fun k b r sp hk hr=>?_,h.inj,h.dom,fun k r sp hr=>by rw[q4];exact h.lt k r sp hr,h.ge,⟨q1.trans h.below.os,q2.trans h.below.tape,q3.trans h.below.output,by rw[q4];exact h.below.size,fun i hi=>?_⟩,h.glob,fun r o v hv=>⟨?_,(h.frz r o v hv).2⟩⟩
 ·have hb:=h.blk k b r sp hk hr;refine hb.same (BLe.refl (B:=0) _) id (q5 r fun d hd e=>?_)
  subst e;have hD:=(hl r hd).2;cases b with
  |cells T xs op=>obtain ⟨cs,fz,h1,_⟩:=hb;rw[hD] at h1;cases h1
  |map es bs cl=>obtain ⟨es',cl,h1,_⟩:=hb;rw[hD] at h1;cases h1
  |loop=>obtain ⟨L,h1,_⟩:=hb;rw[hD] at h1;cases h1
  |iter m since seen last=>obtain ⟨mr,q,_,h1⟩:=hb;rw[hD] at h1;cases h1
  |view xs=>obtain ⟨⟨cs,T,fz,h1⟩,_⟩:=hb;rw[hD] at h1;cases h1
 ·rw[q5 i fun d hd e=>by have:=(hl d hd).1;omega];exact h.below.block i hi
 ·have h1:=(h.frz r o v hv).1;rw[cell_same (q5 r fun d hd e=>?_)]
  ·exact h1
  ·subst e;have hD:=(hl r hd).2;unfold fzc World.cell? at h1
   rw[hD] at h1;cases h1
theorem bodyC_sound (hm:P.follows .mixedOrders=true) (hc:CallOk P D cf) (fuel:Nat):∀f args s k,s.lo≤s.next->D.T (bodyC D P cf fuel f args s k)->∃u s',D.T (k u s')∧Stp s s'∧∀W0 β W vs,Rel P W0 β s W->Free β s.next s'.next->VRs β args vs->Calls P f ⟨vs⟩ W fun e w'=>∃v,e=.returned v∧LaysC P W0 β W s s' u v w':=by
 intro f args s k hl h;unfold bodyC at h;split at h
 ·rename_i fn hfn;split at h
  ·rename_i c hbody;rw[argsC_eq,natC_eq] at h;obtain ⟨e,fr',s',h1,hst,hrun⟩:=codeC_sound hm hc fuel c _ _ _ hl h;have key:D.T (resC D P fr' s' fn.results.toList fun l=>k (retC l) s')∧(e=.normal∨e=.ret):=by
    cases e<;>first|exact ⟨h1,.inl rfl⟩|exact ⟨h1,.inr rfl⟩|exact absurd h1 D.nb
   obtain ⟨us,h2,h3⟩:=resC_sound (N:=args.length+(fn.ntmps-args.length)) _ _ key.1;refine ⟨_,s',h2,hst,fun W0 β W vs hR hf hv=>(callsIn_wide (n:=0)).1 ?_⟩
   refine callsIn_of_wp_marks hfn hbody trivial (hrun Fence.wide 0 W0 β _ W _ (.inl rfl) (fun l hl=>by cases hl) hR hf (frR_start hv fn.ntmps) fun a' W' ⟨β1,q1,q2,q3,q4,q5,q6⟩=>?_)
   obtain ⟨l,e1,e2,e3⟩:=q6;have fin:LeavesInM Fence.wide 0 P fn a'.tmps (fun e w'=>∃v,e=.returned v∧LaysC P W0 β W s s' (retC us) v w') a'.defers .returning W':=by
    rw[e1,List.append_nil];refine run_takes l W' e2 (fun d hd=>(e3 d hd).2) fun W'' p1 p2 p3 p4 p5 p6=>?_
    have hR2:=q2.takes (W':=W'') (l:=l) (fun d hd=>⟨Nat.le_trans hR.below.size (e3 d hd).1,(e3 d hd).2⟩) p1 p2 p3 p4 p5
    obtain ⟨ws,r1,r2⟩:=h3 W0 β1 a' W'' hR2 q3;refine ⟨_,run_results r2,retV ws,rfl,β1,q1,hR2,retC_rel r1,⟨fun d hd=>?_,fun d L hd=>?_,by rw[p4];exact q5,by rw[p6];exact q4.n,fun q cs T fz hq=>?_⟩⟩
    rotate_left 2
    ·rw[p5 q fun x hx e=>by
      have:=(e3 x hx).1;have:=(Array.getElem?_eq_some_iff.1 hq).1;omega]
     exact q4.c q cs T fz hq
    ·rw[p5 d fun x hx e=>by
      have:=(e3 x hx).1;have:=(Array.getElem?_eq_some_iff.1 hd).1;omega]
     exact q4.d d hd
    ·rw[p5 d fun x hx e=>by
      have:=(e3 x hx).1;have:=(Array.getElem?_eq_some_iff.1 hd).1;omega]
     exact q4.l d L hd
   rcases key.2 with rfl|rfl
   ·exact fin
   ·exact fin
  ·exact absurd h D.nb
 ·exact absurd h D.nb
theorem roundC_sound (hm:P.follows .mixedOrders=true) (hc:CallOk P D cf) (fuel:Nat):∀l args s k,s.lo≤s.next->D.T (roundC D P cf fuel l args s k)->∃u s',D.T (k u s')∧Stp s s'∧∀W0 β W vs r sp,Rel P W0 β s W->Free β s.next s'.next->VRs β args vs->β l=some (r,sp)->DoesC P W0 β s s' u W ((Instr.yield r ⟨vs⟩).run P W):=by
 intro l args s k hl h;unfold roundC at h;split at h
 ·rename_i st pe fr N ps asg bo hlook;have hlook':s.heap.get l=some (.loop st pe fr N ps asg bo):=hlook;obtain ⟨hlen,fr1,h,hpar⟩:=paramC_sound (β:=⟨fun _=>none,fun _ _=>none⟩) _ _ _ _ h
  obtain ⟨e,fr2,s1,h,hst1,hrun1⟩:=codeC_sound hm hc fuel asg _ _ _ hl h;by_cases he:e=.normal
  ·subst he;replace h:D.T (match lookC s1 l with
    |some (.loop .ready pe2 fr3 N2 ps2 asg2 bo2)=>ifB D (Nat.ble s1.lo l) (turnC s1 l (some (.loop .busy pe2 fr3 N2 ps2 asg2 bo2)) fun s=>codeC D P cf N fuel bo fr2 s fun e fr s=>match lookC s l with
     |some (.loop _ _ fr3 N3 ps3 asg3 bo3)=>onV D (jumpC e) fun j=>ifB D (Nat.ble s.lo l) (turnC s l (some (.loop (doneC j) j fr3 N3 ps3 asg3 bo3)) fun s=>k (.bool (moreC j)) s)
     |_=>D.bad)
    |_=>D.bad):=h
   split at h
   ·rename_i pe2 fr3 N2 ps2 asg2 bo2 hlook2;have hlook2':s1.heap.get l=some (.loop .ready pe2 fr3 N2 ps2 asg2 bo2):=hlook2;replace h:=ifB_sound h;obtain ⟨hlo,h⟩:=h;have hlo:=bR hlo;rw[turnC_eq] at h
    have ht1:Stp s1 ⟨s1.heap.set l (some (.loop .busy pe2 fr3 N2 ps2 asg2 bo2)),s1.next,s1.lo,s1.glb⟩:=Stp.turn _ (by rw[hlook2'];simp) hlo (fun _=>rfl)
    obtain ⟨e,fr4,s2,h,hst2,hrun2⟩:=codeC_sound hm hc fuel bo _ _ _ (ht1.le (hst1.le hl)) h;dsimp only at h;split at h
    ·rename_i st3 pe3 fr5 N3 ps3 asg3 bo3 hlook3;have hlook3':s2.heap.get l=some (.loop st3 pe3 fr5 N3 ps3 asg3 bo3):=hlook3;replace h:=onV_sound h;obtain ⟨j,hj,h⟩:=h;replace h:=ifB_sound h;obtain ⟨hlo2,h⟩:=h
     have hlo2:=bR hlo2;rw[turnC_eq] at h;have ht2:Stp s2 ⟨s2.heap.set l (some (.loop (doneC j) j fr5 N3 ps3 asg3 bo3)),s2.next,s2.lo,s2.glb⟩:=Stp.turn _ (by rw[hlook3'];simp) hlo2 (fun _=>rfl)
     refine ⟨_,_,h,((hst1.trans ht1).trans hst2).trans ht2,fun W0 β W vs r sp hR hf hv hβ=>?_⟩
     obtain ⟨L,g1,g2,g3,g4,g5,g6,g7,g8,g9⟩:=hR.blk l _ r sp hlook' hβ;have hsz:(⟨vs⟩:Array Value).size=L.params.size:=by
      rw[g4];have:=hv.1;simp;omega
     rw[run_yield g1 hsz];refine ⟨rfl,roundIn_of_wpIn trivial ?_⟩;have hzip:(L.params.zip ⟨vs⟩).foldl (fun tmps (t,a)=>tmps.setIfInBounds t a) L.tmps=(ps.zip vs).foldl (fun tmps (t,a)=>tmps.setIfInBounds t a) L.tmps:=by
      rw[g4,← Array.foldl_toList];simp
     rw[hzip,g5,g6];have hF0:=hpar β vs L.tmps hv ⟨g7,g8,g9⟩;have hW:WF (Fence.wide.inRound r):=.inr ⟨r,rfl⟩;refine hrun1 (Fence.wide.inRound r) 0 W0 β _ W _ hW (fun l0 hl0=>by cases hl0;exact ⟨L,g1⟩) hR (hf.sub (m:=s1.next) (Nat.le_trans hst2.next ht2.next)) hF0 fun a1 W1 ⟨β1,q1,q2,q3,q4,q5,q6⟩=>?_
     have hβ1:=q1.le _ _ hβ;obtain ⟨L1,k1,k2,k3,k4,k5,k6,k7,k8,k9⟩:=q2.blk l _ r sp hlook2' hβ1;obtain ⟨p1,p2,p3,p4⟩:=q2.putLoop (L':={ L1 with state:=.busy }) (b:=.loop .busy pe2 fr3 N2 ps2 asg2 bo2) (by rw[hlook2'];simp) hβ1 hlo k1 fun W' hW'=>⟨_,hW',rfl,k3,k4,k5,k6,k7,k8,k9⟩
     refine ⟨_,run_beginRound k1 k2,?_⟩;refine hrun2 (Fence.wide.inRound r) 0 W0 β1 a1 _ _ hW (fun l0 hl0=>by cases hl0;exact ⟨_,p3⟩) p1 ((hf.sub (m:=s2.next) ht2.next).ext q1 hst1.next) q3 fun a2 W2 ⟨β2,u1,u2,u3,u4,u5,u6⟩=>?_
     have hβ2:=u1.le _ _ hβ1;obtain ⟨L2,m1,m2,m3,m4,m5,m6,m7,m8,m9⟩:=u2.blk l _ r sp hlook3' hβ2;obtain ⟨o1,o2,o3,o4⟩:=u2.putLoop (L':={ L2 with state:=if j.isNone then .ready else .done,pending:=j }) (b:=.loop (doneC j) j fr5 N3 ps3 asg3 bo3) (by rw[hlook3'];simp) hβ2 hlo2 m1 fun W' hW'=>⟨_,hW',by cases j<;>rfl,rfl,m4,m5,m6,m7,m8,m9⟩
     have hend:=run_endRound (P:=P) j m1;have hres:LaysC P W0 β W s ⟨s2.heap.set l (some (.loop (doneC j) j fr5 N3 ps3 asg3 bo3)),s2.next,s2.lo,s2.glb⟩ (.bool (moreC j)) (.bool j.isNone) (W2.putObj r (.loop { L2 with state:=if j.isNone then .ready else .done,pending:=j })):=by
      refine ⟨β2,q1.trans u1 hst1.next hst2.next,o1,?_,((q4.trans p2).trans u4).trans o2⟩;have:moreC j=j.isNone:=by cases j<;>rfl
      rw[this];exact .flat _ rfl
     have main:∀e',jumpC e=some j->e=e'->roundPost P r (fun e w'=>∃v,e=.returned v∧LaysC P W0 β W s ⟨s2.heap.set l (some (.loop (doneC j) j fr5 N3 ps3 asg3 bo3)),s2.next,s2.lo,s2.glb⟩ (.bool (moreC j)) v w') e' a2 W2:=by
      rintro e' hj rfl
      cases e<;>simp only[jumpC,Option.some.injEq] at hj<;>first
       |(subst hj;exact ⟨_,_,hend,_,rfl,hres⟩)
       |cases hj
     exact main e hj rfl
    ·exact absurd h D.nb
   ·exact absurd h D.nb
  ·exact absurd (show D.T D.bad by cases e<;>first|exact absurd rfl he|exact h) D.nb
 ·exact absurd h D.nb
def callN (D:Dom R) (P:Program) (fuel:Nat) (ext:CallF R):Nat->CallF R
 |0=>ext
 |n+1=>⟨bodyC D P (callN D P fuel ext n) fuel,roundC D P (callN D P fuel ext n) fuel⟩
def badF (D:Dom R):CallF R:=⟨fun _ _ _ _=>D.bad,fun _ _ _ _=>D.bad⟩
theorem badF_ok:CallOk P D (badF D):=⟨fun f args s k hl h=>absurd h D.nb,fun f args s k hl h=>absurd h D.nb⟩
theorem callN_ok (hm:P.follows .mixedOrders=true) {ext:CallF R}(he:CallOk P D ext) (fuel:Nat):∀n,CallOk P D (callN D P fuel ext n)
 |0=>he
 |n+1=>⟨bodyC_sound hm (callN_ok hm he fuel n) fuel,roundC_sound hm (callN_ok hm he fuel n) fuel⟩
def gHeap (Ts:Nat->TypeId):List (Nat×List Value)->Tr Blk
 |[]=>.e
 |x::l=>(gHeap Ts l).set x.1 (some (.cells (Ts x.1) x.2 false))
def gTop:List (Nat×List Value)->Nat
 |[]=>0
 |x::l=>match Nat.ble (gTop l) x.1 with
  |true=>x.1+1
  |false=>gTop l
def gOk (l:List (Nat×List Value)):Bool:=l.all fun x=>x.2.all fun u=>flat1 u&&u.oneCell'
theorem gHeap_get {Ts:Nat->TypeId}:∀{l:List (Nat×List Value)}{k:Nat}{b:Blk},(gHeap Ts l).get k=some b->∃xs,(k,xs)∈l∧b=.cells (Ts k) xs false
 |[],k,b,h=>by rw[gHeap,Tr.get_e] at h;cases h
 |x::l,k,b,h=>by
  rw[gHeap,Tr.get_set] at h;split at h
  ·rename_i e;subst e;cases h;exact ⟨x.2,by simp,rfl⟩
  ·obtain ⟨xs,h1,h2⟩:=gHeap_get h;exact ⟨xs,by simp[h1],h2⟩
theorem gTop_lt:∀{l:List (Nat×List Value)}{k:Nat},k<gTop l->∃x∈l,k≤x.1
 |[],k,h=>by simp[gTop] at h
 |x::l,k,h=>by
  unfold gTop at h;split at h
  ·exact ⟨x,by simp,by omega⟩
  ·obtain ⟨y,h1,h2⟩:=gTop_lt (l:=l) (k:=k) h;exact ⟨y,by simp[h1],h2⟩
theorem gTop_mem:∀{l:List (Nat×List Value)}{x:Nat×List Value},x∈l->x.1<gTop l
 |y::l,x,h=>by
  unfold gTop;split
  ·rename_i hb;have hb:=bR hb;rcases List.mem_cons.1 h with rfl|h
   ·exact Nat.lt_succ_self _
   ·have:=gTop_mem h;omega
  ·rename_i hb;rcases List.mem_cons.1 h with rfl|h
   ·exact Nat.lt_of_not_le fun hle=>by rw[bLe hle] at hb;cases hb
   ·exact gTop_mem h
def typeAt (W:World) (g:Nat):TypeId :=
 match W.heap[g]? with
 |some (.cells _ T _)=>T
 |_=>0
def start (l:List (Nat×List Value)) (Ts:Nat->TypeId):AS:=⟨gHeap Ts l,gTop l,gTop l,gTop l⟩
def gSet (l:List (Nat×List Value)) (W:World):Prop:=∀x∈l,∃T fz,W.heap[x.1]?=some (.cells ⟨x.2⟩ T fz)
theorem start_rel {P:Program}{l:List (Nat×List Value)}{W:World}(hl:gOk l=true) (h:gSet l W):Rel P W ⟨fun k=>if k<gTop l then some (k,0) else none,fun _ _=>none⟩ (start l (typeAt W)) W:=by
 have inv:∀{k r sp:Nat},(if k<gTop l then some (k,0) else none)=some (r,sp)->k<gTop l∧r=k∧sp=0:=fun {k r sp} h=>by
  split at h
  ·cases h;exact ⟨by assumption,rfl,rfl⟩
  ·cases h
 refine ⟨fun k b r sp hb hr=>?_,fun k k' r sp sp' _ _ _ hr hr'=>?_,fun k hk=>?_,fun k r sp hr=>?_,fun k r sp hk hr hlo=>?_,.refl _ _,fun g hg=>(by simp[start] at hg;simp[hg]),fun r o v hv=>by cases hv⟩
 ·obtain ⟨hk,rfl,rfl⟩:=inv hr;obtain ⟨xs,h1,rfl⟩:=gHeap_get hb;obtain ⟨T,fz,h2⟩:=h _ h1;have hT:typeAt W r=T:=by unfold typeAt;rw[h2]
  refine ⟨⟨xs⟩,fz,by rw[hT];exact h2,fun hlo=>absurd hk (Nat.not_lt.2 hlo),fun _=>rfl,by simp,fun i u hu=>?_⟩
  have:=List.all_eq_true.1 (List.all_eq_true.1 hl _ h1) u (List.mem_of_getElem? hu);simp only[Bool.and_eq_true] at this;exact ⟨this.2,u,by simpa using hu,.flat _ this.1⟩
 ·obtain ⟨_,rfl,_⟩:=inv hr;obtain ⟨_,h2,_⟩:=inv hr';exact h2
 ·cases hb:(start l (typeAt W)).heap.get k with
  |none=>exact absurd hb hk
  |some b =>
   obtain ⟨xs,h1,_⟩:=gHeap_get hb;exact gTop_mem h1
 ·obtain ⟨hk,rfl,_⟩:=inv hr;obtain ⟨x,h1,h2⟩:=gTop_lt hk;obtain ⟨T,fz,h3⟩:=h x h1;have:=(Array.getElem?_eq_some_iff.1 h3).1;omega
 ·obtain ⟨hk',rfl,_⟩:=inv hr;exact absurd hk' (Nat.not_lt.2 hlo)
def yesK:Value->AS->Bool:=fun u _ =>
 match u with
 |.bool b=>b
 |_=>false
end Go.Proofs.YtcihknonfcldeaaDoor.U
