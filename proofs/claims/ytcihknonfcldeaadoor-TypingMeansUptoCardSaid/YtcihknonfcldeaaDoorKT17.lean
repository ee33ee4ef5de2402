import Derived.RecoverIn
import Derived.Test.YtcihknonfcldeaaDoorKT16
namespace Go.Proofs.YtcihknonfcldeaaDoor.U
open Go Go.RowKit Go.Sort
set_option linter.unusedVariables false
set_option linter.unusedSimpArgs false
set_option maxRecDepth 100000
set_option maxHeartbeats 40000000
variable {R : Type} {D : DomX R} {P : Program} {cf : CallF R} {cx : CallFX R} {fr : Tr Value} {s : AS} {o : Oper} {N : Nat}
def rangeX (D:DomX R) (P:Program) (cx:CallFX R) (N:Nat) (g:Operand) (ps:Array Tmp) (assign body:Code) (fr:Tr Value) (s:AS) (k:KontC R):R:=rangeC D.toDom P (noP D cx) N g ps assign body fr s k
def condM (D:Dom R) (x:Option Value) (a b:R):R :=
 match x with
 |some (.bool true)=>a
 |some (.bool false)=>b
 |_=>D.bad
theorem condM_C {D:Dom R}{x:Option Value}{a b:R}(h:D.T (condM D x a b)):∃c,x=some (.bool c)∧((c=true∧D.T a)∨(c=false∧D.T b)):=by
 unfold condM at h;split at h
 ·exact ⟨true,rfl,.inl ⟨rfl,h⟩⟩
 ·exact ⟨false,rfl,.inr ⟨rfl,h⟩⟩
 ·exact absurd h D.nb
def litO (D:Dom R) (c:Operand) (fr:Tr Value) (k:Tr Value->R):R :=
 match c with
 |.tmp d=>litC D d fr k
 |_=>k fr
theorem litO_sound {D:Dom R}{c:Operand}{k:Tr Value->R}(h:D.T (litO D c fr k)):∃fr',(∀t,Tr.at (pt t) fr'=Tr.at (pt t) fr)∧D.T (k fr'):=by
 unfold litO at h;split at h
 ·exact litC_sound h
 ·exact ⟨fr,fun _=>rfl,h⟩
abbrev ContT (R:Type):=Tr Value->AS->KontC R->R
def seqX (a b:ContT R):ContT R:=fun fr s k=>a fr s fun e fr s=>match e with
 |.normal=>b fr s k
 |e=>k e fr s
def condX (D:DomX R) (c:Operand) (a b:ContT R):ContT R:=fun fr s k=>litO D.toDom c fr fun fr=>condM D.toDom (evC s.glb fr c) (a fr s k) (b fr s k)
def blockX (id:Nat) (c:ContT R):ContT R:=fun fr s k=>c fr s fun e fr s=>match e with
 |.exit id'=>match decide (id'=id) with
  |true=>k .normal fr s
  |false=>k (.exit id') fr s
 |e=>k e fr s
def panK (k:KontC R):Value->AS->R:=fun v s=>k (.panic [{ v:=v,recovered:=false }]) .e s
noncomputable def regionX (D:DomX R) (P:Program) (cf:CallF R) (cx:CallFX R) (N:Nat) (ops:Array Oper) (draw:Bool):ContT R:=fun fr s k=>match draw with
 |false=>opsX D P cf cx N ops.toList (panK k) ops.toList fr s (k .normal)
 |true=>drawX D P cf cx N ops.toList fr s (panK k) (k .normal)
def scopeX (D:DomX R) (c:ContT R):ContT R:=fun fr s k=>c fr s fun e fr s=>match e with
 |.goto _=>D.bad
 |e=>k e fr s
noncomputable def codeX (D:DomX R) (P:Program) (cf:CallF R) (cx:CallFX R) (N fuel:Nat) (c:Code):ContT R :=
 Code.rec (motive:=fun _=>ContT R)
  (fun fr s k=>k .normal fr s)
  (fun _ ops draw=>regionX D P cf cx N ops draw)
  (fun _ _ a b=>seqX a b)
  (fun c _ _ a b=>condX D c a b)
  (fun id _ c=>blockX id c)
  (fun c h fr s k=>D.loop P N c h k fuel fr s)
  (fun g ps assign body _ _ fr s k=>rangeX D P cx N g ps assign body fr s k)
  (fun id fr s k=>k (.exit id) fr s)
  (fun _ c=>scopeX D c)
  (fun _ fr s k=>k .normal fr s)
  (fun _ _ _ _=>D.bad)
  (fun fr s k=>k .ret fr s)
  (fun _ _ _ _=>D.bad) c
theorem AfterX.y {W0:World}{β:Bt}{s':AS}{fr':Tr Value}{a a':Act}{W W':World}(h:AfterX P W0 N β s s' fr' a W a' W'):AfterY P W0 N β s s' fr' a W a' W' :=
 let ⟨β',h1,h2,h3,h4,h5⟩:=h
 ⟨β',h1,h2,h3,h4,h4.z,by rw[h5];exact .refl _ _ _⟩
def CodeX (P:Program) (D:DomX R) (N:Nat) (c:Code) (fr:Tr Value) (s:AS) (k:KontC R):Prop:=CodeT D.T P N c fr s k
theorem rangeX_sound (hx:CallX P D cx) {g:Operand}{ps:Array Tmp}{assign body:Code}{k:KontC R}(hl:s.lo≤s.next) (h:D.T (rangeX D P cx N g ps assign body fr s k)):CodeX P D N (.rangeFunc g ps assign body) fr s k:=by
 unfold rangeX rangeC at h;split at h
 ·rename_i gf caps hg;replace h:=ifB_sound h;obtain ⟨hen,h⟩:=h;rw[pushC_eq] at h;have hcall:=hx.call0 gf _ _ _ (Nat.le_succ_of_le hl) h;have hp:=AS.push_stp s (.loop .ready none fr N ps.toList assign body) hl
  intro F n W0 β a W Q hW hLA hR hf hF hn;have hop:=hF.op hR { (default:Oper) with op:=.move g }
  obtain ⟨a',b',e1,e2,e3⟩:=(hop g (by simp[Op.operands]) _ hg).func_inv
  obtain rfl:=e1.inv_nil;have hfree:β s.next=none:=hf s.next rL;refine wpIn_rangeFunc fun fn _=>?_
  have main:∀(W1:World) (mark:List Deferred) (dd:Nat),Below W.heap.size W W1->W.drawn≤W1.drawn->Rel P W0 β s W1->(Instr.enterLoop fn a.tmps ps assign body F.round).run P W=.ok (W1.heap.size,mark) (W1.alloc (.loop { state:=.ready,pending:=none,fn,tmps:=a.tmps,params:=ps,assign,body,defers:=dd }))->DM W.heap.size W1 a.defers (mark++a.defers) ->
    ∃(l:Nat) (mark:List Deferred) (w₁:World) (d:Deferred) (w₁':World) (f:FuncId) (args:Array Value) (w₂:World),
  (Instr.enterLoop fn a.tmps ps assign body F.round).run P W=.ok (l,mark) w₁ ∧
  (resolve a.eval (rangeCall g l) 0).run P w₁=.ok d w₁' ∧
  (∀f',Target.leads P w₁' d.target d.args=some f'->F.fn f') ∧
  (invoke d.target d.args).run P w₁'=.ok (.enter f args) w₂ ∧
  (F.depth.isSome=true->1≤n) ∧
  CallsIn F (n-1) P f args w₂ (rangePost F n P l Q { a with defers:=mark++a.defers }):=fun W1 mark dd hB1 hD1 hR1 hrun hDM=>by
   obtain ⟨L0,hL0⟩:∃L0:Loop,L0={ state:=.ready,pending:=none,fn,tmps:=a.tmps,params:=ps,assign,body,defers:=dd }:=⟨_,rfl⟩
   rw[← hL0] at hrun;have hR2:Rel P W0 (β.set s.next (W1.heap.size,0)) (s.push (.loop .ready none fr N ps.toList assign body)) (W1.alloc (.loop L0)):=by
    refine hR1.alloc hfree ⟨L0,heap_new _ _,by rw[hL0],by rw[hL0],by rw[hL0],by rw[hL0],by rw[hL0],by rw[hL0];exact hF.size,fun t u hu=>?_,hF.lt⟩
    rw[hL0];exact (hF.at_ t u hu).grow (Bt.set_le (B:=0) _ hfree)
   have hx':ExtX W0.heap.size β (β.set s.next (W1.heap.size,0)) s.next (s.next+1):=⟨fun i hi=>Bt.set_other _ _ (by omega),fun i hi=>by rw[Bt.set_other _ _ (by omega)];exact hf i (by omega),fun _ _ _ h=>h,fun _ _ _ h=>.inl h⟩
   have hcalls:=hcall W0 _ (W1.alloc (.loop L0)) (.func (.yield W1.heap.size) ⟨[]⟩ ⟨[]⟩::b') hR2 hx'.free (.cons (.yld _ _ _ (Bt.set_same _ _ _)) (e2.growX (hx'.le hf)));refine ⟨W1.heap.size,mark,W1.alloc (.loop L0),{ target:=.fn (.func gf) ⟨b'⟩,args:=#[.func (.yield W1.heap.size) #[] #[]] },W1.alloc (.loop L0),gf,⟨.func (.yield W1.heap.size) ⟨[]⟩ ⟨[]⟩::b'⟩,W1.alloc (.loop L0),hrun,?_,fun f' _=>hW.fn f',?_,hW.dep,?_⟩
   ·simp only[resolve,e3];simp[go_sem]
   ·have:=run_enters (P:=P) (us:=(⟨.func (.yield W1.heap.size) ⟨[]⟩ ⟨[]⟩::b'⟩:Array Value)) hen (W1.alloc (.loop L0));simpa [invoke,go_sem] using this
   ·refine hW.calls (hcalls.mono ?_);rintro e' W3 ⟨v,u,s1,rfl,h,hst,β2,q1,q2,q3,q4⟩
    split at h
    ·rename_i st pe fr' N' ps' asg' bo' hlook
     have hlook':s1.heap.get s.next=some (.loop st pe fr' N' ps' asg' bo'):=hlook;replace h:=ifB_sound h;obtain ⟨hb,h⟩:=h;simp only[Bool.and_eq_true] at hb;have hlo:=bR hb.1;have hcalm:=hb.2;rw[turnC_eq] at h
     obtain ⟨e,h,hleft⟩:=leftC_sound (P:=P) h;have ht:Stp s1 ⟨s1.heap.set s.next (some (.loop .exhausted pe fr' N' ps' asg' bo')),s1.next,s1.lo,s1.glb⟩:=Stp.turn _ (by rw[hlook'];simp) hlo (fun _=>rfl)
     have hname:β2 s.next=some (W1.heap.size,0):=by
      rw[q1.keep s.next (Nat.lt_succ_self _)];exact Bt.set_same _ _ _
     obtain ⟨L,g1,g2,g3,g4,g5,g6,g7,g8,g9⟩:=q2.blk s.next _ _ _ hlook' hname;have hnb:L.state≠.busy:=by
      rw[g2];rintro rfl
      cases hcalm
     obtain ⟨r1,r2,r3,r4⟩:=q2.putLoop (by rw[hlook'];simp) hname hlo g1 (L':={ L with state:=.exhausted }) (b:=.loop .exhausted pe fr' N' ps' asg' bo') fun W' hW'=>⟨_,hW',rfl,g3,g4,g5,g6,g7,g8,g9⟩
     refine ⟨L.pending,_,run_endLoop (P:=P) g1 hnb,?_⟩;have hz1:W.heap.size≤W1.heap.size:=hB1.size;have hz2:(W1.alloc (.loop L0)).heap.size≤W3.heap.size:=by
      have:=q2.lt s.next _ _ hname;simp;omega
     have k1:KD W (W1.alloc (.loop L0)):=KD.below (hB1.trans (((Below.refl _ W1).alloc rL _).mono hz1));have k2:KD W1 (W3.putObj W1.heap.size (.loop { L with state:=.exhausted })):=((KD.below ((Below.refl _ W1).alloc rL _)).trans q4).trans r2
     have hext:ExtX W0.heap.size β β2 s.next s1.next:=hx'.trans q1 (Nat.le_succ _);have hA:AfterY P W0 N β s ⟨s1.heap.set s.next (some (.loop .exhausted pe fr' N' ps' asg' bo')),s1.next,s1.lo,s1.glb⟩ fr a W { a with defers:=mark++a.defers } (W3.putObj W1.heap.size (.loop { L with state:=.exhausted })):=by
      refine ⟨β2,hext,r1,⟨hF.size,fun t u hu=>(hF.at_ t u hu).growX (hext.le hf),hF.lt⟩,(k1.trans q4).trans r2,?_,?_⟩
      ·rw[r4];simp at hz2
       omega
      ·exact (hDM.trans k2 hz1 (.refl _ _ _))
     have hq:=hleft F n Q _ _ (hn _ _ _ _ _ h ((hp.x.trans hst).trans ht.x) hA);clear hleft h hn;split
     ·rename_i hj;exact hq.1 (g3.symm.trans hj)
     ·rename_i c hj;exact hq.2 c (g3.symm.trans hj)
    ·exact absurd h D.nb
  rcases hround:F.round with _|l0
  ·have hE:=run_enterLoop_outer (P:=P) (w:=W) fn a.tmps ps assign body;have hB1:Below W.heap.size W (W.alloc (.deferred (some []))):=(Below.refl _ _).alloc rL _;have:=main (W.alloc (.deferred (some []))) [markD W.heap.size] W.heap.size hB1 rL (hR.later hB1) (by rw[hround];simpa [markD] using hE) ⟨[W.heap.size],rfl,by simp,fun d hd=>by
    have:d=W.heap.size:=by simpa using hd
    subst this;exact ⟨Nat.le_refl _,World.alloc_heap_new W _⟩⟩
   rwa [hround] at this
  ·obtain ⟨r0,hr0⟩:=hLA l0 hround;have hE:=run_enterLoop_inner (P:=P) hr0 fn a.tmps ps assign body;have:=main W [] r0.defers (.refl _ _) rL hR (by rw[hround];exact hE) (.refl _ _ _)
   rwa [hround] at this
 ·exact absurd h D.nb
theorem codeX_sound (hm:P.follows .mixedOrders=true) (hc:CallOk P D.toDom cf) (hx:CallX P D cx) (fuel:Nat):∀(c:Code) (fr:Tr Value) (s:AS) (k:KontC R),s.lo≤s.next->D.T (codeX D P cf cx N fuel c fr s k)->CodeX P D N c fr s k:=by
 intro c;induction c with
 |skip=>intro fr s k hl h F n W0 β a W Q hW hL hR hf hF hn;exact wpIn_skip (hn _ _ _ _ _ h (.refl _) (.refl hR hf hF))
 |region id ops draw =>
  intro fr s k hl h F n W0 β a W Q hW hL hR hf hF hn;cases draw with
  |false =>
   refine wpIn_region_list ?_;have:=opsX_sound hc hx (n:=n) (Q:=Q) hW _ _ _ _ hl h β a W hR hf hF (fun v s' a' W' h1 hst hA=>hn _ _ _ _ _ h1 hst hA.y) fun fr' s' a' W' h1 hst hA=>hn _ _ _ _ _ h1 hst hA.y
   simpa using this
  |true =>
   have:=drawX_sound (m:=n) (Q:=Q) hm hc hx hl h id hW hR hf hF (fun v s' a' W' h1 hst hA=>hn _ _ _ _ _ h1 hst hA.y) fun fr' s' a' W' h1 hst hA=>hn _ _ _ _ _ h1 hst hA.y
   simpa using this
 |seq x y ihx ihy =>
  intro fr s k hl h F n W0 β a W Q hW hL hR hf hF hn;refine wpIn_seq (ihx _ _ _ hl h F n W0 β a W _ hW hL hR hf hF fun e fr1 s1 a1 W1 h1 hst ⟨β1,q1,q2,q3,q4,q5,q6⟩=>?_)
  by_cases he:e=.normal
  ·subst he;exact ihy _ _ _ (hst.le hl) h1 F n W0 β1 a1 W1 Q hW (hL.kd q4) q2 q1.free q3 fun e' fr' s' a' W' h2 hst2 hA=>hn _ _ _ _ _ h2 (hst.trans hst2) (hA.trans hst.next q1 q4 q5 q6)
  ·have hA:AfterY P W0 N β s s1 fr1 a W a1 W1:=⟨β1,q1,q2,q3,q4,q5,q6⟩;have h1':D.T (k e fr1 s1):=by cases e<;>first|exact absurd rfl he|exact h1
   have:=hn e fr1 s1 a1 W1 h1' hst hA;cases e<;>first|exact absurd rfl he|exact this
 |cond c x y ihx ihy =>
  intro fr0 s k hl h F n W0 β a W Q hW hL hR hf hF0 hn;replace h:=litO_sound h;obtain ⟨fr,hfrx,h⟩:=h;have hF:=hF0.ext hfrx;obtain ⟨cb,hcb,h⟩:=condM_C h;have hev0:∀(β:Bt) (W0 W:World) (a:Act),Rel P W0 β s W->FrR β N fr a->a.eval c=.bool cb:=fun β W0 W a hR hF=>by
   have hop:=hF.op hR { (default:Oper) with op:=.move c }
   exact (hop c (by simp[Op.operands]) _ hcb).flat_eq rfl
  have h:(D.T (codeX D P cf cx N fuel x fr s k)∧∀(β:Bt) (W0 W:World) (a:Act),Rel P W0 β s W->FrR β N fr a->a.eval c=.bool true)∨(D.T (codeX D P cf cx N fuel y fr s k)∧∀(β:Bt) (W0 W:World) (a:Act),Rel P W0 β s W->FrR β N fr a->a.eval c=.bool false):=by
   rcases h with ⟨rfl,h⟩|⟨rfl,h⟩
   ·exact .inl ⟨h,hev0⟩
   ·exact .inr ⟨h,hev0⟩
  rcases h with ⟨h,hev⟩|⟨h,hev⟩
  ·exact wpIn_cond_true (hev β W0 W a hR hF) (ihx _ _ _ hl h F n W0 β a W Q hW hL hR hf hF hn)
  ·exact wpIn_cond_false (hev β W0 W a hR hF) (ihy _ _ _ hl h F n W0 β a W Q hW hL hR hf hF hn)
 |block id c ih =>
  intro fr s k hl h F n W0 β a W Q hW hL hR hf hF hn;refine wpIn_block (ih _ _ _ hl h F n W0 β a W _ hW hL hR hf hF fun e fr' s' a' W' h1 hst hA=>?_)
  have key:∃e',D.T (k e' fr' s')∧∀Q:Exit->Act->World->Prop,Exit.inBlock id Q e=Q e':=by
   cases e with
   |exit id' =>
    by_cases he:id'=id
    ·simp only[he,decide_true] at h1;exact ⟨_,h1,fun Q=>by funext a w;simp[Exit.inBlock,he]⟩
    ·simp only[he,decide_false] at h1;exact ⟨_,h1,fun Q=>by funext a w;simp[Exit.inBlock,he]⟩
   |_=>exact ⟨_,h1,fun Q=>rfl⟩
  obtain ⟨e',h2,he⟩:=key;rw[he];exact hn _ _ _ _ _ h2 hst hA
 |loop c ih =>
  intro fr s k hl h;exact D.loop_ok _ _ _ _ _ _ _ _ hl (fun fr s k hl h=>ih fr s k hl h) h
 |rangeFunc g ps assign body _ _ =>
  intro fr s k hl h;exact rangeX_sound hx hl h
 |exit id=>intro fr s k hl h F n W0 β a W Q hW hL hR hf hF hn;exact wpIn_exit (hn _ _ _ _ _ h (.refl _) (.refl hR hf hF))
 |ret=>intro fr s k hl h F n W0 β a W Q hW hL hR hf hF hn;exact wpIn_ret (hn _ _ _ _ _ h (.refl _) (.refl hR hf hF))
 |label l=>intro fr s k hl h F n W0 β a W Q hW hL hR hf hF hn;exact wpIn_label (hn _ _ _ _ _ h (.refl _) (.refl hR hf hF))
 |scope c ih =>
  intro fr s k hl h F n W0 β a W Q hW hL hR hf hF hn;refine wpIn_scope_straight (ih _ _ _ hl h F n W0 β a W _ hW hL hR hf hF fun e fr' s' a' W' h1 hst hA=>?_)
  have he:∀l,e≠.goto l:=fun l he=>by subst he;exact absurd h1 D.nb
  have h1':D.T (k e fr' s'):=by cases e<;>first|exact absurd rfl (he _)|exact h1
  have:=hn _ _ _ _ _ h1' hst hA;cases e<;>first|exact absurd rfl (he _)|exact this
 |_=>intro fr s k hl h;exact absurd h D.nb
def panOf:List PanicEntry->Option Value
 |[e]=>match e.recovered,e.goexit with
  |false,false=>some e.v
  |_,_=>none
 |_=>none
theorem panOf_is {ch:List PanicEntry}{v:Value}(h:panOf ch=some v):ch=[{ v:=v,recovered:=false }]:=by
 unfold panOf at h;split at h
 ·rename_i e;split at h
  ·rename_i h1 h2;cases h;obtain ⟨v,r,g⟩:=e;simp only at h1 h2
   subst h1 h2;rfl
  ·cases h
 ·cases h
noncomputable def codeS (D:DomX R) (P:Program) (cf:CallF R) (cx:CallFX R) (N:Nat):Code->Tr Value->AS->(Tr Value->AS->R)->R
 |.skip,fr,s,k=>k fr s
 |.region _ ops false,fr,s,k=>opsX D P cf cx N ops.toList (fun _ _=>D.bad) ops.toList fr s k
 |.seq a b,fr,s,k=>codeS D P cf cx N a fr s fun fr s=>codeS D P cf cx N b fr s k
 |.cond c a b,fr,s,k=>litO D.toDom c fr fun fr=>condM D.toDom (evC s.glb fr c) (codeS D P cf cx N a fr s k) (codeS D P cf cx N b fr s k)
 |_,_,_,_=>D.bad
theorem codeS_sound (hc:CallOk P D.toDom cf) (hx:CallX P D cx) {F:Fence}{n:Nat}(hW:WF F) {W0:World}{Q:Exit->Act->World->Prop}:∀(c:Code) (fr:Tr Value) (s:AS) (k:Tr Value->AS->R),s.lo≤s.next->D.T (codeS D P cf cx N c fr s k)->∀(β:Bt) (a:Act) (W:World),Rel P W0 β s W->FreeA β s.next->FrR β N fr a->(∀fr' s' a' W',D.T (k fr' s')->StpX s s'->AfterX P W0 N β s s' fr' a W a' W'->Q .normal a' W')->c.wpIn F n P Q a W:=by
 intro c;induction c generalizing Q with
 |skip=>intro fr s k hl h β a W hR hf hF hn;exact wpIn_skip (hn _ _ _ _ h (.refl _) ⟨β,.refl hf,hR,hF,.refl _,rfl⟩)
 |region id ops draw =>
  intro fr s k hl h β a W hR hf hF hn;cases draw with
  |false =>
   refine wpIn_region_list ?_;have:=opsX_sound hc hx (n:=n) (Q:=Q) hW _ _ _ _ hl h β a W hR hf hF (fun _ _ _ _ h=>absurd h D.nb) hn
   simpa using this
  |true=>exact absurd h D.nb
 |seq x y ihx ihy =>
  intro fr s k hl h β a W hR hf hF hn;refine wpIn_seq (ihx _ _ _ hl h β a W hR hf hF fun fr1 s1 a1 W1 h1 hst ⟨β1,q1,q2,q3,q4,q5⟩=>?_)
  exact ihy _ _ _ (hst.le hl) h1 β1 a1 W1 q2 q1.free q3 fun fr' s' a' W' h2 hst2 ⟨β2,p1,p2,p3,p4,p5⟩=>hn _ _ _ _ h2 (hst.trans hst2) ⟨β2,q1.trans p1 hst.next,p2,p3,q4.trans p4,p5.trans q5⟩
 |cond c x y ihx ihy =>
  intro fr0 s k hl h β a W hR hf hF0 hn;replace h:=litO_sound h;obtain ⟨fr,hfrx,h⟩:=h;have hF:=hF0.ext hfrx;obtain ⟨cb,hcb,h⟩:=condM_C h;have hev:a.eval c=.bool cb:=by
   have hop:=hF.op hR { (default:Oper) with op:=.move c }
   exact (hop c (by simp[Op.operands]) _ hcb).flat_eq rfl
  rcases h with ⟨rfl,h⟩|⟨rfl,h⟩
  ·exact wpIn_cond_true hev (ihx _ _ _ hl h β a W hR hf hF hn)
  ·exact wpIn_cond_false hev (ihy _ _ _ hl h β a W hR hf hF hn)
 |_=>intro fr s k hl h;exact absurd h D.nb
def plainO (o:Oper):Bool:=match o.op with
 |.move _ | .assign _ | .extract .. | .alloc _ | .store .. | .typeAssert ..=>true
 |_=>false
theorem plain_v {m:Sem Value}{W W':World}{x:Next}(h:(do pure (Next.value (← m)):Sem Next).run P W=.ok x W'):(∃v,x=.value v)∨x=.skip:=by
 simp only[Sem.run_bind] at h;cases hm:m.run P W with
 |ok v w=>rw[hm] at h;simp[go_sem] at h;exact .inl ⟨v,h.1.symm⟩
 |halt e w=>rw[hm] at h;simp[go_sem] at h
theorem plain_u {m:Sem Unit}{W W':World}{x:Next}(h:(do m;pure Next.skip:Sem Next).run P W=.ok x W'):(∃v,x=.value v)∨x=.skip:=by
 simp only[Sem.run_bind] at h;cases hm:m.run P W with
 |ok v w=>rw[hm] at h;simp[go_sem] at h;exact .inr h.1.symm
 |halt e w=>rw[hm] at h;simp[go_sem] at h
theorem plainO_run {o:Oper}(h:plainO o=true) (ρ:Operand->Value) (W:World):∀x W',(execOp ρ o).run P W=.ok x W'->(∃v,x=.value v)∨x=.skip:=by
 intro x W' hr
 unfold plainO at h;split at h<;>first
  |(cases h;done)
  |(rename_i ho;simp only[execOp,ho] at hr;first
    |exact plain_v hr
    |exact plain_u hr
    |(simp[go_sem] at hr;exact .inl ⟨_,hr.1.symm⟩))
def deferAt:Code->Option (Code×Nat×Oper×Oper×Code)
 |.seq r0 (.seq (.region id ⟨[o1,o2]⟩ false) rest)=>some (r0,id,o1,o2,rest)
 |_=>none
theorem deferAt_is {c r0 rest:Code}{id:Nat}{o1 o2:Oper}(h:deferAt c=some (r0,id,o1,o2,rest)):c=.seq r0 (.seq (.region id ⟨[o1,o2]⟩ false) rest):=by
 unfold deferAt at h;split at h
 ·cases h;rfl
 ·cases h
def deferV (o:Oper):Option Operand:=match o.dst,o.guard,o.op with
 |none,none,.defer c=>match c.callee,c.args with
  |.value x,⟨[]⟩=>some x
  |_,_=>none
 |_,_,_=>none
def recoverAt:Code->Option (Oper×List Oper×Code)
 |.seq (.region _ ⟨o::l⟩ false) rest=>match o.guard,o.op with
  |none,.call c=>match c.callee,c.args with
   |.builtin .recover,⟨[]⟩=>some (o,l,rest)
   |_,_=>none
  |_,_=>none
 |_=>none
noncomputable def deferX (D:DomX R) (P:Program) (cf:CallF R) (cx:CallFX R) (g:FuncId) (caps:List Value) (v:Value) (s:AS) (kk:AS->R):R :=
 match P.funcs[g]? with
 |some gn=>match gn.body with
  |some c=>match recoverAt c with
   |some (o,l,rest)=>ifB D.toDom (l.all plainO) (argsC caps 0 .e fun fr=>natC (caps.length+(gn.ntmps-caps.length)) fun n=>putF D.toDom n o.dst v fr fun fr=>opsX D P cf cx n (o::l) (fun _ _=>D.bad) l fr s fun fr s=>codeS D P cf cx n rest fr s fun fr s=>resC D.toDom P fr s gn.results.toList fun _=>kk s)
   |none=>D.bad
  |none=>D.bad
 |none=>D.bad
theorem recoverAt_is {c rest:Code}{o:Oper}{l:List Oper}(h:recoverAt c=some (o,l,rest)):∃id,c=.seq (.region id ⟨o::l⟩ false) rest∧o.guard=none∧∃cc,o.op=.call cc∧cc.callee=.builtin .recover∧cc.args=⟨[]⟩:=by
 unfold recoverAt at h;split at h
 ·rename_i id o' l' rest'
  split at h
  ·rename_i cc hg ho;split at h
   ·rename_i hcal hargs;cases h;exact ⟨id,rfl,hg,cc,ho,hcal,hargs⟩
   ·cases h
  ·cases h
 ·cases h
theorem opsS_of_list {ops:Array Oper}{Q':Exit->Act->World->Prop}{Q:Exit->Act->List Frame->World->Prop}{cs:List Frame}(hn:∀a w,Q' .normal a w->Q .normal a cs w) (hp:∀c a w,¬Q' (.panic c) a w):∀(l:List Oper) (i:Nat),(∀j,l[j]?=ops[i+j]?)->l.all plainO=true->∀(a:Act) (w:World),wpListIn Fence.wide 0 P ops Q' l a w->wpOpsSIn Fence.wide 0 P ops Q (List.range' i l.length) a cs w
 |[],i,_,_,a,w,h=>hn _ _ h
 |o::l,i,hj,hl,a,w,h=>by
  have h0:ops[i]?=some o:=by simpa using (hj 0).symm
  simp only[List.all_cons,Bool.and_eq_true] at hl;have ih:=opsS_of_list hn hp l (i+1) (fun j=>by
   have:=hj (j+1);rw[List.getElem?_cons_succ] at this;rw[this];congr 1;omega) hl.2
  rw[List.length_cons,List.range'_succ];unfold wpOpsSIn;rw[h0];refine ⟨fun f _=>trivial,?_⟩
  unfold wpListIn at h;by_cases hw:Region.wanted o (yielded ops a.tmps)=true
  ·rw[if_pos hw] at h ⊢;obtain ⟨_,h⟩:=h;have hd:∀c,o.op≠.defer c:=fun c hc=>by simp[plainO,hc] at hl
   rw[Oper.semAt_eq _ _ _ hd] at h;have hrun:=plainO_run (P:=P) hl.1 a.eval w;generalize (execOp a.eval o).run P w=r at h hrun
   cases r with
   |ok x w' =>
    rcases hrun x w' rfl with ⟨v,rfl⟩|rfl
    ·exact ih _ _ h
    ·exact ih _ _ h
   |halt x w' =>
    cases x<;>simp only[Oper.uponIn] at h
    exact absurd h (hp _ _ _)
  ·rw[if_neg hw] at h ⊢;exact ih _ _ h.2
theorem deferX_sound (hc:CallOk P D.toDom cf) (hx:CallX P D cx) {g:FuncId}{caps:List Value}{v:Value}{kk:AS->R}(hfl:flatI v=true) (hl:s.lo≤s.next) (h:D.T (deferX D P cf cx g caps v s kk)) {W0:World}{β:Bt}{W:World}{vs:List Value}(hR:Rel P W0 β s W) (hf:FreeA β s.next) (hv:VRs β caps vs) :
  CallsDIn Fence.wide 0 P g ⟨vs⟩ (.panicking [{ v:=v,recovered:=false }]) W fun e u' w'=>∃r s',e=.returned r∧u'=.panicking [{ v:=v,recovered:=true }]∧D.T (kk s')∧StpX s s'∧LaysX P W0 β W s s' undef undef w':=by
 unfold deferX at h;split at h
 ·rename_i gn hgn;split at h
  ·rename_i c hbody;split at h
   ·rename_i o l rest hrec;replace h:=ifB_sound h;obtain ⟨hpl,h⟩:=h;rw[argsC_eq,natC_eq] at h;obtain ⟨hd,h⟩:=putF_sound h;obtain ⟨id,rfl,hg,cc,ho,hcal,hargs⟩:=recoverAt_is hrec;refine callsDIn_of_wpSIn hgn hbody trivial fun c₀ cs hmode=>?_
    have hF0:=frR_start hv gn.ntmps;have hF1:FrR β (caps.length+(gn.ntmps-caps.length)) (setF o.dst v (argsF caps 0 .e)) (({ tmps:=(⟨vs⟩:Array Value)++Array.replicate (gn.ntmps-(⟨vs⟩:Array Value).size) undef,defers:=[] }:Act).put o.dst v):=hF0.put hd (by
     cases v with
     |iface t u=>exact .ifc t u u (.of_flat _ (by cases u<;>first|exact hfl|(simp[flatI,flat2,flat1] at hfl;done)))
     |_=>simp[flatI] at hfl)
    have hrun:∀(a:Act) (w:World),(execOp a.eval o).run P w=.ok .recover w:=fun a w=>by
     simp[execOp,ho,resolve,hcal,invoke,builtin]
    refine wpSIn_seq (wpSIn_region ?_);have hrange:List.range (⟨o::l⟩:Array Oper).size=0::List.range' 1 l.length:=by
     simp[List.range_eq_range',List.range'_succ]
    rw[hrange];unfold wpOpsSIn;simp only[List.getElem?_toArray,List.getElem?_cons_zero];refine ⟨fun f _=>trivial,?_⟩
    rw[if_pos (by simp[Region.wanted,hg]),hrun]
    simp only[recoverD,hmode];refine opsS_of_list (Q':=fun e a w=>e=.normal∧Exit.thenS (rest.wpSIn Fence.wide 0 P (bodyPostS P gn c₀ cs _)) (bodyPostS P gn c₀ cs _) .normal a ({ c₀ with mode:=.panicking [{ v:=v,recovered:=true }] }::cs) w) (fun a w h=>h.2) (fun c a w h=>by cases h.1) l 1 (fun j=>by
     rw[List.getElem?_toArray,Nat.add_comm 1 j,List.getElem?_cons_succ]) hpl _ _ ?_
    refine opsX_sound hc hx (.inl rfl) _ _ _ _ hl h β _ W hR hf hF1 (fun _ _ _ _ h=>absurd h D.nb) fun fr1 s1 a1 W1 h1 hst1 ⟨β1,q1,q2,q3,q4,q5⟩=>⟨rfl,?_⟩
    refine wpSIn_of_wpIn rfl (codeS_sound hc hx (.inl rfl) rest _ _ _ (hst1.le hl) h1 β1 a1 W1 q2 q1.free q3 fun fr2 s2 a2 W2 h2 hst2 ⟨β2,p1,p2,p3,p4,p5⟩=>?_)
    obtain ⟨us,h3,h4⟩:=resC_sound (N:=caps.length+(gn.ntmps-caps.length)) _ _ h2;obtain ⟨ws,r1,r2⟩:=h4 W0 β2 a2 W2 p2 p3;refine ⟨?_,_,rfl,_,run_results r2,_,s2,rfl,rfl,h3,hst1.trans hst2,β2,q1.trans p1 hst1.next,p2,.undef _,q4.trans p4⟩
    rw[p5,q5];cases o.dst<;>rfl
   ·exact absurd h D.nb
  ·exact absurd h D.nb
 ·exact absurd h D.nb
noncomputable def bodyDX (D:DomX R) (P:Program) (cf:CallF R) (cx:CallFX R) (fuel:Nat) (fn:Func) (c:Code) (N:Nat) (fr:Tr Value) (s:AS) (k:Value->AS->R):R :=
 match deferAt c with
 |some (r0,_,o1,o2,rest)=>match deferV o2 with
  |some x=>codeS D P cf cx N r0 fr s fun fr s=>opsX D P cf cx N [o1,o2] (fun _ _=>D.bad) [o1] fr s fun fr s=>match evC s.glb fr x with
   |some (.func (.func g) ⟨[]⟩ ⟨caps⟩)=>ifB D.toDom (entersB P g) (codeX D P cf cx N fuel rest fr s fun e fr s=>match e with
    |.panic ch=>onV D.toDom (panOf ch) fun v=>ifB D.toDom (flatI v) (deferX D P cf cx g caps v s fun s=>resC D.toDom P fr s fn.results.toList fun l=>k (retC l) s)
    |_=>D.bad)
   |_=>D.bad
  |none=>D.bad
 |none=>D.bad
theorem deferV_is {o:Oper}{x:Operand}(h:deferV o=some x):o.dst=none∧o.guard=none∧∃cc,o.op=.defer cc∧cc.callee=.value x∧cc.args=⟨[]⟩:=by
 unfold deferV at h;split at h
 ·rename_i cc hd hg ho;split at h
  ·rename_i y hcal hargs;cases h;exact ⟨hd,hg,cc,ho,hcal,hargs⟩
  ·cases h
 ·cases h
theorem bodyDX_sound (hm:P.follows .mixedOrders=true) (hc:CallOk P D.toDom cf) (hx:CallX P D cx) (fuel:Nat) {fn:Func}{c:Code}{kp k:Value->AS->R}(hl:s.lo≤s.next) (h:D.T (bodyDX D P cf cx fuel fn c N fr s k)) {W0:World}{β:Bt}{W:World}{a:Act}(hR:Rel P W0 β s W) (hf:FreeA β s.next) (hF:FrR β N fr a) (hd0:a.defers=[]) :
  c.wpIn Fence.wide 0 P (bodyPostM Fence.wide 0 P fn fun e w'=>EndsX D P W0 β s kp k W e w') a W:=by
 unfold bodyDX at h;split at h
 ·rename_i r0 id o1 o2 rest hat;obtain rfl:=deferAt_is hat;split at h
  ·rename_i x hdv;obtain ⟨hdst,hg,cc,ho,hcal,hargs⟩:=deferV_is hdv;refine wpIn_seq (codeS_sound hc hx (.inl rfl) r0 _ _ _ hl h β a W hR hf hF fun fr1 s1 a1 W1 h1 hst1 ⟨β1,q1,q2,q3,q4,q5⟩=>?_)
   have hl1:=hst1.le hl;refine wpIn_seq (wpIn_region_list ?_);refine opsX_sound2 hc hx (.inl rfl) [o2] [o1] _ _ _ hl1 h1 β1 a1 W1 q2 q1.free q3 (fun _ _ _ _ h=>absurd h D.nb) fun fr2 s2 a2 W2 h2 hst2 ⟨β2,p1,p2,p3,p4,p5⟩=>?_
   split at h2
   ·rename_i g caps hev;replace h2:=ifB_sound h2;obtain ⟨hen,h2⟩:=h2;have hop:=p3.op p2 { (default:Oper) with op:=.move x }
    obtain ⟨a',b',e1,e2,e3⟩:=(hop x (by simp[Op.operands]) _ hev).func_inv
    obtain rfl:=e1.inv_nil;have hrun:(execOp a2.eval o2).run P W2=.ok (.defer { target:=.fn (.func g) ⟨b'⟩,args:=#[] }) W2:=by
     simp[execOp,ho,resolve,hcal,hargs,e3,Deferred.ofValue]
    unfold wpListIn;rw[if_pos (by simp[Region.wanted,hg])]
    refine ⟨fun f _=>trivial,?_⟩
    show Oper.uponIn _ _ _ _ _ _ _ ((Oper.semAt none a2.eval o2).run P W2)
    rw[Oper.semAt_none,hrun];simp only[Oper.uponIn];unfold wpListIn;obtain ⟨dl,hdl⟩:∃dl:Deferred,dl={ target:=.fn (.func g) ⟨b'⟩,args:=#[] }:=⟨_,rfl⟩
    rw[← hdl];rw[hdst];have hF2:FrR β2 N fr2 (({ a2 with defers:=dl::a2.defers }:Act).put none undef):=⟨p3.size,p3.at_,p3.lt⟩
    have hd2:(({ a2 with defers:=dl::a2.defers }:Act).put none undef).defers=[dl]:=by
     have:a2.defers=[]:=p5.trans (q5.trans hd0);simp[Act.put,this]
    generalize (({ a2 with defers:=dl::a2.defers }:Act).put none undef)=a2' at hF2 hd2
    have hst12:=hst1.trans hst2;refine codeX_sound hm hc hx fuel rest _ _ _ (hst2.le hl1) h2 Fence.wide 0 W0 β2 a2' W2 _ (.inl rfl) (fun l hl=>by cases hl) p2 p1.free hF2 fun e fr3 s3 a3 W3 h3 hst3 ⟨β3,u1,u2,u3,u4,u5,u6⟩=>?_
    cases e with
    |panic ch =>
     obtain ⟨v,hpv,h4⟩:=onV_sound h3;clear h3;obtain ⟨hfl,h3⟩:=ifB_sound h4;clear h4;obtain rfl:=panOf_is hpv;obtain ⟨lm,f1,f2,f3⟩:=u6;show LeavesInM Fence.wide 0 P fn a3.tmps _ a3.defers (.panicking [{ v:=v,recovered:=false }]) W3
     rw[f1,hd2];refine run_takesG (by simp) lm W3 f2 (fun d hd=>(f3 d hd).2) fun W4 t1 t2 t3 t4 t5 t6=>?_
     have hbase:W0.heap.size≤W2.heap.size:=p2.below.size;have hR4:=u2.takes (W':=W4) (l:=lm) (fun d hd=>⟨Nat.le_trans hbase (f3 d hd).1,(f3 d hd).2⟩) t1 t2 t3 t4 t5
     have hl3:=hst3.le (hst2.le hl1);have x13:ExtX W0.heap.size β β3 s.next s3.next:=(q1.trans p1 hst1.next).trans u1 hst12.next;have kd4:KD W W4:=by
      have k3:=(q4.trans p4).trans u4;refine ⟨fun d hd=>?_,fun d L hd=>?_,by rw[t4];exact k3.z,by rw[t6];exact k3.n,fun q cs T fz hq=>?_⟩
      rotate_left 2
      ·rw[t5 q fun x hx e=>by
        have h1:=(f3 x hx).1;have h2:=(Array.getElem?_eq_some_iff.1 hq).1;have h3:=(q4.trans p4).z;omega]
       exact k3.c q cs T fz hq
      ·rw[t5 d fun x hx e=>by
        have h1:=(f3 x hx).1;have h2:=(Array.getElem?_eq_some_iff.1 hd).1;have h3:=(q4.trans p4).z;omega]
       exact k3.d d hd
      ·rw[t5 d fun x hx e=>by
        have h1:=(f3 x hx).1;have h2:=(Array.getElem?_eq_some_iff.1 hd).1;have h3:=(q4.trans p4).z;omega]
       exact k3.l d L hd
     have hcaps:VRs β3 caps b':=e2.growX (u1.le p1.free);refine ⟨by simp,.inr ⟨fun h=>(by cases h),.func g,⟨b'⟩,g,⟨b'⟩,by rw[hdl],?_,fun _ _=>trivial,?_⟩⟩
     ·have:=run_enters (P:=P) (us:=(⟨b'⟩:Array Value)) hen W4;rw[hdl];simpa [invoke,go_sem] using this
     ·refine CallsDIn.mono (deferX_sound hc hx hfl hl3 h3 hR4 u1.free hcaps) fun e u' w' ⟨r,s5,e1,e2,h5,hst5,β5,v1,v2,v3,v4⟩=>?_
      subst e1 e2;obtain ⟨us,h6,h7⟩:=resC_sound (N:=N) _ _ h5;obtain ⟨ws,r1,r2⟩:=h7 W0 β5 a3 w' v2 (u3.growX (v1.le u1.free));exact ⟨_,run_results r2,.inl ⟨retV ws,_,s5,rfl,h6,(hst12.trans hst3).trans hst5,β5,x13.trans v1 (hst12.trans hst3).next,v2,retC_rel r1,kd4.trans v4⟩⟩
    |_=>exact absurd h3 D.nb
   ·exact absurd h2 D.nb
  ·exact absurd h D.nb
 ·exact absurd h D.nb
noncomputable def bodyX (D:DomX R) (P:Program) (cf:CallF R) (cx:CallFX R) (fuel:Nat):FuncId->List Value->AS->(Value->AS->R)->(Value->AS->R)->R:=fun f args s kp k =>
 match P.funcs[f]? with
 |some fn=>match fn.body with
  |some c=>argsC args 0 .e fun fr=>natC (args.length+(fn.ntmps-args.length)) fun n=>D.alt (codeX D P cf cx n fuel c fr s fun e fr s=>match e with
   |.normal=>resC D.toDom P fr s fn.results.toList fun l=>k (retC l) s
   |.ret=>resC D.toDom P fr s fn.results.toList fun l=>k (retC l) s
   |.panic ch=>onV D.toDom (panOf ch) fun v=>kp v s
   |_=>D.bad) (bodyDX D P cf cx fuel fn c n fr s k)
  |none=>D.bad
 |none=>D.bad
noncomputable def roundX (D:DomX R) (P:Program) (cf:CallF R) (cx:CallFX R) (fuel:Nat):CallT R:=fun l args s k =>
 match lookC s l with
 |some (.loop st pe fr N ps asg bo)=>paramC D.toDom N ps args fr fun fr=>codeX D P cf cx N fuel asg fr s fun e fr s=>match e with
  |.normal=>match lookC s l with
   |some (.loop .ready pe2 fr2 N2 ps2 asg2 bo2)=>ifB D.toDom (Nat.ble s.lo l) (turnC s l (some (.loop .busy pe2 fr2 N2 ps2 asg2 bo2)) fun s=>codeX D P cf cx N fuel bo fr s fun e fr s=>match lookC s l with
    |some (.loop _ _ fr3 N3 ps3 asg3 bo3)=>onV D.toDom (jumpC e) fun j=>ifB D.toDom (Nat.ble s.lo l) (turnC s l (some (.loop (doneC j) j fr3 N3 ps3 asg3 bo3)) fun s=>k (.bool (moreC j)) s)
    |_=>D.bad)
   |_=>D.bad
  |_=>D.bad
 |_=>D.bad
theorem bodyX_sound (hm:P.follows .mixedOrders=true) (hc:CallOk P D.toDom cf) (hx:CallX P D cx) (fuel:Nat):∀f args s kp k,s.lo≤s.next->D.T (bodyX D P cf cx fuel f args s kp k)->∀W0 β W vs,Rel P W0 β s W->FreeA β s.next->VRs β args vs->Calls P f ⟨vs⟩ W fun e w'=>EndsX D P W0 β s kp k W e w':=by
 intro f args s kp k hl h W0 β W vs hR hf hv;unfold bodyX at h;split at h
 ·rename_i fn hfn;split at h
  ·rename_i c hbody;rw[argsC_eq,natC_eq] at h;refine (callsIn_wide (n:=0)).1 (callsIn_of_wp_marks hfn hbody trivial ?_);rcases D.alt_ok _ _ h with h|h
   ·refine codeX_sound hm hc hx fuel c _ _ _ hl h Fence.wide 0 W0 β _ W _ (.inl rfl) (fun l hl=>by cases hl) hR hf (frR_start hv fn.ntmps) fun e fr' s' a' W' h1 hst ⟨β1,q1,q2,q3,q4,q5,q6⟩=>?_
    obtain ⟨l,e1,e2,e3⟩:=q6;have kd2:∀W'':World,W''.heap.size=W'.heap.size->(∀i,(∀d∈l,i≠d)->W''.heap[i]?=W'.heap[i]?)->W''.drawn=W'.drawn->KD W W'':=fun W'' p4 p5 p6=>by
     refine ⟨fun d hd=>?_,fun d L hd=>?_,by rw[p4];exact q5,by rw[p6];exact q4.n,fun q cs T fz hq=>?_⟩
     rotate_left 2
     ·rw[p5 q fun x hx e=>by
       have:=(e3 x hx).1;have:=(Array.getElem?_eq_some_iff.1 hq).1;omega]
      exact q4.c q cs T fz hq
     ·rw[p5 d fun x hx e=>by
       have:=(e3 x hx).1;have:=(Array.getElem?_eq_some_iff.1 hd).1;omega]
      exact q4.d d hd
     ·rw[p5 d fun x hx e=>by
       have:=(e3 x hx).1;have:=(Array.getElem?_eq_some_iff.1 hd).1;omega]
      exact q4.l d L hd
    have fin:D.T (resC D.toDom P fr' s' fn.results.toList fun l=>k (retC l) s')->LeavesInM Fence.wide 0 P fn a'.tmps (fun e w'=>EndsX D P W0 β s kp k W e w') a'.defers .returning W':=fun h=>by
     obtain ⟨us,h2,h3⟩:=resC_sound (N:=args.length+(fn.ntmps-args.length)) _ _ h;rw[e1,List.append_nil];refine run_takes l W' e2 (fun d hd=>(e3 d hd).2) fun W'' p1 p2 p3 p4 p5 p6=>?_
     have hR2:=q2.takes (W':=W'') (l:=l) (fun d hd=>⟨Nat.le_trans hR.below.size (e3 d hd).1,(e3 d hd).2⟩) p1 p2 p3 p4 p5
     obtain ⟨ws,r1,r2⟩:=h3 W0 β1 a' W'' hR2 q3;exact ⟨_,run_results r2,.inl ⟨retV ws,_,s',rfl,h2,hst,β1,q1,hR2,retC_rel r1,kd2 W'' p4 p5 p6⟩⟩
    cases e with
    |normal=>exact fin h1
    |ret=>exact fin h1
    |panic ch =>
     obtain ⟨v,hpv,h2⟩:=onV_sound h1;clear h1;obtain rfl:=panOf_is hpv;show LeavesInM Fence.wide 0 P fn a'.tmps _ a'.defers (.panicking [{ v:=v,recovered:=false }]) W'
     rw[e1];refine run_takesG (by simp) l W' e2 (fun d hd=>(e3 d hd).2) fun W'' p1 p2 p3 p4 p5 p6=>?_
     have hR2:=q2.takes (W':=W'') (l:=l) (fun d hd=>⟨Nat.le_trans hR.below.size (e3 d hd).1,(e3 d hd).2⟩) p1 p2 p3 p4 p5
     exact .inr ⟨v,s',rfl,h2,hst,β1,q1,hR2,.undef _,kd2 W'' p4 p5 p6⟩
    |_=>exact absurd h1 D.nb
   ·exact bodyDX_sound hm hc hx fuel hl h hR hf (frR_start hv fn.ntmps) rfl
  ·exact absurd h D.nb
 ·exact absurd h D.nb
theorem roundX_sound (hm:P.follows .mixedOrders=true) (hc:CallOk P D.toDom cf) (hx:CallX P D cx) (fuel:Nat):∀l args s k,s.lo≤s.next->D.T (roundX D P cf cx fuel l args s k)->∀W0 β W vs r sp,Rel P W0 β s W->FreeA β s.next->VRs β args vs->β l=some (r,sp)->∀kp,DoesX D P W0 β s kp k W ((Instr.yield r ⟨vs⟩).run P W):=by
 intro l args s k hl h W0 β W vs r sp hR hf hv hβ kp;unfold roundX at h;split at h
 ·rename_i st pe fr N ps asg bo hlook;have hlook':s.heap.get l=some (.loop st pe fr N ps asg bo):=hlook;obtain ⟨hlen,fr1,h,hpar⟩:=paramC_sound (β:=⟨fun _=>none,fun _ _=>none⟩) _ _ _ _ h
  obtain ⟨L,g1,g2,g3,g4,g5,g6,g7,g8,g9⟩:=hR.blk l _ r sp hlook' hβ;have hsz:(⟨vs⟩:Array Value).size=L.params.size:=by
   rw[g4];have:=hv.1;simp;omega
  rw[run_yield g1 hsz];refine ⟨rfl,roundIn_of_wpIn trivial ?_⟩;have hzip:(L.params.zip ⟨vs⟩).foldl (fun tmps (t,a)=>tmps.setIfInBounds t a) L.tmps=(ps.zip vs).foldl (fun tmps (t,a)=>tmps.setIfInBounds t a) L.tmps:=by
   rw[g4,← Array.foldl_toList];simp
  rw[hzip,g5,g6];have hF0:=hpar β vs L.tmps hv ⟨g7,g8,g9⟩;have hW:WF (Fence.wide.inRound r):=.inr ⟨r,rfl⟩;refine codeX_sound hm hc hx fuel asg _ _ _ hl h (Fence.wide.inRound r) 0 W0 β _ W _ hW (fun l0 hl0=>by cases hl0;exact ⟨L,g1⟩) hR hf hF0 fun e fr2 s1 a1 W1 h hst1 ⟨β1,q1,q2,q3,q4,q5,q6⟩=>?_
  by_cases he:e=.normal
  ·subst he;replace h:D.T (match lookC s1 l with
    |some (.loop .ready pe2 fr3 N2 ps2 asg2 bo2)=>ifB D.toDom (Nat.ble s1.lo l) (turnC s1 l (some (.loop .busy pe2 fr3 N2 ps2 asg2 bo2)) fun s=>codeX D P cf cx N fuel bo fr2 s fun e fr s=>match lookC s l with
     |some (.loop _ _ fr3 N3 ps3 asg3 bo3)=>onV D.toDom (jumpC e) fun j=>ifB D.toDom (Nat.ble s.lo l) (turnC s l (some (.loop (doneC j) j fr3 N3 ps3 asg3 bo3)) fun s=>k (.bool (moreC j)) s)
     |_=>D.bad)
    |_=>D.bad):=h
   split at h
   ·rename_i pe2 fr3 N2 ps2 asg2 bo2 hlook2;have hlook2':s1.heap.get l=some (.loop .ready pe2 fr3 N2 ps2 asg2 bo2):=hlook2;replace h:=ifB_sound h;obtain ⟨hlo,h⟩:=h;have hlo:=bR hlo;rw[turnC_eq] at h
    have ht1:Stp s1 ⟨s1.heap.set l (some (.loop .busy pe2 fr3 N2 ps2 asg2 bo2)),s1.next,s1.lo,s1.glb⟩:=Stp.turn _ (by rw[hlook2'];simp) hlo (fun _=>rfl)
    have hlt:l<s.next:=by
     rcases Nat.lt_or_ge l s.next with h|h
     ·exact h
     ·rw[hf l h] at hβ;cases hβ
    have hβ1:β1 l=some (r,sp):=by rw[q1.keep l hlt];exact hβ
    obtain ⟨L1,k1,k2,k3,k4,k5,k6,k7,k8,k9⟩:=q2.blk l _ r sp hlook2' hβ1;obtain ⟨p1,p2,p3,p4⟩:=q2.putLoop (L':={ L1 with state:=.busy }) (b:=.loop .busy pe2 fr3 N2 ps2 asg2 bo2) (by rw[hlook2'];simp) hβ1 hlo k1 fun W' hW'=>⟨_,hW',rfl,k3,k4,k5,k6,k7,k8,k9⟩
    refine ⟨_,run_beginRound k1 k2,?_⟩;refine codeX_sound hm hc hx fuel bo _ _ _ (ht1.x.le (hst1.le hl)) h (Fence.wide.inRound r) 0 W0 β1 a1 _ _ hW (fun l0 hl0=>by cases hl0;exact ⟨_,p3⟩) p1 q1.free q3 fun e fr4 s2 a2 W2 h hst2 ⟨β2,u1,u2,u3,u4,u5,u6⟩=>?_
    split at h
    ·rename_i st3 pe3 fr5 N3 ps3 asg3 bo3 hlook3;have hlook3':s2.heap.get l=some (.loop st3 pe3 fr5 N3 ps3 asg3 bo3):=hlook3;replace h:=onV_sound h;obtain ⟨j,hj,h⟩:=h;replace h:=ifB_sound h;obtain ⟨hlo2,h⟩:=h
     have hlo2:=bR hlo2;rw[turnC_eq] at h;have ht2:Stp s2 ⟨s2.heap.set l (some (.loop (doneC j) j fr5 N3 ps3 asg3 bo3)),s2.next,s2.lo,s2.glb⟩:=Stp.turn _ (by rw[hlook3'];simp) hlo2 (fun _=>rfl)
     have hβ2:β2 l=some (r,sp):=by
      rw[u1.keep l (Nat.lt_of_lt_of_le hlt hst1.next)];exact hβ1
     obtain ⟨L2,m1,m2,m3,m4,m5,m6,m7,m8,m9⟩:=u2.blk l _ r sp hlook3' hβ2;obtain ⟨o1,o2,o3,o4⟩:=u2.putLoop (L':={ L2 with state:=if j.isNone then .ready else .done,pending:=j }) (b:=.loop (doneC j) j fr5 N3 ps3 asg3 bo3) (by rw[hlook3'];simp) hβ2 hlo2 m1 fun W' hW'=>⟨_,hW',by cases j<;>rfl,rfl,m4,m5,m6,m7,m8,m9⟩
     have hend:=run_endRound (P:=P) j m1;have hres:LaysX P W0 β W s ⟨s2.heap.set l (some (.loop (doneC j) j fr5 N3 ps3 asg3 bo3)),s2.next,s2.lo,s2.glb⟩ (.bool (moreC j)) (.bool j.isNone) (W2.putObj r (.loop { L2 with state:=if j.isNone then .ready else .done,pending:=j })):=by
      refine ⟨β2,q1.trans u1 hst1.next,o1,?_,((q4.trans p2).trans u4).trans o2⟩;have:moreC j=j.isNone:=by cases j<;>rfl
      rw[this];exact .flat _ rfl
     have main:∀e',jumpC e=some j->e=e'->roundPost P r (fun e w'=>∃v u s',e=.returned v∧D.T (k u s')∧StpX s s'∧LaysX P W0 β W s s' u v w') e' a2 W2:=by
      rintro e' hj rfl
      cases e<;>simp only[jumpC,Option.some.injEq] at hj<;>first
       |(subst hj;exact ⟨_,_,hend,_,_,_,rfl,h,((hst1.trans ht1.x).trans hst2).trans ht2.x,hres⟩)
       |cases hj
     exact main e hj rfl
    ·exact absurd h D.nb
   ·exact absurd h D.nb
  ·exact absurd (show D.T D.bad by cases e<;>first|exact absurd rfl he|exact h) D.nb
 ·exact absurd h D.nb
noncomputable def callX (D:DomX R) (P:Program) (fuel:Nat) (cf:CallF R) (ext:CallFX R):Nat->CallFX R
 |0=>ext
 |n+1=>⟨bodyX D P cf (callX D P fuel cf ext n) fuel,roundX D P cf (callX D P fuel cf ext n) fuel⟩
def badX (D:DomX R):CallFX R:=⟨fun _ _ _ _ _=>D.bad,fun _ _ _ _=>D.bad⟩
theorem badX_ok:CallX P D (badX D):=⟨fun f args s kp k hl h=>absurd h D.nb,fun f args s k hl h=>absurd h D.nb⟩
theorem callX_ok (hm:P.follows .mixedOrders=true) (hc:CallOk P D.toDom cf) {ext:CallFX R}(he:CallX P D ext) (fuel:Nat):∀n,CallX P D (callX D P fuel cf ext n)
 |0=>he
 |n+1=>⟨bodyX_sound hm hc (callX_ok hm hc he fuel n) fuel,roundX_sound hm hc (callX_ok hm hc he fuel n) fuel⟩
theorem start_free (l:List (Nat×List Value)) (Ts:Nat->TypeId):FreeA ⟨fun k=>if k<gTop l then some (k,0) else none,fun _ _=>none⟩ (start l Ts).next:=fun k hk=>by
 have:¬k<gTop l:=Nat.not_lt.2 hk;simp[this]
def noX (R:Type) (D:DomX R):Value->AS->R:=fun _ _=>D.bad
end Go.Proofs.YtcihknonfcldeaaDoor.U
