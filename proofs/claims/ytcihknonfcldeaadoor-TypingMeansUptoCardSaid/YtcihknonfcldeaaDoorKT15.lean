
import Derived.Test.YtcihknonfcldeaaDoorKT14
namespace Go.Proofs.YtcihknonfcldeaaDoor.U
open Go Go.RowKit Go.Sort
set_option linter.unusedVariables false
set_option linter.unusedSimpArgs false
set_option maxRecDepth 100000
set_option maxHeartbeats 40000000
def FreeA (β:Bt) (n:Nat):Prop:=∀k,n≤k->β k=none
structure ExtX (B:Nat) (β β':Bt) (n n':Nat):Prop where
 keep:∀k,k<n->β' k=β k
 free:FreeA β' n'
 z:FrzLe B β β'
theorem ExtX.refl {B:Nat}{β:Bt}{n:Nat}(h:FreeA β n):ExtX B β β n n:=⟨fun _ _=>rfl,h,.refl _ _⟩
theorem ExtX.trans {B:Nat}{a b c:Bt}{n m l:Nat}(h:ExtX B a b n m) (k:ExtX B b c m l) (h1:n≤m):ExtX B a c n l:=⟨fun i hi=>(k.keep i (by omega)).trans (h.keep i hi),k.free,h.z.trans k.z⟩
theorem ExtX.le {B:Nat}{β β':Bt}{n n':Nat}(h:ExtX B β β' n n') (hf:FreeA β n):BLx β β':=by
 refine ⟨fun k x hk=>?_,h.z.1⟩
 rcases Nat.lt_or_ge k n with hlt|hge
 ·rw[h.keep k hlt];exact hk
 ·rw[hf k hge] at hk;cases hk
theorem ExtX.of {B:Nat}{β β':Bt}{n n':Nat}(h:Ext B β β' n n') (hf:FreeA β n) (hn:n≤n'):ExtX B β β' n n':=⟨fun k hk=>h.out k (.inl hk),fun k hk=>by rw[h.out k (.inr hk)];exact hf k (by omega),h.le.z⟩
theorem FrR.growX {N:Nat}{fr:Tr Value}{β β':Bt}{a:Act}(h:FrR β N fr a) (hs:BLx β β'):FrR β' N fr a:=⟨h.size,fun t u hu=>(h.at_ t u hu).growX hs,h.lt⟩
theorem FreeA.free {β:Bt}{n m:Nat}(h:FreeA β n):Free β n m:=fun k hk _=>h k hk
structure StpX (s s':AS):Prop where
 next:s.next≤s'.next
 lo:s'.lo=s.lo
 glb:s'.glb=s.glb
 keep:∀(k:Nat),k<s.lo->s'.heap.get k=s.heap.get k
theorem StpX.refl (s:AS):StpX s s:=⟨Nat.le_refl _,rfl,rfl,fun _ _=>rfl⟩
theorem StpX.trans {a b c:AS}(h:StpX a b) (k:StpX b c):StpX a c:=⟨Nat.le_trans h.next k.next,k.lo.trans h.lo,k.glb.trans h.glb,fun i hi=>(k.keep i (by rw[h.lo];exact hi)).trans (h.keep i hi)⟩
theorem Stp.x {s s':AS}(h:Stp s s'):StpX s s':=⟨h.next,h.lo,h.glb,h.keep⟩
theorem StpX.le {s s':AS}(h:StpX s s') (hl:s.lo≤s.next):s'.lo≤s'.next:=by rw[h.lo];exact Nat.le_trans hl h.next
def LaysX (P:Program) (W0:World) (β:Bt) (W:World) (s s':AS) (u v:Value) (W':World):Prop:=∃β',ExtX W0.heap.size β β' s.next s'.next∧Rel P W0 β' s' W'∧VR β' u v∧KD W W'
structure Cov (P:Program) (N n0:Nat) (fr:Tr Value) (s:AS) (fr1:Tr Value) (s1:AS):Prop where
 lo:s1.lo=s.lo
 glb:s1.glb=s.glb
 next:n0≤s1.next
 keep:∀(k:Nat),k<s.lo->s1.heap.get k=s.heap.get k
 rel:∀(W0:World) (β:Bt) (W:World) (a:Act),Rel P W0 β s W->FreeA β s.next->FrR β N fr a->∃β1:Bt,(∀k,k<n0->β1 k=β k)∧FreeA β1 s1.next∧FrzLe W0.heap.size β β1∧Rel P W0 β1 s1 W∧FrR β1 N fr1 a
theorem Cov.refl {P:Program}{N n0:Nat}{fr:Tr Value}{s:AS}(h:n0≤s.next):Cov P N n0 fr s fr s:=⟨rfl,rfl,h,fun _ _=>rfl,fun W0 β W a hR hf hF=>⟨β,fun _ _=>rfl,hf,.refl _ _,hR,hF⟩⟩
theorem Cov.trans {P:Program}{N n0:Nat}{fr fr1 fr2:Tr Value}{s s1 s2:AS}(h:Cov P N n0 fr s fr1 s1) (k:Cov P N n0 fr1 s1 fr2 s2):Cov P N n0 fr s fr2 s2:=⟨k.lo.trans h.lo,k.glb.trans h.glb,k.next,fun i hi=>(k.keep i (by rw[h.lo];exact hi)).trans (h.keep i hi),fun W0 β W a hR hf hF=>by
 obtain ⟨β1,q1,q2,q5,q3,q4⟩:=h.rel W0 β W a hR hf hF;obtain ⟨β2,p1,p2,p5,p3,p4⟩:=k.rel W0 β1 W a q3 q2 q4;exact ⟨β2,fun i hi=>(p1 i hi).trans (q1 i hi),p2,q5.trans p5,p3,p4⟩⟩
def LoopRule {R:Type}(T:R->Prop) (P:Program) (N:Nat) (body:Tr Value->AS->KontC R->R) (k:KontC R) (fr:Tr Value) (s:AS):Prop :=
 ∃(α:Type) (f:α->Tr Value×AS) (μ:α->Nat),(∃a0,Cov P N s.next fr s (f a0).1 (f a0).2) ∧
  ∀a,∃k':KontC R,T (body (f a).1 (f a).2 k')∧∀e fr' s',StpX (f a).2 s'->T (k' e fr' s')->match e with
   |.normal=>∃a',μ a'<μ a∧Cov P N s.next fr' s' (f a').1 (f a').2
   |e=>T (k e fr' s')
section
variable {P : Program} {fr : Tr Value} {s s1 : AS} {N : Nat}
def AfterY (P:Program) (W0:World) (N:Nat) (β:Bt) (s s':AS) (fr':Tr Value) (a:Act) (W:World) (a':Act) (W':World):Prop:=∃β',ExtX W0.heap.size β β' s.next s'.next∧Rel P W0 β' s' W'∧FrR β' N fr' a'∧KD W W'∧W.heap.size≤W'.heap.size∧DM W.heap.size W' a.defers a'.defers
theorem AfterY.refl {W0:World}{β:Bt}{a:Act}{W:World}(hR:Rel P W0 β s W) (hf:FreeA β s.next) (hF:FrR β N fr a):AfterY P W0 N β s s fr a W a W:=⟨β,.refl hf,hR,hF,.refl _,Nat.le_refl _,.refl _ _ _⟩
theorem AfterY.trans {W0:World}{β β1:Bt}{s s1 s':AS}{fr':Tr Value}{a a1 a':Act}{W W1 W':World}(h1:s.next≤s1.next) (e:ExtX W0.heap.size β β1 s.next s1.next) (k:KD W W1) (z:W.heap.size≤W1.heap.size) (d:DM W.heap.size W1 a.defers a1.defers) (h:AfterY P W0 N β1 s1 s' fr' a1 W1 a' W'):AfterY P W0 N β s s' fr' a W a' W' :=
 let ⟨β2,p1,p2,p3,p4,p5,p6⟩:=h
 ⟨β2,e.trans p1 h1,p2,p3,k.trans p4,Nat.le_trans z p5,d.trans p4 z p6⟩
end
def CodeT {R:Type}(T:R->Prop) (P:Program) (N:Nat) (c:Code) (fr:Tr Value) (s:AS) (k:KontC R):Prop :=
 ∀(F:Fence) (n:Nat) (W0:World) (β:Bt) (a:Act) (W:World) (Q:Exit->Act->World->Prop),WF F->LoopAt F W->Rel P W0 β s W->FreeA β s.next->FrR β N fr a ->
  (∀e fr' s' a' W',T (k e fr' s')->StpX s s'->AfterY P W0 N β s s' fr' a W a' W'->Q e a' W')->c.wpIn F n P Q a W
theorem loopT_sound {R:Type}{T:R->Prop}{P:Program}{N:Nat}{fr:Tr Value}{s:AS}{c:Code}{body:Tr Value->AS->KontC R->R}(hb:∀fr s k,s.lo≤s.next->T (body fr s k)->CodeT T P N c fr s k) {k:KontC R}(hl:s.lo≤s.next) (h:LoopRule T P N body k fr s):CodeT T P N (.loop c) fr s k:=by
 obtain ⟨α,f,μ,⟨a0,h0⟩,h⟩:=h;intro F n W0 β a W Q hW hLA hR hf hF hn;have key:∀(m:Nat) (x:α),μ x<m->∀(β1:Bt) (a1:Act) (W1:World),s.next≤(f x).2.next->(f x).2.lo=s.lo->(f x).2.glb=s.glb->(∀k,k<s.lo->(f x).2.heap.get k=s.heap.get k)->(∀k,k<s.next->β1 k=β k)->FreeA β1 (f x).2.next->FrzLe W0.heap.size β β1->Rel P W0 β1 (f x).2 W1->FrR β1 N (f x).1 a1->KD W W1->W.heap.size≤W1.heap.size->DM W.heap.size W1 a.defers a1.defers->Code.roundsIn F n P c Q m a1 W1:=by
  intro m;induction m with
  |zero=>intro x hx;omega
  |succ m ih =>
   intro x hx β1 a1 W1 g1 g2 g3 g4 g5 g6 g12 g7 g8 g9 g10 g11;obtain ⟨k',hk,hk2⟩:=h x;refine hb _ _ _ (by rw[g2];omega) hk F n W0 β1 a1 W1 _ hW (hLA.kd g9) g7 g6 g8 fun e fr' s' a' W' h1 hst ⟨β2,q1,q2,q3,q4,q5,q6⟩=>?_
   have h2:=hk2 e fr' s' hst h1;have hst0:StpX s s':=⟨Nat.le_trans g1 hst.next,hst.lo.trans g2,hst.glb.trans g3,fun i hi=>(hst.keep i (by rw[g2];exact hi)).trans (g4 i hi)⟩
   have fin:T (k e fr' s')->Q e a' W':=fun h3=>hn e fr' s' a' W' h3 hst0 ⟨β2,⟨fun i hi=>(q1.keep i (by omega)).trans (g5 i hi),q1.free,g12.trans q1.z⟩,q2,q3,g9.trans q4,Nat.le_trans g10 q5,g11.trans q4 g10 q6⟩
   cases e with
   |normal =>
    obtain ⟨x',hr,hcov⟩:=h2;obtain ⟨β3,p1,p2,p5,p3,p4⟩:=hcov.rel W0 β2 W' a' q2 q1.free q3;exact ih x' (by omega) β3 a' W' hcov.next (hcov.lo.trans hst0.lo) (hcov.glb.trans hst0.glb) (fun i hi=>(hcov.keep i (by rw[hst0.lo];exact hi)).trans (hst0.keep i hi)) (fun i hi=>(p1 i hi).trans ((q1.keep i (by omega)).trans (g5 i hi))) p2 ((g12.trans q1.z).trans p5) p3 p4 (g9.trans q4) (Nat.le_trans g10 q5) (g11.trans q4 g10 q6)
   |_=>exact fin h2
 obtain ⟨β1,p1,p2,p5,p3,p4⟩:=h0.rel W0 β W a hR hf hF;exact wpIn_loop_rounds _ (key (μ a0+1) a0 (Nat.lt_succ_self _) β1 a W h0.next h0.lo h0.glb h0.keep p1 p2 p5 p3 p4 (.refl _) rL (.refl _ _ _))
structure DomX (R:Type) extends Dom R where
 all:List Nat->(Nat->R)->R
 all_ok:∀l f,T (all l f)->∀i∈l,T (f i)
 alt:R->R->R
 alt_ok:∀a b,T (alt a b)->T a∨T b
 alt_l:∀a b,T a->T (alt a b)
 loop:Program->Nat->Code->(Tr Value->AS->KontC R->R)->KontC R->Nat->Tr Value->AS->R
 loop_ok:∀P N c body k n fr s,s.lo≤s.next->(∀fr s k,s.lo≤s.next->T (body fr s k)->CodeT T P N c fr s k)->T (loop P N c body k n fr s)->CodeT T P N (.loop c) fr s k
variable {R : Type} {D : DomX R} {P : Program} {cf : CallF R} {fr : Tr Value} {s : AS} {o : Oper} {N : Nat}
theorem rollC_rule {D:Dom R}(body:Tr Value->AS->KontC R->R) (k:KontC R) (n:Nat) (fr:Tr Value) (s:AS) (h:D.T (rollC D body k n fr s)):LoopRule D.T P N body k fr s:=by
 refine ⟨{ x:Nat×Tr Value×AS // D.T (rollC D body k x.1 x.2.1 x.2.2)∧s.next≤x.2.2.next },fun x=>(x.1.2.1,x.1.2.2),fun x=>x.1.1,⟨⟨(n,fr,s),h,Nat.le_refl _⟩,.refl rL⟩,?_⟩
 rintro ⟨⟨n,fr,s1⟩,h,hn⟩
 cases n with
 |zero=>exact absurd h D.nb
 |succ n =>
  refine ⟨_,h,fun e fr' s' hst h'=>?_⟩
  cases e<;>first
   |exact ⟨⟨(n,fr',s'),h',Nat.le_trans hn hst.next⟩,Nat.lt_succ_self n,.refl (Nat.le_trans hn hst.next)⟩
   |exact h'
def allB:List Nat->(Nat->Bool)->Bool
 |[],_=>true
 |i::l,f=>match f i with
  |true=>allB l f
  |false=>false
theorem allB_ok:∀(l:List Nat) (f:Nat->Bool),allB l f=true->∀i∈l,f i=true
 |[],f,_,i,hi=>by cases hi
 |j::l,f,h,i,hi=>by
  unfold allB at h;split at h
  ·rename_i hj;rcases List.mem_cons.1 hi with rfl|hi
   ·exact hj
   ·exact allB_ok l f h i hi
  ·cases h
def altB (a b:Bool):Bool:=match a with
 |true=>true
 |false=>b
def boolX:DomX Bool:={ boolD with
 all:=allB
 all_ok:=allB_ok
 alt:=altB
 alt_ok:=fun a b h=>by cases a;exact .inr h;exact .inl rfl
 alt_l:=fun a b (h:a=true)=>by subst h;rfl
 loop:=fun _ _ _ body k n fr s=>rollC boolD body k n fr s
 loop_ok:=fun P N c body k n fr s hl hb h=>loopT_sound hb hl (rollC_rule body k n fr s h) }
def EndsX (D:DomX R) (P:Program) (W0:World) (β:Bt) (s:AS) (kp k:Value->AS->R) (W:World) (e:Ending) (w':World):Prop :=
 (∃v u s',e=.returned v∧D.T (k u s')∧StpX s s'∧LaysX P W0 β W s s' u v w')∨∃v s',e=.panicked [{ v:=v,recovered:=false }]∧D.T (kp v s')∧StpX s s'∧LaysX P W0 β W s s' undef undef w'
def DoesX (D:DomX R) (P:Program) (W0:World) (β:Bt) (s:AS) (kp k:Value->AS->R) (W:World):Result Next->Prop
 |.ok (.value v) W'=>∃u s',D.T (k u s')∧StpX s s'∧LaysX P W0 β W s s' u v W'
 |.ok .skip W'=>∃u s',D.T (k u s')∧StpX s s'∧LaysX P W0 β W s s' u undef W'
 |.ok (.enter f args) W'=>W'=W∧Calls P f args W fun e w'=>EndsX D P W0 β s kp k W e w'
 |.ok (.round l f tmps assign body) W'=>W'=W∧RoundIn Fence.wide 0 P l f tmps assign body W fun e w'=>∃v u s',e=.returned v∧D.T (k u s')∧StpX s s'∧LaysX P W0 β W s s' u v w'
 |.halt (.panic v) W'=>∃s',D.T (kp v s')∧StpX s s'∧LaysX P W0 β W s s' undef undef W'
 |_=>False
theorem LaysG.x {W0:World}{β:Bt}{W:World}{s s':AS}{u v:Value}{W':World}(h:LaysC P W0 β W s s' u v W') (hf:FreeA β s.next) (hn:s.next≤s'.next):LaysX P W0 β W s s' u v W' :=
 let ⟨β',h1,h2,h3,h4⟩:=h
 ⟨β',.of h1 hf hn,h2,h3,h4⟩
theorem OpOk.x {u:Value}{s':AS}{kp k:Value->AS->R}(h:OpOk P fr o s u s') (hk:D.T (k u s')) {W0:World}{β:Bt}{a:Act}{W:World}(hR:Rel P W0 β s W) (hf:FreeA β s.next) (ho:OpR β s.glb fr a o):DoesX D P W0 β s kp k W ((execOp a.eval o).run P W):=by
 obtain ⟨hst,h⟩:=h;have h:=h W0 β a W hR hf.free ho;generalize (execOp a.eval o).run P W=r at h
 cases r with
 |ok x w' =>
  cases x<;>simp only[DoesG] at h<;>simp only[DoesX]
  case value v=>exact ⟨u,s',hk,hst.x,h.x hf hst.next⟩
  case skip=>exact ⟨u,s',hk,hst.x,h.x hf hst.next⟩
  case enter f args=>exact ⟨h.1,h.2.mono fun e w'' ⟨v,he,hw⟩=>.inl ⟨v,u,s',he,hk,hst.x,hw.x hf hst.next⟩⟩
  case round=>exact ⟨h.1,h.2.mono fun e w'' ⟨v,he,hw⟩=>⟨v,u,s',he,hk,hst.x,hw.x hf hst.next⟩⟩
 |halt x w'=>simp only[DoesG] at h
structure CallFX (R:Type) where
 call:FuncId->List Value->AS->(Value->AS->R)->(Value->AS->R)->R
 round:CallT R
def noP (D:DomX R) (cx:CallFX R):CallF R:=⟨fun f args s k=>cx.call f args s (fun _ _=>D.bad) k,cx.round⟩
structure CallX (P:Program) (D:DomX R) (cx:CallFX R):Prop where
 call:∀f args s kp k,s.lo≤s.next->D.T (cx.call f args s kp k)->∀W0 β W vs,Rel P W0 β s W->FreeA β s.next->VRs β args vs->Calls P f ⟨vs⟩ W fun e w'=>EndsX D P W0 β s kp k W e w'
 round:∀l args s k,s.lo≤s.next->D.T (cx.round l args s k)->∀W0 β W vs r sp,Rel P W0 β s W->FreeA β s.next->VRs β args vs->β l=some (r,sp)->∀kp,DoesX D P W0 β s kp k W ((Instr.yield r ⟨vs⟩).run P W)
theorem CallX.call0 {cx:CallFX R}(hx:CallX P D cx):∀f args s k,s.lo≤s.next->D.T ((noP D cx).call f args s k)->∀W0 β W vs,Rel P W0 β s W->FreeA β s.next->VRs β args vs->Calls P f ⟨vs⟩ W fun e w'=>∃v u s',e=.returned v∧D.T (k u s')∧StpX s s'∧LaysX P W0 β W s s' u v w':=fun f args s k hl h W0 β W vs hR hf hv =>
 (hx.call f args s _ k hl h W0 β W vs hR hf hv).mono fun e w' h=>h.resolve_right fun ⟨_,_,_,h,_⟩=>D.nb h
def flatI:Value->Bool
 |.iface _ u=>flat2 u
 |_=>false
theorem VR.flatI_eq {β:Bt}{u v:Value}(h:VR β u v) (hf:flatI u=true):v=u:=by
 cases h with
 |ifc t u v h=>rw[h.flat2_eq hf]
 |flat=>rfl
 |_=>exact absurd hf (by simp[flatI,imS,imP,imE,imM0])
variable {cx : CallFX R}
def valueX (D:DomX R) (P:Program) (cf:CallF R) (cx:CallFX R) (o:Oper) (fr:Tr Value) (s:AS) (f:Operand) (args:List Operand) (kp k:Value->AS->R):R :=
 match evC s.glb fr f with
 |some (.func (.func g) ⟨a⟩ ⟨b⟩)=>match entersB P g with
  |true=>onV D.toDom (evsC s.glb fr args) fun us=>cx.call g (a++(us++b)) s kp k
  |false=>opC D.toDom P cf o fr s k
 |some (.func (.yield l) ⟨[]⟩ ⟨[]⟩)=>onV D.toDom (evsC s.glb fr args) fun us=>cx.round l us s k
 |_=>D.bad
def nextX (D:DomX R) (P:Program) (cf:CallF R) (o:Oper) (fr:Tr Value) (s:AS) (x:Operand) (k:Value->AS->R):R :=
 match evC s.glb fr x with
 |some (.pointer (some ⟨b,0,none⟩))=>match lookC s b with
  |some (.iter m since seen last)=>match lookC s m with
   |some (.map es bs cl)=>ifB D.toDom (bornB since last bs&&Nat.ble s.lo b) (match leftI seen bs 0 with
    |[]=>k (.tuple ⟨[.bool false]⟩) s
    |l=>D.all l fun i=>onV D.toDom (nthN bs i) fun bi=>onV D.toDom (nthP es i) fun e=>ifB D.toDom (flatV e.1) (turnC s b (some (.iter m since (seen++[bi]) cl)) fun s=>k (.tuple ⟨[.bool true,e.1,e.2]⟩) s))
   |_=>D.bad
  |_=>D.bad
 |_=>D.bad
def panicX (D:DomX R) (fr:Tr Value) (s:AS) (x:Operand) (kp:Value->AS->R):R :=
 match evC s.glb fr x with
 |some u=>ifB D.toDom (flatI u) (kp u s)
 |none=>D.bad
def invokeX (D:DomX R) (P:Program) (cx:CallFX R) (fr:Tr Value) (s:AS) (x:Operand) (name:String) (args:List Operand) (kp k:Value->AS->R):R :=
 match evC s.glb fr x with
 |some (.iface t u)=>match P.info? t with
  |some i=>match i.methods.find? (·.name==name) with
   |some m=>match m.path.toList,m.func with
    |[],some (f,p)=>match entersB P f with
     |true=>recvC D.toDom P s t u p fun r=>onV D.toDom (evsC s.glb fr args) fun us=>cx.call f (r::us) s kp k
     |false=>D.bad
    |_,_=>D.bad
   |none=>D.bad
  |none=>D.bad
 |_=>D.bad
def nilQ (P:Program) (gl:Nat) (fr:Tr Value) (op:BinOp) (t:TypeId) (x y:Operand):Bool :=
 match op,evC gl fr x,evC gl fr y,P.underlying t with
 |.eql,some (.func (.yield 0) ⟨[]⟩ ⟨[.bool true]⟩),some (.slice none _ _),some (.slice _)=>true
 |_,_,_,_=>false
def opX (D:DomX R) (P:Program) (cf:CallF R) (cx:CallFX R) (o:Oper) (fr:Tr Value) (s:AS) (kp k:Value->AS->R):R :=
 match o.op with
 |.next x false=>nextX D P cf o fr s x k
 |.panic x=>panicX D fr s x kp
 |.call c=>match c.callee with
  |.value f=>valueX D P cf cx o fr s f c.args.toList kp k
  |.invoke x name=>invokeX D P cx fr s x name c.args.toList kp k
  |_=>opC D.toDom P cf o fr s k
 |.binOp op t x y _=>match nilQ P s.glb fr op t x y with
  |true=>D.all [0,1] fun i=>k (.bool (Nat.beq i 0)) s
  |false=>opC D.toDom P cf o fr s k
 |_=>opC D.toDom P cf o fr s k
theorem nilQ_run {W0:World}{β:Bt}{W:World}{w:Act}{op:BinOp}{t yT:TypeId}{x y:Operand}(ho:o.op=.binOp op t x y yT) (h:nilQ P s.glb fr op t x y=true) (hop:OpR β s.glb fr w o):∃r:Bool,(execOp w.eval o).run P W=.ok (.value (.bool r)) W:=by
 unfold nilQ at h;split at h
 ·rename_i n c e hx hy hu;have e1:=hop x (by simp[ho,Op.operands]) _ hx
  have e2:=(hop y (by simp[ho,Op.operands]) _ hy).flat_eq rfl
  obtain ⟨ad,c',hx'⟩:∃ad c',w.eval x=.slice ad 0 c':=by
   generalize w.eval x=xv at e1 ⊢
   cases e1 with
   |flat _ q=>exact (Bool.false_ne_true q).elim
   |imn ad=>exact ⟨_,_,rfl⟩
   |ims xs ws z r off c=>exact ⟨_,_,rfl⟩
  have q1:(Op.equal t (.slice ad 0 c') (.slice none n c)).run P W=.ok ad.isNone W:=by
   show (Op.equalIn (9999+1) t _ _).run P W=_
   unfold Op.equalIn;cases ad<;>simp[run_underlying hu]
  refine ⟨ad.isNone,?_⟩;simp[execOp,ho,hx',e2,eqGuard_nil (u:=.slice ad 0 c') (v:=.slice none n c) (fun u v=>.inl (by simp)) (by simp),binOp,q1]
 ·cases h
theorem opX_sound (hc:CallOk P D.toDom cf) (hx:CallX P D cx) (hl:s.lo≤s.next) {kp k:Value->AS->R}(h:D.T (opX D P cf cx o fr s kp k)) {W0:World}{β:Bt}{w:Act}{W:World}(hR:Rel P W0 β s W) (hf:FreeA β s.next) (hop:OpR β s.glb fr w o):DoesX D P W0 β s kp k W ((execOp w.eval o).run P W):=by
 have det:D.T (opC D.toDom P cf o fr s k)->DoesX D P W0 β s kp k W ((execOp w.eval o).run P W):=fun h=>by
  obtain ⟨u,s',h1,h2⟩:=opC_sound hc hl h;exact h2.x h1 hR hf hop
 unfold opX at h;split at h
 ·rename_i x ho;unfold nextX at h;split at h
  ·rename_i b hx'
   split at h
   ·rename_i m since seen last hlook;have hlook:s.heap.get b=some (.iter m since seen last):=hlook;split at h
    ·rename_i es bs cl hlook2;have hlook2:s.heap.get m=some (.map es bs cl):=hlook2;replace h:=ifB_sound h;obtain ⟨hb,h⟩:=h;simp only[Bool.and_eq_true] at hb;obtain ⟨hb,hlo⟩:=hb;have hlo:=bR hlo
     obtain ⟨r,sp,e1,e2⟩:=(hop x (by simp[ho,Op.operands]) _ hx').ptr_inv
     have hex:∀v W',(Instr.next (.pointer (some ⟨r,0,none⟩)) false o.type).run P W=.ok v W'->(execOp w.eval o).run P W=.ok (.value v) W':=fun v W' hrun=>by
      simp only[execOp,ho,e2,Nat.zero_add] at hrun ⊢;simp[hrun]
     split at h
     ·rename_i hl0;rcases next_world o.type hR hlook hlook2 hlo e1 hb with ⟨_,hrun⟩|⟨i,bi,z,u,v,W',hi,_⟩
      ·rw[hex _ _ hrun];exact ⟨_,s,h,.refl _,β,.refl hf,hR,.of_flat _ rfl,.refl _⟩
      ·rw[hl0] at hi;cases hi
     ·rename_i l hne;rcases next_world o.type hR hlook hlook2 hlo e1 hb with ⟨hl',_⟩|⟨i,bi,z,u,v,W',hi,k1,k2,k3,hrun,k4,k5⟩
      ·exact absurd hl' hne
      ·have h:=D.all_ok _ _ h i hi;obtain ⟨bi',hbi,h⟩:=onV_sound h;obtain ⟨e,he,h⟩:=onV_sound h;replace h:=ifB_sound h;obtain ⟨hfl,h⟩:=h;rw[nthN_eq] at hbi;rw[nthP_eq] at he;rw[turnC_eq] at h;rw[hbi] at k1
       rw[he] at k2;cases k1;cases k2;rw[hex _ _ hrun];have hv:=VRs.cons (VR.of_flat β (u:=.bool true) rfl) (.cons (VR.of_flat β hfl) (.cons k3 (.nil _)));exact ⟨_,_,h,(Stp.turn _ (by rw[hlook];simp) hlo (by rw[hlook];simp[isLoop])).x,β,.refl hf,k4,.tup _ _ hv.1 hv.2,k5⟩
    ·exact absurd h D.nb
   ·exact absurd h D.nb
  ·exact absurd h D.nb
 ·rename_i x ho;unfold panicX at h;split at h
  ·rename_i u hx'
   replace h:=ifB_sound h;obtain ⟨hfl,h⟩:=h;have e2:=(hop x (by simp[ho,Op.operands]) _ hx').flatI_eq hfl
   have hrun:(execOp w.eval o).run P W=.halt (.panic u) W:=by
    cases u<;>first
     |(simp[flatI] at hfl;done)
     |(simp[execOp,ho,e2,Instr.panic];done)
   rw[hrun];exact ⟨s,h,.refl _,β,.refl hf,hR,.undef _,.refl _⟩
  ·exact absurd h D.nb
 ·rename_i c ho;split at h
  ·rename_i f hcal;unfold valueX at h;split at h
   ·rename_i g a b hff;split at h
    ·rename_i hen;obtain ⟨us,hus,h⟩:=onV_sound h;obtain ⟨a',b',e1,e2,e3⟩:=(hop f (by simp[ho,Op.operands,Call.operands,hcal]) _ hff).func_inv
     have e4:=evsC_sound (β:=β) (a:=w) hus fun z hz=>hop z (by simp only[ho,Op.operands,Call.operands,hcal];simp at hz ⊢;simp[hz])
     have e:execOp w.eval o=callFunc g ((⟨a'⟩:Array Value)++c.args.map w.eval++(⟨b'⟩:Array Value)):=by
      simp only[execOp,ho,resolve,hcal,e3,Deferred.ofValue];rfl
     rw[e,run_enters hen W];have ea:((⟨a'⟩:Array Value)++c.args.map w.eval++(⟨b'⟩:Array Value))=⟨a'++(c.args.toList.map w.eval++b')⟩:=by
      apply Array.ext';simp
     rw[ea];exact ⟨rfl,hx.call g _ s kp k hl h W0 β W _ hR hf (e1.app (e4.app e2))⟩
    ·exact det h
   ·rename_i l hff;obtain ⟨us,hus,h⟩:=onV_sound h;obtain ⟨r,sp,e1,e3⟩:=(hop f (by simp[ho,Op.operands,Call.operands,hcal]) _ hff).yld_inv
    have e4:=evsC_sound (β:=β) (a:=w) hus fun z hz=>hop z (by simp only[ho,Op.operands,Call.operands,hcal];simp at hz ⊢;simp[hz])
    have e:(execOp w.eval o).run P W=(Instr.yield r ⟨c.args.toList.map w.eval⟩).run P W:=by
     have ea:(c.args.map w.eval:Array Value)=⟨c.args.toList.map w.eval⟩:=by apply Array.ext';simp
     simp[execOp,ho,resolve,hcal,e3,Deferred.ofValue,invoke,ea]
    rw[e];exact hx.round l _ s k hl h W0 β W _ r sp hR hf e4 e1 kp
   ·exact absurd h D.nb
  ·rename_i x name hcal;unfold invokeX at h;split at h
   ·rename_i t u hx'
    split at h
    ·rename_i i hi;split at h
     ·rename_i m hm;split at h
      ·rename_i f p hp hf'
       split at h
       ·rename_i hen;obtain ⟨r,h,hrec⟩:=recvC_sound h;replace h:=onV_sound h;obtain ⟨us,hus,h⟩:=h;obtain ⟨v,e1,e2⟩:=(hop x (by simp[ho,Op.operands,Call.operands,hcal]) _ hx').ifc_inv
        obtain ⟨r',e3,e4⟩:=hrec W0 β W v hR e1;have e5:=evsC_sound (β:=β) (a:=w) hus fun z hz=>hop z (by simp only[ho,Op.operands,Call.operands,hcal];simp at hz ⊢;simp[hz])
        have hmeth:(method (P.types.size+Made.depth) t v name).run P W=.ok (f,r') W:=run_method0 (n:=P.types.size+99) hi hm (by apply Array.ext';simpa using hp) hf' e4
        have ea:(c.args.map w.eval:Array Value)=⟨c.args.toList.map w.eval⟩:=by apply Array.ext';simp
        have eb:((#[r']:Array Value)++(⟨c.args.toList.map w.eval⟩:Array Value))=⟨r'::c.args.toList.map w.eval⟩:=by apply Array.ext';simp
        have ec:((#[Value.iface t v]:Array Value)++(⟨c.args.toList.map w.eval⟩:Array Value)).extract 1 ((#[Value.iface t v]:Array Value)++(⟨c.args.toList.map w.eval⟩:Array Value)).size=⟨c.args.toList.map w.eval⟩:=by apply Array.ext';simp[List.take_of_length_le]
        have eh:((#[Value.iface t v]:Array Value)++(⟨c.args.toList.map w.eval⟩:Array Value))[0]?=some (.iface t v):=by simp
        have e:(execOp w.eval o).run P W=(callFunc f ⟨r'::c.args.toList.map w.eval⟩).run P W:=by
         simp only[execOp,ho,resolve,hcal,Sem.run_bind,Sem.run_pure,Result.andThen_ok,e2,ea,invoke,eh,ec,callMethod,run_program,hmeth,eb]
        rw[e,run_enters hen W];exact ⟨rfl,hx.call f _ s kp k hl h W0 β W _ hR hf (.cons e3 e5)⟩
       ·exact absurd h D.nb
      ·exact absurd h D.nb
     ·exact absurd h D.nb
    ·exact absurd h D.nb
   ·exact absurd h D.nb
  ·exact det h
 ·rename_i op t x y yT ho;split at h
  ·rename_i hq;obtain ⟨r,hr⟩:=nilQ_run (W0:=W0) (W:=W) ho hq hop;rw[hr];have h:=D.all_ok _ _ h (if r then 0 else 1) (by cases r<;>simp)
   refine ⟨_,s,h,.refl _,β,.refl hf,hR,?_,.refl _⟩;cases r<;>exact .of_flat _ rfl
  ·exact det h
 ·exact det h
def stepX (D:DomX R) (P:Program) (cf:CallF R) (cx:CallFX R) (N:Nat) (ops:List Oper) (kp:Value->AS->R) (o:Oper) (ih:Tr Value->AS->(Tr Value->AS->R)->R) (fr:Tr Value) (s:AS) (k:Tr Value->AS->R):R :=
 litG D.toDom ops o fr fun fr=>guardK (guardC ops o fr) (opX D P cf cx o fr s kp) s D.bad fun u s=>putF D.toDom N o.dst u fr fun fr=>ih fr s k
noncomputable def opsX (D:DomX R) (P:Program) (cf:CallF R) (cx:CallFX R) (N:Nat) (ops:List Oper) (kp:Value->AS->R) (l:List Oper):Tr Value->AS->(Tr Value->AS->R)->R :=
 List.rec (motive:=fun _=>Tr Value->AS->(Tr Value->AS->R)->R) (fun fr s k=>k fr s) (fun o _ ih=>stepX D P cf cx N ops kp o ih) l
theorem opX_plain (hc:CallOk P D.toDom cf) (hl:s.lo≤s.next) {kp k:Value->AS->R}(h:D.T (opX D P cf cx o fr s kp k)) {W0:World}{β:Bt}{w:Act}{W:World}(hR:Rel P W0 β s W) (hf:FreeA β s.next) (hop:OpR β s.glb fr w o):∀c,o.op≠.defer c:=fun c ho=>by
 unfold opX at h;simp only[ho] at h;obtain ⟨u,s',h1,h2⟩:=opC_sound hc hl h;exact does_plain (h2.2 W0 β w W hR hf.free hop) c ho
theorem DoesX.step {F:Fence}{n:Nat}(hF:WF F) {W0:World}{β:Bt}{kp k:Value->AS->R}{a:Act}{W:World}{next:Act->World->Prop}{Q:Exit->Act->World->Prop}(hd:∀c,o.op≠.defer c) (h:DoesX D P W0 β s kp k W ((execOp a.eval o).run P W)) (hp:∀v s' W',D.T (kp v s')->StpX s s'->LaysX P W0 β W s s' undef undef W'->Q (.panic [{ v:=v,recovered:=false }]) a W') (hn:∀u s' v W',D.T (k u s')->StpX s s'->LaysX P W0 β W s s' u v W'->next (a.put o.dst v) W'):o.wpIn F n P a W next Q:=by
 refine ⟨fun f _=>hF.fn f,?_⟩
 rw[Oper.semAt_eq _ _ _ hd];generalize (execOp a.eval o).run P W=r at *
 cases r with
 |ok x w' =>
  cases x<;>simp only[DoesX] at h<;>simp only[Oper.uponIn]
  case value v=>obtain ⟨u,s',h1,h2,h3⟩:=h;exact hn _ _ _ _ h1 h2 h3
  case skip=>obtain ⟨u,s',h1,h2,h3⟩:=h;exact hn _ _ _ _ h1 h2 h3
  case enter f args =>
   obtain ⟨rfl,hc⟩:=h;refine ⟨hF.dep,hF.calls (hc.mono fun e w'' h=>?_)⟩
   rcases h with ⟨v,u,s',he,h1,h2,h3⟩|⟨v,s',he,h1,h2,h3⟩
   ·subst he;exact hn _ _ _ _ h1 h2 h3
   ·subst he;exact hp _ _ _ h1 h2 h3
  case round =>
   obtain ⟨rfl,hc⟩:=h;exact ⟨hF.dep,hF.round (hc.mono fun e w'' ⟨v,u,s',he,h1,h2,h3⟩=>by subst he;exact hn _ _ _ _ h1 h2 h3)⟩
 |halt x w' =>
  cases x<;>simp only[DoesX] at h
  case panic v=>obtain ⟨s',h1,h2,h3⟩:=h;exact hp _ _ _ h1 h2 h3
def AfterX (P:Program) (W0:World) (N:Nat) (β:Bt) (s s':AS) (fr':Tr Value) (a:Act) (W:World) (a':Act) (W':World):Prop:=∃β',ExtX W0.heap.size β β' s.next s'.next∧Rel P W0 β' s' W'∧FrR β' N fr' a'∧KD W W'∧a'.defers=a.defers
theorem AfterX.none {W0:World}{β:Bt}{s':AS}{a:Act}{W W':World}{u v:Value}(h:LaysX P W0 β W s s' u v W') (hs:a.tmps.size=N):AfterX P W0 N β s s' .e a W a W' :=
 let ⟨β',q1,q2,_,q4⟩:=h
 ⟨β',q1,q2,⟨hs,fun t u hu=>(by rw[Tr.at_e] at hu;cases hu),fun t ht=>(by rw[Tr.at_e] at ht;exact absurd rfl ht)⟩,q4,rfl⟩
theorem opsX_sound2 (hc:CallOk P D.toDom cf) (hx:CallX P D cx) {ops:List Oper}{F:Fence}{n:Nat}(hW:WF F) {W0:World}{Q:Exit->Act->World->Prop}{kp:Value->AS->R}(l2:List Oper):∀(l:List Oper) (fr:Tr Value) (s:AS) (k:Tr Value->AS->R),s.lo≤s.next->D.T (opsX D P cf cx N ops kp l fr s k) ->
  ∀(β:Bt) (a:Act) (W:World),Rel P W0 β s W->FreeA β s.next->FrR β N fr a->(∀v s' a' W',D.T (kp v s')->StpX s s'->AfterX P W0 N β s s' .e a W a' W'->Q (.panic [{ v:=v,recovered:=false }]) a' W')->(∀fr' s' a' W',D.T (k fr' s')->StpX s s'->AfterX P W0 N β s s' fr' a W a' W'->wpListIn F n P ops.toArray Q l2 a' W')->wpListIn F n P ops.toArray Q (l++l2) a W
 |[],fr,s,k,hl,h,β,a,W,hR,hf,hF,_,hn=>hn _ _ _ _ h (.refl _) ⟨β,.refl hf,hR,hF,.refl _,rfl⟩
 |o::l,fr0,s,k,hl,h,β,a,W,hR,hf,hF0,hp,hn=>by
  rw[List.cons_append];replace h:D.T (stepX D P cf cx N ops kp o (opsX D P cf cx N ops kp l) fr0 s k):=h;unfold stepX at h;replace h:=litG_sound h;obtain ⟨fr,hfrx,h⟩:=h;have hF:=hF0.ext hfrx;unfold guardK at h
  split at h
  ·rename_i hg;unfold wpListIn;rw[if_pos (guardC_sound hg fun t _ u hu=>hF.at_ t u hu)];refine (opX_sound hc hx hl h hR hf (hF.op hR o)).step hW (opX_plain hc hl h hR hf (hF.op hR o)) (fun v s1 W' h1 hst hL=>hp _ _ _ _ h1 hst (.none hL hF.size)) fun u s1 v W' h1 hst ⟨β',q1,q2,q3,q4⟩=>?_
   obtain ⟨hd,h1⟩:=putF_sound h1;refine opsX_sound2 hc hx hW l2 l _ s1 k (hst.le hl) h1 β' _ W' q2 q1.free ((hF.growX (q1.le hf)).put hd q3) (fun v s' a' W'' h2 hst2 ⟨β2,p1,p2,p3,p4,p5⟩=>hp _ _ _ _ h2 (hst.trans hst2) ⟨β2,q1.trans p1 hst.next,p2,p3,q4.trans p4,p5.trans (by cases o.dst<;>rfl)⟩) fun fr' s' a' W'' h2 hst2 ⟨β2,p1,p2,p3,p4,p5⟩=>hn _ _ _ _ h2 (hst.trans hst2) ⟨β2,q1.trans p1 hst.next,p2,p3,q4.trans p4,p5.trans (by cases o.dst<;>rfl)⟩
  ·rename_i hg;replace h:=putF_sound h;obtain ⟨hd,h⟩:=h;unfold wpListIn;rw[if_neg (by rw[guardC_sound hg fun t _ u hu=>hF.at_ t u hu];simp)]
   exact ⟨fun f _=>hW.fn f,opsX_sound2 hc hx hW l2 l _ s k hl h β _ W hR hf (hF.put hd (.undef _)) (fun v s' a' W'' h2 hst2 ⟨β2,p1,p2,p3,p4,p5⟩=>hp _ _ _ _ h2 hst2 ⟨β2,p1,p2,p3,p4,p5.trans (by cases o.dst<;>rfl)⟩) fun fr' s' a' W'' h2 hst2 ⟨β2,p1,p2,p3,p4,p5⟩=>hn _ _ _ _ h2 hst2 ⟨β2,p1,p2,p3,p4,p5.trans (by cases o.dst<;>rfl)⟩⟩
  ·exact absurd h D.nb
theorem opsX_sound (hc:CallOk P D.toDom cf) (hx:CallX P D cx) {ops:List Oper}{F:Fence}{n:Nat}(hW:WF F) {W0:World}{Q:Exit->Act->World->Prop}{kp:Value->AS->R}(l:List Oper) (fr:Tr Value) (s:AS) (k:Tr Value->AS->R) (hl:s.lo≤s.next) (h:D.T (opsX D P cf cx N ops kp l fr s k))
  (β:Bt) (a:Act) (W:World) (hR:Rel P W0 β s W) (hf:FreeA β s.next) (hF:FrR β N fr a) (hp:∀v s' a' W',D.T (kp v s')->StpX s s'->AfterX P W0 N β s s' .e a W a' W'->Q (.panic [{ v:=v,recovered:=false }]) a' W') (hn:∀fr' s' a' W',D.T (k fr' s')->StpX s s'->AfterX P W0 N β s s' fr' a W a' W'->Q .normal a' W'):wpListIn F n P ops.toArray Q l a W:=by
 have:=opsX_sound2 hc hx (n:=n) (Q:=Q) hW [] l fr s k hl h β a W hR hf hF hp hn;rwa [List.append_nil] at this
def stepHX (D:Dom R) (P:Program) (cf:CallF R) (N:Nat) (ops:List Oper) (er:List Nat) (o:Oper) (ih:Nat->MutL->Tr Value->AS->(Tr Value->AS->List (Nat×Option Blk)->R)->R) (i:Nat) (M:MutL) (fr:Tr Value) (s:AS) (k:Tr Value->AS->List (Nat×Option Blk)->R):R :=
 litG D ops o fr fun fr=>ifB D (earlyNow er i o fr s.glb) (match guardC ops o fr with
  |some true=>match M with
   |[]=>liftC s fun lo s0=>opC D P cf o fr s0 fun u s1=>putF D N o.dst u fr fun fr=>dropC lo s1 fun s2=>ih (Nat.succ i) [] fr s2 k
   |(b,blk,ex)::M=>match kindH o fr s.glb b with
    |.st t x y=>ifB D (isNone' ex&&Nat.blt b s.next) (mutC D P fr s.glb b blk t x y fun blk'=>putF D N o.dst undef fr fun fr=>ih (Nat.succ i) M fr s fun fr s l=>k fr s ((b,some blk')::l))
    |.ap t x y=>ifB D (isNone' ex&&Nat.blt b s.next&&agedB M s.next (Nat.succ s.next)) (appM D P fr s b blk t x y fun u blk'=>pushC D s blk' fun _ s1=>putF D N o.dst u fr fun fr=>ih (Nat.succ i) M fr s1 fun fr s l=>k fr s ((b,none)::l))
    |.me t x=>entryX D P fr s.glb blk t x fun u blk'=>ifB D (exB ex blk'&&Nat.blt b s.next) (putF D N o.dst u fr fun fr=>ih (Nat.succ i) M fr s fun fr s l=>k fr s ((b,some blk')::l))
    |.rd t x y=>rdC D P fr s.glb b blk t x y fun u blk'=>ifB D (exB ex blk'&&Nat.blt b s.next) (putF D N o.dst u fr fun fr=>ih (Nat.succ i) ((b,blk,some blk')::M) fr s k)
    |.no=>liftC s fun lo s0=>opC D P cf o fr s0 fun u s1=>putF D N o.dst u fr fun fr=>dropC lo s1 fun s2=>bornC D ((b,blk,ex)::M) s.next s2 fun M s3=>ih (Nat.succ i) M fr s3 k
  |some false=>putF D N o.dst undef fr fun fr=>ih (Nat.succ i) M fr s k
  |none=>D.bad)
noncomputable def opsHX (D:Dom R) (P:Program) (cf:CallF R) (N:Nat) (ops:List Oper) (er:List Nat) (i:Nat) (l:List Oper):MutL->Tr Value->AS->(Tr Value->AS->List (Nat×Option Blk)->R)->R :=
 List.rec (motive:=fun _=>Nat->MutL->Tr Value->AS->(Tr Value->AS->List (Nat×Option Blk)->R)->R) (fun _ M fr s k=>match M with
  |[]=>k fr s []
  |_=>D.bad) (fun o _ ih=>stepHX D P cf N ops er o ih) l i
theorem opsHX_eq {D:Dom R}{P:Program}{cf:CallF R}{N:Nat}{ops:List Oper}{er:List Nat}:∀(l:List Oper) (i:Nat),opsHX D P cf N ops er i l=opsH D P cf N ops er i l
 |[],i=>by
  funext M fr s k
  unfold opsH;rfl
 |o::l,i=>by
  have h:(fun i=>opsHX D P cf N ops er i l)=fun i=>opsH D P cf N ops er i l:=funext fun i=>opsHX_eq l i
  funext M fr s k
  show stepHX D P cf N ops er o (fun i=>opsHX D P cf N ops er i l) i M fr s k=_
  rw[h];conv=>rhs;unfold opsH
  rfl
noncomputable def drawXAt (D:DomX R) (P:Program) (cf:CallF R) (cx:CallFX R) (N:Nat) (ops:List Oper) (n:Nat) (M:List (Nat×Blk)) (fr:Tr Value) (s:AS) (kp:Value->AS->R) (k:Tr Value->AS->R):R :=
 opsHX D.toDom P cf N ops (earlyL ops.toArray n) 0 (ops.take n) (M.map fun x=>(x.1,x.2,none)) fr s fun fr s news=>setAllC news s fun s=>opsX D P cf cx N ops kp (ops.drop n) fr s k
noncomputable def drawXN (D:DomX R) (P:Program) (cf:CallF R) (cx:CallFX R) (N:Nat) (ops:List Oper) (fr:Tr Value) (s:AS) (kp:Value->AS->R) (k:Tr Value->AS->R):R :=
 match headN ops ops.length with
 |some n=>drawXAt D P cf cx N ops n [] fr s kp k
 |none=>match headM ops (ops.length+1) 0 with
  |some n=>opsC D.toDom P cf N ops (ops.take n) fr s fun fr1 _=>mutsC D.toDom fr1 s (ops.take n) fun M=>ifB D.toDom (mutsOk s M) (killC M s fun s0=>drawXAt D P cf cx N ops n M fr s0 kp k)
  |none=>D.bad
theorem After.x {W0:World}{β:Bt}{s':AS}{fr':Tr Value}{a a':Act}{W W':World}(h:After P W0 N β s s' fr' a W a' W') (hf:FreeA β s.next) (hn:s.next≤s'.next):AfterX P W0 N β s s' fr' a W a' W' :=
 let ⟨β',h1,h2,h3,h4,h5⟩:=h
 ⟨β',.of h1 hf hn,h2,h3,h4,h5⟩
theorem AfterX.other {W0:World}{β:Bt}{s':AS}{a a' a2:Act}{W W':World}(h:AfterX P W0 N β s s' .e a W a' W') (hd:a2.defers=a.defers) (hs:a2.tmps.size=N):AfterX P W0 N β s s' .e a W a2 W' :=
 let ⟨β',q1,q2,_,q4,_⟩:=h
 ⟨β',q1,q2,⟨hs,fun t u hu=>(by rw[Tr.at_e] at hu;cases hu),fun t ht=>(by rw[Tr.at_e] at ht;exact absurd rfl ht)⟩,q4,hd⟩
theorem drawXAt_sound (hm:P.follows .mixedOrders=true) (hc:CallOk P D.toDom cf) (hx:CallX P D cx) {ops:List Oper}{kp:Value->AS->R}{k:Tr Value->AS->R}(hl:s.lo≤s.next) {n:Nat}{M:List (Nat×Blk)}(hnl:n≤ops.length) (hck:stopC ops n=true) (hMs:∀x∈M,(s.heap.get x.1=some x.2∨s.next≤x.1)∧s.lo≤x.1) (hMd:(M.map (·.1)).Nodup) (h:D.T (drawXAt D P cf cx N ops n M fr (killS (M.map (·.1)) s) kp k)) {F:Fence}{m:Nat}{W0:World}{β:Bt}{a:Act}{W:World}(id:Nat) {Q:Exit->Act->World->Prop}(hW:WF F) (hR:Rel P W0 β s W) (hf:FreeA β s.next) (hF:FrR β N fr a) (hp:∀v s' a' W',D.T (kp v s')->StpX s s'->AfterX P W0 N β s s' .e a W a' W'->Q (.panic [{ v:=v,recovered:=false }]) a' W') (hn:∀fr' s' a' W',D.T (k fr' s')->StpX s s'->AfterX P W0 N β s s' fr' a W a' W'->Q .normal a' W'):(Code.region id ops.toArray true).wpIn F m P Q a W:=by
 unfold drawXAt at h;rw[opsHX_eq] at h;obtain ⟨fr1,sE,hk,hstE,hrun⟩:=drawHead_sound hm hc hnl hck hl hMs hMd h;refine hrun F m W0 β a W id Q (fun c W'=>∃v s' a0,c=[{ v:=v,recovered:=false }]∧D.T (kp v s')∧StpX s s'∧AfterX P W0 N β s s' .e a W a0 W') hW hR hf.free hF (fun c a' W' hd hs ⟨v,s',a0,e1,e2,e3,e4⟩=>by
  subst e1;exact hp _ _ _ _ e2 e3 (e4.other hd hs)) fun a1 W1 hA=>?_
 obtain ⟨β1,q1,q2,q3,q4,q5⟩:=hA.x hf hstE.next;refine opsX_sound hc hx (.inl rfl) _ _ _ _ (hstE.x.le hl) hk β1 a1 W1 q2 q1.free q3 (fun v s' a' W' h2 hst2 ⟨β2,p1,p2,p3,p4,p5⟩=>⟨p5.trans q5,p3.size,v,s',a',rfl,h2,hstE.x.trans hst2,β2,q1.trans p1 hstE.next,p2,p3,q4.trans p4,p5.trans q5⟩) fun fr' s' a' W' h2 hst2 ⟨β2,p1,p2,p3,p4,p5⟩=>hn _ _ _ _ h2 (hstE.x.trans hst2) ⟨β2,q1.trans p1 hstE.next,p2,p3,q4.trans p4,p5.trans q5⟩
theorem drawXN_sound (hm:P.follows .mixedOrders=true) (hc:CallOk P D.toDom cf) (hx:CallX P D cx) {ops:List Oper}{kp:Value->AS->R}{k:Tr Value->AS->R}(hl:s.lo≤s.next) (h:D.T (drawXN D P cf cx N ops fr s kp k)) {F:Fence}{m:Nat}{W0:World}{β:Bt}{a:Act}{W:World}(id:Nat) {Q:Exit->Act->World->Prop}(hW:WF F) (hR:Rel P W0 β s W) (hf:FreeA β s.next) (hF:FrR β N fr a) (hp:∀v s' a' W',D.T (kp v s')->StpX s s'->AfterX P W0 N β s s' .e a W a' W'->Q (.panic [{ v:=v,recovered:=false }]) a' W') (hn:∀fr' s' a' W',D.T (k fr' s')->StpX s s'->AfterX P W0 N β s s' fr' a W a' W'->Q .normal a' W'):(Code.region id ops.toArray true).wpIn F m P Q a W:=by
 have main:∀(n:Nat) (M:List (Nat×Blk)),n≤ops.length->stopC ops n=true->(∀x∈M,(s.heap.get x.1=some x.2∨s.next≤x.1)∧s.lo≤x.1)->(M.map (·.1)).Nodup->D.T (drawXAt D P cf cx N ops n M fr (killS (M.map (·.1)) s) kp k)->(Code.region id ops.toArray true).wpIn F m P Q a W:=fun n M hnl hck hMs hMd h=>drawXAt_sound hm hc hx hl hnl hck hMs hMd h id hW hR hf hF hp hn
 unfold drawXN at h;split at h
 ·rename_i n hn'
  obtain ⟨hnl,hck⟩:=headN_spec _ hn';exact main n [] hnl (freeAtC_stop hck) (fun x hx=>by cases hx) .nil h
 ·split at h
  ·rename_i n hn'
   obtain ⟨hnl,hck⟩:=headM_spec _ _ (by omega) hn'
   obtain ⟨fr1,s1,h,_⟩:=opsC_sound hc _ _ _ _ hl h;obtain ⟨M,h,hM⟩:=mutsC_sound (k:=fun _=>D.bad) _ _ h
   replace h:=ifB_sound h;obtain ⟨hok,h⟩:=h;rw[killC_eq] at h;simp only[mutsOk,Bool.and_eq_true] at hok;exact main n M hnl hck (fun x hx=>⟨hM x hx,bR (List.all_eq_true.1 hok.1 x hx)⟩) (nodupB_is hok.2) h
  ·exact absurd h D.nb
def hangsB (st:List Bool) (o:Oper):Bool:=o.after.toList.any fun e=>Region.binds .any e&&!(st.getD e.on true)
def backE (i:Nat) (o:Oper):Bool:=o.after.toList.all fun e=>!Region.binds .any e || Nat.blt e.on i
def freeE (ops:List Oper) (o:Oper) (t:Tmp):Bool:=(ops.all fun x=>!(x.dst==some t)) || o.after.toList.any fun e=>Region.binds .any e&&match nth ops e.on with
 |some x=>x.dst==some t
 |none=>false
def tmpsO (o:Oper):List Tmp:=o.op.operands.toList.filterMap fun | .tmp t=>some t|_=>none
def okP1 (ops:List Oper) (c:Nat) (st:List Bool) (i:Nat) (o:Oper):Bool :=
 backE i o&&(hangsB st o&&!(st.getD i true)&&!(Nat.beq i c) || (o.guard.isNone&&(tmpsO o).all (freeE ops o)&&(Nat.beq i c || st.getD i false)))
def okPL (ops:List Oper) (c:Nat) (st:List Bool):List Oper->Nat->Bool
 |[],_=>true
 |o::l,i=>okP1 ops c st i o&&okPL ops c st l (Nat.succ i)
def okP (ops:List Oper) (c:Nat) (st:List Bool):Bool:=okPL ops c st ops 0&&!(st.getD c true)&&noDefer ops
def stF (c:Nat):List Oper->Nat->List Bool->List Bool
 |[],_,acc=>acc
 |o::l,i,acc=>stF c l (Nat.succ i) (acc++[!(Nat.beq i c)&&!(hangsB acc o)])
def callAt:List Oper->Nat->Option Nat
 |[],_=>none
 |o::l,i=>match o.op with
  |.call c=>match c.callee with
   |.value _=>some i
   |_=>callAt l (Nat.succ i)
  |_=>callAt l (Nat.succ i)
def steadyC (D:Dom R) (P:Program) (cf:CallF R) (N:Nat) (st:List Bool) (s:AS):List Oper->Nat->Tr Value->(Tr Value->R)->R
 |[],_,fr,k=>k fr
 |o::l,i,fr,k=>match st.getD i false with
  |true=>opC D P cf o fr s fun u _=>putF D N o.dst u fr fun fr=>steadyC D P cf N st s l (Nat.succ i) fr k
  |false=>steadyC D P cf N st s l (Nat.succ i) fr k
def addrB (a b:Addr):Bool:=Nat.beq a.block b.block&&Nat.beq a.off b.off&&match a.spot,b.spot with
 |none,none=>true
 |some x,some y=>Nat.beq x y
 |_,_=>false
theorem addrB_eq {a b:Addr}(h:addrB a b=true):a=b:=by
 obtain ⟨x,y,z⟩:=a;obtain ⟨x',y',z'⟩:=b;simp only[addrB,Bool.and_eq_true] at h;obtain ⟨⟨h1,h2⟩,h3⟩:=h;rw[Nat.eq_of_beq_eq_true h1,Nat.eq_of_beq_eq_true h2];cases z<;>cases z'<;>first|rfl|(cases h3;done)|rw[Nat.eq_of_beq_eq_true h3]
def valP1:Value->Value->Bool
 |.pointer none,.pointer none=>true
 |.pointer (some a),.pointer (some b)=>addrB a b
 |.slice none n c,.slice none n' c'=>Nat.beq n n'&&Nat.beq c c'
 |.slice (some a) n c,.slice (some b) n' c'=>addrB a b&&(Nat.beq n n'&&Nat.beq c c')
 |.map none,.map none=>true
 |.map (some a),.map (some b)=>Nat.beq a b
 |.func (.func f) ⟨[]⟩ ⟨[]⟩,.func (.func g) ⟨[]⟩ ⟨[]⟩=>Nat.beq f g
 |u,v=>valB1 u v
theorem valP1_eq {u v:Value}(h:valP1 u v=true):u=v:=by
 unfold valP1 at h;split at h
 ·rfl
 ·rw[addrB_eq h]
 ·simp only[Bool.and_eq_true] at h;rw[Nat.eq_of_beq_eq_true h.1,Nat.eq_of_beq_eq_true h.2]
 ·simp only[Bool.and_eq_true] at h;rw[addrB_eq h.1,Nat.eq_of_beq_eq_true h.2.1,Nat.eq_of_beq_eq_true h.2.2]
 ·rfl
 ·rw[Nat.eq_of_beq_eq_true h]
 ·rw[Nat.eq_of_beq_eq_true h]
 ·exact valB1_eq h
def valsP:List Value->List Value->Bool
 |[],[]=>true
 |u::l,v::m=>valP1 u v&&valsP l m
 |_,_=>false
theorem valsP_eq:∀{l m:List Value},valsP l m=true->l=m
 |[],[],_=>rfl
 |u::l,v::m,h=>by
  simp only[valsP,Bool.and_eq_true] at h;rw[valP1_eq h.1,valsP_eq h.2]
 |[],_::_,h=>by cases h
 |_::_,[],h=>by cases h
def valP (u v:Value):Bool :=
 match u,v with
 |.agg ⟨l⟩,.agg ⟨m⟩=>valsP l m
 |u,v=>valP1 u v
theorem valP_eq {u v:Value}(h:valP u v=true):u=v:=by
 unfold valP at h;split at h
 ·rw[valsP_eq h]
 ·exact valP1_eq h
def sameAt (N:Nat) (d:Option Tmp) (u:Value) (fr:Tr Value):Bool:=match d with
 |none=>true
 |some d=>Nat.blt d N&&match Tr.at (pt d) fr with
  |some u'=>valP u u'
  |none=>true
def checkC (D:Dom R) (P:Program) (cf:CallF R) (N:Nat) (st:List Bool) (s:AS) (fr:Tr Value):List Oper->Nat->R->R
 |[],_,k=>k
 |o::l,i,k=>match st.getD i false with
  |true=>opC D P cf o fr s fun u s'=>ifB D (Nat.beq s'.next s.next&&sameAt N o.dst u fr) (checkC D P cf N st s fr l (Nat.succ i) k)
  |false=>checkC D P cf N st s fr l (Nat.succ i) k
def drawP (D:DomX R) (P:Program) (cf:CallF R) (cx:CallFX R) (N:Nat) (ops:List Oper) (fr:Tr Value) (s:AS) (kp:Value->AS->R):R :=
 match callAt ops 0 with
 |none=>D.bad
 |some c=>match nth ops c with
  |none=>D.bad
  |some oc=>ifB D.toDom (okP ops c (stF c ops 0 [])) (steadyC D.toDom P cf N (stF c ops 0 []) (raiseS s) ops 0 fr fun fr1=>checkC D.toDom P cf N (stF c ops 0 []) (raiseS s) fr1 ops 0 (opX D P cf cx oc fr1 s kp fun _ _=>D.bad))
theorem steadyC_sound (hc:CallOk P D.toDom cf) {st:List Bool}(hl:s.lo≤s.next):∀(l:List Oper) (i:Nat) (fr:Tr Value) (k:Tr Value->R),D.T (steadyC D.toDom P cf N st s l i fr k)->∃fr1,D.T (k fr1)∧∀t,(∀o∈l,o.dst≠some t)->Tr.at (pt t) fr1=Tr.at (pt t) fr
 |[],i,fr,k,h=>⟨fr,h,fun _ _=>rfl⟩
 |o::l,i,fr,k,h=>by
  unfold steadyC at h;split at h
  ·obtain ⟨u,s',h,_⟩:=opC_sound hc hl h;obtain ⟨_,h⟩:=putF_sound h;obtain ⟨fr1,h1,h2⟩:=steadyC_sound hc hl l _ _ _ h;refine ⟨fr1,h1,fun t ht=>?_⟩
   rw[h2 t fun x hx=>ht x (List.mem_cons_of_mem _ hx),setF_at,if_neg (ht o (by simp))]
  ·obtain ⟨fr1,h1,h2⟩:=steadyC_sound hc hl l _ _ _ h;exact ⟨fr1,h1,fun t ht=>h2 t fun x hx=>ht x (List.mem_cons_of_mem _ hx)⟩
theorem checkC_sound (hc:CallOk P D.toDom cf) {st:List Bool}(hl:s.lo≤s.next):∀(l:List Oper) (i:Nat) (k:R),D.T (checkC D.toDom P cf N st s fr l i k)->D.T k∧∀j o,l[j]?=some o->st.getD (i+j) false=true->∃u s',s'.next=s.next∧sameAt N o.dst u fr=true∧OpOk P fr o s u s'
 |[],i,k,h=>⟨h,fun j o hj=>by simp at hj⟩
 |o::l,i,k,h=>by
  unfold checkC at h;have tail:D.T (checkC D.toDom P cf N st s fr l (Nat.succ i) k)->(st.getD i false=true->∃u s',s'.next=s.next∧sameAt N o.dst u fr=true∧OpOk P fr o s u s')->D.T k∧∀j o',(o::l)[j]?=some o'->st.getD (i+j) false=true->∃u s',s'.next=s.next∧sameAt N o'.dst u fr=true∧OpOk P fr o' s u s':=fun h h0=>by
   obtain ⟨h1,h2⟩:=checkC_sound hc hl l _ _ h;refine ⟨h1,fun j o' hj hs=>?_⟩
   cases j with
   |zero=>simp at hj;subst hj;exact h0 (by simpa using hs)
   |succ j=>exact h2 j o' (by simpa using hj) (by rw[show Nat.succ i+j=i+(j+1) by omega];exact hs)
  split at h
  ·obtain ⟨u,s',h,hop⟩:=opC_sound hc hl h;replace h:=ifB_sound h;obtain ⟨hb,h⟩:=h;simp only[Bool.and_eq_true] at hb;exact tail h fun _=>⟨u,s',Nat.eq_of_beq_eq_true hb.1,hb.2,hop⟩
  ·rename_i hn;exact tail h fun h=>by rw[h] at hn;cases hn
theorem okPL_at {ops:List Oper}{c:Nat}{st:List Bool}:∀(l:List Oper) (i:Nat),okPL ops c st l i=true->∀j o,l[j]?=some o->okP1 ops c st (i+j) o=true
 |[],i,h,j,o,hj=>by simp at hj
 |x::l,i,h,j,o,hj=>by
  simp only[okPL,Bool.and_eq_true] at h;cases j with
  |zero=>simp at hj;subst hj;exact h.1
  |succ j =>
   have:=okPL_at l _ h.2 j o (by simpa using hj)
   rwa [show Nat.succ i+j=i+(j+1) by omega] at this
theorem Rel.frozen {P:Program}{W0 W:World}{β:Bt}{s:AS}{z':Nat->Nat->Option Value}{n:Nat}(h:Rel P W0 β s W) (hn:∀k r sp,β k=some (r,sp)->r<n) (h1:∀r o x,β.z r o=some x->z' r o=some x) (h2:∀r o x,z' r o=some x->fzc W ⟨r,o,none⟩=some x∧(β.z r o=some x∨n≤r)):Rel P W0 ⟨β.m,z'⟩ s W :=
 ⟨fun k b r sp hk hr=>(h.blk k b r sp hk hr).sameX ⟨fun _ _ h=>h,h1⟩ id rfl,h.inj,h.dom,h.lt,h.ge,h.below,h.glob,fun r o v hv=>⟨(h2 r o v hv).1,fun k sp hlo hk hr=>by
  rcases (h2 r o v hv).2 with hz|hz
  ·exact (h.frz r o v hz).2 k sp hlo hk hr
  ·have:=hn k r sp hr;omega⟩⟩
theorem Rel.raised {P:Program}{β:Bt}{W0 W:World}(h:Rel P W0 β s W) (hl:s.lo≤s.next):Rel P W β (raiseS s) W :=
 ⟨fun k b r sp hk hr=>(h.blk k b r sp hk hr).sameX ⟨fun _ _ h=>h,fun _ _ _ h=>h⟩ (fun hq=>Nat.le_trans hl hq) rfl,fun k k' r sp sp' hlo=>h.inj k k' r sp sp' (Nat.le_trans hl hlo),h.dom,h.lt,fun k r sp hk _ hlo=>absurd (h.dom k hk) (Nat.not_lt.2 hlo),.refl _ _,h.glob,fun r o v hv=>⟨(h.frz r o v hv).1,fun k sp hlo=>(h.frz r o v hv).2 k sp (Nat.le_trans hl hlo)⟩⟩
structure InvP (P:Program) (ops:List Oper) (st:List Bool) (N:Nat) (W0:World) (β:Bt) (s:AS) (fr1:Tr Value) (a:Act) (W:World) (listed:Array Bool) (a1:Act) (W1:World) (β1:Bt):Prop where
 same:∀k,β1 k=β k
 z:FrzLe W0.heap.size β β1
 rel:Rel P W0 β1 s W1
 kd:KD W W1
 dfr:a1.defers=a.defers
 size:a1.tmps.size=N
 slots:∀t u,Tr.at (pt t) fr1=some u->((∀o∈ops,o.dst≠some t)∨∃(j:Nat) (o:Oper),ops[j]?=some o∧o.dst=some t∧listed.getD j false=true)->VR β1 u (a1.tmps.getD t undef)
 lsz:listed.size=ops.length
 done:∀j,listed.getD j false=true->st.getD j true=true∧j<ops.length
theorem drawP_sound (hm:P.follows .mixedOrders=true) (hc:CallOk P D.toDom cf) (hx:CallX P D cx) {ops:List Oper}{kp:Value->AS->R}(hl:s.lo≤s.next) (h:D.T (drawP D P cf cx N ops fr s kp)) {F:Fence}{m:Nat}{W0:World}{β:Bt}{a:Act}{W:World}(id:Nat) {Q:Exit->Act->World->Prop}(hW:WF F) (hR:Rel P W0 β s W) (hf:FreeA β s.next) (hF:FrR β N fr a) (hp:∀v s' a' W',D.T (kp v s')->StpX s s'->AfterX P W0 N β s s' .e a W a' W'->Q (.panic [{ v:=v,recovered:=false }]) a' W'):(Code.region id ops.toArray true).wpIn F m P Q a W:=by
 unfold drawP at h;split at h
 ·exact absurd h D.nb
 ·rename_i c hcall;split at h
  ·exact absurd h D.nb
  ·rename_i oc hoc;generalize stF c ops 0 []=st at h
   replace h:=ifB_sound h;obtain ⟨hok,h⟩:=h;simp only[okP,Bool.and_eq_true] at hok;obtain ⟨⟨hok,hstc⟩,hdf⟩:=hok;have hok:=fun j o hj=>okPL_at ops 0 hok j o hj
   have hok:∀j o,ops[j]?=some o->okP1 ops c st j o=true:=fun j o hj=>by have:=hok j o hj;rwa [Nat.zero_add] at this
   have hstc:st.getD c true=false:=by simpa using hstc
   obtain ⟨fr1,h,hfr⟩:=steadyC_sound (s:=raiseS s) hc rL ops 0 fr _ h;obtain ⟨h,hst⟩:=checkC_sound (s:=raiseS s) hc rL ops 0 _ h;have hst:∀j o,ops[j]?=some o->st.getD j false=true->∃u s',s'.next=s.next∧sameAt N o.dst u fr1=true∧OpOk P fr1 o (raiseS s) u s':=fun j o hj hs=>hst j o hj (by rw[Nat.zero_add];exact hs)
   rw[nth_eq] at hoc;have hcl:=(List.getElem?_eq_some_iff.1 hoc).1;have harr:∀j,ops.toArray[j]?=ops[j]?:=fun j=>List.getElem?_toArray
   refine wpIn_region_any hm (any_wf hW hdf ?_);have hR1:Rel P W0 β s { W with drawn:=W.drawn+1 }:=hR.later ⟨rfl,rfl,rfl,Nat.le_refl _,fun _ _=>rfl⟩
   have I0:InvP P ops st N W0 β s fr1 a W (Array.replicate ops.toArray.size false) a { W with drawn:=W.drawn+1 } β :=
    ⟨fun _=>rfl,.refl _ _,hR1,KD.below ⟨rfl,rfl,rfl,Nat.le_refl _,fun _ _=>rfl⟩,rfl,hF.size,fun t u hu ht=>(by
     rcases ht with ht|⟨j,o,_,_,ht⟩
     ·rw[hfr t ht] at hu;exact hF.at_ t u hu
     ·rw[getD_replicate_false] at ht;cases ht),by simp,fun j hj=>(by rw[getD_replicate_false] at hj;cases hj)⟩
   have key:∀(f:Nat) (listed:Array Bool) (a1:Act) (W1:World) (β1:Bt),cnt listed ops.length=f->InvP P ops st N W0 β s fr1 a W listed a1 W1 β1->wpAnyIn Fence.wide m P .any ops.toArray Q f listed a1 W1:=by
    intro f;induction f with
    |zero =>
     intro listed a1 W1 β1 hc0 I;have:=(I.done c (cnt_zero _ hc0 c hcl)).1;rw[hstc] at this;cases this
    |succ f ih =>
     intro listed a1 W1 β1 hc1 I;refine ⟨fun hnil=>?_,fun i hi=>?_⟩
     ·obtain ⟨i,hi,hun,hall⟩:=cnt_first (listed:=listed) ops.length (by omega)
      have hoi:ops[i]?=some ops[i]:=List.getElem?_eq_getElem hi;have hin:i∈Region.ready .any ops.toArray listed:=mem_ready.2 ⟨getD_in (by rw[I.lsz];exact hi) hun,ops[i],by rw[harr];exact hoi,fun e he hb=>by
       have h1:=hok i _ hoi;simp only[okP1,Bool.and_eq_true] at h1;have h2:=List.all_eq_true.1 h1.1 e (by simpa using he)
       rw[hb] at h2;simp only[Bool.not_true,Bool.false_or] at h2;exact hall _ (of_decide_eq_true (by simpa [Nat.blt_eq] using h2))⟩
      rw[hnil] at hin;cases hin
     ·obtain ⟨hun,o,hoi,hall⟩:=mem_ready.1 hi;rw[harr] at hoi;have hil:=(List.getElem?_eq_some_iff.1 hoi).1;have h1:=hok i o hoi;simp only[okP1,Bool.and_eq_true,Bool.or_eq_true] at h1;obtain ⟨_,h1⟩:=h1
      rcases h1 with ⟨⟨h1,_⟩,_⟩|⟨⟨hg,htm⟩,hsc⟩
      ·obtain ⟨e,he,h2⟩:=List.any_eq_true.1 h1;simp only[Bool.and_eq_true,Bool.not_eq_true'] at h2;have h3:=(I.done e.on (hall e (by simpa using he) h2.1)).1
       rw[h2.2] at h3;cases h3
      ·have hgd:o.guard=none:=by simpa using hg
       have hwan:Region.wanted o (yielded ops.toArray a1.tmps)=true:=by simp[Region.wanted,hgd]
       have hop:∀(s':AS) (V0:World),Rel P V0 β1 s' W1->OpR β1 s'.glb fr1 a1 o:=fun s' _ hR'=>opR_of hR' fun t u ht hu=>I.slots t u hu (by
        have h4:=List.all_eq_true.1 htm t (List.mem_filterMap.2 ⟨.tmp t,ht,rfl⟩);simp only[freeE,Bool.or_eq_true] at h4;rcases h4 with h4|h4
        ·exact .inl fun x hx he=>by
          have:=List.all_eq_true.1 h4 x hx;simp[he] at this
        ·obtain ⟨e,he,h5⟩:=List.any_eq_true.1 h4;simp only[Bool.and_eq_true] at h5;obtain ⟨h5,h6⟩:=h5;split at h6
         ·rename_i x hx;rw[nth_eq] at hx;exact .inr ⟨e.on,x,hx,by simpa using h6,hall e (by simpa using he) h5⟩
         ·cases h6)
       have hfree:FreeA β1 s.next:=fun k hk=>by rw[I.same];exact hf k hk
       unfold wpOpIn;rw[harr,hoi];simp only[hwan,if_true];by_cases hic:i=c
       ·subst hic;obtain rfl:o=oc:=Option.some.inj (hoi.symm.trans hoc);refine (opX_sound hc hx hl h I.rel hfree (hop s W0 I.rel)).step (.inl rfl) (opX_plain hc hl h I.rel hfree (hop s W0 I.rel)) (fun v s1 W' h1 hst1 ⟨β',q1,q2,q3,q4⟩=>hp _ _ _ _ h1 hst1 ?_) fun u s1 v W' h1=>absurd h1 D.nb
        exact ⟨β',⟨fun k hk=>(q1.keep k hk).trans (I.same k),q1.free,I.z.trans q1.z⟩,q2,⟨I.size,fun t u hu=>(by rw[Tr.at_e] at hu;cases hu),fun t ht=>(by rw[Tr.at_e] at ht;exact absurd rfl ht)⟩,I.kd.trans q4,I.dfr⟩
       ·have hsi:st.getD i false=true:=by
         rcases hsc with h|h
         ·exact absurd (Nat.eq_of_beq_eq_true h) hic
         ·exact h
        have hsi':st.getD i true=true:=by
         rw[List.getD_eq_getElem?_getD] at hsi ⊢;cases hx:st[i]? with
         |none=>rw[hx] at hsi;cases hsi
         |some b=>rw[hx] at hsi;exact hsi
        obtain ⟨u,s',hn',hsame,hstp,hdo⟩:=hst i o hoi hsi;have hRr:Rel P W1 β1 (raiseS s) W1:=I.rel.raised hl;refine does_stepC (.inl rfl) (hdo W1 β1 a1 W1 hRr (fun k h1 h2=>hfree k h1) (hop (raiseS s) W1 hRr)) fun v W' ⟨β',q1,q2,q3,q4⟩=>?_
        have hall':∀k,β' k=β1 k:=fun k=>q1.out k (by rw[hn'];exact Nat.lt_or_ge k s.next)
        have hfro:=(I.rel.later q2.below).frozen (n:=W1.heap.size) (z':=β'.z) I.rel.lt q1.le.z.1 fun r o x hz=>⟨(q2.frz r o x hz).1,q1.le.z.2 r o x hz⟩
        have hb1:BLx β1 ⟨β1.m,β'.z⟩:=⟨fun _ _ h=>h,q1.le.z.1⟩
        have hb2:BLx β' ⟨β1.m,β'.z⟩:=⟨fun k x h=>by rw[← hall' k];exact h,fun _ _ _ h=>h⟩
        have hcs:=cnt_set (getD_both hun) (by rw[I.lsz];exact hil) ops.length
        rw[if_pos hil] at hcs;refine ih _ _ _ ⟨β1.m,β'.z⟩ (by omega) ⟨I.same,⟨fun r o x h=>q1.le.z.1 r o x (I.z.1 r o x h),fun r o x h=>(q1.le.z.2 r o x h).elim (fun h=>I.z.2 r o x h) fun h=>.inr (Nat.le_trans I.rel.below.size h)⟩,hfro,I.kd.trans q4,?_,?_,fun t ux hu ht=>?_,by simp[I.lsz],fun j hj=>?_⟩
        ·rw[← I.dfr];cases o.dst<;>rfl
        ·rw[← I.size];cases o.dst<;>simp[Act.put]
        ·by_cases hd:o.dst=some t
         ·rw[hd] at hsame ⊢;simp only[sameAt,Bool.and_eq_true,hu] at hsame;have htN:t<N:=of_decide_eq_true (by simpa [Nat.blt_eq] using hsame.1)
          have:=valP_eq hsame.2;subst this;have:(a1.put (some t) v).tmps.getD t undef=v:=by simp[Act.put,I.size,htN]
          rw[this];exact q3.growX hb2
         ·have:(a1.put o.dst v).tmps.getD t undef=a1.tmps.getD t undef:=by
           cases hdd:o.dst with
           |none=>rfl
           |some d =>
            have hne:d≠t:=fun e=>hd (by rw[hdd,e])
            simp[Act.put,Array.getElem?_setIfInBounds_ne hne]
          rw[this];refine (I.slots t ux hu ?_).growX hb1;rcases ht with ht|⟨j,oj,h1,h2,h3⟩
          ·exact .inl ht
          ·refine .inr ⟨j,oj,h1,h2,?_⟩;have hne:i≠j:=fun e=>by subst e;rw[hoi] at h1;cases h1;exact hd h2
           rwa [getD_set_ne false hne] at h3
        ·by_cases hij:i=j
         ·subst hij;exact ⟨hsi',hil⟩
         ·rw[getD_set_ne false hij] at hj;exact I.done j hj
   exact key _ _ _ _ _ (by
    have:∀n m,cnt (Array.replicate m false) n=n:=fun n m=>by
     induction n with
     |zero=>rfl
     |succ n ih=>unfold cnt;rw[ih,getD_replicate_false];simp
    rw[this];simp) I0
noncomputable def drawXL (D:DomX R) (P:Program) (cf:CallF R) (cx:CallFX R) (N:Nat) (ops:List Oper) (fr:Tr Value) (s:AS) (kp:Value->AS->R) (k:Tr Value->AS->R):R :=
 match headN ops (Nat.pred ops.length) with
 |some n=>drawXAt D P cf cx N ops n [] fr s kp k
 |none=>D.bad
end Go.Proofs.YtcihknonfcldeaaDoor.U
