
import Derived.Test.YtcihknonfcldeaaDoorKT08
namespace Go.Proofs.YtcihknonfcldeaaDoor.U
open Go Go.RowKit Go.Sort
set_option linter.unusedVariables false
set_option linter.unusedSimpArgs false
set_option maxRecDepth 100000
set_option maxHeartbeats 40000000
variable {R : Type} {D : Dom R} {P : Program} {cf : CallF R} {fr : Tr Value} {s : AS} {o : Oper} {k : Value → AS → R}
def binC (D:Dom R) (P:Program) (cf:CallF R) (o:Oper) (fr:Tr Value) (s:AS) (op:BinOp) (t:TypeId) (x y:Operand) (k:Value->AS->R):R :=
 match evC s.glb fr x,evC s.glb fr y with
 |some (.int i a),some (.int j b)=>match isShift op || decide (i=j) with
  |true=>match intO op i a b with
   |some u=>D.frc u fun u=>k u s
   |none=>exactC D P cf o fr s k
  |false=>exactC D P cf o fr s k
 |some (.string a),some (.string b)=>match op with
  |.add=>ifB D (Nat.ble (a.size+b.size) 1000000) (D.frc (.string (a++b)) fun u=>k u s)
  |_=>exactC D P cf o fr s k
 |some (.agg a),some (.agg b)=>ifB D (flatX s.glb fr x&&flatX s.glb fr y&&eqOk P t) (onV D (eqV P eqDeep t (.agg a) (.agg b)) fun r=>match op with
  |.eql=>D.frc (.bool r) fun u=>k u s
  |.neq=>D.frc (.bool !r) fun u=>k u s
  |_=>D.bad)
 |some u,some v=>match op,nilsC P t u v with
  |.eql,some r=>D.frc (.bool r) fun u=>k u s
  |.neq,some r=>D.frc (.bool !r) fun u=>k u s
  |_,_=>exactC D P cf o fr s k
 |_,_=>D.bad
theorem eqGuard_nil {op:BinOp}{t:TypeId}{x y:Operand}{u v:Value}(h:∀a b,u≠.agg a∨v≠.agg b) (h2:u≠.nilIface):eqGuard op t x y u v=pure ():=by
 have key:∀z:Sem Unit,(match u,v with
   |.nilIface,.nilIface=>z
   |.agg _,.agg _=>(do
    if !(← program).eqGuardType (← program).depth t then return
    if ← Op.eqGuardIn Op.maxDepth t u v then unsupported (.noEntry "binop/eql: two nil values of an interface type with methods, in a part of a struct or an array"))
   |_,_=>pure ())=pure ():=fun z=>by
  split
  ·exact absurd rfl h2
  ·rename_i a b;rcases h a b with h|h<;>exact absurd rfl h
  ·rfl
 cases op<;>first
  |rfl
  |exact key _
theorem nils_bin {t:TypeId}{x y x' y':Value}{b:Bool}{β:Bt}{W:World}(h:nilsC P t x y=some b) (hx:VR β x x') (hy:VR β y y') (q1:(Op.equal t x' y').run P W=.ok b W):x'≠.nilIface∧(binOp .eql t x' y').run P W=.ok (.bool b) W∧(binOp .neq t x' y').run P W=.ok (.bool !b) W:=by
 unfold nilsC at h;split at h<;>cases h<;>cases hx<;>cases hy<;>(try simp only[List.length_cons] at q1)<;>exact ⟨by simp,by simp[binOp,q1],by simp[binOp,q1]⟩
theorem binC_sound (hc:CallOk P D cf) (hl:s.lo≤s.next) {op:BinOp}{t yT:TypeId}{x y:Operand}(ho:o.op=.binOp op t x y yT) (h:D.T (binC D P cf o fr s op t x y k)):∃u s',D.T (k u s')∧OpOk P fr o s u s':=by
 unfold binC at h;split at h
 ·rename_i i m j n hx hy;split at h
  ·rename_i hk;split at h
   ·rename_i v hv;rw[D.frc_eq] at h;refine ⟨v,s,h,op_value fun W0 β a W hR hf=>⟨v,?_,?_⟩⟩
    ·have e1:=(hf x (by simp[ho,Op.operands]) _ hx).flat_eq rfl
     have e2:=(hf y (by simp[ho,Op.operands]) _ hy).flat_eq rfl
     have e3:eqGuard op t x y (.int i m) (.int j n)=pure ():=by unfold eqGuard;cases op<;>rfl
     simp[execOp,ho,e1,e2,e3,intO_sound P hk hv W t]
    ·refine .of_flat _ ?_;revert hv
     clear h;cases op<;>simp only[intO]<;>intro hv<;>(try split at hv)<;>cases hv<;>rfl
   ·exact exactC_sound hc hl h
  ·exact exactC_sound hc hl h
 ·rename_i m n hx hy;split at h
  ·replace h:=ifB_sound h;obtain ⟨hob,h⟩:=h;have hob:=bR hob;rw[D.frc_eq] at h;refine ⟨_,s,h,op_value fun W0 β a W hR hf=>⟨_,?_,.of_flat _ rfl⟩⟩
   have e1:=(hf x (by simp[ho,Op.operands]) _ hx).flat_eq rfl
   have e2:=(hf y (by simp[ho,Op.operands]) _ hy).flat_eq rfl
   have hmax:IntKind.i64.max=9223372036854775807:=by decide
   have e3:¬(IntKind.i64.max<(m.size:Int)+(n.size:Int)):=by rw[hmax];omega
   have e4:(m.size:Int)+(n.size:Int)≤9223372036854775807:=by omega
   simp[execOp,ho,e1,e2,eqGuard,binOp,Op.stringOp,e3,hmax,e4]
  ·exact exactC_sound hc hl h
 ·rename_i xs ys hx hy;replace h:=ifB_sound h;obtain ⟨hob,h⟩:=h;simp only[Bool.and_eq_true] at hob;obtain ⟨⟨f1,f2⟩,hok⟩:=hob;obtain ⟨b,hb,h⟩:=onV_sound h;have run:∀(W0:World) (β:Bt) (a:Act) (W:World),OpR β s.glb fr a o->(op=.eql->(execOp a.eval o).run P W=.ok (.value (.bool b)) W)∧(op=.neq->(execOp a.eval o).run P W=.ok (.value (.bool !b)) W):=fun W0 β a W hf=>by
   have e1:=evC_flat (hf x (by simp[ho,Op.operands])) f1
   have e2:=evC_flat (hf y (by simp[ho,Op.operands])) f2
   simp only[evxC,hx,hy] at e1 e2;refine ⟨fun he=>?_,fun he=>?_⟩
   ·subst he;have:=(run_eqV hok hb x y W).1;simp only[execOp,ho,e1,e2,Sem.run_bind,Sem.run_pure] at this ⊢;rw[this];rfl
   ·subst he;have:=(run_eqV hok hb x y W).2;simp only[execOp,ho,e1,e2,Sem.run_bind,Sem.run_pure] at this ⊢;rw[this];rfl
  split at h
  ·rw[D.frc_eq] at h;exact ⟨_,s,h,op_value fun W0 β a W hR hf=>⟨_,(run W0 β a W hf).1 rfl,.of_flat _ rfl⟩⟩
  ·rw[D.frc_eq] at h;exact ⟨_,s,h,op_value fun W0 β a W hR hf=>⟨_,(run W0 β a W hf).2 rfl,.of_flat _ rfl⟩⟩
  ·exact absurd h D.nb
 ·rename_i u v _ _ _ hx hy;split at h
  ·rename_i r hr;rw[D.frc_eq] at h;refine ⟨_,s,h,op_value fun W0 β a W hR hf=>⟨_,?_,.of_flat _ rfl⟩⟩
   have e1:=hf x (by simp[ho,Op.operands]) _ hx
   have e2:=hf y (by simp[ho,Op.operands]) _ hy
   obtain ⟨q1,q2⟩:=nilsC_sound hr e1 e2 W;obtain ⟨hni,hb1,hb2⟩:=nils_bin hr e1 e2 q1;simp[execOp,ho,eqGuard_nil q2 hni,hb1]
  ·rename_i r hr;rw[D.frc_eq] at h;refine ⟨_,s,h,op_value fun W0 β a W hR hf=>⟨_,?_,.of_flat _ rfl⟩⟩
   have e1:=hf x (by simp[ho,Op.operands]) _ hx
   have e2:=hf y (by simp[ho,Op.operands]) _ hy
   obtain ⟨q1,q2⟩:=nilsC_sound hr e1 e2 W;obtain ⟨hni,hb1,hb2⟩:=nils_bin hr e1 e2 q1;simp[execOp,ho,eqGuard_nil q2 hni,hb2]
  ·exact exactC_sound hc hl h
 ·exact absurd h D.nb
def evsC (gl:Nat) (fr:Tr Value):List Operand->Option (List Value)
 |[]=>some []
 |x::l=>match evC gl fr x,evsC gl fr l with
  |some u,some us=>some (u::us)
  |_,_=>none
theorem evsC_sound {β:Bt}{gl:Nat}{a:Act}:∀{l:List Operand}{us:List Value},evsC gl fr l=some us->(∀x∈l,∀u,evC gl fr x=some u->VR β u (a.eval x))->VRs β us (l.map a.eval)
 |[],us,h,_=>by cases h;exact .nil _
 |x::l,us,h,hf=>by
  unfold evsC at h;split at h
  ·rename_i u us' h1 h2
   cases h;exact .cons (hf x (by simp) u h1) (evsC_sound h2 fun y hy=>hf y (by simp[hy]))
  ·cases h
def PsR (β:Bt):List (Nat×Value)->List (Nat×Value)->Prop
 |[],[]=>True
 |(i,u)::l,(j,v)::m=>i=j∧VR β u v∧PsR β l m
 |_,_=>False
def partsC (gl:Nat) (fr:Tr Value):List (Nat×Operand)->Option (List (Nat×Value))
 |[]=>some []
 |(i,x)::l=>match evC gl fr x,partsC gl fr l with
  |some u,some us=>some ((i,u)::us)
  |_,_=>none
theorem partsC_sound {β:Bt}{gl:Nat}{a:Act}:∀{l:List (Nat×Operand)}{us:List (Nat×Value)},partsC gl fr l=some us->(∀x∈l.map (·.2),∀u,evC gl fr x=some u->VR β u (a.eval x))->PsR β us (l.map fun p=>(p.1,a.eval p.2))
 |[],us,h,_=>by cases h;trivial
 |(i,x)::l,us,h,hf=>by
  unfold partsC at h;split at h
  ·rename_i u us' h1 h2
   cases h;exact ⟨rfl,hf x (by simp) u h1,partsC_sound h2 fun y hy=>hf y (by simp at hy ⊢;exact .inr hy)⟩
  ·cases h
theorem setL_rel {β:Bt}{u v:Value}(hu:VR β u v) {l l':List Value}(h:VRs β l l') (n:Nat):VRs β (setL l n u) (setL l' n v):=by
 rw[setL_eq,setL_eq];exact h.set hu n
theorem storeV_rel {β:Bt}:∀{vs vs':List Value},VRs β vs vs'->∀{l l':List Value},VRs β l l'->∀(off:Nat),VRs β (storeV l off vs) (storeV l' off vs')
 |[],vs',hv,l,l',h,off=>by rw[hv.inv_nil];exact h
 |u::vs,vs',hv,l,l',h,off=>by
  obtain ⟨v,t,rfl,h1,h2⟩:=hv.inv_cons;exact storeV_rel h2 (setL_rel h1 h off) (off+1)
theorem cells_eq (v:Value):v.cells=⟨cellsOf v⟩:=by cases v<;>rfl
theorem VR.cells' {β:Bt}{u v:Value}(h:VR β u v):VRs β u.cells.toList v.cells.toList:=by
 have:=h.cells;rw[cells_eq u];exact this
theorem fillX_rel {β:Bt}{place:Nat->Option (Nat×Nat)}:∀{ps ps':List (Nat×Value)},PsR β ps ps'->∀{l l' m:List Value},VRs β l l'->fillX place l ps=some m->∃m',fillX place l' ps'=some m'∧VRs β m m'
 |[],[],_,l,l',m,h,hm=>by cases hm;exact ⟨l',rfl,h⟩
 |[],_::_,hp,_,_,_,_,_=>hp.elim
 |_::_,[],hp,_,_,_,_,_=>by
  rename_i p _;cases p;exact hp.elim
 |(i,u)::ps,(j,v)::ps',hp,l,l',m,h,hm=>by
  obtain ⟨rfl,hu,hp⟩:=hp;unfold fillX at hm ⊢
  have hc:=hu.cells';split at hm
  ·rename_i off size hpl;have e1:v.cells.size=u.cells.size:=by have:=hc.1;simpa using this.symm
   rw[e1,← h.1];split at hm
   ·exact fillX_rel hp (storeV_rel hc h off) hm
   ·cases hm
  ·cases hm
def spineC (l:List Value) (k:List Value->R):R :=
 match l with
 |[]=>k []
 |x::l=>spineC l fun l=>k (x::l)
theorem spineC_eq:∀(l:List Value) (k:List Value->R),spineC l k=k l
 |[],k=>rfl
 |x::l,k=>by simp only[spineC,spineC_eq l]
theorem VRs.of_flat (β:Bt) {l:List Value}(h:l.all flat1=true):VRs β l l:=⟨rfl,fun i u v hu hv=>by
 rw[hu] at hv;cases hv
 exact .flat _ (List.all_eq_true.1 h _ (List.mem_of_getElem? hu))⟩
def buildC (D:Dom R) (P:Program) (fr:Tr Value) (s:AS) (t:TypeId) (ps:Array (Nat×Operand)) (k:Value->AS->R):R :=
 onV D (partsC s.glb fr ps.toList) fun us=>ifB D ((match zeroX P t with|some z=>z.all flat1|none=>false)) (onV D (buildX P t us) fun l=>spineC l fun l=>k (.agg ⟨l⟩) s)
theorem buildX_rel {β:Bt}{t:TypeId}{ps ps':List (Nat×Value)}{l:List Value}(hz:(match zeroX P t with|some z=>z.all flat1|none=>false)=true) (hp:PsR β ps ps') (h:buildX P t ps=some l):∃l',buildX P t ps'=some l'∧VRs β l l':=by
 unfold buildX at h ⊢
 split at h
 ·rename_i fs z hu hzx;simp only[hzx] at hz;split at h
  ·rename_i hall;exact fillX_rel hp (.of_flat β hz) h
  ·cases h
 ·rename_i n e z hu hzx;simp only[hzx] at hz;split at h
  ·rename_i g hg;exact fillX_rel hp (.of_flat β hz) h
  ·cases h
 ·cases h
theorem buildC_sound {t:TypeId}{ps:Array (Nat×Operand)}(ho:o.op=.build t ps) (h:D.T (buildC D P fr s t ps k)):∃u s',D.T (k u s')∧OpOk P fr o s u s':=by
 obtain ⟨us,h1,h⟩:=onV_sound h;replace h:=ifB_sound h;obtain ⟨hz,h⟩:=h;obtain ⟨l,hb,h⟩:=onV_sound h;rw[spineC_eq] at h;refine ⟨_,s,h,op_value fun W0 β a W hR hf=>?_⟩
 obtain ⟨l',e1,e2⟩:=buildX_rel hz (partsC_sound h1 fun x hx=>hf x (by simp only[ho,Op.operands,List.mem_toArray];exact hx)) hb
 refine ⟨.agg ⟨l'⟩,?_,.agg _ _ e2.1 e2.2⟩;have hrun:=run_buildX e1 W;have e:(ps.map fun (p:Nat×Operand)=>(p.1,a.eval p.2))=(ps.toList.map fun (p:Nat×Operand)=>(p.1,a.eval p.2)).toArray:=by
  apply Array.ext';simp
 have e2:execOp a.eval o=(do pure (.value (← Instr.build t (ps.map fun (p:Nat×Operand)=>(p.1,a.eval p.2))))):=by
  simp only[execOp,ho]
 rw[e2,e];simp only[Sem.run_bind,hrun,Result.andThen_ok,Sem.run_pure]
theorem op_alloc {b:Blk}{f:Nat->Value}(hl:s.lo≤s.next) (hf:∀(β:Bt) (n r sp:Nat),β n=some (r,sp)->sp=0->VR β (f n) (f r)) (h:∀β a W,OpR β s.glb fr a o->∃ob,(execOp a.eval o).run P W=.ok (.value (f W.heap.size)) (W.alloc ob)∧∀β' W',BLe 0 β β'->W'.heap[W.heap.size]?=some ob->BlkR P β' W' W.heap.size 0 True b):OpOk P fr o s (f s.next) (s.push b):=by
 refine ⟨s.push_stp b hl,fun W0 β a W hR hfr ho=>?_⟩
 have hfree:β s.next=none:=hfr s.next rL (Nat.lt_succ_self _);obtain ⟨ob,h1,h2⟩:=h β a W ho;rw[h1];refine ⟨β.set s.next (W.heap.size,0),⟨Bt.set_le _ hfree,fun i hi=>Bt.set_other _ _ (by
  show i≠s.next
  rcases hi with hi|hi
  ·omega
  ·have:s.next+1≤i:=hi;omega)⟩,hR.alloc hfree (h2 _ _ (Bt.set_le _ hfree) (heap_new _ _)),hf _ s.next W.heap.size 0 (Bt.set_same _ _ _) rfl,KD.below ((Below.refl _ _).alloc rL _)⟩
theorem blkR_of {β:Bt}{W:World}{r:Nat}{q:Prop}{T:TypeId}{xs:List Value}{cs:Array Value}{op:Bool}(hb:W.heap[r]?=some (.cells cs T (0,0))) (hv:VRs β xs cs.toList) (h1:∀u∈xs,u.oneCell'=true):BlkR P β W r 0 q (.cells T xs op) :=
 ⟨cs,_,hb,fun _=>rfl,fun _=>rfl,by have:=hv.1;simp at this ⊢;omega,fun i u hu=>⟨h1 u (List.mem_of_getElem? hu),by
  obtain ⟨v,h2,h3⟩:=hv.get hu;exact ⟨v,by simpa using h2,h3⟩⟩⟩
theorem oneAll {l:List Value}(h:l.all Value.oneCell'=true):∀u∈l,u.oneCell'=true:=fun u hu=>List.all_eq_true.1 h u hu
def allocC (D:Dom R) (P:Program) (s:AS) (t:TypeId) (k:Value->AS->R):R :=
 onV D (zeroX P t) fun z=>onesC z fun z=>ifB D (z.all flat1&&z.all Value.oneCell') (pushC D s (.cells t z false) fun n s=>k (.pointer (some ⟨n,0,none⟩)) s)
theorem allocC_sound (hl:s.lo≤s.next) {t:TypeId}(ho:o.op=.alloc t) (h:D.T (allocC D P s t k)):∃u s',D.T (k u s')∧OpOk P fr o s u s':=by
 obtain ⟨z,hz,h⟩:=onV_sound h;rw[onesC_eq] at h;replace h:=ifB_sound h;obtain ⟨hf,h⟩:=h;simp only[Bool.and_eq_true] at hf;rw[pushC_eq] at h;refine ⟨_,_,h,op_alloc (f:=fun n=>.pointer (some ⟨n,0,none⟩)) hl (fun β n r sp hb _=>.ptr _ _ _ _ hb) fun β a W _=>?_⟩
 unfold zeroX at hz;split at hz
 ·rename_i i hi;split at hz
  ·rename_i zv hzv;cases hz;refine ⟨.cells zv.cells t,by simp[execOp,ho,Instr.alloc,zeroValue,typeInfo,hi,hzv,newVar,newRow],fun β' W' _ hg=>blkR_of hg (.of_flat _ hf.1) (oneAll hf.2)⟩
  ·cases hz
 ·cases hz
def boxC (D:Dom R) (P:Program) (fr:Tr Value) (s:AS) (t:TypeId) (x:Operand) (k:Value->AS->R):R :=
 onV D (evC s.glb fr x) fun u=>ifB D ((cellsOf u).all Value.oneCell') (pushC D s (.cells t (cellsOf u) false) fun n s=>k (.pointer (some ⟨n,0,none⟩)) s)
theorem boxC_sound (hl:s.lo≤s.next) {t:TypeId}{x:Operand}(ho:o.op=.box t x) (h:D.T (boxC D P fr s t x k)):∃u s',D.T (k u s')∧OpOk P fr o s u s':=by
 obtain ⟨u,hu,h⟩:=onV_sound h;replace h:=ifB_sound h;obtain ⟨hf,h⟩:=h;rw[pushC_eq] at h;refine ⟨_,_,h,op_alloc (f:=fun n=>.pointer (some ⟨n,0,none⟩)) hl (fun β n r sp hb _=>.ptr _ _ _ _ hb) fun β a W hop=>?_⟩
 have hv:=hop x (by simp[ho,Op.operands]) u hu
 exact ⟨.cells (a.eval x).cells t,by simp[execOp,ho,Instr.box,newVar,newRow],fun β' W' hs hg=>blkR_of hg (hv.grow hs).cells (oneAll hf)⟩
def buildSliceC (D:Dom R) (P:Program) (fr:Tr Value) (s:AS) (t:TypeId) (n:Nat) (ps:Array (Nat×Operand)) (k:Value->AS->R):R :=
 onV D (partsC s.glb fr ps.toList) fun us=>ifB D ((match rowInfo P t with|some (e,_,_)=>(match zeroX P e with|some z=>z.all flat1|none=>false)|none=>false)) (onV D (rowX P t n us) fun r=>match r with
  |(T,_,l)=>spineC l fun l=>ifB D (l.all Value.oneCell') (pushC D s (.cells T l false) fun m s=>k (.slice (some ⟨m,0,none⟩) n n) s))
theorem repX_rel {β:Bt}{z:List Value}(hz:z.all flat1=true):∀n,VRs β (repX n z) (repX n z)
 |0=>.nil _
 |n+1=>(VRs.of_flat β hz).app (repX_rel hz n)
theorem rowX_rel {β:Bt}{t T:TypeId}{n z:Nat}{ps ps':List (Nat×Value)}{l:List Value}(hz:(match rowInfo P t with|some (e,_,_)=>(match zeroX P e with|some z=>z.all flat1|none=>false)|none=>false)=true) (hp:PsR β ps ps') (h:rowX P t n ps=some (T,z,l)):∃l',rowX P t n ps'=some (T,z,l')∧VRs β l l':=by
 unfold rowX at h ⊢
 split at h
 ·rename_i e z' by' hri
  simp only[hri] at hz ⊢;split at h
  ·rename_i zz hzx hd;simp only[hzx] at hz;split at h
   ·rename_i m hm;cases h;obtain ⟨m',h1,h2⟩:=fillX_rel hp (repX_rel hz n) hm;simp only[h1];exact ⟨m',rfl,h2⟩
   ·cases h
  ·cases h
 ·cases h
theorem buildSliceC_sound (hl:s.lo≤s.next) {t:TypeId}{n:Nat}{ps:Array (Nat×Operand)}(ho:o.op=.buildSlice t n ps) (h:D.T (buildSliceC D P fr s t n ps k)):∃u s',D.T (k u s')∧OpOk P fr o s u s':=by
 obtain ⟨us,h1,h⟩:=onV_sound h;replace h:=ifB_sound h;obtain ⟨hz,h⟩:=h;obtain ⟨⟨T,z,l⟩,hb,h⟩:=onV_sound h;simp only[spineC_eq] at h;replace h:=ifB_sound h;obtain ⟨hf,h⟩:=h;rw[pushC_eq] at h;refine ⟨_,_,h,op_alloc (f:=fun m=>.slice (some ⟨m,0,none⟩) n n) hl (fun β n' r sp hb h0=>by subst h0;exact .sl _ _ 0 _ _ _ hb) fun β a W hop=>?_⟩
 obtain ⟨l',e1,e2⟩:=rowX_rel hz (partsC_sound h1 fun x hx=>hop x (by simp only[ho,Op.operands,List.mem_toArray];exact hx)) hb
 obtain ⟨hlen,hmax,hrun⟩:=run_rowX e1;refine ⟨.cells l'.toArray T,?_,fun β' W' hs hg=>blkR_of hg (by simpa using e2.grow hs) (oneAll hf)⟩
 have e:(ps.map fun (p:Nat×Operand)=>(p.1,a.eval p.2))=(ps.toList.map fun (p:Nat×Operand)=>(p.1,a.eval p.2)).toArray:=by
  apply Array.ext';simp
 have e2:execOp a.eval o=(do pure (.value (← Instr.buildSlice t n (ps.map fun (p:Nat×Operand)=>(p.1,a.eval p.2))))):=by
  simp only[execOp,ho]
 rw[e2,e];simp only[Sem.run_bind,hrun W,Result.andThen_ok,Sem.run_pure]
def makeSliceC (D:Dom R) (P:Program) (fr:Tr Value) (s:AS) (t:TypeId) (x y:Operand) (k:Value->AS->R):R :=
 match evC s.glb fr x,evC s.glb fr y,rowInfo P t with
 |some (.int _ n),some (.int _ m),some (e,z,by')=>onV D (zeroX P e) fun zs=>ifB D (zs.all flat1&&zs.all Value.oneCell'&&decide (0≤n)&&decide (n≤m)&&decide (m*by'≤140737488355328)&&decide (m≤1000000))
   (spineC (repX m.toNat zs) fun l=>D.frcN n.toNat fun n=>D.frcN m.toNat fun m=>pushC D s (.cells e l false) fun i s=>k (.slice (some ⟨i,0,none⟩) n m) s)
 |_,_,_=>D.bad
theorem makeSliceC_sound (hl:s.lo≤s.next) {t:TypeId}{x y:Operand}(ho:o.op=.makeSlice t x y) (h:D.T (makeSliceC D P fr s t x y k)):∃u s',D.T (k u s')∧OpOk P fr o s u s':=by
 unfold makeSliceC at h;split at h
 ·rename_i kl n kc c e z by' hx hy hri
  obtain ⟨zs,hzs,h⟩:=onV_sound h;replace h:=ifB_sound h;obtain ⟨hf,h⟩:=h;simp only[Bool.and_eq_true,decide_eq_true_eq] at hf;obtain ⟨⟨⟨⟨⟨f1,f2⟩,h0⟩,h1⟩,h2⟩,h3⟩:=hf;simp only[spineC_eq,D.frcN_eq,pushC_eq] at h
  obtain ⟨hu,i,zv,hi,hz,hsz,hby,hvs,hpos,hzx⟩:=rowInfo_spec hri;rw[hzx] at hzs;cases hzs;refine ⟨_,_,h,op_alloc (f:=fun m=>.slice (some ⟨m,0,none⟩) n.toNat c.toNat) hl (fun β n' r sp hb h0=>by subst h0;exact .sl _ _ 0 _ _ _ hb) fun β a W hop=>?_⟩
  have e1:=(hop x (by simp[ho,Op.operands]) _ hx).flat_eq rfl
  have e2:=(hop y (by simp[ho,Op.operands]) _ hy).flat_eq rfl
  have hmk:=run_make (P:=P) W t e i zv hu hi hz kl kc n c h0 h1 (by rw[hby,Int.mul_comm];omega) (by omega)
  refine ⟨.cells (madeCells zv.cells (c.toNat*i.size)) e,by simp only[execOp,ho,e1,e2,Sem.run_bind,hmk,Result.andThen_ok,Sem.run_pure],fun β' W' hs hg=>?_⟩
  have hzl:zv.cells.toList.length=z:=by simpa using hvs
  have hmade:(madeCells zv.cells (c.toNat*i.size)).toList=repX c.toNat zv.cells.toList:=by
   rw[hsz];apply List.ext_getElem?;intro j;by_cases hj:j<c.toNat*z
   ·have hm:j % z<zv.cells.size:=by rw[hvs];exact Nat.mod_lt _ hpos
    have:=repX_at c.toNat zv.cells.toList j (by rw[hzl];exact hj)
    rw[this,hzl];simp[madeCells,hj,hvs];rw[Array.getElem?_eq_getElem hm,getElem!_pos zv.cells _ hm]
   ·rw[List.getElem?_eq_none (by simp[madeCells];omega),List.getElem?_eq_none (by rw[repX_len,hzl];omega)]
  have hmem:∀p u,u∈repX p zv.cells.toList->u∈zv.cells.toList:=fun p u=>by
   induction p with
   |zero=>intro h;simp[repX] at h
   |succ p ih=>intro h;rw[repX] at h;rcases List.mem_append.1 h with h|h;exact h;exact ih h
  exact blkR_of hg (by rw[hmade];exact repX_rel f1 _) fun u hu=>oneAll f2 u (hmem _ _ hu)
 ·exact absurd h D.nb
def makeFuncC (D:Dom R) (fr:Tr Value) (s:AS) (g:FuncId) (a b:Array Operand) (k:Value->AS->R):R :=
 onV D (evsC s.glb fr a.toList) fun us=>onV D (evsC s.glb fr b.toList) fun vs=>k (.func (.func g) ⟨us⟩ ⟨vs⟩) s
theorem makeFuncC_sound {g:FuncId}{x y:Array Operand}(ho:o.op=.makeFunc (.func g) x y) (h:D.T (makeFuncC D fr s g x y k)):∃u s',D.T (k u s')∧OpOk P fr o s u s':=by
 obtain ⟨us,h1,h⟩:=onV_sound h;obtain ⟨vs,h2,h⟩:=onV_sound h;refine ⟨_,s,h,op_value fun W0 β a W hR hf=>?_⟩
 have q1:=evsC_sound (β:=β) (a:=a) h1 fun z hz=>hf z (by simp only[ho,Op.operands];simp at hz ⊢;simp[hz])
 have q2:=evsC_sound (β:=β) (a:=a) h2 fun z hz=>hf z (by simp only[ho,Op.operands];simp at hz ⊢;simp[hz])
 refine ⟨.func (.func g) ⟨x.toList.map a.eval⟩ ⟨y.toList.map a.eval⟩,?_,.func _ _ _ _ _ q1.1 q2.1 q1.2 q2.2⟩;have e1:(⟨x.toList.map a.eval⟩:Array Value)=x.map a.eval:=by apply Array.ext';simp
 have e2:(⟨y.toList.map a.eval⟩:Array Value)=y.map a.eval:=by apply Array.ext';simp
 rw[e1,e2];simp[execOp,ho,Instr.makeFunc]
def storeOpC (D:Dom R) (P:Program) (fr:Tr Value) (s:AS) (t:TypeId) (x y:Operand) (k:Value->AS->R):R :=
 match evC s.glb fr x,evC s.glb fr y,P.info? t with
 |some (.pointer (some ⟨b,off,none⟩)),some u,some i=>ifB D (Nat.ble s.lo b&&Nat.beq (cellsOf u).length i.size&&(cellsOf u).all Value.oneCell') (match lookC s b with
  |some (.cells T xs op)=>storeC D xs off (cellsOf u) fun xs=>turnC s b (some (.cells T xs op)) fun s=>k undef s
  |_=>D.bad)
 |_,_,_=>D.bad
theorem vrs_stored {β:Bt}{xs vs vs':List Value}{cs:List Value}{off:Nat}(hx:VRs β xs (cs.take xs.length)) (hv:VRs β vs vs') (hle:off+vs.length≤xs.length) :
  VRs β (xs.take off++vs++xs.drop (off+vs.length)) ((stored cs off vs').take xs.length)∧(xs.take off++vs++xs.drop (off+vs.length)).length=xs.length:=by
 have hlen:(xs.take off++vs++xs.drop (off+vs.length)).length=xs.length:=by simp;omega
 have hcs:xs.length≤cs.length:=by have:=hx.1;rw[List.length_take] at this;omega
 refine ⟨?_,hlen⟩;have e:(stored cs off vs').take xs.length=(cs.take xs.length).take off++vs'++(cs.take xs.length).drop (off+vs'.length):=by
  unfold Go.Proofs.YtcihknonfcldeaaDoor.stored;have hl':=hv.1;apply List.ext_getElem?;intro i;simp only[List.getElem?_take,List.getElem?_append,List.length_append,List.length_take,List.getElem?_drop]
  have h1:min off cs.length=off:=by omega
  have h2:min off (min xs.length cs.length)=off:=by omega
  simp only[h1,h2];by_cases hi:i<xs.length
  ·simp only[hi,if_true];by_cases ha:i<off+vs'.length
   ·simp only[ha,if_true]
   ·simp only[ha,if_false];have:off+vs'.length+(i-(off+vs'.length))=i:=by omega
    rw[this,if_pos hi]
  ·simp only[hi,if_false];have ha:¬i<off+vs'.length:=by omega
   simp only[ha,if_false];have:off+vs'.length+(i-(off+vs'.length))=i:=by omega
   rw[this,if_neg hi]
 rw[e,← hv.1];exact ((hx.take off).app hv).app (hx.drop _)
theorem storeOpC_sound {t:TypeId}{x y:Operand}(ho:o.op=.store t x y) (h:D.T (storeOpC D P fr s t x y k)):∃u s',D.T (k u s')∧OpOk P fr o s u s':=by
 unfold storeOpC at h;split at h
 ·rename_i b off u i hx hy hi;replace h:=ifB_sound h;obtain ⟨hob,h⟩:=h;simp only[Bool.and_eq_true] at hob;obtain ⟨⟨hlo,hsz⟩,hone⟩:=hob;have hlo:=bR hlo;have hsz:=Nat.eq_of_beq_eq_true hsz;split at h
  ·rename_i T xs op hb;obtain ⟨hle,h⟩:=storeC_sound _ _ _ _ h;rw[turnC_eq] at h;have hb':s.heap.get b=some (.cells T xs op):=hb;refine ⟨_,_,h,Stp.turn _ (by rw[hb'];simp) hlo (by rw[hb'];simp[isLoop]),fun W0 β a W hR hfr hop=>?_⟩
   ·obtain ⟨r,sp,e1,e2⟩:=(hop x (by simp[ho,Op.operands]) _ hx).ptr_inv
    have hv:=hop y (by simp[ho,Op.operands]) _ hy
    obtain ⟨cs,fz,g1,g2,g3,g4,g5,g6,g7,g8⟩:=(hR.blk b _ r sp hb' e1).real;obtain rfl:=g2 hlo;have hcl:=hv.cells;have hvl:(a.eval y).cells.toList.length=i.size:=by rw[← hcl.1];exact hsz
    have hvone:∀v∈(a.eval y).cells.toList,v.oneCell'=true:=fun v hv'=>by
     obtain ⟨j,hj⟩:=List.getElem?_of_mem hv';have hjl:=(List.getElem?_eq_some_iff.1 hj).1;rw[← hcl.1] at hjl;have:=hcl.2 j _ v (List.getElem?_eq_getElem hjl) hj;rw[this.one];exact oneAll hone _ (List.getElem_mem _)
    have hcsz:xs.length≤cs.size:=by rw[g4];omega
    have hrun:=run_store_row (P:=P) (w:=W) (t:=t) (i:=i) (v:=a.eval y) (vs:=(a.eval y).cells.toList) (off:=off) g1 (by rw[hvl];omega) (by simp) hi hvl hvone
    have hexec:(execOp a.eval o).run P W=.ok .skip (W.setRow r (stored cs.toList off (a.eval y).cells.toList).toArray):=by
     simp[execOp,ho,Instr.storeAt,Instr.sureAddr,e2,hrun]
    rw[hexec];obtain ⟨s1,s2⟩:=vrs_stored (off:=off) g5 hcl (by rw[hsz];omega)
    have hge:=hR.ge b r sp (by rw[hb'];simp) e1 hlo
    refine ⟨β,.refl _ _,hR.write (by rw[hb'];simp) e1 hlo (setRow_size _ _ _) (fun j hj=>setRow_other _ _ _ _ hj) (below_setRow hR.below hge _) ?_,.of_flat _ rfl,.write g1 (by simp) (fun j hj=>setRow_other _ _ _ _ hj) (setRow_size _ _ _) (hw:=fun cs0 T0 fz0 h0=>by cases h0;exact ⟨_,_,setRow_heap W r cs _ T _ g1,by have:=stored_len (cur:=cs.toList) (vs:=(a.eval y).cells.toList) (off:=off) (by simp at hvl ⊢;omega);simpa using this,fun _=>rfl⟩)⟩
    refine ⟨_,_,setRow_heap W r cs _ T _ g1,fun _=>rfl,g3,?_,fun j v hj=>⟨?_,?_⟩⟩
    ·have:=stored_len (cur:=cs.toList) (vs:=(a.eval y).cells.toList) (off:=off) (by simp at hvl ⊢;omega)
     rw[s2];simp only[List.size_toArray,this];simpa using g4
    ·have hm:=List.mem_of_getElem? hj;simp only[List.mem_append] at hm;rcases hm with (hm|hm)|hm
     ·exact g6 _ (List.mem_of_mem_take hm)
     ·exact oneAll hone _ hm
     ·exact g6 _ (List.mem_of_mem_drop hm)
    ·obtain ⟨v',h2,h3⟩:=s1.get hj;rw[List.getElem?_take] at h2;split at h2
     ·exact ⟨v',by simpa using h2,h3⟩
     ·cases h2
  ·exact absurd h D.nb
 ·exact absurd h D.nb
end Go.Proofs.YtcihknonfcldeaaDoor.U
