import Derived.Maps.RangeRun
import Derived.Test.YtcihknonfcldeaaDoorKT10
namespace Go.Proofs.YtcihknonfcldeaaDoor.U
open Go Go.RowKit Go.Sort
set_option linter.unusedVariables false
set_option linter.unusedSimpArgs false
set_option maxRecDepth 100000
set_option maxHeartbeats 40000000
variable {R : Type} {D : Dom R} {P : Program} {cf : CallF R} {fr : Tr Value} {s : AS} {o : Oper} {k : Value → AS → R}
def lenC (D:Dom R) (P:Program) (cf:CallF R) (o:Oper) (fr:Tr Value) (s:AS) (t:TypeId) (x:Operand) (k:Value->AS->R):R :=
 match evC s.glb fr x with
 |some (.slice _ n _)=>ifB D (isSlice P t) (D.frc (.int .i64 n) fun u=>k u s)
 |some (.map (some b))=>match P.underlying t,lookC s b with
  |some (.map _ _),some (.map es _ _)=>D.frc (.int .i64 es.length) fun u=>k u s
  |_,_=>D.bad
 |some (.func (.yield 0) ⟨xs⟩ ⟨[.bool true]⟩)=>ifB D (isSlice P t) (D.frc (.int .i64 xs.length) fun u=>k u s)
 |_=>exactC D P cf o fr s k
def valueC (D:Dom R) (P:Program) (cf:CallF R) (o:Oper) (fr:Tr Value) (s:AS) (f:Operand) (args:List Operand) (k:Value->AS->R):R :=
 match evC s.glb fr f with
 |some (.func (.func g) ⟨a⟩ ⟨b⟩)=>match entersB P g with
  |true=>onV D (evsC s.glb fr args) fun us=>cf.call g (a++(us++b)) s k
  |false=>exactC D P cf o fr s k
 |some (.func (.yield l) ⟨[]⟩ ⟨[]⟩)=>onV D (evsC s.glb fr args) fun us=>cf.round l us s k
 |_=>D.bad
def recvC (D:Dom R) (P:Program) (s:AS) (t:TypeId) (u:Value) (p:Bool) (k:Value->R):R :=
 match P.underlying t with
 |some (.pointer e)=>match p with
  |true=>k u
  |false=>match u with
   |.pointer (some ⟨b,off,none⟩)=>match lookC s b with
    |some (.cells _ xs _)=>partC D P e xs off k
    |_=>D.bad
   |_=>D.bad
 |some _=>match p with
  |true=>D.bad
  |false=>k u
 |none=>D.bad
theorem run_wrapNil (t:TypeId) (a:Addr) (name:String) (W:World):(Builtin.ssaWrapNilChk_ #[t] t #[.pointer (some a),strVal "",strVal name]).run P W=.ok (.pointer (some a)) W:=rfl
theorem recvC_sound {t:TypeId}{u:Value}{p:Bool}{k:Value->R}(h:D.T (recvC D P s t u p k)):∃r,D.T (k r)∧∀(W0:World) (β:Bt) (W:World) (v:Value),Rel P W0 β s W->VR β u v->∃r',VR β r r'∧∀name,(receiverAt t (.val v) p (some name)).run P W=.ok r' W:=by
 unfold recvC at h;split at h
 ·rename_i e ht;split at h
  ·exact ⟨u,h,fun W0 β W v hR hu=>⟨v,hu,fun name=>by simp[receiverAt,run_underlying ht,Place.get]⟩⟩
  ·split at h
   ·rename_i b off;split at h
    ·rename_i T xs op hb;obtain ⟨r,h1,h2⟩:=partC_sound h;refine ⟨r,h2,fun W0 β W v hR hu=>?_⟩
     obtain ⟨q,sp,e1,rfl⟩:=hu.ptr_inv;obtain ⟨cs,fz,_,_,_,_,g1,_,_,g2⟩:=(hR.blk b _ q sp hb e1).real;obtain ⟨r',h3,h4⟩:=h1.rel g1;exact ⟨r',h4,fun name=>by simp[receiverAt,run_underlying ht,Place.get,run_wrapNil,asAddr,h3.load g2]⟩
    ·exact absurd h D.nb
   ·exact absurd h D.nb
 ·rename_i d hne ht;split at h
  ·exact absurd h D.nb
  ·refine ⟨u,h,fun W0 β W v hR hu=>⟨v,hu,fun name=>?_⟩⟩
   cases d<;>first|exact (hne _ rfl).elim|exact (hne _ ht).elim|simp[receiverAt,run_underlying ht,Place.get]
 ·exact absurd h D.nb
theorem run_method0 {t:TypeId}{v v':Value}{name:String}{i:TypeInfo}{m:Method}{f:FuncId}{p:Bool}{W:World}(hi:P.info? t=some i) (hm:i.methods.find? (·.name==name)=some m) (hp:m.path=#[]) (hf:m.func=some (f,p)) (n:Nat)
  (hr:∀name,(receiverAt t (.val v) p (some name)).run P W=.ok v' W):(method (n+1) t v name).run P W=.ok (f,v') W:=by
 simp[method,typeInfo,hi,hm,hp,hf,follow,hr]
def invokeC (D:Dom R) (P:Program) (cf:CallF R) (fr:Tr Value) (s:AS) (x:Operand) (name:String) (args:List Operand) (k:Value->AS->R):R :=
 match evC s.glb fr x with
 |some (.iface t u)=>match P.info? t with
  |some i=>match i.methods.find? (·.name==name) with
   |some m=>match m.path.toList,m.func with
    |[],some (f,p)=>match entersB P f with
     |true=>recvC D P s t u p fun r=>onV D (evsC s.glb fr args) fun us=>cf.call f (r::us) s k
     |false=>D.bad
    |_,_=>D.bad
   |none=>D.bad
  |none=>D.bad
 |_=>D.bad
theorem invokeC_sound (hc:CallOk P D cf) (hl:s.lo≤s.next) {c:Call}{x:Operand}{name:String}(ho:o.op=.call c) (hcal:c.callee=.invoke x name) (h:D.T (invokeC D P cf fr s x name c.args.toList k)):∃u s',D.T (k u s')∧OpOk P fr o s u s':=by
 unfold invokeC at h;split at h
 ·rename_i t u hx;split at h
  ·rename_i i hi;split at h
   ·rename_i m hm;split at h
    ·rename_i f p hp hf;split at h
     ·rename_i hen;obtain ⟨r,h,hrec⟩:=recvC_sound h;replace h:=onV_sound h;obtain ⟨us,hus,h⟩:=h;obtain ⟨w,s',h1,h2,h3⟩:=hc.call f _ s k hl h;refine ⟨w,s',h1,h2,fun W0 β a W hR hfr hop=>?_⟩
      obtain ⟨v,e1,e2⟩:=(hop x (by simp[ho,Op.operands,Call.operands,hcal]) _ hx).ifc_inv
      obtain ⟨r',e3,e4⟩:=hrec W0 β W v hR e1;have e5:=evsC_sound (β:=β) (a:=a) hus fun z hz=>hop z (by simp only[ho,Op.operands,Call.operands,hcal];simp at hz ⊢;simp[hz])
      have hmeth:(method (P.types.size+Made.depth) t v name).run P W=.ok (f,r') W:=run_method0 (n:=P.types.size+99) hi hm (by apply Array.ext';simpa using hp) hf e4
      have ea:(c.args.map a.eval:Array Value)=⟨c.args.toList.map a.eval⟩:=by apply Array.ext';simp
      have eb:((#[r']:Array Value)++(⟨c.args.toList.map a.eval⟩:Array Value))=⟨r'::c.args.toList.map a.eval⟩:=by apply Array.ext';simp
      have ec:((#[Value.iface t v]:Array Value)++(⟨c.args.toList.map a.eval⟩:Array Value)).extract 1 ((#[Value.iface t v]:Array Value)++(⟨c.args.toList.map a.eval⟩:Array Value)).size=⟨c.args.toList.map a.eval⟩:=by apply Array.ext';simp[List.take_of_length_le]
      have eh:((#[Value.iface t v]:Array Value)++(⟨c.args.toList.map a.eval⟩:Array Value))[0]?=some (.iface t v):=by simp
      have e:(execOp a.eval o).run P W=(callFunc f ⟨r'::c.args.toList.map a.eval⟩).run P W:=by
       simp only[execOp,ho,resolve,hcal,Sem.run_bind,Sem.run_pure,Result.andThen_ok,e2,ea,invoke,eh,ec,callMethod,run_program,hmeth,eb]
      rw[e,run_enters hen W];exact ⟨rfl,h3 W0 β W _ hR hfr (.cons e3 e5)⟩
     ·exact absurd h D.nb
    ·exact absurd h D.nb
   ·exact absurd h D.nb
  ·exact absurd h D.nb
 ·exact absurd h D.nb
def boundC (gl:Nat) (fr:Tr Value) (x:Option Operand) (d:Nat):Option Nat :=
 match x with
 |none=>some d
 |some x=>match evC gl fr x with
  |some (.int _ (.ofNat n))=>some n
  |_=>none
def headB (z l:Nat) (xs:List Value):Bool :=
 match l with
 |0=>true
 |_=>match xs with
  |x::_=>Nat.beq (cellsOf x).length z
  |[]=>true
def sliceC (D:Dom R) (P:Program) (cf:CallF R) (o:Oper) (fr:Tr Value) (s:AS) (t:TypeId) (x:Operand) (lo hi:Option Operand) (k:Value->AS->R):R :=
 match evC s.glb fr x with
 |some (.slice (some ⟨b,off,none⟩) n c)=>onV D (elemSize P t) fun z=>onV D (boundC s.glb fr lo 0) fun l=>onV D (boundC s.glb fr hi n) fun h=>ifB D (Nat.ble l h&&Nat.ble h n&&Nat.ble n c) (match Nat.beq c l with
  |true=>match lookC s b with
   |some (.cells _ _ false)=>k (.slice (some ⟨b,off,none⟩) 0 0) s
   |_=>D.bad
  |false=>D.frcN (off+l*z) fun q=>D.frcN (h-l) fun n=>D.frcN (c-l) fun c=>k (.slice (some ⟨b,q,none⟩) n c) s)
 |some (.slice (some ⟨b,off,some 1⟩) n c)=>onV D (elemSize P t) fun z=>onV D (boundC s.glb fr lo 0) fun l=>onV D (boundC s.glb fr hi n) fun h=>ifB D (Nat.ble l h&&Nat.ble h n&&Nat.ble n c) (match Nat.beq c l with
  |true=>k (.slice (some ⟨b,off,some 1⟩) 0 0) s
  |false=>D.frcN (off+l*z) fun q=>D.frcN (h-l) fun n=>D.frcN (c-l) fun c=>k (.slice (some ⟨b,q,some 1⟩) n c) s)
 |some (.func (.yield 0) ⟨xs⟩ ⟨[.bool true]⟩)=>onV D (elemSize P t) fun z=>onV D (boundC s.glb fr lo 0) fun l=>onV D (boundC s.glb fr hi xs.length) fun h=>ifB D (Nat.ble l h&&Nat.ble h xs.length&&headB z l xs) (k (imS ((xs.drop l).take (h-l))) s)
 |_=>exactC D P cf o fr s k
theorem boundC_is {β:Bt}{gl:Nat}{a:Act}{x:Option Operand}{d n:Nat}(h:boundC gl fr x d=some n) (hop:∀y,x=some y->∀u,evC gl fr y=some u->VR β u (a.eval y)):(x=none∧(n:Int)=((d:Nat):Int))∨∃y k,x=some y∧a.eval y=.int k (n:Int):=by
 unfold boundC at h;split at h
 ·cases h;exact .inl ⟨rfl,rfl⟩
 ·rename_i y;split at h
  ·rename_i k m hy;cases h;exact .inr ⟨y,k,rfl,(hop y rfl _ hy).flat_eq rfl⟩
  ·cases h
theorem sliceC_sound (hc:CallOk P D cf) (hl:s.lo≤s.next) {t:TypeId}{x:Operand}{lo hi:Option Operand}(ho:o.op=.slice t x lo hi none) (h:D.T (sliceC D P cf o fr s t x lo hi k)):∃u s',D.T (k u s')∧OpOk P fr o s u s':=by
 unfold sliceC at h;split at h
 ·rename_i b off n c hx;replace h:=onV_sound h;obtain ⟨z,hz,h⟩:=h;replace h:=onV_sound h;obtain ⟨l,hlo,h⟩:=h;replace h:=onV_sound h;obtain ⟨hh,hhi,h⟩:=h;replace h:=ifB_sound h;obtain ⟨hb,h⟩:=h
  simp only[Bool.and_eq_true] at hb;have h1:=bR hb.1.1;have h2:=bR hb.1.2;have h3:=bR hb.2;obtain ⟨e,inf,he,hinf,rfl⟩:=elemSize_spec hz;have run:∀(W0:World) (β:Bt) (a:Act) (W:World),OpR β s.glb fr a o->∃r sp,β b=some (r,sp)∧(execOp a.eval o).run P W=.ok (.value (.slice (if c+sp=l then some ⟨r,off,none⟩ else some ⟨r,off+l*inf.size,none⟩) (hh-l) (c+sp-l))) W:=fun W0 β a W hop=>by
   obtain ⟨r,sp,e1,e2⟩:=(hop x (by simp[ho,Op.operands]) _ hx).sl_inv
   have hrun:=run_slice_part (W:=W) (a:=a) he hinf ho e2 (by omega) (boundC_is (a:=a) hlo fun y hy=>hop y (by simp[ho,Op.operands,hy])) (boundC_is (a:=a) hhi fun y hy=>hop y (by simp[ho,Op.operands,hy])) ⟨by omega,by omega,by omega⟩
   refine ⟨r,sp,e1,?_⟩;rw[hrun];simp[add_at]
  split at h
  ·rename_i hcl;obtain rfl:=Nat.eq_of_beq_eq_true hcl;split at h
   ·rename_i T xs hlook;refine ⟨_,s,h,op_value fun W0 β a W hR hop=>?_⟩
    obtain ⟨r,sp,e1,e2⟩:=run W0 β a W hop;obtain ⟨cs,fz,_,_,h0,_⟩:=hR.blk b _ r sp hlook e1;obtain rfl:=h0 rfl;refine ⟨_,e2,?_⟩;have:hh-c=0:=by omega
    simp only[Nat.add_zero,if_true,this,Nat.sub_self];exact .sl _ _ 0 _ _ _ e1
   ·exact absurd h D.nb
  ·rename_i hcl;have hcl:c≠l:=fun e=>by subst e;simp at hcl
   simp only[D.frcN_eq] at h;refine ⟨_,s,h,op_value fun W0 β a W hR hop=>?_⟩
   obtain ⟨r,sp,e1,e2⟩:=run W0 β a W hop;refine ⟨_,e2,?_⟩;rw[if_neg (by omega),show c+sp-l=c-l+sp by omega];exact .sl _ _ _ _ _ _ e1
 ·rename_i b off n c hx;replace h:=onV_sound h;obtain ⟨z,hz,h⟩:=h;replace h:=onV_sound h;obtain ⟨l,hlo,h⟩:=h;replace h:=onV_sound h;obtain ⟨hh,hhi,h⟩:=h;replace h:=ifB_sound h;obtain ⟨hb,h⟩:=h
  simp only[Bool.and_eq_true] at hb;have h1:=bR hb.1.1;have h2:=bR hb.1.2;have h3:=bR hb.2;obtain ⟨e,inf,he,hinf,rfl⟩:=elemSize_spec hz;have run:∀(W0:World) (β:Bt) (a:Act) (W:World),OpR β s.glb fr a o->∃r sp,β b=some (r,sp)∧(execOp a.eval o).run P W=.ok (.value (.slice (if c=l then some ⟨r,sp+off,none⟩ else some ⟨r,sp+(off+l*inf.size),none⟩) (hh-l) (c-l))) W:=fun W0 β a W hop=>by
   obtain ⟨r,sp,e1,e2⟩:=(hop x (by simp[ho,Op.operands]) _ hx).vsl_inv
   have hrun:=run_slice_part (W:=W) (a:=a) he hinf ho e2 (by omega) (boundC_is (a:=a) hlo fun y hy=>hop y (by simp[ho,Op.operands,hy])) (boundC_is (a:=a) hhi fun y hy=>hop y (by simp[ho,Op.operands,hy])) ⟨by omega,by omega,by omega⟩
   refine ⟨r,sp,e1,?_⟩;rw[hrun];simp[add_at,Nat.add_assoc]
  split at h
  ·rename_i hcl;obtain rfl:=Nat.eq_of_beq_eq_true hcl;refine ⟨_,s,h,op_value fun W0 β a W hR hop=>?_⟩
   obtain ⟨r,sp,e1,e2⟩:=run W0 β a W hop;refine ⟨_,e2,?_⟩;have:hh-c=0:=by omega
   simp only[if_true,this,Nat.sub_self];exact .vsl _ _ _ _ _ _ e1
  ·rename_i hcl;have hcl:c≠l:=fun e=>by subst e;simp at hcl
   simp only[D.frcN_eq] at h;refine ⟨_,s,h,op_value fun W0 β a W hR hop=>?_⟩
   obtain ⟨r,sp,e1,e2⟩:=run W0 β a W hop;refine ⟨_,e2,?_⟩;rw[if_neg hcl];exact .vsl _ _ _ _ _ _ e1
 ·rename_i xs hx;replace h:=onV_sound h;obtain ⟨z,hz,h⟩:=h;replace h:=onV_sound h;obtain ⟨l,hlo,h⟩:=h;replace h:=onV_sound h;obtain ⟨hh,hhi,h⟩:=h;replace h:=ifB_sound h;obtain ⟨hb,h⟩:=h;simp only[Bool.and_eq_true] at hb
  have h1:=bR hb.1.1;have h2:=bR hb.1.2;have h3:=hb.2;obtain ⟨e,inf,he,hinf,rfl⟩:=elemSize_spec hz;refine ⟨_,s,h,op_value fun W0 β a W hR hop=>?_⟩
  have blo:=boundC_is (a:=a) hlo fun y hy=>hop y (by simp[ho,Op.operands,hy])
  have bhi:=boundC_is (a:=a) hhi fun y hy=>hop y (by simp[ho,Op.operands,hy])
  rcases VR.imS_inv (xs:=xs) (hop x (by simp[ho,Op.operands]) _ hx) with ⟨rfl,ad,e2⟩|⟨ws,z',r,off,c,q1,q2,q3,q4,q5,e2⟩
  ·simp only[List.length_nil,Nat.le_zero] at h2;subst h2;obtain rfl:l=0:=by omega
   have hrun:=run_slice_part (W:=W) (a:=a) he hinf ho e2 rL blo bhi ⟨by omega,by omega,by omega⟩
   exact ⟨_,hrun,by simpa using VR.imn ad⟩
  ·have hrun:=run_slice_part (W:=W) (a:=a) he hinf ho e2 q2 blo bhi ⟨by omega,by omega,by omega⟩
   refine ⟨_,hrun,?_⟩;have hoff:l*inf.size=l*z':=by
    cases l with
    |zero=>simp
    |succ l =>
     cases xs with
     |nil=>simp at h2;omega
     |cons y ys =>
      have:=Nat.eq_of_beq_eq_true h3;rw[← this,q1 y (by simp)]
   simp only[Int.toNat_natCast,Option.map_some,add_at,hoff];by_cases hcl:c=l
   ·subst hcl;have e0:hh-c=0:=by omega
    rw[if_pos rfl,e0,Nat.sub_self];have:=VR.imS_part (l:=0) (n:=0) (c:=0) q1 rL q3 q4 q5 (by omega)
    simpa using this
   ·rw[if_neg hcl];exact VR.imS_part q1 (by omega) q3 q4 q5 (by omega)
 ·exact exactC_sound hc hl h
def noView (q:Option Nat):Bool :=
 match q with
 |some 1=>false
 |_=>true
theorem noView_vo {q:Option Nat}(h:noView q=true) (sp:Nat):vo q sp=0:=by
 unfold vo;split
 ·cases h
 ·rfl
def slice3C (D:Dom R) (P:Program) (fr:Tr Value) (s:AS) (t:TypeId) (x:Operand) (lo:Option Operand) (hi mx:Operand) (k:Value->AS->R):R :=
 match evC s.glb fr x with
 |some (.slice (some ⟨b,off,q0⟩) n c)=>onV D (elemSize P t) fun z=>onV D (boundC s.glb fr lo 0) fun l=>onV D (boundC s.glb fr (some hi) n) fun h=>onV D (boundC s.glb fr (some mx) n) fun m=>ifB D (noView q0&&(Nat.ble l h&&Nat.ble h m&&Nat.ble m c)) (match Nat.beq m l with
  |true=>k (.slice (some ⟨b,off,some 0⟩) 0 0) s
  |false=>D.frcN (off+l*z) fun q=>D.frcN (h-l) fun n=>D.frcN (m-l) fun c=>k (.slice (some ⟨b,q,some 0⟩) n c) s)
 |some (.func (.yield 0) ⟨xs⟩ ⟨[.bool true]⟩)=>onV D (elemSize P t) fun z=>onV D (boundC s.glb fr lo 0) fun l=>onV D (boundC s.glb fr (some hi) xs.length) fun h=>onV D (boundC s.glb fr (some mx) xs.length) fun m=>ifB D (Nat.ble l h&&Nat.ble h m&&Nat.ble m xs.length&&headB z l xs) (k (imS ((xs.drop l).take (h-l))) s)
 |_=>D.bad
theorem run_slice3 {t e:TypeId}{i:TypeInfo}(ht:P.underlying t=some (.slice e)) (hi:P.info? e=some i) {x hi' mx:Operand}{lo:Option Operand}{l h m:Nat}{ad:Option Addr}{len cap:Nat}{W:World}{a:Act}(ho:o.op=.slice t x lo (some hi') (some mx)) (hx:a.eval x=.slice ad len cap)
  (hl:(lo=none∧(l:Int)=((0:Nat):Int))∨∃y k,lo=some y∧a.eval y=.int k l) (hh:∃k,a.eval hi'=.int k h) (hm:∃k,a.eval mx=.int k m) (h1:l≤h) (h2:h≤m) (h3:m≤cap) :
  (execOp a.eval o).run P W=.ok (.value (.slice (if m=l then ad else ad.map (·.add (l*i.size))) (h-l) (m-l))) W:=by
 obtain ⟨k1,hh⟩:=hh;obtain ⟨k2,hm⟩:=hm;have b1:((m:Int)≤(cap:Int)):=by omega
 have b2:((h:Int)≤(m:Int)):=by omega
 have b3:((l:Int)≤(h:Int)):=by omega
 rcases hl with ⟨rfl,hl0⟩|⟨y,k,rfl,hy⟩
 ·obtain rfl:l=0:=by omega
  simp[execOp,ho,hx,hh,hm,Instr.sliceAt,run_underlying ht,Instr.slice,Instr.sliceBounds,Instr.sliceBound,asIntOf,sizeOf,typeInfo,hi,b1,b2,h2,h3]
 ·simp[execOp,ho,hx,hh,hm,hy,Instr.sliceAt,run_underlying ht,Instr.slice,Instr.sliceBounds,Instr.sliceBound,asIntOf,sizeOf,typeInfo,hi,b1,b2,b3,h1,h2,h3]
theorem slice3C_sound {t:TypeId}{x hi mx:Operand}{lo:Option Operand}(ho:o.op=.slice t x lo (some hi) (some mx)) (h:D.T (slice3C D P fr s t x lo hi mx k)):∃u s',D.T (k u s')∧OpOk P fr o s u s':=by
 unfold slice3C at h;split at h
 ·rename_i b off q n c hx;replace h:=onV_sound h;obtain ⟨z,hz,h⟩:=h;replace h:=onV_sound h;obtain ⟨l,hlo,h⟩:=h;replace h:=onV_sound h;obtain ⟨hh,hhi,h⟩:=h;replace h:=onV_sound h;obtain ⟨m,hmx,h⟩:=h
  replace h:=ifB_sound h;obtain ⟨hb,h⟩:=h;simp only[Bool.and_eq_true] at hb;obtain ⟨hnv,hb⟩:=hb;have h1:=bR hb.1.1;have h2:=bR hb.1.2;have h3:=bR hb.2;obtain ⟨e,inf,he,hinf,rfl⟩:=elemSize_spec hz
  have run:∀(W0:World) (β:Bt) (a:Act) (W:World),OpR β s.glb fr a o->∃r sp,β b=some (r,sp)∧(execOp a.eval o).run P W=.ok (.value (.slice (if m=l then some ⟨r,off,none⟩ else some ⟨r,off+l*inf.size,none⟩) (hh-l) (m-l))) W:=fun W0 β a W hop=>by
   obtain ⟨r,sp,c',e1,e2,hc⟩:=(hop x (by simp[ho,Op.operands]) _ hx).sl_any
   rw[noView_vo hnv,Nat.zero_add] at e2;have g:∀{y:Operand}{d w:Nat},boundC s.glb fr (some y) d=some w->y∈o.op.operands->∃k,a.eval y=.int k w:=fun {y d w} hy hm=>by
    rcases boundC_is (a:=a) hy (fun z hz=>by cases hz;exact hop y hm) with ⟨h,_⟩|⟨z,k,hz,hk⟩
    ·cases h
    ·cases hz;exact ⟨k,hk⟩
   have hrun:=run_slice3 (W:=W) (a:=a) he hinf ho e2 (boundC_is (a:=a) hlo fun y hy=>hop y (by simp[ho,Op.operands,hy])) (g hhi (by simp[ho,Op.operands])) (g hmx (by simp[ho,Op.operands])) h1 h2 (by omega)
   refine ⟨r,sp,e1,?_⟩;rw[hrun];simp[add_at]
  split at h
  ·rename_i hcl;obtain rfl:=Nat.eq_of_beq_eq_true hcl;refine ⟨_,s,h,op_value fun W0 β a W hR hop=>?_⟩
   obtain ⟨r,sp,e1,e2⟩:=run W0 β a W hop;refine ⟨_,e2,?_⟩;have:hh-m=0:=by omega
   simp only[if_true,this,Nat.sub_self];exact .slc _ _ _ _ _ _ e1
  ·rename_i hcl;have hcl:m≠l:=fun e=>by subst e;simp at hcl
   simp only[D.frcN_eq] at h;refine ⟨_,s,h,op_value fun W0 β a W hR hop=>?_⟩
   obtain ⟨r,sp,e1,e2⟩:=run W0 β a W hop;refine ⟨_,e2,?_⟩;rw[if_neg hcl];exact .slc _ _ _ _ _ _ e1
 ·rename_i xs hx;replace h:=onV_sound h;obtain ⟨z,hz,h⟩:=h;replace h:=onV_sound h;obtain ⟨l,hlo,h⟩:=h;replace h:=onV_sound h;obtain ⟨hh,hhi,h⟩:=h;replace h:=onV_sound h;obtain ⟨m,hmx,h⟩:=h;replace h:=ifB_sound h
  obtain ⟨hb,h⟩:=h;simp only[Bool.and_eq_true] at hb;have h1:=bR hb.1.1.1;have h2:=bR hb.1.1.2;have h4:=bR hb.1.2;have h3:=hb.2;obtain ⟨e,inf,he,hinf,rfl⟩:=elemSize_spec hz;refine ⟨_,s,h,op_value fun W0 β a W hR hop=>?_⟩
  have blo:=boundC_is (a:=a) hlo fun y hy=>hop y (by simp[ho,Op.operands,hy])
  have g:∀{y:Operand}{d w:Nat},boundC s.glb fr (some y) d=some w->y∈o.op.operands->∃k,a.eval y=.int k w:=fun {y d w} hy hm=>by
   rcases boundC_is (a:=a) hy (fun z hz=>by cases hz;exact hop y hm) with ⟨h,_⟩|⟨z,k,hz,hk⟩
   ·cases h
   ·cases hz;exact ⟨k,hk⟩
  have bhi:=g hhi (by simp[ho,Op.operands])
  have bmx:=g hmx (by simp[ho,Op.operands])
  rcases VR.imS_inv (xs:=xs) (hop x (by simp[ho,Op.operands]) _ hx) with ⟨rfl,ad,e2⟩|⟨ws,z',r,off,c,q1,q2,q3,q4,q5,e2⟩
  ·simp only[List.length_nil,Nat.le_zero] at h4;subst h4;obtain rfl:hh=0:=by omega
   obtain rfl:l=0:=by omega
   have hrun:=run_slice3 (W:=W) (a:=a) he hinf ho e2 blo bhi bmx rL rL zL;exact ⟨_,hrun,by simpa using VR.imn ad⟩
  ·have hrun:=run_slice3 (W:=W) (a:=a) he hinf ho e2 blo bhi bmx h1 h2 (by omega)
   refine ⟨_,hrun,?_⟩;have hoff:l*inf.size=l*z':=by
    cases l with
    |zero=>simp
    |succ l =>
     cases xs with
     |nil=>simp at h4;omega
     |cons y ys =>
      have:=Nat.eq_of_beq_eq_true h3;rw[← this,q1 y (by simp)]
   simp only[Option.map_some,add_at,hoff];by_cases hcl:m=l
   ·subst hcl;have e0:hh-m=0:=by omega
    rw[if_pos rfl,e0,Nat.sub_self];have:=VR.imS_part (l:=0) (n:=0) (c:=0) q1 rL q3 q4 q5 (by omega)
    simpa using this
   ·rw[if_neg hcl];exact VR.imS_part q1 (by omega) q3 q4 q5 (by omega)
 ·exact absurd h D.nb
def keyB:TypeDesc->Value->Bool
 |.int a,.int b _=>decide (b=a)
 |.string,.string _=>true
 |.bool,.bool _=>true
 |_,_=>false
def findO (d:TypeDesc) (x:Value):List (Value×Value)->Nat->Option (Option (Nat×Value))
 |[],_=>some none
 |(y,u)::es,i=>match Instr.sameNow d x y with
  |some true=>some (some (i,u))
  |some false=>findO d x es (i+1)
  |none=>none
def MapR (β:Bt) (es:List (Value×Value)) (es':List MapEntry):Prop:=es'.length=es.length∧∀(i:Nat) (x u:Value),es[i]?=some (x,u)->∃e,es'[i]?=some e∧e.key=x∧VR β u e.val
theorem MapR.inv {β:Bt}{x u:Value}{es:List (Value×Value)}{es':List MapEntry}(h:MapR β ((x,u)::es) es'):∃e t,es'=e::t∧e.key=x∧VR β u e.val∧MapR β es t:=by
 cases es' with
 |nil=>have:=h.1;simp at this
 |cons e t =>
  obtain ⟨e',h1,h2,h3⟩:=h.2 0 x u rfl;simp at h1
  subst h1;exact ⟨e,t,rfl,h2,h3,by simpa using h.1,fun i y v hy=>by
   obtain ⟨e',k1,k2,k3⟩:=h.2 (i+1) y v (by simpa using hy)
   exact ⟨e',by simpa using k1,k2,k3⟩⟩
theorem findO_rel {β:Bt}{d:TypeDesc}{x:Value}:∀{es:List (Value×Value)}{es':List MapEntry}{i:Nat}{r:Option (Nat×Value)},MapR β es es'->findO d x es i=some r->(r=none∧Instr.findNow d x es' i=some none)∨∃j u v,r=some (i+j,u)∧Instr.findNow d x es' i=some (some (i+j,v))∧VR β u v∧∃y,es[j]?=some (y,u)∧Instr.sameNow d x y=some true
 |[],es',i,r,h,hf=>by
  obtain rfl:es'=[]:=List.eq_nil_of_length_eq_zero h.1;cases hf;exact .inl ⟨rfl,rfl⟩
 |(y,u)::es,es',i,r,h,hf=>by
  obtain ⟨e,t,rfl,h1,h2,h3⟩:=h.inv;unfold findO at hf;unfold Instr.findNow;rw[h1];split at hf
  ·rename_i hs;cases hf;exact .inr ⟨0,u,e.val,rfl,by rw[hs];rfl,h2,y,rfl,hs⟩
  ·rename_i hs;rw[hs];rcases findO_rel h3 hf with h|⟨j,u',v,e1,e2,e3,z,e4,e5⟩
   ·exact .inl h
   ·have ej:i+1+j=i+(j+1):=by omega
    rw[ej] at e1 e2;exact .inr ⟨j+1,u',v,e1,e2,e3,z,by simpa using e4,e5⟩
  ·cases hf
def isAggV:Value->Bool
 |.agg _=>true
 |_=>false
def keyC (P:Program) (kt:TypeId) (d:TypeDesc) (z:Value):Bool :=
 match d with
 |.array _ _=>isAggV z&&(pureRun P (Instr.checkKey false 10000 kt z)).isSome&&(pureRun P (Instr.checkKey true 10000 kt z)).isSome
 |d=>keyB d z
def findA (P:Program) (kt:TypeId) (z:Value):List (Value×Value)->Nat->Option (Option (Nat×Value))
 |[],_=>some none
 |(y,u)::es,i=>match pureRun P (Op.equal kt z y) with
  |some true=>match Instr.sameBits 10000 y z with
   |true=>some (some (i,u))
   |false=>none
  |some false=>natC (i+1) fun i=>findA P kt z es i
  |none=>none
def findC (P:Program) (kt:TypeId) (d:TypeDesc) (z:Value) (es:List (Value×Value)):Option (Option (Nat×Value)) :=
 match d with
 |.array _ _=>findA P kt z es 0
 |d=>findO d z es 0
theorem keyB_is {d:TypeDesc}{x:Value}(h:keyB d x=true):Go.MapKept.IsKey d x:=by
 unfold keyB at h;split at h<;>first|(cases h;done)|(simp[Go.MapKept.IsKey];done)|simpa [Go.MapKept.IsKey] using h
theorem findNow_val {d:TypeDesc}{z:Value}:∀{l:List MapEntry}{i j:Nat}{v:Value},Instr.findNow d z l i=some (some (i+j,v))->(l[j]?).map (·.val)=some v
 |[],i,j,v,h=>by cases h
 |e::l,i,j,v,h=>by
  unfold Instr.findNow at h;split at h
  ·have h:=Option.some.inj (Option.some.inj h);obtain ⟨h1,h2⟩:=Prod.mk.inj h;obtain rfl:j=0:=by omega
   simp[h2]
  ·cases j with
   |zero =>
    exfalso
    have:∀(l:List MapEntry) (i k:Nat) (v:Value),Instr.findNow d z l i=some (some (k,v))->i≤k:=by
     intro l;induction l with
     |nil=>intro i k v h;cases h
     |cons e l ih =>
      intro i k v h;unfold Instr.findNow at h;split at h
      ·have h:=Option.some.inj (Option.some.inj h);obtain ⟨h1,_⟩:=Prod.mk.inj h;omega
      ·have:=ih _ _ _ h;omega
      ·cases h
    have:=this _ _ _ _ h;omega
   |succ j =>
    have:=findNow_val (l:=l) (i:=i+1) (j:=j) (v:=v) (by rw[show i+1+j=i+(j+1) by omega];exact h)
    simpa using this
  ·cases h
theorem keyC_run {kt:TypeId}{d:TypeDesc}{z:Value}(hd:P.underlying kt=some d) (h:keyC P kt d z=true) (b:Bool) (W:World):(Instr.checkKey b 10000 kt z).run P W=.ok () W:=by
 unfold keyC at h;split at h
 ·simp only[Bool.and_eq_true,Option.isSome_iff_exists] at h;obtain ⟨⟨_,u,h1⟩,u',h2⟩:=h;cases b
  ·exact pureRun_run P _ h1 W
  ·exact pureRun_run P _ h2 W
 ·exact Go.MapKept.run_checkKey hd (keyB_is h) b 9999
def FindIs (P:Program) (β:Bt) (kt:TypeId) (z:Value) (es':List MapEntry) (s:Sem (Option (Nat×Value))) (r:Option (Nat×Value)):Prop :=
 (r=none∧∀W,s.run P W=.ok none W)∨∃j u e,r=some (j,u)∧(∀W,s.run P W=.ok (some (j,e.val)) W)∧VR β u e.val∧es'[j]?=some e∧∀W,(Instr.keyThatStays e.key z).run P W=.ok z W
theorem findA_rel {β:Bt}{kt:TypeId}{z:Value}:∀{es:List (Value×Value)}{es' pre:List MapEntry}{r:Option (Nat×Value)},MapR β es es'->findA P kt z es pre.length=some r->FindIs P β kt z (pre++es') (Instr.findAsking kt z es' pre.length) r
 |[],es',pre,r,h,hf=>by
  obtain rfl:es'=[]:=List.eq_nil_of_length_eq_zero h.1;cases hf;exact .inl ⟨rfl,fun W=>rfl⟩
 |(y,u)::es,es',pre,r,h,hf=>by
  obtain ⟨e,t,rfl,h1,h2,h3⟩:=h.inv;unfold findA at hf;split at hf
  ·rename_i hs;split at hf
   ·rename_i hb;cases hf;refine .inr ⟨_,u,e,rfl,fun W=>?_,h2,by simp,fun W=>?_⟩
    ·simp[Instr.findAsking,h1,pureRun_run P _ hs W]
    ·rw[h1];simp[Instr.keyThatStays,hb]
   ·cases hf
  ·rename_i hs;rw[natC_eq] at hf;have:=findA_rel (pre:=pre++[e]) h3 (by simpa using hf)
   rw[List.append_assoc] at this;simp only[List.singleton_append,List.length_append,List.length_singleton] at this;rcases this with ⟨q1,q2⟩|⟨j,u',e',q1,q2,q3⟩
   ·exact .inl ⟨q1,fun W=>by simp[Instr.findAsking,h1,pureRun_run P _ hs W,q2]⟩
   ·exact .inr ⟨j,u',e',q1,fun W=>by simp[Instr.findAsking,h1,pureRun_run P _ hs W,q2],q3⟩
  ·cases hf
theorem findC_rel {β:Bt}{kt:TypeId}{d:TypeDesc}{z:Value}{es:List (Value×Value)}{es':List MapEntry}{r:Option (Nat×Value)}(hd:P.underlying kt=some d) (hk:keyC P kt d z=true) (hM:MapR β es es') (hr:findC P kt d z es=some r):FindIs P β kt z es' (Instr.findKey kt z es') r:=by
 unfold findC at hr;unfold keyC at hk;split at hr
 ·rename_i n e;have hA:=findA_rel (pre:=[]) hM hr;simp only[List.nil_append,List.length_nil] at hA;have hrun:∀W,(Instr.findKey kt z es').run P W=(Instr.findAsking kt z es').run P W:=fun W=>by
   cases es' with
   |nil=>simp[Instr.findKey,run_underlying hd,Instr.findNow,Instr.findAsking]
   |cons x l=>simp[Instr.findKey,run_underlying hd,Instr.findNow,Instr.sameNow]
  rcases hA with ⟨q1,q2⟩|⟨j,u',e',q1,q2,q3⟩
  ·exact .inl ⟨q1,fun W=>by rw[hrun];exact q2 W⟩
  ·exact .inr ⟨j,u',e',q1,fun W=>by rw[hrun];exact q2 W,q3⟩
 ·rename_i hna;have hk:keyB d z=true:=by
   split at hk
   ·rename_i n e;exact absurd rfl (hna n e)
   ·exact hk
  have hkey:=keyB_is hk;rcases findO_rel hM hr with ⟨h1,h2⟩|⟨j,u,v,h1,h2,h3,w,h4,h5⟩
  ·exact .inl ⟨h1,fun W=>Go.MapKept.run_findKey hd h2⟩
  ·obtain ⟨e,k1,k2,k3⟩:=hM.2 j w u h4;have hval:e.val=v:=by
    have:=findNow_val h2;simp only[k1,Option.map_some,Option.some.injEq] at this;exact this
   refine .inr ⟨_,u,e,h1,fun W=>by rw[hval];exact Go.MapKept.run_findKey hd h2,k3,by rw[Nat.zero_add];exact k1,fun W=>?_⟩
   have hw:w=z:=by
    unfold keyB at hk;split at hk
    ·unfold Instr.sameNow at h5;split at h5<;>simp_all
    ·unfold Instr.sameNow at h5;split at h5<;>simp_all[Go.MapKept.bytes_beq]
    ·unfold Instr.sameNow at h5;split at h5<;>simp_all
    ·cases hk
   rw[k2,hw];exact Go.MapKept.run_keyThatStays hkey
def lookupC (D:Dom R) (P:Program) (fr:Tr Value) (s:AS) (t:TypeId) (x i:Operand) (ok:Bool) (k:Value->AS->R):R :=
 match evC s.glb fr x,evC s.glb fr i,P.underlying t with
 |some (.map m),some y,some (.map kt e)=>onV D (P.underlying kt) fun d=>onV D (P.info? e) fun inf=>onV D inf.zero fun z=>ifB D (keyC P kt d y&&flatV y&&flatV z) (onV D (match m with
   |none=>some []
   |some b=>match lookC s b with
    |some (.map es _ _)=>some es
    |_=>none) fun es=>onV D (findC P kt d y es) fun r=>match r,ok with
   |some (_,u),true=>k (.tuple ⟨[u,.bool true]⟩) s
   |none,true=>k (.tuple ⟨[z,.bool false]⟩) s
   |some (_,u),false=>k u s
   |none,false=>k z s)
 |some (.func (.yield 2) ⟨ps⟩ ⟨[.bool true]⟩),some y,some (.map kt e)=>onV D (P.underlying kt) fun d=>onV D (P.info? e) fun inf=>onV D inf.zero fun z=>ifB D (keyC P kt d y&&flatV y&&flatV z) (onV D (unpair ps) fun es=>onV D (findC P kt d y es) fun r=>match r,ok with
   |some (_,u),true=>k (.tuple ⟨[u,.bool true]⟩) s
   |none,true=>k (.tuple ⟨[z,.bool false]⟩) s
   |some (_,u),false=>k u s
   |none,false=>k z s)
 |_,_,_=>D.bad
theorem VR.undef' (β:Bt):VR β undef undef:=.of_flat _ rfl
theorem lookupC_sound {t:TypeId}{x i:Operand}{ok:Bool}(ho:o.op=.lookup t x i ok) (h:D.T (lookupC D P fr s t x i ok k)):∃u s',D.T (k u s')∧OpOk P fr o s u s':=by
 unfold lookupC at h;split at h
 ·rename_i m y kt e hx hi ht;replace h:=onV_sound h;obtain ⟨d,hd,h⟩:=h;replace h:=onV_sound h;obtain ⟨inf,hinf,h⟩:=h;replace h:=onV_sound h;obtain ⟨z,hz,h⟩:=h;replace h:=ifB_sound h;obtain ⟨hb,h⟩:=h
  simp only[Bool.and_eq_true] at hb;obtain ⟨⟨hk,hy⟩,hzf⟩:=hb;replace h:=onV_sound h;obtain ⟨es,hes,h⟩:=h;replace h:=onV_sound h;obtain ⟨r,hr,h⟩:=h;have hK:D.T (k (if ok then .tuple ⟨[(r.map (·.2)).getD z,.bool r.isSome]⟩ else (r.map (·.2)).getD z) s):=by
   cases r<;>cases ok<;>exact h
  refine ⟨_,s,hK,op_value fun W0 β a W hR hop=>?_⟩
  have e2:=(hop i (by simp[ho,Op.operands]) _ hi).flat_eq hy
  -- the entries there
  have:∃m' es' ,a.eval x=.map m'∧MapR β es es'.toList∧(m'=none∧es'=#[]∨∃r cl,m'=some r∧W.heap[r]?=some (.map es' cl)):=by
   cases m with
   |none =>
    cases hes;exact ⟨none,#[],(hop x (by simp[ho,Op.operands]) _ hx).flat_eq rfl,⟨rfl,fun i x u h=>by simp at h⟩,.inl ⟨rfl,rfl⟩⟩
   |some b =>
    obtain ⟨r,sp,q1,q2⟩:=(hop x (by simp[ho,Op.operands]) _ hx).map_inv
    simp only at hes
    split at hes
    ·rename_i es0 _ _ hl;cases hes;obtain ⟨es',cl,p1,p2,p3,_⟩:=hR.blk b _ r sp hl q1;exact ⟨some r,es',q2,⟨by simpa using p2,fun i x u h=>by simpa using p3 i x u h⟩,.inr ⟨r,cl,rfl,p1⟩⟩
    ·cases hes
  obtain ⟨m',es',q1,q2,q3⟩:=this;have hf:∃r',(∀W,(Instr.findKey kt y es'.toList).run P W=.ok r' W)∧((r=none∧r'=none)∨∃j u v,r=some (j,u)∧r'=some (j,v)∧VR β u v):=by
   rcases findC_rel hd hk q2 hr with ⟨h1,h2⟩|⟨j,u,e,h1,h2,h3,_⟩
   ·exact ⟨_,h2,.inl ⟨h1,rfl⟩⟩
   ·exact ⟨_,h2,.inr ⟨_,u,_,h1,rfl,h3⟩⟩
  obtain ⟨r',f1,f2⟩:=hf;have hfk:=f1 W;have hzr:(zeroValue e).run P W=.ok z W:=by simp[zeroValue,typeInfo,hinf,hz]
  have hck:∀b,(Instr.checkKey b 10000 kt y).run P W=.ok () W:=fun b=>keyC_run hd hk b W
  have hl:(Instr.lookup t (.map m') y ok).run P W=.ok (if ok then .tuple #[(r'.map (·.2)).getD z,.bool r'.isSome] else (r'.map (·.2)).getD z) W:=by
   rcases q3 with ⟨rfl,rfl⟩|⟨q,cl,rfl,hg⟩
   ·rcases r' with _|⟨j,v⟩<;>cases ok<;>simp[Instr.lookup,run_underlying ht,hck,hfk,hzr] at hfk ⊢<;>simp[hfk,hzr]
   ·rcases r' with _|⟨j,v⟩<;>cases ok<;>simp[Instr.lookup,run_underlying ht,Go.MapKept.run_getObj_map hg,hck,hfk,hzr]
  refine ⟨(if ok then .tuple #[(r'.map (·.2)).getD z,.bool r'.isSome] else (r'.map (·.2)).getD z),by simp only[execOp,ho,q1,e2,Sem.run_bind,hl,Result.andThen_ok,Sem.run_pure],?_⟩
  have hv:VR β ((r.map (·.2)).getD z) ((r'.map (·.2)).getD z)∧r.isSome=r'.isSome:=by
   rcases f2 with ⟨rfl,rfl⟩|⟨j,u,v,rfl,rfl,h3⟩
   ·exact ⟨.of_flat _ hzf,rfl⟩
   ·exact ⟨h3,rfl⟩
  cases ok with
  |false=>exact hv.1
  |true =>
   rw[hv.2];have:=VRs.cons hv.1 (.cons (.flat (.bool r'.isSome) rfl) (.nil β));exact .tup _ _ this.1 this.2
 ·rename_i ps y kt e hx hi ht;replace h:=onV_sound h;obtain ⟨d,hd,h⟩:=h;replace h:=onV_sound h;obtain ⟨inf,hinf,h⟩:=h;replace h:=onV_sound h;obtain ⟨z,hz,h⟩:=h;replace h:=ifB_sound h;obtain ⟨hb,h⟩:=h
  simp only[Bool.and_eq_true] at hb;obtain ⟨⟨hk,hy⟩,hzf⟩:=hb;replace h:=onV_sound h;obtain ⟨es,hes,h⟩:=h;replace h:=onV_sound h;obtain ⟨r,hr,h⟩:=h;have hK:D.T (k (if ok then .tuple ⟨[(r.map (·.2)).getD z,.bool r.isSome]⟩ else (r.map (·.2)).getD z) s):=by
   cases r<;>cases ok<;>exact h
  refine ⟨_,s,hK,op_value fun W0 β a W hR hop=>?_⟩
  have e2:=(hop i (by simp[ho,Op.operands]) _ hi).flat_eq hy
  -- the entries there
  obtain ⟨q,q1,hfl,q2⟩:=VR.imM_inv (ps:=ps) (hop x (by simp[ho,Op.operands]) _ hx)
  obtain ⟨es',cl,hg,hes'⟩:=fzc_mapI (hR.frz q 0 _ q1).1;have hps:=unpair_is hes;subst hps;have hM:MapR β es es'.toList:=by
   have hlen:es'.toList.length=es.length:=by
    have:=congrArg List.length hes';simpa using this
   refine ⟨hlen,fun i x u hi=>?_⟩
   have hil:=(List.getElem?_eq_some_iff.1 hi).1;have hi':i<es'.toList.length:=by rw[hlen];exact hil
   have h1:=congrArg (fun l:List Value=>l[i]?) hes'
   simp only[List.getElem?_map,hi,List.getElem?_eq_getElem hi',Option.map_some,Option.some.injEq] at h1;have h2:=pairV_inj h1;have h3:flatV u=true:=hfl (x,u) (List.mem_map.2 ⟨_,List.mem_of_getElem? hi,rfl⟩)
   refine ⟨es'.toList[i],List.getElem?_eq_getElem hi',congrArg Prod.fst h2,?_⟩;have h4:es'.toList[i].val=u:=congrArg Prod.snd h2;rw[h4];exact .of_flat _ h3
  have hf:∃r',(∀W,(Instr.findKey kt y es'.toList).run P W=.ok r' W)∧((r=none∧r'=none)∨∃j u v,r=some (j,u)∧r'=some (j,v)∧VR β u v):=by
   rcases findC_rel hd hk hM hr with ⟨h1,h2⟩|⟨j,u,e,h1,h2,h3,_⟩
   ·exact ⟨_,h2,.inl ⟨h1,rfl⟩⟩
   ·exact ⟨_,h2,.inr ⟨_,u,_,h1,rfl,h3⟩⟩
  obtain ⟨r',f1,f2⟩:=hf;have hfk:=f1 W;have hzr:(zeroValue e).run P W=.ok z W:=by simp[zeroValue,typeInfo,hinf,hz]
  have hck:∀b,(Instr.checkKey b 10000 kt y).run P W=.ok () W:=fun b=>keyC_run hd hk b W
  have hl:(Instr.lookup t (.map (some q)) y ok).run P W=.ok (if ok then .tuple #[(r'.map (·.2)).getD z,.bool r'.isSome] else (r'.map (·.2)).getD z) W:=by
   rcases r' with _|⟨j,v⟩<;>cases ok<;>simp[Instr.lookup,run_underlying ht,Go.MapKept.run_getObj_map hg,hck,hfk,hzr]
  refine ⟨(if ok then .tuple #[(r'.map (·.2)).getD z,.bool r'.isSome] else (r'.map (·.2)).getD z),by simp only[execOp,ho,q2,e2,Sem.run_bind,hl,Result.andThen_ok,Sem.run_pure],?_⟩
  have hv:VR β ((r.map (·.2)).getD z) ((r'.map (·.2)).getD z)∧r.isSome=r'.isSome:=by
   rcases f2 with ⟨rfl,rfl⟩|⟨j,u,v,rfl,rfl,h3⟩
   ·exact ⟨.of_flat _ hzf,rfl⟩
   ·exact ⟨h3,rfl⟩
  cases ok with
  |false=>exact hv.1
  |true =>
   rw[hv.2];have:=VRs.cons hv.1 (.cons (.flat (.bool r'.isSome) rfl) (.nil β));exact .tup _ _ this.1 this.2
 ·exact absurd h D.nb
def makeMapC (D:Dom R) (P:Program) (fr:Tr Value) (s:AS) (t:TypeId) (x:Option Operand) (k:Value->AS->R):R :=
 match x,P.underlying t with
 |none,_=>pushC D s (.map [] [] 0) fun n s=>k (.map (some n)) s
 |some x,some (.map _ _)=>match evC s.glb fr x with
  |some (.int _ _)=>pushC D s (.map [] [] 0) fun n s=>k (.map (some n)) s
  |_=>D.bad
 |_,_=>D.bad
theorem makeMapC_sound (hl:s.lo≤s.next) {t:TypeId}{x:Option Operand}(ho:o.op=.makeMap t x) (h:D.T (makeMapC D P fr s t x k)):∃u s',D.T (k u s')∧OpOk P fr o s u s':=by
 have fin:D.T (pushC D s (.map [] [] 0) fun n s=>k (.map (some n)) s)->(∀β a W,OpR β s.glb fr a o->(execOp a.eval o).run P W=.ok (.value (.map (some W.heap.size))) (W.alloc (.map #[] 0)))->∃u s',D.T (k u s')∧OpOk P fr o s u s':=fun h hx=>by
  rw[pushC_eq] at h;exact ⟨_,_,h,op_alloc (f:=fun n=>.map (some n)) hl (fun β n r sp hb _=>.map _ _ _ hb) fun β a W hop=>⟨_,hx β a W hop,fun β' W' _ hg=>⟨_,_,hg,rfl,fun i x u hi=>by simp at hi,rfl,rfl⟩⟩⟩
 unfold makeMapC at h;split at h
 ·exact fin h fun β a W _=>by simp[execOp,ho,run_makeMap]
 ·rename_i x kt e ht;split at h
  ·rename_i kk n hx;refine fin h fun β a W hop=>?_
   have e1:=(hop x (by simp[ho,Op.operands]) _ hx).flat_eq rfl
   have:(Instr.makeMap t (some (.int kk n))).run P W=.ok (.map (some W.heap.size)) (W.alloc (.map #[] 0)):=by
    simp[Instr.makeMap,run_underlying ht,asInt,asIntOf]
   simp[execOp,ho,e1,this]
  ·exact absurd h D.nb
 ·exact absurd h D.nb
def updateC (D:Dom R) (P:Program) (fr:Tr Value) (s:AS) (t:TypeId) (m x y:Operand) (k:Value->AS->R):R :=
 match evC s.glb fr m,evC s.glb fr x,evC s.glb fr y,P.underlying t with
 |some (.map (some b)),some z,some u,some (.map kt _)=>onV D (P.underlying kt) fun d=>ifB D (keyC P kt d z&&flatV z&&Nat.ble s.lo b) (match lookC s b with
  |some (.map es bs cl)=>onV D (findC P kt d z es) fun r=>match r with
   |none=>natC (cl+1) fun cl'=>turnC s b (some (.map (es++[(z,u)]) (bs++[cl]) cl')) fun s=>k undef s
   |some (j,_)=>turnC s b (some (.map (setL es j (z,u)) bs cl)) fun s=>k undef s
  |_=>D.bad)
 |_,_,_,_=>D.bad
theorem updateC_sound {t:TypeId}{m x y:Operand}(ho:o.op=.mapUpdate t m x y∨o.op=.insert t m x y) (h:D.T (updateC D P fr s t m x y k)):∃u s',D.T (k u s')∧OpOk P fr o s u s':=by
 unfold updateC at h;split at h
 ·rename_i b z u kt e hm hx hy ht;replace h:=onV_sound h;obtain ⟨d,hd,h⟩:=h;replace h:=ifB_sound h;obtain ⟨hb,h⟩:=h;simp only[Bool.and_eq_true] at hb;obtain ⟨⟨hk,hzf⟩,hlo⟩:=hb;have hlo:=bR hlo;split at h
  ·rename_i es bs cl0 hl;have hl':s.heap.get b=some (.map es bs cl0):=hl;replace h:=onV_sound h;obtain ⟨r,hr,h⟩:=h;have opm:m∈o.op.operands∧x∈o.op.operands∧y∈o.op.operands:=by rcases ho with ho|ho<;>simp[ho,Op.operands]
   have exec:∀(a:Act) (W W':World) (v0 v1 v2:Value),a.eval m=v0->a.eval x=v1->a.eval y=v2->(Instr.mapUpdate t v0 v1 v2).run P W=.ok () W'->(execOp a.eval o).run P W=.ok .skip W':=fun a W W' v0 v1 v2 h0 h1 h2 hrun=>by
    rcases ho with ho|ho<;>simp[execOp,ho,h0,h1,h2,hrun]
   have main:∀(es2:List (Value×Value)) (bs2:List Nat) (cl2:Nat),(∀(β:Bt) (W:World) (es':Array MapEntry) (q:Nat) (v:Value),MapR β es es'.toList->es'.toList.map (·.born)=bs->VR β u v->W.heap[q]?=some (.map es' cl0)->∃es'',(Instr.mapUpdate t (.map (some q)) z v).run P W=.ok () (W.putObj q (.map es'' cl2))∧MapR β es2 es''.toList∧es''.toList.map (·.born)=bs2) ->
     D.T (turnC s b (some (.map es2 bs2 cl2)) fun s=>k undef s)->∃u s',D.T (k u s')∧OpOk P fr o s u s':=fun es2 bs2 cl2 hup h=>by
    rw[turnC_eq] at h;refine ⟨_,_,h,Stp.turn _ (by rw[hl'];simp) hlo (by rw[hl'];simp[isLoop]),fun W0 β a W hR hfr hop=>?_⟩
    obtain ⟨q,sp,q1,q2⟩:=(hop m opm.1 _ hm).map_inv;have e1:=(hop x opm.2.1 _ hx).flat_eq hzf;have e2:=hop y opm.2.2 _ hy;obtain ⟨es',cl,p1,p2,p3,p4,rfl⟩:=hR.blk b _ q sp hl q1;obtain ⟨es'',r1,r2,r3⟩:=hup β W es' q _ ⟨by simpa using p2,fun i x u h=>by simpa using p3 i x u h⟩ p4 e2 p1
    rw[exec a W _ _ _ _ q2 e1 rfl r1];have hge:=hR.ge b q sp (by rw[hl'];simp) q1 hlo
    have hset:=Go.MapKept.heap_set (o':=.map es'' cl2) p1;refine ⟨β,.refl _ _,hR.write (by rw[hl'];simp) q1 hlo (by simp[World.putObj]) (fun j hj=>hset.2 j hj) (hR.below.grown (grownBy_putObj' W q _) hR.below.size fun i hi=>by cases hi;exact hge) ⟨es'',cl2,hset.1,by simpa using r2.1,fun i x u hi=>by simpa using r2.2 i x u hi,r3,rfl⟩,.undef' β,.write p1 (by simp) (fun j hj=>hset.2 j hj) (by simp[World.putObj])⟩
   split at h
   ·rw[natC_eq] at h;refine main _ _ _ (fun β W es' q v hM hbs hv hg=>?_) h
    rcases findC_rel hd hk hM hr with ⟨_,h1⟩|⟨j,u',e',h1,_⟩
    ·refine ⟨es'.push { key:=z,val:=v,born:=cl0 },?_,?_,by simp[hbs]⟩
     ·simp[Instr.mapUpdate,run_underlying ht,Go.MapKept.run_getObj_map hg,keyC_run hd hk,h1,Go.MapKept.run_setObj_map _ hg,Result.andThen,World.putObj]
     ·refine ⟨by simp[hM.1],fun i x' u' hi=>?_⟩
      have hMl:=hM.1;by_cases hil:i<es.length
      ·rw[List.getElem?_append_left hil] at hi;obtain ⟨e,k1,k2⟩:=hM.2 i x' u' hi;exact ⟨e,by simp only[Array.toList_push];rw[List.getElem?_append_left (by omega)];exact k1,k2⟩
      ·rw[List.getElem?_append_right (by omega)] at hi;have:i-es.length=0:=by
        have:=(List.getElem?_eq_some_iff.1 hi).1;simp at this;omega
       rw[this] at hi;simp at hi
       obtain ⟨rfl,rfl⟩:=hi;exact ⟨{ key:=z,val:=v,born:=cl0 },by simp only[Array.toList_push];rw[List.getElem?_append_right (by omega),show i-es'.toList.length=0 by omega];rfl,rfl,hv⟩
    ·cases h1
   ·rename_i j u0;refine main _ _ _ (fun β W es' q v hM hbs hv hg=>?_) h
    rcases findC_rel hd hk hM hr with ⟨h0,_⟩|⟨j',u',e,h1,h2,h5,h3,h4⟩
    ·cases h0
    ·cases h1;have h3:es'[j]?=some e:=by simpa using h3
     refine ⟨es'.modify j fun e=>{ e with key:=z,val:=v },?_,?_,?_⟩
     ·simp[Instr.mapUpdate,run_underlying ht,Go.MapKept.run_getObj_map hg,keyC_run hd hk,h2,h3,h4,Go.MapKept.run_setObj_map _ hg,Result.andThen,World.putObj]
     rotate_left
     ·rw[← hbs];refine List.ext_getElem? fun n=>?_
      simp only[List.getElem?_map,Array.getElem?_toList,Array.getElem?_modify];split<;>(cases es'[n]?<;>rfl)
     ·refine ⟨by rw[setL_eq];simp[hM.1],fun i x' u' hi=>?_⟩
      rw[setL_eq,List.getElem?_set] at hi;by_cases hij:j=i
      ·subst hij;rw[if_pos rfl] at hi;split at hi
       ·cases hi;exact ⟨{ e with key:=z,val:=v },by simp[Array.getElem?_modify,h3],rfl,hv⟩
       ·cases hi
      ·rw[if_neg hij] at hi;obtain ⟨e',k1,k2⟩:=hM.2 i x' u' hi;exact ⟨e',by simpa [Array.getElem?_modify,hij] using k1,k2⟩
  ·exact absurd h D.nb
 ·exact absurd h D.nb
theorem map_eraseIdx {α γ:Type}(f:α->γ):∀(l:List α) (j:Nat),(l.eraseIdx j).map f=(l.map f).eraseIdx j
 |[],j=>by simp
 |x::l,0=>by simp
 |x::l,j+1=>by simp[map_eraseIdx f l j]
def delArgs (c:Call):Option (TypeId×Operand×Operand) :=
 match c.callee with
 |.builtin .delete=>match c.argTypes.toList,c.args.toList with
  |t::_,[m,x]=>some (t,m,x)
  |_,_=>none
 |_=>none
def deleteC (D:Dom R) (P:Program) (fr:Tr Value) (s:AS) (t:TypeId) (m x:Operand) (k:Value->AS->R):R :=
 match evC s.glb fr m,evC s.glb fr x,P.underlying t with
 |some (.map (some b)),some z,some (.map kt _)=>onV D (P.underlying kt) fun d=>ifB D (keyC P kt d z&&flatV z&&Nat.ble s.lo b) (match lookC s b with
  |some (.map es bs cl)=>onV D (findC P kt d z es) fun r=>match r with
   |none=>turnC s b (some (.map es bs cl)) fun s=>k (.tuple ⟨[]⟩) s
   |some (j,_)=>turnC s b (some (.map (es.eraseIdx j) (bs.eraseIdx j) cl)) fun s=>k (.tuple ⟨[]⟩) s
  |_=>D.bad)
 |_,_,_=>D.bad
theorem deleteC_sound {c:Call}{t:TypeId}{m x:Operand}(ho:o.op=.call c) (hdel:delArgs c=some (t,m,x)) (h:D.T (deleteC D P fr s t m x k)):∃u s',D.T (k u s')∧OpOk P fr o s u s':=by
 have spec:c.callee=.builtin .delete∧c.args=#[m,x]∧c.argTypes[0]?=some t:=by
  unfold delArgs at hdel;split at hdel
  ·rename_i hcal;split at hdel
   ·rename_i t' _ m' x' ht' hx'
    cases hdel;exact ⟨hcal,by rw[← Array.toArray_toList (xs:=c.args),hx'],by rw[← Array.getElem?_toList,ht'];rfl⟩
   ·cases hdel
  ·cases hdel
 obtain ⟨hcal,hca,hct⟩:=spec;unfold deleteC at h;split at h
 ·rename_i b z kt e hm hx ht;replace h:=onV_sound h;obtain ⟨d,hd,h⟩:=h;replace h:=ifB_sound h;obtain ⟨hb,h⟩:=h;simp only[Bool.and_eq_true] at hb;obtain ⟨⟨hk,hzf⟩,hlo⟩:=hb;have hlo:=bR hlo;split at h
  ·rename_i es bs cl0 hl;have hl':s.heap.get b=some (.map es bs cl0):=hl;replace h:=onV_sound h;obtain ⟨r,hr,h⟩:=h;have opm:m∈o.op.operands∧x∈o.op.operands:=by simp[ho,Op.operands,Call.operands,hcal,hca]
   have exec:∀(a:Act) (W W':World) (v0 v1:Value),a.eval m=v0->a.eval x=v1->(Builtin.delete_ c.argTypes o.type #[v0,v1]).run P W=.ok (.tuple #[]) W'->(execOp a.eval o).run P W=.ok (.value (.tuple #[])) W':=fun a W W' v0 v1 h0 h1 hrun=>by
    simp[execOp,ho,resolve,hcal,invoke,builtin,hca,h0,h1,hrun]
   have main:∀(es2:List (Value×Value)) (bs2:List Nat),(∀(β:Bt) (W:World) (es':Array MapEntry) (q:Nat),MapR β es es'.toList->es'.toList.map (·.born)=bs->W.heap[q]?=some (.map es' cl0)->∃es'',(Builtin.delete_ c.argTypes o.type #[.map (some q),z]).run P W=.ok (.tuple #[]) (W.putObj q (.map es'' cl0))∧MapR β es2 es''.toList∧es''.toList.map (·.born)=bs2) ->
     D.T (turnC s b (some (.map es2 bs2 cl0)) fun s=>k (.tuple ⟨[]⟩) s)->∃u s',D.T (k u s')∧OpOk P fr o s u s':=fun es2 bs2 hup h=>by
    rw[turnC_eq] at h;refine ⟨_,_,h,Stp.turn _ (by rw[hl'];simp) hlo (by rw[hl'];simp[isLoop]),fun W0 β a W hR hfr hop=>?_⟩
    obtain ⟨q,sp,q1,q2⟩:=(hop m opm.1 _ hm).map_inv;have e1:=(hop x opm.2 _ hx).flat_eq hzf;obtain ⟨es',cl,p1,p2,p3,p4,rfl⟩:=hR.blk b _ q sp hl q1;obtain ⟨es'',r1,r2,r3⟩:=hup β W es' q ⟨by simpa using p2,fun i x u h=>by simpa using p3 i x u h⟩ p4 p1
    rw[exec a W _ _ _ q2 e1 r1];have hge:=hR.ge b q sp (by rw[hl'];simp) q1 hlo
    have hset:=Go.MapKept.heap_set (o':=.map es'' cl) p1;refine ⟨β,.refl _ _,hR.write (by rw[hl'];simp) q1 hlo (by simp[World.putObj]) (fun j hj=>hset.2 j hj) (hR.below.grown (grownBy_putObj' W q _) hR.below.size fun i hi=>by cases hi;exact hge) ⟨es'',cl,hset.1,by simpa using r2.1,fun i x u hi=>by simpa using r2.2 i x u hi,r3,rfl⟩,.of_flat _ rfl,.write p1 (by simp) (fun j hj=>hset.2 j hj) (by simp[World.putObj])⟩
   split at h
   ·refine main _ _ (fun β W es' q hM hbs hg=>?_) h
    rcases findC_rel hd hk hM hr with ⟨_,h1⟩|⟨j,u',e',h1,_⟩
    ·exact ⟨es',by simp[Builtin.delete_,hct,run_underlying ht,Go.MapKept.run_getObj_map hg,keyC_run hd hk,h1,Go.MapKept.run_setObj_map _ hg,Result.andThen,World.putObj],hM,hbs⟩
    ·cases h1
   ·rename_i j u0;refine main _ _ (fun β W es' q hM hbs hg=>?_) h
    rcases findC_rel hd hk hM hr with ⟨h0,_⟩|⟨j',u',e',h1,h2,_⟩
    ·cases h0
    ·cases h1;refine ⟨es'.eraseIdxIfInBounds j,by simp[Builtin.delete_,hct,run_underlying ht,Go.MapKept.run_getObj_map hg,keyC_run hd hk,h2,Go.MapKept.run_setObj_map _ hg,Result.andThen,World.putObj],?_,by simp[hbs.symm,map_eraseIdx]⟩
     have he:(es'.eraseIdxIfInBounds j).toList=es'.toList.eraseIdx j:=by simp
     rw[he];refine ⟨by simp[List.length_eraseIdx,hM.1],fun i x' u'' hi=>?_⟩
     rw[List.getElem?_eraseIdx] at hi ⊢;split at hi
     ·rename_i hc;rw[if_pos (by omega)];exact hM.2 _ _ _ hi
     ·rename_i hc;rw[if_neg (by omega)];exact hM.2 _ _ _ hi
  ·exact absurd h D.nb
 ·exact absurd h D.nb
def callC (D:Dom R) (P:Program) (cf:CallF R) (o:Oper) (fr:Tr Value) (s:AS) (c:Call) (k:Value->AS->R):R :=
 match c.callee with
 |.value f=>valueC D P cf o fr s f c.args.toList k
 |.invoke x name=>invokeC D P cf fr s x name c.args.toList k
 |_=>match lenArg c with
  |some (t,x)=>lenC D P cf o fr s t x k
  |none=>match appArgs c with
   |some (t,x,y)=>appendC D P fr s t x y k
   |none=>match delArgs c with
    |some (t,m,x)=>deleteC D P fr s t m x k
    |none=>exactC D P cf o fr s k
theorem callC_sound (hc:CallOk P D cf) (hl:s.lo≤s.next) {c:Call}(ho:o.op=.call c) (h:D.T (callC D P cf o fr s c k)):∃u s',D.T (k u s')∧OpOk P fr o s u s':=by
 unfold callC at h;split at h
 ·rename_i f hcal;unfold valueC at h;split at h
  ·rename_i g a b hf;split at h
   ·rename_i hen;replace h:=onV_sound h;obtain ⟨us,hus,h⟩:=h;obtain ⟨u,s',h1,h2,h3⟩:=hc.call g _ s k hl h;refine ⟨u,s',h1,h2,fun W0 β w W hR hfr hop=>?_⟩
    obtain ⟨a',b',e1,e2,e3⟩:=(hop f (by simp[ho,Op.operands,Call.operands,hcal]) _ hf).func_inv
    have e4:=evsC_sound (β:=β) (a:=w) hus fun z hz=>hop z (by simp only[ho,Op.operands,Call.operands,hcal];simp at hz ⊢;simp[hz])
    have e:execOp w.eval o=callFunc g ((⟨a'⟩:Array Value)++c.args.map w.eval++(⟨b'⟩:Array Value)):=by
     simp only[execOp,ho,resolve,hcal,e3,Deferred.ofValue];rfl
    rw[e,run_enters hen W];refine ⟨rfl,?_⟩;have ea:((⟨a'⟩:Array Value)++c.args.map w.eval++(⟨b'⟩:Array Value))=⟨a'++(c.args.toList.map w.eval++b')⟩:=by
     apply Array.ext';simp
    rw[ea];exact h3 W0 β W _ hR hfr (e1.app (e4.app e2))
   ·exact exactC_sound hc hl h
  ·rename_i l hf;replace h:=onV_sound h;obtain ⟨us,hus,h⟩:=h;obtain ⟨u,s',h1,h2,h3⟩:=hc.round l _ s k hl h;refine ⟨u,s',h1,h2,fun W0 β w W hR hfr hop=>?_⟩
   obtain ⟨r,sp,e1,e3⟩:=(hop f (by simp[ho,Op.operands,Call.operands,hcal]) _ hf).yld_inv
   have e4:=evsC_sound (β:=β) (a:=w) hus fun z hz=>hop z (by simp only[ho,Op.operands,Call.operands,hcal];simp at hz ⊢;simp[hz])
   have e:(execOp w.eval o).run P W=(Instr.yield r ⟨c.args.toList.map w.eval⟩).run P W:=by
    have ea:(c.args.map w.eval:Array Value)=⟨c.args.toList.map w.eval⟩:=by apply Array.ext';simp
    simp[execOp,ho,resolve,hcal,e3,Deferred.ofValue,invoke,ea]
   rw[e];exact h3 W0 β W _ r sp hR hfr e4 e1
  ·exact absurd h D.nb
 ·rename_i x name hcal;exact invokeC_sound hc hl ho hcal h
 ·split at h
  ·rename_i t x hlen;have lenSpec:c.callee=.builtin .len∧c.args=#[x]∧c.argTypes=#[t]:=by
    unfold lenArg at hlen;split at hlen
    ·rename_i hcal;split at hlen
     ·rename_i t' x' ht' hx'
      cases hlen;exact ⟨hcal,by rw[← Array.toArray_toList (xs:=c.args),hx'],by rw[← Array.toArray_toList (xs:=c.argTypes),ht']⟩
     ·cases hlen
    ·cases hlen
   obtain ⟨hcal,hca,hct⟩:=lenSpec;unfold lenC at h;split at h
   ·rename_i ad n cap hx;replace h:=ifB_sound h;obtain ⟨hT,h⟩:=h;rw[D.frc_eq] at h;refine ⟨_,s,h,op_value fun W0 β a W hR hop=>⟨.int .i64 n,?_,.of_flat _ rfl⟩⟩
    have e:=hop x (by simp[ho,Op.operands,Call.operands,hcal,hca]) _ hx
    have:∃ad' cap',a.eval x=.slice ad' n cap':=by
     generalize a.eval x=v at e
     cases e with
     |flat=>exact ⟨_,_,rfl⟩
     |sl=>exact ⟨_,_,rfl⟩
     |slc=>exact ⟨_,_,rfl⟩
     |vsl=>exact ⟨_,_,rfl⟩
    obtain ⟨ad',cap',hv⟩:=this;unfold isSlice at hT;split at hT
    ·rename_i e he;simp[execOp,ho,resolve,hcal,invoke,builtin,hca,hct,Builtin.len_,run_underlying he,hv,goInt]
    ·cases hT
   ·rename_i b hx;split at h
    ·rename_i kt e es _ _ he hlook;rw[D.frc_eq] at h;refine ⟨_,s,h,op_value fun W0 β a W hR hop=>⟨.int .i64 es.length,?_,.of_flat _ rfl⟩⟩
     obtain ⟨r,sp,e1,e2⟩:=(hop x (by simp[ho,Op.operands,Call.operands,hcal,hca]) _ hx).map_inv
     obtain ⟨es',cl,g1,g2,_⟩:=hR.blk b _ r sp hlook e1;simp[execOp,ho,resolve,hcal,invoke,builtin,hca,hct,Builtin.len_,run_underlying he,e2,Go.MapKept.run_getObj_map g1,goInt,g2]
    ·exact absurd h D.nb
   ·rename_i xs hx;replace h:=ifB_sound h;obtain ⟨hT,h⟩:=h;rw[D.frc_eq] at h;refine ⟨_,s,h,op_value fun W0 β a W hR hop=>⟨.int .i64 xs.length,?_,.of_flat _ rfl⟩⟩
    have:∃ad' cap',a.eval x=.slice ad' xs.length cap':=by
     rcases VR.imS_inv (xs:=xs) (hop x (by simp[ho,Op.operands,Call.operands,hcal,hca]) _ hx) with ⟨rfl,_,e⟩|⟨ws,z,r,off,c,_,_,_,_,_,e⟩
     ·exact ⟨_,_,e⟩
     ·exact ⟨_,_,e⟩
    obtain ⟨ad',cap',hv⟩:=this;unfold isSlice at hT;split at hT
    ·rename_i e he;simp[execOp,ho,resolve,hcal,invoke,builtin,hca,hct,Builtin.len_,run_underlying he,hv,goInt]
    ·cases hT
   ·exact exactC_sound hc hl h
  ·split at h
   ·rename_i t x y happ;exact appendC_sound hl ho happ h
   ·split at h
    ·rename_i t m x hdel;exact deleteC_sound ho hdel h
    ·exact exactC_sound hc hl h
def nthN:List Nat->Nat->Option Nat
 |[],_=>none
 |x::_,0=>some x
 |_::l,n+1=>nthN l n
def nthP:List (Value×Value)->Nat->Option (Value×Value)
 |[],_=>none
 |x::_,0=>some x
 |_::l,n+1=>nthP l n
theorem nthN_eq:∀(l:List Nat) (n:Nat),nthN l n=l[n]?
 |[],n=>by cases n<;>rfl
 |x::l,0=>rfl
 |x::l,n+1=>by simp[nthN,nthN_eq l n]
theorem nthP_eq:∀(l:List (Value×Value)) (n:Nat),nthP l n=l[n]?
 |[],n=>by cases n<;>rfl
 |x::l,0=>rfl
 |x::l,n+1=>by simp[nthP,nthP_eq l n]
def idxB (b:Nat):List Nat->Nat->Option Nat
 |[],_=>none
 |x::l,i=>match Nat.beq x b with
  |true=>some i
  |false=>natC (i+1) fun i=>idxB b l i
theorem idxB_find {b:Nat}:∀{l:List MapEntry}{i j:Nat},idxB b (l.map (·.born)) i=some j->∃n,j=i+n∧l.findIdx? (fun e=>e.born==b)=some n
 |[],i,j,h=>by cases h
 |e::l,i,j,h=>by
  simp only[List.map_cons,idxB] at h;split at h
  ·rename_i hb;cases h;exact ⟨0,rfl,by simp[List.findIdx?_cons,Nat.eq_of_beq_eq_true hb]⟩
  ·rename_i hb;rw[natC_eq] at h;obtain ⟨n,h1,h2⟩:=idxB_find h;have hne:(e.born==b)=false:=by simp[Nat.ne_of_beq_eq_false hb]
   exact ⟨n+1,by omega,by simp[List.findIdx?_cons,hne,h2]⟩
def rangeMapC (D:Dom R) (P:Program) (fr:Tr Value) (s:AS) (t:TypeId) (x:Operand) (k:Value->AS->R):R :=
 match evC s.glb fr x,P.underlying t with
 |some (.map (some b)),some (.map _ _)=>match lookC s b with
  |some (.map _ _ cl)=>pushC D s (.iter b cl [] cl) fun n s=>k (.pointer (some ⟨n,0,none⟩)) s
  |_=>D.bad
 |_,_=>D.bad
theorem rangeMapC_sound (hl:s.lo≤s.next) {t:TypeId}{x:Operand}(ho:o.op=.range t x) (h:D.T (rangeMapC D P fr s t x k)):∃u s',D.T (k u s')∧OpOk P fr o s u s':=by
 unfold rangeMapC at h;split at h
 ·rename_i b kt e hx ht;split at h
  ·rename_i _ _ cl hlook;rw[pushC_eq] at h;refine ⟨_,_,h,s.push_stp _ hl,fun W0 β a W hR hfr hop=>?_⟩
   have hfree:β s.next=none:=hfr s.next rL (Nat.lt_succ_self _);obtain ⟨r,sp,e1,e2⟩:=(hop x (by simp[ho,Op.operands]) _ hx).map_inv
   obtain ⟨es',cl,g1,g2,_,_,rfl⟩:=hR.blk b _ r sp hlook e1;have hrun:(execOp a.eval o).run P W=.ok (.value (.pointer (some ⟨W.heap.size,0,none⟩))) (W.alloc (.mapIter (some r) cl #[] cl)):=by
    simp[execOp,ho,e2,Instr.range,run_underlying ht,Go.MapKept.run_getObj_map g1,run_newObj_alloc]
   rw[hrun];have hle:=Bt.set_le (B:=W0.heap.size) (W.heap.size,0) hfree;refine ⟨β.set s.next (W.heap.size,0),⟨hle,fun i hi=>Bt.set_other _ _ (by
    show i≠s.next
    rcases hi with hi|hi
    ·omega
    ·have:s.next+1≤i:=hi;omega)⟩,hR.alloc hfree ⟨r,sp,hle _ _ e1,heap_new _ _⟩,.ptr _ _ _ _ (Bt.set_same _ _ _),KD.below ((Below.refl _ _).alloc rL _)⟩
  ·exact absurd h D.nb
 ·exact absurd h D.nb
def leftI (seen:List Nat):List Nat->Nat->List Nat
 |[],_=>[]
 |b::bs,i=>match seen.any (Nat.beq b) with
  |true=>natC (i+1) fun i=>leftI seen bs i
  |false=>i::natC (i+1) fun i=>leftI seen bs i
theorem leftI_mem {seen:List Nat}:∀(bs:List Nat) (i n:Nat),n∈leftI seen bs i↔∃j b,n=i+j∧bs[j]?=some b∧b∉seen
 |[],i,n=>by simp[leftI]
 |b::bs,i,n=>by
  have ha:seen.any (Nat.beq b)=true↔b∈seen:=by
   rw[List.any_eq_true];exact ⟨fun ⟨x,h1,h2⟩=>by rw[Nat.eq_of_beq_eq_true h2];exact h1,fun h=>⟨b,h,Nat.beq_refl b⟩⟩
  unfold leftI;split
  ·rename_i h;rw[natC_eq,leftI_mem bs (i+1) n];constructor
   ·rintro ⟨j,c,rfl,h1,h2⟩
    exact ⟨j+1,c,by omega,by simpa using h1,h2⟩
   ·rintro ⟨j,c,rfl,h1,h2⟩
    cases j with
    |zero=>simp at h1;subst h1;exact absurd (ha.1 h) h2
    |succ j=>exact ⟨j,c,by omega,by simpa using h1,h2⟩
  ·rename_i h;rw[natC_eq,List.mem_cons,leftI_mem bs (i+1) n];constructor
   ·rintro (rfl|⟨j,c,rfl,h1,h2⟩)
    ·exact ⟨0,b,rfl,rfl,fun hm=>by rw[ha.2 hm] at h;cases h⟩
    ·exact ⟨j+1,c,by omega,by simpa using h1,h2⟩
   ·rintro ⟨j,c,rfl,h1,h2⟩
    cases j with
    |zero=>exact .inl rfl
    |succ j=>exact .inr ⟨j,c,by omega,by simpa using h1,h2⟩
def bornB (since last:Nat) (bs:List Nat):Bool:=bs.all (fun b=>Nat.blt b since)&&Nat.ble since last
theorem next_world {W0 W:World}{β:Bt}{b m since last r sp cl:Nat}{seen bs:List Nat}{es:List (Value×Value)}(ty:TypeId) (hR:Rel P W0 β s W) (h1:s.heap.get b=some (.iter m since seen last)) (h2:s.heap.get m=some (.map es bs cl)) (hlo:s.lo≤b) (hβ:β b=some (r,sp)) (hb:bornB since last bs=true) :
  (leftI seen bs 0=[]∧(Instr.next (.pointer (some ⟨r,0,none⟩)) false ty).run P W=.ok (.tuple #[.bool false]) W) ∨
  ∃i bi x u v W',i∈leftI seen bs 0∧bs[i]?=some bi∧es[i]?=some (x,u)∧VR β u v∧(Instr.next (.pointer (some ⟨r,0,none⟩)) false ty).run P W=.ok (.tuple #[.bool true,x,v]) W' ∧
   Rel P W0 β ⟨s.heap.set b (some (.iter m since (seen++[bi]) cl)),s.next,s.lo,s.glb⟩ W'∧KD W W':=by
 simp only[bornB,Bool.and_eq_true,List.all_eq_true] at hb;obtain ⟨hall,hle⟩:=hb;have hle:=bR hle;obtain ⟨mr,q,g1,g2⟩:=hR.blk b _ r sp h1 hβ;obtain ⟨es',cl',g3,g4,g5,g6,rfl⟩:=hR.blk m _ mr q h2 g1;have hold:∀x∈es'.toList,x.born<since:=fun x hx=>by
  have:x.born∈bs:=by rw[← g6];exact List.mem_map.2 ⟨x,hx,rfl⟩
  exact of_decide_eq_true (by simpa [Nat.blt_eq] using hall _ this)
 have hat:∀(i:Nat) (e:MapEntry),es'[i]?=some e->bs[i]?=some e.born:=fun i e he=>by
  rw[← g6,List.getElem?_map,Array.getElem?_toList,he];rfl
 rcases run_next_at (P:=P) W ty r mr since last ⟨seen⟩ es' cl' g2 g3 hold hle with ⟨hz,hrun⟩|⟨e,he,w1,hw1,hrun⟩
 ·left
  refine ⟨?_,hrun⟩;cases hl:leftI seen bs 0 with
  |nil=>rfl
  |cons n t =>
   exfalso
   obtain ⟨j,c,rfl,k1,k2⟩:=(leftI_mem bs 0 n).1 (by rw[hl];simp)
   have hj:j<es'.size:=by
    have:=(List.getElem?_eq_some_iff.1 k1).1;rw[← g6] at this;simpa using this
   have hm:es'[j]∈leftOf es' ⟨seen⟩:=by
    unfold leftOf;refine Array.mem_filter.2 ⟨Array.getElem_mem hj,?_⟩;have hbj:=hat j es'[j] (Array.getElem?_eq_getElem hj);rw[k1] at hbj;cases hbj;simpa using k2
   have:leftOf es' ⟨seen⟩=#[]:=Array.eq_empty_of_size_eq_zero hz;rw[this] at hm;simp at hm
 ·right
  have hme:e∈es'∧e.born∉seen:=by
   unfold leftOf at he;have:=Array.mem_filter.1 (Array.mem_def.2 he);exact ⟨this.1,by simpa using this.2⟩
  obtain ⟨i,hi,hei⟩:=Array.getElem_of_mem hme.1;have hei':es'[i]?=some e:=by rw[Array.getElem?_eq_getElem hi,hei]
  have hil:i<es.length:=by rw[← g4];exact hi
  obtain ⟨e2,k1,k2,k3⟩:=g5 i es[i].1 es[i].2 (List.getElem?_eq_getElem hil);rw[hei'] at k1;cases k1;have hbl:Below W0.heap.size W0 w1∧Rel P W0 β s w1∧KD W w1∧w1.heap=W.heap:=by
   rcases hw1 with rfl|rfl
   ·exact ⟨hR.below,hR,.refl _,rfl⟩
   ·exact ⟨hR.below.drew,hR.later ((Below.refl _ _).drew),KD.below ((Below.refl _ _).drew),rfl⟩
  obtain ⟨hbl1,hR1,hkd,hheap⟩:=hbl;refine ⟨i,e.born,es[i].1,es[i].2,e.val,_,(leftI_mem bs 0 i).2 ⟨i,e.born,by omega,hat i e hei',hme.2⟩,hat i e hei',List.getElem?_eq_getElem hil,k3,by rw[hrun,k2],?_,?_⟩
  ·have hw:w1.heap[r]?=some (.mapIter (some mr) since ⟨seen⟩ last):=by rw[hheap];exact g2
   have hset:=Go.MapKept.heap_set (o':=.mapIter (some mr) since ((⟨seen⟩:Array Nat).push e.born) cl') hw;have hge:=hR.ge b r sp (by rw[h1];simp) hβ hlo
   exact hR1.write (by rw[h1];simp) hβ hlo (by simp[ChangeMaps.setBlock]) (fun j hj=>hset.2 j hj) (hbl1.grown (grownBy_putObj' w1 r _) hR1.below.size fun i hi=>by cases hi;exact hge) ⟨mr,q,g1,by
    have e:((⟨seen⟩:Array Nat).push e.born)=(⟨seen++[e.born]⟩:Array Nat):=by simp
    rw[← e];exact hset.1⟩
  ·have hw:w1.heap[r]?=some (.mapIter (some mr) since ⟨seen⟩ last):=by rw[hheap];exact g2
   have hset:=Go.MapKept.heap_set (o':=.mapIter (some mr) since ((⟨seen⟩:Array Nat).push e.born) cl') hw;exact hkd.trans (.write hw (by simp) (fun j hj=>hset.2 j hj) (by simp[ChangeMaps.setBlock]))
def nextC (D:Dom R) (fr:Tr Value) (s:AS) (x:Operand) (k:Value->AS->R):R :=
 match evC s.glb fr x with
 |some (.pointer (some ⟨b,0,none⟩))=>match lookC s b with
  |some (.iter m since seen last)=>match lookC s m with
   |some (.map es bs cl)=>ifB D (bornB since last bs&&Nat.ble s.lo b) (match leftI seen bs 0 with
    |[]=>k (.tuple ⟨[.bool false]⟩) s
    |[i]=>onV D (nthN bs i) fun bi=>onV D (nthP es i) fun e=>ifB D (flatV e.1) (turnC s b (some (.iter m since (seen++[bi]) cl)) fun s=>k (.tuple ⟨[.bool true,e.1,e.2]⟩) s)
    |_=>D.bad)
   |_=>D.bad
  |_=>D.bad
 |_=>D.bad
theorem nextC_sound {x:Operand}(ho:o.op=.next x false) (h:D.T (nextC D fr s x k)):∃u s',D.T (k u s')∧OpOk P fr o s u s':=by
 unfold nextC at h;split at h
 ·rename_i b hx;split at h
  ·rename_i m since seen last hlook;have hlook:s.heap.get b=some (.iter m since seen last):=hlook;split at h
   ·rename_i es bs cl hlook2;have hlook2:s.heap.get m=some (.map es bs cl):=hlook2;replace h:=ifB_sound h;obtain ⟨hb,h⟩:=h;simp only[Bool.and_eq_true] at hb;obtain ⟨hb,hlo⟩:=hb;have hlo:=bR hlo;split at h
    ·rename_i hl;refine ⟨_,s,h,op_value fun W0 β a W hR hop=>?_⟩
     obtain ⟨r,sp,e1,e2⟩:=(hop x (by simp[ho,Op.operands]) _ hx).ptr_inv
     rcases next_world o.type hR hlook hlook2 hlo e1 hb with ⟨_,hrun⟩|⟨i,bi,z,u,v,W',hi,_⟩
     ·refine ⟨.tuple ⟨[.bool false]⟩,?_,.of_flat _ rfl⟩;have hrun:=hrun;simp only[execOp,ho,e2,Nat.zero_add] at hrun ⊢;simp[hrun]
     ·rw[hl] at hi;cases hi
    ·rename_i i hl;obtain ⟨bi,hbi,h⟩:=onV_sound h;obtain ⟨e,he,h⟩:=onV_sound h;replace h:=ifB_sound h;obtain ⟨hf,h⟩:=h;rw[nthN_eq] at hbi;rw[nthP_eq] at he;rw[turnC_eq] at h;refine ⟨_,_,h,Stp.turn _ (by rw[hlook];simp) hlo (by rw[hlook];simp[isLoop]),fun W0 β a W hR hfr hop=>?_⟩
     obtain ⟨r,sp,e1,e2⟩:=(hop x (by simp[ho,Op.operands]) _ hx).ptr_inv
     rcases next_world o.type hR hlook hlook2 hlo e1 hb with ⟨hl',_⟩|⟨i',bi',z,u,v,W',hi,k1,k2,k3,hrun,k4,k5⟩
     ·rw[hl] at hl';cases hl'
     ·rw[hl] at hi;obtain rfl:i'=i:=by simpa using hi
      rw[hbi] at k1;rw[he] at k2;cases k1;cases k2;have hex:(execOp a.eval o).run P W=.ok (.value (.tuple #[.bool true,z,v])) W':=by
       simp only[execOp,ho,e2,Nat.zero_add] at hrun ⊢;simp[hrun]
      rw[hex];have hv:=VRs.cons (VR.of_flat β (u:=.bool true) rfl) (.cons (VR.of_flat β hf) (.cons k3 (.nil _)));exact ⟨β,.refl _ _,k4,.tup _ _ hv.1 hv.2,k5⟩
    ·exact absurd h D.nb
   ·exact absurd h D.nb
  ·exact absurd h D.nb
 ·exact absurd h D.nb
def entryIC (D:Dom R) (fr:Tr Value) (s:AS) (x:Operand) (k:Value->AS->R):R :=
 match evC s.glb fr x with
 |some (.pointer (some ⟨b,0,none⟩))=>match lookC s b with
  |some (.iter m since seen last)=>match lookC s m with
   |some (.map es bs cl)=>ifB D (Nat.beq cl last) (onV D seen.getLast? fun st=>onV D (idxB st bs 0) fun i=>onV D (nthP es i) fun e=>ifB D (flatV e.1) (k (.tuple ⟨[e.1,e.2]⟩) s))
   |_=>D.bad
  |_=>D.bad
 |_=>D.bad
theorem find_idx {p:MapEntry->Bool}:∀{l:List MapEntry}{n:Nat},l.findIdx? p=some n->l.find? p=l[n]?
 |[],n,h=>by simp at h
 |e::l,n,h=>by
  rw[List.findIdx?_cons] at h;cases hp:p e with
  |true=>rw[hp] at h;simp at h;subst h;simp[hp]
  |false =>
   rw[hp] at h;simp only[Bool.false_eq_true,if_false,Option.map_eq_some_iff] at h;obtain ⟨m,h1,rfl⟩:=h;simp[hp,find_idx h1]
theorem entryIC_sound {x:Operand}(ho:o.op=.entry x) (h:D.T (entryIC D fr s x k)):∃u s',D.T (k u s')∧OpOk P fr o s u s':=by
 unfold entryIC at h;split at h
 ·rename_i b hx;split at h
  ·rename_i m since seen last hlook;split at h
   ·rename_i es bs cl hlook2;replace h:=ifB_sound h;obtain ⟨hcl,h⟩:=h;obtain rfl:=Nat.eq_of_beq_eq_true hcl;obtain ⟨st,hst,h⟩:=onV_sound h;obtain ⟨i,hi,h⟩:=onV_sound h;obtain ⟨e,he,h⟩:=onV_sound h
    replace h:=ifB_sound h;obtain ⟨hf,h⟩:=h;rw[nthP_eq] at he;refine ⟨_,s,h,op_value fun W0 β a W hR hop=>?_⟩
    obtain ⟨r,sp,e1,e2⟩:=(hop x (by simp[ho,Op.operands]) _ hx).ptr_inv
    obtain ⟨mr,q,g1,g2⟩:=hR.blk b _ r sp hlook e1;obtain ⟨es',cl',g3,g4,g5,g6,rfl⟩:=hR.blk m _ mr q hlook2 g1;rw[← g6] at hi;obtain ⟨n,hn,hfi⟩:=idxB_find hi;obtain rfl:i=n:=by omega
    obtain ⟨e',k1,k2,k3⟩:=g5 i e.1 e.2 he;have hfind:es'.find? (·.born==st)=some e':=by
     rw[← Array.find?_toList,find_idx hfi];simpa using k1
    have hback:(⟨seen⟩:Array Nat).back?=some st:=by
     rw[← hst,List.getLast?_eq_getElem?];simp[Array.back?]
    refine ⟨.tuple #[e'.key,e'.val],?_,?_⟩
    ·have hgo:(getObj r).run P W=.ok (.mapIter (some mr) since ⟨seen⟩ cl') W:=by simp[getObj,Sem.run,g2]
     simp[execOp,ho,e2,Instr.entry,hgo,hback,Go.MapKept.run_getObj_map g3,hfind]
    ·rw[k2];have hv:=VRs.cons (VR.of_flat β hf) (.cons k3 (.nil _));exact .tup _ _ hv.1 hv.2
   ·exact absurd h D.nb
  ·exact absurd h D.nb
 ·exact absurd h D.nb
def entryX (D:Dom R) (P:Program) (fr:Tr Value) (gl:Nat) (blk:Blk) (t:TypeId) (x:Operand) (k:Value->Blk->R):R :=
 match evC gl fr x,P.underlying t,blk with
 |some z,some (.map kt e),.map es bs cl=>onV D (P.underlying kt) fun d=>onV D (P.info? e) fun inf=>onV D inf.zero fun zv=>ifB D (keyC P kt d z&&flatV z&&flatV zv) (onV D (findC P kt d z es) fun r=>match r with
   |none=>natC (cl+1) fun cl'=>D.frc (.int .i64 cl) fun u=>k (.tuple ⟨[zv,u]⟩) (.map (es++[(z,zv)]) (bs++[cl]) cl')
   |some (j,u)=>onV D (nthN bs j) fun bj=>D.frc (.int .i64 bj) fun n=>k (.tuple ⟨[u,n]⟩) (.map (setL es j (z,u)) bs cl))
 |_,_,_=>D.bad
theorem entryX_sound {t:TypeId}{m x:Operand}{b gl:Nat}{blk:Blk}{k:Value->Blk->R}(ho:o.op=.mapEntry t m x) (hm:evC gl fr m=some (.map (some b))) (h:D.T (entryX D P fr gl blk t x k)):∃u blk',D.T (k u blk')∧isLoop (some blk)=false∧isLoop (some blk')=false ∧
  ∀sF:AS,sF.heap.get b=some blk->sF.lo≤b->sF.glb=gl->OpOk P fr o sF u ⟨sF.heap.set b (some blk'),sF.next,sF.lo,sF.glb⟩:=by
 unfold entryX at h;split at h
 ·rename_i z kt e es bs cl0 hx ht;obtain ⟨d,hd,h⟩:=onV_sound h;obtain ⟨inf,hinf,h⟩:=onV_sound h;obtain ⟨zv,hz,h⟩:=onV_sound h;replace h:=ifB_sound h;obtain ⟨hb,h⟩:=h;simp only[Bool.and_eq_true] at hb
  obtain ⟨⟨hk,hzf⟩,hvf⟩:=hb;obtain ⟨r,hr,h⟩:=onV_sound h;have exec:∀(a:Act) (W W':World) (v v0 v1:Value),a.eval m=v0->a.eval x=v1->(Instr.mapEntry t v0 v1).run P W=.ok v W'->(execOp a.eval o).run P W=.ok (.value v) W':=fun a W W' v v0 v1 h0 h1 hrun=>by
   simp[execOp,ho,h0,h1,hrun]
  have main:∀(u:Value) (es2:List (Value×Value)) (bs2:List Nat) (cl2:Nat),(∀(β:Bt) (W:World) (es':Array MapEntry) (q:Nat),MapR β es es'.toList->es'.toList.map (·.born)=bs->W.heap[q]?=some (.map es' cl0)->∃v es'',(Instr.mapEntry t (.map (some q)) z).run P W=.ok v (W.putObj q (.map es'' cl2))∧VR β u v∧MapR β es2 es''.toList∧es''.toList.map (·.born)=bs2) ->
    ∀sF:AS,sF.heap.get b=some (.map es bs cl0)->sF.lo≤b->sF.glb=gl->OpOk P fr o sF u ⟨sF.heap.set b (some (.map es2 bs2 cl2)),sF.next,sF.lo,sF.glb⟩:=fun u es2 bs2 cl2 hup sF hl hlo hgl=>by
   refine ⟨Stp.turn _ (by rw[hl];simp) hlo (by rw[hl];simp[isLoop]),fun W0 β a W hR hfr hop=>?_⟩
   rw[hgl] at hop;obtain ⟨q,sp,q1,q2⟩:=(hop m (by simp[ho,Op.operands]) _ hm).map_inv
   have e1:=(hop x (by simp[ho,Op.operands]) _ hx).flat_eq hzf
   obtain ⟨es',cl,p1,p2,p3,p4,rfl⟩:=hR.blk b _ q sp hl q1;obtain ⟨v,es'',r1,rv,r2,r3⟩:=hup β W es' q ⟨by simpa using p2,fun i x u h=>by simpa using p3 i x u h⟩ p4 p1
   rw[exec a W _ _ _ _ q2 e1 r1];have hge:=hR.ge b q sp (by rw[hl];simp) q1 hlo
   have hset:=Go.MapKept.heap_set (o':=.map es'' cl2) p1;exact ⟨β,.refl _ _,hR.write (by rw[hl];simp) q1 hlo (by simp[World.putObj]) (fun j hj=>hset.2 j hj) (hR.below.grown (grownBy_putObj' W q _) hR.below.size fun i hi=>by cases hi;exact hge) ⟨es'',cl2,hset.1,by simpa using r2.1,fun i x u hi=>by simpa using r2.2 i x u hi,r3,rfl⟩,rv,.write p1 (by simp) (fun j hj=>hset.2 j hj) (by simp[World.putObj])⟩
  have hzr:∀W,(zeroValue e).run P W=.ok zv W:=fun W=>by simp[zeroValue,typeInfo,hinf,hz]
  split at h
  ·rw[natC_eq,D.frc_eq] at h;refine ⟨_,_,h,rfl,rfl,main _ _ _ _ fun β W es' q hM hbs hg=>?_⟩
   rcases findC_rel hd hk hM hr with ⟨_,h1⟩|⟨j,u',e',h1,_⟩
   ·refine ⟨.tuple ⟨[zv,.int .i64 cl0]⟩,es'.push { key:=z,val:=zv,born:=cl0 },?_,?_,?_,by simp[hbs]⟩
    ·simp[Instr.mapEntry,run_underlying ht,Go.MapKept.run_getObj_map hg,keyC_run hd hk,h1,hzr,Go.MapKept.run_setObj_map _ hg,Result.andThen,World.putObj,goInt]
    ·have:=VRs.cons (VR.of_flat β hvf) (.cons (.of_flat β (u:=.int .i64 cl0) rfl) (.nil _));exact .tup _ _ this.1 this.2
    ·refine ⟨by simp[hM.1],fun i x' u' hi=>?_⟩
     have hMl:=hM.1;by_cases hil:i<es.length
     ·rw[List.getElem?_append_left hil] at hi;obtain ⟨e,k1,k2⟩:=hM.2 i x' u' hi;exact ⟨e,by simp only[Array.toList_push];rw[List.getElem?_append_left (by omega)];exact k1,k2⟩
     ·rw[List.getElem?_append_right (by omega)] at hi;have:i-es.length=0:=by
       have:=(List.getElem?_eq_some_iff.1 hi).1;simp at this;omega
      rw[this] at hi;simp at hi
      obtain ⟨rfl,rfl⟩:=hi;exact ⟨{ key:=z,val:=zv,born:=cl0 },by simp only[Array.toList_push];rw[List.getElem?_append_right (by omega),show i-es'.toList.length=0 by omega];rfl,rfl,.of_flat _ hvf⟩
   ·cases h1
  ·rename_i j u0;obtain ⟨bj,hbj,h⟩:=onV_sound h;rw[nthN_eq] at hbj;rw[D.frc_eq] at h;refine ⟨_,_,h,rfl,rfl,main _ _ _ _ fun β W es' q hM hbs hg=>?_⟩
   rcases findC_rel hd hk hM hr with ⟨h0,_⟩|⟨j',u',e,h1,h2,h5,h3,h4⟩
   ·cases h0
   ·cases h1;have h3:es'[j]?=some e:=by simpa using h3
    have hborn:e.born=bj:=by
     rw[← hbs,List.getElem?_map,Array.getElem?_toList,h3] at hbj;simpa using hbj
    refine ⟨.tuple ⟨[e.val,.int .i64 bj]⟩,es'.modify j fun e=>{ e with key:=z },?_,?_,?_,?_⟩
    ·simp[Instr.mapEntry,run_underlying ht,Go.MapKept.run_getObj_map hg,keyC_run hd hk,h2,h3,h4,Go.MapKept.run_setObj_map _ hg,Result.andThen,World.putObj,goInt,hborn]
    ·have:=VRs.cons h5 (.cons (.of_flat β (u:=.int .i64 bj) rfl) (.nil _));exact .tup _ _ this.1 this.2
    ·refine ⟨by rw[setL_eq];simp[hM.1],fun i x' u' hi=>?_⟩
     rw[setL_eq,List.getElem?_set] at hi;by_cases hij:j=i
     ·subst hij;rw[if_pos rfl] at hi;split at hi
      ·cases hi;exact ⟨{ e with key:=z },by simp[Array.getElem?_modify,h3],rfl,h5⟩
      ·cases hi
     ·rw[if_neg hij] at hi;obtain ⟨e',k1,k2⟩:=hM.2 i x' u' hi;exact ⟨e',by simpa [Array.getElem?_modify,hij] using k1,k2⟩
    ·rw[← hbs];refine List.ext_getElem? fun n=>?_
     simp only[List.getElem?_map,Array.getElem?_toList,Array.getElem?_modify];split<;>(cases es'[n]?<;>rfl)
 ·exact absurd h D.nb
def entryC (D:Dom R) (P:Program) (fr:Tr Value) (s:AS) (t:TypeId) (m x:Operand) (k:Value->AS->R):R :=
 match evC s.glb fr m with
 |some (.map (some b))=>ifB D (Nat.ble s.lo b) (onV D (lookC s b) fun blk=>entryX D P fr s.glb blk t x fun u blk'=>turnC s b (some blk') fun s=>k u s)
 |_=>D.bad
theorem entryC_sound {t:TypeId}{m x:Operand}(ho:o.op=.mapEntry t m x) (h:D.T (entryC D P fr s t m x k)):∃u s',D.T (k u s')∧OpOk P fr o s u s':=by
 unfold entryC at h;split at h
 ·rename_i b hm;replace h:=ifB_sound h;obtain ⟨hlo,h⟩:=h;obtain ⟨blk,hl,h⟩:=onV_sound h;obtain ⟨u,blk',h,_,_,hop⟩:=entryX_sound ho hm h;rw[turnC_eq] at h;exact ⟨u,_,h,hop s hl (bR hlo) rfl⟩
 ·exact absurd h D.nb
def entStC (D:Dom R) (fr:Tr Value) (s:AS) (m x y:Operand) (k:Value->AS->R):R :=
 match evC s.glb fr m,evC s.glb fr x,evC s.glb fr y with
 |some (.map (some b)),some (.int .i64 (.ofNat n)),some u=>ifB D (Nat.ble s.lo b) (match lookC s b with
  |some (.map es bs cl)=>onV D (idxB n bs 0) fun j=>onV D (nthP es j) fun e=>turnC s b (some (.map (setL es j (e.1,u)) bs cl)) fun s=>k undef s
  |_=>D.bad)
 |_,_,_=>D.bad
theorem entStC_sound {t:TypeId}{m x y:Operand}(ho:o.op=.entryStore t m x y) (h:D.T (entStC D fr s m x y k)):∃u s',D.T (k u s')∧OpOk P fr o s u s':=by
 unfold entStC at h;split at h
 ·rename_i b n u hm hx hy;replace h:=ifB_sound h;obtain ⟨hlo,h⟩:=h;have hlo:=bR hlo;split at h
  ·rename_i es bs cl0 hl;have hl:s.heap.get b=some (.map es bs cl0):=hl;obtain ⟨j,hj,h⟩:=onV_sound h;obtain ⟨e0,he0,h⟩:=onV_sound h;rw[nthP_eq] at he0;rw[turnC_eq] at h;refine ⟨_,_,h,Stp.turn _ (by rw[hl];simp) hlo (by rw[hl];simp[isLoop]),fun W0 β a W hR hfr hop=>?_⟩
   obtain ⟨q,sp,q1,q2⟩:=(hop m (by simp[ho,Op.operands]) _ hm).map_inv
   have e1:=(hop x (by simp[ho,Op.operands]) _ hx).flat_eq rfl
   have e2:=hop y (by simp[ho,Op.operands]) _ hy
   obtain ⟨es',cl,p1,p2,p3,p4,rfl⟩:=hR.blk b _ q sp hl q1;rw[← p4] at hj;obtain ⟨j',hj1,hj2⟩:=idxB_find hj;obtain rfl:j=j':=by omega
   have hfi:es'.findIdx? (fun e=>(e.born:Int)==(n:Int))=some j:=by
    rw[show es'=es'.toList.toArray by simp,List.findIdx?_toArray,← hj2];congr 1
    funext e
    have:((e.born:Int)=(n:Int))↔e.born=n:=by omega
    by_cases hc:e.born=n
    ·simp[hc]
    ·have hc':¬((e.born:Int)=(n:Int)):=fun h=>hc (this.1 h)
     rw[beq_eq_false_iff_ne.2 hc',beq_eq_false_iff_ne.2 hc]
   have hrun:(execOp a.eval o).run P W=.ok .skip (W.putObj q (.map (es'.modify j fun e=>{ e with val:=a.eval y }) cl)):=by
    simp[execOp,ho,q2,e1,Instr.entryStore,Go.MapKept.run_getObj_map p1,asInt,asIntOf,hfi,Go.MapKept.run_setObj_map _ p1,Result.andThen,World.putObj]
   rw[hrun];have hge:=hR.ge b q sp (by rw[hl];simp) q1 hlo
   have hset:=Go.MapKept.heap_set (o':=.map (es'.modify j fun e=>{ e with val:=a.eval y }) cl) p1
   refine ⟨β,.refl _ _,hR.write (by rw[hl];simp) q1 hlo (by simp[World.putObj]) (fun j hj=>hset.2 j hj) (hR.below.grown (grownBy_putObj' W q _) hR.below.size fun i hi=>by cases hi;exact hge) ⟨_,cl,hset.1,by rw[setL_eq];simp[p2],fun i x' u' hi=>?_,?_,rfl⟩,.undef' β,.write p1 (by simp) (fun j hj=>hset.2 j hj) (by simp[World.putObj])⟩
   ·rw[setL_eq,List.getElem?_set] at hi;by_cases hij:j=i
    ·subst hij;rw[if_pos rfl] at hi;split at hi
     ·cases hi;obtain ⟨e,k1,k2,k3⟩:=p3 j e0.1 e0.2 he0;exact ⟨{ e with val:=a.eval y },by simp[Array.getElem?_modify,k1],k2,e2⟩
     ·cases hi
    ·rw[if_neg hij] at hi;obtain ⟨e',k1,k2⟩:=p3 i x' u' hi;exact ⟨e',by simpa [Array.getElem?_modify,hij] using k1,k2⟩
   ·rw[← p4];refine List.ext_getElem? fun n=>?_
    simp only[List.getElem?_map,Array.getElem?_toList,Array.getElem?_modify];split<;>(cases es'[n]?<;>rfl)
  ·exact absurd h D.nb
 ·exact absurd h D.nb
def opC (D:Dom R) (P:Program) (cf:CallF R) (o:Oper) (fr:Tr Value) (s:AS) (k:Value->AS->R):R :=
 match o.op with
 |.move x=>moveC D fr s x k
 |.assign x=>moveC D fr s x k
 |.pick c x y=>pickC D fr s c x y k
 |.load t x=>loadC D P fr s t x k
 |.store t x y=>storeOpC D P fr s t x y k
 |.binOp op t x y _=>binC D P cf o fr s op t x y k
 |.indexAddr t x i=>indexAddrC D P cf o fr s t x i k
 |.index t x i=>indexC D P cf o fr s t x i k
 |.slice t x lo hi none=>sliceC D P cf o fr s t x lo hi k
 |.slice t x lo (some hi) (some mx)=>slice3C D P fr s t x lo hi mx k
 |.lookup t x i ok=>lookupC D P fr s t x i ok k
 |.makeMap t x=>makeMapC D P fr s t x k
 |.range t x=>rangeMapC D P fr s t x k
 |.next x false=>nextC D fr s x k
 |.mapUpdate t m x y=>updateC D P fr s t m x y k
 |.insert t m x y=>updateC D P fr s t m x y k
 |.mapEntry t m x=>entryC D P fr s t m x k
 |.entryStore _ m x y=>entStC D fr s m x y k
 |.entry x=>entryIC D fr s x k
 |.field t x f=>fieldC D P fr s t x f k
 |.fieldAddr t x f=>fieldAddrC D P cf o fr s t x f k
 |.nilCheck x=>nilC D P cf o fr s x k
 |.extract x i=>extractC D fr s x i k
 |.makeInterface t x=>makeIfaceC D P fr s t x k
 |.typeAssert x _ t ok=>assertC D P fr s x t ok k
 |.build t ps=>buildC D P fr s t ps k
 |.buildSlice t n ps=>buildSliceC D P fr s t n ps k
 |.alloc t=>allocC D P s t k
 |.box t x=>boxC D P fr s t x k
 |.makeSlice t x y=>makeSliceC D P fr s t x y k
 |.makeFunc (.func g) a b=>makeFuncC D fr s g a b k
 |.call c=>callC D P cf o fr s c k
 |_=>exactC D P cf o fr s k
theorem opC_sound (hc:CallOk P D cf) (hl:s.lo≤s.next) (h:D.T (opC D P cf o fr s k)):∃u s',D.T (k u s')∧OpOk P fr o s u s':=by
 unfold opC at h;split at h<;>rename_i ho
 ·exact moveC_sound (.inl ho) h
 ·exact moveC_sound (.inr ho) h
 ·exact pickC_sound ho h
 ·exact loadC_sound ho h
 ·exact storeOpC_sound ho h
 ·exact binC_sound hc hl ho h
 ·exact indexAddrC_sound hc hl ho h
 ·exact indexC_sound hc hl ho h
 ·exact sliceC_sound hc hl ho h
 ·exact slice3C_sound ho h
 ·exact lookupC_sound ho h
 ·exact makeMapC_sound hl ho h
 ·exact rangeMapC_sound hl ho h
 ·exact nextC_sound ho h
 ·exact updateC_sound (.inl ho) h
 ·exact updateC_sound (.inr ho) h
 ·exact entryC_sound ho h
 ·exact entStC_sound ho h
 ·exact entryIC_sound ho h
 ·exact fieldC_sound ho h
 ·exact fieldAddrC_sound ho h
 ·exact nilC_sound hc hl ho h
 ·exact extractC_sound ho h
 ·exact makeIfaceC_sound ho h
 ·exact assertC_sound ho h
 ·exact buildC_sound ho h
 ·exact buildSliceC_sound hl ho h
 ·exact allocC_sound hl ho h
 ·exact boxC_sound hl ho h
 ·exact makeSliceC_sound hl ho h
 ·exact makeFuncC_sound ho h
 ·exact callC_sound hc hl ho h
 ·exact exactC_sound hc hl h
end Go.Proofs.YtcihknonfcldeaaDoor.U
