
import Derived.Test.YtcihknonfcldeaaDoorKT18
namespace Go.Proofs.YtcihknonfcldeaaDoor.U
open Go Go.RowKit Go.Sort
set_option linter.unusedVariables false
set_option linter.unusedSimpArgs false
set_option maxRecDepth 100000
set_option maxHeartbeats 40000000
structure Ren where
 f:Nat->Nat
 F:Value->Value->Prop
instance:CoeFun Ren (fun _=>Nat->Nat):=⟨Ren.f⟩
inductive RenV (n:Nat) (ρ:Ren):Value->Value->Prop where
 |ext (u v:Value) (h:ρ.F u v):RenV n ρ u v
 |clean (u v:Value) (h:NoNm u) (e:u=v):RenV n ρ u v
 |ptr (k k' off:Nat) (hk:k<n) (e:ρ k=k'):RenV n ρ (.pointer (some ⟨k,off,none⟩)) (.pointer (some ⟨k',off,none⟩))
 |sl (k k' off m m' c c':Nat) (hk:k<n) (e:ρ k=k') (hm:m=m') (hc:c=c'):RenV n ρ (.slice (some ⟨k,off,none⟩) m c) (.slice (some ⟨k',off,none⟩) m' c')
 |yld (k k':Nat) (hk:k<n) (e:ρ k=k'):RenV n ρ (.func (.yield k) ⟨[]⟩ ⟨[]⟩) (.func (.yield k') ⟨[]⟩ ⟨[]⟩)
 |mp (k k':Nat) (hk:k<n) (e:ρ k=k'):RenV n ρ (.map (some k)) (.map (some k'))
 |agg (l m:List Value) (hl:l.length=m.length) (h:∀(i:Nat) (a b:Value),l[i]?=some a->m[i]?=some b->RenV n ρ a b):RenV n ρ (.agg ⟨l⟩) (.agg ⟨m⟩)
 |tup (l m:List Value) (hl:l.length=m.length) (h:∀(i:Nat) (a b:Value),l[i]?=some a->m[i]?=some b->RenV n ρ a b):RenV n ρ (.tuple ⟨l⟩) (.tuple ⟨m⟩)
 |ifc (t:TypeId) (u v:Value) (h:RenV n ρ u v):RenV n ρ (.iface t u) (.iface t v)
 |fn (g:FuncId) (a a' b b':List Value) (ha:a.length=a'.length) (hb:b.length=b'.length) (h1:∀(i:Nat) (u v:Value),a[i]?=some u->a'[i]?=some v->RenV n ρ u v) (h2:∀(i:Nat) (u v:Value),b[i]?=some u->b'[i]?=some v->RenV n ρ u v):RenV n ρ (.func (.func g) ⟨a⟩ ⟨b⟩) (.func (.func g) ⟨a'⟩ ⟨b'⟩)
theorem RenV.P {n:Nat}{ρ:Ren}{k k' off:Nat}(e:ρ k=k') (hk:k<n:=by decide):RenV n ρ (.pointer (some ⟨k,off,none⟩)) (.pointer (some ⟨k',off,none⟩)):=.ptr k k' off hk e
theorem RenV.S {n:Nat}{ρ:Ren}{k k' off m m' c c':Nat}(e:ρ k=k') (hm:m=m') (hc:c=c') (hk:k<n:=by decide):RenV n ρ (.slice (some ⟨k,off,none⟩) m c) (.slice (some ⟨k',off,none⟩) m' c'):=.sl k k' off m m' c c' hk e hm hc
theorem RenV.F {n:Nat}{ρ:Ren}{u v:Value}(h:flatV u=true) (e:u=v):RenV n ρ u v:=.clean u v (.flat _ h) e
theorem RenV.I {n:Nat}{ρ:Ren}{x:Int}:RenV n ρ (.int .i64 x) (.int .i64 x):=.clean _ _ (.flat _ rfl) rfl
theorem RenV.rel {n:Nat}{ρ:Ren}{u1 u v:Value}(h:RenV n ρ u1 u) {β β1:Bt}(hz:∀r o x,β.z r o=some x->β1.z r o=some x) (hE:∀u1 u v,ρ.F u1 u->VR β u v->VR β1 u1 v) (hm:∀k,k<n->β1 k=β (ρ k)) (hv:VR β u v):VR β1 u1 v:=by
 induction h generalizing v with
 |ext _ _ h=>exact hE _ _ _ h hv
 |agg l m hl _ ih =>
  obtain ⟨l',e1,rfl⟩:=hv.agg_inv;refine .agg l l' (hl.trans e1.1) fun i a v ha hv=>?_
  have hi:i<m.length:=by rw[← hl];exact (List.getElem?_eq_some_iff.1 ha).1
  exact ih i a m[i] ha (List.getElem?_eq_getElem hi) (e1.2 i _ v (List.getElem?_eq_getElem hi) hv)
 |tup l m hl _ ih =>
  obtain ⟨l',e1,rfl⟩:=hv.tup_inv;refine .tup l l' (hl.trans e1.1) fun i a v ha hv=>?_
  have hi:i<m.length:=by rw[← hl];exact (List.getElem?_eq_some_iff.1 ha).1
  exact ih i a m[i] ha (List.getElem?_eq_getElem hi) (e1.2 i _ v (List.getElem?_eq_getElem hi) hv)
 |clean _ _ h e=>subst e;exact VR.growX (β:=⟨fun _=>none,β.z⟩) (β':=β1) ⟨fun k x hk=>(by cases hk),hz⟩ (h.rel hv)
 |ptr k k' off hk e =>
  obtain ⟨r,sp,e1,rfl⟩:=hv.ptr_inv;exact .ptr k r sp off (by rw[hm k hk,e];exact e1)
 |sl k k' off m m' c c' hk e e2 e3 =>
  subst e2;subst e3;obtain ⟨r,sp,e1,rfl⟩:=hv.sl_inv;exact .sl k r sp off m c (by rw[hm k hk,e];exact e1)
 |yld k k' hk e =>
  obtain ⟨r,sp,e1,rfl⟩:=hv.yld_inv;exact .yld k r sp (by rw[hm k hk,e];exact e1)
 |mp k k' hk e =>
  obtain ⟨r,sp,e1,rfl⟩:=hv.map_inv;exact .map k r sp (by rw[hm k hk,e];exact e1)
 |ifc t u v _ ih =>
  obtain ⟨v',e1,rfl⟩:=hv.ifc_inv;exact .ifc t u v' (ih e1)
 |fn g a a' b b' ha hb _ _ i1 i2 =>
  obtain ⟨a1,b1,e1,e2,rfl⟩:=hv.func_inv;refine .func g a a1 b b1 (ha.trans e1.1) (hb.trans e2.1) (fun i u v hu hv=>?_) fun i u v hu hv=>?_
  ·have hi:i<a'.length:=by rw[← ha];exact (List.getElem?_eq_some_iff.1 hu).1
   exact i1 i u a'[i] hu (List.getElem?_eq_getElem hi) (e1.2 i _ v (List.getElem?_eq_getElem hi) hv)
  ·have hi:i<b'.length:=by rw[← hb];exact (List.getElem?_eq_some_iff.1 hu).1
   exact i2 i u b'[i] hu (List.getElem?_eq_getElem hi) (e2.2 i _ v (List.getElem?_eq_getElem hi) hv)
theorem RenV.one {n:Nat}{ρ:Ren}{u1 u:Value}(h:RenV n ρ u1 u) (hE1:∀u1 u,ρ.F u1 u->u1.oneCell'=true) (hu:u.oneCell'=true):u1.oneCell'=true:=by
 cases h with
 |ext _ _ h=>exact hE1 _ _ h
 |clean _ _ h e=>subst e;exact hu
 |ptr=>rfl
 |sl=>rfl
 |yld=>rfl
 |mp=>rfl
 |ifc=>rfl
 |fn=>rfl
 |agg l m=>simp[Value.oneCell'] at hu
 |tup l m=>first|exact hu|simp[Value.oneCell'] at hu
def RenL (n:Nat) (ρ:Ren):List Value->List Value->Prop
 |[],[]=>True
 |a::l,b::m=>RenV n ρ a b∧RenL n ρ l m
 |_,_=>False
theorem RenL.at_ {n:Nat}{ρ:Ren}:∀{l m:List Value},RenL n ρ l m->l.length=m.length∧∀(i:Nat) (a:Value),l[i]?=some a->∃b,m[i]?=some b∧RenV n ρ a b
 |[],[],_=>⟨rfl,fun i a h=>by simp at h⟩
 |[],b::m,h=>absurd h id
 |a::l,[],h=>absurd h id
 |a::l,b::m,h=>by
  obtain ⟨h1,h2⟩:=RenL.at_ h.2;refine ⟨by simp[h1],fun i c hc=>?_⟩
  cases i with
  |zero=>simp at hc;subst hc;exact ⟨b,rfl,h.1⟩
  |succ i=>simp at hc;obtain ⟨d,e1,e2⟩:=h2 i c hc;exact ⟨d,by simpa using e1,e2⟩
theorem RenV.aggL {n:Nat}{ρ:Ren}{l m:List Value}(h:RenL n ρ l m):RenV n ρ (.agg ⟨l⟩) (.agg ⟨m⟩):=by
 obtain ⟨h1,h2⟩:=h.at_;refine .agg l m h1 fun i a b ha hb=>?_
 obtain ⟨b',e1,e2⟩:=h2 i a ha;rw[hb] at e1;cases e1;exact e2
inductive RenB (n:Nat) (ρ:Ren):Blk->Blk->Prop where
 |cells (T:TypeId) (xs1 xs:List Value) (op:Bool) (h:RenL n ρ xs1 xs):RenB n ρ (.cells T xs1 op) (.cells T xs op)
 |row (T:TypeId) (xs1 xs:List Value) (op:Bool) (h:∀x,x∈xs1->NoNm x) (e:xs1=xs):RenB n ρ (.cells T xs1 op) (.cells T xs op)
 |loop (st:LoopState) (pe:Option Code) (fr1 fr:Tr Value) (N:Nat) (ps:List Tmp) (asg bo:Code) (h:∀t u,Tr.at (pt t) fr1=some u->∃v,Tr.at (pt t) fr=some v∧RenV n ρ u v):RenB n ρ (.loop st pe fr1 N ps asg bo) (.loop st pe fr N ps asg bo)
 |map (es:List (Value×Value)) (bs:List Nat) (cl:Nat) (h:∀e∈es,NoNm e.2):RenB n ρ (.map es bs cl) (.map es bs cl)
 |iter (m m' since:Nat) (seen:List Nat) (last:Nat) (hm:m<n) (e:ρ m=m'):RenB n ρ (.iter m since seen last) (.iter m' since seen last)
theorem RenB.rel {P:Program}{n:Nat}{ρ:Ren}{b1 b:Blk}(h:RenB n ρ b1 b) {β β1:Bt}(hz:∀r o x,β.z r o=some x->β1.z r o=some x) (hE:∀u1 u v,ρ.F u1 u->VR β u v->VR β1 u1 v) (hE1:∀u1 u,ρ.F u1 u->u1.oneCell'=true) (hm:∀k,k<n->β1 k=β (ρ k)) {W:World}{r sp:Nat}{q q':Prop}(hq:q'->q) (hb:BlkR P β W r sp q b):BlkR P β1 W r sp q' b1:=by
 have key:∀(T:TypeId) (xs1 xs:List Value) (op:Bool),xs1.length=xs.length->(∀(i:Nat) (a:Value),xs1[i]?=some a->∃b,xs[i]?=some b∧RenV n ρ a b)->BlkR P β W r sp q (.cells T xs op)->BlkR P β1 W r sp q' (.cells T xs1 op):=by
  rintro T xs1 xs op hl h ⟨cs,fz,g1,g2,g3,g4,g5⟩
  refine ⟨cs,fz,g1,fun h=>g2 (hq h),g3,by rw[g4,hl],fun i u hu=>?_⟩
  obtain ⟨b,e1,e2⟩:=h i u hu;obtain ⟨e3,v,e4,e5⟩:=g5 i b e1;exact ⟨e2.one hE1 e3,v,e4,e2.rel hz hE hm e5⟩
 cases h with
 |cells T xs1 xs op h=>obtain ⟨h1,h2⟩:=h.at_;exact key T xs1 xs op h1 h2 hb
 |row T xs1 xs op h e=>subst e;exact key T xs1 xs1 op rfl (fun i a ha=>⟨a,ha,.clean a a (h a (List.mem_of_getElem? ha)) rfl⟩) hb
 |loop st pe fr1 fr N ps asg bo h =>
  obtain ⟨L,g1,g2,g3,g4,g5,g6,g7,g8,g9⟩:=hb;refine ⟨L,g1,g2,g3,g4,g5,g6,g7,fun t u hu=>?_,fun t ht=>?_⟩
  ·obtain ⟨v,e1,e2⟩:=h t u hu;exact e2.rel hz hE hm (g8 t v e1)
  ·obtain ⟨u,hu⟩:=Option.ne_none_iff_exists'.1 ht;obtain ⟨v,e1,e2⟩:=h t u hu;exact g9 t (by rw[e1];simp)
 |map es bs cl h =>
  obtain ⟨es',cl',g1,g2,g3,g4,g5⟩:=hb;refine ⟨es',cl',g1,g2,fun i x u hu=>?_,g4,g5⟩
  obtain ⟨e,e1,e2,e3⟩:=g3 i x u hu;exact ⟨e,e1,e2,(RenV.clean u u (h _ (List.mem_of_getElem? hu)) rfl:RenV n ρ u u).rel hz hE hm e3⟩
 |iter m m' since seen last hm' e =>
  obtain ⟨mr,q0,g1,g2⟩:=hb;exact ⟨mr,q0,by rw[hm m hm',show ρ m=m' from e];exact g1,g2⟩
def slotsRen (fr:Tr Value) (n:Nat) (ρ:Ren):List (Nat×Value)->Prop
 |[]=>True
 |x::l=>(∃u,Tr.at (pt x.1) fr=some u∧RenV n ρ x.2 u)∧slotsRen fr n ρ l
theorem slotsRen.all {fr:Tr Value}{n:Nat}{ρ:Ren}:∀{l:List (Nat×Value)},slotsRen fr n ρ l->∀x∈l,∃u,Tr.at (pt x.1) fr=some u∧RenV n ρ x.2 u
 |[],_,x,hx=>by cases hx
 |y::l,hl,x,hx=>by
  rcases List.mem_cons.1 hx with rfl|hx
  ·exact hl.1
  ·exact slotsRen.all hl.2 x hx
theorem mkF_mem:∀{l:List (Nat×Value)}{t:Nat}{u:Value},Tr.at (pt t) (mkF l)=some u->(t,u)∈l
 |[],t,u,h=>by
  have:(mkF []).get t=none:=Tr.get_e t;rw[show Tr.at (pt t) (mkF [])=(mkF []).get t from rfl,this] at h
  cases h
 |x::l,t,u,h=>by
  have e:(mkF (x::l)).get t=if t=x.1 then some x.2 else (mkF l).get t:=Tr.get_set _ _ _ _
  rw[show Tr.at (pt t) (mkF (x::l))=(mkF (x::l)).get t from rfl,e] at h;split at h
  ·rename_i ht;subst ht;cases h;exact List.mem_cons_self ..
  ·exact List.mem_cons_of_mem _ (mkF_mem h)
def keysB (ρ:Nat->Nat) (lo n:Nat) (ks:List Nat):Bool:=ks.all fun k=>decide (k<n)&&decide (lo≤k->lo≤ρ k)&&ks.all fun k'=>decide (ρ k=ρ k'->k=k')
theorem keysB.all {ρ:Nat->Nat}{lo n:Nat}{ks:List Nat}(h:keysB ρ lo n ks=true):∀k∈ks,k<n∧(lo≤k->lo≤ρ k)∧∀k'∈ks,ρ k=ρ k'->k=k':=fun k hk=>by
 have:=List.all_eq_true.1 h k hk;simp only[Bool.and_eq_true,decide_eq_true_eq] at this;exact ⟨this.1.1,this.1.2,fun k' hk'=>of_decide_eq_true (List.all_eq_true.1 this.2 k' hk')⟩
def mkO:List (Nat×Option Blk)->Tr Blk
 |[]=>.e
 |x::l=>(mkO l).set x.1 x.2
theorem mkO_get:∀{l:List (Nat×Option Blk)}{k:Nat}{b:Blk},(mkO l).get k=some b->(k,some b)∈l
 |[],k,b,h=>by
  rw[mkO,Tr.get_e] at h;cases h
 |x::l,k,b,h=>by
  rw[mkO,Tr.get_set] at h;split at h
  ·rename_i hk;subst hk;have:x=(x.1,some b):=by rw[← h]
   rw[← this];exact List.mem_cons_self ..
  ·exact List.mem_cons_of_mem _ (mkO_get h)
def blksO (h:Tr Blk) (n:Nat) (ρ:Ren):List (Nat×Option Blk)->Prop
 |[]=>True
 |x::l=>(∀b,x.2=some b->∃b',Tr.at (pt (ρ x.1)) h=some b'∧RenB n ρ b b')∧blksO h n ρ l
theorem blksO.all {h:Tr Blk}{n:Nat}{ρ:Ren}:∀{l:List (Nat×Option Blk)},blksO h n ρ l->∀x∈l,∀b,x.2=some b->∃b',Tr.at (pt (ρ x.1)) h=some b'∧RenB n ρ b b'
 |[],_,x,hx=>by cases hx
 |y::l,hl,x,hx=>by
  rcases List.mem_cons.1 hx with rfl|hx
  ·exact hl.1
  ·exact blksO.all hl.2 x hx
theorem Cov.renO {P:Program}{N n0:Nat}{fr:Tr Value}{s:AS}(ρ:Nat->Nat) {l:List (Nat×Value)}{hl:List (Nat×Option Blk)}{n lo glb:Nat}(e1:lo=s.lo) (e2:glb=s.glb) (hn:n0≤n) (hg:glb≤n0) (hρ:∀k,k<n0->ρ k=k)
  (hkeys:keysB ρ lo n (hl.map (·.1))=true) (hkeep:∀k,k<lo->(mkO hl).get k=s.heap.get k) (hb:blksO s.heap n ⟨ρ,fun _ _=>False⟩ hl) (hf:slotsRen fr n ⟨ρ,fun _ _=>False⟩ l):Cov P N n0 fr s (mkF l) ⟨mkO hl,n,lo,glb⟩:=by
 subst e1;subst e2;have hkeys:=keysB.all hkeys;have hget:∀k b,(mkO hl).get k=some b->k∈hl.map (·.1)∧∃b',s.heap.get (ρ k)=some b'∧RenB n ⟨ρ,fun _ _=>False⟩ b b':=fun k b h=>by
  have hm:=mkO_get h;exact ⟨List.mem_map.2 ⟨_,hm,rfl⟩,hb.all _ hm b rfl⟩
 have hne:∀k,(mkO hl).get k≠none->k∈hl.map (·.1)∧s.heap.get (ρ k)≠none:=fun k h=>by
  obtain ⟨b,hbk⟩:=Option.ne_none_iff_exists'.1 h;obtain ⟨q1,b',q2,_⟩:=hget k b hbk;exact ⟨q1,by rw[q2];simp⟩
 refine ⟨rfl,rfl,hn,hkeep,fun W0 β W a hR hfa hF=>?_⟩
 let β1:Bt:=⟨fun k=>if k<n then β (ρ k) else none,β.z⟩
 have hm:∀k,k<n->β1 k=β (ρ k):=fun k hk=>by
  show (if k<n then _ else _)=_
  rw[if_pos hk]
 have hm':∀k x,β1 k=some x->k<n∧β (ρ k)=some x:=fun k x hx=>by
  have hx:(if k<n then β (ρ k) else none)=some x:=hx
  split at hx
  ·rename_i h;exact ⟨h,hx⟩
  ·cases hx
 refine ⟨β1,fun k hk=>by rw[hm k (by omega),hρ k hk],fun k hk=>?_,.refl _ _,⟨?_,?_,?_,?_,?_,hR.below,?_,?_⟩,hF.size,fun t u hu=>?_,fun t ht=>?_⟩
 ·show (if k<n then _ else _)=_
  rw[if_neg (by have:n≤k:=hk;omega)]
 ·intro k b r sp hk hr;obtain ⟨q0,b',q1,q2⟩:=hget k b hk;exact q2.rel (β:=β) (β1:=β1) (fun _ _ _ h=>h) (fun _ _ _ h=>absurd h id) (fun _ _ h=>absurd h id) hm (hkeys k q0).2.1 (hR.blk (ρ k) b' r sp q1 (hm' k _ hr).2)
 ·intro k k' r sp sp' hlo hk hk' hr hr'
  obtain ⟨q0,q1⟩:=hne k hk;obtain ⟨p0,p1⟩:=hne k' hk';exact (hkeys k q0).2.2 k' p0 (hR.inj (ρ k) (ρ k') r sp sp' ((hkeys k q0).2.1 hlo) q1 p1 (hm' k _ hr).2 (hm' k' _ hr').2)
 ·intro k hk;exact (hkeys k (hne k hk).1).1
 ·intro k r sp hr;exact hR.lt (ρ k) r sp (hm' k _ hr).2
 ·intro k r sp hk hr hlo;obtain ⟨q0,q1⟩:=hne k hk;exact hR.ge (ρ k) r sp q1 (hm' k _ hr).2 ((hkeys k q0).2.1 hlo)
 ·intro g hgl;have hgl:g<s.glb:=hgl;rw[hm g (by omega),hρ g (by omega)];exact hR.glob g hgl
 ·intro r o v hv;obtain ⟨q1,q2⟩:=hR.frz r o v hv;refine ⟨q1,fun k sp hlo hk hr=>?_⟩
  obtain ⟨p0,p1⟩:=hne k hk;exact q2 (ρ k) sp ((hkeys k p0).2.1 hlo) p1 (hm' k _ hr).2
 ·obtain ⟨v,q1,q2⟩:=hf.all _ (mkF_mem hu);exact q2.rel (β:=β) (β1:=β1) (fun _ _ _ h=>h) (fun _ _ _ h=>absurd h id) hm (hF.at_ t v q1)
 ·obtain ⟨u,hu⟩:=Option.ne_none_iff_exists'.1 ht;obtain ⟨v,q1,q2⟩:=hf.all _ (mkF_mem hu);exact hF.lt t (by rw[q1];simp)
theorem Cov.renI {P:Program}{N n0:Nat}{fr:Tr Value}{s:AS}{l:List (Nat×Value)}{hl:List (Nat×Option Blk)}{n:Nat}(e1:0=s.lo) (e2:0=s.glb) (hn:Nat.ble n0 n=true) (hkeys:keysB (fun k=>k) 0 n (hl.map (·.1))=true) (hb:blksO s.heap n ⟨fun k=>k,fun _ _=>False⟩ hl) (hf:slotsRen fr n ⟨fun k=>k,fun _ _=>False⟩ l):Cov P N n0 fr s (mkF l) ⟨mkO hl,n,0,0⟩:=Cov.renO (fun k=>k) e1 e2 (bR hn) zL (fun _ _=>rfl) hkeys nlz hb hf
theorem catC_p {l m:List Value}{k:List Value->Prop}(h:k (l++m)):catC l m k:=by rw[catC_eq];exact h
theorem takeC_eq {R:Type}(D:Dom R):∀(n:Nat) (l:List Value) (k:List Value->R),n≤l.length->takeC D n l k=k (l.take n)
 |0,l,k,_=>rfl
 |n+1,[],k,h=>by simp at h
 |n+1,x::l,k,h=>by
  show takeC D n l (fun m=>k (x::m))=_
  rw[takeC_eq D n l _ (by simpa using h)];rfl
theorem storeC_p {n:Nat}{vs l:List Value}{k:List Value->Prop}(hn:n+vs.length≤l.length) (h:k (l.take n++vs++l.drop (n+vs.length))):storeC propX.toDom l n vs k:=by rw[storeC_eq _ _ _ _ hn];exact h
theorem slotsRen.nil {fr:Tr Value}{n:Nat}{ρ:Ren}:slotsRen fr n ρ []:=trivial
theorem slotsRen.cons {fr:Tr Value}{n:Nat}{ρ:Ren}{k:Nat}{u u':Value}{l:List (Nat×Value)}(h1:Tr.at (pt k) fr=some u') (h2:RenV n ρ u u') (h3:slotsRen fr n ρ l):slotsRen fr n ρ ((k,u)::l):=⟨⟨u',h1,h2⟩,h3⟩
theorem RenL.nil {n:Nat}{ρ:Ren}:RenL n ρ [] []:=trivial
theorem RenL.cons {n:Nat}{ρ:Ren}{a b:Value}{l m:List Value}(h1:RenV n ρ a b) (h2:RenL n ρ l m):RenL n ρ (a::l) (b::m):=⟨h1,h2⟩
theorem drawX_p {R:Type}{D:DomX R}{P:Program}{cf:CallF R}{cx:CallFX R}{N:Nat}{ops:List Oper}{fr:Tr Value}{s:AS}{kp:Value->AS->R}{k:Tr Value->AS->R}(n:Nat) (e:List Nat) (h1:headN ops ops.length=some n) (h2:earlyL ops.toArray n=e) (h:D.T (opsHX D.toDom P cf N ops e 0 (ops.take n) [] fr s fun fr s news=>setAllC news s fun s=>opsX D P cf cx N ops kp (ops.drop n) fr s k)):D.T (drawX D P cf cx N ops fr s kp k):=by
 unfold drawX;refine D.alt_l _ _ ?_;unfold drawXN;rw[h1];show D.T (drawXAt D P cf cx N ops n [] fr s kp k)
 unfold drawXAt;rw[h2];exact h
theorem takeA_p {n:Nat}{l:List Value}{k:List Value->Prop}(hn:l.length=n) (h:k l):takeC propX.toDom n l k:=by rw[takeC_eq _ _ _ _ (Nat.le_of_eq hn.symm),List.take_of_length_le (Nat.le_of_eq hn)];exact h
theorem growRow_p {n z lo b:Nat}{xs news:List Value}{K:List Value->Prop}(hl:xs.length=n*z) (hb:Nat.ble lo b=true) (h:K (xs++news)):takeC propX.toDom (n*z) (dropL xs 0) fun olds=>ifB propX.toDom (Nat.beq 0 0&&Nat.beq n n&&Nat.beq xs.length (n*z)&&Nat.ble lo b) (catC olds news K):=by
 rw[dropL_eq];refine takeA_p hl ⟨?_,?_⟩
 ·rw[hl,hb];simp
 ·rw[catC_eq];exact h
theorem ble_f (n:Nat):Nat.ble (n+(0+1)) n=false:=Bool.eq_false_iff.2 fun h=>by have:=bR h;omega
theorem drawX_m {R:Type}{D:DomX R}{P:Program}{cf:CallF R}{cx:CallFX R}{N:Nat}{ops:List Oper}{fr:Tr Value}{s:AS}{kp:Value->AS->R}{k:Tr Value->AS->R}(n:Nat) (e:List Nat) (h0:headN ops ops.length=none) (h1:headM ops (ops.length+1) 0=some n) (h2:earlyL ops.toArray n=e)
  (h:D.T (opsC D.toDom P cf N ops (ops.take n) fr s fun fr1 _=>mutsC D.toDom fr1 s (ops.take n) fun M=>ifB D.toDom (mutsOk s M) (killC M s fun s0=>opsHX D.toDom P cf N ops e 0 (ops.take n) (M.map fun x=>(x.1,x.2,none)) fr s0 fun fr s news=>setAllC news s fun s=>opsX D P cf cx N ops kp (ops.drop n) fr s k))):D.T (drawX D P cf cx N ops fr s kp k):=by
 unfold drawX;refine D.alt_l _ _ ?_;unfold drawXN;rw[h0,h1];simp only[drawXAt,h2];exact h
def rowS (b:Nat):List Value->Value
 |[]=>.slice none 0 0
 |_::l=>.slice (some ⟨b,0,none⟩) (l.length+1) (l.length+1)
def rowO (T:TypeId):List Value->Option Blk
 |[]=>none
 |y::l=>some (.cells T (cellsAll (y::l)) true)
theorem blksO.nil {h:Tr Blk}{n:Nat}{ρ:Ren}:blksO h n ρ []:=trivial
theorem blksO.cons {h:Tr Blk}{n:Nat}{ρ:Ren}{k:Nat}{b b':Blk}{l:List (Nat×Option Blk)}(h1:Tr.at (pt (ρ k)) h=some b') (h2:RenB n ρ b b') (h3:blksO h n ρ l):blksO h n ρ ((k,some b)::l):=⟨fun x hx=>by cases hx;exact ⟨b',h1,h2⟩,h3⟩
theorem blksO.none {h:Tr Blk}{n:Nat}{ρ:Ren}{k:Nat}{l:List (Nat×Option Blk)}(h3:blksO h n ρ l):blksO h n ρ ((k,.none)::l):=⟨fun x hx=>(by cases hx),h3⟩
theorem blksO.C {h:Tr Blk}{n:Nat}{ρ:Ren}{k:Nat}{T:TypeId}{xs1 xs:List Value}{op:Bool}{l:List (Nat×Option Blk)}(h1:Tr.at (pt (ρ k)) h=some (.cells T xs op)) (h2:RenL n ρ xs1 xs) (h3:blksO h n ρ l):blksO h n ρ ((k,some (.cells T xs1 op))::l):=.cons h1 (.cells _ _ _ _ h2) h3
theorem blksO.W {h:Tr Blk}{n:Nat}{ρ:Ren}{k:Nat}{T:TypeId}{xs1 xs:List Value}{op:Bool}{l:List (Nat×Option Blk)}(h1:Tr.at (pt (ρ k)) h=some (.cells T xs op)) (h2:∀x,x∈xs1->NoNm x) (e:xs1=xs) (h3:blksO h n ρ l):blksO h n ρ ((k,some (.cells T xs1 op))::l):=.cons h1 (.row _ _ _ _ h2 e) h3
theorem slotsRen.K {fr:Tr Value}{n:Nat}{ρ:Ren}{k:Nat}{u u':Value}{l:List (Nat×Value)}(h1:Tr.at (pt k) fr=some u') (h2:flatV u=true) (e:u=u') (h3:slotsRen fr n ρ l):slotsRen fr n ρ ((k,u)::l):=.cons h1 (.clean _ _ (.flat _ h2) e) h3
theorem slotsRen.L {fr:Tr Value}{n:Nat}{ρ:Ren}{k:Nat}{u u':Value}{l:List (Nat×Value)}(h1:Tr.at (pt k) fr=some u') (h2:NoNm u) (e:u=u') (h3:slotsRen fr n ρ l):slotsRen fr n ρ ((k,u)::l):=.cons h1 (.clean _ _ h2 e) h3
theorem RenL.K {n:Nat}{ρ:Ren}{a b:Value}{l m:List Value}(h:flatV a=true) (e:a=b) (h2:RenL n ρ l m):RenL n ρ (a::l) (b::m):=.cons (.clean _ _ (.flat _ h) e) h2
theorem RenL.L {n:Nat}{ρ:Ren}{a b:Value}{l m:List Value}(h:NoNm a) (e:a=b) (h2:RenL n ρ l m):RenL n ρ (a::l) (b::m):=.cons (.clean _ _ h e) h2
theorem blksO.row {h:Tr Blk}{n:Nat}{ρ:Ren}{k:Nat}{T:TypeId}{ys ys':List Value}{l:List (Nat×Option Blk)}(h1:Tr.at (pt (ρ k)) h=rowO T ys') (e:ys=ys') (h2:∀x,x∈cellsAll ys->NoNm x) (h3:blksO h n ρ l):blksO h n ρ ((k,rowO T ys)::l):=by
 subst e;refine ⟨fun x hx=>⟨x,by rw[h1];exact hx,?_⟩,h3⟩
 cases ys with
 |nil=>cases hx
 |cons y m=>cases hx;exact .row _ _ _ _ h2 rfl
theorem blksO.grown {h:Tr Blk}{n:Nat}{ρ:Ren}{k:Nat}{T:TypeId}{ys xs:List Value}{l:List (Nat×Option Blk)}(h1:Tr.at (pt (ρ k)) h=some (.cells T xs true)) (e:cellsAll ys=xs) (h2:∀x,x∈cellsAll ys->NoNm x) (h3:blksO h n ρ l):blksO h n ρ ((k,rowO T ys)::l):=by
 refine ⟨fun x hx=>⟨.cells T xs true,h1,?_⟩,h3⟩
 cases ys with
 |nil=>cases hx
 |cons y m=>cases hx;exact .row _ _ _ _ h2 e
theorem RenL.refl {n:Nat}{ρ:Ren}:∀{l:List Value},(∀x,x∈l->NoNm x)->RenL n ρ l l
 |[],_=>trivial
 |a::l,h=>⟨.clean a a (h a (by simp)) rfl,RenL.refl fun x hx=>h x (by simp[hx])⟩
theorem RenL.app {n:Nat}{ρ:Ren}:∀{l m l' m':List Value},RenL n ρ l m->RenL n ρ l' m'->RenL n ρ (l++l') (m++m')
 |[],[],_,_,_,h=>h
 |[],b::m,_,_,h,_=>absurd h id
 |a::l,[],_,_,h,_=>absurd h id
 |a::l,b::m,_,_,h,h'=>⟨h.1,RenL.app h.2 h'⟩
theorem blksO.grownL {h:Tr Blk}{n:Nat}{ρ:Ren}{k:Nat}{T:TypeId}{ys xs:List Value}{l:List (Nat×Option Blk)}(h1:Tr.at (pt (ρ k)) h=some (.cells T xs true)) (e:RenL n ρ (cellsAll ys) xs) (h3:blksO h n ρ l):blksO h n ρ ((k,rowO T ys)::l):=by
 refine ⟨fun x hx=>⟨.cells T xs true,h1,?_⟩,h3⟩
 cases ys with
 |nil=>cases hx
 |cons y m=>cases hx;exact .cells _ _ _ _ e
theorem RenV.ofRow {n:Nat}{ρ:Ren}{b b':Nat}{ys ys':List Value}(hb:b<n) (e:ρ b=b') (e2:ys=ys'):RenV n ρ (rowS b ys) (rowS b' ys'):=by
 subst e2;cases ys with
 |nil=>exact .F rfl rfl
 |cons y l=>exact .sl _ _ _ _ _ _ _ hb e rfl rfl
theorem RenV.grown {n:Nat}{ρ:Ren}{b b' m c:Nat}{ys:List Value}(hb:b<n) (e:ρ b=b') (h0:ys≠[]) (e2:ys.length=m) (e3:ys.length=c):RenV n ρ (rowS b ys) (.slice (some ⟨b',0,none⟩) m c):=by
 cases ys with
 |nil=>exact absurd rfl h0
 |cons y l=>exact .sl _ _ _ _ _ _ _ hb e e2 e3
theorem Cov.frz {P:Program}{N n0:Nat}{fr:Tr Value}{s:AS}(ρ:Nat->Nat) (kf z:Nat) {T:TypeId}{ys:List Value}{l:List (Nat×Value)}{hl:List (Nat×Option Blk)}{n lo glb:Nat}(e1:lo=s.lo) (e2:glb=s.glb) (hn:n0≤n) (hg:glb≤n0) (hρ:∀k,k<n0->ρ k=k)
  (hkeys:keysB ρ lo n (hl.map (·.1))=true) (hkeep:∀k,k<lo->(mkO hl).get k=s.heap.get k) (hkf:s.lo≤kf) (hno:((hl.map (·.1)).all fun k=>decide (ρ k≠kf))=true) (hk:Tr.at (pt kf) s.heap=rowO T ys) (hz:∀y,y∈ys->(cellsOf y).length=z) (hc:∀x,x∈cellsAll ys->NoNm x)
  (hb:blksO s.heap n ⟨ρ,fun u1 u=>u1=imS ys∧u=rowS kf ys⟩ hl) (hf:slotsRen fr n ⟨ρ,fun u1 u=>u1=imS ys∧u=rowS kf ys⟩ l):Cov P N n0 fr s (mkF l) ⟨mkO hl,n,lo,glb⟩:=by
 subst e1;subst e2;have hkeys:=keysB.all hkeys;have hget:∀k b,(mkO hl).get k=some b->k∈hl.map (·.1)∧∃b',s.heap.get (ρ k)=some b'∧RenB n ⟨ρ,fun u1 u=>u1=imS ys∧u=rowS kf ys⟩ b b':=fun k b h=>by
  have hm:=mkO_get h;exact ⟨List.mem_map.2 ⟨_,hm,rfl⟩,hb.all _ hm b rfl⟩
 have hne:∀k,(mkO hl).get k≠none->k∈hl.map (·.1)∧s.heap.get (ρ k)≠none:=fun k h=>by
  obtain ⟨b,hbk⟩:=Option.ne_none_iff_exists'.1 h;obtain ⟨q1,b',q2,_⟩:=hget k b hbk;exact ⟨q1,by rw[q2];simp⟩
 have hno:∀k∈hl.map (·.1),ρ k≠kf:=fun k h=>of_decide_eq_true (List.all_eq_true.1 hno k h)
 refine ⟨rfl,rfl,hn,hkeep,fun W0 β W a hR hfa hF=>?_⟩
 let zf:Nat->Nat->Option Value:=fun r o=>match β kf with
  |some x=>if r=x.1∧o<(cellsAll ys).length then fzc W ⟨r,o,none⟩ else β.z r o
  |none=>β.z r o
 let β1:Bt:=⟨fun k=>if k<n then β (ρ k) else none,zf⟩
 have hzg:∀r o x,β.z r o=some x->zf r o=some x:=fun r o x hx=>by
  show (match β kf with|some y=>if r=y.1∧o<(cellsAll ys).length then fzc W ⟨r,o,none⟩ else β.z r o|none=>β.z r o)=_
  split
  ·split
   ·exact (hR.frz r o x hx).1
   ·exact hx
  ·exact hx
 have hzo:∀r o x,zf r o=some x->β.z r o=some x∨(∃sp,β kf=some (r,sp)∧o<(cellsAll ys).length∧fzc W ⟨r,o,none⟩=some x):=fun r o x hx=>by
  have hx:(match β kf with|some y=>if r=y.1∧o<(cellsAll ys).length then fzc W ⟨r,o,none⟩ else β.z r o|none=>β.z r o)=some x:=hx
  split at hx
  ·rename_i y hy;split at hx
   ·rename_i hc;obtain ⟨y1,y2⟩:=y;obtain ⟨rfl,hc⟩:=hc;exact .inr ⟨y2,hy,hc,hx⟩
   ·exact .inl hx
  ·exact .inl hx
 have hkn:∀o,o<(cellsAll ys).length->s.heap.get kf≠none:=fun o ho h0=>by
  have hk:s.heap.get kf=rowO T ys:=hk;rw[h0] at hk;cases ys with
  |nil=>simp[cellsAll] at ho
  |cons y m=>cases hk
 have hm:∀k,k<n->β1 k=β (ρ k):=fun k hk=>by
  show (if k<n then _ else _)=_
  rw[if_pos hk]
 have hm':∀k x,β1 k=some x->k<n∧β (ρ k)=some x:=fun k x hx=>by
  have hx:(if k<n then β (ρ k) else none)=some x:=hx
  split at hx
  ·rename_i h;exact ⟨h,hx⟩
  ·cases hx
 have hE:∀u1 u v,(u1=imS ys∧u=rowS kf ys)->VR β u v->VR β1 u1 v:=by
  rintro u1 u v ⟨rfl,rfl⟩ hv
  cases ys with
  |nil=>rw[hv.flat1_eq rfl];exact .imn
  |cons y m =>
   obtain ⟨r,sp,q1,rfl⟩:=VR.sl_inv (k:=kf) (off:=0) (n:=m.length+1) (c:=m.length+1) hv;obtain ⟨cs,fz,g1,_,_,g4,g5,g6,g7,g8⟩:=(hR.blk kf _ r sp hk q1).real;refine .ims (y::m) (cs.toList.take (cellsAll (y::m)).length) z r 0 (m.length+1+sp) hz (by simp) g5.1.symm (fun i v hv=>?_) (fun i u v hu hv=>?_) g7
   ·rw[Nat.zero_add];show zf r i=some v
    have hi:=(List.getElem?_eq_some_iff.1 hv).1;rw[← g5.1] at hi;show (match β kf with|some y'=>if r=y'.1∧i<(cellsAll (y::m)).length then fzc W ⟨r,i,none⟩ else β.z r i|none=>β.z r i)=_
    rw[q1];simp only[hi,and_self,if_true];exact cell_fzc (g8 i v hv) (g7 v (List.mem_of_getElem? hv))
   ·have:=(hc u (List.mem_of_getElem? hu)).rel (g5.2 i u v hu hv);exact VR.growX (β:=⟨fun _=>none,β.z⟩) (β':=β1) ⟨fun k x hk=>(by cases hk),hzg⟩ this
 have hE1:∀u1 u,(u1=imS ys∧u=rowS kf ys)->u1.oneCell'=true:=by
  rintro u1 u ⟨rfl,rfl⟩;rfl
 refine ⟨β1,fun k hk=>by rw[hm k (by omega),hρ k hk],fun k hk=>?_,⟨hzg,fun r o v hv=>?_⟩,⟨?_,?_,?_,?_,?_,hR.below,?_,?_⟩,hF.size,fun t u hu=>?_,fun t ht=>?_⟩
 ·show (if k<n then _ else _)=_
  rw[if_neg (by have:n≤k:=hk;omega)]
 ·rcases hzo r o v hv with h|⟨sp,h1,h2,_⟩
  ·exact .inl h
  ·exact .inr (hR.ge kf r sp (hkn o h2) h1 hkf)
 ·intro k b r sp hk hr;obtain ⟨q0,b',q1,q2⟩:=hget k b hk;exact q2.rel (β:=β) (β1:=β1) hzg hE hE1 hm (hkeys k q0).2.1 (hR.blk (ρ k) b' r sp q1 (hm' k _ hr).2)
 ·intro k k' r sp sp' hlo hk hk' hr hr'
  obtain ⟨q0,q1⟩:=hne k hk;obtain ⟨p0,p1⟩:=hne k' hk';exact (hkeys k q0).2.2 k' p0 (hR.inj (ρ k) (ρ k') r sp sp' ((hkeys k q0).2.1 hlo) q1 p1 (hm' k _ hr).2 (hm' k' _ hr').2)
 ·intro k hk;exact (hkeys k (hne k hk).1).1
 ·intro k r sp hr;exact hR.lt (ρ k) r sp (hm' k _ hr).2
 ·intro k r sp hk hr hlo;obtain ⟨q0,q1⟩:=hne k hk;exact hR.ge (ρ k) r sp q1 (hm' k _ hr).2 ((hkeys k q0).2.1 hlo)
 ·intro g hgl;have hgl:g<s.glb:=hgl;rw[hm g (by omega),hρ g (by omega)];exact hR.glob g hgl
 ·intro r o v hv;rcases hzo r o v hv with h|⟨sp0,h1,h2,h3⟩
  ·obtain ⟨q1,q2⟩:=hR.frz r o v h;refine ⟨q1,fun k sp hlo hk hr=>?_⟩
   obtain ⟨p0,p1⟩:=hne k hk;exact q2 (ρ k) sp ((hkeys k p0).2.1 hlo) p1 (hm' k _ hr).2
  ·refine ⟨h3,fun k sp hlo hk hr=>?_⟩
   obtain ⟨p0,p1⟩:=hne k hk;exact hno k p0 (hR.inj kf (ρ k) r sp0 sp hkf (hkn o h2) p1 h1 (hm' k _ hr).2).symm
 ·obtain ⟨v,q1,q2⟩:=hf.all _ (mkF_mem hu);exact q2.rel (β:=β) (β1:=β1) hzg hE hm (hF.at_ t v q1)
 ·obtain ⟨u,hu⟩:=Option.ne_none_iff_exists'.1 ht;obtain ⟨v,q1,q2⟩:=hf.all _ (mkF_mem hu);exact hF.lt t (by rw[q1];simp)
def FrzL (P:Program) (s:AS):List Value->List Value->Prop
 |[],[]=>True
 |a::l,b::m=>FrzV P s a b∧FrzL P s l m
 |_,_=>False
theorem FrzL.nil {P:Program}{s:AS}:FrzL P s [] []:=trivial
theorem FrzL.cons {P:Program}{s:AS}{a b:Value}{l m:List Value}(h1:FrzV P s a b) (h2:FrzL P s l m):FrzL P s (a::l) (b::m):=⟨h1,h2⟩
theorem FrzL.at_ {P:Program}{s:AS}:∀{l m:List Value},FrzL P s l m->l.length=m.length∧∀(i:Nat) (u v:Value),l[i]?=some u->m[i]?=some v->FrzV P s u v
 |[],[],_=>⟨rfl,fun i u v h=>by simp at h⟩
 |[],b::m,h=>absurd h id
 |a::l,[],h=>absurd h id
 |a::l,b::m,h=>by
  obtain ⟨h1,h2⟩:=FrzL.at_ h.2;refine ⟨by simp[h1],fun i u v hu hv=>?_⟩
  cases i with
  |zero=>simp at hu hv;subst hu;subst hv;exact h.1
  |succ i=>simp at hu hv;exact h2 i u v hu hv
theorem FrzV.aggL {P:Program}{s:AS}{l m:List Value}(h:FrzL P s l m):FrzV P s (.agg ⟨l⟩) (.agg ⟨m⟩):=.agg l m h.at_.1 h.at_.2
theorem FrzV.tupL {P:Program}{s:AS}{l m:List Value}(h:FrzL P s l m):FrzV P s (.tuple ⟨l⟩) (.tuple ⟨m⟩):=.tup l m h.at_.1 h.at_.2
theorem FrzV.rowL {P:Program}{s:AS}{k n c z:Nat}{T:TypeId}{xs ys:List Value}{op:Bool}(hlo:s.lo≤k) (hk:Tr.at (pt k) s.heap=some (.cells T xs op)) (e:xs=cellsAll ys) (hz:∀y,y∈ys->(cellsOf y).length=z) (hn:n=ys.length) (hc:n≤c) (h:∀x,x∈cellsAll ys->NoNm x):FrzV P s (.slice (some ⟨k,0,none⟩) n c) (imS ys):=by
 subst e;refine .row k n c z T (cellsAll ys) ys op hlo hk hz hn hc rL fun i u v hu hv=>?_
 rw[hu] at hv;cases hv;exact .clean u (h u (List.mem_of_getElem? hu))
theorem FrzV.ofRow {P:Program}{s:AS}{b z:Nat}{T:TypeId}{ys:List Value}(hlo:s.lo≤b) (hk:Tr.at (pt b) s.heap=rowO T ys) (hz:∀y,y∈ys->(cellsOf y).length=z) (h:∀x,x∈cellsAll ys->NoNm x):FrzV P s (rowS b ys) (imS ys):=by
 cases ys with
 |nil=>exact .nil
 |cons y l=>exact .rowL hlo hk rfl hz rfl rL h
theorem lt_yes {α:Type}{en:List α->List Value}{f:α->Value}(he:∀l,en l=l.map f) (pre:List α) (x:α) (post:List α):decide (((pre.length:Nat):Int)<((en (pre++x::post)).length:Int))=true:=by
 rw[he,List.length_map,List.length_append,List.length_cons,decide_eq_true_eq];omega
theorem lt_no {α:Type}{en:List α->List Value}{f:α->Value}(he:∀l,en l=l.map f) (pre:List α):decide (((pre.length:Nat):Int)<((en pre).length:Int))=false:=by
 rw[he,List.length_map,decide_eq_false_iff_not];omega
theorem blt_yes {α:Type}{en:List α->List Value}{f:α->Value}(he:∀l,en l=l.map f) (pre:List α) (x:α) (post:List α):Nat.blt pre.length (en (pre++x::post)).length=true:=bLe (by
 rw[he,List.length_map,List.length_append,List.length_cons];omega)
theorem nth_in {α:Type}(x:α):∀(l m:List α),nth (l++x::m) l.length=some x
 |[],m=>rfl
 |y::l,m=>nth_in x l m
theorem nth_at {α:Type}{en:List α->List Value}{f:α->Value}(he:∀l,en l=l.map f) (pre:List α) (x:α) (post:List α):nth (en (pre++x::post)) pre.length=some (f x):=by
 have:=nth_in (f x) (pre.map f) (post.map f);rw[List.length_map] at this;rw[he,List.map_append,List.map_cons];exact this
theorem len_snoc {α:Type}{pre post:List α}{x:α}(h:(pre++x::post).length≤9223372036854775807):IntKind.i64.wrap ((pre.length:Int)+1)=((pre++[x]).length:Int):=by
 rw[List.length_append,List.length_cons] at h;rw[IntKind.wrap_i64,List.length_append,List.length_singleton];omega
theorem at4 {α:Type}{en:List α->List Value}{f:α->Value}(he:∀l,en l=l.map f) (pre:List α) (x:α) (post:List α) (h:(pre++x::post).length≤9223372036854775807):decide (((pre.length:Nat):Int)<((en (pre++x::post)).length:Int))=true∧Nat.blt pre.length (en (pre++x::post)).length=true∧nth (en (pre++x::post)) pre.length=some (f x)∧IntKind.i64.wrap ((pre.length:Int)+1)=((pre++[x]).length:Int):=⟨lt_yes he pre x post,blt_yes he pre x post,nth_at he pre x post,len_snoc h⟩
end Go.Proofs.YtcihknonfcldeaaDoor.U
