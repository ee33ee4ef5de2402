
import Derived.Test.YtcihknonfcldeaaDoorKT17
namespace Go.Proofs.YtcihknonfcldeaaDoor.U
open Go Go.RowKit Go.Sort
set_option linter.unusedVariables false
set_option linter.unusedSimpArgs false
set_option maxRecDepth 100000
set_option maxHeartbeats 40000000
def propX:DomX Prop:={ propD with
 all:=fun l f=>∀i∈l,f i
 all_ok:=fun l f h=>h
 alt:=fun a _=>a
 alt_ok:=fun _ _ h=>.inl h
 alt_l:=fun _ _ h=>h
 loop:=fun P N c body k n fr s=>LoopRule (fun p=>p) P N (fun fr s k=>body fr s k∨CodeT (fun p=>p) P N c fr s k) k fr s
 loop_ok:=fun P N c body k n fr s hl hb h=>loopT_sound (T:=fun p:Prop=>p) (body:=fun fr s k=>body fr s k∨CodeT (fun p=>p) P N c fr s k) (fun fr s k hl h=>Or.elim h (hb fr s k hl) (fun h=>h)) hl h }
theorem loop_inv {P:Program}{N:Nat}{body C:Tr Value->AS->KontC Prop->Prop}{k:KontC Prop}{fr:Tr Value}{s:AS}{α:Type}(I:α->Prop) (f:α->Tr Value×AS) (μ:α->Nat) (a0:α) (hI:I a0) (h0:Cov P N s.next fr s (f a0).1 (f a0).2)
  (h:∀a,I a->body (f a).1 (f a).2 fun e fr' s'=>match e with
   |.normal=>∃a',I a'∧μ a'<μ a∧Cov P N s.next fr' s' (f a').1 (f a').2
   |e=>k e fr' s'):LoopRule (fun p=>p) P N (fun fr s k=>body fr s k∨C fr s k) k fr s:=by
 refine ⟨{ a // I a },fun x=>f x.1,fun x=>μ x.1,⟨⟨a0,hI⟩,h0⟩,fun a=>⟨_,.inl (h a.1 a.2),fun e fr' s' _ h'=>?_⟩⟩
 cases e<;>first
  |(obtain ⟨a',h1,h2⟩:=h';exact ⟨⟨a',h1⟩,h2⟩)
  |exact h'
theorem loop_sem {P:Program}{N:Nat}{body C:Tr Value->AS->KontC Prop->Prop}{k:KontC Prop}{fr:Tr Value}{s:AS}{α:Type}(I:α->Prop) (f:α->Tr Value×AS) (μ:α->Nat) (a0:α) (hI:I a0) (h0:Cov P N s.next fr s (f a0).1 (f a0).2)
  (h:∀a,I a->C (f a).1 (f a).2 fun e fr' s'=>match e with
   |.normal=>∃a',I a'∧μ a'<μ a∧Cov P N s.next fr' s' (f a').1 (f a').2
   |e=>k e fr' s'):LoopRule (fun p=>p) P N (fun fr s k=>body fr s k∨C fr s k) k fr s:=by
 refine ⟨{ a // I a },fun x=>f x.1,fun x=>μ x.1,⟨⟨a0,hI⟩,h0⟩,fun a=>⟨_,.inr (h a.1 a.2),fun e fr' s' _ h'=>?_⟩⟩
 cases e<;>first
  |(obtain ⟨a',h1,h2⟩:=h';exact ⟨⟨a',h1⟩,h2⟩)
  |exact h'
theorem lw_t {k:Bool->Prop}(h:k true):∃w,true=w∧k w:=⟨true,rfl,h⟩
theorem lw_f {k:Bool->Prop}(h:k false):∃w,false=w∧k w:=⟨false,rfl,h⟩
theorem lw_c {b:Bool}{k:Bool->Prop}(ht:b=true->k true) (hf:b=false->k false):∃w,b=w∧k w:=by
 cases b
 ·exact ⟨false,rfl,hf rfl⟩
 ·exact ⟨true,rfl,ht rfl⟩
theorem ob_c {b:Bool}{x:Prop}(h:b=true) (k:x):b=true∧x:=⟨h,k⟩
theorem nv_c {l:List Value}{n:Nat}{x:Value}{k:Value->Prop}(h:nth l n=some x) (h2:k x):∃x,nth l n=some x∧k x:=⟨x,h,h2⟩
theorem lw_t' {b:Bool}{k:Bool->Prop}(hb:b=true) (h:k true):∃w,b=w∧k w:=⟨true,hb,h⟩
theorem lw_f' {b:Bool}{k:Bool->Prop}(hb:b=false) (h:k false):∃w,b=w∧k w:=⟨false,hb,h⟩
theorem ob_t {x:Prop}(h:x):true=true∧x:=⟨rfl,h⟩
theorem goA {P Q:Prop}(h:P) (k:P->Q:=by first|exact lw_t|exact lw_f|exact ob_t):Q:=k h
theorem goB {P Q:Prop}(h:P) (k:P->Q:=by first|exact ob_c (by first|(with_reducible assumption)|exact bLe (by omega)|exact bLe (by simp at *;omega))|exact nv_c (by with_reducible assumption)|exact lw_t' (by with_reducible assumption)|exact lw_f' (by with_reducible assumption)):Q:=k h
theorem goD {P Q:Prop}(h:P) (k:P->Q:=by first|exact lw_t|exact lw_f|exact ob_t|exact ob_c (by first|(with_reducible assumption)|exact bLe (by omega)|exact bLe (by simp at *;omega))|exact nv_c (by with_reducible assumption)|exact lw_t' (by with_reducible assumption)|exact lw_f' (by with_reducible assumption)):Q:=k h
def mkF:List (Nat×Value)->Tr Value
 |[]=>.e
 |x::l=>(mkF l).set x.1 (some x.2)
theorem mkF_at {fr:Tr Value}:∀{l:List (Nat×Value)},(∀x∈l,Tr.at (pt x.1) fr=some x.2)->∀(t:Nat) (u:Value),Tr.at (pt t) (mkF l)=some u->Tr.at (pt t) fr=some u
 |[],_,t,u,h=>by
  have:(mkF []).get t=none:=Tr.get_e t;rw[show Tr.at (pt t) (mkF [])=(mkF []).get t from rfl,this] at h
  cases h
 |x::l,hl,t,u,h=>by
  have e:(mkF (x::l)).get t=if t=x.1 then some x.2 else (mkF l).get t:=Tr.get_set _ _ _ _
  rw[show Tr.at (pt t) (mkF (x::l))=(mkF (x::l)).get t from rfl,e] at h;split at h
  ·rename_i ht;subst ht;cases h;exact hl x (by simp)
  ·exact mkF_at (fun y hy=>hl y (by simp[hy])) t u h
def slotsOk (fr:Tr Value):List (Nat×Value)->Prop
 |[]=>True
 |x::l=>Tr.at (pt x.1) fr=some x.2∧slotsOk fr l
theorem slotsOk_all {fr:Tr Value}:∀{l:List (Nat×Value)},slotsOk fr l->∀x∈l,Tr.at (pt x.1) fr=some x.2
 |[],_,x,h=>by cases h
 |y::l,h,x,hx=>by
  rcases List.mem_cons.1 hx with rfl|hx
  ·exact h.1
  ·exact slotsOk_all h.2 x hx
theorem Cov.slots {P:Program}{N n0:Nat}{fr:Tr Value}{s:AS}(hn:n0≤s.next) {l:List (Nat×Value)}(h0:slotsOk fr l):Cov P N n0 fr s (mkF l) s:=by
 have h:=slotsOk_all h0;refine ⟨rfl,rfl,hn,fun _ _=>rfl,fun W0 β W a hR hf hF=>⟨β,fun _ _=>rfl,hf,.refl _ _,hR,hF.size,fun t u hu=>hF.at_ t u (mkF_at h t u hu),fun t ht=>?_⟩⟩
 obtain ⟨u,hu⟩:=Option.ne_none_iff_exists'.1 ht;exact hF.lt t (by rw[mkF_at h t u hu];simp)
inductive NoNm:Value->Prop where
 |flat (u:Value) (h:flatV u=true):NoNm u
 |agg (l:List Value) (h:∀x,x∈l->NoNm x):NoNm (.agg ⟨l⟩)
 |ims (xs:List Value) (h:∀c,c∈cellsAll xs->NoNm c):NoNm (imS xs)
 |imp (x:Value) (o:Nat) (h:∀c,c∈cellsOf x->NoNm c):NoNm (imP x o)
 |ime:NoNm imE
 |imm (ps:List Value):NoNm (imM0 ps)
theorem NoNm.rel {u:Value}(h:NoNm u):∀{β:Bt}{v:Value},VR β u v->VR ⟨fun _=>none,β.z⟩ u v:=by
 induction h with
 |flat u h=>intro β v hv;rw[hv.flat_eq h];exact .of_flat _ h
 |agg l _ ih =>
  intro β v hv;obtain ⟨l',h1,rfl⟩:=hv.agg_inv;exact .agg l l' h1.1 fun i u v hu hv=>ih u (List.mem_of_getElem? hu) (h1.2 i u v hu hv)
 |ims xs _ ih =>
  intro β v hv;rcases hv.imS_inv with ⟨rfl,ad,rfl⟩|⟨ws,z,r,off,c,h1,h2,h3,h4,h5,rfl⟩
  ·exact .imn ad
  ·exact .ims xs ws z r off c h1 h2 h3.1.symm h4 (fun i u v hu hv=>ih u (List.mem_of_getElem? hu) (h3.2 i u v hu hv)) h5
 |imp x o _ ih =>
  intro β v hv;obtain ⟨ws,r,off,h3,h4,h5,rfl⟩:=hv.imP_inv;exact .imp x ws r off o h3.1.symm h4 (fun i u v hu hv=>ih u (List.mem_of_getElem? hu) (h3.2 i u v hu hv)) h5
 |ime =>
  intro β v hv;obtain ⟨ad,rfl⟩:=hv.imE_inv;exact .ime ad
 |imm ps =>
  intro β v hv;obtain ⟨r,h1,hf,rfl⟩:=hv.imM_inv;exact .imm ps r h1 hf
theorem NoNm.rels {β:Bt}{l l':List Value}(h:∀x∈l,NoNm x) (hv:VRs β l l'):VRs ⟨fun _=>none,β.z⟩ l l':=⟨hv.1,fun i u v hu hv'=>(h u (List.mem_of_getElem? hu)).rel (hv.2 i u v hu hv')⟩
structure DenU (P:Program) (l:List (Nat×List Value)) (f:FuncId) (args:List Value) (u:Value):Prop where
 out:∀(z:Nat->Nat->Option Value) (W:World) (vs:List Value),gSet l W->(∀r o v,z r o=some v->fzc W ⟨r,o,none⟩=some v)->VRs ⟨fun _=>none,z⟩ args vs ->
  Calls P f ⟨vs⟩ W fun e w'=>∃v z',e=.returned v∧(Below W.heap.size W w'∧W.drawn≤w'.drawn)∧(∀r o x,z r o=some x->z' r o=some x)∧(∀r o x,z' r o=some x->fzc w' ⟨r,o,none⟩=some x∧(z r o=some x∨W.heap.size≤r))∧VR ⟨fun _=>none,z'⟩ u v
def Tabled (l:List (Nat×List Value)) (s:AS):Prop:=∀x∈l,x.1<s.glb∧∃T,s.heap.get x.1=some (.cells T x.2 false)
theorem Tabled.set {P:Program}{l:List (Nat×List Value)}{s:AS}(hl:gOk l=true) (h:Tabled l s) {W0 W:World}{β:Bt}(hR:Rel P W0 β s W):gSet l W:=fun x hx=>by
 obtain ⟨h1,T,h2⟩:=h x hx;obtain ⟨cs,fz,g1,_,_,g2,g3⟩:=hR.blk x.1 _ x.1 0 h2 (hR.glob x.1 h1);refine ⟨T,fz,?_⟩;rw[g1];congr 2
 apply Array.ext';refine List.ext_getElem? fun i=>?_
 have hf:=List.all_eq_true.1 hl x hx;by_cases hi:i<x.2.length
 ·obtain ⟨_,v,e1,e2⟩:=g3 i x.2[i] (List.getElem?_eq_getElem hi);have:=List.all_eq_true.1 hf x.2[i] (List.getElem_mem hi);simp only[Bool.and_eq_true] at this;rw[Array.getElem?_toList,e1,e2.flat1_eq this.1,List.getElem?_eq_getElem hi]
 ·have hsz:cs.size=x.2.length:=by rw[g2];omega
  rw[List.getElem?_eq_none (l:=cs.toList) (by rw[Array.length_toList,hsz];omega),List.getElem?_eq_none (l:=x.2) (by omega)]
def NoNms:List Value->Prop
 |[]=>True
 |a::l=>NoNm a∧NoNms l
theorem NoNms.all:∀{l:List Value},NoNms l->∀a∈l,NoNm a
 |[],_,a,h=>by cases h
 |b::l,h,a,ha=>by
  rcases List.mem_cons.1 ha with rfl|ha
  ·exact h.1
  ·exact NoNms.all h.2 a ha
theorem tab0 (s:AS):Tabled [] s:=fun x h=>by cases h
def extU (P:Program) (l:List (Nat×List Value)):CallFX Prop:=⟨fun f args s _ k=>∃u,DenU P l f args u∧NoNms args∧Tabled l s∧k u s,fun _ _ _ _=>False⟩
def extH (P:Program) (l:List (Nat×List Value)):CallF Prop:=⟨fun f args s k=>∃u,DenU P l f args u∧NoNms args∧Tabled l s∧k u s,fun _ _ _ _=>False⟩
theorem extU_ok {P:Program}{l:List (Nat×List Value)}(hl:gOk l=true):CallX P propX (extU P l):=by
 refine ⟨fun f args s kp k hlo h W0 β W vs hR hf hv=>?_,fun _ _ _ _ _ h=>absurd h id⟩
 obtain ⟨u,hD,hc,ht,hk⟩:=h;refine (hD.out β.z W vs (ht.set hl hR) (fun r o v hz=>(hR.frz r o v hz).1) (NoNm.rels hc.all hv)).mono fun e w' ⟨v,z',he,⟨hb,hdn⟩,h1,h2,h3⟩=>?_
 have hR':=hR.later hb;refine .inl ⟨v,u,s,he,hk,.refl _,⟨β.m,z'⟩,⟨fun _ _=>rfl,hf,h1,fun r o x hx=>((h2 r o x hx).2).imp id fun hle=>Nat.le_trans hR.below.size hle⟩,hR'.frozen hR.lt h1 h2,?_,KD.below hb⟩
 exact VR.growX (β:=⟨fun _=>none,z'⟩) (β':=⟨β.m,z'⟩) ⟨fun k x hk=>(by cases hk),fun _ _ _ h=>h⟩ h3
theorem extU_c {P:Program}{l:List (Nat×List Value)}(hl:gOk l=true):CallOk P propD (extH P l):=by
 refine ⟨fun f args s k hlo h=>?_,fun _ _ _ _ _ h=>absurd h id⟩
 obtain ⟨u,hD,hc,ht,hk⟩:=h;refine ⟨u,s,hk,.refl _,fun W0 β W vs hR hf hv=>?_⟩
 refine (hD.out β.z W vs (ht.set hl hR) (fun r o v hz=>(hR.frz r o v hz).1) (NoNm.rels hc.all hv)).mono fun e w' ⟨v,z',he,⟨hb,hdn⟩,h1,h2,h3⟩=>?_
 have hR':=hR.later hb;refine ⟨v,he,⟨β.m,z'⟩,⟨⟨fun _ _ h=>h,h1,fun r o x hx=>((h2 r o x hx).2).imp id fun hle=>Nat.le_trans hR.below.size hle⟩,fun _ _=>rfl⟩,hR'.frozen hR.lt h1 h2,?_,KD.below hb⟩
 exact VR.growX (β:=⟨fun _=>none,z'⟩) (β':=⟨β.m,z'⟩) ⟨fun k x hk=>(by cases hk),fun _ _ _ h=>h⟩ h3
inductive FrzV (P:Program) (s:AS):Value->Value->Prop where
 |clean (u:Value) (h:NoNm u):FrzV P s u u
 |nil:FrzV P s (.slice none 0 0) (imS [])
 |agg (l m:List Value) (hl:l.length=m.length) (h:∀(i:Nat) (u v:Value),l[i]?=some u->m[i]?=some v->FrzV P s u v):FrzV P s (.agg ⟨l⟩) (.agg ⟨m⟩)
 |tup (l m:List Value) (hl:l.length=m.length) (h:∀(i:Nat) (u v:Value),l[i]?=some u->m[i]?=some v->FrzV P s u v):FrzV P s (.tuple ⟨l⟩) (.tuple ⟨m⟩)
 |row (k n c z:Nat) (T:TypeId) (xs ys:List Value) (op:Bool) (hlo:s.lo≤k) (hk:s.heap.get k=some (.cells T xs op)) (hz:∀y,y∈ys->(cellsOf y).length=z) (hn:n=ys.length) (hc:n≤c) (hl:(cellsAll ys).length≤xs.length) (h:∀(i:Nat) (u v:Value),xs[i]?=some u->(cellsAll ys)[i]?=some v->FrzV P s u v) :
   FrzV P s (.slice (some ⟨k,0,none⟩) n c) (imS ys)
 |box (k:Nat) (T:TypeId) (x:Value) (xs:List Value) (op:Bool) (hlo:s.lo≤k) (hk:s.heap.get k=some (.cells T xs op)) (hl:(cellsOf x).length=xs.length) (h:∀(i:Nat) (u v:Value),xs[i]?=some u->(cellsOf x)[i]?=some v->FrzV P s u v):FrzV P s (.pointer (some ⟨k,0,none⟩)) (imP x 0)
 |mapF (k:Nat) (es:List (Value×Value)) (bs:List Nat) (cl:Nat) (hlo:s.lo≤k) (hk:s.heap.get k=some (.map es bs cl)) (hf:∀e∈es,flatV e.2=true):FrzV P s (.map (some k)) (imM es)
theorem FrzV.same {P:Program}{s:AS}{u y:Value}(h:NoNm u) (e:u=y):FrzV P s u y:=by subst e;exact .clean u h
theorem FrzV.rel {P:Program}{s:AS}{W0 W:World}{β:Bt}{z':Nat->Nat->Option Value}(hR:Rel P W0 β s W) (h1:∀r o x,β.z r o=some x->z' r o=some x) (h2:∀r o x,W0.heap.size≤r->fzc W ⟨r,o,none⟩=some x->z' r o=some x) {u y:Value}(h:FrzV P s u y):∀{v:Value},VR β u v->VR ⟨fun _=>none,z'⟩ y v:=by
 induction h with
 |clean u h=>intro v hv;exact (h.rel hv).growX ⟨fun k x hk=>(by cases hk),h1⟩
 |nil=>intro v hv;rw[hv.flat1_eq rfl];exact .imn
 |agg l m hl _ ih =>
  intro v hv;obtain ⟨l',e1,rfl⟩:=hv.agg_inv;refine .agg m l' (hl.symm.trans e1.1) fun i u v hu hv=>?_
  have hi:i<l.length:=by rw[hl];exact (List.getElem?_eq_some_iff.1 hu).1
  exact ih i l[i] u (List.getElem?_eq_getElem hi) hu (e1.2 i _ v (List.getElem?_eq_getElem hi) hv)
 |tup l m hl _ ih =>
  intro v hv;obtain ⟨l',e1,rfl⟩:=hv.tup_inv;refine .tup m l' (hl.symm.trans e1.1) fun i u v hu hv=>?_
  have hi:i<l.length:=by rw[hl];exact (List.getElem?_eq_some_iff.1 hu).1
  exact ih i l[i] u (List.getElem?_eq_getElem hi) hu (e1.2 i _ v (List.getElem?_eq_getElem hi) hv)
 |row k n c z T xs ys op hlo hk hz hn hc hl _ ih =>
  intro v hv;obtain ⟨r,sp,e1,rfl⟩:=hv.sl_inv;obtain ⟨cs,fz,g1,_,_,g4,g5,g6,g7,g8⟩:=(hR.blk k _ r sp hk e1).real;subst hn;have hge:=hR.ge k r sp (by rw[hk];simp) e1 hlo
  have hlen:((cs.toList.take xs.length).take (cellsAll ys).length).length=(cellsAll ys).length:=by
   have:=g5.1;rw[List.length_take,← this];omega
  have hat:∀(i:Nat) (w:Value),((cs.toList.take xs.length).take (cellsAll ys).length)[i]?=some w->(cs.toList.take xs.length)[i]?=some w:=fun i w hw=>by
   have hil:=(List.getElem?_eq_some_iff.1 hw).1;rwa [List.getElem?_take_of_lt (by rw[List.length_take] at hil;omega)] at hw
  refine .ims ys ((cs.toList.take xs.length).take (cellsAll ys).length) z r 0 (c+sp) hz (by omega) hlen (fun i w hw=>?_) (fun i y w hy hw=>?_) fun w hw=>g7 w (List.mem_of_mem_take hw)
  ·rw[Nat.zero_add];exact h2 r i w hge (cell_fzc (g8 i w (hat i w hw)) (g7 w (List.mem_of_mem_take (List.mem_of_getElem? hw))))
  ·have hw':=hat i w hw;have hi:i<xs.length:=by
    have:=(List.getElem?_eq_some_iff.1 hw').1;rw[g5.1];exact this
   exact ih i xs[i] y (List.getElem?_eq_getElem hi) hy (g5.2 i _ w (List.getElem?_eq_getElem hi) hw')
 |box k T x xs op hlo hk hl _ ih =>
  intro v hv;obtain ⟨r,sp,e1,rfl⟩:=hv.ptr_inv;obtain ⟨cs,fz,g1,_,_,g4,g5,g6,g7,g8⟩:=(hR.blk k _ r sp hk e1).real;have hge:=hR.ge k r sp (by rw[hk];simp) e1 hlo
  refine .imp x (cs.toList.take xs.length) r 0 0 (g5.1.symm.trans hl.symm) (fun i w hw=>?_) (fun i y w hy hw=>?_) g7
  ·rw[Nat.zero_add];exact h2 r i w hge (cell_fzc (g8 i w hw) (g7 w (List.mem_of_getElem? hw)))
  ·have hi:i<xs.length:=by
    have:=(List.getElem?_eq_some_iff.1 hw).1;rw[g5.1];exact this
   exact ih i xs[i] y (List.getElem?_eq_getElem hi) hy (g5.2 i _ w (List.getElem?_eq_getElem hi) hw)
 |mapF k es bs cl hlo hk hf =>
  intro v hv;obtain ⟨r,sp,e1,rfl⟩:=hv.map_inv;obtain ⟨es',cl',g1,g2,g3,_⟩:=hR.blk k _ r sp hk e1;have hge:=hR.ge k r sp (by rw[hk];simp) e1 hlo
  exact .imm _ r (h2 r 0 _ hge ((fzc_map g1).trans (congrArg some (encM_of g2 g3 hf)))) (pairV_flat hf)
theorem denU_of_callX {R:Type}{D:DomX R}{P:Program}{cx:CallFX R}(hx:CallX P D cx) {l:List (Nat×List Value)}(hl:gOk l=true) {f:FuncId}{args:List Value}{u:Value}{k:Value->AS->R}(hk:∀u' s',D.T (k u' s')->FrzV P s' u' u)
  (h:∀Ts,D.T (cx.call f args (start l Ts) (noX R D) k)):DenU P l f args u:=by
 refine ⟨fun z W vs hg hz hv=>?_⟩
 have hR0:=start_rel (P:=P) hl hg;have hR:Rel P W ⟨fun k=>if k<gTop l then some (k,0) else none,z⟩ (start l (typeAt W)) W :=
  ⟨fun k b r sp hk hr=>(hR0.blk k b r sp hk hr).sameX ⟨fun _ _ h=>h,fun _ _ _ h=>by cases h⟩ id rfl,hR0.inj,hR0.dom,hR0.lt,hR0.ge,hR0.below,hR0.glob,fun r o v hv=>⟨hz r o v hv,fun k sp hlo hk _=>absurd (hR0.dom k hk) (Nat.not_lt.2 hlo)⟩⟩
 refine (hx.call f args (start l (typeAt W)) (noX R D) _ rL (h _) W _ W vs hR (fun k hk=>start_free l (typeAt W) k hk) (VRs.growX (β:=⟨fun _=>none,z⟩) (β':=⟨fun k=>if k<gTop l then some (k,0) else none,z⟩) ⟨fun k x hk=>(by cases hk),fun _ _ _ h=>h⟩ hv)).mono fun e w' hE=>?_
 rcases hE with ⟨v,u',s',he,h1,hst,β',hx,hR',hv',hkd⟩|⟨_,_,_,h1,_⟩
 rotate_left
 ·exact absurd h1 D.nb
 replace h1:=hk _ _ h1;have hzlt:∀r o x,z r o=some x->r<W.heap.size:=fun r o x h=>cell_lt (hz r o x h)
 have e1:∀r o,r<W.heap.size->fzc w' ⟨r,o,none⟩=fzc W ⟨r,o,none⟩:=fun r o h=>cell_same (hR'.below.block r h)
 refine ⟨v,fun r o=>if r<W.heap.size then z r o else fzc w' ⟨r,o,none⟩,he,⟨hR'.below,hkd.n⟩,fun r o x hx'=>?_,fun r o x hx'=>?_,?_⟩
 ·show (if r<W.heap.size then z r o else _)=_
  rw[if_pos (hzlt r o x hx')];exact hx'
 ·have hx':(if r<W.heap.size then z r o else fzc w' ⟨r,o,none⟩)=some x:=hx'
  split at hx'
  ·rename_i hr;exact ⟨by rw[e1 r o hr];exact hz r o x hx',.inl hx'⟩
  ·rename_i hr;exact ⟨hx',.inr (by omega)⟩
 ·refine FrzV.rel hR' (fun r o x hx'=>?_) (fun r o x hr hx'=>?_) h1 hv'
  ·show (if r<W.heap.size then z r o else fzc w' ⟨r,o,none⟩)=_
   split
   ·rename_i hr;rcases hx.z.2 r o x hx' with h|h
    ·exact h
    ·omega
   ·exact (hR'.frz r o x hx').1
  ·show (if r<W.heap.size then z r o else fzc w' ⟨r,o,none⟩)=_
   rw[if_neg (by omega)];exact hx'
theorem denU_of_run {P:Program}(hm:P.follows .mixedOrders=true) {l:List (Nat×List Value)}(hl:gOk l=true) {f:FuncId}{args:List Value}{u:Value}(fuel n m:Nat)
  (h:∀Ts,(callX propX P fuel (callN propD P fuel (extH P l) m) (extU P l) n).call f args (start l Ts) (noX Prop propX) fun u' s'=>FrzV P s' u' u):DenU P l f args u :=
 denU_of_callX (D:=propX) (callX_ok (D:=propX) hm (callN_ok (D:=propD) hm (extU_c hl) fuel m) (extU_ok hl) fuel n) hl (fun _ _ h=>h) h
theorem denU_of_body {P:Program}(hm:P.follows .mixedOrders=true) {l:List (Nat×List Value)}(hl:gOk l=true) {f:FuncId}{fn:Func}{c:Code}{args:List Value}{u:Value}{N:Nat}{rs:List ResultVar}(hfn:P.funcs[f]?=some fn) (hb:fn.body=some c) (hN:args.length+(fn.ntmps-args.length)=N) (hrs:fn.results.toList=rs) (fuel:Nat)
  (h:∀Ts,codeX propX P (extH P l) (extU P l) N fuel c (argsF args 0 .e) (start l Ts) fun e fr s=>match e with
   |.normal=>resC propD P fr s rs fun l=>FrzV P s (retC l) u
   |.ret=>resC propD P fr s rs fun l=>FrzV P s (retC l) u
   |_=>False):DenU P l f args u:=by
 refine denU_of_run hm hl fuel 1 0 fun Ts=>?_
 simp only[callX,callN];unfold bodyX;simp only[hfn,hb,argsC_eq,natC_eq,hN,hrs];refine (congrArg (codeX propX P (extH P l) (extU P l) N fuel c (argsF args 0 .e) (start l Ts)) (funext fun e=>funext fun fr=>funext fun s=>?_)).mp (h Ts)
 cases e with
 |panic ch=>show False=onV propD (panOf ch) (fun _=>False);cases panOf ch<;>rfl
 |_=>rfl
end Go.Proofs.YtcihknonfcldeaaDoor.U
