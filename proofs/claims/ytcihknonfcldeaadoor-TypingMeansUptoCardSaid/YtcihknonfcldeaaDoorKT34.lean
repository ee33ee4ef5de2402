
import Derived.Test.YtcihknonfcldeaaDoorKT22
import Derived.Test.YtcihknonfcldeaaDoorKT23
import Derived.Test.YtcihknonfcldeaaDoorKT33
namespace Go.Proofs.YtcihknonfcldeaaDoor.U
open Go Go.RowKit Go.Sort
set_option linter.unusedVariables false
set_option linter.unusedSimpArgs false
set_option maxRecDepth 100000
set_option maxHeartbeats 40000000
theorem SoundAt.coverV {P:Program}{f:FuncId}{args:List Value}{s:AS}{K:Value->AS->Prop}(h:SoundAt P f args s fun u t=>∃u' t',Cov P 1 s.next (mkF [(0,u)]) t (mkF [(0,u')]) t'∧K u' t'):SoundAt P f args s K:=by
 refine ⟨fun hlo W0 β W vs hR hf hv=>?_⟩
 refine (h.out hlo W0 β W vs hR hf hv).mono fun e w' ⟨v,u,s',he,⟨u',t',hc,hk⟩,hst,β',h1,h2,h3,h4⟩=>?_
 obtain ⟨β1,p1,p2,p3,p4,p5⟩:=hc.rel W0 β' w' { tmps:=#[v],defers:=[] } h2 h1.free ⟨rfl,fun t x hx=>by
  have:=mkF_mem hx;simp only[List.mem_singleton,Prod.mk.injEq] at this;obtain ⟨rfl,rfl⟩:=this;exact h3,fun t ht=>by
  obtain ⟨x,hx⟩:=Option.ne_none_iff_exists'.1 ht;have:=mkF_mem hx;simp only[List.mem_singleton,Prod.mk.injEq] at this;omega⟩
 refine ⟨v,u',t',he,hk,⟨hc.next,hc.lo.trans hst.lo,hc.glb.trans hst.glb,fun k hk'=>(hc.keep k (by rw[hst.lo];exact hk')).trans (hst.keep k hk')⟩,β1,⟨fun k hk'=>(p1 k hk').trans (h1.keep k hk'),p2,h1.z.trans p3⟩,p4,?_,h4⟩
 exact p5.at_ 0 u' rfl
theorem FrzV.relO {P:Program}{s:AS}{W0 W:World}{β:Bt}{z':Nat->Nat->Option Value}(hR:Rel P W0 β s W) (h1:∀r o x,β.z r o=some x->z' r o=some x) (h2:∀k r sp o x,s.lo≤k->s.heap.get k≠none->β k=some (r,sp)->fzc W ⟨r,o,none⟩=some x->z' r o=some x) {u y:Value}(h:FrzV P s u y):∀{v:Value},VR β u v->VR ⟨fun _=>none,z'⟩ y v:=by
 induction h with
 |clean u h=>intro v hv;exact (h.rel hv).growX ⟨fun k x hk=>(by cases hk),h1⟩
 |nil=>intro v hv;rw[hv.flat1_eq rfl];exact .imn
 |agg l m hl _ ih =>
  intro v hv;obtain ⟨l',e1,rfl⟩:=hv.agg_inv;refine .agg m l' (hl.symm.trans e1.1) fun i u v hu hv=>?_
  have hi:i<l.length:=by rw[hl];exact (List.getElem?_eq_some_iff.1 hu).1
  exact ih i l[i] u (List.getElem?_eq_getElem hi) hu (e1.2 i _ v (List.getElem?_eq_getElem hi) hv)
 |tup l m hl _ ih =>
  intro v hv;obtain ⟨l',e1,rfl⟩:=hv.tup_inv;refine .tup m l' (hl.symm.trans e1.1) fun i u v hu hv=>?_
  have hi:i<l.length:=by rw[hl];exact (List.getElem?_eq_some_iff.1 hu).1
  exact ih i l[i] u (List.getElem?_eq_getElem hi) hu (e1.2 i _ v (List.getElem?_eq_getElem hi) hv)
 |row k n c z T xs ys op hlo hk hz hn hc hl _ ih =>
  intro v hv;obtain ⟨r,sp,e1,rfl⟩:=hv.sl_inv;obtain ⟨cs,fz,g1,_,_,g4,g5,g6,g7,g8⟩:=(hR.blk k _ r sp hk e1).real;subst hn;have hge:=hR.ge k r sp (by rw[hk];simp) e1 hlo
  have hlen:((cs.toList.take xs.length).take (cellsAll ys).length).length=(cellsAll ys).length:=by
   have:=g5.1;rw[List.length_take,← this];omega
  have hat:∀(i:Nat) (w:Value),((cs.toList.take xs.length).take (cellsAll ys).length)[i]?=some w->(cs.toList.take xs.length)[i]?=some w:=fun i w hw=>by
   have hil:=(List.getElem?_eq_some_iff.1 hw).1;rwa [List.getElem?_take_of_lt (by rw[List.length_take] at hil;omega)] at hw
  refine .ims ys ((cs.toList.take xs.length).take (cellsAll ys).length) z r 0 (c+sp) hz (by omega) hlen (fun i w hw=>?_) (fun i y w hy hw=>?_) fun w hw=>g7 w (List.mem_of_mem_take hw)
  ·rw[Nat.zero_add];exact h2 k r sp i w hlo (by rw[hk];simp) e1 (cell_fzc (g8 i w (hat i w hw)) (g7 w (List.mem_of_mem_take (List.mem_of_getElem? hw))))
  ·have hw':=hat i w hw;have hi:i<xs.length:=by
    have:=(List.getElem?_eq_some_iff.1 hw').1;rw[g5.1];exact this
   exact ih i xs[i] y (List.getElem?_eq_getElem hi) hy (g5.2 i _ w (List.getElem?_eq_getElem hi) hw')
 |box k T x xs op hlo hk hl _ ih =>
  intro v hv;obtain ⟨r,sp,e1,rfl⟩:=hv.ptr_inv;obtain ⟨cs,fz,g1,_,_,g4,g5,g6,g7,g8⟩:=(hR.blk k _ r sp hk e1).real;have hge:=hR.ge k r sp (by rw[hk];simp) e1 hlo
  refine .imp x (cs.toList.take xs.length) r 0 0 (g5.1.symm.trans hl.symm) (fun i w hw=>?_) (fun i y w hy hw=>?_) g7
  ·rw[Nat.zero_add];exact h2 k r sp i w hlo (by rw[hk];simp) e1 (cell_fzc (g8 i w hw) (g7 w (List.mem_of_getElem? hw)))
  ·have hi:i<xs.length:=by
    have:=(List.getElem?_eq_some_iff.1 hw).1;rw[g5.1];exact this
   exact ih i xs[i] y (List.getElem?_eq_getElem hi) hy (g5.2 i _ w (List.getElem?_eq_getElem hi) hw)
 |mapF k es bs cl hlo hk hf =>
  intro v hv;obtain ⟨r,sp,e1,rfl⟩:=hv.map_inv;obtain ⟨es',cl',g1,g2,g3,_⟩:=hR.blk k _ r sp hk e1;exact .imm _ r (h2 k r sp 0 _ hlo (by rw[hk];simp) e1 ((fzc_map g1).trans (congrArg some (encM_of g2 g3 hf)))) (pairV_flat hf)
def stW (T:TypeId) (xs:List Value):AS:=⟨mkO [(0,some (.cells T xs false))],1,0,0⟩
def FrzA (P:Program) (s:AS) (hF:Tr Blk) (u1 u:Value):Prop:=FrzV P ⟨hF,s.next,s.lo,s.glb⟩ u u1∧u1.oneCell'=true
theorem Cov.genA {P:Program}{N n0:Nat}{fr fr1:Tr Value}{s:AS}{h1:Tr Blk}(ρ:Nat->Nat) (hF:Tr Blk) {n lo glb:Nat}(e1:lo=s.lo) (e2:glb=s.glb) (hn:n0≤n) (hg:glb≤n0) (hρ:∀k,k<n0->ρ k=k)
  (hget:∀k b,h1.get k=some b->k<n∧(lo≤k->lo≤ρ k)∧hF.get (ρ k)=none∧∃b',s.heap.get (ρ k)=some b'∧RenB n ⟨ρ,FrzA P s hF⟩ b b')
  (hinj:∀k k',h1.get k≠none->h1.get k'≠none->ρ k=ρ k'->k=k') (hkeep:∀k,k<lo->h1.get k=s.heap.get k)
  (hFs:∀k b,hF.get k=some b->s.lo≤k∧s.heap.get k=some b)
  (hf:∀t u,Tr.at (pt t) fr1=some u->∃v,Tr.at (pt t) fr=some v∧RenV n ⟨ρ,FrzA P s hF⟩ u v):Cov P N n0 fr s fr1 ⟨h1,n,lo,glb⟩:=by
 subst e1;subst e2;have hne:∀k,h1.get k≠none->s.heap.get (ρ k)≠none∧k<n∧(s.lo≤k->s.lo≤ρ k)∧hF.get (ρ k)=none:=fun k h=>by
  obtain ⟨b,hbk⟩:=Option.ne_none_iff_exists'.1 h;obtain ⟨q1,q2,q3,b',q4,_⟩:=hget k b hbk;exact ⟨by rw[q4];simp,q1,q2,q3⟩
 have hFn:∀k,hF.get k≠none->s.lo≤k∧s.heap.get k≠none:=fun k h=>by
  obtain ⟨b,hbk⟩:=Option.ne_none_iff_exists'.1 h;obtain ⟨q1,q2⟩:=hFs k b hbk;exact ⟨q1,by rw[q2];simp⟩
 refine ⟨rfl,rfl,hn,hkeep,fun W0 β W a hR hfa hF'=>?_⟩
 let zp:Nat->Prop:=fun r=>∃k sp,hF.get k≠none∧β k=some (r,sp)
 haveI:DecidablePred zp:=fun r=>Classical.propDecidable _
 let zf:Nat->Nat->Option Value:=fun r o=>if zp r then fzc W ⟨r,o,none⟩ else β.z r o
 let β1:Bt:=⟨fun k=>if k<n then β (ρ k) else none,zf⟩
 have hzg:∀r o x,β.z r o=some x->zf r o=some x:=fun r o x hx=>by
  show (if zp r then fzc W ⟨r,o,none⟩ else β.z r o)=_
  split
  ·exact (hR.frz r o x hx).1
  ·exact hx
 have hzo:∀r o x,zf r o=some x->β.z r o=some x∨(∃k sp,hF.get k≠none∧β k=some (r,sp)∧fzc W ⟨r,o,none⟩=some x):=fun r o x hx=>by
  have hx:(if zp r then fzc W ⟨r,o,none⟩ else β.z r o)=some x:=hx
  split at hx
  ·rename_i hz;obtain ⟨k,sp,g1,g2⟩:=hz;exact .inr ⟨k,sp,g1,g2,hx⟩
  ·exact .inl hx
 have hm:∀k,k<n->β1 k=β (ρ k):=fun k hk=>by
  show (if k<n then _ else _)=_
  rw[if_pos hk]
 have hm':∀k x,β1 k=some x->k<n∧β (ρ k)=some x:=fun k x hx=>by
  have hx:(if k<n then β (ρ k) else none)=some x:=hx
  split at hx
  ·rename_i h;exact ⟨h,hx⟩
  ·cases hx
 have hRF:Rel P W0 β ⟨hF,s.next,s.lo,s.glb⟩ W:=by
  refine ⟨fun k b r sp hk hr=>hR.blk k b r sp (hFs k b hk).2 hr,fun k k' r sp sp' hl hk hk' hr hr'=>hR.inj k k' r sp sp' hl (hFn k hk).2 (hFn k' hk').2 hr hr',fun k hk=>hR.dom k (hFn k hk).2,hR.lt,fun k r sp hk hr hl=>hR.ge k r sp (hFn k hk).2 hr hl,hR.below,hR.glob,fun r o v hv=>⟨(hR.frz r o v hv).1,fun k sp hl hk=>(hR.frz r o v hv).2 k sp hl (hFn k hk).2⟩⟩
 have hE:∀u1 u v,FrzA P s hF u1 u->VR β u v->VR β1 u1 v:=by
  intro u1 u v hu hv;have:=FrzV.relO (z':=zf) hRF hzg (fun k r sp o x _ hk hr hx=>by
   show (if zp r then fzc W ⟨r,o,none⟩ else β.z r o)=_
   rw[if_pos ⟨k,sp,hk,hr⟩];exact hx) hu.1 hv
  exact VR.growX (β:=⟨fun _=>none,zf⟩) (β':=β1) ⟨fun k x hk=>(by cases hk),fun _ _ _ h=>h⟩ this
 have hE1:∀u1 u,FrzA P s hF u1 u->u1.oneCell'=true:=fun u1 u h=>h.2
 refine ⟨β1,fun k hk=>by rw[hm k (by omega),hρ k hk],fun k hk=>?_,⟨hzg,fun r o v hv=>?_⟩,⟨?_,?_,?_,?_,?_,hR.below,?_,?_⟩,hF'.size,fun t u hu=>?_,fun t ht=>?_⟩
 ·show (if k<n then _ else _)=_
  rw[if_neg (by have:n≤k:=hk;omega)]
 ·rcases hzo r o v hv with h|⟨k,sp,h1,h2,_⟩
  ·exact .inl h
  ·exact .inr (hR.ge k r sp (hFn k h1).2 h2 (hFn k h1).1)
 ·intro k b r sp hk hr;obtain ⟨q0,q1,_,b',q2,q3⟩:=hget k b hk;exact q3.rel (β:=β) (β1:=β1) hzg hE hE1 hm q1 (hR.blk (ρ k) b' r sp q2 (hm' k _ hr).2)
 ·intro k k' r sp sp' hlo hk hk' hr hr'
  have p:=hne k hk;have p':=hne k' hk';exact hinj k k' hk hk' (hR.inj (ρ k) (ρ k') r sp sp' (p.2.2.1 hlo) p.1 p'.1 (hm' k _ hr).2 (hm' k' _ hr').2)
 ·intro k hk;exact (hne k hk).2.1
 ·intro k r sp hr;exact hR.lt (ρ k) r sp (hm' k _ hr).2
 ·intro k r sp hk hr hlo;have p:=hne k hk;exact hR.ge (ρ k) r sp p.1 (hm' k _ hr).2 (p.2.2.1 hlo)
 ·intro g hgl;have hgl:g<s.glb:=hgl;rw[hm g (by omega),hρ g (by omega)];exact hR.glob g hgl
 ·intro r o v hv;rcases hzo r o v hv with h|⟨kf,sp0,h1,h2,h3⟩
  ·obtain ⟨q1,q2⟩:=hR.frz r o v h;refine ⟨q1,fun k sp hlo hk hr=>?_⟩
   have p:=hne k hk;exact q2 (ρ k) sp (p.2.2.1 hlo) p.1 (hm' k _ hr).2
  ·refine ⟨h3,fun k sp hlo hk hr=>?_⟩
   have p:=hne k hk;have e:=hR.inj kf (ρ k) r sp0 sp (hFn kf h1).1 (hFn kf h1).2 p.1 h2 (hm' k _ hr).2;rw[e] at h1;exact h1 p.2.2.2
 ·obtain ⟨v,q1,q2⟩:=hf t u hu;exact q2.rel (β:=β) (β1:=β1) hzg hE hm (hF'.at_ t v q1)
 ·obtain ⟨u,hu⟩:=Option.ne_none_iff_exists'.1 ht;obtain ⟨v,q1,q2⟩:=hf t u hu;exact hF'.lt t (by rw[q1];simp)
def frzsO (h:Tr Blk) (lo:Nat):List (Nat×Option Blk)->Prop
 |[]=>True
 |x::l=>(lo≤x.1∧∀b,x.2=some b->Tr.at (pt x.1) h=some b)∧frzsO h lo l
theorem frzsO.all {h:Tr Blk}{lo:Nat}:∀{l:List (Nat×Option Blk)},frzsO h lo l->∀x∈l,lo≤x.1∧∀b,x.2=some b->Tr.at (pt x.1) h=some b
 |[],_,x,hx=>by cases hx
 |y::l,hl,x,hx=>by
  rcases List.mem_cons.1 hx with rfl|hx
  ·exact hl.1
  ·exact frzsO.all hl.2 x hx
theorem frzsO.nil {h:Tr Blk}{lo:Nat}:frzsO h lo []:=trivial
theorem frzsO.cons {h:Tr Blk}{lo k:Nat}{b:Blk}{l:List (Nat×Option Blk)}(h1:lo≤k) (h2:Tr.at (pt k) h=some b) (h3:frzsO h lo l):frzsO h lo ((k,some b)::l):=⟨⟨h1,fun b' e=>by cases e;exact h2⟩,h3⟩
theorem RenV.frz {P:Program}{s:AS}{hF:Tr Blk}{n:Nat}{ρ:Nat->Nat}{u1 u:Value}(h:FrzV P ⟨hF,s.next,s.lo,s.glb⟩ u u1) (h1:u1.oneCell'=true):RenV n ⟨ρ,FrzA P s hF⟩ u1 u:=.ext _ _ ⟨h,h1⟩
theorem FrzV.boxR {P:Program}{s:AS}{k:Nat}{T:TypeId}{x:Value}{xs:List Value}{op:Bool}(hlo:s.lo≤k) (hk:Tr.at (pt k) s.heap=some (.cells T xs op)) (h:FrzL P s xs (cellsOf x)):FrzV P s (.pointer (some ⟨k,0,none⟩)) (imP x 0):=.box k T x xs op hlo hk h.at_.1.symm h.at_.2
theorem mE_flat {K V:Type}{ek:K->Value}{ev:V->Value}(h:∀u,flatV (ev u)=true) (m:List (K×V)):∀e∈mE ek ev m,flatV e.2=true:=fun e he=>by
 obtain ⟨x,_,rfl⟩:=List.mem_map.1 he;exact h _
theorem FrzV.mapR {P:Program}{s:AS}{k:Nat}{es es':List (Value×Value)}{bs:List Nat}{cl:Nat}(hlo:s.lo≤k) (hk:Tr.at (pt k) s.heap=some (.map es bs cl)) (he:es=es') (hf:∀e∈es,flatV e.2=true):FrzV P s (.map (some k)) (imM es'):=by
 subst he;exact .mapF k es bs cl hlo hk hf
theorem RenL.put {n:Nat}{ρ:Ren}{x y:Value}:∀{l:List Value}{off:Nat},(∀c∈l,NoNm c)->l[off]?=some x->RenV n ρ x y->RenL n ρ l (l.take off++[y]++l.drop (off+1))
 |[],off,_,h,_=>by simp at h
 |a::l,0,hl,h,hx=>by
  simp at h
  subst h;exact .cons hx (RenL.refl fun c hc=>hl c (List.mem_cons_of_mem _ hc))
 |a::l,off+1,hl,h,hx=>.cons (.clean _ _ (hl a (by simp)) rfl) (RenL.put (off:=off) (fun c hc=>hl c (List.mem_cons_of_mem _ hc)) (by simpa using h) hx)
theorem mkO_none:∀{l:List (Nat×Option Blk)}{k:Nat},k∉l.map (·.1)->(mkO l).get k=none
 |[],k,_=>Tr.get_e k
 |x::l,k,h=>by
  simp only[List.map_cons,List.mem_cons,not_or] at h;rw[mkO,Tr.get_set,if_neg h.1];exact mkO_none h.2
theorem Cov.frzA {P:Program}{N n0:Nat}{fr:Tr Value}{s:AS}(ρ:Nat->Nat) (hF:List (Nat×Option Blk)) {l:List (Nat×Value)}{hl:List (Nat×Option Blk)}{n lo glb:Nat}(e1:lo=s.lo) (e2:glb=s.glb) (hn:n0≤n) (hg:glb≤n0) (hρ:∀k,k<n0->ρ k=k)
  (hkeys:keysB ρ lo n (hl.map (·.1))=true) (hkeep:∀k,k<lo->(mkO hl).get k=s.heap.get k) (hFs:frzsO s.heap s.lo hF) (hno:((hl.map (·.1)).all fun k=>(hF.map (·.1)).all fun k'=>decide (ρ k≠k'))=true)
  (hb:blksO s.heap n ⟨ρ,FrzA P s (mkO hF)⟩ hl) (hf:slotsRen fr n ⟨ρ,FrzA P s (mkO hF)⟩ l):Cov P N n0 fr s (mkF l) ⟨mkO hl,n,lo,glb⟩:=by
 have hkeys:=keysB.all hkeys;have hget:∀k b,(mkO hl).get k=some b->k∈hl.map (·.1)∧∃b',s.heap.get (ρ k)=some b'∧RenB n ⟨ρ,FrzA P s (mkO hF)⟩ b b':=fun k b h=>by
  have hm:=mkO_get h;exact ⟨List.mem_map.2 ⟨_,hm,rfl⟩,hb.all _ hm b rfl⟩
 have hmem:∀k,(mkO hl).get k≠none->k∈hl.map (·.1):=fun k h=>by
  obtain ⟨b,hbk⟩:=Option.ne_none_iff_exists'.1 h;exact (hget k b hbk).1
 refine Cov.genA ρ (mkO hF) e1 e2 hn hg hρ (fun k b h=>?_) (fun k k' h h' e=>?_) hkeep (fun k b h=>?_) (fun t u hu=>?_)
 ·obtain ⟨h1,h2⟩:=hget k b h;obtain ⟨g1,g2,_⟩:=hkeys k h1;refine ⟨g1,g2,mkO_none fun hm=>?_,h2⟩
  exact of_decide_eq_true (List.all_eq_true.1 (List.all_eq_true.1 hno k h1) _ hm) rfl
 ·exact (hkeys k (hmem k h)).2.2 k' (hmem k' h') e
 ·obtain ⟨h1,h2⟩:=hFs.all _ (mkO_get h);exact ⟨h1,h2 b rfl⟩
 ·exact hf.all _ (mkF_mem hu)
end Go.Proofs.YtcihknonfcldeaaDoor.U
