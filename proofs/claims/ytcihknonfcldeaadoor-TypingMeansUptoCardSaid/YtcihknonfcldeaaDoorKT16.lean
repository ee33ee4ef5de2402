
import Derived.Test.YtcihknonfcldeaaDoorKT15
namespace Go.Proofs.YtcihknonfcldeaaDoor.U
open Go Go.RowKit Go.Sort
set_option linter.unusedVariables false
set_option linter.unusedSimpArgs false
set_option maxRecDepth 100000
set_option maxHeartbeats 40000000
def chainG (ops:Array Oper) (n:Nat):Bool:=(List.range ops.size).all fun t=>decide (t≤n) || (List.range t).any fun j=>decide (n≤j)&&Region.waitsFor .any ops t j
def stopG (ops:List Oper) (h:Nat):Bool :=
 pairB ops.toArray h&&backB ops.toArray h&&(decide (h=ops.length) || (decide (h<ops.length)&&chainG ops.toArray h)) &&
  (noDefer ops&&Region.noSelect ops.toArray&&earlyB ops.toArray (earlyL ops.toArray h) (Array.replicate ops.length false))
theorem tail_waitsG {ops:Array Oper}{n:Nat}{listed:Array Bool}(he:∀i∈earlyL ops n,listed.getD i false=true) (hc:chainG ops n=true) (hn:n<ops.size) (inv:HeadInv .any ops n listed) :
  ∀(d i:Nat),n-i=d->i<n->listed.getD i true=false->∀t,n≤t->t∉Region.ready .any ops listed:=by
 intro d;induction d using Nat.strongRecOn with
 |_ d ih =>
  intro i hd hi hun t ht hr;obtain ⟨_,ot,hot,hall⟩:=mem_ready.1 hr;have htlt:t<ops.size:=(Array.getElem?_eq_some_iff.1 hot).1;by_cases htn:t=n
  ·subst htn;have hnot:i∉earlyF ops t t []:=fun hm=>by
    have:=he i (by
     unfold earlyL;rw[decide_eq_true hn];exact hm)
    have h2:=getD_both hun;rw[this] at h2;cases h2
   obtain ⟨j,hj1,hj,hj2⟩:=earlyF_held t [] i hi hnot;obtain ⟨oj,hoj,e,he',hb,hon⟩:=Region.waitsFor_spec hj2;have hj2:i<j∧True:=⟨hj1,trivial⟩;have hj:j∈List.range (t+1):=List.mem_range.2 (by omega)
   have hjle:j≤t:=by have:=List.mem_range.1 hj;omega
   by_cases hjt:j=t
   ·subst hjt;have:oj=ot:=Option.some.inj (hoj.symm.trans hot);subst this;have h2:=hall e he' hb;rw[hon,getD_both hun] at h2;cases h2
   ·cases hl:listed.getD j false with
    |true =>
     have h2:=inv.closed j oj hoj hl e he' hb;rw[hon,getD_both hun] at h2;cases h2
    |false =>
     have hjs:j<listed.size:=by rw[inv.size];omega
     exact ih (t-j) (by omega) j rfl (by omega) (getD_in hjs hl) t rL hr
  ·have h1:=List.all_eq_true.1 hc t (List.mem_range.2 htlt);simp only[Bool.or_eq_true,decide_eq_true_eq] at h1;rcases h1 with h1|h1
   ·omega
   ·obtain ⟨t',ht',h1⟩:=List.any_eq_true.1 h1;simp only[Bool.and_eq_true,decide_eq_true_eq] at h1;obtain ⟨o',ho',e,he',hb,hon⟩:=Region.waitsFor_spec h1.2;have:o'=ot:=Option.some.inj (ho'.symm.trans hot)
    subst this;have h2:=hall e he' hb;have h3:=List.mem_range.1 ht';rw[hon,getD_both (inv.tail t' h1.1 (by omega))] at h2;cases h2
section
variable {R : Type} {D : Dom R} {P : Program} {cf : CallF R} {fr fr' : Tr Value} {s s' : AS} {o : Oper} {N : Nat}
variable {ops : List Oper} {E : List EntC} {S : Nat → SFC} {st : Nat → AS} {er : List Nat} {K L : Nat → Option Mut} {ms : List Mut} {h : Nat} {listed : Array Bool} {W0 W WS : World} {β0 β : Bt} {a : Act} {ds : List Deferred} {F : Fence} {m : Nat}
theorem anyC_invG {g:Nat}{Q:Exit->Act->World->Prop}(hW:WF F) (H:HeadC P N ops er 0 (ops.take h) K L ms fr fr' s s' E S st) (hh:h≤ops.length) (hl:s.lo≤s.next) (hdom:∀k,s.heap.get k≠none->k<s.next) (hg:∀m∈ms,s.heap.get m.b=none∧s.lo≤m.b) (hdis:(ms.map (·.b)).Nodup) (hp:pairB ops.toArray h=true) (hb:backB ops.toArray h=true)
  (htail:h=ops.toArray.size∨(h<ops.toArray.size∧chainG ops.toArray h=true))
  (hend:∀listed a W β,HeadInv .any ops.toArray h listed->(∀i,i<h->listed.getD i false=true)->InvC P ops.toArray E K (sfC fr) h N W0 β0 s s' st ds WS listed a W β->wpAnyIn F m P .any ops.toArray Q g listed a W) :
  ∀(f:Nat) (listed:Array Bool) (a:Act) (W:World) (β:Bt),HeadInv .any ops.toArray h listed->(∀i∈earlyL ops.toArray h,listed.getD i false=true)->cnt listed h=f->InvC P ops.toArray E K (sfC fr) h N W0 β0 s s' st ds WS listed a W β->wpAnyIn F m P .any ops.toArray Q (f+g) listed a W:=by
 have hle:h≤ops.toArray.size:=by simpa using hh
 have htl:(ops.take h).length=h:=by simp;omega
 intro f;induction f with
 |zero=>intro listed a W β inv hE hc I;rw[Nat.zero_add];exact hend _ _ _ β inv (cnt_zero h hc) I
 |succ f ih =>
  intro listed a W β inv hE hc I;rw[Nat.succ_add];obtain ⟨i,hi,hun,hbef⟩:=cnt_first h (show 0<cnt listed h by omega)
  have hri:i∈Region.ready .any ops.toArray listed:=by
   have hia:i<ops.toArray.size:=by omega
   refine mem_ready.2 ⟨getD_in (by rw[inv.size];exact hia) hun,ops.toArray[i],by simp[hia],fun e he hbe=>?_⟩
   have h1:=List.all_eq_true.1 hb i (List.mem_range.2 hi);rw[Array.getElem?_eq_getElem hia] at h1;simp only at h1
   have h2:=Array.all_eq_true_iff_forall_mem.1 h1 e he;simp only[hbe,Bool.not_true,Bool.false_or,decide_eq_true_eq] at h2;exact hbef _ h2
  refine ⟨fun h0=>(by rw[h0] at hri;cases hri),fun j hj=>?_⟩
  obtain ⟨hju,oj,hoj,_⟩:=mem_ready.1 hj;have hja:=(Array.getElem?_eq_some_iff.1 hoj).1;have hjh:j<h:=by
   rcases htail with e|⟨e1,e3⟩
   ·omega
   ·exact Nat.lt_of_not_le fun hle'=>tail_waitsG hE e3 e1 inv _ i rfl hi (getD_in (by rw[inv.size];omega) hun) j hle' hj
  have hje:E[j]?=some (E[j]'(by rw[H.len];omega)):=List.getElem?_eq_getElem _
  refine invC_step hW H hh hl hdom hg hdis hp inv hj hjh hoj hje I fun a' W' β' I'=>?_
  refine ih _ _ _ β' (inv.set hj hjh) (fun i hi=>getD_set_true (hE i hi)) ?_ I'
  have:=cnt_set (getD_both hju) (by rw[inv.size];exact hja) h
  rw[if_pos hjh] at this;omega
end
section
variable {R : Type} {D : Dom R} {P : Program} {cf : CallF R} {fr fr' : Tr Value} {s s' : AS} {o : Oper} {N : Nat}
theorem drawHead_soundG (hm:P.follows .mixedOrders=true) (hc:CallOk P D cf) {ops:List Oper}{X:Tr Value->AS->R}{n:Nat}{M:List (Nat×Blk)}(hnl:n≤ops.length) (hck:stopG ops n=true) (hl:s.lo≤s.next) (hMs:∀x∈M,(s.heap.get x.1=some x.2∨s.next≤x.1)∧s.lo≤x.1) (hMd:(M.map (·.1)).Nodup) (h:D.T (opsH D P cf N ops (earlyL ops.toArray n) 0 (ops.take n) (M.map fun x=>(x.1,x.2,none)) fr (killS (M.map (·.1)) s) fun fr s news=>setAllC news s fun s=>X fr s)):∃fr' s',D.T (X fr' s')∧Stp s s' ∧
  ∀(F:Fence) (m:Nat) (W0:World) (β:Bt) (a:Act) (W:World) (id:Nat) (Q:Exit->Act->World->Prop) (PP:List PanicEntry->World->Prop),WF F->Rel P W0 β s W->Free β s.next s'.next->FrR β N fr a->(∀c a' W',a'.defers=a.defers->a'.tmps.size=N->PP c W'->Q (.panic c) a' W')->(∀a' W',After P W0 N β s s' fr' a W a' W'->wpAnyIn Fence.wide m P .any ops.toArray (drawQ PP Q a.defers N) (ops.length-n) (canon ops.toArray.size n) a' W')->(Code.region id ops.toArray true).wpIn F m P Q a W:=by
 obtain ⟨fr1,s1,K,L,ms,E,S,st,hM,hk,H⟩:=opsH_sound hc _ _ _ _ _ _ (show (killS (M.map (·.1)) s).lo≤(killS (M.map (·.1)) s).next from hl) h
 replace hM:=allM_map hM;obtain ⟨hbs,hM⟩:=hM;rw[setAllC_eq] at hk;clear h;have O:OwnS ms s (killS (M.map (·.1)) s):=by
  refine ⟨rfl,rfl,rfl,fun k hk=>((kill_get _ _ k).1 fun hm=>?_).symm,fun m hm hlt=>?_,fun m hm=>(kill_get _ _ m.b).2 (.inl ?_),fun m hm=>?_,hbs ▸ hMd⟩
  ·rw[hbs] at hm;obtain ⟨m,h1,h2⟩:=List.mem_map.1 hm;exact hk m h1 h2
  ·exact (hMs (m.b,m.old) (hM m hm hlt)).1.resolve_right fun h=>by
    have h:s.next≤m.b:=h;have hlt:m.b<s.next:=hlt;omega
  ·rw[hbs];exact List.mem_map.2 ⟨m,hm,rfl⟩
  ·have hmm:m.b∈M.map (·.1):=by rw[hbs];exact List.mem_map.2 ⟨m,hm,rfl⟩
   obtain ⟨x,hx,ex⟩:=List.mem_map.1 hmm;rw[← ex];exact (hMs x hx).2
 clear hMs hMd hbs hM;generalize killS (M.map (·.1)) s=s0 at *
 have hl0:s0.lo≤s0.next:=by rw[← O.lo,← O.next];exact hl
 have hst1:=H.stp hl0;have htl:(ops.take n).length=n:=by simp;omega
 have hloop:∀m∈ms,isLoop (some m.old)=false:=fun m hm=>by
  obtain ⟨i,hi⟩:=H.kal m hm;have hlt:=(H.kin i m hi).2;have:=(H.ent i (ops.take n)[i] (E[i]'(by rw[H.len];exact hlt)) (List.getElem?_eq_getElem hlt) (List.getElem?_eq_getElem _)).2.2
  rw[hi] at this;cases hL:L i<;>(rw[hL] at this;exact this.2.1)
 have hgetE:∀k,(∀m∈ms,m.b≠k)->(overS ms true s1).heap.get k=s1.heap.get k:=fun k hk=>(fold_get ms _ k).1 hk
 have hgetM:∀m∈ms,(overS ms true s1).heap.get m.b=m.new:=fun m hm=>(fold_get (f:=fun m=>if true=true then m.new else some m.old) ms s1.heap 0).2 O.dis m hm
 have hstE:Stp s (overS ms true s1):=by
  refine ⟨by rw[O.next];exact hst1.next,hst1.lo.trans O.lo.symm,hst1.glb.trans O.glb.symm,fun k hk=>?_,fun hd k hk=>?_,fun hd k hk=>?_⟩
  ·have hne:∀m∈ms,m.b≠k:=fun m hm e=>by have:=O.ge m hm;rw[← O.lo,e] at this;omega
   rw[hgetE k hne,hst1.keep k (by rw[← O.lo];exact hk),O.out k hne]
  ·by_cases hm:∃m∈ms,m.b=k
   ·obtain ⟨m,hm,rfl⟩:=hm;rcases H.inr hm with hlt|hge
    ·exact Nat.lt_of_lt_of_le hlt hst1.next
    ·exact hge.2
   ·rw[hgetE k fun m h1 e=>hm ⟨m,h1,e⟩] at hk
    refine hst1.dom (fun k' hk'=>?_) k hk
    have:s.heap.get k'=s0.heap.get k':=O.out k' fun m hm e=>hk' (by rw[← e];exact O.gone m hm)
    rw[← O.next];exact hd k' (by rw[this];exact hk')
  ·have hne:∀m∈ms,m.b≠k:=fun m hm e=>by
    rcases H.inr hm with hlt|hge
    ·rw[← e,O.at_ m hm hlt,hloop m hm] at hk;cases hk
    ·have h1:k<s.next:=hd k fun h0=>by rw[h0] at hk;cases hk
     rw[O.next] at h1;omega
   rw[hgetE k hne];refine hst1.kl (fun k' hk'=>?_) k (by rw[← O.out k hne];exact hk)
   have:s.heap.get k'=s0.heap.get k':=O.out k' fun m hm e=>hk' (by rw[← e];exact O.gone m hm)
   rw[← O.next];exact hd k' (by rw[this];exact hk')
 refine ⟨fr1,overS ms true s1,hk,hstE,fun F m W0 β a W id Q PP hW hR hf hF hPP hn=>?_⟩
 have hf:Free β s.next s1.next:=hf;have hdom0:∀k,s0.heap.get k≠none->k<s0.next:=fun k' hk'=>by
  have:s.heap.get k'=s0.heap.get k':=O.out k' fun m hm e=>hk' (by rw[← e];exact O.gone m hm)
  rw[← O.next];exact hR.dom k' (by rw[this];exact hk')
 have hg0:∀m∈ms,s0.heap.get m.b=none∧s0.lo≤m.b:=fun m hm=>⟨O.gone m hm,O.ge m hm⟩
 have hf0:Free β s0.next s1.next:=by rw[← O.next];exact hf
 simp only[stopG,Bool.and_eq_true,Bool.or_eq_true,decide_eq_true_eq] at hck;obtain ⟨⟨⟨hp,hb⟩,htail⟩,⟨hnd,hns⟩,hearly⟩:=hck;have hdl:(ops.drop n).length=ops.length-n:=by simp
 have hget:∀j,j<n->ops.toArray[j]?=(ops.take n)[j]?:=fun j hj=>by simp[List.getElem?_take_of_lt hj]
 refine wpIn_mono (Q:=drawQ PP Q a.defers N) ?_ (by
  intro e a1 w1 h;cases e;case normal=>exact h
  case panic c=>exact hPP c a1 w1 h.1 h.2.1 h.2.2
  all_goals exact h.elim)
 have hpan0:∀(dst:Option Tmp) (v:Value) c a1 w,drawQ PP Q a.defers N (.panic c) (a1.put dst v) w->drawQ PP Q a.defers N (.panic c) a1 w:=fun dst v c a1 w h=>by
  cases dst with
  |none=>exact h
  |some d=>exact ⟨h.1,by have:=h.2.1;simpa [Act.put] using this,h.2.2⟩
 have hlet0:¬LetsOut (drawQ PP Q a.defers N):=fun ⟨a,w,h⟩=>h.elim
 generalize drawQ PP Q a.defers N=Q' at hn hpan0 hlet0 ⊢
 have hpan:=hpan0;have hlet:=hlet0;refine wpIn_region_any hm (any_wf hW hnd ?_);have inv0:HeadInv .any ops.toArray n (Array.replicate ops.toArray.size false) :=
  ⟨by simp,fun j oj _ hl=>(by rw[getD_replicate_false] at hl;cases hl),fun t _ ht=>getD_in (by simpa using ht) (getD_replicate_false _ _)⟩
 have hcnt:∀m,cnt (Array.replicate ops.toArray.size false) m=m:=fun m=>by
  induction m with
  |zero=>rfl
  |succ m ih=>unfold cnt;rw[ih,getD_replicate_false];simp
 have hR1:Rel P W0 β s { W with drawn:=W.drawn+1 }:=hR.later ⟨rfl,rfl,rfl,Nat.le_refl _,fun _ _=>rfl⟩
 have I0:InvC P ops.toArray E K (sfC fr) n N W0 β s0 s1 st a.defers W (Array.replicate ops.toArray.size false) a { W with drawn:=W.drawn+1 } β :=
  ⟨H.start O (fun i=>getD_replicate_false _ _) hR1 hf0,⟨.refl _,fun _ _=>rfl⟩,fun t=>by
   rw[slC_cut 0 n zL fun i _ _ _=>getD_replicate_false _ _];exact fun u hu=>hF.at_ t u hu,hF.size,rfl,KD.below ⟨rfl,rfl,rfl,Nat.le_refl _,fun _ _=>rfl⟩,fun i hi _=>by
   have m1:=H.nx (i:=0) i zL (by omega)
   have m2:=H.nx (i:=i+1) (ops.take n).length (by omega) rL
   rw[H.t0] at m1;rw[H.t1] at m2;exact fun k h1 h2=>hf0 k (by omega) (by omega),fun i m _ hl=>by rw[getD_replicate_false] at hl;cases hl⟩
 have HH:=anyC_invG (P:=P) (Q:=Q') (F:=Fence.wide) (m:=m) (W0:=W0) (β0:=β) (ds:=a.defers) (WS:=W) (g:=ops.length-n) (.inl rfl) H hnl hl0 hdom0 hg0 O.dis hp hb (by simpa [and_assoc] using htail)
  (fun listed a1 W1 β' inv hall I=>by
   have hcan:=canon_of inv hall;have hfin:FrR β' N fr1 a1:=⟨I.size,fun t u hu=>by
    have:=I.slots t;rw[slC_same (L':=fun _=>true) n (fun i hi _=>hall i hi),slC_text H.s0 (fun j o e hj he=>(H.ent j o e hj he).1) (fun j hj=>hget j (by omega)) H.len n (by omega)] at this;have e:=H.s1
    rw[htl] at e;rw[e] at this;exact this u hu,?_⟩
   ·have hrelE:Rel P W0 β' (overS ms true s1) W1:=by
     obtain ⟨sF,hov,hRF⟩:=I.rel;refine hRF.alike (fun k=>?_) hov.next.symm hov.lo.symm hov.glb.symm
     by_cases hm:∃m∈ms,m.b=k
     ·obtain ⟨m,hm,rfl⟩:=hm;obtain ⟨i,hi⟩:=H.kal m hm;rw[hgetM m hm,hov.at_ i m hi,hall i (by have:=(H.kin i m hi).2;omega)];rfl
     ·rw[hgetE k fun m h1 e=>hm ⟨m,h1,e⟩,hov.out k fun i m hi e=>hm ⟨m,(H.kin i m hi).1,e⟩]
    have hext:Ext W0.heap.size β β' s.next s1.next:=by rw[O.next];exact I.ext
    have hlist:=hn a1 W1 ⟨β',hext,hrelE,hfin,I.kd,I.dfr⟩;rw[hcan];exact hlist
   ·exact H.slots hF.lt)
 have e:n+(ops.length-n)=ops.toArray.size:=by simp;omega
 -- the moves that come first
 have first:∀(l:List Nat) (listed:Array Bool) (a1:Act) (W1:World) (β1:Bt) (f:Nat),(∀i∈l,i<n)->(∀i∈l,i∈earlyL ops.toArray n)->earlyB ops.toArray l listed=true->HeadInv .any ops.toArray n listed->(∀i∈earlyL ops.toArray n,i∈l∨listed.getD i false=true)->cnt listed n=f->InvC P ops.toArray E K (sfC fr) n N W0 β s0 s1 st a.defers W listed a1 W1 β1->wpAnyIn Fence.wide m P .any ops.toArray Q' (f+(ops.length-n)) listed a1 W1:=by
  intro l;induction l with
  |nil =>
   intro listed a1 W1 β1 f _ _ _ inv hE hc I;exact HH f listed a1 W1 β1 inv (fun i hi=>(hE i hi).resolve_left (by simp)) hc I
  |cons i l ih =>
   intro listed a1 W1 β1 f hl2 hl3 hB inv hE hc I;simp only[earlyB,Bool.and_eq_true] at hB;obtain ⟨⟨⟨hmv,hrd⟩,hfr⟩,hB⟩:=hB;have hin:i<n:=hl2 i (by simp)
   split at hmv
   ·rename_i oi hoi;have hri:i∈Region.ready .any ops.toArray listed:=by simpa using hrd
    have hiE:E[i]?=some (E[i]'(by rw[H.len];omega)):=List.getElem?_eq_getElem _
    simp only[isEarly,Bool.and_eq_true,Option.isNone_iff_eq_none] at hmv;obtain ⟨hgd,_⟩:=hmv;have hoi':(ops.take n)[i]?=some oi:=by rw[← hget i hin];exact hoi
    have hslots:∀t∈oi.looksAt ops.toArray,S i t β1 (a1.tmps.getD t undef):=fun t ht=>by
     have:=I.slots t;rw[slC_ready hp inv hri hin hoi ht,slC_text H.s0 (fun j o e hj he=>(H.ent j o e hj he).1) (fun j hj=>hget j (by omega)) H.len i (by omega)] at this;exact this
    obtain ⟨v,hex,habout⟩:=H.early i oi hoi' (by rw[Nat.zero_add];exact hl3 i (by simp)) β1 a1 hslots
    have hstep:=invC_step (P:=P) (F:=Fence.wide) (m:=m) (Q:=Q') (KK:=fun a' W'=>∃β',InvC P ops.toArray E K (sfC fr) n N W0 β s0 s1 st a.defers W (listed.setIfInBounds i true) a' W' β') (.inl rfl) H hnl hl0 hdom0 hg0 O.dis hp inv hri hin hoi hiE I fun a' W' β' I'=>⟨β',I'⟩
    have hwan:Region.wanted oi (yielded ops.toArray a1.tmps)=true:=by simp[Region.wanted,hgd]
    have hdef:∀c,oi.op≠.defer c:=fun c hc=>by
     have h9:=hex W1;simp only[execOp,hc,Sem.run_bind] at h9;generalize (resolve a1.eval c oi.type).run P W1=r at h9
     cases r with
     |ok d w=>cases h9
     |halt x w=>cases h9
    obtain ⟨β',I'⟩:∃β',InvC P ops.toArray E K (sfC fr) n N W0 β s0 s1 st a.defers W (listed.setIfInBounds i true) (a1.put oi.dst v) W1 β':=by
     unfold wpOpIn at hstep;simp only[hoi,hwan,if_true] at hstep;have h2:=hstep.2;rw[Oper.semAt_eq _ _ _ hdef,hex W1] at h2;exact h2
    have hju:=(mem_ready.1 hri).1;have hja:=(Array.getElem?_eq_some_iff.1 hoi).1;have hcs:=cnt_set (getD_both hju) (by rw[inv.size];exact hja) n
    rw[if_pos hin] at hcs;obtain ⟨f',rfl⟩:∃f',f=f'+1:=⟨f-1,by omega⟩
    rw[Nat.succ_add];refine wpAnyIn_take rfl hoi hns hfr hrd (hpan _ _) ⟨.inl ⟨hwan,hex⟩,habout⟩ ?_;refine ih _ _ _ β' f' (fun k hk=>hl2 k (by simp[hk])) (fun k hk=>hl3 k (by simp[hk])) hB (inv.set hri hin) (fun k hk=>?_) (by omega) I'
    rcases hE k hk with h|h
    ·rcases List.mem_cons.1 h with rfl|h
     ·right
      have hlt:k<listed.size:=by rw[inv.size];exact hja
      simp[hlt]
     ·exact .inl h
    ·exact .inr (getD_set_true h)
   ·cases hmv
 have hfin:=first (earlyL ops.toArray n) (Array.replicate ops.toArray.size false) a _ β n (fun i hi=>by
  unfold earlyL at hi;split at hi
  ·exact (earlyF_lt n [] i hi).resolve_left (by simp)
  ·cases hi) (fun i hi=>hi) (by simpa using hearly) inv0 (fun i hi=>.inl hi) (hcnt n) I0
 rw[e] at hfin;exact hfin
end
inductive Plan where
 |done
 |one (i:Nat) (p:Plan)
 |two (i j:Nat) (p q:Plan)
def Plan.size:Plan->Nat
 |.done=>0
 |.one _ p=>p.size+1
 |.two _ _ p _=>p.size+1
def planB (ops:Array Oper):Plan->Array Bool->Bool
 |.done,l=>(Region.ready .any ops l).isEmpty
 |.one i p,l=>decide (Region.ready .any ops l=[i])&&planB ops p (l.setIfInBounds i true)
 |.two i j p q,l=>decide (Region.ready .any ops l=[i,j])&&decide (q.size=p.size)&&planB ops p (l.setIfInBounds i true)&&planB ops q (l.setIfInBounds j true)
noncomputable def opAt (ops:List Oper) (i:Nat):Option Oper:=List.rec (motive:=fun _=>Nat->Option Oper) (fun _=>none) (fun o _ ih i=>match i with|0=>some o|i+1=>ih i) ops i
theorem opAt_eq:∀(ops:List Oper) (i:Nat),opAt ops i=ops[i]?
 |[],i=>rfl
 |o::l,0=>rfl
 |o::l,i+1=>by
  show opAt l i=_
  rw[opAt_eq l i];simp
section
variable {R : Type} {D : DomX R} {P : Program} {cf : CallF R} {fr : Tr Value} {s : AS} {o : Oper} {N : Nat} {cx : CallFX R}
noncomputable def planD (D:DomX R) (P:Program) (cf:CallF R) (cx:CallFX R) (N:Nat) (ops:List Oper) (kp:Value->AS->R) (pl:Plan):Tr Value->AS->(Tr Value->AS->R)->R :=
 Plan.rec (motive:=fun _=>Tr Value->AS->(Tr Value->AS->R)->R) (fun fr s k=>k fr s)
  (fun i _ ih fr s k=>match opAt ops i with
   |some o=>stepX D P cf cx N ops kp o ih fr s k
   |none=>D.bad)
  (fun i j _ _ ih ih2 fr s k=>D.all [0,1] fun b=>match b with
   |0=>(match opAt ops i with
    |some o=>stepX D P cf cx N ops kp o ih fr s k
    |none=>D.bad)
   |_=>(match opAt ops j with
    |some o=>stepX D P cf cx N ops kp o ih2 fr s k
    |none=>D.bad)) pl
theorem stepD_op (hc:CallOk P D.toDom cf) (hx:CallX P D cx) {ops:List Oper}{F:Fence}{n:Nat}(hW:WF F) {W0:World}{Q:Exit->Act->World->Prop}{kp:Value->AS->R}{o:Oper}{i:Nat}(hi:ops[i]?=some o) {ih:Tr Value->AS->(Tr Value->AS->R)->R}{fr0:Tr Value}{s:AS}{k:Tr Value->AS->R}(hl:s.lo≤s.next) (h:D.T (stepX D P cf cx N ops kp o ih fr0 s k)) {KK:Act->World->Prop}
  {β:Bt}{a:Act}{W:World}(hR:Rel P W0 β s W) (hf:FreeA β s.next) (hF0:FrR β N fr0 a) (hp:∀v s' a' W',D.T (kp v s')->StpX s s'->AfterX P W0 N β s s' .e a W a' W'->Q (.panic [{ v:=v,recovered:=false }]) a' W') (hn:∀fr' s' a' W',D.T (ih fr' s' k)->StpX s s'->AfterX P W0 N β s s' fr' a W a' W'->KK a' W'):wpOpIn F n P ops.toArray Q i KK a W:=by
 replace h:D.T (litG D.toDom ops o fr0 fun fr=>guardK (guardC ops o fr) (opX D P cf cx o fr s kp) s D.bad fun u s=>putF D.toDom N o.dst u fr fun fr=>ih fr s k):=h
 replace h:=litG_sound h;obtain ⟨fr,hfrx,h⟩:=h;have hF:=hF0.ext hfrx;unfold guardK at h;have hi':ops.toArray[i]?=some o:=by simpa using hi
 unfold wpOpIn;simp only[hi'];split at h
 ·rename_i hg;rw[if_pos (guardC_sound hg fun t _ u hu=>hF.at_ t u hu)];refine (opX_sound (D:=D) hc hx hl h hR hf (hF.op hR o)).step (D:=D) hW (opX_plain (D:=D) hc hl h hR hf (hF.op hR o)) (fun v s1 W' h1 hst hL=>hp _ _ _ _ h1 hst (.none hL hF.size)) fun u s1 v W' h1 hst ⟨β',q1,q2,q3,q4⟩=>?_
  replace h1:D.T _:=h1;obtain ⟨hd,h1⟩:=putF_sound h1;exact hn _ _ _ _ h1 hst ⟨β',q1,q2,(hF.growX (q1.le hf)).put hd q3,q4,by cases o.dst<;>rfl⟩
 ·rename_i hg;replace h:D.T _:=h;replace h:=putF_sound h;obtain ⟨hd,h⟩:=h;rw[if_neg (by rw[guardC_sound hg fun t _ u hu=>hF.at_ t u hu];simp)]
  exact ⟨fun f _=>hW.fn f,hn _ _ _ _ h (.refl _) ⟨β,.refl hf,hR,hF.put hd (.undef _),.refl _,by cases o.dst<;>rfl⟩⟩
 ·exact absurd h D.nb
theorem planD_sound (hc:CallOk P D.toDom cf) (hx:CallX P D cx) {ops:List Oper}{F:Fence}{n:Nat}(hW:WF F) {W0:World}{Q:Exit->Act->World->Prop}{kp:Value->AS->R}:∀(pl:Plan) (listed:Array Bool) (fr:Tr Value) (s:AS) (k:Tr Value->AS->R),s.lo≤s.next->planB ops.toArray pl listed=true->D.T (planD D P cf cx N ops kp pl fr s k) ->
  ∀(β:Bt) (a:Act) (W:World),Rel P W0 β s W->FreeA β s.next->FrR β N fr a->(∀v s' a' W',D.T (kp v s')->StpX s s'->AfterX P W0 N β s s' .e a W a' W'->Q (.panic [{ v:=v,recovered:=false }]) a' W')->(∀fr' s' a' W',D.T (k fr' s')->StpX s s'->AfterX P W0 N β s s' fr' a W a' W'->Q .normal a' W')->wpAnyIn F n P .any ops.toArray Q pl.size listed a W
 |.done,listed,fr,s,k,hl,hB,h,β,a,W,hR,hf,hF,hp,hn=>⟨List.isEmpty_iff.1 hB,hn _ _ _ _ h (.refl _) ⟨β,.refl hf,hR,hF,.refl _,rfl⟩⟩
 |.one i p,listed,fr,s,k,hl,hB,h,β,a,W,hR,hf,hF,hp,hn=>by
  simp only[planB,Bool.and_eq_true,decide_eq_true_eq] at hB;refine ⟨fun h0=>(by rw[hB.1] at h0;cases h0),fun j hj=>?_⟩
  rw[hB.1] at hj;obtain rfl:j=i:=by simpa using hj
  replace h:D.T (match opAt ops j with|some o=>stepX D P cf cx N ops kp o (planD D P cf cx N ops kp p) fr s k|none=>D.bad):=h
  rw[opAt_eq] at h;split at h
  ·rename_i o ho;refine stepD_op hc hx hW ho hl h hR hf hF hp fun fr' s' a' W' h1 hst ⟨β1,q1,q2,q3,q4,q5⟩=>?_
   exact planD_sound hc hx hW p _ fr' s' k (hst.le hl) hB.2 h1 β1 a' W' q2 q1.free q3 (fun v s2 a2 W2 h2 hst2 ⟨β2,p1,p2,p3,p4,p5⟩=>hp _ _ _ _ h2 (hst.trans hst2) ⟨β2,q1.trans p1 hst.next,p2,p3,q4.trans p4,p5.trans q5⟩) fun fr2 s2 a2 W2 h2 hst2 ⟨β2,p1,p2,p3,p4,p5⟩=>hn _ _ _ _ h2 (hst.trans hst2) ⟨β2,q1.trans p1 hst.next,p2,p3,q4.trans p4,p5.trans q5⟩
  ·exact absurd h D.nb
 |.two i j p q,listed,fr,s,k,hl,hB,h,β,a,W,hR,hf,hF,hp,hn=>by
  simp only[planB,Bool.and_eq_true,decide_eq_true_eq] at hB;obtain ⟨⟨⟨hr,hsz⟩,hB1⟩,hB2⟩:=hB;have h1:D.T (match opAt ops i with|some o=>stepX D P cf cx N ops kp o (planD D P cf cx N ops kp p) fr s k|none=>D.bad):=D.all_ok _ _ h 0 (by simp)
  have h2:D.T (match opAt ops j with|some o=>stepX D P cf cx N ops kp o (planD D P cf cx N ops kp q) fr s k|none=>D.bad):=D.all_ok _ _ h 1 (by simp)
  rw[opAt_eq] at h1 h2;refine ⟨fun h0=>(by rw[hr] at h0;cases h0),fun x hx'=>?_⟩
  rw[hr] at hx'
  have hx':x=i∨x=j:=by simpa using hx'
  rcases hx' with rfl|rfl
  ·split at h1
   ·rename_i o ho;refine stepD_op hc hx hW ho hl h1 hR hf hF hp fun fr' s' a' W' h1 hst ⟨β1,q1,q2,q3,q4,q5⟩=>?_
    exact planD_sound hc hx hW p _ fr' s' k (hst.le hl) hB1 h1 β1 a' W' q2 q1.free q3 (fun v s2 a2 W2 h2 hst2 ⟨β2,p1,p2,p3,p4,p5⟩=>hp _ _ _ _ h2 (hst.trans hst2) ⟨β2,q1.trans p1 hst.next,p2,p3,q4.trans p4,p5.trans q5⟩) fun fr2 s2 a2 W2 h2 hst2 ⟨β2,p1,p2,p3,p4,p5⟩=>hn _ _ _ _ h2 (hst.trans hst2) ⟨β2,q1.trans p1 hst.next,p2,p3,q4.trans p4,p5.trans q5⟩
   ·exact absurd h1 D.nb
  ·split at h2
   ·rename_i o ho;refine stepD_op hc hx hW ho hl h2 hR hf hF hp fun fr' s' a' W' h1 hst ⟨β1,q1,q2,q3,q4,q5⟩=>?_
    have:=planD_sound hc hx hW (n:=n) (F:=F) (W0:=W0) (Q:=Q) (kp:=kp) q _ fr' s' k (hst.le hl) hB2 h1 β1 a' W' q2 q1.free q3 (fun v s2 a2 W2 h2 hst2 ⟨β2,p1,p2,p3,p4,p5⟩=>hp _ _ _ _ h2 (hst.trans hst2) ⟨β2,q1.trans p1 hst.next,p2,p3,q4.trans p4,p5.trans q5⟩) fun fr2 s2 a2 W2 h2 hst2 ⟨β2,p1,p2,p3,p4,p5⟩=>hn _ _ _ _ h2 (hst.trans hst2) ⟨β2,q1.trans p1 hst.next,p2,p3,q4.trans p4,p5.trans q5⟩
    rwa [hsz] at this
   ·exact absurd h2 D.nb
def planOf (ops:Array Oper):Nat->Array Bool->Option Plan
 |0,_=>none
 |f+1,l=>match Region.ready .any ops l with
  |[]=>some .done
  |[i]=>(planOf ops f (l.setIfInBounds i true)).map (.one i)
  |[i,j]=>match planOf ops f (l.setIfInBounds i true),planOf ops f (l.setIfInBounds j true) with
   |some p,some q=>some (.two i j p q)
   |_,_=>none
  |_=>none
def planAt (ops:List Oper) (n:Nat):Option Plan :=
 match stopG ops n with
 |true=>(match planOf ops.toArray (ops.length+1) (canon ops.toArray.size n) with
  |some pl=>(match planB ops.toArray pl (canon ops.toArray.size n)&&decide (pl.size=ops.length-n)&&Nat.ble n ops.length with
   |true=>some pl
   |false=>none)
  |none=>none)
 |false=>none
theorem planAt_spec {ops:List Oper}{n:Nat}{pl:Plan}(h:planAt ops n=some pl):stopG ops n=true∧planB ops.toArray pl (canon ops.toArray.size n)=true∧pl.size=ops.length-n∧n≤ops.length:=by
 unfold planAt at h;split at h
 ·rename_i h1;split at h
  ·rename_i pl' h2
   split at h
   ·rename_i h3;cases h;simp only[Bool.and_eq_true,decide_eq_true_eq] at h3;exact ⟨h1,h3.1.1,h3.1.2,bR h3.2⟩
   ·cases h
  ·cases h
 ·cases h
noncomputable def drawG1 (D:DomX R) (P:Program) (cf:CallF R) (cx:CallFX R) (N:Nat) (ops:List Oper) (fr:Tr Value) (s:AS) (kp:Value->AS->R) (k:Tr Value->AS->R) (n:Nat):R :=
 match planAt ops n with
 |some pl=>opsHX D.toDom P cf N ops (earlyL ops.toArray n) 0 (ops.take n) [] fr s fun fr s news=>setAllC news s fun s=>planD D P cf cx N ops kp pl fr s k
 |none=>D.bad
noncomputable def drawXG (D:DomX R) (P:Program) (cf:CallF R) (cx:CallFX R) (N:Nat) (ops:List Oper) (fr:Tr Value) (s:AS) (kp:Value->AS->R) (k:Tr Value->AS->R):R :=
 Nat.rec (motive:=fun _=>R) D.bad (fun n ih=>D.alt (drawG1 D P cf cx N ops fr s kp k n) ih) ops.length
theorem drawG1_sound (hm:P.follows .mixedOrders=true) (hc:CallOk P D.toDom cf) (hx:CallX P D cx) {ops:List Oper}{kp:Value->AS->R}{k:Tr Value->AS->R}(hl:s.lo≤s.next) {n:Nat}(h:D.T (drawG1 D P cf cx N ops fr s kp k n)) {F:Fence}{m:Nat}{W0:World}{β:Bt}{a:Act}{W:World}(id:Nat) {Q:Exit->Act->World->Prop}(hW:WF F) (hR:Rel P W0 β s W) (hf:FreeA β s.next) (hF:FrR β N fr a) (hp:∀v s' a' W',D.T (kp v s')->StpX s s'->AfterX P W0 N β s s' .e a W a' W'->Q (.panic [{ v:=v,recovered:=false }]) a' W') (hn:∀fr' s' a' W',D.T (k fr' s')->StpX s s'->AfterX P W0 N β s s' fr' a W a' W'->Q .normal a' W'):(Code.region id ops.toArray true).wpIn F m P Q a W:=by
 unfold drawG1 at h;split at h
 ·rename_i pl hpl;obtain ⟨hck,hB,hsz,hnl⟩:=planAt_spec hpl;rw[opsHX_eq] at h;obtain ⟨fr1,sE,hk,hstE,hrun⟩:=drawHead_soundG (D:=D.toDom) (M:=[]) hm hc hnl hck hl (fun x hx=>by cases hx) .nil h
  refine hrun F m W0 β a W id Q (fun c W'=>∃v s' a0,c=[{ v:=v,recovered:=false }]∧D.T (kp v s')∧StpX s s'∧AfterX P W0 N β s s' .e a W a0 W') hW hR hf.free hF (fun c a' W' hd hs ⟨v,s',a0,e1,e2,e3,e4⟩=>by
   subst e1;exact hp _ _ _ _ e2 e3 (e4.other hd hs)) fun a1 W1 hA=>?_
  obtain ⟨β1,q1,q2,q3,q4,q5⟩:=hA.x hf hstE.next;rw[← hsz];refine planD_sound hc hx (.inl rfl) pl _ _ _ _ (hstE.x.le hl) hB hk β1 a1 W1 q2 q1.free q3 (fun v s' a' W' h2 hst2 ⟨β2,p1,p2,p3,p4,p5⟩=>⟨p5.trans q5,p3.size,v,s',a',rfl,h2,hstE.x.trans hst2,β2,q1.trans p1 hstE.next,p2,p3,q4.trans p4,p5.trans q5⟩) fun fr' s' a' W' h2 hst2 ⟨β2,p1,p2,p3,p4,p5⟩=>hn _ _ _ _ h2 (hstE.x.trans hst2) ⟨β2,q1.trans p1 hstE.next,p2,p3,q4.trans p4,p5.trans q5⟩
 ·exact absurd h D.nb
theorem drawXG_sound (hm:P.follows .mixedOrders=true) (hc:CallOk P D.toDom cf) (hx:CallX P D cx) {ops:List Oper}{kp:Value->AS->R}{k:Tr Value->AS->R}(hl:s.lo≤s.next) (h:D.T (drawXG D P cf cx N ops fr s kp k)) {F:Fence}{m:Nat}{W0:World}{β:Bt}{a:Act}{W:World}(id:Nat) {Q:Exit->Act->World->Prop}(hW:WF F) (hR:Rel P W0 β s W) (hf:FreeA β s.next) (hF:FrR β N fr a) (hp:∀v s' a' W',D.T (kp v s')->StpX s s'->AfterX P W0 N β s s' .e a W a' W'->Q (.panic [{ v:=v,recovered:=false }]) a' W') (hn:∀fr' s' a' W',D.T (k fr' s')->StpX s s'->AfterX P W0 N β s s' fr' a W a' W'->Q .normal a' W'):(Code.region id ops.toArray true).wpIn F m P Q a W:=by
 unfold drawXG at h;generalize ops.length=f at h
 induction f with
 |zero=>exact absurd h D.nb
 |succ f ih =>
  rcases D.alt_ok _ _ h with h|h
  ·exact drawG1_sound hm hc hx hl h id hW hR hf hF hp hn
  ·exact ih h
noncomputable def drawX (D:DomX R) (P:Program) (cf:CallF R) (cx:CallFX R) (N:Nat) (ops:List Oper) (fr:Tr Value) (s:AS) (kp:Value->AS->R) (k:Tr Value->AS->R):R :=
 D.alt (drawXN D P cf cx N ops fr s kp k) (D.alt (drawXL D P cf cx N ops fr s kp k) (D.alt (drawP D P cf cx N ops fr s kp) (drawXG D P cf cx N ops fr s kp k)))
theorem drawX_sound (hm:P.follows .mixedOrders=true) (hc:CallOk P D.toDom cf) (hx:CallX P D cx) {ops:List Oper}{kp:Value->AS->R}{k:Tr Value->AS->R}(hl:s.lo≤s.next) (h:D.T (drawX D P cf cx N ops fr s kp k)) {F:Fence}{m:Nat}{W0:World}{β:Bt}{a:Act}{W:World}(id:Nat) {Q:Exit->Act->World->Prop}(hW:WF F) (hR:Rel P W0 β s W) (hf:FreeA β s.next) (hF:FrR β N fr a) (hp:∀v s' a' W',D.T (kp v s')->StpX s s'->AfterX P W0 N β s s' .e a W a' W'->Q (.panic [{ v:=v,recovered:=false }]) a' W') (hn:∀fr' s' a' W',D.T (k fr' s')->StpX s s'->AfterX P W0 N β s s' fr' a W a' W'->Q .normal a' W'):(Code.region id ops.toArray true).wpIn F m P Q a W:=by
 rcases D.alt_ok _ _ h with h|h
 ·exact drawXN_sound hm hc hx hl h id hW hR hf hF hp hn
 ·rcases D.alt_ok _ _ h with h|h
  ·unfold drawXL at h;split at h
   ·rename_i n hn'
    obtain ⟨hnl,hck⟩:=headN_spec _ hn';exact drawXAt_sound (M:=[]) hm hc hx hl (Nat.le_trans hnl (Nat.pred_le _)) (freeAtC_stop hck) (fun x hx=>by cases hx) .nil h id hW hR hf hF hp hn
   ·exact absurd h D.nb
  ·rcases D.alt_ok _ _ h with h|h
   ·exact drawP_sound hm hc hx hl h id hW hR hf hF hp
   ·exact drawXG_sound hm hc hx hl h id hW hR hf hF hp hn
end
end Go.Proofs.YtcihknonfcldeaaDoor.U
