
import Derived.Test.YtcihknonfcldeaaDoorKT19
namespace Go.Proofs.YtcihknonfcldeaaDoor.U
open Go Go.RowKit Go.Sort
set_option linter.unusedVariables false
set_option linter.unusedSimpArgs false
set_option maxRecDepth 100000
set_option maxHeartbeats 40000000
inductive FrzOne (kf:Nat) (xs:List Value):Value->Value->Prop where
 |nil (h:xs=[]):FrzOne kf xs (imS []) (.slice none 0 0)
 |row (ys:List Value) (z m c:Nat) (hx:xs≠[]) (e:cellsAll ys=xs) (hm:ys.length=m) (hc:ys.length≤c) (hz:∀y,y∈ys->(cellsOf y).length=z) (h:∀x,x∈xs->NoNm x):FrzOne kf xs (imS ys) (.slice (some ⟨kf,0,none⟩) m c)
 |box (x:Value) (off:Nat) (hx:xs≠[]) (e:cellsOf x=xs) (h:∀x,x∈xs->NoNm x):FrzOne kf xs (imP x off) (.pointer (some ⟨kf,off,none⟩))
theorem Cov.gen {P:Program}{N n0:Nat}{fr:Tr Value}{s:AS}(ρ:Nat->Nat) (kf:Nat) (F:Value->Value->Prop) {T:TypeId}{op:Bool}{xs:List Value}{fr1:Tr Value}{h1:Tr Blk}{n lo glb:Nat}(e1:lo=s.lo) (e2:glb=s.glb) (hn:n0≤n) (hg:glb≤n0) (hρ:∀k,k<n0->ρ k=k)
  (hget:∀k b,h1.get k=some b->k<n∧(lo≤k->lo≤ρ k)∧(xs≠[]->ρ k≠kf)∧∃b',s.heap.get (ρ k)=some b'∧RenB n ⟨ρ,F⟩ b b')
  (hinj:∀k k',h1.get k≠none->h1.get k'≠none->ρ k=ρ k'->k=k') (hkeep:∀k,k<lo->h1.get k=s.heap.get k)
  (hkf:s.lo≤kf) (hk:xs≠[]->s.heap.get kf=some (.cells T xs op)) (hFr:∀u1 u,F u1 u->FrzOne kf xs u1 u)
  (hf:∀t u,Tr.at (pt t) fr1=some u->∃v,Tr.at (pt t) fr=some v∧RenV n ⟨ρ,F⟩ u v):Cov P N n0 fr s fr1 ⟨h1,n,lo,glb⟩:=by
 subst e1;subst e2;have hk0:=hk;have hne:∀k,h1.get k≠none->s.heap.get (ρ k)≠none∧k<n∧(s.lo≤k->s.lo≤ρ k)∧(xs≠[]->ρ k≠kf):=fun k h=>by
  obtain ⟨b,hbk⟩:=Option.ne_none_iff_exists'.1 h;obtain ⟨q1,q2,q3,b',q4,_⟩:=hget k b hbk;exact ⟨by rw[q4];simp,q1,q2,q3⟩
 refine ⟨rfl,rfl,hn,hkeep,fun W0 β W a hR hfa hF=>?_⟩
 let zf:Nat->Nat->Option Value:=fun r o=>match β kf with
  |some x=>if r=x.1∧o<xs.length then fzc W ⟨r,o,none⟩ else β.z r o
  |none=>β.z r o
 let β1:Bt:=⟨fun k=>if k<n then β (ρ k) else none,zf⟩
 have hzg:∀r o x,β.z r o=some x->zf r o=some x:=fun r o x hx=>by
  show (match β kf with|some y=>if r=y.1∧o<xs.length then fzc W ⟨r,o,none⟩ else β.z r o|none=>β.z r o)=_
  split
  ·split
   ·exact (hR.frz r o x hx).1
   ·exact hx
  ·exact hx
 have hzo:∀r o x,zf r o=some x->β.z r o=some x∨(∃sp,β kf=some (r,sp)∧o<xs.length∧fzc W ⟨r,o,none⟩=some x):=fun r o x hx=>by
  have hx:(match β kf with|some y=>if r=y.1∧o<xs.length then fzc W ⟨r,o,none⟩ else β.z r o|none=>β.z r o)=some x:=hx
  split at hx
  ·rename_i y hy;split at hx
   ·rename_i hc;obtain ⟨y1,y2⟩:=y;obtain ⟨rfl,hc⟩:=hc;exact .inr ⟨y2,hy,hc,hx⟩
   ·exact .inl hx
  ·exact .inl hx
 have hkn:∀o,o<xs.length->xs≠[]:=fun o ho h0=>by subst h0;cases ho
 have hm:∀k,k<n->β1 k=β (ρ k):=fun k hk=>by
  show (if k<n then _ else _)=_
  rw[if_pos hk]
 have hm':∀k x,β1 k=some x->k<n∧β (ρ k)=some x:=fun k x hx=>by
  have hx:(if k<n then β (ρ k) else none)=some x:=hx
  split at hx
  ·rename_i h;exact ⟨h,hx⟩
  ·cases hx
 have hz:∀(r sp:Nat),β kf=some (r,sp)->∀(i:Nat) (v:Value),i<xs.length->fzc W ⟨r,i,none⟩=some v->zf r i=some v:=fun r sp q1 i v hi hv=>by
  show (match β kf with|some y'=>if r=y'.1∧i<xs.length then fzc W ⟨r,i,none⟩ else β.z r i|none=>β.z r i)=_
  rw[q1];simp only[hi,and_self,if_true];exact hv
 have hE:∀u1 u v,F u1 u->VR β u v->VR β1 u1 v:=by
  intro u1 u v hu hv;cases hFr u1 u hu with
  |nil _=>rw[hv.flat1_eq rfl];exact .imn
  |row ys z m c hxs e hm hc hzs h =>
   subst hm;obtain ⟨r,sp,q1,rfl⟩:=VR.sl_inv (k:=kf) (off:=0) hv;obtain ⟨cs,fz,g1,_,_,g4,g5,g6,g7,g8⟩:=(hR.blk kf _ r sp (hk0 hxs) q1).real;have e1:=g5.1;subst e;refine .ims ys (cs.toList.take (cellsAll ys).length) z r 0 (c+sp) hzs (by omega) e1.symm (fun i v hv=>?_) (fun i u v hu hv=>?_) g7
   ·rw[Nat.zero_add];have hi:=(List.getElem?_eq_some_iff.1 hv).1;rw[← e1] at hi;exact hz r sp q1 i v hi (cell_fzc (g8 i v hv) (g7 v (List.mem_of_getElem? hv)))
   ·have:=(h u (List.mem_of_getElem? hu)).rel (g5.2 i u v hu hv);exact VR.growX (β:=⟨fun _=>none,β.z⟩) (β':=β1) ⟨fun k x hk=>(by cases hk),hzg⟩ this
  |box x off hxs e h =>
   obtain ⟨r,sp,q1,rfl⟩:=VR.ptr_inv (k:=kf) (off:=off) hv;obtain ⟨cs,fz,g1,_,_,g4,g5,g6,g7,g8⟩:=(hR.blk kf _ r sp (hk0 hxs) q1).real;have e1:=g5.1;subst e;have:=VR.imp (β:=β1) x (cs.toList.take (cellsOf x).length) r 0 off e1.symm (fun i v hv=>by
    rw[Nat.zero_add];have hi:=(List.getElem?_eq_some_iff.1 hv).1;rw[← e1] at hi;exact hz r sp q1 i v hi (cell_fzc (g8 i v hv) (g7 v (List.mem_of_getElem? hv)))) (fun i u v hu hv=>by
    have:=(h u (List.mem_of_getElem? hu)).rel (g5.2 i u v hu hv);exact VR.growX (β:=⟨fun _=>none,β.z⟩) (β':=β1) ⟨fun k x hk=>(by cases hk),hzg⟩ this) g7
   rw[Nat.zero_add] at this;exact this
 have hE1:∀u1 u,F u1 u->u1.oneCell'=true:=by
  intro u1 u hu;cases hFr u1 u hu<;>rfl
 refine ⟨β1,fun k hk=>by rw[hm k (by omega),hρ k hk],fun k hk=>?_,⟨hzg,fun r o v hv=>?_⟩,⟨?_,?_,?_,?_,?_,hR.below,?_,?_⟩,hF.size,fun t u hu=>?_,fun t ht=>?_⟩
 ·show (if k<n then _ else _)=_
  rw[if_neg (by have:n≤k:=hk;omega)]
 ·rcases hzo r o v hv with h|⟨sp,h1,h2,_⟩
  ·exact .inl h
  ·exact .inr (hR.ge kf r sp (by rw[hk0 (hkn o h2)];simp) h1 hkf)
 ·intro k b r sp hk hr;obtain ⟨_,q0,_,b',q1,q2⟩:=hget k b hk;exact q2.rel (β:=β) (β1:=β1) hzg hE hE1 hm q0 (hR.blk (ρ k) b' r sp q1 (hm' k _ hr).2)
 ·intro k k' r sp sp' hlo hk hk' hr hr'
  exact hinj k k' hk hk' (hR.inj (ρ k) (ρ k') r sp sp' ((hne k hk).2.2.1 hlo) (hne k hk).1 (hne k' hk').1 (hm' k _ hr).2 (hm' k' _ hr').2)
 ·intro k hk;exact (hne k hk).2.1
 ·intro k r sp hr;exact hR.lt (ρ k) r sp (hm' k _ hr).2
 ·intro k r sp hk hr hlo;exact hR.ge (ρ k) r sp (hne k hk).1 (hm' k _ hr).2 ((hne k hk).2.2.1 hlo)
 ·intro g hgl;have hgl:g<s.glb:=hgl;rw[hm g (by omega),hρ g (by omega)];exact hR.glob g hgl
 ·intro r o v hv;rcases hzo r o v hv with h|⟨sp0,h1,h2,h3⟩
  ·obtain ⟨q1,q2⟩:=hR.frz r o v h;refine ⟨q1,fun k sp hlo hk hr=>?_⟩
   exact q2 (ρ k) sp ((hne k hk).2.2.1 hlo) (hne k hk).1 (hm' k _ hr).2
  ·refine ⟨h3,fun k sp hlo hk hr=>?_⟩
   exact (hne k hk).2.2.2 (hkn o h2) (hR.inj kf (ρ k) r sp0 sp hkf (by rw[hk0 (hkn o h2)];simp) (hne k hk).1 h1 (hm' k _ hr).2).symm
 ·obtain ⟨v,q1,q2⟩:=hf t u hu;exact q2.rel (β:=β) (β1:=β1) hzg hE hm (hF.at_ t v q1)
 ·obtain ⟨u,hu⟩:=Option.ne_none_iff_exists'.1 ht;obtain ⟨v,q1,q2⟩:=hf t u hu;exact hF.lt t (by rw[q1];simp)
structure SoundAt (P:Program) (f:FuncId) (args:List Value) (s:AS) (k:Value->AS->Prop):Prop where
 out:s.lo≤s.next->∀W0 β W vs,Rel P W0 β s W->FreeA β s.next->VRs β args vs->Calls P f ⟨vs⟩ W fun e w'=>∃v u s',e=.returned v∧k u s'∧StpX s s'∧LaysX P W0 β W s s' u v w'
structure SoundRound (P:Program) (l:Nat) (args:List Value) (s:AS) (k:Value->AS->Prop):Prop where
 out:s.lo≤s.next->∀W0 β W vs r sp,Rel P W0 β s W->FreeA β s.next->VRs β args vs->β l=some (r,sp)->∀kp,DoesX propX P W0 β s kp k W ((Instr.yield r ⟨vs⟩).run P W)
structure SoundC (P:Program) (f:FuncId) (args:List Value) (s:AS) (k:Value->AS->Prop):Prop where
 out:s.lo≤s.next->∃u s',k u s'∧Stp s s'∧∀W0 β W vs,Rel P W0 β s W->Free β s.next s'.next->VRs β args vs->Calls P f ⟨vs⟩ W fun e w'=>∃v,e=.returned v∧LaysC P W0 β W s s' u v w'
def extS (P:Program):CallFX Prop:=⟨fun f args s _ k=>SoundAt P f args s k,fun l args s k=>SoundRound P l args s k⟩
theorem extS_ok {P:Program}:CallX P propX (extS P):=⟨fun f args s kp k hl h W0 β W vs h1 h2 h3=>(SoundAt.out h hl W0 β W vs h1 h2 h3).mono fun e w' h=>.inl h,fun l args s k hl h=>SoundRound.out h hl⟩
def extC (P:Program):CallF Prop:=⟨fun f args s k=>SoundC P f args s k,fun _ _ _ _=>False⟩
theorem extC_ok {P:Program}:CallOk P propD (extC P):=⟨fun f args s k hl h=>SoundC.out h hl,fun l args s k hl h=>absurd h (fun h=>h)⟩
theorem SoundAt.u {P:Program}{f:FuncId}{args:List Value}{u:Value}{s:AS}{k:Value->AS->Prop}(h:DenU P [] f args u) (hc:NoNms args) (hk:k u s):SoundAt P f args s k:=⟨fun hl=>(extU_ok (l:=[]) rfl).call0 f args s k hl ⟨u,h,hc,tab0 s,hk⟩⟩
theorem SoundC.u {P:Program}{f:FuncId}{args:List Value}{u:Value}{s:AS}{k:Value->AS->Prop}(h:DenU P [] f args u) (hc:NoNms args) (hk:k u s):SoundC P f args s k:=⟨fun hl=>(extU_c (l:=[]) rfl).call f args s k hl ⟨u,h,hc,tab0 s,hk⟩⟩
theorem SoundAt.mono {P:Program}{f:FuncId}{args:List Value}{s:AS}{k k':Value->AS->Prop}(h:SoundAt P f args s k) (hk:∀u s',StpX s s'->k u s'->k' u s'):SoundAt P f args s k':=⟨fun hl W0 β W vs h1 h2 h3=>(h.out hl W0 β W vs h1 h2 h3).mono fun e w' ⟨v,u,s',e1,e2,e3,e4⟩=>⟨v,u,s',e1,hk u s' e3 e2,e3,e4⟩⟩
def OutR (P:Program) (z:Nat->Nat->Option Value) (W:World) (u:Value) (H:List (Option Blk)) (v:Value) (w':World):Prop :=
 ∃(ν:Nat->Option (Nat×Nat)) (z':Nat->Nat->Option Value),(Below W.heap.size W w'∧W.drawn≤w'.drawn)∧(∀r o x,z r o=some x->z' r o=some x) ∧
  (∀r o x,z' r o=some x->fzc w' ⟨r,o,none⟩=some x∧(z r o=some x∨W.heap.size≤r)∧∀(k sp:Nat) (b:Blk),H[k]?=some (some b)->ν k≠some (r,sp))∧VR ⟨ν,z'⟩ u v ∧
  (∀(k:Nat) (b:Blk) (r sp:Nat),H[k]?=some (some b)->ν k=some (r,sp)->BlkR P ⟨ν,z'⟩ w' r sp True b∧W.heap.size≤r)∧(∀k x,ν k=some x->k<H.length∧x.1<w'.heap.size) ∧
  ∀(k k' r sp sp':Nat) (b b':Blk),H[k]?=some (some b)->H[k']?=some (some b')->ν k=some (r,sp)->ν k'=some (r,sp')->k=k'
structure DenR (P:Program) (f:FuncId) (args:List Value) (u:Value) (H:List (Option Blk)):Prop where
 out:∀(z:Nat->Nat->Option Value) (W:World) (vs:List Value),(∀r o v,z r o=some v->fzc W ⟨r,o,none⟩=some v)->VRs ⟨fun _=>none,z⟩ args vs ->
  Calls P f ⟨vs⟩ W fun e w'=>∃v,e=.returned v∧OutR P z W u H v w'
structure TellR (s s1:AS) (u u1:Value) (H:List (Option Blk)) (σ:Nat->Nat):Prop where
 lo:s1.lo=s.lo
 glb:s1.glb=s.glb
 next:s.next≤s1.next
 old:∀k,k<s.next->s1.heap.get k=s.heap.get k
 sig:∀k,k<s.next->σ k=H.length+k
 rng:∀k,s.next≤k->k<s1.next->σ k<H.length
 new:∀k b,s.next≤k->s1.heap.get k=some b->k<s1.next∧∃b',H[σ k]?=some (some b')∧RenB s1.next ⟨σ,fun _ _=>False⟩ b b'
 inj:∀k k',s.next≤k->s.next≤k'->s1.heap.get k≠none->s1.heap.get k'≠none->σ k=σ k'->k=k'
 val:RenV s1.next ⟨σ,fun _ _=>False⟩ u1 u
theorem run_out {P:Program}(hm:P.follows .mixedOrders=true) {f:FuncId}{args:List Value}{K:Value->AS->Prop}(h:∀Ts,SoundAt P f args (start [] Ts) K) (z:Nat->Nat->Option Value) (W:World) (vs:List Value) (hz:∀r o v,z r o=some v->fzc W ⟨r,o,none⟩=some v) (hv:VRs ⟨fun _=>none,z⟩ args vs) :
  Calls P f ⟨vs⟩ W fun e w'=>∃v u s' β',e=.returned v∧K u s'∧s'.lo=0∧Rel P W β' s' w'∧VR β' u v∧(∀r o x,z r o=some x->β'.z r o=some x)∧(∀r o x,β'.z r o=some x->z r o=some x∨W.heap.size≤r)∧W.drawn≤w'.drawn:=by
 have hg:gSet [] W:=fun x hx=>by cases hx
 have hR0:=start_rel (P:=P) (l:=[]) rfl hg;have hR:Rel P W ⟨fun k=>if k<gTop [] then some (k,0) else none,z⟩ (start [] (typeAt W)) W :=
  ⟨fun k b r sp hk hr=>(hR0.blk k b r sp hk hr).sameX ⟨fun _ _ h=>h,fun _ _ _ h=>by cases h⟩ id rfl,hR0.inj,hR0.dom,hR0.lt,hR0.ge,hR0.below,hR0.glob,fun r o v hv=>⟨hz r o v hv,fun k sp hlo hk _=>absurd (hR0.dom k hk) (Nat.not_lt.2 hlo)⟩⟩
 refine ((h (typeAt W)).out rL W _ W vs hR (fun k hk=>start_free [] (typeAt W) k hk) (VRs.growX (β:=⟨fun _=>none,z⟩) (β':=⟨fun k=>if k<gTop [] then some (k,0) else none,z⟩) ⟨fun k x hk=>(by cases hk),fun _ _ _ h=>h⟩ hv)).mono fun e w' ⟨v,u',s',he,h1,hst,β',hx,hR',hv',hkd⟩=>?_
 exact ⟨v,u',s',β',he,h1,hst.lo,hR',hv',hx.z.1,hx.z.2,hkd.n⟩
def RetR (s:AS) (u' u:Value) (H:List (Option Blk)):Prop :=
 ∃ρ:Nat->Nat,RenV H.length ⟨ρ,fun _ _=>False⟩ u u'∧(∀k b,H[k]?=some (some b)->∃b',s.heap.get (ρ k)=some b'∧RenB H.length ⟨ρ,fun _ _=>False⟩ b b')∧∀(k k':Nat) (b b':Blk),H[k]?=some (some b)->H[k']?=some (some b')->ρ k=ρ k'->k=k'
theorem denR_of_sound {P:Program}(hm:P.follows .mixedOrders=true) {f:FuncId}{args:List Value}{u:Value}{H:List (Option Blk)}(h:∀Ts,SoundAt P f args (start [] Ts) fun u' s'=>RetR s' u' u H):DenR P f args u H:=by
 refine ⟨fun z W vs hz hv=>(run_out hm h z W vs hz hv).mono fun e w' ⟨v,u',s',β',he,⟨ρ,h1,h2,h3⟩,hlo,hR,hv',z1,z2,hdn⟩=>⟨v,he,?_⟩⟩
 let ν:Nat->Option (Nat×Nat):=fun k=>if k<H.length then β' (ρ k) else none
 have hm':∀k,k<H.length->ν k=β' (ρ k):=fun k hk=>if_pos hk
 have hν:∀k x,ν k=some x->k<H.length∧β' (ρ k)=some x:=fun k x hx=>by
  have hx:(if k<H.length then β' (ρ k) else none)=some x:=hx
  split at hx
  ·rename_i h;exact ⟨h,hx⟩
  ·cases hx
 have ht:∀k b,H[k]?=some (some b)->s'.heap.get (ρ k)≠none:=fun k b hk=>by
  obtain ⟨b',e1,_⟩:=h2 k b hk;rw[e1];simp
 have hl0:∀k,s'.lo≤k:=fun k=>by rw[hlo];exact Nat.zero_le _
 refine ⟨ν,β'.z,⟨hR.below,hdn⟩,z1,fun r o x hx=>⟨(hR.frz r o x hx).1,z2 r o x hx,fun k sp b hk hr=>(hR.frz r o x hx).2 (ρ k) sp (hl0 _) (ht k b hk) (hν k _ hr).2⟩,?_,fun k b r sp hk hr=>?_,fun k x hx=>?_,fun k k' r sp sp' b b' hk hk' hr hr'=>?_⟩
 ·exact h1.rel (β:=β') (β1:=⟨ν,β'.z⟩) (fun _ _ _ h=>h) (fun _ _ _ h=>absurd h id) hm' hv'
 ·obtain ⟨b',e1,e2⟩:=h2 k b hk;have hr:=(hν k _ hr).2;exact ⟨e2.rel (β:=β') (β1:=⟨ν,β'.z⟩) (fun _ _ _ h=>h) (fun _ _ _ h=>absurd h id) (fun _ _ h=>absurd h id) hm' (fun _=>hl0 _) (hR.blk (ρ k) b' r sp e1 hr),hR.ge (ρ k) r sp (ht k b hk) hr (hl0 _)⟩
 ·exact ⟨(hν k x hx).1,hR.lt (ρ k) x.1 x.2 (hν k x hx).2⟩
 ·exact h3 k k' b b' hk hk' (hR.inj (ρ k) (ρ k') r sp sp' (hl0 _) (ht k b hk) (ht k' b' hk') (hν k _ hr).2 (hν k' _ hr').2)
theorem denU_of_sound {P:Program}(hm:P.follows .mixedOrders=true) {f:FuncId}{args:List Value}{u:Value}(h:∀Ts,SoundAt P f args (start [] Ts) fun u' s'=>FrzV P s' u' u):DenU P [] f args u:=by
 refine ⟨fun z W vs _ hz hv=>(run_out hm h z W vs hz hv).mono fun e w' ⟨v,u',s',β',he,h1,hlo,hR,hv',z1,z2,hdn⟩=>?_⟩
 have hzlt:∀r o x,z r o=some x->r<W.heap.size:=fun r o x h=>cell_lt (hz r o x h)
 have e1:∀r o,r<W.heap.size->fzc w' ⟨r,o,none⟩=fzc W ⟨r,o,none⟩:=fun r o h=>cell_same (hR.below.block r h)
 refine ⟨v,fun r o=>if r<W.heap.size then z r o else fzc w' ⟨r,o,none⟩,he,⟨hR.below,hdn⟩,fun r o x hx'=>?_,fun r o x hx'=>?_,?_⟩
 ·show (if r<W.heap.size then z r o else _)=_
  rw[if_pos (hzlt r o x hx')];exact hx'
 ·have hx':(if r<W.heap.size then z r o else fzc w' ⟨r,o,none⟩)=some x:=hx'
  split at hx'
  ·rename_i hr;exact ⟨by rw[e1 r o hr];exact hz r o x hx',.inl hx'⟩
  ·rename_i hr;exact ⟨hx',.inr (by omega)⟩
 ·refine FrzV.rel hR (fun r o x hx'=>?_) (fun r o x hr hx'=>?_) h1 hv'
  ·show (if r<W.heap.size then z r o else fzc w' ⟨r,o,none⟩)=_
   split
   ·rename_i hr;rcases z2 r o x hx' with h|h
    ·exact h
    ·omega
   ·exact (hR.frz r o x hx').1
  ·show (if r<W.heap.size then z r o else fzc w' ⟨r,o,none⟩)=_
   rw[if_neg (by omega)];exact hx'
abbrev CodeS (P:Program) (N:Nat) (c:Code) (fr:Tr Value) (s:AS) (k:KontC Prop):Prop:=CodeT (fun p=>p) P N c fr s k
theorem CodeS.run {P:Program}(hm:P.follows .mixedOrders=true) {N:Nat}{c:Code}{fr:Tr Value}{s:AS}{k:KontC Prop}(fuel:Nat) (hl:s.lo≤s.next) (h:codeX propX P (extC P) (extS P) N fuel c fr s k):CodeS P N c fr s k:=codeX_sound hm extC_ok extS_ok fuel c fr s k hl h
theorem CodeS.seq {P:Program}{N:Nat}{a b:Code}{fr:Tr Value}{s:AS}{k k1:KontC Prop}(ha:CodeS P N a fr s k1) (hb:∀e fr1 s1,k1 e fr1 s1->StpX s s1->match e with
   |.normal=>∃fr2 s2,Cov P N s.next fr1 s1 fr2 s2∧CodeS P N b fr2 s2 k
   |e=>k e fr1 s1):CodeS P N (a.seq b) fr s k:=by
 intro F n W0 β a0 W Q hW hL hR hf hF hn;refine wpIn_seq (ha F n W0 β a0 W _ hW hL hR hf hF fun e fr1 s1 a1 W1 h1 hst hA=>?_)
 have h2:=hb e fr1 s1 h1 hst;obtain ⟨β1,q1,q2,q3,q4,q5,q6⟩:=hA;cases e with
 |normal =>
  obtain ⟨fr2,s2,hc,h3⟩:=h2;obtain ⟨β2,p1,p2,p5,p3,p4⟩:=hc.rel W0 β1 W1 a1 q2 q1.free q3;have hst2:StpX s s2:=⟨hc.next,hc.lo.trans hst.lo,hc.glb.trans hst.glb,fun i hi=>(hc.keep i (by rw[hst.lo];exact hi)).trans (hst.keep i hi)⟩
  refine h3 F n W0 β2 a1 W1 Q hW (hL.kd q4) p3 p2 p4 fun e fr' s' a' W' h hst' ⟨β3,u1,u2,u3,u4,u5,u6⟩=>?_
  exact hn e fr' s' a' W' h (hst2.trans hst') ⟨β3,⟨fun i hi=>(u1.keep i (Nat.lt_of_lt_of_le hi hst2.next)).trans ((p1 i hi).trans (q1.keep i hi)),u1.free,(q1.z.trans p5).trans u1.z⟩,u2,u3,q4.trans u4,Nat.le_trans q5 u5,q6.trans u4 q5 u6⟩
 |_=>exact hn _ fr1 s1 a1 W1 h2 hst ⟨β1,q1,q2,q3,q4,q5,q6⟩
theorem CodeS.block {P:Program}{N id:Nat}{c:Code}{fr:Tr Value}{s:AS}{k:KontC Prop}(h:CodeS P N c fr s fun e fr s=>match e with
  |.exit id'=>match decide (id'=id) with
   |true=>k .normal fr s
   |false=>k (.exit id') fr s
  |e=>k e fr s):CodeS P N (.block id c) fr s k:=by
 intro F n W0 β a W Q hW hL hR hf hF hn;refine wpIn_block (h F n W0 β a W _ hW hL hR hf hF fun e fr' s' a' W' h1 hst hA=>?_)
 have key:∃e',k e' fr' s'∧∀Q:Exit->Act->World->Prop,Exit.inBlock id Q e=Q e':=by
  cases e with
  |exit id' =>
   by_cases he:id'=id
   ·simp only[he,decide_true] at h1;exact ⟨_,h1,fun Q=>by funext a w;simp[Exit.inBlock,he]⟩
   ·simp only[he,decide_false] at h1;exact ⟨_,h1,fun Q=>by funext a w;simp[Exit.inBlock,he]⟩
  |_=>exact ⟨_,h1,fun Q=>rfl⟩
 obtain ⟨e',h2,he⟩:=key;rw[he];exact hn _ _ _ _ _ h2 hst hA
theorem SoundAt.body {P:Program}(hm:P.follows .mixedOrders=true) {f:FuncId}{fn:Func}{c:Code}{args:List Value}{N:Nat}{rs:List ResultVar}{s:AS}{k:Value->AS->Prop}(hfn:P.funcs[f]?=some fn) (hb:fn.body=some c) (hN:args.length+(fn.ntmps-args.length)=N) (hrs:fn.results.toList=rs) (fuel:Nat)
  (h:codeX propX P (extC P) (extS P) N fuel c (argsF args 0 .e) s fun e fr s=>match e with
   |.normal=>resC propD P fr s rs fun l=>k (retC l) s
   |.ret=>resC propD P fr s rs fun l=>k (retC l) s
   |_=>False):SoundAt P f args s k:=by
 refine ⟨fun hl W0 β W vs h1 h2 h3=>(bodyX_sound hm extC_ok extS_ok fuel f args s (noX Prop propX) k hl ?_ W0 β W vs h1 h2 h3).mono fun e w' h=>h.resolve_right fun ⟨_,_,_,h,_⟩=>h⟩
 show bodyX propX P (extC P) (extS P) fuel f args s (noX Prop propX) k
 unfold bodyX;simp only[hfn,hb,argsC_eq,natC_eq,hN,hrs];refine (congrArg (codeX propX P (extC P) (extS P) N fuel c (argsF args 0 .e) s) (funext fun e=>funext fun fr=>funext fun s=>?_)).mp h
 cases e with
 |panic ch=>show False=onV propD (panOf ch) (fun _=>False);cases panOf ch<;>rfl
 |_=>rfl
theorem SoundRound.run {P:Program}(hm:P.follows .mixedOrders=true) {l:Nat}{args:List Value}{s:AS}{k:Value->AS->Prop}(fuel:Nat) (h:roundX propX P (extC P) (extS P) fuel l args s k):SoundRound P l args s k :=
 ⟨fun hl=>roundX_sound hm extC_ok extS_ok fuel l args s k hl h⟩
theorem spineC_p {l:List Value}{k:List Value->Prop}(h:k l):spineC l k:=by rw[spineC_eq];exact h
end Go.Proofs.YtcihknonfcldeaaDoor.U
