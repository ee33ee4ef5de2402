
import Derived.Test.YtcihknonfcldeaaDoorKT06
namespace Go.Proofs.YtcihknonfcldeaaDoor.U
open Go Go.RowKit Go.Sort
set_option linter.unusedVariables false
set_option linter.unusedSimpArgs false
set_option maxRecDepth 100000
set_option maxHeartbeats 40000000
inductive Pt where
 |h
 |l (p:Pt)
 |r (p:Pt)
inductive Tr (α:Type) where
 |e
 |n (l:Tr α) (v:Option α) (r:Tr α)
def Tr.at {α:Type}:Pt->Tr α->Option α
 |.h,t=>match t with
  |.e=>none
  |.n _ v _=>v
 |.l p,t=>match t with
  |.e=>none
  |.n l _ _=>Tr.at p l
 |.r p,t=>match t with
  |.e=>none
  |.n _ _ r=>Tr.at p r
def Tr.put {α:Type}(x:Option α):Pt->Tr α->Tr α
 |.h,t=>match t with
  |.e=>.n .e x .e
  |.n l _ r=>.n l x r
 |.l p,t=>match t with
  |.e=>.n (Tr.put x p .e) none .e
  |.n l v r=>.n (Tr.put x p l) v r
 |.r p,t=>match t with
  |.e=>.n .e none (Tr.put x p .e)
  |.n l v r=>.n l v (Tr.put x p r)
def Tr.putK {α R:Type}:Pt->Option α->Tr α->(Tr α->R)->R
 |.h,x,t,k=>match t with
  |.e=>k (.n .e x .e)
  |.n l _ r=>k (.n l x r)
 |.l p,x,t,k=>match t with
  |.e=>Tr.putK p x .e fun l=>k (.n l none .e)
  |.n l v r=>Tr.putK p x l fun l=>k (.n l v r)
 |.r p,x,t,k=>match t with
  |.e=>Tr.putK p x .e fun r=>k (.n .e none r)
  |.n l v r=>Tr.putK p x r fun r=>k (.n l v r)
theorem Tr.putK_eq {α R:Type}:∀(p:Pt) (x:Option α) (t:Tr α) (k:Tr α->R),Tr.putK p x t k=k (Tr.put x p t)
 |.h,x,t,k=>by cases t<;>rfl
 |.l p,x,t,k=>by cases t<;>simp only[Tr.putK,Tr.put,Tr.putK_eq p x]
 |.r p,x,t,k=>by cases t<;>simp only[Tr.putK,Tr.put,Tr.putK_eq p x]
theorem Tr.at_e {α:Type}(p:Pt):Tr.at p (.e:Tr α)=none:=by cases p<;>rfl
theorem Tr.at_same {α:Type}(x:Option α):∀(p:Pt) (t:Tr α),Tr.at p (Tr.put x p t)=x
 |.h,t=>by cases t<;>rfl
 |.l p,t=>by cases t<;>simp only[Tr.put,Tr.at,Tr.at_same x p]
 |.r p,t=>by cases t<;>simp only[Tr.put,Tr.at,Tr.at_same x p]
theorem Tr.at_other {α:Type}(x:Option α):∀(p q:Pt) (t:Tr α),q≠p->Tr.at q (Tr.put x p t)=Tr.at q t
 |.h,.h,t,h=>absurd rfl h
 |.h,.l q,t,_=>by cases t<;>simp[Tr.put,Tr.at,Tr.at_e]
 |.h,.r q,t,_=>by cases t<;>simp[Tr.put,Tr.at,Tr.at_e]
 |.l p,.h,t,_=>by cases t<;>simp[Tr.put,Tr.at]
 |.l p,.r q,t,_=>by cases t<;>simp[Tr.put,Tr.at,Tr.at_e]
 |.r p,.h,t,_=>by cases t<;>simp[Tr.put,Tr.at]
 |.r p,.l q,t,_=>by cases t<;>simp[Tr.put,Tr.at,Tr.at_e]
 |.l p,.l q,t,h=>by
  have h':q≠p:=fun e=>h (by rw[e])
  cases t<;>simp only[Tr.put,Tr.at,Tr.at_other x p q _ h',Tr.at_e]
 |.r p,.r q,t,h=>by
  have h':q≠p:=fun e=>h (by rw[e])
  cases t<;>simp only[Tr.put,Tr.at,Tr.at_other x p q _ h',Tr.at_e]
def ptF:Nat->Nat->Pt
 |0,_=>.h
 |f+1,n=>match n with
  |0=>.h
  |m+1=>match m % 2 with
   |0=>.l (ptF f (m / 2))
   |_=>.r (ptF f (m / 2))
theorem ptF_inj:∀(f g n m:Nat),n≤f->m≤g->ptF f n=ptF g m->n=m
 |0,g,n,m,hn,hm,h=>by
  obtain rfl:n=0:=by omega
  cases g with
  |zero=>omega
  |succ g =>
   cases m with
   |zero=>rfl
   |succ m =>
    simp only[ptF] at h;split at h<;>cases h
 |f+1,g,n,m,hn,hm,h=>by
  cases n with
  |zero =>
   cases g with
   |zero=>omega
   |succ g =>
    cases m with
    |zero=>rfl
    |succ m =>
     simp only[ptF] at h;split at h<;>cases h
  |succ n =>
   cases g with
   |zero =>
    obtain rfl:m=0:=by omega
    simp only[ptF] at h;split at h<;>cases h
   |succ g =>
    cases m with
    |zero =>
     simp only[ptF] at h;split at h<;>cases h
    |succ m =>
     simp only[ptF] at h;have hm2:∀x:Nat,(x % 2=0->False)->x % 2=1:=fun x hx=>by
      have:x % 2≠0:=hx;omega
     split at h<;>split at h
     ·have:=ptF_inj f g (n / 2) (m / 2) (by omega) (by omega) (by injection h)
      omega
     ·cases h
     ·cases h
     ·have:=ptF_inj f g (n / 2) (m / 2) (by omega) (by omega) (by injection h)
      rename_i _ h1 _ h2;have e1:=hm2 _ h1;have e2:=hm2 _ h2;omega
def ptB:Nat->Nat->Pt
 |0,_=>.h
 |k+1,n=>match n % 2 with
  |0=>.l (ptB k (n / 2))
  |_=>.r (ptB k (n / 2))
theorem ptB_inj:∀(k n m:Nat),n<2 ^ k->m<2 ^ k->ptB k n=ptB k m->n=m
 |0,n,m,hn,hm,_=>by omega
 |k+1,n,m,hn,hm,h=>by
  rw[Nat.pow_succ] at hn hm;have hz:∀x:Nat,(x % 2=0->False)->x % 2=1:=fun x hx=>by
   have:x % 2≠0:=hx;omega
  simp only[ptB] at h;split at h<;>split at h
  ·have:=ptB_inj k (n / 2) (m / 2) (by omega) (by omega) (by injection h)
   omega
  ·cases h
  ·cases h
  ·have:=ptB_inj k (n / 2) (m / 2) (by omega) (by omega) (by injection h)
   rename_i _ h1 _ h2;have e1:=hz _ h1;have e2:=hz _ h2;omega
def pt (n:Nat):Pt :=
 match n with
 |0=>.r (.r (.l (ptB 8 0)))
 |m+1=>match Nat.ble m 255 with
  |true=>.l (ptB 8 m)
  |false=>match Nat.ble m 65535 with
   |true=>.r (.l (ptF m m))
   |false=>match Nat.ble m 65791 with
    |true=>.r (.r (.r (.l (ptB 8 (m-65536)))))
    |false=>match Nat.ble m 131327 with
     |true=>.r (.r (.r (.r (.l (ptF m m)))))
     |false=>match Nat.ble m 131583 with
      |true=>.r (.r (.r (.r (.r (.l (ptB 8 (m-131328)))))))
      |false=>.r (.r (.r (.r (.r (.r (ptF m m))))))
theorem pt_inj {n m:Nat}(h:pt n=pt m):n=m:=by
 have hb:∀{a b:Nat},Nat.ble a b=false->b<a:=fun {a b} h=>Nat.lt_of_not_le fun hle=>by rw[bLe hle] at h;cases h
 cases n with
 |zero =>
  cases m with
  |zero=>rfl
  |succ m =>
   simp only[pt] at h;repeat' split at h
   all_goals simp at h
 |succ n =>
  cases m with
  |zero =>
   simp only[pt] at h;repeat' split at h
   all_goals simp at h
  |succ m =>
   simp only[pt] at h;repeat' split at h
   all_goals simp only[Pt.l.injEq,Pt.r.injEq,reduceCtorEq] at h
   ·rename_i h1 _ h2;have h1:=bR h1;have h2:=bR h2;have:=ptB_inj 8 n m (by omega) (by omega) h
    omega
   ·have:=ptF_inj n m n m rL rL h;omega
   ·rename_i g1 _ h1 _ _ _ g2 _ h2;have h1:=bR h1;have h2:=bR h2;have g1:=hb g1;have g2:=hb g2;have:=ptB_inj 8 (n-65536) (m-65536) (by omega) (by omega) h
    omega
   ·have:=ptF_inj n m n m rL rL h;omega
   ·rename_i g1 _ h1 _ _ _ _ _ _ _ g2 _ h2;have h1:=bR h1;have h2:=bR h2;have g1:=hb g1;have g2:=hb g2;have:=ptB_inj 8 (n-131328) (m-131328) (by omega) (by omega) h
    omega
   ·have:=ptF_inj n m n m rL rL h;omega
theorem pt_g1 {k:Nat}(h1:257≤k) (h2:k≤65536):pt k=.r (.l (ptF (k-1) (k-1))):=by
 obtain ⟨m,rfl⟩:∃m,k=m+1:=⟨k-1,by omega⟩
 have e1:Nat.ble m 255=false:=Bool.eq_false_iff.2 fun h=>by have:=bR h;omega
 have e2:Nat.ble m 65535=true:=bLe (by omega)
 simp only[pt,e1,e2,Nat.add_sub_cancel]
theorem pt_g2 {k:Nat}(h1:65793≤k) (h2:k≤131328):pt k=.r (.r (.r (.r (.l (ptF (k-1) (k-1)))))):=by
 obtain ⟨m,rfl⟩:∃m,k=m+1:=⟨k-1,by omega⟩
 have e1:Nat.ble m 255=false:=Bool.eq_false_iff.2 fun h=>by have:=bR h;omega
 have e2:Nat.ble m 65535=false:=Bool.eq_false_iff.2 fun h=>by have:=bR h;omega
 have e3:Nat.ble m 65791=false:=Bool.eq_false_iff.2 fun h=>by have:=bR h;omega
 have e4:Nat.ble m 131327=true:=bLe (by omega)
 simp only[pt,e1,e2,e3,e4,Nat.add_sub_cancel]
def Tr.get {α:Type}(t:Tr α) (n:Nat):Option α:=Tr.at (pt n) t
def Tr.set {α:Type}(t:Tr α) (n:Nat) (x:Option α):Tr α:=Tr.put x (pt n) t
theorem Tr.get_set {α:Type}(t:Tr α) (n m:Nat) (x:Option α):(t.set n x).get m=if m=n then x else t.get m:=by
 unfold Tr.get Tr.set;by_cases h:m=n
 ·subst h;rw[if_pos rfl,Tr.at_same]
 ·rw[if_neg h,Tr.at_other _ _ _ _ fun e=>h (pt_inj e)]
theorem Tr.get_e {α:Type}(n:Nat):(.e:Tr α).get n=none:=Tr.at_e _
structure Bt where
 m:Nat->Option (Nat×Nat)
 /-- Cells of the world that stay as they are for good. -/
 z:Nat->Nat->Option Value:=fun _ _=>none
instance:CoeFun Bt (fun _=>Nat->Option (Nat×Nat)):=⟨Bt.m⟩
def cellsOf:Value->List Value
 |.agg ⟨l⟩=>l
 |v=>[v]
def cellsAll (xs:List Value):List Value:=xs.flatMap cellsOf
def imS (xs:List Value):Value:=.func (.yield 0) ⟨xs⟩ ⟨[.bool true]⟩
def imP (x:Value) (o:Nat):Value:=.func (.yield o) ⟨[x]⟩ ⟨[.bool false]⟩
def imE:Value:=.func (.yield 1) ⟨[]⟩ ⟨[.bool true]⟩
def pairV (e:Value×Value):Value:=.agg ⟨[e.1,e.2]⟩
def imM0 (ps:List Value):Value:=.func (.yield 2) ⟨ps⟩ ⟨[.bool true]⟩
def imM (es:List (Value×Value)):Value:=imM0 (es.map pairV)
theorem pairV_inj {e e':Value×Value}(h:pairV e=pairV e'):e=e':=by
 obtain ⟨a,b⟩:=e;obtain ⟨c,d⟩:=e';cases h;rfl
theorem pairV_flat {es:List (Value×Value)}{p:Value->Bool}(h:∀e∈es,p e.2=true) (e:Value×Value) (he:pairV e∈es.map pairV):p e.2=true:=by
 obtain ⟨x,hx,h1⟩:=List.mem_map.1 he;rw[← pairV_inj h1];exact h x hx
def unpair:List Value->Option (List (Value×Value))
 |[]=>some []
 |.agg ⟨[a,b]⟩::l=>match unpair l with
  |some m=>some ((a,b)::m)
  |none=>none
 |_=>none
theorem unpair_pair:∀es:List (Value×Value),unpair (es.map pairV)=some es
 |[]=>rfl
 |e::es=>by
  show (match unpair (es.map pairV) with|some m=>some ((e.1,e.2)::m)|none=>none)=_
  rw[unpair_pair es]
theorem unpair_is:∀{l:List Value}{es:List (Value×Value)},unpair l=some es->l=es.map pairV
 |[],es,h=>by cases h;rfl
 |p::l,es,h=>by
  unfold unpair at h;split at h
  ·rename_i h0;cases h0
  ·rename_i a b l' h0
   cases h0;split at h
   ·rename_i m hm;cases h;rw[unpair_is hm];rfl
   ·cases h
  ·cases h
def flat1:Value->Bool
 |.bool _=>true
 |.int _ _=>true
 |.float _ _=>true
 |.complex _ _ _=>true
 |.string _=>true
 |.pointer none=>true
 |.slice none _ _=>true
 |.map none=>true
 |.chan none=>true
 |.nilFunc=>true
 |.nilIface=>true
 |.func (.func _) ⟨[]⟩ ⟨[]⟩=>true
 |_=>false
def flat2:Value->Bool
 |.agg ⟨l⟩=>l.all flat1
 |x=>flat1 x
def flatV:Value->Bool
 |.tuple ⟨l⟩=>l.all flat2
 |x=>flat2 x
inductive VR (β:Bt):Value->Value->Prop where
 |flat (u:Value) (h:flat1 u=true):VR β u u
 |ptr (k r sp off:Nat) (h:β k=some (r,sp)):VR β (.pointer (some ⟨k,off,none⟩)) (.pointer (some ⟨r,off,none⟩))
 |sl (k r sp off n c:Nat) (h:β k=some (r,sp)):VR β (.slice (some ⟨k,off,none⟩) n c) (.slice (some ⟨r,off,none⟩) n (c+sp))
 |slc (k r sp off n c:Nat) (h:β k=some (r,sp)):VR β (.slice (some ⟨k,off,some 0⟩) n c) (.slice (some ⟨r,off,none⟩) n c)
 |vptr (k r o off:Nat) (h:β k=some (r,o)):VR β (.pointer (some ⟨k,off,some 1⟩)) (.pointer (some ⟨r,o+off,none⟩))
 |vsl (k r o off n c:Nat) (h:β k=some (r,o)):VR β (.slice (some ⟨k,off,some 1⟩) n c) (.slice (some ⟨r,o+off,none⟩) n c)
 |map (k r sp:Nat) (h:β k=some (r,sp)):VR β (.map (some k)) (.map (some r))
 |yld (k r sp:Nat) (h:β k=some (r,sp)):VR β (.func (.yield k) ⟨[]⟩ ⟨[]⟩) (.func (.yield r) ⟨[]⟩ ⟨[]⟩)
 |ifc (t:TypeId) (u v:Value) (h:VR β u v):VR β (.iface t u) (.iface t v)
 |func (g:FuncId) (a a' b b':List Value) (ha:a.length=a'.length) (hb:b.length=b'.length) (h1:∀(i:Nat) (u v:Value),a[i]?=some u->a'[i]?=some v->VR β u v) (h2:∀(i:Nat) (u v:Value),b[i]?=some u->b'[i]?=some v->VR β u v) :
   VR β (.func (.func g) ⟨a⟩ ⟨b⟩) (.func (.func g) ⟨a'⟩ ⟨b'⟩)
 |agg (a a':List Value) (ha:a.length=a'.length) (h1:∀(i:Nat) (u v:Value),a[i]?=some u->a'[i]?=some v->VR β u v):VR β (.agg ⟨a⟩) (.agg ⟨a'⟩)
 |tup (a a':List Value) (ha:a.length=a'.length) (h1:∀(i:Nat) (u v:Value),a[i]?=some u->a'[i]?=some v->VR β u v):VR β (.tuple ⟨a⟩) (.tuple ⟨a'⟩)
 |imn (ad:Option Addr:=none):VR β (imS []) (.slice ad 0 0)
 |ims (xs ws:List Value) (z r off c:Nat) (hz:∀x,x∈xs->(cellsOf x).length=z) (hc:xs.length≤c) (hl:ws.length=(cellsAll xs).length) (hm:∀(i:Nat) (v:Value),ws[i]?=some v->β.z r (off+i)=some v) (h1:∀(i:Nat) (u v:Value),(cellsAll xs)[i]?=some u->ws[i]?=some v->VR β u v) (h2:∀v,v∈ws->v.oneCell'=true) :
   VR β (imS xs) (.slice (some ⟨r,off,none⟩) xs.length c)
 |imp (x:Value) (ws:List Value) (r off o:Nat) (hl:ws.length=(cellsOf x).length) (hm:∀(i:Nat) (v:Value),ws[i]?=some v->β.z r (off+i)=some v) (h1:∀(i:Nat) (u v:Value),(cellsOf x)[i]?=some u->ws[i]?=some v->VR β u v) (h2:∀v,v∈ws->v.oneCell'=true):VR β (imP x o) (.pointer (some ⟨r,off+o,none⟩))
 |ime (ad:Option Addr):VR β imE (.slice ad 0 0)
 |imm (ps:List Value) (r:Nat) (hm:β.z r 0=some (.tuple ⟨ps⟩)) (hf:∀e,pairV e∈ps->flatV e.2=true):VR β (imM0 ps) (.map (some r))
def VRs (β:Bt) (a a':List Value):Prop:=a.length=a'.length∧∀(i:Nat) (u v:Value),a[i]?=some u->a'[i]?=some v->VR β u v
structure BLx (β β':Bt):Prop where
 m:∀k x,β k=some x->β' k=some x
 z:∀r o v,β.z r o=some v->β'.z r o=some v
def FrzLe (B:Nat) (β β':Bt):Prop:=(∀r o v,β.z r o=some v->β'.z r o=some v)∧∀r o v,β'.z r o=some v->β.z r o=some v∨B≤r
theorem FrzLe.refl (B:Nat) (β:Bt):FrzLe B β β:=⟨fun _ _ _ h=>h,fun _ _ _ h=>.inl h⟩
theorem FrzLe.trans {B:Nat}{a b c:Bt}(h:FrzLe B a b) (k:FrzLe B b c):FrzLe B a c:=⟨fun r o v hv=>k.1 r o v (h.1 r o v hv),fun r o v hv=>(k.2 r o v hv).elim (fun hb=>h.2 r o v hb) .inr⟩
structure BLe (B:Nat) (β β':Bt):Prop where
 m:∀k x,β k=some x->β' k=some x
 z:FrzLe B β β'
instance {B:Nat}{β β':Bt}:CoeFun (BLe B β β') (fun _=>∀k x,β k=some x->β' k=some x):=⟨BLe.m⟩
theorem BLe.refl {B:Nat}(β:Bt):BLe B β β:=⟨fun _ _ h=>h,.refl _ _⟩
theorem BLe.trans {B:Nat}{a b c:Bt}(h:BLe B a b) (k:BLe B b c):BLe B a c:=⟨fun i x hi=>k i x (h i x hi),h.z.trans k.z⟩
theorem BLe.x {B:Nat}{β β':Bt}(h:BLe B β β'):BLx β β':=⟨h.m,h.z.1⟩
theorem BLe.mono {B B':Nat}{β β':Bt}(h:BLe B β β') (hb:B'≤B):BLe B' β β':=⟨h.m,h.z.1,fun r o v hv=>(h.z.2 r o v hv).imp id fun h=>Nat.le_trans hb h⟩
theorem VR.growX {β β':Bt}(hs:BLx β β') {u v:Value}(h:VR β u v):VR β' u v:=by
 induction h with
 |flat u h=>exact .flat u h
 |ptr k r sp off h=>exact .ptr k r sp off (hs.m _ _ h)
 |sl k r sp off n c h=>exact .sl k r sp off n c (hs.m _ _ h)
 |slc k r sp off n c h=>exact .slc k r sp off n c (hs.m _ _ h)
 |vptr k r o off h=>exact .vptr k r o off (hs.m _ _ h)
 |vsl k r o off n c h=>exact .vsl k r o off n c (hs.m _ _ h)
 |map k r sp h=>exact .map k r sp (hs.m _ _ h)
 |yld k r sp h=>exact .yld k r sp (hs.m _ _ h)
 |ifc t u v _ i1=>exact .ifc t u v i1
 |func g a a' b b' ha hb _ _ i1 i2=>exact .func g a a' b b' ha hb i1 i2
 |agg a a' ha _ i1=>exact .agg a a' ha i1
 |tup a a' ha _ i1=>exact .tup a a' ha i1
 |imn ad=>exact .imn ad
 |ims xs ws z r off c hz hc hl hm _ h2 i1=>exact .ims xs ws z r off c hz hc hl (fun i v hv=>hs.z _ _ _ (hm i v hv)) i1 h2
 |imp x ws r off o hl hm _ h2 i1=>exact .imp x ws r off o hl (fun i v hv=>hs.z _ _ _ (hm i v hv)) i1 h2
 |ime ad=>exact .ime ad
 |imm es r hm hf=>exact .imm es r (hs.z _ _ _ hm) hf
theorem VR.grow {B:Nat}{β β':Bt}(hs:BLe B β β') {u v:Value}(h:VR β u v):VR β' u v:=h.growX hs.x
theorem VRs.growX {β β':Bt}(hs:BLx β β') {a a':List Value}(h:VRs β a a'):VRs β' a a':=⟨h.1,fun i u v h1 h2=>(h.2 i u v h1 h2).growX hs⟩
theorem VRs.grow {B:Nat}{β β':Bt}(hs:BLe B β β') {a a':List Value}(h:VRs β a a'):VRs β' a a':=⟨h.1,fun i u v h1 h2=>(h.2 i u v h1 h2).grow hs⟩
theorem VRs.nil (β:Bt):VRs β [] []:=⟨rfl,fun i u v h=>by simp at h⟩
theorem VRs.cons {β:Bt}{u v:Value}{a a':List Value}(h:VR β u v) (t:VRs β a a'):VRs β (u::a) (v::a'):=⟨by simp[t.1],fun i x y hx hy=>by
 cases i with
 |zero=>simp at hx hy;subst hx;subst hy;exact h
 |succ i=>exact t.2 i x y (by simpa using hx) (by simpa using hy)⟩
theorem VRs.head {β:Bt}{u v:Value}{a a':List Value}(h:VRs β (u::a) (v::a')):VR β u v:=h.2 0 u v rfl rfl
theorem VRs.tail {β:Bt}{u v:Value}{a a':List Value}(h:VRs β (u::a) (v::a')):VRs β a a':=⟨by simpa using h.1,fun i x y hx hy=>h.2 (i+1) x y (by simpa using hx) (by simpa using hy)⟩
theorem VRs.inv_cons {β:Bt}{u:Value}{a a':List Value}(h:VRs β (u::a) a'):∃v t,a'=v::t∧VR β u v∧VRs β a t:=by
 cases a' with
 |nil=>have:=h.1;simp at this
 |cons v t=>exact ⟨v,t,rfl,h.head,h.tail⟩
theorem VRs.inv_nil {β:Bt}{a':List Value}(h:VRs β [] a'):a'=[]:=List.eq_nil_of_length_eq_zero h.1.symm
theorem VRs.app {β:Bt}{a a' b b':List Value}(h:VRs β a a') (k:VRs β b b'):VRs β (a++b) (a'++b'):=by
 induction a generalizing a' with
 |nil=>rw[h.inv_nil];exact k
 |cons u a ih =>
  obtain ⟨v,t,rfl,h1,h2⟩:=h.inv_cons;exact .cons h1 (ih h2)
theorem VRs.take {β:Bt}{a a':List Value}(h:VRs β a a') (n:Nat):VRs β (a.take n) (a'.take n):=⟨by simp[h.1],fun i u v hu hv=>by
 rw[List.getElem?_take] at hu hv;split at hu
 ·rename_i hi;rw[if_pos hi] at hv;exact h.2 i u v hu hv
 ·cases hu⟩
theorem VRs.drop {β:Bt}{a a':List Value}(h:VRs β a a') (n:Nat):VRs β (a.drop n) (a'.drop n):=⟨by simp[h.1],fun i u v hu hv=>by
 rw[List.getElem?_drop] at hu hv;exact h.2 _ u v hu hv⟩
theorem VRs.get {β:Bt}{a a':List Value}(h:VRs β a a') {i:Nat}{u:Value}(hu:a[i]?=some u):∃v,a'[i]?=some v∧VR β u v:=by
 have hi:=(List.getElem?_eq_some_iff.1 hu).1;have hi':i<a'.length:=by rw[← h.1];exact hi
 exact ⟨a'[i],List.getElem?_eq_getElem hi',h.2 i u _ hu (List.getElem?_eq_getElem hi')⟩
theorem VRs.set {β:Bt}{a a':List Value}(h:VRs β a a') {u v:Value}(hu:VR β u v) (n:Nat):VRs β (a.set n u) (a'.set n v):=⟨by simp[h.1],fun i x y hx hy=>by
 rw[List.getElem?_set] at hx hy;by_cases hn:n=i
 ·rw[if_pos hn] at hx hy;split at hx
  ·split at hy
   ·cases hx;cases hy;exact hu
   ·cases hy
  ·cases hx
 ·rw[if_neg hn] at hx hy;exact h.2 i x y hx hy⟩
theorem VR.flat1_eq {β:Bt}{u v:Value}(h:VR β u v) (hf:flat1 u=true):v=u:=by
 cases h with
 |flat=>rfl
 |func g a a' b b' ha hb _ _ =>
  cases a with
  |nil =>
   cases b with
   |nil =>
    rw[List.eq_nil_of_length_eq_zero ha.symm,List.eq_nil_of_length_eq_zero hb.symm]
   |cons x b=>simp[flat1] at hf
  |cons x a=>simp[flat1] at hf
 |_=>simp[flat1,imS,imP,imE,imM0] at hf
theorem VRs.flat_eq {β:Bt}{p:Value->Bool}(hp:∀u v,VR β u v->p u=true->v=u):∀{a a':List Value},VRs β a a'->a.all p=true->a'=a
 |[],a',h,_=>h.inv_nil
 |u::a,a',h,hf=>by
  obtain ⟨v,t,rfl,h1,h2⟩:=h.inv_cons;simp only[List.all_cons,Bool.and_eq_true] at hf;rw[hp u v h1 hf.1,VRs.flat_eq hp h2 hf.2]
theorem VR.flat2_eq {β:Bt}{u v:Value}(h:VR β u v) (hf:flat2 u=true):v=u:=by
 cases h with
 |agg a a' ha h1 =>
  have:a'=a:=VRs.flat_eq (p:=flat1) (fun _ _ h=>h.flat1_eq) ⟨ha,h1⟩ (by simpa [flat2] using hf)
  rw[this]
 |flat=>rfl
 |ptr k r sp off h=>exact (VR.ptr k r sp off h).flat1_eq hf
 |sl k r sp off n c h=>exact (VR.sl k r sp off n c h).flat1_eq hf
 |slc k r sp off n c h=>exact (VR.slc k r sp off n c h).flat1_eq hf
 |vptr k r o off h=>exact (VR.vptr k r o off h).flat1_eq hf
 |vsl k r o off n c h=>exact (VR.vsl k r o off n c h).flat1_eq hf
 |map k r sp h=>exact (VR.map k r sp h).flat1_eq hf
 |yld k r sp h=>exact (VR.yld k r sp h).flat1_eq hf
 |ifc t u v h=>exact (VR.ifc t u v h).flat1_eq hf
 |func g a a' b b' ha hb h1 h2=>exact (VR.func g a a' b b' ha hb h1 h2).flat1_eq hf
 |tup a a' ha h1=>simp[flat2,flat1] at hf
 |imn ad=>exact (VR.imn (β:=β) ad).flat1_eq hf
 |ims xs ws z r off c hz hc hl hm h1 h2=>exact (VR.ims xs ws z r off c hz hc hl hm h1 h2).flat1_eq hf
 |imp x ws r off o hl hm h1 h2=>exact (VR.imp x ws r off o hl hm h1 h2).flat1_eq hf
 |ime ad=>exact (VR.ime (β:=β) ad).flat1_eq hf
 |imm es r hm h=>exact (VR.imm es r hm h).flat1_eq hf
theorem VR.flat_eq {β:Bt}{u v:Value}(h:VR β u v) (hf:flatV u=true):v=u:=by
 cases h with
 |tup a a' ha h1 =>
  have:a'=a:=VRs.flat_eq (p:=flat2) (fun _ _ h=>h.flat2_eq) ⟨ha,h1⟩ (by simpa [flatV] using hf)
  rw[this]
 |flat=>rfl
 |ptr k r sp off h=>exact (VR.ptr k r sp off h).flat2_eq hf
 |sl k r sp off n c h=>exact (VR.sl k r sp off n c h).flat2_eq hf
 |slc k r sp off n c h=>exact (VR.slc k r sp off n c h).flat2_eq hf
 |vptr k r o off h=>exact (VR.vptr k r o off h).flat2_eq hf
 |vsl k r o off n c h=>exact (VR.vsl k r o off n c h).flat2_eq hf
 |map k r sp h=>exact (VR.map k r sp h).flat2_eq hf
 |yld k r sp h=>exact (VR.yld k r sp h).flat2_eq hf
 |ifc t u v h=>exact (VR.ifc t u v h).flat2_eq hf
 |func g a a' b b' ha hb h1 h2=>exact (VR.func g a a' b b' ha hb h1 h2).flat2_eq hf
 |agg a a' ha h1=>exact (VR.agg a a' ha h1).flat2_eq hf
 |imn ad=>exact (VR.imn (β:=β) ad).flat2_eq hf
 |ims xs ws z r off c hz hc hl hm h1 h2=>exact (VR.ims xs ws z r off c hz hc hl hm h1 h2).flat2_eq hf
 |imp x ws r off o hl hm h1 h2=>exact (VR.imp x ws r off o hl hm h1 h2).flat2_eq hf
 |ime ad=>exact (VR.ime (β:=β) ad).flat2_eq hf
 |imm es r hm h=>exact (VR.imm es r hm h).flat2_eq hf
theorem VR.of_flat2 (β:Bt) {u:Value}(h:flat2 u=true):VR β u u:=by
 cases u with
 |agg c =>
  cases c with
  |mk l =>
   refine .agg l l rfl fun i x y hx hy=>?_
   rw[hx] at hy;cases hy;exact .flat _ (List.all_eq_true.1 h _ (List.mem_of_getElem? hx))
 |_=>exact .flat _ h
theorem VR.of_flat (β:Bt) {u:Value}(h:flatV u=true):VR β u u:=by
 cases u with
 |tuple c =>
  cases c with
  |mk l =>
   refine .tup l l rfl fun i x y hx hy=>?_
   rw[hx] at hy;cases hy;exact .of_flat2 β (List.all_eq_true.1 h _ (List.mem_of_getElem? hx))
 |_=>exact .of_flat2 β h
theorem VR.one {β:Bt}{u v:Value}(h:VR β u v):v.oneCell'=u.oneCell':=by
 cases h<;>rfl
theorem VR.cells {β:Bt}{u v:Value}(h:VR β u v):VRs β (cellsOf u) v.cells.toList:=by
 cases h with
 |agg a a' ha h1=>exact ⟨ha,h1⟩
 |flat u h=>cases u<;>first|exact .cons (.flat _ h) (.nil _)|simp[flat1] at h
 |ptr k r sp off h=>exact .cons (.ptr k r sp off h) (.nil _)
 |sl k r sp off n c h=>exact .cons (.sl k r sp off n c h) (.nil _)
 |slc k r sp off n c h=>exact .cons (.slc k r sp off n c h) (.nil _)
 |vptr k r o off h=>exact .cons (.vptr k r o off h) (.nil _)
 |vsl k r o off n c h=>exact .cons (.vsl k r o off n c h) (.nil _)
 |map k r sp h=>exact .cons (.map k r sp h) (.nil _)
 |yld k r sp h=>exact .cons (.yld k r sp h) (.nil _)
 |ifc t u v h=>exact .cons (.ifc t u v h) (.nil _)
 |func g a a' b b' ha hb h1 h2=>exact .cons (.func g a a' b b' ha hb h1 h2) (.nil _)
 |tup a a' ha h1=>exact .cons (.tup a a' ha h1) (.nil _)
 |imn ad=>exact .cons (.imn ad) (.nil _)
 |ims xs ws z r off c hz hc hl hm h1 h2=>exact .cons (.ims xs ws z r off c hz hc hl hm h1 h2) (.nil _)
 |imp x ws r off o hl hm h1 h2=>exact .cons (.imp x ws r off o hl hm h1 h2) (.nil _)
 |ime ad=>exact .cons (.ime ad) (.nil _)
 |imm es r hm h=>exact .cons (.imm es r hm h) (.nil _)
theorem VR.ptr_inv {β:Bt}{k off:Nat}{v:Value}(h:VR β (.pointer (some ⟨k,off,none⟩)) v):∃r sp,β k=some (r,sp)∧v=.pointer (some ⟨r,off,none⟩):=by
 cases h with
 |flat _ h=>simp[flat1] at h
 |ptr k r sp off h=>exact ⟨r,sp,h,rfl⟩
theorem VR.sl_inv {β:Bt}{k off n c:Nat}{v:Value}(h:VR β (.slice (some ⟨k,off,none⟩) n c) v):∃r sp,β k=some (r,sp)∧v=.slice (some ⟨r,off,none⟩) n (c+sp):=by
 cases h with
 |flat _ h=>simp[flat1] at h
 |sl k r sp off n c h=>exact ⟨r,sp,h,rfl⟩
def vo:Option Nat->Nat->Nat
 |some 1,sp=>sp
 |_,_=>0
def vq:Option Nat->Option Nat
 |some 1=>some 1
 |_=>none
theorem VR.ptr_any {β:Bt}{k off:Nat}{q:Option Nat}{v:Value}(h:VR β (.pointer (some ⟨k,off,q⟩)) v):∃r sp,β k=some (r,sp)∧v=.pointer (some ⟨r,vo q sp+off,none⟩)∧vq q=q:=by
 cases h with
 |flat _ h=>simp[flat1] at h
 |ptr k r sp off h=>exact ⟨r,sp,h,by simp[vo],rfl⟩
 |vptr k r o off h=>exact ⟨r,o,h,rfl,rfl⟩
theorem VR.mk_ptr {β:Bt}{k r sp:Nat}(h:β k=some (r,sp)) (q:Option Nat) (off:Nat):VR β (.pointer (some ⟨k,off,vq q⟩)) (.pointer (some ⟨r,vo q sp+off,none⟩)):=by
 unfold vq vo;split
 ·exact .vptr k r sp off h
 ·rename_i hq;split
  ·exact absurd rfl (hq ·)
  ·simpa using VR.ptr k r sp off h
theorem VR.sl_any {β:Bt}{k off n c:Nat}{q:Option Nat}{v:Value}(h:VR β (.slice (some ⟨k,off,q⟩) n c) v):∃r sp c',β k=some (r,sp)∧v=.slice (some ⟨r,vo q sp+off,none⟩) n c'∧c≤c':=by
 cases h with
 |flat _ h=>simp[flat1] at h
 |sl k r sp off n c h=>exact ⟨r,sp,c+sp,h,by simp[vo],Nat.le_add_right _ _⟩
 |slc k r sp off n c h=>exact ⟨r,sp,c,h,by simp[vo],Nat.le_refl _⟩
 |vsl k r o off n c h=>exact ⟨r,o,c,h,rfl,Nat.le_refl _⟩
theorem VR.vsl_inv {β:Bt}{k off n c:Nat}{v:Value}(h:VR β (.slice (some ⟨k,off,some 1⟩) n c) v):∃r sp,β k=some (r,sp)∧v=.slice (some ⟨r,sp+off,none⟩) n c:=by
 cases h with
 |flat _ h=>simp[flat1] at h
 |vsl k r o off n c h=>exact ⟨r,o,h,rfl⟩
theorem VR.map_inv {β:Bt}{k:Nat}{v:Value}(h:VR β (.map (some k)) v):∃r sp,β k=some (r,sp)∧v=.map (some r):=by
 cases h with
 |flat _ h=>simp[flat1] at h
 |map k r sp h=>exact ⟨r,sp,h,rfl⟩
theorem VR.yld_inv {β:Bt}{k:Nat}{v:Value}(h:VR β (.func (.yield k) ⟨[]⟩ ⟨[]⟩) v):∃r sp,β k=some (r,sp)∧v=.func (.yield r) ⟨[]⟩ ⟨[]⟩:=by
 cases h with
 |flat _ h=>simp[flat1] at h
 |yld k r sp h=>exact ⟨r,sp,h,rfl⟩
theorem VR.ifc_inv {β:Bt}{t:TypeId}{u v:Value}(h:VR β (.iface t u) v):∃v',VR β u v'∧v=.iface t v':=by
 cases h with
 |flat _ h=>simp[flat1] at h
 |ifc t u v h=>exact ⟨v,h,rfl⟩
theorem VR.func_inv {β:Bt}{g:FuncId}{a b:List Value}{v:Value}(h:VR β (.func (.func g) ⟨a⟩ ⟨b⟩) v):∃a' b',VRs β a a'∧VRs β b b'∧v=.func (.func g) ⟨a'⟩ ⟨b'⟩:=by
 cases h with
 |flat _ h =>
  have:a=[]∧b=[]:=by
   cases a<;>cases b<;>first|exact ⟨rfl,rfl⟩|simp[flat1] at h
  obtain ⟨rfl,rfl⟩:=this;exact ⟨[],[],.nil _,.nil _,rfl⟩
 |func g a a' b b' ha hb h1 h2=>exact ⟨a',b',⟨ha,h1⟩,⟨hb,h2⟩,rfl⟩
theorem VR.agg_inv {β:Bt}{a:List Value}{v:Value}(h:VR β (.agg ⟨a⟩) v):∃a',VRs β a a'∧v=.agg ⟨a'⟩:=by
 cases h with
 |flat _ h=>simp[flat1] at h
 |agg a a' ha h1=>exact ⟨a',⟨ha,h1⟩,rfl⟩
theorem VR.tup_inv {β:Bt}{a:List Value}{v:Value}(h:VR β (.tuple ⟨a⟩) v):∃a',VRs β a a'∧v=.tuple ⟨a'⟩:=by
 cases h with
 |flat _ h=>simp[flat1] at h
 |tup a a' ha h1=>exact ⟨a',⟨ha,h1⟩,rfl⟩
inductive Blk where
 |cells (T:TypeId) (xs:List Value) (op:Bool)
 |map (es:List (Value×Value)) (bs:List Nat) (cl:Nat)
 |loop (st:LoopState) (pe:Option Code) (fr:Tr Value) (N:Nat) (ps:List Tmp) (assign body:Code)
 |iter (m since:Nat) (seen:List Nat) (last:Nat)
 |view (xs:List Value)
structure AS where
 heap:Tr Blk
 next:Nat
 lo:Nat
 glb:Nat
def BlkR (P:Program) (β:Bt) (W:World) (r sp:Nat) (mine:Prop):Blk->Prop
 |.cells T xs op=>∃cs fz,W.heap[r]?=some (.cells cs T fz)∧(mine->fz=(0,0))∧(op=false->sp=0)∧cs.size=xs.length+sp*P.cellsOf T∧∀(i:Nat) (u:Value),xs[i]?=some u->u.oneCell'=true∧∃v,cs[i]?=some v∧VR β u v
 |.map es bs cl=>∃es' cl',W.heap[r]?=some (.map es' cl')∧es'.size=es.length∧(∀(i:Nat) (x u:Value),es[i]?=some (x,u)->∃e,es'[i]?=some e∧e.key=x∧VR β u e.val)∧es'.toList.map (·.born)=bs∧cl'=cl
 |.loop st pe fr N ps assign body=>∃L,W.heap[r]?=some (.loop L)∧L.state=st∧L.pending=pe∧L.params=⟨ps⟩∧L.assign=assign∧L.body=body∧L.tmps.size=N∧(∀(t:Nat) (u:Value),Tr.at (pt t) fr=some u->VR β u (L.tmps.getD t undef))∧∀(t:Nat),Tr.at (pt t) fr≠none->t<N
 |.view xs=>(∃cs T fz,W.heap[r]?=some (.cells cs T fz))∧∀(i:Nat) (u:Value),xs[i]?=some u->u.oneCell'=true∧∃v,W.cell? ⟨r,sp+i,none⟩=some v∧VR β u v
 |.iter m since seen last=>∃mr q,β m=some (mr,q)∧W.heap[r]?=some (.mapIter (some mr) since ⟨seen⟩ last)
def isLoop:Option Blk->Bool
 |some (.loop ..)=>true
 |_=>false
structure KD (W W':World):Prop where
 d:∀(d:Nat),W.heap[d]?=some (.deferred (some []))->W'.heap[d]?=some (.deferred (some []))
 l:∀(d:Nat) (L:Loop),W.heap[d]?=some (.loop L)->∃L',W'.heap[d]?=some (.loop L')
 z:W.heap.size≤W'.heap.size
 n:W.drawn≤W'.drawn
 c:∀(r:Nat) (cs:Array Value) (T:TypeId) (fz:Nat×Nat),W.heap[r]?=some (.cells cs T fz)->∃cs' fz',W'.heap[r]?=some (.cells cs' T fz')∧cs'.size=cs.size∧(fz=(0,0)->fz'=(0,0))
theorem KD.refl (W:World):KD W W:=⟨fun _ h=>h,fun _ L h=>⟨L,h⟩,Nat.le_refl _,Nat.le_refl _,fun r cs T fz h=>⟨cs,fz,h,rfl,id⟩⟩
theorem KD.trans {a b c:World}(h:KD a b) (k:KD b c):KD a c:=⟨fun d hd=>k.d d (h.d d hd),fun d L hd=>let ⟨L',h'⟩:=h.l d L hd;k.l d L' h',Nat.le_trans h.z k.z,Nat.le_trans h.n k.n,fun r cs T fz hr=>let ⟨cs1,fz1,h1,h2,h3⟩:=h.c r cs T fz hr;let ⟨cs2,fz2,k1,k2,k3⟩:=k.c r cs1 T fz1 h1;⟨cs2,fz2,k1,k2.trans h2,fun e=>k3 (h3 e)⟩⟩
theorem KD.below {W W':World}(h:Below W.heap.size W W') (hn:W.drawn≤W'.drawn:=by first|exact Nat.le_refl _|exact Nat.le_succ _|assumption):KD W W':=⟨fun d hd=>by
 rw[h.block d (Array.getElem?_eq_some_iff.1 hd).1];exact hd,fun d L hd=>⟨L,by rw[h.block d (Array.getElem?_eq_some_iff.1 hd).1];exact hd⟩,h.size,hn,fun r cs T fz hr=>⟨cs,fz,by rw[h.block r (Array.getElem?_eq_some_iff.1 hr).1];exact hr,rfl,id⟩⟩
theorem KD.write {W W':World}{r:Nat}{ob:Obj}(hr:W.heap[r]?=some ob) (hn:ob≠.deferred (some [])∧∀L,ob≠.loop L) (h:∀i,i≠r->W'.heap[i]?=W.heap[i]?) (hz:W'.heap.size=W.heap.size) (hd:W.drawn≤W'.drawn:=by first|exact Nat.le_refl _|exact Nat.le_succ _|assumption) (hw:∀cs T fz,ob=.cells cs T fz->∃cs' fz',W'.heap[r]?=some (.cells cs' T fz')∧cs'.size=cs.size∧(fz=(0,0)->fz'=(0,0)):=by (intro _ _ _ h;cases h)):KD W W':=by
 refine ⟨fun d hd=>?_,fun d L hd=>?_,Nat.le_of_eq hz.symm,hd,fun q cs T fz hq=>?_⟩
 rotate_left 2
 ·by_cases he:q=r
  ·subst he;rw[hr] at hq;cases hq;exact hw cs T fz rfl
  ·exact ⟨cs,fz,by rw[h q he];exact hq,rfl,id⟩
 ·rw[h d]
  ·exact hd
  ·rintro rfl
   rw[hr] at hd;cases hd;exact hn.1 rfl
 ·rw[h d]
  ·exact ⟨L,hd⟩
  ·rintro rfl
   rw[hr] at hd;cases hd;exact absurd rfl (hn.2 L)
theorem KD.writeL {W W':World}{r:Nat}{L L':Loop}(hr:W.heap[r]?=some (.loop L)) (hr':W'.heap[r]?=some (.loop L')) (h:∀i,i≠r->W'.heap[i]?=W.heap[i]?) (hz:W'.heap.size=W.heap.size) (hd:W.drawn≤W'.drawn:=by first|exact Nat.le_refl _|exact Nat.le_succ _|assumption):KD W W':=by
 refine ⟨fun d hd=>?_,fun d L0 hd=>?_,Nat.le_of_eq hz.symm,hd,fun q cs T fz hq=>⟨cs,fz,by
  rw[h q fun e=>by subst e;rw[hr] at hq;cases hq]
  exact hq,rfl,id⟩⟩
 ·rw[h d]
  ·exact hd
  ·rintro rfl
   rw[hr] at hd;cases hd
 ·by_cases he:d=r
  ·subst he;exact ⟨L',hr'⟩
  ·rw[h d he];exact ⟨L0,hd⟩
def encM (es:List MapEntry):Value:=.tuple ⟨es.map fun e=>pairV (e.key,e.val)⟩
def fzc (W:World) (a:Addr):Option Value :=
 match W.heap[a.block]? with
 |some (.map es _)=>some (encM es.toList)
 |_=>(W.cell? a).filter (·.oneCell')
structure Rel (P:Program) (W0:World) (β:Bt) (s:AS) (W:World):Prop where
 blk:∀(k:Nat) (b:Blk) (r sp:Nat),s.heap.get k=some b->β k=some (r,sp)->BlkR P β W r sp (s.lo≤k) b
 inj:∀(k k' r sp sp':Nat),s.lo≤k->s.heap.get k≠none->s.heap.get k'≠none->β k=some (r,sp)->β k'=some (r,sp')->k=k'
 dom:∀(k:Nat),s.heap.get k≠none->k<s.next
 lt:∀(k r sp:Nat),β k=some (r,sp)->r<W.heap.size
 ge:∀(k r sp:Nat),s.heap.get k≠none->β k=some (r,sp)->s.lo≤k->W0.heap.size≤r
 below:Below W0.heap.size W0 W
 glob:∀(g:Nat),g<s.glb->β g=some (g,0)
 frz:∀(r o:Nat) (v:Value),β.z r o=some v->fzc W ⟨r,o,none⟩=some v∧∀(k sp:Nat),s.lo≤k->s.heap.get k≠none->β k≠some (r,sp)
structure Stp (s s':AS):Prop where
 next:s.next≤s'.next
 lo:s'.lo=s.lo
 glb:s'.glb=s.glb
 keep:∀(k:Nat),k<s.lo->s'.heap.get k=s.heap.get k
 dom:(∀(k:Nat),s.heap.get k≠none->k<s.next)->∀(k:Nat),s'.heap.get k≠none->k<s'.next
 kl:(∀(k:Nat),s.heap.get k≠none->k<s.next)->∀(k:Nat),isLoop (s.heap.get k)=true->isLoop (s'.heap.get k)=true
theorem Stp.refl (s:AS):Stp s s:=⟨Nat.le_refl _,rfl,rfl,fun _ _=>rfl,id,fun _ _=>id⟩
theorem Stp.trans {a b c:AS}(h:Stp a b) (k:Stp b c):Stp a c:=⟨Nat.le_trans h.next k.next,k.lo.trans h.lo,k.glb.trans h.glb,fun i hi=>(k.keep i (by rw[h.lo];exact hi)).trans (h.keep i hi),fun hd=>k.dom (h.dom hd),fun hd i hi=>k.kl (h.dom hd) i (h.kl hd i hi)⟩
structure Ext (B:Nat) (β β':Bt) (n n':Nat):Prop where
 le:BLe B β β'
 out:∀(k:Nat),k<n∨n'≤k->β' k=β k
theorem Ext.refl {B:Nat}(β:Bt) (n:Nat):Ext B β β n n:=⟨.refl _,fun _ _=>rfl⟩
theorem Ext.mono {B B':Nat}{β β':Bt}{n n':Nat}(h:Ext B β β' n n') (hb:B'≤B):Ext B' β β' n n':=⟨h.le.mono hb,h.out⟩
theorem Ext.trans {B:Nat}{a b c:Bt}{n m l:Nat}(h:Ext B a b n m) (k:Ext B b c m l) (h1:n≤m) (h2:m≤l):Ext B a c n l:=⟨h.le.trans k.le,fun i hi=>(k.out i (by omega)).trans (h.out i (by omega))⟩
def Free (β:Bt) (n n':Nat):Prop:=∀(k:Nat),n≤k->k<n'->β k=none
theorem Free.ext {B:Nat}{β β':Bt}{n m l:Nat}(h:Free β n l) (k:Ext B β β' n m) (h1:n≤m):Free β' m l:=fun i hi hl=>by rw[k.out i (by omega)];exact h i (by omega) hl
theorem Free.sub {β:Bt}{n m l:Nat}(h:Free β n l) (h1:m≤l):Free β n m:=fun i hi hl=>h i hi (by omega)
theorem BlkR.sameX {P:Program}{β β':Bt}{W W':World}{r sp:Nat}{q q':Prop}{b:Blk}(h:BlkR P β W r sp q b) (hs:BLx β β') (hq:q'->q) (hb:W'.heap[r]?=W.heap[r]?):BlkR P β' W' r sp q' b:=by
 cases b with
 |cells T xs op =>
  obtain ⟨cs,fz,h1,h2,h0,h3,h4⟩:=h;exact ⟨cs,fz,by rw[hb];exact h1,fun x=>h2 (hq x),h0,h3,fun i u hi=>let ⟨h5,v,h6,h7⟩:=h4 i u hi;⟨h5,v,h6,h7.growX hs⟩⟩
 |map es bs cl =>
  obtain ⟨es',cl',h1,h2,h3,h4⟩:=h;exact ⟨es',cl',by rw[hb];exact h1,h2,fun i x u hi=>let ⟨e,h4,h5,h6⟩:=h3 i x u hi;⟨e,h4,h5,h6.growX hs⟩,h4⟩
 |loop st pe fr N ps assign body =>
  obtain ⟨L,h1,h2,h3,h4,h5,h6,h7,h8,h9⟩:=h;exact ⟨L,by rw[hb];exact h1,h2,h3,h4,h5,h6,h7,fun t u hu=>(h8 t u hu).growX hs,h9⟩
 |iter m since seen last =>
  obtain ⟨mr,q,h1,h2⟩:=h;exact ⟨mr,q,hs.m _ _ h1,by rw[hb];exact h2⟩
 |view xs =>
  obtain ⟨⟨cs,T,fz,h0⟩,h⟩:=h;refine ⟨⟨cs,T,fz,by rw[hb];exact h0⟩,fun i u hi=>?_⟩
  obtain ⟨h1,v,h2,h3⟩:=h i u hi;exact ⟨h1,v,by unfold World.cell? at h2 ⊢;rw[hb];exact h2,h3.growX hs⟩
theorem BlkR.same {P:Program}{B:Nat}{β β':Bt}{W W':World}{r sp:Nat}{q q':Prop}{b:Blk}(h:BlkR P β W r sp q b) (hs:BLe B β β') (hq:q'->q) (hb:W'.heap[r]?=W.heap[r]?):BlkR P β' W' r sp q' b:=h.sameX hs.x hq hb
theorem fzc_cell {W:World}{a:Addr}{v:Value}(h:fzc W a=some v) (hv:v.oneCell'=true):W.cell? a=some v:=by
 unfold fzc at h;split at h
 ·cases h;cases hv
 ·obtain ⟨h1,_⟩:=Option.filter_eq_some_iff.1 h;exact h1
theorem cell_fzc {W:World}{a:Addr}{v:Value}(h:W.cell? a=some v) (hv:v.oneCell'=true):fzc W a=some v:=by
 unfold fzc;split
 ·rename_i hb;unfold World.cell? at h
  rw[hb] at h;cases h
 ·rw[h];exact Option.filter_eq_some_iff.2 ⟨rfl,hv⟩
theorem fzc_map {W:World}{r:Nat}{es:Array MapEntry}{cl:Nat}(h:W.heap[r]?=some (.map es cl)):fzc W ⟨r,0,none⟩=some (encM es.toList):=by
 unfold fzc;rw[h]
theorem fzc_mapI {W:World}{r:Nat}{l:List Value}(h:fzc W ⟨r,0,none⟩=some (.tuple ⟨l⟩)):∃es cl,W.heap[r]?=some (.map es cl)∧(es.toList.map fun e=>pairV (e.key,e.val))=l:=by
 unfold fzc at h;split at h
 ·rename_i es cl hb;cases h;exact ⟨es,cl,hb,rfl⟩
 ·obtain ⟨_,h1⟩:=Option.filter_eq_some_iff.1 h;cases h1
theorem encM_of {β:Bt}{es:List (Value×Value)}{es':Array MapEntry}(h1:es'.size=es.length) (h2:∀(i:Nat) (x u:Value),es[i]?=some (x,u)->∃e,es'[i]?=some e∧e.key=x∧VR β u e.val) (hf:∀e∈es,flatV e.2=true):encM es'.toList=.tuple ⟨es.map pairV⟩:=by
 unfold encM;congr 2
 refine List.ext_getElem? fun i=>?_
 rw[List.getElem?_map,List.getElem?_map];by_cases hi:i<es.length
 ·obtain ⟨e,g1,g2,g3⟩:=h2 i es[i].1 es[i].2 (List.getElem?_eq_getElem hi);rw[Array.getElem?_toList,g1,List.getElem?_eq_getElem hi];have:=g3.flat_eq (hf _ (List.getElem_mem hi));show some (pairV (e.key,e.val))=some (pairV es[i])
  rw[g2,this]
 ·rw[List.getElem?_eq_none (l:=es) (by omega),List.getElem?_eq_none (l:=es'.toList) (by rw[Array.length_toList];omega)]
  rfl
theorem cell_lt {W:World}{r o:Nat}{v:Value}(h:fzc W ⟨r,o,none⟩=some v):r<W.heap.size:=by
 unfold fzc at h;rcases Nat.lt_or_ge r W.heap.size with hlt|hge
 ·exact hlt
 ·simp[World.cell?,Array.getElem?_eq_none hge] at h
theorem cell_same {W W':World}{r o:Nat}(h:W'.heap[r]?=W.heap[r]?):fzc W' ⟨r,o,none⟩=fzc W ⟨r,o,none⟩:=by
 unfold fzc World.cell?;rw[h]
theorem Rel.later {P:Program}{W0:World}{β:Bt}{s:AS}{W W':World}(h:Rel P W0 β s W) (hb:Below W.heap.size W W'):Rel P W0 β s W' :=
 ⟨fun k b r sp hk hr=>(h.blk k b r sp hk hr).same (BLe.refl (B:=0) _) id (hb.block r (h.lt k r sp hr)),h.inj,h.dom,fun k r sp hr=>Nat.lt_of_lt_of_le (h.lt k r sp hr) hb.size,h.ge,h.below.trans (hb.mono h.below.size),h.glob,fun r o v hv=>⟨by rw[cell_same (hb.block r (cell_lt (h.frz r o v hv).1))];exact (h.frz r o v hv).1,(h.frz r o v hv).2⟩⟩
def Bt.set (β:Bt) (k:Nat) (x:Nat×Nat):Bt:=⟨fun i=>if i=k then some x else β i,β.z⟩
theorem Bt.set_same (β:Bt) (k:Nat) (x:Nat×Nat):β.set k x k=some x:=by simp[Bt.set]
theorem Bt.set_other (β:Bt) {k i:Nat}(x:Nat×Nat) (h:i≠k):β.set k x i=β i:=by simp[Bt.set,h]
theorem Bt.set_le {B:Nat}{β:Bt}{k:Nat}(x:Nat×Nat) (h:β k=none):BLe B β (β.set k x):=by
 refine ⟨fun i y hi=>?_,fun _ _ _ h=>h,fun _ _ _ h=>.inl h⟩
 rw[Bt.set_other]
 ·exact hi
 ·rintro rfl;rw[h] at hi;cases hi
def AS.push (s:AS) (b:Blk):AS:=⟨s.heap.set s.next (some b),s.next+1,s.lo,s.glb⟩
theorem AS.push_stp (s:AS) (b:Blk) (h:s.lo≤s.next):Stp s (s.push b):=⟨Nat.le_succ _,rfl,rfl,fun k hk=>by
 show (s.heap.set s.next (some b)).get k=_
 rw[Tr.get_set,if_neg (by omega)],fun hd k hk=>by
 have hk:(s.heap.set s.next (some b)).get k≠none:=hk;show k<s.next+1
 rw[Tr.get_set] at hk;split at hk
 ·omega
 ·have:=hd k hk;omega,fun hd k hk=>by
 show isLoop ((s.heap.set s.next (some b)).get k)=true
 rw[Tr.get_set];split
 ·rename_i e;subst e;have:s.heap.get s.next≠none:=fun h=>by rw[h] at hk;cases hk
  exact absurd (hd _ this) (Nat.lt_irrefl _)
 ·exact hk⟩
theorem Stp.turn {s:AS}{b:Nat}(x:Option Blk) (hb:s.heap.get b≠none) (hlo:s.lo≤b) (hx:isLoop (s.heap.get b)=true->isLoop x=true):Stp s ⟨s.heap.set b x,s.next,s.lo,s.glb⟩:=⟨Nat.le_refl _,rfl,rfl,fun j hj=>by
 show (s.heap.set b _).get j=_
 rw[Tr.get_set,if_neg (by omega)],fun hd j hj=>by
 have hj:(s.heap.set b x).get j≠none:=hj;rw[Tr.get_set] at hj;split at hj
 ·rename_i e;subst e;exact hd _ hb
 ·exact hd j hj,fun hd j hj=>by
 show isLoop ((s.heap.set b x).get j)=true
 rw[Tr.get_set];split
 ·rename_i e;subst e;exact hx hj
 ·exact hj⟩
theorem Rel.alloc {P:Program}{W0:World}{β:Bt}{s:AS}{W:World}(h:Rel P W0 β s W) {b:Blk}{ob:Obj}{sp:Nat}(hfree:β s.next=none)
  (hb:BlkR P (β.set s.next (W.heap.size,sp)) (W.alloc ob) W.heap.size sp True b):Rel P W0 (β.set s.next (W.heap.size,sp)) (s.push b) (W.alloc ob):=by
 have hle:=Bt.set_le (B:=W0.heap.size) (W.heap.size,sp) hfree;have hB:Below W.heap.size W (W.alloc ob):=(Below.refl _ _).alloc rL _;have old:∀k r q,(β.set s.next (W.heap.size,sp)) k=some (r,q)->(k=s.next∧r=W.heap.size∧q=sp)∨(k≠s.next∧β k=some (r,q)):=fun k r q hk=>by
  by_cases he:k=s.next
  ·subst he;rw[Bt.set_same] at hk;cases hk;exact .inl ⟨rfl,rfl,rfl⟩
  ·rw[Bt.set_other _ _ he] at hk;exact .inr ⟨he,hk⟩
 have gt:∀k,k≠s.next->(s.push b).heap.get k=s.heap.get k:=fun k hk=>by
  show (s.heap.set s.next (some b)).get k=_
  rw[Tr.get_set,if_neg hk]
 refine ⟨fun k c r q hk hr=>?_,fun k k' r q q' hlk hk hk' hr hr'=>?_,fun k hk=>?_,fun k r q hr=>?_,fun k r q hk hr hlo=>?_,h.below.trans (hB.mono h.below.size),fun g hg=>hle _ _ (h.glob g hg),fun r o v hv=>?_⟩
 ·rcases old k r q hr with ⟨rfl,rfl,rfl⟩|⟨hne,hr'⟩
  ·have:(s.push b).heap.get s.next=some b:=by
    show (s.heap.set s.next (some b)).get s.next=_
    rw[Tr.get_set,if_pos rfl]
   rw[this] at hk;cases hk;exact hb.same (BLe.refl (B:=0) _) (fun _=>trivial) rfl
  ·rw[gt k hne] at hk;exact (h.blk k c r q hk hr').same hle id (hB.block r (h.lt k r q hr'))
 ·rcases old k r q hr with ⟨rfl,rfl,rfl⟩|⟨hne,hr1⟩<;>rcases old k' _ q' hr' with ⟨rfl,e,_⟩|⟨hne',hr1'⟩
  ·rfl
  ·exact absurd (h.lt k' _ q' hr1') (Nat.lt_irrefl _)
  ·subst e;exact absurd (h.lt k _ q hr1) (Nat.lt_irrefl _)
  ·rw[gt k hne] at hk;rw[gt k' hne'] at hk'
   exact h.inj k k' r q q' hlk hk hk' hr1 hr1'
 ·by_cases he:k=s.next
  ·subst he;exact Nat.lt_succ_self _
  ·rw[gt k he] at hk;exact Nat.lt_succ_of_lt (h.dom k hk)
 ·have hsz:(W.alloc ob).heap.size=W.heap.size+1:=by simp
  rw[hsz];rcases old k r q hr with ⟨_,rfl,_⟩|⟨_,hr'⟩
  ·omega
  ·have:=h.lt k r q hr';omega
 ·rcases old k r q hr with ⟨_,rfl,_⟩|⟨hne,hr'⟩
  ·exact h.below.size
  ·rw[gt k hne] at hk;exact h.ge k r q hk hr' hlo
 ·obtain ⟨h1,h2⟩:=h.frz r o v hv;refine ⟨by rw[cell_same (hB.block r (cell_lt h1))];exact h1,fun k q hlk hk hr=>?_⟩
  rcases old k r q hr with ⟨rfl,rfl,rfl⟩|⟨hne,hr'⟩
  ·exact absurd (cell_lt h1) (Nat.lt_irrefl _)
  ·rw[gt k hne] at hk;exact h2 k q hlk hk hr'
theorem Rel.write {P:Program}{W0:World}{β:Bt}{s:AS}{W W':World}(h:Rel P W0 β s W) {k r sp:Nat}{b:Blk}(hk:s.heap.get k≠none) (hr:β k=some (r,sp)) (hlo:s.lo≤k)
  (hsz:W'.heap.size=W.heap.size) (hoth:∀i,i≠r->W'.heap[i]?=W.heap[i]?) (hbl:Below W0.heap.size W0 W') (hb:BlkR P β W' r sp True b):Rel P W0 β ⟨s.heap.set k (some b),s.next,s.lo,s.glb⟩ W':=by
 refine ⟨fun k' c r' sp' hk' hr'=>?_,fun k1 k2 r' q q' hl1 h1 h2 hr1 hr2=>?_,fun k' hk'=>?_,fun k' r' q hr'=>by rw[hsz];exact h.lt k' r' q hr',fun k' r' q hk' hr' hl=>?_,hbl,h.glob,fun r' o v hv=>?_⟩
 ·have hk':(s.heap.set k (some b)).get k'=some c:=hk';rw[Tr.get_set] at hk'
  by_cases he:k'=k
  ·rw[if_pos he] at hk'
   cases hk';subst he;rw[hr] at hr'
   cases hr';exact hb.same (BLe.refl (B:=0) _) (fun _=>trivial) rfl
  ·rw[if_neg he] at hk'
   refine (h.blk k' c r' sp' hk' hr').same (BLe.refl (B:=0) _) id (hoth r' fun e=>he ?_)
   subst e;exact (h.inj k k' _ sp sp' hlo hk (by rw[hk'];simp) hr hr').symm
 ·have h1:(s.heap.set k (some b)).get k1≠none:=h1;have h2:(s.heap.set k (some b)).get k2≠none:=h2;rw[Tr.get_set] at h1 h2;refine h.inj k1 k2 r' q q' hl1 ?_ ?_ hr1 hr2
  ·by_cases he:k1=k
   ·subst he;exact hk
   ·rwa [if_neg he] at h1
  ·by_cases he:k2=k
   ·subst he;exact hk
   ·rwa [if_neg he] at h2
 ·have hk':(s.heap.set k (some b)).get k'≠none:=hk';rw[Tr.get_set] at hk'
  by_cases he:k'=k
  ·subst he;exact h.dom _ hk
  ·rw[if_neg he] at hk';exact h.dom k' hk'
 ·have hk':(s.heap.set k (some b)).get k'≠none:=hk';rw[Tr.get_set] at hk'
  by_cases he:k'=k
  ·subst he;rw[hr] at hr';cases hr';exact h.ge _ _ _ hk hr hl
  ·rw[if_neg he] at hk';exact h.ge k' r' q hk' hr' hl
 ·obtain ⟨h1,h2⟩:=h.frz r' o v hv;refine ⟨by rw[cell_same (hoth r' fun e=>h2 k sp hlo hk (by rw[e];exact hr))];exact h1,fun k' q hlk hk' hr'=>?_⟩
  have hk':(s.heap.set k (some b)).get k'≠none:=hk';rw[Tr.get_set] at hk'
  by_cases he:k'=k
  ·subst he;exact h2 _ q hlk hk hr'
  ·rw[if_neg he] at hk';exact h2 k' q hlk hk' hr'
end Go.Proofs.YtcihknonfcldeaaDoor.U
