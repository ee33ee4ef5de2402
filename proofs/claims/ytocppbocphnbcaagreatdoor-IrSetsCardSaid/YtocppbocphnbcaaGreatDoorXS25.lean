
import Derived.Test.YtocppbocphnbcaaGreatDoorXS21
import Derived.Test.YtocppbocphnbcaaGreatDoorXS22
import Derived.Test.YtocppbocphnbcaaGreatDoorXS23
import Derived.Test.YtocppbocphnbcaaGreatDoorXS24
namespace Go.Proofs.YtocppbocphnbcaaGreatDoor
open Go Go.RowKit Go.Sort U
set_option linter.unusedVariables false
set_option linter.unusedSimpArgs false
set_option maxRecDepth 100000
set_option maxHeartbeats 40000000
def Ris (l:List Int):Prop:=l.Pairwise (·<·)
def addI (n:Int):List Int->List Int
 |[]=>[n]
 |x::l=>if x=n then x::l else if n<x then n::x::l else x::addI n l
theorem addI_mem {n z:Int}:∀{l:List Int},z∈addI n l↔z=n∨z∈l
 |[]=>by simp[addI]
 |x::l=>by
  rw[addI];split
  ·rename_i h;subst h;simp
  ·split
   ·simp
   ·rw[List.mem_cons,addI_mem (l:=l),List.mem_cons];exact ⟨fun h=>by rcases h with h|h|h<;>simp[h],fun h=>by rcases h with h|h|h<;>simp[h]⟩
theorem addI_ris {n:Int}:∀{l:List Int},Ris l->Ris (addI n l)
 |[],_=>by simp[addI,Ris]
 |x::l,h=>by
  have h':=List.pairwise_cons.1 h;rw[addI];split
  ·exact h
  ·rename_i hne;split
   ·rename_i hlt;refine List.pairwise_cons.2 ⟨fun y hy=>?_,h⟩
    rcases List.mem_cons.1 hy with rfl|hy
    ·exact hlt
    ·exact Int.lt_trans hlt (h'.1 y hy)
   ·rename_i hlt;refine List.pairwise_cons.2 ⟨fun y hy=>?_,addI_ris h'.2⟩
    rcases addI_mem.1 hy with rfl|hy
    ·omega
    ·exact h'.1 y hy
theorem addI_len {n:Int}:∀{l:List Int},(addI n l).length≤l.length+1
 |[]=>by simp[addI]
 |x::l=>by
  have:=addI_len (n:=n) (l:=l);rw[addI];split
  ·simp
  ·split<;>simp<;>omega
theorem ris_ext:∀{a b:List Int},Ris a->Ris b->(∀z,z∈a↔z∈b)->a=b
 |[],[],_,_,_=>rfl
 |[],y::b,_,_,h=>absurd ((h y).2 (by simp)) (by simp)
 |x::a,[],_,_,h=>absurd ((h x).1 (by simp)) (by simp)
 |x::a,y::b,ha,hb,h=>by
  have ha':=List.pairwise_cons.1 ha;have hb':=List.pairwise_cons.1 hb;have hxy:x=y:=by
   have h1:=(h x).1 (by simp)
   have h2:=(h y).2 (by simp)
   rcases List.mem_cons.1 h1 with h1|h1
   ·exact h1
   ·rcases List.mem_cons.1 h2 with h2|h2
    ·exact h2.symm
    ·have:=hb'.1 x h1;have:=ha'.1 y h2;omega
  subst hxy;rw[ris_ext ha'.2 hb'.2 fun z=>⟨fun hz=>?_,fun hz=>?_⟩]
  ·rcases List.mem_cons.1 ((h z).1 (by simp[hz])) with h1|h1
   ·subst h1;exact absurd (ha'.1 z hz) (by omega)
   ·exact h1
  ·rcases List.mem_cons.1 ((h z).2 (by simp[hz])) with h1|h1
   ·subst h1;exact absurd (hb'.1 z hz) (by omega)
   ·exact h1
structure Nt where
 sl:St->List Int
 ar:St->List Int
def kS:St->Int
 |.mk k _ _ _ _ _=>k
def aS:St->Int
 |.mk _ a _ _ _ _=>a
def psN (ps:List Pr13) (a:Int):List Int:=match ps[a.toNat]? with
 |some x=>x.ps
 |none=>[]
def wNt (p:Pg):Nt:=⟨fun s=>match s with | .mk k a _ _ _ _=>if k=0 then [a] else if k=5 then psN p.procs a else [],fun s=>match s with | .mk k a _ _ _ _=>if k=1 then [a] else []⟩
def eSl (l:List Ex):List Int:=l.filterMap fun e=>match e with | .mk k _ a _ _=>if k=1 then some a else none
def eAr (l:List Ex):List Int:=l.filterMap fun e=>match e with | .mk k _ a _ _=>if k=2 then some a else none
def rNt:Nt:=⟨fun s=>match s with | .mk _ _ xs _ _ _=>eSl (postEs xs),fun s=>match s with | .mk _ _ xs _ _ _=>eAr (postEs xs)⟩
def bodyN (p:Pg) (j:Nat):List St:=match p.procs[j]? with
 |some x=>allSs x.body
 |none=>[]
inductive Rch (p:Pg) (X:List St):Nat->Prop where
 |base (x:St) (h:x∈X) (hs:standsB p x=true) (hk:kS x=5):Rch p X (aS x).toNat
 |step (i:Nat) (x:St) (hi:Rch p X i) (h:x∈bodyN p i) (hs:standsB p x=true) (hk:kS x=5):Rch p X (aS x).toNat
theorem Rch.mono {p:Pg}{X Y:List St}(hs:∀x∈X,x∈Y) {j:Nat}(h:Rch p X j):Rch p Y j:=by
 induction h with
 |base x h h1 h2=>exact .base x (hs x h) h1 h2
 |step i x _ h h1 h2 ih=>exact .step i x ih h h1 h2
theorem Rch.into {p:Pg}{X Y:List St}(hs:∀x∈X,x∈Y∨∃i,Rch p Y i∧x∈bodyN p i) {j:Nat}(h:Rch p X j):Rch p Y j:=by
 induction h with
 |base x h h1 h2 =>
  rcases hs x h with h|⟨i,h3,h4⟩
  ·exact .base x h h1 h2
  ·exact .step i x h3 h4 h1 h2
 |step i x _ h h1 h2 ih=>exact .step i x ih h h1 h2
def New (sn sn':List Bool) (j:Nat):Prop:=sn'[j]?=some true∧sn[j]?=some false
def Met (p:Pg) (X:List St) (sn sn':List Bool) (x:St):Prop:=x∈X∨∃j,New sn sn' j∧x∈bodyN p j
structure Post (p:Pg) (nt:Nt) (X:List St) (S A:List Int) (sn:List Bool) (S' A':List Int) (sn':List Bool):Prop where
 len:sn'.length=sn.length
 mono:∀j:Nat,sn[j]?=some true->sn'[j]?=some true
 sr:Ris S->Ris S'
 ar:Ris A->Ris A'
 sl:∀z,z∈S'↔z∈S∨∃x,Met p X sn sn' x∧standsB p x=true∧z∈nt.sl x
 al:∀z,z∈A'↔z∈A∨∃x,Met p X sn sn' x∧standsB p x=true∧z∈nt.ar x
 clo:∀x,Met p X sn sn' x->standsB p x=true->kS x=5->sn'[(aS x).toNat]?=some true
 rch:∀j,New sn sn' j->Rch p X j
theorem new_self {sn:List Bool}{j:Nat}:¬New sn sn j:=fun h=>by
 have:=h.1;rw[h.2] at this;cases this
theorem Post.nil {p:Pg}{nt:Nt}{S A:List Int}{sn:List Bool}:Post p nt [] S A sn S A sn:=by
 have hm:∀x,¬Met p [] sn sn x:=fun x h=>by
  rcases h with h|⟨j,h,_⟩
  ·cases h
  ·exact new_self h
 exact ⟨rfl,fun _ h=>h,id,id,fun z=>⟨.inl,fun h=>h.elim id fun ⟨x,h,_⟩=>absurd h (hm x)⟩,fun z=>⟨.inl,fun h=>h.elim id fun ⟨x,h,_⟩=>absurd h (hm x)⟩,fun x h=>absurd h (hm x),fun j h=>absurd h new_self⟩
theorem getB_cases {l m:List Bool}(hl:m.length=l.length) {j:Nat}(h:m[j]?=some true):l[j]?=some true∨l[j]?=some false:=by
 have hj:=(List.getElem?_eq_some_iff.1 h).1;rw[List.getElem?_eq_getElem (by omega)];cases l[j]'(by omega)<;>simp
theorem Post.app {p:Pg}{nt:Nt}{X Y:List St}{S A S1 A1 S2 A2:List Int}{sn sn1 sn2:List Bool}(h1:Post p nt X S A sn S1 A1 sn1) (h2:Post p nt Y S1 A1 sn1 S2 A2 sn2):Post p nt (X++Y) S A sn S2 A2 sn2:=by
 have n1:∀j,New sn sn1 j->New sn sn2 j:=fun j h=>⟨h2.mono j h.1,h.2⟩
 have n2:∀j,New sn1 sn2 j->New sn sn2 j:=fun j h=>⟨h.1,by
  rcases getB_cases (l:=sn) (m:=sn2) (h2.len.trans h1.len) h.1 with h3|h3
  ·have:=h1.mono j h3;rw[h.2] at this;cases this
  ·exact h3⟩
 have n3:∀j,New sn sn2 j->New sn sn1 j∨New sn1 sn2 j:=fun j h=>by
  rcases getB_cases (l:=sn1) (m:=sn2) h2.len h.1 with h3|h3
  ·exact .inl ⟨h3,h.2⟩
  ·exact .inr ⟨h.1,h3⟩
 have m1:∀x,Met p X sn sn1 x->Met p (X++Y) sn sn2 x:=fun x h=>by
  rcases h with h|⟨j,h,h'⟩
  ·exact .inl (List.mem_append_left _ h)
  ·exact .inr ⟨j,n1 j h,h'⟩
 have m2:∀x,Met p Y sn1 sn2 x->Met p (X++Y) sn sn2 x:=fun x h=>by
  rcases h with h|⟨j,h,h'⟩
  ·exact .inl (List.mem_append_right _ h)
  ·exact .inr ⟨j,n2 j h,h'⟩
 have m3:∀x,Met p (X++Y) sn sn2 x->Met p X sn sn1 x∨Met p Y sn1 sn2 x:=fun x h=>by
  rcases h with h|⟨j,h,h'⟩
  ·rcases List.mem_append.1 h with h|h
   ·exact .inl (.inl h)
   ·exact .inr (.inl h)
  ·rcases n3 j h with h|h
   ·exact .inl (.inr ⟨j,h,h'⟩)
   ·exact .inr (.inr ⟨j,h,h'⟩)
 refine ⟨h2.len.trans h1.len,fun j h=>h2.mono j (h1.mono j h),fun h=>h2.sr (h1.sr h),fun h=>h2.ar (h1.ar h),fun z=>?_,fun z=>?_,fun x h hs hk=>?_,fun j h=>?_⟩
 ·rw[h2.sl z,h1.sl z];constructor
  ·rintro ((h|⟨x,h3,h4⟩)|⟨x,h3,h4⟩)
   ·exact .inl h
   ·exact .inr ⟨x,m1 x h3,h4⟩
   ·exact .inr ⟨x,m2 x h3,h4⟩
  ·rintro (h|⟨x,h3,h4⟩)
   ·exact .inl (.inl h)
   ·rcases m3 x h3 with h3|h3
    ·exact .inl (.inr ⟨x,h3,h4⟩)
    ·exact .inr ⟨x,h3,h4⟩
 ·rw[h2.al z,h1.al z];constructor
  ·rintro ((h|⟨x,h3,h4⟩)|⟨x,h3,h4⟩)
   ·exact .inl h
   ·exact .inr ⟨x,m1 x h3,h4⟩
   ·exact .inr ⟨x,m2 x h3,h4⟩
  ·rintro (h|⟨x,h3,h4⟩)
   ·exact .inl (.inl h)
   ·rcases m3 x h3 with h3|h3
    ·exact .inl (.inr ⟨x,h3,h4⟩)
    ·exact .inr ⟨x,h3,h4⟩
 ·rcases m3 x h with h|h
  ·exact h2.mono _ (h1.clo x h hs hk)
  ·exact h2.clo x h hs hk
 ·rcases n3 j h with h|h
  ·exact (h1.rch j h).mono fun x hx=>List.mem_append_left _ hx
  ·exact (h2.rch j h).mono fun x hx=>List.mem_append_right _ hx
structure Adds (S S1 L:List Int):Prop where
 r:Ris S->Ris S1
 m:∀z,z∈S1↔z∈S∨z∈L
theorem Adds.nil (S:List Int):Adds S S []:=⟨id,fun z=>by simp⟩
theorem Adds.one (S:List Int) (n:Int):Adds S (addI n S) [n]:=⟨addI_ris,fun z=>by rw[addI_mem];simp[or_comm]⟩
theorem Adds.app {S S1 S2 L M:List Int}(h:Adds S S1 L) (k:Adds S1 S2 M):Adds S S2 (L++M):=⟨fun hr=>k.r (h.r hr),fun z=>by rw[k.m z,h.m z,List.mem_append,or_assoc]⟩
theorem Post.skip {p:Pg}{nt:Nt}{x:St}{S A:List Int}{sn:List Bool}(hx:standsB p x=false):Post p nt [x] S A sn S A sn:=by
 have hm:∀y,Met p [x] sn sn y->standsB p y=true->False:=fun y h hs=>by
  rcases h with h|⟨j,h,_⟩
  ·rw[List.mem_singleton] at h;subst h;rw[hx] at hs;cases hs
  ·exact new_self h
 exact ⟨rfl,fun _ h=>h,id,id,fun z=>⟨.inl,fun h=>h.elim id fun ⟨y,h,hs,_⟩=>absurd (hm y h hs) id⟩,fun z=>⟨.inl,fun h=>h.elim id fun ⟨y,h,hs,_⟩=>absurd (hm y h hs) id⟩,fun y h hs=>absurd (hm y h hs) id,fun j h=>absurd h new_self⟩
theorem Post.own {p:Pg}{nt:Nt}{x:St}{S A S1 A1:List Int}{sn:List Bool}(hx:standsB p x=true) (hS:Adds S S1 (nt.sl x)) (hA:Adds A A1 (nt.ar x)) (hk:kS x=5->sn[(aS x).toNat]?=some true):Post p nt [x] S A sn S1 A1 sn:=by
 have hm:∀y,Met p [x] sn sn y↔y=x:=fun y=>⟨fun h=>by
  rcases h with h|⟨j,h,_⟩
  ·exact List.mem_singleton.1 h
  ·exact absurd h new_self,fun h=>.inl (by rw[h];simp)⟩
 refine ⟨rfl,fun _ h=>h,hS.r,hA.r,fun z=>?_,fun z=>?_,fun y h _ hk'=>?_,fun j h=>absurd h new_self⟩
 ·rw[hS.m z];exact or_congr Iff.rfl ⟨fun h=>⟨x,(hm x).2 rfl,hx,h⟩,fun ⟨y,h1,_,h2⟩=>by rw[(hm y).1 h1] at h2;exact h2⟩
 ·rw[hA.m z];exact or_congr Iff.rfl ⟨fun h=>⟨x,(hm x).2 rfl,hx,h⟩,fun ⟨y,h1,_,h2⟩=>by rw[(hm y).1 h1] at h2;exact h2⟩
 ·have:=(hm y).1 h;subst this;exact hk hk'
theorem Post.call {p:Pg}{nt:Nt}{x:St}{S A S1 A1 S2 A2:List Int}{sn sn2:List Bool}(hx:standsB p x=true) (hS:Adds S S1 (nt.sl x)) (hA:Adds A A1 (nt.ar x)) (hk:kS x=5) (hn:sn[(aS x).toNat]?=some false) (h:Post p nt (bodyN p (aS x).toNat) S1 A1 (sn.set (aS x).toNat true) S2 A2 sn2):Post p nt [x] S A sn S2 A2 sn2:=by
 generalize hj:(aS x).toNat=i at *
 have hi:=(List.getElem?_eq_some_iff.1 hn).1;have hl:sn2.length=sn.length:=h.len.trans (List.length_set ..);have g1:(sn.set i true)[i]?=some true:=by simp[hi]
 have g2:∀j,j≠i->(sn.set i true)[j]?=sn[j]?:=fun j hj=>by rw[List.getElem?_set_ne (Ne.symm hj)]
 have ni:New sn sn2 i:=⟨h.mono i g1,hn⟩;have n1:∀j,New (sn.set i true) sn2 j->New sn sn2 j:=fun j hj=>⟨hj.1,by
  by_cases e:j=i
  ·subst e;exact hn
  ·rw[← g2 j e];exact hj.2⟩
 have n2:∀j,New sn sn2 j->j=i∨New (sn.set i true) sn2 j:=fun j hj=>by
  by_cases e:j=i
  ·exact .inl e
  ·exact .inr ⟨hj.1,by rw[g2 j e];exact hj.2⟩
 have m1:∀y,Met p (bodyN p i) (sn.set i true) sn2 y->Met p [x] sn sn2 y:=fun y hy=>by
  rcases hy with hy|⟨j,h1,h2⟩
  ·exact .inr ⟨i,ni,hy⟩
  ·exact .inr ⟨j,n1 j h1,h2⟩
 have m2:∀y,Met p [x] sn sn2 y->y=x∨Met p (bodyN p i) (sn.set i true) sn2 y:=fun y hy=>by
  rcases hy with hy|⟨j,h1,h2⟩
  ·exact .inl (List.mem_singleton.1 hy)
  ·rcases n2 j h1 with rfl|h1
   ·exact .inr (.inl h2)
   ·exact .inr (.inr ⟨j,h1,h2⟩)
 have m0:Met p [x] sn sn2 x:=.inl (by simp)
 have ri:Rch p [x] i:=by rw[← hj];exact .base x (by simp) hx hk
 refine ⟨hl,fun j hj'=>h.mono j ?_,fun hr=>h.sr (hS.r hr),fun hr=>h.ar (hA.r hr),fun z=>?_,fun z=>?_,fun y hy hs hk'=>?_,fun j hj'=>?_⟩
 ·by_cases e:j=i
  ·subst e;rw[hn] at hj';cases hj'
  ·rw[g2 j e];exact hj'
 ·rw[h.sl z,hS.m z];constructor
  ·rintro ((h3|h3)|⟨y,h3,h4⟩)
   ·exact .inl h3
   ·exact .inr ⟨x,m0,hx,h3⟩
   ·exact .inr ⟨y,m1 y h3,h4⟩
  ·rintro (h3|⟨y,h3,h4,h5⟩)
   ·exact .inl (.inl h3)
   ·rcases m2 y h3 with rfl|h3
    ·exact .inl (.inr h5)
    ·exact .inr ⟨y,h3,h4,h5⟩
 ·rw[h.al z,hA.m z];constructor
  ·rintro ((h3|h3)|⟨y,h3,h4⟩)
   ·exact .inl h3
   ·exact .inr ⟨x,m0,hx,h3⟩
   ·exact .inr ⟨y,m1 y h3,h4⟩
  ·rintro (h3|⟨y,h3,h4,h5⟩)
   ·exact .inl (.inl h3)
   ·rcases m2 y h3 with rfl|h3
    ·exact .inl (.inr h5)
    ·exact .inr ⟨y,h3,h4,h5⟩
 ·rcases m2 y hy with rfl|hy
  ·rw[hj];exact ni.1
  ·exact h.clo y hy hs hk'
 ·rcases n2 j hj' with rfl|h1
  ·exact ri
  ·exact (h.rch j h1).into fun y hy=>.inr ⟨i,ri,hy⟩
def Mets (p:Pg) (X:List St) (x:St):Prop:=x∈X∨∃j,Rch p X j∧x∈bodyN p j
def InS (p:Pg) (f:St->List Int) (X:List St) (z:Int):Prop:=∃x,Mets p X x∧standsB p x=true∧z∈f x
theorem Post.new {p:Pg}{nt:Nt}{X:List St}{n:Nat}{S' A':List Int}{sn':List Bool}(h:Post p nt X [] [] (List.replicate n false) S' A' sn') (j:Nat):New (List.replicate n false) sn' j↔Rch p X j:=by
 have hn:∀j,sn'[j]?=some true->New (List.replicate n false) sn' j:=fun j hj=>⟨hj,by
  have:=(List.getElem?_eq_some_iff.1 hj).1;have hl:=h.len;rw[List.length_replicate] at hl;rw[List.getElem?_replicate,if_pos (by omega)]⟩
 refine ⟨h.rch j,fun hr=>?_⟩
 induction hr with
 |base x hx hs hk=>exact hn _ (h.clo x (.inl hx) hs hk)
 |step i x _ hx hs hk ih=>exact hn _ (h.clo x (.inr ⟨i,ih,hx⟩) hs hk)
theorem Post.fin {p:Pg}{nt:Nt}{X:List St}{n:Nat}{S' A':List Int}{sn':List Bool}(h:Post p nt X [] [] (List.replicate n false) S' A' sn'):(Ris S'∧∀z,z∈S'↔InS p nt.sl X z)∧(Ris A'∧∀z,z∈A'↔InS p nt.ar X z):=by
 have hm:∀x,Met p X (List.replicate n false) sn' x↔Mets p X x:=fun x=>or_congr Iff.rfl (exists_congr fun j=>and_congr (h.new j) Iff.rfl)
 have he:Ris []:=List.Pairwise.nil;refine ⟨⟨h.sr he,fun z=>?_⟩,⟨h.ar he,fun z=>?_⟩⟩
 ·rw[h.sl z];simp only[List.not_mem_nil,false_or];exact exists_congr fun x=>and_congr (hm x) Iff.rfl
 ·rw[h.al z];simp only[List.not_mem_nil,false_or];exact exists_congr fun x=>and_congr (hm x) Iff.rfl
def srtI (l:List Int):List Int:=l.mergeSort fun x y=>decide (x≤y)
theorem sortI_s {es:List Int}{s:AS}{b n c:Nat}{op:Bool}(hb:s.heap.get b=some (.cells 3 (iL es) op)) (hlo:s.lo≤b) (hn:es.length=n) (hnc:n≤c) (hm:n≤1000000) {K:Value->AS->Prop}(hK:K (.tuple ⟨[]⟩) ⟨s.heap.set b (some (.cells 3 (iL (srtI es)) op)),s.next,s.lo,s.glb⟩):SoundAt Tryz.prog 102 [.slice (some ⟨b,0,none⟩) n c] s K :=
 intsAt (g:=srtI) (fun l=>by simp[srtI]) (vr:=fun _ _ _=>.tuple #[]) (fun d W r cap hH hr hcap hd=>(Tryz.slices_Sort_int r 0 cap d W hH hr (by omega)).mono fun e w' h=>h) hb hlo hn hnc hm (fun β r sp _=>.tup [] [] rfl (fun i u v h=>by simp at h)) hK
theorem srtN:DenU Tryz.prog [] 102 [.slice none 0 0] (.tuple ⟨[]⟩):=by
 refine denU_of_sound hmixU fun Ts=>SoundAt.body hmixU Tryz.func102 rfl rfl rfl 0 ?_
 (repeat' ((conv=>whnf);first|refine goD ?_|refine U.lw_c ?_ ?_<;>intro hb))
 (conv=>whnf);refine SoundAt.body hmixU Tryz.func106 rfl rfl rfl 0 ?_;(repeat' ((conv=>whnf);first|refine goD ?_|refine U.lw_c ?_ ?_<;>intro hb))
 (conv=>whnf);refine SoundAt.body hmixU Tryz.func120 rfl rfl rfl 0 ?_;(repeat' ((conv=>whnf);first|refine goD ?_|refine U.lw_c ?_ ?_<;>intro hb))
 (conv=>whnf);refine ⟨_,rfl,?_⟩;(repeat' ((conv=>whnf);first|refine goD ?_|refine U.lw_c ?_ ?_<;>intro hb))
 (conv=>whnf);refine SoundAt.body hmixU Tryz.func110 rfl rfl rfl 0 ?_;(repeat' ((conv=>whnf);first|refine goD ?_|refine U.lw_c ?_ ?_<;>intro hb))
 (conv=>whnf);refine loop_inv (α:=Unit) (fun _=>True) (fun _=>(mkF [(0,.slice none 0 0),(1,.int .i64 0),(2,.int .i64 0)],⟨.e,0,0,0⟩)) (fun _=>0) () trivial (Cov.renI rfl rfl rfl rfl .nil (.K rfl rfl rfl (.K rfl rfl rfl (.K rfl rfl rfl .nil)))) ?_
 rintro ⟨⟩ _
 dsimp only;(repeat' ((conv=>whnf);first|refine goD ?_|refine U.lw_c ?_ ?_<;>intro hb))
 (conv=>whnf);refine SoundAt.body hmixU Tryz.func122 rfl rfl rfl 0 ?_;(repeat' ((conv=>whnf);first|refine goD ?_|refine U.lw_c ?_ ?_<;>intro hb))
 (conv=>whnf);refine loop_inv (α:=Unit) (fun _=>True) (fun _=>(mkF [(0,.slice none 0 0),(1,.int .i64 0),(2,.int .i64 0),(6,.int .i64 1)],⟨.e,0,0,0⟩)) (fun _=>0) () trivial (Cov.renI rfl rfl rfl rfl .nil (.K rfl rfl rfl (.K rfl rfl rfl (.K rfl rfl rfl (.K rfl rfl rfl .nil))))) ?_
 rintro ⟨⟩ _
 dsimp only;(repeat' ((conv=>whnf);first|refine goD ?_|refine U.lw_c ?_ ?_<;>intro hb))
 (conv=>whnf);exact .same (.flat _ rfl) rfl
theorem srtI_perm (l:List Int):(srtI l).Perm l:=List.mergeSort_perm ..
theorem srtI_sorted (l:List Int):(srtI l).Pairwise (·≤·):=by
 have:=List.pairwise_mergeSort (le:=fun x y:Int=>decide (x≤y)) (fun a b c h1 h2=>by simp at *;omega) (fun a b=>by simp;omega) l
 exact this.imp fun h=>by simpa using h
theorem srtI_ris {l:List Int}(h:l.Nodup):Ris (srtI l):=by
 have hn:(srtI l).Nodup:=(srtI_perm l).nodup_iff.2 h;have hs:=srtI_sorted l;exact (List.pairwise_and_iff.2 ⟨hs,hn⟩).imp fun h=>by omega
theorem srtI_of {l m:List Int}(hl:l.Nodup) (h:l.Perm m):srtI l=srtI m :=
 ris_ext (srtI_ris hl) (srtI_ris (h.nodup_iff.1 hl)) fun z=>by rw[(srtI_perm l).mem_iff,(srtI_perm m).mem_iff,h.mem_iff]
theorem srtI_len (l:List Int):(srtI l).length=l.length:=(srtI_perm l).length_eq
abbrev mB (m:List (Int×Int)):U.Blk:=.map (mE (Value.int .i64) (Value.int .i64) m) (List.range m.length) m.length
def keyN (m:List (Int×Int)) (i:Nat):Int:=(m.map (·.1)).getD i 0
end Go.Proofs.YtocppbocphnbcaaGreatDoor
