
import Derived.Test.YtnfppdblcmollaaGreatDoorTS38
namespace Go.Proofs.YtnfppdblcmollaaGreatDoor
open Go Go.RowKit Go.Sort U
set_option linter.unusedVariables false
set_option linter.unusedSimpArgs false
set_option maxRecDepth 100000
set_option maxHeartbeats 40000000
abbrev gt0 (L:List Int) (i:Nat):Int:=L.getD i 0
def HeapFrom (a:Nat) (L:List Int) (n:Nat):Prop:=∀k,0<k->k<n->a≤(k-1) / 2->gt0 L ((k-1) / 2)≤gt0 L k
def swapL (L:List Int) (i j:Nat):List Int:=(L.set i (gt0 L j)).set j (gt0 L i)
theorem swapL_len (L:List Int) (i j:Nat):(swapL L i j).length=L.length:=by simp[swapL]
theorem swapL_at {L:List Int}{i j:Nat}(hi:i<L.length) (hj:j<L.length) (k:Nat):gt0 (swapL L i j) k=if k=j then gt0 L i else if k=i then gt0 L j else gt0 L k:=by
 unfold gt0 swapL;simp only[List.getD_eq_getElem?_getD,List.getElem?_set,List.length_set];by_cases h1:j=k
 ·subst h1;simp[hj]
 ·have h1':¬k=j:=fun e=>h1 e.symm
  by_cases h2:i=k
  ·subst h2;simp[h1,h1',hi]
  ·have h2':¬k=i:=fun e=>h2 e.symm
   simp[h1,h1',h2,h2']
theorem swapL_perm {L:List Int}{i j:Nat}(hi:i<L.length) (hj:j<L.length):(swapL L i j).Perm L:=by
 unfold swapL gt0;simp only[List.getD_eq_getElem?_getD,List.getElem?_eq_getElem hi,List.getElem?_eq_getElem hj,Option.getD_some];exact List.set_set_perm hi hj
structure DownI (i0 i:Nat) (L:List Int) (n:Nat):Prop where
 le:i0≤i
 rest:∀k,0<k->k<n->i0≤(k-1) / 2->(k-1) / 2≠i->gt0 L ((k-1) / 2)≤gt0 L k
 up:i0<i->i0≤(i-1) / 2∧∀k,0<k->k<n->(k-1) / 2=i->gt0 L ((i-1) / 2)≤gt0 L k
theorem DownI.start {i0:Nat}{L:List Int}{n:Nat}(h:HeapFrom (i0+1) L n):DownI i0 i0 L n :=
 ⟨Nat.le_refl _,fun k h1 h2 h3 h4=>h k h1 h2 (by omega),fun h=>absurd h (Nat.lt_irrefl _)⟩
theorem DownI.leaf {i0 i:Nat}{L:List Int}{n:Nat}(h:DownI i0 i L n) (hn:n≤2*i+1):HeapFrom i0 L n:=fun k h1 h2 h3=>by
 by_cases hk:(k-1) / 2=i
 ·omega
 ·exact h.rest k h1 h2 h3 hk
theorem DownI.done {i0 i j:Nat}{L:List Int}{n:Nat}(h:DownI i0 i L n) (hj:gt0 L i≤gt0 L j) (hl:∀k,0<k->k<n->(k-1) / 2=i->gt0 L j≤gt0 L k):HeapFrom i0 L n:=fun k h1 h2 h3=>by
 by_cases hk:(k-1) / 2=i
 ·rw[hk];exact Int.le_trans hj (hl k h1 h2 hk)
 ·exact h.rest k h1 h2 h3 hk
theorem DownI.step {i0 i j:Nat}{L:List Int}{n:Nat}(h:DownI i0 i L n) (hn:n≤L.length) (hj:j<n) (hp:(j-1) / 2=i) (h0:0<j) (hlt:gt0 L j<gt0 L i) (hl:∀k,0<k->k<n->(k-1) / 2=i->gt0 L j≤gt0 L k):DownI i0 j (swapL L i j) n:=by
 have hi:i<L.length:=by omega
 have hj':j<L.length:=by omega
 have hij:i<j:=by omega
 have e:=swapL_at hi hj';refine ⟨by have:=h.le;omega,fun k h1 h2 h3 h4=>?_,fun _=>⟨by have:=h.le;omega,fun k h1 h2 h3=>?_⟩⟩
 ·rw[e,e,if_neg h4];by_cases hk:k=j
  ·subst hk;rw[if_pos rfl,if_pos hp];omega
  ·rw[if_neg hk];by_cases hki:k=i
   ·subst hki;rw[if_pos rfl,if_neg (by omega)];have hlt:i0<k:=by omega
    exact (h.up hlt).2 j h0 hj hp
   ·rw[if_neg hki];by_cases hpi:(k-1) / 2=i
    ·rw[if_pos hpi];exact hl k h1 h2 hpi
    ·rw[if_neg hpi];exact h.rest k h1 h2 h3 hpi
 ·rw[e,e,if_neg (by omega),if_pos hp,if_neg (by omega),if_neg (by omega)];have:=h.rest k h1 h2 (by have:=h.le;omega) (by omega)
  rwa [h3] at this
structure UpI (j:Nat) (L:List Int) (n:Nat):Prop where
 rest:∀k,0<k->k<n->k≠j->gt0 L ((k-1) / 2)≤gt0 L k
 down:0<j->∀k,0<k->k<n->(k-1) / 2=j->gt0 L ((j-1) / 2)≤gt0 L k
theorem UpI.start {L:List Int}{n:Nat}(h:HeapFrom 0 L n) (x:Int) (hn:n=L.length):UpI n (L++[x]) (n+1):=by
 subst hn;refine ⟨fun k h1 h2 h3=>?_,fun h0 k h1 h2 h3=>by omega⟩
 have:=h k h1 (by omega) zL
 simp only[gt0,List.getD_eq_getElem?_getD] at *;rwa [List.getElem?_append_left (by omega),List.getElem?_append_left (by omega)]
theorem UpI.root {L:List Int}{n:Nat}(h:UpI 0 L n):HeapFrom 0 L n:=fun k h1 h2 _=>h.rest k h1 h2 (by omega)
theorem UpI.done {j:Nat}{L:List Int}{n:Nat}(h:UpI j L n) (hj:gt0 L ((j-1) / 2)≤gt0 L j):HeapFrom 0 L n:=fun k h1 h2 _=>by
 by_cases hk:k=j
 ·subst hk;exact hj
 ·exact h.rest k h1 h2 hk
theorem UpI.step {j:Nat}{L:List Int}{n:Nat}(h:UpI j L n) (hn:n≤L.length) (hj:j<n) (h0:0<j) (hlt:gt0 L j<gt0 L ((j-1) / 2)):UpI ((j-1) / 2) (swapL L ((j-1) / 2) j) n:=by
 have hi:(j-1) / 2<L.length:=by omega
 have hj':j<L.length:=by omega
 have e:=swapL_at hi hj';refine ⟨fun k h1 h2 h3=>?_,fun h4 k h1 h2 h3=>?_⟩
 ·rw[e,e];by_cases hk:k=j
  ·subst hk;rw[if_pos rfl,if_neg (by omega),if_pos rfl];omega
  ·rw[if_neg hk,if_neg h3];by_cases hp:(k-1) / 2=j
   ·rw[if_pos hp];exact h.down h0 k h1 h2 hp
   ·rw[if_neg hp];by_cases hq:(k-1) / 2=(j-1) / 2
    ·rw[if_pos hq];have:=h.rest k h1 h2 hk;rw[hq] at this;omega
    ·rw[if_neg hq];exact h.rest k h1 h2 hk
 ·rw[e,e,if_neg (by omega),if_neg (by omega)];have hpp:=h.rest ((j-1) / 2) h4 (by omega) (by omega)
  by_cases hk:k=j
  ·subst hk;rw[if_pos rfl];exact hpp
  ·rw[if_neg hk,if_neg (by omega)];have:=h.rest k h1 h2 hk;rw[h3] at this;omega
theorem HeapFrom.least {L:List Int}{n:Nat}(h:HeapFrom 0 L n):∀k,k<n->gt0 L 0≤gt0 L k:=fun k=>by
 induction k using Nat.strongRecOn with
 |_ k ih =>
  intro hk;rcases Nat.eq_zero_or_pos k with rfl|h0
  ·exact Int.le_refl _
  ·exact Int.le_trans (ih ((k-1) / 2) (by omega) (by omega)) (h k h0 hk zL)
def rdy (R:List (List Int)) (out:List Int) (v:Nat):Bool:=decide ((v:Int)∉out)&&(R.getD v []).all fun t=>decide (t∈out)
def stepO (R:List (List Int)) (out:List Int):Option Nat:=(List.range R.length).find? (rdy R out)
def greedy (R:List (List Int)):Nat->List Int->List Int
 |0,out=>out
 |k+1,out=>match stepO R out with
  |none=>out
  |some v=>greedy R k (out++[(v:Int)])
def orderR (R:List (List Int)):List Int×Bool:=if (greedy R R.length []).length<R.length then ([],false) else (greedy R R.length [],true)
def cntW (R:List (List Int)) (out:List Int) (v:Nat):Nat:=((R.getD v []).filter fun t=>decide (t∉out)).length
theorem cntW_zero {R:List (List Int)}{out:List Int}{v:Nat}:cntW R out v=0↔∀t∈R.getD v [],t∈out:=by
 rw[cntW,List.length_eq_zero_iff,List.filter_eq_nil_iff];constructor
 ·intro h t ht;have:=h t ht;simpa using this
 ·intro h t ht;simpa using h t ht
theorem rdy_iff {R:List (List Int)}{out:List Int}{v:Nat}:rdy R out v=true↔(v:Int)∉out∧cntW R out v=0:=by
 rw[rdy,Bool.and_eq_true,decide_eq_true_eq,List.all_eq_true,cntW_zero];simp
theorem cntW_other {R:List (List Int)}{out:List Int}{u:Int}{v:Nat}(h:u∉R.getD v []):cntW R (out++[u]) v=cntW R out v:=by
 unfold cntW;congr 1
 refine List.filter_congr fun t ht=>?_
 have:t≠u:=fun e=>h (e ▸ ht)
 simp[this]
theorem filter_dec {out:List Int}{u:Int}(hu:u∉out):∀{l:List Int},l.Nodup->u∈l->(l.filter fun t=>decide (t∉out)).length=(l.filter fun t=>decide (t∉out++[u])).length+1
 |[],_,h=>by cases h
 |x::l,hn,h=>by
  obtain ⟨h1,h2⟩:=List.nodup_cons.1 hn;by_cases hx:x=u
  ·subst hx;have e:l.filter (fun t=>decide (t∉out++[x]))=l.filter (fun t=>decide (t∉out)):=List.filter_congr fun t ht=>by
    have:t≠x:=fun e=>h1 (e ▸ ht)
    simp[this]
   rw[List.filter_cons_of_pos (by simpa using hu),List.filter_cons_of_neg (by simp),e];rfl
  ·have hm:u∈l:=by
    rcases List.mem_cons.1 h with h|h
    ·exact absurd h.symm hx
    ·exact h
   have ih:=filter_dec hu h2 hm;by_cases ho:x∈out
   ·rw[List.filter_cons_of_neg (by simpa using ho),List.filter_cons_of_neg (by simp[ho])]
    exact ih
   ·rw[List.filter_cons_of_pos (by simpa using ho),List.filter_cons_of_pos (by simp[ho,hx]),List.length_cons,List.length_cons,ih]
theorem cntW_dec {R:List (List Int)}{out:List Int}{u:Int}{v:Nat}(hn:(R.getD v []).Nodup) (h:u∈R.getD v []) (hu:u∉out):cntW R out v=cntW R (out++[u]) v+1:=filter_dec hu hn h
theorem froms_mem {R:List (List Int)}{u:Nat}{c:Int}:c∈froms R u↔∃i:Nat,i<R.length∧c=(i:Int)∧(u:Int)∈R.getD i []:=by
 simp only[froms,List.mem_map,List.mem_filter,List.mem_range,decide_eq_true_eq];constructor
 ·rintro ⟨i,⟨h1,h2⟩,rfl⟩
  exact ⟨i,h1,rfl,h2⟩
 ·rintro ⟨i,h1,rfl,h2⟩
  exact ⟨i,⟨h1,h2⟩,rfl⟩
theorem froms_nodup (R:List (List Int)) (u:Nat):(froms R u).Nodup:=by
 refine List.Pairwise.map (R:=fun (a b:Nat)=>a<b) _ (fun a b h=>by omega) ?_
 exact List.pairwise_lt_range.filter _
structure OrdI (R:List (List Int)) (out xs:List Int):Prop where
 nd:out.Nodup
 inn:∀t∈out,∃v:Nat,v<R.length∧t=(v:Int)
 cl:∀v:Nat,(v:Int)∈out->∀t∈R.getD v [],t∈out
 xd:xs.Nodup
 xm:∀x,x∈xs↔∃v:Nat,v<R.length∧x=(v:Int)∧rdy R out v=true
 hp:HeapFrom 0 xs xs.length
 gr:greedy R (R.length-out.length) out=greedy R R.length []
theorem nodup_le:∀{n:Nat}{l:List Int},l.Nodup->(∀t∈l,∃v:Nat,v<n∧t=(v:Int))->l.length≤n
 |0,[],_,_=>Nat.le_refl _
 |0,x::l,_,h=>by obtain ⟨v,h1,_⟩:=h x List.mem_cons_self;omega
 |n+1,l,hn,h=>by
  have h2:(l.erase (n:Int)).length≤n:=nodup_le (hn.erase _) fun t ht=>by
   have h3:=(hn.mem_erase_iff).1 ht;obtain ⟨v,h4,rfl⟩:=h t h3.2;exact ⟨v,by have:=h3.1;omega,rfl⟩
  by_cases hm:(n:Int)∈l
  ·rw[List.length_erase_of_mem hm] at h2;omega
  ·rw[List.erase_of_not_mem hm] at h2;omega
theorem OrdI.stop {R:List (List Int)}{out:List Int}(h:OrdI R out []):out=greedy R R.length []:=by
 rw[← h.gr];have:stepO R out=none:=List.find?_eq_none.2 fun v hv hr=>by
  have:=(h.xm (v:Int)).2 ⟨v,List.mem_range.1 hv,rfl,hr⟩;cases this
 cases R.length-out.length with
 |zero=>rfl
 |succ k=>rw[greedy,this]
theorem OrdI.first {R:List (List Int)}{out:List Int}{x:Int}{xs:List Int}(h:OrdI R out (x::xs)):∃u:Nat,x=(u:Int)∧u<R.length∧rdy R out u=true∧stepO R out=some u:=by
 obtain ⟨u,h1,rfl,h2⟩:=(h.xm x).1 List.mem_cons_self;refine ⟨u,rfl,h1,h2,?_⟩;rw[stepO,List.find?_eq_some_iff_append];refine ⟨h2,List.range u,(List.range (R.length-u-1)).map (u+1+·),?_,fun v hv=>?_⟩
 ·rw[show u::List.map (u+1+·) (List.range (R.length-u-1))=List.map (u+·) (List.range (R.length-u)) from ?_]
  ·rw[← List.range_add];congr 1;omega
  ·rw[show R.length-u=(R.length-u-1)+1 by omega,List.range_succ_eq_map];simp;intro a _;omega
 ·have hv:=List.mem_range.1 hv;by_cases hr:rdy R out v=true
  ·exfalso
   have hm:=(h.xm (v:Int)).2 ⟨v,by omega,rfl,hr⟩
   obtain ⟨i,hi,e⟩:=List.getElem_of_mem hm;have:=h.hp.least i hi;simp only[gt0,List.getD_eq_getElem?_getD,List.getElem?_eq_getElem hi,e] at this;simp at this
   omega
  ·simpa using hr
structure MidI (R:List (List Int)) (out:List Int) (u:Nat) (p xs:List Int):Prop where
 nd:out.Nodup
 inn:∀t∈out,∃v:Nat,v<R.length∧t=(v:Int)
 cl:∀v:Nat,(v:Int)∈out->∀t∈R.getD v [],t∈out
 ul:u<R.length
 ur:rdy R out u=true
 xd:xs.Nodup
 xm:∀x,x∈xs↔∃v:Nat,v<R.length∧x=(v:Int)∧((rdy R out v=true∧v≠u)∨((v:Int)∈p∧cntW R (out++[(u:Int)]) v=0))
 hp:HeapFrom 0 xs xs.length
 gr:greedy R (R.length-(out.length+1)) (out++[(u:Int)])=greedy R R.length []
theorem OrdI.mid {R:List (List Int)}{out xs ys:List Int}{u:Nat}(h:OrdI R out ((u:Int)::xs)) (hp:ys.Perm xs) (hh:HeapFrom 0 ys ys.length):MidI R out u [] ys:=by
 obtain ⟨u',e,h1,h2,h3⟩:=h.first
 have:u'=u:=by omega
 subst this;obtain ⟨d1,d2⟩:=List.nodup_cons.1 h.xd;refine ⟨h.nd,h.inn,h.cl,h1,h2,hp.nodup_iff.2 d2,fun x=>?_,hh,?_⟩
 ·rw[hp.mem_iff];constructor
  ·intro hx;obtain ⟨v,q1,rfl,q2⟩:=(h.xm x).1 (List.mem_cons_of_mem _ hx);exact ⟨v,q1,rfl,.inl ⟨q2,fun e=>d1 (e ▸ hx)⟩⟩
  ·rintro ⟨v,q1,rfl,⟨q2,q3⟩|⟨q2,_⟩⟩
   ·rcases List.mem_cons.1 ((h.xm (v:Int)).2 ⟨v,q1,rfl,q2⟩) with e|e
    ·omega
    ·exact e
   ·cases q2
 ·rw[← h.gr];have hlt:out.length<R.length:=by
   have hn:((u':Int)::out).Nodup:=List.nodup_cons.2 ⟨(rdy_iff.1 h2).1,h.nd⟩;have:=nodup_le (n:=R.length) hn fun t ht=>by
    rcases List.mem_cons.1 ht with rfl|ht
    ·exact ⟨u',h1,rfl⟩
    ·exact h.inn t ht
   rw[List.length_cons] at this;omega
  rw[show R.length-out.length=(R.length-(out.length+1))+1 by omega,greedy,h3]
theorem MidI.notin {R:List (List Int)}{out:List Int}{u:Nat}{p xs:List Int}(h:MidI R out u p xs) {v:Nat}(hv:(u:Int)∈R.getD v []):(v:Int)∉out∧v≠u:=by
 obtain ⟨h1,h2⟩:=rdy_iff.1 h.ur;rw[cntW_zero] at h2;exact ⟨fun hm=>h1 (h.cl v hm _ hv),fun e=>by subst e;exact h1 (h2 _ hv)⟩
def wtO (R:List (List Int)) (out:List Int):List Int:=(List.range R.length).map fun (v:Nat)=>(cntW R out v:Int)
def wtM (R:List (List Int)) (out:List Int) (u:Nat) (p:List Int):List Int:=(List.range R.length).map fun (v:Nat)=>if (v:Int)∈p then (cntW R (out++[(u:Int)]) v:Int) else (cntW R out v:Int)
theorem wtM_nil (R:List (List Int)) (out:List Int) (u:Nat):wtM R out u []=wtO R out:=by simp[wtM,wtO]
theorem wtM_all (R:List (List Int)) (out:List Int) (u:Nat):wtM R out u (froms R u)=wtO R (out++[(u:Int)]):=by
 refine List.map_congr_left fun v hv=>?_
 have hv:=List.mem_range.1 hv;split
 ·rfl
 ·rename_i h;rw[cntW_other fun hm=>h (froms_mem.2 ⟨v,hv,rfl,hm⟩)]
theorem wtM_snoc {R:List (List Int)}{out:List Int}{u:Nat}{p:List Int}{c:Nat}:wtM R out u (p++[(c:Int)])=(wtM R out u p).set c (cntW R (out++[(u:Int)]) c:Int):=by
 apply List.ext_getElem (by simp[wtM])
 intro i h1 h2;have hi:i<R.length:=by simpa [wtM] using h1
 rw[List.getElem_set];by_cases hc:c=i
 ·subst hc;simp[wtM]
 ·have:¬(i:Int)=(c:Int):=by omega
  simp[wtM,hc,this]
theorem MidI.skip {R:List (List Int)}{out:List Int}{u:Nat}{p xs:List Int}(h:MidI R out u p xs) {c:Nat}(hc:cntW R (out++[(u:Int)]) c≠0):MidI R out u (p++[(c:Int)]) xs :=
 ⟨h.nd,h.inn,h.cl,h.ul,h.ur,h.xd,fun x=>(h.xm x).trans (by
  constructor
  ·rintro ⟨v,q1,q2,q3⟩
   exact ⟨v,q1,q2,q3.imp id fun ⟨a,b⟩=>⟨by simp[a],b⟩⟩
  ·rintro ⟨v,q1,q2,q3⟩
   refine ⟨v,q1,q2,q3.imp id fun ⟨a,b⟩=>⟨?_,b⟩⟩
   rcases List.mem_append.1 a with a|a
   ·exact a
   ·simp at a
    have:v=c:=by omega
    subst this;exact absurd b hc),h.hp,h.gr⟩
theorem MidI.push {R:List (List Int)}{out:List Int}{u:Nat}{p xs ys:List Int}(h:MidI R out u p xs) {c:Nat}(hc:cntW R (out++[(u:Int)]) c=0) (hcl:c<R.length) (hu:(u:Int)∈R.getD c []) (hp:(c:Int)∉p) (hy:ys.Perm (xs++[(c:Int)])) (hh:HeapFrom 0 ys ys.length):MidI R out u (p++[(c:Int)]) ys:=by
 have hcx:(c:Int)∉xs:=fun hm=>by
  obtain ⟨v,q1,q2,q3⟩:=(h.xm _).1 hm;have:v=c:=by omega
  subst this;rcases q3 with ⟨a,_⟩|⟨a,_⟩
  ·have:=(rdy_iff.1 a).2;rw[cntW_zero] at this;exact (rdy_iff.1 h.ur).1 (this _ hu)
  ·exact hp a
 refine ⟨h.nd,h.inn,h.cl,h.ul,h.ur,?_,fun x=>?_,hh,h.gr⟩
 ·rw[hy.nodup_iff,List.nodup_append];exact ⟨h.xd,by simp,fun a ha b hb e=>by simp at hb;subst hb;subst e;exact hcx ha⟩
 ·rw[hy.mem_iff,List.mem_append,List.mem_singleton,h.xm x];constructor
  ·rintro (⟨v,q1,q2,q3⟩|rfl)
   ·exact ⟨v,q1,q2,q3.imp id fun ⟨a,b⟩=>⟨by simp[a],b⟩⟩
   ·exact ⟨c,hcl,rfl,.inr ⟨by simp,hc⟩⟩
  ·rintro ⟨v,q1,rfl,q3⟩
   by_cases hv:v=c
   ·subst hv;exact .inr rfl
   ·refine .inl ⟨v,q1,rfl,q3.imp id fun ⟨a,b⟩=>⟨?_,b⟩⟩
    rcases List.mem_append.1 a with a|a
    ·exact a
    ·simp at a;omega
theorem MidI.end_ {R:List (List Int)}{out:List Int}{u:Nat}{xs:List Int}(h:MidI R out u (froms R u) xs):OrdI R (out++[(u:Int)]) xs:=by
 obtain ⟨h1,h2⟩:=rdy_iff.1 h.ur;refine ⟨?_,fun t ht=>?_,fun v hv t ht=>?_,h.xd,fun x=>?_,h.hp,by rw[List.length_append];exact h.gr⟩
 ·rw[List.nodup_append];exact ⟨h.nd,by simp,fun a ha b hb e=>by simp at hb;subst hb;subst e;exact h1 ha⟩
 ·rcases List.mem_append.1 ht with ht|ht
  ·exact h.inn t ht
  ·simp at ht;exact ⟨u,h.ul,ht⟩
 ·rcases List.mem_append.1 hv with hv|hv
  ·exact List.mem_append_left _ (h.cl v hv t ht)
  ·simp at hv
   have:v=u:=by omega
   subst this;exact List.mem_append_left _ (cntW_zero.1 h2 t ht)
 ·rw[h.xm x];constructor
  ·rintro ⟨v,q1,rfl,⟨q2,q3⟩|⟨q2,q3⟩⟩
   ·obtain ⟨a,b⟩:=rdy_iff.1 q2;refine ⟨v,q1,rfl,rdy_iff.2 ⟨by simp[a];omega,?_⟩⟩
    rw[cntW_zero] at *;exact fun t ht=>List.mem_append_left _ (b t ht)
   ·obtain ⟨i,_,e,hi⟩:=froms_mem.1 q2;have:i=v:=by omega
    subst this;obtain ⟨a,b⟩:=h.notin hi;exact ⟨i,q1,rfl,rdy_iff.2 ⟨by simp[a];omega,q3⟩⟩
  ·rintro ⟨v,q1,rfl,q2⟩
   obtain ⟨a,b⟩:=rdy_iff.1 q2;simp at a
   by_cases hu:(u:Int)∈R.getD v []
   ·exact ⟨v,q1,rfl,.inr ⟨froms_mem.2 ⟨v,q1,rfl,hu⟩,b⟩⟩
   ·rw[cntW_other hu] at b;exact ⟨v,q1,rfl,.inl ⟨rdy_iff.2 ⟨a.1,b⟩,by omega⟩⟩
theorem OrdI.zero {R:List (List Int)}{xs:List Int}(hd:xs.Nodup) (hm:∀x,x∈xs↔∃v:Nat,v<R.length∧x=(v:Int)∧R.getD v []=[]) (hp:HeapFrom 0 xs xs.length):OrdI R [] xs:=by
 refine ⟨List.nodup_nil,fun t ht=>(by cases ht),fun v hv=>absurd hv (by simp),hd,fun x=>(hm x).trans ?_,hp,by simp⟩
 constructor
 ·rintro ⟨v,h1,h2,h3⟩
  exact ⟨v,h1,h2,by simp only[rdy,h3];simp⟩
 ·rintro ⟨v,h1,h2,h3⟩
  refine ⟨v,h1,h2,?_⟩;have:=(rdy_iff.1 h3).2;rw[cntW_zero] at this;cases hr:R.getD v [] with
  |nil=>rfl
  |cons a l=>have:=this a (by rw[hr];simp);cases this
theorem order_no {R:List (List Int)}{ord:List Int}(hg:ord=greedy R R.length []) (h:ord.length<R.length):orderR R=([],false):=by
 unfold orderR;rw[← hg,if_pos h]
theorem order_yes {R:List (List Int)}{ord:List Int}(hg:ord=greedy R R.length []) (h:¬ord.length<R.length):orderR R=(ord,true):=by
 unfold orderR;rw[← hg,if_neg h]
def stX (b o nx:Nat) (w:List Int) (l:List Value) (m c:Nat) (ord:List Int):AS:=⟨mkO [(1,some (.cells 3 (iL w) false)),(2,some (.cells 202 [.slice (some ⟨b,0,none⟩) m c] false)),(b,some (.cells 3 l true)),(o,rowO 3 (iL ord))],nx,0,0⟩
def stN (b o nx:Nat) (w L:List Int) (m c:Nat) (ord:List Int):AS:=stX b o nx w (iL L) m c ord
def nmsOk (b o nx:Nat):Prop:=(b=3∧o=0∧nx=4)∨(b=4∧o=5∧nx=6)∨(b=10∧o=7∧nx=11)∨(b=8∧o=7∧nx=10)
def hpV:Value:=.iface 204 (.pointer (some ⟨2,0,none⟩))
theorem iL_nth {L:List Int}{i:Nat}(h:i<L.length):nth (iL L) (0+i*1)=some (.int .i64 (gt0 L i)):=by
 rw[Nat.zero_add,Nat.mul_one,nth_eq];simp[iL,gt0,h]
theorem iL_store {L:List Int}{i:Nat}{x:Int}(h:i<L.length):(iL L).take (0+i*1)++[Value.int .i64 x]++(iL L).drop (0+i*1+[Value.int .i64 x].length)=iL (L.set i x):=by
 rw[Nat.zero_add,Nat.mul_one,List.length_singleton,iL,iL,← List.map_take,← List.map_drop,List.set_eq_take_append_cons_drop,if_pos h];simp
theorem swap_s {B O X:Nat}(hB:nmsOk B O X) (w L ord:List Int) (m c i j:Nat) (a b:Int) (ea:a=(i:Int)) (eb:b=(j:Int)) (hm:m≤L.length) (hi:i<m) (hj:j<m):SoundAt Tryz.prog 305 [.slice (some ⟨B,0,none⟩) m c,.int .i64 a,.int .i64 b] (stN B O X w L m c ord) (fun u s'=>u=.tuple ⟨[]⟩∧s'=stN B O X w (swapL L i j) m c ord):=by
 have hB':=hB;rcases hB' with ⟨rfl,rfl,rfl⟩|⟨rfl,rfl,rfl⟩|⟨rfl,rfl,rfl⟩|⟨rfl,rfl,rfl⟩
 all_goals
  subst ea;subst eb;refine SoundAt.body hmixU Tryz.func305 rfl rfl rfl 0 ?_;have bi:i.blt m=true:=bLe hi;have bj:j.blt m=true:=bLe hj;have ni:=iL_nth (L:=L) (i:=i) (by omega)
  have nj:=iL_nth (L:=L) (i:=j) (by omega)
  have li:i<L.length:=by omega
  have lj:j<L.length:=by omega
  have sti:∀(M:List Int) (v:Value),M.length=L.length->0+i*1+[v].length≤(iL M).length:=fun M v h=>by rw[iL_len,List.length_singleton];omega
  have stj:∀(M:List Int) (v:Value),M.length=L.length->0+j*1+[v].length≤(iL M).length:=fun M v h=>by rw[iL_len,List.length_singleton];omega
  have st2:∀v:Value,0+j*1+[v].length≤((iL L).take (0+i*1)++[Value.int .i64 (gt0 L j)]++(iL L).drop (0+i*1+[Value.int .i64 (gt0 L j)].length)).length:=fun v=>by rw[iL_store li];exact stj _ v (by simp)
  refine U.drawX_p (D:=U.propX) 13 [2,3] (by kernel_rfl) (by kernel_rfl) ?_;(conv=>whnf);(repeat ((first|refine goA ?_);(conv=>whnf)))
  (repeat' ((conv=>whnf);first|refine goA ?_|(conv in (nth _ _)=>(change nth _ (0+i*1);rw[ni]))|(conv in (nth _ _)=>(change nth _ (0+j*1);rw[nj]))|refine U.storeC_p (sti L _ rfl) ?_|refine U.storeC_p (st2 _) ?_|refine goB ?_|refine U.lw_c ?_ ?_<;>intro hb))
  (conv=>whnf);refine ⟨rfl,?_⟩;have h:=iL_store (L:=L.set i (gt0 L j)) (i:=j) (x:=gt0 L i) (by rw[List.length_set];exact lj)
  rw[← iL_store li,show (L.set i (gt0 L j)).set j (gt0 L i)=swapL L i j from rfl] at h;rw[stN,← h];rfl
theorem swap_k {B O X:Nat}(hB:nmsOk B O X) (w L ord:List Int) (m c i j:Nat) (a b:Int) (ea:a=(i:Int)) (eb:b=(j:Int)) (hm:m≤L.length) (hi:i<m) (hj:j<m) {K:Value->AS->Prop}(hK:K (.tuple ⟨[]⟩) (stN B O X w (swapL L i j) m c ord)):SoundAt Tryz.prog 305 [.slice (some ⟨B,0,none⟩) m c,.int .i64 a,.int .i64 b] (stN B O X w L m c ord) K :=
 (swap_s hB w L ord m c i j a b ea eb hm hi hj).mono fun u s' _ ⟨h1,h2⟩=>by subst h1;subst h2;exact hK
theorem row_frz {B O X:Nat}(hB:nmsOk B O X) {w L ord:List Int}{m c:Nat}(hm:m≤L.length) (hc:m≤c):FrzV Tryz.prog (U.seen (stN B O X w L m c ord)) (.slice (some ⟨B,0,none⟩) m c) (imS (iL (L.take m))):=by
 have hB':=hB;rcases hB' with ⟨rfl,rfl,rfl⟩|⟨rfl,rfl,rfl⟩|⟨rfl,rfl,rfl⟩|⟨rfl,rfl,rfl⟩
 all_goals
  refine .row _ m c 1 3 (iL L) (iL (L.take m)) true zL rfl iL_1 (by rw[iL_len,List.length_take];omega) hc (by rw[cellsI,iL_len,iL_len,List.length_take];omega) fun i u v hu hv=>?_
  rw[cellsI,iL,List.map_take,List.getElem?_take] at hv;split at hv
  ·rw[iL] at hu;rw[hu] at hv;cases hv;obtain ⟨x,_,rfl⟩:=List.mem_map.1 (List.mem_of_getElem? hu);exact .clean _ (cleanI _)
  ·cases hv
theorem take_at {L:List Int}{m i:Nat}(hm:m≤L.length) (hi:i<m):(L.take m)[i]?=some (gt0 L i):=by
 rw[List.getElem?_take_of_lt hi];simp[gt0,show i<L.length by omega]
theorem less_c {B O X:Nat}(hB:nmsOk B O X) (w L ord:List Int) (m c i j:Nat) (a b:Int) (ea:a=(i:Int)) (eb:b=(j:Int)) (hm:m≤L.length) (hc:m≤c) (hi:i<m) (hj:j<m) {K:Value->AS->Prop}(hK:K (.bool (decide (gt0 L i<gt0 L j))) (stN B O X w L m c ord)):SoundC Tryz.prog 304 [.slice (some ⟨B,0,none⟩) m c,.int .i64 a,.int .i64 b] (stN B O X w L m c ord) K:=by
 subst ea;subst eb;exact SoundC.uF (less_d (L.take m) i j _ _ (take_at hm hi) (take_at hm hj)) rfl (.cons (row_frz hB hm hc) (.cons (.clean _ (cleanI _)) (.cons (.clean _ (cleanI _)) .nil))) hK
theorem less_s {B O X:Nat}(hB:nmsOk B O X) (w L ord:List Int) (m c i j:Nat) (a b:Int) (ea:a=(i:Int)) (eb:b=(j:Int)) (hm:m≤L.length) (hc:m≤c) (hi:i<m) (hj:j<m) {K:Value->AS->Prop}(hK:K (.bool (decide (gt0 L i<gt0 L j))) (stN B O X w L m c ord)):SoundAt Tryz.prog 304 [.slice (some ⟨B,0,none⟩) m c,.int .i64 a,.int .i64 b] (stN B O X w L m c ord) K:=.c (less_c hB w L ord m c i j a b ea eb hm hc hi hj hK)
theorem len_s {B O X:Nat}(hB:nmsOk B O X) (w L ord:List Int) (m c:Nat) (hm:m≤L.length) (hc:m≤c) {K:Value->AS->Prop}(hK:K (.int .i64 m) (stN B O X w L m c ord)):SoundAt Tryz.prog 117 [.slice (some ⟨B,0,none⟩) m c] (stN B O X w L m c ord) K:=by
 have:=len_d (L.take m);rw[List.length_take,show min m L.length=m by omega] at this;exact .c (SoundC.uF this rfl (.cons (row_frz hB hm hc) .nil) hK)
theorem upW {j:Nat}(h:j≤65000) (h0:0<j):IntKind.i64.wrap ((IntKind.i64.wrap ((j:Int)-1)).tdiv 2)=(((j-1) / 2:Nat):Int):=by
 rw[IntKind.wrap_i64,IntKind.wrap_i64];have e:(((j:Int)-1+9223372036854775808) % 18446744073709551616-9223372036854775808)=((j-1:Nat):Int):=by omega
 rw[e,Int.tdiv_eq_ediv_of_nonneg (by omega)];omega
theorem swapL_tail {L:List Int}{i j m:Nat}(hi:i<m) (hj:j<m) (hm:m≤L.length) {k:Nat}(hk:m≤k):gt0 (swapL L i j) k=gt0 L k:=by
 rw[swapL_at (by omega) (by omega),if_neg (by omega),if_neg (by omega)]
theorem up_s {B O X:Nat}(hB:nmsOk B O X) (w L ord:List Int) (m c j:Nat) (b:Int) (eb:b=(j:Int)) (hm:m≤L.length) (hc:m≤c) (hj:j<m) (hm2:m≤65000) (hu:UpI j L m):SoundAt Tryz.prog 189 [hpV,.int .i64 b] (stN B O X w L m c ord) (fun u s'=>u=.tuple ⟨[]⟩∧∃L',L'.Perm L∧HeapFrom 0 L' m∧(∀k,m≤k->gt0 L' k=gt0 L k)∧s'=stN B O X w L' m c ord):=by
 have hB':=hB;rcases hB' with ⟨rfl,rfl,rfl⟩|⟨rfl,rfl,rfl⟩|⟨rfl,rfl,rfl⟩|⟨rfl,rfl,rfl⟩
 all_goals
  subst eb;refine SoundAt.body hmixU Tryz.func189 rfl rfl rfl 0 ?_;(repeat' ((conv=>whnf);first|refine goD ?_|refine U.lw_c ?_ ?_<;>intro hb))
  (conv=>whnf);refine loop_inv (α:=Nat×List Int) (fun x=>x.1<m∧UpI x.1 x.2 m∧x.2.Perm L∧∀k,m≤k->gt0 x.2 k=gt0 L k) (fun x=>(mkF [(0,hpV),(1,.int .i64 x.1)],stN _ _ _ w x.2 m c ord)) (fun x=>x.1) (j,L) ⟨hj,hu,.refl _,fun _ _=>rfl⟩ (Cov.slots (s:=stN _ _ _ w L m c ord) rL ⟨rfl,rfl,trivial⟩) ?_
  rintro ⟨j,M⟩ ⟨h1,h2,h3,h4⟩
  dsimp only at h1 h2 h3 h4;dsimp only;have hml:M.length=L.length:=h3.length_eq;rcases Nat.eq_zero_or_pos j with rfl|h0
  ·have g:(IntKind.i64.wrap ((IntKind.i64.wrap (((0:Nat):Int)-1)).tdiv 2)==((0:Nat):Int))=true:=by decide
   (repeat' ((conv=>whnf);first|refine goD ?_|refine U.lw_c ?_ ?_<;>intro hb))
   (conv=>whnf);exact ⟨rfl,M,h3,h2.root,h4,rfl⟩
  ·have e:=upW (by omega) h0
   have g:(IntKind.i64.wrap ((IntKind.i64.wrap ((j:Int)-1)).tdiv 2)==(j:Int))=false:=by
    rw[e];simp;omega
   (repeat' ((conv=>whnf);first|refine goA ?_|refine less_s hB _ _ _ _ _ j ((j-1) / 2) _ _ rfl e (by omega) hc h1 (by omega) ?_|refine swap_k hB _ _ _ _ _ ((j-1) / 2) j _ _ e rfl (by omega) (by omega) h1 ?_|refine goB ?_|refine U.lw_c ?_ ?_<;>intro hb))
   all_goals (conv=>whnf)
   ·simp at hb
    exact ⟨rfl,M,h3,h2.done hb,h4,rfl⟩
   ·simp at hb
    refine ⟨((j-1) / 2,swapL M ((j-1) / 2) j),⟨by omega,h2.step (by omega) h1 h0 hb,(swapL_perm (by omega) (by omega)).trans h3,fun k hk=>?_⟩,by omega,?_⟩
    ·rw[swapL_tail (m:=m) (by omega) h1 (by omega) hk,h4 k hk]
    ·refine Cov.slots (s:=stN _ _ _ w (swapL M ((j-1) / 2) j) m c ord) rL ⟨rfl,?_,trivial⟩;exact congrArg some (congrArg (Value.int .i64) e)
theorem downW {i:Nat}(h:i≤65000):IntKind.i64.wrap (IntKind.i64.wrap (2*(i:Int))+1)=((2*i+1:Nat):Int)∧IntKind.i64.wrap (IntKind.i64.wrap (IntKind.i64.wrap (2*(i:Int))+1)+1)=((2*i+2:Nat):Int):=by
 simp only[IntKind.wrap_i64];omega
theorem down_s {B O X:Nat}(hB:nmsOk B O X) (w L ord:List Int) (m c n i0:Nat) (a b:Int) (ea:a=(i0:Int)) (eb:b=(n:Int)) (hm:m≤L.length) (hc:m≤c) (hn:n≤m) (hi:i0≤n) (hm2:m≤30000) (hh:HeapFrom (i0+1) L n):SoundAt Tryz.prog 188 [hpV,.int .i64 a,.int .i64 b] (stN B O X w L m c ord) (fun u s'=>∃L',L'.Perm L∧HeapFrom i0 L' n∧(∀k,n≤k->gt0 L' k=gt0 L k)∧s'=stN B O X w L' m c ord):=by
 have hB':=hB;rcases hB' with ⟨rfl,rfl,rfl⟩|⟨rfl,rfl,rfl⟩|⟨rfl,rfl,rfl⟩|⟨rfl,rfl,rfl⟩
 all_goals
  subst ea;subst eb;refine SoundAt.body hmixU Tryz.func188 rfl rfl rfl 0 ?_;(repeat' ((conv=>whnf);first|refine goD ?_|refine U.lw_c ?_ ?_<;>intro hb))
  (conv=>whnf);refine loop_inv (α:=Nat×List Int) (fun x=>x.1≤n∧DownI i0 x.1 x.2 n∧x.2.Perm L∧∀k,n≤k->gt0 x.2 k=gt0 L k) (fun x=>(mkF [(0,hpV),(1,.int .i64 i0),(2,.int .i64 n),(6,.bool false),(7,.int .i64 x.1)],stN _ _ _ w x.2 m c ord)) (fun x=>n-x.1) (i0,L) ⟨hi,.start hh,.refl _,fun _ _=>rfl⟩ (Cov.slots (s:=stN _ _ _ w L m c ord) rL ⟨rfl,rfl,rfl,rfl,rfl,trivial⟩) ?_
  rintro ⟨i,M⟩ ⟨h1,h2,h3,h4⟩
  dsimp only at h1 h2 h3 h4;dsimp only;have hml:M.length=L.length:=h3.length_eq;obtain ⟨e1,e2⟩:=downW (i:=i) (by omega)
  by_cases hj:n≤2*i+1
  ·have g:decide (IntKind.i64.wrap (IntKind.i64.wrap (2*(i:Int))+1)≥(n:Int))=true:=by
    rw[e1];simp;omega
   (repeat' ((conv=>whnf);first|refine goD ?_|refine U.lw_c ?_ ?_<;>intro hb))
   all_goals (conv=>whnf)
   exact ⟨M,h3,h2.leaf hj,h4,rfl⟩
  ·have g:decide (IntKind.i64.wrap (IntKind.i64.wrap (2*(i:Int))+1)≥(n:Int))=false:=by
    rw[e1];simp;omega
   have g0:decide (IntKind.i64.wrap (IntKind.i64.wrap (2*(i:Int))+1)<0)=false:=by
    rw[e1];simp;omega
   have key:∀j,j=2*i+1∨j=2*i+2->j<n->gt0 M j<gt0 M i->(∀k,0<k->k<n->(k-1) / 2=i->gt0 M j≤gt0 M k)->j≤n∧DownI i0 j (swapL M i j) n∧(swapL M i j).Perm L∧∀k,n≤k->gt0 (swapL M i j) k=gt0 L k:=fun j hj2 hjn hlt hl=>by
    refine ⟨by omega,h2.step (by omega) hjn (by omega) (by omega) hlt hl,(swapL_perm (by omega) (by omega)).trans h3,fun k hk=>?_⟩
    rw[swapL_tail (m:=n) (by omega) hjn (by omega) hk,h4 k hk]
   by_cases hr:n≤2*i+2
   ·have g1:decide (IntKind.i64.wrap (IntKind.i64.wrap (IntKind.i64.wrap (2*(i:Int))+1)+1)<(n:Int))=false:=by
     rw[e2];simp;omega
    have hl:∀k,0<k->k<n->(k-1) / 2=i->gt0 M (2*i+1)≤gt0 M k:=fun k q1 q2 q3=>by
     have:k=2*i+1:=by omega
     subst this;exact Int.le_refl _
    (repeat' ((conv=>whnf);first|refine goA ?_|refine less_s hB _ _ _ _ _ (2*i+1) i _ _ e1 rfl (by omega) hc (by omega) (by omega) ?_|refine swap_k hB _ _ _ _ _ i (2*i+1) _ _ rfl e1 (by omega) (by omega) (by omega) ?_|refine goB ?_|refine U.lw_c ?_ ?_<;>intro hb))
    all_goals (conv=>whnf)
    ·simp at hb
     exact ⟨M,h3,h2.done hb hl,h4,rfl⟩
    ·simp at hb
     refine ⟨(2*i+1,swapL M i (2*i+1)),key _ (.inl rfl) (by omega) hb hl,by omega,?_⟩
     refine Cov.slots (s:=stN _ _ _ w (swapL M i (2*i+1)) m c ord) rL ⟨rfl,rfl,rfl,rfl,?_,trivial⟩;exact congrArg some (congrArg (Value.int .i64) e1)
   ·have g1:decide (IntKind.i64.wrap (IntKind.i64.wrap (IntKind.i64.wrap (2*(i:Int))+1)+1)<(n:Int))=true:=by
     rw[e2];simp;omega
    by_cases hx:gt0 M (2*i+2)<gt0 M (2*i+1)
    ·have gx:decide (gt0 M (2*i+2)<gt0 M (2*i+1))=true:=decide_eq_true hx;have hl:∀k,0<k->k<n->(k-1) / 2=i->gt0 M (2*i+2)≤gt0 M k:=fun k q1 q2 q3=>by
      rcases (by omega:k=2*i+1∨k=2*i+2) with rfl|rfl
      ·omega
      ·exact Int.le_refl _
     (repeat' ((conv=>whnf);first|refine goA ?_|refine less_s hB _ _ _ _ _ (2*i+2) (2*i+1) _ _ e2 e1 (by omega) hc (by omega) (by omega) ?_|refine less_s hB _ _ _ _ _ (2*i+2) i _ _ e2 rfl (by omega) hc (by omega) (by omega) ?_|refine swap_k hB _ _ _ _ _ i (2*i+2) _ _ rfl e2 (by omega) (by omega) (by omega) ?_|refine goB ?_|refine U.lw_c ?_ ?_<;>intro hb))
     all_goals (conv=>whnf)
     ·simp at hb
      exact ⟨M,h3,h2.done hb hl,h4,rfl⟩
     ·simp at hb
      refine ⟨(2*i+2,swapL M i (2*i+2)),key _ (.inr rfl) (by omega) hb hl,by omega,?_⟩
      refine Cov.slots (s:=stN _ _ _ w (swapL M i (2*i+2)) m c ord) rL ⟨rfl,rfl,rfl,rfl,?_,trivial⟩;exact congrArg some (congrArg (Value.int .i64) e2)
    ·have gx:decide (gt0 M (2*i+2)<gt0 M (2*i+1))=false:=decide_eq_false hx;have hl:∀k,0<k->k<n->(k-1) / 2=i->gt0 M (2*i+1)≤gt0 M k:=fun k q1 q2 q3=>by
      rcases (by omega:k=2*i+1∨k=2*i+2) with rfl|rfl
      ·exact Int.le_refl _
      ·omega
     (repeat' ((conv=>whnf);first|refine goA ?_|refine less_s hB _ _ _ _ _ (2*i+2) (2*i+1) _ _ e2 e1 (by omega) hc (by omega) (by omega) ?_|refine less_s hB _ _ _ _ _ (2*i+1) i _ _ e1 rfl (by omega) hc (by omega) (by omega) ?_|refine swap_k hB _ _ _ _ _ i (2*i+1) _ _ rfl e1 (by omega) (by omega) (by omega) ?_|refine goB ?_|refine U.lw_c ?_ ?_<;>intro hb))
     all_goals (conv=>whnf)
     ·simp at hb
      exact ⟨M,h3,h2.done hb hl,h4,rfl⟩
     ·simp at hb
      refine ⟨(2*i+1,swapL M i (2*i+1)),key _ (.inl rfl) (by omega) hb hl,by omega,?_⟩
      refine Cov.slots (s:=stN _ _ _ w (swapL M i (2*i+1)) m c ord) rL ⟨rfl,rfl,rfl,rfl,?_,trivial⟩;exact congrArg some (congrArg (Value.int .i64) e1)
end Go.Proofs.YtnfppdblcmollaaGreatDoor
