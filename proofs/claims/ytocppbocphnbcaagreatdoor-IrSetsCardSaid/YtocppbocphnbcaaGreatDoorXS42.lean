
import Derived.Test.YtocppbocphnbcaaGreatDoorXS26
import Derived.Test.YtocppbocphnbcaaGreatDoorXS27
import Derived.Test.YtocppbocphnbcaaGreatDoorXS35
import Derived.Test.YtocppbocphnbcaaGreatDoorXS40
import Derived.Test.YtocppbocphnbcaaGreatDoorXS41
namespace Go.Proofs.YtocppbocphnbcaaGreatDoor
open Go Go.RowKit Go.Sort U
set_option linter.unusedVariables false
set_option linter.unusedSimpArgs false
set_option maxRecDepth 100000
set_option maxHeartbeats 40000000
def obL (l:List Bool):List Value:=l.map Value.bool
theorem obL_len (l:List Bool):(obL l).length=l.length:=List.length_map ..
theorem obL_clean (l:List Bool):∀x,x∈obL l->NoNm x:=fun x hx=>by
 obtain ⟨b,_,rfl⟩:=List.mem_map.1 hx;exact .flat _ rfl
theorem obL_flat (l:List Bool):∀x∈obL l,flat1 x=true:=fun x hx=>by
 obtain ⟨b,_,rfl⟩:=List.mem_map.1 hx;rfl
theorem obL_nth {l:List Bool}{u:Nat}{b:Bool}(h:l[u]?=some b):nth (obL l) (0+u*1)=some (.bool b):=by
 rw[nth_eq,obL,List.getElem?_map,show 0+u*1=u by omega,h];rfl
theorem obL_store {l:List Bool}{i:Nat}{x:Bool}(h:i<l.length):(obL l).take (0+i*1)++[Value.bool x]++(obL l).drop (0+i*1+[Value.bool x].length)=obL (l.set i x):=by
 rw[show 0+i*1=i by omega,obL,obL,List.map_set,List.set_eq_take_append_cons_drop,if_pos (by simpa using h)];simp
theorem cleanPI (p:Pg):NoNm (imP (encP p) 0):=.imp _ _ (cleanP_cells p)
theorem cleanSI (s:St):NoNm (imP (encS s) 0):=.imp _ _ (cleanS_cells s)
def addAll:List Int->List Int->List Int
 |[],S=>S
 |n::l,S=>addAll l (addI n S)
theorem addAll_snoc:∀(l:List Int) (n:Int) (S:List Int),addAll (l++[n]) S=addI n (addAll l S)
 |[],n,S=>rfl
 |x::l,n,S=>by rw[List.cons_append,addAll,addAll_snoc l,addAll]
theorem addAll_ok {S:List Int}(h:Ris S):∀l:List Int,Adds S (addAll l S) l∧Ris (addAll l S)∧(addAll l S).length≤S.length+l.length:=fun l=>by
 induction l generalizing S with
 |nil=>exact ⟨.nil S,h,Nat.le_add_right _ _⟩
 |cons x l ih =>
  obtain ⟨h1,h2,h3⟩:=ih (addI_ris (n:=x) h);have:=addI_len (n:=x) (l:=S);rw[addAll];refine ⟨?_,h2,by simp;omega⟩
  exact (Adds.one S x).app h1
def unS:List Pr13->List Bool->Nat
 |x::l,b::m=>(if b=true then 0 else szSs x.body)+unS l m
 |_,_=>0
theorem unS_set:∀{l:List Pr13}{sn:List Bool}{j:Nat}{x:Pr13},l[j]?=some x->sn[j]?=some false->unS l sn=szSs x.body+unS l (sn.set j true)
 |[],_,j,x,h,_=>by simp at h
 |y::l,[],j,x,_,h=>by simp at h
 |y::l,b::m,0,x,h1,h2=>by
  simp at h1 h2
  subst h1;subst h2;simp[unS]
 |y::l,b::m,j+1,x,h1,h2=>by
  have:=unS_set (l:=l) (sn:=m) (j:=j) (x:=x) (by simpa using h1) (by simpa using h2)
  simp only[List.set_cons_succ,unS];omega
theorem unS_mono:∀{l:List Pr13}{sn sn':List Bool},sn'.length=sn.length->(∀j:Nat,sn[j]?=some true->sn'[j]?=some true)->unS l sn'≤unS l sn
 |[],_,_,_,_=>by simp[unS]
 |x::l,[],[],_,_=>by simp[unS]
 |x::l,b::m,b'::m',h,hm=>by
  have:=unS_mono (l:=l) (sn:=m) (sn':=m') (by simpa using h) fun j hj=>by
   have:=hm (j+1) (by simpa using hj)
   simpa using this
  have h0:b=true->b'=true:=fun hb=>by
   have:=hm 0 (by simp[hb])
   simpa using this
  simp only[unS];cases b<;>cases b'<;>simp at h0 ⊢<;>omega
 |x::l,[],b::m,h,_=>by simp at h
 |x::l,b::m,[],h,_=>by simp at h
theorem unS_le:∀(l:List Pr13) (sn:List Bool),unS l sn≤szPrs l
 |[],sn=>by simp[unS]
 |x::l,[]=>by simp[unS]
 |x::l,b::m=>by
  have:=unS_le l m;simp only[unS,szPrs];split<;>omega
structure Did (p:Pg) (nt:Nt) (X:List St) (x:SA) (sn:List Bool) (k m:Nat) (x':SA) (sn':List Bool):Prop where
 post:Post p nt X x.1 x.2 sn x'.1 x'.2 sn'
 ok:SOk x' (25*(unS p.procs sn'+m)+k)
theorem Did.un {p:Pg}{nt:Nt}{X:List St}{x x':SA}{sn sn':List Bool}{k m:Nat}(h:Did p nt X x sn k m x' sn'):unS p.procs sn'≤unS p.procs sn:=unS_mono h.post.len h.post.mono
def wS:St->Nat
 |.mk _ _ xs _ _ _=>szEs xs+1
mutual
theorem wS_all:∀s:St,((allS s).map wS).sum=szS s
 |.mk k a xs th el no=>by
  rw[allS,List.map_cons,List.sum_cons,List.map_append,List.sum_append_nat,wSs_all th,wSs_all el,szS,wS];omega
theorem wSs_all:∀l:List St,((allSs l).map wS).sum=szSs l
 |[]=>by rw[allSs,szSs];rfl
 |s::l=>by rw[allSs,List.map_append,List.sum_append_nat,wS_all s,wSs_all l,szSs]
end
def keysG (m:List (Int×Int)):List Int:=m.map (·.1)
def snOf (n:Nat) (gm:List (Int×Int)):List Bool:=(List.range n).map fun (j:Nat)=>decide ((j:Int)∈keysG gm)
theorem snOf_set {n j:Nat}{gm gm':List (Int×Int)}(hj:j<n) (h:∀w:Int,w∈keysG gm'↔w=j∨w∈keysG gm):snOf n gm'=(snOf n gm).set j true:=by
 apply List.ext_getElem?;intro i;rw[List.getElem?_set];simp only[snOf,List.getElem?_map,List.length_map,List.length_range];rcases Nat.lt_or_ge i n with hi|hi
 ·rw[List.getElem?_range hi];by_cases e:j=i
  ·subst e;simp[hi,(h j).2 (.inl rfl)]
  ·rw[if_neg e];simp only[Option.map_some];congr 1
   rw[decide_eq_decide,h];constructor
   ·rintro (h1|h1)
    ·omega
    ·exact h1
   ·exact .inr
 ·rw[List.getElem?_eq_none (l:=List.range n) (by simp;omega),if_neg (by omega)];rfl
theorem snOf_get {n j:Nat}{gm:List (Int×Int)}(hj:j<n) (h:(j:Int)∉keysG gm):(snOf n gm)[j]?=some false:=by
 simp[snOf,hj,h]
theorem keys_len {gm:List (Int×Int)}{n:Nat}(hn:(keysG gm).Nodup) (h:∀z∈keysG gm,0≤z∧z.toNat<n):gm.length≤n:=by
 have h1:((keysG gm).map Int.toNat).Nodup:=by
  rw[List.nodup_iff_pairwise_ne,List.pairwise_map];refine List.Pairwise.imp_of_mem (fun {a b} ha hb hab e=>hab ?_) hn
  have:=(h a ha).1;have:=(h b hb).1;omega
 have:=nodup_len h1 fun i hi=>by
  obtain ⟨z,hz,rfl⟩:=List.mem_map.1 hi;exact (h z hz).2
 simpa [keysG] using this
structure GI (p:Pg) (nt:Nt) (l:List St) (Xs:List St) (γ:Ga) (cur:List (List St)) (left:Nat):Prop where
 xm:γ.m≤γ.X.length
 mg:γ.m≤γ.gm.length+1
 sn:(keysG γ.sm).Nodup
 an:(keysG γ.am).Nodup
 gn:(keysG γ.gm).Nodup
 sl:∀z,z∈keysG γ.sm↔∃x∈Xs,standsB p x=true∧z∈nt.sl x
 al:∀z,z∈keysG γ.am↔∃x∈Xs,standsB p x=true∧z∈nt.ar x
 call:∀x∈Xs,standsB p x=true->kS x=5->aS x∈keysG γ.gm
 rch:∀z∈keysG γ.gm,(0≤z∧z.toNat<p.procs.length)∧Rch p (allSs l) z.toNat
 todo:∀b,(b=l∨∃z∈keysG γ.gm,b=bodyL p z)->b∈γ.X.take γ.m∨b∈cur∨∀x∈allSs b,x∈Xs
 sub:∀x,x∈Xs∨(∃b∈cur,x∈allSs b)->x∈allSs l∨∃z∈keysG γ.gm,x∈allSs (bodyL p z)
 pend:∀b∈γ.X.take γ.m,szSs b≤900∧(b=l∨∃z∈keysG γ.gm,b=bodyL p z)
 val:∀e∈γ.gm,1≤e.2∧e.2≤Xs.length+1
 wt:(Xs.map wS).sum+(((γ.X.take γ.m).map szSs).sum+left+unS p.procs (snOf p.procs.length γ.gm))≤1800
 sz:γ.sm.length≤20*(Xs.map wS).sum∧γ.am.length≤20*(Xs.map wS).sum
theorem wS_pos:∀s:St,1≤wS s
 |.mk _ _ xs _ _ _=>by rw[wS];omega
theorem wS_len:∀Xs:List St,Xs.length≤(Xs.map wS).sum
 |[]=>by simp
 |x::l=>by
  have:=wS_len l;have:=wS_pos x;simp only[List.length_cons,List.map_cons,List.sum_cons];omega
theorem GI.init (p:Pg) (nt:Nt) (l:List St) (hl:szSs l≤900) (hp:szPrs p.procs≤900):GI p nt l [] ⟨[],[],[],[l],1,false⟩ [] 0:=by
 have:=unS_le p.procs (snOf p.procs.length []);refine ⟨Nat.le_refl _,Nat.le_refl _,.nil,.nil,.nil,fun z=>(by simp[keysG]),fun z=>(by simp[keysG]),fun x h=>(by cases h),fun z h=>(by cases h),fun b h=>?_,fun x h=>?_,fun b h=>?_,fun e h=>(by cases h),(by simp;omega),(by simp)⟩
 ·rcases h with rfl|⟨z,h,_⟩
  ·exact .inl (by simp)
  ·cases h
 ·rcases h with h|⟨b,h,_⟩<;>cases h
 ·have:b=l:=by simpa using h
  subst this;exact ⟨hl,.inl rfl⟩
theorem GI.vals {p:Pg}{nt:Nt}{l Xs:List St}{γ:Ga}{cur:List (List St)}{left:Nat}(h:GI p nt l Xs γ cur left):(∀e∈γ.gm,1≤e.2∧e.2≤100000)∧γ.gm.length≤p.procs.length:=by
 have h1:=wS_len Xs;have h2:=h.wt;exact ⟨fun e he=>⟨(h.val e he).1,by have:=(h.val e he).2;omega⟩,keys_len h.gn fun z hz=>(h.rch z hz).1⟩
theorem GI.pop {p:Pg}{nt:Nt}{l Xs:List St}{γ:Ga}{m:Nat}{b:List St}(h:GI p nt l Xs γ [] 0) (hm:γ.m=m+1) (hb:γ.X[m]?=some b):GI p nt l Xs { γ with m:=m } [b] (szSs b)∧szSs b≤900:=by
 have ht:γ.X.take γ.m=γ.X.take m++[b]:=by rw[hm,List.take_add_one,hb];rfl
 have hpb:=h.pend b (by rw[ht];simp)
 have hxm:=h.xm;have hmg:=h.mg;refine ⟨⟨by dsimp only;omega,by dsimp only;omega,h.sn,h.an,h.gn,h.sl,h.al,h.call,h.rch,fun c hc=>?_,fun x hx=>?_,fun c hc=>h.pend c (by rw[ht];exact List.mem_append_left _ hc),h.val,?_,h.sz⟩,hpb.1⟩
 ·rcases h.todo c hc with h1|h1|h1
  ·rw[ht] at h1;rcases List.mem_append.1 h1 with h1|h1
   ·exact .inl h1
   ·exact .inr (.inl h1)
  ·cases h1
  ·exact .inr (.inr h1)
 ·rcases hx with hx|⟨c,hc,hx⟩
  ·exact h.sub x (.inl hx)
  ·rw[List.mem_singleton] at hc;subst hc;rcases hpb.2 with rfl|⟨z,hz,rfl⟩
   ·exact .inl hx
   ·exact .inr ⟨z,hz,hx⟩
 ·have:=h.wt;rw[ht] at this;simp only[List.map_append,List.sum_append_nat,List.map_cons,List.map_nil,List.sum_cons,List.sum_nil] at this;dsimp only;omega
theorem GI.fin {p:Pg}{nt:Nt}{l Xs:List St}{γ:Ga}{b:List St}(h:GI p nt l Xs γ [b] 0) (hb:∀x∈allSs b,x∈Xs):GI p nt l Xs γ [] 0:=by
 refine ⟨h.xm,h.mg,h.sn,h.an,h.gn,h.sl,h.al,h.call,h.rch,fun c hc=>?_,fun x hx=>h.sub x ?_,h.pend,h.val,h.wt,h.sz⟩
 ·rcases h.todo c hc with h1|h1|h1
  ·exact .inl h1
  ·rw[List.mem_singleton] at h1;subst h1;exact .inr (.inr hb)
  ·exact .inr (.inr h1)
 ·rcases hx with hx|⟨c,hc,_⟩
  ·exact .inl hx
  ·cases hc
theorem pushG_take {b:List St}{γ:Ga}(h:γ.m≤γ.X.length):(pushG b γ).X.take (pushG b γ).m=γ.X.take γ.m++[b]∧(pushG b γ).m=γ.m+1∧(pushG b γ).m≤(pushG b γ).X.length∧(pushG b γ).sm=γ.sm∧(pushG b γ).am=γ.am∧(pushG b γ).gm=γ.gm:=by
 unfold pushG;split
 ·rename_i hlt;refine ⟨?_,rfl,by simp;omega,rfl,rfl,rfl⟩
  dsimp only;rw[List.take_add_one,List.getElem?_set,if_pos rfl,if_pos hlt,List.take_set_of_le rL];rfl
 ·refine ⟨?_,rfl,by simp;omega,rfl,rfl,rfl⟩
  dsimp only;have:γ.m=γ.X.length:=by omega
  rw[this,List.take_length,List.take_of_length_le (by simp)]
structure NtOk (p:Pg) (nt:Nt):Prop where
 sl:∀x,standsB p x=true->(nt.sl x).length≤20*wS x
 ar:∀x,standsB p x=true->(nt.ar x).length≤20*wS x
theorem ex_snoc {p:Pg}{Xs:List St}{s:St}{f:St->List Int}{z:Int}:(∃x∈Xs++[s],standsB p x=true∧z∈f x)↔(∃x∈Xs,standsB p x=true∧z∈f x)∨(standsB p s=true∧z∈f s):=by
 constructor
 ·rintro ⟨x,hx,h⟩
  rcases List.mem_append.1 hx with hx|hx
  ·exact .inl ⟨x,hx,h⟩
  ·rw[List.mem_singleton] at hx;subst hx;exact .inr h
 ·rintro (⟨x,hx,h⟩|h)
  ·exact ⟨x,List.mem_append_left _ hx,h⟩
  ·exact ⟨s,by simp,h⟩
theorem sum_snoc (Xs:List St) (s:St):((Xs++[s]).map wS).sum=(Xs.map wS).sum+wS s:=by
 rw[List.map_append,List.sum_append_nat];simp
section
variable {p : Pg} {nt : Nt} {l Xs : List St} {γ γ' : Ga} {cur : List (List St)} {left : Nat} {s : St}
theorem GI.stepA (h:GI p nt l Xs γ cur (wS s+left)) (hs:∃b∈cur,s∈allSs b) (hX:γ'.X=γ.X) (hm:γ'.m=γ.m)
  (s1:(keysG γ'.sm).Nodup) (s2:∀z,z∈keysG γ'.sm↔z∈keysG γ.sm∨(standsB p s=true∧z∈nt.sl s)) (s3:γ'.sm.length≤γ.sm.length+20*wS s)
  (a1:(keysG γ'.am).Nodup) (a2:∀z,z∈keysG γ'.am↔z∈keysG γ.am∨(standsB p s=true∧z∈nt.ar s)) (a3:γ'.am.length≤γ.am.length+20*wS s)
  (g1:(keysG γ'.gm).Nodup) (g2:∀z,z∈keysG γ'.gm↔z∈keysG γ.gm) (g3:γ.gm.length≤γ'.gm.length) (g4:∀e∈γ'.gm,1≤e.2∧e.2≤Xs.length+2) (g5:standsB p s=true->kS s=5->aS s∈keysG γ.gm):GI p nt l (Xs++[s]) γ' cur left:=by
 have hsn:snOf p.procs.length γ'.gm=snOf p.procs.length γ.gm:=by
  unfold snOf;exact List.map_congr_left fun j _=>by rw[decide_eq_decide];exact g2 j
 refine ⟨by rw[hX,hm];exact h.xm,by rw[hm];exact Nat.le_trans h.mg (by omega),s1,a1,g1,fun z=>by rw[s2,ex_snoc,h.sl],fun z=>by rw[a2,ex_snoc,h.al],fun x hx h1 h2=>?_,fun z hz=>h.rch z ((g2 z).1 hz),fun b hb=>?_,fun x hx=>?_,fun b hb=>?_,fun e he=>?_,?_,?_⟩
 ·rw[g2];rcases List.mem_append.1 hx with hx|hx
  ·exact h.call x hx h1 h2
  ·rw[List.mem_singleton] at hx;subst hx;exact g5 h1 h2
 ·rw[hX,hm];rcases h.todo b (hb.imp id fun ⟨z,hz,e⟩=>⟨z,(g2 z).1 hz,e⟩) with h1|h1|h1
  ·exact .inl h1
  ·exact .inr (.inl h1)
  ·exact .inr (.inr fun x hx=>List.mem_append_left _ (h1 x hx))
 ·have:x∈Xs∨∃b∈cur,x∈allSs b:=by
   rcases hx with hx|hx
   ·rcases List.mem_append.1 hx with hx|hx
    ·exact .inl hx
    ·rw[List.mem_singleton] at hx;subst hx;exact .inr hs
   ·exact .inr hx
  exact (h.sub x this).imp id fun ⟨z,hz,e⟩=>⟨z,(g2 z).2 hz,e⟩
 ·rw[hX,hm] at hb;have:=h.pend b hb;exact ⟨this.1,this.2.imp id fun ⟨z,hz,e⟩=>⟨z,(g2 z).2 hz,e⟩⟩
 ·have:=g4 e he;simp only[List.length_append,List.length_singleton];omega
 ·have:=h.wt;rw[sum_snoc,hX,hm,hsn];omega
 ·have:=h.sz;rw[sum_snoc];omega
theorem GI.stepB {γ1:Ga}{y:Pr13}(h:GI p nt l Xs γ cur (wS s+left)) (hs:∃b∈cur,s∈allSs b) (hX:γ1.X=γ.X) (hm:γ1.m=γ.m) (hst:standsB p s=true) (hk:kS s=5) (hnew:aS s∉keysG γ.gm) (hy:p.procs[(aS s).toNat]?=some y) (hyz:szSs y.body≤900)
  (s1:(keysG γ1.sm).Nodup) (s2:∀z,z∈keysG γ1.sm↔z∈keysG γ.sm∨(standsB p s=true∧z∈nt.sl s)) (s3:γ1.sm.length≤γ.sm.length+20*wS s)
  (a1:(keysG γ1.am).Nodup) (a2:∀z,z∈keysG γ1.am↔z∈keysG γ.am∨(standsB p s=true∧z∈nt.ar s)) (a3:γ1.am.length≤γ.am.length+20*wS s)
  (hg:γ1.gm=γ.gm++[(aS s,1)]):GI p nt l (Xs++[s]) (pushG y.body γ1) cur left:=by
 obtain ⟨t1,t2,t3,t4,t5,t6⟩:=pushG_take (b:=y.body) (γ:=γ1) (by rw[hX,hm];exact h.xm)
 rw[hX,hm] at t1;rw[hm] at t2;have hgk:∀z,z∈keysG (pushG y.body γ1).gm↔z=aS s∨z∈keysG γ.gm:=fun z=>by rw[t6,hg];simp[keysG,or_comm]
 have hst2:=stands_call hst hk;have hnat:((aS s).toNat:Int)=aS s:=by omega
 have hsn:snOf p.procs.length (pushG y.body γ1).gm=(snOf p.procs.length γ.gm).set (aS s).toNat true:=snOf_set (by omega) fun w=>by rw[hgk,hnat]
 have hus:=unS_set hy (snOf_get (n:=p.procs.length) (j:=(aS s).toNat) (gm:=γ.gm) (by omega) (by rw[hnat];exact hnew))
 have hbl:bodyL p (aS s)=y.body:=by rw[bodyL,hy]
 obtain ⟨b0,hb0,hsb⟩:=hs;have hrs:Rch p (allSs l) (aS s).toNat:=by
  rcases h.sub s (.inr ⟨b0,hb0,hsb⟩) with h1|⟨z,hz,h1⟩
  ·exact .base s h1 hst hk
  ·have h2:=h.rch z hz;have hbz:bodyN p z.toNat=allSs (bodyL p z):=by
    rw[bodyN,bodyL];cases p.procs[z.toNat]?<;>simp[allSs]
   exact .step z.toNat s h2.2 (by rw[hbz];exact h1) hst hk
 refine ⟨t3,by rw[t2,t6,hg,List.length_append];have:=h.mg;simp;omega,by rw[t4];exact s1,by rw[t5];exact a1,by rw[t6,hg,keysG,List.map_append];exact nd_snoc h.gn hnew,fun z=>by rw[t4,s2,ex_snoc,h.sl],fun z=>by rw[t5,a2,ex_snoc,h.al],fun x hx h1 h2=>?_,fun z hz=>?_,fun b hb=>?_,fun x hx=>?_,fun b hb=>?_,fun e he=>?_,?_,?_⟩
 ·rw[hgk];rcases List.mem_append.1 hx with hx|hx
  ·exact .inr (h.call x hx h1 h2)
  ·rw[List.mem_singleton] at hx;subst hx;exact .inl rfl
 ·rcases (hgk z).1 hz with rfl|hz
  ·exact ⟨⟨hst2.1,by omega⟩,hrs⟩
  ·exact h.rch z hz
 ·rw[t1];have hb2:(b=l∨∃z∈keysG γ.gm,b=bodyL p z)∨b=y.body:=by
   rcases hb with hb|⟨z,hz,e⟩
   ·exact .inl (.inl hb)
   ·rcases (hgk z).1 hz with rfl|hz
    ·exact .inr (e.trans hbl)
    ·exact .inl (.inr ⟨z,hz,e⟩)
  rcases hb2 with hb2|rfl
  ·rcases h.todo b hb2 with h1|h1|h1
   ·exact .inl (List.mem_append_left _ h1)
   ·exact .inr (.inl h1)
   ·exact .inr (.inr fun x hx=>List.mem_append_left _ (h1 x hx))
  ·exact .inl (by simp)
 ·have:x∈Xs∨∃b∈cur,x∈allSs b:=by
   rcases hx with hx|hx
   ·rcases List.mem_append.1 hx with hx|hx
    ·exact .inl hx
    ·rw[List.mem_singleton] at hx;subst hx;exact .inr ⟨b0,hb0,hsb⟩
   ·exact .inr hx
  exact (h.sub x this).imp id fun ⟨z,hz,e⟩=>⟨z,(hgk z).2 (.inr hz),e⟩
 ·rw[t1] at hb;rcases List.mem_append.1 hb with hb|hb
  ·have:=h.pend b hb;exact ⟨this.1,this.2.imp id fun ⟨z,hz,e⟩=>⟨z,(hgk z).2 (.inr hz),e⟩⟩
  ·rw[List.mem_singleton] at hb;subst hb;exact ⟨hyz,.inr ⟨aS s,(hgk _).2 (.inl rfl),hbl.symm⟩⟩
 ·rw[t6,hg] at he;simp only[List.length_append,List.length_singleton];rcases List.mem_append.1 he with he|he
  ·have:=h.val e he;omega
  ·rw[List.mem_singleton] at he;subst he;exact ⟨Int.le_refl _,by dsimp only;omega⟩
 ·have:=h.wt;rw[hus] at this;rw[sum_snoc,t1,hsn,List.map_append,List.sum_append_nat];simp only[List.map_cons,List.map_nil,List.sum_cons,List.sum_nil];omega
 ·have:=h.sz;rw[sum_snoc,t4,t5];omega
theorem bumps_facts (L:List Int) {m:List (Int×Int)}{w:Nat}(hm:(keysG m).Nodup) (hw:L.length≤20*w):(keysG (bumps L m)).Nodup∧(∀z,z∈keysG (bumps L m)↔z∈keysG m∨z∈L)∧(bumps L m).length≤m.length+20*w :=
 ⟨bumps_nodup hm,fun z=>by show z∈(bumps L m).map (·.1)↔_;rw[bumps_keys];exact or_comm,by have:=bumps_len (l:=L) (m:=m);omega⟩
theorem GI.step (hnt:NtOk p nt) (hpz:∀x∈p.procs,szSs x.body≤900) (h:GI p nt l Xs γ cur (wS s+left)) (hs:∃b∈cur,s∈allSs b):GI p nt l (Xs++[s]) (stepG p nt s γ) cur left:=by
 have hv:=h.vals;have hgl:=h.val;have hXl:=wS_len Xs;have hwt:=h.wt;unfold stepG;cases hst:standsB p s with
 |false =>
  rw[if_neg (by simp)];exact h.stepA hs rfl rfl h.sn (fun z=>by simp[hst]) (by omega) h.an (fun z=>by simp[hst]) (by omega) h.gn (fun z=>Iff.rfl) rL (fun e he=>by have:=hgl e he;omega) (fun h1=>by rw[hst] at h1;cases h1)
 |true =>
  rw[if_pos rfl];obtain ⟨s1,s2,s3⟩:=bumps_facts (nt.sl s) h.sn (hnt.sl s hst);obtain ⟨a1,a2,a3⟩:=bumps_facts (nt.ar s) h.an (hnt.ar s hst);have s2':∀z,z∈keysG (bumps (nt.sl s) γ.sm)↔z∈keysG γ.sm∨(standsB p s=true∧z∈nt.sl s):=fun z=>by rw[s2];simp[hst]
  have a2':∀z,z∈keysG (bumps (nt.ar s) γ.am)↔z∈keysG γ.am∨(standsB p s=true∧z∈nt.ar s):=fun z=>by rw[a2];simp[hst]
  by_cases hk:kS s=5
  ·rw[if_pos hk];unfold callG;by_cases hin:aS s∈(noteG nt s γ).gm.map (·.1)
   ·rw[if_pos hin];have hin':aS s∈keysG γ.gm:=hin;refine h.stepA hs rfl rfl s1 s2' s3 a1 a2' a3 (bump_nodup h.gn) (fun z=>?_) ?_ ?_ (fun _ _=>hin')
    ·show z∈(bump (aS s) γ.gm).map (·.1)↔_
     rw[bump_keys];exact ⟨fun h1=>h1.elim (fun e=>by rw[e];exact hin') id,.inr⟩
    ·show γ.gm.length≤(bump (aS s) γ.gm).length
     rcases look_cases (aS s) γ.gm with h1|⟨q,u,r,e,h1⟩
     ·exact absurd hin' h1
     ·rw[e,bump_old h1];simp
    ·intro e he;replace he:e∈bump (aS s) γ.gm:=he;rcases look_cases (aS s) γ.gm with h1|⟨q,u,r,e0,h1⟩
     ·exact absurd hin' h1
     ·rw[e0,bump_old h1] at he;have hu:=hgl (aS s,u) (by rw[e0];simp)
      dsimp only at hu;rcases List.mem_append.1 he with he|he
      ·have:=hgl e (by rw[e0];exact List.mem_append_left _ he);omega
      ·rcases List.mem_cons.1 he with rfl|he
       ·dsimp only;rw[wid (by omega) (by omega)];omega
       ·have:=hgl e (by rw[e0];exact List.mem_append_right _ (List.mem_cons_of_mem _ he));omega
   ·rw[if_neg hin];have hst2:=stands_call hst hk;obtain ⟨y,hy⟩:∃y,p.procs[(aS s).toNat]?=some y:=⟨_,List.getElem?_eq_getElem (by omega)⟩
    have hbl:bodyL p (aS s)=y.body:=by rw[bodyL,hy]
    rw[hbl];exact h.stepB hs rfl rfl hst hk hin hy (hpz y (List.mem_of_getElem? hy)) s1 s2' s3 a1 a2' a3 (bump_new hin)
  ·rw[if_neg hk];exact h.stepA hs rfl rfl s1 s2' s3 a1 a2' a3 h.gn (fun z=>Iff.rfl) rL (fun e he=>by have:=hgl e he;omega) (fun _ h2=>absurd h2 hk)
theorem GI.done (h:GI p nt l Xs γ [] 0) (hm:γ.m=0):∀x,Mets p (allSs l) x↔x∈Xs:=by
 have htodo:∀b,(b=l∨∃z∈keysG γ.gm,b=bodyL p z)->∀x∈allSs b,x∈Xs:=fun b hb=>by
  rcases h.todo b hb with h1|h1|h1
  ·rw[hm] at h1;simp at h1
  ·cases h1
  ·exact h1
 have hbz:∀z:Int,bodyN p z.toNat=allSs (bodyL p z):=fun z=>by
  rw[bodyN,bodyL];cases p.procs[z.toNat]?<;>simp[allSs]
 have hr:∀j,Rch p (allSs l) j->∃z∈keysG γ.gm,z.toNat=j:=fun j hj=>by
  induction hj with
  |base x hx hs hk=>exact ⟨_,h.call x (htodo l (.inl rfl) x hx) hs hk,rfl⟩
  |step i x _ hx hs hk ih =>
   obtain ⟨z,hz,rfl⟩:=ih;rw[hbz] at hx;exact ⟨_,h.call x (htodo _ (.inr ⟨z,hz,rfl⟩) x hx) hs hk,rfl⟩
 intro x;constructor
 ·rintro (hx|⟨j,hj,hx⟩)
  ·exact htodo l (.inl rfl) x hx
  ·obtain ⟨z,hz,rfl⟩:=hr j hj;rw[hbz] at hx;exact htodo _ (.inr ⟨z,hz,rfl⟩) x hx
 ·intro hx;rcases h.sub x (.inl hx) with h1|⟨z,hz,h1⟩
  ·exact .inl h1
  ·exact .inr ⟨z.toNat,(h.rch z hz).2,by rw[hbz];exact h1⟩
theorem GI.sets (h:GI p nt l Xs γ [] 0) (hm:γ.m=0):(Ris (srtI (keysG γ.sm))∧∀z,z∈srtI (keysG γ.sm)↔InS p nt.sl (allSs l) z)∧(Ris (srtI (keysG γ.am))∧∀z,z∈srtI (keysG γ.am)↔InS p nt.ar (allSs l) z):=by
 have hd:=h.done hm;refine ⟨⟨srtI_ris h.sn,fun z=>?_⟩,⟨srtI_ris h.an,fun z=>?_⟩⟩
 ·rw[(srtI_perm _).mem_iff,h.sl z];exact exists_congr fun x=>and_congr (hd x).symm Iff.rfl
 ·rw[(srtI_perm _).mem_iff,h.al z];exact exists_congr fun x=>and_congr (hd x).symm Iff.rfl
end
def stepsG (p:Pg) (nt:Nt):List St->Ga->Ga
 |[],γ=>γ
 |s::q,γ=>stepsG p nt q (stepG p nt s γ)
theorem stepsG_snoc (p:Pg) (nt:Nt):∀(q:List St) (s:St) (γ:Ga),stepsG p nt (q++[s]) γ=stepG p nt s (stepsG p nt q γ)
 |[],s,γ=>rfl
 |x::q,s,γ=>by rw[List.cons_append,stepsG,stepsG_snoc p nt q,stepsG]
def gAt (p:Pg) (nt:Nt) (A:List St) (vs:List Value) (γ:Ga):Ga:=stepsG p nt (A.take (A.length-vs.length)) γ
theorem gAt_all (p:Pg) (nt:Nt) (A:List St) (γ:Ga):gAt p nt A (ptrS A) γ=γ:=by
 rw[gAt,ptrS,List.length_map,Nat.sub_self,List.take_zero];rfl
theorem gAt_nil (p:Pg) (nt:Nt) (A:List St) (γ:Ga):gAt p nt A [] γ=stepsG p nt A γ:=by rw[gAt,List.length_nil,Nat.sub_zero,List.take_length]
theorem gAt_cons {p:Pg}{nt:Nt}{A q1 q:List St}{s:St}{x:Value}{ts:List Value}(γ:Ga) (hA:A=q1++s::q) (h:q.map ptS=ts):gAt p nt A (x::ts) γ=stepsG p nt q1 γ∧gAt p nt A ts γ=stepG p nt s (stepsG p nt q1 γ):=by
 subst hA;subst h;constructor
 ·rw[gAt];simp
 ·rw[gAt,← stepsG_snoc];congr 1
  simp only[List.length_append,List.length_cons,List.length_map];rw[show q1.length+(q.length+1)-q.length=q1.length+1 by omega];simp[List.take_append,List.take_of_length_le]
theorem GI.steps {p:Pg}{nt:Nt}{l:List St}(hnt:NtOk p nt) (hpz:∀x∈p.procs,szSs x.body≤900) {b:List St}{r:List St}:∀(q:List St) {Xs:List St}{γ:Ga},GI p nt l Xs γ [b] (((q++r).map wS).sum)->(∀s∈q,s∈allSs b)->GI p nt l (Xs++q) (stepsG p nt q γ) [b] ((r.map wS).sum)
 |[],Xs,γ,h,_=>by rw[List.append_nil];exact h
 |s::q,Xs,γ,h,hs=>by
  have h1:=GI.step (left:=((q++r).map wS).sum) hnt hpz h ⟨b,by simp,hs s (by simp)⟩
  have h2:=GI.steps hnt hpz q h1 fun x hx=>hs x (List.mem_cons_of_mem _ hx)
  rw[stepsG,show Xs++s::q=Xs++[s]++q by simp]
  exact h2
theorem GI.block {p:Pg}{nt:Nt}{l Xs:List St}{γ:Ga}(hnt:NtOk p nt) (hpz:∀x∈p.procs,szSs x.body≤900) {b:List St}(h:GI p nt l Xs γ [b] (szSs b)):GI p nt l (Xs++allSs b) (stepsG p nt (allSs b) γ) [] 0:=by
 have h1:=GI.steps (r:=[]) hnt hpz (allSs b) (by rw[List.append_nil,wSs_all];exact h) fun _ h=>h
 exact GI.fin h1 fun x hx=>List.mem_append_right _ hx
theorem GI.know {p:Pg}{nt:Nt}{l Xs:List St}{γ:Ga}{cur:List (List St)}{left:Nat}(h:GI p nt l Xs γ cur left) (hp:p.procs.length≤20):γ.m≤γ.X.length∧γ.m≤1000∧(∀e∈γ.gm,1≤e.2∧e.2≤100000):=by
 obtain ⟨h1,h2⟩:=h.vals;have:=h.mg;exact ⟨h.xm,by omega,h1⟩
theorem stepG_keep (p:Pg) (nt:Nt) (s:St) (γ:Ga):(stepG p nt s γ).m+γ.gm.length=γ.m+(stepG p nt s γ).gm.length:=by
 unfold stepG;split
 ·split
  ·unfold callG;split
   ·rename_i h;show γ.m+γ.gm.length=γ.m+(bump (aS s) γ.gm).length
    rcases look_cases (aS s) γ.gm with h1|⟨q,u,r,e0,h1⟩
    ·exact absurd h h1
    ·rw[e0,bump_old h1];simp
   ·rename_i h;have e:(bump (aS s) γ.gm).length=γ.gm.length+1:=by
     have h0:aS s∉γ.gm.map (·.1):=h
     rw[bump_new h0];simp
    unfold pushG;split
    ·show γ.m+1+γ.gm.length=γ.m+(bump (aS s) γ.gm).length
     omega
    ·show γ.m+1+γ.gm.length=γ.m+(bump (aS s) γ.gm).length
     omega
  ·rfl
 ·rfl
theorem stepsG_keep (p:Pg) (nt:Nt):∀(q:List St) (γ:Ga),(stepsG p nt q γ).m+γ.gm.length=γ.m+(stepsG p nt q γ).gm.length
 |[],γ=>rfl
 |s::q,γ=>by
  have h1:=stepG_keep p nt s γ;have h2:=stepsG_keep p nt q (stepG p nt s γ);rw[stepsG];omega
theorem eSl_len (l:List Ex):(eSl l).length≤l.length:=List.length_filterMap_le _ _
theorem eAr_len (l:List Ex):(eAr l).length≤l.length:=List.length_filterMap_le _ _
theorem ntW (p:Pg) (hps:∀x∈p.procs,x.ps.length≤20):NtOk p (wNt p):=by
 refine ⟨fun x hx=>?_,fun x hx=>?_⟩
 ·obtain ⟨k,a,xs,th,el,no⟩:=x;have h1:=wS_pos (.mk k a xs th el no);show (if k=0 then [a] else if k=5 then psN p.procs a else []).length≤_
  split
  ·simp;omega
  ·split
   ·unfold psN;split
    ·rename_i y hy;have:=hps y (List.mem_of_getElem? hy);omega
    ·simp
   ·simp
 ·obtain ⟨k,a,xs,th,el,no⟩:=x;have h1:=wS_pos (.mk k a xs th el no);show (if k=1 then [a] else []).length≤_
  split
  ·simp;omega
  ·simp
mutual
theorem postE_len:∀e:Ex,(postE e).length≤szE e
 |.mk k n a o l=>by
  have:=postEs_len l;rw[postE,szE,List.length_append];simp;omega
theorem postEs_len:∀l:List Ex,(postEs l).length≤szEs l
 |[]=>by rw[postEs,szEs];simp
 |e::l=>by
  have:=postE_len e;have:=postEs_len l;rw[postEs,szEs,List.length_append];omega
end
theorem ntR (p:Pg):NtOk p rNt:=by
 have hpost:=postEs_len;refine ⟨fun x hx=>?_,fun x hx=>?_⟩
 ·obtain ⟨k,a,xs,th,el,no⟩:=x;have h1:=hpost xs;have h2:=eSl_len (postEs xs);show (eSl (postEs xs)).length≤20*wS (.mk k a xs th el no)
  rw[wS];omega
 ·obtain ⟨k,a,xs,th,el,no⟩:=x;have h1:=hpost xs;have h2:=eAr_len (postEs xs);show (eAr (postEs xs)).length≤20*wS (.mk k a xs th el no)
  rw[wS];omega
end Go.Proofs.YtocppbocphnbcaaGreatDoor
namespace Go.Proofs.YtocppbocphnbcaaGreatDoor.U
open Go Go.RowKit Go.Sort
set_option linter.unusedVariables false
set_option linter.unusedSimpArgs false
set_option maxRecDepth 100000
set_option maxHeartbeats 40000000
theorem SoundAt.coverV {P:Program}{f:FuncId}{args:List Value}{s:AS}{K:Value->AS->Prop}(h:SoundAt P f args s fun u t=>∃u' t',Cov P 1 s.next (mkF [(0,u)]) t (mkF [(0,u')]) t'∧K u' t'):SoundAt P f args s K:=by
 refine ⟨fun hlo W0 β W vs hR hf hv=>?_⟩
 refine (h.out hlo W0 β W vs hR hf hv).mono fun e w' ⟨v,u,s',he,⟨u',t',hc,hk⟩,hst,β',h1,h2,h3,h4⟩=>?_
 obtain ⟨β1,p1,p2,p3,p4,p5⟩:=hc.rel W0 β' w' { tmps:=#[v],defers:=[] } h2 h1.free ⟨rfl,fun t x hx=>by
  have:=mkF_mem hx;simp only[List.mem_singleton,Prod.mk.injEq] at this;obtain ⟨rfl,rfl⟩:=this;exact h3,fun t ht=>by
  obtain ⟨x,hx⟩:=Option.ne_none_iff_exists'.1 ht;have:=mkF_mem hx;simp only[List.mem_singleton,Prod.mk.injEq] at this;omega⟩
 refine ⟨v,u',t',he,hk,⟨hc.next,hc.lo.trans hst.lo,hc.glb.trans hst.glb,fun k hk'=>(hc.keep k (by rw[hst.lo];exact hk')).trans (hst.keep k hk')⟩,β1,⟨fun k hk'=>(p1 k hk').trans (h1.keep k hk'),p2,h1.z.trans p3⟩,p4,?_,h4⟩
 exact p5.at_ 0 u' rfl
end Go.Proofs.YtocppbocphnbcaaGreatDoor.U
namespace Go.Proofs.YtocppbocphnbcaaGreatDoor
open Go Go.RowKit Go.Sort U
set_option linter.unusedVariables false
set_option linter.unusedSimpArgs false
set_option maxRecDepth 100000
set_option maxHeartbeats 40000000
abbrev gF (fi:FuncId) (cs:List Value):Value:=.func (.func fi) ⟨[]⟩ ⟨cs⟩
theorem gF_ren {n:Nat}{ρ:U.Ren}{fi:FuncId}{cs:List Value}(h:U.RenL n ρ cs cs):U.RenV n ρ (gF fi cs) (gF fi cs):=RenV.fnL .nil h
theorem idxI_p {z:Int}{n i:Nat}{k:Nat->Prop}(hz:z=i) (hi:i<n) (h:k i):idxC propX.toDom n z k:=by
 subst hz;show ifB propX.toDom (Nat.blt i n) (k i)
 exact U.ob_c (bLe hi) h
theorem bound_p {gl d m:Nat}{fr:Tr Value}{x:Operand}{t:IntKind}{z:Int}(hz:z=(m:Int)) (h:evC gl fr x=some (.int t z)):boundC gl fr (some x) d=some m:=by
 subst hz;simp only[boundC,h]
theorem sortedK {s:AS}{k:Value->AS->Prop}(m:List (Int×Int)) (S:List Int) (hS:srtI (m.map (·.1))=S) (hm:m.length≤40000) (hn:(m.map (·.1)).Nodup) (a b:Nat) (h0:Tr.at (pt a) s.heap=some (.cells 123 [.map (some b)] false)) (h1:Tr.at (pt b) s.heap=some (mB m)) (hg:s.glb≤s.next) (hk:U.rowK s (U.rowO 3 (iL S)) (iL S) k):SoundC Tryz.prog 91 [.func (.func 103) ⟨[]⟩ ⟨[.pointer (some ⟨a,0,none⟩)]⟩] s k:=by
 have hD:=sorted_i m hm hn;rw[hS] at hD;refine SoundC.rowI hD (fun i=>if i=0 then a else b) (.cons (RenV.fnL .nil (.cons (.ptr _ _ _ (by show 0<2;decide) rfl) .nil)) .nil) ?_ hg (cleanIC S) hk
 intro i x hx;rcases i with _|_|i
 ·cases hx;exact ⟨_,h0,.cells _ _ _ _ (.cons (.mp _ _ (by show 1<2;decide) rfl) .nil)⟩
 ·cases hx;exact ⟨_,h1,RenB.mapE rfl rfl rfl (mE_noNm cleanI _)⟩
 ·simp at hx
noncomputable def stG0 (Ts:Nat->TypeId):AS:=⟨mkO [(0,kwBlk Ts),(2,some (.cells 37 [.slice none 0 0,.slice none 0 0] false))],3,1,1⟩
theorem gather_at (Ts:Nat->TypeId) (p:Pg) (hf:FewP p) (nt:Nt) (hnt:NtOk p nt) (fi:FuncId) (cs:List Value) (hcs:∀n ρ,U.RenL n ρ cs cs) (hround:∀γ:Ga,γ.m≤γ.X.length->γ.m≤1000->(∀e∈γ.gm,1≤e.2∧e.2≤100000)->∀s,szS s≤1000->SoundRound Tryz.prog 16 [ptS s] (stW2 Ts p (gF fi cs) γ .ready) fun u t=>u=.bool true∧CovS Tryz.prog 17 t (stW2 Ts p (gF fi cs) (stepG p nt s γ) .ready)) (l:List St) (hl:szSs l≤900) (K:Value->AS->Prop)
  (hK0:rightP p=false->K (.agg ⟨[.slice none 0 0,.slice none 0 0]⟩) (stG0 Ts)) (hK1:rightP p=true->∀S A,(Ris S∧∀z,z∈S↔InS p nt.sl (allSs l) z)->(Ris A∧∀z,z∈A↔InS p nt.ar (allSs l) z)->K (.agg ⟨[imS (iL S),imS (iL A)]⟩) (stG0 Ts)):SoundAt Tryz.prog 27 [encP p,imS (encSs l),gF fi cs] (stG0 Ts) K:=by
 refine SoundAt.coverV ?_;refine SoundAt.body hmixU Tryz.func27 rfl rfl rfl 0 ?_;have c1:=right_d p hf;have k1:=cleanP p;have kl:=cleanSs l;have fp:=hf.procs;have hpz:∀x∈p.procs,szSs x.body≤900:=fun x hx=>by have:=szPrs_mem hx;have:=hf.sz;omega
 have hpr:szPrs p.procs≤900:=by have:=hf.sz;omega
 cases hr:rightP p with
 |false =>
  rw[hr] at c1;have hK0':=hK0 hr;(repeat' ((conv=>whnf);first|refine goA ?_|refine U.SoundAt.uT kw_ok c1 ⟨k1,trivial⟩ (tabK rfl rfl) ?_|refine goB ?_|refine U.lw_c ?_ ?_<;>intro hb))
  (conv=>whnf);exact ⟨_,_,(Cov.renO (fun k=>k) rfl rfl (bR rfl) (bR rfl) (fun _ _=>rfl) rfl (kp1 (by rfl)) (.W rfl (kwClean) rfl (.C rfl (.K rfl rfl (.K rfl rfl .nil)) .nil)) (.K rfl rfl rfl .nil)),hK0'⟩
 |true =>
  rw[hr] at c1;have hK1':=hK1 hr;(repeat' ((conv=>whnf);first|refine goA ?_|refine U.SoundAt.uT kw_ok c1 ⟨k1,trivial⟩ (tabK rfl rfl) ?_|refine goB ?_|refine U.lw_c ?_ ?_<;>intro hb))
  (conv=>whnf);refine loop_inv (α:=Ga) (fun γ=>∃Xs,GI p nt l Xs γ [] 0) (fun γ=>(mkF [(3,.pointer (some ⟨3,0,none⟩)),(5,.pointer (some ⟨4,0,none⟩)),(6,.pointer (some ⟨5,0,none⟩)),(7,.pointer (some ⟨9,0,none⟩)),(8,.pointer (some ⟨11,0,none⟩)),(9,.pointer (some ⟨13,0,none⟩))],stW1 Ts p (gF fi cs) γ)) (fun γ=>γ.m+(p.procs.length-γ.gm.length)) ⟨[],[],[],[l],1,false⟩ ⟨[],GI.init p nt l hl hpr⟩ ?_ ?_
  ·exact (Cov.renO (fun k=>if k=14 then 12 else k) rfl rfl (bR rfl) (bR rfl) (fun k hk=>by have:k<14:=hk;rw[if_neg (by omega)]) rfl (kp1 (by rfl)) (.W rfl (kwClean) rfl (.C rfl (.K rfl rfl (.K rfl rfl .nil)) (.W rfl (cleanP_cells p) rfl (.C rfl (.cons (gF_ren (hcs _ _)) .nil) (.C rfl (.K rfl rfl (.K rfl rfl .nil)) (.cons rfl (RenB.mapE rfl rfl rfl (mE_noNm cleanI _)) (.cons rfl (RenB.mapE rfl rfl rfl (mE_noNm cleanI _)) (.C rfl (.K rfl rfl (.K rfl rfl (.cons (.mp _ _ (by decide) rfl) (.cons (.mp _ _ (by decide) rfl) .nil)))) (.C rfl (.cons (.P rfl) .nil) (.cons rfl (RenB.mapE rfl rfl rfl (mE_noNm cleanI _)) (.C rfl (.cons (.mp _ _ (by decide) rfl) .nil) (.C rfl (.cons (.sl _ _ _ _ _ _ _ (by decide) rfl rfl rfl) .nil) (.W rfl (bsL_clean _) rfl .nil))))))))))))) (.cons rfl (.P rfl) (.cons rfl (.P rfl) (.cons rfl (.P rfl) (.cons rfl (.P rfl) (.cons rfl (.P rfl) (.cons rfl (.P rfl) .nil)))))))
  rintro γ ⟨Xs,hI⟩
  dsimp only;rcases hm:γ.m with _|m
  ·obtain ⟨hS,hA⟩:=hI.sets hm;obtain ⟨sm,am,gm,X,m,op⟩:=γ;dsimp only at hm hS hA;subst hm;have hsl:=hI.sz;have hsw:=hI.wt;dsimp only at hsl hsw;have hs4:sm.length≤40000:=by omega
   have ha4:am.length≤40000:=by omega
   have hsn:=hI.sn;have han:=hI.an;dsimp only[keysG] at hsn han
   obtain ⟨S,eS⟩:∃S,srtI (sm.map (·.1))=S:=⟨_,rfl⟩
   obtain ⟨A,eA⟩:∃A,srtI (am.map (·.1))=A:=⟨_,rfl⟩
   rw[show srtI (keysG sm)=S from eS] at hS;rw[show srtI (keysG am)=A from eA] at hA;have hK2:=hK1' S A hS hA;clear hS hA hI hK1' hsl hsw
   rcases S with _|⟨x1,S⟩
   ·rcases A with _|⟨x2,A⟩
    ·(repeat' ((conv=>whnf);first|refine goA ?_|refine U.SoundAt.body hmixU Tryz.func65 rfl rfl rfl 0 ?_|refine U.SoundC.body hmixU Tryz.func92 rfl rfl rfl 0 ?_|refine sortedK sm _ eS hs4 hsn _ _ rfl rfl (bR rfl) ?_|refine sortedK am _ eA ha4 han _ _ rfl rfl (bR rfl) ?_|refine goB ?_|refine U.drawX_p (D:=U.propX) 17 [1,] (by decide +kernel) (by decide +kernel) ?_|refine U.lw_c ?_ ?_<;>intro hb))
     all_goals (conv=>whnf)
     all_goals exact ⟨.agg ⟨[imS (iL []),imS (iL [])]⟩,stG0 Ts,Cov.trans (fr1:=mkF [(0,.agg ⟨[imS (iL []),rowS 19 (iL [])]⟩)]) (s1:=⟨mkO [(0,kwBlk Ts),(2,some (.cells 37 [.slice none 0 0,.slice none 0 0] false)),(19,U.rowO 3 (iL []))],20,1,1⟩) (Cov.frz (fun k=>k) 17 1 (T:=3) (ys:=iL []) rfl rfl (bR rfl) (bR rfl) (fun _ _=>rfl) rfl (kp1 (by rfl)) (bR rfl) rfl rfl iL_1 (cleanIC _) (.W rfl (kwClean) rfl (.C rfl (.K rfl rfl (.K rfl rfl .nil)) (blksO.row rfl rfl (cleanIC _) .nil))) (.cons rfl (RenV.aggL (.cons (.ext _ _ ⟨rfl,rfl⟩) (.cons (.ofRow (by decide) rfl rfl) .nil))) .nil)) (Cov.frz (fun k=>k) 19 1 (T:=3) (ys:=iL []) rfl rfl (bR rfl) (bR rfl) (fun _ _=>rfl) rfl (kp1 (by rfl)) (bR rfl) rfl rfl iL_1 (cleanIC _) (.W rfl (kwClean) rfl (.C rfl (.K rfl rfl (.K rfl rfl .nil)) .nil)) (.cons rfl (RenV.aggL (.L (cleanIL _) rfl (.cons (.ext _ _ ⟨rfl,rfl⟩) .nil))) .nil)),hK2⟩
    ·(repeat' ((conv=>whnf);first|refine goA ?_|refine U.SoundAt.body hmixU Tryz.func65 rfl rfl rfl 0 ?_|refine U.SoundC.body hmixU Tryz.func92 rfl rfl rfl 0 ?_|refine sortedK sm _ eS hs4 hsn _ _ rfl rfl (bR rfl) ?_|refine sortedK am _ eA ha4 han _ _ rfl rfl (bR rfl) ?_|refine goB ?_|refine U.drawX_p (D:=U.propX) 17 [1,] (by decide +kernel) (by decide +kernel) ?_|refine U.lw_c ?_ ?_<;>intro hb))
     all_goals (conv=>whnf)
     all_goals exact ⟨.agg ⟨[imS (iL []),imS (iL (x2::A))]⟩,stG0 Ts,Cov.trans (fr1:=mkF [(0,.agg ⟨[imS (iL []),rowS 19 (iL (x2::A))]⟩)]) (s1:=⟨mkO [(0,kwBlk Ts),(2,some (.cells 37 [.slice none 0 0,.slice none 0 0] false)),(19,U.rowO 3 (iL (x2::A)))],20,1,1⟩) (Cov.frz (fun k=>k) 17 1 (T:=3) (ys:=iL []) rfl rfl (bR rfl) (bR rfl) (fun _ _=>rfl) rfl (kp1 (by rfl)) (bR rfl) rfl rfl iL_1 (cleanIC _) (.W rfl (kwClean) rfl (.C rfl (.K rfl rfl (.K rfl rfl .nil)) (blksO.row rfl rfl (cleanIC _) .nil))) (.cons rfl (RenV.aggL (.cons (.ext _ _ ⟨rfl,rfl⟩) (.cons (.ofRow (by decide) rfl rfl) .nil))) .nil)) (Cov.frz (fun k=>k) 19 1 (T:=3) (ys:=iL (x2::A)) rfl rfl (bR rfl) (bR rfl) (fun _ _=>rfl) rfl (kp1 (by rfl)) (bR rfl) rfl rfl iL_1 (cleanIC _) (.W rfl (kwClean) rfl (.C rfl (.K rfl rfl (.K rfl rfl .nil)) .nil)) (.cons rfl (RenV.aggL (.L (cleanIL _) rfl (.cons (.ext _ _ ⟨rfl,rfl⟩) .nil))) .nil)),hK2⟩
   ·rcases A with _|⟨x2,A⟩
    ·(repeat' ((conv=>whnf);first|refine goA ?_|refine U.SoundAt.body hmixU Tryz.func65 rfl rfl rfl 0 ?_|refine U.SoundC.body hmixU Tryz.func92 rfl rfl rfl 0 ?_|refine sortedK sm _ eS hs4 hsn _ _ rfl rfl (bR rfl) ?_|refine sortedK am _ eA ha4 han _ _ rfl rfl (bR rfl) ?_|refine goB ?_|refine U.drawX_p (D:=U.propX) 17 [1,] (by decide +kernel) (by decide +kernel) ?_|refine U.lw_c ?_ ?_<;>intro hb))
     all_goals (conv=>whnf)
     all_goals exact ⟨.agg ⟨[imS (iL (x1::S)),imS (iL [])]⟩,stG0 Ts,Cov.trans (fr1:=mkF [(0,.agg ⟨[imS (iL (x1::S)),rowS 19 (iL [])]⟩)]) (s1:=⟨mkO [(0,kwBlk Ts),(2,some (.cells 37 [.slice none 0 0,.slice none 0 0] false)),(19,U.rowO 3 (iL []))],20,1,1⟩) (Cov.frz (fun k=>k) 17 1 (T:=3) (ys:=iL (x1::S)) rfl rfl (bR rfl) (bR rfl) (fun _ _=>rfl) rfl (kp1 (by rfl)) (bR rfl) rfl rfl iL_1 (cleanIC _) (.W rfl (kwClean) rfl (.C rfl (.K rfl rfl (.K rfl rfl .nil)) (blksO.row rfl rfl (cleanIC _) .nil))) (.cons rfl (RenV.aggL (.cons (.ext _ _ ⟨rfl,rfl⟩) (.cons (.ofRow (by decide) rfl rfl) .nil))) .nil)) (Cov.frz (fun k=>k) 19 1 (T:=3) (ys:=iL []) rfl rfl (bR rfl) (bR rfl) (fun _ _=>rfl) rfl (kp1 (by rfl)) (bR rfl) rfl rfl iL_1 (cleanIC _) (.W rfl (kwClean) rfl (.C rfl (.K rfl rfl (.K rfl rfl .nil)) .nil)) (.cons rfl (RenV.aggL (.L (cleanIL _) rfl (.cons (.ext _ _ ⟨rfl,rfl⟩) .nil))) .nil)),hK2⟩
    ·(repeat' ((conv=>whnf);first|refine goA ?_|refine U.SoundAt.body hmixU Tryz.func65 rfl rfl rfl 0 ?_|refine U.SoundC.body hmixU Tryz.func92 rfl rfl rfl 0 ?_|refine sortedK sm _ eS hs4 hsn _ _ rfl rfl (bR rfl) ?_|refine sortedK am _ eA ha4 han _ _ rfl rfl (bR rfl) ?_|refine goB ?_|refine U.drawX_p (D:=U.propX) 17 [1,] (by decide +kernel) (by decide +kernel) ?_|refine U.lw_c ?_ ?_<;>intro hb))
     all_goals (conv=>whnf)
     all_goals exact ⟨.agg ⟨[imS (iL (x1::S)),imS (iL (x2::A))]⟩,stG0 Ts,Cov.trans (fr1:=mkF [(0,.agg ⟨[imS (iL (x1::S)),rowS 19 (iL (x2::A))]⟩)]) (s1:=⟨mkO [(0,kwBlk Ts),(2,some (.cells 37 [.slice none 0 0,.slice none 0 0] false)),(19,U.rowO 3 (iL (x2::A)))],20,1,1⟩) (Cov.frz (fun k=>k) 17 1 (T:=3) (ys:=iL (x1::S)) rfl rfl (bR rfl) (bR rfl) (fun _ _=>rfl) rfl (kp1 (by rfl)) (bR rfl) rfl rfl iL_1 (cleanIC _) (.W rfl (kwClean) rfl (.C rfl (.K rfl rfl (.K rfl rfl .nil)) (blksO.row rfl rfl (cleanIC _) .nil))) (.cons rfl (RenV.aggL (.cons (.ext _ _ ⟨rfl,rfl⟩) (.cons (.ofRow (by decide) rfl rfl) .nil))) .nil)) (Cov.frz (fun k=>k) 19 1 (T:=3) (ys:=iL (x2::A)) rfl rfl (bR rfl) (bR rfl) (fun _ _=>rfl) rfl (kp1 (by rfl)) (bR rfl) rfl rfl iL_1 (cleanIC _) (.W rfl (kwClean) rfl (.C rfl (.K rfl rfl (.K rfl rfl .nil)) .nil)) (.cons rfl (RenV.aggL (.L (cleanIL _) rfl (.cons (.ext _ _ ⟨rfl,rfl⟩) .nil))) .nil)),hK2⟩
  ·obtain ⟨sm,am,gm,X,m0,op⟩:=γ;dsimp only at hm;subst hm;dsimp only;have hxm:m+1≤X.length:=hI.xm;obtain ⟨b,hb⟩:∃b,X[m]?=some b:=⟨_,List.getElem?_eq_getElem (by omega)⟩
   have hnb:nth (bsL X) (0+m*1)=some (imS (encSs b)):=by
    rw[nth_eq,bsL,List.getElem?_map,show 0+m*1=m by omega,hb];rfl
   obtain ⟨hP,hbz⟩:=hI.pop rfl hb;have hkeep:=stepsG_keep p nt (allSs b) ⟨sm,am,gm,X,m,op⟩;have hB:=hP.block hnt hpz;have hX2:=hI.know fp;dsimp only at hX2;have hwm:IntKind.i64.wrap (((m+1:Nat):Int)-1)=(m:Int):=by rw[wid (by omega) (by omega)];omega
   have hgt:decide ((0:Int)<((m+1:Nat):Int))=true:=decide_eq_true (by omega)
   have hb3:(Nat.ble 0 m&&m.ble (m+1)&&(m+1).ble X.length)=true:=by
    rw[bLe zL,bLe (Nat.le_succ _),bLe (by omega)];rfl
   have hq0:X.length.beq 0=false:=by
    obtain ⟨d,hd⟩:∃d,X.length=d+1:=⟨X.length-1,by omega⟩
    rw[hd];rfl
   (repeat' ((conv=>whnf);first|refine goA ?_|refine U.SoundAt.body hmixU Tryz.func64 rfl rfl rfl 0 ?_|refine U.onV_p hnb ?_|refine U.lw_t' hgt ?_|refine idxI_p hwm (Nat.lt_succ_self m) ?_|refine U.onV_p (bound_p hwm rfl) ?_|refine U.ob_c hb3 ?_|(rw[hq0];dsimp only)|refine goB ?_|refine U.lw_c ?_ ?_<;>intro hb))
   (conv=>whnf);have hA:=allSs_len b;have hlv:=hI.vals;dsimp only at hlv;refine SoundAt.iterQ (l:=16) rfl rfl (within_q b (by omega)) ⟨.imp _ _ fun c hc=>by
    have hc:c∈[imS (encSs b)]:=hc;rw[List.mem_singleton] at hc;subst hc;exact cleanSs _,trivial⟩ (fun vs=>stW2 Ts p (gF fi cs) (gAt p nt (allSs b) vs ⟨sm,am,gm,X,m,op⟩) .ready) (fun vs=>∃q:List St,vs=ptrS q) (fun _:Unit=>stW2 Ts p (gF fi cs) ⟨sm,am,gm,X,m,op⟩ .ready) (fun _=>False) ⟨allSs b,rfl⟩ [(0,yl 16),(1,imP (imS (encSs b)) 0)] ?_ rfl ?_ ?_ ?_ ?_ ?_ ?_ ?_
   ·rw[gAt_all];exact Cov.boxF (fun k=>if k=17 then 14 else k) 15 (imS (encSs b)) (T:=25) (xs:=[imS (encSs b)]) rfl rfl (bR rfl) (bR rfl) (fun k hk=>by have:k<17:=hk;rw[if_neg (by omega)]) rfl (kp1 (by rfl)) (bR rfl) rfl rfl rfl (by simp) (fun c hc=>by rw[List.mem_singleton] at hc;subst hc;exact cleanSs _) (.W rfl (kwClean) rfl (.C rfl (.K rfl rfl (.K rfl rfl .nil)) (.W rfl (cleanP_cells p) rfl (.C rfl (.cons (gF_ren (hcs _ _)) .nil) (.C rfl (.K rfl rfl (.K rfl rfl .nil)) (.cons rfl (RenB.mapE rfl rfl rfl (mE_noNm cleanI _)) (.cons rfl (RenB.mapE rfl rfl rfl (mE_noNm cleanI _)) (.C rfl (.K rfl rfl (.K rfl rfl (.cons (.mp _ _ (by decide) rfl) (.cons (.mp _ _ (by decide) rfl) .nil)))) (.C rfl (.cons (.P rfl) .nil) (.cons rfl (RenB.mapE rfl rfl rfl (mE_noNm cleanI _)) (.C rfl (.cons (.mp _ _ (by decide) rfl) .nil) (.C rfl (.cons (.sl _ _ _ _ _ _ _ (by decide) rfl rfl rfl) .nil) (.W rfl (bsL_clean _) rfl (.cons rfl (lpW_ren (by decide) rfl rfl rfl rfl rfl rfl rfl rfl rfl rfl rfl rfl rfl rfl) .nil)))))))))))))) (.cons rfl (.yld _ _ (by decide) rfl) (.cons rfl (.ext _ _ ⟨rfl,rfl⟩) .nil))
   ·intro i u hu;rcases i with _|_|i
    ·cases hu;rfl
    ·cases hu;rfl
    ·simp at hu
   ·show 16<17
    decide
   ·intro ts' _
    exact ⟨rfl,rfl,bR rfl,(kp1 (by rfl)),rfl⟩
   ·intro b hb;exact hb.elim
   ·rintro x ts' hsuf ⟨q,hq⟩
    obtain ⟨p1,s,q1,hpq,rfl,hq1⟩:=suffix_map hsuf;obtain ⟨e1,e2⟩:=gAt_cons (p:=p) (nt:=nt) (⟨sm,am,gm,X,m,op⟩:Ga) hpq hq1;rw[e1,e2];have hsm:s∈allSs b:=by rw[hpq];simp
    have hsz:=allSs_sz b s hsm;have hG:=GI.steps (r:=s::q1) hnt hpz p1 (by rw[← hpq,wSs_all];exact hP) fun x hx=>by rw[hpq];exact List.mem_append_left _ hx
    obtain ⟨h1,h2,h3⟩:=hG.know fp;exact (hround _ h1 h2 h3 s (by omega)).mono fun u t _ h=>.inl ⟨h.1,⟨q1,hq1.symm⟩,h.2⟩
   ·intro _;rw[gAt_nil];have hv2:=hB.vals;generalize stepsG p nt (allSs b) ⟨sm,am,gm,X,m,op⟩=γ' at *
    dsimp only at hkeep;(repeat' ((conv=>whnf);first|refine goD ?_|refine U.lw_c ?_ ?_<;>intro hb))
    (conv=>whnf);exact ⟨γ',⟨_,hB⟩,(by have:=hv2.2;have:=hlv.2;omega),(Cov.renO (fun k=>if k=14 then 17 else k) rfl rfl (bR rfl) (bR rfl) (fun k hk=>by have:k<14:=hk;rw[if_neg (by omega)]) rfl (kp1 (by rfl)) (.W rfl (kwClean) rfl (.C rfl (.K rfl rfl (.K rfl rfl .nil)) (.W rfl (cleanP_cells p) rfl (.C rfl (.cons (gF_ren (hcs _ _)) .nil) (.C rfl (.K rfl rfl (.K rfl rfl .nil)) (.cons rfl (RenB.mapE rfl rfl rfl (mE_noNm cleanI _)) (.cons rfl (RenB.mapE rfl rfl rfl (mE_noNm cleanI _)) (.C rfl (.K rfl rfl (.K rfl rfl (.cons (.mp _ _ (by decide) rfl) (.cons (.mp _ _ (by decide) rfl) .nil)))) (.C rfl (.cons (.P rfl) .nil) (.cons rfl (RenB.mapE rfl rfl rfl (mE_noNm cleanI _)) (.C rfl (.cons (.mp _ _ (by decide) rfl) .nil) (.C rfl (.cons (.sl _ _ _ _ _ _ _ (by decide) rfl rfl rfl) .nil) (.W rfl (bsL_clean _) rfl .nil))))))))))))) (.cons rfl (.P rfl) (.cons rfl (.P rfl) (.cons rfl (.P rfl) (.cons rfl (.P rfl) (.cons rfl (.P rfl) (.cons rfl (.P rfl) .nil)))))))⟩
   ·intro b hb;exact hb.elim
end Go.Proofs.YtocppbocphnbcaaGreatDoor
