
import Derived.Test.YtcihknonfcldeaaDoorKT22
namespace Go.Proofs.YtcihknonfcldeaaDoor.U
open Go Go.RowKit Go.Sort
set_option linter.unusedVariables false
set_option linter.unusedSimpArgs false
set_option maxRecDepth 100000
set_option maxHeartbeats 40000000
def mE {K V:Type}(ek:K->Value) (ev:V->Value) (m:List (K×V)):List (Value×Value):=m.map fun e=>(ek e.1,ev e.2)
theorem mE_len {K V:Type}{ek:K->Value}{ev:V->Value}(m:List (K×V)):(mE ek ev m).length=m.length:=List.length_map ..
theorem mE_app {K V:Type}{ek:K->Value}{ev:V->Value}(a b:List (K×V)):mE ek ev (a++b)=mE ek ev a++mE ek ev b:=List.map_append
theorem mE_snoc {K V:Type}{ek:K->Value}{ev:V->Value}(m:List (K×V)) (z:K) (u:V):mE ek ev m++[(ek z,ev u)]=mE ek ev (m++[(z,u)]):=by rw[mE_app];rfl
theorem mE_noNm {K V:Type}{ek:K->Value}{ev:V->Value}(h:∀u,NoNm (ev u)) (m:List (K×V)):∀e∈mE ek ev m,NoNm e.2:=fun e he=>by
 obtain ⟨x,_,rfl⟩:=List.mem_map.1 he;exact h _
def lookM {K V:Type} [DecidableEq K] (z:K):List (K×V)->Nat->Option (Nat×V)
 |[],_=>none
 |(y,u)::m,i=>if z=y then some (i,u) else lookM z m (i+1)
theorem lookM_none {K V:Type} [DecidableEq K] {z:K}:∀{m:List (K×V)}{i:Nat},z∉m.map (·.1)->lookM z m i=none
 |[],i,h=>rfl
 |(y,u)::m,i,h=>by
  simp only[List.map_cons,List.mem_cons,not_or] at h;rw[lookM,if_neg h.1];exact lookM_none h.2
theorem lookM_mid {K V:Type} [DecidableEq K] {z:K}{u:V}{q:List (K×V)}:∀{p:List (K×V)}{i:Nat},z∉p.map (·.1)->lookM z (p++(z,u)::q) i=some (i+p.length,u)
 |[],i,h=>by simp[lookM]
 |(y,v)::p,i,h=>by
  simp only[List.map_cons,List.mem_cons,not_or] at h;rw[List.cons_append,lookM,if_neg h.1,lookM_mid h.2];simp;omega
theorem look_cases {K V:Type} [DecidableEq K] (z:K):∀(m:List (K×V)),(z∉m.map (·.1))∨∃p u q,m=p++(z,u)::q∧z∉p.map (·.1)
 |[]=>.inl (by simp)
 |(y,u)::m=>by
  by_cases h:z=y
  ·subst h;exact .inr ⟨[],u,m,rfl,by simp⟩
  ·rcases look_cases z m with h1|⟨p,v,q,rfl,h2⟩
   ·exact .inl (by simp only[List.map_cons,List.mem_cons,not_or];exact ⟨h,h1⟩)
   ·exact .inr ⟨(y,u)::p,v,q,rfl,by simp only[List.map_cons,List.mem_cons,not_or];exact ⟨h,h2⟩⟩
def KeyOk {K:Type} [DecidableEq K] (P:Program) (kt:TypeId) (d:TypeDesc) (ek:K->Value):Prop:=∀(V:Type) (ev:V->Value) (z:K) (m:List (K×V)),findC P kt d (ek z) (mE ek ev m)=some ((lookM z m 0).map fun r=>(r.1,ev r.2))
theorem keyOk_arr {K:Type} [DecidableEq K] {P:Program}{kt:TypeId}{a:TypeId}{n:Nat}{ek:K->Value}(h:∀a b,pureRun P (Op.equal kt (ek a) (ek b))=some (decide (a=b))) (hs:∀a,Instr.sameBits 10000 (ek a) (ek a)=true):KeyOk P kt (.array a n) ek:=fun V ev z m=>by
 have key:∀(m:List (K×V)) (i:Nat),findA P kt (ek z) (mE ek ev m) i=some ((lookM z m i).map fun r=>(r.1,ev r.2)):=fun m=>by
  induction m with
  |nil=>intro i;rfl
  |cons e m ih =>
   intro i;obtain ⟨y,u⟩:=e;show findA P kt (ek z) ((ek y,ev u)::mE ek ev m) i=_
   rw[findA,h z y,lookM];by_cases hz:z=y
   ·subst hz;simp[hs]
   ·simp only[hz,decide_false,if_false];rw[natC_eq];exact ih (i+1)
 exact key m 0
theorem keyOk_flat {K:Type} [DecidableEq K] {P:Program}{kt:TypeId}{d:TypeDesc}{ek:K->Value}(hd:∀a n,d≠.array a n) (h:∀a b,Instr.sameNow d (ek a) (ek b)=some (decide (a=b))):KeyOk P kt d ek:=fun V ev z m=>by
 have key:∀(m:List (K×V)) (i:Nat),findO d (ek z) (mE ek ev m) i=some ((lookM z m i).map fun r=>(r.1,ev r.2)):=fun m=>by
  induction m with
  |nil=>intro i;rfl
  |cons e m ih =>
   intro i;obtain ⟨y,u⟩:=e;show findO d (ek z) ((ek y,ev u)::mE ek ev m) i=_
   rw[findO,h z y,lookM];by_cases hz:z=y
   ·subst hz;simp
   ·simp only[hz,decide_false,if_false];exact ih (i+1)
 have e:findC P kt d (ek z) (mE ek ev m)=findO d (ek z) (mE ek ev m) 0:=by
  unfold findC;split
  ·rename_i a n;exact absurd rfl (hd a n)
  ·rfl
 rw[e,key]
theorem KeyOk.none {K V:Type} [DecidableEq K] {P:Program}{kt:TypeId}{d:TypeDesc}{ek:K->Value}{ev:V->Value}(h:KeyOk P kt d ek) {z:K}{m:List (K×V)}(hz:z∉m.map (·.1)):findC P kt d (ek z) (mE ek ev m)=some none:=by
 rw[h V ev z m,lookM_none hz];rfl
theorem KeyOk.mid {K V:Type} [DecidableEq K] {P:Program}{kt:TypeId}{d:TypeDesc}{ek:K->Value}{ev:V->Value}(h:KeyOk P kt d ek) {z:K}{p q:List (K×V)}{u:V}(hz:z∉p.map (·.1)):findC P kt d (ek z) (mE ek ev (p++(z,u)::q))=some (some (p.length,ev u)):=by
 rw[h V ev z _,lookM_mid hz];simp
theorem nthN_range {n i:Nat}(h:i<n):nthN (List.range n) i=some i:=by
 rw[nthN_eq];simp[h]
theorem idxB_from {b:Nat}:∀(n c i:Nat),c≤b->b<c+n->idxB b (List.range' c n) i=some (i+(b-c))
 |0,c,i,h1,h2=>by omega
 |n+1,c,i,h1,h2=>by
  rw[List.range'_succ,idxB];split
  ·rename_i hb;have:=Nat.eq_of_beq_eq_true hb;rw[this];simp
  ·rename_i hb;have:=Nat.ne_of_beq_eq_false hb;rw[natC_eq,idxB_from n (c+1) (i+1) (by omega) (by omega)];congr 1;omega
theorem idxB_range {n b:Nat}(h:b<n):idxB b (List.range n) 0=some b:=by
 rw[List.range_eq_range',idxB_from n 0 0 (by omega) (by omega)];simp
theorem range_snoc (n:Nat):List.range n++[n]=List.range (n+1):=(List.range_succ ..).symm
theorem idxB_snoc (n:Nat):idxB n (List.range n++[n]) 0=some n:=by rw[range_snoc];exact idxB_range (by omega)
theorem nthP_at {K V:Type}{ek:K->Value}{ev:V->Value}{m:List (K×V)}{i:Nat}{z:K}{u:V}(h:m[i]?=some (z,u)):nthP (mE ek ev m) i=some (ek z,ev u):=by
 rw[nthP_eq];simp[mE,h]
theorem setP_mid {K V:Type}{ek:K->Value}{ev:V->Value}(p q:List (K×V)) (z:K) (u w:V):setL (mE ek ev (p++(z,u)::q)) p.length (ek z,ev w)=mE ek ev (p++(z,w)::q):=by
 rw[setL_eq];simp[mE]
theorem nthP_setP {l:List (Value×Value)}{n:Nat}{e:Value×Value}(h:n<l.length):nthP (setL l n e) n=some e:=by
 rw[nthP_eq,setL_eq];simp[h]
theorem setP_setP {l:List (Value×Value)}{n:Nat}{e e':Value×Value}:setL (setL l n e) n e'=setL l n e':=by
 rw[setL_eq,setL_eq,setL_eq];simp
theorem nthP_snoc {l:List (Value×Value)}{n:Nat}{e:Value×Value}(h:n=l.length):nthP (l++[e]) n=some e:=by
 rw[nthP_eq];simp[h]
theorem setP_snoc {l:List (Value×Value)}{n:Nat}{e e':Value×Value}(h:n=l.length):setL (l++[e]) n e'=l++[e']:=by
 rw[setL_eq];simp[h]
theorem bornB_range (n:Nat):bornB n n (List.range n)=true:=by
 simp[bornB]
theorem left_nil {seen:List Nat}{n:Nat}(h:leftI seen (List.range n) 0=[]):∀i,i<n->i∈seen:=fun i hi=>by
 by_cases hs:i∈seen
 ·exact hs
 ·have:=(leftI_mem (seen:=seen) (List.range n) 0 i).2 ⟨i,i,by omega,by simp[hi],hs⟩
  rw[h] at this;cases this
theorem left_in {seen:List Nat}{n i:Nat}(h:i∈leftI seen (List.range n) 0):i<n∧i∉seen:=by
 obtain ⟨j,b,e1,e2,e3⟩:=(leftI_mem (List.range n) 0 i).1 h;have hj:j<n:=by
  by_cases hj:j<n
  ·exact hj
  ·rw[List.getElem?_eq_none (by simp;omega)] at e2;cases e2
 have:b=j:=by
  simp[hj] at e2
  exact e2.symm
 subst this;exact ⟨by omega,by rw[show i=b by omega];exact e3⟩
theorem onV_p {α:Type}{x:Option α}{u:α}{k:α->Prop}(hx:x=some u) (h:k u):onV propX.toDom x k:=by rw[hx];exact h
theorem valB_int (k:IntKind) (n:Int):valB (.int k n) (.int k n)=true:=by simp[valB,valB1]
theorem exB_map {K V:Type}{ek:K->Value}{ev:V->Value}(hk:∀a,valB (ek a) (ek a)=true) (hv:∀a,valB (ev a) (ev a)=true) {es:List (Value×Value)}{m:List (K×V)}(he:es=mE ek ev m) {bs:List Nat}{cl:Nat}{c:Bool}(hc:c=true):(exB (some (.map es bs cl)) (.map es bs cl)&&c)=true:=by
 have key:∀m:List (K×V),entsB (mE ek ev m) (mE ek ev m)=true:=fun m=>by
  induction m with
  |nil=>rfl
  |cons e m ih =>
   show (valB (ek e.1) (ek e.1)&&valB (ev e.2) (ev e.2)&&entsB (mE ek ev m) (mE ek ev m))=true
   rw[hk,hv,ih];rfl
 subst he;show (entsB (mE ek ev m) (mE ek ev m)&&(decide (bs=bs)&&Nat.beq cl cl)&&c)=true
 rw[key,hc,decide_eq_true rfl,Nat.beq_refl];rfl
theorem RenB.mapE {n:Nat}{ρ:Ren}{es es':List (Value×Value)}{bs bs':List Nat}{cl cl':Nat}(he:es=es') (hb:bs=bs') (hc:cl=cl') (h:∀e∈es,NoNm e.2):RenB n ρ (.map es bs cl) (.map es' bs' cl'):=by
 subst he;subst hb;subst hc;exact .map _ _ _ h
theorem nodup_len:∀{n:Nat}{l:List Nat},l.Nodup->(∀i∈l,i<n)->l.length≤n
 |0,[],_,_=>Nat.le_refl _
 |0,x::l,_,h=>absurd (h x List.mem_cons_self) (Nat.not_lt_zero _)
 |n+1,l,hn,h=>by
  have h2:(l.erase n).length≤n:=nodup_len (hn.erase n) fun i hi=>by
   have h3:=(hn.mem_erase_iff).1 hi;have:=h i h3.2;omega
  by_cases hm:n∈l
  ·rw[List.length_erase_of_mem hm] at h2;omega
  ·rw[List.erase_of_not_mem hm] at h2;omega
theorem mk_cap {zs:List Value}{n:Nat}{b:Int}(h1:zs.all flat1=true) (h2:zs.all Value.oneCell'=true) (h3:0≤b∧b≤100) (hn:n≤500000):(zs.all flat1&&zs.all Value.oneCell'&&decide ((0:Int)≤0)&&decide ((0:Int)≤(n:Int))&&decide ((n:Int)*b≤140737488355328)&&decide ((n:Int)≤1000000))=true:=by
 have:(n:Int)*b≤500000*100:=Int.mul_le_mul (by omega) h3.2 h3.1 (by omega)
 simp only[h1,h2,Bool.and_eq_true,decide_eq_true_eq];refine ⟨⟨⟨⟨⟨trivial,trivial⟩,Int.le_refl _⟩,by omega⟩,by omega⟩,by omega⟩
theorem mk_full {zs:List Value}{n:Nat}{b:Int}(h1:zs.all flat1=true) (h2:zs.all Value.oneCell'=true) (h3:0≤b∧b≤100) (hn:n≤500000):(zs.all flat1&&zs.all Value.oneCell'&&decide ((0:Int)≤(n:Int))&&decide ((n:Int)≤(n:Int))&&decide ((n:Int)*b≤140737488355328)&&decide ((n:Int)≤1000000))=true:=by
 have:(n:Int)*b≤500000*100:=Int.mul_le_mul (by omega) h3.2 h3.1 (by omega)
 simp only[h1,h2,Bool.and_eq_true,decide_eq_true_eq];refine ⟨⟨⟨⟨⟨trivial,trivial⟩,by omega⟩,Int.le_refl _⟩,by omega⟩,by omega⟩
theorem CodeS.then_ {P:Program}{N:Nat}{a b:Code}{fr:Tr Value}{s:AS}{k:KontC Prop}(fr2:Tr Value) (s2:AS) (ha:CodeS P N a fr s fun e fr1 s1=>match e with | .normal=>Cov P N s.next fr1 s1 fr2 s2|e=>k e fr1 s1) (hb:CodeS P N b fr2 s2 k):CodeS P N (a.seq b) fr s k :=
 CodeS.seq ha fun e fr1 s1 h _=>by
  cases e<;>first
   |exact ⟨fr2,s2,h,hb⟩
   |exact h
structure DenN (P:Program) (f:FuncId) (args:List Value) (u:Value):Prop where
 out:∀(z:Nat->Nat->Option Value) (W:World) (vs:List Value),(∀r o v,z r o=some v->fzc W ⟨r,o,none⟩=some v)->VRs ⟨fun _=>none,z⟩ args vs ->
  Calls P f ⟨vs⟩ W fun e w'=>∃v z',e=.returned v∧(Below W.heap.size W w'∧W.drawn≤w'.drawn)∧(∀r o x,z' r o=some x->fzc w' ⟨r,o,none⟩=some x∧W.heap.size≤r)∧VR ⟨fun _=>none,z'⟩ u v
inductive FrzN (P:Program) (s:AS):Value->Value->Prop where
 |flat (u:Value) (h:flatV u=true):FrzN P s u u
 |nil:FrzN P s (.slice none 0 0) (imS [])
 |agg (l m:List Value) (hl:l.length=m.length) (h:∀(i:Nat) (u v:Value),l[i]?=some u->m[i]?=some v->FrzN P s u v):FrzN P s (.agg ⟨l⟩) (.agg ⟨m⟩)
 |tup (l m:List Value) (hl:l.length=m.length) (h:∀(i:Nat) (u v:Value),l[i]?=some u->m[i]?=some v->FrzN P s u v):FrzN P s (.tuple ⟨l⟩) (.tuple ⟨m⟩)
 |row (k n c z:Nat) (T:TypeId) (xs ys:List Value) (op:Bool) (hlo:s.lo≤k) (hk:s.heap.get k=some (.cells T xs op)) (hz:∀y,y∈ys->(cellsOf y).length=z) (hn:n=ys.length) (hc:n≤c) (hl:(cellsAll ys).length≤xs.length) (h:∀(i:Nat) (u v:Value),xs[i]?=some u->(cellsAll ys)[i]?=some v->FrzN P s u v) :
   FrzN P s (.slice (some ⟨k,0,none⟩) n c) (imS ys)
structure DenE (P:Program) (f:FuncId) (args:List Value) (Q:Value->Prop):Prop where
 out:∀(z:Nat->Nat->Option Value) (W:World) (vs:List Value),(∀r o v,z r o=some v->fzc W ⟨r,o,none⟩=some v)->VRs ⟨fun _=>none,z⟩ args vs ->
  Calls P f ⟨vs⟩ W fun e w'=>∃u v z',Q u∧e=.returned v∧(Below W.heap.size W w'∧W.drawn≤w'.drawn)∧(∀r o x,z r o=some x->z' r o=some x)∧(∀r o x,z' r o=some x->fzc w' ⟨r,o,none⟩=some x∧(z r o=some x∨W.heap.size≤r))∧VR ⟨fun _=>none,z'⟩ u v
theorem denE_of_sound {P:Program}(hm:P.follows .mixedOrders=true) {f:FuncId}{args:List Value}{Q:Value->Prop}(h:∀Ts,SoundAt P f args (start [] Ts) fun u' s'=>∃u,Q u∧FrzV P s' u' u):DenE P f args Q:=by
 refine ⟨fun z W vs hz hv=>(run_out hm h z W vs hz hv).mono fun e w' ⟨v,u',s',β',he,⟨u,hq,h1⟩,hlo,hR,hv',z1,z2,hdn⟩=>?_⟩
 have hzlt:∀r o x,z r o=some x->r<W.heap.size:=fun r o x h=>cell_lt (hz r o x h)
 have e1:∀r o,r<W.heap.size->fzc w' ⟨r,o,none⟩=fzc W ⟨r,o,none⟩:=fun r o h=>cell_same (hR.below.block r h)
 refine ⟨u,v,fun r o=>if r<W.heap.size then z r o else fzc w' ⟨r,o,none⟩,hq,he,⟨hR.below,hdn⟩,fun r o x hx'=>?_,fun r o x hx'=>?_,?_⟩
 ·show (if r<W.heap.size then z r o else _)=_
  rw[if_pos (hzlt r o x hx')];exact hx'
 ·have hx':(if r<W.heap.size then z r o else fzc w' ⟨r,o,none⟩)=some x:=hx'
  split at hx'
  ·rename_i hr;exact ⟨by rw[e1 r o hr];exact hz r o x hx',.inl hx'⟩
  ·rename_i hr;exact ⟨hx',.inr (by omega)⟩
 ·refine FrzV.rel hR (fun r o x hx'=>?_) (fun r o x hr hx'=>?_) h1 hv'
  ·show (if r<W.heap.size then z r o else fzc w' ⟨r,o,none⟩)=_
   split
   ·rename_i hr;rcases z2 r o x hx' with h|h
    ·exact h
    ·omega
   ·exact (hR.frz r o x hx').1
  ·show (if r<W.heap.size then z r o else fzc w' ⟨r,o,none⟩)=_
   rw[if_neg (by omega)];exact hx'
theorem SoundAt.e {P:Program}{f:FuncId}{args:List Value}{Q:Value->Prop}{s:AS}{k:Value->AS->Prop}(h:DenE P f args Q) (hc:NoNms args) (hk:∀u,Q u->k u s):SoundAt P f args s k:=by
 refine ⟨fun hlo W0 β W vs hR hf hv=>?_⟩
 refine (h.out β.z W vs (fun r o v hz=>(hR.frz r o v hz).1) (NoNm.rels hc.all hv)).mono fun e w' ⟨u,v,z',hq,he,⟨hb,hdn⟩,h1,h2,h3⟩=>?_
 have hR':=hR.later hb;refine ⟨v,u,s,he,hk u hq,.refl _,⟨β.m,z'⟩,⟨fun _ _=>rfl,hf,h1,fun r o x hx=>((h2 r o x hx).2).imp id fun hle=>Nat.le_trans hR.below.size hle⟩,hR'.frozen hR.lt h1 h2,?_,KD.below hb⟩
 exact VR.growX (β:=⟨fun _=>none,z'⟩) (β':=⟨β.m,z'⟩) ⟨fun k x hk=>(by cases hk),fun _ _ _ h=>h⟩ h3
theorem SoundAt.eF {P:Program}{f:FuncId}{args args':List Value}{Q:Value->Prop}{s:AS}{k:Value->AS->Prop}(h:DenE P f args' Q) (hu:∀u,Q u->flatV u=true) (hf:FrzL P (seen s) args args') (hk:∀u,Q u->k u s):SoundAt P f args s k:=by
 refine ⟨fun hl W0 β W vs hR hfr hv=>?_⟩
 have hall:VRs ⟨fun _=>none,fun r o=>fzc W ⟨r,o,none⟩⟩ args' vs:=⟨hf.at_.1.symm.trans hv.1,fun i y v hy hv'=>by
  have hi:i<args.length:=by rw[hf.at_.1];exact (List.getElem?_eq_some_iff.1 hy).1
  exact (hf.at_.2 i args[i] y (List.getElem?_eq_getElem hi) hy).relAll (s0:=seen s) (s:=s) rfl hR (fun r o x hx=>(hR.frz r o x hx).1) (fun _ _ _ h=>h) (hv.2 i _ v (List.getElem?_eq_getElem hi) hv')⟩
 refine (h.out (fun r o=>fzc W ⟨r,o,none⟩) W vs (fun _ _ _ h=>h) hall).mono fun e w' ⟨u,v,z',hq,he,⟨hb,hdn⟩,_,_,hv'⟩=>?_
 have:v=u:=hv'.flat_eq (hu u hq);subst this;exact ⟨v,v,s,he,hk v hq,.refl _,β,⟨fun _ _=>rfl,hfr,fun _ _ _ h=>h,fun r o x hx=>.inl hx⟩,hR.later hb,.of_flat _ (hu v hq),KD.below hb⟩
end Go.Proofs.YtcihknonfcldeaaDoor.U
