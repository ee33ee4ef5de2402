
import Derived.Test.YtcihknonfcldeaaDoorKT23
import Derived.Test.YtcihknonfcldeaaDoorKT24
import Derived.Test.YtcihknonfcldeaaDoorKT28
import Derived.Test.YtcihknonfcldeaaDoorKT34
import Derived.Test.YtcihknonfcldeaaDoorKT40
namespace Go.Proofs.YtcihknonfcldeaaDoor.U
open Go Go.RowKit Go.Sort
set_option linter.unusedVariables false
set_option linter.unusedSimpArgs false
set_option maxRecDepth 100000
set_option maxHeartbeats 40000000
def mkL:Nat->List (Option Blk)->List (Nat×Option Blk)
 |_,[]=>[]
 |i,b::l=>(i,b)::mkL (i+1) l
theorem mkL_get:∀(H:List (Option Blk)) (i k:Nat),(mkO (mkL i H)).get k=if i≤k then (H[k-i]?).join else none
 |[],i,k=>by rw[mkL,mkO,Tr.get_e];simp
 |b::H,i,k=>by
  rw[mkL,mkO,Tr.get_set];by_cases h:k=i
  ·subst h;simp
  ·rw[if_neg h,mkL_get H];by_cases h1:i+1≤k
   ·rw[if_pos h1,if_pos (by omega),show k-i=(k-(i+1))+1 by omega,List.getElem?_cons_succ]
   ·rw[if_neg h1,if_neg (by omega)]
def stH (H:List (Option Blk)):AS:=⟨mkO (mkL 0 H),H.length,0,0⟩
theorem stH_get (H:List (Option Blk)) (k:Nat):(stH H).heap.get k=(H[k]?).join:=by
 show (mkO (mkL 0 H)).get k=_
 rw[mkL_get,if_pos zL,Nat.sub_zero]
theorem DenR.frz {P:Program}{f:FuncId}{args:List Value}{u y:Value}{H:List (Option Blk)}(h:DenR P f args u H) (hy:FrzV P (stH H) u y):DenU P [] f args y:=by
 refine ⟨fun z W vs _ hz hv=>(h.out z W vs hz hv).mono fun e w' ⟨v,he,ν,z',⟨hb,hdn⟩,hz1,hz2,hu,hB,hν,hi⟩=>?_⟩
 have hget:∀k b,(stH H).heap.get k=some b->H[k]?=some (some b):=fun k b hk=>by
  rw[stH_get] at hk;cases hq:H[k]? with
  |none=>rw[hq] at hk;cases hk
  |some o=>rw[hq] at hk;cases o with
   |none=>cases hk
   |some c=>cases hk;rfl
 have hne:∀k,(stH H).heap.get k≠none->∃b,H[k]?=some (some b):=fun k hk=>by
  obtain ⟨b,hb⟩:=Option.ne_none_iff_exists'.1 hk;exact ⟨b,hget k b hb⟩
 have hR:Rel P W ⟨ν,z'⟩ (stH H) w':=by
  refine ⟨fun k b r sp hk hr=>?_,fun k k' r sp sp' _ hk hk' hr hr'=>?_,fun k hk=>?_,fun k r sp hr=>(hν k _ hr).2,fun k r sp hk hr _=>?_,hb,fun g hg=>absurd hg (Nat.not_lt_zero g),fun r o x hx=>⟨(hz2 r o x hx).1,fun k sp _ hk=>?_⟩⟩
  ·exact (hB k b r sp (hget k b hk) hr).1.sameX ⟨fun _ _ h=>h,fun _ _ _ h=>h⟩ (fun _=>trivial) rfl
  ·obtain ⟨b,h1⟩:=hne k hk;obtain ⟨b',h2⟩:=hne k' hk';exact hi k k' r sp sp' b b' h1 h2 hr hr'
  ·obtain ⟨b,h1⟩:=hne k hk;exact (List.getElem?_eq_some_iff.1 h1).1
  ·obtain ⟨b,h1⟩:=hne k hk;exact (hB k b r sp h1 hr).2
  ·obtain ⟨b,h1⟩:=hne k hk;exact (hz2 r o x hx).2.2 k sp b h1
 have hzlt:∀r o x,z r o=some x->r<W.heap.size:=fun r o x h=>cell_lt (hz r o x h)
 have e1:∀r o,r<W.heap.size->fzc w' ⟨r,o,none⟩=fzc W ⟨r,o,none⟩:=fun r o h=>cell_same (hb.block r h)
 refine ⟨v,fun r o=>if r<W.heap.size then z r o else fzc w' ⟨r,o,none⟩,he,⟨hb,hdn⟩,fun r o x hx'=>?_,fun r o x hx'=>?_,?_⟩
 ·show (if r<W.heap.size then z r o else _)=_
  rw[if_pos (hzlt r o x hx')];exact hx'
 ·have hx':(if r<W.heap.size then z r o else fzc w' ⟨r,o,none⟩)=some x:=hx'
  split at hx'
  ·rename_i hr;exact ⟨by rw[e1 r o hr];exact hz r o x hx',.inl hx'⟩
  ·rename_i hr;exact ⟨hx',.inr (by omega)⟩
 ·refine FrzV.rel hR (fun r o x hx'=>?_) (fun r o x hr hx'=>?_) hy hu
  ·have hx':z' r o=some x:=hx';show (if r<W.heap.size then z r o else fzc w' ⟨r,o,none⟩)=_
   obtain ⟨g1,g2,_⟩:=hz2 r o x hx';split
   ·rename_i hr;rcases g2 with h|h
    ·exact h
    ·omega
   ·exact g1
  ·show (if r<W.heap.size then z r o else fzc w' ⟨r,o,none⟩)=_
   rw[if_neg (by omega)];exact hx'
end Go.Proofs.YtcihknonfcldeaaDoor.U
namespace Go.Proofs.YtcihknonfcldeaaDoor
open Go Go.RowKit Go.Sort U
set_option linter.unusedVariables false
set_option linter.unusedSimpArgs false
set_option maxRecDepth 100000
set_option maxHeartbeats 40000000
theorem frzRX {P:Program}{s:AS}{c:Nat}{rows:List (List Int)}{nm:Nat->Nat}(h:RowsX s.heap c rows.length (Rf rows) nm) (hlo:s.lo=0):U.FrzV P s (sV c rows) (imS (gL rows)):=by
 cases rows with
 |nil=>exact .nil
 |cons r l =>
  refine FrzV.row c _ _ 1 36 (cellsN (r::l).length (Rf (r::l)) nm) (gL (r::l)) true (by rw[hlo];exact Nat.zero_le _) (h.cells (by simp)) gL_1 (by rw[gL_len];rfl) rL (by rw[cellsG,gL_len,cellsN_len];exact Nat.le_refl _) fun i u v hu hv=>?_
  rw[cellsG,gL_map,List.getElem?_map,Option.map_eq_some_iff] at hv;rw[cellsN,List.getElem?_map,Option.map_eq_some_iff] at hu;obtain ⟨x,hk1,rfl⟩:=hv;obtain ⟨k',hk2,rfl⟩:=hu;have hi:i<(r::l).length:=(List.getElem?_eq_some_iff.1 hk1).1
  rw[List.getElem?_range hi] at hk2;cases hk2;have hx:Rf (r::l) i=x:=by
   unfold Rf;rw[List.getD_eq_getElem?_getD,hk1];rfl
  rw[hx];rcases x with _|⟨y,ys⟩
  ·exact .nil
  ·have:=h.at_ i hi (by rw[hx];simp)
   rw[hx] at this;refine .ofRow (T:=3) (by rw[hlo];exact Nat.zero_le _) (this.trans ?_) iL_1 (cleanIC _)
   show _=some (U.Blk.cells 3 (cellsAll (iL (y::ys))) true)
   rw[cellsI]
theorem of_u (p:APr) (hf:FewA p) {rows:List (List Int)}(h:ofG p=.inl rows):DenU Tryd.prog [] 12 [encPr p] (.tuple ⟨[encG ⟨namesD p.ds,rows⟩,fltV 0 0 0]⟩):=by
 have hR:DenR Tryd.prog 12 [encPr p] (uOf (namesD p.ds) rows) (hOf (namesD p.ds) rows):=denR_of_sound hmixU fun Ts=>(of_at p hf Ts).mono fun u s _ hq=>by
  unfold OfQ at hq;rw[h] at hq;exact hq
 generalize namesD p.ds=ns at hR ⊢
 refine hR.frz ?_;refine .tupL (.cons (.aggL (.cons (.ofRow (T:=9) zL ?_ (z:=1) (fun y hy=>?_) (cleanSC _)) (.cons (frzRX (nm:=fun k=>2+k) ⟨fun h0=>?_,fun k hk hr=>?_,fun k k' _ _ _ _ e=>by omega,fun k _ _=>by omega⟩ rfl) .nil))) (.cons (.clean _ (.flat _ rfl)) .nil))
 ·exact (stH_get _ 0).trans rfl
 ·obtain ⟨s,_,rfl⟩:=List.mem_map.1 hy;rfl
 ·exact (stH_get _ 1).trans (sB_get h0)
 ·rw[stH_get,show 2+k=k+1+1 by omega];show ((famR rows.length (Rf rows) rows.length)[k]?).join=_
  exact famR_to hk (by omega) hr
theorem of_n (p:APr) (hf:FewA p) {f:Int×Int}(h:ofG p=.inr f):DenU Tryd.prog [] 12 [encPr p] (.tuple ⟨[.agg ⟨[imS [],imS []]⟩,fltV f.1 f.2 120]⟩) :=
 denU_of_sound hmixU fun Ts=>(of_at p hf Ts).mono fun u s _ hq=>by
  unfold OfQ at hq;rw[h] at hq;subst hq;exact .tupL (.cons (.aggL (.cons .nil (.cons .nil .nil))) (.cons (.clean _ (.flat _ rfl)) .nil))
def slV (b:Nat) (l:List Int):Value:=.slice (match l with
 |[]=>none
 |_::_=>some ⟨b,0,none⟩) l.length l.length
theorem slV_ren {n:Nat}{ρ:Ren}{b b':Nat}{l l':List Int}(hb:b<n) (e:ρ b=b') (e2:l=l'):U.RenV n ρ (slV b l) (slV b' l'):=by
 subst e2;cases l with
 |nil=>exact .F rfl rfl
 |cons y l=>exact .sl _ _ _ _ _ _ _ hb e rfl rfl
theorem slV_grown {n:Nat}{ρ:Ren}{b b' m c:Nat}{l:List Int}(hb:b<n) (e:ρ b=b') (h0:l≠[]) (e2:l.length=m) (e3:l.length=c):U.RenV n ρ (slV b l) (.slice (some ⟨b',0,none⟩) m c):=by
 cases l with
 |nil=>exact absurd rfl h0
 |cons y l=>exact .sl _ _ _ _ _ _ _ hb e e2 e3
theorem slV_frz {P:Program}{s:AS}{b:Nat}{T:TypeId}{l:List Int}(hlo:s.lo≤b) (hk:Tr.at (pt b) s.heap=rowO T (iL l)):U.FrzV P s (slV b l) (imS (iL l)):=by
 cases l with
 |nil=>exact .nil
 |cons y l=>exact .rowL hlo hk rfl iL_1 (by rw[iL_len]) rL (cleanIC _)
theorem gt0_at {l:List Int}{i:Nat}(h:i<l.length):l[i]?=some (gt0 l i):=by simp[gt0,h]
theorem iL_at {l:List Int}{i:Nat}(h:i<l.length):nth (iL l) i=some (.int .i64 (gt0 l i)):=by
 rw[nth_eq,iL,List.getElem?_map,gt0_at h];rfl
theorem iL_nth0 {L:List Int}{i:Nat}(h:i<L.length):nth (iL L) (0+i*1)=some (.int .i64 (gt0 L i)):=by
 rw[Nat.zero_add,Nat.mul_one,nth_eq];simp[iL,gt0,h]
theorem iL_store0 {L:List Int}{i:Nat}{x:Int}(h:i<L.length):(iL L).take (0+i*1)++[Value.int .i64 x]++(iL L).drop (0+i*1+[Value.int .i64 x].length)=iL (L.set i x):=by
 rw[Nat.zero_add,Nat.mul_one,List.length_singleton,iL,iL,← List.map_take,← List.map_drop,List.set_eq_take_append_cons_drop,if_pos h];simp
theorem cleanIl0 (l:List Int):∀x,x∈iL l->NoNm x:=fun x hx=>cleanIC l x (by rw[cellsI];exact hx)
theorem iL_zero (n:Nat):iL (List.replicate n 0)=repX n [.int .i64 0]:=by rw[repX_one,iL];simp
theorem gt0_set_same {L:List Int}{m:Nat}{x:Int}(h:m<L.length):gt0 (L.set m x) m=x:=by simp[gt0,h]
theorem gt0_set_ne {L:List Int}{m k:Nat}{x:Int}(hk:k≠m):gt0 (L.set m x) k=gt0 L k:=by
 unfold gt0;simp only[List.getD_eq_getElem?_getD,List.getElem?_set];rw[if_neg (fun e=>hk e.symm)]
theorem callees_ok (g:Gz) (hl:g.st.length=g.nm.length+1) (hn:g.nm.length≤maxI):okRows (calleesR g).length (calleesR g):=fun r hr=>by
 obtain ⟨s,_,rfl⟩:=List.mem_map.1 hr;refine ⟨rowR_nodup _ _,Nat.le_trans (rowR_len _ _) hn,fun t ht=>?_⟩
 obtain ⟨i,h1,h2,_⟩:=rowR_mem.1 ht;exact ⟨i,h2,by simp[calleesR];omega⟩
def okB (back:List (List Int)):Prop:=∀r∈back,∀x∈r,∃u:Nat,x=u∧u<back.length
def ES (back:List (List Int)) (v u:Nat):Prop:=(u:Int)∈back.getD v []
inductive Way (back:List (List Int)) (node:Nat):Nat->Nat->Prop
 |here:Way back node 0 node
 |step {k v u:Nat}(h:Way back node k v) (e:ES back v u):Way back node (k+1) u
structure Bfs (back:List (List Int)) (node:Nat) (way:List Int) (L:List Nat) (i:Nat) (p:List Int):Prop where
 wl:way.length=back.length
 lt:∀u∈L,u<back.length
 nd:L.Nodup
 seen:∀u,u<back.length->(0≤gt0 way u↔u∈L)
 neg:∀u,u<back.length->u∉L->gt0 way u=-1
 wy:∀u∈L,Way back node (gt0 way u).toNat u
 hd:node∈L∧gt0 way node=0
 srt:L.Pairwise fun a b=>gt0 way a≤gt0 way b
 near:∀v,L[i]?=some v->∀u∈L,gt0 way u≤gt0 way v+1
 dn:∀j v,j<i->L[j]?=some v->∀u,ES back v u->u∈L∧gt0 way u≤gt0 way v+1
 part:∀v,L[i]?=some v->∀u:Nat,(u:Int)∈p->u∈L∧gt0 way u≤gt0 way v+1
 il:i≤L.length
 bd:∀u∈L,gt0 way u+1≤L.length
theorem es_lt {back:List (List Int)}(hb:okB back) {v u:Nat}(h:ES back v u):u<back.length:=by
 unfold ES at h;rw[List.getD_eq_getElem?_getD] at h;cases hv:back[v]? with
 |none=>rw[hv] at h;simp at h
 |some r =>
  rw[hv] at h;obtain ⟨w,e,hw⟩:=hb r (List.mem_of_getElem? hv) u h;have:u=w:=by omega
  subst this;exact hw
theorem Bfs.skip {back:List (List Int)}{node:Nat}{way:List Int}{L:List Nat}{i:Nat}{p:List Int}(h:Bfs back node way L i p) {w:Nat}(hw:w<back.length) (h0:0≤gt0 way w):Bfs back node way L i (p++[(w:Int)]):=by
 refine { h with part:=fun v hv u hu=>?_ }
 rcases List.mem_append.1 hu with hu|hu
 ·exact h.part v hv u hu
 ·have:u=w:=Int.ofNat_inj.1 (by simpa using hu)
  subst this;have hm:=(h.seen u hw).1 h0;exact ⟨hm,h.near v hv u hm⟩
theorem Bfs.add {back:List (List Int)}{node:Nat}{way:List Int}{L:List Nat}{i:Nat}{p:List Int}(h:Bfs back node way L i p) {v w:Nat}(hv:L[i]?=some v) (hw:w<back.length) (h0:gt0 way w<0) (he:ES back v w):Bfs back node (way.set w (gt0 way v+1)) (L++[w]) i (p++[(w:Int)]):=by
 have hvm:v∈L:=List.mem_of_getElem? hv;have hv0:0≤gt0 way v:=(h.seen v (h.lt v hvm)).2 hvm;have hwn:w∉L:=fun hm=>by have:=(h.seen w hw).2 hm;omega
 have hs:gt0 (way.set w (gt0 way v+1)) w=gt0 way v+1:=gt0_set_same (by rw[h.wl];exact hw)
 have ho:∀u,u≠w->gt0 (way.set w (gt0 way v+1)) u=gt0 way u:=fun u hu=>gt0_set_ne hu
 have hne:∀u∈L,u≠w:=fun u hu e=>hwn (e ▸ hu)
 have hvi:∀v',(L++[w])[i]?=some v'->v'=v:=fun v' hv'=>by
  have hi:=(List.getElem?_eq_some_iff.1 hv).1;rw[List.getElem?_append_left hi,hv] at hv'
  exact (Option.some.inj hv').symm
 refine ⟨by rw[List.length_set];exact h.wl,?_,?_,?_,?_,?_,?_,?_,?_,?_,?_,?_,?_⟩
 ·intro u hu;rcases List.mem_append.1 hu with hu|hu
  ·exact h.lt u hu
  ·have:u=w:=by simpa using hu
   omega
 ·rw[List.nodup_append];exact ⟨h.nd,by simp,fun a ha b hb e=>by simp at hb;subst hb;subst e;exact hwn ha⟩
 ·intro u hu;by_cases huw:u=w
  ·subst huw;exact ⟨fun _=>by simp,fun _=>by rw[hs];omega⟩
  ·rw[ho u huw,h.seen u hu];simp[huw]
 ·intro u hu hm;have huw:u≠w:=fun e=>hm (by simp[e])
  rw[ho u huw];exact h.neg u hu fun hm'=>hm (by simp[hm'])
 ·intro u hu;rcases List.mem_append.1 hu with hu|hu
  ·rw[ho u (hne u hu)];exact h.wy u hu
  ·have:u=w:=by simpa using hu
   subst this;rw[hs,show (gt0 way v+1).toNat=(gt0 way v).toNat+1 by omega];exact .step (h.wy v hvm) he
 ·exact ⟨by simp[h.hd.1],by rw[ho _ (hne _ h.hd.1)];exact h.hd.2⟩
 ·rw[List.pairwise_append];refine ⟨h.srt.imp_of_mem fun {a b} ha hb hab=>by rw[ho a (hne a ha),ho b (hne b hb)];exact hab,by simp,fun a ha b hb=>?_⟩
  have:b=w:=by simpa using hb
  subst this;rw[hs,ho a (hne a ha)];exact h.near v hv a ha
 ·intro v' hv' u hu
  rw[hvi v' hv',ho v (hne v hvm)];rcases List.mem_append.1 hu with hu|hu
  ·rw[ho u (hne u hu)];exact h.near v hv u hu
  ·have:u=w:=by simpa using hu
   subst this;rw[hs];omega
 ·intro j v' hj hv' u hu
  have hil:=h.il;have hv2:L[j]?=some v':=by rwa [List.getElem?_append_left (by omega)] at hv'
  obtain ⟨h1,h2⟩:=h.dn j v' hj hv2 u hu;exact ⟨by simp[h1],by rw[ho u (hne u h1),ho v' (hne v' (List.mem_of_getElem? hv2))];exact h2⟩
 ·intro v' hv' u hu
  rw[hvi v' hv',ho v (hne v hvm)];rcases List.mem_append.1 hu with hu|hu
  ·obtain ⟨h1,h2⟩:=h.part v hv u hu;exact ⟨by simp[h1],by rw[ho u (hne u h1)];exact h2⟩
  ·have:u=w:=Int.ofNat_inj.1 (by simpa using hu)
   subst this;exact ⟨by simp,by rw[hs];omega⟩
 ·have:=h.il;simp;omega
 ·intro u hu;rw[List.length_append,List.length_singleton];rcases List.mem_append.1 hu with hu|hu
  ·rw[ho u (hne u hu)];have:=h.bd u hu;omega
  ·have:u=w:=by simpa using hu
   subst this;rw[hs];have:=h.bd v hvm;omega
theorem Bfs.next {back:List (List Int)}{node:Nat}{way:List Int}{L:List Nat}{i:Nat}{v:Nat}(hv:L[i]?=some v) (h:Bfs back node way L i (back.getD v [])):Bfs back node way L (i+1) []:=by
 have hi:=(List.getElem?_eq_some_iff.1 hv).1;refine { h with near:=fun v' hv' u hu=>?_,dn:=fun j w hj hw u hu=>?_,part:=fun _ _ u hu=>(by cases hu),il:=hi }
 ·have hi':=(List.getElem?_eq_some_iff.1 hv').1;have h1:=h.near v hv u hu;have h2:gt0 way v≤gt0 way v':=by
   have e1:L[i]=v:=(List.getElem?_eq_some_iff.1 hv).2;have e2:L[i+1]=v':=(List.getElem?_eq_some_iff.1 hv').2;rw[← e1,← e2];exact List.pairwise_iff_getElem.1 h.srt i (i+1) hi hi' (by omega)
  omega
 ·by_cases hji:j=i
  ·subst hji;rw[hv] at hw;cases hw;exact h.part v hv u hu
  ·exact h.dn j w (by omega) hw u hu
theorem bfs_init {back:List (List Int)}{node:Nat}(hn:node<back.length):Bfs back node ((List.replicate back.length (-1)).set node 0) [node] 0 []:=by
 have hs:gt0 ((List.replicate back.length (-1:Int)).set node 0) node=0:=gt0_set_same (by simpa using hn)
 have ho:∀u,u<back.length->u≠node->gt0 ((List.replicate back.length (-1:Int)).set node 0) u=-1:=fun u hu hne=>by
  rw[gt0_set_ne hne];simp[gt0,List.getElem?_replicate,hu]
 refine ⟨by simp,by simpa using hn,by simp,fun u hu=>?_,fun u hu hm=>ho u hu (by simpa using hm),fun u hu=>?_,⟨by simp,hs⟩,by simp,fun v hv u hu=>?_,fun j v hj=>(by omega),fun v hv u hu=>(by cases hu),by simp,fun u hu=>?_⟩
 ·by_cases hun:u=node
  ·subst hun;rw[hs];simp
  ·rw[ho u hu hun];simp[hun]
 ·have:u=node:=by simpa using hu
  subst this;rw[hs];exact .here
 ·have h1:v=node:=by simpa using hv.symm
  have h2:u=node:=by simpa using hu
  subst h1;subst h2;omega
 ·have:u=node:=by simpa using hu
  subst this;rw[hs];simp
def farOk (back:List (List Int)) (node:Nat) (way:List Int):Prop:=way.length=back.length∧∀u,u<back.length->(gt0 way u=-1∧∀k,¬Way back node k u)∨∃d:Nat,gt0 way u=d∧Way back node d u∧∀k,Way back node k u->d≤k
theorem Bfs.fin {back:List (List Int)}{node:Nat}{way:List Int}{L:List Nat}{p:List Int}(h:Bfs back node way L L.length p):farOk back node way:=by
 have key:∀k u,Way back node k u->u∈L∧gt0 way u≤k:=fun k u hk=>by
  induction hk with
  |here=>exact ⟨h.hd.1,by rw[h.hd.2];simp⟩
  |@step k v u _ e ih =>
   obtain ⟨j,hj,hjv⟩:=List.mem_iff_getElem.1 ih.1;obtain ⟨h1,h2⟩:=h.dn j v hj (by rw[List.getElem?_eq_getElem hj,hjv]) u e
   exact ⟨h1,by have:=ih.2;omega⟩
 refine ⟨h.wl,fun u hu=>?_⟩
 by_cases hm:u∈L
 ·have h0:=(h.seen u hu).2 hm;refine .inr ⟨(gt0 way u).toNat,by omega,h.wy u hm,fun k hk=>?_⟩
  have:=(key k u hk).2;omega
 ·exact .inl ⟨h.neg u hu hm,fun k hk=>hm (key k u hk).1⟩
def nL (L:List Nat):List Int:=L.map fun (u:Nat)=>(u:Int)
theorem nL_len (L:List Nat):(nL L).length=L.length:=List.length_map ..
theorem gt0_nL {L:List Nat}{i v:Nat}(h:L[i]?=some v):gt0 (nL L) i=v:=by simp[gt0,nL,h]
def fillW (n k:Nat):List Int:=List.replicate k (-1)++List.replicate (n-k) 0
theorem fillW_len {n k:Nat}(h:k≤n):(fillW n k).length=n:=by simp[fillW];omega
theorem fillW_step {n k:Nat}(h:k<n):(fillW n k).set k (-1)=fillW n (k+1):=by
 unfold fillW;rw[List.set_append_right _ _ (by simp),List.length_replicate,Nat.sub_self,show n-k=(n-(k+1))+1 by omega,List.replicate_succ,List.set_cons_zero,List.replicate_succ',List.append_assoc];rfl
theorem fillW_full (n:Nat):fillW n n=List.replicate n (-1):=by simp[fillW]
theorem far_e (back:List (List Int)) (node:Nat) (hb:okB back) (hn:node<back.length) (hl:back.length≤29000) (hr:∀r∈back,r.length≤maxI):DenE Tryd.prog 28 [imS (gL back),.int .i64 node] (fun u=>∃w,u=imS (iL w)∧farOk back node w):=by
 refine denE_of_sound hmixU fun Ts=>SoundAt.body hmixU Tryd.func28 rfl rfl rfl 0 ?_
 have hmf:=mk_full (zs:=[.int .i64 0]) (n:=(gL back).length) (b:=8) rfl rfl (by decide) (by rw[gL_len];omega)
 have cg:=cleanGL back;(repeat' ((conv=>whnf);first|refine U.ob_c hmf ?_|refine goA ?_|refine U.spineC_p ?_|refine goB ?_|refine U.lw_c ?_ ?_<;>intro hb))
 (conv=>whnf);refine loop_inv (α:=Nat) (fun k=>k≤back.length) (fun k=>(mkF [(0,imS (gL back)),(1,.int .i64 node),(4,.slice none 0 0),(5,.slice (some ⟨0,0,none⟩) (gL back).length (gL back).length),(15,.int .i64 (gL back).length),(16,.int .i64 k)],⟨mkO [(0,some (.cells 3 (iL (fillW back.length k)) false))],1,0,0⟩)) (fun k=>back.length-k) 0 zL (Cov.renI rfl rfl rfl rfl (.W rfl (cleanIl0 _) ((by rw[fillW,List.replicate_zero,List.nil_append,Nat.sub_zero,iL_zero,gL_len];rfl)) .nil) (.L rfl (cleanGL _) rfl (.cons rfl .I (.K rfl rfl rfl (.cons rfl (.S rfl rfl rfl) (.cons rfl .I (.cons rfl .I .nil))))))) ?_
 rintro k hk
 dsimp only;have hfl:=fillW_len hk;rcases Nat.lt_or_ge k back.length with hlt|hge
 ·have g0:decide ((k:Int)<((gL back).length:Int))=true:=by rw[gL_len];simp;omega
  have hkb:k.blt (gL back).length=true:=by rw[gL_len];exact bLe hlt
  have hst:∀v:Value,0+k*1+[v].length≤(iL (fillW back.length k)).length:=fun v=>by rw[iL_len,hfl,List.length_singleton];omega
  have es:=iL_store0 (L:=fillW back.length k) (i:=k) (x:=-1) (by omega)
  rw[fillW_step hlt] at es;have kw:=wadd1 (i:=k) (by omega)
  (repeat' ((conv=>whnf);first|refine goA ?_|refine U.storeC_p (hst _) ?_|refine goB ?_|refine U.lw_c ?_ ?_<;>intro hb))
  (conv=>whnf);refine ⟨k+1,hlt,by omega,?_⟩
  exact (Cov.renI rfl rfl rfl rfl (.W rfl (cleanIl0 _) (es.symm) .nil) (.L rfl (cleanGL _) rfl (.cons rfl .I (.K rfl rfl rfl (.cons rfl (.S rfl rfl rfl) (.cons rfl .I (.L rfl (cleanI _) (congrArg (Value.int .i64) (kw.symm)) .nil)))))))
 ·have hkn:k=back.length:=by omega
  subst hkn;have g0:decide ((back.length:Int)<((gL back).length:Int))=false:=by rw[gL_len];simp
  have hnb:node.blt (gL back).length=true:=by rw[gL_len];exact bLe hn
  have hst:∀v:Value,0+node*1+[v].length≤(iL (fillW back.length back.length)).length:=fun v=>by rw[iL_len,hfl,List.length_singleton];omega
  have es:=iL_store0 (L:=fillW back.length back.length) (i:=node) (x:=0) (by omega)
  replace es:=(congrArg (fun w=>iL (w.set node 0)) (fillW_full back.length).symm).trans es.symm
  (repeat' ((conv=>whnf);first|refine goA ?_|refine U.storeC_p (hst _) ?_|refine goB ?_|refine U.lw_c ?_ ?_<;>intro hb))
  (conv=>whnf);refine loop_inv (α:=List Nat×List Int×Nat×Bool) (fun x=>Bfs back node x.2.1 x.1 x.2.2.1 []) (fun x=>(mkF [(0,imS (gL back)),(4,.slice none 0 0),(5,.slice (some ⟨0,0,none⟩) (gL back).length (gL back).length),(7,.slice (some ⟨2,0,none⟩) x.1.length x.1.length),(8,.int .i64 x.2.2.1)],⟨mkO [(0,some (.cells 3 (iL x.2.1) false)),(2,some (.cells 3 (iL (nL x.1)) x.2.2.2))],3,0,0⟩)) (fun x=>back.length-x.2.2.1) ([node],(List.replicate back.length (-1)).set node 0,0,false) (bfs_init hn) (Cov.renO (fun k=>if k=2 then 1 else k) rfl rfl (bR rfl) zL (fun k hk=>by have:k<2:=hk;rw[if_neg (by omega)]) rfl nlz (.W rfl (cleanIl0 _) (es) (.W rfl (cleanIl0 _) rfl .nil)) (.L rfl (cleanGL _) rfl (.K rfl rfl rfl (.cons rfl (.S rfl rfl rfl) (.cons rfl (.S rfl rfl rfl) (.cons rfl .I .nil)))))) ?_
  rintro ⟨L,way,i,op⟩ hB
  dsimp only at hB;dsimp only;have hLn:L.length≤back.length:=nodup_len hB.nd hB.lt;have hLk:(nL L).length=L.length:=nL_len L;rcases Nat.lt_or_ge i L.length with hil|hil
  ·have g1:decide ((i:Int)<((L.length:Nat):Int))=true:=by simp;omega
   have hib:i.blt L.length=true:=bLe hil;obtain ⟨v,hv⟩:∃v,L[i]?=some v:=⟨L[i],by simp[hil]⟩
   have hvn:=hB.lt v (List.mem_of_getElem? hv);have hn1:=iL_nth0 (L:=nL L) (i:=i) (by omega)
   rw[gt0_nL hv] at hn1;obtain ⟨row,hrw⟩:∃row,back[v]?=some row:=⟨back[v],by simp[hvn]⟩
   have hrd:back.getD v []=row:=by simp[hrw]
   have hrm:=List.mem_of_getElem? hrw;have hrl:=hr row hrm;have hvb:v.blt (gL back).length=true:=by rw[gL_len];exact bLe hvn
   have hvx:nth (gL back) v=some (imS (iL row)):=by rw[nth_eq,gL];simp[hrw]
   have iw:=wadd1 (i:=i) (by omega)
   (repeat' ((conv=>whnf);first|refine goA ?_|(conv in (nth _ _)=>(change nth _ (0+i*1);rw[hn1]))|refine goB ?_|refine U.lw_c ?_ ?_<;>intro hb))
   (conv=>whnf);refine loop_inv (α:=List Nat×List Int×List Int×List Int×Bool) (fun y=>y.2.2.1++y.2.2.2.1=row∧Bfs back node y.2.1 y.1 i y.2.2.1∧y.1[i]?=some v) (fun y=>(mkF [(0,imS (gL back)),(4,.slice none 0 0),(5,.slice (some ⟨0,0,none⟩) (gL back).length (gL back).length),(7,.slice (some ⟨3,0,none⟩) y.1.length y.1.length),(8,.int .i64 i),(40,imS (iL row)),(41,.int .i64 (iL row).length),(42,.int .i64 y.2.2.1.length)],⟨mkO [(0,some (.cells 3 (iL y.2.1) false)),(3,some (.cells 3 (iL (nL y.1)) y.2.2.2.2))],4,0,0⟩)) (fun y=>y.2.2.2.1.length) (L,way,[],row,op) ⟨rfl,hB,hv⟩ (Cov.renO (fun k=>if k=3 then 2 else k) rfl rfl (bR rfl) zL (fun k hk=>by have:k<3:=hk;rw[if_neg (by omega)]) rfl nlz (.W rfl (cleanIl0 _) rfl (.W rfl (cleanIl0 _) rfl .nil)) (.L rfl (cleanGL _) rfl (.K rfl rfl rfl (.cons rfl (.S rfl rfl rfl) (.cons rfl (.S rfl rfl rfl) (.cons rfl .I (.L rfl (cleanIL _) rfl (.cons rfl .I (.cons rfl .I .nil))))))))) ?_
   rintro ⟨L2,way2,p,q,op2⟩ ⟨p1,hB2,hv2⟩
   dsimp only at p1 hB2 hv2;dsimp only;rcases q with _|⟨t,q⟩
   ·rw[List.append_nil] at p1;subst p1;have h4b:=U.lt_no iL_map p;(repeat' ((conv=>whnf);first|refine goD ?_|refine U.lw_c ?_ ?_<;>intro hb))
    (conv=>whnf);rw[← hrd] at hB2;refine ⟨(L2,way2,i+1,op2),hB2.next hv2,by dsimp only;omega,?_⟩
    exact (Cov.renO (fun k=>if k=2 then 3 else k) rfl rfl (bR rfl) zL (fun k hk=>by have:k<2:=hk;rw[if_neg (by omega)]) rfl nlz (.W rfl (cleanIl0 _) rfl (.W rfl (cleanIl0 _) rfl .nil)) (.L rfl (cleanGL _) rfl (.K rfl rfl rfl (.cons rfl (.S rfl rfl rfl) (.cons rfl (.S rfl rfl rfl) (.L rfl (cleanI _) (congrArg (Value.int .i64) (iw.symm)) .nil))))))
   ·have hrl2:=hrl;rw[← p1] at hrl2;obtain ⟨h4b,h4c,h4n,h4w⟩:=U.at4 iL_map p (t) q (hrl2);rw[p1] at h4b h4c h4n;obtain ⟨w,rfl,hw⟩:=hb row hrm t (by rw[← p1];simp)
    have hwb:w.blt (gL back).length=true:=by rw[gL_len];exact bLe hw
    have hn2:=iL_nth0 (L:=way2) (i:=w) (by rw[hB2.wl];exact hw)
    have hes:ES back v w:=by unfold ES;rw[hrd,← p1];simp
    rcases Int.lt_or_le (gt0 way2 w) 0 with hneg|hpos
    ·have g2:decide (gt0 way2 w<0)=true:=by simpa using hneg
     have hil2:=(List.getElem?_eq_some_iff.1 hv2).1;have hib2:i.blt L2.length=true:=bLe hil2;have hn3:=iL_nth0 (L:=nL L2) (i:=i) (by rw[nL_len];exact hil2)
     rw[gt0_nL hv2] at hn3;have hn4:=iL_nth0 (L:=way2) (i:=v) (by rw[hB2.wl];exact hvn)
     have hst:∀x:Value,0+w*1+[x].length≤(iL way2).length:=fun x=>by rw[iL_len,hB2.wl,List.length_singleton];omega
     have hL2n:L2.length≤back.length:=nodup_len hB2.nd hB2.lt;have hB3:=hB2.add hv2 hw hneg hes;have es:=iL_store0 (L:=way2) (i:=w) (x:=gt0 way2 v+1) (by rw[hB2.wl];exact hw)
     have hwv:IntKind.i64.wrap (gt0 way2 v+1)=gt0 way2 v+1:=by
      have h1:=hB2.bd v (List.mem_of_getElem? hv2);have h2:=(hB2.seen v hvn).2 (List.mem_of_getElem? hv2);rw[IntKind.wrap_i64];omega
     have hne:L2≠[]:=fun e=>by rw[e] at hil2;simp at hil2
     rcases L2 with _|⟨y,ys⟩
     ·exact absurd rfl hne
     have hyl:(iL (nL (y::ys))).length=(y::ys).length*(0+1):=by rw[iL_len,nL_len];simp
     have hys:ys.length+1≤29000:=by simp at hL2n;omega
     have hb7:(Nat.ble ((ys.length+1+(0+1))*8) 140737488355328&&Nat.ble (ys.length+1+(0+1)) 1000000)=true:=by
      rw[bLe (by omega),bLe (by omega)];rfl
     have hgr:iL (nL (y::ys++[w]))=iL (nL (y::ys))++[Value.int .i64 (w:Int)]:=by simp[iL,nL]
     (repeat' ((conv=>whnf);first|refine goA ?_|(conv in (nth _ _)=>(change nth _ (0+w*1);rw[hn2]))|(conv in (nth _ _)=>(change nth _ (0+i*1);rw[hn3]))|(conv in (nth _ _)=>(change nth _ (0+v*1);rw[hn4]))|refine U.storeC_p (hst _) ?_|refine U.ob_c hb7 ?_|(rw[ble_f];dsimp only;refine growRow_p hyl rfl ?_)|refine goB ?_|refine U.lw_c ?_ ?_<;>intro hb))
     rw[ble_f];dsimp only;cases op2
     ·dsimp only;rw[dropL_eq];refine takeA_p hyl ?_;refine U.catC_p ?_;(repeat' ((conv=>whnf);first|refine goD ?_|refine U.lw_c ?_ ?_<;>intro hb))
      (conv=>whnf);refine ⟨(y::ys++[w],way2.set w (gt0 way2 v+1),p++[(w:Int)],q,true),⟨by rw[← p1];simp,hB3,by dsimp only;rw[List.getElem?_append_left hil2];exact hv2⟩,by simp,?_⟩
      exact (Cov.renO (fun k=>if k=3 then 5 else k) rfl rfl (bR rfl) zL (fun k hk=>by have:k<3:=hk;rw[if_neg (by omega)]) rfl nlz (.W rfl (cleanIl0 _) ((by dsimp only;rw[hwv];exact es.symm)) (.W rfl (cleanIl0 _) (hgr) .nil)) (.L rfl (cleanGL _) rfl (.K rfl rfl rfl (.cons rfl (.S rfl rfl rfl) (.cons rfl (.sl _ _ _ _ _ _ _ (by decide) rfl ((by simp)) ((by simp))) (.cons rfl .I (.L rfl (cleanIL _) rfl (.cons rfl .I (.L rfl (cleanI _) (congrArg (Value.int .i64) (h4w.symm)) .nil)))))))))
     ·dsimp only;refine growRow_p hyl (lo:=0) (b:=3) rfl ?_;(repeat' ((conv=>whnf);first|refine goD ?_|refine U.lw_c ?_ ?_<;>intro hb))
      (conv=>whnf);refine ⟨(y::ys++[w],way2.set w (gt0 way2 v+1),p++[(w:Int)],q,true),⟨by rw[← p1];simp,hB3,by dsimp only;rw[List.getElem?_append_left hil2];exact hv2⟩,by simp,?_⟩
      exact (Cov.renO (fun k=>if k=3 then 5 else k) rfl rfl (bR rfl) zL (fun k hk=>by have:k<3:=hk;rw[if_neg (by omega)]) rfl nlz (.W rfl (cleanIl0 _) ((by dsimp only;rw[hwv];exact es.symm)) (.W rfl (cleanIl0 _) (hgr) .nil)) (.L rfl (cleanGL _) rfl (.K rfl rfl rfl (.cons rfl (.S rfl rfl rfl) (.cons rfl (.sl _ _ _ _ _ _ _ (by decide) rfl ((by simp)) ((by simp))) (.cons rfl .I (.L rfl (cleanIL _) rfl (.cons rfl .I (.L rfl (cleanI _) (congrArg (Value.int .i64) (h4w.symm)) .nil)))))))))
    ·have g2:decide (gt0 way2 w<0)=false:=by simpa using hpos
     (repeat' ((conv=>whnf);first|refine goA ?_|(conv in (nth _ _)=>(change nth _ (0+w*1);rw[hn2]))|refine goB ?_|refine U.lw_c ?_ ?_<;>intro hb))
     (conv=>whnf);refine ⟨(L2,way2,p++[(w:Int)],q,op2),⟨by rw[← p1];simp,hB2.skip hw hpos,hv2⟩,by simp,?_⟩
     exact (Cov.renI rfl rfl rfl rfl (.W rfl (cleanIl0 _) rfl (.W rfl (cleanIl0 _) rfl .nil)) (.L rfl (cleanGL _) rfl (.K rfl rfl rfl (.cons rfl (.S rfl rfl rfl) (.cons rfl (.S rfl rfl rfl) (.cons rfl .I (.L rfl (cleanIL _) rfl (.cons rfl .I (.L rfl (cleanI _) (congrArg (Value.int .i64) (h4w.symm)) .nil)))))))))
  ·have hie:i=L.length:=Nat.le_antisymm hB.il hil;subst hie;have g1:decide ((L.length:Int)<(L.length:Int))=false:=by simp
   (repeat' ((conv=>whnf);first|refine goD ?_|refine U.lw_c ?_ ?_<;>intro hb))
   (conv=>whnf);exact ⟨imS (iL way),⟨way,rfl,hB.fin⟩,.rowL (k:=0) (ys:=iL way) zL rfl (by rw[cellsI]) iL_1 (by rw[iL_len,hB.wl,gL_len]) rL (cleanIC _)⟩
inductive Rch (rows:List (List Int)) (u:Nat):Nat->Prop
 |refl:Rch rows u u
 |step {v w:Nat}(h:Rch rows u v) (e:ES rows v w):Rch rows u w
theorem Rch.trans {rows:List (List Int)}{u v w:Nat}(h1:Rch rows u v) (h2:Rch rows v w):Rch rows u w:=by
 induction h2 with
 |refl=>exact h1
 |step _ e ih=>exact .step ih e
def Mut (rows:List (List Int)) (u v:Nat):Prop:=Rch rows u v∧Rch rows v u
theorem Mut.refl {rows:List (List Int)}{u:Nat}:Mut rows u u:=⟨.refl,.refl⟩
theorem Mut.symm {rows:List (List Int)}{u v:Nat}(h:Mut rows u v):Mut rows v u:=⟨h.2,h.1⟩
theorem Mut.trans {rows:List (List Int)}{u v w:Nat}(h1:Mut rows u v) (h2:Mut rows v w):Mut rows u w:=⟨h1.1.trans h2.1,h2.2.trans h1.2⟩
structure Dfs (rows:List (List Int)) (sb:List Bool) (nx:List Int) (out path:List Nat):Prop where
 sl:sb.length=rows.length
 nl:nx.length=rows.length
 nd:(out++path).Nodup
 lt:∀u∈out++path,u<rows.length
 sn:∀u,u<rows.length->(sb.getD u false=true↔u∈out++path)
 nz:∀u,u∉out++path->gt0 nx u=0
 nb:∀u,u<rows.length->0≤gt0 nx u∧gt0 nx u≤(rows.getD u []).length
 fin:∀u∈out,∀w,ES rows u w->w∈out++path
 gr:∀u∈path,∀w:Nat,(w:Int)∈(rows.getD u []).take (gt0 nx u).toNat->w∈out++path
 ch:path.Pairwise fun a b=>Rch rows a b
 ld:∀u∈out,(∃x∈path,Mut rows u x)∨∃pre u' post,out=pre++u'::post∧Mut rows u u'∧∀v,Rch rows u v->v∈pre++[u']
theorem dfs_init (rows:List (List Int)):Dfs rows (List.replicate rows.length false) (List.replicate rows.length 0) [] []:=by
 refine ⟨by simp,by simp,by simp,by simp,fun u hu=>by simp[List.getElem?_replicate,hu],fun u _=>?_,fun u hu=>?_,by simp,by simp,.nil,by simp⟩
 ·simp only[gt0,List.getD_eq_getElem?_getD,List.getElem?_replicate];split<;>rfl
 ·have:gt0 (List.replicate rows.length 0) u=0:=by simp[gt0,List.getElem?_replicate,hu]
  rw[this];exact ⟨Int.le_refl _,by omega⟩
theorem getD_set_same {sb:List Bool}{w:Nat}(h:w<sb.length):(sb.set w true).getD w false=true:=by simp[h]
theorem getD_set_ne {sb:List Bool}{w u:Nat}(h:u≠w):(sb.set w true).getD u false=sb.getD u false:=by
 simp only[List.getD_eq_getElem?_getD];rw[List.getElem?_set_ne (fun e=>h e.symm)]
theorem Dfs.see {rows:List (List Int)}{sb:List Bool}{nx:List Int}{out path:List Nat}(h:Dfs rows sb nx out path) {w:Nat}(hw:w<rows.length) (hn:w∉out++path) (hr:∀a∈path,Rch rows a w):Dfs rows (sb.set w true) nx out (path++[w]):=by
 have hm:∀u,u∈out++path->u∈out++(path++[w]):=fun u hu=>by
  rw[← List.append_assoc];exact List.mem_append_left _ hu
 refine ⟨by rw[List.length_set];exact h.sl,h.nl,?_,?_,?_,?_,h.nb,?_,?_,?_,?_⟩
 ·rw[← List.append_assoc,List.nodup_append];exact ⟨h.nd,by simp,fun a ha b hb e=>by simp at hb;subst hb;subst e;exact hn ha⟩
 ·intro u hu;rw[← List.append_assoc] at hu;rcases List.mem_append.1 hu with hu|hu
  ·exact h.lt u hu
  ·have:u=w:=by simpa using hu
   omega
 ·intro u hu;by_cases huw:u=w
  ·subst huw;exact ⟨fun _=>by simp,fun _=>getD_set_same (by rw[h.sl];exact hw)⟩
  ·rw[getD_set_ne huw,h.sn u hu,← List.append_assoc,List.mem_append (t:=[w])];simp[huw]
 ·intro u hu;exact h.nz u fun hu'=>hu (hm u hu')
 ·intro u hu x hx;exact hm x (h.fin u hu x hx)
 ·intro u hu x hx;rcases List.mem_append.1 hu with hu|hu
  ·exact hm x (h.gr u hu x hx)
  ·have:u=w:=by simpa using hu
   subst this;rw[h.nz u hn] at hx;simp at hx
 ·rw[List.pairwise_append];exact ⟨h.ch,by simp,fun a ha b hb=>by simp at hb;subst hb;exact hr a ha⟩
 ·intro u hu;rcases h.ld u hu with ⟨x,hx,hux⟩|h2
  ·exact .inl ⟨x,List.mem_append_left _ hx,hux⟩
  ·exact .inr h2
theorem take_snoc {α:Type}{l:List α}{k:Nat}{x:α}(h:l[k]?=some x):l.take (k+1)=l.take k++[x]:=by
 rw[List.take_add_one,h];rfl
theorem Dfs.step {rows:List (List Int)}{sb:List Bool}{nx:List Int}{out path:List Nat}(h:Dfs rows sb nx out path) {t w:Nat}(ht:t∈path) (he:(rows.getD t [])[(gt0 nx t).toNat]?=some (w:Int)) (hw:w∈out++path):Dfs rows sb (nx.set t (gt0 nx t+1)) out path:=by
 have htl:=h.lt t (List.mem_append_right _ ht);have hs:gt0 (nx.set t (gt0 nx t+1)) t=gt0 nx t+1:=gt0_set_same (by rw[h.nl];exact htl)
 have ho:∀u,u≠t->gt0 (nx.set t (gt0 nx t+1)) u=gt0 nx u:=fun u hu=>gt0_set_ne hu
 have hk:=(List.getElem?_eq_some_iff.1 he).1;have hb:=h.nb t htl;refine { h with nl:=by rw[List.length_set];exact h.nl,nz:=fun u hu=>?_,nb:=fun u hu=>?_,gr:=fun u hu x hx=>?_ }
 ·have:u≠t:=fun e=>hu (e ▸ List.mem_append_right _ ht)
  rw[ho u this];exact h.nz u hu
 ·by_cases hut:u=t
  ·subst hut;rw[hs];omega
  ·rw[ho u hut];exact h.nb u hu
 ·by_cases hut:u=t
  ·subst hut;rw[hs,show (gt0 nx u+1).toNat=(gt0 nx u).toNat+1 by omega,take_snoc he] at hx;rcases List.mem_append.1 hx with hx|hx
   ·exact h.gr u hu x hx
   ·have:x=w:=Int.ofNat_inj.1 (by simpa using hx)
    subst this;exact hw
  ·rw[ho u hut] at hx;exact h.gr u hu x hx
theorem Dfs.pop {rows:List (List Int)}{sb:List Bool}{nx:List Int}{out q:List Nat}{t:Nat}(h:Dfs rows sb nx out (q++[t])) (he:gt0 nx t=(rows.getD t []).length):Dfs rows sb nx (out++[t]) q:=by
 have hm:∀u,u∈(out++[t])++q↔u∈out++(q++[t]):=fun u=>by
  simp only[List.mem_append,List.mem_singleton];constructor
  ·rintro ((h|h)|h)
   ·exact .inl h
   ·exact .inr (.inr h)
   ·exact .inr (.inl h)
  ·rintro (h|h|h)
   ·exact .inl (.inl h)
   ·exact .inr h
   ·exact .inl (.inr h)
 have hall:∀w,ES rows t w->w∈out++(q++[t]):=fun w hw=>h.gr t (by simp) w (by rw[he,Int.toNat_natCast,List.take_length];exact hw)
 have htn:t∉q:=fun hq=>by
  have:=(List.nodup_append.1 (List.nodup_append.1 h.nd).2.1).2.2 t hq t (by simp)
  exact this rfl
 refine ⟨h.sl,h.nl,?_,fun u hu=>h.lt u ((hm u).1 hu),fun u hu=>(h.sn u hu).trans (hm u).symm,fun u hu=>h.nz u fun hu'=>hu ((hm u).2 hu'),h.nb,?_,?_,?_,?_⟩
 ·have h1:=h.nd;have hp:(out++(q++[t])).Perm ((out++[t])++q):=by
   rw[List.append_assoc];exact List.Perm.append_left _ (List.perm_append_comm)
  exact hp.nodup_iff.1 h1
 ·intro u hu w hw;rw[hm];rcases List.mem_append.1 hu with hu|hu
  ·exact h.fin u hu w hw
  ·have:u=t:=by simpa using hu
   subst this;exact hall w hw
 ·intro u hu w hw;rw[hm];exact h.gr u (List.mem_append_left _ hu) w hw
 ·exact (List.pairwise_append.1 h.ch).1
 ·-- who leads
  have key:∀u,Mut rows u t->(∃x∈q,Mut rows u x)∨∃pre u' post,out++[t]=pre++u'::post∧Mut rows u u'∧∀v,Rch rows u v->v∈pre++[u']:=fun u hut=>by
   by_cases hx:∃x∈q,Mut rows t x
   ·obtain ⟨x,hxq,htx⟩:=hx;exact .inl ⟨x,hxq,hut.trans htx⟩
   ·refine .inr ⟨out,t,[],rfl,hut,fun v hv=>?_⟩
    have hv2:Rch rows t v:=hut.2.trans hv;clear hv hut;induction hv2 with
    |refl=>simp
    |@step z y hz e ih =>
     have hy:y∈out++(q++[t]):=by
      rcases List.mem_append.1 ih with hzo|hzt
      ·exact h.fin z hzo y e
      ·have:z=t:=by simpa using hzt
       subst this;exact hall y e
     rcases List.mem_append.1 hy with hy|hy
     ·exact List.mem_append_left _ hy
     ·rcases List.mem_append.1 hy with hyq|hyt
      ·exact absurd ⟨y,hyq,hz.step e,(List.pairwise_append.1 h.ch).2.2 y hyq t (by simp)⟩ hx
      ·exact List.mem_append_right _ hyt
  intro u hu;rcases List.mem_append.1 hu with hu|hu
  ·rcases h.ld u hu with ⟨x,hx,hux⟩|⟨pre,u',post,e,h1,h2⟩
   ·rcases List.mem_append.1 hx with hx|hx
    ·exact .inl ⟨x,hx,hux⟩
    ·have:x=t:=by simpa using hx
     subst this;exact key u hux
   ·exact .inr ⟨pre,u',post++[t],by rw[e];simp,h1,h2⟩
  ·have:u=t:=by simpa using hu
   subst this;exact key u .refl
structure FinOk (rows:List (List Int)) (out:List Nat):Prop where
 nd:out.Nodup
 lt:∀u∈out,u<rows.length
 all:∀u,u<rows.length->u∈out
 ld:∀u∈out,∃pre u' post,out=pre++u'::post∧Mut rows u u'∧∀v,Rch rows u v->v∈pre++[u']
theorem Dfs.done {rows:List (List Int)}{sb:List Bool}{nx:List Int}{out:List Nat}(h:Dfs rows sb nx out []) (ha:∀u,u<rows.length->sb.getD u false=true):FinOk rows out:=by
 refine ⟨by simpa using h.nd,fun u hu=>h.lt u (by simpa using hu),fun u hu=>by simpa using (h.sn u hu).1 (ha u hu),fun u hu=>?_⟩
 rcases h.ld u hu with ⟨x,hx,_⟩|h
 ·cases hx
 ·exact h
end Go.Proofs.YtcihknonfcldeaaDoor
