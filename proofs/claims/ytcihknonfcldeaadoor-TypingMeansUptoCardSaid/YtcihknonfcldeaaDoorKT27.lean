
import Derived.Test.YtcihknonfcldeaaDoorKT26
namespace Go.Proofs.YtcihknonfcldeaaDoor
open Go Go.RowKit Go.Sort U
set_option linter.unusedVariables false
set_option linter.unusedSimpArgs false
set_option maxRecDepth 100000
set_option maxHeartbeats 40000000
theorem range_len:∀{n:Nat}{l:List Nat},l.Nodup->(∀i,i<n->i∈l)->n≤l.length
 |0,l,_,_=>Nat.zero_le _
 |n+1,l,hn,h=>by
  have hm:=h n (Nat.lt_succ_self _);have h2:=range_len (n:=n) (hn.erase n) fun i hi=>(hn.mem_erase_iff).2 ⟨by omega,h i (by omega)⟩
  rw[List.length_erase_of_mem hm] at h2;have:=List.length_pos_of_mem hm;omega
theorem row2_e2L (x:List Nat) (m:List ((Int×Int)×Int)):row2 (x.map (keyAt m)) (m.length-x.length)=(x.map (keyAt m)).flatMap e2L++repX (m.length-x.length) [.int .i64 0,.int .i64 0]:=rfl
theorem e2L_clean (l:List (Int×Int)) (k:Nat):∀v∈l.flatMap e2L++repX k [.int .i64 0,.int .i64 0],NoNm v:=row2_clean l k
theorem e2L_drop (p q:List (Int×Int)) (e:Int×Int) (tl:List Value):∃r,dropL ((p++e::q).flatMap e2L++tl) (0+p.length*2)=.int .i64 e.1::.int .i64 e.2::r:=by
 have hl:(p.flatMap e2L).length=p.length*2:=fm_len (k:=2) (fun _=>rfl) p
 refine ⟨q.flatMap e2L++tl,?_⟩;rw[dropL_eq,Nat.zero_add,List.flatMap_append,List.append_assoc,← hl,List.drop_left,List.flatMap_cons];rfl
def rowOf (p:List (Int×Int)) (i:Nat):List Int:=(p.filter fun e=>e.1==(i:Int)).map (·.2)
def lastOf (p:List (Int×Int)):Option Nat:=p.getLast?.map fun e=>e.1.toNat
def cellR (b:Nat) (p:List (Int×Int)) (i:Nat):Value:=if lastOf p=some i then rowS b (iL (rowOf p i)) else match rowOf p i with
 |[]=>.slice none 0 0
 |a::r=>imS (iL (a::r))
def cellsR (b n:Nat) (p:List (Int×Int)):List Value:=(List.range n).map (cellR b p)
def curR (p:List (Int×Int)):List Int:=match lastOf p with
 |none=>[]
 |some i=>rowOf p i
theorem repX_one (v:Value):∀n,repX n [v]=List.replicate n v
 |0=>rfl
 |n+1=>by rw[repX,repX_one v n];rfl
theorem cellsR_nil (b n:Nat):cellsR b n []=repX n [.slice none 0 0]:=by
 rw[repX_one,cellsR];have:cellR b []=fun _=>Value.slice none 0 0:=funext fun i=>rfl
 rw[this];exact List.ext_getElem (by simp) fun i h1 h2=>by simp
theorem cellsR_start (b:Nat) (l:List (List Int)):cellsR b l.length []=repX ((((gL l).length:Nat):Int).toNat) [.slice none 0 0]:=by
 rw[gL_len,cellsR_nil];rfl
theorem cellsR_nil_clean (b n:Nat):∀v∈cellsR b n [],NoNm v:=fun v hv=>by
 rw[cellsR_nil,repX_one] at hv;rw[(List.mem_replicate.1 hv).2];exact .flat _ rfl
theorem edges_in {m:List ((Int×Int)×Int)}{rows:List (List Int)}(hI:EdgesI m rows) {x:List Nat}(hx:∀i∈x,i<m.length) {E:List (Int×Int)}(hE:sortE (x.map (keyAt m))=E) (e:Int×Int) (he:e∈E):∃j:Nat,e.1=(j:Int)∧j<rows.length:=by
 rw[← hE,sortE,List.mem_mergeSort] at he;obtain ⟨i,hi,rfl⟩:=List.mem_map.1 he;obtain ⟨c,hc⟩:=keyAt_at (hx i hi);obtain ⟨k,r,h1,h2,_⟩:=(hI.iff (keyAt m i)).1 (List.mem_map.2 ⟨_,List.mem_of_getElem? hc,rfl⟩)
 exact ⟨k,h2,(List.getElem?_eq_some_iff.1 h1).1⟩
theorem rowOf_last {p:List (Int×Int)}{i:Nat}(h:lastOf p=some i) (hp:∀e∈p,0≤e.1:=by intro e he;omega):∃y ys,rowOf p i=y::ys:=by
 unfold lastOf at h;rw[Option.map_eq_some_iff] at h;obtain ⟨e,h1,h2⟩:=h;have hm:e∈p:=List.mem_of_getLast? h1;have h3:e.2∈rowOf p i:=by
  refine List.mem_map.2 ⟨e,List.mem_filter.2 ⟨hm,?_⟩,rfl⟩;have:=hp e hm;simp;omega
 rcases hr:rowOf p i with _|⟨y,ys⟩
 ·rw[hr] at h3;cases h3
 ·exact ⟨y,ys,rfl⟩
theorem cellsR_nth {b n j:Nat}{p:List (Int×Int)}(hj:j<n):nth (cellsR b n p) (0+j*1)=some (cellR b p j):=by
 rw[Nat.zero_add,Nat.mul_one,nth_eq];simp[cellsR,hj]
theorem RenL.of_at {n:Nat}{ρ:U.Ren}:∀{l m:List Value},l.length=m.length->(∀(i:Nat) (a b:Value),l[i]?=some a->m[i]?=some b->U.RenV n ρ a b)->U.RenL n ρ l m
 |[],[],_,_=>trivial
 |a::l,[],h,_=>by simp at h
 |[],b::m,h,_=>by simp at h
 |a::l,b::m,h,k=>⟨k 0 a b rfl rfl,RenL.of_at (by simpa using h) fun i x y hx hy=>k (i+1) x y (by simpa using hx) (by simpa using hy)⟩
theorem RenL.maps {n:Nat}{ρ:U.Ren}{f g:Nat->Value}(l:List Nat) (h:∀i∈l,U.RenV n ρ (f i) (g i)):U.RenL n ρ (l.map f) (l.map g):=RenL.of_at (by simp) fun i a b ha hb=>by
 rw[List.getElem?_map,Option.map_eq_some_iff] at ha hb;obtain ⟨x,h1,rfl⟩:=ha;obtain ⟨y,h2,rfl⟩:=hb;rw[h1] at h2;cases h2
 exact h x (List.mem_of_getElem? h1)
theorem storeMap {n j:Nat}{f:Nat->Value}{v:Value}(hj:j<n):((List.range n).map f).take j++[v]++((List.range n).map f).drop (j+1)=(List.range n).map (fun k=>if k=j then v else f k):=by
 apply List.ext_getElem?;intro k;have hl:(((List.range n).map f).take j).length=j:=by simp;omega
 rw[List.append_assoc];rcases Nat.lt_trichotomy k j with h|h|h
 ·rw[List.getElem?_append_left (by rw[hl];exact h),List.getElem?_take_of_lt h]
  have h1:k<n:=by omega
  have h2:k≠j:=by omega
  simp[h1,h2]
 ·subst h;rw[List.getElem?_append_right (by rw[hl];omega),hl]
  simp[hj]
 ·rw[List.getElem?_append_right (by rw[hl];omega),hl,List.getElem?_append_right (by simp;omega),List.getElem?_drop]
  have h2:k≠j:=by omega
  have h3:j+1+(k-j-[v].length)=k:=by simp;omega
  rw[h3];by_cases h1:k<n
  ·simp[h1,h2]
  ·simp[h1]
theorem rowOf_snoc (p:List (Int×Int)) (e:Int×Int) (i:Nat):rowOf (p++[e]) i=rowOf p i++(if e.1=(i:Int) then [e.2] else []):=by
 unfold rowOf;rw[List.filter_append,List.map_append];congr 1
 by_cases h:e.1=(i:Int)<;>simp[h]
theorem lastOf_snoc (p:List (Int×Int)) (j:Nat) (b:Int):lastOf (p++[((j:Int),b)])=some j:=by simp[lastOf]
theorem cellR_ren {n:Nat}{ρ:U.Ren}{b c:Nat}{p:List (Int×Int)}{k:Nat}(h:b<n) (e:ρ b=c):U.RenV n ρ (cellR b p k) (cellR c p k):=by
 unfold cellR;split
 ·exact .ofRow h e rfl
 ·split
  ·exact .F rfl rfl
  ·exact .clean _ _ (cleanIL _) rfl
theorem rowOf_len (p:List (Int×Int)) (i:Nat):(rowOf p i).length≤p.length:=by
 rw[rowOf,List.length_map];exact List.length_filter_le ..
def frzR (p:List (Int×Int)) (i:Nat):Value:=match rowOf p i with
 |[]=>.slice none 0 0
 |a::r=>imS (iL (a::r))
theorem cellR_frz {b i:Nat}{p:List (Int×Int)}(h:lastOf p≠some i):cellR b p i=frzR p i:=by
 unfold cellR frzR;rw[if_neg h]
theorem frzR_clean (p:List (Int×Int)) (i:Nat):NoNm (frzR p i):=by
 unfold frzR;split
 ·exact .flat _ rfl
 ·exact cleanIL _
theorem frzR_ren {n:Nat}{ρ:U.Ren}(p:List (Int×Int)) (i:Nat):U.RenV n ρ (frzR p i) (frzR p i):=.clean _ _ (frzR_clean p i) rfl
theorem cells_step {nn n nb c j:Nat}{ρ:U.Ren}{p:List (Int×Int)}{b:Int}{v:Value}(hj:j<n) (hv:U.RenV nn ρ (rowS nb (iL (rowOf p j++[b]))) v) (ho:∀k,k≠j->U.RenV nn ρ (frzR p k) (cellR c p k)) :
  U.RenL nn ρ (cellsR nb n (p++[((j:Int),b)])) ((cellsR c n p).take (0+j*1)++[v]++(cellsR c n p).drop (0+j*1+[v].length)):=by
 rw[Nat.zero_add,Nat.mul_one,cellsR,cellsR,List.length_singleton,storeMap hj];refine RenL.maps _ fun k _=>?_
 by_cases hk:k=j
 ·subst hk;rw[if_pos rfl];unfold cellR;rw[if_pos (lastOf_snoc p k b),rowOf_snoc,if_pos rfl];exact hv
 ·rw[if_neg hk,cellR_frz (by rw[lastOf_snoc];intro e;cases e;exact hk rfl)]
  have:rowOf (p++[((j:Int),b)]) k=rowOf p k:=by
   rw[rowOf_snoc,if_neg (by simp;omega),List.append_nil]
  unfold frzR;rw[this];exact ho k hk
theorem sortE_sorted (l:List (Int×Int)):(sortE l).Pairwise fun a b=>a.1≤b.1:=by
 have h:=List.pairwise_mergeSort (le:=fun x y=>!(ltOf cmpE) y x) (fun a b c h1 h2=>by
  rw[cmpE_lt] at *;simp at *;omega) (fun a b=>by
  rw[cmpE_lt,cmpE_lt];simp;omega) l
 refine h.imp fun {a b} h=>?_
 rw[cmpE_lt] at h;simp at h
 omega
theorem rowOf_new {p q:List (Int×Int)}{j:Nat}{b:Int}(h:(p++((j:Int),b)::q).Pairwise fun a b=>a.1≤b.1) (hl:¬lastOf p=some j) (hp:∀e∈p,0≤e.1):rowOf p j=[]:=by
 unfold rowOf;rw[List.map_eq_nil_iff,List.filter_eq_nil_iff];intro e he hj;simp at hj
 obtain ⟨h1,_,h2⟩:=List.pairwise_append.1 h;rcases List.eq_nil_or_concat p with rfl|⟨p',l,rfl⟩
 ·cases he
 ·have h3:=h2 l (by simp) ((j:Int),b) (by simp)
  have h4:e.1≤l.1:=by
   rw[List.concat_eq_append] at he h1;rcases List.mem_append.1 he with h5|h5
   ·exact (List.pairwise_append.1 h1).2.2 e h5 l (by simp)
   ·simp at h5;rw[h5];exact Int.le_refl _
  refine hl ?_;simp[lastOf];simp at h3
  omega
theorem frz_cell {n:Nat}{ρ:Nat->Nat}{p:List (Int×Int)}(k:Nat):U.RenV n ⟨ρ,fun u1 u=>u1=imS (iL (curR p))∧u=rowS 5 (iL (curR p))⟩ (frzR p k) (cellR 5 p k):=by
 by_cases h:lastOf p=some k
 ·have hc:curR p=rowOf p k:=by simp[curR,h]
  rcases hr:rowOf p k with _|⟨a,r⟩
  ·have e1:frzR p k=.slice none 0 0:=by simp[frzR,hr]
   have e2:cellR 5 p k=.slice none 0 0:=by simp[cellR,h,hr];rfl
   rw[e1,e2];exact .F rfl rfl
  ·have e1:frzR p k=imS (iL (a::r)):=by simp[frzR,hr]
   have e2:cellR 5 p k=rowS 5 (iL (a::r)):=by simp[cellR,h,hr]
   rw[e1,e2];exact .ext _ _ ⟨by rw[hc,hr],by rw[hc,hr]⟩
 ·rw[cellR_frz h];exact frzR_ren p k
def rowR (n:Nat) (r:List Int):List Int:=((List.range n).filter fun (t:Nat)=>decide ((t:Int)∈r)).map fun (t:Nat)=>(t:Int)
def calleesR (g:Gz):List (List Int):=g.st.map (rowR g.nm.length)
theorem eq_of_lt:∀{l m:List Int},l.Pairwise (·<·)->m.Pairwise (·<·)->(∀x,x∈l↔x∈m)->l=m
 |[],[],_,_,_=>rfl
 |[],b::m,_,_,h=>by have:=(h b).2 (by simp);cases this
 |a::l,[],_,_,h=>by have:=(h a).1 (by simp);cases this
 |a::l,b::m,h1,h2,h=>by
  obtain ⟨p1,p2⟩:=List.pairwise_cons.1 h1;obtain ⟨q1,q2⟩:=List.pairwise_cons.1 h2;have e:a=b:=by
   rcases List.mem_cons.1 ((h a).1 (by simp)) with h3|h3
   ·exact h3
   ·rcases List.mem_cons.1 ((h b).2 (by simp)) with h4|h4
    ·exact h4.symm
    ·have:=p1 b h4;have:=q1 a h3;omega
  subst e;rw[eq_of_lt p2 q2 fun x=>?_];have hx:=h x;simp only[List.mem_cons] at hx;constructor
  ·intro hl;have:=p1 x hl;rcases hx.1 (.inr hl) with h3|h3
   ·omega
   ·exact h3
  ·intro hl;have:=q1 x hl;rcases hx.2 (.inr hl) with h3|h3
   ·omega
   ·exact h3
theorem sortE_lt {l:List (Int×Int)}(h:l.Nodup):(sortE l).Pairwise fun a b=>a.1<b.1∨(a.1=b.1∧a.2<b.2):=by
 have h1:=List.pairwise_mergeSort (le:=fun x y=>!(ltOf cmpE) y x) (fun a b c h1 h2=>by
  rw[cmpE_lt] at *;simp at *;omega) (fun a b=>by
  rw[cmpE_lt,cmpE_lt];simp;omega) l
 have h2:(sortE l).Nodup:=(List.mergeSort_perm l _).nodup_iff.2 h;refine (h1.and h2).imp fun {a b} ⟨h3,h4⟩=>?_
 rw[cmpE_lt] at h3;obtain ⟨a1,a2⟩:=a;obtain ⟨b1,b2⟩:=b;simp at h3 h4 ⊢
 omega
theorem rows_law {m:List ((Int×Int)×Int)}{nm:List ByteArray}{rows:List (List Int)}(hI:EdgesI m rows) {x:List Nat}(i1:x.Nodup) (i2:∀i∈x,i<m.length) (hall:∀i,i<m.length->i∈x) {E:List (Int×Int)}(hE:sortE (x.map (keyAt m))=E) (hr:rightG ⟨nm,rows⟩=true):(List.range rows.length).map (rowOf E)=calleesR ⟨nm,rows⟩:=by
 have hkey:∀i,(h:i<m.length)->keyAt m i=(m.map (·.1))[i]'(by simpa using h):=fun i h=>by simp[keyAt,h]
 have hnd:(x.map (keyAt m)).Nodup:=by
  refine List.Pairwise.map (R:=fun a b=>a≠b∧a∈x∧b∈x) _ ?_ ?_
  ·rintro a b ⟨h1,h2,h3⟩ h4
   rw[hkey a (i2 a h2),hkey b (i2 b h3)] at h4;rcases Nat.lt_or_gt_of_ne h1 with h5|h5
   ·exact List.pairwise_iff_getElem.1 hI.nd a b (by simpa using i2 a h2) (by simpa using i2 b h3) h5 h4
   ·exact List.pairwise_iff_getElem.1 hI.nd b a (by simpa using i2 b h3) (by simpa using i2 a h2) h5 h4.symm
  ·exact List.Pairwise.imp_of_mem (fun h1 h2 h=>⟨h,h1,h2⟩) i1
 have hmem:∀e,e∈E↔edgeIn rows e:=fun e=>by
  rw[← hE,sortE,List.mem_mergeSort,← hI.iff e];constructor
  ·intro h;obtain ⟨i,hi,rfl⟩:=List.mem_map.1 h;rw[hkey i (i2 i hi)];exact List.getElem_mem _
  ·intro h;obtain ⟨i,hi,he⟩:=List.getElem_of_mem h;have hi':i<m.length:=by simpa using hi
   exact List.mem_map.2 ⟨i,hall i hi',by rw[hkey i hi',he]⟩
 have hlt:=sortE_lt hnd;rw[hE] at hlt;simp only[rightG,Bool.and_eq_true,List.all_eq_true,okT,decide_eq_true_eq] at hr;apply List.ext_getElem (by simp[calleesR])
 intro k h1 h2;have hk:k<rows.length:=by simpa using h1
 simp only[calleesR,List.getElem_map,List.getElem_range];refine eq_of_lt ?_ ?_ fun t=>?_
 ·refine List.Pairwise.map (R:=fun (a b:Int×Int)=>a.1=b.1∧a.2<b.2) _ (fun a b h=>h.2) ?_
  refine (List.Pairwise.and_mem.1 (hlt.filter _)).imp fun {a b} ⟨ha,hb,h⟩=>?_
  have ha:=(List.mem_filter.1 ha).2;have hb:=(List.mem_filter.1 hb).2;simp at ha hb
  omega
 ·refine List.Pairwise.map (R:=fun (a b:Nat)=>a<b) _ (fun a b h=>by omega) ?_
  exact List.pairwise_lt_range.filter _
 ·have hrow:t∈rowOf E k↔edgeIn rows ((k:Int),t):=by
   rw[← hmem];simp[rowOf]
  rw[hrow];simp only[rowR,List.mem_map,List.mem_filter,List.mem_range,decide_eq_true_eq];constructor
  ·rintro ⟨i,r,e1,e2,e3⟩
   have:i=k:=by simp at e2;omega
   subst this;rw[List.getElem?_eq_getElem hk] at e1;cases e1;obtain ⟨b1,b2⟩:=hr.2 _ (List.getElem_mem hk) t e3;refine ⟨t.toNat,⟨by omega,?_⟩,by omega⟩
   rw[Int.toNat_of_nonneg b1];exact e3
  ·rintro ⟨i,⟨_,e2⟩,rfl⟩
   exact ⟨k,rows[k],List.getElem?_eq_getElem hk,rfl,e2⟩
theorem callees_d (g:Gz) (hg:okG g) (hr:rightG g=true) (hst:g.st.length≤500000) (hs:sumL g.st≤500000):DenU Tryd.prog [] 25 [encG g] (imS (gL (calleesR g))):=by
 refine denU_of_sound hmixU fun Ts=>SoundAt.body hmixU Tryd.func25 rfl rfl rfl 0 ?_
 obtain ⟨nm,st⟩:=g;obtain ⟨g1,g2,g3⟩:=hg;dsimp only at g1 g2 g3 hst;(repeat' ((conv=>whnf);first|refine goD ?_|refine U.lw_c ?_ ?_<;>intro hb))
 (conv=>whnf);refine loop_inv (α:=List (List Int)×List (List Int)×List ((Int×Int)×Int)) (fun x=>x.1++x.2.1=st∧EdgesI x.2.2 x.1) (fun x=>(mkF [(1,.pointer (some ⟨0,0,none⟩)),(2,.slice none 0 0),(3,.map (some 1)),(15,imS (gL st)),(16,.int .i64 (gL st).length),(17,.int .i64 x.1.length)],⟨mkO [(0,some (.cells 48 [imS (sL nm),imS (gL st)] false)),(1,some (mEd x.2.2))],2,0,0⟩)) (fun x=>x.2.1.length) ([],st,[]) ⟨rfl,⟨.nil,fun e=>by simp[edgeIn],Nat.le_refl _⟩⟩ (Cov.renO (fun k=>k) rfl rfl (Nat.le_refl 2) zL (fun _ _=>rfl) rfl nlz (.W rfl (cleanG_cells ⟨nm,st⟩) rfl (.cons rfl (.map _ _ _ (by intro e he;cases he)) .nil)) (.cons rfl (.P rfl) (.K rfl rfl rfl (.cons rfl (.mp _ _ (by decide) rfl) (.L rfl (cleanGL _) rfl (.cons rfl .I (.cons rfl .I .nil))))))) ?_
 rintro ⟨pre,rest,m⟩ ⟨p1,hI⟩
 dsimp only at p1 hI;subst p1;dsimp only;rcases rest with _|⟨x,rest⟩
 ·rw[List.append_nil] at *;have h3b:=U.lt_no gL_map pre;have hlen:m.length≤500000:=Nat.le_trans hI.len hs;have hmk:=mk_cap (zs:=[.int .i64 0,.int .i64 0]) (n:=(mE eK (Value.int .i64) m).length) (b:=16) rfl rfl (by decide) (by rw[mE_len];exact hlen)
  (repeat' ((conv=>whnf);first|refine U.ob_c hmk ?_|refine goA ?_|refine U.spineC_p ?_|refine goB ?_|refine U.lw_c ?_ ?_<;>intro hb))
  (conv=>whnf);refine loop_inv (α:=List Nat) (fun x=>x.Nodup∧∀i∈x,i<m.length) (fun x=>(mkF [(1,.pointer (some ⟨0,0,none⟩)),(2,.slice none 0 0),(3,.map (some 1)),(8,.slice (some ⟨2,0,none⟩) x.length m.length),(42,.pointer (some ⟨3,0,none⟩))],⟨mkO [(0,some (.cells 48 [imS (sL nm),imS (gL pre)] false)),(1,some (mEd m)),(2,some (.cells 107 (row2 (x.map (keyAt m)) (m.length-x.length)) false)),(3,some (.iter 1 m.length x m.length))],4,0,0⟩)) (fun x=>m.length-x.length) [] ⟨.nil,fun i hi=>by cases hi⟩ (Cov.renO (fun k=>k) rfl rfl (Nat.le_refl 4) zL (fun _ _=>rfl) rfl nlz (.W rfl (cleanG_cells ⟨nm,_⟩) rfl (.cons rfl (.map _ _ _ (mE_noNm cleanI _)) (.W rfl (row2_clean _ _) (row2_nil m) (.cons rfl (.iter _ _ _ _ _ (by decide) rfl) .nil)))) (.cons rfl (.P rfl) (.K rfl rfl rfl (.cons rfl (.mp _ _ (by decide) rfl) (.cons rfl (.sl _ _ _ _ _ _ _ (by decide) rfl rfl (by simp[mE_len])) (.cons rfl (.P rfl) .nil)))))) ?_
  rintro x ⟨i1,i2⟩
  have hb:(bornB m.length m.length (List.range m.length)&&Nat.ble 0 3)=true:=by rw[bornB_range];rfl
  (repeat' ((conv=>whnf);first|refine goA ?_|refine U.ob_c hb ?_|refine goB ?_|refine U.lw_c ?_ ?_<;>intro hb))
  (conv=>whnf);generalize hL:leftI x (List.range m.length) 0=L
  rcases L with _|⟨i0,L⟩
  ·have hall:=left_nil hL;have hxm:x.length=m.length:=by
    have h1:=nodup_len i1 i2;have h2:m.length≤x.length:=range_len i1 hall;omega
   have hro:=row2_e2L x m;have hmf:=mk_full (zs:=[.slice none 0 0]) (n:=(gL pre).length) (b:=24) rfl rfl (by decide) (by rw[gL_len];exact hst)
   (repeat' ((conv=>whnf);first|refine U.ob_c hmf ?_|refine goA ?_|refine sort_s (es:=x.map (keyAt m)) (tl:=repX (m.length-x.length) [.int .i64 0,.int .i64 0]) rfl zL (List.length_map ..) (by omega) ?_|refine U.spineC_p ?_|refine goB ?_|refine U.lw_c ?_ ?_<;>intro hb))
   (conv=>whnf);generalize hE:sortE (x.map (keyAt m))=E
   have hEl:E.length=x.length:=by rw[← hE];simp[sortE]
   refine loop_sem (α:=List (Int×Int)×List (Int×Int)) (fun y=>y.1++y.2=E) (fun y=>(mkF [(2,.slice none 0 0),(10,.slice (some ⟨4,0,none⟩) (gL pre).length (gL pre).length),(57,.slice (some ⟨2,0,none⟩) x.length m.length),(58,.int .i64 x.length),(59,.int .i64 y.1.length)],⟨mkO [(2,some (.cells 107 (E.flatMap e2L++repX (m.length-x.length) [.int .i64 0,.int .i64 0]) false)),(4,some (.cells 36 (cellsR 5 pre.length y.1) false)),(5,rowO 3 (iL (curR y.1)))],6,0,0⟩)) (fun y=>y.2.length) ([],E) rfl (Cov.renI rfl rfl rfl rfl (.W rfl (e2L_clean _ _) rfl (.W rfl (cellsR_nil_clean _ _) (cellsR_start _ pre) (.none .nil))) (.K rfl rfl rfl (.cons rfl (.sl _ _ _ _ _ _ _ (by decide) rfl rfl rfl) (.cons rfl (.sl _ _ _ _ _ _ _ (by decide) rfl rfl rfl) (.cons rfl .I (.cons rfl .I .nil)))))) ?_
   rintro ⟨p,q⟩ p3
   dsimp only at p3;subst p3;dsimp only;rcases q with _|⟨⟨a,b⟩,q⟩
   ·rw[List.append_nil] at *;have hb4:decide ((p.length:Int)<(x.length:Int))=false:=by rw[← hEl];simp
    refine CodeS.run hmixU 0 zL ?_;(repeat' ((conv=>whnf);first|refine goD ?_|refine U.lw_c ?_ ?_<;>intro hb))
    (conv=>whnf);have hrows:(List.range pre.length).map (rowOf p)=calleesR ⟨nm,pre⟩:=rows_law hI i1 i2 hall hE hr;refine FrzV.row 4 _ _ 1 36 (cellsR 5 pre.length p) (gL (calleesR ⟨nm,pre⟩)) false zL rfl gL_1 (by rw[gL_len,gL_len,← hrows];simp) rL (by rw[cellsG,gL_len,← hrows];simp[cellsR]) fun i u v hu hv=>?_
    rw[cellsG,← hrows,gL_map,List.map_map,List.getElem?_map,Option.map_eq_some_iff] at hv;rw[cellsR,List.getElem?_map,Option.map_eq_some_iff] at hu;obtain ⟨k,hk1,rfl⟩:=hv;obtain ⟨k',hk2,rfl⟩:=hu;rw[hk1] at hk2
    cases hk2;show FrzV _ _ (cellR 5 p k) (imS (iL (rowOf p k)))
    by_cases hla:lastOf p=some k
    ·have hc:curR p=rowOf p k:=by simp[curR,hla]
     have e2:cellR 5 p k=rowS 5 (iL (rowOf p k)):=by simp[cellR,hla]
     rw[e2];exact .ofRow (T:=3) zL (by rw[← hc];rfl) iL_1 (cleanIC _)
    ·rw[cellR_frz hla];unfold frzR;split
     ·rename_i h0;rw[h0];exact .nil
     ·rename_i h0;rw[h0];exact .clean _ (cleanIL _)
   ·have hlt:p.length<x.length:=by rw[← hEl];simp
    have hb4:decide ((p.length:Int)<(x.length:Int))=true:=by simp;exact hlt
    have hc4:p.length.blt x.length=true:=bLe hlt;have hw4:IntKind.i64.wrap ((p.length:Int)+1)=((p++[(a,b)]).length:Int):=by rw[wadd1 (by omega)];simp
    obtain ⟨tlx,hd4⟩:=e2L_drop p q (a,b) (repX (m.length-x.length) [.int .i64 0,.int .i64 0]);obtain ⟨j,rfl,hj⟩:=edges_in hI i2 hE (a,b) (by simp)
    have hcj:j.blt (gL pre).length=true:=by rw[gL_len];exact bLe hj
    by_cases hla:lastOf p=some j
    ·have hla0:=hla;obtain ⟨y,ys,hrow⟩:=rowOf_last hla (fun e he=>by obtain ⟨k,h1,_⟩:=edges_in hI i2 hE e (by simp[he]);omega)
     have hcur:curR p=y::ys:=by simp[curR,hla,hrow]
     have hcell:cellR 5 p j=.slice (some ⟨5,0,none⟩) ((iL ys).length+1) ((iL ys).length+1):=by simp[cellR,hla,hrow];rfl
     have hyl:ys.length+1≤500000:=by
      have h1:=rowOf_len p j;rw[hrow] at h1;simp at h1
      have h2:x.length≤500000:=by omega
      omega
     have hb7:(Nat.ble (((iL ys).length+1+(0+1))*8) 140737488355328&&Nat.ble ((iL ys).length+1+(0+1)) 1000000)=true:=by
      rw[iL_len,bLe (by omega),bLe (by omega)];rfl
     have hap:(Nat.beq 5 5&&Nat.beq 3 3&&Nat.beq 0 0&&Nat.beq ((iL ys).length+1) ((iL ys).length+1)&&Nat.beq (cellsAll (iL (y::ys))).length (((iL ys).length+1)*(0+1)))=true:=by
      rw[cellsI,iL_len,iL_len];simp
     have hst4:0+j*1+[rowS 8 (iL (y::ys++[b]))].length≤(cellsR 5 pre.length p).length:=by
      simp[cellsR];omega
     have hn6:=cellsR_nth (b:=5) (p:=p) hj;rw[hcell] at hn6;rw[hcur];refine CodeS.then_ (mkF [(2,.slice none 0 0),(10,.slice (some ⟨4,0,none⟩) (gL pre).length (gL pre).length),(57,.slice (some ⟨2,0,none⟩) x.length m.length),(58,.int .i64 x.length),(59,.int .i64 p.length),(60,.bool (decide ((p.length:Int)<(x.length:Int))))]) ⟨mkO [(2,some (.cells 107 ((p++((j:Int),b)::q).flatMap e2L++repX (m.length-x.length) [.int .i64 0,.int .i64 0]) false)),(4,some (.cells 36 (cellsR 5 pre.length p) false)),(5,rowO 3 (iL (y::ys)))],6,0,0⟩ ?_ ?_
     ·refine CodeS.run hmixU 0 zL ?_;(repeat' ((conv=>whnf);first|refine goD ?_|refine U.lw_c ?_ ?_<;>intro hb))
      (conv=>whnf);exact Cov.slots rL ⟨rfl,rfl,rfl,rfl,rfl,rfl,trivial⟩
     refine CodeS.then_ (mkF [(2,.slice none 0 0),(10,.slice (some ⟨4,0,none⟩) (gL pre).length (gL pre).length),(57,.slice (some ⟨2,0,none⟩) x.length m.length),(58,.int .i64 x.length),(59,.int .i64 p.length)]) ⟨mkO [(2,some (.cells 107 ((p++((j:Int),b)::q).flatMap e2L++repX (m.length-x.length) [.int .i64 0,.int .i64 0]) false)),(4,some (.cells 36 (cellsR 5 pre.length p) false)),(5,rowO 3 (iL (y::ys)))],6,0,0⟩ ?_ ?_
     ·refine CodeS.run hmixU 0 zL ?_;(repeat' ((conv=>whnf);first|refine goD ?_|refine U.lw_c ?_ ?_<;>intro hb))
      (conv=>whnf);exact Cov.slots rL ⟨rfl,rfl,rfl,rfl,rfl,trivial⟩
     refine CodeS.then_ (mkF [(2,.slice none 0 0),(10,.slice (some ⟨4,0,none⟩) (gL pre).length (gL pre).length),(57,.slice (some ⟨2,0,none⟩) x.length m.length),(58,.int .i64 x.length),(59,.int .i64 p.length)]) ⟨mkO [(2,some (.cells 107 ((p++((j:Int),b)::q).flatMap e2L++repX (m.length-x.length) [.int .i64 0,.int .i64 0]) false)),(4,some (.cells 36 (cellsR 8 pre.length (p++[((j:Int),b)])) false)),(8,rowO 3 (iL (y::(ys++[b]))))],9,0,0⟩ (CodeS.block (CodeS.then_ (mkF [(2,.slice none 0 0),(10,.slice (some ⟨4,0,none⟩) (gL pre).length (gL pre).length),(12,.pointer (some ⟨6,0,none⟩)),(57,.slice (some ⟨2,0,none⟩) x.length m.length),(58,.int .i64 x.length),(59,.int .i64 p.length)]) ⟨mkO [(2,some (.cells 107 ((p++((j:Int),b)::q).flatMap e2L++repX (m.length-x.length) [.int .i64 0,.int .i64 0]) false)),(4,some (.cells 36 (cellsR 5 pre.length p) false)),(5,rowO 3 (iL (y::ys))),(6,some (.cells 107 [.int .i64 j,.int .i64 b] false))],7,0,0⟩ ?_ ?_)) ?_
     ·refine CodeS.run hmixU 0 zL ?_;(repeat' ((conv=>whnf);first|refine goD ?_|refine U.lw_c ?_ ?_<;>intro hb))
      (conv=>whnf);(conv in (dropL _ _)=>(change dropL _ (0+p.length*2);rw[hd4]))
      (repeat' ((conv=>whnf);first|refine goD ?_|refine U.lw_c ?_ ?_<;>intro hb))
      (conv=>whnf);exact (Cov.renI rfl rfl rfl rfl (.W rfl (e2L_clean _ _) rfl (.C rfl (RenL.maps _ fun k _=>cellR_ren (by decide) rfl) (.W rfl (cleanIC (y::ys)) rfl (.C rfl (.cons .I (.cons .I .nil)) .nil)))) (.K rfl rfl rfl (.cons rfl (.sl _ _ _ _ _ _ _ (by decide) rfl rfl rfl) (.cons rfl (.P rfl) (.cons rfl (.sl _ _ _ _ _ _ _ (by decide) rfl rfl rfl) (.cons rfl .I (.cons rfl .I .nil)))))))
     ·refine CodeS.run hmixU 0 zL ?_;refine U.drawX_m (D:=U.propX) 12 [] (by decide +kernel) (by decide +kernel) (by decide +kernel) ?_
      (repeat' ((conv=>whnf);first|refine goD ?_|refine U.lw_c ?_ ?_<;>intro hb))
      (conv=>whnf);(conv in (nth _ _)=>(change nth _ (0+j*1);rw[hn6]))
      (repeat' ((conv=>whnf);first|refine goA ?_|refine U.ob_c hb7 ?_|(rw[ble_f];dsimp only;refine growRow_p (by rw[show Value.int .i64 y::List.map (Value.int .i64) ys=iL (y::ys) from rfl,cellsI,iL_len,iL_len];simp) rfl ?_)|refine goB ?_|refine U.lw_c ?_ ?_<;>intro hb))
      (conv=>whnf);(conv in (nth _ _)=>(change nth _ (0+j*1);rw[hn6]))
      (repeat' ((conv=>whnf);first|refine goA ?_|refine U.ob_c hb7 ?_|refine U.ob_c hap ?_|refine U.catC_p ?_|refine U.storeC_p hst4 ?_|refine goB ?_|refine U.lw_c ?_ ?_<;>intro hb))
      (conv=>whnf);have hv8:U.RenV 9 ⟨fun k=>k,fun _ _=>False⟩ (rowS 8 (iL (rowOf p j++[b]))) (.slice (some ⟨8,0,none⟩) ((iL ys).length+1+(0+1)) ((iL ys).length+1+(0+1))):=by
       rw[hrow];exact .sl _ _ _ _ _ _ _ (by decide) rfl (by simp[iL_len]) (by simp[iL_len])
      exact (Cov.renI rfl rfl rfl rfl (.W rfl (e2L_clean _ _) rfl (.C rfl (cells_step hj hv8 fun k hk=>by rw[cellR_frz (b:=5) (fun e=>hk (by rw[hla] at e;cases e;rfl))];exact frzR_ren p k) (.W rfl (cleanIC (y::(ys++[b]))) (by show cellsAll (iL (y::(ys++[b])))=cellsAll (iL (y::ys))++[Value.int .i64 b];rw[cellsI,cellsI];simp[iL]) .nil))) (.K rfl rfl rfl (.cons rfl (.sl _ _ _ _ _ _ _ (by decide) rfl rfl rfl) (.cons rfl (.sl _ _ _ _ _ _ _ (by decide) rfl rfl rfl) (.cons rfl .I (.cons rfl .I .nil))))))
     ·refine CodeS.run hmixU 0 zL ?_;(repeat' ((conv=>whnf);first|refine goD ?_|refine U.lw_c ?_ ?_<;>intro hb))
      (conv=>whnf);refine ⟨(p++[((j:Int),b)],q),by simp,by simp,?_⟩
      have hcur2:curR (p++[((j:Int),b)])=y::(ys++[b]):=by simp[curR,lastOf_snoc,rowOf_snoc,hrow]
      dsimp only;rw[hcur2];exact (Cov.renO (fun k=>if k=5 then 8 else k) rfl rfl (bR rfl) zL (fun k hk=>if_neg (by have:k<5:=hk;omega)) rfl nlz (.W rfl (e2L_clean _ _) (by simp) (.C rfl (RenL.maps _ fun k _=>cellR_ren (by decide) rfl) (.W rfl (cleanIC (y::(ys++[b]))) rfl .nil))) (.K rfl rfl rfl (.cons rfl (.sl _ _ _ _ _ _ _ (by decide) rfl rfl rfl) (.cons rfl (.sl _ _ _ _ _ _ _ (by decide) rfl rfl rfl) (.cons rfl .I (.L rfl (cleanI _) (congrArg (Value.int .i64) hw4.symm) .nil))))))
    ·have hrow0:rowOf p j=[]:=rowOf_new (q:=q) (b:=b) (by rw[← hE];exact sortE_sorted _) hla (fun e he=>by obtain ⟨k,h1,_⟩:=edges_in hI i2 hE e (by simp[he]);omega)
     have hcell:cellR 5 p j=.slice none 0 0:=by simp[cellR,hla,hrow0]
     have hn6:=cellsR_nth (b:=5) (p:=p) hj;rw[hcell] at hn6;have hst4:0+j*1+[rowS 8 (iL [b])].length≤(cellsR 5 pre.length p).length:=by
      simp[cellsR];omega
     refine CodeS.then_ (mkF [(2,.slice none 0 0),(10,.slice (some ⟨4,0,none⟩) (gL pre).length (gL pre).length),(57,.slice (some ⟨2,0,none⟩) x.length m.length),(58,.int .i64 x.length),(59,.int .i64 p.length),(60,.bool (decide ((p.length:Int)<(x.length:Int))))]) ⟨mkO [(2,some (.cells 107 ((p++((j:Int),b)::q).flatMap e2L++repX (m.length-x.length) [.int .i64 0,.int .i64 0]) false)),(4,some (.cells 36 (cellsR 5 pre.length p) false)),(5,rowO 3 (iL (curR p)))],6,0,0⟩ ?_ ?_
     ·refine CodeS.run hmixU 0 zL ?_;(repeat' ((conv=>whnf);first|refine goD ?_|refine U.lw_c ?_ ?_<;>intro hb))
      (conv=>whnf);exact Cov.slots rL ⟨rfl,rfl,rfl,rfl,rfl,rfl,trivial⟩
     refine CodeS.then_ (mkF [(2,.slice none 0 0),(10,.slice (some ⟨4,0,none⟩) (gL pre).length (gL pre).length),(57,.slice (some ⟨2,0,none⟩) x.length m.length),(58,.int .i64 x.length),(59,.int .i64 p.length)]) ⟨mkO [(2,some (.cells 107 ((p++((j:Int),b)::q).flatMap e2L++repX (m.length-x.length) [.int .i64 0,.int .i64 0]) false)),(4,some (.cells 36 (cellsR 5 pre.length p) false)),(5,rowO 3 (iL (curR p)))],6,0,0⟩ ?_ ?_
     ·refine CodeS.run hmixU 0 zL ?_;(repeat' ((conv=>whnf);first|refine goD ?_|refine U.lw_c ?_ ?_<;>intro hb))
      (conv=>whnf);exact Cov.slots rL ⟨rfl,rfl,rfl,rfl,rfl,trivial⟩
     refine CodeS.then_ (mkF [(2,.slice none 0 0),(10,.slice (some ⟨4,0,none⟩) (gL pre).length (gL pre).length),(57,.slice (some ⟨2,0,none⟩) x.length m.length),(58,.int .i64 x.length),(59,.int .i64 p.length)]) ⟨mkO [(2,some (.cells 107 ((p++((j:Int),b)::q).flatMap e2L++repX (m.length-x.length) [.int .i64 0,.int .i64 0]) false)),(4,some (.cells 36 (cellsR 8 pre.length (p++[((j:Int),b)])) false)),(8,rowO 3 (iL [b]))],9,0,0⟩ (CodeS.block (CodeS.then_ (mkF [(2,.slice none 0 0),(10,.slice (some ⟨4,0,none⟩) (gL pre).length (gL pre).length),(12,.pointer (some ⟨6,0,none⟩)),(57,.slice (some ⟨2,0,none⟩) x.length m.length),(58,.int .i64 x.length),(59,.int .i64 p.length)]) ⟨mkO [(2,some (.cells 107 ((p++((j:Int),b)::q).flatMap e2L++repX (m.length-x.length) [.int .i64 0,.int .i64 0]) false)),(4,some (.cells 36 (cellsR 5 pre.length p) false)),(5,rowO 3 (iL (curR p))),(6,some (.cells 107 [.int .i64 j,.int .i64 b] false))],7,0,0⟩ ?_ ?_)) ?_
     ·refine CodeS.run hmixU 0 zL ?_;(repeat' ((conv=>whnf);first|refine goD ?_|refine U.lw_c ?_ ?_<;>intro hb))
      (conv=>whnf);(conv in (dropL _ _)=>(change dropL _ (0+p.length*2);rw[hd4]))
      (repeat' ((conv=>whnf);first|refine goD ?_|refine U.lw_c ?_ ?_<;>intro hb))
      (conv=>whnf);rcases hcu:curR p with _|⟨y,ys⟩
      ·exact (Cov.renI rfl rfl rfl rfl (.W rfl (e2L_clean _ _) rfl (.C rfl (RenL.maps _ fun k _=>cellR_ren (by decide) rfl) (.none (.C rfl (.cons .I (.cons .I .nil)) .nil)))) (.K rfl rfl rfl (.cons rfl (.sl _ _ _ _ _ _ _ (by decide) rfl rfl rfl) (.cons rfl (.P rfl) (.cons rfl (.sl _ _ _ _ _ _ _ (by decide) rfl rfl rfl) (.cons rfl .I (.cons rfl .I .nil)))))))
      ·exact (Cov.renI rfl rfl rfl rfl (.W rfl (e2L_clean _ _) rfl (.C rfl (RenL.maps _ fun k _=>cellR_ren (by decide) rfl) (.W rfl (cleanIC (y::ys)) rfl (.C rfl (.cons .I (.cons .I .nil)) .nil)))) (.K rfl rfl rfl (.cons rfl (.sl _ _ _ _ _ _ _ (by decide) rfl rfl rfl) (.cons rfl (.P rfl) (.cons rfl (.sl _ _ _ _ _ _ _ (by decide) rfl rfl rfl) (.cons rfl .I (.cons rfl .I .nil)))))))
     ·refine CodeS.run hmixU 0 zL ?_;refine U.drawX_m (D:=U.propX) 12 [] (by decide +kernel) (by decide +kernel) (by decide +kernel) ?_
      (repeat' ((conv=>whnf);first|refine goD ?_|refine U.lw_c ?_ ?_<;>intro hb))
      (conv=>whnf);(conv in (nth _ _)=>(change nth _ (0+j*1);rw[hn6]))
      (repeat' ((conv=>whnf);first|refine goD ?_|refine U.lw_c ?_ ?_<;>intro hb))
      (conv=>whnf);(conv in (nth _ _)=>(change nth _ (0+j*1);rw[hn6]))
      (repeat' ((conv=>whnf);first|refine goA ?_|refine U.catC_p ?_|refine U.storeC_p hst4 ?_|refine goB ?_|refine U.lw_c ?_ ?_<;>intro hb))
      (conv=>whnf);have hv8:U.RenV 9 ⟨fun k=>k,fun u1 u=>u1=imS (iL (curR p))∧u=rowS 5 (iL (curR p))⟩ (rowS 8 (iL (rowOf p j++[b]))) (.slice (some ⟨8,0,none⟩) (0+(0+1)) (0+(0+1))):=by
       rw[hrow0];exact .sl _ _ _ _ _ _ _ (by decide) rfl rfl rfl
      exact (Cov.frz (fun k=>k) 5 1 (T:=3) (ys:=iL (curR p)) rfl rfl (bR rfl) zL (fun _ _=>rfl) rfl nlz zL rfl rfl iL_1 (cleanIC _) (.W rfl (e2L_clean _ _) rfl (.C rfl (cells_step hj hv8 fun k hk=>frz_cell k) (.W rfl (cleanIC [b]) rfl .nil))) (.K rfl rfl rfl (.cons rfl (.sl _ _ _ _ _ _ _ (by decide) rfl rfl rfl) (.cons rfl (.sl _ _ _ _ _ _ _ (by decide) rfl rfl rfl) (.cons rfl .I (.cons rfl .I .nil))))))
     ·refine CodeS.run hmixU 0 zL ?_;(repeat' ((conv=>whnf);first|refine goD ?_|refine U.lw_c ?_ ?_<;>intro hb))
      (conv=>whnf);refine ⟨(p++[((j:Int),b)],q),by simp,by simp,?_⟩
      have hcur2:curR (p++[((j:Int),b)])=[b]:=by simp[curR,lastOf_snoc,rowOf_snoc,hrow0]
      dsimp only;rw[hcur2];exact (Cov.renO (fun k=>if k=5 then 8 else k) rfl rfl (bR rfl) zL (fun k hk=>if_neg (by have:k<5:=hk;omega)) rfl nlz (.W rfl (e2L_clean _ _) (by simp) (.C rfl (RenL.maps _ fun k _=>cellR_ren (by decide) rfl) (.W rfl (cleanIC [b]) rfl .nil))) (.K rfl rfl rfl (.cons rfl (.sl _ _ _ _ _ _ _ (by decide) rfl rfl rfl) (.cons rfl (.sl _ _ _ _ _ _ _ (by decide) rfl rfl rfl) (.cons rfl .I (.L rfl (cleanI _) (congrArg (Value.int .i64) hw4.symm) .nil))))))
  ·(conv=>whnf);intro i hi;rw[← hL] at hi;obtain ⟨j1,j2⟩:=left_in hi;obtain ⟨c,hc⟩:=keyAt_at j1;have hp:=nthP_at (ek:=eK) (ev:=Value.int .i64) hc;have hxl:x.length+1≤m.length:=nodup_len (l:=i::x) (List.nodup_cons.2 ⟨j2,i1⟩) (fun k hk=>(List.mem_cons.1 hk).elim (fun e=>by rw[e];exact j1) (i2 k))
   have hgl:(x++[i]).getLast?=some i:=by simp
   have hb1:(Nat.ble ((x.length+1)*16) 140737488355328&&Nat.ble (x.length+1) 1000000)=true:=by
    rw[bLe (by omega),bLe (by omega)];rfl
   have hq:(x.length+(0+1)).ble m.length=true:=bLe (by omega)
   have hst:x.length*2+[Value.int .i64 (keyAt m i).1,Value.int .i64 (keyAt m i).2].length≤(row2 (x.map (keyAt m)) (m.length-x.length)).length:=by
    rw[row2_len,List.length_map];simp only[List.length_cons,List.length_nil];omega
   (repeat' ((conv=>whnf);first|refine goA ?_|refine U.onV_p (nthN_range j1) ?_|refine U.onV_p hp ?_|refine U.onV_p hgl ?_|refine U.onV_p (idxB_range j1) ?_|refine U.ob_c (Nat.beq_refl _) ?_|refine U.ob_c hb1 ?_|rw[hq]|refine U.storeC_p hst ?_|refine goB ?_|refine U.lw_c ?_ ?_<;>intro hb))
   (conv=>whnf);have hrow:row2 ((x++[i]).map (keyAt m)) (m.length-(x++[i]).length)=(row2 (x.map (keyAt m)) (m.length-x.length)).take (x.length*2)++[Value.int .i64 (keyAt m i).1,Value.int .i64 (keyAt m i).2]++(row2 (x.map (keyAt m)) (m.length-x.length)).drop (x.length*2+[Value.int .i64 (keyAt m i).1,Value.int .i64 (keyAt m i).2].length):=by
    rw[show m.length-x.length=(m.length-(x++[i]).length)+1 by simp;omega,List.map_append]
    have:=row2_store (x.map (keyAt m)) (keyAt m i) (m.length-(x++[i]).length);rw[List.length_map] at this;exact this
   refine ⟨x++[i],⟨?_,?_⟩,by simp;omega,(Cov.renO (fun k=>k) rfl rfl (Nat.le_refl 4) zL (fun _ _=>rfl) rfl nlz (.W rfl (cleanG_cells ⟨nm,_⟩) rfl (.cons rfl (.map _ _ _ (mE_noNm cleanI _)) (.W rfl (row2_clean _ _) hrow (.cons rfl (.iter _ _ _ _ _ (by decide) rfl) .nil)))) (.cons rfl (.P rfl) (.K rfl rfl rfl (.cons rfl (.mp _ _ (by decide) rfl) (.cons rfl (.sl _ _ _ _ _ _ _ (by decide) rfl (by simp) rfl) (.cons rfl (.P rfl) .nil))))))⟩
   ·rw[List.nodup_append];refine ⟨i1,by simp,?_⟩
    rintro y hy z hz rfl
    simp at hz
    subst hz;exact j2 hy
   ·intro k hk;rcases List.mem_append.1 hk with hk|hk
    ·exact i2 k hk
    ·simp at hk;subst hk;exact j1
 ·obtain ⟨h3b,h3c,h3n,h3w⟩:=U.at4 gL_map pre (x) rest (g2);have hx:=g3 x (by simp)
  (repeat' ((conv=>whnf);first|refine goD ?_|refine U.lw_c ?_ ?_<;>intro hb))
  (conv=>whnf);refine loop_inv (α:=List Int×List Int×List ((Int×Int)×Int)) (fun y=>y.1++y.2.1=x∧EdgesI y.2.2 (pre++[y.1])) (fun y=>(mkF [(1,.pointer (some ⟨0,0,none⟩)),(2,.slice none 0 0),(3,.map (some 1)),(4,.int .i64 pre.length),(15,imS (gL (pre++x::rest))),(16,.int .i64 (gL (pre++x::rest)).length),(17,.int .i64 pre.length),(22,imS (iL x)),(23,.int .i64 (iL x).length),(24,.int .i64 y.1.length)],⟨mkO [(0,some (.cells 48 [imS (sL nm),imS (gL (pre++x::rest))] false)),(1,some (mEd y.2.2))],2,0,0⟩)) (fun y=>y.2.1.length) ([],x,m) ⟨rfl,hI.next⟩ (Cov.slots rL ⟨rfl,rfl,rfl,rfl,rfl,rfl,rfl,rfl,rfl,rfl,trivial⟩) ?_
  rintro ⟨p,q,m'⟩ ⟨p3,hI'⟩
  dsimp only at p3 hI'
  subst p3;dsimp only;rcases q with _|⟨t,q⟩
  ·rw[List.append_nil] at *;have h4b:=U.lt_no iL_map p;(repeat' ((conv=>whnf);first|refine goD ?_|refine U.lw_c ?_ ?_<;>intro hb))
   (conv=>whnf);refine ⟨(pre++[p],rest,m'),⟨by simp,hI'⟩,by simp,?_⟩
   refine Cov.slots (s:=⟨mkO [(0,some (.cells 48 [imS (sL nm),imS (gL (pre++p::rest))] false)),(1,some (mEd m'))],2,0,0⟩) (Nat.le_refl 2) ⟨rfl,rfl,rfl,rfl,rfl,?_,trivial⟩;exact congrArg some (congrArg (Value.int .i64) h3w)
  ·obtain ⟨h4b,h4c,h4n,h4w⟩:=U.at4 iL_map p (t) q (hx);rcases look_cases ((pre.length:Int),t) m' with hz|⟨a,u,b,rfl,hz⟩
   ·have hf:=eK_ok.none (ev:=Value.int .i64) hz;have hf2:findC Tryd.prog 107 (.array 2 3) (eK ((pre.length:Int),t)) (mE eK (Value.int .i64) m'++[(eK ((pre.length:Int),t),.int .i64 0)])=some (some (m'.length,.int .i64 0)):=by
     rw[mE_snoc];exact eK_ok.mid (q:=[]) hz
    have hex:=fun (c:Bool) (hc:c=true)=>exB_map (c:=c) eK_val (U.valB_int _) (m:=m'++[(((pre.length:Int),t),0)]) (bs:=List.range m'.length++[m'.length]) (cl:=m'.length+1) (mE_snoc (ek:=eK) (ev:=Value.int .i64) m' ((pre.length:Int),t) 0) hc
    (repeat' ((conv=>whnf);first|refine goA ?_|refine U.onV_p hf2 ?_|refine U.ob_c (hex _ rfl) ?_|refine U.ob_c (U.valB_int _ _) ?_|refine U.ob_c (eK_key ((pre.length:Int),t)) ?_|refine U.onV_p hf ?_|refine U.onV_p (idxB_snoc _) ?_|refine U.onV_p (nthP_snoc (mE_len m').symm) ?_|refine U.natC_p ?_|refine goB ?_|refine U.drawX_m (D:=U.propX) 8 [] (by decide +kernel) (by decide +kernel) (by decide +kernel) ?_|refine U.lw_c ?_ ?_<;>intro hb))
    all_goals (conv=>whnf)
    exact ⟨(p++[t],q,m'++[(((pre.length:Int),t),IntKind.i64.wrap (0+1))]),⟨by simp,hI'.new hz⟩,by simp,(Cov.renO (fun k=>k) rfl rfl (Nat.le_refl 2) zL (fun _ _=>rfl) rfl nlz (.W rfl (cleanG_cells ⟨nm,_⟩) rfl (.cons rfl (RenB.mapE ((setP_snoc (mE_len m').symm).trans (mE_snoc (ek:=eK) (ev:=Value.int .i64) m' _ _)).symm (by rw[range_snoc];simp) (by simp) (mE_noNm cleanI _)) .nil)) (.cons rfl (.P rfl) (.K rfl rfl rfl (.cons rfl (.mp _ _ (by decide) rfl) (.cons rfl .I (.L rfl (cleanGL _) rfl (.cons rfl .I (.cons rfl .I (.L rfl (cleanIL _) rfl (.cons rfl .I (.L rfl (cleanI _) (congrArg (Value.int .i64) h4w.symm) .nil)))))))))))⟩
   ·have hf:=eK_ok.mid (ev:=Value.int .i64) (q:=b) (u:=u) hz;have hex:=fun (c:Bool) (hc:c=true)=>exB_map (c:=c) eK_val (U.valB_int _) (m:=a++(((pre.length:Int),t),u)::b) (bs:=List.range (a++(((pre.length:Int),t),u)::b).length) (cl:=(a++(((pre.length:Int),t),u)::b).length) (setP_mid (ek:=eK) (ev:=Value.int .i64) a b ((pre.length:Int),t) u u) hc
    have hf2:findC Tryd.prog 107 (.array 2 3) (eK ((pre.length:Int),t)) (setL (mE eK (Value.int .i64) (a++(((pre.length:Int),t),u)::b)) a.length (eK ((pre.length:Int),t),.int .i64 u))=some (some (a.length,.int .i64 u)):=by
     rw[setP_mid];exact hf
    have hl:a.length<(a++(((pre.length:Int),t),u)::b).length:=by simp
    (repeat' ((conv=>whnf);first|refine goA ?_|refine U.onV_p hf2 ?_|refine U.ob_c (hex _ rfl) ?_|refine U.ob_c (U.valB_int _ _) ?_|refine U.ob_c (eK_key ((pre.length:Int),t)) ?_|refine U.onV_p hf ?_|refine U.onV_p (nthN_range hl) ?_|refine U.onV_p (idxB_range hl) ?_|refine U.onV_p (nthP_setP (by rw[mE_len];exact hl)) ?_|refine U.natC_p ?_|refine goB ?_|refine U.drawX_m (D:=U.propX) 8 [] (by decide +kernel) (by decide +kernel) (by decide +kernel) ?_|refine U.lw_c ?_ ?_<;>intro hb))
    all_goals (conv=>whnf)
    exact ⟨(p++[t],q,a++(((pre.length:Int),t),IntKind.i64.wrap (u+1))::b),⟨by simp,hI'.old⟩,by simp,(Cov.renO (fun k=>k) rfl rfl (Nat.le_refl 2) zL (fun _ _=>rfl) rfl nlz (.W rfl (cleanG_cells ⟨nm,_⟩) rfl (.cons rfl (RenB.mapE (setP_setP.trans (setP_mid (ek:=eK) (ev:=Value.int .i64) a b _ u _)).symm (by simp) (by simp) (mE_noNm cleanI _)) .nil)) (.cons rfl (.P rfl) (.K rfl rfl rfl (.cons rfl (.mp _ _ (by decide) rfl) (.cons rfl .I (.L rfl (cleanGL _) rfl (.cons rfl .I (.cons rfl .I (.L rfl (cleanIL _) rfl (.cons rfl .I (.L rfl (cleanI _) (congrArg (Value.int .i64) h4w.symm) .nil)))))))))))⟩
end Go.Proofs.YtcihknonfcldeaaDoor
