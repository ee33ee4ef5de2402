
import Derived.Test.YtcihknonfcldeaaDoorKT23
import Derived.Test.YtcihknonfcldeaaDoorKT27
namespace Go.Proofs.YtcihknonfcldeaaDoor
open Go Go.RowKit Go.Sort U
set_option linter.unusedVariables false
set_option linter.unusedSimpArgs false
set_option maxRecDepth 100000
set_option maxHeartbeats 40000000
def froms (rows:List (List Int)) (c:Nat):List Int:=((List.range rows.length).filter fun i=>decide ((c:Int)∈rows.getD i [])).map fun (i:Nat)=>(i:Int)
def turnedR (rows:List (List Int)):List (List Int):=(List.range rows.length).map (froms rows)
theorem froms_snoc (rows:List (List Int)) (x:List Int) (c:Nat):froms (rows++[x]) c=froms rows c++if (c:Int)∈x then [(rows.length:Int)] else []:=by
 have h1:(List.range rows.length).filter (fun i=>decide ((c:Int)∈(rows++[x]).getD i []))=(List.range rows.length).filter (fun i=>decide ((c:Int)∈rows.getD i [])):=List.filter_congr fun i hi=>by
  have hi:i<rows.length:=List.mem_range.1 hi;simp[List.getElem?_append_left hi]
 have h2:(rows++[x]).getD rows.length []=x:=by simp
 simp only[froms,List.length_append,List.length_singleton,List.range_succ,List.filter_append,List.map_append,h1];congr 1
 by_cases h:(c:Int)∈x
 ·simp[h]
 ·simp[h]
def mid (rows:List (List Int)) (p:List Int) (c:Nat):List Int:=froms rows c++if (c:Int)∈p then [(rows.length:Int)] else []
theorem mid_nil (rows:List (List Int)) (c:Nat):mid rows [] c=froms rows c:=by simp[mid]
theorem mid_all (rows:List (List Int)) (x:List Int) (c:Nat):mid rows x c=froms (rows++[x]) c:=(froms_snoc rows x c).symm
theorem mid_same (rows:List (List Int)) (p:List Int) (t:Nat) (ht:(t:Int)∉p):mid rows (p++[(t:Int)]) t=mid rows p t++[(rows.length:Int)]:=by simp[mid,ht]
theorem mid_other (rows:List (List Int)) (p:List Int) (t c:Nat) (h:c≠t):mid rows (p++[(t:Int)]) c=mid rows p c:=by
 have:¬(c:Int)=(t:Int):=by omega
 simp[mid,this]
theorem rowR_mem {n:Nat}{r:List Int}{t:Int}:t∈rowR n r↔∃i:Nat,i<n∧t=(i:Int)∧t∈r:=by
 simp only[rowR,List.mem_map,List.mem_filter,List.mem_range,decide_eq_true_eq];constructor
 ·rintro ⟨i,⟨h1,h2⟩,rfl⟩
  exact ⟨i,h1,rfl,h2⟩
 ·rintro ⟨i,h1,rfl,h2⟩
  exact ⟨i,⟨h1,h2⟩,rfl⟩
theorem rowR_lt (n:Nat) (r:List Int):(rowR n r).Pairwise (·<·):=by
 refine List.Pairwise.map (R:=fun (a b:Nat)=>a<b) _ (fun a b h=>by omega) ?_
 exact List.pairwise_lt_range.filter _
theorem rowR_nodup (n:Nat) (r:List Int):(rowR n r).Nodup:=(rowR_lt n r).imp fun h=>by omega
theorem rowR_len (n:Nat) (r:List Int):(rowR n r).length≤n:=by
 rw[rowR,List.length_map];exact Nat.le_trans (List.length_filter_le ..) (by simp)
theorem src1 {sh:Tr U.Blk}{l:List (Option U.Blk)}(h:∀p,Tr.at (.r (.l p)) sh=Tr.at p (gTr 256 l)) (hl:l.length≤65280) {j:Nat}(hj:j<l.length):sh.get (257+j)=l[j]?.join:=by
 unfold Tr.get;rw[pt_g1 (by omega) (by omega),h,gTr_at,if_pos (by omega),show 257+j-1-256=j by omega]
theorem src2 {sh:Tr U.Blk}{l:List (Option U.Blk)}(h:∀p,Tr.at (.r (.r (.r (.r (.l p))))) sh=Tr.at p (gTr 65792 l)) (hl:l.length≤65280) {j:Nat}(hj:j<l.length):sh.get (65793+j)=l[j]?.join:=by
 unfold Tr.get;rw[pt_g2 (by omega) (by omega),h,gTr_at,if_pos (by omega),show 65793+j-1-65792=j by omega]
def cellsN (n:Nat) (R:Nat->List Int) (nm:Nat->Nat):List Value:=(List.range n).map fun k=>rowS (nm k) (iL (R k))
structure RowsAt (sh:Tr U.Blk) (n:Nat) (R:Nat->List Int) (nm:Nat->Nat):Prop where
 cells:sh.get 0=some (.cells 36 (cellsN n R nm) false)
 at_:∀k,k<n->R k≠[]->sh.get (nm k)=some (.cells 3 (iL (R k)) true)
 inj:∀k k',k<n->k'<n->R k≠[]->R k'≠[]->nm k=nm k'->k=k'
 nz:∀k,k<n->R k≠[]->nm k≠0
theorem cov_R {P:Program}{N n0:Nat}{fr:Tr Value}{sh:Tr U.Blk}{nx n:Nat}{l:List (Nat×Value)}{R:Nat->List Int}{nm:Nat->Nat}(h:RowsAt sh n R nm) (bs ρ:Nat->Nat) (h1:Tr U.Blk) (nx1:Nat) (hn:n0≤nx1) (hρ:∀k,k<n0->ρ k=k) (hρ0:ρ 0=0) (h0:0<nx1) (hbs:∀j,j<n->bs j<nx1∧ρ (bs j)=nm j)
  (hnew:∀k b,h1.get k=some b->(k=0∧b=.cells 36 (cellsN n R bs) false)∨∃j,j<n∧k=bs j∧R j≠[]∧b=.cells 3 (iL (R j)) true) (hf:slotsRen fr n0 ⟨fun k=>k,fun _ _=>False⟩ l):Cov P N n0 fr ⟨sh,nx,0,0⟩ (mkF l) ⟨h1,nx1,0,0⟩:=by
 refine Cov.gen ρ 0 (fun _ _=>False) (T:=0) (op:=false) (xs:=[]) rfl rfl hn zL hρ (fun k b hk=>?_) (fun k k' hk hk' e=>?_) nlz zL (fun hx=>absurd rfl hx) (fun u1 u hu=>absurd hu id) fun t u hu=>(hf.conv hn hρ).all _ (mkF_mem hu)
 ·rcases hnew k b hk with ⟨rfl,rfl⟩|⟨j,hj,rfl,hr,rfl⟩
  ·refine ⟨h0,fun _=>Nat.zero_le _,fun hx=>absurd rfl hx,_,by rw[hρ0];exact h.cells,.cells _ _ _ _ (RenL.maps _ fun j hj=>?_)⟩
   obtain ⟨q1,q2⟩:=hbs j (List.mem_range.1 hj);exact .ofRow q1 q2 rfl
  ·obtain ⟨q1,q2⟩:=hbs j hj;refine ⟨q1,fun _=>Nat.zero_le _,fun hx=>absurd rfl hx,_,by rw[q2];exact h.at_ j hj hr,.row _ _ _ _ ?_ rfl⟩
   have:=cleanIC (R j);rwa [cellsI] at this
 ·obtain ⟨b,hb⟩:=Option.ne_none_iff_exists'.1 hk;obtain ⟨b',hb'⟩:=Option.ne_none_iff_exists'.1 hk';rcases hnew k b hb with ⟨rfl,_⟩|⟨j,hj,rfl,hr,_⟩<;>rcases hnew k' b' hb' with ⟨rfl,_⟩|⟨j',hj',rfl,hr',_⟩
  ·rfl
  ·rw[hρ0,(hbs j' hj').2] at e;exact absurd e.symm (h.nz j' hj' hr')
  ·rw[hρ0,(hbs j hj).2] at e;exact absurd e (h.nz j hj hr)
  ·rw[(hbs j hj).2,(hbs j' hj').2] at e;rw[h.inj j j' hj hj' hr hr' e]
theorem rowO_some {T:TypeId}{l:List Int}{b:U.Blk}(h:rowO T (iL l)=some b):l≠[]∧b=.cells T (iL l) true:=by
 cases l with
 |nil=>cases h
 |cons x l =>
  refine ⟨by simp,?_⟩
  have:rowO T (iL (x::l))=some (.cells T (cellsAll (iL (x::l))) true):=rfl;rw[this,cellsI] at h;exact (Option.some.inj h).symm
def famR (n:Nat) (R:Nat->List Int) (t:Nat):List (Option U.Blk):=(List.range n).map fun k=>if k=t then none else rowO 3 (iL (R k))
theorem famR_len (n:Nat) (R:Nat->List Int) (t:Nat):(famR n R t).length=n:=by simp[famR]
theorem famR_at {n:Nat}{R:Nat->List Int}{t j:Nat}{b:U.Blk}(h:(famR n R t)[j]?=some (some b)):j<n∧j≠t∧R j≠[]∧b=.cells 3 (iL (R j)) true:=by
 have hj:j<n:=by have:=(List.getElem?_eq_some_iff.1 h).1;rwa [famR_len] at this
 simp only[famR,List.getElem?_map,List.getElem?_range hj,Option.map_some,Option.some.injEq] at h;split at h
 ·cases h
 ·rename_i hne;obtain ⟨q1,q2⟩:=rowO_some h;exact ⟨hj,hne,q1,q2⟩
theorem famR_to {n:Nat}{R:Nat->List Int}{t j:Nat}(hj:j<n) (ht:j≠t) (hr:R j≠[]):(famR n R t)[j]?.join=some (.cells 3 (iL (R j)) true):=by
 simp only[famR,List.getElem?_map,List.getElem?_range hj,Option.map_some,if_neg ht];cases hx:R j with
 |nil=>exact absurd hx hr
 |cons x l =>
  show some (U.Blk.cells 3 (cellsAll (iL (x::l))) true)=_
  rw[cellsI]
def nmO (k:Nat):Nat:=257+k
def nmT (t k:Nat):Nat:=if k=t then 65537 else 65793+k
def stO (n:Nat) (R:Nat->List Int):AS:=⟨mkOB (base1 (famR n R n)) [(0,some (.cells 36 (cellsN n R nmO) false))],65537,0,0⟩
def stT (n:Nat) (R:Nat->List Int) (t:Nat) (b:Option U.Blk):AS:=⟨mkOB (base2 (famR n R t)) [(0,some (.cells 36 (cellsN n R (nmT t)) false)),(65537,b)],131329,0,0⟩
theorem cov_O {P:Program}{N:Nat}{fr:Tr Value}{sh:Tr U.Blk}{nx n:Nat}{l:List (Nat×Value)}{R:Nat->List Int}{nm:Nat->Nat}(h:RowsAt sh n R nm) (hn:n≤65000) (hf:slotsRen fr 1 ⟨fun k=>k,fun _ _=>False⟩ l):Cov P N 1 fr ⟨sh,nx,0,0⟩ (mkF l) (stO n R):=by
 refine cov_R h nmO (fun k=>if 257≤k∧k<257+n then nm (k-257) else k) _ 65537 (by omega) (fun k hk=>by rw[if_neg (by omega)]) rfl (by omega) (fun j hj=>⟨by unfold nmO;omega,?_⟩) (fun k b hk=>?_) hf
 ·have e:nmO j=257+j:=rfl;rw[e,if_pos (by omega),Nat.add_sub_cancel_left]
 ·rcases mkOB_get hk with hk|hk
  ·simp only[List.mem_cons,Prod.mk.injEq,List.not_mem_nil,or_false] at hk;exact .inl ⟨hk.1,Option.some.inj hk.2⟩
  ·obtain ⟨j,rfl,h1,h2⟩:=base1_get (by rw[famR_len];omega) hk
   obtain ⟨q1,_,q3,q4⟩:=famR_at h2;exact .inr ⟨j,q1,rfl,q3,q4⟩
theorem cov_T {P:Program}{N:Nat}{fr:Tr Value}{sh:Tr U.Blk}{nx n:Nat}{l:List (Nat×Value)}{R:Nat->List Int}{nm:Nat->Nat}(h:RowsAt sh n R nm) (hn:n≤65000) (t:Nat) (b:Option U.Blk) (hb:b=if t<n then rowO 3 (iL (R t)) else none) (hf:slotsRen fr 65537 ⟨fun k=>k,fun _ _=>False⟩ l):Cov P N 65537 fr ⟨sh,nx,0,0⟩ (mkF l) (stT n R t b):=by
 refine cov_R h (nmT t) (fun k=>if k=65537 then nm t else if 65793≤k∧k<65793+n then nm (k-65793) else k) _ 131329 (by omega) (fun k hk=>by rw[if_neg (by omega),if_neg (by omega)]) rfl (by omega) (fun j hj=>⟨by unfold nmT;split<;>omega,?_⟩) (fun k c hk=>?_) hf
 ·by_cases hjt:j=t
  ·subst hjt;simp[nmT]
  ·have e:nmT t j=65793+j:=by unfold nmT;rw[if_neg hjt]
   rw[e,if_neg (by omega),if_pos (by omega),Nat.add_sub_cancel_left]
 ·rcases mkOB_get hk with hk|hk
  ·simp only[List.mem_cons,Prod.mk.injEq,List.not_mem_nil,or_false] at hk;rcases hk with hk|hk
   ·exact .inl ⟨hk.1,Option.some.inj hk.2⟩
   ·rw[hb] at hk;split at hk
    ·rename_i ht;obtain ⟨q1,q2⟩:=rowO_some hk.2.symm;exact .inr ⟨t,ht,by rw[hk.1];simp[nmT],q1,q2⟩
    ·cases hk.2
  ·obtain ⟨j,rfl,h1,h2⟩:=base2_get (by rw[famR_len];omega) hk
   obtain ⟨q1,q2,q3,q4⟩:=famR_at h2;exact .inr ⟨j,q1,by unfold nmT;rw[if_neg q2],q3,q4⟩
theorem rows_O {n:Nat}{R:Nat->List Int}(hn:n≤65000):RowsAt (stO n R).heap n R nmO :=
 ⟨rfl,fun k hk hr=>by
  have:=src1 (sh:=(stO n R).heap) (l:=famR n R n) (fun p=>rfl) (by rw[famR_len];omega) (j:=k) (by rw[famR_len];exact hk)
  show (stO n R).heap.get (257+k)=_
  rw[this,famR_to hk (by omega) hr],fun k k' _ _ _ _ e=>by unfold nmO at e;omega,fun k _ _=>by unfold nmO;omega⟩
theorem rows_T {n:Nat}{R:Nat->List Int}(hn:n≤65000) (b:Option U.Blk):RowsAt (stT n R n b).heap n R (nmT n) :=
 ⟨rfl,fun k hk hr=>by
  have:=src2 (sh:=(stT n R n b).heap) (l:=famR n R n) (fun p=>rfl) (by rw[famR_len];omega) (j:=k) (by rw[famR_len];exact hk)
  rw[show nmT n k=65793+k by unfold nmT;rw[if_neg (by omega)],this,famR_to hk (by omega) hr],fun k k' h1 h2 _ _ e=>by unfold nmT at e;rw[if_neg (by omega),if_neg (by omega)] at e;omega,fun k hk _=>by unfold nmT;rw[if_neg (by omega)];omega⟩
theorem rows_S {sh:Tr U.Blk}{n t:Nat}{R R':Nat->List Int}{x:Int}(hn:n≤65000) (ht:t<n) (h1:R' t=R t++[x]) (h2:∀k,k≠t->R' k=R k) (g0:sh.get 0=some (.cells 36 (cellsN n R' fun k=>if k=t then 131330 else 65793+k) false)) (g1:sh.get 131330=some (.cells 3 (iL (R t++[x])) true)) (g2:∀p,Tr.at (.r (.r (.r (.r (.l p))))) sh=Tr.at p (gTr 65792 (famR n R t))):RowsAt sh n R' fun k=>if k=t then 131330 else 65793+k :=
 ⟨g0,fun k hk hr=>by
  by_cases hkt:k=t
  ·subst hkt;rw[if_pos rfl,g1,h1]
  ·rw[if_neg hkt,src2 g2 (by rw[famR_len];omega) (by rw[famR_len];exact hk),famR_to hk hkt (by rw[← h2 k hkt];exact hr),h2 k hkt],fun k k' h1 h2 _ _ e=>by
  have e:(if k=t then 131330 else 65793+k)=(if k'=t then 131330 else 65793+k'):=e
  split at e<;>split at e<;>omega,fun k hk _=>by show (if k=t then 131330 else 65793+k)≠0;split<;>omega⟩
theorem cellsN_nth {n j:Nat}{R:Nat->List Int}{nm:Nat->Nat}(hj:j<n):nth (cellsN n R nm) (0+j*1)=some (rowS (nm j) (iL (R j))):=by
 rw[Nat.zero_add,Nat.mul_one,nth_eq];simp[cellsN,hj]
theorem cellsN_set {n t:Nat}{R R':Nat->List Int}{v:Value}{c:Nat}(ht:t<n) (h2:∀k,k≠t->R' k=R k) (hv:rowS c (iL (R' t))=v):cellsN n R' (fun k=>if k=t then c else 65793+k)=(cellsN n R (nmT t)).take (0+t*1)++[v]++(cellsN n R (nmT t)).drop (0+t*1+[v].length):=by
 rw[Nat.zero_add,Nat.mul_one,cellsN,cellsN,List.length_singleton,storeMap ht];refine List.map_congr_left fun k _=>?_
 by_cases hk:k=t
 ·subst hk;rw[if_pos rfl,if_pos rfl,hv]
 ·rw[if_neg hk,if_neg hk,h2 k hk];unfold nmT;rw[if_neg hk]
theorem cellsN_start (rows:List (List Int)):cellsN rows.length (froms []) nmO=repX ((((gL rows).length:Nat):Int).toNat) [.slice none 0 0]:=by
 rw[repX_one,cellsN,gL_len];have:(fun k=>rowS (nmO k) (iL (froms [] k)))=fun _=>Value.slice none 0 0:=funext fun k=>rfl
 rw[this];exact List.ext_getElem (by simp) fun i h1 h2=>by simp
def okRows (n:Nat) (rows:List (List Int)):Prop:=∀r∈rows,r.Nodup∧r.length≤maxI∧∀t∈r,∃k:Nat,t=(k:Int)∧k<n
theorem froms_len (pre:List (List Int)) (c:Nat):(froms pre c).length≤pre.length:=by
 rw[froms,List.length_map];exact Nat.le_trans (List.length_filter_le ..) (by simp)
def tHd (n:Nat):List Int->Nat
 |[]=>n
 |t::_=>t.toNat
theorem rowS_snoc (b:Nat) (y x:Int) (ys:List Int):rowS b (iL (y::(ys++[x])))=.slice (some ⟨b,0,none⟩) ((iL ys).length+1+(0+1)) ((iL ys).length+1+(0+1)):=by
 show Value.slice (some ⟨b,0,none⟩) ((iL (ys++[x])).length+1) ((iL (ys++[x])).length+1)=_
 rw[iL_len,iL_len,List.length_append];rfl
theorem turned_d (rows:List (List Int)) (hn:rows.length≤65000) (ho:okRows rows.length rows):DenU Tryd.prog [] 26 [imS (gL rows)] (imS (gL (turnedR rows))):=by
 refine denU_of_sound hmixU fun Ts=>SoundAt.body hmixU Tryd.func26 rfl rfl rfl 0 ?_
 have hmf:=mk_full (zs:=[.slice none 0 0]) (n:=(gL rows).length) (b:=24) rfl rfl (by decide) (by rw[gL_len];omega)
 have g2:rows.length≤maxI:=by unfold maxI;omega
 (repeat' ((conv=>whnf);first|refine U.ob_c hmf ?_|refine goA ?_|refine U.spineC_p ?_|refine goB ?_|refine U.lw_c ?_ ?_<;>intro hb))
 (conv=>whnf);refine loop_inv (α:=List (List Int)×List (List Int)) (fun x=>x.1++x.2=rows) (fun x=>(mkF [(2,.slice none 0 0),(3,.slice (some ⟨0,0,none⟩) (gL rows).length (gL rows).length),(11,imS (gL rows)),(12,.int .i64 (gL rows).length),(13,.int .i64 x.1.length)],stO rows.length (froms x.1))) (fun x=>x.2.length) ([],rows) rfl (cov_O (nm:=nmO) ⟨congrArg (fun l=>some (U.Blk.cells 36 l false)) (cellsN_start rows).symm,fun k _ h=>absurd rfl h,fun k k' _ _ h=>absurd rfl h,fun k _ h=>absurd rfl h⟩ hn (.K rfl rfl rfl (.cons rfl (.S rfl rfl rfl) (.L rfl (cleanGL _) rfl (.cons rfl .I (.cons rfl .I .nil)))))) ?_
 rintro ⟨pre,rest⟩ p1
 dsimp only at p1;subst p1;dsimp only;rcases rest with _|⟨x,rest⟩
 ·rw[List.append_nil] at *;have h3b:=U.lt_no gL_map pre;(repeat' ((conv=>whnf);first|refine goD ?_|refine U.lw_c ?_ ?_<;>intro hb))
  (conv=>whnf);refine FrzV.row 0 _ _ 1 36 (cellsN pre.length (froms pre) nmO) (gL (turnedR pre)) false zL rfl gL_1 (by rw[gL_len,gL_len,turnedR];simp) rL (by rw[cellsG,gL_len,turnedR,cellsN];simp) fun i u v hu hv=>?_
  rw[cellsG,turnedR,gL_map,List.map_map,List.getElem?_map,Option.map_eq_some_iff] at hv;rw[cellsN,List.getElem?_map,Option.map_eq_some_iff] at hu;obtain ⟨k,hk1,rfl⟩:=hv;obtain ⟨k',hk2,rfl⟩:=hu;rw[hk1] at hk2
  cases hk2;have hk:k<pre.length:=List.mem_range.1 (List.mem_of_getElem? hk1);show FrzV _ _ (rowS (nmO k) (iL (froms pre k))) (imS (iL (froms pre k)))
  rcases hR:froms pre k with _|⟨y,ys⟩
  ·exact .nil
  ·have:=(rows_O (R:=froms pre) hn).at_ k hk (by rw[hR];simp)
   rw[hR] at this;refine .ofRow (T:=3) zL (this.trans ?_) iL_1 (cleanIC _);show _=some (U.Blk.cells 3 (cellsAll (iL (y::ys))) true)
   rw[cellsI]
 ·obtain ⟨h3b,h3c,h3n,h3w⟩:=U.at4 gL_map pre (x) rest (g2);obtain ⟨ho1,ho2,ho3⟩:=ho x (by simp)
  (repeat' ((conv=>whnf);first|refine goD ?_|refine U.lw_c ?_ ?_<;>intro hb))
  (conv=>whnf);have hT:∀(R R':Nat->List Int) (h:R=R') (sh:Tr U.Blk) (n:Nat) (nm:Nat->Nat),RowsAt sh n R nm->RowsAt sh n R' nm:=fun R R' h sh n nm hr=>by subst h;exact hr
  refine loop_inv (α:=List Int×List Int) (fun y=>y.1++y.2=x) (fun y=>(mkF [(2,.slice none 0 0),(3,.slice (some ⟨0,0,none⟩) (gL (pre++x::rest)).length (gL (pre++x::rest)).length),(4,.int .i64 pre.length),(11,imS (gL (pre++x::rest))),(12,.int .i64 (gL (pre++x::rest)).length),(13,.int .i64 pre.length),(18,imS (iL x)),(19,.int .i64 (iL x).length),(20,.int .i64 y.1.length)],stT (pre++x::rest).length (mid pre y.1) (tHd (pre++x::rest).length y.2) (if tHd (pre++x::rest).length y.2<(pre++x::rest).length then rowO 3 (iL (mid pre y.1 (tHd (pre++x::rest).length y.2))) else none))) (fun y=>y.2.length) ([],x) rfl (cov_T (nm:=nmO) (hT _ _ (funext fun c=>(mid_nil pre c).symm) _ _ _ (rows_O hn)) hn _ _ rfl (.K rfl rfl rfl (.cons rfl (.S rfl rfl rfl) (.cons rfl .I (.L rfl (cleanGL _) rfl (.cons rfl .I (.cons rfl .I (.L rfl (cleanIL _) rfl (.cons rfl .I (.cons rfl .I .nil)))))))))) ?_
  rintro ⟨p,q⟩ p3
  dsimp only at p3;subst p3;dsimp only;rcases q with _|⟨t,q⟩
  ·rw[List.append_nil] at *;have h4b:=U.lt_no iL_map p;(repeat' ((conv=>whnf);first|refine goD ?_|refine U.lw_c ?_ ?_<;>intro hb))
   (conv=>whnf);refine ⟨(pre++[p],rest),by simp,by simp,cov_O (nm:=nmT (pre++p::rest).length) (hT _ _ (funext fun c=>mid_all pre p c) _ _ _ (rows_T hn _)) hn (.K rfl rfl rfl (.cons rfl (.S rfl rfl rfl) (.L rfl (cleanGL _) rfl (.cons rfl .I (.L rfl (cleanI _) (congrArg (Value.int .i64) (h3w.symm)) .nil)))))⟩
  ·obtain ⟨h4b,h4c,h4n,h4w⟩:=U.at4 iL_map p (t) q (ho2);obtain ⟨k,rfl,hk⟩:=ho3 t (by simp)
   have hkp:(k:Int)∉p:=fun h=>by
    have:=(List.nodup_append.1 ho1).2.2 _ h (k:Int) (by simp)
    exact this rfl
   have htk:tHd (pre++(p++(k:Int)::q)::rest).length ((k:Int)::q)=k:=rfl;rw[htk,if_pos hk];have hgk:k.blt (gL (pre++(p++(k:Int)::q)::rest)).length=true:=by rw[gL_len];exact bLe hk
   have hn6:=cellsN_nth (n:=(pre++(p++(k:Int)::q)::rest).length) (R:=mid pre p) (nm:=nmT k) hk;have hst:∀v:Value,0+k*1+[v].length≤(cellsN (pre++(p++(k:Int)::q)::rest).length (mid pre p) (nmT k)).length:=fun v=>by
    simp[cellsN] at *
    omega
   rcases hR:mid pre p k with _|⟨y,ys⟩
   ·rw[hR] at hn6;(repeat' ((conv=>whnf);first|refine goD ?_|refine U.lw_c ?_ ?_<;>intro hb))
    (conv=>whnf);(conv in (nth _ _)=>(change nth _ (0+k*1);rw[hn6]))
    (repeat' ((conv=>whnf);first|refine goA ?_|refine U.catC_p ?_|refine U.storeC_p (hst _) ?_|refine goB ?_|refine U.lw_c ?_ ?_<;>intro hb))
    (conv=>whnf);refine ⟨(p++[(k:Int)],q),by simp,by simp,cov_T (nm:=fun j=>if j=k then 131330 else 65793+j) (rows_S (R:=mid pre p) (R':=mid pre (p++[(k:Int)])) (x:=(pre.length:Int)) hn hk (mid_same pre p k hkp) (fun c hc=>mid_other pre p k c hc) ?_ ?_ (fun p=>rfl)) hn _ _ rfl (.K rfl rfl rfl (.cons rfl (.S rfl rfl rfl) (.cons rfl .I (.L rfl (cleanGL _) rfl (.cons rfl .I (.cons rfl .I (.L rfl (cleanIL _) rfl (.cons rfl .I (.L rfl (cleanI _) (congrArg (Value.int .i64) (h4w.symm)) .nil)))))))))⟩
    ·refine (congrArg (fun l=>some (U.Blk.cells 36 l false)) (cellsN_set (c:=131330) (R:=mid pre p) (R':=mid pre (p++[(k:Int)])) hk (fun c hc=>mid_other pre p k c hc) ?_)).symm
     rw[mid_same pre p k hkp,hR];rfl
    ·rw[hR];rfl
   ·rw[hR,show nmT k k=65537 by simp[nmT]] at hn6
    have hmi:ys.length+1≤65000:=by
     have h5:(mid pre p k).length≤pre.length+1:=by
      unfold mid;have:=froms_len pre k;rw[List.length_append];split<;>simp<;>omega
     rw[hR] at h5;simp at h5 hn
     omega
    have hb7:(Nat.ble (((iL ys).length+1+(0+1))*8) 140737488355328&&Nat.ble ((iL ys).length+1+(0+1)) 1000000)=true:=by
     rw[iL_len,bLe (by omega),bLe (by omega)];rfl
    (repeat' ((conv=>whnf);first|refine goD ?_|refine U.lw_c ?_ ?_<;>intro hb))
    (conv=>whnf);(conv in (nth _ _)=>(change nth _ (0+k*1);rw[hn6]))
    (repeat' ((conv=>whnf);first|refine goA ?_|refine U.ob_c hb7 ?_|(rw[ble_f];dsimp only;refine growRow_p (by rw[show Value.int .i64 y::List.map (Value.int .i64) ys=iL (y::ys) from rfl,cellsI,iL_len,iL_len];simp) rfl ?_)|refine U.catC_p ?_|refine U.storeC_p (hst _) ?_|refine goB ?_|refine U.lw_c ?_ ?_<;>intro hb))
    (conv=>whnf);rw[ble_f];dsimp only;have hyl:(cellsAll (iL (y::ys))).length=((iL ys).length+1)*(0+1):=by rw[cellsI,iL_len,iL_len];simp
    refine growRow_p hyl rfl ?_;(repeat' ((conv=>whnf);first|refine goA ?_|refine U.storeC_p (hst _) ?_|refine goB ?_|refine U.lw_c ?_ ?_<;>intro hb))
    (conv=>whnf);refine ⟨(p++[(k:Int)],q),by simp,by simp,cov_T (nm:=fun j=>if j=k then 131330 else 65793+j) (rows_S (R:=mid pre p) (R':=mid pre (p++[(k:Int)])) (x:=(pre.length:Int)) hn hk (mid_same pre p k hkp) (fun c hc=>mid_other pre p k c hc) ?_ ?_ (fun p=>rfl)) hn _ _ rfl (.K rfl rfl rfl (.cons rfl (.S rfl rfl rfl) (.cons rfl .I (.L rfl (cleanGL _) rfl (.cons rfl .I (.cons rfl .I (.L rfl (cleanIL _) rfl (.cons rfl .I (.L rfl (cleanI _) (congrArg (Value.int .i64) (h4w.symm)) .nil)))))))))⟩
    ·refine (congrArg (fun l=>some (U.Blk.cells 36 l false)) (cellsN_set (c:=131330) (R:=mid pre p) (R':=mid pre (p++[(k:Int)])) hk (fun c hc=>mid_other pre p k c hc) ?_)).symm
     rw[mid_same pre p k hkp,hR];exact rowS_snoc _ _ _ _
    ·rw[hR];exact congrArg (fun l=>some (U.Blk.cells 3 l true)) (by show cellsAll (iL (y::ys))++iL [(pre.length:Int)]=_;rw[cellsI,← iL_app])
abbrev gt0 (L:List Int) (i:Nat):Int:=L.getD i 0
structure DownI (i0 i:Nat) (L:List Int) (n:Nat):Prop where
 le:i0≤i
 rest:∀k,0<k->k<n->i0≤(k-1) / 2->(k-1) / 2≠i->gt0 L ((k-1) / 2)≤gt0 L k
 up:i0<i->i0≤(i-1) / 2∧∀k,0<k->k<n->(k-1) / 2=i->gt0 L ((i-1) / 2)≤gt0 L k
structure UpI (j:Nat) (L:List Int) (n:Nat):Prop where
 rest:∀k,0<k->k<n->k≠j->gt0 L ((k-1) / 2)≤gt0 L k
 down:0<j->∀k,0<k->k<n->(k-1) / 2=j->gt0 L ((j-1) / 2)≤gt0 L k
theorem froms_mem {R:List (List Int)}{u:Nat}{c:Int}:c∈froms R u↔∃i:Nat,i<R.length∧c=(i:Int)∧(u:Int)∈R.getD i []:=by
 simp only[froms,List.mem_map,List.mem_filter,List.mem_range,decide_eq_true_eq];constructor
 ·rintro ⟨i,⟨h1,h2⟩,rfl⟩
  exact ⟨i,h1,rfl,h2⟩
 ·rintro ⟨i,h1,rfl,h2⟩
  exact ⟨i,⟨h1,h2⟩,rfl⟩
inductive AE where
 |mk (k n:Int) (nm:ByteArray) (o:Int) (l:List AE) (ln cl:Int)
mutual
def encA:AE->Value
 |.mk k n nm o l ln cl=>.agg ⟨[.int .i64 k,.int .i64 n,.string nm,.int .i64 o,imS (encAs l),.int .i64 ln,.int .i64 cl]⟩
def encAs:List AE->List Value
 |[]=>[]
 |e::l=>encA e::encAs l
end
theorem encAs_map:∀l,encAs l=l.map encA
 |[]=>rfl
 |e::l=>by rw[encAs,encAs_map l];rfl
theorem cleanA_cells:∀(e:AE),∀c∈cellsOf (encA e),NoNm c
 |.mk k n nm o l ln cl,c,hc=>by
  simp only[encA,cellsOf,List.mem_cons,List.not_mem_nil,or_false] at hc;rcases hc with rfl|rfl|rfl|rfl|rfl|rfl|rfl
  ·exact .flat _ rfl
  ·exact .flat _ rfl
  ·exact .flat _ rfl
  ·exact .flat _ rfl
  ·refine .ims _ fun c hc=>?_
   rw[encAs_map] at hc;obtain ⟨v,hv,hc⟩:=List.mem_flatMap.1 hc;obtain ⟨e,he,rfl⟩:=List.mem_map.1 hv;exact cleanA_cells e c hc
  ·exact .flat _ rfl
  ·exact .flat _ rfl
theorem cleanA (e:AE):NoNm (encA e):=by
 have h:=cleanA_cells e;cases e with
 |mk k n nm o l ln cl =>
  rw[encA] at h ⊢;exact .agg _ h
theorem cleanACells (l:List AE):∀c,c∈cellsAll (encAs l)->NoNm c:=fun c hc=>by
 rw[encAs_map] at hc;obtain ⟨v,hv,hc⟩:=List.mem_flatMap.1 hc;obtain ⟨e,he,rfl⟩:=List.mem_map.1 hv;exact cleanA_cells e c hc
theorem cleanAs (l:List AE):NoNm (imS (encAs l)):=.ims _ (cleanACells l)
inductive AS6 where
 |mk (k:Int) (nm:ByteArray) (xs:List AE) (th el:List AS6) (ln cl:Int)
mutual
def encT:AS6->Value
 |.mk k nm xs th el ln cl=>.agg ⟨[.int .i64 k,.string nm,imS (encAs xs),imS (encTs th),imS (encTs el),.int .i64 ln,.int .i64 cl]⟩
def encTs:List AS6->List Value
 |[]=>[]
 |e::l=>encT e::encTs l
end
theorem encTs_map:∀l,encTs l=l.map encT
 |[]=>rfl
 |e::l=>by rw[encTs,encTs_map l];rfl
theorem cleanT_cells:∀(e:AS6),∀c∈cellsOf (encT e),NoNm c
 |.mk k nm xs th el ln cl,c,hc=>by
  simp only[encT,cellsOf,List.mem_cons,List.not_mem_nil,or_false] at hc;rcases hc with rfl|rfl|rfl|rfl|rfl|rfl|rfl
  ·exact .flat _ rfl
  ·exact .flat _ rfl
  ·exact cleanAs xs
  ·refine .ims _ fun c hc=>?_
   rw[encTs_map] at hc;obtain ⟨v,hv,hc⟩:=List.mem_flatMap.1 hc;obtain ⟨e,he,rfl⟩:=List.mem_map.1 hv;exact cleanT_cells e c hc
  ·refine .ims _ fun c hc=>?_
   rw[encTs_map] at hc;obtain ⟨v,hv,hc⟩:=List.mem_flatMap.1 hc;obtain ⟨e,he,rfl⟩:=List.mem_map.1 hv;exact cleanT_cells e c hc
  ·exact .flat _ rfl
  ·exact .flat _ rfl
theorem cleanTCells (l:List AS6):∀c,c∈cellsAll (encTs l)->NoNm c:=fun c hc=>by
 rw[encTs_map] at hc;obtain ⟨v,hv,hc⟩:=List.mem_flatMap.1 hc;obtain ⟨e,he,rfl⟩:=List.mem_map.1 hv;exact cleanT_cells e c hc
theorem cleanT6 (e:AS6):NoNm (encT e):=by
 have h:=cleanT_cells e;cases e with
 |mk k nm xs th el ln cl =>
  rw[encT] at h ⊢;exact .agg _ h
theorem cleanT6s (l:List AS6):NoNm (imS (encTs l)):=.ims _ (cleanTCells l)
mutual
def szA:AE->Nat
 |.mk _ _ _ _ l _ _=>szAs l+1
def szAs:List AE->Nat
 |[]=>0
 |e::l=>szA e+szAs l
end
mutual
def szT:AS6->Nat
 |.mk _ _ xs th el _ _=>szAs xs+szTs th+szTs el+1
def szTs:List AS6->Nat
 |[]=>0
 |e::l=>szT e+szTs l
end
theorem szA_pos:∀e:AE,0<szA e
 |.mk _ _ _ _ l _ _=>by rw[szA];omega
theorem szT_pos:∀e:AS6,0<szT e
 |.mk _ _ xs th el _ _=>by rw[szT];omega
theorem szAs_len:∀l:List AE,l.length≤szAs l
 |[]=>Nat.zero_le _
 |e::l=>by
  have:=szAs_len l;have:=szA_pos e;rw[szAs,List.length_cons];omega
theorem szTs_len:∀l:List AS6,l.length≤szTs l
 |[]=>Nat.zero_le _
 |e::l=>by
  have:=szTs_len l;have:=szT_pos e;rw[szTs,List.length_cons];omega
theorem szAs_mem:∀{l:List AE}{e:AE},e∈l->szA e≤szAs l
 |x::l,e,h=>by
  rw[szAs];rcases List.mem_cons.1 h with rfl|h
  ·omega
  ·have:=szAs_mem h;omega
theorem szTs_mem:∀{l:List AS6}{e:AS6},e∈l->szT e≤szTs l
 |x::l,e,h=>by
  rw[szTs];rcases List.mem_cons.1 h with rfl|h
  ·omega
  ·have:=szTs_mem h;omega
end Go.Proofs.YtcihknonfcldeaaDoor
