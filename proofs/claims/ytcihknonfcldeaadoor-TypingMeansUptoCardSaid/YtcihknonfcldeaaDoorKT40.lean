
import Derived.Test.YtcihknonfcldeaaDoorKT33
namespace Go.Proofs.YtcihknonfcldeaaDoor
open Go Go.RowKit Go.Sort U
set_option linter.unusedVariables false
set_option linter.unusedSimpArgs false
set_option maxRecDepth 100000
set_option maxHeartbeats 40000000
def bdL (l:List (List AS6)):List Value:=l.map fun b=>imS (encTs b)
theorem bdL_map (l:List (List AS6)):bdL l=l.map fun b=>imS (encTs b):=rfl
theorem bdL_1 {l:List (List AS6)}:∀y,y∈bdL l->(cellsOf y).length=1:=fun y hy=>by
 obtain ⟨b,_,rfl⟩:=List.mem_map.1 hy;rfl
theorem cleanBdC (l:List (List AS6)):∀x,x∈cellsAll (bdL l)->NoNm x:=fun c hc=>by
 obtain ⟨v,hv,hc⟩:=List.mem_flatMap.1 hc;obtain ⟨b,_,rfl⟩:=List.mem_map.1 hv;rw[show cellsOf (imS (encTs b))=[imS (encTs b)] from rfl,List.mem_singleton] at hc
 subst hc;exact cleanT6s b
theorem cleanBdL (l:List (List AS6)):NoNm (imS (bdL l)):=.ims _ (cleanBdC l)
theorem cellsBd (l:List (List AS6)):cellsAll (bdL l)=bdL l:=by
 induction l with
 |nil=>rfl
 |cons b l ih =>
  rw[bdL,List.map_cons,cellsAll,List.flatMap_cons];rw[bdL,cellsAll] at ih;rw[ih];rfl
def uOf (ns:List ByteArray) (rows:List (List Int)):Value:=.tuple ⟨[.agg ⟨[rowS 0 (sL ns),sV 1 rows]⟩,fltV 0 0 0]⟩
def hOf (ns:List ByteArray) (rows:List (List Int)):List (Option U.Blk):=rowO 9 (sL ns)::sB (fun k=>2+k) rows::famR rows.length (Rf rows) rows.length
def OfQ (p:APr) (u:Value) (s:AS):Prop:=match ofG p with
 |.inl rows=>U.RetR s u (uOf (namesD p.ds) rows) (hOf (namesD p.ds) rows)
 |.inr f=>u=.tuple ⟨[.agg ⟨[.slice none 0 0,.slice none 0 0]⟩,fltV f.1 f.2 120]⟩
theorem sameM_new {m:MSI}{ns:List ByteArray}{nm:ByteArray}(h:∀s,getM m s=getM (mOf ns) s):∀s,getM (m++[(nm,(((sL ns).length:Nat):Int))]) s=getM (mOf (ns++[nm])) s:=fun s=>by
 rw[mOf_snoc,getM_app,getM_app,h s,sL_len]
theorem sameM_old {a b:MSI}{u:Int}{ns:List ByteArray}{nm:ByteArray}(hz:nm∉a.map (·.1)) (h:∀s,getM (a++(nm,u)::b) s=getM (mOf ns) s):∀s,getM (a++(nm,u)::b) s=getM (mOf (ns++[nm])) s:=fun s=>by
 rw[mOf_snoc,h s,getM_app];cases hg:getM (mOf ns) s with
 |some i=>rfl
 |none =>
  dsimp only;rw[getM,if_neg,getM];rintro rfl
  rw[← h,getM_mid hz] at hg;cases hg
theorem rowOS_ren {n:Nat}{ρ:U.Ren}{ns:List ByteArray}{b:U.Blk}(h:rowO 9 (sL ns)=some b):U.RenB n ρ b b:=by
 cases ns with
 |nil=>cases h
 |cons x ns=>cases h;exact .row _ _ _ _ (cleanSC (x::ns)) rfl
theorem cov_Of {P:Program}{N:Nat}{fr:Tr Value}{sh:Tr U.Blk}{nx c0:Nat}{l:List (Nat×Value)}{rows:List (List Int)}{nm:Nat->Nat}{p:APr}{ns:List ByteArray}{m:MSI}(h:RowsX sh c0 rows.length (Rf rows) nm) (hn:rows.length≤65000) (hc:9≤c0) (hnm:∀j,j<rows.length->Rf rows j≠[]->9≤nm j)
  (g0:sh.get 0=some (bPr p)) (g1:sh.get 1=some (bGr (.slice none 0 0) (.slice none 0 0))) (g2:sh.get 2=some bF) (g3:sh.get 3=some (bGr (rowS 5 (sL ns)) (sV c0 rows))) (g4:sh.get 4=some (mS m)) (g5:sh.get 5=rowO 9 (sL ns)) (hf:slotsRen fr 9 ⟨fun k=>k,fun _ _=>False⟩ l):Cov P N 9 fr ⟨sh,nx,0,0⟩ (mkF l) (stOf p ns m rows):=by
 have hρ:∀k,k<9->(fun k=>if k=250 then c0 else if 257≤k∧k<257+rows.length then nm (k-257) else k) k=k:=fun k hk=>by
  show (if k=250 then c0 else if 257≤k∧k<257+rows.length then nm (k-257) else k)=k
  rw[if_neg (by omega),if_neg (by omega)]
 refine cov_RX h (XO p ns m (sV 250 rows)) nmO (fun k=>if k=250 then c0 else if 257≤k∧k<257+rows.length then nm (k-257) else k) _ 65537 (by omega) hρ (c:=250) ⟨by omega,rfl⟩ (fun j hj=>⟨by unfold nmO;omega,?_⟩) (fun k hk=>?_) ?_ (fun k b hk=>?_) (hf.conv (by omega) hρ)
 ·show (if nmO j=250 then c0 else if 257≤nmO j∧nmO j<257+rows.length then nm (nmO j-257) else nmO j)=nm j
  have e:nmO j=257+j:=rfl;rw[e,if_neg (by omega),if_pos (by omega),Nat.add_sub_cancel_left]
 ·simp only[List.map_cons,List.map_nil,List.mem_cons,List.not_mem_nil,or_false] at hk;refine ⟨by omega,by omega,fun j hj hr=>?_⟩
  have:=hnm j hj hr;omega
 ·exact .cons g0 (.row _ _ _ _ (cleanPr_cells p) rfl) (.cons g1 (.cells _ _ _ _ (.K rfl rfl (.K rfl rfl .nil))) (.cons g2 (.cells _ _ _ _ (.K rfl rfl (.K rfl rfl (.K rfl rfl .nil)))) (.cons g3 (.cells _ _ _ _ (.cons (.ofRow (by omega) rfl rfl) (.cons (sV_ren rows (by omega) rfl) .nil))) (.cons g4 (.map _ _ _ (mS_noNm _)) ⟨fun b hb=>⟨b,g5.trans hb,rowOS_ren hb⟩,trivial⟩))))
 ·rcases mkOB_get hk with hk|hk
  ·rw[show ([(0,some (bPr p)),(1,some (bGr (.slice none 0 0) (.slice none 0 0))),(2,some bF),(3,some (bGr (rowS 5 (sL ns)) (sV 250 rows))),(4,some (mS m)),(5,rowO 9 (sL ns)),(250,sB nmO rows)]:List (Nat×Option U.Blk))=XO p ns m (sV 250 rows)++[(250,sB nmO rows)] from rfl,List.mem_append] at hk
   rcases hk with hk|hk
   ·exact .inr (.inr hk)
   ·simp only[List.mem_cons,Prod.mk.injEq,List.not_mem_nil,or_false] at hk;obtain ⟨q1,q2⟩:=sB_some hk.2.symm;exact .inl ⟨hk.1,q1,q2⟩
  ·obtain ⟨j,rfl,h1,h2⟩:=base1_get (by rw[famR_len];omega) hk
   obtain ⟨q1,_,q3,q4⟩:=famR_at h2;exact .inr (.inl ⟨j,q1,rfl,q3,q4⟩)
theorem sV_snoc (c:Nat) (r0:List Int) (rows:List (List Int)) (r:List Int):sV c (r0::rows++[r])=.slice (some ⟨c,0,none⟩) (rows.length+1+(0+1)) (rows.length+1+(0+1)):=by
 show Value.slice (some ⟨c,0,none⟩) ((rows++[r]).length+1) ((rows++[r]).length+1)=_
 rw[List.length_append];rfl
def nmP (n k:Nat):Nat:=if k=n then 65537 else 257+k
theorem rowsX_snoc {sh:Tr U.Blk}{rows:List (List Int)}{r:List Int}(hn:rows.length≤65000) (g0:sh.get 65540=some (.cells 36 (cellsN rows.length (Rf rows) nmO++[rowS 65537 (iL r)]) true)) (g1:sh.get 65537=bI r) (g2:∀p,Tr.at (.r (.l p)) sh=Tr.at p (gTr 256 (famR rows.length (Rf rows) rows.length))):RowsX sh 65540 (rows++[r]).length (Rf (rows++[r])) (nmP rows.length):=by
 have hl:(rows++[r]).length=rows.length+1:=by simp
 have hR:Rf (rows++[r]) rows.length=r:=Rf_mid;refine ⟨fun _=>?_,fun k hk hr=>?_,fun k k' hk hk' _ _ e=>?_,fun k hk _=>?_⟩
 ·rw[g0,hl,cellsN_succ,hR,show nmP rows.length rows.length=65537 by simp[nmP]]
  congr 3
  exact cellsN_cg fun k hk=>⟨(Rf_app hk).symm,by show 257+k=nmP rows.length k;unfold nmP;rw[if_neg (by omega)]⟩
 ·rw[hl] at hk;by_cases hkn:k=rows.length
  ·subst hkn;rw[hR] at hr ⊢;rw[show nmP rows.length rows.length=65537 by simp[nmP],g1]
   cases r with
   |nil=>exact absurd rfl hr
   |cons x r =>
    show some (U.Blk.cells 3 (cellsAll (iL (x::r))) true)=_
    rw[cellsI]
  ·have hk2:k<rows.length:=by omega
   rw[Rf_app hk2] at hr ⊢;rw[show nmP rows.length k=257+k by unfold nmP;rw[if_neg hkn],src1 g2 (by rw[famR_len];omega) (by rw[famR_len];exact hk2),famR_to hk2 (by omega) hr]
 ·rw[hl] at hk hk'
  unfold nmP at e;split at e<;>split at e<;>omega
 ·rw[hl] at hk;unfold nmP;split<;>omega
theorem ret_Of {s:AS}{ns:List ByteArray}{rows:List (List Int)}(hn:rows.length≤65000) (g5:s.heap.get 5=rowO 9 (sL ns)) (g6:s.heap.get 250=sB nmO rows) (g2:∀p,Tr.at (.r (.l p)) s.heap=Tr.at p (gTr 256 (famR rows.length (Rf rows) rows.length))):U.RetR s (.tuple ⟨[.agg ⟨[rowS 5 (sL ns),sV 250 rows]⟩,fltV 0 0 0]⟩) (uOf ns rows) (hOf ns rows):=by
 have hl:(hOf ns rows).length=rows.length+2:=by simp[hOf,famR_len]
 have hρ:∀j,(fun k=>if k=0 then 5 else if k=1 then 250 else 255+k) (2+j)=257+j:=fun j=>by
  show (if 2+j=0 then 5 else if 2+j=1 then 250 else 255+(2+j))=257+j
  rw[if_neg (by omega),if_neg (by omega)];omega
 refine ⟨fun k=>if k=0 then 5 else if k=1 then 250 else 255+k,?_,fun k b hk=>?_,fun k k' b b' hk hk' e=>?_⟩
 ·refine .tup _ _ rfl fun i a b ha hb=>?_
  rcases i with _|_|i
  ·cases ha;cases hb;exact RenV.aggL (.cons (.ofRow (by rw[hl];omega) rfl rfl) (.cons (sV_ren rows (by rw[hl];omega) rfl) .nil))
  ·cases ha;cases hb;exact .F rfl rfl
  ·simp at ha
 ·rcases k with _|_|j
  ·have hk:rowO 9 (sL ns)=some b:=Option.some.inj hk;refine ⟨b,g5.trans hk,?_⟩;cases ns with
   |nil=>cases hk
   |cons x ns=>cases hk;exact .row _ _ _ _ (cleanSC (x::ns)) rfl
  ·have hk:sB (fun k=>2+k) rows=some b:=Option.some.inj hk
   obtain ⟨q1,rfl⟩:=sB_some hk;refine ⟨_,g6.trans (sB_get q1),.cells _ _ _ _ (RenL.maps _ fun j hj=>?_)⟩
   have hj:=List.mem_range.1 hj;exact .ofRow (by rw[hl];show 2+j<_;omega) (hρ j) rfl
  ·have hk:(famR rows.length (Rf rows) rows.length)[j]?=some (some b):=hk;obtain ⟨q1,q2,q3,rfl⟩:=famR_at hk;refine ⟨_,?_,.row _ _ _ _ (by have:=cleanIC (Rf rows j);rwa [cellsI] at this) rfl⟩
   rw[show j+1+1=2+j by omega,hρ j,src1 g2 (by rw[famR_len];omega) (by rw[famR_len];exact q1),famR_to q1 q2 q3]
 ·have e:(if k=0 then 5 else if k=1 then 250 else 255+k)=(if k'=0 then 5 else if k'=1 then 250 else 255+k'):=e
  rcases k with _|_|k<;>rcases k' with _|_|k'<;>simp at e ⊢<;>omega
theorem of_at (p:APr) (hf:FewA p) (Ts:Nat->TypeId):SoundAt Tryd.prog 12 [encPr p] (U.start [] Ts) (OfQ p):=by
 refine SoundAt.body hmixU Tryd.func12 rfl rfl rfl 0 ?_;have fd:=hf.dl;have fz:=hf.sz;obtain ⟨ds,mn⟩:=p;unfold szPr at fz;dsimp only at fd fz;have cm:=cleanT6s mn;(repeat' ((conv=>whnf);first|refine goD ?_|refine U.drawX_m (D:=U.propX) 3 [] (by decide +kernel) (by decide +kernel) (by decide +kernel) ?_|refine U.lw_c ?_ ?_<;>intro hb))
 (conv=>whnf);refine loop_inv (α:=List ADc×List ADc×MSI) (fun x=>x.1++x.2.1=ds∧∀s,getM x.2.2 s=getM (mOf (namesD x.1)) s) (fun x=>(mkF [(1,.pointer (some ⟨0,0,none⟩)),(2,.pointer (some ⟨1,0,none⟩)),(3,.pointer (some ⟨2,0,none⟩)),(4,.pointer (some ⟨3,0,none⟩)),(5,rowS 6 (bdL (bodsD x.1))),(6,.map (some 4)),(17,imS (encDcs ds)),(18,.int .i64 (encDcs ds).length),(19,.int .i64 x.1.length)],⟨mkO [(0,some (bPr ⟨ds,mn⟩)),(1,some (bGr (.slice none 0 0) (.slice none 0 0))),(2,some bF),(3,some (bGr (rowS 5 (sL (namesD x.1))) (.slice none 0 0))),(4,some (mS x.2.2)),(5,rowO 9 (sL (namesD x.1))),(6,rowO 23 (bdL (bodsD x.1)))],7,0,0⟩)) (fun x=>x.2.1.length) ([],ds,[]) ⟨rfl,fun _=>rfl⟩ (by exact (Cov.renI rfl rfl rfl rfl (.W rfl (cleanPr_cells ⟨ds,mn⟩) rfl (.C rfl (.K rfl rfl (.K rfl rfl .nil)) (.C rfl (.K rfl rfl (.K rfl rfl (.K rfl rfl .nil))) (.C rfl (.K rfl rfl (.K rfl rfl .nil)) (.cons rfl (.map _ _ _ (mS_noNm _)) (.none (.none .nil))))))) (.cons rfl (.P rfl) (.cons rfl (.P rfl) (.cons rfl (.P rfl) (.cons rfl (.P rfl) (.K rfl rfl rfl (.cons rfl (.mp _ _ (by decide) rfl) (.L rfl (cleanDcs _) rfl (.cons rfl .I (.cons rfl .I .nil))))))))))) ?_
 rintro ⟨pre,rest,m⟩ ⟨p1,hm⟩
 dsimp only at p1 hm;subst p1;dsimp only;rcases rest with _|⟨d,rest⟩
 ·rw[List.append_nil] at *;have zb:=U.lt_no encDcs_map pre;have hres:ofG ⟨pre,mn⟩=rowsL m (bodsD pre++[mn]):=rowsL_cg (fun s=>(hm s).symm) _
  have hlN:(namesD pre).length≤pre.length:=by rw[namesD,List.length_map];exact List.length_filter_le ..
  have hlB:(bodsD pre).length=(namesD pre).length:=by rw[namesD,bodsD,List.length_map,List.length_map]
  have hB2:∀b∈bodsD pre++[mn],szTs b≤300:=fun b hb=>by
   rcases List.mem_append.1 hb with hb|hb
   ·obtain ⟨d,hd,rfl⟩:=List.mem_map.1 hb;have:=szDs_mem (List.mem_filter.1 hd).1;omega
   ·rw[List.mem_singleton] at hb;subst hb;omega
  have hB1:(bodsD pre++[mn]).length≤301:=by rw[List.length_append,List.length_singleton];omega
  obtain ⟨BB,hBB⟩:∃BB,BB=bodsD pre++[mn]:=⟨_,rfl⟩
  rw[← hBB] at hres hB1 hB2;obtain ⟨ns,hns⟩:∃ns,ns=namesD pre:=⟨_,rfl⟩
  obtain ⟨bs,hbs⟩:∃bs,bs=bodsD pre:=⟨_,rfl⟩
  rw[← hbs] at hBB hlB ⊢;rw[← hns] at hlB hlN ⊢;rcases bs with _|⟨b0,bs⟩
  ·(repeat' ((conv=>whnf);first|refine goD ?_|refine U.lw_c ?_ ?_<;>intro hb))
   (conv=>whnf);refine loop_inv (α:=List (List AS6)×List (List AS6)×List (List Int)) (fun x=>x.1++x.2.1=BB∧rowsL m x.1=.inl x.2.2) (fun x=>(mkF [(1,.pointer (some ⟨0,0,none⟩)),(2,.pointer (some ⟨1,0,none⟩)),(3,.pointer (some ⟨2,0,none⟩)),(4,.pointer (some ⟨3,0,none⟩)),(6,.map (some 4)),(58,imS (bdL BB)),(59,.int .i64 (bdL BB).length),(60,.int .i64 x.1.length)],stOf ⟨pre,mn⟩ ns m x.2.2)) (fun x=>x.2.1.length) ([],BB,[]) ⟨rfl,rfl⟩ (by
    rw[hBB];refine ((Cov.renI rfl rfl rfl rfl (.W rfl (cleanPr_cells ⟨pre,mn⟩) rfl (.C rfl (.K rfl rfl (.K rfl rfl .nil)) (.C rfl (.K rfl rfl (.K rfl rfl (.K rfl rfl .nil))) (.C rfl (.cons (.ofRow (by decide) rfl rfl) (.K rfl rfl .nil)) (.cons rfl (.map _ _ _ (mS_noNm _)) (blksO.row rfl rfl (cleanSC _) (blksO.grown rfl rfl (cleanBdC _) .nil))))))) (.cons rfl (.P rfl) (.cons rfl (.P rfl) (.cons rfl (.P rfl) (.cons rfl (.P rfl) (.cons rfl (.mp _ _ (by decide) rfl) (.cons rfl (.grown (by decide) rfl (by simp[bdL]) (by simp[bdL]) (by simp[bdL])) (.cons rfl .I (.cons rfl .I .nil))))))))):Cov _ _ _ _ _ (mkF [(1,.pointer (some ⟨0,0,none⟩)),(2,.pointer (some ⟨1,0,none⟩)),(3,.pointer (some ⟨2,0,none⟩)),(4,.pointer (some ⟨3,0,none⟩)),(6,.map (some 4)),(58,rowS 8 (bdL ([]++[mn]))),(59,.int .i64 (bdL ([]++[mn])).length),(60,.int .i64 0)]) ⟨mkO [(0,some (bPr ⟨pre,mn⟩)),(1,some (bGr (.slice none 0 0) (.slice none 0 0))),(2,some bF),(3,some (bGr (rowS 5 (sL ns)) (.slice none 0 0))),(4,some (mS m)),(5,rowO 9 (sL ns)),(8,rowO 23 (bdL ([]++[mn])))],9,0,0⟩).trans ?_
    refine (Cov.frz (fun k=>k) 8 1 (T:=23) (ys:=bdL ([]++[mn])) rfl rfl (bR rfl) zL (fun _ _=>rfl) rfl nlz zL rfl rfl bdL_1 (cleanBdC _) (.W rfl (cleanPr_cells ⟨pre,mn⟩) rfl (.C rfl (.K rfl rfl (.K rfl rfl .nil)) (.C rfl (.K rfl rfl (.K rfl rfl (.K rfl rfl .nil))) (.C rfl (.cons (.ofRow (by decide) rfl rfl) (.K rfl rfl .nil)) (.cons rfl (.map _ _ _ (mS_noNm _)) (blksO.row rfl rfl (cleanSC _) .nil)))))) (.cons rfl (.P rfl) (.cons rfl (.P rfl) (.cons rfl (.P rfl) (.cons rfl (.P rfl) (.cons rfl (.mp _ _ (by decide) rfl) (.cons rfl (.ext _ _ ⟨rfl,rfl⟩) (.cons rfl .I (.cons rfl .I .nil)))))))):Cov _ _ _ _ _ (mkF [(1,.pointer (some ⟨0,0,none⟩)),(2,.pointer (some ⟨1,0,none⟩)),(3,.pointer (some ⟨2,0,none⟩)),(4,.pointer (some ⟨3,0,none⟩)),(6,.map (some 4)),(58,imS (bdL ([]++[mn]))),(59,.int .i64 (bdL ([]++[mn])).length),(60,.int .i64 0)]) ⟨mkO [(0,some (bPr ⟨pre,mn⟩)),(1,some (bGr (.slice none 0 0) (.slice none 0 0))),(2,some bF),(3,some (bGr (rowS 5 (sL ns)) (.slice none 0 0))),(4,some (mS m)),(5,rowO 9 (sL ns))],9,0,0⟩).trans ?_
    exact cov_Of (c0:=250) (nm:=nmO) (rows:=[]) ⟨fun h=>absurd rfl h,fun k h=>absurd h (Nat.not_lt_zero k),fun k _ h=>absurd h (Nat.not_lt_zero k),fun k h=>absurd h (Nat.not_lt_zero k)⟩ zL (by omega) (fun k h=>absurd h (Nat.not_lt_zero k)) rfl rfl rfl rfl rfl rfl (.cons rfl (.P rfl) (.cons rfl (.P rfl) (.cons rfl (.P rfl) (.cons rfl (.P rfl) (.cons rfl (.mp _ _ (by decide) rfl) (.L rfl (cleanBdL _) rfl (.cons rfl .I (.cons rfl .I .nil))))))))) ?_
   rintro ⟨bpre,brest,rows⟩ ⟨q1,q2⟩
   dsimp only at q1 q2;dsimp only;have hrl:=rowsL_len q2;have hqb:(bpre++brest).length≤301:=by rw[q1];exact hB1
   have hn:rows.length≤65000:=by rw[List.length_append] at hqb;omega
   rcases brest with _|⟨b,brest⟩
   ·rw[List.append_nil] at q1;have hend:decide (((bpre.length:Nat):Int)<(((bdL BB).length:Nat):Int))=false:=decide_eq_false (by rw[bdL,List.length_map,← q1];omega)
    have hgo:[rowS 5 (sL ns),sV 250 rows].all Value.oneCell'=true:=by cases ns<;>cases rows<;>rfl
    (repeat' ((conv=>whnf);first|refine goA ?_|refine U.ob_c hgo ?_|refine goB ?_|refine U.lw_c ?_ ?_<;>intro hb))
    (conv=>whnf);show OfQ _ _ _
    unfold OfQ;rw[hres,← q1,q2];dsimp only;rw[← hns];refine ret_Of hn ?_ ?_ ?_
    ·rfl
    ·rfl
    ·exact fun p=>rfl
   ·have hbm:=hB2 b (by rw[← q1];simp)
    rw[← q1];have z2b:=U.lt_yes bdL_map bpre (b) brest;have z2c:=U.blt_yes bdL_map bpre (b) brest;have z2n:=U.nth_at bdL_map bpre (b) brest;have z2w:=U.len_snoc (pre:=bpre) (x:=b) (post:=brest) ((Nat.le_trans hqb (by decide)))
    have kb:=cleanT6s b;(repeat' ((conv=>whnf);first|refine goD ?_|refine U.lw_c ?_ ?_<;>intro hb))
    (conv=>whnf);refine gatherO (p:=⟨pre,mn⟩) (ns:=ns) (m:=m) (rows:=rows) hn (gather_all 300 b m [] hbm hbm (by simp;omega)) (fun r hs=>?_) (fun f hs=>?_)
    ·have hq2:rowsL m (bpre++[b])=.inl (rows++[r]):=by
      rw[rowsL_app,q2];dsimp only;rw[rowsL,hs];rfl
     rcases rows with _|⟨r0,rows⟩
     ·rcases r with _|⟨x,r⟩
      all_goals (repeat' ((conv=>whnf);first|refine goD ?_|refine U.lw_c ?_ ?_<;>intro hb))
      all_goals (conv=>whnf)
      ·refine ⟨(bpre++[b],brest,[]++[[]]),⟨by simp,hq2⟩,by simp,?_⟩
       refine cov_Of (c0:=65540) (nm:=nmP ([]:List (List Int)).length) (rowsX_snoc hn ?_ ?_ ?_) (by simp at hrl hqb ⊢<;>omega) (by omega) (fun j _ _=>by unfold nmP;split<;>omega) ?_ ?_ ?_ ?_ ?_ ?_ (.cons rfl (.P rfl) (.cons rfl (.P rfl) (.cons rfl (.P rfl) (.cons rfl (.P rfl) (.cons rfl (.mp _ _ (by decide) rfl) (.L rfl (cleanBdL _) rfl (.cons rfl .I (.L rfl (cleanI _) (congrArg (Value.int .i64) (z2w.symm)) .nil))))))))
       ·rfl
       ·rfl
       ·exact fun p=>rfl
       ·rfl
       ·rfl
       ·rfl
       ·exact rfl
       ·rfl
       ·rfl
      ·refine ⟨(bpre++[b],brest,[]++[(x::r)]),⟨by simp,hq2⟩,by simp,?_⟩
       refine cov_Of (c0:=65540) (nm:=nmP ([]:List (List Int)).length) (rowsX_snoc hn ?_ ?_ ?_) (by simp at hrl hqb ⊢<;>omega) (by omega) (fun j _ _=>by unfold nmP;split<;>omega) ?_ ?_ ?_ ?_ ?_ ?_ (.cons rfl (.P rfl) (.cons rfl (.P rfl) (.cons rfl (.P rfl) (.cons rfl (.P rfl) (.cons rfl (.mp _ _ (by decide) rfl) (.L rfl (cleanBdL _) rfl (.cons rfl .I (.L rfl (cleanI _) (congrArg (Value.int .i64) (z2w.symm)) .nil))))))))
       ·rfl
       ·rfl
       ·exact fun p=>rfl
       ·rfl
       ·rfl
       ·rfl
       ·exact rfl
       ·rfl
       ·rfl
     ·have hgr3:(cellsN (r0::rows).length (Rf (r0::rows)) nmO).length=(rows.length+1)*1:=by rw[cellsN_len];simp
      have hg3:rows.length+1+(0+1)≤100000:=by simp at hn;omega
      rcases r with _|⟨x,r⟩
      all_goals (repeat' ((conv=>whnf);first|refine goA ?_|(rw[U.ble_f (rows.length+1)];dsimp only;refine U.growRow_p hgr3 rfl ?_)|refine U.ob_c (grow_ok (by decide +kernel) hg3) ?_|refine goB ?_|refine U.lw_c ?_ ?_<;>intro hb))
      all_goals (conv=>whnf)
      ·refine ⟨(bpre++[b],brest,(r0::rows)++[[]]),⟨by simp,hq2⟩,by simp,?_⟩
       refine cov_Of (c0:=65540) (nm:=nmP (r0::rows).length) (rowsX_snoc hn ?_ ?_ ?_) (by simp at hrl hqb ⊢<;>omega) (by omega) (fun j _ _=>by unfold nmP;split<;>omega) ?_ ?_ ?_ ?_ ?_ ?_ (.cons rfl (.P rfl) (.cons rfl (.P rfl) (.cons rfl (.P rfl) (.cons rfl (.P rfl) (.cons rfl (.mp _ _ (by decide) rfl) (.L rfl (cleanBdL _) rfl (.cons rfl .I (.L rfl (cleanI _) (congrArg (Value.int .i64) (z2w.symm)) .nil))))))))
       ·rfl
       ·rfl
       ·exact fun p=>rfl
       ·rfl
       ·rfl
       ·rfl
       ·exact congrArg (fun v=>some (bGr (rowS 5 (sL ns)) v)) (sV_snoc _ _ _ _).symm
       ·rfl
       ·rfl
      ·refine ⟨(bpre++[b],brest,(r0::rows)++[(x::r)]),⟨by simp,hq2⟩,by simp,?_⟩
       refine cov_Of (c0:=65540) (nm:=nmP (r0::rows).length) (rowsX_snoc hn ?_ ?_ ?_) (by simp at hrl hqb ⊢<;>omega) (by omega) (fun j _ _=>by unfold nmP;split<;>omega) ?_ ?_ ?_ ?_ ?_ ?_ (.cons rfl (.P rfl) (.cons rfl (.P rfl) (.cons rfl (.P rfl) (.cons rfl (.P rfl) (.cons rfl (.mp _ _ (by decide) rfl) (.L rfl (cleanBdL _) rfl (.cons rfl .I (.L rfl (cleanI _) (congrArg (Value.int .i64) (z2w.symm)) .nil))))))))
       ·rfl
       ·rfl
       ·exact fun p=>rfl
       ·rfl
       ·rfl
       ·rfl
       ·exact congrArg (fun v=>some (bGr (rowS 5 (sL ns)) v)) (sV_snoc _ _ _ _).symm
       ·rfl
       ·rfl
    ·(repeat' ((conv=>whnf);first|refine goD ?_|refine U.drawX_m (D:=U.propX) 3 [] (by decide +kernel) (by decide +kernel) (by decide +kernel) ?_|refine U.lw_c ?_ ?_<;>intro hb))
     (conv=>whnf);show OfQ _ _ _
     unfold OfQ;rw[hres,← q1,rowsL_app,q2];dsimp only;rw[rowsL,hs];exact rfl
  ·have hgr2:(cellsAll (imS (encTs b0)::List.map (fun b=>imS (encTs b)) bs)).length=((List.map (fun b=>imS (encTs b)) bs).length+1)*1:=by
    rw[show imS (encTs b0)::List.map (fun b=>imS (encTs b)) bs=bdL (b0::bs) from rfl,cellsBd,bdL,List.length_map,List.length_map];simp
   have hg2:(List.map (fun b=>imS (encTs b)) bs).length+1+(0+1)≤100000:=by rw[List.length_map];simp at hlN hlB;omega
   (repeat' ((conv=>whnf);first|refine goA ?_|(rw[U.ble_f ((List.map (fun b=>imS (encTs b)) bs).length+1)];dsimp only;refine U.growRow_p hgr2 rfl ?_)|refine U.ob_c (grow_ok (by decide +kernel) hg2) ?_|refine goB ?_|refine U.lw_c ?_ ?_<;>intro hb))
   (conv=>whnf);refine loop_inv (α:=List (List AS6)×List (List AS6)×List (List Int)) (fun x=>x.1++x.2.1=BB∧rowsL m x.1=.inl x.2.2) (fun x=>(mkF [(1,.pointer (some ⟨0,0,none⟩)),(2,.pointer (some ⟨1,0,none⟩)),(3,.pointer (some ⟨2,0,none⟩)),(4,.pointer (some ⟨3,0,none⟩)),(6,.map (some 4)),(58,imS (bdL BB)),(59,.int .i64 (bdL BB).length),(60,.int .i64 x.1.length)],stOf ⟨pre,mn⟩ ns m x.2.2)) (fun x=>x.2.1.length) ([],BB,[]) ⟨rfl,rfl⟩ (by
    rw[hBB];refine ((Cov.renI rfl rfl rfl rfl (.W rfl (cleanPr_cells ⟨pre,mn⟩) rfl (.C rfl (.K rfl rfl (.K rfl rfl .nil)) (.C rfl (.K rfl rfl (.K rfl rfl (.K rfl rfl .nil))) (.C rfl (.cons (.ofRow (by decide) rfl rfl) (.K rfl rfl .nil)) (.cons rfl (.map _ _ _ (mS_noNm _)) (blksO.row rfl rfl (cleanSC _) (blksO.grown rfl ((by rw[bdL,List.map_append];exact List.flatMap_append)) (cleanBdC _) .nil))))))) (.cons rfl (.P rfl) (.cons rfl (.P rfl) (.cons rfl (.P rfl) (.cons rfl (.P rfl) (.cons rfl (.mp _ _ (by decide) rfl) (.cons rfl (.grown (by decide) rfl (by simp[bdL]) (by simp[bdL]) (by simp[bdL])) (.L rfl (cleanI _) (congrArg (Value.int .i64) ((by simp[bdL]))) (.cons rfl .I .nil))))))))):Cov _ _ _ _ _ (mkF [(1,.pointer (some ⟨0,0,none⟩)),(2,.pointer (some ⟨1,0,none⟩)),(3,.pointer (some ⟨2,0,none⟩)),(4,.pointer (some ⟨3,0,none⟩)),(6,.map (some 4)),(58,rowS 8 (bdL (b0::bs++[mn]))),(59,.int .i64 (bdL (b0::bs++[mn])).length),(60,.int .i64 0)]) ⟨mkO [(0,some (bPr ⟨pre,mn⟩)),(1,some (bGr (.slice none 0 0) (.slice none 0 0))),(2,some bF),(3,some (bGr (rowS 5 (sL ns)) (.slice none 0 0))),(4,some (mS m)),(5,rowO 9 (sL ns)),(8,rowO 23 (bdL (b0::bs++[mn])))],9,0,0⟩).trans ?_
    refine (Cov.frz (fun k=>k) 8 1 (T:=23) (ys:=bdL (b0::bs++[mn])) rfl rfl (bR rfl) zL (fun _ _=>rfl) rfl nlz zL rfl rfl bdL_1 (cleanBdC _) (.W rfl (cleanPr_cells ⟨pre,mn⟩) rfl (.C rfl (.K rfl rfl (.K rfl rfl .nil)) (.C rfl (.K rfl rfl (.K rfl rfl (.K rfl rfl .nil))) (.C rfl (.cons (.ofRow (by decide) rfl rfl) (.K rfl rfl .nil)) (.cons rfl (.map _ _ _ (mS_noNm _)) (blksO.row rfl rfl (cleanSC _) .nil)))))) (.cons rfl (.P rfl) (.cons rfl (.P rfl) (.cons rfl (.P rfl) (.cons rfl (.P rfl) (.cons rfl (.mp _ _ (by decide) rfl) (.cons rfl (.ext _ _ ⟨rfl,rfl⟩) (.cons rfl .I (.cons rfl .I .nil)))))))):Cov _ _ _ _ _ (mkF [(1,.pointer (some ⟨0,0,none⟩)),(2,.pointer (some ⟨1,0,none⟩)),(3,.pointer (some ⟨2,0,none⟩)),(4,.pointer (some ⟨3,0,none⟩)),(6,.map (some 4)),(58,imS (bdL (b0::bs++[mn]))),(59,.int .i64 (bdL (b0::bs++[mn])).length),(60,.int .i64 0)]) ⟨mkO [(0,some (bPr ⟨pre,mn⟩)),(1,some (bGr (.slice none 0 0) (.slice none 0 0))),(2,some bF),(3,some (bGr (rowS 5 (sL ns)) (.slice none 0 0))),(4,some (mS m)),(5,rowO 9 (sL ns))],9,0,0⟩).trans ?_
    exact cov_Of (c0:=250) (nm:=nmO) (rows:=[]) ⟨fun h=>absurd rfl h,fun k h=>absurd h (Nat.not_lt_zero k),fun k _ h=>absurd h (Nat.not_lt_zero k),fun k h=>absurd h (Nat.not_lt_zero k)⟩ zL (by omega) (fun k h=>absurd h (Nat.not_lt_zero k)) rfl rfl rfl rfl rfl rfl (.cons rfl (.P rfl) (.cons rfl (.P rfl) (.cons rfl (.P rfl) (.cons rfl (.P rfl) (.cons rfl (.mp _ _ (by decide) rfl) (.L rfl (cleanBdL _) rfl (.cons rfl .I (.cons rfl .I .nil))))))))) ?_
   rintro ⟨bpre,brest,rows⟩ ⟨q1,q2⟩
   dsimp only at q1 q2;dsimp only;have hrl:=rowsL_len q2;have hqb:(bpre++brest).length≤301:=by rw[q1];exact hB1
   have hn:rows.length≤65000:=by rw[List.length_append] at hqb;omega
   rcases brest with _|⟨b,brest⟩
   ·rw[List.append_nil] at q1;have hend:decide (((bpre.length:Nat):Int)<(((bdL BB).length:Nat):Int))=false:=decide_eq_false (by rw[bdL,List.length_map,← q1];omega)
    have hgo:[rowS 5 (sL ns),sV 250 rows].all Value.oneCell'=true:=by cases ns<;>cases rows<;>rfl
    (repeat' ((conv=>whnf);first|refine goA ?_|refine U.ob_c hgo ?_|refine goB ?_|refine U.lw_c ?_ ?_<;>intro hb))
    (conv=>whnf);show OfQ _ _ _
    unfold OfQ;rw[hres,← q1,q2];dsimp only;rw[← hns];refine ret_Of hn ?_ ?_ ?_
    ·rfl
    ·rfl
    ·exact fun p=>rfl
   ·have hbm:=hB2 b (by rw[← q1];simp)
    rw[← q1];have z2b:=U.lt_yes bdL_map bpre (b) brest;have z2c:=U.blt_yes bdL_map bpre (b) brest;have z2n:=U.nth_at bdL_map bpre (b) brest;have z2w:=U.len_snoc (pre:=bpre) (x:=b) (post:=brest) ((Nat.le_trans hqb (by decide)))
    have kb:=cleanT6s b;(repeat' ((conv=>whnf);first|refine goD ?_|refine U.lw_c ?_ ?_<;>intro hb))
    (conv=>whnf);refine gatherO (p:=⟨pre,mn⟩) (ns:=ns) (m:=m) (rows:=rows) hn (gather_all 300 b m [] hbm hbm (by simp;omega)) (fun r hs=>?_) (fun f hs=>?_)
    ·have hq2:rowsL m (bpre++[b])=.inl (rows++[r]):=by
      rw[rowsL_app,q2];dsimp only;rw[rowsL,hs];rfl
     rcases rows with _|⟨r0,rows⟩
     ·rcases r with _|⟨x,r⟩
      all_goals (repeat' ((conv=>whnf);first|refine goD ?_|refine U.lw_c ?_ ?_<;>intro hb))
      all_goals (conv=>whnf)
      ·refine ⟨(bpre++[b],brest,[]++[[]]),⟨by simp,hq2⟩,by simp,?_⟩
       refine cov_Of (c0:=65540) (nm:=nmP ([]:List (List Int)).length) (rowsX_snoc hn ?_ ?_ ?_) (by simp at hrl hqb ⊢<;>omega) (by omega) (fun j _ _=>by unfold nmP;split<;>omega) ?_ ?_ ?_ ?_ ?_ ?_ (.cons rfl (.P rfl) (.cons rfl (.P rfl) (.cons rfl (.P rfl) (.cons rfl (.P rfl) (.cons rfl (.mp _ _ (by decide) rfl) (.L rfl (cleanBdL _) rfl (.cons rfl .I (.L rfl (cleanI _) (congrArg (Value.int .i64) (z2w.symm)) .nil))))))))
       ·rfl
       ·rfl
       ·exact fun p=>rfl
       ·rfl
       ·rfl
       ·rfl
       ·exact rfl
       ·rfl
       ·rfl
      ·refine ⟨(bpre++[b],brest,[]++[(x::r)]),⟨by simp,hq2⟩,by simp,?_⟩
       refine cov_Of (c0:=65540) (nm:=nmP ([]:List (List Int)).length) (rowsX_snoc hn ?_ ?_ ?_) (by simp at hrl hqb ⊢<;>omega) (by omega) (fun j _ _=>by unfold nmP;split<;>omega) ?_ ?_ ?_ ?_ ?_ ?_ (.cons rfl (.P rfl) (.cons rfl (.P rfl) (.cons rfl (.P rfl) (.cons rfl (.P rfl) (.cons rfl (.mp _ _ (by decide) rfl) (.L rfl (cleanBdL _) rfl (.cons rfl .I (.L rfl (cleanI _) (congrArg (Value.int .i64) (z2w.symm)) .nil))))))))
       ·rfl
       ·rfl
       ·exact fun p=>rfl
       ·rfl
       ·rfl
       ·rfl
       ·exact rfl
       ·rfl
       ·rfl
     ·have hgr3:(cellsN (r0::rows).length (Rf (r0::rows)) nmO).length=(rows.length+1)*1:=by rw[cellsN_len];simp
      have hg3:rows.length+1+(0+1)≤100000:=by simp at hn;omega
      rcases r with _|⟨x,r⟩
      all_goals (repeat' ((conv=>whnf);first|refine goA ?_|(rw[U.ble_f (rows.length+1)];dsimp only;refine U.growRow_p hgr3 rfl ?_)|refine U.ob_c (grow_ok (by decide +kernel) hg3) ?_|refine goB ?_|refine U.lw_c ?_ ?_<;>intro hb))
      all_goals (conv=>whnf)
      ·refine ⟨(bpre++[b],brest,(r0::rows)++[[]]),⟨by simp,hq2⟩,by simp,?_⟩
       refine cov_Of (c0:=65540) (nm:=nmP (r0::rows).length) (rowsX_snoc hn ?_ ?_ ?_) (by simp at hrl hqb ⊢<;>omega) (by omega) (fun j _ _=>by unfold nmP;split<;>omega) ?_ ?_ ?_ ?_ ?_ ?_ (.cons rfl (.P rfl) (.cons rfl (.P rfl) (.cons rfl (.P rfl) (.cons rfl (.P rfl) (.cons rfl (.mp _ _ (by decide) rfl) (.L rfl (cleanBdL _) rfl (.cons rfl .I (.L rfl (cleanI _) (congrArg (Value.int .i64) (z2w.symm)) .nil))))))))
       ·rfl
       ·rfl
       ·exact fun p=>rfl
       ·rfl
       ·rfl
       ·rfl
       ·exact congrArg (fun v=>some (bGr (rowS 5 (sL ns)) v)) (sV_snoc _ _ _ _).symm
       ·rfl
       ·rfl
      ·refine ⟨(bpre++[b],brest,(r0::rows)++[(x::r)]),⟨by simp,hq2⟩,by simp,?_⟩
       refine cov_Of (c0:=65540) (nm:=nmP (r0::rows).length) (rowsX_snoc hn ?_ ?_ ?_) (by simp at hrl hqb ⊢<;>omega) (by omega) (fun j _ _=>by unfold nmP;split<;>omega) ?_ ?_ ?_ ?_ ?_ ?_ (.cons rfl (.P rfl) (.cons rfl (.P rfl) (.cons rfl (.P rfl) (.cons rfl (.P rfl) (.cons rfl (.mp _ _ (by decide) rfl) (.L rfl (cleanBdL _) rfl (.cons rfl .I (.L rfl (cleanI _) (congrArg (Value.int .i64) (z2w.symm)) .nil))))))))
       ·rfl
       ·rfl
       ·exact fun p=>rfl
       ·rfl
       ·rfl
       ·rfl
       ·exact congrArg (fun v=>some (bGr (rowS 5 (sL ns)) v)) (sV_snoc _ _ _ _).symm
       ·rfl
       ·rfl
    ·(repeat' ((conv=>whnf);first|refine goD ?_|refine U.drawX_m (D:=U.propX) 3 [] (by decide +kernel) (by decide +kernel) (by decide +kernel) ?_|refine U.lw_c ?_ ?_<;>intro hb))
     (conv=>whnf);show OfQ _ _ _
     unfold OfQ;rw[hres,← q1,rowsL_app,q2];dsimp only;rw[rowsL,hs];exact rfl
 ·have zb:=U.lt_yes encDcs_map pre (d) rest;have zc:=U.blt_yes encDcs_map pre (d) rest;have zn:=U.nth_at encDcs_map pre (d) rest;have zw:=U.len_snoc (pre:=pre) (x:=d) (post:=rest) ((Nat.le_trans (show _≤300 from fd) (by decide)))
  obtain ⟨k1,nm1,lo1,hi1,sz1,ps1,bd1,ln1,cl1⟩:=d;have kb:=cleanT6s bd1;have kp:=cleanSL ps1;have hpl:pre.length<300:=by simp at fd;omega
  have hlN:(namesD pre).length≤pre.length:=by rw[namesD,List.length_map];exact List.length_filter_le ..
  have hlB:(bodsD pre).length=(namesD pre).length:=by rw[namesD,bodsD,List.length_map,List.length_map]
  have e1:namesD (pre++[⟨k1,nm1,lo1,hi1,sz1,ps1,bd1,ln1,cl1⟩])=namesD pre++(if k1=4 then [nm1] else []):=by
   rw[namesD,procDs_snoc,List.map_append,← namesD];dsimp only;split<;>rfl
  have e2:bodsD (pre++[⟨k1,nm1,lo1,hi1,sz1,ps1,bd1,ln1,cl1⟩])=bodsD pre++(if k1=4 then [bd1] else []):=by
   rw[bodsD,procDs_snoc,List.map_append,← bodsD];dsimp only;split<;>rfl
  obtain ⟨ns,hns⟩:∃ns,ns=namesD pre:=⟨_,rfl⟩
  obtain ⟨bs,hbs⟩:∃bs,bs=bodsD pre:=⟨_,rfl⟩
  rw[← hns] at hm e1 hlN hlB ⊢;rw[← hbs] at e2 hlB ⊢;clear hns hbs;by_cases hk:k1=4
  ·have g4:(k1==4)=true:=by simpa using hk
   have g4n:(k1 != 4)=false:=by simpa using hk
   rw[if_pos hk] at e1 e2;rcases look_cases nm1 m with hz|⟨a,u,b,rfl,hz⟩
   ·have hf1:=sS_ok.none (ev:=Value.int .i64) hz;have hm2:=sameM_new (nm:=nm1) hm;rcases ns with _|⟨n0,ns⟩
    ·obtain rfl:bs=[]:=List.eq_nil_of_length_eq_zero hlB;(repeat' ((conv=>whnf);first|refine goA ?_|refine U.onV_p hf1 ?_|refine U.natC_p ?_|refine goB ?_|refine U.lw_c ?_ ?_<;>intro hb))
     (conv=>whnf);refine ⟨(pre++[⟨k1,nm1,lo1,hi1,sz1,ps1,bd1,ln1,cl1⟩],rest,m++[(nm1,(((sL []).length:Nat):Int))]),⟨by simp,by rw[e1];exact hm2⟩,by simp,?_⟩
     dsimp only;rw[e1,e2];exact (Cov.renO (fun k=>if k=5 then 9 else if k=6 then 11 else k) rfl rfl (bR rfl) zL (fun k hk=>by have:k<5:=hk;rw[if_neg (by omega)];rw[if_neg (by omega)]) rfl nlz (.W rfl (cleanPr_cells ⟨_,mn⟩) rfl (.C rfl (.K rfl rfl (.K rfl rfl .nil)) (.C rfl (.K rfl rfl (.K rfl rfl (.K rfl rfl .nil))) (.C rfl (.cons (.grown (by decide) rfl (by simp[sL]) (by simp[sL]) (by simp[sL])) (.K rfl rfl .nil)) (.cons rfl (RenB.mapE (mE_snoc (ek:=Value.string) (ev:=Value.int .i64) m nm1 _).symm (by rw[range_snoc];simp) (by simp) (mE_noNm cleanI _)) (blksO.grown rfl rfl (cleanSC _) (blksO.grown rfl rfl (cleanBdC _) .nil))))))) (.cons rfl (.P rfl) (.cons rfl (.P rfl) (.cons rfl (.P rfl) (.cons rfl (.P rfl) (.cons rfl (.grown (by decide) rfl (by simp[bdL]) (by simp[bdL]) (by simp[bdL])) (.cons rfl (.mp _ _ (by decide) rfl) (.L rfl (cleanDcs _) rfl (.cons rfl .I (.L rfl (cleanI _) (congrArg (Value.int .i64) (zw.symm)) .nil))))))))))
    ·obtain ⟨b0,bs,rfl⟩:∃b0 bs1,bs=b0::bs1:=by
      cases bs with
      |nil=>cases hlB
      |cons b0 bs=>exact ⟨b0,bs,rfl⟩
     have hgr:(cellsAll (Value.string n0::List.map Value.string ns)).length=((List.map Value.string ns).length+1)*1:=by
      rw[show Value.string n0::List.map Value.string ns=sL (n0::ns) from rfl,cellsS,sL_len,List.length_map];simp
     have hg1:(List.map Value.string ns).length+1+(0+1)≤100000:=by rw[List.length_map];simp at hlN;omega
     have hgr2:(cellsAll (imS (encTs b0)::List.map (fun b=>imS (encTs b)) bs)).length=((List.map (fun b=>imS (encTs b)) bs).length+1)*1:=by
      rw[show imS (encTs b0)::List.map (fun b=>imS (encTs b)) bs=bdL (b0::bs) from rfl,cellsBd,bdL,List.length_map,List.length_map];simp
     have hg2:(List.map (fun b=>imS (encTs b)) bs).length+1+(0+1)≤100000:=by rw[List.length_map];simp at hlN hlB;omega
     (repeat' ((conv=>whnf);first|refine goA ?_|refine U.onV_p hf1 ?_|refine U.natC_p ?_|(rw[U.ble_f ((List.map Value.string ns).length+1)];dsimp only;refine U.growRow_p hgr rfl ?_)|refine U.ob_c (grow_ok (by decide +kernel) hg1) ?_|(rw[U.ble_f ((List.map (fun b=>imS (encTs b)) bs).length+1)];dsimp only;refine U.growRow_p hgr2 rfl ?_)|refine U.ob_c (grow_ok (by decide +kernel) hg2) ?_|refine goB ?_|refine U.lw_c ?_ ?_<;>intro hb))
     (conv=>whnf);refine ⟨(pre++[⟨k1,nm1,lo1,hi1,sz1,ps1,bd1,ln1,cl1⟩],rest,m++[(nm1,(((sL (n0::ns)).length:Nat):Int))]),⟨by simp,by rw[e1];exact hm2⟩,by simp,?_⟩
     dsimp only;rw[e1,e2];exact (Cov.renO (fun k=>if k=5 then 9 else if k=6 then 11 else k) rfl rfl (bR rfl) zL (fun k hk=>by have:k<5:=hk;rw[if_neg (by omega)];rw[if_neg (by omega)]) rfl nlz (.W rfl (cleanPr_cells ⟨_,mn⟩) rfl (.C rfl (.K rfl rfl (.K rfl rfl .nil)) (.C rfl (.K rfl rfl (.K rfl rfl (.K rfl rfl .nil))) (.C rfl (.cons (.grown (by decide) rfl (by simp[sL]) (by simp[sL]) (by simp[sL])) (.K rfl rfl .nil)) (.cons rfl (RenB.mapE (mE_snoc (ek:=Value.string) (ev:=Value.int .i64) m nm1 _).symm (by rw[range_snoc];simp) (by simp) (mE_noNm cleanI _)) (blksO.grown rfl ((by rw[sL,List.map_append];exact List.flatMap_append)) (cleanSC _) (blksO.grown rfl ((by rw[bdL,List.map_append];exact List.flatMap_append)) (cleanBdC _) .nil))))))) (.cons rfl (.P rfl) (.cons rfl (.P rfl) (.cons rfl (.P rfl) (.cons rfl (.P rfl) (.cons rfl (.grown (by decide) rfl (by simp[bdL]) (by simp[bdL]) (by simp[bdL])) (.cons rfl (.mp _ _ (by decide) rfl) (.L rfl (cleanDcs _) rfl (.cons rfl .I (.L rfl (cleanI _) (congrArg (Value.int .i64) (zw.symm)) .nil))))))))))
   ·have hf1:=sS_ok.mid (ev:=Value.int .i64) (q:=b) (u:=u) hz;have hl:a.length<(a++(nm1,u)::b).length:=by simp
    have hm2:=sameM_old hz hm;rcases ns with _|⟨n0,ns⟩
    ·obtain rfl:bs=[]:=List.eq_nil_of_length_eq_zero hlB;(repeat' ((conv=>whnf);first|refine goA ?_|refine U.onV_p hf1 ?_|refine U.onV_p (nthN_range hl) ?_|refine U.onV_p (idxB_range hl) ?_|refine U.natC_p ?_|refine goB ?_|refine U.lw_c ?_ ?_<;>intro hb))
     (conv=>whnf);refine ⟨(pre++[⟨k1,nm1,lo1,hi1,sz1,ps1,bd1,ln1,cl1⟩],rest,a++(nm1,u)::b),⟨by simp,by rw[e1];exact hm2⟩,by simp,?_⟩
     dsimp only;rw[e1,e2];exact (Cov.renO (fun k=>if k=5 then 9 else if k=6 then 11 else k) rfl rfl (bR rfl) zL (fun k hk=>by have:k<5:=hk;rw[if_neg (by omega)];rw[if_neg (by omega)]) rfl nlz (.W rfl (cleanPr_cells ⟨_,mn⟩) rfl (.C rfl (.K rfl rfl (.K rfl rfl .nil)) (.C rfl (.K rfl rfl (.K rfl rfl (.K rfl rfl .nil))) (.C rfl (.cons (.grown (by decide) rfl (by simp[sL]) (by simp[sL]) (by simp[sL])) (.K rfl rfl .nil)) (.cons rfl (.map _ _ _ (mS_noNm _)) (blksO.grown rfl rfl (cleanSC _) (blksO.grown rfl rfl (cleanBdC _) .nil))))))) (.cons rfl (.P rfl) (.cons rfl (.P rfl) (.cons rfl (.P rfl) (.cons rfl (.P rfl) (.cons rfl (.grown (by decide) rfl (by simp[bdL]) (by simp[bdL]) (by simp[bdL])) (.cons rfl (.mp _ _ (by decide) rfl) (.L rfl (cleanDcs _) rfl (.cons rfl .I (.L rfl (cleanI _) (congrArg (Value.int .i64) (zw.symm)) .nil))))))))))
    ·obtain ⟨b0,bs,rfl⟩:∃b0 bs1,bs=b0::bs1:=by
      cases bs with
      |nil=>cases hlB
      |cons b0 bs=>exact ⟨b0,bs,rfl⟩
     have hgr:(cellsAll (Value.string n0::List.map Value.string ns)).length=((List.map Value.string ns).length+1)*1:=by
      rw[show Value.string n0::List.map Value.string ns=sL (n0::ns) from rfl,cellsS,sL_len,List.length_map];simp
     have hg1:(List.map Value.string ns).length+1+(0+1)≤100000:=by rw[List.length_map];simp at hlN;omega
     have hgr2:(cellsAll (imS (encTs b0)::List.map (fun b=>imS (encTs b)) bs)).length=((List.map (fun b=>imS (encTs b)) bs).length+1)*1:=by
      rw[show imS (encTs b0)::List.map (fun b=>imS (encTs b)) bs=bdL (b0::bs) from rfl,cellsBd,bdL,List.length_map,List.length_map];simp
     have hg2:(List.map (fun b=>imS (encTs b)) bs).length+1+(0+1)≤100000:=by rw[List.length_map];simp at hlN hlB;omega
     (repeat' ((conv=>whnf);first|refine goA ?_|refine U.onV_p hf1 ?_|refine U.onV_p (nthN_range hl) ?_|refine U.onV_p (idxB_range hl) ?_|refine U.natC_p ?_|(rw[U.ble_f ((List.map Value.string ns).length+1)];dsimp only;refine U.growRow_p hgr rfl ?_)|refine U.ob_c (grow_ok (by decide +kernel) hg1) ?_|(rw[U.ble_f ((List.map (fun b=>imS (encTs b)) bs).length+1)];dsimp only;refine U.growRow_p hgr2 rfl ?_)|refine U.ob_c (grow_ok (by decide +kernel) hg2) ?_|refine goB ?_|refine U.lw_c ?_ ?_<;>intro hb))
     (conv=>whnf);refine ⟨(pre++[⟨k1,nm1,lo1,hi1,sz1,ps1,bd1,ln1,cl1⟩],rest,a++(nm1,u)::b),⟨by simp,by rw[e1];exact hm2⟩,by simp,?_⟩
     dsimp only;rw[e1,e2];exact (Cov.renO (fun k=>if k=5 then 9 else if k=6 then 11 else k) rfl rfl (bR rfl) zL (fun k hk=>by have:k<5:=hk;rw[if_neg (by omega)];rw[if_neg (by omega)]) rfl nlz (.W rfl (cleanPr_cells ⟨_,mn⟩) rfl (.C rfl (.K rfl rfl (.K rfl rfl .nil)) (.C rfl (.K rfl rfl (.K rfl rfl (.K rfl rfl .nil))) (.C rfl (.cons (.grown (by decide) rfl (by simp[sL]) (by simp[sL]) (by simp[sL])) (.K rfl rfl .nil)) (.cons rfl (.map _ _ _ (mS_noNm _)) (blksO.grown rfl ((by rw[sL,List.map_append];exact List.flatMap_append)) (cleanSC _) (blksO.grown rfl ((by rw[bdL,List.map_append];exact List.flatMap_append)) (cleanBdC _) .nil))))))) (.cons rfl (.P rfl) (.cons rfl (.P rfl) (.cons rfl (.P rfl) (.cons rfl (.P rfl) (.cons rfl (.grown (by decide) rfl (by simp[bdL]) (by simp[bdL]) (by simp[bdL])) (.cons rfl (.mp _ _ (by decide) rfl) (.L rfl (cleanDcs _) rfl (.cons rfl .I (.L rfl (cleanI _) (congrArg (Value.int .i64) (zw.symm)) .nil))))))))))
  ·have g4:(k1==4)=false:=by simpa using hk
   have g4n:(k1 != 4)=true:=by simpa using hk
   rw[if_neg hk,List.append_nil] at e1 e2;(repeat' ((conv=>whnf);first|refine goD ?_|refine U.lw_c ?_ ?_<;>intro hb))
   (conv=>whnf);refine ⟨(pre++[⟨k1,nm1,lo1,hi1,sz1,ps1,bd1,ln1,cl1⟩],rest,m),⟨by simp,by rw[e1];exact hm⟩,by simp,?_⟩
   dsimp only;rw[e1,e2];exact (Cov.renI rfl rfl rfl rfl (.W rfl (cleanPr_cells ⟨_,mn⟩) rfl (.C rfl (.K rfl rfl (.K rfl rfl .nil)) (.C rfl (.K rfl rfl (.K rfl rfl (.K rfl rfl .nil))) (.C rfl (.cons (.ofRow (by decide) rfl rfl) (.K rfl rfl .nil)) (.cons rfl (.map _ _ _ (mS_noNm _)) (blksO.row rfl rfl (cleanSC _) (blksO.row rfl rfl (cleanBdC _) .nil))))))) (.cons rfl (.P rfl) (.cons rfl (.P rfl) (.cons rfl (.P rfl) (.cons rfl (.P rfl) (.cons rfl (.ofRow (by decide) rfl rfl) (.cons rfl (.mp _ _ (by decide) rfl) (.L rfl (cleanDcs _) rfl (.cons rfl .I (.L rfl (cleanI _) (congrArg (Value.int .i64) (zw.symm)) .nil))))))))))
end Go.Proofs.YtcihknonfcldeaaDoor
