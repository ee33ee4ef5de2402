
import Derived.Test.YtcihknonfcldeaaDoorKT31
namespace Go.Proofs.YtcihknonfcldeaaDoor
open Go Go.RowKit Go.Sort U
set_option linter.unusedVariables false
set_option linter.unusedSimpArgs false
set_option maxRecDepth 100000
set_option maxHeartbeats 40000000
def inlD:List Int ⊕ (Int×Int)->List Int
 |.inl r=>r
 |.inr _=>[]
def isL:List Int ⊕ (Int×Int)->Prop
 |.inl _=>True
 |.inr _=>False
def yG (X A B:List Int):Nat->List Int
 |0=>X
 |1=>X++A
 |_=>X++A++B
theorem thenP {P:Program}{N:Nat}{a b:Code}{fr:Tr Value}{s:AS}{k:KontC Prop}{Q:Prop}(fr2:Tr Value) (s2:AS) (ha:CodeS P N a fr s fun e fr1 s1=>match e with | .normal=>Q∧Cov P N s.next fr1 s1 fr2 s2|e=>k e fr1 s1) (hb:Q->CodeS P N b fr2 s2 k):CodeS P N (a.seq b) fr s k :=
 CodeS.seq ha fun e fr1 s1 h _=>by
  cases e<;>first
   |exact ⟨fr2,s2,h.2,hb h.1⟩
   |exact h
theorem gather_at (l:List AS6) (m:MSI) (R:List Int) (h1:szTs l≤300) (hRl:R.length+szTs l≤1000) (ih:∀(l':List AS6) (R':List Int),szTs l'<szTs l->R'.length+szTs l'≤1000->SoundAt Tryd.prog 23 (argsG 1 R' l') (stG m R') (GatQ R' (siteL m (callsTs l')))):SoundAt Tryd.prog 23 (argsG 1 R l) (stG m R) (GatQ R (siteL m (callsTs l))):=by
 refine SoundAt.body hmixU Tryd.func23 rfl rfl rfl 0 ?_;have hcl:=cleanT6s l;have hll:=szTs_len l;(repeat' ((conv=>whnf);first|refine goD ?_|refine U.lw_c ?_ ?_<;>intro hb))
 (conv=>whnf);refine loop_sem (α:=List AS6×List AS6×List Int) (fun x=>x.1++x.2.1=l∧siteL m (callsTs x.1)=.inl x.2.2) (fun x=>(mkF [(0,rowS 3 (iL (R++x.2.2))),(2,.map (some 0)),(6,.slice none 0 0),(7,.pointer (some ⟨2,0,none⟩)),(15,imS (encTs l)),(16,.int .i64 (encTs l).length),(17,.int .i64 x.1.length)],⟨mkO [(0,some (mS m)),(2,some bF),(3,bI (R++x.2.2))],4,1,0⟩)) (fun x=>x.2.1.length) ([],l,[]) ⟨rfl,rfl⟩ (Cov.renO (fun k=>if k=3 then 1 else k) rfl rfl (bR rfl) zL (fun k hk=>by have:k<3:=hk;rw[if_neg (by omega)]) rfl (kp1 (by rfl)) (.cons rfl (.map _ _ _ (mS_noNm _)) (.C rfl (.K rfl rfl (.K rfl rfl (.K rfl rfl .nil))) (blksO.row rfl ((by rw[List.append_nil])) (cleanIC _) .nil))) (.cons rfl (.ofRow (by decide) rfl ((by rw[List.append_nil]))) (.cons rfl (.mp _ _ (by decide) rfl) (.K rfl rfl rfl (.cons rfl (.P rfl) (.L rfl (hcl) rfl (.cons rfl .I (.cons rfl .I .nil)))))))) ?_
 rintro ⟨pre,rest,r⟩ ⟨p1,p2⟩
 dsimp only at p1 p2;subst p1;dsimp only;rcases rest with _|⟨s,rest⟩
 ·rw[List.append_nil] at *;have zb:=U.lt_no encTs_map pre;refine CodeS.run hmixU 0 (by show 1≤4;decide) ?_
  (repeat' ((conv=>whnf);first|refine goD ?_|refine U.lw_c ?_ ?_<;>intro hb))
  (conv=>whnf);rw[p2];exact ⟨rfl,fun b hb=>hb⟩
 ·have zb:=U.lt_yes encTs_map pre (s) rest;have zc:=U.blt_yes encTs_map pre (s) rest;have zn:=U.nth_at encTs_map pre (s) rest;have zw:=U.len_snoc (pre:=pre) (x:=s) (post:=rest) ((Nat.le_trans (show _≤1000 by omega) (by decide)))
  obtain ⟨k,nm,xs,th,el,ln,cl⟩:=s;have hsz:=szTs_app pre (.mk k nm xs th el ln cl::rest);rw[szTs,szT] at hsz;have hrl:=siteL_len p2;have hcp:=callsTs_len pre;have kt:=cleanT6s th;have ke:=cleanT6s el
  have kx:=cleanAs xs;refine CodeS.then_ (mkF [(0,rowS 3 (iL (R++r))),(2,.map (some 0)),(6,.slice none 0 0),(7,.pointer (some ⟨2,0,none⟩)),(15,imS (encTs (pre++.mk k nm xs th el ln cl::rest))),(16,.int .i64 (encTs (pre++.mk k nm xs th el ln cl::rest)).length),(17,.int .i64 pre.length),(18,.bool true)]) ⟨mkO [(0,some (mS m)),(2,some bF),(3,bI (R++r))],4,1,0⟩ ?_ ?_
  ·refine CodeS.run hmixU 0 (by show 1≤4;decide) ?_
   (repeat' ((conv=>whnf);first|refine goD ?_|refine U.lw_c ?_ ?_<;>intro hb))
   (conv=>whnf);exact (Cov.renO (fun k=>k) rfl rfl (bR rfl) zL (fun _ _=>rfl) rfl (kp1 (by rfl)) (.cons rfl (.map _ _ _ (mS_noNm _)) (.C rfl (.K rfl rfl (.K rfl rfl (.K rfl rfl .nil))) (blksO.row rfl rfl (cleanIC _) .nil))) (.cons rfl (.ofRow (by decide) rfl rfl) (.cons rfl (.mp _ _ (by decide) rfl) (.K rfl rfl rfl (.cons rfl (.P rfl) (.L rfl (hcl) rfl (.cons rfl .I (.cons rfl .I (.L rfl (.flat _ rfl) (congrArg Value.bool zb.symm) .nil)))))))))
  refine CodeS.then_ (mkF [(0,rowS 3 (iL (R++r))),(2,.map (some 0)),(6,.slice none 0 0),(7,.pointer (some ⟨2,0,none⟩)),(15,imS (encTs (pre++.mk k nm xs th el ln cl::rest))),(16,.int .i64 (encTs (pre++.mk k nm xs th el ln cl::rest)).length),(17,.int .i64 pre.length)]) ⟨mkO [(0,some (mS m)),(2,some bF),(3,bI (R++r))],4,1,0⟩ ?_ ?_
  ·refine CodeS.run hmixU 0 (by show 1≤4;decide) ?_
   (repeat' ((conv=>whnf);first|refine goD ?_|refine U.lw_c ?_ ?_<;>intro hb))
   (conv=>whnf);exact (Cov.renO (fun k=>k) rfl rfl (bR rfl) zL (fun _ _=>rfl) rfl (kp1 (by rfl)) (.cons rfl (.map _ _ _ (mS_noNm _)) (.C rfl (.K rfl rfl (.K rfl rfl (.K rfl rfl .nil))) (blksO.row rfl rfl (cleanIC _) .nil))) (.cons rfl (.ofRow (by decide) rfl rfl) (.cons rfl (.mp _ _ (by decide) rfl) (.K rfl rfl rfl (.cons rfl (.P rfl) (.L rfl (hcl) rfl (.cons rfl .I (.cons rfl .I .nil))))))))
  have hcs:callsTs (pre++.mk k nm xs th el ln cl::rest)=callsTs pre++((if k=5 then [.mk k nm xs th el ln cl] else [])++(callsTs th++callsTs el))++callsTs rest:=by
   rw[callsTs_app,callsTs,callsT];simp only[List.append_assoc]
  have hc1:callsTs (pre++[.mk k nm xs th el ln cl])=callsTs pre++((if k=5 then [.mk k nm xs th el ln cl] else [])++(callsTs th++callsTs el)):=by
   rw[callsTs_snoc,callsT]
  have hXl:(R++r).length≤1000:=by rw[List.length_append];omega
  by_cases hno:k=5∧getM m nm=none
  ·obtain ⟨hk,hn⟩:=hno;have g5:(k==5)=true:=by simpa using hk
   have hres:siteL m (callsTs (pre++.mk k nm xs th el ln cl::rest))=.inr (ln,cl):=by
    rw[hcs,if_pos hk,List.append_assoc,siteL_app,p2];dsimp only;rw[List.append_assoc,List.singleton_append,siteL,hn]
   have hz:nm∉m.map (·.1):=by
    rcases look_cases nm m with hz|⟨a,u,b,rfl,hz⟩
    ·exact hz
    ·rw[getM_mid hz] at hn;cases hn
   have hf1:=sS_ok.none (ev:=Value.int .i64) hz;refine CodeS.run hmixU 0 (by show 1≤4;decide) ?_
   (repeat' ((conv=>whnf);first|refine goA ?_|refine U.onV_p hf1 ?_|refine goB ?_|refine U.drawX_p (D:=U.propX) 4 [] (by decide +kernel) (by decide +kernel) ?_|refine U.lw_c ?_ ?_<;>intro hb))
   (conv=>whnf);rw[hres];exact rfl
  obtain ⟨ks,hks⟩:∃ks,siteL m (if k=5 then [.mk k nm xs th el ln cl] else [])=.inl ks:=by
   split
   ·rename_i hk;rw[siteL];cases hg:getM m nm with
    |none=>exact absurd ⟨hk,hg⟩ hno
    |some i=>exact ⟨_,rfl⟩
   ·exact ⟨_,rfl⟩
  have hksl:=siteL_len hks;have hkl:ks.length≤1:=by rw[hksl];split<;>simp
  obtain ⟨A,hA⟩:∃A,A=inlD (siteL m (callsTs th)):=⟨_,rfl⟩
  obtain ⟨B,hB⟩:∃B,B=inlD (siteL m (callsTs el)):=⟨_,rfl⟩
  have lA:=callsTs_len th;have lB:=callsTs_len el;have lA2:A.length≤szTs th:=by
   rw[hA];cases hs:siteL m (callsTs th) with
   |inl x=>have:=siteL_len hs;show x.length≤_;omega
   |inr x=>exact Nat.zero_le _
  refine thenP (Q:=isL (siteL m (callsTs th))∧isL (siteL m (callsTs el))) (mkF [(0,rowS 40 (iL (R++r++ks++A++B))),(2,.map (some 0)),(6,.slice none 0 0),(7,.pointer (some ⟨2,0,none⟩)),(15,imS (encTs (pre++.mk k nm xs th el ln cl::rest))),(16,.int .i64 (encTs (pre++.mk k nm xs th el ln cl::rest)).length),(17,.int .i64 pre.length)]) ⟨mkO [(0,some (mS m)),(2,some bF),(40,bI (R++r++ks++A++B))],41,1,0⟩ (CodeS.block (CodeS.then_ (mkF [(0,rowS 3 (iL (R++r))),(2,.map (some 0)),(6,.slice none 0 0),(7,.pointer (some ⟨2,0,none⟩)),(15,imS (encTs (pre++.mk k nm xs th el ln cl::rest))),(16,.int .i64 (encTs (pre++.mk k nm xs th el ln cl::rest)).length),(17,.int .i64 pre.length),(9,.pointer (some ⟨4,0,none⟩))]) ⟨mkO [(0,some (mS m)),(2,some bF),(3,bI (R++r)),(4,some (.cells 56 [.int .i64 k,.string nm,imS (encAs xs),imS (encTs th),imS (encTs el),.int .i64 ln,.int .i64 cl] false))],5,1,0⟩ ?_ (CodeS.then_ (mkF [(0,rowS 5 (iL (R++r++ks))),(2,.map (some 0)),(6,.slice none 0 0),(7,.pointer (some ⟨2,0,none⟩)),(15,imS (encTs (pre++.mk k nm xs th el ln cl::rest))),(16,.int .i64 (encTs (pre++.mk k nm xs th el ln cl::rest)).length),(17,.int .i64 pre.length),(9,.pointer (some ⟨4,0,none⟩))]) ⟨mkO [(0,some (mS m)),(2,some bF),(4,some (.cells 56 [.int .i64 k,.string nm,imS (encAs xs),imS (encTs th),imS (encTs el),.int .i64 ln,.int .i64 cl] false)),(5,bI (R++r++ks))],6,1,0⟩ ?_ ?_))) ?_
  ·refine CodeS.run hmixU 0 (by show 1≤4;decide) ?_
   (repeat' ((conv=>whnf);first|refine goD ?_|refine U.lw_c ?_ ?_<;>intro hb))
   (conv=>whnf);exact (Cov.renO (fun k=>k) rfl rfl (bR rfl) zL (fun _ _=>rfl) rfl (kp1 (by rfl)) (.cons rfl (.map _ _ _ (mS_noNm _)) (.C rfl (.K rfl rfl (.K rfl rfl (.K rfl rfl .nil))) (blksO.row rfl rfl (cleanIC _) (.C rfl (.K rfl rfl (.K rfl rfl (.L (kx) rfl (.L (kt) rfl (.L (ke) rfl (.K rfl rfl (.K rfl rfl .nil))))))) .nil)))) (.cons rfl (.ofRow (by decide) rfl rfl) (.cons rfl (.mp _ _ (by decide) rfl) (.K rfl rfl rfl (.cons rfl (.P rfl) (.L rfl (hcl) rfl (.cons rfl .I (.cons rfl .I (.cons rfl (.P rfl) .nil)))))))))
  ·refine CodeS.run hmixU 0 (by show 1≤5;decide) ?_
   by_cases hk:k=5
   ·have g5:(k==5)=true:=by simpa using hk
    rw[if_pos hk] at hks;rcases look_cases nm m with hz|⟨a,u,b,rfl,hz⟩
    ·exact absurd ⟨hk,getM_none hz⟩ hno
    ·obtain rfl:ks=[u]:=by
      rw[siteL,getM_mid hz,siteL] at hks;exact (Sum.inl.inj hks).symm
     have hf1:=sS_ok.mid (ev:=Value.int .i64) (q:=b) (u:=u) hz;have hl:a.length<(a++(nm,u)::b).length:=by simp
     obtain ⟨X,hX⟩:∃X,X=R++r:=⟨_,rfl⟩
     rw[← hX] at hXl ⊢;clear hX hno;rcases X with _|⟨r0,X⟩
     ·(repeat' ((conv=>whnf);first|refine goA ?_|refine U.onV_p hf1 ?_|refine U.onV_p (nthN_range hl) ?_|refine U.onV_p (idxB_range hl) ?_|refine U.natC_p ?_|refine goB ?_|refine U.lw_c ?_ ?_<;>intro hb))
      (conv=>whnf);exact (Cov.renO (fun k=>if k=5 then 6 else k) rfl rfl (bR rfl) zL (fun k hk=>by have:k<5:=hk;rw[if_neg (by omega)]) rfl (kp1 (by rfl)) (.cons rfl (.map _ _ _ (mS_noNm _)) (.C rfl (.K rfl rfl (.K rfl rfl (.K rfl rfl .nil))) (.C rfl (.K rfl rfl (.K rfl rfl (.L (kx) rfl (.L (kt) rfl (.L (ke) rfl (.K rfl rfl (.K rfl rfl .nil))))))) (blksO.grown rfl rfl (cleanIC _) .nil)))) (.cons rfl (.grown (by decide) rfl (by simp[iL]) (by simp[iL]) (by simp[iL])) (.cons rfl (.mp _ _ (by decide) rfl) (.K rfl rfl rfl (.cons rfl (.P rfl) (.L rfl (hcl) rfl (.cons rfl .I (.cons rfl .I (.cons rfl (.P rfl) .nil)))))))))
     ·have hgr:(cellsAll (Value.int .i64 r0::List.map (Value.int .i64) X)).length=((List.map (Value.int .i64) X).length+1)*1:=by
       rw[show Value.int .i64 r0::List.map (Value.int .i64) X=iL (r0::X) from rfl,cellsI,iL_len,List.length_map];simp
      have hg1:(List.map (Value.int .i64) X).length+1+(0+1)≤100000:=by rw[List.length_map];simp at hXl;omega
      (repeat' ((conv=>whnf);first|refine goA ?_|refine U.onV_p hf1 ?_|refine U.onV_p (nthN_range hl) ?_|refine U.onV_p (idxB_range hl) ?_|refine U.natC_p ?_|(rw[U.ble_f ((List.map (Value.int .i64) X).length+1)];dsimp only;refine U.growRow_p hgr rfl ?_)|refine U.ob_c (grow_ok (by decide +kernel) hg1) ?_|refine goB ?_|refine U.lw_c ?_ ?_<;>intro hb))
      (conv=>whnf);exact (Cov.renO (fun k=>if k=5 then 6 else k) rfl rfl (bR rfl) zL (fun k hk=>by have:k<5:=hk;rw[if_neg (by omega)]) rfl (kp1 (by rfl)) (.cons rfl (.map _ _ _ (mS_noNm _)) (.C rfl (.K rfl rfl (.K rfl rfl (.K rfl rfl .nil))) (.C rfl (.K rfl rfl (.K rfl rfl (.L (kx) rfl (.L (kt) rfl (.L (ke) rfl (.K rfl rfl (.K rfl rfl .nil))))))) (blksO.grown rfl ((by rw[iL_app];exact List.flatMap_append)) (cleanIC _) .nil)))) (.cons rfl (.grown (by decide) rfl (by simp[iL]) (by simp[iL]) (by simp[iL])) (.cons rfl (.mp _ _ (by decide) rfl) (.K rfl rfl rfl (.cons rfl (.P rfl) (.L rfl (hcl) rfl (.cons rfl .I (.cons rfl .I (.cons rfl (.P rfl) .nil)))))))))
   ·have g5:(k==5)=false:=by simpa using hk
    obtain rfl:ks=[]:=by
     rw[if_neg hk,siteL] at hks;exact (Sum.inl.inj hks).symm
    rw[List.append_nil];(repeat' ((conv=>whnf);first|refine goD ?_|refine U.lw_c ?_ ?_<;>intro hb))
    (conv=>whnf);exact (Cov.renO (fun k=>if k=5 then 3 else k) rfl rfl (bR rfl) zL (fun k hk=>by have:k<5:=hk;rw[if_neg (by omega)]) rfl (kp1 (by rfl)) (.cons rfl (.map _ _ _ (mS_noNm _)) (.C rfl (.K rfl rfl (.K rfl rfl (.K rfl rfl .nil))) (.C rfl (.K rfl rfl (.K rfl rfl (.L (kx) rfl (.L (kt) rfl (.L (ke) rfl (.K rfl rfl (.K rfl rfl .nil))))))) (blksO.row rfl rfl (cleanIC _) .nil)))) (.cons rfl (.ofRow (by decide) rfl rfl) (.cons rfl (.mp _ _ (by decide) rfl) (.K rfl rfl rfl (.cons rfl (.P rfl) (.L rfl (hcl) rfl (.cons rfl .I (.cons rfl .I (.cons rfl (.P rfl) .nil)))))))))
  ·refine CodeS.run hmixU 0 (by show 1≤6;decide) ?_
   obtain ⟨X,hX⟩:∃X,X=R++r++ks:=⟨_,rfl⟩
   have hX2:X.length≤R.length+szTs pre+1:=by rw[hX,List.length_append,List.length_append];omega
   rw[← hX];have hsr:siteL m (callsTs (pre++.mk k nm xs th el ln cl::rest))=match siteL m (callsTs th) with
     |.inr f=>.inr f
     |.inl A=>match siteL m (callsTs el) with
      |.inr f=>.inr f
      |.inl B=>match siteL m (callsTs rest) with
       |.inl q=>.inl (r++(ks++(A++B))++q)
       |.inr f=>.inr f:=by
    rw[hcs,siteL_app,siteL_app,p2];dsimp only;rw[siteL_app,hks];dsimp only;rw[siteL_app];cases siteL m (callsTs th) with
    |inr f=>rfl
    |inl A =>
     dsimp only;cases siteL m (callsTs el) with
     |inr f=>rfl
     |inl B=>rfl
   (repeat' ((conv=>whnf);first|refine goD ?_|refine U.lw_c ?_ ?_<;>intro hb))
   (conv=>whnf);refine loop_inv (α:=Nat) (fun j=>j≤2∧(1≤j->isL (siteL m (callsTs th)))∧(2≤j->isL (siteL m (callsTs el)))) (fun j=>(mkF [(0,rowS 20 (iL (yG X A B j))),(2,.map (some 0)),(6,.slice none 0 0),(7,.pointer (some ⟨2,0,none⟩)),(15,imS (encTs (pre++.mk k nm xs th el ln cl::rest))),(16,.int .i64 (encTs (pre++.mk k nm xs th el ln cl::rest)).length),(17,.int .i64 pre.length),(44,.agg ⟨[imS (encTs th),imS (encTs el)]⟩),(45,.int .i64 j)],⟨mkO [(0,some (mS m)),(2,some bF),(20,bI (yG X A B j))],21,1,0⟩)) (fun j=>2-j) 0 ⟨by omega,fun h=>by omega,fun h=>by omega⟩ (Cov.renO (fun k=>if k=20 then 5 else k) rfl rfl (bR rfl) zL (fun k hk=>by have:k<6:=hk;rw[if_neg (by omega)]) rfl (kp1 (by rfl)) (.cons rfl (.map _ _ _ (mS_noNm _)) (.C rfl (.K rfl rfl (.K rfl rfl (.K rfl rfl .nil))) (blksO.row rfl rfl (cleanIC _) .nil))) (.cons rfl (.ofRow (by decide) rfl rfl) (.cons rfl (.mp _ _ (by decide) rfl) (.K rfl rfl rfl (.cons rfl (.P rfl) (.L rfl (hcl) rfl (.cons rfl .I (.cons rfl .I (.L rfl (NoNm.agg _ (fun c hc=>by simp only[List.mem_cons,List.not_mem_nil,or_false] at hc;rcases hc with rfl|rfl<;>assumption)) rfl (.cons rfl .I .nil)))))))))) ?_
   rintro j ⟨j1,j2,j3⟩
   dsimp only;rcases j with _|_|_|j
   ·(repeat' ((conv=>whnf);first|refine goD ?_|refine U.lw_c ?_ ?_<;>intro hb))
    (conv=>whnf);refine SoundAt.cov (args1:=argsG 20 X th) (s1:=stH m X) [(0,rowS 20 (iL X)),(1,imS (encTs th)),(2,.map (some 0))] (Cov.renO (fun k=>k) rfl rfl (bR rfl) zL (fun _ _=>rfl) rfl (kp1 (by rfl)) (.cons rfl (.map _ _ _ (mS_noNm _)) (.C rfl (.K rfl rfl (.K rfl rfl (.K rfl rfl .nil))) (blksO.row rfl rfl (cleanIC _) (.C rfl (.K rfl rfl (.K rfl rfl (.K rfl rfl .nil))) .nil)))) (.cons rfl (.ofRow (by decide) rfl rfl) (.L rfl (kt) rfl (.cons rfl (.mp _ _ (by decide) rfl) .nil)))) rfl (fun i u h=>?_) (gatherC (ih th X (by omega) (by omega)) (fun V hs=>?_) (fun f hs=>?_))
    ·rcases i with _|_|_|i
     ·cases h;rfl
     ·cases h;rfl
     ·cases h;rfl
     ·simp[argsG] at h
    ·obtain rfl:A=V:=by rw[hA,hs];rfl
     (repeat' ((conv=>whnf);first|refine goD ?_|refine U.lw_c ?_ ?_<;>intro hb))
     (conv=>whnf);exact ⟨1,⟨by omega,fun _=>by rw[hs];trivial,fun h=>by omega⟩,by omega,(Cov.renO (fun k=>if k=20 then 22 else k) rfl rfl (bR rfl) zL (fun k hk=>by have:k<6:=hk;rw[if_neg (by omega)]) rfl (kp1 (by rfl)) (.cons rfl (.map _ _ _ (mS_noNm _)) (.C rfl (.K rfl rfl (.K rfl rfl (.K rfl rfl .nil))) (blksO.row rfl rfl (cleanIC _) .nil))) (.cons rfl (.ofRow (by decide) rfl rfl) (.cons rfl (.mp _ _ (by decide) rfl) (.K rfl rfl rfl (.cons rfl (.P rfl) (.L rfl (hcl) rfl (.cons rfl .I (.cons rfl .I (.L rfl (NoNm.agg _ (fun c hc=>by simp only[List.mem_cons,List.not_mem_nil,or_false] at hc;rcases hc with rfl|rfl<;>assumption)) rfl (.cons rfl .I .nil))))))))))⟩
    ·(repeat' ((conv=>whnf);first|refine goD ?_|refine U.drawX_p (D:=U.propX) 2 [] (by decide +kernel) (by decide +kernel) ?_|refine U.lw_c ?_ ?_<;>intro hb))
     (conv=>whnf);rw[hsr,hs];exact rfl
   ·(repeat' ((conv=>whnf);first|refine goD ?_|refine U.lw_c ?_ ?_<;>intro hb))
    (conv=>whnf);obtain ⟨A0,hs0⟩:∃A0,siteL m (callsTs th)=.inl A0:=by
     cases hs0:siteL m (callsTs th) with
     |inl x=>exact ⟨x,rfl⟩
     |inr f0=>exact absurd (j2 (by omega)) (by rw[hs0];exact id)
    obtain rfl:A=A0:=by rw[hA,hs0];rfl
    refine SoundAt.cov (args1:=argsG 20 (X++A) el) (s1:=stH m (X++A)) [(0,rowS 20 (iL (X++A))),(1,imS (encTs el)),(2,.map (some 0))] (Cov.renO (fun k=>k) rfl rfl (bR rfl) zL (fun _ _=>rfl) rfl (kp1 (by rfl)) (.cons rfl (.map _ _ _ (mS_noNm _)) (.C rfl (.K rfl rfl (.K rfl rfl (.K rfl rfl .nil))) (blksO.row rfl rfl (cleanIC _) (.C rfl (.K rfl rfl (.K rfl rfl (.K rfl rfl .nil))) .nil)))) (.cons rfl (.ofRow (by decide) rfl rfl) (.L rfl (ke) rfl (.cons rfl (.mp _ _ (by decide) rfl) .nil)))) rfl (fun i u h=>?_) (gatherC (ih el (X++A) (by omega) (by rw[List.length_append];omega)) (fun V hs=>?_) (fun f hs=>?_))
    ·rcases i with _|_|_|i
     ·cases h;rfl
     ·cases h;rfl
     ·cases h;rfl
     ·simp[argsG] at h
    ·obtain rfl:B=V:=by rw[hB,hs];rfl
     (repeat' ((conv=>whnf);first|refine goD ?_|refine U.lw_c ?_ ?_<;>intro hb))
     (conv=>whnf);exact ⟨2,⟨by omega,fun _=>by rw[hs0];trivial,fun h=>by rw[hs];trivial⟩,by omega,(Cov.renO (fun k=>if k=20 then 22 else k) rfl rfl (bR rfl) zL (fun k hk=>by have:k<6:=hk;rw[if_neg (by omega)]) rfl (kp1 (by rfl)) (.cons rfl (.map _ _ _ (mS_noNm _)) (.C rfl (.K rfl rfl (.K rfl rfl (.K rfl rfl .nil))) (blksO.row rfl rfl (cleanIC _) .nil))) (.cons rfl (.ofRow (by decide) rfl rfl) (.cons rfl (.mp _ _ (by decide) rfl) (.K rfl rfl rfl (.cons rfl (.P rfl) (.L rfl (hcl) rfl (.cons rfl .I (.cons rfl .I (.L rfl (NoNm.agg _ (fun c hc=>by simp only[List.mem_cons,List.not_mem_nil,or_false] at hc;rcases hc with rfl|rfl<;>assumption)) rfl (.cons rfl .I .nil))))))))))⟩
    ·(repeat' ((conv=>whnf);first|refine goD ?_|refine U.drawX_p (D:=U.propX) 2 [] (by decide +kernel) (by decide +kernel) ?_|refine U.lw_c ?_ ?_<;>intro hb))
     (conv=>whnf);rw[hsr,hs0,hs];exact rfl
   ·(repeat' ((conv=>whnf);first|refine goD ?_|refine U.lw_c ?_ ?_<;>intro hb))
    (conv=>whnf);exact ⟨⟨j2 (by omega),j3 (by omega)⟩,(Cov.renO (fun k=>if k=40 then 20 else k) rfl rfl (bR rfl) zL (fun k hk=>by have:k<4:=hk;rw[if_neg (by omega)]) rfl (kp1 (by rfl)) (.cons rfl (.map _ _ _ (mS_noNm _)) (.C rfl (.K rfl rfl (.K rfl rfl (.K rfl rfl .nil))) (blksO.row rfl rfl (cleanIC _) .nil))) (.cons rfl (.ofRow (by decide) rfl rfl) (.cons rfl (.mp _ _ (by decide) rfl) (.K rfl rfl rfl (.cons rfl (.P rfl) (.L rfl (hcl) rfl (.cons rfl .I (.cons rfl .I .nil))))))))⟩
   ·omega
  ·rintro ⟨q1,q2⟩
   refine CodeS.run hmixU 0 (by show 1≤41;decide) ?_
   (repeat' ((conv=>whnf);first|refine goD ?_|refine U.lw_c ?_ ?_<;>intro hb))
   (conv=>whnf);have hfin:siteL m (callsTs (pre++[.mk k nm xs th el ln cl]))=.inl (r++(ks++(A++B))):=by
    rw[hc1,siteL_app,p2];dsimp only;rw[siteL_app,hks];dsimp only;rw[siteL_app];cases hs:siteL m (callsTs th) with
    |inr f=>rw[hs] at q1;exact q1.elim
    |inl A' =>
     obtain rfl:A=A':=by rw[hA,hs];rfl
     dsimp only;cases hs2:siteL m (callsTs el) with
     |inr f=>rw[hs2] at q2;exact q2.elim
     |inl B' =>
      obtain rfl:B=B':=by rw[hB,hs2];rfl
      rfl
   have e1:R++(r++(ks++(A++B)))=R++r++ks++A++B:=by simp only[List.append_assoc]
   refine ⟨(pre++[.mk k nm xs th el ln cl],rest,r++(ks++(A++B))),⟨by simp,hfin⟩,by simp,?_⟩
   dsimp only;rw[e1];exact (Cov.renO (fun k=>if k=3 then 40 else k) rfl rfl (bR rfl) zL (fun k hk=>by have:k<3:=hk;rw[if_neg (by omega)]) rfl (kp1 (by rfl)) (.cons rfl (.map _ _ _ (mS_noNm _)) (.C rfl (.K rfl rfl (.K rfl rfl (.K rfl rfl .nil))) (blksO.row rfl rfl (cleanIC _) .nil))) (.cons rfl (.ofRow (by decide) rfl rfl) (.cons rfl (.mp _ _ (by decide) rfl) (.K rfl rfl rfl (.cons rfl (.P rfl) (.L rfl (hcl) rfl (.cons rfl .I (.L rfl (cleanI _) (congrArg (Value.int .i64) (zw.symm)) .nil))))))))
theorem gather_all:∀(N:Nat) (l:List AS6) (m:MSI) (R:List Int),szTs l≤N->szTs l≤300->R.length+szTs l≤1000->SoundAt Tryd.prog 23 (argsG 1 R l) (stG m R) (GatQ R (siteL m (callsTs l)))
 |0,l,m,R,h0,h1,h2=>gather_at l m R h1 h2 fun l' R' h3 h4=>by omega
 |N+1,l,m,R,h0,h1,h2=>gather_at l m R h1 h2 fun l' R' h3 h4=>gather_all N l' m R' (by omega) (by omega) h4
end Go.Proofs.YtcihknonfcldeaaDoor
