
import Derived.Test.YtocppbocphnbcaaGreatDoorXS40
namespace Go.Proofs.YtocppbocphnbcaaGreatDoor
open Go Go.RowKit Go.Sort U
set_option linter.unusedVariables false
set_option linter.unusedSimpArgs false
set_option maxRecDepth 100000
set_option maxHeartbeats 40000000
structure NmP (p:Pg):Prop where
 ins:∀x∈p.ins,x.nm.size≤maxI
 procs:∀x∈p.procs,x.nm.size≤maxI
theorem rright_p (p:Pg) (hf:FewP p) (hn:NmP p):DenU Tryz.prog [] 10 [encP p] (.bool (rightP p)):=by
 refine denU_of_sound hmixU fun Ts=>SoundAt.body hmixU Tryz.func10 rfl rfl rfl 0 ?_
 have fa:=hf.arrs;have fi:=hf.ins;have fp:=hf.procs;have fz:=hf.sz;have ni:=hn.ins;have np:=hn.procs;have c1:=number_d p hf;have c2:=slots_d p hf;have c3:=rrA_all p 1000 p.main (by omega) (by omega)
 have c4:=same_like p (numP p) rfl rfl rfl (like_num _ _) (by simp[maxI];omega) (by simp[maxI];omega) (by simp[maxI];omega) (fun x hx=>by have:=hf.ps x hx;simp[maxI];omega) (fun x hx=>by have:=szPrs_mem hx;omega) (by omega)
 have c5:=rgraph_d p hf;obtain ⟨g1,g2,g3⟩:=graph_ok p hf;have c6:=rorder_d (graphP p) (by omega) g1.2.2
 have c7:∀x∈p.procs,DenU Tryz.prog [] 35 [encP p,imS (encSs x.body)] (.bool ((allSs x.body).all (standsB p))):=fun x hx=>rrA_all p 1000 x.body (by have:=szPrs_mem hx;omega) (by have:=szPrs_mem hx;omega)
 have k1:=cleanP p;have k2:=cleanP (numP p);have k3:=cleanG (graphP p);have k4:=cleanSs p.main;have e4:(eqPrs p.procs (numP p).procs&&eqSs p.main (numP p).main)=nums (preP p) 0:=by
  show (eqPrs p.procs (numPrs p.procs 0).1&&eqSs p.main (numSs p.main (numPrs p.procs 0).2).1)=_
  rw[eq_numPrs,eq_numSs,numPrs_snd,preP,nums_app];(try simp)
 rw[e4] at c4;have hA:arrsB p.arrs=false->rightP p=false:=not_arrs;have hI:insB p.ins=false->rightP p=false:=not_ins;have hP:(prsB p.procs&&procsB p)=false->rightP p=false:=not_prs;have hfin:arrsB p.arrs=true->insB p.ins=true->(prsB p.procs&&procsB p)=true->rightP p=(((slotB p&&decide (0≤p.slots)&&decide (p.slots≤1048576))&&mainB p&&nums (preP p) 0)&&(orderR (graphP p).st).2):=fun h1 h2 h3=>by rw[rightP_eq,h1,h2,h3];rfl
 replace c3:DenU Tryz.prog [] 35 [encP p,imS (encSs p.main)] (.bool (mainB p)):=c3;have hpr:procsB p=p.procs.all fun x=>(allSs x.body).all (standsB p):=rfl
 generalize rightP p=b at *
 generalize numP p=p1 at *
 generalize (numSs p.main (numPrs p.procs 0).2).2=m at *
 generalize (slotB p&&decide (0≤p.slots)&&decide (p.slots≤1048576))=B2 at *
 generalize mainB p=B3 at *
 generalize nums (preP p) 0=B4 at *
 generalize graphP p=gg at *
 generalize orderR gg.st=oo at *
 obtain ⟨o1,B6⟩:=oo;dsimp only at *;have k5:=cleanIL o1;generalize procsB p=B5 at *
 clear g1 g2 g3 e4 hf hn;obtain ⟨st1,hst1⟩:∃f:St->Bool,f=standsB p:=⟨_,rfl⟩
 simp only[← hst1] at c7 hpr;clear hst1;obtain ⟨sl,arrs,ins,procs,main⟩:=p;obtain ⟨sl1,arrs1,ins1,procs1,main1⟩:=p1;dsimp only at *;(repeat' ((conv=>whnf);first|refine goD ?_|refine U.lw_c ?_ ?_<;>intro hb))
 (conv=>whnf);refine loop_inv (α:=List Int×List Int) (fun x=>x.1++x.2=arrs∧x.1.all okA=true) (fun x=>(mkF [(1,.pointer (some ⟨0,0,none⟩)),(2,.bool false),(3,.int .i64 x.1.sum),(4,.int .i64 x.1.length)],⟨mkO [(0,some (.cells 34 (cellsOf (encP ⟨sl,arrs,ins,procs,main⟩)) false))],1,0,0⟩)) (fun x=>x.2.length) ([],arrs) ⟨rfl,rfl⟩ (Cov.renI rfl rfl rfl rfl (.W rfl ((fun c hc=>cleanP_cells ⟨sl,arrs,ins,procs,main⟩ c hc)) rfl .nil) (.cons rfl (.P rfl) (.K rfl rfl rfl (.K rfl rfl rfl (.K rfl rfl rfl .nil))))) ?_
 rintro ⟨pre,rest⟩ ⟨p1,p2⟩
 dsimp only at p1 p2;subst p1;dsimp only;have hsum:=sum_nn p2;rcases rest with _|⟨n,rest⟩
 ·rw[List.append_nil] at *;have zb:=U.lt_no iL_map pre;have hpl:pre.length≤20:=fa;obtain ⟨q,hq⟩:∃q,q=pre.sum:=⟨_,rfl⟩
  have hAq:arrsB pre=decide (q≤4096):=by
   unfold arrsB;rw[← hq,show (pre.all fun n=>decide (1≤n)&&decide (n≤1024))=true from p2];rfl
  rw[← hq];(repeat' ((conv=>whnf);first|refine goD ?_|refine U.lw_c ?_ ?_<;>intro hb))
  (conv=>whnf);refine loop_inv (α:=List In13×List In13) (fun x=>x.1++x.2=ins∧x.1.all okI=true∧(x.1.map (·.nm)).Nodup) (fun x=>(mkF [(1,.pointer (some ⟨0,0,none⟩)),(2,.bool false),(3,.int .i64 q),(5,rowS 1 (sL (x.1.map (·.nm)))),(6,.slice none 0 0),(7,.int .i64 x.1.length)],⟨mkO [(0,some (.cells 34 (cellsOf (encP ⟨sl,pre,ins,procs,main⟩)) false)),(1,rowO 9 (sL (x.1.map (·.nm))))],2,0,0⟩)) (fun x=>x.2.length) ([],ins) ⟨rfl,rfl,List.nodup_nil⟩ (Cov.renI rfl rfl rfl rfl (.W rfl ((fun c hc=>cleanP_cells ⟨sl,pre,ins,procs,main⟩ c hc)) rfl (.none .nil)) (.cons rfl (.P rfl) (.K rfl rfl rfl (.cons rfl .I (.K rfl rfl rfl (.K rfl rfl rfl (.K rfl rfl rfl .nil))))))) ?_
  rintro ⟨ip,ir⟩ ⟨i1,i2,i3⟩
  dsimp only at i1 i2 i3;subst i1;dsimp only;rcases ir with _|⟨⟨nm,slot,lo,hh,sec⟩,ir⟩
  ·rw[List.append_nil] at *;have z2b:=U.lt_no inL_map ip;have hIt:insB ip=true:=by
    unfold insB;rw[show (ip.all fun x=>nameB x.nm&&decide (x.lo≤x.hi))=true from i2,decide_eq_true i3];rfl
   clear hI;(repeat' ((conv=>whnf);first|refine goD ?_|refine U.lw_c ?_ ?_<;>intro hb))
   (conv=>whnf);refine loop_inv (α:=List Pr13×List Pr13) (fun x=>x.1++x.2=procs∧(x.1.all fun y=>nameB y.nm)=true∧(x.1.map (·.nm)).Nodup∧(x.1.all fun y=>(allSs y.body).all st1)=true) (fun x=>(mkF [(1,.pointer (some ⟨0,0,none⟩)),(2,.bool false),(3,.int .i64 q),(6,rowS 2 (sL (x.1.map (·.nm)))),(9,.int .i64 x.1.length)],⟨mkO [(0,some (.cells 34 (cellsOf (encP ⟨sl,pre,ip,procs,main⟩)) false)),(2,rowO 9 (sL (x.1.map (·.nm))))],3,0,0⟩)) (fun x=>x.2.length) ([],procs) ⟨rfl,rfl,List.nodup_nil,rfl⟩ (Cov.renI rfl rfl rfl rfl (.W rfl ((fun c hc=>cleanP_cells ⟨sl,pre,ip,procs,main⟩ c hc)) rfl (.none .nil)) (.cons rfl (.P rfl) (.K rfl rfl rfl (.cons rfl .I (.K rfl rfl rfl (.K rfl rfl rfl .nil)))))) ?_
   rintro ⟨ap,ar⟩ ⟨j1,j2,j3,j4⟩
   dsimp only at j1 j2 j3 j4;subst j1;dsimp only;rcases ar with _|⟨⟨nm,ps,body⟩,ar⟩
   ·rw[List.append_nil] at *;have z3b:=U.lt_no prL_map ap;have hPt:prsB ap=true:=by
     unfold prsB;rw[j2,decide_eq_true j3];rfl
    rw[j4] at hpr;subst hpr;by_cases h1:q > 4096
    ·have g1:decide (q > 4096)=true:=decide_eq_true h1;have hbf:=hA (by rw[hAq];simp;omega)
     subst hbf;(repeat' ((conv=>whnf);first|refine goD ?_|refine U.SoundAt.u (c1) clM ?_|refine U.SoundC.u (c1) clM ?_|refine U.lw_c ?_ ?_<;>intro hb))
     (conv=>whnf);exact .same (.flat _ rfl) rfl
    ·have g1:decide (q > 4096)=false:=decide_eq_false h1;have hbv:=hfin (by rw[hAq];simp;omega) hIt (by rw[hPt];rfl)
     subst hbv;cases B2
     ·(repeat' ((conv=>whnf);first|refine goD ?_|refine U.SoundAt.u (c1) clM ?_|refine U.SoundAt.u (c2) clM ?_|refine U.SoundC.u (c1) clM ?_|refine U.SoundC.u (c2) clM ?_|refine U.lw_c ?_ ?_<;>intro hb))
      (conv=>whnf);exact .same (.flat _ rfl) rfl
     cases B3
     ·(repeat' ((conv=>whnf);first|refine goD ?_|refine U.SoundAt.u (c1) clM ?_|refine U.SoundAt.u (c2) clM ?_|refine U.SoundAt.u (c3) clM ?_|refine U.SoundC.u (c1) clM ?_|refine U.SoundC.u (c2) clM ?_|refine U.SoundC.u (c3) clM ?_|refine U.lw_c ?_ ?_<;>intro hb))
      (conv=>whnf);exact .same (.flat _ rfl) rfl
     cases B4
     ·(repeat' ((conv=>whnf);first|refine goD ?_|refine U.SoundAt.u (c1) clM ?_|refine U.SoundAt.u (c2) clM ?_|refine U.SoundAt.u (c3) clM ?_|refine U.SoundAt.u (c4) clM ?_|refine U.SoundC.u (c1) clM ?_|refine U.SoundC.u (c2) clM ?_|refine U.SoundC.u (c3) clM ?_|refine U.SoundC.u (c4) clM ?_|refine U.lw_c ?_ ?_<;>intro hb))
      (conv=>whnf);exact .same (.flat _ rfl) rfl
     (repeat' ((conv=>whnf);first|refine goD ?_|refine U.SoundAt.u (c1) clM ?_|refine U.SoundAt.u (c2) clM ?_|refine U.SoundAt.u (c3) clM ?_|refine U.SoundAt.u (c4) clM ?_|refine U.SoundAt.u (c5) clM ?_|refine U.SoundAt.u (c6) clM ?_|refine U.SoundC.u (c1) clM ?_|refine U.SoundC.u (c2) clM ?_|refine U.SoundC.u (c3) clM ?_|refine U.SoundC.u (c4) clM ?_|refine U.SoundC.u (c5) clM ?_|refine U.SoundC.u (c6) clM ?_|refine U.lw_c ?_ ?_<;>intro hb))
     (conv=>whnf);exact .same (.flat _ rfl) rfl
   ·have z3b:=U.lt_yes prL_map ap (Pr13.mk nm ps body) ar;have z3c:=U.blt_yes prL_map ap (Pr13.mk nm ps body) ar;have z3n:=U.nth_at prL_map ap (Pr13.mk nm ps body) ar;have z3w:=U.len_snoc (pre:=ap) (x:=Pr13.mk nm ps body) (post:=ar) ((by simp[maxI] at fp ⊢;omega))
    have d1:=rname_d nm (np _ (by simp:Pr13.mk nm ps body∈_))
    have d2:=r6has_d (ap.map (·.nm)) nm (by rw[List.length_map];simp[maxI] at fp ⊢;omega)
    have d3:=c7 ⟨nm,ps,body⟩ (by simp)
    have kb:=cleanSs body;have no1:=fun h=>hP (Bool.and_eq_false_iff.2 (.inl (prsR_no (x:=Pr13.mk nm ps body) rfl h)))
    have no2:((allSs body).all st1)=false->b=false:=fun h=>hP (Bool.and_eq_false_iff.2 (.inr (by rw[hpr,List.all_append,List.all_cons];dsimp only;rw[h];simp)))
    dsimp only at no1 d3;have e1:∀N,N=ap.map (·.nm)->(ap++[Pr13.mk nm ps body]).map (·.nm)=N++[nm]:=fun N h=>by rw[h];simp
    have e2:=fun h=>nodup_snoc (b:=nm) j3 h
    have e5:(((ap++[Pr13.mk nm ps body]).all fun y=>(allSs y.body).all st1))=((allSs body).all st1):=by rw[List.all_append,j4];simp
    obtain ⟨N,hN⟩:∃N,N=ap.map (·.nm):=⟨_,rfl⟩
    have hNl:N.length≤20:=by rw[hN,List.length_map];simp at fp;omega
    replace e1:=e1 N hN;rw[← hN] at d2 no1 e2 ⊢;clear hN hpr;have e6:(((ap++[Pr13.mk nm ps body]).all fun y=>nameB y.nm))=nameB nm:=by rw[List.all_append,j2];simp
    generalize nameB nm=q1 at *
    generalize (allSs body).all st1=q3 at *
    cases q1 with
    |false =>
     have hbf:=no1 (.inl rfl);subst hbf;(repeat' ((conv=>whnf);first|refine goD ?_|refine U.SoundAt.u (d1) clM ?_|refine U.SoundC.u (d1) clM ?_|refine U.lw_c ?_ ?_<;>intro hb))
     (conv=>whnf);exact .same (.flat _ rfl) rfl
    |true =>
     rcases N with _|⟨n0,N⟩
     ·replace d2:DenU Tryz.prog [] 34 [imS (sL []),.string nm] (.bool false):=d2;cases q3 with
      |false =>
       have hbf:=no2 rfl;subst hbf;(repeat' ((conv=>whnf);first|refine goA ?_|refine U.SoundAt.c (U.SoundC.uF d2 rfl (.cons .nil (.cons (.clean _ (.flat _ rfl)) .nil)) ?_)|refine goB ?_|refine U.SoundAt.u (d1) clM ?_|refine U.SoundAt.u (d3) clM ?_|refine U.SoundC.u (d1) clM ?_|refine U.SoundC.u (d3) clM ?_|refine U.lw_c ?_ ?_<;>intro hb))
       (conv=>whnf);exact .same (.flat _ rfl) rfl
      |true =>
       (repeat' ((conv=>whnf);first|refine goA ?_|refine U.SoundAt.c (U.SoundC.uF d2 rfl (.cons .nil (.cons (.clean _ (.flat _ rfl)) .nil)) ?_)|refine goB ?_|refine U.SoundAt.u (d1) clM ?_|refine U.SoundAt.u (d3) clM ?_|refine U.SoundC.u (d1) clM ?_|refine U.SoundC.u (d3) clM ?_|refine U.lw_c ?_ ?_<;>intro hb))
       (conv=>whnf);refine ⟨(ap++[⟨nm,ps,body⟩],ar),⟨by simp,e6,by rw[e1];simp,e5⟩,by simp,?_⟩
       dsimp only;rw[e1];exact (Cov.renO (fun k=>if k=2 then 5 else k) rfl rfl (bR rfl) zL (fun k hk=>by have:k<2:=hk;rw[if_neg (by omega)]) rfl nlz (.W rfl ((fun c hc=>cleanP_cells ⟨sl,pre,ip,_,main⟩ c hc)) rfl (blksO.grown rfl rfl (cleanSC _) .nil)) (.cons rfl (.P rfl) (.K rfl rfl rfl (.cons rfl .I (.cons rfl (.grown (by decide) rfl (by simp[sL]) (by simp[sL]) (by simp[sL])) (.L rfl (cleanI _) (congrArg (Value.int .i64) (z3w.symm)) .nil))))))
     ·cases hq2:((n0::N).any fun k=>decide (k=nm)) with
      |true =>
       rw[hq2] at d2;have hbf:=no1 (.inr hq2);subst hbf;(repeat' ((conv=>whnf);first|refine goA ?_|refine U.SoundAt.c (U.SoundC.uF d2 rfl (.cons (.rowL (ys:=sL (n0::N)) zL rfl rfl sL_1 rfl rL (cleanSC _)) (.cons (.clean _ (.flat _ rfl)) .nil)) ?_)|refine goB ?_|refine U.SoundAt.u (d1) clM ?_|refine U.SoundC.u (d1) clM ?_|refine U.lw_c ?_ ?_<;>intro hb))
       (conv=>whnf);exact .same (.flat _ rfl) rfl
      |false =>
       rw[hq2] at d2;cases q3 with
       |false =>
        have hbf:=no2 rfl;subst hbf;(repeat' ((conv=>whnf);first|refine goA ?_|refine U.SoundAt.c (U.SoundC.uF d2 rfl (.cons (.rowL (ys:=sL (n0::N)) zL rfl rfl sL_1 rfl rL (cleanSC _)) (.cons (.clean _ (.flat _ rfl)) .nil)) ?_)|refine goB ?_|refine U.SoundAt.u (d1) clM ?_|refine U.SoundAt.u (d3) clM ?_|refine U.SoundC.u (d1) clM ?_|refine U.SoundC.u (d3) clM ?_|refine U.lw_c ?_ ?_<;>intro hb))
        (conv=>whnf);exact .same (.flat _ rfl) rfl
       |true =>
        have hnr:(cellsAll (Value.string n0::List.map Value.string N)).length=((List.map Value.string N).length+1)*1:=by
         rw[show Value.string n0::List.map Value.string N=sL (n0::N) from rfl,cellsS,sL_len,List.length_map];simp
        have hn1:(List.map Value.string N).length+1+(0+1)≤100000:=by rw[List.length_map];simp at hNl;omega
        (repeat' ((conv=>whnf);first|refine goA ?_|refine U.SoundAt.c (U.SoundC.uF d2 rfl (.cons (.rowL (ys:=sL (n0::N)) zL rfl rfl sL_1 rfl rL (cleanSC _)) (.cons (.clean _ (.flat _ rfl)) .nil)) ?_)|(rw[U.ble_f ((List.map Value.string N).length+1)];dsimp only;refine U.growRow_p hnr rfl ?_)|refine U.ob_c (grow_ok (by decide +kernel) hn1) ?_|refine goB ?_|refine U.SoundAt.u (d1) clM ?_|refine U.SoundAt.u (d3) clM ?_|refine U.SoundC.u (d1) clM ?_|refine U.SoundC.u (d3) clM ?_|refine U.lw_c ?_ ?_<;>intro hb))
        (conv=>whnf);refine ⟨(ap++[⟨nm,ps,body⟩],ar),⟨by simp,e6,by rw[e1];exact e2 hq2,e5⟩,by simp,?_⟩
        dsimp only;rw[e1];exact (Cov.renO (fun k=>if k=2 then 5 else k) rfl rfl (bR rfl) zL (fun k hk=>by have:k<2:=hk;rw[if_neg (by omega)]) rfl nlz (.W rfl ((fun c hc=>cleanP_cells ⟨sl,pre,ip,_,main⟩ c hc)) rfl (blksO.grown rfl ((by rw[sL_app];exact List.flatMap_append)) (cleanSC _) .nil)) (.cons rfl (.P rfl) (.K rfl rfl rfl (.cons rfl .I (.cons rfl (.grown (by decide) rfl (by simp[sL]) (by simp[sL]) (by simp[sL])) (.L rfl (cleanI _) (congrArg (Value.int .i64) (z3w.symm)) .nil))))))
  ·have z2b:=U.lt_yes inL_map ip (In13.mk nm slot lo hh sec) ir;have z2c:=U.blt_yes inL_map ip (In13.mk nm slot lo hh sec) ir;have z2n:=U.nth_at inL_map ip (In13.mk nm slot lo hh sec) ir;have z2w:=U.len_snoc (pre:=ip) (x:=In13.mk nm slot lo hh sec) (post:=ir) ((by simp[maxI] at fi ⊢;omega))
   have d1:=rname_d nm (ni _ (by simp:In13.mk nm slot lo hh sec∈_))
   have d2:=r6has_d (ip.map (·.nm)) nm (by rw[List.length_map];simp[maxI] at fi ⊢;omega)
   have no1:=fun h=>hI (insR_no (x:=In13.mk nm slot lo hh sec) rfl h)
   have hsn:okI (In13.mk nm slot lo hh sec)=(nameB nm&&decide (lo≤hh)):=rfl;rw[hsn] at no1;have e1:∀N,N=ip.map (·.nm)->(ip++[In13.mk nm slot lo hh sec]).map (·.nm)=N++[nm]:=fun N h=>by rw[h];simp
   have e2:=fun h=>nodup_snoc (b:=nm) i3 h
   obtain ⟨N,hN⟩:∃N,N=ip.map (·.nm):=⟨_,rfl⟩
   have hNl:N.length≤20:=by rw[hN,List.length_map];simp at fi;omega
   replace e1:=e1 N hN;rw[← hN] at d2 no1 e2 ⊢;clear hN;generalize nameB nm=q1 at *
   by_cases h1:lo > hh
   ·have g1:decide (lo > hh)=true:=decide_eq_true h1;have hbf:=no1 (.inl (by simp;omega))
    subst hbf;(repeat' ((conv=>whnf);first|refine goD ?_|refine U.SoundAt.u (d1) clM ?_|refine U.SoundC.u (d1) clM ?_|refine U.lw_c ?_ ?_<;>intro hb))
    (conv=>whnf);exact .same (.flat _ rfl) rfl
   ·have g1:decide (lo > hh)=false:=decide_eq_false h1;cases q1 with
    |false =>
     have hbf:=no1 (.inl (by simp))
     subst hbf;(repeat' ((conv=>whnf);first|refine goD ?_|refine U.SoundAt.u (d1) clM ?_|refine U.SoundC.u (d1) clM ?_|refine U.lw_c ?_ ?_<;>intro hb))
     (conv=>whnf);exact .same (.flat _ rfl) rfl
    |true =>
     rcases N with _|⟨n0,N⟩
     ·replace d2:DenU Tryz.prog [] 34 [imS (sL []),.string nm] (.bool false):=d2;(repeat' ((conv=>whnf);first|refine goA ?_|refine U.SoundAt.c (U.SoundC.uF d2 rfl (.cons .nil (.cons (.clean _ (.flat _ rfl)) .nil)) ?_)|refine goB ?_|refine U.SoundAt.u (d1) clM ?_|refine U.SoundC.u (d1) clM ?_|refine U.lw_c ?_ ?_<;>intro hb))
      (conv=>whnf);refine ⟨(ip++[⟨nm,slot,lo,hh,sec⟩],ir),⟨by simp,by rw[List.all_append,i2,List.all_cons,hsn];simp;omega,by rw[e1];simp⟩,by simp,?_⟩
      dsimp only;rw[e1];exact (Cov.renO (fun k=>if k=1 then 4 else k) rfl rfl (bR rfl) zL (fun k hk=>by have:k<1:=hk;rw[if_neg (by omega)]) rfl nlz (.W rfl ((fun c hc=>cleanP_cells ⟨sl,pre,_,procs,main⟩ c hc)) rfl (blksO.grown rfl rfl (cleanSC _) .nil)) (.cons rfl (.P rfl) (.K rfl rfl rfl (.cons rfl .I (.cons rfl (.grown (by decide) rfl (by simp[sL]) (by simp[sL]) (by simp[sL])) (.K rfl rfl rfl (.L rfl (cleanI _) (congrArg (Value.int .i64) (z2w.symm)) .nil)))))))
     ·cases hq2:((n0::N).any fun k=>decide (k=nm)) with
      |true =>
       rw[hq2] at d2;have hbf:=no1 (.inr hq2);subst hbf;(repeat' ((conv=>whnf);first|refine goA ?_|refine U.SoundAt.c (U.SoundC.uF d2 rfl (.cons (.rowL (ys:=sL (n0::N)) zL rfl rfl sL_1 rfl rL (cleanSC _)) (.cons (.clean _ (.flat _ rfl)) .nil)) ?_)|refine goB ?_|refine U.SoundAt.u (d1) clM ?_|refine U.SoundC.u (d1) clM ?_|refine U.lw_c ?_ ?_<;>intro hb))
       (conv=>whnf);exact .same (.flat _ rfl) rfl
      |false =>
       rw[hq2] at d2;have hnr:(cellsAll (Value.string n0::List.map Value.string N)).length=((List.map Value.string N).length+1)*1:=by
        rw[show Value.string n0::List.map Value.string N=sL (n0::N) from rfl,cellsS,sL_len,List.length_map];simp
       have hn1:(List.map Value.string N).length+1+(0+1)≤100000:=by rw[List.length_map];simp at hNl;omega
       (repeat' ((conv=>whnf);first|refine goA ?_|refine U.SoundAt.c (U.SoundC.uF d2 rfl (.cons (.rowL (ys:=sL (n0::N)) zL rfl rfl sL_1 rfl rL (cleanSC _)) (.cons (.clean _ (.flat _ rfl)) .nil)) ?_)|(rw[U.ble_f ((List.map Value.string N).length+1)];dsimp only;refine U.growRow_p hnr rfl ?_)|refine U.ob_c (grow_ok (by decide +kernel) hn1) ?_|refine goB ?_|refine U.SoundAt.u (d1) clM ?_|refine U.SoundC.u (d1) clM ?_|refine U.lw_c ?_ ?_<;>intro hb))
       (conv=>whnf);refine ⟨(ip++[⟨nm,slot,lo,hh,sec⟩],ir),⟨by simp,by rw[List.all_append,i2,List.all_cons,hsn];simp;omega,by rw[e1];exact e2 hq2⟩,by simp,?_⟩
       dsimp only;rw[e1];exact (Cov.renO (fun k=>if k=1 then 4 else k) rfl rfl (bR rfl) zL (fun k hk=>by have:k<1:=hk;rw[if_neg (by omega)]) rfl nlz (.W rfl ((fun c hc=>cleanP_cells ⟨sl,pre,_,procs,main⟩ c hc)) rfl (blksO.grown rfl ((by rw[sL_app];exact List.flatMap_append)) (cleanSC _) .nil)) (.cons rfl (.P rfl) (.K rfl rfl rfl (.cons rfl .I (.cons rfl (.grown (by decide) rfl (by simp[sL]) (by simp[sL]) (by simp[sL])) (.K rfl rfl rfl (.L rfl (cleanI _) (congrArg (Value.int .i64) (z2w.symm)) .nil)))))))
 ·have zb:=U.lt_yes iL_map pre (n) rest;have zc:=U.blt_yes iL_map pre (n) rest;have zn:=U.nth_at iL_map pre (n) rest;have zw:=U.len_snoc (pre:=pre) (x:=n) (post:=rest) ((by simp[maxI] at fa ⊢;omega))
  by_cases h1:n<1
  ·have g1:decide (n<1)=true:=decide_eq_true h1;have hbf:=hA (arrs_no rfl (.inl (by simp[okA];omega)))
   subst hbf;(repeat' ((conv=>whnf);first|refine goD ?_|refine U.lw_c ?_ ?_<;>intro hb))
   (conv=>whnf);exact .same (.flat _ rfl) rfl
  ·have g1:decide (n<1)=false:=decide_eq_false h1;by_cases h2:n > 1024
   ·have g2:decide (n > 1024)=true:=decide_eq_true h2;have hbf:=hA (arrs_no rfl (.inl (by simp[okA];omega)))
    subst hbf;(repeat' ((conv=>whnf);first|refine goD ?_|refine U.lw_c ?_ ?_<;>intro hb))
    (conv=>whnf);exact .same (.flat _ rfl) rfl
   ·have g2:decide (n > 1024)=false:=decide_eq_false h2;by_cases h3:pre.sum > 4096
    ·have g3:decide (pre.sum > 4096)=true:=decide_eq_true h3;have hbf:=hA (arrs_no rfl (.inr (by omega)))
     subst hbf;(repeat' ((conv=>whnf);first|refine goD ?_|refine U.lw_c ?_ ?_<;>intro hb))
     (conv=>whnf);exact .same (.flat _ rfl) rfl
    ·have g3:decide (pre.sum > 4096)=false:=decide_eq_false h3;have hw:IntKind.i64.wrap (pre.sum+n)=(pre++[n]).sum:=by
      rw[wid (by omega) (by omega)];simp
     (repeat' ((conv=>whnf);first|refine goD ?_|refine U.lw_c ?_ ?_<;>intro hb))
     (conv=>whnf);exact ⟨(pre++[n],rest),⟨by simp,by rw[List.all_append,p2];simp[okA];omega⟩,by simp,(Cov.renI rfl rfl rfl rfl (.W rfl ((fun c hc=>cleanP_cells ⟨sl,_,ins,procs,main⟩ c hc)) rfl .nil) (.cons rfl (.P rfl) (.K rfl rfl rfl (.L rfl (cleanI _) (congrArg (Value.int .i64) (hw.symm)) (.L rfl (cleanI _) (congrArg (Value.int .i64) (zw.symm)) .nil)))))⟩
end Go.Proofs.YtocppbocphnbcaaGreatDoor
