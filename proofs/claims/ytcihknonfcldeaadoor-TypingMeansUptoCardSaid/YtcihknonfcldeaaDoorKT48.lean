
import Derived.Test.YtcihknonfcldeaaDoorKT47
namespace Go.Proofs.YtcihknonfcldeaaDoor
open Go Go.RowKit Go.Sort U
set_option linter.unusedVariables false
set_option linter.unusedSimpArgs false
set_option maxRecDepth 100000
set_option maxHeartbeats 40000000
theorem findE_nd {l a b:List EnD}{e:EnD}(hn:(l.map (·.nm)).Nodup) (h:l=a++e::b):findE l e.nm=some e:=by
 unfold findE;rw[h];refine List.find?_eq_some_iff_append.2 ⟨by simp,a,b,rfl,fun x hx=>?_⟩
 rw[h,List.map_append,List.map_cons] at hn;have:=(List.nodup_append.1 hn).2.2 x.nm (List.mem_map.2 ⟨x,hx,rfl⟩) e.nm (by simp)
 simpa using this
theorem iL_oneD (l:List Int):(Nat.beq (cellsAll (iL l)).length ((iL l).length*(0+1))&&(cellsAll (iL l)).all Value.oneCell')=true:=by
 rw[cellsI,Bool.and_eq_true];refine ⟨by simp,List.all_eq_true.2 fun x hx=>?_⟩
 obtain ⟨n,_,rfl⟩:=List.mem_map.1 hx;rfl
theorem iL_appC (a b:List Int):cellsAll (iL (a++b))=cellsAll (iL a)++cellsAll (iL b):=by
 rw[cellsI,cellsI,cellsI,iL,List.map_append];rfl
theorem ble_g (n m:Nat):Nat.ble (n+(m+1)) n=false:=Bool.eq_false_iff.2 fun h=>by have:=bR h;omega
noncomputable abbrev stLw (Ts:Nat->TypeId) (p:APr) (sl:List Int):AS:=⟨mkO [(0,kwBlk Ts),(1,some (bPr p)),(3,rowO 3 (iL sl))],4,1,1⟩
noncomputable abbrev stLx (Ts:Nat->TypeId) (p:APr):AS:=⟨mkO [(0,kwBlk Ts),(1,some (bPr p))],4,1,1⟩
theorem law_d (p:APr) (hs:szPr p≤800000):DenU Tryd.prog kwT 3 [encPr p] (.bool true):=by
 refine denU_of_soundT kw_ok fun Ts=>SoundAt.body hmixU Tryd.func3 rfl rfl rfl 0 ?_
 have cw:=works12_d;have kp:=cleanPr p;(repeat' ((conv=>whnf);first|refine goD ?_|refine U.lw_c ?_ ?_<;>intro hb))
 (conv=>whnf);refine SoundAt.e (few12_e p hs) ⟨kp,trivial⟩ fun u hq=>?_
 obtain ⟨b,rfl,hb⟩:=hq;rcases b with _|_
 ·(repeat' ((conv=>whnf);first|refine goA ?_|refine U.SoundAt.uT kw_ok cw trivial (tabN rfl rfl) ?_|refine goB ?_|refine U.lw_c ?_ ?_<;>intro hb))
  (conv=>whnf);exact .same (.flat _ rfl) rfl
 obtain ⟨h1,h2,h3⟩:=hb rfl;have hf:FewA p:=⟨h1,h2,h3⟩;(repeat' ((conv=>whnf);first|refine goD ?_|refine U.lw_c ?_ ?_<;>intro hb))
 (conv=>whnf);refine SoundAt.eT kw_ok (check_e p hf) ⟨kp,trivial⟩ (tabN rfl rfl) fun u hq=>?_
 rcases hq with ⟨a,b,e,hne,rfl⟩|⟨l,hk,rfl⟩
 ·have g1:(e != 0)=true:=by simpa using hne
  (repeat' ((conv=>whnf);first|refine goA ?_|refine U.SoundAt.uT kw_ok cw trivial (tabN rfl rfl) ?_|refine goB ?_|refine U.lw_c ?_ ?_<;>intro hb))
  (conv=>whnf);exact .same (.flat _ rfl) rfl
 ·obtain ⟨hkd,hok,hkey,hgd,hgm,rows,hog,hnc⟩:=hk;have hle:l.length=p.ds.length:=by have:=congrArg List.length hkey;simpa using this
  have hS:NmS l:=⟨by rw[hle];exact hf.dl,fun e he=>by
   have:keyE e∈p.ds.map keyD:=by rw[← hkey];exact List.mem_map.2 ⟨e,he,rfl⟩
   obtain ⟨d,hd,h⟩:=List.mem_map.1 this;have h2:d.ps=e.ps:=congrArg (fun x=>x.2.2) h
   rw[← h2];exact hf.ps d hd,hok.noOk⟩
  have kn:=cleanNm l;have c0:=nodes_d l hS.mp;have hwn:IntKind.i64.wrap (((prN l+1:Nat):Int)-1)=((prN l:Nat):Int):=by
   have:=prN_le l;have:=hS.len;rw[IntKind.wrap_i64];omega
  (repeat' ((conv=>whnf);first|refine goD ?_|refine U.lw_c ?_ ?_<;>intro hb))
  (conv=>whnf);refine loop_inv (α:=List ADc×List ADc×List EnD×List EnD) (fun x=>x.1++x.2.1=p.ds∧l=x.2.2.1++x.2.2.2∧x.2.2.1.map keyE=x.1.map keyD∧x.2.2.2.map keyE=x.2.1.map keyD∧goodDs l (prD x.1) x.2.1) (fun x=>(mkF [(1,.pointer (some ⟨1,0,none⟩)),(3,nmV l),(5,rowS 3 (iL (slP l x.2.2.1))),(6,.int .i64 (prD x.1:Nat)),(7,.int .i64 (x.1.length:Nat))],stLw Ts p (slP l x.2.2.1))) (fun x=>x.2.1.length) ([],p.ds,[],l) ⟨rfl,rfl,rfl,hkey,hgd⟩ (Cov.renO (fun k=>k) rfl rfl (bR rfl) (bR rfl) (fun _ _=>rfl) rfl (kp1 (by rfl)) (.W rfl (kwClean) rfl (.W rfl (cleanPr_cells p) rfl (.none .nil))) (.cons rfl (.P rfl) (.L rfl (kn) rfl (.K rfl rfl rfl (.K rfl rfl rfl (.K rfl rfl rfl .nil)))))) ?_
  rintro ⟨pre,rest,a,b⟩ ⟨q1,q2,q3,q4,q5⟩
  dsimp only at q1 q2 q3 q4 q5;have fz:=hf.sz;obtain ⟨ds,mn⟩:=p;unfold szPr at fz;dsimp only at q1 fz;subst q1;have fd:=hf.dl;dsimp only at fd;rcases rest with _|⟨d,rest⟩
  ·rw[List.append_nil] at *;have hb0:b=[]:=by simpa using q4
   subst hb0;have q2:l=a:=by simpa using q2
   subst q2;have zb:=U.lt_no encDcs_map pre;(repeat' ((conv=>whnf);first|refine goD ?_|refine U.lw_c ?_ ?_<;>intro hb))
   (conv=>whnf);obtain ⟨s1,s2,s3⟩:=slots_ok hok;have hg3':∀i,i<(slP l l).length->∃z,nth (iL (slP l l)) i=some (.int .i64 z)∧(slP l l)[i]?=some z∧decide (z<0)=false∧decide (z≥((flE l).la:Int))=false∧Nat.blt i (iL (slP l l)).length=true:=fun i hi=>by
    obtain ⟨h6,h7⟩:=s3 (slP l l)[i] (List.getElem_mem hi);exact ⟨(slP l l)[i],by rw[nth_eq,iL,List.getElem?_map,List.getElem?_eq_getElem hi];rfl,List.getElem?_eq_getElem hi,decide_eq_false (by omega),decide_eq_false (by omega),bLe (by rw[iL_len];exact hi)⟩
   have hla:=(foldF_la l (fl0 l) 0 hS.ps).2;have hla2:(flE l).la≤100000:=hS.la (a:=l) (b:=[]) (by simp)
   generalize slP l l=sl at s1 s2 hg3' ⊢
   have cS:=slots_d l;refine loop_inv (α:=Nat) (fun i=>i≤sl.length) (fun i=>(mkF [(1,.pointer (some ⟨1,0,none⟩)),(3,nmV l),(5,imS (iL sl)),(6,.int .i64 (prD pre:Nat)),(11,.int .i64 (i:Nat))],stLx Ts ⟨pre,mn⟩)) (fun i=>sl.length-i) 0 zL ?_ ?_
   ·refine Cov.frzA (fun k=>k) [(3,rowO 3 (iL sl))] rfl rfl (bR rfl) (bR rfl) (fun _ _=>rfl) rfl (kp1 (by rfl)) ⟨⟨bR rfl,fun b h=>h⟩,trivial⟩ rfl ?_ ?_
    ·exact (.W rfl (kwClean) rfl (.W rfl (cleanPr_cells _) rfl .nil))
    ·exact (.cons rfl (.P rfl) (.L rfl (kn) rfl (.cons rfl (RenV.frz (.ofRow (bR rfl) rfl iL_1 (cleanIC _)) rfl) (.cons rfl .I (.K rfl rfl rfl .nil)))))
   have ksl:NoNm (imS (iL sl)):=.ims _ (cleanIC _);intro i hi;by_cases hin:i<sl.length
   ·have g1:decide ((i:Int)<((iL sl).length:Int))=true:=decide_eq_true (by rw[iL_len];omega)
    obtain ⟨z,z1,z2,z3,z4,z5⟩:=hg3' i hin;(repeat' ((conv=>whnf);first|refine goD ?_|refine U.lw_c ?_ ?_<;>intro hb))
    (conv=>whnf);refine loop_inv (α:=Nat) (fun k=>k≤i) (fun k=>(mkF [(1,.pointer (some ⟨1,0,none⟩)),(3,nmV l),(5,imS (iL sl)),(6,.int .i64 (prD pre:Nat)),(11,.int .i64 (i:Nat)),(12,.int .i64 (k:Nat))],stLx Ts ⟨pre,mn⟩)) (fun k=>i-k) 0 zL (Cov.renO (fun k=>k) rfl rfl (bR rfl) (bR rfl) (fun _ _=>rfl) rfl (kp1 (by rfl)) (.W rfl (kwClean) rfl (.W rfl (cleanPr_cells _) rfl .nil)) (.cons rfl (.P rfl) (.L rfl (kn) rfl (.L rfl (ksl) rfl (.cons rfl .I (.cons rfl .I (.K rfl rfl rfl .nil))))))) ?_
    intro k hk;by_cases hki:k<i
    ·have g2:decide ((k:Int)<(i:Int))=true:=decide_eq_true (by omega)
     obtain ⟨y,y1,y2,y3,y4,y5⟩:=hg3' k (by omega)
     have g3:((z:Int)==y)=false:=by
      rw[beq_eq_false_iff_ne];intro hzy;have hp:=(List.pairwise_iff_getElem.1 s2) k i (by omega) hin hki
      rw[List.getElem?_eq_getElem hin] at z2;rw[List.getElem?_eq_getElem (by omega)] at y2;exact hp ((Option.some.inj y2).trans (hzy.symm.trans (Option.some.inj z2).symm))
     have hw:=wadd1 (i:=k) (by omega)
     (repeat' ((conv=>whnf);first|refine goD ?_|refine U.drawX_p (D:=U.propX) 9 [] (by decide +kernel) (by decide +kernel) ?_|refine U.lw_c ?_ ?_<;>intro hb))
     (conv=>whnf);exact ⟨k+1,by omega,by omega,(Cov.renO (fun k=>k) rfl rfl (bR rfl) (bR rfl) (fun _ _=>rfl) rfl (kp1 (by rfl)) (.W rfl (kwClean) rfl (.W rfl (cleanPr_cells _) rfl .nil)) (.cons rfl (.P rfl) (.L rfl (kn) rfl (.L rfl (ksl) rfl (.cons rfl .I (.cons rfl .I (.L rfl (cleanI _) (congrArg (Value.int .i64) (hw.symm)) .nil)))))))⟩
    ·obtain rfl:k=i:=by omega
     have g2:decide ((k:Int)<(k:Int))=false:=decide_eq_false (by omega)
     have hw:=wadd1 (i:=k) (by omega)
     (repeat' ((conv=>whnf);first|refine goD ?_|refine U.SoundAt.u (cS) clN ?_|refine U.SoundC.u (cS) clN ?_|refine U.drawX_p (D:=U.propX) 14 [] (by decide +kernel) (by decide +kernel) ?_|refine U.lw_c ?_ ?_<;>intro hb))
     (conv=>whnf);exact ⟨k+1,by omega,by omega,(Cov.renO (fun k=>k) rfl rfl (bR rfl) (bR rfl) (fun _ _=>rfl) rfl (kp1 (by rfl)) (.W rfl (kwClean) rfl (.W rfl (cleanPr_cells _) rfl .nil)) (.cons rfl (.P rfl) (.L rfl (kn) rfl (.L rfl (ksl) rfl (.cons rfl .I (.L rfl (cleanI _) (congrArg (Value.int .i64) (hw.symm)) .nil))))))⟩
   ·obtain rfl:i=sl.length:=by omega
    have g1:decide (((sl.length:Nat):Int)<((iL sl).length:Int))=false:=decide_eq_false (by rw[iL_len];omega)
    have cO:=of_u ⟨pre,mn⟩ hf hog;have cR:=ring_p ⟨pre,mn⟩ hf hog;have kg:=cleanG ⟨namesD pre,rows⟩;have cF:=fits_d l hS (prD pre:Nat) 1000 mn (by omega) (by omega) hgm
    have km:=cleanT6s mn;have g2:(((iL sl).length:Int)==((flE l).la:Int))=true:=by rw[iL_len,s1];simp
    have hpp:prN l=prD pre:=keys_prN hkey;have hpl2:prD pre≤pre.length:=List.length_filter_le ..;have g3:(((prN l+1:Nat):Int)==IntKind.i64.wrap (((prD pre:Nat):Int)+1))=true:=by rw[hpp,wadd1 (by omega)];simp
    (repeat' ((conv=>whnf);first|refine goA ?_|refine U.SoundAt.uT kw_ok cw trivial (tabN rfl rfl) ?_|(refine U.SoundAt.e cR ⟨kg,trivial⟩ ?_;rintro _ (⟨rfl,hnc2⟩|⟨v,L,rfl,hv,hnc2⟩);rotate_left 1;exact absurd hnc hnc2)|refine goB ?_|refine U.SoundAt.u (c0) clN ?_|refine U.SoundAt.u (cS) clN ?_|refine U.SoundAt.u (cO) clN ?_|refine U.SoundAt.u (cF) clN ?_|refine U.SoundC.u (c0) clN ?_|refine U.SoundC.u (cS) clN ?_|refine U.SoundC.u (cO) clN ?_|refine U.SoundC.u (cF) clN ?_|refine U.lw_c ?_ ?_<;>intro hb))
    all_goals (conv=>whnf)
    all_goals exact .same (.flat _ rfl) rfl
  ·have zb:=U.lt_yes encDcs_map pre (d) rest;have zc:=U.blt_yes encDcs_map pre (d) rest;have zn:=U.nth_at encDcs_map pre (d) rest;have zw:=U.len_snoc (pre:=pre) (x:=d) (post:=rest) ((Nat.le_trans (show _≤300 from fd) (by decide)))
   obtain ⟨e,b,rfl,qe,q4'⟩:∃e b',b=e::b'∧keyE e=keyD d∧b'.map keyE=rest.map keyD:=by
    rw[List.map_cons] at q4;obtain ⟨e,b',h4,h5,h6⟩:=List.map_eq_cons_iff.1 q4;exact ⟨e,b',h4,h5,h6⟩
   have hsz:1+szTs d.body≤szDs (pre++d::rest):=szDs_mem (by simp)
   have hfe:findE l e.nm=some e:=findE_nd hok.ok.nd q2;have hmm:meanM l e.nm=if e.k=3 then (2,e.no) else if e.k=4 then (3,e.no) else (1,e.no):=by unfold meanM;rw[hfe]
   have c2:=slot_d l (IntKind.i64.wrap (((prN l+1:Nat):Int)-1)) e.nm hS.mp;rw[show meanD l (IntKind.i64.wrap (((prN l+1:Nat):Int)-1)) e.nm=meanM l e.nm by
    rw[hwn];unfold meanD ownOf;rw[if_pos (by omega),Int.toNat_natCast,List.getElem?_eq_none (by rw[(flE_lens l).2.2];exact Nat.le_refl _)]] at c2
   have hsn:slP l (a++[e])=slP l a++segS (flP l a) e:=slA_snoc _ _ _ _;have hslen:(slP l a).length≤90000:=by
    have:=(slOk_all hok a.length a (e::b) rfl q2).len;have h5:=(foldF_la a (fl0 l) 0 fun x hx=>hS.ps x (by rw[q2];simp[hx])).2
    have h6:cntEn a 0≤a.length:=List.length_filter_le ..;have h7:=hS.len;have h8:a.length≤l.length:=by rw[q2];simp
    have h9:(fl0 l).la=cntEn l 0:=rfl;have h10:cntEn l 0≤l.length:=List.length_filter_le ..;unfold flP at this;omega
   have hke:=hok.kd e (by rw[q2];simp)
   obtain ⟨k,nm,no,lo2,hi2,sz2,ps,ln2,cl2⟩:=e;obtain ⟨k',nm',lo,hi,sz,ps',bd,ln,cl⟩:=d;unfold keyE keyD at qe;simp only[Prod.mk.injEq] at qe;obtain ⟨rfl,rfl,rfl⟩:=qe;dsimp only at c2 hsn hke hsz hmm
   have kb:=cleanT6s bd;by_cases k2:k≤2
   ·have g2:decide (k≤2)=true:=decide_eq_true k2;have g3:(!(true==decide (k≤2)))=false:=by rw[g2];rfl
    have g4:(k==4)=false:=by simp;omega
    rw[show meanM l nm=(1,no) by rw[hmm,if_neg (by omega),if_neg (by omega)]] at c2
    dsimp only at c2;rw[if_pos rfl] at c2;have e1:prD (pre++[⟨k,nm,lo,hi,sz,ps,bd,ln,cl⟩])=prD pre:=by
     unfold prD;rw[List.filter_append,List.filter_cons_of_neg (by simp;omega)];simp
    have hgr':goodDs l (prD pre) rest:=by rw[goodDs,if_neg (by show ¬k=4;omega)] at q5;exact q5
    have hsl:slP l (a++[⟨k,nm,no,lo2,hi2,sz2,ps,ln2,cl2⟩])=slP l a++[no]:=by rw[hsn];unfold segS;rw[if_pos (by exact k2)]
    unfold stLw;generalize hsq:slP l a=sl at hsl hslen ⊢
    have hsx:=hslen;rcases sl with _|⟨x,xs⟩
    ·(repeat' ((conv=>whnf);first|refine goD ?_|refine U.SoundAt.u (c0) clN ?_|refine U.SoundAt.u (c2) clN ?_|refine U.SoundC.u (c0) clN ?_|refine U.SoundC.u (c2) clN ?_|refine U.drawX_p (D:=U.propX) 12 [] (by decide +kernel) (by decide +kernel) ?_|refine U.lw_c ?_ ?_<;>intro hb))
     (conv=>whnf);refine ⟨(pre++[⟨k,nm,lo,hi,sz,ps,bd,ln,cl⟩],rest,a++[⟨k,nm,no,lo2,hi2,sz2,ps,ln2,cl2⟩],b),⟨by simp,by simpa using q2,by rw[List.map_append,List.map_append,q3];rfl,q4',by rw[e1];exact hgr'⟩,by simp,?_⟩
     dsimp only;try unfold stLw
     rw[hsl];exact (Cov.renO (fun k=>if k=3 then 6 else k) rfl rfl (bR rfl) (bR rfl) (fun k hk=>by have:k<3:=hk;rw[if_neg (by omega)]) rfl (kp1 (by rfl)) (.W rfl (kwClean) rfl (.W rfl (cleanPr_cells _) rfl (blksO.grownL rfl (.cons .I .nil) .nil))) (.cons rfl (.P rfl) (.L rfl (kn) rfl (.cons rfl (.grown (by decide) rfl (by simp[iL]) (by simp[iL]) (by simp[iL])) (.L rfl (cleanI _) (congrArg (Value.int .i64) ((by rw[e1]))) (.L rfl (cleanI _) (congrArg (Value.int .i64) (zw.symm)) .nil))))))
    ·have hgr:(cellsAll (Value.int IntKind.i64 x::List.map (Value.int IntKind.i64) xs)).length=((List.map (Value.int IntKind.i64) xs).length+1)*1:=by
      rw[show Value.int IntKind.i64 x::List.map (Value.int IntKind.i64) xs=iL (x::xs) from rfl,cellsI,iL_len,List.length_map,Nat.mul_one];rfl
     have hg1:(List.map (Value.int IntKind.i64) xs).length+1+(0+1)≤100000:=by rw[List.length_map];simp at hsx;omega
     (repeat' ((conv=>whnf);first|refine goA ?_|(rw[U.ble_f ((List.map (Value.int IntKind.i64) xs).length+1)];dsimp only;refine U.growRow_p hgr rfl ?_)|refine U.ob_c (grow_ok (by decide +kernel) hg1) ?_|refine goB ?_|refine U.SoundAt.u (c0) clN ?_|refine U.SoundAt.u (c2) clN ?_|refine U.SoundC.u (c0) clN ?_|refine U.SoundC.u (c2) clN ?_|refine U.drawX_p (D:=U.propX) 12 [] (by decide +kernel) (by decide +kernel) ?_|refine U.lw_c ?_ ?_<;>intro hb))
     (conv=>whnf);refine ⟨(pre++[⟨k,nm,lo,hi,sz,ps,bd,ln,cl⟩],rest,a++[⟨k,nm,no,lo2,hi2,sz2,ps,ln2,cl2⟩],b),⟨by simp,by simpa using q2,by rw[List.map_append,List.map_append,q3];rfl,q4',by rw[e1];exact hgr'⟩,by simp,?_⟩
     dsimp only;try unfold stLw
     rw[hsl];exact (Cov.renO (fun k=>if k=3 then 6 else k) rfl rfl (bR rfl) (bR rfl) (fun k hk=>by have:k<3:=hk;rw[if_neg (by omega)]) rfl (kp1 (by rfl)) (.W rfl (kwClean) rfl (.W rfl (cleanPr_cells _) rfl (blksO.grownL rfl (by rw[iL_snocC];exact RenL.app (RenL.refl (cleanIC (x::xs))) (.cons .I .nil)) .nil))) (.cons rfl (.P rfl) (.L rfl (kn) rfl (.cons rfl (.grown (by decide) rfl (by simp[iL]) (by simp[iL]) (by simp[iL])) (.L rfl (cleanI _) (congrArg (Value.int .i64) ((by rw[e1]))) (.L rfl (cleanI _) (congrArg (Value.int .i64) (zw.symm)) .nil))))))
   ·have g2:decide (k≤2)=false:=decide_eq_false k2;have g3:(!(false==decide (k≤2)))=false:=by rw[g2];rfl
    by_cases k4:k=4
    ·have g4:(k==4)=true:=by simpa using k4
     rw[show meanM l nm=(3,no) by rw[hmm,if_neg (by omega),if_pos k4]] at c2
     dsimp only at c2;rw[if_neg (by decide)] at c2;have e1:prD (pre++[⟨k,nm,lo,hi,sz,ps,bd,ln,cl⟩])=prD pre+1:=by
      unfold prD;rw[List.filter_append,List.filter_cons_of_pos (by simpa using k4)];simp
     have hgb:goodSs l (prD pre:Nat) bd∧goodDs l (prD pre+1) rest:=by rw[goodDs,if_pos (by exact k4)] at q5;exact q5
     have hgr':=hgb.2;have hpl:prD pre≤pre.length:=List.length_filter_le ..;have hw1:=wadd1 (i:=prD pre) (by simp at fd;omega)
     rw[← e1] at hw1;have hps:ps.length≤40:=hS.ps ⟨k,nm,no,lo2,hi2,sz2,ps,ln2,cl2⟩ (by rw[q2];simp)
     have c3:=params_d l a b ⟨k,nm,no,lo2,hi2,sz2,ps,ln2,cl2⟩ q2 k4 hps (hS.la q2) hS.len;rw[keys_prN q3] at c3;dsimp only at c3;have c4:=fits_d l hS (prD pre:Nat) 1000 bd (by omega) (by omega) hgb.1
     have hsl:slP l (a++[⟨k,nm,no,lo2,hi2,sz2,ps,ln2,cl2⟩])=slP l a++rgL (flP l a).la ps.length:=by rw[hsn];unfold segS;rw[if_neg (by exact k2),if_pos (by exact k4)]
     generalize (flP l a).la=la at c3 hsl
     have g5:(((iL (rgL la ps.length)).length:Int) != ((sL ps).length:Int))=false:=by rw[iL_len,rgL_len,sL,List.length_map];simp
     unfold stLw;rcases ps with _|⟨s0,ps⟩
     ·have hz:rgL la ([]:List ByteArray).length=[]:=rfl;rw[hz] at c3 hsl g5;rw[List.append_nil] at hsl;generalize hsq:slP l a=sl at hsl hslen ⊢
      have hsx:=hslen;rcases sl with _|⟨x,xs⟩
      ·(repeat' ((conv=>whnf);first|refine goD ?_|refine U.SoundAt.u (c0) clN ?_|refine U.SoundAt.u (c2) clN ?_|refine U.SoundAt.u (c3) clN ?_|refine U.SoundAt.u (c4) clN ?_|refine U.SoundC.u (c0) clN ?_|refine U.SoundC.u (c2) clN ?_|refine U.SoundC.u (c3) clN ?_|refine U.SoundC.u (c4) clN ?_|refine U.drawX_p (D:=U.propX) 12 [] (by decide +kernel) (by decide +kernel) ?_|refine U.drawX_p (D:=U.propX) 16 [] (by decide +kernel) (by decide +kernel) ?_|refine U.lw_c ?_ ?_<;>intro hb))
       (conv=>whnf);refine ⟨(pre++[⟨k,nm,lo,hi,sz,[],bd,ln,cl⟩],rest,a++[⟨k,nm,no,lo2,hi2,sz2,[],ln2,cl2⟩],b),⟨by simp,by simpa using q2,by rw[List.map_append,List.map_append,q3];rfl,q4',by rw[e1];exact hgr'⟩,by simp,?_⟩
       dsimp only;try unfold stLw
       rw[hsl];exact (Cov.renO (fun k=>k) rfl rfl (bR rfl) (bR rfl) (fun _ _=>rfl) rfl (kp1 (by rfl)) (.W rfl (kwClean) rfl (.W rfl (cleanPr_cells _) rfl (blksO.row rfl rfl (cleanIC _) .nil))) (.cons rfl (.P rfl) (.L rfl (kn) rfl (.cons rfl (.ofRow (by decide) rfl rfl) (.L rfl (cleanI _) (congrArg (Value.int .i64) (hw1.symm)) (.L rfl (cleanI _) (congrArg (Value.int .i64) (zw.symm)) .nil))))))
      ·(repeat' ((conv=>whnf);first|refine goD ?_|refine U.SoundAt.u (c0) clN ?_|refine U.SoundAt.u (c2) clN ?_|refine U.SoundAt.u (c3) clN ?_|refine U.SoundAt.u (c4) clN ?_|refine U.SoundC.u (c0) clN ?_|refine U.SoundC.u (c2) clN ?_|refine U.SoundC.u (c3) clN ?_|refine U.SoundC.u (c4) clN ?_|refine U.drawX_p (D:=U.propX) 12 [] (by decide +kernel) (by decide +kernel) ?_|refine U.drawX_p (D:=U.propX) 16 [] (by decide +kernel) (by decide +kernel) ?_|refine U.lw_c ?_ ?_<;>intro hb))
       (conv=>whnf);refine ⟨(pre++[⟨k,nm,lo,hi,sz,[],bd,ln,cl⟩],rest,a++[⟨k,nm,no,lo2,hi2,sz2,[],ln2,cl2⟩],b),⟨by simp,by simpa using q2,by rw[List.map_append,List.map_append,q3];rfl,q4',by rw[e1];exact hgr'⟩,by simp,?_⟩
       dsimp only;try unfold stLw
       rw[hsl];exact (Cov.renO (fun k=>k) rfl rfl (bR rfl) (bR rfl) (fun _ _=>rfl) rfl (kp1 (by rfl)) (.W rfl (kwClean) rfl (.W rfl (cleanPr_cells _) rfl (blksO.row rfl rfl (cleanIC _) .nil))) (.cons rfl (.P rfl) (.L rfl (kn) rfl (.cons rfl (.ofRow (by decide) rfl rfl) (.L rfl (cleanI _) (congrArg (Value.int .i64) (hw1.symm)) (.L rfl (cleanI _) (congrArg (Value.int .i64) (zw.symm)) .nil))))))
     ·obtain ⟨y,ys,hy⟩:∃y ys,rgL la (s0::ps).length=y::ys:=by
       cases h:rgL la (s0::ps).length with
       |nil=>have:=rgL_len la (s0::ps).length;rw[h] at this;simp at this
       |cons y ys=>exact ⟨y,ys,rfl⟩
      have hyl:ys.length+1≤40:=by have:=rgL_len la (s0::ps).length;rw[hy] at this;rw[List.length_cons] at this;omega
      rw[hy] at c3 hsl g5;have ky:NoNm (imS (iL (y::ys))):=.ims _ (cleanIC _);generalize hsq:slP l a=sl at hsl hslen ⊢
      have hsx:=hslen;rcases sl with _|⟨x,xs⟩
      ·have hg1:0+((List.map (Value.int IntKind.i64) ys).length+1)≤100000:=by rw[List.length_map];simp at hyl;omega
       (repeat' ((conv=>whnf);first|refine goA ?_|refine U.ob_c (iL_oneD (y::ys)) ?_|refine U.ob_c (grow_ok (by decide +kernel) hg1) ?_|refine goB ?_|refine U.SoundAt.u (c0) clN ?_|refine U.SoundAt.u (c2) clN ?_|refine U.SoundAt.u (c3) clN ?_|refine U.SoundAt.u (c4) clN ?_|refine U.SoundC.u (c0) clN ?_|refine U.SoundC.u (c2) clN ?_|refine U.SoundC.u (c3) clN ?_|refine U.SoundC.u (c4) clN ?_|refine U.drawX_p (D:=U.propX) 12 [] (by decide +kernel) (by decide +kernel) ?_|refine U.drawX_p (D:=U.propX) 16 [] (by decide +kernel) (by decide +kernel) ?_|refine U.lw_c ?_ ?_<;>intro hb))
       (conv=>whnf);refine ⟨(pre++[⟨k,nm,lo,hi,sz,(s0::ps),bd,ln,cl⟩],rest,a++[⟨k,nm,no,lo2,hi2,sz2,(s0::ps),ln2,cl2⟩],b),⟨by simp,by simpa using q2,by rw[List.map_append,List.map_append,q3];rfl,q4',by rw[e1];exact hgr'⟩,by simp,?_⟩
       dsimp only;try unfold stLw
       rw[hsl];exact (Cov.renO (fun k=>if k=3 then 5 else k) rfl rfl (bR rfl) (bR rfl) (fun k hk=>by have:k<3:=hk;rw[if_neg (by omega)]) rfl (kp1 (by rfl)) (.W rfl (kwClean) rfl (.W rfl (cleanPr_cells _) rfl (blksO.grown rfl rfl (cleanIC (y::ys)) .nil))) (.cons rfl (.P rfl) (.L rfl (kn) rfl (.cons rfl (.grown (by decide) rfl (by simp[iL]) (by simp[iL]) (by simp[iL])) (.L rfl (cleanI _) (congrArg (Value.int .i64) (hw1.symm)) (.L rfl (cleanI _) (congrArg (Value.int .i64) (zw.symm)) .nil))))))
      ·have hgr:(cellsAll (Value.int IntKind.i64 x::List.map (Value.int IntKind.i64) xs)).length=((List.map (Value.int IntKind.i64) xs).length+1)*1:=by
        rw[show Value.int IntKind.i64 x::List.map (Value.int IntKind.i64) xs=iL (x::xs) from rfl,cellsI,iL_len,List.length_map,Nat.mul_one];rfl
       have hg1:(List.map (Value.int IntKind.i64) xs).length+1+((List.map (Value.int IntKind.i64) ys).length+1)≤100000:=by rw[List.length_map,List.length_map];simp at hsx hyl;omega
       (repeat' ((conv=>whnf);first|refine goA ?_|refine U.ob_c (iL_oneD (y::ys)) ?_|(rw[ble_g];dsimp only;refine U.growRow_p hgr rfl ?_)|refine U.ob_c (grow_ok (by decide +kernel) hg1) ?_|refine goB ?_|refine U.SoundAt.u (c0) clN ?_|refine U.SoundAt.u (c2) clN ?_|refine U.SoundAt.u (c3) clN ?_|refine U.SoundAt.u (c4) clN ?_|refine U.SoundC.u (c0) clN ?_|refine U.SoundC.u (c2) clN ?_|refine U.SoundC.u (c3) clN ?_|refine U.SoundC.u (c4) clN ?_|refine U.drawX_p (D:=U.propX) 12 [] (by decide +kernel) (by decide +kernel) ?_|refine U.drawX_p (D:=U.propX) 16 [] (by decide +kernel) (by decide +kernel) ?_|refine U.lw_c ?_ ?_<;>intro hb))
       (conv=>whnf);refine ⟨(pre++[⟨k,nm,lo,hi,sz,(s0::ps),bd,ln,cl⟩],rest,a++[⟨k,nm,no,lo2,hi2,sz2,(s0::ps),ln2,cl2⟩],b),⟨by simp,by simpa using q2,by rw[List.map_append,List.map_append,q3];rfl,q4',by rw[e1];exact hgr'⟩,by simp,?_⟩
       dsimp only;try unfold stLw
       rw[hsl];exact (Cov.renO (fun k=>if k=3 then 5 else k) rfl rfl (bR rfl) (bR rfl) (fun k hk=>by have:k<3:=hk;rw[if_neg (by omega)]) rfl (kp1 (by rfl)) (.W rfl (kwClean) rfl (.W rfl (cleanPr_cells _) rfl (blksO.grownL rfl (by rw[iL_appC];exact RenL.app (RenL.refl (cleanIC (x::xs))) (RenL.refl (cleanIC (y::ys)))) .nil))) (.cons rfl (.P rfl) (.L rfl (kn) rfl (.cons rfl (.grown (by decide) rfl (by simp[iL]) (by simp[iL];try omega) (by simp[iL];try omega)) (.L rfl (cleanI _) (congrArg (Value.int .i64) (hw1.symm)) (.L rfl (cleanI _) (congrArg (Value.int .i64) (zw.symm)) .nil))))))
    ·have k3:k=3:=by omega
     have g4:(k==4)=false:=by simpa using k4
     rw[show meanM l nm=(2,no) by rw[hmm,if_pos k3]] at c2
     dsimp only at c2;rw[if_neg (by decide)] at c2;have e1:prD (pre++[⟨k,nm,lo,hi,sz,ps,bd,ln,cl⟩])=prD pre:=by
      unfold prD;rw[List.filter_append,List.filter_cons_of_neg (by simpa using k4)];simp
     have hgr':goodDs l (prD pre) rest:=by rw[goodDs,if_neg (by exact k4)] at q5;exact q5
     have hsl:slP l (a++[⟨k,nm,no,lo2,hi2,sz2,ps,ln2,cl2⟩])=slP l a:=by rw[hsn];unfold segS;rw[if_neg (by exact k2),if_neg (by exact k4),List.append_nil]
     (repeat' ((conv=>whnf);first|refine goD ?_|refine U.SoundAt.u (c0) clN ?_|refine U.SoundAt.u (c2) clN ?_|refine U.SoundC.u (c0) clN ?_|refine U.SoundC.u (c2) clN ?_|refine U.drawX_p (D:=U.propX) 12 [] (by decide +kernel) (by decide +kernel) ?_|refine U.lw_c ?_ ?_<;>intro hb))
     (conv=>whnf);refine ⟨(pre++[⟨k,nm,lo,hi,sz,ps,bd,ln,cl⟩],rest,a++[⟨k,nm,no,lo2,hi2,sz2,ps,ln2,cl2⟩],b),⟨by simp,by simpa using q2,by rw[List.map_append,List.map_append,q3];rfl,q4',by rw[e1];exact hgr'⟩,by simp,?_⟩
     dsimp only;try unfold stLw
     rw[hsl];exact (Cov.renO (fun k=>k) rfl rfl (bR rfl) (bR rfl) (fun _ _=>rfl) rfl (kp1 (by rfl)) (.W rfl (kwClean) rfl (.W rfl (cleanPr_cells _) rfl (blksO.row rfl rfl (cleanIC _) .nil))) (.cons rfl (.P rfl) (.L rfl (kn) rfl (.cons rfl (.ofRow (by decide) rfl rfl) (.L rfl (cleanI _) (congrArg (Value.int .i64) ((by rw[e1]))) (.L rfl (cleanI _) (congrArg (Value.int .i64) (zw.symm)) .nil))))))
end Go.Proofs.YtcihknonfcldeaaDoor
