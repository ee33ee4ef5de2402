
import Derived.Test.YtocppbocphnbcaaGreatDoorXS42
namespace Go.Proofs.YtocppbocphnbcaaGreatDoor
open Go Go.RowKit Go.Sort U
set_option linter.unusedVariables false
set_option linter.unusedSimpArgs false
set_option maxRecDepth 100000
set_option maxHeartbeats 40000000
theorem writes_all (p:Pg) (hf:FewP p):∀(N:Nat) (l:List St) (x:SA) (sn:List Bool) (k:Nat),szSs l+unS p.procs sn≤N->szSs l≤1000->sn.length=p.procs.length->SOk x (25*(unS p.procs sn+szSs l)+k)->DenW Tryz.prog 43 [encP p,imS (encSs l),imS (iL x.1),imS (iL x.2),.slice (some ⟨0,0,none⟩) p.procs.length p.procs.length] 4 (obL sn) fun y ys=>∃x' sn',(y=saV x'∧ys=obL sn')∧Did p (wNt p) (allSs l) x sn k 0 x' sn':=by
 have hpl:=hf.procs;have hz:=hf.sz;have hrs:∀s:St,szS s≤1000->DenU Tryz.prog [] 70 [encP p,encS s] (.bool (standsB p s)):=fun s h=>by
  obtain ⟨k,a,xs,th,el,no⟩:=s;exact rrS_d p k a no xs th el (Nat.le_trans (show xs.length≤1000 by have:=szEs_len xs;rw[szS] at h;omega) (by decide)) fun e he=>rrE_all p 1000 e (by have:=szEs_mem he;rw[szS] at h;omega) (by have:=szEs_mem he;rw[szS] at h;omega)
 have hbody:∀(j:Nat) (x:Pr13),p.procs[j]?=some x->bodyN p j=allSs x.body:=fun j x h=>by rw[bodyN,h]
 have hbz:∀(j:Nat) (x:Pr13),p.procs[j]?=some x->szSs x.body≤900:=fun j x h=>by have:=szPrs_mem (List.mem_of_getElem? h);omega
 have hbp:∀(j:Nat) (x:Pr13),p.procs[j]?=some x->x.ps.length≤20:=fun j x h=>hf.ps x (List.mem_of_getElem? h)
 have kP:NoNm (.agg ⟨[.int .i64 p.slots,imS (iL p.arrs),imS (inL p.ins),imS (prL p.procs),imS (encSs p.main)]⟩):=cleanP p;have hprl:=prL_len p.procs;intro N;induction N with
 |zero =>
  intro l x sn k h0 h1 h2 h3;obtain rfl:l=[]:=List.length_eq_zero_iff.1 (by have:=szSs_len l;omega)
  refine ⟨obL_flat sn,SoundAt.body hmixU Tryz.func43 rfl rfl rfl 0 ?_⟩;(repeat' ((conv=>whnf);first|refine goD ?_|refine U.lw_c ?_ ?_<;>intro hb))
  (conv=>whnf);refine loop_inv (α:=Unit) (fun _=>True) (fun _=>(mkF [(1,imS []),(2,imS (iL x.1)),(3,imS (iL x.2)),(10,.slice none 0 0),(11,.slice none 0 0),(12,.int .i64 0)],⟨mkO [(0,some (.cells 4 (obL sn) false))],2,0,0⟩)) (fun _=>0) () trivial (Cov.renI rfl rfl rfl rfl (.W rfl (obL_clean sn) rfl .nil) (.L rfl (cleanSs []) rfl (.L rfl (cleanIL _) rfl (.L rfl (cleanIL _) rfl (.K rfl rfl rfl (.K rfl rfl rfl (.K rfl rfl rfl .nil))))))) ?_
  rintro _ _
  (repeat' ((conv=>whnf);first|refine goD ?_|refine U.lw_c ?_ ?_<;>intro hb))
  (conv=>whnf);refine ⟨_,_,⟨x,sn,⟨rfl,rfl⟩,.nil,h3.mono (by omega)⟩,rfl,obL_flat sn,.tupL (.cons (.clean _ (cleanIL _)) (.cons (.clean _ (cleanIL _)) .nil))⟩
 |succ N ih =>
  intro l x sn k h0 h1 h2 h3;refine ⟨obL_flat sn,SoundAt.body hmixU Tryz.func43 rfl rfl rfl 0 ?_⟩;(repeat' ((conv=>whnf);first|refine goD ?_|refine U.lw_c ?_ ?_<;>intro hb))
  (conv=>whnf);refine loop_sem (α:=List St×List St×SA×List Bool) (fun y=>y.1++y.2.1=l∧Did p (wNt p) (allSs y.1) x sn k (szSs y.2.1) y.2.2.1 y.2.2.2) (fun y=>(mkF [(1,imS (encSs l)),(2,imS (iL y.2.2.1.1)),(3,imS (iL y.2.2.1.2)),(4,.slice (some ⟨0,0,none⟩) p.procs.length p.procs.length),(5,imP (encP p) 0),(10,.slice none 0 0),(11,.slice none 0 0),(12,.int .i64 y.1.length)],⟨mkO [(0,some (.cells 4 (obL y.2.2.2) false))],2,0,0⟩)) (fun y=>y.2.1.length) ([],l,x,sn) ⟨rfl,.nil,h3.mono (by dsimp only;omega)⟩ (Cov.boxF (fun k=>k) 1 (encP p) (T:=34) rfl rfl (bR rfl) zL (fun _ _=>rfl) rfl nlz zL rfl rfl rfl (fun h=>by cases h) (cleanP_cells p) (.W rfl (obL_clean sn) rfl .nil) (.L rfl (cleanSs _) rfl (.L rfl (cleanIL _) rfl (.L rfl (cleanIL _) rfl (.cons rfl (.S rfl rfl rfl) (.cons rfl (.ext _ _ ⟨rfl,rfl⟩) (.K rfl rfl rfl (.K rfl rfl rfl (.K rfl rfl rfl .nil))))))))) ?_
  rintro ⟨pre,rest,x1,sn1⟩ ⟨p1,hD⟩
  dsimp only at p1 hD;subst p1;dsimp only;have hlen:=szSs_len (pre++rest);have hun:=hD.un;have hsl:sn1.length=p.procs.length:=hD.post.len.trans h2;rcases rest with _|⟨s,rest⟩
  ·rw[List.append_nil] at *;have zb:=U.lt_no encSs_map pre;refine CodeS.run hmixU 0 zL ?_;(repeat' ((conv=>whnf);first|refine goD ?_|refine U.lw_c ?_ ?_<;>intro hb))
   (conv=>whnf);exact ⟨_,_,⟨x1,sn1,⟨rfl,rfl⟩,hD⟩,rfl,obL_flat sn1,.tupL (.cons (.clean _ (cleanIL _)) (.cons (.clean _ (cleanIL _)) .nil))⟩
  ·have zb:=U.lt_yes encSs_map pre (s) rest;have zc:=U.blt_yes encSs_map pre (s) rest;have zn:=U.nth_at encSs_map pre (s) rest;have zw:=U.len_snoc (pre:=pre) (x:=s) (post:=rest) ((Nat.le_trans (show _≤1000 by omega) (by decide)))
   obtain ⟨kk,a,xs,th,el,no⟩:=s;have hsz:=szSs_app pre (.mk kk a xs th el no::rest);have hszS:szSs (.mk kk a xs th el no::rest)=szEs xs+szSs th+szSs el+1+szSs rest:=by rw[szSs,szS]
   rw[hszS] at hsz;have hok1:=hD.ok;rw[hszS] at hok1;have c0:=hrs (.mk kk a xs th el no) (by rw[szS];omega)
   have kS:NoNm (.agg ⟨[.int .i64 kk,.int .i64 a,imS (encEs xs),imS (encSs th),imS (encSs el),.int .i64 no]⟩):=.agg _ (cleanS_cells (.mk kk a xs th el no));refine CodeS.then_ (mkF [(1,imS (encSs (pre++.mk kk a xs th el no::rest))),(2,imS (iL x1.1)),(3,imS (iL x1.2)),(4,.slice (some ⟨0,0,none⟩) p.procs.length p.procs.length),(5,imP (encP p) 0),(10,.slice none 0 0),(11,.slice none 0 0),(12,.int .i64 pre.length)]) ⟨mkO [(0,some (.cells 4 (obL sn1) false))],2,0,0⟩ ?_ ?_
   ·refine CodeS.run hmixU 0 zL ?_;(repeat' ((conv=>whnf);first|refine goD ?_|refine U.lw_c ?_ ?_<;>intro hb))
    (conv=>whnf);exact (Cov.renI rfl rfl rfl rfl (.W rfl (obL_clean _) rfl .nil) (.L rfl (cleanSs _) rfl (.L rfl (cleanIL _) rfl (.L rfl (cleanIL _) rfl (.cons rfl (.S rfl rfl rfl) (.L rfl (cleanPI p) rfl (.K rfl rfl rfl (.K rfl rfl rfl (.cons rfl .I .nil)))))))))
   refine CodeS.seq (k1:=fun e fr1 s1=>e=.normal∧∃(x4:SA) (sn4:List Bool),Did p (wNt p) (allSs (pre++[.mk kk a xs th el no])) x sn k (szSs rest) x4 sn4∧Cov Tryz.prog (5+(Tryz.f43.ntmps-5)) 2 fr1 s1 (mkF [(1,imS (encSs (pre++.mk kk a xs th el no::rest))),(2,imS (iL x4.1)),(3,imS (iL x4.2)),(4,.slice (some ⟨0,0,none⟩) p.procs.length p.procs.length),(5,imP (encP p) 0),(10,.slice none 0 0),(11,.slice none 0 0),(12,.int .i64 pre.length)]) ⟨mkO [(0,some (.cells 4 (obL sn4) false))],2,0,0⟩) (CodeS.block (CodeS.then_ (mkF [(1,imS (encSs (pre++.mk kk a xs th el no::rest))),(2,imS (iL x1.1)),(3,imS (iL x1.2)),(4,.slice (some ⟨0,0,none⟩) p.procs.length p.procs.length),(5,imP (encP p) 0),(10,.slice none 0 0),(11,.slice none 0 0),(12,.int .i64 pre.length),(13,imP (encS (.mk kk a xs th el no)) 0)]) ⟨mkO [(0,some (.cells 4 (obL sn1) false))],3,0,0⟩ ?_ (CodeS.seq (k1:=fun e fr1 s1=>e=.normal∧∃(x2:SA) (sn2:List Bool),(Post p (wNt p) [.mk kk a xs th el no] x1.1 x1.2 sn1 x2.1 x2.2 sn2∧SOk x2 (25*(unS p.procs sn2+(szSs th+szSs el+szSs rest))+k))∧Cov Tryz.prog (5+(Tryz.f43.ntmps-5)) 3 fr1 s1 (mkF [(1,imS (encSs (pre++.mk kk a xs th el no::rest))),(2,imS (iL x2.1)),(3,imS (iL x2.2)),(4,.slice (some ⟨0,0,none⟩) p.procs.length p.procs.length),(5,imP (encP p) 0),(10,.slice none 0 0),(11,.slice none 0 0),(12,.int .i64 pre.length),(13,imP (encS (.mk kk a xs th el no)) 0)]) ⟨mkO [(0,some (.cells 4 (obL sn2) false))],3,0,0⟩) ?_ ?_))) ?_
   ·refine CodeS.run hmixU 0 zL ?_;(repeat' ((conv=>whnf);first|refine goD ?_|refine U.lw_c ?_ ?_<;>intro hb))
    (conv=>whnf);exact (Cov.boxF (fun k=>k) 2 (encS (.mk kk a xs th el no)) (T:=98) rfl rfl (bR rfl) zL (fun _ _=>rfl) rfl nlz zL rfl rfl rfl (fun h=>by cases h) (cleanS_cells (.mk kk a xs th el no)) (.W rfl (obL_clean _) rfl .nil) (.L rfl (cleanSs _) rfl (.L rfl (cleanIL _) rfl (.L rfl (cleanIL _) rfl (.cons rfl (.S rfl rfl rfl) (.L rfl (cleanPI p) rfl (.K rfl rfl rfl (.K rfl rfl rfl (.cons rfl .I (.cons rfl (.ext _ _ ⟨rfl,rfl⟩) .nil))))))))))
   ·rcases hb0:standsB p (.mk kk a xs th el no) with _|_
    ·rw[hb0] at c0;refine CodeS.run hmixU 0 zL ?_;(repeat' ((conv=>whnf);first|refine goD ?_|refine U.SoundAt.u (c0) clM ?_|refine U.SoundC.u (c0) clM ?_|refine U.lw_c ?_ ?_<;>intro hb))
     (conv=>whnf);exact ⟨rfl,x1,sn1,⟨.skip hb0,hok1.mono (by omega)⟩,(Cov.renI rfl rfl rfl rfl (.W rfl (obL_clean _) rfl .nil) (.L rfl (cleanSs _) rfl (.L rfl (cleanIL _) rfl (.L rfl (cleanIL _) rfl (.cons rfl (.S rfl rfl rfl) (.L rfl (cleanPI p) rfl (.K rfl rfl rfl (.K rfl rfl rfl (.cons rfl .I (.L rfl (cleanSI _) rfl .nil))))))))))⟩
    rw[hb0] at c0;have hl1:=hok1.l1;have hl2:=hok1.l2;by_cases k0:kk=0
    ·have g0:(kk==0)=true:=by simpa using k0
     have ca:=add_d x1.1 a hok1.r1 (by omega)
     have e1:(wNt p).sl (.mk kk a xs th el no)=[a]:=by simp[wNt,k0]
     have e2:(wNt p).ar (.mk kk a xs th el no)=[]:=by simp[wNt,k0]
     have hal:=addI_len (n:=a) (l:=x1.1);refine CodeS.run hmixU 0 zL ?_;(repeat' ((conv=>whnf);first|refine goD ?_|refine U.SoundAt.u (c0) clM ?_|refine U.SoundAt.u (ca) clM ?_|refine U.SoundC.u (c0) clM ?_|refine U.SoundC.u (ca) clM ?_|refine U.lw_c ?_ ?_<;>intro hb))
     (conv=>whnf);exact ⟨rfl,(addI a x1.1,x1.2),sn1,⟨.own hb0 (by rw[e1];exact .one _ _) (by rw[e2];exact .nil _) (fun h=>by have h:kk=5:=h;rw[h] at k0;cases k0),⟨addI_ris hok1.r1,hok1.r2,by dsimp only;omega,by dsimp only;omega⟩⟩,(Cov.renI rfl rfl rfl rfl (.W rfl (obL_clean _) rfl .nil) (.L rfl (cleanSs _) rfl (.L rfl (cleanIL _) rfl (.L rfl (cleanIL _) rfl (.cons rfl (.S rfl rfl rfl) (.L rfl (cleanPI p) rfl (.K rfl rfl rfl (.K rfl rfl rfl (.cons rfl .I (.L rfl (cleanSI _) rfl .nil))))))))))⟩
    have g0:(kk==0)=false:=by simpa using k0
    by_cases k1:kk=1
    ·have g1:(kk==1)=true:=by simpa using k1
     have ca:=add_d x1.2 a hok1.r2 (by omega)
     have e1:(wNt p).sl (.mk kk a xs th el no)=[]:=by simp[wNt,k1]
     have e2:(wNt p).ar (.mk kk a xs th el no)=[a]:=by simp[wNt,k1]
     have hal:=addI_len (n:=a) (l:=x1.2);refine CodeS.run hmixU 0 zL ?_;(repeat' ((conv=>whnf);first|refine goD ?_|refine U.SoundAt.u (c0) clM ?_|refine U.SoundAt.u (ca) clM ?_|refine U.SoundC.u (c0) clM ?_|refine U.SoundC.u (ca) clM ?_|refine U.lw_c ?_ ?_<;>intro hb))
     (conv=>whnf);exact ⟨rfl,(x1.1,addI a x1.2),sn1,⟨.own hb0 (by rw[e1];exact .nil _) (by rw[e2];exact .one _ _) (fun h=>by have h:kk=5:=h;rw[h] at k1;cases k1),⟨hok1.r1,addI_ris hok1.r2,by dsimp only;omega,by dsimp only;omega⟩⟩,(Cov.renI rfl rfl rfl rfl (.W rfl (obL_clean _) rfl .nil) (.L rfl (cleanSs _) rfl (.L rfl (cleanIL _) rfl (.L rfl (cleanIL _) rfl (.cons rfl (.S rfl rfl rfl) (.L rfl (cleanPI p) rfl (.K rfl rfl rfl (.K rfl rfl rfl (.cons rfl .I (.L rfl (cleanSI _) rfl .nil))))))))))⟩
    have g1:(kk==1)=false:=by simpa using k1
    have e2:(wNt p).ar (.mk kk a xs th el no)=[]:=by simp[wNt,k1]
    by_cases k5:kk=5
    ·have g5:(kk==5)=true:=by simpa using k5
     have hja:=stands_call (x:=.mk kk a xs th el no) hb0 k5;obtain ⟨j,hj⟩:∃j:Nat,a=j:=⟨a.toNat,by have:=hja.1;show aS (.mk kk a xs th el no)=_;have e:aS (.mk kk a xs th el no)=a:=rfl;rw[e] at this ⊢;omega⟩
     subst hj;have hjl:j<p.procs.length:=by have h:=hja.2;have e:aS (.mk kk (j:Int) xs th el no)=(j:Int):=rfl;rw[e] at h;omega
     clear hja;obtain ⟨y,hy⟩:∃y,p.procs[j]?=some y:=⟨_,List.getElem?_eq_getElem hjl⟩
     have gj1:decide ((j:Int)<(p.procs.length:Int))=true:=decide_eq_true (by omega)
     have gj2:Nat.blt j p.procs.length=true:=bLe hjl;have gj3:decide ((j:Int)<((prL p.procs).length:Int))=true:=decide_eq_true (by rw[hprl];omega)
     have gj4:Nat.blt j (prL p.procs).length=true:=bLe (by rw[hprl];exact hjl)
     have gj5:nth (prL p.procs) j=some (encPr y):=by rw[nth_eq,prL,List.getElem?_map,hy];rfl
     have e1:(wNt p).sl (.mk kk j xs th el no)=y.ps:=by simp[wNt,k5,psN,hy]
     have hbj:=hbody j y hy;have hpj:=hbp j y hy;have hzj:=hbz j y hy;have hjb:∃b,sn1[j]?=some b:=⟨_,List.getElem?_eq_getElem (by rw[hsl];exact hjl)⟩
     obtain ⟨b,hjb⟩:=hjb;have hnb:=obL_nth hjb;have hat:(aS (.mk kk (j:Int) xs th el no)).toNat=j:=rfl;obtain ⟨nm,ps,body⟩:=y;dsimp only at e1 hbj hpj hzj;have kps:=cleanIL ps;have kbd:=cleanSs body
     refine CodeS.run hmixU 0 zL ?_;(repeat' ((conv=>whnf);first|refine goD ?_|refine U.SoundAt.u (c0) clM ?_|refine U.SoundC.u (c0) clM ?_|refine U.lw_c ?_ ?_<;>intro hb))
     (conv=>whnf);refine loop_inv (α:=List Int×List Int) (fun w=>w.1++w.2=ps) (fun w=>(mkF [(1,imS (encSs (pre++.mk kk j xs th el no::rest))),(2,imS (iL (addAll w.1 x1.1))),(3,imS (iL x1.2)),(4,.slice (some ⟨0,0,none⟩) p.procs.length p.procs.length),(5,imP (encP p) 0),(10,.slice none 0 0),(11,.slice none 0 0),(12,.int .i64 pre.length),(13,imP (encS (.mk kk j xs th el no)) 0),(14,.pointer (some ⟨3,0,none⟩)),(15,.int .i64 w.1.length)],⟨mkO [(0,some (.cells 4 (obL sn1) false)),(3,some (.cells 73 (cellsOf (encPr ⟨nm,ps,body⟩)) false))],4,0,0⟩)) (fun w=>w.2.length) ([],ps) rfl (Cov.renI rfl rfl rfl rfl (.W rfl (obL_clean _) rfl (.W rfl (cleanPr_cells ⟨nm,ps,body⟩) rfl .nil)) (.L rfl (cleanSs _) rfl (.L rfl (cleanIL _) rfl (.L rfl (cleanIL _) rfl (.cons rfl (.S rfl rfl rfl) (.L rfl (cleanPI p) rfl (.K rfl rfl rfl (.K rfl rfl rfl (.cons rfl .I (.L rfl (cleanSI _) rfl (.cons rfl (.P rfl) (.K rfl rfl rfl .nil)))))))))))) ?_
     rintro ⟨q1,q2⟩ hq
     dsimp only at hq;subst hq;dsimp only;have hqa:=addAll_ok hok1.r1 q1;rcases q2 with _|⟨w,q2⟩
     ·rw[List.append_nil] at *;have zqb:=U.lt_no iL_map q1;have hS:Adds x1.1 (addAll q1 x1.1) ((wNt p).sl (.mk kk j xs th el no)):=by rw[e1];exact hqa.1
      have hA:Adds x1.2 x1.2 ((wNt p).ar (.mk kk j xs th el no)):=by rw[e2];exact .nil _
      have hlq:=hqa.2.2;cases b with
      |true =>
       (repeat' ((conv=>whnf);first|refine goA ?_|(conv in (nth _ _)=>(change nth _ (0+j*1);rw[hnb]))|refine goB ?_|refine U.lw_c ?_ ?_<;>intro hb))
       (conv=>whnf);exact ⟨rfl,(addAll q1 x1.1,x1.2),sn1,⟨.own hb0 hS hA (fun _=>by rw[hat];exact hjb),⟨hqa.2.1,hok1.r2,by dsimp only;omega,by dsimp only;omega⟩⟩,(Cov.renI rfl rfl rfl rfl (.W rfl (obL_clean _) rfl .nil) (.L rfl (cleanSs _) rfl (.L rfl (cleanIL _) rfl (.L rfl (cleanIL _) rfl (.cons rfl (.S rfl rfl rfl) (.L rfl (cleanPI p) rfl (.K rfl rfl rfl (.K rfl rfl rfl (.cons rfl .I (.L rfl (cleanSI _) rfl .nil))))))))))⟩
      |false =>
       have hus:=unS_set (l:=p.procs) hy hjb;dsimp only at hus;have hst0:∀v:Value,0+j*1+[v].length≤(obL sn1).length:=fun v=>by rw[obL_len,hsl,List.length_singleton];omega
       have es0:=obL_store (l:=sn1) (i:=j) (x:=true) (by rw[hsl];exact hjl)
       have c1:=ih body (addAll q1 x1.1,x1.2) (sn1.set j true) (25*(szSs th+szSs el+szSs rest)+k) (by omega) (by omega) (by rw[List.length_set];exact hsl) ⟨hqa.2.1,hok1.r2,by dsimp only;omega,by dsimp only;omega⟩
       (repeat' ((conv=>whnf);first|refine goA ?_|(conv in (nth _ _)=>(change nth _ (0+j*1);rw[hnb]))|refine U.storeC_p (hst0 _) ?_|refine U.SoundAt.wr c1 (b:=0) (by exact congrArg (fun z=>some (U.Blk.cells 4 z false)) es0) rfl rfl (.L kP rfl (.L (cleanSs _) rfl (.L (cleanIL _) rfl (.L (cleanIL _) rfl (.cons (.sl _ _ _ _ _ _ _ (by decide) rfl rfl rfl) .nil))))) ?_|refine goB ?_|refine U.lw_c ?_ ?_<;>intro hb))
       rintro v vs ⟨⟨S3,A3⟩,sn3,⟨rfl,rfl⟩,hd3⟩
       (repeat' ((conv=>whnf);first|refine goD ?_|refine U.lw_c ?_ ?_<;>intro hb))
       (conv=>whnf);refine ⟨rfl,(S3,A3),sn3,⟨.call hb0 hS hA k5 (by rw[hat];exact hjb) ?_,hd3.ok.mono (by omega)⟩,(Cov.renI rfl rfl rfl rfl (.W rfl (obL_clean _) rfl .nil) (.L rfl (cleanSs _) rfl (.L rfl (cleanIL _) rfl (.L rfl (cleanIL _) rfl (.cons rfl (.S rfl rfl rfl) (.L rfl (cleanPI p) rfl (.K rfl rfl rfl (.K rfl rfl rfl (.cons rfl .I (.L rfl (cleanSI _) rfl .nil))))))))))⟩
       rw[hat,hbj];exact hd3.post
     ·have zqb:=U.lt_yes iL_map q1 (w) q2;have zqc:=U.blt_yes iL_map q1 (w) q2;have zqn:=U.nth_at iL_map q1 (w) q2;have zqw:=U.len_snoc (pre:=q1) (x:=w) (post:=q2) ((by simp[maxI] at hpj ⊢;omega))
      have hlq:=hqa.2.2;have hlp:q1.length≤20:=by simp at hpj;omega
      have ca:=add_d (addAll q1 x1.1) w hqa.2.1 (by omega)
      have e3:=addAll_snoc q1 w x1.1;have kq:=cleanIL (addAll q1 x1.1);generalize addAll q1 x1.1=S5 at *
      (repeat' ((conv=>whnf);first|refine goD ?_|refine U.SoundAt.u (ca) clM ?_|refine U.SoundC.u (ca) clM ?_|refine U.lw_c ?_ ?_<;>intro hb))
      (conv=>whnf);refine ⟨(q1++[w],q2),by simp,by simp,?_⟩
      dsimp only;rw[e3];exact (Cov.renI rfl rfl rfl rfl (.W rfl (obL_clean _) rfl (.W rfl (cleanPr_cells ⟨nm,_,body⟩) rfl .nil)) (.L rfl (cleanSs _) rfl (.L rfl (cleanIL _) rfl (.L rfl (cleanIL _) rfl (.cons rfl (.S rfl rfl rfl) (.L rfl (cleanPI p) rfl (.K rfl rfl rfl (.K rfl rfl rfl (.cons rfl .I (.L rfl (cleanSI _) rfl (.cons rfl (.P rfl) (.L rfl (cleanI _) (congrArg (Value.int .i64) (zqw.symm)) .nil))))))))))))
    ·have g5:(kk==5)=false:=by simpa using k5
     have e1:(wNt p).sl (.mk kk a xs th el no)=[]:=by simp[wNt,k0,k5]
     refine CodeS.run hmixU 0 zL ?_;(repeat' ((conv=>whnf);first|refine goD ?_|refine U.SoundAt.u (c0) clM ?_|refine U.SoundC.u (c0) clM ?_|refine U.lw_c ?_ ?_<;>intro hb))
     (conv=>whnf);exact ⟨rfl,x1,sn1,⟨.own hb0 (by rw[e1];exact .nil _) (by rw[e2];exact .nil _) (fun h=>absurd h k5),hok1.mono (by omega)⟩,(Cov.renI rfl rfl rfl rfl (.W rfl (obL_clean _) rfl .nil) (.L rfl (cleanSs _) rfl (.L rfl (cleanIL _) rfl (.L rfl (cleanIL _) rfl (.cons rfl (.S rfl rfl rfl) (.L rfl (cleanPI p) rfl (.K rfl rfl rfl (.K rfl rfl rfl (.cons rfl .I (.L rfl (cleanSI _) rfl .nil))))))))))⟩
   ·rintro e fr1 s1 ⟨rfl,x2,sn2,⟨hp2,hok2⟩,hcov⟩ _
    refine ⟨_,_,hcov,?_⟩;have hs2:sn2.length=p.procs.length:=hp2.len.trans hsl;have hu2:=unS_mono (l:=p.procs) hp2.len hp2.mono;have c1:=ih th x2 sn2 (25*(szSs el+szSs rest)+k) (by omega) (by omega) hs2 (hok2.mono (by omega))
    refine CodeS.seq (k1:=fun e fr1 s1=>e=.normal∧∃(x3:SA) (sn3:List Bool),(Post p (wNt p) (allSs th) x2.1 x2.2 sn2 x3.1 x3.2 sn3∧SOk x3 (25*(unS p.procs sn3+(szSs el+szSs rest))+k))∧Cov Tryz.prog (5+(Tryz.f43.ntmps-5)) 3 fr1 s1 (mkF [(1,imS (encSs (pre++.mk kk a xs th el no::rest))),(2,imS (iL x3.1)),(3,imS (iL x3.2)),(4,.slice (some ⟨0,0,none⟩) p.procs.length p.procs.length),(5,imP (encP p) 0),(10,.slice none 0 0),(11,.slice none 0 0),(12,.int .i64 pre.length),(13,imP (encS (.mk kk a xs th el no)) 0)]) ⟨mkO [(0,some (.cells 4 (obL sn3) false))],3,0,0⟩) ?_ ?_
    ·refine CodeS.run hmixU 0 zL ?_;(repeat' ((conv=>whnf);first|refine goA ?_|refine U.SoundAt.wr c1 (b:=0) rfl rfl rfl (.L kP rfl (.L (cleanSs _) rfl (.L (cleanIL _) rfl (.L (cleanIL _) rfl (.cons (.sl _ _ _ _ _ _ _ (by decide) rfl rfl rfl) .nil))))) ?_|refine goB ?_|refine U.lw_c ?_ ?_<;>intro hb))
     rintro y ys ⟨⟨S3,A3⟩,sn3,⟨rfl,rfl⟩,hd3⟩
     (repeat' ((conv=>whnf);first|refine goD ?_|refine U.lw_c ?_ ?_<;>intro hb))
     (conv=>whnf);exact ⟨rfl,(S3,A3),sn3,⟨hd3.post,hd3.ok.mono (by omega)⟩,(Cov.renI rfl rfl rfl rfl (.W rfl (obL_clean _) rfl .nil) (.L rfl (cleanSs _) rfl (.L rfl (cleanIL _) rfl (.L rfl (cleanIL _) rfl (.cons rfl (.S rfl rfl rfl) (.L rfl (cleanPI p) rfl (.K rfl rfl rfl (.K rfl rfl rfl (.cons rfl .I (.L rfl (cleanSI _) rfl .nil))))))))))⟩
    ·rintro e fr1 s1 ⟨rfl,x3,sn3,⟨hp3,hok3⟩,hcov⟩ _
     refine ⟨_,_,hcov,?_⟩;have hs3:sn3.length=p.procs.length:=hp3.len.trans hs2;have hu3:=unS_mono (l:=p.procs) hp3.len hp3.mono;have c2:=ih el x3 sn3 (25*szSs rest+k) (by omega) (by omega) hs3 (hok3.mono (by omega))
     refine CodeS.run hmixU 0 zL ?_;(repeat' ((conv=>whnf);first|refine goA ?_|refine U.SoundAt.wr c2 (b:=0) rfl rfl rfl (.L kP rfl (.L (cleanSs _) rfl (.L (cleanIL _) rfl (.L (cleanIL _) rfl (.cons (.sl _ _ _ _ _ _ _ (by decide) rfl rfl rfl) .nil))))) ?_|refine goB ?_|refine U.lw_c ?_ ?_<;>intro hb))
     rintro y ys ⟨⟨S4,A4⟩,sn4,⟨rfl,rfl⟩,hd4⟩
     (repeat' ((conv=>whnf);first|refine goD ?_|refine U.lw_c ?_ ?_<;>intro hb))
     (conv=>whnf);refine ⟨rfl,(S4,A4),sn4,⟨?_,hd4.ok.mono (by omega)⟩,(Cov.renI rfl rfl rfl rfl (.W rfl (obL_clean _) rfl .nil) (.L rfl (cleanSs _) rfl (.L rfl (cleanIL _) rfl (.L rfl (cleanIL _) rfl (.cons rfl (.S rfl rfl rfl) (.L rfl (cleanPI p) rfl (.K rfl rfl rfl (.K rfl rfl rfl (.cons rfl .I .nil)))))))))⟩
     rw[allSs_app',allSs,allSs,List.append_nil,allS];exact hD.post.app (Post.app (X:=[.mk kk a xs th el no]) hp2 (hp3.app hd4.post))
   ·rintro e fr1 s1 ⟨rfl,x4,sn4,hd4,hcov⟩ _
    refine ⟨_,_,hcov,?_⟩;refine CodeS.run hmixU 0 zL ?_;(repeat' ((conv=>whnf);first|refine goD ?_|refine U.lw_c ?_ ?_<;>intro hb))
    (conv=>whnf);exact ⟨(pre++[.mk kk a xs th el no],rest,x4,sn4),⟨by simp,hd4⟩,by simp,(Cov.renI rfl rfl rfl rfl (.W rfl (obL_clean _) rfl .nil) (.L rfl (cleanSs _) rfl (.L rfl (cleanIL _) rfl (.L rfl (cleanIL _) rfl (.cons rfl (.S rfl rfl rfl) (.L rfl (cleanPI p) rfl (.K rfl rfl rfl (.K rfl rfl rfl (.L rfl (cleanI _) (congrArg (Value.int .i64) (zw.symm)) .nil)))))))))⟩
end Go.Proofs.YtocppbocphnbcaaGreatDoor
