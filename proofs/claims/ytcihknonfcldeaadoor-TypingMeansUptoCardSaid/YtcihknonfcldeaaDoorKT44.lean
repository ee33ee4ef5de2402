
import Derived.Test.YtcihknonfcldeaaDoorKT42
import Derived.Test.YtcihknonfcldeaaDoorKT43
namespace Go.Proofs.YtcihknonfcldeaaDoor
open Go Go.RowKit Go.Sort U
set_option linter.unusedVariables false
set_option linter.unusedSimpArgs false
set_option maxRecDepth 100000
set_option maxHeartbeats 40000000
def rangeS:Code->Option (List Tmp×Code×Code)
 |.rangeFunc _ l a b=>some (l.toList,a,b)
 |.seq a b=>match rangeS a with
  |some x=>some x
  |none=>rangeS b
 |.cond _ a b=>match rangeS a with
  |some x=>some x
  |none=>rangeS b
 |.block _ c=>rangeS c
 |.loop c=>rangeS c
 |.scope c=>rangeS c
 |_=>none
noncomputable def startT:List Tmp×Code×Code:=match (match Tryd.f27.body with
  |some c=>rangeS c
  |none=>none) with
 |some x=>x
 |none=>([],.skip,.skip)
noncomputable def lpS:U.Blk:=.loop .ready none (mkF [(2,.pointer (some ⟨0,0,none⟩)),(3,.pointer (some ⟨1,0,none⟩)),(6,.pointer (some ⟨2,0,none⟩)),(7,.pointer (some ⟨4,0,none⟩))]) 87 startT.1 startT.2.1 startT.2.2
noncomputable def lpSb:U.Blk:=.loop .busy none (mkF [(2,.pointer (some ⟨0,0,none⟩)),(3,.pointer (some ⟨1,0,none⟩)),(6,.pointer (some ⟨2,0,none⟩)),(7,.pointer (some ⟨4,0,none⟩))]) 87 startT.1 startT.2.1 startT.2.2
theorem loop_renL {n:Nat}{F:Value->Value->Prop}{ρ:Nat->Nat}{fa:Tr Value}{l:List (Nat×Value)}{st:LoopState}{pe:Option Code}{N1:Nat}{ps:List Tmp}{asg bo:Code}(h:slotsRen fa n ⟨ρ,F⟩ l):RenB n ⟨ρ,F⟩ (.loop st pe (mkF l) N1 ps asg bo) (.loop st pe fa N1 ps asg bo) :=
 .loop _ _ _ _ _ _ _ _ fun t u hu=>h.all (t,u) (mkF_mem hu)
theorem start_e (rows back:List (List Int)) (hb:okB rows) (hbb:okB back) (hT:Tur rows back) (hl:rows.length≤29000) (hr:∀r∈rows,r.length≤maxI) (hrb:∀r∈back,r.length≤maxI):DenE Tryd.prog 27 [imS (gL rows),imS (gL back)] (fun u=>∃least:Int,u=.int .i64 least∧startOk rows least):=by
 refine denE_of_sound hmixU fun Ts=>SoundAt.body hmixU Tryd.func27 rfl rfl rfl 0 ?_
 have hmb:=mk_full (zs:=[.bool false]) (n:=(gL rows).length) (b:=1) rfl rfl (by decide) (by rw[gL_len];omega)
 have cg:=cleanGL rows;have cb:=cleanGL back;have cF:=finished_e rows hb hl hr;(repeat' ((conv=>whnf);first|refine U.ob_c hmb ?_|refine goA ?_|refine U.spineC_p ?_|refine U.SoundAt.e cF clN (fun u hq=>?_)|refine goB ?_|refine U.lw_c ?_ ?_<;>intro hb))
 obtain ⟨out,rfl,hF⟩:=hq;(repeat' ((conv=>whnf);first|refine U.ob_c hmb ?_|refine goA ?_|refine U.spineC_p ?_|refine U.SoundAt.e cF clN (fun u hq=>?_)|refine goB ?_|refine U.lw_c ?_ ?_<;>intro hb))
 all_goals (conv=>whnf)
 refine SoundAt.body hmixU Tryd.func43 rfl rfl rfl 0 ?_;(repeat' ((conv=>whnf);first|refine goD ?_|refine U.lw_c ?_ ?_<;>intro hb))
 (conv=>whnf);refine SoundAt.body hmixU Tryd.func61 rfl rfl rfl 0 ?_;(repeat' ((conv=>whnf);first|refine goD ?_|refine U.lw_c ?_ ?_<;>intro hb))
 (conv=>whnf);refine loop_inv (α:=List Nat×List Nat×List Bool×Int) (fun x=>x.1++x.2.1=out∧Srt rows x.2.2.1 x.2.1 x.2.2.2) (fun x=>(mkF [(0,.func (.yield 6) ⟨[]⟩ ⟨[]⟩),(1,.pointer (some ⟨5,0,none⟩)),(3,.int .i64 ((x.1.length:Int)-1))],⟨mkO [(0,some (.cells 46 [imS (gL rows)] false)),(1,some (.cells 46 [imS (gL back)] false)),(2,some (.cells 3 [.int .i64 x.2.2.2] false)),(3,some (.cells 4 (bL x.2.2.1) false)),(4,some (.cells 112 [.slice (some ⟨3,0,none⟩) (gL rows).length (gL rows).length] false)),(5,some (.cells 36 [imS (iL (nL out))] false)),(6,some lpS)],7,0,0⟩)) (fun x=>x.1.length) (out,[],List.replicate rows.length false,-1) ⟨by simp,srt_init rows⟩ (Cov.renI rfl rfl rfl rfl (.C rfl (.L (cleanGL _) rfl .nil) (.C rfl (.L (cleanGL _) rfl .nil) (.C rfl (.cons .I .nil) (.W rfl (cleanBl _) ((by rw[bL_zero,gL_len];rfl)) (.C rfl (.cons (.S rfl rfl rfl) .nil) (.C rfl (.L (cleanIL _) rfl .nil) (.cons rfl (loop_renL (.cons rfl (.P rfl) (.cons rfl (.P rfl) (.cons rfl (.P rfl) (.cons rfl (.P rfl) .nil))))) .nil))))))) (.cons rfl (.yld _ _ (by decide) rfl) (.cons rfl (.P rfl) (.L rfl (cleanI _) (congrArg (Value.int .i64) ((by dsimp only;rw[iL_len,nL_len,IntKind.wrap_i64];have:=nodup_len hF.nd hF.lt;omega))) .nil)))) ?_
 rintro ⟨P,Q,sb,least⟩ ⟨p1,hS⟩
 dsimp only at p1 hS;dsimp only;have hon:out.length≤rows.length:=nodup_len hF.nd hF.lt;rcases List.eq_nil_or_concat P with rfl|⟨P,r,rfl⟩
 ·have g0:decide ((([]:List Nat).length:Int)-1≥0)=false:=by decide
  (repeat' ((conv=>whnf);first|refine goD ?_|refine U.lw_c ?_ ?_<;>intro hb))
  (conv=>whnf);refine ⟨.int .i64 least,⟨least,rfl,hS.fin fun u hu=>?_⟩,.clean _ (cleanI _)⟩
  have:=hF.all u hu;rw[← p1] at this;simpa using this
 ·have hP:((P.concat r).length:Int)-1=(P.length:Int):=by simp
  rw[hP];have hout:out=P++r::Q:=by rw[← p1];simp
  have g0:decide ((P.length:Int)≥0)=true:=by simp
  have hPl:P.length<out.length:=by rw[hout];simp
  have h1b:P.length.blt (iL (nL out)).length=true:=by rw[iL_len,nL_len];exact bLe hPl
  have h1n:nth (iL (nL out)) P.length=some (.int .i64 (r:Int)):=by rw[nth_eq,hout];simp[iL,nL]
  have hrn:r<rows.length:=hF.lt r (by rw[hout];simp)
  have hrb2:r.blt (gL rows).length=true:=by rw[gL_len];exact bLe hrn
  have hns:=bL_nth0 (l:=sb) (u:=r) (by rw[hS.sl];exact hrn)
  have hPw:IntKind.i64.wrap ((P.length:Int)-1)=(P.length:Int)-1:=by rw[IntKind.wrap_i64];omega
  (repeat' ((conv=>whnf);first|refine goD ?_|refine U.lw_c ?_ ?_<;>intro hb))
  (conv=>whnf);refine SoundRound.run hmixU 0 ?_;cases hsr:sb.getD r false
  ·rw[hsr] at hns;have hst0:∀v:Value,0+r*1+[v].length≤(bL sb).length:=fun v=>by rw[bL_len,hS.sl,List.length_singleton];omega
   have es0:=bL_store0 (l:=sb) (i:=r) (x:=true) (by rw[hS.sl];exact hrn)
   (repeat' ((conv=>whnf);first|refine goA ?_|(conv in (nth _ _)=>(change nth _ (0+r*1);rw[hns]))|refine U.storeC_p (hst0 _) ?_|refine goB ?_|refine U.lw_c ?_ ?_<;>intro hb))
   (conv=>whnf);refine loop_inv (α:=List Nat×List Bool×Nat×Bool) (fun x=>Prt rows back sb r x.2.1 x.1 x.2.2.1 []) (fun x=>(mkF [(2,.pointer (some ⟨0,0,none⟩)),(3,.pointer (some ⟨1,0,none⟩)),(6,.pointer (some ⟨2,0,none⟩)),(7,.pointer (some ⟨4,0,none⟩)),(9,.int .i64 r),(10,.slice (some ⟨8,0,none⟩) x.1.length x.1.length),(11,.int .i64 x.2.2.1)],⟨mkO [(0,some (.cells 46 [imS (gL rows)] false)),(1,some (.cells 46 [imS (gL back)] false)),(2,some (.cells 3 [.int .i64 least] false)),(3,some (.cells 4 (bL x.2.1) false)),(4,some (.cells 112 [.slice (some ⟨3,0,none⟩) (gL rows).length (gL rows).length] false)),(5,some (.cells 36 [imS (iL (nL out))] false)),(6,some lpSb),(8,some (.cells 3 (iL (nL x.1)) x.2.2.2))],9,0,0⟩)) (fun x=>rows.length-x.2.2.1) ([r],sb.set r true,0,false) (prt_init hS.sl hrn hsr) (Cov.renO (fun k=>if k=8 then 7 else k) rfl rfl (bR rfl) zL (fun k hk=>by have:k<8:=hk;rw[if_neg (by omega)]) rfl nlz (.C rfl (.L (cleanGL _) rfl .nil) (.C rfl (.L (cleanGL _) rfl .nil) (.C rfl (.cons .I .nil) (.W rfl (cleanBl _) (es0.symm) (.C rfl (.cons (.S rfl rfl rfl) .nil) (.C rfl (.L (cleanIL _) rfl .nil) (.cons rfl (loop_renL (.cons rfl (.P rfl) (.cons rfl (.P rfl) (.cons rfl (.P rfl) (.cons rfl (.P rfl) .nil))))) (.W rfl (cleanIl0 _) rfl .nil)))))))) (.cons rfl (.P rfl) (.cons rfl (.P rfl) (.cons rfl (.P rfl) (.cons rfl (.P rfl) (.cons rfl .I (.cons rfl (.S rfl rfl rfl) (.cons rfl .I .nil)))))))) ?_
   rintro ⟨L,sb2,i,op⟩ hB
   dsimp only at hB;dsimp only;have hLn:L.length≤rows.length:=nodup_len hB.nd hB.lt;have hLk:(nL L).length=L.length:=nL_len L;rcases Nat.lt_or_ge i L.length with hil|hil
   ·have g1:decide ((i:Int)<((L.length:Nat):Int))=true:=by simp;omega
    have hib:i.blt L.length=true:=bLe hil;obtain ⟨v,hv⟩:∃v,L[i]?=some v:=⟨L[i],by simp[hil]⟩
    have hvn:=hB.lt v (List.mem_of_getElem? hv);have hn1:=iL_nth0 (L:=nL L) (i:=i) (by omega)
    rw[gt0_nL hv] at hn1;have hvn2:v<back.length:=by rw[hT.1];exact hvn
    obtain ⟨row,hrw⟩:∃row,back[v]?=some row:=⟨back[v],by simp[hvn2]⟩
    have hrd:back.getD v []=row:=by simp[hrw]
    have hrm:=List.mem_of_getElem? hrw;have hrl:=hrb row hrm;have hvb:v.blt (gL back).length=true:=by rw[gL_len];exact bLe hvn2
    have hvx:nth (gL back) v=some (imS (iL row)):=by rw[nth_eq,gL];simp[hrw]
    have iw:=wadd1 (i:=i) (by omega)
    (repeat' ((conv=>whnf);first|refine goA ?_|(conv in (nth _ _)=>(change nth _ (0+i*1);rw[hn1]))|refine goB ?_|refine U.drawX_p (D:=U.propX) 9 [] (by decide +kernel) (by decide +kernel) ?_|refine U.lw_c ?_ ?_<;>intro hb))
    (conv=>whnf);refine loop_inv (α:=List Nat×List Bool×List Int×List Int×Bool) (fun y=>y.2.2.1++y.2.2.2.1=row∧Prt rows back sb r y.2.1 y.1 i y.2.2.1∧y.1[i]?=some v) (fun y=>(mkF [(2,.pointer (some ⟨0,0,none⟩)),(3,.pointer (some ⟨1,0,none⟩)),(6,.pointer (some ⟨2,0,none⟩)),(7,.pointer (some ⟨4,0,none⟩)),(9,.int .i64 r),(10,.slice (some ⟨9,0,none⟩) y.1.length y.1.length),(11,.int .i64 i),(45,imS (iL row)),(46,.int .i64 (iL row).length),(47,.int .i64 y.2.2.1.length)],⟨mkO [(0,some (.cells 46 [imS (gL rows)] false)),(1,some (.cells 46 [imS (gL back)] false)),(2,some (.cells 3 [.int .i64 least] false)),(3,some (.cells 4 (bL y.2.1) false)),(4,some (.cells 112 [.slice (some ⟨3,0,none⟩) (gL rows).length (gL rows).length] false)),(5,some (.cells 36 [imS (iL (nL out))] false)),(6,some lpSb),(9,some (.cells 3 (iL (nL y.1)) y.2.2.2.2))],10,0,0⟩)) (fun y=>y.2.2.2.1.length) (L,sb2,[],row,op) ⟨rfl,hB,hv⟩ (Cov.renO (fun k=>if k=9 then 8 else k) rfl rfl (bR rfl) zL (fun k hk=>by have:k<9:=hk;rw[if_neg (by omega)]) rfl nlz (.C rfl (.L (cleanGL _) rfl .nil) (.C rfl (.L (cleanGL _) rfl .nil) (.C rfl (.cons .I .nil) (.W rfl (cleanBl _) rfl (.C rfl (.cons (.S rfl rfl rfl) .nil) (.C rfl (.L (cleanIL _) rfl .nil) (.cons rfl (loop_renL (.cons rfl (.P rfl) (.cons rfl (.P rfl) (.cons rfl (.P rfl) (.cons rfl (.P rfl) .nil))))) (.W rfl (cleanIl0 _) rfl .nil)))))))) (.cons rfl (.P rfl) (.cons rfl (.P rfl) (.cons rfl (.P rfl) (.cons rfl (.P rfl) (.cons rfl .I (.cons rfl (.S rfl rfl rfl) (.cons rfl .I (.L rfl (cleanIL _) rfl (.cons rfl .I (.cons rfl .I .nil))))))))))) ?_
    rintro ⟨L2,sb3,p,q,op2⟩ ⟨p2,hB2,hv2⟩
    dsimp only at p2 hB2 hv2;dsimp only;rcases q with _|⟨t,q⟩
    ·rw[List.append_nil] at p2;subst p2;have h4b:=U.lt_no iL_map p;(repeat' ((conv=>whnf);first|refine goD ?_|refine U.lw_c ?_ ?_<;>intro hb))
     (conv=>whnf);rw[← hrd] at hB2;refine ⟨(L2,sb3,i+1,op2),hB2.next hv2,by dsimp only;omega,?_⟩
     exact (Cov.renO (fun k=>if k=8 then 9 else k) rfl rfl (bR rfl) zL (fun k hk=>by have:k<8:=hk;rw[if_neg (by omega)]) rfl nlz (.C rfl (.L (cleanGL _) rfl .nil) (.C rfl (.L (cleanGL _) rfl .nil) (.C rfl (.cons .I .nil) (.W rfl (cleanBl _) rfl (.C rfl (.cons (.S rfl rfl rfl) .nil) (.C rfl (.L (cleanIL _) rfl .nil) (.cons rfl (loop_renL (.cons rfl (.P rfl) (.cons rfl (.P rfl) (.cons rfl (.P rfl) (.cons rfl (.P rfl) .nil))))) (.W rfl (cleanIl0 _) rfl .nil)))))))) (.cons rfl (.P rfl) (.cons rfl (.P rfl) (.cons rfl (.P rfl) (.cons rfl (.P rfl) (.cons rfl .I (.cons rfl (.S rfl rfl rfl) (.L rfl (cleanI _) (congrArg (Value.int .i64) (iw.symm)) .nil))))))))
    ·have hrl2:=hrl;rw[← p2] at hrl2;obtain ⟨h4b,h4c,h4n,h4w⟩:=U.at4 iL_map p (t) q (hrl2);rw[p2] at h4b h4c h4n;obtain ⟨w,rfl,hw⟩:=hbb row hrm t (by rw[← p2];simp)
     rw[hT.1] at hw;have hwb:w.blt (gL rows).length=true:=by rw[gL_len];exact bLe hw
     have hn2:=bL_nth0 (l:=sb3) (u:=w) (by rw[hB2.sl];exact hw)
     have hes:ES back v w:=by unfold ES;rw[hrd,← p2];simp
     cases hsw:sb3.getD w false
     ·rw[hsw] at hn2;have hst:∀x:Value,0+w*1+[x].length≤(bL sb3).length:=fun x=>by rw[bL_len,hB2.sl,List.length_singleton];omega
      have hL2n:L2.length≤rows.length:=nodup_len hB2.nd hB2.lt;have hB3:=hB2.add hT hv2 hw hsw hes;have es:=bL_store0 (l:=sb3) (i:=w) (x:=true) (by rw[hB2.sl];exact hw)
      have hil2:=(List.getElem?_eq_some_iff.1 hv2).1;have hne:L2≠[]:=fun e=>by rw[e] at hil2;simp at hil2
      rcases L2 with _|⟨y,ys⟩
      ·exact absurd rfl hne
      have hyl:(iL (nL (y::ys))).length=(y::ys).length*(0+1):=by rw[iL_len,nL_len];simp
      have hys:ys.length+1≤29000:=by simp at hL2n;omega
      have hb7:(Nat.ble ((ys.length+1+(0+1))*8) 140737488355328&&Nat.ble (ys.length+1+(0+1)) 1000000)=true:=by
       rw[bLe (by omega),bLe (by omega)];rfl
      have hgr:iL (nL (y::ys++[w]))=iL (nL (y::ys))++[Value.int .i64 (w:Int)]:=by simp[iL,nL]
      (repeat' ((conv=>whnf);first|refine goA ?_|(conv in (nth _ _)=>(change nth _ (0+w*1);rw[hn2]))|refine U.storeC_p (hst _) ?_|refine U.ob_c hb7 ?_|refine goB ?_|refine U.lw_c ?_ ?_<;>intro hb))
      rw[ble_f];cases op2
      ·dsimp only;rw[dropL_eq];refine takeA_p hyl ?_;refine U.catC_p ?_;(repeat' ((conv=>whnf);first|refine goD ?_|refine U.lw_c ?_ ?_<;>intro hb))
       (conv=>whnf);refine ⟨(y::ys++[w],sb3.set w true,p++[(w:Int)],q,true),⟨by rw[← p2];simp,hB3,by dsimp only;rw[List.getElem?_append_left hil2];exact hv2⟩,by simp,?_⟩
       exact (Cov.renO (fun k=>if k=9 then 11 else k) rfl rfl (bR rfl) zL (fun k hk=>by have:k<9:=hk;rw[if_neg (by omega)]) rfl nlz (.C rfl (.L (cleanGL _) rfl .nil) (.C rfl (.L (cleanGL _) rfl .nil) (.C rfl (.cons .I .nil) (.W rfl (cleanBl _) (es.symm) (.C rfl (.cons (.S rfl rfl rfl) .nil) (.C rfl (.L (cleanIL _) rfl .nil) (.cons rfl (loop_renL (.cons rfl (.P rfl) (.cons rfl (.P rfl) (.cons rfl (.P rfl) (.cons rfl (.P rfl) .nil))))) (.W rfl (cleanIl0 _) (hgr) .nil)))))))) (.cons rfl (.P rfl) (.cons rfl (.P rfl) (.cons rfl (.P rfl) (.cons rfl (.P rfl) (.cons rfl .I (.cons rfl (.sl _ _ _ _ _ _ _ (by decide) rfl ((by simp)) ((by simp))) (.cons rfl .I (.L rfl (cleanIL _) rfl (.cons rfl .I (.L rfl (cleanI _) (congrArg (Value.int .i64) (h4w.symm)) .nil)))))))))))
      ·dsimp only;refine growRow_p hyl (lo:=0) (b:=9) rfl ?_;(repeat' ((conv=>whnf);first|refine goD ?_|refine U.lw_c ?_ ?_<;>intro hb))
       (conv=>whnf);refine ⟨(y::ys++[w],sb3.set w true,p++[(w:Int)],q,true),⟨by rw[← p2];simp,hB3,by dsimp only;rw[List.getElem?_append_left hil2];exact hv2⟩,by simp,?_⟩
       exact (Cov.renO (fun k=>if k=9 then 11 else k) rfl rfl (bR rfl) zL (fun k hk=>by have:k<9:=hk;rw[if_neg (by omega)]) rfl nlz (.C rfl (.L (cleanGL _) rfl .nil) (.C rfl (.L (cleanGL _) rfl .nil) (.C rfl (.cons .I .nil) (.W rfl (cleanBl _) (es.symm) (.C rfl (.cons (.S rfl rfl rfl) .nil) (.C rfl (.L (cleanIL _) rfl .nil) (.cons rfl (loop_renL (.cons rfl (.P rfl) (.cons rfl (.P rfl) (.cons rfl (.P rfl) (.cons rfl (.P rfl) .nil))))) (.W rfl (cleanIl0 _) (hgr) .nil)))))))) (.cons rfl (.P rfl) (.cons rfl (.P rfl) (.cons rfl (.P rfl) (.cons rfl (.P rfl) (.cons rfl .I (.cons rfl (.sl _ _ _ _ _ _ _ (by decide) rfl ((by simp)) ((by simp))) (.cons rfl .I (.L rfl (cleanIL _) rfl (.cons rfl .I (.L rfl (cleanI _) (congrArg (Value.int .i64) (h4w.symm)) .nil)))))))))))
     ·rw[hsw] at hn2;(repeat' ((conv=>whnf);first|refine goA ?_|(conv in (nth _ _)=>(change nth _ (0+w*1);rw[hn2]))|refine goB ?_|refine U.lw_c ?_ ?_<;>intro hb))
      (conv=>whnf);refine ⟨(L2,sb3,p++[(w:Int)],q,op2),⟨by rw[← p2];simp,hB2.skip hsw,hv2⟩,by simp,?_⟩
      exact (Cov.renI rfl rfl rfl rfl (.C rfl (.L (cleanGL _) rfl .nil) (.C rfl (.L (cleanGL _) rfl .nil) (.C rfl (.cons .I .nil) (.W rfl (cleanBl _) rfl (.C rfl (.cons (.S rfl rfl rfl) .nil) (.C rfl (.L (cleanIL _) rfl .nil) (.cons rfl (loop_renL (.cons rfl (.P rfl) (.cons rfl (.P rfl) (.cons rfl (.P rfl) (.cons rfl (.P rfl) .nil))))) (.W rfl (cleanIl0 _) rfl .nil)))))))) (.cons rfl (.P rfl) (.cons rfl (.P rfl) (.cons rfl (.P rfl) (.cons rfl (.P rfl) (.cons rfl .I (.cons rfl (.S rfl rfl rfl) (.cons rfl .I (.L rfl (cleanIL _) rfl (.cons rfl .I (.L rfl (cleanI _) (congrArg (Value.int .i64) (h4w.symm)) .nil)))))))))))
   ·have hie:i=L.length:=Nat.le_antisymm hB.il hil;subst hie;have g1:decide ((L.length:Int)<(L.length:Int))=false:=by simp
    have hscc:=hB.scc hT hF hout hS;obtain ⟨rrow,hrr⟩:∃row,rows[r]?=some row:=⟨rows[r],by simp[hrn]⟩
    have hrx:nth (gL rows) r=some (imS (iL rrow)):=by rw[nth_eq,gL];simp[hrr]
    have hrd:rows.getD r []=rrow:=by simp[hrr]
    have cC:=contains_d rrow r (hr rrow (List.mem_of_getElem? hrr));have hL0:=hB.hd;have hne:nL L≠[]:=fun e=>by
     have:=List.mem_of_getElem? hL0;have e2:(nL L).length=0:=by rw[e];rfl
     rw[hLk] at e2;rw[List.eq_nil_of_length_eq_zero e2] at this;simp at this
    have cM:=min_e (nL L) hne (by rw[hLk];unfold maxI;omega)
    have hcycle:∀(le:Int),(∃m:Nat,m∈L∧(∀u∈L,m≤u)∧(∀u∈L,Cyc rows u)∧le=if least<0∨(m:Int)<least then (m:Int) else least)->Srt rows sb2 (r::Q) le:=fun le h=>hS.new hB.sl hB.sn hscc (.inr h)
    have hmin:∀m:Int,(m∈nL L∧∀x∈nL L,m≤x)->∃m':Nat,m=m'∧m'∈L∧∀u∈L,m'≤u:=fun m h=>by
     obtain ⟨m',h1,h2⟩:=List.mem_map.1 h.1;refine ⟨m',h2.symm,h1,fun u hu=>?_⟩
     have:=h.2 (u:Int) (List.mem_map.2 ⟨u,hu,rfl⟩);omega
    by_cases hL1:L.length=1
    ·have g2:(((L.length:Nat):Int)==1)=true:=by rw[hL1];rfl
     have hLr:L=[r]:=by
      match L,hL1,hL0 with
      |[x],_,h=>simp at h;rw[h]
     cases hself:decide ((r:Int)∈rrow)
     ·rw[hself] at cC;have hno:∀u∈L,¬Cyc rows u:=fun u hu ⟨w,h1,h2⟩=>by
       have hur:u=r:=by rw[hLr] at hu;simpa using hu
       subst hur;have hw:w∈L:=(hscc w).2 ⟨h2,.step .refl h1⟩;have hwr:w=u:=by rw[hLr] at hw;simpa using hw
       subst hwr;unfold ES at h1;rw[hrd] at h1;exact of_decide_eq_false hself h1
      (repeat' ((conv=>whnf);first|refine goD ?_|refine U.SoundAt.u (cC) clN ?_|refine U.SoundC.u (cC) clN ?_|refine U.lw_c ?_ ?_<;>intro hb))
      (conv=>whnf);refine ⟨(P,r::Q,sb2,least),⟨hout.symm,hS.new hB.sl hB.sn hscc (.inl ⟨rfl,hno⟩)⟩,by simp,?_⟩
      exact (Cov.renI rfl rfl rfl rfl (.C rfl (.L (cleanGL _) rfl .nil) (.C rfl (.L (cleanGL _) rfl .nil) (.C rfl (.cons .I .nil) (.W rfl (cleanBl _) rfl (.C rfl (.cons (.S rfl rfl rfl) .nil) (.C rfl (.L (cleanIL _) rfl .nil) (.cons rfl (loop_renL (.cons rfl (.P rfl) (.cons rfl (.P rfl) (.cons rfl (.P rfl) (.cons rfl (.P rfl) .nil))))) .nil))))))) (.cons rfl (.yld _ _ (by decide) rfl) (.cons rfl (.P rfl) (.L rfl (cleanI _) (congrArg (Value.int .i64) (hPw.symm)) .nil))))
     ·rw[hself] at cC;have hall:∀u∈L,Cyc rows u:=fun u hu=>by
       have hur:u=r:=by rw[hLr] at hu;simpa using hu
       subst hur;exact ⟨u,by unfold ES;rw[hrd];exact of_decide_eq_true hself,.refl⟩
      (repeat' ((conv=>whnf);first|refine goA ?_|refine U.SoundAt.eF cM (fun u hq=>by obtain ⟨m,rfl,_⟩:=hq;rfl) (.cons (.rowL (k:=8) (ys:=iL (nL L)) zL rfl (by rw[cellsI]) iL_1 (by rw[iL_len,nL_len]) rL (cleanIC _)) trivial) ?_|refine goB ?_|refine U.SoundAt.u (cC) clN ?_|refine U.SoundC.u (cC) clN ?_|refine U.lw_c ?_ ?_<;>intro hb))
      intro u hq;obtain ⟨m0,rfl,hm0⟩:=hq;obtain ⟨m,rfl,hm1,hm2⟩:=hmin m0 hm0;have hnew:=hcycle _ ⟨m,hm1,hm2,hall,rfl⟩;by_cases k1:least<0
      ·have g3:decide (least<0)=true:=by simpa using k1
       rw[if_pos (.inl k1)] at hnew;(repeat' ((conv=>whnf);first|refine goA ?_|rw[g3]|refine goB ?_|refine U.lw_c ?_ ?_<;>intro hb))
       (conv=>whnf);refine ⟨(P,r::Q,sb2,(m:Int)),⟨hout.symm,hnew⟩,by simp,?_⟩
       exact (Cov.renI rfl rfl rfl rfl (.C rfl (.L (cleanGL _) rfl .nil) (.C rfl (.L (cleanGL _) rfl .nil) (.C rfl (.cons .I .nil) (.W rfl (cleanBl _) rfl (.C rfl (.cons (.S rfl rfl rfl) .nil) (.C rfl (.L (cleanIL _) rfl .nil) (.cons rfl (loop_renL (.cons rfl (.P rfl) (.cons rfl (.P rfl) (.cons rfl (.P rfl) (.cons rfl (.P rfl) .nil))))) .nil))))))) (.cons rfl (.yld _ _ (by decide) rfl) (.cons rfl (.P rfl) (.L rfl (cleanI _) (congrArg (Value.int .i64) (hPw.symm)) .nil))))
      ·have g3:decide (least<0)=false:=by simpa using k1
       by_cases k2:(m:Int)<least
       ·have g4:decide ((m:Int)<least)=true:=by simpa using k2
        rw[if_pos (.inr k2)] at hnew;(repeat' ((conv=>whnf);first|refine goA ?_|rw[g3]|rw[g4]|refine goB ?_|refine U.lw_c ?_ ?_<;>intro hb))
        (conv=>whnf);refine ⟨(P,r::Q,sb2,(m:Int)),⟨hout.symm,hnew⟩,by simp,?_⟩
        exact (Cov.renI rfl rfl rfl rfl (.C rfl (.L (cleanGL _) rfl .nil) (.C rfl (.L (cleanGL _) rfl .nil) (.C rfl (.cons .I .nil) (.W rfl (cleanBl _) rfl (.C rfl (.cons (.S rfl rfl rfl) .nil) (.C rfl (.L (cleanIL _) rfl .nil) (.cons rfl (loop_renL (.cons rfl (.P rfl) (.cons rfl (.P rfl) (.cons rfl (.P rfl) (.cons rfl (.P rfl) .nil))))) .nil))))))) (.cons rfl (.yld _ _ (by decide) rfl) (.cons rfl (.P rfl) (.L rfl (cleanI _) (congrArg (Value.int .i64) (hPw.symm)) .nil))))
       ·have g4:decide ((m:Int)<least)=false:=by simpa using k2
        rw[if_neg (fun h=>h.elim k1 k2)] at hnew;(repeat' ((conv=>whnf);first|refine goA ?_|rw[g3]|rw[g4]|refine goB ?_|refine U.lw_c ?_ ?_<;>intro hb))
        (conv=>whnf);refine ⟨(P,r::Q,sb2,least),⟨hout.symm,hnew⟩,by simp,?_⟩
        exact (Cov.renI rfl rfl rfl rfl (.C rfl (.L (cleanGL _) rfl .nil) (.C rfl (.L (cleanGL _) rfl .nil) (.C rfl (.cons .I .nil) (.W rfl (cleanBl _) rfl (.C rfl (.cons (.S rfl rfl rfl) .nil) (.C rfl (.L (cleanIL _) rfl .nil) (.cons rfl (loop_renL (.cons rfl (.P rfl) (.cons rfl (.P rfl) (.cons rfl (.P rfl) (.cons rfl (.P rfl) .nil))))) .nil))))))) (.cons rfl (.yld _ _ (by decide) rfl) (.cons rfl (.P rfl) (.L rfl (cleanI _) (congrArg (Value.int .i64) (hPw.symm)) .nil))))
    ·have g2:(((L.length:Nat):Int)==1)=false:=by simp;omega
     have hall:∀u∈L,Cyc rows u:=fun u hu=>by
      obtain ⟨v,hv,hne⟩:∃v∈L,u≠v:=by
       by_cases hall:∀v∈L,u=v
       ·exfalso
        have h1:L.length≤1:=by
         rcases L with _|⟨a,_|⟨b,l⟩⟩
         ·simp
         ·simp
         ·have e1:=hall a (by simp)
          have e2:=hall b (by simp)
          have:=hB.nd;rw[← e1,← e2] at this;simp at this
        have h2:=(List.getElem?_eq_some_iff.1 hL0).1;omega
       ·simpa using hall
      exact cyc_of (((hscc u).1 hu).trans ((hscc v).1 hv).symm) hne
     (repeat' ((conv=>whnf);first|refine goA ?_|refine U.SoundAt.eF cM (fun u hq=>by obtain ⟨m,rfl,_⟩:=hq;rfl) (.cons (.rowL (k:=8) (ys:=iL (nL L)) zL rfl (by rw[cellsI]) iL_1 (by rw[iL_len,nL_len]) rL (cleanIC _)) trivial) ?_|refine goB ?_|refine U.SoundAt.u (cC) clN ?_|refine U.SoundC.u (cC) clN ?_|refine U.lw_c ?_ ?_<;>intro hb))
     intro u hq;obtain ⟨m0,rfl,hm0⟩:=hq;obtain ⟨m,rfl,hm1,hm2⟩:=hmin m0 hm0;have hnew:=hcycle _ ⟨m,hm1,hm2,hall,rfl⟩;by_cases k1:least<0
     ·have g3:decide (least<0)=true:=by simpa using k1
      rw[if_pos (.inl k1)] at hnew;(repeat' ((conv=>whnf);first|refine goA ?_|rw[g3]|refine goB ?_|refine U.lw_c ?_ ?_<;>intro hb))
      (conv=>whnf);refine ⟨(P,r::Q,sb2,(m:Int)),⟨hout.symm,hnew⟩,by simp,?_⟩
      exact (Cov.renI rfl rfl rfl rfl (.C rfl (.L (cleanGL _) rfl .nil) (.C rfl (.L (cleanGL _) rfl .nil) (.C rfl (.cons .I .nil) (.W rfl (cleanBl _) rfl (.C rfl (.cons (.S rfl rfl rfl) .nil) (.C rfl (.L (cleanIL _) rfl .nil) (.cons rfl (loop_renL (.cons rfl (.P rfl) (.cons rfl (.P rfl) (.cons rfl (.P rfl) (.cons rfl (.P rfl) .nil))))) .nil))))))) (.cons rfl (.yld _ _ (by decide) rfl) (.cons rfl (.P rfl) (.L rfl (cleanI _) (congrArg (Value.int .i64) (hPw.symm)) .nil))))
     ·have g3:decide (least<0)=false:=by simpa using k1
      by_cases k2:(m:Int)<least
      ·have g4:decide ((m:Int)<least)=true:=by simpa using k2
       rw[if_pos (.inr k2)] at hnew;(repeat' ((conv=>whnf);first|refine goA ?_|rw[g3]|rw[g4]|refine goB ?_|refine U.lw_c ?_ ?_<;>intro hb))
       (conv=>whnf);refine ⟨(P,r::Q,sb2,(m:Int)),⟨hout.symm,hnew⟩,by simp,?_⟩
       exact (Cov.renI rfl rfl rfl rfl (.C rfl (.L (cleanGL _) rfl .nil) (.C rfl (.L (cleanGL _) rfl .nil) (.C rfl (.cons .I .nil) (.W rfl (cleanBl _) rfl (.C rfl (.cons (.S rfl rfl rfl) .nil) (.C rfl (.L (cleanIL _) rfl .nil) (.cons rfl (loop_renL (.cons rfl (.P rfl) (.cons rfl (.P rfl) (.cons rfl (.P rfl) (.cons rfl (.P rfl) .nil))))) .nil))))))) (.cons rfl (.yld _ _ (by decide) rfl) (.cons rfl (.P rfl) (.L rfl (cleanI _) (congrArg (Value.int .i64) (hPw.symm)) .nil))))
      ·have g4:decide ((m:Int)<least)=false:=by simpa using k2
       rw[if_neg (fun h=>h.elim k1 k2)] at hnew;(repeat' ((conv=>whnf);first|refine goA ?_|rw[g3]|rw[g4]|refine goB ?_|refine U.lw_c ?_ ?_<;>intro hb))
       (conv=>whnf);refine ⟨(P,r::Q,sb2,least),⟨hout.symm,hnew⟩,by simp,?_⟩
       exact (Cov.renI rfl rfl rfl rfl (.C rfl (.L (cleanGL _) rfl .nil) (.C rfl (.L (cleanGL _) rfl .nil) (.C rfl (.cons .I .nil) (.W rfl (cleanBl _) rfl (.C rfl (.cons (.S rfl rfl rfl) .nil) (.C rfl (.L (cleanIL _) rfl .nil) (.cons rfl (loop_renL (.cons rfl (.P rfl) (.cons rfl (.P rfl) (.cons rfl (.P rfl) (.cons rfl (.P rfl) .nil))))) .nil))))))) (.cons rfl (.yld _ _ (by decide) rfl) (.cons rfl (.P rfl) (.L rfl (cleanI _) (congrArg (Value.int .i64) (hPw.symm)) .nil))))
  ·rw[hsr] at hns;(repeat' ((conv=>whnf);first|refine goA ?_|(conv in (nth _ _)=>(change nth _ (0+r*1);rw[hns]))|refine goB ?_|refine U.lw_c ?_ ?_<;>intro hb))
   (conv=>whnf);refine ⟨(P,r::Q,sb,least),⟨hout.symm,hS.old hsr⟩,by simp,?_⟩
   exact (Cov.renI rfl rfl rfl rfl (.C rfl (.L (cleanGL _) rfl .nil) (.C rfl (.L (cleanGL _) rfl .nil) (.C rfl (.cons .I .nil) (.W rfl (cleanBl _) rfl (.C rfl (.cons (.S rfl rfl rfl) .nil) (.C rfl (.L (cleanIL _) rfl .nil) (.cons rfl (loop_renL (.cons rfl (.P rfl) (.cons rfl (.P rfl) (.cons rfl (.P rfl) (.cons rfl (.P rfl) .nil))))) .nil))))))) (.cons rfl (.yld _ _ (by decide) rfl) (.cons rfl (.P rfl) (.L rfl (cleanI _) (congrArg (Value.int .i64) (hPw.symm)) .nil))))
end Go.Proofs.YtcihknonfcldeaaDoor
