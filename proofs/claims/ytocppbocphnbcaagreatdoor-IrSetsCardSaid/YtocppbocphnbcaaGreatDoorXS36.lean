
import Derived.Test.YtocppbocphnbcaaGreatDoorXS35
namespace Go.Proofs.YtocppbocphnbcaaGreatDoor
open Go Go.RowKit Go.Sort U
set_option linter.unusedVariables false
set_option linter.unusedSimpArgs false
set_option maxRecDepth 100000
set_option maxHeartbeats 40000000
theorem rrS_d (p:Pg) (k a no:Int) (xs:List Ex) (th el:List St) (hlen:xs.length≤maxI) (ih:∀e∈xs,DenU Tryz.prog [] 93 [encP p,encE e] (.bool ((postE e).all (ownE p.slots p.arrs.length)))):DenU Tryz.prog [] 70 [encP p,encS (.mk k a xs th el no)] (.bool (standsB p (.mk k a xs th el no))):=by
 refine denU_of_body hmixU rfl Tryz.func70 rfl rfl rfl 0 ?_;intro Ts;have hx:=encEs_len xs;have ht:=encSs_len th;have hl:=encSs_len el;have ha:=iL_len p.arrs;have hq:=prL_len p.procs;obtain ⟨b,hr⟩:∃b,b=ownS p (.mk k a xs th el no):=⟨_,rfl⟩
 obtain ⟨F,hF⟩:∃F,F=ownE p.slots p.arrs.length:=⟨_,rfl⟩
 rw[← hF] at ih;rw[show standsB p (.mk k a xs th el no)=(b&&(postEs xs).all F) by rw[hr,hF];rfl]
 have hcp:=cleanP p;simp only[ownS,isE_iff] at hr;obtain ⟨sl,arrs,ins,procs,main⟩:=p;dsimp only at hr ha hq;(repeat' ((conv=>whnf);first|refine goD ?_|refine U.lw_c ?_ ?_<;>intro hb))
 (conv=>whnf);refine loop_inv (α:=List Ex×List Ex) (fun x=>x.1++x.2=xs∧(postEs x.1).all F=true) (fun x=>(mkF [(2,.pointer (some ⟨0,0,none⟩)),(3,.pointer (some ⟨1,0,none⟩)),(4,.bool false),(5,.int .i64 x.1.length)],⟨mkO [(0,some (.cells 34 (cellsOf (encP ⟨sl,arrs,ins,procs,main⟩)) false)),(1,some (.cells 98 [.int .i64 k,.int .i64 a,imS (encEs xs),imS (encSs th),imS (encSs el),.int .i64 no] false))],2,0,0⟩)) (fun x=>x.2.length) ([],xs) ⟨rfl,rfl⟩ (Cov.slots rL ⟨rfl,rfl,rfl,rfl,trivial⟩) ?_
 rintro ⟨pre,rest⟩ ⟨p1,p2⟩
 dsimp only at p1 p2;subst p1;dsimp only;rcases rest with _|⟨e,rest⟩
 ·rw[List.append_nil] at *;have zb:=U.lt_no encEs_map pre;rw[p2,Bool.and_true];clear ih hlen;rcases (by omega:k=0∨k=1∨k=2∨k=3∨k=4∨k=5∨k=6∨(¬k=0∧¬k=1∧¬k=2∧¬k=3∧¬k=4∧¬k=5∧¬k=6)) with rfl|rfl|rfl|rfl|rfl|rfl|rfl|⟨k0,k1,k2,k3,k4,k5,k6⟩
  ·(repeat' ((conv=>whnf);first|refine goD ?_|refine U.lw_c ?_ ?_<;>intro hb))
   all_goals (conv=>whnf)
   all_goals refine .same (.flat _ rfl) (congrArg Value.bool ?_)
   all_goals (clear hF p2 zb;first|grind|(rw[hr];clear hr;simp only[hx,ht,hl,ha,hq,bne_eq_false_iff_eq,bne_iff_ne,ne_eq,beq_iff_eq,beq_eq_false_iff_ne,decide_eq_false_iff_not,decide_eq_true_eq] at *;rw[Bool.eq_iff_iff];simp[-List.length_eq_zero_iff];omega)|(subst hr;simp[-List.length_eq_zero_iff] at *;grind))
  ·(repeat' ((conv=>whnf);first|refine goD ?_|refine U.lw_c ?_ ?_<;>intro hb))
   all_goals (conv=>whnf)
   all_goals refine .same (.flat _ rfl) (congrArg Value.bool ?_)
   all_goals (clear hF p2 zb;first|grind|(rw[hr];clear hr;simp only[hx,ht,hl,ha,hq,bne_eq_false_iff_eq,bne_iff_ne,ne_eq,beq_iff_eq,beq_eq_false_iff_ne,decide_eq_false_iff_not,decide_eq_true_eq] at *;rw[Bool.eq_iff_iff];simp[-List.length_eq_zero_iff];omega)|(subst hr;simp[-List.length_eq_zero_iff] at *;grind))
  ·(repeat' ((conv=>whnf);first|refine goD ?_|refine U.lw_c ?_ ?_<;>intro hb))
   all_goals (conv=>whnf)
   all_goals refine .same (.flat _ rfl) (congrArg Value.bool ?_)
   all_goals (clear hF p2 zb;first|grind|(rw[hr];clear hr;simp only[hx,ht,hl,ha,hq,bne_eq_false_iff_eq,bne_iff_ne,ne_eq,beq_iff_eq,beq_eq_false_iff_ne,decide_eq_false_iff_not,decide_eq_true_eq] at *;rw[Bool.eq_iff_iff];simp[-List.length_eq_zero_iff];omega)|(subst hr;simp[-List.length_eq_zero_iff] at *;grind))
  ·(repeat' ((conv=>whnf);first|refine goD ?_|refine U.lw_c ?_ ?_<;>intro hb))
   all_goals (conv=>whnf)
   all_goals refine .same (.flat _ rfl) (congrArg Value.bool ?_)
   all_goals (clear hF p2 zb;first|grind|(rw[hr];clear hr;simp only[hx,ht,hl,ha,hq,bne_eq_false_iff_eq,bne_iff_ne,ne_eq,beq_iff_eq,beq_eq_false_iff_ne,decide_eq_false_iff_not,decide_eq_true_eq] at *;rw[Bool.eq_iff_iff];simp[-List.length_eq_zero_iff];omega)|(subst hr;simp[-List.length_eq_zero_iff] at *;grind))
  ·(repeat' ((conv=>whnf);first|refine goD ?_|refine U.lw_c ?_ ?_<;>intro hb))
   all_goals (conv=>whnf)
   all_goals refine .same (.flat _ rfl) (congrArg Value.bool ?_)
   all_goals (clear hF p2 zb;first|grind|(rw[hr];clear hr;simp only[hx,ht,hl,ha,hq,bne_eq_false_iff_eq,bne_iff_ne,ne_eq,beq_iff_eq,beq_eq_false_iff_ne,decide_eq_false_iff_not,decide_eq_true_eq] at *;rw[Bool.eq_iff_iff];simp[-List.length_eq_zero_iff];omega)|(subst hr;simp[-List.length_eq_zero_iff] at *;grind))
  ·by_cases hin:0≤a∧a<procs.length
   ·obtain ⟨i,rfl⟩:=Int.eq_ofNat_of_zero_le hin.1;have hi:i<procs.length:=by omega
    obtain ⟨x,hxi⟩:∃x,procs[i]?=some x:=⟨_,List.getElem?_eq_getElem hi⟩
    have hpn:parN procs i=x.ps.length:=by unfold parN;rw[Int.toNat_natCast,hxi]
    rw[hpn] at hr;have hps:=iL_len x.ps;have g2:decide ((i:Int)<((prL procs).length:Int))=true:=decide_eq_true (by rw[hq];omega)
    have g3:Nat.blt i (prL procs).length=true:=bLe (by rw[hq];omega)
    have g4:nth (prL procs) i=some (encPr x):=by rw[nth_eq,prL,List.getElem?_map,hxi];rfl
    have g5:decide ((i:Int)<0)=false:=decide_eq_false (by omega)
    obtain ⟨nm,ps,body⟩:=x;dsimp only at hps hpn hr;(repeat' ((conv=>whnf);first|refine goD ?_|refine U.lw_c ?_ ?_<;>intro hb))
    all_goals (conv=>whnf)
    all_goals refine .same (.flat _ rfl) (congrArg Value.bool ?_)
    all_goals (clear hF p2 zb;first|grind|(rw[hr];clear hr;simp only[hx,ht,hl,ha,hq,hps,bne_eq_false_iff_eq,bne_iff_ne,ne_eq,beq_iff_eq,beq_eq_false_iff_ne,decide_eq_false_iff_not,decide_eq_true_eq] at *;rw[Bool.eq_iff_iff];simp[-List.length_eq_zero_iff];omega)|(subst hr;simp[-List.length_eq_zero_iff] at *;grind))
   ·have hb:b=false:=by (clear hF p2 zb;rw[hr];clear hr;simp[-List.length_eq_zero_iff];omega)
    subst hb;by_cases h0:a<0
    ·have g5:decide (a<0)=true:=decide_eq_true h0;(repeat' ((conv=>whnf);first|refine goD ?_|refine U.lw_c ?_ ?_<;>intro hb))
     all_goals (conv=>whnf)
     all_goals exact .same (.flat _ rfl) rfl
    ·have g5:decide (a<0)=false:=decide_eq_false h0;have g2:decide (a<((prL procs).length:Int))=false:=decide_eq_false (by rw[hq];omega)
     (repeat' ((conv=>whnf);first|refine goD ?_|refine U.lw_c ?_ ?_<;>intro hb))
     all_goals (conv=>whnf)
     all_goals exact .same (.flat _ rfl) rfl
  ·(repeat' ((conv=>whnf);first|refine goD ?_|refine U.lw_c ?_ ?_<;>intro hb))
   all_goals (conv=>whnf)
   all_goals refine .same (.flat _ rfl) (congrArg Value.bool ?_)
   all_goals (clear hF p2 zb;first|grind|(rw[hr];clear hr;simp only[hx,ht,hl,ha,hq,bne_eq_false_iff_eq,bne_iff_ne,ne_eq,beq_iff_eq,beq_eq_false_iff_ne,decide_eq_false_iff_not,decide_eq_true_eq] at *;rw[Bool.eq_iff_iff];simp[-List.length_eq_zero_iff];omega)|(subst hr;simp[-List.length_eq_zero_iff] at *;grind))
  ·have g0:(k==0)=false:=by simpa using k0
   have g1:(k==1)=false:=by simpa using k1
   have g2:(k==2)=false:=by simpa using k2
   have g3:(k==3)=false:=by simpa using k3
   have g4:(k==4)=false:=by simpa using k4
   have g5:(k==5)=false:=by simpa using k5
   have g6:(k==6)=false:=by simpa using k6
   (repeat' ((conv=>whnf);first|refine goD ?_|refine U.lw_c ?_ ?_<;>intro hb))
   all_goals (conv=>whnf)
   all_goals refine .same (.flat _ rfl) (congrArg Value.bool ?_)
   all_goals (clear hF p2 zb;first|grind|(rw[hr];clear hr;simp only[hx,ht,hl,ha,hq,bne_eq_false_iff_eq,bne_iff_ne,ne_eq,beq_iff_eq,beq_eq_false_iff_ne,decide_eq_false_iff_not,decide_eq_true_eq] at *;rw[Bool.eq_iff_iff];simp[-List.length_eq_zero_iff];omega)|(subst hr;simp[-List.length_eq_zero_iff] at *;grind))
 ·have zb:=U.lt_yes encEs_map pre (e) rest;have zc:=U.blt_yes encEs_map pre (e) rest;have zn:=U.nth_at encEs_map pre (e) rest;have zw:=U.len_snoc (pre:=pre) (x:=e) (post:=rest) (hlen);have ihe:=ih e (by simp)
  obtain ⟨qe,hqe⟩:∃qe,qe=(postE e).all F:=⟨_,rfl⟩
  rw[← hqe] at ihe;have e1:(postEs (pre++e::rest)).all F=(qe&&(postEs rest).all F):=by rw[postEs_app,postEs,List.all_append,List.all_append,p2,← hqe,Bool.true_and]
  have e2:(postEs (pre++[e])).all F=qe:=by rw[postEs_app,List.all_append,p2,postEs,postEs,List.append_nil,← hqe,Bool.true_and]
  rw[e1];clear hr;have hce:=cleanE e;obtain ⟨k1,n1,a1,o1,l1⟩:=e;(repeat' ((conv=>whnf);first|refine goD ?_|refine ⟨_,ihe,clM,tab0 _,?_⟩|refine U.drawX_p (D:=U.propX) 8 [] (by decide +kernel) (by decide +kernel) ?_|refine U.lw_c ?_ ?_<;>intro hb))
  all_goals (conv=>whnf)
  ·have hb:qe=false:=by simpa using hb
   subst hb;exact .same (.flat _ rfl) (congrArg Value.bool (by simp))
  ·have hb:qe=true:=by simpa using hb
   exact ⟨(pre++[.mk k1 n1 a1 o1 l1],rest),⟨by simp,by rw[e2,hb]⟩,by simp,(Cov.renI rfl rfl rfl rfl (.W rfl ((fun c hc=>cleanP_cells ⟨sl,arrs,ins,procs,main⟩ c hc)) rfl (.W rfl (cleanS_cells (.mk k a _ th el no)) rfl .nil)) (.cons rfl (.P rfl) (.cons rfl (.P rfl) (.K rfl rfl rfl (.L rfl (cleanI _) (congrArg (Value.int .i64) (zw.symm)) .nil)))))⟩
theorem allSs_app' (a b:List St):allSs (a++b)=allSs a++allSs b:=by
 induction a with
 |nil=>rfl
 |cons x a ih=>rw[List.cons_append,allSs,allSs,ih,List.append_assoc]
theorem rrA_all (p:Pg):∀(N:Nat) (l:List St),szSs l≤N->szSs l≤1000->DenU Tryz.prog [] 35 [encP p,imS (encSs l)] (.bool ((allSs l).all (standsB p))):=by
 intro N;induction N with
 |zero =>
  intro l h0 h1;obtain rfl:l=[]:=List.length_eq_zero_iff.1 (by have:=szSs_len l;omega)
  refine denU_of_body hmixU rfl Tryz.func35 rfl rfl rfl 0 ?_;intro Ts;have hcp:=cleanP p;(repeat' ((conv=>whnf);first|refine goD ?_|refine U.lw_c ?_ ?_<;>intro hb))
  (conv=>whnf);refine loop_inv (α:=Unit) (fun _=>True) (fun _=>(mkF [(1,imS []),(4,.bool false),(5,.int .i64 0)],⟨mkO [],1,0,0⟩)) (fun _=>0) () trivial (Cov.renI rfl rfl rfl rfl .nil (.L rfl (cleanSs []) rfl (.K rfl rfl rfl (.K rfl rfl rfl .nil)))) ?_
  rintro _ _
  (repeat' ((conv=>whnf);first|refine goD ?_|refine U.lw_c ?_ ?_<;>intro hb))
  (conv=>whnf);exact .same (.flat _ rfl) rfl
 |succ N ih =>
  intro l h0 h1;refine denU_of_body hmixU rfl Tryz.func35 rfl rfl rfl 0 ?_;intro Ts;have hcp:=cleanP p;have hcl:=cleanSs l;have hrs:=fun k a no xs th el (h:szS (.mk k a xs th el no)≤1000)=>rrS_d p k a no xs th el (Nat.le_trans (show xs.length≤1000 by have:=szEs_len xs;rw[szS] at h;omega) (by decide)) fun e he=>rrE_all p 1000 e (by have:=szEs_mem he;rw[szS] at h;omega) (by have:=szEs_mem he;rw[szS] at h;omega)
  obtain ⟨B,hB⟩:∃B,B=standsB p:=⟨_,rfl⟩
  rw[← hB] at ih hrs ⊢;clear hB;obtain ⟨sl,arrs,ins,procs,main⟩:=p;(repeat' ((conv=>whnf);first|refine goD ?_|refine U.lw_c ?_ ?_<;>intro hb))
  (conv=>whnf);refine loop_inv (α:=List St×List St) (fun x=>x.1++x.2=l∧(allSs x.1).all B=true) (fun x=>(mkF [(1,imS (encSs l)),(2,.pointer (some ⟨0,0,none⟩)),(4,.bool false),(5,.int .i64 x.1.length)],⟨mkO [(0,some (.cells 34 (cellsOf (encP ⟨sl,arrs,ins,procs,main⟩)) false))],1,0,0⟩)) (fun x=>x.2.length) ([],l) ⟨rfl,rfl⟩ (Cov.slots rL ⟨rfl,rfl,rfl,rfl,trivial⟩) ?_
  rintro ⟨pre,rest⟩ ⟨p1,p2⟩
  dsimp only at p1 p2;subst p1;dsimp only;rcases rest with _|⟨s,rest⟩
  ·rw[List.append_nil] at *;have zb:=U.lt_no encSs_map pre;rw[p2];(repeat' ((conv=>whnf);first|refine goD ?_|refine U.lw_c ?_ ?_<;>intro hb))
   (conv=>whnf);exact .same (.flat _ rfl) rfl
  ·have hlen:=szSs_len (pre++s::rest);have zb:=U.lt_yes encSs_map pre (s) rest;have zc:=U.blt_yes encSs_map pre (s) rest;have zn:=U.nth_at encSs_map pre (s) rest;have zw:=U.len_snoc (pre:=pre) (x:=s) (post:=rest) ((Nat.le_trans (show _≤1000 by omega) (by decide)))
   have hsz:szS s≤szSs (pre++s::rest):=szSs_mem (by simp)
   obtain ⟨k,a,xs,th,el,no⟩:=s;have c1:=hrs k a no xs th el (by omega)
   have c2:=ih th (by rw[szS] at hsz;omega) (by rw[szS] at hsz;omega)
   have c3:=ih el (by rw[szS] at hsz;omega) (by rw[szS] at hsz;omega)
   have e1:(allSs (pre++.mk k a xs th el no::rest)).all B=(B (.mk k a xs th el no)&&(allSs th).all B&&(allSs el).all B&&(allSs rest).all B):=by
    rw[allSs_app',allSs,allS,List.all_append,p2,List.all_append,List.all_cons,List.all_append,Bool.true_and,← Bool.and_assoc]
   have e2:(allSs (pre++[.mk k a xs th el no])).all B=(B (.mk k a xs th el no)&&(allSs th).all B&&(allSs el).all B):=by
    rw[allSs_app',allSs,allS,allSs,List.all_append,p2,List.append_nil,List.all_cons,List.all_append,Bool.true_and,← Bool.and_assoc]
   rw[e1];have hcs:NoNm (encS (.mk k a xs th el no)):=.agg _ (cleanS_cells (.mk k a xs th el no));have hct:=cleanSs th;have hce:=cleanSs el;generalize (allSs rest).all B=q4
   generalize B (.mk k a xs th el no)=q1 at *
   generalize (allSs th).all B=q2 at *
   generalize (allSs el).all B=q3 at *
   clear e1 ih hrs;cases q1
   ·(repeat' ((conv=>whnf);first|refine goD ?_|refine ⟨_,c1,clM,tab0 _,?_⟩|refine ⟨_,c2,clM,tab0 _,?_⟩|refine ⟨_,c3,clM,tab0 _,?_⟩|refine U.drawX_p (D:=U.propX) 27 [] (by decide +kernel) (by decide +kernel) ?_|refine U.lw_c ?_ ?_<;>intro hb))
    (conv=>whnf);exact .same (.flat _ rfl) rfl
   ·cases q2
    ·(repeat' ((conv=>whnf);first|refine goD ?_|refine ⟨_,c1,clM,tab0 _,?_⟩|refine ⟨_,c2,clM,tab0 _,?_⟩|refine ⟨_,c3,clM,tab0 _,?_⟩|refine U.drawX_p (D:=U.propX) 27 [] (by decide +kernel) (by decide +kernel) ?_|refine U.lw_c ?_ ?_<;>intro hb))
     (conv=>whnf);exact .same (.flat _ rfl) rfl
    ·cases q3
     ·(repeat' ((conv=>whnf);first|refine goD ?_|refine ⟨_,c1,clM,tab0 _,?_⟩|refine ⟨_,c2,clM,tab0 _,?_⟩|refine ⟨_,c3,clM,tab0 _,?_⟩|refine U.drawX_p (D:=U.propX) 27 [] (by decide +kernel) (by decide +kernel) ?_|refine U.lw_c ?_ ?_<;>intro hb))
      (conv=>whnf);exact .same (.flat _ rfl) rfl
     ·(repeat' ((conv=>whnf);first|refine goD ?_|refine ⟨_,c1,clM,tab0 _,?_⟩|refine ⟨_,c2,clM,tab0 _,?_⟩|refine ⟨_,c3,clM,tab0 _,?_⟩|refine U.drawX_p (D:=U.propX) 27 [] (by decide +kernel) (by decide +kernel) ?_|refine U.lw_c ?_ ?_<;>intro hb))
      (conv=>whnf);exact ⟨(pre++[.mk k a xs th el no],rest),⟨by simp,by rw[e2];rfl⟩,by simp,(Cov.renI rfl rfl rfl rfl (.W rfl ((fun c hc=>cleanP_cells ⟨sl,arrs,ins,procs,main⟩ c hc)) rfl .nil) (.L rfl (cleanSs _) rfl (.cons rfl (.P rfl) (.K rfl rfl rfl (.L rfl (cleanI _) (congrArg (Value.int .i64) (zw.symm)) .nil)))))⟩
end Go.Proofs.YtocppbocphnbcaaGreatDoor
