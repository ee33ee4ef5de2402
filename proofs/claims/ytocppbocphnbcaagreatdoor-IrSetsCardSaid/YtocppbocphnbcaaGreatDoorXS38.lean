
import Derived.Test.YtocppbocphnbcaaGreatDoorXS21
import Derived.Test.YtocppbocphnbcaaGreatDoorXS37
namespace Go.Proofs.YtocppbocphnbcaaGreatDoor
open Go Go.RowKit Go.Sort U
set_option linter.unusedVariables false
set_option linter.unusedSimpArgs false
set_option maxRecDepth 100000
set_option maxHeartbeats 40000000
mutual
def numS:St->Int->St×Int
 |.mk k a xs th el no,n=>(.mk k a xs (numSs th (n+1)).1 (numSs el (numSs th (n+1)).2).1 n,(numSs el (numSs th (n+1)).2).2)
def numSs:List St->Int->List St×Int
 |[],n=>([],n)
 |s::l,n=>((numS s n).1::(numSs l (numS s n).2).1,(numSs l (numS s n).2).2)
end
mutual
theorem numS_snd:∀(s:St) (n:Int),(numS s n).2=n+(allS s).length
 |.mk k a xs th el no,n=>by
  rw[numS,allS];show (numSs el (numSs th (n+1)).2).2=_
  rw[numSs_snd el,numSs_snd th,List.length_cons,List.length_append];omega
theorem numSs_snd:∀(l:List St) (n:Int),(numSs l n).2=n+(allSs l).length
 |[],n=>by simp[numSs,allSs]
 |s::l,n=>by
  rw[numSs,allSs];show (numSs l (numS s n).2).2=_
  rw[numSs_snd l,numS_snd s,List.length_append];omega
end
theorem numSs_len:∀(l:List St) (n:Int),(numSs l n).1.length=l.length
 |[],n=>by rw[numSs]
 |s::l,n=>by
  rw[numSs];show (_::(numSs l (numS s n).2).1).length=_
  rw[List.length_cons,List.length_cons,numSs_len l]
mutual
theorem eqE_self:∀e:Ex,eqE e e=true
 |.mk k n a o l=>by rw[eqE,eqEs_self l];simp
theorem eqEs_self:∀l:List Ex,eqEs l l=true
 |[]=>by rw[eqEs]
 |e::l=>by rw[eqEs,eqE_self e,eqEs_self l];rfl
end
mutual
theorem eq_numS:∀(s:St) (n:Int),eqS s (numS s n).1=nums (allS s) n
 |.mk k a xs th el no,n=>by
  rw[numS,allS];show eqS _ (.mk k a xs (numSs th (n+1)).1 (numSs el (numSs th (n+1)).2).1 n)=_
  rw[eqS,eqEs_self,eq_numSs th,eq_numSs el,numSs_snd th,nums,nums_app,noS];simp[Bool.and_assoc]
theorem eq_numSs:∀(l:List St) (n:Int),eqSs l (numSs l n).1=nums (allSs l) n
 |[],n=>by rw[numSs,eqSs,allSs,nums]
 |s::l,n=>by
  rw[numSs,allSs];show eqSs (s::l) ((numS s n).1::(numSs l (numS s n).2).1)=_
  rw[eqSs,eq_numS s,eq_numSs l,numS_snd s,nums_app]
end
def eqPr (x y:Pr13):Bool:=decide (x.nm=y.nm)&&decide (x.ps=y.ps)&&eqSs x.body y.body
def eqPrs:List Pr13->List Pr13->Bool
 |[],[]=>true
 |x::l,y::m=>eqPr x y&&eqPrs l m
 |[],_::_=>false
 |_::_,[]=>false
def numPrs:List Pr13->Int->List Pr13×Int
 |[],n=>([],n)
 |x::l,n=>(⟨x.nm,x.ps,(numSs x.body n).1⟩::(numPrs l (numSs x.body n).2).1,(numPrs l (numSs x.body n).2).2)
theorem numPrs_snd:∀(l:List Pr13) (n:Int),(numPrs l n).2=n+(l.flatMap fun x=>allSs x.body).length
 |[],n=>by simp[numPrs]
 |x::l,n=>by
  rw[numPrs];show (numPrs l (numSs x.body n).2).2=_
  rw[numPrs_snd l,numSs_snd,List.flatMap_cons,List.length_append];omega
theorem numPrs_len:∀(l:List Pr13) (n:Int),(numPrs l n).1.length=l.length
 |[],n=>by rw[numPrs]
 |x::l,n=>by
  rw[numPrs];show (_::(numPrs l (numSs x.body n).2).1).length=_
  rw[List.length_cons,List.length_cons,numPrs_len l]
theorem eq_numPrs:∀(l:List Pr13) (n:Int),eqPrs l (numPrs l n).1=nums (l.flatMap fun x=>allSs x.body) n
 |[],n=>by rw[numPrs,eqPrs];rfl
 |x::l,n=>by
  rw[numPrs];show eqPrs (x::l) (⟨x.nm,x.ps,(numSs x.body n).1⟩::(numPrs l (numSs x.body n).2).1)=_
  rw[eqPrs,eqPr,eq_numPrs l,numSs_snd,eq_numSs,List.flatMap_cons,nums_app];simp
def numP (p:Pg):Pg:=⟨p.slots,p.arrs,p.ins,(numPrs p.procs 0).1,(numSs p.main (numPrs p.procs 0).2).1⟩
theorem eqPrs_app:∀{p q:List Pr13}(a b:List Pr13),p.length=q.length->eqPrs (p++a) (q++b)=(eqPrs p q&&eqPrs a b)
 |[],[],a,b,_=>by simp[eqPrs]
 |x::p,y::q,a,b,h=>by rw[List.cons_append,List.cons_append,eqPrs,eqPrs,eqPrs_app a b (by simpa using h),Bool.and_assoc]
 |[],_::_,_,_,h=>by simp at h
 |_::_,[],_,_,h=>by simp at h
def like:List Pr13->List Pr13->Prop
 |[],[]=>True
 |x::l,y::m=>x.nm=y.nm∧x.ps=y.ps∧like l m
 |[],_::_=>False
 |_::_,[]=>False
theorem like_len:∀{l m:List Pr13},like l m->l.length=m.length
 |[],[],_=>rfl
 |x::l,y::m,h=>by rw[List.length_cons,List.length_cons,like_len h.2.2]
 |[],_::_,h=>h.elim
 |_::_,[],h=>h.elim
theorem like_num:∀(l:List Pr13) (n:Int),like l (numPrs l n).1
 |[],n=>trivial
 |x::l,n=>by
  rw[numPrs];exact ⟨rfl,rfl,like_num l _⟩
theorem same_like (p q:Pg) (h1:p.slots=q.slots) (h2:p.arrs=q.arrs) (h3:p.ins=q.ins) (h4:like p.procs q.procs) (ha:p.arrs.length≤maxI) (hi:p.ins.length≤maxI) (hp:p.procs.length≤maxI) (hps:∀x∈p.procs,x.ps.length≤maxI) (hb:∀x∈p.procs,szSs x.body≤1000) (hm:szSs p.main≤1000):DenU Tryz.prog [] 38 [encP p,encP q] (.bool (eqPrs p.procs q.procs&&eqSs p.main q.main)):=by
 refine denU_of_body hmixU rfl Tryz.func38 rfl rfl rfl 0 ?_;intro Ts;have k1:=cleanP p;have k2:=cleanP q;obtain ⟨sl,arrs,ins,procs,main⟩:=p;obtain ⟨sl',arrs',ins',procs',main'⟩:=q;dsimp only at h1 h2 h3 h4 ha hi hp hps hb hm
 subst h1 h2 h3;have c1:DenU Tryz.prog [] 41 [imS (iL arrs),imS (iL arrs)] (.bool true):=by have:=ints_same arrs arrs ha;simpa using this
 have e1:=inL_len ins;have e2:=prL_len procs;have e3:=prL_len procs';have hl:=like_len h4;have ca:=cleanIL arrs;have d1:(sl != sl)=false:=by simp
 have d2:(((inL ins).length:Int) != ((inL ins).length:Int))=false:=by simp
 have d3:(((prL procs).length:Int) != ((prL procs').length:Int))=false:=by rw[e2,e3,hl];simp
 (repeat' ((conv=>whnf);first|refine goD ?_|refine ⟨_,c1,clM,tab0 _,?_⟩|refine U.lw_c ?_ ?_<;>intro hb))
 (conv=>whnf);refine loop_inv (α:=List In13×List In13) (fun x=>x.1++x.2=ins) (fun x=>(mkF [(2,.pointer (some ⟨0,0,none⟩)),(3,.pointer (some ⟨1,0,none⟩)),(4,.bool false),(5,.int .i64 x.1.length)],⟨mkO [(0,some (.cells 34 (cellsOf (encP ⟨sl,arrs,ins,procs,main⟩)) false)),(1,some (.cells 34 (cellsOf (encP ⟨sl,arrs,ins,procs',main'⟩)) false))],2,0,0⟩)) (fun x=>x.2.length) ([],ins) rfl (Cov.slots rL ⟨rfl,rfl,rfl,rfl,trivial⟩) ?_
 rintro ⟨pre,rest⟩ p1
 dsimp only at p1;subst p1;dsimp only;rcases rest with _|⟨x,rest⟩
 ·rw[List.append_nil] at *;have zb:=U.lt_no inL_map pre;(repeat' ((conv=>whnf);first|refine goD ?_|refine U.lw_c ?_ ?_<;>intro hb))
  (conv=>whnf);refine loop_inv (α:=(List Pr13×List Pr13)×List Pr13×List Pr13) (fun x=>x.1.1++x.1.2=procs∧x.2.1++x.2.2=procs'∧x.1.1.length=x.2.1.length∧eqPrs x.1.1 x.2.1=true∧like x.1.2 x.2.2) (fun x=>(mkF [(2,.pointer (some ⟨0,0,none⟩)),(3,.pointer (some ⟨1,0,none⟩)),(4,.bool false),(6,.int .i64 x.1.1.length)],⟨mkO [(0,some (.cells 34 (cellsOf (encP ⟨sl,arrs,pre,procs,main⟩)) false)),(1,some (.cells 34 (cellsOf (encP ⟨sl,arrs,pre,procs',main'⟩)) false))],2,0,0⟩)) (fun x=>x.1.2.length) (([],procs),[],procs') ⟨rfl,rfl,rfl,rfl,h4⟩ (Cov.renI rfl rfl rfl rfl (.W rfl ((fun c hc=>cleanP_cells ⟨sl,arrs,pre,procs,main⟩ c hc)) rfl (.W rfl ((fun c hc=>cleanP_cells ⟨sl,arrs,pre,procs',main'⟩ c hc)) rfl .nil)) (.cons rfl (.P rfl) (.cons rfl (.P rfl) (.K rfl rfl rfl (.K rfl rfl rfl .nil))))) ?_
  rintro ⟨⟨ipre,irest⟩,ipre',irest'⟩ ⟨i1,i2,i3,i4,i5⟩
  dsimp only at i1 i2 i3 i4 i5;subst i1;subst i2;dsimp only;rw[eqPrs_app _ _ i3,i4,Bool.true_and];rcases irest with _|⟨u,irest⟩
  ·obtain rfl:irest'=[]:=List.length_eq_zero_iff.1 (like_len i5).symm;simp only[List.append_nil] at *;have wb:=U.lt_no prL_map ipre;have cm:=stmts_same 1000 main main' hm hm;have km:=cleanSs main;have km':=cleanSs main'
   (repeat' ((conv=>whnf);first|refine goD ?_|refine ⟨_,cm,clM,tab0 _,?_⟩|refine U.lw_c ?_ ?_<;>intro hb))
   all_goals (conv=>whnf)
   all_goals exact .same (.flat _ rfl) (congrArg Value.bool (by rw[eqPrs];simp))
  ·rcases irest' with _|⟨v,irest'⟩
   ·exact i5.elim
   ·have wb:=U.lt_yes prL_map ipre (u) irest;have wc:=U.blt_yes prL_map ipre (u) irest;have wn:=U.nth_at prL_map ipre (u) irest;have ww:=U.len_snoc (pre:=ipre) (x:=u) (post:=irest) (hp);have vb:=U.lt_yes prL_map ipre' (v) irest';have vc:=U.blt_yes prL_map ipre' (v) irest';have vn:=U.nth_at prL_map ipre' (v) irest'
    rw[← i3] at vb vc vn;have hu1:=hps u (by simp)
    have hu2:=hb u (by simp)
    obtain ⟨nm,ps,body⟩:=u;obtain ⟨nm',ps',body'⟩:=v;obtain ⟨rfl,rfl,i5⟩:=i5;have c5:DenU Tryz.prog [] 41 [imS (iL ps),imS (iL ps)] (.bool true):=by have:=ints_same ps ps hu1;simpa using this
    have c6:=stmts_same 1000 body body' hu2 hu2;have kp:=cleanIL ps;have kb:=cleanSs body;have kb':=cleanSs body';have e4:eqPrs (ipre++[⟨nm,ps,body⟩]) (ipre'++[⟨nm,ps,body'⟩])=eqSs body body':=by rw[eqPrs_app _ _ i3,i4,eqPrs,eqPrs,eqPr];simp
    rw[show eqPrs (⟨nm,ps,body⟩::irest) (⟨nm,ps,body'⟩::irest')=(eqSs body body'&&eqPrs irest irest') by rw[eqPrs,eqPr];simp]
    generalize eqSs body body'=q1 at *
    have d5:(nm != nm)=false:=by rw[bne,ba_beq];simp
    have d6:(nm==nm)=true:=by rw[ba_beq];simp
    cases q1
    ·(repeat' ((conv=>whnf);first|refine goD ?_|refine ⟨_,c5,clM,tab0 _,?_⟩|refine ⟨_,c6,clM,tab0 _,?_⟩|refine U.drawX_p (D:=U.propX) 45 [] (by decide +kernel) (by decide +kernel) ?_|refine U.lw_c ?_ ?_<;>intro hb))
     all_goals (conv=>whnf)
     all_goals exact .same (.flat _ rfl) rfl
    ·(repeat' ((conv=>whnf);first|refine goD ?_|refine ⟨_,c5,clM,tab0 _,?_⟩|refine ⟨_,c6,clM,tab0 _,?_⟩|refine U.drawX_p (D:=U.propX) 45 [] (by decide +kernel) (by decide +kernel) ?_|refine U.lw_c ?_ ?_<;>intro hb))
     all_goals (conv=>whnf)
     ·exfalso
      simp at hb
     ·exact ⟨((ipre++[⟨nm,ps,body⟩],irest),ipre'++[⟨nm,ps,body'⟩],irest'),⟨by simp,by simp,by simp[i3],e4,i5⟩,by simp,(Cov.renI rfl rfl rfl rfl (.W rfl ((fun c hc=>cleanP_cells ⟨sl,arrs,pre,_,main⟩ c hc)) rfl (.W rfl ((fun c hc=>cleanP_cells ⟨sl,arrs,pre,_,main'⟩ c hc)) rfl .nil)) (.cons rfl (.P rfl) (.cons rfl (.P rfl) (.K rfl rfl rfl (.L rfl (cleanI _) (congrArg (Value.int .i64) (ww.symm)) .nil)))))⟩
 ·have zb:=U.lt_yes inL_map pre (x) rest;have zc:=U.blt_yes inL_map pre (x) rest;have zn:=U.nth_at inL_map pre (x) rest;have zw:=U.len_snoc (pre:=pre) (x:=x) (post:=rest) (hi);obtain ⟨nm,slot,lo,hh,sec⟩:=x
  have d5:(nm != nm)=false:=by rw[bne,ba_beq];simp
  have d6:(nm==nm)=true:=by rw[ba_beq];simp
  (repeat' ((conv=>whnf);first|refine goD ?_|refine U.drawX_p (D:=U.propX) 11 [] (by decide +kernel) (by decide +kernel) ?_|refine U.lw_c ?_ ?_<;>intro hb))
  all_goals (conv=>whnf)
  refine U.ob_c (by kernel_rfl) ?_
  (repeat' ((conv=>whnf);first|refine goD ?_|refine U.lw_c ?_ ?_<;>intro hb))
  all_goals (conv=>whnf)
  ·exfalso
   simp at hb
  ·exact ⟨(pre++[⟨nm,slot,lo,hh,sec⟩],rest),by simp,by simp,(Cov.renI rfl rfl rfl rfl (.W rfl ((fun c hc=>cleanP_cells ⟨sl,arrs,_,procs,main⟩ c hc)) rfl (.W rfl ((fun c hc=>cleanP_cells ⟨sl,arrs,_,procs',main'⟩ c hc)) rfl .nil)) (.cons rfl (.P rfl) (.cons rfl (.P rfl) (.K rfl rfl rfl (.L rfl (cleanI _) (congrArg (Value.int .i64) (zw.symm)) .nil)))))⟩
mutual
def cntE:Ex->Int->Int->Int
 |.mk _ _ _ _ l,m,d=>if d=0 then IntKind.i64.wrap (m+1) else cntEs l m d 1
def cntEs:List Ex->Int->Int->Int->Int
 |[],_,_,n=>n
 |e::l,m,d,n=>if n≤m then cntEs l m d (IntKind.i64.wrap (n+cntE e (IntKind.i64.wrap (m-n)) (IntKind.i64.wrap (d-1)))) else n
end
theorem irExpr_d (k n a o:Int) (l:List Ex) (hl:l.length≤maxI) (ih:∀e∈l,∀m d,DenU Tryz.prog [] 61 [encE e,.int .i64 m,.int .i64 d] (.int .i64 (cntE e m d))) (m d:Int):DenU Tryz.prog [] 61 [encE (.mk k n a o l),.int .i64 m,.int .i64 d] (.int .i64 (cntE (.mk k n a o l) m d)):=by
 refine denU_of_body hmixU rfl Tryz.func61 rfl rfl rfl 0 ?_;intro Ts;(conv=>whnf);(repeat ((first|refine goA ?_);(conv=>whnf)))
 refine U.lw_c (fun h=>?_) (fun h=>?_)
 ·(conv=>whnf);(repeat ((first|refine goA ?_);(conv=>whnf)))
  have hd:d=0:=by simpa using h
  rw[cntE,if_pos hd];exact .clean _ (cleanI _)
 ·have hd:¬d=0:=by simpa using h
  rw[cntE,if_neg hd];(conv=>whnf);(repeat ((first|refine goA ?_);(conv=>whnf)))
  refine loop_inv (α:=List Ex×List Ex×Int) (fun x=>x.1++x.2.1=l∧cntEs x.2.1 m d x.2.2=cntEs l m d 1) (fun x=>(mkF [(1,.int .i64 m),(2,.int .i64 d),(3,.pointer (some ⟨0,0,none⟩)),(7,.int .i64 x.2.2),(8,.int .i64 x.1.length)],_)) (fun x=>x.2.1.length) ([],l,1) ⟨rfl,rfl⟩ (Cov.slots rL ⟨rfl,rfl,rfl,rfl,rfl,trivial⟩) ?_
  rintro ⟨pre,rest,c⟩ ⟨h1,h2⟩
  dsimp only at h1 h2;(conv=>whnf);(repeat ((first|refine goA ?_);(conv=>whnf)))
  refine U.lw_c (fun h=>?_) (fun h=>?_)
  ·have h:=of_decide_eq_true h;dsimp only at h;rw[encEs_map,List.length_map,← h1,List.length_append] at h;cases rest with
   |nil=>simp at h
   |cons e post =>
   (conv=>whnf);(repeat ((first|refine goA ?_);(conv=>whnf)))
   refine U.lw_c (fun h3=>?_) (fun h3=>?_)
   ·replace h3:c≤m:=of_decide_eq_true h3;(conv=>whnf);(repeat ((first|refine goA ?_);(conv=>whnf)))
    refine ⟨bLe (by
     show pre.length+1≤(encEs l).length
     rw[encEs_map,List.length_map,← h1];simp),?_⟩
    (conv=>whnf);(repeat ((first|refine goA ?_);(conv=>whnf)))
    refine ⟨encE e,by
     show nth (encEs l) pre.length=_
     have:=nth_mid (encE e) (pre.map encE) (post.map encE);rw[List.length_map] at this;rw[encEs_map,← h1,List.map_append,List.map_cons];exact this,?_⟩
    obtain ⟨k1,n1,a1,o1,l1⟩:=e;(conv=>whnf);(repeat ((first|refine goA ?_);(conv=>whnf)))
    refine ⟨_,ih (.mk k1 n1 a1 o1 l1) (by rw[← h1];simp) _ _,⟨cleanE (.mk k1 n1 a1 o1 l1),cleanI _,cleanI _,trivial⟩,tab0 _,?_⟩
    (conv=>whnf);(repeat ((first|refine goA ?_);(conv=>whnf)))
    refine ⟨(pre++[.mk k1 n1 a1 o1 l1],post,IntKind.i64.wrap (c+cntE (.mk k1 n1 a1 o1 l1) (IntKind.i64.wrap (m-c)) (IntKind.i64.wrap (d-1)))),⟨by rw[← h1];simp,?_⟩,by simp,Cov.slots rL ⟨rfl,rfl,rfl,rfl,?_,trivial⟩⟩
    ·rw[← h2,cntEs,if_pos h3]
    ·have hlen:pre.length<9223372036854775807:=by
      have:l.length≤maxI:=hl;unfold maxI at this;rw[← h1,List.length_append,List.length_cons] at this;omega
     show some (Value.int .i64 (IntKind.i64.wrap ((pre.length:Int)+1)))=some (.int .i64 ((pre++[Ex.mk k1 n1 a1 o1 l1]).length:Int))
     rw[wadd1 hlen,List.length_append];rfl
   ·(conv=>whnf);(repeat ((first|refine goA ?_);(conv=>whnf)))
    replace h3:¬c≤m:=of_decide_eq_false h3;exact .same (cleanI _) (by rw[← h2,cntEs,if_neg h3];rfl)
  ·have h:=of_decide_eq_false h;dsimp only at h;rw[encEs_map,List.length_map,← h1,List.length_append] at h;have hr:rest=[]:=List.eq_nil_of_length_eq_zero (by omega)
   subst hr;(conv=>whnf);(repeat ((first|refine goA ?_);(conv=>whnf)))
   exact .same (cleanI _) (by rw[← h2,cntEs];rfl)
theorem irExpr_all:∀(e:Ex),okE e->∀m d,DenU Tryz.prog [] 61 [encE e,.int .i64 m,.int .i64 d] (.int .i64 (cntE e m d))
 |.mk k n a o l,h,m,d=>by
  rw[okE] at h;exact irExpr_d k n a o l h.1 (fun e he m d=>irExpr_all e (okEs_mem h.2 e he) m d) m d
def cntX:List Ex->Int->Int->Int
 |[],_,n=>n
 |e::l,m,n=>if n≤m then cntX l m (IntKind.i64.wrap (n+cntE e (IntKind.i64.wrap (m-n)) 60)) else n
mutual
def cntS:St->Int->Int->Int->Int
 |.mk _ _ xs th el _,m,d,n =>
  let a:=cntX xs m (IntKind.i64.wrap (n+1))
  let b:=IntKind.i64.wrap (a+if IntKind.i64.wrap (d-1)=0 then IntKind.i64.wrap (IntKind.i64.wrap (m-a)+1) else cntSs th (IntKind.i64.wrap (m-a)) (IntKind.i64.wrap (d-1)) 0)
  IntKind.i64.wrap (b+if IntKind.i64.wrap (d-1)=0 then IntKind.i64.wrap (IntKind.i64.wrap (m-b)+1) else cntSs el (IntKind.i64.wrap (m-b)) (IntKind.i64.wrap (d-1)) 0)
def cntSs:List St->Int->Int->Int->Int
 |[],_,_,n=>n
 |e::l,m,d,n=>if n≤m then cntSs l m d (cntS e m d n) else n
end
def cntL (l:List St) (m d:Int):Int:=if d=0 then IntKind.i64.wrap (m+1) else cntSs l m d 0
theorem cntS_eq (k a no:Int) (xs:List Ex) (th el:List St) (m d n:Int):cntS (.mk k a xs th el no) m d n=IntKind.i64.wrap (IntKind.i64.wrap (cntX xs m (IntKind.i64.wrap (n+1))+cntL th (IntKind.i64.wrap (m-cntX xs m (IntKind.i64.wrap (n+1)))) (IntKind.i64.wrap (d-1)))+cntL el (IntKind.i64.wrap (m-IntKind.i64.wrap (cntX xs m (IntKind.i64.wrap (n+1))+cntL th (IntKind.i64.wrap (m-cntX xs m (IntKind.i64.wrap (n+1)))) (IntKind.i64.wrap (d-1))))) (IntKind.i64.wrap (d-1))):=by
 rw[cntS];rfl
theorem irStmts_d (l:List St) (hl:l.length≤maxI) (ih:∀k a xs th el no,St.mk k a xs th el no∈l->xs.length≤maxI∧(∀e∈xs,∀m d,DenU Tryz.prog [] 61 [encE e,.int .i64 m,.int .i64 d] (.int .i64 (cntE e m d)))∧(∀m d,DenU Tryz.prog [] 21 [imS (encSs th),.int .i64 m,.int .i64 d] (.int .i64 (cntL th m d)))∧∀m d,DenU Tryz.prog [] 21 [imS (encSs el),.int .i64 m,.int .i64 d] (.int .i64 (cntL el m d))) (m d:Int):DenU Tryz.prog [] 21 [imS (encSs l),.int .i64 m,.int .i64 d] (.int .i64 (cntL l m d)):=by
 refine denU_of_body hmixU rfl Tryz.func21 rfl rfl rfl 0 ?_;intro Ts;obtain ⟨F,hF⟩:∃F:List St->Int->Int->Int,F=cntL:=⟨_,rfl⟩
 obtain ⟨G,hG⟩:∃G:Ex->Int->Int->Int,G=cntE:=⟨_,rfl⟩
 simp only[← hF,← hG] at ih;(repeat' ((conv=>whnf);first|refine goD ?_|refine U.lw_c ?_ ?_<;>intro hb))
 ·(conv=>whnf);have hd:d=0:=by simpa using hb
  rw[cntL,if_pos hd];exact .clean _ (cleanI _)
 ·have hd:¬d=0:=by simpa using hb
  rw[cntL,if_neg hd];refine loop_inv (α:=List St×List St×Int) (fun x=>x.1++x.2.1=l∧cntSs x.2.1 m d x.2.2=cntSs l m d 0) (fun x=>(mkF [(0,imS (encSs l)),(1,.int .i64 m),(2,.int .i64 d),(7,.int .i64 x.2.2),(8,.int .i64 x.1.length)],⟨mkO [],0,0,0⟩)) (fun x=>x.2.1.length) ([],l,0) ⟨rfl,rfl⟩ (Cov.renI rfl rfl rfl rfl (by (repeat (first|refine blksO.cons rfl (.cells _ _ _ _ (by (repeat (refine RenL.cons (by (first|(with_reducible exact RenV.clean _ _ (cleanI _) rfl)|(with_reducible exact RenV.clean _ _ (cleanEs _) rfl)|(with_reducible exact RenV.clean _ _ (cleanSs _) rfl)|exact RenV.clean _ _ (cleanI _) (congrArg (Value.int IntKind.i64) (Eq.symm (by with_reducible assumption)))|exact RenV.clean _ _ (cleanI _) (congrArg (Value.int IntKind.i64) (by with_reducible assumption))|(with_reducible exact RenV.F rfl rfl)|exact RenV.P rfl|exact RenV.ofRow (by decide) rfl rfl|exact RenV.F rfl rfl|exact RenV.P rfl|(refine RenV.sl _ _ _ _ _ _ _ (by decide) rfl ?_ ?_<;>(simp[encEs_map];done))|(refine RenV.sl _ _ _ _ _ _ _ (by decide) rfl ?_ ?_<;>(simp[encSs_map];done))|exact RenV.clean _ _ (cleanI _) rfl|exact RenV.clean _ _ (cleanEs _) rfl|exact RenV.clean _ _ (cleanSs _) rfl)) ?_));exact RenL.nil)) ?_|refine blksO.none ?_|exact blksO.nil))) (by (repeat (refine slotsRen.cons rfl (by (first|(with_reducible exact RenV.clean _ _ (cleanI _) rfl)|(with_reducible exact RenV.clean _ _ (cleanEs _) rfl)|(with_reducible exact RenV.clean _ _ (cleanSs _) rfl)|exact RenV.clean _ _ (cleanI _) (congrArg (Value.int IntKind.i64) (Eq.symm (by with_reducible assumption)))|exact RenV.clean _ _ (cleanI _) (congrArg (Value.int IntKind.i64) (by with_reducible assumption))|(with_reducible exact RenV.F rfl rfl)|exact RenV.P rfl|exact RenV.ofRow (by decide) rfl rfl|exact RenV.F rfl rfl|exact RenV.P rfl|(refine RenV.sl _ _ _ _ _ _ _ (by decide) rfl ?_ ?_<;>(simp[encEs_map];done))|(refine RenV.sl _ _ _ _ _ _ _ (by decide) rfl ?_ ?_<;>(simp[encSs_map];done))|exact RenV.clean _ _ (cleanI _) rfl|exact RenV.clean _ _ (cleanEs _) rfl|exact RenV.clean _ _ (cleanSs _) rfl)) ?_));exact slotsRen.nil)) ?_
  rintro ⟨pre,rest,c⟩ ⟨h1,h2⟩
  dsimp only at h1 h2 ⊢;rcases rest with _|⟨⟨k,a,xs,th,el,no⟩,post⟩
  ·rw[List.append_nil] at h1;subst h1;have zb:=U.lt_no encSs_map pre;(repeat' ((conv=>whnf);first|refine goD ?_|refine U.lw_c ?_ ?_<;>intro hb))
   (conv=>whnf);exact .same (cleanI _) (by rw[← h2,cntSs];rfl)
  ·obtain ⟨hxs,ihx,iht,ihe⟩:=ih k a xs th el no (by rw[← h1];simp)
   subst h1;have zb:=U.lt_yes encSs_map pre (St.mk k a xs th el no) post;have zc:=U.blt_yes encSs_map pre (St.mk k a xs th el no) post;have zn:=U.nth_at encSs_map pre (St.mk k a xs th el no) post;have zw:=U.len_snoc (pre:=pre) (x:=St.mk k a xs th el no) (post:=post) (hl)
   (repeat' ((conv=>whnf);first|refine goD ?_|refine U.lw_c ?_ ?_<;>intro hb))
   ·have hcm:c≤m:=of_decide_eq_true hb;refine loop_inv (α:=List Ex×List Ex×Int) (fun x=>x.1++x.2.1=xs∧cntX x.2.1 m x.2.2=cntX xs m (IntKind.i64.wrap (c+1))) (fun x=>(mkF [(0,imS (encSs (pre++St.mk k a xs th el no::post))),(1,.int .i64 m),(2,.int .i64 d),(7,.int .i64 x.2.2),(8,.int .i64 pre.length),(9,.int .i64 x.1.length)],⟨mkO [],0,0,0⟩)) (fun x=>x.2.1.length) ([],xs,IntKind.i64.wrap (c+1)) ⟨rfl,rfl⟩ (Cov.renI rfl rfl rfl rfl (by (repeat (first|refine blksO.cons rfl (.cells _ _ _ _ (by (repeat (refine RenL.cons (by (first|(with_reducible exact RenV.clean _ _ (cleanI _) rfl)|(with_reducible exact RenV.clean _ _ (cleanEs _) rfl)|(with_reducible exact RenV.clean _ _ (cleanSs _) rfl)|exact RenV.clean _ _ (cleanI _) (congrArg (Value.int IntKind.i64) (Eq.symm (by with_reducible assumption)))|exact RenV.clean _ _ (cleanI _) (congrArg (Value.int IntKind.i64) (by with_reducible assumption))|(with_reducible exact RenV.F rfl rfl)|exact RenV.P rfl|exact RenV.ofRow (by decide) rfl rfl|exact RenV.F rfl rfl|exact RenV.P rfl|(refine RenV.sl _ _ _ _ _ _ _ (by decide) rfl ?_ ?_<;>(simp[encEs_map];done))|(refine RenV.sl _ _ _ _ _ _ _ (by decide) rfl ?_ ?_<;>(simp[encSs_map];done))|exact RenV.clean _ _ (cleanI _) rfl|exact RenV.clean _ _ (cleanEs _) rfl|exact RenV.clean _ _ (cleanSs _) rfl)) ?_));exact RenL.nil)) ?_|refine blksO.none ?_|exact blksO.nil))) (by (repeat (refine slotsRen.cons rfl (by (first|(with_reducible exact RenV.clean _ _ (cleanI _) rfl)|(with_reducible exact RenV.clean _ _ (cleanEs _) rfl)|(with_reducible exact RenV.clean _ _ (cleanSs _) rfl)|exact RenV.clean _ _ (cleanI _) (congrArg (Value.int IntKind.i64) (Eq.symm (by with_reducible assumption)))|exact RenV.clean _ _ (cleanI _) (congrArg (Value.int IntKind.i64) (by with_reducible assumption))|(with_reducible exact RenV.F rfl rfl)|exact RenV.P rfl|exact RenV.ofRow (by decide) rfl rfl|exact RenV.F rfl rfl|exact RenV.P rfl|(refine RenV.sl _ _ _ _ _ _ _ (by decide) rfl ?_ ?_<;>(simp[encEs_map];done))|(refine RenV.sl _ _ _ _ _ _ _ (by decide) rfl ?_ ?_<;>(simp[encSs_map];done))|exact RenV.clean _ _ (cleanI _) rfl|exact RenV.clean _ _ (cleanEs _) rfl|exact RenV.clean _ _ (cleanSs _) rfl)) ?_));exact slotsRen.nil)) ?_
    rintro ⟨pre2,rest2,c2⟩ ⟨h3,h4⟩
    dsimp only at h3 h4 ⊢;rcases rest2 with _|⟨⟨k1,n1,a1,o1,l1⟩,post2⟩
    ·rw[List.append_nil] at h3;subst h3;have yb:=U.lt_no encEs_map pre2;(repeat' ((conv=>whnf);first|refine goD ?_|refine ⟨_,iht _ _,clM,tab0 _,?_⟩|refine ⟨_,ihe _ _,clM,tab0 _,?_⟩|refine U.lw_c ?_ ?_<;>intro hb))
     (conv=>whnf);have hq:_=cntS (.mk k a pre2 th el no) m d c:=(cntS_eq k a no pre2 th el m d c).symm;rw[← h4,cntX,← hF] at hq;refine ⟨(pre++[.mk k a pre2 th el no],post,cntS (.mk k a pre2 th el no) m d c),⟨by simp,?_⟩,by simp,(Cov.renI rfl rfl rfl rfl (by (repeat (first|refine blksO.cons rfl (.cells _ _ _ _ (by (repeat (refine RenL.cons (by (first|(with_reducible exact RenV.clean _ _ (cleanI _) rfl)|(with_reducible exact RenV.clean _ _ (cleanEs _) rfl)|(with_reducible exact RenV.clean _ _ (cleanSs _) rfl)|exact RenV.clean _ _ (cleanI _) (congrArg (Value.int IntKind.i64) (Eq.symm (by with_reducible assumption)))|exact RenV.clean _ _ (cleanI _) (congrArg (Value.int IntKind.i64) (by with_reducible assumption))|(with_reducible exact RenV.F rfl rfl)|exact RenV.P rfl|exact RenV.ofRow (by decide) rfl rfl|exact RenV.F rfl rfl|exact RenV.P rfl|(refine RenV.sl _ _ _ _ _ _ _ (by decide) rfl ?_ ?_<;>(simp[encEs_map];done))|(refine RenV.sl _ _ _ _ _ _ _ (by decide) rfl ?_ ?_<;>(simp[encSs_map];done))|exact RenV.clean _ _ (cleanI _) rfl|exact RenV.clean _ _ (cleanEs _) rfl|exact RenV.clean _ _ (cleanSs _) rfl)) ?_));exact RenL.nil)) ?_|refine blksO.none ?_|exact blksO.nil))) (by (repeat (refine slotsRen.cons rfl (by (first|(with_reducible exact RenV.clean _ _ (cleanI _) rfl)|(with_reducible exact RenV.clean _ _ (cleanEs _) rfl)|(with_reducible exact RenV.clean _ _ (cleanSs _) rfl)|exact RenV.clean _ _ (cleanI _) (congrArg (Value.int IntKind.i64) (Eq.symm (by with_reducible assumption)))|exact RenV.clean _ _ (cleanI _) (congrArg (Value.int IntKind.i64) (by with_reducible assumption))|(with_reducible exact RenV.F rfl rfl)|exact RenV.P rfl|exact RenV.ofRow (by decide) rfl rfl|exact RenV.F rfl rfl|exact RenV.P rfl|(refine RenV.sl _ _ _ _ _ _ _ (by decide) rfl ?_ ?_<;>(simp[encEs_map];done))|(refine RenV.sl _ _ _ _ _ _ _ (by decide) rfl ?_ ?_<;>(simp[encSs_map];done))|exact RenV.clean _ _ (cleanI _) rfl|exact RenV.clean _ _ (cleanEs _) rfl|exact RenV.clean _ _ (cleanSs _) rfl)) ?_));exact slotsRen.nil))⟩
     rw[← h2,cntSs,if_pos hcm]
    ·subst h3;have yb:=U.lt_yes encEs_map pre2 (Ex.mk k1 n1 a1 o1 l1) post2;have yc:=U.blt_yes encEs_map pre2 (Ex.mk k1 n1 a1 o1 l1) post2;have yn:=U.nth_at encEs_map pre2 (Ex.mk k1 n1 a1 o1 l1) post2;have yw:=U.len_snoc (pre:=pre2) (x:=Ex.mk k1 n1 a1 o1 l1) (post:=post2) (hxs)
     have ihx:=ihx (.mk k1 n1 a1 o1 l1) (by simp)
     have hce:NoNm (encE (.mk k1 n1 a1 o1 l1)):=cleanE _;(repeat' ((conv=>whnf);first|refine goD ?_|refine ⟨_,ihx _ _,clM,tab0 _,?_⟩|refine ⟨_,iht _ _,clM,tab0 _,?_⟩|refine ⟨_,ihe _ _,clM,tab0 _,?_⟩|refine U.lw_c ?_ ?_<;>intro hb))
     ·(conv=>whnf);refine ⟨(pre2++[.mk k1 n1 a1 o1 l1],post2,IntKind.i64.wrap (c2+G (.mk k1 n1 a1 o1 l1) (IntKind.i64.wrap (m-c2)) 60)),⟨by simp,?_⟩,by simp,(Cov.renI rfl rfl rfl rfl (by (repeat (first|refine blksO.cons rfl (.cells _ _ _ _ (by (repeat (refine RenL.cons (by (first|(with_reducible exact RenV.clean _ _ (cleanI _) rfl)|(with_reducible exact RenV.clean _ _ (cleanEs _) rfl)|(with_reducible exact RenV.clean _ _ (cleanSs _) rfl)|exact RenV.clean _ _ (cleanI _) (congrArg (Value.int IntKind.i64) (Eq.symm (by with_reducible assumption)))|exact RenV.clean _ _ (cleanI _) (congrArg (Value.int IntKind.i64) (by with_reducible assumption))|(with_reducible exact RenV.F rfl rfl)|exact RenV.P rfl|exact RenV.ofRow (by decide) rfl rfl|exact RenV.F rfl rfl|exact RenV.P rfl|(refine RenV.sl _ _ _ _ _ _ _ (by decide) rfl ?_ ?_<;>(simp[encEs_map];done))|(refine RenV.sl _ _ _ _ _ _ _ (by decide) rfl ?_ ?_<;>(simp[encSs_map];done))|exact RenV.clean _ _ (cleanI _) rfl|exact RenV.clean _ _ (cleanEs _) rfl|exact RenV.clean _ _ (cleanSs _) rfl)) ?_));exact RenL.nil)) ?_|refine blksO.none ?_|exact blksO.nil))) (by (repeat (refine slotsRen.cons rfl (by (first|(with_reducible exact RenV.clean _ _ (cleanI _) rfl)|(with_reducible exact RenV.clean _ _ (cleanEs _) rfl)|(with_reducible exact RenV.clean _ _ (cleanSs _) rfl)|exact RenV.clean _ _ (cleanI _) (congrArg (Value.int IntKind.i64) (Eq.symm (by with_reducible assumption)))|exact RenV.clean _ _ (cleanI _) (congrArg (Value.int IntKind.i64) (by with_reducible assumption))|(with_reducible exact RenV.F rfl rfl)|exact RenV.P rfl|exact RenV.ofRow (by decide) rfl rfl|exact RenV.F rfl rfl|exact RenV.P rfl|(refine RenV.sl _ _ _ _ _ _ _ (by decide) rfl ?_ ?_<;>(simp[encEs_map];done))|(refine RenV.sl _ _ _ _ _ _ _ (by decide) rfl ?_ ?_<;>(simp[encSs_map];done))|exact RenV.clean _ _ (cleanI _) rfl|exact RenV.clean _ _ (cleanEs _) rfl|exact RenV.clean _ _ (cleanSs _) rfl)) ?_));exact slotsRen.nil))⟩
      rw[← h4,cntX,if_pos (of_decide_eq_true hb),← hG]
     ·(conv=>whnf);have hq:_=cntS (.mk k a (pre2++Ex.mk k1 n1 a1 o1 l1::post2) th el no) m d c:=(cntS_eq k a no (pre2++Ex.mk k1 n1 a1 o1 l1::post2) th el m d c).symm;rw[← h4,cntX,if_neg (of_decide_eq_false hb),← hF] at hq
      refine ⟨(pre++[.mk k a (pre2++Ex.mk k1 n1 a1 o1 l1::post2) th el no],post,cntS (.mk k a (pre2++Ex.mk k1 n1 a1 o1 l1::post2) th el no) m d c),⟨by simp,?_⟩,by simp,(Cov.renI rfl rfl rfl rfl (by (repeat (first|refine blksO.cons rfl (.cells _ _ _ _ (by (repeat (refine RenL.cons (by (first|(with_reducible exact RenV.clean _ _ (cleanI _) rfl)|(with_reducible exact RenV.clean _ _ (cleanEs _) rfl)|(with_reducible exact RenV.clean _ _ (cleanSs _) rfl)|exact RenV.clean _ _ (cleanI _) (congrArg (Value.int IntKind.i64) (Eq.symm (by with_reducible assumption)))|exact RenV.clean _ _ (cleanI _) (congrArg (Value.int IntKind.i64) (by with_reducible assumption))|(with_reducible exact RenV.F rfl rfl)|exact RenV.P rfl|exact RenV.ofRow (by decide) rfl rfl|exact RenV.F rfl rfl|exact RenV.P rfl|(refine RenV.sl _ _ _ _ _ _ _ (by decide) rfl ?_ ?_<;>(simp[encEs_map];done))|(refine RenV.sl _ _ _ _ _ _ _ (by decide) rfl ?_ ?_<;>(simp[encSs_map];done))|exact RenV.clean _ _ (cleanI _) rfl|exact RenV.clean _ _ (cleanEs _) rfl|exact RenV.clean _ _ (cleanSs _) rfl)) ?_));exact RenL.nil)) ?_|refine blksO.none ?_|exact blksO.nil))) (by (repeat (refine slotsRen.cons rfl (by (first|(with_reducible exact RenV.clean _ _ (cleanI _) rfl)|(with_reducible exact RenV.clean _ _ (cleanEs _) rfl)|(with_reducible exact RenV.clean _ _ (cleanSs _) rfl)|exact RenV.clean _ _ (cleanI _) (congrArg (Value.int IntKind.i64) (Eq.symm (by with_reducible assumption)))|exact RenV.clean _ _ (cleanI _) (congrArg (Value.int IntKind.i64) (by with_reducible assumption))|(with_reducible exact RenV.F rfl rfl)|exact RenV.P rfl|exact RenV.ofRow (by decide) rfl rfl|exact RenV.F rfl rfl|exact RenV.P rfl|(refine RenV.sl _ _ _ _ _ _ _ (by decide) rfl ?_ ?_<;>(simp[encEs_map];done))|(refine RenV.sl _ _ _ _ _ _ _ (by decide) rfl ?_ ?_<;>(simp[encSs_map];done))|exact RenV.clean _ _ (cleanI _) rfl|exact RenV.clean _ _ (cleanEs _) rfl|exact RenV.clean _ _ (cleanSs _) rfl)) ?_));exact slotsRen.nil))⟩
      rw[← h2,cntSs,if_pos hcm]
   ·(conv=>whnf);exact .same (cleanI _) (by rw[← h2,cntSs,if_neg (of_decide_eq_false hb)];rfl)
theorem wid {x:Int}(h1:-9223372036854775808≤x) (h2:x<9223372036854775808):IntKind.i64.wrap x=x:=by
 rw[IntKind.wrap_i64];omega
mutual
theorem cntE_few:∀(e:Ex) (m d:Int),0≤m->m≤1000->0≤cntE e m d∧cntE e m d≤m+1∧(cntE e m d≤m->cntE e m d=szE e)
 |.mk k n a o l,m,d,h0,h1=>by
  rw[cntE,szE];split
  ·rw[wid (by omega) (by omega)];omega
  ·have:=cntEs_few l m d 1 h0 h1 (by omega) (by omega)
   omega
theorem cntEs_few:∀(l:List Ex) (m d n:Int),0≤m->m≤1000->0≤n->n≤m+1->n≤cntEs l m d n∧cntEs l m d n≤m+1∧(cntEs l m d n≤m->cntEs l m d n=n+szEs l)
 |[],m,d,n,h0,h1,h2,h3=>by rw[cntEs,szEs];omega
 |e::l,m,d,n,h0,h1,h2,h3=>by
  rw[cntEs,szEs];split
  ·rename_i h4;rw[wid (x:=m-n) (by omega) (by omega)];have h5:=cntE_few e (m-n) (IntKind.i64.wrap (d-1)) (by omega) (by omega)
   rw[wid (by omega) (by omega)];have h6:=cntEs_few l m d (n+cntE e (m-n) (IntKind.i64.wrap (d-1))) h0 h1 (by omega) (by omega)
   omega
  ·omega
end
theorem cntX_few:∀(l:List Ex) (m n:Int),-1≤m->m≤1000->0≤n->n≤m+1->n≤cntX l m n∧cntX l m n≤m+1∧(cntX l m n≤m->cntX l m n=n+szEs l)
 |[],m,n,h0,h1,h2,h3=>by rw[cntX,szEs];omega
 |e::l,m,n,h0,h1,h2,h3=>by
  rw[cntX,szEs];split
  ·rename_i h4;rw[wid (x:=m-n) (by omega) (by omega)];have h5:=cntE_few e (m-n) 60 (by omega) (by omega)
   rw[wid (by omega) (by omega)];have h6:=cntX_few l m (n+cntE e (m-n) 60) h0 h1 (by omega) (by omega)
   omega
  ·omega
mutual
theorem cntS_few:∀(e:St) (m d n:Int),m≤1000->0≤n->n≤m->n≤cntS e m d n∧cntS e m d n≤m+1∧(cntS e m d n≤m->cntS e m d n=n+szS e)
 |.mk k a xs th el no,m,d,n,h1,h2,h3=>by
  rw[cntS_eq,szS,wid (x:=n+1) (by omega) (by omega)];have ha:=cntX_few xs m (n+1) (by omega) h1 (by omega) (by omega)
  generalize cntX xs m (n+1)=A at ha ⊢
  rw[wid (x:=m-A) (by omega) (by omega)];have hb:∀d',0≤cntL th (m-A) d'∧cntL th (m-A) d'≤m-A+1∧(cntL th (m-A) d'≤m-A->cntL th (m-A) d'=szSs th):=fun d'=>by
   rw[cntL];split
   ·rw[wid (by omega) (by omega)];omega
   ·have:=cntSs_few th (m-A) d' 0 (by omega) (by omega) (Int.le_refl _) (by omega)
    omega
  have hb:=hb (IntKind.i64.wrap (d-1));generalize cntL th (m-A) (IntKind.i64.wrap (d-1))=B at hb ⊢
  rw[wid (x:=A+B) (by omega) (by omega),wid (x:=m-(A+B)) (by omega) (by omega)];have hc:∀d',0≤cntL el (m-(A+B)) d'∧cntL el (m-(A+B)) d'≤m-(A+B)+1∧(cntL el (m-(A+B)) d'≤m-(A+B)->cntL el (m-(A+B)) d'=szSs el):=fun d'=>by
   rw[cntL];split
   ·rw[wid (by omega) (by omega)];omega
   ·have:=cntSs_few el (m-(A+B)) d' 0 (by omega) (by omega) (Int.le_refl _) (by omega)
    omega
  have hc:=hc (IntKind.i64.wrap (d-1));generalize cntL el (m-(A+B)) (IntKind.i64.wrap (d-1))=C at hc ⊢
  rw[wid (by omega) (by omega)];omega
theorem cntSs_few:∀(l:List St) (m d n:Int),-1≤m->m≤1000->0≤n->n≤m+1->n≤cntSs l m d n∧cntSs l m d n≤m+1∧(cntSs l m d n≤m->cntSs l m d n=n+szSs l)
 |[],m,d,n,h0,h1,h2,h3=>by rw[cntSs,szSs];omega
 |e::l,m,d,n,h0,h1,h2,h3=>by
  rw[cntSs,szSs];split
  ·rename_i h4;have h5:=cntS_few e m d n h1 h2 h4;have h6:=cntSs_few l m d (cntS e m d n) h0 h1 (by omega) (by omega)
   omega
  ·omega
end
theorem cntL_few (l:List St) (m d:Int) (h0:-1≤m) (h1:m≤1000):0≤cntL l m d∧cntL l m d≤m+1∧(cntL l m d≤m->cntL l m d=szSs l):=by
 rw[cntL];split
 ·rw[wid (by omega) (by omega)];omega
 ·have:=cntSs_few l m d 0 h0 h1 (Int.le_refl _) (by omega)
  omega
theorem irStmts_all:∀(N:Nat) (l:List St),szSs l≤N->okSs l->l.length≤maxI->∀m d,DenU Tryz.prog [] 21 [imS (encSs l),.int .i64 m,.int .i64 d] (.int .i64 (cntL l m d))
 |0,l,h0,hok,hl,m,d=>irStmts_d l hl (fun k a xs th el no hm=>by
  have:=szSs_mem hm;rw[szS] at this;omega) m d
 |N+1,l,h0,hok,hl,m,d=>irStmts_d l hl (fun k a xs th el no hm=>by
  have h1:=szSs_mem hm;rw[szS] at h1;have h2:=okSs_mem hok _ hm;rw[okS] at h2;exact ⟨h2.1,fun e he m d=>irExpr_all e (okEs_mem h2.2.1 e he) m d,fun m d=>irStmts_all N th (by omega) h2.2.2.2.1 h2.2.2.1 m d,fun m d=>irStmts_all N el (by omega) h2.2.2.2.2.2 h2.2.2.2.2.1 m d⟩) m d
end Go.Proofs.YtocppbocphnbcaaGreatDoor
