
import Derived.Test.YtnfppdblcmollaaGreatDoorTS22
import Derived.Test.YtnfppdblcmollaaGreatDoorTS33
namespace Go.Proofs.YtnfppdblcmollaaGreatDoor
open Go Go.RowKit Go.Sort U
set_option linter.unusedVariables false
set_option linter.unusedSimpArgs false
set_option maxRecDepth 100000
set_option maxHeartbeats 40000000
mutual
def cntE:Ex->Int->Int->Int
 |.mk _ _ _ _ l,m,d=>if d=0 then IntKind.i64.wrap (m+1) else cntEs l m d 1
def cntEs:List Ex->Int->Int->Int->Int
 |[],_,_,n=>n
 |e::l,m,d,n=>if n≤m then cntEs l m d (IntKind.i64.wrap (n+cntE e (IntKind.i64.wrap (m-n)) (IntKind.i64.wrap (d-1)))) else n
end
theorem irExpr_d (k n a o:Int) (l:List Ex) (hl:l.length≤maxI) (ih:∀e∈l,∀m d,DenU Tryz.prog [] 105 [encE e,.int .i64 m,.int .i64 d] (.int .i64 (cntE e m d))) (m d:Int):DenU Tryz.prog [] 105 [encE (.mk k n a o l),.int .i64 m,.int .i64 d] (.int .i64 (cntE (.mk k n a o l) m d)):=by
 refine denU_of_body hmixU rfl Tryz.func105 rfl rfl rfl 0 ?_;intro Ts;(conv=>whnf);(repeat ((first|refine goA ?_);(conv=>whnf)))
 refine U.lw_c (fun h=>?_) (fun h=>?_)
 ·(conv=>whnf);(repeat ((first|refine goA ?_);(conv=>whnf)))
  have hd:d=0:=by simpa using h
  rw[cntE,if_pos hd];exact .clean _ (cleanI _)
 ·have hd:¬d=0:=by simpa using h
  rw[cntE,if_neg hd];(conv=>whnf);(repeat ((first|refine goA ?_);(conv=>whnf)))
  refine loop_inv (α:=List Ex×List Ex×Int) (fun x=>x.1++x.2.1=l∧cntEs x.2.1 m d x.2.2=cntEs l m d 1) (fun x=>(mkF [(1,.int .i64 m),(2,.int .i64 d),(3,.pointer (some ⟨0,0,none⟩)),(7,.int .i64 x.2.2),(8,.int .i64 x.1.length)],_)) (fun x=>x.2.1.length) ([],l,1) ⟨rfl,rfl⟩ (Cov.slots rL ⟨rfl,rfl,rfl,rfl,rfl,trivial⟩) ?_
  rintro ⟨pre,rest,c⟩ ⟨h1,h2⟩
  dsimp only at h1 h2;(conv=>whnf);(repeat ((first|refine goA ?_);(conv=>whnf)))
  refine U.lw_c (fun h=>?_) (fun h=>?_)
  ·have h:=of_decide_eq_true h;dsimp only at h;rw[encEs_map,List.length_map,← h1,List.length_append] at h;cases rest with
   |nil=>simp at h
   |cons e post =>
   (conv=>whnf);(repeat ((first|refine goA ?_);(conv=>whnf)))
   refine U.lw_c (fun h3=>?_) (fun h3=>?_)
   ·replace h3:c≤m:=of_decide_eq_true h3;(conv=>whnf);(repeat ((first|refine goA ?_);(conv=>whnf)))
    refine ⟨bLe (by
     show pre.length+1≤(encEs l).length
     rw[encEs_map,List.length_map,← h1];simp),?_⟩
    (conv=>whnf);(repeat ((first|refine goA ?_);(conv=>whnf)))
    refine ⟨encE e,by
     show nth (encEs l) pre.length=_
     have:=nth_mid (encE e) (pre.map encE) (post.map encE);rw[List.length_map] at this;rw[encEs_map,← h1,List.map_append,List.map_cons];exact this,?_⟩
    obtain ⟨k1,n1,a1,o1,l1⟩:=e;(conv=>whnf);(repeat ((first|refine goA ?_);(conv=>whnf)))
    refine ⟨_,ih (.mk k1 n1 a1 o1 l1) (by rw[← h1];simp) _ _,⟨cleanE (.mk k1 n1 a1 o1 l1),cleanI _,cleanI _,trivial⟩,tab0 _,?_⟩
    (conv=>whnf);(repeat ((first|refine goA ?_);(conv=>whnf)))
    refine ⟨(pre++[.mk k1 n1 a1 o1 l1],post,IntKind.i64.wrap (c+cntE (.mk k1 n1 a1 o1 l1) (IntKind.i64.wrap (m-c)) (IntKind.i64.wrap (d-1)))),⟨by rw[← h1];simp,?_⟩,by simp,Cov.slots rL ⟨rfl,rfl,rfl,rfl,?_,trivial⟩⟩
    ·rw[← h2,cntEs,if_pos h3]
    ·have hlen:pre.length<9223372036854775807:=by
      have:l.length≤maxI:=hl;unfold maxI at this;rw[← h1,List.length_append,List.length_cons] at this;omega
     show some (Value.int .i64 (IntKind.i64.wrap ((pre.length:Int)+1)))=some (.int .i64 ((pre++[Ex.mk k1 n1 a1 o1 l1]).length:Int))
     rw[wadd1 hlen,List.length_append];rfl
   ·(conv=>whnf);(repeat ((first|refine goA ?_);(conv=>whnf)))
    replace h3:¬c≤m:=of_decide_eq_false h3;exact .same (cleanI _) (by rw[← h2,cntEs,if_neg h3];rfl)
  ·have h:=of_decide_eq_false h;dsimp only at h;rw[encEs_map,List.length_map,← h1,List.length_append] at h;have hr:rest=[]:=List.eq_nil_of_length_eq_zero (by omega)
   subst hr;(conv=>whnf);(repeat ((first|refine goA ?_);(conv=>whnf)))
   exact .same (cleanI _) (by rw[← h2,cntEs];rfl)
theorem irExpr_all:∀(e:Ex),okE e->∀m d,DenU Tryz.prog [] 105 [encE e,.int .i64 m,.int .i64 d] (.int .i64 (cntE e m d))
 |.mk k n a o l,h,m,d=>by
  rw[okE] at h;exact irExpr_d k n a o l h.1 (fun e he m d=>irExpr_all e (okEs_mem h.2 e he) m d) m d
def cntX:List Ex->Int->Int->Int
 |[],_,n=>n
 |e::l,m,n=>if n≤m then cntX l m (IntKind.i64.wrap (n+cntE e (IntKind.i64.wrap (m-n)) 60)) else n
mutual
def cntS:St->Int->Int->Int->Int
 |.mk _ _ xs th el _,m,d,n =>
  let a:=cntX xs m (IntKind.i64.wrap (n+1))
  let b:=IntKind.i64.wrap (a+if IntKind.i64.wrap (d-1)=0 then IntKind.i64.wrap (IntKind.i64.wrap (m-a)+1) else cntSs th (IntKind.i64.wrap (m-a)) (IntKind.i64.wrap (d-1)) 0)
  IntKind.i64.wrap (b+if IntKind.i64.wrap (d-1)=0 then IntKind.i64.wrap (IntKind.i64.wrap (m-b)+1) else cntSs el (IntKind.i64.wrap (m-b)) (IntKind.i64.wrap (d-1)) 0)
def cntSs:List St->Int->Int->Int->Int
 |[],_,_,n=>n
 |e::l,m,d,n=>if n≤m then cntSs l m d (cntS e m d n) else n
end
def cntL (l:List St) (m d:Int):Int:=if d=0 then IntKind.i64.wrap (m+1) else cntSs l m d 0
theorem cntS_eq (k a no:Int) (xs:List Ex) (th el:List St) (m d n:Int):cntS (.mk k a xs th el no) m d n=IntKind.i64.wrap (IntKind.i64.wrap (cntX xs m (IntKind.i64.wrap (n+1))+cntL th (IntKind.i64.wrap (m-cntX xs m (IntKind.i64.wrap (n+1)))) (IntKind.i64.wrap (d-1)))+cntL el (IntKind.i64.wrap (m-IntKind.i64.wrap (cntX xs m (IntKind.i64.wrap (n+1))+cntL th (IntKind.i64.wrap (m-cntX xs m (IntKind.i64.wrap (n+1)))) (IntKind.i64.wrap (d-1))))) (IntKind.i64.wrap (d-1))):=by
 rw[cntS];rfl
theorem irStmts_d (l:List St) (hl:l.length≤maxI) (ih:∀k a xs th el no,St.mk k a xs th el no∈l->xs.length≤maxI∧(∀e∈xs,∀m d,DenU Tryz.prog [] 105 [encE e,.int .i64 m,.int .i64 d] (.int .i64 (cntE e m d)))∧(∀m d,DenU Tryz.prog [] 41 [imS (encSs th),.int .i64 m,.int .i64 d] (.int .i64 (cntL th m d)))∧∀m d,DenU Tryz.prog [] 41 [imS (encSs el),.int .i64 m,.int .i64 d] (.int .i64 (cntL el m d))) (m d:Int):DenU Tryz.prog [] 41 [imS (encSs l),.int .i64 m,.int .i64 d] (.int .i64 (cntL l m d)):=by
 refine denU_of_body hmixU rfl Tryz.func41 rfl rfl rfl 0 ?_;intro Ts;obtain ⟨F,hF⟩:∃F:List St->Int->Int->Int,F=cntL:=⟨_,rfl⟩
 obtain ⟨G,hG⟩:∃G:Ex->Int->Int->Int,G=cntE:=⟨_,rfl⟩
 simp only[← hF,← hG] at ih;(repeat' ((conv=>whnf);first|refine goD ?_|refine U.lw_c ?_ ?_<;>intro hb))
 ·(conv=>whnf);have hd:d=0:=by simpa using hb
  rw[cntL,if_pos hd];exact .clean _ (cleanI _)
 ·have hd:¬d=0:=by simpa using hb
  rw[cntL,if_neg hd];refine loop_inv (α:=List St×List St×Int) (fun x=>x.1++x.2.1=l∧cntSs x.2.1 m d x.2.2=cntSs l m d 0) (fun x=>(mkF [(0,imS (encSs l)),(1,.int .i64 m),(2,.int .i64 d),(7,.int .i64 x.2.2),(8,.int .i64 x.1.length)],⟨mkO [],0,0,0⟩)) (fun x=>x.2.1.length) ([],l,0) ⟨rfl,rfl⟩ (Cov.renI rfl rfl rfl rfl (by (repeat (first|refine blksO.cons rfl (.cells _ _ _ _ (by (repeat (refine RenL.cons (by (first|(with_reducible exact RenV.clean _ _ (cleanI _) rfl)|(with_reducible exact RenV.clean _ _ (cleanEs _) rfl)|(with_reducible exact RenV.clean _ _ (cleanSs _) rfl)|exact RenV.clean _ _ (cleanI _) (congrArg (Value.int IntKind.i64) (Eq.symm (by with_reducible assumption)))|exact RenV.clean _ _ (cleanI _) (congrArg (Value.int IntKind.i64) (by with_reducible assumption))|(with_reducible exact RenV.F rfl rfl)|exact RenV.P rfl|exact RenV.ofRow (by decide) rfl rfl|exact RenV.F rfl rfl|exact RenV.P rfl|(refine RenV.sl _ _ _ _ _ _ _ (by decide) rfl ?_ ?_<;>(simp[encEs_map];done))|(refine RenV.sl _ _ _ _ _ _ _ (by decide) rfl ?_ ?_<;>(simp[encSs_map];done))|exact RenV.clean _ _ (cleanI _) rfl|exact RenV.clean _ _ (cleanEs _) rfl|exact RenV.clean _ _ (cleanSs _) rfl)) ?_));exact RenL.nil)) ?_|refine blksO.none ?_|exact blksO.nil))) (by (repeat (refine slotsRen.cons rfl (by (first|(with_reducible exact RenV.clean _ _ (cleanI _) rfl)|(with_reducible exact RenV.clean _ _ (cleanEs _) rfl)|(with_reducible exact RenV.clean _ _ (cleanSs _) rfl)|exact RenV.clean _ _ (cleanI _) (congrArg (Value.int IntKind.i64) (Eq.symm (by with_reducible assumption)))|exact RenV.clean _ _ (cleanI _) (congrArg (Value.int IntKind.i64) (by with_reducible assumption))|(with_reducible exact RenV.F rfl rfl)|exact RenV.P rfl|exact RenV.ofRow (by decide) rfl rfl|exact RenV.F rfl rfl|exact RenV.P rfl|(refine RenV.sl _ _ _ _ _ _ _ (by decide) rfl ?_ ?_<;>(simp[encEs_map];done))|(refine RenV.sl _ _ _ _ _ _ _ (by decide) rfl ?_ ?_<;>(simp[encSs_map];done))|exact RenV.clean _ _ (cleanI _) rfl|exact RenV.clean _ _ (cleanEs _) rfl|exact RenV.clean _ _ (cleanSs _) rfl)) ?_));exact slotsRen.nil)) ?_
  rintro ⟨pre,rest,c⟩ ⟨h1,h2⟩
  dsimp only at h1 h2 ⊢;rcases rest with _|⟨⟨k,a,xs,th,el,no⟩,post⟩
  ·rw[List.append_nil] at h1;subst h1;have zb:=U.lt_no encSs_map pre;(repeat' ((conv=>whnf);first|refine goD ?_|refine U.lw_c ?_ ?_<;>intro hb))
   (conv=>whnf);exact .same (cleanI _) (by rw[← h2,cntSs];rfl)
  ·obtain ⟨hxs,ihx,iht,ihe⟩:=ih k a xs th el no (by rw[← h1];simp)
   subst h1;have zb:=U.lt_yes encSs_map pre (St.mk k a xs th el no) post;have zc:=U.blt_yes encSs_map pre (St.mk k a xs th el no) post;have zn:=U.nth_at encSs_map pre (St.mk k a xs th el no) post;have zw:=U.len_snoc (pre:=pre) (x:=St.mk k a xs th el no) (post:=post) (hl)
   (repeat' ((conv=>whnf);first|refine goD ?_|refine U.lw_c ?_ ?_<;>intro hb))
   ·have hcm:c≤m:=of_decide_eq_true hb;refine loop_inv (α:=List Ex×List Ex×Int) (fun x=>x.1++x.2.1=xs∧cntX x.2.1 m x.2.2=cntX xs m (IntKind.i64.wrap (c+1))) (fun x=>(mkF [(0,imS (encSs (pre++St.mk k a xs th el no::post))),(1,.int .i64 m),(2,.int .i64 d),(7,.int .i64 x.2.2),(8,.int .i64 pre.length),(9,.int .i64 x.1.length)],⟨mkO [],0,0,0⟩)) (fun x=>x.2.1.length) ([],xs,IntKind.i64.wrap (c+1)) ⟨rfl,rfl⟩ (Cov.renI rfl rfl rfl rfl (by (repeat (first|refine blksO.cons rfl (.cells _ _ _ _ (by (repeat (refine RenL.cons (by (first|(with_reducible exact RenV.clean _ _ (cleanI _) rfl)|(with_reducible exact RenV.clean _ _ (cleanEs _) rfl)|(with_reducible exact RenV.clean _ _ (cleanSs _) rfl)|exact RenV.clean _ _ (cleanI _) (congrArg (Value.int IntKind.i64) (Eq.symm (by with_reducible assumption)))|exact RenV.clean _ _ (cleanI _) (congrArg (Value.int IntKind.i64) (by with_reducible assumption))|(with_reducible exact RenV.F rfl rfl)|exact RenV.P rfl|exact RenV.ofRow (by decide) rfl rfl|exact RenV.F rfl rfl|exact RenV.P rfl|(refine RenV.sl _ _ _ _ _ _ _ (by decide) rfl ?_ ?_<;>(simp[encEs_map];done))|(refine RenV.sl _ _ _ _ _ _ _ (by decide) rfl ?_ ?_<;>(simp[encSs_map];done))|exact RenV.clean _ _ (cleanI _) rfl|exact RenV.clean _ _ (cleanEs _) rfl|exact RenV.clean _ _ (cleanSs _) rfl)) ?_));exact RenL.nil)) ?_|refine blksO.none ?_|exact blksO.nil))) (by (repeat (refine slotsRen.cons rfl (by (first|(with_reducible exact RenV.clean _ _ (cleanI _) rfl)|(with_reducible exact RenV.clean _ _ (cleanEs _) rfl)|(with_reducible exact RenV.clean _ _ (cleanSs _) rfl)|exact RenV.clean _ _ (cleanI _) (congrArg (Value.int IntKind.i64) (Eq.symm (by with_reducible assumption)))|exact RenV.clean _ _ (cleanI _) (congrArg (Value.int IntKind.i64) (by with_reducible assumption))|(with_reducible exact RenV.F rfl rfl)|exact RenV.P rfl|exact RenV.ofRow (by decide) rfl rfl|exact RenV.F rfl rfl|exact RenV.P rfl|(refine RenV.sl _ _ _ _ _ _ _ (by decide) rfl ?_ ?_<;>(simp[encEs_map];done))|(refine RenV.sl _ _ _ _ _ _ _ (by decide) rfl ?_ ?_<;>(simp[encSs_map];done))|exact RenV.clean _ _ (cleanI _) rfl|exact RenV.clean _ _ (cleanEs _) rfl|exact RenV.clean _ _ (cleanSs _) rfl)) ?_));exact slotsRen.nil)) ?_
    rintro ⟨pre2,rest2,c2⟩ ⟨h3,h4⟩
    dsimp only at h3 h4 ⊢;rcases rest2 with _|⟨⟨k1,n1,a1,o1,l1⟩,post2⟩
    ·rw[List.append_nil] at h3;subst h3;have yb:=U.lt_no encEs_map pre2;(repeat' ((conv=>whnf);first|refine goD ?_|refine ⟨_,iht _ _,clM,tab0 _,?_⟩|refine ⟨_,ihe _ _,clM,tab0 _,?_⟩|refine U.lw_c ?_ ?_<;>intro hb))
     (conv=>whnf);have hq:_=cntS (.mk k a pre2 th el no) m d c:=(cntS_eq k a no pre2 th el m d c).symm;rw[← h4,cntX,← hF] at hq;refine ⟨(pre++[.mk k a pre2 th el no],post,cntS (.mk k a pre2 th el no) m d c),⟨by simp,?_⟩,by simp,(Cov.renI rfl rfl rfl rfl (by (repeat (first|refine blksO.cons rfl (.cells _ _ _ _ (by (repeat (refine RenL.cons (by (first|(with_reducible exact RenV.clean _ _ (cleanI _) rfl)|(with_reducible exact RenV.clean _ _ (cleanEs _) rfl)|(with_reducible exact RenV.clean _ _ (cleanSs _) rfl)|exact RenV.clean _ _ (cleanI _) (congrArg (Value.int IntKind.i64) (Eq.symm (by with_reducible assumption)))|exact RenV.clean _ _ (cleanI _) (congrArg (Value.int IntKind.i64) (by with_reducible assumption))|(with_reducible exact RenV.F rfl rfl)|exact RenV.P rfl|exact RenV.ofRow (by decide) rfl rfl|exact RenV.F rfl rfl|exact RenV.P rfl|(refine RenV.sl _ _ _ _ _ _ _ (by decide) rfl ?_ ?_<;>(simp[encEs_map];done))|(refine RenV.sl _ _ _ _ _ _ _ (by decide) rfl ?_ ?_<;>(simp[encSs_map];done))|exact RenV.clean _ _ (cleanI _) rfl|exact RenV.clean _ _ (cleanEs _) rfl|exact RenV.clean _ _ (cleanSs _) rfl)) ?_));exact RenL.nil)) ?_|refine blksO.none ?_|exact blksO.nil))) (by (repeat (refine slotsRen.cons rfl (by (first|(with_reducible exact RenV.clean _ _ (cleanI _) rfl)|(with_reducible exact RenV.clean _ _ (cleanEs _) rfl)|(with_reducible exact RenV.clean _ _ (cleanSs _) rfl)|exact RenV.clean _ _ (cleanI _) (congrArg (Value.int IntKind.i64) (Eq.symm (by with_reducible assumption)))|exact RenV.clean _ _ (cleanI _) (congrArg (Value.int IntKind.i64) (by with_reducible assumption))|(with_reducible exact RenV.F rfl rfl)|exact RenV.P rfl|exact RenV.ofRow (by decide) rfl rfl|exact RenV.F rfl rfl|exact RenV.P rfl|(refine RenV.sl _ _ _ _ _ _ _ (by decide) rfl ?_ ?_<;>(simp[encEs_map];done))|(refine RenV.sl _ _ _ _ _ _ _ (by decide) rfl ?_ ?_<;>(simp[encSs_map];done))|exact RenV.clean _ _ (cleanI _) rfl|exact RenV.clean _ _ (cleanEs _) rfl|exact RenV.clean _ _ (cleanSs _) rfl)) ?_));exact slotsRen.nil))⟩
     rw[← h2,cntSs,if_pos hcm]
    ·subst h3;have yb:=U.lt_yes encEs_map pre2 (Ex.mk k1 n1 a1 o1 l1) post2;have yc:=U.blt_yes encEs_map pre2 (Ex.mk k1 n1 a1 o1 l1) post2;have yn:=U.nth_at encEs_map pre2 (Ex.mk k1 n1 a1 o1 l1) post2;have yw:=U.len_snoc (pre:=pre2) (x:=Ex.mk k1 n1 a1 o1 l1) (post:=post2) (hxs)
     have ihx:=ihx (.mk k1 n1 a1 o1 l1) (by simp)
     have hce:NoNm (encE (.mk k1 n1 a1 o1 l1)):=cleanE _;(repeat' ((conv=>whnf);first|refine goD ?_|refine ⟨_,ihx _ _,clM,tab0 _,?_⟩|refine ⟨_,iht _ _,clM,tab0 _,?_⟩|refine ⟨_,ihe _ _,clM,tab0 _,?_⟩|refine U.lw_c ?_ ?_<;>intro hb))
     ·(conv=>whnf);refine ⟨(pre2++[.mk k1 n1 a1 o1 l1],post2,IntKind.i64.wrap (c2+G (.mk k1 n1 a1 o1 l1) (IntKind.i64.wrap (m-c2)) 60)),⟨by simp,?_⟩,by simp,(Cov.renI rfl rfl rfl rfl (by (repeat (first|refine blksO.cons rfl (.cells _ _ _ _ (by (repeat (refine RenL.cons (by (first|(with_reducible exact RenV.clean _ _ (cleanI _) rfl)|(with_reducible exact RenV.clean _ _ (cleanEs _) rfl)|(with_reducible exact RenV.clean _ _ (cleanSs _) rfl)|exact RenV.clean _ _ (cleanI _) (congrArg (Value.int IntKind.i64) (Eq.symm (by with_reducible assumption)))|exact RenV.clean _ _ (cleanI _) (congrArg (Value.int IntKind.i64) (by with_reducible assumption))|(with_reducible exact RenV.F rfl rfl)|exact RenV.P rfl|exact RenV.ofRow (by decide) rfl rfl|exact RenV.F rfl rfl|exact RenV.P rfl|(refine RenV.sl _ _ _ _ _ _ _ (by decide) rfl ?_ ?_<;>(simp[encEs_map];done))|(refine RenV.sl _ _ _ _ _ _ _ (by decide) rfl ?_ ?_<;>(simp[encSs_map];done))|exact RenV.clean _ _ (cleanI _) rfl|exact RenV.clean _ _ (cleanEs _) rfl|exact RenV.clean _ _ (cleanSs _) rfl)) ?_));exact RenL.nil)) ?_|refine blksO.none ?_|exact blksO.nil))) (by (repeat (refine slotsRen.cons rfl (by (first|(with_reducible exact RenV.clean _ _ (cleanI _) rfl)|(with_reducible exact RenV.clean _ _ (cleanEs _) rfl)|(with_reducible exact RenV.clean _ _ (cleanSs _) rfl)|exact RenV.clean _ _ (cleanI _) (congrArg (Value.int IntKind.i64) (Eq.symm (by with_reducible assumption)))|exact RenV.clean _ _ (cleanI _) (congrArg (Value.int IntKind.i64) (by with_reducible assumption))|(with_reducible exact RenV.F rfl rfl)|exact RenV.P rfl|exact RenV.ofRow (by decide) rfl rfl|exact RenV.F rfl rfl|exact RenV.P rfl|(refine RenV.sl _ _ _ _ _ _ _ (by decide) rfl ?_ ?_<;>(simp[encEs_map];done))|(refine RenV.sl _ _ _ _ _ _ _ (by decide) rfl ?_ ?_<;>(simp[encSs_map];done))|exact RenV.clean _ _ (cleanI _) rfl|exact RenV.clean _ _ (cleanEs _) rfl|exact RenV.clean _ _ (cleanSs _) rfl)) ?_));exact slotsRen.nil))⟩
      rw[← h4,cntX,if_pos (of_decide_eq_true hb),← hG]
     ·(conv=>whnf);have hq:_=cntS (.mk k a (pre2++Ex.mk k1 n1 a1 o1 l1::post2) th el no) m d c:=(cntS_eq k a no (pre2++Ex.mk k1 n1 a1 o1 l1::post2) th el m d c).symm;rw[← h4,cntX,if_neg (of_decide_eq_false hb),← hF] at hq
      refine ⟨(pre++[.mk k a (pre2++Ex.mk k1 n1 a1 o1 l1::post2) th el no],post,cntS (.mk k a (pre2++Ex.mk k1 n1 a1 o1 l1::post2) th el no) m d c),⟨by simp,?_⟩,by simp,(Cov.renI rfl rfl rfl rfl (by (repeat (first|refine blksO.cons rfl (.cells _ _ _ _ (by (repeat (refine RenL.cons (by (first|(with_reducible exact RenV.clean _ _ (cleanI _) rfl)|(with_reducible exact RenV.clean _ _ (cleanEs _) rfl)|(with_reducible exact RenV.clean _ _ (cleanSs _) rfl)|exact RenV.clean _ _ (cleanI _) (congrArg (Value.int IntKind.i64) (Eq.symm (by with_reducible assumption)))|exact RenV.clean _ _ (cleanI _) (congrArg (Value.int IntKind.i64) (by with_reducible assumption))|(with_reducible exact RenV.F rfl rfl)|exact RenV.P rfl|exact RenV.ofRow (by decide) rfl rfl|exact RenV.F rfl rfl|exact RenV.P rfl|(refine RenV.sl _ _ _ _ _ _ _ (by decide) rfl ?_ ?_<;>(simp[encEs_map];done))|(refine RenV.sl _ _ _ _ _ _ _ (by decide) rfl ?_ ?_<;>(simp[encSs_map];done))|exact RenV.clean _ _ (cleanI _) rfl|exact RenV.clean _ _ (cleanEs _) rfl|exact RenV.clean _ _ (cleanSs _) rfl)) ?_));exact RenL.nil)) ?_|refine blksO.none ?_|exact blksO.nil))) (by (repeat (refine slotsRen.cons rfl (by (first|(with_reducible exact RenV.clean _ _ (cleanI _) rfl)|(with_reducible exact RenV.clean _ _ (cleanEs _) rfl)|(with_reducible exact RenV.clean _ _ (cleanSs _) rfl)|exact RenV.clean _ _ (cleanI _) (congrArg (Value.int IntKind.i64) (Eq.symm (by with_reducible assumption)))|exact RenV.clean _ _ (cleanI _) (congrArg (Value.int IntKind.i64) (by with_reducible assumption))|(with_reducible exact RenV.F rfl rfl)|exact RenV.P rfl|exact RenV.ofRow (by decide) rfl rfl|exact RenV.F rfl rfl|exact RenV.P rfl|(refine RenV.sl _ _ _ _ _ _ _ (by decide) rfl ?_ ?_<;>(simp[encEs_map];done))|(refine RenV.sl _ _ _ _ _ _ _ (by decide) rfl ?_ ?_<;>(simp[encSs_map];done))|exact RenV.clean _ _ (cleanI _) rfl|exact RenV.clean _ _ (cleanEs _) rfl|exact RenV.clean _ _ (cleanSs _) rfl)) ?_));exact slotsRen.nil))⟩
      rw[← h2,cntSs,if_pos hcm]
   ·(conv=>whnf);exact .same (cleanI _) (by rw[← h2,cntSs,if_neg (of_decide_eq_false hb)];rfl)
theorem wid {x:Int}(h1:-9223372036854775808≤x) (h2:x<9223372036854775808):IntKind.i64.wrap x=x:=by
 rw[IntKind.wrap_i64];omega
mutual
theorem cntE_few:∀(e:Ex) (m d:Int),0≤m->m≤1000->0≤cntE e m d∧cntE e m d≤m+1∧(cntE e m d≤m->cntE e m d=szE e)
 |.mk k n a o l,m,d,h0,h1=>by
  rw[cntE,szE];split
  ·rw[wid (by omega) (by omega)];omega
  ·have:=cntEs_few l m d 1 h0 h1 (by omega) (by omega)
   omega
theorem cntEs_few:∀(l:List Ex) (m d n:Int),0≤m->m≤1000->0≤n->n≤m+1->n≤cntEs l m d n∧cntEs l m d n≤m+1∧(cntEs l m d n≤m->cntEs l m d n=n+szEs l)
 |[],m,d,n,h0,h1,h2,h3=>by rw[cntEs,szEs];omega
 |e::l,m,d,n,h0,h1,h2,h3=>by
  rw[cntEs,szEs];split
  ·rename_i h4;rw[wid (x:=m-n) (by omega) (by omega)];have h5:=cntE_few e (m-n) (IntKind.i64.wrap (d-1)) (by omega) (by omega)
   rw[wid (by omega) (by omega)];have h6:=cntEs_few l m d (n+cntE e (m-n) (IntKind.i64.wrap (d-1))) h0 h1 (by omega) (by omega)
   omega
  ·omega
end
theorem cntX_few:∀(l:List Ex) (m n:Int),-1≤m->m≤1000->0≤n->n≤m+1->n≤cntX l m n∧cntX l m n≤m+1∧(cntX l m n≤m->cntX l m n=n+szEs l)
 |[],m,n,h0,h1,h2,h3=>by rw[cntX,szEs];omega
 |e::l,m,n,h0,h1,h2,h3=>by
  rw[cntX,szEs];split
  ·rename_i h4;rw[wid (x:=m-n) (by omega) (by omega)];have h5:=cntE_few e (m-n) 60 (by omega) (by omega)
   rw[wid (by omega) (by omega)];have h6:=cntX_few l m (n+cntE e (m-n) 60) h0 h1 (by omega) (by omega)
   omega
  ·omega
mutual
theorem cntS_few:∀(e:St) (m d n:Int),m≤1000->0≤n->n≤m->n≤cntS e m d n∧cntS e m d n≤m+1∧(cntS e m d n≤m->cntS e m d n=n+szS e)
 |.mk k a xs th el no,m,d,n,h1,h2,h3=>by
  rw[cntS_eq,szS,wid (x:=n+1) (by omega) (by omega)];have ha:=cntX_few xs m (n+1) (by omega) h1 (by omega) (by omega)
  generalize cntX xs m (n+1)=A at ha ⊢
  rw[wid (x:=m-A) (by omega) (by omega)];have hb:∀d',0≤cntL th (m-A) d'∧cntL th (m-A) d'≤m-A+1∧(cntL th (m-A) d'≤m-A->cntL th (m-A) d'=szSs th):=fun d'=>by
   rw[cntL];split
   ·rw[wid (by omega) (by omega)];omega
   ·have:=cntSs_few th (m-A) d' 0 (by omega) (by omega) (Int.le_refl _) (by omega)
    omega
  have hb:=hb (IntKind.i64.wrap (d-1));generalize cntL th (m-A) (IntKind.i64.wrap (d-1))=B at hb ⊢
  rw[wid (x:=A+B) (by omega) (by omega),wid (x:=m-(A+B)) (by omega) (by omega)];have hc:∀d',0≤cntL el (m-(A+B)) d'∧cntL el (m-(A+B)) d'≤m-(A+B)+1∧(cntL el (m-(A+B)) d'≤m-(A+B)->cntL el (m-(A+B)) d'=szSs el):=fun d'=>by
   rw[cntL];split
   ·rw[wid (by omega) (by omega)];omega
   ·have:=cntSs_few el (m-(A+B)) d' 0 (by omega) (by omega) (Int.le_refl _) (by omega)
    omega
  have hc:=hc (IntKind.i64.wrap (d-1));generalize cntL el (m-(A+B)) (IntKind.i64.wrap (d-1))=C at hc ⊢
  rw[wid (by omega) (by omega)];omega
theorem cntSs_few:∀(l:List St) (m d n:Int),-1≤m->m≤1000->0≤n->n≤m+1->n≤cntSs l m d n∧cntSs l m d n≤m+1∧(cntSs l m d n≤m->cntSs l m d n=n+szSs l)
 |[],m,d,n,h0,h1,h2,h3=>by rw[cntSs,szSs];omega
 |e::l,m,d,n,h0,h1,h2,h3=>by
  rw[cntSs,szSs];split
  ·rename_i h4;have h5:=cntS_few e m d n h1 h2 h4;have h6:=cntSs_few l m d (cntS e m d n) h0 h1 (by omega) (by omega)
   omega
  ·omega
end
theorem cntL_few (l:List St) (m d:Int) (h0:-1≤m) (h1:m≤1000):0≤cntL l m d∧cntL l m d≤m+1∧(cntL l m d≤m->cntL l m d=szSs l):=by
 rw[cntL];split
 ·rw[wid (by omega) (by omega)];omega
 ·have:=cntSs_few l m d 0 h0 h1 (Int.le_refl _) (by omega)
  omega
theorem irStmts_all:∀(N:Nat) (l:List St),szSs l≤N->okSs l->l.length≤maxI->∀m d,DenU Tryz.prog [] 41 [imS (encSs l),.int .i64 m,.int .i64 d] (.int .i64 (cntL l m d))
 |0,l,h0,hok,hl,m,d=>irStmts_d l hl (fun k a xs th el no hm=>by
  have:=szSs_mem hm;rw[szS] at this;omega) m d
 |N+1,l,h0,hok,hl,m,d=>irStmts_d l hl (fun k a xs th el no hm=>by
  have h1:=szSs_mem hm;rw[szS] at h1;have h2:=okSs_mem hok _ hm;rw[okS] at h2;exact ⟨h2.1,fun e he m d=>irExpr_all e (okEs_mem h2.2.1 e he) m d,fun m d=>irStmts_all N th (by omega) h2.2.2.2.1 h2.2.2.1 m d,fun m d=>irStmts_all N el (by omega) h2.2.2.2.2.2 h2.2.2.2.2.1 m d⟩) m d
structure OkP (p:Pg):Prop where
 arrs:p.arrs.length≤maxI
 ins:p.ins.length≤maxI
 procs:p.procs.length≤maxI
 bodies:∀x∈p.procs,okSs x.body∧x.body.length≤maxI∧x.ps.length≤maxI
 main:okSs p.main∧p.main.length≤maxI
def fewGo:List Pr13->Int->Int->Bool
 |[],m,n=>decide (n≤m)
 |x::l,m,n=>if n≤m then (if 20<x.ps.length then false else fewGo l m (IntKind.i64.wrap (n+cntL x.body (IntKind.i64.wrap (m-n)) 30))) else false
def fewP (p:Pg) (m:Int):Bool:=if 20<p.arrs.length∨20<p.ins.length∨20<p.procs.length then false else fewGo p.procs m (cntL p.main m 30)
theorem fewIr_d (p:Pg) (m:Int) (hok:OkP p):DenU Tryz.prog [] 6 [encP p,.int .i64 m] (.bool (fewP p m)):=by
 refine denU_of_body hmixU rfl Tryz.func6 rfl rfl rfl 0 ?_;intro Ts;obtain ⟨o1,o2,o3,o4,o5,o6⟩:=hok;obtain ⟨sl,arrs,ins,procs,main⟩:=p;dsimp only at *;have e1:=iL_len arrs;have e2:=inL_len ins;have e3:=prL_len procs
 have c1:=irStmts_all (szSs main) main rL o5 o6 m 30;have hcl:=cleanSs main;by_cases hbig:20<arrs.length∨20<ins.length∨20<procs.length
 ·rw[show fewP ⟨sl,arrs,ins,procs,main⟩ m=false from if_pos hbig]
  generalize cntL main m 30=c0 at c1
  by_cases b1:20<arrs.length
  ·have g1:decide (((iL arrs).length:Int) > 20)=true:=decide_eq_true (by rw[e1];omega)
   (repeat' ((conv=>whnf);first|refine goD ?_|refine U.lw_c ?_ ?_<;>intro hb))
   (conv=>whnf);exact .same (.flat _ rfl) rfl
  ·have g1:decide (((iL arrs).length:Int) > 20)=false:=decide_eq_false (by rw[e1];omega)
   by_cases b2:20<ins.length
   ·have g2:decide (((inL ins).length:Int) > 20)=true:=decide_eq_true (by rw[e2];omega)
    (repeat' ((conv=>whnf);first|refine goD ?_|refine U.lw_c ?_ ?_<;>intro hb))
    (conv=>whnf);exact .same (.flat _ rfl) rfl
   ·have g2:decide (((inL ins).length:Int) > 20)=false:=decide_eq_false (by rw[e2];omega)
    have g3:decide (((prL procs).length:Int) > 20)=true:=decide_eq_true (by rw[e3];omega)
    (repeat' ((conv=>whnf);first|refine goD ?_|refine U.lw_c ?_ ?_<;>intro hb))
    (conv=>whnf);exact .same (.flat _ rfl) rfl
 ·rw[show fewP ⟨sl,arrs,ins,procs,main⟩ m=fewGo procs m (cntL main m 30) from if_neg hbig]
  have g1:decide (((iL arrs).length:Int) > 20)=false:=decide_eq_false (by rw[e1];omega)
  have g2:decide (((inL ins).length:Int) > 20)=false:=decide_eq_false (by rw[e2];omega)
  have g3:decide (((prL procs).length:Int) > 20)=false:=decide_eq_false (by rw[e3];omega)
  generalize cntL main m 30=c0 at c1
  (repeat' ((conv=>whnf);first|refine goD ?_|refine ⟨_,c1,clM,tab0 _,?_⟩|refine U.lw_c ?_ ?_<;>intro hb))
  (conv=>whnf);clear g1 g2 g3 c1;obtain ⟨F,hF⟩:∃F,F=cntL:=⟨_,rfl⟩
  refine loop_inv (α:=List Pr13×List Pr13×Int) (fun x=>x.1++x.2.1=procs∧fewGo x.2.1 m x.2.2=fewGo procs m c0) (fun x=>(mkF [(1,.int .i64 m),(2,.pointer (some ⟨0,0,none⟩)),(4,.bool false),(5,.int .i64 x.2.2),(6,.int .i64 x.1.length)],⟨mkO [(0,some (.cells 27 (cellsOf (encP ⟨sl,arrs,ins,procs,main⟩)) false))],1,0,0⟩)) (fun x=>x.2.1.length) ([],procs,c0) ⟨rfl,rfl⟩ (Cov.slots rL ⟨rfl,rfl,rfl,rfl,rfl,trivial⟩) ?_
  rintro ⟨pre,rest,n⟩ ⟨p1,p2⟩
  dsimp only at p1 p2;subst p1;rw[← p2];dsimp only;rcases rest with _|⟨⟨nm,ps,body⟩,rest⟩
  ·rw[List.append_nil];have zb:=U.lt_no prL_map pre;(repeat' ((conv=>whnf);first|refine goD ?_|refine U.lw_c ?_ ?_<;>intro hb))
   (conv=>whnf);exact .same (.flat _ rfl) rfl
  ·have zb:=U.lt_yes prL_map pre (Pr13.mk nm ps body) rest;have zc:=U.blt_yes prL_map pre (Pr13.mk nm ps body) rest;have zn:=U.nth_at prL_map pre (Pr13.mk nm ps body) rest;have zw:=U.len_snoc (pre:=pre) (x:=Pr13.mk nm ps body) (post:=rest) ((by simp at hbig ⊢;omega))
   obtain ⟨b1,b2,b3⟩:=o4 ⟨nm,ps,body⟩ (by simp)
   have hps:=iL_len ps;have hcb:=cleanSs body;by_cases hn:n≤m
   ·have g1:decide (n≤m)=true:=decide_eq_true hn;by_cases hq:20<ps.length
    ·have g2:decide (((iL ps).length:Int) > 20)=true:=decide_eq_true (by rw[hps];omega)
     (repeat' ((conv=>whnf);first|refine goD ?_|refine U.lw_c ?_ ?_<;>intro hb))
     (conv=>whnf);exact .same (.flat _ rfl) (congrArg Value.bool (by rw[fewGo,if_pos hn,if_pos hq]))
    ·have g2:decide (((iL ps).length:Int) > 20)=false:=decide_eq_false (by rw[hps];omega)
     have c2:=irStmts_all (szSs body) body rL b1 b2 (IntKind.i64.wrap (m-n)) 30;have e9:fewGo (⟨nm,ps,body⟩::rest) m n=fewGo rest m (IntKind.i64.wrap (n+cntL body (IntKind.i64.wrap (m-n)) 30)):=by rw[fewGo,if_pos hn,if_neg hq]
     rw[e9];generalize cntL body (IntKind.i64.wrap (m-n)) 30=c3 at *
     (repeat' ((conv=>whnf);first|refine goD ?_|refine ⟨_,c2,clM,tab0 _,?_⟩|refine U.lw_c ?_ ?_<;>intro hb))
     (conv=>whnf);exact ⟨(pre++[⟨nm,ps,body⟩],rest,IntKind.i64.wrap (n+c3)),⟨by simp,rfl⟩,by simp,(Cov.renI rfl rfl rfl rfl (.W rfl ((fun c hc=>cleanP_cells ⟨sl,arrs,ins,_,main⟩ c hc)) rfl .nil) (.cons rfl .I (.cons rfl (.P rfl) (.K rfl rfl rfl (.cons rfl .I (.L rfl (cleanI _) (congrArg (Value.int .i64) (zw.symm)) .nil))))))⟩
   ·have g1:decide (n≤m)=false:=decide_eq_false hn;(repeat' ((conv=>whnf);first|refine goD ?_|refine U.lw_c ?_ ?_<;>intro hb))
    (conv=>whnf);exact .same (.flat _ rfl) (congrArg Value.bool (by rw[fewGo,if_neg hn];exact g1))
theorem fewGo_ok:∀(l:List Pr13) (m n:Int) (k:Nat),m≤900->n=k->fewGo l m n=true->(k:Int)+szPrs l≤m∧∀x∈l,x.ps.length≤20
 |[],m,n,k,hm,hn,h=>by
  have h:=of_decide_eq_true (show decide (n≤m)=true from h)
  exact ⟨by simp[szPrs];omega,fun x hx=>by cases hx⟩
 |x::l,m,n,k,hm,hn,h=>by
  unfold fewGo at h;by_cases h1:n≤m
  ·rw[if_pos h1] at h;by_cases h2:20<x.ps.length
   ·rw[if_pos h2] at h;cases h
   ·rw[if_neg h2] at h;have hw:IntKind.i64.wrap (m-n)=m-n:=wid (by omega) (by omega)
    rw[hw] at h;obtain ⟨a1,a2,a3⟩:=cntL_few x.body (m-n) 30 (by omega) (by omega)
    have hw2:IntKind.i64.wrap (n+cntL x.body (m-n) 30)=n+cntL x.body (m-n) 30:=wid (by omega) (by omega)
    rw[hw2] at h;by_cases h3:cntL x.body (m-n) 30≤m-n
    ·have e:=a3 h3;obtain ⟨g1,g2⟩:=fewGo_ok l m (n+cntL x.body (m-n) 30) (k+szSs x.body) hm (by rw[e,hn];simp) h
     refine ⟨by rw[szPrs];push_cast at g1 ⊢;omega,fun y hy=>?_⟩
     rcases List.mem_cons.1 hy with rfl|hy
     ·omega
     ·exact g2 y hy
    ·have:fewGo l m (n+cntL x.body (m-n) 30)=false:=by
      cases l with
      |nil=>exact decide_eq_false (by omega)
      |cons y l=>rw[fewGo,if_neg (by omega)]
     rw[this] at h;cases h
  ·rw[if_neg h1] at h;cases h
theorem fewP_ok {p:Pg}{m:Int}(hm:0≤m∧m≤900) (h:fewP p m=true):FewP p:=by
 unfold fewP at h;split at h
 ·cases h
 ·rename_i hb;obtain ⟨a1,a2,a3⟩:=cntL_few p.main m 30 (by omega) (by omega)
  by_cases h3:cntL p.main m 30≤m
  ·obtain ⟨g1,g2⟩:=fewGo_ok p.procs m _ (szSs p.main) hm.2 (a3 h3) h;exact ⟨by omega,by omega,by omega,g2,by omega⟩
  ·have:fewGo p.procs m (cntL p.main m 30)=false:=by
    cases p.procs with
    |nil=>exact decide_eq_false (by omega)
    |cons y l=>rw[fewGo,if_neg (by omega)]
   rw[this] at h;cases h
end Go.Proofs.YtnfppdblcmollaaGreatDoor
