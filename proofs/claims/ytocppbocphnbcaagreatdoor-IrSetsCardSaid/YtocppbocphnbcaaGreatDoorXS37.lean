
import Derived.Test.YtocppbocphnbcaaGreatDoorXS36
namespace Go.Proofs.YtocppbocphnbcaaGreatDoor
open Go Go.RowKit Go.Sort U
set_option linter.unusedVariables false
set_option linter.unusedSimpArgs false
set_option maxRecDepth 100000
set_option maxHeartbeats 40000000
mutual
def eqE:Ex->Ex->Bool
 |.mk k n a o l,.mk k' n' a' o' l'=>decide (k=k')&&decide (n=n')&&decide (a=a')&&decide (o=o')&&eqEs l l'
def eqEs:List Ex->List Ex->Bool
 |[],[]=>true
 |x::l,y::m=>eqE x y&&eqEs l m
 |[],_::_=>false
 |_::_,[]=>false
end
theorem eqEs_len:∀{l m:List Ex},eqEs l m=true->l.length=m.length
 |[],[],_=>rfl
 |x::l,y::m,h=>by
  rw[eqEs,Bool.and_eq_true] at h;rw[List.length_cons,List.length_cons,eqEs_len h.2]
 |[],_::_,h=>by rw[eqEs] at h;cases h
 |_::_,[],h=>by rw[eqEs] at h;cases h
theorem eqEs_app:∀{p q:List Ex}(a b:List Ex),p.length=q.length->eqEs (p++a) (q++b)=(eqEs p q&&eqEs a b)
 |[],[],a,b,_=>by simp[eqEs]
 |x::p,y::q,a,b,h=>by rw[List.cons_append,List.cons_append,eqEs,eqEs,eqEs_app a b (by simpa using h),Bool.and_assoc]
 |[],_::_,_,_,h=>by simp at h
 |_::_,[],_,_,h=>by simp at h
theorem ints_same (a b:List Int) (ha:a.length≤maxI):DenU Tryz.prog [] 41 [imS (iL a),imS (iL b)] (.bool (decide (a=b))):=by
 refine denU_of_body hmixU rfl Tryz.func41 rfl rfl rfl 0 ?_;intro Ts;have e1:=iL_len a;have e2:=iL_len b;have k1:=cleanIL a;have k2:=cleanIL b;by_cases hl:a.length=b.length
 ·have g1:(((iL a).length:Int) != ((iL b).length:Int))=false:=by rw[e1,e2,hl];simp
  (repeat' ((conv=>whnf);first|refine goD ?_|refine U.lw_c ?_ ?_<;>intro hb))
  (conv=>whnf);refine loop_inv (α:=(List Int×List Int)×List Int×List Int) (fun x=>x.1.1++x.1.2=a∧x.2.1++x.2.2=b∧x.1.1=x.2.1) (fun x=>(mkF [(0,imS (iL a)),(1,imS (iL b)),(4,.bool false),(5,.int .i64 x.1.1.length)],⟨mkO [],0,0,0⟩)) (fun x=>x.1.2.length) (([],a),[],b) ⟨rfl,rfl,rfl⟩ (Cov.renI rfl rfl rfl rfl .nil (.L rfl (cleanIL _) rfl (.L rfl (cleanIL _) rfl (.K rfl rfl rfl (.cons rfl .I .nil))))) ?_
  rintro ⟨⟨pre,rest⟩,pre',rest'⟩ ⟨p1,p2,p3⟩
  dsimp only at p1 p2 p3;subst p3;subst p1;subst p2;have hl2:rest.length=rest'.length:=by simpa using hl
  dsimp only;rcases rest with _|⟨x,rest⟩
  ·obtain rfl:rest'=[]:=List.length_eq_zero_iff.1 hl2.symm;simp only[List.append_nil] at *;have zb:=U.lt_no iL_map pre;(repeat' ((conv=>whnf);first|refine goD ?_|refine U.lw_c ?_ ?_<;>intro hb))
   (conv=>whnf);exact .same (.flat _ rfl) (congrArg Value.bool (by simp))
  ·rcases rest' with _|⟨y,rest'⟩
   ·simp at hl2
   ·have zb:=U.lt_yes iL_map pre (x) rest;have zc:=U.blt_yes iL_map pre (x) rest;have zn:=U.nth_at iL_map pre (x) rest;have zw:=U.len_snoc (pre:=pre) (x:=x) (post:=rest) (ha);have yb:=U.lt_yes iL_map pre (y) rest';have yc:=U.blt_yes iL_map pre (y) rest';have yn:=U.nth_at iL_map pre (y) rest'
    by_cases hxy:x=y
    ·have g2:(x != y)=false:=by simp[hxy]
     (repeat' ((conv=>whnf);first|refine goD ?_|refine U.drawX_p (D:=U.propX) 9 [] (by decide +kernel) (by decide +kernel) ?_|refine U.lw_c ?_ ?_<;>intro hb))
     (conv=>whnf);exact ⟨((pre++[x],rest),pre++[y],rest'),⟨by simp,by simp,by rw[hxy]⟩,by simp,(Cov.renI rfl rfl rfl rfl .nil (.L rfl (cleanIL _) rfl (.L rfl (cleanIL _) rfl (.K rfl rfl rfl (.L rfl (cleanI _) (congrArg (Value.int .i64) (zw.symm)) .nil)))))⟩
    ·have g2:(x != y)=true:=by simp[hxy]
     (repeat' ((conv=>whnf);first|refine goD ?_|refine U.drawX_p (D:=U.propX) 9 [] (by decide +kernel) (by decide +kernel) ?_|refine U.lw_c ?_ ?_<;>intro hb))
     (conv=>whnf);exact .same (.flat _ rfl) (congrArg Value.bool (by simp[hxy]))
 ·have g1:(((iL a).length:Int) != ((iL b).length:Int))=true:=by rw[e1,e2];simp;omega
  (repeat' ((conv=>whnf);first|refine goD ?_|refine U.lw_c ?_ ?_<;>intro hb))
  (conv=>whnf);exact .same (.flat _ rfl) (congrArg Value.bool (by symm;simp;rintro rfl;exact hl rfl))
theorem exprs_same:∀(N:Nat) (e e':Ex),szE e≤N->szE e≤1000->DenU Tryz.prog [] 94 [encE e,encE e'] (.bool (eqE e e')):=by
 intro N;induction N with
 |zero=>intro e _ h;have:=szE_pos e;omega
 |succ N ih =>
  intro e e' h0 h1
  refine denU_of_body hmixU rfl Tryz.func94 rfl rfl rfl 0 ?_;intro Ts;obtain ⟨k,n,a,o,l⟩:=e;obtain ⟨k',n',a',o',l'⟩:=e';have e1:=encEs_len l;have e2:=encEs_len l';have hs:=szEs_len l;rw[szE] at h0 h1
  by_cases hh:(k=k'∧n=n')∧(a=a'∧o=o')∧l.length=l'.length
  ·obtain ⟨⟨rfl,rfl⟩,⟨rfl,rfl⟩,hl⟩:=hh;have g1:(((encEs l).length:Int) != ((encEs l').length:Int))=false:=by rw[e1,e2,hl];simp
   have b1:(k != k)=false:=by simp
   have b2:(n != n)=false:=by simp
   have b3:(a != a)=false:=by simp
   have b4:(o != o)=false:=by simp
   rw[show eqE (.mk k n a o l) (.mk k n a o l')=eqEs l l' by rw[eqE];simp]
   (repeat' ((conv=>whnf);first|refine goD ?_|refine U.lw_c ?_ ?_<;>intro hb))
   (conv=>whnf);refine loop_inv (α:=(List Ex×List Ex)×List Ex×List Ex) (fun x=>x.1.1++x.1.2=l∧x.2.1++x.2.2=l'∧x.1.1.length=x.2.1.length∧eqEs x.1.1 x.2.1=true) (fun x=>(mkF [(2,.pointer (some ⟨0,0,none⟩)),(3,.pointer (some ⟨1,0,none⟩)),(4,.bool false),(5,.int .i64 x.1.1.length)],⟨mkO [(0,some (.cells 100 [.int .i64 k,.int .i64 n,.int .i64 a,.int .i64 o,imS (encEs l)] false)),(1,some (.cells 100 [.int .i64 k,.int .i64 n,.int .i64 a,.int .i64 o,imS (encEs l')] false))],2,0,0⟩)) (fun x=>x.1.2.length) (([],l),[],l') ⟨rfl,rfl,rfl,rfl⟩ (Cov.slots rL ⟨rfl,rfl,rfl,rfl,trivial⟩) ?_
   rintro ⟨⟨pre,rest⟩,pre',rest'⟩ ⟨p1,p2,p3,p4⟩
   dsimp only at p1 p2 p3 p4;subst p1;subst p2;have hl2:rest.length=rest'.length:=by simp at hl;omega
   dsimp only;rw[eqEs_app _ _ p3,p4,Bool.true_and];rcases rest with _|⟨x,rest⟩
   ·obtain rfl:rest'=[]:=List.length_eq_zero_iff.1 hl2.symm;simp only[List.append_nil] at *;have zb:=U.lt_no encEs_map pre;(repeat' ((conv=>whnf);first|refine goD ?_|refine U.lw_c ?_ ?_<;>intro hb))
    (conv=>whnf);exact .same (.flat _ rfl) rfl
   ·rcases rest' with _|⟨y,rest'⟩
    ·simp at hl2
    ·have zb:=U.lt_yes encEs_map pre (x) rest;have zc:=U.blt_yes encEs_map pre (x) rest;have zn:=U.nth_at encEs_map pre (x) rest;have zw:=U.len_snoc (pre:=pre) (x:=x) (post:=rest) ((Nat.le_trans (show _≤1000 by omega) (by decide)))
     have yb:=U.lt_yes encEs_map pre' (y) rest';have yc:=U.blt_yes encEs_map pre' (y) rest';have yn:=U.nth_at encEs_map pre' (y) rest';rw[← p3] at yb yc yn;have hsx:szE x≤szEs (pre++x::rest):=szEs_mem (by simp)
     have c1:=ih x y (by omega) (by omega)
     have e3:eqEs (pre++[x]) (pre'++[y])=eqE x y:=by rw[eqEs_app _ _ p3,p4,eqEs,eqEs];simp
     rw[show eqEs (x::rest) (y::rest')=(eqE x y&&eqEs rest rest') by rw[eqEs]]
     generalize eqEs rest rest'=q2
     generalize eqE x y=q1 at *
     have kx:=cleanE x;have ky:=cleanE y;obtain ⟨k1,n1,a1,o1,l1⟩:=x;obtain ⟨k2,n2,a2,o2,l2⟩:=y;cases q1
     ·(repeat' ((conv=>whnf);first|refine goD ?_|refine ⟨_,c1,clM,tab0 _,?_⟩|refine U.drawX_p (D:=U.propX) 12 [] (by decide +kernel) (by decide +kernel) ?_|refine U.lw_c ?_ ?_<;>intro hb))
      (conv=>whnf);exact .same (.flat _ rfl) rfl
     ·(repeat' ((conv=>whnf);first|refine goD ?_|refine ⟨_,c1,clM,tab0 _,?_⟩|refine U.drawX_p (D:=U.propX) 12 [] (by decide +kernel) (by decide +kernel) ?_|refine U.lw_c ?_ ?_<;>intro hb))
      (conv=>whnf);exact ⟨((pre++[.mk k1 n1 a1 o1 l1],rest),pre'++[.mk k2 n2 a2 o2 l2],rest'),⟨by simp,by simp,by simp[p3],e3⟩,by simp,(Cov.renI rfl rfl rfl rfl (.W rfl (cleanE_cells (.mk k n a o _)) rfl (.W rfl (cleanE_cells (.mk k n a o _)) rfl .nil)) (.cons rfl (.P rfl) (.cons rfl (.P rfl) (.K rfl rfl rfl (.L rfl (cleanI _) (congrArg (Value.int .i64) (zw.symm)) .nil)))))⟩
  ·have hf:eqE (.mk k n a o l) (.mk k' n' a' o' l')=false:=by
    rw[eqE,Bool.eq_false_iff];intro h;simp only[Bool.and_eq_true,decide_eq_true_eq] at h;exact hh ⟨⟨h.1.1.1.1,h.1.1.1.2⟩,⟨h.1.1.2,h.1.2⟩,eqEs_len h.2⟩
   rw[hf];by_cases b1:k=k'
   ·have b1:(k != k')=false:=by simp[b1]
    by_cases b2:n=n'
    ·have b2:(n != n')=false:=by simp[b2]
     by_cases b3:a=a'
     ·have b3:(a != a')=false:=by simp[b3]
      by_cases b4:o=o'
      ·have b4:(o != o')=false:=by simp[b4]
       have g1:(((encEs l).length:Int) != ((encEs l').length:Int))=true:=by rw[e1,e2];simp at b1 b2 b3 b4 ⊢;omega
       (repeat' ((conv=>whnf);first|refine goD ?_|refine U.lw_c ?_ ?_<;>intro hb))
       (conv=>whnf);exact .same (.flat _ rfl) rfl
      ·have b4:(o != o')=true:=by simp[b4]
       (repeat' ((conv=>whnf);first|refine goD ?_|refine U.lw_c ?_ ?_<;>intro hb))
       (conv=>whnf);exact .same (.flat _ rfl) rfl
     ·have b3:(a != a')=true:=by simp[b3]
      (repeat' ((conv=>whnf);first|refine goD ?_|refine U.lw_c ?_ ?_<;>intro hb))
      (conv=>whnf);exact .same (.flat _ rfl) rfl
    ·have b2:(n != n')=true:=by simp[b2]
     (repeat' ((conv=>whnf);first|refine goD ?_|refine U.lw_c ?_ ?_<;>intro hb))
     (conv=>whnf);exact .same (.flat _ rfl) rfl
   ·have b1:(k != k')=true:=by simp[b1]
    (repeat' ((conv=>whnf);first|refine goD ?_|refine U.lw_c ?_ ?_<;>intro hb))
    (conv=>whnf);exact .same (.flat _ rfl) rfl
mutual
def eqS:St->St->Bool
 |.mk k a xs th el no,.mk k' a' xs' th' el' no'=>decide (k=k')&&decide (a=a')&&decide (no=no')&&decide (xs.length=xs'.length)&&eqSs th th'&&eqSs el el'&&eqEs xs xs'
def eqSs:List St->List St->Bool
 |[],[]=>true
 |x::l,y::m=>eqS x y&&eqSs l m
 |[],_::_=>false
 |_::_,[]=>false
end
theorem eqSs_len:∀{l m:List St},eqSs l m=true->l.length=m.length
 |[],[],_=>rfl
 |x::l,y::m,h=>by
  rw[eqSs,Bool.and_eq_true] at h;rw[List.length_cons,List.length_cons,eqSs_len h.2]
 |[],_::_,h=>by rw[eqSs] at h;cases h
 |_::_,[],h=>by rw[eqSs] at h;cases h
theorem eqSs_app:∀{p q:List St}(a b:List St),p.length=q.length->eqSs (p++a) (q++b)=(eqSs p q&&eqSs a b)
 |[],[],a,b,_=>by simp[eqSs]
 |x::p,y::q,a,b,h=>by rw[List.cons_append,List.cons_append,eqSs,eqSs,eqSs_app a b (by simpa using h),Bool.and_assoc]
 |[],_::_,_,_,h=>by simp at h
 |_::_,[],_,_,h=>by simp at h
theorem stmts_same:∀(N:Nat) (l l':List St),szSs l≤N->szSs l≤1000->DenU Tryz.prog [] 72 [imS (encSs l),imS (encSs l')] (.bool (eqSs l l')):=by
 intro N;induction N with
 |zero =>
  intro l l' h0 h1
  obtain rfl:l=[]:=List.length_eq_zero_iff.1 (by have:=szSs_len l;omega)
  refine denU_of_body hmixU rfl Tryz.func72 rfl rfl rfl 0 ?_;intro Ts;have hk2:=cleanSs l';cases l' with
  |nil =>
   (repeat' ((conv=>whnf);first|refine goD ?_|refine U.lw_c ?_ ?_<;>intro hb))
   (conv=>whnf);refine loop_inv (α:=Unit) (fun _=>True) (fun _=>(mkF [(0,imS []),(1,imS []),(4,.bool false),(5,.int .i64 0)],⟨mkO [],0,0,0⟩)) (fun _=>0) () trivial (Cov.renI rfl rfl rfl rfl .nil (.L rfl (cleanSs []) rfl (.L rfl (cleanSs []) rfl (.K rfl rfl rfl (.K rfl rfl rfl .nil))))) ?_
   rintro _ _
   (repeat' ((conv=>whnf);first|refine goD ?_|refine U.lw_c ?_ ?_<;>intro hb))
   (conv=>whnf);exact .same (.flat _ rfl) (congrArg Value.bool (by rw[eqSs]))
  |cons x m =>
   have e2:=encSs_len (x::m);have g1:(((encSs []).length:Int) != ((encSs (x::m)).length:Int))=true:=by rw[e2];simp[encSs];omega
   (repeat' ((conv=>whnf);first|refine goD ?_|refine U.lw_c ?_ ?_<;>intro hb))
   all_goals (conv=>whnf)
   all_goals exact .same (.flat _ rfl) (congrArg Value.bool (by rw[eqSs]))
 |succ N ih =>
  intro l l' h0 h1
  refine denU_of_body hmixU rfl Tryz.func72 rfl rfl rfl 0 ?_;intro Ts;have e1:=encSs_len l;have e2:=encSs_len l';have hk1:=cleanSs l;have hk2:=cleanSs l';by_cases hl:l.length=l'.length
  ·have g1:(((encSs l).length:Int) != ((encSs l').length:Int))=false:=by rw[e1,e2,hl];simp
   (repeat' ((conv=>whnf);first|refine goD ?_|refine U.lw_c ?_ ?_<;>intro hb))
   (conv=>whnf);refine loop_inv (α:=(List St×List St)×List St×List St) (fun x=>x.1.1++x.1.2=l∧x.2.1++x.2.2=l'∧x.1.1.length=x.2.1.length∧eqSs x.1.1 x.2.1=true) (fun x=>(mkF [(0,imS (encSs l)),(1,imS (encSs l')),(4,.bool false),(5,.int .i64 x.1.1.length)],⟨mkO [],0,0,0⟩)) (fun x=>x.1.2.length) (([],l),[],l') ⟨rfl,rfl,rfl,rfl⟩ (Cov.renI rfl rfl rfl rfl .nil (.L rfl (cleanSs _) rfl (.L rfl (cleanSs _) rfl (.K rfl rfl rfl (.cons rfl .I .nil))))) ?_
   rintro ⟨⟨pre,rest⟩,pre',rest'⟩ ⟨p1,p2,p3,p4⟩
   dsimp only at p1 p2 p3 p4;subst p1;subst p2;have hl2:rest.length=rest'.length:=by simp at hl;omega
   have hlen:=szSs_len (pre++rest);dsimp only;rw[eqSs_app _ _ p3,p4,Bool.true_and];rcases rest with _|⟨x,rest⟩
   ·obtain rfl:rest'=[]:=List.length_eq_zero_iff.1 hl2.symm;simp only[List.append_nil] at *;have zb:=U.lt_no encSs_map pre;(repeat' ((conv=>whnf);first|refine goD ?_|refine U.lw_c ?_ ?_<;>intro hb))
    (conv=>whnf);exact .same (.flat _ rfl) (congrArg Value.bool (by rw[eqSs]))
   ·rcases rest' with _|⟨y,rest'⟩
    ·simp at hl2
    ·have zb:=U.lt_yes encSs_map pre (x) rest;have zc:=U.blt_yes encSs_map pre (x) rest;have zn:=U.nth_at encSs_map pre (x) rest;have zw:=U.len_snoc (pre:=pre) (x:=x) (post:=rest) ((Nat.le_trans (show _≤1000 by omega) (by decide)))
     have yb:=U.lt_yes encSs_map pre' (y) rest';have yc:=U.blt_yes encSs_map pre' (y) rest';have yn:=U.nth_at encSs_map pre' (y) rest';rw[← p3] at yb yc yn;have hsx:szS x≤szSs (pre++x::rest):=szSs_mem (by simp)
     have e3:eqSs (pre++[x]) (pre'++[y])=eqS x y:=by rw[eqSs_app _ _ p3,p4,eqSs,eqSs];simp
     rw[show eqSs (x::rest) (y::rest')=(eqS x y&&eqSs rest rest') by rw[eqSs]]
     obtain ⟨k,a,xs,th,el,no⟩:=x;obtain ⟨k',a',xs',th',el',no'⟩:=y;rw[szS] at hsx;have c2:=ih th th' (by omega) (by omega)
     have c3:=ih el el' (by omega) (by omega)
     have ct:=cleanSs th;have ct':=cleanSs th';have ce:=cleanSs el;have ce':=cleanSs el';have f1:=encEs_len xs;have f2:=encEs_len xs';have hxl:=szEs_len xs;obtain ⟨q,hq⟩:∃q,q=eqS (.mk k a xs th el no) (.mk k' a' xs' th' el' no'):=⟨_,rfl⟩
     rw[← hq] at e3 ⊢;rw[eqS] at hq;generalize eqSs th th'=q2 at *
     generalize eqSs el el'=q3 at *
     generalize eqSs rest rest'=q9
     clear ih;by_cases b1:k=k'
     ·by_cases b2:a=a'
      ·by_cases b3:no=no'
       ·by_cases b4:xs.length=xs'.length
        ·subst b1 b2 b3;have d1:(k != k)=false:=by simp
         have d2:(a != a)=false:=by simp
         have d3:(no != no)=false:=by simp
         have d4:(((encEs xs).length:Int) != ((encEs xs').length:Int))=false:=by rw[f1,f2,b4];simp
         cases q2
         ·obtain rfl:q=false:=by rw[hq];simp
          (repeat' ((conv=>whnf);first|refine goD ?_|refine ⟨_,c2,clM,tab0 _,?_⟩|refine ⟨_,c3,clM,tab0 _,?_⟩|refine U.drawX_m (D:=U.propX) 11 [] (by decide +kernel) (by decide +kernel) (by decide +kernel) ?_|refine U.lw_c ?_ ?_<;>intro hb))
          all_goals (conv=>whnf)
          all_goals exact .same (.flat _ rfl) rfl
         ·cases q3
          ·obtain rfl:q=false:=by rw[hq];simp
           (repeat' ((conv=>whnf);first|refine goD ?_|refine ⟨_,c2,clM,tab0 _,?_⟩|refine ⟨_,c3,clM,tab0 _,?_⟩|refine U.drawX_m (D:=U.propX) 11 [] (by decide +kernel) (by decide +kernel) (by decide +kernel) ?_|refine U.lw_c ?_ ?_<;>intro hb))
           all_goals (conv=>whnf)
           all_goals exact .same (.flat _ rfl) rfl
          ·replace hq:q=eqEs xs xs':=by rw[hq];simp[b4]
           (repeat' ((conv=>whnf);first|refine goD ?_|refine ⟨_,c2,clM,tab0 _,?_⟩|refine ⟨_,c3,clM,tab0 _,?_⟩|refine U.drawX_m (D:=U.propX) 11 [] (by decide +kernel) (by decide +kernel) (by decide +kernel) ?_|refine U.lw_c ?_ ?_<;>intro hb))
           (conv=>whnf);refine loop_inv (α:=(List Ex×List Ex)×List Ex×List Ex) (fun x=>x.1.1++x.1.2=xs∧x.2.1++x.2.2=xs'∧x.1.1.length=x.2.1.length∧eqEs x.1.1 x.2.1=true) (fun x=>(mkF [(0,imS (encSs (pre++.mk k a xs th el no::rest))),(1,imS (encSs (pre'++.mk k a xs' th' el' no::rest'))),(4,.bool false),(5,.int .i64 pre.length),(6,.pointer (some ⟨0,0,none⟩)),(7,.pointer (some ⟨1,0,none⟩)),(8,.int .i64 x.1.1.length)],⟨mkO [(0,some (.cells 98 [.int .i64 k,.int .i64 a,imS (encEs xs),imS (encSs th),imS (encSs el),.int .i64 no] false)),(1,some (.cells 98 [.int .i64 k,.int .i64 a,imS (encEs xs'),imS (encSs th'),imS (encSs el'),.int .i64 no] false))],2,0,0⟩)) (fun x=>x.1.2.length) (([],xs),[],xs') ⟨rfl,rfl,rfl,rfl⟩ (Cov.renI rfl rfl rfl rfl (.W rfl (cleanS_cells (.mk k a xs th el no)) rfl (.W rfl (cleanS_cells (.mk k a xs' th' el' no)) rfl .nil)) (.L rfl (cleanSs _) rfl (.L rfl (cleanSs _) rfl (.K rfl rfl rfl (.cons rfl .I (.cons rfl (.P rfl) (.cons rfl (.P rfl) (.K rfl rfl rfl .nil)))))))) ?_
           rintro ⟨⟨ipre,irest⟩,ipre',irest'⟩ ⟨i1,i2,i3,i4⟩
           dsimp only at i1 i2 i3 i4;subst i1;subst i2;have hl3:irest.length=irest'.length:=by simp at b4;omega
           dsimp only;rw[eqEs_app _ _ i3,i4,Bool.true_and] at hq;rcases irest with _|⟨u,irest⟩
           ·obtain rfl:irest'=[]:=List.length_eq_zero_iff.1 hl3.symm;simp only[List.append_nil] at *;have wb:=U.lt_no encEs_map ipre;obtain rfl:q=true:=by simpa [eqEs] using hq
            (repeat' ((conv=>whnf);first|refine goD ?_|refine U.lw_c ?_ ?_<;>intro hb))
            (conv=>whnf);exact ⟨((pre++[.mk k a ipre th el no],rest),pre'++[.mk k a ipre' th' el' no],rest'),⟨by simp,by simp,by simp[p3],e3⟩,by simp,(Cov.renI rfl rfl rfl rfl .nil (.L rfl (cleanSs _) rfl (.L rfl (cleanSs _) rfl (.K rfl rfl rfl (.L rfl (cleanI _) (congrArg (Value.int .i64) (zw.symm)) .nil)))))⟩
           ·rcases irest' with _|⟨v,irest'⟩
            ·simp at hl3
            ·have wb:=U.lt_yes encEs_map ipre (u) irest;have wc:=U.blt_yes encEs_map ipre (u) irest;have wn:=U.nth_at encEs_map ipre (u) irest;have ww:=U.len_snoc (pre:=ipre) (x:=u) (post:=irest) ((Nat.le_trans (show _≤1000 by omega) (by decide)))
             have vb:=U.lt_yes encEs_map ipre' (v) irest';have vc:=U.blt_yes encEs_map ipre' (v) irest';have vn:=U.nth_at encEs_map ipre' (v) irest';rw[← i3] at vb vc vn;have hsu:szE u≤szEs (ipre++u::irest):=szEs_mem (by simp)
             have c1:=exprs_same 1000 u v (by omega) (by omega)
             have e4:eqEs (ipre++[u]) (ipre'++[v])=eqE u v:=by rw[eqEs_app _ _ i3,i4,eqEs,eqEs];simp
             rw[show eqEs (u::irest) (v::irest')=(eqE u v&&eqEs irest irest') by rw[eqEs]] at hq
             generalize eqE u v=q1 at *
             have ku:=cleanE u;have kv:=cleanE v;obtain ⟨k1,n1,a1,o1,l1⟩:=u;obtain ⟨k2,n2,a2,o2,l2⟩:=v;cases q1
             ·obtain rfl:q=false:=by rw[hq];rfl
              (repeat' ((conv=>whnf);first|refine goD ?_|refine ⟨_,c1,clM,tab0 _,?_⟩|refine U.drawX_p (D:=U.propX) 12 [] (by decide +kernel) (by decide +kernel) ?_|refine U.lw_c ?_ ?_<;>intro hb))
              (conv=>whnf);exact .same (.flat _ rfl) rfl
             ·(repeat' ((conv=>whnf);first|refine goD ?_|refine ⟨_,c1,clM,tab0 _,?_⟩|refine U.drawX_p (D:=U.propX) 12 [] (by decide +kernel) (by decide +kernel) ?_|refine U.lw_c ?_ ?_<;>intro hb))
              (conv=>whnf);exact ⟨((ipre++[.mk k1 n1 a1 o1 l1],irest),ipre'++[.mk k2 n2 a2 o2 l2],irest'),⟨by simp,by simp,by simp[i3],e4⟩,by simp,(Cov.renI rfl rfl rfl rfl (.W rfl (cleanS_cells (.mk k a _ th el no)) rfl (.W rfl (cleanS_cells (.mk k a _ th' el' no)) rfl .nil)) (.L rfl (cleanSs _) rfl (.L rfl (cleanSs _) rfl (.K rfl rfl rfl (.cons rfl .I (.cons rfl (.P rfl) (.cons rfl (.P rfl) (.L rfl (cleanI _) (congrArg (Value.int .i64) (ww.symm)) .nil))))))))⟩
        ·subst b1 b2 b3;have d1:(k != k)=false:=by simp
         have d2:(a != a)=false:=by simp
         have d3:(no != no)=false:=by simp
         have d4:(((encEs xs).length:Int) != ((encEs xs').length:Int))=true:=by rw[f1,f2];simp;omega
         obtain rfl:q=false:=by rw[hq];simp[b4]
         (repeat' ((conv=>whnf);first|refine goD ?_|refine ⟨_,c2,clM,tab0 _,?_⟩|refine ⟨_,c3,clM,tab0 _,?_⟩|refine U.drawX_m (D:=U.propX) 11 [] (by decide +kernel) (by decide +kernel) (by decide +kernel) ?_|refine U.lw_c ?_ ?_<;>intro hb))
         all_goals (conv=>whnf)
         all_goals exact .same (.flat _ rfl) rfl
       ·subst b1 b2;have d1:(k != k)=false:=by simp
        have d2:(a != a)=false:=by simp
        have d3:(no != no')=true:=by simp[b3]
        obtain rfl:q=false:=by rw[hq];simp[b3]
        (repeat' ((conv=>whnf);first|refine goD ?_|refine ⟨_,c2,clM,tab0 _,?_⟩|refine ⟨_,c3,clM,tab0 _,?_⟩|refine U.drawX_m (D:=U.propX) 11 [] (by decide +kernel) (by decide +kernel) (by decide +kernel) ?_|refine U.lw_c ?_ ?_<;>intro hb))
        all_goals (conv=>whnf)
        all_goals exact .same (.flat _ rfl) rfl
      ·subst b1;have d1:(k != k)=false:=by simp
       have d2:(a != a')=true:=by simp[b2]
       obtain rfl:q=false:=by rw[hq];simp[b2]
       (repeat' ((conv=>whnf);first|refine goD ?_|refine ⟨_,c2,clM,tab0 _,?_⟩|refine ⟨_,c3,clM,tab0 _,?_⟩|refine U.drawX_m (D:=U.propX) 11 [] (by decide +kernel) (by decide +kernel) (by decide +kernel) ?_|refine U.lw_c ?_ ?_<;>intro hb))
       all_goals (conv=>whnf)
       all_goals exact .same (.flat _ rfl) rfl
     ·have d1:(k != k')=true:=by simp[b1]
      obtain rfl:q=false:=by rw[hq];simp[b1]
      (repeat' ((conv=>whnf);first|refine goD ?_|refine ⟨_,c2,clM,tab0 _,?_⟩|refine ⟨_,c3,clM,tab0 _,?_⟩|refine U.drawX_m (D:=U.propX) 11 [] (by decide +kernel) (by decide +kernel) (by decide +kernel) ?_|refine U.lw_c ?_ ?_<;>intro hb))
      all_goals (conv=>whnf)
      all_goals exact .same (.flat _ rfl) rfl
  ·have g1:(((encSs l).length:Int) != ((encSs l').length:Int))=true:=by rw[e1,e2];simp;omega
   (repeat' ((conv=>whnf);first|refine goD ?_|refine U.lw_c ?_ ?_<;>intro hb))
   (conv=>whnf);exact .same (.flat _ rfl) (congrArg Value.bool (by symm;rw[Bool.eq_false_iff];exact fun h=>hl (eqSs_len h)))
end Go.Proofs.YtocppbocphnbcaaGreatDoor
