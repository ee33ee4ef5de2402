
import Derived.Test.YtnfppdblcmollaaGreatDoorTS24
namespace Go.Proofs.YtnfppdblcmollaaGreatDoor
open Go Go.RowKit Go.Sort U
set_option linter.unusedVariables false
set_option linter.unusedSimpArgs false
set_option maxRecDepth 100000
set_option maxHeartbeats 40000000
theorem rbot_d:DenU Tryz.prog [] 158 [] (encV botZ):=by
 refine denU_of_run hmixU rfl 100 20 20 fun Ts=>?_
 (repeat' ((conv=>whnf);first|refine goD ?_|refine U.lw_c ?_ ?_<;>intro hb))
 (conv=>whnf);exact .same (.flat _ rfl) rfl
theorem rtop_d:DenU Tryz.prog [] 177 [] (encV topZ):=by
 refine denU_of_run hmixU rfl 100 20 20 fun Ts=>?_
 (repeat' ((conv=>whnf);first|refine goD ?_|refine U.lw_c ?_ ?_<;>intro hb))
 (conv=>whnf);exact .same (.flat _ rfl) rfl
theorem nth_cL' {l:List CZ}{j:Nat}(h:j<l.length):nth (cL l) j=some (encC (l.getD j botC)):=by
 have e:l=l.take j++l[j]::l.drop (j+1):=by rw[List.getElem_cons_drop,List.take_append_drop]
 have h2:(l.take j).length=j:=by rw[List.length_take];omega
 have:=U.nth_at cL_map (l.take j) l[j] (l.drop (j+1));rw[← e,h2] at this;rw[this,List.getD_eq_getElem?_getD,List.getElem?_eq_getElem h];rfl
theorem rat_d (s:SZ) (l:List CZ) (a:Int):DenU Tryz.prog [] 157 [encSt s,imS (cL l),.int .i64 a] (encC (atC s.none l a)):=by
 refine denU_of_body hmixU rfl Tryz.func157 rfl rfl rfl 0 ?_;intro Ts;have c2:=rbot_d;have e1:=cL_len l;obtain ⟨sl,ar,no⟩:=s;dsimp only at *;cases no with
 |true =>
  rw[show atC true l a=botC from if_pos (.inl rfl)];(repeat' ((conv=>whnf);first|refine goD ?_|refine ⟨_,c2,clM,tab0 _,?_⟩|refine U.lw_c ?_ ?_<;>intro hb))
  (conv=>whnf);exact .same (.flat _ rfl) rfl
 |false =>
  by_cases b1:a<0
  ·have g1:decide (a<0)=true:=decide_eq_true b1;rw[show atC false l a=botC from if_pos (.inr (.inl b1))];(repeat' ((conv=>whnf);first|refine goD ?_|refine ⟨_,c2,clM,tab0 _,?_⟩|refine U.lw_c ?_ ?_<;>intro hb))
   (conv=>whnf);exact .same (.flat _ rfl) rfl
  ·have g1:decide (a<0)=false:=decide_eq_false b1;by_cases b2:(l.length:Int)≤a
   ·have g2:decide (a≥((cL l).length:Int))=true:=decide_eq_true (by rw[e1];exact b2)
    rw[show atC false l a=botC from if_pos (.inr (.inr b2))];(repeat' ((conv=>whnf);first|refine goD ?_|refine ⟨_,c2,clM,tab0 _,?_⟩|refine U.lw_c ?_ ?_<;>intro hb))
    (conv=>whnf);exact .same (.flat _ rfl) rfl
   ·have g2:decide (a≥((cL l).length:Int))=false:=decide_eq_false (by rw[e1];exact b2)
    rw[show atC false l a=l.getD a.toNat botC from if_neg (by simp;omega)];obtain ⟨j,rfl⟩:=Int.eq_ofNat_of_zero_le (by omega:0≤a)
    have zn:=nth_cL' (l:=l) (j:=j) (by omega)
    have zc:Nat.blt j (cL l).length=true:=bLe (by rw[e1];omega)
    rw[Int.toNat_natCast];generalize l.getD j botC=c at *
    (repeat' ((conv=>whnf);first|refine goD ?_|refine U.lw_c ?_ ?_<;>intro hb))
    (conv=>whnf);exact .same (cleanC c) rfl
theorem cleanSt (s:SZ):NoNm (encSt s):=.agg _ (cleanSt_cells s)
theorem rget_d (s:SZ) (a:Int):DenU Tryz.prog [] 80 [encSt s,.int .i64 a] (encC (slotC s a)):=by
 refine denU_of_body hmixU rfl Tryz.func80 rfl rfl rfl 0 ?_;intro Ts;have c1:=rat_d s s.slots a;have k1:=cleanSt s;have k2:=cleanCL s.slots;have k3:=cleanCL s.arrs;unfold slotC;obtain ⟨sl,ar,no⟩:=s
 dsimp only at *;generalize atC no sl a=c at *
 have k4:=cleanC c;(repeat' ((conv=>whnf);first|refine goD ?_|refine ⟨_,c1,clM,tab0 _,?_⟩|refine U.lw_c ?_ ?_<;>intro hb))
 (conv=>whnf);exact .same (cleanC c) rfl
theorem rload_d (s:SZ) (a:Int):DenU Tryz.prog [] 81 [encSt s,.int .i64 a] (encC (arrC s a)):=by
 refine denU_of_body hmixU rfl Tryz.func81 rfl rfl rfl 0 ?_;intro Ts;have c1:=rat_d s s.arrs a;have k1:=cleanSt s;have k2:=cleanCL s.slots;have k3:=cleanCL s.arrs;unfold arrC;obtain ⟨sl,ar,no⟩:=s
 dsimp only at *;generalize atC no ar a=c at *
 have k4:=cleanC c;(repeat' ((conv=>whnf);first|refine goD ?_|refine ⟨_,c1,clM,tab0 _,?_⟩|refine U.lw_c ?_ ?_<;>intro hb))
 (conv=>whnf);exact .same (cleanC c) rfl
theorem whas_d (w:List Int) (n:Int) (hw:w.length≤maxI):DenU Tryz.prog [] 176 [imS (iL w),.int .i64 n] (.bool (hasB w n)):=by
 refine denU_of_body hmixU rfl Tryz.func176 rfl rfl rfl 0 ?_;intro Ts;(repeat' ((conv=>whnf);first|refine goD ?_|refine U.lw_c ?_ ?_<;>intro hb))
 (conv=>whnf);refine loop_inv (α:=List Int×List Int) (fun x=>x.1++x.2=w∧hasB x.2 n=hasB w n) (fun x=>(mkF [(0,imS (iL w)),(1,.int .i64 n),(5,.int .i64 x.1.length)],⟨mkO [],0,0,0⟩)) (fun x=>x.2.length) ([],w) ⟨rfl,rfl⟩ (Cov.renI rfl rfl rfl rfl .nil (.L rfl (cleanIL _) rfl (.cons rfl .I (.cons rfl .I .nil)))) ?_
 rintro ⟨pre,rest⟩ ⟨p1,p2⟩
 dsimp only at p1 p2;subst p1;rw[← p2];dsimp only;rcases rest with _|⟨i,rest⟩
 ·rw[List.append_nil] at *;have zb:=U.lt_no iL_map pre;(repeat' ((conv=>whnf);first|refine goD ?_|refine U.lw_c ?_ ?_<;>intro hb))
  (conv=>whnf);exact .same (.flat _ rfl) rfl
 ·have zb:=U.lt_yes iL_map pre (i) rest;have zc:=U.blt_yes iL_map pre (i) rest;have zn:=U.nth_at iL_map pre (i) rest;have zw:=U.len_snoc (pre:=pre) (x:=i) (post:=rest) (hw);by_cases h:i=n
  ·have g1:(i==n)=true:=by simpa using h
   rw[show hasB (i::rest) n=true by simp[hasB,h]]
   (repeat' ((conv=>whnf);first|refine goD ?_|refine U.lw_c ?_ ?_<;>intro hb))
   (conv=>whnf);exact .same (.flat _ rfl) rfl
  ·have g1:(i==n)=false:=by simpa using h
   (repeat' ((conv=>whnf);first|refine goD ?_|refine U.lw_c ?_ ?_<;>intro hb))
   (conv=>whnf);exact ⟨(pre++[i],rest),⟨by simp,by simp[hasB,h]⟩,by simp,(Cov.renI rfl rfl rfl rfl .nil (.L rfl (cleanIL _) rfl (.cons rfl .I (.L rfl (cleanI _) (congrArg (Value.int .i64) (zw.symm)) .nil))))⟩
theorem rany_d (s:SZ) (x y:List Int) (hx:x.length≤maxI) (hy:y.length≤maxI):DenU Tryz.prog [] 40 [encSt s,imS (iL x),imS (iL y)] (.bool (anyS s x y)):=by
 refine denU_of_body hmixU rfl Tryz.func40 rfl rfl rfl 0 ?_;intro Ts;have k1:=cleanSt s;(repeat' ((conv=>whnf);first|refine goD ?_|refine U.lw_c ?_ ?_<;>intro hb))
 (conv=>whnf);refine loop_inv (α:=List Int×List Int) (fun q=>q.1++q.2=x∧(q.2.any fun i=>(slotC s i).k)=x.any fun i=>(slotC s i).k) (fun q=>(mkF [(1,imS (iL x)),(2,imS (iL y)),(3,.pointer (some ⟨0,0,none⟩)),(7,.int .i64 q.1.length)],⟨mkO [(0,some (.cells 75 (cellsOf (encSt s)) false))],1,0,0⟩)) (fun q=>q.2.length) ([],x) ⟨rfl,rfl⟩ (Cov.renI rfl rfl rfl rfl (.W rfl (cleanSt_cells s) rfl .nil) (.L rfl (cleanIL _) rfl (.L rfl (cleanIL _) rfl (.cons rfl (.P rfl) (.cons rfl .I .nil))))) ?_
 rintro ⟨pre,rest⟩ ⟨p1,p2⟩
 dsimp only at p1 p2;subst p1;rw[anyS,← p2];dsimp only;rcases rest with _|⟨i,rest⟩
 ·rw[List.append_nil] at *;have zb:=U.lt_no iL_map pre;rw[List.any_nil,Bool.false_or];(repeat' ((conv=>whnf);first|refine goD ?_|refine U.lw_c ?_ ?_<;>intro hb))
  (conv=>whnf);refine loop_inv (α:=List Int×List Int) (fun q=>q.1++q.2=y∧(q.2.any fun i=>(arrC s i).k)=y.any fun i=>(arrC s i).k) (fun q=>(mkF [(1,imS (iL pre)),(2,imS (iL y)),(3,.pointer (some ⟨0,0,none⟩)),(8,.int .i64 q.1.length)],⟨mkO [(0,some (.cells 75 (cellsOf (encSt s)) false))],1,0,0⟩)) (fun q=>q.2.length) ([],y) ⟨rfl,rfl⟩ (Cov.renI rfl rfl rfl rfl (.W rfl (cleanSt_cells s) rfl .nil) (.L rfl (cleanIL _) rfl (.L rfl (cleanIL _) rfl (.cons rfl (.P rfl) (.cons rfl .I .nil))))) ?_
  rintro ⟨pre2,rest2⟩ ⟨p3,p4⟩
  dsimp only at p3 p4;subst p3;rw[← p4];dsimp only;rcases rest2 with _|⟨i,rest2⟩
  ·rw[List.append_nil] at *;have yb:=U.lt_no iL_map pre2;(repeat' ((conv=>whnf);first|refine goD ?_|refine U.lw_c ?_ ?_<;>intro hb))
   (conv=>whnf);exact .same (.flat _ rfl) rfl
  ·have yb:=U.lt_yes iL_map pre2 (i) rest2;have yc:=U.blt_yes iL_map pre2 (i) rest2;have yn:=U.nth_at iL_map pre2 (i) rest2;have yw:=U.len_snoc (pre:=pre2) (x:=i) (post:=rest2) (hy);have c:=rload_d s i
   have e9:((i::rest2).any fun i=>(arrC s i).k)=((arrC s i).k || rest2.any fun i=>(arrC s i).k):=rfl
   generalize arrC s i=cc at c e9
   obtain ⟨⟨lo,hi,m,r⟩,b⟩:=cc;cases b with
   |true =>
    rw[e9,Bool.true_or];(repeat' ((conv=>whnf);first|refine goD ?_|refine ⟨_,c,clM,tab0 _,?_⟩|refine U.drawX_p (D:=U.propX) 7 [] (by decide +kernel) (by decide +kernel) ?_|refine U.lw_c ?_ ?_<;>intro hb))
    (conv=>whnf);exact .same (.flat _ rfl) rfl
   |false =>
    rw[Bool.false_or] at e9;(repeat' ((conv=>whnf);first|refine goD ?_|refine ⟨_,c,clM,tab0 _,?_⟩|refine U.drawX_p (D:=U.propX) 7 [] (by decide +kernel) (by decide +kernel) ?_|refine U.lw_c ?_ ?_<;>intro hb))
    (conv=>whnf);exact ⟨(pre2++[i],rest2),⟨by simp,e9.symm⟩,by simp,(Cov.renI rfl rfl rfl rfl (.W rfl (cleanSt_cells s) rfl .nil) (.L rfl (cleanIL _) rfl (.L rfl (cleanIL _) rfl (.cons rfl (.P rfl) (.L rfl (cleanI _) (congrArg (Value.int .i64) (yw.symm)) .nil)))))⟩
 ·have zb:=U.lt_yes iL_map pre (i) rest;have zc:=U.blt_yes iL_map pre (i) rest;have zn:=U.nth_at iL_map pre (i) rest;have zw:=U.len_snoc (pre:=pre) (x:=i) (post:=rest) (hx);have c:=rget_d s i;have e9:((i::rest).any fun i=>(slotC s i).k)=((slotC s i).k || rest.any fun i=>(slotC s i).k):=rfl
  generalize slotC s i=cc at c e9
  obtain ⟨⟨lo,hi,m,r⟩,b⟩:=cc;cases b with
  |true =>
   rw[e9,Bool.true_or,Bool.true_or];(repeat' ((conv=>whnf);first|refine goD ?_|refine ⟨_,c,clM,tab0 _,?_⟩|refine U.drawX_p (D:=U.propX) 7 [] (by decide +kernel) (by decide +kernel) ?_|refine U.lw_c ?_ ?_<;>intro hb))
   (conv=>whnf);exact .same (.flat _ rfl) rfl
  |false =>
   rw[Bool.false_or] at e9;(repeat' ((conv=>whnf);first|refine goD ?_|refine ⟨_,c,clM,tab0 _,?_⟩|refine U.drawX_p (D:=U.propX) 7 [] (by decide +kernel) (by decide +kernel) ?_|refine U.lw_c ?_ ?_<;>intro hb))
   (conv=>whnf);exact ⟨(pre++[i],rest),⟨by simp,e9.symm⟩,by simp,(Cov.renI rfl rfl rfl rfl (.W rfl (cleanSt_cells s) rfl .nil) (.L rfl (cleanIL _) rfl (.L rfl (cleanIL _) rfl (.cons rfl (.P rfl) (.L rfl (cleanI _) (congrArg (Value.int .i64) (zw.symm)) .nil)))))⟩
theorem rexpr_step (s:SZ) (k n a o:Int) (l:List Ex) (hl:l.length≤1000) (ih:∀e∈l,DenU Tryz.prog [] 38 [encSt s,encE e] (.bool (exM s e))):DenU Tryz.prog [] 38 [encSt s,encE (.mk k n a o l)] (.bool (exM s (.mk k n a o l))):=by
 refine denU_of_body hmixU rfl Tryz.func38 rfl rfl rfl 0 ?_;intro Ts;have k1:=cleanSt s;have c1:=rget_d s a;have c2:=rload_d s a;have hex:exM s (.mk k n a o l)=((decide (k=1)&&(slotC s a).k) || (decide (k=2)&&(arrC s a).k) || exMs s l):=by rw[exM]
 generalize slotC s a=cs at c1 hex
 generalize arrC s a=ca at c2 hex
 obtain ⟨⟨lo,hi,m,r⟩,b1⟩:=cs;obtain ⟨⟨lo2,hi2,m2,r2⟩,b2⟩:=ca;dsimp only at hex;have hq:(k=1∧b1=true∧exM s (.mk k n a o l)=true)∨(k=2∧b2=true∧exM s (.mk k n a o l)=true)∨(k=1∧b1=false∧exM s (.mk k n a o l)=exMs s l)∨(k=2∧b2=false∧exM s (.mk k n a o l)=exMs s l)∨(k≠1∧k≠2∧exM s (.mk k n a o l)=exMs s l):=by
  rw[hex];by_cases h1:k=1
  ·subst h1;cases b1<;>simp
  ·by_cases h2:k=2
   ·subst h2;cases b2<;>simp
   ·simp[h1,h2]
 clear hex;rcases hq with ⟨hk,hm,hr⟩|⟨hk,hm,hr⟩|hq
 ·have g1:(k==1)=true:=by simpa using hk
  subst hm;rw[hr];(repeat' ((conv=>whnf);first|refine goD ?_|refine ⟨_,c1,clM,tab0 _,?_⟩|refine U.lw_c ?_ ?_<;>intro hb))
  (conv=>whnf);exact .same (.flat _ rfl) rfl
 ·have g1:(k==1)=false:=by rw[hk];rfl
  have g2:(k==2)=true:=by simpa using hk
  subst hm;rw[hr];(repeat' ((conv=>whnf);first|refine goD ?_|refine ⟨_,c2,clM,tab0 _,?_⟩|refine U.lw_c ?_ ?_<;>intro hb))
  (conv=>whnf);exact .same (.flat _ rfl) rfl
 rcases hq with ⟨hk,hm,hr⟩|⟨hk,hm,hr⟩|⟨hm,hk,hr⟩
 focus
  have g1:(k==1)=true:=by simpa using hk
  have g2:(k==2)=false:=by rw[hk];rfl
  subst hm;rw[hr];(repeat' ((conv=>whnf);first|refine goD ?_|refine ⟨_,c1,clM,tab0 _,?_⟩|refine U.lw_c ?_ ?_<;>intro hb))
  (conv=>whnf)
 rotate_left 1
 focus
  have g1:(k==1)=false:=by rw[hk];rfl
  have g2:(k==2)=true:=by simpa using hk
  subst hm;rw[hr];(repeat' ((conv=>whnf);first|refine goD ?_|refine ⟨_,c2,clM,tab0 _,?_⟩|refine U.lw_c ?_ ?_<;>intro hb))
  (conv=>whnf)
 rotate_left 1
 focus
  have g1:(k==1)=false:=by simpa using hm
  have g2:(k==2)=false:=by simpa using hk
  rw[hr];(repeat' ((conv=>whnf);first|refine goD ?_|refine U.lw_c ?_ ?_<;>intro hb))
  (conv=>whnf)
 rotate_left 1
 all_goals
  clear hr c1 c2;refine loop_inv (α:=List Ex×List Ex) (fun x=>x.1++x.2=l∧exMs s x.2=exMs s l) (fun x=>(mkF [(2,.pointer (some ⟨0,0,none⟩)),(3,.pointer (some ⟨1,0,none⟩)),(5,.int .i64 x.1.length)],⟨mkO [(0,some (.cells 75 (cellsOf (encSt s)) false)),(1,some (.cells 62 [.int .i64 k,.int .i64 n,.int .i64 a,.int .i64 o,imS (encEs l)] false))],2,0,0⟩)) (fun x=>x.2.length) ([],l) ⟨rfl,rfl⟩ (Cov.renI rfl rfl rfl rfl (.W rfl (cleanSt_cells s) rfl (.C rfl (.cons .I (.cons .I (.cons .I (.cons .I (.L (cleanEs _) rfl .nil))))) .nil)) (.cons rfl (.P rfl) (.cons rfl (.P rfl) (.cons rfl .I .nil)))) ?_
  rintro ⟨pre,rest⟩ ⟨p1,p2⟩
  dsimp only at p1 p2;subst p1;rw[← p2];dsimp only;rcases rest with _|⟨e,rest⟩
  ·rw[List.append_nil] at *;have zb:=U.lt_no encEs_map pre;(repeat' ((conv=>whnf);first|refine goD ?_|refine U.lw_c ?_ ?_<;>intro hb))
   (conv=>whnf);exact .same (.flat _ rfl) rfl
  ·have zb:=U.lt_yes encEs_map pre (e) rest;have zc:=U.blt_yes encEs_map pre (e) rest;have zn:=U.nth_at encEs_map pre (e) rest;have zw:=U.len_snoc (pre:=pre) (x:=e) (post:=rest) ((Nat.le_trans hl (by decide)))
   have c:=ih e (by simp)
   have ke:=cleanE e;have e9:exMs s (e::rest)=(exM s e || exMs s rest):=rfl
   clear ih;obtain ⟨b,hb⟩:∃b,b=exM s e:=⟨_,rfl⟩
   rw[← hb] at c e9;obtain ⟨k1,n1,a1,o1,l1⟩:=e;cases b with
   |true =>
    rw[e9,Bool.true_or];(repeat' ((conv=>whnf);first|refine goD ?_|refine ⟨_,c,clM,tab0 _,?_⟩|refine U.drawX_p (D:=U.propX) 7 [] (by decide +kernel) (by decide +kernel) ?_|refine U.lw_c ?_ ?_<;>intro hb))
    (conv=>whnf);exact .same (.flat _ rfl) rfl
   |false =>
    rw[Bool.false_or] at e9;(repeat' ((conv=>whnf);first|refine goD ?_|refine ⟨_,c,clM,tab0 _,?_⟩|refine U.drawX_p (D:=U.propX) 7 [] (by decide +kernel) (by decide +kernel) ?_|refine U.lw_c ?_ ?_<;>intro hb))
    (conv=>whnf);exact ⟨(pre++[.mk k1 n1 a1 o1 l1],rest),⟨by simp,e9.symm⟩,by simp,(Cov.renI rfl rfl rfl rfl (.W rfl (cleanSt_cells s) rfl (.C rfl (.cons .I (.cons .I (.cons .I (.cons .I (.L (cleanEs _) rfl .nil))))) .nil)) (.cons rfl (.P rfl) (.cons rfl (.P rfl) (.L rfl (cleanI _) (congrArg (Value.int .i64) (zw.symm)) .nil))))⟩
theorem rexpr_all (s:SZ):∀(n:Nat) (e:Ex),szE e≤n->n≤1000->DenU Tryz.prog [] 38 [encSt s,encE e] (.bool (exM s e))
 |0,e,h,_=>by have:=szE_pos e;omega
 |n+1,.mk k m a o l,h,hn=>by
  rw[szE] at h;have:=szEs_len l;exact rexpr_step s k m a o l (by omega) fun e he=>rexpr_all s n e (by have:=szEs_mem he;omega) (by omega)
theorem cellsC_snoc (l:List CZ) (c:CZ):cellsAll (cL (l++[c]))=cellsAll (cL l)++cellsOf (encC c):=by
 rw[cellsC_app];simp[cL,cellsAll]
theorem rsome_d (l:List CZ) (w:List Int) (m:Bool) (hl:l.length≤1000) (hw:w.length≤maxI):DenU Tryz.prog [] 98 [imS (cL l),imS (iL w),.bool true,.bool m] (imS (cL (refL m w l 0))):=by
 refine denU_of_body hmixU rfl Tryz.func98 rfl rfl rfl 0 ?_;intro Ts;have kw:=cleanIL w;have ct:=rtop_d;(repeat' ((conv=>whnf);first|refine goD ?_|refine U.lw_c ?_ ?_<;>intro hb))
 (conv=>whnf);refine loop_inv (α:=List CZ×List CZ) (fun x=>x.1++x.2=l) (fun x=>(mkF [(0,imS (cL l)),(1,imS (iL w)),(2,.bool true),(3,.bool m),(9,rowS 0 (cL (refL m w x.1 0))),(10,.int .i64 x.1.length)],⟨mkO [(0,rowO 163 (cL (refL m w x.1 0)))],1,0,0⟩)) (fun x=>x.2.length) ([],l) rfl (Cov.renI rfl rfl rfl rfl (.none .nil) (.L rfl (cleanCL _) rfl (.L rfl (kw) rfl (.K rfl rfl rfl (.K rfl rfl rfl (.K rfl rfl rfl (.cons rfl .I .nil))))))) ?_
 rintro ⟨pre,rest⟩ p1
 dsimp only at p1;subst p1;dsimp only;rcases rest with _|⟨c,rest⟩
 ·rw[List.append_nil] at *;have zb:=U.lt_no cL_map pre;(repeat' ((conv=>whnf);first|refine goD ?_|refine U.lw_c ?_ ?_<;>intro hb))
  (conv=>whnf);exact .ofRow zL rfl (cL_5 _) (cleanCC _)
 ·have zb:=U.lt_yes cL_map pre (c) rest;have zc:=U.blt_yes cL_map pre (c) rest;have zn:=U.nth_at cL_map pre (c) rest;have zw:=U.len_snoc (pre:=pre) (x:=c) (post:=rest) ((Nat.le_trans hl (by decide)))
  have cl:=refL_len m w pre 0;have e1:=refL_snoc m w pre 0 c;have ch:=whas_d w pre.length hw;have e2:refC m w c (0+pre.length)=if hasB w (pre.length:Int)=true then topC m c else c:=by rw[refC,Nat.zero_add]
  obtain ⟨c',hc'⟩:∃c',c'=refC m w c (0+pre.length):=⟨_,rfl⟩
  rw[← hc'] at e1 e2;generalize hasB w (pre.length:Int)=b at ch e2
  obtain ⟨cc,hcc⟩:∃cc,cc=c:=⟨_,rfl⟩
  rw[← hcc] at e1;obtain ⟨⟨lo,hi,mm,r⟩,ck⟩:=c;have hq:(b=false∧c'=⟨⟨lo,hi,mm,r⟩,ck⟩)∨(b=true∧ck=true∧c'=⟨topZ,true⟩)∨(b=true∧ck=false∧c'=⟨topZ,m⟩):=by
   rw[e2];cases b<;>cases ck<;>simp[topC]
  clear e2 hc'
  have hln:(List.map encC (refL m w pre 0)).length≤1000:=by rw[List.length_map,cl];simp at hl;omega
  generalize refL m w pre 0=R at cl e1 hln ⊢
  rcases R with _|⟨r0,R⟩
  ·rcases hq with ⟨rfl,rfl⟩|⟨rfl,rfl,rfl⟩|⟨rfl,rfl,rfl⟩
   all_goals
    (repeat' ((conv=>whnf);first|refine goD ?_|refine ⟨_,ch,clM,tab0 _,?_⟩|refine ⟨_,ct,clM,tab0 _,?_⟩|refine U.lw_c ?_ ?_<;>intro hb))
    (conv=>whnf);refine ⟨(pre++[cc],rest),by rw[hcc];simp,by simp,?_⟩
    dsimp only;rw[e1];exact (Cov.renO (fun k=>if k=0 then 3 else k) rfl rfl (bR rfl) zL (fun k hk=>by have:k<0:=hk;rw[if_neg (by omega)]) rfl nlz (blksO.grown rfl rfl (cleanCC _) .nil) (.L rfl (cleanCL _) rfl (.L rfl (kw) rfl (.K rfl rfl rfl (.K rfl rfl rfl (.cons rfl (.grown (by decide) rfl (by simp[cL]) (by simp[cL]) (by simp[cL])) (.L rfl (cleanI _) (congrArg (Value.int .i64) ((by rw[hcc];exact zw.symm))) .nil)))))))
  ·have hgr:(cellsAll (encC r0::List.map encC R)).length=((List.map encC R).length+1)*5:=by
    rw[show encC r0::List.map encC R=cL (r0::R) from rfl,cellsC_len,List.length_map];rfl
   have hg1:(List.map encC R).length+1+(0+1)≤100000:=by simp at hln ⊢;omega
   rcases hq with ⟨rfl,rfl⟩|⟨rfl,rfl,rfl⟩|⟨rfl,rfl,rfl⟩
   all_goals
    (repeat' ((conv=>whnf);first|refine goA ?_|(rw[U.ble_f ((List.map encC R).length+1)];dsimp only;refine U.growRow_p hgr rfl ?_)|refine U.ob_c (grow_ok (by decide +kernel) hg1) ?_|refine goB ?_|refine ⟨_,ch,clM,tab0 _,?_⟩|refine ⟨_,ct,clM,tab0 _,?_⟩|refine U.lw_c ?_ ?_<;>intro hb))
    (conv=>whnf);refine ⟨(pre++[cc],rest),by rw[hcc];simp,by simp,?_⟩
    dsimp only;rw[e1];exact (Cov.renO (fun k=>if k=0 then 3 else k) rfl rfl (bR rfl) zL (fun k hk=>by have:k<0:=hk;rw[if_neg (by omega)]) rfl nlz (blksO.grown rfl ((cellsC_snoc (r0::R) _)) (cleanCC _) .nil) (.L rfl (cleanCL _) rfl (.L rfl (kw) rfl (.K rfl rfl rfl (.K rfl rfl rfl (.cons rfl (.grown (by decide) rfl (by simp[cL]) (by simp[cL]) (by simp[cL])) (.L rfl (cleanI _) (congrArg (Value.int .i64) ((by rw[hcc];exact zw.symm))) .nil)))))))
theorem rchange_d (s:SZ) (x y:List Int) (m:Bool) (h1:s.slots.length≤1000) (h2:s.arrs.length≤1000) (hx:x.length≤maxI) (hy:y.length≤maxI) (hn:s.none=false):DenU Tryz.prog [] 35 [encSt s,imS (iL x),imS (iL y),.bool true,.bool m] (encSt (havS s x y m)):=by
 refine denU_of_body hmixU rfl Tryz.func35 rfl rfl rfl 0 ?_;intro Ts;have k1:=cleanIL x;have k2:=cleanIL y;have c1:=rsome_d s.slots x m h1 hx;have c2:=rsome_d s.arrs y m h2 hy;rw[refL_eq] at c1 c2
 have k3:=cleanCL s.slots;have k4:=cleanCL s.arrs;obtain ⟨sl,ar,no⟩:=s;dsimp only at *;subst hn;rw[show havS ⟨sl,ar,false⟩ x y m=⟨havL m sl x,havL m ar y,false⟩ from rfl]
 have k5:=cleanCL (havL m sl x);have k6:=cleanCL (havL m ar y);(repeat' ((conv=>whnf);first|refine goD ?_|refine ⟨_,c1,clM,tab0 _,?_⟩|refine ⟨_,c2,clM,tab0 _,?_⟩|refine U.drawX_p (D:=U.propX) 13 [] (by decide +kernel) (by decide +kernel) ?_|refine U.lw_c ?_ ?_<;>intro hb))
 (conv=>whnf);exact .same (cleanSt ⟨havL m sl x,havL m ar y,false⟩) rfl
end Go.Proofs.YtnfppdblcmollaaGreatDoor
