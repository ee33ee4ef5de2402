
import Derived.Test.YtocppbocphnbcaaGreatDoorXS35
import Derived.Test.YtocppbocphnbcaaGreatDoorXS39
namespace Go.Proofs.YtocppbocphnbcaaGreatDoor
open Go Go.RowKit Go.Sort U
set_option linter.unusedVariables false
set_option linter.unusedSimpArgs false
set_option maxRecDepth 100000
set_option maxHeartbeats 40000000
theorem IrExpr_d (k n a o:Int) (l:List Ex) (hl:l.length≤1000) (ih:∀e∈l,DenU Tryz.prog [] 42 [encE e] (encE e)):DenU Tryz.prog [] 42 [encE (.mk k n a o l)] (encE (.mk k n a o l)):=by
 refine denU_of_body hmixU rfl Tryz.func42 rfl rfl rfl 0 ?_;intro Ts;(repeat' ((conv=>whnf);first|refine goD ?_|refine U.lw_c ?_ ?_<;>intro hb))
 (conv=>whnf);refine loop_inv (α:=List Ex×List Ex) (fun x=>x.1++x.2=l) (fun x=>(mkF [(1,.pointer (some ⟨0,0,none⟩)),(2,.pointer (some ⟨1,0,none⟩)),(3,.pointer (some ⟨2,0,none⟩)),(4,.int .i64 x.1.length)],⟨mkO [(0,some (.cells 60 [.int .i64 k,.int .i64 n,.int .i64 a,.int .i64 o,imS (encEs l)] false)),(1,some (.cells 100 [.int .i64 0,.int .i64 0,.int .i64 0,.int .i64 0,.slice none 0 0] false)),(2,some (.cells 100 [.int .i64 k,.int .i64 n,.int .i64 a,.int .i64 o,rowS 3 (encEs x.1)] false)),(3,rowO 100 (encEs x.1))],4,0,0⟩)) (fun x=>x.2.length) ([],l) rfl (Cov.renI rfl rfl rfl rfl (.C rfl (.K rfl rfl (.K rfl rfl (.K rfl rfl (.K rfl rfl (.L (cleanEs _) rfl .nil))))) (.C rfl (.K rfl rfl (.K rfl rfl (.K rfl rfl (.K rfl rfl (.K rfl rfl .nil))))) (.C rfl (.K rfl rfl (.K rfl rfl (.K rfl rfl (.K rfl rfl (.K rfl rfl .nil))))) (.none .nil)))) (.cons rfl (.P rfl) (.cons rfl (.P rfl) (.cons rfl (.P rfl) (.cons rfl .I .nil))))) ?_
 rintro ⟨pre,rest⟩ p1
 dsimp only at p1;subst p1;dsimp only;rcases rest with _|⟨e,rest⟩
 ·rw[List.append_nil] at *;have zb:=U.lt_no encEs_map pre;have hone:[Value.int IntKind.i64 k,.int .i64 n,.int .i64 a,.int .i64 o,rowS 3 (encEs pre)].all Value.oneCell'=true:=by cases pre<;>rfl
  (repeat' ((conv=>whnf);first|refine goA ?_|refine U.ob_c hone ?_|refine goB ?_|refine U.lw_c ?_ ?_<;>intro hb))
  (conv=>whnf);refine .aggL (.cons (.clean _ (cleanI _)) (.cons (.clean _ (cleanI _)) (.cons (.clean _ (cleanI _)) (.cons (.clean _ (cleanI _)) (.cons ?_ .nil)))));cases pre with
  |nil=>exact .nil
  |cons e0 pre=>exact .rowL zL rfl rfl (cellsE_5 (e0::pre)) rfl rL (cleanCells (e0::pre))
 ·have zb:=U.lt_yes encEs_map pre (e) rest;have zc:=U.blt_yes encEs_map pre (e) rest;have zn:=U.nth_at encEs_map pre (e) rest;have zw:=U.len_snoc (pre:=pre) (x:=e) (post:=rest) ((Nat.le_trans (show _≤1000 by omega) (by decide)))
  have c1:=ih e (by simp)
  have ke:=cleanE e;clear ih;obtain ⟨k1,n1,a1,o1,l1⟩:=e;rcases pre with _|⟨e0,pre⟩
  ·(repeat' ((conv=>whnf);first|refine goD ?_|refine ⟨_,c1,clM,tab0 _,?_⟩|refine U.drawX_p (D:=U.propX) 9 [] (by decide +kernel) (by decide +kernel) ?_|refine U.lw_c ?_ ?_<;>intro hb))
   (conv=>whnf);exact ⟨([]++[.mk k1 n1 a1 o1 l1],rest),by simp,by simp,(Cov.renO (fun k=>if k=3 then 5 else k) rfl rfl (bR rfl) zL (fun k hk=>by have:k<3:=hk;rw[if_neg (by omega)]) rfl nlz (.C rfl (.K rfl rfl (.K rfl rfl (.K rfl rfl (.K rfl rfl (.L (cleanEs _) rfl .nil))))) (.C rfl (.K rfl rfl (.K rfl rfl (.K rfl rfl (.K rfl rfl (.K rfl rfl .nil))))) (.C rfl (.K rfl rfl (.K rfl rfl (.K rfl rfl (.K rfl rfl (.cons (.grown (by decide) rfl (by simp[encEs]) (by simp[encEs]) (by simp[encEs])) .nil))))) (blksO.grown rfl rfl (cleanCells _) .nil)))) (.cons rfl (.P rfl) (.cons rfl (.P rfl) (.cons rfl (.P rfl) (.L rfl (cleanI _) (congrArg (Value.int .i64) (zw.symm)) .nil)))))⟩
  ·have hgr:(cellsAll (encE e0::encEs pre)).length=((encEs pre).length+1)*5:=by
    rw[show encE e0::encEs pre=encEs (e0::pre) from rfl,cellsEs_len,encEs_map,List.length_map];rfl
   have hg1:(encEs pre).length+1+(0+1)≤100000:=by rw[encEs_map,List.length_map];simp at hl;omega
   (repeat' ((conv=>whnf);first|refine goA ?_|(rw[U.ble_f ((encEs pre).length+1)];dsimp only;refine U.growRow_p hgr rfl ?_)|refine U.ob_c (grow_ok (by decide +kernel) hg1) ?_|refine goB ?_|refine ⟨_,c1,clM,tab0 _,?_⟩|refine U.drawX_p (D:=U.propX) 9 [] (by decide +kernel) (by decide +kernel) ?_|refine U.lw_c ?_ ?_<;>intro hb))
   (conv=>whnf);exact ⟨((e0::pre)++[.mk k1 n1 a1 o1 l1],rest),by simp,by simp,(Cov.renO (fun k=>if k=3 then 5 else k) rfl rfl (bR rfl) zL (fun k hk=>by have:k<3:=hk;rw[if_neg (by omega)]) rfl nlz (.C rfl (.K rfl rfl (.K rfl rfl (.K rfl rfl (.K rfl rfl (.L (cleanEs _) rfl .nil))))) (.C rfl (.K rfl rfl (.K rfl rfl (.K rfl rfl (.K rfl rfl (.K rfl rfl .nil))))) (.C rfl (.K rfl rfl (.K rfl rfl (.K rfl rfl (.K rfl rfl (.cons (.grown (by decide) rfl (by simp[encEs]) (by simp[encEs,encEs_map]) (by simp[encEs,encEs_map])) .nil))))) (blksO.grown rfl ((cellsEs_snoc (e0::pre) _)) (cleanCells _) .nil)))) (.cons rfl (.P rfl) (.cons rfl (.P rfl) (.cons rfl (.P rfl) (.L rfl (cleanI _) (congrArg (Value.int .i64) (zw.symm)) .nil)))))⟩
theorem IrStmts_d (l:List St) (hl:l.length≤1000)
  (ih:∀k a xs th el no,St.mk k a xs th el no∈l->xs.length≤1000∧(∀e∈xs,DenU Tryz.prog [] 42 [encE e] (encE e))∧DenU Tryz.prog [] 12 [imS (encSs th)] (imS (encSs th))∧DenU Tryz.prog [] 12 [imS (encSs el)] (imS (encSs el))) :
  DenU Tryz.prog [] 12 [imS (encSs l)] (imS (encSs l)):=by
 refine denU_of_body hmixU rfl Tryz.func12 rfl rfl rfl 0 ?_;intro Ts;(repeat' ((conv=>whnf);first|refine goD ?_|refine U.lw_c ?_ ?_<;>intro hb))
 (conv=>whnf);refine loop_inv (α:=List St×List St) (fun x=>x.1++x.2=l) (fun x=>(mkF [(0,imS (encSs l)),(2,.slice none 0 0),(3,rowS 0 (encSs x.1)),(4,.int .i64 x.1.length)],⟨mkO [(0,rowO 98 (encSs x.1))],1,0,0⟩)) (fun x=>x.2.length) ([],l) rfl (Cov.renI rfl rfl rfl rfl (.none .nil) (.L rfl (cleanSs _) rfl (.K rfl rfl rfl (.K rfl rfl rfl (.cons rfl .I .nil))))) ?_
 rintro ⟨pre,rest⟩ h1
 dsimp only at h1;subst h1;dsimp only;rcases rest with _|⟨s,rest⟩
 ·rw[List.append_nil] at *;have zb:=U.lt_no encSs_map pre;(repeat' ((conv=>whnf);first|refine goD ?_|refine U.lw_c ?_ ?_<;>intro hb))
  (conv=>whnf);exact .ofRow zL rfl (cellsS_6 pre) (cleanSCells pre)
 ·have zb:=U.lt_yes encSs_map pre (s) rest;have zc:=U.blt_yes encSs_map pre (s) rest;have zn:=U.nth_at encSs_map pre (s) rest;have zw:=U.len_snoc (pre:=pre) (x:=s) (post:=rest) ((Nat.le_trans (show _≤1000 by omega) (by decide)))
  obtain ⟨k,a,xs,th,el,no⟩:=s;obtain ⟨hx,ihx,c2,c3⟩:=ih k a xs th el no (by simp)
  clear ih;have kt:=cleanSs th;have ke:=cleanSs el;(repeat' ((conv=>whnf);first|refine goD ?_|refine ⟨_,c2,clM,tab0 _,?_⟩|refine ⟨_,c3,clM,tab0 _,?_⟩|refine U.drawX_p (D:=U.propX) 14 [] (by decide +kernel) (by decide +kernel) ?_|refine U.lw_c ?_ ?_<;>intro hb))
  (conv=>whnf);refine loop_inv (α:=List Ex×List Ex) (fun x=>x.1++x.2=xs) (fun x=>(mkF [(0,imS (encSs (pre++.mk k a xs th el no::rest))),(2,.slice none 0 0),(3,rowS 0 (encSs pre)),(4,.int .i64 pre.length),(5,.pointer (some ⟨1,0,none⟩)),(6,.pointer (some ⟨2,0,none⟩)),(7,.int .i64 x.1.length)],⟨mkO [(0,rowO 98 (encSs pre)),(1,some (.cells 52 [.int .i64 k,.int .i64 a,imS (encEs xs),imS (encSs th),imS (encSs el),.int .i64 no] false)),(2,some (.cells 98 [.int .i64 k,.int .i64 a,rowS 3 (encEs x.1),imS (encSs th),imS (encSs el),.int .i64 no] false)),(3,rowO 100 (encEs x.1))],4,0,0⟩)) (fun x=>x.2.length) ([],xs) rfl (Cov.renI rfl rfl rfl rfl (blksO.row rfl rfl (cleanSCells _) (.C rfl (.K rfl rfl (.K rfl rfl (.L (cleanEs _) rfl (.L (cleanSs _) rfl (.L (cleanSs _) rfl (.K rfl rfl .nil)))))) (.C rfl (.K rfl rfl (.K rfl rfl (.K rfl rfl (.L (cleanSs _) rfl (.L (cleanSs _) rfl (.K rfl rfl .nil)))))) (.none .nil)))) (.L rfl (cleanSs _) rfl (.K rfl rfl rfl (.cons rfl (.ofRow (by decide) rfl rfl) (.cons rfl .I (.cons rfl (.P rfl) (.cons rfl (.P rfl) (.cons rfl .I .nil)))))))) ?_
  rintro ⟨ipre,irest⟩ h2
  dsimp only at h2;subst h2;dsimp only;rcases irest with _|⟨e,irest⟩
  ·rw[List.append_nil] at *;have yb:=U.lt_no encEs_map ipre;have hone:[Value.int IntKind.i64 k,.int .i64 a,rowS 3 (encEs ipre),imS (encSs th),imS (encSs el),.int .i64 no].all Value.oneCell'=true:=by cases ipre<;>rfl
   rcases pre with _|⟨s0,pre⟩
   ·(repeat' ((conv=>whnf);first|refine goA ?_|refine U.ob_c hone ?_|refine goB ?_|refine U.lw_c ?_ ?_<;>intro hb))
    (conv=>whnf);exact ⟨([]++[.mk k a ipre th el no],rest),by simp,by simp,(Cov.frz (fun k=>if k=0 then 5 else k) 3 5 (T:=100) (ys:=encEs ipre) rfl rfl zL zL nlz rfl nlz zL rfl rfl (cellsE_5 ipre) (cleanCells ipre) (.grownL rfl (.cons .I (.cons .I (.cons (by exact .ext _ _ ⟨rfl,rfl⟩) (.L (cleanSs _) rfl (.L (cleanSs _) rfl (.cons .I .nil)))))) .nil) (.L rfl (cleanSs _) rfl (.K rfl rfl rfl (.cons rfl (.grown (by decide) rfl (by simp[encSs]) (by simp[encSs]) (by simp[encSs])) (.L rfl (cleanI _) (congrArg (Value.int .i64) zw.symm) .nil)))))⟩
   ·have hgr:(cellsAll (encS s0::encSs pre)).length=((encSs pre).length+1)*6:=by
     rw[show encS s0::encSs pre=encSs (s0::pre) from rfl,cellsSs_len,encSs_map,List.length_map];rfl
    have hg1:(encSs pre).length+1+(0+1)≤100000:=by rw[encSs_map,List.length_map];simp at hl;omega
    (repeat' ((conv=>whnf);first|refine goA ?_|(rw[U.ble_f ((encSs pre).length+1)];dsimp only;refine U.growRow_p hgr rfl ?_)|refine U.ob_c (grow_ok (by decide +kernel) hg1) ?_|refine U.ob_c hone ?_|refine goB ?_|refine U.lw_c ?_ ?_<;>intro hb))
    (conv=>whnf);exact ⟨((s0::pre)++[.mk k a ipre th el no],rest),by simp,by simp,(Cov.frz (fun k=>if k=0 then 5 else k) 3 5 (T:=100) (ys:=encEs ipre) rfl rfl zL zL nlz rfl nlz zL rfl rfl (cellsE_5 ipre) (cleanCells ipre) (.grownL rfl (by rw[cellsSs_snoc];exact RenL.app (RenL.refl (cleanSCells (s0::pre))) (.cons .I (.cons .I (.cons (by exact .ext _ _ ⟨rfl,rfl⟩) (.L (cleanSs _) rfl (.L (cleanSs _) rfl (.cons .I .nil))))))) .nil) (.L rfl (cleanSs _) rfl (.K rfl rfl rfl (.cons rfl (.grown (by decide) rfl (by simp[encSs]) (by simp[encSs,encSs_map]) (by simp[encSs,encSs_map])) (.L rfl (cleanI _) (congrArg (Value.int .i64) zw.symm) .nil)))))⟩
  ·have yb:=U.lt_yes encEs_map ipre (e) irest;have yc:=U.blt_yes encEs_map ipre (e) irest;have yn:=U.nth_at encEs_map ipre (e) irest;have yw:=U.len_snoc (pre:=ipre) (x:=e) (post:=irest) ((Nat.le_trans (show _≤1000 by omega) (by decide)))
   have c1:=ihx e (by simp)
   have kee:=cleanE e;clear ihx;obtain ⟨k1,n1,a1,o1,l1⟩:=e;rcases ipre with _|⟨e0,ipre⟩
   ·(repeat' ((conv=>whnf);first|refine goD ?_|refine ⟨_,c1,clM,tab0 _,?_⟩|refine U.drawX_p (D:=U.propX) 9 [] (by decide +kernel) (by decide +kernel) ?_|refine U.lw_c ?_ ?_<;>intro hb))
    (conv=>whnf);exact ⟨([]++[.mk k1 n1 a1 o1 l1],irest),by simp,by simp,(Cov.renO (fun k=>if k=3 then 5 else k) rfl rfl (bR rfl) zL (fun k hk=>by have:k<3:=hk;rw[if_neg (by omega)]) rfl nlz (blksO.row rfl rfl (cleanSCells _) (.C rfl (.K rfl rfl (.K rfl rfl (.L (cleanEs _) rfl (.L (cleanSs _) rfl (.L (cleanSs _) rfl (.K rfl rfl .nil)))))) (.C rfl (.K rfl rfl (.K rfl rfl (.cons (.grown (by decide) rfl (by simp[encEs]) (by simp[encEs]) (by simp[encEs])) (.L (cleanSs _) rfl (.L (cleanSs _) rfl (.K rfl rfl .nil)))))) (blksO.grown rfl rfl (cleanCells _) .nil)))) (.L rfl (cleanSs _) rfl (.K rfl rfl rfl (.cons rfl (.ofRow (by decide) rfl rfl) (.cons rfl .I (.cons rfl (.P rfl) (.cons rfl (.P rfl) (.L rfl (cleanI _) (congrArg (Value.int .i64) (yw.symm)) .nil))))))))⟩
   ·have hgr:(cellsAll (encE e0::encEs ipre)).length=((encEs ipre).length+1)*5:=by
     rw[show encE e0::encEs ipre=encEs (e0::ipre) from rfl,cellsEs_len,encEs_map,List.length_map];rfl
    have hg1:(encEs ipre).length+1+(0+1)≤100000:=by rw[encEs_map,List.length_map];simp at hx;omega
    (repeat' ((conv=>whnf);first|refine goA ?_|(rw[U.ble_f ((encEs ipre).length+1)];dsimp only;refine U.growRow_p hgr rfl ?_)|refine U.ob_c (grow_ok (by decide +kernel) hg1) ?_|refine goB ?_|refine ⟨_,c1,clM,tab0 _,?_⟩|refine U.drawX_p (D:=U.propX) 9 [] (by decide +kernel) (by decide +kernel) ?_|refine U.lw_c ?_ ?_<;>intro hb))
    (conv=>whnf);exact ⟨((e0::ipre)++[.mk k1 n1 a1 o1 l1],irest),by simp,by simp,(Cov.renO (fun k=>if k=3 then 5 else k) rfl rfl (bR rfl) zL (fun k hk=>by have:k<3:=hk;rw[if_neg (by omega)]) rfl nlz (blksO.row rfl rfl (cleanSCells _) (.C rfl (.K rfl rfl (.K rfl rfl (.L (cleanEs _) rfl (.L (cleanSs _) rfl (.L (cleanSs _) rfl (.K rfl rfl .nil)))))) (.C rfl (.K rfl rfl (.K rfl rfl (.cons (.grown (by decide) rfl (by simp[encEs]) (by simp[encEs,encEs_map]) (by simp[encEs,encEs_map])) (.L (cleanSs _) rfl (.L (cleanSs _) rfl (.K rfl rfl .nil)))))) (blksO.grown rfl ((cellsEs_snoc (e0::ipre) _)) (cleanCells _) .nil)))) (.L rfl (cleanSs _) rfl (.K rfl rfl rfl (.cons rfl (.ofRow (by decide) rfl rfl) (.cons rfl .I (.cons rfl (.P rfl) (.cons rfl (.P rfl) (.L rfl (cleanI _) (congrArg (Value.int .i64) (yw.symm)) .nil))))))))⟩
theorem IrExpr_all:∀(n:Nat) (e:Ex),szE e≤n->n≤1000->DenU Tryz.prog [] 42 [encE e] (encE e)
 |0,e,h,_=>by have:=szE_pos e;omega
 |n+1,.mk k m a o l,h,hn=>by
  rw[szE] at h;have:=szEs_len l;exact IrExpr_d k m a o l (by omega) fun e he=>IrExpr_all n e (by have:=szEs_mem he;omega) (by omega)
theorem IrStmts_all:∀(n:Nat) (l:List St),szSs l≤n->n≤1000->DenU Tryz.prog [] 12 [imS (encSs l)] (imS (encSs l))
 |0,l,h,hn=>by
  have:=szSs_len l;exact IrStmts_d l (by omega) fun k a xs th el no hm=>by
   have:=szSs_mem hm;rw[szS] at this;omega
 |n+1,l,h,hn=>by
  have:=szSs_len l;refine IrStmts_d l (by omega) fun k a xs th el no hm=>?_
  have:=szSs_mem hm;rw[szS] at this;have:=szEs_len xs;exact ⟨by omega,fun e he=>IrExpr_all 1000 e (by have:=szEs_mem he;omega) rL,IrStmts_all n th (by omega) (by omega),IrStmts_all n el (by omega) (by omega)⟩
theorem cellsIn_snoc (l:List In13) (x:In13):cellsAll (inL (l++[x]))=cellsAll (inL l)++cellsOf (encIn x):=by
 rw[inL_map,inL_map,List.map_append,cellsAll,List.flatMap_append];simp[cellsAll]
theorem rowS_c (b:Nat) (s0:Int) (ps:List Int):Value.slice (some ⟨b,0,none⟩) (0+((List.map (Value.int .i64) ps).length+1)) (0+((List.map (Value.int .i64) ps).length+1))=U.rowS b (iL (s0::ps)):=by
 rw[Nat.zero_add];rfl
theorem Ir_d (p:Pg) (hf:FewP p):DenU Tryz.prog [] 7 [encP p] (encP p):=by
 refine denU_of_body hmixU rfl Tryz.func7 rfl rfl rfl 0 ?_;intro Ts;have fa:=hf.arrs;have fi:=hf.ins;have fp:=hf.procs;have fs:=hf.ps;have fz:=hf.sz;obtain ⟨sl,arrs,ins,procs,main⟩:=p;dsimp only at *
 have c1:=IrStmts_all 1000 main (by omega) rL
 have c2:∀x∈procs,DenU Tryz.prog [] 12 [imS (encSs x.body)] (imS (encSs x.body)):=fun x hx=>by
  have:=szPrs_mem hx;exact IrStmts_all 1000 x.body (by omega) rL
 clear hf;have km:=cleanSs main;rcases hq:arrs with _|⟨a0,ar⟩
 all_goals
  try have hg0:0+((List.map (Value.int .i64) ar).length+1)≤100000:=(by have:=congrArg List.length hq;simp at this ⊢;omega)
  (repeat' ((conv=>whnf);first|refine goA ?_|refine U.ob_c (iL_one _) ?_|refine U.ob_c (grow_ok (by decide +kernel) hg0) ?_|refine goB ?_|refine ⟨_,c1,clM,tab0 _,?_⟩|refine U.drawX_p (D:=U.propX) 7 [] (by decide +kernel) (by decide +kernel) ?_|refine U.lw_c ?_ ?_<;>intro hb))
  (conv=>whnf);refine loop_inv (α:=List In13×List In13) (fun x=>x.1++x.2=ins) (fun x=>(mkF [(1,.pointer (some ⟨0,0,none⟩)),(2,.pointer (some ⟨1,0,none⟩)),(3,.pointer (some ⟨2,0,none⟩)),(4,.int .i64 x.1.length)],⟨mkO [(0,some (.cells 27 [.int .i64 sl,imS (iL arrs),imS (inL ins),imS (prL procs),imS (encSs main)] false)),(1,some (.cells 34 [.int .i64 0,.slice none 0 0,.slice none 0 0,.slice none 0 0,.slice none 0 0] false)),(2,some (.cells 34 [.int .i64 sl,imS (iL arrs),rowS 5 (inL x.1),.slice none 0 0,imS (encSs main)] false)),(5,rowO 71 (inL x.1))],6,0,0⟩)) (fun x=>x.2.length) ([],ins) rfl (Cov.frz (fun k=>k) 3 1 (T:=3) (ys:=iL arrs) rfl rfl (bR rfl) zL (fun _ _=>rfl) rfl nlz zL rfl (by rw[hq];rfl) iL_1 (cleanIC _) (.C rfl (.K rfl rfl (.L (cleanIL arrs) (by rw[hq]) (.L (cleanInL _) rfl (.L (cleanPrL _) rfl (.L (cleanSs _) rfl .nil))))) (.C rfl (.K rfl rfl (.K rfl rfl (.K rfl rfl (.K rfl rfl (.K rfl rfl .nil))))) (.C rfl (.K rfl rfl (.cons (.ext _ _ ⟨rfl,by rw[hq];first|exact rowS_c _ _ _|rfl⟩) (.K rfl rfl (.K rfl rfl (.L (cleanSs _) rfl .nil))))) (.none .nil)))) (.cons rfl (.P rfl) (.cons rfl (.P rfl) (.cons rfl (.P rfl) (.cons rfl .I .nil))))) ?_
  rintro ⟨pre,rest⟩ p1
  dsimp only at p1;dsimp only;have hil:(pre++rest).length≤20:=by rw[p1];exact fi
  rcases rest with _|⟨x,rest⟩
  ·rw[List.append_nil] at *;subst p1;have zb:=U.lt_no inL_map pre;(repeat' ((conv=>whnf);first|refine goD ?_|refine U.lw_c ?_ ?_<;>intro hb))
   (conv=>whnf);refine loop_inv (α:=List Pr13×List Pr13) (fun x=>x.1++x.2=procs) (fun x=>(mkF [(1,.pointer (some ⟨0,0,none⟩)),(2,.pointer (some ⟨1,0,none⟩)),(3,.pointer (some ⟨2,0,none⟩)),(6,.int .i64 x.1.length)],⟨mkO [(0,some (.cells 27 [.int .i64 sl,imS (iL arrs),imS (inL pre),imS (prL procs),imS (encSs main)] false)),(1,some (.cells 34 [.int .i64 0,.slice none 0 0,.slice none 0 0,.slice none 0 0,.slice none 0 0] false)),(2,some (.cells 34 [.int .i64 sl,imS (iL arrs),imS (inL pre),rowS 6 (prL x.1),imS (encSs main)] false)),(6,rowO 73 (prL x.1))],7,0,0⟩)) (fun x=>x.2.length) ([],procs) rfl (Cov.frz (fun k=>k) 5 5 (T:=71) (ys:=inL pre) rfl rfl (bR rfl) zL (fun _ _=>rfl) rfl nlz zL rfl rfl (cellsIn_5 pre) (cleanInC pre) (.C rfl (.K rfl rfl (.L (cleanIL _) rfl (.L (cleanInL _) rfl (.L (cleanPrL _) rfl (.L (cleanSs _) rfl .nil))))) (.C rfl (.K rfl rfl (.K rfl rfl (.K rfl rfl (.K rfl rfl (.K rfl rfl .nil))))) (.C rfl (.K rfl rfl (.L (cleanIL _) rfl (.cons (.ext _ _ ⟨rfl,rfl⟩) (.K rfl rfl (.L (cleanSs _) rfl .nil))))) (.none .nil)))) (.cons rfl (.P rfl) (.cons rfl (.P rfl) (.cons rfl (.P rfl) (.cons rfl .I .nil))))) ?_
   rintro ⟨qre,rest⟩ p2
   dsimp only at p2;dsimp only;have hpl:(qre++rest).length≤20:=by rw[p2];exact fp
   rcases rest with _|⟨x,rest⟩
   ·rw[List.append_nil] at *;subst p2;have yb:=U.lt_no prL_map qre;have hone:[Value.int .i64 sl,imS (iL arrs),imS (inL pre),rowS 6 (prL qre),imS (encSs main)].all Value.oneCell'=true:=by cases qre<;>rfl
    (repeat' ((conv=>whnf);first|refine goA ?_|refine U.ob_c hone ?_|refine goB ?_|refine U.lw_c ?_ ?_<;>intro hb))
    (conv=>whnf);refine .aggL (.cons (.clean _ (cleanI _)) (.cons (.same (cleanIL arrs) (by rw[hq])) (.cons (.clean _ (cleanInL _)) (.cons ?_ (.cons (.clean _ (cleanSs _)) .nil)))))
    cases qre with
    |nil=>exact .nil
    |cons x0 qre=>exact .rowL zL rfl rfl (cellsPr_3 (x0::qre)) rfl rL (cleanPrC (x0::qre))
   ·subst p2;have yb:=U.lt_yes prL_map qre (x) rest;have yc:=U.blt_yes prL_map qre (x) rest;have yn:=U.nth_at prL_map qre (x) rest;have yw:=U.len_snoc (pre:=qre) (x:=x) (post:=rest) ((Nat.le_trans (show _≤20 by omega) (by decide)))
    have c3:=c2 x (by simp)
    have hsx:=fs x (by simp)
    obtain ⟨nm,ps,body⟩:=x;dsimp only at c3 hsx;have kb:=cleanSs body;clear c2 fs;rcases ps with _|⟨s0,ps⟩
    ·rcases qre with _|⟨x0,qre⟩
     ·skip
      (repeat' ((conv=>whnf);first|refine goD ?_|refine ⟨_,c3,clM,tab0 _,?_⟩|refine U.drawX_m (D:=U.propX) 13 [] (by decide +kernel) (by decide +kernel) (by decide +kernel) ?_|refine U.lw_c ?_ ?_<;>intro hb))
      (conv=>whnf);exact ⟨([]++[⟨nm,[],body⟩],rest),by simp,by simp,(Cov.frz (fun k=>if k=6 then 9 else k) 1000 1 (T:=3) (ys:=iL []) rfl rfl (bR rfl) zL (fun k hk=>by have hk:k<6:=hk;rw[if_neg (by omega)]) rfl nlz zL rfl rfl iL_1 (cleanIC _) (.C rfl (.K rfl rfl (.L (cleanIL _) rfl (.L (cleanInL _) rfl (.L (cleanPrL _) rfl (.L (cleanSs _) rfl .nil))))) (.C rfl (.K rfl rfl (.K rfl rfl (.K rfl rfl (.K rfl rfl (.K rfl rfl .nil))))) (.C rfl (.K rfl rfl (.L (cleanIL _) rfl (.L (cleanInL _) rfl (.cons (.grown (by decide) rfl (by simp[prL]) (by simp[prL]) (by simp[prL])) (.L (cleanSs _) rfl .nil))))) (blksO.grownL rfl (.K rfl rfl (.cons (by exact .ext _ _ ⟨rfl,rfl⟩) (.L (cleanSs _) rfl .nil))) .nil)))) (.cons rfl (.P rfl) (.cons rfl (.P rfl) (.cons rfl (.P rfl) (.L rfl (cleanI _) (congrArg (Value.int .i64) (yw.symm)) .nil)))))⟩
     ·have hgr:(cellsAll (encPr x0::List.map encPr qre)).length=((List.map encPr qre).length+1)*3:=(by rw[show encPr x0::List.map encPr qre=prL (x0::qre) from rfl,cellsPr_len,List.length_map];rfl)
      have hg1:(List.map encPr qre).length+1+(0+1)≤100000:=(by rw[List.length_map];simp at hpl;omega)
      (repeat' ((conv=>whnf);first|refine goA ?_|(rw[U.ble_f ((List.map encPr qre).length+1)];dsimp only;refine U.growRow_p hgr rfl ?_)|refine U.ob_c (grow_ok (by decide +kernel) hg1) ?_|refine goB ?_|refine ⟨_,c3,clM,tab0 _,?_⟩|refine U.drawX_m (D:=U.propX) 13 [] (by decide +kernel) (by decide +kernel) (by decide +kernel) ?_|refine U.lw_c ?_ ?_<;>intro hb))
      (conv=>whnf);exact ⟨((x0::qre)++[⟨nm,[],body⟩],rest),by simp,by simp,(Cov.frz (fun k=>if k=6 then 9 else k) 1000 1 (T:=3) (ys:=iL []) rfl rfl (bR rfl) zL (fun k hk=>by have hk:k<6:=hk;rw[if_neg (by omega)]) rfl nlz zL rfl rfl iL_1 (cleanIC _) (.C rfl (.K rfl rfl (.L (cleanIL _) rfl (.L (cleanInL _) rfl (.L (cleanPrL _) rfl (.L (cleanSs _) rfl .nil))))) (.C rfl (.K rfl rfl (.K rfl rfl (.K rfl rfl (.K rfl rfl (.K rfl rfl .nil))))) (.C rfl (.K rfl rfl (.L (cleanIL _) rfl (.L (cleanInL _) rfl (.cons (.grown (by decide) rfl (by simp[prL]) (by simp[prL]) (by simp[prL])) (.L (cleanSs _) rfl .nil))))) (blksO.grownL rfl (by rw[cellsPr_snoc];exact RenL.app (RenL.refl (cleanPrC (x0::qre))) (.K rfl rfl (.cons (by exact .ext _ _ ⟨rfl,rfl⟩) (.L (cleanSs _) rfl .nil)))) .nil)))) (.cons rfl (.P rfl) (.cons rfl (.P rfl) (.cons rfl (.P rfl) (.L rfl (cleanI _) (congrArg (Value.int .i64) (yw.symm)) .nil)))))⟩
    ·rcases qre with _|⟨x0,qre⟩
     ·skip
      have hg2:0+((List.map (Value.int .i64) ps).length+1)≤100000:=(by simp at hsx ⊢;omega)
      (repeat' ((conv=>whnf);first|refine goA ?_|refine U.ob_c (iL_one _) ?_|refine U.ob_c (grow_ok (by decide +kernel) hg2) ?_|refine goB ?_|refine ⟨_,c3,clM,tab0 _,?_⟩|refine U.drawX_m (D:=U.propX) 13 [] (by decide +kernel) (by decide +kernel) (by decide +kernel) ?_|refine U.lw_c ?_ ?_<;>intro hb))
      (conv=>whnf);exact ⟨([]++[⟨nm,(s0::ps),body⟩],rest),by simp,by simp,(Cov.frz (fun k=>if k=6 then 10 else k) 8 1 (T:=3) (ys:=iL (s0::ps)) rfl rfl (bR rfl) zL (fun k hk=>by have hk:k<6:=hk;rw[if_neg (by omega)]) rfl nlz zL rfl rfl iL_1 (cleanIC _) (.C rfl (.K rfl rfl (.L (cleanIL _) rfl (.L (cleanInL _) rfl (.L (cleanPrL _) rfl (.L (cleanSs _) rfl .nil))))) (.C rfl (.K rfl rfl (.K rfl rfl (.K rfl rfl (.K rfl rfl (.K rfl rfl .nil))))) (.C rfl (.K rfl rfl (.L (cleanIL _) rfl (.L (cleanInL _) rfl (.cons (.grown (by decide) rfl (by simp[prL]) (by simp[prL]) (by simp[prL])) (.L (cleanSs _) rfl .nil))))) (blksO.grownL rfl (.K rfl rfl (.cons (by exact .ext _ _ ⟨rfl,rowS_c _ _ _⟩) (.L (cleanSs _) rfl .nil))) .nil)))) (.cons rfl (.P rfl) (.cons rfl (.P rfl) (.cons rfl (.P rfl) (.L rfl (cleanI _) (congrArg (Value.int .i64) (yw.symm)) .nil)))))⟩
     ·have hgr:(cellsAll (encPr x0::List.map encPr qre)).length=((List.map encPr qre).length+1)*3:=(by rw[show encPr x0::List.map encPr qre=prL (x0::qre) from rfl,cellsPr_len,List.length_map];rfl)
      have hg1:(List.map encPr qre).length+1+(0+1)≤100000:=(by rw[List.length_map];simp at hpl;omega)
      have hg2:0+((List.map (Value.int .i64) ps).length+1)≤100000:=(by simp at hsx ⊢;omega)
      (repeat' ((conv=>whnf);first|refine goA ?_|refine U.ob_c (iL_one _) ?_|refine U.ob_c (grow_ok (by decide +kernel) hg2) ?_|(rw[U.ble_f ((List.map encPr qre).length+1)];dsimp only;refine U.growRow_p hgr rfl ?_)|refine U.ob_c (grow_ok (by decide +kernel) hg1) ?_|refine goB ?_|refine ⟨_,c3,clM,tab0 _,?_⟩|refine U.drawX_m (D:=U.propX) 13 [] (by decide +kernel) (by decide +kernel) (by decide +kernel) ?_|refine U.lw_c ?_ ?_<;>intro hb))
      (conv=>whnf);exact ⟨((x0::qre)++[⟨nm,(s0::ps),body⟩],rest),by simp,by simp,(Cov.frz (fun k=>if k=6 then 10 else k) 8 1 (T:=3) (ys:=iL (s0::ps)) rfl rfl (bR rfl) zL (fun k hk=>by have hk:k<6:=hk;rw[if_neg (by omega)]) rfl nlz zL rfl rfl iL_1 (cleanIC _) (.C rfl (.K rfl rfl (.L (cleanIL _) rfl (.L (cleanInL _) rfl (.L (cleanPrL _) rfl (.L (cleanSs _) rfl .nil))))) (.C rfl (.K rfl rfl (.K rfl rfl (.K rfl rfl (.K rfl rfl (.K rfl rfl .nil))))) (.C rfl (.K rfl rfl (.L (cleanIL _) rfl (.L (cleanInL _) rfl (.cons (.grown (by decide) rfl (by simp[prL]) (by simp[prL]) (by simp[prL])) (.L (cleanSs _) rfl .nil))))) (blksO.grownL rfl (by rw[cellsPr_snoc];exact RenL.app (RenL.refl (cleanPrC (x0::qre))) (.K rfl rfl (.cons (by exact .ext _ _ ⟨rfl,rowS_c _ _ _⟩) (.L (cleanSs _) rfl .nil)))) .nil)))) (.cons rfl (.P rfl) (.cons rfl (.P rfl) (.cons rfl (.P rfl) (.L rfl (cleanI _) (congrArg (Value.int .i64) (yw.symm)) .nil)))))⟩
  ·subst p1;have zb:=U.lt_yes inL_map pre (x) rest;have zc:=U.blt_yes inL_map pre (x) rest;have zn:=U.nth_at inL_map pre (x) rest;have zw:=U.len_snoc (pre:=pre) (x:=x) (post:=rest) ((Nat.le_trans (show _≤20 by omega) (by decide)))
   obtain ⟨nm,slot,lo,hh,sec⟩:=x;rcases pre with _|⟨x0,pre⟩
   ·(repeat' ((conv=>whnf);first|refine goD ?_|refine U.lw_c ?_ ?_<;>intro hb))
    (conv=>whnf);exact ⟨([]++[⟨nm,slot,lo,hh,sec⟩],rest),by simp,by simp,(Cov.renO (fun k=>if k=5 then 8 else k) rfl rfl (bR rfl) zL (fun k hk=>by have hk:k<4:=Nat.lt_of_lt_of_le hk (bR rfl);rw[if_neg (by omega)]) rfl nlz (.C rfl (.K rfl rfl (.L (cleanIL _) rfl (.L (cleanInL _) rfl (.L (cleanPrL _) rfl (.L (cleanSs _) rfl .nil))))) (.C rfl (.K rfl rfl (.K rfl rfl (.K rfl rfl (.K rfl rfl (.K rfl rfl .nil))))) (.C rfl (.K rfl rfl (.L (cleanIL _) rfl (.cons (.grown (by decide) rfl (by simp[inL]) (by simp[inL]) (by simp[inL])) (.K rfl rfl (.L (cleanSs _) rfl .nil))))) (blksO.grown rfl rfl (cleanInC _) .nil)))) (.cons rfl (.P rfl) (.cons rfl (.P rfl) (.cons rfl (.P rfl) (.L rfl (cleanI _) (congrArg (Value.int .i64) (zw.symm)) .nil)))))⟩
   ·have hgr:(cellsAll (encIn x0::List.map encIn pre)).length=((List.map encIn pre).length+1)*5:=by
     rw[show encIn x0::List.map encIn pre=inL (x0::pre) from rfl,cellsIn_len,List.length_map];rfl
    have hg1:(List.map encIn pre).length+1+(0+1)≤100000:=by rw[List.length_map];simp at hil;omega
    (repeat' ((conv=>whnf);first|refine goA ?_|(rw[U.ble_f ((List.map encIn pre).length+1)];dsimp only;refine U.growRow_p hgr rfl ?_)|refine U.ob_c (grow_ok (by decide +kernel) hg1) ?_|refine goB ?_|refine U.lw_c ?_ ?_<;>intro hb))
    (conv=>whnf);exact ⟨((x0::pre)++[⟨nm,slot,lo,hh,sec⟩],rest),by simp,by simp,(Cov.renO (fun k=>if k=5 then 8 else k) rfl rfl (bR rfl) zL (fun k hk=>by have hk:k<4:=Nat.lt_of_lt_of_le hk (bR rfl);rw[if_neg (by omega)]) rfl nlz (.C rfl (.K rfl rfl (.L (cleanIL _) rfl (.L (cleanInL _) rfl (.L (cleanPrL _) rfl (.L (cleanSs _) rfl .nil))))) (.C rfl (.K rfl rfl (.K rfl rfl (.K rfl rfl (.K rfl rfl (.K rfl rfl .nil))))) (.C rfl (.K rfl rfl (.L (cleanIL _) rfl (.cons (.grown (by decide) rfl (by simp[inL]) (by simp[inL]) (by simp[inL])) (.K rfl rfl (.L (cleanSs _) rfl .nil))))) (blksO.grown rfl ((cellsIn_snoc (x0::pre) _)) (cleanInC _) .nil)))) (.cons rfl (.P rfl) (.cons rfl (.P rfl) (.cons rfl (.P rfl) (.L rfl (cleanI _) (congrArg (Value.int .i64) (zw.symm)) .nil)))))⟩
end Go.Proofs.YtocppbocphnbcaaGreatDoor
