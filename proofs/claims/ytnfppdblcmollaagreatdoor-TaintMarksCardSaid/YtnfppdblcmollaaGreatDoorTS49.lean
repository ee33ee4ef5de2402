
import Derived.Test.YtnfppdblcmollaaGreatDoorTS46
import Derived.Test.YtnfppdblcmollaaGreatDoorTS48
namespace Go.Proofs.YtnfppdblcmollaaGreatDoor
open Go Go.RowKit Go.Sort U
set_option linter.unusedVariables false
set_option linter.unusedSimpArgs false
set_option maxRecDepth 100000
set_option maxHeartbeats 40000000
mutual
def numS:St->Int->St×Int
 |.mk k a xs th el no,n=>(.mk k a xs (numSs th (n+1)).1 (numSs el (numSs th (n+1)).2).1 n,(numSs el (numSs th (n+1)).2).2)
def numSs:List St->Int->List St×Int
 |[],n=>([],n)
 |s::l,n=>((numS s n).1::(numSs l (numS s n).2).1,(numSs l (numS s n).2).2)
end
mutual
theorem numS_snd:∀(s:St) (n:Int),(numS s n).2=n+(allS s).length
 |.mk k a xs th el no,n=>by
  rw[numS,allS];show (numSs el (numSs th (n+1)).2).2=_
  rw[numSs_snd el,numSs_snd th,List.length_cons,List.length_append];omega
theorem numSs_snd:∀(l:List St) (n:Int),(numSs l n).2=n+(allSs l).length
 |[],n=>by simp[numSs,allSs]
 |s::l,n=>by
  rw[numSs,allSs];show (numSs l (numS s n).2).2=_
  rw[numSs_snd l,numS_snd s,List.length_append];omega
end
mutual
theorem eqE_self:∀e:Ex,eqE e e=true
 |.mk k n a o l=>by rw[eqE,eqEs_self l];simp
theorem eqEs_self:∀l:List Ex,eqEs l l=true
 |[]=>by rw[eqEs]
 |e::l=>by rw[eqEs,eqE_self e,eqEs_self l];rfl
end
mutual
theorem eq_numS:∀(s:St) (n:Int),eqS s (numS s n).1=nums (allS s) n
 |.mk k a xs th el no,n=>by
  rw[numS,allS];show eqS _ (.mk k a xs (numSs th (n+1)).1 (numSs el (numSs th (n+1)).2).1 n)=_
  rw[eqS,eqEs_self,eq_numSs th,eq_numSs el,numSs_snd th,nums,nums_app,noS];simp[Bool.and_assoc]
theorem eq_numSs:∀(l:List St) (n:Int),eqSs l (numSs l n).1=nums (allSs l) n
 |[],n=>by rw[numSs,eqSs,allSs,nums]
 |s::l,n=>by
  rw[numSs,allSs];show eqSs (s::l) ((numS s n).1::(numSs l (numS s n).2).1)=_
  rw[eqSs,eq_numS s,eq_numSs l,numS_snd s,nums_app]
end
theorem IrExpr_d (k n a o:Int) (l:List Ex) (hl:l.length≤1000) (ih:∀e∈l,DenU Tryz.prog [] 19 [encE e] (encE e)):DenU Tryz.prog [] 19 [encE (.mk k n a o l)] (encE (.mk k n a o l)):=by
 refine denU_of_body hmixU rfl Tryz.func19 rfl rfl rfl 0 ?_;intro Ts;(repeat' ((conv=>whnf);first|refine goD ?_|refine U.lw_c ?_ ?_<;>intro hb))
 (conv=>whnf);refine loop_inv (α:=List Ex×List Ex) (fun x=>x.1++x.2=l) (fun x=>(mkF [(1,.pointer (some ⟨0,0,none⟩)),(2,.pointer (some ⟨1,0,none⟩)),(3,.pointer (some ⟨2,0,none⟩)),(4,.int .i64 x.1.length)],⟨mkO [(0,some (.cells 32 [.int .i64 k,.int .i64 n,.int .i64 a,.int .i64 o,imS (encEs l)] false)),(1,some (.cells 62 [.int .i64 0,.int .i64 0,.int .i64 0,.int .i64 0,.slice none 0 0] false)),(2,some (.cells 62 [.int .i64 k,.int .i64 n,.int .i64 a,.int .i64 o,rowS 3 (encEs x.1)] false)),(3,rowO 62 (encEs x.1))],4,0,0⟩)) (fun x=>x.2.length) ([],l) rfl (Cov.renI rfl rfl rfl rfl (.C rfl (.K rfl rfl (.K rfl rfl (.K rfl rfl (.K rfl rfl (.L (cleanEs _) rfl .nil))))) (.C rfl (.K rfl rfl (.K rfl rfl (.K rfl rfl (.K rfl rfl (.K rfl rfl .nil))))) (.C rfl (.K rfl rfl (.K rfl rfl (.K rfl rfl (.K rfl rfl (.K rfl rfl .nil))))) (.none .nil)))) (.cons rfl (.P rfl) (.cons rfl (.P rfl) (.cons rfl (.P rfl) (.cons rfl .I .nil))))) ?_
 rintro ⟨pre,rest⟩ p1
 dsimp only at p1;subst p1;dsimp only;rcases rest with _|⟨e,rest⟩
 ·rw[List.append_nil] at *;have zb:=U.lt_no encEs_map pre;have hone:[Value.int IntKind.i64 k,.int .i64 n,.int .i64 a,.int .i64 o,rowS 3 (encEs pre)].all Value.oneCell'=true:=by cases pre<;>rfl
  (repeat' ((conv=>whnf);first|refine goA ?_|refine U.ob_c hone ?_|refine goB ?_|refine U.lw_c ?_ ?_<;>intro hb))
  (conv=>whnf);refine .aggL (.cons (.clean _ (cleanI _)) (.cons (.clean _ (cleanI _)) (.cons (.clean _ (cleanI _)) (.cons (.clean _ (cleanI _)) (.cons ?_ .nil)))));cases pre with
  |nil=>exact .nil
  |cons e0 pre=>exact .rowL zL rfl rfl (cellsE_5 (e0::pre)) rfl rL (cleanCells (e0::pre))
 ·have zb:=U.lt_yes encEs_map pre (e) rest;have zc:=U.blt_yes encEs_map pre (e) rest;have zn:=U.nth_at encEs_map pre (e) rest;have zw:=U.len_snoc (pre:=pre) (x:=e) (post:=rest) ((Nat.le_trans (show _≤1000 by omega) (by decide)))
  have c1:=ih e (by simp)
  have ke:=cleanE e;clear ih;obtain ⟨k1,n1,a1,o1,l1⟩:=e;rcases pre with _|⟨e0,pre⟩
  ·(repeat' ((conv=>whnf);first|refine goD ?_|refine ⟨_,c1,clM,tab0 _,?_⟩|refine U.drawX_p (D:=U.propX) 9 [] (by decide +kernel) (by decide +kernel) ?_|refine U.lw_c ?_ ?_<;>intro hb))
   (conv=>whnf);exact ⟨([]++[.mk k1 n1 a1 o1 l1],rest),by simp,by simp,(Cov.renO (fun k=>if k=3 then 5 else k) rfl rfl (bR rfl) zL (fun k hk=>by have:k<3:=hk;rw[if_neg (by omega)]) rfl nlz (.C rfl (.K rfl rfl (.K rfl rfl (.K rfl rfl (.K rfl rfl (.L (cleanEs _) rfl .nil))))) (.C rfl (.K rfl rfl (.K rfl rfl (.K rfl rfl (.K rfl rfl (.K rfl rfl .nil))))) (.C rfl (.K rfl rfl (.K rfl rfl (.K rfl rfl (.K rfl rfl (.cons (.grown (by decide) rfl (by simp[encEs]) (by simp[encEs]) (by simp[encEs])) .nil))))) (blksO.grown rfl rfl (cleanCells _) .nil)))) (.cons rfl (.P rfl) (.cons rfl (.P rfl) (.cons rfl (.P rfl) (.L rfl (cleanI _) (congrArg (Value.int .i64) (zw.symm)) .nil)))))⟩
  ·have hgr:(cellsAll (encE e0::encEs pre)).length=((encEs pre).length+1)*5:=by
    rw[show encE e0::encEs pre=encEs (e0::pre) from rfl,cellsEs_len,encEs_map,List.length_map];rfl
   have hg1:(encEs pre).length+1+(0+1)≤100000:=by rw[encEs_map,List.length_map];simp at hl;omega
   (repeat' ((conv=>whnf);first|refine goA ?_|(rw[U.ble_f ((encEs pre).length+1)];dsimp only;refine U.growRow_p hgr rfl ?_)|refine U.ob_c (grow_ok (by decide +kernel) hg1) ?_|refine goB ?_|refine ⟨_,c1,clM,tab0 _,?_⟩|refine U.drawX_p (D:=U.propX) 9 [] (by decide +kernel) (by decide +kernel) ?_|refine U.lw_c ?_ ?_<;>intro hb))
   (conv=>whnf);exact ⟨((e0::pre)++[.mk k1 n1 a1 o1 l1],rest),by simp,by simp,(Cov.renO (fun k=>if k=3 then 5 else k) rfl rfl (bR rfl) zL (fun k hk=>by have:k<3:=hk;rw[if_neg (by omega)]) rfl nlz (.C rfl (.K rfl rfl (.K rfl rfl (.K rfl rfl (.K rfl rfl (.L (cleanEs _) rfl .nil))))) (.C rfl (.K rfl rfl (.K rfl rfl (.K rfl rfl (.K rfl rfl (.K rfl rfl .nil))))) (.C rfl (.K rfl rfl (.K rfl rfl (.K rfl rfl (.K rfl rfl (.cons (.grown (by decide) rfl (by simp[encEs]) (by simp[encEs,encEs_map]) (by simp[encEs,encEs_map])) .nil))))) (blksO.grown rfl ((cellsEs_snoc (e0::pre) _)) (cleanCells _) .nil)))) (.cons rfl (.P rfl) (.cons rfl (.P rfl) (.cons rfl (.P rfl) (.L rfl (cleanI _) (congrArg (Value.int .i64) (zw.symm)) .nil)))))⟩
theorem IrStmts_d (l:List St) (hl:l.length≤1000)
  (ih:∀k a xs th el no,St.mk k a xs th el no∈l->xs.length≤1000∧(∀e∈xs,DenU Tryz.prog [] 19 [encE e] (encE e))∧DenU Tryz.prog [] 57 [imS (encSs th)] (imS (encSs th))∧DenU Tryz.prog [] 57 [imS (encSs el)] (imS (encSs el))) :
  DenU Tryz.prog [] 57 [imS (encSs l)] (imS (encSs l)):=by
 refine denU_of_body hmixU rfl Tryz.func57 rfl rfl rfl 0 ?_;intro Ts;(repeat' ((conv=>whnf);first|refine goD ?_|refine U.lw_c ?_ ?_<;>intro hb))
 (conv=>whnf);refine loop_inv (α:=List St×List St) (fun x=>x.1++x.2=l) (fun x=>(mkF [(0,imS (encSs l)),(2,.slice none 0 0),(3,rowS 0 (encSs x.1)),(4,.int .i64 x.1.length)],⟨mkO [(0,rowO 225 (encSs x.1))],1,0,0⟩)) (fun x=>x.2.length) ([],l) rfl (Cov.renI rfl rfl rfl rfl (.none .nil) (.L rfl (cleanSs _) rfl (.K rfl rfl rfl (.K rfl rfl rfl (.cons rfl .I .nil))))) ?_
 rintro ⟨pre,rest⟩ h1
 dsimp only at h1;subst h1;dsimp only;rcases rest with _|⟨s,rest⟩
 ·rw[List.append_nil] at *;have zb:=U.lt_no encSs_map pre;(repeat' ((conv=>whnf);first|refine goD ?_|refine U.lw_c ?_ ?_<;>intro hb))
  (conv=>whnf);exact .ofRow zL rfl (cellsS_6 pre) (cleanSCells pre)
 ·have zb:=U.lt_yes encSs_map pre (s) rest;have zc:=U.blt_yes encSs_map pre (s) rest;have zn:=U.nth_at encSs_map pre (s) rest;have zw:=U.len_snoc (pre:=pre) (x:=s) (post:=rest) ((Nat.le_trans (show _≤1000 by omega) (by decide)))
  obtain ⟨k,a,xs,th,el,no⟩:=s;obtain ⟨hx,ihx,c2,c3⟩:=ih k a xs th el no (by simp)
  clear ih;have kt:=cleanSs th;have ke:=cleanSs el;(repeat' ((conv=>whnf);first|refine goD ?_|refine ⟨_,c2,clM,tab0 _,?_⟩|refine ⟨_,c3,clM,tab0 _,?_⟩|refine U.drawX_p (D:=U.propX) 14 [] (by decide +kernel) (by decide +kernel) ?_|refine U.lw_c ?_ ?_<;>intro hb))
  (conv=>whnf);refine loop_inv (α:=List Ex×List Ex) (fun x=>x.1++x.2=xs) (fun x=>(mkF [(0,imS (encSs (pre++.mk k a xs th el no::rest))),(2,.slice none 0 0),(3,rowS 0 (encSs pre)),(4,.int .i64 pre.length),(5,.pointer (some ⟨1,0,none⟩)),(6,.pointer (some ⟨2,0,none⟩)),(7,.int .i64 x.1.length)],⟨mkO [(0,rowO 225 (encSs pre)),(1,some (.cells 36 [.int .i64 k,.int .i64 a,imS (encEs xs),imS (encSs th),imS (encSs el),.int .i64 no] false)),(2,some (.cells 225 [.int .i64 k,.int .i64 a,rowS 3 (encEs x.1),imS (encSs th),imS (encSs el),.int .i64 no] false)),(3,rowO 62 (encEs x.1))],4,0,0⟩)) (fun x=>x.2.length) ([],xs) rfl (Cov.renI rfl rfl rfl rfl (blksO.row rfl rfl (cleanSCells _) (.C rfl (.K rfl rfl (.K rfl rfl (.L (cleanEs _) rfl (.L (cleanSs _) rfl (.L (cleanSs _) rfl (.K rfl rfl .nil)))))) (.C rfl (.K rfl rfl (.K rfl rfl (.K rfl rfl (.L (cleanSs _) rfl (.L (cleanSs _) rfl (.K rfl rfl .nil)))))) (.none .nil)))) (.L rfl (cleanSs _) rfl (.K rfl rfl rfl (.cons rfl (.ofRow (by decide) rfl rfl) (.cons rfl .I (.cons rfl (.P rfl) (.cons rfl (.P rfl) (.cons rfl .I .nil)))))))) ?_
  rintro ⟨ipre,irest⟩ h2
  dsimp only at h2;subst h2;dsimp only;rcases irest with _|⟨e,irest⟩
  ·rw[List.append_nil] at *;have yb:=U.lt_no encEs_map ipre;have hone:[Value.int IntKind.i64 k,.int .i64 a,rowS 3 (encEs ipre),imS (encSs th),imS (encSs el),.int .i64 no].all Value.oneCell'=true:=by cases ipre<;>rfl
   rcases pre with _|⟨s0,pre⟩
   ·(repeat' ((conv=>whnf);first|refine goA ?_|refine U.ob_c hone ?_|refine goB ?_|refine U.lw_c ?_ ?_<;>intro hb))
    (conv=>whnf);exact ⟨([]++[.mk k a ipre th el no],rest),by simp,by simp,(Cov.frz (fun k=>if k=0 then 5 else k) 3 5 (T:=62) (ys:=encEs ipre) rfl rfl zL zL nlz rfl nlz zL rfl rfl (cellsE_5 ipre) (cleanCells ipre) (.grownL rfl (.cons .I (.cons .I (.cons (by exact .ext _ _ ⟨rfl,rfl⟩) (.L (cleanSs _) rfl (.L (cleanSs _) rfl (.cons .I .nil)))))) .nil) (.L rfl (cleanSs _) rfl (.K rfl rfl rfl (.cons rfl (.grown (by decide) rfl (by simp[encSs]) (by simp[encSs]) (by simp[encSs])) (.L rfl (cleanI _) (congrArg (Value.int .i64) zw.symm) .nil)))))⟩
   ·have hgr:(cellsAll (encS s0::encSs pre)).length=((encSs pre).length+1)*6:=by
     rw[show encS s0::encSs pre=encSs (s0::pre) from rfl,cellsSs_len,encSs_map,List.length_map];rfl
    have hg1:(encSs pre).length+1+(0+1)≤100000:=by rw[encSs_map,List.length_map];simp at hl;omega
    (repeat' ((conv=>whnf);first|refine goA ?_|(rw[U.ble_f ((encSs pre).length+1)];dsimp only;refine U.growRow_p hgr rfl ?_)|refine U.ob_c (grow_ok (by decide +kernel) hg1) ?_|refine U.ob_c hone ?_|refine goB ?_|refine U.lw_c ?_ ?_<;>intro hb))
    (conv=>whnf);exact ⟨((s0::pre)++[.mk k a ipre th el no],rest),by simp,by simp,(Cov.frz (fun k=>if k=0 then 5 else k) 3 5 (T:=62) (ys:=encEs ipre) rfl rfl zL zL nlz rfl nlz zL rfl rfl (cellsE_5 ipre) (cleanCells ipre) (.grownL rfl (by rw[cellsSs_snoc];exact RenL.app (RenL.refl (cleanSCells (s0::pre))) (.cons .I (.cons .I (.cons (by exact .ext _ _ ⟨rfl,rfl⟩) (.L (cleanSs _) rfl (.L (cleanSs _) rfl (.cons .I .nil))))))) .nil) (.L rfl (cleanSs _) rfl (.K rfl rfl rfl (.cons rfl (.grown (by decide) rfl (by simp[encSs]) (by simp[encSs,encSs_map]) (by simp[encSs,encSs_map])) (.L rfl (cleanI _) (congrArg (Value.int .i64) zw.symm) .nil)))))⟩
  ·have yb:=U.lt_yes encEs_map ipre (e) irest;have yc:=U.blt_yes encEs_map ipre (e) irest;have yn:=U.nth_at encEs_map ipre (e) irest;have yw:=U.len_snoc (pre:=ipre) (x:=e) (post:=irest) ((Nat.le_trans (show _≤1000 by omega) (by decide)))
   have c1:=ihx e (by simp)
   have kee:=cleanE e;clear ihx;obtain ⟨k1,n1,a1,o1,l1⟩:=e;rcases ipre with _|⟨e0,ipre⟩
   ·(repeat' ((conv=>whnf);first|refine goD ?_|refine ⟨_,c1,clM,tab0 _,?_⟩|refine U.drawX_p (D:=U.propX) 9 [] (by decide +kernel) (by decide +kernel) ?_|refine U.lw_c ?_ ?_<;>intro hb))
    (conv=>whnf);exact ⟨([]++[.mk k1 n1 a1 o1 l1],irest),by simp,by simp,(Cov.renO (fun k=>if k=3 then 5 else k) rfl rfl (bR rfl) zL (fun k hk=>by have:k<3:=hk;rw[if_neg (by omega)]) rfl nlz (blksO.row rfl rfl (cleanSCells _) (.C rfl (.K rfl rfl (.K rfl rfl (.L (cleanEs _) rfl (.L (cleanSs _) rfl (.L (cleanSs _) rfl (.K rfl rfl .nil)))))) (.C rfl (.K rfl rfl (.K rfl rfl (.cons (.grown (by decide) rfl (by simp[encEs]) (by simp[encEs]) (by simp[encEs])) (.L (cleanSs _) rfl (.L (cleanSs _) rfl (.K rfl rfl .nil)))))) (blksO.grown rfl rfl (cleanCells _) .nil)))) (.L rfl (cleanSs _) rfl (.K rfl rfl rfl (.cons rfl (.ofRow (by decide) rfl rfl) (.cons rfl .I (.cons rfl (.P rfl) (.cons rfl (.P rfl) (.L rfl (cleanI _) (congrArg (Value.int .i64) (yw.symm)) .nil))))))))⟩
   ·have hgr:(cellsAll (encE e0::encEs ipre)).length=((encEs ipre).length+1)*5:=by
     rw[show encE e0::encEs ipre=encEs (e0::ipre) from rfl,cellsEs_len,encEs_map,List.length_map];rfl
    have hg1:(encEs ipre).length+1+(0+1)≤100000:=by rw[encEs_map,List.length_map];simp at hx;omega
    (repeat' ((conv=>whnf);first|refine goA ?_|(rw[U.ble_f ((encEs ipre).length+1)];dsimp only;refine U.growRow_p hgr rfl ?_)|refine U.ob_c (grow_ok (by decide +kernel) hg1) ?_|refine goB ?_|refine ⟨_,c1,clM,tab0 _,?_⟩|refine U.drawX_p (D:=U.propX) 9 [] (by decide +kernel) (by decide +kernel) ?_|refine U.lw_c ?_ ?_<;>intro hb))
    (conv=>whnf);exact ⟨((e0::ipre)++[.mk k1 n1 a1 o1 l1],irest),by simp,by simp,(Cov.renO (fun k=>if k=3 then 5 else k) rfl rfl (bR rfl) zL (fun k hk=>by have:k<3:=hk;rw[if_neg (by omega)]) rfl nlz (blksO.row rfl rfl (cleanSCells _) (.C rfl (.K rfl rfl (.K rfl rfl (.L (cleanEs _) rfl (.L (cleanSs _) rfl (.L (cleanSs _) rfl (.K rfl rfl .nil)))))) (.C rfl (.K rfl rfl (.K rfl rfl (.cons (.grown (by decide) rfl (by simp[encEs]) (by simp[encEs,encEs_map]) (by simp[encEs,encEs_map])) (.L (cleanSs _) rfl (.L (cleanSs _) rfl (.K rfl rfl .nil)))))) (blksO.grown rfl ((cellsEs_snoc (e0::ipre) _)) (cleanCells _) .nil)))) (.L rfl (cleanSs _) rfl (.K rfl rfl rfl (.cons rfl (.ofRow (by decide) rfl rfl) (.cons rfl .I (.cons rfl (.P rfl) (.cons rfl (.P rfl) (.L rfl (cleanI _) (congrArg (Value.int .i64) (yw.symm)) .nil))))))))⟩
theorem IrExpr_all:∀(n:Nat) (e:Ex),szE e≤n->n≤1000->DenU Tryz.prog [] 19 [encE e] (encE e)
 |0,e,h,_=>by have:=szE_pos e;omega
 |n+1,.mk k m a o l,h,hn=>by
  rw[szE] at h;have:=szEs_len l;exact IrExpr_d k m a o l (by omega) fun e he=>IrExpr_all n e (by have:=szEs_mem he;omega) (by omega)
theorem IrStmts_all:∀(n:Nat) (l:List St),szSs l≤n->n≤1000->DenU Tryz.prog [] 57 [imS (encSs l)] (imS (encSs l))
 |0,l,h,hn=>by
  have:=szSs_len l;exact IrStmts_d l (by omega) fun k a xs th el no hm=>by
   have:=szSs_mem hm;rw[szS] at this;omega
 |n+1,l,h,hn=>by
  have:=szSs_len l;refine IrStmts_d l (by omega) fun k a xs th el no hm=>?_
  have:=szSs_mem hm;rw[szS] at this;have:=szEs_len xs;exact ⟨by omega,fun e he=>IrExpr_all 1000 e (by have:=szEs_mem he;omega) rL,IrStmts_all n th (by omega) (by omega),IrStmts_all n el (by omega) (by omega)⟩
end Go.Proofs.YtnfppdblcmollaaGreatDoor
