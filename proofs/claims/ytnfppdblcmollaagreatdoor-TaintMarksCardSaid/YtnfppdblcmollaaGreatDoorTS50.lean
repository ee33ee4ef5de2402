
import Derived.Test.YtnfppdblcmollaaGreatDoorTS42
import Derived.Test.YtnfppdblcmollaaGreatDoorTS49
namespace Go.Proofs.YtnfppdblcmollaaGreatDoor
open Go Go.RowKit Go.Sort U
set_option linter.unusedVariables false
set_option linter.unusedSimpArgs false
set_option maxRecDepth 100000
set_option maxHeartbeats 40000000
theorem cellsPr_snoc (l:List Pr13) (x:Pr13):cellsAll (prL (l++[x]))=cellsAll (prL l)++cellsOf (encPr x):=by
 rw[prL,List.map_append,cellsAll,List.flatMap_append,List.map_cons,List.map_nil,List.flatMap_cons,List.flatMap_nil,List.append_nil];rfl
theorem cellsIn_snoc (l:List In13) (x:In13):cellsAll (inL (l++[x]))=cellsAll (inL l)++cellsOf (encIn x):=by
 rw[inL_map,inL_map,List.map_append,cellsAll,List.flatMap_append];simp[cellsAll]
theorem rowS_c (b:Nat) (s0:Int) (ps:List Int):Value.slice (some ⟨b,0,none⟩) (0+((List.map (Value.int .i64) ps).length+1)) (0+((List.map (Value.int .i64) ps).length+1))=U.rowS b (iL (s0::ps)):=by
 rw[Nat.zero_add];rfl
theorem Ir_d (p:Pg) (hf:FewP p):DenU Tryz.prog [] 13 [encP p] (encP p):=by
 refine denU_of_body hmixU rfl Tryz.func13 rfl rfl rfl 0 ?_;intro Ts;have fa:=hf.arrs;have fi:=hf.ins;have fp:=hf.procs;have fs:=hf.ps;have fz:=hf.sz;obtain ⟨sl,arrs,ins,procs,main⟩:=p;dsimp only at *
 have c1:=IrStmts_all 1000 main (by omega) rL
 have c2:∀x∈procs,DenU Tryz.prog [] 57 [imS (encSs x.body)] (imS (encSs x.body)):=fun x hx=>by
  have:=szPrs_mem hx;exact IrStmts_all 1000 x.body (by omega) rL
 clear hf;have km:=cleanSs main;rcases hq:arrs with _|⟨a0,ar⟩
 all_goals
  try have hg0:0+((List.map (Value.int .i64) ar).length+1)≤100000:=(by have:=congrArg List.length hq;simp at this ⊢;omega)
  (repeat' ((conv=>whnf);first|refine goA ?_|refine U.ob_c (iL_one _) ?_|refine U.ob_c (grow_ok (by decide +kernel) hg0) ?_|refine goB ?_|refine ⟨_,c1,clM,tab0 _,?_⟩|refine U.drawX_p (D:=U.propX) 7 [] (by decide +kernel) (by decide +kernel) ?_|refine U.lw_c ?_ ?_<;>intro hb))
  (conv=>whnf);refine loop_inv (α:=List In13×List In13) (fun x=>x.1++x.2=ins) (fun x=>(mkF [(1,.pointer (some ⟨0,0,none⟩)),(2,.pointer (some ⟨1,0,none⟩)),(3,.pointer (some ⟨2,0,none⟩)),(4,.int .i64 x.1.length)],⟨mkO [(0,some (.cells 27 [.int .i64 sl,imS (iL arrs),imS (inL ins),imS (prL procs),imS (encSs main)] false)),(1,some (.cells 51 [.int .i64 0,.slice none 0 0,.slice none 0 0,.slice none 0 0,.slice none 0 0] false)),(2,some (.cells 51 [.int .i64 sl,imS (iL arrs),rowS 5 (inL x.1),.slice none 0 0,imS (encSs main)] false)),(5,rowO 132 (inL x.1))],6,0,0⟩)) (fun x=>x.2.length) ([],ins) rfl (Cov.frz (fun k=>k) 3 1 (T:=3) (ys:=iL arrs) rfl rfl (bR rfl) zL (fun _ _=>rfl) rfl nlz zL rfl (by rw[hq];rfl) iL_1 (cleanIC _) (.C rfl (.K rfl rfl (.L (cleanIL arrs) (by rw[hq]) (.L (cleanInL _) rfl (.L (cleanPrL _) rfl (.L (cleanSs _) rfl .nil))))) (.C rfl (.K rfl rfl (.K rfl rfl (.K rfl rfl (.K rfl rfl (.K rfl rfl .nil))))) (.C rfl (.K rfl rfl (.cons (.ext _ _ ⟨rfl,by rw[hq];first|exact rowS_c _ _ _|rfl⟩) (.K rfl rfl (.K rfl rfl (.L (cleanSs _) rfl .nil))))) (.none .nil)))) (.cons rfl (.P rfl) (.cons rfl (.P rfl) (.cons rfl (.P rfl) (.cons rfl .I .nil))))) ?_
  rintro ⟨pre,rest⟩ p1
  dsimp only at p1;dsimp only;have hil:(pre++rest).length≤20:=by rw[p1];exact fi
  rcases rest with _|⟨x,rest⟩
  ·rw[List.append_nil] at *;subst p1;have zb:=U.lt_no inL_map pre;(repeat' ((conv=>whnf);first|refine goD ?_|refine U.lw_c ?_ ?_<;>intro hb))
   (conv=>whnf);refine loop_inv (α:=List Pr13×List Pr13) (fun x=>x.1++x.2=procs) (fun x=>(mkF [(1,.pointer (some ⟨0,0,none⟩)),(2,.pointer (some ⟨1,0,none⟩)),(3,.pointer (some ⟨2,0,none⟩)),(6,.int .i64 x.1.length)],⟨mkO [(0,some (.cells 27 [.int .i64 sl,imS (iL arrs),imS (inL pre),imS (prL procs),imS (encSs main)] false)),(1,some (.cells 51 [.int .i64 0,.slice none 0 0,.slice none 0 0,.slice none 0 0,.slice none 0 0] false)),(2,some (.cells 51 [.int .i64 sl,imS (iL arrs),imS (inL pre),rowS 6 (prL x.1),imS (encSs main)] false)),(6,rowO 134 (prL x.1))],7,0,0⟩)) (fun x=>x.2.length) ([],procs) rfl (Cov.frz (fun k=>k) 5 5 (T:=132) (ys:=inL pre) rfl rfl (bR rfl) zL (fun _ _=>rfl) rfl nlz zL rfl rfl (cellsIn_5 pre) (cleanInC pre) (.C rfl (.K rfl rfl (.L (cleanIL _) rfl (.L (cleanInL _) rfl (.L (cleanPrL _) rfl (.L (cleanSs _) rfl .nil))))) (.C rfl (.K rfl rfl (.K rfl rfl (.K rfl rfl (.K rfl rfl (.K rfl rfl .nil))))) (.C rfl (.K rfl rfl (.L (cleanIL _) rfl (.cons (.ext _ _ ⟨rfl,rfl⟩) (.K rfl rfl (.L (cleanSs _) rfl .nil))))) (.none .nil)))) (.cons rfl (.P rfl) (.cons rfl (.P rfl) (.cons rfl (.P rfl) (.cons rfl .I .nil))))) ?_
   rintro ⟨qre,rest⟩ p2
   dsimp only at p2;dsimp only;have hpl:(qre++rest).length≤20:=by rw[p2];exact fp
   rcases rest with _|⟨x,rest⟩
   ·rw[List.append_nil] at *;subst p2;have yb:=U.lt_no prL_map qre;have hone:[Value.int .i64 sl,imS (iL arrs),imS (inL pre),rowS 6 (prL qre),imS (encSs main)].all Value.oneCell'=true:=by cases qre<;>rfl
    (repeat' ((conv=>whnf);first|refine goA ?_|refine U.ob_c hone ?_|refine goB ?_|refine U.lw_c ?_ ?_<;>intro hb))
    (conv=>whnf);refine .aggL (.cons (.clean _ (cleanI _)) (.cons (.same (cleanIL arrs) (by rw[hq])) (.cons (.clean _ (cleanInL _)) (.cons ?_ (.cons (.clean _ (cleanSs _)) .nil)))))
    cases qre with
    |nil=>exact .nil
    |cons x0 qre=>exact .rowL zL rfl rfl (cellsPr_3 (x0::qre)) rfl rL (cleanPrC (x0::qre))
   ·subst p2;have yb:=U.lt_yes prL_map qre (x) rest;have yc:=U.blt_yes prL_map qre (x) rest;have yn:=U.nth_at prL_map qre (x) rest;have yw:=U.len_snoc (pre:=qre) (x:=x) (post:=rest) ((Nat.le_trans (show _≤20 by omega) (by decide)))
    have c3:=c2 x (by simp)
    have hsx:=fs x (by simp)
    obtain ⟨nm,ps,body⟩:=x;dsimp only at c3 hsx;have kb:=cleanSs body;clear c2 fs;rcases ps with _|⟨s0,ps⟩
    ·rcases qre with _|⟨x0,qre⟩
     ·skip
      (repeat' ((conv=>whnf);first|refine goD ?_|refine ⟨_,c3,clM,tab0 _,?_⟩|refine U.drawX_m (D:=U.propX) 13 [] (by decide +kernel) (by decide +kernel) (by decide +kernel) ?_|refine U.lw_c ?_ ?_<;>intro hb))
      (conv=>whnf);exact ⟨([]++[⟨nm,[],body⟩],rest),by simp,by simp,(Cov.frz (fun k=>if k=6 then 9 else k) 1000 1 (T:=3) (ys:=iL []) rfl rfl (bR rfl) zL (fun k hk=>by have hk:k<6:=hk;rw[if_neg (by omega)]) rfl nlz zL rfl rfl iL_1 (cleanIC _) (.C rfl (.K rfl rfl (.L (cleanIL _) rfl (.L (cleanInL _) rfl (.L (cleanPrL _) rfl (.L (cleanSs _) rfl .nil))))) (.C rfl (.K rfl rfl (.K rfl rfl (.K rfl rfl (.K rfl rfl (.K rfl rfl .nil))))) (.C rfl (.K rfl rfl (.L (cleanIL _) rfl (.L (cleanInL _) rfl (.cons (.grown (by decide) rfl (by simp[prL]) (by simp[prL]) (by simp[prL])) (.L (cleanSs _) rfl .nil))))) (blksO.grownL rfl (.K rfl rfl (.cons (by exact .ext _ _ ⟨rfl,rfl⟩) (.L (cleanSs _) rfl .nil))) .nil)))) (.cons rfl (.P rfl) (.cons rfl (.P rfl) (.cons rfl (.P rfl) (.L rfl (cleanI _) (congrArg (Value.int .i64) (yw.symm)) .nil)))))⟩
     ·have hgr:(cellsAll (encPr x0::List.map encPr qre)).length=((List.map encPr qre).length+1)*3:=(by rw[show encPr x0::List.map encPr qre=prL (x0::qre) from rfl,cellsPr_len,List.length_map];rfl)
      have hg1:(List.map encPr qre).length+1+(0+1)≤100000:=(by rw[List.length_map];simp at hpl;omega)
      (repeat' ((conv=>whnf);first|refine goA ?_|(rw[U.ble_f ((List.map encPr qre).length+1)];dsimp only;refine U.growRow_p hgr rfl ?_)|refine U.ob_c (grow_ok (by decide +kernel) hg1) ?_|refine goB ?_|refine ⟨_,c3,clM,tab0 _,?_⟩|refine U.drawX_m (D:=U.propX) 13 [] (by decide +kernel) (by decide +kernel) (by decide +kernel) ?_|refine U.lw_c ?_ ?_<;>intro hb))
      (conv=>whnf);exact ⟨((x0::qre)++[⟨nm,[],body⟩],rest),by simp,by simp,(Cov.frz (fun k=>if k=6 then 9 else k) 1000 1 (T:=3) (ys:=iL []) rfl rfl (bR rfl) zL (fun k hk=>by have hk:k<6:=hk;rw[if_neg (by omega)]) rfl nlz zL rfl rfl iL_1 (cleanIC _) (.C rfl (.K rfl rfl (.L (cleanIL _) rfl (.L (cleanInL _) rfl (.L (cleanPrL _) rfl (.L (cleanSs _) rfl .nil))))) (.C rfl (.K rfl rfl (.K rfl rfl (.K rfl rfl (.K rfl rfl (.K rfl rfl .nil))))) (.C rfl (.K rfl rfl (.L (cleanIL _) rfl (.L (cleanInL _) rfl (.cons (.grown (by decide) rfl (by simp[prL]) (by simp[prL]) (by simp[prL])) (.L (cleanSs _) rfl .nil))))) (blksO.grownL rfl (by rw[cellsPr_snoc];exact RenL.app (RenL.refl (cleanPrC (x0::qre))) (.K rfl rfl (.cons (by exact .ext _ _ ⟨rfl,rfl⟩) (.L (cleanSs _) rfl .nil)))) .nil)))) (.cons rfl (.P rfl) (.cons rfl (.P rfl) (.cons rfl (.P rfl) (.L rfl (cleanI _) (congrArg (Value.int .i64) (yw.symm)) .nil)))))⟩
    ·rcases qre with _|⟨x0,qre⟩
     ·skip
      have hg2:0+((List.map (Value.int .i64) ps).length+1)≤100000:=(by simp at hsx ⊢;omega)
      (repeat' ((conv=>whnf);first|refine goA ?_|refine U.ob_c (iL_one _) ?_|refine U.ob_c (grow_ok (by decide +kernel) hg2) ?_|refine goB ?_|refine ⟨_,c3,clM,tab0 _,?_⟩|refine U.drawX_m (D:=U.propX) 13 [] (by decide +kernel) (by decide +kernel) (by decide +kernel) ?_|refine U.lw_c ?_ ?_<;>intro hb))
      (conv=>whnf);exact ⟨([]++[⟨nm,(s0::ps),body⟩],rest),by simp,by simp,(Cov.frz (fun k=>if k=6 then 10 else k) 8 1 (T:=3) (ys:=iL (s0::ps)) rfl rfl (bR rfl) zL (fun k hk=>by have hk:k<6:=hk;rw[if_neg (by omega)]) rfl nlz zL rfl rfl iL_1 (cleanIC _) (.C rfl (.K rfl rfl (.L (cleanIL _) rfl (.L (cleanInL _) rfl (.L (cleanPrL _) rfl (.L (cleanSs _) rfl .nil))))) (.C rfl (.K rfl rfl (.K rfl rfl (.K rfl rfl (.K rfl rfl (.K rfl rfl .nil))))) (.C rfl (.K rfl rfl (.L (cleanIL _) rfl (.L (cleanInL _) rfl (.cons (.grown (by decide) rfl (by simp[prL]) (by simp[prL]) (by simp[prL])) (.L (cleanSs _) rfl .nil))))) (blksO.grownL rfl (.K rfl rfl (.cons (by exact .ext _ _ ⟨rfl,rowS_c _ _ _⟩) (.L (cleanSs _) rfl .nil))) .nil)))) (.cons rfl (.P rfl) (.cons rfl (.P rfl) (.cons rfl (.P rfl) (.L rfl (cleanI _) (congrArg (Value.int .i64) (yw.symm)) .nil)))))⟩
     ·have hgr:(cellsAll (encPr x0::List.map encPr qre)).length=((List.map encPr qre).length+1)*3:=(by rw[show encPr x0::List.map encPr qre=prL (x0::qre) from rfl,cellsPr_len,List.length_map];rfl)
      have hg1:(List.map encPr qre).length+1+(0+1)≤100000:=(by rw[List.length_map];simp at hpl;omega)
      have hg2:0+((List.map (Value.int .i64) ps).length+1)≤100000:=(by simp at hsx ⊢;omega)
      (repeat' ((conv=>whnf);first|refine goA ?_|refine U.ob_c (iL_one _) ?_|refine U.ob_c (grow_ok (by decide +kernel) hg2) ?_|(rw[U.ble_f ((List.map encPr qre).length+1)];dsimp only;refine U.growRow_p hgr rfl ?_)|refine U.ob_c (grow_ok (by decide +kernel) hg1) ?_|refine goB ?_|refine ⟨_,c3,clM,tab0 _,?_⟩|refine U.drawX_m (D:=U.propX) 13 [] (by decide +kernel) (by decide +kernel) (by decide +kernel) ?_|refine U.lw_c ?_ ?_<;>intro hb))
      (conv=>whnf);exact ⟨((x0::qre)++[⟨nm,(s0::ps),body⟩],rest),by simp,by simp,(Cov.frz (fun k=>if k=6 then 10 else k) 8 1 (T:=3) (ys:=iL (s0::ps)) rfl rfl (bR rfl) zL (fun k hk=>by have hk:k<6:=hk;rw[if_neg (by omega)]) rfl nlz zL rfl rfl iL_1 (cleanIC _) (.C rfl (.K rfl rfl (.L (cleanIL _) rfl (.L (cleanInL _) rfl (.L (cleanPrL _) rfl (.L (cleanSs _) rfl .nil))))) (.C rfl (.K rfl rfl (.K rfl rfl (.K rfl rfl (.K rfl rfl (.K rfl rfl .nil))))) (.C rfl (.K rfl rfl (.L (cleanIL _) rfl (.L (cleanInL _) rfl (.cons (.grown (by decide) rfl (by simp[prL]) (by simp[prL]) (by simp[prL])) (.L (cleanSs _) rfl .nil))))) (blksO.grownL rfl (by rw[cellsPr_snoc];exact RenL.app (RenL.refl (cleanPrC (x0::qre))) (.K rfl rfl (.cons (by exact .ext _ _ ⟨rfl,rowS_c _ _ _⟩) (.L (cleanSs _) rfl .nil)))) .nil)))) (.cons rfl (.P rfl) (.cons rfl (.P rfl) (.cons rfl (.P rfl) (.L rfl (cleanI _) (congrArg (Value.int .i64) (yw.symm)) .nil)))))⟩
  ·subst p1;have zb:=U.lt_yes inL_map pre (x) rest;have zc:=U.blt_yes inL_map pre (x) rest;have zn:=U.nth_at inL_map pre (x) rest;have zw:=U.len_snoc (pre:=pre) (x:=x) (post:=rest) ((Nat.le_trans (show _≤20 by omega) (by decide)))
   obtain ⟨nm,slot,lo,hh,sec⟩:=x;rcases pre with _|⟨x0,pre⟩
   ·(repeat' ((conv=>whnf);first|refine goD ?_|refine U.lw_c ?_ ?_<;>intro hb))
    (conv=>whnf);exact ⟨([]++[⟨nm,slot,lo,hh,sec⟩],rest),by simp,by simp,(Cov.renO (fun k=>if k=5 then 8 else k) rfl rfl (bR rfl) zL (fun k hk=>by have hk:k<4:=Nat.lt_of_lt_of_le hk (bR rfl);rw[if_neg (by omega)]) rfl nlz (.C rfl (.K rfl rfl (.L (cleanIL _) rfl (.L (cleanInL _) rfl (.L (cleanPrL _) rfl (.L (cleanSs _) rfl .nil))))) (.C rfl (.K rfl rfl (.K rfl rfl (.K rfl rfl (.K rfl rfl (.K rfl rfl .nil))))) (.C rfl (.K rfl rfl (.L (cleanIL _) rfl (.cons (.grown (by decide) rfl (by simp[inL]) (by simp[inL]) (by simp[inL])) (.K rfl rfl (.L (cleanSs _) rfl .nil))))) (blksO.grown rfl rfl (cleanInC _) .nil)))) (.cons rfl (.P rfl) (.cons rfl (.P rfl) (.cons rfl (.P rfl) (.L rfl (cleanI _) (congrArg (Value.int .i64) (zw.symm)) .nil)))))⟩
   ·have hgr:(cellsAll (encIn x0::List.map encIn pre)).length=((List.map encIn pre).length+1)*5:=by
     rw[show encIn x0::List.map encIn pre=inL (x0::pre) from rfl,cellsIn_len,List.length_map];rfl
    have hg1:(List.map encIn pre).length+1+(0+1)≤100000:=by rw[List.length_map];simp at hil;omega
    (repeat' ((conv=>whnf);first|refine goA ?_|(rw[U.ble_f ((List.map encIn pre).length+1)];dsimp only;refine U.growRow_p hgr rfl ?_)|refine U.ob_c (grow_ok (by decide +kernel) hg1) ?_|refine goB ?_|refine U.lw_c ?_ ?_<;>intro hb))
    (conv=>whnf);exact ⟨((x0::pre)++[⟨nm,slot,lo,hh,sec⟩],rest),by simp,by simp,(Cov.renO (fun k=>if k=5 then 8 else k) rfl rfl (bR rfl) zL (fun k hk=>by have hk:k<4:=Nat.lt_of_lt_of_le hk (bR rfl);rw[if_neg (by omega)]) rfl nlz (.C rfl (.K rfl rfl (.L (cleanIL _) rfl (.L (cleanInL _) rfl (.L (cleanPrL _) rfl (.L (cleanSs _) rfl .nil))))) (.C rfl (.K rfl rfl (.K rfl rfl (.K rfl rfl (.K rfl rfl (.K rfl rfl .nil))))) (.C rfl (.K rfl rfl (.L (cleanIL _) rfl (.cons (.grown (by decide) rfl (by simp[inL]) (by simp[inL]) (by simp[inL])) (.K rfl rfl (.L (cleanSs _) rfl .nil))))) (blksO.grown rfl ((cellsIn_snoc (x0::pre) _)) (cleanInC _) .nil)))) (.cons rfl (.P rfl) (.cons rfl (.P rfl) (.cons rfl (.P rfl) (.L rfl (cleanI _) (congrArg (Value.int .i64) (zw.symm)) .nil)))))⟩
end Go.Proofs.YtnfppdblcmollaaGreatDoor
