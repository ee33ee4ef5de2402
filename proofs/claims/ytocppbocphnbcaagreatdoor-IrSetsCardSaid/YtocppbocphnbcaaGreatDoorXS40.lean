
import Derived.Test.YtocppbocphnbcaaGreatDoorXS25
import Derived.Test.YtocppbocphnbcaaGreatDoorXS26
import Derived.Test.YtocppbocphnbcaaGreatDoorXS27
import Derived.Test.YtocppbocphnbcaaGreatDoorXS30
import Derived.Test.YtocppbocphnbcaaGreatDoorXS35
import Derived.Test.YtocppbocphnbcaaGreatDoorXS39
namespace Go.Proofs.YtocppbocphnbcaaGreatDoor
open Go Go.RowKit Go.Sort U
set_option linter.unusedVariables false
set_option linter.unusedSimpArgs false
set_option maxRecDepth 100000
set_option maxHeartbeats 40000000
theorem callL_app (a b:List St):callL (a++b)=callL a++callL b:=List.filterMap_append
theorem callL_one (k a:Int) (xs:List Ex) (th el:List St) (no:Int):callL [.mk k a xs th el no]=if k=5 then [a] else []:=by
 have:=callL_snoc [] k a xs th el no;simpa [callL] using this
theorem callL_rnd (pre:List St) (k a:Int) (xs:List Ex) (th el:List St) (no:Int):callL (allSs (pre++[.mk k a xs th el no]))=callL (allSs pre)++((if k=5 then [a] else [])++(callL (allSs th)++callL (allSs el))):=by
 rw[allSs_app',callL_app,allSs,allSs,List.append_nil,allS,← List.singleton_append,callL_app,callL_one,callL_app]
theorem sites_all:∀(N:Nat) (l:List St),szSs l≤N->szSs l≤1000->DenU Tryz.prog [] 74 [imS (encSs l)] (imS (iL (callL (allSs l)))):=by
 intro N;induction N with
 |zero =>
  intro l h0 h1;obtain rfl:l=[]:=List.length_eq_zero_iff.1 (by have:=szSs_len l;omega)
  refine denU_of_body hmixU rfl Tryz.func74 rfl rfl rfl 0 ?_;intro Ts;(repeat' ((conv=>whnf);first|refine goD ?_|refine U.lw_c ?_ ?_<;>intro hb))
  (conv=>whnf);refine loop_inv (α:=Unit) (fun _=>True) (fun _=>(mkF [(0,imS []),(2,.slice none 0 0),(3,.slice none 0 0),(4,.int .i64 0)],⟨mkO [],0,0,0⟩)) (fun _=>0) () trivial (Cov.renI rfl rfl rfl rfl .nil (.L rfl (cleanSs []) rfl (.K rfl rfl rfl (.K rfl rfl rfl (.K rfl rfl rfl .nil))))) ?_
  rintro _ _
  (repeat' ((conv=>whnf);first|refine goD ?_|refine U.lw_c ?_ ?_<;>intro hb))
  (conv=>whnf);exact .nil
 |succ N ih =>
  intro l h0 h1;refine denU_of_body hmixU rfl Tryz.func74 rfl rfl rfl 0 ?_;intro Ts;have hcl:=cleanSs l;(repeat' ((conv=>whnf);first|refine goD ?_|refine U.lw_c ?_ ?_<;>intro hb))
  (conv=>whnf);refine loop_sem (α:=List St×List St) (fun x=>x.1++x.2=l) (fun x=>(mkF [(0,imS (encSs l)),(2,.slice none 0 0),(3,rowS 0 (iL (callL (allSs x.1)))),(4,.int .i64 x.1.length)],⟨mkO [(0,rowO 3 (iL (callL (allSs x.1))))],1,0,0⟩)) (fun x=>x.2.length) ([],l) rfl (Cov.renI rfl rfl rfl rfl (.none .nil) (.L rfl (cleanSs _) rfl (.K rfl rfl rfl (.K rfl rfl rfl (.K rfl rfl rfl .nil))))) ?_
  rintro ⟨pre,rest⟩ p1
  dsimp only at p1;subst p1;dsimp only;have hlen:=szSs_len (pre++rest);rcases rest with _|⟨s,rest⟩
  ·rw[List.append_nil] at *;have zb:=U.lt_no encSs_map pre;obtain ⟨R,hR⟩:∃R,R=callL (allSs pre):=⟨_,rfl⟩
   rw[← hR];refine CodeS.run hmixU 0 zL ?_;cases R with
   |nil =>
    (repeat' ((conv=>whnf);first|refine goD ?_|refine U.lw_c ?_ ?_<;>intro hb))
    (conv=>whnf);exact .nil
   |cons s0 o =>
    (repeat' ((conv=>whnf);first|refine goD ?_|refine U.lw_c ?_ ?_<;>intro hb))
    (conv=>whnf);exact .rowL zL rfl rfl iL_1 rfl rL (cleanIC (s0::o))
  ·have zb:=U.lt_yes encSs_map pre (s) rest;have zc:=U.blt_yes encSs_map pre (s) rest;have zn:=U.nth_at encSs_map pre (s) rest;have zw:=U.len_snoc (pre:=pre) (x:=s) (post:=rest) ((Nat.le_trans (show _≤1000 by omega) (by decide)))
   obtain ⟨k,a,xs,th,el,no⟩:=s;have hsz:=szSs_app pre (.mk k a xs th el no::rest);rw[szSs,szS] at hsz;have c2:=ih th (by omega) (by omega)
   have c3:=ih el (by omega) (by omega)
   have e1:=callL_rnd pre k a xs th el no;have l1:=callL_len (allSs pre);have l2:=allSs_len pre;have l3:=callL_len (allSs th);have l4:=allSs_len th;have l5:=callL_len (allSs el);have l6:=allSs_len el
   have hm1:pre.length+(rest.length+1)≤1000:=by simp at hlen;omega
   generalize callL (allSs pre)=R at *
   generalize callL (allSs th)=A at *
   generalize callL (allSs el)=B at *
   have o1:=iL_one A;have o2:=iL_one B;clear ih;have fA:∀(R A:List Int),(R++A).length≤90000->True:=fun _ _ _=>trivial
   refine CodeS.then_ (mkF [(0,imS (encSs (pre++.mk k a xs th el no::rest))),(2,.slice none 0 0),(3,rowS 0 (iL R)),(4,.int .i64 pre.length)]) ⟨mkO [(0,rowO 3 (iL R))],1,0,0⟩ ?_ ?_
   ·refine CodeS.run hmixU 0 zL ?_;(repeat' ((conv=>whnf);first|refine goD ?_|refine U.lw_c ?_ ?_<;>intro hb))
    (conv=>whnf);exact (Cov.renI rfl rfl rfl rfl (blksO.row rfl rfl (cleanIC _) .nil) (.L rfl (cleanSs _) rfl (.K rfl rfl rfl (.cons rfl (.ofRow (by decide) rfl rfl) (.cons rfl .I .nil)))))
   obtain ⟨R1,hR1⟩:∃R1,R1=R++(if k=5 then [a] else []):=⟨_,rfl⟩
   have hl1:R1.length≤R.length+1:=by rw[hR1,List.length_append];split<;>simp
   refine CodeS.then_ (mkF [(0,imS (encSs (pre++.mk k a xs th el no::rest))),(2,.slice none 0 0),(3,rowS 15 (iL (R1++A++B))),(4,.int .i64 pre.length)]) ⟨mkO [(15,rowO 3 (iL (R1++A++B)))],16,0,0⟩ (CodeS.block (CodeS.then_ (mkF [(0,imS (encSs (pre++.mk k a xs th el no::rest))),(2,.slice none 0 0),(3,rowS 5 (iL R1)),(4,.int .i64 pre.length)]) ⟨mkO [(5,rowO 3 (iL R1))],6,0,0⟩ ?_ (CodeS.then_ (mkF [(0,imS (encSs (pre++.mk k a xs th el no::rest))),(2,.slice none 0 0),(3,rowS 10 (iL (R1++A))),(4,.int .i64 pre.length)]) ⟨mkO [(10,rowO 3 (iL (R1++A)))],11,0,0⟩ ?_ ?_))) ?_
   ·refine CodeS.run hmixU 0 zL ?_;rw[hR1];by_cases hk:k=5
    ·have g5:(k==5)=true:=by simpa using hk
     rw[if_pos hk];rcases R with _|⟨r0,R⟩
     ·(repeat' ((conv=>whnf);first|refine goD ?_|refine U.lw_c ?_ ?_<;>intro hb))
      (conv=>whnf);exact (Cov.renO (fun k=>if k=5 then 2 else k) rfl rfl (bR rfl) zL (fun k hk=>by have:k<1:=hk;rw[if_neg (by omega)]) rfl nlz (blksO.grown rfl rfl (cleanIC _) .nil) (.L rfl (cleanSs _) rfl (.K rfl rfl rfl (.cons rfl (.grown (by decide) rfl (by simp[iL]) (by simp[iL]) (by simp[iL])) (.cons rfl .I .nil)))))
     ·have hgr:(cellsAll (Value.int .i64 r0::List.map (Value.int .i64) R)).length=((List.map (Value.int .i64) R).length+1)*1:=by
       rw[show Value.int .i64 r0::List.map (Value.int .i64) R=iL (r0::R) from rfl,cellsI,iL_len,List.length_map];simp
      have hg1:(List.map (Value.int .i64) R).length+1+(0+1)≤100000:=by rw[List.length_map];simp at l1;omega
      (repeat' ((conv=>whnf);first|refine goA ?_|(rw[U.ble_f ((List.map (Value.int .i64) R).length+1)];dsimp only;refine U.growRow_p hgr rfl ?_)|refine U.ob_c (grow_ok (by decide +kernel) hg1) ?_|refine goB ?_|refine U.lw_c ?_ ?_<;>intro hb))
      (conv=>whnf);exact (Cov.renO (fun k=>if k=5 then 2 else k) rfl rfl (bR rfl) zL (fun k hk=>by have:k<1:=hk;rw[if_neg (by omega)]) rfl nlz (blksO.grown rfl ((by rw[iL_app];exact List.flatMap_append)) (cleanIC _) .nil) (.L rfl (cleanSs _) rfl (.K rfl rfl rfl (.cons rfl (.grown (by decide) rfl (by simp[iL]) (by simp[iL]) (by simp[iL])) (.cons rfl .I .nil)))))
    ·have g5:(k==5)=false:=by simpa using hk
     rw[if_neg hk,List.append_nil];(repeat' ((conv=>whnf);first|refine goD ?_|refine U.lw_c ?_ ?_<;>intro hb))
     (conv=>whnf);exact (Cov.renO (fun k=>if k=5 then 0 else k) rfl rfl (bR rfl) zL (fun k hk=>by have:k<1:=hk;rw[if_neg (by omega)]) rfl nlz (blksO.row rfl rfl (cleanIC _) .nil) (.L rfl (cleanSs _) rfl (.K rfl rfl rfl (.cons rfl (.ofRow (by decide) rfl rfl) (.cons rfl .I .nil)))))
   ·refine CodeS.run hmixU 0 zL ?_;rcases A with _|⟨a0,A0⟩
    ·rw[List.append_nil];obtain ⟨Z,hZ⟩:∃Z,Z=R1:=⟨_,rfl⟩
     rw[← hZ];clear hZ;rcases Z with _|⟨r0,Z⟩
     ·(repeat' ((conv=>whnf);first|refine goD ?_|refine U.SoundAt.u (c2) clM ?_|refine U.SoundC.u (c2) clM ?_|refine U.lw_c ?_ ?_<;>intro hb))
      (conv=>whnf);exact (Cov.renO (fun k=>if k=10 then 5 else k) rfl rfl (bR rfl) zL (fun k hk=>by have:k<6:=hk;rw[if_neg (by omega)]) rfl nlz (blksO.row rfl rfl (cleanIC _) .nil) (.L rfl (cleanSs _) rfl (.K rfl rfl rfl (.cons rfl (.ofRow (by decide) rfl rfl) (.cons rfl .I .nil)))))
     ·(repeat' ((conv=>whnf);first|refine goD ?_|refine U.SoundAt.u (c2) clM ?_|refine U.SoundC.u (c2) clM ?_|refine U.lw_c ?_ ?_<;>intro hb))
      (conv=>whnf);exact (Cov.renO (fun k=>if k=10 then 5 else k) rfl rfl (bR rfl) zL (fun k hk=>by have:k<6:=hk;rw[if_neg (by omega)]) rfl nlz (blksO.row rfl rfl (cleanIC _) .nil) (.L rfl (cleanSs _) rfl (.K rfl rfl rfl (.cons rfl (.ofRow (by decide) rfl rfl) (.cons rfl .I .nil)))))
    ·have ha0:A0.length≤1000:=by simp at l3;omega
     obtain ⟨Z,hZ⟩:∃Z,Z=R1:=⟨_,rfl⟩
     have hZl:Z.length≤9000:=by rw[hZ];(try rw[List.length_append]);omega
     rw[← hZ];clear hZ;rcases Z with _|⟨r0,Z⟩
     ·have hg1:0+((List.map (Value.int .i64) A0).length+1)≤100000:=by rw[List.length_map];omega
      (repeat' ((conv=>whnf);first|refine goA ?_|refine U.ob_c (grow_ok (by decide +kernel) hg1) ?_|refine goB ?_|refine U.SoundAt.u (c2) clM ?_|refine U.SoundC.u (c2) clM ?_|refine U.lw_c ?_ ?_<;>intro hb))
      (conv=>whnf);exact (Cov.renO (fun k=>if k=10 then 6 else k) rfl rfl (bR rfl) zL (fun k hk=>by have:k<6:=hk;rw[if_neg (by omega)]) rfl nlz (blksO.grown rfl rfl (cleanIC _) .nil) (.L rfl (cleanSs _) rfl (.K rfl rfl rfl (.cons rfl (.grown (by decide) rfl (by simp[iL]) (by simp[iL]<;>omega) (by simp[iL]<;>omega)) (.cons rfl .I .nil)))))
     ·have hgr:(cellsAll (Value.int .i64 r0::List.map (Value.int .i64) Z)).length=((List.map (Value.int .i64) Z).length+1)*1:=by
       rw[show Value.int .i64 r0::List.map (Value.int .i64) Z=iL (r0::Z) from rfl,cellsI,iL_len,List.length_map];simp
      have hg1:(List.map (Value.int .i64) Z).length+1+((List.map (Value.int .i64) A0).length+1)≤100000:=by rw[List.length_map,List.length_map];simp at hZl;omega
      (repeat' ((conv=>whnf);first|refine goA ?_|(rw[U.ble_g ((List.map (Value.int .i64) Z).length+1)];dsimp only;refine U.growRow_p hgr rfl ?_)|refine U.ob_c (grow_ok (by decide +kernel) hg1) ?_|refine goB ?_|refine U.SoundAt.u (c2) clM ?_|refine U.SoundC.u (c2) clM ?_|refine U.lw_c ?_ ?_<;>intro hb))
      (conv=>whnf);exact (Cov.renO (fun k=>if k=10 then 6 else k) rfl rfl (bR rfl) zL (fun k hk=>by have:k<6:=hk;rw[if_neg (by omega)]) rfl nlz (blksO.grown rfl ((by rw[iL_app];exact List.flatMap_append)) (cleanIC _) .nil) (.L rfl (cleanSs _) rfl (.K rfl rfl rfl (.cons rfl (.grown (by decide) rfl (by simp[iL]) (by simp[iL]<;>omega) (by simp[iL]<;>omega)) (.cons rfl .I .nil)))))
   ·refine CodeS.run hmixU 0 zL ?_;rcases B with _|⟨a0,A0⟩
    ·rw[List.append_nil];obtain ⟨Z,hZ⟩:∃Z,Z=R1++A:=⟨_,rfl⟩
     rw[← hZ];clear hZ;rcases Z with _|⟨r0,Z⟩
     ·(repeat' ((conv=>whnf);first|refine goD ?_|refine U.SoundAt.u (c3) clM ?_|refine U.SoundC.u (c3) clM ?_|refine U.lw_c ?_ ?_<;>intro hb))
      (conv=>whnf);exact (Cov.renO (fun k=>if k=15 then 10 else k) rfl rfl (bR rfl) zL (fun k hk=>by have:k<1:=hk;rw[if_neg (by omega)]) rfl nlz (blksO.row rfl rfl (cleanIC _) .nil) (.L rfl (cleanSs _) rfl (.K rfl rfl rfl (.cons rfl (.ofRow (by decide) rfl rfl) (.cons rfl .I .nil)))))
     ·(repeat' ((conv=>whnf);first|refine goD ?_|refine U.SoundAt.u (c3) clM ?_|refine U.SoundC.u (c3) clM ?_|refine U.lw_c ?_ ?_<;>intro hb))
      (conv=>whnf);exact (Cov.renO (fun k=>if k=15 then 10 else k) rfl rfl (bR rfl) zL (fun k hk=>by have:k<1:=hk;rw[if_neg (by omega)]) rfl nlz (blksO.row rfl rfl (cleanIC _) .nil) (.L rfl (cleanSs _) rfl (.K rfl rfl rfl (.cons rfl (.ofRow (by decide) rfl rfl) (.cons rfl .I .nil)))))
    ·have ha0:A0.length≤1000:=by simp at l5;omega
     obtain ⟨Z,hZ⟩:∃Z,Z=R1++A:=⟨_,rfl⟩
     have hZl:Z.length≤9000:=by rw[hZ];(try rw[List.length_append]);omega
     rw[← hZ];clear hZ;rcases Z with _|⟨r0,Z⟩
     ·have hg1:0+((List.map (Value.int .i64) A0).length+1)≤100000:=by rw[List.length_map];omega
      (repeat' ((conv=>whnf);first|refine goA ?_|refine U.ob_c (grow_ok (by decide +kernel) hg1) ?_|refine goB ?_|refine U.SoundAt.u (c3) clM ?_|refine U.SoundC.u (c3) clM ?_|refine U.lw_c ?_ ?_<;>intro hb))
      (conv=>whnf);exact (Cov.renO (fun k=>if k=15 then 11 else k) rfl rfl (bR rfl) zL (fun k hk=>by have:k<1:=hk;rw[if_neg (by omega)]) rfl nlz (blksO.grown rfl rfl (cleanIC _) .nil) (.L rfl (cleanSs _) rfl (.K rfl rfl rfl (.cons rfl (.grown (by decide) rfl (by simp[iL]) (by simp[iL]<;>omega) (by simp[iL]<;>omega)) (.cons rfl .I .nil)))))
     ·have hgr:(cellsAll (Value.int .i64 r0::List.map (Value.int .i64) Z)).length=((List.map (Value.int .i64) Z).length+1)*1:=by
       rw[show Value.int .i64 r0::List.map (Value.int .i64) Z=iL (r0::Z) from rfl,cellsI,iL_len,List.length_map];simp
      have hg1:(List.map (Value.int .i64) Z).length+1+((List.map (Value.int .i64) A0).length+1)≤100000:=by rw[List.length_map,List.length_map];simp at hZl;omega
      (repeat' ((conv=>whnf);first|refine goA ?_|(rw[U.ble_g ((List.map (Value.int .i64) Z).length+1)];dsimp only;refine U.growRow_p hgr rfl ?_)|refine U.ob_c (grow_ok (by decide +kernel) hg1) ?_|refine goB ?_|refine U.SoundAt.u (c3) clM ?_|refine U.SoundC.u (c3) clM ?_|refine U.lw_c ?_ ?_<;>intro hb))
      (conv=>whnf);exact (Cov.renO (fun k=>if k=15 then 11 else k) rfl rfl (bR rfl) zL (fun k hk=>by have:k<1:=hk;rw[if_neg (by omega)]) rfl nlz (blksO.grown rfl ((by rw[iL_app];exact List.flatMap_append)) (cleanIC _) .nil) (.L rfl (cleanSs _) rfl (.K rfl rfl rfl (.cons rfl (.grown (by decide) rfl (by simp[iL]) (by simp[iL]<;>omega) (by simp[iL]<;>omega)) (.cons rfl .I .nil)))))
   ·refine CodeS.run hmixU 0 zL ?_;(repeat' ((conv=>whnf);first|refine goD ?_|refine U.lw_c ?_ ?_<;>intro hb))
    (conv=>whnf);refine ⟨(pre++[.mk k a xs th el no],rest),by simp,by simp,?_⟩
    dsimp only;rw[e1,← List.append_assoc,← hR1,← List.append_assoc];exact (Cov.renO (fun k=>if k=0 then 15 else k) rfl rfl (bR rfl) zL (fun k hk=>by have:k<0:=hk;rw[if_neg (by omega)]) rfl nlz (blksO.row rfl rfl (cleanIC _) .nil) (.L rfl (cleanSs _) rfl (.K rfl rfl rfl (.cons rfl (.ofRow (by decide) rfl rfl) (.L rfl (cleanI _) (congrArg (Value.int .i64) (zw.symm)) .nil)))))
def prG (l:List Pr13):List (List Int):=l.map fun x=>callL (allSs x.body)
def prN (l:List Pr13):List ByteArray:=l.map (·.nm)
theorem prG_snoc (l:List Pr13) (x:Pr13):prG (l++[x])=prG l++[callL (allSs x.body)]:=by simp[prG]
theorem prN_snoc (l:List Pr13) (x:Pr13):prN (l++[x])=prN l++[x.nm]:=by simp[prN]
theorem gL_app (a b:List (List Int)):gL (a++b)=gL a++gL b:=by rw[gL_map,gL_map,gL_map,List.map_append]
theorem sL_app (a b:List ByteArray):sL (a++b)=sL a++sL b:=List.map_append
theorem rgraph_d (p:Pg) (hf:FewP p):DenU Tryz.prog [] 40 [encP p] (encG (graphP p)):=by
 refine denU_of_sound hmixU fun Ts=>SoundAt.body hmixU Tryz.func40 rfl rfl rfl 0 ?_
 have hp:=hf.procs;have hsz:=hf.sz;have hgr:graphP p=⟨prN p.procs,prG p.procs++[callL (allSs p.main)]⟩:=rfl;rw[hgr];clear hgr hf;obtain ⟨sl,arrs,ins,procs,main⟩:=p;dsimp only at *;(repeat' ((conv=>whnf);first|refine goD ?_|refine U.lw_c ?_ ?_<;>intro hb))
 (conv=>whnf);refine loop_inv (α:=List Pr13×List Pr13) (fun x=>x.1++x.2=procs) (fun x=>(mkF [(1,.pointer (some ⟨0,0,none⟩)),(2,.pointer (some ⟨1,0,none⟩)),(3,.pointer (some ⟨2,0,none⟩)),(4,.int .i64 x.1.length)],⟨mkO [(0,some (.cells 34 (cellsOf (encP ⟨sl,arrs,ins,procs,main⟩)) false)),(1,some (.cells 93 [.slice none 0 0,.slice none 0 0] false)),(2,some (.cells 93 [rowS 3 (sL (prN x.1)),rowS 4 (gL (prG x.1))] false)),(3,rowO 9 (sL (prN x.1))),(4,rowO 22 (gL (prG x.1)))],5,0,0⟩)) (fun x=>x.2.length) ([],procs) rfl (Cov.renI rfl rfl rfl rfl (.W rfl ((fun c hc=>cleanP_cells ⟨sl,arrs,ins,procs,main⟩ c hc)) rfl (.C rfl (.K rfl rfl (.K rfl rfl .nil)) (.C rfl (.K rfl rfl (.K rfl rfl .nil)) (.none (.none .nil))))) (.cons rfl (.P rfl) (.cons rfl (.P rfl) (.cons rfl (.P rfl) (.K rfl rfl rfl .nil))))) ?_
 rintro ⟨pre,rest⟩ p1
 dsimp only at p1;subst p1;dsimp only;rcases rest with _|⟨x,rest⟩
 ·rw[List.append_nil] at *;have zb:=U.lt_no prL_map pre;have c2:=sites_all 1000 main (by omega) (by omega)
  have km:=cleanSs main;generalize callL (allSs main)=R at *
  obtain ⟨N0,hN⟩:∃N0,N0=prN pre:=⟨_,rfl⟩
  obtain ⟨G0,hG⟩:∃G0,G0=prG pre:=⟨_,rfl⟩
  have hGl:G0.length≤20:=by rw[hG,prG,List.length_map];exact hp
  rw[← hN,← hG];clear hN hG;rcases N0 with _|⟨n0,N0⟩<;>rcases G0 with _|⟨g0,G0⟩
  ·(repeat' ((conv=>whnf);first|refine goD ?_|refine U.SoundAt.u (c2) clM ?_|refine U.SoundC.u (c2) clM ?_|refine U.drawX_p (D:=U.propX) 6 [] (by decide +kernel) (by decide +kernel) ?_|refine U.lw_c ?_ ?_<;>intro hb))
   (conv=>whnf);exact .aggL (.cons .nil (.cons (.rowL (ys:=gL ([]++[R])) zL rfl rfl gL_1 rfl rL (cleanGC _)) .nil))
  ·have hgr:(cellsAll (imS (iL g0)::List.map (fun r=>imS (iL r)) G0)).length=((List.map (fun r=>imS (iL r)) G0).length+1)*1:=by
    rw[show imS (iL g0)::List.map (fun r=>imS (iL r)) G0=gL (g0::G0) from rfl,cellsG,gL_len,List.length_map];simp
   have hg1:(List.map (fun r=>imS (iL r)) G0).length+1+(0+1)≤100000:=by rw[List.length_map];simp at hGl;omega
   (repeat' ((conv=>whnf);first|refine goA ?_|(rw[U.ble_f ((List.map (fun r=>imS (iL r)) G0).length+1)];dsimp only;refine U.growRow_p hgr rfl ?_)|refine U.ob_c (grow_ok (by decide +kernel) hg1) ?_|refine goB ?_|refine U.SoundAt.u (c2) clM ?_|refine U.SoundC.u (c2) clM ?_|refine U.drawX_p (D:=U.propX) 6 [] (by decide +kernel) (by decide +kernel) ?_|refine U.lw_c ?_ ?_<;>intro hb))
   (conv=>whnf);exact .aggL (.cons .nil (.cons (.rowL (ys:=gL ((g0::G0)++[R])) zL rfl (by rw[gL_app];symm;exact List.flatMap_append) gL_1 (by simp[gL]) rL (cleanGC _)) .nil))
  ·(repeat' ((conv=>whnf);first|refine goD ?_|refine U.SoundAt.u (c2) clM ?_|refine U.SoundC.u (c2) clM ?_|refine U.drawX_p (D:=U.propX) 6 [] (by decide +kernel) (by decide +kernel) ?_|refine U.lw_c ?_ ?_<;>intro hb))
   (conv=>whnf);exact .aggL (.cons (.ofRow (b:=3) (ys:=sL (n0::N0)) zL rfl sL_1 (cleanSC _)) (.cons (.rowL (ys:=gL ([]++[R])) zL rfl rfl gL_1 rfl rL (cleanGC _)) .nil))
  ·have hgr:(cellsAll (imS (iL g0)::List.map (fun r=>imS (iL r)) G0)).length=((List.map (fun r=>imS (iL r)) G0).length+1)*1:=by
    rw[show imS (iL g0)::List.map (fun r=>imS (iL r)) G0=gL (g0::G0) from rfl,cellsG,gL_len,List.length_map];simp
   have hg1:(List.map (fun r=>imS (iL r)) G0).length+1+(0+1)≤100000:=by rw[List.length_map];simp at hGl;omega
   (repeat' ((conv=>whnf);first|refine goA ?_|(rw[U.ble_f ((List.map (fun r=>imS (iL r)) G0).length+1)];dsimp only;refine U.growRow_p hgr rfl ?_)|refine U.ob_c (grow_ok (by decide +kernel) hg1) ?_|refine goB ?_|refine U.SoundAt.u (c2) clM ?_|refine U.SoundC.u (c2) clM ?_|refine U.drawX_p (D:=U.propX) 6 [] (by decide +kernel) (by decide +kernel) ?_|refine U.lw_c ?_ ?_<;>intro hb))
   (conv=>whnf);exact .aggL (.cons (.ofRow (b:=3) (ys:=sL (n0::N0)) zL rfl sL_1 (cleanSC _)) (.cons (.rowL (ys:=gL ((g0::G0)++[R])) zL rfl (by rw[gL_app];symm;exact List.flatMap_append) gL_1 (by simp[gL]) rL (cleanGC _)) .nil))
 ·have zb:=U.lt_yes prL_map pre (x) rest;have zc:=U.blt_yes prL_map pre (x) rest;have zn:=U.nth_at prL_map pre (x) rest;have zw:=U.len_snoc (pre:=pre) (x:=x) (post:=rest) ((by simp[maxI] at hp ⊢;omega))
  obtain ⟨nm,ps,body⟩:=x;have hps:=szPrs_app pre (Pr13.mk nm ps body::rest);rw[szPrs] at hps;dsimp only at hps;have c2:=sites_all 1000 body (by omega) (by omega)
  have kb:=cleanSs body;have e1:∀N0,N0=prN pre->prN (pre++[Pr13.mk nm ps body])=N0++[nm]:=fun N0 h=>by rw[h];exact prN_snoc pre ⟨nm,ps,body⟩
  have e2:∀G0,G0=prG pre->prG (pre++[Pr13.mk nm ps body])=G0++[callL (allSs body)]:=fun G0 h=>by rw[h];exact prG_snoc pre ⟨nm,ps,body⟩
  generalize callL (allSs body)=R at *
  obtain ⟨N0,hN⟩:∃N0,N0=prN pre:=⟨_,rfl⟩
  obtain ⟨G0,hG⟩:∃G0,G0=prG pre:=⟨_,rfl⟩
  have hGl:G0.length=pre.length:=by rw[hG,prG,List.length_map]
  have hNl:N0.length=pre.length:=by rw[hN,prN,List.length_map]
  replace e1:=e1 N0 hN;replace e2:=e2 G0 hG;rw[← hN,← hG];clear hN hG;have hp':pre.length≤20:=by simp at hp;omega
  rcases N0 with _|⟨n0,N0⟩
  ·obtain rfl:G0=[]:=List.length_eq_zero_iff.1 (by rw[hGl,← hNl];rfl)
   (repeat' ((conv=>whnf);first|refine goD ?_|refine U.SoundAt.u (c2) clM ?_|refine U.SoundC.u (c2) clM ?_|refine U.drawX_p (D:=U.propX) 9 [] (by decide +kernel) (by decide +kernel) ?_|refine U.drawX_p (D:=U.propX) 10 [] (by decide +kernel) (by decide +kernel) ?_|refine U.lw_c ?_ ?_<;>intro hb))
   (conv=>whnf);refine ⟨(pre++[⟨nm,ps,body⟩],rest),by simp,by simp,?_⟩
   dsimp only;rw[e1,e2];exact (Cov.renO (fun k=>if k=3 then 6 else if k=4 then 8 else k) rfl rfl (bR rfl) zL (fun k hk=>by have:k<3:=hk;rw[if_neg (by omega)];rw[if_neg (by omega)]) rfl nlz (.W rfl ((fun c hc=>cleanP_cells ⟨sl,arrs,ins,_,main⟩ c hc)) rfl (.C rfl (.K rfl rfl (.K rfl rfl .nil)) (.C rfl (.cons (.grown (by decide) rfl (by simp[sL]) (by simp[sL]) (by simp[sL])) (.cons (.grown (by decide) rfl (by simp[gL]) (by simp[gL]) (by simp[gL])) .nil)) (blksO.grown rfl rfl (cleanSC _) (blksO.grown rfl rfl (cleanGC _) .nil))))) (.cons rfl (.P rfl) (.cons rfl (.P rfl) (.cons rfl (.P rfl) (.L rfl (cleanI _) (congrArg (Value.int .i64) (zw.symm)) .nil)))))
  ·rcases G0 with _|⟨g0,G0⟩
   ·simp at hGl hNl;omega
   have hgr:(cellsAll (imS (iL g0)::List.map (fun r=>imS (iL r)) G0)).length=((List.map (fun r=>imS (iL r)) G0).length+1)*1:=by
    rw[show imS (iL g0)::List.map (fun r=>imS (iL r)) G0=gL (g0::G0) from rfl,cellsG,gL_len,List.length_map];simp
   have hg1:(List.map (fun r=>imS (iL r)) G0).length+1+(0+1)≤100000:=by rw[List.length_map];simp at hGl;omega
   have hnr:(cellsAll (Value.string n0::List.map Value.string N0)).length=((List.map Value.string N0).length+1)*1:=by
    rw[show Value.string n0::List.map Value.string N0=sL (n0::N0) from rfl,cellsS,sL_len,List.length_map];simp
   have hn1:(List.map Value.string N0).length+1+(0+1)≤100000:=by rw[List.length_map];simp at hNl;omega
   (repeat' ((conv=>whnf);first|refine goA ?_|(rw[U.ble_f ((List.map (fun r=>imS (iL r)) G0).length+1)];dsimp only;refine U.growRow_p hgr rfl ?_)|refine U.ob_c (grow_ok (by decide +kernel) hg1) ?_|(rw[U.ble_f ((List.map Value.string N0).length+1)];dsimp only;refine U.growRow_p hnr rfl ?_)|refine U.ob_c (grow_ok (by decide +kernel) hn1) ?_|refine goB ?_|refine U.SoundAt.u (c2) clM ?_|refine U.SoundC.u (c2) clM ?_|refine U.drawX_p (D:=U.propX) 9 [] (by decide +kernel) (by decide +kernel) ?_|refine U.drawX_p (D:=U.propX) 10 [] (by decide +kernel) (by decide +kernel) ?_|refine U.lw_c ?_ ?_<;>intro hb))
   (conv=>whnf);refine ⟨(pre++[⟨nm,ps,body⟩],rest),by simp,by simp,?_⟩
   dsimp only;rw[e1,e2];exact (Cov.renO (fun k=>if k=3 then 6 else if k=4 then 8 else k) rfl rfl (bR rfl) zL (fun k hk=>by have:k<3:=hk;rw[if_neg (by omega)];rw[if_neg (by omega)]) rfl nlz (.W rfl ((fun c hc=>cleanP_cells ⟨sl,arrs,ins,_,main⟩ c hc)) rfl (.C rfl (.K rfl rfl (.K rfl rfl .nil)) (.C rfl (.cons (.grown (by decide) rfl (by simp[sL]) (by simp[sL]) (by simp[sL])) (.cons (.grown (by decide) rfl (by simp[gL]) (by simp[gL]) (by simp[gL])) .nil)) (blksO.grown rfl ((by rw[sL_app];exact List.flatMap_append)) (cleanSC _) (blksO.grown rfl ((by rw[gL_app];exact List.flatMap_append)) (cleanGC _) .nil))))) (.cons rfl (.P rfl) (.cons rfl (.P rfl) (.cons rfl (.P rfl) (.L rfl (cleanI _) (congrArg (Value.int .i64) (zw.symm)) .nil)))))
theorem stands_call {p:Pg}{x:St}(h:standsB p x=true) (hk:kS x=5):0≤aS x∧aS x<p.procs.length:=by
 obtain ⟨k,a,xs,th,el,no⟩:=x;have hk:k=5:=hk;subst hk;simp[standsB,ownS] at h
 show 0≤a∧a<_
 omega
theorem callL_mem {l:List St}{t:Int}(h:t∈callL l):∃x∈l,kS x=5∧aS x=t:=by
 obtain ⟨x,hx,h⟩:=List.mem_filterMap.1 h;obtain ⟨k,a,xs,th,el,no⟩:=x;dsimp only at h;split at h
 ·rename_i hk;cases h;exact ⟨_,hx,hk,rfl⟩
 ·cases h
def procsB (p:Pg):Bool:=p.procs.all fun x=>(allSs x.body).all (standsB p)
def mainB (p:Pg):Bool:=(allSs p.main).all (standsB p)
theorem preP_all (p:Pg):(preP p).all (standsB p)=(procsB p&&mainB p):=by
 rw[preP,List.all_append,List.all_flatMap];rfl
theorem graph_right (p:Pg) (h:(preP p).all (standsB p)=true):rightG (graphP p)=true:=by
 have hp:∀x∈preP p,standsB p x=true:=List.all_eq_true.1 h
 unfold rightG graphP;simp only[List.length_append,List.length_map,List.length_cons,List.length_nil,Bool.and_eq_true,decide_eq_true_eq,List.all_append,List.all_map,List.all_cons,List.all_nil,Bool.and_true]
 have key:∀l:List St,(∀x∈l,x∈preP p)->(callL l).all (okT p.procs.length)=true:=fun l hl=>by
  refine List.all_eq_true.2 fun t ht=>?_
  obtain ⟨x,hx,h1,h2⟩:=callL_mem ht;have:=stands_call (hp x (hl x hx)) h1;rw[h2] at this;simp[okT,this]
 refine ⟨trivial,List.all_eq_true.2 fun x hx=>?_,key _ fun y hy=>?_⟩
 ·exact key _ fun y hy=>by
   rw[preP];exact List.mem_append_left _ (List.mem_flatMap.2 ⟨x,hx,hy⟩)
 ·rw[preP];exact List.mem_append_right _ hy
theorem rightP_eq (p:Pg):rightP p=(arrsB p.arrs&&insB p.ins&&(prsB p.procs&&procsB p)&&((slotB p&&decide (0≤p.slots)&&decide (p.slots≤1048576))&&mainB p&&nums (preP p) 0)&&(orderR (graphP p).st).2):=by
 unfold rightP hedP stmtsB;by_cases h:(preP p).all (standsB p)=true
 ·have h1:(ordG (graphP p)).2=(orderR (graphP p).st).2:=by rw[ordG,if_pos (graph_right p h)]
  have h2:=h;rw[preP_all,Bool.and_eq_true] at h2;rw[h,h1,h2.1,h2.2];generalize (orderR (graphP p).st).2=q1
  generalize slotB p=q2
  generalize arrsB p.arrs=q3
  generalize insB p.ins=q4
  generalize prsB p.procs=q5
  generalize nums (preP p) 0=q6
  generalize decide (0≤p.slots)=q7
  generalize decide (p.slots≤1048576)=q8
  revert q1 q2 q3 q4 q5 q6 q7 q8
  decide
 ·have h2:=Bool.eq_false_iff.2 h;have h3:=h2;rw[preP_all] at h3;rw[h2];rcases Bool.and_eq_false_iff.1 h3 with h4|h4<;>rw[h4]<;>simp
theorem not_arrs {p:Pg}(h:arrsB p.arrs=false):rightP p=false:=by rw[rightP_eq,h];simp
theorem not_ins {p:Pg}(h:insB p.ins=false):rightP p=false:=by rw[rightP_eq,h];simp
theorem not_prs {p:Pg}(h:(prsB p.procs&&procsB p)=false):rightP p=false:=by rw[rightP_eq,h];simp
def okA (n:Int):Bool:=decide (1≤n)&&decide (n≤1024)
theorem sum_nn:∀{l:List Int},l.all okA=true->0≤l.sum∧l.sum≤1024*l.length
 |[],_=>by simp
 |x::l,h=>by
  rw[List.all_cons,Bool.and_eq_true] at h;have:=sum_nn h.2;have h1:=h.1;simp[okA] at h1
  simp only[List.sum_cons,List.length_cons];omega
theorem arrs_no {l pre rest:List Int}{n:Int}(e:l=pre++n::rest) (h:okA n=false∨4096<pre.sum):arrsB l=false:=by
 subst e;rw[Bool.eq_false_iff];intro hb;unfold arrsB at hb;rw[Bool.and_eq_true,decide_eq_true_eq] at hb;have hall:(pre++n::rest).all okA=true:=hb.1;rw[List.all_append,List.all_cons,Bool.and_eq_true,Bool.and_eq_true] at hall
 rcases h with h|h
 ·rw[h] at hall;exact absurd hall.2.1 Bool.false_ne_true
 ·have h1:=sum_nn (l:=n::rest) (by rw[List.all_cons,hall.2.1,hall.2.2];rfl)
  rw[List.sum_append] at hb;omega
def okI (x:In13):Bool:=nameB x.nm&&decide (x.lo≤x.hi)
theorem insR_no {l pre rest:List In13}{x:In13}(e:l=pre++x::rest) (h:okI x=false∨(pre.map (·.nm)).any (fun k=>decide (k=x.nm))=true):insB l=false:=by
 subst e;rw[Bool.eq_false_iff];intro hb;unfold insB at hb;rw[Bool.and_eq_true,decide_eq_true_eq] at hb;have hall:(pre++x::rest).all okI=true:=hb.1;rw[List.all_append,List.all_cons,Bool.and_eq_true,Bool.and_eq_true] at hall
 rcases h with h|h
 ·rw[h] at hall;exact absurd hall.2.1 Bool.false_ne_true
 ·obtain ⟨k,hk,h⟩:=List.any_eq_true.1 h;have h:=of_decide_eq_true h;subst h;have hn:=hb.2;rw[List.map_append,List.map_cons,List.nodup_append] at hn;exact hn.2.2 _ hk _ (by simp) rfl
theorem prsR_no {l pre rest:List Pr13}{x:Pr13}(e:l=pre++x::rest) (h:nameB x.nm=false∨(pre.map (·.nm)).any (fun k=>decide (k=x.nm))=true):prsB l=false:=by
 subst e;rw[Bool.eq_false_iff];intro hb;unfold prsB at hb;rw[Bool.and_eq_true,decide_eq_true_eq] at hb;have hall:=hb.1;rw[List.all_append,List.all_cons,Bool.and_eq_true,Bool.and_eq_true] at hall
 rcases h with h|h
 ·rw[h] at hall;exact absurd hall.2.1 Bool.false_ne_true
 ·obtain ⟨k,hk,h⟩:=List.any_eq_true.1 h;have h:=of_decide_eq_true h;subst h;have hn:=hb.2;rw[List.map_append,List.map_cons,List.nodup_append] at hn;exact hn.2.2 _ hk _ (by simp) rfl
theorem nodup_snoc {l:List ByteArray}{b:ByteArray}(h:l.Nodup) (hb:l.any (fun k=>decide (k=b))=false):(l++[b]).Nodup:=by
 rw[List.nodup_append];refine ⟨h,by simp,fun a ha c hc=>?_⟩
 rw[List.mem_singleton] at hc;subst hc;rintro rfl
 have hh:l.any (fun k=>decide (k=a))=true:=List.any_eq_true.2 ⟨a,ha,decide_eq_true rfl⟩
 rw[hb] at hh;cases hh
def bump (z:Int):List (Int×Int)->List (Int×Int)
 |[]=>[(z,1)]
 |(y,u)::m=>if y=z then (y,IntKind.i64.wrap (u+1))::m else (y,u)::bump z m
theorem bump_new {z:Int}:∀{m:List (Int×Int)},z∉m.map (·.1)->bump z m=m++[(z,1)]
 |[],_=>rfl
 |(y,u)::m,h=>by
  simp only[List.map_cons,List.mem_cons,not_or] at h;rw[bump,if_neg (fun e=>h.1 e.symm),bump_new h.2];rfl
theorem bump_old {z u:Int}{q:List (Int×Int)}:∀{p:List (Int×Int)},z∉p.map (·.1)->bump z (p++(z,u)::q)=p++(z,IntKind.i64.wrap (u+1))::q
 |[],_=>by simp[bump]
 |(y,v)::p,h=>by
  simp only[List.map_cons,List.mem_cons,not_or] at h;rw[List.cons_append,bump,if_neg (fun e=>h.1 e.symm),bump_old h.2];rfl
theorem bump_keys {z w:Int}{m:List (Int×Int)}:w∈(bump z m).map (·.1)↔w=z∨w∈m.map (·.1):=by
 rcases look_cases z m with h|⟨p,u,q,rfl,h⟩
 ·rw[bump_new h];simp[or_comm]
 ·rw[bump_old h];simp only[List.map_append,List.map_cons,List.mem_append,List.mem_cons];constructor
  ·rintro (h|h|h)<;>simp[h]
  ·rintro (h|h|h|h)<;>simp[h]
theorem bump_nodup {z:Int}{m:List (Int×Int)}(hm:(m.map (·.1)).Nodup):((bump z m).map (·.1)).Nodup:=by
 rcases look_cases z m with h|⟨p,u,q,rfl,h⟩
 ·rw[bump_new h,List.map_append];exact nd_snoc hm h
 ·rw[bump_old h];simpa using hm
theorem bump_len {z:Int}{m:List (Int×Int)}:(bump z m).length≤m.length+1:=by
 rcases look_cases z m with h|⟨p,u,q,rfl,h⟩
 ·rw[bump_new h];simp
 ·rw[bump_old h];simp
def bumps:List Int->List (Int×Int)->List (Int×Int)
 |[],m=>m
 |z::l,m=>bumps l (bump z m)
theorem bumps_snoc:∀(l:List Int) (z:Int) (m:List (Int×Int)),bumps (l++[z]) m=bump z (bumps l m)
 |[],z,m=>rfl
 |y::l,z,m=>by rw[List.cons_append,bumps,bumps_snoc l,bumps]
theorem bumps_keys {w:Int}:∀{l:List Int}{m:List (Int×Int)},w∈(bumps l m).map (·.1)↔w∈l∨w∈m.map (·.1)
 |[],m=>by simp[bumps]
 |z::l,m=>by
  rw[bumps,bumps_keys,bump_keys,List.mem_cons];constructor
  ·rintro (h|h|h)<;>simp[h]
  ·rintro ((h|h)|h)<;>simp[h]
theorem bumps_nodup:∀{l:List Int}{m:List (Int×Int)},(m.map (·.1)).Nodup->((bumps l m).map (·.1)).Nodup
 |[],m,h=>h
 |z::l,m,h=>bumps_nodup (l:=l) (bump_nodup h)
theorem bumps_len:∀{l:List Int}{m:List (Int×Int)},(bumps l m).length≤m.length+l.length
 |[],m=>by simp[bumps]
 |z::l,m=>by
  have:=bumps_len (l:=l) (m:=bump z m);have:=bump_len (z:=z) (m:=m);rw[bumps,List.length_cons];omega
theorem bump_ways (z:Int) (m:List (Int×Int)):(findC Tryz.prog 3 (.int .i64) (.int .i64 z) (mE (Value.int .i64) (Value.int .i64) m)=some none∧bump z m=m++[(z,1)]∧z∉m.map (·.1)) ∨
  ∃i u,i<m.length∧findC Tryz.prog 3 (.int .i64) (.int .i64 z) (mE (Value.int .i64) (Value.int .i64) m)=some (some (i,.int .i64 u))∧setL (mE (Value.int .i64) (Value.int .i64) m) i (.int .i64 z,.int .i64 (IntKind.i64.wrap (u+1)))=mE (Value.int .i64) (Value.int .i64) (bump z m)∧(bump z m).length=m.length∧(z,u)∈m:=by
 rcases look_cases z m with h|⟨p,u,q,rfl,h⟩
 ·exact .inl ⟨iK_ok.none h,bump_new h,h⟩
 ·exact .inr ⟨p.length,u,by simp,iK_ok.mid h,by rw[setP_mid,bump_old h],by rw[bump_old h];simp,by simp⟩
theorem bump_find {z u:Int}{i:Nat}{m:List (Int×Int)}(hf:findC Tryz.prog 3 (.int .i64) (.int .i64 z) (mE (Value.int .i64) (Value.int .i64) m)=some (some (i,.int .i64 u))) (he:setL (mE (Value.int .i64) (Value.int .i64) m) i (.int .i64 z,.int .i64 (IntKind.i64.wrap (u+1)))=mE (Value.int .i64) (Value.int .i64) (bump z m)):findC Tryz.prog 3 (.int .i64) (.int .i64 z) (setL (mE (Value.int .i64) (Value.int .i64) m) i (.int .i64 z,.int .i64 (IntKind.i64.wrap (u+1))))=some (some (i,.int .i64 (IntKind.i64.wrap (u+1)))):=by
 rcases look_cases z m with h|⟨p,v,q,rfl,h⟩
 ·rw[iK_ok.none h] at hf;cases hf
 ·rw[iK_ok.mid h] at hf;obtain ⟨rfl,rfl⟩:p.length=i∧v=u:=by simpa using hf
  rw[he,bump_old h];exact iK_ok.mid h
theorem bump_ren {n:Nat}{ρ:U.Ren}{z:Int}{m:List (Int×Int)}(h:bump z m=m++[(z,1)]):U.RenB n ρ (mB (bump z m)) (.map (mE (Value.int .i64) (Value.int .i64) m++[(.int .i64 z,.int .i64 (IntKind.i64.wrap (0+1)))]) (List.range m.length++[m.length]) (Nat.succ m.length)):=by
 rw[h];exact RenB.mapE (mE_snoc m z 1).symm (by rw[range_snoc];simp) (by simp) (mE_noNm cleanI _)
theorem bump_ren2 {n:Nat}{ρ:U.Ren}{z u:Int}{i:Nat}{m:List (Int×Int)}(h:setL (mE (Value.int .i64) (Value.int .i64) m) i (.int .i64 z,.int .i64 (IntKind.i64.wrap (u+1)))=mE (Value.int .i64) (Value.int .i64) (bump z m)) (hl:(bump z m).length=m.length):U.RenB n ρ (mB (bump z m)) (.map (setL (mE (Value.int .i64) (Value.int .i64) m) i (.int .i64 z,.int .i64 (IntKind.i64.wrap (u+1)))) (List.range m.length) m.length) :=
 RenB.mapE h.symm (by rw[hl]) hl (mE_noNm cleanI _)
structure Ga where
 sm:List (Int×Int)
 am:List (Int×Int)
 gm:List (Int×Int)
 X:List (List St)
 m:Nat
 op:Bool
def noteG (nt:Nt) (s:St) (γ:Ga):Ga:={ γ with sm:=bumps (nt.sl s) γ.sm,am:=bumps (nt.ar s) γ.am }
def bodyL (p:Pg) (z:Int):List St:=match p.procs[z.toNat]? with
 |some x=>x.body
 |none=>[]
def pushG (b:List St) (γ:Ga):Ga:=if γ.m<γ.X.length then { γ with X:=γ.X.set γ.m b,m:=γ.m+1 } else { γ with X:=γ.X++[b],m:=γ.m+1,op:=true }
def callG (p:Pg) (s:St) (γ:Ga):Ga:=if aS s∈γ.gm.map (·.1) then { γ with gm:=bump (aS s) γ.gm } else pushG (bodyL p (aS s)) { γ with gm:=bump (aS s) γ.gm }
def stepG (p:Pg) (nt:Nt) (s:St) (γ:Ga):Ga:=if standsB p s then (if kS s=5 then callG p s (noteG nt s γ) else noteG nt s γ) else γ
def bsL (X:List (List St)):List Value:=X.map fun b=>imS (encSs b)
theorem bsL_len (X:List (List St)):(bsL X).length=X.length:=List.length_map ..
theorem bsL_clean (X:List (List St)):∀x∈bsL X,NoNm x:=fun x hx=>by
 obtain ⟨b,_,rfl⟩:=List.mem_map.1 hx;exact cleanSs b
theorem bs_store {X:List (List St)}{i:Nat}{b:List St}(h:i<X.length):(bsL X).take (i*(0+1))++[imS (encSs b)]++(bsL X).drop (i*(0+1)+[imS (encSs b)].length)=bsL (X.set i b):=by
 rw[show i*(0+1)=i by omega,bsL,bsL,List.map_set,List.set_eq_take_append_cons_drop,if_pos (by simpa using h)];simp
theorem bs_app (X:List (List St)) (b:List St):bsL (X++[b])=bsL X++[imS (encSs b)]:=by simp[bsL]
noncomputable def rangeW:List Tmp×Code×Code:=rangeF Tryz.f27.body
noncomputable def lpW (st:LoopState):U.Blk:=.loop st none (mkF [(3,.pointer (some ⟨3,0,none⟩)),(5,.pointer (some ⟨4,0,none⟩)),(7,.pointer (some ⟨9,0,none⟩)),(8,.pointer (some ⟨11,0,none⟩)),(9,.pointer (some ⟨13,0,none⟩))]) 81 rangeW.1 rangeW.2.1 rangeW.2.2
noncomputable def hdW (Ts:Nat->TypeId) (p:Pg) (fnV:Value) (γ:Ga) (w:Nat):List (Nat×Option U.Blk):=[(0,kwBlk Ts),(2,some (.cells 37 [.slice none 0 0,.slice none 0 0] false)),(3,some (.cells 27 (cellsOf (encP p)) false)),(4,some (.cells 78 [fnV] false)),(5,some (.cells 37 [.slice none 0 0,.slice none 0 0] false)),(6,some (mB γ.sm)),(7,some (mB γ.am)),(8,some (.cells 125 [.slice none 0 0,.slice none 0 0,.map (some 6),.map (some 7)] false)),(9,some (.cells 75 [.pointer (some ⟨8,0,none⟩)] false)),(10,some (mB γ.gm)),(11,some (.cells 123 [.map (some 10)] false)),(13,some (.cells 126 [.slice (some ⟨w,0,none⟩) γ.m γ.X.length] false)),(w,some (.cells 25 (bsL γ.X) γ.op))]
noncomputable def stW1 (Ts:Nat->TypeId) (p:Pg) (fnV:Value) (γ:Ga):AS:=⟨mkO (hdW Ts p fnV γ 14),15,1,1⟩
noncomputable def stW2 (Ts:Nat->TypeId) (p:Pg) (fnV:Value) (γ:Ga) (st:LoopState):AS:=⟨mkO (hdW Ts p fnV γ 17++[(16,some (lpW st))]),18,1,1⟩
theorem lpW_ren {n:Nat}{ρ:U.Ren}{fr:Tr Value}{st:LoopState}{N:Nat}{ps:List Tmp}{asg bo:Code}(hn:13<n) (h2:ρ 3=3) (h3:ρ 4=4) (h8:ρ 9=9) (h10:ρ 11=11) (h12:ρ 13=13) (e0:N=81) (e1:ps=rangeW.1) (e2:asg=rangeW.2.1) (e3:bo=rangeW.2.2) (g1:Tr.at (pt 3) fr=some (.pointer (some ⟨3,0,none⟩))) (g2:Tr.at (pt 5) fr=some (.pointer (some ⟨4,0,none⟩))) (g3:Tr.at (pt 7) fr=some (.pointer (some ⟨9,0,none⟩))) (g4:Tr.at (pt 8) fr=some (.pointer (some ⟨11,0,none⟩))) (g5:Tr.at (pt 9) fr=some (.pointer (some ⟨13,0,none⟩))):U.RenB n ρ (lpW st) (.loop st none fr N ps asg bo):=by
 subst e0;subst e1;subst e2;subst e3;exact RenB.lp (.cons g1 (.ptr _ _ _ (by omega) h2) (.cons g2 (.ptr _ _ _ (by omega) h3) (.cons g3 (.ptr _ _ _ (by omega) h8) (.cons g4 (.ptr _ _ _ (by omega) h10) (.cons g5 (.ptr _ _ _ hn h12) .nil)))))
abbrev wV (p:Pg):Value:=.func (.func 28) ⟨[]⟩ ⟨[imP (encP p) 0]⟩
theorem wV_ren {n:Nat}{ρ:U.Ren}(p:Pg):U.RenV n ρ (wV p) (wV p):=RenV.fnL .nil (.L (.imp _ _ (cleanP_cells p)) rfl .nil)
end Go.Proofs.YtocppbocphnbcaaGreatDoor
