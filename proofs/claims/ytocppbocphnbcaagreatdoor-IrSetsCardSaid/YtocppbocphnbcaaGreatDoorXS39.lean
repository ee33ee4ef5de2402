
import Derived.Test.YtocppbocphnbcaaGreatDoorXS38
namespace Go.Proofs.YtocppbocphnbcaaGreatDoor
open Go Go.RowKit Go.Sort U
set_option linter.unusedVariables false
set_option linter.unusedSimpArgs false
set_option maxRecDepth 100000
set_option maxHeartbeats 40000000
theorem numSs_snoc:∀(l:List St) (s:St) (n:Int),numSs (l++[s]) n=((numSs l n).1++[(numS s (numSs l n).2).1],(numS s (numSs l n).2).2)
 |[],s,n=>by simp[numSs]
 |x::l,s,n=>by
  rw[List.cons_append,numSs,numSs_snoc l,numSs];rfl
theorem szSs_app:∀(a b:List St),szSs (a++b)=szSs a+szSs b
 |[],b=>by simp[szSs]
 |x::a,b=>by rw[List.cons_append,szSs,szSs,szSs_app a b];omega
theorem numbered_all:∀(N:Nat) (l:List St) (n:Int),szSs l≤N->szSs l≤1000->0≤n->n+szSs l≤200000->DenU Tryz.prog [] 71 [imS (encSs l),.int .i64 n] (.tuple ⟨[imS (encSs (numSs l n).1),.int .i64 (numSs l n).2]⟩):=by
 intro N;induction N with
 |zero =>
  intro l n h0 h1 h2 h3;obtain rfl:l=[]:=List.length_eq_zero_iff.1 (by have:=szSs_len l;omega)
  refine denU_of_body hmixU rfl Tryz.func71 rfl rfl rfl 0 ?_;intro Ts;(repeat' ((conv=>whnf);first|refine goD ?_|refine U.lw_c ?_ ?_<;>intro hb))
  (conv=>whnf);refine loop_inv (α:=Unit) (fun _=>True) (fun _=>(mkF [(0,imS []),(1,.int .i64 n),(4,.slice none 0 0),(5,.int .i64 0),(6,.slice none 0 0),(7,.int .i64 0)],⟨mkO [],0,0,0⟩)) (fun _=>0) () trivial (Cov.renI rfl rfl rfl rfl .nil (.L rfl (cleanSs []) rfl (.cons rfl .I (.K rfl rfl rfl (.K rfl rfl rfl (.K rfl rfl rfl (.K rfl rfl rfl .nil))))))) ?_
  rintro _ _
  (repeat' ((conv=>whnf);first|refine goD ?_|refine U.lw_c ?_ ?_<;>intro hb))
  (conv=>whnf);exact .tupL (.cons .nil (.cons (.clean _ (.flat _ rfl)) .nil))
 |succ N ih =>
  intro l n h0 h1 h2 h3;refine denU_of_body hmixU rfl Tryz.func71 rfl rfl rfl 0 ?_;intro Ts;have hcl:=cleanSs l;(repeat' ((conv=>whnf);first|refine goD ?_|refine U.lw_c ?_ ?_<;>intro hb))
  (conv=>whnf);refine loop_inv (α:=List St×List St×List St×Int) (fun x=>x.1++x.2.1=l∧numSs x.1 n=x.2.2) (fun x=>(mkF [(0,imS (encSs l)),(1,.int .i64 x.2.2.2),(4,.slice none 0 0),(5,.int .i64 0),(6,rowS 0 (encSs x.2.2.1)),(7,.int .i64 x.1.length)],⟨mkO [(0,rowO 98 (encSs x.2.2.1))],1,0,0⟩)) (fun x=>x.2.1.length) ([],l,[],n) ⟨rfl,rfl⟩ (Cov.renI rfl rfl rfl rfl (.none .nil) (.L rfl (cleanSs _) rfl (.cons rfl .I (.K rfl rfl rfl (.K rfl rfl rfl (.K rfl rfl rfl (.K rfl rfl rfl .nil))))))) ?_
  rintro ⟨pre,rest,out,m⟩ ⟨p1,p2⟩
  dsimp only at p1 p2;subst p1;dsimp only;have hlen:=szSs_len (pre++rest);rcases rest with _|⟨s,rest⟩
  ·rw[List.append_nil] at *;have zb:=U.lt_no encSs_map pre;rw[p2];(repeat' ((conv=>whnf);first|refine goD ?_|refine U.lw_c ?_ ?_<;>intro hb))
   (conv=>whnf);refine .tupL (.cons ?_ (.cons (.clean _ (.flat _ rfl)) .nil));cases out with
   |nil=>exact .nil
   |cons s0 o=>exact .rowL zL rfl rfl (cellsS_6 (s0::o)) rfl rL (cleanSCells (s0::o))
  ·have zb:=U.lt_yes encSs_map pre (s) rest;have zc:=U.blt_yes encSs_map pre (s) rest;have zn:=U.nth_at encSs_map pre (s) rest;have zw:=U.len_snoc (pre:=pre) (x:=s) (post:=rest) ((Nat.le_trans (show _≤1000 by omega) (by decide)))
   have hol:out.length=pre.length:=by have:=numSs_len pre n;rw[p2] at this;exact this
   have hm:m=n+(allSs pre).length:=by have:=numSs_snd pre n;rw[p2] at this;exact this
   have hal:=allSs_len pre;obtain ⟨k,a,xs,th,el,no⟩:=s;have hsz:=szSs_app pre (.mk k a xs th el no::rest);rw[szSs,szS] at hsz;have hw:IntKind.i64.wrap (m+1)=m+1:=wid (by omega) (by omega)
   have c2:DenU Tryz.prog [] 71 [imS (encSs th),.int .i64 (IntKind.i64.wrap (m+1))] (.tuple ⟨[imS (encSs (numSs th (m+1)).1),.int .i64 (numSs th (m+1)).2]⟩):=by
    rw[hw];exact ih th (m+1) (by omega) (by omega) (by omega) (by omega)
   have ht2:=numSs_snd th (m+1);have hat:=allSs_len th;have c3:=ih el (numSs th (m+1)).2 (by omega) (by omega) (by omega) (by omega)
   have e1:numSs (pre++[.mk k a xs th el no]) n=(out++[.mk k a xs (numSs th (m+1)).1 (numSs el (numSs th (m+1)).2).1 m],(numSs el (numSs th (m+1)).2).2):=by
    rw[numSs_snoc,p2];show (out++[(numS (.mk k a xs th el no) m).1],(numS (.mk k a xs th el no) m).2)=_
    rw[numS]
   have kt:=cleanSs th;have ke:=cleanSs el;have kx:=cleanEs xs;generalize numSs th (m+1)=T at *
   obtain ⟨T1,T2⟩:=T;dsimp only at *;generalize numSs el T2=E at *
   obtain ⟨E1,E2⟩:=E;dsimp only at *;have kt1:=cleanSs T1;have ke1:=cleanSs E1;clear ih ht2;rcases out with _|⟨s0,out⟩
   ·(repeat' ((conv=>whnf);first|refine goD ?_|refine ⟨_,c2,clM,tab0 _,?_⟩|refine ⟨_,c3,clM,tab0 _,?_⟩|refine U.lw_c ?_ ?_<;>intro hb))
    (conv=>whnf);exact ⟨(pre++[.mk k a xs th el no],rest,[]++[.mk k a xs T1 E1 m],E2),⟨by simp,e1⟩,by simp,(Cov.renO (fun k=>if k=0 then 3 else k) rfl rfl (bR rfl) zL (fun k hk=>by have:k<0:=hk;rw[if_neg (by omega)]) rfl nlz (blksO.grown rfl rfl (cleanSCells _) .nil) (.L rfl (cleanSs _) rfl (.cons rfl .I (.K rfl rfl rfl (.K rfl rfl rfl (.cons rfl (.grown (by decide) rfl (by simp[encSs]) (by simp[encSs]) (by simp[encSs])) (.L rfl (cleanI _) (congrArg (Value.int .i64) (zw.symm)) .nil)))))))⟩
   ·have hgr:(cellsAll (encS s0::encSs out)).length=((encSs out).length+1)*6:=by
     rw[show encS s0::encSs out=encSs (s0::out) from rfl,cellsSs_len,encSs_len];rfl
    have hg1:(encSs out).length+1+(0+1)≤100000:=by rw[encSs_len];simp at hol hlen;omega
    (repeat' ((conv=>whnf);first|refine goA ?_|(rw[U.ble_f ((encSs out).length+1)];dsimp only;refine U.growRow_p hgr rfl ?_)|refine U.ob_c (grow_ok (by decide +kernel) hg1) ?_|refine goB ?_|refine ⟨_,c2,clM,tab0 _,?_⟩|refine ⟨_,c3,clM,tab0 _,?_⟩|refine U.lw_c ?_ ?_<;>intro hb))
    (conv=>whnf);exact ⟨(pre++[.mk k a xs th el no],rest,(s0::out)++[.mk k a xs T1 E1 m],E2),⟨by simp,e1⟩,by simp,(Cov.renO (fun k=>if k=0 then 3 else k) rfl rfl (bR rfl) zL (fun k hk=>by have:k<0:=hk;rw[if_neg (by omega)]) rfl nlz (blksO.grown rfl ((cellsSs_snoc (s0::out) _)) (cleanSCells _) .nil) (.L rfl (cleanSs _) rfl (.cons rfl .I (.K rfl rfl rfl (.K rfl rfl rfl (.cons rfl (.grown (by decide) rfl (by simp[encSs]) (by simp[encSs,encSs_len]) (by simp[encSs,encSs_len])) (.L rfl (cleanI _) (congrArg (Value.int .i64) (zw.symm)) .nil)))))))⟩
theorem numPrs_snoc:∀(l:List Pr13) (x:Pr13) (n:Int),numPrs (l++[x]) n=((numPrs l n).1++[⟨x.nm,x.ps,(numSs x.body (numPrs l n).2).1⟩],(numSs x.body (numPrs l n).2).2)
 |[],x,n=>by simp[numPrs]
 |y::l,x,n=>by
  rw[List.cons_append,numPrs,numPrs_snoc l,numPrs];rfl
theorem szPrs_app:∀(a b:List Pr13),szPrs (a++b)=szPrs a+szPrs b
 |[],b=>by simp[szPrs]
 |x::a,b=>by rw[List.cons_append,szPrs,szPrs,szPrs_app a b];omega
theorem prs_flat:∀l:List Pr13,(l.flatMap fun x=>allSs x.body).length≤szPrs l
 |[]=>by simp[szPrs]
 |x::l=>by
  have:=allSs_len x.body;have:=prs_flat l;rw[List.flatMap_cons,List.length_append,szPrs];omega
theorem cellsPr_snoc (l:List Pr13) (x:Pr13):cellsAll (prL (l++[x]))=cellsAll (prL l)++cellsOf (encPr x):=by
 rw[prL,List.map_append,cellsAll,List.flatMap_append,List.map_cons,List.map_nil,List.flatMap_cons,List.flatMap_nil,List.append_nil];rfl
theorem number_d (p:Pg) (hf:FewP p):DenU Tryz.prog [] 36 [encP p] (.tuple ⟨[encP (numP p),.int .i64 (numSs p.main (numPrs p.procs 0).2).2]⟩):=by
 refine denU_of_body hmixU rfl Tryz.func36 rfl rfl rfl 0 ?_;intro Ts;have hp:=hf.procs;have hsz:=hf.sz;have hnm:numP p=⟨p.slots,p.arrs,p.ins,(numPrs p.procs 0).1,(numSs p.main (numPrs p.procs 0).2).1⟩:=rfl
 rw[hnm];clear hnm hf;obtain ⟨sl,arrs,ins,procs,main⟩:=p;dsimp only at *;(repeat' ((conv=>whnf);first|refine goD ?_|refine U.lw_c ?_ ?_<;>intro hb))
 (conv=>whnf);refine loop_inv (α:=List Pr13×List Pr13×List Pr13×Int) (fun x=>x.1++x.2.1=procs∧numPrs x.1 0=x.2.2) (fun x=>(mkF [(1,.pointer (some ⟨0,0,none⟩)),(2,.pointer (some ⟨1,0,none⟩)),(3,.int .i64 0),(4,.int .i64 x.2.2.2),(5,rowS 2 (prL x.2.2.1)),(6,.int .i64 x.1.length)],⟨mkO [(0,some (.cells 34 (cellsOf (encP ⟨sl,arrs,ins,procs,main⟩)) false)),(1,some (.cells 34 [.int .i64 0,.slice none 0 0,.slice none 0 0,.slice none 0 0,.slice none 0 0] false)),(2,rowO 73 (prL x.2.2.1))],3,0,0⟩)) (fun x=>x.2.1.length) ([],procs,[],0) ⟨rfl,rfl⟩ (Cov.renI rfl rfl rfl rfl (.W rfl ((fun c hc=>cleanP_cells ⟨sl,arrs,ins,procs,main⟩ c hc)) rfl (.C rfl (.K rfl rfl (.K rfl rfl (.K rfl rfl (.K rfl rfl (.K rfl rfl .nil))))) (.none .nil))) (.cons rfl (.P rfl) (.cons rfl (.P rfl) (.K rfl rfl rfl (.K rfl rfl rfl (.K rfl rfl rfl (.K rfl rfl rfl .nil))))))) ?_
 rintro ⟨pre,rest,out,m⟩ ⟨p1,p2⟩
 dsimp only at p1 p2;subst p1;dsimp only;have hm:m=(pre.flatMap fun x=>allSs x.body).length:=by have:=numPrs_snd pre 0;rw[p2] at this;simpa using this
 have hpf:=prs_flat pre;have hpa:=szPrs_app pre rest;rcases rest with _|⟨x,rest⟩
 ·rw[List.append_nil] at *;have zb:=U.lt_no prL_map pre;rw[p2];have c2:=numbered_all 1000 main m (by omega) (by omega) (by omega) (by omega)
  have km:=cleanSs main;dsimp only;generalize numSs main m=T at *
  obtain ⟨T1,T2⟩:=T;dsimp only at *;have kt:=cleanSs T1;cases out with
  |nil =>
   (repeat' ((conv=>whnf);first|refine goD ?_|refine ⟨_,c2,clM,tab0 _,?_⟩|refine U.lw_c ?_ ?_<;>intro hb))
   (conv=>whnf);exact .tupL (.cons (.aggL (.cons (.clean _ (.flat _ rfl)) (.cons (.clean _ (cleanIL _)) (.cons (.clean _ (cleanInL _)) (.cons .nil (.cons (.clean _ (cleanSs _)) .nil)))))) (.cons (.clean _ (.flat _ rfl)) .nil))
  |cons s0 o =>
   (repeat' ((conv=>whnf);first|refine goD ?_|refine ⟨_,c2,clM,tab0 _,?_⟩|refine U.lw_c ?_ ?_<;>intro hb))
   (conv=>whnf);exact .tupL (.cons (.aggL (.cons (.clean _ (.flat _ rfl)) (.cons (.clean _ (cleanIL _)) (.cons (.clean _ (cleanInL _)) (.cons (.rowL zL rfl rfl (cellsPr_3 (s0::o)) rfl rL (cleanPrC (s0::o))) (.cons (.clean _ (cleanSs _)) .nil)))))) (.cons (.clean _ (.flat _ rfl)) .nil))
 ·have zb:=U.lt_yes prL_map pre (x) rest;have zc:=U.blt_yes prL_map pre (x) rest;have zn:=U.nth_at prL_map pre (x) rest;have zw:=U.len_snoc (pre:=pre) (x:=x) (post:=rest) ((by simp[maxI] at hp ⊢;omega))
  have hol:out.length=pre.length:=by have:=numPrs_len pre 0;rw[p2] at this;exact this
  obtain ⟨nm,ps,body⟩:=x;rw[szPrs] at hpa;dsimp only at hpa;have c2:=numbered_all 1000 body m (by omega) (by omega) (by omega) (by omega)
  have e1:numPrs (pre++[⟨nm,ps,body⟩]) 0=(out++[⟨nm,ps,(numSs body m).1⟩],(numSs body m).2):=by
   rw[numPrs_snoc,p2]
  have kb:=cleanSs body;have kp:=cleanIL ps;generalize numSs body m=T at *
  obtain ⟨T1,T2⟩:=T;dsimp only at *;have kt1:=cleanSs T1;rcases out with _|⟨s0,out⟩
  ·(repeat' ((conv=>whnf);first|refine goD ?_|refine ⟨_,c2,clM,tab0 _,?_⟩|refine U.lw_c ?_ ?_<;>intro hb))
   (conv=>whnf);exact ⟨(pre++[⟨nm,ps,body⟩],rest,[]++[⟨nm,ps,T1⟩],T2),⟨by simp,e1⟩,by simp,(Cov.renO (fun k=>if k=2 then 5 else k) rfl rfl (bR rfl) zL (fun k hk=>by have:k<2:=hk;rw[if_neg (by omega)]) rfl nlz (.W rfl ((fun c hc=>cleanP_cells ⟨sl,arrs,ins,_,main⟩ c hc)) rfl (.C rfl (.K rfl rfl (.K rfl rfl (.K rfl rfl (.K rfl rfl (.K rfl rfl .nil))))) (blksO.grown rfl rfl (cleanPrC _) .nil))) (.cons rfl (.P rfl) (.cons rfl (.P rfl) (.K rfl rfl rfl (.K rfl rfl rfl (.cons rfl (.grown (by decide) rfl (by simp[prL]) (by simp[prL]) (by simp[prL])) (.L rfl (cleanI _) (congrArg (Value.int .i64) (zw.symm)) .nil)))))))⟩
  ·have hgr:(cellsAll (encPr s0::List.map encPr out)).length=((List.map encPr out).length+1)*3:=by
    rw[show encPr s0::List.map encPr out=prL (s0::out) from rfl,cellsPr_len,List.length_map];rfl
   have hg1:(List.map encPr out).length+1+(0+1)≤100000:=by rw[List.length_map];simp at hol hp;omega
   (repeat' ((conv=>whnf);first|refine goA ?_|(rw[U.ble_f ((List.map encPr out).length+1)];dsimp only;refine U.growRow_p hgr rfl ?_)|refine U.ob_c (grow_ok (by decide +kernel) hg1) ?_|refine goB ?_|refine ⟨_,c2,clM,tab0 _,?_⟩|refine U.lw_c ?_ ?_<;>intro hb))
   (conv=>whnf);exact ⟨(pre++[⟨nm,ps,body⟩],rest,(s0::out)++[⟨nm,ps,T1⟩],T2),⟨by simp,e1⟩,by simp,(Cov.renO (fun k=>if k=2 then 5 else k) rfl rfl (bR rfl) zL (fun k hk=>by have:k<2:=hk;rw[if_neg (by omega)]) rfl nlz (.W rfl ((fun c hc=>cleanP_cells ⟨sl,arrs,ins,_,main⟩ c hc)) rfl (.C rfl (.K rfl rfl (.K rfl rfl (.K rfl rfl (.K rfl rfl (.K rfl rfl .nil))))) (blksO.grown rfl ((cellsPr_snoc (s0::out) _)) (cleanPrC _) .nil))) (.cons rfl (.P rfl) (.cons rfl (.P rfl) (.K rfl rfl rfl (.K rfl rfl rfl (.cons rfl (.grown (by decide) rfl (by simp[prL]) (by simp[prL]) (by simp[prL])) (.L rfl (cleanI _) (congrArg (Value.int .i64) (zw.symm)) .nil)))))))⟩
theorem flat_ps:∀{l:List Pr13},(∀x∈l,x.ps.length≤20)->(l.flatMap (·.ps)).length≤20*l.length
 |[],_=>by simp
 |x::l,h=>by
  have:=h x (by simp)
  have:=flat_ps (l:=l) fun y hy=>h y (by simp[hy])
  rw[List.flatMap_cons,List.length_append,List.length_cons];omega
theorem slots_d (p:Pg) (hf:FewP p):DenU Tryz.prog [] 37 [encP p] (.bool (slotB p&&decide (0≤p.slots)&&decide (p.slots≤1048576))):=by
 refine denU_of_sound hmixU fun Ts=>SoundAt.body hmixU Tryz.func37 rfl rfl rfl 0 ?_
 have hi:=hf.ins;have hp:=hf.procs;have hps:=hf.ps;obtain ⟨b,hb0⟩:∃b,slotB p=b:=⟨_,rfl⟩
 obtain ⟨sl,arrs,ins,procs,main⟩:=p;dsimp only at *;rw[hb0];(repeat' ((conv=>whnf);first|refine goD ?_|refine U.lw_c ?_ ?_<;>intro hb))
 (conv=>whnf);refine loop_inv (α:=List In13×List In13) (fun x=>x.1++x.2=ins) (fun x=>(mkF [(1,.pointer (some ⟨0,0,none⟩)),(2,.bool false),(3,rowS 1 (iL (x.1.map (·.slot)))),(4,.int .i64 x.1.length)],⟨mkO [(0,some (.cells 34 (cellsOf (encP ⟨sl,arrs,ins,procs,main⟩)) false)),(1,rowO 3 (iL (x.1.map (·.slot))))],2,0,0⟩)) (fun x=>x.2.length) ([],ins) rfl (Cov.renI rfl rfl rfl rfl (.W rfl ((fun c hc=>cleanP_cells ⟨sl,arrs,ins,procs,main⟩ c hc)) rfl (.none .nil)) (.cons rfl (.P rfl) (.K rfl rfl rfl (.K rfl rfl rfl (.K rfl rfl rfl .nil))))) ?_
 rintro ⟨pre,rest⟩ p1
 dsimp only at p1;subst p1;dsimp only;rcases rest with _|⟨⟨nm,slot,lo,hh,sec⟩,rest⟩
 ·rw[List.append_nil] at *;have zb:=U.lt_no inL_map pre;obtain ⟨S0,hS0⟩:∃S0,S0=pre.map (·.slot):=⟨_,rfl⟩
  have hSl:S0.length≤20:=by rw[hS0,List.length_map];exact hi
  rw[← hS0];(repeat' ((conv=>whnf);first|refine goD ?_|refine U.lw_c ?_ ?_<;>intro hb))
  (conv=>whnf);refine loop_inv (α:=List Pr13×List Pr13) (fun x=>x.1++x.2=procs) (fun x=>(mkF [(1,.pointer (some ⟨0,0,none⟩)),(2,.bool false),(3,rowS 2 (iL (S0++x.1.flatMap (·.ps)))),(5,.int .i64 x.1.length)],⟨mkO [(0,some (.cells 34 (cellsOf (encP ⟨sl,arrs,pre,procs,main⟩)) false)),(2,rowO 3 (iL (S0++x.1.flatMap (·.ps))))],3,0,0⟩)) (fun x=>x.2.length) ([],procs) rfl (Cov.renO (fun k=>if k=2 then 1 else k) rfl rfl (bR rfl) zL (fun k hk=>by have:k<2:=hk;rw[if_neg (by omega)]) rfl nlz (.W rfl ((fun c hc=>cleanP_cells ⟨sl,arrs,pre,procs,main⟩ c hc)) rfl (blksO.row rfl ((by simp)) (cleanIC _) .nil)) (.cons rfl (.P rfl) (.K rfl rfl rfl (.cons rfl (.ofRow (by decide) rfl ((by simp))) (.K rfl rfl rfl .nil))))) ?_
  rintro ⟨ppre,prest⟩ p4
  dsimp only at p4;subst p4;dsimp only;rcases prest with _|⟨⟨nm,ps,body⟩,prest⟩
  ·rw[List.append_nil] at *;have z2b:=U.lt_no prL_map ppre;obtain ⟨L,hL⟩:∃L,L=S0++ppre.flatMap (·.ps):=⟨_,rfl⟩
   have hLs:slotL ⟨sl,arrs,pre,ppre,main⟩=L:=by rw[hL,hS0];rfl
   have hLl:L.length≤90000:=by
    rw[hL,List.length_append];have:=flat_ps (l:=ppre) hps;omega
   rw[← hL];(repeat' ((conv=>whnf);first|refine goD ?_|refine U.lw_c ?_ ?_<;>intro hb))
   (conv=>whnf);refine loop_inv (α:=List Int×List Int) (fun x=>x.1++x.2=L∧x.1.all (sltB sl)=true∧x.1.Nodup) (fun x=>(mkF [(1,.pointer (some ⟨0,0,none⟩)),(2,.bool false),(3,imS (iL L)),(6,.int .i64 x.1.length)],⟨mkO [(0,some (.cells 34 (cellsOf (encP ⟨sl,arrs,pre,ppre,main⟩)) false))],3,0,0⟩)) (fun x=>x.2.length) ([],L) ⟨rfl,rfl,List.nodup_nil⟩ (Cov.frz (fun k=>k) 2 1 (T:=3) (ys:=iL L) rfl rfl (bR rfl) zL (fun _ _=>rfl) rfl nlz zL rfl rfl iL_1 (cleanIC _) (.W rfl (fun c hc=>cleanP_cells ⟨sl,arrs,pre,ppre,main⟩ c hc) rfl .nil) (.cons rfl (.P rfl) (.K rfl rfl rfl (.cons rfl (.ext _ _ ⟨rfl,rfl⟩) (.K rfl rfl rfl .nil))))) ?_
   rintro ⟨q1,q2⟩ ⟨p7,p8,p9⟩
   dsimp only at p7 p8 p9;subst p7;dsimp only;rcases q2 with _|⟨x,q2⟩
   ·rw[List.append_nil] at *;have z3b:=U.lt_no iL_map q1;have hb1:b=true:=by
     rw[← hb0];unfold slotB;rw[hLs,show (fun s:Int=>decide (0≤s)&&decide (s<sl))=sltB sl from rfl,p8,decide_eq_true p9];rfl
    subst hb1;(repeat' ((conv=>whnf);first|refine goD ?_|refine U.lw_c ?_ ?_<;>intro hb))
    all_goals (conv=>whnf)
    all_goals exact .same (.flat _ rfl) (congrArg Value.bool (by dsimp only at hb ⊢;simp[ge_iff_le] at hb;simp;try omega))
   ·have z3b:=U.lt_yes iL_map q1 (x) q2;have z3c:=U.blt_yes iL_map q1 (x) q2;have z3n:=U.nth_at iL_map q1 (x) q2;have z3w:=U.len_snoc (pre:=q1) (x:=x) (post:=q2) ((by simp[maxI] at hLl ⊢;omega))
    have hno:=fun h=>(hb0 ▸ slt_no hLs h:b=false)
    dsimp only at hno;by_cases h1:x<0
    ·have g1:decide (x<0)=true:=decide_eq_true h1;obtain rfl:=hno (.inl (by simp[sltB];omega))
     (repeat' ((conv=>whnf);first|refine goD ?_|refine U.drawX_p (D:=U.propX) 14 [] (by decide +kernel) (by decide +kernel) ?_|refine U.lw_c ?_ ?_<;>intro hb))
     all_goals (conv=>whnf)
     all_goals exact .same (.flat _ rfl) (congrArg Value.bool (by simp))
    ·have g1:decide (x<0)=false:=decide_eq_false h1;by_cases h2:x≥sl
     ·have g2:decide (x≥sl)=true:=decide_eq_true h2;obtain rfl:=hno (.inl (by simp[sltB];omega))
      (repeat' ((conv=>whnf);first|refine goD ?_|refine U.drawX_p (D:=U.propX) 14 [] (by decide +kernel) (by decide +kernel) ?_|refine U.lw_c ?_ ?_<;>intro hb))
      all_goals (conv=>whnf)
      all_goals exact .same (.flat _ rfl) (congrArg Value.bool (by simp))
     ·have g2:decide (x≥sl)=false:=decide_eq_false h2;(repeat' ((conv=>whnf);first|refine goD ?_|refine U.drawX_p (D:=U.propX) 14 [] (by decide +kernel) (by decide +kernel) ?_|refine U.lw_c ?_ ?_<;>intro hb))
      (conv=>whnf);refine loop_inv (α:=List Int×List Int) (fun y=>y.1++y.2=q1∧x∉y.1) (fun y=>(mkF [(1,.pointer (some ⟨0,0,none⟩)),(2,.bool false),(3,imS (iL (q1++x::q2))),(6,.int .i64 q1.length),(7,.int .i64 y.1.length)],⟨mkO [(0,some (.cells 34 (cellsOf (encP ⟨sl,arrs,pre,ppre,main⟩)) false))],3,0,0⟩)) (fun y=>y.2.length) ([],q1) ⟨rfl,by simp⟩ (Cov.renI rfl rfl rfl rfl (.W rfl ((fun c hc=>cleanP_cells ⟨sl,arrs,pre,ppre,main⟩ c hc)) rfl .nil) (.cons rfl (.P rfl) (.K rfl rfl rfl (.L rfl (cleanIL _) rfl (.cons rfl .I (.K rfl rfl rfl .nil)))))) ?_
      rintro ⟨r1,r2⟩ ⟨y1,y2⟩
      dsimp only at y1 y2;dsimp only;rcases r2 with _|⟨y,r2⟩
      ·rw[List.append_nil] at y1;subst y1;have gk:decide ((r1.length:Int)<(r1.length:Int))=false:=decide_eq_false (by omega)
       (repeat' ((conv=>whnf);first|refine goD ?_|refine U.lw_c ?_ ?_<;>intro hb))
       (conv=>whnf);exact ⟨(r1++[x],q2),⟨by simp,by rw[List.all_append,p8];simp[sltB];omega,by rw[List.nodup_append];exact ⟨p9,by simp,fun a ha b hb=>by simp at hb;subst hb;rintro rfl;exact y2 ha⟩⟩,by simp,(Cov.renI rfl rfl rfl rfl (.W rfl ((fun c hc=>cleanP_cells ⟨sl,arrs,pre,ppre,main⟩ c hc)) rfl .nil) (.cons rfl (.P rfl) (.K rfl rfl rfl (.L rfl (cleanIL _) rfl (.L rfl (cleanI _) (congrArg (Value.int .i64) (z3w.symm)) .nil)))))⟩
      ·subst y1;have gk:decide ((r1.length:Int)<((r1++y::r2).length:Int))=true:=decide_eq_true (by simp;omega)
       have wb:=U.lt_yes iL_map r1 (y) (r2++x::q2);have wc:=U.blt_yes iL_map r1 (y) (r2++x::q2);have wn:=U.nth_at iL_map r1 (y) (r2++x::q2);have ww:=U.len_snoc (pre:=r1) (x:=y) (post:=(r2++x::q2)) ((by simp[maxI] at hLl ⊢;omega))
       rw[show r1++y::(r2++x::q2)=(r1++y::r2)++x::q2 by simp] at wb wc wn;by_cases hxy:x=y
       ·have g3:(x==y)=true:=by simpa using hxy
        obtain rfl:=hno (.inr (by simp[hxy]))
        (repeat' ((conv=>whnf);first|refine goD ?_|refine U.drawX_p (D:=U.propX) 9 [] (by decide +kernel) (by decide +kernel) ?_|refine U.lw_c ?_ ?_<;>intro hb))
        (conv=>whnf);exact .same (.flat _ rfl) (congrArg Value.bool (by simp))
       ·have g3:(x==y)=false:=by simpa using hxy
        (repeat' ((conv=>whnf);first|refine goD ?_|refine U.drawX_p (D:=U.propX) 9 [] (by decide +kernel) (by decide +kernel) ?_|refine U.lw_c ?_ ?_<;>intro hb))
        (conv=>whnf);exact ⟨(r1++[y],r2),⟨by simp,by simp[y2,hxy]⟩,by simp,(Cov.renI rfl rfl rfl rfl (.W rfl ((fun c hc=>cleanP_cells ⟨sl,arrs,pre,ppre,main⟩ c hc)) rfl .nil) (.cons rfl (.P rfl) (.K rfl rfl rfl (.L rfl (cleanIL _) rfl (.cons rfl .I (.L rfl (cleanI _) (congrArg (Value.int .i64) (ww.symm)) .nil))))))⟩
  ·have z2b:=U.lt_yes prL_map ppre (Pr13.mk nm ps body) prest;have z2c:=U.blt_yes prL_map ppre (Pr13.mk nm ps body) prest;have z2n:=U.nth_at prL_map ppre (Pr13.mk nm ps body) prest;have z2w:=U.len_snoc (pre:=ppre) (x:=Pr13.mk nm ps body) (post:=prest) ((by simp[maxI] at hp ⊢;omega))
   obtain ⟨S1,hS1⟩:∃S1,S1=S0++ppre.flatMap (·.ps):=⟨_,rfl⟩
   rw[← hS1];have e1:S0++(ppre++[Pr13.mk nm ps body]).flatMap (·.ps)=S1++ps:=by rw[hS1];simp
   have hS1l:S1.length≤90000:=by
    rw[hS1,List.length_append];have:=flat_ps (l:=ppre) fun x hx=>hps x (by simp[hx])
    simp at hp
    omega
   clear hS1;have hone:=iL_one ps;rcases ps with _|⟨p0,ps⟩
   ·rcases S1 with _|⟨s1,S1⟩
    ·(repeat' ((conv=>whnf);first|refine goD ?_|refine U.lw_c ?_ ?_<;>intro hb))
     (conv=>whnf);refine ⟨(ppre++[⟨nm,[],body⟩],prest),by simp,by simp,?_⟩
     rw[e1,List.append_nil];exact (Cov.renI rfl rfl rfl rfl (.W rfl ((fun c hc=>cleanP_cells ⟨sl,arrs,pre,_,main⟩ c hc)) rfl (.none .nil)) (.cons rfl (.P rfl) (.K rfl rfl rfl (.K rfl rfl rfl (.L rfl (cleanI _) (congrArg (Value.int .i64) (z2w.symm)) .nil)))))
    ·(repeat' ((conv=>whnf);first|refine goD ?_|refine U.lw_c ?_ ?_<;>intro hb))
     (conv=>whnf);refine ⟨(ppre++[⟨nm,[],body⟩],prest),by simp,by simp,?_⟩
     rw[e1,List.append_nil];exact (Cov.renI rfl rfl rfl rfl (.W rfl ((fun c hc=>cleanP_cells ⟨sl,arrs,pre,_,main⟩ c hc)) rfl (blksO.row rfl rfl (cleanIC _) .nil)) (.cons rfl (.P rfl) (.K rfl rfl rfl (.cons rfl (.ofRow (by decide) rfl rfl) (.L rfl (cleanI _) (congrArg (Value.int .i64) (z2w.symm)) .nil)))))
   ·have hpl:ps.length≤20:=by have:=hps ⟨nm,p0::ps,body⟩ (by simp);simp at this;omega
    rcases S1 with _|⟨s1,S1⟩
    ·have hg1:0+((List.map (Value.int .i64) ps).length+1)≤100000:=by rw[List.length_map];omega
     (repeat' ((conv=>whnf);first|refine goA ?_|refine U.ob_c (grow_ok (by decide +kernel) hg1) ?_|refine goB ?_|refine U.lw_c ?_ ?_<;>intro hb))
     (conv=>whnf);refine ⟨(ppre++[⟨nm,p0::ps,body⟩],prest),by simp,by simp,?_⟩
     rw[e1];exact (Cov.renO (fun k=>if k=2 then 3 else k) rfl rfl (bR rfl) zL (fun k hk=>by have:k<2:=hk;rw[if_neg (by omega)]) rfl nlz (.W rfl ((fun c hc=>cleanP_cells ⟨sl,arrs,pre,_,main⟩ c hc)) rfl (blksO.grown rfl rfl (cleanIC _) .nil)) (.cons rfl (.P rfl) (.K rfl rfl rfl (.cons rfl (.grown (by decide) rfl (by simp[iL]) (by simp[iL]<;>omega) (by simp[iL]<;>omega)) (.L rfl (cleanI _) (congrArg (Value.int .i64) (z2w.symm)) .nil)))))
    ·have hgr:(cellsAll (Value.int .i64 s1::List.map (Value.int .i64) S1)).length=((List.map (Value.int .i64) S1).length+1)*1:=by
      rw[show Value.int .i64 s1::List.map (Value.int .i64) S1=iL (s1::S1) from rfl,cellsI,iL_len,List.length_map];simp
     have hg1:(List.map (Value.int .i64) S1).length+1+((List.map (Value.int .i64) ps).length+1)≤100000:=by rw[List.length_map,List.length_map];simp at hS1l;omega
     (repeat' ((conv=>whnf);first|refine goA ?_|(rw[U.ble_g ((List.map (Value.int .i64) S1).length+1)];dsimp only;refine U.growRow_p hgr rfl ?_)|refine U.ob_c (grow_ok (by decide +kernel) hg1) ?_|refine goB ?_|refine U.lw_c ?_ ?_<;>intro hb))
     (conv=>whnf);refine ⟨(ppre++[⟨nm,p0::ps,body⟩],prest),by simp,by simp,?_⟩
     rw[e1];exact (Cov.renO (fun k=>if k=2 then 3 else k) rfl rfl (bR rfl) zL (fun k hk=>by have:k<2:=hk;rw[if_neg (by omega)]) rfl nlz (.W rfl ((fun c hc=>cleanP_cells ⟨sl,arrs,pre,_,main⟩ c hc)) rfl (blksO.grown rfl ((by rw[iL_app];exact List.flatMap_append)) (cleanIC _) .nil)) (.cons rfl (.P rfl) (.K rfl rfl rfl (.cons rfl (.grown (by decide) rfl (by simp[iL]) (by simp[iL]<;>omega) (by simp[iL]<;>omega)) (.L rfl (cleanI _) (congrArg (Value.int .i64) (z2w.symm)) .nil)))))
 ·have zb:=U.lt_yes inL_map pre (In13.mk nm slot lo hh sec) rest;have zc:=U.blt_yes inL_map pre (In13.mk nm slot lo hh sec) rest;have zn:=U.nth_at inL_map pre (In13.mk nm slot lo hh sec) rest;have zw:=U.len_snoc (pre:=pre) (x:=In13.mk nm slot lo hh sec) (post:=rest) ((by simp[maxI] at hi ⊢;omega))
  obtain ⟨S1,hS1⟩:∃S1,S1=pre.map (·.slot):=⟨_,rfl⟩
  have hSl:S1.length≤20:=by rw[hS1,List.length_map];simp at hi;omega
  have e1:(pre++[In13.mk nm slot lo hh sec]).map (·.slot)=S1++[slot]:=by rw[hS1];simp
  rw[← hS1];clear hS1;rcases S1 with _|⟨r0,r⟩
  ·(repeat' ((conv=>whnf);first|refine goD ?_|refine U.lw_c ?_ ?_<;>intro hb))
   (conv=>whnf);refine ⟨(pre++[⟨nm,slot,lo,hh,sec⟩],rest),by simp,by simp,?_⟩
   rw[e1];exact (Cov.renO (fun k=>if k=1 then 3 else k) rfl rfl (bR rfl) zL (fun k hk=>by have:k<1:=hk;rw[if_neg (by omega)]) rfl nlz (.W rfl ((fun c hc=>cleanP_cells ⟨sl,arrs,_,procs,main⟩ c hc)) rfl (blksO.grown rfl rfl (cleanIC _) .nil)) (.cons rfl (.P rfl) (.K rfl rfl rfl (.cons rfl (.grown (by decide) rfl (by simp[iL]) (by simp[iL]) (by simp[iL])) (.L rfl (cleanI _) (congrArg (Value.int .i64) (zw.symm)) .nil)))))
  ·have hgr:(cellsAll (Value.int .i64 r0::List.map (Value.int .i64) r)).length=((List.map (Value.int .i64) r).length+1)*1:=by
    rw[show Value.int .i64 r0::List.map (Value.int .i64) r=iL (r0::r) from rfl,cellsI,iL_len,List.length_map];simp
   have hg1:(List.map (Value.int .i64) r).length+1+(0+1)≤100000:=by rw[List.length_map];simp at hSl;omega
   (repeat' ((conv=>whnf);first|refine goA ?_|(rw[U.ble_f ((List.map (Value.int .i64) r).length+1)];dsimp only;refine U.growRow_p hgr rfl ?_)|refine U.ob_c (grow_ok (by decide +kernel) hg1) ?_|refine goB ?_|refine U.lw_c ?_ ?_<;>intro hb))
   (conv=>whnf);refine ⟨(pre++[⟨nm,slot,lo,hh,sec⟩],rest),by simp,by simp,?_⟩
   rw[e1];exact (Cov.renO (fun k=>if k=1 then 3 else k) rfl rfl (bR rfl) zL (fun k hk=>by have:k<1:=hk;rw[if_neg (by omega)]) rfl nlz (.W rfl ((fun c hc=>cleanP_cells ⟨sl,arrs,_,procs,main⟩ c hc)) rfl (blksO.grown rfl ((by rw[iL_app];exact List.flatMap_append)) (cleanIC _) .nil)) (.cons rfl (.P rfl) (.K rfl rfl rfl (.cons rfl (.grown (by decide) rfl (by simp[iL]) (by simp[iL]) (by simp[iL])) (.L rfl (cleanI _) (congrArg (Value.int .i64) (zw.symm)) .nil)))))
end Go.Proofs.YtocppbocphnbcaaGreatDoor
