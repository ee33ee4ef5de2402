
import Derived.Test.YtnfppdblcmollaaGreatDoorTS32
namespace Go.Proofs.YtnfppdblcmollaaGreatDoor
open Go Go.RowKit Go.Sort U
set_option linter.unusedVariables false
set_option linter.unusedSimpArgs false
set_option maxRecDepth 100000
set_option maxHeartbeats 40000000
theorem encSs_len (l:List St):(encSs l).length=l.length:=by rw[encSs_map,List.length_map]
noncomputable def rangeS:List Tmp×Code×Code:=rangeF Tryz.f48.body
noncomputable def lpS (st:LoopState) (pe:Option Code):U.Blk:=.loop st pe (mkF [(2,.pointer (some ⟨0,0,none⟩)),(4,.bool false),(7,.pointer (some ⟨1,0,none⟩))]) 124 rangeS.1 rangeS.2.1 rangeS.2.2
noncomputable def stS (p:Pg) (ok:Bool) (st:LoopState) (pe:Option Code):AS:=⟨mkO [(0,some (.cells 27 (cellsOf (encP p)) false)),(1,some (.cells 4 [.bool ok] false)),(3,some (lpS st pe))],4,0,0⟩
theorem lpS_ren {n:Nat}{ρ:U.Ren}{fr:Tr Value}{st:LoopState}{pe:Option Code}{N:Nat}{ps:List Tmp}{asg bo:Code}(hn:1<n) (h0:ρ 0=0) (h1:ρ 1=1) (e0:N=124) (e1:ps=rangeS.1) (e2:asg=rangeS.2.1) (e3:bo=rangeS.2.2) (g2:Tr.at (pt 2) fr=some (.pointer (some ⟨0,0,none⟩))) (g4:Tr.at (pt 4) fr=some (.bool false)) (g7:Tr.at (pt 7) fr=some (.pointer (some ⟨1,0,none⟩))):U.RenB n ρ (lpS st pe) (.loop st pe fr N ps asg bo):=by
 subst e0;subst e1;subst e2;subst e3;exact RenB.lp (.cons g2 (.ptr _ _ _ (by omega) h0) (.cons g4 (.F rfl rfl) (.cons g7 (.ptr _ _ _ hn h1) .nil)))
theorem roundS (p:Pg) (e:Ex):SoundRound Tryz.prog 3 [encE e] (stS p true .ready none) fun u t=>(u=.bool true∧ownE p.slots p.arrs.length e=true∧CovS Tryz.prog 4 t (stS p true .ready none))∨(u=.bool false∧ownE p.slots p.arrs.length e=false∧CovS Tryz.prog 4 t (stS p false (doneC (some (.exit 1))) (some (.exit 1)))):=by
 refine SoundRound.run hmixU 0 ?_;have h1:=standsE_d p e;have hce:=cleanE e;have hcp:=cleanP p;obtain ⟨k,n,a,o,l⟩:=e;obtain ⟨sl,arrs,ins,procs,main⟩:=p;generalize ownE _ _ _=q at *
 (repeat' ((conv=>whnf);first|refine goD ?_|refine U.SoundAt.u (h1) clM ?_|refine U.SoundC.u (h1) clM ?_|refine U.lw_c ?_ ?_<;>intro hb))
 all_goals (conv=>whnf)
 ·exact .inr ⟨rfl,by simpa using hb,CovS.of ((Cov.renI rfl rfl rfl rfl (.W rfl ((fun c hc=>cleanP_cells ⟨sl,arrs,ins,procs,main⟩ c hc)) rfl (.C rfl (.K rfl rfl .nil) (.cons rfl (lpS_ren (by decide) rfl rfl rfl rfl rfl rfl rfl rfl rfl) .nil))) .nil))⟩
 ·exact .inl ⟨rfl,by simpa using hb,CovS.of ((Cov.renI rfl rfl rfl rfl (.W rfl ((fun c hc=>cleanP_cells ⟨sl,arrs,ins,procs,main⟩ c hc)) rfl (.C rfl (.K rfl rfl .nil) (.cons rfl (lpS_ren (by decide) rfl rfl rfl rfl rfl rfl rfl rfl rfl) .nil))) .nil))⟩
theorem stands_d (p:Pg) (hp:p.procs.length≤20) (s:St) (hs:szS s≤1000):DenU Tryz.prog [] 48 [encP p,ptS s] (.bool (standsB p s)):=by
 refine denU_of_sound hmixU fun Ts=>SoundAt.body hmixU Tryz.func48 rfl rfl rfl 0 ?_
 obtain ⟨k,a,xs,th,el,no⟩:=s;have hxs:szEs xs≤1000:=by rw[szS] at hs;omega
 obtain ⟨b0,hr⟩:∃b0,b0=ownS p (.mk k a xs th el no):=⟨_,rfl⟩
 obtain ⟨e0,he⟩:∃e0,e0=exsB p xs:=⟨_,rfl⟩
 rw[show standsB p (.mk k a xs th el no)=(b0&&e0) by rw[hr,he];rfl]
 obtain ⟨sl,arrs,ins,procs,main⟩:=p;dsimp only at hp;have hx:=encEs_len xs;have ht:=encSs_len th;have hl:=encSs_len el;have ha:=iL_len arrs;have hq:=prL_len procs;have hno:b0=false->∀s,FrzV Tryz.prog s (retC [.bool false]) (.bool (b0&&e0)):=fun h s=>.same (.flat _ rfl) (congrArg Value.bool (by rw[h];rfl))
 simp only[ownS,isE_iff] at hr;rcases (by omega:k=0∨k=1∨k=2∨k=3∨k=4∨k=5∨k=6∨(¬k=0∧¬k=1∧¬k=2∧¬k=3∧¬k=4∧¬k=5∧¬k=6)) with rfl|rfl|rfl|rfl|rfl|rfl|rfl|⟨k0,k1,k2,k3,k4,k5,k6⟩
 ·(repeat' ((conv=>whnf);first|refine goA ?_|refine U.SoundAt.body hmixU Tryz.func111 rfl rfl rfl 0 ?_|refine goB ?_|refine U.lw_c ?_ ?_<;>intro hb))
  all_goals (conv=>whnf)
  all_goals try exact hno (by clear hno he;grind) _
  all_goals (
   have hb0:b0=true:=by (clear hno he;rw[hr];clear hr;simp only[hx,ht,hl,ha,hq,bne_eq_false_iff_eq,decide_eq_false_iff_not,decide_eq_true_eq] at *;simp[-List.length_eq_zero_iff];omega)
   subst hb0;refine SoundAt.iterQ (l:=3) rfl rfl (exprs_q xs hxs) ⟨.imp _ _ fun c hc=>by
    have hc:c∈[imS (encEs xs)]:=hc;rw[List.mem_singleton] at hc;subst hc;exact cleanEs _,trivial⟩ (fun vs=>stS ⟨sl,arrs,ins,procs,main⟩ true .ready none) (fun vs=>∃q:List Ex,vs=encEs q∧e0=q.all (ownE sl arrs.length)) (fun _:Unit=>stS ⟨sl,arrs,ins,procs,main⟩ false (doneC (some (.exit 1))) (some (.exit 1))) (fun _=>e0=false) ⟨postEs xs,rfl,he⟩ [(0,yl 3),(1,imP (imS (encEs xs)) 0)] ?_ rfl ?_ ?_ ?_ ?_ ?_ ?_ ?_
   ·exact Cov.boxF (fun k=>k) 2 (imS (encEs xs)) (T:=30) (xs:=[imS (encEs xs)]) rfl rfl rL zL (fun _ _=>rfl) rfl nlz zL rfl rfl rfl (by simp) (fun c hc=>by rw[List.mem_singleton] at hc;subst hc;exact cleanEs _) (.W rfl (fun c hc=>cleanP_cells ⟨sl,arrs,ins,procs,main⟩ c hc) rfl (.C rfl (.K rfl rfl .nil) (.cons rfl (lpS_ren (by decide) rfl rfl rfl rfl rfl rfl rfl rfl rfl) .nil))) (.cons rfl (.yld _ _ (by decide) rfl) (.cons rfl (.ext _ _ ⟨rfl,rfl⟩) .nil))
   ·intro i u hu;rcases i with _|_|i
    ·cases hu;rfl
    ·cases hu;rfl
    ·simp at hu
   ·show 3<4
    decide
   ·intro ts' _
    exact ⟨rfl,rfl,Nat.le_refl _,fun k hk=>absurd hk (Nat.not_lt_zero k),rfl⟩
   ·intro b _;exact ⟨rfl,rfl,Nat.le_refl _,fun k hk=>absurd hk (Nat.not_lt_zero k),rfl⟩
   ·rintro x ts' _ ⟨q,hq1,hq2⟩
    rcases q with _|⟨e,q⟩
    ·cases hq1
    ·rw[encEs] at hq1;obtain ⟨rfl,rfl⟩:=List.cons.inj hq1;refine (roundS ⟨sl,arrs,ins,procs,main⟩ e).mono fun u t _ h=>?_
     rcases h with ⟨h1,h2,h3⟩|⟨h1,h2,h3⟩
     ·exact .inl ⟨h1,⟨q,rfl,by rw[hq2,List.all_cons,h2];rfl⟩,h3⟩
     ·exact .inr ⟨h1,(),by rw[hq2,List.all_cons,h2];rfl,h3⟩
   ·rintro ⟨q,hq1,hq2⟩
    rcases q with _|⟨e,q⟩
    ·rw[hq2];(repeat' ((conv=>whnf);first|refine goD ?_|refine U.lw_c ?_ ?_<;>intro hb))
     (conv=>whnf);exact .same (.flat _ rfl) rfl
    ·cases hq1
   ·intro _ he0;rw[he0];(repeat' ((conv=>whnf);first|refine goD ?_|refine U.lw_c ?_ ?_<;>intro hb))
    (conv=>whnf);exact .same (.flat _ rfl) rfl)
 ·(repeat' ((conv=>whnf);first|refine goA ?_|refine U.SoundAt.body hmixU Tryz.func111 rfl rfl rfl 0 ?_|refine goB ?_|refine U.drawX_p (D:=U.propX) 5 [] (by decide +kernel) (by decide +kernel) ?_|refine U.lw_c ?_ ?_<;>intro hb))
  all_goals (conv=>whnf)
  all_goals try exact hno (by clear hno he;grind) _
  all_goals (
   have hb0:b0=true:=by (clear hno he;rw[hr];clear hr;simp only[hx,ht,hl,ha,hq,bne_eq_false_iff_eq,decide_eq_false_iff_not,decide_eq_true_eq] at *;simp[-List.length_eq_zero_iff];omega)
   subst hb0;refine SoundAt.iterQ (l:=3) rfl rfl (exprs_q xs hxs) ⟨.imp _ _ fun c hc=>by
    have hc:c∈[imS (encEs xs)]:=hc;rw[List.mem_singleton] at hc;subst hc;exact cleanEs _,trivial⟩ (fun vs=>stS ⟨sl,arrs,ins,procs,main⟩ true .ready none) (fun vs=>∃q:List Ex,vs=encEs q∧e0=q.all (ownE sl arrs.length)) (fun _:Unit=>stS ⟨sl,arrs,ins,procs,main⟩ false (doneC (some (.exit 1))) (some (.exit 1))) (fun _=>e0=false) ⟨postEs xs,rfl,he⟩ [(0,yl 3),(1,imP (imS (encEs xs)) 0)] ?_ rfl ?_ ?_ ?_ ?_ ?_ ?_ ?_
   ·exact Cov.boxF (fun k=>k) 2 (imS (encEs xs)) (T:=30) (xs:=[imS (encEs xs)]) rfl rfl rL zL (fun _ _=>rfl) rfl nlz zL rfl rfl rfl (by simp) (fun c hc=>by rw[List.mem_singleton] at hc;subst hc;exact cleanEs _) (.W rfl (fun c hc=>cleanP_cells ⟨sl,arrs,ins,procs,main⟩ c hc) rfl (.C rfl (.K rfl rfl .nil) (.cons rfl (lpS_ren (by decide) rfl rfl rfl rfl rfl rfl rfl rfl rfl) .nil))) (.cons rfl (.yld _ _ (by decide) rfl) (.cons rfl (.ext _ _ ⟨rfl,rfl⟩) .nil))
   ·intro i u hu;rcases i with _|_|i
    ·cases hu;rfl
    ·cases hu;rfl
    ·simp at hu
   ·show 3<4
    decide
   ·intro ts' _
    exact ⟨rfl,rfl,Nat.le_refl _,fun k hk=>absurd hk (Nat.not_lt_zero k),rfl⟩
   ·intro b _;exact ⟨rfl,rfl,Nat.le_refl _,fun k hk=>absurd hk (Nat.not_lt_zero k),rfl⟩
   ·rintro x ts' _ ⟨q,hq1,hq2⟩
    rcases q with _|⟨e,q⟩
    ·cases hq1
    ·rw[encEs] at hq1;obtain ⟨rfl,rfl⟩:=List.cons.inj hq1;refine (roundS ⟨sl,arrs,ins,procs,main⟩ e).mono fun u t _ h=>?_
     rcases h with ⟨h1,h2,h3⟩|⟨h1,h2,h3⟩
     ·exact .inl ⟨h1,⟨q,rfl,by rw[hq2,List.all_cons,h2];rfl⟩,h3⟩
     ·exact .inr ⟨h1,(),by rw[hq2,List.all_cons,h2];rfl,h3⟩
   ·rintro ⟨q,hq1,hq2⟩
    rcases q with _|⟨e,q⟩
    ·rw[hq2];(repeat' ((conv=>whnf);first|refine goD ?_|refine U.lw_c ?_ ?_<;>intro hb))
     (conv=>whnf);exact .same (.flat _ rfl) rfl
    ·cases hq1
   ·intro _ he0;rw[he0];(repeat' ((conv=>whnf);first|refine goD ?_|refine U.lw_c ?_ ?_<;>intro hb))
    (conv=>whnf);exact .same (.flat _ rfl) rfl)
 ·(repeat' ((conv=>whnf);first|refine goA ?_|refine U.SoundAt.body hmixU Tryz.func111 rfl rfl rfl 0 ?_|refine goB ?_|refine U.lw_c ?_ ?_<;>intro hb))
  all_goals (conv=>whnf)
  all_goals try exact hno (by clear hno he;grind) _
  all_goals (
   have hb0:b0=true:=by (clear hno he;rw[hr];clear hr;simp only[hx,ht,hl,ha,hq,bne_eq_false_iff_eq,decide_eq_false_iff_not,decide_eq_true_eq] at *;simp[-List.length_eq_zero_iff];omega)
   subst hb0;refine SoundAt.iterQ (l:=3) rfl rfl (exprs_q xs hxs) ⟨.imp _ _ fun c hc=>by
    have hc:c∈[imS (encEs xs)]:=hc;rw[List.mem_singleton] at hc;subst hc;exact cleanEs _,trivial⟩ (fun vs=>stS ⟨sl,arrs,ins,procs,main⟩ true .ready none) (fun vs=>∃q:List Ex,vs=encEs q∧e0=q.all (ownE sl arrs.length)) (fun _:Unit=>stS ⟨sl,arrs,ins,procs,main⟩ false (doneC (some (.exit 1))) (some (.exit 1))) (fun _=>e0=false) ⟨postEs xs,rfl,he⟩ [(0,yl 3),(1,imP (imS (encEs xs)) 0)] ?_ rfl ?_ ?_ ?_ ?_ ?_ ?_ ?_
   ·exact Cov.boxF (fun k=>k) 2 (imS (encEs xs)) (T:=30) (xs:=[imS (encEs xs)]) rfl rfl rL zL (fun _ _=>rfl) rfl nlz zL rfl rfl rfl (by simp) (fun c hc=>by rw[List.mem_singleton] at hc;subst hc;exact cleanEs _) (.W rfl (fun c hc=>cleanP_cells ⟨sl,arrs,ins,procs,main⟩ c hc) rfl (.C rfl (.K rfl rfl .nil) (.cons rfl (lpS_ren (by decide) rfl rfl rfl rfl rfl rfl rfl rfl rfl) .nil))) (.cons rfl (.yld _ _ (by decide) rfl) (.cons rfl (.ext _ _ ⟨rfl,rfl⟩) .nil))
   ·intro i u hu;rcases i with _|_|i
    ·cases hu;rfl
    ·cases hu;rfl
    ·simp at hu
   ·show 3<4
    decide
   ·intro ts' _
    exact ⟨rfl,rfl,Nat.le_refl _,fun k hk=>absurd hk (Nat.not_lt_zero k),rfl⟩
   ·intro b _;exact ⟨rfl,rfl,Nat.le_refl _,fun k hk=>absurd hk (Nat.not_lt_zero k),rfl⟩
   ·rintro x ts' _ ⟨q,hq1,hq2⟩
    rcases q with _|⟨e,q⟩
    ·cases hq1
    ·rw[encEs] at hq1;obtain ⟨rfl,rfl⟩:=List.cons.inj hq1;refine (roundS ⟨sl,arrs,ins,procs,main⟩ e).mono fun u t _ h=>?_
     rcases h with ⟨h1,h2,h3⟩|⟨h1,h2,h3⟩
     ·exact .inl ⟨h1,⟨q,rfl,by rw[hq2,List.all_cons,h2];rfl⟩,h3⟩
     ·exact .inr ⟨h1,(),by rw[hq2,List.all_cons,h2];rfl,h3⟩
   ·rintro ⟨q,hq1,hq2⟩
    rcases q with _|⟨e,q⟩
    ·rw[hq2];(repeat' ((conv=>whnf);first|refine goD ?_|refine U.lw_c ?_ ?_<;>intro hb))
     (conv=>whnf);exact .same (.flat _ rfl) rfl
    ·cases hq1
   ·intro _ he0;rw[he0];(repeat' ((conv=>whnf);first|refine goD ?_|refine U.lw_c ?_ ?_<;>intro hb))
    (conv=>whnf);exact .same (.flat _ rfl) rfl)
 ·(repeat' ((conv=>whnf);first|refine goA ?_|refine U.SoundAt.body hmixU Tryz.func111 rfl rfl rfl 0 ?_|refine goB ?_|refine U.lw_c ?_ ?_<;>intro hb))
  all_goals (conv=>whnf)
  all_goals try exact hno (by clear hno he;grind) _
  all_goals (
   have hb0:b0=true:=by (clear hno he;rw[hr];clear hr;simp only[hx,ht,hl,ha,hq,bne_eq_false_iff_eq,decide_eq_false_iff_not,decide_eq_true_eq] at *;simp[-List.length_eq_zero_iff];omega)
   subst hb0;refine SoundAt.iterQ (l:=3) rfl rfl (exprs_q xs hxs) ⟨.imp _ _ fun c hc=>by
    have hc:c∈[imS (encEs xs)]:=hc;rw[List.mem_singleton] at hc;subst hc;exact cleanEs _,trivial⟩ (fun vs=>stS ⟨sl,arrs,ins,procs,main⟩ true .ready none) (fun vs=>∃q:List Ex,vs=encEs q∧e0=q.all (ownE sl arrs.length)) (fun _:Unit=>stS ⟨sl,arrs,ins,procs,main⟩ false (doneC (some (.exit 1))) (some (.exit 1))) (fun _=>e0=false) ⟨postEs xs,rfl,he⟩ [(0,yl 3),(1,imP (imS (encEs xs)) 0)] ?_ rfl ?_ ?_ ?_ ?_ ?_ ?_ ?_
   ·exact Cov.boxF (fun k=>k) 2 (imS (encEs xs)) (T:=30) (xs:=[imS (encEs xs)]) rfl rfl rL zL (fun _ _=>rfl) rfl nlz zL rfl rfl rfl (by simp) (fun c hc=>by rw[List.mem_singleton] at hc;subst hc;exact cleanEs _) (.W rfl (fun c hc=>cleanP_cells ⟨sl,arrs,ins,procs,main⟩ c hc) rfl (.C rfl (.K rfl rfl .nil) (.cons rfl (lpS_ren (by decide) rfl rfl rfl rfl rfl rfl rfl rfl rfl) .nil))) (.cons rfl (.yld _ _ (by decide) rfl) (.cons rfl (.ext _ _ ⟨rfl,rfl⟩) .nil))
   ·intro i u hu;rcases i with _|_|i
    ·cases hu;rfl
    ·cases hu;rfl
    ·simp at hu
   ·show 3<4
    decide
   ·intro ts' _
    exact ⟨rfl,rfl,Nat.le_refl _,fun k hk=>absurd hk (Nat.not_lt_zero k),rfl⟩
   ·intro b _;exact ⟨rfl,rfl,Nat.le_refl _,fun k hk=>absurd hk (Nat.not_lt_zero k),rfl⟩
   ·rintro x ts' _ ⟨q,hq1,hq2⟩
    rcases q with _|⟨e,q⟩
    ·cases hq1
    ·rw[encEs] at hq1;obtain ⟨rfl,rfl⟩:=List.cons.inj hq1;refine (roundS ⟨sl,arrs,ins,procs,main⟩ e).mono fun u t _ h=>?_
     rcases h with ⟨h1,h2,h3⟩|⟨h1,h2,h3⟩
     ·exact .inl ⟨h1,⟨q,rfl,by rw[hq2,List.all_cons,h2];rfl⟩,h3⟩
     ·exact .inr ⟨h1,(),by rw[hq2,List.all_cons,h2];rfl,h3⟩
   ·rintro ⟨q,hq1,hq2⟩
    rcases q with _|⟨e,q⟩
    ·rw[hq2];(repeat' ((conv=>whnf);first|refine goD ?_|refine U.lw_c ?_ ?_<;>intro hb))
     (conv=>whnf);exact .same (.flat _ rfl) rfl
    ·cases hq1
   ·intro _ he0;rw[he0];(repeat' ((conv=>whnf);first|refine goD ?_|refine U.lw_c ?_ ?_<;>intro hb))
    (conv=>whnf);exact .same (.flat _ rfl) rfl)
 ·(repeat' ((conv=>whnf);first|refine goA ?_|refine U.SoundAt.body hmixU Tryz.func111 rfl rfl rfl 0 ?_|refine goB ?_|refine U.lw_c ?_ ?_<;>intro hb))
  all_goals (conv=>whnf)
  all_goals try exact hno (by clear hno he;grind) _
  all_goals (
   have hb0:b0=true:=by (clear hno he;rw[hr];clear hr;simp only[hx,ht,hl,ha,hq,bne_eq_false_iff_eq,decide_eq_false_iff_not,decide_eq_true_eq] at *;simp[-List.length_eq_zero_iff];omega)
   subst hb0;refine SoundAt.iterQ (l:=3) rfl rfl (exprs_q xs hxs) ⟨.imp _ _ fun c hc=>by
    have hc:c∈[imS (encEs xs)]:=hc;rw[List.mem_singleton] at hc;subst hc;exact cleanEs _,trivial⟩ (fun vs=>stS ⟨sl,arrs,ins,procs,main⟩ true .ready none) (fun vs=>∃q:List Ex,vs=encEs q∧e0=q.all (ownE sl arrs.length)) (fun _:Unit=>stS ⟨sl,arrs,ins,procs,main⟩ false (doneC (some (.exit 1))) (some (.exit 1))) (fun _=>e0=false) ⟨postEs xs,rfl,he⟩ [(0,yl 3),(1,imP (imS (encEs xs)) 0)] ?_ rfl ?_ ?_ ?_ ?_ ?_ ?_ ?_
   ·exact Cov.boxF (fun k=>k) 2 (imS (encEs xs)) (T:=30) (xs:=[imS (encEs xs)]) rfl rfl rL zL (fun _ _=>rfl) rfl nlz zL rfl rfl rfl (by simp) (fun c hc=>by rw[List.mem_singleton] at hc;subst hc;exact cleanEs _) (.W rfl (fun c hc=>cleanP_cells ⟨sl,arrs,ins,procs,main⟩ c hc) rfl (.C rfl (.K rfl rfl .nil) (.cons rfl (lpS_ren (by decide) rfl rfl rfl rfl rfl rfl rfl rfl rfl) .nil))) (.cons rfl (.yld _ _ (by decide) rfl) (.cons rfl (.ext _ _ ⟨rfl,rfl⟩) .nil))
   ·intro i u hu;rcases i with _|_|i
    ·cases hu;rfl
    ·cases hu;rfl
    ·simp at hu
   ·show 3<4
    decide
   ·intro ts' _
    exact ⟨rfl,rfl,Nat.le_refl _,fun k hk=>absurd hk (Nat.not_lt_zero k),rfl⟩
   ·intro b _;exact ⟨rfl,rfl,Nat.le_refl _,fun k hk=>absurd hk (Nat.not_lt_zero k),rfl⟩
   ·rintro x ts' _ ⟨q,hq1,hq2⟩
    rcases q with _|⟨e,q⟩
    ·cases hq1
    ·rw[encEs] at hq1;obtain ⟨rfl,rfl⟩:=List.cons.inj hq1;refine (roundS ⟨sl,arrs,ins,procs,main⟩ e).mono fun u t _ h=>?_
     rcases h with ⟨h1,h2,h3⟩|⟨h1,h2,h3⟩
     ·exact .inl ⟨h1,⟨q,rfl,by rw[hq2,List.all_cons,h2];rfl⟩,h3⟩
     ·exact .inr ⟨h1,(),by rw[hq2,List.all_cons,h2];rfl,h3⟩
   ·rintro ⟨q,hq1,hq2⟩
    rcases q with _|⟨e,q⟩
    ·rw[hq2];(repeat' ((conv=>whnf);first|refine goD ?_|refine U.lw_c ?_ ?_<;>intro hb))
     (conv=>whnf);exact .same (.flat _ rfl) rfl
    ·cases hq1
   ·intro _ he0;rw[he0];(repeat' ((conv=>whnf);first|refine goD ?_|refine U.lw_c ?_ ?_<;>intro hb))
    (conv=>whnf);exact .same (.flat _ rfl) rfl)
 ·by_cases hin:0≤a∧a<procs.length
  ·obtain ⟨i,rfl⟩:=Int.eq_ofNat_of_zero_le hin.1;have hi:i<procs.length:=by omega
   obtain ⟨x,hxi⟩:∃x,procs[i]?=some x:=⟨_,List.getElem?_eq_getElem hi⟩
   have hpn:parN procs i=x.ps.length:=by unfold parN;rw[Int.toNat_natCast,hxi]
   rw[hpn] at hr;have hps:=iL_len x.ps;have g1:decide ((i:Int)≥0)=true:=decide_eq_true (by omega)
   have g2:decide ((i:Int)<((prL procs).length:Int))=true:=decide_eq_true (by rw[hq];omega)
   have g3:Nat.blt i (prL procs).length=true:=bLe (by rw[hq];omega)
   have g4:nth (prL procs) i=some (encPr x):=by rw[nth_eq,prL,List.getElem?_map,hxi];rfl
   obtain ⟨nm,ps,body⟩:=x;dsimp only at hps hpn hr;(repeat' ((conv=>whnf);first|refine goA ?_|refine U.SoundAt.body hmixU Tryz.func111 rfl rfl rfl 0 ?_|refine goB ?_|refine U.drawX_p (D:=U.propX) 11 [] (by decide +kernel) (by decide +kernel) ?_|refine U.lw_c ?_ ?_<;>intro hb))
   all_goals (conv=>whnf)
   all_goals try exact hno (by clear hno he;grind) _
   all_goals (
    have hb0:b0=true:=by (clear hno he;rw[hr];clear hr;simp only[hx,ht,hl,ha,hq,bne_eq_false_iff_eq,decide_eq_false_iff_not,decide_eq_true_eq] at *;simp[-List.length_eq_zero_iff];omega)
    subst hb0;refine SoundAt.iterQ (l:=3) rfl rfl (exprs_q xs hxs) ⟨.imp _ _ fun c hc=>by
     have hc:c∈[imS (encEs xs)]:=hc;rw[List.mem_singleton] at hc;subst hc;exact cleanEs _,trivial⟩ (fun vs=>stS ⟨sl,arrs,ins,procs,main⟩ true .ready none) (fun vs=>∃q:List Ex,vs=encEs q∧e0=q.all (ownE sl arrs.length)) (fun _:Unit=>stS ⟨sl,arrs,ins,procs,main⟩ false (doneC (some (.exit 1))) (some (.exit 1))) (fun _=>e0=false) ⟨postEs xs,rfl,he⟩ [(0,yl 3),(1,imP (imS (encEs xs)) 0)] ?_ rfl ?_ ?_ ?_ ?_ ?_ ?_ ?_
    ·exact Cov.boxF (fun k=>k) 2 (imS (encEs xs)) (T:=30) (xs:=[imS (encEs xs)]) rfl rfl rL zL (fun _ _=>rfl) rfl nlz zL rfl rfl rfl (by simp) (fun c hc=>by rw[List.mem_singleton] at hc;subst hc;exact cleanEs _) (.W rfl (fun c hc=>cleanP_cells ⟨sl,arrs,ins,procs,main⟩ c hc) rfl (.C rfl (.K rfl rfl .nil) (.cons rfl (lpS_ren (by decide) rfl rfl rfl rfl rfl rfl rfl rfl rfl) .nil))) (.cons rfl (.yld _ _ (by decide) rfl) (.cons rfl (.ext _ _ ⟨rfl,rfl⟩) .nil))
    ·intro i u hu;rcases i with _|_|i
     ·cases hu;rfl
     ·cases hu;rfl
     ·simp at hu
    ·show 3<4
     decide
    ·intro ts' _
     exact ⟨rfl,rfl,Nat.le_refl _,fun k hk=>absurd hk (Nat.not_lt_zero k),rfl⟩
    ·intro b _;exact ⟨rfl,rfl,Nat.le_refl _,fun k hk=>absurd hk (Nat.not_lt_zero k),rfl⟩
    ·rintro x ts' _ ⟨q,hq1,hq2⟩
     rcases q with _|⟨e,q⟩
     ·cases hq1
     ·rw[encEs] at hq1;obtain ⟨rfl,rfl⟩:=List.cons.inj hq1;refine (roundS ⟨sl,arrs,ins,procs,main⟩ e).mono fun u t _ h=>?_
      rcases h with ⟨h1,h2,h3⟩|⟨h1,h2,h3⟩
      ·exact .inl ⟨h1,⟨q,rfl,by rw[hq2,List.all_cons,h2];rfl⟩,h3⟩
      ·exact .inr ⟨h1,(),by rw[hq2,List.all_cons,h2];rfl,h3⟩
    ·rintro ⟨q,hq1,hq2⟩
     rcases q with _|⟨e,q⟩
     ·rw[hq2];(repeat' ((conv=>whnf);first|refine goD ?_|refine U.lw_c ?_ ?_<;>intro hb))
      (conv=>whnf);exact .same (.flat _ rfl) rfl
     ·cases hq1
    ·intro _ he0;rw[he0];(repeat' ((conv=>whnf);first|refine goD ?_|refine U.lw_c ?_ ?_<;>intro hb))
     (conv=>whnf);exact .same (.flat _ rfl) rfl)
  ·have hbf:b0=false:=by
    rw[hr,Bool.eq_false_iff];simp[-List.length_eq_zero_iff];omega
   have hno:=hno hbf;by_cases h0:a<0
   ·have g1:decide (a≥0)=false:=decide_eq_false (by omega)
    have g2:decide (a<0)=true:=decide_eq_true h0;(repeat' ((conv=>whnf);first|refine goD ?_|refine U.lw_c ?_ ?_<;>intro hb))
    (conv=>whnf);exact hno _
   ·have g1:decide (a≥0)=true:=decide_eq_true (by omega)
    have g2:decide (a<0)=false:=decide_eq_false h0;have g3:decide (a<((prL procs).length:Int))=false:=decide_eq_false (by rw[hq];omega)
    have g4:decide (a≥((prL procs).length:Int))=true:=decide_eq_true (by rw[hq];omega)
    (repeat' ((conv=>whnf);first|refine goD ?_|refine U.lw_c ?_ ?_<;>intro hb))
    (conv=>whnf);exact hno _
 ·(repeat' ((conv=>whnf);first|refine goA ?_|refine U.SoundAt.body hmixU Tryz.func111 rfl rfl rfl 0 ?_|refine goB ?_|refine U.lw_c ?_ ?_<;>intro hb))
  all_goals (conv=>whnf)
  all_goals try exact hno (by clear hno he;grind) _
  all_goals (
   have hb0:b0=true:=by (clear hno he;rw[hr];clear hr;simp only[hx,ht,hl,ha,hq,bne_eq_false_iff_eq,decide_eq_false_iff_not,decide_eq_true_eq] at *;simp[-List.length_eq_zero_iff];omega)
   subst hb0;refine SoundAt.iterQ (l:=3) rfl rfl (exprs_q xs hxs) ⟨.imp _ _ fun c hc=>by
    have hc:c∈[imS (encEs xs)]:=hc;rw[List.mem_singleton] at hc;subst hc;exact cleanEs _,trivial⟩ (fun vs=>stS ⟨sl,arrs,ins,procs,main⟩ true .ready none) (fun vs=>∃q:List Ex,vs=encEs q∧e0=q.all (ownE sl arrs.length)) (fun _:Unit=>stS ⟨sl,arrs,ins,procs,main⟩ false (doneC (some (.exit 1))) (some (.exit 1))) (fun _=>e0=false) ⟨postEs xs,rfl,he⟩ [(0,yl 3),(1,imP (imS (encEs xs)) 0)] ?_ rfl ?_ ?_ ?_ ?_ ?_ ?_ ?_
   ·exact Cov.boxF (fun k=>k) 2 (imS (encEs xs)) (T:=30) (xs:=[imS (encEs xs)]) rfl rfl rL zL (fun _ _=>rfl) rfl nlz zL rfl rfl rfl (by simp) (fun c hc=>by rw[List.mem_singleton] at hc;subst hc;exact cleanEs _) (.W rfl (fun c hc=>cleanP_cells ⟨sl,arrs,ins,procs,main⟩ c hc) rfl (.C rfl (.K rfl rfl .nil) (.cons rfl (lpS_ren (by decide) rfl rfl rfl rfl rfl rfl rfl rfl rfl) .nil))) (.cons rfl (.yld _ _ (by decide) rfl) (.cons rfl (.ext _ _ ⟨rfl,rfl⟩) .nil))
   ·intro i u hu;rcases i with _|_|i
    ·cases hu;rfl
    ·cases hu;rfl
    ·simp at hu
   ·show 3<4
    decide
   ·intro ts' _
    exact ⟨rfl,rfl,Nat.le_refl _,fun k hk=>absurd hk (Nat.not_lt_zero k),rfl⟩
   ·intro b _;exact ⟨rfl,rfl,Nat.le_refl _,fun k hk=>absurd hk (Nat.not_lt_zero k),rfl⟩
   ·rintro x ts' _ ⟨q,hq1,hq2⟩
    rcases q with _|⟨e,q⟩
    ·cases hq1
    ·rw[encEs] at hq1;obtain ⟨rfl,rfl⟩:=List.cons.inj hq1;refine (roundS ⟨sl,arrs,ins,procs,main⟩ e).mono fun u t _ h=>?_
     rcases h with ⟨h1,h2,h3⟩|⟨h1,h2,h3⟩
     ·exact .inl ⟨h1,⟨q,rfl,by rw[hq2,List.all_cons,h2];rfl⟩,h3⟩
     ·exact .inr ⟨h1,(),by rw[hq2,List.all_cons,h2];rfl,h3⟩
   ·rintro ⟨q,hq1,hq2⟩
    rcases q with _|⟨e,q⟩
    ·rw[hq2];(repeat' ((conv=>whnf);first|refine goD ?_|refine U.lw_c ?_ ?_<;>intro hb))
     (conv=>whnf);exact .same (.flat _ rfl) rfl
    ·cases hq1
   ·intro _ he0;rw[he0];(repeat' ((conv=>whnf);first|refine goD ?_|refine U.lw_c ?_ ?_<;>intro hb))
    (conv=>whnf);exact .same (.flat _ rfl) rfl)
 ·have g0:(k==0)=false:=by simpa using k0
  have g1:(k==1)=false:=by simpa using k1
  have g2:(k==2)=false:=by simpa using k2
  have g3:(k==3)=false:=by simpa using k3
  have g4:(k==4)=false:=by simpa using k4
  have g5:(k==5)=false:=by simpa using k5
  have g6:(k==6)=false:=by simpa using k6
  (repeat' ((conv=>whnf);first|refine goD ?_|refine U.lw_c ?_ ?_<;>intro hb))
  all_goals (conv=>whnf)
  all_goals exact hno (by clear hno he;grind) _
end Go.Proofs.YtnfppdblcmollaaGreatDoor
