
import Derived.Test.YtocppbocphnbcaaGreatDoorXS42
import Derived.Test.YtocppbocphnbcaaGreatDoorXS43
namespace Go.Proofs.YtocppbocphnbcaaGreatDoor
open Go Go.RowKit Go.Sort U
set_option linter.unusedVariables false
set_option linter.unusedSimpArgs false
set_option maxRecDepth 100000
set_option maxHeartbeats 40000000
abbrev rV:Value:=.func (.func 31) ⟨[]⟩ ⟨[]⟩
theorem rV_ren {n:Nat}{ρ:U.Ren}(p:Pg):U.RenV n ρ rV rV:=RenV.fnL .nil .nil
def notE (es:List Ex) (γ:Ga):Ga:={ γ with sm:=bumps (eSl es) γ.sm,am:=bumps (eAr es) γ.am }
noncomputable def rangeE:List Tmp×Code×Code:=rangeF Tryz.f31.body
noncomputable def lpE:U.Blk:=.loop .ready none (mkF [(2,.pointer (some ⟨18,0,none⟩))]) 25 rangeE.1 rangeE.2.1 rangeE.2.2
theorem lpE_ren {n:Nat}{ρ:U.Ren}{fr:Tr Value}{N:Nat}{ps:List Tmp}{asg bo:Code}(hn:18<n) (h0:ρ 18=18) (e0:N=25) (e1:ps=rangeE.1) (e2:asg=rangeE.2.1) (e3:bo=rangeE.2.2) (g1:Tr.at (pt 2) fr=some (.pointer (some ⟨18,0,none⟩))):U.RenB n ρ lpE (.loop .ready none fr N ps asg bo):=by
 subst e0;subst e1;subst e2;subst e3;exact RenB.lp (.cons g1 (.ptr _ _ _ hn h0) .nil)
noncomputable def stE (Ts:Nat->TypeId) (p:Pg) (γ:Ga):AS:=⟨mkO (hdW Ts p rV γ 17++[(16,some (lpW .busy)),(18,some (.cells 75 [.pointer (some ⟨8,0,none⟩)] false)),(20,some lpE)]),21,1,1⟩
theorem roundE (Ts:Nat->TypeId) (p:Pg) (γ:Ga) (e:Ex):SoundRound Tryz.prog 20 [encE e] (stE Ts p γ) fun u t=>u=.bool true∧CovS Tryz.prog 21 t (stE Ts p (notE [e] γ)):=by
 refine SoundRound.run hmixU 0 ?_;have kE:=cleanE e;obtain ⟨k,n,a,o,l⟩:=e;by_cases k1:k=1
 ·have g1:(k==1)=true:=by simpa using k1
  have e1:notE [.mk k n a o l] γ={ γ with sm:=bump a γ.sm }:=by simp[notE,eSl,eAr,k1,bumps]
  rw[e1];rcases bump_ways a γ.sm with ⟨hf,he,hz⟩|⟨i,u,hi,hf,he,hl,hz⟩
  ·(repeat' ((conv=>whnf);first|refine goA ?_|refine U.SoundAt.body hmixU Tryz.func29 rfl rfl rfl 0 ?_|refine U.SoundAt.body hmixU Tryz.func30 rfl rfl rfl 0 ?_|refine U.onV_p hf ?_|refine U.natC_p ?_|refine goB ?_|refine U.lw_c ?_ ?_<;>intro hb))
   (conv=>whnf);exact ⟨rfl,CovS.of ((Cov.renO (fun k=>k) rfl rfl (bR rfl) (bR rfl) (fun _ _=>rfl) rfl (kp1 (by rfl)) (.W rfl (kwClean) rfl (.C rfl (.K rfl rfl (.K rfl rfl .nil)) (.W rfl (cleanP_cells p) rfl (.C rfl (.cons (rV_ren p) .nil) (.C rfl (.K rfl rfl (.K rfl rfl .nil)) (.cons rfl (bump_ren he) (.cons rfl (RenB.mapE rfl rfl rfl (mE_noNm cleanI _)) (.C rfl (.K rfl rfl (.K rfl rfl (.cons (.mp _ _ (by decide) rfl) (.cons (.mp _ _ (by decide) rfl) .nil)))) (.C rfl (.cons (.P rfl) .nil) (.cons rfl (RenB.mapE rfl rfl rfl (mE_noNm cleanI _)) (.C rfl (.cons (.mp _ _ (by decide) rfl) .nil) (.C rfl (.cons (.S rfl rfl rfl) .nil) (.W rfl (bsL_clean _) rfl (.cons rfl (lpW_ren (by decide) rfl rfl rfl rfl rfl rfl rfl rfl rfl rfl rfl rfl rfl rfl) (.C rfl (.cons (.P rfl) .nil) (.cons rfl (lpE_ren (by decide) rfl rfl rfl rfl rfl rfl) .nil)))))))))))))))) .nil))⟩
  ·(repeat' ((conv=>whnf);first|refine goA ?_|refine U.SoundAt.body hmixU Tryz.func29 rfl rfl rfl 0 ?_|refine U.SoundAt.body hmixU Tryz.func30 rfl rfl rfl 0 ?_|refine U.onV_p hf ?_|refine U.onV_p (nthN_range hi) ?_|refine U.onV_p (idxB_range hi) ?_|refine U.natC_p ?_|refine goB ?_|refine U.lw_c ?_ ?_<;>intro hb))
   (conv=>whnf);exact ⟨rfl,CovS.of ((Cov.renO (fun k=>k) rfl rfl (bR rfl) (bR rfl) (fun _ _=>rfl) rfl (kp1 (by rfl)) (.W rfl (kwClean) rfl (.C rfl (.K rfl rfl (.K rfl rfl .nil)) (.W rfl (cleanP_cells p) rfl (.C rfl (.cons (rV_ren p) .nil) (.C rfl (.K rfl rfl (.K rfl rfl .nil)) (.cons rfl (bump_ren2 he hl) (.cons rfl (RenB.mapE rfl rfl rfl (mE_noNm cleanI _)) (.C rfl (.K rfl rfl (.K rfl rfl (.cons (.mp _ _ (by decide) rfl) (.cons (.mp _ _ (by decide) rfl) .nil)))) (.C rfl (.cons (.P rfl) .nil) (.cons rfl (RenB.mapE rfl rfl rfl (mE_noNm cleanI _)) (.C rfl (.cons (.mp _ _ (by decide) rfl) .nil) (.C rfl (.cons (.S rfl rfl rfl) .nil) (.W rfl (bsL_clean _) rfl (.cons rfl (lpW_ren (by decide) rfl rfl rfl rfl rfl rfl rfl rfl rfl rfl rfl rfl rfl rfl) (.C rfl (.cons (.P rfl) .nil) (.cons rfl (lpE_ren (by decide) rfl rfl rfl rfl rfl rfl) .nil)))))))))))))))) .nil))⟩
 have g1:(k==1)=false:=by simpa using k1
 by_cases k2:k=2
 ·have g2:(k==2)=true:=by simpa using k2
  have e1:notE [.mk k n a o l] γ={ γ with am:=bump a γ.am }:=by simp[notE,eSl,eAr,k2,bumps]
  rw[e1];rcases bump_ways a γ.am with ⟨hf,he,hz⟩|⟨i,u,hi,hf,he,hl,hz⟩
  ·(repeat' ((conv=>whnf);first|refine goA ?_|refine U.SoundAt.body hmixU Tryz.func29 rfl rfl rfl 0 ?_|refine U.SoundAt.body hmixU Tryz.func30 rfl rfl rfl 0 ?_|refine U.onV_p hf ?_|refine U.natC_p ?_|refine goB ?_|refine U.lw_c ?_ ?_<;>intro hb))
   (conv=>whnf);exact ⟨rfl,CovS.of ((Cov.renO (fun k=>k) rfl rfl (bR rfl) (bR rfl) (fun _ _=>rfl) rfl (kp1 (by rfl)) (.W rfl (kwClean) rfl (.C rfl (.K rfl rfl (.K rfl rfl .nil)) (.W rfl (cleanP_cells p) rfl (.C rfl (.cons (rV_ren p) .nil) (.C rfl (.K rfl rfl (.K rfl rfl .nil)) (.cons rfl (RenB.mapE rfl rfl rfl (mE_noNm cleanI _)) (.cons rfl (bump_ren he) (.C rfl (.K rfl rfl (.K rfl rfl (.cons (.mp _ _ (by decide) rfl) (.cons (.mp _ _ (by decide) rfl) .nil)))) (.C rfl (.cons (.P rfl) .nil) (.cons rfl (RenB.mapE rfl rfl rfl (mE_noNm cleanI _)) (.C rfl (.cons (.mp _ _ (by decide) rfl) .nil) (.C rfl (.cons (.S rfl rfl rfl) .nil) (.W rfl (bsL_clean _) rfl (.cons rfl (lpW_ren (by decide) rfl rfl rfl rfl rfl rfl rfl rfl rfl rfl rfl rfl rfl rfl) (.C rfl (.cons (.P rfl) .nil) (.cons rfl (lpE_ren (by decide) rfl rfl rfl rfl rfl rfl) .nil)))))))))))))))) .nil))⟩
  ·(repeat' ((conv=>whnf);first|refine goA ?_|refine U.SoundAt.body hmixU Tryz.func29 rfl rfl rfl 0 ?_|refine U.SoundAt.body hmixU Tryz.func30 rfl rfl rfl 0 ?_|refine U.onV_p hf ?_|refine U.onV_p (nthN_range hi) ?_|refine U.onV_p (idxB_range hi) ?_|refine U.natC_p ?_|refine goB ?_|refine U.lw_c ?_ ?_<;>intro hb))
   (conv=>whnf);exact ⟨rfl,CovS.of ((Cov.renO (fun k=>k) rfl rfl (bR rfl) (bR rfl) (fun _ _=>rfl) rfl (kp1 (by rfl)) (.W rfl (kwClean) rfl (.C rfl (.K rfl rfl (.K rfl rfl .nil)) (.W rfl (cleanP_cells p) rfl (.C rfl (.cons (rV_ren p) .nil) (.C rfl (.K rfl rfl (.K rfl rfl .nil)) (.cons rfl (RenB.mapE rfl rfl rfl (mE_noNm cleanI _)) (.cons rfl (bump_ren2 he hl) (.C rfl (.K rfl rfl (.K rfl rfl (.cons (.mp _ _ (by decide) rfl) (.cons (.mp _ _ (by decide) rfl) .nil)))) (.C rfl (.cons (.P rfl) .nil) (.cons rfl (RenB.mapE rfl rfl rfl (mE_noNm cleanI _)) (.C rfl (.cons (.mp _ _ (by decide) rfl) .nil) (.C rfl (.cons (.S rfl rfl rfl) .nil) (.W rfl (bsL_clean _) rfl (.cons rfl (lpW_ren (by decide) rfl rfl rfl rfl rfl rfl rfl rfl rfl rfl rfl rfl rfl rfl) (.C rfl (.cons (.P rfl) .nil) (.cons rfl (lpE_ren (by decide) rfl rfl rfl rfl rfl rfl) .nil)))))))))))))))) .nil))⟩
 ·have g2:(k==2)=false:=by simpa using k2
  have e1:notE [.mk k n a o l] γ=γ:=by simp[notE,eSl,eAr,k1,k2,bumps]
  rw[e1];(repeat' ((conv=>whnf);first|refine goD ?_|refine U.lw_c ?_ ?_<;>intro hb))
  (conv=>whnf);exact ⟨rfl,CovS.of ((Cov.renO (fun k=>k) rfl rfl (bR rfl) (bR rfl) (fun _ _=>rfl) rfl (kp1 (by rfl)) (.W rfl (kwClean) rfl (.C rfl (.K rfl rfl (.K rfl rfl .nil)) (.W rfl (cleanP_cells p) rfl (.C rfl (.cons (rV_ren p) .nil) (.C rfl (.K rfl rfl (.K rfl rfl .nil)) (.cons rfl (RenB.mapE rfl rfl rfl (mE_noNm cleanI _)) (.cons rfl (RenB.mapE rfl rfl rfl (mE_noNm cleanI _)) (.C rfl (.K rfl rfl (.K rfl rfl (.cons (.mp _ _ (by decide) rfl) (.cons (.mp _ _ (by decide) rfl) .nil)))) (.C rfl (.cons (.P rfl) .nil) (.cons rfl (RenB.mapE rfl rfl rfl (mE_noNm cleanI _)) (.C rfl (.cons (.mp _ _ (by decide) rfl) .nil) (.C rfl (.cons (.S rfl rfl rfl) .nil) (.W rfl (bsL_clean _) rfl (.cons rfl (lpW_ren (by decide) rfl rfl rfl rfl rfl rfl rfl rfl rfl rfl rfl rfl rfl rfl) (.C rfl (.cons (.P rfl) .nil) (.cons rfl (lpE_ren (by decide) rfl rfl rfl rfl rfl rfl) .nil)))))))))))))))) .nil))⟩
theorem bumps_app:∀(a b:List Int) (m:List (Int×Int)),bumps (a++b) m=bumps b (bumps a m)
 |[],b,m=>rfl
 |x::a,b,m=>by rw[List.cons_append,bumps,bumps_app a b,bumps]
theorem notE_app (a b:List Ex) (γ:Ga):notE (a++b) γ=notE b (notE a γ):=by simp[notE,eSl,eAr,List.filterMap_append,bumps_app]
def eAt (A:List Ex) (vs:List Value) (γ:Ga):Ga:=notE (A.take (A.length-vs.length)) γ
theorem eAt_all (A:List Ex) (γ:Ga):eAt A (encEs A) γ=γ:=by
 rw[eAt,encEs_map,List.length_map,Nat.sub_self,List.take_zero];simp[notE,eSl,eAr,bumps]
theorem eAt_nil (A:List Ex) (γ:Ga):eAt A [] γ=notE A γ:=by rw[eAt,List.length_nil,Nat.sub_zero,List.take_length]
theorem eAt_cons {A q1 q:List Ex}{e:Ex}{x:Value}{ts:List Value}(γ:Ga) (hA:A=q1++e::q) (h:q.map encE=ts):eAt A (x::ts) γ=notE q1 γ∧eAt A ts γ=notE [e] (notE q1 γ):=by
 subst hA;subst h;constructor
 ·rw[eAt];simp
 ·rw[eAt,← notE_app];congr 1
  simp only[List.length_append,List.length_cons,List.length_map];rw[show q1.length+(q.length+1)-q.length=q1.length+1 by omega];simp[List.take_append,List.take_of_length_le]
theorem noteR_at (Ts:Nat->TypeId) (p:Pg) (γ:Ga) (s:St) (hs:szS s≤1000) (K:Value->AS->Prop) (hK:K undef (stW2 Ts p rV (noteG rNt s γ) .busy)):SoundAt Tryz.prog 31 [.pointer (some ⟨8,0,none⟩),ptS s] (stW2 Ts p rV γ .busy) K:=by
 refine SoundAt.coverS ?_;refine SoundAt.body hmixU Tryz.func31 rfl rfl rfl 0 ?_;obtain ⟨k,a,xs,th,el,no⟩:=s;(repeat' ((conv=>whnf);first|refine goA ?_|refine U.SoundAt.body hmixU Tryz.func32 rfl rfl rfl 0 ?_|refine goB ?_|refine U.lw_c ?_ ?_<;>intro hb))
 (conv=>whnf);have hxs:szEs xs≤1000:=by rw[szS] at hs;omega
 refine SoundAt.iterQ (l:=20) rfl rfl (exprs_q xs hxs) ⟨.imp _ _ fun c hc=>by
  have hc:c∈[imS (encEs xs)]:=hc;rw[List.mem_singleton] at hc;subst hc;exact cleanEs _,trivial⟩ (fun vs=>stE Ts p (eAt (postEs xs) vs γ)) (fun vs=>∃q:List Ex,vs=encEs q) (fun _:Unit=>stE Ts p γ) (fun _=>False) ⟨postEs xs,rfl⟩ [(0,yl 20),(1,imP (imS (encEs xs)) 0)] ?_ rfl ?_ ?_ ?_ ?_ ?_ ?_ ?_
 ·rw[eAt_all];exact Cov.boxF (fun k=>k) 19 (imS (encEs xs)) (T:=50) (xs:=[imS (encEs xs)]) rfl rfl (bR rfl) (bR rfl) (fun _ _=>rfl) rfl (kp1 (by rfl)) (bR rfl) rfl rfl rfl (by simp) (fun c hc=>by rw[List.mem_singleton] at hc;subst hc;exact cleanEs _) (.W rfl (kwClean) rfl (.C rfl (.K rfl rfl (.K rfl rfl .nil)) (.W rfl (cleanP_cells p) rfl (.C rfl (.cons (rV_ren p) .nil) (.C rfl (.K rfl rfl (.K rfl rfl .nil)) (.cons rfl (RenB.mapE rfl rfl rfl (mE_noNm cleanI _)) (.cons rfl (RenB.mapE rfl rfl rfl (mE_noNm cleanI _)) (.C rfl (.K rfl rfl (.K rfl rfl (.cons (.mp _ _ (by decide) rfl) (.cons (.mp _ _ (by decide) rfl) .nil)))) (.C rfl (.cons (.P rfl) .nil) (.cons rfl (RenB.mapE rfl rfl rfl (mE_noNm cleanI _)) (.C rfl (.cons (.mp _ _ (by decide) rfl) .nil) (.C rfl (.cons (.S rfl rfl rfl) .nil) (.W rfl (bsL_clean _) rfl (.cons rfl (lpW_ren (by decide) rfl rfl rfl rfl rfl rfl rfl rfl rfl rfl rfl rfl rfl rfl) (.C rfl (.cons (.P rfl) .nil) (.cons rfl (lpE_ren (by decide) rfl rfl rfl rfl rfl rfl) .nil)))))))))))))))) (.cons rfl (.yld _ _ (by decide) rfl) (.cons rfl (.ext _ _ ⟨rfl,rfl⟩) .nil))
 ·intro i u hu;rcases i with _|_|i
  ·cases hu;rfl
  ·cases hu;rfl
  ·simp at hu
 ·show 20<21
  decide
 ·intro ts' _
  exact ⟨rfl,rfl,bR rfl,(kp1 (by rfl)),rfl⟩
 ·intro b hb;exact hb.elim
 ·rintro x ts' hsuf ⟨q,hq⟩
  rw[encEs_map] at hsuf;obtain ⟨q1,e,q2,hpq,rfl,hq2⟩:=suffix_map hsuf;obtain ⟨e1,e2⟩:=eAt_cons (x:=encE e) γ hpq hq2;rw[e1,e2];exact (roundE Ts p (notE q1 γ) e).mono fun u t _ h=>.inl ⟨h.1,⟨q2,by rw[encEs_map,hq2]⟩,h.2⟩
 ·intro _;rw[eAt_nil];(repeat' ((conv=>whnf);first|refine goD ?_|refine U.lw_c ?_ ?_<;>intro hb))
  (conv=>whnf);exact ⟨_,CovS.of ((Cov.renO (fun k=>k) rfl rfl (bR rfl) (bR rfl) (fun _ _=>rfl) rfl (kp1 (by rfl)) (.W rfl (kwClean) rfl (.C rfl (.K rfl rfl (.K rfl rfl .nil)) (.W rfl (cleanP_cells p) rfl (.C rfl (.cons (rV_ren p) .nil) (.C rfl (.K rfl rfl (.K rfl rfl .nil)) (.cons rfl (RenB.mapE rfl rfl rfl (mE_noNm cleanI _)) (.cons rfl (RenB.mapE rfl rfl rfl (mE_noNm cleanI _)) (.C rfl (.K rfl rfl (.K rfl rfl (.cons (.mp _ _ (by decide) rfl) (.cons (.mp _ _ (by decide) rfl) .nil)))) (.C rfl (.cons (.P rfl) .nil) (.cons rfl (RenB.mapE rfl rfl rfl (mE_noNm cleanI _)) (.C rfl (.cons (.mp _ _ (by decide) rfl) .nil) (.C rfl (.cons (.S rfl rfl rfl) .nil) (.W rfl (bsL_clean _) rfl (.cons rfl (lpW_ren (by decide) rfl rfl rfl rfl rfl rfl rfl rfl rfl rfl rfl rfl rfl rfl) .nil)))))))))))))) .nil)),hK⟩
 ·intro b hb;exact hb.elim
theorem roundR13 (Ts:Nat->TypeId) (p:Pg) (hpl:p.procs.length≤20) (γ:Ga) (hm:γ.m≤γ.X.length) (hm2:γ.m≤1000) (hv:∀e∈γ.gm,1≤e.2∧e.2≤100000) (s:St) (hs:szS s≤1000):SoundRound Tryz.prog 16 [ptS s] (stW2 Ts p rV γ .ready) fun u t=>u=.bool true∧CovS Tryz.prog 17 t (stW2 Ts p rV (stepG p rNt s γ) .ready):=by
 refine SoundRound.run hmixU 0 ?_;have c0:=stands_d p hpl s hs;have kP:NoNm (.agg ⟨[.int .i64 p.slots,imS (iL p.arrs),imS (inL p.ins),imS (prL p.procs),imS (encSs p.main)]⟩):=cleanP p;have kSp:=cleanPt s
 rcases hb0:standsB p s with _|_
 ·rw[hb0] at c0;have e1:stepG p rNt s γ=γ:=by simp[stepG,hb0]
  rw[e1];obtain ⟨k,a,xs,th,el,no⟩:=s;(repeat' ((conv=>whnf);first|refine goD ?_|refine U.SoundAt.u (c0) clM ?_|refine U.SoundC.u (c0) clM ?_|refine U.lw_c ?_ ?_<;>intro hb))
  (conv=>whnf);exact ⟨rfl,CovS.of ((Cov.renO (fun k=>k) rfl rfl (bR rfl) (bR rfl) (fun _ _=>rfl) rfl (kp1 (by rfl)) (.W rfl (kwClean) rfl (.C rfl (.K rfl rfl (.K rfl rfl .nil)) (.W rfl (cleanP_cells p) rfl (.C rfl (.cons (rV_ren p) .nil) (.C rfl (.K rfl rfl (.K rfl rfl .nil)) (.cons rfl (RenB.mapE rfl rfl rfl (mE_noNm cleanI _)) (.cons rfl (RenB.mapE rfl rfl rfl (mE_noNm cleanI _)) (.C rfl (.K rfl rfl (.K rfl rfl (.cons (.mp _ _ (by decide) rfl) (.cons (.mp _ _ (by decide) rfl) .nil)))) (.C rfl (.cons (.P rfl) .nil) (.cons rfl (RenB.mapE rfl rfl rfl (mE_noNm cleanI _)) (.C rfl (.cons (.mp _ _ (by decide) rfl) .nil) (.C rfl (.cons (.S rfl rfl rfl) .nil) (.W rfl (bsL_clean _) rfl (.cons rfl (lpW_ren (by decide) rfl rfl rfl rfl rfl rfl rfl rfl rfl rfl rfl rfl rfl rfl) .nil)))))))))))))) .nil))⟩
 rw[hb0] at c0;have hgk:∀γ':Ga,stepG p rNt s γ'=if kS s=5 then callG p s (noteG rNt s γ') else noteG rNt s γ':=fun γ'=>by simp[stepG,hb0]
 rw[hgk];clear hgk;obtain ⟨k,a,xs,th,el,no⟩:=s;by_cases k5:k=5
 ·have g5:(k==5)=true:=by simpa using k5
  have g6:(k != 5)=false:=by simp[k5]
  have hja:=stands_call (x:=.mk k a xs th el no) hb0 k5;obtain ⟨j,hj⟩:∃j:Nat,a=j:=⟨a.toNat,by have:=hja.1;show aS (.mk k a xs th el no)=_;have e:aS (.mk k a xs th el no)=a:=rfl;rw[e] at this ⊢;omega⟩
  subst hj;have hjl:j<p.procs.length:=by have h:=hja.2;have e:aS (.mk k (j:Int) xs th el no)=(j:Int):=rfl;rw[e] at h;omega
  clear hja;obtain ⟨y,hy⟩:∃y,p.procs[j]?=some y:=⟨_,List.getElem?_eq_getElem hjl⟩
  have gj3:decide ((j:Int)<((prL p.procs).length:Int))=true:=decide_eq_true (by rw[prL_len];omega)
  have gj4:Nat.blt j (prL p.procs).length=true:=bLe (by rw[prL_len];exact hjl)
  have gj5:nth (prL p.procs) j=some (encPr y):=by rw[nth_eq,prL,List.getElem?_map,hy];rfl
  have hbl:bodyL p (j:Int)=y.body:=by simp[bodyL,hy]
  rw[if_pos (show kS (.mk k (j:Int) xs th el no)=5 from k5)];have haS:aS (.mk k (j:Int) xs th el no)=(j:Int):=rfl;obtain ⟨nm,ps,body⟩:=y;dsimp only at hbl;have kbd:=cleanSs body;obtain ⟨S5,hS5⟩:∃S5,S5=bumps (rNt.sl (.mk k j xs th el no)) γ.sm:=⟨_,rfl⟩
  obtain ⟨A5,hA5⟩:∃A5,A5=bumps (rNt.ar (.mk k j xs th el no)) γ.am:=⟨_,rfl⟩
  have e1:noteG rNt (.mk k j xs th el no) γ={ γ with sm:=S5,am:=A5 }:=by rw[hS5,hA5];rfl
  have hcall:callG p (.mk k (j:Int) xs th el no) { γ with sm:=S5,am:=A5 }=if (j:Int)∈γ.gm.map (·.1) then { γ with sm:=S5,am:=A5,gm:=bump j γ.gm } else pushG body { γ with sm:=S5,am:=A5,gm:=bump j γ.gm }:=by
   rw[callG,haS,hbl]
  have hnote:=fun K hK=>noteR_at Ts p γ (.mk k (j:Int) xs th el no) hs K hK
  rw[e1,hcall];rw[e1] at hnote;clear hcall e1 hS5 hA5;rcases bump_ways (j:Int) γ.gm with ⟨hf,he,hz⟩|⟨i,u,hi,hf,he,hl,hz⟩
  ·rw[if_neg hz];have hf2:findC Tryz.prog 3 (.int .i64) (.int .i64 (j:Int)) (mE (Value.int .i64) (Value.int .i64) γ.gm++[(.int .i64 (j:Int),.int .i64 (IntKind.i64.wrap (0+1)))])=some (some (γ.gm.length,.int .i64 (IntKind.i64.wrap (0+1)))):=by
    have h1:mE (Value.int .i64) (Value.int .i64) γ.gm++[(Value.int .i64 (j:Int),Value.int .i64 (IntKind.i64.wrap (0+1)))]=mE (Value.int .i64) (Value.int .i64) (γ.gm++[((j:Int),(1:Int))]):=mE_snoc γ.gm (j:Int) 1
    rw[h1];exact iK_ok.mid (q:=[]) hz
   have hb8:(Nat.ble ((γ.m+(0+1))*24) 140737488355328&&Nat.ble (γ.m+(0+1)) 1000000)=true:=by
    rw[bLe (by omega),bLe (by omega)];rfl
   rcases Nat.lt_or_ge γ.m γ.X.length with hm1|hm1
   ·have e2:pushG body { γ with sm:=S5,am:=A5,gm:=bump j γ.gm }={ γ with sm:=S5,am:=A5,gm:=bump j γ.gm,X:=γ.X.set γ.m body,m:=γ.m+1 }:=by rw[pushG,if_pos hm1]
    rw[e2];have hq:(γ.m+(0+1)).ble γ.X.length=true:=bLe (by omega)
    have hst4:∀v:Value,γ.m*(0+1)+[v].length≤(bsL γ.X).length:=fun v=>by rw[bsL_len,List.length_singleton];omega
    have es4:=bs_store (b:=body) hm1;(repeat' ((conv=>whnf);first|refine goA ?_|refine hnote _ ?_|refine U.onV_p hf ?_|refine U.onV_p hf2 ?_|refine U.natC_p ?_|rw[hq]|refine U.ob_c hb8 ?_|refine U.storeC_p (hst4 _) ?_|refine goB ?_|refine U.SoundAt.u (c0) clM ?_|refine U.SoundC.u (c0) clM ?_|refine U.drawX_p (D:=U.propX) 7 [] (by decide +kernel) (by decide +kernel) ?_|refine U.drawX_p (D:=U.propX) 11 [] (by decide +kernel) (by decide +kernel) ?_|refine U.lw_c ?_ ?_<;>intro hb))
    (conv=>whnf);exact ⟨rfl,CovS.of ((Cov.renO (fun k=>k) rfl rfl (bR rfl) (bR rfl) (fun _ _=>rfl) rfl (kp1 (by rfl)) (.W rfl (kwClean) rfl (.C rfl (.K rfl rfl (.K rfl rfl .nil)) (.W rfl (cleanP_cells p) rfl (.C rfl (.cons (rV_ren p) .nil) (.C rfl (.K rfl rfl (.K rfl rfl .nil)) (.cons rfl (RenB.mapE rfl rfl rfl (mE_noNm cleanI _)) (.cons rfl (RenB.mapE rfl rfl rfl (mE_noNm cleanI _)) (.C rfl (.K rfl rfl (.K rfl rfl (.cons (.mp _ _ (by decide) rfl) (.cons (.mp _ _ (by decide) rfl) .nil)))) (.C rfl (.cons (.P rfl) .nil) (.cons rfl (bump_ren he) (.C rfl (.cons (.mp _ _ (by decide) rfl) .nil) (.C rfl (.cons (.sl _ _ _ _ _ _ _ (by decide) rfl rfl (by simp)) .nil) (.W rfl (bsL_clean _) (es4.symm) (.cons rfl (lpW_ren (by decide) rfl rfl rfl rfl rfl rfl rfl rfl rfl rfl rfl rfl rfl rfl) .nil)))))))))))))) .nil))⟩
   ·have hXm:γ.X.length=γ.m:=by omega
    have e2:pushG body { γ with sm:=S5,am:=A5,gm:=bump j γ.gm }={ γ with sm:=S5,am:=A5,gm:=bump j γ.gm,X:=γ.X++[body],m:=γ.m+1,op:=true }:=by rw[pushG,if_neg (by dsimp only;omega)]
    rw[e2];have hq:(γ.m+(0+1)).ble γ.X.length=false:=by rw[hXm];exact U.ble_f γ.m
    have hyl2:(bsL γ.X).length=γ.m*(0+1):=by rw[bsL_len];omega
    have hgr2:=bs_app γ.X body;obtain ⟨sm,am,gm,X,m,op⟩:=γ;dsimp only at *;subst hXm;have hyl3:=hyl2;cases op
    ·(repeat' ((conv=>whnf);first|refine goA ?_|refine hnote _ ?_|refine U.onV_p hf ?_|refine U.onV_p hf2 ?_|refine U.natC_p ?_|refine U.ob_c hb8 ?_|(rw[hq];dsimp only;refine U.takeRowX_p (vs:=bsL X) (by rw[hyl2];omega) (by rw[List.drop_zero,← hyl2,List.take_length]) ?_)|refine U.catC_p ?_|refine goB ?_|refine U.SoundAt.u (c0) clM ?_|refine U.SoundC.u (c0) clM ?_|refine U.drawX_p (D:=U.propX) 7 [] (by decide +kernel) (by decide +kernel) ?_|refine U.drawX_p (D:=U.propX) 11 [] (by decide +kernel) (by decide +kernel) ?_|refine U.lw_c ?_ ?_<;>intro hb))
     (conv=>whnf);exact ⟨rfl,CovS.of ((Cov.renO (fun k=>if k=17 then 19 else k) rfl rfl (bR rfl) (bR rfl) (fun k hk=>by have:k<17:=hk;rw[if_neg (by omega)]) rfl (kp1 (by rfl)) (.W rfl (kwClean) rfl (.C rfl (.K rfl rfl (.K rfl rfl .nil)) (.W rfl (cleanP_cells p) rfl (.C rfl (.cons (rV_ren p) .nil) (.C rfl (.K rfl rfl (.K rfl rfl .nil)) (.cons rfl (RenB.mapE rfl rfl rfl (mE_noNm cleanI _)) (.cons rfl (RenB.mapE rfl rfl rfl (mE_noNm cleanI _)) (.C rfl (.K rfl rfl (.K rfl rfl (.cons (.mp _ _ (by decide) rfl) (.cons (.mp _ _ (by decide) rfl) .nil)))) (.C rfl (.cons (.P rfl) .nil) (.cons rfl (bump_ren he) (.C rfl (.cons (.mp _ _ (by decide) rfl) .nil) (.C rfl (.cons (.sl _ _ _ _ _ _ _ (by decide) rfl rfl (by simp)) .nil) (.W rfl (bsL_clean _) (hgr2) (.cons rfl (lpW_ren (by decide) rfl rfl rfl rfl rfl rfl rfl rfl rfl rfl rfl rfl rfl rfl) .nil)))))))))))))) .nil))⟩
    ·(repeat' ((conv=>whnf);first|refine goA ?_|refine hnote _ ?_|refine U.onV_p hf ?_|refine U.onV_p hf2 ?_|refine U.natC_p ?_|refine U.ob_c hb8 ?_|(rw[hq];dsimp only;refine U.growRow_p hyl2 rfl ?_)|refine goB ?_|refine U.SoundAt.u (c0) clM ?_|refine U.SoundC.u (c0) clM ?_|refine U.drawX_p (D:=U.propX) 7 [] (by decide +kernel) (by decide +kernel) ?_|refine U.drawX_p (D:=U.propX) 11 [] (by decide +kernel) (by decide +kernel) ?_|refine U.lw_c ?_ ?_<;>intro hb))
     (conv=>whnf);exact ⟨rfl,CovS.of ((Cov.renO (fun k=>if k=17 then 19 else k) rfl rfl (bR rfl) (bR rfl) (fun k hk=>by have:k<17:=hk;rw[if_neg (by omega)]) rfl (kp1 (by rfl)) (.W rfl (kwClean) rfl (.C rfl (.K rfl rfl (.K rfl rfl .nil)) (.W rfl (cleanP_cells p) rfl (.C rfl (.cons (rV_ren p) .nil) (.C rfl (.K rfl rfl (.K rfl rfl .nil)) (.cons rfl (RenB.mapE rfl rfl rfl (mE_noNm cleanI _)) (.cons rfl (RenB.mapE rfl rfl rfl (mE_noNm cleanI _)) (.C rfl (.K rfl rfl (.K rfl rfl (.cons (.mp _ _ (by decide) rfl) (.cons (.mp _ _ (by decide) rfl) .nil)))) (.C rfl (.cons (.P rfl) .nil) (.cons rfl (bump_ren he) (.C rfl (.cons (.mp _ _ (by decide) rfl) .nil) (.C rfl (.cons (.sl _ _ _ _ _ _ _ (by decide) rfl rfl (by simp)) .nil) (.W rfl (bsL_clean _) (hgr2) (.cons rfl (lpW_ren (by decide) rfl rfl rfl rfl rfl rfl rfl rfl rfl rfl rfl rfl rfl rfl) .nil)))))))))))))) .nil))⟩
  ·have hmem:(j:Int)∈γ.gm.map (·.1):=List.mem_map.2 ⟨_,hz,rfl⟩
   rw[if_pos hmem];obtain ⟨hv1,hv2⟩:=hv _ hz;have hf2:findC Tryz.prog 3 (.int .i64) (.int .i64 (j:Int)) (setL (mE (Value.int .i64) (Value.int .i64) γ.gm) i (.int .i64 (j:Int),.int .i64 (IntKind.i64.wrap (u+1))))=some (some (i,.int .i64 (IntKind.i64.wrap (u+1)))):=bump_find hf he
   have hne:(IntKind.i64.wrap (u+1)==1)=false:=by
    rw[wid (by omega) (by omega)];simp;omega
   (repeat' ((conv=>whnf);first|refine goA ?_|refine hnote _ ?_|refine U.onV_p hf ?_|refine U.onV_p hf2 ?_|refine U.onV_p (nthN_range hi) ?_|refine U.onV_p (idxB_range hi) ?_|refine U.natC_p ?_|refine goB ?_|refine U.SoundAt.u (c0) clM ?_|refine U.SoundC.u (c0) clM ?_|refine U.drawX_p (D:=U.propX) 7 [] (by decide +kernel) (by decide +kernel) ?_|refine U.drawX_p (D:=U.propX) 11 [] (by decide +kernel) (by decide +kernel) ?_|refine U.lw_c ?_ ?_<;>intro hb))
   (conv=>whnf);exact ⟨rfl,CovS.of ((Cov.renO (fun k=>k) rfl rfl (bR rfl) (bR rfl) (fun _ _=>rfl) rfl (kp1 (by rfl)) (.W rfl (kwClean) rfl (.C rfl (.K rfl rfl (.K rfl rfl .nil)) (.W rfl (cleanP_cells p) rfl (.C rfl (.cons (rV_ren p) .nil) (.C rfl (.K rfl rfl (.K rfl rfl .nil)) (.cons rfl (RenB.mapE rfl rfl rfl (mE_noNm cleanI _)) (.cons rfl (RenB.mapE rfl rfl rfl (mE_noNm cleanI _)) (.C rfl (.K rfl rfl (.K rfl rfl (.cons (.mp _ _ (by decide) rfl) (.cons (.mp _ _ (by decide) rfl) .nil)))) (.C rfl (.cons (.P rfl) .nil) (.cons rfl (bump_ren2 he hl) (.C rfl (.cons (.mp _ _ (by decide) rfl) .nil) (.C rfl (.cons (.S rfl rfl rfl) .nil) (.W rfl (bsL_clean _) rfl (.cons rfl (lpW_ren (by decide) rfl rfl rfl rfl rfl rfl rfl rfl rfl rfl rfl rfl rfl rfl) .nil)))))))))))))) .nil))⟩
 ·have g5:(k==5)=false:=by simpa using k5
  have g6:(k != 5)=true:=by simp[k5]
  rw[if_neg (show ¬kS (.mk k a xs th el no)=5 from k5)];(repeat' ((conv=>whnf);first|refine goA ?_|refine noteR_at Ts p _ _ hs _ ?_|refine goB ?_|refine U.SoundAt.u (c0) clM ?_|refine U.SoundC.u (c0) clM ?_|refine U.drawX_p (D:=U.propX) 7 [] (by decide +kernel) (by decide +kernel) ?_|refine U.drawX_p (D:=U.propX) 11 [] (by decide +kernel) (by decide +kernel) ?_|refine U.lw_c ?_ ?_<;>intro hb))
  (conv=>whnf);exact ⟨rfl,CovS.of ((Cov.renO (fun k=>k) rfl rfl (bR rfl) (bR rfl) (fun _ _=>rfl) rfl (kp1 (by rfl)) (.W rfl (kwClean) rfl (.C rfl (.K rfl rfl (.K rfl rfl .nil)) (.W rfl (cleanP_cells p) rfl (.C rfl (.cons (rV_ren p) .nil) (.C rfl (.K rfl rfl (.K rfl rfl .nil)) (.cons rfl (RenB.mapE rfl rfl rfl (mE_noNm cleanI _)) (.cons rfl (RenB.mapE rfl rfl rfl (mE_noNm cleanI _)) (.C rfl (.K rfl rfl (.K rfl rfl (.cons (.mp _ _ (by decide) rfl) (.cons (.mp _ _ (by decide) rfl) .nil)))) (.C rfl (.cons (.P rfl) .nil) (.cons rfl (RenB.mapE rfl rfl rfl (mE_noNm cleanI _)) (.C rfl (.cons (.mp _ _ (by decide) rfl) .nil) (.C rfl (.cons (.S rfl rfl rfl) .nil) (.W rfl (bsL_clean _) rfl (.cons rfl (lpW_ren (by decide) rfl rfl rfl rfl rfl rfl rfl rfl rfl rfl rfl rfl rfl rfl) .nil)))))))))))))) .nil))⟩
def SetP (p:Pg) (nt:Nt) (l:List St) (x:List Int×List Int):Prop:=(Ris x.1∧∀z,z∈x.1↔InS p nt.sl (allSs l) z)∧(Ris x.2∧∀z,z∈x.2↔InS p nt.ar (allSs l) z)
noncomputable def setU (p:Pg) (nt:Nt) (l:List St):List Int×List Int:=if rightP p=true then Classical.epsilon (SetP p nt l) else ([],[])
theorem setU_eq {p:Pg}{nt:Nt}{l:List St}(hr:rightP p=true) {x:List Int×List Int}(h:SetP p nt l x):x=setU p nt l:=by
 rw[setU,if_pos hr];have h2:SetP p nt l (Classical.epsilon (SetP p nt l)):=Classical.epsilon_spec ⟨x,h⟩;exact Prod.ext (ris_ext h.1.1 h2.1.1 fun z=>(h.1.2 z).trans (h2.1.2 z).symm) (ris_ext h.2.1 h2.2.1 fun z=>(h.2.2 z).trans (h2.2.2 z).symm)
theorem setU_no {p:Pg}{nt:Nt}{l:List St}(hr:rightP p=false):setU p nt l=([],[]):=by rw[setU,if_neg (by rw[hr];simp)]
def setV (x:List Int×List Int):Value:=.agg ⟨[imS (iL x.1),imS (iL x.2)]⟩
theorem kSet (x:List Int×List Int):NoNm (setV x):=.agg _ fun y hy=>by
 have hy:y∈[imS (iL x.1),imS (iL x.2)]:=hy;simp only[List.mem_cons,List.not_mem_nil,or_false] at hy;rcases hy with rfl|rfl
 ·exact cleanIL _
 ·exact cleanIL _
theorem writes_d (p:Pg) (hf:FewP p) (l:List St) (hl:szSs l≤900):DenU Tryz.prog kwT 8 [encP p,imS (encSs l)] (setV (setU p (wNt p) l)):=by
 refine denU_of_soundT kw_ok fun Ts=>SoundAt.body hmixU Tryz.func8 rfl rfl rfl 0 ?_
 have kP:=cleanP p;have kl:=cleanSs l;have fp:=hf.procs;have hG:=gather_at Ts p hf (wNt p) (ntW p hf.ps) 28 [imP (encP p) 0] (fun n ρ=>.cons (.clean _ _ (.imp _ _ (cleanP_cells p)) rfl) .nil) (fun γ h1 h2 h3 s hs=>roundW Ts p fp hf.ps γ h1 h2 h3 s hs) l hl
 (repeat' ((conv=>whnf);first|refine goD ?_|refine U.lw_c ?_ ?_<;>intro hb))
 (conv=>whnf);refine SoundAt.cov (args1:=[encP p,imS (encSs l),gF 28 [imP (encP p) 0]]) [(0,encP p),(1,imS (encSs l)),(2,wV p)] (Cov.boxF (hl:=[(0,kwBlk Ts),(2,some (.cells 37 [.slice none 0 0,.slice none 0 0] false))]) (n:=3) (lo:=1) (glb:=1) (fun k=>k) 1 (encP p) (T:=27) (xs:=cellsOf (encP p)) rfl rfl (bR rfl) (bR rfl) (fun _ _=>rfl) rfl (kp1 (by rfl)) (bR rfl) rfl rfl rfl (by simp[encP,cellsOf]) (cleanP_cells p) (.W rfl (kwClean) rfl (.C rfl (.K rfl rfl (.K rfl rfl .nil)) .nil)) (.L rfl (kP) rfl (.L rfl (kl) rfl (.cons rfl (RenV.fnL .nil (.cons (.ext _ _ ⟨rfl,rfl⟩) .nil)) .nil)))) rfl (fun i u h=>by
  rcases i with _|_|_|i
  ·cases h;rfl
  ·cases h;rfl
  ·cases h;rfl
  ·simp at h) ?_
 refine hG _ (fun hr=>?_) (fun hr S A hS hA=>?_)
 ·rw[setU_no hr];(repeat' ((conv=>whnf);first|refine goD ?_|refine U.lw_c ?_ ?_<;>intro hb))
  (conv=>whnf);exact .aggL (.cons .nil (.cons .nil .nil))
 ·rw[← setU_eq hr (x:=(S,A)) ⟨hS,hA⟩];(repeat' ((conv=>whnf);first|refine goD ?_|refine U.lw_c ?_ ?_<;>intro hb))
  (conv=>whnf);exact .same (kSet (S,A)) rfl
theorem reads_d (p:Pg) (hf:FewP p) (l:List St) (hl:szSs l≤900):DenU Tryz.prog kwT 9 [encP p,imS (encSs l)] (setV (setU p rNt l)):=by
 refine denU_of_soundT kw_ok fun Ts=>SoundAt.body hmixU Tryz.func9 rfl rfl rfl 0 ?_
 have kP:=cleanP p;have kl:=cleanSs l;have fp:=hf.procs;have hG:=gather_at Ts p hf rNt (ntR p) 31 [] (fun n ρ=>.nil) (fun γ h1 h2 h3 s hs=>roundR13 Ts p fp γ h1 h2 h3 s hs) l hl
 (repeat' ((conv=>whnf);first|refine goD ?_|refine U.lw_c ?_ ?_<;>intro hb))
 (conv=>whnf);refine SoundAt.cov (args1:=[encP p,imS (encSs l),gF 31 []]) [(0,encP p),(1,imS (encSs l)),(2,rV)] ((Cov.renO (fun k=>k) rfl rfl (bR rfl) (bR rfl) (fun _ _=>rfl) rfl (kp1 (by rfl)) (.W rfl (kwClean) rfl (.C rfl (.K rfl rfl (.K rfl rfl .nil)) .nil)) (.L rfl (kP) rfl (.L rfl (kl) rfl (.cons rfl (RenV.fnL .nil .nil) .nil)))):Cov _ _ _ _ _ _ (stG0 Ts)) rfl (fun i u h=>by
  rcases i with _|_|_|i
  ·cases h;rfl
  ·cases h;rfl
  ·cases h;rfl
  ·simp at h) ?_
 refine hG _ (fun hr=>?_) (fun hr S A hS hA=>?_)
 ·rw[setU_no hr];(repeat' ((conv=>whnf);first|refine goD ?_|refine U.lw_c ?_ ?_<;>intro hb))
  (conv=>whnf);exact .aggL (.cons .nil (.cons .nil .nil))
 ·rw[← setU_eq hr (x:=(S,A)) ⟨hS,hA⟩];(repeat' ((conv=>whnf);first|refine goD ?_|refine U.lw_c ?_ ?_<;>intro hb))
  (conv=>whnf);exact .same (kSet (S,A)) rfl
end Go.Proofs.YtocppbocphnbcaaGreatDoor
