
import Derived.Test.YtcihknonfcldeaaDoorKT38
namespace Go.Proofs.YtcihknonfcldeaaDoor
open Go Go.RowKit Go.Sort U
set_option linter.unusedVariables false
set_option linter.unusedSimpArgs false
set_option maxRecDepth 100000
set_option maxHeartbeats 40000000
abbrev cloB (l:List EnD) (b:Nat):Value:=.func (.func 38) ⟨[]⟩ ⟨[imP (nmV l) 0,.pointer (some ⟨b,0,none⟩)]⟩
theorem cleanNB (l:List EnD):NoNm (imP (nmV l) 0):=.imp _ _ fun c hc=>by
 have hc:c∈[nmV l]:=hc;rw[List.mem_singleton] at hc;subst hc;exact cleanNm l
theorem renClo {n:Nat}{ρ:Ren}{b b':Nat}(l:List EnD) (hb:b<n) (e:ρ b=b'):RenV n ρ (cloB l b) (cloB l b'):=by
 refine .fn _ _ _ _ _ rfl rfl (fun i u v hu hv=>by simp at hu) fun i u v hu hv=>?_
 rcases i with _|_|i
 ·simp at hu hv;subst hu;subst hv;exact .clean _ _ (cleanNB l) rfl
 ·simp at hu hv;subst hu;subst hv;exact .ptr _ _ _ hb e
 ·simp at hu
noncomputable abbrev stEx:AS:=⟨mkO [(0,some (.cells 33 z3 false))],1,0,0⟩
theorem exprs_b (l:List EnD) (node:Int) (hm:(flE l).mp.length≤300) (hl:l.length≤300) (hn:NoOk l):∀(N:Nat) (xs:List AE),szAs xs≤N->szAs xs≤1000->DenB Tryd.prog 56 [.int .i64 node,imS (encAs xs),cloB l 0] 33 z3 (LX (exEs l node xs))
 |N,xs,hN,h1000=>by
  refine ⟨by simp[flat1],SoundAt.body hmixU Tryd.func56 rfl rfl rfl 0 ?_⟩
  have hlen:xs.length≤1000:=Nat.le_trans (szAs_len xs) h1000;(repeat' ((conv=>whnf);first|refine goD ?_|refine U.lw_c ?_ ?_<;>intro hb))
  (conv=>whnf);refine loop_inv (α:=List AE×List AE) (fun x=>x.1++x.2=xs∧exEs l node x.1=none) (fun x=>(mkF [(0,.int .i64 node),(2,cloB l 0),(9,imS (encAs xs)),(10,.int .i64 (encAs xs).length),(11,.int .i64 x.1.length)],stEx)) (fun x=>x.2.length) ([],xs) ⟨rfl,by first|rw[exEs]|rw[exTs]⟩ (Cov.renI rfl rfl rfl rfl (.C rfl (.K rfl rfl (.K rfl rfl (.K rfl rfl .nil))) .nil) (.cons rfl .I (.cons rfl (renClo l (by decide) rfl) (.L rfl (cleanAs _) rfl (.cons rfl .I (.cons rfl .I .nil)))))) ?_
  rintro ⟨pre,rest⟩ ⟨p1,p2⟩
  dsimp only at p1 p2;subst p1;rcases rest with _|⟨e,rest⟩
  ·rw[List.append_nil] at *;have zb:=U.lt_no encAs_map pre;(repeat' ((conv=>whnf);first|refine goD ?_|refine U.lw_c ?_ ?_<;>intro hb))
   (conv=>whnf);exact lqT p2 rfl
  ·have zb:=U.lt_yes encAs_map pre (e) rest;have zc:=U.blt_yes encAs_map pre (e) rest;have zn:=U.nth_at encAs_map pre (e) rest;have zw:=U.len_snoc (pre:=pre) (x:=e) (post:=rest) ((by omega))
   obtain ⟨k,n,nm,o,ls,ln,cl⟩:=e;have hsz:szAs ls+1≤szAs (pre++AE.mk k n nm o ls ln cl::rest):=by
    have h:=szAs_mem (l:=pre++AE.mk k n nm o ls ln cl::rest) (e:=AE.mk k n nm o ls ln cl) (by simp)
    rw[szA] at h;exact h
   have hN0:0<N:=by omega
   have kl:=cleanAs ls;have c1:=exprs_b l node hm hl hn (N-1) ls (by omega) (by omega)
   by_cases k1:k=1
   ·have g1:(k==1)=true:=by simpa using k1
    have q1:=look_b l node nm 1 0 ln cl hm hl hn (.inl rfl);(repeat' ((conv=>whnf);first|refine goA ?_|(refine U.SoundAt.wrK (q1) 0 rfl zL zL rfl (.K rfl rfl (.L (cleanNB l) rfl (.cons (.P rfl) .nil))) ?_;rintro _ _ (⟨hlk,rfl,rfl⟩|⟨aa,bb,ee,he,rfl,rfl⟩))|(refine U.SoundAt.wrK (c1) 0 rfl zL zL rfl (.K rfl rfl (.L kl rfl (.cons (renClo l (by decide) rfl) .nil))) ?_;rintro _ _ (⟨hg,rfl,rfl⟩|⟨aa,bb,ee,he,rfl,rfl⟩))|refine goB ?_|refine U.lw_c ?_ ?_<;>intro hb))
    all_goals (conv=>whnf)
    all_goals first
     |exact lqF (by simp[exEs_app,exEs,exE,orE, *]) rfl
     |exact ⟨(pre++[AE.mk k n nm o ls ln cl],rest),⟨by simp,by simp[exEs_app,exEs,exE,orE, *]⟩,by simp,(Cov.renI rfl rfl rfl rfl (.C rfl (.K rfl rfl (.K rfl rfl (.K rfl rfl .nil))) .nil) (.cons rfl .I (.cons rfl (renClo l (by decide) rfl) (.L rfl (cleanAs _) rfl (.cons rfl .I (.L rfl (cleanI _) (congrArg (Value.int .i64) (zw.symm)) .nil))))))⟩
   ·have g1:(k==1)=false:=by simpa using k1
    by_cases k2:k=2
    ·have g2:(k==2)=true:=by simpa using k2
     have q2:=look_b l node nm 2 0 ln cl hm hl hn (.inr (.inl rfl));(repeat' ((conv=>whnf);first|refine goA ?_|(refine U.SoundAt.wrK (q2) 0 rfl zL zL rfl (.K rfl rfl (.L (cleanNB l) rfl (.cons (.P rfl) .nil))) ?_;rintro _ _ (⟨hlk,rfl,rfl⟩|⟨aa,bb,ee,he,rfl,rfl⟩))|(refine U.SoundAt.wrK (c1) 0 rfl zL zL rfl (.K rfl rfl (.L kl rfl (.cons (renClo l (by decide) rfl) .nil))) ?_;rintro _ _ (⟨hg,rfl,rfl⟩|⟨aa,bb,ee,he,rfl,rfl⟩))|refine goB ?_|refine U.lw_c ?_ ?_<;>intro hb))
     all_goals (conv=>whnf)
     all_goals first
      |exact lqF (by simp[exEs_app,exEs,exE,orE, *]) rfl
      |exact ⟨(pre++[AE.mk k n nm o ls ln cl],rest),⟨by simp,by simp[exEs_app,exEs,exE,orE, *]⟩,by simp,(Cov.renI rfl rfl rfl rfl (.C rfl (.K rfl rfl (.K rfl rfl (.K rfl rfl .nil))) .nil) (.cons rfl .I (.cons rfl (renClo l (by decide) rfl) (.L rfl (cleanAs _) rfl (.cons rfl .I (.L rfl (cleanI _) (congrArg (Value.int .i64) (zw.symm)) .nil))))))⟩
    ·have g2:(k==2)=false:=by simpa using k2
     (repeat' ((conv=>whnf);first|refine goA ?_|(refine U.SoundAt.wrK (c1) 0 rfl zL zL rfl (.K rfl rfl (.L kl rfl (.cons (renClo l (by decide) rfl) .nil))) ?_;rintro _ _ (⟨hg,rfl,rfl⟩|⟨aa,bb,ee,he,rfl,rfl⟩))|refine goB ?_|refine U.lw_c ?_ ?_<;>intro hb))
     all_goals (conv=>whnf)
     all_goals first
      |exact lqF (by simp[exEs_app,exEs,exE,orE, *]) rfl
      |exact ⟨(pre++[AE.mk k n nm o ls ln cl],rest),⟨by simp,by simp[exEs_app,exEs,exE,orE, *]⟩,by simp,(Cov.renI rfl rfl rfl rfl (.C rfl (.K rfl rfl (.K rfl rfl (.K rfl rfl .nil))) .nil) (.cons rfl .I (.cons rfl (renClo l (by decide) rfl) (.L rfl (cleanAs _) rfl (.cons rfl .I (.L rfl (cleanI _) (congrArg (Value.int .i64) (zw.symm)) .nil))))))⟩
termination_by N=>N
decreasing_by all_goals omega
theorem stmts_b (l:List EnD) (node:Int) (hm:(flE l).mp.length≤300) (hl:l.length≤300) (hn:NoOk l):∀(N:Nat) (ts:List AS6),szTs ts≤N->szTs ts≤1000->DenB Tryd.prog 39 [.int .i64 node,imS (encTs ts),cloB l 0] 33 z3 (LX (exTs l node ts))
 |N,ts,hN,h1000=>by
  refine ⟨by simp[flat1],SoundAt.body hmixU Tryd.func39 rfl rfl rfl 0 ?_⟩
  have hlen:ts.length≤1000:=Nat.le_trans (szTs_len ts) h1000;(repeat' ((conv=>whnf);first|refine goD ?_|refine U.lw_c ?_ ?_<;>intro hb))
  (conv=>whnf);refine loop_inv (α:=List AS6×List AS6) (fun x=>x.1++x.2=ts∧exTs l node x.1=none) (fun x=>(mkF [(0,.int .i64 node),(2,cloB l 0),(10,imS (encTs ts)),(11,.int .i64 (encTs ts).length),(12,.int .i64 x.1.length)],stEx)) (fun x=>x.2.length) ([],ts) ⟨rfl,by first|rw[exEs]|rw[exTs]⟩ (Cov.renI rfl rfl rfl rfl (.C rfl (.K rfl rfl (.K rfl rfl (.K rfl rfl .nil))) .nil) (.cons rfl .I (.cons rfl (renClo l (by decide) rfl) (.L rfl (cleanT6s _) rfl (.cons rfl .I (.cons rfl .I .nil)))))) ?_
  rintro ⟨pre,rest⟩ ⟨p1,p2⟩
  dsimp only at p1 p2;subst p1;rcases rest with _|⟨e,rest⟩
  ·rw[List.append_nil] at *;have zb:=U.lt_no encTs_map pre;(repeat' ((conv=>whnf);first|refine goD ?_|refine U.lw_c ?_ ?_<;>intro hb))
   (conv=>whnf);exact lqT p2 rfl
  ·have zb:=U.lt_yes encTs_map pre (e) rest;have zc:=U.blt_yes encTs_map pre (e) rest;have zn:=U.nth_at encTs_map pre (e) rest;have zw:=U.len_snoc (pre:=pre) (x:=e) (post:=rest) ((by omega))
   obtain ⟨k,nm,xs,th,el,ln,cl⟩:=e;have hsz:szAs xs+szTs th+szTs el+1≤szTs (pre++AS6.mk k nm xs th el ln cl::rest):=by
    have h:=szTs_mem (l:=pre++AS6.mk k nm xs th el ln cl::rest) (e:=AS6.mk k nm xs th el ln cl) (by simp)
    rw[szT] at h;exact h
   have hN0:0<N:=by omega
   have kx:=cleanAs xs;have kt:=cleanT6s th;have ke:=cleanT6s el;have c1:=exprs_b l node hm hl hn 1000 xs (by omega) (by omega)
   have c2:=stmts_b l node hm hl hn (N-1) th (by omega) (by omega)
   have c3:=stmts_b l node hm hl hn (N-1) el (by omega) (by omega)
   by_cases k0:k=0
   ·have g0:(k==0)=true:=by simpa using k0
    have g1:(k==1)=false:=by rw[k0];rfl
    have g5:(k==5)=false:=by rw[k0];rfl
    have q1:=look_b l node nm 1 (encAs xs).length ln cl hm hl hn (.inl rfl);(repeat' ((conv=>whnf);first|refine goA ?_|(refine U.SoundAt.wrK (q1) 0 rfl zL zL rfl (.K rfl rfl (.L (cleanNB l) rfl (.cons (.P rfl) .nil))) ?_;rintro _ _ (⟨hlk,rfl,rfl⟩|⟨aa,bb,ee,he,rfl,rfl⟩))|(refine U.SoundAt.wrK (c1) 0 rfl zL zL rfl (.K rfl rfl (.L kx rfl (.cons (renClo l (by decide) rfl) .nil))) ?_;rintro _ _ (⟨h1g,rfl,rfl⟩|⟨aa,bb,ee,he,rfl,rfl⟩))|(refine U.SoundAt.wrK (c2) 0 rfl zL zL rfl (.K rfl rfl (.L kt rfl (.cons (renClo l (by decide) rfl) .nil))) ?_;rintro _ _ (⟨h2g,rfl,rfl⟩|⟨aa,bb,ee,he,rfl,rfl⟩))|(refine U.SoundAt.wrK (c3) 0 rfl zL zL rfl (.K rfl rfl (.L ke rfl (.cons (renClo l (by decide) rfl) .nil))) ?_;rintro _ _ (⟨h3g,rfl,rfl⟩|⟨aa,bb,ee,he,rfl,rfl⟩))|refine goB ?_|refine U.lw_c ?_ ?_<;>intro hb))
    all_goals (conv=>whnf)
    all_goals first
     |exact lqF (by simp[exTs_app,exTs,exT,orE, *]) rfl
     |exact ⟨(pre++[AS6.mk k nm xs th el ln cl],rest),⟨by simp,by simp[exTs_app,exTs,exT,orE, *]⟩,by simp,(Cov.renI rfl rfl rfl rfl (.C rfl (.K rfl rfl (.K rfl rfl (.K rfl rfl .nil))) .nil) (.cons rfl .I (.cons rfl (renClo l (by decide) rfl) (.L rfl (cleanT6s _) rfl (.cons rfl .I (.L rfl (cleanI _) (congrArg (Value.int .i64) (zw.symm)) .nil))))))⟩
   ·have g0:(k==0)=false:=by simpa using k0
    by_cases k1:k=1
    ·have g1:(k==1)=true:=by simpa using k1
     have g5:(k==5)=false:=by rw[k1];rfl
     have q1:=look_b l node nm 2 (encAs xs).length ln cl hm hl hn (.inr (.inl rfl));(repeat' ((conv=>whnf);first|refine goA ?_|(refine U.SoundAt.wrK (q1) 0 rfl zL zL rfl (.K rfl rfl (.L (cleanNB l) rfl (.cons (.P rfl) .nil))) ?_;rintro _ _ (⟨hlk,rfl,rfl⟩|⟨aa,bb,ee,he,rfl,rfl⟩))|(refine U.SoundAt.wrK (c1) 0 rfl zL zL rfl (.K rfl rfl (.L kx rfl (.cons (renClo l (by decide) rfl) .nil))) ?_;rintro _ _ (⟨h1g,rfl,rfl⟩|⟨aa,bb,ee,he,rfl,rfl⟩))|(refine U.SoundAt.wrK (c2) 0 rfl zL zL rfl (.K rfl rfl (.L kt rfl (.cons (renClo l (by decide) rfl) .nil))) ?_;rintro _ _ (⟨h2g,rfl,rfl⟩|⟨aa,bb,ee,he,rfl,rfl⟩))|(refine U.SoundAt.wrK (c3) 0 rfl zL zL rfl (.K rfl rfl (.L ke rfl (.cons (renClo l (by decide) rfl) .nil))) ?_;rintro _ _ (⟨h3g,rfl,rfl⟩|⟨aa,bb,ee,he,rfl,rfl⟩))|refine goB ?_|refine U.lw_c ?_ ?_<;>intro hb))
     all_goals (conv=>whnf)
     all_goals first
      |exact lqF (by simp[exTs_app,exTs,exT,orE, *]) rfl
      |exact ⟨(pre++[AS6.mk k nm xs th el ln cl],rest),⟨by simp,by simp[exTs_app,exTs,exT,orE, *]⟩,by simp,(Cov.renI rfl rfl rfl rfl (.C rfl (.K rfl rfl (.K rfl rfl (.K rfl rfl .nil))) .nil) (.cons rfl .I (.cons rfl (renClo l (by decide) rfl) (.L rfl (cleanT6s _) rfl (.cons rfl .I (.L rfl (cleanI _) (congrArg (Value.int .i64) (zw.symm)) .nil))))))⟩
    ·have g1:(k==1)=false:=by simpa using k1
     by_cases k5:k=5
     ·have g5:(k==5)=true:=by simpa using k5
      have q1:=look_b l node nm 3 (encAs xs).length ln cl hm hl hn (.inr (.inr rfl));(repeat' ((conv=>whnf);first|refine goA ?_|(refine U.SoundAt.wrK (q1) 0 rfl zL zL rfl (.K rfl rfl (.L (cleanNB l) rfl (.cons (.P rfl) .nil))) ?_;rintro _ _ (⟨hlk,rfl,rfl⟩|⟨aa,bb,ee,he,rfl,rfl⟩))|(refine U.SoundAt.wrK (c1) 0 rfl zL zL rfl (.K rfl rfl (.L kx rfl (.cons (renClo l (by decide) rfl) .nil))) ?_;rintro _ _ (⟨h1g,rfl,rfl⟩|⟨aa,bb,ee,he,rfl,rfl⟩))|(refine U.SoundAt.wrK (c2) 0 rfl zL zL rfl (.K rfl rfl (.L kt rfl (.cons (renClo l (by decide) rfl) .nil))) ?_;rintro _ _ (⟨h2g,rfl,rfl⟩|⟨aa,bb,ee,he,rfl,rfl⟩))|(refine U.SoundAt.wrK (c3) 0 rfl zL zL rfl (.K rfl rfl (.L ke rfl (.cons (renClo l (by decide) rfl) .nil))) ?_;rintro _ _ (⟨h3g,rfl,rfl⟩|⟨aa,bb,ee,he,rfl,rfl⟩))|refine goB ?_|refine U.lw_c ?_ ?_<;>intro hb))
      all_goals (conv=>whnf)
      all_goals first
       |exact lqF (by simp[exTs_app,exTs,exT,orE, *]) rfl
       |exact ⟨(pre++[AS6.mk k nm xs th el ln cl],rest),⟨by simp,by simp[exTs_app,exTs,exT,orE, *]⟩,by simp,(Cov.renI rfl rfl rfl rfl (.C rfl (.K rfl rfl (.K rfl rfl (.K rfl rfl .nil))) .nil) (.cons rfl .I (.cons rfl (renClo l (by decide) rfl) (.L rfl (cleanT6s _) rfl (.cons rfl .I (.L rfl (cleanI _) (congrArg (Value.int .i64) (zw.symm)) .nil))))))⟩
     ·have g5:(k==5)=false:=by simpa using k5
      (repeat' ((conv=>whnf);first|refine goA ?_|(refine U.SoundAt.wrK (c1) 0 rfl zL zL rfl (.K rfl rfl (.L kx rfl (.cons (renClo l (by decide) rfl) .nil))) ?_;rintro _ _ (⟨h1g,rfl,rfl⟩|⟨aa,bb,ee,he,rfl,rfl⟩))|(refine U.SoundAt.wrK (c2) 0 rfl zL zL rfl (.K rfl rfl (.L kt rfl (.cons (renClo l (by decide) rfl) .nil))) ?_;rintro _ _ (⟨h2g,rfl,rfl⟩|⟨aa,bb,ee,he,rfl,rfl⟩))|(refine U.SoundAt.wrK (c3) 0 rfl zL zL rfl (.K rfl rfl (.L ke rfl (.cons (renClo l (by decide) rfl) .nil))) ?_;rintro _ _ (⟨h3g,rfl,rfl⟩|⟨aa,bb,ee,he,rfl,rfl⟩))|refine goB ?_|refine U.lw_c ?_ ?_<;>intro hb))
      all_goals (conv=>whnf)
      all_goals first
       |exact lqF (by simp[exTs_app,exTs,exT,orE, *]) rfl
       |exact ⟨(pre++[AS6.mk k nm xs th el ln cl],rest),⟨by simp,by simp[exTs_app,exTs,exT,orE, *]⟩,by simp,(Cov.renI rfl rfl rfl rfl (.C rfl (.K rfl rfl (.K rfl rfl (.K rfl rfl .nil))) .nil) (.cons rfl .I (.cons rfl (renClo l (by decide) rfl) (.L rfl (cleanT6s _) rfl (.cons rfl .I (.L rfl (cleanI _) (congrArg (Value.int .i64) (zw.symm)) .nil))))))⟩
termination_by N=>N
decreasing_by all_goals omega
def prD (l:List ADc):Nat:=(l.filter fun d=>d.k==4).length
def goodDs (l:List EnD):Nat->List ADc->Prop
 |_,[]=>True
 |n,d::ds=>if d.k=4 then goodSs l (n:Int) d.body∧goodDs l (n+1) ds else goodDs l n ds
def exDs (l:List EnD):Nat->List ADc->Option Flt
 |_,[]=>none
 |n,d::ds=>if d.k=4 then orE (exTs l (n:Int) d.body) (exDs l (n+1) ds) else exDs l n ds
def faultD (l:List EnD) (p:APr):Option Flt:=orE (exDs l 0 p.ds) (exTs l (prD p.ds:Nat) p.mn)
def fltO:Option Flt->Value
 |none=>fltV 0 0 0
 |some (a,b,e)=>fltV a b e
theorem exDs_good (l:List EnD):∀(ds:List ADc) (n:Nat),exDs l n ds=none->goodDs l n ds
 |[],n,_=>trivial
 |d::ds,n,h=>by
  rw[exDs] at h;rw[goodDs];by_cases hk:d.k=4
  ·rw[if_pos hk] at h ⊢;obtain ⟨h1,h2⟩:=orE_eq h;exact ⟨exTs_good l _ _ h1,exDs_good l ds (n+1) h2⟩
  ·rw[if_neg hk] at h ⊢;exact exDs_good l ds n h
theorem exDs_ne (l:List EnD):∀(ds:List ADc) (n:Nat) (f:Flt),exDs l n ds=some f->f.2.2≠0
 |[],n,f,h=>by rw[exDs] at h;cases h
 |d::ds,n,f,h=>by
  rw[exDs] at h;by_cases hk:d.k=4
  ·rw[if_pos hk] at h;rcases orE_is h with h1|h2
   ·exact exTs_ne l _ _ f h1
   ·exact exDs_ne l ds (n+1) f h2
  ·rw[if_neg hk] at h;exact exDs_ne l ds n f h
theorem faultD_good {l:List EnD}{p:APr}(h:faultD l p=none):goodDs l 0 p.ds∧goodSs l (prD p.ds:Nat) p.mn:=by
 obtain ⟨h1,h2⟩:=orE_eq h;exact ⟨exDs_good l _ _ h1,exTs_good l _ _ h2⟩
theorem faultD_ne {l:List EnD}{p:APr}{f:Flt}(h:faultD l p=some f):f.2.2≠0:=by
 rcases orE_is h with h1|h2
 ·exact exDs_ne l _ _ f h1
 ·exact exTs_ne l _ _ f h2
theorem renCloF {n:Nat}{ρ:Nat->Nat}{P:Program}{s:AS}{hF:Tr U.Blk}{b b':Nat}{T:TypeId}(l:List EnD) (hb:b<n) (e:ρ b=b') (k:Nat) (hlo:s.lo≤k) (h:Tr.at (pt k) hF=some (U.Blk.cells T [nmV l] false)):RenV n ⟨ρ,FrzA P s hF⟩ (cloB l b) (.func (.func 38) ⟨[]⟩ ⟨[.pointer (some ⟨k,0,none⟩),.pointer (some ⟨b',0,none⟩)]⟩):=by
 refine .fn _ _ _ _ _ rfl rfl (fun i u v hu hv=>by simp at hu) fun i u v hu hv=>?_
 rcases i with _|_|i
 ·simp at hu hv;subst hu;subst hv
  exact RenV.frz (FrzV.boxR hlo h (.cons (.clean _ (cleanNm l)) .nil)) rfl
 ·simp at hu hv;subst hu;subst hv;exact .ptr _ _ _ hb e
 ·simp at hu
noncomputable abbrev stFu (p:APr):AS:=⟨mkO [(1,some (bPr p)),(2,some bF),(3,some (.cells 33 z3 false))],4,0,0⟩
theorem fault_u (l:List EnD) (p:APr) (hf:FewA p) (hm:(flE l).mp.length≤300) (hl:l.length≤300) (hn:NoOk l):DenU Tryd.prog [] 18 [nmV l,encPr p] (fltO (faultD l p)):=by
 refine denU_of_soundT rfl fun Ts=>SoundAt.body hmixU Tryd.func18 rfl rfl rfl 0 ?_
 have fd:=hf.dl;have fz:=hf.sz;obtain ⟨ds,mn⟩:=p;unfold szPr at fz;dsimp only at fd fz;have cm:=cleanT6s mn;have hc:=cleanNm l;have kds:=cleanDcs ds;(repeat' ((conv=>whnf);first|refine goD ?_|refine U.lw_c ?_ ?_<;>intro hb))
 (conv=>whnf);refine loop_inv (α:=List ADc×List ADc) (fun x=>x.1++x.2=ds∧exDs l 0 ds=exDs l (prD x.1) x.2) (fun x=>(mkF [(3,.pointer (some ⟨1,0,none⟩)),(4,.pointer (some ⟨2,0,none⟩)),(5,.pointer (some ⟨3,0,none⟩)),(6,cloB l 3),(7,.int .i64 (prD x.1)),(12,imS (encDcs ds)),(13,.int .i64 (encDcs ds).length),(14,.int .i64 x.1.length)],stFu ⟨ds,mn⟩)) (fun x=>x.2.length) ([],ds) ⟨rfl,rfl⟩ ?_ ?_
 ·(refine Cov.frzA (fun k=>k) _ rfl rfl (bR rfl) zL (fun _ _=>rfl) rfl nlz (frzsO.cons (k:=0) (bR rfl) rfl (frzsO.nil)) rfl ?_ ?_;exact (.W rfl (cleanPr_cells ⟨ds,mn⟩) rfl (.C rfl (.K rfl rfl (.K rfl rfl (.K rfl rfl .nil))) (.C rfl (.K rfl rfl (.K rfl rfl (.K rfl rfl .nil))) .nil)));exact (.cons rfl (.P rfl) (.cons rfl (.P rfl) (.cons rfl (.P rfl) (.cons rfl (renCloF l (by decide) rfl 0 zL rfl) (.K rfl rfl rfl (.L rfl (kds) rfl (.cons rfl .I (.K rfl rfl rfl .nil)))))))))
 rintro ⟨pre,rest⟩ ⟨p1,p2⟩
 dsimp only at p1 p2;subst p1;have hpl:prD pre≤pre.length:=List.length_filter_le ..;rcases rest with _|⟨d,rest⟩
 ·rw[List.append_nil] at *;have zb:=U.lt_no encDcs_map pre;have c1:=stmts_b l (prD pre:Nat) hm hl hn 1000 mn (by omega) (by omega)
  (repeat' ((conv=>whnf);first|refine goA ?_|(refine U.SoundAt.wrK c1 3 rfl zL zL rfl (.K rfl rfl (.L cm rfl (.cons (renClo l (by decide) rfl) .nil))) ?_;rintro _ _ (⟨hg,rfl,rfl⟩|⟨aa,bb,ee,he,rfl,rfl⟩))|refine goB ?_|refine U.lw_c ?_ ?_<;>intro hb))
  all_goals (conv=>whnf)
  ·rw[show faultD l ⟨pre,mn⟩=none by unfold faultD;dsimp only;rw[p2,hg];rfl]
   exact .clean _ (.flat _ rfl)
  ·rw[show faultD l ⟨pre,mn⟩=some (aa,bb,ee) by unfold faultD;dsimp only;rw[p2,he];rfl]
   exact .clean _ (.flat _ rfl)
 ·have zb:=U.lt_yes encDcs_map pre (d) rest;have zc:=U.blt_yes encDcs_map pre (d) rest;have zn:=U.nth_at encDcs_map pre (d) rest;have zw:=U.len_snoc (pre:=pre) (x:=d) (post:=rest) ((Nat.le_trans (show _≤300 from fd) (by decide)))
  have hsz:1+szTs d.body≤szDs (pre++d::rest):=szDs_mem (by simp)
  obtain ⟨k1,nm1,lo1,hi1,sz1,ps1,bd1,ln1,cl1⟩:=d;dsimp only at hsz;have kb:=cleanT6s bd1;have kp:=cleanSL ps1;by_cases k4:k1=4
  ·have g4:(k1 != 4)=false:=by rw[k4];rfl
   have c1:=stmts_b l (prD pre:Nat) hm hl hn 1000 bd1 (by omega) (by omega)
   have e1:prD (pre++[⟨k1,nm1,lo1,hi1,sz1,ps1,bd1,ln1,cl1⟩])=prD pre+1:=by
    unfold prD;rw[List.filter_append,List.filter_cons_of_pos (by simpa using k4)];simp
   have hw:=wadd1 (i:=prD pre) (by simp at fd;omega)
   rw[← e1] at hw;(repeat' ((conv=>whnf);first|refine goA ?_|(refine U.SoundAt.wrK c1 3 rfl zL zL rfl (.K rfl rfl (.L kb rfl (.cons (renClo l (by decide) rfl) .nil))) ?_;rintro _ _ (⟨hg,rfl,rfl⟩|⟨aa,bb,ee,he,rfl,rfl⟩))|refine goB ?_|refine U.lw_c ?_ ?_<;>intro hb))
   all_goals (conv=>whnf)
   ·exact ⟨(pre++[⟨k1,nm1,lo1,hi1,sz1,ps1,bd1,ln1,cl1⟩],rest),⟨by simp,by rw[p2,exDs,if_pos k4];dsimp only;rw[hg,e1];rfl⟩,by simp,(Cov.renI rfl rfl rfl rfl (.W rfl (cleanPr_cells ⟨_,mn⟩) rfl (.C rfl (.K rfl rfl (.K rfl rfl (.K rfl rfl .nil))) (.C rfl (.K rfl rfl (.K rfl rfl (.K rfl rfl .nil))) .nil))) (.cons rfl (.P rfl) (.cons rfl (.P rfl) (.cons rfl (.P rfl) (.cons rfl (renClo l (by decide) rfl) (.L rfl (cleanI _) (congrArg (Value.int .i64) (hw.symm)) (.L rfl (cleanDcs _) rfl (.cons rfl .I (.L rfl (cleanI _) (congrArg (Value.int .i64) (zw.symm)) .nil)))))))))⟩
   ·rw[show faultD l ⟨pre++⟨k1,nm1,lo1,hi1,sz1,ps1,bd1,ln1,cl1⟩::rest,mn⟩=some (aa,bb,ee) by unfold faultD;dsimp only;rw[p2,exDs,if_pos k4];dsimp only;rw[he];rfl]
    exact .clean _ (.flat _ rfl)
  ·have g4:(k1 != 4)=true:=by simpa using k4
   have e1:prD (pre++[⟨k1,nm1,lo1,hi1,sz1,ps1,bd1,ln1,cl1⟩])=prD pre:=by
    unfold prD;rw[List.filter_append,List.filter_cons_of_neg (by simpa using k4)];simp
   (repeat' ((conv=>whnf);first|refine goD ?_|refine U.lw_c ?_ ?_<;>intro hb))
   (conv=>whnf);exact ⟨(pre++[⟨k1,nm1,lo1,hi1,sz1,ps1,bd1,ln1,cl1⟩],rest),⟨by simp,by rw[p2,exDs,if_neg k4,e1]⟩,by simp,(Cov.renI rfl rfl rfl rfl (.W rfl (cleanPr_cells ⟨_,mn⟩) rfl (.C rfl (.K rfl rfl (.K rfl rfl (.K rfl rfl .nil))) (.C rfl (.K rfl rfl (.K rfl rfl (.K rfl rfl .nil))) .nil))) (.cons rfl (.P rfl) (.cons rfl (.P rfl) (.cons rfl (.P rfl) (.cons rfl (renClo l (by decide) rfl) (.L rfl (cleanI _) (congrArg (Value.int .i64) ((by rw[e1]))) (.L rfl (cleanDcs _) rfl (.cons rfl .I (.L rfl (cleanI _) (congrArg (Value.int .i64) (zw.symm)) .nil)))))))))⟩
end Go.Proofs.YtcihknonfcldeaaDoor
