
import Derived.Test.YtcihknonfcldeaaDoorKT29
import Derived.Test.YtcihknonfcldeaaDoorKT30
import Derived.Test.YtcihknonfcldeaaDoorKT46
namespace Go.Proofs.YtcihknonfcldeaaDoor
open Go Go.RowKit Go.Sort U
set_option linter.unusedVariables false
set_option linter.unusedSimpArgs false
set_option maxRecDepth 100000
set_option maxHeartbeats 40000000
theorem foldF_la:∀(l:List EnD) (s:FlD) (i:Nat),(∀e∈l,e.ps.length≤40)->s.la≤(foldF s i l).la∧(foldF s i l).la≤s.la+40*l.length
 |[],s,i,_=>⟨Nat.le_refl _,by simp[foldF]⟩
 |e::l,s,i,h=>by
  rw[foldF];obtain ⟨h1,h2⟩:=foldF_la l (stepF i s e) (i+1) fun x hx=>h x (by simp[hx])
  have he:=h e (by simp)
  have h3:s.la≤(stepF i s e).la∧(stepF i s e).la≤s.la+40:=by
   unfold stepF;split
   ·show s.la≤s.la+e.ps.length∧s.la+e.ps.length≤_
    omega
   ·omega
  rw[List.length_cons];omega
structure NmS (l:List EnD):Prop where
 len:l.length≤300
 ps:∀e∈l,e.ps.length≤40
 no:NoOk l
theorem NmS.mp {l:List EnD}(h:NmS l):(flE l).mp.length≤300:=by rw[(flE_lens l).2.2];exact Nat.le_trans (prN_le l) h.len
theorem NmS.la {l a:List EnD}(h:NmS l) {b:List EnD}(hab:l=a++b):(flP l a).la≤100000:=by
 have h1:=(foldF_la a (fl0 l) 0 fun e he=>h.ps e (by rw[hab];simp[he])).2
 have h2:cntEn l 0≤l.length:=List.length_filter_le ..;have h3:=h.len;have h4:a.length≤l.length:=by rw[hab];simp
 have h5:(fl0 l).la=cntEn l 0:=rfl;unfold flP;omega
theorem exl_d (l:List EnD) (h:NmS l) (node:Int):∀(N:Nat) (xs:List AE),szAs xs≤N->szAs xs≤1000->goodEs l node xs->DenU Tryd.prog [] 22 [nmV l,.int .i64 node,imS (encAs xs)] (.bool true)
 |N,xs,hN,h1000,hg=>by
  refine denU_of_soundT rfl fun Ts=>SoundAt.body hmixU Tryd.func22 rfl rfl rfl 0 ?_
  have hlen:xs.length≤1000:=Nat.le_trans (szAs_len xs) h1000;have hc:=cleanNm l;(repeat' ((conv=>whnf);first|refine goD ?_|refine U.lw_c ?_ ?_<;>intro hb))
  (conv=>whnf);refine loop_inv (α:=List AE×List AE) (fun x=>x.1++x.2=xs) (fun x=>(mkF [(0,nmV l),(1,.int .i64 node),(2,imS (encAs xs)),(7,.int .i64 x.1.length)],⟨mkO [],0,0,0⟩)) (fun x=>x.2.length) ([],xs) rfl (Cov.renI rfl rfl rfl rfl .nil (.L rfl (hc) rfl (.cons rfl .I (.L rfl (cleanAs _) rfl (.K rfl rfl rfl .nil))))) ?_
  rintro ⟨pre,rest⟩ p1
  dsimp only at p1;subst p1;rcases rest with _|⟨e,rest⟩
  ·rw[List.append_nil] at *;have zb:=U.lt_no encAs_map pre;(repeat' ((conv=>whnf);first|refine goD ?_|refine U.lw_c ?_ ?_<;>intro hb))
   (conv=>whnf);exact .same (.flat _ rfl) rfl
  ·have zb:=U.lt_yes encAs_map pre (e) rest;have zc:=U.blt_yes encAs_map pre (e) rest;have zn:=U.nth_at encAs_map pre (e) rest;have zw:=U.len_snoc (pre:=pre) (x:=e) (post:=rest) ((by omega))
   have hge:=((goodEs_app l node _ _).1 hg).2;rw[goodEs] at hge;have hge:=hge.1;obtain ⟨k,n,nm,o,ls,ln,cl⟩:=e;rw[goodE] at hge;obtain ⟨hg1,hg2,hg3⟩:=hge;have hsz:szAs ls+1≤szAs (pre++AE.mk k n nm o ls ln cl::rest):=by
    have h:=szAs_mem (l:=pre++AE.mk k n nm o ls ln cl::rest) (e:=AE.mk k n nm o ls ln cl) (by simp)
    rw[szA] at h;exact h
   have hN0:0<N:=by omega
   have kl:=cleanAs ls;have c1:=exl_d l h node (N-1) ls (by omega) (by omega) hg3
   by_cases k1:k=1
   ·have g1:(k==1)=true:=by simpa using k1
    have g2:(k==2)=false:=by rw[k1];rfl
    have c2:=slot_d l node nm h.mp;rw[if_pos (hg1 k1)] at c2;(repeat' ((conv=>whnf);first|refine goD ?_|refine U.SoundAt.u (c1) clN ?_|refine U.SoundAt.u (c2) clN ?_|refine U.SoundC.u (c1) clN ?_|refine U.SoundC.u (c2) clN ?_|refine U.lw_c ?_ ?_<;>intro hb))
    (conv=>whnf);exact ⟨(pre++[AE.mk k n nm o ls ln cl],rest),by simp,by simp,(Cov.renI rfl rfl rfl rfl .nil (.L rfl (hc) rfl (.cons rfl .I (.L rfl (cleanAs _) rfl (.L rfl (cleanI _) (congrArg (Value.int .i64) (zw.symm)) .nil)))))⟩
   ·have g1:(k==1)=false:=by simpa using k1
    by_cases k2:k=2
    ·have g2:(k==2)=true:=by simpa using k2
     have c2:=array_d l node nm h.mp;rw[if_pos (hg2 k2)] at c2;(repeat' ((conv=>whnf);first|refine goD ?_|refine U.SoundAt.u (c1) clN ?_|refine U.SoundAt.u (c2) clN ?_|refine U.SoundC.u (c1) clN ?_|refine U.SoundC.u (c2) clN ?_|refine U.lw_c ?_ ?_<;>intro hb))
     (conv=>whnf);exact ⟨(pre++[AE.mk k n nm o ls ln cl],rest),by simp,by simp,(Cov.renI rfl rfl rfl rfl .nil (.L rfl (hc) rfl (.cons rfl .I (.L rfl (cleanAs _) rfl (.L rfl (cleanI _) (congrArg (Value.int .i64) (zw.symm)) .nil)))))⟩
    ·have g2:(k==2)=false:=by simpa using k2
     (repeat' ((conv=>whnf);first|refine goD ?_|refine U.SoundAt.u (c1) clN ?_|refine U.SoundC.u (c1) clN ?_|refine U.lw_c ?_ ?_<;>intro hb))
     (conv=>whnf);exact ⟨(pre++[AE.mk k n nm o ls ln cl],rest),by simp,by simp,(Cov.renI rfl rfl rfl rfl .nil (.L rfl (hc) rfl (.cons rfl .I (.L rfl (cleanAs _) rfl (.L rfl (cleanI _) (congrArg (Value.int .i64) (zw.symm)) .nil)))))⟩
termination_by N=>N
decreasing_by all_goals omega
theorem fits_d (l:List EnD) (h:NmS l) (node:Int):∀(N:Nat) (ts:List AS6),szTs ts≤N->szTs ts≤1000->goodSs l node ts->DenU Tryd.prog [] 10 [nmV l,.int .i64 node,imS (encTs ts)] (.bool true)
 |N,ts,hN,h1000,hg=>by
  refine denU_of_soundT rfl fun Ts=>SoundAt.body hmixU Tryd.func10 rfl rfl rfl 0 ?_
  have hlen:ts.length≤1000:=Nat.le_trans (szTs_len ts) h1000;have hc:=cleanNm l;(repeat' ((conv=>whnf);first|refine goD ?_|refine U.lw_c ?_ ?_<;>intro hb))
  (conv=>whnf);refine loop_inv (α:=List AS6×List AS6) (fun x=>x.1++x.2=ts) (fun x=>(mkF [(0,nmV l),(1,.int .i64 node),(2,imS (encTs ts)),(7,.int .i64 x.1.length)],⟨mkO [],0,0,0⟩)) (fun x=>x.2.length) ([],ts) rfl (Cov.renI rfl rfl rfl rfl .nil (.L rfl (hc) rfl (.cons rfl .I (.L rfl (cleanT6s _) rfl (.K rfl rfl rfl .nil))))) ?_
  rintro ⟨pre,rest⟩ p1
  dsimp only at p1;subst p1;rcases rest with _|⟨e,rest⟩
  ·rw[List.append_nil] at *;have zb:=U.lt_no encTs_map pre;(repeat' ((conv=>whnf);first|refine goD ?_|refine U.lw_c ?_ ?_<;>intro hb))
   (conv=>whnf);exact .same (.flat _ rfl) rfl
  ·have zb:=U.lt_yes encTs_map pre (e) rest;have zc:=U.blt_yes encTs_map pre (e) rest;have zn:=U.nth_at encTs_map pre (e) rest;have zw:=U.len_snoc (pre:=pre) (x:=e) (post:=rest) ((by omega))
   have hge:=((goodSs_app l node _ _).1 hg).2;rw[goodSs] at hge;have hge:=hge.1;obtain ⟨k,nm,xs,th,el,ln,cl⟩:=e;rw[goodS] at hge;obtain ⟨hg0,hg1,hg5,hgx,hgt,hgl⟩:=hge;have hsz:szAs xs+szTs th+szTs el+1≤szTs (pre++AS6.mk k nm xs th el ln cl::rest):=by
    have h:=szTs_mem (l:=pre++AS6.mk k nm xs th el ln cl::rest) (e:=AS6.mk k nm xs th el ln cl) (by simp)
    rw[szT] at h;exact h
   have hN0:0<N:=by omega
   have kx:=cleanAs xs;have kt:=cleanT6s th;have ke:=cleanT6s el;have c1:=exl_d l h node 1000 xs (by omega) (by omega) hgx
   have c2:=fits_d l h node (N-1) th (by omega) (by omega) hgt
   have c3:=fits_d l h node (N-1) el (by omega) (by omega) hgl
   by_cases k0:k=0
   ·have g0:(k==0)=true:=by simpa using k0
    have c4:=slot_d l node nm h.mp;rw[if_pos (hg0 k0)] at c4;(repeat' ((conv=>whnf);first|refine goD ?_|refine U.SoundAt.u (c1) clN ?_|refine U.SoundAt.u (c2) clN ?_|refine U.SoundAt.u (c3) clN ?_|refine U.SoundAt.u (c4) clN ?_|refine U.SoundC.u (c1) clN ?_|refine U.SoundC.u (c2) clN ?_|refine U.SoundC.u (c3) clN ?_|refine U.SoundC.u (c4) clN ?_|refine U.lw_c ?_ ?_<;>intro hb))
    (conv=>whnf);exact ⟨(pre++[AS6.mk k nm xs th el ln cl],rest),by simp,by simp,(Cov.renI rfl rfl rfl rfl .nil (.L rfl (hc) rfl (.cons rfl .I (.L rfl (cleanT6s _) rfl (.L rfl (cleanI _) (congrArg (Value.int .i64) (zw.symm)) .nil)))))⟩
   ·have g0:(k==0)=false:=by simpa using k0
    by_cases k1:k=1
    ·have g1:(k==1)=true:=by simpa using k1
     have c4:=array_d l node nm h.mp;rw[if_pos (hg1 k1)] at c4;(repeat' ((conv=>whnf);first|refine goD ?_|refine U.SoundAt.u (c1) clN ?_|refine U.SoundAt.u (c2) clN ?_|refine U.SoundAt.u (c3) clN ?_|refine U.SoundAt.u (c4) clN ?_|refine U.SoundC.u (c1) clN ?_|refine U.SoundC.u (c2) clN ?_|refine U.SoundC.u (c3) clN ?_|refine U.SoundC.u (c4) clN ?_|refine U.lw_c ?_ ?_<;>intro hb))
     (conv=>whnf);exact ⟨(pre++[AS6.mk k nm xs th el ln cl],rest),by simp,by simp,(Cov.renI rfl rfl rfl rfl .nil (.L rfl (hc) rfl (.cons rfl .I (.L rfl (cleanT6s _) rfl (.L rfl (cleanI _) (congrArg (Value.int .i64) (zw.symm)) .nil)))))⟩
    ·have g1:(k==1)=false:=by simpa using k1
     by_cases k5:k=5
     ·have g5:(k==5)=true:=by simpa using k5
      obtain ⟨hm3,hxl⟩:=hg5 k5;obtain ⟨a,e,b,h1,h2,h3,h4,h5⟩:=mean3 h.no hm3;have c4:=proc_d l nm h.mp;rw[h4] at c4;dsimp only at c4;rw[if_pos rfl] at c4;have c5:=params_d l a b e h1 h2 (h.ps e (by rw[h1];simp)) (h.la h1) h.len
      have hpn:paramN l nm=e.ps.length:=by unfold paramN;rw[h3]
      have g6:(((iL (rgL (flP l a).la e.ps.length)).length:Int)==((encAs xs).length:Int))=true:=by rw[iL_len,rgL_len,encAs_map,List.length_map,hxl,hpn];simp
      have g7:(!(((iL (rgL (flP l a).la e.ps.length)).length:Int)==((encAs xs).length:Int)))=false:=by rw[g6];rfl
      (repeat' ((conv=>whnf);first|refine goD ?_|refine U.SoundAt.u (c1) clN ?_|refine U.SoundAt.u (c2) clN ?_|refine U.SoundAt.u (c3) clN ?_|refine U.SoundAt.u (c4) clN ?_|refine U.SoundAt.u (c5) clN ?_|refine U.SoundC.u (c1) clN ?_|refine U.SoundC.u (c2) clN ?_|refine U.SoundC.u (c3) clN ?_|refine U.SoundC.u (c4) clN ?_|refine U.SoundC.u (c5) clN ?_|refine U.drawX_p (D:=U.propX) 12 [] (by decide +kernel) (by decide +kernel) ?_|refine U.lw_c ?_ ?_<;>intro hb))
      all_goals (conv=>whnf)
      exact ⟨(pre++[AS6.mk k nm xs th el ln cl],rest),by simp,by simp,(Cov.renI rfl rfl rfl rfl .nil (.L rfl (hc) rfl (.cons rfl .I (.L rfl (cleanT6s _) rfl (.L rfl (cleanI _) (congrArg (Value.int .i64) (zw.symm)) .nil)))))⟩
     ·have g5:(k==5)=false:=by simpa using k5
      (repeat' ((conv=>whnf);first|refine goD ?_|refine U.SoundAt.u (c1) clN ?_|refine U.SoundAt.u (c2) clN ?_|refine U.SoundAt.u (c3) clN ?_|refine U.SoundC.u (c1) clN ?_|refine U.SoundC.u (c2) clN ?_|refine U.SoundC.u (c3) clN ?_|refine U.lw_c ?_ ?_<;>intro hb))
      (conv=>whnf);exact ⟨(pre++[AS6.mk k nm xs th el ln cl],rest),by simp,by simp,(Cov.renI rfl rfl rfl rfl .nil (.L rfl (hc) rfl (.cons rfl .I (.L rfl (cleanT6s _) rfl (.L rfl (cleanI _) (congrArg (Value.int .i64) (zw.symm)) .nil)))))⟩
termination_by N=>N
decreasing_by all_goals omega
def segS (s:FlD) (e:EnD):List Int:=if e.k≤2 then [e.no] else if e.k=4 then rgL s.la e.ps.length else []
def slA:FlD->Nat->List EnD->List Int
 |_,_,[]=>[]
 |s,i,e::l=>segS s e++slA (stepF i s e) (i+1) l
theorem slA_snoc:∀(a:List EnD) (s:FlD) (i:Nat) (e:EnD),slA s i (a++[e])=slA s i a++segS (foldF s i a) e
 |[],s,i,e=>by simp[slA,foldF]
 |x::a,s,i,e=>by rw[List.cons_append,slA,slA,foldF,slA_snoc a,List.append_assoc]
def slP (l a:List EnD):List Int:=slA (fl0 l) 0 a
structure SlOk (l a:List EnD):Prop where
 len:(slP l a).length+cntEn l 0=cntEn a 0+(flP l a).la
 nd:(slP l a).Nodup
 rg:∀x∈slP l a,(0≤x∧x<(cntEn a 0:Int))∨((cntEn l 0:Int)≤x∧x<((flP l a).la:Int))
 le:cntEn l 0≤(flP l a).la
theorem cnt_pre (a b:List EnD) (g:Int):cntEn a g≤cntEn (a++b) g:=by
 unfold cntEn;rw[List.filter_append,List.length_append];omega
theorem flP_snoc (l a:List EnD) (e:EnD):flP l (a++[e])=stepF a.length (flP l a) e:=by
 unfold flP;rw[foldF_app,foldF,foldF,Nat.zero_add]
theorem rgL_mem {n m:Nat}{x:Int}(h:x∈rgL n m):(n:Int)≤x∧x<((n+m:Nat):Int):=by
 obtain ⟨i,hi,rfl⟩:=List.mem_map.1 h;have:=List.mem_range.1 hi;omega
theorem rgL_nd (n m:Nat):(rgL n m).Nodup:=by
 refine List.Pairwise.map _ (fun a b h=>?_) (List.nodup_range (n:=m))
 omega
theorem slOk_all {l:List EnD}(hE:EdOk l):∀(n:Nat) (a b:List EnD),a.length=n->l=a++b->SlOk l a
 |0,a,b,h,hab=>by
  have:a=[]:=List.eq_nil_of_length_eq_zero h;subst this;refine ⟨?_,.nil,fun x hx=>(by cases hx),Nat.le_refl _⟩
  show 0+cntEn l 0=cntEn [] 0+cntEn l 0
  rfl
 |n+1,a,b,h,hab=>by
  rcases List.eq_nil_or_concat a with rfl|⟨a',e,rfl⟩
  ·cases h
  ·rw[List.concat_eq_append] at *;have hl':l=a'++e::b:=by rw[hab];simp
   obtain ⟨i1,i2,i3,i4⟩:=slOk_all hE n a' (e::b) (by simpa using h) hl'
   have hk:=hE.kd e (by rw[hl'];simp)
   have hno:=hE.no a' e b hl';have hc:=cntEn_snoc a' e 0;have hle:cntEn (a'++[e]) 0≤cntEn l 0:=by rw[hl',show a'++e::b=(a'++[e])++b by simp];exact cnt_pre _ _ _
   have hsl:slP l (a'++[e])=slP l a'++segS (flP l a') e:=slA_snoc _ _ _ _;have hst:=flP_snoc l a' e;by_cases h2:e.k≤2
   ·have hg:grpB e.k=0:=by
     have:e.k=0∨e.k=1∨e.k=2:=by omega
     rcases this with q|q|q<;>rw[q]<;>rfl
    rw[if_pos hg] at hc;rw[hg] at hno;have hs1:stepF a'.length (flP l a') e=flP l a':=by unfold stepF;rw[if_neg (by omega)]
    have hseg:segS (flP l a') e=[e.no]:=by unfold segS;rw[if_pos h2]
    rw[hs1] at hst;rw[hseg] at hsl;refine ⟨?_,?_,fun x hx=>?_,by rw[hst];exact i4⟩
    ·rw[hsl,hst,List.length_append,hc,List.length_singleton];omega
    ·rw[hsl];refine List.nodup_append.2 ⟨i2,by simp,fun x hx y hy=>?_⟩
     rw[List.mem_singleton] at hy;rcases i3 x hx with q|q<;>omega
    ·rw[hst];rw[hsl] at hx;rcases List.mem_append.1 hx with hx|hx
     ·rcases i3 x hx with q|q
      ·exact .inl ⟨q.1,by omega⟩
      ·exact .inr q
     ·rw[List.mem_singleton] at hx;exact .inl ⟨by omega,by omega⟩
   ·have hg:grpB e.k≠0:=by
     have:e.k=3∨e.k=4:=by omega
     rcases this with q|q<;>rw[q]<;>decide
    rw[if_neg hg] at hc;by_cases h4:e.k=4
    ·have hs1:(stepF a'.length (flP l a') e).la=(flP l a').la+e.ps.length:=by unfold stepF;rw[if_pos h4]
     have hseg:segS (flP l a') e=rgL (flP l a').la e.ps.length:=by unfold segS;rw[if_neg h2,if_pos h4]
     rw[hseg] at hsl;refine ⟨?_,?_,fun x hx=>?_,by rw[hst,hs1];omega⟩
     ·rw[hsl,hst,hs1,List.length_append,hc,rgL_len];omega
     ·rw[hsl];refine List.nodup_append.2 ⟨i2,rgL_nd _ _,fun x hx y hy=>?_⟩
      have:=rgL_mem hy;rcases i3 x hx with q|q<;>omega
     ·rw[hst,hs1];rw[hsl] at hx;rcases List.mem_append.1 hx with hx|hx
      ·rcases i3 x hx with q|q
       ·exact .inl ⟨q.1,by omega⟩
       ·exact .inr ⟨q.1,by omega⟩
      ·have:=rgL_mem hx;exact .inr ⟨by omega,by omega⟩
    ·have hs1:stepF a'.length (flP l a') e=flP l a':=by unfold stepF;rw[if_neg h4]
     have hseg:segS (flP l a') e=[]:=by unfold segS;rw[if_neg h2,if_neg h4]
     rw[hs1] at hst;rw[hseg,List.append_nil] at hsl;refine ⟨?_,by rw[hsl];exact i2,fun x hx=>?_,by rw[hst];exact i4⟩
     ·rw[hsl,hst,hc];omega
     ·rw[hst];rw[hsl] at hx;rcases i3 x hx with q|q
      ·exact .inl ⟨q.1,by omega⟩
      ·exact .inr q
theorem slots_ok {l:List EnD}(hE:EdOk l):(slP l l).length=(flE l).la∧(slP l l).Nodup∧∀x∈slP l l,0≤x∧x<((flE l).la:Int):=by
 obtain ⟨h1,h2,h3,h4⟩:=slOk_all hE l.length l [] rfl (by simp)
 have he:flP l l=flE l:=rfl;rw[he] at h1 h3 h4;refine ⟨by omega,h2,fun x hx=>?_⟩
 rcases h3 x hx with q|q<;>omega
theorem few12_e (p:APr) (hs:szPr p≤800000):DenE Tryd.prog 4 [encPr p] (FewQ p):=by
 refine denE_of_sound hmixU fun Ts=>SoundAt.body hmixU Tryd.func4 rfl rfl rfl 0 ?_
 have kp:=cleanPr p;have kd:=cleanDcs p.ds;(repeat' ((conv=>whnf);first|refine goA ?_|(refine SoundAt.e (few_e p hs) ⟨kp,cleanI _,trivial⟩ fun u hq=>?_;obtain ⟨b,rfl,hbq⟩:=hq)|refine goB ?_|refine U.lw_c ?_ ?_<;>intro hb))
 all_goals (conv=>whnf)
 ·exact ⟨_,⟨_,rfl,fun _=>hbq hb⟩,.clean _ (.flat _ rfl)⟩
 ·exact ⟨_,⟨false,rfl,fun h=>by cases h⟩,.clean _ (.flat _ rfl)⟩
theorem works12_d:DenU Tryd.prog kwT 5 [] (.bool true):=denU_closedT hmixU kw_ok 100000 60 60 fun Ts=>by kernel_rfl
end Go.Proofs.YtcihknonfcldeaaDoor
