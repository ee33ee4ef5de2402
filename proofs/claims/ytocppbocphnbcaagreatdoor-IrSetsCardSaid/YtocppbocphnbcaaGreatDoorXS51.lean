import Derived.Handed
import Derived.Test.YtocppbocphnbcaaGreatDoorXS01
import Derived.Test.YtocppbocphnbcaaGreatDoorXS17
import Derived.Test.YtocppbocphnbcaaGreatDoorXS21
import Derived.Test.YtocppbocphnbcaaGreatDoorXS37
import Derived.Test.YtocppbocphnbcaaGreatDoorXS38
import Derived.Test.YtocppbocphnbcaaGreatDoorXS44
import Derived.Test.YtocppbocphnbcaaGreatDoorXS45
import Derived.Test.YtocppbocphnbcaaGreatDoorXS49
import Derived.Test.YtocppbocphnbcaaGreatDoorXS50
namespace Go.Proofs.YtocppbocphnbcaaGreatDoor
open Go Go.RowKit Go.Sort U
set_option linter.unusedVariables false
set_option linter.unusedSimpArgs false
set_option maxRecDepth 100000
set_option maxHeartbeats 40000000
theorem works13_d:DenU Tryz.prog [] 6 [] (.bool true):=denU_closed hmixU 100000 60 60 fun Ts=>by kernel_rfl
structure OkP (p:Pg):Prop where
 arrs:p.arrs.length≤maxI
 ins:p.ins.length≤maxI
 procs:p.procs.length≤maxI
 bodies:∀x∈p.procs,okSs x.body∧x.body.length≤maxI∧x.ps.length≤maxI
 main:okSs p.main∧p.main.length≤maxI
def fewGo:List Pr13->Int->Int->Bool
 |[],m,n=>decide (n≤m)
 |x::l,m,n=>if n≤m then (if 20<x.ps.length then false else fewGo l m (IntKind.i64.wrap (n+cntL x.body (IntKind.i64.wrap (m-n)) 30))) else false
def fewP (p:Pg) (m:Int):Bool:=if 20<p.arrs.length∨20<p.ins.length∨20<p.procs.length then false else fewGo p.procs m (cntL p.main m 30)
theorem fewIr_d (p:Pg) (m:Int) (hok:OkP p):DenU Tryz.prog [] 5 [encP p,.int .i64 m] (.bool (fewP p m)):=by
 refine denU_of_body hmixU rfl Tryz.func5 rfl rfl rfl 0 ?_;intro Ts;obtain ⟨o1,o2,o3,o4,o5,o6⟩:=hok;obtain ⟨sl,arrs,ins,procs,main⟩:=p;dsimp only at *;have e1:=iL_len arrs;have e2:=inL_len ins;have e3:=prL_len procs
 have c1:=irStmts_all (szSs main) main rL o5 o6 m 30;have hcl:=cleanSs main;by_cases hbig:20<arrs.length∨20<ins.length∨20<procs.length
 ·rw[show fewP ⟨sl,arrs,ins,procs,main⟩ m=false from if_pos hbig]
  generalize cntL main m 30=c0 at c1
  by_cases b1:20<arrs.length
  ·have g1:decide (((iL arrs).length:Int) > 20)=true:=decide_eq_true (by rw[e1];omega)
   (repeat' ((conv=>whnf);first|refine goD ?_|refine U.lw_c ?_ ?_<;>intro hb))
   (conv=>whnf);exact .same (.flat _ rfl) rfl
  ·have g1:decide (((iL arrs).length:Int) > 20)=false:=decide_eq_false (by rw[e1];omega)
   by_cases b2:20<ins.length
   ·have g2:decide (((inL ins).length:Int) > 20)=true:=decide_eq_true (by rw[e2];omega)
    (repeat' ((conv=>whnf);first|refine goD ?_|refine U.lw_c ?_ ?_<;>intro hb))
    (conv=>whnf);exact .same (.flat _ rfl) rfl
   ·have g2:decide (((inL ins).length:Int) > 20)=false:=decide_eq_false (by rw[e2];omega)
    have g3:decide (((prL procs).length:Int) > 20)=true:=decide_eq_true (by rw[e3];omega)
    (repeat' ((conv=>whnf);first|refine goD ?_|refine U.lw_c ?_ ?_<;>intro hb))
    (conv=>whnf);exact .same (.flat _ rfl) rfl
 ·rw[show fewP ⟨sl,arrs,ins,procs,main⟩ m=fewGo procs m (cntL main m 30) from if_neg hbig]
  have g1:decide (((iL arrs).length:Int) > 20)=false:=decide_eq_false (by rw[e1];omega)
  have g2:decide (((inL ins).length:Int) > 20)=false:=decide_eq_false (by rw[e2];omega)
  have g3:decide (((prL procs).length:Int) > 20)=false:=decide_eq_false (by rw[e3];omega)
  generalize cntL main m 30=c0 at c1
  (repeat' ((conv=>whnf);first|refine goD ?_|refine ⟨_,c1,clM,tab0 _,?_⟩|refine U.lw_c ?_ ?_<;>intro hb))
  (conv=>whnf);clear g1 g2 g3 c1;obtain ⟨F,hF⟩:∃F,F=cntL:=⟨_,rfl⟩
  refine loop_inv (α:=List Pr13×List Pr13×Int) (fun x=>x.1++x.2.1=procs∧fewGo x.2.1 m x.2.2=fewGo procs m c0) (fun x=>(mkF [(1,.int .i64 m),(2,.pointer (some ⟨0,0,none⟩)),(4,.bool false),(5,.int .i64 x.2.2),(6,.int .i64 x.1.length)],⟨mkO [(0,some (.cells 27 (cellsOf (encP ⟨sl,arrs,ins,procs,main⟩)) false))],1,0,0⟩)) (fun x=>x.2.1.length) ([],procs,c0) ⟨rfl,rfl⟩ (Cov.slots rL ⟨rfl,rfl,rfl,rfl,rfl,trivial⟩) ?_
  rintro ⟨pre,rest,n⟩ ⟨p1,p2⟩
  dsimp only at p1 p2;subst p1;rw[← p2];dsimp only;rcases rest with _|⟨⟨nm,ps,body⟩,rest⟩
  ·rw[List.append_nil];have zb:=U.lt_no prL_map pre;(repeat' ((conv=>whnf);first|refine goD ?_|refine U.lw_c ?_ ?_<;>intro hb))
   (conv=>whnf);exact .same (.flat _ rfl) rfl
  ·have zb:=U.lt_yes prL_map pre (Pr13.mk nm ps body) rest;have zc:=U.blt_yes prL_map pre (Pr13.mk nm ps body) rest;have zn:=U.nth_at prL_map pre (Pr13.mk nm ps body) rest;have zw:=U.len_snoc (pre:=pre) (x:=Pr13.mk nm ps body) (post:=rest) ((by simp at hbig ⊢;omega))
   obtain ⟨b1,b2,b3⟩:=o4 ⟨nm,ps,body⟩ (by simp)
   have hps:=iL_len ps;have hcb:=cleanSs body;by_cases hn:n≤m
   ·have g1:decide (n≤m)=true:=decide_eq_true hn;by_cases hq:20<ps.length
    ·have g2:decide (((iL ps).length:Int) > 20)=true:=decide_eq_true (by rw[hps];omega)
     (repeat' ((conv=>whnf);first|refine goD ?_|refine U.lw_c ?_ ?_<;>intro hb))
     (conv=>whnf);exact .same (.flat _ rfl) (congrArg Value.bool (by rw[fewGo,if_pos hn,if_pos hq]))
    ·have g2:decide (((iL ps).length:Int) > 20)=false:=decide_eq_false (by rw[hps];omega)
     have c2:=irStmts_all (szSs body) body rL b1 b2 (IntKind.i64.wrap (m-n)) 30;have e9:fewGo (⟨nm,ps,body⟩::rest) m n=fewGo rest m (IntKind.i64.wrap (n+cntL body (IntKind.i64.wrap (m-n)) 30)):=by rw[fewGo,if_pos hn,if_neg hq]
     rw[e9];generalize cntL body (IntKind.i64.wrap (m-n)) 30=c3 at *
     (repeat' ((conv=>whnf);first|refine goD ?_|refine ⟨_,c2,clM,tab0 _,?_⟩|refine U.lw_c ?_ ?_<;>intro hb))
     (conv=>whnf);exact ⟨(pre++[⟨nm,ps,body⟩],rest,IntKind.i64.wrap (n+c3)),⟨by simp,rfl⟩,by simp,(Cov.renI rfl rfl rfl rfl (.W rfl ((fun c hc=>cleanP_cells ⟨sl,arrs,ins,_,main⟩ c hc)) rfl .nil) (.cons rfl .I (.cons rfl (.P rfl) (.K rfl rfl rfl (.cons rfl .I (.L rfl (cleanI _) (congrArg (Value.int .i64) (zw.symm)) .nil))))))⟩
   ·have g1:decide (n≤m)=false:=decide_eq_false hn;(repeat' ((conv=>whnf);first|refine goD ?_|refine U.lw_c ?_ ?_<;>intro hb))
    (conv=>whnf);exact .same (.flat _ rfl) (congrArg Value.bool (by rw[fewGo,if_neg hn];exact g1))
theorem fewGo_ok:∀(l:List Pr13) (m n:Int) (k:Nat),m≤900->n=k->fewGo l m n=true->(k:Int)+szPrs l≤m∧∀x∈l,x.ps.length≤20
 |[],m,n,k,hm,hn,h=>by
  have h:=of_decide_eq_true (show decide (n≤m)=true from h)
  exact ⟨by simp[szPrs];omega,fun x hx=>by cases hx⟩
 |x::l,m,n,k,hm,hn,h=>by
  unfold fewGo at h;by_cases h1:n≤m
  ·rw[if_pos h1] at h;by_cases h2:20<x.ps.length
   ·rw[if_pos h2] at h;cases h
   ·rw[if_neg h2] at h;have hw:IntKind.i64.wrap (m-n)=m-n:=wid (by omega) (by omega)
    rw[hw] at h;obtain ⟨a1,a2,a3⟩:=cntL_few x.body (m-n) 30 (by omega) (by omega)
    have hw2:IntKind.i64.wrap (n+cntL x.body (m-n) 30)=n+cntL x.body (m-n) 30:=wid (by omega) (by omega)
    rw[hw2] at h;by_cases h3:cntL x.body (m-n) 30≤m-n
    ·have e:=a3 h3;obtain ⟨g1,g2⟩:=fewGo_ok l m (n+cntL x.body (m-n) 30) (k+szSs x.body) hm (by rw[e,hn];simp) h
     refine ⟨by rw[szPrs];push_cast at g1 ⊢;omega,fun y hy=>?_⟩
     rcases List.mem_cons.1 hy with rfl|hy
     ·omega
     ·exact g2 y hy
    ·have:fewGo l m (n+cntL x.body (m-n) 30)=false:=by
      cases l with
      |nil=>exact decide_eq_false (by omega)
      |cons y l=>rw[fewGo,if_neg (by omega)]
     rw[this] at h;cases h
  ·rw[if_neg h1] at h;cases h
theorem fewP_ok {p:Pg}{m:Int}(hm:0≤m∧m≤900) (h:fewP p m=true):FewP p:=by
 unfold fewP at h;split at h
 ·cases h
 ·rename_i hb;obtain ⟨a1,a2,a3⟩:=cntL_few p.main m 30 (by omega) (by omega)
  by_cases h3:cntL p.main m 30≤m
  ·obtain ⟨g1,g2⟩:=fewGo_ok p.procs m _ (szSs p.main) hm.2 (a3 h3) h;exact ⟨by omega,by omega,by omega,g2,by omega⟩
  ·have:fewGo p.procs m (cntL p.main m 30)=false:=by
    cases p.procs with
    |nil=>exact decide_eq_false (by omega)
    |cons y l=>rw[fewGo,if_neg (by omega)]
   rw[this] at h;cases h
def allP (p:Pg) (l:List St):List St:=allSs l++p.procs.flatMap fun x=>allSs x.body
theorem allP_w (p:Pg) (l:List St):((allP p l).map wS).sum=szSs l+szPrs p.procs:=by
 have h:∀q:List Pr13,((q.flatMap fun x=>allSs x.body).map wS).sum=szPrs q:=fun q=>by
  induction q with
  |nil=>rfl
  |cons x q ih=>rw[List.flatMap_cons,List.map_append,List.sum_append_nat,wSs_all,ih,szPrs]
 rw[allP,List.map_append,List.sum_append_nat,wSs_all,h]
theorem mets_all {p:Pg}{l:List St}{x:St}(h:Mets p (allSs l) x):x∈allP p l:=by
 rcases h with h|⟨j,_,h⟩
 ·exact List.mem_append_left _ h
 ·unfold bodyN at h;split at h
  ·rename_i y hy;exact List.mem_append_right _ (List.mem_flatMap.2 ⟨y,List.mem_of_getElem? hy,h⟩)
  ·cases h
theorem flat_len {p:Pg}{f:St->List Int}(hf:∀x,standsB p x=true->(f x).length≤20*wS x):∀l:List St,((l.filter (standsB p)).flatMap f).length≤20*(l.map wS).sum
 |[]=>by simp
 |x::l=>by
  have:=flat_len hf l;rw[List.filter_cons];split
  ·rename_i h;have:=hf x h;rw[List.flatMap_cons,List.length_append,List.map_cons,List.sum_cons];omega
  ·rw[List.map_cons,List.sum_cons];omega
theorem ins_ex (p:Pg) (l:List St) (f:St->List Int) (hf:∀x,standsB p x=true->(f x).length≤20*wS x) (hl:szSs l≤900) (hp:szPrs p.procs≤900):∃S:List Int,(Ris S∧∀z,z∈S↔InS p f (allSs l) z)∧S.length≤40000:=by
 classical
 obtain ⟨h1,h2,h3⟩:=addAll_ok (S:=[]) List.Pairwise.nil ((((allP p l).filter (standsB p)).flatMap f).filter fun z=>decide (InS p f (allSs l) z))
 refine ⟨_,⟨h2,fun z=>?_⟩,Nat.le_trans h3 ?_⟩
 ·rw[h1.m z];simp only[List.not_mem_nil,false_or,List.mem_filter,List.mem_flatMap,decide_eq_true_eq];refine ⟨fun h=>h.2,fun h=>⟨?_,h⟩⟩
  obtain ⟨x,hx,hs,hz⟩:=h;exact ⟨x,⟨mets_all hx,hs⟩,hz⟩
 ·have h4:=flat_len hf (allP p l);have h5:=List.length_filter_le (fun z=>decide (InS p f (allSs l) z)) (((allP p l).filter (standsB p)).flatMap f)
  rw[allP_w] at h4;simp only[List.length_nil];omega
theorem set_ex (p:Pg) (nt:Nt) (hnt:NtOk p nt) (l:List St) (hl:szSs l≤900) (hp:szPrs p.procs≤900):∃x:List Int×List Int,SetP p nt l x∧x.1.length≤40000∧x.2.length≤40000:=by
 obtain ⟨S,h1,h2⟩:=ins_ex p l nt.sl hnt.sl hl hp;obtain ⟨A,h3,h4⟩:=ins_ex p l nt.ar hnt.ar hl hp;exact ⟨(S,A),⟨h1,h3⟩,h2,h4⟩
theorem setP_one {p:Pg}{nt:Nt}{l:List St}{x y:List Int×List Int}(h:SetP p nt l x) (h2:SetP p nt l y):x=y :=
 Prod.ext (ris_ext h.1.1 h2.1.1 fun z=>(h.1.2 z).trans (h2.1.2 z).symm) (ris_ext h.2.1 h2.2.1 fun z=>(h.2.2 z).trans (h2.2.2 z).symm)
theorem one_e {f:FuncId}{args:List Value}{p:Pg}{nt:Nt}{l:List St}{x:List Int×List Int}(hx:SetP p nt l x) (h:U.DenE Tryz.prog f args (SetQ p nt l saV)):U.DenU Tryz.prog [] f args (saV x) :=
 ⟨fun z W vs _ hz hv=>(h.out z W vs hz hv).mono fun e w' ⟨u',v,z',⟨y,h1,hy⟩,h2,h3,h4,h5,h6⟩=>⟨v,z',h2,h3,h4,h5,by
  obtain rfl:=setP_one hx hy;rw[h1] at h6;exact h6⟩⟩
theorem set_nil:DenU Tryz.prog [] 11 [setV ([],[]),.slice none 0 0,.slice none 0 0] (.bool true):=by
 refine denU_of_sound hmixU fun Ts=>SoundAt.body hmixU Tryz.func11 rfl rfl rfl 0 ?_
 have c1:DenU Tryz.prog [] 41 [imS (iL []),imS (iL [])] (.bool true):=by have:=ints_same [] [] (by simp);simpa using this
 have hf:∀s:AS,U.FrzL Tryz.prog (U.seen s) [imS (iL []),.slice none 0 0] [imS (iL []),imS (iL [])]:=fun s=>.cons (.clean _ (cleanIL [])) (.cons .nil .nil)
 (repeat' ((conv=>whnf);first|refine goA ?_|refine U.SoundC.uF c1 rfl (hf _) ?_|refine U.SoundAt.c (U.SoundC.uF c1 rfl (hf _) ?_)|refine goB ?_|refine U.lw_c ?_ ?_<;>intro hb))
 (conv=>whnf);exact .same (.flat _ rfl) rfl
theorem set_same (x:List Int×List Int) (h1:x.1.length≤40000) (h2:x.2.length≤40000):DenU Tryz.prog [] 11 [setV x,imS (iL x.1),imS (iL x.2)] (.bool true):=by
 refine denU_of_body hmixU rfl Tryz.func11 rfl rfl rfl 0 ?_;intro Ts;have c1:DenU Tryz.prog [] 41 [imS (iL x.1),imS (iL x.1)] (.bool true):=by have:=ints_same x.1 x.1 (by simp[maxI];omega);simpa using this
 have c2:DenU Tryz.prog [] 41 [imS (iL x.2),imS (iL x.2)] (.bool true):=by have:=ints_same x.2 x.2 (by simp[maxI];omega);simpa using this
 have k1:=cleanIL x.1;have k2:=cleanIL x.2;obtain ⟨S,A⟩:=x;(repeat' ((conv=>whnf);first|refine goD ?_|refine ⟨_,c1,clM,tab0 _,?_⟩|refine ⟨_,c2,clM,tab0 _,?_⟩|refine U.lw_c ?_ ?_<;>intro hb))
 (conv=>whnf);exact .same (.flat _ rfl) rfl
theorem law_d (p:Pg) (l:List St) (hok:OkP p) (hn:NmP p) (hol:okSs l∧l.length≤maxI):DenU Tryz.prog kwT 3 [encP p,imS (encSs l)] (.bool true):=by
 refine denU_of_soundT kw_ok fun Ts=>SoundAt.body hmixU Tryz.func3 rfl rfl rfl 0 ?_
 have hok2:OkP ⟨0,[],[],[],l⟩:=⟨by simp,by simp,by simp,fun x hx=>(by cases hx),hol.1,hol.2⟩
 have c1:=fewIr_d p 250 hok;have c2:=fewIr_d ⟨0,[],[],[],l⟩ 250 hok2;have cw:=works13_d;have kp:=cleanP p;have kl:=cleanSs l;have hz:∀s:AS,U.FrzL Tryz.prog (U.seen s) [.agg ⟨[.int .i64 0,.slice none 0 0,.slice none 0 0,.slice none 0 0,imS (encSs l)]⟩,.int .i64 250] [encP ⟨0,[],[],[],l⟩,.int .i64 250]:=fun s=>.cons (.aggL (.cons (.clean _ (cleanI _)) (.cons .nil (.cons .nil (.cons .nil (.cons (.clean _ kl) .nil)))))) (.cons (.clean _ (cleanI _)) .nil)
 by_cases q1:fewP p 250=true
 ·rw[q1] at c1;by_cases q2:fewP ⟨0,[],[],[],l⟩ 250=true
  ·rw[q2] at c2;have hf:=fewP_ok (by decide) q1
   have hl:szSs l≤900:=by have:=(fewP_ok (by decide) q2).sz;simpa [szPrs] using this
   have hm:szSs p.main≤900:=by have:=hf.sz;omega
   have hpz:szPrs p.procs≤900:=by have:=hf.sz;omega
   have c3:=Ir_d p hf;have w1:=writes_d p hf l hl;have w0:=writes_d p hf p.main hm;have r1:=reads_d p hf l hl;have r0:=reads_d p hf p.main hm;have cr:=rright_p p hf hn;have km:=cleanSs p.main;cases hr:rightP p with
   |false =>
    rw[hr] at cr;rw[setU_no hr] at w1 w0 r1 r0;have s1:=set_nil;(repeat' ((conv=>whnf);first|refine goA ?_|refine U.SoundC.uF c2 rfl (hz _) ?_|refine U.SoundAt.c (U.SoundC.uF c2 rfl (hz _) ?_)|refine goB ?_|refine U.SoundAt.u (c1) clM ?_|refine U.SoundAt.u (cw) clM ?_|refine U.SoundAt.u (c3) clM ?_|refine U.SoundC.u (c1) clM ?_|refine U.SoundC.u (cw) clM ?_|refine U.SoundC.u (c3) clM ?_|refine U.drawX_p (D:=U.propX) 8 [] (by decide +kernel) (by decide +kernel) ?_|refine U.lw_c ?_ ?_<;>intro hb))
    (conv=>whnf);refine loop_inv (α:=Nat) (fun i=>i≤2) (fun i=>(mkF [(1,imS (encSs l)),(2,.pointer (some ⟨1,0,none⟩)),(4,.bool false),(5,.pointer (some ⟨2,0,none⟩)),(6,.int .i64 i)],⟨mkO [(0,kwBlk Ts),(1,some (.cells 27 (cellsOf (encP p)) false)),(2,some (.cells 34 (cellsOf (encP p)) false))],3,1,1⟩)) (fun i=>2-i) 0 (by decide) (Cov.renO (fun k=>k) rfl rfl (bR rfl) (bR rfl) (fun _ _=>rfl) rfl (kp1 (by rfl)) (.W rfl (kwClean) rfl (.W rfl (cleanP_cells p) rfl (.W rfl (cleanP_cells p) rfl .nil))) (.L rfl (kl) rfl (.cons rfl (.P rfl) (.K rfl rfl rfl (.cons rfl (.P rfl) (.cons rfl .I .nil)))))) ?_
    intro i hi2;have h3:i=2∨i=0∨i=1:=by omega
    rcases h3 with rfl|rfl|rfl
    ·(repeat' ((conv=>whnf);first|refine goD ?_|refine U.SoundAt.u (cw) clM ?_|refine U.SoundC.u (cw) clM ?_|refine U.lw_c ?_ ?_<;>intro hb))
     (conv=>whnf);exact .same (.flat _ rfl) rfl
    ·(repeat' ((conv=>whnf);first|refine goA ?_|refine U.SoundAt.u s1 ⟨kSet ([],[]),.flat _ rfl,.flat _ rfl,trivial⟩ ?_|refine U.SoundC.u s1 ⟨kSet ([],[]),.flat _ rfl,.flat _ rfl,trivial⟩ ?_|refine U.SoundAt.uT kw_ok w0 ⟨kp,km,trivial⟩ (tabK rfl rfl) ?_|refine U.SoundC.uT kw_ok w0 ⟨kp,km,trivial⟩ (tabK rfl rfl) ?_|refine U.SoundAt.uT kw_ok r0 ⟨kp,km,trivial⟩ (tabK rfl rfl) ?_|refine U.SoundC.uT kw_ok r0 ⟨kp,km,trivial⟩ (tabK rfl rfl) ?_|refine goB ?_|refine U.SoundAt.u (cr) clM ?_|refine U.SoundC.u (cr) clM ?_|refine U.drawX_p (D:=U.propX) 8 [] (by decide +kernel) (by decide +kernel) ?_|refine U.lw_c ?_ ?_<;>intro hb))
     (conv=>whnf);exact ⟨1,by decide,by decide,(Cov.renO (fun k=>k) rfl rfl (bR rfl) (bR rfl) (fun _ _=>rfl) rfl (kp1 (by rfl)) (.W rfl (kwClean) rfl (.W rfl (cleanP_cells p) rfl (.W rfl (cleanP_cells p) rfl .nil))) (.L rfl (kl) rfl (.cons rfl (.P rfl) (.K rfl rfl rfl (.cons rfl (.P rfl) (.cons rfl .I .nil))))))⟩
    ·(repeat' ((conv=>whnf);first|refine goA ?_|refine U.SoundAt.u s1 ⟨kSet ([],[]),.flat _ rfl,.flat _ rfl,trivial⟩ ?_|refine U.SoundC.u s1 ⟨kSet ([],[]),.flat _ rfl,.flat _ rfl,trivial⟩ ?_|refine U.SoundAt.uT kw_ok w1 ⟨kp,kl,trivial⟩ (tabK rfl rfl) ?_|refine U.SoundC.uT kw_ok w1 ⟨kp,kl,trivial⟩ (tabK rfl rfl) ?_|refine U.SoundAt.uT kw_ok r1 ⟨kp,kl,trivial⟩ (tabK rfl rfl) ?_|refine U.SoundC.uT kw_ok r1 ⟨kp,kl,trivial⟩ (tabK rfl rfl) ?_|refine goB ?_|refine U.SoundAt.u (cr) clM ?_|refine U.SoundC.u (cr) clM ?_|refine U.drawX_p (D:=U.propX) 8 [] (by decide +kernel) (by decide +kernel) ?_|refine U.lw_c ?_ ?_<;>intro hb))
     (conv=>whnf);exact ⟨2,by decide,by decide,(Cov.renO (fun k=>k) rfl rfl (bR rfl) (bR rfl) (fun _ _=>rfl) rfl (kp1 (by rfl)) (.W rfl (kwClean) rfl (.W rfl (cleanP_cells p) rfl (.W rfl (cleanP_cells p) rfl .nil))) (.L rfl (kl) rfl (.cons rfl (.P rfl) (.K rfl rfl rfl (.cons rfl (.P rfl) (.cons rfl .I .nil))))))⟩
   |true =>
    rw[hr] at cr;obtain ⟨xw1,hw1,a1,a2⟩:=set_ex p (wNt p) (ntW p hf.ps) l hl hpz;obtain ⟨xw0,hw0,a3,a4⟩:=set_ex p (wNt p) (ntW p hf.ps) p.main hm hpz;obtain ⟨xr1,hr1,a5,a6⟩:=set_ex p rNt (ntR p) l hl hpz
    obtain ⟨xr0,hr0,a7,a8⟩:=set_ex p rNt (ntR p) p.main hm hpz;rw[← setU_eq hr hw1] at w1;rw[← setU_eq hr hw0] at w0;rw[← setU_eq hr hr1] at r1;rw[← setU_eq hr hr0] at r0;have e1:=one_e hw1 (Writes_e p hf l hl)
    have e0:=one_e hw0 (Writes_e p hf p.main hm);have f1:=one_e hr1 (Reads_e p hf l hl);have f0:=one_e hr0 (Reads_e p hf p.main hm);have s1:=set_same xw1 a1 a2;have s0:=set_same xw0 a3 a4;have t1:=set_same xr1 a5 a6
    have t0:=set_same xr0 a7 a8;have i1:=IrStmts_all 1000 l (by omega) rL
    have i0:=IrStmts_all 1000 p.main (by omega) rL
    have g1:=kSet xw1;have g2:=kSet xw0;have g3:=kSet xr1;have g4:=kSet xr0;clear hw1 hw0 hr1 hr0;(repeat' ((conv=>whnf);first|refine goA ?_|refine U.SoundC.uF c2 rfl (hz _) ?_|refine U.SoundAt.c (U.SoundC.uF c2 rfl (hz _) ?_)|refine goB ?_|refine U.SoundAt.u (c1) clM ?_|refine U.SoundAt.u (cw) clM ?_|refine U.SoundAt.u (c3) clM ?_|refine U.SoundC.u (c1) clM ?_|refine U.SoundC.u (cw) clM ?_|refine U.SoundC.u (c3) clM ?_|refine U.drawX_p (D:=U.propX) 8 [] (by decide +kernel) (by decide +kernel) ?_|refine U.lw_c ?_ ?_<;>intro hb))
    (conv=>whnf);refine loop_inv (α:=Nat) (fun i=>i≤2) (fun i=>(mkF [(1,imS (encSs l)),(2,.pointer (some ⟨1,0,none⟩)),(4,.bool false),(5,.pointer (some ⟨2,0,none⟩)),(6,.int .i64 i)],⟨mkO [(0,kwBlk Ts),(1,some (.cells 27 (cellsOf (encP p)) false)),(2,some (.cells 34 (cellsOf (encP p)) false))],3,1,1⟩)) (fun i=>2-i) 0 (by decide) (Cov.renO (fun k=>k) rfl rfl (bR rfl) (bR rfl) (fun _ _=>rfl) rfl (kp1 (by rfl)) (.W rfl (kwClean) rfl (.W rfl (cleanP_cells p) rfl (.W rfl (cleanP_cells p) rfl .nil))) (.L rfl (kl) rfl (.cons rfl (.P rfl) (.K rfl rfl rfl (.cons rfl (.P rfl) (.cons rfl .I .nil)))))) ?_
    intro i hi2;have h3:i=2∨i=0∨i=1:=by omega
    rcases h3 with rfl|rfl|rfl
    ·(repeat' ((conv=>whnf);first|refine goD ?_|refine U.SoundAt.u (cw) clM ?_|refine U.SoundC.u (cw) clM ?_|refine U.lw_c ?_ ?_<;>intro hb))
     (conv=>whnf);exact .same (.flat _ rfl) rfl
    ·(repeat' ((conv=>whnf);first|refine goA ?_|refine U.SoundAt.uT kw_ok w0 ⟨kp,km,trivial⟩ (tabK rfl rfl) ?_|refine U.SoundC.uT kw_ok w0 ⟨kp,km,trivial⟩ (tabK rfl rfl) ?_|refine U.SoundAt.uT kw_ok r0 ⟨kp,km,trivial⟩ (tabK rfl rfl) ?_|refine U.SoundC.uT kw_ok r0 ⟨kp,km,trivial⟩ (tabK rfl rfl) ?_|refine goB ?_|refine U.SoundAt.u (cr) clM ?_|refine U.SoundAt.u (i0) clM ?_|refine U.SoundAt.u (e0) clM ?_|refine U.SoundAt.u (f0) clM ?_|refine U.SoundAt.u (s0) clM ?_|refine U.SoundAt.u (t0) clM ?_|refine U.SoundC.u (cr) clM ?_|refine U.SoundC.u (i0) clM ?_|refine U.SoundC.u (e0) clM ?_|refine U.SoundC.u (f0) clM ?_|refine U.SoundC.u (s0) clM ?_|refine U.SoundC.u (t0) clM ?_|refine U.drawX_p (D:=U.propX) 8 [] (by decide +kernel) (by decide +kernel) ?_|refine U.lw_c ?_ ?_<;>intro hb))
     (conv=>whnf);exact ⟨1,by decide,by decide,(Cov.renO (fun k=>k) rfl rfl (bR rfl) (bR rfl) (fun _ _=>rfl) rfl (kp1 (by rfl)) (.W rfl (kwClean) rfl (.W rfl (cleanP_cells p) rfl (.W rfl (cleanP_cells p) rfl .nil))) (.L rfl (kl) rfl (.cons rfl (.P rfl) (.K rfl rfl rfl (.cons rfl (.P rfl) (.cons rfl .I .nil))))))⟩
    ·(repeat' ((conv=>whnf);first|refine goA ?_|refine U.SoundAt.uT kw_ok w1 ⟨kp,kl,trivial⟩ (tabK rfl rfl) ?_|refine U.SoundC.uT kw_ok w1 ⟨kp,kl,trivial⟩ (tabK rfl rfl) ?_|refine U.SoundAt.uT kw_ok r1 ⟨kp,kl,trivial⟩ (tabK rfl rfl) ?_|refine U.SoundC.uT kw_ok r1 ⟨kp,kl,trivial⟩ (tabK rfl rfl) ?_|refine goB ?_|refine U.SoundAt.u (cr) clM ?_|refine U.SoundAt.u (i1) clM ?_|refine U.SoundAt.u (e1) clM ?_|refine U.SoundAt.u (f1) clM ?_|refine U.SoundAt.u (s1) clM ?_|refine U.SoundAt.u (t1) clM ?_|refine U.SoundC.u (cr) clM ?_|refine U.SoundC.u (i1) clM ?_|refine U.SoundC.u (e1) clM ?_|refine U.SoundC.u (f1) clM ?_|refine U.SoundC.u (s1) clM ?_|refine U.SoundC.u (t1) clM ?_|refine U.drawX_p (D:=U.propX) 8 [] (by decide +kernel) (by decide +kernel) ?_|refine U.lw_c ?_ ?_<;>intro hb))
     (conv=>whnf);exact ⟨2,by decide,by decide,(Cov.renO (fun k=>k) rfl rfl (bR rfl) (bR rfl) (fun _ _=>rfl) rfl (kp1 (by rfl)) (.W rfl (kwClean) rfl (.W rfl (cleanP_cells p) rfl (.W rfl (cleanP_cells p) rfl .nil))) (.L rfl (kl) rfl (.cons rfl (.P rfl) (.K rfl rfl rfl (.cons rfl (.P rfl) (.cons rfl .I .nil))))))⟩
  ·have q2:fewP ⟨0,[],[],[],l⟩ 250=false:=by simpa using q2
   rw[q2] at c2;(repeat' ((conv=>whnf);first|refine goA ?_|refine U.SoundC.uF c2 rfl (hz _) ?_|refine U.SoundAt.c (U.SoundC.uF c2 rfl (hz _) ?_)|refine goB ?_|refine U.SoundAt.u (c1) clM ?_|refine U.SoundAt.u (cw) clM ?_|refine U.SoundC.u (c1) clM ?_|refine U.SoundC.u (cw) clM ?_|refine U.drawX_p (D:=U.propX) 8 [] (by decide +kernel) (by decide +kernel) ?_|refine U.lw_c ?_ ?_<;>intro hb))
   (conv=>whnf);exact .same (.flat _ rfl) rfl
 ·have q1:fewP p 250=false:=by simpa using q1
  rw[q1] at c1;(repeat' ((conv=>whnf);first|refine goD ?_|refine U.SoundAt.u (c1) clM ?_|refine U.SoundAt.u (cw) clM ?_|refine U.SoundC.u (c1) clM ?_|refine U.SoundC.u (cw) clM ?_|refine U.lw_c ?_ ?_<;>intro hb))
  (conv=>whnf);exact .same (.flat _ rfl) rfl
end Go.Proofs.YtocppbocphnbcaaGreatDoor
namespace Go.Proofs.YtocppbocphnbcaaGreatDoor
open Go Go.ChangeShapes Go.WideShapes Go.ChangeAt Go.RowKit Go.Joins U
set_option linter.unusedVariables false
set_option linter.unusedSimpArgs false
set_option maxRecDepth 100000
set_option maxHeartbeats 40000000
def tysP:List TypeId:=[27,70,56,23,24,52,60,25,50,3,2,9,4,194,57,49,58,22]
theorem tysP_ok:okTys Tryz.prog tysP=true:=by kernel_rfl
theorem cells_Expr:Tryz.prog.cellsOf 60=5:=by kernel_rfl
theorem cells_Stmt:Tryz.prog.cellsOf 52=6:=by kernel_rfl
theorem cells_Input:Tryz.prog.cellsOf 70=5:=by kernel_rfl
theorem cells_Proc:Tryz.prog.cellsOf 56=3:=by kernel_rfl
theorem cells_Program:Tryz.prog.cellsOf 27=5:=by kernel_rfl
theorem okEs_of:∀{l:List Ex},(∀e∈l,okE e)->okEs l
 |[],_=>trivial
 |e::l,h=>⟨h e (by simp),okEs_of fun x hx=>h x (List.mem_cons_of_mem _ hx)⟩
theorem okSs_of:∀{l:List St},(∀e∈l,okS e)->okSs l
 |[],_=>trivial
 |e::l,h=>⟨h e (by simp),okSs_of fun x hx=>h x (List.mem_cons_of_mem _ hx)⟩
theorem pack_E (e:Ex):packV Tryz.prog 60 (cellsOf (encE e))=encE e:=by
 unfold packV;rw[Tryz.underlying60];cases e;rfl
theorem pack_S (e:St):packV Tryz.prog 52 (cellsOf (encS e))=encS e:=by
 unfold packV;rw[Tryz.underlying52];cases e;rfl
theorem exprs_data {n:Nat}(ih:∀k<n,∀us,DatF Tryz.prog k 60 us->∃e:Ex,okE e∧us=cellsOf (encE e)) {us:List Value}(h:DatF Tryz.prog n 50 us):∃l:List Ex,okEs l∧l.length≤maxI∧us=[imS (encEs l)]:=by
 obtain ⟨k,rows,rfl,rfl,hl,hr⟩:=datF_row Tryz.underlying50 h;obtain ⟨l,h1,rfl⟩:=all_map (p:=okE) (g:=fun e=>cellsOf (encE e)) rows fun r hr'=>ih k (by omega) r (hr r hr').2
 refine ⟨l,okEs_of h1,by rw[List.length_map] at hl;exact hl,?_⟩
 rw[List.map_map,encEs_map];congr 2
 exact List.map_congr_left fun e _=>pack_E e
theorem expr_data:∀(n:Nat) (us:List Value),DatF Tryz.prog n 60 us->∃e:Ex,okE e∧us=cellsOf (encE e):=by
 intro n;induction n using Nat.strongRecOn with
 |ind n ih =>
  intro us h;cases n with
  |zero=>exact h.elim
  |succ n =>
   unfold DatF at h;rw[Tryz.underlying60] at h;obtain ⟨hl,h⟩:=h;rw[cells_Expr] at hl;obtain ⟨c0,c1,c2,c3,c4,rfl⟩:∃c0 c1 c2 c3 c4,us=[c0,c1,c2,c3,c4]:=by match us,hl with|[c0,c1,c2,c3,c4],_=>exact ⟨c0,c1,c2,c3,c4,rfl⟩
   have h0:=h _ (List.mem_cons_self ..);have h1:=h _ (List.mem_cons_of_mem _ (List.mem_cons_self ..));have h2:=h _ (List.mem_cons_of_mem _ (List.mem_cons_of_mem _ (List.mem_cons_self ..)));have h3:=h _ (List.mem_cons_of_mem _ (List.mem_cons_of_mem _ (List.mem_cons_of_mem _ (List.mem_cons_self ..))))
   have h4:=h _ (List.mem_cons_of_mem _ (List.mem_cons_of_mem _ (List.mem_cons_of_mem _ (List.mem_cons_of_mem _ (List.mem_cons_self ..)))));obtain ⟨m0,e0⟩:=datF_int Tryz.underlying57 h0;obtain ⟨m1,e1⟩:=datF_int Tryz.underlying2 h1
   obtain ⟨m2,e2⟩:=datF_int Tryz.underlying3 h2;obtain ⟨m3,e3⟩:=datF_int Tryz.underlying58 h3;obtain ⟨l,k1,k2,e4⟩:=exprs_data (fun k hk=>ih k (by omega)) h4
   replace e0:[c0]=_:=e0;replace e1:[c1]=_:=e1;replace e2:[c2]=_:=e2;replace e3:[c3]=_:=e3;replace e4:[c4]=_:=e4;simp only[List.cons.injEq,and_true] at e0 e1 e2 e3 e4;subst e0 e1 e2 e3 e4;exact ⟨.mk m0 m1 m2 m3 l,by rw[okE];exact ⟨k2,k1⟩,rfl⟩
theorem stmts_data {n:Nat}(ih:∀k<n,∀us,DatF Tryz.prog k 52 us->∃e:St,okS e∧us=cellsOf (encS e)) {us:List Value}(h:DatF Tryz.prog n 25 us):∃l:List St,okSs l∧l.length≤maxI∧us=[imS (encSs l)]:=by
 obtain ⟨k,rows,rfl,rfl,hl,hr⟩:=datF_row Tryz.underlying25 h;obtain ⟨l,h1,rfl⟩:=all_map (p:=okS) (g:=fun e=>cellsOf (encS e)) rows fun r hr'=>ih k (by omega) r (hr r hr').2
 refine ⟨l,okSs_of h1,by rw[List.length_map] at hl;exact hl,?_⟩
 rw[List.map_map,encSs_map];congr 2
 exact List.map_congr_left fun e _=>pack_S e
theorem stmt_data:∀(n:Nat) (us:List Value),DatF Tryz.prog n 52 us->∃e:St,okS e∧us=cellsOf (encS e):=by
 intro n;induction n using Nat.strongRecOn with
 |ind n ih =>
  intro us h;cases n with
  |zero=>exact h.elim
  |succ n =>
   unfold DatF at h;rw[Tryz.underlying52] at h;obtain ⟨hl,h⟩:=h;rw[cells_Stmt] at hl;obtain ⟨c0,c1,c2,c3,c4,c5,rfl⟩:∃c0 c1 c2 c3 c4 c5,us=[c0,c1,c2,c3,c4,c5]:=by match us,hl with|[c0,c1,c2,c3,c4,c5],_=>exact ⟨c0,c1,c2,c3,c4,c5,rfl⟩
   have h0:=h _ (List.mem_cons_self ..);have h1:=h _ (List.mem_cons_of_mem _ (List.mem_cons_self ..));have h2:=h _ (List.mem_cons_of_mem _ (List.mem_cons_of_mem _ (List.mem_cons_self ..)));have h3:=h _ (List.mem_cons_of_mem _ (List.mem_cons_of_mem _ (List.mem_cons_of_mem _ (List.mem_cons_self ..))))
   have h4:=h _ (List.mem_cons_of_mem _ (List.mem_cons_of_mem _ (List.mem_cons_of_mem _ (List.mem_cons_of_mem _ (List.mem_cons_self ..)))));have h5:=h _ (List.mem_cons_of_mem _ (List.mem_cons_of_mem _ (List.mem_cons_of_mem _ (List.mem_cons_of_mem _ (List.mem_cons_of_mem _ (List.mem_cons_self ..))))))
   obtain ⟨m0,e0⟩:=datF_int Tryz.underlying49 h0;obtain ⟨m1,e1⟩:=datF_int Tryz.underlying3 h1;obtain ⟨xs,k1,k2,e2⟩:=exprs_data (fun k _=>expr_data k) h2
   obtain ⟨th,k3,k4,e3⟩:=stmts_data (fun k hk=>ih k (by omega)) h3
   obtain ⟨el,k5,k6,e4⟩:=stmts_data (fun k hk=>ih k (by omega)) h4
   obtain ⟨m5,e5⟩:=datF_int Tryz.underlying3 h5;replace e0:[c0]=_:=e0;replace e1:[c1]=_:=e1;replace e2:[c2]=_:=e2;replace e3:[c3]=_:=e3;replace e4:[c4]=_:=e4;replace e5:[c5]=_:=e5;simp only[List.cons.injEq,and_true] at e0 e1 e2 e3 e4 e5
   subst e0 e1 e2 e3 e4 e5;exact ⟨.mk m0 m1 xs th el m5,by rw[okS];exact ⟨k2,k1,k4,k3,k6,k5⟩,rfl⟩
theorem ints_data {n:Nat}{us:List Value}(h:DatF Tryz.prog n 22 us):∃l:List Int,l.length≤maxI∧us=[imS (iL l)]:=by
 obtain ⟨k,rows,rfl,rfl,hl,hr⟩:=datF_row Tryz.underlying22 h;obtain ⟨l,_,rfl⟩:=all_map (p:=fun _=>True) (g:=fun m:Int=>[Value.int .i64 m]) rows fun r hr'=>by
  obtain ⟨m,hm⟩:=datF_int Tryz.underlying3 (hr r hr').2;exact ⟨m,trivial,hm⟩
 refine ⟨l,by rw[List.length_map] at hl;exact hl,?_⟩
 rw[List.map_map];congr 2
theorem input_data {n:Nat}{us:List Value}(h:DatF Tryz.prog n 70 us):∃x:In13,(x.nm.size≤maxI)∧us=cellsOf (encIn x):=by
 cases n with
 |zero=>exact h.elim
 |succ n =>
  unfold DatF at h;rw[Tryz.underlying70] at h;obtain ⟨hl,h⟩:=h;rw[cells_Input] at hl;obtain ⟨c0,c1,c2,c3,c4,rfl⟩:∃c0 c1 c2 c3 c4,us=[c0,c1,c2,c3,c4]:=by match us,hl with|[c0,c1,c2,c3,c4],_=>exact ⟨c0,c1,c2,c3,c4,rfl⟩
  have h0:=h _ (List.mem_cons_self ..);have h1:=h _ (List.mem_cons_of_mem _ (List.mem_cons_self ..));have h2:=h _ (List.mem_cons_of_mem _ (List.mem_cons_of_mem _ (List.mem_cons_self ..)));have h3:=h _ (List.mem_cons_of_mem _ (List.mem_cons_of_mem _ (List.mem_cons_of_mem _ (List.mem_cons_self ..))))
  have h4:=h _ (List.mem_cons_of_mem _ (List.mem_cons_of_mem _ (List.mem_cons_of_mem _ (List.mem_cons_of_mem _ (List.mem_cons_self ..)))));obtain ⟨m0,e0,k0⟩:=datF_str Tryz.underlying9 h0;obtain ⟨m1,e1⟩:=datF_int Tryz.underlying3 h1
  obtain ⟨m2,e2⟩:=datF_int Tryz.underlying2 h2;obtain ⟨m3,e3⟩:=datF_int Tryz.underlying2 h3;obtain ⟨m4,e4⟩:=datF_bool Tryz.underlying4 h4;replace e0:[c0]=_:=e0;replace e1:[c1]=_:=e1;replace e2:[c2]=_:=e2
  replace e3:[c3]=_:=e3;replace e4:[c4]=_:=e4;simp only[List.cons.injEq,and_true] at e0 e1 e2 e3 e4;subst e0 e1 e2 e3 e4;exact ⟨⟨m0,m1,m2,m3,m4⟩,k0,rfl⟩
theorem inputs_data {n:Nat}{us:List Value}(h:DatF Tryz.prog n 23 us):∃l:List In13,(l.length≤maxI∧∀x∈l,x.nm.size≤maxI)∧us=[imS (inL l)]:=by
 obtain ⟨k,rows,rfl,rfl,hl,hr⟩:=datF_row Tryz.underlying23 h;obtain ⟨l,h1,rfl⟩:=all_map (p:=fun x:In13=>x.nm.size≤maxI) (g:=fun b=>cellsOf (encIn b)) rows fun r hr'=>input_data (hr r hr').2
 refine ⟨l,⟨by rw[List.length_map] at hl;exact hl,h1⟩,?_⟩
 rw[List.map_map,inL_map];congr 2
theorem proc_data {n:Nat}{us:List Value}(h:DatF Tryz.prog n 56 us):∃x:Pr13,(x.nm.size≤maxI∧okSs x.body∧x.body.length≤maxI∧x.ps.length≤maxI)∧us=cellsOf (encPr x):=by
 cases n with
 |zero=>exact h.elim
 |succ n =>
  unfold DatF at h;rw[Tryz.underlying56] at h;obtain ⟨hl,h⟩:=h;rw[cells_Proc] at hl;obtain ⟨c0,c1,c2,rfl⟩:∃c0 c1 c2,us=[c0,c1,c2]:=by match us,hl with|[c0,c1,c2],_=>exact ⟨c0,c1,c2,rfl⟩
  have h0:=h _ (List.mem_cons_self ..);have h1:=h _ (List.mem_cons_of_mem _ (List.mem_cons_self ..));have h2:=h _ (List.mem_cons_of_mem _ (List.mem_cons_of_mem _ (List.mem_cons_self ..)));obtain ⟨m0,e0,k0⟩:=datF_str Tryz.underlying9 h0
  obtain ⟨m1,k1,e1⟩:=ints_data h1;obtain ⟨m2,k2,k3,e2⟩:=stmts_data (fun k _=>stmt_data k) h2
  replace e0:[c0]=_:=e0;replace e1:[c1]=_:=e1;replace e2:[c2]=_:=e2;simp only[List.cons.injEq,and_true] at e0 e1 e2;subst e0 e1 e2;exact ⟨⟨m0,m1,m2⟩,⟨k0,k2,k3,k1⟩,rfl⟩
theorem procs_data {n:Nat}{us:List Value}(h:DatF Tryz.prog n 24 us):∃l:List Pr13,(l.length≤maxI∧∀x∈l,x.nm.size≤maxI∧okSs x.body∧x.body.length≤maxI∧x.ps.length≤maxI)∧us=[imS (prL l)]:=by
 obtain ⟨k,rows,rfl,rfl,hl,hr⟩:=datF_row Tryz.underlying24 h;obtain ⟨l,h1,rfl⟩:=all_map (p:=fun x:Pr13=>x.nm.size≤maxI∧okSs x.body∧x.body.length≤maxI∧x.ps.length≤maxI) (g:=fun b=>cellsOf (encPr b)) rows fun r hr'=>proc_data (hr r hr').2
 refine ⟨l,⟨by rw[List.length_map] at hl;exact hl,h1⟩,?_⟩
 rw[List.map_map,prL_map];congr 2
theorem program_data {n:Nat}{us:List Value}(h:DatF Tryz.prog n 27 us):∃p:Pg,(OkP p∧NmP p)∧us=cellsOf (encP p):=by
 cases n with
 |zero=>exact h.elim
 |succ n =>
  unfold DatF at h;rw[Tryz.underlying27] at h;obtain ⟨hl,h⟩:=h;rw[cells_Program] at hl;obtain ⟨c0,c1,c2,c3,c4,rfl⟩:∃c0 c1 c2 c3 c4,us=[c0,c1,c2,c3,c4]:=by match us,hl with|[c0,c1,c2,c3,c4],_=>exact ⟨c0,c1,c2,c3,c4,rfl⟩
  have h0:=h _ (List.mem_cons_self ..);have h1:=h _ (List.mem_cons_of_mem _ (List.mem_cons_self ..));have h2:=h _ (List.mem_cons_of_mem _ (List.mem_cons_of_mem _ (List.mem_cons_self ..)));have h3:=h _ (List.mem_cons_of_mem _ (List.mem_cons_of_mem _ (List.mem_cons_of_mem _ (List.mem_cons_self ..))))
  have h4:=h _ (List.mem_cons_of_mem _ (List.mem_cons_of_mem _ (List.mem_cons_of_mem _ (List.mem_cons_of_mem _ (List.mem_cons_self ..)))));obtain ⟨m0,e0⟩:=datF_int Tryz.underlying3 h0;obtain ⟨m1,k1,e1⟩:=ints_data h1
  obtain ⟨m2,k2,e2⟩:=inputs_data h2;obtain ⟨m3,k3,e3⟩:=procs_data h3;obtain ⟨m4,k4,k5,e4⟩:=stmts_data (fun k _=>stmt_data k) h4
  replace e0:[c0]=_:=e0;replace e1:[c1]=_:=e1;replace e2:[c2]=_:=e2;replace e3:[c3]=_:=e3;replace e4:[c4]=_:=e4;simp only[List.cons.injEq,and_true] at e0 e1 e2 e3 e4;subst e0 e1 e2 e3 e4;exact ⟨⟨m0,m1,m2,m3,m4⟩,⟨⟨k1,k2.1,k3.1,fun x hx=>(k3.2 x hx).2,k4,k5⟩,⟨k2.2,fun x hx=>(k3.2 x hx).1⟩⟩,rfl⟩
theorem open_program {H:Type}{enc:TypeId×Value->H}{W:World}{v:Value}{d:DataW H}{p:List MemPlace}{b0 base:Nat}{r:Reach}{held:Bool}(hv:Value.okWide Tryz.prog W r b0 27 v) (h:DataW.Trod enc Tryz.prog W base (fun _=>true) held 27 v d p):∃s:Pg,(OkP s∧NmP s)∧VR (bz W) (encP s) v:=by
 obtain ⟨cs,rfl,_⟩:=okWide_struct Tryz.underlying27 hv;obtain ⟨fuel,hf⟩:=h;obtain ⟨us,h1,h2,_⟩:=open_data tysP_ok fuel _ _ _ (by decide) hf
 obtain ⟨s,h3,rfl⟩:=program_data h1;refine ⟨s,h3,?_⟩;obtain ⟨l⟩:=cs;exact .agg _ _ h2.1 h2.2
theorem open_stmts {H:Type}{enc:TypeId×Value->H}{W:World}{v:Value}{d:DataW H}{p:List MemPlace}{b0 base:Nat}{r:Reach}{held:Bool}(hv:Value.okWide Tryz.prog W r b0 25 v) (h:DataW.Trod enc Tryz.prog W base (fun _=>true) held 25 v d p):∃l:List St,(okSs l∧l.length≤maxI)∧VR (bz W) (imS (encSs l)) v:=by
 obtain ⟨a,n,c,rfl⟩:=okWide_slice Tryz.underlying25 hv;obtain ⟨fuel,hf⟩:=h;obtain ⟨us,h1,h2,_⟩:=open_data tysP_ok fuel _ _ _ (by decide) hf
 obtain ⟨l,k1,k2,rfl⟩:=stmts_data (fun k _=>stmt_data k) h1
 exact ⟨l,⟨k1,k2⟩,h2.2 0 _ _ rfl rfl⟩
end Go.Proofs.YtocppbocphnbcaaGreatDoor
