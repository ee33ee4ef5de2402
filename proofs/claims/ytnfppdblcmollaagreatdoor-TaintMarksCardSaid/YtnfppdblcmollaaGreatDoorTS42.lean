
import Derived.Test.YtnfppdblcmollaaGreatDoorTS34
import Derived.Test.YtnfppdblcmollaaGreatDoorTS39
import Derived.Test.YtnfppdblcmollaaGreatDoorTS41
namespace Go.Proofs.YtnfppdblcmollaaGreatDoor
open Go Go.RowKit Go.Sort U
set_option linter.unusedVariables false
set_option linter.unusedSimpArgs false
set_option maxRecDepth 100000
set_option maxHeartbeats 40000000
theorem find_congr {α:Type}{p q:α->Bool}:∀{l:List α},(∀v∈l,p v=q v)->l.find? p=l.find? q
 |[],_=>rfl
 |a::l,h=>by
  rw[List.find?_cons,List.find?_cons,h a (by simp),find_congr fun v hv=>h v (by simp[hv])]
theorem rdy_eq {R S:List (List Int)}{out:List Int}{v:Nat}(h:∀t,t∈R.getD v []↔t∈S.getD v []):rdy R out v=rdy S out v:=by
 unfold rdy;congr 1
 rw[Bool.eq_iff_iff,List.all_eq_true,List.all_eq_true];exact ⟨fun k t ht=>k t ((h t).2 ht),fun k t ht=>k t ((h t).1 ht)⟩
theorem order_eq {R S:List (List Int)}(hl:R.length=S.length) (h:∀v t,t∈R.getD v []↔t∈S.getD v []):orderR R=orderR S:=by
 have hs:∀out,stepO R out=stepO S out:=fun out=>by
  unfold stepO;rw[hl];exact find_congr fun v _=>rdy_eq (h v)
 have hg:∀k out,greedy R k out=greedy S k out:=fun k=>by
  induction k with
  |zero=>intro out;rfl
  |succ k ih =>
   intro out;rw[greedy,greedy,hs];cases stepO S out with
   |none=>rfl
   |some v=>exact ih _
 unfold orderR;rw[hg,hl]
theorem rowR_iff {g:Gz}(hr:rightG g=true) {r:List Int}(h:r∈g.st) (t:Int):t∈rowR g.nm.length r↔t∈r:=by
 simp only[rightG,Bool.and_eq_true,List.all_eq_true,okT,decide_eq_true_eq] at hr;rw[rowR_mem];constructor
 ·rintro ⟨i,_,_,h2⟩
  exact h2
 ·intro ht;obtain ⟨b1,b2⟩:=hr.2 r h t ht;exact ⟨t.toNat,by omega,by omega,ht⟩
theorem order_callees {g:Gz}(hr:rightG g=true):orderR (calleesR g)=orderR g.st:=by
 refine order_eq (by simp[calleesR]) fun v t=>?_
 by_cases hv:v<g.st.length
 ·rw[show (calleesR g).getD v []=rowR g.nm.length g.st[v] by simp[calleesR,hv],show g.st.getD v []=g.st[v] by simp[hv]]
  exact rowR_iff hr (List.getElem_mem hv) t
 ·rw[show (calleesR g).getD v []=[] by simp[calleesR,hv],show g.st.getD v []=[] by simp[hv]]
def ordG (g:Gz):List Int×Bool:=if rightG g=true then orderR g.st else ([],false)
theorem order_g (g:Gz) (hg:okG g) (hst:g.st.length≤29000) (hs:sumL g.st≤500000):DenU Tryz.prog [] 49 [encG g] (ordV (ordG g)):=by
 by_cases hr:rightG g=true
 ·rw[ordG,if_pos hr,← order_callees hr];exact order_d g hg hr hst hs
 ·have hr':rightG g=false:=by simpa using hr
  rw[ordG,if_neg hr];refine denU_of_body hmixU rfl Tryz.func49 rfl rfl rfl 0 ?_;intro Ts;have c1:=cright_d g hg;rw[hr'] at c1;obtain ⟨nm,st⟩:=g;have cg:=cleanG ⟨nm,st⟩;(repeat' ((conv=>whnf);first|refine goD ?_|refine ⟨_,c1,clM,tab0 _,?_⟩|refine U.lw_c ?_ ?_<;>intro hb))
  (conv=>whnf);exact .tupL (.cons .nil (.cons (.clean _ (.flat _ rfl)) .nil))
def stmtsB (p:Pg):Bool:=nums (preP p) 0&&(preP p).all (standsB p)
def hedP (p:Pg):Bool:=decide (0≤p.slots)&&decide (p.slots≤1048576)&&arrsB p.arrs&&(insB p.ins&&prsB p.procs)&&slotB p
def rightP (p:Pg):Bool:=hedP p&&stmtsB p&&(ordG (graphP p)).2
theorem sumL_app (a b:List (List Int)):sumL (a++b)=sumL a+sumL b:=by simp[sumL]
theorem graph_sum (p:Pg):sumL (graphP p).st≤szPrs p.procs+szSs p.main:=by
 have h:∀l:List Pr13,sumL (l.map fun x=>callL (allSs x.body))≤szPrs l:=fun l=>by
  induction l with
  |nil=>simp[sumL,szPrs]
  |cons x l ih =>
   have h1:=callL_len (allSs x.body);have h2:=allSs_len x.body;rw[List.map_cons,szPrs];have:sumL (callL (allSs x.body)::l.map fun x=>callL (allSs x.body))=(callL (allSs x.body)).length+sumL (l.map fun x=>callL (allSs x.body)):=by simp[sumL]
   omega
 have h1:=h p.procs;have h2:=callL_len (allSs p.main);have h3:=allSs_len p.main;unfold graphP;rw[sumL_app];have:sumL [callL (allSs p.main)]=(callL (allSs p.main)).length:=by simp[sumL]
 omega
theorem graph_ok (p:Pg) (hf:FewP p):okG (graphP p)∧(graphP p).st.length≤29000∧sumL (graphP p).st≤500000:=by
 have h1:=graph_sum p;have h2:=hf.procs;have h3:=hf.sz;have hs:∀(l:List (List Int)),∀r∈l,r.length≤sumL l:=fun l=>by
  induction l with
  |nil=>intro r hr;cases hr
  |cons x l ih =>
   intro r hr;have e:sumL (x::l)=x.length+sumL l:=by simp[sumL]
   rcases List.mem_cons.1 hr with rfl|hr
   ·omega
   ·have:=ih r hr;omega
 refine ⟨⟨?_,?_,fun r hr=>?_⟩,?_,by omega⟩
 ·show (p.procs.map (·.nm)).length≤_
  rw[List.length_map];omega
 ·show (p.procs.map (fun x=>callL (allSs x.body))++[callL (allSs p.main)]).length≤maxI
  rw[List.length_append,List.length_map];simp[maxI];omega
 ·have:=hs _ r hr;exact Nat.le_trans this (by simp[maxI];omega)
 ·show (p.procs.map (fun x=>callL (allSs x.body))++[callL (allSs p.main)]).length≤29000
  rw[List.length_append,List.length_map];simp;omega
mutual
theorem allS_sz:∀(s x:St),x∈allS s->szS x≤szS s
 |.mk k a xs th el no,x,h=>by
  rw[allS,List.mem_cons,List.mem_append] at h;rcases h with rfl|h|h
  ·exact Nat.le_refl _
  ·have:=allSs_sz th x h;rw[szS];omega
  ·have:=allSs_sz el x h;rw[szS];omega
theorem allSs_sz:∀(l:List St) (x:St),x∈allSs l->szS x≤szSs l
 |[],x,h=>by rw[allSs] at h;cases h
 |e::l,x,h=>by
  rw[allSs,List.mem_append] at h;rw[szSs];rcases h with h|h
  ·have:=allS_sz e x h;omega
  ·have:=allSs_sz l x h;omega
end
theorem preP_sz {p:Pg}{s:St}(h:s∈preP p):szS s≤szPrs p.procs+szSs p.main:=by
 rw[preP,List.mem_append] at h;rcases h with h|h
 ·obtain ⟨x,hx,h⟩:=List.mem_flatMap.1 h;have:=allSs_sz x.body s h;have:=szPrs_mem hx;omega
 ·have:=allSs_sz p.main s h;omega
noncomputable def rangeR:List Tmp×Code×Code:=rangeF Tryz.f8.body
noncomputable def lpR (st:LoopState) (pe:Option Code):U.Blk:=.loop st pe (mkF [(1,.pointer (some ⟨1,0,none⟩)),(2,.pointer (some ⟨2,0,none⟩)),(3,.pointer (some ⟨3,0,none⟩))]) 55 rangeR.1 rangeR.2.1 rangeR.2.2
noncomputable def stR (Ts:Nat->TypeId) (p:Pg) (i:Nat) (st:LoopState) (pe:Option Code):AS:=⟨mkO [(0,kwBlk Ts),(1,some (.cells 27 (cellsOf (encP p)) false)),(2,some (.cells 4 [.bool false] false)),(3,some (.cells 3 [.int .i64 i] false)),(5,some (lpR st pe))],6,1,1⟩
theorem lpR_ren {n:Nat}{ρ:U.Ren}{fr:Tr Value}{st:LoopState}{pe:Option Code}{N:Nat}{ps:List Tmp}{asg bo:Code}(hn:3<n) (h0:ρ 1=1) (h1:ρ 2=2) (h2:ρ 3=3) (e0:N=55) (e1:ps=rangeR.1) (e2:asg=rangeR.2.1) (e3:bo=rangeR.2.2) (g1:Tr.at (pt 1) fr=some (.pointer (some ⟨1,0,none⟩))) (g2:Tr.at (pt 2) fr=some (.pointer (some ⟨2,0,none⟩))) (g3:Tr.at (pt 3) fr=some (.pointer (some ⟨3,0,none⟩))):U.RenB n ρ (lpR st pe) (.loop st pe fr N ps asg bo):=by
 subst e0;subst e1;subst e2;subst e3;exact RenB.lp (.cons g1 (.ptr _ _ _ (by omega) h0) (.cons g2 (.ptr _ _ _ (by omega) h1) (.cons g3 (.ptr _ _ _ hn h2) .nil)))
theorem roundR (Ts:Nat->TypeId) (p:Pg) (hp:p.procs.length≤20) (i:Nat) (hi:i≤1000) (s:St) (hs:szS s≤1000):SoundRound Tryz.prog 5 [ptS s] (stR Ts p i .ready none) fun u t=>(u=.bool true∧noS s=i∧standsB p s=true∧CovS Tryz.prog 6 t (stR Ts p (i+1) .ready none))∨(u=.bool false∧(¬noS s=i∨standsB p s=false)∧CovS Tryz.prog 6 t (stR Ts p i (doneC (some .ret)) (some .ret))):=by
 refine SoundRound.run hmixU 0 ?_;have h1:=stands_d p hp s hs;have hcp:=cleanP p;have hcs:=cleanPt s;have hw:=wadd1 (i:=i) (by omega)
 generalize hq:standsB p s=q at h1
 obtain ⟨k,a,xs,th,el,no⟩:=s;obtain ⟨sl,arrs,ins,procs,main⟩:=p;(repeat' ((conv=>whnf);first|refine goD ?_|refine U.SoundAt.u (h1) clM ?_|refine U.SoundC.u (h1) clM ?_|refine U.drawX_p (D:=U.propX) 12 [] (by decide +kernel) (by decide +kernel) ?_|refine U.lw_c ?_ ?_<;>intro hb))
 all_goals (conv=>whnf)
 ·exact .inr ⟨rfl,.inl (fun e=>by have hb:(no != (i:Int))=true:=hb;have e:no=i:=e;simp[e] at hb),CovS.of ((Cov.renO (fun k=>k) rfl rfl (bR rfl) (bR rfl) (fun _ _=>rfl) rfl (kp1 (by rfl)) (.W rfl (kwClean) rfl (.W rfl ((fun c hc=>cleanP_cells ⟨sl,arrs,ins,procs,main⟩ c hc)) rfl (.C rfl (.K rfl rfl .nil) (.C rfl (.cons .I .nil) (.cons rfl (lpR_ren (by decide) rfl rfl rfl rfl rfl rfl rfl rfl rfl rfl) .nil))))) .nil))⟩
 ·exact .inr ⟨rfl,.inr (by simpa using hb),CovS.of ((Cov.renO (fun k=>k) rfl rfl (bR rfl) (bR rfl) (fun _ _=>rfl) rfl (kp1 (by rfl)) (.W rfl (kwClean) rfl (.W rfl ((fun c hc=>cleanP_cells ⟨sl,arrs,ins,procs,main⟩ c hc)) rfl (.C rfl (.K rfl rfl .nil) (.C rfl (.cons .I .nil) (.cons rfl (lpR_ren (by decide) rfl rfl rfl rfl rfl rfl rfl rfl rfl rfl) .nil))))) .nil))⟩
 ·rename_i hb0;exact .inl ⟨rfl,by have hb0:(no != (i:Int))=false:=hb0;show no=(i:Int);simpa using hb0,by simpa using hb,CovS.of ((Cov.renO (fun k=>k) rfl rfl (bR rfl) (bR rfl) (fun _ _=>rfl) rfl (kp1 (by rfl)) (.W rfl (kwClean) rfl (.W rfl ((fun c hc=>cleanP_cells ⟨sl,arrs,ins,procs,main⟩ c hc)) rfl (.C rfl (.K rfl rfl .nil) (.C rfl (.L (cleanI _) (congrArg (Value.int .i64) (hw.symm)) .nil) (.cons rfl (lpR_ren (by decide) rfl rfl rfl rfl rfl rfl rfl rfl rfl rfl) .nil))))) .nil))⟩
theorem nums_no {pr q:List St}{s:St}(h:¬noS s=pr.length):nums (pr++s::q) 0=false:=by
 rw[nums_app,nums,Int.zero_add,decide_eq_false h];simp
theorem right_d (p:Pg) (hf:FewP p):DenU Tryz.prog kwT 8 [encP p] (.bool (rightP p)):=by
 refine denU_of_soundT kw_ok fun Ts=>SoundAt.body hmixU Tryz.func8 rfl rfl rfl 0 ?_
 have c1:=rarr_d p.arrs hf.arrs;have c2:=rnames_d p hf.ins hf.procs;have c3:=rslots_d p hf.ins hf.procs hf.ps;have c4:=graph_d p hf;obtain ⟨g1,g2,g3⟩:=graph_ok p hf;have c5:=order_g (graphP p) g1 g2 g3
 have k1:=cleanP p;have k2:=cleanG (graphP p);have hpl:=preP_len p;have hsz:=hf.sz;have hin:∀s∈preP p,szS s≤1000:=fun s hs=>by have:=preP_sz hs;omega
 unfold rightP hedP;generalize hq1:(insB p.ins&&prsB p.procs)=q1 at *
 generalize slotB p=q2 at *
 generalize hst:stmtsB p=e0 at *
 generalize graphP p=gg at *
 generalize ordG gg=og at *
 obtain ⟨ol,ob⟩:=og;obtain ⟨sl,arrs,ins,procs,main⟩:=p;generalize arrsB arrs=q3 at *
 dsimp only at *;(repeat' ((conv=>whnf);first|refine goA ?_|refine U.SoundAt.uT kw_ok c2 ⟨k1,trivial⟩ (tabK rfl rfl) ?_|refine U.SoundAt.body hmixU Tryz.func47 rfl rfl rfl 0 ?_|refine goB ?_|refine U.SoundAt.u (c1) clM ?_|refine U.SoundAt.u (c3) clM ?_|refine U.SoundC.u (c1) clM ?_|refine U.SoundC.u (c3) clM ?_|refine U.lw_c ?_ ?_<;>intro hb))
 all_goals (conv=>whnf)
 all_goals try (refine .same (.flat _ rfl) (congrArg Value.bool ?_)<;>(clear hin hst c1 c2 c3 c4 c5 k1 k2 g1 g2 g3 hf;grind))
 rename_i z1 z2 z3 z4;have y1:q3=true:=by simpa using z3
 have y2:q1=true:=by simpa using z4
 have y3:q2=true:=by simpa using hb
 have y4:decide (0≤sl)=true:=by have z1:¬sl<0:=of_decide_eq_false z1;exact decide_eq_true (by omega)
 have y5:decide (sl≤1048576)=true:=by have z2:¬sl > 1048576:=of_decide_eq_false z2;exact decide_eq_true (by omega)
 subst y1 y2 y3;rw[y4,y5];obtain ⟨A,hA⟩:∃A,A=preP ⟨sl,arrs,ins,procs,main⟩:=⟨_,rfl⟩
 have hit:=stmts_q ⟨sl,arrs,ins,procs,main⟩ hf;rw[← hA] at hit hpl hin;unfold stmtsB at hst;rw[← hA] at hst;refine SoundAt.iterQ (l:=5) rfl rfl hit ⟨.imp _ _ fun c hc=>cleanP_cells ⟨sl,arrs,ins,procs,main⟩ c hc,trivial⟩ (fun vs=>stR Ts ⟨sl,arrs,ins,procs,main⟩ (A.length-vs.length) .ready none) (fun vs=>∃pr q:List St,A=pr++q∧vs=ptrS q∧nums pr 0=true∧pr.all (standsB ⟨sl,arrs,ins,procs,main⟩)=true) (fun i:Nat=>stR Ts ⟨sl,arrs,ins,procs,main⟩ i (doneC (some .ret)) (some .ret)) (fun _=>e0=false) ⟨[],A,rfl,rfl,rfl,rfl⟩ [(0,yl 5),(1,imP (encP ⟨sl,arrs,ins,procs,main⟩) 0)] ?_ rfl ?_ ?_ ?_ ?_ ?_ ?_ ?_
 ·exact Cov.boxF (fun k=>k) 4 (encP ⟨sl,arrs,ins,procs,main⟩) (T:=27) (xs:=cellsOf (encP ⟨sl,arrs,ins,procs,main⟩)) rfl rfl (bR rfl) (bR rfl) (fun _ _=>rfl) rfl (kp1 (by rfl)) (bR rfl) rfl rfl rfl (by simp[encP,cellsOf]) (fun c hc=>cleanP_cells ⟨sl,arrs,ins,procs,main⟩ c hc) (.W rfl (kwClean) rfl (.W rfl ((fun c hc=>cleanP_cells ⟨sl,arrs,ins,procs,main⟩ c hc)) rfl (.C rfl (.K rfl rfl .nil) (.C rfl (.L (cleanI _) (congrArg (Value.int .i64) ((by rw[ptrS,List.length_map];simp))) .nil) (.cons rfl (lpR_ren (by decide) rfl rfl rfl rfl rfl rfl rfl rfl rfl rfl) .nil))))) (.cons rfl (.yld _ _ (by decide) rfl) (.cons rfl (.ext _ _ ⟨rfl,rfl⟩) .nil))
 ·intro i u hu;rcases i with _|_|i
  ·cases hu;rfl
  ·cases hu;rfl
  ·simp at hu
 ·show 5<6
  decide
 ·intro ts' _
  exact ⟨rfl,rfl,bR rfl,(kp1 (by rfl)),rfl⟩
 ·intro b _;exact ⟨rfl,rfl,bR rfl,(kp1 (by rfl)),rfl⟩
 ·rintro x ts' _ ⟨pr,q,hAq,hvs,hn,hall⟩
  rcases q with _|⟨s,q⟩
  ·cases hvs
  ·rw[ptrS,List.map_cons] at hvs;obtain ⟨rfl,rfl⟩:=List.cons.inj hvs;have hl:=congrArg List.length hAq;rw[List.length_append,List.length_cons] at hl;have e1:A.length-(ptS s::List.map ptS q).length=pr.length:=by rw[List.length_cons,List.length_map];omega
   have e2:A.length-(List.map ptS q).length=pr.length+1:=by rw[List.length_map];omega
   rw[e1,e2];refine (roundR Ts ⟨sl,arrs,ins,procs,main⟩ hf.procs pr.length (by omega) s (hin s (by rw[hAq];simp))).mono fun u t _ h=>?_
   rcases h with ⟨h1,h2,h3,h4⟩|⟨h1,h2,h3⟩
   ·exact .inl ⟨h1,⟨pr++[s],q,by rw[hAq];simp,rfl,by rw[nums_app,hn,nums,Int.zero_add,decide_eq_true h2];rfl,by rw[List.all_append,hall];simp[h3]⟩,h4⟩
   ·refine .inr ⟨h1,pr.length,?_,h3⟩;rw[← hst,hAq];rcases h2 with h2|h2
    ·rw[nums_no h2];rfl
    ·rw[List.all_append,List.all_cons,h2];simp
 ·rintro ⟨pr,q,hAq,hvs,hn,hall⟩
  rcases q with _|⟨s,q⟩
  ·rw[List.append_nil] at hAq;have he:e0=true:=by rw[← hst,hAq,hn,hall];rfl
   subst he;(repeat' ((conv=>whnf);first|refine goD ?_|refine U.SoundAt.u (c4) clM ?_|refine U.SoundAt.u (c5) clM ?_|refine U.SoundC.u (c4) clM ?_|refine U.SoundC.u (c5) clM ?_|refine U.lw_c ?_ ?_<;>intro hb))
   (conv=>whnf);exact .same (.flat _ rfl) rfl
  ·cases hvs
 ·intro i he;rw[he];(repeat' ((conv=>whnf);first|refine goD ?_|refine U.lw_c ?_ ?_<;>intro hb))
  (conv=>whnf);exact .same (.flat _ rfl) rfl
end Go.Proofs.YtnfppdblcmollaaGreatDoor
