
import Derived.Test.YtocppbocphnbcaaGreatDoorXS29
import Derived.Test.YtocppbocphnbcaaGreatDoorXS30
import Derived.Test.YtocppbocphnbcaaGreatDoorXS33
import Derived.Test.YtocppbocphnbcaaGreatDoorXS34
namespace Go.Proofs.YtocppbocphnbcaaGreatDoor
open Go Go.RowKit Go.Sort U
set_option linter.unusedVariables false
set_option linter.unusedSimpArgs false
set_option maxRecDepth 100000
set_option maxHeartbeats 40000000
theorem rhas_d (l:List Int) (n:Int) (hl:l.length≤maxI):DenU Tryz.prog [] 73 [imS (iL l),.int .i64 n] (.bool (decide (n∈l))):=by
 refine denU_of_body hmixU rfl Tryz.func73 rfl rfl rfl 0 ?_;intro Ts;(repeat' ((conv=>whnf);first|refine goD ?_|refine U.lw_c ?_ ?_<;>intro hb))
 (conv=>whnf);refine loop_inv (α:=List Int×List Int) (fun x=>x.1++x.2=l∧n∉x.1) (fun x=>(mkF [(0,imS (iL l)),(1,.int .i64 n),(4,.bool false),(5,.int .i64 x.1.length)],⟨.e,0,0,0⟩)) (fun x=>x.2.length) ([],l) ⟨rfl,by simp⟩ (Cov.slots rL ⟨rfl,rfl,rfl,rfl,trivial⟩) ?_
 rintro ⟨pre,rest⟩ ⟨p1,p2⟩
 dsimp only at p1 p2;subst p1;dsimp only;rcases rest with _|⟨x,rest⟩
 ·rw[List.append_nil] at *;have h3b:=U.lt_no iL_map pre;(repeat' ((conv=>whnf);first|refine goD ?_|refine U.lw_c ?_ ?_<;>intro hb))
  (conv=>whnf);exact .same (.flat _ rfl) (congrArg Value.bool (decide_eq_false p2).symm)
 ·obtain ⟨h3b,h3c,h3n,h3w⟩:=U.at4 iL_map pre (x) rest (hl);(repeat' ((conv=>whnf);first|refine goD ?_|refine U.lw_c ?_ ?_<;>intro hb))
  all_goals (conv=>whnf)
  ·have:x=n:=by simpa using hb
   exact .same (.flat _ rfl) (congrArg Value.bool (decide_eq_true (by simp[this])).symm)
  ·have hx:¬x=n:=by simpa using hb
   refine ⟨(pre++[x],rest),⟨by simp,by simp[p2];exact fun e=>hx e.symm⟩,by simp,Cov.slots (s:=⟨.e,0,0,0⟩) (Nat.le_refl 0) ⟨rfl,rfl,rfl,congrArg some (congrArg (Value.int .i64) h3w),trivial⟩⟩
def fndI (st:List (List Int)) (out:List Int) (k:Nat):Int:=match (List.range st.length).find? (fun v=>decide (k≤v)&&rdy st out v) with
 |some v=>(v:Int)
 |none=>-1
theorem fndI_top (st:List (List Int)) (out:List Int):fndI st out st.length=-1:=by
 unfold fndI;rw[List.find?_eq_none.2 fun v hv=>by
  have:=List.mem_range.1 hv;simp;intro h;omega]
theorem fndI_zero (st:List (List Int)) (out:List Int):fndI st out 0=match stepO st out with
  |some v=>(v:Int)
  |none=>-1:=by
 unfold fndI stepO;simp
theorem range_split {n k:Nat}(h:k<n):List.range n=List.range k++k::(List.range (n-k-1)).map (k+1+·):=by
 rw[show k::List.map (k+1+·) (List.range (n-k-1))=List.map (k+·) (List.range (n-k)) from ?_]
 ·rw[← List.range_add];congr 1;omega
 ·rw[show n-k=(n-k-1)+1 by omega,List.range_succ_eq_map];simp;intro a _;omega
theorem find_congr {α:Type}{p q:α->Bool}:∀{l:List α},(∀v∈l,p v=q v)->l.find? p=l.find? q
 |[],_=>rfl
 |a::l,h=>by
  rw[List.find?_cons,List.find?_cons,h a (by simp),find_congr fun v hv=>h v (by simp[hv])]
theorem fndI_step {st:List (List Int)}{out:List Int}{k:Nat}(h:k<st.length):fndI st out k=if rdy st out k=true then (k:Int) else fndI st out (k+1):=by
 unfold fndI;have e1:(List.range k).find? (fun v=>decide (k≤v)&&rdy st out v)=none:=List.find?_eq_none.2 fun v hv=>by
  have:=List.mem_range.1 hv;simp;intro h;omega
 have e2:(List.range k).find? (fun v=>decide (k+1≤v)&&rdy st out v)=none:=List.find?_eq_none.2 fun v hv=>by
  have:=List.mem_range.1 hv;simp;intro h;omega
 rw[range_split h,List.find?_append,List.find?_append,e1,e2];simp only[Option.none_or];rw[List.find?_cons,List.find?_cons];have e3:(decide (k+1≤k)&&rdy st out k)=false:=by
  rw[decide_eq_false (by omega)];rfl
 rw[e3];by_cases hr:rdy st out k=true
 ·rw[if_pos hr];simp[hr]
 ·rw[if_neg hr];have hr':rdy st out k=false:=by simpa using hr
  simp only[hr',Bool.and_false];rw[find_congr (p:=fun v=>decide (k≤v)&&rdy st out v) (q:=fun v=>decide (k+1≤v)&&rdy st out v) fun v hv=>by
   obtain ⟨a,_,rfl⟩:=List.mem_map.1 hv;rw[decide_eq_true (by omega:k≤k+1+a),decide_eq_true (by omega:k+1≤k+1+a)]]
def slV (b:Nat) (l:List Int):Value:=.slice (match l with
 |[]=>none
 |_::_=>some ⟨b,0,none⟩) l.length l.length
theorem slV_grown {n:Nat}{ρ:Ren}{b b' m c:Nat}{l:List Int}(hb:b<n) (e:ρ b=b') (h0:l≠[]) (e2:l.length=m) (e3:l.length=c):U.RenV n ρ (slV b l) (.slice (some ⟨b',0,none⟩) m c):=by
 cases l with
 |nil=>exact absurd rfl h0
 |cons y l=>exact .sl _ _ _ _ _ _ _ hb e e2 e3
theorem slV_frz {P:Program}{s:AS}{b:Nat}{T:TypeId}{l:List Int}(hlo:s.lo≤b) (hk:Tr.at (pt b) s.heap=rowO T (iL l)):U.FrzV P s (slV b l) (imS (iL l)):=by
 cases l with
 |nil=>exact .nil
 |cons y l=>exact .rowL hlo hk rfl iL_1 (by rw[iL_len]) rL (cleanIC _)
def rbO (out:List Int) (k:Nat) (p:List Int):Bool:=!decide ((k:Int)∈out)&&p.all fun t=>decide (t∈out)
theorem rbO_snoc (out:List Int) (k:Nat) (p:List Int) (t:Int):rbO out k (p++[t])=(rbO out k p&&decide (t∈out)):=by
 simp[rbO,Bool.and_assoc]
theorem rorder_d (g:Gz) (hst:g.st.length≤30000) (hrow:∀r∈g.st,r.length≤maxI):DenU Tryz.prog [] 39 [encG g] (.tuple ⟨[imS (iL (orderR g.st).1),.bool (orderR g.st).2]⟩):=by
 refine denU_of_sound hmixU fun Ts=>SoundAt.body hmixU Tryz.func39 rfl rfl rfl 0 ?_
 obtain ⟨nm,st⟩:=g;dsimp only at hst hrow;dsimp only;(repeat' ((conv=>whnf);first|refine goD ?_|refine U.lw_c ?_ ?_<;>intro hb))
 (conv=>whnf);refine loop_inv (α:=List Int) (fun out=>greedy st (st.length-out.length) out=greedy st st.length []∧out.length≤st.length) (fun out=>(mkF [(1,.pointer (some ⟨0,0,none⟩)),(2,.slice none 0 0),(3,.bool false),(4,slV 1 out)],⟨mkO [(0,some (.cells 93 [imS (sL nm),imS (gL st)] false)),(1,rowO 3 (iL out))],2,0,0⟩)) (fun out=>st.length-out.length) [] ⟨rfl,Nat.zero_le _⟩ (Cov.renI rfl rfl rfl rfl (.W rfl (cleanG_cells ⟨nm,st⟩) rfl (.none .nil)) (.cons rfl (.P rfl) (.K rfl rfl rfl (.K rfl rfl rfl (.K rfl rfl rfl .nil))))) ?_
 rintro out ⟨p1,p2⟩
 dsimp only;have hol:out.length≤maxI:=by unfold maxI;omega
 rcases Nat.lt_or_ge out.length st.length with hlt|hge
 ·have g0:decide ((out.length:Int)<((gL st).length:Int))=true:=by rw[gL_len];simp;omega
  (repeat' ((conv=>whnf);first|refine goD ?_|refine U.lw_c ?_ ?_<;>intro hb))
  (conv=>whnf);refine loop_inv (α:=Nat) (fun k=>k≤st.length) (fun k=>(mkF [(1,.pointer (some ⟨0,0,none⟩)),(2,.slice none 0 0),(3,.bool false),(4,slV 1 out),(5,.int .i64 (fndI st out k)),(6,.int .i64 ((k:Int)-1))],⟨mkO [(0,some (.cells 93 [imS (sL nm),imS (gL st)] false)),(1,rowO 3 (iL out))],2,0,0⟩)) (fun k=>k) st.length rL (Cov.slots rL ⟨rfl,rfl,rfl,rfl,congrArg some (congrArg (Value.int .i64) (fndI_top st out).symm),congrArg some (congrArg (Value.int .i64) ?_),trivial⟩) ?_
  ·rw[gL_len,IntKind.wrap_i64];omega
  rintro k hk
  dsimp only;rcases k with _|k
  ·have g1:decide ((((0:Nat):Int)-1)≥0)=false:=by decide
   have hz:=fndI_zero st out;have hsl:=p1;rw[show st.length-out.length=(st.length-(out.length+1))+1 by omega,greedy] at hsl;rcases hs:stepO st out with _|v
   ·rw[hs] at hz hsl;dsimp only at hz hsl;have hout:orderR st=([],false):=order_no hsl hlt;have g2:decide ((-1:Int)<0)=true:=by decide
    rw[hz];(repeat' ((conv=>whnf);first|refine goD ?_|refine U.lw_c ?_ ?_<;>intro hb))
    (conv=>whnf);rw[hout];exact .tupL (.cons .nil (.cons (.clean _ (.flat _ rfl)) .nil))
   ·rw[hs] at hz hsl;dsimp only at hz hsl;have g2:decide ((v:Int)<0)=false:=by simp
    rw[hz];have hfin:greedy st (st.length-(out++[(v:Int)]).length) (out++[(v:Int)])=greedy st st.length []∧(out++[(v:Int)]).length≤st.length:=by
     rw[List.length_append];exact ⟨hsl,hlt⟩
    rcases out with _|⟨y,ys⟩
    ·(repeat' ((conv=>whnf);first|refine goA ?_|refine U.catC_p ?_|refine goB ?_|refine U.lw_c ?_ ?_<;>intro hb))
     (conv=>whnf);refine ⟨[]++[(v:Int)],hfin,by simp at hlt ⊢;omega,?_⟩
     exact (Cov.renO (fun k=>if k=1 then 3 else k) rfl rfl (bR rfl) zL (fun k hk=>by have:k<1:=hk;rw[if_neg (by omega)]) rfl nlz (.W rfl (cleanG_cells ⟨nm,st⟩) rfl (blksO.grown rfl rfl (cleanIC _) .nil)) (.cons rfl (.P rfl) (.K rfl rfl rfl (.K rfl rfl rfl (.cons rfl (slV_grown (by decide) rfl (by simp) rfl rfl) .nil)))))
    ·have hyl:(cellsAll (iL (y::ys))).length=(ys.length+1)*(0+1):=by rw[cellsI,iL_len];simp
     have hys:ys.length+1≤30000:=by simp at hlt;omega
     have hb7:(Nat.ble ((ys.length+1+(0+1))*8) 140737488355328&&Nat.ble (ys.length+1+(0+1)) 1000000)=true:=by
      rw[bLe (by omega),bLe (by omega)];rfl
     have hgr:cellsAll (iL (y::ys++[(v:Int)]))=cellsAll (iL (y::ys))++[Value.int .i64 (v:Int)]:=by
      rw[cellsI,cellsI,iL_app];rfl
     (repeat' ((conv=>whnf);first|refine goA ?_|refine U.ob_c hb7 ?_|(rw[ble_f];dsimp only;refine growRow_p hyl rfl ?_)|refine goB ?_|refine U.lw_c ?_ ?_<;>intro hb))
     (conv=>whnf);refine ⟨y::ys++[(v:Int)],hfin,by simp at hlt ⊢;omega,?_⟩
     exact (Cov.renO (fun k=>if k=1 then 3 else k) rfl rfl (bR rfl) zL (fun k hk=>by have:k<1:=hk;rw[if_neg (by omega)]) rfl nlz (.W rfl (cleanG_cells ⟨nm,st⟩) rfl (blksO.grown rfl (hgr) (cleanIC _) .nil)) (.cons rfl (.P rfl) (.K rfl rfl rfl (.K rfl rfl rfl (.cons rfl (slV_grown (by decide) rfl (by simp) (by simp) (by simp)) .nil)))))
  ·have ek:(((k+1:Nat):Int)-1)=(k:Int):=by omega
   rw[ek];have g1:decide ((k:Int)≥0)=true:=by simp
   have hkl:k<st.length:=by omega
   obtain ⟨row,hrw⟩:∃row,st[k]?=some row:=⟨st[k],by simp[hkl]⟩
   have hrl:=hrow row (List.mem_of_getElem? hrw);have hkb:k.blt (gL st).length=true:=by rw[gL_len];exact bLe hkl
   have hkn:nth (gL st) k=some (imS (iL row)):=by rw[nth_eq,gL];simp[hrw]
   (repeat' ((conv=>whnf);first|refine goA ?_|refine .c (SoundC.uF (rhas_d out k hol) rfl (.cons (slV_frz (T:=3) zL rfl) (.cons (.clean _ (cleanI _)) .nil)) ?_)|refine goB ?_|refine U.lw_c ?_ ?_<;>intro hb))
   (conv=>whnf);refine loop_inv (α:=List Int×List Int) (fun y=>y.1++y.2=row) (fun y=>(mkF [(1,.pointer (some ⟨0,0,none⟩)),(2,.slice none 0 0),(3,.bool false),(4,slV 1 out),(5,.int .i64 (fndI st out (k+1))),(6,.int .i64 (k:Int)),(7,.bool (rbO out k y.1)),(8,.int .i64 y.1.length)],⟨mkO [(0,some (.cells 93 [imS (sL nm),imS (gL st)] false)),(1,rowO 3 (iL out))],2,0,0⟩)) (fun y=>y.2.length) ([],row) rfl (Cov.slots rL ⟨rfl,rfl,rfl,rfl,rfl,rfl,congrArg some (congrArg Value.bool (by simp[rbO])),rfl,trivial⟩) ?_
   rintro ⟨p,q⟩ p3
   dsimp only at p3;dsimp only;rcases q with _|⟨t,q⟩
   ·rw[List.append_nil] at p3;subst p3;have h4b:=U.lt_no iL_map p;have hfs:=fndI_step (out:=out) hkl;have hrd:rdy st out k=rbO out k p:=by
     unfold rdy rbO;rw[show st.getD k []=p by simp[hrw]]
     simp
    have ew:IntKind.i64.wrap ((k:Int)-1)=(k:Int)-1:=by rw[IntKind.wrap_i64];omega
    rw[hrd] at hfs;cases hrb:rbO out k p
    ·rw[hrb,if_neg (by simp)] at hfs;(repeat' ((conv=>whnf);first|refine goD ?_|refine U.lw_c ?_ ?_<;>intro hb))
     (conv=>whnf);exact ⟨k,by omega,by omega,Cov.slots (s:=⟨mkO [(0,some (.cells 93 [imS (sL nm),imS (gL st)] false)),(1,rowO 3 (iL out))],2,0,0⟩) rL ⟨rfl,rfl,rfl,rfl,congrArg some (congrArg (Value.int .i64) hfs.symm),congrArg some (congrArg (Value.int .i64) ew),trivial⟩⟩
    ·rw[hrb,if_pos rfl] at hfs;(repeat' ((conv=>whnf);first|refine goD ?_|refine U.lw_c ?_ ?_<;>intro hb))
     (conv=>whnf);exact ⟨k,by omega,by omega,Cov.slots (s:=⟨mkO [(0,some (.cells 93 [imS (sL nm),imS (gL st)] false)),(1,rowO 3 (iL out))],2,0,0⟩) rL ⟨rfl,rfl,rfl,rfl,congrArg some (congrArg (Value.int .i64) hfs.symm),congrArg some (congrArg (Value.int .i64) ew),trivial⟩⟩
   ·have hrl2:=hrl;rw[← p3] at hrl2;obtain ⟨h4b,h4c,h4n,h4w⟩:=U.at4 iL_map p (t) q (hrl2);rw[p3] at h4b h4c h4n;have hsn:=rbO_snoc out k p t;cases hrb:rbO out k p
    ·rw[hrb,Bool.false_and] at hsn;(repeat' ((conv=>whnf);first|refine goD ?_|refine U.lw_c ?_ ?_<;>intro hb))
     (conv=>whnf);exact ⟨(p++[t],q),by rw[← p3];simp,by simp,Cov.slots (s:=⟨mkO [(0,some (.cells 93 [imS (sL nm),imS (gL st)] false)),(1,rowO 3 (iL out))],2,0,0⟩) rL ⟨rfl,rfl,rfl,rfl,rfl,rfl,congrArg some (congrArg Value.bool hsn.symm),congrArg some (congrArg (Value.int .i64) h4w),trivial⟩⟩
    ·rw[hrb,Bool.true_and] at hsn;(repeat' ((conv=>whnf);first|refine goA ?_|refine SoundC.uF (rhas_d out t hol) rfl (.cons (slV_frz (T:=3) zL rfl) (.cons (.clean _ (cleanI _)) .nil)) ?_|refine .c (SoundC.uF (rhas_d out t hol) rfl (.cons (slV_frz (T:=3) zL rfl) (.cons (.clean _ (cleanI _)) .nil)) ?_)|refine goB ?_|refine U.lw_c ?_ ?_<;>intro hb))
     (conv=>whnf);exact ⟨(p++[t],q),by rw[← p3];simp,by simp,Cov.slots (s:=⟨mkO [(0,some (.cells 93 [imS (sL nm),imS (gL st)] false)),(1,rowO 3 (iL out))],2,0,0⟩) rL ⟨rfl,rfl,rfl,rfl,rfl,rfl,congrArg some (congrArg Value.bool hsn.symm),congrArg some (congrArg (Value.int .i64) h4w),trivial⟩⟩
 ·have he:out.length=st.length:=by omega
  have g0:decide ((out.length:Int)<((gL st).length:Int))=false:=by rw[gL_len];simp;omega
  have hout:orderR st=(out,true):=by
   have:out=greedy st st.length []:=by rw[← p1,he,Nat.sub_self];rfl
   exact order_yes this (by omega)
  (repeat' ((conv=>whnf);first|refine goD ?_|refine U.lw_c ?_ ?_<;>intro hb))
  (conv=>whnf);rw[hout];exact .tupL (.cons (slV_frz (T:=3) zL rfl) (.cons (.clean _ (.flat _ rfl)) .nil))
theorem rdy_eq {R S:List (List Int)}{out:List Int}{v:Nat}(h:∀t,t∈R.getD v []↔t∈S.getD v []):rdy R out v=rdy S out v:=by
 unfold rdy;congr 1
 rw[Bool.eq_iff_iff,List.all_eq_true,List.all_eq_true];exact ⟨fun k t ht=>k t ((h t).2 ht),fun k t ht=>k t ((h t).1 ht)⟩
theorem order_eq {R S:List (List Int)}(hl:R.length=S.length) (h:∀v t,t∈R.getD v []↔t∈S.getD v []):orderR R=orderR S:=by
 have hs:∀out,stepO R out=stepO S out:=fun out=>by
  unfold stepO;rw[hl];exact find_congr fun v _=>rdy_eq (h v)
 have hg:∀k out,greedy R k out=greedy S k out:=fun k=>by
  induction k with
  |zero=>intro out;rfl
  |succ k ih =>
   intro out;rw[greedy,greedy,hs];cases stepO S out with
   |none=>rfl
   |some v=>exact ih _
 unfold orderR;rw[hg,hl]
theorem rowR_iff {g:Gz}(hr:rightG g=true) {r:List Int}(h:r∈g.st) (t:Int):t∈rowR g.nm.length r↔t∈r:=by
 simp only[rightG,Bool.and_eq_true,List.all_eq_true,okT,decide_eq_true_eq] at hr;rw[rowR_mem];constructor
 ·rintro ⟨i,_,_,h2⟩
  exact h2
 ·intro ht;obtain ⟨b1,b2⟩:=hr.2 r h t ht;exact ⟨t.toNat,by omega,by omega,ht⟩
theorem order_callees {g:Gz}(hr:rightG g=true):orderR (calleesR g)=orderR g.st:=by
 refine order_eq (by simp[calleesR]) fun v t=>?_
 by_cases hv:v<g.st.length
 ·rw[show (calleesR g).getD v []=rowR g.nm.length g.st[v] by simp[calleesR,hv],show g.st.getD v []=g.st[v] by simp[hv]]
  exact rowR_iff hr (List.getElem_mem hv) t
 ·rw[show (calleesR g).getD v []=[] by simp[calleesR,hv],show g.st.getD v []=[] by simp[hv]]
def ordG (g:Gz):List Int×Bool:=if rightG g=true then orderR g.st else ([],false)
theorem order_g (g:Gz) (hg:okG g) (hst:g.st.length≤29000) (hs:sumL g.st≤500000):DenU Tryz.prog [] 59 [encG g] (ordV (ordG g)):=by
 by_cases hr:rightG g=true
 ·rw[ordG,if_pos hr,← order_callees hr];exact order_d g hg hr hst hs
 ·have hr':rightG g=false:=by simpa using hr
  rw[ordG,if_neg hr];refine denU_of_body hmixU rfl Tryz.func59 rfl rfl rfl 0 ?_;intro Ts;have c1:=cright_d g hg;rw[hr'] at c1;obtain ⟨nm,st⟩:=g;have cg:=cleanG ⟨nm,st⟩;(repeat' ((conv=>whnf);first|refine goD ?_|refine ⟨_,c1,clM,tab0 _,?_⟩|refine U.lw_c ?_ ?_<;>intro hb))
  (conv=>whnf);exact .tupL (.cons .nil (.cons (.clean _ (.flat _ rfl)) .nil))
def stmtsB (p:Pg):Bool:=nums (preP p) 0&&(preP p).all (standsB p)
def hedP (p:Pg):Bool:=decide (0≤p.slots)&&decide (p.slots≤1048576)&&arrsB p.arrs&&(insB p.ins&&prsB p.procs)&&slotB p
def rightP (p:Pg):Bool:=hedP p&&stmtsB p&&(ordG (graphP p)).2
theorem sumL_app (a b:List (List Int)):sumL (a++b)=sumL a+sumL b:=by simp[sumL]
theorem graph_sum (p:Pg):sumL (graphP p).st≤szPrs p.procs+szSs p.main:=by
 have h:∀l:List Pr13,sumL (l.map fun x=>callL (allSs x.body))≤szPrs l:=fun l=>by
  induction l with
  |nil=>simp[sumL,szPrs]
  |cons x l ih =>
   have h1:=callL_len (allSs x.body);have h2:=allSs_len x.body;rw[List.map_cons,szPrs];have:sumL (callL (allSs x.body)::l.map fun x=>callL (allSs x.body))=(callL (allSs x.body)).length+sumL (l.map fun x=>callL (allSs x.body)):=by simp[sumL]
   omega
 have h1:=h p.procs;have h2:=callL_len (allSs p.main);have h3:=allSs_len p.main;unfold graphP;rw[sumL_app];have:sumL [callL (allSs p.main)]=(callL (allSs p.main)).length:=by simp[sumL]
 omega
theorem graph_ok (p:Pg) (hf:FewP p):okG (graphP p)∧(graphP p).st.length≤29000∧sumL (graphP p).st≤500000:=by
 have h1:=graph_sum p;have h2:=hf.procs;have h3:=hf.sz;have hs:∀(l:List (List Int)),∀r∈l,r.length≤sumL l:=fun l=>by
  induction l with
  |nil=>intro r hr;cases hr
  |cons x l ih =>
   intro r hr;have e:sumL (x::l)=x.length+sumL l:=by simp[sumL]
   rcases List.mem_cons.1 hr with rfl|hr
   ·omega
   ·have:=ih r hr;omega
 refine ⟨⟨?_,?_,fun r hr=>?_⟩,?_,by omega⟩
 ·show (p.procs.map (·.nm)).length≤_
  rw[List.length_map];omega
 ·show (p.procs.map (fun x=>callL (allSs x.body))++[callL (allSs p.main)]).length≤maxI
  rw[List.length_append,List.length_map];simp[maxI];omega
 ·have:=hs _ r hr;exact Nat.le_trans this (by simp[maxI];omega)
 ·show (p.procs.map (fun x=>callL (allSs x.body))++[callL (allSs p.main)]).length≤29000
  rw[List.length_append,List.length_map];simp;omega
mutual
theorem allS_sz:∀(s x:St),x∈allS s->szS x≤szS s
 |.mk k a xs th el no,x,h=>by
  rw[allS,List.mem_cons,List.mem_append] at h;rcases h with rfl|h|h
  ·exact Nat.le_refl _
  ·have:=allSs_sz th x h;rw[szS];omega
  ·have:=allSs_sz el x h;rw[szS];omega
theorem allSs_sz:∀(l:List St) (x:St),x∈allSs l->szS x≤szSs l
 |[],x,h=>by rw[allSs] at h;cases h
 |e::l,x,h=>by
  rw[allSs,List.mem_append] at h;rw[szSs];rcases h with h|h
  ·have:=allS_sz e x h;omega
  ·have:=allSs_sz l x h;omega
end
theorem preP_sz {p:Pg}{s:St}(h:s∈preP p):szS s≤szPrs p.procs+szSs p.main:=by
 rw[preP,List.mem_append] at h;rcases h with h|h
 ·obtain ⟨x,hx,h⟩:=List.mem_flatMap.1 h;have:=allSs_sz x.body s h;have:=szPrs_mem hx;omega
 ·have:=allSs_sz p.main s h;omega
noncomputable def rangeR:List Tmp×Code×Code:=rangeF Tryz.f18.body
noncomputable def lpR (st:LoopState) (pe:Option Code):U.Blk:=.loop st pe (mkF [(1,.pointer (some ⟨1,0,none⟩)),(2,.pointer (some ⟨2,0,none⟩)),(3,.pointer (some ⟨3,0,none⟩))]) 55 rangeR.1 rangeR.2.1 rangeR.2.2
noncomputable def stR (Ts:Nat->TypeId) (p:Pg) (i:Nat) (st:LoopState) (pe:Option Code):AS:=⟨mkO [(0,kwBlk Ts),(1,some (.cells 27 (cellsOf (encP p)) false)),(2,some (.cells 4 [.bool false] false)),(3,some (.cells 3 [.int .i64 i] false)),(5,some (lpR st pe))],6,1,1⟩
theorem lpR_ren {n:Nat}{ρ:U.Ren}{fr:Tr Value}{st:LoopState}{pe:Option Code}{N:Nat}{ps:List Tmp}{asg bo:Code}(hn:3<n) (h0:ρ 1=1) (h1:ρ 2=2) (h2:ρ 3=3) (e0:N=55) (e1:ps=rangeR.1) (e2:asg=rangeR.2.1) (e3:bo=rangeR.2.2) (g1:Tr.at (pt 1) fr=some (.pointer (some ⟨1,0,none⟩))) (g2:Tr.at (pt 2) fr=some (.pointer (some ⟨2,0,none⟩))) (g3:Tr.at (pt 3) fr=some (.pointer (some ⟨3,0,none⟩))):U.RenB n ρ (lpR st pe) (.loop st pe fr N ps asg bo):=by
 subst e0;subst e1;subst e2;subst e3;exact RenB.lp (.cons g1 (.ptr _ _ _ (by omega) h0) (.cons g2 (.ptr _ _ _ (by omega) h1) (.cons g3 (.ptr _ _ _ hn h2) .nil)))
theorem roundR (Ts:Nat->TypeId) (p:Pg) (hp:p.procs.length≤20) (i:Nat) (hi:i≤1000) (s:St) (hs:szS s≤1000):SoundRound Tryz.prog 5 [ptS s] (stR Ts p i .ready none) fun u t=>(u=.bool true∧noS s=i∧standsB p s=true∧CovS Tryz.prog 6 t (stR Ts p (i+1) .ready none))∨(u=.bool false∧(¬noS s=i∨standsB p s=false)∧CovS Tryz.prog 6 t (stR Ts p i (doneC (some .ret)) (some .ret))):=by
 refine SoundRound.run hmixU 0 ?_;have h1:=stands_d p hp s hs;have hcp:=cleanP p;have hcs:=cleanPt s;have hw:=wadd1 (i:=i) (by omega)
 generalize hq:standsB p s=q at h1
 obtain ⟨k,a,xs,th,el,no⟩:=s;obtain ⟨sl,arrs,ins,procs,main⟩:=p;(repeat' ((conv=>whnf);first|refine goD ?_|refine U.SoundAt.u (h1) clM ?_|refine U.SoundC.u (h1) clM ?_|refine U.drawX_p (D:=U.propX) 12 [] (by decide +kernel) (by decide +kernel) ?_|refine U.lw_c ?_ ?_<;>intro hb))
 all_goals (conv=>whnf)
 ·exact .inr ⟨rfl,.inl (fun e=>by have hb:(no != (i:Int))=true:=hb;have e:no=i:=e;simp[e] at hb),CovS.of ((Cov.renO (fun k=>k) rfl rfl (bR rfl) (bR rfl) (fun _ _=>rfl) rfl (kp1 (by rfl)) (.W rfl (kwClean) rfl (.W rfl ((fun c hc=>cleanP_cells ⟨sl,arrs,ins,procs,main⟩ c hc)) rfl (.C rfl (.K rfl rfl .nil) (.C rfl (.cons .I .nil) (.cons rfl (lpR_ren (by decide) rfl rfl rfl rfl rfl rfl rfl rfl rfl rfl) .nil))))) .nil))⟩
 ·exact .inr ⟨rfl,.inr (by simpa using hb),CovS.of ((Cov.renO (fun k=>k) rfl rfl (bR rfl) (bR rfl) (fun _ _=>rfl) rfl (kp1 (by rfl)) (.W rfl (kwClean) rfl (.W rfl ((fun c hc=>cleanP_cells ⟨sl,arrs,ins,procs,main⟩ c hc)) rfl (.C rfl (.K rfl rfl .nil) (.C rfl (.cons .I .nil) (.cons rfl (lpR_ren (by decide) rfl rfl rfl rfl rfl rfl rfl rfl rfl rfl) .nil))))) .nil))⟩
 ·rename_i hb0;exact .inl ⟨rfl,by have hb0:(no != (i:Int))=false:=hb0;show no=(i:Int);simpa using hb0,by simpa using hb,CovS.of ((Cov.renO (fun k=>k) rfl rfl (bR rfl) (bR rfl) (fun _ _=>rfl) rfl (kp1 (by rfl)) (.W rfl (kwClean) rfl (.W rfl ((fun c hc=>cleanP_cells ⟨sl,arrs,ins,procs,main⟩ c hc)) rfl (.C rfl (.K rfl rfl .nil) (.C rfl (.L (cleanI _) (congrArg (Value.int .i64) (hw.symm)) .nil) (.cons rfl (lpR_ren (by decide) rfl rfl rfl rfl rfl rfl rfl rfl rfl rfl) .nil))))) .nil))⟩
theorem nums_no {pr q:List St}{s:St}(h:¬noS s=pr.length):nums (pr++s::q) 0=false:=by
 rw[nums_app,nums,Int.zero_add,decide_eq_false h];simp
theorem right_d (p:Pg) (hf:FewP p):DenU Tryz.prog kwT 18 [encP p] (.bool (rightP p)):=by
 refine denU_of_soundT kw_ok fun Ts=>SoundAt.body hmixU Tryz.func18 rfl rfl rfl 0 ?_
 have c1:=rarr_d p.arrs hf.arrs;have c2:=rnames_d p hf.ins hf.procs;have c3:=rslots_d p hf.ins hf.procs hf.ps;have c4:=graph_d p hf;obtain ⟨g1,g2,g3⟩:=graph_ok p hf;have c5:=order_g (graphP p) g1 g2 g3
 have k1:=cleanP p;have k2:=cleanG (graphP p);have hpl:=preP_len p;have hsz:=hf.sz;have hin:∀s∈preP p,szS s≤1000:=fun s hs=>by have:=preP_sz hs;omega
 unfold rightP hedP;generalize hq1:(insB p.ins&&prsB p.procs)=q1 at *
 generalize slotB p=q2 at *
 generalize hst:stmtsB p=e0 at *
 generalize graphP p=gg at *
 generalize ordG gg=og at *
 obtain ⟨ol,ob⟩:=og;obtain ⟨sl,arrs,ins,procs,main⟩:=p;generalize arrsB arrs=q3 at *
 dsimp only at *;(repeat' ((conv=>whnf);first|refine goA ?_|refine U.SoundAt.uT kw_ok c2 ⟨k1,trivial⟩ (tabK rfl rfl) ?_|refine U.SoundAt.body hmixU Tryz.func45 rfl rfl rfl 0 ?_|refine goB ?_|refine U.SoundAt.u (c1) clM ?_|refine U.SoundAt.u (c3) clM ?_|refine U.SoundC.u (c1) clM ?_|refine U.SoundC.u (c3) clM ?_|refine U.lw_c ?_ ?_<;>intro hb))
 all_goals (conv=>whnf)
 all_goals try (refine .same (.flat _ rfl) (congrArg Value.bool ?_)<;>(clear hin hst c1 c2 c3 c4 c5 k1 k2 g1 g2 g3 hf;grind))
 rename_i z1 z2 z3 z4;have y1:q3=true:=by simpa using z3
 have y2:q1=true:=by simpa using z4
 have y3:q2=true:=by simpa using hb
 have y4:decide (0≤sl)=true:=by have z1:¬sl<0:=of_decide_eq_false z1;exact decide_eq_true (by omega)
 have y5:decide (sl≤1048576)=true:=by have z2:¬sl > 1048576:=of_decide_eq_false z2;exact decide_eq_true (by omega)
 subst y1 y2 y3;rw[y4,y5];obtain ⟨A,hA⟩:∃A,A=preP ⟨sl,arrs,ins,procs,main⟩:=⟨_,rfl⟩
 have hit:=stmts_q ⟨sl,arrs,ins,procs,main⟩ hf;rw[← hA] at hit hpl hin;unfold stmtsB at hst;rw[← hA] at hst;refine SoundAt.iterQ (l:=5) rfl rfl hit ⟨.imp _ _ fun c hc=>cleanP_cells ⟨sl,arrs,ins,procs,main⟩ c hc,trivial⟩ (fun vs=>stR Ts ⟨sl,arrs,ins,procs,main⟩ (A.length-vs.length) .ready none) (fun vs=>∃pr q:List St,A=pr++q∧vs=ptrS q∧nums pr 0=true∧pr.all (standsB ⟨sl,arrs,ins,procs,main⟩)=true) (fun i:Nat=>stR Ts ⟨sl,arrs,ins,procs,main⟩ i (doneC (some .ret)) (some .ret)) (fun _=>e0=false) ⟨[],A,rfl,rfl,rfl,rfl⟩ [(0,yl 5),(1,imP (encP ⟨sl,arrs,ins,procs,main⟩) 0)] ?_ rfl ?_ ?_ ?_ ?_ ?_ ?_ ?_
 ·exact Cov.boxF (fun k=>k) 4 (encP ⟨sl,arrs,ins,procs,main⟩) (T:=27) (xs:=cellsOf (encP ⟨sl,arrs,ins,procs,main⟩)) rfl rfl (bR rfl) (bR rfl) (fun _ _=>rfl) rfl (kp1 (by rfl)) (bR rfl) rfl rfl rfl (by simp[encP,cellsOf]) (fun c hc=>cleanP_cells ⟨sl,arrs,ins,procs,main⟩ c hc) (.W rfl (kwClean) rfl (.W rfl ((fun c hc=>cleanP_cells ⟨sl,arrs,ins,procs,main⟩ c hc)) rfl (.C rfl (.K rfl rfl .nil) (.C rfl (.L (cleanI _) (congrArg (Value.int .i64) ((by rw[ptrS,List.length_map];simp))) .nil) (.cons rfl (lpR_ren (by decide) rfl rfl rfl rfl rfl rfl rfl rfl rfl rfl) .nil))))) (.cons rfl (.yld _ _ (by decide) rfl) (.cons rfl (.ext _ _ ⟨rfl,rfl⟩) .nil))
 ·intro i u hu;rcases i with _|_|i
  ·cases hu;rfl
  ·cases hu;rfl
  ·simp at hu
 ·show 5<6
  decide
 ·intro ts' _
  exact ⟨rfl,rfl,bR rfl,(kp1 (by rfl)),rfl⟩
 ·intro b _;exact ⟨rfl,rfl,bR rfl,(kp1 (by rfl)),rfl⟩
 ·rintro x ts' _ ⟨pr,q,hAq,hvs,hn,hall⟩
  rcases q with _|⟨s,q⟩
  ·cases hvs
  ·rw[ptrS,List.map_cons] at hvs;obtain ⟨rfl,rfl⟩:=List.cons.inj hvs;have hl:=congrArg List.length hAq;rw[List.length_append,List.length_cons] at hl;have e1:A.length-(ptS s::List.map ptS q).length=pr.length:=by rw[List.length_cons,List.length_map];omega
   have e2:A.length-(List.map ptS q).length=pr.length+1:=by rw[List.length_map];omega
   rw[e1,e2];refine (roundR Ts ⟨sl,arrs,ins,procs,main⟩ hf.procs pr.length (by omega) s (hin s (by rw[hAq];simp))).mono fun u t _ h=>?_
   rcases h with ⟨h1,h2,h3,h4⟩|⟨h1,h2,h3⟩
   ·exact .inl ⟨h1,⟨pr++[s],q,by rw[hAq];simp,rfl,by rw[nums_app,hn,nums,Int.zero_add,decide_eq_true h2];rfl,by rw[List.all_append,hall];simp[h3]⟩,h4⟩
   ·refine .inr ⟨h1,pr.length,?_,h3⟩;rw[← hst,hAq];rcases h2 with h2|h2
    ·rw[nums_no h2];rfl
    ·rw[List.all_append,List.all_cons,h2];simp
 ·rintro ⟨pr,q,hAq,hvs,hn,hall⟩
  rcases q with _|⟨s,q⟩
  ·rw[List.append_nil] at hAq;have he:e0=true:=by rw[← hst,hAq,hn,hall];rfl
   subst he;(repeat' ((conv=>whnf);first|refine goD ?_|refine U.SoundAt.u (c4) clM ?_|refine U.SoundAt.u (c5) clM ?_|refine U.SoundC.u (c4) clM ?_|refine U.SoundC.u (c5) clM ?_|refine U.lw_c ?_ ?_<;>intro hb))
   (conv=>whnf);exact .same (.flat _ rfl) rfl
  ·cases hvs
 ·intro i he;rw[he];(repeat' ((conv=>whnf);first|refine goD ?_|refine U.lw_c ?_ ?_<;>intro hb))
  (conv=>whnf);exact .same (.flat _ rfl) rfl
theorem rone_d (o:Int):DenU Tryz.prog [] 104 [.int .i64 o] (.bool (oneB o)):=by
 refine denU_of_body hmixU rfl Tryz.func104 rfl rfl rfl 0 ?_;intro Ts;(repeat' ((conv=>whnf);first|refine goD ?_|refine U.lw_c ?_ ?_<;>intro hb))
 all_goals (conv=>whnf)
 all_goals refine .same (.flat _ rfl) (congrArg Value.bool ?_)
 all_goals unfold oneB
 all_goals rw[hb]
 all_goals rfl
theorem postEs_app (a b:List Ex):postEs (a++b)=postEs a++postEs b:=by
 induction a with
 |nil=>rfl
 |cons x a ih=>rw[List.cons_append,postEs,postEs,ih,List.append_assoc]
theorem rrE_d (p:Pg) (k n a o:Int) (l:List Ex) (hl:l.length≤maxI) (ih:∀e∈l,DenU Tryz.prog [] 93 [encP p,encE e] (.bool ((postE e).all (ownE p.slots p.arrs.length)))):DenU Tryz.prog [] 93 [encP p,encE (.mk k n a o l)] (.bool ((postE (.mk k n a o l)).all (ownE p.slots p.arrs.length))):=by
 refine denU_of_body hmixU rfl Tryz.func93 rfl rfl rfl 0 ?_;intro Ts;have h1:=rone_d o;have hle:=encEs_len l;have ha:=iL_len p.arrs;have hcp:=cleanP p;obtain ⟨q,hq⟩:∃q,oneB o=q:=⟨_,rfl⟩
 rw[hq] at h1;obtain ⟨b,hr⟩:∃b,b=ownE p.slots p.arrs.length (.mk k n a o l):=⟨_,rfl⟩
 obtain ⟨F,hF⟩:∃F,F=ownE p.slots p.arrs.length:=⟨_,rfl⟩
 rw[← hF] at ih hr;rw[postE,List.all_append,← hF,show [Ex.mk k n a o l].all F=b by rw[hr];simp]
 rw[hF] at hr;simp only[ownE,hq,isE_iff] at hr;obtain ⟨sl,arrs,ins,procs,main⟩:=p;dsimp only at hr ha;(repeat' ((conv=>whnf);first|refine goD ?_|refine U.lw_c ?_ ?_<;>intro hb))
 (conv=>whnf);refine loop_inv (α:=List Ex×List Ex) (fun x=>x.1++x.2=l∧(postEs x.1).all F=true) (fun x=>(mkF [(2,.pointer (some ⟨0,0,none⟩)),(3,.pointer (some ⟨1,0,none⟩)),(4,.bool false),(5,.int .i64 x.1.length)],⟨mkO [(0,some (.cells 34 (cellsOf (encP ⟨sl,arrs,ins,procs,main⟩)) false)),(1,some (.cells 100 [.int .i64 k,.int .i64 n,.int .i64 a,.int .i64 o,imS (encEs l)] false))],2,0,0⟩)) (fun x=>x.2.length) ([],l) ⟨rfl,rfl⟩ (Cov.slots rL ⟨rfl,rfl,rfl,rfl,trivial⟩) ?_
 rintro ⟨pre,rest⟩ ⟨p1,p2⟩
 dsimp only at p1 p2;subst p1;dsimp only;rcases rest with _|⟨e,rest⟩
 ·rw[List.append_nil] at *;have zb:=U.lt_no encEs_map pre;rw[p2,Bool.true_and];clear ih hl;rcases (by omega:k=0∨k=1∨k=2∨k=3∨k=4∨(¬k=0∧¬k=1∧¬k=2∧¬k=3∧¬k=4)) with rfl|rfl|rfl|rfl|rfl|⟨k0,k1,k2,k3,k4⟩
  ·(repeat' ((conv=>whnf);first|refine goD ?_|refine ⟨_,h1,clM,tab0 _,?_⟩|refine U.lw_c ?_ ?_<;>intro hb))
   all_goals (conv=>whnf)
   all_goals refine .same (.flat _ rfl) (congrArg Value.bool ?_)
   all_goals (clear h1 hF p2 zb;first|grind|(rw[hr];clear hr;simp only[hle,ha,bne_eq_false_iff_eq,bne_iff_ne,ne_eq,beq_iff_eq,beq_eq_false_iff_ne,decide_eq_false_iff_not,decide_eq_true_eq] at *;rw[Bool.eq_iff_iff];simp[-List.length_eq_zero_iff];omega)|(subst hr;simp[-List.length_eq_zero_iff] at *;grind))
  ·(repeat' ((conv=>whnf);first|refine goD ?_|refine ⟨_,h1,clM,tab0 _,?_⟩|refine U.lw_c ?_ ?_<;>intro hb))
   all_goals (conv=>whnf)
   all_goals refine .same (.flat _ rfl) (congrArg Value.bool ?_)
   all_goals (clear h1 hF p2 zb;first|grind|(rw[hr];clear hr;simp only[hle,ha,bne_eq_false_iff_eq,bne_iff_ne,ne_eq,beq_iff_eq,beq_eq_false_iff_ne,decide_eq_false_iff_not,decide_eq_true_eq] at *;rw[Bool.eq_iff_iff];simp[-List.length_eq_zero_iff];omega)|(subst hr;simp[-List.length_eq_zero_iff] at *;grind))
  ·(repeat' ((conv=>whnf);first|refine goD ?_|refine ⟨_,h1,clM,tab0 _,?_⟩|refine U.lw_c ?_ ?_<;>intro hb))
   all_goals (conv=>whnf)
   all_goals refine .same (.flat _ rfl) (congrArg Value.bool ?_)
   all_goals (clear h1 hF p2 zb;first|grind|(rw[hr];clear hr;simp only[hle,ha,bne_eq_false_iff_eq,bne_iff_ne,ne_eq,beq_iff_eq,beq_eq_false_iff_ne,decide_eq_false_iff_not,decide_eq_true_eq] at *;rw[Bool.eq_iff_iff];simp[-List.length_eq_zero_iff];omega)|(subst hr;simp[-List.length_eq_zero_iff] at *;grind))
  ·(repeat' ((conv=>whnf);first|refine goD ?_|refine ⟨_,h1,clM,tab0 _,?_⟩|refine U.lw_c ?_ ?_<;>intro hb))
   all_goals (conv=>whnf)
   all_goals refine .same (.flat _ rfl) (congrArg Value.bool ?_)
   all_goals (clear h1 hF p2 zb;first|grind|(rw[hr];clear hr;simp only[hle,ha,bne_eq_false_iff_eq,bne_iff_ne,ne_eq,beq_iff_eq,beq_eq_false_iff_ne,decide_eq_false_iff_not,decide_eq_true_eq] at *;rw[Bool.eq_iff_iff];simp[-List.length_eq_zero_iff];omega)|(subst hr;simp[-List.length_eq_zero_iff] at *;grind))
  ·(repeat' ((conv=>whnf);first|refine goD ?_|refine ⟨_,h1,clM,tab0 _,?_⟩|refine U.lw_c ?_ ?_<;>intro hb))
   all_goals (conv=>whnf)
   all_goals refine .same (.flat _ rfl) (congrArg Value.bool ?_)
   all_goals (clear h1 hF p2 zb;first|grind|(rw[hr];clear hr;simp only[hle,ha,bne_eq_false_iff_eq,bne_iff_ne,ne_eq,beq_iff_eq,beq_eq_false_iff_ne,decide_eq_false_iff_not,decide_eq_true_eq] at *;rw[Bool.eq_iff_iff];simp[-List.length_eq_zero_iff];omega)|(subst hr;simp[-List.length_eq_zero_iff] at *;grind))
  ·have g0:(k==0)=false:=by simpa using k0
   have g1:(k==1)=false:=by simpa using k1
   have g2:(k==2)=false:=by simpa using k2
   have g3:(k==3)=false:=by simpa using k3
   have g4:(k==4)=false:=by simpa using k4
   (repeat' ((conv=>whnf);first|refine goD ?_|refine ⟨_,h1,clM,tab0 _,?_⟩|refine U.lw_c ?_ ?_<;>intro hb))
   all_goals (conv=>whnf)
   all_goals refine .same (.flat _ rfl) (congrArg Value.bool ?_)
   all_goals (clear h1 hF p2 zb;first|grind|(rw[hr];clear hr;simp only[hle,ha,bne_eq_false_iff_eq,bne_iff_ne,ne_eq,beq_iff_eq,beq_eq_false_iff_ne,decide_eq_false_iff_not,decide_eq_true_eq] at *;rw[Bool.eq_iff_iff];simp[-List.length_eq_zero_iff];omega)|(subst hr;simp[-List.length_eq_zero_iff] at *;grind))
 ·have zb:=U.lt_yes encEs_map pre (e) rest;have zc:=U.blt_yes encEs_map pre (e) rest;have zn:=U.nth_at encEs_map pre (e) rest;have zw:=U.len_snoc (pre:=pre) (x:=e) (post:=rest) (hl);have ihe:=ih e (by simp)
  obtain ⟨qe,hqe⟩:∃qe,qe=(postE e).all F:=⟨_,rfl⟩
  rw[← hqe] at ihe;have e1:(postEs (pre++e::rest)).all F=(qe&&(postEs rest).all F):=by rw[postEs_app,postEs,List.all_append,List.all_append,p2,← hqe,Bool.true_and]
  have e2:(postEs (pre++[e])).all F=qe:=by rw[postEs_app,List.all_append,p2,postEs,postEs,List.append_nil,← hqe,Bool.true_and]
  rw[e1];clear hr h1;have hce:=cleanE e;obtain ⟨k1,n1,a1,o1,l1⟩:=e;(repeat' ((conv=>whnf);first|refine goD ?_|refine ⟨_,ihe,clM,tab0 _,?_⟩|refine U.drawX_p (D:=U.propX) 8 [] (by decide +kernel) (by decide +kernel) ?_|refine U.lw_c ?_ ?_<;>intro hb))
  all_goals (conv=>whnf)
  ·have hb:qe=false:=by simpa using hb
   subst hb;exact .same (.flat _ rfl) (congrArg Value.bool rfl)
  ·have hb:qe=true:=by simpa using hb
   exact ⟨(pre++[.mk k1 n1 a1 o1 l1],rest),⟨by simp,by rw[e2,hb]⟩,by simp,(Cov.renI rfl rfl rfl rfl (.W rfl ((fun c hc=>cleanP_cells ⟨sl,arrs,ins,procs,main⟩ c hc)) rfl (.W rfl (cleanE_cells (.mk k n a o _)) rfl .nil)) (.cons rfl (.P rfl) (.cons rfl (.P rfl) (.K rfl rfl rfl (.L rfl (cleanI _) (congrArg (Value.int .i64) (zw.symm)) .nil)))))⟩
theorem rrE_all (p:Pg):∀(N:Nat) (e:Ex),szE e≤N->szE e≤1000->DenU Tryz.prog [] 93 [encP p,encE e] (.bool ((postE e).all (ownE p.slots p.arrs.length)))
 |0,e,h0,h1=>by have:=szE_pos e;omega
 |N+1,.mk k n a o l,h0,h1=>by
  rw[szE] at h0 h1;have:=szEs_len l;exact rrE_d p k n a o l (Nat.le_trans (show l.length≤1000 by omega) (by decide)) fun e he=>rrE_all p N e (by have:=szEs_mem he;omega) (by have:=szEs_mem he;omega)
end Go.Proofs.YtocppbocphnbcaaGreatDoor
