
import Derived.Test.YtnfppdblcmollaaGreatDoorTS23
import Derived.Test.YtnfppdblcmollaaGreatDoorTS28
namespace Go.Proofs.YtnfppdblcmollaaGreatDoor
open Go Go.RowKit Go.Sort U
set_option linter.unusedVariables false
set_option linter.unusedSimpArgs false
set_option maxRecDepth 100000
set_option maxHeartbeats 40000000
theorem wone_d (n:Int):DenU Tryz.prog [] 76 [.int .i64 n] (encV (oneZ n)):=by
 refine denU_of_run hmixU rfl 100 20 20 fun Ts=>?_
 (repeat' ((conv=>whnf);first|refine goD ?_|refine U.lw_c ?_ ?_<;>intro hb))
 (conv=>whnf);exact .same (.flat _ rfl) rfl
theorem rempty_d (lo hi:Int):DenU Tryz.prog [] 208 [.agg ⟨[.int .i64 lo,.int .i64 hi]⟩] (.bool (decide (lo > hi))):=by
 refine denU_of_run hmixU rfl 100 20 20 fun Ts=>?_
 (repeat' ((conv=>whnf);first|refine goD ?_|refine U.lw_c ?_ ?_<;>intro hb))
 (conv=>whnf);exact .same (.flat _ rfl) rfl
theorem rrest_d (n:Int):DenU Tryz.prog [] 207 [.int .i64 n,.int .u64 1] (.int .u64 0):=by
 refine denU_of_body hmixU rfl Tryz.func207 rfl rfl rfl 0 ?_;intro Ts;by_cases h:n<0
 ·have g1:decide (n≥0)=false:=decide_eq_false (by omega)
  (repeat' ((conv=>whnf);first|refine goD ?_|refine U.lw_c ?_ ?_<;>intro hb))
  (conv=>whnf);refine .same (.flat _ rfl) (congrArg (Value.int .u64) ?_);rw[Int.tmod_one];rfl
 ·have g1:decide (n≥0)=true:=decide_eq_true (by omega)
  (repeat' ((conv=>whnf);first|refine goD ?_|refine U.lw_c ?_ ?_<;>intro hb))
  (conv=>whnf);exact .same (.flat _ rfl) (congrArg (Value.int .u64) (Int.tmod_one _))
theorem rup_d (n:Int):DenU Tryz.prog [] 210 [.agg ⟨[.int .u64 1,.int .u64 0]⟩,.int .i64 n] (.int .u64 0):=by
 refine denU_of_body hmixU rfl Tryz.func210 rfl rfl rfl 0 ?_;intro Ts;have c:=rrest_d n;(repeat' ((conv=>whnf);first|refine goD ?_|refine ⟨_,c,clM,tab0 _,?_⟩|refine U.lw_c ?_ ?_<;>intro hb))
 (conv=>whnf);exact .same (.flat _ rfl) rfl
theorem rdown_d (n:Int):DenU Tryz.prog [] 211 [.agg ⟨[.int .u64 1,.int .u64 0]⟩,.int .i64 n] (.int .u64 0):=by
 refine denU_of_body hmixU rfl Tryz.func211 rfl rfl rfl 0 ?_;intro Ts;have c:=rrest_d n;(repeat' ((conv=>whnf);first|refine goD ?_|refine ⟨_,c,clM,tab0 _,?_⟩|refine U.lw_c ?_ ?_<;>intro hb))
 (conv=>whnf);exact .same (.flat _ rfl) rfl
theorem wback {n:Int}(h:-9223372036854775808≤n∧n≤9223372036854775807):IntKind.i64.wrap (IntKind.u64.wrap (IntKind.u64.wrap n+0))=n:=by
 rw[IntKind.wrap_i64,IntKind.wrap_u64,IntKind.wrap_u64];omega
theorem wback2 {n:Int}(h:-9223372036854775808≤n∧n≤9223372036854775807):IntKind.i64.wrap (IntKind.u64.wrap (IntKind.u64.wrap n-0))=n:=by
 rw[IntKind.wrap_i64,IntKind.wrap_u64,IntKind.wrap_u64];omega
theorem rmake_d (lo hi:Int) (hl:-9223372036854775808≤lo∧lo≤9223372036854775807) (hh:-9223372036854775808≤hi∧hi≤9223372036854775807):DenU Tryz.prog [] 156 [.agg ⟨[.int .i64 lo,.int .i64 hi]⟩,.agg ⟨[.int .u64 1,.int .u64 0]⟩] (encV (rangeZ lo hi)):=by
 refine denU_of_body hmixU rfl Tryz.func156 rfl rfl rfl 0 ?_;intro Ts;have c1:=rempty_d lo hi;have c2:=rbot_d;have c3:=rup_d lo;have c4:=rdown_d hi;have c5:=wone_d lo;by_cases h:lo > hi
 ·rw[decide_eq_true h] at c1;rw[rangeZ,if_pos h];(repeat' ((conv=>whnf);first|refine goD ?_|refine ⟨_,c1,clM,tab0 _,?_⟩|refine ⟨_,c2,clM,tab0 _,?_⟩|refine U.lw_c ?_ ?_<;>intro hb))
  (conv=>whnf);exact .same (.flat _ rfl) rfl
 ·rw[decide_eq_false h] at c1;rw[rangeZ,if_neg h];have w1:=wback hl;have w2:=wback2 hh;have g1:decide ((0:Int) > IntKind.u64.wrap (IntKind.u64.wrap hi-IntKind.u64.wrap lo))=false:=decide_eq_false (by have:=wu_nn (IntKind.u64.wrap hi-IntKind.u64.wrap lo);omega)
  have g2:decide ((0:Int) > IntKind.u64.wrap (IntKind.u64.wrap (IntKind.u64.wrap hi-IntKind.u64.wrap lo)-0))=false:=decide_eq_false (by have:=wu_nn (IntKind.u64.wrap (IntKind.u64.wrap hi-IntKind.u64.wrap lo)-0);omega)
  have e1:IntKind.i64.wrap (IntKind.u64.wrap (IntKind.u64.wrap lo+0))=lo:=w1;have e2:IntKind.i64.wrap (IntKind.u64.wrap (IntKind.u64.wrap hi-0))=hi:=w2;by_cases he:lo=hi
  ·have g3:(IntKind.i64.wrap (IntKind.u64.wrap (IntKind.u64.wrap lo+0))==IntKind.i64.wrap (IntKind.u64.wrap (IntKind.u64.wrap hi-0)))=true:=by rw[e1,e2];simpa using he
   rw[if_pos he];rw[← e1] at c5;(repeat' ((conv=>whnf);first|refine goD ?_|refine ⟨_,c1,clM,tab0 _,?_⟩|refine ⟨_,c3,clM,tab0 _,?_⟩|refine ⟨_,c4,clM,tab0 _,?_⟩|refine ⟨_,c5,clM,tab0 _,?_⟩|refine U.drawX_p (D:=U.propX) 10 [] (by decide +kernel) (by decide +kernel) ?_|refine U.drawX_p (D:=U.propX) 14 [] (by decide +kernel) (by decide +kernel) ?_|refine U.lw_c ?_ ?_<;>intro hb))
   (conv=>whnf);rw[e1];exact .same (.flat _ rfl) rfl
  ·have g3:(IntKind.i64.wrap (IntKind.u64.wrap (IntKind.u64.wrap lo+0))==IntKind.i64.wrap (IntKind.u64.wrap (IntKind.u64.wrap hi-0)))=false:=by rw[e1,e2];simpa using he
   rw[if_neg he];(repeat' ((conv=>whnf);first|refine goD ?_|refine ⟨_,c1,clM,tab0 _,?_⟩|refine ⟨_,c3,clM,tab0 _,?_⟩|refine ⟨_,c4,clM,tab0 _,?_⟩|refine U.drawX_p (D:=U.propX) 10 [] (by decide +kernel) (by decide +kernel) ?_|refine U.drawX_p (D:=U.propX) 14 [] (by decide +kernel) (by decide +kernel) ?_|refine U.lw_c ?_ ?_<;>intro hb))
   (conv=>whnf);rw[e1,e2];exact .same (.flat _ rfl) rfl
theorem rplain_d (lo hi:Int) (hl:inI lo) (hh:inI hi):DenU Tryz.prog [] 77 [encV ⟨lo,hi,1,0⟩] (encV (rangeZ lo hi)):=by
 refine denU_of_body hmixU rfl Tryz.func77 rfl rfl rfl 0 ?_;intro Ts;have c:=rmake_d lo hi hl hh;generalize rangeZ lo hi=z at *
 (repeat' ((conv=>whnf);first|refine goD ?_|refine ⟨_,c,clM,tab0 _,?_⟩|refine U.lw_c ?_ ?_<;>intro hb))
 (conv=>whnf);exact .same (.flat _ rfl) rfl
theorem ref0_snoc (ins:List In13) (n:Nat):ref0 ins (n+1)=ref0 ins n++[refIn (n:Int) ins zeroC]:=by
 rw[ref0,List.range_succ,List.map_append];rfl
theorem ref0_len (ins:List In13) (n:Nat):(ref0 ins n).length=n:=by simp[ref0]
theorem rnew_d (p:Pg) (n:Nat) (hn:p.slots=(n:Int)) (hn2:n≤1000) (hi:p.ins.length≤20) (ha:p.arrs.length≤20) (hr:∀x∈p.ins,inI x.lo∧inI x.hi):DenU Tryz.prog [] 26 [encP p] (encSt ⟨ref0 p.ins n,List.replicate p.arrs.length zeroC,false⟩):=by
 refine denU_of_body hmixU rfl Tryz.func26 rfl rfl rfl 0 ?_;intro Ts;have c1:DenU Tryz.prog [] 76 [.int .i64 0] (encV ⟨0,0,0,0⟩):=wone_d 0;obtain ⟨sl,arrs,ins,procs,main⟩:=p;dsimp only at *;subst hn
 (repeat' ((conv=>whnf);first|refine goD ?_|refine U.lw_c ?_ ?_<;>intro hb))
 (conv=>whnf);refine loop_inv (α:=Nat) (fun i=>i≤n) (fun i=>(mkF [(1,.pointer (some ⟨0,0,none⟩)),(2,.pointer (some ⟨1,0,none⟩)),(3,.pointer (some ⟨2,0,none⟩)),(4,.int .i64 i)],⟨mkO [(0,some (.cells 51 (cellsOf (encP ⟨(n:Int),arrs,ins,procs,main⟩)) false)),(1,some (.cells 75 [.slice none 0 0,.slice none 0 0,.bool false] false)),(2,some (.cells 75 [rowS 3 (cL (ref0 ins i)),.slice none 0 0,.bool false] false)),(3,rowO 163 (cL (ref0 ins i)))],4,0,0⟩)) (fun i=>n-i) 0 zL (Cov.renI rfl rfl rfl rfl (.W rfl ((fun c hc=>cleanP_cells ⟨(n:Int),arrs,ins,procs,main⟩ c hc)) rfl (.C rfl (.K rfl rfl (.K rfl rfl (.K rfl rfl .nil))) (.C rfl (.K rfl rfl (.K rfl rfl (.K rfl rfl .nil))) (.none .nil)))) (.cons rfl (.P rfl) (.cons rfl (.P rfl) (.cons rfl (.P rfl) (.K rfl rfl rfl .nil))))) ?_
 intro i hin;have hRl:=ref0_len ins i;have eR:=ref0_snoc ins i;obtain ⟨R,hR⟩:∃R,R=ref0 ins i:=⟨_,rfl⟩
 dsimp only;rw[← hR] at hRl eR ⊢;by_cases hlt:i<n
 ·have g1:decide ((i:Int)<(n:Int))=true:=decide_eq_true (by omega)
  have hwi:=wadd1 (i:=i) (by omega)
  (repeat' ((conv=>whnf);first|refine goD ?_|refine ⟨_,c1,clM,tab0 _,?_⟩|refine U.lw_c ?_ ?_<;>intro hb))
  (conv=>whnf);refine loop_inv (α:=List In13×List In13) (fun x=>x.1++x.2=ins) (fun x=>(mkF [(1,.pointer (some ⟨0,0,none⟩)),(2,.pointer (some ⟨1,0,none⟩)),(3,.pointer (some ⟨2,0,none⟩)),(4,.int .i64 i),(5,.pointer (some ⟨4,0,none⟩)),(6,.int .i64 x.1.length)],⟨mkO [(0,some (.cells 51 (cellsOf (encP ⟨(n:Int),arrs,ins,procs,main⟩)) false)),(1,some (.cells 75 [.slice none 0 0,.slice none 0 0,.bool false] false)),(2,some (.cells 75 [rowS 3 (cL R),.slice none 0 0,.bool false] false)),(3,rowO 163 (cL R)),(4,some (.cells 163 (cellsOf (encC (refIn (i:Int) x.1 zeroC))) false))],5,0,0⟩)) (fun x=>x.2.length) ([],ins) rfl (Cov.renI rfl rfl rfl rfl (.W rfl ((fun c hc=>cleanP_cells ⟨(n:Int),arrs,ins,procs,main⟩ c hc)) rfl (.C rfl (.K rfl rfl (.K rfl rfl (.K rfl rfl .nil))) (.C rfl (.cons (.ofRow (by decide) rfl rfl) (.K rfl rfl (.K rfl rfl .nil))) (blksO.row rfl rfl (cleanCC _) (.C rfl (.K rfl rfl (.K rfl rfl (.K rfl rfl (.K rfl rfl (.K rfl rfl .nil))))) .nil))))) (.cons rfl (.P rfl) (.cons rfl (.P rfl) (.cons rfl (.P rfl) (.cons rfl .I (.cons rfl (.P rfl) (.K rfl rfl rfl .nil))))))) ?_
  rintro ⟨pre,rest⟩ q
  dsimp only at q;obtain ⟨cv,hcv⟩:∃c,c=refIn (i:Int) pre zeroC:=⟨_,rfl⟩
  have esn:=refIn_snoc (i:Int) pre;dsimp only;rw[← hcv];rcases rest with _|⟨⟨nm,slot,lo,hh,sec⟩,rest⟩
  ·rw[List.append_nil] at q;have zb:decide ((pre.length:Int)<((inL ins).length:Int))=false:=by rw[← q];exact U.lt_no inL_map pre
   rw[← q,← hcv] at eR;rw[q] at eR;obtain ⟨⟨vlo,vhi,vm,vr⟩,vk⟩:=cv;rcases R with _|⟨r0,R⟩
   ·(repeat' ((conv=>whnf);first|refine goD ?_|refine U.lw_c ?_ ?_<;>intro hb))
    (conv=>whnf);refine ⟨i+1,hlt,Nat.sub_succ_lt_self _ _ hlt,?_⟩;rw[eR];exact (Cov.renO (fun k=>if k=3 then 6 else k) rfl rfl (bR rfl) zL (fun k hk=>by have:k<3:=hk;rw[if_neg (by omega)]) rfl nlz (.W rfl ((fun c hc=>cleanP_cells ⟨(n:Int),arrs,ins,procs,main⟩ c hc)) rfl (.C rfl (.K rfl rfl (.K rfl rfl (.K rfl rfl .nil))) (.C rfl (.cons (.grown (by decide) rfl (by simp[cL]) (by simp[cL]) (by simp[cL])) (.K rfl rfl (.K rfl rfl .nil))) (blksO.grown rfl rfl (cleanCC _) .nil)))) (.cons rfl (.P rfl) (.cons rfl (.P rfl) (.cons rfl (.P rfl) (.L rfl (cleanI _) (congrArg (Value.int .i64) (hwi.symm)) .nil)))))
   ·have hgr:(cellsAll (encC r0::List.map encC R)).length=((List.map encC R).length+1)*5:=by
     rw[show encC r0::List.map encC R=cL (r0::R) from rfl,cellsC_len,List.length_map];rfl
    have hg1:(List.map encC R).length+1+(0+1)≤100000:=by simp at hRl ⊢;omega
    (repeat' ((conv=>whnf);first|refine goA ?_|(rw[U.ble_f ((List.map encC R).length+1)];dsimp only;refine U.growRow_p hgr rfl ?_)|refine U.ob_c (grow_ok (by decide +kernel) hg1) ?_|refine goB ?_|refine U.lw_c ?_ ?_<;>intro hb))
    (conv=>whnf);refine ⟨i+1,hlt,Nat.sub_succ_lt_self _ _ hlt,?_⟩;rw[eR];exact (Cov.renO (fun k=>if k=3 then 6 else k) rfl rfl (bR rfl) zL (fun k hk=>by have:k<3:=hk;rw[if_neg (by omega)]) rfl nlz (.W rfl ((fun c hc=>cleanP_cells ⟨(n:Int),arrs,ins,procs,main⟩ c hc)) rfl (.C rfl (.K rfl rfl (.K rfl rfl (.K rfl rfl .nil))) (.C rfl (.cons (.grown (by decide) rfl (by simp[cL]) (by simp[cL]) (by simp[cL])) (.K rfl rfl (.K rfl rfl .nil))) (blksO.grown rfl ((cellsC_snoc (r0::R) _)) (cleanCC _) .nil)))) (.cons rfl (.P rfl) (.cons rfl (.P rfl) (.cons rfl (.P rfl) (.L rfl (cleanI _) (congrArg (Value.int .i64) (hwi.symm)) .nil)))))
  ·have zb:=U.lt_yes inL_map pre (In13.mk nm slot lo hh sec) rest;have zc:=U.blt_yes inL_map pre (In13.mk nm slot lo hh sec) rest;have zn:=U.nth_at inL_map pre (In13.mk nm slot lo hh sec) rest;have zw:=U.len_snoc (pre:=pre) (x:=In13.mk nm slot lo hh sec) (post:=rest) (by rw[q];simp[maxI] at *;omega)
   rw[q] at zb zc zn;obtain ⟨i1,i2⟩:=hr ⟨nm,slot,lo,hh,sec⟩ (by rw[← q];simp)
   dsimp only at i1 i2;have cp:=rplain_d lo hh i1 i2;have es:=esn ⟨nm,slot,lo,hh,sec⟩ zeroC;rw[← hcv] at es;dsimp only at es;obtain ⟨⟨vlo,vhi,vm,vr⟩,vk⟩:=cv;by_cases hs:slot=(i:Int)
   ·have g2:(slot==(i:Int))=true:=by simpa using hs
    rw[if_pos hs] at es;generalize rangeZ lo hh=zz at cp es
    (repeat' ((conv=>whnf);first|refine goD ?_|refine ⟨_,cp,clM,tab0 _,?_⟩|refine U.lw_c ?_ ?_<;>intro hb))
    (conv=>whnf);refine ⟨(pre++[⟨nm,slot,lo,hh,sec⟩],rest),by rw[← q];simp,by simp,?_⟩
    dsimp only;rw[es];exact (Cov.renI rfl rfl rfl rfl (.W rfl ((fun c hc=>cleanP_cells ⟨(n:Int),arrs,ins,procs,main⟩ c hc)) rfl (.C rfl (.K rfl rfl (.K rfl rfl (.K rfl rfl .nil))) (.C rfl (.cons (.ofRow (by decide) rfl rfl) (.K rfl rfl (.K rfl rfl .nil))) (blksO.row rfl rfl (cleanCC _) (.C rfl (.cons .I (.cons .I (.K rfl rfl (.K rfl rfl (.K rfl rfl .nil))))) .nil))))) (.cons rfl (.P rfl) (.cons rfl (.P rfl) (.cons rfl (.P rfl) (.cons rfl .I (.cons rfl (.P rfl) (.L rfl (cleanI _) (congrArg (Value.int .i64) (zw.symm)) .nil)))))))
   ·have g2:(slot==(i:Int))=false:=by simpa using hs
    rw[if_neg hs] at es;(repeat' ((conv=>whnf);first|refine goD ?_|refine U.lw_c ?_ ?_<;>intro hb))
    (conv=>whnf);refine ⟨(pre++[⟨nm,slot,lo,hh,sec⟩],rest),by rw[← q];simp,by simp,?_⟩
    dsimp only;rw[es];exact (Cov.renI rfl rfl rfl rfl (.W rfl ((fun c hc=>cleanP_cells ⟨(n:Int),arrs,ins,procs,main⟩ c hc)) rfl (.C rfl (.K rfl rfl (.K rfl rfl (.K rfl rfl .nil))) (.C rfl (.cons (.ofRow (by decide) rfl rfl) (.K rfl rfl (.K rfl rfl .nil))) (blksO.row rfl rfl (cleanCC _) (.C rfl (.cons .I (.cons .I (.K rfl rfl (.K rfl rfl (.K rfl rfl .nil))))) .nil))))) (.cons rfl (.P rfl) (.cons rfl (.P rfl) (.cons rfl (.P rfl) (.cons rfl .I (.cons rfl (.P rfl) (.L rfl (cleanI _) (congrArg (Value.int .i64) (zw.symm)) .nil)))))))
 ·have g1:decide ((i:Int)<(n:Int))=false:=decide_eq_false (by omega)
  obtain rfl:i=n:=by omega
  rw[← hR];clear eR hR;(repeat' ((conv=>whnf);first|refine goD ?_|refine U.lw_c ?_ ?_<;>intro hb))
  (conv=>whnf);refine loop_inv (α:=Nat) (fun j=>j≤arrs.length) (fun j=>(mkF [(1,.pointer (some ⟨0,0,none⟩)),(2,.pointer (some ⟨1,0,none⟩)),(3,.pointer (some ⟨2,0,none⟩)),(8,.int .i64 j)],⟨mkO [(0,some (.cells 51 (cellsOf (encP ⟨(i:Int),arrs,ins,procs,main⟩)) false)),(1,some (.cells 75 [.slice none 0 0,.slice none 0 0,.bool false] false)),(2,some (.cells 75 [rowS 3 (cL R),rowS 4 (cL (List.replicate j zeroC)),.bool false] false)),(3,rowO 163 (cL R)),(4,rowO 163 (cL (List.replicate j zeroC)))],5,0,0⟩)) (fun j=>arrs.length-j) 0 zL (Cov.renI rfl rfl rfl rfl (.W rfl ((fun c hc=>cleanP_cells ⟨(i:Int),arrs,ins,procs,main⟩ c hc)) rfl (.C rfl (.K rfl rfl (.K rfl rfl (.K rfl rfl .nil))) (.C rfl (.cons (.ofRow (by decide) rfl rfl) (.K rfl rfl (.K rfl rfl .nil))) (blksO.row rfl rfl (cleanCC _) (.none .nil))))) (.cons rfl (.P rfl) (.cons rfl (.P rfl) (.cons rfl (.P rfl) (.K rfl rfl rfl .nil))))) ?_
  intro j hj;have hAl:(List.replicate j zeroC).length=j:=List.length_replicate;have eA:List.replicate (j+1) zeroC=List.replicate j zeroC++[zeroC]:=List.replicate_succ';obtain ⟨A,hA⟩:∃A,A=List.replicate j zeroC:=⟨_,rfl⟩
  dsimp only;rw[← hA] at hAl eA ⊢;by_cases hlt:j<arrs.length
  ·have g2:decide ((j:Int)<((iL arrs).length:Int))=true:=decide_eq_true (by rw[iL_len];omega)
   have hwj:=wadd1 (i:=j) (by omega)
   rcases A with _|⟨a0,A⟩
   ·(repeat' ((conv=>whnf);first|refine goD ?_|refine ⟨_,c1,clM,tab0 _,?_⟩|refine U.drawX_p (D:=U.propX) 5 [] (by decide +kernel) (by decide +kernel) ?_|refine U.lw_c ?_ ?_<;>intro hb))
    (conv=>whnf);refine ⟨j+1,hlt,Nat.sub_succ_lt_self _ _ hlt,?_⟩;rw[eA];exact (Cov.renO (fun k=>if k=4 then 6 else k) rfl rfl (bR rfl) zL (fun k hk=>by have:k<4:=hk;rw[if_neg (by omega)]) rfl nlz (.W rfl ((fun c hc=>cleanP_cells ⟨(i:Int),arrs,ins,procs,main⟩ c hc)) rfl (.C rfl (.K rfl rfl (.K rfl rfl (.K rfl rfl .nil))) (.C rfl (.cons (.ofRow (by decide) rfl rfl) (.cons (.grown (by decide) rfl (by simp[cL]) (by simp[cL]) (by simp[cL])) (.K rfl rfl .nil))) (blksO.row rfl rfl (cleanCC _) (blksO.grown rfl rfl (cleanCC _) .nil))))) (.cons rfl (.P rfl) (.cons rfl (.P rfl) (.cons rfl (.P rfl) (.L rfl (cleanI _) (congrArg (Value.int .i64) (hwj.symm)) .nil)))))
   ·have hgr:(cellsAll (encC a0::List.map encC A)).length=((List.map encC A).length+1)*5:=by
     rw[show encC a0::List.map encC A=cL (a0::A) from rfl,cellsC_len,List.length_map];rfl
    have hg1:(List.map encC A).length+1+(0+1)≤100000:=by simp at hAl ⊢;omega
    (repeat' ((conv=>whnf);first|refine goA ?_|(rw[U.ble_f ((List.map encC A).length+1)];dsimp only;refine U.growRow_p hgr rfl ?_)|refine U.ob_c (grow_ok (by decide +kernel) hg1) ?_|refine goB ?_|refine ⟨_,c1,clM,tab0 _,?_⟩|refine U.drawX_p (D:=U.propX) 5 [] (by decide +kernel) (by decide +kernel) ?_|refine U.lw_c ?_ ?_<;>intro hb))
    (conv=>whnf);refine ⟨j+1,hlt,Nat.sub_succ_lt_self _ _ hlt,?_⟩;rw[eA];exact (Cov.renO (fun k=>if k=4 then 6 else k) rfl rfl (bR rfl) zL (fun k hk=>by have:k<4:=hk;rw[if_neg (by omega)]) rfl nlz (.W rfl ((fun c hc=>cleanP_cells ⟨(i:Int),arrs,ins,procs,main⟩ c hc)) rfl (.C rfl (.K rfl rfl (.K rfl rfl (.K rfl rfl .nil))) (.C rfl (.cons (.ofRow (by decide) rfl rfl) (.cons (.grown (by decide) rfl (by simp[cL]) (by simp[cL]) (by simp[cL])) (.K rfl rfl .nil))) (blksO.row rfl rfl (cleanCC _) (blksO.grown rfl ((cellsC_snoc (a0::A) _)) (cleanCC _) .nil))))) (.cons rfl (.P rfl) (.cons rfl (.P rfl) (.cons rfl (.P rfl) (.L rfl (cleanI _) (congrArg (Value.int .i64) (hwj.symm)) .nil)))))
  ·have g2:decide ((j:Int)<((iL arrs).length:Int))=false:=decide_eq_false (by rw[iL_len];omega)
   obtain rfl:j=arrs.length:=by omega
   rw[← hA];have hone:[rowS 3 (cL R),rowS 4 (cL A),.bool false].all Value.oneCell'=true:=by cases R<;>cases A<;>rfl
   (repeat' ((conv=>whnf);first|refine goA ?_|refine U.ob_c hone ?_|refine goB ?_|refine U.lw_c ?_ ?_<;>intro hb))
   (conv=>whnf);exact .aggL (.cons (.ofRow zL rfl (cL_5 _) (cleanCC _)) (.cons (.ofRow zL rfl (cL_5 _) (cleanCC _)) (.cons (.clean _ (.flat _ rfl)) .nil)))
theorem str_eq (a b:ByteArray):(a.toList==b.toList)=decide (a=b):=by
 rw[ByteArray.toList_eq,ByteArray.toList_eq];rw[Bool.eq_iff_iff,beq_iff_eq,decide_eq_true_iff];constructor
 ·intro h;obtain ⟨⟨l⟩⟩:=a;obtain ⟨⟨m⟩⟩:=b;simp at h;subst h;rfl
 ·rintro rfl;rfl
theorem chk_no {pre rest:List UInt8}{c:UInt8}(h:okC pre.isEmpty c=false):okAll (pre++c::rest)=false:=by
 have e:okAll (pre++[c])=false:=by rw[okAll_snoc,h,Bool.and_false]
 have e2:pre++c::rest=(pre++[c])++rest:=by simp
 rw[e2];cases hx:okAll ((pre++[c])++rest) with
 |false=>rfl
 |true=>rw[okAll_app _ _ hx] at e;cases e
theorem wordNo {pre rest:List UInt8}{c:UInt8}(h:okC pre.isEmpty c=false):wordB ⟨⟨pre++c::rest⟩⟩=false:=by
 unfold wordB;rw[show (⟨⟨pre++c::rest⟩⟩:ByteArray).data.toList=pre++c::rest from rfl,chk_no h,Bool.and_false]
theorem str_lt (pre rest:List UInt8) (c:UInt8):decide (((pre.length:Nat):Int)<((⟨⟨pre++c::rest⟩⟩:ByteArray).size:Int))=true:=decide_eq_true (by
 show ((pre.length:Nat):Int)<(((pre++c::rest).length:Nat):Int)
 rw[List.length_append,List.length_cons];omega)
theorem str_no (pre:List UInt8):decide (((pre.length:Nat):Int)<((⟨⟨pre⟩⟩:ByteArray).size:Int))=false:=decide_eq_false (by
 show ¬((pre.length:Nat):Int)<((pre.length:Nat):Int)
 omega)
theorem str_blt (pre rest:List UInt8) (c:UInt8):Nat.blt pre.length (pre++c::rest).length=true:=bLe (by
 rw[List.length_append,List.length_cons];omega)
theorem emp_eq (pre:List UInt8):(((pre.length:Nat):Int)==0)=pre.isEmpty:=by cases pre<;>simp;omega
theorem word_d (b:ByteArray):DenU Tryz.prog [] 182 [.string b] (.bool (wordB b)):=by
 obtain ⟨⟨l⟩⟩:=b;refine denU_of_body hmixU rfl Tryz.func182 rfl rfl rfl 0 ?_;intro Ts;(repeat' ((conv=>whnf);first|refine goD ?_|refine U.lw_c ?_ ?_<;>intro hb))
 all_goals (conv=>whnf)
 ·rw[str_eq] at hb;have hb:(⟨⟨l⟩⟩:ByteArray)=⟨#[]⟩:=of_decide_eq_true hb;cases hb;exact .same (.flat _ rfl) rfl
 ·have hb:((⟨⟨l⟩⟩:ByteArray).size:Int) > 32:=of_decide_eq_true hb;exact .same (.flat _ rfl) (congrArg Value.bool (by unfold wordB;rw[decide_eq_false (p:=(⟨⟨l⟩⟩:ByteArray).size≤32) (by omega)];simp))
 ·rename_i hb2;rw[str_eq] at hb2;have hb:¬((⟨⟨l⟩⟩:ByteArray).size:Int) > 32:=of_decide_eq_false hb;have hb:l.length≤32:=by
   have h2:¬(l.length:Int) > 32:=hb;omega
  have hb1:1≤l.length:=by
   rcases l with _|⟨c,l⟩
   ·exact absurd rfl (of_decide_eq_false hb2)
   ·simp
  clear hb2;refine loop_inv (α:=List UInt8×List UInt8) (fun x=>x.1++x.2=l∧okAll x.1=true) (fun x=>(mkF [(0,.string ⟨⟨l⟩⟩),(2,.bool false),(3,.int .i64 x.1.length)],⟨mkO [],0,0,0⟩)) (fun x=>x.2.length) ([],l) ⟨rfl,rfl⟩ (Cov.slots (Nat.le_refl 0) ⟨rfl,rfl,rfl,trivial⟩) ?_
  rintro ⟨pre,rest⟩ ⟨p1,p2⟩
  dsimp only at p1 p2;subst p1;dsimp only;rcases rest with _|⟨c,rest⟩
  ·rw[List.append_nil] at *;have zb:=str_no pre;(repeat' ((conv=>whnf);first|refine goD ?_|refine U.lw_c ?_ ?_<;>intro hb))
   all_goals (conv=>whnf)
   exact .same (.flat _ rfl) (congrArg Value.bool (by
    unfold wordB;rw[show (⟨⟨pre⟩⟩:ByteArray).size=pre.length from rfl,show (⟨⟨pre⟩⟩:ByteArray).data.toList=pre from rfl,p2,decide_eq_true hb,decide_eq_true hb1];rfl))
  ·have zb:=str_lt pre rest c;have zc:=str_blt pre rest c;have zn:nth ((pre++c::rest).map U.byteV) pre.length=some (U.byteV c):=U.nth_at (en:=fun l=>l.map U.byteV) (fun _=>rfl) pre c rest
   have zw:=U.len_snoc (pre:=pre) (x:=c) (post:=rest) (by omega)
   (repeat' ((conv=>whnf);first|refine goD ?_|refine U.lw_c ?_ ?_<;>intro hb))
   all_goals (conv=>whnf)
   all_goals try simp only[emp_eq] at *
   all_goals clear zb zc zn
   all_goals first
    |(refine .same (.flat _ rfl) (congrArg Value.bool (wordNo ?_).symm)<;>(simp_all[okC,letB]<;>omega);done)
    |(refine ⟨(pre++[c],rest),⟨by simp,?_⟩,by simp,Cov.slots (s:=⟨mkO [],0,0,0⟩) (Nat.le_refl 0) ⟨rfl,rfl,congrArg (fun z=>some (Value.int .i64 z)) zw,trivial⟩⟩;rw[okAll_snoc,p2];(simp_all[okC,letB]<;>omega);done)
def kwT:List (Nat×List Value):=[(0,kwB.map Value.string)]
theorem kw_ok:gOk kwT=true:=by kernel_rfl
def kwNo (b:ByteArray) (i:Nat):Bool:=(kwB.take i).all fun k=>!decide (k=b)
theorem kwNo_end {b:ByteArray}(h:kwNo b 13=true):(kwB.any fun k=>decide (k=b))=false:=by
 unfold kwNo at h;rw[show kwB.take 13=kwB from rfl] at h;rw[Bool.eq_false_iff];intro h2;obtain ⟨k,hk,h2⟩:=List.any_eq_true.1 h2;have:=List.all_eq_true.1 h k hk;rw[h2] at this;cases this
theorem kwNo_s {b k:ByteArray}{i:Nat}(hi:i<13) (hk:kwB[i]?=some k) (h:kwNo b i=true) (h2:decide (k=b)=false):kwNo b (i+1)=true:=by
 unfold kwNo at h ⊢
 rw[List.take_add_one,List.all_append,h,hk];simp[h2]
theorem kwYes {b k:ByteArray}(hk:k∈kwB) (h:k=b):nameB b=false:=by
 unfold nameB;rw[show (kwB.any fun k=>decide (k=b))=true from List.any_eq_true.2 ⟨k,hk,decide_eq_true h⟩]
 rfl
theorem name_d (b:ByteArray):DenU Tryz.prog kwT 107 [.string b] (.bool (nameB b)):=by
 refine denU_of_soundT kw_ok fun Ts=>SoundAt.body hmixU Tryz.func107 rfl rfl rfl 0 ?_
 (repeat' ((conv=>whnf);first|refine goD ?_|refine U.lw_c ?_ ?_<;>intro hb))
 (conv=>whnf);refine loop_inv (α:=Nat) (fun i=>i≤13∧kwNo b i=true) (fun i=>(mkF [(0,.string b),(2,.bool false),(5,.agg ⟨kwB.map Value.string⟩),(6,.int .i64 i)],U.start kwT Ts)) (fun i=>13-i) 0 ⟨by decide,rfl⟩ (Cov.slots rL ⟨rfl,rfl,rfl,rfl,trivial⟩) ?_
 rintro i ⟨h1,h2⟩
 have h3:i=13∨i=0∨i=1∨i=2∨i=3∨i=4∨i=5∨i=6∨i=7∨i=8∨i=9∨i=10∨i=11∨i=12:=by omega
 have hw:=word_d b;rcases h3 with rfl|h3
 ·(repeat' ((conv=>whnf);first|refine goD ?_|refine U.SoundAt.u (hw) clM ?_|refine U.SoundC.u (hw) clM ?_|refine U.lw_c ?_ ?_<;>intro hb))
  (conv=>whnf);exact .same (.flat _ rfl) (congrArg Value.bool (by rw[nameB,kwNo_end h2];rfl))
 ·rcases h3 with rfl|rfl|rfl|rfl|rfl|rfl|rfl|rfl|rfl|rfl|rfl|rfl|rfl
  all_goals (repeat' ((conv=>whnf);first|refine goD ?_|refine U.lw_c ?_ ?_<;>intro hb))
  all_goals (conv=>whnf)
  all_goals rw[str_eq] at hb
  all_goals first
   |exact .same (.flat _ rfl) (congrArg Value.bool (kwYes (by repeat (first|exact List.mem_cons_self|apply List.mem_cons_of_mem)) (of_decide_eq_true hb)).symm)
   |exact ⟨_,⟨bR rfl,kwNo_s (by decide) rfl h2 hb⟩,Nat.lt_of_lt_of_le (Nat.lt_succ_self _) rL,Cov.slots (s:=U.start kwT Ts) rL ⟨rfl,rfl,rfl,rfl,trivial⟩⟩
def arrOk (n:Int):Bool:=decide (1≤n)&&decide (n≤1024)
theorem arr_pos:∀{l:List Int},l.all arrOk=true->0≤l.sum
 |[],_=>by simp
 |x::l,h=>by
  simp only[List.all_cons,Bool.and_eq_true,arrOk,decide_eq_true_eq] at h;have:=arr_pos (l:=l) h.2;rw[List.sum_cons];omega
theorem arr_no (pre rest:List Int) (x:Int) (h:arrOk x=false):arrsB (pre++x::rest)=false:=by
 unfold arrsB;rw[show (fun n:Int=>decide (1≤n)&&decide (n≤1024))=arrOk from rfl,List.all_append,List.all_cons,h];simp
theorem arr_big (pre rest:List Int) (x:Int) (h:4096<(pre++[x]).sum):arrsB (pre++x::rest)=false:=by
 unfold arrsB;rw[show (fun n:Int=>decide (1≤n)&&decide (n≤1024))=arrOk from rfl,show pre++x::rest=(pre++[x])++rest by simp]
 by_cases hr:rest.all arrOk=true
 ·have:=arr_pos hr;have h2:¬((pre++[x])++rest).sum≤4096:=by rw[List.sum_append];omega
  rw[decide_eq_false h2,Bool.and_false]
 ·rw[List.all_append];simp[hr]
theorem rarr_d (l:List Int) (hl:l.length≤20):DenU Tryz.prog [] 44 [imS (iL l)] (.bool (arrsB l)):=by
 refine denU_of_body hmixU rfl Tryz.func44 rfl rfl rfl 0 ?_;intro Ts;(repeat' ((conv=>whnf);first|refine goD ?_|refine U.lw_c ?_ ?_<;>intro hb))
 (conv=>whnf);refine loop_inv (α:=List Int×List Int) (fun x=>x.1++x.2=l∧x.1.all arrOk=true∧x.1.sum≤4096) (fun x=>(mkF [(2,.bool false),(3,.int .i64 x.1.sum),(6,imS (iL l)),(7,.int .i64 (iL l).length),(8,.int .i64 x.1.length)],⟨mkO [],0,0,0⟩)) (fun x=>x.2.length) ([],l) ⟨rfl,rfl,by simp⟩ (Cov.slots (Nat.le_refl 0) ⟨rfl,rfl,rfl,rfl,rfl,trivial⟩) ?_
 rintro ⟨pre,rest⟩ ⟨p1,p2,p3⟩
 dsimp only at p1 p2 p3;subst p1;dsimp only;rcases rest with _|⟨x,rest⟩
 ·rw[List.append_nil];have zb:=U.lt_no iL_map pre;(repeat' ((conv=>whnf);first|refine goD ?_|refine U.lw_c ?_ ?_<;>intro hb))
  (conv=>whnf);exact .same (.flat _ rfl) (congrArg Value.bool (by unfold arrsB;rw[show (fun n:Int=>decide (1≤n)&&decide (n≤1024))=arrOk from rfl,p2,decide_eq_true p3];rfl))
 ·have zb:=U.lt_yes iL_map pre (x) rest;have zc:=U.blt_yes iL_map pre (x) rest;have zn:=U.nth_at iL_map pre (x) rest;have zw:=U.len_snoc (pre:=pre) (x:=x) (post:=rest) ((by simp at hl ⊢;omega))
  have hp:=arr_pos p2;(repeat' ((conv=>whnf);first|refine goD ?_|refine U.lw_c ?_ ?_<;>intro hb))
  all_goals (conv=>whnf)
  all_goals simp only[decide_eq_true_eq,decide_eq_false_iff_not] at *
  all_goals first
   |(refine .same (.flat _ rfl) (congrArg Value.bool (arr_no pre rest x ?_).symm);simp only[arrOk,Bool.and_eq_false_iff,decide_eq_false_iff_not];omega;done)
   |(have hx:IntKind.i64.wrap (pre.sum+x)=(pre++[x]).sum:=by rw[IntKind.wrap_i64,List.sum_append];simp;omega)
    rw[hx] at hb;first
     |(refine .same (.flat _ rfl) (congrArg Value.bool (arr_big pre rest x ?_).symm);omega;done)
     |(refine ⟨(pre++[x],rest),⟨by simp,?_,?_⟩,by simp,Cov.slots (s:=⟨mkO [],0,0,0⟩) (Nat.le_refl 0) ⟨rfl,congrArg (fun z=>some (Value.int .i64 z)) hx,rfl,rfl,congrArg (fun z=>some (Value.int .i64 z)) zw,trivial⟩⟩
       ·rw[List.all_append,p2];simp[arrOk];omega
       ·show (pre++[x]).sum≤4096;omega)
structure CntK {K:Type}(m:List (K×Int)) (s:List K):Prop where
 nd:(m.map (·.1)).Nodup
 iff:∀k,k∈m.map (·.1)↔k∈s
theorem CntK.nil {K:Type}:CntK ([]:List (K×Int)) []:=⟨by simp,by simp⟩
theorem CntK.new {K:Type}{m:List (K×Int)}{s:List K}(h:CntK m s) {z:K}{u:Int}(hz:z∉m.map (·.1)):CntK (m++[(z,u)]) (s++[z]):=by
 refine ⟨?_,fun k=>?_⟩
 ·rw[List.map_append,List.nodup_append];refine ⟨h.nd,by simp,?_⟩
  rintro a ha b hb rfl
  simp at hb
  subst hb;exact hz ha
 ·rw[List.map_append,List.mem_append,List.mem_append,h.iff];simp
theorem CntK.old {K:Type}{a b:List (K×Int)}{z:K}{u w:Int}{s:List K}(h:CntK (a++(z,u)::b) s):CntK (a++(z,w)::b) (s++[z]):=by
 have e:(a++(z,w)::b).map (·.1)=(a++(z,u)::b).map (·.1):=by simp
 refine ⟨by rw[e];exact h.nd,fun k=>?_⟩
 rw[e,h.iff,List.mem_append,List.mem_singleton];constructor
 ·exact .inl
 ·rintro (hk|rfl)
  ·exact hk
  ·exact (h.iff k).1 (by simp)
theorem nd_len {K:Type} [DecidableEq K]:∀{l s:List K},l.Nodup->(∀x∈l,x∈s)->l.length≤s.length
 |[],s,_,_=>Nat.zero_le _
 |a::l,s,h,hs=>by
  rw[List.nodup_cons] at h;have h1:=nd_len (l:=l) (s:=s.erase a) h.2 fun x hx=>(List.mem_erase_of_ne (by rintro rfl;exact h.1 hx)).2 (hs x (by simp[hx]))
  rw[List.length_erase_of_mem (hs a (by simp))] at h1;have:=List.length_pos_of_mem (hs a (by simp))
  rw[List.length_cons];omega
theorem nd_lt {K:Type} [DecidableEq K]:∀{s l:List K},l.Nodup->(∀x∈l,x∈s)->¬s.Nodup->l.length<s.length
 |[],l,_,_,h=>absurd List.nodup_nil h
 |a::s,l,hl,hs,h=>by
  rw[List.length_cons];by_cases ha:a∈s
  ·have:=nd_len (s:=s) hl fun x hx=>by
    rcases List.mem_cons.1 (hs x hx) with rfl|h
    ·exact ha
    ·exact h
   omega
  ·have h2:¬s.Nodup:=fun hn=>h (List.nodup_cons.2 ⟨ha,hn⟩)
   have h3:=nd_lt (s:=s) (l:=l.erase a) (hl.erase a) (fun x hx=>by
    have hx':=(hl.mem_erase_iff).1 hx;rcases List.mem_cons.1 (hs x hx'.2) with rfl|h
    ·exact absurd rfl hx'.1
    ·exact h) h2
   have:=List.length_erase (a:=a) (l:=l);split at this<;>omega
theorem CntK.len {K:Type} [DecidableEq K] {m:List (K×Int)}{s:List K}(h:CntK m s):m.length≤s.length∧(m.length=s.length↔s.Nodup):=by
 have h1:=nd_len h.nd fun k hk=>(h.iff k).1 hk
 rw[List.length_map] at h1;refine ⟨h1,fun e=>?_,fun e=>?_⟩
 ·by_cases hn:s.Nodup
  ·exact hn
  ·have:=nd_lt h.nd (fun k hk=>(h.iff k).1 hk) hn
   rw[List.length_map] at this;omega
 ·have:=nd_len e fun k hk=>(h.iff k).2 hk
  rw[List.length_map] at this;omega
end Go.Proofs.YtnfppdblcmollaaGreatDoor
