
import Derived.Test.YtnfppdblcmollaaGreatDoorTS25
import Derived.Test.YtnfppdblcmollaaGreatDoorTS29
namespace Go.Proofs.YtnfppdblcmollaaGreatDoor
open Go Go.RowKit Go.Sort U
set_option linter.unusedVariables false
set_option linter.unusedSimpArgs false
set_option maxRecDepth 100000
set_option maxHeartbeats 40000000
theorem tabK {s:AS}{T:TypeId}(h1:s.glb=1) (h2:s.heap.get 0=some (.cells T (kwB.map Value.string) false)):Tabled kwT s:=fun x hx=>by
 rw[kwT,List.mem_singleton] at hx;subst hx;exact ⟨by rw[h1];decide,T,h2⟩
theorem ba_beq (a b:ByteArray):(a==b)=decide (a=b):=by
 rw[Bool.eq_iff_iff,decide_eq_true_iff];obtain ⟨x⟩:=a;obtain ⟨y⟩:=b;show (x==y)=true↔_
 simp
theorem sK_ok:KeyOk Tryz.prog 9 .string Value.string:=keyOk_flat (fun a n h=>by cases h) fun a b=>by
 show some (a==b)=_
 rw[ba_beq]
theorem kwClean:∀x∈kwB.map Value.string,NoNm x:=fun x hx=>by
 obtain ⟨b,_,rfl⟩:=List.mem_map.1 hx;exact .flat _ rfl
abbrev mSd (m:List (ByteArray×Int)):U.Blk:=.map (mE Value.string (Value.int .i64) m) (List.range m.length) m.length
abbrev kwBlk (Ts:Nat->TypeId):Option U.Blk:=some (.cells (Ts 0) (kwB.map Value.string) false)
def inOk (x:In13):Bool:=nameB x.nm&&decide (x.lo≤x.hi)
theorem ins_no (pre rest:List In13) (x:In13) (h:inOk x=false):insB (pre++x::rest)=false:=by
 unfold insB;rw[show (fun x:In13=>nameB x.nm&&decide (x.lo≤x.hi))=inOk from rfl,List.all_append,List.all_cons,h];simp
theorem prs_no (pre rest:List Pr13) (x:Pr13) (h:nameB x.nm=false):prsB (pre++x::rest)=false:=by
 unfold prsB;rw[List.all_append,List.all_cons,h];simp
theorem ins_all {pre:List In13}{m:List (ByteArray×Int)}(h:pre.all inOk=true) (hc:CntK m (pre.map (·.nm))):insB pre=decide (m.length=pre.length):=by
 unfold insB;rw[show (fun x:In13=>nameB x.nm&&decide (x.lo≤x.hi))=inOk from rfl,h,Bool.true_and];have:=hc.len.2;rw[List.length_map] at this;exact decide_eq_decide.2 this.symm
theorem prs_all {pre:List Pr13}{m:List (ByteArray×Int)}(h:(pre.all fun x=>nameB x.nm)=true) (hc:CntK m (pre.map (·.nm))):prsB pre=decide (m.length=pre.length):=by
 unfold prsB;rw[h,Bool.true_and];have:=hc.len.2;rw[List.length_map] at this;exact decide_eq_decide.2 this.symm
theorem rnames_d (p:Pg) (hf:p.ins.length≤20) (hp:p.procs.length≤20):DenU Tryz.prog kwT 45 [encP p] (.bool (insB p.ins&&prsB p.procs)):=by
 refine denU_of_soundT kw_ok fun Ts=>SoundAt.body hmixU Tryz.func45 rfl rfl rfl 0 ?_
 obtain ⟨sl,arrs,ins,procs,main⟩:=p;dsimp only at hf hp;(repeat' ((conv=>whnf);first|refine goD ?_|refine U.lw_c ?_ ?_<;>intro hb))
 (conv=>whnf);refine loop_inv (α:=List In13×List In13×List (ByteArray×Int)) (fun x=>x.1++x.2.1=ins∧x.1.all inOk=true∧CntK x.2.2 (x.1.map (·.nm))) (fun x=>(mkF [(1,.pointer (some ⟨1,0,none⟩)),(2,.bool false),(3,.map (some 2)),(13,imS (inL ins)),(14,.int .i64 (inL ins).length),(15,.int .i64 x.1.length)],⟨mkO [(0,kwBlk Ts),(1,some (.cells 27 [.int .i64 sl,imS (iL arrs),imS (inL ins),imS (prL procs),imS (encSs main)] false)),(2,some (mSd x.2.2))],3,1,1⟩)) (fun x=>x.2.1.length) ([],ins,[]) ⟨rfl,rfl,.nil⟩ (Cov.slots rL ⟨rfl,rfl,rfl,rfl,rfl,rfl,trivial⟩) ?_
 rintro ⟨pre,rest,m⟩ ⟨p1,p2,p3⟩
 dsimp only at p1 p2 p3;subst p1;dsimp only;rcases rest with _|⟨⟨nm,slot,lo,hi,sec⟩,rest⟩
 ·rw[List.append_nil] at *;have zb:=U.lt_no inL_map pre;have hal:=ins_all p2 p3;have hle:=p3.len.1;rw[List.length_map] at hle;(repeat' ((conv=>whnf);first|refine goD ?_|refine U.lw_c ?_ ?_<;>intro hb))
  all_goals (conv=>whnf)
  ·have hb:=of_decide_eq_true hb;rw[mE_len,inL_len] at hb;exact .same (.flat _ rfl) (congrArg Value.bool (by rw[hal,decide_eq_false (by omega)];rfl))
  ·have hb:=of_decide_eq_false hb;rw[mE_len,inL_len] at hb;rw[decide_eq_true (by omega)] at hal;rw[hal,Bool.true_and];refine loop_inv (α:=List Pr13×List Pr13×List (ByteArray×Int)) (fun x=>x.1++x.2.1=procs∧(x.1.all fun x=>nameB x.nm)=true∧CntK x.2.2 (x.1.map (·.nm))) (fun x=>(mkF [(1,.pointer (some ⟨1,0,none⟩)),(2,.bool false),(3,.map (some 3)),(47,imS (prL procs)),(48,.int .i64 (prL procs).length),(49,.int .i64 x.1.length)],⟨mkO [(0,kwBlk Ts),(1,some (.cells 27 [.int .i64 sl,imS (iL arrs),imS (inL pre),imS (prL procs),imS (encSs main)] false)),(3,some (mSd x.2.2))],4,1,1⟩)) (fun x=>x.2.1.length) ([],procs,[]) ⟨rfl,rfl,.nil⟩ (Cov.renO (fun k=>k) rfl rfl (bR rfl) (bR rfl) (fun _ _=>rfl) rfl (kp1 (by rfl)) (.W rfl (kwClean) rfl (.W rfl ((cleanP_cells ⟨sl,arrs,pre,procs,main⟩)) rfl (.cons rfl (.map _ _ _ (mE_noNm cleanI _)) .nil))) (.cons rfl (.P rfl) (.K rfl rfl rfl (.cons rfl (.mp _ _ (by decide) rfl) (.L rfl (cleanPrL _) rfl (.cons rfl .I (.cons rfl .I .nil))))))) ?_
   rintro ⟨ppre,prest,m2⟩ ⟨p4,p5,p6⟩
   dsimp only at p4 p5 p6;subst p4;dsimp only;rcases prest with _|⟨⟨nm,ps,body⟩,prest⟩
   ·rw[List.append_nil] at *;have z2b:=U.lt_no prL_map ppre;(repeat' ((conv=>whnf);first|refine goD ?_|refine U.lw_c ?_ ?_<;>intro hb))
    all_goals (conv=>whnf)
    exact .same (.flat _ rfl) (congrArg Value.bool (by
     rw[prs_all p5 p6,mE_len,prL_len];rw[Bool.eq_iff_iff,beq_iff_eq,decide_eq_true_iff];omega))
   ·have z2b:=U.lt_yes prL_map ppre (Pr13.mk nm ps body) prest;have z2c:=U.blt_yes prL_map ppre (Pr13.mk nm ps body) prest;have z2n:=U.nth_at prL_map ppre (Pr13.mk nm ps body) prest;have z2w:=U.len_snoc (pre:=ppre) (x:=Pr13.mk nm ps body) (post:=prest) ((by simp at hp ⊢;omega))
    have hn:=name_d nm;obtain ⟨q,hq⟩:∃q,nameB nm=q:=⟨_,rfl⟩
    rw[hq] at hn;rcases look_cases nm m2 with hz|⟨a,u,b,rfl,hz⟩
    ·have hf1:=sK_ok.none (ev:=Value.int .i64) hz;(repeat' ((conv=>whnf);first|refine goA ?_|refine U.SoundAt.uT kw_ok hn ⟨.flat _ rfl,trivial⟩ (tabK rfl rfl) ?_|refine U.onV_p hf1 ?_|refine U.natC_p ?_|refine goB ?_|refine U.lw_c ?_ ?_<;>intro hb))
     all_goals (conv=>whnf)
     ·exact .same (.flat _ rfl) (congrArg Value.bool (prs_no _ _ _ (by rw[hq];simpa using hb)).symm)
     ·refine ⟨(ppre++[⟨nm,ps,body⟩],prest,m2++[(nm,IntKind.i64.wrap (0+1))]),⟨by simp,by rw[List.all_append,p5];simp[hq];simpa using hb,by rw[List.map_append];exact p6.new hz⟩,by simp,(Cov.renO (fun k=>k) rfl rfl (bR rfl) (bR rfl) (fun _ _=>rfl) rfl (kp1 (by rfl)) (.W rfl (kwClean) rfl (.W rfl ((cleanP_cells ⟨sl,arrs,pre,_,main⟩)) rfl (.cons rfl (RenB.mapE (mE_snoc (ek:=Value.string) (ev:=Value.int .i64) m2 nm _).symm (by rw[range_snoc];simp) (by simp) (mE_noNm cleanI _)) .nil))) (.cons rfl (.P rfl) (.K rfl rfl rfl (.cons rfl (.mp _ _ (by decide) rfl) (.L rfl (cleanPrL _) rfl (.cons rfl .I (.L rfl (cleanI _) (congrArg (Value.int .i64) (z2w.symm)) .nil)))))))⟩
    ·have hf1:=sK_ok.mid (ev:=Value.int .i64) (q:=b) (u:=u) hz;have hl:a.length<(a++(nm,u)::b).length:=by simp
     (repeat' ((conv=>whnf);first|refine goA ?_|refine U.SoundAt.uT kw_ok hn ⟨.flat _ rfl,trivial⟩ (tabK rfl rfl) ?_|refine U.onV_p hf1 ?_|refine U.onV_p (nthN_range hl) ?_|refine U.onV_p (idxB_range hl) ?_|refine U.natC_p ?_|refine goB ?_|refine U.lw_c ?_ ?_<;>intro hb))
     all_goals (conv=>whnf)
     ·exact .same (.flat _ rfl) (congrArg Value.bool (prs_no _ _ _ (by rw[hq];simpa using hb)).symm)
     ·refine ⟨(ppre++[⟨nm,ps,body⟩],prest,a++(nm,IntKind.i64.wrap (u+1))::b),⟨by simp,by rw[List.all_append,p5];simp[hq];simpa using hb,by rw[List.map_append];exact p6.old⟩,by simp,(Cov.renO (fun k=>k) rfl rfl (bR rfl) (bR rfl) (fun _ _=>rfl) rfl (kp1 (by rfl)) (.W rfl (kwClean) rfl (.W rfl ((cleanP_cells ⟨sl,arrs,pre,_,main⟩)) rfl (.cons rfl (RenB.mapE (setP_mid (ek:=Value.string) (ev:=Value.int .i64) a b nm u _).symm (by simp) (by simp) (mE_noNm cleanI _)) .nil))) (.cons rfl (.P rfl) (.K rfl rfl rfl (.cons rfl (.mp _ _ (by decide) rfl) (.L rfl (cleanPrL _) rfl (.cons rfl .I (.L rfl (cleanI _) (congrArg (Value.int .i64) (z2w.symm)) .nil)))))))⟩
 ·have zb:=U.lt_yes inL_map pre (In13.mk nm slot lo hi sec) rest;have zc:=U.blt_yes inL_map pre (In13.mk nm slot lo hi sec) rest;have zn:=U.nth_at inL_map pre (In13.mk nm slot lo hi sec) rest;have zw:=U.len_snoc (pre:=pre) (x:=In13.mk nm slot lo hi sec) (post:=rest) ((by simp at hf ⊢;omega))
  have hn:=name_d nm;obtain ⟨q,hq⟩:∃q,nameB nm=q:=⟨_,rfl⟩
  rw[hq] at hn;have no:inOk ⟨nm,slot,lo,hi,sec⟩=false->(insB (pre++⟨nm,slot,lo,hi,sec⟩::rest)&&prsB procs)=false:=fun h1=>by rw[ins_no _ _ _ h1];rfl
  rcases look_cases nm m with hz|⟨a,u,b,rfl,hz⟩
  ·have hf1:=sK_ok.none (ev:=Value.int .i64) hz;(repeat' ((conv=>whnf);first|refine goA ?_|refine U.SoundAt.uT kw_ok hn ⟨.flat _ rfl,trivial⟩ (tabK rfl rfl) ?_|refine U.onV_p hf1 ?_|refine U.natC_p ?_|refine goB ?_|refine U.lw_c ?_ ?_<;>intro hb))
   all_goals (conv=>whnf)
   ·exact .same (.flat _ rfl) (congrArg Value.bool (no (by unfold inOk;rw[hq];simp at hb;simp[hb])).symm)
   ·exact .same (.flat _ rfl) (congrArg Value.bool (no (by unfold inOk;have hb:lo > hi:=of_decide_eq_true hb;rw[decide_eq_false (show ¬lo≤hi by omega),Bool.and_false])).symm)
   ·rename_i hb0;have hb:¬lo > hi:=of_decide_eq_false hb;have hb0:q=true:=by simpa using hb0
    refine ⟨(pre++[⟨nm,slot,lo,hi,sec⟩],rest,m++[(nm,IntKind.i64.wrap (0+1))]),⟨by simp,by rw[List.all_append,p2];simp[inOk,hq,hb0];omega,by rw[List.map_append];exact p3.new hz⟩,by simp,(Cov.renO (fun k=>k) rfl rfl (bR rfl) (bR rfl) (fun _ _=>rfl) rfl (kp1 (by rfl)) (.W rfl (kwClean) rfl (.W rfl ((cleanP_cells ⟨sl,arrs,_,procs,main⟩)) rfl (.cons rfl (RenB.mapE (mE_snoc (ek:=Value.string) (ev:=Value.int .i64) m nm _).symm (by rw[range_snoc];simp) (by simp) (mE_noNm cleanI _)) .nil))) (.cons rfl (.P rfl) (.K rfl rfl rfl (.cons rfl (.mp _ _ (by decide) rfl) (.L rfl (cleanInL _) rfl (.cons rfl .I (.L rfl (cleanI _) (congrArg (Value.int .i64) (zw.symm)) .nil)))))))⟩
  ·have hf1:=sK_ok.mid (ev:=Value.int .i64) (q:=b) (u:=u) hz;have hl:a.length<(a++(nm,u)::b).length:=by simp
   (repeat' ((conv=>whnf);first|refine goA ?_|refine U.SoundAt.uT kw_ok hn ⟨.flat _ rfl,trivial⟩ (tabK rfl rfl) ?_|refine U.onV_p hf1 ?_|refine U.onV_p (nthN_range hl) ?_|refine U.onV_p (idxB_range hl) ?_|refine U.natC_p ?_|refine goB ?_|refine U.lw_c ?_ ?_<;>intro hb))
   all_goals (conv=>whnf)
   ·exact .same (.flat _ rfl) (congrArg Value.bool (no (by unfold inOk;rw[hq];simp at hb;simp[hb])).symm)
   ·exact .same (.flat _ rfl) (congrArg Value.bool (no (by unfold inOk;have hb:lo > hi:=of_decide_eq_true hb;rw[decide_eq_false (show ¬lo≤hi by omega),Bool.and_false])).symm)
   ·rename_i hb0;have hb:¬lo > hi:=of_decide_eq_false hb;have hb0:q=true:=by simpa using hb0
    refine ⟨(pre++[⟨nm,slot,lo,hi,sec⟩],rest,a++(nm,IntKind.i64.wrap (u+1))::b),⟨by simp,by rw[List.all_append,p2];simp[inOk,hq,hb0];omega,by rw[List.map_append];exact p3.old⟩,by simp,(Cov.renO (fun k=>k) rfl rfl (bR rfl) (bR rfl) (fun _ _=>rfl) rfl (kp1 (by rfl)) (.W rfl (kwClean) rfl (.W rfl ((cleanP_cells ⟨sl,arrs,_,procs,main⟩)) rfl (.cons rfl (RenB.mapE (setP_mid (ek:=Value.string) (ev:=Value.int .i64) a b nm u _).symm (by simp) (by simp) (mE_noNm cleanI _)) .nil))) (.cons rfl (.P rfl) (.K rfl rfl rfl (.cons rfl (.mp _ _ (by decide) rfl) (.L rfl (cleanInL _) rfl (.cons rfl .I (.L rfl (cleanI _) (congrArg (Value.int .i64) (zw.symm)) .nil)))))))⟩
abbrev mOne (s:List Int):U.Blk:=.map (mE (Value.int .i64) (Value.int .i64) (s.map fun k=>(k,1))) (List.range (s.map fun k=>(k,(1:Int))).length) (s.map fun k=>(k,(1:Int))).length
theorem iK_ok:KeyOk Tryz.prog 3 (.int .i64) (Value.int .i64):=keyOk_flat (fun a n h=>by cases h) fun a b=>by
 show some (a==b)=_
 congr 1
theorem one_keys (s:List Int):(s.map fun k=>(k,(1:Int))).map (·.1)=s:=by rw[List.map_map];exact List.map_id s
def sltB (sl:Int) (s:Int):Bool:=decide (0≤s)&&decide (s<sl)
theorem slt_no {p:Pg}{pre rest:List Int}{x:Int}(e:slotL p=pre++x::rest) (h:sltB p.slots x=false∨x∈pre):slotB p=false:=by
 unfold slotB;rw[show (fun s:Int=>decide (0≤s)&&decide (s<p.slots))=sltB p.slots from rfl,e];rcases h with h|h
 ·rw[List.all_append,List.all_cons,h];simp
 ·have:¬(pre++x::rest).Nodup:=fun hn=>by
   rw[List.nodup_append] at hn;exact hn.2.2 x h x (by simp) rfl
  rw[decide_eq_false this,Bool.and_false]
abbrev ownV:Value:=.func (.func 108) ⟨[]⟩ ⟨[.pointer (some ⟨2,0,none⟩),.pointer (some ⟨0,0,none⟩)]⟩
theorem nd_snoc {K:Type}{s:List K}{x:K}(h:s.Nodup) (hx:x∉s):(s++[x]).Nodup:=by
 rw[List.nodup_append];refine ⟨h,by simp,?_⟩
 rintro a ha b hb rfl
 simp at hb
 subst hb;exact hx ha
theorem one_ren {n:Nat}{ρ:U.Ren}(s:List Int) (x:Int):U.RenB n ρ (mOne (s++[x])) (.map (mE (Value.int .i64) (Value.int .i64) (s.map fun k=>(k,(1:Int)))++[(.int .i64 x,.int .i64 (IntKind.i64.wrap (0+1)))]) (List.range (s.map fun k=>(k,(1:Int))).length++[(s.map fun k=>(k,(1:Int))).length]) (Nat.succ (s.map fun k=>(k,(1:Int))).length)) :=
 RenB.mapE (by rw[List.map_append,mE_app];rfl) (by rw[range_snoc];simp) (by simp) (mE_noNm cleanI _)
theorem ownRen {n:Nat}{ρ:U.Ren}(hn:2<n) (h0:ρ 0=0) (h2:ρ 2=2):U.RenV n ρ ownV ownV:=by
 refine RenV.fnL RenL.nil (RenL.cons (.ptr _ _ _ hn h2) (RenL.cons (.ptr _ _ _ (by omega) h0) RenL.nil))
theorem one_f2 {s:List Int}{x:Int}(hz:x∉s):findC Tryz.prog 3 (.int .i64) (.int .i64 x) (mE (Value.int .i64) (Value.int .i64) (s.map fun k=>(k,(1:Int)))++[(.int .i64 x,.int .i64 (IntKind.i64.wrap (0+1)))])=some (some ((s.map fun k=>(k,(1:Int))).length,.int .i64 (IntKind.i64.wrap (0+1)))):=by
 rw[mE_snoc];exact iK_ok.mid (q:=[]) (by rw[one_keys];exact hz)
theorem one_f1 {s:List Int}{x:Int}(hz:x∉s):findC Tryz.prog 3 (.int .i64) (.int .i64 x) (mE (Value.int .i64) (Value.int .i64) (s.map fun k=>(k,(1:Int))))=some none:=iK_ok.none (by rw[one_keys];exact hz)
theorem one_g {s:List Int}{x:Int}(hz:x∈s):∃i,i<(s.map fun k=>(k,(1:Int))).length∧findC Tryz.prog 3 (.int .i64) (.int .i64 x) (mE (Value.int .i64) (Value.int .i64) (s.map fun k=>(k,(1:Int))))=some (some (i,.int .i64 1))∧findC Tryz.prog 3 (.int .i64) (.int .i64 x) (setL (mE (Value.int .i64) (Value.int .i64) (s.map fun k=>(k,(1:Int)))) i (.int .i64 x,.int .i64 (IntKind.i64.wrap (1+1))))=some (some (i,.int .i64 (IntKind.i64.wrap (1+1)))):=by
 rcases look_cases x (s.map fun k=>(k,(1:Int))) with h|⟨p,u,q,e,h⟩
 ·rw[one_keys] at h;exact absurd hz h
 ·have hu:u=1:=by
   have:(x,u)∈s.map fun k=>(k,(1:Int)):=by rw[e];simp
   obtain ⟨k,_,hk⟩:=List.mem_map.1 this;exact (Prod.mk.inj hk).2.symm
  subst hu;refine ⟨p.length,by rw[e];simp,?_,?_⟩
  ·rw[e];exact iK_ok.mid h
  ·rw[e,setP_mid];exact iK_ok.mid h
theorem rslots_d (p:Pg) (hf:p.ins.length≤20) (hp:p.procs.length≤20) (hps:∀x∈p.procs,x.ps.length≤20):DenU Tryz.prog [] 46 [encP p] (.bool (slotB p)):=by
 refine denU_of_sound hmixU fun Ts=>SoundAt.body hmixU Tryz.func46 rfl rfl rfl 0 ?_
 obtain ⟨b,hb0⟩:∃b,slotB p=b:=⟨_,rfl⟩
 have hno:=fun pre rest x=>slt_no (p:=p) (pre:=pre) (rest:=rest) (x:=x)
 have hyes:(slotL p).all (sltB p.slots)=true->(slotL p).Nodup->b=true:=fun h1 h2=>by
  rw[← hb0];unfold slotB;rw[show (fun s:Int=>decide (0≤s)&&decide (s<p.slots))=sltB p.slots from rfl,h1,decide_eq_true h2];rfl
 obtain ⟨sl,arrs,ins,procs,main⟩:=p;dsimp only[slotL] at hf hp hps hno hyes
 rw[hb0] at hno ⊢;(repeat' ((conv=>whnf);first|refine goD ?_|refine U.lw_c ?_ ?_<;>intro hb))
 (conv=>whnf);refine loop_inv (α:=List In13×List In13) (fun x=>x.1++x.2=ins∧(x.1.map (·.slot)).all (sltB sl)=true∧(x.1.map (·.slot)).Nodup) (fun x=>(mkF [(1,.pointer (some ⟨0,0,none⟩)),(2,.bool false),(4,ownV),(14,imS (inL ins)),(15,.int .i64 (inL ins).length),(16,.int .i64 x.1.length)],⟨mkO [(0,some (.cells 27 [.int .i64 sl,imS (iL arrs),imS (inL (ins)),imS (prL (procs)),imS (encSs main)] false)),(1,some (mOne (x.1.map (·.slot)))),(2,some (.cells 192 [.map (some 1)] false))],3,0,0⟩)) (fun x=>x.2.length) ([],ins) ⟨rfl,rfl,.nil⟩ (Cov.slots rL ⟨rfl,rfl,rfl,rfl,rfl,rfl,trivial⟩) ?_
 rintro ⟨pre,rest⟩ ⟨p1,p2,p3⟩
 dsimp only at p1 p2 p3;subst p1;dsimp only;rcases rest with _|⟨⟨nm,slot,lo,hi,sec⟩,rest⟩
 ·rw[List.append_nil] at *;have zb:=U.lt_no inL_map pre;obtain ⟨S0,hS0⟩:∃S0,S0=pre.map (·.slot):=⟨_,rfl⟩
  rw[← hS0] at p2 p3 hno hyes ⊢;(repeat' ((conv=>whnf);first|refine goD ?_|refine U.lw_c ?_ ?_<;>intro hb))
  (conv=>whnf);refine loop_inv (α:=List Pr13×List Pr13) (fun x=>x.1++x.2=procs∧(S0++x.1.flatMap (·.ps)).all (sltB sl)=true∧(S0++x.1.flatMap (·.ps)).Nodup) (fun x=>(mkF [(1,.pointer (some ⟨0,0,none⟩)),(2,.bool false),(4,ownV),(27,imS (prL procs)),(28,.int .i64 (prL procs).length),(29,.int .i64 x.1.length)],⟨mkO [(0,some (.cells 27 [.int .i64 sl,imS (iL arrs),imS (inL (pre)),imS (prL (procs)),imS (encSs main)] false)),(1,some (mOne (S0++x.1.flatMap (·.ps)))),(2,some (.cells 192 [.map (some 1)] false))],3,0,0⟩)) (fun x=>x.2.length) ([],procs) ⟨rfl,by simpa using p2,by simpa using p3⟩ (Cov.renI rfl rfl rfl rfl (.W rfl ((cleanP_cells ⟨sl,arrs,pre,procs,main⟩)) rfl (.cons rfl (RenB.mapE (by simp) (by simp) (by simp) (mE_noNm cleanI _)) (.C rfl (.cons (.mp _ _ (by decide) rfl) .nil) .nil))) (.cons rfl (.P rfl) (.K rfl rfl rfl (.cons rfl (ownRen (by decide) rfl rfl) (.L rfl (cleanPrL _) rfl (.cons rfl .I (.cons rfl .I .nil))))))) ?_
  rintro ⟨ppre,prest⟩ ⟨p4,p5,p6⟩
  dsimp only at p4 p5 p6;subst p4;dsimp only;rcases prest with _|⟨⟨nm,ps,body⟩,prest⟩
  ·rw[List.append_nil] at *;have z2b:=U.lt_no prL_map ppre;(repeat' ((conv=>whnf);first|refine goD ?_|refine U.lw_c ?_ ?_<;>intro hb))
   (conv=>whnf);exact .same (.flat _ rfl) (congrArg Value.bool (hyes p5 p6).symm)
  ·have z2b:=U.lt_yes prL_map ppre (Pr13.mk nm ps body) prest;have z2c:=U.blt_yes prL_map ppre (Pr13.mk nm ps body) prest;have z2n:=U.nth_at prL_map ppre (Pr13.mk nm ps body) prest;have z2w:=U.len_snoc (pre:=ppre) (x:=Pr13.mk nm ps body) (post:=prest) ((by simp at hp ⊢;omega))
   have hpl:=hps ⟨nm,ps,body⟩ (by simp)
   obtain ⟨S1,hS1⟩:∃S1,S1=S0++ppre.flatMap (·.ps):=⟨_,rfl⟩
   rw[← hS1] at p5 p6 ⊢;(repeat' ((conv=>whnf);first|refine goD ?_|refine U.lw_c ?_ ?_<;>intro hb))
   (conv=>whnf);refine loop_inv (α:=List Int×List Int) (fun x=>x.1++x.2=ps∧(S1++x.1).all (sltB sl)=true∧(S1++x.1).Nodup) (fun x=>(mkF [(1,.pointer (some ⟨0,0,none⟩)),(2,.bool false),(4,ownV),(27,imS (prL (ppre++⟨nm,ps,body⟩::prest))),(28,.int .i64 (prL (ppre++⟨nm,ps,body⟩::prest)).length),(29,.int .i64 ppre.length),(34,imS (iL ps)),(35,.int .i64 (iL ps).length),(36,.int .i64 x.1.length)],⟨mkO [(0,some (.cells 27 [.int .i64 sl,imS (iL arrs),imS (inL (pre)),imS (prL (ppre++⟨nm,ps,body⟩::prest)),imS (encSs main)] false)),(1,some (mOne (S1++x.1))),(2,some (.cells 192 [.map (some 1)] false))],4,0,0⟩)) (fun x=>x.2.length) ([],ps) ⟨rfl,by simpa using p5,by simpa using p6⟩ (Cov.renI rfl rfl rfl rfl (.W rfl ((cleanP_cells ⟨sl,arrs,pre,_,main⟩)) rfl (.cons rfl (RenB.mapE (by simp) (by simp) (by simp) (mE_noNm cleanI _)) (.C rfl (.cons (.mp _ _ (by decide) rfl) .nil) .nil))) (.cons rfl (.P rfl) (.K rfl rfl rfl (.cons rfl (ownRen (by decide) rfl rfl) (.L rfl (cleanPrL _) rfl (.cons rfl .I (.cons rfl .I (.L rfl (cleanIL _) rfl (.cons rfl .I (.cons rfl .I .nil)))))))))) ?_
   rintro ⟨q1,q2⟩ ⟨p7,p8,p9⟩
   dsimp only at p7 p8 p9;subst p7;dsimp only;rcases q2 with _|⟨slot,q2⟩
   ·rw[List.append_nil] at *;have z3b:=U.lt_no iL_map q1;(repeat' ((conv=>whnf);first|refine goD ?_|refine U.lw_c ?_ ?_<;>intro hb))
    (conv=>whnf);refine ⟨(ppre++[⟨nm,q1,body⟩],prest),⟨by simp,?_,?_⟩,by simp,(Cov.renI rfl rfl rfl rfl (.W rfl ((cleanP_cells ⟨sl,arrs,pre,_,main⟩)) rfl (.cons rfl (RenB.mapE (by rw[hS1];simp) (by rw[hS1];simp) (by rw[hS1];simp) (mE_noNm cleanI _)) (.C rfl (.cons (.mp _ _ (by decide) rfl) .nil) .nil))) (.cons rfl (.P rfl) (.K rfl rfl rfl (.cons rfl (ownRen (by decide) rfl rfl) (.L rfl (cleanPrL _) rfl (.cons rfl .I (.L rfl (cleanI _) (congrArg (Value.int .i64) (z2w.symm)) .nil)))))))⟩
    ·rw[hS1] at p8;simpa using p8
    ·rw[hS1] at p9;simpa using p9
   ·have z3b:=U.lt_yes iL_map q1 (slot) q2;have z3c:=U.blt_yes iL_map q1 (slot) q2;have z3n:=U.nth_at iL_map q1 (slot) q2;have z3w:=U.len_snoc (pre:=q1) (x:=slot) (post:=q2) ((by simp at hpl ⊢;omega))
    have hno':=hno (S1++q1) (q2++prest.flatMap (·.ps)) slot (by rw[hS1];simp)
    obtain ⟨S2,hS2⟩:∃S2,S2=S1++q1:=⟨_,rfl⟩
    rw[← hS2] at p8 p9 hno' ⊢
    by_cases hz:slot∈S2
    ·obtain ⟨i,g1,g2,g3⟩:=one_g hz;(repeat' ((conv=>whnf);first|refine goA ?_|refine U.SoundAt.body hmixU Tryz.func108 rfl rfl rfl 0 ?_|refine U.onV_p g2 ?_|refine U.onV_p g3 ?_|refine U.onV_p (nthN_range g1) ?_|refine U.onV_p (idxB_range g1) ?_|refine U.natC_p ?_|refine goB ?_|refine U.lw_c ?_ ?_<;>intro hb))
     all_goals (conv=>whnf)
     all_goals exact .same (.flat _ rfl) (congrArg Value.bool (hno' (.inr hz)).symm)
    ·have g1:=one_f1 hz;have g2:=one_f2 hz;(repeat' ((conv=>whnf);first|refine goA ?_|refine U.SoundAt.body hmixU Tryz.func108 rfl rfl rfl 0 ?_|refine U.onV_p g1 ?_|refine U.onV_p g2 ?_|refine U.natC_p ?_|refine goB ?_|refine U.lw_c ?_ ?_<;>intro hb))
     all_goals (conv=>whnf)
     ·rename_i h1;have h1:=of_decide_eq_true h1;have h2:=of_decide_eq_true hb;refine ⟨(q1++[slot],q2),⟨by simp,?_,?_⟩,by simp,(Cov.renI rfl rfl rfl rfl (.W rfl ((cleanP_cells ⟨sl,arrs,pre,_,main⟩)) rfl (.cons rfl ((by rw[← List.append_assoc,← hS2];exact one_ren S2 slot)) (.C rfl (.cons (.mp _ _ (by decide) rfl) .nil) .nil))) (.cons rfl (.P rfl) (.K rfl rfl rfl (.cons rfl (ownRen (by decide) rfl rfl) (.L rfl (cleanPrL _) rfl (.cons rfl .I (.cons rfl .I (.L rfl (cleanIL _) rfl (.cons rfl .I (.L rfl (cleanI _) (congrArg (Value.int .i64) (z3w.symm)) .nil))))))))))⟩
      ·rw[← List.append_assoc,← hS2,List.all_append,p8];simp[sltB];exact ⟨h1,h2⟩
      ·rw[← List.append_assoc,← hS2];exact nd_snoc p9 hz
     ·exact .same (.flat _ rfl) (congrArg Value.bool (hno' (.inl (by have h2:=of_decide_eq_false hb;unfold sltB;rw[decide_eq_false h2,Bool.and_false]))).symm)
     ·exact .same (.flat _ rfl) (congrArg Value.bool (hno' (.inl (by have h2:=of_decide_eq_false hb;unfold sltB;rw[decide_eq_false h2,Bool.false_and]))).symm)
 ·have zb:=U.lt_yes inL_map pre (In13.mk nm slot lo hi sec) rest;have zc:=U.blt_yes inL_map pre (In13.mk nm slot lo hi sec) rest;have zn:=U.nth_at inL_map pre (In13.mk nm slot lo hi sec) rest;have zw:=U.len_snoc (pre:=pre) (x:=In13.mk nm slot lo hi sec) (post:=rest) ((by simp at hf ⊢;omega))
  have hno':=hno (pre.map (·.slot)) (rest.map (·.slot)++procs.flatMap (·.ps)) slot (by simp)
  obtain ⟨S2,hS2⟩:∃S2,S2=pre.map (·.slot):=⟨_,rfl⟩
  rw[← hS2] at p2 p3 hno' ⊢
  by_cases hz:slot∈S2
  ·obtain ⟨i,g1,g2,g3⟩:=one_g hz;(repeat' ((conv=>whnf);first|refine goA ?_|refine U.SoundAt.body hmixU Tryz.func108 rfl rfl rfl 0 ?_|refine U.onV_p g2 ?_|refine U.onV_p g3 ?_|refine U.onV_p (nthN_range g1) ?_|refine U.onV_p (idxB_range g1) ?_|refine U.natC_p ?_|refine goB ?_|refine U.lw_c ?_ ?_<;>intro hb))
   all_goals (conv=>whnf)
   all_goals exact .same (.flat _ rfl) (congrArg Value.bool (hno' (.inr hz)).symm)
  ·have g1:=one_f1 hz;have g2:=one_f2 hz;(repeat' ((conv=>whnf);first|refine goA ?_|refine U.SoundAt.body hmixU Tryz.func108 rfl rfl rfl 0 ?_|refine U.onV_p g1 ?_|refine U.onV_p g2 ?_|refine U.natC_p ?_|refine goB ?_|refine U.lw_c ?_ ?_<;>intro hb))
   all_goals (conv=>whnf)
   ·rename_i h1;have h1:slot≥0:=of_decide_eq_true h1;have h2:slot<sl:=of_decide_eq_true hb;refine ⟨(pre++[⟨nm,slot,lo,hi,sec⟩],rest),⟨by simp,?_,?_⟩,by simp,(Cov.renI rfl rfl rfl rfl (.W rfl ((cleanP_cells ⟨sl,arrs,_,procs,main⟩)) rfl (.cons rfl ((by rw[List.map_append,← hS2];exact one_ren S2 slot)) (.C rfl (.cons (.mp _ _ (by decide) rfl) .nil) .nil))) (.cons rfl (.P rfl) (.K rfl rfl rfl (.cons rfl (ownRen (by decide) rfl rfl) (.L rfl (cleanInL _) rfl (.cons rfl .I (.L rfl (cleanI _) (congrArg (Value.int .i64) (zw.symm)) .nil)))))))⟩
    ·rw[List.map_append,← hS2,List.all_append,p2];simp[sltB];exact ⟨h1,h2⟩
    ·rw[List.map_append,← hS2];exact nd_snoc p3 hz
   ·exact .same (.flat _ rfl) (congrArg Value.bool (hno' (.inl (by have h2:¬slot<sl:=of_decide_eq_false hb;unfold sltB;rw[decide_eq_false h2,Bool.and_false]))).symm)
   ·exact .same (.flat _ rfl) (congrArg Value.bool (hno' (.inl (by have h2:¬slot≥0:=of_decide_eq_false hb;unfold sltB;rw[decide_eq_false h2,Bool.false_and]))).symm)
end Go.Proofs.YtnfppdblcmollaaGreatDoor
