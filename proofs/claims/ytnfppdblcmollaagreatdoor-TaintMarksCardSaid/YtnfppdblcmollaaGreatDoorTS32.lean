
import Derived.Test.YtnfppdblcmollaaGreatDoorTS25
import Derived.Test.YtnfppdblcmollaaGreatDoorTS31
namespace Go.Proofs.YtnfppdblcmollaaGreatDoor
open Go Go.RowKit Go.Sort U
set_option linter.unusedVariables false
set_option linter.unusedSimpArgs false
set_option maxRecDepth 100000
set_option maxHeartbeats 40000000
def ptS (s:St):Value:=imP (encS s) 0
def ptrS (l:List St):List Value:=l.map ptS
theorem ptrS_app (a b:List St):ptrS (a++b)=ptrS a++ptrS b:=List.map_append
theorem cleanPt (s:St):NoNm (ptS s):=.imp _ _ (cleanS_cells s)
theorem ptrS_cons (k a:Int) (xs:List Ex) (th el:List St) (no:Int) (post:List St):ptrS (allSs (.mk k a xs th el no::post))=ptS (.mk k a xs th el no)::(ptrS (allSs th)++(ptrS (allSs el)++ptrS (allSs post))):=by
 rw[allSs,allS,ptrS_app,show ptrS (St.mk k a xs th el no::(allSs th++allSs el))=ptS (.mk k a xs th el no)::ptrS (allSs th++allSs el) from rfl,ptrS_app,List.cons_append,List.append_assoc]
theorem eachs_d (ss:List St) (hss:ss.length≤maxI) (ih:∀k a xs th el no,St.mk k a xs th el no∈ss->IterQ Tryz.prog 110 [imS (encSs th),yl 0] (ptrS (allSs th)) (.bool true) (.bool false)∧IterQ Tryz.prog 110 [imS (encSs el),yl 0] (ptrS (allSs el)) (.bool true) (.bool false)):IterQ Tryz.prog 110 [imS (encSs ss),yl 0] (ptrS (allSs ss)) (.bool true) (.bool false):=by
 refine IterQ.body rfl rfl Tryz.func110 rfl rfl rfl ?_;refine IterU.seq (IterU.pure hmixU ?_);(repeat' ((conv=>whnf);first|refine goD ?_|refine U.lw_c ?_ ?_<;>intro hb))
 refine ⟨mkF [(0,imS (encSs ss)),(1,yl 0),(4,.bool false)],.sl0 ⟨rfl,rfl,rfl,trivial⟩,?_⟩;refine IterU.seq (IterU.seq (IterU.pure hmixU ?_));(repeat' ((conv=>whnf);first|refine goD ?_|refine U.lw_c ?_ ?_<;>intro hb))
 refine ⟨mkF [(0,imS (encSs ss)),(1,yl 0),(4,.bool false),(7,.int .i64 (encSs ss).length),(8,.int .i64 0)],.sl0 ⟨rfl,rfl,rfl,rfl,rfl,trivial⟩,?_⟩;refine IterU.block (IterU.loop (α:=List St×List St) (fun x=>x.1++x.2=ss) (fun x=>(mkF [(0,imS (encSs ss)),(1,yl 0),(4,.bool false),(7,.int .i64 (encSs ss).length),(8,.int .i64 x.1.length)],some (ptrS (allSs x.2)))) (fun x=>x.2.length) ([],ss) rfl rfl ?_)
 rintro ⟨pre,rest⟩ h1
 dsimp only at h1 ⊢;rcases rest with _|⟨⟨k,a,xs,th,el,no⟩,post⟩
 ·rw[List.append_nil] at h1;subst h1;have zb:=U.lt_no encSs_map pre;refine IterU.pure hmixU ?_;(repeat' ((conv=>whnf);first|refine goD ?_|refine U.lw_c ?_ ?_<;>intro hb))
  (conv=>whnf);refine ⟨mkF [],.sl0 trivial,IterU.pure hmixU ?_⟩;(repeat' ((conv=>whnf);first|refine goD ?_|refine U.lw_c ?_ ?_<;>intro hb))
  exact ⟨mkF [(4,.bool true)],.sl0 ⟨rfl,trivial⟩,.inl rfl,fun _=>rfl,fun h=>by cases h⟩
 ·subst h1;have zb:=U.lt_yes encSs_map pre (St.mk k a xs th el no) post;have zc:=U.blt_yes encSs_map pre (St.mk k a xs th el no) post;have zn:=U.nth_at encSs_map pre (St.mk k a xs th el no) post;have zw:=U.len_snoc (pre:=pre) (x:=St.mk k a xs th el no) (post:=post) (hss)
  obtain ⟨ih1,ih2⟩:=ih k a xs th el no (by simp)
  rw[ptrS_cons];obtain ⟨L,hL⟩:∃L,L=encSs (pre++.mk k a xs th el no::post):=⟨_,rfl⟩
  rw[← hL] at zb zc zn ⊢;have hcl:NoNm (imS L):=by rw[hL];exact cleanSs _
  refine IterU.seq (IterU.pure hmixU ?_);(repeat' ((conv=>whnf);first|refine goD ?_|refine U.lw_c ?_ ?_<;>intro hb))
  refine ⟨mkF [(0,imS L),(1,yl 0),(4,.bool false),(7,.int .i64 L.length),(8,.int .i64 pre.length),(9,.bool true)],.sl0 ⟨rfl,rfl,rfl,rfl,rfl,congrArg (fun b=>some (Value.bool b)) zb,trivial⟩,?_⟩
  refine IterU.seq (IterU.pure hmixU ?_);(repeat' ((conv=>whnf);first|refine goD ?_|refine U.lw_c ?_ ?_<;>intro hb))
  refine ⟨mkF [(0,imS L),(1,yl 0),(4,.bool false),(7,.int .i64 L.length),(8,.int .i64 pre.length)],.sl0 ⟨rfl,rfl,rfl,rfl,rfl,trivial⟩,?_⟩;refine IterU.seq (IterU.block (IterU.seq (IterU.pure hmixU ?_)))
  (repeat' ((conv=>whnf);first|refine goD ?_|refine U.lw_c ?_ ?_<;>intro hb))
  refine ⟨mkF [(0,imS L),(1,yl 0),(4,.bool false),(5,.int .i64 pre.length),(7,.int .i64 L.length),(8,.int .i64 pre.length)],.sl0 ⟨rfl,rfl,rfl,rfl,rfl,rfl,trivial⟩,?_⟩;refine IterU.seq (IterU.region (OpsU.cut 4 ?_))
  (repeat' ((conv=>whnf);first|refine goD ?_|refine U.lw_c ?_ ?_<;>intro hb))
  refine ⟨mkF [(0,imS L),(1,yl 0),(4,.bool false),(5,.int .i64 pre.length),(7,.int .i64 L.length),(8,.int .i64 pre.length),(11,yl 0),(14,ptS (.mk k a xs th el no))],.sl0 ⟨rfl,rfl,rfl,rfl,rfl,rfl,rfl,rfl,trivial⟩,?_⟩
  refine OpsU.round rfl rfl rfl rfl rfl (cleanPt _) ?_ ?_;rotate_left
  ·(conv=>whnf);refine U.ob_c rfl ?_;(conv=>whnf);refine OpsU.cut 21 ?_;(repeat' ((conv=>whnf);first|refine goD ?_|refine U.lw_c ?_ ?_<;>intro hb))
   refine ⟨mkF [(36,.bool true)],.sl0 ⟨rfl,trivial⟩,OpsU.nil ?_⟩;refine IterU.pure hmixU ?_;(repeat' ((conv=>whnf);first|refine goD ?_|refine U.lw_c ?_ ?_<;>intro hb))
   exact ⟨mkF [(4,.bool false)],.sl0 ⟨rfl,trivial⟩,.inr rfl,(fun h=>by cases h),fun _=>rfl⟩
  (conv=>whnf);refine U.ob_c rfl ?_;(conv=>whnf);refine OpsU.cut 8 ?_;(repeat' ((conv=>whnf);first|refine goD ?_|refine U.lw_c ?_ ?_<;>intro hb))
  refine ⟨mkF [(0,imS L),(1,yl 0),(4,.bool false),(5,.int .i64 pre.length),(7,.int .i64 L.length),(8,.int .i64 pre.length),(17,.bool false),(22,imS (encSs th)),(23,yl 0)],.sl0 ⟨rfl,rfl,rfl,rfl,rfl,rfl,rfl,rfl,rfl,trivial⟩,?_⟩
  refine OpsU.call rfl rfl rfl rfl rfl rfl (by decide +kernel) rfl ih1 ?_ ?_
  rotate_left
  ·(conv=>whnf);refine U.ob_c rfl ?_;(conv=>whnf);refine OpsU.cut 12 ?_;(repeat' ((conv=>whnf);first|refine goD ?_|refine U.lw_c ?_ ?_<;>intro hb))
   refine ⟨mkF [(36,.bool true)],.sl0 ⟨rfl,trivial⟩,OpsU.nil ?_⟩;refine IterU.pure hmixU ?_;(repeat' ((conv=>whnf);first|refine goD ?_|refine U.lw_c ?_ ?_<;>intro hb))
   exact ⟨mkF [(4,.bool false)],.sl0 ⟨rfl,trivial⟩,.inr rfl,(fun h=>by cases h),fun _=>rfl⟩
  (conv=>whnf);refine U.ob_c rfl ?_;(conv=>whnf);refine OpsU.cut 9 ?_;(repeat' ((conv=>whnf);first|refine goD ?_|refine U.lw_c ?_ ?_<;>intro hb))
  refine ⟨mkF [(0,imS L),(1,yl 0),(4,.bool false),(5,.int .i64 pre.length),(7,.int .i64 L.length),(8,.int .i64 pre.length),(27,.bool false),(32,imS (encSs el)),(33,yl 0)],.sl0 ⟨rfl,rfl,rfl,rfl,rfl,rfl,rfl,rfl,rfl,trivial⟩,?_⟩
  refine OpsU.call rfl rfl rfl rfl rfl rfl (by decide +kernel) rfl ih2 ?_ ?_
  rotate_left
  ·(conv=>whnf);refine U.ob_c rfl ?_;(conv=>whnf);refine OpsU.cut 2 ?_;(repeat' ((conv=>whnf);first|refine goD ?_|refine U.lw_c ?_ ?_<;>intro hb))
   refine ⟨mkF [(36,.bool true)],.sl0 ⟨rfl,trivial⟩,OpsU.nil ?_⟩;refine IterU.pure hmixU ?_;(repeat' ((conv=>whnf);first|refine goD ?_|refine U.lw_c ?_ ?_<;>intro hb))
   exact ⟨mkF [(4,.bool false)],.sl0 ⟨rfl,trivial⟩,.inr rfl,(fun h=>by cases h),fun _=>rfl⟩
  (conv=>whnf);refine U.ob_c rfl ?_;(conv=>whnf);refine OpsU.cut 2 ?_;(repeat' ((conv=>whnf);first|refine goD ?_|refine U.lw_c ?_ ?_<;>intro hb))
  refine ⟨mkF [(0,imS L),(1,yl 0),(4,.bool false),(7,.int .i64 L.length),(8,.int .i64 pre.length),(36,.bool false)],.sl0 ⟨rfl,rfl,rfl,rfl,rfl,rfl,trivial⟩,OpsU.nil ?_⟩;refine IterU.pure hmixU ?_;(repeat' ((conv=>whnf);first|refine goD ?_|refine U.lw_c ?_ ?_<;>intro hb))
  refine ⟨mkF [(0,imS L),(1,yl 0),(4,.bool false),(7,.int .i64 L.length),(8,.int .i64 pre.length)],.sl0 ⟨rfl,rfl,rfl,rfl,rfl,trivial⟩,IterU.pure hmixU ?_⟩;(repeat' ((conv=>whnf);first|refine goD ?_|refine U.lw_c ?_ ?_<;>intro hb))
  refine ⟨mkF [(0,imS L),(1,yl 0),(4,.bool false),(7,.int .i64 L.length),(8,.int .i64 (pre++[St.mk k a xs th el no]).length)],.sl0 ?_,(pre++[.mk k a xs th el no],post),by simp,by simp,rfl⟩
  exact ⟨rfl,rfl,rfl,rfl,congrArg (fun z=>some (Value.int .i64 z)) zw,trivial⟩
theorem eachs_all:∀(N:Nat) (ss:List St),szSs ss≤N->szSs ss≤1000->IterQ Tryz.prog 110 [imS (encSs ss),yl 0] (ptrS (allSs ss)) (.bool true) (.bool false)
 |0,ss,h0,h1=>eachs_d ss (Nat.le_trans (Nat.le_trans (szSs_len ss) h1) (by decide)) fun k a xs th el no hm=>by
  have:=szSs_mem hm;have:=szS_pos (.mk k a xs th el no);omega
 |N+1,ss,h0,h1=>eachs_d ss (Nat.le_trans (Nat.le_trans (szSs_len ss) h1) (by decide)) fun k a xs th el no hm=>by
  have:=szSs_mem hm;rw[szS] at this;exact ⟨eachs_all N th (by omega) (by omega),eachs_all N el (by omega) (by omega)⟩
theorem within_q (ss:List St) (hss:szSs ss≤1000):IterQ Tryz.prog 190 [yl 0,imP (imS (encSs ss)) 0] (ptrS (allSs ss)) undef undef:=by
 refine IterQ.body rfl rfl Tryz.func190 rfl rfl rfl ?_;have e:ptrS (allSs ss)=ptrS (allSs ss)++[]:=(List.append_nil _).symm;rw[e];refine IterU.region (OpsU.cut 2 ?_);(repeat' ((conv=>whnf);first|refine goD ?_|refine U.lw_c ?_ ?_<;>intro hb))
 refine ⟨mkF [(3,imS (encSs ss)),(4,yl 0)],.sl0 ⟨rfl,rfl,trivial⟩,?_⟩;refine OpsU.call rfl rfl rfl rfl rfl rfl (by decide +kernel) rfl (eachs_all 1000 ss hss hss) ?_ ?_
 all_goals (conv=>whnf)
 all_goals refine U.ob_c rfl ?_
 all_goals (conv=>whnf)
 ·exact OpsU.nil ⟨.inl rfl,(fun _=>rfl),fun h=>by cases h⟩
 ·exact OpsU.nil ⟨.inr rfl,(fun h=>by cases h),fun _=>rfl⟩
def ptrP (l:List Pr13):List Value:=ptrS (l.flatMap fun x=>allSs x.body)
theorem ptrP_cons (x:Pr13) (l:List Pr13):ptrP (x::l)=ptrS (allSs x.body)++ptrP l:=by
 rw[ptrP,List.flatMap_cons,ptrS_app];rfl
theorem stmts_q (p:Pg) (hf:FewP p):IterQ Tryz.prog 109 [yl 0,imP (encP p) 0] (ptrS (preP p)) undef undef:=by
 refine IterQ.body rfl rfl Tryz.func109 rfl rfl rfl ?_;obtain ⟨h1,h2,h3,h4,h5⟩:=hf;obtain ⟨sl,arrs,ins,procs,main⟩:=p;dsimp only at h1 h2 h3 h4 h5;have e:ptrS (preP ⟨sl,arrs,ins,procs,main⟩)=ptrP procs++(ptrS (allSs main)++[]):=by rw[preP,ptrS_app,List.append_nil];rfl
 rw[e];obtain ⟨PP,hPP⟩:∃PP,PP=imP (encP ⟨sl,arrs,ins,procs,main⟩) 0:=⟨_,rfl⟩
 refine IterU.seq (IterU.seq (IterU.pure hmixU ?_));(repeat' ((conv=>whnf);first|refine goD ?_|refine U.lw_c ?_ ?_<;>intro hb))
 refine ⟨mkF [(0,yl 0),(1,PP),(6,imS (prL procs)),(7,.int .i64 (prL procs).length),(8,.int .i64 0)],.sl0 ⟨rfl,congrArg some hPP.symm,rfl,rfl,rfl,trivial⟩,?_⟩;refine IterU.block (IterU.loop (α:=List Pr13×List Pr13) (fun x=>x.1++x.2=procs) (fun x=>(mkF [(0,yl 0),(1,PP),(6,imS (prL procs)),(7,.int .i64 (prL procs).length),(8,.int .i64 x.1.length)],some (ptrP x.2++(ptrS (allSs main)++[])))) (fun x=>x.2.length) ([],procs) rfl rfl ?_)
 rintro ⟨pre,rest⟩ q1
 dsimp only at q1 ⊢;rcases rest with _|⟨⟨nm,ps,body⟩,rest⟩
 ·rw[List.append_nil] at q1;subst q1;have zb:=U.lt_no prL_map pre;rw[show ptrP []++(ptrS (allSs main)++[])=ptrS (allSs main)++[] from rfl]
  refine IterU.pure hmixU ?_;(repeat' ((conv=>whnf);first|refine goD ?_|refine U.lw_c ?_ ?_<;>intro hb))
  (conv=>whnf);refine ⟨mkF [(0,yl 0),(1,PP)],.sl0 ⟨rfl,rfl,trivial⟩,?_⟩;subst hPP;refine IterU.region (OpsU.cut 3 ?_);(repeat' ((conv=>whnf);first|refine goD ?_|refine U.lw_c ?_ ?_<;>intro hb))
  refine ⟨mkF [(19,imS (encSs main)),(20,yl 0)],.sl0 ⟨rfl,rfl,trivial⟩,?_⟩;refine OpsU.call rfl rfl rfl rfl rfl rfl (by decide +kernel) rfl (eachs_all 1000 main (by omega) (by omega)) ?_ ?_
  all_goals (conv=>whnf)
  all_goals refine U.ob_c rfl ?_
  all_goals (conv=>whnf)
  ·exact OpsU.nil ⟨.inl rfl,(fun _=>rfl),fun h=>by cases h⟩
  ·exact OpsU.nil ⟨.inr rfl,(fun h=>by cases h),fun _=>rfl⟩
 ·subst q1;have zb:=U.lt_yes prL_map pre (Pr13.mk nm ps body) rest;have zc:=U.blt_yes prL_map pre (Pr13.mk nm ps body) rest;have zn:=U.nth_at prL_map pre (Pr13.mk nm ps body) rest;have zw:=U.len_snoc (pre:=pre) (x:=Pr13.mk nm ps body) (post:=rest) ((by simp at h3 ⊢;omega))
  rw[ptrP_cons,List.append_assoc];have hsz:=szPrs_mem (l:=pre++⟨nm,ps,body⟩::rest) (x:=⟨nm,ps,body⟩) (by simp)
  have ih1:=eachs_all 1000 body (by dsimp only at hsz;omega) (by dsimp only at hsz;omega)
  obtain ⟨L,hL⟩:∃L,L=prL (pre++⟨nm,ps,body⟩::rest):=⟨_,rfl⟩
  rw[← hL] at zb zc zn ⊢;refine IterU.seq (IterU.pure hmixU ?_);(repeat' ((conv=>whnf);first|refine goD ?_|refine U.lw_c ?_ ?_<;>intro hb))
  refine ⟨mkF [(0,yl 0),(1,PP),(6,imS L),(7,.int .i64 L.length),(8,.int .i64 pre.length),(9,.bool true)],.sl0 ⟨rfl,rfl,rfl,rfl,rfl,congrArg (fun b=>some (Value.bool b)) zb,trivial⟩,?_⟩
  refine IterU.seq (IterU.pure hmixU ?_);(repeat' ((conv=>whnf);first|refine goD ?_|refine U.lw_c ?_ ?_<;>intro hb))
  refine ⟨mkF [(0,yl 0),(1,PP),(6,imS L),(7,.int .i64 L.length),(8,.int .i64 pre.length)],.sl0 ⟨rfl,rfl,rfl,rfl,rfl,trivial⟩,?_⟩;refine IterU.seq (IterU.block (IterU.seq (IterU.pure hmixU ?_)));(repeat' ((conv=>whnf);first|refine goD ?_|refine U.lw_c ?_ ?_<;>intro hb))
  have hcL:NoNm (imS L):=by rw[hL];exact cleanPrL _
  have hcP:NoNm PP:=by rw[hPP];exact .imp _ _ fun c hc=>cleanP_cells _ c hc
  refine ⟨mkF [(0,yl 0),(1,PP),(4,imP (encPr ⟨nm,ps,body⟩) 0),(6,imS L),(7,.int .i64 L.length),(8,.int .i64 pre.length)],.box1 (T:=102) (x:=encPr ⟨nm,ps,body⟩) (xs:=[.string nm,imS (iL ps),imS (encSs body)]) rfl rfl rfl rfl (by simp) (cleanPr_cells ⟨nm,ps,body⟩)
     (.cons rfl (.yld 0 0 (by decide) rfl) (.L rfl hcP rfl (.cons rfl (.ext _ _ ⟨rfl,rfl⟩) (.L rfl hcL rfl (.cons rfl .I (.cons rfl .I .nil)))))),?_⟩
  refine IterU.seq (IterU.region (OpsU.cut 3 ?_));(repeat' ((conv=>whnf);first|refine goD ?_|refine U.lw_c ?_ ?_<;>intro hb))
  refine ⟨mkF [(0,yl 0),(1,PP),(6,imS L),(7,.int .i64 L.length),(8,.int .i64 pre.length),(13,imS (encSs body)),(14,yl 0)],.sl0 ⟨rfl,rfl,rfl,rfl,rfl,rfl,rfl,trivial⟩,?_⟩;refine OpsU.call rfl rfl rfl rfl rfl rfl (by decide +kernel) rfl ih1 ?_ ?_
  rotate_left
  ·(conv=>whnf);refine U.ob_c rfl ?_;(conv=>whnf);refine OpsU.cut 1 ?_;(repeat' ((conv=>whnf);first|refine goD ?_|refine U.lw_c ?_ ?_<;>intro hb))
   refine ⟨mkF [(16,.bool true)],.sl0 ⟨rfl,trivial⟩,OpsU.nil ?_⟩;refine IterU.pure hmixU ?_;(repeat' ((conv=>whnf);first|refine goD ?_|refine U.lw_c ?_ ?_<;>intro hb))
   exact ⟨mkF [],.sl0 trivial,.inr rfl,(fun h=>by cases h),fun _=>rfl⟩
  (conv=>whnf);refine U.ob_c rfl ?_;(conv=>whnf);refine OpsU.cut 1 ?_;(repeat' ((conv=>whnf);first|refine goD ?_|refine U.lw_c ?_ ?_<;>intro hb))
  refine ⟨mkF [(0,yl 0),(1,PP),(6,imS L),(7,.int .i64 L.length),(8,.int .i64 pre.length),(16,.bool false)],.sl0 ⟨rfl,rfl,rfl,rfl,rfl,rfl,trivial⟩,OpsU.nil ?_⟩;refine IterU.pure hmixU ?_;(repeat' ((conv=>whnf);first|refine goD ?_|refine U.lw_c ?_ ?_<;>intro hb))
  refine ⟨mkF [(0,yl 0),(1,PP),(6,imS L),(7,.int .i64 L.length),(8,.int .i64 pre.length)],.sl0 ⟨rfl,rfl,rfl,rfl,rfl,trivial⟩,IterU.pure hmixU ?_⟩;(repeat' ((conv=>whnf);first|refine goD ?_|refine U.lw_c ?_ ?_<;>intro hb))
  refine ⟨mkF [(0,yl 0),(1,PP),(6,imS L),(7,.int .i64 L.length),(8,.int .i64 (pre++[Pr13.mk nm ps body]).length)],.sl0 ?_,(pre++[⟨nm,ps,body⟩],rest),by simp,by simp,rfl⟩
  exact ⟨rfl,rfl,rfl,rfl,congrArg (fun z=>some (Value.int .i64 z)) zw,trivial⟩
end Go.Proofs.YtnfppdblcmollaaGreatDoor
namespace Go.Proofs.YtnfppdblcmollaaGreatDoor.U
open Go Go.RowKit Go.Sort
set_option linter.unusedVariables false
set_option linter.unusedSimpArgs false
set_option maxRecDepth 100000
set_option maxHeartbeats 40000000
theorem Cov.boxF {P:Program}{N n0:Nat}{fr:Tr Value}{s:AS}(ρ:Nat->Nat) (kf:Nat) (x:Value) {T:TypeId}{xs:List Value}{l:List (Nat×Value)}{hl:List (Nat×Option Blk)}{n lo glb:Nat}(e1:lo=s.lo) (e2:glb=s.glb) (hn:n0≤n) (hg:glb≤n0) (hρ:∀k,k<n0->ρ k=k)
  (hkeys:keysB ρ lo n (hl.map (·.1))=true) (hkeep:∀k,k<lo->(mkO hl).get k=s.heap.get k) (hkf:s.lo≤kf) (hno:((hl.map (·.1)).all fun k=>decide (ρ k≠kf))=true) (hk:s.heap.get kf=some (.cells T xs false)) (hxs:cellsOf x=xs) (hx:xs≠[]) (hc:∀y,y∈xs->NoNm y)
  (hb:blksO s.heap n ⟨ρ,fun u1 u=>u1=imP x 0∧u=.pointer (some ⟨kf,0,none⟩)⟩ hl) (hf:slotsRen fr n ⟨ρ,fun u1 u=>u1=imP x 0∧u=.pointer (some ⟨kf,0,none⟩)⟩ l):Cov P N n0 fr s (mkF l) ⟨mkO hl,n,lo,glb⟩:=by
 have hkeys:=keysB.all hkeys;have hget:∀k b,(mkO hl).get k=some b->k∈hl.map (·.1)∧∃b',s.heap.get (ρ k)=some b'∧RenB n ⟨ρ,fun u1 u=>u1=imP x 0∧u=.pointer (some ⟨kf,0,none⟩)⟩ b b':=fun k b h=>by
  have hm:=mkO_get h;exact ⟨List.mem_map.2 ⟨_,hm,rfl⟩,hb.all _ hm b rfl⟩
 have hmem:∀k,(mkO hl).get k≠none->k∈hl.map (·.1):=fun k h=>by
  obtain ⟨b,hbk⟩:=Option.ne_none_iff_exists'.1 h;exact (hget k b hbk).1
 refine Cov.gen ρ kf (fun u1 u=>u1=imP x 0∧u=.pointer (some ⟨kf,0,none⟩)) (T:=T) (op:=false) (xs:=xs) e1 e2 hn hg hρ (fun k b h=>?_) (fun k k' h h' e=>?_) hkeep hkf (fun _=>hk) (fun u1 u ⟨h1,h2⟩=>?_) (fun t u hu=>?_)
 ·obtain ⟨h1,h2⟩:=hget k b h;obtain ⟨g1,g2,_⟩:=hkeys k h1;exact ⟨g1,g2,fun _=>of_decide_eq_true (List.all_eq_true.1 hno k h1),h2⟩
 ·exact (hkeys k (hmem k h)).2.2 k' (hmem k' h') e
 ·subst h1;subst h2;exact .box x 0 hx hxs hc
 ·exact hf.all _ (mkF_mem hu)
theorem RenB.lp {n:Nat}{ρ:Ren}{st:LoopState}{pe:Option Code}{l:List (Nat×Value)}{fr:Tr Value}{N:Nat}{ps:List Tmp}{asg bo:Code}(h:slotsRen fr n ρ l):RenB n ρ (.loop st pe (mkF l) N ps asg bo) (.loop st pe fr N ps asg bo) :=
 .loop _ _ _ _ _ _ _ _ fun t u hu=>h.all _ (mkF_mem hu)
def rangeIn:Code->Option (List Tmp×Code×Code)
 |.rangeFunc _ ps a b=>some (ps.toList,a,b)
 |.seq a b=>match rangeIn a with
  |some x=>some x
  |none=>rangeIn b
 |.cond _ a b=>match rangeIn a with
  |some x=>some x
  |none=>rangeIn b
 |.block _ c=>rangeIn c
 |.loop c=>rangeIn c
 |.scope c=>rangeIn c
 |_=>none
def rangeF (b:Option Code):List Tmp×Code×Code:=match (match b with
  |some c=>rangeIn c
  |none=>none) with
 |some x=>x
 |none=>([],.skip,.skip)
theorem SoundAt.coverS {P:Program}{f:FuncId}{args:List Value}{s:AS}{K:Value->AS->Prop}(h:SoundAt P f args s fun u t=>flatV u=true∧∃t',CovS P s.next t t'∧K u t'):SoundAt P f args s K:=by
 refine ⟨fun hlo W0 β W vs hR hf hv=>?_⟩
 refine (h.out hlo W0 β W vs hR hf hv).mono fun e w' ⟨v,u,s',he,⟨hfl,t',hc,hk⟩,hst,β',h1,h2,h3,h4⟩=>?_
 obtain ⟨β1,p1,p2,p3,p4⟩:=hc.rel W0 β' w' h2 h1.free;refine ⟨v,u,t',he,hk,⟨hc.next,hc.lo.trans hst.lo,hc.glb.trans hst.glb,fun k hk'=>(hc.keep k (by rw[hst.lo];exact hk')).trans (hst.keep k hk')⟩,β1,⟨fun k hk'=>(p1 k hk').trans (h1.keep k hk'),p2,h1.z.trans p3⟩,p4,?_,h4⟩
 rw[h3.flat_eq hfl];exact .of_flat _ hfl
end Go.Proofs.YtnfppdblcmollaaGreatDoor.U
