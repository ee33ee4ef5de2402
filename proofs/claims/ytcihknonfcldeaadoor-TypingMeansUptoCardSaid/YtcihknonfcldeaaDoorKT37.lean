
import Derived.Test.YtcihknonfcldeaaDoorKT36
namespace Go.Proofs.YtcihknonfcldeaaDoor
open Go Go.RowKit Go.Sort U
set_option linter.unusedVariables false
set_option linter.unusedSimpArgs false
set_option maxRecDepth 100000
set_option maxHeartbeats 40000000
def nmA (l:List EnD):Value:=.agg ⟨[tabV l,imS (encEns l),imS (iL (flE l).pl),imS (iL (flE l).fi),imS (imMs (mpE l)),.int .i64 ((flE l).la:Nat)]⟩
def nmV (l:List EnD):Value:=imP (nmA l) 0
theorem cleanNm_cells (l:List EnD):∀c∈cellsOf (nmA l),NoNm c:=fun c hc=>by
 simp only[nmA,cellsOf,List.mem_cons,List.not_mem_nil,or_false] at hc;rcases hc with rfl|rfl|rfl|rfl|rfl|rfl
 ·exact cleanTab l
 ·exact cleanEns l
 ·exact .ims _ (cleanIC _)
 ·exact .ims _ (cleanIC _)
 ·exact .ims _ (cleanMs _)
 ·exact .flat _ rfl
theorem cleanNm (l:List EnD):NoNm (nmV l):=.imp _ _ (cleanNm_cells l)
def findE (l:List EnD) (nm:ByteArray):Option EnD:=l.find? fun e=>decide (e.nm=nm)
def meanM (l:List EnD) (nm:ByteArray):Int×Int:=match findE l nm with
 |none=>(0,0)
 |some e=>if e.k=3 then (2,e.no) else if e.k=4 then (3,e.no) else (1,e.no)
def ownOf (l:List EnD) (node:Int) (nm:ByteArray):Option Int:=if 0≤node then (match (flE l).mp[node.toNat]? with
 |some m=>getM m nm
 |none=>none) else none
def meanD (l:List EnD) (node:Int) (nm:ByteArray):Int×Int:=match ownOf l node nm with
 |some z=>(1,z)
 |none=>meanM l nm
theorem mOfF_app:∀(n:Nat) (a b:List ByteArray),mOfF n (a++b)=mOfF n a++mOfF (n+a.length) b
 |n,[],b=>by simp[mOfF]
 |n,x::a,b=>by rw[List.cons_append,mOfF,mOfF,mOfF_app (n+1) a b,List.cons_append,List.length_cons,show n+1+a.length=n+(a.length+1) by omega]
theorem findE_none {l:List EnD}{nm:ByteArray}(h:findE l nm=none):nm∉(mOf (l.map (·.nm))).map (·.1):=by
 rw[mOf_fst];intro hm;obtain ⟨e,he,h2⟩:=List.mem_map.1 hm;have:=List.find?_eq_none.1 h e he;simp[h2] at this
theorem findE_some {l:List EnD}{nm:ByteArray}{e:EnD}(h:findE l nm=some e):∃a b,l=a++e::b∧e.nm=nm∧mOf (l.map (·.nm))=mOf (a.map (·.nm))++(nm,(a.length:Int))::mOfF (a.length+1) (b.map (·.nm))∧nm∉(mOf (a.map (·.nm))).map (·.1):=by
 obtain ⟨h1,a,b,h2,h3⟩:=List.find?_eq_some_iff_append.1 h;have h1:e.nm=nm:=by simpa using h1
 refine ⟨a,b,h2,h1,?_,?_⟩
 ·rw[h2,List.map_append,List.map_cons,mOf,mOfF_app,mOfF,List.length_map,Nat.zero_add,h1];rfl
 ·rw[mOf_fst];intro hm;obtain ⟨x,hx,h4⟩:=List.mem_map.1 hm;have:=h3 x hx;simp[h4] at this
theorem imMs_len (m:List MSI):(imMs m).length=m.length:=List.length_map ..
theorem mpE_len (l:List EnD):(mpE l).length=(flE l).mp.length+1:=by rw[mpE,List.length_append];rfl
theorem imMs_at {m:List MSI}{j:Nat}{x:MSI}(h:m[j]?=some x):nth (imMs m) j=some (imM (mE .string (.int .i64) x)):=by
 rw[nth_eq,imMs,List.getElem?_map,h];rfl
theorem encEns_at (a b:List EnD) (e:EnD):nth (encEns (a++e::b)) a.length=some (encEn e):=by
 rw[nth_eq,encEns,List.getElem?_map];simp
theorem mean_d (l:List EnD) (node:Int) (nm:ByteArray) (hm:(flE l).mp.length≤300):DenU Tryd.prog [] 19 [nmV l,.int .i64 node,.string nm] (.agg ⟨[.int .i64 (meanD l node nm).1,.int .i64 (meanD l node nm).2]⟩):=by
 refine denU_of_soundT rfl fun Ts=>SoundAt.body hmixU Tryd.func19 rfl rfl rfl 0 ?_
 have hw:IntKind.i64.wrap (((imMs (mpE l)).length:Nat)-1:Int)=(((flE l).mp.length:Nat):Int):=by
  rw[imMs_len,mpE_len,IntKind.wrap_i64];omega
 have g0:(((imMs (mpE l)).length:Int)==0)=false:=by rw[imMs_len,mpE_len];simp;omega
 have hb1:Nat.blt (flE l).mp.length (imMs (mpE l)).length=true:=bLe (by rw[imMs_len,mpE_len];omega)
 have hn1:nth (imMs (mpE l)) (flE l).mp.length=some (imM (mE .string (.int .i64) (mOf (l.map (·.nm))))):=imMs_at (by rw[mpE,List.getElem?_append_right rL,Nat.sub_self];rfl)
 by_cases hN:0≤node
 ·have g1:decide (node≥0)=true:=decide_eq_true hN;obtain ⟨j,rfl⟩:=Int.eq_ofNat_of_zero_le hN;by_cases hj:j<(flE l).mp.length
  ·have g2:decide ((j:Int)<(((flE l).mp.length:Nat):Int))=true:=decide_eq_true (by omega)
   have hb3:Nat.blt j (imMs (mpE l)).length=true:=bLe (by rw[imMs_len,mpE_len];omega)
   have hn3:nth (imMs (mpE l)) j=some (imM (mE .string (.int .i64) (flE l).mp[j])):=imMs_at (by rw[mpE,List.getElem?_append_left hj,List.getElem?_eq_getElem hj])
   have ho:ownOf l (j:Int) nm=getM (flE l).mp[j] nm:=by
    unfold ownOf;rw[if_pos hN,Int.toNat_natCast,List.getElem?_eq_getElem hj]
   generalize (flE l).mp[j]=m at hn3 ho
   rcases look_cases nm m with h5|⟨q1,u1,q2,h5,h6⟩
   ·rw[getM_none h5] at ho;have hf5:=sS_ok.none (ev:=Value.int .i64) h5;rw[show meanD l (j:Int) nm=meanM l nm by unfold meanD;rw[ho]]
    cases hfe:findE l nm with
    |none =>
     have hf1:=sS_ok.none (ev:=Value.int .i64) (findE_none hfe);(repeat' ((conv=>whnf);first|refine goA ?_|(rw[hw])|refine U.onV_p (unpair_pair _) ?_|refine U.onV_p hf1 ?_|refine U.natC_p ?_|refine U.onV_p hf5 ?_|refine goB ?_|refine U.lw_c ?_ ?_<;>intro hb))
     all_goals (conv=>whnf)
     rw[show meanM l nm=(0,0) by unfold meanM;rw[hfe]]
     exact .same (.flat _ rfl) rfl
    |some e =>
     obtain ⟨a,b,h1,h2,h3,h4⟩:=findE_some hfe;have hf1:=sS_ok.mid (ev:=Value.int .i64) (q:=mOfF (a.length+1) (b.map (·.nm))) (u:=(a.length:Int)) h4
     rw[← h3] at hf1;have hb2:Nat.blt a.length (encEns l).length=true:=bLe (by rw[encEns,List.length_map,h1,List.length_append,List.length_cons];omega)
     have hn2:nth (encEns l) a.length=some (encEn e):=by rw[h1];exact encEns_at a b e
     have hme:meanM l nm=if e.k=3 then (2,e.no) else if e.k=4 then (3,e.no) else (1,e.no):=by unfold meanM;rw[hfe]
     rw[hme];clear h1 h2 h3 h4 hme;obtain ⟨k,nm2,no,lo,hi,sz,ps,ln,cl⟩:=e;dsimp only;by_cases k3:k=3
     ·have q3:(k==3)=true:=by simpa using k3
      rw[if_pos k3];(repeat' ((conv=>whnf);first|refine goA ?_|(rw[hw])|refine U.onV_p (unpair_pair _) ?_|refine U.onV_p hf1 ?_|refine U.natC_p ?_|refine U.onV_p hf5 ?_|refine goB ?_|refine U.lw_c ?_ ?_<;>intro hb))
      (conv=>whnf);exact .same (.flat _ rfl) rfl
     ·have q3:(k==3)=false:=by simpa using k3
      rw[if_neg k3];by_cases k4:k=4
      ·have q4:(k==4)=true:=by simpa using k4
       rw[if_pos k4];(repeat' ((conv=>whnf);first|refine goA ?_|(rw[hw])|refine U.onV_p (unpair_pair _) ?_|refine U.onV_p hf1 ?_|refine U.natC_p ?_|refine U.onV_p hf5 ?_|refine goB ?_|refine U.lw_c ?_ ?_<;>intro hb))
       (conv=>whnf);exact .same (.flat _ rfl) rfl
      ·have q4:(k==4)=false:=by simpa using k4
       rw[if_neg k4];(repeat' ((conv=>whnf);first|refine goA ?_|(rw[hw])|refine U.onV_p (unpair_pair _) ?_|refine U.onV_p hf1 ?_|refine U.natC_p ?_|refine U.onV_p hf5 ?_|refine goB ?_|refine U.lw_c ?_ ?_<;>intro hb))
       (conv=>whnf);exact .same (.flat _ rfl) rfl
   ·rw[h5,getM_mid h6] at ho;have hf5:=sS_ok.mid (ev:=Value.int .i64) (q:=q2) (u:=u1) h6;rw[← h5] at hf5;rw[show meanD l (j:Int) nm=(1,u1) by unfold meanD;rw[ho]]
    (repeat' ((conv=>whnf);first|refine goA ?_|(rw[hw])|refine U.onV_p (unpair_pair _) ?_|refine U.onV_p hf5 ?_|refine U.natC_p ?_|refine goB ?_|refine U.lw_c ?_ ?_<;>intro hb))
    (conv=>whnf);exact .same (.flat _ rfl) rfl
  ·have g2:decide ((j:Int)<(((flE l).mp.length:Nat):Int))=false:=decide_eq_false (by omega)
   rw[show meanD l (j:Int) nm=meanM l nm by unfold meanD ownOf;rw[if_pos hN,Int.toNat_natCast,List.getElem?_eq_none (by omega)]]
   cases hfe:findE l nm with
   |none =>
    have hf1:=sS_ok.none (ev:=Value.int .i64) (findE_none hfe);(repeat' ((conv=>whnf);first|refine goA ?_|(rw[hw])|refine U.onV_p (unpair_pair _) ?_|refine U.onV_p hf1 ?_|refine U.natC_p ?_|refine goB ?_|refine U.lw_c ?_ ?_<;>intro hb))
    all_goals (conv=>whnf)
    rw[show meanM l nm=(0,0) by unfold meanM;rw[hfe]]
    exact .same (.flat _ rfl) rfl
   |some e =>
    obtain ⟨a,b,h1,h2,h3,h4⟩:=findE_some hfe;have hf1:=sS_ok.mid (ev:=Value.int .i64) (q:=mOfF (a.length+1) (b.map (·.nm))) (u:=(a.length:Int)) h4
    rw[← h3] at hf1;have hb2:Nat.blt a.length (encEns l).length=true:=bLe (by rw[encEns,List.length_map,h1,List.length_append,List.length_cons];omega)
    have hn2:nth (encEns l) a.length=some (encEn e):=by rw[h1];exact encEns_at a b e
    have hme:meanM l nm=if e.k=3 then (2,e.no) else if e.k=4 then (3,e.no) else (1,e.no):=by unfold meanM;rw[hfe]
    rw[hme];clear h1 h2 h3 h4 hme;obtain ⟨k,nm2,no,lo,hi,sz,ps,ln,cl⟩:=e;dsimp only;by_cases k3:k=3
    ·have q3:(k==3)=true:=by simpa using k3
     rw[if_pos k3];(repeat' ((conv=>whnf);first|refine goA ?_|(rw[hw])|refine U.onV_p (unpair_pair _) ?_|refine U.onV_p hf1 ?_|refine U.natC_p ?_|refine goB ?_|refine U.lw_c ?_ ?_<;>intro hb))
     (conv=>whnf);exact .same (.flat _ rfl) rfl
    ·have q3:(k==3)=false:=by simpa using k3
     rw[if_neg k3];by_cases k4:k=4
     ·have q4:(k==4)=true:=by simpa using k4
      rw[if_pos k4];(repeat' ((conv=>whnf);first|refine goA ?_|(rw[hw])|refine U.onV_p (unpair_pair _) ?_|refine U.onV_p hf1 ?_|refine U.natC_p ?_|refine goB ?_|refine U.lw_c ?_ ?_<;>intro hb))
      (conv=>whnf);exact .same (.flat _ rfl) rfl
     ·have q4:(k==4)=false:=by simpa using k4
      rw[if_neg k4];(repeat' ((conv=>whnf);first|refine goA ?_|(rw[hw])|refine U.onV_p (unpair_pair _) ?_|refine U.onV_p hf1 ?_|refine U.natC_p ?_|refine goB ?_|refine U.lw_c ?_ ?_<;>intro hb))
      (conv=>whnf);exact .same (.flat _ rfl) rfl
 ·have g1:decide (node≥0)=false:=decide_eq_false (by omega)
  rw[show meanD l node nm=meanM l nm by unfold meanD ownOf;rw[if_neg hN]]
  cases hfe:findE l nm with
  |none =>
   have hf1:=sS_ok.none (ev:=Value.int .i64) (findE_none hfe);(repeat' ((conv=>whnf);first|refine goA ?_|(rw[hw])|refine U.onV_p (unpair_pair _) ?_|refine U.onV_p hf1 ?_|refine U.natC_p ?_|refine goB ?_|refine U.lw_c ?_ ?_<;>intro hb))
   all_goals (conv=>whnf)
   rw[show meanM l nm=(0,0) by unfold meanM;rw[hfe]]
   exact .same (.flat _ rfl) rfl
  |some e =>
   obtain ⟨a,b,h1,h2,h3,h4⟩:=findE_some hfe;have hf1:=sS_ok.mid (ev:=Value.int .i64) (q:=mOfF (a.length+1) (b.map (·.nm))) (u:=(a.length:Int)) h4
   rw[← h3] at hf1;have hb2:Nat.blt a.length (encEns l).length=true:=bLe (by rw[encEns,List.length_map,h1,List.length_append,List.length_cons];omega)
   have hn2:nth (encEns l) a.length=some (encEn e):=by rw[h1];exact encEns_at a b e
   have hme:meanM l nm=if e.k=3 then (2,e.no) else if e.k=4 then (3,e.no) else (1,e.no):=by unfold meanM;rw[hfe]
   rw[hme];clear h1 h2 h3 h4 hme;obtain ⟨k,nm2,no,lo,hi,sz,ps,ln,cl⟩:=e;dsimp only;by_cases k3:k=3
   ·have q3:(k==3)=true:=by simpa using k3
    rw[if_pos k3];(repeat' ((conv=>whnf);first|refine goA ?_|(rw[hw])|refine U.onV_p (unpair_pair _) ?_|refine U.onV_p hf1 ?_|refine U.natC_p ?_|refine goB ?_|refine U.lw_c ?_ ?_<;>intro hb))
    (conv=>whnf);exact .same (.flat _ rfl) rfl
   ·have q3:(k==3)=false:=by simpa using k3
    rw[if_neg k3];by_cases k4:k=4
    ·have q4:(k==4)=true:=by simpa using k4
     rw[if_pos k4];(repeat' ((conv=>whnf);first|refine goA ?_|(rw[hw])|refine U.onV_p (unpair_pair _) ?_|refine U.onV_p hf1 ?_|refine U.natC_p ?_|refine goB ?_|refine U.lw_c ?_ ?_<;>intro hb))
     (conv=>whnf);exact .same (.flat _ rfl) rfl
    ·have q4:(k==4)=false:=by simpa using k4
     rw[if_neg k4];(repeat' ((conv=>whnf);first|refine goA ?_|(rw[hw])|refine U.onV_p (unpair_pair _) ?_|refine U.onV_p hf1 ?_|refine U.natC_p ?_|refine goB ?_|refine U.lw_c ?_ ?_<;>intro hb))
     (conv=>whnf);exact .same (.flat _ rfl) rfl
def rgL (n m:Nat):List Int:=(List.range m).map fun i=>((n+i:Nat):Int)
theorem rgL_succ (n m:Nat):rgL n (m+1)=rgL n m++[((n+m:Nat):Int)]:=by rw[rgL,List.range_succ,List.map_append];rfl
theorem rgL_len (n m:Nat):(rgL n m).length=m:=by rw[rgL,List.length_map,List.length_range]
theorem foldF_app:∀(a b:List EnD) (s:FlD) (i:Nat),foldF s i (a++b)=foldF (foldF s i a) (i+a.length) b
 |[],b,s,i=>rfl
 |e::a,b,s,i=>by rw[List.cons_append,foldF,foldF,foldF_app a b,List.length_cons,show i+1+a.length=i+(a.length+1) by omega]
theorem foldF_pre:∀(l:List EnD) (s:FlD) (i:Nat),∃x y z,(foldF s i l).pl=s.pl++x∧(foldF s i l).fi=s.fi++y∧(foldF s i l).mp=s.mp++z
 |[],s,i=>⟨[],[],[],by simp[foldF],by simp[foldF],by simp[foldF]⟩
 |e::l,s,i=>by
  rw[foldF];obtain ⟨x,y,z,h1,h2,h3⟩:=foldF_pre l (stepF i s e) (i+1);unfold stepF at h1 h2 h3 ⊢
  split at h1
  ·rename_i hk;rw[if_pos hk] at h2 h3 ⊢;dsimp only at h1 h2 h3;exact ⟨[(i:Int)]++x,[(s.la:Int)]++y,[ownM s.la e.ps]++z,by rw[h1,List.append_assoc],by rw[h2,List.append_assoc],by rw[h3,List.append_assoc]⟩
  ·rename_i hk;rw[if_neg hk] at h2 h3 ⊢;exact ⟨x,y,z,h1,h2,h3⟩
theorem foldF_lens:∀(l:List EnD) (s:FlD) (i:Nat),s.pl.length=s.fi.length->s.pl.length=s.mp.length->(foldF s i l).pl.length=(foldF s i l).fi.length∧(foldF s i l).pl.length=(foldF s i l).mp.length∧(foldF s i l).pl.length=s.pl.length+(l.filter fun e=>e.k==4).length
 |[],s,i,h,h'=>⟨h,h',rfl⟩
 |e::l,s,i,h,h'=>by
  rw[foldF];obtain ⟨h1,h2,h3⟩:=foldF_lens l (stepF i s e) (i+1) (by unfold stepF;split<;>simp[h]) (by unfold stepF;split<;>simp[h'])
  refine ⟨h1,h2,?_⟩;rw[h3];unfold stepF;by_cases hk:e.k=4
  ·rw[if_pos hk,List.filter_cons_of_pos (by simpa using hk),List.length_cons,List.length_append];show s.pl.length+1+_=_
   omega
  ·rw[if_neg hk,List.filter_cons_of_neg (by simpa using hk)]
def flP (l a:List EnD):FlD:=foldF (fl0 l) 0 a
def prN (a:List EnD):Nat:=(a.filter fun e=>e.k==4).length
theorem flE_lens (l:List EnD):(flE l).pl.length=prN l∧(flE l).fi.length=prN l∧(flE l).mp.length=prN l:=by
 obtain ⟨h1,h2,h3⟩:=foldF_lens l (fl0 l) 0 rfl rfl;have h3:(flE l).pl.length=prN l:=h3.trans (Nat.zero_add _);exact ⟨h3,h1.symm.trans h3,h2.symm.trans h3⟩
theorem prN_le (l:List EnD):prN l≤l.length:=List.length_filter_le ..
theorem flE_at (a b:List EnD) (e:EnD) (h:e.k=4):(flE (a++e::b)).pl[prN a]?=some (a.length:Int)∧(flE (a++e::b)).fi[prN a]?=some ((flP (a++e::b) a).la:Int)∧(flE (a++e::b)).mp[prN a]?=some (ownM (flP (a++e::b) a).la e.ps):=by
 obtain ⟨l1,l2,l3⟩:=foldF_lens a (fl0 (a++e::b)) 0 rfl rfl;have l3:(flP (a++e::b) a).pl.length=prN a:=l3.trans (Nat.zero_add _);have l1:(flP (a++e::b) a).fi.length=prN a:=l1.symm.trans l3;have l2:(flP (a++e::b) a).mp.length=prN a:=l2.symm.trans l3
 have h0:flE (a++e::b)=foldF (stepF a.length (flP (a++e::b) a) e) (a.length+1) b:=by
  unfold flE;rw[foldF_app,foldF,Nat.zero_add];rfl
 obtain ⟨x,y,z,h1,h2,h3⟩:=foldF_pre b (stepF a.length (flP (a++e::b) a) e) (a.length+1);rw[h0,h1,h2,h3];unfold stepF;rw[if_pos h];dsimp only;refine ⟨?_,?_,?_⟩
 ·rw[List.append_assoc,List.getElem?_append_right (by omega),← l3,Nat.sub_self];rfl
 ·rw[List.append_assoc,List.getElem?_append_right (by omega),← l1,Nat.sub_self];rfl
 ·rw[List.append_assoc,List.getElem?_append_right (by omega),← l2,Nat.sub_self];rfl
theorem slot_d (l:List EnD) (node:Int) (nm:ByteArray) (hm:(flE l).mp.length≤300):DenU Tryd.prog [] 7 [nmV l,.int .i64 node,.string nm] (if (meanD l node nm).1=1 then .tuple ⟨[.int .i64 (meanD l node nm).2,.bool true]⟩ else .tuple ⟨[.int .i64 0,.bool false]⟩):=by
 refine denU_of_soundT rfl fun Ts=>SoundAt.body hmixU Tryd.func7 rfl rfl rfl 0 ?_
 have c:=mean_d l node nm hm;have hc:=cleanNm l;generalize meanD l node nm=q at c ⊢
 obtain ⟨w,no⟩:=q;dsimp only at c ⊢;by_cases h:w=1
 ·have g:(w != 1)=false:=by simpa using h
  rw[if_pos h];(repeat' ((conv=>whnf);first|refine goD ?_|refine U.SoundAt.u (c) clN ?_|refine U.SoundC.u (c) clN ?_|refine U.lw_c ?_ ?_<;>intro hb))
  (conv=>whnf);exact .same (.flat _ rfl) rfl
 ·have g:(w != 1)=true:=by simpa using h
  rw[if_neg h];(repeat' ((conv=>whnf);first|refine goD ?_|refine U.SoundAt.u (c) clN ?_|refine U.SoundC.u (c) clN ?_|refine U.lw_c ?_ ?_<;>intro hb))
  (conv=>whnf);exact .same (.flat _ rfl) rfl
theorem array_d (l:List EnD) (node:Int) (nm:ByteArray) (hm:(flE l).mp.length≤300):DenU Tryd.prog [] 20 [nmV l,.int .i64 node,.string nm] (if (meanD l node nm).1=2 then .tuple ⟨[.int .i64 (meanD l node nm).2,.bool true]⟩ else .tuple ⟨[.int .i64 0,.bool false]⟩):=by
 refine denU_of_soundT rfl fun Ts=>SoundAt.body hmixU Tryd.func20 rfl rfl rfl 0 ?_
 have c:=mean_d l node nm hm;have hc:=cleanNm l;generalize meanD l node nm=q at c ⊢
 obtain ⟨w,no⟩:=q;dsimp only at c ⊢;by_cases h:w=2
 ·have g:(w != 2)=false:=by simpa using h
  rw[if_pos h];(repeat' ((conv=>whnf);first|refine goD ?_|refine U.SoundAt.u (c) clN ?_|refine U.SoundC.u (c) clN ?_|refine U.lw_c ?_ ?_<;>intro hb))
  (conv=>whnf);exact .same (.flat _ rfl) rfl
 ·have g:(w != 2)=true:=by simpa using h
  rw[if_neg h];(repeat' ((conv=>whnf);first|refine goD ?_|refine U.SoundAt.u (c) clN ?_|refine U.SoundC.u (c) clN ?_|refine U.lw_c ?_ ?_<;>intro hb))
  (conv=>whnf);exact .same (.flat _ rfl) rfl
theorem proc_d (l:List EnD) (nm:ByteArray) (hm:(flE l).mp.length≤300):DenU Tryd.prog [] 21 [nmV l,.string nm] (if (meanM l nm).1=3 then .tuple ⟨[.int .i64 (meanM l nm).2,.bool true]⟩ else .tuple ⟨[.int .i64 0,.bool false]⟩):=by
 refine denU_of_soundT rfl fun Ts=>SoundAt.body hmixU Tryd.func21 rfl rfl rfl 0 ?_
 have c:=mean_d l ((iL (flE l).pl).length:Int) nm hm;have hc:=cleanNm l;rw[show meanD l ((iL (flE l).pl).length:Int) nm=meanM l nm by
  unfold meanD ownOf;rw[if_pos (by omega),Int.toNat_natCast,List.getElem?_eq_none (by rw[iL_len,(flE_lens l).1,(flE_lens l).2.2];exact Nat.le_refl _)]] at c
 generalize meanM l nm=q at c ⊢
 obtain ⟨w,no⟩:=q;dsimp only at c ⊢;by_cases h:w=3
 ·have g:(w != 3)=false:=by simpa using h
  rw[if_pos h];(repeat' ((conv=>whnf);first|refine goD ?_|refine U.SoundAt.u (c) clN ?_|refine U.SoundC.u (c) clN ?_|refine U.drawX_p (D:=U.propX) 12 [] (by decide +kernel) (by decide +kernel) ?_|refine U.lw_c ?_ ?_<;>intro hb))
  (conv=>whnf);exact .same (.flat _ rfl) rfl
 ·have g:(w != 3)=true:=by simpa using h
  rw[if_neg h];(repeat' ((conv=>whnf);first|refine goD ?_|refine U.SoundAt.u (c) clN ?_|refine U.SoundC.u (c) clN ?_|refine U.drawX_p (D:=U.propX) 12 [] (by decide +kernel) (by decide +kernel) ?_|refine U.lw_c ?_ ?_<;>intro hb))
  (conv=>whnf);exact .same (.flat _ rfl) rfl
theorem slots_d (l:List EnD):DenU Tryd.prog [] 11 [nmV l] (.int .i64 ((flE l).la:Nat)):=by
 refine denU_of_soundT rfl fun Ts=>SoundAt.body hmixU Tryd.func11 rfl rfl rfl 0 ?_
 (repeat' ((conv=>whnf);first|refine goD ?_|refine U.lw_c ?_ ?_<;>intro hb))
 (conv=>whnf);exact .same (.flat _ rfl) rfl
theorem nodes_d (l:List EnD) (hm:(flE l).mp.length≤300):DenU Tryd.prog [] 8 [nmV l] (.int .i64 ((prN l+1:Nat):Int)):=by
 refine denU_of_soundT rfl fun Ts=>SoundAt.body hmixU Tryd.func8 rfl rfl rfl 0 ?_
 have h1:=flE_lens l;(repeat' ((conv=>whnf);first|refine goD ?_|refine U.lw_c ?_ ?_<;>intro hb))
 all_goals (conv=>whnf)
 exact .same (.flat _ rfl) (congrArg (Value.int .i64) (by rw[iL_len,h1.1,wadd1 (by omega)]))
theorem cellsI_1 (l:List Int):∀y,y∈iL l->(cellsOf y).length=1:=fun y hy=>by
 obtain ⟨n,_,rfl⟩:=List.mem_map.1 hy;rfl
noncomputable abbrev stPa (n i:Nat):AS:=⟨mkO [(0,rowO 3 (iL (rgL n i)))],1,0,0⟩
theorem params_d (l a b:List EnD) (e:EnD) (hl:l=a++e::b) (hk:e.k=4) (hps:e.ps.length≤40) (hla:(flP l a).la≤100000) (hll:l.length≤300):DenU Tryd.prog [] 9 [nmV l,.int .i64 (prN a:Nat)] (imS (iL (rgL (flP l a).la e.ps.length))):=by
 refine denU_of_soundT rfl fun Ts=>SoundAt.body hmixU Tryd.func9 rfl rfl rfl 0 ?_
 obtain ⟨f1,f2,f3⟩:=flE_at a b e hk;rw[← hl] at f1 f2 f3;have lens:=flE_lens l;have hlt:prN a<(flE l).pl.length:=(List.getElem?_eq_some_iff.1 f1).1;have hlt2:prN a<(flE l).fi.length:=(List.getElem?_eq_some_iff.1 f2).1
 have g1:decide (((prN a:Nat):Int)<0)=false:=decide_eq_false (by omega)
 have g2:decide (((prN a:Nat):Int)≥((iL (flE l).pl).length:Int))=false:=decide_eq_false (by rw[iL_len];omega)
 have b1:Nat.blt (prN a) (iL (flE l).pl).length=true:=bLe (by rw[iL_len];exact hlt)
 have b2:Nat.blt (prN a) (iL (flE l).fi).length=true:=bLe (by rw[iL_len];exact hlt2)
 have n1:nth (iL (flE l).pl) (prN a)=some (.int .i64 (a.length:Nat)):=by rw[nth_eq,iL,List.getElem?_map,f1];rfl
 have n2:nth (iL (flE l).fi) (prN a)=some (.int .i64 ((flP l a).la:Nat)):=by rw[nth_eq,iL,List.getElem?_map,f2];rfl
 have b3:Nat.blt a.length (encEns l).length=true:=bLe (by rw[encEns,List.length_map,hl,List.length_append,List.length_cons];omega)
 have n3:nth (encEns l) a.length=some (encEn e):=by rw[hl];exact encEns_at a b e
 generalize (flP l a).la=la at *
 generalize prN a=j at *
 generalize a.length=i0 at *
 clear hl hk f1 f2 f3 lens hlt hlt2;obtain ⟨k,nm2,no,lo,hi,sz,ps,ln,cl⟩:=e;dsimp only at hps ⊢;have hc:=cleanNm l;(repeat' ((conv=>whnf);first|refine goD ?_|refine U.drawX_p (D:=U.propX) 18 [] (by decide +kernel) (by decide +kernel) ?_|refine U.lw_c ?_ ?_<;>intro hb))
 (conv=>whnf);refine loop_inv (α:=Nat) (fun i=>i≤ps.length) (fun i=>(mkF [(0,nmV l),(1,.int .i64 j),(5,rowS 0 (iL (rgL la i))),(39,.int .i64 (sL ps).length),(40,.int .i64 i)],stPa la i)) (fun i=>ps.length-i) 0 zL (Cov.renI rfl rfl rfl rfl (.none .nil) (.L rfl (hc) rfl (.cons rfl .I (.K rfl rfl rfl (.cons rfl .I (.K rfl rfl rfl .nil)))))) ?_
 intro i hi;by_cases hip:i<ps.length
 ·have g3:decide ((i:Int)<((sL ps).length:Int))=true:=decide_eq_true (by rw[sL,List.length_map];omega)
  have hw1:=wadd1 (i:=i) (by omega)
  have hw2:=waddN (a:=la) (b:=i) (by omega)
  rcases Nat.eq_zero_or_pos i with rfl|h0
  ·(repeat' ((conv=>whnf);first|refine goD ?_|refine U.lw_c ?_ ?_<;>intro hb))
   (conv=>whnf);exact ⟨1,by omega,by omega,(Cov.renO (fun k=>if k=0 then 2 else k) rfl rfl (bR rfl) zL (fun k hk=>by have:k<0:=hk;rw[if_neg (by omega)]) rfl nlz (blksO.grownL rfl (.L (cleanI _) (congrArg (Value.int .i64) hw2.symm) .nil) .nil) (.L rfl (hc) rfl (.cons rfl .I (.cons rfl (.grown (by decide) rfl (by rw[rgL_succ];simp[iL]) (by rw[iL_len,rgL_len]) (by rw[iL_len,rgL_len])) (.cons rfl .I (.K rfl rfl rfl .nil))))))⟩
  ·obtain ⟨x,xs,hx⟩:∃x xs,rgL la i=x::xs:=by
    cases h:rgL la i with
    |nil=>have:=rgL_len la i;rw[h] at this;simp at this;omega
    |cons x xs=>exact ⟨x,xs,rfl⟩
   have hxl:xs.length+1=i:=by have:=rgL_len la i;rw[hx] at this;simpa using this
   have hgr:(cellsAll (Value.int IntKind.i64 x::List.map (Value.int IntKind.i64) xs)).length=((List.map (Value.int IntKind.i64) xs).length+1)*1:=by
    rw[show Value.int IntKind.i64 x::List.map (Value.int IntKind.i64) xs=iL (x::xs) from rfl,cellsI,iL_len,List.length_map,Nat.mul_one];rfl
   have hg1:(List.map (Value.int IntKind.i64) xs).length+1+(0+1)≤100000:=by rw[List.length_map];omega
   have hs:rgL la (i+1)=(x::xs)++[((la+i:Nat):Int)]:=by rw[rgL_succ,hx]
   unfold stPa;rw[hx];(repeat' ((conv=>whnf);first|refine goA ?_|(rw[U.ble_f ((List.map (Value.int IntKind.i64) xs).length+1)];dsimp only;refine U.growRow_p hgr rfl ?_)|refine U.ob_c (grow_ok (by decide +kernel) hg1) ?_|refine goB ?_|refine U.lw_c ?_ ?_<;>intro hb))
   (conv=>whnf);refine ⟨i+1,by omega,by omega,?_⟩
   rw[hs];exact (Cov.renO (fun k=>if k=0 then 2 else k) rfl rfl (bR rfl) zL (fun k hk=>by have:k<0:=hk;rw[if_neg (by omega)]) rfl nlz (blksO.grownL rfl (by rw[iL_snocC];exact RenL.app (RenL.refl (cleanIC (x::xs))) (.L (cleanI _) (congrArg (Value.int .i64) hw2.symm) .nil)) .nil) (.L rfl (hc) rfl (.cons rfl .I (.cons rfl (.grown (by decide) rfl (by simp[iL]) (by simp[iL]) (by simp[iL])) (.cons rfl .I (.L rfl (cleanI _) (congrArg (Value.int .i64) (hw1.symm)) .nil))))))
 ·obtain rfl:i=ps.length:=by omega
  have g3:decide ((ps.length:Int)<((sL ps).length:Int))=false:=decide_eq_false (by rw[sL,List.length_map];omega)
  (repeat' ((conv=>whnf);first|refine goD ?_|refine U.lw_c ?_ ?_<;>intro hb))
  (conv=>whnf);exact .ofRow (bR rfl) rfl (by exact cellsI_1 _) (cleanIC _)
end Go.Proofs.YtcihknonfcldeaaDoor
