
import Derived.Test.YtcihknonfcldeaaDoorKT31
import Derived.Test.YtcihknonfcldeaaDoorKT39
import Derived.Test.YtcihknonfcldeaaDoorKT41
import Derived.Test.YtcihknonfcldeaaDoorKT45
namespace Go.Proofs.YtcihknonfcldeaaDoor
open Go Go.RowKit Go.Sort U
set_option linter.unusedVariables false
set_option linter.unusedSimpArgs false
set_option maxRecDepth 100000
set_option maxHeartbeats 40000000
theorem getM_rng {s:ByteArray}{i:Int}:∀{n:Nat}{l:List ByteArray},getM (mOfF n l) s=some i->(n:Int)≤i∧i<((n+l.length:Nat):Int)
 |n,[],h=>by cases h
 |n,a::l,h=>by
  rw[mOfF,getM] at h;rw[List.length_cons];split at h
  ·cases h;omega
  ·have:=getM_rng (n:=n+1) h;omega
theorem siteL_all {m:MSI}{P:Int->Prop}(hP:∀s i,getM m s=some i->P i):∀{l:List AS6}{r:List Int},siteL m l=.inl r->∀x∈r,P x
 |[],r,h=>by rw[siteL] at h;cases h;simp
 |.mk k nm xs th el ln cl::l,r,h=>by
  rw[siteL] at h;cases hg:getM m nm with
  |none=>rw[hg] at h;cases h
  |some i =>
   rw[hg] at h;dsimp only at h;cases hs:siteL m l with
   |inr f=>rw[hs] at h;cases h
   |inl q =>
    rw[hs] at h;cases h
    intro x hx;rcases List.mem_cons.1 hx with rfl|hx
    ·exact hP _ _ hg
    ·exact siteL_all hP hs x hx
theorem rowsL_all {m:MSI}{P:Int->Prop}(hP:∀s i,getM m s=some i->P i):∀{l:List (List AS6)}{rows:List (List Int)},rowsL m l=.inl rows->rows.length=l.length∧(∀r∈rows,∀x∈r,P x)∧sumL rows≤(l.map szTs).sum
 |[],rows,h=>by rw[rowsL] at h;cases h;exact ⟨rfl,by simp,Nat.le_refl _⟩
 |b::l,rows,h=>by
  rw[rowsL] at h;cases hg:siteL m (callsTs b) with
  |inr f=>rw[hg] at h;cases h
  |inl r =>
   rw[hg] at h;dsimp only at h;cases hs:rowsL m l with
   |inr f=>rw[hs] at h;cases h
   |inl q =>
    rw[hs] at h;cases h
    obtain ⟨h1,h2,h3⟩:=rowsL_all hP hs;refine ⟨by rw[List.length_cons,List.length_cons,h1],fun x hx=>?_,?_⟩
    ·rcases List.mem_cons.1 hx with rfl|hx
     ·exact siteL_all hP hg
     ·exact h2 x hx
    ·have:=siteL_len hg;have:=callsTs_len b;unfold sumL at h3 ⊢
     rw[List.map_cons,List.sum_cons,List.map_cons,List.sum_cons];omega
theorem bods_sum:∀ds:List ADc,((bodsD ds).map szTs).sum≤szDs ds
 |[]=>Nat.le_refl _
 |d::ds=>by
  have ih:=bods_sum ds;unfold bodsD procDs at ih ⊢
  unfold szDs at ih ⊢
  rw[List.map_cons,List.sum_cons];by_cases h:d.k=4
  ·rw[List.filter_cons_of_pos (by simpa using h),List.map_cons,List.map_cons,List.sum_cons];omega
  ·rw[List.filter_cons_of_neg (by simpa using h)];omega
theorem le_sumL {r:List Int}:∀{rows:List (List Int)},r∈rows->r.length≤sumL rows
 |x::rows,h=>by
  unfold sumL;rw[List.map_cons,List.sum_cons];rcases List.mem_cons.1 h with rfl|h
  ·omega
  ·have:=le_sumL h;unfold sumL at this;omega
theorem ofG_right {p:APr}(hf:FewA p) {rows:List (List Int)}(h:ofG p=.inl rows):rightG ⟨namesD p.ds,rows⟩=true∧okG ⟨namesD p.ds,rows⟩∧rows.length≤29000∧sumL rows≤500000∧rows.length=(namesD p.ds).length+1:=by
 obtain ⟨h1,h2,h3⟩:=rowsL_all (P:=fun i=>0≤i∧i<((namesD p.ds).length:Int)) (fun s i hi=>by have:=getM_rng (n:=0) hi;omega) h
 have hn:(namesD p.ds).length≤300:=by
  unfold namesD procDs;rw[List.length_map];exact Nat.le_trans (List.length_filter_le ..) hf.dl
 have hb:(bodsD p.ds).length=(namesD p.ds).length:=by unfold bodsD namesD;rw[List.length_map,List.length_map]
 have h1:rows.length=(namesD p.ds).length+1:=by rw[h1,List.length_append,hb];rfl
 have hs:sumL rows≤300:=by
  rw[List.map_append,List.sum_append] at h3;have:=bods_sum p.ds;have h4:=hf.sz;unfold szPr at h4;simp at h3
  omega
 have hr:∀r∈rows,r.length≤300:=fun r hr=>by
  have:r.length≤sumL rows:=le_sumL hr;omega
 refine ⟨?_,⟨by show (namesD p.ds).length≤_;omega,by show rows.length≤maxI;exact Nat.le_trans (by omega:rows.length≤1000) (by decide),fun r h5=>Nat.le_trans (hr r h5) (by decide)⟩,by omega,by omega,h1⟩
 unfold rightG;rw[Bool.and_eq_true];refine ⟨decide_eq_true h1,List.all_eq_true.2 fun r hr=>List.all_eq_true.2 fun x hx=>?_⟩
 have:=h2 r hr x hx;unfold okT;simp only[Bool.and_eq_true,decide_eq_true_eq];exact this
def NoCyc (rows:List (List Int)):Prop:=∀w,w<rows.length->¬Cyc rows w
def RgP (n:Nat) (rows:List (List Int)) (u:Value):Prop:=(u=imS (iL [])∧NoCyc rows)∨∃(v:Nat) (L:List Nat),u=imS (iL (nL (v::L)))∧v<n∧¬NoCyc rows
theorem cyc_lt {g:Gz}{v:Nat}(h:Cyc (calleesR g) v):v<g.nm.length:=by
 obtain ⟨w,h1,h2⟩:=h;have:∃x,ES (calleesR g) x v:=by
  cases h2 with
  |refl=>exact ⟨_,h1⟩
  |step _ e=>exact ⟨_,e⟩
 obtain ⟨x,hx⟩:=this;unfold ES calleesR at hx;rw[List.getD_eq_getElem?_getD,List.getElem?_map] at hx;cases hq:g.st[x]? with
 |none=>rw[hq] at hx;simp at hx
 |some r =>
  rw[hq] at hx;obtain ⟨i,h3,h4,_⟩:=rowR_mem.1 hx;omega
theorem ring_p (p:APr) (hf:FewA p) {rows:List (List Int)}(h:ofG p=.inl rows):DenE Tryd.prog 13 [encG ⟨namesD p.ds,rows⟩] (RgP (namesD p.ds).length (calleesR ⟨namesD p.ds,rows⟩)):=by
 obtain ⟨h1,h2,h3,h4,h5⟩:=ofG_right hf h;have hE:=ring_e ⟨namesD p.ds,rows⟩ h2 h3 h4 h1;refine ⟨fun z W vs hz hv=>(hE.out z W vs hz hv).mono fun e w' ⟨u,v,z',hq,hr⟩=>⟨u,v,z',?_,hr⟩⟩
 rcases hq with ⟨e,hn⟩|⟨v,way,L,e,q1,q2,_,_,q3⟩
 ·exact .inl ⟨e,hn⟩
 ·have hd:=q3.hd;cases L with
  |nil=>cases hd
  |cons x L =>
   simp at hd
   subst hd;exact .inr ⟨x,L,e,cyc_lt q2,fun hn=>hn x q1 q2⟩
structure EdOk (l:List EnD):Prop where
 ok:OkEs l
 kd:∀e∈l,0≤e.k∧e.k≤4
 nd:∀e∈l,e.k=4->e.ps.Nodup
 no:∀a e b,l=a++e::b->e.no=(cntEn a (grpB e.k):Int)
def keyD (d:ADc):Int×ByteArray×List ByteArray:=(d.k,d.nm,d.ps)
def keyE (e:EnD):Int×ByteArray×List ByteArray:=(e.k,e.nm,e.ps)
theorem entsD_ok:∀(ds:List ADc) (l0 l:List EnD),entsD l0 ds=.inl l->(∀d∈ds,0≤d.k∧d.k≤4)->EdOk l0->EdOk l∧l.map keyE=l0.map keyE++ds.map keyD
 |[],l0,l,h,_,h0=>by rw[entsD] at h;cases h;exact ⟨h0,by simp⟩
 |d::ds,l0,l,h,hk,h0=>by
  rw[entsD] at h;by_cases he:errEn l0 d=0
  ·rw[if_pos he] at h;have hd:=hk d (by simp)
   have hn:d.k=4->d.ps.Nodup:=fun h4=>by
    unfold errEn at he;split at he
    ·cases he
    ·rename_i h1;exact Classical.byContradiction fun hn=>h1 (.inr ⟨h4,hn⟩)
   have hs:EdOk (l0++[mkEn l0 d]):=by
    refine ⟨h0.ok.snoc he,fun e hm=>?_,fun e hm h4=>?_,fun a e b hab=>?_⟩
    ·rcases List.mem_append.1 hm with hm|hm
     ·exact h0.kd e hm
     ·rw[List.mem_singleton] at hm;subst hm;exact hd
    ·rcases List.mem_append.1 hm with hm|hm
     ·exact h0.nd e hm h4
     ·rw[List.mem_singleton] at hm;subst hm;exact hn h4
    ·rcases List.eq_nil_or_concat b with rfl|⟨b',x,rfl⟩
     ·have:=List.append_inj' hab rfl;obtain ⟨rfl,h3⟩:=this;cases h3;rfl
     ·have hab:l0++[mkEn l0 d]=(a++e::b')++[x]:=by rw[hab];simp
      have:=(List.append_inj' hab rfl).1;exact h0.no a e b' this
   obtain ⟨h1,h2⟩:=entsD_ok ds _ l h (fun x hx=>hk x (by simp[hx])) hs
   refine ⟨h1,?_⟩;rw[h2,List.map_append,List.map_cons,List.append_assoc];rfl
  ·rw[if_neg he] at h;cases h
theorem EdOk.nil:EdOk []:=⟨.nil,by simp,by simp,fun a e b h=>by simp at h⟩
theorem grp2 {k:Int}(h:0≤k∧k≤4):(grpB k==2)=(k==4):=by
 have:k=0∨k=1∨k=2∨k=3∨k=4:=by omega
 rcases this with rfl|rfl|rfl|rfl|rfl<;>rfl
theorem EdOk.noOk {l:List EnD}(h:EdOk l):NoOk l:=fun a e b hl hk=>by
 rw[h.no a e b hl,hk];show ((cntEn a 2:Nat):Int)=_
 unfold cntEn prN;congr 2
 refine List.filter_congr fun x hx=>?_
 exact grp2 (h.kd x (by rw[hl];simp[hx]))
theorem keys_prN {a:List EnD}{pre:List ADc}(h:a.map keyE=pre.map keyD):prN a=prD pre:=by
 have h1:prN a=((a.map keyE).filter fun x=>x.1==4).length:=by
  unfold prN;rw[List.filter_map,List.length_map];rfl
 have h2:prD pre=((pre.map keyD).filter fun x=>x.1==4).length:=by
  unfold prD;rw[List.filter_map,List.length_map];rfl
 rw[h1,h2,h]
noncomputable abbrev stF9 (Ts:Nat->TypeId) (p:APr) (l:List EnD):AS:=⟨mkO [(0,kwBlk Ts),(1,some (bPr p)),(2,some bF),(3,some bF),(4,some (.cells 69 [tabV l,imS (encEns l),imS (iL (flE l).pl),imS (iL (flE l).fi),imS (imMs (mpE l)),.int .i64 ((flE l).la:Nat)] false))],5,1,1⟩
theorem imMs_1 (m:List MSI):∀y,y∈imMs m->(cellsOf y).length=1:=fun y hy=>by
 obtain ⟨x,_,rfl⟩:=List.mem_map.1 hy;rfl
theorem fill_c (Ts:Nat->TypeId) (p:APr) (l:List EnD) (hl:l.length≤300) (hp:∀e∈l,e.ps.length≤40) (ok:EdOk l) {K:Value->AS->Prop}(hK:K (.tuple ⟨[]⟩) (stF9 Ts p l)):SoundAt Tryd.prog 17 [.pointer (some ⟨4,0,none⟩),tabV l] (stF0 Ts p) K:=by
 refine SoundAt.coverV ((fill_at Ts p l hl hp ok.ok ok.nd).mono fun u t _ h=>?_)
 obtain ⟨rfl,rfl⟩:=h;refine ⟨_,_,?_,hK⟩;have hc:=cleanTab l;have hes:=cleanEns l;refine Cov.frzA (fun k=>k) [(5,rowO 3 (iL (flE l).pl)),(6,rowO 3 (iL (flE l).fi)),(7,some (.cells 81 (imMs (mpE l)) true))] rfl rfl (bR rfl) (bR rfl) (fun _ _=>rfl) rfl (kp1 (by rfl)) ⟨⟨bR rfl,fun b h=>h⟩,⟨bR rfl,fun b h=>h⟩,⟨bR rfl,fun b h=>h⟩,trivial⟩ rfl ?_ ?_
 ·exact (.W rfl (kwClean) rfl (.W rfl (cleanPr_cells _) rfl (.C rfl (.K rfl rfl (.K rfl rfl (.K rfl rfl .nil))) (.C rfl (.K rfl rfl (.K rfl rfl (.K rfl rfl .nil))) (.C rfl (.L (hc) rfl (.L (hes) rfl (.cons (RenV.frz (.ofRow (bR rfl) rfl iL_1 (cleanIC _)) rfl) (.cons (RenV.frz (.ofRow (bR rfl) rfl iL_1 (cleanIC _)) rfl) (.cons (RenV.frz (FrzV.rowL (bR rfl) rfl (imMs_cells _).symm (imMs_1 _) (imMs_len _).symm rL (cleanMs _)) rfl) (.K rfl rfl .nil)))))) .nil)))))
 ·exact (.K rfl rfl rfl .nil)
theorem entsD_ne:∀(ds:List ADc) (l0:List EnD) (a b e:Int),entsD l0 ds=.inr (a,b,e)->e≠0
 |[],l0,a,b,e,h=>by rw[entsD] at h;cases h
 |d::ds,l0,a,b,e,h=>by
  rw[entsD] at h;by_cases he:errEn l0 d=0
  ·rw[if_pos he] at h;exact entsD_ne ds _ a b e h
  ·rw[if_neg he] at h;cases h;exact he
theorem prN_split:∀(l:List EnD) (j:Nat),j<prN l->∃a e b,l=a++e::b∧e.k=4∧prN a=j
 |[],j,h=>by cases h
 |x::l,j,h=>by
  by_cases hx:x.k=4
  ·have h1:prN (x::l)=prN l+1:=by unfold prN;rw[List.filter_cons_of_pos (by simpa using hx)];rfl
   cases j with
   |zero=>exact ⟨[],x,l,rfl,hx,rfl⟩
   |succ j =>
    obtain ⟨a,e,b,h2,h3,h4⟩:=prN_split l j (by omega)
    refine ⟨x::a,e,b,by rw[h2];rfl,h3,?_⟩
    rw[← h4];unfold prN;rw[List.filter_cons_of_pos (by simpa using hx)];rfl
  ·have h1:prN (x::l)=prN l:=by unfold prN;rw[List.filter_cons_of_neg (by simpa using hx)]
   obtain ⟨a,e,b,h2,h3,h4⟩:=prN_split l j (by omega)
   refine ⟨x::a,e,b,by rw[h2];rfl,h3,?_⟩
   rw[← h4];unfold prN;rw[List.filter_cons_of_neg (by simpa using hx)]
theorem ringF {l:List EnD}{v:Nat}(L:List Nat) (hv:v<prN l):∃(i:Nat) (e:EnD),nth (iL (nL (v::L))) 0=some (.int .i64 (v:Nat))∧decide (((iL (nL (v::L))).length:Int) > 0)=true∧Nat.blt v (iL (flE l).pl).length=true∧nth (iL (flE l).pl) v=some (.int .i64 (i:Nat))∧Nat.blt i (encEns l).length=true∧nth (encEns l) i=some (encEn e):=by
 obtain ⟨a,e,b,h1,h2,h3⟩:=prN_split l v hv;obtain ⟨f1,_,_⟩:=flE_at a b e h2;rw[← h1,h3] at f1;have hlt:v<(flE l).pl.length:=(List.getElem?_eq_some_iff.1 f1).1;refine ⟨a.length,e,rfl,decide_eq_true (by rw[iL_len,nL,List.length_map,List.length_cons];omega),bLe (by rw[iL_len];exact hlt),by rw[nth_eq,iL,List.getElem?_map,f1];rfl,bLe (by rw[encEns,List.length_map,h1,List.length_append,List.length_cons];omega),by rw[h1];exact encEns_at a b e⟩
structure CkOk (p:APr) (l:List EnD):Prop where
 kd:∀d∈p.ds,0≤d.k∧d.k≤4
 ok:EdOk l
 key:l.map keyE=p.ds.map keyD
 gd:goodDs l 0 p.ds
 gm:goodSs l (prD p.ds:Nat) p.mn
 nc:∃rows,ofG p=.inl rows∧NoCyc (calleesR ⟨namesD p.ds,rows⟩)
def CkQ (p:APr) (u:Value):Prop:=(∃a b e:Int,e≠0∧u=.tuple ⟨[.pointer none,fltV a b e]⟩)∨∃l,CkOk p l∧u=.tuple ⟨[nmV l,fltV 0 0 0]⟩
theorem ckErr {p:APr}{s:AS}{a b e:Int}(h:e≠0):∃u,CkQ p u∧FrzV Tryd.prog s (.tuple ⟨[.pointer none,fltV a b e]⟩) u:=⟨_,.inl ⟨a,b,e,h,rfl⟩,.clean _ (.flat _ rfl)⟩
theorem check_e (p:APr) (hf:FewA p):DenET Tryd.prog kwT 6 [encPr p] (CkQ p):=by
 refine denET_of_sound kw_ok fun Ts=>SoundAt.body hmixU Tryd.func6 rfl rfl rfl 0 ?_
 have c1:=right6_d p hf;have kp:=cleanPr p;by_cases hkd:∀d∈p.ds,0≤d.k∧d.k≤4
 ·have c2:=decl_d p hf hkd;unfold ofAns at c2;cases hen:entsD [] p.ds with
  |inr f =>
   obtain ⟨ln,cl,e⟩:=f;rw[hen] at c2;have hne:=entsD_ne _ _ _ _ _ hen;have g1:(e != 0)=true:=by simpa using hne
   dsimp only at c2;(repeat' ((conv=>whnf);first|refine goA ?_|(refine U.SoundAt.eT kw_ok c1 ⟨kp,trivial⟩ (tabN rfl rfl) ?_;refine bqK fun b1 hb1=>?_)|refine goB ?_|refine U.SoundAt.u (c2) clN ?_|refine U.SoundC.u (c2) clN ?_|refine U.drawX_p (D:=U.propX) 2 [] (by decide +kernel) (by decide +kernel) ?_|refine U.drawX_p (D:=U.propX) 6 [] (by decide +kernel) (by decide +kernel) ?_|refine U.drawX_p (D:=U.propX) 20 [] (by decide +kernel) (by decide +kernel) ?_|refine U.lw_c ?_ ?_<;>intro hb))
   all_goals (conv=>whnf)
   ·exact ckErr (a:=0) (b:=0) (e:=2) (by decide)
   ·exact ckErr hne
  |inl l =>
   rw[hen] at c2;dsimp only at c2;obtain ⟨hok,hkey⟩:=entsD_ok p.ds [] l hen hkd .nil;have hle:l.length=p.ds.length:=by have:=congrArg List.length hkey;simpa using this
   have hl:l.length≤300:=by rw[hle];exact hf.dl
   have hkey:l.map keyE=p.ds.map keyD:=hkey;have hps:∀e∈l,e.ps.length≤40:=fun e he=>by
    have:keyE e∈p.ds.map keyD:=by rw[← hkey];exact List.mem_map.2 ⟨e,he,rfl⟩
    obtain ⟨d,hd,h⟩:=List.mem_map.1 this;have h2:d.ps=e.ps:=congrArg (fun x=>x.2.2) h
    rw[← h2];exact hf.ps d hd
   have hmp:(flE l).mp.length≤300:=by rw[(flE_lens l).2.2];exact Nat.le_trans (prN_le l) hl
   have htab:=cleanTab l;have hes:=cleanEns l;have c3:=fault_u l p hf hmp hl hok.noOk;cases hfd:faultD l p with
   |some f =>
    obtain ⟨a,b,e⟩:=f;have hne:=faultD_ne hfd;dsimp only at hne;have g1:(e != 0)=true:=by simpa using hne
    rw[hfd] at c3;dsimp only[fltO] at c3
    (repeat' ((conv=>whnf);first|refine goA ?_|(refine U.SoundAt.eT kw_ok c1 ⟨kp,trivial⟩ (tabN rfl rfl) ?_;refine bqK fun b1 hb1=>?_)|(refine fill_c Ts p l hl hps hok ?_)|(refine U.SoundC.uF c3 rfl (.cons (FrzV.boxR zL rfl (.cons (.clean _ htab) (.cons (.clean _ hes) (.cons (.clean _ (.ims _ (cleanIC _))) (.cons (.clean _ (.ims _ (cleanIC _))) (.cons (.clean _ (.ims _ (cleanMs _))) (.cons (.clean _ (.flat _ rfl)) .nil))))))) (.cons (.clean _ kp) .nil)) ?_)|refine goB ?_|refine U.SoundAt.u (c2) clN ?_|refine U.SoundC.u (c2) clN ?_|refine U.drawX_p (D:=U.propX) 2 [] (by decide +kernel) (by decide +kernel) ?_|refine U.drawX_p (D:=U.propX) 6 [] (by decide +kernel) (by decide +kernel) ?_|refine U.drawX_p (D:=U.propX) 20 [] (by decide +kernel) (by decide +kernel) ?_|refine U.lw_c ?_ ?_<;>intro hb))
    all_goals (conv=>whnf)
    ·exact ckErr (a:=0) (b:=0) (e:=2) (by decide)
    ·exact ckErr hne
   |none =>
    rw[hfd] at c3;dsimp only[fltO] at c3
    obtain ⟨hgd,hgm⟩:=faultD_good hfd;cases hog:ofG p with
    |inr f =>
     have c4:=of_n p hf hog;(repeat' ((conv=>whnf);first|refine goA ?_|(refine U.SoundAt.eT kw_ok c1 ⟨kp,trivial⟩ (tabN rfl rfl) ?_;refine bqK fun b1 hb1=>?_)|(refine fill_c Ts p l hl hps hok ?_)|(refine U.SoundC.uF c3 rfl (.cons (FrzV.boxR zL rfl (.cons (.clean _ htab) (.cons (.clean _ hes) (.cons (.clean _ (.ims _ (cleanIC _))) (.cons (.clean _ (.ims _ (cleanIC _))) (.cons (.clean _ (.ims _ (cleanMs _))) (.cons (.clean _ (.flat _ rfl)) .nil))))))) (.cons (.clean _ kp) .nil)) ?_)|refine goB ?_|refine U.SoundAt.u (c2) clN ?_|refine U.SoundAt.u (c4) clN ?_|refine U.SoundC.u (c2) clN ?_|refine U.SoundC.u (c4) clN ?_|refine U.drawX_p (D:=U.propX) 2 [] (by decide +kernel) (by decide +kernel) ?_|refine U.drawX_p (D:=U.propX) 6 [] (by decide +kernel) (by decide +kernel) ?_|refine U.drawX_p (D:=U.propX) 20 [] (by decide +kernel) (by decide +kernel) ?_|refine U.lw_c ?_ ?_<;>intro hb))
     all_goals (conv=>whnf)
     ·exact ckErr (a:=0) (b:=0) (e:=2) (by decide)
     ·exact ckErr (by decide)
    |inl rows =>
     have c4:=of_u p hf hog;have c5:=ring_p p hf hog;have kg:=cleanG ⟨namesD p.ds,rows⟩;have hpl:prN l=(namesD p.ds).length:=by
      rw[keys_prN hkey];unfold prD namesD procDs;rw[List.length_map]
     (repeat' ((conv=>whnf);first|refine goA ?_|(refine U.SoundAt.eT kw_ok c1 ⟨kp,trivial⟩ (tabN rfl rfl) ?_;refine bqK fun b1 hb1=>?_)|(refine fill_c Ts p l hl hps hok ?_)|(refine U.SoundC.uF c3 rfl (.cons (FrzV.boxR zL rfl (.cons (.clean _ htab) (.cons (.clean _ hes) (.cons (.clean _ (.ims _ (cleanIC _))) (.cons (.clean _ (.ims _ (cleanIC _))) (.cons (.clean _ (.ims _ (cleanMs _))) (.cons (.clean _ (.flat _ rfl)) .nil))))))) (.cons (.clean _ kp) .nil)) ?_)|(refine U.SoundAt.e c5 ⟨kg,trivial⟩ ?_;rintro _ (⟨rfl,hnc⟩|⟨v,L,rfl,hv,hnc⟩);rotate_left 1;obtain ⟨ei,⟨ek,enm,eno,elo,ehi,esz,eps,eln,ecl⟩,r1,r2,r3,r4,r5,r6⟩:=ringF (l:=l) L (by rw[hpl];exact hv);rotate_left 1)|refine goB ?_|refine U.SoundAt.u (c2) clN ?_|refine U.SoundAt.u (c4) clN ?_|refine U.SoundC.u (c2) clN ?_|refine U.SoundC.u (c4) clN ?_|refine U.drawX_p (D:=U.propX) 2 [] (by decide +kernel) (by decide +kernel) ?_|refine U.drawX_p (D:=U.propX) 6 [] (by decide +kernel) (by decide +kernel) ?_|refine U.drawX_p (D:=U.propX) 20 [] (by decide +kernel) (by decide +kernel) ?_|refine U.lw_c ?_ ?_<;>intro hb))
     all_goals (conv=>whnf)
     ·exact ckErr (a:=0) (b:=0) (e:=2) (by decide)
     ·refine ⟨_,.inr ⟨l,⟨hkd,hok,hkey,hgd,hgm,rows,hog,hnc⟩,rfl⟩,.tupL (.cons (FrzV.boxR (bR rfl) rfl (.cons (.clean _ htab) (.cons (.clean _ hes) (.cons (.clean _ (.ims _ (cleanIC _))) (.cons (.clean _ (.ims _ (cleanIC _))) (.cons (.clean _ (.ims _ (cleanMs _))) (.cons (.clean _ (.flat _ rfl)) .nil))))))) (.cons (.clean _ (.flat _ rfl)) .nil))⟩
     ·exact ckErr (by decide)
 ·(repeat' ((conv=>whnf);first|refine goA ?_|(refine U.SoundAt.eT kw_ok c1 ⟨kp,trivial⟩ (tabN rfl rfl) ?_;refine bqK fun b1 hb1=>?_;obtain rfl:b1=false:=(by cases b1;rfl;exact absurd (hb1 rfl) hkd))|refine goB ?_|refine U.drawX_p (D:=U.propX) 2 [] (by decide +kernel) (by decide +kernel) ?_|refine U.drawX_p (D:=U.propX) 6 [] (by decide +kernel) (by decide +kernel) ?_|refine U.drawX_p (D:=U.propX) 20 [] (by decide +kernel) (by decide +kernel) ?_|refine U.lw_c ?_ ?_<;>intro hb))
  (conv=>whnf);exact ckErr (a:=0) (b:=0) (e:=2) (by decide)
end Go.Proofs.YtcihknonfcldeaaDoor
