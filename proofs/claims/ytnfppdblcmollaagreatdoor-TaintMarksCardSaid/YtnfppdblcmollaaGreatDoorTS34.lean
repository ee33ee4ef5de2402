
import Derived.Test.YtnfppdblcmollaaGreatDoorTS33
namespace Go.Proofs.YtnfppdblcmollaaGreatDoor
open Go Go.RowKit Go.Sort U
set_option linter.unusedVariables false
set_option linter.unusedSimpArgs false
set_option maxRecDepth 100000
set_option maxHeartbeats 40000000
def fullG (rows:List (List Int)) (m:Nat):List Value:=gL rows++repX m [.slice none 0 0]
theorem repX_rep (v:Value):∀n,repX n [v]=List.replicate n v
 |0=>rfl
 |n+1=>by rw[repX,repX_rep v n];rfl
theorem fullG_len (rows:List (List Int)) (m:Nat):(fullG rows m).length=rows.length+m:=by
 rw[fullG,List.length_append,gL_len,repX_rep,List.length_replicate]
theorem fullG_clean (rows:List (List Int)) (m:Nat):∀v∈fullG rows m,NoNm v:=fun v hv=>by
 rcases List.mem_append.1 hv with hv|hv
 ·obtain ⟨r,_,rfl⟩:=List.mem_map.1 hv;exact cleanIL r
 ·rw[repX_rep] at hv;rw[(List.mem_replicate.1 hv).2];exact .flat _ rfl
theorem fullG_put (rows:List (List Int)) (m:Nat) (v:Value):(fullG rows (m+1)).take (rows.length*1)++[v]++(fullG rows (m+1)).drop (rows.length*1+[v].length)=gL rows++v::repX m [.slice none 0 0]:=by
 unfold fullG;rw[Nat.mul_one,← gL_len rows,List.take_left,List.drop_append];simp[repX_rep,List.replicate_succ]
theorem callL_snoc (l:List St) (k a:Int) (xs:List Ex) (th el:List St) (no:Int):callL (l++[.mk k a xs th el no])=callL l++(if k=5 then [a] else []):=by
 unfold callL;rw[List.filterMap_append];congr 1
 by_cases h:k=5<;>simp[h]
theorem callL_len (l:List St):(callL l).length≤l.length:=List.length_filterMap_le ..
def rAt (A:List St) (vs:List Value):List Int:=callL (A.take (A.length-vs.length))
noncomputable def rangeG:List Tmp×Code×Code:=rangeF Tryz.f120.body
noncomputable def hdG (p:Pg) (names:List ByteArray) (rows:List (List Int)) (m b:Nat):List (Nat×Option U.Blk):=[(0,some (.cells 27 (cellsOf (encP p)) false)),(1,some (.cells 119 [.slice none 0 0,.slice none 0 0] false)),(2,some (.cells 22 (fullG rows m) false)),(3,some (.cells 119 [rowS b (sL names),.slice (some ⟨2,0,none⟩) rows.length (rows.length+m)] false)),(b,rowO 9 (sL names))]
theorem RenL.refl_app {n:Nat}{ρ:U.Ren}:∀{a l m:List Value},(∀x∈a,NoNm x)->U.RenL n ρ l m->U.RenL n ρ (a++l) (a++m)
 |[],l,m,_,h=>h
 |x::a,l,m,hc,h=>RenL.cons (.clean _ _ (hc x (by simp)) rfl) (RenL.refl_app (fun y hy=>hc y (by simp[hy])) h)
theorem fullG_ren {n:Nat}{ρ:U.Ren}(rows:List (List Int)) (r:List Int) (m:Nat) {v:Value}(hv:U.RenV n ρ (imS (iL r)) v):U.RenL n ρ (fullG (rows++[r]) m) ((fullG rows (m+1)).take (rows.length*1)++[v]++(fullG rows (m+1)).drop (rows.length*1+[v].length)):=by
 rw[fullG_put,fullG,show gL (rows++[r])=gL rows++[imS (iL r)] by rw[gL,gL,List.map_append];rfl,List.append_assoc]
 refine RenL.refl_app (fun x hx=>cleanGC rows x (by rw[cellsG];exact hx)) (RenL.cons hv ?_)
 have:=RenL.refl_app (n:=n) (ρ:=ρ) (a:=repX m [.slice none 0 0]) (l:=[]) (m:=[]) (fun x hx=>by
  rw[repX_rep] at hx;rw[(List.mem_replicate.1 hx).2];exact .flat _ rfl) RenL.nil
 rwa [List.append_nil] at this
theorem rAt_all (A:List St):rAt A (ptrS A)=[]:=by
 rw[rAt,ptrS,List.length_map,Nat.sub_self,List.take_zero];rfl
theorem rAt_nil (A:List St):rAt A []=callL A:=by rw[rAt,List.length_nil,Nat.sub_zero,List.take_length]
theorem rAt_cons {A p q:List St}{k a:Int}{xs:List Ex}{th el:List St}{no:Int}{x:Value}{ts:List Value}(hA:A=p++St.mk k a xs th el no::q) (h:q.map ptS=ts) (k' a':Int):rAt A (x::ts)=callL p∧rAt A ts=callL p++(if k=5 then [a] else []):=by
 subst hA;have hl:ts.length=q.length:=by rw[← h,List.length_map]
 constructor
 ·rw[rAt,List.length_cons,hl,List.length_append,List.length_cons,show p.length+(q.length+1)-(q.length+1)=p.length by omega,List.take_left]
 ·rw[rAt,hl,List.length_append,List.length_cons,show p.length+(q.length+1)-q.length=p.length+1 by omega,show p++St.mk k a xs th el no::q=(p++[St.mk k a xs th el no])++q by simp,List.take_left' (by simp),callL_snoc]
theorem suffix_map {α:Type}{f:α->Value}{l:List α}{x:Value}{ts:List Value}(h:(x::ts) <:+ l.map f):∃p y q,l=p++y::q∧x=f y∧q.map f=ts:=by
 obtain ⟨t,ht⟩:=h;obtain ⟨a,b,h1,h2,h3⟩:=List.map_eq_append_iff.1 ht.symm;obtain ⟨y,q,h4,h5,h6⟩:=List.map_eq_cons_iff.1 h3;exact ⟨a,y,q,by rw[h1,h4],h5.symm,h6⟩
--BEGIN GRAPH
noncomputable def lpG7:U.Blk:=.loop .ready none (mkF [(1,.pointer (some ⟨3,0,none⟩)),(3,.pointer (some ⟨8,0,none⟩))]) 26 rangeG.1 rangeG.2.1 rangeG.2.2
noncomputable def stI7 (p:Pg) (names:List ByteArray) (rows:List (List Int)) (m:Nat) (r:List Int):AS:=⟨mkO (hdG p names rows m 7++[(8,some (.cells 22 [rowS 11 (iL r)] false)),(10,some lpG7),(11,rowO 3 (iL r))]),12,0,0⟩
theorem lpG7_ren {n:Nat}{ρ:U.Ren}{fr:Tr Value}{N:Nat}{ps:List Tmp}{asg bo:Code}(hn:8<n) (h0:ρ 3=3) (h1:ρ 8=8) (e0:N=26) (e1:ps=rangeG.1) (e2:asg=rangeG.2.1) (e3:bo=rangeG.2.2) (g1:Tr.at (pt 1) fr=some (.pointer (some ⟨3,0,none⟩))) (g3:Tr.at (pt 3) fr=some (.pointer (some ⟨8,0,none⟩))):U.RenB n ρ lpG7 (.loop .ready none fr N ps asg bo):=by
 subst e0;subst e1;subst e2;subst e3;exact RenB.lp (.cons g1 (.ptr _ _ _ (by omega) h0) (.cons g3 (.ptr _ _ _ hn h1) .nil))
theorem roundG7 (p:Pg) (names:List ByteArray) (rows:List (List Int)) (m:Nat) (r:List Int) (hr:r.length≤1000) (k a:Int) (xs:List Ex) (th el:List St) (no:Int):SoundRound Tryz.prog 10 [ptS (.mk k a xs th el no)] (stI7 p names rows m r) fun u t=>u=.bool true∧CovS Tryz.prog 11 t (stI7 p names rows m (r++(if k=5 then [a] else []))):=by
 refine SoundRound.run hmixU 0 ?_;by_cases hk:k=5
 ·have g5:(k==5)=true:=by simpa using hk
  rw[if_pos hk];rcases r with _|⟨r0,r⟩
  ·(repeat' ((conv=>whnf);first|refine goD ?_|refine U.drawX_p (D:=U.propX) 6 [] (by decide +kernel) (by decide +kernel) ?_|refine U.lw_c ?_ ?_<;>intro hb))
   (conv=>whnf);exact ⟨rfl,CovS.of ((Cov.renO (fun k=>if k=11 then 13 else k) rfl rfl (bR rfl) zL (fun k hk=>by have:k<11:=hk;rw[if_neg (by omega)]) rfl nlz (.W rfl ((fun c hc=>cleanP_cells p c hc)) rfl (.C rfl (.K rfl rfl (.K rfl rfl .nil)) (.W rfl (fullG_clean _ _) rfl (.C rfl (.cons (.ofRow (by decide) rfl rfl) (.cons (.S rfl rfl rfl) .nil)) (blksO.row rfl rfl (cleanSC _) (.C rfl (.cons (.grown (by decide) rfl (by simp[iL]) (by simp[iL]) (by simp[iL])) .nil) (.cons rfl (lpG7_ren (by decide) rfl rfl rfl rfl rfl rfl rfl rfl) (blksO.grown rfl rfl (cleanIC _) .nil)))))))) .nil))⟩
  ·have hgr:(cellsAll (Value.int .i64 r0::List.map (Value.int .i64) r)).length=((List.map (Value.int .i64) r).length+1)*1:=by
    rw[show Value.int .i64 r0::List.map (Value.int .i64) r=iL (r0::r) from rfl,cellsI,iL_len,List.length_map];simp
   have hg1:(List.map (Value.int .i64) r).length+1+(0+1)≤100000:=by rw[List.length_map];simp at hr;omega
   (repeat' ((conv=>whnf);first|refine goA ?_|(rw[U.ble_f ((List.map (Value.int .i64) r).length+1)];dsimp only;refine U.growRow_p hgr rfl ?_)|refine U.ob_c (grow_ok (by decide +kernel) hg1) ?_|refine goB ?_|refine U.drawX_p (D:=U.propX) 6 [] (by decide +kernel) (by decide +kernel) ?_|refine U.lw_c ?_ ?_<;>intro hb))
   (conv=>whnf);exact ⟨rfl,CovS.of ((Cov.renO (fun k=>if k=11 then 13 else k) rfl rfl (bR rfl) zL (fun k hk=>by have:k<11:=hk;rw[if_neg (by omega)]) rfl nlz (.W rfl ((fun c hc=>cleanP_cells p c hc)) rfl (.C rfl (.K rfl rfl (.K rfl rfl .nil)) (.W rfl (fullG_clean _ _) rfl (.C rfl (.cons (.ofRow (by decide) rfl rfl) (.cons (.S rfl rfl rfl) .nil)) (blksO.row rfl rfl (cleanSC _) (.C rfl (.cons (.grown (by decide) rfl (by simp[iL]) (by simp[iL]) (by simp[iL])) .nil) (.cons rfl (lpG7_ren (by decide) rfl rfl rfl rfl rfl rfl rfl rfl) (blksO.grown rfl ((by rw[iL_app];exact List.flatMap_append)) (cleanIC _) .nil)))))))) .nil))⟩
 ·have g5:(k==5)=false:=by simpa using hk
  rw[if_neg hk,List.append_nil];(repeat' ((conv=>whnf);first|refine goD ?_|refine U.lw_c ?_ ?_<;>intro hb))
  (conv=>whnf);exact ⟨rfl,CovS.of ((Cov.renI rfl rfl rfl rfl (.W rfl ((fun c hc=>cleanP_cells p c hc)) rfl (.C rfl (.K rfl rfl (.K rfl rfl .nil)) (.W rfl (fullG_clean _ _) rfl (.C rfl (.cons (.ofRow (by decide) rfl rfl) (.cons (.S rfl rfl rfl) .nil)) (blksO.row rfl rfl (cleanSC _) (.C rfl (.cons (.ofRow (by decide) rfl rfl) .nil) (.cons rfl (lpG7_ren (by decide) rfl rfl rfl rfl rfl rfl rfl rfl) (blksO.row rfl rfl (cleanIC _) .nil)))))))) .nil))⟩
theorem sites7 (p:Pg) (names:List ByteArray) (rows:List (List Int)) (m:Nat) (hrw:rows.length≤100) (l:List St) (hl:szSs l≤1000) (K:Value->AS->Prop) (hK:K undef ⟨mkO (hdG p names (rows++[callL (allSs l)]) m 7),8,0,0⟩):SoundAt Tryz.prog 120 [imS (encSs l),.pointer (some ⟨3,0,none⟩)] ⟨mkO (hdG p names rows (m+1) 7),8,0,0⟩ K:=by
 refine SoundAt.coverS ?_;refine SoundAt.body hmixU Tryz.func120 rfl rfl rfl 0 ?_;(repeat' ((conv=>whnf);first|refine goA ?_|refine U.SoundAt.body hmixU Tryz.func121 rfl rfl rfl 0 ?_|refine goB ?_|refine U.lw_c ?_ ?_<;>intro hb))
 have hA:=allSs_len l;refine SoundAt.iterQ (l:=10) rfl rfl (within_q l hl) ⟨.imp _ _ fun c hc=>by
  have hc:c∈[imS (encSs l)]:=hc;rw[List.mem_singleton] at hc;subst hc;exact cleanSs _,trivial⟩ (fun vs=>stI7 p names rows (m+1) (rAt (allSs l) vs)) (fun vs=>∃q:List St,vs=ptrS q) (fun _:Unit=>stI7 p names rows (m+1) []) (fun _=>False) ⟨allSs l,rfl⟩ [(0,yl 10),(1,imP (imS (encSs l)) 0)] ?_ rfl ?_ ?_ ?_ ?_ ?_ ?_ ?_
 ·rw[rAt_all];exact Cov.boxF (fun k=>k) 9 (imS (encSs l)) (T:=25) (xs:=[imS (encSs l)]) rfl rfl (bR rfl) zL (fun _ _=>rfl) rfl nlz zL rfl rfl rfl (by simp) (fun c hc=>by rw[List.mem_singleton] at hc;subst hc;exact cleanSs _) (.W rfl ((fun c hc=>cleanP_cells p c hc)) rfl (.C rfl (.K rfl rfl (.K rfl rfl .nil)) (.W rfl (fullG_clean _ _) rfl (.C rfl (.cons (.ofRow (by decide) rfl rfl) (.cons (.S rfl rfl rfl) .nil)) (blksO.row rfl rfl (cleanSC _) (.C rfl (.K rfl rfl .nil) (.cons rfl (lpG7_ren (by decide) rfl rfl rfl rfl rfl rfl rfl rfl) (.none .nil)))))))) (.cons rfl (.yld _ _ (by decide) rfl) (.cons rfl (.ext _ _ ⟨rfl,rfl⟩) .nil))
 ·intro i u hu;rcases i with _|_|i
  ·cases hu;rfl
  ·cases hu;rfl
  ·simp at hu
 ·show 10<11
  decide
 ·intro ts' _
  exact ⟨rfl,rfl,bR rfl,fun k hk=>absurd hk (Nat.not_lt_zero k),rfl⟩
 ·intro b hb;exact hb.elim
 ·rintro x ts' hsuf ⟨q,hq⟩
  obtain ⟨p1,⟨k,a,xs,th,el,no⟩,q1,hpq,rfl,hq1⟩:=suffix_map hsuf;obtain ⟨e1,e2⟩:=rAt_cons hpq hq1 k a;rw[e1,e2];refine (roundG7 p names rows (m+1) (callL p1) ?_ k a xs th el no).mono fun u t _ h=>.inl ⟨h.1,⟨q1,hq1.symm⟩,h.2⟩
  have:=callL_len p1;have h3:=congrArg List.length hpq;simp at h3
  omega
 ·intro _;rw[rAt_nil];generalize callL (allSs l)=r at hK ⊢
  have hq:Nat.ble (rows.length+(0+1)) (rows.length+(m+1))=true:=bLe (by omega)
  have hst:rows.length*1+[rowS 11 (iL r)].length≤(fullG rows (m+1)).length:=by rw[fullG_len];simp
  have hgo:(Nat.ble ((rows.length+(0+1))*24) 140737488355328&&Nat.ble (rows.length+(0+1)) 1000000)=true:=grow_ok (by decide) (by omega)
  rcases r with _|⟨r0,r⟩
  ·(repeat' ((conv=>whnf);first|refine goA ?_|refine U.ob_c hgo ?_|rw[hq]|refine U.storeC_p hst ?_|refine goB ?_|refine U.lw_c ?_ ?_<;>intro hb))
   (conv=>whnf);refine ⟨⟨mkO (hdG p names (rows++[[]]) m 7),8,0,0⟩,CovS.of (Cov.frz (fun k=>k) 11 1 (T:=3) (ys:=iL []) rfl rfl (bR rfl) zL (fun _ _=>rfl) rfl nlz zL rfl rfl iL_1 (cleanIC []) (.W rfl (fun c hc=>cleanP_cells p c hc) rfl (.W rfl (fun c hc=>by simp at hc;rcases hc with rfl|rfl<;>exact .flat _ rfl) rfl (.C rfl (fullG_ren rows [] m (.ext _ _ ⟨rfl,rfl⟩)) (.C rfl (.cons (.ofRow (by decide) rfl rfl) (.cons (.sl _ _ _ _ _ _ _ (by decide) rfl (by simp) (by simp;omega)) .nil)) (blksO.row rfl rfl (cleanSC _) .nil))))) .nil),hK⟩
  ·(repeat' ((conv=>whnf);first|refine goA ?_|refine U.ob_c hgo ?_|rw[hq]|refine U.storeC_p hst ?_|refine goB ?_|refine U.lw_c ?_ ?_<;>intro hb))
   (conv=>whnf);refine ⟨⟨mkO (hdG p names (rows++[r0::r]) m 7),8,0,0⟩,CovS.of (Cov.frz (fun k=>k) 11 1 (T:=3) (ys:=iL (r0::r)) rfl rfl (bR rfl) zL (fun _ _=>rfl) rfl nlz zL rfl rfl iL_1 (cleanIC (r0::r)) (.W rfl (fun c hc=>cleanP_cells p c hc) rfl (.W rfl (fun c hc=>by simp at hc;rcases hc with rfl|rfl<;>exact .flat _ rfl) rfl (.C rfl (fullG_ren rows (r0::r) m (.ext _ _ ⟨rfl,rfl⟩)) (.C rfl (.cons (.ofRow (by decide) rfl rfl) (.cons (.sl _ _ _ _ _ _ _ (by decide) rfl (by simp) (by simp;omega)) .nil)) (blksO.row rfl rfl (cleanSC _) .nil))))) .nil),hK⟩
 ·intro b hb;exact hb.elim
noncomputable def lpG4:U.Blk:=.loop .ready none (mkF [(1,.pointer (some ⟨3,0,none⟩)),(3,.pointer (some ⟨5,0,none⟩))]) 26 rangeG.1 rangeG.2.1 rangeG.2.2
noncomputable def stI4 (p:Pg) (names:List ByteArray) (rows:List (List Int)) (m:Nat) (r:List Int):AS:=⟨mkO (hdG p names rows m 4++[(5,some (.cells 22 [rowS 8 (iL r)] false)),(7,some lpG4),(8,rowO 3 (iL r))]),9,0,0⟩
theorem lpG4_ren {n:Nat}{ρ:U.Ren}{fr:Tr Value}{N:Nat}{ps:List Tmp}{asg bo:Code}(hn:5<n) (h0:ρ 3=3) (h1:ρ 5=5) (e0:N=26) (e1:ps=rangeG.1) (e2:asg=rangeG.2.1) (e3:bo=rangeG.2.2) (g1:Tr.at (pt 1) fr=some (.pointer (some ⟨3,0,none⟩))) (g3:Tr.at (pt 3) fr=some (.pointer (some ⟨5,0,none⟩))):U.RenB n ρ lpG4 (.loop .ready none fr N ps asg bo):=by
 subst e0;subst e1;subst e2;subst e3;exact RenB.lp (.cons g1 (.ptr _ _ _ (by omega) h0) (.cons g3 (.ptr _ _ _ hn h1) .nil))
theorem roundG4 (p:Pg) (names:List ByteArray) (rows:List (List Int)) (m:Nat) (r:List Int) (hr:r.length≤1000) (k a:Int) (xs:List Ex) (th el:List St) (no:Int):SoundRound Tryz.prog 7 [ptS (.mk k a xs th el no)] (stI4 p names rows m r) fun u t=>u=.bool true∧CovS Tryz.prog 8 t (stI4 p names rows m (r++(if k=5 then [a] else []))):=by
 refine SoundRound.run hmixU 0 ?_;by_cases hk:k=5
 ·have g5:(k==5)=true:=by simpa using hk
  rw[if_pos hk];rcases r with _|⟨r0,r⟩
  ·(repeat' ((conv=>whnf);first|refine goD ?_|refine U.drawX_p (D:=U.propX) 6 [] (by decide +kernel) (by decide +kernel) ?_|refine U.lw_c ?_ ?_<;>intro hb))
   (conv=>whnf);exact ⟨rfl,CovS.of ((Cov.renO (fun k=>if k=8 then 10 else k) rfl rfl (bR rfl) zL (fun k hk=>by have:k<8:=hk;rw[if_neg (by omega)]) rfl nlz (.W rfl ((fun c hc=>cleanP_cells p c hc)) rfl (.C rfl (.K rfl rfl (.K rfl rfl .nil)) (.W rfl (fullG_clean _ _) rfl (.C rfl (.cons (.ofRow (by decide) rfl rfl) (.cons (.S rfl rfl rfl) .nil)) (blksO.row rfl rfl (cleanSC _) (.C rfl (.cons (.grown (by decide) rfl (by simp[iL]) (by simp[iL]) (by simp[iL])) .nil) (.cons rfl (lpG4_ren (by decide) rfl rfl rfl rfl rfl rfl rfl rfl) (blksO.grown rfl rfl (cleanIC _) .nil)))))))) .nil))⟩
  ·have hgr:(cellsAll (Value.int .i64 r0::List.map (Value.int .i64) r)).length=((List.map (Value.int .i64) r).length+1)*1:=by
    rw[show Value.int .i64 r0::List.map (Value.int .i64) r=iL (r0::r) from rfl,cellsI,iL_len,List.length_map];simp
   have hg1:(List.map (Value.int .i64) r).length+1+(0+1)≤100000:=by rw[List.length_map];simp at hr;omega
   (repeat' ((conv=>whnf);first|refine goA ?_|(rw[U.ble_f ((List.map (Value.int .i64) r).length+1)];dsimp only;refine U.growRow_p hgr rfl ?_)|refine U.ob_c (grow_ok (by decide +kernel) hg1) ?_|refine goB ?_|refine U.drawX_p (D:=U.propX) 6 [] (by decide +kernel) (by decide +kernel) ?_|refine U.lw_c ?_ ?_<;>intro hb))
   (conv=>whnf);exact ⟨rfl,CovS.of ((Cov.renO (fun k=>if k=8 then 10 else k) rfl rfl (bR rfl) zL (fun k hk=>by have:k<8:=hk;rw[if_neg (by omega)]) rfl nlz (.W rfl ((fun c hc=>cleanP_cells p c hc)) rfl (.C rfl (.K rfl rfl (.K rfl rfl .nil)) (.W rfl (fullG_clean _ _) rfl (.C rfl (.cons (.ofRow (by decide) rfl rfl) (.cons (.S rfl rfl rfl) .nil)) (blksO.row rfl rfl (cleanSC _) (.C rfl (.cons (.grown (by decide) rfl (by simp[iL]) (by simp[iL]) (by simp[iL])) .nil) (.cons rfl (lpG4_ren (by decide) rfl rfl rfl rfl rfl rfl rfl rfl) (blksO.grown rfl ((by rw[iL_app];exact List.flatMap_append)) (cleanIC _) .nil)))))))) .nil))⟩
 ·have g5:(k==5)=false:=by simpa using hk
  rw[if_neg hk,List.append_nil];(repeat' ((conv=>whnf);first|refine goD ?_|refine U.lw_c ?_ ?_<;>intro hb))
  (conv=>whnf);exact ⟨rfl,CovS.of ((Cov.renI rfl rfl rfl rfl (.W rfl ((fun c hc=>cleanP_cells p c hc)) rfl (.C rfl (.K rfl rfl (.K rfl rfl .nil)) (.W rfl (fullG_clean _ _) rfl (.C rfl (.cons (.ofRow (by decide) rfl rfl) (.cons (.S rfl rfl rfl) .nil)) (blksO.row rfl rfl (cleanSC _) (.C rfl (.cons (.ofRow (by decide) rfl rfl) .nil) (.cons rfl (lpG4_ren (by decide) rfl rfl rfl rfl rfl rfl rfl rfl) (blksO.row rfl rfl (cleanIC _) .nil)))))))) .nil))⟩
theorem sites4 (p:Pg) (names:List ByteArray) (rows:List (List Int)) (m:Nat) (hrw:rows.length≤100) (l:List St) (hl:szSs l≤1000) (K:Value->AS->Prop) (hK:K undef ⟨mkO (hdG p names (rows++[callL (allSs l)]) m 4),5,0,0⟩):SoundAt Tryz.prog 120 [imS (encSs l),.pointer (some ⟨3,0,none⟩)] ⟨mkO (hdG p names rows (m+1) 4),5,0,0⟩ K:=by
 refine SoundAt.coverS ?_;refine SoundAt.body hmixU Tryz.func120 rfl rfl rfl 0 ?_;(repeat' ((conv=>whnf);first|refine goA ?_|refine U.SoundAt.body hmixU Tryz.func121 rfl rfl rfl 0 ?_|refine goB ?_|refine U.lw_c ?_ ?_<;>intro hb))
 have hA:=allSs_len l;refine SoundAt.iterQ (l:=7) rfl rfl (within_q l hl) ⟨.imp _ _ fun c hc=>by
  have hc:c∈[imS (encSs l)]:=hc;rw[List.mem_singleton] at hc;subst hc;exact cleanSs _,trivial⟩ (fun vs=>stI4 p names rows (m+1) (rAt (allSs l) vs)) (fun vs=>∃q:List St,vs=ptrS q) (fun _:Unit=>stI4 p names rows (m+1) []) (fun _=>False) ⟨allSs l,rfl⟩ [(0,yl 7),(1,imP (imS (encSs l)) 0)] ?_ rfl ?_ ?_ ?_ ?_ ?_ ?_ ?_
 ·rw[rAt_all];exact Cov.boxF (fun k=>k) 6 (imS (encSs l)) (T:=25) (xs:=[imS (encSs l)]) rfl rfl (bR rfl) zL (fun _ _=>rfl) rfl nlz zL rfl rfl rfl (by simp) (fun c hc=>by rw[List.mem_singleton] at hc;subst hc;exact cleanSs _) (.W rfl ((fun c hc=>cleanP_cells p c hc)) rfl (.C rfl (.K rfl rfl (.K rfl rfl .nil)) (.W rfl (fullG_clean _ _) rfl (.C rfl (.cons (.ofRow (by decide) rfl rfl) (.cons (.S rfl rfl rfl) .nil)) (blksO.row rfl rfl (cleanSC _) (.C rfl (.K rfl rfl .nil) (.cons rfl (lpG4_ren (by decide) rfl rfl rfl rfl rfl rfl rfl rfl) (.none .nil)))))))) (.cons rfl (.yld _ _ (by decide) rfl) (.cons rfl (.ext _ _ ⟨rfl,rfl⟩) .nil))
 ·intro i u hu;rcases i with _|_|i
  ·cases hu;rfl
  ·cases hu;rfl
  ·simp at hu
 ·show 7<8
  decide
 ·intro ts' _
  exact ⟨rfl,rfl,bR rfl,fun k hk=>absurd hk (Nat.not_lt_zero k),rfl⟩
 ·intro b hb;exact hb.elim
 ·rintro x ts' hsuf ⟨q,hq⟩
  obtain ⟨p1,⟨k,a,xs,th,el,no⟩,q1,hpq,rfl,hq1⟩:=suffix_map hsuf;obtain ⟨e1,e2⟩:=rAt_cons hpq hq1 k a;rw[e1,e2];refine (roundG4 p names rows (m+1) (callL p1) ?_ k a xs th el no).mono fun u t _ h=>.inl ⟨h.1,⟨q1,hq1.symm⟩,h.2⟩
  have:=callL_len p1;have h3:=congrArg List.length hpq;simp at h3
  omega
 ·intro _;rw[rAt_nil];generalize callL (allSs l)=r at hK ⊢
  have hq:Nat.ble (rows.length+(0+1)) (rows.length+(m+1))=true:=bLe (by omega)
  have hst:rows.length*1+[rowS 8 (iL r)].length≤(fullG rows (m+1)).length:=by rw[fullG_len];simp
  have hgo:(Nat.ble ((rows.length+(0+1))*24) 140737488355328&&Nat.ble (rows.length+(0+1)) 1000000)=true:=grow_ok (by decide) (by omega)
  rcases r with _|⟨r0,r⟩
  ·(repeat' ((conv=>whnf);first|refine goA ?_|refine U.ob_c hgo ?_|rw[hq]|refine U.storeC_p hst ?_|refine goB ?_|refine U.lw_c ?_ ?_<;>intro hb))
   (conv=>whnf);refine ⟨⟨mkO (hdG p names (rows++[[]]) m 4),5,0,0⟩,CovS.of (Cov.frz (fun k=>k) 8 1 (T:=3) (ys:=iL []) rfl rfl (bR rfl) zL (fun _ _=>rfl) rfl nlz zL rfl rfl iL_1 (cleanIC []) (.W rfl (fun c hc=>cleanP_cells p c hc) rfl (.W rfl (fun c hc=>by simp at hc;rcases hc with rfl|rfl<;>exact .flat _ rfl) rfl (.C rfl (fullG_ren rows [] m (.ext _ _ ⟨rfl,rfl⟩)) (.C rfl (.cons (.ofRow (by decide) rfl rfl) (.cons (.sl _ _ _ _ _ _ _ (by decide) rfl (by simp) (by simp;omega)) .nil)) (blksO.row rfl rfl (cleanSC _) .nil))))) .nil),hK⟩
  ·(repeat' ((conv=>whnf);first|refine goA ?_|refine U.ob_c hgo ?_|rw[hq]|refine U.storeC_p hst ?_|refine goB ?_|refine U.lw_c ?_ ?_<;>intro hb))
   (conv=>whnf);refine ⟨⟨mkO (hdG p names (rows++[r0::r]) m 4),5,0,0⟩,CovS.of (Cov.frz (fun k=>k) 8 1 (T:=3) (ys:=iL (r0::r)) rfl rfl (bR rfl) zL (fun _ _=>rfl) rfl nlz zL rfl rfl iL_1 (cleanIC (r0::r)) (.W rfl (fun c hc=>cleanP_cells p c hc) rfl (.W rfl (fun c hc=>by simp at hc;rcases hc with rfl|rfl<;>exact .flat _ rfl) rfl (.C rfl (fullG_ren rows (r0::r) m (.ext _ _ ⟨rfl,rfl⟩)) (.C rfl (.cons (.ofRow (by decide) rfl rfl) (.cons (.sl _ _ _ _ _ _ _ (by decide) rfl (by simp) (by simp;omega)) .nil)) (blksO.row rfl rfl (cleanSC _) .nil))))) .nil),hK⟩
 ·intro b hb;exact hb.elim
--END GRAPH
def sitesV:Value:=.func (.func 120) ⟨[]⟩ ⟨[.pointer (some ⟨3,0,none⟩)]⟩
theorem sitesRen {n:Nat}{ρ:U.Ren}(hn:3<n) (h3:ρ 3=3):U.RenV n ρ sitesV sitesV:=RenV.fnL RenL.nil (RenL.cons (.ptr _ _ _ hn h3) RenL.nil)
theorem graph_d (p:Pg) (hf:FewP p):DenU Tryz.prog [] 50 [encP p] (encG (graphP p)):=by
 refine denU_of_sound hmixU fun Ts=>SoundAt.body hmixU Tryz.func50 rfl rfl rfl 0 ?_
 obtain ⟨h1,h2,h3,h4,h5⟩:=hf;obtain ⟨sl,arrs,ins,procs,main⟩:=p;dsimp only at h1 h2 h3 h4 h5;obtain ⟨c,hc⟩:∃c,c=procs.length+1:=⟨_,rfl⟩
 have hw:IntKind.i64.wrap (((prL procs).length:Int)+1)=((c:Nat):Int):=by rw[prL_len,hc];exact wadd1 (by omega)
 have hmk:=mk_cap (zs:=[.slice none 0 0]) (n:=c) (b:=24) rfl rfl (by decide) (by omega)
 (repeat' ((conv=>whnf);first|(dsimp only;rw[hw];refine U.ob_c hmk ?_)|refine goA ?_|refine U.spineC_p ?_|refine goB ?_|refine U.lw_c ?_ ?_<;>intro hb))
 (conv=>whnf);refine loop_inv (α:=List Pr13×List Pr13) (fun x=>x.1++x.2=procs) (fun x=>(mkF [(1,.pointer (some ⟨0,0,none⟩)),(2,.pointer (some ⟨1,0,none⟩)),(3,.pointer (some ⟨3,0,none⟩)),(4,sitesV),(15,imS (prL procs)),(16,.int .i64 (prL procs).length),(17,.int .i64 x.1.length)],⟨mkO (hdG ⟨sl,arrs,ins,procs,main⟩ (x.1.map (·.nm)) (x.1.map fun y=>callL (allSs y.body)) (x.2.length+1) 4),5,0,0⟩)) (fun x=>x.2.length) ([],procs) rfl ?_ ?_
 ·exact (Cov.renI rfl rfl rfl rfl (.W rfl ((fun c hc=>cleanP_cells ⟨sl,arrs,ins,procs,main⟩ c hc)) rfl (.C rfl (.K rfl rfl (.K rfl rfl .nil)) (.W rfl (fullG_clean [] (procs.length+1)) ((by rw[Int.toNat_natCast,hc];rfl)) (.C rfl (.K rfl rfl (.cons (.sl _ _ _ _ _ _ _ (by decide) rfl rfl (by rw[Int.toNat_natCast,hc];simp)) .nil)) (.none .nil))))) (.cons rfl (.P rfl) (.cons rfl (.P rfl) (.cons rfl (.P rfl) (.cons rfl (sitesRen (by decide) rfl) (.L rfl (cleanPrL _) rfl (.cons rfl .I (.cons rfl .I .nil))))))))
 rintro ⟨pre,rest⟩ q1
 dsimp only at q1;subst q1;dsimp only;have hpm:∀x∈pre++rest,szSs x.body≤1000:=fun x hx=>by have:=szPrs_mem hx;omega
 rcases rest with _|⟨⟨nm,ps,body⟩,rest⟩
 ·rw[List.append_nil] at *;have zb:=U.lt_no prL_map pre;(repeat' ((conv=>whnf);first|refine goD ?_|refine U.lw_c ?_ ?_<;>intro hb))
  refine sites4 ⟨sl,arrs,ins,pre,main⟩ _ _ 0 (by rw[List.length_map];omega) main (by omega) _ ?_
  (repeat' ((conv=>whnf);first|refine goA ?_|refine U.ob_c (by cases pre<;>rfl) ?_|refine goB ?_|refine U.lw_c ?_ ?_<;>intro hb))
  (conv=>whnf);exact .aggL (.cons (.ofRow zL rfl sL_1 (cleanSC _)) (.cons (.rowL (ys:=gL (pre.map (fun y:Pr13=>callL (allSs y.body))++[callL (allSs main)])) zL rfl (by rw[cellsG,fullG];exact List.append_nil _) gL_1 (gL_len _).symm rL (cleanGC _)) .nil))
 ·have zb:=U.lt_yes prL_map pre (Pr13.mk nm ps body) rest;have zc:=U.blt_yes prL_map pre (Pr13.mk nm ps body) rest;have zn:=U.nth_at prL_map pre (Pr13.mk nm ps body) rest;have zw:=U.len_snoc (pre:=pre) (x:=Pr13.mk nm ps body) (post:=rest) ((by simp at h3 ⊢;omega))
  have hbd:=hpm ⟨nm,ps,body⟩ (by simp)
  rcases pre with _|⟨p0,pre⟩
  ·(repeat' ((conv=>whnf);first|refine goD ?_|refine U.lw_c ?_ ?_<;>intro hb))
   refine SoundAt.cov (args1:=[imS (encSs body),.pointer (some ⟨3,0,none⟩)]) (s1:=⟨mkO (hdG ⟨sl,arrs,ins,_,main⟩ [nm] [] (rest.length+1+1) 7),8,0,0⟩) [(0,imS (encSs body)),(1,.pointer (some ⟨3,0,none⟩))] (Cov.renI rfl rfl rfl rfl (.W rfl ((fun c hc=>cleanP_cells ⟨sl,arrs,ins,_,main⟩ c hc)) rfl (.C rfl (.K rfl rfl (.K rfl rfl .nil)) (.W rfl (fullG_clean _ _) rfl (.C rfl (.cons (.grown (by decide) rfl (by simp[sL]) (by simp[sL]) (by simp[sL])) (.cons (.sl _ _ _ _ _ _ _ (by decide) rfl rfl rfl) .nil)) (blksO.grown rfl rfl (cleanSC _) .nil))))) (.L rfl (cleanSs _) rfl (.cons rfl (.P rfl) .nil))) rfl (fun i u hu=>by
    rcases i with _|_|i
    ·cases hu;rfl
    ·cases hu;rfl
    ·simp at hu) (sites7 ⟨sl,arrs,ins,_,main⟩ [nm] [] (rest.length+1) (by simp) body hbd _ ?_)
   (repeat' ((conv=>whnf);first|refine goD ?_|refine U.lw_c ?_ ?_<;>intro hb))
   (conv=>whnf);refine ⟨([]++[⟨nm,ps,body⟩],rest),by simp,by simp,?_⟩
   simp only[List.map_append,List.map_cons,List.map_nil];exact (Cov.renO (fun k=>if k=4 then 7 else k) rfl rfl (bR rfl) zL (fun k hk=>by have:k<4:=hk;rw[if_neg (by omega)]) rfl nlz (.W rfl ((fun c hc=>cleanP_cells ⟨sl,arrs,ins,_,main⟩ c hc)) rfl (.C rfl (.K rfl rfl (.K rfl rfl .nil)) (.W rfl (fullG_clean _ _) rfl (.C rfl (.cons (.ofRow (by decide) rfl rfl) (.cons (.S rfl rfl rfl) .nil)) (blksO.row rfl rfl (cleanSC _) .nil))))) (.cons rfl (.P rfl) (.cons rfl (.P rfl) (.cons rfl (.P rfl) (.cons rfl (sitesRen (by decide) rfl) (.L rfl (cleanPrL _) rfl (.cons rfl .I (.L rfl (cleanI _) (congrArg (Value.int .i64) (zw.symm)) .nil))))))))
  ·obtain ⟨ns,hns⟩:∃ns,ns=List.map (fun x:Pr13=>x.nm) pre:=⟨_,rfl⟩
   have hnl:ns.length≤19:=by rw[hns,List.length_map];simp at h3;omega
   obtain ⟨rs,hrs⟩:∃rs,rs=List.map (fun y:Pr13=>callL (allSs y.body)) (p0::pre):=⟨_,rfl⟩
   have hrl:rs.length≤20:=by rw[hrs,List.length_map];simp at h3 ⊢;omega
   rw[List.map_cons,← hns,← hrs];have hgr:(cellsAll (Value.string p0.nm::List.map Value.string ns)).length=((List.map Value.string ns).length+1)*1:=by
    rw[show Value.string p0.nm::List.map Value.string ns=sL (p0.nm::ns) from rfl,cellsS,sL_len,List.length_map];simp
   have hg1:(List.map Value.string ns).length+1+(0+1)≤100000:=by rw[List.length_map];omega
   (repeat' ((conv=>whnf);first|refine goA ?_|(rw[U.ble_f ((List.map Value.string ns).length+1)];dsimp only;refine U.growRow_p hgr rfl ?_)|refine U.ob_c (grow_ok (by decide +kernel) hg1) ?_|refine goB ?_|refine U.lw_c ?_ ?_<;>intro hb))
   refine SoundAt.cov (args1:=[imS (encSs body),.pointer (some ⟨3,0,none⟩)]) (s1:=⟨mkO (hdG ⟨sl,arrs,ins,_,main⟩ (p0.nm::ns++[nm]) rs (rest.length+1+1) 7),8,0,0⟩) [(0,imS (encSs body)),(1,.pointer (some ⟨3,0,none⟩))] (Cov.renI rfl rfl rfl rfl (.W rfl ((fun c hc=>cleanP_cells ⟨sl,arrs,ins,_,main⟩ c hc)) rfl (.C rfl (.K rfl rfl (.K rfl rfl .nil)) (.W rfl (fullG_clean _ _) rfl (.C rfl (.cons (.grown (by decide) rfl (by simp[sL]) (by simp[sL]) (by simp[sL])) (.cons (.sl _ _ _ _ _ _ _ (by decide) rfl rfl rfl) .nil)) (blksO.grown rfl ((by rw[sL,List.map_append];exact List.flatMap_append)) (cleanSC _) .nil))))) (.L rfl (cleanSs _) rfl (.cons rfl (.P rfl) .nil))) rfl (fun i u hu=>by
    rcases i with _|_|i
    ·cases hu;rfl
    ·cases hu;rfl
    ·simp at hu) (sites7 ⟨sl,arrs,ins,_,main⟩ (p0.nm::ns++[nm]) rs (rest.length+1) (by omega) body hbd _ ?_)
   (repeat' ((conv=>whnf);first|refine goD ?_|refine U.lw_c ?_ ?_<;>intro hb))
   (conv=>whnf);refine ⟨((p0::pre)++[⟨nm,ps,body⟩],rest),by simp,by simp,?_⟩
   rw[List.map_append,List.map_append,← hrs];simp only[List.map_cons,List.map_nil,← hns];exact (Cov.renO (fun k=>if k=4 then 7 else k) rfl rfl (bR rfl) zL (fun k hk=>by have:k<4:=hk;rw[if_neg (by omega)]) rfl nlz (.W rfl ((fun c hc=>cleanP_cells ⟨sl,arrs,ins,_,main⟩ c hc)) rfl (.C rfl (.K rfl rfl (.K rfl rfl .nil)) (.W rfl (fullG_clean _ _) rfl (.C rfl (.cons (.ofRow (by decide) rfl rfl) (.cons (.S rfl rfl rfl) .nil)) (blksO.row rfl rfl (cleanSC _) .nil))))) (.cons rfl (.P rfl) (.cons rfl (.P rfl) (.cons rfl (.P rfl) (.cons rfl (sitesRen (by decide) rfl) (.L rfl (cleanPrL _) rfl (.cons rfl .I (.L rfl (cleanI _) (congrArg (Value.int .i64) (zw.symm)) .nil))))))))
end Go.Proofs.YtnfppdblcmollaaGreatDoor
