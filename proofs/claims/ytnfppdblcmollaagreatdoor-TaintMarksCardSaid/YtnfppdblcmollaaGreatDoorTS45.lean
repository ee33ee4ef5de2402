
import Derived.Test.YtnfppdblcmollaaGreatDoorTS24
import Derived.Test.YtnfppdblcmollaaGreatDoorTS26
import Derived.Test.YtnfppdblcmollaaGreatDoorTS32
import Derived.Test.YtnfppdblcmollaaGreatDoorTS42
import Derived.Test.YtnfppdblcmollaaGreatDoorTS43
import Derived.Test.YtnfppdblcmollaaGreatDoorTS44
namespace Go.Proofs.YtnfppdblcmollaaGreatDoor
open Go Go.RowKit Go.Sort U
set_option linter.unusedVariables false
set_option linter.unusedSimpArgs false
set_option maxRecDepth 100000
set_option maxHeartbeats 40000000
theorem keyN_at {m:List (Int×Int)}{i:Nat}{z c:Int}(h:m[i]?=some (z,c)):keyN m i=z:=by simp[keyN,h]
theorem keys_perm {m:List (Int×Int)}{x:List Nat}(h1:x.Nodup) (h2:∀i∈x,i<m.length) (h3:∀i,i<m.length->i∈x):(x.map (keyN m)).Perm (m.map (·.1)):=by
 have h4:x.Perm (List.range m.length):=(List.perm_ext_iff_of_nodup h1 List.nodup_range).2 fun i=>⟨fun h=>by simpa using h2 i h,fun h=>h3 i (by simpa using h)⟩
 have h5:(List.range m.length).map (keyN m)=m.map (·.1):=by
  apply List.ext_getElem?;intro i;rcases Nat.lt_or_ge i m.length with h|h
  ·simp[h,keyN]
  ·simp[h]
 rw[← h5];exact h4.map _
noncomputable def rangeA:List Tmp×Code×Code:=rangeF Tryz.f282.body
noncomputable def lpA:U.Blk:=.loop .ready none (mkF [(2,.pointer (some ⟨2,0,none⟩))]) 13 rangeA.1 rangeA.2.1 rangeA.2.2
theorem lpA_ren {n:Nat}{ρ:U.Ren}{fr:Tr Value}{N:Nat}{ps:List Tmp}{asg bo:Code}(hn:2<n) (h0:ρ 2=2) (e0:N=13) (e1:ps=rangeA.1) (e2:asg=rangeA.2.1) (e3:bo=rangeA.2.2) (g1:Tr.at (pt 2) fr=some (.pointer (some ⟨2,0,none⟩))):U.RenB n ρ lpA (.loop .ready none fr N ps asg bo):=by
 subst e0;subst e1;subst e2;subst e3;exact RenB.lp (.cons g1 (.ptr _ _ _ hn h0) .nil)
abbrev kV:Value:=.func (.func 272) ⟨[]⟩ ⟨[.pointer (some ⟨0,0,none⟩)]⟩
theorem sorted_i (m:List (Int×Int)) (hm:m.length≤40000) (hn:(m.map (·.1)).Nodup):DenI Tryz.prog 241 [kV] [.cells 192 [.map (some 1)] false,mB m] (rowS 0 (iL (srtI (m.map (·.1))))) [rowO 3 (iL (srtI (m.map (·.1))))]:=by
 obtain ⟨TT,hTT⟩:∃TT,TT=srtI (m.map (·.1)):=⟨_,rfl⟩
 rw[← hTT];refine denI_of_sound 2 rfl (h:=mkO [(0,some (.cells 192 [.map (some 1)] false)),(1,some (mB m))]) ?_ (SoundAt.body hmixU Tryz.func241 rfl rfl rfl 0 ?_)
 ·intro k b h;have:=mkO_get h;simp only[List.mem_cons,List.not_mem_nil,or_false,Prod.mk.injEq,Option.some.injEq] at this;rcases this with ⟨rfl,rfl⟩|⟨rfl,rfl⟩<;>rfl
 (repeat' ((conv=>whnf);first|refine goA ?_|refine U.SoundAt.body hmixU Tryz.func271 rfl rfl rfl 0 ?_|refine U.SoundAt.body hmixU Tryz.func282 rfl rfl rfl 0 ?_|refine U.SoundAt.body hmixU Tryz.func272 rfl rfl rfl 0 ?_|refine goB ?_|refine U.lw_c ?_ ?_<;>intro hb))
 (conv=>whnf);refine loop_inv (α:=List Nat×List Int) (fun x=>(x.1.Nodup∧∀i∈x.1,i<m.length)∧x.2=x.1.map (keyN m)) (fun x=>(mkF [(0,.func (.yield 3) ⟨[]⟩ ⟨[]⟩),(5,.pointer (some ⟨4,0,none⟩))],⟨mkO [(0,some (.cells 192 [.map (some 1)] false)),(1,some (mB m)),(2,some (.cells 22 [rowS 5 (iL x.2)] false)),(3,some lpA),(4,some (.iter 1 m.length x.1 m.length)),(5,rowO 3 (iL x.2))],6,2,0⟩)) (fun x=>m.length-x.1.length) ([],[]) ⟨⟨.nil,fun i hi=>by cases hi⟩,rfl⟩ (Cov.renO (fun k=>k) rfl rfl (bR rfl) zL (fun _ _=>rfl) rfl (fun k hk=>by have hk:k<2:=hk;rcases (by omega:k=0∨k=1) with rfl|rfl<;>rfl) (.C rfl (.cons (.mp _ _ (by decide) rfl) .nil) (.cons rfl (RenB.mapE rfl rfl rfl (mE_noNm cleanI _)) (.C rfl (.K rfl rfl .nil) (.cons rfl (lpA_ren (by decide) rfl rfl rfl rfl rfl rfl) (.cons rfl (.iter _ _ _ _ _ (by decide) rfl) (.none .nil)))))) (.cons rfl (.yld _ _ (by decide) rfl) (.cons rfl (.P rfl) .nil))) ?_
 rintro ⟨x,R⟩ ⟨⟨i1,i2⟩,hR⟩
 dsimp only at i1 i2 hR;dsimp only;have hb:(bornB m.length m.length (List.range m.length)&&Nat.ble 0 3)=true:=by rw[bornB_range];rfl
 (repeat' ((conv=>whnf);first|refine goA ?_|refine U.ob_c hb ?_|refine goB ?_|refine U.lw_c ?_ ?_<;>intro hb))
 (conv=>whnf);generalize hL:leftI x (List.range m.length) 0=L
 rcases L with _|⟨i0,L⟩
 ·have hall:=left_nil hL;have hpm:=keys_perm i1 i2 hall;have hnx:(x.map (keyN m)).Nodup:=hpm.nodup_iff.2 hn;have hso:=srtI_of hnx hpm;have hxl:x.length≤m.length:=nodup_len i1 i2;rw[← hR,← hTT] at hso
  have hRl:R.length≤40000:=by rw[hR,List.length_map];omega
  clear hpm hall hL i2 i1 hn hnx hR hTT;rcases R with _|⟨r0,R⟩
  ·have e0:srtI []=[]:=by simp[srtI]
   rw[e0] at hso;subst hso;(repeat' ((conv=>whnf);first|refine goD ?_|refine U.SoundAt.u (srtN) clM ?_|refine U.SoundC.u (srtN) clM ?_|refine U.lw_c ?_ ?_<;>intro hb))
   refine ⟨fun _=>2,fun k hk=>Nat.le_refl _,?_,fun k b hk=>?_,fun k k' b b' hk hk' _=>?_⟩
   ·exact .F rfl rfl
   ·rcases k with _|k
    ·simp[rowO,iL] at hk
    ·simp at hk
   ·rcases k with _|k
    ·simp[rowO,iL] at hk
    ·simp at hk
  ·subst hso;(repeat' ((conv=>whnf);first|refine goA ?_|refine sortI_s (es:=r0::R) (b:=5) (by exact congrArg (fun z=>some (U.Blk.cells 3 z true)) (cellsI (r0::R))) (bR rfl) (by simp[iL]) rL (by rw[List.length_map];simp at hRl;omega) ?_|refine goB ?_|refine U.lw_c ?_ ?_<;>intro hb))
   have hsl:(srtI (r0::R)).length=R.length+1:=by rw[srtI_len];simp
   generalize srtI (r0::R)=T at *
   rcases T with _|⟨t0,T⟩
   ·simp at hsl
   refine ⟨fun _=>5,fun k hk=>by show 2≤5;decide,?_,fun k b hk=>?_,fun k k' b b' hk hk' _=>?_⟩
   ·exact .sl _ _ _ _ _ _ _ (by simp) rfl (by simp at hsl;simp[iL,hsl]) (by simp at hsl;simp[iL,hsl])
   ·rcases k with _|k
    ·have hk:rowO 3 (iL (t0::T))=some b:=Option.some.inj hk;replace hk:some (U.Blk.cells 3 (cellsAll (iL (t0::T))) true)=some b:=hk;cases hk;exact ⟨_,rfl,.row _ _ _ _ (cleanIC (t0::T)) (cellsI (t0::T))⟩
    ·simp at hk
   ·rcases k with _|k
    ·rcases k' with _|k'
     ·rfl
     ·simp at hk'
    ·simp at hk
 ·(conv=>whnf);intro i hi;rw[← hL] at hi;obtain ⟨j1,j2⟩:=left_in hi;obtain ⟨⟨kz,cv⟩,hc⟩:∃e,m[i]?=some e:=⟨_,List.getElem?_eq_getElem j1⟩
  have hp:=nthP_at (ek:=Value.int .i64) (ev:=Value.int .i64) hc;have hkz:=keyN_at hc;have hgl:(x++[i]).getLast?=some i:=by simp
  have hxl:x.length+1≤m.length:=nodup_len (l:=i::x) (List.nodup_cons.2 ⟨j2,i1⟩) (fun k hk=>(List.mem_cons.1 hk).elim (fun e=>by rw[e];exact j1) (i2 k))
  have hnx:(x++[i]).Nodup∧∀k∈x++[i],k<m.length:=⟨nd_snoc i1 j2,fun k hk=>by
   rcases List.mem_append.1 hk with hk|hk
   ·exact i2 k hk
   ·rw[List.mem_singleton] at hk;subst hk;exact j1⟩
  have hmap:R++[kz]=(x++[i]).map (keyN m):=by rw[hR];simp[hkz]
  have hRl:R.length≤40000:=by rw[hR,List.length_map];omega
  clear hR hL hi;rcases R with _|⟨r0,R⟩
  ·(repeat' ((conv=>whnf);first|refine goA ?_|refine U.onV_p (nthN_range j1) ?_|refine U.onV_p hp ?_|refine U.onV_p hgl ?_|refine U.onV_p (idxB_range j1) ?_|refine U.ob_c (Nat.beq_refl _) ?_|refine U.SoundRound.run hmixU 0 ?_|refine goB ?_|refine U.lw_c ?_ ?_<;>intro hb))
   (conv=>whnf);exact ⟨(x++[i],[]++[kz]),⟨hnx,hmap⟩,by simp;omega,(Cov.renO (fun k=>if k=5 then 7 else k) rfl rfl (bR rfl) zL (fun k hk=>by have:k<5:=hk;rw[if_neg (by omega)]) rfl (fun k hk=>by have hk:k<2:=hk;rcases (by omega:k=0∨k=1) with rfl|rfl<;>rfl) (.C rfl (.cons (.mp _ _ (by decide) rfl) .nil) (.cons rfl (RenB.mapE rfl rfl rfl (mE_noNm cleanI _)) (.C rfl (.cons (.grown (by decide) rfl (by simp[iL]) (by simp[iL]) (by simp[iL])) .nil) (.cons rfl (lpA_ren (by decide) rfl rfl rfl rfl rfl rfl) (.cons rfl (.iter _ _ _ _ _ (by decide) rfl) (blksO.grown rfl rfl (cleanIC _) .nil)))))) (.cons rfl (.yld _ _ (by decide) rfl) (.cons rfl (.P rfl) .nil)))⟩
  ·have hgr:(cellsAll (Value.int .i64 r0::List.map (Value.int .i64) R)).length=((List.map (Value.int .i64) R).length+1)*1:=by
    rw[show Value.int .i64 r0::List.map (Value.int .i64) R=iL (r0::R) from rfl,cellsI,iL_len,List.length_map];simp
   have hg1:(List.map (Value.int .i64) R).length+1+(0+1)≤100000:=by rw[List.length_map];simp at hRl;omega
   (repeat' ((conv=>whnf);first|refine goA ?_|refine U.onV_p (nthN_range j1) ?_|refine U.onV_p hp ?_|refine U.onV_p hgl ?_|refine U.onV_p (idxB_range j1) ?_|refine U.ob_c (Nat.beq_refl _) ?_|refine U.SoundRound.run hmixU 0 ?_|(rw[U.ble_f ((List.map (Value.int .i64) R).length+1)];dsimp only;refine U.growRow_p hgr rfl ?_)|refine U.ob_c (grow_ok (by decide +kernel) hg1) ?_|refine goB ?_|refine U.lw_c ?_ ?_<;>intro hb))
   (conv=>whnf);exact ⟨(x++[i],(r0::R)++[kz]),⟨hnx,hmap⟩,by simp;omega,(Cov.renO (fun k=>if k=5 then 7 else k) rfl rfl (bR rfl) zL (fun k hk=>by have:k<5:=hk;rw[if_neg (by omega)]) rfl (fun k hk=>by have hk:k<2:=hk;rcases (by omega:k=0∨k=1) with rfl|rfl<;>rfl) (.C rfl (.cons (.mp _ _ (by decide) rfl) .nil) (.cons rfl (RenB.mapE rfl rfl rfl (mE_noNm cleanI _)) (.C rfl (.cons (.grown (by decide) rfl (by simp[iL]) (by simp[iL]) (by simp[iL])) .nil) (.cons rfl (lpA_ren (by decide) rfl rfl rfl rfl rfl rfl) (.cons rfl (.iter _ _ _ _ _ (by decide) rfl) (blksO.grown rfl ((by rw[iL_app];exact List.flatMap_append)) (cleanIC _) .nil)))))) (.cons rfl (.yld _ _ (by decide) rfl) (.cons rfl (.P rfl) .nil)))⟩
def esB:List (Value×Value)->List (Int×Int)->Bool
 |[],[]=>true
 |(u,v)::es,(z,w)::m=>U.valB1 u (.int .i64 z)&&(U.valB1 v (.int .i64 w)&&esB es m)
 |_,_=>false
theorem esB_eq:∀{es:List (Value×Value)}{m:List (Int×Int)},esB es m=true->es=mE (Value.int .i64) (Value.int .i64) m
 |[],[],_=>rfl
 |(u,v)::es,(z,w)::m,h=>by
  simp only[esB,Bool.and_eq_true] at h;obtain ⟨h1,h2,h3⟩:=h;rw[esB_eq h3,U.valB1_eq h1,U.valB1_eq h2];rfl
 |[],_::_,h=>by cases h
 |_::_,[],h=>by cases h
def mapIs (b:Option U.Blk) (m:List (Int×Int)):Bool:=match b with
 |some (.map es bs cl)=>esB es m&&(decide (bs=List.range m.length)&&Nat.beq cl m.length)
 |_=>false
theorem mapIs_eq {b:Option U.Blk}{m:List (Int×Int)}(h:mapIs b m=true):b=some (mB m):=by
 unfold mapIs at h;split at h
 ·rename_i es bs cl;simp only[Bool.and_eq_true,decide_eq_true_eq] at h;obtain ⟨h1,h2,h3⟩:=h;rw[esB_eq h1,h2,Nat.eq_of_beq_eq_true h3]
 ·cases h
def tryS (m:List (Int×Int)) (S:List Int):U.Try:=fun f args s=>match Nat.beq f 241 with
 |true=>(match args with
  |[.func (.func g) ⟨[]⟩ ⟨[.pointer (some ⟨a,0,none⟩)]⟩]=>(match Tr.at (pt a) s.heap with
   |some (.cells T [.map (some b)] false)=>(match Nat.beq g 272&&(Nat.beq T 192&&(mapIs (Tr.at (pt b) s.heap) m&&Nat.ble s.glb s.next)) with
    |true=>some (rowS s.next (iL S),layB s (rowO 3 (iL S)))
    |false=>none)
   |_=>none)
  |_=>none)
 |false=>none
theorem tryS_ok (m:List (Int×Int)) (S:List Int) (hS:srtI (m.map (·.1))=S) (hm:m.length≤40000) (hn:(m.map (·.1)).Nodup):U.TryOk Tryz.prog (tryS m S):=by
 intro f args s u s' h k hk
 unfold tryS at h;split at h
 ·rename_i hf;have hf:=Nat.eq_of_beq_eq_true hf;subst hf;split at h
  ·rename_i g a;split at h
   ·rename_i T b h0;split at h
    ·rename_i hc;simp only[Bool.and_eq_true] at hc;obtain ⟨h1,h2,h3,h4⟩:=hc;have h1:=Nat.eq_of_beq_eq_true h1;have h2:=Nat.eq_of_beq_eq_true h2;have h3:=mapIs_eq h3;subst h1 h2;cases h;have hD:=sorted_i m hm hn
     rw[hS] at hD;refine SoundC.rowI hD (fun i=>if i=0 then a else b) (.cons (RenV.fnL .nil (.cons (.ptr _ _ _ (by show 0<2;decide) rfl) .nil)) .nil) ?_ (bR h4) (cleanIC S) ?_
     ·intro i x hx;rcases i with _|_|i
      ·cases hx;exact ⟨_,h0,.cells _ _ _ _ (.cons (.mp _ _ (by show 1<2;decide) rfl) .nil)⟩
      ·cases hx;exact ⟨_,h3,RenB.mapE rfl rfl rfl (mE_noNm cleanI _)⟩
      ·simp at hx
     ·obtain ⟨hp,n,lo,gl⟩:=s;show Tr.putK (pt n) _ hp _
      rw[Tr.putK_eq];exact hk
    ·cases h
   ·cases h
  ·cases h
 ·cases h
theorem srt12:srtI [1,2]=[1,2]:=by
 unfold srtI;exact List.mergeSort_of_pairwise (by decide)
theorem srt0:srtI []=[]:=by
 unfold srtI;exact List.mergeSort_of_pairwise (by decide)
noncomputable def tryA:U.Try:=U.orTry (tryS [(1,1),(2,1)] [1,2]) (U.orTry (tryS [] []) (U.conTry kwT [⟨8,[encP pgA],.bool true⟩]))
theorem tryA_ok:U.TryOk Tryz.prog tryA:=U.orTry_ok (tryS_ok _ _ srt12 (by decide) (by decide)) (U.orTry_ok (tryS_ok _ _ srt0 (by decide) (by decide)) (U.conTry_ok kw_ok (conR fA rA)))
theorem widthS:U.DenNT Tryz.prog kwT 10 [encP pgA,encE (vE 0)] (.tuple ⟨[.int .u64 10,.bool true]⟩):=U.denNT_shown hmixU kw_ok tryA_ok (chk:=fun u s=>U.newR 8 s u (.tuple ⟨[.int .u64 10,.bool true]⟩)) (fun _ _ h=>U.newR_frz 8 _ _ h) 100000 60 60 fun Ts=>by kernel_rfl
theorem widthX:U.DenNT Tryz.prog kwT 10 [encP pgA,encE (vE 1)] (.tuple ⟨[.int .u64 0,.bool false]⟩):=U.denNT_shown hmixU kw_ok tryA_ok (chk:=fun u s=>U.newR 8 s u (.tuple ⟨[.int .u64 0,.bool false]⟩)) (fun _ _ h=>U.newR_frz 8 _ _ h) 100000 60 60 fun Ts=>by kernel_rfl
def conW:List U.ConT:=[⟨9,[encP pgA],setW [0,1] []⟩,⟨9,[encP pgB],setW [0,1] []⟩,⟨9,[encP pgC],setW [0,2] [0]⟩,⟨9,[encP pgD],setW [0,1] []⟩,⟨11,[encP pgA],.bool true⟩,⟨11,[encP pgB],.bool false⟩,⟨11,[encP pgC],.bool false⟩,⟨11,[encP pgD],.bool true⟩,⟨10,[encP pgA,encE (vE 0)],.tuple ⟨[.int .u64 10,.bool true]⟩⟩,⟨10,[encP pgA,encE (vE 1)],.tuple ⟨[.int .u64 0,.bool false]⟩⟩]
theorem conW_ok:∀c∈conW,U.DenNT Tryz.prog kwT c.f c.args c.u:=fun c hc=>by
 simp only[conW,List.mem_cons,List.not_mem_nil,or_false] at hc;rcases hc with rfl|rfl|rfl|rfl|rfl|rfl|rfl|rfl|rfl|rfl
 ·exact everA
 ·exact everB
 ·exact everC
 ·exact everD
 ·exact blindA
 ·exact blindB
 ·exact blindC
 ·exact blindD
 ·exact widthS
 ·exact widthX
theorem works26_n:U.DenNT Tryz.prog kwT 7 [] (.bool true):=U.denNT_shown hmixU kw_ok (U.conTry_ok kw_ok conW_ok) (chk:=fun u s=>U.newR 8 s u (.bool true)) (fun _ _ h=>U.newR_frz 8 _ _ h) 100000 60 60 fun Ts=>by kernel_rfl
theorem works26_d:DenU Tryz.prog kwT 7 [] (.bool true):=works26_n.u rfl
theorem right_slots {p:Pg}(h:rightP p=true):0≤p.slots∧∀x∈p.ins,0≤x.slot∧x.slot<p.slots:=by
 unfold rightP hedP at h;simp only[Bool.and_eq_true,decide_eq_true_eq] at h;obtain ⟨⟨⟨⟨⟨⟨h1,_⟩,_⟩,_⟩,h2⟩,_⟩,_⟩:=h;refine ⟨h1,fun x hx=>?_⟩
 unfold slotB at h2;simp only[Bool.and_eq_true] at h2;have:=List.all_eq_true.1 h2.1 x.slot (by rw[slotL,List.mem_append];exact .inl (List.mem_map.2 ⟨x,hx,rfl⟩))
 simpa using this
noncomputable abbrev hdS (Ts:Nat->TypeId) (p:Pg) (n:Nat) (cs az:List CZ):List (Nat×Option U.Blk):=[(0,kwBlk Ts),(1,some (.cells 27 (cellsOf (encP p)) false)),(2,rowC cs),(3,rowC az),(4,some (.cells 155 [slC 2 n,slC 3 az.length,.bool false] false))]
theorem new_d (p:Pg) (hf:FewP p) (hs:p.slots≤400000) (hi:∀x∈p.ins,inI x.lo∧inI x.hi):DenU Tryz.prog kwT 24 [encP p] (if rightP p=true then .tuple ⟨[stV (st0 p),.int .i64 0]⟩ else .tuple ⟨[.pointer none,.int .i64 2]⟩):=by
 refine denU_of_soundT kw_ok fun Ts=>SoundAt.body hmixU Tryz.func24 rfl rfl rfl 0 ?_
 have c1:=right_d p hf;have k1:=cleanP p;by_cases hr:rightP p=true
 ·rw[if_pos hr];obtain ⟨r1,r2⟩:=right_slots hr;rw[hr] at c1;clear hr;have ha:=hf.arrs;have hn:=hf.ins;obtain ⟨sl,arrs,ins,procs,main⟩:=p;dsimp only at *;obtain ⟨n,rfl⟩:=Int.eq_ofNat_of_zero_le r1
  have hmk1:=mk_full (zs:=[.int .i64 0,.int .i64 0,.int .u64 0,.int .u64 0,.bool false]) (n:=n) (b:=40) rfl rfl (by decide) (by omega)
  have hmk2:=mk_full (zs:=[.int .i64 0,.int .i64 0,.int .u64 0,.int .u64 0,.bool false]) (n:=(iL arrs).length) (b:=40) rfl rfl (by decide) (by rw[iL_len];omega)
  (repeat' ((conv=>whnf);first|refine U.ob_c hmk1 ?_|refine U.ob_c hmk2 ?_|refine goA ?_|refine U.spineC_p ?_|refine U.SoundAt.uT kw_ok c1 ⟨k1,trivial⟩ (tabK rfl rfl) ?_|refine goB ?_|refine U.drawX_p (D:=U.propX) 10 [] (by decide +kernel) (by decide +kernel) ?_|refine U.lw_c ?_ ?_<;>intro hb))
  (conv=>whnf);obtain ⟨m,hm⟩:∃m,m=arrs.length:=⟨_,rfl⟩
  refine loop_inv (α:=Nat) (fun i=>i≤2) (fun i=>(mkF [(1,.pointer (some ⟨1,0,none⟩)),(4,.pointer (some ⟨4,0,none⟩)),(30,.agg ⟨[slC 2 n,slC 3 (List.replicate m zeroC).length]⟩),(31,.int .i64 i)],⟨mkO (hdS Ts ⟨(n:Int),arrs,ins,procs,main⟩ n (List.replicate n zeroC) (List.replicate m zeroC)),5,1,1⟩)) (fun i=>2-i) 0 (by decide) ?_ ?_
  ·subst hm;exact (Cov.renO (fun k=>k) rfl rfl (bR rfl) (bR rfl) (fun _ _=>rfl) rfl (kp1 (by rfl)) (.W rfl (kwClean) rfl (.W rfl ((fun c hc=>cleanP_cells ⟨(n:Int),arrs,ins,procs,main⟩ c hc)) rfl (.W rfl ((cleanCC _)) ((rep_zero n)) (.W rfl ((cleanCC _)) ((by rw[rep_zero,iL_len];rfl)) (.C rfl (.cons (.S rfl rfl rfl) (.cons (.sl _ _ _ _ _ _ _ (by decide) rfl (by simp[iL_len]) (by simp[iL_len])) (.K rfl rfl .nil))) .nil))))) (.cons rfl (.P rfl) (.cons rfl (.P rfl) (.cons rfl (RenV.aggL (RenL.cons (.sl _ _ _ _ _ _ _ (by decide) rfl rfl rfl) (RenL.cons (.sl _ _ _ _ _ _ _ (by decide) rfl (by simp[iL_len]) (by simp[iL_len])) RenL.nil))) (.cons rfl .I .nil)))))
  have hrl:(List.replicate m zeroC).length=m:=List.length_replicate;intro i hi2;have h3:i=2∨i=0∨i=1:=by omega
  rcases h3 with rfl|rfl|rfl
  ·(repeat' ((conv=>whnf);first|refine goD ?_|refine U.lw_c ?_ ?_<;>intro hb))
   (conv=>whnf);refine loop_inv (α:=List In13×List In13) (fun x=>x.1++x.2=ins) (fun x=>(mkF [(1,.pointer (some ⟨1,0,none⟩)),(4,.pointer (some ⟨4,0,none⟩)),(47,imS (inL ins)),(48,.int .i64 (inL ins).length),(49,.int .i64 x.1.length)],⟨mkO (hdS Ts ⟨(n:Int),arrs,ins,procs,main⟩ n (x.1.foldl putIn (List.replicate n zeroC)) (List.replicate m zeroC)),5,1,1⟩)) (fun x=>x.2.length) ([],ins) rfl (Cov.slots rL ⟨rfl,rfl,rfl,rfl,rfl,trivial⟩) ?_
   rintro ⟨pre,rest⟩ q1
   dsimp only at q1;subst q1;dsimp only;obtain ⟨cs,hcs⟩:∃cs,cs=pre.foldl putIn (List.replicate n zeroC):=⟨_,rfl⟩
   have hcl:cs.length=n:=by rw[hcs,foldIn_len,List.length_replicate]
   rcases rest with _|⟨⟨nm,slot,lo,hh,sec⟩,rest⟩
   ·rw[List.append_nil] at *;rw[← hcs];have zb:=U.lt_no inL_map pre;(repeat' ((conv=>whnf);first|refine goD ?_|refine U.lw_c ?_ ?_<;>intro hb))
    (conv=>whnf);rw[show stV (st0 ⟨(n:Int),arrs,pre,procs,main⟩)=stV ⟨cs,List.replicate m zeroC,false⟩ by rw[hcs,hm];rfl]
    exact .tupL (.cons (FrzV.boxL (bR rfl) rfl (.cons (.rowL (ys:=cL cs) (bR rfl) rfl rfl (cL_5 cs) (by rw[cL_len,hcl]) rL (cleanCC _)) (.cons (.rowL (ys:=cL (List.replicate m zeroC)) (bR rfl) rfl rfl (cL_5 _) (cL_len _).symm rL (cleanCC _)) (.cons (.clean _ (.flat _ rfl)) .nil)))) (.cons (.clean _ (.flat _ rfl)) .nil))
   ·have zb:=U.lt_yes inL_map pre (In13.mk nm slot lo hh sec) rest;have zc:=U.blt_yes inL_map pre (In13.mk nm slot lo hh sec) rest;have zn:=U.nth_at inL_map pre (In13.mk nm slot lo hh sec) rest;have zw:=U.len_snoc (pre:=pre) (x:=In13.mk nm slot lo hh sec) (post:=rest) ((by simp at hn ⊢;omega))
    obtain ⟨r3,r4⟩:=r2 ⟨nm,slot,lo,hh,sec⟩ (by simp)
    obtain ⟨i1,i2⟩:=hi ⟨nm,slot,lo,hh,sec⟩ (by simp)
    dsimp only at r3 r4 i1 i2;obtain ⟨j,rfl⟩:=Int.eq_ofNat_of_zero_le r3;have hjn:j<n:=by omega
    have g2:Nat.blt j n=true:=bLe hjn;have hrg:=range_d lo hh i1 i2;have e1:(pre++[In13.mk nm (j:Int) lo hh sec]).foldl putIn (List.replicate n zeroC)=cs.set j ⟨rangeZ lo hh,sec⟩:=by rw[List.foldl_append,← hcs];rfl
    rw[← hcs];generalize rangeZ lo hh=zz at hrg e1
    have hst:0+j*5+(cellsOf (encC ⟨zz,sec⟩)).length≤(cellsAll (cL cs)).length:=by rw[cellsC_len,hcl];show 0+j*5+5≤_;omega
    have hrp:=cells_put (l:=cs) (j:=j) (by omega) ⟨zz,sec⟩
    (repeat' ((conv=>whnf);first|refine goA ?_|refine U.storeC_p hst ?_|refine goB ?_|refine U.SoundAt.u (hrg) clM ?_|refine U.SoundC.u (hrg) clM ?_|refine U.drawX_p (D:=U.propX) 15 [] (by decide +kernel) (by decide +kernel) ?_|refine U.lw_c ?_ ?_<;>intro hb))
    (conv=>whnf);refine ⟨(pre++[⟨nm,(j:Int),lo,hh,sec⟩],rest),by simp,by simp,?_⟩
    rw[e1];exact (Cov.renO (fun k=>k) rfl rfl (bR rfl) (bR rfl) (fun _ _=>rfl) rfl (kp1 (by rfl)) (.W rfl (kwClean) rfl (.W rfl ((fun c hc=>cleanP_cells ⟨(n:Int),arrs,_,procs,main⟩ c hc)) rfl (.W rfl (cleanCC _) ((by rw[Nat.zero_add];exact hrp.symm)) (.W rfl (cleanCC _) rfl (.C rfl (.cons (.S rfl rfl rfl) (.cons (.S rfl rfl rfl) (.K rfl rfl .nil))) .nil))))) (.cons rfl (.P rfl) (.cons rfl (.P rfl) (.L rfl (cleanInL _) rfl (.cons rfl .I (.L rfl (cleanI _) (congrArg (Value.int .i64) (zw.symm)) .nil))))))
  ·(repeat' ((conv=>whnf);first|refine goD ?_|refine U.lw_c ?_ ?_<;>intro hb))
   (conv=>whnf);refine loop_inv (α:=Nat) (fun j=>j≤n) (fun j=>(mkF [(1,.pointer (some ⟨1,0,none⟩)),(4,.pointer (some ⟨4,0,none⟩)),(30,.agg ⟨[slC 2 n,slC 3 (List.replicate m zeroC).length]⟩),(31,.int .i64 0),(6,slC 2 n),(35,.int .i64 n),(36,.int .i64 j)],⟨mkO (hdS Ts ⟨(n:Int),arrs,ins,procs,main⟩ n (List.replicate n zeroC) (List.replicate m zeroC)),5,1,1⟩)) (fun j=>n-j) 0 zL (Cov.slots rL ⟨rfl,rfl,rfl,rfl,rfl,rfl,rfl,trivial⟩) ?_
   intro j hj;by_cases hjn:j<n
   ·have g1:decide ((j:Int)<(n:Int))=true:=decide_eq_true (by omega)
    have g2:Nat.blt j n=true:=bLe hjn;have hjw:=wadd1 (i:=j) (by omega)
    have hst:0+j*5+(cellsOf (encC zeroC)).length≤(cellsAll (cL (List.replicate n zeroC))).length:=by rw[cellsC_len,List.length_replicate];show 0+j*5+5≤_;omega
    have hrp:=rep_put (n:=n) (j:=j) (by omega)
    (repeat' ((conv=>whnf);first|refine goA ?_|refine U.storeC_p hst ?_|refine goB ?_|refine U.SoundAt.u (one0_d) clM ?_|refine U.SoundC.u (one0_d) clM ?_|refine U.lw_c ?_ ?_<;>intro hb))
    (conv=>whnf);exact ⟨j+1,hjn,Nat.sub_succ_lt_self _ _ hjn,(Cov.renO (fun k=>k) rfl rfl (bR rfl) (bR rfl) (fun _ _=>rfl) rfl (kp1 (by rfl)) (.W rfl (kwClean) rfl (.W rfl ((fun c hc=>cleanP_cells ⟨(n:Int),arrs,ins,procs,main⟩ c hc)) rfl (.W rfl (cleanCC _) ((by rw[Nat.zero_add];exact hrp.symm)) (.W rfl (cleanCC _) rfl (.C rfl (.cons (.S rfl rfl rfl) (.cons (.S rfl rfl rfl) (.K rfl rfl .nil))) .nil))))) (.cons rfl (.P rfl) (.cons rfl (.P rfl) (.cons rfl (RenV.aggL (RenL.cons (.sl _ _ _ _ _ _ _ (by decide) rfl rfl rfl) (RenL.cons (.sl _ _ _ _ _ _ _ (by decide) rfl rfl rfl) RenL.nil))) (.cons rfl .I (.cons rfl (.S rfl rfl rfl) (.cons rfl .I (.L rfl (cleanI _) (congrArg (Value.int .i64) (hjw.symm)) .nil))))))))⟩
   ·have g1:decide ((j:Int)<(n:Int))=false:=decide_eq_false (by omega)
    (repeat' ((conv=>whnf);first|refine goD ?_|refine U.lw_c ?_ ?_<;>intro hb))
    (conv=>whnf);exact ⟨0+1,by decide,by decide,(Cov.renO (fun k=>k) rfl rfl (bR rfl) (bR rfl) (fun _ _=>rfl) rfl (kp1 (by rfl)) (.W rfl (kwClean) rfl (.W rfl ((fun c hc=>cleanP_cells ⟨(n:Int),arrs,ins,procs,main⟩ c hc)) rfl (.W rfl (cleanCC _) rfl (.W rfl (cleanCC _) rfl (.C rfl (.cons (.S rfl rfl rfl) (.cons (.S rfl rfl rfl) (.K rfl rfl .nil))) .nil))))) (.cons rfl (.P rfl) (.cons rfl (.P rfl) (.cons rfl (RenV.aggL (RenL.cons (.sl _ _ _ _ _ _ _ (by decide) rfl rfl rfl) (RenL.cons (.sl _ _ _ _ _ _ _ (by decide) rfl rfl rfl) RenL.nil))) (.cons rfl .I .nil)))))⟩
  ·(repeat' ((conv=>whnf);first|refine goD ?_|refine U.lw_c ?_ ?_<;>intro hb))
   (conv=>whnf);refine loop_inv (α:=Nat) (fun j=>j≤(List.replicate m zeroC).length) (fun j=>(mkF [(1,.pointer (some ⟨1,0,none⟩)),(4,.pointer (some ⟨4,0,none⟩)),(30,.agg ⟨[slC 2 n,slC 3 (List.replicate m zeroC).length]⟩),(31,.int .i64 1),(6,slC 3 (List.replicate m zeroC).length),(35,.int .i64 (List.replicate m zeroC).length),(36,.int .i64 j)],⟨mkO (hdS Ts ⟨(n:Int),arrs,ins,procs,main⟩ n (List.replicate n zeroC) (List.replicate m zeroC)),5,1,1⟩)) (fun j=>(List.replicate m zeroC).length-j) 0 zL (Cov.slots rL ⟨rfl,rfl,rfl,rfl,rfl,rfl,rfl,trivial⟩) ?_
   intro j hj;by_cases hjn:j<(List.replicate m zeroC).length
   ·have g1:decide ((j:Int)<((List.replicate m zeroC).length:Int))=true:=decide_eq_true (by omega)
    have g2:Nat.blt j (List.replicate m zeroC).length=true:=bLe hjn;have hjw:=wadd1 (i:=j) (by omega)
    have hst:0+j*5+(cellsOf (encC zeroC)).length≤(cellsAll (cL (List.replicate m zeroC))).length:=by rw[cellsC_len,List.length_replicate];show 0+j*5+5≤_;omega
    have hrp:=rep_put (n:=m) (j:=j) (by omega)
    (repeat' ((conv=>whnf);first|refine goA ?_|refine U.storeC_p hst ?_|refine goB ?_|refine U.SoundAt.u (one0_d) clM ?_|refine U.SoundC.u (one0_d) clM ?_|refine U.lw_c ?_ ?_<;>intro hb))
    (conv=>whnf);exact ⟨j+1,hjn,Nat.sub_succ_lt_self _ _ hjn,(Cov.renO (fun k=>k) rfl rfl (bR rfl) (bR rfl) (fun _ _=>rfl) rfl (kp1 (by rfl)) (.W rfl (kwClean) rfl (.W rfl ((fun c hc=>cleanP_cells ⟨(n:Int),arrs,ins,procs,main⟩ c hc)) rfl (.W rfl (cleanCC _) rfl (.W rfl (cleanCC _) ((by rw[Nat.zero_add];exact hrp.symm)) (.C rfl (.cons (.S rfl rfl rfl) (.cons (.S rfl rfl rfl) (.K rfl rfl .nil))) .nil))))) (.cons rfl (.P rfl) (.cons rfl (.P rfl) (.cons rfl (RenV.aggL (RenL.cons (.sl _ _ _ _ _ _ _ (by decide) rfl rfl rfl) (RenL.cons (.sl _ _ _ _ _ _ _ (by decide) rfl rfl rfl) RenL.nil))) (.cons rfl .I (.cons rfl (.S rfl rfl rfl) (.cons rfl .I (.L rfl (cleanI _) (congrArg (Value.int .i64) (hjw.symm)) .nil))))))))⟩
   ·have g1:decide ((j:Int)<((List.replicate m zeroC).length:Int))=false:=decide_eq_false (by omega)
    (repeat' ((conv=>whnf);first|refine goD ?_|refine U.lw_c ?_ ?_<;>intro hb))
    (conv=>whnf);exact ⟨1+1,by decide,by decide,(Cov.renO (fun k=>k) rfl rfl (bR rfl) (bR rfl) (fun _ _=>rfl) rfl (kp1 (by rfl)) (.W rfl (kwClean) rfl (.W rfl ((fun c hc=>cleanP_cells ⟨(n:Int),arrs,ins,procs,main⟩ c hc)) rfl (.W rfl (cleanCC _) rfl (.W rfl (cleanCC _) rfl (.C rfl (.cons (.S rfl rfl rfl) (.cons (.S rfl rfl rfl) (.K rfl rfl .nil))) .nil))))) (.cons rfl (.P rfl) (.cons rfl (.P rfl) (.cons rfl (RenV.aggL (RenL.cons (.sl _ _ _ _ _ _ _ (by decide) rfl rfl rfl) (RenL.cons (.sl _ _ _ _ _ _ _ (by decide) rfl rfl rfl) RenL.nil))) (.cons rfl .I .nil)))))⟩
 ·rw[if_neg hr];have hr:rightP p=false:=by simpa using hr
  rw[hr] at c1;(repeat' ((conv=>whnf);first|refine goA ?_|refine U.SoundAt.uT kw_ok c1 ⟨k1,trivial⟩ (tabK rfl rfl) ?_|refine goB ?_|refine U.lw_c ?_ ?_<;>intro hb))
  (conv=>whnf);exact .same (.flat _ rfl) rfl
end Go.Proofs.YtnfppdblcmollaaGreatDoor
