
import Derived.Test.YtcihknonfcldeaaDoorKT30
import Derived.Test.YtcihknonfcldeaaDoorKT35
namespace Go.Proofs.YtcihknonfcldeaaDoor
open Go Go.RowKit Go.Sort U
set_option linter.unusedVariables false
set_option linter.unusedSimpArgs false
set_option maxRecDepth 100000
set_option maxHeartbeats 40000000
theorem cleanTab (l:List EnD):NoNm (tabV l):=.imp _ _ fun c hc=>by
 simp only[cellsOf,List.mem_cons,List.not_mem_nil,or_false] at hc;rcases hc with rfl|rfl|rfl|rfl|rfl|rfl|rfl
 ·exact cleanEns l
 ·exact .imm _
 all_goals exact .flat _ rfl
theorem sl3_ok (xs:List Value) (z:Nat):(Nat.ble 0 xs.length&&Nat.ble xs.length xs.length&&Nat.ble xs.length xs.length&&headB z 0 xs)=true:=by
 have h:Nat.ble xs.length xs.length=true:=bLe rL;rw[h,bLe zL];rfl
theorem sl3_all (xs:List Value):List.take (xs.length-0) (List.drop 0 xs)=xs:=by simp
theorem enL_oneC (l:List EnD):(Nat.beq (cellsAll (encEns l)).length ((encEns l).length*9)&&(cellsAll (encEns l)).all Value.oneCell')=true:=by
 rw[cellsEn_len,encEns,List.length_map,Bool.and_eq_true];refine ⟨Nat.beq_refl _,List.all_eq_true.2 fun x hx=>?_⟩
 obtain ⟨v,hv,hc⟩:=List.mem_flatMap.1 hx;obtain ⟨e,_,rfl⟩:=List.mem_map.1 hv;simp only[encEn,cellsOf,List.mem_cons,List.not_mem_nil,or_false] at hc;rcases hc with rfl|rfl|rfl|rfl|rfl|rfl|rfl|rfl|rfl<;>rfl
theorem enNth (pre rest:List EnD) (e:EnD) (j:Nat) (hj:j<9):(cellsAll (encEns (pre++e::rest)))[0+pre.length*9+j]?=(cellsOf (encEn e))[j]?:=by
 have h1:cellsAll (encEns (pre++e::rest))=cellsAll (encEns pre)++(cellsOf (encEn e)++cellsAll (encEns rest)):=by
  rw[encEns,List.map_append,cellsAll,List.flatMap_append,List.map_cons,List.flatMap_cons];rfl
 rw[h1,List.getElem?_append_right (by rw[cellsEn_len];omega),cellsEn_len,show 0+pre.length*9+j-pre.length*9=j by omega,List.getElem?_append_left (by exact hj)]
noncomputable abbrev stCt (l:List EnD):AS:=⟨mkO [(0,some (.cells 73 (cellsAll (encEns l)) true))],1,0,0⟩
theorem cut_d (l:List EnD) (hl:l.length≤300) (hp:∀e∈l,e.ps.length≤40):DenU Tryd.prog [] 54 [tabV l,.int .i64 0,.int .i64 (encEns l).length] (imS (encEns l)):=by
 refine denU_of_soundT rfl fun Ts=>SoundAt.body hmixU Tryd.func54 rfl rfl rfl 0 ?_
 rcases l with _|⟨e0,l⟩
 ·(repeat' ((conv=>whnf);first|refine goD ?_|refine U.lw_c ?_ ?_<;>intro hb))
  (conv=>whnf);refine loop_inv (α:=Unit) (fun _=>True) (fun _=>(mkF [(7,.slice none 0 0),(19,.int .i64 0),(20,.int .i64 0)],⟨mkO [],0,0,0⟩)) (fun _=>0) () trivial (Cov.renI rfl rfl rfl rfl .nil (.K rfl rfl rfl (.K rfl rfl rfl (.K rfl rfl rfl .nil)))) ?_
  rintro _ _
  (repeat' ((conv=>whnf);first|refine goD ?_|refine U.lw_c ?_ ?_<;>intro hb))
  (conv=>whnf);exact .nil
 ·have hg:0+((List.map encEn l).length+1)≤100000:=by rw[List.length_map];simp at hl;omega
  (repeat' ((conv=>whnf);first|refine goA ?_|refine U.ob_c (sl3_ok _ _) ?_|refine U.ob_c (enL_oneC (e0::l)) ?_|(rw[sl3_all (encEns (e0::l))])|refine U.ob_c (grow_ok (by decide +kernel) hg) ?_|refine goB ?_|refine U.lw_c ?_ ?_<;>intro hb))
  (conv=>whnf);refine loop_inv (α:=List EnD×List EnD) (fun x=>x.1++x.2=e0::l) (fun x=>(mkF [(7,.slice (some ⟨0,0,none⟩) (encEns (e0::l)).length (encEns (e0::l)).length),(19,.int .i64 (encEns (e0::l)).length),(20,.int .i64 x.1.length)],stCt (e0::l))) (fun x=>x.2.length) ([],e0::l) rfl (Cov.renI rfl rfl rfl rfl (.W rfl (cleanEnCells _) rfl .nil) (.cons rfl (.sl _ _ _ _ _ _ _ (by decide) rfl ((by simp[encEns])) ((by simp[encEns]))) (.L rfl (cleanI _) (congrArg (Value.int .i64) ((by simp[encEns]))) (.K rfl rfl rfl .nil)))) ?_
  rintro ⟨pre,rest⟩ p1
  dsimp only at p1;rw[← p1];dsimp only;rcases rest with _|⟨e,rest⟩
  ·rw[List.append_nil];have zb:=U.lt_no encEns_map pre;(repeat' ((conv=>whnf);first|refine goD ?_|refine U.lw_c ?_ ?_<;>intro hb))
   (conv=>whnf);exact .rowL (bR rfl) rfl rfl (cellsEn_9 _) rfl rL (cleanEnCells _)
  ·have zb:=U.lt_yes encEns_map pre (e) rest;have zc:=U.blt_yes encEns_map pre (e) rest;have zn:=U.nth_at encEns_map pre (e) rest;have zw:=U.len_snoc (pre:=pre) (x:=e) (post:=rest) ((by rw[p1];omega))
   have hps:=hp e (by rw[← p1];simp)
   have h6:=enNth pre rest e 6 (by decide)
   have hnt:nth (cellsAll (encEns (pre++e::rest))) (0+pre.length*9+6)=some (imS (sL e.ps)):=by rw[nth_eq,h6];rfl
   have hst:0+pre.length*9+6+1≤(cellsAll (encEns (pre++e::rest))).length:=by rw[cellsEn_len,List.length_append,List.length_cons];omega
   obtain ⟨k,nm,no,lo,hi,sz,ps,ln,cl⟩:=e;dsimp only at hnt hps;rcases ps with _|⟨s0,ps⟩
   ·(repeat' ((conv=>whnf);first|refine goA ?_|(conv in (nth (cellsAll _) _)=>(change nth _ (0+pre.length*9+6);rw[hnt]))|refine U.storeC_p hst ?_|refine goB ?_|refine U.lw_c ?_ ?_<;>intro hb))
    (conv=>whnf);refine ⟨(pre++[⟨k,nm,no,lo,hi,sz,[],ln,cl⟩],rest),by simp,by simp,?_⟩
    (refine Cov.frzA (fun k=>k) _ rfl rfl (bR rfl) zL (fun _ _=>rfl) rfl nlz (frzsO.nil) rfl ?_ ?_;exact (.C rfl (RenL.put (cleanEnCells _) (h6.trans rfl) (RenV.frz .nil rfl)) .nil);exact (.cons rfl (.S rfl rfl rfl) (.cons rfl .I (.L rfl (cleanI _) (congrArg (Value.int .i64) (zw.symm)) .nil))))
   ·have hg2:0+((List.map Value.string ps).length+1)≤100000:=by rw[List.length_map];simp at hps;omega
    (repeat' ((conv=>whnf);first|refine goA ?_|(conv in (nth (cellsAll _) _)=>(change nth _ (0+pre.length*9+6);rw[hnt]))|refine U.storeC_p hst ?_|refine U.ob_c (sL_oneC (s0::ps)) ?_|refine U.ob_c (grow_ok (by decide +kernel) hg2) ?_|refine goB ?_|refine U.lw_c ?_ ?_<;>intro hb))
    (conv=>whnf);refine ⟨(pre++[⟨k,nm,no,lo,hi,sz,s0::ps,ln,cl⟩],rest),by simp,by simp,?_⟩
    (refine Cov.frzA (fun k=>k) _ rfl rfl (bR rfl) zL (fun _ _=>rfl) rfl nlz (frzsO.cons (k:=1) (bR rfl) rfl (frzsO.nil)) rfl ?_ ?_;exact (.C rfl (RenL.put (cleanEnCells _) (h6.trans rfl) (RenV.frz (FrzV.rowL zL rfl rfl (sL_11 _) (by show 0+((List.map Value.string ps).length+1)=(List.map Value.string (s0::ps)).length;rw[List.length_map,List.length_map,List.length_cons];omega) rL (cleanSC _)) rfl)) .nil);exact (.cons rfl (.S rfl rfl rfl) (.cons rfl .I (.L rfl (cleanI _) (congrArg (Value.int .i64) (zw.symm)) .nil))))
theorem all_d (l:List EnD) (hl:l.length≤300) (hp:∀e∈l,e.ps.length≤40):DenU Tryd.prog [] 36 [tabV l] (imS (encEns l)):=by
 refine denU_of_soundT rfl fun Ts=>SoundAt.body hmixU Tryd.func36 rfl rfl rfl 0 ?_
 have c:=cut_d l hl hp;have hc:=cleanTab l;(repeat' ((conv=>whnf);first|refine goD ?_|refine U.SoundAt.u (c) clN ?_|refine U.SoundC.u (c) clN ?_|refine U.lw_c ?_ ?_<;>intro hb))
 (conv=>whnf);exact .clean _ (cleanEns l)
theorem scalars_d (l:List EnD):DenU Tryd.prog [] 37 [tabV l] (.int .i64 (cntEn l 0:Nat)):=by
 refine denU_of_soundT rfl fun Ts=>SoundAt.body hmixU Tryd.func37 rfl rfl rfl 0 ?_
 (repeat' ((conv=>whnf);first|refine goA ?_|refine U.SoundAt.body hmixU Tryd.func55 rfl rfl rfl 0 ?_|refine goB ?_|refine U.lw_c ?_ ?_<;>intro hb))
 (conv=>whnf);exact .same (.flat _ rfl) rfl
def ownM (la:Nat) (ps:List ByteArray):MSI:=(mOf ps).map fun x=>(x.1,(la:Int)+x.2)
theorem ownM_fst (la:Nat) (ps:List ByteArray):(ownM la ps).map (·.1)=ps:=by
 rw[ownM,List.map_map];exact mOf_fst ps
theorem ownM_snoc (la:Nat) (ps:List ByteArray) (a:ByteArray):ownM la (ps++[a])=ownM la ps++[(a,((la+ps.length:Nat):Int))]:=by
 rw[ownM,mOf_snoc,List.map_append];simp[ownM]
structure FlD where
 pl:List Int
 fi:List Int
 mp:List MSI
 la:Nat
def stepF (i:Nat) (s:FlD) (e:EnD):FlD:=if e.k=4 then ⟨s.pl++[(i:Int)],s.fi++[(s.la:Int)],s.mp++[ownM s.la e.ps],s.la+e.ps.length⟩ else s
def foldF:FlD->Nat->List EnD->FlD
 |s,_,[]=>s
 |s,i,e::l=>foldF (stepF i s e) (i+1) l
def fl0 (l:List EnD):FlD:=⟨[],[],[],cntEn l 0⟩
def flE (l:List EnD):FlD:=foldF (fl0 l) 0 l
def imMs (mp:List MSI):List Value:=mp.map fun m=>imM (mE .string (.int .i64) m)
theorem imMs_cells (mp:List MSI):cellsAll (imMs mp)=imMs mp:=by
 induction mp with
 |nil=>rfl
 |cons m mp ih =>
  rw[imMs,List.map_cons,cellsAll,List.flatMap_cons];rw[imMs,cellsAll] at ih;rw[ih];rfl
theorem cleanMs (mp:List MSI):∀c∈cellsAll (imMs mp),NoNm c:=fun c hc=>by
 rw[imMs_cells] at hc;obtain ⟨m,_,rfl⟩:=List.mem_map.1 hc;exact .imm _
abbrev bNm (l:List EnD) (s:FlD) (a b c:Nat):U.Blk:=.cells 69 [tabV l,imS (encEns l),rowS a (iL s.pl),rowS b (iL s.fi),rowS c (imMs s.mp),.int .i64 (s.la:Nat)] false
abbrev bNm0:U.Blk:=.cells 69 [.pointer none,.slice none 0 0,.slice none 0 0,.slice none 0 0,.slice none 0 0,.int .i64 0] false
noncomputable abbrev stF0 (Ts:Nat->TypeId) (p:APr):AS:=⟨mkO [(0,kwBlk Ts),(1,some (bPr p)),(2,some bF),(3,some bF),(4,some bNm0)],5,1,1⟩
noncomputable abbrev stFl (Ts:Nat->TypeId) (p:APr) (l pre:List EnD) (s:FlD):AS:=⟨mkO [(0,kwBlk Ts),(1,some (bPr p)),(2,some bF),(3,some bF),(4,some (bNm l s 6 7 8)),(5,some (mS (mOf (pre.map (·.nm))))),(6,rowO 3 (iL s.pl)),(7,rowO 3 (iL s.fi)),(8,rowO 81 (imMs s.mp))],9,1,1⟩
noncomputable abbrev stFi (Ts:Nat->TypeId) (p:APr) (l pre:List EnD) (s:FlD) (e:EnD) (q:List ByteArray):AS:=⟨mkO [(0,kwBlk Ts),(1,some (bPr p)),(2,some bF),(3,some bF),(4,some (bNm l s 6 7 8)),(5,some (mS (mOf ((pre++[e]).map (·.nm))))),(6,rowO 3 (iL s.pl)),(7,rowO 3 (iL s.fi)),(8,rowO 81 (imMs s.mp)),(9,some (.cells 73 (cellsOf (encEn e)) false)),(10,some (mS (ownM s.la q)))],11,1,1⟩
theorem renMapE {n:Nat}{ρ:Ren}(es:List EnD) (e:EnD) (q:Int) (hq:q=(es.length:Int)):RenB n ρ (mS (mOf ((es++[e]).map (·.nm)))) (.map (mE Value.string (Value.int .i64) (mOf (es.map (·.nm)))++[(.string e.nm,.int .i64 q)]) (List.range (mOf (es.map (·.nm))).length++[(mOf (es.map (·.nm))).length]) (mOf (es.map (·.nm))).length.succ):=by
 have h:mOf ((es++[e]).map (·.nm))=mOf (es.map (·.nm))++[(e.nm,(es.length:Int))]:=by
  rw[List.map_append,List.map_singleton,mOf_snoc,List.length_map]
 unfold mS;rw[h];refine .mapE ?_ ?_ ?_ (mE_noNm (fun _=>.flat _ rfl) _)
 ·rw[← mE_snoc,hq]
 ·rw[List.length_append,List.length_singleton,range_snoc]
 ·rw[List.length_append,List.length_singleton]
theorem renOwn {n:Nat}{ρ:Ren}(la:Nat) (ps:List ByteArray) (a:ByteArray) (q:Int) (hq:q=((la+ps.length:Nat):Int)):RenB n ρ (mS (ownM la (ps++[a]))) (.map (mE Value.string (Value.int .i64) (ownM la ps)++[(.string a,.int .i64 q)]) (List.range (ownM la ps).length++[(ownM la ps).length]) (ownM la ps).length.succ):=by
 unfold mS;rw[ownM_snoc];refine .mapE ?_ ?_ ?_ (mE_noNm (fun _=>.flat _ rfl) _)
 ·rw[← mE_snoc,hq]
 ·rw[List.length_append,List.length_singleton,range_snoc]
 ·rw[List.length_append,List.length_singleton]
theorem iL_snocC (l:List Int) (x:Int):cellsAll (iL (l++[x]))=cellsAll (iL l)++[.int .i64 x]:=by
 rw[cellsI,cellsI,iL,List.map_append];rfl
theorem imMs_snocC (l:List MSI) (x:MSI):cellsAll (imMs (l++[x]))=cellsAll (imMs l)++[imM (mE .string (.int .i64) x)]:=by
 rw[imMs_cells,imMs_cells,imMs,List.map_append];rfl
theorem renMsSnoc {n:Nat}{ρ:Ren}{l:List MSI}{x:MSI}{y:Value}(h:RenV n ρ (imM (mE .string (.int .i64) x)) y):RenL n ρ (imMs (l++[x])) (cellsAll (imMs l)++[y]):=by
 rw[← imMs_cells (l++[x]),imMs_snocC];exact RenL.app (RenL.refl (cleanMs l)) (.cons h .nil)
theorem mob {a b c n x z:Nat}(hx:x=n*z):(Nat.beq a a&&Nat.beq b b&&Nat.beq c c&&Nat.beq n n&&Nat.beq x (n*z))=true:=by simp[hx]
theorem waddN {a b:Nat}(h:a+b<9223372036854775807):IntKind.i64.wrap ((a:Int)+(b:Int))=((a+b:Nat):Int):=by
 rw[IntKind.wrap_i64];omega
def mpE (l:List EnD):List MSI:=(flE l).mp++[mOf (l.map (·.nm))]
noncomputable abbrev stF2 (Ts:Nat->TypeId) (p:APr) (l:List EnD) (s:FlD):AS:=⟨mkO [(0,kwBlk Ts),(1,some (bPr p)),(2,some bF),(3,some bF),(4,some (.cells 69 [tabV l,imS (encEns l),rowS 5 (iL s.pl),rowS 6 (iL s.fi),.slice (some ⟨7,0,none⟩) (s.mp++[mOf (l.map (·.nm))]).length (s.mp++[mOf (l.map (·.nm))]).length,.int .i64 (s.la:Nat)] false)),(5,rowO 3 (iL s.pl)),(6,rowO 3 (iL s.fi)),(7,some (.cells 81 (imMs (s.mp++[mOf (l.map (·.nm))])) true))],8,1,1⟩
noncomputable abbrev stF1 (Ts:Nat->TypeId) (p:APr) (l:List EnD):AS:=stF2 Ts p l (flE l)
theorem fill_at (Ts:Nat->TypeId) (p:APr) (l:List EnD) (hl:l.length≤300) (hp:∀e∈l,e.ps.length≤40) (ok:OkEs l) (hnd:∀e∈l,e.k=4->e.ps.Nodup):SoundAt Tryd.prog 17 [.pointer (some ⟨4,0,none⟩),tabV l] (stF0 Ts p) fun u t=>u=.tuple ⟨[]⟩∧t=stF1 Ts p l:=by
 refine SoundAt.coverV (SoundAt.body hmixU Tryd.func17 rfl rfl rfl 0 ?_);have c1:=all_d l hl hp;have c2:=scalars_d l;have hc:=cleanTab l;have hes:=cleanEns l;(repeat' ((conv=>whnf);first|refine goD ?_|refine U.SoundAt.u (c1) clN ?_|refine U.SoundAt.u (c2) clN ?_|refine U.SoundC.u (c1) clN ?_|refine U.SoundC.u (c2) clN ?_|refine U.lw_c ?_ ?_<;>intro hb))
 (conv=>whnf);refine loop_inv (α:=List EnD×List EnD×FlD) (fun x=>x.1++x.2.1=l∧foldF x.2.2 x.1.length x.2.1=flE l∧x.2.2.la≤300+40*x.1.length∧x.2.2.pl.length=x.2.2.fi.length∧x.2.2.pl.length=x.2.2.mp.length∧x.2.2.pl.length≤x.1.length) (fun x=>(mkF [(0,.pointer (some ⟨4,0,none⟩)),(4,.map (some 5)),(33,imS (encEns l)),(34,.int .i64 (encEns l).length),(35,.int .i64 x.1.length)],stFl Ts p l x.1 x.2.2)) (fun x=>x.2.1.length) ([],l,fl0 l) ⟨rfl,rfl,Nat.le_trans (Nat.le_trans (List.length_filter_le ..) hl) (by simp),rfl,rfl,Nat.le_refl _⟩ (Cov.renO (fun k=>k) rfl rfl (bR rfl) (bR rfl) (fun _ _=>rfl) rfl (kp1 (by rfl)) (.W rfl (kwClean) rfl (.W rfl (cleanPr_cells _) rfl (.C rfl (.K rfl rfl (.K rfl rfl (.K rfl rfl .nil))) (.C rfl (.K rfl rfl (.K rfl rfl (.K rfl rfl .nil))) (.C rfl (.L (hc) rfl (.L (hes) rfl (.K rfl rfl (.K rfl rfl (.K rfl rfl (.K rfl rfl .nil)))))) (.cons rfl (.map _ _ _ (mS_noNm _)) (.none (.none (.none .nil))))))))) (.cons rfl (.P rfl) (.cons rfl (.mp _ _ (by decide) rfl) (.L rfl (hes) rfl (.cons rfl .I (.cons rfl .I .nil)))))) ?_
 rintro ⟨pre,rest,s⟩ ⟨p1,p2,p3,p4,p5,p6⟩
 dsimp only at p1 p2 p3 p4 p5 p6;rcases rest with _|⟨e,rest⟩
 ·rw[List.append_nil] at p1;subst p1;have p2:s=flE pre:=p2;have zb:=U.lt_no encEns_map pre;obtain ⟨pl,fi,mp,la⟩:=s;dsimp only at p3 p4 p5 p6;rcases mp with _|⟨m0,mp⟩
  ·(repeat' ((conv=>whnf);first|refine goD ?_|refine U.lw_c ?_ ?_<;>intro hb))
   (conv=>whnf);refine ⟨.tuple ⟨[]⟩,stF1 Ts p pre,?_,rfl,rfl⟩;rw[show stF1 Ts p pre=stF2 Ts p pre ⟨pl,fi,[],la⟩ by rw[p2]]
   (refine Cov.frzA (fun k=>if k=5 then 6 else if k=6 then 7 else if k=7 then 10 else k) _ rfl rfl (bR rfl) (bR rfl) (fun k hk=>by have:k<5:=hk;rw[if_neg (by omega)];rw[if_neg (by omega)];rw[if_neg (by omega)]) rfl (kp1 (by rfl)) (frzsO.cons (k:=5) (bR rfl) rfl (frzsO.nil)) rfl ?_ ?_;exact (.W rfl (kwClean) rfl (.W rfl (cleanPr_cells _) rfl (.C rfl (.K rfl rfl (.K rfl rfl (.K rfl rfl .nil))) (.C rfl (.K rfl rfl (.K rfl rfl (.K rfl rfl .nil))) (.C rfl (.L (hc) rfl (.L (hes) rfl (.cons (.ofRow (by decide) rfl rfl) (.cons (.ofRow (by decide) rfl rfl) (.cons (.sl _ _ _ _ _ _ _ (by decide) rfl (by simp[imMs]) (by simp[imMs])) (.K rfl rfl .nil)))))) (blksO.row rfl rfl (cleanIC _) (blksO.row rfl rfl (cleanIC _) (.C rfl (.cons (RenV.frz (FrzV.mapR (bR rfl) rfl rfl (mS_flat _)) rfl) .nil) .nil))))))));exact (.K rfl rfl rfl .nil))
  ·have hgr3:(cellsAll (imM (mE Value.string (Value.int IntKind.i64) m0)::List.map (fun m=>imM (mE Value.string (Value.int IntKind.i64) m)) mp)).length=((List.map (fun m=>imM (mE Value.string (Value.int IntKind.i64) m)) mp).length+1)*1:=by
    rw[show imM (mE Value.string (Value.int IntKind.i64) m0)::List.map (fun m=>imM (mE Value.string (Value.int IntKind.i64) m)) mp=imMs (m0::mp) from rfl,imMs_cells,imMs,List.length_map,List.length_map,Nat.mul_one];rfl
   have hg3:(List.map (fun m=>imM (mE Value.string (Value.int IntKind.i64) m)) mp).length+1+(0+1)≤100000:=by rw[List.length_map];simp at p5 p6 hl;omega
   (repeat' ((conv=>whnf);first|refine goA ?_|(rw[U.ble_f ((List.map (fun m=>imM (mE Value.string (Value.int IntKind.i64) m)) mp).length+1)];dsimp only;refine U.growRow_p hgr3 rfl ?_)|refine U.ob_c (grow_ok (by decide +kernel) hg3) ?_|refine goB ?_|refine U.lw_c ?_ ?_<;>intro hb))
   (conv=>whnf);refine ⟨.tuple ⟨[]⟩,stF1 Ts p pre,?_,rfl,rfl⟩;rw[show stF1 Ts p pre=stF2 Ts p pre ⟨pl,fi,(m0::mp),la⟩ by rw[p2]]
   (refine Cov.frzA (fun k=>if k=5 then 6 else if k=6 then 7 else if k=7 then 10 else k) _ rfl rfl (bR rfl) (bR rfl) (fun k hk=>by have:k<5:=hk;rw[if_neg (by omega)];rw[if_neg (by omega)];rw[if_neg (by omega)]) rfl (kp1 (by rfl)) (frzsO.cons (k:=5) (bR rfl) rfl (frzsO.nil)) rfl ?_ ?_;exact (.W rfl (kwClean) rfl (.W rfl (cleanPr_cells _) rfl (.C rfl (.K rfl rfl (.K rfl rfl (.K rfl rfl .nil))) (.C rfl (.K rfl rfl (.K rfl rfl (.K rfl rfl .nil))) (.C rfl (.L (hc) rfl (.L (hes) rfl (.cons (.ofRow (by decide) rfl rfl) (.cons (.ofRow (by decide) rfl rfl) (.cons (.sl _ _ _ _ _ _ _ (by decide) rfl (by simp[imMs]) (by simp[imMs])) (.K rfl rfl .nil)))))) (blksO.row rfl rfl (cleanIC _) (blksO.row rfl rfl (cleanIC _) (.C rfl (renMsSnoc (l:=m0::mp) (RenV.frz (FrzV.mapR (bR rfl) rfl rfl (mS_flat _)) rfl)) .nil))))))));exact (.K rfl rfl rfl .nil))
 ·subst p1;have zb:=U.lt_yes encEns_map pre (e) rest;have zc:=U.blt_yes encEns_map pre (e) rest;have zn:=U.nth_at encEns_map pre (e) rest;have zw:=U.len_snoc (pre:=pre) (x:=e) (post:=rest) ((by omega))
  have hps:=hp e (by simp)
  have hn4:=hnd e (by simp)
  have hz:e.nm∉(mOf (pre.map (·.nm))).map (·.1):=by
   rw[mOf_fst];have:=ok.nd;rw[List.map_append,List.map_cons] at this;have h2:=(List.nodup_append.1 this).2.2;intro hm;exact h2 _ hm _ (by simp) rfl
  have hf1:=sS_ok.none (ev:=Value.int .i64) hz;obtain ⟨k,nm,no,lo,hi,sz,ps,ln,cl⟩:=e;dsimp only at hps hn4 hf1;by_cases k4:k=4
  ·have g4:(k != 4)=false:=by rw[k4];rfl
   have kps:=cleanSL ps;(repeat' ((conv=>whnf);first|refine goA ?_|refine U.onV_p hf1 ?_|refine U.natC_p ?_|refine goB ?_|refine U.lw_c ?_ ?_<;>intro hb))
   (conv=>whnf);refine loop_inv (α:=List ByteArray×List ByteArray) (fun x=>x.1++x.2=ps) (fun x=>(mkF [(0,.pointer (some ⟨4,0,none⟩)),(4,.map (some 5)),(5,.int .i64 pre.length),(6,.pointer (some ⟨9,0,none⟩)),(7,.map (some 10)),(33,imS (encEns (pre++⟨k,nm,no,lo,hi,sz,ps,ln,cl⟩::rest))),(34,.int .i64 (encEns (pre++⟨k,nm,no,lo,hi,sz,ps,ln,cl⟩::rest)).length),(35,.int .i64 pre.length),(52,imS (sL ps)),(53,.int .i64 (sL ps).length),(54,.int .i64 x.1.length)],stFi Ts p (pre++⟨k,nm,no,lo,hi,sz,ps,ln,cl⟩::rest) pre s ⟨k,nm,no,lo,hi,sz,ps,ln,cl⟩ x.1)) (fun x=>x.2.length) ([],ps) rfl (Cov.renO (fun k=>k) rfl rfl (bR rfl) (bR rfl) (fun _ _=>rfl) rfl (kp1 (by rfl)) (.W rfl (kwClean) rfl (.W rfl (cleanPr_cells _) rfl (.C rfl (.K rfl rfl (.K rfl rfl (.K rfl rfl .nil))) (.C rfl (.K rfl rfl (.K rfl rfl (.K rfl rfl .nil))) (.C rfl (.L (hc) rfl (.L (hes) rfl (.cons (.ofRow (by decide) rfl rfl) (.cons (.ofRow (by decide) rfl rfl) (.cons (.ofRow (by decide) rfl rfl) (.K rfl rfl .nil)))))) (.cons rfl (renMapE pre ⟨k,nm,no,lo,hi,sz,ps,ln,cl⟩ _ rfl) (blksO.row rfl rfl (cleanIC _) (blksO.row rfl rfl (cleanIC _) (blksO.row rfl rfl (cleanMs _) (.C rfl (.K rfl rfl (.K rfl rfl (.K rfl rfl (.K rfl rfl (.K rfl rfl (.K rfl rfl (.L (kps) rfl (.K rfl rfl (.K rfl rfl .nil))))))))) (.cons rfl (.map _ _ _ (mS_noNm _)) .nil))))))))))) (.cons rfl (.P rfl) (.cons rfl (.mp _ _ (by decide) rfl) (.cons rfl .I (.cons rfl (.P rfl) (.cons rfl (.mp _ _ (by decide) rfl) (.L rfl (hes) rfl (.cons rfl .I (.cons rfl .I (.L rfl (kps) rfl (.cons rfl .I (.cons rfl .I .nil)))))))))))) ?_
   rintro ⟨q1,q2⟩ q3
   dsimp only at q3;rcases q2 with _|⟨a,q2⟩
   ·rw[List.append_nil] at q3;subst q3;dsimp only;have yb:=U.lt_no sL_map q1;obtain ⟨pl,fi,mp,la⟩:=s;dsimp only at p3 p4 p5 p6;have hw3:=waddN (a:=la) (b:=(sL q1).length) (by rw[sL,List.length_map];simp at hps p3 hl;omega)
    rw[show (sL q1).length=q1.length from List.length_map ..] at hw3;have hw4:IntKind.i64.wrap ((la:Int)+((sL q1).length:Int))=((la+q1.length:Nat):Int):=by rw[show (sL q1).length=q1.length from List.length_map ..];exact hw3
    rcases pl with _|⟨i0,pl⟩
    ·rcases fi with _|⟨i1,fi⟩
     ·rcases mp with _|⟨m0,mp⟩
      ·(repeat' ((conv=>whnf);first|refine goA ?_|refine U.natC_p ?_|refine goB ?_|refine U.drawX_m (D:=U.propX) 26 [0,1,2] (by decide +kernel) (by decide +kernel) (by decide +kernel) ?_|refine U.drawX_p (D:=U.propX) 10 [] (by decide +kernel) (by decide +kernel) ?_|refine U.lw_c ?_ ?_<;>intro hb))
       (conv=>whnf);refine ⟨(pre++[⟨k,nm,no,lo,hi,sz,q1,ln,cl⟩],rest,(⟨[]++[(pre.length:Int)],[]++[(la:Int)],[]++[ownM la q1],la+q1.length⟩:FlD)),⟨by simp,by rw[← p2,foldF,List.length_append];unfold stepF;rw[if_pos k4];rfl,by simp at p3 hps ⊢;omega,by simp at p4 ⊢<;>omega,by simp at p5 ⊢<;>omega,by simp at p6 ⊢<;>omega⟩,by simp,?_⟩
       (refine Cov.frzA (fun k=>if k=6 then 12 else if k=7 then 14 else if k=8 then 16 else k) _ rfl rfl (bR rfl) (bR rfl) (fun k hk=>by have:k<6:=hk;rw[if_neg (by omega)];rw[if_neg (by omega)];rw[if_neg (by omega)]) rfl (kp1 (by rfl)) (frzsO.cons (k:=10) (bR rfl) rfl (frzsO.nil)) rfl ?_ ?_;exact (.W rfl (kwClean) rfl (.W rfl (cleanPr_cells _) rfl (.C rfl (.K rfl rfl (.K rfl rfl (.K rfl rfl .nil))) (.C rfl (.K rfl rfl (.K rfl rfl (.K rfl rfl .nil))) (.C rfl (.L (hc) rfl (.L (hes) rfl (.cons (.grown (by decide) rfl (by simp[iL]) (by simp[iL]) (by simp[iL])) (.cons (.grown (by decide) rfl (by simp[iL]) (by simp[iL]) (by simp[iL])) (.cons (.grown (by decide) rfl (by simp[imMs]) (by simp[imMs]) (by simp[imMs])) (.L (cleanI _) (congrArg (Value.int .i64) (hw4.symm)) .nil)))))) (.cons rfl (.map _ _ _ (mS_noNm _)) (blksO.grownL rfl (.K rfl rfl .nil) (blksO.grownL rfl (.K rfl rfl .nil) (blksO.grownL rfl (.cons (RenV.frz (FrzV.mapR (bR rfl) rfl rfl (mS_flat _)) rfl) .nil) .nil)))))))));exact (.cons rfl (.P rfl) (.cons rfl (.mp _ _ (by decide) rfl) (.L rfl (hes) rfl (.cons rfl .I (.L rfl (cleanI _) (congrArg (Value.int .i64) (zw.symm)) .nil))))))
      ·simp at p5
     ·simp at p4
    ·rcases fi with _|⟨i1,fi⟩
     ·simp at p4
     ·rcases mp with _|⟨m0,mp⟩
      ·simp at p5
      ·have hgr1:(cellsAll (Value.int IntKind.i64 i0::List.map (Value.int IntKind.i64) pl)).length=((List.map (Value.int IntKind.i64) pl).length+1)*1:=by
        rw[show Value.int IntKind.i64 i0::List.map (Value.int IntKind.i64) pl=iL (i0::pl) from rfl,cellsI,iL_len,List.length_map,Nat.mul_one];rfl
       have hgr2:(cellsAll (Value.int IntKind.i64 i1::List.map (Value.int IntKind.i64) fi)).length=((List.map (Value.int IntKind.i64) fi).length+1)*1:=by
        rw[show Value.int IntKind.i64 i1::List.map (Value.int IntKind.i64) fi=iL (i1::fi) from rfl,cellsI,iL_len,List.length_map,Nat.mul_one];rfl
       have hgr3:(cellsAll (imM (mE Value.string (Value.int IntKind.i64) m0)::List.map (fun m=>imM (mE Value.string (Value.int IntKind.i64) m)) mp)).length=((List.map (fun m=>imM (mE Value.string (Value.int IntKind.i64) m)) mp).length+1)*1:=by
        rw[show imM (mE Value.string (Value.int IntKind.i64) m0)::List.map (fun m=>imM (mE Value.string (Value.int IntKind.i64) m)) mp=imMs (m0::mp) from rfl,imMs_cells,imMs,List.length_map,List.length_map,Nat.mul_one];rfl
       have hg1:(List.map (Value.int IntKind.i64) pl).length+1+(0+1)≤100000:=by rw[List.length_map];simp at p6 hl;omega
       have hg2:(List.map (Value.int IntKind.i64) fi).length+1+(0+1)≤100000:=by rw[List.length_map];simp at p4 p6 hl;omega
       have hg3:(List.map (fun m=>imM (mE Value.string (Value.int IntKind.i64) m)) mp).length+1+(0+1)≤100000:=by rw[List.length_map];simp at p5 p6 hl;omega
       (repeat' ((conv=>whnf);first|refine goA ?_|refine U.natC_p ?_|refine U.ob_c (mob hgr1) ?_|refine U.ob_c (mob hgr2) ?_|refine U.ob_c (mob hgr3) ?_|(rw[U.catC_eq])|(rw[U.ble_f ((List.map (Value.int IntKind.i64) pl).length+1)];dsimp only;refine U.growRow_p hgr1 rfl ?_)|(rw[U.ble_f ((List.map (Value.int IntKind.i64) fi).length+1)];dsimp only;refine U.growRow_p hgr2 rfl ?_)|(rw[U.ble_f ((List.map (fun m=>imM (mE Value.string (Value.int IntKind.i64) m)) mp).length+1)];dsimp only;refine U.growRow_p hgr3 rfl ?_)|refine U.ob_c (grow_ok (by decide +kernel) hg1) ?_|refine U.ob_c (grow_ok (by decide +kernel) hg2) ?_|refine U.ob_c (grow_ok (by decide +kernel) hg3) ?_|refine goB ?_|refine U.drawX_m (D:=U.propX) 26 [0,1,2] (by decide +kernel) (by decide +kernel) (by decide +kernel) ?_|refine U.drawX_p (D:=U.propX) 10 [] (by decide +kernel) (by decide +kernel) ?_|refine U.lw_c ?_ ?_<;>intro hb))
       (conv=>whnf);refine ⟨(pre++[⟨k,nm,no,lo,hi,sz,q1,ln,cl⟩],rest,(⟨(i0::pl)++[(pre.length:Int)],(i1::fi)++[(la:Int)],(m0::mp)++[ownM la q1],la+q1.length⟩:FlD)),⟨by simp,by rw[← p2,foldF,List.length_append];unfold stepF;rw[if_pos k4];rfl,by simp at p3 hps ⊢;omega,by simp at p4 ⊢<;>omega,by simp at p5 ⊢<;>omega,by simp at p6 ⊢<;>omega⟩,by simp,?_⟩
       (refine Cov.frzA (fun k=>if k=6 then 12 else if k=7 then 14 else if k=8 then 16 else k) _ rfl rfl (bR rfl) (bR rfl) (fun k hk=>by have:k<6:=hk;rw[if_neg (by omega)];rw[if_neg (by omega)];rw[if_neg (by omega)]) rfl (kp1 (by rfl)) (frzsO.cons (k:=10) (bR rfl) rfl (frzsO.nil)) rfl ?_ ?_;exact (.W rfl (kwClean) rfl (.W rfl (cleanPr_cells _) rfl (.C rfl (.K rfl rfl (.K rfl rfl (.K rfl rfl .nil))) (.C rfl (.K rfl rfl (.K rfl rfl (.K rfl rfl .nil))) (.C rfl (.L (hc) rfl (.L (hes) rfl (.cons (.grown (by decide) rfl (by simp[iL]) (by simp[iL]) (by simp[iL])) (.cons (.grown (by decide) rfl (by simp[iL]) (by simp[iL]) (by simp[iL])) (.cons (.grown (by decide) rfl (by simp[imMs]) (by simp[imMs]) (by simp[imMs])) (.L (cleanI _) (congrArg (Value.int .i64) (hw4.symm)) .nil)))))) (.cons rfl (.map _ _ _ (mS_noNm _)) (blksO.grownL rfl (by rw[iL_snocC];exact RenL.app (RenL.refl (cleanIC ((i0::pl)))) (.K rfl rfl .nil)) (blksO.grownL rfl (by rw[iL_snocC];exact RenL.app (RenL.refl (cleanIC ((i1::fi)))) (.K rfl rfl .nil)) (blksO.grownL rfl (by rw[imMs_snocC];exact RenL.app (RenL.refl (cleanMs ((m0::mp)))) (.cons (RenV.frz (FrzV.mapR (bR rfl) rfl rfl (mS_flat _)) rfl) .nil)) .nil)))))))));exact (.cons rfl (.P rfl) (.cons rfl (.mp _ _ (by decide) rfl) (.L rfl (hes) rfl (.cons rfl .I (.L rfl (cleanI _) (congrArg (Value.int .i64) (zw.symm)) .nil))))))
   ·subst q3;dsimp only;have yb:=U.lt_yes sL_map q1 (a) q2;have yc:=U.blt_yes sL_map q1 (a) q2;have yn:=U.nth_at sL_map q1 (a) q2;have yw:=U.len_snoc (pre:=q1) (x:=a) (post:=q2) ((by omega))
    have hz2:a∉(ownM s.la q1).map (·.1):=by
     rw[ownM_fst];have:=hn4 k4;have h2:=(List.nodup_append.1 this).2.2;intro hm;exact h2 _ hm _ (by simp) rfl
    have hf2:=sS_ok.none (ev:=Value.int .i64) hz2;have hw2:=waddN (a:=s.la) (b:=q1.length) (by simp at hps p3 hl;omega)
    (repeat' ((conv=>whnf);first|refine goA ?_|refine U.onV_p hf2 ?_|refine U.natC_p ?_|refine goB ?_|refine U.lw_c ?_ ?_<;>intro hb))
    (conv=>whnf);exact ⟨(q1++[a],q2),by simp,by simp,(Cov.renO (fun k=>k) rfl rfl (bR rfl) (bR rfl) (fun _ _=>rfl) rfl (kp1 (by rfl)) (.W rfl (kwClean) rfl (.W rfl (cleanPr_cells _) rfl (.C rfl (.K rfl rfl (.K rfl rfl (.K rfl rfl .nil))) (.C rfl (.K rfl rfl (.K rfl rfl (.K rfl rfl .nil))) (.C rfl (.L (hc) rfl (.L (hes) rfl (.cons (.ofRow (by decide) rfl rfl) (.cons (.ofRow (by decide) rfl rfl) (.cons (.ofRow (by decide) rfl rfl) (.K rfl rfl .nil)))))) (.cons rfl (.map _ _ _ (mS_noNm _)) (blksO.row rfl rfl (cleanIC _) (blksO.row rfl rfl (cleanIC _) (blksO.row rfl rfl (cleanMs _) (.C rfl (.K rfl rfl (.K rfl rfl (.K rfl rfl (.K rfl rfl (.K rfl rfl (.K rfl rfl (.L (kps) rfl (.K rfl rfl (.K rfl rfl .nil))))))))) (.cons rfl (renOwn s.la q1 a _ hw2) .nil))))))))))) (.cons rfl (.P rfl) (.cons rfl (.mp _ _ (by decide) rfl) (.cons rfl .I (.cons rfl (.P rfl) (.cons rfl (.mp _ _ (by decide) rfl) (.L rfl (hes) rfl (.cons rfl .I (.cons rfl .I (.L rfl (kps) rfl (.cons rfl .I (.L rfl (cleanI _) (congrArg (Value.int .i64) (yw.symm)) .nil))))))))))))⟩
  ·have g4:(k != 4)=true:=by simpa using k4
   (repeat' ((conv=>whnf);first|refine goA ?_|refine U.onV_p hf1 ?_|refine U.natC_p ?_|refine goB ?_|refine U.lw_c ?_ ?_<;>intro hb))
   (conv=>whnf);exact ⟨(pre++[⟨k,nm,no,lo,hi,sz,ps,ln,cl⟩],rest,s),⟨by simp,by rw[← p2,foldF,List.length_append];unfold stepF;rw[if_neg k4];rfl,by simp at p3 ⊢;omega,p4,p5,by simp at p6 ⊢;omega⟩,by simp,(Cov.renO (fun k=>k) rfl rfl (bR rfl) (bR rfl) (fun _ _=>rfl) rfl (kp1 (by rfl)) (.W rfl (kwClean) rfl (.W rfl (cleanPr_cells _) rfl (.C rfl (.K rfl rfl (.K rfl rfl (.K rfl rfl .nil))) (.C rfl (.K rfl rfl (.K rfl rfl (.K rfl rfl .nil))) (.C rfl (.L (hc) rfl (.L (hes) rfl (.cons (.ofRow (by decide) rfl rfl) (.cons (.ofRow (by decide) rfl rfl) (.cons (.ofRow (by decide) rfl rfl) (.K rfl rfl .nil)))))) (.cons rfl (renMapE pre ⟨k,nm,no,lo,hi,sz,ps,ln,cl⟩ _ rfl) (blksO.row rfl rfl (cleanIC _) (blksO.row rfl rfl (cleanIC _) (blksO.row rfl rfl (cleanMs _) .nil))))))))) (.cons rfl (.P rfl) (.cons rfl (.mp _ _ (by decide) rfl) (.L rfl (hes) rfl (.cons rfl .I (.L rfl (cleanI _) (congrArg (Value.int .i64) (zw.symm)) .nil))))))⟩
end Go.Proofs.YtcihknonfcldeaaDoor
