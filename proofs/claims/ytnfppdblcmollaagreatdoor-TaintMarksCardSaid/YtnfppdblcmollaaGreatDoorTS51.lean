import Derived.Handed
import Derived.Test.YtnfppdblcmollaaGreatDoorTS01
import Derived.Test.YtnfppdblcmollaaGreatDoorTS18
import Derived.Test.YtnfppdblcmollaaGreatDoorTS26
import Derived.Test.YtnfppdblcmollaaGreatDoorTS27
import Derived.Test.YtnfppdblcmollaaGreatDoorTS29
import Derived.Test.YtnfppdblcmollaaGreatDoorTS45
import Derived.Test.YtnfppdblcmollaaGreatDoorTS46
import Derived.Test.YtnfppdblcmollaaGreatDoorTS50
namespace Go.Proofs.YtnfppdblcmollaaGreatDoor
open Go Go.RowKit Go.Sort U
set_option linter.unusedVariables false
set_option linter.unusedSimpArgs false
set_option maxRecDepth 100000
set_option maxHeartbeats 40000000
theorem bottom_d2 (p:Pg) (hf:FewP p) (hs:p.slots≤400000) (hr:rightP p=true):DenU Tryz.prog kwT 25 [encP p] (.tuple ⟨[stV ⟨List.replicate p.slots.toNat zeroC,List.replicate p.arrs.length zeroC,true⟩,.int .i64 0]⟩):=by
 refine denU_of_soundT kw_ok fun Ts=>SoundAt.body hmixU Tryz.func25 rfl rfl rfl 0 ?_
 have c1:=right_d p hf;have k1:=cleanP p;obtain ⟨r1,r2⟩:=right_slots hr;rw[hr] at c1;clear hr;have ha:=hf.arrs;obtain ⟨sl,arrs,ins,procs,main⟩:=p;dsimp only at *;obtain ⟨n,rfl⟩:=Int.eq_ofNat_of_zero_le r1
 have hmk1:=mk_full (zs:=[.int .i64 0,.int .i64 0,.int .u64 0,.int .u64 0,.bool false]) (n:=n) (b:=40) rfl rfl (by decide) (by omega)
 have hmk2:=mk_full (zs:=[.int .i64 0,.int .i64 0,.int .u64 0,.int .u64 0,.bool false]) (n:=(iL arrs).length) (b:=40) rfl rfl (by decide) (by rw[iL_len];omega)
 (repeat' ((conv=>whnf);first|refine U.ob_c hmk1 ?_|refine U.ob_c hmk2 ?_|refine goA ?_|refine U.spineC_p ?_|refine U.SoundAt.uT kw_ok c1 ⟨k1,trivial⟩ (tabK rfl rfl) ?_|refine goB ?_|refine U.drawX_p (D:=U.propX) 11 [] (by decide +kernel) (by decide +kernel) ?_|refine U.lw_c ?_ ?_<;>intro hb))
 (conv=>whnf);rw[Int.toNat_natCast];exact .tupL (.cons (FrzV.boxL (bR rfl) rfl (.cons (.rowL (ys:=cL (List.replicate n zeroC)) (bR rfl) rfl (rep_zero n).symm (cL_5 _) (by rw[cL_len,List.length_replicate];rfl) rL (cleanCC _)) (.cons (.rowL (ys:=cL (List.replicate arrs.length zeroC)) (bR rfl) rfl (by rw[iL_len];exact (rep_zero _).symm) (cL_5 _) (by rw[cL_len,List.length_replicate,iL_len]) rL (cleanCC _)) (.cons (.clean _ (.flat _ rfl)) .nil)))) (.cons (.clean _ (.flat _ rfl)) .nil))
def fewB (p:Pg):Bool:=fewP p 300&&decide (p.slots≤300)&&rightP p
theorem few26_d (p:Pg) (hok:OkP p):DenU Tryz.prog kwT 34 [encP p] (.bool (fewB p)):=by
 refine denU_of_soundT kw_ok fun Ts=>SoundAt.body hmixU Tryz.func34 rfl rfl rfl 0 ?_
 have c0:=fewIr_d p 300 hok;have kp:=cleanP p;unfold fewB;by_cases q1:fewP p 300=true
 ·have hf:=fewP_ok (by decide) q1
  have c1:=right_d p hf;rw[q1] at c0 ⊢;by_cases q2:p.slots≤300
  ·have g2:decide (p.slots≤300)=true:=decide_eq_true q2;rw[g2];generalize rightP p=b at *
   (repeat' ((conv=>whnf);first|refine goA ?_|refine U.SoundAt.uT kw_ok c1 ⟨kp,trivial⟩ (tabK rfl rfl) ?_|refine goB ?_|refine U.SoundAt.u (c0) clM ?_|refine U.SoundC.u (c0) clM ?_|refine U.lw_c ?_ ?_<;>intro hb))
   (conv=>whnf);exact .same (.flat _ rfl) rfl
  ·have g2:decide (p.slots≤300)=false:=decide_eq_false q2;rw[g2];(repeat' ((conv=>whnf);first|refine goD ?_|refine U.SoundAt.u (c0) clM ?_|refine U.SoundC.u (c0) clM ?_|refine U.lw_c ?_ ?_<;>intro hb))
   (conv=>whnf);exact .same (.flat _ rfl) rfl
 ·have q1:fewP p 300=false:=by simpa using q1
  rw[q1] at c0 ⊢;(repeat' ((conv=>whnf);first|refine goD ?_|refine U.SoundAt.u (c0) clM ?_|refine U.SoundC.u (c0) clM ?_|refine U.lw_c ?_ ?_<;>intro hb))
  (conv=>whnf);exact .same (.flat _ rfl) rfl
abbrev oneP (e:Ex):Pg:=⟨0,[],[],[],[.mk 0 0 [e] [] [] 0]⟩
theorem frzOne (e:Ex) {s:AS}{b b2:Nat}{T1 T2:TypeId}{o1 o2:Bool}(h1:s.lo≤b) (h2:s.lo≤b2) (k1:s.heap.get b=some (.cells T1 [.int .i64 0,.int .i64 0,.slice (some ⟨b2,0,none⟩) 1 1,.slice none 0 0,.slice none 0 0,.int .i64 0] o1)) (k2:s.heap.get b2=some (.cells T2 (cellsOf (encE e)) o2)) :
  U.FrzL Tryz.prog s [.agg ⟨[.int .i64 0,.slice none 0 0,.slice none 0 0,.slice none 0 0,.slice (some ⟨b,0,none⟩) 1 1]⟩,.int .i64 100] [encP (oneP e),.int .i64 100]:=by
 have hin:U.FrzV Tryz.prog s (.slice (some ⟨b2,0,none⟩) 1 1) (imS (encEs [e])):=.rowL (ys:=encEs [e]) h2 k2 (by simp[encEs,cellsAll]) (cellsE_5 [e]) rfl rL (cleanCells [e])
 have hL:U.FrzL Tryz.prog s [.int .i64 0,.int .i64 0,.slice (some ⟨b2,0,none⟩) 1 1,.slice none 0 0,.slice none 0 0,.int .i64 0] (cellsAll (encSs [.mk 0 0 [e] [] [] 0])) :=
  .cons (.clean _ (cleanI _)) (.cons (.clean _ (cleanI _)) (.cons hin (.cons .nil (.cons .nil (.cons (.clean _ (cleanI _)) .nil)))))
 have hrow:U.FrzV Tryz.prog s (.slice (some ⟨b,0,none⟩) 1 1) (imS (encSs [.mk 0 0 [e] [] [] 0])):=.row b 1 1 6 T1 _ _ o1 h1 k1 (cellsS_6 _) rfl rL rL hL.at_.2;exact .cons (.aggL (.cons (.clean _ (cleanI _)) (.cons .nil (.cons .nil (.cons .nil (.cons hrow .nil)))))) (.cons (.clean _ (cleanI _)) .nil)
theorem any_bot (s:SZ) (h:s.none=true) (x y:List Int):((x.any fun i=>(slotC s i).k) || y.any fun i=>(arrC s i).k)=false:=by
 have h1:∀i,slotC s i=botC:=fun i=>if_pos (.inl h)
 have h2:∀i,arrC s i=botC:=fun i=>if_pos (.inl h)
 simp[h1,h2,botC]
theorem okP_one {e:Ex}(he:okE e):OkP (oneP e):=⟨by simp,by simp,by simp,fun x hx=>(by cases hx),⟨⟨by simp[maxI],⟨he,trivial⟩,by simp,trivial,by simp,trivial⟩,trivial⟩,by simp[maxI]⟩
theorem law_d (p:Pg) (x1 x2:List Int) (m:Bool) (e:Ex) (y1 y2:List Int) (hok:OkP p) (hi:∀x∈p.ins,inI x.lo∧inI x.hi) (he:okE e) (hx1:x1.length≤maxI) (hx2:x2.length≤maxI) (hy1:y1.length≤maxI) (hy2:y2.length≤maxI):DenU Tryz.prog kwT 5 [encP p,setZ x1 x2,.bool m,encE e,setZ y1 y2] (.bool true):=by
 refine denU_of_soundT kw_ok fun Ts=>SoundAt.body hmixU Tryz.func5 rfl rfl rfl 0 ?_
 obtain ⟨k1,n1,a1,o1,l1⟩:=e;have c0:=few26_d p hok;have c2:=fewIr_d (oneP (.mk k1 n1 a1 o1 l1)) 100 (okP_one he);have kp:=cleanP p;have ke:=cleanE (.mk k1 n1 a1 o1 l1);have i1:=cleanIL x1;have i2:=cleanIL x2
 have i3:=cleanIL y1;have i4:=cleanIL y2;have i5:NoNm (.agg ⟨[imS (iL x1),imS (iL x2)]⟩):=cleanSZ x1 x2;have i6:NoNm (.agg ⟨[imS (iL y1),imS (iL y2)]⟩):=cleanSZ y1 y2;by_cases q0:fewB p=true
 ·rw[q0] at c0;by_cases b1:20<x1.length
  ·have g1:decide (((iL x1).length:Int) > 20)=true:=decide_eq_true (by rw[iL_len];omega)
   (repeat' ((conv=>whnf);first|refine goA ?_|refine U.SoundAt.uT kw_ok c0 ⟨kp,trivial⟩ (tabK rfl rfl) ?_|refine U.SoundAt.uT kw_ok works26_d trivial (tabK rfl rfl) ?_|refine goB ?_|refine U.lw_c ?_ ?_<;>intro hb))
   (conv=>whnf);exact .same (.flat _ rfl) rfl
  have g1:decide (((iL x1).length:Int) > 20)=false:=decide_eq_false (by rw[iL_len];omega)
  by_cases b2:20<x2.length
  ·have g2:decide (((iL x2).length:Int) > 20)=true:=decide_eq_true (by rw[iL_len];omega)
   (repeat' ((conv=>whnf);first|refine goA ?_|refine U.SoundAt.uT kw_ok c0 ⟨kp,trivial⟩ (tabK rfl rfl) ?_|refine U.SoundAt.uT kw_ok works26_d trivial (tabK rfl rfl) ?_|refine goB ?_|refine U.lw_c ?_ ?_<;>intro hb))
   (conv=>whnf);exact .same (.flat _ rfl) rfl
  have g2:decide (((iL x2).length:Int) > 20)=false:=decide_eq_false (by rw[iL_len];omega)
  by_cases b3:20<y1.length
  ·have g3:decide (((iL y1).length:Int) > 20)=true:=decide_eq_true (by rw[iL_len];omega)
   (repeat' ((conv=>whnf);first|refine goA ?_|refine U.SoundAt.uT kw_ok c0 ⟨kp,trivial⟩ (tabK rfl rfl) ?_|refine U.SoundAt.uT kw_ok works26_d trivial (tabK rfl rfl) ?_|refine goB ?_|refine U.lw_c ?_ ?_<;>intro hb))
   (conv=>whnf);exact .same (.flat _ rfl) rfl
  have g3:decide (((iL y1).length:Int) > 20)=false:=decide_eq_false (by rw[iL_len];omega)
  by_cases b4:20<y2.length
  ·have g4:decide (((iL y2).length:Int) > 20)=true:=decide_eq_true (by rw[iL_len];omega)
   (repeat' ((conv=>whnf);first|refine goA ?_|refine U.SoundAt.uT kw_ok c0 ⟨kp,trivial⟩ (tabK rfl rfl) ?_|refine U.SoundAt.uT kw_ok works26_d trivial (tabK rfl rfl) ?_|refine goB ?_|refine U.lw_c ?_ ?_<;>intro hb))
   (conv=>whnf);exact .same (.flat _ rfl) rfl
  have g4:decide (((iL y2).length:Int) > 20)=false:=decide_eq_false (by rw[iL_len];omega)
  by_cases q2:fewP (oneP (.mk k1 n1 a1 o1 l1)) 100=true
  ·rw[q2] at c2;have hs2:=(fewP_ok (by decide) q2).sz
   have hse:szE (.mk k1 n1 a1 o1 l1)≤900:=by simp[oneP,szSs,szS,szEs,szPrs] at hs2 ⊢;omega
   unfold fewB at q0;simp only[Bool.and_eq_true,decide_eq_true_eq] at q0;obtain ⟨⟨q3,q4⟩,hr⟩:=q0;have hf:=fewP_ok (by decide) q3
   obtain ⟨r1,r2⟩:=right_slots hr;obtain ⟨n,hn⟩:=Int.eq_ofNat_of_zero_le r1;have cN:=new_d p hf (by omega) hi
   rw[if_pos hr] at cN;have cI:=Ir_d p hf;have cR:=rnew_d p n hn (by omega) hf.ins hf.arrs hi
   have eS:(⟨ref0 p.ins n,List.replicate p.arrs.length zeroC,false⟩:SZ)=st0 p:=by
    rw[st0,← ref0_eq p n (by rw[hn];rfl) fun x hx=>(r2 x hx).1,hn,Int.toNat_natCast]
   rw[eS] at cR;have cB:=bottom_d2 p hf (by omega) hr
   have cE:=IrExpr_all 1000 (.mk k1 n1 a1 o1 l1) (by omega) rL
   have t1:(st0 p).slots.length≤1000:=by rw[st0,foldIn_len,List.length_replicate];omega
   have t2:(st0 p).arrs.length≤1000:=by rw[st0,List.length_replicate];have:=hf.arrs;omega
   have t3:(st0 p).none=false:=rfl;clear eS hr r2 hs2;generalize st0 p=s0 at *
   have cH:=havoc_d s0 x1 x2 m t3 t1 t2 hx1 hx2;have cC:=rchange_d s0 x1 x2 m t1 t2 hx1 hx2 t3;have t4:(havS s0 x1 x2 m).none=false:=by rw[havS,if_neg (by simp[t3])]
   have u1:=cleanStV s0;have u2:=cleanSt s0;generalize havS s0 x1 x2 m=s1 at *
   have u3:=cleanStV s1;have u4:=cleanSt s1;have cX:=exprS s1 t4 (.mk k1 n1 a1 o1 l1) (by omega)
   have rX:=rexpr_all s1 1000 (.mk k1 n1 a1 o1 l1) (by omega) rL
   have cA:DenU Tryz.prog [] 39 [stV s1,setZ y1 y2] (.bool (anyS s1 y1 y2)):=any_p (stV s1) u3 (slotC s1) (arrC s1) (getS s1) (loadS s1) y1 y2 hy1 hy2;have rA:=rany_d s1 y1 y2 hy1 hy2;obtain ⟨sB,hsB⟩:∃sB:SZ,sB=⟨List.replicate p.slots.toNat zeroC,List.replicate p.arrs.length zeroC,true⟩:=⟨_,rfl⟩
   rw[← hsB] at cB;have t5:sB.none=true:=by rw[hsB]
   have u5:=cleanStV sB;have bX:=exprB sB t5 (.mk k1 n1 a1 o1 l1);have bA:=any_p (stV sB) u5 (slotC sB) (arrC sB) (getS sB) (loadS sB) y1 y2 hy1 hy2;rw[any_bot sB t5] at bA;have nA:DenU Tryz.prog [] 39 [.pointer none,setZ x1 x2] (.bool false):=by
    have:=any_p (.pointer none) (.flat _ rfl) (fun _=>nilC) (fun _=>nilC) getN loadN x1 x2 hx1 hx2
    rwa [show ((x1.any fun i=>nilC.k) || x2.any fun i=>nilC.k)=false by simp[nilC]] at this
   have nX:=exprN (.mk k1 n1 a1 o1 l1);clear hsB t5;generalize exM s1 (.mk k1 n1 a1 o1 l1)=v1 at cX rX
   generalize anyS s1 y1 y2=v2 at cA rA
   cases v1<;>cases v2
   all_goals
    (repeat' ((conv=>whnf);first|refine goA ?_|refine U.SoundAt.uT kw_ok c0 ⟨kp,trivial⟩ (tabK rfl rfl) ?_|refine U.SoundAt.c (U.SoundC.uF c2 rfl (frzOne _ zL zL rfl rfl) ?_)|refine U.SoundAt.uT kw_ok works26_d trivial (tabK rfl rfl) ?_|refine U.SoundAt.uT kw_ok cN ⟨kp,trivial⟩ (tabK rfl rfl) ?_|refine U.SoundAt.uT kw_ok cB ⟨kp,trivial⟩ (tabK rfl rfl) ?_|refine goB ?_|refine U.SoundAt.u (cI) clM ?_|refine U.SoundAt.u (cR) clM ?_|refine U.SoundAt.u (cC) clM ?_|refine U.SoundAt.u (cH) clM ?_|refine U.SoundAt.u (cX) clM ?_|refine U.SoundAt.u (rX) clM ?_|refine U.SoundAt.u (cE) clM ?_|refine U.SoundAt.u (cA) clM ?_|refine U.SoundAt.u (rA) clM ?_|refine U.SoundAt.u (bX) clM ?_|refine U.SoundAt.u (bA) clM ?_|refine U.SoundAt.u (nA) clM ?_|refine U.SoundAt.u (nX) clM ?_|refine U.SoundC.u (cI) clM ?_|refine U.SoundC.u (cR) clM ?_|refine U.SoundC.u (cC) clM ?_|refine U.SoundC.u (cH) clM ?_|refine U.SoundC.u (cX) clM ?_|refine U.SoundC.u (rX) clM ?_|refine U.SoundC.u (cE) clM ?_|refine U.SoundC.u (cA) clM ?_|refine U.SoundC.u (rA) clM ?_|refine U.SoundC.u (bX) clM ?_|refine U.SoundC.u (bA) clM ?_|refine U.SoundC.u (nA) clM ?_|refine U.SoundC.u (nX) clM ?_|refine U.drawX_p (D:=U.propX) 10 [] (by decide +kernel) (by decide +kernel) ?_|refine U.drawX_p (D:=U.propX) 24 [] (by decide +kernel) (by decide +kernel) ?_|refine U.lw_c ?_ ?_<;>intro hb))
    (conv=>whnf);exact .same (.flat _ rfl) rfl
  ·have q2:fewP (oneP (.mk k1 n1 a1 o1 l1)) 100=false:=by simpa using q2
   rw[q2] at c2;(repeat' ((conv=>whnf);first|refine goA ?_|refine U.SoundAt.uT kw_ok c0 ⟨kp,trivial⟩ (tabK rfl rfl) ?_|refine U.SoundAt.c (U.SoundC.uF c2 rfl (frzOne _ zL zL rfl rfl) ?_)|refine U.SoundAt.uT kw_ok works26_d trivial (tabK rfl rfl) ?_|refine goB ?_|refine U.lw_c ?_ ?_<;>intro hb))
   (conv=>whnf);exact .same (.flat _ rfl) rfl
 ·have q0:fewB p=false:=by simpa using q0
  rw[q0] at c0;(repeat' ((conv=>whnf);first|refine goA ?_|refine U.SoundAt.uT kw_ok c0 ⟨kp,trivial⟩ (tabK rfl rfl) ?_|refine U.SoundAt.uT kw_ok works26_d trivial (tabK rfl rfl) ?_|refine goB ?_|refine U.lw_c ?_ ?_<;>intro hb))
  (conv=>whnf);exact .same (.flat _ rfl) rfl
end Go.Proofs.YtnfppdblcmollaaGreatDoor
namespace Go.Proofs.YtnfppdblcmollaaGreatDoor
open Go Go.ChangeShapes Go.WideShapes Go.ChangeAt Go.RowKit Go.Joins U
set_option linter.unusedVariables false
set_option linter.unusedSimpArgs false
set_option maxRecDepth 100000
set_option maxHeartbeats 40000000
def tysP:List TypeId:=[27,105,102,23,24,36,32,25,30,3,2,9,4,42,28,34,29,22,40]
theorem tysP_ok:okTys Tryz.prog tysP=true:=by kernel_rfl
theorem cells_Expr:Tryz.prog.cellsOf 32=5:=by kernel_rfl
theorem cells_Stmt:Tryz.prog.cellsOf 36=6:=by kernel_rfl
theorem cells_Input:Tryz.prog.cellsOf 105=5:=by kernel_rfl
theorem cells_Proc:Tryz.prog.cellsOf 102=3:=by kernel_rfl
theorem cells_Program:Tryz.prog.cellsOf 27=5:=by kernel_rfl
theorem cells_Set:Tryz.prog.cellsOf 40=2:=by kernel_rfl
theorem datF_intw {t:TypeId}(ht:Tryz.prog.underlying t=some (.int .i64)) {n:Nat}{us:List Value}(h:DatF Tryz.prog n t us):∃m,inI m∧us=[.int .i64 m]:=by
 cases n with
 |zero=>exact h.elim
 |succ n =>
  unfold DatF at h;rw[ht] at h;obtain ⟨m,h,hw⟩:=h;simp only[Lit.wf,Bool.and_eq_true,decide_eq_true_eq] at hw;exact ⟨m,hw,h⟩
theorem okEs_of:∀{l:List Ex},(∀e∈l,okE e)->okEs l
 |[],_=>trivial
 |e::l,h=>⟨h e (by simp),okEs_of fun x hx=>h x (List.mem_cons_of_mem _ hx)⟩
theorem okSs_of:∀{l:List St},(∀e∈l,okS e)->okSs l
 |[],_=>trivial
 |e::l,h=>⟨h e (by simp),okSs_of fun x hx=>h x (List.mem_cons_of_mem _ hx)⟩
theorem pack_E (e:Ex):packV Tryz.prog 32 (cellsOf (encE e))=encE e:=by
 unfold packV;rw[Tryz.underlying32];cases e;rfl
theorem pack_S (e:St):packV Tryz.prog 36 (cellsOf (encS e))=encS e:=by
 unfold packV;rw[Tryz.underlying36];cases e;rfl
theorem exprs_data {n:Nat}(ih:∀k<n,∀us,DatF Tryz.prog k 32 us->∃e:Ex,okE e∧us=cellsOf (encE e)) {us:List Value}(h:DatF Tryz.prog n 30 us):∃l:List Ex,okEs l∧l.length≤maxI∧us=[imS (encEs l)]:=by
 obtain ⟨k,rows,rfl,rfl,hl,hr⟩:=datF_row Tryz.underlying30 h;obtain ⟨l,h1,rfl⟩:=all_map (p:=okE) (g:=fun e=>cellsOf (encE e)) rows fun r hr'=>ih k (by omega) r (hr r hr').2
 refine ⟨l,okEs_of h1,by rw[List.length_map] at hl;exact hl,?_⟩
 rw[List.map_map,encEs_map];congr 2
 exact List.map_congr_left fun e _=>pack_E e
theorem expr_data:∀(n:Nat) (us:List Value),DatF Tryz.prog n 32 us->∃e:Ex,okE e∧us=cellsOf (encE e):=by
 intro n;induction n using Nat.strongRecOn with
 |ind n ih =>
  intro us h;cases n with
  |zero=>exact h.elim
  |succ n =>
   unfold DatF at h;rw[Tryz.underlying32] at h;obtain ⟨hl,h⟩:=h;rw[cells_Expr] at hl;obtain ⟨c0,c1,c2,c3,c4,rfl⟩:∃c0 c1 c2 c3 c4,us=[c0,c1,c2,c3,c4]:=by match us,hl with|[c0,c1,c2,c3,c4],_=>exact ⟨c0,c1,c2,c3,c4,rfl⟩
   have h0:=h _ (List.mem_cons_self ..);have h1:=h _ (List.mem_cons_of_mem _ (List.mem_cons_self ..));have h2:=h _ (List.mem_cons_of_mem _ (List.mem_cons_of_mem _ (List.mem_cons_self ..)));have h3:=h _ (List.mem_cons_of_mem _ (List.mem_cons_of_mem _ (List.mem_cons_of_mem _ (List.mem_cons_self ..))))
   have h4:=h _ (List.mem_cons_of_mem _ (List.mem_cons_of_mem _ (List.mem_cons_of_mem _ (List.mem_cons_of_mem _ (List.mem_cons_self ..)))));obtain ⟨m0,e0⟩:=datF_int Tryz.underlying28 h0;obtain ⟨m1,e1⟩:=datF_int Tryz.underlying2 h1
   obtain ⟨m2,e2⟩:=datF_int Tryz.underlying3 h2;obtain ⟨m3,e3⟩:=datF_int Tryz.underlying29 h3;obtain ⟨l,k1,k2,e4⟩:=exprs_data (fun k hk=>ih k (by omega)) h4
   replace e0:[c0]=_:=e0;replace e1:[c1]=_:=e1;replace e2:[c2]=_:=e2;replace e3:[c3]=_:=e3;replace e4:[c4]=_:=e4;simp only[List.cons.injEq,and_true] at e0 e1 e2 e3 e4;subst e0 e1 e2 e3 e4;exact ⟨.mk m0 m1 m2 m3 l,by rw[okE];exact ⟨k2,k1⟩,rfl⟩
theorem stmts_data {n:Nat}(ih:∀k<n,∀us,DatF Tryz.prog k 36 us->∃e:St,okS e∧us=cellsOf (encS e)) {us:List Value}(h:DatF Tryz.prog n 25 us):∃l:List St,okSs l∧l.length≤maxI∧us=[imS (encSs l)]:=by
 obtain ⟨k,rows,rfl,rfl,hl,hr⟩:=datF_row Tryz.underlying25 h;obtain ⟨l,h1,rfl⟩:=all_map (p:=okS) (g:=fun e=>cellsOf (encS e)) rows fun r hr'=>ih k (by omega) r (hr r hr').2
 refine ⟨l,okSs_of h1,by rw[List.length_map] at hl;exact hl,?_⟩
 rw[List.map_map,encSs_map];congr 2
 exact List.map_congr_left fun e _=>pack_S e
theorem stmt_data:∀(n:Nat) (us:List Value),DatF Tryz.prog n 36 us->∃e:St,okS e∧us=cellsOf (encS e):=by
 intro n;induction n using Nat.strongRecOn with
 |ind n ih =>
  intro us h;cases n with
  |zero=>exact h.elim
  |succ n =>
   unfold DatF at h;rw[Tryz.underlying36] at h;obtain ⟨hl,h⟩:=h;rw[cells_Stmt] at hl;obtain ⟨c0,c1,c2,c3,c4,c5,rfl⟩:∃c0 c1 c2 c3 c4 c5,us=[c0,c1,c2,c3,c4,c5]:=by match us,hl with|[c0,c1,c2,c3,c4,c5],_=>exact ⟨c0,c1,c2,c3,c4,c5,rfl⟩
   have h0:=h _ (List.mem_cons_self ..);have h1:=h _ (List.mem_cons_of_mem _ (List.mem_cons_self ..));have h2:=h _ (List.mem_cons_of_mem _ (List.mem_cons_of_mem _ (List.mem_cons_self ..)));have h3:=h _ (List.mem_cons_of_mem _ (List.mem_cons_of_mem _ (List.mem_cons_of_mem _ (List.mem_cons_self ..))))
   have h4:=h _ (List.mem_cons_of_mem _ (List.mem_cons_of_mem _ (List.mem_cons_of_mem _ (List.mem_cons_of_mem _ (List.mem_cons_self ..)))));have h5:=h _ (List.mem_cons_of_mem _ (List.mem_cons_of_mem _ (List.mem_cons_of_mem _ (List.mem_cons_of_mem _ (List.mem_cons_of_mem _ (List.mem_cons_self ..))))))
   obtain ⟨m0,e0⟩:=datF_int Tryz.underlying34 h0;obtain ⟨m1,e1⟩:=datF_int Tryz.underlying3 h1;obtain ⟨xs,k1,k2,e2⟩:=exprs_data (fun k _=>expr_data k) h2
   obtain ⟨th,k3,k4,e3⟩:=stmts_data (fun k hk=>ih k (by omega)) h3
   obtain ⟨el,k5,k6,e4⟩:=stmts_data (fun k hk=>ih k (by omega)) h4
   obtain ⟨m5,e5⟩:=datF_int Tryz.underlying3 h5;replace e0:[c0]=_:=e0;replace e1:[c1]=_:=e1;replace e2:[c2]=_:=e2;replace e3:[c3]=_:=e3;replace e4:[c4]=_:=e4;replace e5:[c5]=_:=e5;simp only[List.cons.injEq,and_true] at e0 e1 e2 e3 e4 e5
   subst e0 e1 e2 e3 e4 e5;exact ⟨.mk m0 m1 xs th el m5,by rw[okS];exact ⟨k2,k1,k4,k3,k6,k5⟩,rfl⟩
theorem ints_data {n:Nat}{us:List Value}(h:DatF Tryz.prog n 22 us):∃l:List Int,l.length≤maxI∧us=[imS (iL l)]:=by
 obtain ⟨k,rows,rfl,rfl,hl,hr⟩:=datF_row Tryz.underlying22 h;obtain ⟨l,_,rfl⟩:=all_map (p:=fun _=>True) (g:=fun m:Int=>[Value.int .i64 m]) rows fun r hr'=>by
  obtain ⟨m,hm⟩:=datF_int Tryz.underlying3 (hr r hr').2;exact ⟨m,trivial,hm⟩
 refine ⟨l,by rw[List.length_map] at hl;exact hl,?_⟩
 rw[List.map_map];congr 2
theorem input_data {n:Nat}{us:List Value}(h:DatF Tryz.prog n 105 us):∃x:In13,(inI x.lo∧inI x.hi)∧us=cellsOf (encIn x):=by
 cases n with
 |zero=>exact h.elim
 |succ n =>
  unfold DatF at h;rw[Tryz.underlying105] at h;obtain ⟨hl,h⟩:=h;rw[cells_Input] at hl;obtain ⟨c0,c1,c2,c3,c4,rfl⟩:∃c0 c1 c2 c3 c4,us=[c0,c1,c2,c3,c4]:=by match us,hl with|[c0,c1,c2,c3,c4],_=>exact ⟨c0,c1,c2,c3,c4,rfl⟩
  have h0:=h _ (List.mem_cons_self ..);have h1:=h _ (List.mem_cons_of_mem _ (List.mem_cons_self ..));have h2:=h _ (List.mem_cons_of_mem _ (List.mem_cons_of_mem _ (List.mem_cons_self ..)));have h3:=h _ (List.mem_cons_of_mem _ (List.mem_cons_of_mem _ (List.mem_cons_of_mem _ (List.mem_cons_self ..))))
  have h4:=h _ (List.mem_cons_of_mem _ (List.mem_cons_of_mem _ (List.mem_cons_of_mem _ (List.mem_cons_of_mem _ (List.mem_cons_self ..)))));obtain ⟨m0,e0,k0⟩:=datF_str Tryz.underlying9 h0;obtain ⟨m1,e1⟩:=datF_int Tryz.underlying3 h1
  obtain ⟨m2,k2,e2⟩:=datF_intw Tryz.underlying2 h2;obtain ⟨m3,k3,e3⟩:=datF_intw Tryz.underlying2 h3;obtain ⟨m4,e4⟩:=datF_bool Tryz.underlying4 h4;replace e0:[c0]=_:=e0;replace e1:[c1]=_:=e1;replace e2:[c2]=_:=e2
  replace e3:[c3]=_:=e3;replace e4:[c4]=_:=e4;simp only[cellsOf,encV,List.cons.injEq,and_true] at e0 e1 e2 e3 e4;subst e0 e1 e2 e3 e4;exact ⟨⟨m0,m1,m2,m3,m4⟩,⟨k2,k3⟩,rfl⟩
theorem inputs_data {n:Nat}{us:List Value}(h:DatF Tryz.prog n 23 us):∃l:List In13,(l.length≤maxI∧∀x∈l,inI x.lo∧inI x.hi)∧us=[imS (inL l)]:=by
 obtain ⟨k,rows,rfl,rfl,hl,hr⟩:=datF_row Tryz.underlying23 h;obtain ⟨l,h1,rfl⟩:=all_map (p:=fun x:In13=>inI x.lo∧inI x.hi) (g:=fun b=>cellsOf (encIn b)) rows fun r hr'=>input_data (hr r hr').2
 refine ⟨l,⟨by rw[List.length_map] at hl;exact hl,h1⟩,?_⟩
 rw[List.map_map,inL_map];congr 2
theorem proc_data {n:Nat}{us:List Value}(h:DatF Tryz.prog n 102 us):∃x:Pr13,(okSs x.body∧x.body.length≤maxI∧x.ps.length≤maxI)∧us=cellsOf (encPr x):=by
 cases n with
 |zero=>exact h.elim
 |succ n =>
  unfold DatF at h;rw[Tryz.underlying102] at h;obtain ⟨hl,h⟩:=h;rw[cells_Proc] at hl;obtain ⟨c0,c1,c2,rfl⟩:∃c0 c1 c2,us=[c0,c1,c2]:=by match us,hl with|[c0,c1,c2],_=>exact ⟨c0,c1,c2,rfl⟩
  have h0:=h _ (List.mem_cons_self ..);have h1:=h _ (List.mem_cons_of_mem _ (List.mem_cons_self ..));have h2:=h _ (List.mem_cons_of_mem _ (List.mem_cons_of_mem _ (List.mem_cons_self ..)));obtain ⟨m0,e0,k0⟩:=datF_str Tryz.underlying9 h0
  obtain ⟨m1,k1,e1⟩:=ints_data h1;obtain ⟨m2,k2,k3,e2⟩:=stmts_data (fun k _=>stmt_data k) h2
  replace e0:[c0]=_:=e0;replace e1:[c1]=_:=e1;replace e2:[c2]=_:=e2;simp only[cellsOf,encV,List.cons.injEq,and_true] at e0 e1 e2;subst e0 e1 e2;exact ⟨⟨m0,m1,m2⟩,⟨k2,k3,k1⟩,rfl⟩
theorem procs_data {n:Nat}{us:List Value}(h:DatF Tryz.prog n 24 us):∃l:List Pr13,(l.length≤maxI∧∀x∈l,okSs x.body∧x.body.length≤maxI∧x.ps.length≤maxI)∧us=[imS (prL l)]:=by
 obtain ⟨k,rows,rfl,rfl,hl,hr⟩:=datF_row Tryz.underlying24 h;obtain ⟨l,h1,rfl⟩:=all_map (p:=fun x:Pr13=>okSs x.body∧x.body.length≤maxI∧x.ps.length≤maxI) (g:=fun b=>cellsOf (encPr b)) rows fun r hr'=>proc_data (hr r hr').2
 refine ⟨l,⟨by rw[List.length_map] at hl;exact hl,h1⟩,?_⟩
 rw[List.map_map,prL_map];congr 2
theorem program_data {n:Nat}{us:List Value}(h:DatF Tryz.prog n 27 us):∃p:Pg,(OkP p∧∀x∈p.ins,inI x.lo∧inI x.hi)∧us=cellsOf (encP p):=by
 cases n with
 |zero=>exact h.elim
 |succ n =>
  unfold DatF at h;rw[Tryz.underlying27] at h;obtain ⟨hl,h⟩:=h;rw[cells_Program] at hl;obtain ⟨c0,c1,c2,c3,c4,rfl⟩:∃c0 c1 c2 c3 c4,us=[c0,c1,c2,c3,c4]:=by match us,hl with|[c0,c1,c2,c3,c4],_=>exact ⟨c0,c1,c2,c3,c4,rfl⟩
  have h0:=h _ (List.mem_cons_self ..);have h1:=h _ (List.mem_cons_of_mem _ (List.mem_cons_self ..));have h2:=h _ (List.mem_cons_of_mem _ (List.mem_cons_of_mem _ (List.mem_cons_self ..)));have h3:=h _ (List.mem_cons_of_mem _ (List.mem_cons_of_mem _ (List.mem_cons_of_mem _ (List.mem_cons_self ..))))
  have h4:=h _ (List.mem_cons_of_mem _ (List.mem_cons_of_mem _ (List.mem_cons_of_mem _ (List.mem_cons_of_mem _ (List.mem_cons_self ..)))));obtain ⟨m0,e0⟩:=datF_int Tryz.underlying3 h0;obtain ⟨m1,k1,e1⟩:=ints_data h1
  obtain ⟨m2,k2,e2⟩:=inputs_data h2;obtain ⟨m3,k3,e3⟩:=procs_data h3;obtain ⟨m4,k4,k5,e4⟩:=stmts_data (fun k _=>stmt_data k) h4
  replace e0:[c0]=_:=e0;replace e1:[c1]=_:=e1;replace e2:[c2]=_:=e2;replace e3:[c3]=_:=e3;replace e4:[c4]=_:=e4;simp only[cellsOf,encV,List.cons.injEq,and_true] at e0 e1 e2 e3 e4;subst e0 e1 e2 e3 e4
  exact ⟨⟨m0,m1,m2,m3,m4⟩,⟨⟨k1,k2.1,k3.1,k3.2,k4,k5⟩,k2.2⟩,rfl⟩
theorem set_data {n:Nat}{us:List Value}(h:DatF Tryz.prog n 40 us):∃x y:List Int,(x.length≤maxI∧y.length≤maxI)∧us=cellsOf (setZ x y):=by
 cases n with
 |zero=>exact h.elim
 |succ n =>
  unfold DatF at h;rw[Tryz.underlying40] at h;obtain ⟨hl,h⟩:=h;rw[cells_Set] at hl;obtain ⟨c0,c1,rfl⟩:∃c0 c1,us=[c0,c1]:=by match us,hl with|[c0,c1],_=>exact ⟨c0,c1,rfl⟩
  have h0:=h _ (List.mem_cons_self ..);have h1:=h _ (List.mem_cons_of_mem _ (List.mem_cons_self ..));obtain ⟨x,k0,e0⟩:=ints_data h0;obtain ⟨y,k1,e1⟩:=ints_data h1;replace e0:[c0]=_:=e0;replace e1:[c1]=_:=e1
  simp only[List.cons.injEq,and_true] at e0 e1;subst e0 e1;exact ⟨x,y,⟨k0,k1⟩,rfl⟩
theorem open_program {H:Type}{enc:TypeId×Value->H}{W:World}{v:Value}{d:DataW H}{p:List MemPlace}{b0 base:Nat}{r:Reach}{held:Bool}(hv:Value.okWide Tryz.prog W r b0 27 v) (h:DataW.Trod enc Tryz.prog W base (fun _=>true) held 27 v d p):∃s:Pg,(OkP s∧∀x∈s.ins,inI x.lo∧inI x.hi)∧VR (bz W) (encP s) v:=by
 obtain ⟨cs,rfl,_⟩:=okWide_struct Tryz.underlying27 hv;obtain ⟨fuel,hf⟩:=h;obtain ⟨us,h1,h2,_⟩:=open_data tysP_ok fuel _ _ _ (by decide) hf
 obtain ⟨s,h3,rfl⟩:=program_data h1;refine ⟨s,h3,?_⟩;obtain ⟨l⟩:=cs;exact .agg _ _ h2.1 h2.2
theorem open_set {H:Type}{enc:TypeId×Value->H}{W:World}{v:Value}{d:DataW H}{p:List MemPlace}{b0 base:Nat}{r:Reach}{held:Bool}(hv:Value.okWide Tryz.prog W r b0 40 v) (h:DataW.Trod enc Tryz.prog W base (fun _=>true) held 40 v d p):∃x y:List Int,(x.length≤maxI∧y.length≤maxI)∧VR (bz W) (setZ x y) v:=by
 obtain ⟨cs,rfl,_⟩:=okWide_struct Tryz.underlying40 hv;obtain ⟨fuel,hf⟩:=h;obtain ⟨us,h1,h2,_⟩:=open_data tysP_ok fuel _ _ _ (by decide) hf
 obtain ⟨x,y,h3,rfl⟩:=set_data h1;refine ⟨x,y,h3,?_⟩;obtain ⟨l⟩:=cs;exact .agg _ _ h2.1 h2.2
theorem open_expr {H:Type}{enc:TypeId×Value->H}{W:World}{v:Value}{d:DataW H}{p:List MemPlace}{b0 base:Nat}{r:Reach}{held:Bool}(hv:Value.okWide Tryz.prog W r b0 32 v) (h:DataW.Trod enc Tryz.prog W base (fun _=>true) held 32 v d p):∃e:Ex,okE e∧VR (bz W) (encE e) v:=by
 obtain ⟨cs,rfl,_⟩:=okWide_struct Tryz.underlying32 hv;obtain ⟨fuel,hf⟩:=h;obtain ⟨us,h1,h2,_⟩:=open_data tysP_ok fuel _ _ _ (by decide) hf
 obtain ⟨e,h3,rfl⟩:=expr_data _ _ h1;refine ⟨e,h3,?_⟩;obtain ⟨l⟩:=cs;obtain ⟨k,n,a,o,m⟩:=e;exact .agg _ _ h2.1 h2.2
theorem trodAll_five {H:Type}{enc:TypeId×Value->H}{P:Program}{w:World}{base:Nat}{spare:Nat->Bool}{held:Bool}{t t' t'' t3 t4:TypeId}{args:Array Value}{ds:List (DataW H)}{ps:List MemPlace}(h:DataW.TrodAll enc P w base spare held [t,t',t'',t3,t4] args.toList ds ps) :
  ∃v v' v'' v3 v4 d d' d'' d3 d4 p p' p'' p3 p4,args=#[v,v',v'',v3,v4]∧ds=[d,d',d'',d3,d4]∧ps=p++p'++p''++p3++p4∧DataW.Trod enc P w base spare held t v d p∧DataW.Trod enc P w base spare held t' v' d' p'∧DataW.Trod enc P w base spare held t'' v'' d'' p''∧DataW.Trod enc P w base spare held t3 v3 d3 p3∧DataW.Trod enc P w base spare held t4 v4 d4 p4:=by
 obtain ⟨v,vs,d,ds',p,q,hargs,rfl,rfl,hd,hrest⟩:=trodAll_cons h;obtain ⟨v',vs',d',ds'',p',q',rfl,rfl,rfl,hd',hrest'⟩:=trodAll_cons hrest;obtain ⟨v'',vs'',d'',ds''',p'',q'',rfl,rfl,rfl,hd'',hrest''⟩:=trodAll_cons hrest'
 obtain ⟨v3,vs3,d3,ds3,p3,q3,rfl,rfl,rfl,hd3,hrest3⟩:=trodAll_cons hrest'';obtain ⟨v4,vs4,d4,ds4,p4,q4,rfl,rfl,rfl,hd4,hrest4⟩:=trodAll_cons hrest3;obtain ⟨rfl,rfl,rfl⟩:=trodAll_nil hrest4;exact ⟨v,v',v'',v3,v4,d,d',d'',d3,d4,p,p',p'',p3,p4,by cases args;simp_all,rfl,by simp,hd,hd',hd'',hd3,hd4⟩
end Go.Proofs.YtnfppdblcmollaaGreatDoor
