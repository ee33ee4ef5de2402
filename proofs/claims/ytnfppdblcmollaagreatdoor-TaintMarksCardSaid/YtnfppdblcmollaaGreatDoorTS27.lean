
import Derived.Test.YtnfppdblcmollaaGreatDoorTS26
namespace Go.Proofs.YtnfppdblcmollaaGreatDoor
open Go Go.RowKit Go.Sort U
set_option linter.unusedVariables false
set_option linter.unusedSimpArgs false
set_option maxRecDepth 100000
set_option maxHeartbeats 40000000
theorem cL_one (l:List CZ):(Nat.beq (cellsAll (cL l)).length ((cL l).length*(4+1))&&(cellsAll (cL l)).all Value.oneCell')=true:=by
 rw[cellsC_len,cL_len,Bool.and_eq_true];refine ⟨Nat.beq_refl _,List.all_eq_true.2 fun v hv=>?_⟩
 obtain ⟨w,hw,hv⟩:=List.mem_flatMap.1 hv;obtain ⟨c,_,rfl⟩:=List.mem_map.1 hw;simp only[encC,cellsOf,List.mem_cons,List.not_mem_nil,or_false] at hv;rcases hv with rfl|rfl|rfl|rfl|rfl<;>rfl
theorem clone_nil:DenU Tryz.prog [] 178 [imS []] (imS []):=by
 refine denU_of_sound hmixU fun Ts=>SoundAt.body hmixU Tryz.func178 rfl rfl rfl 0 ?_
 (repeat' ((conv=>whnf);first|refine goD ?_|refine U.lw_c ?_ ?_<;>intro hb))
 intro i hi;have hi:i=0∨i=1:=by simpa using hi
 rcases hi with rfl|rfl
 all_goals ((repeat' ((conv=>whnf);first|refine goD ?_|refine U.lw_c ?_ ?_<;>intro hb)))
 all_goals (conv=>whnf)
 ·exact .nil
 ·exact .row _ 0 0 5 _ [] [] _ rL rfl (fun y hy=>by cases hy) rfl rL rL fun i u v hu=>by simp at hu
theorem rowO_c {f:FuncId}{args ys:List Value}{T:TypeId}{s:AS}{k:Value->AS->Prop}(hD:U.DenR Tryz.prog f args (rowS 0 ys) [rowO T ys]) (hc:NoNms args) (hg:s.glb=0) (hy:∀x,x∈cellsAll ys->NoNm x) (hk:U.rowK s (rowO T ys) ys k):U.SoundC Tryz.prog f args s k :=
 .tell hD hc (by rw[hg];exact Nat.zero_le _) (layB_stp _) (TellR.rowO hy) (U.rowK_eq hk)
theorem clone_r (c:CZ) (l:List CZ) (hl:(c::l).length≤1000):U.DenR Tryz.prog 178 [imS (cL (c::l))] (rowS 0 (cL (c::l))) [rowO 144 (cL (c::l))]:=by
 refine denR_of_sound hmixU fun Ts=>SoundAt.body hmixU Tryz.func178 rfl rfl rfl 0 ?_
 have hone:=cL_one (c::l);have hg1:0+((List.map encC l).length+1)≤100000:=by rw[List.length_map];simp at hl;omega
 (repeat' ((conv=>whnf);first|refine goA ?_|refine U.ob_c (grow_ok (by decide +kernel) hg1) ?_|refine goB ?_|refine U.lw_c ?_ ?_<;>intro hb))
 (conv=>whnf);refine ⟨fun k=>k+1,.grown (by simp) rfl (by simp[cL]) (by simp[cL]) (by simp[cL]),fun k b hk=>?_,fun k k' _ _ _ _ h=>by have h:k+1=k'+1:=h;omega⟩
 rcases k with _|k
 ·cases hk;exact ⟨_,rfl,.row _ _ _ _ (cleanCC (c::l)) rfl⟩
 ·simp at hk
abbrev rowT (l:List CZ):Option U.Blk:=some (.cells 144 (cellsAll (cL l)) true)
theorem vtop_d:DenU Tryz.prog [] 75 [] (encV topZ):=by
 refine denU_of_run hmixU rfl 100 20 20 fun Ts=>?_
 (repeat' ((conv=>whnf);first|refine goD ?_|refine U.lw_c ?_ ?_<;>intro hb))
 (conv=>whnf);exact .same (.flat _ rfl) rfl
theorem hav1_out {m:Bool}{C:List CZ}{i:Int}(h:i<0∨(C.length:Int)≤i):hav1 m C i=C:=if_neg (by omega)
theorem hav1_in (m:Bool) {C:List CZ}{j:Nat}(h:j<C.length):hav1 m C (j:Int)=C.set j (topC m (C.getD j botC)):=by
 rw[hav1,if_pos (by omega),Int.toNat_natCast]
theorem havL_nil (m:Bool):∀w:List Int,havL m [] w=[]
 |[]=>rfl
 |i::w=>by rw[havL,List.foldl_cons,hav1_out (by simp;omega),← havL,havL_nil m w]
theorem nth_drop:∀(l m:List Value) (k:Nat),nth (l++m) (l.length+k)=nth m k
 |[],m,k=>by rw[List.nil_append,List.length_nil,Nat.zero_add]
 |x::l,m,k=>by
  rw[List.length_cons,show l.length+1+k=(l.length+k)+1 by omega];exact nth_drop l m k
theorem cells_mark {l:List CZ}{j:Nat}(hj:j<l.length):nth (cellsAll (cL l)) (0+j*5+4)=some (.bool (l.getD j botC).k):=by
 have e:l=l.take j++l[j]::l.drop (j+1):=by rw[List.getElem_cons_drop,List.take_append_drop]
 have hlen:(cellsAll (cL (l.take j))).length=j*5:=by rw[cellsC_len,List.length_take];congr 1;omega
 rw[List.getD_eq_getElem?_getD,List.getElem?_eq_getElem hj];conv=>lhs;rw[e]
 rw[cellsC_app,Nat.zero_add,← hlen,nth_drop];rfl
theorem havoc_d (s:SZ) (x y:List Int) (m:Bool) (hn:s.none=false) (h1:s.slots.length≤1000) (h2:s.arrs.length≤1000) (hx:x.length≤maxI) (hy:y.length≤maxI):DenU Tryz.prog [] 36 [stV s,setZ x y,.bool m] (stV (havS s x y m)):=by
 refine denU_of_sound hmixU fun Ts=>SoundAt.body hmixU Tryz.func36 rfl rfl rfl 0 ?_
 have c1:=isbotS s;have k1:=cleanStV s;rw[hn] at c1;obtain ⟨sl,ar,no⟩:=s;dsimp only at *;subst hn;rcases sl with _|⟨a0,sl⟩
 ·rcases ar with _|⟨b0,ar⟩
  ·(repeat' ((conv=>whnf);first|refine goD ?_|refine U.SoundAt.u (c1) clM ?_|refine U.SoundC.u (c1) clM ?_|refine U.lw_c ?_ ?_<;>intro hb))
   refine SoundAt.body hmixU Tryz.func99 rfl rfl rfl 0 ?_;(repeat' ((conv=>whnf);first|refine goA ?_|refine U.SoundC.u clone_nil ⟨cleanCL [],trivial⟩ ?_|refine goB ?_|refine U.drawX_p (D:=U.propX) 13 [] (by decide +kernel) (by decide +kernel) ?_|refine U.lw_c ?_ ?_<;>intro hb))
   (conv=>whnf);refine SoundAt.body hmixU Tryz.func100 rfl rfl rfl 0 ?_;(repeat' ((conv=>whnf);first|refine goD ?_|refine U.lw_c ?_ ?_<;>intro hb))
   (conv=>whnf);refine SoundAt.body hmixU Tryz.func101 rfl rfl rfl 0 ?_;(repeat' ((conv=>whnf);first|refine goD ?_|refine U.lw_c ?_ ?_<;>intro hb))
   (conv=>whnf);refine loop_inv (α:=List Int×List Int) (fun q=>q.1++q.2=x) (fun q=>(mkF [(0,.pointer (some ⟨2,0,none⟩)),(2,.func (.func 102) ⟨[]⟩ ⟨[.pointer (some ⟨1,0,none⟩)]⟩),(4,.pointer (some ⟨3,0,none⟩)),(11,imS (iL x)),(12,.int .i64 (iL x).length),(13,.int .i64 q.1.length)],⟨mkO [(0,some (.cells 40 (cellsOf (setZ x y)) false)),(1,some (.cells 4 [.bool m] false)),(2,some (.cells 155 [imS [],imS [],.bool false] false)),(3,some (.cells 40 (cellsOf (setZ x y)) false))],4,0,0⟩)) (fun q=>q.2.length) ([],x) rfl (Cov.renI rfl rfl rfl rfl (.W rfl (cleanSZ_cells x y) rfl (.C rfl (.K rfl rfl .nil) (.C rfl (.L (cleanCL []) rfl (.L (cleanCL []) rfl (.K rfl rfl .nil))) (.W rfl (cleanSZ_cells x y) rfl .nil)))) (.cons rfl (.P rfl) (.cons rfl (RenV.fnL .nil (.cons (.P rfl) .nil)) (.cons rfl (.P rfl) (.L rfl (cleanIL _) rfl (.cons rfl .I (.cons rfl .I .nil))))))) ?_
   rintro ⟨p1,r1⟩ q1
   dsimp only at q1;dsimp only;rcases r1 with _|⟨i,r1⟩
   ·rw[List.append_nil] at q1;have zb:decide ((p1.length:Int)<((iL x).length:Int))=false:=by rw[← q1];exact U.lt_no iL_map p1
    (repeat' ((conv=>whnf);first|refine goD ?_|refine U.lw_c ?_ ?_<;>intro hb))
    (conv=>whnf);refine loop_inv (α:=List Int×List Int) (fun q=>q.1++q.2=y) (fun q=>(mkF [(0,.pointer (some ⟨2,0,none⟩)),(2,.func (.func 102) ⟨[]⟩ ⟨[.pointer (some ⟨1,0,none⟩)]⟩),(4,.pointer (some ⟨3,0,none⟩)),(38,imS (iL y)),(39,.int .i64 (iL y).length),(40,.int .i64 q.1.length)],⟨mkO [(0,some (.cells 40 (cellsOf (setZ x y)) false)),(1,some (.cells 4 [.bool m] false)),(2,some (.cells 155 [imS [],imS [],.bool false] false)),(3,some (.cells 40 (cellsOf (setZ x y)) false))],4,0,0⟩)) (fun q=>q.2.length) ([],y) rfl (Cov.renI rfl rfl rfl rfl (.W rfl (cleanSZ_cells x y) rfl (.C rfl (.K rfl rfl .nil) (.C rfl (.L (cleanCL []) rfl (.L (cleanCL []) rfl (.K rfl rfl .nil))) (.W rfl (cleanSZ_cells x y) rfl .nil)))) (.cons rfl (.P rfl) (.cons rfl (RenV.fnL .nil (.cons (.P rfl) .nil)) (.cons rfl (.P rfl) (.L rfl (cleanIL _) rfl (.cons rfl .I (.cons rfl .I .nil))))))) ?_
    rintro ⟨p2,r2⟩ q2
    dsimp only at q2;dsimp only;rcases r2 with _|⟨i,r2⟩
    ·rw[List.append_nil] at q2;have vb:decide ((p2.length:Int)<((iL y).length:Int))=false:=by rw[← q2];exact U.lt_no iL_map p2
     (repeat' ((conv=>whnf);first|refine goD ?_|refine U.lw_c ?_ ?_<;>intro hb))
     (conv=>whnf);rw[show stV (havS ⟨[],[],false⟩ x y m)=stV ⟨[],[],false⟩ by rw[havS,if_neg (by simp)];simp only[havL_nil]]
     exact FrzV.boxL (bR rfl) rfl (.cons (.clean _ (cleanCL [])) (.cons (.clean _ (cleanCL [])) (.cons (.clean _ (.flat _ rfl)) .nil)))
    ·have vb:=U.lt_yes iL_map p2 (i) r2;have vc:=U.blt_yes iL_map p2 (i) r2;have vn:=U.nth_at iL_map p2 (i) r2;have vw:=U.len_snoc (pre:=p2) (x:=i) (post:=r2) ((by rw[q2];exact hy))
     rw[q2] at vb vc vn;by_cases hr:i<0
     ·have g1:decide (i≥0)=false:=decide_eq_false (by omega)
      (repeat' ((conv=>whnf);first|refine goD ?_|refine U.lw_c ?_ ?_<;>intro hb))
      (conv=>whnf);exact ⟨(p2++[i],r2),by rw[← q2];simp,by simp,(Cov.renI rfl rfl rfl rfl (.W rfl (cleanSZ_cells x y) rfl (.C rfl (.K rfl rfl .nil) (.C rfl (.L (cleanCL []) rfl (.L (cleanCL []) rfl (.K rfl rfl .nil))) (.W rfl (cleanSZ_cells x y) rfl .nil)))) (.cons rfl (.P rfl) (.cons rfl (RenV.fnL .nil (.cons (.P rfl) .nil)) (.cons rfl (.P rfl) (.L rfl (cleanIL _) rfl (.cons rfl .I (.L rfl (cleanI _) (congrArg (Value.int .i64) (vw.symm)) .nil)))))))⟩
     ·have g1:decide (i≥0)=true:=decide_eq_true (by omega)
      have g2:decide (i<(([]:List Value).length:Int))=false:=decide_eq_false (by simp;omega)
      (repeat' ((conv=>whnf);first|refine goD ?_|refine U.lw_c ?_ ?_<;>intro hb))
      (conv=>whnf);exact ⟨(p2++[i],r2),by rw[← q2];simp,by simp,(Cov.renI rfl rfl rfl rfl (.W rfl (cleanSZ_cells x y) rfl (.C rfl (.K rfl rfl .nil) (.C rfl (.L (cleanCL []) rfl (.L (cleanCL []) rfl (.K rfl rfl .nil))) (.W rfl (cleanSZ_cells x y) rfl .nil)))) (.cons rfl (.P rfl) (.cons rfl (RenV.fnL .nil (.cons (.P rfl) .nil)) (.cons rfl (.P rfl) (.L rfl (cleanIL _) rfl (.cons rfl .I (.L rfl (cleanI _) (congrArg (Value.int .i64) (vw.symm)) .nil)))))))⟩
   ·have zb:=U.lt_yes iL_map p1 (i) r1;have zc:=U.blt_yes iL_map p1 (i) r1;have zn:=U.nth_at iL_map p1 (i) r1;have zw:=U.len_snoc (pre:=p1) (x:=i) (post:=r1) ((by rw[q1];exact hx))
    rw[q1] at zb zc zn;by_cases hr:i<0
    ·have g1:decide (i≥0)=false:=decide_eq_false (by omega)
     (repeat' ((conv=>whnf);first|refine goD ?_|refine U.lw_c ?_ ?_<;>intro hb))
     (conv=>whnf);exact ⟨(p1++[i],r1),by rw[← q1];simp,by simp,(Cov.renI rfl rfl rfl rfl (.W rfl (cleanSZ_cells x y) rfl (.C rfl (.K rfl rfl .nil) (.C rfl (.L (cleanCL []) rfl (.L (cleanCL []) rfl (.K rfl rfl .nil))) (.W rfl (cleanSZ_cells x y) rfl .nil)))) (.cons rfl (.P rfl) (.cons rfl (RenV.fnL .nil (.cons (.P rfl) .nil)) (.cons rfl (.P rfl) (.L rfl (cleanIL _) rfl (.cons rfl .I (.L rfl (cleanI _) (congrArg (Value.int .i64) (zw.symm)) .nil)))))))⟩
    ·have g1:decide (i≥0)=true:=decide_eq_true (by omega)
     have g2:decide (i<(([]:List Value).length:Int))=false:=decide_eq_false (by simp;omega)
     (repeat' ((conv=>whnf);first|refine goD ?_|refine U.lw_c ?_ ?_<;>intro hb))
     (conv=>whnf);exact ⟨(p1++[i],r1),by rw[← q1];simp,by simp,(Cov.renI rfl rfl rfl rfl (.W rfl (cleanSZ_cells x y) rfl (.C rfl (.K rfl rfl .nil) (.C rfl (.L (cleanCL []) rfl (.L (cleanCL []) rfl (.K rfl rfl .nil))) (.W rfl (cleanSZ_cells x y) rfl .nil)))) (.cons rfl (.P rfl) (.cons rfl (RenV.fnL .nil (.cons (.P rfl) .nil)) (.cons rfl (.P rfl) (.L rfl (cleanIL _) rfl (.cons rfl .I (.L rfl (cleanI _) (congrArg (Value.int .i64) (zw.symm)) .nil)))))))⟩
  ·have d2:=clone_r b0 ar h2;(repeat' ((conv=>whnf);first|refine goD ?_|refine U.SoundAt.u (c1) clM ?_|refine U.SoundC.u (c1) clM ?_|refine U.lw_c ?_ ?_<;>intro hb))
   refine SoundAt.body hmixU Tryz.func99 rfl rfl rfl 0 ?_;(repeat' ((conv=>whnf);first|refine goA ?_|refine U.SoundC.u clone_nil ⟨cleanCL [],trivial⟩ ?_|refine rowO_c d2 ⟨cleanCL _,trivial⟩ rfl (cleanCC _) ?_|refine goB ?_|refine U.drawX_p (D:=U.propX) 13 [] (by decide +kernel) (by decide +kernel) ?_|refine U.lw_c ?_ ?_<;>intro hb))
   (conv=>whnf);refine SoundAt.body hmixU Tryz.func100 rfl rfl rfl 0 ?_;(repeat' ((conv=>whnf);first|refine goD ?_|refine U.lw_c ?_ ?_<;>intro hb))
   (conv=>whnf);refine SoundAt.body hmixU Tryz.func101 rfl rfl rfl 0 ?_;(repeat' ((conv=>whnf);first|refine goD ?_|refine U.lw_c ?_ ?_<;>intro hb))
   (conv=>whnf);refine loop_inv (α:=List Int×List Int) (fun q=>q.1++q.2=x) (fun q=>(mkF [(0,.pointer (some ⟨3,0,none⟩)),(2,.func (.func 102) ⟨[]⟩ ⟨[.pointer (some ⟨1,0,none⟩)]⟩),(4,.pointer (some ⟨4,0,none⟩)),(11,imS (iL x)),(12,.int .i64 (iL x).length),(13,.int .i64 q.1.length)],⟨mkO [(0,some (.cells 40 (cellsOf (setZ x y)) false)),(1,some (.cells 4 [.bool m] false)),(2,rowT (b0::ar)),(3,some (.cells 155 [imS [],slC 2 (ar.length+1),.bool false] false)),(4,some (.cells 40 (cellsOf (setZ x y)) false))],5,0,0⟩)) (fun q=>q.2.length) ([],x) rfl (Cov.renI rfl rfl rfl rfl (.W rfl (cleanSZ_cells x y) rfl (.C rfl (.K rfl rfl .nil) (.W rfl (cleanCC _) rfl (.C rfl (.L (cleanCL []) rfl (.cons (.sl _ _ _ _ _ _ _ (by decide) rfl (by simp[cL]) (by simp[cL])) (.K rfl rfl .nil))) (.W rfl (cleanSZ_cells x y) rfl .nil))))) (.cons rfl (.P rfl) (.cons rfl (RenV.fnL .nil (.cons (.P rfl) .nil)) (.cons rfl (.P rfl) (.L rfl (cleanIL _) rfl (.cons rfl .I (.cons rfl .I .nil))))))) ?_
   rintro ⟨p1,r1⟩ q1
   dsimp only at q1;dsimp only;rcases r1 with _|⟨i,r1⟩
   ·rw[List.append_nil] at q1;have zb:decide ((p1.length:Int)<((iL x).length:Int))=false:=by rw[← q1];exact U.lt_no iL_map p1
    (repeat' ((conv=>whnf);first|refine goD ?_|refine U.lw_c ?_ ?_<;>intro hb))
    (conv=>whnf);refine loop_inv (α:=List Int×List Int) (fun q=>q.1++q.2=y) (fun q=>(mkF [(0,.pointer (some ⟨3,0,none⟩)),(2,.func (.func 102) ⟨[]⟩ ⟨[.pointer (some ⟨1,0,none⟩)]⟩),(4,.pointer (some ⟨4,0,none⟩)),(38,imS (iL y)),(39,.int .i64 (iL y).length),(40,.int .i64 q.1.length)],⟨mkO [(0,some (.cells 40 (cellsOf (setZ x y)) false)),(1,some (.cells 4 [.bool m] false)),(2,rowT (havL m (b0::ar) q.1)),(3,some (.cells 155 [imS [],slC 2 (ar.length+1),.bool false] false)),(4,some (.cells 40 (cellsOf (setZ x y)) false))],5,0,0⟩)) (fun q=>q.2.length) ([],y) rfl (Cov.renI rfl rfl rfl rfl (.W rfl (cleanSZ_cells x y) rfl (.C rfl (.K rfl rfl .nil) (.W rfl (cleanCC _) rfl (.C rfl (.L (cleanCL []) rfl (.cons (.sl _ _ _ _ _ _ _ (by decide) rfl rfl rfl) (.K rfl rfl .nil))) (.W rfl (cleanSZ_cells x y) rfl .nil))))) (.cons rfl (.P rfl) (.cons rfl (RenV.fnL .nil (.cons (.P rfl) .nil)) (.cons rfl (.P rfl) (.L rfl (cleanIL _) rfl (.cons rfl .I (.cons rfl .I .nil))))))) ?_
    rintro ⟨p2,r2⟩ q2
    dsimp only at q2;dsimp only;rcases r2 with _|⟨i,r2⟩
    ·rw[List.append_nil] at q2;have vb:decide ((p2.length:Int)<((iL y).length:Int))=false:=by rw[← q2];exact U.lt_no iL_map p2
     obtain ⟨C2,hC2⟩:∃C,C=havL m (b0::ar) p2:=⟨_,rfl⟩
     have hl2:C2.length=ar.length+1:=by rw[hC2,havL_len];rfl
     rw[← hC2];rw[q2] at hC2;(repeat' ((conv=>whnf);first|refine goD ?_|refine U.lw_c ?_ ?_<;>intro hb))
     (conv=>whnf);rw[show stV (havS ⟨[],(b0::ar),false⟩ x y m)=stV ⟨[],C2,false⟩ by rw[havS,if_neg (by simp)];rw[hC2];simp only[havL_nil]]
     exact FrzV.boxL (bR rfl) rfl (.cons (.clean _ (cleanCL [])) (.cons (.rowL (ys:=cL C2) (bR rfl) rfl rfl (cL_5 C2) (by rw[cL_len,hl2]) rL (cleanCC _)) (.cons (.clean _ (.flat _ rfl)) .nil)))
    ·have vb:=U.lt_yes iL_map p2 (i) r2;have vc:=U.blt_yes iL_map p2 (i) r2;have vn:=U.nth_at iL_map p2 (i) r2;have vw:=U.len_snoc (pre:=p2) (x:=i) (post:=r2) ((by rw[q2];exact hy))
     rw[q2] at vb vc vn;obtain ⟨C,hC⟩:∃C,C=havL m (b0::ar) p2:=⟨_,rfl⟩
     have hl:C.length=ar.length+1:=by rw[hC,havL_len];rfl
     have e9:havL m (b0::ar) (p2++[i])=hav1 m C i:=by rw[hC];simp[havL]
     rw[← hC];clear hC;by_cases b1:i<0
     ·have g1:decide (i≥0)=false:=decide_eq_false (by omega)
      (repeat' ((conv=>whnf);first|refine goD ?_|refine U.lw_c ?_ ?_<;>intro hb))
      (conv=>whnf);exact ⟨(p2++[i],r2),by rw[← q2];simp,by simp,by rw[e9,hav1_out (.inl b1)];exact (Cov.renI rfl rfl rfl rfl (.W rfl (cleanSZ_cells x y) rfl (.C rfl (.K rfl rfl .nil) (.W rfl (cleanCC _) rfl (.C rfl (.L (cleanCL []) rfl (.cons (.sl _ _ _ _ _ _ _ (by decide) rfl rfl rfl) (.K rfl rfl .nil))) (.W rfl (cleanSZ_cells x y) rfl .nil))))) (.cons rfl (.P rfl) (.cons rfl (RenV.fnL .nil (.cons (.P rfl) .nil)) (.cons rfl (.P rfl) (.L rfl (cleanIL _) rfl (.cons rfl .I (.L rfl (cleanI _) (congrArg (Value.int .i64) (vw.symm)) .nil)))))))⟩
     have g1:decide (i≥0)=true:=decide_eq_true (by omega)
     by_cases b2:((ar.length+1:Nat):Int)≤i
     ·have g2:decide (i<((ar.length+1:Nat):Int))=false:=decide_eq_false (by omega)
      (repeat' ((conv=>whnf);first|refine goD ?_|refine U.lw_c ?_ ?_<;>intro hb))
      (conv=>whnf);exact ⟨(p2++[i],r2),by rw[← q2];simp,by simp,by rw[e9,hav1_out (.inr (by rw[hl];exact b2))];exact (Cov.renI rfl rfl rfl rfl (.W rfl (cleanSZ_cells x y) rfl (.C rfl (.K rfl rfl .nil) (.W rfl (cleanCC _) rfl (.C rfl (.L (cleanCL []) rfl (.cons (.sl _ _ _ _ _ _ _ (by decide) rfl rfl rfl) (.K rfl rfl .nil))) (.W rfl (cleanSZ_cells x y) rfl .nil))))) (.cons rfl (.P rfl) (.cons rfl (RenV.fnL .nil (.cons (.P rfl) .nil)) (.cons rfl (.P rfl) (.L rfl (cleanIL _) rfl (.cons rfl .I (.L rfl (cleanI _) (congrArg (Value.int .i64) (vw.symm)) .nil)))))))⟩
     have g2:decide (i<((ar.length+1:Nat):Int))=true:=decide_eq_true (by omega)
     obtain ⟨j,rfl⟩:=Int.eq_ofNat_of_zero_le (by omega:0≤i)
     have hj:j<C.length:=by omega
     have g3:Nat.blt j (ar.length+1)=true:=bLe (by omega)
     have e8:=hav1_in m hj;have hst:0+j*5+(cellsOf (encC (topC m (C.getD j botC)))).length≤(cellsAll (cL C)).length:=by rw[cellsC_len];show 0+j*5+5≤_;omega
     have hrp:=cells_put (l:=C) (j:=j) hj (topC m (C.getD j botC));have hld:=cells_mark (l:=C) (j:=j) hj;have htp:=vtop_d;(repeat' ((conv=>whnf);first|refine goD ?_|refine U.lw_c ?_ ?_<;>intro hb))
     (conv=>whnf);refine SoundAt.body hmixU Tryz.func102 rfl rfl rfl 0 ?_;obtain ⟨cv,hcv⟩:∃c,c=C.getD j botC:=⟨_,rfl⟩
     rw[← hcv] at e8 hst hrp hld;obtain ⟨⟨lo,hi,mm,rr⟩,ck⟩:=cv;cases ck with
     |true =>
      rw[show topC m ⟨⟨lo,hi,mm,rr⟩,true⟩=⟨topZ,true⟩ by simp[topC]] at e8 hst hrp
      (repeat' ((conv=>whnf);first|refine goA ?_|refine U.onV_p hld ?_|refine nthM_p hld ?_|refine U.storeC_p hst ?_|refine goB ?_|refine U.SoundAt.u (htp) clM ?_|refine U.SoundC.u (htp) clM ?_|refine U.drawX_p (D:=U.propX) 11 [] (by decide +kernel) (by decide +kernel) ?_|refine U.lw_c ?_ ?_<;>intro hb))
      (conv=>whnf);exact ⟨(p2++[(j:Int)],r2),by rw[← q2];simp,by simp,by rw[e9,e8];exact (Cov.renI rfl rfl rfl rfl (.W rfl (cleanSZ_cells x y) rfl (.C rfl (.K rfl rfl .nil) (.W rfl (cleanCC _) ((by rw[Nat.zero_add];exact hrp.symm)) (.C rfl (.L (cleanCL []) rfl (.cons (.sl _ _ _ _ _ _ _ (by decide) rfl rfl rfl) (.K rfl rfl .nil))) (.W rfl (cleanSZ_cells x y) rfl .nil))))) (.cons rfl (.P rfl) (.cons rfl (RenV.fnL .nil (.cons (.P rfl) .nil)) (.cons rfl (.P rfl) (.L rfl (cleanIL _) rfl (.cons rfl .I (.L rfl (cleanI _) (congrArg (Value.int .i64) (vw.symm)) .nil)))))))⟩
     |false =>
      rw[show topC m ⟨⟨lo,hi,mm,rr⟩,false⟩=⟨topZ,m⟩ by simp[topC]] at e8 hst hrp
      (repeat' ((conv=>whnf);first|refine goA ?_|refine U.onV_p hld ?_|refine nthM_p hld ?_|refine U.storeC_p hst ?_|refine goB ?_|refine U.SoundAt.u (htp) clM ?_|refine U.SoundC.u (htp) clM ?_|refine U.drawX_p (D:=U.propX) 11 [] (by decide +kernel) (by decide +kernel) ?_|refine U.lw_c ?_ ?_<;>intro hb))
      (conv=>whnf);exact ⟨(p2++[(j:Int)],r2),by rw[← q2];simp,by simp,by rw[e9,e8];exact (Cov.renI rfl rfl rfl rfl (.W rfl (cleanSZ_cells x y) rfl (.C rfl (.K rfl rfl .nil) (.W rfl (cleanCC _) ((by rw[Nat.zero_add];exact hrp.symm)) (.C rfl (.L (cleanCL []) rfl (.cons (.sl _ _ _ _ _ _ _ (by decide) rfl rfl rfl) (.K rfl rfl .nil))) (.W rfl (cleanSZ_cells x y) rfl .nil))))) (.cons rfl (.P rfl) (.cons rfl (RenV.fnL .nil (.cons (.P rfl) .nil)) (.cons rfl (.P rfl) (.L rfl (cleanIL _) rfl (.cons rfl .I (.L rfl (cleanI _) (congrArg (Value.int .i64) (vw.symm)) .nil)))))))⟩
   ·have zb:=U.lt_yes iL_map p1 (i) r1;have zc:=U.blt_yes iL_map p1 (i) r1;have zn:=U.nth_at iL_map p1 (i) r1;have zw:=U.len_snoc (pre:=p1) (x:=i) (post:=r1) ((by rw[q1];exact hx))
    rw[q1] at zb zc zn;by_cases hr:i<0
    ·have g1:decide (i≥0)=false:=decide_eq_false (by omega)
     (repeat' ((conv=>whnf);first|refine goD ?_|refine U.lw_c ?_ ?_<;>intro hb))
     (conv=>whnf);exact ⟨(p1++[i],r1),by rw[← q1];simp,by simp,(Cov.renI rfl rfl rfl rfl (.W rfl (cleanSZ_cells x y) rfl (.C rfl (.K rfl rfl .nil) (.W rfl (cleanCC _) rfl (.C rfl (.L (cleanCL []) rfl (.cons (.sl _ _ _ _ _ _ _ (by decide) rfl rfl rfl) (.K rfl rfl .nil))) (.W rfl (cleanSZ_cells x y) rfl .nil))))) (.cons rfl (.P rfl) (.cons rfl (RenV.fnL .nil (.cons (.P rfl) .nil)) (.cons rfl (.P rfl) (.L rfl (cleanIL _) rfl (.cons rfl .I (.L rfl (cleanI _) (congrArg (Value.int .i64) (zw.symm)) .nil)))))))⟩
    ·have g1:decide (i≥0)=true:=decide_eq_true (by omega)
     have g2:decide (i<(([]:List Value).length:Int))=false:=decide_eq_false (by simp;omega)
     (repeat' ((conv=>whnf);first|refine goD ?_|refine U.lw_c ?_ ?_<;>intro hb))
     (conv=>whnf);exact ⟨(p1++[i],r1),by rw[← q1];simp,by simp,(Cov.renI rfl rfl rfl rfl (.W rfl (cleanSZ_cells x y) rfl (.C rfl (.K rfl rfl .nil) (.W rfl (cleanCC _) rfl (.C rfl (.L (cleanCL []) rfl (.cons (.sl _ _ _ _ _ _ _ (by decide) rfl rfl rfl) (.K rfl rfl .nil))) (.W rfl (cleanSZ_cells x y) rfl .nil))))) (.cons rfl (.P rfl) (.cons rfl (RenV.fnL .nil (.cons (.P rfl) .nil)) (.cons rfl (.P rfl) (.L rfl (cleanIL _) rfl (.cons rfl .I (.L rfl (cleanI _) (congrArg (Value.int .i64) (zw.symm)) .nil)))))))⟩
 ·rcases ar with _|⟨b0,ar⟩
  ·have d1:=clone_r a0 sl h1;(repeat' ((conv=>whnf);first|refine goD ?_|refine U.SoundAt.u (c1) clM ?_|refine U.SoundC.u (c1) clM ?_|refine U.lw_c ?_ ?_<;>intro hb))
   refine SoundAt.body hmixU Tryz.func99 rfl rfl rfl 0 ?_;(repeat' ((conv=>whnf);first|refine goA ?_|refine U.SoundC.u clone_nil ⟨cleanCL [],trivial⟩ ?_|refine rowO_c d1 ⟨cleanCL _,trivial⟩ rfl (cleanCC _) ?_|refine goB ?_|refine U.drawX_p (D:=U.propX) 13 [] (by decide +kernel) (by decide +kernel) ?_|refine U.lw_c ?_ ?_<;>intro hb))
   (conv=>whnf);refine SoundAt.body hmixU Tryz.func100 rfl rfl rfl 0 ?_;(repeat' ((conv=>whnf);first|refine goD ?_|refine U.lw_c ?_ ?_<;>intro hb))
   (conv=>whnf);refine SoundAt.body hmixU Tryz.func101 rfl rfl rfl 0 ?_;(repeat' ((conv=>whnf);first|refine goD ?_|refine U.lw_c ?_ ?_<;>intro hb))
   (conv=>whnf);refine loop_inv (α:=List Int×List Int) (fun q=>q.1++q.2=x) (fun q=>(mkF [(0,.pointer (some ⟨3,0,none⟩)),(2,.func (.func 102) ⟨[]⟩ ⟨[.pointer (some ⟨1,0,none⟩)]⟩),(4,.pointer (some ⟨4,0,none⟩)),(11,imS (iL x)),(12,.int .i64 (iL x).length),(13,.int .i64 q.1.length)],⟨mkO [(0,some (.cells 40 (cellsOf (setZ x y)) false)),(1,some (.cells 4 [.bool m] false)),(2,rowT (havL m (a0::sl) q.1)),(3,some (.cells 155 [slC 2 (sl.length+1),imS [],.bool false] false)),(4,some (.cells 40 (cellsOf (setZ x y)) false))],5,0,0⟩)) (fun q=>q.2.length) ([],x) rfl (Cov.renI rfl rfl rfl rfl (.W rfl (cleanSZ_cells x y) rfl (.C rfl (.K rfl rfl .nil) (.W rfl (cleanCC _) rfl (.C rfl (.cons (.sl _ _ _ _ _ _ _ (by decide) rfl (by simp[cL]) (by simp[cL])) (.L (cleanCL []) rfl (.K rfl rfl .nil))) (.W rfl (cleanSZ_cells x y) rfl .nil))))) (.cons rfl (.P rfl) (.cons rfl (RenV.fnL .nil (.cons (.P rfl) .nil)) (.cons rfl (.P rfl) (.L rfl (cleanIL _) rfl (.cons rfl .I (.cons rfl .I .nil))))))) ?_
   rintro ⟨p1,r1⟩ q1
   dsimp only at q1;dsimp only;rcases r1 with _|⟨i,r1⟩
   ·rw[List.append_nil] at q1;have zb:decide ((p1.length:Int)<((iL x).length:Int))=false:=by rw[← q1];exact U.lt_no iL_map p1
    obtain ⟨C1,hC1⟩:∃C,C=havL m (a0::sl) p1:=⟨_,rfl⟩
    have hl1:C1.length=sl.length+1:=by rw[hC1,havL_len];rfl
    rw[← hC1];rw[q1] at hC1;(repeat' ((conv=>whnf);first|refine goD ?_|refine U.lw_c ?_ ?_<;>intro hb))
    (conv=>whnf);refine loop_inv (α:=List Int×List Int) (fun q=>q.1++q.2=y) (fun q=>(mkF [(0,.pointer (some ⟨3,0,none⟩)),(2,.func (.func 102) ⟨[]⟩ ⟨[.pointer (some ⟨1,0,none⟩)]⟩),(4,.pointer (some ⟨4,0,none⟩)),(38,imS (iL y)),(39,.int .i64 (iL y).length),(40,.int .i64 q.1.length)],⟨mkO [(0,some (.cells 40 (cellsOf (setZ x y)) false)),(1,some (.cells 4 [.bool m] false)),(2,rowT C1),(3,some (.cells 155 [slC 2 (sl.length+1),imS [],.bool false] false)),(4,some (.cells 40 (cellsOf (setZ x y)) false))],5,0,0⟩)) (fun q=>q.2.length) ([],y) rfl (Cov.renI rfl rfl rfl rfl (.W rfl (cleanSZ_cells x y) rfl (.C rfl (.K rfl rfl .nil) (.W rfl (cleanCC _) rfl (.C rfl (.cons (.sl _ _ _ _ _ _ _ (by decide) rfl rfl rfl) (.L (cleanCL []) rfl (.K rfl rfl .nil))) (.W rfl (cleanSZ_cells x y) rfl .nil))))) (.cons rfl (.P rfl) (.cons rfl (RenV.fnL .nil (.cons (.P rfl) .nil)) (.cons rfl (.P rfl) (.L rfl (cleanIL _) rfl (.cons rfl .I (.cons rfl .I .nil))))))) ?_
    rintro ⟨p2,r2⟩ q2
    dsimp only at q2;dsimp only;rcases r2 with _|⟨i,r2⟩
    ·rw[List.append_nil] at q2;have vb:decide ((p2.length:Int)<((iL y).length:Int))=false:=by rw[← q2];exact U.lt_no iL_map p2
     (repeat' ((conv=>whnf);first|refine goD ?_|refine U.lw_c ?_ ?_<;>intro hb))
     (conv=>whnf);rw[show stV (havS ⟨(a0::sl),[],false⟩ x y m)=stV ⟨C1,[],false⟩ by rw[havS,if_neg (by simp)];rw[hC1];simp only[havL_nil]]
     exact FrzV.boxL (bR rfl) rfl (.cons (.rowL (ys:=cL C1) (bR rfl) rfl rfl (cL_5 C1) (by rw[cL_len,hl1]) rL (cleanCC _)) (.cons (.clean _ (cleanCL [])) (.cons (.clean _ (.flat _ rfl)) .nil)))
    ·have vb:=U.lt_yes iL_map p2 (i) r2;have vc:=U.blt_yes iL_map p2 (i) r2;have vn:=U.nth_at iL_map p2 (i) r2;have vw:=U.len_snoc (pre:=p2) (x:=i) (post:=r2) ((by rw[q2];exact hy))
     rw[q2] at vb vc vn;by_cases hr:i<0
     ·have g1:decide (i≥0)=false:=decide_eq_false (by omega)
      (repeat' ((conv=>whnf);first|refine goD ?_|refine U.lw_c ?_ ?_<;>intro hb))
      (conv=>whnf);exact ⟨(p2++[i],r2),by rw[← q2];simp,by simp,(Cov.renI rfl rfl rfl rfl (.W rfl (cleanSZ_cells x y) rfl (.C rfl (.K rfl rfl .nil) (.W rfl (cleanCC _) rfl (.C rfl (.cons (.sl _ _ _ _ _ _ _ (by decide) rfl rfl rfl) (.L (cleanCL []) rfl (.K rfl rfl .nil))) (.W rfl (cleanSZ_cells x y) rfl .nil))))) (.cons rfl (.P rfl) (.cons rfl (RenV.fnL .nil (.cons (.P rfl) .nil)) (.cons rfl (.P rfl) (.L rfl (cleanIL _) rfl (.cons rfl .I (.L rfl (cleanI _) (congrArg (Value.int .i64) (vw.symm)) .nil)))))))⟩
     ·have g1:decide (i≥0)=true:=decide_eq_true (by omega)
      have g2:decide (i<(([]:List Value).length:Int))=false:=decide_eq_false (by simp;omega)
      (repeat' ((conv=>whnf);first|refine goD ?_|refine U.lw_c ?_ ?_<;>intro hb))
      (conv=>whnf);exact ⟨(p2++[i],r2),by rw[← q2];simp,by simp,(Cov.renI rfl rfl rfl rfl (.W rfl (cleanSZ_cells x y) rfl (.C rfl (.K rfl rfl .nil) (.W rfl (cleanCC _) rfl (.C rfl (.cons (.sl _ _ _ _ _ _ _ (by decide) rfl rfl rfl) (.L (cleanCL []) rfl (.K rfl rfl .nil))) (.W rfl (cleanSZ_cells x y) rfl .nil))))) (.cons rfl (.P rfl) (.cons rfl (RenV.fnL .nil (.cons (.P rfl) .nil)) (.cons rfl (.P rfl) (.L rfl (cleanIL _) rfl (.cons rfl .I (.L rfl (cleanI _) (congrArg (Value.int .i64) (vw.symm)) .nil)))))))⟩
   ·have zb:=U.lt_yes iL_map p1 (i) r1;have zc:=U.blt_yes iL_map p1 (i) r1;have zn:=U.nth_at iL_map p1 (i) r1;have zw:=U.len_snoc (pre:=p1) (x:=i) (post:=r1) ((by rw[q1];exact hx))
    rw[q1] at zb zc zn;obtain ⟨C,hC⟩:∃C,C=havL m (a0::sl) p1:=⟨_,rfl⟩
    have hl:C.length=sl.length+1:=by rw[hC,havL_len];rfl
    have e9:havL m (a0::sl) (p1++[i])=hav1 m C i:=by rw[hC];simp[havL]
    rw[← hC];clear hC;by_cases b1:i<0
    ·have g1:decide (i≥0)=false:=decide_eq_false (by omega)
     (repeat' ((conv=>whnf);first|refine goD ?_|refine U.lw_c ?_ ?_<;>intro hb))
     (conv=>whnf);exact ⟨(p1++[i],r1),by rw[← q1];simp,by simp,by rw[e9,hav1_out (.inl b1)];exact (Cov.renI rfl rfl rfl rfl (.W rfl (cleanSZ_cells x y) rfl (.C rfl (.K rfl rfl .nil) (.W rfl (cleanCC _) rfl (.C rfl (.cons (.sl _ _ _ _ _ _ _ (by decide) rfl rfl rfl) (.L (cleanCL []) rfl (.K rfl rfl .nil))) (.W rfl (cleanSZ_cells x y) rfl .nil))))) (.cons rfl (.P rfl) (.cons rfl (RenV.fnL .nil (.cons (.P rfl) .nil)) (.cons rfl (.P rfl) (.L rfl (cleanIL _) rfl (.cons rfl .I (.L rfl (cleanI _) (congrArg (Value.int .i64) (zw.symm)) .nil)))))))⟩
    have g1:decide (i≥0)=true:=decide_eq_true (by omega)
    by_cases b2:((sl.length+1:Nat):Int)≤i
    ·have g2:decide (i<((sl.length+1:Nat):Int))=false:=decide_eq_false (by omega)
     (repeat' ((conv=>whnf);first|refine goD ?_|refine U.lw_c ?_ ?_<;>intro hb))
     (conv=>whnf);exact ⟨(p1++[i],r1),by rw[← q1];simp,by simp,by rw[e9,hav1_out (.inr (by rw[hl];exact b2))];exact (Cov.renI rfl rfl rfl rfl (.W rfl (cleanSZ_cells x y) rfl (.C rfl (.K rfl rfl .nil) (.W rfl (cleanCC _) rfl (.C rfl (.cons (.sl _ _ _ _ _ _ _ (by decide) rfl rfl rfl) (.L (cleanCL []) rfl (.K rfl rfl .nil))) (.W rfl (cleanSZ_cells x y) rfl .nil))))) (.cons rfl (.P rfl) (.cons rfl (RenV.fnL .nil (.cons (.P rfl) .nil)) (.cons rfl (.P rfl) (.L rfl (cleanIL _) rfl (.cons rfl .I (.L rfl (cleanI _) (congrArg (Value.int .i64) (zw.symm)) .nil)))))))⟩
    have g2:decide (i<((sl.length+1:Nat):Int))=true:=decide_eq_true (by omega)
    obtain ⟨j,rfl⟩:=Int.eq_ofNat_of_zero_le (by omega:0≤i)
    have hj:j<C.length:=by omega
    have g3:Nat.blt j (sl.length+1)=true:=bLe (by omega)
    have e8:=hav1_in m hj;have hst:0+j*5+(cellsOf (encC (topC m (C.getD j botC)))).length≤(cellsAll (cL C)).length:=by rw[cellsC_len];show 0+j*5+5≤_;omega
    have hrp:=cells_put (l:=C) (j:=j) hj (topC m (C.getD j botC));have hld:=cells_mark (l:=C) (j:=j) hj;have htp:=vtop_d;(repeat' ((conv=>whnf);first|refine goD ?_|refine U.lw_c ?_ ?_<;>intro hb))
    (conv=>whnf);refine SoundAt.body hmixU Tryz.func102 rfl rfl rfl 0 ?_;obtain ⟨cv,hcv⟩:∃c,c=C.getD j botC:=⟨_,rfl⟩
    rw[← hcv] at e8 hst hrp hld;obtain ⟨⟨lo,hi,mm,rr⟩,ck⟩:=cv;cases ck with
    |true =>
     rw[show topC m ⟨⟨lo,hi,mm,rr⟩,true⟩=⟨topZ,true⟩ by simp[topC]] at e8 hst hrp
     (repeat' ((conv=>whnf);first|refine goA ?_|refine U.onV_p hld ?_|refine nthM_p hld ?_|refine U.storeC_p hst ?_|refine goB ?_|refine U.SoundAt.u (htp) clM ?_|refine U.SoundC.u (htp) clM ?_|refine U.drawX_p (D:=U.propX) 11 [] (by decide +kernel) (by decide +kernel) ?_|refine U.lw_c ?_ ?_<;>intro hb))
     (conv=>whnf);exact ⟨(p1++[(j:Int)],r1),by rw[← q1];simp,by simp,by rw[e9,e8];exact (Cov.renI rfl rfl rfl rfl (.W rfl (cleanSZ_cells x y) rfl (.C rfl (.K rfl rfl .nil) (.W rfl (cleanCC _) ((by rw[Nat.zero_add];exact hrp.symm)) (.C rfl (.cons (.sl _ _ _ _ _ _ _ (by decide) rfl rfl rfl) (.L (cleanCL []) rfl (.K rfl rfl .nil))) (.W rfl (cleanSZ_cells x y) rfl .nil))))) (.cons rfl (.P rfl) (.cons rfl (RenV.fnL .nil (.cons (.P rfl) .nil)) (.cons rfl (.P rfl) (.L rfl (cleanIL _) rfl (.cons rfl .I (.L rfl (cleanI _) (congrArg (Value.int .i64) (zw.symm)) .nil)))))))⟩
    |false =>
     rw[show topC m ⟨⟨lo,hi,mm,rr⟩,false⟩=⟨topZ,m⟩ by simp[topC]] at e8 hst hrp
     (repeat' ((conv=>whnf);first|refine goA ?_|refine U.onV_p hld ?_|refine nthM_p hld ?_|refine U.storeC_p hst ?_|refine goB ?_|refine U.SoundAt.u (htp) clM ?_|refine U.SoundC.u (htp) clM ?_|refine U.drawX_p (D:=U.propX) 11 [] (by decide +kernel) (by decide +kernel) ?_|refine U.lw_c ?_ ?_<;>intro hb))
     (conv=>whnf);exact ⟨(p1++[(j:Int)],r1),by rw[← q1];simp,by simp,by rw[e9,e8];exact (Cov.renI rfl rfl rfl rfl (.W rfl (cleanSZ_cells x y) rfl (.C rfl (.K rfl rfl .nil) (.W rfl (cleanCC _) ((by rw[Nat.zero_add];exact hrp.symm)) (.C rfl (.cons (.sl _ _ _ _ _ _ _ (by decide) rfl rfl rfl) (.L (cleanCL []) rfl (.K rfl rfl .nil))) (.W rfl (cleanSZ_cells x y) rfl .nil))))) (.cons rfl (.P rfl) (.cons rfl (RenV.fnL .nil (.cons (.P rfl) .nil)) (.cons rfl (.P rfl) (.L rfl (cleanIL _) rfl (.cons rfl .I (.L rfl (cleanI _) (congrArg (Value.int .i64) (zw.symm)) .nil)))))))⟩
  ·have d1:=clone_r a0 sl h1;have d2:=clone_r b0 ar h2;(repeat' ((conv=>whnf);first|refine goD ?_|refine U.SoundAt.u (c1) clM ?_|refine U.SoundC.u (c1) clM ?_|refine U.lw_c ?_ ?_<;>intro hb))
   refine SoundAt.body hmixU Tryz.func99 rfl rfl rfl 0 ?_;(repeat' ((conv=>whnf);first|refine goA ?_|refine rowO_c d1 ⟨cleanCL _,trivial⟩ rfl (cleanCC _) ?_|refine rowO_c d2 ⟨cleanCL _,trivial⟩ rfl (cleanCC _) ?_|refine goB ?_|refine U.drawX_p (D:=U.propX) 13 [] (by decide +kernel) (by decide +kernel) ?_|refine U.lw_c ?_ ?_<;>intro hb))
   (conv=>whnf);refine SoundAt.body hmixU Tryz.func100 rfl rfl rfl 0 ?_;(repeat' ((conv=>whnf);first|refine goD ?_|refine U.lw_c ?_ ?_<;>intro hb))
   (conv=>whnf);refine SoundAt.body hmixU Tryz.func101 rfl rfl rfl 0 ?_;(repeat' ((conv=>whnf);first|refine goD ?_|refine U.lw_c ?_ ?_<;>intro hb))
   (conv=>whnf);refine loop_inv (α:=List Int×List Int) (fun q=>q.1++q.2=x) (fun q=>(mkF [(0,.pointer (some ⟨4,0,none⟩)),(2,.func (.func 102) ⟨[]⟩ ⟨[.pointer (some ⟨1,0,none⟩)]⟩),(4,.pointer (some ⟨5,0,none⟩)),(11,imS (iL x)),(12,.int .i64 (iL x).length),(13,.int .i64 q.1.length)],⟨mkO [(0,some (.cells 40 (cellsOf (setZ x y)) false)),(1,some (.cells 4 [.bool m] false)),(2,rowT (havL m (a0::sl) q.1)),(3,rowT (b0::ar)),(4,some (.cells 155 [slC 2 (sl.length+1),slC 3 (ar.length+1),.bool false] false)),(5,some (.cells 40 (cellsOf (setZ x y)) false))],6,0,0⟩)) (fun q=>q.2.length) ([],x) rfl (Cov.renI rfl rfl rfl rfl (.W rfl (cleanSZ_cells x y) rfl (.C rfl (.K rfl rfl .nil) (.W rfl (cleanCC _) rfl (.W rfl (cleanCC _) rfl (.C rfl (.cons (.sl _ _ _ _ _ _ _ (by decide) rfl (by simp[cL]) (by simp[cL])) (.cons (.sl _ _ _ _ _ _ _ (by decide) rfl (by simp[cL]) (by simp[cL])) (.K rfl rfl .nil))) (.W rfl (cleanSZ_cells x y) rfl .nil)))))) (.cons rfl (.P rfl) (.cons rfl (RenV.fnL .nil (.cons (.P rfl) .nil)) (.cons rfl (.P rfl) (.L rfl (cleanIL _) rfl (.cons rfl .I (.cons rfl .I .nil))))))) ?_
   rintro ⟨p1,r1⟩ q1
   dsimp only at q1;dsimp only;rcases r1 with _|⟨i,r1⟩
   ·rw[List.append_nil] at q1;have zb:decide ((p1.length:Int)<((iL x).length:Int))=false:=by rw[← q1];exact U.lt_no iL_map p1
    obtain ⟨C1,hC1⟩:∃C,C=havL m (a0::sl) p1:=⟨_,rfl⟩
    have hl1:C1.length=sl.length+1:=by rw[hC1,havL_len];rfl
    rw[← hC1];rw[q1] at hC1;(repeat' ((conv=>whnf);first|refine goD ?_|refine U.lw_c ?_ ?_<;>intro hb))
    (conv=>whnf);refine loop_inv (α:=List Int×List Int) (fun q=>q.1++q.2=y) (fun q=>(mkF [(0,.pointer (some ⟨4,0,none⟩)),(2,.func (.func 102) ⟨[]⟩ ⟨[.pointer (some ⟨1,0,none⟩)]⟩),(4,.pointer (some ⟨5,0,none⟩)),(38,imS (iL y)),(39,.int .i64 (iL y).length),(40,.int .i64 q.1.length)],⟨mkO [(0,some (.cells 40 (cellsOf (setZ x y)) false)),(1,some (.cells 4 [.bool m] false)),(2,rowT C1),(3,rowT (havL m (b0::ar) q.1)),(4,some (.cells 155 [slC 2 (sl.length+1),slC 3 (ar.length+1),.bool false] false)),(5,some (.cells 40 (cellsOf (setZ x y)) false))],6,0,0⟩)) (fun q=>q.2.length) ([],y) rfl (Cov.renI rfl rfl rfl rfl (.W rfl (cleanSZ_cells x y) rfl (.C rfl (.K rfl rfl .nil) (.W rfl (cleanCC _) rfl (.W rfl (cleanCC _) rfl (.C rfl (.cons (.sl _ _ _ _ _ _ _ (by decide) rfl rfl rfl) (.cons (.sl _ _ _ _ _ _ _ (by decide) rfl rfl rfl) (.K rfl rfl .nil))) (.W rfl (cleanSZ_cells x y) rfl .nil)))))) (.cons rfl (.P rfl) (.cons rfl (RenV.fnL .nil (.cons (.P rfl) .nil)) (.cons rfl (.P rfl) (.L rfl (cleanIL _) rfl (.cons rfl .I (.cons rfl .I .nil))))))) ?_
    rintro ⟨p2,r2⟩ q2
    dsimp only at q2;dsimp only;rcases r2 with _|⟨i,r2⟩
    ·rw[List.append_nil] at q2;have vb:decide ((p2.length:Int)<((iL y).length:Int))=false:=by rw[← q2];exact U.lt_no iL_map p2
     obtain ⟨C2,hC2⟩:∃C,C=havL m (b0::ar) p2:=⟨_,rfl⟩
     have hl2:C2.length=ar.length+1:=by rw[hC2,havL_len];rfl
     rw[← hC2];rw[q2] at hC2;(repeat' ((conv=>whnf);first|refine goD ?_|refine U.lw_c ?_ ?_<;>intro hb))
     (conv=>whnf);rw[show stV (havS ⟨(a0::sl),(b0::ar),false⟩ x y m)=stV ⟨C1,C2,false⟩ by rw[havS,if_neg (by simp)];rw[hC1];rw[hC2]]
     exact FrzV.boxL (bR rfl) rfl (.cons (.rowL (ys:=cL C1) (bR rfl) rfl rfl (cL_5 C1) (by rw[cL_len,hl1]) rL (cleanCC _)) (.cons (.rowL (ys:=cL C2) (bR rfl) rfl rfl (cL_5 C2) (by rw[cL_len,hl2]) rL (cleanCC _)) (.cons (.clean _ (.flat _ rfl)) .nil)))
    ·have vb:=U.lt_yes iL_map p2 (i) r2;have vc:=U.blt_yes iL_map p2 (i) r2;have vn:=U.nth_at iL_map p2 (i) r2;have vw:=U.len_snoc (pre:=p2) (x:=i) (post:=r2) ((by rw[q2];exact hy))
     rw[q2] at vb vc vn;obtain ⟨C,hC⟩:∃C,C=havL m (b0::ar) p2:=⟨_,rfl⟩
     have hl:C.length=ar.length+1:=by rw[hC,havL_len];rfl
     have e9:havL m (b0::ar) (p2++[i])=hav1 m C i:=by rw[hC];simp[havL]
     rw[← hC];clear hC;by_cases b1:i<0
     ·have g1:decide (i≥0)=false:=decide_eq_false (by omega)
      (repeat' ((conv=>whnf);first|refine goD ?_|refine U.lw_c ?_ ?_<;>intro hb))
      (conv=>whnf);exact ⟨(p2++[i],r2),by rw[← q2];simp,by simp,by rw[e9,hav1_out (.inl b1)];exact (Cov.renI rfl rfl rfl rfl (.W rfl (cleanSZ_cells x y) rfl (.C rfl (.K rfl rfl .nil) (.W rfl (cleanCC _) rfl (.W rfl (cleanCC _) rfl (.C rfl (.cons (.sl _ _ _ _ _ _ _ (by decide) rfl rfl rfl) (.cons (.sl _ _ _ _ _ _ _ (by decide) rfl rfl rfl) (.K rfl rfl .nil))) (.W rfl (cleanSZ_cells x y) rfl .nil)))))) (.cons rfl (.P rfl) (.cons rfl (RenV.fnL .nil (.cons (.P rfl) .nil)) (.cons rfl (.P rfl) (.L rfl (cleanIL _) rfl (.cons rfl .I (.L rfl (cleanI _) (congrArg (Value.int .i64) (vw.symm)) .nil)))))))⟩
     have g1:decide (i≥0)=true:=decide_eq_true (by omega)
     by_cases b2:((ar.length+1:Nat):Int)≤i
     ·have g2:decide (i<((ar.length+1:Nat):Int))=false:=decide_eq_false (by omega)
      (repeat' ((conv=>whnf);first|refine goD ?_|refine U.lw_c ?_ ?_<;>intro hb))
      (conv=>whnf);exact ⟨(p2++[i],r2),by rw[← q2];simp,by simp,by rw[e9,hav1_out (.inr (by rw[hl];exact b2))];exact (Cov.renI rfl rfl rfl rfl (.W rfl (cleanSZ_cells x y) rfl (.C rfl (.K rfl rfl .nil) (.W rfl (cleanCC _) rfl (.W rfl (cleanCC _) rfl (.C rfl (.cons (.sl _ _ _ _ _ _ _ (by decide) rfl rfl rfl) (.cons (.sl _ _ _ _ _ _ _ (by decide) rfl rfl rfl) (.K rfl rfl .nil))) (.W rfl (cleanSZ_cells x y) rfl .nil)))))) (.cons rfl (.P rfl) (.cons rfl (RenV.fnL .nil (.cons (.P rfl) .nil)) (.cons rfl (.P rfl) (.L rfl (cleanIL _) rfl (.cons rfl .I (.L rfl (cleanI _) (congrArg (Value.int .i64) (vw.symm)) .nil)))))))⟩
     have g2:decide (i<((ar.length+1:Nat):Int))=true:=decide_eq_true (by omega)
     obtain ⟨j,rfl⟩:=Int.eq_ofNat_of_zero_le (by omega:0≤i)
     have hj:j<C.length:=by omega
     have g3:Nat.blt j (ar.length+1)=true:=bLe (by omega)
     have e8:=hav1_in m hj;have hst:0+j*5+(cellsOf (encC (topC m (C.getD j botC)))).length≤(cellsAll (cL C)).length:=by rw[cellsC_len];show 0+j*5+5≤_;omega
     have hrp:=cells_put (l:=C) (j:=j) hj (topC m (C.getD j botC));have hld:=cells_mark (l:=C) (j:=j) hj;have htp:=vtop_d;(repeat' ((conv=>whnf);first|refine goD ?_|refine U.lw_c ?_ ?_<;>intro hb))
     (conv=>whnf);refine SoundAt.body hmixU Tryz.func102 rfl rfl rfl 0 ?_;obtain ⟨cv,hcv⟩:∃c,c=C.getD j botC:=⟨_,rfl⟩
     rw[← hcv] at e8 hst hrp hld;obtain ⟨⟨lo,hi,mm,rr⟩,ck⟩:=cv;cases ck with
     |true =>
      rw[show topC m ⟨⟨lo,hi,mm,rr⟩,true⟩=⟨topZ,true⟩ by simp[topC]] at e8 hst hrp
      (repeat' ((conv=>whnf);first|refine goA ?_|refine U.onV_p hld ?_|refine nthM_p hld ?_|refine U.storeC_p hst ?_|refine goB ?_|refine U.SoundAt.u (htp) clM ?_|refine U.SoundC.u (htp) clM ?_|refine U.drawX_p (D:=U.propX) 11 [] (by decide +kernel) (by decide +kernel) ?_|refine U.lw_c ?_ ?_<;>intro hb))
      (conv=>whnf);exact ⟨(p2++[(j:Int)],r2),by rw[← q2];simp,by simp,by rw[e9,e8];exact (Cov.renI rfl rfl rfl rfl (.W rfl (cleanSZ_cells x y) rfl (.C rfl (.K rfl rfl .nil) (.W rfl (cleanCC _) rfl (.W rfl (cleanCC _) ((by rw[Nat.zero_add];exact hrp.symm)) (.C rfl (.cons (.sl _ _ _ _ _ _ _ (by decide) rfl rfl rfl) (.cons (.sl _ _ _ _ _ _ _ (by decide) rfl rfl rfl) (.K rfl rfl .nil))) (.W rfl (cleanSZ_cells x y) rfl .nil)))))) (.cons rfl (.P rfl) (.cons rfl (RenV.fnL .nil (.cons (.P rfl) .nil)) (.cons rfl (.P rfl) (.L rfl (cleanIL _) rfl (.cons rfl .I (.L rfl (cleanI _) (congrArg (Value.int .i64) (vw.symm)) .nil)))))))⟩
     |false =>
      rw[show topC m ⟨⟨lo,hi,mm,rr⟩,false⟩=⟨topZ,m⟩ by simp[topC]] at e8 hst hrp
      (repeat' ((conv=>whnf);first|refine goA ?_|refine U.onV_p hld ?_|refine nthM_p hld ?_|refine U.storeC_p hst ?_|refine goB ?_|refine U.SoundAt.u (htp) clM ?_|refine U.SoundC.u (htp) clM ?_|refine U.drawX_p (D:=U.propX) 11 [] (by decide +kernel) (by decide +kernel) ?_|refine U.lw_c ?_ ?_<;>intro hb))
      (conv=>whnf);exact ⟨(p2++[(j:Int)],r2),by rw[← q2];simp,by simp,by rw[e9,e8];exact (Cov.renI rfl rfl rfl rfl (.W rfl (cleanSZ_cells x y) rfl (.C rfl (.K rfl rfl .nil) (.W rfl (cleanCC _) rfl (.W rfl (cleanCC _) ((by rw[Nat.zero_add];exact hrp.symm)) (.C rfl (.cons (.sl _ _ _ _ _ _ _ (by decide) rfl rfl rfl) (.cons (.sl _ _ _ _ _ _ _ (by decide) rfl rfl rfl) (.K rfl rfl .nil))) (.W rfl (cleanSZ_cells x y) rfl .nil)))))) (.cons rfl (.P rfl) (.cons rfl (RenV.fnL .nil (.cons (.P rfl) .nil)) (.cons rfl (.P rfl) (.L rfl (cleanIL _) rfl (.cons rfl .I (.L rfl (cleanI _) (congrArg (Value.int .i64) (vw.symm)) .nil)))))))⟩
   ·have zb:=U.lt_yes iL_map p1 (i) r1;have zc:=U.blt_yes iL_map p1 (i) r1;have zn:=U.nth_at iL_map p1 (i) r1;have zw:=U.len_snoc (pre:=p1) (x:=i) (post:=r1) ((by rw[q1];exact hx))
    rw[q1] at zb zc zn;obtain ⟨C,hC⟩:∃C,C=havL m (a0::sl) p1:=⟨_,rfl⟩
    have hl:C.length=sl.length+1:=by rw[hC,havL_len];rfl
    have e9:havL m (a0::sl) (p1++[i])=hav1 m C i:=by rw[hC];simp[havL]
    rw[← hC];clear hC;by_cases b1:i<0
    ·have g1:decide (i≥0)=false:=decide_eq_false (by omega)
     (repeat' ((conv=>whnf);first|refine goD ?_|refine U.lw_c ?_ ?_<;>intro hb))
     (conv=>whnf);exact ⟨(p1++[i],r1),by rw[← q1];simp,by simp,by rw[e9,hav1_out (.inl b1)];exact (Cov.renI rfl rfl rfl rfl (.W rfl (cleanSZ_cells x y) rfl (.C rfl (.K rfl rfl .nil) (.W rfl (cleanCC _) rfl (.W rfl (cleanCC _) rfl (.C rfl (.cons (.sl _ _ _ _ _ _ _ (by decide) rfl rfl rfl) (.cons (.sl _ _ _ _ _ _ _ (by decide) rfl rfl rfl) (.K rfl rfl .nil))) (.W rfl (cleanSZ_cells x y) rfl .nil)))))) (.cons rfl (.P rfl) (.cons rfl (RenV.fnL .nil (.cons (.P rfl) .nil)) (.cons rfl (.P rfl) (.L rfl (cleanIL _) rfl (.cons rfl .I (.L rfl (cleanI _) (congrArg (Value.int .i64) (zw.symm)) .nil)))))))⟩
    have g1:decide (i≥0)=true:=decide_eq_true (by omega)
    by_cases b2:((sl.length+1:Nat):Int)≤i
    ·have g2:decide (i<((sl.length+1:Nat):Int))=false:=decide_eq_false (by omega)
     (repeat' ((conv=>whnf);first|refine goD ?_|refine U.lw_c ?_ ?_<;>intro hb))
     (conv=>whnf);exact ⟨(p1++[i],r1),by rw[← q1];simp,by simp,by rw[e9,hav1_out (.inr (by rw[hl];exact b2))];exact (Cov.renI rfl rfl rfl rfl (.W rfl (cleanSZ_cells x y) rfl (.C rfl (.K rfl rfl .nil) (.W rfl (cleanCC _) rfl (.W rfl (cleanCC _) rfl (.C rfl (.cons (.sl _ _ _ _ _ _ _ (by decide) rfl rfl rfl) (.cons (.sl _ _ _ _ _ _ _ (by decide) rfl rfl rfl) (.K rfl rfl .nil))) (.W rfl (cleanSZ_cells x y) rfl .nil)))))) (.cons rfl (.P rfl) (.cons rfl (RenV.fnL .nil (.cons (.P rfl) .nil)) (.cons rfl (.P rfl) (.L rfl (cleanIL _) rfl (.cons rfl .I (.L rfl (cleanI _) (congrArg (Value.int .i64) (zw.symm)) .nil)))))))⟩
    have g2:decide (i<((sl.length+1:Nat):Int))=true:=decide_eq_true (by omega)
    obtain ⟨j,rfl⟩:=Int.eq_ofNat_of_zero_le (by omega:0≤i)
    have hj:j<C.length:=by omega
    have g3:Nat.blt j (sl.length+1)=true:=bLe (by omega)
    have e8:=hav1_in m hj;have hst:0+j*5+(cellsOf (encC (topC m (C.getD j botC)))).length≤(cellsAll (cL C)).length:=by rw[cellsC_len];show 0+j*5+5≤_;omega
    have hrp:=cells_put (l:=C) (j:=j) hj (topC m (C.getD j botC));have hld:=cells_mark (l:=C) (j:=j) hj;have htp:=vtop_d;(repeat' ((conv=>whnf);first|refine goD ?_|refine U.lw_c ?_ ?_<;>intro hb))
    (conv=>whnf);refine SoundAt.body hmixU Tryz.func102 rfl rfl rfl 0 ?_;obtain ⟨cv,hcv⟩:∃c,c=C.getD j botC:=⟨_,rfl⟩
    rw[← hcv] at e8 hst hrp hld;obtain ⟨⟨lo,hi,mm,rr⟩,ck⟩:=cv;cases ck with
    |true =>
     rw[show topC m ⟨⟨lo,hi,mm,rr⟩,true⟩=⟨topZ,true⟩ by simp[topC]] at e8 hst hrp
     (repeat' ((conv=>whnf);first|refine goA ?_|refine U.onV_p hld ?_|refine nthM_p hld ?_|refine U.storeC_p hst ?_|refine goB ?_|refine U.SoundAt.u (htp) clM ?_|refine U.SoundC.u (htp) clM ?_|refine U.drawX_p (D:=U.propX) 11 [] (by decide +kernel) (by decide +kernel) ?_|refine U.lw_c ?_ ?_<;>intro hb))
     (conv=>whnf);exact ⟨(p1++[(j:Int)],r1),by rw[← q1];simp,by simp,by rw[e9,e8];exact (Cov.renI rfl rfl rfl rfl (.W rfl (cleanSZ_cells x y) rfl (.C rfl (.K rfl rfl .nil) (.W rfl (cleanCC _) ((by rw[Nat.zero_add];exact hrp.symm)) (.W rfl (cleanCC _) rfl (.C rfl (.cons (.sl _ _ _ _ _ _ _ (by decide) rfl rfl rfl) (.cons (.sl _ _ _ _ _ _ _ (by decide) rfl rfl rfl) (.K rfl rfl .nil))) (.W rfl (cleanSZ_cells x y) rfl .nil)))))) (.cons rfl (.P rfl) (.cons rfl (RenV.fnL .nil (.cons (.P rfl) .nil)) (.cons rfl (.P rfl) (.L rfl (cleanIL _) rfl (.cons rfl .I (.L rfl (cleanI _) (congrArg (Value.int .i64) (zw.symm)) .nil)))))))⟩
    |false =>
     rw[show topC m ⟨⟨lo,hi,mm,rr⟩,false⟩=⟨topZ,m⟩ by simp[topC]] at e8 hst hrp
     (repeat' ((conv=>whnf);first|refine goA ?_|refine U.onV_p hld ?_|refine nthM_p hld ?_|refine U.storeC_p hst ?_|refine goB ?_|refine U.SoundAt.u (htp) clM ?_|refine U.SoundC.u (htp) clM ?_|refine U.drawX_p (D:=U.propX) 11 [] (by decide +kernel) (by decide +kernel) ?_|refine U.lw_c ?_ ?_<;>intro hb))
     (conv=>whnf);exact ⟨(p1++[(j:Int)],r1),by rw[← q1];simp,by simp,by rw[e9,e8];exact (Cov.renI rfl rfl rfl rfl (.W rfl (cleanSZ_cells x y) rfl (.C rfl (.K rfl rfl .nil) (.W rfl (cleanCC _) ((by rw[Nat.zero_add];exact hrp.symm)) (.W rfl (cleanCC _) rfl (.C rfl (.cons (.sl _ _ _ _ _ _ _ (by decide) rfl rfl rfl) (.cons (.sl _ _ _ _ _ _ _ (by decide) rfl rfl rfl) (.K rfl rfl .nil))) (.W rfl (cleanSZ_cells x y) rfl .nil)))))) (.cons rfl (.P rfl) (.cons rfl (RenV.fnL .nil (.cons (.P rfl) .nil)) (.cons rfl (.P rfl) (.L rfl (cleanIL _) rfl (.cons rfl .I (.L rfl (cleanI _) (congrArg (Value.int .i64) (zw.symm)) .nil)))))))⟩
end Go.Proofs.YtnfppdblcmollaaGreatDoor
