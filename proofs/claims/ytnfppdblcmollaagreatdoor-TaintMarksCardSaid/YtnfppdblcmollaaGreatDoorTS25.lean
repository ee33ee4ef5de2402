
import Derived.Test.YtnfppdblcmollaaGreatDoorTS23
import Derived.Test.YtnfppdblcmollaaGreatDoorTS24
namespace Go.Proofs.YtnfppdblcmollaaGreatDoor
open Go Go.RowKit Go.Sort U
set_option linter.unusedVariables false
set_option linter.unusedSimpArgs false
set_option maxRecDepth 100000
set_option maxHeartbeats 40000000
theorem isbotN:DenU Tryz.prog [] 73 [.pointer none] (.bool true):=by
 refine denU_of_run hmixU rfl 100 20 20 fun Ts=>?_
 (repeat' ((conv=>whnf);first|refine goD ?_|refine U.lw_c ?_ ?_<;>intro hb))
 (conv=>whnf);exact .same (.flat _ rfl) rfl
theorem isbotS (s:SZ):DenU Tryz.prog [] 73 [stV s] (.bool s.none):=by
 refine denU_of_run hmixU rfl 100 20 20 fun Ts=>?_
 (repeat' ((conv=>whnf);first|refine goD ?_|refine U.lw_c ?_ ?_<;>intro hb))
 all_goals (conv=>whnf)
 exact .same (.flat _ rfl) rfl
def nilC:CZ:=⟨botZ,false⟩
theorem getN (a:Int):DenU Tryz.prog [] 66 [.pointer none,.int .i64 a] (encC nilC):=by
 refine denU_of_run hmixU rfl 100 20 20 fun Ts=>?_
 (repeat' ((conv=>whnf);first|refine goD ?_|refine U.lw_c ?_ ?_<;>intro hb))
 all_goals (conv=>whnf)
 exact .same (.flat _ rfl) rfl
theorem loadN (a:Int):DenU Tryz.prog [] 69 [.pointer none,.int .i64 a] (encC nilC):=by
 refine denU_of_run hmixU rfl 100 20 20 fun Ts=>?_
 (repeat' ((conv=>whnf);first|refine goD ?_|refine U.lw_c ?_ ?_<;>intro hb))
 all_goals (conv=>whnf)
 exact .same (.flat _ rfl) rfl
theorem nothing_d:DenU Tryz.prog [] 137 [] (encC botC):=by
 refine denU_of_run hmixU rfl 100 20 20 fun Ts=>?_
 (repeat' ((conv=>whnf);first|refine goD ?_|refine U.lw_c ?_ ?_<;>intro hb))
 (conv=>whnf);exact .same (.flat _ rfl) rfl
theorem nth_cL {l:List CZ}{j:Nat}(h:j<l.length):nth (cL l) j=some (encC (l.getD j botC)):=by
 have e:l=l.take j++l[j]::l.drop (j+1):=by rw[List.getElem_cons_drop,List.take_append_drop]
 have h2:(l.take j).length=j:=by rw[List.length_take];omega
 have:=U.nth_at cL_map (l.take j) l[j] (l.drop (j+1));rw[← e,h2] at this;rw[this,List.getD_eq_getElem?_getD,List.getElem?_eq_getElem h];rfl
theorem getS (s:SZ) (a:Int):DenU Tryz.prog [] 66 [stV s,.int .i64 a] (encC (slotC s a)):=by
 refine denU_of_body hmixU rfl Tryz.func66 rfl rfl rfl 0 ?_;intro Ts;have c1:=isbotS s;have c2:=nothing_d;have k1:=cleanStV s;obtain ⟨sl,ar,no⟩:=s;have e1:=cL_len sl;dsimp only at *;cases no with
 |true =>
  rw[show slotC ⟨sl,ar,true⟩ a=botC from show atC true sl a=botC from if_pos (.inl rfl)]
  (repeat' ((conv=>whnf);first|refine goD ?_|refine ⟨_,c1,clM,tab0 _,?_⟩|refine ⟨_,c2,clM,tab0 _,?_⟩|refine U.lw_c ?_ ?_<;>intro hb))
  (conv=>whnf);exact .same (.flat _ rfl) rfl
 |false =>
  by_cases b1:a<0
  ·have g1:decide (a<0)=true:=decide_eq_true b1;rw[show slotC ⟨sl,ar,false⟩ a=botC from show atC false sl a=botC from if_pos (.inr (.inl b1))]
   (repeat' ((conv=>whnf);first|refine goD ?_|refine ⟨_,c1,clM,tab0 _,?_⟩|refine ⟨_,c2,clM,tab0 _,?_⟩|refine U.lw_c ?_ ?_<;>intro hb))
   (conv=>whnf);exact .same (.flat _ rfl) rfl
  ·have g1:decide (a<0)=false:=decide_eq_false b1;by_cases b2:(sl.length:Int)≤a
   ·have g2:decide (a≥((cL sl).length:Int))=true:=decide_eq_true (by rw[e1];exact b2)
    rw[show slotC ⟨sl,ar,false⟩ a=botC from show atC false sl a=botC from if_pos (.inr (.inr b2))]
    (repeat' ((conv=>whnf);first|refine goD ?_|refine ⟨_,c1,clM,tab0 _,?_⟩|refine ⟨_,c2,clM,tab0 _,?_⟩|refine U.lw_c ?_ ?_<;>intro hb))
    (conv=>whnf);exact .same (.flat _ rfl) rfl
   ·have g2:decide (a≥((cL sl).length:Int))=false:=decide_eq_false (by rw[e1];exact b2)
    rw[show slotC ⟨sl,ar,false⟩ a=sl.getD a.toNat botC from show atC false sl a=_ from if_neg (by simp;omega)]
    obtain ⟨j,rfl⟩:=Int.eq_ofNat_of_zero_le (by omega:0≤a)
    have zn:=nth_cL (l:=sl) (j:=j) (by omega)
    have zc:Nat.blt j (cL sl).length=true:=bLe (by rw[e1];omega)
    rw[Int.toNat_natCast];generalize sl.getD j botC=c at *
    (repeat' ((conv=>whnf);first|refine goD ?_|refine ⟨_,c1,clM,tab0 _,?_⟩|refine U.lw_c ?_ ?_<;>intro hb))
    (conv=>whnf);exact .same (cleanC c) rfl
theorem loadS (s:SZ) (a:Int):DenU Tryz.prog [] 69 [stV s,.int .i64 a] (encC (arrC s a)):=by
 refine denU_of_body hmixU rfl Tryz.func69 rfl rfl rfl 0 ?_;intro Ts;have c1:=isbotS s;have c2:=nothing_d;have k1:=cleanStV s;obtain ⟨sl,ar,no⟩:=s;have e1:=cL_len ar;dsimp only at *;cases no with
 |true =>
  rw[show arrC ⟨sl,ar,true⟩ a=botC from show atC true ar a=botC from if_pos (.inl rfl)]
  (repeat' ((conv=>whnf);first|refine goD ?_|refine ⟨_,c1,clM,tab0 _,?_⟩|refine ⟨_,c2,clM,tab0 _,?_⟩|refine U.lw_c ?_ ?_<;>intro hb))
  (conv=>whnf);exact .same (.flat _ rfl) rfl
 |false =>
  by_cases b1:a<0
  ·have g1:decide (a<0)=true:=decide_eq_true b1;rw[show arrC ⟨sl,ar,false⟩ a=botC from show atC false ar a=botC from if_pos (.inr (.inl b1))]
   (repeat' ((conv=>whnf);first|refine goD ?_|refine ⟨_,c1,clM,tab0 _,?_⟩|refine ⟨_,c2,clM,tab0 _,?_⟩|refine U.lw_c ?_ ?_<;>intro hb))
   (conv=>whnf);exact .same (.flat _ rfl) rfl
  ·have g1:decide (a<0)=false:=decide_eq_false b1;by_cases b2:(ar.length:Int)≤a
   ·have g2:decide (a≥((cL ar).length:Int))=true:=decide_eq_true (by rw[e1];exact b2)
    rw[show arrC ⟨sl,ar,false⟩ a=botC from show atC false ar a=botC from if_pos (.inr (.inr b2))]
    (repeat' ((conv=>whnf);first|refine goD ?_|refine ⟨_,c1,clM,tab0 _,?_⟩|refine ⟨_,c2,clM,tab0 _,?_⟩|refine U.lw_c ?_ ?_<;>intro hb))
    (conv=>whnf);exact .same (.flat _ rfl) rfl
   ·have g2:decide (a≥((cL ar).length:Int))=false:=decide_eq_false (by rw[e1];exact b2)
    rw[show arrC ⟨sl,ar,false⟩ a=ar.getD a.toNat botC from show atC false ar a=_ from if_neg (by simp;omega)]
    obtain ⟨j,rfl⟩:=Int.eq_ofNat_of_zero_le (by omega:0≤a)
    have zn:=nth_cL (l:=ar) (j:=j) (by omega)
    have zc:Nat.blt j (cL ar).length=true:=bLe (by rw[e1];omega)
    rw[Int.toNat_natCast];generalize ar.getD j botC=c at *
    (repeat' ((conv=>whnf);first|refine goD ?_|refine ⟨_,c1,clM,tab0 _,?_⟩|refine U.lw_c ?_ ?_<;>intro hb))
    (conv=>whnf);exact .same (cleanC c) rfl
end Go.Proofs.YtnfppdblcmollaaGreatDoor
namespace Go.Proofs.YtnfppdblcmollaaGreatDoor.U
open Go Go.RowKit Go.Sort
set_option linter.unusedVariables false
set_option linter.unusedSimpArgs false
set_option maxRecDepth 100000
set_option maxHeartbeats 40000000
theorem SoundAt.c {P:Program}{f:FuncId}{args:List Value}{s:AS}{k:Value->AS->Prop}(h:SoundC P f args s k):SoundAt P f args s k:=by
 refine ⟨fun hl W0 β W vs hR hf hv=>?_⟩
 obtain ⟨u,s',hk,hst,hc⟩:=h.out hl;refine (hc W0 β W vs hR hf.free hv).mono fun e w' ⟨v,he,β1,h1,h2,h3,h4⟩=>?_
 exact ⟨v,u,s',he,hk,hst.x,β1,.of h1 hf hst.next,h2,h3,h4⟩
theorem RenV.fnL {n:Nat}{ρ:Ren}{g:FuncId}{a a' b b':List Value}(h1:RenL n ρ a a') (h2:RenL n ρ b b'):RenV n ρ (.func (.func g) ⟨a⟩ ⟨b⟩) (.func (.func g) ⟨a'⟩ ⟨b'⟩):=by
 obtain ⟨e1,e2⟩:=h1.at_;obtain ⟨e3,e4⟩:=h2.at_;refine .fn g a a' b b' e1 e3 (fun i u v hu hv=>?_) fun i u v hu hv=>?_
 ·obtain ⟨w,q1,q2⟩:=e2 i u hu;rw[hv] at q1;cases q1;exact q2
 ·obtain ⟨w,q1,q2⟩:=e4 i u hu;rw[hv] at q1;cases q1;exact q2
end Go.Proofs.YtnfppdblcmollaaGreatDoor.U
