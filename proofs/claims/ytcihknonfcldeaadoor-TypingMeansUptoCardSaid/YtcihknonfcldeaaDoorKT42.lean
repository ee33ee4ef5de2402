
import Derived.Test.YtcihknonfcldeaaDoorKT41
namespace Go.Proofs.YtcihknonfcldeaaDoor
open Go Go.RowKit Go.Sort U
set_option linter.unusedVariables false
set_option linter.unusedSimpArgs false
set_option maxRecDepth 100000
set_option maxHeartbeats 40000000
def bL (l:List Bool):List Value:=l.map Value.bool
theorem bL_len (l:List Bool):(bL l).length=l.length:=List.length_map ..
theorem cleanBl (l:List Bool):∀x,x∈bL l->NoNm x:=fun x hx=>by
 obtain ⟨b,_,rfl⟩:=List.mem_map.1 hx;exact .flat _ rfl
theorem bL_nth0 {l:List Bool}{u:Nat}(h:u<l.length):nth (bL l) (0+u*1)=some (.bool (l.getD u false)):=by
 rw[Nat.zero_add,Nat.mul_one,nth_eq];simp[bL,h]
theorem bL_store0 {l:List Bool}{i:Nat}{x:Bool}(h:i<l.length):(bL l).take (0+i*1)++[Value.bool x]++(bL l).drop (0+i*1+[Value.bool x].length)=bL (l.set i x):=by
 rw[Nat.zero_add,Nat.mul_one,List.length_singleton,bL,bL,← List.map_take,← List.map_drop,List.set_eq_take_append_cons_drop,if_pos h];simp
theorem bL_zero (n:Nat):bL (List.replicate n false)=repX n [.bool false]:=by rw[repX_one,bL];simp
def pS (b:Nat) (X:List Nat) (m:Nat):Value:=.slice (match X with
 |[]=>none
 |_::_=>some ⟨b,0,none⟩) m X.length
theorem pS_grown {n:Nat}{ρ:Ren}{b b' m m' c:Nat}{X:List Nat}(hb:b<n) (e:ρ b=b') (h0:X≠[]) (e2:m=m') (e3:X.length=c):U.RenV n ρ (pS b X m) (.slice (some ⟨b',0,none⟩) m' c):=by
 cases X with
 |nil=>exact absurd rfl h0
 |cons y l=>exact .sl _ _ _ _ _ _ _ hb e e2 e3
theorem pS_ren {n:Nat}{ρ:Ren}{b b':Nat}{X:List Nat}(hb:b<n) (e:ρ b=b'):U.RenV n ρ (pS b X 0) (pS b' X 0):=by
 cases X with
 |nil=>exact .F rfl rfl
 |cons y l=>exact .sl _ _ _ _ _ _ _ hb e rfl rfl
theorem sumN_set:∀(l:List Int) (t:Nat) (j:Nat),t<l.length->gt0 l t=j->((l.set t ((j:Int)+1)).map Int.toNat).sum=(l.map Int.toNat).sum+1
 |[],t,j,h,_=>by simp at h
 |x::l,0,j,_,h=>by
  have hx:x=j:=by simpa [gt0] using h
  subst hx;simp only[List.set_cons_zero,List.map_cons,List.sum_cons];omega
 |x::l,t+1,j,h,h2=>by
  have:=sumN_set l t j (by simpa using h) (by simpa [gt0] using h2)
  simp only[List.set_cons_succ,List.map_cons,List.sum_cons,this];omega
theorem sumN_le:∀(l:List Int) (rows:List (List Int)),l.length=rows.length->(∀u,u<rows.length->gt0 l u≤(rows.getD u []).length)->(l.map Int.toNat).sum≤sumL rows
 |[],[],_,_=>by simp[sumL]
 |x::l,r::rows,hl,h=>by
  have h0:=h 0 (by simp)
  have:=sumN_le l rows (by simpa using hl) fun u hu=>by simpa [gt0] using h (u+1) (by simpa using hu)
  have hx:x≤r.length:=by simpa [gt0] using h0
  simp only[sumL,List.map_cons,List.sum_cons] at this ⊢;omega
 |[],_::_,hl,_=>by simp at hl
 |_::_,[],hl,_=>by simp at hl
theorem takeN_set {X:List Nat}{m x:Nat}(hm:m<X.length):(X.set m x).take (m+1)=X.take m++[x]:=by
 rw[List.take_add_one,List.take_set,List.set_eq_of_length_le (by rw[List.length_take];omega)]
 simp[hm]
theorem nL_set (X:List Nat) (m x:Nat):(nL X).set m (x:Int)=nL (X.set m x):=by simp[nL]
theorem nL_app (X Y:List Nat):nL (X++Y)=nL X++nL Y:=by simp[nL]
theorem iL_store2' {L:List Int}{i:Nat}{x:Int}(h:i<L.length):(iL L).take (i*(0+1))++[Value.int .i64 x]++(iL L).drop (i*(0+1)+[Value.int .i64 x].length)=iL (L.set i x):=by
 have:=iL_store0 (L:=L) (i:=i) (x:=x) h;rw[Nat.zero_add,Nat.mul_one] at this;rw[Nat.zero_add,Nat.mul_one];exact this
def sumN (l:List Int):Nat:=(l.map Int.toNat).sum
def rootX:List Nat->Nat->List Nat
 |[],k=>[k]
 |_::l,k=>k::l
theorem finished_e (rows:List (List Int)) (hb:okB rows) (hl:rows.length≤29000) (hr:∀r∈rows,r.length≤maxI):DenE Tryd.prog 42 [imS (gL rows)] (fun u=>∃out,u=imS (iL (nL out))∧FinOk rows out):=by
 refine denE_of_sound hmixU fun Ts=>SoundAt.body hmixU Tryd.func42 rfl rfl rfl 0 ?_
 have hmf:=mk_full (zs:=[.int .i64 0]) (n:=(gL rows).length) (b:=8) rfl rfl (by decide) (by rw[gL_len];omega)
 have hmb:=mk_full (zs:=[.bool false]) (n:=(gL rows).length) (b:=1) rfl rfl (by decide) (by rw[gL_len];omega)
 have cg:=cleanGL rows;(repeat' ((conv=>whnf);first|refine U.ob_c hmf ?_|refine U.ob_c hmb ?_|refine goA ?_|refine U.spineC_p ?_|refine goB ?_|refine U.lw_c ?_ ?_<;>intro hb))
 (conv=>whnf);refine loop_sem (α:=List Bool×List Int×List Nat×List Nat×Nat) (fun x=>Dfs rows x.1 x.2.1 x.2.2.1 []∧x.2.2.2.2≤rows.length∧(∀u,u<x.2.2.2.2->x.1.getD u false=true)∧x.2.2.2.1.length≤rows.length) (fun x=>(mkF [(0,imS (gL rows)),(2,.slice none 0 0),(3,slV 2 (nL x.2.2.1)),(4,pS 3 x.2.2.2.1 0),(5,.slice (some ⟨0,0,none⟩) (gL rows).length (gL rows).length),(6,.slice (some ⟨1,0,none⟩) (gL rows).length (gL rows).length),(17,.int .i64 (gL rows).length),(18,.int .i64 x.2.2.2.2)],⟨mkO [(0,some (.cells 4 (bL x.1) false)),(1,some (.cells 3 (iL x.2.1) false)),(2,rowO 3 (iL (nL x.2.2.1))),(3,rowO 3 (iL (nL x.2.2.2.1)))],4,0,0⟩)) (fun x=>rows.length-x.2.2.2.2) (List.replicate rows.length false,List.replicate rows.length 0,[],[],0) ⟨dfs_init rows,Nat.zero_le _,(fun u hu=>by cases hu),Nat.zero_le _⟩ (Cov.renI rfl rfl rfl rfl (.W rfl (cleanBl _) ((by rw[bL_zero,gL_len];rfl)) (.W rfl (cleanIl0 _) ((by rw[iL_zero,gL_len];rfl)) (.none (.none .nil)))) (.L rfl (cleanGL _) rfl (.K rfl rfl rfl (.K rfl rfl rfl (.K rfl rfl rfl (.cons rfl (.S rfl rfl rfl) (.cons rfl (.S rfl rfl rfl) (.cons rfl .I (.cons rfl .I .nil))))))))) ?_
 rintro ⟨sb,nx,out,X,k⟩ ⟨hD,hk,hse,hXn⟩
 dsimp only at hD hk hse hXn;dsimp only;rcases Nat.lt_or_ge k rows.length with hlt|hge
 ·have g0:decide ((k:Int)<((gL rows).length:Int))=true:=by rw[gL_len];simp;omega
  have hkb:k.blt (gL rows).length=true:=by rw[gL_len];exact bLe hlt
  have hnk:=bL_nth0 (l:=sb) (u:=k) (by rw[hD.sl];exact hlt)
  have kw:=wadd1 (i:=k) (by omega)
  cases hsk:sb.getD k false
  ·rw[hsk] at hnk;refine CodeS.then_ (mkF [(0,imS (gL rows)),(2,.slice none 0 0),(3,slV 2 (nL out)),(4,pS 3 X 0),(5,.slice (some ⟨0,0,none⟩) (gL rows).length (gL rows).length),(6,.slice (some ⟨1,0,none⟩) (gL rows).length (gL rows).length),(17,.int .i64 (gL rows).length),(18,.int .i64 k),(19,.bool true)]) ⟨mkO [(0,some (.cells 4 (bL sb) false)),(1,some (.cells 3 (iL nx) false)),(2,rowO 3 (iL (nL out))),(3,rowO 3 (iL (nL X)))],4,0,0⟩ ?_ ?_
   ·refine CodeS.run hmixU 0 zL ?_;(repeat' ((conv=>whnf);first|refine goD ?_|refine U.lw_c ?_ ?_<;>intro hb))
    (conv=>whnf);exact Cov.slots rL ⟨rfl,rfl,rfl,rfl,rfl,rfl,rfl,rfl,congrArg some (congrArg Value.bool g0),trivial⟩
   refine CodeS.then_ (mkF [(0,imS (gL rows)),(2,.slice none 0 0),(3,slV 2 (nL out)),(4,pS 3 X 0),(5,.slice (some ⟨0,0,none⟩) (gL rows).length (gL rows).length),(6,.slice (some ⟨1,0,none⟩) (gL rows).length (gL rows).length),(17,.int .i64 (gL rows).length),(18,.int .i64 k)]) ⟨mkO [(0,some (.cells 4 (bL sb) false)),(1,some (.cells 3 (iL nx) false)),(2,rowO 3 (iL (nL out))),(3,rowO 3 (iL (nL X)))],4,0,0⟩ ?_ ?_
   ·refine CodeS.run hmixU 0 zL ?_;(repeat' ((conv=>whnf);first|refine goD ?_|refine U.lw_c ?_ ?_<;>intro hb))
    (conv=>whnf);exact Cov.slots rL ⟨rfl,rfl,rfl,rfl,rfl,rfl,rfl,rfl,trivial⟩
   refine CodeS.seq (k1:=fun e fr1 s1=>e=.normal∧∃(sb':List Bool) (nx':List Int) (out' X':List Nat),Dfs rows sb' nx' out' []∧(∀u,u<k+1->sb'.getD u false=true)∧X'.length≤rows.length∧Cov Tryd.prog ([imS (gL rows)].length+(Tryd.f42.ntmps-[imS (gL rows)].length)) 4 fr1 s1 (mkF [(0,imS (gL rows)),(2,.slice none 0 0),(3,slV 8 (nL out')),(4,pS 9 X' 0),(5,.slice (some ⟨0,0,none⟩) (gL rows).length (gL rows).length),(6,.slice (some ⟨1,0,none⟩) (gL rows).length (gL rows).length),(17,.int .i64 (gL rows).length),(18,.int .i64 k)]) ⟨mkO [(0,some (.cells 4 (bL sb') false)),(1,some (.cells 3 (iL nx') false)),(8,rowO 3 (iL (nL out'))),(9,rowO 3 (iL (nL X')))],10,0,0⟩) ?_ ?_
   ·refine CodeS.block ?_;refine CodeS.then_ (mkF [(0,imS (gL rows)),(2,.slice none 0 0),(3,slV 2 (nL out)),(4,pS 3 X 0),(5,.slice (some ⟨0,0,none⟩) (gL rows).length (gL rows).length),(6,.slice (some ⟨1,0,none⟩) (gL rows).length (gL rows).length),(17,.int .i64 (gL rows).length),(18,.int .i64 k),(7,.int .i64 k)]) ⟨mkO [(0,some (.cells 4 (bL sb) false)),(1,some (.cells 3 (iL nx) false)),(2,rowO 3 (iL (nL out))),(3,rowO 3 (iL (nL X)))],4,0,0⟩ ?_ ?_
    ·refine CodeS.run hmixU 0 zL ?_;(repeat' ((conv=>whnf);first|refine goD ?_|refine U.lw_c ?_ ?_<;>intro hb))
     (conv=>whnf);exact Cov.slots rL ⟨rfl,rfl,rfl,rfl,rfl,rfl,rfl,rfl,rfl,trivial⟩
    refine CodeS.then_ (mkF [(0,imS (gL rows)),(2,.slice none 0 0),(3,slV 2 (nL out)),(4,pS 3 X 0),(5,.slice (some ⟨0,0,none⟩) (gL rows).length (gL rows).length),(6,.slice (some ⟨1,0,none⟩) (gL rows).length (gL rows).length),(17,.int .i64 (gL rows).length),(18,.int .i64 k),(7,.int .i64 k)]) ⟨mkO [(0,some (.cells 4 (bL sb) false)),(1,some (.cells 3 (iL nx) false)),(2,rowO 3 (iL (nL out))),(3,rowO 3 (iL (nL X)))],4,0,0⟩ ?_ ?_
    ·refine CodeS.run hmixU 0 zL ?_;(repeat' ((conv=>whnf);first|refine goA ?_|(conv in (nth _ _)=>(change nth _ (0+k*1);rw[hnk]))|refine goB ?_|refine U.lw_c ?_ ?_<;>intro hb))
     (conv=>whnf);exact Cov.slots rL ⟨rfl,rfl,rfl,rfl,rfl,rfl,rfl,rfl,rfl,trivial⟩
    have hst0:∀v:Value,0+k*1+[v].length≤(bL sb).length:=fun v=>by rw[bL_len,hD.sl,List.length_singleton];omega
    have es0:=bL_store0 (l:=sb) (i:=k) (x:=true) (by rw[hD.sl];exact hlt)
    refine CodeS.then_ (mkF [(0,imS (gL rows)),(2,.slice none 0 0),(3,slV 2 (nL out)),(4,pS 3 X 0),(5,.slice (some ⟨0,0,none⟩) (gL rows).length (gL rows).length),(6,.slice (some ⟨1,0,none⟩) (gL rows).length (gL rows).length),(17,.int .i64 (gL rows).length),(18,.int .i64 k),(7,.int .i64 k)]) ⟨mkO [(0,some (.cells 4 (bL (sb.set k true)) false)),(1,some (.cells 3 (iL nx) false)),(2,rowO 3 (iL (nL out))),(3,rowO 3 (iL (nL X)))],4,0,0⟩ ?_ ?_
    ·refine CodeS.run hmixU 0 zL ?_;(repeat' ((conv=>whnf);first|refine goA ?_|refine U.storeC_p (hst0 _) ?_|refine goB ?_|refine U.lw_c ?_ ?_<;>intro hb))
     (conv=>whnf);exact (Cov.renI rfl rfl rfl rfl (.W rfl (cleanBl _) (es0.symm) (.W rfl (cleanIl0 _) rfl (blksO.row rfl rfl (cleanIC _) (blksO.row rfl rfl (cleanIC _) .nil)))) (.L rfl (cleanGL _) rfl (.K rfl rfl rfl (.cons rfl (slV_ren (by decide) rfl rfl) (.cons rfl (pS_ren (by decide) rfl) (.cons rfl (.S rfl rfl rfl) (.cons rfl (.S rfl rfl rfl) (.cons rfl .I (.cons rfl .I (.cons rfl .I .nil))))))))))
    refine CodeS.then_ (mkF [(0,imS (gL rows)),(2,.slice none 0 0),(3,slV 6 (nL out)),(4,pS 7 (rootX X k) 1),(5,.slice (some ⟨0,0,none⟩) (gL rows).length (gL rows).length),(6,.slice (some ⟨1,0,none⟩) (gL rows).length (gL rows).length),(17,.int .i64 (gL rows).length),(18,.int .i64 k)]) ⟨mkO [(0,some (.cells 4 (bL (sb.set k true)) false)),(1,some (.cells 3 (iL nx) false)),(6,rowO 3 (iL (nL out))),(7,rowO 3 (iL (nL (rootX X k))))],8,0,0⟩ ?_ ?_
    ·refine CodeS.run hmixU 0 zL ?_;rcases X with _|⟨x,xs⟩
     ·(repeat' ((conv=>whnf);first|refine goA ?_|refine U.catC_p ?_|refine goB ?_|refine U.lw_c ?_ ?_<;>intro hb))
      (conv=>whnf);exact (Cov.renO (fun k=>if k=6 then 2 else if k=7 then 5 else k) rfl rfl (bR rfl) zL (fun k hk=>by have:k<4:=hk;rw[if_neg (by omega)];rw[if_neg (by omega)]) rfl nlz (.W rfl (cleanBl _) rfl (.W rfl (cleanIl0 _) rfl (blksO.row rfl rfl (cleanIC _) (blksO.grown rfl rfl (cleanIC _) .nil)))) (.L rfl (cleanGL _) rfl (.K rfl rfl rfl (.cons rfl (slV_ren (by decide) rfl rfl) (.cons rfl (pS_grown (by decide) rfl (by simp[rootX]) rfl rfl) (.cons rfl (.S rfl rfl rfl) (.cons rfl (.S rfl rfl rfl) (.cons rfl .I (.cons rfl .I .nil)))))))))
     ·(repeat' ((conv=>whnf);first|refine goA ?_|refine U.catC_p ?_|refine U.storeC_p zL ?_|refine goB ?_|refine U.lw_c ?_ ?_<;>intro hb))
      (conv=>whnf);exact (Cov.renO (fun k=>if k=6 then 2 else if k=7 then 3 else k) rfl rfl (bR rfl) zL (fun k hk=>by have:k<4:=hk;rw[if_neg (by omega)];rw[if_neg (by omega)]) rfl nlz (.W rfl (cleanBl _) rfl (.W rfl (cleanIl0 _) rfl (blksO.row rfl rfl (cleanIC _) (blksO.grown rfl ((by simp[rootX,nL,iL,cellsAll,cellsOf,List.flatMap_def])) (cleanIC _) .nil)))) (.L rfl (cleanGL _) rfl (.K rfl rfl rfl (.cons rfl (slV_ren (by decide) rfl rfl) (.cons rfl (pS_grown (by decide) rfl (by simp[rootX]) rfl rfl) (.cons rfl (.S rfl rfl rfl) (.cons rfl (.S rfl rfl rfl) (.cons rfl .I (.cons rfl .I .nil)))))))))
    have hkn:k∉out++[]:=fun h=>by rw[(hD.sn k hlt).2 h] at hsk;cases hsk
    have hD1:=hD.see hlt hkn (by simp)
    have hse1:∀u,u<k+1->(sb.set k true).getD u false=true:=fun u hu=>by
     by_cases h:u=k
     ·subst h;exact getD_set_same (by rw[hD.sl];exact hlt)
     ·rw[getD_set_ne h];exact hse u (by omega)
    have hX1:(rootX X k).take 1=[]++[k]∧1≤(rootX X k).length∧rootX X k≠[]∧(rootX X k).length≤rows.length:=by
     cases X
     ·simp[rootX];omega
     ·simpa [rootX] using hXn
    generalize rootX X k=X1 at *
    generalize sb.set k true=sb1 at *
    obtain ⟨hX2,hX3,hX4,hX5⟩:=hX1;rw[← hX2] at hD1;refine CodeS.run hmixU 0 zL ?_;(repeat' ((conv=>whnf);first|refine goD ?_|refine U.lw_c ?_ ?_<;>intro hb))
    (conv=>whnf);refine loop_inv (α:=List Bool×List Int×List Nat×List Nat×Nat) (fun y=>Dfs rows y.1 y.2.1 y.2.2.1 (y.2.2.2.1.take y.2.2.2.2)∧y.2.2.2.2≤y.2.2.2.1.length∧y.2.2.2.1≠[]∧(∀u,u<k+1->y.1.getD u false=true)∧y.2.2.2.1.length≤rows.length) (fun y=>(mkF [(0,imS (gL rows)),(2,.slice none 0 0),(3,slV 8 (nL y.2.2.1)),(4,.slice (some ⟨9,0,none⟩) y.2.2.2.2 y.2.2.2.1.length),(5,.slice (some ⟨0,0,none⟩) (gL rows).length (gL rows).length),(6,.slice (some ⟨1,0,none⟩) (gL rows).length (gL rows).length),(17,.int .i64 (gL rows).length),(18,.int .i64 k)],⟨mkO [(0,some (.cells 4 (bL y.1) false)),(1,some (.cells 3 (iL y.2.1) false)),(8,rowO 3 (iL (nL y.2.2.1))),(9,some (.cells 3 (iL (nL y.2.2.2.1)) true))],10,0,0⟩)) (fun y=>sumL rows+rows.length-(sumN y.2.1+y.2.2.1.length)) (sb1,nx,out,X1,1) ⟨hD1,hX3,hX4,hse1,hX5⟩ ?_ ?_
    ·cases X1 with
     |nil=>exact absurd rfl hX4
     |cons y l=>exact (Cov.renO (fun k=>if k=8 then 6 else if k=9 then 7 else k) rfl rfl (bR rfl) zL (fun k hk=>by have:k<8:=hk;rw[if_neg (by omega)];rw[if_neg (by omega)]) rfl nlz (.W rfl (cleanBl _) rfl (.W rfl (cleanIl0 _) rfl (blksO.row rfl rfl (cleanIC _) (.W rfl (cleanIl0 _) ((cellsI (nL (y::l))).symm) .nil)))) (.L rfl (cleanGL _) rfl (.K rfl rfl rfl (.cons rfl (slV_ren (by decide) rfl rfl) (.cons rfl (.S rfl rfl rfl) (.cons rfl (.S rfl rfl rfl) (.cons rfl (.S rfl rfl rfl) (.cons rfl .I (.cons rfl .I .nil)))))))))
    clear hD1 hX2 hX3 hX4 hX5 hse1 hse hD hkn es0 hst0 hXn hnk hsk;rintro ⟨sb,nx,out,X,m⟩ ⟨hD,hmX,hX,hse,hXn⟩
    dsimp only at hD hmX hX hse hXn;dsimp only;rcases m with _|m
    ·have g1:decide (((0:Nat):Int) > 0)=false:=by decide
     (repeat' ((conv=>whnf);first|refine goD ?_|refine U.lw_c ?_ ?_<;>intro hb))
     (conv=>whnf);refine ⟨rfl,sb,nx,out,X,by simpa using hD,hse,hXn,?_⟩
     exact (Cov.renI rfl rfl rfl rfl (.W rfl (cleanBl _) rfl (.W rfl (cleanIl0 _) rfl (blksO.row rfl rfl (cleanIC _) (blksO.grown rfl ((cellsI _)) (cleanIC _) .nil)))) (.L rfl (cleanGL _) rfl (.K rfl rfl rfl (.cons rfl (slV_ren (by decide) rfl rfl) (.cons rfl (pS_grown (by decide) rfl hX rfl rfl) (.cons rfl (.S rfl rfl rfl) (.cons rfl (.S rfl rfl rfl) (.cons rfl .I (.cons rfl .I .nil)))))))))
    ·have g1:decide (((m+1:Nat):Int) > 0)=true:=by simp
     have hXl:(nL X).length=X.length:=nL_len X;obtain ⟨t,ht⟩:∃t,X[m]?=some t:=⟨X[m],by simp⟩
     have htk:X.take (m+1)=X.take m++[t]:=take_snoc ht;rw[htk] at hD;have htn:=hD.lt t (by simp)
     have hw1:IntKind.i64.wrap (((m+1:Nat):Int)-1)=(m:Int):=by
      rw[IntKind.wrap_i64];omega
     have hmb:m.blt (m+1)=true:=bLe rL;have hn1:=iL_nth0 (L:=nL X) (i:=m) (by omega)
     rw[gt0_nL ht] at hn1;have htb:t.blt (gL rows).length=true:=by rw[gL_len];exact bLe htn
     obtain ⟨row,hrw⟩:∃row,rows[t]?=some row:=⟨rows[t],by simp[htn]⟩
     have hrd:rows.getD t []=row:=by simp[hrw]
     have hrm:=List.mem_of_getElem? hrw;have hrl:=hr row hrm;have hrx:nth (gL rows) t=some (imS (iL row)):=by rw[nth_eq,gL];simp[hrw]
     have hn2:=iL_nth0 (L:=nx) (i:=t) (by rw[hD.nl];exact htn)
     obtain ⟨hj0,hj1⟩:=hD.nb t htn;rw[hrd] at hj1;obtain ⟨j,hj⟩:∃j:Nat,gt0 nx t=j:=⟨(gt0 nx t).toNat,by omega⟩
     rw[hj] at hn2 hj1;have hXb:X.length.beq 0=false:=by cases X with
      |nil=>exact absurd rfl hX
      |cons=>rfl
     have hsc:(Nat.ble 0 m&&m.ble (m+1)&&(m+1).ble X.length)=true:=by
      rw[bLe zL,bLe (Nat.le_succ _),bLe hmX];rfl
     have hon:(out++(X.take m++[t])).length≤rows.length:=nodup_len hD.nd hD.lt;rw[List.length_append,List.length_append,List.length_singleton] at hon;by_cases hjl:j=row.length
     ·have g3:((j:Int)==((iL row).length:Int))=true:=by rw[iL_len,hjl];simp
      have hD2:=hD.pop (by rw[hj,hrd,hjl])
      have hmu:sumL rows+rows.length-(sumN nx+(out++[t]).length)<sumL rows+rows.length-(sumN nx+out.length):=by
       have:sumN nx≤sumL rows:=sumN_le nx rows hD.nl fun u hu=>(hD.nb u hu).2
       rw[List.length_append,List.length_singleton];omega
      have hno:nL (out++[t])=nL out++[(t:Int)]:=nL_app _ _;have hol:(nL out).length=out.length:=nL_len out;rcases hO:nL out with _|⟨y,ys⟩
      ·(repeat' ((conv=>whnf);first|refine goA ?_|(conv in (nth _ _)=>(change nth _ (0+m*1);rw[hn1]))|(conv in (nth _ _)=>(change nth _ (0+t*1);rw[hn2]))|rw[hw1]|rw[hXb]|refine U.ob_c hsc ?_|refine U.catC_p ?_|refine goB ?_|refine U.drawX_p (D:=U.propX) 10 [] (by decide +kernel) (by decide +kernel) ?_|refine U.drawX_p (D:=U.propX) 11 [] (by decide +kernel) (by decide +kernel) ?_|refine U.lw_c ?_ ?_<;>intro hb))
       (conv=>whnf);refine ⟨(sb,nx,out++[t],X,m),⟨hD2,by dsimp only;omega,hX,hse,hXn⟩,hmu,?_⟩
       dsimp only;rw[hno,hO];exact (Cov.renO (fun k=>if k=8 then 11 else k) rfl rfl (bR rfl) zL (fun k hk=>by have:k<8:=hk;rw[if_neg (by omega)]) rfl nlz (.W rfl (cleanBl _) rfl (.W rfl (cleanIl0 _) rfl (blksO.grown rfl rfl (cleanIC _) (.W rfl (cleanIl0 _) rfl .nil)))) (.L rfl (cleanGL _) rfl (.K rfl rfl rfl (.cons rfl (slV_grown (by decide) rfl (by simp) rfl rfl) (.cons rfl (.S rfl rfl rfl) (.cons rfl (.S rfl rfl rfl) (.cons rfl (.S rfl rfl rfl) (.cons rfl .I (.cons rfl .I .nil)))))))))
      ·have hyl:(cellsAll (iL (y::ys))).length=(ys.length+1)*(0+1):=by rw[cellsI,iL_len];simp
       have hys:ys.length+1≤29000:=by rw[hO] at hol;simp at hol;omega
       have hb7:(Nat.ble ((ys.length+1+(0+1))*8) 140737488355328&&Nat.ble (ys.length+1+(0+1)) 1000000)=true:=by
        rw[bLe (by omega),bLe (by omega)];rfl
       have hgr:cellsAll (iL (y::ys++[(t:Int)]))=cellsAll (iL (y::ys))++[Value.int .i64 (t:Int)]:=by
        rw[cellsI,cellsI,iL_app];rfl
       (repeat' ((conv=>whnf);first|refine goA ?_|(conv in (nth _ _)=>(change nth _ (0+m*1);rw[hn1]))|(conv in (nth _ _)=>(change nth _ (0+t*1);rw[hn2]))|rw[hw1]|rw[hXb]|refine U.ob_c hsc ?_|refine U.ob_c hb7 ?_|(rw[ble_f];dsimp only;refine growRow_p hyl rfl ?_)|refine goB ?_|refine U.drawX_p (D:=U.propX) 10 [] (by decide +kernel) (by decide +kernel) ?_|refine U.drawX_p (D:=U.propX) 11 [] (by decide +kernel) (by decide +kernel) ?_|refine U.lw_c ?_ ?_<;>intro hb))
       (conv=>whnf);refine ⟨(sb,nx,out++[t],X,m),⟨hD2,by dsimp only;omega,hX,hse,hXn⟩,hmu,?_⟩
       dsimp only;rw[hno,hO];exact (Cov.renO (fun k=>if k=8 then 11 else k) rfl rfl (bR rfl) zL (fun k hk=>by have:k<8:=hk;rw[if_neg (by omega)]) rfl nlz (.W rfl (cleanBl _) rfl (.W rfl (cleanIl0 _) rfl (blksO.grown rfl (hgr) (cleanIC _) (.W rfl (cleanIl0 _) rfl .nil)))) (.L rfl (cleanGL _) rfl (.K rfl rfl rfl (.cons rfl (slV_grown (by decide) rfl (by simp) (by simp) (by simp)) (.cons rfl (.S rfl rfl rfl) (.cons rfl (.S rfl rfl rfl) (.cons rfl (.S rfl rfl rfl) (.cons rfl .I (.cons rfl .I .nil)))))))))
     ·have hjlt:j<row.length:=by omega
      have g3:((j:Int)==((iL row).length:Int))=false:=by rw[iL_len];simp;omega
      obtain ⟨w,hwE,hw⟩:=hb row hrm row[j] (List.getElem_mem hjlt);have hre:row[j]?=some (w:Int):=by rw[List.getElem?_eq_getElem hjlt,hwE]
      have hrb:j.blt (iL row).length=true:=by rw[iL_len];exact bLe hjlt
      have hrn:nth (iL row) j=some (.int .i64 (w:Int)):=by rw[nth_eq,iL];simp[hre]
      have hes:ES rows t w:=by unfold ES;rw[hrd];exact List.mem_of_getElem? hre
      have he:(rows.getD t [])[(gt0 nx t).toNat]?=some (w:Int):=by rw[hj,hrd];exact hre
      have hst1:∀v:Value,0+t*1+[v].length≤(iL nx).length:=fun v=>by rw[iL_len,hD.nl,List.length_singleton];omega
      have es1:=iL_store0 (L:=nx) (i:=t) (x:=(j:Int)+1) (by rw[hD.nl];exact htn)
      have hwv:IntKind.i64.wrap ((j:Int)+1)=(j:Int)+1:=by
       have:row.length≤9223372036854775807:=hrl;rw[IntKind.wrap_i64];omega
      have es1':iL (nx.set t ((j:Int)+1))=(iL nx).take (0+t*1)++[Value.int .i64 (IntKind.i64.wrap ((j:Int)+1))]++(iL nx).drop (0+t*1+[Value.int .i64 (IntKind.i64.wrap ((j:Int)+1))].length):=by rw[hwv];exact es1.symm
      have hwb:w.blt (gL rows).length=true:=by rw[gL_len];exact bLe hw
      have hns:=bL_nth0 (l:=sb) (u:=w) (by rw[hD.sl];exact hw)
      have hsu:=sumN_set nx t j (by rw[hD.nl];exact htn) hj
      have hmu:∀sb2 p2,Dfs rows sb2 (nx.set t ((j:Int)+1)) out p2->sumL rows+rows.length-(sumN (nx.set t ((j:Int)+1))+out.length)<sumL rows+rows.length-(sumN nx+out.length):=fun sb2 p2 h2=>by
       have h3:sumN (nx.set t ((j:Int)+1))≤sumL rows:=sumN_le _ rows h2.nl fun u hu=>(h2.nb u hu).2
       have h4:sumN (nx.set t ((j:Int)+1))=sumN nx+1:=hsu;omega
      cases hsw:sb.getD w false
      ·rw[hsw] at hns;have hwn:w∉out++(X.take m++[t]):=fun h=>by rw[(hD.sn w hw).2 h] at hsw;cases hsw
       have hD2:=(hD.see hw hwn fun a ha=>by
        rcases List.mem_append.1 ha with ha|ha
        ·exact ((List.pairwise_append.1 hD.ch).2.2 a ha t (by simp)).step hes
        ·have:a=t:=by simpa using ha
         subst this;exact .step .refl hes).step (t:=t) (by simp) he (by simp)
       rw[hj,← htk] at hD2;have hse2:∀u,u<k+1->(sb.set w true).getD u false=true:=fun u hu=>by
        by_cases h:u=w
        ·subst h;exact getD_set_same (by rw[hD.sl];exact hw)
        ·rw[getD_set_ne h];exact hse u hu
       have hon2:(out++(X.take (m+1)++[w])).length≤rows.length:=nodup_len hD2.nd hD2.lt;rw[List.length_append,List.length_append,List.length_singleton,List.length_take] at hon2;have hst3:∀v:Value,0+w*1+[v].length≤(bL sb).length:=fun v=>by rw[bL_len,hD.sl,List.length_singleton];omega
       have es3:=bL_store0 (l:=sb) (i:=w) (x:=true) (by rw[hD.sl];exact hw)
       have hb8:(Nat.ble ((m+1+(0+1))*8) 140737488355328&&Nat.ble (m+1+(0+1)) 1000000)=true:=by
        rw[bLe (by omega),bLe (by omega)];rfl
       rcases Nat.lt_or_ge (m+1) X.length with hmX2|hmX2
       ·have hq:(m+1+(0+1)).ble X.length=true:=bLe (by omega)
        have hst4:∀v:Value,(m+1)*(0+1)+[v].length≤(iL (nL X)).length:=fun v=>by rw[iL_len,nL_len,List.length_singleton];omega
        have es4:=iL_store2' (L:=nL X) (i:=m+1) (x:=w) (by omega)
        rw[nL_set] at es4;(repeat' ((conv=>whnf);first|refine goA ?_|(conv in (nth _ _)=>(change nth _ (0+m*1);rw[hn1]))|(conv in (nth _ _)=>(change nth _ (0+t*1);rw[hn2]))|(conv in (nth _ _)=>(change nth _ (0+w*1);rw[hns]))|rw[hw1]|rw[hq]|refine U.ob_c hb8 ?_|refine U.storeC_p (hst1 _) ?_|refine U.storeC_p (hst3 _) ?_|refine U.storeC_p (hst4 _) ?_|refine goB ?_|refine U.drawX_p (D:=U.propX) 10 [] (by decide +kernel) (by decide +kernel) ?_|refine U.drawX_p (D:=U.propX) 11 [] (by decide +kernel) (by decide +kernel) ?_|refine U.lw_c ?_ ?_<;>intro hb))
        (conv=>whnf);refine ⟨(sb.set w true,nx.set t ((j:Int)+1),out,X.set (m+1) w,m+1+1),⟨?_,by dsimp only;rw[List.length_set];omega,fun h=>hX (by simpa using h),hse2,by dsimp only;rw[List.length_set];exact hXn⟩,hmu _ _ hD2,?_⟩
        ·dsimp only;rw[takeN_set hmX2];exact hD2
        exact (Cov.renI rfl rfl rfl rfl (.W rfl (cleanBl _) (es3.symm) (.W rfl (cleanIl0 _) (es1') (blksO.row rfl rfl (cleanIC _) (.W rfl (cleanIl0 _) (es4.symm) .nil)))) (.L rfl (cleanGL _) rfl (.K rfl rfl rfl (.cons rfl (slV_ren (by decide) rfl rfl) (.cons rfl (.sl _ _ _ _ _ _ _ (by decide) rfl (rfl) ((by simp))) (.cons rfl (.S rfl rfl rfl) (.cons rfl (.S rfl rfl rfl) (.cons rfl .I (.cons rfl .I .nil)))))))))
       ·have hXm:X.length=m+1:=by omega
        have hyl2:(iL (nL X)).length=(m+1)*(0+1):=by rw[iL_len,nL_len];omega
        have hgr2:iL (nL (X++[w]))=iL (nL X)++[Value.int .i64 (w:Int)]:=by simp[iL,nL]
        have htX:X.take (m+1)=X:=List.take_of_length_le (by omega)
        rw[hXm];(repeat' ((conv=>whnf);first|refine goA ?_|(conv in (nth _ _)=>(change nth _ (0+m*1);rw[hn1]))|(conv in (nth _ _)=>(change nth _ (0+t*1);rw[hn2]))|(conv in (nth _ _)=>(change nth _ (0+w*1);rw[hns]))|rw[hw1]|refine U.ob_c hb8 ?_|(rw[ble_f];dsimp only;refine growRow_p hyl2 rfl ?_)|refine U.storeC_p (hst1 _) ?_|refine U.storeC_p (hst3 _) ?_|refine goB ?_|refine U.drawX_p (D:=U.propX) 10 [] (by decide +kernel) (by decide +kernel) ?_|refine U.drawX_p (D:=U.propX) 11 [] (by decide +kernel) (by decide +kernel) ?_|refine U.lw_c ?_ ?_<;>intro hb))
        (conv=>whnf);refine ⟨(sb.set w true,nx.set t ((j:Int)+1),out,X++[w],m+1+1),⟨?_,by dsimp only;rw[List.length_append,hXm];exact Nat.le_refl _,fun h=>by simp at h,hse2,by dsimp only;rw[List.length_append,List.length_singleton];omega⟩,hmu _ _ hD2,?_⟩
        ·dsimp only;rw[htX] at hD2;rw[List.take_of_length_le (by rw[List.length_append,List.length_singleton];omega)];exact hD2
        exact (Cov.renO (fun k=>if k=9 then 11 else k) rfl rfl (bR rfl) zL (fun k hk=>by have:k<8:=hk;rw[if_neg (by omega)]) rfl nlz (.W rfl (cleanBl _) (es3.symm) (.W rfl (cleanIl0 _) (es1') (blksO.row rfl rfl (cleanIC _) (.W rfl (cleanIl0 _) (hgr2) .nil)))) (.L rfl (cleanGL _) rfl (.K rfl rfl rfl (.cons rfl (slV_ren (by decide) rfl rfl) (.cons rfl (.sl _ _ _ _ _ _ _ (by decide) rfl (rfl) ((by simp[hXm]))) (.cons rfl (.S rfl rfl rfl) (.cons rfl (.S rfl rfl rfl) (.cons rfl .I (.cons rfl .I .nil)))))))))
      ·rw[hsw] at hns;have hwm:=(hD.sn w hw).1 hsw;have hD2:=hD.step (t:=t) (by simp) he hwm
       rw[hj,← htk] at hD2;(repeat' ((conv=>whnf);first|refine goA ?_|(conv in (nth _ _)=>(change nth _ (0+m*1);rw[hn1]))|(conv in (nth _ _)=>(change nth _ (0+t*1);rw[hn2]))|(conv in (nth _ _)=>(change nth _ (0+w*1);rw[hns]))|rw[hw1]|refine U.storeC_p (hst1 _) ?_|refine goB ?_|refine U.drawX_p (D:=U.propX) 10 [] (by decide +kernel) (by decide +kernel) ?_|refine U.drawX_p (D:=U.propX) 11 [] (by decide +kernel) (by decide +kernel) ?_|refine U.lw_c ?_ ?_<;>intro hb))
       (conv=>whnf);refine ⟨(sb,nx.set t ((j:Int)+1),out,X,m+1),⟨hD2,hmX,hX,hse,hXn⟩,hmu _ _ hD2,?_⟩;exact (Cov.renI rfl rfl rfl rfl (.W rfl (cleanBl _) rfl (.W rfl (cleanIl0 _) (es1') (blksO.row rfl rfl (cleanIC _) (.W rfl (cleanIl0 _) rfl .nil)))) (.L rfl (cleanGL _) rfl (.K rfl rfl rfl (.cons rfl (slV_ren (by decide) rfl rfl) (.cons rfl (.S rfl rfl rfl) (.cons rfl (.S rfl rfl rfl) (.cons rfl (.S rfl rfl rfl) (.cons rfl .I (.cons rfl .I .nil)))))))))
   ·rintro e fr1 s1 ⟨rfl,sb',nx',out',X',hD',hse',hXn',hcov⟩ _
    refine ⟨_,_,hcov,?_⟩;refine CodeS.run hmixU 0 zL ?_;(repeat' ((conv=>whnf);first|refine goD ?_|refine U.lw_c ?_ ?_<;>intro hb))
    (conv=>whnf);refine ⟨(sb',nx',out',X',k+1),⟨hD',hlt,hse',hXn'⟩,by dsimp only;omega,?_⟩
    exact (Cov.renO (fun k=>if k=2 then 8 else if k=3 then 9 else k) rfl rfl (bR rfl) zL (fun k hk=>by have:k<2:=hk;rw[if_neg (by omega)];rw[if_neg (by omega)]) rfl nlz (.W rfl (cleanBl _) rfl (.W rfl (cleanIl0 _) rfl (blksO.row rfl rfl (cleanIC _) (blksO.row rfl rfl (cleanIC _) .nil)))) (.L rfl (cleanGL _) rfl (.K rfl rfl rfl (.cons rfl (slV_ren (by decide) rfl rfl) (.cons rfl (pS_ren (by decide) rfl) (.cons rfl (.S rfl rfl rfl) (.cons rfl (.S rfl rfl rfl) (.cons rfl .I (.L rfl (cleanI _) (congrArg (Value.int .i64) (kw.symm)) .nil)))))))))
  ·rw[hsk] at hnk;refine CodeS.run hmixU 0 zL ?_;(repeat' ((conv=>whnf);first|refine goA ?_|(conv in (nth _ _)=>(change nth _ (0+k*1);rw[hnk]))|refine goB ?_|refine U.lw_c ?_ ?_<;>intro hb))
   (conv=>whnf);refine ⟨(sb,nx,out,X,k+1),⟨hD,hlt,fun u hu=>?_,hXn⟩,by dsimp only;omega,?_⟩
   ·rcases Nat.lt_or_ge u k with h|h
    ·exact hse u h
    ·have:u=k:=by dsimp only at hu;omega
     rw[this];exact hsk
   exact (Cov.renI rfl rfl rfl rfl (.W rfl (cleanBl _) rfl (.W rfl (cleanIl0 _) rfl (blksO.row rfl rfl (cleanIC _) (blksO.row rfl rfl (cleanIC _) .nil)))) (.L rfl (cleanGL _) rfl (.K rfl rfl rfl (.cons rfl (slV_ren (by decide) rfl rfl) (.cons rfl (pS_ren (by decide) rfl) (.cons rfl (.S rfl rfl rfl) (.cons rfl (.S rfl rfl rfl) (.cons rfl .I (.L rfl (cleanI _) (congrArg (Value.int .i64) (kw.symm)) .nil)))))))))
 ·have hkn:k=rows.length:=by omega
  subst hkn;have g0:decide ((rows.length:Int)<((gL rows).length:Int))=false:=by rw[gL_len];simp
  refine CodeS.run hmixU 0 zL ?_;(repeat' ((conv=>whnf);first|refine goD ?_|refine U.lw_c ?_ ?_<;>intro hb))
  (conv=>whnf);exact ⟨imS (iL (nL out)),⟨out,rfl,hD.done hse⟩,slV_frz (T:=3) zL rfl⟩
end Go.Proofs.YtcihknonfcldeaaDoor
