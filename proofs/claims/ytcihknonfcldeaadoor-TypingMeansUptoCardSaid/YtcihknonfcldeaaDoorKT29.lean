
import Derived.Test.YtcihknonfcldeaaDoorKT28
namespace Go.Proofs.YtcihknonfcldeaaDoor
open Go Go.RowKit Go.Sort U
set_option linter.unusedVariables false
set_option linter.unusedSimpArgs false
set_option maxRecDepth 100000
set_option maxHeartbeats 40000000
def wr (n:Int):Int:=IntKind.i64.wrap n
mutual
def parE:AE->Int->Int->Int
 |.mk _ _ _ _ l _ _,m,d=>if d≤0∧0<l.length then 1000000 else parL l m d 0
def parL:List AE->Int->Int->Int->Int
 |[],_,_,n=>n
 |e::l,m,d,n=>if n≤m then parL l m d (wr (wr (n+1)+parE e m (wr (d-1)))) else n
end
def parF (l:List AE) (m d:Int):Int:=if d≤0∧0<l.length then 1000000 else parL l m d 0
theorem parts_d (l:List AE) (hl:l.length≤900000) (m d:Int) (ih:∀k n nm o l' ln cl,AE.mk k n nm o l' ln cl∈l->∀d',DenU Tryd.prog [] 46 [imS (encAs l'),.int .i64 m,.int .i64 d'] (.int .i64 (parF l' m d'))):DenU Tryd.prog [] 46 [imS (encAs l),.int .i64 m,.int .i64 d] (.int .i64 (parF l m d)):=by
 refine denU_of_sound hmixU fun Ts=>SoundAt.body hmixU Tryd.func46 rfl rfl rfl 0 ?_
 have hel:(encAs l).length=l.length:=by rw[encAs_map,List.length_map]
 unfold parF;by_cases hd:d≤0∧0<l.length
 ·have g1:decide (d≤0)=true:=decide_eq_true hd.1;have g2:decide (((encAs l).length:Int) > 0)=true:=decide_eq_true (by rw[hel];omega)
  rw[if_pos hd];(repeat' ((conv=>whnf);first|refine goD ?_|refine U.lw_c ?_ ?_<;>intro hb))
  (conv=>whnf);exact .clean _ (cleanI _)
 ·rw[if_neg hd];by_cases h0:d≤0
  ·have hl0:l=[]:=List.eq_nil_of_length_eq_zero (by omega)
   subst hl0;have g1:decide (d≤0)=true:=decide_eq_true h0;have g2:decide (((encAs []).length:Int) > 0)=false:=rfl;(repeat' ((conv=>whnf);first|refine goD ?_|refine U.lw_c ?_ ?_<;>intro hb))
   (conv=>whnf);refine loop_inv (α:=Unit) (fun _=>True) (fun _=>(mkF [(0,imS (encAs [])),(1,.int .i64 m),(7,.int .i64 0),(8,.int .i64 0)],⟨.e,0,0,0⟩)) (fun _=>0) () trivial (Cov.renI rfl rfl rfl rfl .nil (.L rfl (cleanAs _) rfl (.cons rfl .I (.K rfl rfl rfl (.K rfl rfl rfl .nil))))) ?_
   rintro ⟨⟩ _
   dsimp only;have g3:decide ((0:Int)<((encAs []).length:Int))=false:=rfl;(repeat' ((conv=>whnf);first|refine goD ?_|refine U.lw_c ?_ ?_<;>intro hb))
   (conv=>whnf);exact .same (.flat _ rfl) rfl
  ·have g1:decide (d≤0)=false:=decide_eq_false h0;(repeat' ((conv=>whnf);first|refine goD ?_|refine U.lw_c ?_ ?_<;>intro hb))
   (conv=>whnf);refine loop_inv (α:=List AE×List AE×Int) (fun x=>x.1++x.2.1=l∧parL x.2.1 m d x.2.2=parL l m d 0) (fun x=>(mkF [(0,imS (encAs l)),(1,.int .i64 m),(2,.int .i64 d),(7,.int .i64 x.2.2),(8,.int .i64 x.1.length)],⟨.e,0,0,0⟩)) (fun x=>x.2.1.length) ([],l,0) ⟨rfl,rfl⟩ (Cov.renI rfl rfl rfl rfl .nil (.L rfl (cleanAs _) rfl (.cons rfl .I (.cons rfl .I (.cons rfl .I (.cons rfl .I .nil)))))) ?_
   rintro ⟨pre,rest,n⟩ ⟨p1,p2⟩
   dsimp only at p1 p2;dsimp only;rcases rest with _|⟨e,rest⟩
   ·rw[List.append_nil] at p1;subst p1;have h4b:=U.lt_no encAs_map pre;(repeat' ((conv=>whnf);first|refine goD ?_|refine U.lw_c ?_ ?_<;>intro hb))
    (conv=>whnf);exact .same (.flat _ rfl) (by rw[← p2,parL];rfl)
   ·have hl2:(pre++e::rest).length≤maxI:=by rw[p1];unfold maxI;omega
    obtain ⟨h4b,h4c,h4n,h4w⟩:=U.at4 encAs_map pre (e) rest (hl2);rw[p1] at h4b h4c h4n;obtain ⟨k1,n1,nm1,o1,l1,ln1,cl1⟩:=e;have c1:=ih k1 n1 nm1 o1 l1 ln1 cl1 (by rw[← p1];simp) (wr (d-1))
    have ca:=cleanAs l1;by_cases hn:n≤m
    ·have g5:decide (n≤m)=true:=decide_eq_true hn;rw[parL,if_pos hn] at p2;(repeat' ((conv=>whnf);first|refine goD ?_|refine U.SoundAt.u (c1) clN ?_|refine U.SoundC.u (c1) clN ?_|refine U.lw_c ?_ ?_<;>intro hb))
     (conv=>whnf);refine ⟨(pre++[.mk k1 n1 nm1 o1 l1 ln1 cl1],rest,wr (wr (n+1)+parF l1 m (wr (d-1)))),⟨by rw[← p1];simp,p2⟩,by simp,?_⟩
     exact (Cov.renI rfl rfl rfl rfl .nil (.L rfl (cleanAs _) rfl (.cons rfl .I (.cons rfl .I (.cons rfl .I (.L rfl (cleanI _) (congrArg (Value.int .i64) (h4w.symm)) .nil))))))
    ·have g5:decide (n≤m)=false:=decide_eq_false hn;(repeat' ((conv=>whnf);first|refine goD ?_|refine U.lw_c ?_ ?_<;>intro hb))
     (conv=>whnf);exact .same (.flat _ rfl) (by rw[← p2,parL,if_neg hn];rfl)
theorem parts_all:∀(n:Nat) (l:List AE),szAs l≤n->n≤900000->∀m d,DenU Tryd.prog [] 46 [imS (encAs l),.int .i64 m,.int .i64 d] (.int .i64 (parF l m d))
 |0,l,h,hn,m,d=>by
  have:=szAs_len l;have:l=[]:=List.eq_nil_of_length_eq_zero (by omega)
  subst this;exact parts_d [] (by simp) m d fun _ _ _ _ _ _ _ he=>by cases he
 |n+1,l,h,hn,m,d=>parts_d l (Nat.le_trans (szAs_len l) (by omega)) m d fun k n' nm o l' ln cl he d'=>by
  have:=szAs_mem he;rw[szA] at this;exact parts_all n l' (by omega) (by omega) m d'
mutual
def manS:AS6->Int->Int->Int->Int
 |.mk _ _ xs th el _ _,m,d,n=>wr (wr (wr (wr (n+1)+parF xs m (wr (d-1)))+(if wr (d-1)=0∧0<th.length then 1000000 else manL th m (wr (d-1)) 0))+(if wr (d-1)=0∧0<el.length then 1000000 else manL el m (wr (d-1)) 0))
def manL:List AS6->Int->Int->Int->Int
 |[],_,_,n=>n
 |e::l,m,d,n=>if n≤m then manL l m d (manS e m d n) else n
end
def manF (l:List AS6) (m d:Int):Int:=if d=0∧0<l.length then 1000000 else manL l m d 0
theorem many_d (l:List AS6) (hl:l.length≤900000) (m d:Int) (ih:∀k nm xs th el ln cl,AS6.mk k nm xs th el ln cl∈l->∀d',DenU Tryd.prog [] 46 [imS (encAs xs),.int .i64 m,.int .i64 d'] (.int .i64 (parF xs m d'))∧DenU Tryd.prog [] 29 [imS (encTs th),.int .i64 m,.int .i64 d'] (.int .i64 (manF th m d'))∧DenU Tryd.prog [] 29 [imS (encTs el),.int .i64 m,.int .i64 d'] (.int .i64 (manF el m d'))):DenU Tryd.prog [] 29 [imS (encTs l),.int .i64 m,.int .i64 d] (.int .i64 (manF l m d)):=by
 refine denU_of_sound hmixU fun Ts=>SoundAt.body hmixU Tryd.func29 rfl rfl rfl 0 ?_
 have hel:(encTs l).length=l.length:=by rw[encTs_map,List.length_map]
 by_cases hd:d=0∧0<l.length
 ·have g1:(d==0)=true:=beq_iff_eq.2 hd.1;have g2:decide (((encTs l).length:Int) > 0)=true:=decide_eq_true (by rw[hel];omega)
  rw[manF,if_pos hd];(repeat' ((conv=>whnf);first|refine goD ?_|refine U.lw_c ?_ ?_<;>intro hb))
  (conv=>whnf);exact .clean _ (cleanI _)
 ·rw[manF,if_neg hd];by_cases h0:d=0
  ·have hl0:l=[]:=List.eq_nil_of_length_eq_zero (by omega)
   subst hl0;have g1:(d==0)=true:=beq_iff_eq.2 h0;have g2:decide (((encTs []).length:Int) > 0)=false:=rfl;(repeat' ((conv=>whnf);first|refine goD ?_|refine U.lw_c ?_ ?_<;>intro hb))
   (conv=>whnf);refine loop_inv (α:=Unit) (fun _=>True) (fun _=>(mkF [(0,imS (encTs [])),(1,.int .i64 m),(7,.int .i64 0),(8,.int .i64 0)],⟨.e,0,0,0⟩)) (fun _=>0) () trivial (Cov.renI rfl rfl rfl rfl .nil (.L rfl (cleanT6s _) rfl (.cons rfl .I (.K rfl rfl rfl (.K rfl rfl rfl .nil))))) ?_
   rintro ⟨⟩ _
   dsimp only;have g3:decide ((0:Int)<((encTs []).length:Int))=false:=rfl;(repeat' ((conv=>whnf);first|refine goD ?_|refine U.lw_c ?_ ?_<;>intro hb))
   (conv=>whnf);exact .same (.flat _ rfl) rfl
  ·have g1:(d==0)=false:=beq_eq_false_iff_ne.2 h0;(repeat' ((conv=>whnf);first|refine goD ?_|refine U.lw_c ?_ ?_<;>intro hb))
   (conv=>whnf);refine loop_inv (α:=List AS6×List AS6×Int) (fun x=>x.1++x.2.1=l∧manL x.2.1 m d x.2.2=manL l m d 0) (fun x=>(mkF [(0,imS (encTs l)),(1,.int .i64 m),(2,.int .i64 d),(7,.int .i64 x.2.2),(8,.int .i64 x.1.length)],⟨.e,0,0,0⟩)) (fun x=>x.2.1.length) ([],l,0) ⟨rfl,rfl⟩ (Cov.renI rfl rfl rfl rfl .nil (.L rfl (cleanT6s _) rfl (.cons rfl .I (.cons rfl .I (.cons rfl .I (.cons rfl .I .nil)))))) ?_
   rintro ⟨pre,rest,n⟩ ⟨p1,p2⟩
   dsimp only at p1 p2;dsimp only;rcases rest with _|⟨e,rest⟩
   ·rw[List.append_nil] at p1;subst p1;have h4b:=U.lt_no encTs_map pre;(repeat' ((conv=>whnf);first|refine goD ?_|refine U.lw_c ?_ ?_<;>intro hb))
    (conv=>whnf);exact .same (.flat _ rfl) (by rw[← p2,manL];rfl)
   ·have hl2:(pre++e::rest).length≤maxI:=by rw[p1];unfold maxI;omega
    obtain ⟨h4b,h4c,h4n,h4w⟩:=U.at4 encTs_map pre (e) rest (hl2);rw[p1] at h4b h4c h4n;obtain ⟨k1,nm1,xs1,th1,el1,ln1,cl1⟩:=e;obtain ⟨c1,c2,c3⟩:=ih k1 nm1 xs1 th1 el1 ln1 cl1 (by rw[← p1];simp) (wr (d-1))
    have cx:=cleanAs xs1;have ct:=cleanT6s th1;have cl:=cleanT6s el1;by_cases hn:n≤m
    ·have g5:decide (n≤m)=true:=decide_eq_true hn;rw[manL,if_pos hn,manS] at p2;(repeat' ((conv=>whnf);first|refine goD ?_|refine U.SoundAt.u (c1) clN ?_|refine U.SoundAt.u (c2) clN ?_|refine U.SoundAt.u (c3) clN ?_|refine U.SoundC.u (c1) clN ?_|refine U.SoundC.u (c2) clN ?_|refine U.SoundC.u (c3) clN ?_|refine U.drawX_p (D:=U.propX) 33 [] (by decide +kernel) (by decide +kernel) ?_|refine U.lw_c ?_ ?_<;>intro hb))
     (conv=>whnf);refine ⟨(pre++[.mk k1 nm1 xs1 th1 el1 ln1 cl1],rest,wr (wr (wr (wr (n+1)+parF xs1 m (wr (d-1)))+manF th1 m (wr (d-1)))+manF el1 m (wr (d-1)))),⟨by rw[← p1];simp,p2⟩,by simp,?_⟩
     exact (Cov.renI rfl rfl rfl rfl .nil (.L rfl (cleanT6s _) rfl (.cons rfl .I (.cons rfl .I (.cons rfl .I (.L rfl (cleanI _) (congrArg (Value.int .i64) (h4w.symm)) .nil))))))
    ·have g5:decide (n≤m)=false:=decide_eq_false hn;(repeat' ((conv=>whnf);first|refine goD ?_|refine U.lw_c ?_ ?_<;>intro hb))
     (conv=>whnf);exact .same (.flat _ rfl) (by rw[← p2,manL,if_neg hn];rfl)
theorem many_all:∀(n:Nat) (l:List AS6),szTs l≤n->n≤900000->∀m d,DenU Tryd.prog [] 29 [imS (encTs l),.int .i64 m,.int .i64 d] (.int .i64 (manF l m d))
 |0,l,h,hn,m,d=>by
  have:=szTs_len l;have:l=[]:=List.eq_nil_of_length_eq_zero (by omega)
  subst this;exact many_d [] (by simp) m d fun _ _ _ _ _ _ _ he=>by cases he
 |n+1,l,h,hn,m,d=>many_d l (Nat.le_trans (szTs_len l) (by omega)) m d fun k nm xs th el ln cl he d'=>by
  have:=szTs_mem he;rw[szT] at this;exact ⟨parts_all _ xs rL (by omega) m d',many_all n th (by omega) (by omega) m d',many_all n el (by omega) (by omega) m d'⟩
theorem wr_in {x:Int}(h:0≤x∧x≤4000000000000000000):wr x=x:=by
 unfold wr;rw[IntKind.wrap_i64];omega
theorem wr_pred {d:Int}(h:-1000≤d∧d≤1000):wr (d-1)=d-1:=by
 unfold wr;rw[IntKind.wrap_i64];omega
mutual
theorem parE_few:∀(e:AE) (m d:Int),0≤m∧m≤100000->-10≤d∧d≤1000->szA e≤2000000->0≤parE e m d∧parE e m d≤1000000*(szA e-1:Nat)∧(parE e m d≤m->(szA e-1:Nat)≤parE e m d)
 |.mk k n nm o l ln cl,m,d,hm,hd,hs=>by
  rw[szA] at *;rw[parE];split
  ·rename_i h;have:=szAs_len l;refine ⟨by omega,by omega,fun h=>by omega⟩
  ·rename_i h;have h1:l=[]∨1≤d:=by
    rcases Nat.eq_zero_or_pos l.length with h2|h2
    ·exact .inl (List.eq_nil_of_length_eq_zero h2)
    ·exact .inr (by omega)
   have:=parL_few l m d 0 0 hm ⟨h1,hd.2⟩ (by omega) (by omega) (fun _=>by omega)
   simpa using this
theorem parL_few:∀(l:List AE) (m d n:Int) (s:Nat),0≤m∧m≤100000->(l=[]∨1≤d)∧d≤1000->s+szAs l≤2000000->0≤n∧n≤1000000*s->(n≤m->s≤n)->0≤parL l m d n∧parL l m d n≤1000000*(s+szAs l:Nat)∧(parL l m d n≤m->(s+szAs l:Nat)≤parL l m d n)
 |[],m,d,n,s,hm,hd,hs,hn,hc=>by
  rw[parL,szAs];exact ⟨hn.1,by omega,fun h=>by have:=hc h;omega⟩
 |e::l,m,d,n,s,hm,hd,hs,hn,hc=>by
  rw[parL,szAs];rw[szAs] at hs;have hp:=szA_pos e;have hd1:1≤d:=by
   rcases hd.1 with h|h
   ·cases h
   ·exact h
  split
  ·rename_i h;have h1:=parE_few e m (wr (d-1)) hm (by rw[wr_pred (by omega)];omega) (by omega)
   have e1:wr (n+1)=n+1:=wr_in (by omega)
   have e2:wr (n+1+parE e m (wr (d-1)))=n+1+parE e m (wr (d-1)):=wr_in (by omega)
   rw[e1,e2];have h2:=parL_few l m d (n+1+parE e m (wr (d-1))) (s+szA e) hm ⟨.inr hd1,hd.2⟩ (by omega) (by omega) (fun h3=>by
    have:=h1.2.2 (by omega)
    have:=hc h;omega)
   rw[show s+(szA e+szAs l)=s+szA e+szAs l by omega];exact h2
  ·rename_i h;exact ⟨hn.1,by omega,fun h3=>absurd h3 h⟩
end
theorem parF_few (l:List AE) (m d:Int) (hm:0≤m∧m≤100000) (hd:-10≤d∧d≤1000) (hs:szAs l≤2000000):0≤parF l m d∧parF l m d≤1000000*(szAs l:Nat)∧(parF l m d≤m->(szAs l:Nat)≤parF l m d):=by
 unfold parF;split
 ·rename_i h;have:=szAs_len l;exact ⟨by omega,by omega,fun h=>by omega⟩
 ·rename_i h;have h1:l=[]∨1≤d:=by
   rcases Nat.eq_zero_or_pos l.length with h2|h2
   ·exact .inl (List.eq_nil_of_length_eq_zero h2)
   ·exact .inr (by omega)
  have:=parL_few l m d 0 0 hm ⟨h1,hd.2⟩ (by omega) (by omega) (fun _=>by omega)
  simpa using this
mutual
theorem manS_few:∀(e:AS6) (m d n:Int) (s:Nat),0≤m∧m≤100000->1≤d∧d≤1000->s+szT e≤2000000->0≤n∧n≤1000000*s->(n≤m->s≤n)->0≤manS e m d n∧manS e m d n≤1000000*(s+szT e:Nat)∧(manS e m d n≤m->(s+szT e:Nat)≤manS e m d n)
 |.mk k nm xs th el ln cl,m,d,n,s,hm,hd,hs,hn,hc=>by
  rw[szT] at *;rw[manS];have ed:wr (d-1)=d-1:=wr_pred (by omega)
  have hp:=parF_few xs m (d-1) hm (by omega) (by omega)
  have ha:0≤(if d-1=0∧0<th.length then (1000000:Int) else manL th m (d-1) 0)∧(if d-1=0∧0<th.length then (1000000:Int) else manL th m (d-1) 0)≤1000000*(szTs th:Nat)∧((if d-1=0∧0<th.length then (1000000:Int) else manL th m (d-1) 0)≤m->(szTs th:Nat)≤(if d-1=0∧0<th.length then (1000000:Int) else manL th m (d-1) 0)):=by
   split
   ·rename_i h;have:=szTs_len th;exact ⟨by omega,by omega,fun h=>by omega⟩
   ·rename_i h;have h1:th=[]∨1≤d-1:=by
     rcases Nat.eq_zero_or_pos th.length with h2|h2
     ·exact .inl (List.eq_nil_of_length_eq_zero h2)
     ·exact .inr (by omega)
    have:=manL_few th m (d-1) 0 0 hm ⟨h1,by omega⟩ (by omega) (by omega) (fun _=>by omega)
    simpa using this
  have hb:0≤(if d-1=0∧0<el.length then (1000000:Int) else manL el m (d-1) 0)∧(if d-1=0∧0<el.length then (1000000:Int) else manL el m (d-1) 0)≤1000000*(szTs el:Nat)∧((if d-1=0∧0<el.length then (1000000:Int) else manL el m (d-1) 0)≤m->(szTs el:Nat)≤(if d-1=0∧0<el.length then (1000000:Int) else manL el m (d-1) 0)):=by
   split
   ·rename_i h;have:=szTs_len el;exact ⟨by omega,by omega,fun h=>by omega⟩
   ·rename_i h;have h1:el=[]∨1≤d-1:=by
     rcases Nat.eq_zero_or_pos el.length with h2|h2
     ·exact .inl (List.eq_nil_of_length_eq_zero h2)
     ·exact .inr (by omega)
    have:=manL_few el m (d-1) 0 0 hm ⟨h1,by omega⟩ (by omega) (by omega) (fun _=>by omega)
    simpa using this
  rw[ed];generalize parF xs m (d-1)=p at *
  generalize (if d-1=0∧0<th.length then (1000000:Int) else manL th m (d-1) 0)=a at *
  generalize (if d-1=0∧0<el.length then (1000000:Int) else manL el m (d-1) 0)=b at *
  have e1:wr (n+1)=n+1:=wr_in (by omega)
  have e2:wr (n+1+p)=n+1+p:=wr_in (by omega)
  have e3:wr (n+1+p+a)=n+1+p+a:=wr_in (by omega)
  have e4:wr (n+1+p+a+b)=n+1+p+a+b:=wr_in (by omega)
  rw[e1,e2,e3,e4];refine ⟨by omega,by omega,fun h=>?_⟩
  have q1:=hp.2.2 (by omega)
  have q2:=ha.2.2 (by omega)
  have q3:=hb.2.2 (by omega)
  have q4:=hc (by omega)
  omega
theorem manL_few:∀(l:List AS6) (m d n:Int) (s:Nat),0≤m∧m≤100000->(l=[]∨1≤d)∧d≤1000->s+szTs l≤2000000->0≤n∧n≤1000000*s->(n≤m->s≤n)->0≤manL l m d n∧manL l m d n≤1000000*(s+szTs l:Nat)∧(manL l m d n≤m->(s+szTs l:Nat)≤manL l m d n)
 |[],m,d,n,s,hm,hd,hs,hn,hc=>by
  rw[manL,szTs];exact ⟨hn.1,by omega,fun h=>by have:=hc h;omega⟩
 |e::l,m,d,n,s,hm,hd,hs,hn,hc=>by
  rw[manL,szTs];rw[szTs] at hs;have hp:=szT_pos e;have hd1:1≤d:=by
   rcases hd.1 with h|h
   ·cases h
   ·exact h
  split
  ·rename_i h;have h1:=manS_few e m d n s hm (by omega) (by omega) hn hc
   have h2:=manL_few l m d (manS e m d n) (s+szT e) hm ⟨.inr hd1,hd.2⟩ (by omega) ⟨h1.1,h1.2.1⟩ h1.2.2
   rw[show s+(szT e+szTs l)=s+szT e+szTs l by omega];exact h2
  ·rename_i h;exact ⟨hn.1,by omega,fun h3=>absurd h3 h⟩
end
theorem manF_few (l:List AS6) (m d:Int) (hm:0≤m∧m≤100000) (hd:0≤d∧d≤1000) (hs:szTs l≤2000000):0≤manF l m d∧manF l m d≤1000000*(szTs l:Nat)∧(manF l m d≤m->(szTs l:Nat)≤manF l m d):=by
 unfold manF;split
 ·rename_i h;have:=szTs_len l;exact ⟨by omega,by omega,fun h=>by omega⟩
 ·rename_i h;have h1:l=[]∨1≤d:=by
   rcases Nat.eq_zero_or_pos l.length with h2|h2
   ·exact .inl (List.eq_nil_of_length_eq_zero h2)
   ·exact .inr (by omega)
  have:=manL_few l m d 0 0 hm ⟨h1,hd.2⟩ (by omega) (by omega) (fun _=>by omega)
  simpa using this
structure ADc where
 k:Int
 nm:ByteArray
 lo:Int
 hi:Int
 size:Int
 ps:List ByteArray
 body:List AS6
 ln:Int
 cl:Int
def encDc (d:ADc):Value:=.agg ⟨[.int .i64 d.k,.string d.nm,.int .i64 d.lo,.int .i64 d.hi,.int .i64 d.size,imS (sL d.ps),imS (encTs d.body),.int .i64 d.ln,.int .i64 d.cl]⟩
def encDcs (l:List ADc):List Value:=l.map encDc
theorem encDcs_map (l:List ADc):encDcs l=l.map encDc:=rfl
structure APr where
 ds:List ADc
 mn:List AS6
def encPr (p:APr):Value:=.agg ⟨[imS (encDcs p.ds),imS (encTs p.mn)]⟩
theorem cleanDc_cells (d:ADc):∀c∈cellsOf (encDc d),NoNm c:=fun c hc=>by
 simp only[encDc,cellsOf,List.mem_cons,List.not_mem_nil,or_false] at hc;rcases hc with rfl|rfl|rfl|rfl|rfl|rfl|rfl|rfl|rfl
 ·exact .flat _ rfl
 ·exact .flat _ rfl
 ·exact .flat _ rfl
 ·exact .flat _ rfl
 ·exact .flat _ rfl
 ·exact cleanSL _
 ·exact cleanT6s _
 ·exact .flat _ rfl
 ·exact .flat _ rfl
theorem cleanDc (d:ADc):NoNm (encDc d):=.agg _ (cleanDc_cells d)
theorem cleanDcCells (l:List ADc):∀c,c∈cellsAll (encDcs l)->NoNm c:=fun c hc=>by
 obtain ⟨v,hv,hc⟩:=List.mem_flatMap.1 hc;obtain ⟨e,he,rfl⟩:=List.mem_map.1 hv;exact cleanDc_cells e c hc
theorem cleanDcs (l:List ADc):NoNm (imS (encDcs l)):=.ims _ (cleanDcCells l)
theorem cleanPr_cells (p:APr):∀x,x∈[imS (encDcs p.ds),imS (encTs p.mn)]->NoNm x:=fun c hc=>by
 simp only[List.mem_cons,List.not_mem_nil,or_false] at hc;rcases hc with rfl|rfl
 ·exact cleanDcs _
 ·exact cleanT6s _
theorem cleanPr (p:APr):NoNm (encPr p):=.agg _ (cleanPr_cells p)
def szDs (l:List ADc):Nat:=(l.map fun d=>1+szTs d.body).sum
def szPr (p:APr):Nat:=szDs p.ds+szTs p.mn
theorem szDs_mem {l:List ADc}{d:ADc}(h:d∈l):1+szTs d.body≤szDs l:=by
 induction l with
 |nil=>cases h
 |cons x l ih =>
  rw[szDs,List.map_cons,List.sum_cons];rcases List.mem_cons.1 h with rfl|h
  ·omega
  ·have:=ih h;rw[szDs] at this;omega
theorem szDs_len (l:List ADc):l.length≤szDs l:=by
 induction l with
 |nil=>exact Nat.zero_le _
 |cons x l ih=>rw[szDs,List.map_cons,List.sum_cons,List.length_cons];rw[szDs] at ih;omega
theorem szDs_app (l m:List ADc):szDs (l++m)=szDs l+szDs m:=by simp[szDs]
def FewQ (p:APr) (u:Value):Prop:=∃b:Bool,u=.bool b∧(b=true->p.ds.length≤300∧(∀d∈p.ds,d.ps.length≤40)∧szPr p≤300)
theorem few_e (p:APr) (hs:szPr p≤800000):DenE Tryd.prog 14 [encPr p,.int .i64 300] (FewQ p):=by
 refine denE_of_sound hmixU fun Ts=>SoundAt.body hmixU Tryd.func14 rfl rfl rfl 0 ?_
 obtain ⟨ds,mn⟩:=p;unfold szPr at hs;dsimp only at hs;have hdl:=szDs_len ds;(repeat' ((conv=>whnf);first|refine goD ?_|refine U.lw_c ?_ ?_<;>intro hb))
 (conv=>whnf);refine loop_inv (α:=List ADc×List ADc) (fun x=>x.1++x.2=ds∧x.1.length≤301∧∀d∈x.1,d.ps.length≤40) (fun x=>(mkF [(1,.int .i64 300),(2,.pointer (some ⟨0,0,none⟩)),(4,.bool false),(5,.int .i64 x.1.length)],⟨mkO [(0,some (.cells 25 [imS (encDcs ds),imS (encTs mn)] false))],1,0,0⟩)) (fun x=>x.2.length) ([],ds) ⟨rfl,by simp,fun d h=>by cases h⟩ (Cov.renI rfl rfl rfl rfl (.W rfl (cleanPr_cells ⟨ds,mn⟩) rfl .nil) (.cons rfl .I (.cons rfl (.P rfl) (.K rfl rfl rfl (.cons rfl .I .nil))))) ?_
 rintro ⟨pre,rest⟩ ⟨p1,p2,p3⟩
 dsimp only at p1 p2 p3;dsimp only;have hlen:(encDcs ds).length=ds.length:=by rw[encDcs_map,List.length_map]
 by_cases hend:rest=[]∨300<pre.length
 ·-- the first loop ends
  have hx:ds.length≤300->∀d∈ds,d.ps.length≤40:=fun h d hd=>by
   rcases hend with e|e
   ·subst e;rw[List.append_nil] at p1;exact p3 d (by rw[p1];exact hd)
   ·have:=congrArg List.length p1;simp at this
    omega
  have hpl:pre.length≤ds.length:=by rw[← p1];simp
  have hq:(decide ((pre.length:Int)<((encDcs ds).length:Int))=true∧decide ((pre.length:Int)≤300)=false)∨decide ((pre.length:Int)<((encDcs ds).length:Int))=false:=by
   rw[hlen];rcases Nat.lt_or_ge pre.length ds.length with h|h
   ·rcases hend with e|e
    ·subst e;rw[List.append_nil] at p1;rw[p1] at h;omega
    ·exact .inl ⟨decide_eq_true (by omega),decide_eq_false (by omega)⟩
   ·exact .inr (decide_eq_false (by omega))
  rcases hq with ⟨g1,g2⟩|g1
  all_goals (repeat' ((conv=>whnf);first|refine goD ?_|refine U.lw_c ?_ ?_<;>intro hb))
  all_goals (conv=>whnf)
  all_goals refine loop_inv (α:=List ADc×List ADc×Int) (fun x=>x.1++x.2.1=ds∧x.1.length≤301∧0≤x.2.2∧x.2.2≤1000000*(szDs x.1:Nat)∧(x.2.2≤300->(szDs x.1:Nat)≤x.2.2)) (fun x=>(mkF [(1,.int .i64 300),(2,.pointer (some ⟨0,0,none⟩)),(4,.bool false),(6,.int .i64 x.2.2),(7,.int .i64 x.1.length)],⟨mkO [(0,some (.cells 25 [imS (encDcs ds),imS (encTs mn)] false))],1,0,0⟩)) (fun x=>x.2.1.length) ([],ds,0) ⟨rfl,by simp,by simp,by simp[szDs],fun _=>by simp[szDs]⟩ (Cov.renI rfl rfl rfl rfl (.W rfl (cleanPr_cells ⟨ds,mn⟩) rfl .nil) (.cons rfl .I (.cons rfl (.P rfl) (.K rfl rfl rfl (.cons rfl .I (.cons rfl .I .nil)))))) ?_
  all_goals rintro ⟨pr2,rest2,r⟩ ⟨q1,q2,q3,q4,q5⟩
  all_goals dsimp only at q1 q2 q3 q4 q5
  all_goals dsimp only
  all_goals
   have hsp:szDs ds=szDs pr2+szDs rest2:=by rw[← q1,szDs_app]
   have hpl2:pr2.length≤ds.length:=by rw[← q1];simp
   have cm:=cleanT6s mn;by_cases hend2:rest2=[]∨300<pr2.length
   ·have hq2:(decide ((pr2.length:Int)<((encDcs ds).length:Int))=true∧decide ((pr2.length:Int)≤300)=false)∨decide ((pr2.length:Int)<((encDcs ds).length:Int))=false:=by
     rw[hlen];rcases Nat.lt_or_ge pr2.length ds.length with h|h
     ·rcases hend2 with e|e
      ·subst e;rw[List.append_nil] at q1;rw[q1] at h;omega
      ·exact .inl ⟨decide_eq_true (by omega),decide_eq_false (by omega)⟩
     ·exact .inr (decide_eq_false (by omega))
    have c1:=many_all _ mn rL (by omega) 300 60
    have hmf:=manF_few mn 300 60 (by omega) (by omega) (by omega)
    have ew:wr (r+manF mn 300 60)=r+manF mn 300 60:=wr_in (by omega)
    by_cases h300:ds.length≤300
    ·have g5:decide (((encDcs ds).length:Int)≤300)=true:=decide_eq_true (by rw[hlen];omega)
     have hr2:rest2=[]:=by
      rcases hend2 with e|e
      ·exact e
      ·omega
     have hfin:FewQ ⟨ds,mn⟩ (.bool (decide (wr (r+manF mn 300 60)≤300))):=⟨_,rfl,fun h=>by
      have h:=of_decide_eq_true h;rw[ew] at h;have h0:=hmf.1;have h1:=q5 (by omega)
      have h2:=hmf.2.2 (by omega)
      refine ⟨h300,hx h300,?_⟩;subst hr2;show szDs ds+szTs mn≤300
      rw[hsp];simp only[szDs,List.map_nil,List.sum_nil] at *;omega⟩
     rcases hq2 with ⟨g3,g4⟩|g3
     all_goals (repeat' ((conv=>whnf);first|refine goD ?_|refine U.SoundAt.u (c1) clN ?_|refine U.SoundC.u (c1) clN ?_|refine U.lw_c ?_ ?_<;>intro hb))
     all_goals (conv=>whnf)
     all_goals exact ⟨_,hfin,.clean _ (.flat _ rfl)⟩
    ·have g5:decide (((encDcs ds).length:Int)≤300)=false:=decide_eq_false (by rw[hlen];omega)
     rcases hq2 with ⟨g3,g4⟩|g3
     all_goals (repeat' ((conv=>whnf);first|refine goD ?_|refine U.lw_c ?_ ?_<;>intro hb))
     all_goals (conv=>whnf)
     all_goals exact ⟨.bool false,⟨false,rfl,fun h=>by cases h⟩,.clean _ (.flat _ rfl)⟩
   ·have hpre:pr2.length≤300:=by omega
    rcases rest2 with _|⟨e,rest2⟩
    ·exact absurd (.inl rfl) hend2
    ·have hl2:(pr2++e::rest2).length≤maxI:=by rw[q1];unfold maxI;omega
     obtain ⟨h4b,h4c,h4n,h4w⟩:=U.at4 encDcs_map pr2 (e) rest2 (hl2);rw[q1] at h4b h4c h4n;have g3:decide ((pr2.length:Int)≤300)=true:=decide_eq_true (by omega)
     have hse:=szDs_mem (l:=ds) (d:=e) (by rw[← q1];simp)
     have c1:=many_all _ e.body rL (by omega) 300 60
     have hmf:=manF_few e.body 300 60 (by omega) (by omega) (by omega)
     have e1:wr (r+1)=r+1:=wr_in (by omega)
     have e2:wr (wr (r+1)+manF e.body 300 60)=r+1+manF e.body 300 60:=by rw[e1];exact wr_in (by omega)
     have hsn:szDs (pr2++[e])=szDs pr2+(1+szTs e.body):=by rw[szDs_app];simp[szDs]
     obtain ⟨k1,nm1,lo1,hi1,sz1,ps1,bd1,ln1,cl1⟩:=e;have cb:=cleanT6s bd1;(repeat' ((conv=>whnf);first|refine goD ?_|refine U.SoundAt.u (c1) clN ?_|refine U.SoundC.u (c1) clN ?_|refine U.lw_c ?_ ?_<;>intro hb))
     (conv=>whnf);refine ⟨(pr2++[⟨k1,nm1,lo1,hi1,sz1,ps1,bd1,ln1,cl1⟩],rest2,wr (wr (r+1)+manF bd1 300 60)),⟨by rw[← q1];simp,by simp;omega,?_,?_,?_⟩,by simp,?_⟩
     ·dsimp only at e2 hmf ⊢;have h0:=hmf.1;rw[e2];omega
     ·dsimp only at e2 hsn hmf ⊢;rw[e2,hsn];omega
     ·dsimp only at e2 hsn hmf ⊢;rw[e2,hsn];intro h;have h0:=hmf.1;have h1:=q5 (by omega)
      have h2:=hmf.2.2 (by omega)
      omega
     ·exact (Cov.renI rfl rfl rfl rfl (.W rfl (cleanPr_cells ⟨ds,mn⟩) rfl .nil) (.cons rfl .I (.cons rfl (.P rfl) (.K rfl rfl rfl (.cons rfl .I (.L rfl (cleanI _) (congrArg (Value.int .i64) (h4w.symm)) .nil))))))
 ·have hpre:pre.length≤300:=by omega
  rcases rest with _|⟨e,rest⟩
  ·exact absurd (.inl rfl) hend
  ·have hl2:(pre++e::rest).length≤maxI:=by rw[p1];unfold maxI;omega
   obtain ⟨h4b,h4c,h4n,h4w⟩:=U.at4 encDcs_map pre (e) rest (hl2);rw[p1] at h4b h4c h4n;have g2:decide ((pre.length:Int)≤300)=true:=decide_eq_true (by omega)
   have hsl:(sL e.ps).length=e.ps.length:=sL_len _;by_cases h40:e.ps.length≤40
   ·have g3:decide (((sL e.ps).length:Int) > 40)=false:=decide_eq_false (by rw[hsl];omega)
    obtain ⟨k1,nm1,lo1,hi1,sz1,ps1,bd1,ln1,cl1⟩:=e;(repeat' ((conv=>whnf);first|refine goD ?_|refine U.lw_c ?_ ?_<;>intro hb))
    (conv=>whnf);refine ⟨(pre++[⟨k1,nm1,lo1,hi1,sz1,ps1,bd1,ln1,cl1⟩],rest),⟨by rw[← p1];simp,by simp;omega,fun d hd=>?_⟩,by simp,?_⟩
    ·rcases List.mem_append.1 hd with hd|hd
     ·exact p3 d hd
     ·have:d=⟨k1,nm1,lo1,hi1,sz1,ps1,bd1,ln1,cl1⟩:=by simpa using hd
      subst this;exact h40
    ·exact (Cov.renI rfl rfl rfl rfl (.W rfl (cleanPr_cells ⟨ds,mn⟩) rfl .nil) (.cons rfl .I (.cons rfl (.P rfl) (.K rfl rfl rfl (.L rfl (cleanI _) (congrArg (Value.int .i64) (h4w.symm)) .nil)))))
   ·have g3:decide (((sL e.ps).length:Int) > 40)=true:=decide_eq_true (by rw[hsl];omega)
    obtain ⟨k1,nm1,lo1,hi1,sz1,ps1,bd1,ln1,cl1⟩:=e;(repeat' ((conv=>whnf);first|refine goD ?_|refine U.lw_c ?_ ?_<;>intro hb))
    (conv=>whnf);exact ⟨.bool false,⟨false,rfl,fun h=>by cases h⟩,.clean _ (.flat _ rfl)⟩
end Go.Proofs.YtcihknonfcldeaaDoor
