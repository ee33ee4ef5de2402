
import Derived.Test.YtnfppdblcmollaaGreatDoorTS22
import Derived.Test.YtnfppdblcmollaaGreatDoorTS25
namespace Go.Proofs.YtnfppdblcmollaaGreatDoor
open Go Go.RowKit Go.Sort U
set_option linter.unusedVariables false
set_option linter.unusedSimpArgs false
set_option maxRecDepth 100000
set_option maxHeartbeats 40000000
theorem retI_flat {i:Nat}{s:AS}{u:Value}(h:flatV u=true):U.RetI i s u u [] :=
 ⟨fun k=>k,fun k hk=>(by simp at hk),.clean _ _ (.flat _ h) rfl,fun k b hk=>(by simp at hk),fun k k' b b' hk=>(by simp at hk)⟩
theorem readI {f:FuncId}{args a:List Value}{Hi:List U.Blk}{u:Value}{s:AS}{k:Value->AS->Prop}(hD:U.DenI Tryz.prog f args Hi u []) (hu:flatV u=true) (τ:Nat->Nat) (ha:U.RenL Hi.length ⟨τ,fun _ _=>False⟩ args a) (hi:∀(k:Nat) (b:U.Blk),Hi[k]?=some b->∃b',s.heap.get (τ k)=some b'∧U.RenB Hi.length ⟨τ,fun _ _=>False⟩ b b')
  (hg:s.glb≤s.next) (hk:k u s):U.SoundC Tryz.prog f a s k :=
 U.SoundC.tellI (σ:=fun k=>k) hD τ ha hi hg (fun _=>.refl _) (fun hd=>⟨rfl,rfl,Nat.le_refl _,fun _ _=>rfl,fun k _=>(Nat.zero_add k).symm,fun k h1 h2=>absurd h2 (Nat.not_lt.2 h1),fun k b h1 h2=>(by rw[hd k h1] at h2;cases h2),fun k k' h1 h2 h3=>absurd (hd k h1) h3,.clean _ _ (.flat _ hu) rfl⟩) hk
abbrev boxSt (s:SZ):Option U.Blk:=some (.cells 69 [stV s] false)
theorem boxSt_cl (s:SZ):∀x∈[stV s],NoNm x:=fun x hx=>by rw[List.mem_singleton] at hx;subst hx;exact cleanStV s
theorem mkO1 {x:U.Blk}(k:Nat) (b:U.Blk) (hk:(mkO [(0,some x)]).get k=some b):[x][k]?=some b:=by
 rcases mkO_get hk with _|⟨_,h⟩
 ·rfl
 ·cases h
abbrev cloE (j:Nat):Value:=.func (.func 104) ⟨[]⟩ ⟨[.pointer (some ⟨j,0,none⟩)]⟩
theorem cloE_ren {n:Nat}{ρ:U.Ren}{j:Nat}(hj:j<n) (e:ρ.f j=j):U.RenV n ρ (cloE j) (cloE j):=RenV.fnL .nil (.cons (.ptr _ _ _ hj e) .nil)
def markB (s:SZ) (b:Bool) (a:Int):Bool:=if b=true then (arrC s a).k else (slotC s a).k
theorem such_d (s:SZ) (b:Bool) (a:Int):U.DenI Tryz.prog 104 [.bool b,.int .i64 a,.pointer (some ⟨0,0,none⟩)] [.cells 69 [stV s] false] (.bool (markB s b a)) []:=by
 refine denI_of_sound 1 rfl (h:=mkO [(0,boxSt s)]) mkO1 (SoundAt.body hmixU Tryz.func104 rfl rfl rfl 0 ?_);have k1:=cleanStV s;have c1:=getS s a;have c2:=loadS s a;cases b with
 |true =>
  rw[show markB s true a=(arrC s a).k from rfl];generalize arrC s a=c at *
  obtain ⟨⟨lo,hi,m,r⟩,k⟩:=c;(repeat' ((conv=>whnf);first|refine goD ?_|refine U.SoundAt.u (c2) clM ?_|refine U.SoundC.u (c2) clM ?_|refine U.lw_c ?_ ?_<;>intro hb))
  (conv=>whnf);exact retI_flat (by rfl)
 |false =>
  rw[show markB s false a=(slotC s a).k from rfl];generalize slotC s a=c at *
  obtain ⟨⟨lo,hi,m,r⟩,k⟩:=c;(repeat' ((conv=>whnf);first|refine goD ?_|refine U.SoundAt.u (c1) clM ?_|refine U.SoundC.u (c1) clM ?_|refine U.lw_c ?_ ?_<;>intro hb))
  (conv=>whnf);exact retI_flat (by rfl)
theorem hi1 {s:SZ}{j:Nat}{st:AS}(h:st.heap.get j=boxSt s):∀(k:Nat) (b:U.Blk),[U.Blk.cells 69 [stV s] false][k]?=some b->∃b',st.heap.get j=some b'∧U.RenB 1 ⟨fun _=>j,fun _ _=>False⟩ b b':=fun k b hk=>by
 rcases k with _|k
 ·cases hk;exact ⟨_,h,.row _ _ _ _ (boxSt_cl s) rfl⟩
 ·simp at hk
theorem suchC {s:SZ}{b:Bool}{a:Int}{r:Bool}(hm:markB s b a=r) {j:Nat}{st:AS}{K:Value->AS->Prop}(hg:st.glb≤st.next) (h:st.heap.get j=boxSt s) (hk:K (.bool r) st):U.SoundC Tryz.prog 104 [.bool b,.int .i64 a,.pointer (some ⟨j,0,none⟩)] st K:=by
 subst hm;exact readI (such_d s b a) rfl (fun _=>j) (.K rfl rfl (.cons .I (.cons (.ptr _ _ _ (by show 0<1;decide) rfl) .nil))) (hi1 h) hg hk
theorem readsC {s:SZ}{e:Ex}{r:Bool}(hD:U.DenI Tryz.prog 103 [encE e,cloE 0] [.cells 69 [stV s] false] (.bool r) []) {j:Nat}{st:AS}{K:Value->AS->Prop}(hg:st.glb≤st.next) (h:st.heap.get j=boxSt s) (hk:K (.bool r) st):U.SoundC Tryz.prog 103 [encE e,cloE j] st K :=
 readI hD rfl (fun _=>j) (.L (cleanE e) rfl (.cons (RenV.fnL .nil (.cons (.ptr _ _ _ (by show 0<1;decide) rfl) .nil)) .nil)) (hi1 h) hg hk
theorem reads_step (s:SZ) (k n a o:Int) (l:List Ex) (hl:l.length≤1000) (ih:∀e∈l,U.DenI Tryz.prog 103 [encE e,cloE 0] [.cells 69 [stV s] false] (.bool (exM s e)) []) :
  U.DenI Tryz.prog 103 [encE (.mk k n a o l),cloE 0] [.cells 69 [stV s] false] (.bool (exM s (.mk k n a o l))) []:=by
 refine denI_of_sound 1 rfl (h:=mkO [(0,boxSt s)]) mkO1 (SoundAt.body hmixU Tryz.func103 rfl rfl rfl 0 ?_);have k1:=cleanStV s;have hq:(markB s false a=true∧k=1∧exM s (.mk k n a o l)=true)∨(markB s true a=true∧k=2∧exM s (.mk k n a o l)=true)∨(markB s false a=false∧k=1∧exM s (.mk k n a o l)=exMs s l)∨(markB s true a=false∧k=2∧exM s (.mk k n a o l)=exMs s l)∨(k≠1∧k≠2∧exM s (.mk k n a o l)=exMs s l):=by
  have h1:markB s false a=(slotC s a).k:=rfl;have h2:markB s true a=(arrC s a).k:=rfl;rw[h1,h2,exM];by_cases b1:k=1
  ·subst b1;cases (slotC s a).k<;>simp
  ·by_cases b2:k=2
   ·subst b2;cases (arrC s a).k<;>simp
   ·simp[b1,b2]
 rcases hq with ⟨hm,hk,hr⟩|⟨hm,hk,hr⟩|hq
 ·have g1:(k==1)=true:=by simpa using hk
  rw[hr];(repeat' ((conv=>whnf);first|refine goA ?_|refine U.SoundAt.c (suchC hm zL rfl ?_)|refine goB ?_|refine U.lw_c ?_ ?_<;>intro hb))
  (conv=>whnf);exact retI_flat (by rfl)
 ·have g1:(k==1)=false:=by rw[hk];rfl
  have g2:(k==2)=true:=by simpa using hk
  rw[hr];(repeat' ((conv=>whnf);first|refine goA ?_|refine U.SoundAt.c (suchC hm zL rfl ?_)|refine goB ?_|refine U.lw_c ?_ ?_<;>intro hb))
  (conv=>whnf);exact retI_flat (by rfl)
 rcases hq with ⟨hm,hk,hr⟩|⟨hm,hk,hr⟩|⟨hm,hk,hr⟩
 focus
  have g1:(k==1)=true:=by simpa using hk
  rw[hr];(repeat' ((conv=>whnf);first|refine goA ?_|refine U.SoundAt.c (suchC hm zL rfl ?_)|refine goB ?_|refine U.lw_c ?_ ?_<;>intro hb))
  (conv=>whnf)
 rotate_left 1
 focus
  have g1:(k==1)=false:=by rw[hk];rfl
  have g2:(k==2)=true:=by simpa using hk
  rw[hr];(repeat' ((conv=>whnf);first|refine goA ?_|refine U.SoundAt.c (suchC hm zL rfl ?_)|refine goB ?_|refine U.lw_c ?_ ?_<;>intro hb))
  (conv=>whnf)
 rotate_left 1
 focus
  have g1:(k==1)=false:=by simpa using hm
  have g2:(k==2)=false:=by simpa using hk
  rw[hr];(repeat' ((conv=>whnf);first|refine goD ?_|refine U.lw_c ?_ ?_<;>intro hb))
  (conv=>whnf)
 rotate_left 1
 all_goals
  clear hm hk hr;refine loop_inv (α:=List Ex×List Ex) (fun x=>x.1++x.2=l∧exMs s x.2=exMs s l) (fun x=>(mkF [(1,cloE 0),(2,.pointer (some ⟨1,0,none⟩)),(22,imS (encEs l)),(23,.int .i64 (encEs l).length),(24,.int .i64 x.1.length)],⟨mkO [(0,boxSt s),(1,some (.cells 32 [.int .i64 k,.int .i64 n,.int .i64 a,.int .i64 o,imS (encEs l)] false))],2,1,0⟩)) (fun x=>x.2.length) ([],l) ⟨rfl,rfl⟩ (Cov.renO (fun k=>k) rfl rfl (bR rfl) zL (fun _ _=>rfl) rfl (kp1 (by rfl)) (.W rfl (boxSt_cl s) rfl (.C rfl (.cons .I (.cons .I (.cons .I (.cons .I (.L (cleanEs _) rfl .nil))))) .nil)) (.cons rfl (cloE_ren (by decide) rfl) (.cons rfl (.P rfl) (.L rfl (cleanEs _) rfl (.cons rfl .I (.cons rfl .I .nil)))))) ?_
  rintro ⟨pre,rest⟩ ⟨p1,p2⟩
  dsimp only at p1 p2;subst p1;rw[← p2];dsimp only;rcases rest with _|⟨e,rest⟩
  ·rw[List.append_nil] at *;have zb:=U.lt_no encEs_map pre;(repeat' ((conv=>whnf);first|refine goD ?_|refine U.lw_c ?_ ?_<;>intro hb))
   (conv=>whnf);exact retI_flat (by rfl)
  ·have zb:=U.lt_yes encEs_map pre (e) rest;have zc:=U.blt_yes encEs_map pre (e) rest;have zn:=U.nth_at encEs_map pre (e) rest;have zw:=U.len_snoc (pre:=pre) (x:=e) (post:=rest) ((Nat.le_trans hl (by decide)))
   have c:=ih e (by simp)
   have ke:=cleanE e;have e9:exMs s (e::rest)=(exM s e || exMs s rest):=rfl
   clear ih;obtain ⟨b,hb⟩:∃b,b=exM s e:=⟨_,rfl⟩
   rw[← hb] at c e9;obtain ⟨k1,n1,a1,o1,l1⟩:=e;cases b with
   |true =>
    rw[e9,Bool.true_or];(repeat' ((conv=>whnf);first|refine goA ?_|refine U.SoundAt.c (readsC c zL rfl ?_)|refine goB ?_|refine U.lw_c ?_ ?_<;>intro hb))
    (conv=>whnf);exact retI_flat (by rfl)
   |false =>
    rw[Bool.false_or] at e9;(repeat' ((conv=>whnf);first|refine goA ?_|refine U.SoundAt.c (readsC c zL rfl ?_)|refine goB ?_|refine U.lw_c ?_ ?_<;>intro hb))
    (conv=>whnf);exact ⟨(pre++[.mk k1 n1 a1 o1 l1],rest),⟨by simp,e9.symm⟩,by simp,(Cov.renO (fun k=>k) rfl rfl (bR rfl) zL (fun _ _=>rfl) rfl (kp1 (by rfl)) (.W rfl (boxSt_cl s) rfl (.C rfl (.cons .I (.cons .I (.cons .I (.cons .I (.L (cleanEs _) rfl .nil))))) .nil)) (.cons rfl (cloE_ren (by decide) rfl) (.cons rfl (.P rfl) (.L rfl (cleanEs _) rfl (.cons rfl .I (.L rfl (cleanI _) (congrArg (Value.int .i64) (zw.symm)) .nil))))))⟩
theorem reads_all (s:SZ):∀(n:Nat) (e:Ex),szE e≤n->n≤1000->U.DenI Tryz.prog 103 [encE e,cloE 0] [.cells 69 [stV s] false] (.bool (exM s e)) []
 |0,e,h,_=>by have:=szE_pos e;omega
 |n+1,.mk k m a o l,h,hn=>by
  rw[szE] at h;have:=szEs_len l;exact reads_step s k m a o l (by omega) fun e he=>reads_all s n e (by have:=szEs_mem he;omega) (by omega)
theorem exprS (s:SZ) (hn:s.none=false) (e:Ex) (he:szE e≤1000):DenU Tryz.prog [] 37 [stV s,encE e] (.bool (exM s e)):=by
 refine denU_of_sound hmixU fun Ts=>SoundAt.body hmixU Tryz.func37 rfl rfl rfl 0 ?_
 have c1:=isbotS s;rw[hn] at c1;have k1:=cleanStV s;have c:=reads_all s 1000 e he rL;obtain ⟨b,hb⟩:∃b,b=exM s e:=⟨_,rfl⟩
 rw[← hb] at c ⊢;obtain ⟨k1,n1,a1,o1,l1⟩:=e;(repeat' ((conv=>whnf);first|refine goA ?_|refine U.SoundAt.c (readsC c zL rfl ?_)|refine goB ?_|refine U.SoundAt.u (c1) clM ?_|refine U.SoundC.u (c1) clM ?_|refine U.lw_c ?_ ?_<;>intro hb))
 (conv=>whnf);exact .same (.flat _ rfl) rfl
theorem exprB (s:SZ) (hn:s.none=true) (e:Ex):DenU Tryz.prog [] 37 [stV s,encE e] (.bool false):=by
 refine denU_of_body hmixU rfl Tryz.func37 rfl rfl rfl 0 ?_;intro Ts;have c1:=isbotS s;rw[hn] at c1;have k1:=cleanStV s;obtain ⟨k1,n1,a1,o1,l1⟩:=e;(repeat' ((conv=>whnf);first|refine goD ?_|refine ⟨_,c1,clM,tab0 _,?_⟩|refine U.lw_c ?_ ?_<;>intro hb))
 (conv=>whnf);exact .same (.flat _ rfl) rfl
theorem exprN (e:Ex):DenU Tryz.prog [] 37 [.pointer none,encE e] (.bool false):=by
 refine denU_of_body hmixU rfl Tryz.func37 rfl rfl rfl 0 ?_;intro Ts;have c1:=isbotN;obtain ⟨k1,n1,a1,o1,l1⟩:=e;(repeat' ((conv=>whnf);first|refine goD ?_|refine ⟨_,c1,clM,tab0 _,?_⟩|refine U.lw_c ?_ ?_<;>intro hb))
 (conv=>whnf);exact .same (.flat _ rfl) rfl
def setZ (x y:List Int):Value:=.agg ⟨[imS (iL x),imS (iL y)]⟩
theorem cleanSZ_cells (x y:List Int):∀c∈cellsOf (setZ x y),NoNm c:=fun c hc=>by
 simp only[setZ,cellsOf,List.mem_cons,List.not_mem_nil,or_false] at hc;rcases hc with rfl|rfl<;>exact cleanIL _
theorem cleanSZ (x y:List Int):NoNm (setZ x y):=.agg _ (cleanSZ_cells x y)
theorem any_p (pv:Value) (hpv:NoNm pv) (f g:Int->CZ) (hf:∀i,DenU Tryz.prog [] 66 [pv,.int .i64 i] (encC (f i))) (hg:∀i,DenU Tryz.prog [] 69 [pv,.int .i64 i] (encC (g i))) (x y:List Int) (hx:x.length≤maxI) (hy:y.length≤maxI) :
  DenU Tryz.prog [] 39 [pv,setZ x y] (.bool ((x.any fun i=>(f i).k) || y.any fun i=>(g i).k)):=by
 refine denU_of_body hmixU rfl Tryz.func39 rfl rfl rfl 0 ?_;intro Ts;(repeat' ((conv=>whnf);first|refine goD ?_|refine U.lw_c ?_ ?_<;>intro hb))
 (conv=>whnf);refine loop_inv (α:=List Int×List Int) (fun q=>q.1++q.2=x∧(q.2.any fun i=>(f i).k)=x.any fun i=>(f i).k) (fun q=>(mkF [(0,pv),(3,.pointer (some ⟨0,0,none⟩)),(10,imS (iL x)),(11,.int .i64 (iL x).length),(12,.int .i64 q.1.length)],⟨mkO [(0,some (.cells 40 [imS (iL x),imS (iL y)] false))],1,0,0⟩)) (fun q=>q.2.length) ([],x) ⟨rfl,rfl⟩ (Cov.renI rfl rfl rfl rfl (.W rfl (cleanSZ_cells x y) rfl .nil) (.L rfl (hpv) rfl (.cons rfl (.P rfl) (.L rfl (cleanIL _) rfl (.cons rfl .I (.cons rfl .I .nil)))))) ?_
 rintro ⟨pre,rest⟩ ⟨p1,p2⟩
 dsimp only at p1 p2;subst p1;rw[← p2];dsimp only;rcases rest with _|⟨i,rest⟩
 ·rw[List.append_nil] at *;have zb:=U.lt_no iL_map pre;rw[List.any_nil,Bool.false_or];(repeat' ((conv=>whnf);first|refine goD ?_|refine U.lw_c ?_ ?_<;>intro hb))
  (conv=>whnf);refine loop_inv (α:=List Int×List Int) (fun q=>q.1++q.2=y∧(q.2.any fun i=>(g i).k)=y.any fun i=>(g i).k) (fun q=>(mkF [(0,pv),(3,.pointer (some ⟨0,0,none⟩)),(22,imS (iL y)),(23,.int .i64 (iL y).length),(24,.int .i64 q.1.length)],⟨mkO [(0,some (.cells 40 [imS (iL pre),imS (iL y)] false))],1,0,0⟩)) (fun q=>q.2.length) ([],y) ⟨rfl,rfl⟩ (Cov.renI rfl rfl rfl rfl (.W rfl (cleanSZ_cells pre y) rfl .nil) (.L rfl (hpv) rfl (.cons rfl (.P rfl) (.L rfl (cleanIL _) rfl (.cons rfl .I (.cons rfl .I .nil)))))) ?_
  rintro ⟨pre2,rest2⟩ ⟨p3,p4⟩
  dsimp only at p3 p4;subst p3;rw[← p4];dsimp only;rcases rest2 with _|⟨i,rest2⟩
  ·rw[List.append_nil] at *;have yb:=U.lt_no iL_map pre2;(repeat' ((conv=>whnf);first|refine goD ?_|refine U.lw_c ?_ ?_<;>intro hb))
   (conv=>whnf);exact .same (.flat _ rfl) rfl
  ·have yb:=U.lt_yes iL_map pre2 (i) rest2;have yc:=U.blt_yes iL_map pre2 (i) rest2;have yn:=U.nth_at iL_map pre2 (i) rest2;have yw:=U.len_snoc (pre:=pre2) (x:=i) (post:=rest2) (hy);have c:=hg i;have e9:((i::rest2).any fun i=>(g i).k)=((g i).k || rest2.any fun i=>(g i).k):=rfl
   generalize g i=cc at c e9
   obtain ⟨⟨lo,hi,m,r⟩,b⟩:=cc;cases b with
   |true =>
    rw[e9,Bool.true_or];(repeat' ((conv=>whnf);first|refine goD ?_|refine ⟨_,c,clM,tab0 _,?_⟩|refine U.lw_c ?_ ?_<;>intro hb))
    (conv=>whnf);exact .same (.flat _ rfl) rfl
   |false =>
    rw[Bool.false_or] at e9;(repeat' ((conv=>whnf);first|refine goD ?_|refine ⟨_,c,clM,tab0 _,?_⟩|refine U.lw_c ?_ ?_<;>intro hb))
    (conv=>whnf);exact ⟨(pre2++[i],rest2),⟨by simp,e9.symm⟩,by simp,(Cov.renI rfl rfl rfl rfl (.W rfl (cleanSZ_cells pre _) rfl .nil) (.L rfl (hpv) rfl (.cons rfl (.P rfl) (.L rfl (cleanIL _) rfl (.cons rfl .I (.L rfl (cleanI _) (congrArg (Value.int .i64) (yw.symm)) .nil))))))⟩
 ·have zb:=U.lt_yes iL_map pre (i) rest;have zc:=U.blt_yes iL_map pre (i) rest;have zn:=U.nth_at iL_map pre (i) rest;have zw:=U.len_snoc (pre:=pre) (x:=i) (post:=rest) (hx);have c:=hf i;have e9:((i::rest).any fun i=>(f i).k)=((f i).k || rest.any fun i=>(f i).k):=rfl
  generalize f i=cc at c e9
  obtain ⟨⟨lo,hi,m,r⟩,b⟩:=cc;cases b with
  |true =>
   rw[e9,Bool.true_or,Bool.true_or];(repeat' ((conv=>whnf);first|refine goD ?_|refine ⟨_,c,clM,tab0 _,?_⟩|refine U.lw_c ?_ ?_<;>intro hb))
   (conv=>whnf);exact .same (.flat _ rfl) rfl
  |false =>
   rw[Bool.false_or] at e9;(repeat' ((conv=>whnf);first|refine goD ?_|refine ⟨_,c,clM,tab0 _,?_⟩|refine U.lw_c ?_ ?_<;>intro hb))
   (conv=>whnf);exact ⟨(pre++[i],rest),⟨by simp,e9.symm⟩,by simp,(Cov.renI rfl rfl rfl rfl (.W rfl (cleanSZ_cells _ y) rfl .nil) (.L rfl (hpv) rfl (.cons rfl (.P rfl) (.L rfl (cleanIL _) rfl (.cons rfl .I (.L rfl (cleanI _) (congrArg (Value.int .i64) (zw.symm)) .nil))))))⟩
end Go.Proofs.YtnfppdblcmollaaGreatDoor
namespace Go.Proofs.YtnfppdblcmollaaGreatDoor.U
open Go Go.RowKit Go.Sort
set_option linter.unusedVariables false
set_option linter.unusedSimpArgs false
set_option maxRecDepth 100000
set_option maxHeartbeats 40000000
structure DenN (P:Program) (f:FuncId) (args:List Value) (u:Value):Prop where
 out:∀(z:Nat->Nat->Option Value) (W:World) (vs:List Value),(∀r o v,z r o=some v->W.cell? ⟨r,o,none⟩=some v)->VRs ⟨fun _=>none,z⟩ args vs ->
  Calls P f ⟨vs⟩ W fun e w'=>∃v z',e=.returned v∧(Below W.heap.size W w'∧W.drawn≤w'.drawn)∧(∀r o x,z' r o=some x->w'.cell? ⟨r,o,none⟩=some x∧W.heap.size≤r)∧VR ⟨fun _=>none,z'⟩ u v
inductive FrzN (P:Program) (s:AS):Value->Value->Prop where
 |flat (u:Value) (h:flatV u=true):FrzN P s u u
 |nil:FrzN P s (.slice none 0 0) (imS [])
 |agg (l m:List Value) (hl:l.length=m.length) (h:∀(i:Nat) (u v:Value),l[i]?=some u->m[i]?=some v->FrzN P s u v):FrzN P s (.agg ⟨l⟩) (.agg ⟨m⟩)
 |tup (l m:List Value) (hl:l.length=m.length) (h:∀(i:Nat) (u v:Value),l[i]?=some u->m[i]?=some v->FrzN P s u v):FrzN P s (.tuple ⟨l⟩) (.tuple ⟨m⟩)
 |row (k n c z:Nat) (T:TypeId) (xs ys:List Value) (op:Bool) (hlo:s.lo≤k) (hk:s.heap.get k=some (.cells T xs op)) (hz:∀y,y∈ys->(cellsOf y).length=z) (hn:n=ys.length) (hc:n≤c) (hl:(cellsAll ys).length≤xs.length) (h:∀(i:Nat) (u v:Value),xs[i]?=some u->(cellsAll ys)[i]?=some v->FrzN P s u v) :
   FrzN P s (.slice (some ⟨k,0,none⟩) n c) (imS ys)
theorem FrzN.rel {P:Program}{s:AS}{W0 W:World}{β:Bt}{z':Nat->Nat->Option Value}(hR:Rel P W0 β s W) (h2:∀r o x,W0.heap.size≤r->W.cell? ⟨r,o,none⟩=some x->z' r o=some x) {u y:Value}(h:FrzN P s u y):∀{v:Value},VR β u v->VR ⟨fun _=>none,z'⟩ y v:=by
 induction h with
 |flat u h=>intro v hv;rw[hv.flat_eq h];exact .of_flat _ h
 |nil=>intro v hv;rw[hv.flat1_eq rfl];exact .imn
 |agg l m hl _ ih =>
  intro v hv;obtain ⟨l',e1,rfl⟩:=hv.agg_inv;refine .agg m l' (hl.symm.trans e1.1) fun i u v hu hv=>?_
  have hi:i<l.length:=by rw[hl];exact (List.getElem?_eq_some_iff.1 hu).1
  exact ih i l[i] u (List.getElem?_eq_getElem hi) hu (e1.2 i _ v (List.getElem?_eq_getElem hi) hv)
 |tup l m hl _ ih =>
  intro v hv;obtain ⟨l',e1,rfl⟩:=hv.tup_inv;refine .tup m l' (hl.symm.trans e1.1) fun i u v hu hv=>?_
  have hi:i<l.length:=by rw[hl];exact (List.getElem?_eq_some_iff.1 hu).1
  exact ih i l[i] u (List.getElem?_eq_getElem hi) hu (e1.2 i _ v (List.getElem?_eq_getElem hi) hv)
 |row k n c z T xs ys op hlo hk hz hn hc hl _ ih =>
  intro v hv;obtain ⟨r,sp,e1,rfl⟩:=hv.sl_inv;obtain ⟨cs,fz,g1,_,_,g4,g5,g6,g7,g8⟩:=(hR.blk k _ r sp hk e1).real;subst hn;have hge:=hR.ge k r sp (by rw[hk];simp) e1 hlo
  have hlen:((cs.toList.take xs.length).take (cellsAll ys).length).length=(cellsAll ys).length:=by
   have:=g5.1;rw[List.length_take,← this];omega
  have hat:∀(i:Nat) (w:Value),((cs.toList.take xs.length).take (cellsAll ys).length)[i]?=some w->(cs.toList.take xs.length)[i]?=some w:=fun i w hw=>by
   have hil:=(List.getElem?_eq_some_iff.1 hw).1;rwa [List.getElem?_take_of_lt (by rw[List.length_take] at hil;omega)] at hw
  refine .ims ys ((cs.toList.take xs.length).take (cellsAll ys).length) z r 0 (c+sp) hz (by omega) hlen (fun i w hw=>?_) (fun i y w hy hw=>?_) fun w hw=>g7 w (List.mem_of_mem_take hw)
  ·rw[Nat.zero_add];exact h2 r i w hge (g8 i w (hat i w hw))
  ·have hw':=hat i w hw;have hi:i<xs.length:=by
    have:=(List.getElem?_eq_some_iff.1 hw').1;rw[g5.1];exact this
   exact ih i xs[i] y (List.getElem?_eq_getElem hi) hy (g5.2 i _ w (List.getElem?_eq_getElem hi) hw')
theorem TellR.rowO {s:AS}{T:TypeId}{ys:List Value}(hy:∀x,x∈cellsAll ys->NoNm x) (hd:∀k,s.next≤k->s.heap.get k=none):TellR s (layB s (rowO T ys)) (rowS 0 ys) (rowS s.next ys) [rowO T ys] (sigA s.next 1) :=
 .one hd (.ofRow (Nat.lt_succ_self _) (by simp[sigA]) rfl) fun x hx=>⟨x,hx,by
  cases ys with
  |nil=>cases hx
  |cons y l=>cases hx;exact .row _ _ _ _ hy rfl⟩
theorem SoundC.rowI {P:Program}{f:FuncId}{args a:List Value}{Hi:List Blk}{T:TypeId}{ys:List Value}{s:AS}{k:Value->AS->Prop}(hD:DenI P f args Hi (rowS 0 ys) [rowO T ys]) (τ:Nat->Nat) (ha:RenL Hi.length ⟨τ,fun _ _=>False⟩ args a) (hi:∀k b,Hi[k]?=some b->∃b',s.heap.get (τ k)=some b'∧RenB Hi.length ⟨τ,fun _ _=>False⟩ b b') (hg:s.glb≤s.next) (hy:∀x,x∈cellsAll ys->NoNm x) (hk:rowK s (rowO T ys) ys k):SoundC P f a s k :=
 .tellI hD τ ha hi hg (layB_stp _) (TellR.rowO hy) (rowK_eq hk)
end Go.Proofs.YtnfppdblcmollaaGreatDoor.U
