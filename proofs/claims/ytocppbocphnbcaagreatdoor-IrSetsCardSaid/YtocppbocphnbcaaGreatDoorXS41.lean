
import Derived.Test.YtocppbocphnbcaaGreatDoorXS25
import Derived.Test.YtocppbocphnbcaaGreatDoorXS27
import Derived.Test.YtocppbocphnbcaaGreatDoorXS35
namespace Go.Proofs.YtocppbocphnbcaaGreatDoor
open Go Go.RowKit Go.Sort U
set_option linter.unusedVariables false
set_option linter.unusedSimpArgs false
set_option maxRecDepth 100000
set_option maxHeartbeats 40000000
theorem addI_at {n:Int}:∀{pre r:List Int},(∀y∈pre,y<n)->addI n (pre++n::r)=pre++n::r
 |[],r,_=>by simp[addI]
 |x::l,r,h=>by
  have h1:=h x (by simp)
  rw[List.cons_append,addI,if_neg (by omega),if_neg (by omega),addI_at fun y hy=>h y (by simp[hy])]
theorem addI_ins {n x:Int}(hx:n<x):∀{pre r:List Int},(∀y∈pre,y<n)->addI n (pre++x::r)=pre++n::x::r
 |[],r,_=>by simp[addI,hx];omega
 |z::l,r,h=>by
  have h1:=h z (by simp)
  rw[List.cons_append,addI,if_neg (by omega),if_neg (by omega),addI_ins hx fun y hy=>h y (by simp[hy])];rfl
theorem addI_end {n:Int}:∀{pre:List Int},(∀y∈pre,y<n)->addI n pre=pre++[n]
 |[],_=>by simp[addI]
 |z::l,h=>by
  have h1:=h z (by simp)
  rw[addI,if_neg (by omega),if_neg (by omega),addI_end fun y hy=>h y (by simp[hy])];rfl
theorem addI_app {n:Int}:∀{pre r:List Int},(∃y∈pre,n<y)->addI n (pre++r)=addI n pre++r
 |[],r,h=>by obtain ⟨y,hy,_⟩:=h;cases hy
 |z::l,r,h=>by
  rw[List.cons_append,addI,addI];split
  ·rfl
  ·split
   ·rfl
   ·rw[addI_app (by
     obtain ⟨y,hy,h1⟩:=h;rcases List.mem_cons.1 hy with rfl|hy
     ·omega
     ·exact ⟨y,hy,h1⟩)]
    rfl
def AddInv (n:Int) (pre:List Int) (d:Bool) (out:List Int):Prop:=(d=false∧out=pre∧∀y∈pre,y<n)∨(d=true∧out=addI n pre∧∃y∈pre,n<y)
theorem add_d (l:List Int) (n:Int) (hr:Ris l) (hl:l.length≤50000):DenU Tryz.prog [] 75 [imS (iL l),.int .i64 n] (imS (iL (addI n l))):=by
 refine denU_of_sound hmixU fun Ts=>SoundAt.body hmixU Tryz.func75 rfl rfl rfl 0 ?_
 have kl:=cleanIL l;(repeat' ((conv=>whnf);first|refine goD ?_|refine U.lw_c ?_ ?_<;>intro hb))
 (conv=>whnf);refine loop_inv (α:=List Int×List Int×Bool×List Int) (fun x=>x.1++x.2.1=l∧AddInv n x.1 x.2.2.1 x.2.2.2) (fun x=>(mkF [(0,imS (iL l)),(1,.int .i64 n),(4,.slice none 0 0),(5,rowS 0 (iL x.2.2.2)),(6,.bool x.2.2.1),(7,.int .i64 x.1.length)],⟨mkO [(0,rowO 3 (iL x.2.2.2))],1,0,0⟩)) (fun x=>x.2.1.length) ([],l,false,[]) ⟨rfl,.inl ⟨rfl,rfl,by simp⟩⟩ (Cov.renI rfl rfl rfl rfl (.none .nil) (.L rfl (cleanIL _) rfl (.cons rfl .I (.K rfl rfl rfl (.K rfl rfl rfl (.K rfl rfl rfl (.K rfl rfl rfl .nil))))))) ?_
 rintro ⟨pre,rest,d,out⟩ ⟨p1,p2⟩
 dsimp only at p1 p2;subst p1;dsimp only;have hal:(addI n pre).length≤pre.length+1:=addI_len;have hol:out.length≤pre.length+1:=by
  rcases p2 with ⟨_,h,_⟩|⟨_,h,_⟩<;>rw[h]<;>omega
 rcases rest with _|⟨x,rest⟩
 ·rw[List.append_nil] at *;have zb:=U.lt_no iL_map pre;rcases p2 with ⟨rfl,rfl,h⟩|⟨rfl,e,h⟩
  ·rw[addI_end h];clear hal;rcases out with _|⟨r0,R⟩
   ·(repeat' ((conv=>whnf);first|refine goD ?_|refine U.lw_c ?_ ?_<;>intro hb))
    (conv=>whnf);exact .rowL (ys:=iL ([]++[n])) zL rfl rfl iL_1 rfl rL (cleanIC _)
   ·have hgr:(cellsAll (Value.int .i64 r0::List.map (Value.int .i64) R)).length=((List.map (Value.int .i64) R).length+1)*1:=by
     rw[show Value.int .i64 r0::List.map (Value.int .i64) R=iL (r0::R) from rfl,cellsI,iL_len,List.length_map];simp
    have hg1:(List.map (Value.int .i64) R).length+1+(0+1)≤100000:=by rw[List.length_map];exact (by have h9:(r0::R).length≤50001:=(by omega);simp only[List.length_cons] at h9;omega)
    (repeat' ((conv=>whnf);first|refine goA ?_|(rw[U.ble_f ((List.map (Value.int .i64) R).length+1)];dsimp only;refine U.growRow_p hgr rfl ?_)|refine U.ob_c (grow_ok (by decide +kernel) hg1) ?_|refine goB ?_|refine U.lw_c ?_ ?_<;>intro hb))
    (conv=>whnf);exact .rowL (ys:=iL ((r0::R)++[n])) zL rfl (by rw[iL_app];symm;exact List.flatMap_append) iL_1 (by simp[iL]) rL (cleanIC _)
  ·rw[← e];clear e hal;rcases out with _|⟨r0,R⟩
   ·(repeat' ((conv=>whnf);first|refine goD ?_|refine U.lw_c ?_ ?_<;>intro hb))
    (conv=>whnf);exact .nil
   ·(repeat' ((conv=>whnf);first|refine goD ?_|refine U.lw_c ?_ ?_<;>intro hb))
    (conv=>whnf);exact .rowL (ys:=iL (r0::R)) zL rfl rfl iL_1 rfl rL (cleanIC _)
 ·have zb:=U.lt_yes iL_map pre (x) rest;have zc:=U.blt_yes iL_map pre (x) rest;have zn:=U.nth_at iL_map pre (x) rest;have zw:=U.len_snoc (pre:=pre) (x:=x) (post:=rest) ((by simp[maxI] at hl ⊢;omega))
  have hpl:pre.length≤50000:=by simp at hl;omega
  by_cases h1:x=n
  ·subst h1;have g1:(x==x)=true:=by simp
   have hd:d=false∧∀y∈pre,y<x:=by
    rcases p2 with ⟨h,_,h2⟩|⟨_,_,y,hy,h2⟩
    ·exact ⟨h,h2⟩
    ·have:=(List.pairwise_append.1 hr).2.2 y hy x (by simp)
     omega
   rw[addI_at hd.2];(repeat' ((conv=>whnf);first|refine goD ?_|refine U.lw_c ?_ ?_<;>intro hb))
   (conv=>whnf);exact .clean _ kl
  ·have g1:(x==n)=false:=by simpa using h1
   by_cases h2:x > n
   ·have g2:decide (x > n)=true:=decide_eq_true h2;rcases p2 with ⟨rfl,rfl,h⟩|⟨rfl,e,h⟩
    ·have hnx:AddInv n (out++[x]) true (out++[n]++[x]):=.inr ⟨rfl,by rw[addI_ins h2 h];simp,x,by simp,h2⟩
     rcases out with _|⟨r0,R⟩
     ·(repeat' ((conv=>whnf);first|refine goD ?_|refine U.lw_c ?_ ?_<;>intro hb))
      (conv=>whnf);exact ⟨([]++[x],rest,true,[]++[n]++[x]),⟨by simp,hnx⟩,by simp,(Cov.renO (fun k=>if k=0 then 4 else k) rfl rfl (bR rfl) zL (fun k hk=>by have:k<0:=hk;rw[if_neg (by omega)]) rfl nlz (blksO.grown rfl rfl (cleanIC _) .nil) (.L rfl (cleanIL _) rfl (.cons rfl .I (.K rfl rfl rfl (.cons rfl (.grown (by decide) rfl (by simp[iL]) (by simp[iL]) (by simp[iL])) (.K rfl rfl rfl (.L rfl (cleanI _) (congrArg (Value.int .i64) (zw.symm)) .nil)))))))⟩
     ·have hgr:(cellsAll (Value.int .i64 r0::List.map (Value.int .i64) R)).length=((List.map (Value.int .i64) R).length+1)*1:=by
       rw[show Value.int .i64 r0::List.map (Value.int .i64) R=iL (r0::R) from rfl,cellsI,iL_len,List.length_map];simp
      have hgs:(cellsAll (Value.int .i64 r0::List.map (Value.int .i64) R)++[Value.int .i64 n]).length=((List.map (Value.int .i64) R).length+1+(0+1))*1:=by
       rw[List.length_append,hgr];simp
      have hg1:(List.map (Value.int .i64) R).length+1+(0+1)≤100000:=by rw[List.length_map];simp at hpl;omega
      have hg2:(List.map (Value.int .i64) R).length+1+(0+1)+(0+1)≤100000:=by rw[List.length_map];simp at hpl;omega
      (repeat' ((conv=>whnf);first|refine goA ?_|(rw[U.ble_f ((List.map (Value.int .i64) R).length+1)];dsimp only;refine U.growRow_p hgr rfl ?_)|refine U.ob_c (grow_ok (by decide +kernel) hg1) ?_|(rw[U.ble_f ((List.map (Value.int .i64) R).length+1+(0+1))];dsimp only;refine U.growRow_p hgs rfl ?_)|refine U.ob_c (grow_ok (by decide +kernel) hg2) ?_|refine goB ?_|refine U.lw_c ?_ ?_<;>intro hb))
      (conv=>whnf);exact ⟨((r0::R)++[x],rest,true,(r0::R)++[n]++[x]),⟨by simp,hnx⟩,by simp,(Cov.renO (fun k=>if k=0 then 4 else k) rfl rfl (bR rfl) zL (fun k hk=>by have:k<0:=hk;rw[if_neg (by omega)]) rfl nlz (blksO.grown rfl ((by rw[iL_app,iL_app];exact List.flatMap_append.trans (congrArg (·++_) List.flatMap_append))) (cleanIC _) .nil) (.L rfl (cleanIL _) rfl (.cons rfl .I (.K rfl rfl rfl (.cons rfl (.grown (by decide) rfl (by simp[iL]) (by simp[iL]) (by simp[iL])) (.K rfl rfl rfl (.L rfl (cleanI _) (congrArg (Value.int .i64) (zw.symm)) .nil)))))))⟩
    ·have hnx:AddInv n (pre++[x]) true (out++[x]):=.inr ⟨rfl,by rw[addI_app h,e],x,by simp,h2⟩
     clear e h hal;rcases out with _|⟨r0,R⟩
     ·(repeat' ((conv=>whnf);first|refine goD ?_|refine U.lw_c ?_ ?_<;>intro hb))
      (conv=>whnf);exact ⟨(pre++[x],rest,true,[]++[x]),⟨by simp,hnx⟩,by simp,(Cov.renO (fun k=>if k=0 then 2 else k) rfl rfl (bR rfl) zL (fun k hk=>by have:k<0:=hk;rw[if_neg (by omega)]) rfl nlz (blksO.grown rfl rfl (cleanIC _) .nil) (.L rfl (cleanIL _) rfl (.cons rfl .I (.K rfl rfl rfl (.cons rfl (.grown (by decide) rfl (by simp[iL]) (by simp[iL]) (by simp[iL])) (.K rfl rfl rfl (.L rfl (cleanI _) (congrArg (Value.int .i64) (zw.symm)) .nil)))))))⟩
     ·have hgr:(cellsAll (Value.int .i64 r0::List.map (Value.int .i64) R)).length=((List.map (Value.int .i64) R).length+1)*1:=by
       rw[show Value.int .i64 r0::List.map (Value.int .i64) R=iL (r0::R) from rfl,cellsI,iL_len,List.length_map];simp
      have hg1:(List.map (Value.int .i64) R).length+1+(0+1)≤100000:=by rw[List.length_map];exact (by have h9:(r0::R).length≤50001:=(by omega);simp only[List.length_cons] at h9;omega)
      (repeat' ((conv=>whnf);first|refine goA ?_|(rw[U.ble_f ((List.map (Value.int .i64) R).length+1)];dsimp only;refine U.growRow_p hgr rfl ?_)|refine U.ob_c (grow_ok (by decide +kernel) hg1) ?_|refine goB ?_|refine U.lw_c ?_ ?_<;>intro hb))
      (conv=>whnf);exact ⟨(pre++[x],rest,true,(r0::R)++[x]),⟨by simp,hnx⟩,by simp,(Cov.renO (fun k=>if k=0 then 2 else k) rfl rfl (bR rfl) zL (fun k hk=>by have:k<0:=hk;rw[if_neg (by omega)]) rfl nlz (blksO.grown rfl ((by rw[iL_app];exact List.flatMap_append)) (cleanIC _) .nil) (.L rfl (cleanIL _) rfl (.cons rfl .I (.K rfl rfl rfl (.cons rfl (.grown (by decide) rfl (by simp[iL]) (by simp[iL]) (by simp[iL])) (.K rfl rfl rfl (.L rfl (cleanI _) (congrArg (Value.int .i64) (zw.symm)) .nil)))))))⟩
   ·have g2:decide (x > n)=false:=decide_eq_false h2;have hd:d=false∧out=pre∧∀y∈pre,y<n:=by
     rcases p2 with h|⟨_,_,y,hy,h3⟩
     ·exact h
     ·have:=(List.pairwise_append.1 hr).2.2 y hy x (by simp)
      omega
    obtain ⟨rfl,rfl,h⟩:=hd;have hnx:AddInv n (out++[x]) false (out++[x]):=.inl ⟨rfl,rfl,fun y hy=>by
     rcases List.mem_append.1 hy with hy|hy
     ·exact h y hy
     ·rw[List.mem_singleton] at hy;omega⟩
    rcases out with _|⟨r0,R⟩
    ·(repeat' ((conv=>whnf);first|refine goD ?_|refine U.lw_c ?_ ?_<;>intro hb))
     (conv=>whnf);exact ⟨([]++[x],rest,false,[]++[x]),⟨by simp,hnx⟩,by simp,(Cov.renO (fun k=>if k=0 then 2 else k) rfl rfl (bR rfl) zL (fun k hk=>by have:k<0:=hk;rw[if_neg (by omega)]) rfl nlz (blksO.grown rfl rfl (cleanIC _) .nil) (.L rfl (cleanIL _) rfl (.cons rfl .I (.K rfl rfl rfl (.cons rfl (.grown (by decide) rfl (by simp[iL]) (by simp[iL]) (by simp[iL])) (.K rfl rfl rfl (.L rfl (cleanI _) (congrArg (Value.int .i64) (zw.symm)) .nil)))))))⟩
    ·have hgr:(cellsAll (Value.int .i64 r0::List.map (Value.int .i64) R)).length=((List.map (Value.int .i64) R).length+1)*1:=by
      rw[show Value.int .i64 r0::List.map (Value.int .i64) R=iL (r0::R) from rfl,cellsI,iL_len,List.length_map];simp
     have hg1:(List.map (Value.int .i64) R).length+1+(0+1)≤100000:=by rw[List.length_map];exact (by have h9:(r0::R).length≤50001:=(by omega);simp only[List.length_cons] at h9;omega)
     (repeat' ((conv=>whnf);first|refine goA ?_|(rw[U.ble_f ((List.map (Value.int .i64) R).length+1)];dsimp only;refine U.growRow_p hgr rfl ?_)|refine U.ob_c (grow_ok (by decide +kernel) hg1) ?_|refine goB ?_|refine U.lw_c ?_ ?_<;>intro hb))
     (conv=>whnf);exact ⟨((r0::R)++[x],rest,false,(r0::R)++[x]),⟨by simp,hnx⟩,by simp,(Cov.renO (fun k=>if k=0 then 2 else k) rfl rfl (bR rfl) zL (fun k hk=>by have:k<0:=hk;rw[if_neg (by omega)]) rfl nlz (blksO.grown rfl ((by rw[iL_app];exact List.flatMap_append)) (cleanIC _) .nil) (.L rfl (cleanIL _) rfl (.cons rfl .I (.K rfl rfl rfl (.cons rfl (.grown (by decide) rfl (by simp[iL]) (by simp[iL]) (by simp[iL])) (.K rfl rfl rfl (.L rfl (cleanI _) (congrArg (Value.int .i64) (zw.symm)) .nil)))))))⟩
abbrev SA:=List Int×List Int
mutual
def rdE:Ex->SA->SA
 |.mk k _ a _ l,x=>rdEs l (if k=1 then addI a x.1 else x.1,if k=2 then addI a x.2 else x.2)
def rdEs:List Ex->SA->SA
 |[],x=>x
 |e::l,x=>rdEs l (rdE e x)
end
theorem rdEs_snoc:∀(l:List Ex) (e:Ex) (x:SA),rdEs (l++[e]) x=rdE e (rdEs l x)
 |[],e,x=>by rw[List.nil_append,rdEs,rdEs,rdEs]
 |y::l,e,x=>by rw[List.cons_append,rdEs,rdEs_snoc l,rdEs]
theorem Adds.same {S S1 L M:List Int}(h:Adds S S1 L) (e:∀z,z∈L↔z∈M):Adds S S1 M:=⟨h.r,fun z=>by rw[h.m z,e z]⟩
theorem eSl_app (a b:List Ex):eSl (a++b)=eSl a++eSl b:=List.filterMap_append
theorem eAr_app (a b:List Ex):eAr (a++b)=eAr a++eAr b:=List.filterMap_append
mutual
theorem rdE_adds:∀(e:Ex) (x:SA),Adds x.1 (rdE e x).1 (eSl (postE e))∧Adds x.2 (rdE e x).2 (eAr (postE e))
 |.mk k n a o l,x=>by
  rw[rdE,postE,eSl_app,eAr_app];obtain ⟨h1,h2⟩:=rdEs_adds l (if k=1 then addI a x.1 else x.1,if k=2 then addI a x.2 else x.2)
  dsimp only at h1 h2;have g1:Adds x.1 (if k=1 then addI a x.1 else x.1) (eSl [.mk k n a o l]):=by
   by_cases hk:k=1
   ·simp only[hk,eSl,List.filterMap_cons,List.filterMap_nil,if_true];exact .one _ _
   ·simp only[hk,eSl,List.filterMap_cons,List.filterMap_nil,if_false];exact .nil _
  have g2:Adds x.2 (if k=2 then addI a x.2 else x.2) (eAr [.mk k n a o l]):=by
   by_cases hk:k=2
   ·simp only[hk,eAr,List.filterMap_cons,List.filterMap_nil,if_true];exact .one _ _
   ·simp only[hk,eAr,List.filterMap_cons,List.filterMap_nil,if_false];exact .nil _
  exact ⟨(g1.app h1).same fun z=>by simp[or_comm],(g2.app h2).same fun z=>by simp[or_comm]⟩
theorem rdEs_adds:∀(l:List Ex) (x:SA),Adds x.1 (rdEs l x).1 (eSl (postEs l))∧Adds x.2 (rdEs l x).2 (eAr (postEs l))
 |[],x=>by rw[rdEs,postEs];exact ⟨.nil _,.nil _⟩
 |e::l,x=>by
  rw[rdEs,postEs,eSl_app,eAr_app];have h1:=rdE_adds e x;have h2:=rdEs_adds l (rdE e x);exact ⟨h1.1.app h2.1,h1.2.app h2.2⟩
end
mutual
theorem rdE_len:∀(e:Ex) (x:SA),(rdE e x).1.length≤x.1.length+szE e∧(rdE e x).2.length≤x.2.length+szE e
 |.mk k n a o l,x=>by
  rw[rdE,szE];obtain ⟨h1,h2⟩:=rdEs_len l (if k=1 then addI a x.1 else x.1,if k=2 then addI a x.2 else x.2)
  dsimp only at h1 h2;have a1:=addI_len (n:=a) (l:=x.1);have a2:=addI_len (n:=a) (l:=x.2);constructor
  ·refine Nat.le_trans h1 ?_;split<;>omega
  ·refine Nat.le_trans h2 ?_;split<;>omega
theorem rdEs_len:∀(l:List Ex) (x:SA),(rdEs l x).1.length≤x.1.length+szEs l∧(rdEs l x).2.length≤x.2.length+szEs l
 |[],x=>by rw[rdEs,szEs];omega
 |e::l,x=>by
  rw[rdEs,szEs];have h1:=rdE_len e x;have h2:=rdEs_len l (rdE e x);omega
end
structure SOk (x:SA) (m:Nat):Prop where
 r1:Ris x.1
 r2:Ris x.2
 l1:x.1.length+m≤45000
 l2:x.2.length+m≤45000
theorem SOk.es {x:SA}{m k:Nat}(h:SOk x m) (l:List Ex) (hk:szEs l+k≤m):SOk (rdEs l x) k:=by
 have h1:=rdEs_len l x;have h2:=rdEs_adds l x;have:=h.l1;have:=h.l2;exact ⟨h2.1.r h.r1,h2.2.r h.r2,by omega,by omega⟩
theorem SOk.mono {x:SA}{m k:Nat}(h:SOk x m) (hk:k≤m):SOk x k:=⟨h.r1,h.r2,by have:=h.l1;omega,by have:=h.l2;omega⟩
theorem szEs_app:∀(a b:List Ex),szEs (a++b)=szEs a+szEs b
 |[],b=>by simp[szEs]
 |x::a,b=>by rw[List.cons_append,szEs,szEs,szEs_app a b];omega
def saV (x:SA):Value:=.tuple ⟨[imS (iL x.1),imS (iL x.2)]⟩
theorem exprReads_all:∀(N:Nat) (e:Ex) (x:SA),szE e≤N->szE e≤1000->SOk x (szE e)->DenU Tryz.prog [] 76 [encE e,imS (iL x.1),imS (iL x.2)] (saV (rdE e x)):=by
 intro N;induction N with
 |zero=>intro e x h;have:=szE_pos e;omega
 |succ N ih =>
  intro e x h0 h1 hok;obtain ⟨k,n,a,o,l⟩:=e;obtain ⟨S,A⟩:=x;refine denU_of_sound hmixU fun Ts=>SoundAt.body hmixU Tryz.func76 rfl rfl rfl 0 ?_
  rw[szE] at h0 h1 hok;have hl1:=hok.l1;have hl2:=hok.l2;dsimp only at hl1 hl2;have c1:=add_d S a hok.r1 (by omega)
  have c2:=add_d A a hok.r2 (by omega)
  have kS:=cleanIL S;have kA:=cleanIL A;have kl:=cleanEs l;rw[rdE];dsimp only;have hok2:SOk (if k=1 then addI a S else S,if k=2 then addI a A else A) (szEs l):=by
   have a1:=addI_len (n:=a) (l:=S);have a2:=addI_len (n:=a) (l:=A);refine ⟨?_,?_,?_,?_⟩
   ·dsimp only;split
    ·exact addI_ris hok.r1
    ·exact hok.r1
   ·dsimp only;split
    ·exact addI_ris hok.r2
    ·exact hok.r2
   ·dsimp only;split<;>omega
   ·dsimp only;split<;>omega
  have kS1:=cleanIL (addI a S);have kA1:=cleanIL (addI a A);by_cases hk1:k=1
  ·have g1:(k==1)=true:=by simpa using hk1
   have g2:(k==2)=false:=by simp;omega
   rw[if_pos hk1,if_neg (show ¬k=2 by omega)] at hok2 ⊢;(repeat' ((conv=>whnf);first|refine goD ?_|refine U.SoundAt.u (c1) clM ?_|refine U.SoundC.u (c1) clM ?_|refine U.lw_c ?_ ?_<;>intro hb))
   (conv=>whnf);refine loop_inv (α:=List Ex×List Ex×SA) (fun x=>x.1++x.2.1=l∧rdEs x.1 (addI a S,A)=x.2.2) (fun x=>(mkF [(1,imS (iL x.2.2.1)),(2,imS (iL x.2.2.2)),(3,.pointer (some ⟨0,0,none⟩)),(6,.slice none 0 0),(7,.slice none 0 0),(8,.int .i64 x.1.length)],⟨mkO [(0,some (.cells 100 (cellsOf (encE (.mk k n a o l))) false))],1,0,0⟩)) (fun x=>x.2.1.length) ([],l,(addI a S,A)) ⟨rfl,rfl⟩ (Cov.renI rfl rfl rfl rfl (.W rfl ((fun c hc=>cleanE_cells (.mk k n a o l) c hc)) rfl .nil) (.L rfl (cleanIL _) rfl (.L rfl (cleanIL _) rfl (.cons rfl (.P rfl) (.K rfl rfl rfl (.K rfl rfl rfl (.K rfl rfl rfl .nil))))))) ?_
   rintro ⟨pre,rest,⟨S2,A2⟩⟩ ⟨p1,p2⟩
   dsimp only at p1 p2;subst p1;dsimp only;have kS2:=cleanIL S2;have kA2:=cleanIL A2;have hes:=szEs_app pre rest;have hll:=szEs_len (pre++rest);rcases rest with _|⟨e,rest⟩
   ·rw[List.append_nil] at *;have zb:=U.lt_no encEs_map pre;rw[p2];(repeat' ((conv=>whnf);first|refine goD ?_|refine U.lw_c ?_ ?_<;>intro hb))
    (conv=>whnf);exact .tupL (.cons (.clean _ kS2) (.cons (.clean _ kA2) .nil))
   ·have zb:=U.lt_yes encEs_map pre (e) rest;have zc:=U.blt_yes encEs_map pre (e) rest;have zn:=U.nth_at encEs_map pre (e) rest;have zw:=U.len_snoc (pre:=pre) (x:=e) (post:=rest) ((Nat.le_trans (show _≤1000 by omega) (by decide)))
    rw[szEs] at hes;have hok3:=hok2.es pre (k:=szE e+szEs rest) (by omega)
    rw[p2] at hok3;have c3:=ih e (S2,A2) (by omega) (by omega) (hok3.mono (by omega))
    have e1:rdEs (pre++[e]) (addI a S,A)=rdE e (S2,A2):=by rw[rdEs_snoc,p2]
    unfold saV at c3;dsimp only at c3;generalize rdE e (S2,A2)=y at *
    obtain ⟨S3,A3⟩:=y;dsimp only at c3;have kS3:=cleanIL S3;have kA3:=cleanIL A3;obtain ⟨ke,ne,ae,oe,le⟩:=e;have kle:=cleanEs le;have kE:NoNm (.agg ⟨[.int .i64 ke,.int .i64 ne,.int .i64 ae,.int .i64 oe,imS (encEs le)]⟩):=cleanE (.mk ke ne ae oe le)
    clear ih hok2;(repeat' ((conv=>whnf);first|refine goD ?_|refine U.SoundAt.u (c3) clM ?_|refine U.SoundC.u (c3) clM ?_|refine U.lw_c ?_ ?_<;>intro hb))
    (conv=>whnf);exact ⟨(pre++[_],rest,S3,A3),⟨by simp,e1⟩,by simp,(Cov.renI rfl rfl rfl rfl (.W rfl ((fun c hc=>cleanE_cells (.mk k n a o _) c hc)) rfl .nil) (.L rfl (cleanIL _) rfl (.L rfl (cleanIL _) rfl (.cons rfl (.P rfl) (.K rfl rfl rfl (.K rfl rfl rfl (.L rfl (cleanI _) (congrArg (Value.int .i64) (zw.symm)) .nil)))))))⟩
  ·have g1:(k==1)=false:=by simpa using hk1
   by_cases hk2:k=2
   ·have g2:(k==2)=true:=by simpa using hk2
    rw[if_neg hk1,if_pos hk2] at hok2 ⊢;(repeat' ((conv=>whnf);first|refine goD ?_|refine U.SoundAt.u (c2) clM ?_|refine U.SoundC.u (c2) clM ?_|refine U.lw_c ?_ ?_<;>intro hb))
    (conv=>whnf);refine loop_inv (α:=List Ex×List Ex×SA) (fun x=>x.1++x.2.1=l∧rdEs x.1 (S,addI a A)=x.2.2) (fun x=>(mkF [(1,imS (iL x.2.2.1)),(2,imS (iL x.2.2.2)),(3,.pointer (some ⟨0,0,none⟩)),(6,.slice none 0 0),(7,.slice none 0 0),(8,.int .i64 x.1.length)],⟨mkO [(0,some (.cells 100 (cellsOf (encE (.mk k n a o l))) false))],1,0,0⟩)) (fun x=>x.2.1.length) ([],l,(S,addI a A)) ⟨rfl,rfl⟩ (Cov.renI rfl rfl rfl rfl (.W rfl ((fun c hc=>cleanE_cells (.mk k n a o l) c hc)) rfl .nil) (.L rfl (cleanIL _) rfl (.L rfl (cleanIL _) rfl (.cons rfl (.P rfl) (.K rfl rfl rfl (.K rfl rfl rfl (.K rfl rfl rfl .nil))))))) ?_
    rintro ⟨pre,rest,⟨S2,A2⟩⟩ ⟨p1,p2⟩
    dsimp only at p1 p2;subst p1;dsimp only;have kS2:=cleanIL S2;have kA2:=cleanIL A2;have hes:=szEs_app pre rest;have hll:=szEs_len (pre++rest);rcases rest with _|⟨e,rest⟩
    ·rw[List.append_nil] at *;have zb:=U.lt_no encEs_map pre;rw[p2];(repeat' ((conv=>whnf);first|refine goD ?_|refine U.lw_c ?_ ?_<;>intro hb))
     (conv=>whnf);exact .tupL (.cons (.clean _ kS2) (.cons (.clean _ kA2) .nil))
    ·have zb:=U.lt_yes encEs_map pre (e) rest;have zc:=U.blt_yes encEs_map pre (e) rest;have zn:=U.nth_at encEs_map pre (e) rest;have zw:=U.len_snoc (pre:=pre) (x:=e) (post:=rest) ((Nat.le_trans (show _≤1000 by omega) (by decide)))
     rw[szEs] at hes;have hok3:=hok2.es pre (k:=szE e+szEs rest) (by omega)
     rw[p2] at hok3;have c3:=ih e (S2,A2) (by omega) (by omega) (hok3.mono (by omega))
     have e1:rdEs (pre++[e]) (S,addI a A)=rdE e (S2,A2):=by rw[rdEs_snoc,p2]
     unfold saV at c3;dsimp only at c3;generalize rdE e (S2,A2)=y at *
     obtain ⟨S3,A3⟩:=y;dsimp only at c3;have kS3:=cleanIL S3;have kA3:=cleanIL A3;obtain ⟨ke,ne,ae,oe,le⟩:=e;have kle:=cleanEs le;have kE:NoNm (.agg ⟨[.int .i64 ke,.int .i64 ne,.int .i64 ae,.int .i64 oe,imS (encEs le)]⟩):=cleanE (.mk ke ne ae oe le)
     clear ih hok2;(repeat' ((conv=>whnf);first|refine goD ?_|refine U.SoundAt.u (c3) clM ?_|refine U.SoundC.u (c3) clM ?_|refine U.lw_c ?_ ?_<;>intro hb))
     (conv=>whnf);exact ⟨(pre++[_],rest,S3,A3),⟨by simp,e1⟩,by simp,(Cov.renI rfl rfl rfl rfl (.W rfl ((fun c hc=>cleanE_cells (.mk k n a o _) c hc)) rfl .nil) (.L rfl (cleanIL _) rfl (.L rfl (cleanIL _) rfl (.cons rfl (.P rfl) (.K rfl rfl rfl (.K rfl rfl rfl (.L rfl (cleanI _) (congrArg (Value.int .i64) (zw.symm)) .nil)))))))⟩
   ·have g2:(k==2)=false:=by simpa using hk2
    rw[if_neg hk1,if_neg hk2] at hok2 ⊢;(repeat' ((conv=>whnf);first|refine goD ?_|refine U.lw_c ?_ ?_<;>intro hb))
    (conv=>whnf);refine loop_inv (α:=List Ex×List Ex×SA) (fun x=>x.1++x.2.1=l∧rdEs x.1 (S,A)=x.2.2) (fun x=>(mkF [(1,imS (iL x.2.2.1)),(2,imS (iL x.2.2.2)),(3,.pointer (some ⟨0,0,none⟩)),(6,.slice none 0 0),(7,.slice none 0 0),(8,.int .i64 x.1.length)],⟨mkO [(0,some (.cells 100 (cellsOf (encE (.mk k n a o l))) false))],1,0,0⟩)) (fun x=>x.2.1.length) ([],l,(S,A)) ⟨rfl,rfl⟩ (Cov.renI rfl rfl rfl rfl (.W rfl ((fun c hc=>cleanE_cells (.mk k n a o l) c hc)) rfl .nil) (.L rfl (cleanIL _) rfl (.L rfl (cleanIL _) rfl (.cons rfl (.P rfl) (.K rfl rfl rfl (.K rfl rfl rfl (.K rfl rfl rfl .nil))))))) ?_
    rintro ⟨pre,rest,⟨S2,A2⟩⟩ ⟨p1,p2⟩
    dsimp only at p1 p2;subst p1;dsimp only;have kS2:=cleanIL S2;have kA2:=cleanIL A2;have hes:=szEs_app pre rest;have hll:=szEs_len (pre++rest);rcases rest with _|⟨e,rest⟩
    ·rw[List.append_nil] at *;have zb:=U.lt_no encEs_map pre;rw[p2];(repeat' ((conv=>whnf);first|refine goD ?_|refine U.lw_c ?_ ?_<;>intro hb))
     (conv=>whnf);exact .tupL (.cons (.clean _ kS2) (.cons (.clean _ kA2) .nil))
    ·have zb:=U.lt_yes encEs_map pre (e) rest;have zc:=U.blt_yes encEs_map pre (e) rest;have zn:=U.nth_at encEs_map pre (e) rest;have zw:=U.len_snoc (pre:=pre) (x:=e) (post:=rest) ((Nat.le_trans (show _≤1000 by omega) (by decide)))
     rw[szEs] at hes;have hok3:=hok2.es pre (k:=szE e+szEs rest) (by omega)
     rw[p2] at hok3;have c3:=ih e (S2,A2) (by omega) (by omega) (hok3.mono (by omega))
     have e1:rdEs (pre++[e]) (S,A)=rdE e (S2,A2):=by rw[rdEs_snoc,p2]
     unfold saV at c3;dsimp only at c3;generalize rdE e (S2,A2)=y at *
     obtain ⟨S3,A3⟩:=y;dsimp only at c3;have kS3:=cleanIL S3;have kA3:=cleanIL A3;obtain ⟨ke,ne,ae,oe,le⟩:=e;have kle:=cleanEs le;have kE:NoNm (.agg ⟨[.int .i64 ke,.int .i64 ne,.int .i64 ae,.int .i64 oe,imS (encEs le)]⟩):=cleanE (.mk ke ne ae oe le)
     clear ih hok2;(repeat' ((conv=>whnf);first|refine goD ?_|refine U.SoundAt.u (c3) clM ?_|refine U.SoundC.u (c3) clM ?_|refine U.lw_c ?_ ?_<;>intro hb))
     (conv=>whnf);exact ⟨(pre++[_],rest,S3,A3),⟨by simp,e1⟩,by simp,(Cov.renI rfl rfl rfl rfl (.W rfl ((fun c hc=>cleanE_cells (.mk k n a o _) c hc)) rfl .nil) (.L rfl (cleanIL _) rfl (.L rfl (cleanIL _) rfl (.cons rfl (.P rfl) (.K rfl rfl rfl (.K rfl rfl rfl (.L rfl (cleanI _) (congrArg (Value.int .i64) (zw.symm)) .nil)))))))⟩
end Go.Proofs.YtocppbocphnbcaaGreatDoor
