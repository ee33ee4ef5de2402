
import Derived.Test.YtocppbocphnbcaaGreatDoorXS21
namespace Go.Proofs.YtocppbocphnbcaaGreatDoor
open Go Go.RowKit Go.Sort U
set_option linter.unusedVariables false
set_option linter.unusedSimpArgs false
set_option maxRecDepth 100000
set_option maxHeartbeats 40000000
theorem str_eq (a b:ByteArray):(a.toList==b.toList)=decide (a=b):=by
 rw[ByteArray.toList_eq,ByteArray.toList_eq];rw[Bool.eq_iff_iff,beq_iff_eq,decide_eq_true_iff];constructor
 ·intro h;obtain ⟨⟨l⟩⟩:=a;obtain ⟨⟨m⟩⟩:=b;simp at h;subst h;rfl
 ·rintro rfl;rfl
theorem chk_no {pre rest:List UInt8}{c:UInt8}(h:okC pre.isEmpty c=false):okAll (pre++c::rest)=false:=by
 have e:okAll (pre++[c])=false:=by rw[okAll_snoc,h,Bool.and_false]
 have e2:pre++c::rest=(pre++[c])++rest:=by simp
 rw[e2];cases hx:okAll ((pre++[c])++rest) with
 |false=>rfl
 |true=>rw[okAll_app _ _ hx] at e;cases e
theorem wordNo {pre rest:List UInt8}{c:UInt8}(h:okC pre.isEmpty c=false):wordB ⟨⟨pre++c::rest⟩⟩=false:=by
 unfold wordB;rw[show (⟨⟨pre++c::rest⟩⟩:ByteArray).data.toList=pre++c::rest from rfl,chk_no h,Bool.and_false]
theorem str_lt (pre rest:List UInt8) (c:UInt8):decide (((pre.length:Nat):Int)<((⟨⟨pre++c::rest⟩⟩:ByteArray).size:Int))=true:=decide_eq_true (by
 show ((pre.length:Nat):Int)<(((pre++c::rest).length:Nat):Int)
 rw[List.length_append,List.length_cons];omega)
theorem str_no (pre:List UInt8):decide (((pre.length:Nat):Int)<((⟨⟨pre⟩⟩:ByteArray).size:Int))=false:=decide_eq_false (by
 show ¬((pre.length:Nat):Int)<((pre.length:Nat):Int)
 omega)
theorem str_blt (pre rest:List UInt8) (c:UInt8):Nat.blt pre.length (pre++c::rest).length=true:=bLe (by
 rw[List.length_append,List.length_cons];omega)
theorem emp_eq (pre:List UInt8):(((pre.length:Nat):Int)==0)=pre.isEmpty:=by cases pre<;>simp;omega
theorem word_d (b:ByteArray):DenU Tryz.prog [] 95 [.string b] (.bool (wordB b)):=by
 obtain ⟨⟨l⟩⟩:=b;refine denU_of_body hmixU rfl Tryz.func95 rfl rfl rfl 0 ?_;intro Ts;(repeat' ((conv=>whnf);first|refine goD ?_|refine U.lw_c ?_ ?_<;>intro hb))
 all_goals (conv=>whnf)
 ·rw[str_eq] at hb;have hb:(⟨⟨l⟩⟩:ByteArray)=⟨#[]⟩:=of_decide_eq_true hb;cases hb;exact .same (.flat _ rfl) rfl
 ·have hb:((⟨⟨l⟩⟩:ByteArray).size:Int) > 32:=of_decide_eq_true hb;exact .same (.flat _ rfl) (congrArg Value.bool (by unfold wordB;rw[decide_eq_false (p:=(⟨⟨l⟩⟩:ByteArray).size≤32) (by omega)];simp))
 ·rename_i hb2;rw[str_eq] at hb2;have hb:¬((⟨⟨l⟩⟩:ByteArray).size:Int) > 32:=of_decide_eq_false hb;have hb:l.length≤32:=by
   have h2:¬(l.length:Int) > 32:=hb;omega
  have hb1:1≤l.length:=by
   rcases l with _|⟨c,l⟩
   ·exact absurd rfl (of_decide_eq_false hb2)
   ·simp
  clear hb2;refine loop_inv (α:=List UInt8×List UInt8) (fun x=>x.1++x.2=l∧okAll x.1=true) (fun x=>(mkF [(0,.string ⟨⟨l⟩⟩),(2,.bool false),(3,.int .i64 x.1.length)],⟨mkO [],0,0,0⟩)) (fun x=>x.2.length) ([],l) ⟨rfl,rfl⟩ (Cov.slots (Nat.le_refl 0) ⟨rfl,rfl,rfl,trivial⟩) ?_
  rintro ⟨pre,rest⟩ ⟨p1,p2⟩
  dsimp only at p1 p2;subst p1;dsimp only;rcases rest with _|⟨c,rest⟩
  ·rw[List.append_nil] at *;have zb:=str_no pre;(repeat' ((conv=>whnf);first|refine goD ?_|refine U.lw_c ?_ ?_<;>intro hb))
   all_goals (conv=>whnf)
   exact .same (.flat _ rfl) (congrArg Value.bool (by
    unfold wordB;rw[show (⟨⟨pre⟩⟩:ByteArray).size=pre.length from rfl,show (⟨⟨pre⟩⟩:ByteArray).data.toList=pre from rfl,p2,decide_eq_true hb,decide_eq_true hb1];rfl))
  ·have zb:=str_lt pre rest c;have zc:=str_blt pre rest c;have zn:nth ((pre++c::rest).map U.byteV) pre.length=some (U.byteV c):=U.nth_at (en:=fun l=>l.map U.byteV) (fun _=>rfl) pre c rest
   have zw:=U.len_snoc (pre:=pre) (x:=c) (post:=rest) (by omega)
   (repeat' ((conv=>whnf);first|refine goD ?_|refine U.lw_c ?_ ?_<;>intro hb))
   all_goals (conv=>whnf)
   all_goals try simp only[emp_eq] at *
   all_goals clear zb zc zn
   all_goals first
    |(refine .same (.flat _ rfl) (congrArg Value.bool (wordNo ?_).symm)<;>(simp_all[okC,letB]<;>omega);done)
    |(refine ⟨(pre++[c],rest),⟨by simp,?_⟩,by simp,Cov.slots (s:=⟨mkO [],0,0,0⟩) (Nat.le_refl 0) ⟨rfl,rfl,congrArg (fun z=>some (Value.int .i64 z)) zw,trivial⟩⟩;rw[okAll_snoc,p2];(simp_all[okC,letB]<;>omega);done)
theorem rword_d (b:ByteArray) (hb:b.size≤maxI):DenU Tryz.prog [] 68 [.string b] (.bool (wordB b)):=by
 obtain ⟨⟨l⟩⟩:=b;replace hb:l.length≤maxI:=hb;refine denU_of_body hmixU rfl Tryz.func68 rfl rfl rfl 0 ?_;intro Ts;(repeat' ((conv=>whnf);first|refine goD ?_|refine U.lw_c ?_ ?_<;>intro hb))
 all_goals (conv=>whnf)
 refine loop_inv (α:=List UInt8×List UInt8) (fun x=>x.1++x.2=l∧okAll x.1=true) (fun x=>(mkF [(0,.string ⟨⟨l⟩⟩),(2,.bool false),(3,.int .i64 x.1.length)],⟨mkO [],0,0,0⟩)) (fun x=>x.2.length) ([],l) ⟨rfl,rfl⟩ (Cov.slots (Nat.le_refl 0) ⟨rfl,rfl,rfl,trivial⟩) ?_
 rintro ⟨pre,rest⟩ ⟨p1,p2⟩
 dsimp only at p1 p2;subst p1;dsimp only;rcases rest with _|⟨c,rest⟩
 ·rw[List.append_nil] at *;have zb:=str_no pre;(repeat' ((conv=>whnf);first|refine goD ?_|refine U.lw_c ?_ ?_<;>intro hb))
  all_goals (conv=>whnf)
  all_goals refine .same (.flat _ rfl) (congrArg Value.bool ?_)
  all_goals unfold wordB
  all_goals rw[show (⟨⟨pre⟩⟩:ByteArray).size=pre.length from rfl,show (⟨⟨pre⟩⟩:ByteArray).data.toList=pre from rfl,p2]
  ·have h1:(pre.length:Int)≥1:=of_decide_eq_true hb;rw[decide_eq_true (p:=1≤pre.length) (by omega),Bool.true_and,Bool.and_true];exact decide_eq_decide.2 (by omega)
  ·have h1:¬(pre.length:Int)≥1:=of_decide_eq_false hb;rw[decide_eq_false (p:=1≤pre.length) (by omega)];simp
 ·have zb:=str_lt pre rest c;have zc:=str_blt pre rest c;have zn:nth ((pre++c::rest).map U.byteV) pre.length=some (U.byteV c):=U.nth_at (en:=fun l=>l.map U.byteV) (fun _=>rfl) pre c rest
  have zw:=U.len_snoc (pre:=pre) (x:=c) (post:=rest) hb;clear hb;(repeat' ((conv=>whnf);first|refine goD ?_|refine U.lw_c ?_ ?_<;>intro hb))
  all_goals (conv=>whnf)
  all_goals try simp only[emp_eq] at *
  all_goals clear zb zc zn
  all_goals first
   |(refine .same (.flat _ rfl) (congrArg Value.bool (wordNo ?_).symm)<;>(simp_all[okC,letB]<;>omega);done)
   |(refine ⟨(pre++[c],rest),⟨by simp,?_⟩,by simp,Cov.slots (s:=⟨mkO [],0,0,0⟩) (Nat.le_refl 0) ⟨rfl,rfl,congrArg (fun z=>some (Value.int .i64 z)) zw,trivial⟩⟩;rw[okAll_snoc,p2];(simp_all[okC,letB]<;>omega);done)
theorem r6has_d (l:List ByteArray) (b:ByteArray) (hl:l.length≤maxI):DenU Tryz.prog [] 34 [imS (sL l),.string b] (.bool (l.any fun k=>decide (k=b))):=by
 refine denU_of_body hmixU rfl Tryz.func34 rfl rfl rfl 0 ?_;intro Ts;(repeat' ((conv=>whnf);first|refine goD ?_|refine U.lw_c ?_ ?_<;>intro hb))
 all_goals (conv=>whnf)
 refine loop_inv (α:=List ByteArray×List ByteArray) (fun x=>x.1++x.2=l∧x.1.any (fun k=>decide (k=b))=false) (fun x=>(mkF [(0,imS (sL l)),(1,.string b),(4,.bool false),(5,.int .i64 x.1.length)],⟨mkO [],0,0,0⟩)) (fun x=>x.2.length) ([],l) ⟨rfl,rfl⟩ (Cov.slots (Nat.le_refl 0) ⟨rfl,rfl,rfl,rfl,trivial⟩) ?_
 rintro ⟨pre,rest⟩ ⟨p1,p2⟩
 dsimp only at p1 p2;subst p1;dsimp only;rcases rest with _|⟨x,rest⟩
 ·rw[List.append_nil];have zb:=U.lt_no sL_map pre;(repeat' ((conv=>whnf);first|refine goD ?_|refine U.lw_c ?_ ?_<;>intro hb))
  (conv=>whnf);exact .same (.flat _ rfl) (congrArg Value.bool p2.symm)
 ·have zb:=U.lt_yes sL_map pre (x) rest;have zc:=U.blt_yes sL_map pre (x) rest;have zn:=U.nth_at sL_map pre (x) rest;have zw:=U.len_snoc (pre:=pre) (x:=x) (post:=rest) (hl);(repeat' ((conv=>whnf);first|refine goD ?_|refine U.lw_c ?_ ?_<;>intro hb))
  all_goals (conv=>whnf)
  ·rw[str_eq] at hb;exact .same (.flat _ rfl) (congrArg Value.bool (by simp[hb]))
  ·rw[str_eq] at hb;exact ⟨(pre++[x],rest),⟨by simp,by rw[List.any_append,p2];simp[hb]⟩,by simp,Cov.slots (s:=⟨mkO [],0,0,0⟩) (Nat.le_refl 0) ⟨rfl,rfl,rfl,congrArg (fun z=>some (Value.int .i64 z)) zw,trivial⟩⟩
theorem rkw_d:DenU Tryz.prog [] 69 [] (imS (sL kwB)):=by
 refine denU_of_body hmixU rfl Tryz.func69 rfl rfl rfl 0 ?_;intro Ts;(repeat' ((conv=>whnf);first|refine goD ?_|refine U.lw_c ?_ ?_<;>intro hb))
 (conv=>whnf);exact .rowL zL rfl rfl sL_1 rfl rL (cleanSC _)
theorem rname_d (b:ByteArray) (hb:b.size≤maxI):DenU Tryz.prog [] 33 [.string b] (.bool (nameB b)):=by
 refine denU_of_body hmixU rfl Tryz.func33 rfl rfl rfl 0 ?_;intro Ts;have h1:=rword_d b hb;have h2:=rkw_d;have h3:=r6has_d kwB b (by decide)
 unfold nameB;generalize wordB b=w at *
 generalize (kwB.any fun k=>decide (k=b))=q at *
 have hc:=cleanSL kwB;generalize sL kwB=kl at *
 (repeat' ((conv=>whnf);first|refine goD ?_|refine ⟨_,h1,clM,tab0 _,?_⟩|refine ⟨_,h2,clM,tab0 _,?_⟩|refine ⟨_,h3,clM,tab0 _,?_⟩|refine U.lw_c ?_ ?_<;>intro hb))
 all_goals (conv=>whnf)
 all_goals subst hb
 all_goals exact .same (.flat _ rfl) (congrArg Value.bool (by simp))
def kwT:List (Nat×List Value):=[(0,kwB.map Value.string)]
theorem kw_ok:gOk kwT=true:=by kernel_rfl
def kwNo (b:ByteArray) (i:Nat):Bool:=(kwB.take i).all fun k=>!decide (k=b)
theorem kwNo_end {b:ByteArray}(h:kwNo b 13=true):(kwB.any fun k=>decide (k=b))=false:=by
 unfold kwNo at h;rw[show kwB.take 13=kwB from rfl] at h;rw[Bool.eq_false_iff];intro h2;obtain ⟨k,hk,h2⟩:=List.any_eq_true.1 h2;have:=List.all_eq_true.1 h k hk;rw[h2] at this;cases this
theorem kwNo_s {b k:ByteArray}{i:Nat}(hi:i<13) (hk:kwB[i]?=some k) (h:kwNo b i=true) (h2:decide (k=b)=false):kwNo b (i+1)=true:=by
 unfold kwNo at h ⊢
 rw[List.take_add_one,List.all_append,h,hk];simp[h2]
theorem kwYes {b k:ByteArray}(hk:k∈kwB) (h:k=b):nameB b=false:=by
 unfold nameB;rw[show (kwB.any fun k=>decide (k=b))=true from List.any_eq_true.2 ⟨k,hk,decide_eq_true h⟩]
 rfl
theorem name_d (b:ByteArray):DenU Tryz.prog kwT 79 [.string b] (.bool (nameB b)):=by
 refine denU_of_soundT kw_ok fun Ts=>SoundAt.body hmixU Tryz.func79 rfl rfl rfl 0 ?_
 (repeat' ((conv=>whnf);first|refine goD ?_|refine U.lw_c ?_ ?_<;>intro hb))
 (conv=>whnf);refine loop_inv (α:=Nat) (fun i=>i≤13∧kwNo b i=true) (fun i=>(mkF [(0,.string b),(2,.bool false),(5,.agg ⟨kwB.map Value.string⟩),(6,.int .i64 i)],U.start kwT Ts)) (fun i=>13-i) 0 ⟨by decide,rfl⟩ (Cov.slots rL ⟨rfl,rfl,rfl,rfl,trivial⟩) ?_
 rintro i ⟨h1,h2⟩
 have h3:i=13∨i=0∨i=1∨i=2∨i=3∨i=4∨i=5∨i=6∨i=7∨i=8∨i=9∨i=10∨i=11∨i=12:=by omega
 have hw:=word_d b;rcases h3 with rfl|h3
 ·(repeat' ((conv=>whnf);first|refine goD ?_|refine U.SoundAt.u (hw) clM ?_|refine U.SoundC.u (hw) clM ?_|refine U.lw_c ?_ ?_<;>intro hb))
  (conv=>whnf);exact .same (.flat _ rfl) (congrArg Value.bool (by rw[nameB,kwNo_end h2];rfl))
 ·rcases h3 with rfl|rfl|rfl|rfl|rfl|rfl|rfl|rfl|rfl|rfl|rfl|rfl|rfl
  all_goals (repeat' ((conv=>whnf);first|refine goD ?_|refine U.lw_c ?_ ?_<;>intro hb))
  all_goals (conv=>whnf)
  all_goals rw[str_eq] at hb
  all_goals first
   |exact .same (.flat _ rfl) (congrArg Value.bool (kwYes (by repeat (first|exact List.mem_cons_self|apply List.mem_cons_of_mem)) (of_decide_eq_true hb)).symm)
   |exact ⟨_,⟨bR rfl,kwNo_s (by decide) rfl h2 hb⟩,Nat.lt_of_lt_of_le (Nat.lt_succ_self _) rL,Cov.slots (s:=U.start kwT Ts) rL ⟨rfl,rfl,rfl,rfl,trivial⟩⟩
end Go.Proofs.YtocppbocphnbcaaGreatDoor
namespace Go.Proofs.YtocppbocphnbcaaGreatDoor.U
open Go Go.RowKit Go.Sort
set_option linter.unusedVariables false
set_option linter.unusedSimpArgs false
set_option maxRecDepth 100000
set_option maxHeartbeats 40000000
def mE {K V:Type}(ek:K->Value) (ev:V->Value) (m:List (K×V)):List (Value×Value):=m.map fun e=>(ek e.1,ev e.2)
theorem mE_len {K V:Type}{ek:K->Value}{ev:V->Value}(m:List (K×V)):(mE ek ev m).length=m.length:=List.length_map ..
theorem mE_app {K V:Type}{ek:K->Value}{ev:V->Value}(a b:List (K×V)):mE ek ev (a++b)=mE ek ev a++mE ek ev b:=List.map_append
theorem mE_snoc {K V:Type}{ek:K->Value}{ev:V->Value}(m:List (K×V)) (z:K) (u:V):mE ek ev m++[(ek z,ev u)]=mE ek ev (m++[(z,u)]):=by rw[mE_app];rfl
theorem mE_noNm {K V:Type}{ek:K->Value}{ev:V->Value}(h:∀u,NoNm (ev u)) (m:List (K×V)):∀e∈mE ek ev m,NoNm e.2:=fun e he=>by
 obtain ⟨x,_,rfl⟩:=List.mem_map.1 he;exact h _
def lookM {K V:Type} [DecidableEq K] (z:K):List (K×V)->Nat->Option (Nat×V)
 |[],_=>none
 |(y,u)::m,i=>if z=y then some (i,u) else lookM z m (i+1)
theorem lookM_none {K V:Type} [DecidableEq K] {z:K}:∀{m:List (K×V)}{i:Nat},z∉m.map (·.1)->lookM z m i=none
 |[],i,h=>rfl
 |(y,u)::m,i,h=>by
  simp only[List.map_cons,List.mem_cons,not_or] at h;rw[lookM,if_neg h.1];exact lookM_none h.2
theorem lookM_mid {K V:Type} [DecidableEq K] {z:K}{u:V}{q:List (K×V)}:∀{p:List (K×V)}{i:Nat},z∉p.map (·.1)->lookM z (p++(z,u)::q) i=some (i+p.length,u)
 |[],i,h=>by simp[lookM]
 |(y,v)::p,i,h=>by
  simp only[List.map_cons,List.mem_cons,not_or] at h;rw[List.cons_append,lookM,if_neg h.1,lookM_mid h.2];simp;omega
theorem look_cases {K V:Type} [DecidableEq K] (z:K):∀(m:List (K×V)),(z∉m.map (·.1))∨∃p u q,m=p++(z,u)::q∧z∉p.map (·.1)
 |[]=>.inl (by simp)
 |(y,u)::m=>by
  by_cases h:z=y
  ·subst h;exact .inr ⟨[],u,m,rfl,by simp⟩
  ·rcases look_cases z m with h1|⟨p,v,q,rfl,h2⟩
   ·exact .inl (by simp only[List.map_cons,List.mem_cons,not_or];exact ⟨h,h1⟩)
   ·exact .inr ⟨(y,u)::p,v,q,rfl,by simp only[List.map_cons,List.mem_cons,not_or];exact ⟨h,h2⟩⟩
def KeyOk {K:Type} [DecidableEq K] (P:Program) (kt:TypeId) (d:TypeDesc) (ek:K->Value):Prop:=∀(V:Type) (ev:V->Value) (z:K) (m:List (K×V)),findC P kt d (ek z) (mE ek ev m)=some ((lookM z m 0).map fun r=>(r.1,ev r.2))
theorem keyOk_arr {K:Type} [DecidableEq K] {P:Program}{kt:TypeId}{a:TypeId}{n:Nat}{ek:K->Value}(h:∀a b,pureRun P (Op.equal kt (ek a) (ek b))=some (decide (a=b))) (hs:∀a,Instr.sameBits 10000 (ek a) (ek a)=true):KeyOk P kt (.array a n) ek:=fun V ev z m=>by
 have key:∀(m:List (K×V)) (i:Nat),findA P kt (ek z) (mE ek ev m) i=some ((lookM z m i).map fun r=>(r.1,ev r.2)):=fun m=>by
  induction m with
  |nil=>intro i;rfl
  |cons e m ih =>
   intro i;obtain ⟨y,u⟩:=e;show findA P kt (ek z) ((ek y,ev u)::mE ek ev m) i=_
   rw[findA,h z y,lookM];by_cases hz:z=y
   ·subst hz;simp[hs]
   ·simp only[hz,decide_false,if_false];rw[natC_eq];exact ih (i+1)
 exact key m 0
theorem keyOk_flat {K:Type} [DecidableEq K] {P:Program}{kt:TypeId}{d:TypeDesc}{ek:K->Value}(hd:∀a n,d≠.array a n) (h:∀a b,Instr.sameNow d (ek a) (ek b)=some (decide (a=b))):KeyOk P kt d ek:=fun V ev z m=>by
 have key:∀(m:List (K×V)) (i:Nat),findO d (ek z) (mE ek ev m) i=some ((lookM z m i).map fun r=>(r.1,ev r.2)):=fun m=>by
  induction m with
  |nil=>intro i;rfl
  |cons e m ih =>
   intro i;obtain ⟨y,u⟩:=e;show findO d (ek z) ((ek y,ev u)::mE ek ev m) i=_
   rw[findO,h z y,lookM];by_cases hz:z=y
   ·subst hz;simp
   ·simp only[hz,decide_false,if_false];exact ih (i+1)
 have e:findC P kt d (ek z) (mE ek ev m)=findO d (ek z) (mE ek ev m) 0:=by
  unfold findC;split
  ·rename_i a n;exact absurd rfl (hd a n)
  ·rfl
 rw[e,key]
theorem KeyOk.none {K V:Type} [DecidableEq K] {P:Program}{kt:TypeId}{d:TypeDesc}{ek:K->Value}{ev:V->Value}(h:KeyOk P kt d ek) {z:K}{m:List (K×V)}(hz:z∉m.map (·.1)):findC P kt d (ek z) (mE ek ev m)=some none:=by
 rw[h V ev z m,lookM_none hz];rfl
theorem KeyOk.mid {K V:Type} [DecidableEq K] {P:Program}{kt:TypeId}{d:TypeDesc}{ek:K->Value}{ev:V->Value}(h:KeyOk P kt d ek) {z:K}{p q:List (K×V)}{u:V}(hz:z∉p.map (·.1)):findC P kt d (ek z) (mE ek ev (p++(z,u)::q))=some (some (p.length,ev u)):=by
 rw[h V ev z _,lookM_mid hz];simp
theorem nthN_range {n i:Nat}(h:i<n):nthN (List.range n) i=some i:=by
 rw[nthN_eq];simp[h]
theorem idxB_from {b:Nat}:∀(n c i:Nat),c≤b->b<c+n->idxB b (List.range' c n) i=some (i+(b-c))
 |0,c,i,h1,h2=>by omega
 |n+1,c,i,h1,h2=>by
  rw[List.range'_succ,idxB];split
  ·rename_i hb;have:=Nat.eq_of_beq_eq_true hb;rw[this];simp
  ·rename_i hb;have:=Nat.ne_of_beq_eq_false hb;rw[natC_eq,idxB_from n (c+1) (i+1) (by omega) (by omega)];congr 1;omega
theorem idxB_range {n b:Nat}(h:b<n):idxB b (List.range n) 0=some b:=by
 rw[List.range_eq_range',idxB_from n 0 0 (by omega) (by omega)];simp
theorem range_snoc (n:Nat):List.range n++[n]=List.range (n+1):=(List.range_succ ..).symm
theorem idxB_snoc (n:Nat):idxB n (List.range n++[n]) 0=some n:=by rw[range_snoc];exact idxB_range (by omega)
theorem nthP_at {K V:Type}{ek:K->Value}{ev:V->Value}{m:List (K×V)}{i:Nat}{z:K}{u:V}(h:m[i]?=some (z,u)):nthP (mE ek ev m) i=some (ek z,ev u):=by
 rw[nthP_eq];simp[mE,h]
theorem setP_mid {K V:Type}{ek:K->Value}{ev:V->Value}(p q:List (K×V)) (z:K) (u w:V):setL (mE ek ev (p++(z,u)::q)) p.length (ek z,ev w)=mE ek ev (p++(z,w)::q):=by
 rw[setL_eq];simp[mE]
theorem nthP_setP {l:List (Value×Value)}{n:Nat}{e:Value×Value}(h:n<l.length):nthP (setL l n e) n=some e:=by
 rw[nthP_eq,setL_eq];simp[h]
theorem setP_setP {l:List (Value×Value)}{n:Nat}{e e':Value×Value}:setL (setL l n e) n e'=setL l n e':=by
 rw[setL_eq,setL_eq,setL_eq];simp
theorem nthP_snoc {l:List (Value×Value)}{n:Nat}{e:Value×Value}(h:n=l.length):nthP (l++[e]) n=some e:=by
 rw[nthP_eq];simp[h]
theorem setP_snoc {l:List (Value×Value)}{n:Nat}{e e':Value×Value}(h:n=l.length):setL (l++[e]) n e'=l++[e']:=by
 rw[setL_eq];simp[h]
theorem bornB_range (n:Nat):bornB n n (List.range n)=true:=by
 simp[bornB]
theorem left_nil {seen:List Nat}{n:Nat}(h:leftI seen (List.range n) 0=[]):∀i,i<n->i∈seen:=fun i hi=>by
 by_cases hs:i∈seen
 ·exact hs
 ·have:=(leftI_mem (seen:=seen) (List.range n) 0 i).2 ⟨i,i,by omega,by simp[hi],hs⟩
  rw[h] at this;cases this
theorem left_in {seen:List Nat}{n i:Nat}(h:i∈leftI seen (List.range n) 0):i<n∧i∉seen:=by
 obtain ⟨j,b,e1,e2,e3⟩:=(leftI_mem (List.range n) 0 i).1 h;have hj:j<n:=by
  by_cases hj:j<n
  ·exact hj
  ·rw[List.getElem?_eq_none (by simp;omega)] at e2;cases e2
 have:b=j:=by
  simp[hj] at e2
  exact e2.symm
 subst this;exact ⟨by omega,by rw[show i=b by omega];exact e3⟩
theorem onV_p {α:Type}{x:Option α}{u:α}{k:α->Prop}(hx:x=some u) (h:k u):onV propX.toDom x k:=by rw[hx];exact h
theorem valB_int (k:IntKind) (n:Int):valB (.int k n) (.int k n)=true:=by simp[valB,valB1]
theorem exB_map {K V:Type}{ek:K->Value}{ev:V->Value}(hk:∀a,valB (ek a) (ek a)=true) (hv:∀a,valB (ev a) (ev a)=true) {es:List (Value×Value)}{m:List (K×V)}(he:es=mE ek ev m) {bs:List Nat}{cl:Nat}{c:Bool}(hc:c=true):(exB (some (.map es bs cl)) (.map es bs cl)&&c)=true:=by
 have key:∀m:List (K×V),entsB (mE ek ev m) (mE ek ev m)=true:=fun m=>by
  induction m with
  |nil=>rfl
  |cons e m ih =>
   show (valB (ek e.1) (ek e.1)&&valB (ev e.2) (ev e.2)&&entsB (mE ek ev m) (mE ek ev m))=true
   rw[hk,hv,ih];rfl
 subst he;show (entsB (mE ek ev m) (mE ek ev m)&&(decide (bs=bs)&&Nat.beq cl cl)&&c)=true
 rw[key,hc,decide_eq_true rfl,Nat.beq_refl];rfl
theorem RenB.mapE {n:Nat}{ρ:Ren}{es es':List (Value×Value)}{bs bs':List Nat}{cl cl':Nat}(he:es=es') (hb:bs=bs') (hc:cl=cl') (h:∀e∈es,NoNm e.2):RenB n ρ (.map es bs cl) (.map es' bs' cl'):=by
 subst he;subst hb;subst hc;exact .map _ _ _ h
theorem nodup_len:∀{n:Nat}{l:List Nat},l.Nodup->(∀i∈l,i<n)->l.length≤n
 |0,[],_,_=>Nat.le_refl _
 |0,x::l,_,h=>absurd (h x List.mem_cons_self) (Nat.not_lt_zero _)
 |n+1,l,hn,h=>by
  have h2:(l.erase n).length≤n:=nodup_len (hn.erase n) fun i hi=>by
   have h3:=(hn.mem_erase_iff).1 hi;have:=h i h3.2;omega
  by_cases hm:n∈l
  ·rw[List.length_erase_of_mem hm] at h2;omega
  ·rw[List.erase_of_not_mem hm] at h2;omega
theorem mk_cap {zs:List Value}{n:Nat}{b:Int}(h1:zs.all flat1=true) (h2:zs.all Value.oneCell'=true) (h3:0≤b∧b≤100) (hn:n≤500000):(zs.all flat1&&zs.all Value.oneCell'&&decide ((0:Int)≤0)&&decide ((0:Int)≤(n:Int))&&decide ((n:Int)*b≤140737488355328)&&decide ((n:Int)≤1000000))=true:=by
 have:(n:Int)*b≤500000*100:=Int.mul_le_mul (by omega) h3.2 h3.1 (by omega)
 simp only[h1,h2,Bool.and_eq_true,decide_eq_true_eq];refine ⟨⟨⟨⟨⟨trivial,trivial⟩,Int.le_refl _⟩,by omega⟩,by omega⟩,by omega⟩
theorem mk_full {zs:List Value}{n:Nat}{b:Int}(h1:zs.all flat1=true) (h2:zs.all Value.oneCell'=true) (h3:0≤b∧b≤100) (hn:n≤500000):(zs.all flat1&&zs.all Value.oneCell'&&decide ((0:Int)≤(n:Int))&&decide ((n:Int)≤(n:Int))&&decide ((n:Int)*b≤140737488355328)&&decide ((n:Int)≤1000000))=true:=by
 have:(n:Int)*b≤500000*100:=Int.mul_le_mul (by omega) h3.2 h3.1 (by omega)
 simp only[h1,h2,Bool.and_eq_true,decide_eq_true_eq];refine ⟨⟨⟨⟨⟨trivial,trivial⟩,by omega⟩,Int.le_refl _⟩,by omega⟩,by omega⟩
theorem CodeS.then_ {P:Program}{N:Nat}{a b:Code}{fr:Tr Value}{s:AS}{k:KontC Prop}(fr2:Tr Value) (s2:AS) (ha:CodeS P N a fr s fun e fr1 s1=>match e with | .normal=>Cov P N s.next fr1 s1 fr2 s2|e=>k e fr1 s1) (hb:CodeS P N b fr2 s2 k):CodeS P N (a.seq b) fr s k :=
 CodeS.seq ha fun e fr1 s1 h _=>by
  cases e<;>first
   |exact ⟨fr2,s2,h,hb⟩
   |exact h
end Go.Proofs.YtocppbocphnbcaaGreatDoor.U
namespace Go.Proofs.YtocppbocphnbcaaGreatDoor
open Go Go.RowKit Go.Sort U
set_option linter.unusedVariables false
set_option linter.unusedSimpArgs false
set_option maxRecDepth 100000
set_option maxHeartbeats 40000000
def arrOk (n:Int):Bool:=decide (1≤n)&&decide (n≤1024)
theorem arr_pos:∀{l:List Int},l.all arrOk=true->0≤l.sum
 |[],_=>by simp
 |x::l,h=>by
  simp only[List.all_cons,Bool.and_eq_true,arrOk,decide_eq_true_eq] at h;have:=arr_pos (l:=l) h.2;rw[List.sum_cons];omega
theorem arr_no (pre rest:List Int) (x:Int) (h:arrOk x=false):arrsB (pre++x::rest)=false:=by
 unfold arrsB;rw[show (fun n:Int=>decide (1≤n)&&decide (n≤1024))=arrOk from rfl,List.all_append,List.all_cons,h];simp
theorem arr_big (pre rest:List Int) (x:Int) (h:4096<(pre++[x]).sum):arrsB (pre++x::rest)=false:=by
 unfold arrsB;rw[show (fun n:Int=>decide (1≤n)&&decide (n≤1024))=arrOk from rfl,show pre++x::rest=(pre++[x])++rest by simp]
 by_cases hr:rest.all arrOk=true
 ·have:=arr_pos hr;have h2:¬((pre++[x])++rest).sum≤4096:=by rw[List.sum_append];omega
  rw[decide_eq_false h2,Bool.and_false]
 ·rw[List.all_append];simp[hr]
theorem rarr_d (l:List Int) (hl:l.length≤20):DenU Tryz.prog [] 55 [imS (iL l)] (.bool (arrsB l)):=by
 refine denU_of_body hmixU rfl Tryz.func55 rfl rfl rfl 0 ?_;intro Ts;(repeat' ((conv=>whnf);first|refine goD ?_|refine U.lw_c ?_ ?_<;>intro hb))
 (conv=>whnf);refine loop_inv (α:=List Int×List Int) (fun x=>x.1++x.2=l∧x.1.all arrOk=true∧x.1.sum≤4096) (fun x=>(mkF [(2,.bool false),(3,.int .i64 x.1.sum),(6,imS (iL l)),(7,.int .i64 (iL l).length),(8,.int .i64 x.1.length)],⟨mkO [],0,0,0⟩)) (fun x=>x.2.length) ([],l) ⟨rfl,rfl,by simp⟩ (Cov.slots (Nat.le_refl 0) ⟨rfl,rfl,rfl,rfl,rfl,trivial⟩) ?_
 rintro ⟨pre,rest⟩ ⟨p1,p2,p3⟩
 dsimp only at p1 p2 p3;subst p1;dsimp only;rcases rest with _|⟨x,rest⟩
 ·rw[List.append_nil];have zb:=U.lt_no iL_map pre;(repeat' ((conv=>whnf);first|refine goD ?_|refine U.lw_c ?_ ?_<;>intro hb))
  (conv=>whnf);exact .same (.flat _ rfl) (congrArg Value.bool (by unfold arrsB;rw[show (fun n:Int=>decide (1≤n)&&decide (n≤1024))=arrOk from rfl,p2,decide_eq_true p3];rfl))
 ·have zb:=U.lt_yes iL_map pre (x) rest;have zc:=U.blt_yes iL_map pre (x) rest;have zn:=U.nth_at iL_map pre (x) rest;have zw:=U.len_snoc (pre:=pre) (x:=x) (post:=rest) ((by simp at hl ⊢;omega))
  have hp:=arr_pos p2;(repeat' ((conv=>whnf);first|refine goD ?_|refine U.lw_c ?_ ?_<;>intro hb))
  all_goals (conv=>whnf)
  all_goals simp only[decide_eq_true_eq,decide_eq_false_iff_not] at *
  all_goals first
   |(refine .same (.flat _ rfl) (congrArg Value.bool (arr_no pre rest x ?_).symm);simp only[arrOk,Bool.and_eq_false_iff,decide_eq_false_iff_not];omega;done)
   |(have hx:IntKind.i64.wrap (pre.sum+x)=(pre++[x]).sum:=by rw[IntKind.wrap_i64,List.sum_append];simp;omega)
    rw[hx] at hb;first
     |(refine .same (.flat _ rfl) (congrArg Value.bool (arr_big pre rest x ?_).symm);omega;done)
     |(refine ⟨(pre++[x],rest),⟨by simp,?_,?_⟩,by simp,Cov.slots (s:=⟨mkO [],0,0,0⟩) (Nat.le_refl 0) ⟨rfl,congrArg (fun z=>some (Value.int .i64 z)) hx,rfl,rfl,congrArg (fun z=>some (Value.int .i64 z)) zw,trivial⟩⟩
       ·rw[List.all_append,p2];simp[arrOk];omega
       ·show (pre++[x]).sum≤4096;omega)
structure CntK {K:Type}(m:List (K×Int)) (s:List K):Prop where
 nd:(m.map (·.1)).Nodup
 iff:∀k,k∈m.map (·.1)↔k∈s
theorem CntK.nil {K:Type}:CntK ([]:List (K×Int)) []:=⟨by simp,by simp⟩
theorem CntK.new {K:Type}{m:List (K×Int)}{s:List K}(h:CntK m s) {z:K}{u:Int}(hz:z∉m.map (·.1)):CntK (m++[(z,u)]) (s++[z]):=by
 refine ⟨?_,fun k=>?_⟩
 ·rw[List.map_append,List.nodup_append];refine ⟨h.nd,by simp,?_⟩
  rintro a ha b hb rfl
  simp at hb
  subst hb;exact hz ha
 ·rw[List.map_append,List.mem_append,List.mem_append,h.iff];simp
theorem CntK.old {K:Type}{a b:List (K×Int)}{z:K}{u w:Int}{s:List K}(h:CntK (a++(z,u)::b) s):CntK (a++(z,w)::b) (s++[z]):=by
 have e:(a++(z,w)::b).map (·.1)=(a++(z,u)::b).map (·.1):=by simp
 refine ⟨by rw[e];exact h.nd,fun k=>?_⟩
 rw[e,h.iff,List.mem_append,List.mem_singleton];constructor
 ·exact .inl
 ·rintro (hk|rfl)
  ·exact hk
  ·exact (h.iff k).1 (by simp)
theorem nd_len {K:Type} [DecidableEq K]:∀{l s:List K},l.Nodup->(∀x∈l,x∈s)->l.length≤s.length
 |[],s,_,_=>Nat.zero_le _
 |a::l,s,h,hs=>by
  rw[List.nodup_cons] at h;have h1:=nd_len (l:=l) (s:=s.erase a) h.2 fun x hx=>(List.mem_erase_of_ne (by rintro rfl;exact h.1 hx)).2 (hs x (by simp[hx]))
  rw[List.length_erase_of_mem (hs a (by simp))] at h1;have:=List.length_pos_of_mem (hs a (by simp))
  rw[List.length_cons];omega
theorem nd_lt {K:Type} [DecidableEq K]:∀{s l:List K},l.Nodup->(∀x∈l,x∈s)->¬s.Nodup->l.length<s.length
 |[],l,_,_,h=>absurd List.nodup_nil h
 |a::s,l,hl,hs,h=>by
  rw[List.length_cons];by_cases ha:a∈s
  ·have:=nd_len (s:=s) hl fun x hx=>by
    rcases List.mem_cons.1 (hs x hx) with rfl|h
    ·exact ha
    ·exact h
   omega
  ·have h2:¬s.Nodup:=fun hn=>h (List.nodup_cons.2 ⟨ha,hn⟩)
   have h3:=nd_lt (s:=s) (l:=l.erase a) (hl.erase a) (fun x hx=>by
    have hx':=(hl.mem_erase_iff).1 hx;rcases List.mem_cons.1 (hs x hx'.2) with rfl|h
    ·exact absurd rfl hx'.1
    ·exact h) h2
   have:=List.length_erase (a:=a) (l:=l);split at this<;>omega
theorem CntK.len {K:Type} [DecidableEq K] {m:List (K×Int)}{s:List K}(h:CntK m s):m.length≤s.length∧(m.length=s.length↔s.Nodup):=by
 have h1:=nd_len h.nd fun k hk=>(h.iff k).1 hk
 rw[List.length_map] at h1;refine ⟨h1,fun e=>?_,fun e=>?_⟩
 ·by_cases hn:s.Nodup
  ·exact hn
  ·have:=nd_lt h.nd (fun k hk=>(h.iff k).1 hk) hn
   rw[List.length_map] at this;omega
 ·have:=nd_len e fun k hk=>(h.iff k).2 hk
  rw[List.length_map] at this;omega
end Go.Proofs.YtocppbocphnbcaaGreatDoor
namespace Go.Proofs.YtocppbocphnbcaaGreatDoor.U
open Go Go.RowKit Go.Sort
set_option linter.unusedVariables false
set_option linter.unusedSimpArgs false
set_option maxRecDepth 100000
set_option maxHeartbeats 40000000
theorem SoundAt.c {P:Program}{f:FuncId}{args:List Value}{s:AS}{k:Value->AS->Prop}(h:SoundC P f args s k):SoundAt P f args s k:=by
 refine ⟨fun hl W0 β W vs hR hf hv=>?_⟩
 obtain ⟨u,s',hk,hst,hc⟩:=h.out hl;refine (hc W0 β W vs hR hf.free hv).mono fun e w' ⟨v,he,β1,h1,h2,h3,h4⟩=>?_
 exact ⟨v,u,s',he,hk,hst.x,β1,.of h1 hf hst.next,h2,h3,h4⟩
theorem RenV.fnL {n:Nat}{ρ:Ren}{g:FuncId}{a a' b b':List Value}(h1:RenL n ρ a a') (h2:RenL n ρ b b'):RenV n ρ (.func (.func g) ⟨a⟩ ⟨b⟩) (.func (.func g) ⟨a'⟩ ⟨b'⟩):=by
 obtain ⟨e1,e2⟩:=h1.at_;obtain ⟨e3,e4⟩:=h2.at_;refine .fn g a a' b b' e1 e3 (fun i u v hu hv=>?_) fun i u v hu hv=>?_
 ·obtain ⟨w,q1,q2⟩:=e2 i u hu;rw[hv] at q1;cases q1;exact q2
 ·obtain ⟨w,q1,q2⟩:=e4 i u hu;rw[hv] at q1;cases q1;exact q2
end Go.Proofs.YtocppbocphnbcaaGreatDoor.U
