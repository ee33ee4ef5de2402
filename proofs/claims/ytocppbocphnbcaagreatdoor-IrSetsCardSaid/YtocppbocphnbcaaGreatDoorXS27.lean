
import Derived.Test.YtocppbocphnbcaaGreatDoorXS21
import Derived.Test.YtocppbocphnbcaaGreatDoorXS22
import Derived.Test.YtocppbocphnbcaaGreatDoorXS23
import Derived.Test.YtocppbocphnbcaaGreatDoorXS26
namespace Go.Proofs.YtocppbocphnbcaaGreatDoor.U
open Go Go.RowKit Go.Sort
set_option linter.unusedVariables false
set_option linter.unusedSimpArgs false
set_option maxRecDepth 100000
set_option maxHeartbeats 40000000
theorem SoundC.body {P:Program}(hm:P.follows .mixedOrders=true) {f:FuncId}{fn:Func}{c:Code}{args:List Value}{N:Nat}{rs:List ResultVar}{s:AS}{k:Value->AS->Prop}(hfn:P.funcs[f]?=some fn) (hb:fn.body=some c) (hN:args.length+(fn.ntmps-args.length)=N) (hrs:fn.results.toList=rs) (fuel:Nat)
  (h:codeC propD P (extC P) N fuel c (argsF args 0 .e) s fun e fr s=>match e with
   |.normal=>resC propD P fr s rs fun l=>k (retC l) s
   |.ret=>resC propD P fr s rs fun l=>k (retC l) s
   |_=>False):SoundC P f args s k:=by
 refine ⟨fun hl=>bodyC_sound (D:=propD) hm extC_ok fuel f args s k hl ?_⟩
 show bodyC propD P (extC P) fuel f args s k
 unfold bodyC;simp only[hfn,hb,argsC_eq,natC_eq,hN,hrs];exact h
theorem TellR.rowO {s:AS}{T:TypeId}{ys:List Value}(hy:∀x,x∈cellsAll ys->NoNm x) (hd:∀k,s.next≤k->s.heap.get k=none):TellR s (layB s (rowO T ys)) (rowS 0 ys) (rowS s.next ys) [rowO T ys] (sigA s.next 1) :=
 .one hd (.ofRow (Nat.lt_succ_self _) (by simp[sigA]) rfl) fun x hx=>⟨x,hx,by
  cases ys with
  |nil=>cases hx
  |cons y l=>cases hx;exact .row _ _ _ _ hy rfl⟩
theorem SoundC.rowI {P:Program}{f:FuncId}{args a:List Value}{Hi:List Blk}{T:TypeId}{ys:List Value}{s:AS}{k:Value->AS->Prop}(hD:DenI P f args Hi (rowS 0 ys) [rowO T ys]) (τ:Nat->Nat) (ha:RenL Hi.length ⟨τ,fun _ _=>False⟩ args a) (hi:∀k b,Hi[k]?=some b->∃b',s.heap.get (τ k)=some b'∧RenB Hi.length ⟨τ,fun _ _=>False⟩ b b') (hg:s.glb≤s.next) (hy:∀x,x∈cellsAll ys->NoNm x) (hk:rowK s (rowO T ys) ys k):SoundC P f a s k :=
 .tellI hD τ ha hi hg (layB_stp _) (TellR.rowO hy) (rowK_eq hk)
theorem FrzV.relO {P:Program}{s:AS}{W0 W:World}{β:Bt}{z':Nat->Nat->Option Value}(hR:Rel P W0 β s W) (h1:∀r o x,β.z r o=some x->z' r o=some x) (h2:∀k r sp o x,s.lo≤k->s.heap.get k≠none->β k=some (r,sp)->W.cell? ⟨r,o,none⟩=some x->z' r o=some x) {u y:Value}(h:FrzV P s u y):∀{v:Value},VR β u v->VR ⟨fun _=>none,z'⟩ y v:=by
 induction h with
 |clean u h=>intro v hv;exact (h.rel hv).growX ⟨fun k x hk=>(by cases hk),h1⟩
 |nil=>intro v hv;rw[hv.flat1_eq rfl];exact .imn
 |agg l m hl _ ih =>
  intro v hv;obtain ⟨l',e1,rfl⟩:=hv.agg_inv;refine .agg m l' (hl.symm.trans e1.1) fun i u v hu hv=>?_
  have hi:i<l.length:=by rw[hl];exact (List.getElem?_eq_some_iff.1 hu).1
  exact ih i l[i] u (List.getElem?_eq_getElem hi) hu (e1.2 i _ v (List.getElem?_eq_getElem hi) hv)
 |tup l m hl _ ih =>
  intro v hv;obtain ⟨l',e1,rfl⟩:=hv.tup_inv;refine .tup m l' (hl.symm.trans e1.1) fun i u v hu hv=>?_
  have hi:i<l.length:=by rw[hl];exact (List.getElem?_eq_some_iff.1 hu).1
  exact ih i l[i] u (List.getElem?_eq_getElem hi) hu (e1.2 i _ v (List.getElem?_eq_getElem hi) hv)
 |row k n c z T xs ys op hlo hk hz hn hc hl _ ih =>
  intro v hv;obtain ⟨r,sp,e1,rfl⟩:=hv.sl_inv;obtain ⟨cs,fz,g1,_,_,g4,g5,g6,g7,g8⟩:=(hR.blk k _ r sp hk e1).real;subst hn;have hge:=hR.ge k r sp (by rw[hk];simp) e1 hlo
  have hlen:((cs.toList.take xs.length).take (cellsAll ys).length).length=(cellsAll ys).length:=by
   have:=g5.1;rw[List.length_take,← this];omega
  have hat:∀(i:Nat) (w:Value),((cs.toList.take xs.length).take (cellsAll ys).length)[i]?=some w->(cs.toList.take xs.length)[i]?=some w:=fun i w hw=>by
   have hil:=(List.getElem?_eq_some_iff.1 hw).1;rwa [List.getElem?_take_of_lt (by rw[List.length_take] at hil;omega)] at hw
  refine .ims ys ((cs.toList.take xs.length).take (cellsAll ys).length) z r 0 (c+sp) hz (by omega) hlen (fun i w hw=>?_) (fun i y w hy hw=>?_) fun w hw=>g7 w (List.mem_of_mem_take hw)
  ·rw[Nat.zero_add];exact h2 k r sp i w hlo (by rw[hk];simp) e1 (g8 i w (hat i w hw))
  ·have hw':=hat i w hw;have hi:i<xs.length:=by
    have:=(List.getElem?_eq_some_iff.1 hw').1;rw[g5.1];exact this
   exact ih i xs[i] y (List.getElem?_eq_getElem hi) hy (g5.2 i _ w (List.getElem?_eq_getElem hi) hw')
 |box k T x xs op hlo hk hl _ ih =>
  intro v hv;obtain ⟨r,sp,e1,rfl⟩:=hv.ptr_inv;obtain ⟨cs,fz,g1,_,_,g4,g5,g6,g7,g8⟩:=(hR.blk k _ r sp hk e1).real;have hge:=hR.ge k r sp (by rw[hk];simp) e1 hlo
  refine .imp x (cs.toList.take xs.length) r 0 0 (g5.1.symm.trans hl.symm) (fun i w hw=>?_) (fun i y w hy hw=>?_) g7
  ·rw[Nat.zero_add];exact h2 k r sp i w hlo (by rw[hk];simp) e1 (g8 i w hw)
  ·have hi:i<xs.length:=by
    have:=(List.getElem?_eq_some_iff.1 hw).1;rw[g5.1];exact this
   exact ih i xs[i] y (List.getElem?_eq_getElem hi) hy (g5.2 i _ w (List.getElem?_eq_getElem hi) hw)
def stW (T:TypeId) (xs:List Value):AS:=⟨mkO [(0,some (.cells T xs false))],1,0,0⟩
def RetW (P:Program) (T:TypeId) (Q:Value->List Value->Prop) (u':Value) (s':AS):Prop :=
 ∃y ys,Q y ys∧s'.heap.get 0=some (.cells T ys false)∧(∀x∈ys,flat1 x=true)∧FrzV P ⟨s'.heap,s'.next,1,0⟩ u' y
structure DenW (P:Program) (f:FuncId) (args:List Value) (T:TypeId) (xs:List Value) (Q:Value->List Value->Prop):Prop where
 out:(∀x∈xs,flat1 x=true)∧SoundAt P f args (stW T xs) (RetW P T Q)
open Classical in
theorem SoundAt.wr {P:Program}{f:FuncId}{args0 args:List Value}{T:TypeId}{xs:List Value}{Q:Value->List Value->Prop}(hC:DenW P f args0 T xs Q) {s:AS}{b:Nat}(hb:s.heap.get b=some (.cells T xs false)) (hlo:s.lo=0) (hg:s.glb=0)
  (ha:RenL 1 ⟨fun _=>b,fun _ _=>False⟩ args0 args) {K:Value->AS->Prop}(hK:∀y ys,Q y ys->K y ⟨mkO [(b,some (.cells T ys false))],s.next,0,0⟩):SoundAt P f args s K:=by
 obtain ⟨hx,hC⟩:=hC.out;refine ⟨fun hl W0 β W vs hR hfa hv=>?_⟩
 have hlob:s.lo≤b:=by rw[hlo];exact Nat.zero_le _
 have hbn:s.heap.get b≠none:=by rw[hb];simp
 have hbl:b<s.next:=hR.dom b hbn;let β0:Bt:=⟨fun k=>match k with|0=>β b|_+1=>none,β.z⟩
 have e0:∀k x,β0 k=some x->k=0∧β b=some x:=fun k x hx=>by
  cases k with
  |zero=>exact ⟨rfl,hx⟩
  |succ k=>cases hx
 have hget:∀k c,(stW T xs).heap.get k=some c->k=0∧c=.cells T xs false:=fun k c h=>by
  have:=mkO_get h;rw[List.mem_singleton] at this;cases this;exact ⟨rfl,rfl⟩
 have hne:∀k,(stW T xs).heap.get k≠none->k=0:=fun k h=>by
  obtain ⟨c,hc⟩:=Option.ne_none_iff_exists'.1 h;exact (hget k c hc).1
 have hR0:Rel P W0 β0 (stW T xs) W:=by
  refine ⟨fun k c r sp hk hr=>?_,fun k k' r sp sp' _ hk hk' _ _=>by rw[hne k hk,hne k' hk'],fun k hk=>by rw[hne k hk];exact Nat.zero_lt_one,fun k r sp hr=>hR.lt b r sp (e0 k _ hr).2,fun k r sp hk hr _=>hR.ge b r sp hbn (e0 k _ hr).2 hlob,hR.below,fun g hg=>absurd hg (Nat.not_lt_zero g),fun r o v hv=>⟨(hR.frz r o v hv).1,fun k sp _ hk hr=>(hR.frz r o v hv).2 b sp hlob hbn (e0 k _ hr).2⟩⟩
  obtain ⟨rfl,rfl⟩:=hget k c hk;obtain ⟨cs,fz,g1,g2,g3,g4,g5⟩:=hR.blk b _ r sp hb (e0 0 _ hr).2;refine ⟨cs,fz,g1,fun _=>g2 hlob,g3,g4,fun i u hu=>?_⟩
  obtain ⟨q1,v,q2,q3⟩:=g5 i u hu;have hf:=hx u (List.mem_of_getElem? hu);exact ⟨q1,v,q2,by rw[q3.flat1_eq hf];exact .flat _ hf⟩
 have hv0:VRs β0 args0 vs:=by
  obtain ⟨q1,q2⟩:=ha.at_;refine ⟨q1.trans hv.1,fun i x v hx hv'=>?_⟩
  obtain ⟨y,q3,q4⟩:=q2 i x hx;exact q4.rel (β:=β) (β1:=β0) (fun _ _ _ h=>h) (fun _ _ _ h=>absurd h id) (fun k hk=>by
   obtain rfl:k=0:=by omega
   rfl) (hv.2 i y v q3 hv')
 have hf0:FreeA β0 1:=fun k hk=>by
  cases k with
  |zero=>exact absurd hk (by omega)
  |succ k=>rfl
 refine (hC.out zL W0 β0 W vs hR0 hf0 hv0).mono fun e w' ⟨v,u',s',he,⟨y,ys,hq,h0,hys,hfz⟩,hst,β',hx',hR',hv',hkd⟩=>?_
 have hlo':s'.lo=0:=hst.lo;have hb0:β' 0=β b:=(hx'.keep 0 Nat.zero_lt_one).trans rfl;have h0n:s'.heap.get 0≠none:=by rw[h0];simp
 have hl0:∀k,s'.lo≤k:=fun k=>by rw[hlo'];exact Nat.zero_le _
 let z2:Nat->Nat->Option Value:=fun r o=>match β'.z r o with
  |some x=>some x
  |none=>if W0.heap.size≤r∧(∀sp,β b≠some (r,sp)) then w'.cell? ⟨r,o,none⟩ else none
 have z2a:∀r o x,β'.z r o=some x->z2 r o=some x:=fun r o x h=>by
  show (match β'.z r o with|some x=>some x|none=>_)=_
  rw[h]
 have z2b:∀r o x,z2 r o=some x->w'.cell? ⟨r,o,none⟩=some x∧(∀sp,β b≠some (r,sp))∧(β'.z r o=some x∨W0.heap.size≤r):=fun r o x h=>by
  have h:(match β'.z r o with|some x=>some x|none=>if W0.heap.size≤r∧(∀sp,β b≠some (r,sp)) then w'.cell? ⟨r,o,none⟩ else none)=some x:=h
  cases hz:β'.z r o with
  |some y =>
   rw[hz] at h;cases h;exact ⟨(hR'.frz r o x hz).1,fun sp hr=>(hR'.frz r o x hz).2 0 sp (hl0 0) h0n (hb0.trans hr),.inl rfl⟩
  |none =>
   rw[hz] at h;dsimp only at h;split at h
   ·rename_i hc;exact ⟨h,hc.2,.inr hc.1⟩
   ·cases h
 have z2c:∀r o x,W0.heap.size≤r->(∀sp,β b≠some (r,sp))->w'.cell? ⟨r,o,none⟩=some x->z2 r o=some x:=fun r o x h1 h2 h3=>by
  cases hz:β'.z r o with
  |some y =>
   rw[(hR'.frz r o y hz).1] at h3;cases h3;exact z2a r o _ hz
  |none =>
   show (match β'.z r o with|some x=>some x|none=>if W0.heap.size≤r∧(∀sp,β b≠some (r,sp)) then w'.cell? ⟨r,o,none⟩ else none)=_
   rw[hz];dsimp only;rw[if_pos ⟨h1,h2⟩];exact h3
 have hR1:Rel P W0 β' ⟨s'.heap,s'.next,1,0⟩ w':=⟨fun k c r sp hk hr=>(hR'.blk k c r sp hk hr).sameX ⟨fun _ _ h=>h,fun _ _ _ h=>h⟩ (fun _=>hl0 k) rfl,fun k k' r sp sp' _=>hR'.inj k k' r sp sp' (hl0 k),hR'.dom,hR'.lt,fun k r sp hk hr _=>hR'.ge k r sp hk hr (hl0 k),hR'.below,fun g hg=>absurd hg (Nat.not_lt_zero g),fun r o v hv=>⟨(hR'.frz r o v hv).1,fun k sp _ hk hr=>(hR'.frz r o v hv).2 k sp (hl0 k) hk hr⟩⟩
 have hvy:VR ⟨fun _=>none,z2⟩ y v:=hfz.relO hR1 z2a (fun k r sp o x hk hkn hr hcell=>z2c r o x (hR'.ge k r sp hkn hr (hl0 k)) (fun sp' hr'=>by
  have:=hR'.inj k 0 r sp sp' (hl0 k) hkn h0n hr (hb0.trans hr');have hk:1≤k:=hk;omega) hcell) hv'
 have hget2:∀k c,(mkO [(b,some (Blk.cells T ys false))]).get k=some c->k=b∧c=.cells T ys false:=fun k c h=>by
  have:=mkO_get h;rw[List.mem_singleton] at this;cases this;exact ⟨rfl,rfl⟩
 have hne2:∀k,(mkO [(b,some (Blk.cells T ys false))]).get k≠none->k=b:=fun k h=>by
  obtain ⟨c,hc⟩:=Option.ne_none_iff_exists'.1 h;exact (hget2 k c hc).1
 refine ⟨v,y,⟨mkO [(b,some (.cells T ys false))],s.next,0,0⟩,he,hK y ys hq,⟨Nat.le_refl _,hlo.symm,hg.symm,fun k hk=>absurd hk (by rw[hlo];exact Nat.not_lt_zero k)⟩,⟨β.m,z2⟩,⟨fun _ _=>rfl,hfa,fun r o x hz=>z2a r o x (hx'.z.1 r o x hz),fun r o x hz=>by
  rcases (z2b r o x hz).2.2 with h|h
  ·exact hx'.z.2 r o x h
  ·exact .inr h⟩,⟨fun k c r sp hk hr=>?_,fun k k' r sp sp' _ hk hk' _ _=>by rw[hne2 k hk,hne2 k' hk'],fun k hk=>by rw[hne2 k hk];exact hbl,fun k r sp hr=>Nat.lt_of_lt_of_le (hR.lt k r sp hr) hkd.z,fun k r sp hk hr _=>by
   have:=hne2 k hk;subst this;exact hR.ge k r sp hbn hr hlob,hR'.below,fun g hg=>absurd hg (Nat.not_lt_zero g),fun r o x hz=>⟨(z2b r o x hz).1,fun k sp _ hk hr=>by
   have:=hne2 k hk;subst this;exact (z2b r o x hz).2.1 sp hr⟩⟩,?_,hkd⟩
 ·obtain ⟨rfl,rfl⟩:=hget2 k c hk;obtain ⟨cs,fz,g1,g2,g3,g4,g5⟩:=hR'.blk 0 _ r sp h0 (hb0.trans hr);refine ⟨cs,fz,g1,fun _=>g2 (hl0 0),g3,g4,fun i u hu=>?_⟩
  obtain ⟨q1,v,q2,q3⟩:=g5 i u hu;have hf:=hys u (List.mem_of_getElem? hu);exact ⟨q1,v,q2,by rw[q3.flat1_eq hf];exact .flat _ hf⟩
 ·exact VR.growX (β:=⟨fun _=>none,z2⟩) (β':=⟨β.m,z2⟩) ⟨fun k x hk=>(by cases hk),fun _ _ _ h=>h⟩ hvy
theorem CodeS.cond {P:Program}{N x:Nat}{a b:Code}{fr:Tr Value}{s:AS}{k:KontC Prop}(c:Bool) (hx:Tr.at (pt x) fr=some (.bool c)) (h:match c with|true=>CodeS P N a fr s k|false=>CodeS P N b fr s k):CodeS P N (.cond (.tmp x) a b) fr s k:=by
 intro F n W0 β a0 W Q hW hL hR hf hF hn;have hev:a0.eval (.tmp x)=.bool c:=by
  have:=(hF.at_ x _ hx).flat_eq rfl;simpa [Act.eval] using this
 cases c with
 |true=>exact wpIn_cond_true hev (h F n W0 β a0 W Q hW hL hR hf hF hn)
 |false=>exact wpIn_cond_false hev (h F n W0 β a0 W Q hW hL hR hf hF hn)
theorem SoundAt.bodyS {P:Program}{f:FuncId}{fn:Func}{c:Code}{args:List Value}{N:Nat}{rs:List ResultVar}{s:AS}{k:Value->AS->Prop}(hfn:P.funcs[f]?=some fn) (hbody:fn.body=some c) (hN:args.length+(fn.ntmps-args.length)=N) (hrs:fn.results.toList=rs)
  (h:CodeS P N c (argsF args 0 .e) s fun e fr s=>match e with
   |.normal=>resC propD P fr s rs fun l=>k (retC l) s
   |.ret=>resC propD P fr s rs fun l=>k (retC l) s
   |_=>False):SoundAt P f args s k:=by
 subst hN;subst hrs;refine ⟨fun hl W0 β W vs hR hf hv=>(callsIn_wide (n:=0)).1 (callsIn_of_wp_marks hfn hbody trivial ?_)⟩
 refine h Fence.wide 0 W0 β _ W _ (.inl rfl) (fun l hl=>by cases hl) hR hf (frR_start hv fn.ntmps) fun e fr' s' a' W' h1 hst ⟨β1,q1,q2,q3,q4,q5,q6⟩=>?_
 obtain ⟨l,e1,e2,e3⟩:=q6;have kd2:∀W'':World,W''.heap.size=W'.heap.size->(∀i,(∀d∈l,i≠d)->W''.heap[i]?=W'.heap[i]?)->W''.drawn=W'.drawn->KD W W'':=fun W'' p4 p5 p6=>by
  refine ⟨fun d hd=>?_,fun d L hd=>?_,by rw[p4];exact q5,by rw[p6];exact q4.n⟩
  ·rw[p5 d fun x hx e=>by
    have:=(e3 x hx).1;have:=(Array.getElem?_eq_some_iff.1 hd).1;omega]
   exact q4.d d hd
  ·rw[p5 d fun x hx e=>by
    have:=(e3 x hx).1;have:=(Array.getElem?_eq_some_iff.1 hd).1;omega]
   exact q4.l d L hd
 have fin:resC propD P fr' s' fn.results.toList (fun l=>k (retC l) s')->LeavesInM Fence.wide 0 P fn a'.tmps (fun e w'=>∃v u s',e=.returned v∧k u s'∧StpX s s'∧LaysX P W0 β W s s' u v w') a'.defers .returning W':=fun h=>by
  obtain ⟨us,h2,h3⟩:=resC_sound (D:=propD) (N:=args.length+(fn.ntmps-args.length)) _ _ h;rw[e1,List.append_nil];refine run_takes l W' e2 (fun d hd=>(e3 d hd).2) fun W'' p1 p2 p3 p4 p5 p6=>?_
  have hR2:=q2.takes (W':=W'') (l:=l) (fun d hd=>⟨Nat.le_trans hR.below.size (e3 d hd).1,(e3 d hd).2⟩) p1 p2 p3 p4 p5
  obtain ⟨ws,r1,r2⟩:=h3 W0 β1 a' W'' hR2 q3;exact ⟨_,run_results r2,retV ws,_,s',rfl,h2,hst,β1,q1,hR2,retC_rel r1,kd2 W'' p4 p5 p6⟩
 cases e with
 |normal=>exact fin h1
 |ret=>exact fin h1
 |_=>exact absurd h1 id
end Go.Proofs.YtocppbocphnbcaaGreatDoor.U
namespace Go.Proofs.YtocppbocphnbcaaGreatDoor
open Go Go.RowKit Go.Sort U
set_option linter.unusedVariables false
set_option linter.unusedSimpArgs false
set_option maxRecDepth 100000
set_option maxHeartbeats 40000000
theorem one_d (o:Int):DenU Tryz.prog [] 96 [.int .i64 o] (.bool (oneB o)):=by
 refine denU_of_body hmixU rfl Tryz.func96 rfl rfl rfl 0 ?_;intro Ts;(repeat' ((conv=>whnf);first|refine goD ?_|refine U.lw_c ?_ ?_<;>intro hb))
 all_goals (conv=>whnf)
 all_goals refine .same (.flat _ rfl) (congrArg Value.bool ?_)
 all_goals unfold oneB
 all_goals rw[hb]
 all_goals rfl
theorem encEs_len (l:List Ex):(encEs l).length=l.length:=by rw[encEs_map,List.length_map]
theorem isE_iff {α:Type}(l:List α):l.isEmpty=decide (l.length=0):=by cases l<;>simp
theorem standsE_d (p:Pg) (e:Ex):DenU Tryz.prog [] 81 [encP p,encE e] (.bool (ownE p.slots p.arrs.length e)):=by
 refine denU_of_body hmixU rfl Tryz.func81 rfl rfl rfl 0 ?_;intro Ts;obtain ⟨k,n,a,o,l⟩:=e;obtain ⟨sl,arrs,ins,procs,main⟩:=p;have h1:=one_d o;have hl:=encEs_len l;have ha:=iL_len arrs;obtain ⟨q,hq⟩:∃q,oneB o=q:=⟨_,rfl⟩
 rw[hq] at h1;dsimp only;obtain ⟨b,hr⟩:∃b,b=ownE sl arrs.length (.mk k n a o l):=⟨_,rfl⟩
 rw[← hr];simp only[ownE,hq,isE_iff] at hr;rcases (by omega:k=0∨k=1∨k=2∨k=3∨k=4∨(¬k=0∧¬k=1∧¬k=2∧¬k=3∧¬k=4)) with rfl|rfl|rfl|rfl|rfl|⟨k0,k1,k2,k3,k4⟩
 ·(repeat' ((conv=>whnf);first|refine goD ?_|refine ⟨_,h1,clM,tab0 _,?_⟩|refine U.lw_c ?_ ?_<;>intro hb))
  all_goals (conv=>whnf)
  all_goals refine .same (.flat _ rfl) (congrArg Value.bool ?_)
  all_goals (clear h1;first|grind|(subst hr;simp at *;grind)|skip)
 ·(repeat' ((conv=>whnf);first|refine goD ?_|refine ⟨_,h1,clM,tab0 _,?_⟩|refine U.lw_c ?_ ?_<;>intro hb))
  all_goals (conv=>whnf)
  all_goals refine .same (.flat _ rfl) (congrArg Value.bool ?_)
  all_goals (clear h1;first|grind|(subst hr;simp at *;grind)|skip)
 ·(repeat' ((conv=>whnf);first|refine goD ?_|refine ⟨_,h1,clM,tab0 _,?_⟩|refine U.drawX_p (D:=U.propX) 5 [] (by decide +kernel) (by decide +kernel) ?_|refine U.lw_c ?_ ?_<;>intro hb))
  all_goals (conv=>whnf)
  all_goals refine .same (.flat _ rfl) (congrArg Value.bool ?_)
  all_goals (clear h1;first|grind|(subst hr;simp at *;grind)|skip)
 ·(repeat' ((conv=>whnf);first|refine goD ?_|refine ⟨_,h1,clM,tab0 _,?_⟩|refine U.lw_c ?_ ?_<;>intro hb))
  all_goals (conv=>whnf)
  all_goals refine .same (.flat _ rfl) (congrArg Value.bool ?_)
  all_goals (clear h1;first|grind|(subst hr;simp at *;grind)|skip)
 ·(repeat' ((conv=>whnf);first|refine goD ?_|refine ⟨_,h1,clM,tab0 _,?_⟩|refine U.lw_c ?_ ?_<;>intro hb))
  all_goals (conv=>whnf)
  all_goals refine .same (.flat _ rfl) (congrArg Value.bool ?_)
  all_goals (clear h1;first|grind|(subst hr;simp at *;grind)|skip)
 ·have g0:(k==0)=false:=by simpa using k0
  have g1:(k==1)=false:=by simpa using k1
  have g2:(k==2)=false:=by simpa using k2
  have g3:(k==3)=false:=by simpa using k3
  have g4:(k==4)=false:=by simpa using k4
  (repeat' ((conv=>whnf);first|refine goD ?_|refine ⟨_,h1,clM,tab0 _,?_⟩|refine U.lw_c ?_ ?_<;>intro hb))
  all_goals (conv=>whnf)
  all_goals refine .same (.flat _ rfl) (congrArg Value.bool ?_)
  all_goals (clear h1;first|grind|(subst hr;simp at *;grind)|skip)
def yl (l:Nat):Value:=.func (.yield l) ⟨[]⟩ ⟨[]⟩
theorem eachq_d (es:List Ex) (hes:es.length≤maxI) (ih:∀k n a o m,Ex.mk k n a o m∈es->IterQ Tryz.prog 67 [imS (encEs m),yl 0] (encEs (postEs m)) (.bool true) (.bool false)):IterQ Tryz.prog 67 [imS (encEs es),yl 0] (encEs (postEs es)) (.bool true) (.bool false):=by
 refine IterQ.body rfl rfl Tryz.func67 rfl rfl rfl ?_;refine IterU.seq (IterU.pure hmixU ?_);(repeat' ((conv=>whnf);first|refine goD ?_|refine U.lw_c ?_ ?_<;>intro hb))
 refine ⟨mkF [(0,imS (encEs es)),(1,yl 0),(4,.bool false)],.sl0 ⟨rfl,rfl,rfl,trivial⟩,?_⟩;refine IterU.seq (IterU.seq (IterU.pure hmixU ?_));(repeat' ((conv=>whnf);first|refine goD ?_|refine U.lw_c ?_ ?_<;>intro hb))
 refine ⟨mkF [(1,yl 0),(4,.bool false),(7,imS (encEs es)),(8,.int .i64 (encEs es).length),(9,.int .i64 0)],.sl0 ⟨rfl,rfl,rfl,rfl,rfl,trivial⟩,?_⟩;refine IterU.block (IterU.loop (α:=List Ex×List Ex) (fun x=>x.1++x.2=es) (fun x=>(mkF [(1,yl 0),(4,.bool false),(7,imS (encEs es)),(8,.int .i64 (encEs es).length),(9,.int .i64 x.1.length)],some (encEs (postEs x.2)))) (fun x=>x.2.length) ([],es) rfl rfl ?_)
 rintro ⟨pre,rest⟩ h1
 dsimp only at h1 ⊢;rcases rest with _|⟨⟨k,n,a,o,m⟩,post⟩
 ·rw[List.append_nil] at h1;subst h1;have zb:=U.lt_no encEs_map pre;refine IterU.pure hmixU ?_;(repeat' ((conv=>whnf);first|refine goD ?_|refine U.lw_c ?_ ?_<;>intro hb))
  (conv=>whnf);refine ⟨mkF [],.sl0 trivial,IterU.pure hmixU ?_⟩;(repeat' ((conv=>whnf);first|refine goD ?_|refine U.lw_c ?_ ?_<;>intro hb))
  exact ⟨mkF [(4,.bool true)],.sl0 ⟨rfl,trivial⟩,.inl rfl,fun _=>rfl,fun h=>by cases h⟩
 ·subst h1;have zb:=U.lt_yes encEs_map pre (Ex.mk k n a o m) post;have zc:=U.blt_yes encEs_map pre (Ex.mk k n a o m) post;have zn:=U.nth_at encEs_map pre (Ex.mk k n a o m) post;have zw:=U.len_snoc (pre:=pre) (x:=Ex.mk k n a o m) (post:=post) (hes)
  rw[show encEs (postEs (.mk k n a o m::post))=encEs (postEs m)++(encE (.mk k n a o m)::encEs (postEs post)) by
   rw[postEs,postE,encEs_map,encEs_map,encEs_map,List.map_append,List.map_append,List.append_assoc];rfl]
  refine IterU.seq (IterU.pure hmixU ?_);(repeat' ((conv=>whnf);first|refine goD ?_|refine U.lw_c ?_ ?_<;>intro hb))
  refine ⟨mkF [(1,yl 0),(4,.bool false),(7,imS (encEs (pre++.mk k n a o m::post))),(8,.int .i64 (encEs (pre++.mk k n a o m::post)).length),(9,.int .i64 pre.length),(10,.bool true)],.sl0 ⟨rfl,rfl,rfl,rfl,rfl,congrArg (fun b=>some (Value.bool b)) zb,trivial⟩,?_⟩
  refine IterU.seq (IterU.pure hmixU ?_);(repeat' ((conv=>whnf);first|refine goD ?_|refine U.lw_c ?_ ?_<;>intro hb))
  refine ⟨mkF [(1,yl 0),(4,.bool false),(7,imS (encEs (pre++.mk k n a o m::post))),(8,.int .i64 (encEs (pre++.mk k n a o m::post)).length),(9,.int .i64 pre.length)],.sl0 ⟨rfl,rfl,rfl,rfl,rfl,trivial⟩,?_⟩
  refine IterU.seq (IterU.block (IterU.seq (IterU.pure hmixU ?_)));(repeat' ((conv=>whnf);first|refine goD ?_|refine U.lw_c ?_ ?_<;>intro hb))
  refine ⟨mkF [(1,yl 0),(4,.bool false),(6,imP (encE (.mk k n a o m)) 0),(7,imS (encEs (pre++.mk k n a o m::post))),(8,.int .i64 (encEs (pre++.mk k n a o m::post)).length),(9,.int .i64 pre.length)],.box1 (T:=60) (x:=encE (.mk k n a o m)) (xs:=[.int .i64 k,.int .i64 n,.int .i64 a,.int .i64 o,imS (encEs m)]) rfl rfl rfl rfl (by simp) (cleanE_cells (.mk k n a o m))
     (.cons rfl (.yld 0 0 (by decide) rfl) (.K rfl rfl rfl (.cons rfl (.ext _ _ ⟨rfl,rfl⟩) (.L rfl (cleanEs _) rfl (.cons rfl .I (.cons rfl .I .nil)))))),?_⟩
  refine IterU.seq (IterU.region (OpsU.cut 3 ?_));(repeat' ((conv=>whnf);first|refine goD ?_|refine U.lw_c ?_ ?_<;>intro hb))
  refine ⟨mkF [(1,yl 0),(4,.bool false),(6,imP (encE (.mk k n a o m)) 0),(7,imS (encEs (pre++.mk k n a o m::post))),(8,.int .i64 (encEs (pre++.mk k n a o m::post)).length),(9,.int .i64 pre.length),(14,imS (encEs m)),(15,yl 0)],.sl0 ⟨rfl,rfl,rfl,rfl,rfl,rfl,rfl,rfl,trivial⟩,?_⟩
  refine OpsU.call rfl rfl rfl rfl rfl rfl (by decide +kernel) rfl (ih k n a o m (by simp)) ?_ ?_
  rotate_left
  ·(conv=>whnf);refine U.ob_c rfl ?_;(conv=>whnf);refine OpsU.cut 7 ?_;(repeat' ((conv=>whnf);first|refine goD ?_|refine U.lw_c ?_ ?_<;>intro hb))
   refine ⟨mkF [(23,.bool true)],.sl0 ⟨rfl,trivial⟩,OpsU.nil ?_⟩;refine IterU.pure hmixU ?_;(repeat' ((conv=>whnf);first|refine goD ?_|refine U.lw_c ?_ ?_<;>intro hb))
   exact ⟨mkF [(4,.bool false)],.sl0 ⟨rfl,trivial⟩,.inr rfl,(fun h=>by cases h),fun _=>rfl⟩
  (conv=>whnf);refine U.ob_c rfl ?_;(conv=>whnf);refine OpsU.cut 4 ?_;(repeat' ((conv=>whnf);first|refine goD ?_|refine U.lw_c ?_ ?_<;>intro hb))
  refine ⟨mkF [(1,yl 0),(4,.bool false),(6,imP (encE (.mk k n a o m)) 0),(7,imS (encEs (pre++.mk k n a o m::post))),(8,.int .i64 (encEs (pre++.mk k n a o m::post)).length),(9,.int .i64 pre.length),(18,.bool false),(19,yl 0),(20,encE (.mk k n a o m))],.sl0 ⟨rfl,rfl,rfl,rfl,rfl,rfl,rfl,rfl,rfl,trivial⟩,?_⟩
  refine OpsU.round rfl rfl rfl rfl rfl (cleanE _) ?_ ?_;rotate_left
  ·(conv=>whnf);refine U.ob_c rfl ?_;(conv=>whnf);refine OpsU.cut 2 ?_;(repeat' ((conv=>whnf);first|refine goD ?_|refine U.lw_c ?_ ?_<;>intro hb))
   refine ⟨mkF [(23,.bool true)],.sl0 ⟨rfl,trivial⟩,OpsU.nil ?_⟩;refine IterU.pure hmixU ?_;(repeat' ((conv=>whnf);first|refine goD ?_|refine U.lw_c ?_ ?_<;>intro hb))
   exact ⟨mkF [(4,.bool false)],.sl0 ⟨rfl,trivial⟩,.inr rfl,(fun h=>by cases h),fun _=>rfl⟩
  (conv=>whnf);refine U.ob_c rfl ?_;(conv=>whnf);refine OpsU.cut 2 ?_;(repeat' ((conv=>whnf);first|refine goD ?_|refine U.lw_c ?_ ?_<;>intro hb))
  refine ⟨mkF [(1,yl 0),(4,.bool false),(7,imS (encEs (pre++.mk k n a o m::post))),(8,.int .i64 (encEs (pre++.mk k n a o m::post)).length),(9,.int .i64 pre.length),(23,.bool false)],.sl0 ⟨rfl,rfl,rfl,rfl,rfl,rfl,trivial⟩,OpsU.nil ?_⟩
  refine IterU.pure hmixU ?_;(repeat' ((conv=>whnf);first|refine goD ?_|refine U.lw_c ?_ ?_<;>intro hb))
  refine ⟨mkF [(1,yl 0),(4,.bool false),(7,imS (encEs (pre++.mk k n a o m::post))),(8,.int .i64 (encEs (pre++.mk k n a o m::post)).length),(9,.int .i64 pre.length)],.sl0 ⟨rfl,rfl,rfl,rfl,rfl,trivial⟩,IterU.pure hmixU ?_⟩
  (repeat' ((conv=>whnf);first|refine goD ?_|refine U.lw_c ?_ ?_<;>intro hb))
  refine ⟨mkF [(1,yl 0),(4,.bool false),(7,imS (encEs (pre++.mk k n a o m::post))),(8,.int .i64 (encEs (pre++.mk k n a o m::post)).length),(9,.int .i64 (pre++[Ex.mk k n a o m]).length)],.sl0 ?_,(pre++[.mk k n a o m],post),by simp,by simp,rfl⟩
  exact ⟨rfl,rfl,rfl,rfl,congrArg (fun z=>some (Value.int .i64 z)) zw,trivial⟩
theorem eachq_all:∀(N:Nat) (es:List Ex),szEs es≤N->szEs es≤1000->IterQ Tryz.prog 67 [imS (encEs es),yl 0] (encEs (postEs es)) (.bool true) (.bool false)
 |0,es,h0,h1=>eachq_d es (Nat.le_trans (Nat.le_trans (szEs_len es) h1) (by decide)) fun k n a o m hm=>by
  have:=szEs_mem hm;have:=szE_pos (.mk k n a o m);omega
 |N+1,es,h0,h1=>eachq_d es (Nat.le_trans (Nat.le_trans (szEs_len es) h1) (by decide)) fun k n a o m hm=>by
  have:=szEs_mem hm;rw[szE] at this;exact eachq_all N m (by omega) (by omega)
theorem exprs_q (es:List Ex) (hes:szEs es≤1000):IterQ Tryz.prog 66 [yl 0,imP (imS (encEs es)) 0] (encEs (postEs es)) undef undef:=by
 refine IterQ.body rfl rfl Tryz.func66 rfl rfl rfl ?_;have e:encEs (postEs es)=encEs (postEs es)++[]:=(List.append_nil _).symm;rw[e];refine IterU.region (OpsU.cut 2 ?_);(repeat' ((conv=>whnf);first|refine goD ?_|refine U.lw_c ?_ ?_<;>intro hb))
 refine ⟨mkF [(3,imS (encEs es)),(4,yl 0)],.sl0 ⟨rfl,rfl,trivial⟩,?_⟩;refine OpsU.call rfl rfl rfl rfl rfl rfl (by decide +kernel) rfl (eachq_all 1000 es hes hes) ?_ ?_
 all_goals (conv=>whnf)
 all_goals refine U.ob_c rfl ?_
 all_goals (conv=>whnf)
 ·exact OpsU.nil ⟨.inl rfl,(fun _=>rfl),fun h=>by cases h⟩
 ·exact OpsU.nil ⟨.inr rfl,(fun h=>by cases h),fun _=>rfl⟩
end Go.Proofs.YtocppbocphnbcaaGreatDoor
