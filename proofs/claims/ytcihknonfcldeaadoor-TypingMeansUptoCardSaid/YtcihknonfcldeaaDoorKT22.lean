
import Derived.Test.YtcihknonfcldeaaDoorKT21
namespace Go.Proofs.YtcihknonfcldeaaDoor.U
open Go Go.RowKit Go.Sort
set_option linter.unusedVariables false
set_option linter.unusedSimpArgs false
set_option maxRecDepth 100000
set_option maxHeartbeats 40000000
def gTr:Nat->List (Option Blk)->Tr Blk
 |_,[]=>.e
 |i,b::l=>Tr.put b (ptF i i) (gTr (i+1) l)
theorem gTr_at (k:Nat):∀(l:List (Option Blk)) (i:Nat),Tr.at (ptF k k) (gTr i l)=if i≤k then (l[k-i]?).join else none
 |[],i=>by rw[gTr,Tr.at_e];simp
 |b::l,i=>by
  rw[gTr];by_cases h:k=i
  ·subst h;rw[Tr.at_same,if_pos rL,Nat.sub_self];rfl
  ·rw[Tr.at_other _ _ _ _ fun e=>h (ptF_inj k i k i rL rL e),gTr_at k l (i+1)];by_cases h2:i≤k
   ·rw[if_pos (by omega),if_pos h2];obtain ⟨d,rfl⟩:∃d,k=i+1+d:=⟨k-(i+1),by omega⟩
    rw[show i+1+d-(i+1)=d by omega,show i+1+d-i=d+1 by omega,List.getElem?_cons_succ]
   ·rw[if_neg (by omega),if_neg h2]
def base1 (l:List (Option Blk)):Tr Blk:=.n .e none (.n (gTr 256 l) none .e)
def base2 (l:List (Option Blk)):Tr Blk:=.n .e none (.n .e none (.n .e none (.n .e none (.n (gTr 65792 l) none .e))))
theorem base1_get {l:List (Option Blk)}(hl:l.length≤65280) {k:Nat}{b:Blk}(h:(base1 l).get k=some b):∃j,k=257+j∧j<l.length∧l[j]?=some (some b):=by
 unfold Tr.get at h;by_cases h1:257≤k∧k≤65536
 ·rw[pt_g1 h1.1 h1.2] at h;replace h:Tr.at (ptF (k-1) (k-1)) (gTr 256 l)=some b:=h
  rw[gTr_at,if_pos (by omega)] at h;cases hx:l[k-1-256]? with
  |none=>rw[hx] at h;cases h
  |some y =>
   rw[hx] at h;have h:y=some b:=h;subst h;have:=(List.getElem?_eq_some_iff.1 hx).1;exact ⟨k-1-256,by omega,this,hx⟩
 ·exfalso
  cases k with
  |zero=>simp[pt,base1,Tr.at,Tr.at_e] at h
  |succ m =>
   simp only[pt] at h;repeat' split at h
   all_goals first
    |(generalize ptB 8 _=q at h;simp[base1,Tr.at,Tr.at_e] at h;done)
    |(generalize ptF _ _=q at h;simp[base1,Tr.at,Tr.at_e] at h;done)
    |(clear h
      simp only[← Bool.not_eq_true,Nat.ble_eq] at *;omega)
theorem base2_get {l:List (Option Blk)}(hl:l.length≤65280) {k:Nat}{b:Blk}(h:(base2 l).get k=some b):∃j,k=65793+j∧j<l.length∧l[j]?=some (some b):=by
 have hp:∀q,pt k=.r (.r (.r (.r (.l q))))->q=ptF (k-1) (k-1)∧65793≤k:=fun q hq=>by
  cases k with
  |zero=>simp[pt] at hq
  |succ m =>
   simp only[pt] at hq;repeat' split at hq
   all_goals simp only[Pt.l.injEq,Pt.r.injEq,reduceCtorEq] at hq
   subst hq;rename_i h1 _ h2 _ h3 _ h4;exact ⟨rfl,by
    have h3:¬m≤65791:=fun hle=>by rw[bLe hle] at h3;cases h3
    omega⟩
 have h:Tr.at (pt k) (base2 l)=some b:=h
 generalize pt k=p at h hp
 unfold base2 at h;rcases p with _|q|q
 ·cases h
 ·rw[Tr.at,Tr.at_e] at h;cases h
 rcases q with _|q|q
 ·cases h
 ·simp only[Tr.at,Tr.at_e] at h;cases h
 rcases q with _|q|q
 ·cases h
 ·simp only[Tr.at,Tr.at_e] at h;cases h
 rcases q with _|q|q
 ·cases h
 ·simp only[Tr.at,Tr.at_e] at h;cases h
 rcases q with _|q|q
 ·cases h
 ·obtain ⟨rfl,h1⟩:=hp q rfl;simp only[Tr.at] at h;rw[gTr_at] at h;split at h
  ·cases hx:l[k-1-65792]? with
   |none=>rw[hx] at h;cases h
   |some y =>
    rw[hx] at h;have h:y=some b:=h;subst h;exact ⟨k-1-65792,by omega,(List.getElem?_eq_some_iff.1 hx).1,hx⟩
  ·cases h
 ·simp only[Tr.at,Tr.at_e] at h;cases h
def mkOB (b:Tr Blk):List (Nat×Option Blk)->Tr Blk
 |[]=>b
 |x::l=>(mkOB b l).set x.1 x.2
theorem mkOB_get {t:Tr Blk}:∀{l:List (Nat×Option Blk)}{k:Nat}{b:Blk},(mkOB t l).get k=some b->(k,some b)∈l∨t.get k=some b
 |[],k,b,h=>.inr h
 |x::l,k,b,h=>by
  rw[mkOB,Tr.get_set] at h;split at h
  ·rename_i hk;subst hk;have:x=(x.1,some b):=by rw[← h]
   rw[← this];exact .inl (List.mem_cons_self ..)
  ·rcases mkOB_get h with h|h
   ·exact .inl (List.mem_cons_of_mem _ h)
   ·exact .inr h
theorem grow_ok {m b:Nat}(hb:b≤1000) (hm:m≤100000):((m*b).ble 140737488355328&&m.ble 1000000)=true:=by
 have h1:m*b≤100000*1000:=Nat.mul_le_mul hm hb;rw[bLe (by omega),bLe (by omega)];rfl
theorem RenV.conv {n m:Nat}{ρ:Nat->Nat}{u v:Value}(h:RenV m ⟨fun k=>k,fun _ _=>False⟩ u v) (hm:m≤n) (hρ:∀k,k<m->ρ k=k):RenV n ⟨ρ,fun _ _=>False⟩ u v:=by
 induction h with
 |agg l m hl _ ih=>exact .agg l m hl ih
 |tup l m hl _ ih=>exact .tup l m hl ih
 |ext _ _ h=>exact absurd h id
 |clean _ _ h e=>exact .clean _ _ h e
 |ptr k k' off hk e=>exact .ptr k k' off (by omega) ((hρ k hk).trans e)
 |sl k k' off m m' c c' hk e e2 e3=>exact .sl k k' off m m' c c' (by omega) ((hρ k hk).trans e) e2 e3
 |yld k k' hk e=>exact .yld k k' (by omega) ((hρ k hk).trans e)
 |mp k k' hk e=>exact .mp k k' (by omega) ((hρ k hk).trans e)
 |ifc t u v _ ih=>exact .ifc t u v ih
 |fn g a a' b b' ha hb _ _ i1 i2=>exact .fn g a a' b b' ha hb i1 i2
theorem slotsRen.conv {fr:Tr Value}{n m:Nat}{ρ:Nat->Nat}(hm:m≤n) (hρ:∀k,k<m->ρ k=k):∀{l:List (Nat×Value)},slotsRen fr m ⟨fun k=>k,fun _ _=>False⟩ l->slotsRen fr n ⟨ρ,fun _ _=>False⟩ l
 |[],_=>trivial
 |x::l,h=>⟨let ⟨u,h1,h2⟩:=h.1;⟨u,h1,h2.conv hm hρ⟩,slotsRen.conv hm hρ h.2⟩
theorem FrzV.relAll {P:Program}{s0 s:AS}(e:s0.heap=s.heap) {W0 W:World}{β:Bt}{z':Nat->Nat->Option Value}(hR:Rel P W0 β s W) (h1:∀r o x,β.z r o=some x->z' r o=some x) (h2:∀r o x,fzc W ⟨r,o,none⟩=some x->z' r o=some x) {u y:Value}(h:FrzV P s0 u y):∀{v:Value},VR β u v->VR ⟨fun _=>none,z'⟩ y v:=by
 induction h with
 |clean u h=>intro v hv;exact (h.rel hv).growX ⟨fun k x hk=>(by cases hk),h1⟩
 |nil=>intro v hv;rw[hv.flat1_eq rfl];exact .imn
 |agg l m hl _ ih =>
  intro v hv;obtain ⟨l',e1,rfl⟩:=hv.agg_inv;refine .agg m l' (hl.symm.trans e1.1) fun i u v hu hv=>?_
  have hi:i<l.length:=by rw[hl];exact (List.getElem?_eq_some_iff.1 hu).1
  exact ih i l[i] u (List.getElem?_eq_getElem hi) hu (e1.2 i _ v (List.getElem?_eq_getElem hi) hv)
 |tup l m hl _ ih =>
  intro v hv;obtain ⟨l',e1,rfl⟩:=hv.tup_inv;refine .tup m l' (hl.symm.trans e1.1) fun i u v hu hv=>?_
  have hi:i<l.length:=by rw[hl];exact (List.getElem?_eq_some_iff.1 hu).1
  exact ih i l[i] u (List.getElem?_eq_getElem hi) hu (e1.2 i _ v (List.getElem?_eq_getElem hi) hv)
 |row k n c z T xs ys op hlo hk hz hn hc hl _ ih =>
  intro v hv;obtain ⟨r,sp,e1,rfl⟩:=hv.sl_inv;rw[e] at hk;obtain ⟨cs,fz,g1,_,_,g4,g5,g6,g7,g8⟩:=(hR.blk k _ r sp hk e1).real;subst hn;have hlen:((cs.toList.take xs.length).take (cellsAll ys).length).length=(cellsAll ys).length:=by
   have:=g5.1;rw[List.length_take,← this];omega
  have hat:∀(i:Nat) (w:Value),((cs.toList.take xs.length).take (cellsAll ys).length)[i]?=some w->(cs.toList.take xs.length)[i]?=some w:=fun i w hw=>by
   have hil:=(List.getElem?_eq_some_iff.1 hw).1;rwa [List.getElem?_take_of_lt (by rw[List.length_take] at hil;omega)] at hw
  refine .ims ys ((cs.toList.take xs.length).take (cellsAll ys).length) z r 0 (c+sp) hz (by omega) hlen (fun i w hw=>?_) (fun i y w hy hw=>?_) fun w hw=>g7 w (List.mem_of_mem_take hw)
  ·rw[Nat.zero_add];exact h2 r i w (cell_fzc (g8 i w (hat i w hw)) (g7 w (List.mem_of_mem_take (List.mem_of_getElem? hw))))
  ·have hw':=hat i w hw;have hi:i<xs.length:=by
    have:=(List.getElem?_eq_some_iff.1 hw').1;rw[g5.1];exact this
   exact ih i xs[i] y (List.getElem?_eq_getElem hi) hy (g5.2 i _ w (List.getElem?_eq_getElem hi) hw')
 |box k T x xs op hlo hk hl _ ih =>
  intro v hv;obtain ⟨r,sp,e1,rfl⟩:=hv.ptr_inv;rw[e] at hk;obtain ⟨cs,fz,g1,_,_,g4,g5,g6,g7,g8⟩:=(hR.blk k _ r sp hk e1).real;refine .imp x (cs.toList.take xs.length) r 0 0 (g5.1.symm.trans hl.symm) (fun i w hw=>?_) (fun i y w hy hw=>?_) g7
  ·rw[Nat.zero_add];exact h2 r i w (cell_fzc (g8 i w hw) (g7 w (List.mem_of_getElem? hw)))
  ·have hi:i<xs.length:=by
    have:=(List.getElem?_eq_some_iff.1 hw).1;rw[g5.1];exact this
   exact ih i xs[i] y (List.getElem?_eq_getElem hi) hy (g5.2 i _ w (List.getElem?_eq_getElem hi) hw)
 |mapF k es bs cl hlo hk hf =>
  intro v hv;obtain ⟨r,sp,e1,rfl⟩:=hv.map_inv;rw[e] at hk;obtain ⟨es',cl',g1,g2,g3,_⟩:=hR.blk k _ r sp hk e1;exact .imm _ r (h2 r 0 _ ((fzc_map g1).trans (congrArg some (encM_of g2 g3 hf)))) (pairV_flat hf)
def seen (s:AS):AS:=⟨s.heap,s.next,0,s.glb⟩
theorem SoundC.uF {P:Program}{f:FuncId}{args args':List Value}{u:Value}{s:AS}{k:Value->AS->Prop}(h:DenU P [] f args' u) (hu:flatV u=true) (hf:FrzL P (seen s) args args') (hk:k u s):SoundC P f args s k:=by
 refine ⟨fun hl=>⟨u,s,hk,.refl _,fun W0 β W vs hR hfr hv=>?_⟩⟩
 have hall:VRs ⟨fun _=>none,fun r o=>fzc W ⟨r,o,none⟩⟩ args' vs:=⟨hf.at_.1.symm.trans hv.1,fun i y v hy hv'=>by
  have hi:i<args.length:=by rw[hf.at_.1];exact (List.getElem?_eq_some_iff.1 hy).1
  exact (hf.at_.2 i args[i] y (List.getElem?_eq_getElem hi) hy).relAll (s0:=seen s) (s:=s) rfl hR (fun r o x hx=>(hR.frz r o x hx).1) (fun _ _ _ h=>h) (hv.2 i _ v (List.getElem?_eq_getElem hi) hv')⟩
 refine (h.out (fun r o=>fzc W ⟨r,o,none⟩) W vs (fun x hx=>by cases hx) (fun _ _ _ h=>h) hall).mono fun e w' ⟨v,z',he,⟨hb,hdn⟩,_,_,hv'⟩=>?_
 have:v=u:=hv'.flat_eq hu;subst this;exact ⟨v,he,β,.refl _ _,hR.later hb,.of_flat _ hu,KD.below hb⟩
structure DenI (P:Program) (f:FuncId) (args:List Value) (Hi:List Blk) (u:Value) (H:List (Option Blk)):Prop where
 out:∀(z:Nat->Nat->Option Value) (W:World) (vs:List Value) (μ:Nat->Option (Nat×Nat)),(∀r o v,z r o=some v->fzc W ⟨r,o,none⟩=some v)->(∀(k:Nat) (b:Blk) (r sp:Nat),Hi[k]?=some b->μ k=some (r,sp)->BlkR P ⟨μ,z⟩ W r sp False b)->(∀k x,μ k=some x->k<Hi.length∧x.1<W.heap.size)->VRs ⟨μ,z⟩ args vs ->
  Calls P f ⟨vs⟩ W fun e w'=>∃v,e=.returned v∧OutR P z W u H v w'
theorem yesK_frz {P:Program}{u:Value}{s:AS}(h:yesK u s=true):FrzV P s u (.bool true):=by
 unfold yesK at h;split at h
 ·subst h;exact .clean _ (.flat _ rfl)
 ·cases h
theorem denU_closedT {P:Program}(hm:P.follows .mixedOrders=true) {l:List (Nat×List Value)}(hl:gOk l=true) {f:FuncId}(fuel n m:Nat) (h:∀Ts,((callX boolX P fuel (callN boolD P fuel (badF boolD) m) (badX boolX) n).call f [] (start l Ts) (noX Bool boolX) yesK)=true):DenU P l f [] (.bool true) :=
 denU_of_callX (D:=boolX) (callX_ok (D:=boolX) hm (callN_ok (D:=boolD) hm badF_ok fuel m) badX_ok fuel n) hl (fun _ _ h=>yesK_frz h) h
theorem SoundAt.uT {P:Program}{l:List (Nat×List Value)}(hl:gOk l=true) {f:FuncId}{args:List Value}{u:Value}{s:AS}{k:Value->AS->Prop}(h:DenU P l f args u) (hc:NoNms args) (ht:Tabled l s) (hk:k u s):SoundAt P f args s k:=⟨fun hlo=>(extU_ok hl).call0 f args s k hlo ⟨u,h,hc,ht,hk⟩⟩
theorem denU_of_soundT {P:Program}{l:List (Nat×List Value)}(hl:gOk l=true) {f:FuncId}{args:List Value}{u:Value}(h:∀Ts,SoundAt P f args (start l Ts) fun u' s'=>FrzV P s' u' u):DenU P l f args u :=
 denU_of_callX (D:=propX) (cx:=extS P) extS_ok hl (fun _ _ h=>h) h
theorem SoundAt.cov {P:Program}{f:FuncId}{args args1:List Value}{s s1:AS}{k:Value->AS->Prop}(sl:List (Nat×Value)) (hc:Cov P (args.length+(0-args.length)) s.next (argsF args 0 .e) s (mkF sl) s1) (hlen:args1.length=args.length) (hsl:∀i u,args1[i]?=some u->Tr.at (pt i) (mkF sl)=some u) (h:SoundAt P f args1 s1 k):SoundAt P f args s k:=by
 refine ⟨fun hlo W0 β W vs hR hf hv=>?_⟩
 obtain ⟨β1,g1,g2,g3,g4,g5⟩:=hc.rel W0 β W _ hR hf (frR_start hv 0);have hv1:VRs β1 args1 vs:=⟨hlen.trans hv.1,fun i u v hu hv'=>by
  have:=g5.at_ i u (hsl i u hu);have e:(((⟨vs⟩:Array Value)++Array.replicate (0-(⟨vs⟩:Array Value).size) undef:Array Value)[i]?)=some v:=by simp[hv']
  rw[Array.getD_eq_getD_getElem?,e] at this;exact this⟩
 have hst:StpX s s1:=⟨hc.next,hc.lo,hc.glb,hc.keep⟩;refine (h.out (hst.le hlo) W0 β1 W vs g4 g2 hv1).mono fun e w' ⟨v,u,s',e1,e2,e3,β2,q1,q2,q3,q4⟩=>⟨v,u,s',e1,e2,hst.trans e3,β2,⟨fun k hk=>(q1.keep k (Nat.lt_of_lt_of_le hk hc.next)).trans (g1 k hk),q1.free,g3.trans q1.z⟩,q2,q3,q4⟩
end Go.Proofs.YtcihknonfcldeaaDoor.U
