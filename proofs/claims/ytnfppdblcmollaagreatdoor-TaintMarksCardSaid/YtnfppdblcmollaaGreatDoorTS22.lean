
import Derived.Test.YtnfppdblcmollaaGreatDoorTS18
import Derived.Test.YtnfppdblcmollaaGreatDoorTS21
namespace Go.Proofs.YtnfppdblcmollaaGreatDoor.U
open Go Go.RowKit Go.Sort
set_option linter.unusedVariables false
set_option linter.unusedSimpArgs false
set_option maxRecDepth 100000
set_option maxHeartbeats 40000000
def gTr:Nat->List (Option Blk)->Tr Blk
 |_,[]=>.e
 |i,b::l=>Tr.put b (ptF i i) (gTr (i+1) l)
theorem gTr_at (k:Nat):∀(l:List (Option Blk)) (i:Nat),Tr.at (ptF k k) (gTr i l)=if i≤k then (l[k-i]?).join else none
 |[],i=>by rw[gTr,Tr.at_e];simp
 |b::l,i=>by
  rw[gTr];by_cases h:k=i
  ·subst h;rw[Tr.at_same,if_pos rL,Nat.sub_self];rfl
  ·rw[Tr.at_other _ _ _ _ fun e=>h (ptF_inj k i k i rL rL e),gTr_at k l (i+1)];by_cases h2:i≤k
   ·rw[if_pos (by omega),if_pos h2];obtain ⟨d,rfl⟩:∃d,k=i+1+d:=⟨k-(i+1),by omega⟩
    rw[show i+1+d-(i+1)=d by omega,show i+1+d-i=d+1 by omega,List.getElem?_cons_succ]
   ·rw[if_neg (by omega),if_neg h2]
def base1 (l:List (Option Blk)):Tr Blk:=.n .e none (.n (gTr 256 l) none .e)
def base2 (l:List (Option Blk)):Tr Blk:=.n .e none (.n .e none (.n .e none (.n .e none (.n (gTr 65792 l) none .e))))
theorem base1_get {l:List (Option Blk)}(hl:l.length≤65280) {k:Nat}{b:Blk}(h:(base1 l).get k=some b):∃j,k=257+j∧j<l.length∧l[j]?=some (some b):=by
 unfold Tr.get at h;by_cases h1:257≤k∧k≤65536
 ·rw[pt_g1 h1.1 h1.2] at h;replace h:Tr.at (ptF (k-1) (k-1)) (gTr 256 l)=some b:=h
  rw[gTr_at,if_pos (by omega)] at h;cases hx:l[k-1-256]? with
  |none=>rw[hx] at h;cases h
  |some y =>
   rw[hx] at h;have h:y=some b:=h;subst h;have:=(List.getElem?_eq_some_iff.1 hx).1;exact ⟨k-1-256,by omega,this,hx⟩
 ·exfalso
  cases k with
  |zero=>simp[pt,base1,Tr.at,Tr.at_e] at h
  |succ m =>
   simp only[pt] at h;repeat' split at h
   all_goals first
    |(generalize ptB 8 _=q at h;simp[base1,Tr.at,Tr.at_e] at h;done)
    |(generalize ptF _ _=q at h;simp[base1,Tr.at,Tr.at_e] at h;done)
    |(clear h
      simp only[← Bool.not_eq_true,Nat.ble_eq] at *;omega)
theorem base2_get {l:List (Option Blk)}(hl:l.length≤65280) {k:Nat}{b:Blk}(h:(base2 l).get k=some b):∃j,k=65793+j∧j<l.length∧l[j]?=some (some b):=by
 have hp:∀q,pt k=.r (.r (.r (.r (.l q))))->q=ptF (k-1) (k-1)∧65793≤k:=fun q hq=>by
  cases k with
  |zero=>simp[pt] at hq
  |succ m =>
   simp only[pt] at hq;repeat' split at hq
   all_goals simp only[Pt.l.injEq,Pt.r.injEq,reduceCtorEq] at hq
   subst hq;rename_i h1 _ h2 _ h3 _ h4;exact ⟨rfl,by
    have h3:¬m≤65791:=fun hle=>by rw[bLe hle] at h3;cases h3
    omega⟩
 have h:Tr.at (pt k) (base2 l)=some b:=h
 generalize pt k=p at h hp
 unfold base2 at h;rcases p with _|q|q
 ·cases h
 ·rw[Tr.at,Tr.at_e] at h;cases h
 rcases q with _|q|q
 ·cases h
 ·simp only[Tr.at,Tr.at_e] at h;cases h
 rcases q with _|q|q
 ·cases h
 ·simp only[Tr.at,Tr.at_e] at h;cases h
 rcases q with _|q|q
 ·cases h
 ·simp only[Tr.at,Tr.at_e] at h;cases h
 rcases q with _|q|q
 ·cases h
 ·obtain ⟨rfl,h1⟩:=hp q rfl;simp only[Tr.at] at h;rw[gTr_at] at h;split at h
  ·cases hx:l[k-1-65792]? with
   |none=>rw[hx] at h;cases h
   |some y =>
    rw[hx] at h;have h:y=some b:=h;subst h;exact ⟨k-1-65792,by omega,(List.getElem?_eq_some_iff.1 hx).1,hx⟩
  ·cases h
 ·simp only[Tr.at,Tr.at_e] at h;cases h
def mkOB (b:Tr Blk):List (Nat×Option Blk)->Tr Blk
 |[]=>b
 |x::l=>(mkOB b l).set x.1 x.2
theorem mkOB_get {t:Tr Blk}:∀{l:List (Nat×Option Blk)}{k:Nat}{b:Blk},(mkOB t l).get k=some b->(k,some b)∈l∨t.get k=some b
 |[],k,b,h=>.inr h
 |x::l,k,b,h=>by
  rw[mkOB,Tr.get_set] at h;split at h
  ·rename_i hk;subst hk;have:x=(x.1,some b):=by rw[← h]
   rw[← this];exact .inl (List.mem_cons_self ..)
  ·rcases mkOB_get h with h|h
   ·exact .inl (List.mem_cons_of_mem _ h)
   ·exact .inr h
theorem grow_ok {m b:Nat}(hb:b≤1000) (hm:m≤100000):((m*b).ble 140737488355328&&m.ble 1000000)=true:=by
 have h1:m*b≤100000*1000:=Nat.mul_le_mul hm hb;rw[bLe (by omega),bLe (by omega)];rfl
theorem RenV.conv {n m:Nat}{ρ:Nat->Nat}{u v:Value}(h:RenV m ⟨fun k=>k,fun _ _=>False⟩ u v) (hm:m≤n) (hρ:∀k,k<m->ρ k=k):RenV n ⟨ρ,fun _ _=>False⟩ u v:=by
 induction h with
 |agg l m hl _ ih=>exact .agg l m hl ih
 |ext _ _ h=>exact absurd h id
 |clean _ _ h e=>exact .clean _ _ h e
 |ptr k k' off hk e=>exact .ptr k k' off (by omega) ((hρ k hk).trans e)
 |sl k k' off m m' c c' hk e e2 e3=>exact .sl k k' off m m' c c' (by omega) ((hρ k hk).trans e) e2 e3
 |yld k k' hk e=>exact .yld k k' (by omega) ((hρ k hk).trans e)
 |mp k k' hk e=>exact .mp k k' (by omega) ((hρ k hk).trans e)
 |ifc t u v _ ih=>exact .ifc t u v ih
 |fn g a a' b b' ha hb _ _ i1 i2=>exact .fn g a a' b b' ha hb i1 i2
theorem slotsRen.conv {fr:Tr Value}{n m:Nat}{ρ:Nat->Nat}(hm:m≤n) (hρ:∀k,k<m->ρ k=k):∀{l:List (Nat×Value)},slotsRen fr m ⟨fun k=>k,fun _ _=>False⟩ l->slotsRen fr n ⟨ρ,fun _ _=>False⟩ l
 |[],_=>trivial
 |x::l,h=>⟨let ⟨u,h1,h2⟩:=h.1;⟨u,h1,h2.conv hm hρ⟩,slotsRen.conv hm hρ h.2⟩
theorem FrzV.relAll {P:Program}{s0 s:AS}(e:s0.heap=s.heap) {W0 W:World}{β:Bt}{z':Nat->Nat->Option Value}(hR:Rel P W0 β s W) (h1:∀r o x,β.z r o=some x->z' r o=some x) (h2:∀r o x,W.cell? ⟨r,o,none⟩=some x->z' r o=some x) {u y:Value}(h:FrzV P s0 u y):∀{v:Value},VR β u v->VR ⟨fun _=>none,z'⟩ y v:=by
 induction h with
 |clean u h=>intro v hv;exact (h.rel hv).growX ⟨fun k x hk=>(by cases hk),h1⟩
 |nil=>intro v hv;rw[hv.flat1_eq rfl];exact .imn
 |agg l m hl _ ih =>
  intro v hv;obtain ⟨l',e1,rfl⟩:=hv.agg_inv;refine .agg m l' (hl.symm.trans e1.1) fun i u v hu hv=>?_
  have hi:i<l.length:=by rw[hl];exact (List.getElem?_eq_some_iff.1 hu).1
  exact ih i l[i] u (List.getElem?_eq_getElem hi) hu (e1.2 i _ v (List.getElem?_eq_getElem hi) hv)
 |tup l m hl _ ih =>
  intro v hv;obtain ⟨l',e1,rfl⟩:=hv.tup_inv;refine .tup m l' (hl.symm.trans e1.1) fun i u v hu hv=>?_
  have hi:i<l.length:=by rw[hl];exact (List.getElem?_eq_some_iff.1 hu).1
  exact ih i l[i] u (List.getElem?_eq_getElem hi) hu (e1.2 i _ v (List.getElem?_eq_getElem hi) hv)
 |row k n c z T xs ys op hlo hk hz hn hc hl _ ih =>
  intro v hv;obtain ⟨r,sp,e1,rfl⟩:=hv.sl_inv;rw[e] at hk;obtain ⟨cs,fz,g1,_,_,g4,g5,g6,g7,g8⟩:=(hR.blk k _ r sp hk e1).real;subst hn;have hlen:((cs.toList.take xs.length).take (cellsAll ys).length).length=(cellsAll ys).length:=by
   have:=g5.1;rw[List.length_take,← this];omega
  have hat:∀(i:Nat) (w:Value),((cs.toList.take xs.length).take (cellsAll ys).length)[i]?=some w->(cs.toList.take xs.length)[i]?=some w:=fun i w hw=>by
   have hil:=(List.getElem?_eq_some_iff.1 hw).1;rwa [List.getElem?_take_of_lt (by rw[List.length_take] at hil;omega)] at hw
  refine .ims ys ((cs.toList.take xs.length).take (cellsAll ys).length) z r 0 (c+sp) hz (by omega) hlen (fun i w hw=>?_) (fun i y w hy hw=>?_) fun w hw=>g7 w (List.mem_of_mem_take hw)
  ·rw[Nat.zero_add];exact h2 r i w (g8 i w (hat i w hw))
  ·have hw':=hat i w hw;have hi:i<xs.length:=by
    have:=(List.getElem?_eq_some_iff.1 hw').1;rw[g5.1];exact this
   exact ih i xs[i] y (List.getElem?_eq_getElem hi) hy (g5.2 i _ w (List.getElem?_eq_getElem hi) hw')
 |box k T x xs op hlo hk hl _ ih =>
  intro v hv;obtain ⟨r,sp,e1,rfl⟩:=hv.ptr_inv;rw[e] at hk;obtain ⟨cs,fz,g1,_,_,g4,g5,g6,g7,g8⟩:=(hR.blk k _ r sp hk e1).real;refine .imp x (cs.toList.take xs.length) r 0 0 (g5.1.symm.trans hl.symm) (fun i w hw=>?_) (fun i y w hy hw=>?_) g7
  ·rw[Nat.zero_add];exact h2 r i w (g8 i w hw)
  ·have hi:i<xs.length:=by
    have:=(List.getElem?_eq_some_iff.1 hw).1;rw[g5.1];exact this
   exact ih i xs[i] y (List.getElem?_eq_getElem hi) hy (g5.2 i _ w (List.getElem?_eq_getElem hi) hw)
def seen (s:AS):AS:=⟨s.heap,s.next,0,s.glb⟩
theorem SoundC.uF {P:Program}{f:FuncId}{args args':List Value}{u:Value}{s:AS}{k:Value->AS->Prop}(h:DenU P [] f args' u) (hu:flatV u=true) (hf:FrzL P (seen s) args args') (hk:k u s):SoundC P f args s k:=by
 refine ⟨fun hl=>⟨u,s,hk,.refl _,fun W0 β W vs hR hfr hv=>?_⟩⟩
 have hall:VRs ⟨fun _=>none,fun r o=>W.cell? ⟨r,o,none⟩⟩ args' vs:=⟨hf.at_.1.symm.trans hv.1,fun i y v hy hv'=>by
  have hi:i<args.length:=by rw[hf.at_.1];exact (List.getElem?_eq_some_iff.1 hy).1
  exact (hf.at_.2 i args[i] y (List.getElem?_eq_getElem hi) hy).relAll (s0:=seen s) (s:=s) rfl hR (fun r o x hx=>(hR.frz r o x hx).1) (fun _ _ _ h=>h) (hv.2 i _ v (List.getElem?_eq_getElem hi) hv')⟩
 refine (h.out (fun r o=>W.cell? ⟨r,o,none⟩) W vs (fun x hx=>by cases hx) (fun _ _ _ h=>h) hall).mono fun e w' ⟨v,z',he,⟨hb,hdn⟩,_,_,hv'⟩=>?_
 have:v=u:=hv'.flat_eq hu;subst this;exact ⟨v,he,β,.refl _ _,hR.later hb,.of_flat _ hu,KD.below hb⟩
structure DenI (P:Program) (f:FuncId) (args:List Value) (Hi:List Blk) (u:Value) (H:List (Option Blk)):Prop where
 out:∀(z:Nat->Nat->Option Value) (W:World) (vs:List Value) (μ:Nat->Option (Nat×Nat)),(∀r o v,z r o=some v->W.cell? ⟨r,o,none⟩=some v)->(∀(k:Nat) (b:Blk) (r sp:Nat),Hi[k]?=some b->μ k=some (r,sp)->BlkR P ⟨μ,z⟩ W r sp False b)->(∀k x,μ k=some x->k<Hi.length∧x.1<W.heap.size)->VRs ⟨μ,z⟩ args vs ->
  Calls P f ⟨vs⟩ W fun e w'=>∃v,e=.returned v∧OutR P z W u H v w'
def stI (i:Nat) (h:Tr Blk):AS:=⟨h,i,i,0⟩
def RetI (i:Nat) (s:AS) (u' u:Value) (H:List (Option Blk)):Prop :=
 ∃ρ:Nat->Nat,(∀k,k<H.length->i≤ρ k)∧RenV H.length ⟨ρ,fun _ _=>False⟩ u u'∧(∀k b,H[k]?=some (some b)->∃b',s.heap.get (ρ k)=some b'∧RenB H.length ⟨ρ,fun _ _=>False⟩ b b')∧∀(k k':Nat) (b b':Blk),H[k]?=some (some b)->H[k']?=some (some b')->ρ k=ρ k'->k=k'
theorem denI_of_sound {P:Program}{f:FuncId}{args:List Value}{Hi:List Blk}{h:Tr Blk}{u:Value}{H:List (Option Blk)}(i:Nat) (hi:Hi.length=i) (hh:∀k b,h.get k=some b->Hi[k]?=some b) (hs:SoundAt P f args (stI i h) fun u' s'=>RetI i s' u' u H):DenI P f args Hi u H:=by
 subst hi;refine ⟨fun z W vs μ hz hB hμ hv=>?_⟩
 have hlt:∀k,h.get k≠none->k<Hi.length:=fun k hk=>by
  obtain ⟨b,hb⟩:=Option.ne_none_iff_exists'.1 hk;exact (List.getElem?_eq_some_iff.1 (hh k b hb)).1
 have hR:Rel P W ⟨μ,z⟩ (stI Hi.length h) W:=⟨fun k b r sp hk hr=>(hB k b r sp (hh k b hk) hr).sameX ⟨fun _ _ h=>h,fun _ _ _ h=>h⟩ (fun hle=>by have:=hlt k (by rw[show h.get k=some b from hk];simp);exact absurd hle (Nat.not_le.2 this)) rfl,fun k k' r sp sp' hlo hk=>absurd hlo (Nat.not_le.2 (hlt k hk)),hlt,fun k r sp hr=>(hμ k (r,sp) hr).2,fun k r sp hk _ hlo=>absurd hlo (Nat.not_le.2 (hlt k hk)),.refl _ _,fun g hg=>absurd hg (Nat.not_lt_zero g),fun r o v hv=>⟨hz r o v hv,fun k sp hlo hk=>absurd hlo (Nat.not_le.2 (hlt k hk))⟩⟩
 refine (hs.out rL W ⟨μ,z⟩ W vs hR (fun k hk=>by
  cases hm:μ k with
  |none=>exact hm
  |some x=>exact absurd hk (Nat.not_le.2 (hμ k x hm).1)) hv).mono fun e w' ⟨v,u',s',he,⟨ρ,h0,h1,h2,h3⟩,hst,β',hx,hR',hv',hkd⟩=>⟨v,he,?_⟩
 have hlo:s'.lo=Hi.length:=hst.lo;let ν:Nat->Option (Nat×Nat):=fun k=>if k<H.length then β' (ρ k) else none
 have hm':∀k,k<H.length->ν k=β' (ρ k):=fun k hk=>if_pos hk
 have hν:∀k x,ν k=some x->k<H.length∧β' (ρ k)=some x:=fun k x hx=>by
  have hx:(if k<H.length then β' (ρ k) else none)=some x:=hx
  split at hx
  ·rename_i h;exact ⟨h,hx⟩
  ·cases hx
 have ht:∀k b,H[k]?=some (some b)->s'.heap.get (ρ k)≠none:=fun k b hk=>by
  obtain ⟨b',e1,_⟩:=h2 k b hk;rw[e1];simp
 have hl0:∀k b,H[k]?=some (some b)->s'.lo≤ρ k:=fun k b hk=>by
  rw[hlo];exact h0 k (List.getElem?_eq_some_iff.1 hk).1
 refine ⟨ν,β'.z,⟨hR'.below,hkd.n⟩,hx.z.1,fun r o x hx'=>⟨(hR'.frz r o x hx').1,hx.z.2 r o x hx',fun k sp b hk hr=>(hR'.frz r o x hx').2 (ρ k) sp (hl0 k b hk) (ht k b hk) (hν k _ hr).2⟩,?_,fun k b r sp hk hr=>?_,fun k x hx'=>?_,fun k k' r sp sp' b b' hk hk' hr hr'=>?_⟩
 ·exact h1.rel (β:=β') (β1:=⟨ν,β'.z⟩) (fun _ _ _ h=>h) (fun _ _ _ h=>absurd h id) hm' hv'
 ·obtain ⟨b',e1,e2⟩:=h2 k b hk;have hr:=(hν k _ hr).2;exact ⟨e2.rel (β:=β') (β1:=⟨ν,β'.z⟩) (fun _ _ _ h=>h) (fun _ _ _ h=>absurd h id) (fun _ _ h=>absurd h id) hm' (fun _=>hl0 k b hk) (hR'.blk (ρ k) b' r sp e1 hr),hR'.ge (ρ k) r sp (ht k b hk) hr (hl0 k b hk)⟩
 ·exact ⟨(hν k x hx').1,hR'.lt (ρ k) x.1 x.2 (hν k x hx').2⟩
 ·exact h3 k k' b b' hk hk' (hR'.inj (ρ k) (ρ k') r sp sp' (hl0 k b hk) (ht k b hk) (ht k' b' hk') (hν k _ hr).2 (hν k' _ hr').2)
theorem SoundC.tellI {P:Program}{f:FuncId}{args a:List Value}{Hi:List Blk}{u u1:Value}{H:List (Option Blk)}{σ:Nat->Nat}{s s1:AS}{k:Value->AS->Prop}(hD:DenI P f args Hi u H) (τ:Nat->Nat) (ha:RenL Hi.length ⟨τ,fun _ _=>False⟩ args a) (hi:∀k b,Hi[k]?=some b->∃b',s.heap.get (τ k)=some b'∧RenB Hi.length ⟨τ,fun _ _=>False⟩ b b')
  (hg:s.glb≤s.next) (hst:s.lo≤s.next->Stp s s1) (ht:(∀k,s.next≤k->s.heap.get k=none)->TellR s s1 u u1 H σ) (hk:k u1 s1):SoundC P f a s k:=by
 refine ⟨fun hl=>⟨u1,s1,hk,hst hl,fun W0 β W vs hR hf hv=>?_⟩⟩
 let μ:Nat->Option (Nat×Nat):=fun k=>if k<Hi.length then β (τ k) else none
 have hm:∀k,k<Hi.length->(⟨μ,β.z⟩:Bt) k=β (τ k):=fun k hk=>if_pos hk
 have hμ:∀k x,μ k=some x->k<Hi.length∧β (τ k)=some x:=fun k x hx=>by
  have hx:(if k<Hi.length then β (τ k) else none)=some x:=hx
  split at hx
  ·rename_i h;exact ⟨h,hx⟩
  ·cases hx
 refine (hD.out β.z W vs μ (fun r o v hz=>(hR.frz r o v hz).1) (fun k b r sp hk hr=>?_) (fun k x hx=>⟨(hμ k x hx).1,hR.lt _ x.1 x.2 (hμ k x hx).2⟩) ?_).mono fun e w' ⟨v,he,ho⟩=>⟨v,he,(ht hR.free_).lays hl hR hf ho hg⟩
 ·obtain ⟨b',e1,e2⟩:=hi k b hk;exact e2.rel (β:=β) (β1:=⟨μ,β.z⟩) (fun _ _ _ h=>h) (fun _ _ _ h=>absurd h id) (fun _ _ h=>absurd h id) hm (fun h=>absurd h id) (hR.blk (τ k) b' r sp e1 (hμ k _ hr).2)
 ·obtain ⟨q1,q2⟩:=ha.at_;refine ⟨q1.trans hv.1,fun i x v hx hv'=>?_⟩
  obtain ⟨y,q3,q4⟩:=q2 i x hx;exact q4.rel (β:=β) (β1:=⟨μ,β.z⟩) (fun _ _ _ h=>h) (fun _ _ _ h=>absurd h id) hm (hv.2 i y v q3 hv')
theorem SoundAt.uT {P:Program}{l:List (Nat×List Value)}(hl:gOk l=true) {f:FuncId}{args:List Value}{u:Value}{s:AS}{k:Value->AS->Prop}(h:DenU P l f args u) (hc:NoNms args) (ht:Tabled l s) (hk:k u s):SoundAt P f args s k:=⟨fun hlo=>(extU_ok hl).call0 f args s k hlo ⟨u,h,hc,ht,hk⟩⟩
theorem denU_of_soundT {P:Program}{l:List (Nat×List Value)}(hl:gOk l=true) {f:FuncId}{args:List Value}{u:Value}(h:∀Ts,SoundAt P f args (start l Ts) fun u' s'=>FrzV P s' u' u):DenU P l f args u :=
 denU_of_callX (D:=propX) (cx:=extS P) extS_ok hl (fun _ _ h=>h) h
theorem SoundAt.cov {P:Program}{f:FuncId}{args args1:List Value}{s s1:AS}{k:Value->AS->Prop}(sl:List (Nat×Value)) (hc:Cov P (args.length+(0-args.length)) s.next (argsF args 0 .e) s (mkF sl) s1) (hlen:args1.length=args.length) (hsl:∀i u,args1[i]?=some u->Tr.at (pt i) (mkF sl)=some u) (h:SoundAt P f args1 s1 k):SoundAt P f args s k:=by
 refine ⟨fun hlo W0 β W vs hR hf hv=>?_⟩
 obtain ⟨β1,g1,g2,g3,g4,g5⟩:=hc.rel W0 β W _ hR hf (frR_start hv 0);have hv1:VRs β1 args1 vs:=⟨hlen.trans hv.1,fun i u v hu hv'=>by
  have:=g5.at_ i u (hsl i u hu);have e:(((⟨vs⟩:Array Value)++Array.replicate (0-(⟨vs⟩:Array Value).size) undef:Array Value)[i]?)=some v:=by simp[hv']
  rw[Array.getD_eq_getD_getElem?,e] at this;exact this⟩
 have hst:StpX s s1:=⟨hc.next,hc.lo,hc.glb,hc.keep⟩;refine (h.out (hst.le hlo) W0 β1 W vs g4 g2 hv1).mono fun e w' ⟨v,u,s',e1,e2,e3,β2,q1,q2,q3,q4⟩=>⟨v,u,s',e1,e2,hst.trans e3,β2,⟨fun k hk=>(q1.keep k (Nat.lt_of_lt_of_le hk hc.next)).trans (g1 k hk),q1.free,g3.trans q1.z⟩,q2,q3,q4⟩
end Go.Proofs.YtnfppdblcmollaaGreatDoor.U
namespace Go.Proofs.YtnfppdblcmollaaGreatDoor
open Go Go.RowKit Go.Sort U
set_option linter.unusedVariables false
set_option linter.unusedSimpArgs false
set_option maxRecDepth 100000
set_option maxHeartbeats 40000000
theorem hmixU:Tryz.prog.follows .mixedOrders=true:=by kernel_rfl
def maxI:Nat:=9223372036854775807
theorem cleanI (n:Int):NoNm (.int .i64 n):=.flat _ rfl
theorem wadd1 {i:Nat}(h:i<9223372036854775807):IntKind.i64.wrap ((i:Int)+1)=((i+1:Nat):Int):=by
 rw[IntKind.wrap_i64];omega
theorem nth_mid {α:Type}(x:α):∀(l m:List α),nth (l++x::m) l.length=some x
 |[],m=>rfl
 |y::l,m=>nth_mid x l m
def iL (l:List Int):List Value:=l.map (Value.int .i64)
theorem iL_map (l:List Int):iL l=l.map (Value.int .i64):=rfl
theorem iL_len (l:List Int):(iL l).length=l.length:=List.length_map ..
theorem cellsI:∀l:List Int,cellsAll (iL l)=iL l
 |[]=>rfl
 |x::l=>by rw[iL,List.map_cons,cellsAll,List.flatMap_cons];exact congrArg _ (cellsI l)
theorem cleanIC (l:List Int):∀x,x∈cellsAll (iL l)->NoNm x:=fun c hc=>by
 rw[cellsI] at hc;obtain ⟨n,_,rfl⟩:=List.mem_map.1 hc;exact cleanI n
theorem cleanIL (l:List Int):NoNm (imS (iL l)):=.ims _ (cleanIC l)
theorem clN {P:Prop}(h:P:=by (repeat (first|exact trivial|((conv=>whnf);first|exact trivial|refine And.intro (by first|assumption|exact cleanI _|exact cleanIL _|exact NoNm.flat _ rfl) ?_)))):P:=h
theorem iL_one (l:List Int):(Nat.beq (cellsAll (iL l)).length ((iL l).length*1)&&(cellsAll (iL l)).all Value.oneCell')=true:=by
 rw[cellsI,Nat.mul_one,Bool.and_eq_true];exact ⟨Nat.beq_refl _,List.all_eq_true.2 fun v hv=>by obtain ⟨n,_,rfl⟩:=List.mem_map.1 hv;rfl⟩
theorem iL_1 {l:List Int}:∀y,y∈iL l->(cellsOf y).length=1:=fun y hy=>by
 obtain ⟨n,_,rfl⟩:=List.mem_map.1 hy;rfl
theorem iL_app (l m:List Int):iL (l++m)=iL l++iL m:=List.map_append
def gL (l:List (List Int)):List Value:=l.map fun r=>imS (iL r)
theorem gL_map (l:List (List Int)):gL l=l.map fun r=>imS (iL r):=rfl
theorem gL_len (l:List (List Int)):(gL l).length=l.length:=List.length_map ..
theorem cellsG:∀l:List (List Int),cellsAll (gL l)=gL l
 |[]=>rfl
 |x::l=>by rw[gL,List.map_cons,cellsAll,List.flatMap_cons];exact congrArg _ (cellsG l)
theorem cleanGC (l:List (List Int)):∀x,x∈cellsAll (gL l)->NoNm x:=fun c hc=>by
 rw[cellsG] at hc;obtain ⟨n,_,rfl⟩:=List.mem_map.1 hc;exact cleanIL n
theorem cleanGL (l:List (List Int)):NoNm (imS (gL l)):=.ims _ (cleanGC l)
theorem gL_1 {l:List (List Int)}:∀y,y∈gL l->(cellsOf y).length=1:=fun y hy=>by
 obtain ⟨n,_,rfl⟩:=List.mem_map.1 hy;rfl
def sL (l:List ByteArray):List Value:=l.map Value.string
theorem sL_len (l:List ByteArray):(sL l).length=l.length:=List.length_map ..
theorem cellsS:∀l:List ByteArray,cellsAll (sL l)=sL l
 |[]=>rfl
 |x::l=>by rw[sL,List.map_cons,cellsAll,List.flatMap_cons];exact congrArg _ (cellsS l)
theorem cleanSC (l:List ByteArray):∀x,x∈cellsAll (sL l)->NoNm x:=fun c hc=>by
 rw[cellsS] at hc;obtain ⟨n,_,rfl⟩:=List.mem_map.1 hc;exact .flat _ rfl
theorem cleanSL (l:List ByteArray):NoNm (imS (sL l)):=.ims _ (cleanSC l)
theorem sL_1 {l:List ByteArray}:∀y,y∈sL l->(cellsOf y).length=1:=fun y hy=>by
 obtain ⟨n,_,rfl⟩:=List.mem_map.1 hy;rfl
theorem datF_int {t:TypeId}{k:IntKind}(ht:Tryz.prog.underlying t=some (.int k)) {n:Nat}{us:List Value}(h:DatF Tryz.prog n t us):∃m,us=[.int k m]:=by
 cases n with
 |zero=>exact h.elim
 |succ n =>
  unfold DatF at h;rw[ht] at h;obtain ⟨m,h,_⟩:=h;exact ⟨m,h⟩
theorem datF_bool {t:TypeId}(ht:Tryz.prog.underlying t=some .bool) {n:Nat}{us:List Value}(h:DatF Tryz.prog n t us):∃m,us=[.bool m]:=by
 cases n with
 |zero=>exact h.elim
 |succ n =>
  unfold DatF at h;rw[ht] at h;exact h
theorem datF_str {t:TypeId}(ht:Tryz.prog.underlying t=some .string) {n:Nat}{us:List Value}(h:DatF Tryz.prog n t us):∃s:ByteArray,us=[.string s]∧s.size≤maxLen:=by
 cases n with
 |zero=>exact h.elim
 |succ n =>
  unfold DatF at h;rw[ht] at h;exact h
theorem datF_row {t e:TypeId}(ht:Tryz.prog.underlying t=some (.slice e)) {n:Nat}{us:List Value}(h:DatF Tryz.prog n t us):∃(k:Nat) (rows:List (List Value)),n=k+1∧us=[imS (rows.map (packV Tryz.prog e))]∧rows.length≤maxLen∧∀r∈rows,r.length=Tryz.prog.cellsOf e∧DatF Tryz.prog k e r:=by
 cases n with
 |zero=>exact h.elim
 |succ n =>
  unfold DatF at h;rw[ht] at h;obtain ⟨rows,h⟩:=h;exact ⟨n,rows,rfl,h⟩
inductive Ex where
 |mk (k n a o:Int) (l:List Ex)
mutual
def encE:Ex->Value
 |.mk k n a o l=>.agg ⟨[.int .i64 k,.int .i64 n,.int .i64 a,.int .i64 o,imS (encEs l)]⟩
def encEs:List Ex->List Value
 |[]=>[]
 |e::l=>encE e::encEs l
end
theorem encEs_map:∀l,encEs l=l.map encE
 |[]=>rfl
 |e::l=>by rw[encEs,encEs_map l];rfl
mutual
def okE:Ex->Prop
 |.mk _ _ _ _ l=>l.length≤maxI∧okEs l
def okEs:List Ex->Prop
 |[]=>True
 |e::l=>okE e∧okEs l
end
theorem okEs_mem:∀{l:List Ex},okEs l->∀e∈l,okE e
 |[],_,e,h=>by cases h
 |x::l,h,e,he=>by
  rcases List.mem_cons.1 he with rfl|he
  ·exact h.1
  ·exact okEs_mem h.2 e he
theorem cleanE_cells:∀(e:Ex),∀c∈cellsOf (encE e),NoNm c
 |.mk k n a o l,c,hc=>by
  simp only[encE,cellsOf,List.mem_cons,List.not_mem_nil,or_false] at hc;rcases hc with rfl|rfl|rfl|rfl|rfl
  ·exact .flat _ rfl
  ·exact .flat _ rfl
  ·exact .flat _ rfl
  ·exact .flat _ rfl
  ·refine .ims _ fun c hc=>?_
   rw[encEs_map] at hc;obtain ⟨v,hv,hc⟩:=List.mem_flatMap.1 hc;obtain ⟨e,he,rfl⟩:=List.mem_map.1 hv;exact cleanE_cells e c hc
theorem cleanE (e:Ex):NoNm (encE e):=by
 have h:=cleanE_cells e;cases e with
 |mk k n a o l =>
  rw[encE] at h ⊢;exact .agg _ h
theorem cleanCells (l:List Ex):∀c,c∈cellsAll (encEs l)->NoNm c:=fun c hc=>by
 rw[encEs_map] at hc;obtain ⟨v,hv,hc⟩:=List.mem_flatMap.1 hc;obtain ⟨e,he,rfl⟩:=List.mem_map.1 hv;exact cleanE_cells e c hc
theorem cleanEs (l:List Ex):NoNm (imS (encEs l)):=.ims _ (cleanCells l)
theorem cellsEs_len:∀l:List Ex,(cellsAll (encEs l)).length=l.length*5
 |[]=>rfl
 |.mk k n a o m::l=>by
  rw[encEs,cellsAll,List.flatMap_cons,List.length_append,← cellsAll,cellsEs_len l,List.length_cons];show 5+_=_
  omega
theorem cellsEs_snoc (l:List Ex) (e:Ex):cellsAll (encEs (l++[e]))=cellsAll (encEs l)++cellsOf (encE e):=by
 rw[encEs_map,encEs_map,List.map_append,cellsAll,List.flatMap_append];simp[cellsAll]
theorem cellsE_5 (l:List Ex):∀y,y∈encEs l->(cellsOf y).length=5:=fun y hy=>by
 rw[encEs_map] at hy;obtain ⟨⟨k,n,a,o,m⟩,_,rfl⟩:=List.mem_map.1 hy;rfl
inductive St where
 |mk (k a:Int) (xs:List Ex) (th el:List St) (no:Int)
mutual
def encS:St->Value
 |.mk k a xs th el no=>.agg ⟨[.int .i64 k,.int .i64 a,imS (encEs xs),imS (encSs th),imS (encSs el),.int .i64 no]⟩
def encSs:List St->List Value
 |[]=>[]
 |e::l=>encS e::encSs l
end
theorem encSs_map:∀l,encSs l=l.map encS
 |[]=>rfl
 |e::l=>by rw[encSs,encSs_map l];rfl
theorem cleanS_cells:∀(e:St),∀c∈cellsOf (encS e),NoNm c
 |.mk k a xs th el no,c,hc=>by
  simp only[encS,cellsOf,List.mem_cons,List.not_mem_nil,or_false] at hc;rcases hc with rfl|rfl|rfl|rfl|rfl|rfl
  ·exact .flat _ rfl
  ·exact .flat _ rfl
  ·exact cleanEs xs
  ·refine .ims _ fun c hc=>?_
   rw[encSs_map] at hc;obtain ⟨v,hv,hc⟩:=List.mem_flatMap.1 hc;obtain ⟨e,he,rfl⟩:=List.mem_map.1 hv;exact cleanS_cells e c hc
  ·refine .ims _ fun c hc=>?_
   rw[encSs_map] at hc;obtain ⟨v,hv,hc⟩:=List.mem_flatMap.1 hc;obtain ⟨e,he,rfl⟩:=List.mem_map.1 hv;exact cleanS_cells e c hc
  ·exact .flat _ rfl
theorem cleanSCells (l:List St):∀c,c∈cellsAll (encSs l)->NoNm c:=fun c hc=>by
 rw[encSs_map] at hc;obtain ⟨v,hv,hc⟩:=List.mem_flatMap.1 hc;obtain ⟨e,he,rfl⟩:=List.mem_map.1 hv;exact cleanS_cells e c hc
theorem cleanSs (l:List St):NoNm (imS (encSs l)):=.ims _ (cleanSCells l)
theorem clM {P:Prop}(h:P:=by (repeat (first|exact trivial|((conv=>whnf);first|exact trivial|refine And.intro (by first|assumption|exact cleanI _|exact cleanEs _|exact cleanSs _|exact cleanE _|exact cleanIL _|exact NoNm.flat _ rfl) ?_)))):P:=h
theorem cellsSs_len:∀l:List St,(cellsAll (encSs l)).length=l.length*6
 |[]=>rfl
 |.mk k a xs th el no::l=>by
  rw[encSs,cellsAll,List.flatMap_cons,List.length_append,← cellsAll,cellsSs_len l,List.length_cons];show 6+_=_
  omega
theorem cellsSs_snoc (l:List St) (e:St):cellsAll (encSs (l++[e]))=cellsAll (encSs l)++cellsOf (encS e):=by
 rw[encSs_map,encSs_map,List.map_append,cellsAll,List.flatMap_append];simp[cellsAll]
theorem cellsS_6 (l:List St):∀y,y∈encSs l->(cellsOf y).length=6:=fun y hy=>by
 rw[encSs_map] at hy;obtain ⟨⟨k,a,xs,th,el,no⟩,_,rfl⟩:=List.mem_map.1 hy;rfl
mutual
def szE:Ex->Nat
 |.mk _ _ _ _ l=>szEs l+1
def szEs:List Ex->Nat
 |[]=>0
 |e::l=>szE e+szEs l
end
mutual
def szS:St->Nat
 |.mk _ _ xs th el _=>szEs xs+szSs th+szSs el+1
def szSs:List St->Nat
 |[]=>0
 |e::l=>szS e+szSs l
end
theorem szE_pos:∀e:Ex,1≤szE e
 |.mk _ _ _ _ l=>by rw[szE];omega
theorem szS_pos:∀e:St,1≤szS e
 |.mk _ _ _ _ _ _=>by rw[szS];omega
theorem szEs_len:∀l:List Ex,l.length≤szEs l
 |[]=>Nat.zero_le _
 |e::l=>by
  rw[szEs,List.length_cons];have:=szE_pos e;have:=szEs_len l;omega
theorem szSs_len:∀l:List St,l.length≤szSs l
 |[]=>Nat.zero_le _
 |e::l=>by
  rw[szSs,List.length_cons];have:=szS_pos e;have:=szSs_len l;omega
theorem szEs_mem:∀{l:List Ex}{e:Ex},e∈l->szE e≤szEs l
 |[],e,h=>by cases h
 |x::l,e,h=>by
  rw[szEs];rcases List.mem_cons.1 h with rfl|h
  ·omega
  ·have:=szEs_mem h;omega
theorem szSs_mem:∀{l:List St}{e:St},e∈l->szS e≤szSs l
 |[],e,h=>by cases h
 |x::l,e,h=>by
  rw[szSs];rcases List.mem_cons.1 h with rfl|h
  ·omega
  ·have:=szSs_mem h;omega
mutual
def okS:St->Prop
 |.mk _ _ xs th el _=>xs.length≤maxI∧okEs xs∧th.length≤maxI∧okSs th∧el.length≤maxI∧okSs el
def okSs:List St->Prop
 |[]=>True
 |e::l=>okS e∧okSs l
end
theorem okSs_mem:∀{l:List St},okSs l->∀e∈l,okS e
 |[],_,e,h=>by cases h
 |x::l,h,e,he=>by
  rcases List.mem_cons.1 he with rfl|he
  ·exact h.1
  ·exact okSs_mem h.2 e he
structure In13 where
 nm:ByteArray
 slot:Int
 lo:Int
 hi:Int
 sec:Bool
def encIn (x:In13):Value:=.agg ⟨[.string x.nm,.int .i64 x.slot,.int .i64 x.lo,.int .i64 x.hi,.bool x.sec]⟩
def inL (l:List In13):List Value:=l.map encIn
theorem inL_map (l:List In13):inL l=l.map encIn:=rfl
theorem inL_len (l:List In13):(inL l).length=l.length:=List.length_map ..
theorem cleanIn_cells (x:In13):∀c∈cellsOf (encIn x),NoNm c:=fun c hc=>by
 simp only[encIn,cellsOf,List.mem_cons,List.not_mem_nil,or_false] at hc;rcases hc with rfl|rfl|rfl|rfl|rfl<;>exact .flat _ rfl
theorem cleanInC (l:List In13):∀c,c∈cellsAll (inL l)->NoNm c:=fun c hc=>by
 obtain ⟨v,hv,hc⟩:=List.mem_flatMap.1 hc;obtain ⟨e,he,rfl⟩:=List.mem_map.1 hv;exact cleanIn_cells e c hc
theorem cleanInL (l:List In13):NoNm (imS (inL l)):=.ims _ (cleanInC l)
theorem cellsIn_len:∀l:List In13,(cellsAll (inL l)).length=l.length*5
 |[]=>rfl
 |x::l=>by
  rw[inL,List.map_cons,cellsAll,List.flatMap_cons,List.length_append,← cellsAll,← inL,cellsIn_len l,List.length_cons];show 5+_=_
  omega
theorem cellsIn_5 (l:List In13):∀y,y∈inL l->(cellsOf y).length=5:=fun y hy=>by
 obtain ⟨x,_,rfl⟩:=List.mem_map.1 hy;rfl
structure Pr13 where
 nm:ByteArray
 ps:List Int
 body:List St
def encPr (x:Pr13):Value:=.agg ⟨[.string x.nm,imS (iL x.ps),imS (encSs x.body)]⟩
def prL (l:List Pr13):List Value:=l.map encPr
theorem prL_map (l:List Pr13):prL l=l.map encPr:=rfl
theorem prL_len (l:List Pr13):(prL l).length=l.length:=List.length_map ..
theorem cleanPr_cells (x:Pr13):∀c∈cellsOf (encPr x),NoNm c:=fun c hc=>by
 simp only[encPr,cellsOf,List.mem_cons,List.not_mem_nil,or_false] at hc;rcases hc with rfl|rfl|rfl
 ·exact .flat _ rfl
 ·exact cleanIL _
 ·exact cleanSs _
theorem cleanPrC (l:List Pr13):∀c,c∈cellsAll (prL l)->NoNm c:=fun c hc=>by
 obtain ⟨v,hv,hc⟩:=List.mem_flatMap.1 hc;obtain ⟨e,he,rfl⟩:=List.mem_map.1 hv;exact cleanPr_cells e c hc
theorem cleanPrL (l:List Pr13):NoNm (imS (prL l)):=.ims _ (cleanPrC l)
theorem cellsPr_len:∀l:List Pr13,(cellsAll (prL l)).length=l.length*3
 |[]=>rfl
 |x::l=>by
  rw[prL,List.map_cons,cellsAll,List.flatMap_cons,List.length_append,← cellsAll,← prL,cellsPr_len l,List.length_cons];show 3+_=_
  omega
theorem cellsPr_3 (l:List Pr13):∀y,y∈prL l->(cellsOf y).length=3:=fun y hy=>by
 obtain ⟨x,_,rfl⟩:=List.mem_map.1 hy;rfl
structure Pg where
 slots:Int
 arrs:List Int
 ins:List In13
 procs:List Pr13
 main:List St
def encP (p:Pg):Value:=.agg ⟨[.int .i64 p.slots,imS (iL p.arrs),imS (inL p.ins),imS (prL p.procs),imS (encSs p.main)]⟩
theorem cleanP_cells (p:Pg):∀c∈[.int .i64 p.slots,imS (iL p.arrs),imS (inL p.ins),imS (prL p.procs),imS (encSs p.main)],NoNm c:=fun c hc=>by
 simp only[List.mem_cons,List.not_mem_nil,or_false] at hc;rcases hc with rfl|rfl|rfl|rfl|rfl
 ·exact .flat _ rfl
 ·exact cleanIL _
 ·exact cleanInL _
 ·exact cleanPrL _
 ·exact cleanSs _
theorem cleanP (p:Pg):NoNm (encP p):=.agg _ (cleanP_cells p)
def szPrs:List Pr13->Nat
 |[]=>0
 |x::l=>szSs x.body+szPrs l
theorem szPrs_mem:∀{l:List Pr13}{x:Pr13},x∈l->szSs x.body≤szPrs l
 |[],x,h=>by cases h
 |y::l,x,h=>by
  rw[szPrs];rcases List.mem_cons.1 h with rfl|h
  ·omega
  ·have:=szPrs_mem h;omega
structure FewP (p:Pg):Prop where
 arrs:p.arrs.length≤20
 ins:p.ins.length≤20
 procs:p.procs.length≤20
 ps:∀x∈p.procs,x.ps.length≤20
 sz:szPrs p.procs+szSs p.main≤900
end Go.Proofs.YtnfppdblcmollaaGreatDoor
