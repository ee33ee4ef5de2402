
import Derived.Test.YtcihknonfcldeaaDoorKT12
namespace Go.Proofs.YtcihknonfcldeaaDoor.U
open Go Go.RowKit Go.Sort
set_option linter.unusedVariables false
set_option linter.unusedSimpArgs false
set_option maxRecDepth 100000
set_option maxHeartbeats 40000000
variable {R : Type} {D : Dom R} {P : Program} {cf : CallF R} {fr fr' : Tr Value} {s s' : AS} {o : Oper} {N : Nat}
section
variable {ops l : List Oper} {E : List EntC} {S : Nat → SFC} {st : Nat → AS} {er : List Nat} {K L : Nat → Option Mut} {ms : List Mut}
theorem HeadC.step (H:HeadC P N ops er 0 l K L ms fr fr' s s' E S st) {j:Nat}(hj:j<l.length) (hlg:(st j).lo=s.lo):(st j).next≤(st (j+1)).next∧(st (j+1)).lo=s.lo∧(st (j+1)).glb=(st j).glb∧(∀k,k<(st j).next->(st (j+1)).heap.get k=(st j).heap.get k)∧((∀k,(st j).heap.get k≠none->k<(st j).next)->∀k,(st (j+1)).heap.get k≠none->k<(st (j+1)).next)∧((∀k,(st j).heap.get k≠none->k<(st j).next)->∀k,isLoop ((st j).heap.get k)=true->isLoop ((st (j+1)).heap.get k)=true):=by
 obtain ⟨_,_,h⟩:=H.ent j l[j] (E[j]'(by rw[H.len];exact hj)) (List.getElem?_eq_getElem hj) (List.getElem?_eq_getElem _)
 cases hK:K j with
 |none =>
  rw[hK] at h;cases hL:L j with
  |none =>
   rw[hL] at h;obtain ⟨_,h1,h3,h2⟩:=h;rw[h1] at h3;split at h2
   ·rw[h2];exact ⟨h3.next,rfl,h3.glb,h3.keep,h3.dom,h3.kl⟩
   ·rename_i m _;obtain ⟨hb,hn1,hold,h2⟩:=h2;rw[h2];refine ⟨h3.next,rfl,h3.glb,fun k hk=>?_,fun hd k hk=>?_,fun hd k hk=>?_⟩
    ·show (Tr.set _ m.b none).get k=_
     rw[Tr.get_set,if_neg (by omega)];exact h3.keep k hk
    ·have hk:(Tr.set _ m.b none).get k≠none:=hk;rw[Tr.get_set] at hk;split at hk
     ·exact absurd rfl hk
     ·exact h3.dom hd k hk
    ·show isLoop ((Tr.set _ m.b none).get k)=true
     have hkn:k<(st j).next:=hd k fun h0=>by rw[h0] at hk;cases hk
     rw[Tr.get_set,if_neg (by omega)];exact h3.kl hd k hk
  |some m =>
   rw[hL] at h;obtain ⟨h2,_⟩:=h;rw[h2];exact ⟨Nat.le_refl _,hlg,rfl,fun _ _=>rfl,fun h=>h,fun _ _ h=>h⟩
 |some m =>
  rw[hK] at h;obtain ⟨h2,_⟩:=h;rcases h2 with h2|⟨x,hx,h2⟩
  ·rw[h2];exact ⟨Nat.le_refl _,hlg,rfl,fun _ _=>rfl,fun h=>h,fun _ _ h=>h⟩
  ·rw[h2];refine ⟨Nat.le_succ _,hlg,rfl,fun k hk=>?_,fun hd k hk=>?_,fun hd k hk=>?_⟩
   ·show ((st j).heap.set (st j).next (some x)).get k=_
    rw[Tr.get_set,if_neg (Nat.ne_of_lt hk)]
   ·have hk:((st j).heap.set (st j).next (some x)).get k≠none:=hk;show k<(st j).next+1
    rw[Tr.get_set] at hk;split at hk
    ·omega
    ·have:=hd k hk;omega
   ·show isLoop (((st j).heap.set (st j).next (some x)).get k)=true
    rw[Tr.get_set];split
    ·rename_i e;subst e;have:(st j).heap.get (st j).next≠none:=fun h=>by rw[h] at hk;cases hk
     exact absurd (hd _ this) (Nat.lt_irrefl _)
    ·exact hk
theorem HeadC.lg (H:HeadC P N ops er 0 l K L ms fr fr' s s' E S st):∀(j:Nat),j≤l.length->(st j).lo=s.lo∧(st j).glb=s.glb
 |0,_=>by rw[H.t0];exact ⟨rfl,rfl⟩
 |j+1,hj=>by
  have h0:=H.lg j (by omega)
  have h1:=H.step (show j<l.length by omega) h0.1
  exact ⟨h1.2.1,h1.2.2.1.trans h0.2⟩
theorem HeadC.nx (H:HeadC P N ops er 0 l K L ms fr fr' s s' E S st) {i:Nat}:∀(j:Nat),i≤j->j≤l.length->(st i).next≤(st j).next
 |0,hi,_=>by obtain rfl:i=0:=by omega
             exact Nat.le_refl _
 |j+1,hi,hj=>by
  by_cases he:i=j+1
  ·rw[he];exact Nat.le_refl _
  ·exact Nat.le_trans (H.nx j (by omega) (by omega)) (H.step (by omega) (H.lg j (by omega)).1).1
theorem HeadC.kp (H:HeadC P N ops er 0 l K L ms fr fr' s s' E S st) {i k:Nat}:∀(j:Nat),i≤j->j≤l.length->k<(st i).next->(st j).heap.get k=(st i).heap.get k
 |0,hi,_,_=>by obtain rfl:i=0:=by omega
               rfl
 |j+1,hi,hj,hk=>by
  by_cases he:i=j+1
  ·rw[he]
  ·rw[(H.step (show j<l.length by omega) (H.lg j (by omega)).1).2.2.2.1 k (Nat.lt_of_lt_of_le hk (H.nx j (by omega) (by omega)))];exact H.kp j (by omega) (by omega) hk
theorem HeadC.dm (H:HeadC P N ops er 0 l K L ms fr fr' s s' E S st) (hd:∀k,s.heap.get k≠none->k<s.next):∀(j:Nat),j≤l.length->∀k,(st j).heap.get k≠none->k<(st j).next
 |0,_=>by rw[H.t0];exact hd
 |j+1,hj=>(H.step (show j<l.length by omega) (H.lg j (by omega)).1).2.2.2.2.1 (H.dm hd j (by omega))
theorem HeadC.born (H:HeadC P N ops er 0 l K L ms fr fr' s s' E S st) {j:Nat}{e:EntC}{m:Mut}(he:E[j]?=some e) (hb:e.bo=some m):j<l.length∧m.b=(st j).next∧(st (j+1)).next=(st j).next+1∧K j=none∧L j=none∧e.s'.heap.get m.b=some m.old∧(st (j+1)).heap=e.s'.heap.set m.b none:=by
 have hj:j<l.length:=by rw[← H.len];exact (List.getElem?_eq_some_iff.1 he).1
 obtain ⟨_,_,h⟩:=H.ent j l[j] e (List.getElem?_eq_getElem hj) he;cases hK:K j with
 |some m'=>rw[hK] at h;rw[h.2.2.2.1] at hb;cases hb
 |none =>
  rw[hK] at h;cases hL:L j with
  |some m'=>rw[hL] at h;rw[h.2.2] at hb;cases hb
  |none =>
   rw[hL] at h;obtain ⟨_,_,_,h⟩:=h;rw[hb] at h;obtain ⟨h1,h2,h3,h4⟩:=h;exact ⟨hj,h1,by rw[h4];exact h2,rfl,rfl,h3,by rw[h4];rfl⟩
theorem HeadC.gone (H:HeadC P N ops er 0 l K L ms fr fr' s s' E S st) (hd:∀k,s.heap.get k≠none->k<s.next) {m:Mut}(hm:m∈ms) (hg:s.heap.get m.b=none) {j:Nat}(hj:j≤l.length):(st j).heap.get m.b=none:=by
 rcases H.old m hm with h|⟨j0,e,m',h1,h2,h3⟩
 ·rw[H.kp (i:=0) (k:=m.b) j zL hj (by rw[H.t0];exact h),H.t0];exact hg
 ·obtain ⟨q1,q2,q3,_,_,_,q4⟩:=H.born h1 h2;rcases Nat.lt_or_ge j0 j with hlt|hge
  ·rw[H.kp (i:=j0+1) (k:=m.b) j hlt hj (by omega),q4,Tr.get_set,if_pos h3.symm]
  ·refine Classical.byContradiction fun hne=>?_
   have:=H.dm hd j hj m.b hne;have:=H.nx (i:=j) j0 hge (by omega)
   omega
theorem HeadC.fresh (H:HeadC P N ops er 0 l K L ms fr fr' s s' E S st) {j k:Nat}(hj:j<l.length) (hbo:∀e,E[j]?=some e->e.bo=none) (h1:(st j).next≤k) (h2:k<(st (j+1)).next) {m:Mut}(hm:m∈ms):m.b≠k:=by
 intro he;rcases H.old m hm with h|⟨j0,e,m',q1,q2,q3⟩
 ·have:=H.nx (i:=0) j zL (by omega)
  rw[H.t0] at this;omega
 ·obtain ⟨p1,p2,p3,_⟩:=H.born q1 q2;rcases Nat.lt_trichotomy j0 j with hlt|rfl|hgt
  ·have:=H.nx (i:=j0+1) j hlt (by omega)
   omega
  ·rw[hbo e q1] at q2;cases q2
  ·have:=H.nx (i:=j+1) j0 hgt (by omega)
   omega
theorem HeadC.inr (H:HeadC P N ops er 0 l K L ms fr fr' s s' E S st) {m:Mut}(hm:m∈ms):m.b<s.next∨s.next≤m.b∧m.b<s'.next:=by
 rcases H.old m hm with h|⟨j0,e,m',q1,q2,q3⟩
 ·exact .inl h
 ·obtain ⟨p1,p2,p3,_⟩:=H.born q1 q2;have a1:=H.nx (i:=0) j0 zL (by omega)
  have a2:=H.nx (i:=j0+1) l.length p1 rL;rw[H.t0] at a1;rw[H.t1] at a2;exact .inr (by omega)
theorem HeadC.lp (H:HeadC P N ops er 0 l K L ms fr fr' s s' E S st) (hd:∀k,s.heap.get k≠none->k<s.next):∀(j:Nat),j≤l.length->∀k,isLoop (s.heap.get k)=true->isLoop ((st j).heap.get k)=true
 |0,_,k,hk=>by rw[H.t0];exact hk
 |j+1,hj,k,hk=>(H.step (show j<l.length by omega) (H.lg j (by omega)).1).2.2.2.2.2 (H.dm hd j (by omega)) k (H.lp hd j (by omega) k hk)
theorem HeadC.stp (H:HeadC P N ops er 0 l K L ms fr fr' s s' E S st) (hl:s.lo≤s.next):Stp s s':=by
 have h1:=H.nx (i:=0) l.length zL rL;have h2:=H.lg l.length rL;rw[H.t0,H.t1] at h1;rw[H.t1] at h2;refine ⟨h1,h2.1,h2.2,fun k hk=>?_,fun hd k hk=>?_,fun hd k hk=>?_⟩
 ·have:=H.kp (i:=0) (k:=k) l.length zL rL (by rw[H.t0];omega)
  rw[H.t0,H.t1] at this;exact this
 ·have:=H.dm hd l.length rL k;rw[H.t1] at this;exact this hk
 ·have:=H.lp hd l.length rL k hk;rw[H.t1] at this;exact this
theorem HeadC.slots (H:HeadC P N ops er 0 l K L ms fr fr' s s' E S st) (h0:∀t,Tr.at (pt t) fr≠none->t<N):∀t,Tr.at (pt t) fr'≠none->t<N:=by
 have key:∀(j:Nat),j≤l.length->∀t,N≤t->∀β v,S j t β v:=by
  intro j;induction j with
  |zero =>
   intro _ t ht β v;rw[H.s0];intro u hu;have:=h0 t (by rw[hu];simp)
   omega
  |succ j ih =>
   intro hj t ht β v;obtain ⟨h1,h2,_⟩:=H.ent j l[j] (E[j]'(by rw[H.len];omega)) (List.getElem?_eq_getElem (by omega)) (List.getElem?_eq_getElem _)
   rw[h1];unfold updC;split
   ·rename_i he;have h3:(t:Nat)<N:=h2 t he;exact absurd h3 (Nat.not_lt.2 ht)
   ·exact ih (by omega) t ht β v
 intro t ht;refine Nat.lt_of_not_le fun hle=>?_
 obtain ⟨u,hu⟩:=Option.ne_none_iff_exists'.1 ht;have k1:=key l.length rL t hle ⟨fun _=>none,fun _ _=>none⟩
 rw[H.s1] at k1;have q1:=k1 (.bool true) u hu;have q2:=k1 (.bool false) u hu;cases q1;cases q2
structure OvS (K:Nat->Option Mut) (listed:Array Bool) (s' sF:AS):Prop where
 next:sF.next=s'.next
 lo:sF.lo=s'.lo
 glb:sF.glb=s'.glb
 out:∀k,(∀i m,K i=some m->m.b≠k)->sF.heap.get k=s'.heap.get k
 at_:∀i m,K i=some m->sF.heap.get m.b=if listed.getD i false=true then m.new else some m.old
structure OwnS (ms:List Mut) (s1 s:AS):Prop where
 next:s1.next=s.next
 lo:s1.lo=s.lo
 glb:s1.glb=s.glb
 out:∀k,(∀m∈ms,m.b≠k)->s1.heap.get k=s.heap.get k
 at_:∀m∈ms,m.b<s.next->s1.heap.get m.b=some m.old
 gone:∀m∈ms,s.heap.get m.b=none
 ge:∀m∈ms,s.lo≤m.b
 dis:(ms.map (·.b)).Nodup
theorem some_ne' {α:Type}{x:Option α}{y:α}(h:x=some y):x≠none:=by rw[h];simp
def overS (ms:List Mut) (new:Bool) (s:AS):AS:=⟨ms.foldl (fun h m=>h.set m.b (if new=true then m.new else some m.old)) s.heap,s.next,s.lo,s.glb⟩
theorem fold_get {f:Mut->Option Blk}:∀(ms:List Mut) (h:Tr Blk) (k:Nat),((∀m∈ms,m.b≠k)->(ms.foldl (fun h m=>h.set m.b (f m)) h).get k=h.get k)∧((ms.map (·.b)).Nodup->∀m∈ms,(ms.foldl (fun h m=>h.set m.b (f m)) h).get m.b=f m)
 |[],h,k=>⟨fun _=>rfl,fun _ m hm=>by cases hm⟩
 |m0::ms,h,k=>by
  refine ⟨fun hk=>?_,fun hn m hm=>?_⟩
  ·rw[List.foldl_cons,(fold_get ms _ k).1 fun m hm=>hk m (by simp[hm]),Tr.get_set,if_neg (Ne.symm (hk m0 (by simp)))]
  ·simp only[List.map_cons,List.nodup_cons,List.mem_map,not_exists,not_and] at hn;rw[List.foldl_cons];rcases List.mem_cons.1 hm with rfl|hm
   ·rw[(fold_get ms _ m.b).1 fun m' hm' e=>hn.1 m' hm' e,Tr.get_set,if_pos rfl]
   ·exact (fold_get ms _ k).2 hn.2 m hm
theorem HeadC.start (H:HeadC P N ops er 0 l K L ms fr fr' s s' E S st) {s1:AS}(O:OwnS ms s1 s) {W0 W:World}{β:Bt}{listed:Array Bool}(hno:∀i,listed.getD i false=false) (hR:Rel P W0 β s1 W) (hf:Free β s.next s'.next):∃sF,OvS K listed s' sF∧Rel P W0 β sF W:=by
 have h2:=H.lg l.length rL;rw[H.t1] at h2;have hds:∀k,s.heap.get k≠none->k<s.next:=fun k hk=>by
  have:s1.heap.get k=s.heap.get k:=O.out k fun m hm e=>hk (by rw[← e];exact O.gone m hm)
  rw[← O.next];exact hR.dom k (by rw[this];exact hk)
 have hd:=H.dm hds l.length rL;rw[H.t1] at hd;have hnx:=H.nx (i:=0) l.length zL rL;rw[H.t0,H.t1] at hnx;have hov:OvS K listed s' (overS ms false s'):=⟨rfl,rfl,rfl,fun k hk=>(fold_get ms _ k).1 fun m hm=>by
   obtain ⟨i,hi⟩:=H.kal m hm;exact hk i m hi,fun i m hm=>by
   have:=(fold_get (f:=fun m=>if false=true then m.new else some m.old) ms s'.heap 0).2 O.dis m (H.kin i m hm).1
   rw[hno i];exact this⟩
 have hk:∀k,(overS ms false s').heap.get k≠none->β k≠none->(overS ms false s').heap.get k=s1.heap.get k:=fun k h1 h3=>by
  by_cases hm:∃m∈ms,m.b=k
  ·obtain ⟨m,hm,rfl⟩:=hm;obtain ⟨i,hi⟩:=H.kal m hm;rcases H.inr hm with hlt|hge
   ·rw[hov.at_ i m hi,hno i,O.at_ m hm hlt];rfl
   ·exact absurd (hf m.b hge.1 hge.2) h3
  ·have hm':∀m∈ms,m.b≠k:=fun m h4 e=>hm ⟨m,h4,e⟩
   have e1:(overS ms false s').heap.get k=s'.heap.get k:=hov.out k fun i m hi=>hm' m (H.kin i m hi).1
   rw[e1] at h1 ⊢;rw[O.out k hm'];have:=H.kp (i:=0) (k:=k) l.length zL rL (by
    rw[H.t0];exact Nat.lt_of_not_le fun hle=>h3 (hf k hle (hd k h1)))
   rw[H.t0,H.t1] at this;exact this
 refine ⟨_,hov,⟨fun k b r sp h3 h4=>?_,fun k k' r sp sp' hlk h3 h4 h5 h6=>?_,fun k h3=>?_,hR.lt,fun k r sp h3 h4 h5=>?_,hR.below,(by rw[show (overS ms false s').glb=s1.glb from h2.2.trans O.glb.symm];exact hR.glob),fun r o v hv=>⟨(hR.frz r o v hv).1,fun k sp hlk h3 h4=>(hR.frz r o v hv).2 k sp (by rw[show (overS ms false s').lo=s1.lo from h2.1.trans O.lo.symm] at hlk;exact hlk) (by rw[hk k h3 (some_ne' h4)] at h3;exact h3) h4⟩⟩⟩
 ·rw[hk k (some_ne' h3) (some_ne' h4)] at h3;rw[show (overS ms false s').lo=s1.lo from h2.1.trans O.lo.symm];exact hR.blk k b r sp h3 h4
 ·rw[hk k h3 (some_ne' h5)] at h3;rw[hk k' h4 (some_ne' h6)] at h4;rw[show (overS ms false s').lo=s1.lo from h2.1.trans O.lo.symm] at hlk;exact hR.inj k k' r sp sp' hlk h3 h4 h5 h6
 ·by_cases hm:∃m∈ms,m.b=k
  ·obtain ⟨m,hm,rfl⟩:=hm;rcases H.inr hm with hlt|hge
   ·exact Nat.lt_of_lt_of_le hlt hnx
   ·exact hge.2
  ·rw[hov.out k fun i m hi e=>hm ⟨m,(H.kin i m hi).1,e⟩] at h3
   exact hd k h3
 ·rw[hk k h3 (some_ne' h4)] at h3;rw[show (overS ms false s').lo=s1.lo from h2.1.trans O.lo.symm] at h5;exact hR.ge k r sp h3 h4 h5
theorem HeadC.does (H:HeadC P N ops er 0 l K L ms fr fr' s s' E S st) {j:Nat}{e:EntC}(hj:j<l.length) (he:E[j]?=some e) (hKj:K j=none) (hLj:L j=none) {W0 W:World}{β:Bt}{sF:AS}{listed:Array Bool}(hl:s.lo≤s.next) (hds:∀k,s.heap.get k≠none->k<s.next) (hg:∀m∈ms,s.heap.get m.b=none) (hbu:∀m,e.bo=some m->∀i,K i=some m->listed.getD i false=false) (hov:OvS K listed s' sF) (hR:Rel P W0 β sF W):Rel P W β e.s W ∧
  e.s.next=(st j).next∧e.s'.next=(st (j+1)).next∧∀W' β',Ext W.heap.size β β' (st j).next (st (j+1)).next->Rel P W β' e.s' W'->Rel P W0 β' sF W':=by
 obtain ⟨_,_,h1⟩:=H.ent j l[j] e (List.getElem?_eq_getElem hj) he;rw[hKj,hLj] at h1;obtain ⟨_,h1,h3,h2⟩:=h1;have hlg:=H.lg j (by omega)
 have hlg':=H.lg l.length rL;rw[H.t1,← hov.lo,← hov.glb] at hlg'
 have hdj:=H.dm hds j (by omega)
 have hdF:=hR.dom;have e0:e.s.heap=(st j).heap∧e.s.next=(st j).next∧e.s.lo=(st j).next∧e.s.glb=(st j).glb:=by rw[h1];exact ⟨rfl,rfl,rfl,rfl⟩
 have e1:(∀k,(∀m,e.bo=some m->m.b≠k)->(st (j+1)).heap.get k=e.s'.heap.get k)∧(st (j+1)).next=e.s'.next:=by
  split at h2
  ·rw[h2];exact ⟨fun _ _=>rfl,rfl⟩
  ·rename_i m hm;obtain ⟨_,_,_,h2⟩:=h2;rw[h2];refine ⟨fun k hk=>?_,rfl⟩
   show (e.s'.heap.set m.b none).get k=_
   rw[Tr.get_set,if_neg fun h=>hk m hm h.symm]
 obtain ⟨a1,a2,a3,a4⟩:=e0;obtain ⟨b1,b2⟩:=e1;have hnx0:s.next≤(st j).next:=by
  have:=H.nx (i:=0) j zL (by omega)
  rw[H.t0] at this;exact this
 have kg:∀m∈ms,(st j).heap.get m.b=none:=fun m hm=>H.gone hds hm (hg m hm) (by omega)
 have kj:∀k,k<(st j).next->(st j).heap.get k≠none->sF.heap.get k=(st j).heap.get k:=fun k hk hne=>by
  have:=H.kp (i:=j) (k:=k) l.length (by omega) rL hk
  rw[H.t1] at this;rw[hov.out k fun i m hi e=>hne (by rw[← e];exact kg m (H.kin i m hi).1)]
  exact this
 have kj':∀k,(st j).next≤k->k<(st (j+1)).next->sF.heap.get k=e.s'.heap.get k:=fun k hk0 hk=>by
  cases hbo:e.bo with
  |some m =>
   obtain ⟨_,q2,q3,_,_,q4,_⟩:=H.born he hbo;obtain rfl:m.b=k:=by omega
   obtain ⟨i,hi⟩:=H.kal m (H.bin j e m he hbo).1;rw[hov.at_ i m hi,hbu m hbo i hi,q4];rfl
  |none =>
   have:=H.kp (i:=j+1) (k:=k) l.length (by omega) rL hk
   rw[H.t1,b1 k fun m hm=>by rw[hbo] at hm;cases hm] at this
   rw[hov.out k fun i m hi=>H.fresh hj (fun e' he'=>by rw[he] at he';cases he';exact hbo) hk0 hk (H.kin i m hi).1]
   exact this
 have hnx:(st j).next≤e.s'.next:=by rw[← b2];exact (H.step hj hlg.1).1
 refine ⟨⟨fun k b r sp h4 h5=>?_,fun k k' r sp sp' hlk h4 h5 h6 h7=>?_,?_,hR.lt,fun k r sp h4 h5 h6=>?_,.refl _ _,?_,fun r o v hv=>⟨(hR.frz r o v hv).1,fun k sp hlk h4 h5=>by
  rw[a1] at h4;rw[a3] at hlk;exact absurd (hdj k h4) (Nat.not_lt.2 hlk)⟩⟩,a2,b2.symm,fun W' β' q1 q2=>?_⟩
 ·rw[a1] at h4;have hk:=hdj k (some_ne' h4);exact (hR.blk k b r sp (by rw[kj k hk (some_ne' h4)];exact h4) h5).same (BLe.refl (B:=0) _) (fun h=>by rw[a3] at h;omega) rfl
 ·rw[a1] at h4 h5;rw[a3] at hlk;exact absurd (hdj k h4) (Nat.not_lt.2 hlk)
 ·rw[a1,a2];exact hdj
 ·rw[a1] at h4;have hk:=hdj k h4;rw[a3] at h6;omega
 ·rw[a4,hlg.2,← hlg'.2];exact hR.glob
 ·rw[b2] at q1;-- the names: old ones, and those of this operation
  have hn:∀k x,β' k=some x->β k=some x∨((st j).next≤k∧k<e.s'.next):=fun k x hk=>by
   by_cases hc:k<(st j).next∨e.s'.next≤k
   ·rw[q1.out k hc] at hk;exact .inl hk
   ·exact .inr (by omega)
  have hge:∀k r sp,sF.heap.get k≠none->β' k=some (r,sp)->(st j).next≤k->k<e.s'.next->W.heap.size≤r:=fun k r sp h4 h5 h6 h7=>q2.ge k r sp (by rw[← kj' k h6 (by rw[b2];exact h7)];exact h4) h5 (by rw[h3.lo,a3];exact h6)
  have hRF:Rel P W0 β' sF W':=by
   refine ⟨fun k b r sp h4 h5=>?_,fun k k' r sp sp' hlk h4 h5 h6 h7=>?_,hdF,q2.lt,fun k r sp h4 h5 h6=>?_,hR.below.trans (q2.below.mono hR.below.size),fun g hg=>q1.le _ _ (hR.glob g hg),fun r o v hv=>⟨(q2.frz r o v hv).1,fun k sp hlk h4 h5=>?_⟩⟩
   ·by_cases hc:(st j).next≤k∧k<e.s'.next
    ·refine (q2.blk k b r sp (by rw[← kj' k hc.1 (by rw[b2];exact hc.2)];exact h4) h5).same (BLe.refl (B:=0) _) (fun _=>?_) rfl
     rw[h3.lo,a3];exact hc.1
    ·rcases hn k _ h5 with h5'|h5'
     ·exact (hR.blk k b r sp h4 h5').same q1.le id (q2.below.block r (hR.lt k r sp h5'))
     ·exact absurd h5' hc
   ·by_cases hc:(st j).next≤k∧k<e.s'.next<;>by_cases hc':(st j).next≤k'∧k'<e.s'.next
    ·exact q2.inj k k' r sp sp' (by rw[h3.lo,a3];exact hc.1) (by rw[← kj' k hc.1 (by rw[b2];exact hc.2)];exact h4) (by rw[← kj' k' hc'.1 (by rw[b2];exact hc'.2)];exact h5) h6 h7
    ·have h8:=hge k r sp h4 h6 hc.1 hc.2;rcases hn k' _ h7 with h9|h9
     ·have:=hR.lt k' r sp' h9;omega
     ·exact absurd h9 hc'
    ·have h8:=hge k' r sp' h5 h7 hc'.1 hc'.2;rcases hn k _ h6 with h9|h9
     ·have:=hR.lt k r sp h9;omega
     ·exact absurd h9 hc
    ·rcases hn k _ h6 with h8|h8
     ·rcases hn k' _ h7 with h9|h9
      ·exact hR.inj k k' r sp sp' hlk h4 h5 h8 h9
      ·exact absurd h9 hc'
     ·exact absurd h8 hc
   ·by_cases hc:(st j).next≤k∧k<e.s'.next
    ·exact Nat.le_trans hR.below.size (hge k r sp h4 h5 hc.1 hc.2)
    ·rcases hn k _ h5 with h5'|h5'
     ·exact hR.ge k r sp h4 h5' h6
     ·exact absurd h5' hc
   ·by_cases hc:(st j).next≤k∧k<e.s'.next
    ·exact (q2.frz r o v hv).2 k sp (by rw[h3.lo,a3];exact hc.1) (by rw[← kj' k hc.1 (by rw[b2];exact hc.2)];exact h4) h5
    ·rcases hn k _ h5 with h5'|h5'
     ·rcases q1.le.z.2 r o v hv with hv|hv
      ·exact (hR.frz r o v hv).2 k sp hlk h4 h5'
      ·have:=hR.lt k r sp h5';omega
     ·exact absurd h5' hc
  exact hRF
end
def entU (E:List EntC) (n:Nat):Value :=
 match E[n]? with
 |some e=>e.u
 |none=>undef
def slC (arr:Array Oper) (E:List EntC) (S0:SFC) (L:Nat->Bool):Nat->SFC
 |0=>S0
 |n+1=>fun t=>if L n=true∧(arr[n]?).bind (·.dst)=some t then (fun β v=>VR β (entU E n) v) else slC arr E S0 L n t
section
variable {arr : Array Oper} {E : List EntC} {S0 : SFC} {L L' : Nat → Bool} {t : Nat}
theorem slC_same:∀(n:Nat),(∀i,i<n->(arr[i]?).bind (·.dst)=some t->L i=L' i)->slC arr E S0 L n t=slC arr E S0 L' n t
 |0,_=>rfl
 |n+1,h=>by
  unfold slC;by_cases hd:(arr[n]?).bind (·.dst)=some t
  ·rw[h n (by omega) hd,slC_same n fun i hi=>h i (by omega)]
  ·rw[if_neg (fun e=>hd e.2),if_neg (fun e=>hd e.2),slC_same n fun i hi=>h i (by omega)]
theorem slC_cut (m:Nat):∀(n:Nat),m≤n->(∀i,m≤i->i<n->(arr[i]?).bind (·.dst)=some t->L i=false)->slC arr E S0 L n t=slC arr E S0 L m t
 |0,hm,_=>by rw[Nat.le_zero.1 hm]
 |n+1,hm,h=>by
  by_cases he:m=n+1
  ·rw[he]
  ·have ih:=slC_cut m n (by omega) fun i h1 h2=>h i h1 (by omega)
   rw[← ih];conv=>lhs;unfold slC
   rw[if_neg];rintro ⟨h1,h2⟩
   rw[h n (by omega) (by omega) h2] at h1;cases h1
theorem slC_text {S:Nat->SFC}{l:List Oper}(h0:S 0=S0) (hl:∀j o e,l[j]?=some o->E[j]?=some e->S (j+1)=updC (S j) o.dst e.u) (ha:∀j,j<l.length->arr[j]?=l[j]?) (hE:E.length=l.length):∀(n:Nat),n≤l.length->slC arr E S0 (fun _=>true) n=S n
 |0,_=>h0.symm
 |n+1,hn=>by
  have hn':n<l.length:=by omega
  have h1:=hl n l[n] E[n] (List.getElem?_eq_getElem hn') (List.getElem?_eq_getElem (by omega))
  rw[h1,← slC_text h0 hl ha hE n (by omega)];funext t
  have hx:entU E n=E[n].u:=by unfold entU;rw[List.getElem?_eq_getElem (show n<E.length by omega)]
  show (if (true=true∧(arr[n]?).bind (·.dst)=some t) then (fun β v=>VR β (entU E n) v) else slC arr E S0 (fun _=>true) n t)=(if l[n].dst=some t then (fun β v=>VR β E[n].u v) else slC arr E S0 (fun _=>true) n t)
  rw[ha n hn',List.getElem?_eq_getElem hn',hx];simp
theorem slC_grow {B:Nat}(hS:∀t β β' v,BLe B β β'->S0 t β v->S0 t β' v) {β β':Bt}{v:Value}(hs:BLe B β β'):∀(n:Nat),slC arr E S0 L n t β v->slC arr E S0 L n t β' v
 |0,h=>hS t β β' v hs h
 |n+1,h=>by
  unfold slC at h ⊢
  split
  ·rename_i hc;rw[if_pos hc] at h;exact VR.grow hs h
  ·rename_i hc;rw[if_neg hc] at h;exact slC_grow hS hs n h
end
theorem sfC_grow {B:Nat}:∀t β β' v,BLe B β β'->sfC fr t β v->sfC fr t β' v:=fun t β β' v hs h u hu=>(h u hu).grow hs
section
variable {arr : Array Oper} {E : List EntC} {S0 : SFC} {h : Nat} {listed : Array Bool}
theorem slC_ready {j t:Nat}{oj:Oper}(hp:pairB arr h=true) (inv:HeadInv .any arr h listed) (hj:j∈Region.ready .any arr listed) (hjh:j<h) (hoj:arr[j]?=some oj) (ht:t∈oj.looksAt arr) :
  slC arr E S0 (fun i=>listed.getD i false) h t=slC arr E S0 (fun _=>true) j t:=by
 obtain ⟨w1,w2⟩:=writers hp inv hj hjh hoj (.inl ht);have hun:=getD_both (mem_ready.1 hj).1;rw[slC_cut j h (by omega) fun i h1 h2 hd=>?_]
 ·exact slC_same j fun i hi hd=>w1 i hi hd
 ·by_cases he:j=i
  ·subst he;exact hun
  ·exact w2 i (by omega) h2 hd
theorem slC_after {j:Nat}{oj:Oper}(hp:pairB arr h=true) (inv:HeadInv .any arr h listed) (hj:j∈Region.ready .any arr listed) (hjh:j<h) (hoj:arr[j]?=some oj) (t:Nat) :
  slC arr E S0 (fun i=>(listed.setIfInBounds j true).getD i false) h t=if oj.dst=some t then (fun β v=>VR β (entU E j) v) else slC arr E S0 (fun i=>listed.getD i false) h t:=by
 by_cases hd:oj.dst=some t
 ·rw[if_pos hd];obtain ⟨w1,w2⟩:=writers hp inv hj hjh hoj (.inr hd);rw[slC_cut (j+1) h (by omega) fun i h1 h2 hdi=>by rw[getD_set_ne false (by omega)];exact w2 i (by omega) h2 hdi]
  unfold slC;have hlt:j<listed.size:=by rw[inv.size];exact (Array.getElem?_eq_some_iff.1 hoj).1
  rw[if_pos ⟨by simp[hlt],by simp[hoj,hd]⟩]
 ·rw[if_neg hd];refine slC_same h fun i hi hdi=>?_
  by_cases he:j=i
  ·subst he;simp[hoj] at hdi;exact absurd hdi hd
  ·rw[getD_set_ne false he]
end
def heldB (ops:Array Oper) (h i:Nat) (E:List Nat):Bool:=(List.range (h+1)).any fun j=>decide (i<j)&&Region.waitsFor .any ops j i&&!E.contains j
def earlyF (ops:Array Oper) (h:Nat):Nat->List Nat->List Nat
 |0,E=>E
 |i+1,E=>match heldB ops h i E with
  |true=>earlyF ops h i E
  |false=>earlyF ops h i (i::E)
def earlyL (ops:Array Oper) (h:Nat):List Nat :=
 match decide (h<ops.size) with
 |true=>earlyF ops h h []
 |false=>[]
theorem earlyF_sub {ops:Array Oper}{h:Nat}:∀(i:Nat) (E:List Nat) (x:Nat),x∈E->x∈earlyF ops h i E
 |0,E,x,hx=>hx
 |i+1,E,x,hx=>by
  unfold earlyF;split
  ·exact earlyF_sub i E x hx
  ·exact earlyF_sub i _ x (List.mem_cons_of_mem _ hx)
theorem earlyF_lt {ops:Array Oper}{h:Nat}:∀(i:Nat) (E:List Nat) (x:Nat),x∈earlyF ops h i E->x∈E∨x<i
 |0,E,x,hx=>.inl hx
 |i+1,E,x,hx=>by
  unfold earlyF at hx;split at hx
  ·rcases earlyF_lt i E x hx with h|h
   ·exact .inl h
   ·exact .inr (by omega)
  ·rcases earlyF_lt i _ x hx with h|h
   ·rcases List.mem_cons.1 h with rfl|h
    ·exact .inr (Nat.lt_succ_self _)
    ·exact .inl h
   ·exact .inr (by omega)
theorem earlyF_held {ops:Array Oper}{h:Nat}:∀(i:Nat) (E:List Nat) (x:Nat),x<i->x∉earlyF ops h i E->∃j,x<j∧j≤h∧Region.waitsFor .any ops j x=true
 |0,E,x,hx,_=>by omega
 |i+1,E,x,hx,hn=>by
  by_cases he:x=i
  ·subst he;unfold earlyF at hn;split at hn
   ·rename_i hh;unfold heldB at hh;obtain ⟨j,hj,hj2⟩:=List.any_eq_true.1 hh;simp only[Bool.and_eq_true,decide_eq_true_eq] at hj2;exact ⟨j,hj2.1.1,by have:=List.mem_range.1 hj;omega,hj2.1.2⟩
   ·exact absurd (earlyF_sub x _ x (List.mem_cons_self ..)) hn
  ·unfold earlyF at hn;split at hn
   ·exact earlyF_held i _ x (by omega) hn
   ·exact earlyF_held i _ x (by omega) hn
def isEarly (o:Oper):Bool:=o.guard.isNone&&match o.op with
 |.move _=>true
 |.binOp _ _ _ _ _=>true
 |_=>false
def earlyB (ops:Array Oper):List Nat->Array Bool->Bool
 |[],_=>true
 |i::l,listed=>(match ops[i]? with
  |some o=>isEarly o
  |none=>false)&&(Region.ready .any ops listed).contains i&&Region.free .any ops listed i&&earlyB ops l (listed.setIfInBounds i true)
theorem tail_waitsE {ops:Array Oper}{n:Nat}{listed:Array Bool}(he:∀i∈earlyL ops n,listed.getD i false=true) (hc:Region.chainB .any ops n=true) (hn:n<ops.size) (inv:HeadInv .any ops n listed) :
  ∀(d i:Nat),n-i=d->i<n->listed.getD i true=false->∀t,n≤t->t∉Region.ready .any ops listed:=by
 intro d;induction d using Nat.strongRecOn with
 |_ d ih =>
  intro i hd hi hun t ht hr;obtain ⟨_,ot,hot,hall⟩:=mem_ready.1 hr;have htlt:t<ops.size:=(Array.getElem?_eq_some_iff.1 hot).1;by_cases htn:t=n
  ·subst htn;have hnot:i∉earlyF ops t t []:=fun hm=>by
    have:=he i (by
     unfold earlyL;rw[decide_eq_true hn];exact hm)
    have h2:=getD_both hun;rw[this] at h2;cases h2
   obtain ⟨j,hj1,hj,hj2⟩:=earlyF_held t [] i hi hnot;obtain ⟨oj,hoj,e,he',hb,hon⟩:=Region.waitsFor_spec hj2;have hj2:i<j∧True:=⟨hj1,trivial⟩;have hj:j∈List.range (t+1):=List.mem_range.2 (by omega)
   have hjle:j≤t:=by have:=List.mem_range.1 hj;omega
   by_cases hjt:j=t
   ·subst hjt;have:oj=ot:=Option.some.inj (hoj.symm.trans hot);subst this;have h2:=hall e he' hb;rw[hon,getD_both hun] at h2;cases h2
   ·cases hl:listed.getD j false with
    |true =>
     have h2:=inv.closed j oj hoj hl e he' hb;rw[hon,getD_both hun] at h2;cases h2
    |false =>
     have hjs:j<listed.size:=by rw[inv.size];omega
     exact ih (t-j) (by omega) j rfl (by omega) (getD_in hjs hl) t rL hr
  ·have h1:=List.all_eq_true.1 hc t (List.mem_range.2 htlt);simp only[Bool.or_eq_true,decide_eq_true_eq] at h1;rcases h1 with h1|h1
   ·omega
   ·obtain ⟨o',ho',e,he',hb,hon⟩:=Region.waitsFor_spec h1;have:o'=ot:=Option.some.inj (ho'.symm.trans hot);subst this;have h2:=hall e he' hb;rw[hon,getD_both (inv.tail (t-1) (by omega) (by omega))] at h2
    cases h2
structure InvC (P:Program) (arr:Array Oper) (E:List EntC) (K:Nat->Option Mut) (S0:SFC) (h N:Nat) (W0:World) (β0:Bt) (s s':AS) (st:Nat->AS) (ds:List Deferred) (WS:World) (listed:Array Bool) (a:Act) (W:World) (β:Bt):Prop where
 rel:∃sF,OvS K listed s' sF∧Rel P W0 β sF W
 ext:Ext W0.heap.size β0 β s.next s'.next
 slots:∀t,slC arr E S0 (fun i=>listed.getD i false) h t β (a.tmps.getD t undef)
 size:a.tmps.size=N
 dfr:a.defers=ds
 kd:KD WS W
 lab:∀i,i<h->listed.getD i false=false->Free β (st i).next (st (i+1)).next
 bor:∀i m,K i=some m->listed.getD i false=true->β m.b≠none
section
variable {ops : List Oper} {E : List EntC} {S : Nat → SFC} {st : Nat → AS} {er : List Nat} {K L : Nat → Option Mut} {ms : List Mut} {h : Nat} {listed : Array Bool} {W0 W WS : World} {β0 β : Bt} {a : Act} {ds : List Deferred} {F : Fence} {m : Nat}
theorem invC_step {j:Nat}{oj:Oper}{e:EntC}{Q:Exit->Act->World->Prop}{KK:Act->World->Prop}(hW:WF F) (H:HeadC P N ops er 0 (ops.take h) K L ms fr fr' s s' E S st) (hh:h≤ops.length) (hl:s.lo≤s.next) (hdom:∀k,s.heap.get k≠none->k<s.next) (hg:∀m∈ms,s.heap.get m.b=none∧s.lo≤m.b) (hdis:(ms.map (·.b)).Nodup) (hp:pairB ops.toArray h=true) (inv:HeadInv .any ops.toArray h listed) (hj:j∈Region.ready .any ops.toArray listed) (hjh:j<h) (hoj:ops.toArray[j]?=some oj) (he:E[j]?=some e)
  (I:InvC P ops.toArray E K (sfC fr) h N W0 β0 s s' st ds WS listed a W β)
  (hK:∀a' W' β',InvC P ops.toArray E K (sfC fr) h N W0 β0 s s' st ds WS (listed.setIfInBounds j true) a' W' β'->KK a' W'):wpOpIn F m P ops.toArray Q j KK a W:=by
 have htl:(ops.take h).length=h:=by simp;omega
 have hun:=getD_both (mem_ready.1 hj).1;have hget:∀j,j<h->ops.toArray[j]?=(ops.take h)[j]?:=fun j hj=>by simp[List.getElem?_take_of_lt hj]
 have hoj':(ops.take h)[j]?=some oj:=by rw[← hget j hjh];exact hoj
 obtain ⟨hS,hd,hstep⟩:=H.ent j oj e hoj' he;have hX:entU E j=e.u:=by unfold entU;rw[he]
 have htext:slC ops.toArray E (sfC fr) (fun _=>true) j=S j:=slC_text H.s0 (fun j o e hj he=>(H.ent j o e hj he).1) (fun j hj=>hget j (by omega)) H.len j (by omega)
 have hfree:=I.lab j hjh hun;have hslots:∀t∈oj.looksAt ops.toArray,S j t β (a.tmps.getD t undef):=fun t ht=>by
  have:=I.slots t;rw[slC_ready hp inv hj hjh hoj ht,htext] at this;exact this
 obtain ⟨sF,hov,hRF⟩:=I.rel;-- what holds behind it
 have fin:∀(v:Value) (W':World) (β':Bt) (sF2:AS),OvS K (listed.setIfInBounds j true) s' sF2->Ext W0.heap.size β β' (st j).next (st (j+1)).next->Rel P W0 β' sF2 W'->VR β' e.u v->KD W W'->(∀m,K j=some m->β m.b≠none)->InvC P ops.toArray E K (sfC fr) h N W0 β0 s s' st ds WS (listed.setIfInBounds j true) (a.put oj.dst v) W' β':=fun v W' β' sF2 q0 q1 q2 q3 q4 q5=>by
  refine ⟨⟨sF2,q0,q2⟩,?_,fun t=>?_,by rw[put_size];exact I.size,by cases oj.dst<;>exact I.dfr,I.kd.trans q4,fun i hi hli=>?_,fun i m hm hli=>?_⟩
  ·have m1:=H.nx (i:=0) j zL (by omega)
   have m2:=H.nx (i:=j+1) (ops.take h).length (by omega) rL
   rw[H.t0] at m1;rw[H.t1] at m2;exact ⟨I.ext.le.trans q1.le,fun k hk=>by rw[q1.out k (by omega)];exact I.ext.out k hk⟩
  ·rw[slC_after hp inv hj hjh hoj t];by_cases hdt:oj.dst=some t
   ·rw[if_pos hdt,hX,hdt];have hlt:t<a.tmps.size:=by rw[I.size];exact hd t hdt
    have:=put_self (a:=a) (v:=v) hlt;simpa [this] using q3
   ·rw[if_neg hdt];have:=put_other (a:=a) (x:=oj.dst) (v:=v) (s:=t) hdt;have e2:(a.put oj.dst v).tmps.getD t undef=a.tmps.getD t undef:=by simp[this]
    rw[e2];exact slC_grow sfC_grow q1.le h (I.slots t)
  ·by_cases hij:i=j
   ·subst hij;have hlt:i<listed.size:=by rw[inv.size];exact (Array.getElem?_eq_some_iff.1 hoj).1
    simp[hlt] at hli
   ·have hli':listed.getD i false=false:=by rwa [getD_set_ne false (Ne.symm hij)] at hli
    have hf:=I.lab i hi hli';intro k hk1 hk2;rw[q1.out k ?_]
    ·exact hf k hk1 hk2
    ·rcases Nat.lt_or_gt_of_ne hij with hlt|hlt
     ·have:=H.nx (i:=i+1) j (by omega) (by omega);omega
     ·have:=H.nx (i:=j+1) i (by omega) (by omega);omega
  ·have hb:β m.b≠none:=by
    by_cases hij:i=j
    ·subst hij;exact q5 m hm
    ·exact I.bor i m hm (by rwa [getD_set_ne false (Ne.symm hij)] at hli)
   obtain ⟨x,hx⟩:=Option.ne_none_iff_exists'.1 hb;rw[q1.le _ _ hx];simp
 have hlistj:j<listed.size:=by rw[inv.size];exact (Array.getElem?_eq_some_iff.1 hoj).1
 cases hKj:K j with
 |none =>
  rw[hKj] at hstep;have hov2:OvS K (listed.setIfInBounds j true) s' sF:=⟨hov.next,hov.lo,hov.glb,hov.out,fun i m hm=>by
   have hij:i≠j:=by rintro rfl;rw[hKj] at hm;cases hm
   rw[hov.at_ i m hm,getD_set_ne false (Ne.symm hij)]⟩
  cases hLj:L j with
  |some m0 =>
   rw[hLj] at hstep;obtain ⟨hsteq,hG,_⟩:=hstep;have hlg':=H.lg (ops.take h).length rL;rw[H.t1] at hlg'
   obtain ⟨i0,hi0⟩:=H.kal m0 (H.lin j m0 hLj);have hat:=hov.at_ i0 m0 hi0;have hor:sF.heap.get m0.b=some m0.old∨sF.heap.get m0.b=m0.new:=by
    split at hat
    ·exact .inr hat
    ·exact .inl hat
   obtain ⟨hwan,hres⟩:=hG sF hor (by rw[hov.glb,hlg'.2]) W0 β a W hRF hslots
   unfold wpOpIn;simp only[hoj];rw[hwan];simp only[if_true];refine does_stepC hW hres fun v W' ⟨β',q1,q2,q3,q4⟩=>?_
   exact hK _ _ β' (fin v W' β' sF hov2 (by rw[hsteq];exact q1) q2 q3 q4 fun m hm=>by rw[hKj] at hm;cases hm)
  |none =>
  rw[hLj] at hstep;obtain ⟨hG,_⟩:=hstep;obtain ⟨hRe,n1,n2,hback⟩:=H.does (j:=j) (by omega) he hKj hLj hl hdom (fun m hm=>(hg m hm).1) (fun m0 hm0 i hi=>by
   obtain ⟨q1,q2,q3,_⟩:=H.born he hm0;cases hli:listed.getD i false with
   |false=>rfl
   |true=>exact absurd (hfree m0.b (by omega) (by omega)) (I.bor i m0 hi hli)) hov hRF
  obtain ⟨hwan,hres⟩:=hG W β a W hRe (by rw[n1,n2];exact hfree) hslots
  unfold wpOpIn;simp only[hoj];rw[hwan];cases hw:e.wd with
  |false =>
   rw[hw] at hres;simp only[Bool.false_eq_true,if_false];obtain ⟨r1,r2⟩:=hres;have hn:(st j).next=(st (j+1)).next:=by rw[← n1,← n2,r2]
   exact ⟨fun f _=>hW.fn f,hK _ _ β (fin undef W β sF hov2 (by rw[← hn];exact .refl _ _) hRF (by rw[r1];exact .undef _) (.refl _) fun m hm=>by rw[hKj] at hm;cases hm)⟩
  |true =>
   rw[hw] at hres;simp only[if_true];refine does_stepC hW hres fun v W' ⟨β',q1,q2,q3,q4⟩=>?_
   rw[n1,n2] at q1;exact hK _ _ β' (fin v W' β' sF hov2 (q1.mono hRF.below.size) (hback W' β' q1 q2) q3 q4 fun m hm=>by rw[hKj] at hm;cases hm)
 |some m0 =>
  rw[hKj] at hstep;obtain ⟨_,hnl,hG,hbo,hnam⟩:=hstep;have hlg:=H.lg j (by omega)
  have hlg':=H.lg (ops.take h).length rL;rw[H.t1] at hlg'
  have hmin:=(H.kin j m0 hKj).1;have hnx0:s.next≤(st j).next:=by
   have:=H.nx (i:=0) j zL (by omega)
   rw[H.t0] at this;exact this
  have kg:∀m∈ms,(st j).heap.get m.b=none:=fun m hm=>H.gone hdom hm (hg m hm).1 (by omega)
  have hltj:m0.b<(st j).next:=by
   rcases H.old m0 hmin with h|⟨j0,e0,m',p1,p2,p3⟩
   ·omega
   ·obtain ⟨w1,w2,w3,w4,_⟩:=H.born p1 p2;obtain ⟨p4,p5⟩:=H.bin j0 e0 m' p1 p2;have hm':m'=m0:=by
     obtain ⟨i',hi'⟩:=H.kal m' p4;have:=H.kdis hdis i' j m' m0 hi' hKj p3;subst this;rw[hi'] at hKj;cases hKj;rfl
    subst hm';have:=p5 hdis j hKj;have:=H.nx (i:=j0+1) j (by omega) (by omega)
    omega
  have hdj:=H.dm hdom j (by omega)
  have mid:MidS s.glb m0 (st j) (st (j+1)) sF:=by
   refine ⟨by rw[hov.at_ j m0 hKj,hun];rfl,by rw[hov.lo,hlg'.1];exact (hg m0 hmin).2,by rw[hov.glb,hlg'.2],by rw[hov.lo,hlg'.1,hlg.1],by rw[hov.glb,hlg'.2,hlg.2],fun k y hk=>?_,hdj,hltj,fun k hk1 hk2=>?_,by rw[hlg.1];exact Nat.le_trans hl hnx0⟩
   ·have:=H.kp (i:=j) (k:=k) (ops.take h).length (by omega) rL (hdj k (by rw[hk];simp))
    rw[H.t1] at this;rw[hov.out k fun i m hi e=>by rw[← e,kg m (H.kin i m hi).1] at hk;cases hk]
    rw[this];exact hk
   ·have:=H.kp (i:=j+1) (k:=k) (ops.take h).length (by omega) rL hk2
    rw[H.t1] at this;rw[hov.out k fun i m hi=>H.fresh (by omega) (fun e' he'=>by rw[he] at he';cases he';exact hbo) hk1 hk2 (H.kin i m hi).1]
    exact this
  obtain ⟨hwan,hres⟩:=hG sF mid W0 β a W hRF hfree hslots;unfold wpOpIn;simp only[hoj];rw[hwan];simp only[if_true];refine does_stepC hW hres fun v W' ⟨β',q1,q2,q3,q4⟩=>?_
  refine hK _ _ β' (fin v W' β' _ ?_ q1 q2 q3 q4 fun m hm=>by rw[hKj] at hm;cases hm;exact hnam W0 W sF β a hRF (by rw[hov.glb,hlg'.2]) hslots)
  refine ⟨hov.next,hov.lo,hov.glb,fun k hk=>?_,fun i m hm=>?_⟩
  ·show (sF.heap.set m0.b m0.new).get k=_
   rw[Tr.get_set,if_neg (Ne.symm (hk j m0 hKj))];exact hov.out k hk
  ·show (sF.heap.set m0.b m0.new).get m.b=_
   by_cases hij:i=j
   ·subst hij;rw[hKj] at hm;cases hm;rw[Tr.get_set,if_pos rfl];simp[hlistj]
   ·rw[Tr.get_set,if_neg fun e=>hij (H.kdis hdis i j m m0 hm hKj e),hov.at_ i m hm,getD_set_ne false (Ne.symm hij)]
theorem anyC_inv {g:Nat}{Q:Exit->Act->World->Prop}(hW:WF F) (H:HeadC P N ops er 0 (ops.take h) K L ms fr fr' s s' E S st) (hh:h≤ops.length) (hl:s.lo≤s.next) (hdom:∀k,s.heap.get k≠none->k<s.next) (hg:∀m∈ms,s.heap.get m.b=none∧s.lo≤m.b) (hdis:(ms.map (·.b)).Nodup) (hp:pairB ops.toArray h=true) (hb:backB ops.toArray h=true)
  (htail:h=ops.toArray.size∨(h<ops.toArray.size∧Region.chainB .any ops.toArray h=true))
  (hend:∀listed a W β,HeadInv .any ops.toArray h listed->(∀i,i<h->listed.getD i false=true)->InvC P ops.toArray E K (sfC fr) h N W0 β0 s s' st ds WS listed a W β->wpAnyIn F m P .any ops.toArray Q g listed a W) :
  ∀(f:Nat) (listed:Array Bool) (a:Act) (W:World) (β:Bt),HeadInv .any ops.toArray h listed->(∀i∈earlyL ops.toArray h,listed.getD i false=true)->cnt listed h=f->InvC P ops.toArray E K (sfC fr) h N W0 β0 s s' st ds WS listed a W β->wpAnyIn F m P .any ops.toArray Q (f+g) listed a W:=by
 have hle:h≤ops.toArray.size:=by simpa using hh
 have htl:(ops.take h).length=h:=by simp;omega
 intro f;induction f with
 |zero=>intro listed a W β inv hE hc I;rw[Nat.zero_add];exact hend _ _ _ β inv (cnt_zero h hc) I
 |succ f ih =>
  intro listed a W β inv hE hc I;rw[Nat.succ_add];obtain ⟨i,hi,hun,hbef⟩:=cnt_first h (show 0<cnt listed h by omega)
  have hri:i∈Region.ready .any ops.toArray listed:=by
   have hia:i<ops.toArray.size:=by omega
   refine mem_ready.2 ⟨getD_in (by rw[inv.size];exact hia) hun,ops.toArray[i],by simp[hia],fun e he hbe=>?_⟩
   have h1:=List.all_eq_true.1 hb i (List.mem_range.2 hi);rw[Array.getElem?_eq_getElem hia] at h1;simp only at h1
   have h2:=Array.all_eq_true_iff_forall_mem.1 h1 e he;simp only[hbe,Bool.not_true,Bool.false_or,decide_eq_true_eq] at h2;exact hbef _ h2
  refine ⟨fun h0=>(by rw[h0] at hri;cases hri),fun j hj=>?_⟩
  obtain ⟨hju,oj,hoj,_⟩:=mem_ready.1 hj;have hja:=(Array.getElem?_eq_some_iff.1 hoj).1;have hjh:j<h:=by
   rcases htail with e|⟨e1,e3⟩
   ·omega
   ·exact Nat.lt_of_not_le fun hle'=>tail_waitsE hE e3 e1 inv _ i rfl hi (getD_in (by rw[inv.size];omega) hun) j hle' hj
  have hje:E[j]?=some (E[j]'(by rw[H.len];omega)):=List.getElem?_eq_getElem _
  refine invC_step hW H hh hl hdom hg hdis hp inv hj hjh hoj hje I fun a' W' β' I'=>?_
  refine ih _ _ _ β' (inv.set hj hjh) (fun i hi=>getD_set_true (hE i hi)) ?_ I'
  have:=cnt_set (getD_both hju) (by rw[inv.size];exact hja) h
  rw[if_pos hjh] at this;omega
end
theorem wpAnyIn_of_seq {F:Fence}{n:Nat}{md:Region.Mode}{ops:Array Oper}{Q:Exit->Act->World->Prop}:∀(l:List Oper) (k:Nat) (listed:Array Bool) (a:Act) (w:World),(∀j,l[j]?=ops[k+j]?) ->
  Region.seqB md ops l.length k listed=true->wpListIn F n P ops Q l a w->wpAnyIn F n P md ops Q l.length listed a w
 |[],_,_,_,_,_,hB,h=>⟨by simpa [Region.seqB] using hB,h⟩
 |o::l,k,listed,a,w,hl,hB,h=>by
  have h0:ops[k]?=some o:=by simpa using (hl 0).symm
  simp only[List.length_cons,Region.seqB,Bool.and_eq_true,decide_eq_true_eq] at hB;refine ⟨fun h1=>(by rw[hB.1] at h1;cases h1),fun i hi=>?_⟩
  rw[hB.1] at hi;have hik:i=k:=by simpa using hi
  subst hik;have hgo:∀a' w',wpListIn F n P ops Q l a' w'->wpAnyIn F n P md ops Q l.length (listed.setIfInBounds i true) a' w':=fun a' w' h'=>wpAnyIn_of_seq l (i+1) _ a' w' (fun j=>by have:=hl (j+1);simpa [Nat.add_assoc,Nat.add_comm 1 j] using this) hB.2 h'
  unfold wpListIn at h;unfold wpOpIn;simp only[h0];split
  ·rename_i hw;rw[if_pos hw] at h;exact Oper.wpIn_mono hgo h
  ·rename_i hw;rw[if_neg hw] at h;exact ⟨h.1,hgo _ _ h.2⟩
def freeOpC (o:Oper):Bool :=
 match o.op with
 |.store _ _ _=>false
 |.insert _ _ _ _=>false
 |.mapUpdate _ _ _ _=>false
 |.mapEntry _ _ _=>false
 |.entryStore _ _ _ _=>false
 |.next _ _=>false
 |.call c=>match appArgs c with
  |none=>true
  |some (_,x,_)=>match x with
   |.const _=>true
   |_=>false
 |_=>true
def noDefer (ops:List Oper):Bool:=ops.all fun o=>match o.op with
 |.defer _=>false
 |_=>true
def freeAtC (ops:List Oper) (h:Nat):Bool :=
 (ops.take h).all freeOpC&&pairB ops.toArray h&&backB ops.toArray h&&(decide (h=ops.length) || (decide (h<ops.length)&&Region.chainB .any ops.toArray h)) &&
  Region.seqB .any ops.toArray (ops.length-h) h (canon ops.length h)&&(noDefer ops&&Region.noSelect ops.toArray&&earlyB ops.toArray (earlyL ops.toArray h) (Array.replicate ops.length false))
theorem oper_wf {F:Fence}(hF:WF F) {n:Nat}{o:Oper}{a:Act}{w:World}{K:Act->World->Prop}{Q:Exit->Act->World->Prop}(hd:∀c,o.op≠.defer c) (h:o.wpIn Fence.wide n P a w K Q):o.wpIn F n P a w K Q:=by
 rcases hF with rfl|⟨l,rfl⟩
 ·exact h
 ·refine ⟨fun f _=>trivial,?_⟩
  have h2:=h.2;rw[Oper.semAt_eq _ _ _ hd] at h2 ⊢;exact h2
theorem any_wf {F:Fence}(hF:WF F) {n:Nat}{md:Region.Mode}{ops:List Oper}{Q:Exit->Act->World->Prop}(hd:noDefer ops=true):∀{fuel:Nat}{listed:Array Bool}{a:Act}{w:World},wpAnyIn Fence.wide n P md ops.toArray Q fuel listed a w->wpAnyIn F n P md ops.toArray Q fuel listed a w
 |0,listed,a,w,h=>h
 |fuel+1,listed,a,w,h=>by
  refine ⟨h.1,fun i hi=>?_⟩
  have h2:=h.2 i hi;unfold wpOpIn at h2 ⊢
  split
  ·rename_i ho;rw[ho] at h2;exact any_wf hF hd h2
  ·rename_i o ho;rw[ho] at h2;dsimp only at h2;have hnd:∀c,o.op≠.defer c:=fun c hc=>by
    have:=List.all_eq_true.1 hd o (by
     have:=Array.mem_of_getElem? ho;simpa using this)
    rw[hc] at this;cases this
   split
   ·rename_i hw;rw[if_pos hw] at h2;exact Oper.wpIn_mono (fun a' w' q=>any_wf hF hd q) (oper_wf hF hnd h2)
   ·rename_i hw;rw[if_neg hw] at h2;exact ⟨fun f _=>hF.fn f,any_wf hF hd h2.2⟩
def headN (ops:List Oper):Nat->Option Nat
 |0=>match freeAtC ops 0 with
  |true=>some 0
  |false=>none
 |n+1=>match freeAtC ops (n+1) with
  |true=>some (n+1)
  |false=>headN ops n
theorem headN_spec {ops:List Oper}{n:Nat}:∀(m:Nat),headN ops m=some n->n≤m∧freeAtC ops n=true
 |0,h=>by
  unfold headN at h;split at h
  ·cases h;exact ⟨Nat.le_refl _,by assumption⟩
  ·cases h
 |m+1,h=>by
  unfold headN at h;split at h
  ·cases h;exact ⟨Nat.le_refl _,by assumption⟩
  ·have:=headN_spec m h;exact ⟨by omega,this.2⟩
def setAllC:List (Nat×Option Blk)->AS->(AS->R)->R
 |[],s,k=>k s
 |x::l,s,k=>turnC s x.1 x.2 fun s=>setAllC l s k
theorem setAllC_eq:∀(ms:List Mut) (s:AS) (k:AS->R),setAllC (ms.map fun m=>(m.b,m.new)) s k=k (overS ms true s)
 |[],s,k=>rfl
 |m::ms,s,k=>by
  show turnC s m.b m.new (fun s=>setAllC (ms.map fun m=>(m.b,m.new)) s k)=_
  rw[turnC_eq,setAllC_eq ms];rfl
def killC:List (Nat×Blk)->AS->(AS->R)->R
 |[],s,k=>k s
 |x::l,s,k=>turnC s x.1 none fun s=>killC l s k
def killS (bs:List Nat) (s:AS):AS:=⟨bs.foldl (fun h b=>h.set b none) s.heap,s.next,s.lo,s.glb⟩
theorem killC_eq:∀(M:List (Nat×Blk)) (s:AS) (k:AS->R),killC M s k=k (killS (M.map (·.1)) s)
 |[],s,k=>rfl
 |x::M,s,k=>by
  show turnC s x.1 none (fun s=>killC M s k)=_
  rw[turnC_eq,killC_eq M];rfl
theorem kill_get:∀(bs:List Nat) (h:Tr Blk) (k:Nat),(k∉bs->(bs.foldl (fun h b=>h.set b none) h).get k=h.get k)∧((k∈bs∨h.get k=none)->(bs.foldl (fun h b=>h.set b none) h).get k=none)
 |[],h,k=>⟨fun _=>rfl,fun hk=>hk.resolve_left (by simp)⟩
 |b::bs,h,k=>by
  refine ⟨fun hk=>?_,fun hk=>?_⟩
  ·rw[List.foldl_cons,(kill_get bs _ k).1 fun hm=>hk (by simp[hm]),Tr.get_set,if_neg fun e=>hk (by simp[e])]
  ·rw[List.foldl_cons];refine (kill_get bs _ k).2 ?_;by_cases hb:k∈bs
   ·exact .inl hb
   ·right
    rw[Tr.get_set];split
    ·rfl
    ·rename_i hne;exact hk.resolve_left fun hm=>by
      rcases List.mem_cons.1 hm with h|h
      ·exact hne h
      ·exact hb h
def turnsC (fr:Tr Value) (s:AS) (o:Oper):Option (Nat×Blk) :=
 match o.op with
 |.store _ x _=>match evC s.glb fr x with
  |some (.pointer (some ⟨b,_,_⟩))=>match lookC s b with
   |some blk=>some (b,blk)
   |none=>match Nat.ble s.next b with
    |true=>some (b,.view [])
    |false=>none
  |_=>none
 |.call c=>match appArgs c with
  |some (_,x,_)=>match evC s.glb fr x with
   |some (.slice (some ⟨b,_,none⟩) _ _)=>match lookC s b with
    |some (.cells T xs true)=>some (b,.cells T xs true)
    |_=>none
   |_=>none
  |none=>none
 |.mapEntry _ m _=>match evC s.glb fr m with
  |some (.map (some b))=>match lookC s b with
   |some blk=>some (b,blk)
   |none=>none
  |_=>none
 |_=>none
theorem turnsC_is {x:Nat×Blk}(h:turnsC fr s o=some x):s.heap.get x.1=some x.2∨s.next≤x.1:=by
 unfold turnsC at h;repeat' split at h
 all_goals first|(cases h;exact .inl (by assumption))|(cases h;exact .inr (bR (by assumption)))|(cases h;done)|skip
def mutsC (D:Dom R) (fr:Tr Value) (s:AS):List Oper->(List (Nat×Blk)->R)->R
 |[],k=>k []
 |o::l,k=>match turnsC fr s o with
  |some x=>mutsC D fr s l fun M=>k (x::M)
  |none=>mutsC D fr s l k
theorem mutsC_sound {k:List (Nat×Blk)->R}:∀(l:List Oper) (k:List (Nat×Blk)->R),D.T (mutsC D fr s l k)->∃M,D.T (k M)∧∀x∈M,s.heap.get x.1=some x.2∨s.next≤x.1
 |[],k,h=>⟨[],h,fun x hx=>by cases hx⟩
 |o::l,k,h=>by
  unfold mutsC at h;split at h
  ·rename_i x hx;obtain ⟨M,h1,h2⟩:=mutsC_sound (k:=k) l _ h;refine ⟨_,h1,fun y hy=>?_⟩
   rcases List.mem_cons.1 hy with rfl|hy
   ·exact turnsC_is hx
   ·exact h2 y hy
  ·exact mutsC_sound (k:=k) l _ h
def nodupB:List Nat->Bool
 |[]=>true
 |x::l=>!l.any (Nat.beq x)&&nodupB l
theorem nodupB_is:∀{l:List Nat},nodupB l=true->l.Nodup
 |[],_=>.nil
 |x::l,h=>by
  simp only[nodupB,Bool.and_eq_true,Bool.not_eq_true'] at h;refine List.nodup_cons.2 ⟨fun hm=>?_,nodupB_is h.2⟩
  have:=List.any_eq_false.1 h.1 x hm;simp at this
def mutsOk (s:AS) (M:List (Nat×Blk)):Bool:=M.all (fun x=>Nat.ble s.lo x.1)&&nodupB (M.map (·.1))
def mutOpC (o:Oper):Bool :=
 match o.op with
 |.store _ _ _=>true
 |.call _=>true
 |.mapEntry _ _ _=>true
 |_=>freeOpC o
def stopC (ops:List Oper) (h:Nat):Bool :=
 pairB ops.toArray h&&backB ops.toArray h&&(decide (h=ops.length) || (decide (h<ops.length)&&Region.chainB .any ops.toArray h)) &&
  Region.seqB .any ops.toArray (ops.length-h) h (canon ops.length h)&&(noDefer ops&&Region.noSelect ops.toArray&&earlyB ops.toArray (earlyL ops.toArray h) (Array.replicate ops.length false))
theorem freeAtC_stop {ops:List Oper}{h:Nat}(hc:freeAtC ops h=true):stopC ops h=true:=by
 simp only[freeAtC,stopC,Bool.and_eq_true] at hc ⊢;exact ⟨⟨⟨⟨hc.1.1.1.1.2,hc.1.1.1.2⟩,hc.1.1.2⟩,hc.1.2⟩,hc.2⟩
def headM (ops:List Oper):Nat->Nat->Option Nat
 |0,_=>none
 |f+1,n=>match (ops.take n).all mutOpC&&stopC ops n with
  |true=>some n
  |false=>headM ops f (n+1)
theorem headM_spec {ops:List Oper}{n:Nat}:∀(f i:Nat),i+f≤ops.length+1->headM ops f i=some n->n≤ops.length∧stopC ops n=true
 |0,i,_,h=>by cases h
 |f+1,i,hi,h=>by
  unfold headM at h;split at h
  ·rename_i hb;cases h;simp only[Bool.and_eq_true] at hb;exact ⟨by omega,hb.2⟩
  ·exact headM_spec f (i+1) (by omega) h
def drawAt (D:Dom R) (P:Program) (cf:CallF R) (N:Nat) (ops:List Oper) (n:Nat) (M:List (Nat×Blk)) (fr:Tr Value) (s:AS) (k:Tr Value->AS->R):R :=
 opsH D P cf N ops (earlyL ops.toArray n) 0 (ops.take n) (M.map fun x=>(x.1,x.2,none)) fr s fun fr s news=>setAllC news s fun s=>opsC D P cf N ops (ops.drop n) fr s k
def drawC (D:Dom R) (P:Program) (cf:CallF R) (N:Nat) (ops:List Oper) (fr:Tr Value) (s:AS) (k:Tr Value->AS->R):R :=
 match headN ops ops.length with
 |some n=>drawAt D P cf N ops n [] fr s k
 |none=>match headM ops (ops.length+1) 0 with
  |some n=>opsC D P cf N ops (ops.take n) fr s fun fr1 _=>mutsC D fr1 s (ops.take n) fun M=>ifB D (mutsOk s M) (killC M s fun s0=>drawAt D P cf N ops n M fr s0 k)
  |none=>D.bad
theorem Rel.alike {W0 W:World}{β:Bt}{s':AS}(h:Rel P W0 β s W) (hg:∀k,s'.heap.get k=s.heap.get k) (hn:s'.next=s.next) (hl:s'.lo=s.lo) (hb:s'.glb=s.glb):Rel P W0 β s' W :=
 ⟨fun k b r sp h1 h2=>by rw[hg] at h1;rw[hl];exact h.blk k b r sp h1 h2,fun k k' r sp sp' h0 h1 h2=>by rw[hg] at h1 h2;rw[hl] at h0;exact h.inj k k' r sp sp' h0 h1 h2,fun k h1=>by rw[hg] at h1;rw[hn];exact h.dom k h1,h.lt,fun k r sp h1 h2 h3=>by rw[hg] at h1;rw[hl] at h3;exact h.ge k r sp h1 h2 h3,h.below,by rw[hb];exact h.glob,fun r o v hv=>⟨(h.frz r o v hv).1,fun k sp h1 h2=>(h.frz r o v hv).2 k sp (by rw[← hl];exact h1) (by rw[← hg];exact h2)⟩⟩
theorem allM_map {n:Nat}:∀{M:List (Nat×Blk)}{ms:List Mut},AllM n (M.map fun x=>(x.1,x.2,none)) ms->M.map (·.1)=ms.map (·.b)∧∀m∈ms,m.b<n->(m.b,m.old)∈M
 |[],ms,h=>by cases h;exact ⟨rfl,fun m hm=>by cases hm⟩
 |(b,blk)::M,ms,h=>by
  cases h with
  |cons _ _ _ m _ ms h1 h2 h3 h4 =>
   obtain ⟨q1,q2⟩:=allM_map h4;dsimp only at h1 h2;refine ⟨by rw[List.map_cons,List.map_cons,q1,h1],fun m' hm' hlt=>?_⟩
   rcases List.mem_cons.1 hm' with rfl|hm'
   ·rcases h2 with h2|h2
    ·rw[h1,h2];exact List.mem_cons_self ..
    ·omega
   ·exact List.mem_cons_of_mem _ (q2 m' hm' hlt)
def drawQ (PP:List PanicEntry->World->Prop) (Q:Exit->Act->World->Prop) (ds:List Deferred) (N:Nat):Exit->Act->World->Prop
 |.normal,a,w=>Q .normal a w
 |.panic c,a,w=>a.defers=ds∧a.tmps.size=N∧PP c w
 |_,_,_=>False
theorem drawHead_sound (hm:P.follows .mixedOrders=true) (hc:CallOk P D cf) {ops:List Oper}{X:Tr Value->AS->R}{n:Nat}{M:List (Nat×Blk)}(hnl:n≤ops.length) (hck:stopC ops n=true) (hl:s.lo≤s.next) (hMs:∀x∈M,(s.heap.get x.1=some x.2∨s.next≤x.1)∧s.lo≤x.1) (hMd:(M.map (·.1)).Nodup) (h:D.T (opsH D P cf N ops (earlyL ops.toArray n) 0 (ops.take n) (M.map fun x=>(x.1,x.2,none)) fr (killS (M.map (·.1)) s) fun fr s news=>setAllC news s fun s=>X fr s)):∃fr' s',D.T (X fr' s')∧Stp s s' ∧
  ∀(F:Fence) (m:Nat) (W0:World) (β:Bt) (a:Act) (W:World) (id:Nat) (Q:Exit->Act->World->Prop) (PP:List PanicEntry->World->Prop),WF F->Rel P W0 β s W->Free β s.next s'.next->FrR β N fr a->(∀c a' W',a'.defers=a.defers->a'.tmps.size=N->PP c W'->Q (.panic c) a' W')->(∀a' W',After P W0 N β s s' fr' a W a' W'->wpListIn Fence.wide m P ops.toArray (drawQ PP Q a.defers N) (ops.drop n) a' W')->(Code.region id ops.toArray true).wpIn F m P Q a W:=by
 obtain ⟨fr1,s1,K,L,ms,E,S,st,hM,hk,H⟩:=opsH_sound hc _ _ _ _ _ _ (show (killS (M.map (·.1)) s).lo≤(killS (M.map (·.1)) s).next from hl) h
 replace hM:=allM_map hM;obtain ⟨hbs,hM⟩:=hM;rw[setAllC_eq] at hk;clear h;have O:OwnS ms s (killS (M.map (·.1)) s):=by
  refine ⟨rfl,rfl,rfl,fun k hk=>((kill_get _ _ k).1 fun hm=>?_).symm,fun m hm hlt=>?_,fun m hm=>(kill_get _ _ m.b).2 (.inl ?_),fun m hm=>?_,hbs ▸ hMd⟩
  ·rw[hbs] at hm;obtain ⟨m,h1,h2⟩:=List.mem_map.1 hm;exact hk m h1 h2
  ·exact (hMs (m.b,m.old) (hM m hm hlt)).1.resolve_right fun h=>by
    have h:s.next≤m.b:=h;have hlt:m.b<s.next:=hlt;omega
  ·rw[hbs];exact List.mem_map.2 ⟨m,hm,rfl⟩
  ·have hmm:m.b∈M.map (·.1):=by rw[hbs];exact List.mem_map.2 ⟨m,hm,rfl⟩
   obtain ⟨x,hx,ex⟩:=List.mem_map.1 hmm;rw[← ex];exact (hMs x hx).2
 clear hMs hMd hbs hM;generalize killS (M.map (·.1)) s=s0 at *
 have hl0:s0.lo≤s0.next:=by rw[← O.lo,← O.next];exact hl
 have hst1:=H.stp hl0;have htl:(ops.take n).length=n:=by simp;omega
 have hloop:∀m∈ms,isLoop (some m.old)=false:=fun m hm=>by
  obtain ⟨i,hi⟩:=H.kal m hm;have hlt:=(H.kin i m hi).2;have:=(H.ent i (ops.take n)[i] (E[i]'(by rw[H.len];exact hlt)) (List.getElem?_eq_getElem hlt) (List.getElem?_eq_getElem _)).2.2
  rw[hi] at this;cases hL:L i<;>(rw[hL] at this;exact this.2.1)
 have hgetE:∀k,(∀m∈ms,m.b≠k)->(overS ms true s1).heap.get k=s1.heap.get k:=fun k hk=>(fold_get ms _ k).1 hk
 have hgetM:∀m∈ms,(overS ms true s1).heap.get m.b=m.new:=fun m hm=>(fold_get (f:=fun m=>if true=true then m.new else some m.old) ms s1.heap 0).2 O.dis m hm
 have hstE:Stp s (overS ms true s1):=by
  refine ⟨by rw[O.next];exact hst1.next,hst1.lo.trans O.lo.symm,hst1.glb.trans O.glb.symm,fun k hk=>?_,fun hd k hk=>?_,fun hd k hk=>?_⟩
  ·have hne:∀m∈ms,m.b≠k:=fun m hm e=>by have:=O.ge m hm;rw[← O.lo,e] at this;omega
   rw[hgetE k hne,hst1.keep k (by rw[← O.lo];exact hk),O.out k hne]
  ·by_cases hm:∃m∈ms,m.b=k
   ·obtain ⟨m,hm,rfl⟩:=hm;rcases H.inr hm with hlt|hge
    ·exact Nat.lt_of_lt_of_le hlt hst1.next
    ·exact hge.2
   ·rw[hgetE k fun m h1 e=>hm ⟨m,h1,e⟩] at hk
    refine hst1.dom (fun k' hk'=>?_) k hk
    have:s.heap.get k'=s0.heap.get k':=O.out k' fun m hm e=>hk' (by rw[← e];exact O.gone m hm)
    rw[← O.next];exact hd k' (by rw[this];exact hk')
  ·have hne:∀m∈ms,m.b≠k:=fun m hm e=>by
    rcases H.inr hm with hlt|hge
    ·rw[← e,O.at_ m hm hlt,hloop m hm] at hk;cases hk
    ·have h1:k<s.next:=hd k fun h0=>by rw[h0] at hk;cases hk
     rw[O.next] at h1;omega
   rw[hgetE k hne];refine hst1.kl (fun k' hk'=>?_) k (by rw[← O.out k hne];exact hk)
   have:s.heap.get k'=s0.heap.get k':=O.out k' fun m hm e=>hk' (by rw[← e];exact O.gone m hm)
   rw[← O.next];exact hd k' (by rw[this];exact hk')
 refine ⟨fr1,overS ms true s1,hk,hstE,fun F m W0 β a W id Q PP hW hR hf hF hPP hn=>?_⟩
 have hf:Free β s.next s1.next:=hf;have hdom0:∀k,s0.heap.get k≠none->k<s0.next:=fun k' hk'=>by
  have:s.heap.get k'=s0.heap.get k':=O.out k' fun m hm e=>hk' (by rw[← e];exact O.gone m hm)
  rw[← O.next];exact hR.dom k' (by rw[this];exact hk')
 have hg0:∀m∈ms,s0.heap.get m.b=none∧s0.lo≤m.b:=fun m hm=>⟨O.gone m hm,O.ge m hm⟩
 have hf0:Free β s0.next s1.next:=by rw[← O.next];exact hf
 simp only[stopC,Bool.and_eq_true,Bool.or_eq_true,decide_eq_true_eq] at hck;obtain ⟨⟨⟨⟨hp,hb⟩,htail⟩,hseq⟩,⟨hnd,hns⟩,hearly⟩:=hck;have hdl:(ops.drop n).length=ops.length-n:=by simp
 have hget:∀j,j<n->ops.toArray[j]?=(ops.take n)[j]?:=fun j hj=>by simp[List.getElem?_take_of_lt hj]
 refine wpIn_mono (Q:=drawQ PP Q a.defers N) ?_ (by
  intro e a1 w1 h;cases e;case normal=>exact h
  case panic c=>exact hPP c a1 w1 h.1 h.2.1 h.2.2
  all_goals exact h.elim)
 have hpan0:∀(dst:Option Tmp) (v:Value) c a1 w,drawQ PP Q a.defers N (.panic c) (a1.put dst v) w->drawQ PP Q a.defers N (.panic c) a1 w:=fun dst v c a1 w h=>by
  cases dst with
  |none=>exact h
  |some d=>exact ⟨h.1,by have:=h.2.1;simpa [Act.put] using this,h.2.2⟩
 have hlet0:¬LetsOut (drawQ PP Q a.defers N):=fun ⟨a,w,h⟩=>h.elim
 generalize drawQ PP Q a.defers N=Q' at hn hpan0 hlet0 ⊢
 have hpan:=hpan0;have hlet:=hlet0;refine wpIn_region_any hm (any_wf hW hnd ?_);have inv0:HeadInv .any ops.toArray n (Array.replicate ops.toArray.size false) :=
  ⟨by simp,fun j oj _ hl=>(by rw[getD_replicate_false] at hl;cases hl),fun t _ ht=>getD_in (by simpa using ht) (getD_replicate_false _ _)⟩
 have hcnt:∀m,cnt (Array.replicate ops.toArray.size false) m=m:=fun m=>by
  induction m with
  |zero=>rfl
  |succ m ih=>unfold cnt;rw[ih,getD_replicate_false];simp
 have hR1:Rel P W0 β s { W with drawn:=W.drawn+1 }:=hR.later ⟨rfl,rfl,rfl,Nat.le_refl _,fun _ _=>rfl⟩
 have I0:InvC P ops.toArray E K (sfC fr) n N W0 β s0 s1 st a.defers W (Array.replicate ops.toArray.size false) a { W with drawn:=W.drawn+1 } β :=
  ⟨H.start O (fun i=>getD_replicate_false _ _) hR1 hf0,⟨.refl _,fun _ _=>rfl⟩,fun t=>by
   rw[slC_cut 0 n zL fun i _ _ _=>getD_replicate_false _ _];exact fun u hu=>hF.at_ t u hu,hF.size,rfl,KD.below ⟨rfl,rfl,rfl,Nat.le_refl _,fun _ _=>rfl⟩,fun i hi _=>by
   have m1:=H.nx (i:=0) i zL (by omega)
   have m2:=H.nx (i:=i+1) (ops.take n).length (by omega) rL
   rw[H.t0] at m1;rw[H.t1] at m2;exact fun k h1 h2=>hf0 k (by omega) (by omega),fun i m _ hl=>by rw[getD_replicate_false] at hl;cases hl⟩
 have HH:=anyC_inv (P:=P) (Q:=Q') (F:=Fence.wide) (m:=m) (W0:=W0) (β0:=β) (ds:=a.defers) (WS:=W) (g:=ops.length-n) (.inl rfl) H hnl hl0 hdom0 hg0 O.dis hp hb (by simpa [and_assoc] using htail)
  (fun listed a1 W1 β' inv hall I=>by
   have hcan:=canon_of inv hall;have hfin:FrR β' N fr1 a1:=⟨I.size,fun t u hu=>by
    have:=I.slots t;rw[slC_same (L':=fun _=>true) n (fun i hi _=>hall i hi),slC_text H.s0 (fun j o e hj he=>(H.ent j o e hj he).1) (fun j hj=>hget j (by omega)) H.len n (by omega)] at this;have e:=H.s1
    rw[htl] at e;rw[e] at this;exact this u hu,?_⟩
   ·have hrelE:Rel P W0 β' (overS ms true s1) W1:=by
     obtain ⟨sF,hov,hRF⟩:=I.rel;refine hRF.alike (fun k=>?_) hov.next.symm hov.lo.symm hov.glb.symm
     by_cases hm:∃m∈ms,m.b=k
     ·obtain ⟨m,hm,rfl⟩:=hm;obtain ⟨i,hi⟩:=H.kal m hm;rw[hgetM m hm,hov.at_ i m hi,hall i (by have:=(H.kin i m hi).2;omega)];rfl
     ·rw[hgetE k fun m h1 e=>hm ⟨m,h1,e⟩,hov.out k fun i m hi e=>hm ⟨m,(H.kin i m hi).1,e⟩]
    have hext:Ext W0.heap.size β β' s.next s1.next:=by rw[O.next];exact I.ext
    have hlist:=hn a1 W1 ⟨β',hext,hrelE,hfin,I.kd,I.dfr⟩;have:=wpAnyIn_of_seq (md:=.any) (Q:=Q') (ops.drop n) n listed a1 W1 (fun j=>by simp[List.getElem?_drop]) (by rw[hdl,hcan];simpa using hseq) hlist
    rwa [hdl] at this
   ·exact H.slots hF.lt)
 have e:n+(ops.length-n)=ops.toArray.size:=by simp;omega
 -- the moves that come first
 have first:∀(l:List Nat) (listed:Array Bool) (a1:Act) (W1:World) (β1:Bt) (f:Nat),(∀i∈l,i<n)->(∀i∈l,i∈earlyL ops.toArray n)->earlyB ops.toArray l listed=true->HeadInv .any ops.toArray n listed->(∀i∈earlyL ops.toArray n,i∈l∨listed.getD i false=true)->cnt listed n=f->InvC P ops.toArray E K (sfC fr) n N W0 β s0 s1 st a.defers W listed a1 W1 β1->wpAnyIn Fence.wide m P .any ops.toArray Q' (f+(ops.length-n)) listed a1 W1:=by
  intro l;induction l with
  |nil =>
   intro listed a1 W1 β1 f _ _ _ inv hE hc I;exact HH f listed a1 W1 β1 inv (fun i hi=>(hE i hi).resolve_left (by simp)) hc I
  |cons i l ih =>
   intro listed a1 W1 β1 f hl2 hl3 hB inv hE hc I;simp only[earlyB,Bool.and_eq_true] at hB;obtain ⟨⟨⟨hmv,hrd⟩,hfr⟩,hB⟩:=hB;have hin:i<n:=hl2 i (by simp)
   split at hmv
   ·rename_i oi hoi;have hri:i∈Region.ready .any ops.toArray listed:=by simpa using hrd
    have hiE:E[i]?=some (E[i]'(by rw[H.len];omega)):=List.getElem?_eq_getElem _
    simp only[isEarly,Bool.and_eq_true,Option.isNone_iff_eq_none] at hmv;obtain ⟨hgd,_⟩:=hmv;have hoi':(ops.take n)[i]?=some oi:=by rw[← hget i hin];exact hoi
    have hslots:∀t∈oi.looksAt ops.toArray,S i t β1 (a1.tmps.getD t undef):=fun t ht=>by
     have:=I.slots t;rw[slC_ready hp inv hri hin hoi ht,slC_text H.s0 (fun j o e hj he=>(H.ent j o e hj he).1) (fun j hj=>hget j (by omega)) H.len i (by omega)] at this;exact this
    obtain ⟨v,hex,habout⟩:=H.early i oi hoi' (by rw[Nat.zero_add];exact hl3 i (by simp)) β1 a1 hslots
    have hstep:=invC_step (P:=P) (F:=Fence.wide) (m:=m) (Q:=Q') (KK:=fun a' W'=>∃β',InvC P ops.toArray E K (sfC fr) n N W0 β s0 s1 st a.defers W (listed.setIfInBounds i true) a' W' β') (.inl rfl) H hnl hl0 hdom0 hg0 O.dis hp inv hri hin hoi hiE I fun a' W' β' I'=>⟨β',I'⟩
    have hwan:Region.wanted oi (yielded ops.toArray a1.tmps)=true:=by simp[Region.wanted,hgd]
    have hdef:∀c,oi.op≠.defer c:=fun c hc=>by
     have h9:=hex W1;simp only[execOp,hc,Sem.run_bind] at h9;generalize (resolve a1.eval c oi.type).run P W1=r at h9
     cases r with
     |ok d w=>cases h9
     |halt x w=>cases h9
    obtain ⟨β',I'⟩:∃β',InvC P ops.toArray E K (sfC fr) n N W0 β s0 s1 st a.defers W (listed.setIfInBounds i true) (a1.put oi.dst v) W1 β':=by
     unfold wpOpIn at hstep;simp only[hoi,hwan,if_true] at hstep;have h2:=hstep.2;rw[Oper.semAt_eq _ _ _ hdef,hex W1] at h2;exact h2
    have hju:=(mem_ready.1 hri).1;have hja:=(Array.getElem?_eq_some_iff.1 hoi).1;have hcs:=cnt_set (getD_both hju) (by rw[inv.size];exact hja) n
    rw[if_pos hin] at hcs;obtain ⟨f',rfl⟩:∃f',f=f'+1:=⟨f-1,by omega⟩
    rw[Nat.succ_add];refine wpAnyIn_take rfl hoi hns hfr hrd (hpan _ _) ⟨.inl ⟨hwan,hex⟩,habout⟩ ?_;refine ih _ _ _ β' f' (fun k hk=>hl2 k (by simp[hk])) (fun k hk=>hl3 k (by simp[hk])) hB (inv.set hri hin) (fun k hk=>?_) (by omega) I'
    rcases hE k hk with h|h
    ·rcases List.mem_cons.1 h with rfl|h
     ·right
      have hlt:k<listed.size:=by rw[inv.size];exact hja
      simp[hlt]
     ·exact .inl h
    ·exact .inr (getD_set_true h)
   ·cases hmv
 have hfin:=first (earlyL ops.toArray n) (Array.replicate ops.toArray.size false) a _ β n (fun i hi=>by
  unfold earlyL at hi;split at hi
  ·exact (earlyF_lt n [] i hi).resolve_left (by simp)
  ·cases hi) (fun i hi=>hi) (by simpa using hearly) inv0 (fun i hi=>.inl hi) (hcnt n) I0
 rw[e] at hfin;exact hfin
theorem drawAt_sound (hm:P.follows .mixedOrders=true) (hc:CallOk P D cf) {ops:List Oper}{k:Tr Value->AS->R}{n:Nat}{M:List (Nat×Blk)}(hnl:n≤ops.length) (hck:stopC ops n=true) (hl:s.lo≤s.next) (hMs:∀x∈M,(s.heap.get x.1=some x.2∨s.next≤x.1)∧s.lo≤x.1) (hMd:(M.map (·.1)).Nodup) (h:D.T (drawAt D P cf N ops n M fr (killS (M.map (·.1)) s) k)):∃fr' s',D.T (k fr' s')∧Stp s s' ∧
  ∀(F:Fence) (m:Nat) (W0:World) (β:Bt) (a:Act) (W:World) (id:Nat) (Q:Exit->Act->World->Prop),WF F->Rel P W0 β s W->Free β s.next s'.next->FrR β N fr a->(∀a' W',After P W0 N β s s' fr' a W a' W'->Q .normal a' W')->(Code.region id ops.toArray true).wpIn F m P Q a W:=by
 obtain ⟨fr1,sE,hk,hstE,hrun1⟩:=drawHead_sound hm hc hnl hck hl hMs hMd h;obtain ⟨fr',s',h2,hst2,hrun⟩:=opsC_sound hc _ _ _ _ (by rw[hstE.lo];exact Nat.le_trans hl hstE.next) hk
 refine ⟨fr',s',h2,hstE.trans hst2,fun F m W0 β a W id Q hW hR hf hF hn=>?_⟩
 refine hrun1 F m W0 β a W id Q (fun _ _=>False) hW hR (hf.sub hst2.next) hF (fun _ _ _ _ _ h=>h.elim) fun a1 W1 ⟨β1,q1,q2,q3,q4,q5⟩=>?_
 exact hrun Fence.wide m W0 β1 a1 W1 _ (.inl rfl) q2 (hf.ext q1 hstE.next) q3 fun a' W' ⟨β2,p1,p2,p3,p4,p5⟩=>hn _ _ ⟨β2,q1.trans p1 hstE.next hst2.next,p2,p3,q4.trans p4,p5.trans q5⟩
theorem drawC_sound (hm:P.follows .mixedOrders=true) (hc:CallOk P D cf) {ops:List Oper}{k:Tr Value->AS->R}(hl:s.lo≤s.next) (h:D.T (drawC D P cf N ops fr s k)):∃fr' s',D.T (k fr' s')∧Stp s s' ∧
  ∀(F:Fence) (m:Nat) (W0:World) (β:Bt) (a:Act) (W:World) (id:Nat) (Q:Exit->Act->World->Prop),WF F->Rel P W0 β s W->Free β s.next s'.next->FrR β N fr a->(∀a' W',After P W0 N β s s' fr' a W a' W'->Q .normal a' W')->(Code.region id ops.toArray true).wpIn F m P Q a W:=by
 unfold drawC at h;split at h
 ·rename_i n hn;obtain ⟨hnl,hck⟩:=headN_spec _ hn;exact drawAt_sound hm hc hnl (freeAtC_stop hck) hl (M:=[]) (fun x hx=>by cases hx) .nil h
 ·split at h
  ·rename_i n hn;obtain ⟨hnl,hck⟩:=headM_spec _ _ (by omega) hn
   obtain ⟨fr1,s1,h,_⟩:=opsC_sound hc _ _ _ _ hl h;obtain ⟨M,h,hM⟩:=mutsC_sound (k:=fun _=>D.bad) _ _ h
   replace h:=ifB_sound h;obtain ⟨hok,h⟩:=h;rw[killC_eq] at h;simp only[mutsOk,Bool.and_eq_true] at hok;exact drawAt_sound hm hc hnl hck hl (fun x hx=>⟨hM x hx,bR (List.all_eq_true.1 hok.1 x hx)⟩) (nodupB_is hok.2) h
  ·exact absurd h D.nb
end Go.Proofs.YtcihknonfcldeaaDoor.U
