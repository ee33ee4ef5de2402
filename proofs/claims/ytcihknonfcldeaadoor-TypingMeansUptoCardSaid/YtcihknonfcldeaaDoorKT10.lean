
import Derived.Test.YtcihknonfcldeaaDoorKT09
namespace Go.Proofs.YtcihknonfcldeaaDoor.U
open Go Go.RowKit Go.Sort
set_option linter.unusedVariables false
set_option linter.unusedSimpArgs false
set_option maxRecDepth 100000
set_option maxHeartbeats 40000000
variable {R : Type} {D : Dom R} {P : Program} {cf : CallF R} {fr : Tr Value} {s : AS} {o : Oper} {k : Value → AS → R}
theorem Rel.kill {W0:World}{β:Bt}{W:World}(h:Rel P W0 β s W) (b:Nat):Rel P W0 β ⟨s.heap.set b none,s.next,s.lo,s.glb⟩ W:=by
 have g:∀k x,(s.heap.set b none).get k=some x->s.heap.get k=some x:=fun k x hk=>by
  rw[Tr.get_set] at hk;split at hk
  ·cases hk
  ·exact hk
 have g':∀k,(s.heap.set b none).get k≠none->s.heap.get k≠none:=fun k hk=>by
  obtain ⟨x,hx⟩:=Option.ne_none_iff_exists'.1 hk;rw[g k x hx];simp
 exact ⟨fun k x r sp hk hr=>h.blk k x r sp (g k x hk) hr,fun k k' r sp sp' hl hk hk'=>h.inj k k' r sp sp' hl (g' k hk) (g' k' hk'),fun k hk=>h.dom k (g' k hk),h.lt,fun k r sp hk=>h.ge k r sp (g' k hk),h.below,h.glob,fun r o v hv=>⟨(h.frz r o v hv).1,fun k sp hl hk=>(h.frz r o v hv).2 k sp hl (g' k hk)⟩⟩
theorem Rel.move {W0:World}{β:Bt}{W W':World}(h:Rel P W0 β s W) {b r sp sp':Nat}{x:Blk}(hk:s.heap.get b≠none) (hr:β b=some (r,sp)) (hlo:s.lo≤b) (hfree:β s.next=none)
  (hsz:W'.heap.size=W.heap.size) (hoth:∀i,i≠r->W'.heap[i]?=W.heap[i]?) (hbl:Below W0.heap.size W0 W') (hb:BlkR P (β.set s.next (r,sp')) W' r sp' True x) :
  Rel P W0 (β.set s.next (r,sp')) ((⟨s.heap.set b none,s.next,s.lo,s.glb⟩:AS).push x) W':=by
 have hle:=Bt.set_le (B:=W0.heap.size) (r,sp') hfree;have old:∀k q t,(β.set s.next (r,sp')) k=some (q,t)->(k=s.next∧q=r∧t=sp')∨(k≠s.next∧β k=some (q,t)):=fun k q t hk=>by
  by_cases he:k=s.next
  ·subst he;rw[Bt.set_same] at hk;cases hk;exact .inl ⟨rfl,rfl,rfl⟩
  ·rw[Bt.set_other _ _ he] at hk;exact .inr ⟨he,hk⟩
 have gt:∀k,((s.heap.set b none).set s.next (some x)).get k=if k=s.next then some x else if k=b then none else s.heap.get k:=fun k=>by
  rw[Tr.get_set,Tr.get_set]
 have gn:∀k,k≠s.next->((s.heap.set b none).set s.next (some x)).get k≠none->k≠b∧s.heap.get k≠none:=fun k hk hg=>by
  rw[gt,if_neg hk] at hg;split at hg
  ·exact absurd rfl hg
  ·rename_i hb;exact ⟨hb,hg⟩
 refine ⟨fun k c q t hk hq=>?_,fun k k' q t t' hlk hk hk' hq hq'=>?_,fun k hk=>?_,fun k q t hq=>?_,fun k q t hk hq hl=>?_,hbl,fun g hg=>hle _ _ (h.glob g hg),fun r' o v hv=>?_⟩
 ·have hk:((s.heap.set b none).set s.next (some x)).get k=some c:=hk;rcases old k q t hq with ⟨rfl,rfl,rfl⟩|⟨hne,hq'⟩
  ·rw[gt,if_pos rfl] at hk;cases hk;exact hb.same (BLe.refl (B:=0) _) (fun _=>trivial) rfl
  ·obtain ⟨hkb,_⟩:=gn k hne (by rw[hk];simp)
   rw[gt,if_neg hne,if_neg hkb] at hk;refine (h.blk k c q t hk hq').same hle id (hoth q fun e=>hkb ?_)
   subst e;exact (h.inj b k _ sp t hlo ‹_› (by rw[hk];simp) hr hq').symm
 ·have hk:((s.heap.set b none).set s.next (some x)).get k≠none:=hk;have hk':((s.heap.set b none).set s.next (some x)).get k'≠none:=hk';rcases old k q t hq with ⟨rfl,rfl,rfl⟩|⟨hne,hq1⟩<;>rcases old k' _ t' hq' with ⟨rfl,e,_⟩|⟨hne',hq1'⟩
  ·rfl
  ·obtain ⟨hkb,hg⟩:=gn k' hne' hk';exact absurd (h.inj b k' _ sp t' hlo ‹_› hg hr hq1').symm hkb
  ·obtain ⟨hkb,hg⟩:=gn k hne hk;subst e;exact absurd (h.inj b k _ sp t hlo ‹_› hg hr hq1).symm hkb
  ·exact h.inj k k' q t t' hlk (gn k hne hk).2 (gn k' hne' hk').2 hq1 hq1'
 ·have hk:((s.heap.set b none).set s.next (some x)).get k≠none:=hk;by_cases he:k=s.next
  ·subst he;exact Nat.lt_succ_self _
  ·exact Nat.lt_succ_of_lt (h.dom k (gn k he hk).2)
 ·rw[hsz];rcases old k q t hq with ⟨_,rfl,_⟩|⟨_,hq'⟩
  ·exact h.lt b _ sp hr
  ·exact h.lt k q t hq'
 ·have hk:((s.heap.set b none).set s.next (some x)).get k≠none:=hk;rcases old k q t hq with ⟨_,rfl,_⟩|⟨hne,hq'⟩
  ·exact h.ge b _ sp ‹_› hr hlo
  ·exact h.ge k q t (gn k hne hk).2 hq' hl
 ·obtain ⟨h1,h2⟩:=h.frz r' o v hv;have hne:r'≠r:=fun e=>h2 b sp hlo ‹_› (by rw[e];exact hr)
  refine ⟨by rw[cell_same (hoth r' hne)];exact h1,fun k q hlk hk hq=>?_⟩
  have hk:((s.heap.set b none).set s.next (some x)).get k≠none:=hk;rcases old k r' q hq with ⟨_,e,_⟩|⟨hnk,hq'⟩
  ·exact hne e
  ·exact h2 k q hlk (gn k hnk hk).2 hq'
theorem Rel.allocG {W0:World}{β:Bt}{W:World}(h:Rel P W0 β s W) {q sp:Nat}{b:Blk}{ob:Obj}(hq:s.heap.get q=some b) (hfree:β q=none)
  (hb:BlkR P (β.set q (W.heap.size,sp)) (W.alloc ob) W.heap.size sp True b):Rel P W0 (β.set q (W.heap.size,sp)) s (W.alloc ob):=by
 have hle:=Bt.set_le (B:=W0.heap.size) (W.heap.size,sp) hfree;have hB:Below W.heap.size W (W.alloc ob):=(Below.refl _ _).alloc rL _;have old:∀k r t,(β.set q (W.heap.size,sp)) k=some (r,t)->(k=q∧r=W.heap.size∧t=sp)∨(k≠q∧β k=some (r,t)):=fun k r t hk=>by
  by_cases he:k=q
  ·subst he;rw[Bt.set_same] at hk;cases hk;exact .inl ⟨rfl,rfl,rfl⟩
  ·rw[Bt.set_other _ _ he] at hk;exact .inr ⟨he,hk⟩
 refine ⟨fun k c r t hk hr=>?_,fun k k' r t t' hlk hk hk' hr hr'=>?_,h.dom,fun k r t hr=>?_,fun k r t hk hr hlo=>?_,h.below.trans (hB.mono h.below.size),fun g hg=>hle _ _ (h.glob g hg),fun r o v hv=>?_⟩
 ·rcases old k r t hr with ⟨rfl,rfl,rfl⟩|⟨hne,hr'⟩
  ·rw[hq] at hk;cases hk;exact hb.same (BLe.refl (B:=0) _) (fun _=>trivial) rfl
  ·exact (h.blk k c r t hk hr').same hle id (hB.block r (h.lt k r t hr'))
 ·rcases old k r t hr with ⟨rfl,rfl,rfl⟩|⟨hne,hr1⟩<;>rcases old k' _ t' hr' with ⟨rfl,e,_⟩|⟨hne',hr1'⟩
  ·rfl
  ·exact absurd (h.lt k' _ t' hr1') (Nat.lt_irrefl _)
  ·subst e;exact absurd (h.lt k _ t hr1) (Nat.lt_irrefl _)
  ·exact h.inj k k' r t t' hlk hk hk' hr1 hr1'
 ·have hsz:(W.alloc ob).heap.size=W.heap.size+1:=by simp
  rw[hsz];rcases old k r t hr with ⟨_,rfl,_⟩|⟨_,hr'⟩
  ·omega
  ·have:=h.lt k r t hr';omega
 ·rcases old k r t hr with ⟨_,rfl,_⟩|⟨hne,hr'⟩
  ·exact h.below.size
  ·exact h.ge k r t hk hr' hlo
 ·obtain ⟨h1,h2⟩:=h.frz r o v hv;refine ⟨by rw[cell_same (hB.block r (cell_lt h1))];exact h1,fun k t hlk hk hr=>?_⟩
  rcases old k r t hr with ⟨_,e,_⟩|⟨hne,hr'⟩
  ·have:=cell_lt h1;omega
  ·exact h2 k t hlk hk hr'
theorem Rel.moveG {W0:World}{β:Bt}{W W':World}(h:Rel P W0 β s W) {b q r sp sp':Nat}{x:Blk}(hk:s.heap.get b≠none) (hr:β b=some (r,sp)) (hlo:s.lo≤b) (hq:s.heap.get q=some x) (hqb:q≠b) (hfree:β q=none)
  (hsz:W'.heap.size=W.heap.size) (hoth:∀i,i≠r->W'.heap[i]?=W.heap[i]?) (hbl:Below W0.heap.size W0 W') (hb:BlkR P (β.set q (r,sp')) W' r sp' True x) :
  Rel P W0 (β.set q (r,sp')) ⟨s.heap.set b none,s.next,s.lo,s.glb⟩ W':=by
 have hle:=Bt.set_le (B:=W0.heap.size) (r,sp') hfree;have old:∀k q' t,(β.set q (r,sp')) k=some (q',t)->(k=q∧q'=r∧t=sp')∨(k≠q∧β k=some (q',t)):=fun k q' t hk=>by
  by_cases he:k=q
  ·subst he;rw[Bt.set_same] at hk;cases hk;exact .inl ⟨rfl,rfl,rfl⟩
  ·rw[Bt.set_other _ _ he] at hk;exact .inr ⟨he,hk⟩
 have gn:∀k y,(s.heap.set b none).get k=some y->k≠b∧s.heap.get k=some y:=fun k y hg=>by
  rw[Tr.get_set] at hg;split at hg
  ·cases hg
  ·rename_i hb;exact ⟨hb,hg⟩
 have gn':∀k,(s.heap.set b none).get k≠none->k≠b∧s.heap.get k≠none:=fun k hg=>by
  obtain ⟨y,hy⟩:=Option.ne_none_iff_exists'.1 hg;obtain ⟨h1,h2⟩:=gn k y hy;exact ⟨h1,by rw[h2];simp⟩
 refine ⟨fun k c q' t hk hq'=>?_,fun k k' q' t t' hlk hk hk' hq1 hq2=>?_,fun k hk=>h.dom k (gn' k hk).2,fun k q' t hq'=>?_,fun k q' t hk hq' hl=>?_,hbl,fun g hg=>hle _ _ (h.glob g hg),fun r' o v hv=>?_⟩
 ·obtain ⟨hkb,hk⟩:=gn k c hk;rcases old k q' t hq' with ⟨rfl,rfl,rfl⟩|⟨hne,hq1⟩
  ·rw[hq] at hk;cases hk;exact hb.same (BLe.refl (B:=0) _) (fun _=>trivial) rfl
  ·refine (h.blk k c q' t hk hq1).same hle id (hoth q' fun e=>hkb ?_)
   subst e;exact (h.inj b k _ sp t hlo ‹_› (by rw[hk];simp) hr hq1).symm
 ·obtain ⟨hkb,hg⟩:=gn' k hk;obtain ⟨hkb',hg'⟩:=gn' k' hk';rcases old k q' t hq1 with ⟨rfl,rfl,rfl⟩|⟨hne,hq1'⟩<;>rcases old k' _ t' hq2 with ⟨rfl,e,_⟩|⟨hne',hq2'⟩
  ·rfl
  ·exact absurd (h.inj b k' _ sp t' hlo ‹_› hg' hr hq2').symm hkb'
  ·subst e;exact absurd (h.inj b k _ sp t hlo ‹_› hg hr hq1').symm hkb
  ·exact h.inj k k' q' t t' hlk hg hg' hq1' hq2'
 ·rw[hsz];rcases old k q' t hq' with ⟨_,rfl,_⟩|⟨_,hq1⟩
  ·exact h.lt b _ sp hr
  ·exact h.lt k q' t hq1
 ·obtain ⟨hkb,hg⟩:=gn' k hk;rcases old k q' t hq' with ⟨_,rfl,_⟩|⟨hne,hq1⟩
  ·exact h.ge b _ sp ‹_› hr hlo
  ·exact h.ge k q' t hg hq1 hl
 ·obtain ⟨h1,h2⟩:=h.frz r' o v hv;have hne:r'≠r:=fun e=>h2 b sp hlo ‹_› (by rw[e];exact hr)
  refine ⟨by rw[cell_same (hoth r' hne)];exact h1,fun k t hlk hk hq'=>?_⟩
  obtain ⟨hkb,hg⟩:=gn' k hk;rcases old k r' t hq' with ⟨_,e,_⟩|⟨_,hq1⟩
  ·exact hne e
  ·exact h2 k t hlk hg hq1
theorem Rel.sub {W0:World}{β:Bt}{s':AS}{W:World}(h:Rel P W0 β s W) (hl:s'.lo=s.lo) (hg:s'.glb=s.glb) (hk:∀k x,s'.heap.get k=some x->s.heap.get k=some x) (hd:∀k,s'.heap.get k≠none->k<s'.next):Rel P W0 β s' W:=by
 have g':∀k,s'.heap.get k≠none->s.heap.get k≠none:=fun k hk1=>by
  obtain ⟨x,hx⟩:=Option.ne_none_iff_exists'.1 hk1;rw[hk k x hx];simp
 exact ⟨fun k x r sp h1 h2=>by rw[hl];exact h.blk k x r sp (hk k x h1) h2,fun k k' r sp sp' h0 h1 h2=>h.inj k k' r sp sp' (by rw[← hl];exact h0) (g' k h1) (g' k' h2),hd,h.lt,fun k r sp h1 h2 h3=>h.ge k r sp (g' k h1) h2 (by rw[← hl];exact h3),h.below,by rw[hg];exact h.glob,fun r o v hv=>⟨(h.frz r o v hv).1,fun k sp h1 h2=>(h.frz r o v hv).2 k sp (by rw[← hl];exact h1) (g' k h2)⟩⟩
def catC (l m:List Value) (k:List Value->R):R :=
 match l with
 |[]=>k m
 |x::l=>catC l m fun l=>k (x::l)
theorem catC_eq (m:List Value):∀(l:List Value) (k:List Value->R),catC l m k=k (l++m)
 |[],k=>rfl
 |x::l,k=>by simp only[catC,catC_eq m l,List.cons_append]
def newsC (D:Dom R) (fr:Tr Value) (s:AS) (z:Nat) (y:Operand) (k:Nat->List Value->R):R :=
 match evC s.glb fr y with
 |some (.slice none m _)=>ifB D (Nat.beq m 0) (k 0 [])
 |some (.slice (some ⟨b,off,q⟩) m _)=>onV D (rowOf q (lookC s b)) fun xs=>takeC D (m*z) (dropL xs off) fun l=>k m l
 |some (.func (.yield 0) ⟨xs⟩ ⟨[.bool true]⟩)=>ifB D (Nat.beq (cellsAll xs).length (xs.length*z)&&(cellsAll xs).all Value.oneCell') (k xs.length (cellsAll xs))
 |_=>D.bad
def appendC (D:Dom R) (P:Program) (fr:Tr Value) (s:AS) (t:TypeId) (x y:Operand) (k:Value->AS->R):R :=
 match evC s.glb fr x,rowInfo P t with
 |some (.func (.yield 1) ⟨[]⟩ ⟨[.bool true]⟩),some (T,z,by')=>newsC D fr s z y fun m news=>match m with
  |0=>k imE s
  |m+1=>ifB D (Nat.ble ((m+1)*by') 140737488355328&&Nat.ble (m+1) 1000000) (pushC D s (.cells T news true) fun i s=>k (.slice (some ⟨i,0,none⟩) (m+1) (m+1)) s)
 |some (.slice base n c),some (T,z,by')=>newsC D fr s z y fun m news=>ifB D (Nat.ble n c) (match m with
  |0=>k (.slice base n c) s
  |m+1=>D.frcN (n+(m+1)) fun q=>ifB D (Nat.ble (q*by') 140737488355328&&Nat.ble q 1000000) (match base with
   |none=>ifB D (Nat.beq n 0&&Nat.beq c 0) (pushC D s (.cells T news true) fun i s=>k (.slice (some ⟨i,0,none⟩) q q) s)
   |some ⟨b,off,none⟩=>match lookC s b with
    |some (.cells T' xs op)=>ifB D (Nat.beq T' T) (match Nat.ble q c with
     |true=>ifB D (Nat.beq off 0&&Nat.ble s.lo b) (storeC D xs (n*z) news fun xs=>turnC s b (some (.cells T' xs op)) fun s=>k (.slice (some ⟨b,0,none⟩) q c) s)
     |false=>takeC D (n*z) (dropL xs off) fun olds=>match op with
      |false=>catC olds news fun l=>pushC D s (.cells T l true) fun i s=>k (.slice (some ⟨i,0,none⟩) q q) s
      |true=>ifB D (Nat.beq off 0&&Nat.beq n c&&Nat.beq xs.length (n*z)&&Nat.ble s.lo b) (catC olds news fun l=>turnC s b none fun s=>pushC D s (.cells T l true) fun i s=>k (.slice (some ⟨i,0,none⟩) q q) s))
    |_=>D.bad
   |_=>D.bad))
 |_,_=>D.bad
def NewsIs (β:Bt) (W:World) (z m:Nat) (l:List Value) (v:Value):Prop :=
 ∃l',VRs β l l'∧l.length=m*z∧(∀u∈l',u.oneCell'=true)∧((m=0∧∃ad c,v=.slice ad 0 c)∨∃ad c,v=.slice (some ad) m c∧∀j u,l'[j]?=some u->W.cell? (ad.add j)=some u)
theorem newsC_sound {z:Nat}{y:Operand}{k:Nat->List Value->R}(h:D.T (newsC D fr s z y k)):∃m l,D.T (k m l)∧∀(W0:World) (β:Bt) (a:Act) (W:World),Rel P W0 β s W->(∀u,evC s.glb fr y=some u->VR β u (a.eval y))->(∀u∈l,u.oneCell'=true)∧NewsIs β W z m l (a.eval y):=by
 unfold newsC at h;split at h
 ·rename_i m c hy;replace h:=ifB_sound h;obtain ⟨h0,h⟩:=h;obtain rfl:=Nat.eq_of_beq_eq_true h0;refine ⟨0,[],h,fun W0 β a W hR hf=>⟨by simp,⟨[],.nil _,by simp,by simp,.inl ⟨rfl,none,c,?_⟩⟩⟩⟩
  exact (hf _ hy).flat_eq rfl
 ·rename_i b off q m c hy;replace h:=onV_sound h;obtain ⟨xs,hb,h⟩:=h;rw[dropL_eq] at h;obtain ⟨h1,h2⟩:=takeC_sound _ _ _ h;refine ⟨m,_,h2,fun W0 β a W hR hf=>?_⟩
  obtain ⟨r,sp,c',e1,e2,_⟩:=(hf _ hy).sl_any;obtain ⟨xs',g1,g2,g3,g4⟩:=hR.row hb e1;refine ⟨fun u hu=>g2 u (List.mem_of_mem_drop (List.mem_of_mem_take hu)),_,(g1.drop off).take (m*z),by rw[List.length_take];omega,fun u hu=>g3 u (List.mem_of_mem_drop (List.mem_of_mem_take hu)),.inr ⟨⟨r,vo q sp+off,none⟩,c',e2,fun j u hj=>?_⟩⟩
  rw[add_at,Nat.add_assoc];refine g4 _ _ ?_;have hjl:=(List.getElem?_eq_some_iff.1 hj).1;rw[List.getElem?_take_of_lt (by rw[List.length_take] at hjl;omega),List.getElem?_drop] at hj
  exact hj
 ·rename_i xs hy;replace h:=ifB_sound h;obtain ⟨hb,h⟩:=h;simp only[Bool.and_eq_true] at hb;have hlen:=Nat.eq_of_beq_eq_true hb.1;refine ⟨_,_,h,fun W0 β a W hR hf=>?_⟩
  refine ⟨fun u hu=>List.all_eq_true.1 hb.2 u hu,?_⟩
  rcases VR.imS_inv (xs:=xs) (hf _ hy) with ⟨rfl,ad,e2⟩|⟨ws,z',r,off,c,q1,q2,q3,q4,q5,e2⟩
  ·exact ⟨[],.nil _,by simp[cellsAll],by simp,.inl ⟨rfl,ad,0,e2⟩⟩
  ·exact ⟨ws,q3,hlen,q5,.inr ⟨⟨r,off,none⟩,c,e2,fun j u hj=>by
    rw[add_at];exact fzc_cell (hR.frz r (off+j) u (q4 j u hj)).1 (q5 u (List.mem_of_getElem? hj))⟩⟩
 ·exact absurd h D.nb
theorem run_append_none {t ty e:TypeId}{i:TypeInfo}(ht:P.underlying t=some (.slice e)) (hi:P.info? e=some i) (base:Option Addr) {n c:Nat}(hnc:n≤c) (ad:Option Addr) (c2:Nat) (w:World) :
  (Builtin.append_ #[t,t] ty #[.slice base n c,.slice ad 0 c2]).run P w=.ok (.slice base n c) w:=by
 cases base<;>cases ad<;>simp[Builtin.append_,run_underlying ht,sizeOf,typeInfo,hi,Builtin.lenOf,Builtin.firstCells,hnc,storeCells,loadCells,loadCellsFrom]
theorem grownCap_ge (w:World) (need old:Nat) (e:TypeId):need≤grownCap w need old e:=by
 unfold grownCap Question.cut;exact Nat.le_add_right _ _
theorem zeroCells_size (z:Array Value) (n:Nat):(Builtin.zeroCells z n).size=n*z.size:=by simp[Builtin.zeroCells]
theorem grown_lays {W0:World}{β:Bt}{W:World}{T:TypeId}{l l':List Value}{i:TypeInfo}{zv:Value}{q old:Nat}(hR:Rel P W0 β s W) (hfree:β s.next=none) (hl:s.lo≤s.next) (hi:P.info? T=some i) (hzs:zv.cells.size=i.size) (hv:VRs β l l') (h1:∀u∈l,u.oneCell'=true) (hlen:l.length=q*i.size) :
  LaysC P W0 β W s (s.push (.cells T l true)) (.slice (some ⟨s.next,0,none⟩) q q) (.slice (some ⟨W.heap.size,0,none⟩) q (grownCap W q old T)) (W.drew.alloc (.cells (l'.toArray++Builtin.zeroCells zv.cells (grownCap W q old T-q)) T)):=by
 have hge:=grownCap_ge W q old T;have hR':Rel P W0 β s W.drew:=hR.later ((Below.refl _ _).drew);have hsz:W.drew.heap.size=W.heap.size:=by simp
 have hle:=Bt.set_le (B:=W0.heap.size) (W.drew.heap.size,grownCap W q old T-q) hfree;refine ⟨β.set s.next (W.drew.heap.size,grownCap W q old T-q),⟨hle,fun j hj=>Bt.set_other _ _ (by
  rcases hj with hj|hj
  ·omega
  ·have:s.next+1≤j:=hj;omega)⟩,hR'.alloc hfree ?_,?_,?_⟩
 ·refine ⟨_,_,heap_new _ _,fun _=>rfl,fun h=>(by cases h),?_,fun j u hj=>⟨h1 u (List.mem_of_getElem? hj),?_⟩⟩
  ·have:l'.length=l.length:=hv.1.symm;simp[zeroCells_size,Program.cellsOf,hi,hzs,this]
  ·obtain ⟨v,h2,h3⟩:=hv.get hj;have hjl:=(List.getElem?_eq_some_iff.1 h2).1;exact ⟨v,by rw[Array.getElem?_append_left (by simpa using hjl)];simpa using h2,h3.grow hle⟩
 ·have e:grownCap W q old T=q+(grownCap W q old T-q):=by omega
  have:=VR.sl (β:=β.set s.next (W.drew.heap.size,grownCap W q old T-q)) s.next _ _ 0 q q (Bt.set_same _ _ _);rw[← e,hsz] at this;rw[hsz];exact this
 ·exact KD.below (((Below.refl _ W).drew).alloc (by simp) _)
theorem appendC_sound (hl:s.lo≤s.next) {c:Call}{t:TypeId}{x y:Operand}(ho:o.op=.call c) (happ:appArgs c=some (t,x,y)) (h:D.T (appendC D P fr s t x y k)):∃u s',D.T (k u s')∧OpOk P fr o s u s':=by
 obtain ⟨hcal,hct,hca⟩:=appArgs_spec happ;have opx:x∈o.op.operands:=by simp[ho,Op.operands,Call.operands,hcal,hca]
 have opy:y∈o.op.operands:=by simp[ho,Op.operands,Call.operands,hcal,hca]
 have exec:∀(a:Act) (W W':World) (v w vx:Value),a.eval x=vx->a.eval y=w->(Builtin.append_ #[t,t] o.type #[vx,w]).run P W=.ok v W'->(execOp a.eval o).run P W=.ok (.value v) W':=fun a W W' v w vx hx hy hr=>by
  simp[execOp,ho,resolve,hcal,invoke,builtin,hca,hct,hx,hy,hr]
 unfold appendC at h;split at h
 ·rename_i T z by' hx hri
  obtain ⟨hty,i,zv,hi,hz,hsz,hby,hzs,hpos,_⟩:=rowInfo_spec hri;subst hsz;subst hby;obtain ⟨m,news,h,hnews⟩:=newsC_sound (P:=P) h;cases m with
  |zero =>
   replace h:D.T (k imE s):=h;refine ⟨_,s,h,op_value fun W0 β a W hR hop=>?_⟩
   obtain ⟨_,l',q1,q2,q3,q4⟩:=hnews W0 β a W hR (hop y opy);have hy:∃ad c2,a.eval y=.slice ad 0 c2:=by
    rcases q4 with ⟨_,ad,c2,h⟩|⟨ad,c2,h,_⟩
    ·exact ⟨ad,c2,h⟩
    ·exact ⟨_,c2,h⟩
   obtain ⟨ad,c2,hy⟩:=hy;have hvx:=hop x opx _ hx;obtain ⟨ad0,hx'⟩:=VR.imE_inv hvx;exact ⟨_,exec a W W _ _ _ hx' hy (run_append_none hty hi ad0 rL ad c2 W),by rw[← hx'];exact hvx⟩
  |succ m =>
   replace h:=ifB_sound h;obtain ⟨hb,h⟩:=h;simp only[Bool.and_eq_true] at hb;have hb1:=bR hb.1;have hb2:=bR hb.2;rw[pushC_eq] at h;refine ⟨_,_,h,s.push_stp _ hl,fun W0 β a W hR hfr hop=>?_⟩
   obtain ⟨q0,l',q1,q2,q3,q4⟩:=hnews W0 β a W hR (hop y opy);have hsrc:∃ad c2,a.eval y=.slice (some ad) (m+1) c2∧∀j u,l'[j]?=some u->W.cell? (ad.add j)=some u:=by
    rcases q4 with ⟨h,_⟩|⟨ad,c2,h,h'⟩
    ·omega
    ·exact ⟨ad,c2,h,h'⟩
   obtain ⟨ad,c2,hy,q5⟩:=hsrc;obtain ⟨ad0,hx'⟩:=VR.imE_inv (hop x opx _ hx);have hlen':l'.length=(m+1)*i.size:=by rw[← q1.1];exact q2
   have hg:=grown_lays (old:=0) hR (hfr _ rL (Nat.lt_succ_self _)) hl hi hzs q1 q0 q2;cases ad0 with
   |none =>
    have hr:=run_append_nil (P:=P) W t o.type T i zv hty hi hz ad (m+1) c2 l' hlen' q5 (by omega) (by omega) (by omega)
    rw[exec a W _ _ _ _ hx' hy hr];exact hg
   |some a0 =>
    have hr:=run_append_grow (P:=P) W t o.type T i zv hty hi hz a0 0 0 [] (by simp) (fun j u hj=>by simp at hj) ad (m+1) c2 l' hlen' q5 (by omega) (by omega) (growslice_fits (by omega) (by rw[Nat.zero_add];exact hb1))
    rw[exec a W _ _ _ _ hx' hy hr];rw[show ([]:List Value).toArray++l'.toArray=l'.toArray by simp]
    simp only[Nat.zero_add];exact hg
 ·rename_i base n c T z by' hx hri
  obtain ⟨hty,i,zv,hi,hz,hsz,hby,hzs,hpos,_⟩:=rowInfo_spec hri;subst hsz;subst hby;replace h:=newsC_sound (P:=P) h;obtain ⟨m,news,h,hnews⟩:=h;replace hnews:∀(W0:World) (β:Bt) (a:Act) (W:World),Rel P W0 β s W->OpR β s.glb fr a o->(∀u∈news,u.oneCell'=true)∧NewsIs β W i.size m news (a.eval y):=fun W0 β a W hR hop=>hnews W0 β a W hR (hop y opy)
  replace h:=ifB_sound h;obtain ⟨hnc,h⟩:=h;have hnc:=bR hnc;cases m with
  |zero =>
   -- nothing
   replace h:D.T (k (.slice base n c) s):=h;refine ⟨_,s,h,op_value fun W0 β a W hR hop=>?_⟩
   obtain ⟨_,l',q1,q2,q3,q4⟩:=hnews W0 β a W hR hop;have hy:∃ad c2,a.eval y=.slice ad 0 c2:=by
    rcases q4 with ⟨_,ad,c2,h⟩|⟨ad,c2,h,_⟩
    ·exact ⟨ad,c2,h⟩
    ·exact ⟨_,c2,h⟩
   obtain ⟨ad,c2,hy⟩:=hy;have hvx:=hop x opx _ hx;have:∃base' c',a.eval x=.slice base' n c'∧n≤c':=by
    generalize a.eval x=v at hvx
    cases hvx with
    |flat=>exact ⟨_,_,rfl,hnc⟩
    |sl=>exact ⟨_,_,rfl,by omega⟩
    |slc=>exact ⟨_,_,rfl,hnc⟩
    |vsl=>exact ⟨_,_,rfl,hnc⟩
   obtain ⟨base',c',hx',hc'⟩:=this;exact ⟨_,exec a W W _ _ _ hx' hy (run_append_none hty hi base' hc' ad c2 W),by rw[← hx'];exact hvx⟩
  |succ m =>
   dsimp only at h;rw[D.frcN_eq] at h;replace h:=ifB_sound h;obtain ⟨hb,h⟩:=h;simp only[Bool.and_eq_true] at hb;have hb1:=bR hb.1;have hb2:=bR hb.2;have src:∀(W0:World) (β:Bt) (a:Act) (W:World),Rel P W0 β s W->OpR β s.glb fr a o->(∀u∈news,u.oneCell'=true)∧∃l' ad c2,VRs β news l'∧news.length=(m+1)*i.size∧(∀u∈l',u.oneCell'=true)∧a.eval y=.slice (some ad) (m+1) c2∧∀j u,l'[j]?=some u->W.cell? (ad.add j)=some u:=fun W0 β a W hR hop=>by
    obtain ⟨q0,l',q1,q2,q3,q4⟩:=hnews W0 β a W hR hop;rcases q4 with ⟨h,_⟩|⟨ad,c2,h,h'⟩
    ·omega
    ·exact ⟨q0,l',ad,c2,q1,q2,q3,h,h'⟩
   split at h
   ·-- to a nil slice
    replace h:=ifB_sound h;obtain ⟨h0,h⟩:=h;simp only[Bool.and_eq_true] at h0;obtain rfl:=Nat.eq_of_beq_eq_true h0.1;obtain rfl:=Nat.eq_of_beq_eq_true h0.2;rw[pushC_eq] at h;refine ⟨_,_,h,s.push_stp _ hl,fun W0 β a W hR hfr hop=>?_⟩
    obtain ⟨q0,l',ad,c2,q1,q2,q3,q4,q5⟩:=src W0 β a W hR hop;have hx':=(hop x opx _ hx).flat_eq rfl;have hlen':l'.length=(m+1)*i.size:=by rw[← q1.1];exact q2
    have hr:=run_append_nil (P:=P) W t o.type T i zv hty hi hz ad (m+1) c2 l' hlen' q5 (by omega) (by omega) (by rw[Nat.zero_add] at hb1;omega)
    rw[exec a W _ _ _ _ hx' q4 hr];simp only[Nat.zero_add];exact grown_lays hR (hfr _ rL (Nat.lt_succ_self _)) hl hi hzs q1 q0 q2
   ·rename_i b off;split at h
    ·rename_i T' xs op hlook
     have hlook':s.heap.get b=some (.cells T' xs op):=hlook;replace h:=ifB_sound h;obtain ⟨hT,h⟩:=h;obtain rfl:=Nat.eq_of_beq_eq_true hT;split at h
     ·-- within the cells that are told
      rename_i hq;have hq:=bR hq;replace h:=ifB_sound h;obtain ⟨h0,h⟩:=h;simp only[Bool.and_eq_true] at h0;obtain rfl:=Nat.eq_of_beq_eq_true h0.1;have hlo:=bR h0.2;replace h:=storeC_sound _ _ _ _ h
      obtain ⟨hle,h⟩:=h;rw[turnC_eq] at h;refine ⟨_,_,h,Stp.turn _ (by rw[hlook'];simp) hlo (by rw[hlook'];simp[isLoop]),fun W0 β a W hR hfr hop=>?_⟩
      ·obtain ⟨q0,l',ad,c2,q1,q2,q3,q4,q5⟩:=src W0 β a W hR hop;obtain ⟨r,sp,e1,e2⟩:=(hop x opx _ hx).sl_inv;obtain ⟨cs,fz,g1,g2,g3,g4,g5,g6,g7,g8⟩:=(hR.blk b _ r sp hlook' e1).real;obtain rfl:=g2 hlo
       have hlen':l'.length=(m+1)*i.size:=by rw[← q1.1];exact q2
       have hcsz:xs.length≤cs.size:=by rw[g4];omega
       have hr:=run_append_room (P:=P) W t o.type T' i hty hi r n (c+sp) cs g1 ad (m+1) c2 l' hlen' q5 q3 (by omega) (by omega)
       rw[exec a W _ _ _ _ e2 q4 hr];obtain ⟨s1,s2⟩:=vrs_stored (off:=n*i.size) g5 q1 hle;have hge:=hR.ge b r sp (by rw[hlook'];simp) e1 hlo
       refine ⟨β,.refl _ _,hR.write (by rw[hlook'];simp) e1 hlo (setRow_size _ _ _) (fun j hj=>setRow_other _ _ _ _ hj) (below_setRow hR.below hge _) ?_,.sl _ _ _ _ _ _ e1,.write g1 (by simp) (fun j hj=>setRow_other _ _ _ _ hj) (setRow_size _ _ _) (hw:=fun cs0 T0 fz0 h0=>by cases h0;exact ⟨_,_,setRow_heap W r cs _ T' _ g1,(by simp[stored];omega),fun _=>rfl⟩)⟩
       refine ⟨_,_,setRow_heap W r cs _ T' _ g1,fun _=>rfl,g3,?_,fun j v hj=>⟨?_,?_⟩⟩
       ·rw[s2,← g4];simp;omega
       ·have hm:=List.mem_of_getElem? hj;simp only[List.mem_append] at hm;rcases hm with (hm|hm)|hm
        ·exact g6 _ (List.mem_of_mem_take hm)
        ·exact q0 _ hm
        ·exact g6 _ (List.mem_of_mem_drop hm)
       ·obtain ⟨v',h2,h3⟩:=s1.get hj;rw[List.getElem?_take] at h2;split at h2
        ·exact ⟨v',by simpa [Go.Proofs.YtcihknonfcldeaaDoor.stored] using h2,h3⟩
        ·cases h2
     ·rename_i hq;have hq:c<n+(m+1):=by
       have:¬(n+(m+1)≤c):=fun h=>by rw[bLe h] at hq;cases hq
       omega
      rw[dropL_eq] at h;replace h:=takeC_sound _ _ _ h;obtain ⟨ht,h⟩:=h;rw[List.length_drop] at ht;-- what is there already
      have olds:∀(W0:World) (β:Bt) (a:Act) (W:World) (r sp:Nat),Rel P W0 β s W->β b=some (r,sp)->∃ol,VRs β ((xs.drop off).take (n*i.size)) ol∧ol.length=n*i.size∧(∀u∈(xs.drop off).take (n*i.size),u.oneCell'=true)∧∀j u,ol[j]?=some u->W.cell? ((⟨r,off,none⟩:Addr).add j)=some u:=fun W0 β a W r sp hR e1=>by
       obtain ⟨cs,fz,_,_,_,_,g1,g2,g3,g4⟩:=(hR.blk b _ r sp hlook' e1).real;refine ⟨_,(g1.drop off).take (n*i.size),by rw[← ((g1.drop off).take (n*i.size)).1,List.length_take,List.length_drop];omega,fun u hu=>g2 u (List.mem_of_mem_drop (List.mem_of_mem_take hu)),fun j u hj=>?_⟩
       rw[add_at];refine g4 _ _ ?_;have hjl:=(List.getElem?_eq_some_iff.1 hj).1;rw[List.getElem?_take_of_lt (by rw[List.length_take] at hjl;omega),List.getElem?_drop] at hj
       exact hj
      -- into new memory
      have grow:∀(W0:World) (β:Bt) (a:Act) (W:World) (r sp:Nat) (s1:AS),Rel P W0 β s W->Rel P W0 β s1 W->s1.next=s.next->s1.lo=s.lo->Free β s.next (s.next+1)->OpR β s.glb fr a o->β b=some (r,sp)->a.eval x=.slice (some ⟨r,off,none⟩) n (c+sp)->c+sp<n+(m+1) ->
        DoesC P W0 β s (s1.push (.cells T' ((xs.drop off).take (n*i.size)++news) true)) (.slice (some ⟨s1.next,0,none⟩) (n+(m+1)) (n+(m+1))) W ((execOp a.eval o).run P W):=fun W0 β a W r sp s1 hR hR1 hn hlo1 hfr hop e1 e2 hcap=>by
       obtain ⟨q0,l',ad,c2,q1,q2,q3,q4,q5⟩:=src W0 β a W hR hop;obtain ⟨ol,p1,p2,p3,p4⟩:=olds W0 β a W r sp hR e1;have hlen':l'.length=(m+1)*i.size:=by rw[← q1.1];exact q2
       have hr:=run_append_grow (P:=P) W t o.type T' i zv hty hi hz ⟨r,off,none⟩ n (c+sp) ol p2 p4 ad (m+1) c2 l' hlen' q5 hcap (by omega) (growslice_fits hcap (by omega))
       rw[exec a W _ _ _ _ e2 q4 hr];have hg:=grown_lays (s:=s1) (old:=c+sp) hR1 (hfr s1.next (by omega) (by omega)) (by omega) hi hzs (p1.app q1) (fun u hu=>by rcases List.mem_append.1 hu with hu|hu;exact p3 u hu;exact q0 u hu) (q:=n+(m+1)) (by rw[List.length_append,q2,p1.1,p2,← Nat.add_mul])
       rw[show ol.toArray++l'.toArray=(ol++l').toArray by simp];obtain ⟨β',g1,g2,g3,g4⟩:=hg;exact ⟨β',by rw[hn] at g1;exact g1,g2,g3,g4⟩
      split at h
      ·rw[catC_eq,pushC_eq] at h;refine ⟨_,_,h,s.push_stp _ hl,fun W0 β a W hR hfr hop=>?_⟩
       obtain ⟨r,sp,e1,e2⟩:=(hop x opx _ hx).sl_inv;obtain ⟨cs,fz,_,_,h0,_⟩:=hR.blk b _ r sp hlook' e1;obtain rfl:=h0 rfl;exact grow W0 β a W r 0 s hR hR rfl rfl hfr hop e1 e2 (by omega)
      ·replace h:=ifB_sound h;obtain ⟨h0,h⟩:=h;simp only[Bool.and_eq_true] at h0;obtain ⟨⟨⟨ha,hb3⟩,hc3⟩,hd⟩:=h0;obtain rfl:=Nat.eq_of_beq_eq_true ha;obtain rfl:=Nat.eq_of_beq_eq_true hb3;have hxl:=Nat.eq_of_beq_eq_true hc3
       have hlo:=bR hd;rw[catC_eq,turnC_eq,pushC_eq] at h;refine ⟨_,_,h,(Stp.turn none (by rw[hlook'];simp) hlo (by rw[hlook'];simp[isLoop])).trans (AS.push_stp _ _ hl),fun W0 β a W hR hfr hop=>?_⟩
       ·obtain ⟨r,sp,e1,e2⟩:=(hop x opx _ hx).sl_inv;by_cases hcap:n+(m+1)≤n+sp
        ·obtain ⟨q0,l',ad,c2,q1,q2,q3,q4,q5⟩:=src W0 β a W hR hop;obtain ⟨cs,fz,g1,g2,g3,g4,g5,g6,g7,g8⟩:=(hR.blk b _ r sp hlook' e1).real;obtain rfl:=g2 hlo;have hlen':l'.length=(m+1)*i.size:=by rw[← q1.1];exact q2
         have hco:P.cellsOf T'=i.size:=by simp[Program.cellsOf,hi]
         have hmul:(m+1)*i.size≤sp*i.size:=Nat.mul_le_mul_right _ (by omega)
         have hr:=run_append_room (P:=P) W t o.type T' i hty hi r n (n+sp) cs g1 ad (m+1) c2 l' hlen' q5 q3 hcap (by rw[g4,hco,hxl,hlen'];omega)
         rw[exec a W _ _ _ _ e2 q4 hr];have hge:=hR.ge b r sp (by rw[hlook'];simp) e1 hlo
         have hfree:=hfr s.next rL (Nat.lt_succ_self _);have hle:=Bt.set_le (B:=W0.heap.size) (r,sp-(m+1)) hfree;refine ⟨β.set s.next (r,sp-(m+1)),⟨hle,fun j hj=>Bt.set_other _ _ (by
          rcases hj with hj|hj
          ·omega
          ·have:s.next+1≤j:=hj;omega)⟩,hR.move (by rw[hlook'];simp) e1 hlo hfree (setRow_size _ _ _) (fun j hj=>setRow_other _ _ _ _ hj) (below_setRow hR.below hge _) ?_,?_,.write g1 (by simp) (fun j hj=>setRow_other _ _ _ _ hj) (setRow_size _ _ _) (hw:=fun cs0 T0 fz0 h0=>by cases h0;exact ⟨_,_,setRow_heap W r cs _ T' _ g1,(by first|(simp[stored];omega)|(have hcl:cs.toList.length=xs.length+sp*i.size:=(by rw[← hco];simpa using g4);have hz:cs.size=xs.length+sp*i.size:=(by rw[← hco];exact g4);rw[hz];simp only[List.size_toArray,List.length_append,List.length_take,List.length_drop,hcl,hlen',hxl];omega)),fun _=>rfl⟩)⟩
         ·have hxs:(xs.drop 0).take (n*i.size)=xs:=by rw[List.drop_zero,← hxl,List.take_length]
          rw[hxs];have hcl:cs.toList.length=xs.length+sp*i.size:=by rw[← hco];simpa using g4
          have hspl:(sp-(m+1))*i.size+(m+1)*i.size=sp*i.size:=by rw[← Nat.add_mul];congr 1;omega
          refine ⟨_,_,setRow_heap W r cs _ T' _ g1,fun _=>rfl,fun h=>(by cases h),?_,fun j v hj=>⟨?_,?_⟩⟩
          ·rw[hco];simp only[List.size_toArray,List.length_append,List.length_take,List.length_drop,hcl,hlen',q2,hxl];omega
          ·have hm:=List.mem_of_getElem? hj;rcases List.mem_append.1 hm with hm|hm
           ·exact g6 _ hm
           ·exact q0 _ hm
          ·obtain ⟨v',h2,h3⟩:=(g5.app q1).get hj;refine ⟨v',?_,h3.grow hle⟩;rw[hxl] at h2;have hjl:=(List.getElem?_eq_some_iff.1 h2).1;simp only[List.getElem?_toArray];rw[List.getElem?_append_left hjl]
           exact h2
         ·have e:n+sp=n+(m+1)+(sp-(m+1)):=by omega
          rw[e];exact .sl _ _ _ _ _ _ (Bt.set_same _ _ _)
        ·exact grow W0 β a W r sp ⟨s.heap.set b none,s.next,s.lo,s.glb⟩ hR (hR.kill b) rfl rfl hfr hop e1 e2 (by omega)
    ·exact absurd h D.nb
   ·exact absurd h D.nb
 ·exact absurd h D.nb
def appM (D:Dom R) (P:Program) (fr:Tr Value) (s:AS) (b:Nat) (blk:Blk) (t:TypeId) (x y:Operand) (k:Value->Blk->R):R :=
 match evC s.glb fr x,rowInfo P t,blk with
 |some (.slice (some ⟨b',off,none⟩) n c),some (T,z,by'),.cells T' xs true=>ifB D (Nat.beq b' b&&Nat.beq T' T&&Nat.beq off 0&&Nat.beq n c&&Nat.beq xs.length (n*z)) (newsC D fr s z y fun m news=>match m with
  |0=>D.bad
  |m+1=>D.frcN (n+(m+1)) fun q=>ifB D (Nat.ble (q*by') 140737488355328&&Nat.ble q 1000000) (catC xs news fun l=>k (.slice (some ⟨s.next,0,none⟩) q q) (.cells T l true)))
 |_,_,_=>D.bad
theorem appM_sound {c:Call}{t:TypeId}{x y:Operand}{b:Nat}{blk:Blk}{k:Value->Blk->R}(ho:o.op=.call c) (happ:appArgs c=some (t,x,y)) (h:D.T (appM D P fr s b blk t x y k)):∃u blk',D.T (k u blk')∧isLoop (some blk)=false∧isLoop (some blk')=false ∧
  ∀(sF:AS) (W0:World) (β:Bt) (a:Act) (W:World),sF.heap.get b=some blk->sF.lo≤b->s.lo=sF.lo->s.glb=sF.glb->(∀k y,s.heap.get k=some y->sF.heap.get k=some y)->(∀k,s.heap.get k≠none->k<s.next)->b<s.next->sF.heap.get s.next=some blk'->s.lo≤s.next ->
   Rel P W0 β sF W->β s.next=none->OpR β s.glb fr a o->DoesG P W0 β s.next (s.next+1) ⟨sF.heap.set b none,sF.next,sF.lo,sF.glb⟩ u W ((execOp a.eval o).run P W):=by
 obtain ⟨hcal,hct,hca⟩:=appArgs_spec happ;have opx:x∈o.op.operands:=by simp[ho,Op.operands,Call.operands,hcal,hca]
 have opy:y∈o.op.operands:=by simp[ho,Op.operands,Call.operands,hcal,hca]
 have exec:∀(a:Act) (W W':World) (v w vx:Value),a.eval x=vx->a.eval y=w->(Builtin.append_ #[t,t] o.type #[vx,w]).run P W=.ok v W'->(execOp a.eval o).run P W=.ok (.value v) W':=fun a W W' v w vx hx hy hr=>by
  simp[execOp,ho,resolve,hcal,invoke,builtin,hca,hct,hx,hy,hr]
 unfold appM at h;split at h
 ·rename_i b' off n c T z by' T' xs hx hri
  obtain ⟨hty,i,zv,hi,hz,hsz,hby,hzs,hpos,_⟩:=rowInfo_spec hri;subst hsz;subst hby;replace h:=ifB_sound h;obtain ⟨h0,h⟩:=h;simp only[Bool.and_eq_true] at h0;obtain ⟨⟨⟨⟨hb,hT⟩,ha⟩,hnc⟩,hxl⟩:=h0;obtain rfl:=Nat.eq_of_beq_eq_true hb
  obtain rfl:=Nat.eq_of_beq_eq_true hT;obtain rfl:=Nat.eq_of_beq_eq_true ha;obtain rfl:=Nat.eq_of_beq_eq_true hnc;have hxl:=Nat.eq_of_beq_eq_true hxl;replace h:=newsC_sound (P:=P) h;obtain ⟨m,news,h,hnews⟩:=h
  cases m with
  |zero=>exact absurd h D.nb
  |succ m =>
   dsimp only at h;rw[D.frcN_eq] at h;replace h:=ifB_sound h;obtain ⟨hb,h⟩:=h;simp only[Bool.and_eq_true] at hb;have hb1:=bR hb.1;have hb2:=bR hb.2;rw[catC_eq] at h;refine ⟨_,_,h,rfl,rfl,fun sF W0 β a W h1 h2 h3 h4 h5 h6 h7 h8 h9 hR hfree hop=>?_⟩
   have hRs:Rel P W0 β s W:=hR.sub h3 h4 h5 h6;obtain ⟨q0,l',q1,q2,q3,q4⟩:=hnews W0 β a W hRs (hop y opy);have hsrc:∃ad c2,a.eval y=.slice (some ad) (m+1) c2∧∀j u,l'[j]?=some u->W.cell? (ad.add j)=some u:=by
    rcases q4 with ⟨h,_⟩|⟨ad,c2,h,h'⟩
    ·omega
    ·exact ⟨ad,c2,h,h'⟩
   obtain ⟨ad,c2,q4,q5⟩:=hsrc;obtain ⟨r,sp,e1,e2⟩:=(hop x opx _ hx).sl_inv;obtain ⟨cs,fz,g1,g2,g3,g4,g5,g6,g7,g8⟩:=(hR.blk b' _ r sp h1 e1).real;obtain rfl:=g2 h2;have hlen':l'.length=(m+1)*i.size:=by rw[← q1.1];exact q2
   have hco:P.cellsOf T'=i.size:=by simp[Program.cellsOf,hi]
   by_cases hcap:n+(m+1)≤n+sp
   ·have hmul:(m+1)*i.size≤sp*i.size:=Nat.mul_le_mul_right _ (by omega)
    have hr:=run_append_room (P:=P) W t o.type T' i hty hi r n (n+sp) cs g1 ad (m+1) c2 l' hlen' q5 q3 hcap (by rw[g4,hco,hxl,hlen'];omega)
    rw[exec a W _ _ _ _ e2 q4 hr];have hge:=hR.ge b' r sp (by rw[h1];simp) e1 h2
    have hle:=Bt.set_le (B:=W0.heap.size) (r,sp-(m+1)) hfree;refine ⟨β.set s.next (r,sp-(m+1)),⟨hle,fun j hj=>Bt.set_other _ _ (by omega)⟩,hR.moveG (by rw[h1];simp) e1 h2 h8 (by omega) hfree (setRow_size _ _ _) (fun j hj=>setRow_other _ _ _ _ hj) (below_setRow hR.below hge _) ?_,?_,.write g1 (by simp) (fun j hj=>setRow_other _ _ _ _ hj) (setRow_size _ _ _) (hw:=fun cs0 T0 fz0 h0=>by cases h0;exact ⟨_,_,setRow_heap W r cs _ T' _ g1,(by first|(simp[stored];omega)|(have hcl:cs.toList.length=xs.length+sp*i.size:=(by rw[← hco];simpa using g4);have hz:cs.size=xs.length+sp*i.size:=(by rw[← hco];exact g4);rw[hz];simp only[List.size_toArray,List.length_append,List.length_take,List.length_drop,hcl,hlen',hxl];omega)),fun _=>rfl⟩)⟩
    ·have hcl:cs.toList.length=xs.length+sp*i.size:=by rw[← hco];simpa using g4
     have hspl:(sp-(m+1))*i.size+(m+1)*i.size=sp*i.size:=by rw[← Nat.add_mul];congr 1;omega
     refine ⟨_,_,setRow_heap W r cs _ T' _ g1,fun _=>rfl,fun h=>(by cases h),?_,fun j v hj=>⟨?_,?_⟩⟩
     ·rw[hco];simp only[List.size_toArray,List.length_append,List.length_take,List.length_drop,hcl,hlen',q2,hxl];omega
     ·have hm:=List.mem_of_getElem? hj;rcases List.mem_append.1 hm with hm|hm
      ·exact g6 _ hm
      ·exact q0 _ hm
     ·obtain ⟨v',h2,h3⟩:=(g5.app q1).get hj;refine ⟨v',?_,h3.grow hle⟩;rw[hxl] at h2;have hjl:=(List.getElem?_eq_some_iff.1 h2).1;simp only[List.getElem?_toArray];rw[List.getElem?_append_left hjl]
      exact h2
    ·have e:n+sp=n+(m+1)+(sp-(m+1)):=by omega
     rw[e];exact .sl _ _ _ _ _ _ (Bt.set_same _ _ _)
   ·have holds:∀j u,((cs.toList.take xs.length)[j]?=some u)->W.cell? ((⟨r,0,none⟩:Addr).add j)=some u:=fun j u hj=>by
     rw[add_at,Nat.zero_add];refine g8 _ _ ?_;exact hj
    have hol:(cs.toList.take xs.length).length=n*i.size:=by rw[← g5.1,hxl]
    have hr:=run_append_grow (P:=P) W t o.type T' i zv hty hi hz ⟨r,0,none⟩ n (n+sp) (cs.toList.take xs.length) hol holds ad (m+1) c2 l' hlen' q5 (by omega) (by omega) (growslice_fits (by omega) (by omega))
    rw[exec a W _ _ _ _ e2 q4 hr];rw[show (cs.toList.take xs.length).toArray++l'.toArray=((cs.toList.take xs.length)++l').toArray by simp];have hge:=grownCap_ge W (n+(m+1)) (n+sp) T';have hR1:Rel P W0 β ⟨sF.heap.set b' none,sF.next,sF.lo,sF.glb⟩ W.drew:=(hR.kill b').later ((Below.refl _ _).drew)
    have hsz:W.drew.heap.size=W.heap.size:=by simp
    have hle:=Bt.set_le (B:=W0.heap.size) (W.drew.heap.size,grownCap W (n+(m+1)) (n+sp) T'-(n+(m+1))) hfree;have hv:=g5.app q1;refine ⟨β.set s.next (W.drew.heap.size,grownCap W (n+(m+1)) (n+sp) T'-(n+(m+1))),⟨hle,fun j hj=>Bt.set_other _ _ (by omega)⟩,hR1.allocG (b:=.cells T' (xs++news) true) (by
     show (sF.heap.set b' none).get s.next=_
     rw[Tr.get_set,if_neg (by omega)];exact h8) hfree ?_,?_,?_⟩
    ·refine ⟨_,_,heap_new _ _,fun _=>rfl,fun h=>(by cases h),?_,fun j u hj=>⟨?_,?_⟩⟩
     ·have h10:((cs.toList.take xs.length)++l').length=(xs++news).length:=hv.1.symm;have h11:(xs++news).length=(n+(m+1))*i.size:=by rw[List.length_append,hxl,q2,← Nat.add_mul]
      simp only[Array.size_append,List.size_toArray,h10,zeroCells_size,Program.cellsOf,hi,hzs];rfl
     ·rcases List.mem_append.1 (List.mem_of_getElem? hj) with hm|hm
      ·exact g6 _ hm
      ·exact q0 _ hm
     ·obtain ⟨v,h12,h13⟩:=hv.get hj;have hjl:=(List.getElem?_eq_some_iff.1 h12).1;exact ⟨v,by rw[Array.getElem?_append_left (by simpa using hjl)];simpa using h12,h13.grow hle⟩
    ·have e:grownCap W (n+(m+1)) (n+sp) T'=(n+(m+1))+(grownCap W (n+(m+1)) (n+sp) T'-(n+(m+1))):=by omega
     have:=VR.sl (β:=β.set s.next (W.drew.heap.size,grownCap W (n+(m+1)) (n+sp) T'-(n+(m+1)))) s.next _ _ 0 (n+(m+1)) (n+(m+1)) (Bt.set_same _ _ _);rw[← e,hsz] at this;rw[hsz];exact this
    ·exact KD.below (((Below.refl _ W).drew).alloc (by simp) _)
 ·exact absurd h D.nb
end Go.Proofs.YtcihknonfcldeaaDoor.U
