
import Derived.Test.YtcihknonfcldeaaDoorKT22
import Derived.Test.YtcihknonfcldeaaDoorKT23
import Derived.Test.YtcihknonfcldeaaDoorKT29
import Derived.Test.YtcihknonfcldeaaDoorKT30
namespace Go.Proofs.YtcihknonfcldeaaDoor
open Go Go.RowKit Go.Sort U
set_option linter.unusedVariables false
set_option linter.unusedSimpArgs false
set_option maxRecDepth 100000
set_option maxHeartbeats 40000000
structure FewA (p:APr):Prop where
 dl:p.ds.length≤300
 ps:∀d∈p.ds,d.ps.length≤40
 sz:szPr p≤300
mutual
def callsT:AS6->List AS6
 |.mk k nm xs th el ln cl=>(if k=5 then [.mk k nm xs th el ln cl] else [])++(callsTs th++callsTs el)
def callsTs:List AS6->List AS6
 |[]=>[]
 |e::l=>callsT e++callsTs l
end
theorem callsTs_app:∀l m,callsTs (l++m)=callsTs l++callsTs m
 |[],m=>rfl
 |e::l,m=>by rw[List.cons_append,callsTs,callsTs,callsTs_app l m,List.append_assoc]
theorem callsTs_snoc (l:List AS6) (s:AS6):callsTs (l++[s])=callsTs l++callsT s:=by
 rw[callsTs_app];simp[callsTs]
mutual
theorem callsT_len:∀s:AS6,(callsT s).length≤szT s
 |.mk k nm xs th el ln cl=>by
  rw[callsT,szT,List.length_append,List.length_append];have:=callsTs_len th;have:=callsTs_len el;split<;>simp<;>omega
theorem callsTs_len:∀l:List AS6,(callsTs l).length≤szTs l
 |[]=>Nat.zero_le _
 |e::l=>by
  rw[callsTs,szTs,List.length_append];have:=callsT_len e;have:=callsTs_len l;omega
end
theorem szTs_app:∀l m,szTs (l++m)=szTs l+szTs m
 |[],m=>by rw[List.nil_append,szTs,Nat.zero_add]
 |e::l,m=>by rw[List.cons_append,szTs,szTs,szTs_app l m];omega
theorem sL_oneC (l:List ByteArray):(Nat.beq (cellsAll (sL l)).length ((sL l).length*1)&&(cellsAll (sL l)).all Value.oneCell')=true:=by
 have h:cellsAll (sL l)=sL l:=by
  induction l with
  |nil=>rfl
  |cons a l ih =>
   rw[sL,List.map_cons,cellsAll,List.flatMap_cons];rw[sL,cellsAll] at ih;rw[ih];rfl
 rw[h,Nat.mul_one];simp only[Bool.and_eq_true];refine ⟨by simp,List.all_eq_true.2 fun x hx=>?_⟩
 obtain ⟨a,_,rfl⟩:=List.mem_map.1 hx;rfl
theorem sL_11 (l:List ByteArray):∀y,y∈sL l->(cellsOf y).length=1:=fun y hy=>by
 obtain ⟨s,_,rfl⟩:=List.mem_map.1 hy;rfl
theorem rightE_d (k n:Int) (nm:ByteArray) (o:Int) (l:List AE) (ln cl:Int) (h:DenET Tryd.prog kwT 50 [imS (encAs l),.func (.func 51) ⟨[]⟩ ⟨[]⟩] (BQ True)):DenET Tryd.prog kwT 51 [encA (.mk k n nm o l ln cl)] (BQ True):=by
 refine denET_of_sound kw_ok fun Ts=>SoundAt.body hmixU Tryd.func51 rfl rfl rfl 0 ?_
 have kl:=cleanAs l;have c1:=h;have c2:=lit_d n;have c3:=one_d o;have c4:=isOp_d o;have cn:=name_d nm;(repeat' ((conv=>whnf);first|refine goA ?_|refine U.SoundAt.uT kw_ok cn ⟨.flat _ rfl,trivial⟩ (tabN rfl rfl) ?_|(refine U.SoundAt.eT kw_ok c1 ⟨kl,.flat _ rfl,trivial⟩ (tabN rfl rfl) ?_;refine bqK fun b1 hb1=>?_)|refine goB ?_|refine U.SoundAt.u (c2) clN ?_|refine U.SoundAt.u (c3) clN ?_|refine U.SoundAt.u (c4) clN ?_|refine U.SoundC.u (c2) clN ?_|refine U.SoundC.u (c3) clN ?_|refine U.SoundC.u (c4) clN ?_|refine U.lw_c ?_ ?_<;>intro hb))
 all_goals (conv=>whnf)
 all_goals exact bqF _ fun _=>trivial
theorem rightT_d (k:Int) (nm:ByteArray) (xs:List AE) (th el:List AS6) (ln cl:Int) (c1:DenET Tryd.prog kwT 50 [imS (encAs xs),.func (.func 51) ⟨[]⟩ ⟨[]⟩] (BQ True)) (c2:DenET Tryd.prog kwT 32 [imS (encTs th),.func (.func 33) ⟨[]⟩ ⟨[]⟩] (BQ True)) (c3:DenET Tryd.prog kwT 32 [imS (encTs el),.func (.func 33) ⟨[]⟩ ⟨[]⟩] (BQ True)):DenET Tryd.prog kwT 33 [encT (.mk k nm xs th el ln cl)] (BQ True):=by
 refine denET_of_sound kw_ok fun Ts=>SoundAt.body hmixU Tryd.func33 rfl rfl rfl 0 ?_
 have kx:=cleanAs xs;have kt:=cleanT6s th;have ke:=cleanT6s el;have cn:=name_d nm;(repeat' ((conv=>whnf);first|refine goA ?_|refine U.SoundAt.uT kw_ok cn ⟨.flat _ rfl,trivial⟩ (tabN rfl rfl) ?_|(refine U.SoundAt.eT kw_ok c1 ⟨kx,.flat _ rfl,trivial⟩ (tabN rfl rfl) ?_;refine bqK fun b1 hb1=>?_)|(refine U.SoundAt.eT kw_ok c2 ⟨kt,.flat _ rfl,trivial⟩ (tabN rfl rfl) ?_;refine bqK fun b2 hb2=>?_)|(refine U.SoundAt.eT kw_ok c3 ⟨ke,.flat _ rfl,trivial⟩ (tabN rfl rfl) ?_;refine bqK fun b3 hb3=>?_)|refine goB ?_|refine U.lw_c ?_ ?_<;>intro hb))
 all_goals (conv=>whnf)
 all_goals exact bqF _ fun _=>trivial
theorem rightD_d (d:ADc) (c1:DenET Tryd.prog kwT 49 [imS (sL d.ps),.func (.func 48) ⟨[]⟩ ⟨[]⟩] (BQ True)) (c2:DenET Tryd.prog kwT 32 [imS (encTs d.body),.func (.func 33) ⟨[]⟩ ⟨[]⟩] (BQ True)):DenET Tryd.prog kwT 31 [encDc d] (BQ (0≤d.k∧d.k≤4)):=by
 refine denET_of_sound kw_ok fun Ts=>SoundAt.body hmixU Tryd.func31 rfl rfl rfl 0 ?_
 obtain ⟨k,nm,lo,hi,sz,ps,bd,ln,cl⟩:=d;dsimp only at c1 c2;have kx:=cleanSL ps;have kt:=cleanT6s bd;have cl:=lit_d sz;have cn:=name_d nm;have c3:=c2;have ke:=kt;(repeat' ((conv=>whnf);first|refine goA ?_|refine U.SoundAt.uT kw_ok cn ⟨.flat _ rfl,trivial⟩ (tabN rfl rfl) ?_|(refine U.SoundAt.eT kw_ok c1 ⟨kx,.flat _ rfl,trivial⟩ (tabN rfl rfl) ?_;refine bqK fun b1 hb1=>?_)|(refine U.SoundAt.eT kw_ok c2 ⟨kt,.flat _ rfl,trivial⟩ (tabN rfl rfl) ?_;refine bqK fun b2 hb2=>?_)|(refine U.SoundAt.eT kw_ok c3 ⟨ke,.flat _ rfl,trivial⟩ (tabN rfl rfl) ?_;refine bqK fun b3 hb3=>?_)|refine goB ?_|refine U.SoundAt.u (cl) clN ?_|refine U.SoundC.u (cl) clN ?_|refine U.lw_c ?_ ?_<;>intro hb))
 all_goals (conv=>whnf)
 all_goals refine bqF _ fun h=>?_
 all_goals first|(exact absurd h (by decide))|(dsimp only;simp only[beq_iff_eq] at *;omega)
theorem rightEs_all:∀(n:Nat) (l:List AE),szAs l≤n->szAs l≤1000->DenET Tryd.prog kwT 50 [imS (encAs l),.func (.func 51) ⟨[]⟩ ⟨[]⟩] (BQ True)
 |0,l,h,h1=>allE_d l (Nat.le_trans (szAs_len l) h1) fun e he=>by
  have:=szAs_mem he;have:=szA_pos e;omega
 |n+1,l,h,h1=>allE_d l (Nat.le_trans (szAs_len l) h1) fun e he=>by
  have hm:=szAs_mem he;obtain ⟨k,m,nm,o,xs,ln,cl⟩:=e;rw[szA] at hm;exact rightE_d k m nm o xs ln cl (rightEs_all n xs (by omega) (by omega))
theorem rightTs_all:∀(n:Nat) (l:List AS6),szTs l≤n->szTs l≤1000->DenET Tryd.prog kwT 32 [imS (encTs l),.func (.func 33) ⟨[]⟩ ⟨[]⟩] (BQ True)
 |0,l,h,h1=>allT_d l (Nat.le_trans (szTs_len l) h1) fun e he=>by
  have:=szTs_mem he;have:=szT_pos e;omega
 |n+1,l,h,h1=>allT_d l (Nat.le_trans (szTs_len l) h1) fun e he=>by
  have hm:=szTs_mem he;obtain ⟨k,nm,xs,th,el,ln,cl⟩:=e;rw[szT] at hm;exact rightT_d k nm xs th el ln cl (rightEs_all _ xs rL (by omega)) (rightTs_all n th (by omega) (by omega)) (rightTs_all n el (by omega) (by omega))
theorem right6_d (p:APr) (hf:FewA p):DenET Tryd.prog kwT 15 [encPr p] (BQ (∀d∈p.ds,0≤d.k∧d.k≤4)):=by
 refine denET_of_sound kw_ok fun Ts=>SoundAt.body hmixU Tryd.func15 rfl rfl rfl 0 ?_
 obtain ⟨ds,mn⟩:=p;have hz:=hf.sz;unfold szPr at hz;dsimp only at hz ⊢;have c1:=allD_d ds (Nat.le_trans hf.dl (by decide)) fun d hd=>rightD_d d (allS_d d.ps (Nat.le_trans (hf.ps d hd) (by decide)) fun s _=>(name_d s).eT ⟨_,rfl,fun _=>trivial⟩) (rightTs_all _ d.body rL (by have:=szDs_mem hd;omega))
 have c2:=rightTs_all _ mn rL (by omega)
 have kx:=cleanDcs ds;have kt:=cleanT6s mn;(repeat' ((conv=>whnf);first|refine goA ?_|(refine U.SoundAt.eT kw_ok c1 ⟨kx,.flat _ rfl,trivial⟩ (tabN rfl rfl) ?_;refine bqK fun b1 hb1=>?_)|(refine U.SoundAt.eT kw_ok c2 ⟨kt,.flat _ rfl,trivial⟩ (tabN rfl rfl) ?_;refine bqK fun b2 hb2=>?_)|refine goB ?_|refine U.lw_c ?_ ?_<;>intro hb))
 all_goals (conv=>whnf)
 all_goals refine bqF _ fun h=>?_
 all_goals first|(exact absurd h (by decide))|exact hb1 (by simp_all)
end Go.Proofs.YtcihknonfcldeaaDoor
namespace Go.Proofs.YtcihknonfcldeaaDoor.U
open Go Go.RowKit Go.Sort
set_option linter.unusedVariables false
set_option linter.unusedSimpArgs false
set_option maxRecDepth 100000
set_option maxHeartbeats 40000000
inductive RenQ (ok:Nat->Prop) (σ:Nat->Nat):Value->Value->Prop where
 |flat (u:Value) (h:flatV u=true):RenQ ok σ u u
 |ptr (k k' off:Nat) (hk:ok k) (e:σ k=k'):RenQ ok σ (.pointer (some ⟨k,off,none⟩)) (.pointer (some ⟨k',off,none⟩))
 |sl (k k' off m m' c c':Nat) (hk:ok k) (e:σ k=k') (hm:m=m') (hc:c=c'):RenQ ok σ (.slice (some ⟨k,off,none⟩) m c) (.slice (some ⟨k',off,none⟩) m' c')
 |mp (k k':Nat) (hk:ok k) (e:σ k=k'):RenQ ok σ (.map (some k)) (.map (some k'))
 |agg (l m:List Value) (hl:l.length=m.length) (h:∀(i:Nat) (a b:Value),l[i]?=some a->m[i]?=some b->RenQ ok σ a b):RenQ ok σ (.agg ⟨l⟩) (.agg ⟨m⟩)
 |tup (l m:List Value) (hl:l.length=m.length) (h:∀(i:Nat) (a b:Value),l[i]?=some a->m[i]?=some b->RenQ ok σ a b):RenQ ok σ (.tuple ⟨l⟩) (.tuple ⟨m⟩)
theorem RenQ.rel {ok:Nat->Prop}{σ:Nat->Nat}{u1 u v:Value}(h:RenQ ok σ u1 u) {β β1:Bt}(hm:∀k,ok k->β1 k=β (σ k)) (hv:VR β u v):VR β1 u1 v:=by
 induction h generalizing v with
 |flat u h=>rw[hv.flat_eq h];exact .of_flat _ h
 |ptr k k' off hk e =>
  obtain ⟨r,sp,e1,rfl⟩:=hv.ptr_inv;exact .ptr k r sp off (by rw[hm k hk,e];exact e1)
 |sl k k' off m m' c c' hk e e2 e3 =>
  subst e2;subst e3;obtain ⟨r,sp,e1,rfl⟩:=hv.sl_inv;exact .sl k r sp off m c (by rw[hm k hk,e];exact e1)
 |mp k k' hk e =>
  obtain ⟨r,sp,e1,rfl⟩:=hv.map_inv;exact .map k r sp (by rw[hm k hk,e];exact e1)
 |agg l m hl _ ih =>
  obtain ⟨l',e1,rfl⟩:=hv.agg_inv;refine .agg l l' (hl.trans e1.1) fun i a v ha hv=>?_
  have hi:i<m.length:=by rw[← hl];exact (List.getElem?_eq_some_iff.1 ha).1
  exact ih i a m[i] ha (List.getElem?_eq_getElem hi) (e1.2 i _ v (List.getElem?_eq_getElem hi) hv)
 |tup l m hl _ ih =>
  obtain ⟨l',e1,rfl⟩:=hv.tup_inv;refine .tup l l' (hl.trans e1.1) fun i a v ha hv=>?_
  have hi:i<m.length:=by rw[← hl];exact (List.getElem?_eq_some_iff.1 ha).1
  exact ih i a m[i] ha (List.getElem?_eq_getElem hi) (e1.2 i _ v (List.getElem?_eq_getElem hi) hv)
theorem RenQ.one {ok:Nat->Prop}{σ:Nat->Nat}{u1 u:Value}(h:RenQ ok σ u1 u) (hu:u.oneCell'=true):u1.oneCell'=true:=by
 cases h with
 |flat=>exact hu
 |agg=>exact hu
 |tup=>exact hu
 |_=>rfl
inductive BlkQ (ok:Nat->Prop) (σ:Nat->Nat):Blk->Blk->Prop where
 |cells (T:TypeId) (xs1 xs:List Value) (op:Bool) (hl:xs1.length=xs.length) (h:∀(i:Nat) (a b:Value),xs1[i]?=some a->xs[i]?=some b->RenQ ok σ a b):BlkQ ok σ (.cells T xs1 op) (.cells T xs op)
 |map (es:List (Value×Value)) (bs:List Nat) (cl:Nat) (h:∀e∈es,flatV e.2=true):BlkQ ok σ (.map es bs cl) (.map es bs cl)
theorem BlkQ.rel {P:Program}{ok:Nat->Prop}{σ:Nat->Nat}{b1 b:Blk}(h:BlkQ ok σ b1 b) {β β1:Bt}{W:World}{r sp:Nat}{q q':Prop}(hm:∀k,ok k->β1 k=β (σ k)) (hq:q'->q) (hb:BlkR P β W r sp q b):BlkR P β1 W r sp q' b1:=by
 cases h with
 |cells T xs1 xs op hl h =>
  obtain ⟨cs,fz,g1,g2,g3,g4,g5⟩:=hb;refine ⟨cs,fz,g1,fun h=>g2 (hq h),g3,by rw[g4,hl],fun i u hu=>?_⟩
  have hi:i<xs.length:=by rw[← hl];exact (List.getElem?_eq_some_iff.1 hu).1
  obtain ⟨e3,v,e4,e5⟩:=g5 i xs[i] (List.getElem?_eq_getElem hi);have hr:=h i u xs[i] hu (List.getElem?_eq_getElem hi);exact ⟨hr.one e3,v,e4,hr.rel hm e5⟩
 |map es bs cl h =>
  obtain ⟨es',cl',g1,g2,g3,g4,g5⟩:=hb;refine ⟨es',cl',g1,g2,fun i x u hu=>?_,g4,g5⟩
  obtain ⟨e,e1,e2,e3⟩:=g3 i x u hu;have hf:=h _ (List.mem_of_getElem? hu);exact ⟨e,e1,e2,by rw[e3.flat_eq hf];exact .of_flat _ hf⟩
def Mvd (s0:AS) (τ:Nat->Nat) (k:Nat):Prop:=∃j,s0.lo≤j∧s0.heap.get j≠none∧τ j=k
def okF (s s1 s0:AS) (τ σ:Nat->Nat) (k:Nat):Prop:=(k<s.next∧σ k<s0.next∧τ (σ k)=k)∨(s.next≤k∧k<s1.next∧s0.next≤σ k)
structure TellF (s s1 s0 t0:AS) (τ σ:Nat->Nat) (u1 u0:Value):Prop where
 lo:s1.lo=s.lo
 glb:s1.glb=s.glb
 next:s.next≤s1.next
 keep:∀k,k<s.lo->s1.heap.get k=s.heap.get k
 old:∀k b,k<s.next->s1.heap.get k=some b->(s.heap.get k=some b∧¬Mvd s0 τ k)∨(Mvd s0 τ k∧s0.lo≤σ k∧s0.heap.get (σ k)≠none∧τ (σ k)=k∧∃b',t0.heap.get (σ k)=some b'∧BlkQ (okF s s1 s0 τ σ) σ b b')
 new:∀k b,s.next≤k->s1.heap.get k=some b->k<s1.next∧s0.next≤σ k∧∃b',t0.heap.get (σ k)=some b'∧BlkQ (okF s s1 s0 τ σ) σ b b'
 inj:∀k k',s.next≤k->s.next≤k'->s1.heap.get k≠none->s1.heap.get k'≠none->σ k=σ k'->k=k'
 val:RenQ (okF s s1 s0 τ σ) σ u1 u0
def KeptB (s0:AS) (τ:Nat->Nat) (k:Nat) (b:Blk):Prop :=
 (∃T xs op,b=.cells T xs op∧xs≠[])∨(∃es bs cl j,b=.map es bs cl∧(∀e∈es,flatV e.2=true)∧j<s0.lo∧τ j=k∧s0.heap.get j=some (.map es bs cl))
open Classical in
theorem SoundAt.frame {P:Program}{f:FuncId}{args0 args:List Value}{s0 s:AS}{k0 K:Value->AS->Prop}(h:SoundAt P f args0 s0 k0) (τ:Nat->Nat) (hl0:s0.lo≤s0.next) (hg0:s0.glb=0) (hg:s.glb≤s.next)
  (hin:∀j b,s0.heap.get j=some b->j<s0.next∧(s0.lo≤j->s.lo≤τ j)∧∃b',s.heap.get (τ j)=some b'∧RenB s0.next ⟨τ,fun _ _=>False⟩ b b')
  (hinj:∀j j',s0.heap.get j≠none->s0.heap.get j'≠none->τ j=τ j'->j=j')
  (hout:∀k b,s.heap.get k=some b->¬Mvd s0 τ k->KeptB s0 τ k b)
  (ha:RenL s0.next ⟨τ,fun _ _=>False⟩ args0 args)
  (hK:∀u0 t0,k0 u0 t0->StpX s0 t0->∃u1 s1 σ,TellF s s1 s0 t0 τ σ u1 u0∧K u1 s1):SoundAt P f args s K:=by
 refine ⟨fun hl W0 β W vs hR hfa hv=>?_⟩
 let z0:Nat->Nat->Option Value:=fun r o=>if ∃k b sp,s.heap.get k=some b∧¬Mvd s0 τ k∧β k=some (r,sp) then fzc W ⟨r,o,none⟩ else β.z r o
 have z0c:∀r o x,z0 r o=some x->fzc W ⟨r,o,none⟩=some x:=fun r o x hx=>by
  have hx:(if ∃k b sp,s.heap.get k=some b∧¬Mvd s0 τ k∧β k=some (r,sp) then fzc W ⟨r,o,none⟩ else β.z r o)=some x:=hx
  split at hx
  ·exact hx
  ·exact (hR.frz r o x hx).1
 have z0z:∀r o x,β.z r o=some x->z0 r o=some x:=fun r o x hx=>by
  show (if _ then _ else _)=_
  split
  ·exact (hR.frz r o x hx).1
  ·exact hx
 let β0:Bt:=⟨fun j=>if j<s0.next then β (τ j) else none,z0⟩
 have b0:∀j,j<s0.next->β0 j=β (τ j):=fun j hj=>if_pos hj
 have b0':∀j x,β0 j=some x->j<s0.next∧β (τ j)=some x:=fun j x hx=>by
  have hx:(if j<s0.next then β (τ j) else none)=some x:=hx
  split at hx
  ·rename_i h1;exact ⟨h1,hx⟩
  ·cases hx
 have hR0:Rel P W0 β0 s0 W:=by
  refine ⟨fun j b r sp hj hr=>?_,fun j j' r sp sp' hlo hj hj' hr hr'=>?_,fun j hj=>?_,fun j r sp hr=>hR.lt _ r sp (b0' j _ hr).2,fun j r sp hj hr hlo=>?_,hR.below,fun g hg=>(by rw[hg0] at hg;exact absurd hg (Nat.not_lt_zero _)),fun r o v hz=>⟨z0c r o v hz,fun j sp hlo hj hr=>?_⟩⟩
  ·obtain ⟨_,h2,b',h3,h4⟩:=hin j b hj;exact h4.rel (β:=β) (β1:=β0) z0z (fun _ _ _ h=>absurd h id) (fun _ _ h=>absurd h id) (fun k hk=>b0 k hk) h2 (hR.blk _ b' r sp h3 (b0' j _ hr).2)
  ·obtain ⟨b,hb⟩:=Option.ne_none_iff_exists'.1 hj;obtain ⟨b',hb'⟩:=Option.ne_none_iff_exists'.1 hj';obtain ⟨_,h2,c,h3,_⟩:=hin j b hb;obtain ⟨_,h2',c',h3',_⟩:=hin j' b' hb';exact hinj j j' hj hj' (hR.inj _ _ r sp sp' (h2 hlo) (by rw[h3];simp) (by rw[h3'];simp) (b0' j _ hr).2 (b0' j' _ hr').2)
  ·obtain ⟨b,hb⟩:=Option.ne_none_iff_exists'.1 hj;exact (hin j b hb).1
  ·obtain ⟨b,hb⟩:=Option.ne_none_iff_exists'.1 hj;obtain ⟨_,h2,c,h3,_⟩:=hin j b hb;exact hR.ge _ r sp (by rw[h3];simp) (b0' j _ hr).2 (h2 hlo)
  ·obtain ⟨b,hb⟩:=Option.ne_none_iff_exists'.1 hj;obtain ⟨_,h2,c,h3,_⟩:=hin j b hb;have hr2:=(b0' j _ hr).2;have hz:(if ∃k b sp,s.heap.get k=some b∧¬Mvd s0 τ k∧β k=some (r,sp) then fzc W ⟨r,o,none⟩ else β.z r o)=some v:=hz
   split at hz
   ·rename_i hk;obtain ⟨k,b1,sp1,k1,k2,k3⟩:=hk;have:=hR.inj (τ j) k r sp sp1 (h2 hlo) (by rw[h3];simp) (by rw[k1];simp) hr2 k3
    exact k2 ⟨j,hlo,hj,this⟩
   ·exact (hR.frz r o v hz).2 (τ j) sp (h2 hlo) (by rw[h3];simp) hr2
 have hf0:FreeA β0 s0.next:=fun j hj=>if_neg (Nat.not_lt.2 hj)
 have hv0:VRs β0 args0 vs:=by
  obtain ⟨q1,q2⟩:=ha.at_;refine ⟨q1.trans hv.1,fun i x v hx hv'=>?_⟩
  obtain ⟨y,q3,q4⟩:=q2 i x hx;exact q4.rel (β:=β) (β1:=β0) z0z (fun _ _ _ h=>absurd h id) (fun k hk=>b0 k hk) (hv.2 i y v q3 hv')
 refine (h.out hl0 W0 β0 W vs hR0 hf0 hv0).mono fun e w' ⟨v,u0,t0,he,hk0,hst,β',hx,hR',hv',hkd⟩=>?_
 obtain ⟨u1,s1,σ,hT,hK1⟩:=hK u0 t0 hk0 hst;let β1:Bt:=⟨fun k=>if k<s.next then β k else if k<s1.next then β' (σ k) else none,β.z⟩
 have e1:∀k,k<s.next->β1 k=β k:=fun k hk=>if_pos hk
 have e2:∀k,s.next≤k->k<s1.next->β1 k=β' (σ k):=fun k hk hk'=>by
  show (if k<s.next then _ else if k<s1.next then _ else _)=_
  rw[if_neg (Nat.not_lt.2 hk),if_pos hk']
 have hsig:∀k,okF s s1 s0 τ σ k->β1 k=β' (σ k):=fun k hk=>by
  rcases hk with ⟨h1,h2,h3⟩|⟨h1,h2,_⟩
  ·rw[e1 k h1,hx.keep _ h2,b0 _ h2,h3]
  ·exact e2 k h1 h2
 have hgm:∀k x,β k=some x->β1 k=some x:=fun k x hk=>by
  rcases Nat.lt_or_ge k s.next with h1|h1
  ·rw[e1 k h1];exact hk
  ·rw[hfa k h1] at hk;cases hk
 have hgrow:BLx β β1:=⟨hgm,fun _ _ _ h=>h⟩
 have hlo':t0.lo=s0.lo:=hst.lo;have hzz:∀r o x,z0 r o=some x->fzc w' ⟨r,o,none⟩=some x:=fun r o x hz=>(hR'.frz r o x (hx.z.1 r o x hz)).1
 -- what is kept
 have hkept:∀k b r sp,s.heap.get k=some b->¬Mvd s0 τ k->β k=some (r,sp)->BlkR P β1 w' r sp (s.lo≤k) b:=fun k b r sp hb hmv hr=>by
  have hzr:∀o,z0 r o=fzc W ⟨r,o,none⟩:=fun o=>if_pos ⟨k,b,sp,hb,hmv,hr⟩
  rcases hout k b hb hmv with ⟨T,xs,op,rfl,hne⟩|⟨es,bs,cl,j,rfl,hes,hj,hjk,hsj⟩
  ·obtain ⟨cs,fz,g1,g2,g3,g4,g5⟩:=hR.blk k _ r sp hb hr;obtain ⟨cs',fz',k1,k2,k3⟩:=hkd.c r cs T fz g1;refine ⟨cs',fz',k1,fun hm=>k3 (g2 hm),g3,by rw[k2,g4],fun i u hu=>?_⟩
   obtain ⟨q1,v,q2,q3⟩:=g5 i u hu;refine ⟨q1,v,?_,q3.growX hgrow⟩;have hv1:v.oneCell'=true:=q3.one.trans q1;have hc:fzc W ⟨r,i,none⟩=some v:=cell_fzc (by simp only[World.cell?,g1];exact q2) hv1
   have:=fzc_cell (hzz r i v (by rw[hzr];exact hc)) hv1
   simp only[World.cell?,k1] at this;exact this
  ·have hjn:j<s0.next:=Nat.lt_of_lt_of_le hj hl0;have ht:t0.heap.get j=some (.map es bs cl):=by rw[hst.keep j hj];exact hsj
   have hrj:β' j=some (r,sp):=by rw[hx.keep j hjn,b0 j hjn,hjk];exact hr
   obtain ⟨es',cl',g1,g2,g3,g4,g5⟩:=hR'.blk j _ r sp ht hrj;refine ⟨es',cl',g1,g2,fun i x u hu=>?_,g4,g5⟩
   obtain ⟨e,e1,e2,e3⟩:=g3 i x u hu;have hf:=hes _ (List.mem_of_getElem? hu);exact ⟨e,e1,e2,by rw[e3.flat_eq hf];exact .of_flat _ hf⟩
 -- a kept block is none of the callee's own
 have hsep:∀k b r sp,s.heap.get k=some b->¬Mvd s0 τ k->β k=some (r,sp)->∀q sp',s0.next≤q->t0.heap.get q≠none->β' q≠some (r,sp'):=fun k b r sp hb hmv hr q sp' hq ht hrq=>by
  have hzr:∀o,z0 r o=fzc W ⟨r,o,none⟩:=fun o=>if_pos ⟨k,b,sp,hb,hmv,hr⟩
  rcases hout k b hb hmv with ⟨T,xs,op,rfl,hne⟩|⟨es,bs,cl,j,rfl,hes,hj,hjk,hsj⟩
  ·obtain ⟨cs,fz,g1,g2,g3,g4,g5⟩:=hR.blk k _ r sp hb hr;obtain ⟨x,hx0⟩:∃x,xs[0]?=some x:=by
    cases xs with
    |nil=>exact absurd rfl hne
    |cons x l=>exact ⟨x,rfl⟩
   obtain ⟨q1,v,q2,q3⟩:=g5 0 x hx0;have hc:fzc W ⟨r,0,none⟩=some v:=cell_fzc (by simp only[World.cell?,g1];exact q2) (q3.one.trans q1)
   exact (hR'.frz r 0 v (hx.z.1 r 0 v (by show z0 r 0=_;rw[hzr];exact hc))).2 q sp' (by rw[hlo'];omega) ht hrq
  ·have hjn:j<s0.next:=Nat.lt_of_lt_of_le hj hl0;have ht':t0.heap.get j=some (.map es bs cl):=by rw[hst.keep j hj];exact hsj
   have hrj:β' j=some (r,sp):=by rw[hx.keep j hjn,b0 j hjn,hjk];exact hr
   have:=hR'.inj q j r sp' sp (by rw[hlo'];omega) ht (by rw[ht'];simp) hrq hrj
   omega
 have hold:∀k,k<s.next->s1.heap.get k≠none->s.heap.get k≠none:=fun k hk hn=>by
  obtain ⟨b,hb⟩:=Option.ne_none_iff_exists'.1 hn;rcases hT.old k b hk hb with ⟨h1,_⟩|⟨⟨j,_,h2,h3⟩,_⟩
  ·rw[h1];simp
  ·obtain ⟨c,hc⟩:=Option.ne_none_iff_exists'.1 h2;obtain ⟨_,_,c',h4,_⟩:=hin j c hc;rw[← h3,h4];simp
 refine ⟨v,u1,s1,he,hK1,⟨hT.next,hT.lo,hT.glb,hT.keep⟩,β1,⟨e1,fun k hk=>?_,⟨fun _ _ _ h=>h,fun _ _ _ h=>.inl h⟩⟩,⟨fun k b r sp hk hr=>?_,fun k k' r sp sp' hlo hk hk' hr hr'=>?_,fun k hk=>?_,fun k r sp hr=>?_,fun k r sp hk hr hlo=>?_,hR'.below,fun g hg'=>?_,fun r o x hz=>?_⟩,hT.val.rel hsig hv',hkd⟩
 ·show (if k<s.next then _ else if k<s1.next then _ else _)=_
  rw[if_neg (by have:=hT.next;omega),if_neg (Nat.not_lt.2 hk)]
 ·rcases Nat.lt_or_ge k s.next with h1|h1
  ·rw[e1 k h1] at hr;rw[hT.lo];rcases hT.old k b h1 hk with ⟨h2,h3⟩|⟨_,h3,h4,h5,b',h6,h7⟩
   ·exact hkept k b r sp h2 h3 hr
   ·obtain ⟨c,hc⟩:=Option.ne_none_iff_exists'.1 h4;have hjn:=(hin _ c hc).1;have hrj:β' (σ k)=some (r,sp):=by rw[hx.keep _ hjn,b0 _ hjn,h5];exact hr
    exact h7.rel hsig (fun _=>by rw[hlo'];exact h3) (hR'.blk _ b' r sp h6 hrj)
  ·obtain ⟨h2,h3,b',h4,h5⟩:=hT.new k b h1 hk;rw[e2 k h1 h2] at hr;exact h5.rel hsig (fun _=>by rw[hlo'];omega) (hR'.blk _ b' r sp h4 hr)
 ·rw[hT.lo] at hlo;rcases Nat.lt_or_ge k s.next with h1|h1<;>rcases Nat.lt_or_ge k' s.next with h2|h2
  ·rw[e1 k h1] at hr;rw[e1 k' h2] at hr'
   exact hR.inj k k' r sp sp' hlo (hold k h1 hk) (hold k' h2 hk') hr hr'
  ·exfalso
   obtain ⟨c,hc⟩:=Option.ne_none_iff_exists'.1 hk';obtain ⟨g1,g2,c',g3,_⟩:=hT.new k' c h2 hc;rw[e1 k h1] at hr;rw[e2 k' h2 g1] at hr'
   obtain ⟨b,hb⟩:=Option.ne_none_iff_exists'.1 hk;rcases hT.old k b h1 hb with ⟨q1,q2⟩|⟨_,q3,q4,q5,b',q6,_⟩
   ·exact hsep k b r sp q1 q2 hr _ sp' g2 (by rw[g3];simp) hr'
   ·obtain ⟨d,hd⟩:=Option.ne_none_iff_exists'.1 q4;have hjn:=(hin _ d hd).1;have hrj:β' (σ k)=some (r,sp):=by rw[hx.keep _ hjn,b0 _ hjn,q5];exact hr
    have:=hR'.inj (σ k) (σ k') r sp sp' (by rw[hlo'];exact q3) (by rw[q6];simp) (by rw[g3];simp) hrj hr'
    omega
  ·exfalso
   obtain ⟨c,hc⟩:=Option.ne_none_iff_exists'.1 hk;obtain ⟨g1,g2,c',g3,_⟩:=hT.new k c h1 hc;rw[e2 k h1 g1] at hr;rw[e1 k' h2] at hr'
   obtain ⟨b,hb⟩:=Option.ne_none_iff_exists'.1 hk';rcases hT.old k' b h2 hb with ⟨q1,q2⟩|⟨_,q3,q4,q5,b',q6,_⟩
   ·exact hsep k' b r sp' q1 q2 hr' _ sp g2 (by rw[g3];simp) hr
   ·obtain ⟨d,hd⟩:=Option.ne_none_iff_exists'.1 q4;have hjn:=(hin _ d hd).1;have hrj:β' (σ k')=some (r,sp'):=by rw[hx.keep _ hjn,b0 _ hjn,q5];exact hr'
    have:=hR'.inj (σ k') (σ k) r sp' sp (by rw[hlo'];exact q3) (by rw[q6];simp) (by rw[g3];simp) hrj hr
    omega
  ·obtain ⟨c,hc⟩:=Option.ne_none_iff_exists'.1 hk;obtain ⟨g1,g2,c',g3,_⟩:=hT.new k c h1 hc;obtain ⟨d,hd⟩:=Option.ne_none_iff_exists'.1 hk';obtain ⟨g1',g2',d',g3',_⟩:=hT.new k' d h2 hd;rw[e2 k h1 g1] at hr
   rw[e2 k' h2 g1'] at hr'
   exact hT.inj k k' h1 h2 hk hk' (hR'.inj _ _ r sp sp' (by rw[hlo'];omega) (by rw[g3];simp) (by rw[g3'];simp) hr hr')
 ·rcases Nat.lt_or_ge k s.next with h1|h1
  ·exact Nat.lt_of_lt_of_le h1 hT.next
  ·obtain ⟨c,hc⟩:=Option.ne_none_iff_exists'.1 hk;exact (hT.new k c h1 hc).1
 ·rcases Nat.lt_or_ge k s.next with h1|h1
  ·rw[e1 k h1] at hr;exact Nat.lt_of_lt_of_le (hR.lt k r sp hr) hkd.z
  ·rcases Nat.lt_or_ge k s1.next with h2|h2
   ·rw[e2 k h1 h2] at hr;exact hR'.lt _ r sp hr
   ·have hr:(if k<s.next then β k else if k<s1.next then β' (σ k) else none)=some (r,sp):=hr
    rw[if_neg (Nat.not_lt.2 h1),if_neg (Nat.not_lt.2 h2)] at hr;cases hr
 ·rw[hT.lo] at hlo;rcases Nat.lt_or_ge k s.next with h1|h1
  ·rw[e1 k h1] at hr;exact hR.ge k r sp (hold k h1 hk) hr hlo
  ·obtain ⟨c,hc⟩:=Option.ne_none_iff_exists'.1 hk;obtain ⟨g1,g2,c',g3,_⟩:=hT.new k c h1 hc;rw[e2 k h1 g1] at hr;exact hR'.ge _ r sp (by rw[g3];simp) hr (by rw[hlo'];omega)
 ·rw[hT.glb] at hg'
  rw[e1 g (by omega)];exact hR.glob g hg'
 ·refine ⟨hzz r o x (z0z r o x hz),fun k sp hlo hk hr=>?_⟩
  rw[hT.lo] at hlo;rcases Nat.lt_or_ge k s.next with h1|h1
  ·rw[e1 k h1] at hr;exact (hR.frz r o x hz).2 k sp hlo (hold k h1 hk) hr
  ·obtain ⟨c,hc⟩:=Option.ne_none_iff_exists'.1 hk;obtain ⟨g1,g2,c',g3,_⟩:=hT.new k c h1 hc;rw[e2 k h1 g1] at hr;exact (hR'.frz r o x (hx.z.1 r o x (z0z r o x hz))).2 _ sp (by rw[hlo'];omega) (by rw[g3];simp) hr
end Go.Proofs.YtcihknonfcldeaaDoor.U
namespace Go.Proofs.YtcihknonfcldeaaDoor
open Go Go.RowKit Go.Sort U
set_option linter.unusedVariables false
set_option linter.unusedSimpArgs false
set_option maxRecDepth 100000
set_option maxHeartbeats 40000000
theorem baS_beq (a b:ByteArray):(a==b)=decide (a=b):=by
 rw[Bool.eq_iff_iff,decide_eq_true_iff];obtain ⟨x⟩:=a;obtain ⟨y⟩:=b;show (x==y)=true↔_
 simp
theorem sS_ok:KeyOk Tryd.prog 9 .string Value.string:=keyOk_flat (fun a n h=>by cases h) fun a b=>by
 show some (a==b)=_
 rw[baS_beq]
abbrev MSI:=List (ByteArray×Int)
abbrev mS (m:MSI):U.Blk:=.map (mE Value.string (Value.int .i64) m) (List.range m.length) m.length
theorem mS_flat (m:MSI):∀e∈mE Value.string (Value.int .i64) m,flatV e.2=true:=fun e he=>by
 obtain ⟨x,_,rfl⟩:=List.mem_map.1 he;rfl
theorem mS_noNm (m:MSI):∀e∈mE Value.string (Value.int .i64) m,NoNm e.2:=mE_noNm cleanI m
def getM:MSI->ByteArray->Option Int
 |[],_=>none
 |(a,i)::m,s=>if a=s then some i else getM m s
theorem getM_none:∀{m:MSI}{s:ByteArray},s∉m.map (·.1)->getM m s=none
 |[],_,_=>rfl
 |(a,i)::m,s,h=>by
  simp only[List.map_cons,List.mem_cons,not_or] at h;rw[getM,if_neg (fun e=>h.1 e.symm),getM_none h.2]
theorem getM_mid:∀{p q:MSI}{s:ByteArray}{i:Int},s∉p.map (·.1)->getM (p++(s,i)::q) s=some i
 |[],q,s,i,_=>by rw[List.nil_append,getM,if_pos rfl]
 |(a,j)::p,q,s,i,h=>by
  simp only[List.map_cons,List.mem_cons,not_or] at h;rw[List.cons_append,getM,if_neg (fun e=>h.1 e.symm),getM_mid h.2]
def siteL (m:MSI):List AS6->List Int ⊕ (Int×Int)
 |[]=>.inl []
 |.mk k nm xs th el ln cl::l=>match getM m nm with
  |none=>.inr (ln,cl)
  |some i=>match siteL m l with
   |.inl r=>.inl (i::r)
   |.inr f=>.inr f
theorem siteL_app (m:MSI) (b:List AS6):∀a:List AS6,siteL m (a++b)=match siteL m a with
  |.inr f=>.inr f
  |.inl r=>match siteL m b with
   |.inl q=>.inl (r++q)
   |.inr f=>.inr f
 |[]=>by
  rw[List.nil_append,siteL];cases siteL m b<;>rfl
 |.mk k nm xs th el ln cl::a=>by
  rw[List.cons_append,siteL,siteL];cases getM m nm with
  |none=>rfl
  |some i =>
   dsimp only;rw[siteL_app m b a];cases siteL m a with
   |inr f=>rfl
   |inl r =>
    dsimp only;cases siteL m b with
    |inr f=>rfl
    |inl q=>rfl
theorem siteL_len {m:MSI}:∀{l:List AS6}{r:List Int},siteL m l=.inl r->r.length=l.length
 |[],r,h=>by rw[siteL] at h;cases h;rfl
 |.mk k nm xs th el ln cl::l,r,h=>by
  rw[siteL] at h;cases hg:getM m nm with
  |none=>rw[hg] at h;cases h
  |some i =>
   rw[hg] at h;dsimp only at h;cases hs:siteL m l with
   |inr f=>rw[hs] at h;cases h
   |inl q=>rw[hs] at h;cases h;rw[List.length_cons,List.length_cons,siteL_len hs]
abbrev fltV (a b e:Int):Value:=.agg ⟨[.int .i64 a,.int .i64 b,.int .i64 e]⟩
abbrev bF:U.Blk:=.cells 33 [.int .i64 0,.int .i64 0,.int .i64 0] false
abbrev bI (R:List Int):Option U.Blk:=rowO 3 (iL R)
noncomputable abbrev stG (m:MSI) (R:List Int):AS:=⟨mkO [(0,some (mS m)),(1,bI R)],2,1,0⟩
noncomputable abbrev stH (m:MSI) (R:List Int):AS:=⟨mkO [(0,some (mS m)),(2,some bF),(20,bI R),(21,some bF)],22,1,0⟩
noncomputable abbrev stH2 (m:MSI) (R:List Int):AS:=⟨mkO [(0,some (mS m)),(2,some bF),(21,some bF),(22,bI R)],23,1,0⟩
abbrev argsG (b:Nat) (R:List Int) (l:List AS6):List Value:=[rowS b (iL R),imS (encTs l),.map (some 0)]
def GatQ (R:List Int) (res:List Int ⊕ (Int×Int)) (u0:Value) (t0:AS):Prop:=match res with
 |.inl r=>u0=.tuple ⟨[rowS 3 (iL (R++r)),fltV 0 0 0]⟩∧∀b,bI (R++r)=some b->t0.heap.get 3=some b
 |.inr f=>u0=.tuple ⟨[.slice none 0 0,fltV f.1 f.2 120]⟩
theorem bI_q {ok:Nat->Prop}{σ:Nat->Nat}{R:List Int}{b:U.Blk}(h:bI R=some b):U.BlkQ ok σ b b:=by
 cases R with
 |nil=>cases h
 |cons x R =>
  cases h;refine .cells _ _ _ _ rfl fun i a c ha hc=>?_
  rw[ha] at hc;cases hc
  have:=cellsI (x::R);have hm:a∈iL (x::R):=by
   rw[← this];exact List.mem_of_getElem? ha
  obtain ⟨y,_,rfl⟩:=List.mem_map.1 hm;exact .flat _ rfl
theorem bI_ren {n:Nat}{ρ:U.Ren}{R:List Int}{b:U.Blk}(h:bI R=some b):U.RenB n ρ b b:=by
 cases R with
 |nil=>cases h
 |cons x R=>cases h;exact .row _ _ _ _ (cleanIC (x::R)) rfl
theorem bI_lt {R:List Int}{b:U.Blk}(h:bI R=some b):R≠[]:=by
 cases R with
 |nil=>cases h
 |cons x R=>simp
theorem rowS_ren {n:Nat}{ρ:U.Ren}{a b:Nat}(R:List Int) (h:a<n) (e:ρ.f a=b):U.RenV n ρ (rowS a (iL R)) (rowS b (iL R)):=.ofRow h e rfl
theorem rowS_q {ok:Nat->Prop}{σ:Nat->Nat}{a b:Nat}{R:List Int}(hk:R≠[]->ok a) (e:σ a=b):U.RenQ ok σ (rowS a (iL R)) (rowS b (iL R)):=by
 cases R with
 |nil=>exact .flat _ rfl
 |cons x R=>exact .sl _ _ _ _ _ _ _ (hk (by simp)) e rfl rfl
theorem getG {m:MSI}{R:List Int}{k:Nat}{b:U.Blk}(h:(stG m R).heap.get k=some b):(k=0∧b=mS m)∨(k=1∧bI R=some b):=by
 have h:=mkO_get h;simp only[List.mem_cons,List.not_mem_nil,or_false,Prod.mk.injEq,Option.some.injEq] at h;rcases h with h|h
 ·exact .inl h
 ·exact .inr ⟨h.1,h.2.symm⟩
theorem getH {m:MSI}{R:List Int}{k:Nat}{b:U.Blk}(h:(stH m R).heap.get k=some b):(k=0∧b=mS m)∨(k=2∧b=bF)∨(k=20∧bI R=some b)∨(k=21∧b=bF):=by
 have h:=mkO_get h;simp only[List.mem_cons,List.not_mem_nil,or_false,Prod.mk.injEq,Option.some.injEq] at h;rcases h with h|h|h|h
 ·exact .inl h
 ·exact .inr (.inl h)
 ·exact .inr (.inr (.inl ⟨h.1,h.2.symm⟩))
 ·exact .inr (.inr (.inr h))
theorem getH2 {m:MSI}{R:List Int}{k:Nat}{b:U.Blk}(h:(stH2 m R).heap.get k=some b):(k=0∧b=mS m)∨(k=2∧b=bF)∨(k=21∧b=bF)∨(k=22∧bI R=some b):=by
 have h:=mkO_get h;simp only[List.mem_cons,List.not_mem_nil,or_false,Prod.mk.injEq,Option.some.injEq] at h;rcases h with h|h|h|h
 ·exact .inl h
 ·exact .inr (.inl h)
 ·exact .inr (.inr (.inl h))
 ·exact .inr (.inr (.inr ⟨h.1,h.2.symm⟩))
abbrev τG (k:Nat):Nat:=match k with
 |0=>0
 |k+1=>k+20
theorem stG_one {m:MSI}{R:List Int}:(stG m R).heap.get 1=bI R:=rfl
theorem mvdG {m:MSI}{R:List Int}{k:Nat}:U.Mvd (stG m R) τG k↔k=20∧R≠[]:=by
 constructor
 ·rintro ⟨j,h1,h2,rfl⟩
  obtain ⟨b,hb⟩:=Option.ne_none_iff_exists'.1 h2;have h1:1≤j:=h1;rcases getG hb with ⟨rfl,_⟩|⟨rfl,hb⟩
  ·omega
  ·exact ⟨rfl,bI_lt hb⟩
 ·rintro ⟨rfl,h2⟩
  refine ⟨1,Nat.le_refl _,?_,rfl⟩;rw[stG_one];cases R with
  |nil=>exact absurd rfl h2
  |cons x R=>simp[bI,rowO,iL]
theorem gatherC {m:MSI}{R:List Int}{l:List AS6}{res:List Int ⊕ (Int×Int)}(h:SoundAt Tryd.prog 23 (argsG 1 R l) (stG m R) (GatQ R res)) {K:Value->AS->Prop}
  (hl:∀r,res=.inl r->K (.tuple ⟨[rowS 22 (iL (R++r)),fltV 0 0 0]⟩) (stH2 m (R++r)))
  (hr:∀f,res=.inr f->K (.tuple ⟨[.slice none 0 0,fltV f.1 f.2 120]⟩) (stH2 m [])):SoundAt Tryd.prog 23 (argsG 20 R l) (stH m R) K:=by
 refine SoundAt.frame h τG (show 1≤2 by decide) rfl zL (fun j b hj=>?_) (fun j j' _ _ e=>?_) (fun k b hk hm=>?_) (.cons (rowS_ren R (show 1<2 by decide) rfl) (.L (cleanT6s l) rfl (.cons (.mp _ _ (show 0<2 by decide) rfl) .nil))) fun u0 t0 hq hst=>?_
 ·rcases getG hj with ⟨rfl,rfl⟩|⟨rfl,hb⟩
  ·exact ⟨show 0<2 by decide,fun h=>absurd h (show ¬1≤0 by decide),_,rfl,.map _ _ _ (mS_noNm _)⟩
  ·exact ⟨show 1<2 by decide,fun _=>show 1≤20 by decide,b,hb,bI_ren hb⟩
 ·rcases j with _|j<;>rcases j' with _|j'<;>simp[τG] at e ⊢<;>omega
 ·rw[mvdG] at hm;rcases getH hk with ⟨rfl,rfl⟩|⟨rfl,rfl⟩|⟨rfl,hb⟩|⟨rfl,rfl⟩
  ·exact .inr ⟨_,_,_,0,rfl,mS_flat m,show 0<1 by decide,rfl,rfl⟩
  ·exact .inl ⟨_,_,_,rfl,by simp⟩
  ·exact absurd ⟨rfl,bI_lt hb⟩ hm
  ·exact .inl ⟨_,_,_,rfl,by simp⟩
 ·have tell:∀(r:List Int) (u1:Value),(∀b,bI r=some b->t0.heap.get 3=some b)->U.RenQ (U.okF (stH m R) (stH2 m r) (stG m R) τG (fun k=>if k=22 then 3 else k)) (fun k=>if k=22 then 3 else k) u1 u0->U.TellF (stH m R) (stH2 m r) (stG m R) t0 τG (fun k=>if k=22 then 3 else k) u1 u0:=fun r u1 hr hu=>by
   refine ⟨rfl,rfl,show 22≤23 by decide,fun k hk=>?_,fun k b hk hb=>?_,fun k b hk hb=>?_,fun k k' hk hk' hb hb' _=>?_,hu⟩
   ·have hk:k<1:=hk;obtain rfl:k=0:=by omega
    rfl
   ·have hk:k<22:=hk;rcases getH2 hb with ⟨rfl,rfl⟩|⟨rfl,rfl⟩|⟨rfl,rfl⟩|⟨rfl,hb⟩
    ·exact .inl ⟨rfl,by rw[mvdG];rintro ⟨h,_⟩;cases h⟩
    ·exact .inl ⟨rfl,by rw[mvdG];rintro ⟨h,_⟩;cases h⟩
    ·exact .inl ⟨rfl,by rw[mvdG];rintro ⟨h,_⟩;cases h⟩
    ·omega
   ·have hk:22≤k:=hk;rcases getH2 hb with ⟨rfl,rfl⟩|⟨rfl,rfl⟩|⟨rfl,rfl⟩|⟨rfl,hb⟩
    ·omega
    ·omega
    ·omega
    ·exact ⟨show 22<23 by decide,show 2≤3 by decide,b,hr b hb,bI_q hb⟩
   ·have hk:22≤k:=hk;have hk':22≤k':=hk';obtain ⟨b,hb⟩:=Option.ne_none_iff_exists'.1 hb;obtain ⟨b',hb'⟩:=Option.ne_none_iff_exists'.1 hb';rcases getH2 hb with ⟨rfl,_⟩|⟨rfl,_⟩|⟨rfl,_⟩|⟨rfl,_⟩<;>rcases getH2 hb' with ⟨rfl,_⟩|⟨rfl,_⟩|⟨rfl,_⟩|⟨rfl,_⟩<;>omega
  cases res with
  |inl r =>
   obtain ⟨e0,q1⟩:=hq;subst e0;refine ⟨_,_,_,tell (R++r) _ q1 ?_,hl r rfl⟩;refine .tup _ _ rfl fun i a b ha hb=>?_
   rcases i with _|_|i
   ·cases ha;cases hb;exact rowS_q (fun _=>.inr ⟨show 22≤22 by decide,show 22<23 by decide,show 2≤3 by decide⟩) rfl
   ·cases ha;cases hb;exact .flat _ rfl
   ·simp at ha
  |inr f =>
   have e0:u0=_:=hq;subst e0;exact ⟨_,_,_,tell [] _ (fun b hb=>by cases hb) (.flat _ rfl),hr f rfl⟩
def grpB (k:Int):Int:=if k=0∨k=1∨k=2 then 0 else if k=3 then 1 else if k=4 then 2 else 3
theorem groupOf_d (k:Int):DenU Tryd.prog [] 53 [.int .i64 k] (.int .i64 (grpB k)):=by
 refine denU_of_sound hmixU fun Ts=>SoundAt.body hmixU Tryd.func53 rfl rfl rfl 0 ?_
 (repeat' ((conv=>whnf);first|refine goD ?_|refine U.lw_c ?_ ?_<;>intro hb))
 all_goals (conv=>whnf)
 all_goals refine .same (.flat _ rfl) (congrArg (Value.int .i64) ?_)
 all_goals simp only[beq_iff_eq,beq_eq_false_iff_ne] at *
 all_goals (unfold grpB;simp[*])
theorem twice_d (l:List ByteArray) (hl:l.length≤1000):DenU Tryd.prog [] 52 [imS (sL l)] (.bool (!decide l.Nodup)):=by
 refine denU_of_sound hmixU fun Ts=>SoundAt.body hmixU Tryd.func52 rfl rfl rfl 0 ?_
 have kl:=cleanSL l;(repeat' ((conv=>whnf);first|refine goD ?_|refine U.lw_c ?_ ?_<;>intro hb))
 (conv=>whnf);refine loop_inv (α:=List ByteArray×List ByteArray) (fun x=>x.1++x.2=l∧x.1.Nodup) (fun x=>(mkF [(2,.bool false),(3,.map (some 0)),(9,imS (sL l)),(10,.int .i64 (sL l).length),(11,.int .i64 x.1.length)],⟨mkO [(0,some (mS (x.1.map fun s=>(s,1))))],1,0,0⟩)) (fun x=>x.2.length) ([],l) ⟨rfl,.nil⟩ (Cov.slots rL ⟨rfl,rfl,rfl,rfl,rfl,trivial⟩) ?_
 rintro ⟨pre,rest⟩ ⟨p1,p2⟩
 dsimp only at p1 p2;subst p1;dsimp only;rcases rest with _|⟨x,rest⟩
 ·rw[List.append_nil] at *;have yb:=U.lt_no sL_map pre;(repeat' ((conv=>whnf);first|refine goD ?_|refine U.lw_c ?_ ?_<;>intro hb))
  (conv=>whnf);exact .same (.flat _ rfl) (congrArg Value.bool (by rw[decide_eq_true p2];rfl))
 ·have yb:=U.lt_yes sL_map pre (x) rest;have yc:=U.blt_yes sL_map pre (x) rest;have yn:=U.nth_at sL_map pre (x) rest;have yw:=U.len_snoc (pre:=pre) (x:=x) (post:=rest) ((Nat.le_trans hl (by decide)))
  have hmk:(pre.map fun s=>(s,(1:Int))).map (·.1)=pre:=by rw[List.map_map];exact List.map_id _
  rcases look_cases x (pre.map fun s=>(s,(1:Int))) with hz|⟨a,u,b,hm,hz⟩
  ·have hf1:=sS_ok.none (ev:=Value.int .i64) hz;have hf2:=sS_ok.mid (ev:=Value.int .i64) (q:=[]) (u:=IntKind.i64.wrap (0+1)) hz;rw[← mE_snoc] at hf2;rw[hmk] at hz;(repeat' ((conv=>whnf);first|refine goA ?_|refine U.onV_p hf1 ?_|refine U.onV_p hf2 ?_|refine U.natC_p ?_|refine goB ?_|refine U.lw_c ?_ ?_<;>intro hb))
   (conv=>whnf);refine ⟨(pre++[x],rest),⟨by simp,List.nodup_append.2 ⟨p2,by simp,fun a ha b hb=>by rw[List.mem_singleton] at hb;subst hb;intro e;subst e;exact hz ha⟩⟩,by simp,?_⟩
   dsimp only;rw[show ((pre++[x]).map fun s=>(s,(1:Int)))=(pre.map fun s=>(s,(1:Int)))++[(x,1)] by simp]
   exact (Cov.renI rfl rfl rfl rfl (.cons rfl (RenB.mapE (mE_snoc (ek:=Value.string) (ev:=Value.int .i64) _ x _).symm (by rw[range_snoc];simp) (by simp) (mE_noNm cleanI _)) .nil) (.K rfl rfl rfl (.cons rfl (.mp _ _ (by decide) rfl) (.L rfl (kl) rfl (.cons rfl .I (.L rfl (cleanI _) (congrArg (Value.int .i64) (yw.symm)) .nil))))))
  ·have hu:u=1:=by
    have:(x,u)∈(pre.map fun s=>(s,(1:Int))):=by rw[hm];simp
    obtain ⟨s,_,e⟩:=List.mem_map.1 this;cases e;rfl
   subst hu;have hx:x∈pre:=by
    rw[← hmk,hm];simp
   rw[hm];have hf1:=sS_ok.mid (ev:=Value.int .i64) (q:=b) (u:=1) hz;have hf2:=sS_ok.mid (ev:=Value.int .i64) (q:=b) (u:=IntKind.i64.wrap (1+1)) hz;rw[← setP_mid a b x 1] at hf2;have hl:a.length<(a++(x,(1:Int))::b).length:=by simp
   (repeat' ((conv=>whnf);first|refine goA ?_|refine U.onV_p hf1 ?_|refine U.onV_p hf2 ?_|refine U.onV_p (nthN_range hl) ?_|refine U.onV_p (idxB_range hl) ?_|refine U.natC_p ?_|refine goB ?_|refine U.lw_c ?_ ?_<;>intro hb))
   (conv=>whnf);exact .same (.flat _ rfl) (congrArg Value.bool (by rw[decide_eq_false (fun h=>(List.nodup_append.1 h).2.2 x hx x (by simp) rfl)];rfl))
end Go.Proofs.YtcihknonfcldeaaDoor
