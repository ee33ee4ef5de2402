
import Derived.Test.YtcihknonfcldeaaDoorKT31
import Derived.Test.YtcihknonfcldeaaDoorKT34
import Derived.Test.YtcihknonfcldeaaDoorKT37
namespace Go.Proofs.YtcihknonfcldeaaDoor.U
open Go Go.RowKit Go.Sort
set_option linter.unusedVariables false
set_option linter.unusedSimpArgs false
set_option maxRecDepth 100000
set_option maxHeartbeats 40000000
theorem flat1_W {u:Value}(h:flat1 u=true):flatV u=true:=by
 cases u<;>first|exact h|simp[flat1] at h
def allT (p:Blk->Bool):Tr Blk->Bool
 |.e=>true
 |.n l v r=>(match v with
  |none=>true
  |some b=>p b)&&allT p l&&allT p r
theorem allT_at {p:Blk->Bool}:∀(q:Pt) (t:Tr Blk) (b:Blk),allT p t=true->Tr.at q t=some b->p b=true
 |.h,.e,b,_,h=>by cases h
 |.l q,.e,b,_,h=>by cases h
 |.r q,.e,b,_,h=>by cases h
 |.h,.n l v r,b,ht,h=>by
  have h:v=some b:=h;subst h;simp only[allT,Bool.and_eq_true] at ht;exact ht.1.1
 |.l q,.n l v r,b,ht,h=>by
  simp only[allT,Bool.and_eq_true] at ht;exact allT_at q l b ht.1.2 h
 |.r q,.n l v r,b,ht,h=>by
  simp only[allT,Bool.and_eq_true] at ht;exact allT_at q r b ht.2 h
def cellB:Blk->Bool
 |.cells _ (_::_) _=>true
 |_=>false
theorem cellB_is {b:Blk}(h:cellB b=true):∃T xs op,b=.cells T xs op∧xs≠[]:=by
 cases b with
 |cells T xs op =>
  cases xs with
  |nil=>cases h
  |cons x l=>exact ⟨T,x::l,op,rfl,by simp⟩
 |_=>cases h
structure DenB (P:Program) (f:FuncId) (args:List Value) (T:TypeId) (xs:List Value) (Q:Value->List Value->Prop):Prop where
 flat:∀x∈xs,flat1 x=true
 out:SoundAt P f args (stW T xs) fun u s=>∃ys,Q u ys∧flatV u=true∧(∀x∈ys,flat1 x=true)∧s.heap.get 0=some (.cells T ys false)
theorem SoundAt.wrK {P:Program}{f:FuncId}{args0 args:List Value}{T:TypeId}{xs:List Value}{Q:Value->List Value->Prop}(hC:DenB P f args0 T xs Q) {s:AS}(b:Nat) (hb:Tr.at (pt b) s.heap=some (.cells T xs false)) (hlo:s.lo≤b) (hg:s.glb≤s.next) (hall:allT cellB s.heap=true)
  (ha:RenL 1 ⟨fun _=>b,fun _ _=>False⟩ args0 args) {K:Value->AS->Prop}(hK:∀y ys,Q y ys->K y ⟨s.heap.set b (some (.cells T ys false)),s.next,s.lo,s.glb⟩):SoundAt P f args s K:=by
 refine ⟨fun hl W0 β W vs hR hfa hv=>?_⟩
 have hg0:∀j c,(stW T xs).heap.get j=some c->j=0∧c=.cells T xs false:=fun j c h=>by
  have:=mkO_get h;rw[List.mem_singleton] at this;cases this;exact ⟨rfl,rfl⟩
 have hne:∀j,(stW T xs).heap.get j≠none->j=0:=fun k h=>by
  obtain ⟨c,hc⟩:=Option.ne_none_iff_exists'.1 h;exact (hg0 k c hc).1
 have hmv:∀k,Mvd (stW T xs) (fun _=>b) k↔k=b:=fun k=>⟨fun ⟨j,_,_,h⟩=>h.symm,fun h=>⟨0,Nat.le_refl _,by rw[show (stW T xs).heap.get 0=some (.cells T xs false) from rfl];simp,h.symm⟩⟩
 have hbl:s.heap.get b≠none:=by rw[show s.heap.get b=_ from hb];simp
 refine (SoundAt.frame (K:=K) hC.out (fun _=>b) (show 0≤1 by decide) rfl hg (fun j c hj=>?_) (fun j j' h h' _=>(hne j h).trans (hne j' h').symm) (fun k c hk hm=>?_) ha fun u0 t0 hq hst=>?_).out hl W0 β W vs hR hfa hv
 ·obtain ⟨rfl,rfl⟩:=hg0 j c hj;exact ⟨Nat.zero_lt_one,fun _=>hlo,_,hb,.cells _ _ _ _ (RenL.refl fun x hx=>.flat x (flat1_W (hC.flat x hx)))⟩
 ·exact .inl (cellB_is (allT_at _ _ _ hall hk))
 ·obtain ⟨ys,h1,h2,h3,h4⟩:=hq;refine ⟨u0,⟨s.heap.set b (some (.cells T ys false)),s.next,s.lo,s.glb⟩,fun _=>0,⟨rfl,rfl,Nat.le_refl _,fun k hk=>?_,fun k c hk hc=>?_,fun k c hk hc=>?_,fun k k' hk hk' hn _ _=>?_,.flat _ h2⟩,hK u0 ys h1⟩
  ·show (s.heap.set b _).get k=_
   rw[Tr.get_set,if_neg (by omega)]
  ·have hc:(s.heap.set b (some (.cells T ys false))).get k=some c:=hc;rw[Tr.get_set] at hc;split at hc
   ·rename_i e;cases hc;refine .inr ⟨(hmv k).2 e,Nat.le_refl _,by rw[show (stW T xs).heap.get 0=some (.cells T xs false) from rfl];simp,e.symm,_,h4,.cells _ _ _ _ rfl fun i x y hx hy=>?_⟩
    rw[hx] at hy;cases hy;exact .flat _ (flat1_W (h3 x (List.mem_of_getElem? hx)))
   ·rename_i e;exact .inl ⟨hc,fun h=>e ((hmv k).1 h)⟩
  ·exfalso
   have hc:(s.heap.set b (some (.cells T ys false))).get k=some c:=hc;rw[Tr.get_set] at hc;split at hc
   ·rename_i e;subst e;have:=hR.dom _ hbl;omega
   ·have:=hR.dom k (by rw[hc];simp)
    omega
  ·exfalso
   have hn:(s.heap.set b (some (.cells T ys false))).get k≠none:=hn;rw[Tr.get_set] at hn;split at hn
   ·rename_i e;subst e;have:=hR.dom _ hbl;omega
   ·have:=hR.dom k hn;omega
end Go.Proofs.YtcihknonfcldeaaDoor.U
namespace Go.Proofs.YtcihknonfcldeaaDoor
open Go Go.RowKit Go.Sort U
set_option linter.unusedVariables false
set_option linter.unusedSimpArgs false
set_option maxRecDepth 100000
set_option maxHeartbeats 40000000
def paramN (l:List EnD) (nm:ByteArray):Nat:=match findE l nm with
 |some e=>e.ps.length
 |none=>0
mutual
def goodE (l:List EnD) (node:Int):AE->Prop
 |.mk k _ nm _ xs _ _=>(k=1->(meanD l node nm).1=1)∧(k=2->(meanD l node nm).1=2)∧goodEs l node xs
def goodEs (l:List EnD) (node:Int):List AE->Prop
 |[]=>True
 |e::xs=>goodE l node e∧goodEs l node xs
end
theorem goodEs_app (l:List EnD) (node:Int):∀a b:List AE,goodEs l node (a++b)↔goodEs l node a∧goodEs l node b
 |[],b=>by simp[goodEs]
 |e::a,b=>by rw[List.cons_append,goodEs,goodEs,goodEs_app l node a b,and_assoc]
mutual
def goodS (l:List EnD) (node:Int):AS6->Prop
 |.mk k nm xs th el _ _=>(k=0->(meanD l node nm).1=1)∧(k=1->(meanD l node nm).1=2)∧(k=5->(meanD l node nm).1=3∧xs.length=paramN l nm)∧goodEs l node xs∧goodSs l node th∧goodSs l node el
def goodSs (l:List EnD) (node:Int):List AS6->Prop
 |[]=>True
 |e::xs=>goodS l node e∧goodSs l node xs
end
theorem goodSs_app (l:List EnD) (node:Int):∀a b:List AS6,goodSs l node (a++b)↔goodSs l node a∧goodSs l node b
 |[],b=>by simp[goodSs]
 |e::a,b=>by rw[List.cons_append,goodSs,goodSs,goodSs_app l node a b,and_assoc]
abbrev Flt:=Int×Int×Int
def orE (a b:Option Flt):Option Flt:=match a with
 |some f=>some f
 |none=>b
theorem orE_eq {a b:Option Flt}(h:orE a b=none):a=none∧b=none:=by
 cases a with
 |none=>exact ⟨rfl,h⟩
 |some f=>cases h
def lookO (l:List EnD) (node:Int) (nm:ByteArray) (want:Int) (args:Nat) (ln cl:Int):Option Flt :=
 if (meanD l node nm).1=0 then some (ln,cl,120) else if (meanD l node nm).1≠want then some (ln,cl,122) else if want=3∧args≠paramN l nm then some (ln,cl,121) else none
theorem lookO_none {l:List EnD}{node:Int}{nm:ByteArray}{want:Int}{args:Nat}{ln cl:Int}(h:lookO l node nm want args ln cl=none):(meanD l node nm).1=want∧(want=3->args=paramN l nm):=by
 unfold lookO at h;split at h
 ·cases h
 ·split at h
  ·cases h
  ·rename_i h1;split at h
   ·cases h
   ·rename_i h2;exact ⟨Classical.byContradiction fun hn=>h1 hn,fun h3=>Classical.byContradiction fun hn=>h2 ⟨h3,hn⟩⟩
theorem lookO_ne {l:List EnD}{node:Int}{nm:ByteArray}{want:Int}{args:Nat}{ln cl:Int}{f:Flt}(h:lookO l node nm want args ln cl=some f):f.2.2≠0:=by
 unfold lookO at h;split at h
 ·cases h;show (120:Int)≠0;decide
 ·split at h
  ·cases h;show (122:Int)≠0;decide
  ·split at h
   ·cases h;show (121:Int)≠0;decide
   ·cases h
mutual
def exE (l:List EnD) (node:Int):AE->Option Flt
 |.mk k _ nm _ xs ln cl=>orE (if k=1 then lookO l node nm 1 0 ln cl else if k=2 then lookO l node nm 2 0 ln cl else none) (exEs l node xs)
def exEs (l:List EnD) (node:Int):List AE->Option Flt
 |[]=>none
 |e::xs=>orE (exE l node e) (exEs l node xs)
end
theorem exEs_app (l:List EnD) (node:Int):∀a b:List AE,exEs l node (a++b)=orE (exEs l node a) (exEs l node b)
 |[],b=>by rw[List.nil_append,exEs];rfl
 |e::a,b=>by
  rw[List.cons_append,exEs,exEs,exEs_app l node a b];cases exE l node e<;>rfl
mutual
def exT (l:List EnD) (node:Int):AS6->Option Flt
 |.mk k nm xs th el ln cl=>orE (if k=0 then lookO l node nm 1 (encAs xs).length ln cl else if k=1 then lookO l node nm 2 (encAs xs).length ln cl else if k=5 then lookO l node nm 3 (encAs xs).length ln cl else none) (orE (exEs l node xs) (orE (exTs l node th) (exTs l node el)))
def exTs (l:List EnD) (node:Int):List AS6->Option Flt
 |[]=>none
 |e::xs=>orE (exT l node e) (exTs l node xs)
end
theorem exTs_app (l:List EnD) (node:Int):∀a b:List AS6,exTs l node (a++b)=orE (exTs l node a) (exTs l node b)
 |[],b=>by rw[List.nil_append,exTs];rfl
 |e::a,b=>by
  rw[List.cons_append,exTs,exTs,exTs_app l node a b];cases exT l node e<;>rfl
mutual
theorem exE_good (l:List EnD) (node:Int):∀e:AE,exE l node e=none->goodE l node e
 |.mk k n nm o xs ln cl,h=>by
  rw[exE] at h;obtain ⟨h1,h2⟩:=orE_eq h;rw[goodE];refine ⟨fun hk=>?_,fun hk=>?_,exEs_good l node xs h2⟩
  ·rw[if_pos hk] at h1;exact (lookO_none h1).1
  ·rw[if_neg (by omega),if_pos hk] at h1;exact (lookO_none h1).1
theorem exEs_good (l:List EnD) (node:Int):∀xs:List AE,exEs l node xs=none->goodEs l node xs
 |[],_=>by rw[goodEs];trivial
 |e::xs,h=>by
  rw[exEs] at h;obtain ⟨h1,h2⟩:=orE_eq h;rw[goodEs];exact ⟨exE_good l node e h1,exEs_good l node xs h2⟩
end
mutual
theorem exT_good (l:List EnD) (node:Int):∀e:AS6,exT l node e=none->goodS l node e
 |.mk k nm xs th el ln cl,h=>by
  rw[exT] at h;obtain ⟨h1,h2⟩:=orE_eq h;obtain ⟨h3,h4⟩:=orE_eq h2;obtain ⟨h5,h6⟩:=orE_eq h4;rw[goodS];refine ⟨fun hk=>?_,fun hk=>?_,fun hk=>?_,exEs_good l node xs h3,exTs_good l node th h5,exTs_good l node el h6⟩
  ·rw[if_pos hk] at h1;exact (lookO_none h1).1
  ·rw[if_neg (by omega),if_pos hk] at h1;exact (lookO_none h1).1
  ·rw[if_neg (by omega),if_neg (by omega),if_pos hk] at h1;exact ⟨(lookO_none h1).1,by rw[← (lookO_none h1).2 rfl,encAs_map,List.length_map]⟩
theorem exTs_good (l:List EnD) (node:Int):∀xs:List AS6,exTs l node xs=none->goodSs l node xs
 |[],_=>by rw[goodSs];trivial
 |e::xs,h=>by
  rw[exTs] at h;obtain ⟨h1,h2⟩:=orE_eq h;rw[goodSs];exact ⟨exT_good l node e h1,exTs_good l node xs h2⟩
end
theorem orE_is {a b:Option Flt}{f:Flt}(h:orE a b=some f):a=some f∨b=some f:=by
 cases a with
 |none=>exact .inr h
 |some g=>exact .inl h
mutual
theorem exE_ne (l:List EnD) (node:Int):∀(e:AE) (f:Flt),exE l node e=some f->f.2.2≠0
 |.mk k n nm o xs ln cl,f,h=>by
  rw[exE] at h;rcases orE_is h with h1|h2
  ·split at h1
   ·exact lookO_ne h1
   ·split at h1
    ·exact lookO_ne h1
    ·cases h1
  ·exact exEs_ne l node xs f h2
theorem exEs_ne (l:List EnD) (node:Int):∀(xs:List AE) (f:Flt),exEs l node xs=some f->f.2.2≠0
 |[],f,h=>by rw[exEs] at h;cases h
 |e::xs,f,h=>by
  rw[exEs] at h;rcases orE_is h with h1|h2
  ·exact exE_ne l node e f h1
  ·exact exEs_ne l node xs f h2
end
mutual
theorem exT_ne (l:List EnD) (node:Int):∀(e:AS6) (f:Flt),exT l node e=some f->f.2.2≠0
 |.mk k nm xs th el ln cl,f,h=>by
  rw[exT] at h;rcases orE_is h with h1|h2
  ·split at h1
   ·exact lookO_ne h1
   ·split at h1
    ·exact lookO_ne h1
    ·split at h1
     ·exact lookO_ne h1
     ·cases h1
  ·rcases orE_is h2 with h3|h4
   ·exact exEs_ne l node xs f h3
   ·rcases orE_is h4 with h5|h6
    ·exact exTs_ne l node th f h5
    ·exact exTs_ne l node el f h6
theorem exTs_ne (l:List EnD) (node:Int):∀(xs:List AS6) (f:Flt),exTs l node xs=some f->f.2.2≠0
 |[],f,h=>by rw[exTs] at h;cases h
 |e::xs,f,h=>by
  rw[exTs] at h;rcases orE_is h with h1|h2
  ·exact exT_ne l node e f h1
  ·exact exTs_ne l node xs f h2
end
def NoOk (l:List EnD):Prop:=∀a e b,l=a++e::b->e.k=4->e.no=(prN a:Int)
theorem mean3 {l:List EnD}{node:Int}{nm:ByteArray}(hn:NoOk l) (h:(meanD l node nm).1=3):∃a e b,l=a++e::b∧e.k=4∧findE l nm=some e∧meanM l nm=(3,(prN a:Int))∧meanD l node nm=(3,(prN a:Int)):=by
 have h0:meanD l node nm=meanM l nm:=by
  unfold meanD at h ⊢
  split at h
  ·cases h
  ·rfl
 rw[h0] at h ⊢;unfold meanM at h ⊢
 split at h
 ·cases h
 ·rename_i e he;obtain ⟨a,b,h1,h2,_,_⟩:=findE_some he;by_cases k3:e.k=3
  ·rw[if_pos k3] at h;cases h
  ·by_cases k4:e.k=4
   ·exact ⟨a,e,b,h1,k4,he,by rw[if_neg k3,if_pos k4,hn a e b h1 k4],by rw[if_neg k3,if_pos k4,hn a e b h1 k4]⟩
   ·rw[if_neg k3,if_neg k4] at h;cases h
abbrev z3:List Value:=[.int .i64 0,.int .i64 0,.int .i64 0]
def LX (r:Option Flt) (u:Value) (ys:List Value):Prop:=(r=none∧u=.bool true∧ys=z3)∨∃a b e:Int,r=some (a,b,e)∧u=.bool false∧ys=[.int .i64 a,.int .i64 b,.int .i64 e]
abbrev useV (node:Int) (nm:ByteArray) (want args ln cl:Int):Value:=.agg ⟨[.int .i64 node,.string nm,.int .i64 want,.int .i64 args,.int .i64 ln,.int .i64 cl]⟩
theorem lqT {r:Option Flt}{s:AS}(hr:r=none) (h:Tr.at (pt 0) s.heap=some (.cells 33 z3 false)):∃ys,LX r (.bool true) ys∧flatV (.bool true)=true∧(∀x∈ys,flat1 x=true)∧s.heap.get 0=some (.cells 33 ys false):=⟨z3,.inl ⟨hr,rfl,rfl⟩,rfl,by simp[flat1],h⟩
theorem lqF {r:Option Flt}{s:AS}{a b e:Int}(hr:r=some (a,b,e)) (h:Tr.at (pt 0) s.heap=some (.cells 33 [.int .i64 a,.int .i64 b,.int .i64 e] false)):∃ys,LX r (.bool false) ys∧flatV (.bool false)=true∧(∀x∈ys,flat1 x=true)∧s.heap.get 0=some (.cells 33 ys false):=⟨_,.inr ⟨a,b,e,hr,rfl,rfl⟩,rfl,by simp[flat1],h⟩
theorem look_b (l:List EnD) (node:Int) (nm:ByteArray) (want:Int) (args:Nat) (ln cl:Int) (hm:(flE l).mp.length≤300) (hl:l.length≤300) (hn:NoOk l) (hwt:want=1∨want=2∨want=3):DenB Tryd.prog 38 [useV node nm want args ln cl,imP (nmV l) 0,.pointer (some ⟨0,0,none⟩)] 33 z3 (LX (lookO l node nm want args ln cl)):=by
 refine ⟨by simp[flat1],SoundAt.body hmixU Tryd.func38 rfl rfl rfl 0 ?_⟩
 have c:=mean_d l node nm hm;have hc:=cleanNm l;unfold lookO;generalize hq:meanD l node nm=q at c ⊢
 obtain ⟨w,no⟩:=q;dsimp only at c ⊢;by_cases w0:w=0
 ·have g1:(w==0)=true:=by simpa using w0
  rw[if_pos w0];(repeat' ((conv=>whnf);first|refine goD ?_|refine U.SoundAt.u (c) clN ?_|refine U.SoundC.u (c) clN ?_|refine U.lw_c ?_ ?_<;>intro hb))
  (conv=>whnf);exact lqF rfl rfl
 ·have g1:(w==0)=false:=by simpa using w0
  rw[if_neg w0];by_cases ww:w=want
  ·subst ww;have g2:(w != w)=false:=by simp
   rw[if_neg (fun h=>h rfl)];by_cases w3:w=3
   ·have g3:(w==3)=true:=by simpa using w3
    subst w3;obtain ⟨a,e,b,h1,h2,h3,h4,h5⟩:=mean3 (node:=node) hn (by rw[hq])
    have hno:no=(prN a:Int):=by rw[hq] at h5;exact (Prod.mk.inj h5).2
    subst hno;obtain ⟨f1,_,_⟩:=flE_at a b e h2;rw[← h1] at f1;have hlt:prN a<(flE l).pl.length:=(List.getElem?_eq_some_iff.1 f1).1;have b1:Nat.blt (prN a) (iL (flE l).pl).length=true:=bLe (by rw[iL_len];exact hlt)
    have n1:nth (iL (flE l).pl) (prN a)=some (.int .i64 (a.length:Nat)):=by rw[nth_eq,iL,List.getElem?_map,f1];rfl
    have b3:Nat.blt a.length (encEns l).length=true:=bLe (by rw[encEns,List.length_map,h1,List.length_append,List.length_cons];omega)
    have n3:nth (encEns l) a.length=some (encEn e):=by rw[h1];exact encEns_at a b e
    have hpn:paramN l nm=e.ps.length:=by unfold paramN;rw[h3]
    rw[hpn];obtain ⟨k,nm2,no2,lo,hi,sz,ps,ln2,cl2⟩:=e;dsimp only;by_cases ha:args=ps.length
    ·have g4:((args:Int) != ((sL ps).length:Int))=false:=by rw[sL,List.length_map,ha];simp
     rw[if_neg (fun h=>h.2 ha)];(repeat' ((conv=>whnf);first|refine goD ?_|refine U.SoundAt.u (c) clN ?_|refine U.SoundC.u (c) clN ?_|refine U.drawX_p (D:=U.propX) 25 [] (by decide +kernel) (by decide +kernel) ?_|refine U.lw_c ?_ ?_<;>intro hb))
     (conv=>whnf);exact lqT rfl rfl
    ·have g4:((args:Int) != ((sL ps).length:Int))=true:=by rw[sL,List.length_map];simp;omega
     rw[if_pos ⟨rfl,ha⟩];(repeat' ((conv=>whnf);first|refine goD ?_|refine U.SoundAt.u (c) clN ?_|refine U.SoundC.u (c) clN ?_|refine U.drawX_p (D:=U.propX) 25 [] (by decide +kernel) (by decide +kernel) ?_|refine U.lw_c ?_ ?_<;>intro hb))
     (conv=>whnf);exact lqF rfl rfl
   ·have g3:(w==3)=false:=by simpa using w3
    rw[if_neg (fun h=>w3 h.1)];(repeat' ((conv=>whnf);first|refine goD ?_|refine U.SoundAt.u (c) clN ?_|refine U.SoundC.u (c) clN ?_|refine U.drawX_p (D:=U.propX) 25 [] (by decide +kernel) (by decide +kernel) ?_|refine U.lw_c ?_ ?_<;>intro hb))
    (conv=>whnf);exact lqT rfl rfl
  ·have g2:(w != want)=true:=by simpa using ww
   rw[if_pos ww];(repeat' ((conv=>whnf);first|refine goD ?_|refine U.SoundAt.u (c) clN ?_|refine U.SoundC.u (c) clN ?_|refine U.lw_c ?_ ?_<;>intro hb))
   (conv=>whnf);exact lqF rfl rfl
end Go.Proofs.YtcihknonfcldeaaDoor
