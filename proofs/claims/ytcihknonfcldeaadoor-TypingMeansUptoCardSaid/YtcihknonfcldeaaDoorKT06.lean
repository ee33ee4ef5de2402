import Derived.Deep.LoopGhost
import Derived.LoopN
import Derived.Scope
import Derived.Test.YtcihknonfcldeaaDoorKT05
namespace Go.Proofs.YtcihknonfcldeaaDoor
open Go Go.RowKit Go.Sort
set_option linter.unusedVariables false
set_option linter.unusedSimpArgs false
set_option maxRecDepth 100000
set_option maxHeartbeats 40000000
def leA (g:Nat->Option Nat) (x y:AV):Prop :=
 match y with
 |.junk=>True
 |.v u=>match x with
  |.v u'=>u'=u
  |.lit b=>u=.bool b
  |_=>False
 |.lit b=>match x with
  |.v u'=>u'=.bool b
  |.lit b'=>b'=b
  |_=>False
 |.p k off=>match x with
  |.p k' off'=>g k=some k'∧off'=off
  |_=>False
 |.s k=>match x with
  |.s k'=>g k=some k'
  |_=>False
 |.e k off=>match x with
  |.e k' off'=>g k=some k'∧off'=off
  |_=>False
 |.sub k off n=>match x with
  |.sub k' off' n'=>g k=some k'∧off'=off∧n'=n
  |_=>False
 |.t k=>match x with
  |.t k'=>g k=some k'
  |_=>False
def leL (g:Nat->Option Nat):List AV->List AV->Prop
 |[],[]=>True
 |x::l,y::m=>leA g x y∧leL g l m
 |_,_=>False
def mapvL:List Value->List AV
 |[]=>[]
 |x::l=>.v x::mapvL l
def leB (g:Nat->Option Nat) (b c:Blk):Prop :=
 match c with
 |.dead=>True
 |.cells m=>match b with
  |.cells l=>leL g l m
  |_=>False
 |.comp tup m=>match b with
  |.comp tup' l=>tup'=tup∧leL g l m
  |_=>False
 |.row T z k xs=>match b with
  |.row T' z' k' xs'=>T'=T∧z'=z∧k'=k∧xs'=xs
  |_=>False
 |.map es=>match b with
  |.map es'=>es'=es
  |_=>False
 |.arr xs=>match b with
  |.arr xs'=>xs'=xs
  |.cells l=>l=mapvL xs
  |_=>False
 |.clo f first m=>match b with
  |.clo f' first' l=>f'=f∧first'=first∧leL g l m
  |_=>False
 |.obj p=>match b with
  |.obj p'=>p'=p
  |_=>False
def leO (g:Nat->Option Nat):List Blk->List Blk->Prop
 |_,[]=>True
 |c::l,d::m=>leB g c d∧leO g l m
 |_,_=>False
def idG (n k:Nat):Option Nat :=
 match Nat.blt k n with
 |true=>some k
 |false=>none
def leS (fr:List AV) (own:List Blk) (fr':List AV) (own':List Blk):Prop :=
 lenK own' 0 fun n=>leL (idG n) fr fr'∧leO (idG n) own own'
def leM (g:Nat->Option Nat) (own:List Blk):List Nat->List Blk->Prop
 |[],[]=>True
 |k::m,d::l=>(match nth own k with|some c=>leB g c d|none=>False)∧leM g own m l
 |_,_=>False
def junkK (m:Nat):List AV->Nat->(List AV->Prop)->Prop
 |[],_,K=>K []
 |x::l,i,K=>match Nat.testBit m i with
  |true=>junkK m l (i+1) fun l=>K (.junk::l)
  |false=>junkK m l (i+1) fun l=>K (x::l)
def forceA:List AV->(List AV->Prop)->Prop
 |[],K=>K []
 |x::l,K=>match x with
  |.v u=>forceA l fun l=>K (.v u::l)
  |.lit b=>forceA l fun l=>K (.lit b::l)
  |.p k off=>forceA l fun l=>K (.p k off::l)
  |.s k=>forceA l fun l=>K (.s k::l)
  |.e k off=>forceA l fun l=>K (.e k off::l)
  |.sub k off n=>forceA l fun l=>K (.sub k off n::l)
  |.t k=>forceA l fun l=>K (.t k::l)
  |.junk=>forceA l fun l=>K (.junk::l)
def updK:List (Nat×AV)->List AV->(List AV->Prop)->Prop
 |[],fr,K=>forceA fr K
 |(n,x)::l,fr,K=>setK fr n x fun fr=>updK l fr K
inductive RoundN {α:Type}(fr0:List AV) (s:α->List (Nat×AV)) (o:α->List Blk) (μ:α->Nat) (n:Nat) (fr:List AV) (own:List Blk):Prop where
 |mk (y:α) (hlt:μ y<n) (hle:updK (s y) fr0 fun fr1=>leS fr own fr1 (o y)):RoundN fr0 s o μ n fr own
 |via (m:List Nat) (hm:m.Nodup) (y:α) (hlt:μ y<n) (hl:updK (s y) fr0 fun fr1=>leL (nth m) fr fr1) (ho:leM (nth m) own m (o y)):RoundN fr0 s o μ n fr own
def rollK (body:List AV->List Blk->(Exit->List AV->List Blk->Prop)->Prop) (K:Exit->List AV->List Blk->Prop):Nat->List AV->List Blk->Prop
 |0,_,_=>False
 |n+1,fr,own=>body fr own fun e fr own=>match e with
  |.normal=>rollK body K n fr own
  |e=>K e fr own
inductive LoopN (W:Nat) (fr:List AV) (own:List Blk) (body:List AV->List Blk->(Exit->List AV->List Blk->Prop)->Prop) (K:Exit->List AV->List Blk->Prop):Prop where
 |mk (α:Type) (s:α->List (Nat×AV)) (o:α->List Blk) (μ:α->Nat) (x:α) (h0:junkK W fr 0 fun fr0=>updK (s x) fr0 fun fr1=>leS fr own fr1 (o x))
   (hr:junkK W fr 0 fun fr0=>∀x,updK (s x) fr0 fun fr1=>body fr1 (o x) fun e fr own=>match e with
    |.normal=>RoundN fr0 s o μ (μ x) fr own
    |e=>K e fr own):LoopN W fr own body K
 |roll (n:Nat) (h:rollK body K n fr own):LoopN W fr own body K
inductive EndN {α:Type}(fr0:List AV) (s:α->List (Nat×AV)) (o:α->List Blk) (fr:List AV) (own:List Blk):Prop where
 |mk (y:α) (hle:updK (s y) fr0 fun fr1=>leS fr own fr1 (o y)):EndN fr0 s o fr own
 |via (m:List Nat) (hm:m.Nodup) (y:α) (hl:updK (s y) fr0 fun fr1=>leL (nth m) fr fr1) (ho:leM (nth m) own m (o y)):EndN fr0 s o fr own
inductive SeqN (W:Nat) (A:List AV->List Blk->(Exit->List AV->List Blk->Prop)->Prop) (B:List AV->List Blk->Prop) (K:Exit->List AV->List Blk->Prop):List AV->List Blk->Prop where
 |go {fr:List AV}{own:List Blk}(h:A fr own fun e fr own=>match e with
   |.normal=>B fr own
   |e=>K e fr own):SeqN W A B K fr own
 |cut {fr:List AV}{own:List Blk}(α:Type) (s:α->List (Nat×AV)) (o:α->List Blk) (hA:junkK W fr 0 fun fr0=>A fr own fun e fr own=>match e with
   |.normal=>EndN fr0 s o fr own
   |e=>K e fr own) (hB:junkK W fr 0 fun fr0=>∀x,updK (s x) fr0 fun fr1=>B fr1 (o x)):SeqN W A B K fr own
 |nil {fr:List AV}{own:List Blk}(t:Nat) (T:TypeId) (z:Nat) (hx:nth fr t=some (.v (.slice none 0 0))) (k:SeqN W A B K (fr.set t (.s own.length)) (own++[.row T z 0 []])):SeqN W A B K fr own
 |part {fr:List AV}{own:List Blk}(t k:Nat) (T:TypeId) (z n:Nat) (xs:List Value) (hx:nth fr t=some (.s k)) (ho:nth own k=some (.row T z n xs)) (h:SeqN W A B K (fr.set t (.sub k 0 n)) own):SeqN W A B K fr own
variable {P : Program} {F : Facts} {σ : Sg} {fr : List AV} {own : List Blk} {a : Act} {w0 w : World}
def resF (a:Act) (r:ResultVar):Sem Value :=
 match r with
 |.tmp t=>pure (a.tmps.getD t undef)
 |.cell x t=>do loadVar t (← asAddr (a.tmps.getD x undef))
theorem resF_cons {r:ResultVar}{rs:List ResultVar}{u:Value}{vs:List Value}(h1:(resF a r).run P w=.ok u w) (h2:(rs.mapM (resF a)).run P w=.ok vs w):((r::rs).mapM (resF a)).run P w=.ok (u::vs) w:=by
 rw[List.mapM_cons];simp only[Sem.run_bind,h1,Result.andThen_ok,h2,Sem.run_pure]
theorem run_results {fn:Func}{vs:List Value}(h:(fn.results.toList.mapM (resF a)).run P w=.ok vs w):(results fn a.tmps).run P w=.ok (retV vs) w:=by
 have e:results fn a.tmps=(do let vs ← fn.results.mapM (resF a);pure (if h:vs.size=1 then vs[0] else .tuple vs)):=rfl
 rw[e,Array.mapM_eq_mapM_toList];simp only[Sem.run_bind,Sem.run_map,h,Result.andThen_ok];match vs with
 |[]=>rfl
 |[u]=>rfl
 |u::u'::l=>simp[retV]
def namesOf:List AV->List Nat
 |[]=>[]
 |.p k _::l=>k::namesOf l
 |.s k::l=>k::namesOf l
 |.e k _::l=>k::namesOf l
 |.sub k _ _::l=>k::namesOf l
 |.t k::l=>k::namesOf l
 |_::l=>namesOf l
inductive RetN (res0:List AV) (own0:List Blk) (res:List AV) (own:List Blk):Prop where
 |mk (m:List Nat) (hm:m.Nodup) (hn:(List.range own0.length).all (fun k=>(namesOf res0).contains k)=true) (hr:leL (nth m) res res0) (ho:leM (nth m) own m own0):RetN res0 own0 res own
variable {P : Program} {F : Facts} {σ : Sg} {fr : List AV} {own : List Blk} {a : Act} {w0 w : World}
end Go.Proofs.YtcihknonfcldeaaDoor
