import Derived.Laws.CopyRow
import Derived.Test.YtcihknonfcldeaaDoorKT04
namespace Go.Proofs.YtcihknonfcldeaaDoor
open Go Go.RowKit Go.Sort
set_option linter.unusedVariables false
set_option linter.unusedSimpArgs false
set_option maxRecDepth 100000
set_option maxHeartbeats 40000000
variable {P : Program} {F : Facts} {σ : Sg} {fr : List AV} {own : List Blk} {a : Act} {o : Oper} {w0 w : World}
abbrev SF:=Nat->Sg->Value->Prop
structure Ent where
 X:AV
 wd:Bool
 n:Nat
 bs:List Blk
def entX (E:List Ent) (n:Nat):AV :=
 match E[n]? with
 |some e=>e.X
 |none=>.junk
def SFof (arr:Array Oper) (E:List Ent) (S0:SF) (L:Nat->Bool):Nat->SF
 |0=>S0
 |n+1=>fun t=>if L n=true∧(arr[n]?).bind (·.dst)=some t then (entX E n).Is else SFof arr E S0 L n t
section
variable {arr : Array Oper} {E : List Ent} {S0 : SF} {L L' : Nat → Bool} {t : Nat}
end
structure InvL (arr:Array Oper) (E:List Ent) (S0:SF) (h N:Nat) (w0:World) (F:Facts) (ownF:List Blk) (listed:Array Bool) (a:Act) (W:World) (σ:Sg):Prop where
 reg:Reg w0 F σ ownF W
 slots:∀t,SFof arr E S0 (fun i=>listed.getD i false) h t σ (a.tmps.getD t undef)
 size:a.tmps.size=N
 dfr:a.defers=[]
 lab:∀(i:Nat) (e:Ent) (q:Nat),E[i]?=some e->q<e.bs.length->listed.getD i false=false->σ (e.n+q)=none
def pairB (arr:Array Oper) (h:Nat):Bool:=(List.range h).all fun j=>(List.range j).all fun i=>Region.waitsFor .any arr j i || (match arr[i]?,arr[j]? with|some oi,some oj=>oi.apart arr oj|_,_=>false)
def backB (arr:Array Oper) (h:Nat):Bool:=(List.range h).all fun j=>match arr[j]? with|some o=>o.after.all (fun e=>!Region.binds .any e || decide (e.on<j))|none=>false
theorem pairB_spec {arr:Array Oper}{h i j:Nat}{oi oj:Oper}(hp:pairB arr h=true) (hij:i<j) (hj:j<h) (hoi:arr[i]?=some oi) (hoj:arr[j]?=some oj):Region.waitsFor .any arr j i=true∨oi.apart arr oj=true:=by
 have h1:=List.all_eq_true.1 (List.all_eq_true.1 hp j (List.mem_range.2 hj)) i (List.mem_range.2 hij);simp only[hoi,hoj,Bool.or_eq_true] at h1;exact h1
section
variable {arr : Array Oper} {E : List Ent} {S0 : SF} {h N : Nat} {ownF : List Blk} {listed : Array Bool} {W : World}
theorem waits_listed {i j:Nat}(hj:j∈Region.ready .any arr listed) (hw:Region.waitsFor .any arr j i=true):listed.getD i false=true:=by
 obtain ⟨_,oj,hoj,hall⟩:=mem_ready.1 hj;obtain ⟨oj',hoj',e,he,hb,hon⟩:=Region.waitsFor_spec hw;obtain rfl:oj'=oj:=Option.some.inj (hoj'.symm.trans hoj);rw[← hon];exact hall e he hb
theorem writers {j t:Nat}{oj:Oper}(hp:pairB arr h=true) (inv:HeadInv .any arr h listed) (hj:j∈Region.ready .any arr listed) (hjh:j<h) (hoj:arr[j]?=some oj) (ht:t∈oj.looksAt arr∨oj.dst=some t) :
  (∀i,i<j->(arr[i]?).bind (·.dst)=some t->listed.getD i false=true)∧(∀i,j<i->i<h->(arr[i]?).bind (·.dst)=some t->listed.getD i false=false):=by
 have hun:=getD_both (mem_ready.1 hj).1;refine ⟨fun i hi hd=>?_,fun i hi hih hd=>?_⟩
 ·cases hoi:arr[i]? with
  |none=>simp[hoi] at hd
  |some oi =>
   simp only[hoi,Option.bind_some] at hd;rcases pairB_spec hp hi hjh hoi hoj with hw|hap
   ·exact waits_listed hj hw
   ·obtain ⟨h1,h2,h3⟩:=Oper.apart_spec hap;rcases ht with ht|ht
    ·exact absurd ht (h1 t hd)
    ·exact absurd ht (h2 t hd)
 ·cases hoi:arr[i]? with
  |none=>simp[hoi] at hd
  |some oi =>
   simp only[hoi,Option.bind_some] at hd;rcases pairB_spec hp hi hih hoj hoi with hw|hap
   ·obtain ⟨oi',hoi',e,he,hb,hon⟩:=Region.waitsFor_spec hw;obtain rfl:oi'=oi:=Option.some.inj (hoi'.symm.trans hoi);cases hl:listed.getD i false with
    |false=>rfl
    |true =>
     have:=inv.closed i oi' hoi hl e he hb;rw[hon,hun] at this;cases this
   ·obtain ⟨h1,h2,h3⟩:=Oper.apart_spec hap;rcases ht with ht|ht
    ·exact absurd ht (h3 t hd)
    ·exact absurd hd (h2 t ht)
end
section
variable {P : Program} {F : Facts} {σ : Sg} {fr : List AV} {own : List Blk} {a : Act} {o : Oper} {w0 w : World} {arr : Array Oper} {h : Nat} {listed : Array Bool}
def cnt (listed:Array Bool):Nat->Nat
 |0=>0
 |n+1=>cnt listed n+if listed.getD n false=true then 0 else 1
theorem cnt_set {j:Nat}(hj:listed.getD j false=false) (hs:j<listed.size):∀n,cnt listed n=cnt (listed.setIfInBounds j true) n+if j<n then 1 else 0
 |0=>by simp[cnt]
 |n+1=>by
  unfold cnt;rw[cnt_set hj hs n];by_cases he:j=n
  ·subst he;have e1:(listed.setIfInBounds j true).getD j false=true:=by simp[hs]
   rw[hj,e1];simp
  ·rw[getD_set_ne false he];have e2:(if j<n then 1 else 0)=(if j<n+1 then 1 else 0):=by split<;>split<;>omega
   rw[e2];omega
theorem cnt_zero:∀n,cnt listed n=0->∀i,i<n->listed.getD i false=true
 |n+1,h,i,hi=>by
  unfold cnt at h;by_cases he:i=n
  ·subst he;cases hl:listed.getD i false with
   |true=>rfl
   |false=>rw[hl] at h;simp at h
  ·exact cnt_zero n (by omega) i (by omega)
theorem cnt_first:∀n,0<cnt listed n->∃i,i<n∧listed.getD i false=false∧∀k,k<i->listed.getD k false=true
 |n+1,h=>by
  by_cases h0:0<cnt listed n
  ·obtain ⟨i,h1,h2,h3⟩:=cnt_first n h0;exact ⟨i,by omega,h2,h3⟩
  ·have hz:=cnt_zero (listed:=listed) n (by omega)
   unfold cnt at h;cases hl:listed.getD n false with
   |true=>rw[hl] at h;simp at h;omega
   |false=>exact ⟨n,by omega,hl,hz⟩
def canon (m h:Nat):Array Bool:=((List.range m).map fun i=>decide (i<h)).toArray
theorem canon_of (inv:HeadInv .any arr h listed) (hall:∀i,i<h->listed.getD i false=true):listed=canon arr.size h:=by
 have hs:=inv.size;apply Array.ext_getElem?;intro i;by_cases hi:i<arr.size
 ·have hc:(canon arr.size h)[i]?=some (decide (i<h)):=by simp[canon,hi]
  rw[hc];have hi':i<listed.size:=by omega
  by_cases hih:i<h
  ·have:=hall i hih;simp[hi'] at this
   simp[hi',this,hih]
  ·have:=inv.tail i (by omega) hi
   simp[hi'] at this
   simp[hi',this,hih]
 ·rw[Array.getElem?_eq_none (by omega),Array.getElem?_eq_none (by simp[canon];omega)]
end
section
variable {P : Program} {F : Facts} {σ : Sg} {fr : List AV} {own : List Blk} {a : Act} {o : Oper} {w0 w : World} {arr : Array Oper} {h : Nat} {listed : Array Bool}
abbrev Ini:=List (Nat×Nat×List AV)
def ownAt:Ini->List Blk->(Nat->Bool)->List Blk
 |[],own,_=>own
 |(s,k,l)::I,own,L=>ownAt I (if L s=true then own.set k (.cells l) else own) L
def iniKeys (I:Ini):List Nat:=I.map fun x=>x.2.1
structure InvB (arr:Array Oper) (E:List Ent) (S0:SF) (h N:Nat) (w0:World) (F:Facts) (I:Ini) (own0:List Blk) (listed:Array Bool) (a:Act) (W:World) (σ:Sg):Prop where
 inv:InvL arr E S0 h N w0 F (ownAt I own0 fun i=>listed.getD i false) listed a W σ
 st:∀s k l,(s,k,l)∈I->listed.getD s false=true->σ k≠none
structure IniOk (I:Ini) (own:List Blk) (j:Nat):Prop where
 nd:(iniKeys I).Nodup
 uq:∀x∈I,∀y∈I,x.1=y.1->x=y
 lt:∀x∈I,x.1<j
 jk:∀s k l,(s,k,l)∈I->own[k]?=some (.cells (List.replicate l.length .junk))
inductive DrawN (A B C:Prop):Prop where
 |a (h:A):DrawN A B C
 |b (h:B):DrawN A B C
 |c (h:C):DrawN A B C
end
end Go.Proofs.YtcihknonfcldeaaDoor
