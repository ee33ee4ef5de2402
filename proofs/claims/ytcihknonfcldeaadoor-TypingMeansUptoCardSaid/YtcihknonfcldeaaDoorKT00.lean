import Derived.Test.YtcihknonfcldeaaDoorRows
import Derived.WalkKit
import Derived.WalkSpells
import Derived.WalkLawsBesides
import Derived.Lib.QuietBelow
import Derived.BigQuiet
import Derived.Lib.Hide
import Derived.StillTail
namespace Go.Proofs.YtcihknonfcldeaaDoor
open Go Go.RowKit Go.Sort
set_option linter.unusedVariables false
set_option linter.unusedSimpArgs false
set_option maxRecDepth 100000
set_option maxHeartbeats 40000000
theorem zL {n:Nat}:0≤n:=Nat.zero_le n
theorem rL {n:Nat}:n≤n:=Nat.le_refl n
theorem bR {n m:Nat}(h:Nat.ble n m=true):n≤m:=Nat.le_of_ble_eq_true h
theorem nlz {α:Nat->Prop}:∀k,k<0->α k:=fun k hk=>absurd hk (Nat.not_lt_zero k)
theorem kp1 {α:Nat->Prop}(h:α 0):∀k,k<1->α k:=fun k hk=>by
 obtain rfl:k=0:=by omega
 exact h
theorem bLe {n m:Nat}(h:n≤m):Nat.ble n m=true:=Nat.ble_eq_true_of_le h
section
variable {P : Program} {ops : Array Oper} {md : Region.Mode} {C : World → Prop}
end
section
variable {P : Program} {ops : Array Oper} {md : Region.Mode} {w0 : World}
structure CI (w0:World) (m s5 s6:Nat) (Z5 Z6:Obj) (listed:Array Bool) (a:Act) (w:World):Prop where
 below:Below w0.heap.size w0 w
 five:listed.getD m false=true->∃b,a.tmps[s5]?=some (.pointer (some ⟨b,0,none⟩))∧w0.heap.size≤b∧w.heap[b]?=some Z5
 six:listed.getD (m+1) false=true->∃b,a.tmps[s6]?=some (.pointer (some ⟨b,0,none⟩))∧w0.heap.size≤b∧w.heap[b]?=some Z6
 both:listed.getD m false=true->listed.getD (m+1) false=true->∀b b',a.tmps[s5]?=some (.pointer (some ⟨b,0,none⟩))->a.tmps[s6]?=some (.pointer (some ⟨b',0,none⟩))->b≠b'
 size5:s5<a.tmps.size
 size6:s6<a.tmps.size
theorem put_other {a:Act}{x:Option Tmp}{v:Value}{s:Nat}(h:x≠some s):(a.put x v).tmps[s]?=a.tmps[s]?:=by
 cases x with
 |none=>rfl
 |some d =>
  have:d≠s:=fun e=>h (by rw[e])
  simp[Act.put,Array.getElem?_setIfInBounds,this]
theorem put_self {a:Act}{v:Value}{s:Nat}(h:s<a.tmps.size):(a.put (some s) v).tmps[s]?=some v:=by
 simp[Act.put,h]
theorem put_size {a:Act}{x:Option Tmp}{v:Value}:(a.put x v).tmps.size=a.tmps.size:=by
 cases x<;>simp[Act.put]
variable {m s5 s6 : Nat} {Z5 Z6 : Obj}
theorem heap_new (w:World) (o:Obj):(w.alloc o).heap[w.heap.size]?=some o:=by
 show (w.heap.push o)[w.heap.size]?=some o
 simp
end
def ptr (b:Nat):Value:=.pointer (some ⟨b,0,none⟩)
section
variable {S : Nat → Tmp} {g : Nat → Nat}
end
section
variable {P : Program} {ops : Array Oper} {md : Region.Mode} {w0 : World}
variable {m n : Nat} {S : Nat → Tmp} {Z : Nat → Obj}
structure CA (w0:World) (m n:Nat) (S:Nat->Tmp) (Z:Nat->Obj) (listed:Array Bool) (a:Act) (w:World):Prop where
 below:Below w0.heap.size w0 w
 new:∀i∈List.range' m (n-m),listed.getD i false=true->∃b,a.tmps[S i]?=some (ptr b)∧w0.heap.size≤b∧w.heap[b]?=some (Z i)
 apart:∀i∈List.range' m (n-m),∀j∈List.range' m (n-m),i≠j->listed.getD i false=true->listed.getD j false=true->∀b b',a.tmps[S i]?=some (ptr b)->a.tmps[S j]?=some (ptr b')->b≠b'
 size:∀i∈List.range' m (n-m),S i<a.tmps.size
end
end Go.Proofs.YtcihknonfcldeaaDoor
