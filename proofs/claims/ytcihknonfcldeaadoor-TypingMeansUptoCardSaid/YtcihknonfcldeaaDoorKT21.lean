
import Derived.Test.YtcihknonfcldeaaDoorKT20
namespace Go.Proofs.YtcihknonfcldeaaDoor.U
open Go Go.RowKit Go.Sort
set_option linter.unusedVariables false
set_option linter.unusedSimpArgs false
set_option maxRecDepth 100000
set_option maxHeartbeats 40000000
structure CovS (P:Program) (n0:Nat) (s s1:AS):Prop where
 lo:s1.lo=s.lo
 glb:s1.glb=s.glb
 next:n0≤s1.next
 keep:∀(k:Nat),k<s.lo->s1.heap.get k=s.heap.get k
 rel:∀(W0:World) (β:Bt) (W:World),Rel P W0 β s W->FreeA β s.next->∃β1:Bt,(∀k,k<n0->β1 k=β k)∧FreeA β1 s1.next∧FrzLe W0.heap.size β β1∧Rel P W0 β1 s1 W
structure St3 where
 a:Tr Blk
 g:Tr Blk
 z:Tr Blk
abbrev Frz:=Nat->Nat->Option Value
def lpB (r:Nat) (z:Frz):Bt:=⟨fun k=>if k=0 then some (r,0) else none,z⟩
def DoesJ (P:Program) (W:World) (v0:Value) (Q:World->Prop):Result Next->Prop
 |.ok (.value v) W'=>v=v0∧Q W'
 |.ok (.enter f args) W'=>W'=W∧Calls P f args W fun e w'=>e=.returned v0∧Q w'
 |.ok (.round l f tmps assign body) W'=>W'=W∧RoundIn Fence.wide 0 P l f tmps assign body W fun e w'=>e=.returned v0∧Q w'
 |_=>False
structure InvJ (P:Program) (r:Nat) (J:Frz->List Value->World->Prop):Prop where
 val:∀z ts W,J z ts W->∀o i v,z o i=some v->fzc W ⟨o,i,none⟩=some v
 loop:∀z ts W,J z ts W->∃L,W.heap[r]?=some (.loop L)
 below:∀z ts W W' z',J z ts W->Below W.heap.size W W'->(∀o i v,z o i=some v->z' o i=some v)->(∀o i v,z' o i=some v->fzc W' ⟨o,i,none⟩=some v∧(z o i=some v∨W.heap.size≤o))->J z' ts W'
 takes:∀z ts W z1 ts1 W1 W' (l:List Nat),J z ts W->J z1 ts1 W1->(∀d∈l,W1.heap.size≤d∧W.heap[d]?=some (.deferred (some [])))->W'.os=W.os->W'.tape=W.tape->W'.output=W.output->W'.heap.size=W.heap.size->(∀i,(∀d∈l,i≠d)->W'.heap[i]?=W.heap[i]?)->J z ts W'
 round:∀z x ts W v,J z (x::ts) W->VR ⟨fun _=>none,z⟩ x v->DoesJ P W (.bool true) (fun w'=>∃z',(∀o i v,z o i=some v->z' o i=some v)∧J z' ts w'∧KD W w') ((Instr.yield r ⟨[v]⟩).run P W)
structure IterT (P:Program) (N:Nat) (c:Code) (fr:Tr Value) (ts:List Value) (k:Exit->Tr Value->List Value->Prop):Prop where
 out:∀r J,InvJ P r J->∀(F:Fence) (n:Nat) z ts' a W (Q:Exit->Act->World->Prop),WF F->LoopAt F W->J z (ts++ts') W->FrR (lpB r z) N fr a ->
  (∀e fr' ts1 z' a' W',k e fr' ts1->(∀o i v,z o i=some v->z' o i=some v)->J z' (ts1++ts') W'->FrR (lpB r z') N fr' a'->KD W W'->DM W.heap.size W' a.defers a'.defers->Q e a' W')->c.wpIn F n P Q a W
structure OpsI (P:Program) (N:Nat) (ops l:List Oper) (fr:Tr Value) (ts:List Value) (k:Tr Value->List Value->Prop):Prop where
 out:∀r J,InvJ P r J->∀(F:Fence) (n:Nat) z ts' a W (Q:Exit->Act->World->Prop),WF F->LoopAt F W->J z (ts++ts') W->FrR (lpB r z) N fr a ->
  (∀fr' ts1 z' a' W',k fr' ts1->(∀o i v,z o i=some v->z' o i=some v)->J z' (ts1++ts') W'->FrR (lpB r z') N fr' a'->KD W W'->a'.defers=a.defers->Q .normal a' W')->wpListIn F n P ops.toArray Q l a W
variable {P : Program} {N : Nat} {fr : Tr Value} {ts : List Value}
end Go.Proofs.YtcihknonfcldeaaDoor.U
