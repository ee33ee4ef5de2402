import Derived.Shelf.Small.Bits
import Derived.Shelf.Small.Wraps
import Derived.Shelf.Strconv.Itoa0
import Derived.Shelf.Slices.Turned
import Derived.Ground.Names2Prog
import Derived.Shelf.Slices.SearchI
import Derived.Ground.SlsfProg
import Derived.Shelf.SlSortCmp.InsertionK
import Derived.Shelf.SlSortCmp.SiftDownK
import Derived.Shelf.SlSortCmp.HeapSortK
import Derived.Shelf.SlSortCmp.MedianK
import Derived.Shelf.SlSortCmp.PivotK
import Derived.Shelf.SlSortCmp.ReverseRangeK
import Derived.Shelf.SlSortCmp.PartialInsertionK
import Derived.Shelf.SlSortCmp.PartitionEqualK
import Derived.Shelf.SlSortCmp.PartitionK
import Derived.Shelf.SlSortCmp.PdqK
import Derived.Shelf.SlSortCmp.WholeK
import Derived.Shelf.SlSortCmp.NoneTotal
import Derived.Test.YtcihknonfcldeaaDoorProg
import Derived.Test.YtcihknonfcldeaaDoorKT25
namespace Go.Proofs
open Go.Shelf
set_option linter.unusedVariables false
set_option linter.unusedSimpArgs false
set_option maxRecDepth 100000
set_option maxHeartbeats 40000000
def Tryd.laysSlF06_f40_ren:Go.Shelf.Ren:=⟨fun|6=>40|15=>58|14=>57|28=>74|29=>75|20=>66|21=>67|22=>68|23=>69|24=>70|25=>71|26=>72|27=>73|46=>77|47=>78|48=>79|49=>80|50=>81|57=>82|n=>n,fun|22=>108|24=>107|25=>110|3=>3|39=>132|0=>0|53=>146|55=>148|4=>4|46=>140|45=>139|50=>41|5=>5|9=>9|66=>150|70=>154|76=>156|77=>157|n=>n,fun|n=>n⟩
theorem Tryd.laysSlF06_f40:Go.Proofs.SlLaysF0.n6 Tryd.prog Tryd.laysSlF06_f40_ren:={
 mixed:=by kernel_rfl
 f6:=⟨Tryd.f40.name,by decide,Tryd.func40.trans (congrArg some (by kernel_rfl))⟩
 f14:=⟨Tryd.f57.name,by decide,Tryd.func57.trans (congrArg some (by kernel_rfl))⟩
 f15:=Tryd.func58.trans (congrArg some (by kernel_rfl))
 f20:=⟨Tryd.f66.name,by decide,Tryd.func66.trans (congrArg some (by kernel_rfl))⟩
 f21:=⟨Tryd.f67.name,by decide,Tryd.func67.trans (congrArg some (by kernel_rfl))⟩
 f22:=⟨Tryd.f68.name,by decide,Tryd.func68.trans (congrArg some (by kernel_rfl))⟩
 f23:=⟨Tryd.f69.name,by decide,Tryd.func69.trans (congrArg some (by kernel_rfl))⟩
 f24:=⟨Tryd.f70.name,by decide,Tryd.func70.trans (congrArg some (by kernel_rfl))⟩
 f25:=⟨Tryd.f71.name,by decide,Tryd.func71.trans (congrArg some (by kernel_rfl))⟩
 f26:=⟨Tryd.f72.name,by decide,Tryd.func72.trans (congrArg some (by kernel_rfl))⟩
 f27:=⟨Tryd.f73.name,by decide,Tryd.func73.trans (congrArg some (by kernel_rfl))⟩
 f28:=Tryd.func74.trans (congrArg some (by kernel_rfl))
 f29:=Tryd.func75.trans (congrArg some (by kernel_rfl))
 f46:=⟨Tryd.f77.name,by decide,Tryd.func77.trans (congrArg some (by kernel_rfl))⟩
 f47:=Tryd.func78.trans (congrArg some (by kernel_rfl))
 f48:=Tryd.func79.trans (congrArg some (by kernel_rfl))
 f49:=⟨Tryd.f80.name,by decide,Tryd.func80.trans (congrArg some (by kernel_rfl))⟩
 f50:=⟨Tryd.f81.name,by decide,Tryd.func81.trans (congrArg some (by kernel_rfl))⟩
 f57:=⟨Tryd.f82.name,by decide,Tryd.func82.trans (congrArg some (by kernel_rfl))⟩
 t0:=Tryd.underlying0
 a0:=Tryd.isAgg0
 z0:=Tryd.sizeOf0
 v0:=Tryd.zeroValue0
 t3:=Tryd.underlying3
 a3:=Tryd.isAgg3
 z3:=Tryd.sizeOf3
 v3:=Tryd.zeroValue3
 t4:=Tryd.underlying4
 a4:=Tryd.isAgg4
 z4:=Tryd.sizeOf4
 v4:=Tryd.zeroValue4
 t5:=Tryd.underlying5
 a5:=Tryd.isAgg5
 z5:=Tryd.sizeOf5
 v5:=Tryd.zeroValue5
 t9:=Tryd.underlying9
 a9:=Tryd.isAgg9
 z9:=Tryd.sizeOf9
 v9:=Tryd.zeroValue9
 t22:=Tryd.underlying108
 a22:=Tryd.isAgg108
 z22:=Tryd.sizeOf108
 v22:=Tryd.zeroValue108
 t25:=Tryd.underlying110
 a25:=Tryd.isAgg110
 z25:=Tryd.sizeOf110
 v25:=Tryd.zeroValue110
 t39:=Tryd.underlying132
 a39:=Tryd.isAgg132
 z39:=Tryd.sizeOf132
 v39:=Tryd.zeroValue132
 t45:=Tryd.underlying139
 a45:=Tryd.isAgg139
 z45:=Tryd.sizeOf139
 v45:=Tryd.zeroValue139
 t46:=Tryd.underlying140
 a46:=Tryd.isAgg140
 z46:=Tryd.sizeOf140
 v46:=Tryd.zeroValue140
 t50:=Tryd.underlying41
 a50:=Tryd.isAgg41
 z50:=Tryd.sizeOf41
 v50:=Tryd.zeroValue41
 t53:=Tryd.underlying146
 a53:=Tryd.isAgg146
 z53:=Tryd.sizeOf146
 v53:=Tryd.zeroValue146
 t55:=Tryd.underlying148
 a55:=Tryd.isAgg148
 z55:=Tryd.sizeOf148
 v55:=Tryd.zeroValue148
 t66:=Tryd.underlying150
 a66:=Tryd.isAgg150
 z66:=Tryd.sizeOf150
 v66:=Tryd.zeroValue150
 t70:=Tryd.underlying154
 a70:=Tryd.isAgg154
 z70:=Tryd.sizeOf154
 v70:=Tryd.zeroValue154
 t76:=Tryd.underlying156
 a76:=Tryd.isAgg156
 z76:=Tryd.sizeOf156
 v76:=Tryd.zeroValue156
 t77:=Tryd.underlying157
 a77:=Tryd.isAgg157
 z77:=Tryd.sizeOf157
 v77:=Tryd.zeroValue157 }
end Go.Proofs
namespace Go.Proofs.YtcihknonfcldeaaDoor
open Go Go.RowKit Go.Sort U
set_option linter.unusedVariables false
set_option linter.unusedSimpArgs false
set_option maxRecDepth 100000
set_option maxHeartbeats 40000000
theorem sortE_C (d:List (Int×Int)) (W:World) (r cap:Nat) (hH:HoldsK e2L 2 W r 0 d.toArray) (hr:r<W.heap.size) (hd:d.length≤1000000):Calls Tryd.prog 40 #[.slice (some ⟨r,0,none⟩) d.length cap,.func (.func 41) #[] #[]] W fun e w'=>e=.returned (.tuple #[])∧∃n os,w'=sortWorldK e2L 2 W r 0 n (sortE d).toArray os:=by
 have aE:∀w,(isAgg 107).run Tryd.prog w=.ok true w:=fun w=>by kernel_rfl
 have zE:∀w,(Go.sizeOf 107).run Tryd.prog w=.ok 2 w:=fun w=>by kernel_rfl
 have eg:∀args w,(callFunc 41 args).run Tryd.prog w=.ok (.enter 41 args) w:=enters_of Tryd.func41 (by kernel_rfl) rfl
 have h:=AnyQ.slices_SortFunc_total Tryd.laysSlF06_f40 2 aE zE e2L (fun _=>rfl) (fun x v hv=>by simp[e2L] at hv;rcases hv with rfl|rfl<;>rfl) cmpE cmpE_swo 41 #[] r 0 cap d.toArray W eg (edgeCmp _ _ _ _) hH hr (by simp;omega) cmpE_total
 exact h
theorem sort_s {es:List (Int×Int)}{tl:List Value}{s:AS}{b n c:Nat}{op:Bool}(hb:s.heap.get b=some (.cells 107 (es.flatMap e2L++tl) op)) (hlo:s.lo≤b) (hn:es.length=n) (hm:n≤1000000) {K:Value->AS->Prop}(hK:K (.tuple ⟨[]⟩) ⟨s.heap.set b (some (.cells 107 ((sortE es).flatMap e2L++tl) op)),s.next,s.lo,s.glb⟩) :
  SoundAt Tryd.prog 40 [.slice (some ⟨b,0,none⟩) n c,.func (.func 41) ⟨[]⟩ ⟨[]⟩] s K :=
 sortAt (k:=2) (fun _=>rfl) (fun x v hv=>by simp[e2L] at hv;rcases hv with rfl|rfl<;>rfl) (fun x v hv=>by simp[e2L] at hv;rcases hv with rfl|rfl<;>rfl) (srt:=sortE) (fun l=>by simp[sortE]) sortE_C hb hlo hn hm hK
end Go.Proofs.YtcihknonfcldeaaDoor
