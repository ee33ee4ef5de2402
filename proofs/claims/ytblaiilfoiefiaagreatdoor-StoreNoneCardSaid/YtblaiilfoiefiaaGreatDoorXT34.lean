import Derived.Shelf.Small.Bits
import Derived.Shelf.Strconv.Itoa0
import Derived.Shelf.Strings.Search1
import Derived.Shelf.Strings.Search2
import Derived.Shelf.Strings.Search3
import Derived.Shelf.Strings.Count
import Derived.Shelf.LaysM
import Derived.Shelf.Strings.Shaped
import Derived.Shelf.Sort.Plain
import Derived.Ground.SlsfProg
import Derived.Shelf.SlSortCmp.InsertionK
import Derived.Shelf.SlSortCmp.SiftDownK
import Derived.Shelf.SlSortCmp.HeapSortK
import Derived.Shelf.SlSortCmp.MedianK
import Derived.Shelf.SlSortCmp.PivotK
import Derived.Shelf.SlSortCmp.ReverseRangeK
import Derived.Shelf.SlSortCmp.PartialInsertionK
import Derived.Shelf.SlSortCmp.PartitionEqualK
import Derived.Shelf.SlSortCmp.PartitionK
import Derived.Shelf.SlSortCmp.PdqK
import Derived.Shelf.SlSortCmp.WholeK
import Derived.Shelf.SlSortCmp.NoneTotal
import Derived.Test.YtblaiilfoiefiaaGreatDoorProg
namespace Go.Proofs
open Go.Shelf
def Tryz.laysSlF06_f233_ren : Go.Shelf.Ren := ⟨fun | 6 => 233 | 15 => 271 | 14 => 270 | 28 => 309 | 29 => 310 | 20 => 301 | 21 => 302 | 22 => 303 | 23 => 304 | 24 => 305 | 25 => 306 | 26 => 307 | 27 => 308 | 46 => 329 | 47 => 330 | 48 => 331 | 49 => 332 | 50 => 333 | 57 => 344 | n => n, fun | 22 => 334 | 24 => 333 | 25 => 336 | 3 => 3 | 39 => 367 | 0 => 0 | 53 => 397 | 55 => 96 | 4 => 4 | 46 => 391 | 45 => 390 | 50 => 280 | 5 => 5 | 9 => 9 | 66 => 409 | 70 => 413 | 76 => 417 | 77 => 108 | n => n, fun | n => n⟩
theorem Tryz.laysSlF06_f233 : Go.Proofs.SlLaysF0.n6 Tryz.prog Tryz.laysSlF06_f233_ren := {
  mixed := by kernel_rfl
  f6 := ⟨Tryz.f233.name, by decide, Tryz.func233.trans (congrArg some (by kernel_rfl))⟩
  f14 := ⟨Tryz.f270.name, by decide, Tryz.func270.trans (congrArg some (by kernel_rfl))⟩
  f15 := Tryz.func271.trans (congrArg some (by kernel_rfl))
  f20 := ⟨Tryz.f301.name, by decide, Tryz.func301.trans (congrArg some (by kernel_rfl))⟩
  f21 := ⟨Tryz.f302.name, by decide, Tryz.func302.trans (congrArg some (by kernel_rfl))⟩
  f22 := ⟨Tryz.f303.name, by decide, Tryz.func303.trans (congrArg some (by kernel_rfl))⟩
  f23 := ⟨Tryz.f304.name, by decide, Tryz.func304.trans (congrArg some (by kernel_rfl))⟩
  f24 := ⟨Tryz.f305.name, by decide, Tryz.func305.trans (congrArg some (by kernel_rfl))⟩
  f25 := ⟨Tryz.f306.name, by decide, Tryz.func306.trans (congrArg some (by kernel_rfl))⟩
  f26 := ⟨Tryz.f307.name, by decide, Tryz.func307.trans (congrArg some (by kernel_rfl))⟩
  f27 := ⟨Tryz.f308.name, by decide, Tryz.func308.trans (congrArg some (by kernel_rfl))⟩
  f28 := Tryz.func309.trans (congrArg some (by kernel_rfl))
  f29 := Tryz.func310.trans (congrArg some (by kernel_rfl))
  f46 := ⟨Tryz.f329.name, by decide, Tryz.func329.trans (congrArg some (by kernel_rfl))⟩
  f47 := Tryz.func330.trans (congrArg some (by kernel_rfl))
  f48 := Tryz.func331.trans (congrArg some (by kernel_rfl))
  f49 := ⟨Tryz.f332.name, by decide, Tryz.func332.trans (congrArg some (by kernel_rfl))⟩
  f50 := ⟨Tryz.f333.name, by decide, Tryz.func333.trans (congrArg some (by kernel_rfl))⟩
  f57 := ⟨Tryz.f344.name, by decide, Tryz.func344.trans (congrArg some (by kernel_rfl))⟩
  t0 := Tryz.underlying0
  a0 := Tryz.isAgg0
  z0 := Tryz.sizeOf0
  v0 := Tryz.zeroValue0
  t3 := Tryz.underlying3
  a3 := Tryz.isAgg3
  z3 := Tryz.sizeOf3
  v3 := Tryz.zeroValue3
  t4 := Tryz.underlying4
  a4 := Tryz.isAgg4
  z4 := Tryz.sizeOf4
  v4 := Tryz.zeroValue4
  t5 := Tryz.underlying5
  a5 := Tryz.isAgg5
  z5 := Tryz.sizeOf5
  v5 := Tryz.zeroValue5
  t9 := Tryz.underlying9
  a9 := Tryz.isAgg9
  z9 := Tryz.sizeOf9
  v9 := Tryz.zeroValue9
  t22 := Tryz.underlying334
  a22 := Tryz.isAgg334
  z22 := Tryz.sizeOf334
  v22 := Tryz.zeroValue334
  t25 := Tryz.underlying336
  a25 := Tryz.isAgg336
  z25 := Tryz.sizeOf336
  v25 := Tryz.zeroValue336
  t39 := Tryz.underlying367
  a39 := Tryz.isAgg367
  z39 := Tryz.sizeOf367
  v39 := Tryz.zeroValue367
  t45 := Tryz.underlying390
  a45 := Tryz.isAgg390
  z45 := Tryz.sizeOf390
  v45 := Tryz.zeroValue390
  t46 := Tryz.underlying391
  a46 := Tryz.isAgg391
  z46 := Tryz.sizeOf391
  v46 := Tryz.zeroValue391
  t50 := Tryz.underlying280
  a50 := Tryz.isAgg280
  z50 := Tryz.sizeOf280
  v50 := Tryz.zeroValue280
  t53 := Tryz.underlying397
  a53 := Tryz.isAgg397
  z53 := Tryz.sizeOf397
  v53 := Tryz.zeroValue397
  t55 := Tryz.underlying96
  a55 := Tryz.isAgg96
  z55 := Tryz.sizeOf96
  v55 := Tryz.zeroValue96
  t66 := Tryz.underlying409
  a66 := Tryz.isAgg409
  z66 := Tryz.sizeOf409
  v66 := Tryz.zeroValue409
  t70 := Tryz.underlying413
  a70 := Tryz.isAgg413
  z70 := Tryz.sizeOf413
  v70 := Tryz.zeroValue413
  t76 := Tryz.underlying417
  a76 := Tryz.isAgg417
  z76 := Tryz.sizeOf417
  v76 := Tryz.zeroValue417
  t77 := Tryz.underlying108
  a77 := Tryz.isAgg108
  z77 := Tryz.sizeOf108
  v77 := Tryz.zeroValue108 }
end Go.Proofs
