/- THE LIBRARY's FUNCTIONS THAT WRITE IN PLACE, laid at this program (the plain text of the kit's laying commands). -/
import Derived.Shelf.SlicesE.Compact
import Derived.Shelf.SlicesQ.Reverse
import Derived.Shelf.SortM.Plain
import Derived.Shelf.SortM.SortNone
import Derived.Test.YteiddempdecleaaGreatAbB0
set_option linter.unusedVariables false
set_option linter.unusedSimpArgs false
namespace Go.Proofs
open Go.Shelf Go.Lib Go.RowKit Go.Sort
def Tryz.revT_ren : Go.Shelf.Ren := ⟨fun | 35 => 224 | n => n, fun | 22 => 23 | 23 => 27 | 3 => 3 | 4 => 4 | 0 => 0 | n => n, fun | n => n⟩
theorem Tryz.revT : Go.Proofs.SlLaysE0.n35 Tryz.prog Tryz.revT_ren where
  mixed := by kernel_rfl
  f35 := ⟨ "slices.Reverse[[]scholium/api.Term,scholium/api.Term]", by decide, Tryz.func224.trans (congrArg some (by kernel_rfl))⟩
  t0 := Tryz.underlying0
  a0 := Tryz.isAgg0
  z0 := Tryz.sizeOf0
  v0 := Tryz.zeroValue0
  t3 := Tryz.underlying3
  a3 := Tryz.isAgg3
  z3 := Tryz.sizeOf3
  v3 := Tryz.zeroValue3
  t4 := Tryz.underlying4
  a4 := Tryz.isAgg4
  z4 := Tryz.sizeOf4
  v4 := Tryz.zeroValue4
  t22 := Tryz.underlying23
  a22 := Tryz.isAgg23
  z22 := Tryz.sizeOf23
  v22 := Tryz.zeroValue23
def Tryz.cmpI_ren : Go.Shelf.Ren := ⟨fun | 43 => 274 | n => n, fun | 22 => 34 | 23 => 3 | 3 => 3 | 4 => 4 | 0 => 0 | n => n, fun | n => n⟩
theorem Tryz.cmpI : Go.Proofs.SlLaysE.n43 Tryz.prog Tryz.cmpI_ren where
  mixed := by kernel_rfl
  f43 := ⟨ "slices.Compact[[]int,int]", by decide, Tryz.func274.trans (congrArg some (by kernel_rfl))⟩
  t0 := Tryz.underlying0
  a0 := Tryz.isAgg0
  z0 := Tryz.sizeOf0
  v0 := Tryz.zeroValue0
  t3 := Tryz.underlying3
  a3 := Tryz.isAgg3
  z3 := Tryz.sizeOf3
  v3 := Tryz.zeroValue3
  t4 := Tryz.underlying4
  a4 := Tryz.isAgg4
  z4 := Tryz.sizeOf4
  v4 := Tryz.zeroValue4
  t22 := Tryz.underlying34
  a22 := Tryz.isAgg34
  z22 := Tryz.sizeOf34
  v22 := Tryz.zeroValue34
  a23 := Tryz.isAgg3
  z23 := Tryz.sizeOf3
def Tryz.sortI_ren : Go.Shelf.Ren := ⟨fun | 5 => 273 | 8 => 301 | 7 => 300 | 19 => 330 | 20 => 331 | 10 => 321 | 11 => 322 | 12 => 323 | 13 => 324 | 14 => 325 | 15 => 326 | 16 => 327 | 17 => 328 | 18 => 329 | 30 => 343 | 31 => 344 | 32 => 345 | 33 => 346 | 34 => 347 | 35 => 348 | 40 => 356 | n => n, fun | 23 => 34 | 25 => 3 | 3 => 3 | 32 => 329 | 22 => 34 | 0 => 0 | 44 => 355 | 46 => 357 | 4 => 4 | 36 => 348 | 35 => 347 | 41 => 254 | 5 => 5 | 9 => 9 | 53 => 371 | 57 => 375 | 63 => 378 | 64 => 339 | n => n, fun | n => n⟩
theorem Tryz.sortI : Go.Proofs.SlLaysM.n5 Tryz.prog Tryz.sortI_ren where
  mixed := by kernel_rfl
  f5 := ⟨ "slices.Sort[[]int,int]", by decide, Tryz.func273.trans (congrArg some (by kernel_rfl))⟩
  f7 := ⟨ "slices.pdqsortOrdered[int]", by decide, Tryz.func300.trans (congrArg some (by kernel_rfl))⟩
  f8 := Tryz.func301.trans (congrArg some (by kernel_rfl))
  f10 := ⟨ "slices.insertionSortOrdered[int]", by decide, Tryz.func321.trans (congrArg some (by kernel_rfl))⟩
  f11 := ⟨ "slices.heapSortOrdered[int]", by decide, Tryz.func322.trans (congrArg some (by kernel_rfl))⟩
  f12 := ⟨ "slices.breakPatternsOrdered[int]", by decide, Tryz.func323.trans (congrArg some (by kernel_rfl))⟩
  f13 := ⟨ "slices.choosePivotOrdered[int]", by decide, Tryz.func324.trans (congrArg some (by kernel_rfl))⟩
  f14 := ⟨ "slices.reverseRangeOrdered[int]", by decide, Tryz.func325.trans (congrArg some (by kernel_rfl))⟩
  f15 := ⟨ "slices.partialInsertionSortOrdered[int]", by decide, Tryz.func326.trans (congrArg some (by kernel_rfl))⟩
  f16 := ⟨ "cmp.Less[int]", by decide, Tryz.func327.trans (congrArg some (by kernel_rfl))⟩
  f17 := ⟨ "slices.partitionEqualOrdered[int]", by decide, Tryz.func328.trans (congrArg some (by kernel_rfl))⟩
  f18 := ⟨ "slices.partitionOrdered[int]", by decide, Tryz.func329.trans (congrArg some (by kernel_rfl))⟩
  f19 := Tryz.func330.trans (congrArg some (by kernel_rfl))
  f20 := Tryz.func331.trans (congrArg some (by kernel_rfl))
  f30 := ⟨ "slices.siftDownOrdered[int]", by decide, Tryz.func343.trans (congrArg some (by kernel_rfl))⟩
  f31 := Tryz.func344.trans (congrArg some (by kernel_rfl))
  f32 := Tryz.func345.trans (congrArg some (by kernel_rfl))
  f33 := ⟨ "slices.medianAdjacentOrdered[int]", by decide, Tryz.func346.trans (congrArg some (by kernel_rfl))⟩
  f34 := ⟨ "slices.medianOrdered[int]", by decide, Tryz.func347.trans (congrArg some (by kernel_rfl))⟩
  f35 := ⟨ "cmp.isNaN[int]", by decide, Tryz.func348.trans (congrArg some (by kernel_rfl))⟩
  f40 := ⟨ "slices.order2Ordered[int]", by decide, Tryz.func356.trans (congrArg some (by kernel_rfl))⟩
  t0 := Tryz.underlying0
  a0 := Tryz.isAgg0
  z0 := Tryz.sizeOf0
  v0 := Tryz.zeroValue0
  t3 := Tryz.underlying3
  a3 := Tryz.isAgg3
  z3 := Tryz.sizeOf3
  v3 := Tryz.zeroValue3
  t4 := Tryz.underlying4
  a4 := Tryz.isAgg4
  z4 := Tryz.sizeOf4
  v4 := Tryz.zeroValue4
  t5 := Tryz.underlying5
  a5 := Tryz.isAgg5
  z5 := Tryz.sizeOf5
  v5 := Tryz.zeroValue5
  t9 := Tryz.underlying9
  a9 := Tryz.isAgg9
  z9 := Tryz.sizeOf9
  v9 := Tryz.zeroValue9
  t22 := Tryz.underlying34
  a22 := Tryz.isAgg34
  z22 := Tryz.sizeOf34
  v22 := Tryz.zeroValue34
  t23 := Tryz.underlying34
  a23 := Tryz.isAgg34
  z23 := Tryz.sizeOf34
  v23 := Tryz.zeroValue34
  t25 := Tryz.underlying3
  a25 := Tryz.isAgg3
  z25 := Tryz.sizeOf3
  v25 := Tryz.zeroValue3
  t32 := Tryz.underlying329
  a32 := Tryz.isAgg329
  z32 := Tryz.sizeOf329
  v32 := Tryz.zeroValue329
  t35 := Tryz.underlying347
  a35 := Tryz.isAgg347
  z35 := Tryz.sizeOf347
  v35 := Tryz.zeroValue347
  t36 := Tryz.underlying348
  a36 := Tryz.isAgg348
  z36 := Tryz.sizeOf348
  v36 := Tryz.zeroValue348
  t41 := Tryz.underlying254
  a41 := Tryz.isAgg254
  z41 := Tryz.sizeOf254
  v41 := Tryz.zeroValue254
  t44 := Tryz.underlying355
  a44 := Tryz.isAgg355
  z44 := Tryz.sizeOf355
  v44 := Tryz.zeroValue355
  t46 := Tryz.underlying357
  a46 := Tryz.isAgg357
  z46 := Tryz.sizeOf357
  v46 := Tryz.zeroValue357
  t53 := Tryz.underlying371
  a53 := Tryz.isAgg371
  z53 := Tryz.sizeOf371
  v53 := Tryz.zeroValue371
  t57 := Tryz.underlying375
  a57 := Tryz.isAgg375
  z57 := Tryz.sizeOf375
  v57 := Tryz.zeroValue375
  t63 := Tryz.underlying378
  a63 := Tryz.isAgg378
  z63 := Tryz.sizeOf378
  v63 := Tryz.zeroValue378
  t64 := Tryz.underlying339
  a64 := Tryz.isAgg339
  z64 := Tryz.sizeOf339
  v64 := Tryz.zeroValue339
end Go.Proofs
