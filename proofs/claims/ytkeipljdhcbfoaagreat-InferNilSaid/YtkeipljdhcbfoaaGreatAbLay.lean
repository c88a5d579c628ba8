/- THE LIBRARY's FUNCTIONS THAT WRITE IN PLACE, laid at this program (the plain text of the kit's laying commands). -/
import Derived.Test.YtkeipljdhcbfoaaGreatAbSeat
import Derived.Shelf.SlicesQ.Reverse
import Derived.Shelf.SlicesE.Compact
import Derived.Shelf.SortM.Plain
import Derived.Shelf.SortM.SortNone
namespace Go.Proofs
open Go.Shelf Go.Lib Go.RowKit Go.Sort
def Tryz.revT_ren : Go.Shelf.Ren := ⟨fun | 35 => 191 | n => n, fun | 22 => 22 | 23 => 24 | 3 => 3 | 4 => 4 | 0 => 0 | n => n, fun | n => n⟩
theorem Tryz.revT : Go.Proofs.SlLaysE0.n35 Tryz.prog Tryz.revT_ren where
  mixed := by kernel_rfl
  f35 := ⟨ "slices.Reverse[[]scholium/api.Term,scholium/api.Term]", by decide, Tryz.func191.trans (congrArg some (by kernel_rfl))⟩
  t0 := Tryz.underlying0
  a0 := Tryz.isAgg0
  z0 := Tryz.sizeOf0
  v0 := Tryz.zeroValue0
  t3 := Tryz.underlying3
  a3 := Tryz.isAgg3
  z3 := Tryz.sizeOf3
  v3 := Tryz.zeroValue3
  t4 := Tryz.underlying4
  a4 := Tryz.isAgg4
  z4 := Tryz.sizeOf4
  v4 := Tryz.zeroValue4
  t22 := Tryz.underlying22
  a22 := Tryz.isAgg22
  z22 := Tryz.sizeOf22
  v22 := Tryz.zeroValue22
def Tryz.cmpI_ren : Go.Shelf.Ren := ⟨fun | 43 => 264 | n => n, fun | 22 => 52 | 23 => 3 | 3 => 3 | 4 => 4 | 0 => 0 | n => n, fun | n => n⟩
theorem Tryz.cmpI : Go.Proofs.SlLaysE.n43 Tryz.prog Tryz.cmpI_ren where
  mixed := by kernel_rfl
  f43 := ⟨ "slices.Compact[[]int,int]", by decide, Tryz.func264.trans (congrArg some (by kernel_rfl))⟩
  t0 := Tryz.underlying0
  a0 := Tryz.isAgg0
  z0 := Tryz.sizeOf0
  v0 := Tryz.zeroValue0
  t3 := Tryz.underlying3
  a3 := Tryz.isAgg3
  z3 := Tryz.sizeOf3
  v3 := Tryz.zeroValue3
  t4 := Tryz.underlying4
  a4 := Tryz.isAgg4
  z4 := Tryz.sizeOf4
  v4 := Tryz.zeroValue4
  t22 := Tryz.underlying52
  a22 := Tryz.isAgg52
  z22 := Tryz.sizeOf52
  v22 := Tryz.zeroValue52
  a23 := Tryz.isAgg3
  z23 := Tryz.sizeOf3
def Tryz.sortI_ren : Go.Shelf.Ren := ⟨fun | 5 => 263 | 8 => 278 | 7 => 277 | 19 => 293 | 20 => 294 | 10 => 284 | 11 => 285 | 12 => 286 | 13 => 287 | 14 => 288 | 15 => 289 | 16 => 290 | 17 => 291 | 18 => 292 | 30 => 297 | 31 => 298 | 32 => 299 | 33 => 300 | 34 => 301 | 35 => 302 | 40 => 303 | n => n, fun | 23 => 52 | 25 => 3 | 3 => 3 | 32 => 264 | 22 => 52 | 0 => 0 | 44 => 279 | 46 => 281 | 4 => 4 | 36 => 273 | 35 => 272 | 41 => 45 | 5 => 5 | 9 => 9 | 53 => 284 | 57 => 288 | 63 => 290 | 64 => 268 | n => n, fun | n => n⟩
theorem Tryz.sortI : Go.Proofs.SlLaysM.n5 Tryz.prog Tryz.sortI_ren where
  mixed := by kernel_rfl
  f5 := ⟨ "slices.Sort[[]int,int]", by decide, Tryz.func263.trans (congrArg some (by kernel_rfl))⟩
  f7 := ⟨ "slices.pdqsortOrdered[int]", by decide, Tryz.func277.trans (congrArg some (by kernel_rfl))⟩
  f8 := Tryz.func278.trans (congrArg some (by kernel_rfl))
  f10 := ⟨ "slices.insertionSortOrdered[int]", by decide, Tryz.func284.trans (congrArg some (by kernel_rfl))⟩
  f11 := ⟨ "slices.heapSortOrdered[int]", by decide, Tryz.func285.trans (congrArg some (by kernel_rfl))⟩
  f12 := ⟨ "slices.breakPatternsOrdered[int]", by decide, Tryz.func286.trans (congrArg some (by kernel_rfl))⟩
  f13 := ⟨ "slices.choosePivotOrdered[int]", by decide, Tryz.func287.trans (congrArg some (by kernel_rfl))⟩
  f14 := ⟨ "slices.reverseRangeOrdered[int]", by decide, Tryz.func288.trans (congrArg some (by kernel_rfl))⟩
  f15 := ⟨ "slices.partialInsertionSortOrdered[int]", by decide, Tryz.func289.trans (congrArg some (by kernel_rfl))⟩
  f16 := ⟨ "cmp.Less[int]", by decide, Tryz.func290.trans (congrArg some (by kernel_rfl))⟩
  f17 := ⟨ "slices.partitionEqualOrdered[int]", by decide, Tryz.func291.trans (congrArg some (by kernel_rfl))⟩
  f18 := ⟨ "slices.partitionOrdered[int]", by decide, Tryz.func292.trans (congrArg some (by kernel_rfl))⟩
  f19 := Tryz.func293.trans (congrArg some (by kernel_rfl))
  f20 := Tryz.func294.trans (congrArg some (by kernel_rfl))
  f30 := ⟨ "slices.siftDownOrdered[int]", by decide, Tryz.func297.trans (congrArg some (by kernel_rfl))⟩
  f31 := Tryz.func298.trans (congrArg some (by kernel_rfl))
  f32 := Tryz.func299.trans (congrArg some (by kernel_rfl))
  f33 := ⟨ "slices.medianAdjacentOrdered[int]", by decide, Tryz.func300.trans (congrArg some (by kernel_rfl))⟩
  f34 := ⟨ "slices.medianOrdered[int]", by decide, Tryz.func301.trans (congrArg some (by kernel_rfl))⟩
  f35 := ⟨ "cmp.isNaN[int]", by decide, Tryz.func302.trans (congrArg some (by kernel_rfl))⟩
  f40 := ⟨ "slices.order2Ordered[int]", by decide, Tryz.func303.trans (congrArg some (by kernel_rfl))⟩
  t0 := Tryz.underlying0
  a0 := Tryz.isAgg0
  z0 := Tryz.sizeOf0
  v0 := Tryz.zeroValue0
  t3 := Tryz.underlying3
  a3 := Tryz.isAgg3
  z3 := Tryz.sizeOf3
  v3 := Tryz.zeroValue3
  t4 := Tryz.underlying4
  a4 := Tryz.isAgg4
  z4 := Tryz.sizeOf4
  v4 := Tryz.zeroValue4
  t5 := Tryz.underlying5
  a5 := Tryz.isAgg5
  z5 := Tryz.sizeOf5
  v5 := Tryz.zeroValue5
  t9 := Tryz.underlying9
  a9 := Tryz.isAgg9
  z9 := Tryz.sizeOf9
  v9 := Tryz.zeroValue9
  t22 := Tryz.underlying52
  a22 := Tryz.isAgg52
  z22 := Tryz.sizeOf52
  v22 := Tryz.zeroValue52
  t23 := Tryz.underlying52
  a23 := Tryz.isAgg52
  z23 := Tryz.sizeOf52
  v23 := Tryz.zeroValue52
  t25 := Tryz.underlying3
  a25 := Tryz.isAgg3
  z25 := Tryz.sizeOf3
  v25 := Tryz.zeroValue3
  t32 := Tryz.underlying264
  a32 := Tryz.isAgg264
  z32 := Tryz.sizeOf264
  v32 := Tryz.zeroValue264
  t35 := Tryz.underlying272
  a35 := Tryz.isAgg272
  z35 := Tryz.sizeOf272
  v35 := Tryz.zeroValue272
  t36 := Tryz.underlying273
  a36 := Tryz.isAgg273
  z36 := Tryz.sizeOf273
  v36 := Tryz.zeroValue273
  t41 := Tryz.underlying45
  a41 := Tryz.isAgg45
  z41 := Tryz.sizeOf45
  v41 := Tryz.zeroValue45
  t44 := Tryz.underlying279
  a44 := Tryz.isAgg279
  z44 := Tryz.sizeOf279
  v44 := Tryz.zeroValue279
  t46 := Tryz.underlying281
  a46 := Tryz.isAgg281
  z46 := Tryz.sizeOf281
  v46 := Tryz.zeroValue281
  t53 := Tryz.underlying284
  a53 := Tryz.isAgg284
  z53 := Tryz.sizeOf284
  v53 := Tryz.zeroValue284
  t57 := Tryz.underlying288
  a57 := Tryz.isAgg288
  z57 := Tryz.sizeOf288
  v57 := Tryz.zeroValue288
  t63 := Tryz.underlying290
  a63 := Tryz.isAgg290
  z63 := Tryz.sizeOf290
  v63 := Tryz.zeroValue290
  t64 := Tryz.underlying268
  a64 := Tryz.isAgg268
  z64 := Tryz.sizeOf268
  v64 := Tryz.zeroValue268
end Go.Proofs
