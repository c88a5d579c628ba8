/- THE LIBRARY's FUNCTIONS THAT WRITE IN PLACE, laid at this program (the plain text of the kit's laying commands). -/
import Derived.Shelf.SlicesE.Compact
import Derived.Shelf.SlicesQ.Reverse
import Derived.Shelf.SortM.Plain
import Derived.Shelf.SortM.SortNone
import Derived.Test.YthncchbcdpbgaaaGreatAbB1
set_option linter.unusedVariables false
set_option linter.unusedSimpArgs false
set_option linter.unusedSectionVars false
namespace Go.Proofs
open Go.Shelf Go.Lib Go.RowKit Go.Sort
def Tryz.cmpI_ren:Go.Shelf.Ren:=⟨λ|43=>293|n=>n,λ|22=>35|23=>3|3=>3|4=>4|0=>0|n=>n,λ|n=>n⟩
theorem Tryz.cmpI:Go.Proofs.SlLaysE.n43 Tryz.prog Tryz.cmpI_ren where
 mixed:=by kernel_rfl
 f43:=⟨"slices.Compact[[]int,int]",by decide,Tryz.func293.trans (congrArg some (by kernel_rfl))⟩
 t0:=Tryz.underlying0
 a0:=Tryz.isAgg0
 z0:=Tryz.sizeOf0
 v0:=Tryz.zeroValue0
 t3:=Tryz.underlying3
 a3:=Tryz.isAgg3
 z3:=Tryz.sizeOf3
 v3:=Tryz.zeroValue3
 t4:=Tryz.underlying4
 a4:=Tryz.isAgg4
 z4:=Tryz.sizeOf4
 v4:=Tryz.zeroValue4
 t22:=Tryz.underlying35
 a22:=Tryz.isAgg35
 z22:=Tryz.sizeOf35
 v22:=Tryz.zeroValue35
 a23:=Tryz.isAgg3
 z23:=Tryz.sizeOf3
def Tryz.sortI_ren:Go.Shelf.Ren:=⟨λ|5=>292|8=>317|7=>316|19=>336|20=>337|10=>327|11=>328|12=>329|13=>330|14=>331|15=>332|16=>333|17=>334|18=>335|30=>343|31=>344|32=>345|33=>346|34=>347|35=>348|40=>350|n=>n,λ|23=>35|25=>3|3=>3|32=>279|22=>35|0=>0|44=>321|46=>323|4=>4|36=>315|35=>314|41=>173|5=>5|9=>9|53=>327|57=>331|63=>333|64=>277|n=>n,λ|n=>n⟩
theorem Tryz.sortI:Go.Proofs.SlLaysM.n5 Tryz.prog Tryz.sortI_ren where
 mixed:=by kernel_rfl
 f5:=⟨"slices.Sort[[]int,int]",by decide,Tryz.func292.trans (congrArg some (by kernel_rfl))⟩
 f7:=⟨"slices.pdqsortOrdered[int]",by decide,Tryz.func316.trans (congrArg some (by kernel_rfl))⟩
 f8:=Tryz.func317.trans (congrArg some (by kernel_rfl))
 f10:=⟨"slices.insertionSortOrdered[int]",by decide,Tryz.func327.trans (congrArg some (by kernel_rfl))⟩
 f11:=⟨"slices.heapSortOrdered[int]",by decide,Tryz.func328.trans (congrArg some (by kernel_rfl))⟩
 f12:=⟨"slices.breakPatternsOrdered[int]",by decide,Tryz.func329.trans (congrArg some (by kernel_rfl))⟩
 f13:=⟨"slices.choosePivotOrdered[int]",by decide,Tryz.func330.trans (congrArg some (by kernel_rfl))⟩
 f14:=⟨"slices.reverseRangeOrdered[int]",by decide,Tryz.func331.trans (congrArg some (by kernel_rfl))⟩
 f15:=⟨"slices.partialInsertionSortOrdered[int]",by decide,Tryz.func332.trans (congrArg some (by kernel_rfl))⟩
 f16:=⟨"cmp.Less[int]",by decide,Tryz.func333.trans (congrArg some (by kernel_rfl))⟩
 f17:=⟨"slices.partitionEqualOrdered[int]",by decide,Tryz.func334.trans (congrArg some (by kernel_rfl))⟩
 f18:=⟨"slices.partitionOrdered[int]",by decide,Tryz.func335.trans (congrArg some (by kernel_rfl))⟩
 f19:=Tryz.func336.trans (congrArg some (by kernel_rfl))
 f20:=Tryz.func337.trans (congrArg some (by kernel_rfl))
 f30:=⟨"slices.siftDownOrdered[int]",by decide,Tryz.func343.trans (congrArg some (by kernel_rfl))⟩
 f31:=Tryz.func344.trans (congrArg some (by kernel_rfl))
 f32:=Tryz.func345.trans (congrArg some (by kernel_rfl))
 f33:=⟨"slices.medianAdjacentOrdered[int]",by decide,Tryz.func346.trans (congrArg some (by kernel_rfl))⟩
 f34:=⟨"slices.medianOrdered[int]",by decide,Tryz.func347.trans (congrArg some (by kernel_rfl))⟩
 f35:=⟨"cmp.isNaN[int]",by decide,Tryz.func348.trans (congrArg some (by kernel_rfl))⟩
 f40:=⟨"slices.order2Ordered[int]",by decide,Tryz.func350.trans (congrArg some (by kernel_rfl))⟩
 t0:=Tryz.underlying0
 a0:=Tryz.isAgg0
 z0:=Tryz.sizeOf0
 v0:=Tryz.zeroValue0
 t3:=Tryz.underlying3
 a3:=Tryz.isAgg3
 z3:=Tryz.sizeOf3
 v3:=Tryz.zeroValue3
 t4:=Tryz.underlying4
 a4:=Tryz.isAgg4
 z4:=Tryz.sizeOf4
 v4:=Tryz.zeroValue4
 t5:=Tryz.underlying5
 a5:=Tryz.isAgg5
 z5:=Tryz.sizeOf5
 v5:=Tryz.zeroValue5
 t9:=Tryz.underlying9
 a9:=Tryz.isAgg9
 z9:=Tryz.sizeOf9
 v9:=Tryz.zeroValue9
 t22:=Tryz.underlying35
 a22:=Tryz.isAgg35
 z22:=Tryz.sizeOf35
 v22:=Tryz.zeroValue35
 t23:=Tryz.underlying35
 a23:=Tryz.isAgg35
 z23:=Tryz.sizeOf35
 v23:=Tryz.zeroValue35
 t25:=Tryz.underlying3
 a25:=Tryz.isAgg3
 z25:=Tryz.sizeOf3
 v25:=Tryz.zeroValue3
 t32:=Tryz.underlying279
 a32:=Tryz.isAgg279
 z32:=Tryz.sizeOf279
 v32:=Tryz.zeroValue279
 t35:=Tryz.underlying314
 a35:=Tryz.isAgg314
 z35:=Tryz.sizeOf314
 v35:=Tryz.zeroValue314
 t36:=Tryz.underlying315
 a36:=Tryz.isAgg315
 z36:=Tryz.sizeOf315
 v36:=Tryz.zeroValue315
 t41:=Tryz.underlying173
 a41:=Tryz.isAgg173
 z41:=Tryz.sizeOf173
 v41:=Tryz.zeroValue173
 t44:=Tryz.underlying321
 a44:=Tryz.isAgg321
 z44:=Tryz.sizeOf321
 v44:=Tryz.zeroValue321
 t46:=Tryz.underlying323
 a46:=Tryz.isAgg323
 z46:=Tryz.sizeOf323
 v46:=Tryz.zeroValue323
 t53:=Tryz.underlying327
 a53:=Tryz.isAgg327
 z53:=Tryz.sizeOf327
 v53:=Tryz.zeroValue327
 t57:=Tryz.underlying331
 a57:=Tryz.isAgg331
 z57:=Tryz.sizeOf331
 v57:=Tryz.zeroValue331
 t63:=Tryz.underlying333
 a63:=Tryz.isAgg333
 z63:=Tryz.sizeOf333
 v63:=Tryz.zeroValue333
 t64:=Tryz.underlying277
 a64:=Tryz.isAgg277
 z64:=Tryz.sizeOf277
 v64:=Tryz.zeroValue277
end Go.Proofs
