/- THE LIBRARY's FUNCTIONS THAT WRITE IN PLACE, laid at this program (the plain text of the kit's laying commands). -/
import Derived.Shelf.SlicesE.Compact
import Derived.Shelf.SlicesQ.Reverse
import Derived.Shelf.SortM.Plain
import Derived.Shelf.SortM.SortNone
import Derived.Test.YtcckelpaoefonaaGreatAbB0
set_option linter.unusedVariables false
set_option linter.unusedSimpArgs false
set_option linter.unusedSectionVars false
namespace Go.Proofs
open Go.Shelf Go.Lib Go.RowKit Go.Sort
def Tryz.revT_ren:Go.Shelf.Ren:=⟨fun|35=>208|n=>n,fun|22=>23|23=>27|3=>3|4=>4|0=>0|n=>n,fun|n=>n⟩
theorem Tryz.revT:Go.Proofs.SlLaysE0.n35 Tryz.prog Tryz.revT_ren where
 mixed:=by kernel_rfl
 f35:=⟨ "slices.Reverse[[]scholium/api.Term,scholium/api.Term]", by decide,Tryz.func208.trans (congrArg some (by kernel_rfl))⟩
 t0:=Tryz.underlying0
 a0:=Tryz.isAgg0
 z0:=Tryz.sizeOf0
 v0:=Tryz.zeroValue0
 t3:=Tryz.underlying3
 a3:=Tryz.isAgg3
 z3:=Tryz.sizeOf3
 v3:=Tryz.zeroValue3
 t4:=Tryz.underlying4
 a4:=Tryz.isAgg4
 z4:=Tryz.sizeOf4
 v4:=Tryz.zeroValue4
 t22:=Tryz.underlying23
 a22:=Tryz.isAgg23
 z22:=Tryz.sizeOf23
 v22:=Tryz.zeroValue23
def Tryz.cmpI_ren:Go.Shelf.Ren:=⟨fun|43=>240|n=>n,fun|22=>34|23=>3|3=>3|4=>4|0=>0|n=>n,fun|n=>n⟩
theorem Tryz.cmpI:Go.Proofs.SlLaysE.n43 Tryz.prog Tryz.cmpI_ren where
 mixed:=by kernel_rfl
 f43:=⟨ "slices.Compact[[]int,int]", by decide,Tryz.func240.trans (congrArg some (by kernel_rfl))⟩
 t0:=Tryz.underlying0
 a0:=Tryz.isAgg0
 z0:=Tryz.sizeOf0
 v0:=Tryz.zeroValue0
 t3:=Tryz.underlying3
 a3:=Tryz.isAgg3
 z3:=Tryz.sizeOf3
 v3:=Tryz.zeroValue3
 t4:=Tryz.underlying4
 a4:=Tryz.isAgg4
 z4:=Tryz.sizeOf4
 v4:=Tryz.zeroValue4
 t22:=Tryz.underlying34
 a22:=Tryz.isAgg34
 z22:=Tryz.sizeOf34
 v22:=Tryz.zeroValue34
 a23:=Tryz.isAgg3
 z23:=Tryz.sizeOf3
def Tryz.sortI_ren:Go.Shelf.Ren:=⟨fun|5=>239|8=>263|7=>262|19=>290|20=>291|10=>281|11=>282|12=>283|13=>284|14=>285|15=>286|16=>287|17=>288|18=>289|30=>301|31=>302|32=>303|33=>304|34=>305|35=>306|40=>311|n=>n,fun|23=>34|25=>3|3=>3|32=>261|22=>34|0=>0|44=>295|46=>297|4=>4|36=>289|35=>288|41=>179|5=>5|9=>9|53=>308|57=>312|63=>317|64=>259|n=>n,fun|n=>n⟩
theorem Tryz.sortI:Go.Proofs.SlLaysM.n5 Tryz.prog Tryz.sortI_ren where
 mixed:=by kernel_rfl
 f5:=⟨ "slices.Sort[[]int,int]", by decide,Tryz.func239.trans (congrArg some (by kernel_rfl))⟩
 f7:=⟨ "slices.pdqsortOrdered[int]", by decide,Tryz.func262.trans (congrArg some (by kernel_rfl))⟩
 f8:=Tryz.func263.trans (congrArg some (by kernel_rfl))
 f10:=⟨ "slices.insertionSortOrdered[int]", by decide,Tryz.func281.trans (congrArg some (by kernel_rfl))⟩
 f11:=⟨ "slices.heapSortOrdered[int]", by decide,Tryz.func282.trans (congrArg some (by kernel_rfl))⟩
 f12:=⟨ "slices.breakPatternsOrdered[int]", by decide,Tryz.func283.trans (congrArg some (by kernel_rfl))⟩
 f13:=⟨ "slices.choosePivotOrdered[int]", by decide,Tryz.func284.trans (congrArg some (by kernel_rfl))⟩
 f14:=⟨ "slices.reverseRangeOrdered[int]", by decide,Tryz.func285.trans (congrArg some (by kernel_rfl))⟩
 f15:=⟨ "slices.partialInsertionSortOrdered[int]", by decide,Tryz.func286.trans (congrArg some (by kernel_rfl))⟩
 f16:=⟨ "cmp.Less[int]", by decide,Tryz.func287.trans (congrArg some (by kernel_rfl))⟩
 f17:=⟨ "slices.partitionEqualOrdered[int]", by decide,Tryz.func288.trans (congrArg some (by kernel_rfl))⟩
 f18:=⟨ "slices.partitionOrdered[int]", by decide,Tryz.func289.trans (congrArg some (by kernel_rfl))⟩
 f19:=Tryz.func290.trans (congrArg some (by kernel_rfl))
 f20:=Tryz.func291.trans (congrArg some (by kernel_rfl))
 f30:=⟨ "slices.siftDownOrdered[int]", by decide,Tryz.func301.trans (congrArg some (by kernel_rfl))⟩
 f31:=Tryz.func302.trans (congrArg some (by kernel_rfl))
 f32:=Tryz.func303.trans (congrArg some (by kernel_rfl))
 f33:=⟨ "slices.medianAdjacentOrdered[int]", by decide,Tryz.func304.trans (congrArg some (by kernel_rfl))⟩
 f34:=⟨ "slices.medianOrdered[int]", by decide,Tryz.func305.trans (congrArg some (by kernel_rfl))⟩
 f35:=⟨ "cmp.isNaN[int]", by decide,Tryz.func306.trans (congrArg some (by kernel_rfl))⟩
 f40:=⟨ "slices.order2Ordered[int]", by decide,Tryz.func311.trans (congrArg some (by kernel_rfl))⟩
 t0:=Tryz.underlying0
 a0:=Tryz.isAgg0
 z0:=Tryz.sizeOf0
 v0:=Tryz.zeroValue0
 t3:=Tryz.underlying3
 a3:=Tryz.isAgg3
 z3:=Tryz.sizeOf3
 v3:=Tryz.zeroValue3
 t4:=Tryz.underlying4
 a4:=Tryz.isAgg4
 z4:=Tryz.sizeOf4
 v4:=Tryz.zeroValue4
 t5:=Tryz.underlying5
 a5:=Tryz.isAgg5
 z5:=Tryz.sizeOf5
 v5:=Tryz.zeroValue5
 t9:=Tryz.underlying9
 a9:=Tryz.isAgg9
 z9:=Tryz.sizeOf9
 v9:=Tryz.zeroValue9
 t22:=Tryz.underlying34
 a22:=Tryz.isAgg34
 z22:=Tryz.sizeOf34
 v22:=Tryz.zeroValue34
 t23:=Tryz.underlying34
 a23:=Tryz.isAgg34
 z23:=Tryz.sizeOf34
 v23:=Tryz.zeroValue34
 t25:=Tryz.underlying3
 a25:=Tryz.isAgg3
 z25:=Tryz.sizeOf3
 v25:=Tryz.zeroValue3
 t32:=Tryz.underlying261
 a32:=Tryz.isAgg261
 z32:=Tryz.sizeOf261
 v32:=Tryz.zeroValue261
 t35:=Tryz.underlying288
 a35:=Tryz.isAgg288
 z35:=Tryz.sizeOf288
 v35:=Tryz.zeroValue288
 t36:=Tryz.underlying289
 a36:=Tryz.isAgg289
 z36:=Tryz.sizeOf289
 v36:=Tryz.zeroValue289
 t41:=Tryz.underlying179
 a41:=Tryz.isAgg179
 z41:=Tryz.sizeOf179
 v41:=Tryz.zeroValue179
 t44:=Tryz.underlying295
 a44:=Tryz.isAgg295
 z44:=Tryz.sizeOf295
 v44:=Tryz.zeroValue295
 t46:=Tryz.underlying297
 a46:=Tryz.isAgg297
 z46:=Tryz.sizeOf297
 v46:=Tryz.zeroValue297
 t53:=Tryz.underlying308
 a53:=Tryz.isAgg308
 z53:=Tryz.sizeOf308
 v53:=Tryz.zeroValue308
 t57:=Tryz.underlying312
 a57:=Tryz.isAgg312
 z57:=Tryz.sizeOf312
 v57:=Tryz.zeroValue312
 t63:=Tryz.underlying317
 a63:=Tryz.isAgg317
 z63:=Tryz.sizeOf317
 v63:=Tryz.zeroValue317
 t64:=Tryz.underlying259
 a64:=Tryz.isAgg259
 z64:=Tryz.sizeOf259
 v64:=Tryz.zeroValue259
end Go.Proofs
