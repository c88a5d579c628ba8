/- THE LIBRARY's FUNCTIONS THAT WRITE IN PLACE, laid at this program (the plain text of the kit's laying commands). -/
import Derived.Shelf.SlicesE.Compact
import Derived.Shelf.SlicesQ.Reverse
import Derived.Shelf.SortM.Plain
import Derived.Shelf.SortM.SortNone
import Derived.Test.YtfbkefchjcocmaaGreatAbB0
set_option linter.unusedVariables false
set_option linter.unusedSimpArgs false
set_option linter.unusedSectionVars false
namespace Go.Proofs
open Go.Shelf Go.Lib Go.RowKit Go.Sort
def Tryz.revT_ren:Go.Shelf.Ren:=⟨fun|35=>161|n=>n,fun|22=>24|23=>39|3=>3|4=>4|0=>0|n=>n,fun|n=>n⟩
theorem Tryz.revT:Go.Proofs.SlLaysE0.n35 Tryz.prog Tryz.revT_ren where
 mixed:=by kernel_rfl
 f35:=⟨ "slices.Reverse[[]scholium/api.Term,scholium/api.Term]", by decide,Tryz.func161.trans (congrArg some (by kernel_rfl))⟩
 t0:=Tryz.underlying0
 a0:=Tryz.isAgg0
 z0:=Tryz.sizeOf0
 v0:=Tryz.zeroValue0
 t3:=Tryz.underlying3
 a3:=Tryz.isAgg3
 z3:=Tryz.sizeOf3
 v3:=Tryz.zeroValue3
 t4:=Tryz.underlying4
 a4:=Tryz.isAgg4
 z4:=Tryz.sizeOf4
 v4:=Tryz.zeroValue4
 t22:=Tryz.underlying24
 a22:=Tryz.isAgg24
 z22:=Tryz.sizeOf24
 v22:=Tryz.zeroValue24
def Tryz.cmpI_ren:Go.Shelf.Ren:=⟨fun|43=>206|n=>n,fun|22=>30|23=>3|3=>3|4=>4|0=>0|n=>n,fun|n=>n⟩
theorem Tryz.cmpI:Go.Proofs.SlLaysE.n43 Tryz.prog Tryz.cmpI_ren where
 mixed:=by kernel_rfl
 f43:=⟨ "slices.Compact[[]int,int]", by decide,Tryz.func206.trans (congrArg some (by kernel_rfl))⟩
 t0:=Tryz.underlying0
 a0:=Tryz.isAgg0
 z0:=Tryz.sizeOf0
 v0:=Tryz.zeroValue0
 t3:=Tryz.underlying3
 a3:=Tryz.isAgg3
 z3:=Tryz.sizeOf3
 v3:=Tryz.zeroValue3
 t4:=Tryz.underlying4
 a4:=Tryz.isAgg4
 z4:=Tryz.sizeOf4
 v4:=Tryz.zeroValue4
 t22:=Tryz.underlying30
 a22:=Tryz.isAgg30
 z22:=Tryz.sizeOf30
 v22:=Tryz.zeroValue30
 a23:=Tryz.isAgg3
 z23:=Tryz.sizeOf3
def Tryz.sortI_ren:Go.Shelf.Ren:=⟨fun|5=>205|8=>225|7=>224|19=>240|20=>241|10=>231|11=>232|12=>233|13=>234|14=>235|15=>236|16=>237|17=>238|18=>239|30=>247|31=>248|32=>249|33=>250|34=>251|35=>252|40=>259|n=>n,fun|23=>30|25=>3|3=>3|32=>256|22=>30|0=>0|44=>270|46=>272|4=>4|36=>264|35=>263|41=>199|5=>5|9=>9|53=>277|57=>281|63=>287|64=>259|n=>n,fun|n=>n⟩
theorem Tryz.sortI:Go.Proofs.SlLaysM.n5 Tryz.prog Tryz.sortI_ren where
 mixed:=by kernel_rfl
 f5:=⟨ "slices.Sort[[]int,int]", by decide,Tryz.func205.trans (congrArg some (by kernel_rfl))⟩
 f7:=⟨ "slices.pdqsortOrdered[int]", by decide,Tryz.func224.trans (congrArg some (by kernel_rfl))⟩
 f8:=Tryz.func225.trans (congrArg some (by kernel_rfl))
 f10:=⟨ "slices.insertionSortOrdered[int]", by decide,Tryz.func231.trans (congrArg some (by kernel_rfl))⟩
 f11:=⟨ "slices.heapSortOrdered[int]", by decide,Tryz.func232.trans (congrArg some (by kernel_rfl))⟩
 f12:=⟨ "slices.breakPatternsOrdered[int]", by decide,Tryz.func233.trans (congrArg some (by kernel_rfl))⟩
 f13:=⟨ "slices.choosePivotOrdered[int]", by decide,Tryz.func234.trans (congrArg some (by kernel_rfl))⟩
 f14:=⟨ "slices.reverseRangeOrdered[int]", by decide,Tryz.func235.trans (congrArg some (by kernel_rfl))⟩
 f15:=⟨ "slices.partialInsertionSortOrdered[int]", by decide,Tryz.func236.trans (congrArg some (by kernel_rfl))⟩
 f16:=⟨ "cmp.Less[int]", by decide,Tryz.func237.trans (congrArg some (by kernel_rfl))⟩
 f17:=⟨ "slices.partitionEqualOrdered[int]", by decide,Tryz.func238.trans (congrArg some (by kernel_rfl))⟩
 f18:=⟨ "slices.partitionOrdered[int]", by decide,Tryz.func239.trans (congrArg some (by kernel_rfl))⟩
 f19:=Tryz.func240.trans (congrArg some (by kernel_rfl))
 f20:=Tryz.func241.trans (congrArg some (by kernel_rfl))
 f30:=⟨ "slices.siftDownOrdered[int]", by decide,Tryz.func247.trans (congrArg some (by kernel_rfl))⟩
 f31:=Tryz.func248.trans (congrArg some (by kernel_rfl))
 f32:=Tryz.func249.trans (congrArg some (by kernel_rfl))
 f33:=⟨ "slices.medianAdjacentOrdered[int]", by decide,Tryz.func250.trans (congrArg some (by kernel_rfl))⟩
 f34:=⟨ "slices.medianOrdered[int]", by decide,Tryz.func251.trans (congrArg some (by kernel_rfl))⟩
 f35:=⟨ "cmp.isNaN[int]", by decide,Tryz.func252.trans (congrArg some (by kernel_rfl))⟩
 f40:=⟨ "slices.order2Ordered[int]", by decide,Tryz.func259.trans (congrArg some (by kernel_rfl))⟩
 t0:=Tryz.underlying0
 a0:=Tryz.isAgg0
 z0:=Tryz.sizeOf0
 v0:=Tryz.zeroValue0
 t3:=Tryz.underlying3
 a3:=Tryz.isAgg3
 z3:=Tryz.sizeOf3
 v3:=Tryz.zeroValue3
 t4:=Tryz.underlying4
 a4:=Tryz.isAgg4
 z4:=Tryz.sizeOf4
 v4:=Tryz.zeroValue4
 t5:=Tryz.underlying5
 a5:=Tryz.isAgg5
 z5:=Tryz.sizeOf5
 v5:=Tryz.zeroValue5
 t9:=Tryz.underlying9
 a9:=Tryz.isAgg9
 z9:=Tryz.sizeOf9
 v9:=Tryz.zeroValue9
 t22:=Tryz.underlying30
 a22:=Tryz.isAgg30
 z22:=Tryz.sizeOf30
 v22:=Tryz.zeroValue30
 t23:=Tryz.underlying30
 a23:=Tryz.isAgg30
 z23:=Tryz.sizeOf30
 v23:=Tryz.zeroValue30
 t25:=Tryz.underlying3
 a25:=Tryz.isAgg3
 z25:=Tryz.sizeOf3
 v25:=Tryz.zeroValue3
 t32:=Tryz.underlying256
 a32:=Tryz.isAgg256
 z32:=Tryz.sizeOf256
 v32:=Tryz.zeroValue256
 t35:=Tryz.underlying263
 a35:=Tryz.isAgg263
 z35:=Tryz.sizeOf263
 v35:=Tryz.zeroValue263
 t36:=Tryz.underlying264
 a36:=Tryz.isAgg264
 z36:=Tryz.sizeOf264
 v36:=Tryz.zeroValue264
 t41:=Tryz.underlying199
 a41:=Tryz.isAgg199
 z41:=Tryz.sizeOf199
 v41:=Tryz.zeroValue199
 t44:=Tryz.underlying270
 a44:=Tryz.isAgg270
 z44:=Tryz.sizeOf270
 v44:=Tryz.zeroValue270
 t46:=Tryz.underlying272
 a46:=Tryz.isAgg272
 z46:=Tryz.sizeOf272
 v46:=Tryz.zeroValue272
 t53:=Tryz.underlying277
 a53:=Tryz.isAgg277
 z53:=Tryz.sizeOf277
 v53:=Tryz.zeroValue277
 t57:=Tryz.underlying281
 a57:=Tryz.isAgg281
 z57:=Tryz.sizeOf281
 v57:=Tryz.zeroValue281
 t63:=Tryz.underlying287
 a63:=Tryz.isAgg287
 z63:=Tryz.sizeOf287
 v63:=Tryz.zeroValue287
 t64:=Tryz.underlying259
 a64:=Tryz.isAgg259
 z64:=Tryz.sizeOf259
 v64:=Tryz.zeroValue259
end Go.Proofs
