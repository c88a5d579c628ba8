/- THE LIBRARY's FUNCTIONS THAT WRITE IN PLACE, laid at this program (the plain text of the kit's laying commands). -/
import Derived.Shelf.SlicesE.Compact
import Derived.Shelf.SlicesQ.Reverse
import Derived.Shelf.SortM.Plain
import Derived.Shelf.SortM.SortNone
import Derived.Test.YthncfoeaibgmnaaGreatAbB0
set_option linter.unusedVariables false
set_option linter.unusedSimpArgs false
set_option linter.unusedSectionVars false
namespace Go.Proofs
open Go.Shelf Go.Lib Go.RowKit Go.Sort
def Tryz.revT_ren:Go.Shelf.Ren:=⟨fun|35=>253|n=>n,fun|22=>31|23=>33|3=>3|4=>4|0=>0|n=>n,fun|n=>n⟩
theorem Tryz.revT:Go.Proofs.SlLaysE0.n35 Tryz.prog Tryz.revT_ren where
 mixed:=by kernel_rfl
 f35:=⟨ "slices.Reverse[[]scholium/api.Term,scholium/api.Term]", by decide,Tryz.func253.trans (congrArg some (by kernel_rfl))⟩
 t0:=Tryz.underlying0
 a0:=Tryz.isAgg0
 z0:=Tryz.sizeOf0
 v0:=Tryz.zeroValue0
 t3:=Tryz.underlying3
 a3:=Tryz.isAgg3
 z3:=Tryz.sizeOf3
 v3:=Tryz.zeroValue3
 t4:=Tryz.underlying4
 a4:=Tryz.isAgg4
 z4:=Tryz.sizeOf4
 v4:=Tryz.zeroValue4
 t22:=Tryz.underlying31
 a22:=Tryz.isAgg31
 z22:=Tryz.sizeOf31
 v22:=Tryz.zeroValue31
def Tryz.cmpI_ren:Go.Shelf.Ren:=⟨fun|43=>193|n=>n,fun|22=>35|23=>3|3=>3|4=>4|0=>0|n=>n,fun|n=>n⟩
theorem Tryz.cmpI:Go.Proofs.SlLaysE.n43 Tryz.prog Tryz.cmpI_ren where
 mixed:=by kernel_rfl
 f43:=⟨ "slices.Compact[[]int,int]", by decide,Tryz.func193.trans (congrArg some (by kernel_rfl))⟩
 t0:=Tryz.underlying0
 a0:=Tryz.isAgg0
 z0:=Tryz.sizeOf0
 v0:=Tryz.zeroValue0
 t3:=Tryz.underlying3
 a3:=Tryz.isAgg3
 z3:=Tryz.sizeOf3
 v3:=Tryz.zeroValue3
 t4:=Tryz.underlying4
 a4:=Tryz.isAgg4
 z4:=Tryz.sizeOf4
 v4:=Tryz.zeroValue4
 t22:=Tryz.underlying35
 a22:=Tryz.isAgg35
 z22:=Tryz.sizeOf35
 v22:=Tryz.zeroValue35
 a23:=Tryz.isAgg3
 z23:=Tryz.sizeOf3
def Tryz.sortI_ren:Go.Shelf.Ren:=⟨fun|5=>192|8=>295|7=>294|19=>386|20=>387|10=>377|11=>378|12=>379|13=>380|14=>381|15=>382|16=>383|17=>384|18=>385|30=>423|31=>424|32=>425|33=>426|34=>427|35=>428|40=>450|n=>n,fun|23=>35|25=>3|3=>3|32=>399|22=>35|0=>0|44=>486|46=>488|4=>4|36=>480|35=>479|41=>241|5=>5|9=>9|53=>521|57=>525|63=>537|64=>408|n=>n,fun|n=>n⟩
theorem Tryz.sortI:Go.Proofs.SlLaysM.n5 Tryz.prog Tryz.sortI_ren where
 mixed:=by kernel_rfl
 f5:=⟨ "slices.Sort[[]int,int]", by decide,Tryz.func192.trans (congrArg some (by kernel_rfl))⟩
 f7:=⟨ "slices.pdqsortOrdered[int]", by decide,Tryz.func294.trans (congrArg some (by kernel_rfl))⟩
 f8:=Tryz.func295.trans (congrArg some (by kernel_rfl))
 f10:=⟨ "slices.insertionSortOrdered[int]", by decide,Tryz.func377.trans (congrArg some (by kernel_rfl))⟩
 f11:=⟨ "slices.heapSortOrdered[int]", by decide,Tryz.func378.trans (congrArg some (by kernel_rfl))⟩
 f12:=⟨ "slices.breakPatternsOrdered[int]", by decide,Tryz.func379.trans (congrArg some (by kernel_rfl))⟩
 f13:=⟨ "slices.choosePivotOrdered[int]", by decide,Tryz.func380.trans (congrArg some (by kernel_rfl))⟩
 f14:=⟨ "slices.reverseRangeOrdered[int]", by decide,Tryz.func381.trans (congrArg some (by kernel_rfl))⟩
 f15:=⟨ "slices.partialInsertionSortOrdered[int]", by decide,Tryz.func382.trans (congrArg some (by kernel_rfl))⟩
 f16:=⟨ "cmp.Less[int]", by decide,Tryz.func383.trans (congrArg some (by kernel_rfl))⟩
 f17:=⟨ "slices.partitionEqualOrdered[int]", by decide,Tryz.func384.trans (congrArg some (by kernel_rfl))⟩
 f18:=⟨ "slices.partitionOrdered[int]", by decide,Tryz.func385.trans (congrArg some (by kernel_rfl))⟩
 f19:=Tryz.func386.trans (congrArg some (by kernel_rfl))
 f20:=Tryz.func387.trans (congrArg some (by kernel_rfl))
 f30:=⟨ "slices.siftDownOrdered[int]", by decide,Tryz.func423.trans (congrArg some (by kernel_rfl))⟩
 f31:=Tryz.func424.trans (congrArg some (by kernel_rfl))
 f32:=Tryz.func425.trans (congrArg some (by kernel_rfl))
 f33:=⟨ "slices.medianAdjacentOrdered[int]", by decide,Tryz.func426.trans (congrArg some (by kernel_rfl))⟩
 f34:=⟨ "slices.medianOrdered[int]", by decide,Tryz.func427.trans (congrArg some (by kernel_rfl))⟩
 f35:=⟨ "cmp.isNaN[int]", by decide,Tryz.func428.trans (congrArg some (by kernel_rfl))⟩
 f40:=⟨ "slices.order2Ordered[int]", by decide,Tryz.func450.trans (congrArg some (by kernel_rfl))⟩
 t0:=Tryz.underlying0
 a0:=Tryz.isAgg0
 z0:=Tryz.sizeOf0
 v0:=Tryz.zeroValue0
 t3:=Tryz.underlying3
 a3:=Tryz.isAgg3
 z3:=Tryz.sizeOf3
 v3:=Tryz.zeroValue3
 t4:=Tryz.underlying4
 a4:=Tryz.isAgg4
 z4:=Tryz.sizeOf4
 v4:=Tryz.zeroValue4
 t5:=Tryz.underlying5
 a5:=Tryz.isAgg5
 z5:=Tryz.sizeOf5
 v5:=Tryz.zeroValue5
 t9:=Tryz.underlying9
 a9:=Tryz.isAgg9
 z9:=Tryz.sizeOf9
 v9:=Tryz.zeroValue9
 t22:=Tryz.underlying35
 a22:=Tryz.isAgg35
 z22:=Tryz.sizeOf35
 v22:=Tryz.zeroValue35
 t23:=Tryz.underlying35
 a23:=Tryz.isAgg35
 z23:=Tryz.sizeOf35
 v23:=Tryz.zeroValue35
 t25:=Tryz.underlying3
 a25:=Tryz.isAgg3
 z25:=Tryz.sizeOf3
 v25:=Tryz.zeroValue3
 t32:=Tryz.underlying399
 a32:=Tryz.isAgg399
 z32:=Tryz.sizeOf399
 v32:=Tryz.zeroValue399
 t35:=Tryz.underlying479
 a35:=Tryz.isAgg479
 z35:=Tryz.sizeOf479
 v35:=Tryz.zeroValue479
 t36:=Tryz.underlying480
 a36:=Tryz.isAgg480
 z36:=Tryz.sizeOf480
 v36:=Tryz.zeroValue480
 t41:=Tryz.underlying241
 a41:=Tryz.isAgg241
 z41:=Tryz.sizeOf241
 v41:=Tryz.zeroValue241
 t44:=Tryz.underlying486
 a44:=Tryz.isAgg486
 z44:=Tryz.sizeOf486
 v44:=Tryz.zeroValue486
 t46:=Tryz.underlying488
 a46:=Tryz.isAgg488
 z46:=Tryz.sizeOf488
 v46:=Tryz.zeroValue488
 t53:=Tryz.underlying521
 a53:=Tryz.isAgg521
 z53:=Tryz.sizeOf521
 v53:=Tryz.zeroValue521
 t57:=Tryz.underlying525
 a57:=Tryz.isAgg525
 z57:=Tryz.sizeOf525
 v57:=Tryz.zeroValue525
 t63:=Tryz.underlying537
 a63:=Tryz.isAgg537
 z63:=Tryz.sizeOf537
 v63:=Tryz.zeroValue537
 t64:=Tryz.underlying408
 a64:=Tryz.isAgg408
 z64:=Tryz.sizeOf408
 v64:=Tryz.zeroValue408
end Go.Proofs
