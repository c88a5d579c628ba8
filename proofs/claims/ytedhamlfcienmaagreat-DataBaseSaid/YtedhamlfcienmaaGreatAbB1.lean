/- THE LIBRARY's FUNCTIONS THAT WRITE IN PLACE, laid at this program (the plain text of the kit's laying commands). -/
import Derived.Shelf.SlicesE.Compact
import Derived.Shelf.SlicesQ.Reverse
import Derived.Shelf.SortM.Plain
import Derived.Shelf.SortM.SortNone
import Derived.Test.YtedhamlfcienmaaGreatAbB0
set_option linter.unusedVariables false
set_option linter.unusedSimpArgs false
set_option linter.unusedSectionVars false
namespace Go.Proofs
open Go.Shelf Go.Lib Go.RowKit Go.Sort
def Tryz.revT_ren:Go.Shelf.Ren:=⟨fun|35=>68|n=>n,fun|22=>29|23=>31|3=>3|4=>4|0=>0|n=>n,fun|n=>n⟩
theorem Tryz.revT:Go.Proofs.SlLaysE0.n35 Tryz.prog Tryz.revT_ren where
 mixed:=by kernel_rfl
 f35:=⟨ "slices.Reverse[[]scholium/api.Term,scholium/api.Term]", by decide,Tryz.func68.trans (congrArg some (by kernel_rfl))⟩
 t0:=Tryz.underlying0
 a0:=Tryz.isAgg0
 z0:=Tryz.sizeOf0
 v0:=Tryz.zeroValue0
 t3:=Tryz.underlying3
 a3:=Tryz.isAgg3
 z3:=Tryz.sizeOf3
 v3:=Tryz.zeroValue3
 t4:=Tryz.underlying4
 a4:=Tryz.isAgg4
 z4:=Tryz.sizeOf4
 v4:=Tryz.zeroValue4
 t22:=Tryz.underlying29
 a22:=Tryz.isAgg29
 z22:=Tryz.sizeOf29
 v22:=Tryz.zeroValue29
def Tryz.cmpI_ren:Go.Shelf.Ren:=⟨fun|43=>176|n=>n,fun|22=>32|23=>3|3=>3|4=>4|0=>0|n=>n,fun|n=>n⟩
theorem Tryz.cmpI:Go.Proofs.SlLaysE.n43 Tryz.prog Tryz.cmpI_ren where
 mixed:=by kernel_rfl
 f43:=⟨ "slices.Compact[[]int,int]", by decide,Tryz.func176.trans (congrArg some (by kernel_rfl))⟩
 t0:=Tryz.underlying0
 a0:=Tryz.isAgg0
 z0:=Tryz.sizeOf0
 v0:=Tryz.zeroValue0
 t3:=Tryz.underlying3
 a3:=Tryz.isAgg3
 z3:=Tryz.sizeOf3
 v3:=Tryz.zeroValue3
 t4:=Tryz.underlying4
 a4:=Tryz.isAgg4
 z4:=Tryz.sizeOf4
 v4:=Tryz.zeroValue4
 t22:=Tryz.underlying32
 a22:=Tryz.isAgg32
 z22:=Tryz.sizeOf32
 v22:=Tryz.zeroValue32
 a23:=Tryz.isAgg3
 z23:=Tryz.sizeOf3
def Tryz.sortI_ren:Go.Shelf.Ren:=⟨fun|5=>175|8=>217|7=>216|19=>256|20=>257|10=>247|11=>248|12=>249|13=>250|14=>251|15=>252|16=>253|17=>254|18=>255|30=>272|31=>273|32=>274|33=>275|34=>276|35=>277|40=>285|n=>n,fun|23=>32|25=>3|3=>3|32=>223|22=>32|0=>0|44=>286|46=>288|4=>4|36=>280|35=>279|41=>206|5=>5|9=>9|53=>303|57=>307|63=>311|64=>221|n=>n,fun|n=>n⟩
theorem Tryz.sortI:Go.Proofs.SlLaysM.n5 Tryz.prog Tryz.sortI_ren where
 mixed:=by kernel_rfl
 f5:=⟨ "slices.Sort[[]int,int]", by decide,Tryz.func175.trans (congrArg some (by kernel_rfl))⟩
 f7:=⟨ "slices.pdqsortOrdered[int]", by decide,Tryz.func216.trans (congrArg some (by kernel_rfl))⟩
 f8:=Tryz.func217.trans (congrArg some (by kernel_rfl))
 f10:=⟨ "slices.insertionSortOrdered[int]", by decide,Tryz.func247.trans (congrArg some (by kernel_rfl))⟩
 f11:=⟨ "slices.heapSortOrdered[int]", by decide,Tryz.func248.trans (congrArg some (by kernel_rfl))⟩
 f12:=⟨ "slices.breakPatternsOrdered[int]", by decide,Tryz.func249.trans (congrArg some (by kernel_rfl))⟩
 f13:=⟨ "slices.choosePivotOrdered[int]", by decide,Tryz.func250.trans (congrArg some (by kernel_rfl))⟩
 f14:=⟨ "slices.reverseRangeOrdered[int]", by decide,Tryz.func251.trans (congrArg some (by kernel_rfl))⟩
 f15:=⟨ "slices.partialInsertionSortOrdered[int]", by decide,Tryz.func252.trans (congrArg some (by kernel_rfl))⟩
 f16:=⟨ "cmp.Less[int]", by decide,Tryz.func253.trans (congrArg some (by kernel_rfl))⟩
 f17:=⟨ "slices.partitionEqualOrdered[int]", by decide,Tryz.func254.trans (congrArg some (by kernel_rfl))⟩
 f18:=⟨ "slices.partitionOrdered[int]", by decide,Tryz.func255.trans (congrArg some (by kernel_rfl))⟩
 f19:=Tryz.func256.trans (congrArg some (by kernel_rfl))
 f20:=Tryz.func257.trans (congrArg some (by kernel_rfl))
 f30:=⟨ "slices.siftDownOrdered[int]", by decide,Tryz.func272.trans (congrArg some (by kernel_rfl))⟩
 f31:=Tryz.func273.trans (congrArg some (by kernel_rfl))
 f32:=Tryz.func274.trans (congrArg some (by kernel_rfl))
 f33:=⟨ "slices.medianAdjacentOrdered[int]", by decide,Tryz.func275.trans (congrArg some (by kernel_rfl))⟩
 f34:=⟨ "slices.medianOrdered[int]", by decide,Tryz.func276.trans (congrArg some (by kernel_rfl))⟩
 f35:=⟨ "cmp.isNaN[int]", by decide,Tryz.func277.trans (congrArg some (by kernel_rfl))⟩
 f40:=⟨ "slices.order2Ordered[int]", by decide,Tryz.func285.trans (congrArg some (by kernel_rfl))⟩
 t0:=Tryz.underlying0
 a0:=Tryz.isAgg0
 z0:=Tryz.sizeOf0
 v0:=Tryz.zeroValue0
 t3:=Tryz.underlying3
 a3:=Tryz.isAgg3
 z3:=Tryz.sizeOf3
 v3:=Tryz.zeroValue3
 t4:=Tryz.underlying4
 a4:=Tryz.isAgg4
 z4:=Tryz.sizeOf4
 v4:=Tryz.zeroValue4
 t5:=Tryz.underlying5
 a5:=Tryz.isAgg5
 z5:=Tryz.sizeOf5
 v5:=Tryz.zeroValue5
 t9:=Tryz.underlying9
 a9:=Tryz.isAgg9
 z9:=Tryz.sizeOf9
 v9:=Tryz.zeroValue9
 t22:=Tryz.underlying32
 a22:=Tryz.isAgg32
 z22:=Tryz.sizeOf32
 v22:=Tryz.zeroValue32
 t23:=Tryz.underlying32
 a23:=Tryz.isAgg32
 z23:=Tryz.sizeOf32
 v23:=Tryz.zeroValue32
 t25:=Tryz.underlying3
 a25:=Tryz.isAgg3
 z25:=Tryz.sizeOf3
 v25:=Tryz.zeroValue3
 t32:=Tryz.underlying223
 a32:=Tryz.isAgg223
 z32:=Tryz.sizeOf223
 v32:=Tryz.zeroValue223
 t35:=Tryz.underlying279
 a35:=Tryz.isAgg279
 z35:=Tryz.sizeOf279
 v35:=Tryz.zeroValue279
 t36:=Tryz.underlying280
 a36:=Tryz.isAgg280
 z36:=Tryz.sizeOf280
 v36:=Tryz.zeroValue280
 t41:=Tryz.underlying206
 a41:=Tryz.isAgg206
 z41:=Tryz.sizeOf206
 v41:=Tryz.zeroValue206
 t44:=Tryz.underlying286
 a44:=Tryz.isAgg286
 z44:=Tryz.sizeOf286
 v44:=Tryz.zeroValue286
 t46:=Tryz.underlying288
 a46:=Tryz.isAgg288
 z46:=Tryz.sizeOf288
 v46:=Tryz.zeroValue288
 t53:=Tryz.underlying303
 a53:=Tryz.isAgg303
 z53:=Tryz.sizeOf303
 v53:=Tryz.zeroValue303
 t57:=Tryz.underlying307
 a57:=Tryz.isAgg307
 z57:=Tryz.sizeOf307
 v57:=Tryz.zeroValue307
 t63:=Tryz.underlying311
 a63:=Tryz.isAgg311
 z63:=Tryz.sizeOf311
 v63:=Tryz.zeroValue311
 t64:=Tryz.underlying221
 a64:=Tryz.isAgg221
 z64:=Tryz.sizeOf221
 v64:=Tryz.zeroValue221
end Go.Proofs
