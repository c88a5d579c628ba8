/- THE LIBRARY's FUNCTIONS THAT WRITE IN PLACE, laid at this program (the plain text of the kit's laying commands). -/
import Derived.Shelf.SlicesE.Compact
import Derived.Shelf.SlicesQ.Reverse
import Derived.Shelf.SortM.Plain
import Derived.Shelf.SortM.SortNone
import Derived.Test.YtmfcobjnlabpoaaGreatAbB0
set_option linter.unusedVariables false
set_option linter.unusedSimpArgs false
set_option linter.unusedSectionVars false
namespace Go.Proofs
open Go.Shelf Go.Lib Go.RowKit Go.Sort
def Tryz.revT_ren:Go.Shelf.Ren:=⟨fun|35=>231|n=>n,fun|22=>23|23=>25|3=>3|4=>4|0=>0|n=>n,fun|n=>n⟩
theorem Tryz.revT:Go.Proofs.SlLaysE0.n35 Tryz.prog Tryz.revT_ren where
 mixed:=by kernel_rfl
 f35:=⟨ "slices.Reverse[[]scholium/api.Term,scholium/api.Term]", by decide,Tryz.func231.trans (congrArg some (by kernel_rfl))⟩
 t0:=Tryz.underlying0
 a0:=Tryz.isAgg0
 z0:=Tryz.sizeOf0
 v0:=Tryz.zeroValue0
 t3:=Tryz.underlying3
 a3:=Tryz.isAgg3
 z3:=Tryz.sizeOf3
 v3:=Tryz.zeroValue3
 t4:=Tryz.underlying4
 a4:=Tryz.isAgg4
 z4:=Tryz.sizeOf4
 v4:=Tryz.zeroValue4
 t22:=Tryz.underlying23
 a22:=Tryz.isAgg23
 z22:=Tryz.sizeOf23
 v22:=Tryz.zeroValue23
def Tryz.cmpI_ren:Go.Shelf.Ren:=⟨fun|43=>292|n=>n,fun|22=>41|23=>3|3=>3|4=>4|0=>0|n=>n,fun|n=>n⟩
theorem Tryz.cmpI:Go.Proofs.SlLaysE.n43 Tryz.prog Tryz.cmpI_ren where
 mixed:=by kernel_rfl
 f43:=⟨ "slices.Compact[[]int,int]", by decide,Tryz.func292.trans (congrArg some (by kernel_rfl))⟩
 t0:=Tryz.underlying0
 a0:=Tryz.isAgg0
 z0:=Tryz.sizeOf0
 v0:=Tryz.zeroValue0
 t3:=Tryz.underlying3
 a3:=Tryz.isAgg3
 z3:=Tryz.sizeOf3
 v3:=Tryz.zeroValue3
 t4:=Tryz.underlying4
 a4:=Tryz.isAgg4
 z4:=Tryz.sizeOf4
 v4:=Tryz.zeroValue4
 t22:=Tryz.underlying41
 a22:=Tryz.isAgg41
 z22:=Tryz.sizeOf41
 v22:=Tryz.zeroValue41
 a23:=Tryz.isAgg3
 z23:=Tryz.sizeOf3
def Tryz.sortI_ren:Go.Shelf.Ren:=⟨fun|5=>291|8=>334|7=>333|19=>370|20=>371|10=>361|11=>362|12=>363|13=>364|14=>365|15=>366|16=>367|17=>368|18=>369|30=>385|31=>386|32=>387|33=>388|34=>389|35=>390|40=>398|n=>n,fun|23=>41|25=>3|3=>3|32=>381|22=>41|0=>0|44=>411|46=>413|4=>4|36=>405|35=>404|41=>269|5=>5|9=>9|53=>426|57=>430|63=>440|64=>420|n=>n,fun|n=>n⟩
theorem Tryz.sortI:Go.Proofs.SlLaysM.n5 Tryz.prog Tryz.sortI_ren where
 mixed:=by kernel_rfl
 f5:=⟨ "slices.Sort[[]int,int]", by decide,Tryz.func291.trans (congrArg some (by kernel_rfl))⟩
 f7:=⟨ "slices.pdqsortOrdered[int]", by decide,Tryz.func333.trans (congrArg some (by kernel_rfl))⟩
 f8:=Tryz.func334.trans (congrArg some (by kernel_rfl))
 f10:=⟨ "slices.insertionSortOrdered[int]", by decide,Tryz.func361.trans (congrArg some (by kernel_rfl))⟩
 f11:=⟨ "slices.heapSortOrdered[int]", by decide,Tryz.func362.trans (congrArg some (by kernel_rfl))⟩
 f12:=⟨ "slices.breakPatternsOrdered[int]", by decide,Tryz.func363.trans (congrArg some (by kernel_rfl))⟩
 f13:=⟨ "slices.choosePivotOrdered[int]", by decide,Tryz.func364.trans (congrArg some (by kernel_rfl))⟩
 f14:=⟨ "slices.reverseRangeOrdered[int]", by decide,Tryz.func365.trans (congrArg some (by kernel_rfl))⟩
 f15:=⟨ "slices.partialInsertionSortOrdered[int]", by decide,Tryz.func366.trans (congrArg some (by kernel_rfl))⟩
 f16:=⟨ "cmp.Less[int]", by decide,Tryz.func367.trans (congrArg some (by kernel_rfl))⟩
 f17:=⟨ "slices.partitionEqualOrdered[int]", by decide,Tryz.func368.trans (congrArg some (by kernel_rfl))⟩
 f18:=⟨ "slices.partitionOrdered[int]", by decide,Tryz.func369.trans (congrArg some (by kernel_rfl))⟩
 f19:=Tryz.func370.trans (congrArg some (by kernel_rfl))
 f20:=Tryz.func371.trans (congrArg some (by kernel_rfl))
 f30:=⟨ "slices.siftDownOrdered[int]", by decide,Tryz.func385.trans (congrArg some (by kernel_rfl))⟩
 f31:=Tryz.func386.trans (congrArg some (by kernel_rfl))
 f32:=Tryz.func387.trans (congrArg some (by kernel_rfl))
 f33:=⟨ "slices.medianAdjacentOrdered[int]", by decide,Tryz.func388.trans (congrArg some (by kernel_rfl))⟩
 f34:=⟨ "slices.medianOrdered[int]", by decide,Tryz.func389.trans (congrArg some (by kernel_rfl))⟩
 f35:=⟨ "cmp.isNaN[int]", by decide,Tryz.func390.trans (congrArg some (by kernel_rfl))⟩
 f40:=⟨ "slices.order2Ordered[int]", by decide,Tryz.func398.trans (congrArg some (by kernel_rfl))⟩
 t0:=Tryz.underlying0
 a0:=Tryz.isAgg0
 z0:=Tryz.sizeOf0
 v0:=Tryz.zeroValue0
 t3:=Tryz.underlying3
 a3:=Tryz.isAgg3
 z3:=Tryz.sizeOf3
 v3:=Tryz.zeroValue3
 t4:=Tryz.underlying4
 a4:=Tryz.isAgg4
 z4:=Tryz.sizeOf4
 v4:=Tryz.zeroValue4
 t5:=Tryz.underlying5
 a5:=Tryz.isAgg5
 z5:=Tryz.sizeOf5
 v5:=Tryz.zeroValue5
 t9:=Tryz.underlying9
 a9:=Tryz.isAgg9
 z9:=Tryz.sizeOf9
 v9:=Tryz.zeroValue9
 t22:=Tryz.underlying41
 a22:=Tryz.isAgg41
 z22:=Tryz.sizeOf41
 v22:=Tryz.zeroValue41
 t23:=Tryz.underlying41
 a23:=Tryz.isAgg41
 z23:=Tryz.sizeOf41
 v23:=Tryz.zeroValue41
 t25:=Tryz.underlying3
 a25:=Tryz.isAgg3
 z25:=Tryz.sizeOf3
 v25:=Tryz.zeroValue3
 t32:=Tryz.underlying381
 a32:=Tryz.isAgg381
 z32:=Tryz.sizeOf381
 v32:=Tryz.zeroValue381
 t35:=Tryz.underlying404
 a35:=Tryz.isAgg404
 z35:=Tryz.sizeOf404
 v35:=Tryz.zeroValue404
 t36:=Tryz.underlying405
 a36:=Tryz.isAgg405
 z36:=Tryz.sizeOf405
 v36:=Tryz.zeroValue405
 t41:=Tryz.underlying269
 a41:=Tryz.isAgg269
 z41:=Tryz.sizeOf269
 v41:=Tryz.zeroValue269
 t44:=Tryz.underlying411
 a44:=Tryz.isAgg411
 z44:=Tryz.sizeOf411
 v44:=Tryz.zeroValue411
 t46:=Tryz.underlying413
 a46:=Tryz.isAgg413
 z46:=Tryz.sizeOf413
 v46:=Tryz.zeroValue413
 t53:=Tryz.underlying426
 a53:=Tryz.isAgg426
 z53:=Tryz.sizeOf426
 v53:=Tryz.zeroValue426
 t57:=Tryz.underlying430
 a57:=Tryz.isAgg430
 z57:=Tryz.sizeOf430
 v57:=Tryz.zeroValue430
 t63:=Tryz.underlying440
 a63:=Tryz.isAgg440
 z63:=Tryz.sizeOf440
 v63:=Tryz.zeroValue440
 t64:=Tryz.underlying420
 a64:=Tryz.isAgg420
 z64:=Tryz.sizeOf420
 v64:=Tryz.zeroValue420
end Go.Proofs
