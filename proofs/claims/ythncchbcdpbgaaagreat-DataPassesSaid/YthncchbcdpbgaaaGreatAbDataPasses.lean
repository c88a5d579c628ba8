/- DataPasses: for every input the law returns true; the arguments read as they did. No condition. -/
import Derived.SizedLaws
import Derived.Test.YthncchbcdpbgaaaGreatAbB9
set_option linter.unusedVariables false
set_option linter.unusedSimpArgs false
set_option linter.unusedSectionVars false
namespace Go.Proofs.YthncchbcdpbgaaaGreat
open Go.Ab Go.ChangeShapes Go.WideShapes Go.ChangeAt Go.RowKit
theorem R2{v0:Value}{x0:ByteArray}(W:World)(h0:V (rdG W) W (at' x0) v0):Calls Tryz.prog 6 #[v0] W λe W'=>e=.returned (.bool true)/\Below W.heap.size W W':=by refine((zBI x0).1 (rdG W) W #[v0] (zWF W) (zZJ W) (by simp only[VL,and_true];exact h0)).mono ?_;rintro e W'⟨u,G',s',rfl,hE,hR,hv,-⟩;simp only[V]at hv;subst hv;have hb:=hR.below;rw[hE.F,hE.w0]at hb;exact⟨rfl,⟨hb.os,hb.tape,hb.output,hb.size,hb.block⟩⟩
set_option maxRecDepth 100000 in
theorem L7(os:Os)(started:os.Started)(H:Type)(enc:TypeId×Value->H) :
  ReturnsInHanded {} Tryz.checked os 6 .any (Rows.dataPassesSpec.pre6 enc Tryz.prog Tryz.f6 Rows.dataPassesRow.domain false) (Rows.dataPassesSpec.post enc Tryz.prog Tryz.f6 false true false false):=by
 refine returnsInHanded_of_change (C:=Tryz.checked) own started (by kernel_rfl) Tryz.func6
  (ChangeSpec.witness6 (enc:=enc) (C:=Tryz.checked) false ⟨#[],#[.string ByteArray.empty],[]⟩ 8 (by kernel_rfl) (by kernel_rfl) (by kernel_rfl) (by kernel_rfl)) ?_
 intro W base args ds gs before hval0 hW hcnd _
 have hval:∀(j:Nat) t v,Tryz.f6.params[j]? = some t->args[j]? = some v->Value.okWide Tryz.prog W .any base t v:=hval0
 have hW':=hW
 obtain⟨p,q,hA0,hV,rfl,hfz,hnd⟩:=hW
 have hA:DataW.TrodAll enc Tryz.prog W 0 (fun _=>true) true Tryz.f6.params.toList args.toList ds p:=hA0
 rw[Tryz.params6]at hA hval
 obtain⟨v0,d0,rfl,rfl,h0⟩:=trodAll_one hA
 obtain⟨rfl,rfl⟩:=trodVars_none hV
 obtain⟨x0,rfl⟩:=okWide_string Tryz.underlying9 (hval 0 9 _ rfl rfl)
 clear hA0 hval0
 simp only[List.append_nil]at hW'
 have hlt:∀y∈p,y.block<W.heap.size:=fun y hy=>by simpa using hW'.lt y (by simpa using hy)
 refine(R2 W (by simp only[V];rfl)).mono fun e W' ⟨he,hn⟩=>?_
 subst he
 have k0:=Below.trod zSM (by kernel_rfl) (of_decide_eq_true (by kernel_rfl)) h0 hn fun y hy=>hlt y (by simp[hy])
 exact⟨_,rfl,_,_,_,[],_,[],hW',trodAll_mk1 zMs,trodAll_mk1 k0,rfl,hn.frame _,fun h=>by cases h⟩
set_option maxRecDepth 100000 in theorem L8:joinedFacts Tryz.pinned.checked.prog 6 Tryz.f6 Rows.dataPassesSpec Rows.dataPassesRow=true:=by unfold joinedFacts;exact(qA (qA (qA (qA (qA (qA (qA (qA (qA (qA (qA (qA (qA (qA (qA (qA (qA (qA (qA (qA (qA (qA (qA (qA (qA (qA (qA (qA (qA (qA (qA Q6 yCp) yCo) Q7) Q8) Q9) yCn) R0) yCm) R1) J9) K1) K2) K3) K4) K5) K6) K7) K8) K9) L0) L1) zZK) L2) zZL) zZM) zZN) zZO) L3) L4) L5) L6)
theorem dataPasses_holds:Rows.DataPassesSaid:=OpenClaim.holds_of_wide 6 Tryz.f6 rfl rfl rfl rfl rfl rfl rfl ⟨rfl,rfl,rfl,rfl,rfl⟩ rfl rfl rfl rfl rfl (by kernel_rfl) Tryz.func6 L8 (of_decide_eq_true (by kernel_rfl)) (by unfold Func.isWrapper;first|(rw[if_pos (by decide+kernel)];kernel_rfl)|(rw[if_neg (by decide+kernel)];exact⟨rfl,rfl⟩)) (λos started H enc _=>L7 os started H enc)
#print axioms dataPasses_holds
end Go.Proofs.YthncchbcdpbgaaaGreat
