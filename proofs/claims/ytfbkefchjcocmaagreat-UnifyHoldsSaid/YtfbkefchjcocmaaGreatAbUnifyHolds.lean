/- UnifyHolds: for every input the law returns true; the arguments read as they did. No condition. -/
import Derived.SizedLaws
import Derived.Test.YtfbkefchjcocmaaGreatAbB8
set_option linter.unusedVariables false
set_option linter.unusedSimpArgs false
set_option linter.unusedSectionVars false
namespace Go.Proofs.YtfbkefchjcocmaaGreat
open Go.Ab Go.ChangeShapes Go.WideShapes Go.ChangeAt Go.RowKit
theorem R8{v0:Value}{x0:uO}(w0:zIJ x0)(W:World)(h0:V (rdG W) W (.agg (jJ x0)) v0) :
  Calls Tryz.prog 5 #[v0] W fun e W'=>e = .returned (.bool true)∧Below W.heap.size W W':=by
 refine((zAM x0 w0).1 (rdG W) W #[v0] (zRV W) (zVl W) (by simp only[VL,and_true];exact h0)).mono ?_
 rintro e W' ⟨u,G',s',rfl,hE,hR,hv,-⟩
 simp only[V]at hv
 subst hv
 have hb:=hR.below
 rw[hE.F,hE.w0]at hb
 exact⟨rfl,⟨hb.os,hb.tape,hb.output,hb.size,hb.block⟩⟩
set_option maxRecDepth 100000 in
theorem M1(os:Os)(started:os.Started)(H:Type)(enc:TypeId×Value->H) :
  ReturnsInHanded {} Tryz.checked os 5 .any (Rows.unifyHoldsSpec.pre6 enc Tryz.prog Tryz.f5 Rows.unifyHoldsRow.domain false) (Rows.unifyHoldsSpec.post enc Tryz.prog Tryz.f5 false true false false):=by
 refine returnsInHanded_of_change_sized (C:=Tryz.checked) own started (by kernel_rfl) Tryz.func5
  (ChangeSpec.witness6 (enc:=enc) (C:=Tryz.checked) false ⟨#[],#[.agg #[.slice none 0 0,.slice none 0 0,.slice none 0 0,.int .i64 0]],[]⟩ 8 (by kernel_rfl) (by kernel_rfl) (by kernel_rfl) (by kernel_rfl)) ?_
 intro W base args ds gs before hval0 hW hcnd hsz _
 have hval:∀(j:Nat) t v,Tryz.f5.params[j]? = some t->args[j]? = some v->Value.okWide Tryz.prog W .any base t v:=hval0
 have hW':=hW
 obtain⟨p,q,hA0,hV,rfl,hfz,hnd⟩:=hW
 have hA:DataW.TrodAll enc Tryz.prog W 0 (fun _=>true) true Tryz.f5.params.toList args.toList ds p:=hA0
 rw[Tryz.params5]at hA hval hsz
 obtain⟨v0,d0,rfl,rfl,h0⟩:=trodAll_one hA
 obtain⟨rfl,rfl⟩:=trodVars_none hV
 obtain⟨x0,r0,w0⟩:=zGa h0 (fun w hw=>of_decide_eq_true (List.all_eq_true.1 hsz w (zCa _ _ 0 26 d0 rfl rfl w hw)))
 clear hA0 hval0
 simp only[List.append_nil]at hW'
 have hlt:∀y∈p,y.block<W.heap.size:=fun y hy=>by simpa using hW'.lt y (by simpa using hy)
 refine(R8 w0 W r0).mono fun e W' ⟨he,hn⟩=>?_
 subst he
 have k0:=Below.trod zRB (by kernel_rfl) (of_decide_eq_true (by kernel_rfl)) h0 hn fun y hy=>hlt y (by simp[hy])
 exact⟨_,rfl,_,_,_,[],_,[],hW',trodAll_mk1 zKY,trodAll_mk1 k0,rfl,hn.frame _,fun h=>by cases h⟩
set_option maxRecDepth 100000 in
theorem M2:joinedFacts Tryz.pinned.checked.prog 5 Tryz.f5 Rows.unifyHoldsSpec Rows.unifyHoldsRow=true:=by
 unfold joinedFacts
 exact(qN (qN (qN (qN (qN (qN (qN (qN (qN (qN (qN (qN (qN (qN (qN (qN (qN (qN (qN (qN (qN (qN (qN (qN (qN (qN (qN (qN (qN (qN (qN R2 yAl) yAk) R3) R4) R5) yAj) R6) yAi) R7) K3) K4) K5) K6) K7) K8) K9) L0) L1) L2) L4) L5) zXt) L6) zXs) zXr) zXq) zXp) L7) L8) L9) M0)
theorem unifyHolds_holds:Rows.UnifyHoldsSaid:=
 OpenClaim.holds_of_wide 5 Tryz.f5 rfl rfl rfl rfl rfl rfl rfl ⟨rfl,rfl,rfl,rfl,rfl⟩ rfl rfl rfl rfl rfl (by kernel_rfl) Tryz.func5 M2
  (of_decide_eq_true (by kernel_rfl)) (by unfold Func.isWrapper;first | (rw[if_pos (by decide +kernel)];kernel_rfl) | (rw[if_neg (by decide +kernel)];exact⟨rfl,rfl⟩))
  (fun os started H enc _=>M1 os started H enc)
#print axioms unifyHolds_holds
end Go.Proofs.YtfbkefchjcocmaaGreat
