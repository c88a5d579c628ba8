/- UnifyLeft: for every input the law returns true; the arguments read as they did. No condition. -/
import Derived.SizedLaws
import Derived.Test.YtfbkefchjcocmaaGreatAbB8
set_option linter.unusedVariables false
set_option linter.unusedSimpArgs false
set_option linter.unusedSectionVars false
namespace Go.Proofs.YtfbkefchjcocmaaGreat
open Go.Ab Go.ChangeShapes Go.WideShapes Go.ChangeAt Go.RowKit
theorem zBC{v0 v1:Value}{x0:List Ent}{x1:wV}(w0:∀e∈x0,RdE e)(w1:zPw x1)(W:World)(h0:V (rdG W) W (.sl (zJ yN x0) x0.length .no) v0)(h1:V (rdG W) W (.agg (mH x1)) v1) :
  Calls Tryz.prog 3 #[v0,v1] W fun e W'=>e = .returned (.bool true)∧Below W.heap.size W W':=by
 refine((zGD x0 x1 w0 w1).1 (rdG W) W #[v0,v1] (zTI W) (zWP W) (by simp only[VL,and_true];exact⟨h0,h1⟩)).mono ?_
 rintro e W' ⟨u,G',s',rfl,hE,hR,hv,-⟩
 simp only[V]at hv
 subst hv
 have hb:=hR.below
 rw[hE.F,hE.w0]at hb
 exact⟨rfl,⟨hb.os,hb.tape,hb.output,hb.size,hb.block⟩⟩
set_option maxRecDepth 100000 in
theorem zBz(os:Os)(started:os.Started)(H:Type)(enc:TypeId×Value->H) :
  ReturnsInHanded {} Tryz.checked os 3 .any (Rows.unifyLeftSpec.pre6 enc Tryz.prog Tryz.f3 Rows.unifyLeftRow.domain false) (Rows.unifyLeftSpec.post enc Tryz.prog Tryz.f3 false true false false):=by
 refine returnsInHanded_of_change_sized (C:=Tryz.checked) own started (by kernel_rfl) Tryz.func3
  (ChangeSpec.witness6 (enc:=enc) (C:=Tryz.checked) false ⟨#[],#[.slice none 0 0,.agg #[.slice none 0 0,.slice none 0 0,.slice none 0 0,.int .i64 0]],[]⟩ 8 (by kernel_rfl) (by kernel_rfl) (by kernel_rfl) (by kernel_rfl)) ?_
 intro W base args ds gs before hval0 hW hcnd hsz _
 have hval:∀(j:Nat) t v,Tryz.f3.params[j]? = some t->args[j]? = some v->Value.okWide Tryz.prog W .any base t v:=hval0
 have hW':=hW
 obtain⟨p,q,hA0,hV,rfl,hfz,hnd⟩:=hW
 have hA:DataW.TrodAll enc Tryz.prog W 0 (fun _=>true) true Tryz.f3.params.toList args.toList ds p:=hA0
 rw[Tryz.params3]at hA hval hsz
 obtain⟨v0,v1,d0,d1,p0,p1,rfl,rfl,rfl,h0,h1⟩:=trodAll_two hA
 obtain⟨rfl,rfl⟩:=trodVars_none hV
 obtain⟨x0,r0,w0⟩:=zTK (okWide_slice Tryz.underlying22 (hval 0 22 v0 rfl rfl)) h0 (fun w hw=>of_decide_eq_true (List.all_eq_true.1 hsz w (zBG _ _ 0 22 d0 rfl rfl w hw)))
 obtain⟨x1,r1,w1⟩:=zJk h1 (fun w hw=>of_decide_eq_true (List.all_eq_true.1 hsz w (zBG _ _ 1 26 d1 rfl rfl w hw)))
 clear hA0 hval0
 simp only[List.append_nil]at hW'
 have hlt:∀y∈p0++p1,y.block<W.heap.size:=fun y hy=>by simpa using hW'.lt y (by simpa using hy)
 refine(zBC w0 w1 W r0 r1).mono fun e W' ⟨he,hn⟩=>?_
 subst he
 have k0:=Below.trod zLh (by kernel_rfl) (of_decide_eq_true (by kernel_rfl)) h0 hn fun y hy=>hlt y (by simp[hy])
 have k1:=Below.trod zLh (by kernel_rfl) (of_decide_eq_true (by kernel_rfl)) h1 hn fun y hy=>hlt y (by simp[hy])
 exact⟨_,rfl,_,_,_,[],_,[],hW',trodAll_mk1 zNn,trodAll_mk2 k0 k1,rfl,hn.frame _,fun h=>by cases h⟩
set_option maxRecDepth 100000 in
theorem zBy:joinedFacts Tryz.pinned.checked.prog 3 Tryz.f3 Rows.unifyLeftSpec Rows.unifyLeftRow=true:=by
 unfold joinedFacts
 exact(sP (sP (sP (sP (sP (sP (sP (sP (sP (sP (sP (sP (sP (sP (sP (sP (sP (sP (sP (sP (sP (sP (sP (sP (sP (sP (sP (sP (sP (sP (sP zBd yAl) yAk) zBc) zBb) zBa) yAj) zBA) yAi) zBB) zAJ) zAK) zAL) zAM) zAN) zAO) zAP) zAQ) zAR) zAS) zAT) zAU) zYo) zAV) zYn) zYm) zYl) zYk) zAW) zAX) zAY) zAZ)
theorem unifyLeft_holds:Rows.UnifyLeftSaid:=
 OpenClaim.holds_of_wide 3 Tryz.f3 rfl rfl rfl rfl rfl rfl rfl ⟨rfl,rfl,rfl,rfl,rfl⟩ rfl rfl rfl rfl rfl (by kernel_rfl) Tryz.func3 zBy
  (of_decide_eq_true (by kernel_rfl)) (by unfold Func.isWrapper;first | (rw[if_pos (by decide +kernel)];kernel_rfl) | (rw[if_neg (by decide +kernel)];exact⟨rfl,rfl⟩))
  (fun os started H enc _=>zBz os started H enc)
#print axioms unifyLeft_holds
end Go.Proofs.YtfbkefchjcocmaaGreat
