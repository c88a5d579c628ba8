/- NormValues: for every input the law returns true; the arguments read as they did. No condition. -/
import Derived.SizedLaws
import Derived.Test.YtmfcobjnlabpoaaGreatAbB8
set_option linter.unusedVariables false
set_option linter.unusedSimpArgs false
set_option linter.unusedSectionVars false
namespace Go.Proofs.YtmfcobjnlabpoaaGreat
open Go.Ab Go.ChangeShapes Go.WideShapes Go.ChangeAt Go.RowKit
theorem normValues_calls{v0 v1:Value}{x0:List Ent}{x1:Tm}(w0:∀e∈x0,RdE e)(w1:x1.Ok)(W:World)(h0:V (rdG W) W (.sl (flat entL x0) x0.length .no) v0)(h1:V (rdG W) W (tmA x1) v1) :
  Calls Tryz.prog 7 #[v0,v1] W fun e W'=>e = .returned (.bool true)∧Below W.heap.size W W':=by
 refine((normValues_ct x0 x1 w0 w1).1 (rdG W) W #[v0,v1] (rd_base W) (rd_rel W) (by simp only[VL,and_true];exact⟨h0,h1⟩)).mono ?_
 rintro e W' ⟨u,G',s',rfl,hE,hR,hv,-⟩
 simp only[V]at hv
 subst hv
 have hb:=hR.below
 rw[hE.F,hE.w0]at hb
 exact⟨rfl,⟨hb.os,hb.tape,hb.output,hb.size,hb.block⟩⟩
set_option maxRecDepth 100000 in
theorem normValues_lifted(os:Os)(started:os.Started)(H:Type)(enc:TypeId×Value->H) :
  ReturnsInHanded {} Tryz.checked os 7 .any (Rows.normValuesSpec.pre6 enc Tryz.prog Tryz.f7 Rows.normValuesRow.domain false) (Rows.normValuesSpec.post enc Tryz.prog Tryz.f7 false true false false):=by
 refine returnsInHanded_of_change_sized (C:=Tryz.checked) own started (by kernel_rfl) Tryz.func7
  (ChangeSpec.witness6 (enc:=enc) (C:=Tryz.checked) false ⟨#[],#[.slice none 0 0,.agg #[.int .i64 0,.int .i64 0,.slice none 0 0]],[]⟩ 8 (by kernel_rfl) (by kernel_rfl) (by kernel_rfl) (by kernel_rfl)) ?_
 intro W base args ds gs before hval0 hW hcnd hsz _
 have hval:∀(j:Nat) t v,Tryz.f7.params[j]? = some t->args[j]? = some v->Value.okWide Tryz.prog W .any base t v:=hval0
 have hW':=hW
 obtain⟨p,q,hA0,hV,rfl,hfz,hnd⟩:=hW
 have hA:DataW.TrodAll enc Tryz.prog W 0 (fun _=>true) true Tryz.f7.params.toList args.toList ds p:=hA0
 rw[Tryz.params7]at hA hval hsz
 obtain⟨v0,v1,d0,d1,p0,p1,rfl,rfl,rfl,h0,h1⟩:=trodAll_two hA
 obtain⟨rfl,rfl⟩:=trodVars_none hV
 obtain⟨x0,r0,w0⟩:=rd_ents (okWide_slice Tryz.underlying22 (hval 0 22 v0 rfl rfl)) h0 (fun w hw=>of_decide_eq_true (List.all_eq_true.1 hsz w (wt_each _ _ 0 22 d0 rfl rfl w hw)))
 obtain⟨x1,r1,w1⟩:=rd_tmA (open_term (hval 1 25 v1 rfl rfl)) h1
 clear hA0 hval0
 simp only[List.append_nil]at hW'
 have hlt:∀y∈p0++p1,y.block<W.heap.size:=fun y hy=>by simpa using hW'.lt y (by simpa using hy)
 refine(normValues_calls w0 w1 W r0 r1).mono fun e W' ⟨he,hn⟩=>?_
 subst he
 have k0:=Below.trod laidOut (by kernel_rfl) (of_decide_eq_true (by kernel_rfl)) h0 hn fun y hy=>hlt y (by simp[hy])
 have k1:=Below.trod laidOut (by kernel_rfl) (of_decide_eq_true (by kernel_rfl)) h1 hn fun y hy=>hlt y (by simp[hy])
 exact⟨_,rfl,_,_,_,[],_,[],hW',trodAll_mk1 shut_true,trodAll_mk2 k0 k1,rfl,hn.frame _,fun h=>by cases h⟩
set_option maxRecDepth 100000 in
theorem normValues_closed:joinedFacts Tryz.pinned.checked.prog 7 Tryz.f7 Rows.normValuesSpec Rows.normValuesRow=true:=by
 unfold joinedFacts
 exact(both (both (both (both (both (both (both (both (both (both (both (both (both (both (both (both (both (both (both (both (both (both (both (both (both (both (both (both (both (both (both normValues_fact0 fact1) fact2) normValues_fact3) normValues_fact4) normValues_fact5) fact6) normValues_fact7) fact8) normValues_fact9) normValues_fact10) normValues_fact11) normValues_fact12) normValues_fact13) normValues_fact14) normValues_fact15) normValues_fact16) normValues_fact17) normValues_fact18) normValues_fact19) normValues_fact20) normValues_fact21) fact22) normValues_fact23) fact24) fact25) fact26) fact27) normValues_fact28) normValues_fact29) normValues_fact30) normValues_fact31)
theorem normValues_holds:Rows.NormValuesSaid:=
 OpenClaim.holds_of_wide 7 Tryz.f7 rfl rfl rfl rfl rfl rfl rfl ⟨rfl,rfl,rfl,rfl,rfl⟩ rfl rfl rfl rfl rfl (by kernel_rfl) Tryz.func7 normValues_closed
  (of_decide_eq_true (by kernel_rfl)) (by unfold Func.isWrapper;first | (rw[if_pos (by decide +kernel)];kernel_rfl) | (rw[if_neg (by decide +kernel)];exact⟨rfl,rfl⟩))
  (fun os started H enc _=>normValues_lifted os started H enc)
#print axioms normValues_holds
end Go.Proofs.YtmfcobjnlabpoaaGreat
