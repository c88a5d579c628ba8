/- IotaNames: for every input the law returns true; the arguments read as they did. No condition. -/
import Derived.SizedLaws
import Derived.Test.YtmfcobjnlabpoaaGreatAbB7
set_option linter.unusedVariables false
set_option linter.unusedSimpArgs false
set_option linter.unusedSectionVars false
namespace Go.Proofs.YtmfcobjnlabpoaaGreat
open Go.Ab Go.ChangeShapes Go.WideShapes Go.ChangeAt Go.RowKit
theorem iotaNames_calls{v0 v1 v2:Value}{x0:List Ent}{x1:Case'}{x2:Two}(w0:∀e∈x0,RdE e)(w1:RdCase' x1)(w2:RdTwo x2)(W:World)(h0:V (rdG W) W (.sl (flat entL x0) x0.length .no) v0)(h1:V (rdG W) W (.agg (caseL x1)) v1)(h2:V (rdG W) W (.agg (twoL x2)) v2) :
  Calls Tryz.prog 6 #[v0,v1,v2] W fun e W'=>e = .returned (.bool true)∧Below W.heap.size W W':=by
 refine((iotaNames_ct x0 x1 x2 w0 w1 w2).1 (rdG W) W #[v0,v1,v2] (rd_base W) (rd_rel W) (by simp only[VL,and_true];exact⟨h0,h1,h2⟩)).mono ?_
 rintro e W' ⟨u,G',s',rfl,hE,hR,hv,-⟩
 simp only[V]at hv
 subst hv
 have hb:=hR.below
 rw[hE.F,hE.w0]at hb
 exact⟨rfl,⟨hb.os,hb.tape,hb.output,hb.size,hb.block⟩⟩
set_option maxRecDepth 100000 in
theorem iotaNames_lifted(os:Os)(started:os.Started)(H:Type)(enc:TypeId×Value->H) :
  ReturnsInHanded {} Tryz.checked os 6 .any (Rows.iotaNamesSpec.pre6 enc Tryz.prog Tryz.f6 Rows.iotaNamesRow.domain false) (Rows.iotaNamesSpec.post enc Tryz.prog Tryz.f6 false true false false):=by
 refine returnsInHanded_of_change_sized (C:=Tryz.checked) own started (by kernel_rfl) Tryz.func6
  (ChangeSpec.witness6 (enc:=enc) (C:=Tryz.checked) false ⟨#[],#[.slice none 0 0,.agg #[.int .i64 0,.int .i64 0,.int .i64 0],.agg #[.slice none 0 0,.slice none 0 0]],[]⟩ 8 (by kernel_rfl) (by kernel_rfl) (by kernel_rfl) (by kernel_rfl)) ?_
 intro W base args ds gs before hval0 hW hcnd hsz _
 have hval:∀(j:Nat) t v,Tryz.f6.params[j]? = some t->args[j]? = some v->Value.okWide Tryz.prog W .any base t v:=hval0
 have hW':=hW
 obtain⟨p,q,hA0,hV,rfl,hfz,hnd⟩:=hW
 have hA:DataW.TrodAll enc Tryz.prog W 0 (fun _=>true) true Tryz.f6.params.toList args.toList ds p:=hA0
 rw[Tryz.params6]at hA hval hsz
 obtain⟨v0,v1,v2,d0,d1,d2,p0,p1,p2,rfl,rfl,rfl,h0,h1,h2⟩:=trodAll_three hA
 obtain⟨rfl,rfl⟩:=trodVars_none hV
 obtain⟨x0,r0,w0⟩:=rd_ents (okWide_slice Tryz.underlying22 (hval 0 22 v0 rfl rfl)) h0 (fun w hw=>of_decide_eq_true (List.all_eq_true.1 hsz w (wt_each _ _ 0 22 d0 rfl rfl w hw)))
 obtain⟨x1,r1,w1⟩:=rd_Case'A h1 (fun w hw=>of_decide_eq_true (List.all_eq_true.1 hsz w (wt_each _ _ 1 49 d1 rfl rfl w hw)))
 obtain⟨x2,r2,w2⟩:=rd_TwoA h2
 clear hA0 hval0
 simp only[List.append_nil]at hW'
 have hlt:∀y∈p0++p1++p2,y.block<W.heap.size:=fun y hy=>by simpa using hW'.lt y (by simpa using hy)
 refine(iotaNames_calls w0 w1 w2 W r0 r1 r2).mono fun e W' ⟨he,hn⟩=>?_
 subst he
 have k0:=Below.trod laidOut (by kernel_rfl) (of_decide_eq_true (by kernel_rfl)) h0 hn fun y hy=>hlt y (by simp[hy])
 have k1:=Below.trod laidOut (by kernel_rfl) (of_decide_eq_true (by kernel_rfl)) h1 hn fun y hy=>hlt y (by simp[hy])
 have k2:=Below.trod laidOut (by kernel_rfl) (of_decide_eq_true (by kernel_rfl)) h2 hn fun y hy=>hlt y (by simp[hy])
 exact⟨_,rfl,_,_,_,[],_,[],hW',trodAll_mk1 shut_true,trodAll_mk3 k0 k1 k2,rfl,hn.frame _,fun h=>by cases h⟩
set_option maxRecDepth 100000 in
theorem iotaNames_closed:joinedFacts Tryz.pinned.checked.prog 6 Tryz.f6 Rows.iotaNamesSpec Rows.iotaNamesRow=true:=by
 unfold joinedFacts
 exact(both (both (both (both (both (both (both (both (both (both (both (both (both (both (both (both (both (both (both (both (both (both (both (both (both (both (both (both (both (both (both iotaNames_fact0 fact1) fact2) iotaNames_fact3) iotaNames_fact4) iotaNames_fact5) fact6) iotaNames_fact7) fact8) iotaNames_fact9) iotaNames_fact10) iotaNames_fact11) iotaNames_fact12) iotaNames_fact13) iotaNames_fact14) iotaNames_fact15) iotaNames_fact16) iotaNames_fact17) iotaNames_fact18) iotaNames_fact19) iotaNames_fact20) iotaNames_fact21) fact22) iotaNames_fact23) fact24) fact25) fact26) fact27) iotaNames_fact28) iotaNames_fact29) iotaNames_fact30) iotaNames_fact31)
theorem iotaNames_holds:Rows.IotaNamesSaid:=
 OpenClaim.holds_of_wide 6 Tryz.f6 rfl rfl rfl rfl rfl rfl rfl ⟨rfl,rfl,rfl,rfl,rfl⟩ rfl rfl rfl rfl rfl (by kernel_rfl) Tryz.func6 iotaNames_closed
  (of_decide_eq_true (by kernel_rfl)) (by unfold Func.isWrapper;first | (rw[if_pos (by decide +kernel)];kernel_rfl) | (rw[if_neg (by decide +kernel)];exact⟨rfl,rfl⟩))
  (fun os started H enc _=>iotaNames_lifted os started H enc)
#print axioms iotaNames_holds
end Go.Proofs.YtmfcobjnlabpoaaGreat
