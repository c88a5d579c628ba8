/- ConvEta: for every input the law returns true; the arguments read as they did. No condition. -/
import Derived.SizedLaws
import Derived.Test.YtmfcobjnlabpoaaGreatAbB8
set_option linter.unusedVariables false
set_option linter.unusedSimpArgs false
namespace Go.Proofs.YtmfcobjnlabpoaaGreat
open Go.Ab Go.ChangeShapes Go.WideShapes Go.ChangeAt Go.RowKit
theorem convEta_calls{v0 v1:Value}{x0:List Ent}{x1:Tm}(w0:∀e∈x0,RdE e)(w1:x1.Ok)(W:World)(h0:V (rdG W) W (.sl (flat entL x0) x0.length .no) v0)(h1:V (rdG W) W (tmA x1) v1) :
  Calls Tryz.prog 5 #[v0,v1] W fun e W'=>e = .returned (.bool true)∧Below W.heap.size W W':=by
 refine((convEta_ct x0 x1 w0 w1).1 (rdG W) W #[v0,v1] (rd_base W) (rd_rel W) (by simp only[VL,and_true];exact⟨h0,h1⟩)).mono ?_
 rintro e W' ⟨u,G',s',rfl,hE,hR,hv,-⟩
 simp only[V]at hv
 subst hv
 have hb:=hR.below
 rw[hE.F,hE.w0]at hb
 exact⟨rfl,⟨hb.os,hb.tape,hb.output,hb.size,hb.block⟩⟩
set_option maxRecDepth 100000 in
theorem convEta_lifted(os:Os)(started:os.Started)(H:Type)(enc:TypeId×Value->H) :
  ReturnsInHanded {} Tryz.checked os 5 .any (Rows.convEtaSpec.pre6 enc Tryz.prog Tryz.f5 Rows.convEtaRow.domain false) (Rows.convEtaSpec.post enc Tryz.prog Tryz.f5 false true false false):=by
 refine returnsInHanded_of_change_sized (C:=Tryz.checked) own started (by kernel_rfl) Tryz.func5
  (ChangeSpec.witness6 (enc:=enc) (C:=Tryz.checked) false ⟨#[],#[.slice none 0 0,.agg #[.int .i64 0,.int .i64 0,.slice none 0 0]],[]⟩ 8 (by kernel_rfl) (by kernel_rfl) (by kernel_rfl) (by kernel_rfl)) ?_
 intro W base args ds gs before hval0 hW hcnd hsz _
 have hval:∀(j:Nat) t v,Tryz.f5.params[j]? = some t->args[j]? = some v->Value.okWide Tryz.prog W .any base t v:=hval0
 have hW':=hW
 obtain⟨p,q,hA0,hV,rfl,hfz,hnd⟩:=hW
 have hA:DataW.TrodAll enc Tryz.prog W 0 (fun _=>true) true Tryz.f5.params.toList args.toList ds p:=hA0
 rw[Tryz.params5]at hA hval hsz
 obtain⟨v0,v1,d0,d1,p0,p1,rfl,rfl,rfl,h0,h1⟩:=trodAll_two hA
 obtain⟨rfl,rfl⟩:=trodVars_none hV
 obtain⟨x0,r0,w0⟩:=rd_ents (okWide_slice Tryz.underlying22 (hval 0 22 v0 rfl rfl)) h0 (fun w hw=>of_decide_eq_true (List.all_eq_true.1 hsz w (wt_each _ _ 0 22 d0 rfl rfl w hw)))
 obtain⟨x1,r1,w1⟩:=rd_tmA (open_term (hval 1 25 v1 rfl rfl)) h1
 clear hA0 hval0
 simp only[List.append_nil]at hW'
 have hlt:∀y∈p0++p1,y.block<W.heap.size:=fun y hy=>by simpa using hW'.lt y (by simpa using hy)
 refine(convEta_calls w0 w1 W r0 r1).mono fun e W' ⟨he,hn⟩=>?_
 subst he
 have k0:=Below.trod laidOut (by kernel_rfl) (of_decide_eq_true (by kernel_rfl)) h0 hn fun y hy=>hlt y (by simp[hy])
 have k1:=Below.trod laidOut (by kernel_rfl) (of_decide_eq_true (by kernel_rfl)) h1 hn fun y hy=>hlt y (by simp[hy])
 exact⟨_,rfl,_,_,_,[],_,[],hW',trodAll_mk1 shut_true,trodAll_mk2 k0 k1,rfl,hn.frame _,fun h=>by cases h⟩
set_option maxRecDepth 100000 in
theorem convEta_closed:joinedFacts Tryz.pinned.checked.prog 5 Tryz.f5 Rows.convEtaSpec Rows.convEtaRow=true:=by
 unfold joinedFacts
 exact(both (both (both (both (both (both (both (both (both (both (both (both (both (both (both (both (both (both (both (both (both (both (both (both (both (both (both (both (both (both (both convEta_fact0 fact1) fact2) convEta_fact3) convEta_fact4) convEta_fact5) fact6) convEta_fact7) fact8) convEta_fact9) convEta_fact10) convEta_fact11) convEta_fact12) convEta_fact13) convEta_fact14) convEta_fact15) convEta_fact16) convEta_fact17) convEta_fact18) convEta_fact19) convEta_fact20) convEta_fact21) fact22) convEta_fact23) fact24) fact25) fact26) fact27) convEta_fact28) convEta_fact29) convEta_fact30) convEta_fact31)
theorem convEta_holds:Rows.ConvEtaSaid:=
 OpenClaim.holds_of_wide 5 Tryz.f5 rfl rfl rfl rfl rfl rfl rfl ⟨rfl,rfl,rfl,rfl,rfl⟩ rfl rfl rfl rfl rfl (by kernel_rfl) Tryz.func5 convEta_closed
  (of_decide_eq_true (by kernel_rfl)) (by unfold Func.isWrapper;first | (rw[if_pos (by decide +kernel)];kernel_rfl) | (rw[if_neg (by decide +kernel)];exact⟨rfl,rfl⟩))
  (fun os started H enc _=>convEta_lifted os started H enc)
#print axioms convEta_holds
end Go.Proofs.YtmfcobjnlabpoaaGreat
