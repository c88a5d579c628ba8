/- ClauseFirst: for every input the law returns true; the arguments read as they did. No condition. -/
import Derived.SizedLaws
import Derived.Test.YtmfcobjnlabpoaaGreatAbB8
set_option linter.unusedVariables false
set_option linter.unusedSimpArgs false
set_option linter.unusedSectionVars false
namespace Go.Proofs.YtmfcobjnlabpoaaGreat
open Go.Ab Go.ChangeShapes Go.WideShapes Go.ChangeAt Go.RowKit
theorem clauseFirst_calls{v0 v1:Value}{x0:List ClauseClause}{x1:List Tm}(w0:(∀e∈x0,okC e)∧x0.length≤17592186044416)(w1:OkL x1∧x1.length<9223372036854775808)(W:World)(h0:V (rdG W) W (.sl (flat clauseClauseL x0) x0.length .no) v0)(h1:V (rdG W) W (.sl (flat tmCells x1) x1.length .no) v1) :
  Calls Tryz.prog 9 #[v0,v1] W fun e W'=>e = .returned (.bool true)∧Below W.heap.size W W':=by
 refine((clauseFirst_ct x0 x1 w0 w1).1 (rdG W) W #[v0,v1] (rd_base W) (rd_rel W) (by simp only[VL,and_true];exact⟨h0,h1⟩)).mono ?_
 rintro e W' ⟨u,G',s',rfl,hE,hR,hv,-⟩
 simp only[V]at hv
 subst hv
 have hb:=hR.below
 rw[hE.F,hE.w0]at hb
 exact⟨rfl,⟨hb.os,hb.tape,hb.output,hb.size,hb.block⟩⟩
set_option maxRecDepth 100000 in
theorem clauseFirst_lifted(os:Os)(started:os.Started)(H:Type)(enc:TypeId×Value->H) :
  ReturnsInHanded {} Tryz.checked os 9 .any (Rows.clauseFirstSpec.pre6 enc Tryz.prog Tryz.f9 Rows.clauseFirstRow.domain false) (Rows.clauseFirstSpec.post enc Tryz.prog Tryz.f9 false true false false):=by
 refine returnsInHanded_of_change_sized (C:=Tryz.checked) own started (by kernel_rfl) Tryz.func9
  (ChangeSpec.witness6 (enc:=enc) (C:=Tryz.checked) false ⟨#[],#[.slice none 0 0,.slice none 0 0],[]⟩ 8 (by kernel_rfl) (by kernel_rfl) (by kernel_rfl) (by kernel_rfl)) ?_
 intro W base args ds gs before hval0 hW hcnd hsz _
 have hval:∀(j:Nat) t v,Tryz.f9.params[j]? = some t->args[j]? = some v->Value.okWide Tryz.prog W .any base t v:=hval0
 have hW':=hW
 obtain⟨p,q,hA0,hV,rfl,hfz,hnd⟩:=hW
 have hA:DataW.TrodAll enc Tryz.prog W 0 (fun _=>true) true Tryz.f9.params.toList args.toList ds p:=hA0
 rw[Tryz.params9]at hA hval hsz
 obtain⟨v0,v1,d0,d1,p0,p1,rfl,rfl,rfl,h0,h1⟩:=trodAll_two hA
 obtain⟨rfl,rfl⟩:=trodVars_none hV
 obtain⟨x0,r0,w0⟩:=rd_Clauses (okWide_slice Tryz.underlying91 (hval 0 91 v0 rfl rfl)) h0 (fun w hw=>of_decide_eq_true (List.all_eq_true.1 hsz w (wt_each _ _ 0 91 d0 rfl rfl w hw)))
 obtain⟨x1,r1,w1⟩:=rd_tms (okWide_slice Tryz.underlying23 (hval 1 23 v1 rfl rfl)) h1
 clear hA0 hval0
 simp only[List.append_nil]at hW'
 have hlt:∀y∈p0++p1,y.block<W.heap.size:=fun y hy=>by simpa using hW'.lt y (by simpa using hy)
 refine(clauseFirst_calls w0 w1 W r0 r1).mono fun e W' ⟨he,hn⟩=>?_
 subst he
 have k0:=Below.trod laidOut (by kernel_rfl) (of_decide_eq_true (by kernel_rfl)) h0 hn fun y hy=>hlt y (by simp[hy])
 have k1:=Below.trod laidOut (by kernel_rfl) (of_decide_eq_true (by kernel_rfl)) h1 hn fun y hy=>hlt y (by simp[hy])
 exact⟨_,rfl,_,_,_,[],_,[],hW',trodAll_mk1 shut_true,trodAll_mk2 k0 k1,rfl,hn.frame _,fun h=>by cases h⟩
set_option maxRecDepth 100000 in
theorem clauseFirst_closed:joinedFacts Tryz.pinned.checked.prog 9 Tryz.f9 Rows.clauseFirstSpec Rows.clauseFirstRow=true:=by
 unfold joinedFacts
 exact(both (both (both (both (both (both (both (both (both (both (both (both (both (both (both (both (both (both (both (both (both (both (both (both (both (both (both (both (both (both (both clauseFirst_fact0 fact1) fact2) clauseFirst_fact3) clauseFirst_fact4) clauseFirst_fact5) fact6) clauseFirst_fact7) fact8) clauseFirst_fact9) clauseFirst_fact10) clauseFirst_fact11) clauseFirst_fact12) clauseFirst_fact13) clauseFirst_fact14) clauseFirst_fact15) clauseFirst_fact16) clauseFirst_fact17) clauseFirst_fact18) clauseFirst_fact19) clauseFirst_fact20) clauseFirst_fact21) fact22) clauseFirst_fact23) fact24) fact25) fact26) fact27) clauseFirst_fact28) clauseFirst_fact29) clauseFirst_fact30) clauseFirst_fact31)
theorem clauseFirst_holds:Rows.ClauseFirstSaid:=
 OpenClaim.holds_of_wide 9 Tryz.f9 rfl rfl rfl rfl rfl rfl rfl ⟨rfl,rfl,rfl,rfl,rfl⟩ rfl rfl rfl rfl rfl (by kernel_rfl) Tryz.func9 clauseFirst_closed
  (of_decide_eq_true (by kernel_rfl)) (by unfold Func.isWrapper;first | (rw[if_pos (by decide +kernel)];kernel_rfl) | (rw[if_neg (by decide +kernel)];exact⟨rfl,rfl⟩))
  (fun os started H enc _=>clauseFirst_lifted os started H enc)
#print axioms clauseFirst_holds
end Go.Proofs.YtmfcobjnlabpoaaGreat
