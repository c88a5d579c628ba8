/- ClauseFuel: for every input the law returns true; the arguments read as they did. No condition. -/
import Derived.SizedLaws
import Derived.Test.YtmfcobjnlabpoaaGreatAbB7
set_option linter.unusedVariables false
set_option linter.unusedSimpArgs false
set_option linter.unusedSectionVars false
namespace Go.Proofs.YtmfcobjnlabpoaaGreat
open Go.Ab Go.ChangeShapes Go.WideShapes Go.ChangeAt Go.RowKit
theorem clauseFuel_calls{v0 v1 v2:Value}{x0:List ClauseClause}{x1:List Tm}{x2:A2U8}(w0:(∀e∈x0,okC e)∧x0.length≤17592186044416)(w1:OkL x1∧x1.length<9223372036854775808)(w2:RdA2U8 x2)(W:World)(h0:V (rdG W) W (.sl (flat clauseClauseL x0) x0.length .no) v0)(h1:V (rdG W) W (.sl (flat tmCells x1) x1.length .no) v1)(h2:V (rdG W) W (.agg (a2U8L x2)) v2) :
  Calls Tryz.prog 10 #[v0,v1,v2] W fun e W'=>e = .returned (.bool true)∧Below W.heap.size W W':=by
 refine((clauseFuel_ct x0 x1 x2 w0 w1 w2).1 (rdG W) W #[v0,v1,v2] (rd_base W) (rd_rel W) (by simp only[VL,and_true];exact⟨h0,h1,h2⟩)).mono ?_
 rintro e W' ⟨u,G',s',rfl,hE,hR,hv,-⟩
 simp only[V]at hv
 subst hv
 have hb:=hR.below
 rw[hE.F,hE.w0]at hb
 exact⟨rfl,⟨hb.os,hb.tape,hb.output,hb.size,hb.block⟩⟩
set_option maxRecDepth 100000 in
theorem clauseFuel_lifted(os:Os)(started:os.Started)(H:Type)(enc:TypeId×Value->H) :
  ReturnsInHanded {} Tryz.checked os 10 .any (Rows.clauseFuelSpec.pre6 enc Tryz.prog Tryz.f10 Rows.clauseFuelRow.domain false) (Rows.clauseFuelSpec.post enc Tryz.prog Tryz.f10 false true false false):=by
 refine returnsInHanded_of_change_sized (C:=Tryz.checked) own started (by kernel_rfl) Tryz.func10
  (ChangeSpec.witness6 (enc:=enc) (C:=Tryz.checked) false ⟨#[],#[.slice none 0 0,.slice none 0 0,.agg #[.int .u8 0,.int .u8 0]],[]⟩ 8 (by kernel_rfl) (by kernel_rfl) (by kernel_rfl) (by kernel_rfl)) ?_
 intro W base args ds gs before hval0 hW hcnd hsz _
 have hval:∀(j:Nat) t v,Tryz.f10.params[j]? = some t->args[j]? = some v->Value.okWide Tryz.prog W .any base t v:=hval0
 have hW':=hW
 obtain⟨p,q,hA0,hV,rfl,hfz,hnd⟩:=hW
 have hA:DataW.TrodAll enc Tryz.prog W 0 (fun _=>true) true Tryz.f10.params.toList args.toList ds p:=hA0
 rw[Tryz.params10]at hA hval hsz
 obtain⟨v0,v1,v2,d0,d1,d2,p0,p1,p2,rfl,rfl,rfl,h0,h1,h2⟩:=trodAll_three hA
 obtain⟨rfl,rfl⟩:=trodVars_none hV
 obtain⟨x0,r0,w0⟩:=rd_Clauses (okWide_slice Tryz.underlying91 (hval 0 91 v0 rfl rfl)) h0 (fun w hw=>of_decide_eq_true (List.all_eq_true.1 hsz w (wt_each _ _ 0 91 d0 rfl rfl w hw)))
 obtain⟨x1,r1,w1⟩:=rd_tms (okWide_slice Tryz.underlying23 (hval 1 23 v1 rfl rfl)) h1
 obtain⟨x2,r2,w2⟩:=rd_A2U8A h2
 clear hA0 hval0
 simp only[List.append_nil]at hW'
 have hlt:∀y∈p0++p1++p2,y.block<W.heap.size:=fun y hy=>by simpa using hW'.lt y (by simpa using hy)
 refine(clauseFuel_calls w0 w1 w2 W r0 r1 r2).mono fun e W' ⟨he,hn⟩=>?_
 subst he
 have k0:=Below.trod laidOut (by kernel_rfl) (of_decide_eq_true (by kernel_rfl)) h0 hn fun y hy=>hlt y (by simp[hy])
 have k1:=Below.trod laidOut (by kernel_rfl) (of_decide_eq_true (by kernel_rfl)) h1 hn fun y hy=>hlt y (by simp[hy])
 have k2:=Below.trod laidOut (by kernel_rfl) (of_decide_eq_true (by kernel_rfl)) h2 hn fun y hy=>hlt y (by simp[hy])
 exact⟨_,rfl,_,_,_,[],_,[],hW',trodAll_mk1 shut_true,trodAll_mk3 k0 k1 k2,rfl,hn.frame _,fun h=>by cases h⟩
set_option maxRecDepth 100000 in
theorem clauseFuel_closed:joinedFacts Tryz.pinned.checked.prog 10 Tryz.f10 Rows.clauseFuelSpec Rows.clauseFuelRow=true:=by
 unfold joinedFacts
 exact(both (both (both (both (both (both (both (both (both (both (both (both (both (both (both (both (both (both (both (both (both (both (both (both (both (both (both (both (both (both (both clauseFuel_fact0 fact1) fact2) clauseFuel_fact3) clauseFuel_fact4) clauseFuel_fact5) fact6) clauseFuel_fact7) fact8) clauseFuel_fact9) clauseFuel_fact10) clauseFuel_fact11) clauseFuel_fact12) clauseFuel_fact13) clauseFuel_fact14) clauseFuel_fact15) clauseFuel_fact16) clauseFuel_fact17) clauseFuel_fact18) clauseFuel_fact19) clauseFuel_fact20) clauseFuel_fact21) fact22) clauseFuel_fact23) fact24) fact25) fact26) fact27) clauseFuel_fact28) clauseFuel_fact29) clauseFuel_fact30) clauseFuel_fact31)
theorem clauseFuel_holds:Rows.ClauseFuelSaid:=
 OpenClaim.holds_of_wide 10 Tryz.f10 rfl rfl rfl rfl rfl rfl rfl ⟨rfl,rfl,rfl,rfl,rfl⟩ rfl rfl rfl rfl rfl (by kernel_rfl) Tryz.func10 clauseFuel_closed
  (of_decide_eq_true (by kernel_rfl)) (by unfold Func.isWrapper;first | (rw[if_pos (by decide +kernel)];kernel_rfl) | (rw[if_neg (by decide +kernel)];exact⟨rfl,rfl⟩))
  (fun os started H enc _=>clauseFuel_lifted os started H enc)
#print axioms clauseFuel_holds
end Go.Proofs.YtmfcobjnlabpoaaGreat
