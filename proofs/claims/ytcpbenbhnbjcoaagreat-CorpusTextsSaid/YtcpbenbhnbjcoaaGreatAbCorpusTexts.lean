/- CorpusTexts: for every input the law returns true; the arguments read as they did. No condition. -/
import Derived.SizedLaws
import Derived.Test.YtcpbenbhnbjcoaaGreatAbB7
set_option linter.unusedVariables false
set_option linter.unusedSimpArgs false
set_option linter.unusedSectionVars false
namespace Go.Proofs.YtcpbenbhnbjcoaaGreat
open Go.Ab Go.ChangeShapes Go.WideShapes Go.ChangeAt Go.RowKit
theorem corpusTexts_calls{v0:Value}{x0:Int}(w0:(Lit.int .i64 x0).wf=true)(W:World)(h0:V (rdG W) W (.val (.int .i64 x0)) v0) :
  Calls Tryz.prog 4 #[v0] W fun e W'=>e = .returned (.bool true)∧Below W.heap.size W W':=by
 refine((corpusTexts_ct x0 w0).1 (rdG W) W #[v0] (rd_base W) (rd_rel W) (by simp only[VL,and_true];exact h0)).mono ?_
 rintro e W' ⟨u,G',s',rfl,hE,hR,hv,-⟩
 simp only[V]at hv
 subst hv
 have hb:=hR.below
 rw[hE.F,hE.w0]at hb
 exact⟨rfl,⟨hb.os,hb.tape,hb.output,hb.size,hb.block⟩⟩
set_option maxRecDepth 100000 in
theorem corpusTexts_lifted(os:Os)(started:os.Started)(H:Type)(enc:TypeId×Value->H) :
  ReturnsInHanded {} Tryz.checked os 4 .any (Rows.corpusTextsSpec.pre6 enc Tryz.prog Tryz.f4 Rows.corpusTextsRow.domain false) (Rows.corpusTextsSpec.post enc Tryz.prog Tryz.f4 false true false false):=by
 refine returnsInHanded_of_change (C:=Tryz.checked) own started (by kernel_rfl) Tryz.func4
  (ChangeSpec.witness6 (enc:=enc) (C:=Tryz.checked) false ⟨#[],#[.int .i64 0],[]⟩ 8 (by kernel_rfl) (by kernel_rfl) (by kernel_rfl) (by kernel_rfl)) ?_
 intro W base args ds gs before hval0 hW hcnd _
 have hval:∀(j:Nat) t v,Tryz.f4.params[j]? = some t->args[j]? = some v->Value.okWide Tryz.prog W .any base t v:=hval0
 have hW':=hW
 obtain⟨p,q,hA0,hV,rfl,hfz,hnd⟩:=hW
 have hA:DataW.TrodAll enc Tryz.prog W 0 (fun _=>true) true Tryz.f4.params.toList args.toList ds p:=hA0
 rw[Tryz.params4]at hA hval
 obtain⟨v0,d0,rfl,rfl,h0⟩:=trodAll_one hA
 obtain⟨rfl,rfl⟩:=trodVars_none hV
 obtain⟨x0,rfl,-,-,w0⟩:=open_int Tryz.underlying3 (hval 0 3 _ rfl rfl) h0
 clear hA0 hval0
 simp only[List.append_nil]at hW'
 have hlt:∀y∈p,y.block<W.heap.size:=fun y hy=>by simpa using hW'.lt y (by simpa using hy)
 refine(corpusTexts_calls w0 W (by simp only[V])).mono fun e W' ⟨he,hn⟩=>?_
 subst he
 have k0:=Below.trod laidOut (by kernel_rfl) (of_decide_eq_true (by kernel_rfl)) h0 hn fun y hy=>hlt y (by simp[hy])
 exact⟨_,rfl,_,_,_,[],_,[],hW',trodAll_mk1 shut_true,trodAll_mk1 k0,rfl,hn.frame _,fun h=>by cases h⟩
set_option maxRecDepth 100000 in
theorem corpusTexts_closed:joinedFacts Tryz.pinned.checked.prog 4 Tryz.f4 Rows.corpusTextsSpec Rows.corpusTextsRow=true:=by
 unfold joinedFacts
 exact(both (both (both (both (both (both (both (both (both (both (both (both (both (both (both (both (both (both (both (both (both (both (both (both (both (both (both (both (both (both (both corpusTexts_fact0 fact1) fact2) corpusTexts_fact3) corpusTexts_fact4) corpusTexts_fact5) fact6) corpusTexts_fact7) fact8) corpusTexts_fact9) corpusTexts_fact10) corpusTexts_fact11) corpusTexts_fact12) corpusTexts_fact13) corpusTexts_fact14) corpusTexts_fact15) corpusTexts_fact16) corpusTexts_fact17) corpusTexts_fact18) corpusTexts_fact19) corpusTexts_fact20) corpusTexts_fact21) fact22) corpusTexts_fact23) fact24) fact25) fact26) fact27) corpusTexts_fact28) corpusTexts_fact29) corpusTexts_fact30) corpusTexts_fact31)
theorem corpusTexts_holds:Rows.CorpusTextsSaid:=
 OpenClaim.holds_of_wide 4 Tryz.f4 rfl rfl rfl rfl rfl rfl rfl ⟨rfl,rfl,rfl,rfl,rfl⟩ rfl rfl rfl rfl rfl (by kernel_rfl) Tryz.func4 corpusTexts_closed
  (of_decide_eq_true (by kernel_rfl)) (by unfold Func.isWrapper;first | (rw[if_pos (by decide +kernel)];kernel_rfl) | (rw[if_neg (by decide +kernel)];exact⟨rfl,rfl⟩))
  (fun os started H enc _=>corpusTexts_lifted os started H enc)
#print axioms corpusTexts_holds
end Go.Proofs.YtcpbenbhnbjcoaaGreat
