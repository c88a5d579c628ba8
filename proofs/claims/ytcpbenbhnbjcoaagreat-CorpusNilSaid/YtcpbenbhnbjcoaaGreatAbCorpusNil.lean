/- CorpusNil: for every input the law returns true; the arguments read as they did. No condition. -/
import Derived.SizedLaws
import Derived.Test.YtcpbenbhnbjcoaaGreatAbB7
set_option linter.unusedVariables false
set_option linter.unusedSimpArgs false
set_option linter.unusedSectionVars false
namespace Go.Proofs.YtcpbenbhnbjcoaaGreat
open Go.Ab Go.ChangeShapes Go.WideShapes Go.ChangeAt Go.RowKit
theorem corpusNil_calls{v0:Value}{x0:ByteArray}(W:World)(h0:V (rdG W) W (at' x0) v0) :
  Calls Tryz.prog 3 #[v0] W fun e W'=>e = .returned (.bool true)∧Below W.heap.size W W':=by
 refine((corpusNil_ct x0).1 (rdG W) W #[v0] (rd_base W) (rd_rel W) (by simp only[VL,and_true];exact h0)).mono ?_
 rintro e W' ⟨u,G',s',rfl,hE,hR,hv,-⟩
 simp only[V]at hv
 subst hv
 have hb:=hR.below
 rw[hE.F,hE.w0]at hb
 exact⟨rfl,⟨hb.os,hb.tape,hb.output,hb.size,hb.block⟩⟩
set_option maxRecDepth 100000 in
theorem corpusNil_lifted(os:Os)(started:os.Started)(H:Type)(enc:TypeId×Value->H) :
  ReturnsInHanded {} Tryz.checked os 3 .any (Rows.corpusNilSpec.pre6 enc Tryz.prog Tryz.f3 Rows.corpusNilRow.domain false) (Rows.corpusNilSpec.post enc Tryz.prog Tryz.f3 false true false false):=by
 refine returnsInHanded_of_change (C:=Tryz.checked) own started (by kernel_rfl) Tryz.func3
  (ChangeSpec.witness6 (enc:=enc) (C:=Tryz.checked) false ⟨#[],#[.string ByteArray.empty],[]⟩ 8 (by kernel_rfl) (by kernel_rfl) (by kernel_rfl) (by kernel_rfl)) ?_
 intro W base args ds gs before hval0 hW hcnd _
 have hval:∀(j:Nat) t v,Tryz.f3.params[j]? = some t->args[j]? = some v->Value.okWide Tryz.prog W .any base t v:=hval0
 have hW':=hW
 obtain⟨p,q,hA0,hV,rfl,hfz,hnd⟩:=hW
 have hA:DataW.TrodAll enc Tryz.prog W 0 (fun _=>true) true Tryz.f3.params.toList args.toList ds p:=hA0
 rw[Tryz.params3]at hA hval
 obtain⟨v0,d0,rfl,rfl,h0⟩:=trodAll_one hA
 obtain⟨rfl,rfl⟩:=trodVars_none hV
 obtain⟨x0,rfl⟩:=okWide_string Tryz.underlying9 (hval 0 9 _ rfl rfl)
 clear hA0 hval0
 simp only[List.append_nil]at hW'
 have hlt:∀y∈p,y.block<W.heap.size:=fun y hy=>by simpa using hW'.lt y (by simpa using hy)
 refine(corpusNil_calls W (by simp only[V];rfl)).mono fun e W' ⟨he,hn⟩=>?_
 subst he
 have k0:=Below.trod laidOut (by kernel_rfl) (of_decide_eq_true (by kernel_rfl)) h0 hn fun y hy=>hlt y (by simp[hy])
 exact⟨_,rfl,_,_,_,[],_,[],hW',trodAll_mk1 shut_true,trodAll_mk1 k0,rfl,hn.frame _,fun h=>by cases h⟩
set_option maxRecDepth 100000 in
theorem corpusNil_closed:joinedFacts Tryz.pinned.checked.prog 3 Tryz.f3 Rows.corpusNilSpec Rows.corpusNilRow=true:=by
 unfold joinedFacts
 exact(both (both (both (both (both (both (both (both (both (both (both (both (both (both (both (both (both (both (both (both (both (both (both (both (both (both (both (both (both (both (both corpusNil_fact0 fact1) fact2) corpusNil_fact3) corpusNil_fact4) corpusNil_fact5) fact6) corpusNil_fact7) fact8) corpusNil_fact9) corpusNil_fact10) corpusNil_fact11) corpusNil_fact12) corpusNil_fact13) corpusNil_fact14) corpusNil_fact15) corpusNil_fact16) corpusNil_fact17) corpusNil_fact18) corpusNil_fact19) corpusNil_fact20) corpusNil_fact21) fact22) corpusNil_fact23) fact24) fact25) fact26) fact27) corpusNil_fact28) corpusNil_fact29) corpusNil_fact30) corpusNil_fact31)
theorem corpusNil_holds:Rows.CorpusNilSaid:=
 OpenClaim.holds_of_wide 3 Tryz.f3 rfl rfl rfl rfl rfl rfl rfl ⟨rfl,rfl,rfl,rfl,rfl⟩ rfl rfl rfl rfl rfl (by kernel_rfl) Tryz.func3 corpusNil_closed
  (of_decide_eq_true (by kernel_rfl)) (by unfold Func.isWrapper;first | (rw[if_pos (by decide +kernel)];kernel_rfl) | (rw[if_neg (by decide +kernel)];exact⟨rfl,rfl⟩))
  (fun os started H enc _=>corpusNil_lifted os started H enc)
#print axioms corpusNil_holds
end Go.Proofs.YtcpbenbhnbjcoaaGreat
