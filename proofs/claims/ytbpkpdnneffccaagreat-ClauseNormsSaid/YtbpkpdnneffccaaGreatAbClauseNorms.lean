/- ClauseNorms: for every input the law returns true; the arguments read as they did. No condition. -/
import Derived.SizedLaws
import Derived.Test.YtbpkpdnneffccaaGreatAbB8
set_option linter.unusedVariables false
set_option linter.unusedSimpArgs false
set_option linter.unusedSectionVars false
namespace Go.Proofs.YtbpkpdnneffccaaGreat
open Go.Ab Go.ChangeShapes Go.WideShapes Go.ChangeAt Go.RowKit
theorem F8{v0 v1 v2:Value}{x0:List zU}{x1:List zJ}{x2:List Tm}(w0:∀e∈x0,RdE e)(w1:(∀e∈x1,okC e)∧x1.length≤17592186044416)(w2:mN x2∧x2.length<9223372036854775808)(W:World)(h0:V (L7 W) W (.sl (flat yZ x0) x0.length .no) v0)(h1:V (L7 W) W (.sl (flat zY x1) x1.length .no) v1)(h2:V (L7 W) W (.sl (flat zD x2) x2.length .no) v2) :
  Calls Tryz.prog 3 #[v0,v1,v2] W fun e W'=>e = .returned (.bool true)∧Below W.heap.size W W':=by
 refine((Z0 x0 x1 x2 w0 w1 w2).1 (L7 W) W #[v0,v1,v2] (zPK W) (zTs W) (by simp only[VL,and_true];exact⟨h0,h1,h2⟩)).mono ?_
 rintro e W' ⟨u,G',s',rfl,hE,hR,hv,-⟩
 simp only[V]at hv
 subst hv
 have hb:=hR.below
 rw[hE.F,hE.w0]at hb
 exact⟨rfl,⟨hb.os,hb.tape,hb.output,hb.size,hb.block⟩⟩
set_option maxRecDepth 100000 in
theorem aG(os:Os)(started:os.Started)(H:Type)(enc:TypeId×Value->H) :
  ReturnsInHanded {} Tryz.checked os 3 .any (Rows.clauseNormsSpec.pre6 enc Tryz.prog Tryz.f3 Rows.clauseNormsRow.domain false) (Rows.clauseNormsSpec.post enc Tryz.prog Tryz.f3 false true false false):=by
 refine returnsInHanded_of_change_sized (C:=Tryz.checked) own started (by kernel_rfl) Tryz.func3
  (ChangeSpec.witness6 (enc:=enc) (C:=Tryz.checked) false ⟨#[],#[.slice none 0 0,.slice none 0 0,.slice none 0 0],[]⟩ 8 (by kernel_rfl) (by kernel_rfl) (by kernel_rfl) (by kernel_rfl)) ?_
 intro W base args ds gs before hval0 hW hcnd hsz _
 have hval:∀(j:Nat) t v,Tryz.f3.params[j]? = some t->args[j]? = some v->Value.okWide Tryz.prog W .any base t v:=hval0
 have hW':=hW
 obtain⟨p,q,hA0,hV,rfl,hfz,hnd⟩:=hW
 have hA:DataW.TrodAll enc Tryz.prog W 0 (fun _=>true) true Tryz.f3.params.toList args.toList ds p:=hA0
 rw[Tryz.params3]at hA hval hsz
 obtain⟨v0,v1,v2,d0,d1,d2,p0,p1,p2,rfl,rfl,rfl,h0,h1,h2⟩:=trodAll_three hA
 obtain⟨rfl,rfl⟩:=trodVars_none hV
 obtain⟨x0,r0,w0⟩:=zPL (okWide_slice Tryz.underlying22 (hval 0 22 v0 rfl rfl)) h0 (fun w hw=>of_decide_eq_true (List.all_eq_true.1 hsz w (O1 _ _ 0 22 d0 rfl rfl w hw)))
 obtain⟨x1,r1,w1⟩:=zFJ (okWide_slice Tryz.underlying23 (hval 1 23 v1 rfl rfl)) h1 (fun w hw=>of_decide_eq_true (List.all_eq_true.1 hsz w (O1 _ _ 1 23 d1 rfl rfl w hw)))
 obtain⟨x2,r2,w2⟩:=zTr (okWide_slice Tryz.underlying24 (hval 2 24 v2 rfl rfl)) h2
 clear hA0 hval0
 simp only[List.append_nil]at hW'
 have hlt:∀y∈p0++p1++p2,y.block<W.heap.size:=fun y hy=>by simpa using hW'.lt y (by simpa using hy)
 refine(F8 w0 w1 w2 W r0 r1 r2).mono fun e W' ⟨he,hn⟩=>?_
 subst he
 have k0:=Below.trod zAE (by kernel_rfl) (of_decide_eq_true (by kernel_rfl)) h0 hn fun y hy=>hlt y (by simp[hy])
 have k1:=Below.trod zAE (by kernel_rfl) (of_decide_eq_true (by kernel_rfl)) h1 hn fun y hy=>hlt y (by simp[hy])
 have k2:=Below.trod zAE (by kernel_rfl) (of_decide_eq_true (by kernel_rfl)) h2 hn fun y hy=>hlt y (by simp[hy])
 exact⟨_,rfl,_,_,_,[],_,[],hW',trodAll_mk1 zIL,trodAll_mk3 k0 k1 k2,rfl,hn.frame _,fun h=>by cases h⟩
set_option maxRecDepth 100000 in
theorem aH:joinedFacts Tryz.pinned.checked.prog 3 Tryz.f3 Rows.clauseNormsSpec Rows.clauseNormsRow=true:=by
 unfold joinedFacts
 exact(rZ (rZ (rZ (rZ (rZ (rZ (rZ (rZ (rZ (rZ (rZ (rZ (rZ (rZ (rZ (rZ (rZ (rZ (rZ (rZ (rZ (rZ (rZ (rZ (rZ (rZ (rZ (rZ (rZ (rZ (rZ F2 zXH) zXI) F3) F4) F5) zXJ) F6) zXK) F7) bP) bQ) bR) bS) bT) bU) bV) bW) bX) bY) bZ) aA) zVo) aB) zVn) zVm) zVl) zVk) aC) aD) aE) aF)
theorem clauseNorms_holds:Rows.ClauseNormsSaid:=
 OpenClaim.holds_of_wide 3 Tryz.f3 rfl rfl rfl rfl rfl rfl rfl ⟨rfl,rfl,rfl,rfl,rfl⟩ rfl rfl rfl rfl rfl (by kernel_rfl) Tryz.func3 aH
  (of_decide_eq_true (by kernel_rfl)) (by unfold Func.isWrapper;first | (rw[if_pos (by decide +kernel)];kernel_rfl) | (rw[if_neg (by decide +kernel)];exact⟨rfl,rfl⟩))
  (fun os started H enc _=>aG os started H enc)
#print axioms clauseNorms_holds
end Go.Proofs.YtbpkpdnneffccaaGreat
