/- UnifyGeneral: for every input the law returns true; the arguments read as they did. No condition. -/
import Derived.SizedLaws
import Derived.Test.YtfbkefchjcocmaaGreatAbB8
set_option linter.unusedVariables false
set_option linter.unusedSimpArgs false
set_option linter.unusedSectionVars false
namespace Go.Proofs.YtfbkefchjcocmaaGreat
open Go.Ab Go.ChangeShapes Go.WideShapes Go.ChangeAt Go.RowKit
theorem aA{v0 v1:Value}{x0:vJ}{x1:List Tm}(w0:zKt x0)(w1:OkL x1∧x1.length<9223372036854775808)(W:World)(h0:V (rdG W) W (.agg (mY x0)) v0)(h1:V (rdG W) W (.sl (zJ zF x1) x1.length .no) v1) :
  Calls Tryz.prog 4 #[v0,v1] W fun e W'=>e = .returned (.bool true)∧Below W.heap.size W W':=by
 refine((zCu x0 x1 w0 w1).1 (rdG W) W #[v0,v1] (zVw W) (zYl W) (by simp only[VL,and_true];exact⟨h0,h1⟩)).mono ?_
 rintro e W' ⟨u,G',s',rfl,hE,hR,hv,-⟩
 simp only[V]at hv
 subst hv
 have hb:=hR.below
 rw[hE.F,hE.w0]at hb
 exact⟨rfl,⟨hb.os,hb.tape,hb.output,hb.size,hb.block⟩⟩
set_option maxRecDepth 100000 in
theorem eW(os:Os)(started:os.Started)(H:Type)(enc:TypeId×Value->H) :
  ReturnsInHanded {} Tryz.checked os 4 .any (Rows.unifyGeneralSpec.pre6 enc Tryz.prog Tryz.f4 Rows.unifyGeneralRow.domain false) (Rows.unifyGeneralSpec.post enc Tryz.prog Tryz.f4 false true false false):=by
 refine returnsInHanded_of_change_sized (C:=Tryz.checked) own started (by kernel_rfl) Tryz.func4
  (ChangeSpec.witness6 (enc:=enc) (C:=Tryz.checked) false ⟨#[],#[.agg #[.slice none 0 0,.slice none 0 0,.slice none 0 0,.int .i64 0],.slice none 0 0],[]⟩ 8 (by kernel_rfl) (by kernel_rfl) (by kernel_rfl) (by kernel_rfl)) ?_
 intro W base args ds gs before hval0 hW hcnd hsz _
 have hval:∀(j:Nat) t v,Tryz.f4.params[j]? = some t->args[j]? = some v->Value.okWide Tryz.prog W .any base t v:=hval0
 have hW':=hW
 obtain⟨p,q,hA0,hV,rfl,hfz,hnd⟩:=hW
 have hA:DataW.TrodAll enc Tryz.prog W 0 (fun _=>true) true Tryz.f4.params.toList args.toList ds p:=hA0
 rw[Tryz.params4]at hA hval hsz
 obtain⟨v0,v1,d0,d1,p0,p1,rfl,rfl,rfl,h0,h1⟩:=trodAll_two hA
 obtain⟨rfl,rfl⟩:=trodVars_none hV
 obtain⟨x0,r0,w0⟩:=zKp h0 (fun w hw=>of_decide_eq_true (List.all_eq_true.1 hsz w (zGe _ _ 0 26 d0 rfl rfl w hw)))
 obtain⟨x1,r1,w1⟩:=zYk (okWide_slice Tryz.underlying24 (hval 1 24 v1 rfl rfl)) h1
 clear hA0 hval0
 simp only[List.append_nil]at hW'
 have hlt:∀y∈p0++p1,y.block<W.heap.size:=fun y hy=>by simpa using hW'.lt y (by simpa using hy)
 refine(aA w0 w1 W r0 r1).mono fun e W' ⟨he,hn⟩=>?_
 subst he
 have k0:=Below.trod zMe (by kernel_rfl) (of_decide_eq_true (by kernel_rfl)) h0 hn fun y hy=>hlt y (by simp[hy])
 have k1:=Below.trod zMe (by kernel_rfl) (of_decide_eq_true (by kernel_rfl)) h1 hn fun y hy=>hlt y (by simp[hy])
 exact⟨_,rfl,_,_,_,[],_,[],hW',trodAll_mk1 zOf,trodAll_mk2 k0 k1,rfl,hn.frame _,fun h=>by cases h⟩
set_option maxRecDepth 100000 in
theorem eX:joinedFacts Tryz.pinned.checked.prog 4 Tryz.f4 Rows.unifyGeneralSpec Rows.unifyGeneralRow=true:=by
 unfold joinedFacts
 exact(sX (sX (sX (sX (sX (sX (sX (sX (sX (sX (sX (sX (sX (sX (sX (sX (sX (sX (sX (sX (sX (sX (sX (sX (sX (sX (sX (sX (sX (sX (sX bU yBZ) yCz) bV) bW) bX) yCy) bY) yCx) bZ) eF) eG) eH) eI) eJ) eK) eL) eM) eN) eO) eP) eQ) zZQ) eR) zZR) zZS) zZT) zZU) eS) eT) eU) eV)
theorem unifyGeneral_holds:Rows.UnifyGeneralSaid:=
 OpenClaim.holds_of_wide 4 Tryz.f4 rfl rfl rfl rfl rfl rfl rfl ⟨rfl,rfl,rfl,rfl,rfl⟩ rfl rfl rfl rfl rfl (by kernel_rfl) Tryz.func4 eX
  (of_decide_eq_true (by kernel_rfl)) (by unfold Func.isWrapper;first | (rw[if_pos (by decide +kernel)];kernel_rfl) | (rw[if_neg (by decide +kernel)];exact⟨rfl,rfl⟩))
  (fun os started H enc _=>eW os started H enc)
#print axioms unifyGeneral_holds
end Go.Proofs.YtfbkefchjcocmaaGreat
