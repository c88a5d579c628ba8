/- DataFuel: for every input the law returns true; the arguments read as they did. No condition. -/
import Derived.SizedLaws
import Derived.Test.YthncchbcdpbgaaaGreatAbB8
set_option linter.unusedVariables false
set_option linter.unusedSimpArgs false
set_option linter.unusedSectionVars false
namespace Go.Proofs.YthncchbcdpbgaaaGreat
open Go.Ab Go.ChangeShapes Go.WideShapes Go.ChangeAt Go.RowKit
theorem W1{v0 v1 v2:Value}{x0:ByteArray}{x1:Int}{x2:Int}(w1:(Lit.int .u8 x1).wf=true)(w2:(Lit.int .u8 x2).wf=true)(W:World)(h0:V (rdG W) W (at' x0) v0)(h1:V (rdG W) W (.val (.int .u8 x1)) v1)(h2:V (rdG W) W (.val (.int .u8 x2)) v2) :
  Calls Tryz.prog 5 #[v0,v1,v2] W fun e W'=>e = .returned (.bool true)∧Below W.heap.size W W':=by
 refine((zEz x0 x1 x2 w1 w2).1 (rdG W) W #[v0,v1,v2] (zQm W) (zSD W) (by simp only[VL,and_true];exact⟨h0,h1,h2⟩)).mono ?_
 rintro e W' ⟨u,G',s',rfl,hE,hR,hv,-⟩
 simp only[V]at hv
 subst hv
 have hb:=hR.below
 rw[hE.F,hE.w0]at hb
 exact⟨rfl,⟨hb.os,hb.tape,hb.output,hb.size,hb.block⟩⟩
set_option maxRecDepth 100000 in
theorem I0(os:Os)(started:os.Started)(H:Type)(enc:TypeId×Value->H) :
  ReturnsInHanded {} Tryz.checked os 5 .any (Rows.dataFuelSpec.pre6 enc Tryz.prog Tryz.f5 Rows.dataFuelRow.domain false) (Rows.dataFuelSpec.post enc Tryz.prog Tryz.f5 false true false false):=by
 refine returnsInHanded_of_change (C:=Tryz.checked) own started (by kernel_rfl) Tryz.func5
  (ChangeSpec.witness6 (enc:=enc) (C:=Tryz.checked) false ⟨#[],#[.string ByteArray.empty,.int .u8 0,.int .u8 0],[]⟩ 8 (by kernel_rfl) (by kernel_rfl) (by kernel_rfl) (by kernel_rfl)) ?_
 intro W base args ds gs before hval0 hW hcnd _
 have hval:∀(j:Nat) t v,Tryz.f5.params[j]? = some t->args[j]? = some v->Value.okWide Tryz.prog W .any base t v:=hval0
 have hW':=hW
 obtain⟨p,q,hA0,hV,rfl,hfz,hnd⟩:=hW
 have hA:DataW.TrodAll enc Tryz.prog W 0 (fun _=>true) true Tryz.f5.params.toList args.toList ds p:=hA0
 rw[Tryz.params5]at hA hval
 obtain⟨v0,v1,v2,d0,d1,d2,p0,p1,p2,rfl,rfl,rfl,h0,h1,h2⟩:=trodAll_three hA
 obtain⟨rfl,rfl⟩:=trodVars_none hV
 obtain⟨x0,rfl⟩:=okWide_string Tryz.underlying9 (hval 0 9 _ rfl rfl)
 obtain⟨x1,rfl,-,-,w1⟩:=open_int Tryz.underlying5 (hval 1 5 _ rfl rfl) h1
 obtain⟨x2,rfl,-,-,w2⟩:=open_int Tryz.underlying5 (hval 2 5 _ rfl rfl) h2
 clear hA0 hval0
 simp only[List.append_nil]at hW'
 have hlt:∀y∈p0++p1++p2,y.block<W.heap.size:=fun y hy=>by simpa using hW'.lt y (by simpa using hy)
 refine(W1 w1 w2 W (by simp only[V];rfl) (by simp only[V]) (by simp only[V])).mono fun e W' ⟨he,hn⟩=>?_
 subst he
 have k0:=Below.trod zAp (by kernel_rfl) (of_decide_eq_true (by kernel_rfl)) h0 hn fun y hy=>hlt y (by simp[hy])
 have k1:=Below.trod zAp (by kernel_rfl) (of_decide_eq_true (by kernel_rfl)) h1 hn fun y hy=>hlt y (by simp[hy])
 have k2:=Below.trod zAp (by kernel_rfl) (of_decide_eq_true (by kernel_rfl)) h2 hn fun y hy=>hlt y (by simp[hy])
 exact⟨_,rfl,_,_,_,[],_,[],hW',trodAll_mk1 zHO,trodAll_mk3 k0 k1 k2,rfl,hn.frame _,fun h=>by cases h⟩
set_option maxRecDepth 100000 in
theorem I1:joinedFacts Tryz.pinned.checked.prog 5 Tryz.f5 Rows.dataFuelSpec Rows.dataFuelRow=true:=by
 unfold joinedFacts
 exact(sF (sF (sF (sF (sF (sF (sF (sF (sF (sF (sF (sF (sF (sF (sF (sF (sF (sF (sF (sF (sF (sF (sF (sF (sF (sF (sF (sF (sF (sF (sF V5 zUh) zUg) V6) V7) V8) zUf) V9) zUe) W0) F7) F8) F9) G3) G5) G6) G7) G8) G9) H2) H3) H4) zSE) H5) zSF) zSG) zSH) zSI) H6) H7) H8) H9)
theorem dataFuel_holds:Rows.DataFuelSaid:=
 OpenClaim.holds_of_wide 5 Tryz.f5 rfl rfl rfl rfl rfl rfl rfl ⟨rfl,rfl,rfl,rfl,rfl⟩ rfl rfl rfl rfl rfl (by kernel_rfl) Tryz.func5 I1
  (of_decide_eq_true (by kernel_rfl)) (by unfold Func.isWrapper;first | (rw[if_pos (by decide +kernel)];kernel_rfl) | (rw[if_neg (by decide +kernel)];exact⟨rfl,rfl⟩))
  (fun os started H enc _=>I0 os started H enc)
#print axioms dataFuel_holds
end Go.Proofs.YthncchbcdpbgaaaGreat
