/- DefineK: for every input the law returns true; the arguments read as they did. No condition. -/
import Derived.SizedLaws
import Derived.Test.YthncfoeaibgmnaaGreatAbB8
set_option linter.unusedVariables false
set_option linter.unusedSimpArgs false
set_option linter.unusedSectionVars false
namespace Go.Proofs.YthncfoeaibgmnaaGreat
open Go.Ab Go.ChangeShapes Go.WideShapes Go.ChangeAt Go.RowKit
theorem S3{v0:Value}{x0:Int}(w0:(Lit.int .u8 x0).wf=true)(W:World)(h0:V (rdG W) W (.val (.int .u8 x0)) v0) :
  Calls Tryz.prog 3 #[v0] W fun e W'=>e = .returned (.bool true)∧Below W.heap.size W W':=by
 refine((zDC x0 w0).1 (rdG W) W #[v0] (zNE W) (zRR W) (by simp only[VL,and_true];exact h0)).mono ?_
 rintro e W' ⟨u,G',s',rfl,hE,hR,hv,-⟩
 simp only[V]at hv
 subst hv
 have hb:=hR.below
 rw[hE.F,hE.w0]at hb
 exact⟨rfl,⟨hb.os,hb.tape,hb.output,hb.size,hb.block⟩⟩
set_option maxRecDepth 100000 in
theorem Q0(os:Os)(started:os.Started)(H:Type)(enc:TypeId×Value->H) :
  ReturnsInHanded {} Tryz.checked os 3 .any (Rows.defineKSpec.pre6 enc Tryz.prog Tryz.f3 Rows.defineKRow.domain false) (Rows.defineKSpec.post enc Tryz.prog Tryz.f3 false true false false):=by
 refine returnsInHanded_of_change (C:=Tryz.checked) own started (by kernel_rfl) Tryz.func3
  (ChangeSpec.witness6 (enc:=enc) (C:=Tryz.checked) false ⟨#[],#[.int .u8 0],[]⟩ 8 (by kernel_rfl) (by kernel_rfl) (by kernel_rfl) (by kernel_rfl)) ?_
 intro W base args ds gs before hval0 hW hcnd _
 have hval:∀(j:Nat) t v,Tryz.f3.params[j]? = some t->args[j]? = some v->Value.okWide Tryz.prog W .any base t v:=hval0
 have hW':=hW
 obtain⟨p,q,hA0,hV,rfl,hfz,hnd⟩:=hW
 have hA:DataW.TrodAll enc Tryz.prog W 0 (fun _=>true) true Tryz.f3.params.toList args.toList ds p:=hA0
 rw[Tryz.params3]at hA hval
 obtain⟨v0,d0,rfl,rfl,h0⟩:=trodAll_one hA
 obtain⟨rfl,rfl⟩:=trodVars_none hV
 obtain⟨x0,rfl,-,-,w0⟩:=open_int Tryz.underlying5 (hval 0 5 _ rfl rfl) h0
 clear hA0 hval0
 simp only[List.append_nil]at hW'
 have hlt:∀y∈p,y.block<W.heap.size:=fun y hy=>by simpa using hW'.lt y (by simpa using hy)
 refine(S3 w0 W (by simp only[V])).mono fun e W' ⟨he,hn⟩=>?_
 subst he
 have k0:=Below.trod zKp (by kernel_rfl) (of_decide_eq_true (by kernel_rfl)) h0 hn fun y hy=>hlt y (by simp[hy])
 exact⟨_,rfl,_,_,_,[],_,[],hW',trodAll_mk1 zFy,trodAll_mk1 k0,rfl,hn.frame _,fun h=>by cases h⟩
set_option maxRecDepth 100000 in
theorem Q1:joinedFacts Tryz.pinned.checked.prog 3 Tryz.f3 Rows.defineKSpec Rows.defineKRow=true:=by
 unfold joinedFacts
 exact(tO (tO (tO (tO (tO (tO (tO (tO (tO (tO (tO (tO (tO (tO (tO (tO (tO (tO (tO (tO (tO (tO (tO (tO (tO (tO (tO (tO (tO (tO (tO R7 zVF) zVG) R8) R9) S0) zVH) S1) zVI) S2) O3) O4) O5) O6) O7) O8) O9) P0) P1) P2) P3) P4) zRS) P5) zRT) zRU) zRV) zRW) P6) P7) P8) P9)
theorem defineK_holds:Rows.DefineKSaid:=
 OpenClaim.holds_of_wide 3 Tryz.f3 rfl rfl rfl rfl rfl rfl rfl ⟨rfl,rfl,rfl,rfl,rfl⟩ rfl rfl rfl rfl rfl (by kernel_rfl) Tryz.func3 Q1
  (of_decide_eq_true (by kernel_rfl)) (by unfold Func.isWrapper;first | (rw[if_pos (by decide +kernel)];kernel_rfl) | (rw[if_neg (by decide +kernel)];exact⟨rfl,rfl⟩))
  (fun os started H enc _=>Q0 os started H enc)
#print axioms defineK_holds
end Go.Proofs.YthncfoeaibgmnaaGreat
