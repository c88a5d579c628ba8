/- SplitLeft: for every input the law returns true; the arguments read as they did. No condition. -/
import Derived.SizedLaws
import Derived.Test.YtfbkefchjcocmaaGreatAbB8
set_option linter.unusedVariables false
set_option linter.unusedSimpArgs false
set_option linter.unusedSectionVars false
namespace Go.Proofs.YtfbkefchjcocmaaGreat
open Go.Ab Go.ChangeShapes Go.WideShapes Go.ChangeAt Go.RowKit
theorem M5{v0 v1 v2:Value}{x0:List Ent}{x1:List zD}{x2:Int}(w0:∀e∈x0,RdE e)(w1:(∀e∈x1,e.type_.Ok)∧x1.length≤17592186044416)(w2:(Lit.int .i64 x2).wf=true)(W:World)(h0:V (rdG W) W (.sl (zK yP x0) x0.length .no) v0)(h1:V (rdG W) W (.sl (zK zJ x1) x1.length .no) v1)(h2:V (rdG W) W (.val (.int .i64 x2)) v2) :
  Calls Tryz.prog 6 #[v0,v1,v2] W fun e W'=>e = .returned (.bool true)∧Below W.heap.size W W':=by
 refine((zBU x0 x1 x2 w0 w1 w2).1 (rdG W) W #[v0,v1,v2] (zPt W) (zSf W) (by simp only[VL,and_true];exact⟨h0,h1,h2⟩)).mono ?_
 rintro e W' ⟨u,G',s',rfl,hE,hR,hv,-⟩
 simp only[V]at hv
 subst hv
 have hb:=hR.below
 rw[hE.F,hE.w0]at hb
 exact⟨rfl,⟨hb.os,hb.tape,hb.output,hb.size,hb.block⟩⟩
set_option maxRecDepth 100000 in
theorem J3(os:Os)(started:os.Started)(H:Type)(enc:TypeId×Value->H) :
  ReturnsInHanded {} Tryz.checked os 6 .any (Rows.splitLeftSpec.pre6 enc Tryz.prog Tryz.f6 Rows.splitLeftRow.domain false) (Rows.splitLeftSpec.post enc Tryz.prog Tryz.f6 false true false false):=by
 refine returnsInHanded_of_change_sized (C:=Tryz.checked) own started (by kernel_rfl) Tryz.func6
  (ChangeSpec.witness6 (enc:=enc) (C:=Tryz.checked) false ⟨#[],#[.slice none 0 0,.slice none 0 0,.int .i64 0],[]⟩ 8 (by kernel_rfl) (by kernel_rfl) (by kernel_rfl) (by kernel_rfl)) ?_
 intro W base args ds gs before hval0 hW hcnd hsz _
 have hval:∀(j:Nat) t v,Tryz.f6.params[j]? = some t->args[j]? = some v->Value.okWide Tryz.prog W .any base t v:=hval0
 have hW':=hW
 obtain⟨p,q,hA0,hV,rfl,hfz,hnd⟩:=hW
 have hA:DataW.TrodAll enc Tryz.prog W 0 (fun _=>true) true Tryz.f6.params.toList args.toList ds p:=hA0
 rw[Tryz.params6]at hA hval hsz
 obtain⟨v0,v1,v2,d0,d1,d2,p0,p1,p2,rfl,rfl,rfl,h0,h1,h2⟩:=trodAll_three hA
 obtain⟨rfl,rfl⟩:=trodVars_none hV
 obtain⟨x0,r0,w0⟩:=zPr (okWide_slice Tryz.underlying22 (hval 0 22 v0 rfl rfl)) h0 (fun w hw=>of_decide_eq_true (List.all_eq_true.1 hsz w (M8 _ _ 0 22 d0 rfl rfl w hw)))
 obtain⟨x1,r1,w1⟩:=zRm (okWide_slice Tryz.underlying23 (hval 1 23 v1 rfl rfl)) h1 (fun w hw=>of_decide_eq_true (List.all_eq_true.1 hsz w (M8 _ _ 1 23 d1 rfl rfl w hw)))
 obtain⟨x2,rfl,-,-,w2⟩:=open_int Tryz.underlying3 (hval 2 3 _ rfl rfl) h2
 clear hA0 hval0
 simp only[List.append_nil]at hW'
 have hlt:∀y∈p0++p1++p2,y.block<W.heap.size:=fun y hy=>by simpa using hW'.lt y (by simpa using hy)
 refine(M5 w0 w1 w2 W r0 r1 (by simp only[V])).mono fun e W' ⟨he,hn⟩=>?_
 subst he
 have k0:=Below.trod zAE (by kernel_rfl) (of_decide_eq_true (by kernel_rfl)) h0 hn fun y hy=>hlt y (by simp[hy])
 have k1:=Below.trod zAE (by kernel_rfl) (of_decide_eq_true (by kernel_rfl)) h1 hn fun y hy=>hlt y (by simp[hy])
 have k2:=Below.trod zAE (by kernel_rfl) (of_decide_eq_true (by kernel_rfl)) h2 hn fun y hy=>hlt y (by simp[hy])
 exact⟨_,rfl,_,_,_,[],_,[],hW',trodAll_mk1 zIK,trodAll_mk3 k0 k1 k2,rfl,hn.frame _,fun h=>by cases h⟩
set_option maxRecDepth 100000 in
theorem J4:joinedFacts Tryz.pinned.checked.prog 6 Tryz.f6 Rows.splitLeftSpec Rows.splitLeftRow=true:=by
 unfold joinedFacts
 exact(rF (rF (rF (rF (rF (rF (rF (rF (rF (rF (rF (rF (rF (rF (rF (rF (rF (rF (rF (rF (rF (rF (rF (rF (rF (rF (rF (rF (rF (rF (rF L9 zWi) zWh) M0) M1) M2) zWg) M3) zWf) M4) H6) H7) H8) H9) I0) I1) I2) I3) I4) I5) I6) I7) zUx) I8) zUw) zUv) zUu) zUt) I9) J0) J1) J2)
theorem splitLeft_holds:Rows.SplitLeftSaid:=
 OpenClaim.holds_of_wide 6 Tryz.f6 rfl rfl rfl rfl rfl rfl rfl ⟨rfl,rfl,rfl,rfl,rfl⟩ rfl rfl rfl rfl rfl (by kernel_rfl) Tryz.func6 J4
  (of_decide_eq_true (by kernel_rfl)) (by unfold Func.isWrapper;first | (rw[if_pos (by decide +kernel)];kernel_rfl) | (rw[if_neg (by decide +kernel)];exact⟨rfl,rfl⟩))
  (fun os started H enc _=>J3 os started H enc)
#print axioms splitLeft_holds
end Go.Proofs.YtfbkefchjcocmaaGreat
