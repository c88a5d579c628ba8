/- Parts of the proof that the law returns true: walks of the functions, plain laws. -/
import Derived.KernelRfl
import Derived.Test.YtfbkefchjcocmaaGreatAbB5
set_option linter.unusedVariables false
set_option linter.unusedSimpArgs false
set_option linter.unusedSectionVars false
namespace Go.Proofs.YtfbkefchjcocmaaGreat
open Go Go.Ab
def C1(qq:Nat)(q0 q1:List Ent)(q2:List yX)(q3 q4:List Int)(q5 q6:Int)(q7:List zD)(q8:List zH)(q9 q10 q11:Nat)(q12:Bool)(q13:List zD)(q14:List zI)(q15 q16:Nat)(q17:List Int)(q18:Bool)(q19:Int):Option ((List zD×List zH×Nat×Nat×Nat×List zI×Nat×Nat×List Int×Bool×Int×Int×Int) ⊕ ((List zD×List zH×Nat×Nat×Nat×List zI×Nat×Nat×List Int×Int×Int×Int) ⊕ ((List zD×List zH×Nat×Nat×Nat×List zI×List Int×Bool×Int×Int×Int) ⊕ (List zD×List zH×List zI×Nat×Nat×List Int×Bool×Int×Int×Int×List zH)))):=
 nT q9 0>>=fun x1=>
 zS q8 ((q10+x1):Int)>>=fun x3=>
 mQ q9 1 (q9:Int)>>=fun x5=>
 e98 qq q5 q6>>=fun r7=>
 if r7.1 != 0 then
 some (.inl (q7,q8,x5.2,(q10+x5.1),(q11-x5.1),q14,q15,q16,q17,q18,r7.1,r7.2.1,r7.2.2))
 else
 zBe qq (yY.mk q0 q1 q2 q3 q4) x3.a_ r7.2.1 r7.2.2>>=fun r10=>
 pZ qq q0 q1 q2 q3 q4 r10.2.2.1 r10.2.2.2 q7 q8 x5.2 (q10+x5.1) (q11-x5.1) q12 q13 q14 q15 q16 q17 q18 q19 r10.1 r10.2.1>>=fun r12=>
 if r12.2 != 0 then
 some (.inl (q7,q8,x5.2,(q10+x5.1),(q11-x5.1),q14,q15,q16,q17,q18,r12.2,r10.2.2.1,r10.2.2.2))
 else
 zBe qq (yY.mk q0 q1 q2 q3 q4) x3.b_ r10.2.2.1 r10.2.2.2>>=fun r15=>
 pZ qq q0 q1 q2 q3 q4 r15.2.2.1 r15.2.2.2 q7 q8 x5.2 (q10+x5.1) (q11-x5.1) q12 q13 q14 q15 q16 q17 q18 r12.2 r15.1 r15.2.1>>=fun r17=>
 if r17.2 != 0 then
 some (.inl (q7,q8,x5.2,(q10+x5.1),(q11-x5.1),q14,q15,q16,q17,q18,r17.2,r15.2.2.1,r15.2.2.2))
 else
 lY qq q0 q1 q2 q3 q4 r15.2.2.1 r15.2.2.2 q7 q8 x5.2 (q10+x5.1) (q11-x5.1) q12 q13 q14 q15 q16 q17 q18 r17.2 r12.1>>=fun r20=>
 lY qq q0 q1 q2 q3 q4 r15.2.2.1 r15.2.2.2 q7 q8 x5.2 (q10+x5.1) (q11-x5.1) q12 q13 q14 q15 q16 q17 q18 r17.2 r17.1>>=fun r22=>
 if decide (r20≥0)then
 if r20==r22 then
 some (.inl (q7,q8,x5.2,(q10+x5.1),(q11-x5.1),q14,q15,q16,q17,q18,12,r15.2.2.1,r15.2.2.2))
 else
 lU qq q0 q1 q2 q3 q4 r15.2.2.1 r15.2.2.2 q7 q8 x5.2 (q10+x5.1) (q11-x5.1) q12 q13 q14 q15 q16 q17 q18 r17.2 r20 r17.1>>=fun r26=>
 match r26 with
 | .inl y28=>
  some (.inr (.inl (y28.1,y28.2.2.2.2.2.2,x5.2,(q10+x5.1),(q11-x5.1),y28.2.1,y28.2.2.1,y28.2.2.2.1,y28.2.2.2.2.1,y28.2.2.2.2.2.1,r15.2.2.1,r15.2.2.2)))
 | .inr (.inl y29)=>
  some (.inl (y29.1,y29.2.2.2.2.2.2.2,x5.2,(q10+x5.1),(q11-x5.1),y29.2.1,y29.2.2.1,y29.2.2.2.1,y29.2.2.2.2.1,y29.2.2.2.2.2.1,y29.2.2.2.2.2.2.1,r15.2.2.1,r15.2.2.2))
 | .inr (.inr y30)=>
  some (.inr (.inr (.inl (y30.1,y30.2.2.2.2.2,x5.2,(q10+x5.1),(q11-x5.1),y30.2.1,y30.2.2.1,y30.2.2.2.1,y30.2.2.2.2.1,r15.2.2.1,r15.2.2.2))))
 else
 if decide (r22≥0)then
 lU qq q0 q1 q2 q3 q4 r15.2.2.1 r15.2.2.2 q7 q8 x5.2 (q10+x5.1) (q11-x5.1) q12 q13 q14 q15 q16 q17 q18 r17.2 r22 r12.1>>=fun r32=>
 match r32 with
 | .inl y34=>
  some (.inr (.inl (y34.1,y34.2.2.2.2.2.2,x5.2,(q10+x5.1),(q11-x5.1),y34.2.1,y34.2.2.1,y34.2.2.2.1,y34.2.2.2.2.1,y34.2.2.2.2.2.1,r15.2.2.1,r15.2.2.2)))
 | .inr (.inl y35)=>
  some (.inl (y35.1,y35.2.2.2.2.2.2.2,x5.2,(q10+x5.1),(q11-x5.1),y35.2.1,y35.2.2.1,y35.2.2.2.1,y35.2.2.2.2.1,y35.2.2.2.2.2.1,y35.2.2.2.2.2.2.1,r15.2.2.1,r15.2.2.2))
 | .inr (.inr y36)=>
  some (.inr (.inr (.inl (y36.1,y36.2.2.2.2.2,x5.2,(q10+x5.1),(q11-x5.1),y36.2.1,y36.2.2.1,y36.2.2.2.1,y36.2.2.2.2.1,r15.2.2.1,r15.2.2.2))))
 else
 fC qq q0 q1 q2 q3 q4 r15.2.2.1 r15.2.2.2 q7 q8 x5.2 (q10+x5.1) (q11-x5.1) q12 q13 q14 q15 q16 q17 q18 r17.2 (zH.mk r12.1 r17.1)>>=fun r37=>
 match r37 with
 | .inl y39=>
  some (.inl (q7,q8,y39.2.1,y39.2.2.1,y39.2.2.2.1,q14,q15,q16,y39.2.2.2.2.1,y39.2.2.2.2.2.1,y39.2.2.2.2.2.2.1,y39.2.2.2.2.2.2.2.1,y39.2.2.2.2.2.2.2.2))
 | .inr (.inl y40)=>
  some (.inr (.inl (q7,q8,y40.2.1,y40.2.2.1,y40.2.2.2.1,q14,q15,q16,y40.2.2.2.2.1,y40.2.2.2.2.2.1,y40.2.2.2.2.2.2.1,y40.2.2.2.2.2.2.2)))
 | .inr (.inr y41)=>
  some (.inr (.inr (.inr (q7,y41.1,q14,q15,q16,y41.2.1,y41.2.2.1,y41.2.2.2.1,y41.2.2.2.2.1,y41.2.2.2.2.2,q8))))
section
variable (q0 q1:List Ent) (q2:List yX) (q3 q4:List Int) (q5 q6:Int) (q7:List zD) (q8:List zH) (q9 q10 q11:Nat) (q12:Bool) (q13:List zD) (q14:List zI) (q15 q16:Nat) (q17:List Int) (q18:Bool) (q19:Int)
abbrev G7 (r:List zD×List zH×Nat×Nat×Nat×List zI×Nat×Nat×List Int×Bool×Int×Int×Int) (C:Cf):Prop:=C 65 [.cells [.mp 1 0,.mp 3 0,slv zJ q7 .no,.ms 4 (q10*6) q9 q11 6,ab q12,.ms 5 0 q13.length q13.length 4,.ms 6 0 q15 q16 4,.ms 7 0 q17.length q17.length 1,ab q18,ai q19],qB q0 2 q3 q4,qR q1 q2,.cells [ai q5,ai q6],.row (zK zP q8),.row (zK zJ q13),.row (zK zO q14),.row (zK yB q17)] [.mp 0 0] (.tup []) [.cells [.mp 1 0,.mp 3 0,slv zJ r.1 .no,.ms 4 (r.2.2.2.1*6) r.2.2.1 r.2.2.2.2.1 6,ab q12,.ms 5 0 q13.length q13.length 4,.ms 8 0 r.2.2.2.2.2.2.1 r.2.2.2.2.2.2.2.1 4,.ms 9 0 r.2.2.2.2.2.2.2.2.1.length r.2.2.2.2.2.2.2.2.1.length 1,ab r.2.2.2.2.2.2.2.2.2.1,ai r.2.2.2.2.2.2.2.2.2.2.1],qB q0 2 q3 q4,qR q1 q2,.cells [ai r.2.2.2.2.2.2.2.2.2.2.2.1,ai r.2.2.2.2.2.2.2.2.2.2.2.2],.row (zK zP r.2.1),.row (zK zJ q13),.dead,.dead,.row (zK zO r.2.2.2.2.2.1),.row (zK yB r.2.2.2.2.2.2.2.2.1)] 0
abbrev G8 (r:List zD×List zH×Nat×Nat×Nat×List zI×Nat×Nat×List Int×Int×Int×Int) (C:Cf):Prop:=C 65 [.cells [.mp 1 0,.mp 3 0,slv zJ q7 .no,.ms 4 (q10*6) q9 q11 6,ab q12,.ms 5 0 q13.length q13.length 4,.ms 6 0 q15 q16 4,.ms 7 0 q17.length q17.length 1,ab q18,ai q19],qB q0 2 q3 q4,qR q1 q2,.cells [ai q5,ai q6],.row (zK zP q8),.row (zK zJ q13),.row (zK zO q14),.row (zK yB q17)] [.mp 0 0] (.tup []) [.cells [.mp 1 0,.mp 3 0,slv zJ r.1 .no,.ms 4 (r.2.2.2.1*6) r.2.2.1 r.2.2.2.2.1 6,ab q12,.ms 5 0 q13.length q13.length 4,.ms 8 0 r.2.2.2.2.2.2.1 r.2.2.2.2.2.2.2.1 4,.ms 9 0 r.2.2.2.2.2.2.2.2.1.length r.2.2.2.2.2.2.2.2.1.length 1,ab true,ai r.2.2.2.2.2.2.2.2.2.1],qB q0 2 q3 q4,qR q1 q2,.cells [ai r.2.2.2.2.2.2.2.2.2.2.1,ai r.2.2.2.2.2.2.2.2.2.2.2],.row (zK zP r.2.1),.row (zK zJ q13),.dead,.dead,.row (zK zO r.2.2.2.2.2.1),.row (zK yB r.2.2.2.2.2.2.2.2.1)] 0
abbrev G9 (r:List zD×List zH×Nat×Nat×Nat×List zI×List Int×Bool×Int×Int×Int) (C:Cf):Prop:=C 65 [.cells [.mp 1 0,.mp 3 0,slv zJ q7 .no,.ms 4 (q10*6) q9 q11 6,ab q12,.ms 5 0 q13.length q13.length 4,.ms 6 0 q15 q16 4,.ms 7 0 q17.length q17.length 1,ab q18,ai q19],qB q0 2 q3 q4,qR q1 q2,.cells [ai q5,ai q6],.row (zK zP q8),.row (zK zJ q13),.row (zK zO q14),.row (zK yB q17)] [.mp 0 0] (.tup []) [.cells [.mp 1 0,.mp 3 0,slv zJ r.1 .no,.ms 4 (r.2.2.2.1*6) r.2.2.1 r.2.2.2.2.1 6,ab q12,.ms 5 0 q13.length q13.length 4,.ms 8 0 r.2.2.2.2.2.1.length r.2.2.2.2.2.1.length 4,.ms 9 0 r.2.2.2.2.2.2.1.length r.2.2.2.2.2.2.1.length 1,ab r.2.2.2.2.2.2.2.1,ai r.2.2.2.2.2.2.2.2.1],qB q0 2 q3 q4,qR q1 q2,.cells [ai r.2.2.2.2.2.2.2.2.2.1,ai r.2.2.2.2.2.2.2.2.2.2],.row (zK zP r.2.1),.row (zK zJ q13),.dead,.dead,.row (zK zO r.2.2.2.2.2.1),.row (zK yB r.2.2.2.2.2.2.1)] 0
abbrev zKb (r:List zD×List zH×List zI×Nat×Nat×List Int×Bool×Int×Int×Int×List zH) (C:Cf):Prop:=C 65 [.cells [.mp 1 0,.mp 3 0,slv zJ q7 .no,.ms 4 (q10*6) q9 q11 6,ab q12,.ms 5 0 q13.length q13.length 4,.ms 6 0 q15 q16 4,.ms 7 0 q17.length q17.length 1,ab q18,ai q19],qB q0 2 q3 q4,qR q1 q2,.cells [ai q5,ai q6],.row (zK zP q8),.row (zK zJ q13),.row (zK zO q14),.row (zK yB q17)] [.mp 0 0] (.tup []) [.cells [.mp 1 0,.mp 3 0,slv zJ r.1 .no,.ms 8 0 r.2.1.length r.2.1.length 6,ab q12,.ms 5 0 q13.length q13.length 4,.ms 9 0 r.2.2.2.1 r.2.2.2.2.1 4,.ms 10 0 r.2.2.2.2.2.1.length r.2.2.2.2.2.1.length 1,ab r.2.2.2.2.2.2.1,ai r.2.2.2.2.2.2.2.1],qB q0 2 q3 q4,qR q1 q2,.cells [ai r.2.2.2.2.2.2.2.2.1,ai r.2.2.2.2.2.2.2.2.2.1],.row (zK zP r.2.2.2.2.2.2.2.2.2.2),.row (zK zJ q13),.dead,.dead,.row (zK zP r.2.1),.row (zK zO r.2.2.1),.row (zK yB r.2.2.2.2.2.1)] 0
end
theorem sT:Qf 65 Tryz.f65:=⟨Tryz.func65,rfl⟩
theorem qX{q0 q1 q2 q3 q4 q5 q6 q7 q8 q9 q10 q11 q12 q13 q14 q15 q16 q17 q18 q19 r}(h:G7 q0 q1 q2 q3 q4 q5 q6 q7 q8 q9 q10 q11 q12 q13 q14 q15 q16 q17 q18 q19 r Ci):G7 q0 q1 q2 q3 q4 q5 q6 q7 q8 q9 q10 q11 q12 q13 q14 q15 q16 q17 q18 q19 r Ct:=⟨h,⟨(lz rfl),tv⟩,(zA ⟨(lz rfl),(lz rfl),⟨tv,zF _⟩,(lz rfl),tv,(lz rfl),(lz rfl),(lz rfl),tv,tv,tv⟩ (fMa (lz rfl) (zA ⟨tv,tv,tv⟩ (zA (zN _) (zA (zF _) (zA (zM _) (zA (dI _) zB))))))),tv,(zA ⟨(lz rfl),(lz rfl),zF _,(lz rfl),tv,(lz rfl),(lz rfl),(lz rfl),tv,tv,tv⟩ (fMf (lz rfl) (zA ⟨tv,tv,tv⟩ (zA (zN _) (zA (zF _) (zA tv (zA tv (zA (zM _) (zA (dI _) zB)))))))))⟩
theorem H2{q0 q1 q2 q3 q4 q5 q6 q7 q8 q9 q10 q11 q12 q13 q14 q15 q16 q17 q18 q19 r}(h:G8 q0 q1 q2 q3 q4 q5 q6 q7 q8 q9 q10 q11 q12 q13 q14 q15 q16 q17 q18 q19 r Ci):G8 q0 q1 q2 q3 q4 q5 q6 q7 q8 q9 q10 q11 q12 q13 q14 q15 q16 q17 q18 q19 r Ct:=⟨h,⟨(lz rfl),tv⟩,(zA ⟨(lz rfl),(lz rfl),⟨tv,zF _⟩,(lz rfl),tv,(lz rfl),(lz rfl),(lz rfl),tv,tv,tv⟩ (fMa (lz rfl) (zA ⟨tv,tv,tv⟩ (zA (zN _) (zA (zF _) (zA (zM _) (zA (dI _) zB))))))),tv,(zA ⟨(lz rfl),(lz rfl),zF _,(lz rfl),tv,(lz rfl),(lz rfl),(lz rfl),tv,tv,tv⟩ (fMf (lz rfl) (zA ⟨tv,tv,tv⟩ (zA (zN _) (zA (zF _) (zA tv (zA tv (zA (zM _) (zA (dI _) zB)))))))))⟩
theorem zAw{q0 q1 q2 q3 q4 q5 q6 q7 q8 q9 q10 q11 q12 q13 q14 q15 q16 q17 q18 q19 r}(h:G9 q0 q1 q2 q3 q4 q5 q6 q7 q8 q9 q10 q11 q12 q13 q14 q15 q16 q17 q18 q19 r Ci):G9 q0 q1 q2 q3 q4 q5 q6 q7 q8 q9 q10 q11 q12 q13 q14 q15 q16 q17 q18 q19 r Ct:=⟨h,⟨(lz rfl),tv⟩,(zA ⟨(lz rfl),(lz rfl),⟨tv,zF _⟩,(lz rfl),tv,(lz rfl),(lz rfl),(lz rfl),tv,tv,tv⟩ (fMa (lz rfl) (zA ⟨tv,tv,tv⟩ (zA (zN _) (zA (zF _) (zA (zM _) (zA (dI _) zB))))))),tv,(zA ⟨(lz rfl),(lz rfl),zF _,(lz rfl),tv,(lz rfl),(lz rfl),(lz rfl),tv,tv,tv⟩ (fMf (lz rfl) (zA ⟨tv,tv,tv⟩ (zA (zN _) (zA (zF _) (zA tv (zA tv (zA (zM _) (zA (dI _) zB)))))))))⟩
theorem O9{qq q0 q1 q2 q3 q4 q5 q6 q7 q8 q9 q10 q11 q12 q13 q14 q15 q16 q17 q18 q19 r}(h:C1 qq q0 q1 q2 q3 q4 q5 q6 q7 q8 q9 q10 q11 q12 q13 q14 q15 q16 q17 q18 q19=some r):(match (generalizing:=false) r with | .inl x=>G7 q0 q1 q2 q3 q4 q5 q6 q7 q8 q9 q10 q11 q12 q13 q14 q15 q16 q17 q18 q19 x Ct | .inr (.inl x)=>G8 q0 q1 q2 q3 q4 q5 q6 q7 q8 q9 q10 q11 q12 q13 q14 q15 q16 q17 q18 q19 x Ct | .inr (.inr (.inl x))=>G9 q0 q1 q2 q3 q4 q5 q6 q7 q8 q9 q10 q11 q12 q13 q14 q15 q16 q17 q18 q19 x Ct | .inr (.inr (.inr x))=>zKb q0 q1 q2 q3 q4 q5 q6 q7 q8 q9 q10 q11 q12 q13 q14 q15 q16 q17 q18 q19 x Ct):=by
 unfold C1 at h
 have z {os ob} (k:Oz os ob):=oD (zM q14)<|oD (zF q13)<|oD (zN q8)<|oDm q0 q1 q2 q3 q4<|oD (zF q7)<|k
 obtain⟨x1,h2,h⟩:=zC h
 obtain⟨x3,h4,h⟩:=zC h
 obtain⟨x5,h6,h⟩:=zC h
 obtain⟨r7,h8,h⟩:=zC h
 have k:=oC 2 [3] (c98 h8)<|oA 2 (zFg (b:=4) (o:=q10) (c:=q11) h6)<|oG (a:=(.agg [ai x3.a_.k,ai x3.a_.n,slv zG x3.a_.sub .no,ai x3.b_.k,ai x3.b_.n,slv zG x3.b_.sub .no])) 0 (ldE wX h4 (true,6) (val:=.agg [ai x3.a_.k,ai x3.a_.n,slv zG x3.a_.sub .no,ai x3.b_.k,ai x3.b_.n,slv zG x3.b_.sub .no]) rfl)<|oA 1 (zFh (b:=4) (o:=q10) (c:=q11) (z:=6) h2) o0
 obtain⟨h9,h⟩|⟨h9,h⟩:=spl h
 cases h
 exact qX (tG sT 1 [(some 6,0,0),(some 7,0,0)] [0,1,2,3,4,5,6,7,9,10] [] false (oD (dI q17)<|z<|oB 0 h9 k))
 obtain⟨r10,h11,h⟩:=zC h
 obtain⟨r12,h13,h⟩:=zC h
 have k:=oC 2 [0,1,2,3,4,5,6,7] (B8 h13)<|oC 3 [1,2,3] (zQE h11)<|oB 0 h9 k
 obtain⟨h14,h⟩|⟨h14,h⟩:=spl h
 cases h
 exact qX (tG sT 0 [(some 6,0,0),(some 7,0,0)] [0,1,2,3,4,5,6,7,9,10] [] false (oD (dI q17)<|z<|oB 2 h14 k))
 obtain⟨r15,h16,h⟩:=zC h
 obtain⟨r17,h18,h⟩:=zC h
 have k:=oC 2 [0,1,2,3,4,5,6,7] (B8 h18)<|oC 3 [1,2,3] (zQE h16)<|oB 2 h14 k
 obtain⟨h19,h⟩|⟨h19,h⟩:=spl h
 cases h
 exact qX (tG sT 0 [(some 6,0,0),(some 7,0,0)] [0,1,2,3,4,5,6,7,9,10] [] false (oD (dI q17)<|z<|oB 2 h19 k))
 obtain⟨r20,h21,h⟩:=zC h
 obtain⟨r22,h23,h⟩:=zC h
 have k:=oC 1 [0,1,2,3,4,5,6,7] (zEf h23)<|oC 1 [0,1,2,3,4,5,6,7] (zEf h21)<|oB 2 h19 k
 obtain⟨h24,h⟩|⟨h24,h⟩:=spl h
 have k:=oB 0 h24 k
 obtain⟨h25,h⟩|⟨h25,h⟩:=spl h
 cases h
 exact qX (tG sT 1 [(some 6,0,0),(some 7,0,0)] [0,1,2,3,4,5,6,7,9,10] [] false (oD (dI q17)<|z<|oB 0 h25 k))
 obtain⟨r26,h27,h⟩:=zC h
 have k:=oB 0 h24<|oB 0 h25 k
 rcases r26 with y28 | (y29|y30)
 dsimp only at h
 cases h
 exact H2 (tF sT 0 [0,1,2,3,4,5,6,7,9,10] (oD (dI y28.2.2.2.2.1)<|oD (zM y28.2.1)<|oD (zF q13)<|oD (zN y28.2.2.2.2.2.2)<|oDm q0 q1 q2 q3 q4<|oD (zF y28.1)<|oC 1 [0,1,2,3,4,5,6,7] (lV h27) k))
 dsimp only at h
 cases h
 exact qX (tF sT 0 [0,1,2,3,4,5,6,7,9,10] (oD (dI y29.2.2.2.2.1)<|oD (zM y29.2.1)<|oD (zF q13)<|oD (zN y29.2.2.2.2.2.2.2)<|oDm q0 q1 q2 q3 q4<|oD (zF y29.1)<|oC 1 [0,1,2,3,4,5,6,7] (lV h27) k))
 dsimp only at h
 cases h
 exact zAw (tF sT 0 [0,1,2,3,4,5,6,7,9,10] (oD (dI y30.2.2.1)<|oD (zM y30.2.1)<|oD (zF q13)<|oD (zN y30.2.2.2.2.2)<|oDm q0 q1 q2 q3 q4<|oD (zF y30.1)<|oC 1 [0,1,2,3,4,5,6,7] (lV h27) k))
 have k:=oB 0 h24<|oB 0 h24 k
 obtain⟨h31,h⟩|⟨h31,h⟩:=spl h
 obtain⟨r32,h33,h⟩:=zC h
 have k:=oB 0 h31 k
 rcases r32 with y34 | (y35|y36)
 dsimp only at h
 cases h
 exact H2 (tF sT 0 [0,1,2,3,4,5,6,7,9,10] (oD (dI y34.2.2.2.2.1)<|oD (zM y34.2.1)<|oD (zF q13)<|oD (zN y34.2.2.2.2.2.2)<|oDm q0 q1 q2 q3 q4<|oD (zF y34.1)<|oC 1 [0,1,2,3,4,5,6,7] (lV h33) k))
 dsimp only at h
 cases h
 exact qX (tF sT 0 [0,1,2,3,4,5,6,7,9,10] (oD (dI y35.2.2.2.2.1)<|oD (zM y35.2.1)<|oD (zF q13)<|oD (zN y35.2.2.2.2.2.2.2)<|oDm q0 q1 q2 q3 q4<|oD (zF y35.1)<|oC 1 [0,1,2,3,4,5,6,7] (lV h33) k))
 dsimp only at h
 cases h
 exact zAw (tF sT 0 [0,1,2,3,4,5,6,7,9,10] (oD (dI y36.2.2.1)<|oD (zM y36.2.1)<|oD (zF q13)<|oD (zN y36.2.2.2.2.2)<|oDm q0 q1 q2 q3 q4<|oD (zF y36.1)<|oC 1 [0,1,2,3,4,5,6,7] (lV h33) k))
 obtain⟨r37,h38,h⟩:=zC h
 have k:=oB 0 h31 k
 rcases r37 with y39 | (y40|y41)
 dsimp only at h
 cases h
 exact qX (tG sT 0 [(some 6,0,0)] [0,1,2,3,4,5,6,7,10,9] [] false (oD (dI y39.2.2.2.2.1)<|z<|oC 1 [0,1,2,3,4,5,6,7] (X7 h38) k))
 dsimp only at h
 cases h
 exact H2 (tG sT 0 [(some 6,0,0)] [0,1,2,3,4,5,6,7,10,9] [] false (oD (dI y40.2.2.2.2.1)<|z<|oC 1 [0,1,2,3,4,5,6,7] (X7 h38) k))
 dsimp only at h
 cases h
 exact⟨tG sT 0 [(some 6,0,0)] [0,1,2,3,4,5,6,7,9,11,10] [] false (oD (dI y41.2.1)<|oD (zM q14)<|oD (zN y41.1)<|oD (zF q13)<|oD (zN q8)<|oDm q0 q1 q2 q3 q4<|oD (zF q7)<|oC 1 [0,1,2,3,4,5,6,7] (X7 h38) k),⟨(lz rfl),tv⟩,(zA ⟨(lz rfl),(lz rfl),⟨tv,zF _⟩,(lz rfl),tv,(lz rfl),(lz rfl),(lz rfl),tv,tv,tv⟩ (fMa (lz rfl) (zA ⟨tv,tv,tv⟩ (zA (zN _) (zA (zF _) (zA (zM _) (zA (dI _) zB))))))),tv,(zA ⟨(lz rfl),(lz rfl),zF _,(lz rfl),tv,(lz rfl),(lz rfl),(lz rfl),tv,tv,tv⟩ (fMf (lz rfl) (zA ⟨tv,tv,tv⟩ (zA (zN _) (zA (zF _) (zA tv (zA tv (zA (zN _) (zA (zM _) (zA (dI _) zB))))))))))⟩
abbrev NxT:=(List zD×List zH×Nat×Nat×Nat×List zI×Nat×Nat×List Int×Bool×Int×Int×Int) ⊕ ((List zD×List zH×Nat×Nat×Nat×List zI×Nat×Nat×List Int×Int×Int×Int) ⊕ ((List zD×List zH×Nat×Nat×Nat×List zI×List Int×Bool×Int×Int×Int) ⊕ (List zD×List zH×List zI×Nat×Nat×List Int×Bool×Int×Int×Int×List zH)))
inductive NxR (l:List Ent) (c:List zD) (q8:List zH) (q9 q10:Nat) (so:List zI) (q15 q16:Nat) (q17:List Int) (q18:Bool) (L U:Int):NxT->Prop
 |err {c' q8' n o k so' a b s no e fl fu}:e≠0->NxR l c q8 q9 q10 so q15 q16 q17 q18 L U (.inl (c',q8',n,o,k,so',a,b,s,no,e,fl,fu))
 |no {c' q8' n o k so' a b s fl fu}:s.length=q17.length+1->0≤fl∧0≤fu∧fl+fu=L+U->Un l c ((q8.drop q10).take q9) so none->NxR l c q8 q9 q10 so q15 q16 q17 q18 L U (.inr (.inl (c',q8',n,o,k,so',a,b,s,0,fl,fu)))
 |sol {d row k so' n t s e fl fu}:s.length=q17.length+1->0≤fl->fl<L->0≤fu->fl+fu=L+U->row.length=q8.length->(∀x∈row,x.a_.Ok∧x.b_.Ok)->so'.length=so.length->(∀x∈so',x.t_.Ok)->zEy c n t d->t.Ok ->
   (e=0->(∀x∈(row.drop (q10+1)).take (q9-1),zL x.a_=true∧zL x.b_=true)∧∀r,Un l d ((row.drop (q10+1)).take (q9-1)) (so'++[⟨n,t⟩]) r->Un l c ((q8.drop q10).take q9) so r)->NxR l c q8 q9 q10 so q15 q16 q17 q18 L U (.inr (.inr (.inl (d,row,q9-1,q10+1,k,so'++[⟨n,t⟩],s,q18,e,fl,fu))))
 |inj {td s fl fu}:s.length=q17.length+1->0≤fl->fl<L->0≤fu->fl+fu=L+U->td.length≤q9+8192->(∀x∈td,zL x.a_=true∧zL x.b_=true) ->
   (∀r,Un l c td so r->Un l c ((q8.drop q10).take q9) so r)->NxR l c q8 q9 q10 so q15 q16 q17 q18 L U (.inr (.inr (.inr (c,td,so,q15,q16,s,q18,0,fl,fu,q8))))
theorem zKa{N:ByteArray->Bool}{l:List Ent}(hE:wS N l)(he:∀e∈l,EOk e)(hl:l.length≤65535)(hc:∀e∈l,ECl e)(L U:Int)(c:List zD)(q8:List zH)(q9 q10 q11:Nat)(q12:Bool)(q13:List zD)(so:List zI)(q15 q16:Nat)(q17:List Int)(q18:Bool)
  (h0:0≤L) (h1:0≤U) (h2:L+U≤1099511627776) (hpos:1≤q9) (hb:q10+q9≤q8.length) (h8:q8.length≤1048576000) (hok8:∀x∈q8,x.a_.Ok∧x.b_.Ok) (hok:∀x∈(q8.drop q10).take q9,zL x.a_=true∧zL x.b_=true) (hso:so.length=q15) (hso2:so.length≤1048576) (hsok:∀x∈so,x.t_.Ok) (hst:q17.length≤1048576) (hcl:c.length≤524288) (hco:∀v∈c,v.type_.Ok) :
  Tot (fun q=>C1 q l l (evA l l.length 0) (l.map xS) (l.map sD) L U c q8 q9 q10 q11 q12 q13 so q15 q16 q17 q18 0) (NxR l c q8 q9 q10 so q15 q16 q17 q18 L U):=by
 obtain⟨eq,heq⟩:∃x,q8[q10]? = some x:=⟨_,List.getElem?_eq_getElem (by omega)⟩
 have htd:(q8.drop q10).take q9=eq::(q8.drop (q10+1)).take (q9-1):=by
  obtain⟨m,rfl⟩:∃m,q9=m+1:=⟨q9-1,by omega⟩
  obtain⟨g1,g2⟩:=List.getElem?_eq_some_iff.1 heq
  rw[List.drop_eq_getElem_cons g1,g2,List.take_succ_cons];rfl
 have hsh:=hok eq (by rw[htd];exact List.mem_cons_self ..)
 have hrest:∀x∈(q8.drop (q10+1)).take (q9-1),zL x.a_=true∧zL x.b_=true:=fun x hx=>hok x (by rw[htd];exact List.mem_cons_of_mem _ hx)
 simp only[C1]
 refine Tot.pure (a:=0) (qG (v:=0) hpos) (Tot.pure (a:=eq) (vG (i:=q10+0) heq) (Tot.pure (a:=(1,q9-1)) (gU (a:=1) hpos (Nat.le_refl _)) (Tot.bind (P:=fun r=>r=if 1≤L then((0:Int),L-1,U+1)else(8,L,U)) ((A3 L U h0 h1 h2).tot rfl) fun r7 h7=>?_)))
 by_cases hL:1≤L
 ·rw[if_pos hL]at h7
  subst h7
  refine Tot.ite (fun h=>by cases h) fun _=>(cR hE he (zV hsh.1) (L-1) (U+1) (by omega) (by omega) (by omega)).bind fun r10 h10=>(gW l l _ _ _ _ _ c q8 _ _ _ q12 q13 so q15 q16 q17 q18 0 r10.1 r10.2.1).bind fun r12 h12=>?_
  have e12:=h12.2.2 rfl
  refine Tot.ite (fun h=>Tot.ret (.err (by simpa using h))) fun h=>?_
  have z12:r12.2=0:=by simpa using h
  obtain⟨k,k0,k1,hbr,hf1,hf2⟩:=h10 (by rw[←e12];exact z12)
  rw[z12,hf1,hf2,h12.1]
  have sa:=hbr.shaped hsh.1 rfl
  refine(cR hE he (zV hsh.2) (L-1-k) (U+1+k) (by omega) (by omega) (by omega)).bind fun r15 h15=>(gW l l _ _ _ _ _ c q8 _ _ _ q12 q13 so q15 q16 q17 q18 0 r15.1 r15.2.1).bind fun r17 h17=>?_
  have e17:=h17.2.2 rfl
  refine Tot.ite (fun h=>Tot.ret (.err (by simpa using h))) fun h=>?_
  have z17:r17.2=0:=by simpa using h
  obtain⟨j,j0,j1,hbs,hg1,hg2⟩:=h15 (by rw[←e17];exact z17)
  rw[z17,hg1,hg2,h17.1]
  have sb:=hbs.shaped hsh.2 rfl
  have fin:∀(n:Int) (t:Tm),zEx l c eq n t->zL t=true->∀x,zVP l c q8 (q9-1) (q10+1) so q15 q16 q17 q18 n t x->NxR l c q8 q9 q10 so q15 q16 q17 q18 L U (match x with
    | .inl y=>.inr (.inl (y.1,y.2.2.2.2.2.2,q9-1,q10+1,q11-1,y.2.1,y.2.2.1,y.2.2.2.1,y.2.2.2.2.1,y.2.2.2.2.2.1,L-1-k-j,U+1+k+j))
    | .inr (.inl y)=>.inl (y.1,y.2.2.2.2.2.2.2,q9-1,q10+1,q11-1,y.2.1,y.2.2.1,y.2.2.2.1,y.2.2.2.2.1,y.2.2.2.2.2.1,y.2.2.2.2.2.2.1,L-1-k-j,U+1+k+j)
    | .inr (.inr y)=>.inr (.inr (.inl (y.1,y.2.2.2.2.2,q9-1,q10+1,q11-1,y.2.1,y.2.2.1,y.2.2.2.1,y.2.2.2.2.1,L-1-k-j,U+1+k+j)))):=by
   intro n t hv hst' x hx
   rcases hx with⟨rfl,hB⟩|⟨e,e0,rfl⟩|⟨d,row,so',e,rfl,g1,g2,g3,g4,g5,g6,g7⟩
   ·exact .no (by simp) ⟨by show (0:Int)≤L-1-k-j;omega,by show (0:Int)≤U+1+k+j;omega,by show L-1-k-j+(U+1+k+j)=L+U;omega⟩ (by rw[htd];exact .cyc hv hB)
   ·exact .err e0
   ·refine .sol (by simp) (by omega) (by omega) (by omega) (by omega) g1 g2 g3 g4 g6 (zV hst') fun e0=>?_
    obtain⟨p1,p2,p3,p4⟩:=g7 e0
    refine⟨fun x hx=>?_,fun r hr=>?_⟩
    ·rw[p2]at hx
     obtain⟨z,hz,rfl⟩:=List.mem_map.1 hx
     exact p3 z hz
    rw[htd]
    exact .sol hv g5 g6 p3 p4 (by rw[←p2,←p1];exact hr)
  refine(zEe l l _ _ _ _ _ hcl hco q8 _ _ _ q12 q13 so q15 q16 q17 q18 0 r10.1).bind fun r20 h20=>(zEe l l _ _ _ _ _ hcl hco q8 _ _ _ q12 q13 so q15 q16 q17 q18 0 r15.1).bind fun r22 h22=>Tot.ite (fun hp=>Tot.ite (fun _=>Tot.ret (.err (by decide))) fun _=>?_) fun _=>Tot.ite (fun hp=>?_) fun _=>?_
  ·obtain⟨v1,v2,v3⟩:=h20 (of_decide_eq_true hp)
   refine(X0 hE (L-1-k-j) (U+1+k+j) c q8 (q9-1) (q10+1) (q11-1) q12 q13 so q15 q16 q17 q18 r20 r15.1 (by omega) (by omega) hok8 hso hso2 hsok (by omega) hcl hco sb).bind fun x hx=>?_
   have:=fin r20 r15.1 ⟨r10.1,r15.1,k,j,hbr,hbs,v3,.inl ⟨v1,v2,rfl⟩⟩ sb x hx
   rcases x with y|y|y<;>exact Tot.ret this
  ·obtain⟨v1,v2,v3⟩:=h22 (of_decide_eq_true hp)
   refine(X0 hE (L-1-k-j) (U+1+k+j) c q8 (q9-1) (q10+1) (q11-1) q12 q13 so q15 q16 q17 q18 r22 r10.1 (by omega) (by omega) hok8 hso hso2 hsok (by omega) hcl hco sa).bind fun x hx=>?_
   have:=fin r22 r10.1 ⟨r10.1,r15.1,k,j,hbr,hbs,v3,.inr ⟨v1,v2,rfl⟩⟩ sa x hx
   rcases x with y|y|y<;>exact Tot.ret this
  ·refine(zGe hE he hl hc sa sb (L-1-k-j) (U+1+k+j) c q8 (q9-1) (q10+1) (q11-1) q12 q13 so q15 q16 q17 q18 (by omega) (by omega) (by omega) (by omega) h8 (by omega)).bind fun x hx=>?_
   rcases hx with⟨e,fl,fu,e0,rfl⟩|⟨rfl,ca,cb,hn⟩|⟨fl,fu,f0,f1,f2,f3,rfl,ca,cb,hn,hp⟩
   ·exact Tot.ret (.err e0)
   ·exact Tot.ret (.no (by simp) ⟨by show (0:Int)≤L-1-k-j;omega,by show (0:Int)≤U+1+k+j;omega,by show L-1-k-j+(U+1+k+j)=L+U;omega⟩ (by rw[htd];exact .conf hbr hbs ca cb hn))
   ·refine Tot.ret (.inj (fl:=fl) (fu:=fu) (by simp) f0 (by omega) f2 (by omega) ?_ (fun x hx=>?_) fun r hr=>?_)
    ·have:=uV r10.1 (zQ sa).2.2
     have:=(zQ sa).1
     unfold tI pX
     simp
     omega
    ·rcases List.mem_append.1 hx with hx|hx
     ·have hm:=gR hx
      exact⟨yS sa (List.mem_of_mem_drop hm.1),yS sb (List.mem_of_mem_drop hm.2)⟩
     ·exact hrest x hx
    ·rw[htd]
     exact .inj hbr hbs ca cb hn hp hr
 ·rw[if_neg hL]at h7
  subst h7
  exact Tot.ite (fun _=>Tot.ret (.err (by show (8:Int)≠0;decide))) fun h=>by cases h
def e97(qq:Nat)(M:yY)(p1:Tm):Option Bool:=
 zBJ qq M>>=fun r1=>
 Z9 qq p1 0 r1>>=fun r3=>
 some r3
theorem c97{qq M p1 r}(h:e97 qq M p1=some r):Ct 97 [mB M 1,mR M] [.mp 0 0,tmA p1] (ab r) [mB M 1,mR M] 0:=⟨by
 unfold e97 at h
 obtain⟨r1,h2,h⟩:=zC h
 obtain⟨r3,h4,h⟩:=zC h
 obtain rfl:=sj h
 exact tF ⟨Tryz.func97,rfl⟩ 0 [0,1] (oDM M<|oC 0 [] (z7 h4)<|oC 1 [0,1] (zRy h2) o0),⟨(lz rfl),⟨tv,tv,⟨tv,dT _⟩,tv⟩,tv⟩,(fMa (lz rfl) zB),tv,(fMf (lz rfl) zB)⟩
def cS:Nat->yY->List zD->List Tm->List Tm->Int->Int->Int->List zH->Option ((Unit) ⊕ (List zD×List zH×List zD×List zI×List Int×Int))
 |0,_,_,_,_,_,_,_,_=>none
 |qq+1,M,p1,p2,p3,fl,fu,v49,wW=>
 if decide (v49<(p2.length:Int))then
 zS p2 v49>>=fun x12=>
 e97 qq M x12>>=fun r14=>
 if r14 then
 zS p3 v49>>=fun x17=>
 e97 qq M x17>>=fun r19=>
 if r19 then
 yN 80 wW [(zH.mk x12 x17)]>>=fun l22=>
 cS qq M p1 p2 p3 fl fu (w64 (v49+1)) l22
 else
 some (.inl ())
 else
 some (.inl ())
 else
 some (.inr (p1,wW,([]:List zD),([]:List zI),([]:List Int),0))
def cT:Nat->yY->List zD->List Tm->List Tm->Int->Int->Int->Option ((Unit) ⊕ (List zD×List zH×List zD×List zI×List Int×Int))
 |0,_,_,_,_,_,_,_=>none
 |qq+1,M,p1,p2,p3,fl,fu,v32=>
 if decide (v32<(p1.length:Int))then
 zS p1 v32>>=fun x6=>
 e97 qq M x6.type_>>=fun r8=>
 if r8 then
 cT qq M p1 p2 p3 fl fu (w64 (v32+1))
 else
 some (.inl ())
 else
 cS qq M p1 p2 p3 fl fu 0 ([]:List zH)
def e64(qq:Nat)(M:yY)(p1:List zD)(p2 p3:List Tm)(fl fu:Int):Option ((Unit) ⊕ (List zD×List zH×List zD×List zI×List Int×Int)):=
 e96 qq p1>>=fun r1=>
 if r1 then
 if (p2.length:Int) != (p3.length:Int)then
 some (.inl ())
 else
 cT qq M p1 p2 p3 fl fu 0
 else
 some (.inl ())
section
variable (M:yY) (p1:List zD) (p2 p3:List Tm) (fl fu:Int)
abbrev zOt (C:Cf):Prop:=C 64 [mB M 1,mR M,.cells [ai fl,ai fu]] [.mp 0 0,slv zJ p1 .no,slv zG p2 .no,slv zG p3 .no,.mp 2 0] (.tup [.val (.pointer none),ab false]) [mB M 1,mR M,.cells [ai fl,ai fu]] 0
abbrev zWz (r:List zD×List zH×List zD×List zI×List Int×Int) (C:Cf):Prop:=C 64 [mB M 1,mR M,.cells [ai fl,ai fu]] [.mp 0 0,slv zJ p1 .no,slv zG p2 .no,slv zG p3 .no,.mp 2 0] (.tup [.mp 3 0,ab true]) [mB M 1,mR M,.cells [ai fl,ai fu],.cells [.mp 0 0,.mp 2 0,slv zJ r.1 .no,.ms 4 0 r.2.1.length r.2.1.length 6,ab false,.ms 5 0 r.2.2.1.length r.2.2.1.length 4,.ms 6 0 r.2.2.2.1.length r.2.2.2.1.length 4,.ms 7 0 r.2.2.2.2.1.length r.2.2.2.2.1.length 1,ab false,ai r.2.2.2.2.2],.row (zK zP r.2.1),.row (zK zJ r.2.2.1),.row (zK zO r.2.2.2.1),.row (zK yB r.2.2.2.2.1)] 0
end
theorem q64:Qf 64 Tryz.f64:=⟨Tryz.func64,rfl⟩
theorem zOs{M p1 p2 p3 fl fu}(h:zOt M p1 p2 p3 fl fu Ci):zOt M p1 p2 p3 fl fu Ct:=⟨h,⟨(lz rfl),⟨tv,zF _⟩,⟨tv,dT _⟩,⟨tv,dT _⟩,(lz rfl),tv⟩,(fMa (lz rfl) (zA ⟨tv,tv,tv⟩ zB)),⟨tv,tv,tv⟩,(fMf (lz rfl) (zA ⟨tv,tv,tv⟩ zB))⟩
theorem zTI:∀qq:Nat,(∀ {M p1 p2 p3 fl fu v49 wW r},cS qq M p1 p2 p3 fl fu v49 wW=some r->(∀j,dL 3 (pt 65461 Tryz.f64) (sp j 88 0 [(0,.mp 0 0),(2,slv zG p2 .no),(3,slv zG p3 .no),(14,.mp 3 0),(48,ai (p2.length:Int)),(49,ai v49)]) (⟨[(0,mB M 1),(1,mR M),(2,.cells [ai fl,ai fu]),(3,.cells [.mp 0 0,.mp 2 0,slv zJ p1 .no,.ms 4 0 wW.length wW.length 6,ab false,.ms 5 0 (List.length ([]:List zD)) (List.length ([]:List zD)) 4,.ms 6 0 (List.length ([]:List zI)) (List.length ([]:List zI)) 4,.ms 7 0 (List.length ([]:List Int)) (List.length ([]:List Int)) 1,ab false,ai 0]),(4,.row (zK zP wW)),(5,.row (zK zJ ([]:List zD))),(6,.row (zK zO ([]:List zI))),(7,.row (zK yB ([]:List Int)))],8,[],0,[]⟩) (fQ 3 ((match (generalizing:=false) r with | .inl x=>nQ 3 Tryz.f64 (.tup [.val (.pointer none),ab false]) [mB M 1,mR M,.cells [ai fl,ai fu]] 0 | .inr x=>nQ 3 Tryz.f64 (.tup [.mp 3 0,ab true]) [mB M 1,mR M,.cells [ai fl,ai fu],.cells [.mp 0 0,.mp 2 0,slv zJ x.1 .no,.ms 4 0 x.2.1.length x.2.1.length 6,ab false,.ms 5 0 x.2.2.1.length x.2.2.1.length 4,.ms 6 0 x.2.2.2.1.length x.2.2.2.1.length 4,.ms 7 0 x.2.2.2.2.1.length x.2.2.2.2.1.length 1,ab false,ai x.2.2.2.2.2],.row (zK zP x.2.1),.row (zK zJ x.2.2.1),.row (zK zO x.2.2.2.1),.row (zK yB x.2.2.2.2.1)] 0)) [.blk 2,.seq (pt 1023 Tryz.f64)]))):=by
 intro qq
 induction qq with
 |zero=>
  exact fun h=>nn h
 |succ qq ih=>
  intro M p1 p2 p3 fl fu v49 wW r h
  rw[cS]at h
  obtain⟨h11,h⟩|⟨h11,h⟩:=spl h
  obtain⟨x12,h13,h⟩:=zC h
  obtain⟨r14,h15,h⟩:=zC h
  have k:=oA 0 (xB (o:=.no) h13)<|oB 0 h11 o0
  obtain⟨h16,h⟩|⟨h16,h⟩:=spl h
  obtain⟨x17,h18,h⟩:=zC h
  obtain⟨r19,h20,h⟩:=zC h
  have k:=oA 1 (xB (o:=.no) h18)<|oK 1 [0,1] h16 (c97 h15) k
  obtain⟨h21,h⟩|⟨h21,h⟩:=spl h
  obtain⟨l22,h23,h⟩:=zC h
  exact fun j=>lH 2 [] [0,1,2,3,8,5,6,7] [] [0,2,3,14,48,49] (oD (dT p3)<|oD (dT p2)<|oD (dI ([]:List Int))<|oD (zM ([]:List zI))<|oD (zF ([]:List zD))<|oD (zN l22)<|oD (zF p1)<|oDM M<|oM 2 (zLC h23 (by simp))<|oA 1 (xB (o:=.no) h18)<|oA 2 (xB (o:=.no) h13)<|oK 1 [0,1] h21 (c97 h20) k) (ih h)
  cases h
  exact fun j=>lF 1 [0,1,2] (oDM M<|oK 1 [0,1] h21 (c97 h20) k)
  cases h
  exact fun j=>lF 1 [0,1,2] (oDM M<|oK 1 [0,1] h16 (c97 h15) k)
  cases h
  exact fun j=>lF 0 [0,1,2,3,4,5,6,7] (oD (dI ([]:List Int))<|oD (zM ([]:List zI))<|oD (zF ([]:List zD))<|oD (zN wW)<|oD (zF p1)<|oDM M<|oB 0 h11 o0)
theorem zOr:∀qq:Nat,(∀ {M p1 p2 p3 fl fu v32 r},cT qq M p1 p2 p3 fl fu v32=some r->(∀j,dL 3 (pt 4021 Tryz.f64) (sp j 88 0 [(0,.mp 0 0),(1,slv zJ p1 .no),(2,slv zG p2 .no),(3,slv zG p3 .no),(4,.mp 2 0),(30,slv zJ p1 .no),(31,ai (p1.length:Int)),(32,ai v32)]) (⟨[(0,mB M 1),(1,mR M),(2,.cells [ai fl,ai fu])],3,[],0,[]⟩) (fQ 3 ((match (generalizing:=false) r with | .inl x=>nQ 3 Tryz.f64 (.tup [.val (.pointer none),ab false]) [mB M 1,mR M,.cells [ai fl,ai fu]] 0 | .inr x=>nQ 3 Tryz.f64 (.tup [.mp 3 0,ab true]) [mB M 1,mR M,.cells [ai fl,ai fu],.cells [.mp 0 0,.mp 2 0,slv zJ x.1 .no,.ms 4 0 x.2.1.length x.2.1.length 6,ab false,.ms 5 0 x.2.2.1.length x.2.2.1.length 4,.ms 6 0 x.2.2.2.1.length x.2.2.2.1.length 4,.ms 7 0 x.2.2.2.2.1.length x.2.2.2.2.1.length 1,ab false,ai x.2.2.2.2.2],.row (zK zP x.2.1),.row (zK zJ x.2.2.1),.row (zK zO x.2.2.2.1),.row (zK yB x.2.2.2.2.1)] 0)) [.blk 0,.seq (pt 63 Tryz.f64)]))):=by
 intro qq
 induction qq with
 |zero=>
  exact fun h=>nn h
 |succ qq ih=>
  intro M p1 p2 p3 fl fu v32 r h
  rw[cT]at h
  obtain⟨h5,h⟩|⟨h5,h⟩:=spl h
  obtain⟨x6,h7,h⟩:=zC h
  obtain⟨r8,h9,h⟩:=zC h
  have k:=oA 0 (E1 (o:=.no) h7)<|oB 0 h5 o0
  obtain⟨h10,h⟩|⟨h10,h⟩:=spl h
  exact fun j=>lH 2 [] [0,1,2] [] [0,1,2,3,4,30,31,32] (oD (zF p1)<|oD (dT p3)<|oD (dT p2)<|oD (zF p1)<|oDM M<|oK 3 [0,1] h10 (c97 h9) k) (ih h)
  cases h
  exact fun j=>lF 1 [0,1,2] (oDM M<|oK 3 [0,1] h10 (c97 h9) k)
  exact fun j=>lH 1 [(some 3,3,4102),(some 3,5,4100),(some 3,6,4100),(some 3,7,4097)] [0,1,2,3,4,5,6,7] [] [0,2,3,14,48,49] (oD (dT p3)<|oD (dT p2)<|oD (dI ([]:List Int))<|oD (zM ([]:List zI))<|oD (zF ([]:List zD))<|oD (zN ([]:List zH))<|oD (zF p1)<|oDM M<|oB 0 h5 o0) (zTI _ h)
theorem c64{qq M p1 p2 p3 fl fu r}(h:e64 qq M p1 p2 p3 fl fu=some r):(match (generalizing:=false) r with | .inl x=>zOt M p1 p2 p3 fl fu Ct | .inr x=>zWz M p1 p2 p3 fl fu x Ct):=by
 unfold e64 at h
 have z {os ob} (k:Oz os ob):=oD (zF p1)<|oD (dT p3)<|oD (dT p2)<|oD (zF p1)<|oDM M<|k
 obtain⟨r1,h2,h⟩:=zC h
 obtain⟨h3,h⟩|⟨h3,h⟩:=spl h
 have k:=oK 1 [] h3 (c96 h2) o0
 obtain⟨h4,h⟩|⟨h4,h⟩:=spl h
 cases h
 exact zOs (tF q64 0 [0,1,2] (oDM M<|oB 3 h4 k))
 rcases r with y0|y1
 exact zOs (tH q64 1 [] [0,1,2] [] [0,1,2,3,4,30,31,32] (z<|oB 3 h4 k) (zOr _ h))
 exact⟨tH q64 1 [] [0,1,2] [] [0,1,2,3,4,30,31,32] (z<|oB 3 h4 k) (zOr _ h),⟨(lz rfl),⟨tv,zF _⟩,⟨tv,dT _⟩,⟨tv,dT _⟩,(lz rfl),tv⟩,(fMa (lz rfl) (zA ⟨tv,tv,tv⟩ zB)),⟨(lz rfl),tv,tv⟩,(fMf (lz rfl) (zA ⟨tv,tv,tv⟩ (zA ⟨(lz rfl),(lz rfl),zF _,(lz rfl),tv,(lz rfl),(lz rfl),(lz rfl),tv,tv,tv⟩ (zA (zN _) (zA (zF _) (zA (zM _) (zA (dI _) zB)))))))⟩
 cases h
 exact zOs (tF q64 1 [0,1,2] (oDM M<|oK 1 [] h3 (c96 h2) o0))
theorem X9(l:List Ent)(t:Tm)(ht:t.Ok):Tot (fun q=>e97 q (xH l) t) fun b=>b=true->vM l t:=by
 simp only[e97]
 have hLen:Evt (fun q=>zBJ q (xH l)) (l.length:Int):=Evt.mk fun _=>rfl
 refine Tot.bind (P:=fun k=>k=(l.length:Int)) (hLen.tot rfl) fun k hk=>?_
 subst hk
 exact Tot.bind (P:=fun b=>b=sU t 0 l.length) ((lJ t _ _ ht).tot rfl) fun b hb=>Tot.ret fun h=>by
  rw[hb]at h;exact h
theorem Y0(l:List Ent)(c:List zD)(A B:List Tm)(hA:∀x∈A,x.Ok)(hB:∀x∈B,x.Ok)(hn:A.length=B.length)(hl:A.length≤1048576)(fl fu:Int):∀(k v:Nat) (td:List zH),v+k=A.length->td=(tI A B).take v->(∀e∈td,vM l e.a_∧vM l e.b_) ->
  Tot (fun q=>cS q (xH l) c A B fl fu (v:Int) td) fun x=>∀y,x = .inr y->y=(c,tI A B,[],[],[],0)∧∀e∈tI A B,vM l e.a_∧vM l e.b_
 |0,v,td,hv,ht,hm=>by
  have hz:(tI A B).length=A.length:=by unfold tI;rw[List.length_zipWith];omega
  have e:td=tI A B:=by rw[ht,List.take_of_length_le (by omega)]
  refine Tot.succ ?_
  simp only[cS]
  refine Tot.ite (fun h=>absurd (of_decide_eq_true h) (by omega)) fun _=>Tot.ret fun y hy=>?_
  cases hy
  exact⟨by rw[e],by rw[←e];exact hm⟩
 |k+1,v,td,hv,ht,hm=>by
  have hva:v<A.length:=by omega
  obtain⟨x,hx⟩:∃x,A[v]? = some x:=⟨_,List.getElem?_eq_getElem hva⟩
  obtain⟨y,hy⟩:∃y,B[v]? = some y:=⟨_,List.getElem?_eq_getElem (by omega)⟩
  have htl:td.length≤1048576:=by rw[ht,List.length_take];omega
  refine Tot.succ ?_
  simp only[cS]
  refine Tot.ite (fun _=>Tot.pure (vG hx) ((X9 l x (hA x (List.mem_of_getElem? hx))).bind fun b hb=>Tot.ite (fun h1=>Tot.pure (vG hy) ((X9 l y (hB y (List.mem_of_getElem? hy))).bind fun b2 hb2=>Tot.ite (fun h2=>Tot.pure (yG (by simp;omega)) ?_) fun _=>Tot.ret fun z hz=>by cases hz)) fun _=>Tot.ret fun z hz=>by cases hz)) fun h=>absurd (of_decide_eq_false h) (by omega)
  rw[zW v (by omega)]
  refine Y0 l c A B hA hB hn hl fl fu k (v+1) _ (by omega) (by rw[zGf hx hy,ht]) fun e he=>?_
  rcases List.mem_append.1 he with he|he
  ·exact hm e he
  ·rw[List.mem_singleton.1 he];exact⟨hb h1,hb2 h2⟩
theorem Y1(l:List Ent)(c:List zD)(A B:List Tm)(hA:∀x∈A,x.Ok)(hB:∀x∈B,x.Ok)(hn:A.length=B.length)(hl:A.length≤1048576)(hcl:c.length≤1048576)(hco:∀v∈c,v.type_.Ok)(fl fu:Int):∀(r:List zD) (v:Nat),c.drop v=r->(∀w∈c.take v,vM l w.type_) ->
  Tot (fun q=>cT q (xH l) c A B fl fu (v:Int)) fun x=>∀y,x = .inr y->(y=(c,tI A B,[],[],[],0)∧∀e∈tI A B,vM l e.a_∧vM l e.b_)∧∀w∈c,vM l w.type_
 | [],v,hd,hm=>by
  refine Tot.succ ?_
  simp only[cT]
  refine Tot.ite (fun h=>?_) fun _=>(Y0 l c A B hA hB hn hl fl fu A.length 0 [] (by omega) rfl (fun e he=>by simp at he)).mono fun x hx y hy=>⟨hx y hy,fun w hw=>hm w ?_⟩
  ·rw[zZ hd]at h;cases h
  ·rwa[List.take_of_length_le (List.drop_eq_nil_iff.1 hd)]
 |x::r,v,hd,hm=>by
  have hlt:=yC hd
  have hx:x∈c:=List.mem_of_mem_drop (by rw[hd];simp)
  refine Tot.succ ?_
  simp only[cT]
  refine Tot.ite (fun _=>Tot.pure (zX hd) ((X9 l x.type_ (hco x hx)).bind fun b hb=>Tot.ite (fun h1=>?_) fun _=>Tot.ret fun z hz=>by cases hz)) fun h=>?_
  ·rw[zW v (by omega)]
   refine Y1 l c A B hA hB hn hl hcl hco fl fu r (v+1) (zU hd) fun w hw=>?_
   rw[tS hd]at hw
   rcases List.mem_append.1 hw with hw|hw
   ·exact hm w hw
   ·rw[List.mem_singleton.1 hw];exact hb h1
  ·rw[zY hd]at h;cases h
theorem zGd(l:List Ent)(c:List zD)(A B:List Tm)(hA:∀x∈A,x.Ok)(hB:∀x∈B,x.Ok)(hl:A.length≤1048576)(hcl:c.length≤1048576)(hco:∀v∈c,v.type_.Ok)(fl fu:Int) :
  Tot (fun q=>e64 q (xH l) c A B fl fu) fun x=>∀y,x = .inr y->gP c∧A.length=B.length∧(y=(c,tI A B,[],[],[],0)∧∀e∈tI A B,vM l e.a_∧vM l e.b_)∧∀w∈c,vM l w.type_:=by
 simp only[e64]
 refine(mV (by omega) hco).bind fun b hb=>Tot.ite (fun h1=>Tot.ite (fun _=>Tot.ret fun z hz=>by cases hz) fun h2=>?_) fun _=>Tot.ret fun z hz=>by cases hz
 have hn:A.length=B.length:=by have:=(by simpa using h2:(A.length:Int)=B.length);omega
 exact(Y1 l c A B hA hB hn hl hcl hco fl fu c 0 rfl (fun w hw=>by simp at hw)).mono fun x hx y hy=>⟨hb h1,hn,hx y hy⟩
def cU:Nat->yY->List Int->Int->Int->List zD->Nat->Nat->Nat->Nat->Nat->Bool->Int->List zH->List zD->Int->List zI->Option ((xG×Int×Int×Int) ⊕ ((List Int×List zD×List zI×Int×Int×Int) ⊕ (List zD×List zI×List Int×Nat×Int×Int×Int)))
 |0,_,_,_,_,_,_,_,_,_,_,_,_,_,_,_,_=>none
 |qq+1,M,xE,xC,xR,xQ,vI,vA,vJ,wJ,wC,sM,uY,wF,wE,v109,C2=>
 if decide (v109<(wC:Int))then
 nT wC v109>>=fun x28=>
 zS C2 (x28:Int)>>=fun x30=>
 e53 qq x30.t_>>=fun r32=>
 zS C2 (x28:Int)>>=fun x34=>
 iZ C2 x28 (zI.mk x34.n_ r32)>>=fun l36=>
 cU qq M xE xC xR xQ vI vA vJ wJ wC sM uY wF wE (w64 (v109+1)) l36
 else
 gfz wE.length wE>>=fun l38=>
 gfz wC C2>>=fun l40=>
 gfz xE.length xE>>=fun l42=>
 some (.inr (.inr (l38,l40,l42,wJ,0,xC,xR)))
def fD:Nat->yY->List zI->List Int->Int->Int->List zD->Nat->Nat->Nat->Nat->Nat->Bool->Int->List zH->Int->List zD->Option ((xG×Int×Int×Int) ⊕ ((List Int×List zD×List zI×Int×Int×Int) ⊕ (List zD×List zI×List Int×Nat×Int×Int×Int)))
 |0,_,_,_,_,_,_,_,_,_,_,_,_,_,_,_,_=>none
 |qq+1,M,sN,xE,xC,xR,xQ,vI,vA,vJ,wJ,wC,sM,uY,wF,v81,wE=>
 if decide (v81<(xQ.length:Int))then
 zS xQ v81>>=fun x21=>
 e53 qq x21.type_>>=fun r23=>
 yN 48 wE [(zD.mk x21.n_ r23)]>>=fun l25=>
 fD qq M sN xE xC xR xQ vI vA vJ wJ wC sM uY wF (w64 (v81+1)) l25
 else
 cU qq M xE xC xR xQ vI vA vJ wJ wC sM uY wF wE 0 sN
def qY:Nat->yY->(List zD×List zH×List zD×List zI×List Int×Int)->List zI->List Int->Int->Int->List zD->Nat->Nat->Nat->Nat->Nat->Bool->Int->List zH->Option ((xG×Int×Int×Int) ⊕ ((List Int×List zD×List zI×Int×Int×Int) ⊕ (List zD×List zI×List Int×Nat×Int×Int×Int)))
 |0,_,_,_,_,_,_,_,_,_,_,_,_,_,_,_=>none
 |qq+1,M,y3,sN,xE,xC,xR,xQ,vI,vA,vJ,wJ,wC,sM,uY,wF=>
 if decide ((vA:Int)>0)then
 if uY==0 then
 if sM then
 if uY != 0 then
 some (.inl ((xG.mk false [] [] []),uY,xC,xR))
 else
 gfz xE.length xE>>=fun l8=>
 some (.inr (.inl (l8,[],[],0,xC,xR)))
 else
 C1 qq M.l M.rl M.parts M.args M.own xC xR xQ wF vA vJ vI false y3.2.2.1 sN wC wJ xE sM uY>>=fun r10=>
 match r10 with
 | .inl y12=>
  qY qq M y3 y12.2.2.2.2.2.1 y12.2.2.2.2.2.2.2.2.1 y12.2.2.2.2.2.2.2.2.2.2.2.1 y12.2.2.2.2.2.2.2.2.2.2.2.2 y12.1 y12.2.2.2.2.1 y12.2.2.1 y12.2.2.2.1 y12.2.2.2.2.2.2.2.1 y12.2.2.2.2.2.2.1 y12.2.2.2.2.2.2.2.2.2.1 y12.2.2.2.2.2.2.2.2.2.2.1 y12.2.1
 | .inr (.inl y13)=>
  qY qq M y3 y13.2.2.2.2.2.1 y13.2.2.2.2.2.2.2.2.1 y13.2.2.2.2.2.2.2.2.2.2.1 y13.2.2.2.2.2.2.2.2.2.2.2 y13.1 y13.2.2.2.2.1 y13.2.2.1 y13.2.2.2.1 y13.2.2.2.2.2.2.2.1 y13.2.2.2.2.2.2.1 true y13.2.2.2.2.2.2.2.2.2.1 y13.2.1
 | .inr (.inr (.inl y14))=>
  qY qq M y3 y14.2.2.2.2.2.1 y14.2.2.2.2.2.2.1 y14.2.2.2.2.2.2.2.2.2.1 y14.2.2.2.2.2.2.2.2.2.2 y14.1 y14.2.2.2.2.1 y14.2.2.1 y14.2.2.2.1 y14.2.2.2.2.2.1.length y14.2.2.2.2.2.1.length y14.2.2.2.2.2.2.2.1 y14.2.2.2.2.2.2.2.2.1 y14.2.1
 | .inr (.inr (.inr y15))=>
  qY qq M y3 y15.2.2.1 y15.2.2.2.2.2.1 y15.2.2.2.2.2.2.2.2.1 y15.2.2.2.2.2.2.2.2.2.1 y15.1 y15.2.1.length y15.2.1.length 0 y15.2.2.2.2.1 y15.2.2.2.1 y15.2.2.2.2.2.2.1 y15.2.2.2.2.2.2.2.1 y15.2.1
 else
 if uY != 0 then
 some (.inl ((xG.mk false [] [] []),uY,xC,xR))
 else
 if sM then
 gfz xE.length xE>>=fun l18=>
 some (.inr (.inl (l18,[],[],0,xC,xR)))
 else
 fD qq M sN xE xC xR xQ vI vA vJ wJ wC sM uY wF 0 y3.2.2.1
 else
 if uY != 0 then
 some (.inl ((xG.mk false [] [] []),uY,xC,xR))
 else
 if sM then
 gfz xE.length xE>>=fun l22=>
 some (.inr (.inl (l22,[],[],0,xC,xR)))
 else
 fD qq M sN xE xC xR xQ vI vA vJ wJ wC sM uY wF 0 y3.2.2.1
def e34(qq:Nat)(M:yY)(p1:List zD)(p2 p3:List Tm)(fl fu:Int):Option ((xG×Int×Int×Int) ⊕ ((List Int×List zD×List zI×Int×Int×Int) ⊕ (List zD×List zI×List Int×Nat×Int×Int×Int))):=
 e64 qq M p1 p2 p3 fl fu>>=fun r1=>
 match r1 with
 | .inl y4=>
  some (.inl ((xG.mk false [] [] []),5,fl,fu))
 | .inr y3=>
  qY qq M y3 y3.2.2.2.1 y3.2.2.2.2.1 fl fu y3.1 y3.2.1.length y3.2.1.length 0 y3.2.2.2.1.length y3.2.2.2.1.length false y3.2.2.2.2.2 y3.2.1
section
variable (M:yY) (p1:List zD) (p2 p3:List Tm) (fl fu:Int)
abbrev zOq (r:xG×Int×Int×Int) (C:Cf):Prop:=C 34 [mB M 1,mR M,.cells [ai fl,ai fu]] [.mp 0 0,slv zJ p1 .no,slv zG p2 .no,slv zG p3 .no,.mp 2 0] (.tup [vP r.1,ai r.2.1]) [mB M 1,mR M,.cells [ai r.2.2.1,ai r.2.2.2]] 0
abbrev zWy (r:List Int×List zD×List zI×Int×Int×Int) (C:Cf):Prop:=C 34 [mB M 1,mR M,.cells [ai fl,ai fu]] [.mp 0 0,slv zJ p1 .no,slv zG p2 .no,slv zG p3 .no,.mp 2 0] (.tup [.agg [ab false,slv zJ r.2.1 .no,slv zO r.2.2.1 .no,.ms 3 0 r.1.length r.1.length 1],ai r.2.2.2.1]) [mB M 1,mR M,.cells [ai r.2.2.2.2.1,ai r.2.2.2.2.2],.row (zK yB r.1)] 0
abbrev zWx (r:List zD×List zI×List Int×Nat×Int×Int×Int) (C:Cf):Prop:=C 34 [mB M 1,mR M,.cells [ai fl,ai fu]] [.mp 0 0,slv zJ p1 .no,slv zG p2 .no,slv zG p3 .no,.mp 2 0] (.tup [.agg [ab true,.ms 3 0 r.1.length r.1.length 4,.ms 4 0 r.2.1.length r.2.2.2.1 4,.ms 5 0 r.2.2.1.length r.2.2.1.length 1],ai r.2.2.2.2.1]) [mB M 1,mR M,.cells [ai r.2.2.2.2.2.1,ai r.2.2.2.2.2.2],.row (zK zJ r.1),.row (zK zO r.2.1),.row (zK yB r.2.2.1)] 0
end
theorem q34:Qf 34 Tryz.f34:=⟨Tryz.func34,rfl⟩
theorem zRS{M p1 p2 p3 fl fu r}(h:zOq M p1 p2 p3 fl fu r Ci):zOq M p1 p2 p3 fl fu r Ct:=⟨h,⟨(lz rfl),⟨tv,zF _⟩,⟨tv,dT _⟩,⟨tv,dT _⟩,(lz rfl),tv⟩,(fMa (lz rfl) (zA ⟨tv,tv,tv⟩ zB)),⟨⟨tv,zF _,zM _,dI _,tv⟩,tv,tv⟩,(fMf (lz rfl) (zA ⟨tv,tv,tv⟩ zB))⟩
theorem zTJ:∀qq:Nat,(∀ {M xE xC xR xQ vI vA vJ wJ wC sM uY wF wE v109 C2 r},cU qq M xE xC xR xQ vI vA vJ wJ wC sM uY wF wE v109 C2=some r->(∀j,dL 3 (pt 16777141 Tryz.f34) (sp j 130 0 [(10,.mp 3 0),(12,.mp 4 0),(107,.ms 5 0 wC wJ 4),(108,ai (wC:Int)),(109,ai v109)]) (⟨[(0,mB M 1),(1,mR M),(2,.cells [ai xC,ai xR]),(3,.cells [ab false,.ms 6 0 (List.length ([]:List zD)) (List.length ([]:List zD)) 4,.ms 7 0 (List.length ([]:List zI)) (List.length ([]:List zI)) 4,.ms 8 0 (List.length ([]:List Int)) (List.length ([]:List Int)) 1]),(4,.cells [.mp 0 0,.mp 2 0,slv zJ xQ .no,.ms 9 (vJ*6) vA vI 6,ab true,.ms 10 0 wE.length wE.length 4,.ms 5 0 wC wJ 4,.ms 11 0 xE.length xE.length 1,ab sM,ai uY]),(5,.row (zK zO C2)),(6,.row (zK zJ ([]:List zD))),(7,.row (zK zO ([]:List zI))),(8,.row (zK yB ([]:List Int))),(9,.row (zK zP wF)),(10,.row (zK zJ wE)),(11,.row (zK yB xE))],12,[],0,[]⟩) (fQ 3 ((match (generalizing:=false) r with | .inl x=>nQ 3 Tryz.f34 (.tup [vP x.1,ai x.2.1]) [mB M 1,mR M,.cells [ai x.2.2.1,ai x.2.2.2]] 0 | .inr (.inl x)=>nQ 3 Tryz.f34 (.tup [.agg [ab false,slv zJ x.2.1 .no,slv zO x.2.2.1 .no,.ms 3 0 x.1.length x.1.length 1],ai x.2.2.2.1]) [mB M 1,mR M,.cells [ai x.2.2.2.2.1,ai x.2.2.2.2.2],.row (zK yB x.1)] 0 | .inr (.inr x)=>nQ 3 Tryz.f34 (.tup [.agg [ab true,.ms 3 0 x.1.length x.1.length 4,.ms 4 0 x.2.1.length x.2.2.2.1 4,.ms 5 0 x.2.2.1.length x.2.2.1.length 1],ai x.2.2.2.2.1]) [mB M 1,mR M,.cells [ai x.2.2.2.2.2.1,ai x.2.2.2.2.2.2],.row (zK zJ x.1),.row (zK zO x.2.1),.row (zK yB x.2.2.1)] 0)) [.blk 4,.seq (pt 262143 Tryz.f34)]))):=by
 intro qq
 induction qq with
 |zero=>
  exact fun h=>nn h
 |succ qq ih=>
  intro M xE xC xR xQ vI vA vJ wJ wC sM uY wF wE v109 C2 r h
  rw[cU]at h
  obtain⟨h27,h⟩|⟨h27,h⟩:=spl h
  obtain⟨x28,h29,h⟩:=zC h
  obtain⟨x30,h31,h⟩:=zC h
  obtain⟨r32,h33,h⟩:=zC h
  obtain⟨x34,h35,h⟩:=zC h
  obtain⟨l36,h37,h⟩:=zC h
  exact fun j=>lH 1 [] [0,1,2,3,4,5,6,7,8,9,10,11] [] [10,12,107,108,109] (oD (dI xE)<|oD (zF wE)<|oD (zN wF)<|oD (dI ([]:List Int))<|oD (zM ([]:List zI))<|oD (zF ([]:List zD))<|oD (zM l36)<|oD (zF xQ)<|oDM M<|oW 0 (wtF (x':=(zI.mk x34.n_ r32)) xT h35 h37 1 3 (.agg [ai r32.k,ai r32.n,slv zG r32.sub .no]) rfl rfl (by decide) rfl)<|oA 0 (zHs (b:=5) (c:=wJ) (z:=4) h29)<|oC 1 [] (c53 h33)<|oCl 1<|oG (a:=(.agg [ai x30.n_,ai x30.t_.k,ai x30.t_.n,slv zG x30.t_.sub .no])) 0 (ldE xT h31 (true,4) (val:=.agg [ai x30.n_,ai x30.t_.k,ai x30.t_.n,slv zG x30.t_.sub .no]) rfl)<|oA 0 (zHs (b:=5) (c:=wJ) (z:=4) h29)<|oB 0 h27 o0) (ih h)
  obtain⟨l38,h39,h⟩:=zC h
  obtain⟨h39a,h39b⟩:=sA h39
  obtain⟨l40,h41,h⟩:=zC h
  obtain⟨h41a,h41b⟩:=sA h41
  obtain⟨l42,h43,h⟩:=zC h
  obtain⟨h43a,h43b⟩:=sA h43
  cases h
  obtain rfl:=h39a.symm
  obtain rfl:=h41a.symm
  obtain rfl:=h43a.symm
  dsimp only
  rw[←h39b,←h41b,←h43b]
  exact fun j=>lF 2 [0,1,2,10,5,11] (oD (dI xE)<|oD (zM C2)<|oD (zF wE)<|oDM M<|oB 0 h27 o0)
theorem zOp:∀qq:Nat,(∀ {M sN xE xC xR xQ vI vA vJ wJ wC sM uY wF v81 wE r},fD qq M sN xE xC xR xQ vI vA vJ wJ wC sM uY wF v81 wE=some r->(∀j,dL 3 (pt 4194229 Tryz.f34) (sp j 130 0 [(10,.mp 3 0),(12,.mp 4 0),(79,slv zJ xQ .no),(80,ai (xQ.length:Int)),(81,ai v81)]) (⟨[(0,mB M 1),(1,mR M),(2,.cells [ai xC,ai xR]),(3,.cells [ab false,.ms 5 0 (List.length ([]:List zD)) (List.length ([]:List zD)) 4,.ms 6 0 (List.length ([]:List zI)) (List.length ([]:List zI)) 4,.ms 7 0 (List.length ([]:List Int)) (List.length ([]:List Int)) 1]),(4,.cells [.mp 0 0,.mp 2 0,slv zJ xQ .no,.ms 8 (vJ*6) vA vI 6,ab true,.ms 9 0 wE.length wE.length 4,.ms 10 0 wC wJ 4,.ms 11 0 xE.length xE.length 1,ab sM,ai uY]),(5,.row (zK zJ ([]:List zD))),(6,.row (zK zO ([]:List zI))),(7,.row (zK yB ([]:List Int))),(8,.row (zK zP wF)),(9,.row (zK zJ wE)),(10,.row (zK zO sN)),(11,.row (zK yB xE))],12,[],0,[]⟩) (fQ 3 ((match (generalizing:=false) r with | .inl x=>nQ 3 Tryz.f34 (.tup [vP x.1,ai x.2.1]) [mB M 1,mR M,.cells [ai x.2.2.1,ai x.2.2.2]] 0 | .inr (.inl x)=>nQ 3 Tryz.f34 (.tup [.agg [ab false,slv zJ x.2.1 .no,slv zO x.2.2.1 .no,.ms 3 0 x.1.length x.1.length 1],ai x.2.2.2.1]) [mB M 1,mR M,.cells [ai x.2.2.2.2.1,ai x.2.2.2.2.2],.row (zK yB x.1)] 0 | .inr (.inr x)=>nQ 3 Tryz.f34 (.tup [.agg [ab true,.ms 3 0 x.1.length x.1.length 4,.ms 4 0 x.2.1.length x.2.2.2.1 4,.ms 5 0 x.2.2.1.length x.2.2.1.length 1],ai x.2.2.2.2.1]) [mB M 1,mR M,.cells [ai x.2.2.2.2.2.1,ai x.2.2.2.2.2.2],.row (zK zJ x.1),.row (zK zO x.2.1),.row (zK yB x.2.2.1)] 0)) [.blk 2,.seq (pt 65535 Tryz.f34)]))):=by
 intro qq
 induction qq with
 |zero=>
  exact fun h=>nn h
 |succ qq ih=>
  intro M sN xE xC xR xQ vI vA vJ wJ wC sM uY wF v81 wE r h
  rw[fD]at h
  obtain⟨h20,h⟩|⟨h20,h⟩:=spl h
  obtain⟨x21,h22,h⟩:=zC h
  obtain⟨r23,h24,h⟩:=zC h
  obtain⟨l25,h26,h⟩:=zC h
  exact fun j=>lH 2 [] [0,1,2,3,4,5,6,7,8,13,10,11] [] [10,12,79,80,81] (oD (zF xQ)<|oD (dI xE)<|oD (zM sN)<|oD (zF l25)<|oD (zN wF)<|oD (dI ([]:List Int))<|oD (zM ([]:List zI))<|oD (zF ([]:List zD))<|oD (zF xQ)<|oDM M<|oM 1 (zUe h26 (by simp))<|oC 1 [] (c53 h24)<|oCl 0<|oCl 2<|oA 0 (E1 (o:=.no) h22)<|oB 0 h20 o0) (ih h)
  exact fun j=>lH 2 [] [0,1,2,3,4,10,5,6,7,8,9,11] [] [10,12,107,108,109] (oD (dI xE)<|oD (zF wE)<|oD (zN wF)<|oD (dI ([]:List Int))<|oD (zM ([]:List zI))<|oD (zF ([]:List zD))<|oD (zM sN)<|oD (zF xQ)<|oDM M<|oB 0 h20 o0) (zTJ _ h)
theorem zGc:∀qq:Nat,(∀ {M y3 sN xE xC xR xQ vI vA vJ wJ wC sM uY wF r},qY qq M y3 sN xE xC xR xQ vI vA vJ wJ wC sM uY wF=some r->(∀j,dL 3 (pt 4069 Tryz.f34) (sp j 130 0 [(10,.mp 3 0),(12,.mp 4 0)]) (⟨[(0,mB M 1),(1,mR M),(2,.cells [ai xC,ai xR]),(3,.cells [ab false,.ms 5 0 (List.length ([]:List zD)) (List.length ([]:List zD)) 4,.ms 6 0 (List.length ([]:List zI)) (List.length ([]:List zI)) 4,.ms 7 0 (List.length ([]:List Int)) (List.length ([]:List Int)) 1]),(4,.cells [.mp 0 0,.mp 2 0,slv zJ xQ .no,.ms 8 (vJ*6) vA vI 6,ab false,.ms 9 0 y3.2.2.1.length y3.2.2.1.length 4,.ms 10 0 wC wJ 4,.ms 11 0 xE.length xE.length 1,ab sM,ai uY]),(5,.row (zK zJ ([]:List zD))),(6,.row (zK zO ([]:List zI))),(7,.row (zK yB ([]:List Int))),(8,.row (zK zP wF)),(9,.row (zK zJ y3.2.2.1)),(10,.row (zK zO sN)),(11,.row (zK yB xE))],12,[],0,[]⟩) (fQ 3 ((match (generalizing:=false) r with | .inl x=>nQ 3 Tryz.f34 (.tup [vP x.1,ai x.2.1]) [mB M 1,mR M,.cells [ai x.2.2.1,ai x.2.2.2]] 0 | .inr (.inl x)=>nQ 3 Tryz.f34 (.tup [.agg [ab false,slv zJ x.2.1 .no,slv zO x.2.2.1 .no,.ms 3 0 x.1.length x.1.length 1],ai x.2.2.2.1]) [mB M 1,mR M,.cells [ai x.2.2.2.2.1,ai x.2.2.2.2.2],.row (zK yB x.1)] 0 | .inr (.inr x)=>nQ 3 Tryz.f34 (.tup [.agg [ab true,.ms 3 0 x.1.length x.1.length 4,.ms 4 0 x.2.1.length x.2.2.2.1 4,.ms 5 0 x.2.2.1.length x.2.2.1.length 1],ai x.2.2.2.2.1]) [mB M 1,mR M,.cells [ai x.2.2.2.2.2.1,ai x.2.2.2.2.2.2],.row (zK zJ x.1),.row (zK zO x.2.1),.row (zK yB x.2.2.1)] 0)) [.blk 0,.seq (pt 255 Tryz.f34)]))):=by
 intro qq
 induction qq with
 |zero=>
  exact fun h=>nn h
 |succ qq ih=>
  intro M y3 sN xE xC xR xQ vI vA vJ wJ wC sM uY wF r h
  rw[qY]at h
  have z {os ob} (k:Oz os ob):=oD (zF xQ)<|oD (dI xE)<|oD (zM sN)<|oD (zF y3.2.2.1)<|oD (zN wF)<|oD (dI ([]:List Int))<|oD (zM ([]:List zI))<|oD (zF ([]:List zD))<|oD (zF xQ)<|oDM M<|k
  have z1 {os ob} (k:Oz os ob):=oD (dI ([]:List Int))<|oD (zM ([]:List zI))<|oD (zF ([]:List zD))<|oDM M<|k
  have z2 {os ob} (k:Oz os ob):=oD (zM ([]:List zI))<|oD (zF ([]:List zD))<|oD (dI xE)<|oDM M<|k
  obtain⟨h4,h⟩|⟨h4,h⟩:=spl h
  have k:=oB 2 h4 o0
  obtain⟨h5,h⟩|⟨h5,h⟩:=spl h
  have k:=oB 1 h5 k
  obtain⟨h6,h⟩|⟨h6,h⟩:=spl h
  have k:=oB 0 h6 k
  obtain⟨h7,h⟩|⟨h7,h⟩:=spl h
  cases h
  exact fun j=>lF 2 [0,1,2] (z1<|oB 2 h7 k)
  obtain⟨l8,h9,h⟩:=zC h
  obtain⟨h9a,h9b⟩:=sA h9
  cases h
  obtain rfl:=h9a.symm
  dsimp only
  rw[←h9b]
  exact fun j=>lF 2 [0,1,2,11] (z2<|oB 0 h6<|oB 2 h7 k)
  obtain⟨r10,h11,h⟩:=zC h
  have k:=oB 0 h6 k
  rcases r10 with y12 | (y13 | (y14|y15))
  dsimp only at h
  exact fun j=>lH 0 [] [0,1,2,3,4,5,6,7,8,9,12,13] [] [10,12] (oD (dI y12.2.2.2.2.2.2.2.2.1)<|oD (zM y12.2.2.2.2.2.1)<|oD (zF y3.2.2.1)<|oD (zN y12.2.1)<|oD (dI ([]:List Int))<|oD (zM ([]:List zI))<|oD (zF ([]:List zD))<|oD (zF y12.1)<|oDM M<|oC 1 [4,0,1,2,8,9,10,11] (O9 h11) k) (ih h)
  dsimp only at h
  exact fun j=>lH 0 [] [0,1,2,3,4,5,6,7,8,9,12,13] [] [10,12] (oD (dI y13.2.2.2.2.2.2.2.2.1)<|oD (zM y13.2.2.2.2.2.1)<|oD (zF y3.2.2.1)<|oD (zN y13.2.1)<|oD (dI ([]:List Int))<|oD (zM ([]:List zI))<|oD (zF ([]:List zD))<|oD (zF y13.1)<|oDM M<|oC 1 [4,0,1,2,8,9,10,11] (O9 h11) k) (ih h)
  dsimp only at h
  exact fun j=>lH 0 [] [0,1,2,3,4,5,6,7,8,9,12,13] [] [10,12] (oD (dI y14.2.2.2.2.2.2.1)<|oD (zM y14.2.2.2.2.2.1)<|oD (zF y3.2.2.1)<|oD (zN y14.2.1)<|oD (dI ([]:List Int))<|oD (zM ([]:List zI))<|oD (zF ([]:List zD))<|oD (zF y14.1)<|oDM M<|oC 1 [4,0,1,2,8,9,10,11] (O9 h11) k) (ih h)
  dsimp only at h
  exact fun j=>lH 0 [] [0,1,2,3,4,5,6,7,12,9,13,14] [] [10,12] (oD (dI y15.2.2.2.2.2.1)<|oD (zM y15.2.2.1)<|oD (zF y3.2.2.1)<|oD (zN y15.2.1)<|oD (dI ([]:List Int))<|oD (zM ([]:List zI))<|oD (zF ([]:List zD))<|oD (zF y15.1)<|oDM M<|oC 1 [4,0,1,2,8,9,10,11] (O9 h11) k) (ih h)
  have k:=oB 1 h5 k
  obtain⟨h16,h⟩|⟨h16,h⟩:=spl h
  cases h
  exact fun j=>lF 2 [0,1,2] (z1<|oB 1 h16 k)
  have k:=oB 1 h16 k
  obtain⟨h17,h⟩|⟨h17,h⟩:=spl h
  obtain⟨l18,h19,h⟩:=zC h
  obtain⟨h19a,h19b⟩:=sA h19
  cases h
  obtain rfl:=h19a.symm
  dsimp only
  rw[←h19b]
  exact fun j=>lF 2 [0,1,2,11] (z2<|oB 0 h17 k)
  exact fun j=>lH 3 [] [0,1,2,3,4,5,6,7,8,9,10,11] [] [10,12,79,80,81] (z<|oB 0 h17 k) (zOp _ h)
  have k:=oB 2 h4 o0
  obtain⟨h20,h⟩|⟨h20,h⟩:=spl h
  cases h
  exact fun j=>lF 2 [0,1,2] (z1<|oB 1 h20 k)
  have k:=oB 1 h20 k
  obtain⟨h21,h⟩|⟨h21,h⟩:=spl h
  obtain⟨l22,h23,h⟩:=zC h
  obtain⟨h23a,h23b⟩:=sA h23
  cases h
  obtain rfl:=h23a.symm
  dsimp only
  rw[←h23b]
  exact fun j=>lF 2 [0,1,2,11] (z2<|oB 0 h21 k)
  exact fun j=>lH 3 [] [0,1,2,3,4,5,6,7,8,9,10,11] [] [10,12,79,80,81] (z<|oB 0 h21 k) (zOp _ h)
theorem zXh{qq M p1 p2 p3 fl fu r}(h:e34 qq M p1 p2 p3 fl fu=some r):(match (generalizing:=false) r with | .inl x=>zOq M p1 p2 p3 fl fu x Ct | .inr (.inl x)=>zWy M p1 p2 p3 fl fu x Ct | .inr (.inr x)=>zWx M p1 p2 p3 fl fu x Ct):=by
 unfold e34 at h
 obtain⟨r1,h2,h⟩:=zC h
 rcases r1 with y4|y3
 dsimp only at h
 cases h
 exact zRS (tF q34 4 [0,1,2] (oD (dI ([]:List Int))<|oD (zM ([]:List zI))<|oD (zF ([]:List zD))<|oDM M<|oC 0 [0,1,2] (c64 h2) o0))
 dsimp only at h
 rcases r with y0 | (y1|y2)
 exact zRS (tH q34 3 [(some 3,1,4100),(some 3,2,4100),(some 3,3,4097)] [0,1,2,3,4,9,10,11,5,6,7,8] [] [10,12] (oD (dI y3.2.2.2.2.1)<|oD (zM y3.2.2.2.1)<|oD (zF y3.2.2.1)<|oD (zN y3.2.1)<|oD (dI ([]:List Int))<|oD (zM ([]:List zI))<|oD (zF ([]:List zD))<|oD (zF y3.1)<|oDM M<|oC 0 [0,1,2] (c64 h2) o0) (zGc _ h))
 exact⟨tH q34 3 [(some 3,1,4100),(some 3,2,4100),(some 3,3,4097)] [0,1,2,3,4,9,10,11,5,6,7,8] [] [10,12] (oD (dI y3.2.2.2.2.1)<|oD (zM y3.2.2.2.1)<|oD (zF y3.2.2.1)<|oD (zN y3.2.1)<|oD (dI ([]:List Int))<|oD (zM ([]:List zI))<|oD (zF ([]:List zD))<|oD (zF y3.1)<|oDM M<|oC 0 [0,1,2] (c64 h2) o0) (zGc _ h),⟨(lz rfl),⟨tv,zF _⟩,⟨tv,dT _⟩,⟨tv,dT _⟩,(lz rfl),tv⟩,(fMa (lz rfl) (zA ⟨tv,tv,tv⟩ zB)),⟨⟨tv,zF _,zM _,(lz rfl),tv⟩,tv,tv⟩,(fMf (lz rfl) (zA ⟨tv,tv,tv⟩ (zA (dI _) zB)))⟩
 exact⟨tH q34 3 [(some 3,1,4100),(some 3,2,4100),(some 3,3,4097)] [0,1,2,3,4,9,10,11,5,6,7,8] [] [10,12] (oD (dI y3.2.2.2.2.1)<|oD (zM y3.2.2.2.1)<|oD (zF y3.2.2.1)<|oD (zN y3.2.1)<|oD (dI ([]:List Int))<|oD (zM ([]:List zI))<|oD (zF ([]:List zD))<|oD (zF y3.1)<|oDM M<|oC 0 [0,1,2] (c64 h2) o0) (zGc _ h),⟨(lz rfl),⟨tv,zF _⟩,⟨tv,dT _⟩,⟨tv,dT _⟩,(lz rfl),tv⟩,(fMa (lz rfl) (zA ⟨tv,tv,tv⟩ zB)),⟨⟨tv,(lz rfl),(lz rfl),(lz rfl),tv⟩,tv,tv⟩,(fMf (lz rfl) (zA ⟨tv,tv,tv⟩ (zA (zF _) (zA (zM _) (zA (dI _) zB)))))⟩
theorem c34{qq M p1 p2 p3 fl fu r}(h:e34 qq M p1 p2 p3 fl fu=some r):(match (generalizing:=false) r with | .inl x=>CT Tryz.prog 34 [mB M 1,mR M,.cells [ai fl,ai fu]] [.mp 0 0,slv zJ p1 .no,slv zG p2 .no,slv zG p3 .no,.mp 2 0] (.tup [vP x.1,ai x.2.1]) [mB M 1,mR M,.cells [ai x.2.2.1,ai x.2.2.2]] 0 | .inr (.inl x)=>CT Tryz.prog 34 [mB M 1,mR M,.cells [ai fl,ai fu]] [.mp 0 0,slv zJ p1 .no,slv zG p2 .no,slv zG p3 .no,.mp 2 0] (.tup [vP (xG.mk false x.2.1 x.2.2.1 x.1),ai x.2.2.2.1]) [mB M 1,mR M,.cells [ai x.2.2.2.2.1,ai x.2.2.2.2.2]] 0 | .inr (.inr x)=>CT Tryz.prog 34 [mB M 1,mR M,.cells [ai fl,ai fu]] [.mp 0 0,slv zJ p1 .no,slv zG p2 .no,slv zG p3 .no,.mp 2 0] (.tup [vP (xG.mk true x.1 x.2.1 x.2.2.1),ai x.2.2.2.2.1]) [mB M 1,mR M,.cells [ai x.2.2.2.2.2.1,ai x.2.2.2.2.2.2]] 0):=by
 have k:=zXh h
 rcases r with y0 | (y1|y2)
 ·exact k
 ·exact CT.freeze (H1:=[mB M 1,mR M,.cells [ai y1.2.2.2.2.1,ai y1.2.2.2.2.2]]) (cs:=zK yB y1.1) (res':=(.tup [vP (xG.mk false y1.2.1 y1.2.2.1 y1.1),ai y1.2.2.2.1])) k (Nat.le_of_ble_eq_true rfl) (fMf (lz rfl) (zA ⟨tv,tv,tv⟩ zB)) (dI _) ⟨⟨trivial,zF _,zM _,(.inl ⟨rfl,rfl⟩),tv⟩,trivial,tv⟩ (by rfl) rfl
 ·replace k:=CT.freeze (H1:=[mB M 1,mR M,.cells [ai y2.2.2.2.2.2.1,ai y2.2.2.2.2.2.2],.row (zK zJ y2.1),.row (zK zO y2.2.1)]) (cs:=zK yB y2.2.2.1) (res':=(.tup [.agg [ab true,.ms 3 0 y2.1.length y2.1.length 4,.ms 4 0 y2.2.1.length y2.2.2.2.1 4,slv yB y2.2.2.1 .no],ai y2.2.2.2.2.1])) k (Nat.le_of_ble_eq_true rfl) (fMf (lz rfl) (zA ⟨tv,tv,tv⟩ (zA (zF _) (zA (zM _) zB)))) (dI _) ⟨⟨trivial,(.inr (show 3<5 by decide)),(.inr (show 4<5 by decide)),(.inl ⟨rfl,rfl⟩),tv⟩,trivial,tv⟩ (by rfl) rfl;replace k:=CT.freeze (H1:=[mB M 1,mR M,.cells [ai y2.2.2.2.2.2.1,ai y2.2.2.2.2.2.2],.row (zK zJ y2.1)]) (cs:=zK zO y2.2.1) (res':=(.tup [.agg [ab true,.ms 3 0 y2.1.length y2.1.length 4,slv zO y2.2.1 .no,slv yB y2.2.2.1 .no],ai y2.2.2.2.2.1])) k (Nat.le_of_ble_eq_true rfl) (fMf (lz rfl) (zA ⟨tv,tv,tv⟩ (zA (zF _) zB))) (zM _) ⟨⟨trivial,(.inr (show 3<4 by decide)),(.inl ⟨rfl,rfl⟩),dI _,tv⟩,trivial,tv⟩ (by rfl) rfl;exact CT.freeze (H1:=[mB M 1,mR M,.cells [ai y2.2.2.2.2.2.1,ai y2.2.2.2.2.2.2]]) (cs:=zK zJ y2.1) (res':=(.tup [vP (xG.mk true y2.1 y2.2.1 y2.2.2.1),ai y2.2.2.2.2.1])) k (Nat.le_of_ble_eq_true rfl) (fMf (lz rfl) (zA ⟨tv,tv,tv⟩ zB)) (zF _) ⟨⟨trivial,(.inl ⟨rfl,rfl⟩),zM _,dI _,tv⟩,trivial,tv⟩ (by rfl) rfl
abbrev SvT:=(xG×Int×Int×Int) ⊕ ((List Int×List zD×List zI×Int×Int×Int) ⊕ (List zD×List zI×List Int×Nat×Int×Int×Int))
inductive SvR (l:List Ent) (c:List zD) (td:List zH) (so:List zI) (T:Int):SvT->Prop
 |err {a e fl fu}:e≠0->SvR l c td so T (.inl (a,e,fl,fu))
 |no {s fl fu}:0≤fl∧0≤fu∧fl+fu=T->Un l c td so none->SvR l c td so T (.inr (.inl (s,[],[],0,fl,fu)))
 |yes {c' so' s k fl fu}:0≤fl∧0≤fu∧fl+fu=T->Un l c td so (some (c',so'))->SvR l c td so T (.inr (.inr (c',so',s,k,0,fl,fu)))
theorem zIq(M:yY)(st:List Int)(L U:Int)(c:List zD)(a1 a2 a3 a4:Nat)(no:Bool)(e:Int)(q8:List zH)(vs:List zD)(so:List zI)(hl:so.length≤1048576)(hs:∀s∈so,zL s.t_=true):∀(k v:Nat),v+k=so.length->Tot (fun q=>cU q M st L U c a1 a2 a3 a4 so.length no e q8 vs (v:Int) so) fun x=>x = .inr (.inr (vs,so,st,a4,0,L,U))
 |0,v,hv=>by
  refine Tot.succ ?_
  simp only[cU]
  refine Tot.ite (fun h=>absurd (of_decide_eq_true h) (by omega)) fun _=>Tot.pure (a:=vs) (by unfold gfz;rw[if_pos rfl]) (Tot.pure (a:=so) (by unfold gfz;rw[if_pos rfl]) (Tot.pure (a:=st) (by unfold gfz;rw[if_pos rfl]) (Tot.ret rfl)))
 |k+1,v,hv=>by
  have hlt:v<so.length:=by omega
  obtain⟨x,hx⟩:∃x,so[v]? = some x:=⟨_,List.getElem?_eq_getElem hlt⟩
  have hsx:=hs x (List.mem_of_getElem? hx)
  refine Tot.succ ?_
  simp only[cU]
  refine Tot.ite (fun _=>Tot.pure (qG hlt) (Tot.pure (vG hx) (Tot.bind (P:=fun t=>t=x.t_) ((sR x.t_ (zV hsx)).tot (by unfold nE;rw[if_pos hsx])) fun t ht=>Tot.pure (vG hx) (Tot.pure (a:=so) ?_ ?_)))) fun h=>absurd (of_decide_eq_false h) (by omega)
  ·subst ht
   obtain⟨h1,h2⟩:=List.getElem?_eq_some_iff.1 hx
   have:(zI.mk x.n_ x.t_)=so[v]:=by rw[h2]
   unfold iZ
   rw[if_pos hlt,this,List.set_getElem_self]
  ·rw[zW v (by omega)]
   exact zIq M st L U c a1 a2 a3 a4 no e q8 vs so hl hs k (v+1) (by omega)
theorem zIp(M:yY)(st:List Int)(L U:Int)(c:List zD)(a1 a2 a3 a4:Nat)(no:Bool)(e:Int)(q8:List zH)(so:List zI)(hl:so.length≤1048576)(hs:∀s∈so,zL s.t_=true)(hcl:c.length≤524288)(hc:∀v∈c,zL v.type_=true):∀(r:List zD) (v:Nat) (vs:List zD),c.drop v=r->vs=c.take v->Tot (fun q=>fD q M so st L U c a1 a2 a3 a4 so.length no e q8 (v:Int) vs) fun x=>x = .inr (.inr (c,so,st,a4,0,L,U))
 | [],v,vs,hd,hv=>by
  refine Tot.succ ?_
  simp only[fD]
  refine Tot.ite (fun h=>?_) fun _=>?_
  ·rw[zZ hd]at h;cases h
  ·rw[hv,List.take_of_length_le (List.drop_eq_nil_iff.1 hd)]
   exact zIq M st L U c a1 a2 a3 a4 no e q8 c so hl hs so.length 0 (by omega)
 |x::r,v,vs,hd,hv=>by
  have hlt:=yC hd
  have hsx:=hc x (List.mem_of_mem_drop (by rw[hd];simp))
  refine Tot.succ ?_
  simp only[fD]
  refine Tot.ite (fun _=>Tot.pure (zX hd) (Tot.bind (P:=fun t=>t=x.type_) ((sR x.type_ (zV hsx)).tot (by unfold nE;rw[if_pos hsx])) fun t ht=>Tot.pure (yG (by rw[hv];simp;omega)) ?_)) fun h=>?_
  ·rw[zW v (by omega),ht,zNZ]
   exact zIp M st L U c a1 a2 a3 a4 no e q8 so hl hs hcl hc r (v+1) _ (zU hd) (by rw[tS hd,hv])
  ·rw[zY hd]at h;cases h
theorem zIo{l:List Ent}{c0 td0 so0}{T:Int}(M:yY)(st:List Int)(L U:Int)(c:List zD)(a1 a2 a3 a4 a5:Nat)(no:Bool)(e:Int)(he:e≠0)(q8:List zH)(so:List zI)(y3:List zD×List zH×List zD×List zI×List Int×Int) :
  Tot (fun q=>qY q M y3 so st L U c a1 a2 a3 a4 a5 no e q8) (SvR l c0 td0 so0 T):=by
 refine Tot.succ ?_
 simp only[qY]
 exact Tot.ite (fun _=>Tot.ite (fun h=>absurd (by simpa using h) he) fun _=>Tot.ite (fun _=>Tot.ret (.err he)) fun h=>absurd (by simpa using h) he) fun _=>Tot.ite (fun _=>Tot.ret (.err he)) fun h=>absurd (by simpa using h) he
theorem zRu{l:List Ent}{c0 td0 so0}{T:Int}(M:yY)(st:List Int)(L U:Int)(c:List zD)(a1 a2 a3 a4 a5:Nat)(q8:List zH)(so:List zI)(y3:List zD×List zH×List zD×List zI×List Int×Int)(hU:Un l c0 td0 so0 none)(hF:0≤L∧0≤U∧L+U=T)(no:Bool)(hno:no=true) :
  Tot (fun q=>qY q M y3 so st L U c a1 a2 a3 a4 a5 no 0 q8) (SvR l c0 td0 so0 T):=by
 refine Tot.succ ?_
 simp only[qY]
 refine Tot.ite (fun _=>Tot.ite (fun _=>Tot.ite (fun _=>Tot.ite (fun h=>by cases h) fun _=>?_) fun h=>by rw[hno]at h;cases h) fun h=>by cases h) fun _=>Tot.ite (fun h=>by cases h) fun _=>Tot.ite (fun _=>?_) fun h=>by rw[hno]at h;cases h
 ·exact Tot.pure (a:=st) (by unfold gfz;rw[if_pos rfl]) (Tot.ret (.no hF hU))
 ·exact Tot.pure (a:=st) (by unfold gfz;rw[if_pos rfl]) (Tot.ret (.no hF hU))
theorem zBK{N:ByteArray->Bool}{l:List Ent}(hE:wS N l)(he:∀e∈l,EOk e)(hl:l.length≤65535)(hc:∀e∈l,ECl e){c0:List zD}{td0:List zH}{so0:List zI}{T0:Int}(I:∀c' so',Un l c0 td0 so0 (some (c',so'))->(∀v∈c',zL v.type_=true)∧∀s∈so',zL s.t_=true)
  (y3:List zD×List zH×List zD×List zI×List Int×Int) (hy:y3.2.2.1=[]) (no:Bool) (hno:no=false):∀(m:Nat) (L U:Int) (c:List zD) (q8:List zH) (n o k k6 n6:Nat) (so:List zI) (st:List Int),L.toNat<m->0≤L->0≤U->L+U=T0->T0≤1099511627776->o+n≤q8.length->(q8.length:Int)+8192*L≤1048576000->(∀x∈q8,x.a_.Ok∧x.b_.Ok)->(∀x∈(q8.drop o).take n,zL x.a_=true∧zL x.b_=true) ->
   so.length=n6->(so.length:Int)+L≤1048576->(∀x∈so,x.t_.Ok)->(st.length:Int)+L≤1048576->c.length≤524288->(∀v∈c,v.type_.Ok)->(∀r,Un l c ((q8.drop o).take n) so r->Un l c0 td0 so0 r) ->
   Tot (fun q=>qY q (xH l) y3 so st L U c k n o k6 n6 no 0 q8) (SvR l c0 td0 so0 T0)
 |0,L,U,c,q8,n,o,k,k6,n6,so,st,hm,_,_,_,_,_,_,_,_,_,_,_,_,_,_,_=>absurd hm (Nat.not_lt_zero _)
 |m+1,L,U,c,q8,n,o,k,k6,n6,so,st,hm,h0,h1,hT,h2,hb,h8,hok8,hok,hn6,hso,hsok,hst,hcl,hco,T=>by
  refine Tot.succ ?_
  simp only[qY]
  refine Tot.ite (fun hp=>Tot.ite (fun _=>Tot.ite (fun h=>by rw[hno]at h;cases h) fun _=>?_) fun h=>by cases h) fun hp=>Tot.ite (fun h=>by cases h) fun _=>Tot.ite (fun h=>by rw[hno]at h;cases h) fun _=>?_
  ·have hpos:1≤n:=by have:=of_decide_eq_true hp;omega
   refine(zKa hE he hl hc L U c q8 n o k false y3.2.2.1 so n6 k6 st no h0 h1 (by omega) hpos hb (by omega) hok8 hok hn6 (by omega) hsok (by omega) hcl hco).bind fun x hx=>?_
   cases hx with
   |err e0=>exact zIo _ _ _ _ _ _ _ _ _ _ _ _ e0 _ _ _
   |no _ hF hU=>exact zRu _ _ _ _ _ _ _ _ _ _ _ _ _ (T _ hU) ⟨hF.1,hF.2.1,by omega⟩ _ rfl
   | @sol d row k' so' n' t s e fl fu g1 g2 g3 g4 g5 g6 g7 g8 g9 g10 g11 g12=>
    by_cases e0:e=0
    ·subst e0
     obtain⟨p1,p2⟩:=g12 rfl
     refine zBK hE he hl hc I y3 hy no hno m fl fu d row (n-1) (o+1) k' _ _ (so'++[⟨n',t⟩]) s (by omega) g2 g4 (by omega) h2 (by rw[g6];omega) (by rw[g6];omega) g7 p1 rfl (by simp;omega) (fun x hx=>?_) (by omega) (by have:=g10.right.len;omega) (fun v hv=>zV (g10.right.each v hv).2.2.1) fun r hr=>T r (p2 r hr)
     rcases List.mem_append.1 hx with hx|hx
     ·exact g9 x hx
     ·rw[List.mem_singleton.1 hx];exact g11
    ·exact zIo _ _ _ _ _ _ _ _ _ _ _ _ e0 _ _ _
   | @inj td s fl fu g1 g2 g3 g4 g5 g6 g7 g8=>
    refine zBK hE he hl hc I y3 hy no hno m fl fu c td td.length 0 td.length _ _ so s (by omega) g2 g4 (by omega) h2 (by omega) (by omega) (fun x hx=>⟨zV (g7 x hx).1,zV (g7 x hx).2⟩) (fun x hx=>g7 x (List.mem_of_mem_drop (List.mem_of_mem_take hx))) hn6 (by omega) hsok (by omega) hcl hco fun r hr=>T r (g8 r ?_)
    rwa[List.drop_zero,List.take_length]at hr
  ·have hn0:n=0:=by have:=of_decide_eq_false hp;omega
   subst hn0
   have hU:Un l c0 td0 so0 (some (c,so)):=T _ (by rw[List.take_zero];exact .done)
   obtain⟨i1,i2⟩:=I c so hU
   subst hn6
   rw[hy]
   exact(zIp (xH l) st L U c _ _ _ _ no 0 q8 so (by omega) i2 hcl i1 c 0 [] rfl (by simp)).mono fun x hx=>by rw[hx];exact .yes ⟨h0,h1,hT⟩ hU
theorem gQ.start{l:List Ent}{c:List zD}{td:List zH}(hc:gP c)(ht:∀w∈c,vM l w.type_)(hm:∀e∈td,vM l e.a_∧vM l e.b_):gQ l c td [] c.length:=
 ⟨hc,ht,hm,fun s h=>by simp at h,fun s h=>by simp at h,fun s h=>by simp at h,fun s h=>by simp at h,by simp,by simp⟩
def SlR(l:List Ent)(c:List zD)(A B:List Tm)(T:Int)(x:SvT):Prop:=
 (∃a e fl fu,e≠0∧x = .inl (a,e,fl,fu))∨(gP c∧A.length=B.length∧(∀e∈tI A B,vM l e.a_∧vM l e.b_)∧(∀w∈c,vM l w.type_)∧SvR l c (tI A B) [] T x)
theorem zGb{N:ByteArray->Bool}{l:List Ent}(hE:wS N l)(he:∀e∈l,EOk e)(hl:l.length≤65535)(hc:∀e∈l,ECl e)(c:List zD)(A B:List Tm)(hA:∀x∈A,x.Ok)(hB:∀x∈B,x.Ok)(hal:A.length≤1048576)(hcl:c.length≤524288)(hco:∀v∈c,v.type_.Ok)(L U:Int)(h0:0≤L)(hL:L≤100000)(h1:0≤U)(h2:L+U≤1099511627776) :
  Tot (fun q=>e34 q (xH l) c A B L U) (SlR l c A B (L+U)):=by
 simp only[e34]
 refine(zGd l c A B hA hB hal (by omega) hco L U).bind fun x hx=>?_
 rcases x with y|y
 ·exact Tot.ret (.inl ⟨_,5,L,U,by decide,rfl⟩)
 ·obtain⟨hC,hn,⟨rfl,hm⟩,ht⟩:=hx y rfl
  have hz:(tI A B).length=A.length:=by unfold tI;rw[List.length_zipWith];omega
  have hI:=gQ.start hC ht hm
  have hsh:∀e∈tI A B,zL e.a_=true∧zL e.b_=true:=fun e h=>⟨(eN.1 (hm e h).1).1,(eN.1 (hm e h).2).1⟩
  refine Tot.mono (zBK hE he hl hc (c0:=c) (td0:=tI A B) (so0:=[]) (fun c' so' h=>?_) (c,tI A B,[],[],[],0) rfl false rfl (L.toNat+1) L U c (tI A B) (tI A B).length 0 (tI A B).length 0 0 [] [] (by omega) h0 h1 rfl h2 (by omega) (by omega) (fun x hx=>⟨zV (hsh x hx).1,zV (hsh x hx).2⟩) (fun x hx=>hsh x (List.mem_of_mem_drop (List.mem_of_mem_take hx))) rfl (by simp;omega) (fun x hx=>by simp at hx) (by simp;omega) hcl hco (fun r hr=>by rwa[List.drop_zero,List.take_length]at hr)) fun x hx=>.inr ⟨hC,hn,hm,ht,hx⟩
  have:=h.inv hE hI c' so' rfl
  exact⟨fun v hv=>(eN.1 (this.typ v hv)).1,fun s hs=>(eN.1 (this.sol s hs)).1⟩
mutual
def e11:Nat->Tm->Int->Option Bool
 |0,_,_=>none
 |qq+1,p0,p1=>
 if p0.k==8 then
 some (p0.n==p1)
 else
 cV qq p0 p1 0
def cV:Nat->Tm->Int->Int->Option Bool
 |0,_,_,_=>none
 |qq+1,p0,p1,v5=>
 if decide (v5<(p0.sub.length:Int))then
 zS p0.sub v5>>=fun x3=>
 e11 qq x3 p1>>=fun r5=>
 if r5 then
 some true
 else
 cV qq p0 p1 (w64 (v5+1))
 else
 some false
end
abbrev K11 (p0:Tm) (p1:Int) (r:Bool) (C:Cf):Prop:=C 11 [] [tmA p0,ai p1] (ab r) [] 0
theorem q11:Qf 11 Tryz.f11:=⟨Tryz.func11,rfl⟩
theorem zKA:∀qq:Nat,(∀ {p0 p1 r},e11 qq p0 p1=some r->K11 p0 p1 r Ct)∧(∀ {p0 p1 v5 r},cV qq p0 p1 v5=some r->(∀j,dL 0 (pt 4021 Tryz.f11) (sp j 27 0 [(1,ai p1),(2,.mp 0 0),(5,ai v5)]) (⟨[(0,.cells [ai p0.k,ai p0.n,slv zG p0.sub .no])],1,[],0,[]⟩) (fQ 0 (nQ 0 Tryz.f11 (ab r) [] 0) [.blk 0,.seq (pt 63 Tryz.f11)]))):=by
 intro qq
 induction qq with
 |zero=>
  exact⟨fun h=>nn h,fun h=>nn h⟩
 |succ qq ih=>
  obtain⟨zWw,zIn⟩:=ih
  refine⟨?_,?_⟩
  intro p0 p1 r h
  rw[e11]at h
  obtain⟨h1,h⟩|⟨h1,h⟩:=spl h
  cases h
  exact⟨tF q11 2 [] (oB 1 h1 o0),⟨⟨tv,tv,⟨tv,dT _⟩,tv⟩,tv,tv⟩,zB,tv,zB⟩
  exact⟨tH q11 0 [] [0] [] [1,2,5] (oD (dT p0.sub)<|oB 1 h1 o0) (zIn h),⟨⟨tv,tv,⟨tv,dT _⟩,tv⟩,tv,tv⟩,zB,tv,zB⟩
  intro p0 p1 v5 r h
  rw[cV]at h
  obtain⟨h2,h⟩|⟨h2,h⟩:=spl h
  obtain⟨x3,h4,h⟩:=zC h
  obtain⟨r5,h6,h⟩:=zC h
  have k:=oA 1 (xB (o:=.no) h4)<|oB 2 h2 o0
  obtain⟨h7,h⟩|⟨h7,h⟩:=spl h
  cases h
  exact fun j=>lF 0 [] (oK 1 [] h7 (zWw h6) k)
  exact fun j=>lH 1 [] [0] [] [1,2,5] (oD (dT p0.sub)<|oK 1 [] h7 (zWw h6) k) (zIn h)
  cases h
  exact fun j=>lF 0 [] (oB 2 h2 o0)
theorem c11{qq p0 p1 r}(h:e11 qq p0 p1=some r):K11 p0 p1 r Ct:=(zKA _).1 h
mutual
theorem zOo(n:Int):∀t:Tm,t.Ok->yT (fun k i=>k=8->i≠n) t->Evt (fun q=>e11 q t n) false
 | .mk k i l,ho,h=>by
  rw[yT]at h
  rw[Tm.Ok]at ho
  refine Evt.succ ?_
  simp only[e11]
  by_cases h8:k=8
  ·exact Evt.ifT (by show (k==8)=true;simpa using h8) (Evt.ret.eq (by show (i==n)=false;have:=h.1.resolve_left (by omega) h8;simpa using this))
  ·exact Evt.ifF (by show (k==8)=false;simpa using h8) (zIm n l (.mk k i l) 0 rfl ho.1 ho.2 h.2)
theorem zIm(n:Int):∀(r:List Tm) (p:Tm) (v:Nat),p.sub.drop v=r->p.sub.length<9223372036854775808->OkL r->xU (fun k i=>k=8->i≠n) r->Evt (fun q=>cV q p n (v:Int)) false
 | [],p,v,hd,hl,ho,h=>by
  refine Evt.succ ?_
  simp only[cV]
  exact Evt.ifF (zZ hd) Evt.ret
 |x::r,p,v,hd,hl,ho,h=>by
  have hlt:=yC hd
  rw[xU]at h
  rw[OkL]at ho
  refine Evt.succ ?_
  simp only[cV]
  refine Evt.ifT (zY hd) (Evt.pure (zX hd) ((zOo n x ho.1 h.1).bind (Evt.ifF rfl ?_)))
  rw[zW v (by omega)]
  exact zIm n r p (v+1) (zU hd) hl ho.2 h.2
end
theorem cW{t:Tm}{n:Int}(hs:zL t=true)(h:¬n∈frT t):Evt (fun q=>e11 q t n) false:=
 zOo n t (zV hs) (qF.1 fun x hx e=>h (e▸hx))
def zRt(qq:Nat)(p0:Int):Option Tm:=
 zAV qq 8 p0 []>>=fun r1=>
 some r1
theorem zXg{qq p0 r}(h:zRt qq p0=some r):Ct 168 [] [ai p0] (tmA r) [] 0:=⟨by
 unfold zRt at h
 obtain⟨r1,h2,h⟩:=zC h
 obtain rfl:=sj h
 exact tF ⟨Tryz.func168,rfl⟩ 1 [] (oD (dT r1.sub)<|oC 0 [] (zFB h2) o0),⟨tv,tv⟩,zB,⟨tv,tv,dT _,tv⟩,zB⟩
def iA:Nat->List zD->List Tm->Int->Option (List Tm)
 |0,_,_,_=>none
 |qq+1,p0,v3,v8=>
 if decide (v8<(p0.length:Int))then
 zS p0 v8>>=fun x2=>
 zRt qq x2.n_>>=fun r4=>
 yN 40 v3 [r4]>>=fun l6=>
 iA qq p0 l6 (w64 (v8+1))
 else
 some v3
def zGa(qq:Nat)(p0:List zD):Option (List Tm):=
 iA qq p0 [] 0
theorem zRs:∀qq:Nat,(∀ {p0 v3 v8 r},iA qq p0 v3 v8=some r->(∀j,dL 0 (pt 4021 Tryz.f128) (sp j 20 0 [(3,slv zG v3 (.st 0 3)),(6,slv zJ p0 .no),(7,ai (p0.length:Int)),(8,ai v8)]) (⟨[],0,[0],1,[]⟩) (fQ 0 (nQ 0 Tryz.f128 (.sl (zK zG r) r.length .no) [] 0) [.blk 0,.seq (pt 63 Tryz.f128)]))):=by
 intro qq
 induction qq with
 |zero=>
  exact fun h=>nn h
 |succ qq ih=>
  intro p0 v3 v8 r h
  rw[iA]at h
  obtain⟨h1,h⟩|⟨h1,h⟩:=spl h
  obtain⟨x2,h3,h⟩:=zC h
  obtain⟨r4,h5,h⟩:=zC h
  obtain⟨l6,h7,h⟩:=zC h
  exact fun j=>lH 1 [] [] [1] [3,6,7,8] (oD (zF p0)<|oD (dT l6)<|oP 0 (vD h7 (by simp))<|oS 0 (xI xN [r4])<|oC 3 [] (zXg h5)<|oA 0 (E1 (o:=.no) h3)<|oB 0 h1 o0) (ih h)
  obtain rfl:=sj h
  exact fun j=>lF 0 [] (oD (dT v3)<|oB 0 h1 o0)
theorem zTK{qq p0 r}(h:zGa qq p0=some r):Ct 128 [] [slv zJ p0 .no] (.sl (zK zG r) r.length .no) [] 0:=⟨by
 unfold zGa at h
 exact tH ⟨Tryz.func128,rfl⟩ 1 [(none,3,3)] [] [0] [3,6,7,8] (oD (zF p0)<|oD (dT ([]:List Tm)) o0) (zRs _ h),⟨⟨tv,zF _⟩,tv⟩,zB,dT _,zB⟩
def sO:Nat->List Tm->Int->Int->List Tm->Option (List Tm)
 |0,_,_,_,_=>none
 |qq+1,q0,v2,v3,yA=>
 if decide (v2<v3)then
 nT q0.length v3>>=fun x2=>
 zS yA (x2:Int)>>=fun x4=>
 nT q0.length v2>>=fun x6=>
 zS yA (x6:Int)>>=fun x8=>
 iZ yA x6 x4>>=fun x10=>
 iZ x10 x2 x8>>=fun x12=>
 sO qq q0 (w64 (v2+1)) (w64 (v3-1)) x12
 else
 some yA
def C3(qq:Nat)(q0:List Tm):Option (List Tm):=
 sO qq q0 0 (w64 ((q0.length:Int)-1)) q0
theorem zEd:∀qq:Nat,(∀ {q0 v2 v3 yA r},sO qq q0 v2 v3 yA=some r->(∀j,dL 1 (pt 53 Tryz.f161) (sp j 28 0 [(0,.ms 0 0 q0.length q0.length 3),(2,ai v2),(3,ai v3)]) (⟨[(0,.row (zK zG yA))],1,[],0,[]⟩) (fQ 1 (nQ 1 Tryz.f161 (.tup []) [.row (zK zG r)] 0) [.blk 0]))):=by
 intro qq
 induction qq with
 |zero=>
  exact fun h=>nn h
 |succ qq ih=>
  intro q0 v2 v3 yA r h
  rw[sO]at h
  obtain⟨h1,h⟩|⟨h1,h⟩:=spl h
  obtain⟨x2,h3,h⟩:=zC h
  obtain⟨x4,h5,h⟩:=zC h
  obtain⟨x6,h7,h⟩:=zC h
  obtain⟨x8,h9,h⟩:=zC h
  obtain⟨x10,h11,h⟩:=zC h
  obtain⟨x12,h13,h⟩:=zC h
  exact fun j=>lH 2 [] [0] [] [0,2,3] (oD (dT x12)<|oW 0 (wtE (x:=x8) (cs:=[ai x8.k,ai x8.n,slv zG x8.sub .no]) tU (by rw[xN];rfl) h13)<|oA 0 (zHt (b:=0) (c:=List.length q0) (z:=3) h3)<|oW 0 (wtE (x:=x4) (cs:=[ai x4.k,ai x4.n,slv zG x4.sub .no]) tU (by rw[xN];rfl) h11)<|oA 0 (zHt (b:=0) (c:=List.length q0) (z:=3) h7)<|oG (a:=(.agg [ai x8.k,ai x8.n,slv zG x8.sub .no])) 0 (ldE tU h9 (true,3) (val:=.agg [ai x8.k,ai x8.n,slv zG x8.sub .no]) (by rw[xN];rfl))<|oA 0 (zHt (b:=0) (c:=List.length q0) (z:=3) h7)<|oG (a:=(.agg [ai x4.k,ai x4.n,slv zG x4.sub .no])) 0 (ldE tU h5 (true,3) (val:=.agg [ai x4.k,ai x4.n,slv zG x4.sub .no]) (by rw[xN];rfl))<|oA 0 (zHt (b:=0) (c:=List.length q0) (z:=3) h3)<|oB 0 h1 o0) (ih h)
  obtain rfl:=sj h
  exact fun j=>lF 0 [0] (oD (dT yA)<|oB 0 h1 o0)
theorem zOn{qq q0 r}(h:C3 qq q0=some r):Ct 161 [.row (zK zG q0)] [.ms 0 0 q0.length q0.length 3] (.tup []) [.row (zK zG r)] 0:=⟨by
 unfold C3 at h
 exact tH ⟨Tryz.func161,rfl⟩ 2 [] [0] [] [0,2,3] (oD (dT q0) o0) (zEd _ h),⟨(lz rfl),tv⟩,(zA (dT _) zB),tv,(zA (dT _) zB)⟩
def zBL(qq:Nat)(p0:List Tm)(v2 v3:Int):Option Unit:=
 if decide (v2<v3)then
 none
 else
 some ()
def zTL(qq:Nat)(p0:List Tm):Option Unit:=
 zBL qq p0 0 (w64 ((p0.length:Int)-1))
theorem zRr{qq p0 v2 v3 r}(h:zBL qq p0 v2 v3=some r):(∀j,dL 0 (pt 53 Tryz.f161) (sp j 28 0 [(0,slv zG p0 .no),(2,ai v2),(3,ai v3)]) (⟨[],0,[],0,[]⟩) (fQ 0 (nQ 0 Tryz.f161 (.tup []) [] 0) [.blk 0])):=by
 unfold zBL at h
 obtain⟨h1,h⟩:=zSn h
 cases h
 exact fun j=>lF 0 [] (oB 0 h1 o0)
theorem zXf{qq p0 r}(h:zTL qq p0=some r):Ct 161 [] [slv zG p0 .no] (.tup []) [] 0:=⟨by
 unfold zTL at h
 exact tH ⟨Tryz.func161,rfl⟩ 2 [] [] [] [0,2,3] (oD (dT p0) o0) (zRr h),⟨⟨tv,dT _⟩,tv⟩,zB,tv,zB⟩
def u6(qq:Nat)(p0:List Tm):Option ((Unit) ⊕ (List Tm)):=
 E9 qq p0>>=fun r1=>
 match r1 with
 | .inl y3=>
  zTL qq []>>=fun r4=>
  some (.inl ())
 | .inr y6=>
  C3 qq y6>>=fun r7=>
  gfz y6.length r7>>=fun l9=>
  some (.inr l9)
abbrev zTM (p0:List Tm) (C:Cf):Prop:=C 199 [] [slv zG p0 .no] (slv zG ([]:List Tm) .full) [] 0
abbrev zTN (p0 r:List Tm) (C:Cf):Prop:=C 199 [] [slv zG p0 .no] (.ms 0 0 r.length r.length 3) [.row (zK zG r)] 0
theorem zWv:Qf 199 Tryz.f199:=⟨Tryz.func199,rfl⟩
theorem zWu{qq p0 r}(h:u6 qq p0=some r):(match (generalizing:=false) r with | .inl x=>zTM p0 Ct | .inr x=>zTN p0 x Ct):=by
 unfold u6 at h
 obtain⟨r1,h2,h⟩:=zC h
 rcases r1 with y3|y6
 dsimp only at h
 obtain⟨r4,h5,h⟩:=zC h
 cases h
 exact⟨tG zWv 0 [] [] [] true (oD (dT ([]:List Tm))<|oC 0 [] (zXf h5)<|oC 0 [] (zBv h2) o0),⟨⟨tv,dT _⟩,tv⟩,zB,dT _,zB⟩
 dsimp only at h
 obtain⟨r7,h8,h⟩:=zC h
 obtain⟨l9,h10,h⟩:=zC h
 obtain⟨h10a,h10b⟩:=sA h10
 cases h
 obtain rfl:=h10a.symm
 dsimp only
 exact⟨by rw[←h10b];exact(tF zWv 0 [0] (oD (dT r7)<|oC 0 [0] (zOn h8)<|oC 0 [] (zBv h2) o0)),⟨⟨tv,dT _⟩,tv⟩,zB,(lz rfl),(zA (dT _) zB)⟩
theorem zEc{qq p0 r}(h:u6 qq p0=some r):(match (generalizing:=false) r with | .inl x=>CT Tryz.prog 199 [] [slv zG p0 .no] (slv zG ([]:List Tm) (.st 0 3)) [] 1 | .inr x=>CT Tryz.prog 199 [] [slv zG p0 .no] (slv zG x (.st 0 3)) [] 1):=by
 have k:=zWu h
 rcases r with y0|y1
 ·exact CT.stampNil k
 ·exact CT.freezeS k (dT _) (xZ tU.len _)
def fE(qq:Nat)(p0:Int)(p1:Tm)(q2:List Tm):Option (Tm×Int):=
 u6 qq q2>>=fun r1=>
 match r1 with
 | .inl y3=>
  zFU qq [] p0 0>>=fun r4=>
  if r4.2 != 0 then
  some ((Tm.mk 0 0 []),r4.2)
  else
  zDd qq p0>>=fun r7=>
  u6 qq r7>>=fun r9=>
  match r9 with
  | .inl y11=>
   yN 40 ([]:List Tm) r4.1>>=fun l12=>
   eJ qq p1 l12>>=fun r15=>
   some (r15.1,r15.2)
  | .inr y17=>
   yN 40 y17 r4.1>>=fun l18=>
   eJ qq p1 l18>>=fun r21=>
   some (r21.1,r21.2)
 | .inr y23=>
  zFU qq y23 p0 0>>=fun r24=>
  if r24.2 != 0 then
  some ((Tm.mk 0 0 []),r24.2)
  else
  zDd qq p0>>=fun r27=>
  u6 qq r27>>=fun r29=>
  match r29 with
  | .inl y31=>
   yN 40 ([]:List Tm) r24.1>>=fun l32=>
   eJ qq p1 l32>>=fun r35=>
   some (r35.1,r35.2)
  | .inr y37=>
   yN 40 y37 r24.1>>=fun l38=>
   eJ qq p1 l38>>=fun r41=>
   some (r41.1,r41.2)
theorem rA:Qf 197 Tryz.f197:=⟨Tryz.func197,rfl⟩
theorem zOm{qq p0 p1 q2 r}(h:fE qq p0 p1 q2=some r):Ct 197 [.cells [slv zG q2 .no]] [ai p0,tmA p1,.mp 0 0] (.tup [tmA r.1,ai r.2]) [.cells [slv zG q2 .no]] 0:=⟨by
 unfold fE at h
 obtain⟨r1,h2,h⟩:=zC h
 rcases r1 with y3|y23
 dsimp only at h
 obtain⟨r4,h5,h⟩:=zC h
 have k:=oC 0 [] (zSS h5)<|oC 1 [] (zEc h2) o0
 obtain⟨h6,h⟩|⟨h6,h⟩:=spl h
 cases h
 exact tF rA 1 [0] (oD (dT ([]:List Tm))<|oD (dT q2)<|oB 2 h6 k)
 obtain⟨r7,h8,h⟩:=zC h
 obtain⟨r9,h10,h⟩:=zC h
 have k:=oC 0 [] (zSU h8)<|oB 2 h6 k
 rcases r9 with y11|y17
 dsimp only at h
 obtain⟨l12,h13,h⟩:=zC h
 have k:=oC 0 [] (zEc h10) k
 by_cases h14:List.length r4.1=0
 obtain⟨r15,h16,h⟩:=zC h
 cases h
 exact tF rA 3 [0] (oD (dT r15.1.sub)<|oD (dT q2)<|oC 0 [] (L6 h16)<|oP 1 (pP h13 h14) k)
 obtain⟨r15,h16,h⟩:=zC h
 cases h
 exact tF rA 3 [0] (oD (dT r15.1.sub)<|oD (dT q2)<|oC 0 [] (L6 h16)<|oP 1 (vD h13 h14) k)
 dsimp only at h
 obtain⟨l18,h19,h⟩:=zC h
 have k:=oC 0 [] (zEc h10) k
 by_cases h20:List.length r4.1=0
 obtain⟨r21,h22,h⟩:=zC h
 cases h
 exact tF rA 3 [0] (oD (dT r21.1.sub)<|oD (dT q2)<|oC 0 [] (L6 h22)<|oP 1 (pP h19 h20) k)
 obtain⟨r21,h22,h⟩:=zC h
 cases h
 exact tF rA 3 [0] (oD (dT r21.1.sub)<|oD (dT q2)<|oC 0 [] (L6 h22)<|oP 1 (vD h19 h20) k)
 dsimp only at h
 obtain⟨r24,h25,h⟩:=zC h
 have k:=oC 0 [] (zSS h25)<|oC 1 [] (zEc h2) o0
 obtain⟨h26,h⟩|⟨h26,h⟩:=spl h
 cases h
 exact tF rA 1 [0] (oD (dT ([]:List Tm))<|oD (dT q2)<|oB 2 h26 k)
 obtain⟨r27,h28,h⟩:=zC h
 obtain⟨r29,h30,h⟩:=zC h
 have k:=oC 0 [] (zSU h28)<|oB 2 h26 k
 rcases r29 with y31|y37
 dsimp only at h
 obtain⟨l32,h33,h⟩:=zC h
 have k:=oC 0 [] (zEc h30) k
 by_cases h34:List.length r24.1=0
 obtain⟨r35,h36,h⟩:=zC h
 cases h
 exact tF rA 3 [0] (oD (dT r35.1.sub)<|oD (dT q2)<|oC 0 [] (L6 h36)<|oP 1 (pP h33 h34) k)
 obtain⟨r35,h36,h⟩:=zC h
 cases h
 exact tF rA 3 [0] (oD (dT r35.1.sub)<|oD (dT q2)<|oC 0 [] (L6 h36)<|oP 1 (vD h33 h34) k)
 dsimp only at h
 obtain⟨l38,h39,h⟩:=zC h
 have k:=oC 0 [] (zEc h30) k
 by_cases h40:List.length r24.1=0
 obtain⟨r41,h42,h⟩:=zC h
 cases h
 exact tF rA 3 [0] (oD (dT r41.1.sub)<|oD (dT q2)<|oC 0 [] (L6 h42)<|oP 1 (pP h39 h40) k)
 obtain⟨r41,h42,h⟩:=zC h
 cases h
 exact tF rA 3 [0] (oD (dT r41.1.sub)<|oD (dT q2)<|oC 0 [] (L6 h42)<|oP 1 (vD h39 h40) k),⟨tv,⟨tv,tv,⟨tv,dT _⟩,tv⟩,(lz rfl),tv⟩,(zA ⟨⟨tv,dT _⟩,tv⟩ zB),⟨⟨tv,tv,dT _,tv⟩,tv,tv⟩,(zA ⟨dT _,tv⟩ zB)⟩
def sP:Nat->List Tm->List Tm->Int->List Tm->Option (List Tm×Int)
 |0,_,_,_,_=>none
 |qq+1,p0,q1,v13,v6=>
 if decide (v13<(p0.length:Int))then
 zS p0 v13>>=fun x2=>
 fE qq v13 x2 q1>>=fun r4=>
 if r4.2 != 0 then
 some ([],r4.2)
 else
 yN 40 v6 [r4.1]>>=fun l7=>
 sP qq p0 q1 (w64 (v13+1)) l7
 else
 some (v6,0)
def C4(qq:Nat)(p0 q1:List Tm):Option (List Tm×Int):=
 sP qq p0 q1 0 []
theorem zEb:∀qq:Nat,(∀ {p0 q1 v13 v6 r},sP qq p0 q1 v13 v6=some r->(∀j,dL 1 (pt 4021 Tryz.f196) (sp j 34 0 [(1,.clo 197 [] [.mp 0 0]),(6,slv zG v6 (.st 0 3)),(11,slv zG p0 .no),(12,ai (p0.length:Int)),(13,ai v13)]) (⟨[(0,.cells [slv zG q1 .no])],1,[0],1,[]⟩) (fQ 1 (nQ 1 Tryz.f196 (.tup [.sl (zK zG r.1) r.1.length .no,ai r.2]) [.cells [slv zG q1 .no]] 0) [.blk 0,.seq (pt 63 Tryz.f196)]))):=by
 intro qq
 induction qq with
 |zero=>
  exact fun h=>nn h
 |succ qq ih=>
  intro p0 q1 v13 v6 r h
  rw[sP]at h
  obtain⟨h1,h⟩|⟨h1,h⟩:=spl h
  obtain⟨x2,h3,h⟩:=zC h
  obtain⟨r4,h5,h⟩:=zC h
  have k:=oC 3 [0] (zOm h5)<|oA 0 (xB (o:=.no) h3)<|oB 0 h1 o0
  obtain⟨h6,h⟩|⟨h6,h⟩:=spl h
  cases h
  exact fun j=>lF 0 [0] (oD (dT ([]:List Tm))<|oD (dT q1)<|oB 3 h6 k)
  obtain⟨l7,h8,h⟩:=zC h
  exact fun j=>lH 1 [] [0] [1] [1,6,11,12,13] (oD (dT p0)<|oD (dT l7)<|oD (dT q1)<|oP 0 (vD h8 (by simp))<|oS 1 (xI xN [r4.1])<|oB 3 h6 k) (ih h)
  cases h
  exact fun j=>lF 0 [0] (oD (dT v6)<|oD (dT q1)<|oB 0 h1 o0)
theorem zOl{qq p0 q1 r}(h:C4 qq p0 q1=some r):Ct 196 [.cells [slv zG q1 .no]] [slv zG p0 .no,.clo 197 [] [.mp 0 0]] (.tup [.sl (zK zG r.1) r.1.length .no,ai r.2]) [.cells [slv zG q1 .no]] 0:=⟨by
 unfold C4 at h
 exact tH ⟨Tryz.func196,rfl⟩ 1 [(none,6,3)] [0] [0] [1,6,11,12,13] (oD (dT p0)<|oD (dT ([]:List Tm))<|oD (dT q1) o0) (zEb _ h),⟨⟨tv,dT _⟩,⟨tv,⟨(lz rfl),tv⟩⟩,tv⟩,(zA ⟨⟨tv,dT _⟩,tv⟩ zB),⟨dT _,tv,tv⟩,(zA ⟨dT _,tv⟩ zB)⟩
def zOk(qq:Nat)(p0 p1:List Tm):Option (List Tm×Int):=
 C4 qq p0 p1>>=fun r1=>
 some (r1.1,r1.2)
theorem zXe{qq p0 p1 r}(h:zOk qq p0 p1=some r):Ct 163 [] [slv zG p0 .no,slv zG p1 .no] (.tup [.sl (zK zG r.1) r.1.length .no,ai r.2]) [] 0:=⟨by
 unfold zOk at h
 obtain⟨r1,h2,h⟩:=zC h
 cases h
 exact tF ⟨Tryz.func163,rfl⟩ 2 [] (oD (dT r1.1)<|oC 0 [0] (zOl h2) o0),⟨⟨tv,dT _⟩,⟨tv,dT _⟩,tv⟩,zB,⟨dT _,tv,tv⟩,zB⟩
mutual
def mK:Nat->List zD->Int->Int->Option Int
 |0,_,_,_=>none
 |qq+1,p0,v10,v3=>
 if decide (v10<(p0.length:Int))then
 zS p0 v10>>=fun x2=>
 z8 qq x2.type_>>=fun r4=>
 iB qq p0 v10 r4 0 (mP v3 (w64 (x2.n_+1)))
 else
 some v3
def iB:Nat->List zD->Int->List Int->Int->Int->Option Int
 |0,_,_,_,_,_=>none
 |qq+1,p0,v10,r4,v23,v3=>
 if decide (v23<(r4.length:Int))then
 zS r4 v23>>=fun x7=>
 iB qq p0 v10 r4 (w64 (v23+1)) (mP v3 (w64 (x7+1)))
 else
 mK qq p0 (w64 (v10+1)) v3
end
def zRq(qq:Nat)(p0:List zD):Option Int:=
 mK qq p0 0 0
theorem Y2:∀qq:Nat,(∀ {p0 v10 v3 r},mK qq p0 v10 v3=some r->(∀j,dL 0 (pt 4021 Tryz.f164) (sp j 34 0 [(3,ai v3),(8,slv zJ p0 .no),(9,ai (p0.length:Int)),(10,ai v10)]) (⟨[],0,[],0,[]⟩) (fQ 0 (nQ 0 Tryz.f164 (ai r) [] 0) [.blk 0,.seq (pt 63 Tryz.f164)])))∧(∀ {p0 v10 r4 v23 v3 r},iB qq p0 v10 r4 v23 v3=some r->(∀j,dL 0 (pt 1054337013 Tryz.f164) (sp j 34 0 [(3,ai v3),(8,slv zJ p0 .no),(9,ai (p0.length:Int)),(10,ai v10),(21,slv yB r4 .no),(22,ai (r4.length:Int)),(23,ai v23)]) (⟨[],0,[],0,[]⟩) (fQ 0 (nQ 0 Tryz.f164 (ai r) [] 0) [.blk 2,.blk 1,.seq (pt 257407 Tryz.f164),.loop (pt 4021 Tryz.f164),.blk 0,.seq (pt 63 Tryz.f164)]))):=by
 intro qq
 induction qq with
 |zero=>
  exact⟨fun h=>nn h,fun h=>nn h⟩
 |succ qq ih=>
  obtain⟨zOj,zEa⟩:=ih
  refine⟨?_,?_⟩
  intro p0 v10 v3 r h
  rw[mK]at h
  obtain⟨h1,h⟩|⟨h1,h⟩:=spl h
  obtain⟨x2,h3,h⟩:=zC h
  obtain⟨r4,h5,h⟩:=zC h
  exact fun j=>lH 1 [] [] [] [3,8,9,10,21,22,23] (oD (dI r4)<|oD (zF p0)<|oC 6 [] (zJq h5)<|oA 0 (E1 (o:=.no) h3)<|oB 0 h1 o0) (zEa h)
  obtain rfl:=sj h
  exact fun j=>lF 0 [] (oB 0 h1 o0)
  intro p0 v10 r4 v23 v3 r h
  rw[iB]at h
  obtain⟨h6,h⟩|⟨h6,h⟩:=spl h
  obtain⟨x7,h8,h⟩:=zC h
  exact fun j=>lH 4 [] [] [] [3,8,9,10,21,22,23] (oD (dI r4)<|oD (zF p0)<|oA 0 (nU (o:=.no) h8)<|oB 0 h6 o0) (zEa h)
  exact fun j=>lH 1 [] [] [] [3,8,9,10] (oD (zF p0)<|oB 0 h6 o0) (zOj h)
theorem zXd{qq p0 r}(h:zRq qq p0=some r):Ct 164 [] [slv zJ p0 .no] (ai r) [] 0:=⟨by
 unfold zRq at h
 exact tH ⟨Tryz.func164,rfl⟩ 1 [] [] [] [3,8,9,10] (oD (zF p0) o0) ((Y2 _).1 h),⟨⟨tv,zF _⟩,tv⟩,zB,tv,zB⟩
def zKB(qq:Nat)(p0:Tm)(p1:List Tm):Option (Tm×Int):=
 u6 qq p1>>=fun r1=>
 match r1 with
 | .inl y3=>
  eJ qq p0 []>>=fun r4=>
  some (r4.1,r4.2)
 | .inr y6=>
  eJ qq p0 y6>>=fun r7=>
  some (r7.1,r7.2)
theorem zWt:Qf 166 Tryz.f166:=⟨Tryz.func166,rfl⟩
theorem zWs{qq p0 p1 r}(h:zKB qq p0 p1=some r):Ct 166 [] [tmA p0,slv zG p1 .no] (.tup [tmA r.1,ai r.2]) [] 0:=⟨by
 unfold zKB at h
 obtain⟨r1,h2,h⟩:=zC h
 rcases r1 with y3|y6
 dsimp only at h
 obtain⟨r4,h5,h⟩:=zC h
 cases h
 exact tF zWt 3 [] (oD (dT r4.1.sub)<|oC 0 [] (L6 h5)<|oC 1 [] (zEc h2) o0)
 dsimp only at h
 obtain⟨r7,h8,h⟩:=zC h
 cases h
 exact tF zWt 3 [] (oD (dT r7.1.sub)<|oC 0 [] (L6 h8)<|oC 1 [] (zEc h2) o0),⟨⟨tv,tv,⟨tv,dT _⟩,tv⟩,⟨tv,dT _⟩,tv⟩,zB,⟨⟨tv,tv,dT _,tv⟩,tv,tv⟩,zB⟩
def iC:Nat->List Tm->Int->Option Bool
 |0,_,_=>none
 |qq+1,p0,v7=>
 if decide (v7<(p0.length:Int))then
 zS p0 v7>>=fun x2=>
 e52 qq x2>>=fun r4=>
 if r4 then
 zBC qq x2>>=fun r7=>
 if decide (r7>v7)then
 some false
 else
 iC qq p0 (w64 (v7+1))
 else
 some false
 else
 some true
def zRp(qq:Nat)(p0:List Tm):Option Bool:=
 iC qq p0 0
theorem zRo:∀qq:Nat,(∀ {p0 v7 r},iC qq p0 v7=some r->(∀j,dL 0 (pt 949 Tryz.f202) (sp j 22 0 [(5,slv zG p0 .no),(6,ai (p0.length:Int)),(7,ai v7)]) (⟨[],0,[],0,[]⟩) (fQ 0 (nQ 0 Tryz.f202 (ab r) [] 0) [.blk 0,.seq (pt 15 Tryz.f202)]))):=by
 intro qq
 induction qq with
 |zero=>
  exact fun h=>nn h
 |succ qq ih=>
  intro p0 v7 r h
  rw[iC]at h
  obtain⟨h1,h⟩|⟨h1,h⟩:=spl h
  obtain⟨x2,h3,h⟩:=zC h
  obtain⟨r4,h5,h⟩:=zC h
  have k:=oA 0 (xB (o:=.no) h3)<|oB 0 h1 o0
  obtain⟨h6,h⟩|⟨h6,h⟩:=spl h
  obtain⟨r7,h8,h⟩:=zC h
  have k:=oC 2 [] (zTd h8)<|oK 3 [] h6 (c52 h5) k
  obtain⟨h9,h⟩|⟨h9,h⟩:=spl h
  cases h
  exact fun j=>lF 0 [] (oB 0 h9 k)
  exact fun j=>lH 1 [] [] [] [5,6,7] (oD (dT p0)<|oB 0 h9 k) (ih h)
  cases h
  exact fun j=>lF 1 [] (oK 3 [] h6 (c52 h5) k)
  cases h
  exact fun j=>lF 0 [] (oB 0 h1 o0)
theorem zWr{qq p0 r}(h:zRp qq p0=some r):Ct 202 [] [slv zG p0 .no] (ab r) [] 0:=⟨by
 unfold zRp at h
 exact tH ⟨Tryz.func202,rfl⟩ 1 [] [] [] [5,6,7] (oD (dT p0) o0) (zRo _ h),⟨⟨tv,dT _⟩,tv⟩,zB,tv,zB⟩
def iD:Nat->List Tm->Int->Int->List zD->Option (List zD×Int)
 |0,_,_,_,_=>none
 |qq+1,p0,p1,v34,v6=>
 if decide (v34<(p0.length:Int))then
 zS p0 v34>>=fun x9=>
 zGa qq v6>>=fun r11=>
 zKB qq x9 r11>>=fun r13=>
 if r13.2 != 0 then
 some ([],r13.2)
 else
 yN 48 v6 [(zD.mk (w64 (p1+v34)) r13.1)]>>=fun l16=>
 iD qq p0 p1 (w64 (v34+1)) l16
 else
 some (v6,0)
def zOi(qq:Nat)(p0:List Tm)(p1:Int):Option (List zD×Int):=
 if decide (p1<0)then
 some ([],5)
 else
 if decide (p1>1048576)then
 some ([],5)
 else
 if decide ((p0.length:Int)>(w64 (1048576-p1)))then
 some ([],5)
 else
 zRp qq p0>>=fun r4=>
 if r4 then
 if decide ((p0.length:Int)>24)then
 some ([],2)
 else
 iD qq p0 p1 0 []
 else
 some ([],5)
theorem zKC:Qf 165 Tryz.f165:=⟨Tryz.func165,rfl⟩
theorem zRn:∀qq:Nat,(∀ {p0 p1 v34 v6 r},iD qq p0 p1 v34 v6=some r->(∀j,dL 0 (pt 65461 Tryz.f165) (sp j 59 0 [(1,ai p1),(6,slv zJ v6 (.st 0 4)),(32,slv zG p0 .no),(33,ai (p0.length:Int)),(34,ai v34)]) (⟨[],0,[0],1,[]⟩) (fQ 0 (nQ 0 Tryz.f165 (.tup [.sl (zK zJ r.1) r.1.length .no,ai r.2]) [] 0) [.blk 0,.seq (pt 1023 Tryz.f165)]))):=by
 intro qq
 induction qq with
 |zero=>
  exact fun h=>nn h
 |succ qq ih=>
  intro p0 p1 v34 v6 r h
  rw[iD]at h
  obtain⟨h8,h⟩|⟨h8,h⟩:=spl h
  obtain⟨x9,h10,h⟩:=zC h
  obtain⟨r11,h12,h⟩:=zC h
  obtain⟨r13,h14,h⟩:=zC h
  have k:=oC 0 [] (zWs h14)<|oC 3 [] (zTK h12)<|oA 0 (xB (o:=.no) h10)<|oB 0 h8 o0
  obtain⟨h15,h⟩|⟨h15,h⟩:=spl h
  cases h
  exact fun j=>lF 0 [] (oD (zF ([]:List zD))<|oB 3 h15 k)
  obtain⟨l16,h17,h⟩:=zC h
  exact fun j=>lH 1 [] [] [1] [1,6,32,33,34] (oD (dT p0)<|oD (zF l16)<|oP 3 (zHw h17 (by simp))<|oB 3 h15 k) (ih h)
  cases h
  exact fun j=>lF 0 [] (oD (zF v6)<|oB 0 h8 o0)
theorem zXc{qq p0 p1 r}(h:zOi qq p0 p1=some r):Ct 165 [] [slv zG p0 .no,ai p1] (.tup [.sl (zK zJ r.1) r.1.length .no,ai r.2]) [] 0:=⟨by
 unfold zOi at h
 obtain⟨h1,h⟩|⟨h1,h⟩:=spl h
 cases h
 exact tF zKC 0 [] (oD (zF ([]:List zD))<|oB 0 h1 o0)
 have k:=oB 0 h1 o0
 obtain⟨h2,h⟩|⟨h2,h⟩:=spl h
 cases h
 exact tF zKC 0 [] (oD (zF ([]:List zD))<|oB 0 h2 k)
 have k:=oB 0 h2 k
 obtain⟨h3,h⟩|⟨h3,h⟩:=spl h
 cases h
 exact tF zKC 0 [] (oD (zF ([]:List zD))<|oB 2 h3 k)
 obtain⟨r4,h5,h⟩:=zC h
 have k:=oB 2 h3 k
 obtain⟨h6,h⟩|⟨h6,h⟩:=spl h
 have k:=oK 0 [] h6 (zWr h5) k
 obtain⟨h7,h⟩|⟨h7,h⟩:=spl h
 cases h
 exact tF zKC 0 [] (oD (zF ([]:List zD))<|oB 2 h7 k)
 exact tH zKC 1 [(none,6,4)] [] [0] [1,6,32,33,34] (oD (dT p0)<|oD (zF ([]:List zD))<|oB 2 h7 k) (zRn _ h)
 cases h
 exact tF zKC 1 [] (oD (zF ([]:List zD))<|oK 0 [] h6 (zWr h5) k),⟨⟨tv,dT _⟩,tv,tv⟩,zB,⟨zF _,tv,tv⟩,zB⟩
theorem zEA{α:Type}{l:List α}{k:Nat}(x:α)(h:k<l.length):iZ l k x=some (l.set k x):=by unfold iZ;rw[if_pos h]
theorem zOh(P:Tm->Prop)(q0:List Tm)(hq:q0.length≤1000000):∀(m i:Nat) (j:Int) (vb:List Tm),j-i≤m->-1≤j->j<q0.length->i≤q0.length->vb.length=q0.length->(∀x∈vb,P x)->Tot (fun q=>sO q q0 (i:Int) j vb) fun r=>r.length=q0.length∧∀x∈r,P x:=by
 intro m
 induction m with
 |zero=>
  intro i j vb hm h0 h1 h2 hl ho
  refine Tot.succ ?_
  simp only[sO]
  refine Tot.ite (fun h=>?_) fun _=>Tot.ret ⟨hl,ho⟩
  have:=of_decide_eq_true h;omega
 |succ m ih=>
  intro i j vb hm h0 h1 h2 hl ho
  refine Tot.succ ?_
  simp only[sO]
  refine Tot.ite (fun h=>?_) fun _=>Tot.ret ⟨hl,ho⟩
  have h':=of_decide_eq_true h
  obtain⟨k,rfl⟩:∃k:Nat,j=(k:Int):=⟨j.toNat,by omega⟩
  have hset:∀ {l:List Tm} (_:∀x∈l,P x) (k:Nat) {x:Tm} (_:P x),∀y∈l.set k x,P y:=fun h k x hx y hy=>by
   rcases List.mem_or_eq_of_mem_set hy with h'|rfl
   ·exact h y h'
   ·exact hx
  refine Tot.pure (qG (by omega)) (Tot.pure (vG (List.getElem?_eq_getElem (by omega))) (Tot.pure (qG (by omega)) (Tot.pure (vG (List.getElem?_eq_getElem (by omega))) (Tot.pure (zEA _ (by omega)) (Tot.pure (zEA _ (by simp;omega)) ?_)))))
  rw[zW i (by omega),yJ (x:=(k:Int)-1) (by omega) (by omega)]
  exact ih (i+1) ((k:Int)-1) _ (by omega) (by omega) (by omega) (by omega) (by simp[hl]) (hset (hset ho _ (ho _ (List.getElem_mem _))) _ (ho _ (List.getElem_mem _)))
theorem zOg(l:List Tm)(h:l.length≤1000000):Evt (fun q=>E9 q l) (if l=[]then .inl ()else .inr l):=by
 refine Evt.mk fun q=>?_
 unfold E9
 by_cases hl:l=[]
 ·subst hl;rfl
 ·rw[if_neg (by simpa using hl),if_neg hl,yG (by simp;omega)];rfl
theorem H3(ls:List Tm)(h:ls.length≤1000000):Tot (fun q=>u6 q ls) fun r=>(∃y,r = .inl y∧ls=[])∨∃y,r = .inr y∧y.length=ls.length∧∀x∈y,x∈ls:=by
 simp only[u6]
 by_cases hl:ls=[]
 ·subst hl
  refine Tot.bind (P:=fun r=>r = .inl ()) (((zOg [] h).eq (if_pos rfl)).tot rfl) ?_
  rintro r rfl
  refine Tot.bind (P:=fun _=>True) ⟨(),Evt.mk fun _=>rfl,trivial⟩ fun _ _=>Tot.ret (.inl ⟨(),rfl,rfl⟩)
 ·refine Tot.bind (P:=fun r=>r = .inr ls) (((zOg ls h).eq (if_neg hl)).tot rfl) ?_
  rintro r rfl
  have hpos:=List.length_pos_iff.2 hl
  refine Tot.bind (P:=fun r=>r.length=ls.length∧∀x∈r,x∈ls) ?_ fun r hr=>Tot.pure (a:=r) (by unfold gfz;rw[if_pos hr.1]) (Tot.ret (.inr ⟨r,rfl,hr⟩))
  simp only[C3]
  rw[yJ (x:=(ls.length:Int)-1) (by omega) (by omega)]
  exact zOh (fun x=>x∈ls) ls h ls.length 0 _ ls (by omega) (by omega) (by omega) (by omega) rfl fun x hx=>hx
theorem zWq{ls:List Tm}{t:Tm}{b:Int}{z:Int}(h:z∈frT (siT ls t b)):z∈frT t∨∃a∈ls,z∈frT a:=by
 refine(qF (Q:=fun z=>z∈frT t∨∃a∈ls,z∈frT a)).2 (N6 ls (fun a ha=>?_) t b ?_) z h
 ·exact tR (fun k n h e=>.inr ⟨a,ha,h e⟩) (qF.1 fun x (h:x∈frT a)=>h)
 ·exact tR (fun k n h e=>.inl (h e)) (qF.1 fun x (h:x∈frT t)=>h)
def zWp(t:Tm)(ls:List Tm)(r:Tm×Int):Prop:=r.1.Ok∧(r.2=0->zL r.1=true∧∀z∈frT r.1,z∈frT t∨∃a∈ls,z∈frT a)
theorem zAv(t:Tm)(y ls:List Tm)(ht:t.Ok)(hy:∀a∈y,a.Ok)(hl:y.length≤1000000)(hm:∀x∈y,x∈ls):Tot (fun q=>eJ q t y) (zWp t ls):=by
 refine(N2 t y ht hy (by omega)).tot ⟨N3 t y ht hy,fun h=>?_⟩
 obtain⟨-,-,h3,h4⟩:=zBt h
 rw[h4]
 refine⟨h3,fun z hz=>?_⟩
 rcases zWq hz with h|⟨a,ha,h⟩
 ·exact .inl h
 ·exact .inr ⟨a,hm a ha,h⟩
theorem zAu(t:Tm)(ls:List Tm)(ht:t.Ok)(h:ls.length≤1000000)(ho:∀a∈ls,a.Ok):Tot (fun q=>zKB q t ls) (zWp t ls):=by
 simp only[zKB]
 refine(H3 ls h).bind fun r hr=>?_
 rcases hr with⟨y,rfl,e⟩|⟨y,rfl,e,hm⟩
 ·exact(zAv t [] ls ht (fun _ h=>nomatch h) (by simp) (fun _ h=>nomatch h)).bind fun r hr=>Tot.ret hr
 ·exact(zAv t y ls ht (fun a ha=>ho a (hm a ha)) (by omega) hm).bind fun r hr=>Tot.ret hr
theorem zKD(i:Nat)(hi:i≤65535)(t:Tm)(ht:t.Ok)(ls:List Tm)(h:ls.length≤1000000)(ho:∀a∈ls,a.Ok):Tot (fun q=>fE q (i:Int) t ls) fun r=>r.1.Ok:=by
 have many:∀y:List Tm,(∀a∈y,a.Ok)->y.length≤1000000000->Tot (fun q=>eJ q t y>>=fun r=>some (r.1,r.2)) fun r=>r.1.Ok:=fun y hy hl=>
  Tot.bind (P:=fun r=>r.1.Ok) ((N2 t y ht hy (by omega)).tot (N3 t y ht hy)) fun r hr=>Tot.ret hr
 have rest:∀(r4:List Tm×Int),OkA r4.1->r4.1.length≤1000000->Tot (fun q=>if (r4.2 != 0)=true then some (Tm.mk 0 0 [],r4.2)else zDd q (i:Int)>>=fun r7=>u6 q r7>>=fun r9=>match r9 with
   |Sum.inl y11=>yN 40 ([]:List Tm) r4.1>>=fun l12=>eJ q t l12>>=fun r15=>some (r15.1,r15.2)
   |Sum.inr y17=>yN 40 y17 r4.1>>=fun l18=>eJ q t l18>>=fun r21=>some (r21.1,r21.2)) fun r=>r.1.Ok:=fun r4 ha hl=>by
  refine Tot.ite (fun _=>Tot.ret (xK 0 0)) fun _=>Tot.bind (P:=fun r=>r=lO i) ((zHJ i (by omega)).tot rfl) fun r7 h7=>?_
  subst h7
  have hv:∀m:Nat,(lO m).length=m∧∀x∈lO m,x.Ok:=fun m=>by
   induction m with
   |zero=>exact⟨rfl,fun x h=>nomatch h⟩
   |succ m ih=>
    refine⟨by rw[lO,List.length_cons,ih.1],fun x hx=>?_⟩
    rw[lO,List.mem_cons]at hx
    rcases hx with rfl|hx
    ·exact xK 1 m
    ·exact ih.2 x hx
  refine(H3 (lO i) (by rw[(hv i).1];omega)).bind fun r9 h9=>?_
  rcases h9 with⟨y,rfl,-⟩|⟨y,rfl,e,hm⟩
  ·refine Tot.pure (yG (by simp only[List.length_nil];omega)) (many _ (fun a h=>?_) (by simp only[List.nil_append];omega))
   rw[List.nil_append]at h;exact ha a h
  ·rw[(hv i).1]at e
   refine Tot.pure (yG (by omega)) (many _ (fun a h=>?_) (by simp only[List.length_append];omega))
   rcases List.mem_append.1 h with h|h
   ·exact(hv i).2 a (hm a h)
   ·exact ha a h
 simp only[fE]
 refine(H3 ls h).bind fun r hr=>?_
 rcases hr with⟨y,rfl,e⟩|⟨y,rfl,e,hm⟩
 ·exact(U7 [] (i:Int) 0 (by simp) (fun _ h=>nomatch h)).bind fun r4 h4=>rest r4 h4.1.1 (by have:=h4.2;simp at this;simp[this])
 ·exact(U7 y (i:Int) 0 (by omega) (fun a ha=>ho a (hm a ha))).bind fun r4 h4=>rest r4 h4.1.1 (by have:=h4.2;omega)
theorem zAt(p0 ls:List Tm)(hp:p0.length≤65535)(ho0:OkA p0)(h:ls.length≤1000000)(ho:∀a∈ls,a.Ok):∀(r:List Tm) (v:Nat) (acc:List Tm),p0.drop v=r->acc.length=v->v≤p0.length->OkA acc->Tot (fun q=>sP q p0 ls (v:Int) acc) fun x=>OkA x.1∧x.1.length≤p0.length
 | [],v,acc,hd,ha,hv,hoa=>by
  refine Tot.succ ?_
  simp only[sP]
  refine Tot.ite (fun h=>?_) fun _=>Tot.ret ⟨hoa,by show acc.length≤_;omega⟩
  rw[zZ hd]at h;cases h
 |t::r,v,acc,hd,ha,hv,hoa=>by
  have hlt:=yC hd
  have ht:t∈p0:=List.mem_of_mem_drop (by rw[hd];simp)
  refine Tot.succ ?_
  simp only[sP]
  refine Tot.ite (fun _=>Tot.pure (zX hd) ((zKD v (by omega) t (ho0 t ht) ls h ho).bind fun r4 h4=>Tot.ite (fun _=>Tot.ret ⟨(fun x hx=>nomatch hx),Nat.zero_le _⟩) fun _=>Tot.pure (yG (by simp;omega)) ?_)) fun h=>?_
  ·rw[zW v (by omega)]
   refine zAt p0 ls hp ho0 h ho r (v+1) _ (zU hd) (by simp;omega) hlt fun x hx=>?_
   rcases List.mem_append.1 hx with hx|hx
   ·exact hoa x hx
   ·rw[List.mem_singleton.1 hx];exact h4
  ·rw[zY hd]at h;cases h
theorem zEB(p0 ls:List Tm)(hp:p0.length≤65535)(ho0:OkA p0)(h:ls.length≤1000000)(ho:∀a∈ls,a.Ok):Tot (fun q=>zOk q p0 ls) fun x=>OkA x.1∧x.1.length≤p0.length:=by
 simp only[zOk,C4]
 exact(zAt p0 ls hp ho0 h ho _ 0 [] rfl rfl (Nat.zero_le _) (fun x h=>nomatch h)).bind fun r hr=>Tot.ret hr
def eO(c:List zD):List Tm:=c.map fun v=>.mk 8 v.n_ []
theorem zAs(c:List zD)(hl:c.length≤1048576):∀(r:List zD) (v:Nat) (acc:List Tm),c.drop v=r->v≤c.length->acc=eO (c.take v)->Evt (fun q=>iA q c acc (v:Int)) (eO c)
 | [],v,acc,hd,hv,ha=>by
  refine Evt.succ ?_
  simp only[iA]
  refine Evt.ifF (zZ hd) (Evt.ret.eq ?_)
  rw[ha,List.take_of_length_le (List.drop_eq_nil_iff.1 hd)]
 |x::r,v,acc,hd,hv,ha=>by
  have hlt:=yC hd
  have hf:Evt (fun q=>zRt q x.n_) (.mk 8 x.n_ []):=Evt.mk fun _=>rfl
  refine Evt.succ ?_
  simp only[iA]
  refine Evt.ifT (zY hd) (Evt.pure (zX hd) (hf.bind (Evt.pure (yG (by rw[ha];unfold eO;simp;omega)) ?_)))
  rw[zW v (by omega)]
  exact zAs c hl r (v+1) _ (zU hd) hlt (by rw[tS hd,ha];unfold eO;simp)
theorem Y3(c:List zD)(hl:c.length≤1048576):Evt (fun q=>zGa q c) (eO c):=by
 simp only[zGa]
 exact zAs c hl c 0 [] rfl (Nat.zero_le _) rfl
theorem zBM(c:List zD):∀t∈eO c,t.Ok:=fun t ht=>by
 obtain⟨v,-,rfl⟩:=List.mem_map.1 ht
 exact xK 8 v.n_
theorem zIl{c:List zD}{t:Tm}(h:t∈eO c){z:Int}(hz:z∈frT t):∃v∈c,v.n_=z:=by
 obtain⟨v,hv,rfl⟩:=List.mem_map.1 h
 have e:frT (Tm.mk 8 v.n_ [])=[v.n_]:=by simp[frT,sQ,aA]
 rw[e]at hz
 exact⟨v,hv,(List.mem_singleton.1 hz).symm⟩
theorem Y4(p0:List Tm)(hp:p0.length≤65535)(ho:OkA p0):∀(r:List Tm) (v:Nat),p0.drop v=r->Tot (fun q=>iC q p0 (v:Int)) fun _=>True
 | [],v,hd=>by
  refine Tot.succ ?_
  simp only[iC]
  refine Tot.ite (fun h=>?_) fun _=>Tot.ret trivial
  rw[zZ hd]at h;cases h
 |t::r,v,hd=>by
  have hlt:=yC hd
  have ht:=ho t (List.mem_of_mem_drop (by rw[hd];simp))
  have hL:∀h:zL t=true,Evt (fun q=>zBC q t) (nC t 0):=fun h=>by
   have hh:=zQ h
   simp only[zBC]
   exact(yO t ht).bind (Evt.ifT h ((aD t 0 hh.2.2 (by omega) (by omega)).bind Evt.ret))
  refine Tot.succ ?_
  simp only[iC]
  refine Tot.ite (fun _=>Tot.pure (zX hd) (Tot.bind (P:=fun b=>b=zL t) ((yO t ht).tot rfl) fun b hb=>Tot.ite (fun h=>?_) fun _=>Tot.ret trivial)) fun h=>?_
  ·rw[hb]at h
   refine Tot.bind (P:=fun _=>True) ((hL h).tot trivial) fun x _=>Tot.ite (fun _=>Tot.ret trivial) fun _=>?_
   rw[zW v (by omega)]
   exact Y4 p0 hp ho r (v+1) (zU hd)
  ·rw[zY hd]at h;cases h
theorem zAr(p0:List Tm)(hp:p0.length≤24)(ho:OkA p0)(from0:Int)(h0:0≤from0)(h1:from0≤1048576):∀(r:List Tm) (v:Nat) (acc:List zD),p0.drop v=r->acc.length=v->v≤p0.length->(∀w∈acc,from0≤w.n_∧w.type_.Ok) ->
  Tot (fun q=>iD q p0 from0 (v:Int) acc) fun x=>(∀w∈x.1,from0≤w.n_∧w.type_.Ok)∧x.1.length≤24
 | [],v,acc,hd,ha,hv,hoa=>by
  refine Tot.succ ?_
  simp only[iD]
  refine Tot.ite (fun h=>?_) fun _=>Tot.ret ⟨hoa,by show acc.length≤_;omega⟩
  rw[zZ hd]at h;cases h
 |t::r,v,acc,hd,ha,hv,hoa=>by
  have hlt:=yC hd
  have ht:t∈p0:=List.mem_of_mem_drop (by rw[hd];simp)
  refine Tot.succ ?_
  simp only[iD]
  refine Tot.ite (fun _=>Tot.pure (zX hd) (Tot.bind (P:=fun r=>r=eO acc) ((Y3 acc (by omega)).tot rfl) fun r11 h11=>?_)) fun h=>?_
  ·subst h11
   refine(zAu t (eO acc) (ho t ht) (by unfold eO;simp;omega) (zBM acc)).bind fun r13 h13=>Tot.ite (fun _=>Tot.ret ⟨(fun x hx=>nomatch hx),by simp⟩) fun _=>Tot.pure (yG (by simp;omega)) ?_
   rw[zW v (by omega),yJ (x:=from0+v) (by omega) (by omega)]
   refine zAr p0 hp ho from0 h0 h1 r (v+1) _ (zU hd) (by simp;omega) hlt fun x hx=>?_
   rcases List.mem_append.1 hx with hx|hx
   ·exact hoa x hx
   ·rw[List.mem_singleton.1 hx];exact⟨by show from0≤from0+v;omega,h13.1⟩
  ·rw[zY hd]at h;cases h
theorem zOf(p0:List Tm)(hp:p0.length≤65535)(ho:OkA p0)(from0:Int)(h0:0≤from0):Tot (fun q=>zOi q p0 from0) fun x=>(∀w∈x.1,from0≤w.n_∧w.type_.Ok)∧x.1.length≤24:=by
 have no:∀e:Int,Tot (fun _:Nat=>some (([]:List zD),e)) fun x=>(∀w∈x.1,from0≤w.n_∧w.type_.Ok)∧x.1.length≤24:=fun e=>Tot.ret ⟨(fun x hx=>nomatch hx),by simp⟩
 simp only[zOi,zRp]
 refine Tot.ite (fun _=>no 5) fun _=>Tot.ite (fun _=>no 5) fun h1=>Tot.ite (fun _=>no 5) fun _=>(Y4 p0 hp ho _ 0 rfl).bind fun b _=>Tot.ite (fun _=>Tot.ite (fun _=>no 2) fun h2=>?_) fun _=>no 5
 have h1:=of_decide_eq_false h1
 have h2:=of_decide_eq_false h2
 exact zAr p0 (by omega) ho from0 h0 (by omega) _ 0 [] rfl rfl (Nat.zero_le _) fun x h=>nomatch h
mutual
theorem Y5:∀ {t:Tm},xA t=true->yT (fun k n=>k=8->n≤1048576∧0≤n) t
 | .mk k n l,hg=>by
  have hh:=wV hg
  have hn:=mS hh.1
  rw[yT]
  exact⟨.inr fun _=>⟨hn.2.1,hn.1⟩,Y6 hh.2⟩
theorem Y6:∀ {l:List Tm},wK l=true->xU (fun k n=>k=8->n≤1048576∧0≤n) l
 | [],_=>by rw[xU];trivial
 |t::l,hg=>by
  have h:=xW hg
  rw[xU]
  exact⟨Y5 h.1,Y6 h.2⟩
end
theorem zAq(c:List zD)(L:List Int)(hl:L.length≤65535)(hb:∀x∈L,x≤1048576∧0≤x)(v:Nat)(K:Int->Prop)(hK:∀m m',m≤m'->m'≤1048577->K m->K m'){Q:Int->Prop}(go:∀m,0≤m->m≤1048577->K m->Tot (fun q=>mK q c (w64 ((v:Int)+1)) m) Q):∀(r:List Int) (k:Nat) (m:Int),L.drop k=r->0≤m->m≤1048577->K m->Tot (fun q=>iB q c (v:Int) L (k:Int) m) Q
 | [],k,m,hd,h0,h1,hk=>by
  refine Tot.succ ?_
  simp only[iB]
  refine Tot.ite (fun h=>?_) fun _=>go m h0 h1 hk
  rw[zZ hd]at h;cases h
 |x::r,k,m,hd,h0,h1,hk=>by
  have hlt:=yC hd
  have hx:=hb x (List.mem_of_mem_drop (by rw[hd];simp))
  refine Tot.succ ?_
  simp only[iB]
  refine Tot.ite (fun _=>Tot.pure (zX hd) ?_) fun h=>?_
  ·rw[zW k (by omega),yJ (x:=x+1) (by omega) (by omega),aC]
   exact zAq c L hl hb v K hK go r (k+1) _ (zU hd) (by omega) (by omega) (hK m _ (by omega) (by omega) hk)
  ·rw[zY hd]at h;cases h
theorem zAp(c:List zD)(hl:c.length≤65535)(hc:gP c):∀(r:List zD) (v:Nat) (m:Int),c.drop v=r->0≤m->m≤1048577->(∀w∈c.take v,w.n_<m)->Tot (fun q=>mK q c (v:Int) m) fun x=>0≤x∧x≤1048577∧∀w∈c,w.n_<x
 | [],v,m,hd,h0,h1,hk=>by
  refine Tot.succ ?_
  simp only[mK]
  refine Tot.ite (fun h=>?_) fun _=>Tot.ret ⟨h0,h1,fun w hw=>hk w ?_⟩
  ·rw[zZ hd]at h;cases h
  ·rwa[List.take_of_length_le (List.drop_eq_nil_iff.1 hd)]
 |x::r,v,m,hd,h0,h1,hk=>by
  have hlt:=yC hd
  have hx:=hc.each x (List.mem_of_mem_drop (by rw[hd];simp))
  have hn:lE x.type_ 8 8=wG (sQ x.type_ 8 8):=by unfold lE;rw[if_pos hx.2.2.1]
  refine Tot.succ ?_
  simp only[mK]
  refine Tot.ite (fun _=>Tot.pure (zX hd) (Tot.bind (P:=fun r=>r=wG (sQ x.type_ 8 8)) (((lI x.type_ (zV hx.2.2.1)).eq hn).tot rfl) fun L hL=>?_)) fun h=>?_
  ·subst hL
   have hcl:=pB x.type_ 8 8
   have hnn:=(zQ hx.2.2.1).1
   have hrl:=pJ (sQ x.type_ 8 8)
   rw[yJ (x:=x.n_+1) (by omega) (by omega),aC]
   refine zAq c (wG (sQ x.type_ 8 8)) (by omega) (fun z hz=>?_) v (fun m=>∀w∈c.take (v+1),w.n_<m) (fun a b h1 _ h w hw=>by have:=h w hw;omega) (fun m h0 h1 hm=>?_) _ 0 _ rfl (by omega) (by omega) fun w hw=>?_
   ·have hz':=(rT z _).1 hz
    have hg:=(zQ hx.2.2.1).2.2
    exact(qF (Q:=fun z=>z≤1048576∧0≤z)).2 (Y5 hg) z hz'
   ·rw[zW v (by omega)]
    exact zAp c hl hc r (v+1) m (zU hd) h0 h1 hm
   ·rw[tS hd]at hw
    rcases List.mem_append.1 hw with hw|hw
    ·have:=hk w hw;omega
    ·rw[List.mem_singleton.1 hw];omega
  ·rw[zY hd]at h;cases h
open Go.RowKit Go.Proofs
theorem zWo{α:Type}(l:List α)(h:l.length=4):∃c0 c1 c2 c3,l=[c0,c1,c2,c3]:=by
 rcases l with _|⟨c0,_|⟨c1,_|⟨c2,_|⟨c3,_|⟨zz,zs⟩⟩⟩⟩⟩<;>simp only[List.length_nil,List.length_cons]at h<;>first|exact⟨c0,c1,c2,c3,rfl⟩|omega
theorem zWn{α:Type}(l:List α)(h:l.length=2):∃c0 c1,l=[c0,c1]:=by
 rcases l with _|⟨c0,_|⟨c1,_|⟨zz,zs⟩⟩⟩<;>simp only[List.length_nil,List.length_cons]at h<;>first|exact⟨c0,c1,rfl⟩|omega
theorem zEC{H:Type}{enc:TypeId×Value->H}{W:World}(fuel:Nat):∀(cs:List Value) (x:DataW H×List MemPlace),DataW.trod enc Tryz.prog W 0 (fun _=>true) true fuel 77 cs=some x->Wt Tryz.prog 77 x.1->∃e:zD,VL (rdG W) W (zJ e) cs∧(fun v=>v.type_.Ok) e:=by
 intro cs x h hw
 obtain⟨xs,n,hn,hx,hlen,hxs,hf⟩:=DataW.trod_struct Tryz.underlying77 h
 rw[hx]at hw
 have cc:Tryz.prog.cellsOf 77=4:=by kernel_rfl
 obtain⟨c0,c1,c2,c3,rfl⟩:=zWo cs (hlen.trans cc)
 obtain⟨y0,y1,rfl⟩:=zWn xs hxs
 have k3:Tryz.prog.cellsOf 3=1:=by kernel_rfl
 have k39:Tryz.prog.cellsOf 39=3:=by kernel_rfl
 have f0:DataW.trod enc Tryz.prog W 0 (fun _=>true) true n 3 ((List.drop 0 [c0,c1,c2,c3]).take (Tryz.prog.cellsOf 3))=some y0:=hf 0 _ rfl
 rw[k3]at f0
 replace f0:DataW.trod enc Tryz.prog W 0 (fun _=>true) true n 3 [c0]=some y0:=f0
 have w0:Wt Tryz.prog 3 y0.1:=aB Tryz.underlying77 hw (i:=0) rfl rfl
 have f1:DataW.trod enc Tryz.prog W 0 (fun _=>true) true n 39 ((List.drop 1 [c0,c1,c2,c3]).take (Tryz.prog.cellsOf 39))=some y1:=hf 1 _ rfl
 rw[k39]at f1
 replace f1:DataW.trod enc Tryz.prog W 0 (fun _=>true) true n 39 [c1,c2,c3]=some y1:=f1
 have w1:Wt Tryz.prog 39 y1.1:=aB Tryz.underlying77 hw (i:=1) rfl rfl
 obtain⟨n0,e0,-,-⟩:=DataW.trod_int Tryz.underlying3 f0
 cases e0
 obtain⟨l1,v1,o1⟩:=zAS n _ _ f1
 simp only[tmL,VL]at v1
 refine⟨zD.mk n0 l1,?_,o1⟩
 simp only[zJ]
 simp only[VL]
 exact⟨by simp only[V],v1.1,v1.2.1,v1.2.2.1,trivial⟩
theorem zRm{H:Type}{enc:TypeId×Value->H}{W:World}{v:Value}{d:DataW H}{p:List MemPlace}(hv:∃(q:Option Addr) (m c:Nat),v = .slice q m c)(h:DataW.Trod enc Tryz.prog W 0 (fun _=>true) true 23 v d p)(hw:Wt Tryz.prog 23 d):∃l:List zD,V (rdG W) W (.sl (zK zJ l) l.length .no) v∧(∀e∈l,e.type_.Ok)∧l.length≤17592186044416:=by
 obtain⟨q,m,c,rfl⟩:=hv
 obtain⟨fuel,hf⟩:=h
 obtain⟨l,h1,h2,h3⟩:=E2 zJ 4 xJ.len (by omega) (Q:=(fun v=>v.type_.Ok)) Tryz.underlying23 (by kernel_rfl) (fun m _ cs x h hw=>zEC m cs x h hw) (n:=fuel) (by simpa[Value.cells]using hf) hw
 refine⟨l,h1,h2,?_⟩
 have:Tryz.prog.bytesOf 77=48:=by kernel_rfl
 rw[this]at h3
 have:reachBytes=140737488351232:=rfl
 omega
def zRl(qq:Nat)(p0:List Ent)(p1:Int):Option (yX × Int):=
 e87 qq p0>>=fun r1=>
 if r1 then
 zFJ qq p0 p1 2>>=fun r4=>
 if r4 then
 zJP qq p0 p1>>=fun r7=>
 some (r7,0)
 else
 some ((yX.mk [] [] []),16)
 else
 some ((yX.mk [] [] []),5)
theorem zTO:Qf 162 Tryz.f162:=⟨Tryz.func162,rfl⟩
theorem zXb{qq p0 p1 r}(h:zRl qq p0 p1=some r):Ct 162 [] [slv yP p0 .no,ai p1] (.tup [zSu r.1,ai r.2]) [] 0:=⟨by
 unfold zRl at h
 have z {os ob} (k:Oz os ob):=oD (dR ([]:List tL))<|oD (dT ([]:List Tm))<|oD (dT ([]:List Tm))<|k
 obtain⟨r1,h2,h⟩:=zC h
 obtain⟨h3,h⟩|⟨h3,h⟩:=spl h
 obtain⟨r4,h5,h⟩:=zC h
 have k:=oK 0 [] h3 (c87 h2) o0
 obtain⟨h6,h⟩|⟨h6,h⟩:=spl h
 obtain⟨r7,h8,h⟩:=zC h
 cases h
 exact tF zTO 1 [] (oD (dR r7.recs)<|oD (dT r7.inds)<|oD (dT r7.args)<|oC 1 [] (zVm h8)<|oK 1 [] h6 (zJC h5) k)
 cases h
 exact tF zTO 2 [] (z<|oK 1 [] h6 (zJC h5) k)
 cases h
 exact tF zTO 2 [] (z<|oK 0 [] h3 (c87 h2) o0),⟨⟨tv,dE _⟩,tv,tv⟩,zB,⟨⟨dT _,dT _,dR _,tv⟩,tv,tv⟩,zB⟩
def iE:Nat->yY->List Ent->List zD->Int->Int->Int->List Tm->List Tm->(yX × Int)->(List zD×Int)->List Tm->List Tm->Int->Option (List zD×List Tm×Int)
 |0,_,_,_,_,_,_,_,_,_,_,_,_,_=>none
 |qq+1,M,q0_l,q0_c,q0_n,fl,fu,q0_pars,q0_inds,r1,r10,l17,v12,v73=>
 if decide (v73<(r1.1.inds.length:Int))then
 zS r1.1.inds v73>>=fun x21=>
 zKB qq x21 l17>>=fun r23=>
 if r23.2 != 0 then
 some ([],[],r23.2)
 else
 yN 40 v12 [r23.1]>>=fun l26=>
 iE qq M q0_l q0_c q0_n fl fu q0_pars q0_inds r1 r10 l17 l26 (w64 (v73+1))
 else
 some (r10.1,v12,0)
def zOe(qq:Nat)(M:yY)(q0_l:List Ent)(q0_c:List zD)(q0_n fl fu:Int)(q0_pars q0_inds:List Tm)(p1:Int):Option (List zD×List Tm×Int):=
 zRl qq q0_l p1>>=fun r1=>
 if r1.2 != 0 then
 some ([],[],r1.2)
 else
 zOk qq r1.1.args q0_pars>>=fun r4=>
 if r4.2 != 0 then
 some ([],[],r4.2)
 else
 zRq qq q0_c>>=fun r7=>
 if decide (r7>(w64 (1048576-(r4.1.length:Int))))then
 some ([],[],2)
 else
 zOi qq r4.1 r7>>=fun r10=>
 if r10.2 != 0 then
 some ([],[],r10.2)
 else
 zJO qq q0_pars>>=fun r13=>
 zGa qq r10.1>>=fun r15=>
 yN 40 r13 r15>>=fun l17=>
 iE qq M q0_l q0_c q0_n fl fu q0_pars q0_inds r1 r10 l17 [] 0
theorem zKE:Qf 125 Tryz.f125:=⟨Tryz.func125,rfl⟩
theorem zIk:∀qq:Nat,(∀ {M q0_l q0_c q0_n fl fu q0_pars q0_inds r1 r10 l17 v12 v73 r},iE qq M q0_l q0_c q0_n fl fu q0_pars q0_inds r1 r10 l17 v12 v73=some r->(∀j,dL 4 (pt 1073741749 Tryz.f125) (sp j 93 0 [(11,slv zJ r10.1 .no),(12,slv zG v12 (.st 0 3)),(13,slv zG l17 (.st 1 3)),(71,slv zG r1.1.inds .no),(72,ai (r1.1.inds.length:Int)),(73,ai v73)]) (⟨[(0,.cells [.mp 1 0,slv yP q0_l .no,slv zJ q0_c .no,ai q0_n,.mp 3 0,slv zG q0_pars .no,slv zG q0_inds .no]),(1,mB M 2),(2,mR M),(3,.cells [ai fl,ai fu])],4,[0,1],2,[]⟩) (fQ 4 (nQ 4 Tryz.f125 (.tup [.sl (zK zJ r.1) r.1.length .no,.sl (zK zG r.2.1) r.2.1.length .no,ai r.2.2]) [.cells [.mp 1 0,slv yP q0_l .no,slv zJ q0_c .no,ai q0_n,.mp 3 0,slv zG q0_pars .no,slv zG q0_inds .no],mB M 2,mR M,.cells [ai fl,ai fu]] 0) [.blk 0,.seq (pt 16777215 Tryz.f125)]))):=by
 intro qq
 induction qq with
 |zero=>
  exact fun h=>nn h
 |succ qq ih=>
  intro M q0_l q0_c q0_n fl fu q0_pars q0_inds r1 r10 l17 v12 v73 r h
  rw[iE]at h
  have z {os ob} (k:Oz os ob):=oDM M<|oD (dT q0_inds)<|oD (dT q0_pars)<|oD (zF q0_c)<|oD (dE q0_l)<|k
  obtain⟨h20,h⟩|⟨h20,h⟩:=spl h
  obtain⟨x21,h22,h⟩:=zC h
  obtain⟨r23,h24,h⟩:=zC h
  have k:=oC 3 [] (zWs h24)<|oA 0 (xB (o:=.no) h22)<|oB 0 h20 o0
  obtain⟨h25,h⟩|⟨h25,h⟩:=spl h
  cases h
  exact fun j=>lF 0 [0,1,2,3] (oD (dT ([]:List Tm))<|oD (zF ([]:List zD))<|z<|oB 3 h25 k)
  obtain⟨l26,h27,h⟩:=zC h
  exact fun j=>lH 1 [] [0,1,2,3] [2,1] [11,12,13,71,72,73] (oD (dT r1.1.inds)<|oD (dT l17)<|oD (dT l26)<|oD (zF r10.1)<|z<|oP 0 (vD h27 (by simp))<|oS 1 (xI xN [r23.1])<|oB 3 h25 k) (ih h)
  cases h
  exact fun j=>lF 0 [0,1,2,3] (oD (dT v12)<|oD (zF r10.1)<|z<|oB 0 h20 o0)
theorem zXa{qq M q0_l q0_c q0_n fl fu q0_pars q0_inds p1 r}(h:zOe qq M q0_l q0_c q0_n fl fu q0_pars q0_inds p1=some r):Ct 125 [.cells [.mp 1 0,slv yP q0_l .no,slv zJ q0_c .no,ai q0_n,.mp 3 0,slv zG q0_pars .no,slv zG q0_inds .no],mB M 2,mR M,.cells [ai fl,ai fu]] [.mp 0 0,ai p1] (.tup [.sl (zK zJ r.1) r.1.length .no,.sl (zK zG r.2.1) r.2.1.length .no,ai r.2.2]) [.cells [.mp 1 0,slv yP q0_l .no,slv zJ q0_c .no,ai q0_n,.mp 3 0,slv zG q0_pars .no,slv zG q0_inds .no],mB M 2,mR M,.cells [ai fl,ai fu]] 0:=⟨by
 unfold zOe at h
 have z {os ob} (k:Oz os ob):=oD (dT ([]:List Tm))<|oD (zF ([]:List zD))<|oDM M<|oD (dT q0_inds)<|oD (dT q0_pars)<|oD (zF q0_c)<|oD (dE q0_l)<|k
 have z1 {os ob} (k:Oz os ob):=oDM M<|oD (dT q0_inds)<|oD (dT q0_pars)<|oD (zF q0_c)<|oD (dE q0_l)<|k
 obtain⟨r1,h2,h⟩:=zC h
 have k:=oC 1 [] (zXb h2) o0
 obtain⟨h3,h⟩|⟨h3,h⟩:=spl h
 cases h
 exact tF zKE 0 [0,1,2,3] (z<|oB 3 h3 k)
 obtain⟨r4,h5,h⟩:=zC h
 have k:=oC 2 [] (zXe h5)<|oB 3 h3 k
 obtain⟨h6,h⟩|⟨h6,h⟩:=spl h
 cases h
 exact tF zKE 0 [0,1,2,3] (z<|oB 2 h6 k)
 obtain⟨r7,h8,h⟩:=zC h
 have k:=oC 1 [] (zXd h8)<|oB 2 h6 k
 obtain⟨h9,h⟩|⟨h9,h⟩:=spl h
 cases h
 exact tF zKE 0 [0,1,2,3] (z<|oB 2 h9 k)
 obtain⟨r10,h11,h⟩:=zC h
 have k:=oC 0 [] (zXc h11)<|oB 2 h9 k
 obtain⟨h12,h⟩|⟨h12,h⟩:=spl h
 cases h
 exact tF zKE 0 [0,1,2,3] (z<|oB 2 h12 k)
 obtain⟨r13,h14,h⟩:=zC h
 obtain⟨r15,h16,h⟩:=zC h
 obtain⟨l17,h18,h⟩:=zC h
 have k:=oC 0 [] (zTK h16)<|oC 1 [] (zSN h14)<|oB 2 h12 k
 by_cases h19:List.length r15=0
 exact tH zKE 2 [(none,12,3)] [0,1,2,3] [1,0] [11,12,13,71,72,73] (oD (dT r1.1.inds)<|oD (dT l17)<|oD (dT ([]:List Tm))<|oD (zF r10.1)<|z1<|oP 0 (pP h18 h19) k) (zIk _ h)
 exact tH zKE 2 [(none,12,3)] [0,1,2,3] [2,1] [11,12,13,71,72,73] (oD (dT r1.1.inds)<|oD (dT l17)<|oD (dT ([]:List Tm))<|oD (zF r10.1)<|z1<|oP 0 (vD h18 h19) k) (zIk _ h),⟨(lz rfl),tv,tv⟩,(zA ⟨(lz rfl),⟨tv,dE _⟩,⟨tv,zF _⟩,tv,(lz rfl),⟨tv,dT _⟩,⟨tv,dT _⟩,tv⟩ (fMa (lz rfl) (zA ⟨tv,tv,tv⟩ zB))),⟨zF _,dT _,tv,tv⟩,(zA ⟨(lz rfl),dE _,zF _,tv,(lz rfl),dT _,dT _,tv⟩ (fMf (lz rfl) (zA ⟨tv,tv,tv⟩ zB)))⟩
def cX:Nat->List zI->Int->Int->Int->List Tm->Option (Tm×Int)
 |0,_,_,_,_,_=>none
 |qq+1,p0,v19,tM,pK,uF=>
 if decide (v19<(p0.length:Int))then
 zS p0 v19>>=fun x7=>
 e54 qq (Tm.mk tM pK uF) x7.t_ x7.n_>>=fun r9=>
 if r9.2 != 0 then
 some ((Tm.mk 0 0 []),r9.2)
 else
 cX qq p0 (w64 (v19+1)) r9.1.k r9.1.n r9.1.sub
 else
 some ((Tm.mk tM pK uF),0)
def e23(qq:Nat)(p0:List zI)(p1:Tm):Option (Tm×Int):=
 e52 qq p1>>=fun r1=>
 if r1 then
 e53 qq p1>>=fun r4=>
 cX qq p0 0 r4.k r4.n r4.sub
 else
 some ((Tm.mk 0 0 []),5)
theorem q23:Qf 23 Tryz.f23:=⟨Tryz.func23,rfl⟩
theorem zTP:∀qq:Nat,(∀ {p0 v19 tM pK uF r},cX qq p0 v19 tM pK uF=some r->(∀j,dL 0 (pt 16309 Tryz.f23) (sp j 39 0 [(4,.mp 0 0),(6,.mp 1 0),(17,slv zO p0 .no),(18,ai (p0.length:Int)),(19,ai v19)]) (⟨[(0,.cells [ai 0,ai 0,.ms 2 0 (List.length ([]:List Tm)) (List.length ([]:List Tm)) 3]),(1,.cells [ai tM,ai pK,slv zG uF .no]),(2,.row (zK zG ([]:List Tm)))],3,[],0,[]⟩) (fQ 0 (nQ 0 Tryz.f23 (.tup [tmA r.1,ai r.2]) [] 0) [.blk 0,.seq (pt 255 Tryz.f23)]))):=by
 intro qq
 induction qq with
 |zero=>
  exact fun h=>nn h
 |succ qq ih=>
  intro p0 v19 tM pK uF r h
  rw[cX]at h
  obtain⟨h6,h⟩|⟨h6,h⟩:=spl h
  obtain⟨x7,h8,h⟩:=zC h
  obtain⟨r9,h10,h⟩:=zC h
  have k:=oC 5 [] (c54 h10)<|oA 0 (zPw (o:=.no) h8)<|oB 0 h6 o0
  obtain⟨h11,h⟩|⟨h11,h⟩:=spl h
  cases h
  exact fun j=>lF 1 [] (oD (dT ([]:List Tm))<|oB 3 h11 k)
  exact fun j=>lH 3 [] [0,1,2] [] [4,6,17,18,19] (oD (zM p0)<|oD (dT ([]:List Tm))<|oD (dT r9.1.sub)<|oB 3 h11 k) (ih h)
  cases h
  exact fun j=>lF 2 [] (oD (dT uF)<|oB 0 h6 o0)
theorem c23{qq p0 p1 r}(h:e23 qq p0 p1=some r):Ct 23 [] [slv zO p0 .no,tmA p1] (.tup [tmA r.1,ai r.2]) [] 0:=⟨by
 unfold e23 at h
 obtain⟨r1,h2,h⟩:=zC h
 obtain⟨h3,h⟩|⟨h3,h⟩:=spl h
 obtain⟨r4,h5,h⟩:=zC h
 exact tH q23 2 [(some 1,2,4099)] [1,2,3] [] [4,6,17,18,19] (oD (zM p0)<|oD (dT ([]:List Tm))<|oD (dT r4.sub)<|oC 2 [] (c53 h5)<|oK 1 [] h3 (c52 h2) o0) (zTP _ h)
 cases h
 exact tF q23 2 [] (oD (dT ([]:List Tm))<|oK 1 [] h3 (c52 h2) o0),⟨⟨tv,zM _⟩,⟨tv,tv,⟨tv,dT _⟩,tv⟩,tv⟩,zB,⟨⟨tv,tv,dT _,tv⟩,tv,tv⟩,zB⟩
def e93(qq:Nat)(M:yY)(p1:List Ent)(p2:List zD)(p3 fl fu:Int):Option (Int×List Tm×List Tm×Int×Int×Int):=
 zKc qq p2 p3>>=fun r1=>
 if r1.2 != 0 then
 some (0,[],[],r1.2,fl,fu)
 else
 zBe qq M r1.1 fl fu>>=fun r4=>
 if r4.2.1 != 0 then
 some (0,[],[],r4.2.1,r4.2.2.1,r4.2.2.2)
 else
 L4 qq r4.1>>=fun r7=>
 if r7.1.k != 6 then
 some (0,[],[],17,r4.2.2.1,r4.2.2.2)
 else
 zS p1 r7.1.n>>=fun x10=>
 if x10.kind != 1 then
 some (0,[],[],17,r4.2.2.1,r4.2.2.2)
 else
 if (r7.2.length:Int) != (w64 (x10.pars+x10.inds))then
 some (0,[],[],17,r4.2.2.1,r4.2.2.2)
 else
 gsl r7.2 0 x10.pars>>=fun x14=>
 gsl r7.2 x10.pars (r7.2.length:Int)>>=fun x16=>
 some (r7.1.n,x14,x16,0,r4.2.2.1,r4.2.2.2)
theorem q93:Qf 93 Tryz.f93:=⟨Tryz.func93,rfl⟩
theorem c93{qq M p1 p2 p3 fl fu r}(h:e93 qq M p1 p2 p3 fl fu=some r):Ct 93 [mB M 1,mR M,.cells [ai fl,ai fu]] [.mp 0 0,slv yP p1 .no,slv zJ p2 .no,ai p3,.mp 2 0] (.tup [ai r.1,.sl (zK zG r.2.1) r.2.1.length .no,.sl (zK zG r.2.2.1) r.2.2.1.length .no,ai r.2.2.2.1]) [mB M 1,mR M,.cells [ai r.2.2.2.2.1,ai r.2.2.2.2.2]] 0:=⟨by
 unfold e93 at h
 have z {os ob} (k:Oz os ob):=oD (dT ([]:List Tm))<|oD (dT ([]:List Tm))<|oDM M<|k
 obtain⟨r1,h2,h⟩:=zC h
 have k:=oC 0 [] (zVZ h2) o0
 obtain⟨h3,h⟩|⟨h3,h⟩:=spl h
 cases h
 exact tF q93 0 [0,1,2] (z<|oB 3 h3 k)
 obtain⟨r4,h5,h⟩:=zC h
 have k:=oC 1 [0,1,2] (zQE h5)<|oB 3 h3 k
 obtain⟨h6,h⟩|⟨h6,h⟩:=spl h
 cases h
 exact tF q93 0 [0,1,2] (z<|oB 3 h6 k)
 obtain⟨r7,h8,h⟩:=zC h
 have k:=oC 1 [] (zDx h8)<|oB 3 h6 k
 obtain⟨h9,h⟩|⟨h9,h⟩:=spl h
 cases h
 exact tF q93 0 [0,1,2] (z<|oB 4 h9 k)
 obtain⟨x10,h11,h⟩:=zC h
 have k:=oA 1 (xL (o:=.no) h11)<|oB 4 h9 k
 obtain⟨h12,h⟩|⟨h12,h⟩:=spl h
 cases h
 exact tF q93 0 [0,1,2] (z<|oB 1 h12 k)
 have k:=oA 2 (xL (o:=.no) h11)<|oA 2 (xL (o:=.no) h11)<|oB 1 h12 k
 obtain⟨h13,h⟩|⟨h13,h⟩:=spl h
 cases h
 exact tF q93 0 [0,1,2] (z<|oB 2 h13 k)
 obtain⟨x14,h15,h⟩:=zC h
 obtain⟨x16,h17,h⟩:=zC h
 cases h
 exact tF q93 0 [0,1,2] (oD (dT x16)<|oD (dT x14)<|oDM M<|oA 0 (sX h17)<|oA 2 (zLK (o:=.no) h15)<|oA 1 (xL (o:=.no) h11)<|oB 2 h13 k),⟨(lz rfl),⟨tv,dE _⟩,⟨tv,zF _⟩,tv,(lz rfl),tv⟩,(fMa (lz rfl) (zA ⟨tv,tv,tv⟩ zB)),⟨tv,dT _,dT _,tv,tv⟩,(fMf (lz rfl) (zA ⟨tv,tv,tv⟩ zB))⟩
def e95(qq:Nat)(M:yY)(q0_l:List Ent)(q0_c:List zD)(q0_n fl fu:Int)(q0_pars q0_inds:List Tm)(p1:Int):Option (zR×Int×Int×Int):=
 zOe qq M q0_l q0_c q0_n fl fu q0_pars q0_inds p1>>=fun r1=>
 if r1.2.2 != 0 then
 some ((zR.mk 0 false [] [] []),r1.2.2,fl,fu)
 else
 zGn qq p1>>=fun r4=>
 gC qq r4 q0_pars>>=fun r6=>
 zGa qq r1.1>>=fun r8=>
 gC qq r6 r8>>=fun r10=>
 e52 qq r10>>=fun r12=>
 if r12 then
 zQQ qq q0_c>>=fun r15=>
 yN 48 r15 r1.1>>=fun l17=>
 zKl qq l17 q0_n r10>>=fun r20=>
 if r20.2 != 0 then
 some ((zR.mk 0 false [] [] []),r20.2,fl,fu)
 else
 e34 qq M r20.1 r1.2.1 q0_inds fl fu>>=fun r23=>
 match r23 with
 | .inl y25=>
  if y25.2.1 != 0 then
  some ((zR.mk 0 false [] [] []),y25.2.1,y25.2.2.1,y25.2.2.2)
  else
  if y25.1.yes_ then
  e23 qq y25.1.solved_ r10>>=fun r28=>
  if r28.2 != 0 then
  some ((zR.mk 0 false [] [] []),r28.2,y25.2.2.1,y25.2.2.2)
  else
  yN 48 [(zI.mk q0_n r28.1)] y25.1.solved_>>=fun l31=>
  zGq qq r1.1>>=fun r34=>
  some ((zR.mk p1 true r34 y25.1.vars_ l31),0,y25.2.2.1,y25.2.2.2)
  else
  some ((zR.mk p1 false [] [] []),0,y25.2.2.1,y25.2.2.2)
 | .inr (.inl y36)=>
  if y36.2.2.2.1 != 0 then
  some ((zR.mk 0 false [] [] []),y36.2.2.2.1,y36.2.2.2.2.1,y36.2.2.2.2.2)
  else
  some ((zR.mk p1 false [] [] []),0,y36.2.2.2.2.1,y36.2.2.2.2.2)
 | .inr (.inr y38)=>
  if y38.2.2.2.2.1 != 0 then
  some ((zR.mk 0 false [] [] []),y38.2.2.2.2.1,y38.2.2.2.2.2.1,y38.2.2.2.2.2.2)
  else
  e23 qq y38.2.1 r10>>=fun r40=>
  if r40.2 != 0 then
  some ((zR.mk 0 false [] [] []),r40.2,y38.2.2.2.2.2.1,y38.2.2.2.2.2.2)
  else
  yN 48 [(zI.mk q0_n r40.1)] y38.2.1>>=fun l43=>
  zGq qq r1.1>>=fun r46=>
  some ((zR.mk p1 true r46 y38.1 l43),0,y38.2.2.2.2.2.1,y38.2.2.2.2.2.2)
 else
 some ((zR.mk 0 false [] [] []),2,fl,fu)
theorem q95:Qf 95 Tryz.f95:=⟨Tryz.func95,rfl⟩
theorem c95{qq M q0_l q0_c q0_n fl fu q0_pars q0_inds p1 r}(h:e95 qq M q0_l q0_c q0_n fl fu q0_pars q0_inds p1=some r):Ct 95 [.cells [.mp 1 0,slv yP q0_l .no,slv zJ q0_c .no,ai q0_n,.mp 3 0,slv zG q0_pars .no,slv zG q0_inds .no],mB M 2,mR M,.cells [ai fl,ai fu]] [.mp 0 0,ai p1] (.tup [bZ r.1,ai r.2.1]) [.cells [.mp 1 0,slv yP q0_l .no,slv zJ q0_c .no,ai q0_n,.mp 3 0,slv zG q0_pars .no,slv zG q0_inds .no],mB M 2,mR M,.cells [ai r.2.2.1,ai r.2.2.2]] 0:=⟨by
 unfold e95 at h
 have z {os ob} (k:Oz os ob):=oD (zM ([]:List zI))<|oD (zF ([]:List zD))<|oD (dI ([]:List Int))<|oDM M<|oD (dT q0_inds)<|oD (dT q0_pars)<|oD (zF q0_c)<|oD (dE q0_l)<|k
 have z1 {os ob} (k:Oz os ob):=oDM M<|oD (dT q0_inds)<|oD (dT q0_pars)<|oD (zF q0_c)<|oD (dE q0_l)<|k
 obtain⟨r1,h2,h⟩:=zC h
 have k:=oC 0 [0,1,2,3] (zXa h2) o0
 obtain⟨h3,h⟩|⟨h3,h⟩:=spl h
 cases h
 exact tF q95 1 [0,1,2,3] (z<|oB 3 h3 k)
 obtain⟨r4,h5,h⟩:=zC h
 obtain⟨r6,h7,h⟩:=zC h
 obtain⟨r8,h9,h⟩:=zC h
 obtain⟨r10,h11,h⟩:=zC h
 obtain⟨r12,h13,h⟩:=zC h
 have k:=oC 0 [] (L5 h11)<|oC 0 [] (zTK h9)<|oC 0 [] (L5 h7)<|oCl 0<|oC 0 [] (zTa h5)<|oB 3 h3 k
 obtain⟨h14,h⟩|⟨h14,h⟩:=spl h
 obtain⟨r15,h16,h⟩:=zC h
 obtain⟨l17,h18,h⟩:=zC h
 have k:=oC 2 [] (zXn h16)<|oK 2 [] h14 (c52 h13) k
 by_cases h19:List.length r1.1=0
 obtain⟨r20,h21,h⟩:=zC h
 have k:=oC 1 [] (zTc h21)<|oCl 0<|oP 0 (zUh h18 h19) k
 obtain⟨h22,h⟩|⟨h22,h⟩:=spl h
 cases h
 exact tF q95 1 [0,1,2,3] (z<|oB 2 h22 k)
 obtain⟨r23,h24,h⟩:=zC h
 have k:=oB 2 h22 k
 rcases r23 with y25 | (y36|y38)
 dsimp only at h
 have k:=oC 3 [1,2,3] (c34 h24) k
 obtain⟨h26,h⟩|⟨h26,h⟩:=spl h
 cases h
 exact tF q95 1 [0,1,2,3] (z<|oB 3 h26 k)
 have k:=oB 3 h26 k
 obtain⟨h27,h⟩|⟨h27,h⟩:=spl h
 obtain⟨r28,h29,h⟩:=zC h
 have k:=oC 3 [] (c23 h29)<|oB 0 h27 k
 obtain⟨h30,h⟩|⟨h30,h⟩:=spl h
 cases h
 exact tF q95 1 [0,1,2,3] (z<|oB 3 h30 k)
 obtain⟨l31,h32,h⟩:=zC h
 have k:=oB 3 h30 k
 by_cases h33:List.length y25.1.solved_=0
 obtain⟨r34,h35,h⟩:=zC h
 cases h
 exact tF q95 1 [0,1,2,3] (oD (zM l31)<|oD (zF y25.1.vars_)<|oD (dI r34)<|z1<|oCl 0<|oC 0 [] (zBH h35)<|oP 4 (zHy h32 h33) k)
 obtain⟨r34,h35,h⟩:=zC h
 cases h
 exact tF q95 1 [0,1,2,3] (oD (zM l31)<|oD (zF y25.1.vars_)<|oD (dI r34)<|z1<|oCl 0<|oC 0 [] (zBH h35)<|oP 4 (zHv h32 h33) k)
 cases h
 exact tF q95 2 [0,1,2,3] (z<|oB 0 h27 k)
 dsimp only at h
 have k:=oC 3 [1,2,3] (c34 h24) k
 obtain⟨h37,h⟩|⟨h37,h⟩:=spl h
 cases h
 exact tF q95 1 [0,1,2,3] (z<|oB 3 h37 k)
 cases h
 exact tF q95 3 [0,1,2,3] (z<|oB 3 h37 k)
 dsimp only at h
 have k:=oC 3 [1,2,3] (c34 h24) k
 obtain⟨h39,h⟩|⟨h39,h⟩:=spl h
 cases h
 exact tF q95 1 [0,1,2,3] (z<|oB 3 h39 k)
 obtain⟨r40,h41,h⟩:=zC h
 have k:=oC 4 [] (c23 h41)<|oB 3 h39 k
 obtain⟨h42,h⟩|⟨h42,h⟩:=spl h
 cases h
 exact tF q95 1 [0,1,2,3] (z<|oB 3 h42 k)
 obtain⟨l43,h44,h⟩:=zC h
 have k:=oB 3 h42 k
 by_cases h45:List.length y38.2.1=0
 obtain⟨r46,h47,h⟩:=zC h
 cases h
 exact tF q95 1 [0,1,2,3] (oD (zM l43)<|oD (zF y38.1)<|oD (dI r46)<|z1<|oCl 0<|oC 0 [] (zBH h47)<|oP 4 (zHy h44 h45) k)
 obtain⟨r46,h47,h⟩:=zC h
 cases h
 exact tF q95 1 [0,1,2,3] (oD (zM l43)<|oD (zF y38.1)<|oD (dI r46)<|z1<|oCl 0<|oC 0 [] (zBH h47)<|oP 4 (zHv h44 h45) k)
 obtain⟨r20,h21,h⟩:=zC h
 have k:=oC 1 [] (zTc h21)<|oCl 0<|oP 0 (zHw h18 h19) k
 obtain⟨h22,h⟩|⟨h22,h⟩:=spl h
 cases h
 exact tF q95 1 [0,1,2,3] (z<|oB 2 h22 k)
 obtain⟨r23,h24,h⟩:=zC h
 have k:=oB 2 h22 k
 rcases r23 with y25 | (y36|y38)
 dsimp only at h
 have k:=oC 3 [1,2,3] (c34 h24) k
 obtain⟨h26,h⟩|⟨h26,h⟩:=spl h
 cases h
 exact tF q95 1 [0,1,2,3] (z<|oB 3 h26 k)
 have k:=oB 3 h26 k
 obtain⟨h27,h⟩|⟨h27,h⟩:=spl h
 obtain⟨r28,h29,h⟩:=zC h
 have k:=oC 3 [] (c23 h29)<|oB 0 h27 k
 obtain⟨h30,h⟩|⟨h30,h⟩:=spl h
 cases h
 exact tF q95 1 [0,1,2,3] (z<|oB 3 h30 k)
 obtain⟨l31,h32,h⟩:=zC h
 have k:=oB 3 h30 k
 by_cases h33:List.length y25.1.solved_=0
 obtain⟨r34,h35,h⟩:=zC h
 cases h
 exact tF q95 1 [0,1,2,3] (oD (zM l31)<|oD (zF y25.1.vars_)<|oD (dI r34)<|z1<|oCl 0<|oC 0 [] (zBH h35)<|oP 4 (zHy h32 h33) k)
 obtain⟨r34,h35,h⟩:=zC h
 cases h
 exact tF q95 1 [0,1,2,3] (oD (zM l31)<|oD (zF y25.1.vars_)<|oD (dI r34)<|z1<|oCl 0<|oC 0 [] (zBH h35)<|oP 4 (zHv h32 h33) k)
 cases h
 exact tF q95 2 [0,1,2,3] (z<|oB 0 h27 k)
 dsimp only at h
 have k:=oC 3 [1,2,3] (c34 h24) k
 obtain⟨h37,h⟩|⟨h37,h⟩:=spl h
 cases h
 exact tF q95 1 [0,1,2,3] (z<|oB 3 h37 k)
 cases h
 exact tF q95 3 [0,1,2,3] (z<|oB 3 h37 k)
 dsimp only at h
 have k:=oC 3 [1,2,3] (c34 h24) k
 obtain⟨h39,h⟩|⟨h39,h⟩:=spl h
 cases h
 exact tF q95 1 [0,1,2,3] (z<|oB 3 h39 k)
 obtain⟨r40,h41,h⟩:=zC h
 have k:=oC 4 [] (c23 h41)<|oB 3 h39 k
 obtain⟨h42,h⟩|⟨h42,h⟩:=spl h
 cases h
 exact tF q95 1 [0,1,2,3] (z<|oB 3 h42 k)
 obtain⟨l43,h44,h⟩:=zC h
 have k:=oB 3 h42 k
 by_cases h45:List.length y38.2.1=0
 obtain⟨r46,h47,h⟩:=zC h
 cases h
 exact tF q95 1 [0,1,2,3] (oD (zM l43)<|oD (zF y38.1)<|oD (dI r46)<|z1<|oCl 0<|oC 0 [] (zBH h47)<|oP 4 (zHy h44 h45) k)
 obtain⟨r46,h47,h⟩:=zC h
 cases h
 exact tF q95 1 [0,1,2,3] (oD (zM l43)<|oD (zF y38.1)<|oD (dI r46)<|z1<|oCl 0<|oC 0 [] (zBH h47)<|oP 4 (zHv h44 h45) k)
 cases h
 exact tF q95 2 [0,1,2,3] (z<|oK 2 [] h14 (c52 h13) k),⟨(lz rfl),tv,tv⟩,(zA ⟨(lz rfl),⟨tv,dE _⟩,⟨tv,zF _⟩,tv,(lz rfl),⟨tv,dT _⟩,⟨tv,dT _⟩,tv⟩ (fMa (lz rfl) (zA ⟨tv,tv,tv⟩ zB))),⟨⟨tv,tv,dI _,zF _,zM _,tv⟩,tv,tv⟩,(zA ⟨(lz rfl),dE _,zF _,tv,(lz rfl),dT _,dT _,tv⟩ (fMf (lz rfl) (zA ⟨tv,tv,tv⟩ zB)))⟩
theorem zBN{t:Tm}{N:Int}:¬N∈frT t↔yT (fun k n=>k=8->n≠N) t:=
 ⟨fun h=>qF.1 fun x hx e=>h (e▸hx),fun h hx=>qF.2 h N hx rfl⟩
theorem zRT{f:Tm}{l:List Tm}{N:Int}(hf:¬N∈frT f)(hl:∀a∈l,¬N∈frT a):¬N∈frT (apT f l):=
 zBN.2 (jD l f (fun h=>absurd h (by decide)) (zBN.1 hf) fun a ha=>zBN.1 (hl a ha))
theorem zAo(so:List zI)(hl:so.length≤1048576)(hs:∀s∈so,s.t_.Ok)(H:∀s∈so,∀r∈so,¬s.n_∈frT r.t_)(N:Int)(hN:∀s∈so,¬N∈frT s.t_):∀(r:List zI) (v:Nat) (x:Tm),so.drop v=r->zL x=true->(∀s∈so.take v,¬s.n_∈frT x)->¬N∈frT x ->
  Tot (fun q=>cX q so (v:Int) x.k x.n x.sub) fun y=>y.1.Ok∧(y.2=0->zL y.1=true∧(∀s∈so,¬s.n_∈frT y.1)∧¬N∈frT y.1)
 | [],v,x,hd,hx,hp,hn=>by
  refine Tot.succ ?_
  simp only[cX,sC]
  refine Tot.ite (fun h=>?_) fun _=>Tot.ret ⟨zV hx,fun _=>⟨hx,fun s hs=>hp s ?_,hn⟩⟩
  ·rw[zZ hd]at h;cases h
  ·rwa[List.take_of_length_le (List.drop_eq_nil_iff.1 hd)]
 |s::r,v,x,hd,hx,hp,hn=>by
  have hlt:=yC hd
  have hms:s∈so:=List.mem_of_mem_drop (by rw[hd];simp)
  refine Tot.succ ?_
  simp only[cX,sC]
  refine Tot.ite (fun _=>Tot.pure (zX hd) ((nK x s.t_ s.n_ (zV hx) (hs s hms)).bind fun r9 h9=>Tot.ite (fun h=>Tot.ret ⟨xK 0 0,fun h2=>?_⟩) fun h=>?_)) fun h=>?_
  ·have:r9.2≠0:=by simpa using h
   exact absurd h2 this
  ·have h0:r9.2=0:=by simpa using h
   obtain⟨-,-,-,-,h5,h6⟩:=h9.2.2.1 h0
   rw[h6,zW v (by omega)]
   refine zAo so hl hs H N hN r (v+1) _ (zU hd) h5 (fun s' hs' hz=>?_) fun hz=>?_
   ·rw[tS hd]at hs'
    rcases zEz hz with h7|h7
    ·rcases List.mem_append.1 hs' with h8|h8
     ·exact H s' (List.mem_of_mem_take h8) s hms h7
     ·rw[List.mem_singleton.1 h8]at h7;exact H s hms s hms h7
    ·rcases List.mem_append.1 hs' with h8|h8
     ·exact hp s' h8 h7.1
     ·rw[List.mem_singleton.1 h8]at h7;exact h7.2 rfl
   ·rcases zEz hz with h7|h7
    ·exact hN s hms h7
    ·exact hn h7.1
  ·rw[zY hd]at h;cases h
theorem zOd(so:List zI)(hl:so.length≤1048576)(hs:∀s∈so,s.t_.Ok)(H:∀s∈so,∀r∈so,¬s.n_∈frT r.t_)(N:Int)(hN:∀s∈so,¬N∈frT s.t_)(x:Tm)(hx:zL x=true)(hn:¬N∈frT x) :
  Tot (fun q=>e23 q so x) fun y=>y.1.Ok∧(y.2=0->zL y.1=true∧(∀s∈so,¬s.n_∈frT y.1)∧¬N∈frT y.1):=by
 simp only[e23]
 refine Tot.bind (P:=fun b=>b=zL x) ((yO x (zV hx)).tot rfl) fun b hb=>Tot.ite (fun _=>Tot.bind (P:=fun y=>y=x) ((sR x (zV hx)).tot (by unfold nE;rw[if_pos hx])) fun y hy=>?_) fun h=>?_
 ·subst hy
  exact zAo so hl hs H N hN _ 0 y rfl hx (fun s h=>by cases h) hn
 ·rw[hb,hx]at h;cases h
theorem zIj{a:Tm}{n b:Int}:naT a n (.mk 2 0 []) b = .mk 2 0 []:=by
 rw[naT,if_neg (by omega),naL]
theorem Un.extra(n0:Int){l:List Ent}{c:List zD}{td:List zH}{so:List zI}{r:Option (List zD×List zI)}(h:Un l c td so r):Un l c td (⟨n0,.mk 2 0 []⟩::so) (r.map fun p=>(p.1,⟨n0,.mk 2 0 []⟩::p.2)):=by
 induction h with
 |done=>exact .done
 | @sol c d e td so n t r a b hp f g _ ih=>
  refine .sol a b hp f (fun s hs=>?_) ?_
  ·rcases List.mem_cons.1 hs with rfl|hs
   ·show zL (naT t n (.mk 2 0 []) 0)=true
    rw[zIj];rfl
   ·exact g s hs
  ·rw[List.map_cons]
   have e2:naS t n ⟨n0,.mk 2 0 []⟩=⟨n0,.mk 2 0 []⟩:=by unfold naS;rw[zIj]
   rw[e2]
   exact ih
 |cyc a b=>exact .cyc a b
 |conf a b cx cy hn=>exact .conf a b cx cy hn
 |inj a b cx cy he hp _ ih=>exact .inj a b cx cy he hp ih
theorem gQ.startX{l:List Ent}{c:List zD}{td:List zH}{n0:Int}(hc:gP c)(ht:∀w∈c,vM l w.type_)(hm:∀e∈td,vM l e.a_∧vM l e.b_)(h1:∀v∈c,v.n_≠n0∧¬n0∈frT v.type_)(h2:∀e∈td,¬n0∈frT e.a_∧¬n0∈frT e.b_):gQ l c td [⟨n0,.mk 2 0 []⟩] (c.length+1):=by
 have hz:∀z,¬z∈frT (Tm.mk 2 0 []):=fun z h=>by simp[frT,sQ,aA]at h
 have hM:vM l (.mk 2 0 []):=eN.2 ⟨rfl,fun j=>zBr (by decide),gG (.inr fun h=>by omega)⟩
 have key:∀s∈[(⟨n0,.mk 2 0 []⟩:zI)],s=⟨n0,.mk 2 0 []⟩:=fun s hs=>List.mem_singleton.1 hs
 refine⟨hc,ht,hm,fun s hs=>?_,fun s hs v hv=>?_,fun s hs e he=>?_,fun s hs r hr=>?_,by simp,by simp⟩
 ·rw[key s hs];exact hM
 ·rw[key s hs];exact h1 v hv
 ·rw[key s hs];exact h2 e he
 ·rw[key r hr];exact hz _
def zED(n:Int)(b:zR):Prop:=
 (b.yes_=false∧b.vars_=[]∧b.args_=[]∧b.solved_=[])∨(b.yes_=true∧gP b.vars_∧(∀v∈b.vars_,nC v.type_ 0≤0)∧b.solved_.length≤1048576∧∃own so',b.solved_=⟨n,own⟩::so'∧zL own=true∧∀s∈b.solved_,¬s.n_∈frT own∧∀v∈b.vars_,v.n_≠s.n_∧zL v.type_=true∧¬s.n_∈frT v.type_)
def Fu(T fl fu:Int):Prop:=0≤fl∧0≤fu∧fl+fu=T
theorem zEE(c:List zD)(n:Int)(hl:c.length≤1048576)(hc:gP c):∀(r:List zD) (v:Nat),c.drop v=r->Tot (fun q=>pE q c n (v:Int)) fun x=>x.1.Ok∧(x.2=0->∃w∈c,w.n_=n∧x.1=w.type_)
 | [],v,hd=>by
  refine Tot.succ ?_
  simp only[pE]
  refine Tot.ite (fun h=>?_) fun _=>Tot.ret ⟨xK 0 0,fun h=>by cases h⟩
  rw[zZ hd]at h;cases h
 |x::r,v,hd=>by
  have hlt:=yC hd
  have hx:x∈c:=List.mem_of_mem_drop (by rw[hd];simp)
  have hs:=(hc.each x hx).2.2.1
  refine Tot.succ ?_
  simp only[pE]
  refine Tot.ite (fun _=>Tot.pure (zX hd) (Tot.ite (fun h=>Tot.bind (P:=fun y=>y=x.type_) ((sR x.type_ (zV hs)).tot (by unfold nE;rw[if_pos hs])) fun y hy=>Tot.ret ?_) fun _=>?_)) fun h=>?_
  ·subst hy
   exact⟨zV hs,fun _=>⟨x,hx,by simpa using h,rfl⟩⟩
  ·rw[zW v (by omega)]
   exact zEE c n hl hc r (v+1) (zU hd)
  ·rw[zY hd]at h;cases h
def zTQ(l:List Ent)(c:List zD)(n T:Int)(r:Int×List Tm×List Tm×Int×Int×Int):Prop:=
 r.2.2.2.1=0->n∈c.map (·.n_)∧0≤r.1∧r.1<l.length∧(ent l r.1).cons.length≤16∧r.2.1.length≤8192∧r.2.2.1.length≤8192∧(∀t∈r.2.1,zL t=true∧¬n∈frT t)∧(∀t∈r.2.2.1,zL t=true∧¬n∈frT t)∧Fu T r.2.2.2.2.1 r.2.2.2.2.2
section
variable {N:ByteArray->Bool} {l:List Ent} (hE:wS N l) (he:∀e∈l,EOk e) (hl:l.length≤65535) (hcl:∀e∈l,ECl e)
include hE he
theorem zGA(c:List zD)(n:Int)(hc:gP c)(hm:∀w∈c,vM l w.type_){L U T:Int}(h0:0≤L)(h1:0≤U)(h2:L+U=T)(hT:T≤100000):Tot (fun q=>e93 q (xH l) l c n L U) (zTQ l c n T):=by
 have hcn:=hc.len
 simp only[e93,zKc]
 have no:∀(e a b:Int),e≠0->Tot (fun _:Nat=>some ((0:Int),([]:List Tm),([]:List Tm),e,a,b)) (zTQ l c n T):=fun e a b h=>Tot.ret fun h2=>absurd h2 h
 refine(zEE c n (by omega) hc _ 0 rfl).bind fun r1 q1=>Tot.ite (fun h=>no _ _ _ (by simpa using h)) fun h=>?_
 obtain⟨w,hw,hwn,hwt⟩:=q1.2 (by simpa using h)
 have hmw:=hm w hw
 have hsw:=(eN.1 hmw).1
 refine(cR hE he (x:=r1.1) (by rw[hwt];exact zV hsw) L U h0 h1 (by omega)).bind fun r4 q4=>Tot.ite (fun h=>no _ _ _ (by simpa using h)) fun h=>?_
 obtain⟨k,k0,k1,hbr,f1,f2⟩:=q4 (by simpa using h)
 rw[hwt]at hbr
 obtain⟨hmy,hfy⟩:=hmw.br hE hbr
 have hsy:=(eN.1 hmy).1
 have hnf:¬n∈frT r4.1:=fun hz=>hc.self w hw (by rw[hwn];exact hfy n hz)
 refine Tot.bind (P:=fun r=>r=(hdT r4.1,arT r4.1)) ((nF r4.1 hsy).tot rfl) fun r7 q7=>?_
 subst q7
 have hsp:=zQ hsy
 have hlen:=uV r4.1 hsp.2.2
 refine Tot.ite (fun _=>no _ _ _ (by decide)) fun h6=>?_
 have h6:(hdT r4.1).k=6:=by simpa using h6
 have hhd:=(qV r4.1 hsp.2.2 (eN.1 hmy).2.2).1
 have hn0:=gK (zQ (uU hsy)).2.2
 have hn1:(hdT r4.1).n<l.length:=by
  revert hhd h6
  generalize hdT r4.1=z
  obtain⟨k,m,ls⟩:=z
  intro h6 hhd
  rw[yT]at hhd
  rcases hhd.1 with q|q
  ·have:k=6:=h6
   omega
  ·exact q (.inl h6)
 refine Tot.pure (yL hn0 hn1) (Tot.ite (fun _=>no _ _ _ (by decide)) fun hk=>?_)
 have hk:(ent l (hdT r4.1).n).kind=1:=by simpa using hk
 have hf:=wP ((yV (hE.2 _ hn0 hn1)).2.1 hk)
 rw[yJ (x:=(ent l (hdT r4.1).n).pars+(ent l (hdT r4.1).n).inds) (by omega) (by omega)]
 refine Tot.ite (fun _=>no _ _ _ (by decide)) fun hq=>?_
 have hq:((arT r4.1).length:Int)=(ent l (hdT r4.1).n).pars+(ent l (hdT r4.1).n).inds:=by simpa using hq
 have g1:gsl (arT r4.1) 0 (ent l (hdT r4.1).n).pars=some ((arT r4.1).take (ent l (hdT r4.1).n).pars.toNat):=by
  unfold gsl;rw[if_pos (by omega)];simp
 have g2:gsl (arT r4.1) (ent l (hdT r4.1).n).pars ((arT r4.1).length:Int)=some ((arT r4.1).drop (ent l (hdT r4.1).n).pars.toNat):=sZ hf.1 (by omega)
 refine Tot.pure g1 (Tot.pure g2 (Tot.ret fun _=>?_))
 have ha:∀t∈arT r4.1,zL t=true∧¬n∈frT t:=fun t ht=>⟨yS hsy ht,fun hz=>hnf ((hmy.ar ht).2 n hz)⟩
 refine⟨List.mem_map.2 ⟨w,hw,hwn⟩,hn0,hn1,hf.2.2.2,?_,?_,fun t ht=>ha t (List.mem_of_mem_take ht),fun t ht=>ha t (List.mem_of_mem_drop ht),?_⟩
 ·show ((arT r4.1).take _).length≤_
  rw[List.length_take];omega
 ·show ((arT r4.1).drop _).length≤_
  rw[List.length_drop];omega
 ·refine⟨?_,?_,?_⟩
  ·show 0≤r4.2.2.1;omega
  ·show 0≤r4.2.2.2;omega
  ·show r4.2.2.1+r4.2.2.2=T;omega
def zTR(c:List zD)(n:Int)(r:List zD×List Tm×Int):Prop:=
 r.2.2=0->r.1.length≤24∧(∀w∈r.1,w.type_.Ok∧∀v∈c,v.n_<w.n_)∧r.2.1.length≤8192∧∀t∈r.2.1,zL t=true∧((∀v∈r.1,v.n_≠n)->¬n∈frT t)
theorem zAn(c:List zD)(n L U:Int)(pars inds:List Tm)(r1:yX × Int)(r10:List zD×Int)(l17:List Tm)(hr:r1.1.inds.length≤8192)(hi:∀t∈r1.1.inds,t.Ok∧¬n∈frT t)(h24:r10.1.length≤24)(hw:∀w∈r10.1,w.type_.Ok∧∀v∈c,v.n_<w.n_)(hl17:l17.length≤1000000)(ho:∀a∈l17,a.Ok)(hf:∀a∈l17,(∀v∈r10.1,v.n_≠n)->¬n∈frT a) :
  ∀(r:List Tm) (v:Nat) (acc:List Tm),r1.1.inds.drop v=r->acc.length≤v->v≤r1.1.inds.length->(∀t∈acc,zL t=true∧((∀v∈r10.1,v.n_≠n)->¬n∈frT t))->Tot (fun q=>iE q (xH l) l c n L U pars inds r1 r10 l17 acc (v:Int)) (zTR c n)
 | [],v,acc,hd,ha,hvl,hacc=>by
  refine Tot.succ ?_
  simp only[iE]
  refine Tot.ite (fun h=>?_) fun _=>Tot.ret fun _=>⟨h24,hw,?_,hacc⟩
  ·rw[zZ hd]at h;cases h
  ·show acc.length≤8192
   omega
 |t::r,v,acc,hd,ha,hvl,hacc=>by
  have hlt:=yC hd
  have ht:=hi t (List.mem_of_mem_drop (by rw[hd];simp))
  refine Tot.succ ?_
  simp only[iE]
  refine Tot.ite (fun _=>Tot.pure (zX hd) ((zAu t l17 ht.1 hl17 ho).bind fun r23 q=>Tot.ite (fun h=>Tot.ret fun h2=>?_) fun h=>Tot.pure (yG (by simp;omega)) ?_)) fun h=>?_
  ·have:r23.2≠0:=by simpa using h
   exact absurd h2 this
  ·rw[zW v (by omega)]
   refine zAn c n L U pars inds r1 r10 l17 hr hi h24 hw hl17 ho hf r (v+1) _ (zU hd) (by simp;omega) hlt fun x hx=>?_
   rcases List.mem_append.1 hx with hx|hx
   ·exact hacc x hx
   ·rw[List.mem_singleton.1 hx]
    have q2:=q.2 (by simpa using h)
    refine⟨q2.1,fun hv hz=>?_⟩
    rcases q2.2 n hz with h3|⟨a,ha,h3⟩
    ·exact ht.2 h3
    ·exact hf a ha hv h3
  ·rw[zY hd]at h;cases h
theorem zKF(hfm:Evt (fun q=>e87 q l) true)(c:List zD)(n L U:Int)(pars inds:List Tm)(con:Int)(hc:gP c)(hp8:pars.length≤8192)(hps:∀t∈pars,zL t=true∧¬n∈frT t):Tot (fun q=>zOe q (xH l) l c n L U pars inds con) (zTR c n):=by
 have hcn:=hc.len
 simp only[zOe,zRl,zRq]
 have no:∀e:Int,e≠0->Tot (fun _:Nat=>some (([]:List zD),([]:List Tm),e)) (zTR c n):=fun e h=>Tot.ret fun h2=>absurd h2 h
 have hpo:∀t∈pars,t.Ok:=fun t ht=>zV (hps t ht).1
 refine Tot.bind (P:=fun r=>r.2=0->0≤con∧con<l.length∧(ent l con).kind=2∧r.1=wH l con) ?_ fun r1 q1=>Tot.ite (fun h=>no _ (by simpa using h)) fun h=>?_
 ·refine Tot.bind (P:=fun b=>b=true) (hfm.tot rfl) fun b hb=>?_
  subst hb
  refine Tot.ite (fun _=>Tot.bind (P:=fun b=>b=isT l con 2) ((zME l con 2).tot rfl) fun b hb=>Tot.ite (fun h=>?_) fun _=>Tot.ret fun h=>by cases h) fun h=>by cases h
  rw[hb]at h
  obtain⟨h1,h2,h3⟩:=uJ h
  exact Tot.bind (P:=fun r=>r=wH l con) ((zDi l con hE h1 h2 h3 he).tot rfl) fun r hr=>Tot.ret fun _=>⟨h1,h2,h3,hr⟩
 obtain⟨c0,c1,ck,cp⟩:=q1 (by simpa using h)
 obtain⟨A,y,hw,hy,hA,hAp,hA24,p0,p1,-⟩:=vY hE c0 c1 ck
 have hcl:=(yV (hE.2 con c0 c1)).1
 have hno:yT (fun k x=>k=8->x≠n) (ent l con).type:=tR (fun k x h e=>absurd e h.2) (jE hcl)
 have hws:=lQ hw
 have hsp:=aX A.length (ent l con).type (A,y) hws.1 hws.2 hno
 have ey:(yM (ent l con).type)=(A,y,0):=hw
 have hargs:r1.1.args=A.drop (ent l con).pars.toNat:=by rw[cp];unfold wH;rw[ey]
 have hinds:r1.1.inds=(arT y).drop (ent l con).pars.toNat:=by rw[cp];unfold wH;rw[ey]
 have hyg:=(zQ hy).2.2
 have hyl:=uV y hyg
 have hyn:=(zQ hy).1
 have hi:∀t∈r1.1.inds,t.Ok∧¬n∈frT t:=fun t ht=>by
  rw[hinds]at ht
  have hm:=List.mem_of_mem_drop ht
  exact⟨zV (yS hy hm),zBN.2 ((qV y hyg hsp.1).2 t hm)⟩
 refine(zEB r1.1.args pars (by rw[hargs,List.length_drop];omega) (fun t ht=>by rw[hargs]at ht;exact zV (hA t (List.mem_of_mem_drop ht))) (by omega) hpo).bind fun r4 q4=>Tot.ite (fun h=>no _ (by simpa using h)) fun _=>?_
 have h4l:r4.1.length≤24:=by have:=q4.2;rw[hargs,List.length_drop]at this;omega
 refine(zAp c (by omega) hc _ 0 0 rfl (by omega) (by omega) (fun w h=>by cases h)).bind fun r7 q7=>Tot.ite (fun _=>no 2 (by decide)) fun _=>?_
 refine(zOf r4.1 (by omega) q4.1 r7 q7.1).bind fun r10 q10=>Tot.ite (fun h=>no _ (by simpa using h)) fun _=>?_
 have hcln:Evt (fun q=>zJO q pars) pars:=Evt.mk fun q=>by
  unfold zJO
  exact yG (by simp;omega)
 refine Tot.bind (P:=fun r=>r=pars) (hcln.tot rfl) fun r13 q13=>Tot.bind (P:=fun r=>r=eO r10.1) ((Y3 r10.1 (by omega)).tot rfl) fun r15 q15=>?_
 subst q13;subst q15
 have htl:(eO r10.1).length≤24:=by unfold eO;rw[List.length_map];exact q10.2
 refine Tot.pure (yG (by omega)) (zAn hE he c n L U r13 inds r1 r10 _ (by rw[hinds,List.length_drop];omega) hi q10.2 (fun w hw=>⟨(q10.1 w hw).2,fun v hv=>?_⟩) (by simp only[List.length_append];omega) (fun a ha=>?_) (fun a ha hv=>?_) _ 0 [] rfl (Nat.le_refl _) (Nat.zero_le _) fun t h=>by cases h)
 ·have:=(q10.1 w hw).1
  have:=q7.2.2 v hv
  omega
 ·rcases List.mem_append.1 ha with h|h
  ·exact hpo a h
  ·exact zBM _ a h
 ·rcases List.mem_append.1 ha with h|h
  ·exact(hps a h).2
  ·intro hz
   obtain⟨v,hv',e⟩:=zIl h hz
   exact hv v hv' e
def zRk(n T:Int)(r:zR×Int×Int×Int):Prop:=r.2.1=0->zED n r.1∧Fu T r.2.2.1 r.2.2.2
include hl hcl
theorem zGB(hfm:Evt (fun q=>e87 q l) true)(c:List zD)(n:Int)(pars inds:List Tm)(con:Int)(hc:gP c)(hm:∀w∈c,vM l w.type_)(hn:n∈c.map (·.n_))(hp8:pars.length≤8192)(hi8:inds.length≤8192)(hps:∀t∈pars,zL t=true∧¬n∈frT t)(his:∀t∈inds,zL t=true∧¬n∈frT t){L U T:Int}(h0:0≤L)(h1:0≤U)(h2:L+U=T)(hT:T≤100000):Tot (fun q=>e95 q (xH l) l c n L U pars inds con) (zRk n T):=by
 have hcn:=hc.len
 simp only[e95]
 have no:∀(e a b:Int),e≠0->Tot (fun _:Nat=>some (zR.mk 0 false [] [] [],e,a,b)) (zRk n T):=fun e a b h=>Tot.ret fun h2=>absurd h2 h
 refine(zKF hE he hfm c n L U pars inds con hc hp8 hps).bind fun r1 q1=>Tot.ite (fun h=>no _ _ _ (by simpa using h)) fun h=>?_
 obtain⟨a24,aw,i8,ii⟩:=q1 (by simpa using h)
 obtain⟨v0,hv0,ev0⟩:=List.mem_map.1 hn
 have hne:∀v∈r1.1,v.n_≠n:=fun v hv e=>by
  have:=(aw v hv).2 v0 hv0
  have e2:v0.n_=n:=ev0
  omega
 have hcon:Evt (fun q=>zGn q con) (.mk 6 con []):=Evt.mk fun _=>rfl
 have htl:(eO r1.1).length≤24:=by unfold eO;rw[List.length_map];exact a24
 refine Tot.bind (P:=fun r=>r = .mk 6 con []) (hcon.tot rfl) fun r4 q4=>Tot.bind (P:=fun r=>r=apT r4 pars) ((sY r4 pars (by omega)).tot rfl) fun r6 q6=>Tot.bind (P:=fun r=>r=eO r1.1) ((Y3 r1.1 (by omega)).tot rfl) fun r8 q8=>Tot.bind (P:=fun r=>r=apT r6 r8) ((sY r6 r8 (by rw[q8];omega)).tot rfl) fun r10 q10=>?_
 subst q4;subst q6;subst q8
 have hof:¬n∈frT r10:=by
  rw[q10]
  refine zRT (zRT (fun h=>by simp[frT,sQ,aA]at h) fun a ha=>(hps a ha).2) fun a ha hz=>?_
  obtain⟨v,hv,e⟩:=zIl ha hz
  exact hne v hv e
 have hoo:r10.Ok:=by rw[q10];exact pN _ _ (pN _ _ (xK 6 con) fun a ha=>zV (hps a ha).1) (zBM _)
 refine Tot.bind (P:=fun b=>b=zL r10) ((yO r10 hoo).tot rfl) fun b hb=>Tot.ite (fun hsh=>?_) fun _=>no 2 _ _ (by decide)
 rw[hb]at hsh
 have hcln:Evt (fun q=>zQQ q c) c:=Evt.mk fun q=>by
  unfold zQQ
  exact yG (by simp;omega)
 refine Tot.bind (P:=fun r=>r=c) (hcln.tot rfl) fun r15 q15=>?_
 subst q15
 refine Tot.pure (yG (by omega)) ((K5 (c:=r15++r1.1) (by simp only[List.length_append];omega) (fun v hv=>?_) n r10 hoo).bind fun r20 q20=>Tot.ite (fun h=>no _ _ _ (by simpa using h)) fun h=>?_)
 ·rcases List.mem_append.1 hv with h|h
  ·exact zV (hc.each v h).2.2.1
  ·exact(aw v h).1
 obtain⟨hPut,-⟩:=q20 (by simpa using h)
 have hdl:=hPut.right.len
 have hdx:∀v∈r20.1,v.n_≠n∧¬n∈frT v.type_:=fun v hv=>by
  obtain⟨w,hw,e1,e2,e3⟩:=hPut.typ v hv
  refine⟨by rw[←e1];exact e2,fun hz=>?_⟩
  rw[e3]at hz
  rcases zEz hz with h|h
  ·exact hof h
  ·exact h.2 rfl
 refine(zGb hE he hl hcl r20.1 r1.2.1 inds (fun t ht=>zV (ii t ht).1) (fun t ht=>zV (his t ht).1) (by omega) (by omega) (fun v hv=>zV (hPut.right.each v hv).2.2.1) L U h0 (by omega) h1 (by omega)).bind fun r23 q23=>?_
 rcases q23 with⟨a,e,fl,fu,e0,rfl⟩|⟨z1,z2,z3,z4,z5⟩
 ·exact Tot.ite (fun _=>no _ _ _ e0) fun h=>absurd (by simpa using h) e0
 ·have hI:=gQ.startX (n0:=n) z1 z4 z3 hdx fun e he'=>⟨(ii _ (gR he').1).2 hne,(his _ (gR he').2).2⟩
  cases z5 with
  |err e0=>exact Tot.ite (fun _=>no _ _ _ e0) fun h=>absurd (by simpa using h) e0
  |no hF hU=>exact Tot.ite (fun h=>by cases h) fun _=>Tot.ret fun _=>⟨.inl ⟨rfl,rfl,rfl,rfl⟩,hF.1,hF.2.1,by rw[←h2];exact hF.2.2⟩
  | @yes c' so' s k fl fu hF hU=>
   have hJ:=(hU.extra n).inv hE hI c' (⟨n,.mk 2 0 []⟩::so') rfl
   have hlen:=hJ.len
   have hso:so'.length≤256:=by simp only[List.length_cons]at hlen;omega
   have m0:(⟨n,.mk 2 0 []⟩:zI)∈(⟨n,.mk 2 0 []⟩:zI)::so':=List.mem_cons_self ..
   have mm:∀s∈so',s∈(⟨n,.mk 2 0 []⟩:zI)::so':=fun s h=>List.mem_cons_of_mem _ h
   refine Tot.ite (fun h=>by cases h) fun _=>(zOd so' (by omega) (fun s hs=>zV (eN.1 (hJ.sol s (mm s hs))).1) (fun s hs r hr=>hJ.os s (mm s hs) r (mm r hr)) n (fun s hs=>hJ.os _ m0 s (mm s hs)) r10 hsh hof).bind fun r40 q40=>Tot.ite (fun h=>no _ _ _ (by simpa using h)) fun h=>?_
   obtain⟨g1,g2,g3⟩:=q40.2 (by simpa using h)
   refine Tot.pure (yG (by simp;omega)) (Tot.bind (P:=fun _=>True) ?_ fun r46 _=>Tot.ret fun _=>⟨.inr ⟨rfl,hJ.ctx,fun v hv=>?_,?_,r40.1,so',rfl,g1,fun s hs=>?_⟩,hF.1,hF.2.1,by rw[←h2];exact hF.2.2⟩)
   ·simp only[zGq]
    exact(jW r1.1 (by omega) _ 0 [] rfl (Nat.zero_le _) rfl).mono fun _ _=>trivial
   ·have:=hJ.typ v hv
    unfold vM sU at this
    simp only[Bool.and_eq_true,decide_eq_true_eq]at this
    exact this.1.2
   ·show (([⟨n,r40.1⟩]:List zI)++so').length≤_
    simp;omega
   ·have hs':s=⟨n,r40.1⟩∨s∈so':=by simpa using hs
    rcases hs' with rfl|hs'
    ·exact⟨g3,fun v hv=>⟨(hJ.oc _ m0 v hv).1,(hJ.ctx.each v hv).2.2.1,(hJ.oc _ m0 v hv).2⟩⟩
    ·exact⟨g2 s hs',fun v hv=>⟨(hJ.oc s (mm s hs') v hv).1,(hJ.ctx.each v hv).2.2.1,(hJ.oc s (mm s hs') v hv).2⟩⟩
end
def ofV(c:List zD):List xD:=c.map fun v=>xD.mk v.n_ v.type_
mutual
def zGC:Nat->Tm->Option Bool
 |0,_=>none
 |qq+1,p0=>
 if p0.k==1 then
 if (p0.sub.length:Int) != 0 then
 some false
 else
 if decide (p0.n<0)then
 some false
 else
 if decide (p0.n>1048576)then
 some false
 else
 if p0.k==7 then
 zS p0.sub 0>>=fun x6=>
 if x6.k != 2 then
 some false
 else
 wU qq p0 0 0
 else
 wU qq p0 0 0
 else
 if p0.k==6 then
 if (p0.sub.length:Int) != 0 then
 some false
 else
 if decide (p0.n<0)then
 some false
 else
 if decide (p0.n>1048576)then
 some false
 else
 if p0.k==7 then
 zS p0.sub 0>>=fun x14=>
 if x14.k != 2 then
 some false
 else
 wU qq p0 0 0
 else
 wU qq p0 0 0
 else
 if p0.k==8 then
 if (p0.sub.length:Int) != 0 then
 some false
 else
 if decide (p0.n<0)then
 some false
 else
 if decide (p0.n>1048576)then
 some false
 else
 if p0.k==7 then
 zS p0.sub 0>>=fun x22=>
 if x22.k != 2 then
 some false
 else
 wU qq p0 0 0
 else
 wU qq p0 0 0
 else
 if p0.k==2 then
 if (p0.sub.length:Int) != 0 then
 some false
 else
 if decide (p0.n<0)then
 some false
 else
 if decide (p0.n>7)then
 some false
 else
 if p0.k==7 then
 zS p0.sub 0>>=fun x30=>
 if x30.k != 2 then
 some false
 else
 wU qq p0 0 0
 else
 wU qq p0 0 0
 else
 if p0.k==3 then
 if (p0.sub.length:Int) != 2 then
 some false
 else
 if decide (p0.n<0)then
 some false
 else
 if decide (p0.n>0)then
 some false
 else
 if p0.k==7 then
 zS p0.sub 0>>=fun x38=>
 if x38.k != 2 then
 some false
 else
 wU qq p0 2 0
 else
 wU qq p0 2 0
 else
 if p0.k==4 then
 if (p0.sub.length:Int) != 2 then
 some false
 else
 if decide (p0.n<0)then
 some false
 else
 if decide (p0.n>0)then
 some false
 else
 if p0.k==7 then
 zS p0.sub 0>>=fun x46=>
 if x46.k != 2 then
 some false
 else
 wU qq p0 2 0
 else
 wU qq p0 2 0
 else
 if p0.k==5 then
 if (p0.sub.length:Int) != 2 then
 some false
 else
 if decide (p0.n<0)then
 some false
 else
 if decide (p0.n>0)then
 some false
 else
 if p0.k==7 then
 zS p0.sub 0>>=fun x54=>
 if x54.k != 2 then
 some false
 else
 wU qq p0 2 0
 else
 wU qq p0 2 0
 else
 if p0.k==7 then
 if (p0.sub.length:Int) != 1 then
 some false
 else
 if decide (p0.n<0)then
 some false
 else
 if decide (p0.n>1048576)then
 some false
 else
 zS p0.sub 0>>=fun x61=>
 if x61.k != 2 then
 some false
 else
 wU qq p0 1 0
 else
 some false
def wU:Nat->Tm->Int->Int->Option Bool
 |0,_,_,_=>none
 |qq+1,p0,v3,v5=>
 if decide (v5<v3)then
 zS p0.sub v5>>=fun x10=>
 zGC qq x10>>=fun r12=>
 if r12 then
 wU qq p0 v3 (w64 (v5+1))
 else
 some false
 else
 some true
end
abbrev zRj (p0:Tm) (r:Bool) (C:Cf):Prop:=C 105 [] [tmA p0] (ab r) [] 0
theorem vZ:Qf 105 Tryz.f105:=⟨Tryz.func105,rfl⟩
theorem uA{p0 r}(h:zRj p0 r Ci):zRj p0 r Ct:=⟨h,⟨⟨tv,tv,⟨tv,dT _⟩,tv⟩,tv⟩,zB,tv,zB⟩
theorem zEF:∀qq:Nat,(∀ {p0 r},zGC qq p0=some r->zRj p0 r Ct)∧(∀ {p0 v3 v5 r},wU qq p0 v3 v5=some r->(∀j,dL 0 (pt 262069 Tryz.f105) (sp j 61 0 [(1,.mp 0 0),(3,ai v3),(5,ai v5)]) (⟨[(0,.cells [ai p0.k,ai p0.n,slv zG p0.sub .no])],1,[],0,[]⟩) (fQ 0 (nQ 0 Tryz.f105 (ab r) [] 0) [.blk 1,.seq (pt 4095 Tryz.f105)]))):=by
 intro qq
 induction qq with
 |zero=>
  exact⟨fun h=>nn h,fun h=>nn h⟩
 |succ qq ih=>
  obtain⟨zRU,vO⟩:=ih
  refine⟨?_,?_⟩
  intro p0 r h
  rw[zGC]at h
  obtain⟨h1,h⟩|⟨h1,h⟩:=spl h
  have k:=oB 1 h1 o0
  obtain⟨h2,h⟩|⟨h2,h⟩:=spl h
  cases h
  exact uA (tF vZ 0 [] (oB 2 h2 k))
  have k:=oB 2 h2 k
  obtain⟨h3,h⟩|⟨h3,h⟩:=spl h
  cases h
  exact uA (tF vZ 0 [] (oB 1 h3 k))
  have k:=oB 1 h3 k
  obtain⟨h4,h⟩|⟨h4,h⟩:=spl h
  cases h
  exact uA (tF vZ 0 [] (oB 1 h4 k))
  have k:=oB 1 h4 k
  obtain⟨h5,h⟩|⟨h5,h⟩:=spl h
  obtain⟨x6,h7,h⟩:=zC h
  have k:=oA 1 (xB (o:=.no) h7)<|oB 1 h5 k
  obtain⟨h8,h⟩|⟨h8,h⟩:=spl h
  cases h
  exact uA (tF vZ 0 [] (oB 1 h8 k))
  exact uA (tH vZ 0 [] [0] [] [1,3,5] (oD (dT p0.sub)<|oB 1 h8 k) (vO h))
  exact uA (tH vZ 0 [] [0] [] [1,3,5] (oD (dT p0.sub)<|oB 1 h5 k) (vO h))
  have k:=oB 1 h1 o0
  obtain⟨h9,h⟩|⟨h9,h⟩:=spl h
  have k:=oB 0 h9 k
  obtain⟨h10,h⟩|⟨h10,h⟩:=spl h
  cases h
  exact uA (tF vZ 0 [] (oB 2 h10 k))
  have k:=oB 2 h10 k
  obtain⟨h11,h⟩|⟨h11,h⟩:=spl h
  cases h
  exact uA (tF vZ 0 [] (oB 1 h11 k))
  have k:=oB 1 h11 k
  obtain⟨h12,h⟩|⟨h12,h⟩:=spl h
  cases h
  exact uA (tF vZ 0 [] (oB 1 h12 k))
  have k:=oB 1 h12 k
  obtain⟨h13,h⟩|⟨h13,h⟩:=spl h
  obtain⟨x14,h15,h⟩:=zC h
  have k:=oA 1 (xB (o:=.no) h15)<|oB 1 h13 k
  obtain⟨h16,h⟩|⟨h16,h⟩:=spl h
  cases h
  exact uA (tF vZ 0 [] (oB 1 h16 k))
  exact uA (tH vZ 0 [] [0] [] [1,3,5] (oD (dT p0.sub)<|oB 1 h16 k) (vO h))
  exact uA (tH vZ 0 [] [0] [] [1,3,5] (oD (dT p0.sub)<|oB 1 h13 k) (vO h))
  have k:=oB 0 h9 k
  obtain⟨h17,h⟩|⟨h17,h⟩:=spl h
  have k:=oB 0 h17 k
  obtain⟨h18,h⟩|⟨h18,h⟩:=spl h
  cases h
  exact uA (tF vZ 0 [] (oB 2 h18 k))
  have k:=oB 2 h18 k
  obtain⟨h19,h⟩|⟨h19,h⟩:=spl h
  cases h
  exact uA (tF vZ 0 [] (oB 1 h19 k))
  have k:=oB 1 h19 k
  obtain⟨h20,h⟩|⟨h20,h⟩:=spl h
  cases h
  exact uA (tF vZ 0 [] (oB 1 h20 k))
  have k:=oB 1 h20 k
  obtain⟨h21,h⟩|⟨h21,h⟩:=spl h
  obtain⟨x22,h23,h⟩:=zC h
  have k:=oA 1 (xB (o:=.no) h23)<|oB 1 h21 k
  obtain⟨h24,h⟩|⟨h24,h⟩:=spl h
  cases h
  exact uA (tF vZ 0 [] (oB 1 h24 k))
  exact uA (tH vZ 0 [] [0] [] [1,3,5] (oD (dT p0.sub)<|oB 1 h24 k) (vO h))
  exact uA (tH vZ 0 [] [0] [] [1,3,5] (oD (dT p0.sub)<|oB 1 h21 k) (vO h))
  have k:=oB 0 h17 k
  obtain⟨h25,h⟩|⟨h25,h⟩:=spl h
  have k:=oB 0 h25 k
  obtain⟨h26,h⟩|⟨h26,h⟩:=spl h
  cases h
  exact uA (tF vZ 0 [] (oB 2 h26 k))
  have k:=oB 2 h26 k
  obtain⟨h27,h⟩|⟨h27,h⟩:=spl h
  cases h
  exact uA (tF vZ 0 [] (oB 1 h27 k))
  have k:=oB 1 h27 k
  obtain⟨h28,h⟩|⟨h28,h⟩:=spl h
  cases h
  exact uA (tF vZ 0 [] (oB 1 h28 k))
  have k:=oB 1 h28 k
  obtain⟨h29,h⟩|⟨h29,h⟩:=spl h
  obtain⟨x30,h31,h⟩:=zC h
  have k:=oA 1 (xB (o:=.no) h31)<|oB 1 h29 k
  obtain⟨h32,h⟩|⟨h32,h⟩:=spl h
  cases h
  exact uA (tF vZ 0 [] (oB 1 h32 k))
  exact uA (tH vZ 0 [] [0] [] [1,3,5] (oD (dT p0.sub)<|oB 1 h32 k) (vO h))
  exact uA (tH vZ 0 [] [0] [] [1,3,5] (oD (dT p0.sub)<|oB 1 h29 k) (vO h))
  have k:=oB 0 h25 k
  obtain⟨h33,h⟩|⟨h33,h⟩:=spl h
  have k:=oB 0 h33 k
  obtain⟨h34,h⟩|⟨h34,h⟩:=spl h
  cases h
  exact uA (tF vZ 0 [] (oB 2 h34 k))
  have k:=oB 2 h34 k
  obtain⟨h35,h⟩|⟨h35,h⟩:=spl h
  cases h
  exact uA (tF vZ 0 [] (oB 1 h35 k))
  have k:=oB 1 h35 k
  obtain⟨h36,h⟩|⟨h36,h⟩:=spl h
  cases h
  exact uA (tF vZ 0 [] (oB 1 h36 k))
  have k:=oB 1 h36 k
  obtain⟨h37,h⟩|⟨h37,h⟩:=spl h
  obtain⟨x38,h39,h⟩:=zC h
  have k:=oA 1 (xB (o:=.no) h39)<|oB 1 h37 k
  obtain⟨h40,h⟩|⟨h40,h⟩:=spl h
  cases h
  exact uA (tF vZ 0 [] (oB 1 h40 k))
  exact uA (tH vZ 0 [] [0] [] [1,3,5] (oD (dT p0.sub)<|oB 1 h40 k) (vO h))
  exact uA (tH vZ 0 [] [0] [] [1,3,5] (oD (dT p0.sub)<|oB 1 h37 k) (vO h))
  have k:=oB 0 h33 k
  obtain⟨h41,h⟩|⟨h41,h⟩:=spl h
  have k:=oB 0 h41 k
  obtain⟨h42,h⟩|⟨h42,h⟩:=spl h
  cases h
  exact uA (tF vZ 0 [] (oB 2 h42 k))
  have k:=oB 2 h42 k
  obtain⟨h43,h⟩|⟨h43,h⟩:=spl h
  cases h
  exact uA (tF vZ 0 [] (oB 1 h43 k))
  have k:=oB 1 h43 k
  obtain⟨h44,h⟩|⟨h44,h⟩:=spl h
  cases h
  exact uA (tF vZ 0 [] (oB 1 h44 k))
  have k:=oB 1 h44 k
  obtain⟨h45,h⟩|⟨h45,h⟩:=spl h
  obtain⟨x46,h47,h⟩:=zC h
  have k:=oA 1 (xB (o:=.no) h47)<|oB 1 h45 k
  obtain⟨h48,h⟩|⟨h48,h⟩:=spl h
  cases h
  exact uA (tF vZ 0 [] (oB 1 h48 k))
  exact uA (tH vZ 0 [] [0] [] [1,3,5] (oD (dT p0.sub)<|oB 1 h48 k) (vO h))
  exact uA (tH vZ 0 [] [0] [] [1,3,5] (oD (dT p0.sub)<|oB 1 h45 k) (vO h))
  have k:=oB 0 h41 k
  obtain⟨h49,h⟩|⟨h49,h⟩:=spl h
  have k:=oB 0 h49 k
  obtain⟨h50,h⟩|⟨h50,h⟩:=spl h
  cases h
  exact uA (tF vZ 0 [] (oB 2 h50 k))
  have k:=oB 2 h50 k
  obtain⟨h51,h⟩|⟨h51,h⟩:=spl h
  cases h
  exact uA (tF vZ 0 [] (oB 1 h51 k))
  have k:=oB 1 h51 k
  obtain⟨h52,h⟩|⟨h52,h⟩:=spl h
  cases h
  exact uA (tF vZ 0 [] (oB 1 h52 k))
  have k:=oB 1 h52 k
  obtain⟨h53,h⟩|⟨h53,h⟩:=spl h
  obtain⟨x54,h55,h⟩:=zC h
  have k:=oA 1 (xB (o:=.no) h55)<|oB 1 h53 k
  obtain⟨h56,h⟩|⟨h56,h⟩:=spl h
  cases h
  exact uA (tF vZ 0 [] (oB 1 h56 k))
  exact uA (tH vZ 0 [] [0] [] [1,3,5] (oD (dT p0.sub)<|oB 1 h56 k) (vO h))
  exact uA (tH vZ 0 [] [0] [] [1,3,5] (oD (dT p0.sub)<|oB 1 h53 k) (vO h))
  have k:=oB 0 h49 k
  obtain⟨h57,h⟩|⟨h57,h⟩:=spl h
  have k:=oB 0 h57 k
  obtain⟨h58,h⟩|⟨h58,h⟩:=spl h
  cases h
  exact uA (tF vZ 0 [] (oB 2 h58 k))
  have k:=oB 2 h58 k
  obtain⟨h59,h⟩|⟨h59,h⟩:=spl h
  cases h
  exact uA (tF vZ 0 [] (oB 1 h59 k))
  have k:=oB 1 h59 k
  obtain⟨h60,h⟩|⟨h60,h⟩:=spl h
  cases h
  exact uA (tF vZ 0 [] (oB 1 h60 k))
  obtain⟨x61,h62,h⟩:=zC h
  have k:=oA 1 (xB (o:=.no) h62)<|oB 1 h57<|oB 1 h60 k
  obtain⟨h63,h⟩|⟨h63,h⟩:=spl h
  cases h
  exact uA (tF vZ 0 [] (oB 1 h63 k))
  exact uA (tH vZ 0 [] [0] [] [1,3,5] (oD (dT p0.sub)<|oB 1 h63 k) (vO h))
  cases h
  exact uA (tF vZ 0 [] (oB 0 h57 k))
  intro p0 v3 v5 r h
  rw[wU]at h
  obtain⟨h9,h⟩|⟨h9,h⟩:=spl h
  obtain⟨x10,h11,h⟩:=zC h
  obtain⟨r12,h13,h⟩:=zC h
  have k:=oA 1 (xB (o:=.no) h11)<|oB 0 h9 o0
  obtain⟨h14,h⟩|⟨h14,h⟩:=spl h
  exact fun j=>lH 2 [] [0] [] [1,3,5] (oD (dT p0.sub)<|oK 1 [] h14 (zRU h13) k) (vO h)
  cases h
  exact fun j=>lF 1 [] (oK 1 [] h14 (zRU h13) k)
  cases h
  exact fun j=>lF 0 [] (oB 0 h9 o0)
theorem zXA{qq p0 r}(h:zGC qq p0=some r):zRj p0 r Ct:=(zEF _).1 h
def e70(qq:Nat)(p0:Tm)(p1:Int):Option Int:=
 if p1==1 then
 if p0.k != 5 then
 some 1
 else
 some 0
 else
 some 0
theorem q70:Qf 70 Tryz.f70:=⟨Tryz.func70,rfl⟩
theorem c70{qq p0 p1 r}(h:e70 qq p0 p1=some r):Ct 70 [] [tmA p0,ai p1] (ai r) [] 0:=⟨by
 unfold e70 at h
 obtain⟨h1,h⟩|⟨h1,h⟩:=spl h
 have k:=oB 0 h1 o0
 obtain⟨h2,h⟩|⟨h2,h⟩:=spl h
 cases h
 exact tF q70 0 [] (oB 1 h2 k)
 cases h
 exact tF q70 0 [] (oB 1 h2 k)
 cases h
 exact tF q70 0 [] (oB 0 h1 o0),⟨⟨tv,tv,⟨tv,dT _⟩,tv⟩,tv,tv⟩,zB,tv,zB⟩
mutual
def e38:Nat->Tm->Int->Option Int
 |0,_,_=>none
 |qq+1,p0,p1=>
 if p0.k==1 then
 if decide (p0.n≥p1)then
 some (w64 ((w64 (p0.n-p1))+1))
 else
 iF qq p0 p1 0 0
 else
 iF qq p0 p1 0 0
def iF:Nat->Tm->Int->Int->Int->Option Int
 |0,_,_,_,_=>none
 |qq+1,p0,p1,v5,v6=>
 if decide (v6<(p0.sub.length:Int))then
 zS p0.sub v6>>=fun x4=>
 e70 qq p0 v6>>=fun r6=>
 e38 qq x4 (w64 (p1+r6))>>=fun r8=>
 iF qq p0 p1 (mP v5 r8) (w64 (v6+1))
 else
 some v5
end
abbrev K38 (p0:Tm) (p1 r:Int) (C:Cf):Prop:=C 38 [] [tmA p0,ai p1] (ai r) [] 0
theorem q38:Qf 38 Tryz.f38:=⟨Tryz.func38,rfl⟩
theorem k38{p0 p1 r}(h:K38 p0 p1 r Ci):K38 p0 p1 r Ct:=⟨h,⟨⟨tv,tv,⟨tv,dT _⟩,tv⟩,tv,tv⟩,zB,tv,zB⟩
theorem zKG:∀qq:Nat,(∀ {p0 p1 r},e38 qq p0 p1=some r->K38 p0 p1 r Ct)∧(∀ {p0 p1 v5 v6 r},iF qq p0 p1 v5 v6=some r->(∀j,dL 0 (pt 16309 Tryz.f38) (sp j 42 0 [(1,ai p1),(2,.mp 0 0),(5,ai v5),(6,ai v6)]) (⟨[(0,.cells [ai p0.k,ai p0.n,slv zG p0.sub .no])],1,[],0,[]⟩) (fQ 0 (nQ 0 Tryz.f38 (ai r) [] 0) [.blk 0,.seq (pt 255 Tryz.f38)]))):=by
 intro qq
 induction qq with
 |zero=>
  exact⟨fun h=>nn h,fun h=>nn h⟩
 |succ qq ih=>
  obtain⟨zXB,zBO⟩:=ih
  refine⟨?_,?_⟩
  intro p0 p1 r h
  rw[e38]at h
  obtain⟨h1,h⟩|⟨h1,h⟩:=spl h
  have k:=oB 1 h1 o0
  obtain⟨h2,h⟩|⟨h2,h⟩:=spl h
  obtain rfl:=sj h
  exact k38 (tF q38 3 [] (oB 1 h2 k))
  exact k38 (tH q38 0 [] [0] [] [1,2,5,6] (oD (dT p0.sub)<|oB 1 h2 k) (zBO h))
  exact k38 (tH q38 0 [] [0] [] [1,2,5,6] (oD (dT p0.sub)<|oB 1 h1 o0) (zBO h))
  intro p0 p1 v5 v6 r h
  rw[iF]at h
  obtain⟨h3,h⟩|⟨h3,h⟩:=spl h
  obtain⟨x4,h5,h⟩:=zC h
  obtain⟨r6,h7,h⟩:=zC h
  obtain⟨r8,h9,h⟩:=zC h
  exact fun j=>lH 2 [] [0] [] [1,2,5,6] (oD (dT p0.sub)<|oC 1 [] (zXB h9)<|oC 2 [] (c70 h7)<|oA 0 (xB (o:=.no) h5)<|oCl 0<|oB 2 h3 o0) (zBO h)
  obtain rfl:=sj h
  exact fun j=>lF 0 [] (oB 2 h3 o0)
theorem c38{qq p0 p1 r}(h:e38 qq p0 p1=some r):K38 p0 p1 r Ct:=(zKG _).1 h
def e68(qq:Nat)(p0:Tm):Option Bool:=
 zNO qq p0>>=fun r1=>
 if decide (r1≤128)then
 zGC qq p0>>=fun r4=>
 some r4
 else
 some false
theorem q68:Qf 68 Tryz.f68:=⟨Tryz.func68,rfl⟩
theorem c68{qq p0 r}(h:e68 qq p0=some r):Ct 68 [] [tmA p0] (ab r) [] 0:=⟨by
 unfold e68 at h
 obtain⟨r1,h2,h⟩:=zC h
 have k:=oC 1 [] (zXp h2) o0
 obtain⟨h3,h⟩|⟨h3,h⟩:=spl h
 obtain⟨r4,h5,h⟩:=zC h
 obtain rfl:=sj h
 exact tF q68 0 [] (oC 1 [] (zXA h5)<|oB 0 h3 k)
 obtain rfl:=sj h
 exact tF q68 0 [] (oB 0 h3 k),⟨⟨tv,tv,⟨tv,dT _⟩,tv⟩,tv⟩,zB,tv,zB⟩
theorem tT(k n:Int)(l:List Tm):xA (.mk k n l)=(sB (.mk k n l)&&wK l):=by rw[xA]
mutual
theorem zEG:∀(t:Tm),t.Ok->Evt (fun q=>zGC q t) (xA t)
 | .mk k n l,ho=>by
  refine Evt.succ ?_
  simp only[zGC]
  have hL:∀c:Nat,l.length=c->Evt (fun q=>wU q (.mk k n l) (c:Int) 0) (wK l):=fun c hc=>
   zAm l (.mk k n l) 0 c rfl (by simpa[Tm.sub]using hc) ho.1 ho.2
  by_cases h1:k=1
  ·subst h1
   refine Evt.ifT rfl ((B0 (p:=.mk 1 n l) (c:=0) (m:=1048576) (r:=wK l) fun hc _ _=>Evt.ifF rfl (hL 0 hc)).eq ?_)
   rw[tT];simp[sB,Tm.k,Tm.n,Tm.sub]
   cases wK l<;>simp[Bool.and_comm,Bool.and_left_comm,Bool.and_assoc]
  refine Evt.ifF (by simpa[Tm.k]using h1) ?_
  by_cases h6:k=6
  ·subst h6
   refine Evt.ifT rfl ((B0 (p:=.mk 6 n l) (c:=0) (m:=1048576) (r:=wK l) fun hc _ _=>Evt.ifF rfl (hL 0 hc)).eq ?_)
   rw[tT];simp[sB,Tm.k,Tm.n,Tm.sub]
   cases wK l<;>simp[Bool.and_comm,Bool.and_left_comm,Bool.and_assoc]
  refine Evt.ifF (by simpa[Tm.k]using h6) ?_
  by_cases h8:k=8
  ·subst h8
   refine Evt.ifT rfl ((B0 (p:=.mk 8 n l) (c:=0) (m:=1048576) (r:=wK l) fun hc _ _=>Evt.ifF rfl (hL 0 hc)).eq ?_)
   rw[tT];simp[sB,Tm.k,Tm.n,Tm.sub]
   cases wK l<;>simp[Bool.and_comm,Bool.and_left_comm,Bool.and_assoc]
  refine Evt.ifF (by simpa[Tm.k]using h8) ?_
  by_cases h2:k=2
  ·subst h2
   refine Evt.ifT rfl ((B0 (p:=.mk 2 n l) (c:=0) (m:=7) (r:=wK l) fun hc _ _=>Evt.ifF rfl (hL 0 hc)).eq ?_)
   rw[tT];simp[sB,Tm.k,Tm.n,Tm.sub]
   cases wK l<;>simp[Bool.and_comm,Bool.and_left_comm,Bool.and_assoc]
  refine Evt.ifF (by simpa[Tm.k]using h2) ?_
  by_cases h3:k=3
  ·subst h3
   refine Evt.ifT rfl ((B0 (p:=.mk 3 n l) (c:=2) (m:=0) (r:=wK l) fun hc _ _=>Evt.ifF rfl (hL 2 hc)).eq ?_)
   rw[tT];simp[sB,Tm.k,Tm.n,Tm.sub]
   cases wK l<;>simp[Bool.and_comm,Bool.and_left_comm,Bool.and_assoc]
  refine Evt.ifF (by simpa[Tm.k]using h3) ?_
  by_cases h4:k=4
  ·subst h4
   refine Evt.ifT rfl ((B0 (p:=.mk 4 n l) (c:=2) (m:=0) (r:=wK l) fun hc _ _=>Evt.ifF rfl (hL 2 hc)).eq ?_)
   rw[tT];simp[sB,Tm.k,Tm.n,Tm.sub]
   cases wK l<;>simp[Bool.and_comm,Bool.and_left_comm,Bool.and_assoc]
  refine Evt.ifF (by simpa[Tm.k]using h4) ?_
  by_cases h5:k=5
  ·subst h5
   refine Evt.ifT rfl ((B0 (p:=.mk 5 n l) (c:=2) (m:=0) (r:=wK l) fun hc _ _=>Evt.ifF rfl (hL 2 hc)).eq ?_)
   rw[tT];simp[sB,Tm.k,Tm.n,Tm.sub]
   cases wK l<;>simp[Bool.and_comm,Bool.and_left_comm,Bool.and_assoc]
  refine Evt.ifF (by simpa[Tm.k]using h5) ?_
  by_cases h7:k=7
  ·subst h7
   refine Evt.ifT rfl ?_
   rcases l with _|⟨x,l⟩
   ·refine(B0 (p:=.mk 7 n []) (c:=1) (m:=1048576) (r:=false) fun hc _ _=>by simp[Tm.sub]at hc).eq ?_
    rw[tT];simp[sB,Tm.k,Tm.n,Tm.sub]
   ·refine(B0 (p:=.mk 7 n (x::l)) (c:=1) (m:=1048576) (r:=(x.k==2)&&wK (x::l)) fun hc _ _=>Evt.pure (a:=x) rfl ?_).eq ?_
    ·by_cases hx:x.k=2
     ·refine Evt.ifF (by simp[hx]) ((hL 1 (by simpa[Tm.sub]using hc)).eq (by simp[hx]))
     ·exact Evt.ifT (by simp[hx]) (Evt.ret.eq (by simp[hx]))
    ·rw[tT];simp[sB,Tm.k,Tm.n,Tm.sub]
     cases wK (x::l)<;>cases (x.k==2)<;>simp[Bool.and_comm,Bool.and_left_comm,Bool.and_assoc]
  refine Evt.ifF (by simpa[Tm.k]using h7) (Evt.ret.eq ?_)
  rw[tT]
  have:sB (.mk k n l)=false:=by
   simp only[sB,Tm.k]
   by_cases h9:1≤k∧k≤8
   ·omega
   ·by_cases h10:1≤k
    ·simp[show ¬k≤8 by omega]
    ·simp[h10]
  simp[this]
theorem zAm:∀(l:List Tm) (p:Tm) (v c:Nat),p.sub.drop v=l->p.sub.length=c->p.sub.length<9223372036854775808->OkL l->Evt (fun q=>wU q p (c:Int) (v:Int)) (wK l)
 | [],p,v,c,hd,hc,hl,ho=>by
  refine Evt.succ ?_
  simp only[wU]
  rw[wK,←hc]
  exact Evt.ifF (zZ hd) Evt.ret
 |t::l,p,v,c,hd,hc,hl,ho=>by
  refine Evt.succ ?_
  simp only[wU]
  refine Evt.ifT (by rw[←hc];exact zY hd) (Evt.pure (zX hd) ((zEG t ho.1).bind ?_))
  rw[wK]
  cases xA t with
  |false=>exact Evt.ifF rfl Evt.ret
  |true=>
   refine Evt.ifT rfl ?_
   rw[zW v (by have:=yC hd;omega)]
   exact zAm l p (v+1) c (zU hd) hc hl ho.2
end
theorem zGD(t:Tm)(ho:t.Ok):Evt (fun q=>e68 q t) (zL t):=by
 simp only[e68]
 refine(zKs t).bind ?_
 unfold zL zNQ
 by_cases h1:t.nodes≤8192
 ·rw[if_pos h1]
  by_cases h2:t.high≤128
  ·exact Evt.ifT (by simp<;>omega) (((zEG t ho).bind Evt.ret).eq (by simp[h1,h2]))
  ·exact Evt.ifF (by simp<;>omega) (Evt.ret.eq (by simp[h2]))
 ·rw[if_neg h1]
  exact Evt.ifF (by simp) (Evt.ret.eq (by simp[h1]))
def zRi(k:Int)(i:Nat):Int:=if i=1∧k≠5 then 1 else 0
theorem zEH(t:Tm)(i:Nat):Evt (fun q=>e70 q t (i:Int)) (zRi t.k i):=by
 refine Evt.mk fun q=>?_
 simp only[e70,zRi]
 by_cases h1:i=1
 ·subst h1;by_cases h5:t.k=5<;>simp[h5]
 ·have:¬((i:Int)=1):=by omega
  simp[h1,this]
theorem zRh{k n:Int}{l:List Tm}(h:sB (.mk k n l)=true){i:Nat}(hi:i<l.length):zRi k i=dY k i:=by
 unfold dY zRi
 by_cases h1:i=1
 ·subst h1
  have hs:=uT h
  simp only[Tm.k,Tm.n,Tm.sub]at hs
  have:k=3∨k=4∨k=5:=by
   by_cases h7:k=7
   ·obtain⟨x,hx,_⟩:=hs.2.2.2.2.2.2.1 h7
    rw[hx]at hi;simp at hi
   ·by_cases h3:k=1∨k=2∨k=6∨k=8
    ·rw[hs.2.2.2.2.2.2.2.1 h3]at hi;simp at hi
    ·omega
  rcases this with rfl|rfl|rfl<;>simp
 ·simp[h1]
mutual
theorem zAl:∀(t:Tm) (b:Int),xA t=true->0≤b->b+t.high≤4611686018427387904->Evt (fun q=>e38 q t b) (nC t b)
 | .mk k n l,b,hg,h0,h1=>by
  refine Evt.succ ?_
  simp only[e38,Tm.k,Tm.n]
  have hh:=wV hg
  have hn:=mS hh.1
  have hl:Evt (fun q=>iF q (.mk k n l) b 0 0) (iK l k 0 b):=
   (Y7 l (.mk k n l) 0 b 0 rfl hh.1 hh.2 h0 (by omega) (by rw[Tm.high]at h1;omega)).eq (by have:=zAU l k 0 b;simp only[Tm.k];omega)
  rw[Tm.high]at h1
  rw[nC]
  by_cases hk:k=1
  ·rw[if_pos hk]
   refine Evt.ifT (by simpa using hk) ?_
   by_cases hb:n≥b
   ·refine Evt.ifT (by simpa using hb) (Evt.ret.eq ?_)
    rw[yJ (x:=n-b) (by omega) (by omega),yJ (by omega) (by omega)];omega
   ·refine Evt.ifF (by simpa using hb) (hl.eq ?_)
    have:l=[]:=by
     have:=hh.1
     subst hk
     simp[sB,Tm.k,Tm.n,Tm.sub]at this
     exact this.2.1
    subst this
    rw[iK];omega
  ·rw[if_neg hk]
   exact Evt.ifF (by simpa using hk) hl
theorem Y7:∀(l:List Tm) (p:Tm) (v:Nat) (b m:Int),p.sub.drop v=l->sB p=true->wK l=true->0≤b->0≤m->b+1+wY l≤4611686018427387904->Evt (fun q=>iF q p b m (v:Int)) (max m (iK l p.k v b))
 | [],p,v,b,m,hd,hp,ho,h0,hm,h1=>by
  refine Evt.succ ?_
  simp only[iF]
  rw[iK]
  exact Evt.ifF (zZ hd) (Evt.ret.eq (by omega))
 |t::l,p,v,b,m,hd,hp,ho,h0,hm,h1=>by
  refine Evt.succ ?_
  simp only[iF]
  have hg:=xW ho
  have hu:=zHl p.k v
  have hlt:=yC hd
  obtain⟨k,n,ls⟩:=p
  have hls:=(mS hp).2.2.2.2
  simp only[Tm.sub]at hlt hd
  have he:=zRh hp hlt
  rw[wY]at h1
  refine Evt.ifT (zY hd) (Evt.pure (zX hd) ((zEH (.mk k n ls) v).bind ?_))
  simp only[Tm.k]at hu ⊢
  rw[he,yJ (x:=b+dY k v) (by omega) (by omega)]
  refine(zAl t (b+dY k v) hg.1 (by omega) (by omega)).bind ?_
  rw[zW v (by omega),aC]
  refine(Y7 l (.mk k n ls) (v+1) b _ (zU hd) hp hg.2 h0 (by omega) (by omega)).eq ?_
  simp only[Tm.k]
  rw[iK];omega
end
def e67(qq:Nat)(p0:Int):Option Bool:=
 if decide (p0≥0)then
 some (decide (p0≤1048576))
 else
 some false
theorem q67:Qf 67 Tryz.f67:=⟨Tryz.func67,rfl⟩
theorem c67{qq p0 r}(h:e67 qq p0=some r):Ct 67 [] [ai p0] (ab r) [] 0:=⟨by
 unfold e67 at h
 obtain⟨h1,h⟩|⟨h1,h⟩:=spl h
 cases h
 exact tF q67 1 [] (oB 0 h1 o0)
 cases h
 exact tF q67 0 [] (oB 0 h1 o0),⟨tv,tv⟩,zB,tv,zB⟩
def cY:Nat->List xD->Int->Option Bool
 |0,_,_=>none
 |qq+1,p0,v3=>
 if decide (v3<(p0.length:Int))then
 zS p0 v3>>=fun x2=>
 e67 qq x2.n_>>=fun r4=>
 if r4 then
 e68 qq x2.type_>>=fun r7=>
 if r7 then
 cY qq p0 (w64 (v3+1))
 else
 some false
 else
 some false
 else
 some (decide ((p0.length:Int)≤256))
def e36(qq:Nat)(p0:List xD):Option Bool:=
 cY qq p0 0
theorem zTS:∀qq:Nat,(∀ {p0 v3 r},cY qq p0 v3=some r->(∀j,dL 0 (pt 949 Tryz.f36) (sp j 29 0 [(0,slv wT p0 .no),(3,ai v3)]) (⟨[],0,[],0,[]⟩) (fQ 0 (nQ 0 Tryz.f36 (ab r) [] 0) [.blk 0,.seq (pt 15 Tryz.f36)]))):=by
 intro qq
 induction qq with
 |zero=>
  exact fun h=>nn h
 |succ qq ih=>
  intro p0 v3 r h
  rw[cY]at h
  obtain⟨h1,h⟩|⟨h1,h⟩:=spl h
  obtain⟨x2,h3,h⟩:=zC h
  obtain⟨r4,h5,h⟩:=zC h
  have k:=oA 0 (zAR (o:=.no) h3)<|oB 1 h1 o0
  obtain⟨h6,h⟩|⟨h6,h⟩:=spl h
  obtain⟨r7,h8,h⟩:=zC h
  have k:=oA 1 (zAR (o:=.no) h3)<|oK 1 [] h6 (c67 h5) k
  obtain⟨h9,h⟩|⟨h9,h⟩:=spl h
  exact fun j=>lH 2 [] [] [] [0,3] (oD (wN p0)<|oK 1 [] h9 (c68 h8) k) (ih h)
  cases h
  exact fun j=>lF 1 [] (oK 1 [] h9 (c68 h8) k)
  cases h
  exact fun j=>lF 1 [] (oK 1 [] h6 (c67 h5) k)
  cases h
  exact fun j=>lF 2 [] (oB 1 h1 o0)
theorem c36{qq p0 r}(h:e36 qq p0=some r):Ct 36 [] [slv wT p0 .no] (ab r) [] 0:=⟨by
 unfold e36 at h
 exact tH ⟨Tryz.func36,rfl⟩ 0 [] [] [] [0,3] (oD (wN p0) o0) (zTS _ h),⟨⟨tv,wN _⟩,tv⟩,zB,tv,zB⟩
def cZ:Nat->List xD->Int->Int->Option Int
 |0,_,_,_=>none
 |qq+1,p0,p1,v5=>
 if decide (v5<(p0.length:Int))then
 zS p0 v5>>=fun x2=>
 if x2.n_==p1 then
 some v5
 else
 cZ qq p0 p1 (w64 (v5+1))
 else
 some (-1)
def e69(qq:Nat)(p0:List xD)(p1:Int):Option Int:=
 cZ qq p0 p1 0
theorem zTT:∀qq:Nat,(∀ {p0 p1 v5 r},cZ qq p0 p1 v5=some r->(∀j,dL 0 (pt 949 Tryz.f69) (sp j 20 0 [(0,slv wT p0 .no),(1,ai p1),(5,ai v5)]) (⟨[],0,[],0,[]⟩) (fQ 0 (nQ 0 Tryz.f69 (ai r) [] 0) [.blk 0,.seq (pt 15 Tryz.f69)]))):=by
 intro qq
 induction qq with
 |zero=>
  exact fun h=>nn h
 |succ qq ih=>
  intro p0 p1 v5 r h
  rw[cZ]at h
  obtain⟨h1,h⟩|⟨h1,h⟩:=spl h
  obtain⟨x2,h3,h⟩:=zC h
  have k:=oA 0 (zAR (o:=.no) h3)<|oB 1 h1 o0
  obtain⟨h4,h⟩|⟨h4,h⟩:=spl h
  obtain rfl:=sj h
  exact fun j=>lF 0 [] (oB 1 h4 k)
  exact fun j=>lH 1 [] [] [] [0,1,5] (oD (wN p0)<|oB 1 h4 k) (ih h)
  obtain rfl:=sj h
  exact fun j=>lF 0 [] (oB 1 h1 o0)
theorem c69{qq p0 p1 r}(h:e69 qq p0 p1=some r):Ct 69 [] [slv wT p0 .no,ai p1] (ai r) [] 0:=⟨by
 unfold e69 at h
 exact tH ⟨Tryz.func69,rfl⟩ 0 [] [] [] [0,1,5] (oD (wN p0) o0) (zTT _ h),⟨⟨tv,wN _⟩,tv,tv⟩,zB,tv,zB⟩
def bA:Nat->List xD->Int->Option Bool
 |0,_,_=>none
 |qq+1,p0,v3=>
 if decide (v3<(p0.length:Int))then
 zS p0 v3>>=fun x2=>
 e69 qq p0 x2.n_>>=fun r4=>
 if r4 != v3 then
 some false
 else
 bA qq p0 (w64 (v3+1))
 else
 some true
def e37(qq:Nat)(p0:List xD):Option Bool:=
 bA qq p0 0
theorem zTU:∀qq:Nat,(∀ {p0 v3 r},bA qq p0 v3=some r->(∀j,dL 0 (pt 949 Tryz.f37) (sp j 19 0 [(0,slv wT p0 .no),(3,ai v3)]) (⟨[],0,[],0,[]⟩) (fQ 0 (nQ 0 Tryz.f37 (ab r) [] 0) [.blk 0,.seq (pt 15 Tryz.f37)]))):=by
 intro qq
 induction qq with
 |zero=>
  exact fun h=>nn h
 |succ qq ih=>
  intro p0 v3 r h
  rw[bA]at h
  obtain⟨h1,h⟩|⟨h1,h⟩:=spl h
  obtain⟨x2,h3,h⟩:=zC h
  obtain⟨r4,h5,h⟩:=zC h
  have k:=oC 1 [] (c69 h5)<|oA 0 (zAR (o:=.no) h3)<|oB 1 h1 o0
  obtain⟨h6,h⟩|⟨h6,h⟩:=spl h
  cases h
  exact fun j=>lF 0 [] (oB 0 h6 k)
  exact fun j=>lH 1 [] [] [] [0,3] (oD (wN p0)<|oB 0 h6 k) (ih h)
  cases h
  exact fun j=>lF 0 [] (oB 1 h1 o0)
theorem c37{qq p0 r}(h:e37 qq p0=some r):Ct 37 [] [slv wT p0 .no] (ab r) [] 0:=⟨by
 unfold e37 at h
 exact tH ⟨Tryz.func37,rfl⟩ 0 [] [] [] [0,3] (oD (wN p0) o0) (zTU _ h),⟨⟨tv,wN _⟩,tv⟩,zB,tv,zB⟩
mutual
def fF:Nat->List xD->Int->Option Bool
 |0,_,_=>none
 |qq+1,p0,v3=>
 if decide (v3<(p0.length:Int))then
 zS p0 v3>>=fun x8=>
 e38 qq x8.type_ 0>>=fun r10=>
 if decide (r10>0)then
 some false
 else
 bB qq p0 v3 v3
 else
 some true
def bB:Nat->List xD->Int->Int->Option Bool
 |0,_,_,_=>none
 |qq+1,p0,v3,v4=>
 if decide (v4<(p0.length:Int))then
 zS p0 v3>>=fun x14=>
 zS p0 v4>>=fun x16=>
 e11 qq x14.type_ x16.n_>>=fun r18=>
 if r18 then
 some false
 else
 bB qq p0 v3 (w64 (v4+1))
 else
 fF qq p0 (w64 (v3+1))
end
def e12(qq:Nat)(p0:List xD):Option Bool:=
 e36 qq p0>>=fun r1=>
 if r1 then
 e37 qq p0>>=fun r4=>
 if r4 then
 fF qq p0 0
 else
 some false
 else
 some false
theorem q12:Qf 12 Tryz.f12:=⟨Tryz.func12,rfl⟩
theorem zBP:∀qq:Nat,(∀ {p0 v3 r},fF qq p0 v3=some r->(∀j,dL 0 (pt 4021 Tryz.f12) (sp j 44 0 [(0,slv wT p0 .no),(3,ai v3)]) (⟨[],0,[],0,[]⟩) (fQ 0 (nQ 0 Tryz.f12 (ab r) [] 0) [.blk 0,.seq (pt 63 Tryz.f12)])))∧(∀ {p0 v3 v4 r},bB qq p0 v3 v4=some r->(∀j,dL 0 (pt 65894901 Tryz.f12) (sp j 44 0 [(0,slv wT p0 .no),(3,ai v3),(4,ai v4)]) (⟨[],0,[],0,[]⟩) (fQ 0 (nQ 0 Tryz.f12 (ab r) [] 0) [.blk 2,.blk 1,.seq (pt 64351 Tryz.f12),.loop (pt 4021 Tryz.f12),.blk 0,.seq (pt 63 Tryz.f12)]))):=by
 intro qq
 induction qq with
 |zero=>
  exact⟨fun h=>nn h,fun h=>nn h⟩
 |succ qq ih=>
  obtain⟨zRg,zIi⟩:=ih
  refine⟨?_,?_⟩
  intro p0 v3 r h
  rw[fF]at h
  obtain⟨h7,h⟩|⟨h7,h⟩:=spl h
  obtain⟨x8,h9,h⟩:=zC h
  obtain⟨r10,h11,h⟩:=zC h
  have k:=oC 1 [] (c38 h11)<|oA 0 (zAR (o:=.no) h9)<|oB 1 h7 o0
  obtain⟨h12,h⟩|⟨h12,h⟩:=spl h
  cases h
  exact fun j=>lF 0 [] (oB 0 h12 k)
  exact fun j=>lH 0 [] [] [] [0,3,4] (oD (wN p0)<|oB 0 h12 k) (zIi h)
  cases h
  exact fun j=>lF 0 [] (oB 1 h7 o0)
  intro p0 v3 v4 r h
  rw[bB]at h
  obtain⟨h13,h⟩|⟨h13,h⟩:=spl h
  obtain⟨x14,h15,h⟩:=zC h
  obtain⟨x16,h17,h⟩:=zC h
  obtain⟨r18,h19,h⟩:=zC h
  have k:=oA 1 (zAR (o:=.no) h17)<|oA 0 (zAR (o:=.no) h15)<|oB 1 h13 o0
  obtain⟨h20,h⟩|⟨h20,h⟩:=spl h
  cases h
  exact fun j=>lF 0 [] (oK 1 [] h20 (c11 h19) k)
  exact fun j=>lH 1 [] [] [] [0,3,4] (oD (wN p0)<|oK 1 [] h20 (c11 h19) k) (zIi h)
  exact fun j=>lH 1 [] [] [] [0,3] (oD (wN p0)<|oB 1 h13 o0) (zRg h)
theorem c12{qq p0 r}(h:e12 qq p0=some r):Ct 12 [] [slv wT p0 .no] (ab r) [] 0:=⟨by
 unfold e12 at h
 obtain⟨r1,h2,h⟩:=zC h
 obtain⟨h3,h⟩|⟨h3,h⟩:=spl h
 obtain⟨r4,h5,h⟩:=zC h
 have k:=oK 0 [] h3 (c36 h2) o0
 obtain⟨h6,h⟩|⟨h6,h⟩:=spl h
 exact tH q12 1 [] [] [] [0,3] (oD (wN p0)<|oK 1 [] h6 (c37 h5) k) ((zBP _).1 h)
 cases h
 exact tF q12 1 [] (oK 1 [] h6 (c37 h5) k)
 cases h
 exact tF q12 1 [] (oK 0 [] h3 (c36 h2) o0),⟨⟨tv,wN _⟩,tv⟩,zB,tv,zB⟩
theorem zGE{n:Int}(h0:0≤n)(h1:n≤1048576):Evt (fun q=>e67 q n) true:=by
 simp only[e67]
 exact Evt.ifT (decide_eq_true h0) (Evt.ret.eq (decide_eq_true h1))
theorem dB(D:List xD)(hl:D.length≤256):∀(r:List xD) (v:Nat),D.drop v=r->(∀x∈r,0≤x.n_∧x.n_≤1048576∧zL x.type_=true)->Evt (fun q=>cY q D (v:Int)) true
 | [],v,hd,h=>by
  refine Evt.succ ?_
  simp only[cY]
  exact Evt.ifF (zZ hd) (Evt.ret.eq (decide_eq_true (by omega)))
 |x::r,v,hd,h=>by
  have hlt:=yC hd
  obtain⟨h0,h1,h2⟩:=h x (by simp)
  refine Evt.succ ?_
  simp only[cY]
  refine Evt.ifT (zY hd) (Evt.pure (zX hd) ((zGE h0 h1).bind (Evt.ifT rfl (((zGD x.type_ (zV h2)).eq h2).bind (Evt.ifT rfl ?_)))))
  rw[zW v (by omega)]
  exact dB D hl r (v+1) (zU hd) fun y hy=>h y (by simp[hy])
theorem K6(D:List xD)(n:Int)(hl:D.length≤256)(v:Nat)(x:xD)(hx:D[v]? = some x)(hn:x.n_=n)(hb:∀(k:Nat) (y:xD),k<v->D[k]? = some y->y.n_≠n):∀(m k:Nat),k+m=v->Evt (fun q=>cZ q D n (k:Int)) (v:Int)
 |0,k,hk=>by
  have hv:=(List.getElem?_eq_some_iff.1 hx).1
  obtain rfl:k=v:=by omega
  refine Evt.succ ?_
  simp only[cZ]
  exact Evt.ifT (decide_eq_true (by omega)) (Evt.pure (vG hx) (Evt.ifT (by simp[hn]) Evt.ret))
 |m+1,k,hk=>by
  have hv:=(List.getElem?_eq_some_iff.1 hx).1
  obtain⟨y,hy⟩:∃y,D[k]? = some y:=⟨_,List.getElem?_eq_getElem (by omega)⟩
  refine Evt.succ ?_
  simp only[cZ]
  refine Evt.ifT (decide_eq_true (by omega)) (Evt.pure (vG hy) (Evt.ifF (by simpa using hb k y (by omega) hy) ?_))
  rw[zW k (by omega)]
  exact K6 D n hl v x hx hn hb m (k+1) (by omega)
theorem K7(D:List xD)(hl:D.length≤256)(hnd:(D.map (·.n_)).Nodup):∀(r:List xD) (v:Nat),D.drop v=r->Evt (fun q=>bA q D (v:Int)) true
 | [],v,hd=>by
  refine Evt.succ ?_
  simp only[bA]
  exact Evt.ifF (zZ hd) Evt.ret
 |x::r,v,hd=>by
  have hlt:=yC hd
  have hx:D[v]? = some x:=by rw[←List.head?_drop,hd];rfl
  have hp:Evt (fun q=>e69 q D x.n_) (v:Int):=by
   simp only[e69]
   refine K6 D x.n_ hl v x hx rfl (fun k y hk hy e=>?_) v 0 (by omega)
   have:=(List.pairwise_iff_getElem.1 hnd) k v (by simp;omega) (by simp;omega) hk
   rw[List.getElem_map,List.getElem_map]at this
   obtain⟨a1,a2⟩:=List.getElem?_eq_some_iff.1 hx
   obtain⟨b1,b2⟩:=List.getElem?_eq_some_iff.1 hy
   rw[a2,b2]at this
   exact this e
  refine Evt.succ ?_
  simp only[bA]
  refine Evt.ifT (zY hd) (Evt.pure (zX hd) (hp.bind (Evt.ifF (by simp) ?_)))
  rw[zW v (by omega)]
  exact K7 D hl hnd r (v+1) (zU hd)
theorem C5(D:List xD)(hl:D.length≤256)(x:xD)(v:Nat)(hx:zS D (v:Int)=some x)(hs:zL x.type_=true)(K:Evt (fun q=>fF q D (w64 ((v:Int)+1))) true):∀(r:List xD) (k:Nat),D.drop k=r->(∀y∈r,¬y.n_∈frT x.type_)->Evt (fun q=>bB q D (v:Int) (k:Int)) true
 | [],k,hd,h=>by
  refine Evt.succ ?_
  simp only[bB]
  exact Evt.ifF (zZ hd) K
 |y::r,k,hd,h=>by
  have hlt:=yC hd
  refine Evt.succ ?_
  simp only[bB]
  refine Evt.ifT (zY hd) (Evt.pure hx (Evt.pure (zX hd) ((cW hs (h y (by simp))).bind (Evt.ifF rfl ?_))))
  rw[zW k (by omega)]
  exact C5 D hl x v hx hs K r (k+1) (zU hd) fun z hz=>h z (by simp[hz])
theorem C6(D:List xD)(hl:D.length≤256):∀(r:List xD) (v:Nat),D.drop v=r->(∀x∈r,zL x.type_=true∧nC x.type_ 0≤0∧¬x.n_∈frT x.type_)->(r.Pairwise fun v w=>¬w.n_∈frT v.type_)->Evt (fun q=>fF q D (v:Int)) true
 | [],v,hd,h,hp=>by
  refine Evt.succ ?_
  simp only[fF]
  exact Evt.ifF (zZ hd) Evt.ret
 |x::r,v,hd,h,hp=>by
  have hlt:=yC hd
  obtain⟨h0,h1,h2⟩:=h x (by simp)
  have hh:=zQ h0
  have hp':=List.pairwise_cons.1 hp
  refine Evt.succ ?_
  simp only[fF]
  refine Evt.ifT (zY hd) (Evt.pure (zX hd) ((zAl x.type_ 0 hh.2.2 (by omega) (by omega)).bind (Evt.ifF (decide_eq_false (by omega)) ?_)))
  refine C5 D hl x v (zX hd) h0 ?_ (x::r) v hd fun y hy=>?_
  ·rw[zW v (by omega)]
   exact C6 D hl r (v+1) (zU hd) (fun y hy=>h y (by simp[hy])) hp'.2
  ·rcases List.mem_cons.1 hy with rfl|hy
   ·exact h2
   ·exact hp'.1 y hy
theorem K8{c:List zD}(h:gP c)(hm:∀v∈c,nC v.type_ 0≤0):Evt (fun q=>e12 q (ofV c)) true:=by
 have hl:(ofV c).length≤256:=by unfold ofV;rw[List.length_map];exact h.len
 have hmem:∀x∈ofV c,∃v∈c,x=xD.mk v.n_ v.type_:=fun x hx=>by
  obtain⟨v,hv,rfl⟩:=List.mem_map.1 hx
  exact⟨v,hv,rfl⟩
 simp only[e12,e36,e37]
 refine(dB (ofV c) hl _ 0 rfl fun x hx=>?_).bind (Evt.ifT rfl ((K7 (ofV c) hl ?_ _ 0 rfl).bind (Evt.ifT rfl (C6 (ofV c) hl _ 0 rfl (fun x hx=>?_) ?_))))
 ·obtain⟨v,hv,rfl⟩:=hmem x hx
  exact⟨(h.each v hv).1,(h.each v hv).2.1,(h.each v hv).2.2.1⟩
 ·unfold ofV;rw[List.map_map];exact h.nd
 ·obtain⟨v,hv,rfl⟩:=hmem x hx
  exact⟨(h.each v hv).2.2.1,hm v hv,h.self v hv⟩
 ·unfold ofV;rw[List.drop_zero,List.pairwise_map];exact h.ord
def bC:Nat->List zD->Int->Option Bool
 |0,_,_=>none
 |qq+1,p1,v5=>
 if decide (v5<(p1.length:Int))then
 zS p1 v5>>=fun x4=>
 e15 qq x4.type_>>=fun r6=>
 if decide (r6>150)then
 some false
 else
 bC qq p1 (w64 (v5+1))
 else
 some true
def e25(qq:Nat)(p0:List Ent)(p1:List zD):Option Bool:=
 if decide ((p0.length:Int)>60)then
 some false
 else
 if decide ((p1.length:Int)>12)then
 some false
 else
 bC qq p1 0
theorem q25:Qf 25 Tryz.f25:=⟨Tryz.func25,rfl⟩
theorem zTV:∀qq:Nat,(∀ {p1 v5 r},bC qq p1 v5=some r->(∀j,dL 0 (pt 4021 Tryz.f25) (sp j 27 0 [(1,slv zJ p1 .no),(5,ai v5)]) (⟨[],0,[],0,[]⟩) (fQ 0 (nQ 0 Tryz.f25 (ab r) [] 0) [.blk 0,.seq (pt 63 Tryz.f25)]))):=by
 intro qq
 induction qq with
 |zero=>
  exact fun h=>nn h
 |succ qq ih=>
  intro p1 v5 r h
  rw[bC]at h
  obtain⟨h3,h⟩|⟨h3,h⟩:=spl h
  obtain⟨x4,h5,h⟩:=zC h
  obtain⟨r6,h7,h⟩:=zC h
  have k:=oC 1 [] (c15 h7)<|oA 0 (E1 (o:=.no) h5)<|oB 1 h3 o0
  obtain⟨h8,h⟩|⟨h8,h⟩:=spl h
  cases h
  exact fun j=>lF 0 [] (oB 0 h8 k)
  exact fun j=>lH 1 [] [] [] [1,5] (oD (zF p1)<|oB 0 h8 k) (ih h)
  cases h
  exact fun j=>lF 0 [] (oB 1 h3 o0)
theorem c25{qq p0 p1 r}(h:e25 qq p0 p1=some r):Ct 25 [] [slv yP p0 .no,slv zJ p1 .no] (ab r) [] 0:=⟨by
 unfold e25 at h
 obtain⟨h1,h⟩|⟨h1,h⟩:=spl h
 cases h
 exact tF q25 0 [] (oB 1 h1 o0)
 have k:=oB 1 h1 o0
 obtain⟨h2,h⟩|⟨h2,h⟩:=spl h
 cases h
 exact tF q25 0 [] (oB 1 h2 k)
 exact tH q25 0 [] [] [] [1,5] (oD (zF p1)<|oB 1 h2 k) (zTV _ h),⟨⟨tv,dE _⟩,⟨tv,zF _⟩,tv⟩,zB,tv,zB⟩
def e63(qq:Nat)(p0 p1:Int):Option Tm:=
 some (Tm.mk p0 p1 [])
theorem c63{qq p0 p1 r}(h:e63 qq p0 p1=some r):Ct 63 [] [ai p0,ai p1] (tmA r) [] 0:=⟨by
 unfold e63 at h
 cases h
 exact tF ⟨Tryz.func63,rfl⟩ 1 [] (oD (dT ([]:List Tm)) o0),⟨tv,tv,tv⟩,zB,⟨tv,tv,dT _,tv⟩,zB⟩
def e33(qq:Nat)(p0:Int):Option Tm:=
 e63 qq 6 p0>>=fun r1=>
 some r1
theorem c33{qq p0 r}(h:e33 qq p0=some r):Ct 33 [] [ai p0] (tmA r) [] 0:=⟨by
 unfold e33 at h
 obtain⟨r1,h2,h⟩:=zC h
 obtain rfl:=sj h
 exact tF ⟨Tryz.func33,rfl⟩ 1 [] (oD (dT r1.sub)<|oC 0 [] (c63 h2) o0),⟨tv,tv⟩,zB,⟨tv,tv,dT _,tv⟩,zB⟩
def e71(qq:Nat)(p0:Int)(p1 p2:Tm):Option Tm:=
 some (Tm.mk p0 0 [p1,p2])
theorem c71{qq p0 p1 p2 r}(h:e71 qq p0 p1 p2=some r):Ct 71 [] [ai p0,tmA p1,tmA p2] (tmA r) [] 0:=⟨by
 unfold e71 at h
 cases h
 exact tF ⟨Tryz.func71,rfl⟩ 1 [] (oD (dT [p1,p2])<|oS 2 (xI xN [p1,p2]) o0),⟨tv,⟨tv,tv,⟨tv,dT _⟩,tv⟩,⟨tv,tv,⟨tv,dT _⟩,tv⟩,tv⟩,zB,⟨tv,tv,dT _,tv⟩,zB⟩
def zBQ:Nat->List Tm->Int->Int->Int->List Tm->Option Tm
 |0,_,_,_,_,_=>none
 |qq+1,p1,v5,yA,wO,wD=>
 if decide (v5<(p1.length:Int))then
 zS p1 v5>>=fun x2=>
 e71 qq 5 (Tm.mk yA wO wD) x2>>=fun r4=>
 zBQ qq p1 (w64 (v5+1)) r4.k r4.n r4.sub
 else
 some (Tm.mk yA wO wD)
def e66(qq:Nat)(p0:Tm)(p1:List Tm):Option Tm:=
 zBQ qq p1 0 p0.k p0.n p0.sub
theorem zTW:∀qq:Nat,(∀ {p1 v5 yA wO wD r},zBQ qq p1 v5 yA wO wD=some r->(∀j,dL 0 (pt 949 Tryz.f66) (sp j 19 0 [(1,slv zG p1 .no),(2,.mp 0 0),(4,.mp 1 0),(5,ai v5)]) (⟨[(0,.cells [ai yA,ai wO,slv zG wD .no]),(1,.cells [ai 0,ai 0,slv zG ([]:List Tm) .nl])],2,[],0,[]⟩) (fQ 0 (nQ 0 Tryz.f66 (tmA r) [] 0) [.blk 0,.seq (pt 15 Tryz.f66)]))):=by
 intro qq
 induction qq with
 |zero=>
  exact fun h=>nn h
 |succ qq ih=>
  intro p1 v5 yA wO wD r h
  rw[zBQ]at h
  obtain⟨h1,h⟩|⟨h1,h⟩:=spl h
  obtain⟨x2,h3,h⟩:=zC h
  obtain⟨r4,h5,h⟩:=zC h
  exact fun j=>lH 2 [] [0,1] [] [1,2,4,5] (oD (dT p1)<|oD (dT ([]:List Tm))<|oD (dT r4.sub)<|oC 1 [] (c71 h5)<|oA 1 (xB (o:=.no) h3)<|oB 1 h1 o0) (ih h)
  cases h
  exact fun j=>lF 2 [] (oD (dT wD)<|oB 1 h1 o0)
theorem c66{qq p0 p1 r}(h:e66 qq p0 p1=some r):Ct 66 [] [tmA p0,slv zG p1 .no] (tmA r) [] 0:=⟨by
 unfold e66 at h
 exact tH ⟨Tryz.func66,rfl⟩ 0 [] [0,1] [] [1,2,4,5] (oD (dT p1)<|oD (dT ([]:List Tm))<|oD (dT p0.sub) o0) (zTW _ h),⟨⟨tv,tv,⟨tv,dT _⟩,tv⟩,⟨tv,dT _⟩,tv⟩,zB,⟨tv,tv,dT _,tv⟩,zB⟩
def e35(qq:Nat)(p0:Tm)(p1:List Tm):Option Tm:=
 e66 qq p0 p1>>=fun r1=>
 some r1
theorem c35{qq p0 p1 r}(h:e35 qq p0 p1=some r):Ct 35 [] [tmA p0,slv zG p1 .no] (tmA r) [] 0:=⟨by
 unfold e35 at h
 obtain⟨r1,h2,h⟩:=zC h
 obtain rfl:=sj h
 exact tF ⟨Tryz.func35,rfl⟩ 1 [] (oD (dT r1.sub)<|oC 1 [] (c66 h2) o0),⟨⟨tv,tv,⟨tv,dT _⟩,tv⟩,⟨tv,dT _⟩,tv⟩,zB,⟨tv,tv,dT _,tv⟩,zB⟩
def e39(qq:Nat)(p0:ByteArray)(p1:Tm)(p2 p3:Int)(p4:List Int):Option Ent:=
 some (Ent.mk 1 p0 p1 (Tm.mk 0 0 []) 0 0 p2 p3 0 p4 [])
theorem c39{qq p0 p1 p2 p3 p4 r}(h:e39 qq p0 p1 p2 p3 p4=some r):Ct 39 [] [at' p0,tmA p1,ai p2,ai p3,slv yB p4 .no] (zSv r) [] 0:=⟨by
 unfold e39 at h
 cases h
 exact tF ⟨Tryz.func39,rfl⟩ 2 [] (oD (dI ([]:List Int))<|oD (dI p4)<|oD (dT ([]:List Tm))<|oD (dT p1.sub) o0),⟨tv,⟨tv,tv,⟨tv,dT _⟩,tv⟩,tv,tv,⟨tv,dI _⟩,tv⟩,zB,⟨tv,tv,tv,tv,dT _,tv,tv,dT _,tv,tv,tv,tv,tv,dI _,dI _,tv⟩,zB⟩
def e40(qq:Nat)(p0 p1:Tm):Option Tm:=
 e71 qq 3 p0 p1>>=fun r1=>
 some r1
theorem c40{qq p0 p1 r}(h:e40 qq p0 p1=some r):Ct 40 [] [tmA p0,tmA p1] (tmA r) [] 0:=⟨by
 unfold e40 at h
 obtain⟨r1,h2,h⟩:=zC h
 obtain rfl:=sj h
 exact tF ⟨Tryz.func40,rfl⟩ 1 [] (oD (dT r1.sub)<|oC 2 [] (c71 h2) o0),⟨⟨tv,tv,⟨tv,dT _⟩,tv⟩,⟨tv,tv,⟨tv,dT _⟩,tv⟩,tv⟩,zB,⟨tv,tv,dT _,tv⟩,zB⟩
def e41(qq:Nat)(p0:Int):Option Tm:=
 e63 qq 2 p0>>=fun r1=>
 some r1
theorem c41{qq p0 r}(h:e41 qq p0=some r):Ct 41 [] [ai p0] (tmA r) [] 0:=⟨by
 unfold e41 at h
 obtain⟨r1,h2,h⟩:=zC h
 obtain rfl:=sj h
 exact tF ⟨Tryz.func41,rfl⟩ 1 [] (oD (dT r1.sub)<|oC 0 [] (c63 h2) o0),⟨tv,tv⟩,zB,⟨tv,tv,dT _,tv⟩,zB⟩
def e42(qq:Nat)(p0:Int):Option Tm:=
 e63 qq 1 p0>>=fun r1=>
 some r1
theorem c42{qq p0 r}(h:e42 qq p0=some r):Ct 42 [] [ai p0] (tmA r) [] 0:=⟨by
 unfold e42 at h
 obtain⟨r1,h2,h⟩:=zC h
 obtain rfl:=sj h
 exact tF ⟨Tryz.func42,rfl⟩ 1 [] (oD (dT r1.sub)<|oC 0 [] (c63 h2) o0),⟨tv,tv⟩,zB,⟨tv,tv,dT _,tv⟩,zB⟩
def e43(qq:Nat)(p0 p1:Tm):Option Tm:=
 e71 qq 4 p0 p1>>=fun r1=>
 some r1
theorem c43{qq p0 p1 r}(h:e43 qq p0 p1=some r):Ct 43 [] [tmA p0,tmA p1] (tmA r) [] 0:=⟨by
 unfold e43 at h
 obtain⟨r1,h2,h⟩:=zC h
 obtain rfl:=sj h
 exact tF ⟨Tryz.func43,rfl⟩ 1 [] (oD (dT r1.sub)<|oC 2 [] (c71 h2) o0),⟨⟨tv,tv,⟨tv,dT _⟩,tv⟩,⟨tv,tv,⟨tv,dT _⟩,tv⟩,tv⟩,zB,⟨tv,tv,dT _,tv⟩,zB⟩
def e72(qq:Nat)(p0 p1:Int)(p2:List Tm):Option Tm:=
 some (Tm.mk p0 p1 p2)
theorem c72{qq p0 p1 p2 r}(h:e72 qq p0 p1 p2=some r):Ct 72 [] [ai p0,ai p1,slv zG p2 .no] (tmA r) [] 0:=⟨by
 unfold e72 at h
 cases h
 exact tF ⟨Tryz.func72,rfl⟩ 1 [] (oD (dT p2) o0),⟨tv,tv,⟨tv,dT _⟩,tv⟩,zB,⟨tv,tv,dT _,tv⟩,zB⟩
def e44(qq:Nat)(p0 p1:Int):Option Tm:=
 e41 qq p1>>=fun r1=>
 e72 qq 7 p0 [r1]>>=fun r3=>
 some r3
theorem c44{qq p0 p1 r}(h:e44 qq p0 p1=some r):Ct 44 [] [ai p0,ai p1] (tmA r) [] 0:=⟨by
 unfold e44 at h
 obtain⟨r1,h2,h⟩:=zC h
 obtain⟨r3,h4,h⟩:=zC h
 obtain rfl:=sj h
 exact tF ⟨Tryz.func44,rfl⟩ 1 [] (oD (dT r3.sub)<|oC 0 [] (c72 h4)<|oS 0 (xI xN [r1])<|oC 0 [] (c41 h2) o0),⟨tv,tv,tv⟩,zB,⟨tv,tv,dT _,tv⟩,zB⟩
def e45(qq:Nat)(p0:ByteArray)(p1:Tm)(p2 p3 p4:Int):Option Ent:=
 some (Ent.mk 2 p0 p1 (Tm.mk 0 0 []) p2 p3 p4 0 0 [] [])
theorem c45{qq p0 p1 p2 p3 p4 r}(h:e45 qq p0 p1 p2 p3 p4=some r):Ct 45 [] [at' p0,tmA p1,ai p2,ai p3,ai p4] (zSv r) [] 0:=⟨by
 unfold e45 at h
 cases h
 exact tF ⟨Tryz.func45,rfl⟩ 2 [] (oD (dI ([]:List Int))<|oD (dI ([]:List Int))<|oD (dT ([]:List Tm))<|oD (dT p1.sub) o0),⟨tv,⟨tv,tv,⟨tv,dT _⟩,tv⟩,tv,tv,tv,tv⟩,zB,⟨tv,tv,tv,tv,dT _,tv,tv,dT _,tv,tv,tv,tv,tv,dI _,dI _,tv⟩,zB⟩
def e46(qq:Nat)(p0:ByteArray)(p1:Tm)(p2:Int):Option Ent:=
 some (Ent.mk 4 p0 p1 (Tm.mk 0 0 []) 14 p2 2 0 0 [] [])
theorem c46{qq p0 p1 p2 r}(h:e46 qq p0 p1 p2=some r):Ct 46 [] [at' p0,tmA p1,ai p2] (zSv r) [] 0:=⟨by
 unfold e46 at h
 cases h
 exact tF ⟨Tryz.func46,rfl⟩ 2 [] (oD (dI ([]:List Int))<|oD (dI ([]:List Int))<|oD (dT ([]:List Tm))<|oD (dT p1.sub) o0),⟨tv,⟨tv,tv,⟨tv,dT _⟩,tv⟩,tv,tv⟩,zB,⟨tv,tv,tv,tv,dT _,tv,tv,dT _,tv,tv,tv,tv,tv,dI _,dI _,tv⟩,zB⟩
def e13(qq:Nat)  : Option (List Ent):=
 e33 qq 0>>=fun r1=>
 e41 qq 0>>=fun r3=>
 e40 qq r3 r3>>=fun r5=>
 e40 qq r3 r5>>=fun r7=>
 e39 qq (⟨#[80,97,105,114]⟩:ByteArray) r7 2 0 [15]>>=fun r9=>
 e33 qq 14>>=fun r11=>
 e42 qq 1>>=fun r13=>
 e42 qq 0>>=fun r15=>
 e35 qq r11 [r13,r15]>>=fun r17=>
 e44 qq 0 0>>=fun r19=>
 e43 qq r1 r1>>=fun r21=>
 e33 qq 2>>=fun r23=>
 e35 qq r23 [r15]>>=fun r25=>
 e43 qq r1 r25>>=fun r27=>
 e43 qq r1 r27>>=fun r29=>
 e35 qq r19 [r21,r15,r29,r13]>>=fun r31=>
 e43 qq r1 r31>>=fun r33=>
 e43 qq r1 r33>>=fun r35=>
 e39 qq (⟨#[78,97,116]⟩:ByteArray) r3 0 0 [1,2]>>=fun r37=>
 e45 qq (⟨#[122,101,114,111]⟩:ByteArray) r1 0 0 0>>=fun r39=>
 e40 qq r1 r1>>=fun r41=>
 e45 qq (⟨#[115,117,99]⟩:ByteArray) r41 0 1 0>>=fun r43=>
 e39 qq (⟨#[66,111,111,108]⟩:ByteArray) r3 0 0 [4,5]>>=fun r45=>
 e33 qq 3>>=fun r47=>
 e45 qq (⟨#[116,114,117,101]⟩:ByteArray) r47 3 0 0>>=fun r49=>
 e45 qq (⟨#[102,97,108,115,101]⟩:ByteArray) r47 3 1 0>>=fun r51=>
 e39 qq (⟨#[76,105,115,116]⟩:ByteArray) r5 1 0 [7,8]>>=fun r53=>
 e33 qq 6>>=fun r55=>
 e35 qq r55 [r15]>>=fun r57=>
 e40 qq r3 r57>>=fun r59=>
 e45 qq (⟨#[110,105,108]⟩:ByteArray) r59 6 0 1>>=fun r61=>
 e35 qq r55 [r13]>>=fun r63=>
 e42 qq 2>>=fun r65=>
 e35 qq r55 [r65]>>=fun r67=>
 e40 qq r63 r67>>=fun r69=>
 e40 qq r15 r69>>=fun r71=>
 e40 qq r3 r71>>=fun r73=>
 e45 qq (⟨#[99,111,110,115]⟩:ByteArray) r73 6 1 1>>=fun r75=>
 e40 qq r1 r3>>=fun r77=>
 e40 qq r3 r77>>=fun r79=>
 e39 qq (⟨#[86,101,99]⟩:ByteArray) r79 1 1 [10,11]>>=fun r81=>
 e33 qq 9>>=fun r83=>
 e33 qq 1>>=fun r85=>
 e35 qq r83 [r15,r85]>>=fun r87=>
 e40 qq r3 r87>>=fun r89=>
 e45 qq (⟨#[118,110,105,108]⟩:ByteArray) r89 9 0 1>>=fun r91=>
 e35 qq r83 [r65,r13]>>=fun r93=>
 e42 qq 3>>=fun r95=>
 e35 qq r23 [r65]>>=fun r97=>
 e35 qq r83 [r95,r97]>>=fun r99=>
 e40 qq r93 r99>>=fun r101=>
 e40 qq r13 r101>>=fun r103=>
 e40 qq r1 r103>>=fun r105=>
 e40 qq r3 r105>>=fun r107=>
 e45 qq (⟨#[118,99,111,110,115]⟩:ByteArray) r107 9 1 1>>=fun r109=>
 e40 qq r13 r3>>=fun r111=>
 e40 qq r15 r111>>=fun r113=>
 e40 qq r3 r113>>=fun r115=>
 e39 qq (⟨#[69,113]⟩:ByteArray) r115 2 1 [13]>>=fun r117=>
 e33 qq 12>>=fun r119=>
 e35 qq r119 [r13,r15,r15]>>=fun r121=>
 e40 qq r15 r121>>=fun r123=>
 e40 qq r3 r123>>=fun r125=>
 e45 qq (⟨#[114,101,102,108]⟩:ByteArray) r125 12 0 2>>=fun r127=>
 e35 qq r11 [r95,r65]>>=fun r129=>
 e40 qq r13 r129>>=fun r131=>
 e40 qq r13 r131>>=fun r133=>
 e40 qq r3 r133>>=fun r135=>
 e40 qq r3 r135>>=fun r137=>
 e45 qq (⟨#[112,97,105,114]⟩:ByteArray) r137 14 0 2>>=fun r139=>
 e40 qq r17 r65>>=fun r141=>
 e40 qq r3 r141>>=fun r143=>
 e40 qq r3 r143>>=fun r145=>
 e46 qq (⟨#[102,115,116]⟩:ByteArray) r145 0>>=fun r147=>
 e40 qq r17 r13>>=fun r149=>
 e40 qq r3 r149>>=fun r151=>
 e40 qq r3 r151>>=fun r153=>
 e46 qq (⟨#[115,110,100]⟩:ByteArray) r153 1>>=fun r155=>
 e39 qq (⟨#[84,114,101,101]⟩:ByteArray) r3 0 0 [19,20]>>=fun r157=>
 e33 qq 18>>=fun r159=>
 e45 qq (⟨#[108,101,97,102]⟩:ByteArray) r159 18 0 0>>=fun r161=>
 e40 qq r1 r159>>=fun r163=>
 e40 qq r163 r159>>=fun r165=>
 e45 qq (⟨#[110,111,100,101]⟩:ByteArray) r165 18 1 0>>=fun r167=>
 e40 qq r1 r41>>=fun r169=>
 e40 qq r15 r13>>=fun r171=>
 e40 qq r3 r171>>=fun r173=>
 e43 qq r15 r15>>=fun r175=>
 e43 qq r3 r175>>=fun r177=>
 some [r37,r39,r43,r45,r49,r51,r53,r61,r75,r81,r91,r109,r117,r127,(Ent.mk r9.kind r9.name r9.type r9.body r9.fam r9.place r9.pars r9.inds r9.level r9.cons [16,17]),r139,r147,r155,r157,r161,r167,(Ent.mk 3 (⟨#[112,108,117,115]⟩:ByteArray) r169 r35 0 0 0 0 0 [] []),(Ent.mk 3 (⟨#[105,100]⟩:ByteArray) r173 r177 0 0 0 0 0 [] [])]
theorem c13{qq r}(h:e13 qq  = some r):Ct 13 [] [] (.sl (zK yP r) r.length .no) [] 0:=⟨by
 unfold e13 at h
 obtain⟨r1,h2,h⟩:=zC h
 obtain⟨r3,h4,h⟩:=zC h
 obtain⟨r5,h6,h⟩:=zC h
 obtain⟨r7,h8,h⟩:=zC h
 obtain⟨r9,h10,h⟩:=zC h
 obtain⟨r11,h12,h⟩:=zC h
 obtain⟨r13,h14,h⟩:=zC h
 obtain⟨r15,h16,h⟩:=zC h
 obtain⟨r17,h18,h⟩:=zC h
 obtain⟨r19,h20,h⟩:=zC h
 obtain⟨r21,h22,h⟩:=zC h
 obtain⟨r23,h24,h⟩:=zC h
 obtain⟨r25,h26,h⟩:=zC h
 obtain⟨r27,h28,h⟩:=zC h
 obtain⟨r29,h30,h⟩:=zC h
 obtain⟨r31,h32,h⟩:=zC h
 obtain⟨r33,h34,h⟩:=zC h
 obtain⟨r35,h36,h⟩:=zC h
 obtain⟨r37,h38,h⟩:=zC h
 obtain⟨r39,h40,h⟩:=zC h
 obtain⟨r41,h42,h⟩:=zC h
 obtain⟨r43,h44,h⟩:=zC h
 obtain⟨r45,h46,h⟩:=zC h
 obtain⟨r47,h48,h⟩:=zC h
 obtain⟨r49,h50,h⟩:=zC h
 obtain⟨r51,h52,h⟩:=zC h
 obtain⟨r53,h54,h⟩:=zC h
 obtain⟨r55,h56,h⟩:=zC h
 obtain⟨r57,h58,h⟩:=zC h
 obtain⟨r59,h60,h⟩:=zC h
 obtain⟨r61,h62,h⟩:=zC h
 obtain⟨r63,h64,h⟩:=zC h
 obtain⟨r65,h66,h⟩:=zC h
 obtain⟨r67,h68,h⟩:=zC h
 obtain⟨r69,h70,h⟩:=zC h
 obtain⟨r71,h72,h⟩:=zC h
 obtain⟨r73,h74,h⟩:=zC h
 obtain⟨r75,h76,h⟩:=zC h
 obtain⟨r77,h78,h⟩:=zC h
 obtain⟨r79,h80,h⟩:=zC h
 obtain⟨r81,h82,h⟩:=zC h
 obtain⟨r83,h84,h⟩:=zC h
 obtain⟨r85,h86,h⟩:=zC h
 obtain⟨r87,h88,h⟩:=zC h
 obtain⟨r89,h90,h⟩:=zC h
 obtain⟨r91,h92,h⟩:=zC h
 obtain⟨r93,h94,h⟩:=zC h
 obtain⟨r95,h96,h⟩:=zC h
 obtain⟨r97,h98,h⟩:=zC h
 obtain⟨r99,h100,h⟩:=zC h
 obtain⟨r101,h102,h⟩:=zC h
 obtain⟨r103,h104,h⟩:=zC h
 obtain⟨r105,h106,h⟩:=zC h
 obtain⟨r107,h108,h⟩:=zC h
 obtain⟨r109,h110,h⟩:=zC h
 obtain⟨r111,h112,h⟩:=zC h
 obtain⟨r113,h114,h⟩:=zC h
 obtain⟨r115,h116,h⟩:=zC h
 obtain⟨r117,h118,h⟩:=zC h
 obtain⟨r119,h120,h⟩:=zC h
 obtain⟨r121,h122,h⟩:=zC h
 obtain⟨r123,h124,h⟩:=zC h
 obtain⟨r125,h126,h⟩:=zC h
 obtain⟨r127,h128,h⟩:=zC h
 obtain⟨r129,h130,h⟩:=zC h
 obtain⟨r131,h132,h⟩:=zC h
 obtain⟨r133,h134,h⟩:=zC h
 obtain⟨r135,h136,h⟩:=zC h
 obtain⟨r137,h138,h⟩:=zC h
 obtain⟨r139,h140,h⟩:=zC h
 obtain⟨r141,h142,h⟩:=zC h
 obtain⟨r143,h144,h⟩:=zC h
 obtain⟨r145,h146,h⟩:=zC h
 obtain⟨r147,h148,h⟩:=zC h
 obtain⟨r149,h150,h⟩:=zC h
 obtain⟨r151,h152,h⟩:=zC h
 obtain⟨r153,h154,h⟩:=zC h
 obtain⟨r155,h156,h⟩:=zC h
 obtain⟨r157,h158,h⟩:=zC h
 obtain⟨r159,h160,h⟩:=zC h
 obtain⟨r161,h162,h⟩:=zC h
 obtain⟨r163,h164,h⟩:=zC h
 obtain⟨r165,h166,h⟩:=zC h
 obtain⟨r167,h168,h⟩:=zC h
 obtain⟨r169,h170,h⟩:=zC h
 obtain⟨r171,h172,h⟩:=zC h
 obtain⟨r173,h174,h⟩:=zC h
 obtain⟨r175,h176,h⟩:=zC h
 obtain⟨r177,h178,h⟩:=zC h
 cases h
 exact tF ⟨Tryz.func13,rfl⟩ 1 [] (oD (dE [r37,r39,r43,r45,r49,r51,r53,r61,r75,r81,r91,r109,r117,r127,(Ent.mk r9.kind r9.name r9.type r9.body r9.fam r9.place r9.pars r9.inds r9.level r9.cons [16,17]),r139,r147,r155,r157,r161,r167,(Ent.mk 3 (⟨#[112,108,117,115]⟩:ByteArray) r169 r35 0 0 0 0 0 [] []),(Ent.mk 3 (⟨#[105,100]⟩:ByteArray) r173 r177 0 0 0 0 0 [] [])])<|oC 0 [] (c43 h178)<|oC 0 [] (c43 h176)<|oC 0 [] (c42 h16)<|oC 0 [] (c42 h16)<|oC 0 [] (c41 h4)<|oC 0 [] (c40 h174)<|oC 0 [] (c40 h172)<|oC 0 [] (c42 h14)<|oC 0 [] (c42 h16)<|oC 1 [] (c41 h4)<|oC 0 [] (c40 h170)<|oC 3 [] (c40 h42)<|oC 0 [] (c45 h168)<|oC 0 [] (c40 h166)<|oC 0 [] (c33 h160)<|oC 0 [] (c40 h164)<|oC 1 [] (c33 h160)<|oC 0 [] (c45 h162)<|oC 0 [] (c33 h160)<|oC 1 [] (c39 h158)<|oC 0 [] (c41 h4)<|oC 0 [] (c46 h156)<|oC 0 [] (c40 h154)<|oC 0 [] (c40 h152)<|oC 0 [] (c40 h150)<|oC 1 [] (c42 h14)<|oC 0 [] (c41 h4)<|oC 0 [] (c41 h4)<|oC 0 [] (c46 h148)<|oC 0 [] (c40 h146)<|oC 0 [] (c40 h144)<|oC 0 [] (c40 h142)<|oC 1 [] (c42 h66)<|oC 0 [] (c41 h4)<|oC 0 [] (c41 h4)<|oC 0 [] (c45 h140)<|oC 0 [] (c40 h138)<|oC 0 [] (c40 h136)<|oC 0 [] (c40 h134)<|oC 0 [] (c40 h132)<|oC 0 [] (c35 h130)<|oS 0 (xI xN [r95,r65])<|oC 0 [] (c42 h66)<|oC 0 [] (c42 h96)<|oC 0 [] (c33 h12)<|oC 0 [] (c42 h14)<|oC 0 [] (c42 h14)<|oC 0 [] (c41 h4)<|oC 1 [] (c41 h4)<|oC 0 [] (c45 h128)<|oC 0 [] (c40 h126)<|oC 0 [] (c40 h124)<|oC 0 [] (c35 h122)<|oS 0 (xI xN [r13,r15,r15])<|oC 0 [] (c42 h16)<|oC 0 [] (c42 h16)<|oC 0 [] (c42 h14)<|oC 0 [] (c33 h120)<|oC 0 [] (c42 h16)<|oC 0 [] (c41 h4)<|oC 1 [] (c39 h118)<|oC 0 [] (c40 h116)<|oC 0 [] (c40 h114)<|oC 0 [] (c40 h112)<|oC 0 [] (c41 h4)<|oC 0 [] (c42 h14)<|oC 0 [] (c42 h16)<|oC 0 [] (c41 h4)<|oC 0 [] (c45 h110)<|oC 0 [] (c40 h108)<|oC 0 [] (c40 h106)<|oC 0 [] (c40 h104)<|oC 0 [] (c40 h102)<|oC 0 [] (c35 h100)<|oS 0 (xI xN [r95,r97])<|oC 0 [] (c35 h98)<|oS 0 (xI xN [r65])<|oC 0 [] (c42 h66)<|oC 0 [] (c33 h24)<|oC 0 [] (c42 h96)<|oC 0 [] (c33 h84)<|oC 0 [] (c35 h94)<|oS 0 (xI xN [r65,r13])<|oC 0 [] (c42 h14)<|oC 0 [] (c42 h66)<|oC 0 [] (c33 h84)<|oC 1 [] (c42 h14)<|oC 0 [] (c41 h4)<|oC 0 [] (c45 h92)<|oC 0 [] (c40 h90)<|oC 0 [] (c35 h88)<|oS 0 (xI xN [r15,r85])<|oC 0 [] (c33 h86)<|oC 0 [] (c42 h16)<|oC 0 [] (c33 h84)<|oC 0 [] (c41 h4)<|oC 1 [] (c39 h82)<|oC 0 [] (c40 h80)<|oC 0 [] (c40 h78)<|oC 1 [] (c41 h4)<|oC 0 [] (c41 h4)<|oC 0 [] (c45 h76)<|oC 0 [] (c40 h74)<|oC 0 [] (c40 h72)<|oC 0 [] (c40 h70)<|oC 0 [] (c35 h68)<|oS 0 (xI xN [r65])<|oC 0 [] (c42 h66)<|oC 0 [] (c33 h56)<|oC 0 [] (c35 h64)<|oS 0 (xI xN [r13])<|oC 0 [] (c42 h14)<|oC 0 [] (c33 h56)<|oC 0 [] (c42 h16)<|oC 0 [] (c41 h4)<|oC 0 [] (c45 h62)<|oC 0 [] (c40 h60)<|oC 0 [] (c35 h58)<|oS 0 (xI xN [r15])<|oC 0 [] (c42 h16)<|oC 0 [] (c33 h56)<|oC 0 [] (c41 h4)<|oC 1 [] (c39 h54)<|oC 0 [] (c40 h6)<|oC 0 [] (c41 h4)<|oC 0 [] (c41 h4)<|oC 0 [] (c45 h52)<|oC 0 [] (c33 h48)<|oC 0 [] (c45 h50)<|oC 0 [] (c33 h48)<|oC 1 [] (c39 h46)<|oC 0 [] (c41 h4)<|oC 0 [] (c45 h44)<|oC 2 [] (c40 h42)<|oC 1 [] (c45 h40)<|oC 1 [] (c39 h38)<|oC 1 [] (c41 h4)<|oC 0 [] (c43 h36)<|oC 0 [] (c43 h34)<|oC 0 [] (c35 h32)<|oS 0 (xI xN [r21,r15,r29,r13])<|oC 0 [] (c42 h14)<|oC 0 [] (c43 h30)<|oC 0 [] (c43 h28)<|oC 0 [] (c35 h26)<|oS 0 (xI xN [r15])<|oC 0 [] (c42 h16)<|oC 2 [] (c33 h24)<|oC 0 [] (c42 h16)<|oC 2 [] (c43 h22)<|oC 3 [] (c44 h20)<|oC 0 [] (c35 h18)<|oS 0 (xI xN [r13,r15])<|oC 0 [] (c42 h16)<|oC 0 [] (c42 h14)<|oC 3 [] (c33 h12)<|oC 1 [] (c39 h10)<|oC 0 [] (c40 h8)<|oC 0 [] (c40 h6)<|oC 0 [] (c41 h4)<|oC 0 [] (c41 h4)<|oC 1 [] (c41 h4)<|oC 0 [] (c33 h2) o0),tv,zB,dE _,zB⟩
def bD:Nat->yY->List zD->Int->Option Bool
 |0,_,_,_=>none
 |qq+1,M,p1,v16=>
 if decide (v16<(p1.length:Int))then
 zS p1 v16>>=fun x5=>
 zBJ qq M>>=fun r7=>
 Z9 qq x5.type_ 0 r7>>=fun r9=>
 if r9 then
 bD qq M p1 (w64 (v16+1))
 else
 some false
 else
 some true
def e91(qq:Nat)(M:yY)(p1:List zD):Option Bool:=
 e96 qq p1>>=fun r1=>
 if r1 then
 bD qq M p1 0
 else
 some false
theorem q91:Qf 91 Tryz.f91:=⟨Tryz.func91,rfl⟩
theorem zTX:∀qq:Nat,(∀ {M p1 v16 r},bD qq M p1 v16=some r->(∀j,dL 2 (pt 4021 Tryz.f91) (sp j 27 0 [(0,.mp 0 0),(14,slv zJ p1 .no),(15,ai (p1.length:Int)),(16,ai v16)]) (⟨[(0,mB M 1),(1,mR M)],2,[],0,[]⟩) (fQ 2 (nQ 2 Tryz.f91 (ab r) [mB M 1,mR M] 0) [.blk 0,.seq (pt 63 Tryz.f91)]))):=by
 intro qq
 induction qq with
 |zero=>
  exact fun h=>nn h
 |succ qq ih=>
  intro M p1 v16 r h
  rw[bD]at h
  obtain⟨h4,h⟩|⟨h4,h⟩:=spl h
  obtain⟨x5,h6,h⟩:=zC h
  obtain⟨r7,h8,h⟩:=zC h
  obtain⟨r9,h10,h⟩:=zC h
  have k:=oC 3 [0,1] (zRy h8)<|oA 0 (E1 (o:=.no) h6)<|oB 0 h4 o0
  obtain⟨h11,h⟩|⟨h11,h⟩:=spl h
  exact fun j=>lH 2 [] [0,1] [] [0,14,15,16] (oD (zF p1)<|oDM M<|oK 0 [] h11 (z7 h10) k) (ih h)
  cases h
  exact fun j=>lF 1 [0,1] (oDM M<|oK 0 [] h11 (z7 h10) k)
  cases h
  exact fun j=>lF 0 [0,1] (oDM M<|oB 0 h4 o0)
theorem c91{qq M p1 r}(h:e91 qq M p1=some r):Ct 91 [mB M 1,mR M] [.mp 0 0,slv zJ p1 .no] (ab r) [mB M 1,mR M] 0:=⟨by
 unfold e91 at h
 obtain⟨r1,h2,h⟩:=zC h
 obtain⟨h3,h⟩|⟨h3,h⟩:=spl h
 exact tH q91 2 [] [0,1] [] [0,14,15,16] (oD (zF p1)<|oDM M<|oK 1 [] h3 (c96 h2) o0) (zTX _ h)
 cases h
 exact tF q91 1 [0,1] (oDM M<|oK 1 [] h3 (c96 h2) o0),⟨(lz rfl),⟨tv,zF _⟩,tv⟩,(fMa (lz rfl) zB),tv,(fMf (lz rfl) zB)⟩
def e60(qq:Nat)(M:yY)(p1:List zD)(p2 fl fu:Int):Option ((Int×Int×Int×Int×List Ent×List zD×Int×List Tm×List Tm) ⊕ (Int×Int×Int×Int)):=
 e91 qq M p1>>=fun r1=>
 if r1 then
 e92 qq M>>=fun r4=>
 e93 qq M r4 p1 p2 fl fu>>=fun r6=>
 some (.inl (r6.1,r6.2.2.2.1,r6.2.2.2.2.1,r6.2.2.2.2.2,r4,p1,p2,r6.2.1,r6.2.2.1))
 else
 some (.inr (0,5,fl,fu))
section
variable (M:yY) (p1:List zD) (p2 fl fu:Int)
abbrev zWm (r:Int×Int×Int×Int×List Ent×List zD×Int×List Tm×List Tm) (C:Cf):Prop:=C 60 [mB M 1,mR M,.cells [ai fl,ai fu]] [.mp 0 0,slv zJ p1 .no,ai p2,.mp 2 0] (.tup [.mp 3 0,ai r.1,ai r.2.1]) [mB M 1,mR M,.cells [ai r.2.2.1,ai r.2.2.2.1],.cells [.mp 0 0,slv yP r.2.2.2.2.1 .no,slv zJ r.2.2.2.2.2.1 .no,ai r.2.2.2.2.2.2.1,.mp 2 0,slv zG r.2.2.2.2.2.2.2.1 .no,slv zG r.2.2.2.2.2.2.2.2 .no]] 0
abbrev zWl (r:Int×Int×Int×Int) (C:Cf):Prop:=C 60 [mB M 1,mR M,.cells [ai fl,ai fu]] [.mp 0 0,slv zJ p1 .no,ai p2,.mp 2 0] (.tup [.val (.pointer none),ai r.1,ai r.2.1]) [mB M 1,mR M,.cells [ai r.2.2.1,ai r.2.2.2]] 0
end
theorem q60:Qf 60 Tryz.f60:=⟨Tryz.func60,rfl⟩
theorem c60{qq M p1 p2 fl fu r}(h:e60 qq M p1 p2 fl fu=some r):(match (generalizing:=false) r with | .inl x=>zWm M p1 p2 fl fu x Ct | .inr x=>zWl M p1 p2 fl fu x Ct):=by
 unfold e60 at h
 obtain⟨r1,h2,h⟩:=zC h
 obtain⟨h3,h⟩|⟨h3,h⟩:=spl h
 obtain⟨r4,h5,h⟩:=zC h
 obtain⟨r6,h7,h⟩:=zC h
 cases h
 exact⟨tF q60 6 [0,1,2,3] (oD (dT r6.2.2.1)<|oD (dT r6.2.1)<|oD (zF p1)<|oD (dE r4)<|oDM M<|oC 1 [0,1,2] (c93 h7)<|oC 1 [0,1] (c92 h5)<|oK 0 [0,1] h3 (c91 h2) o0),⟨(lz rfl),⟨tv,zF _⟩,tv,(lz rfl),tv⟩,(fMa (lz rfl) (zA ⟨tv,tv,tv⟩ zB)),⟨(lz rfl),tv,tv,tv⟩,(fMf (lz rfl) (zA ⟨tv,tv,tv⟩ (zA ⟨(lz rfl),dE _,zF _,tv,(lz rfl),dT _,dT _,tv⟩ zB)))⟩
 cases h
 exact⟨tF q60 1 [0,1,2] (oDM M<|oK 0 [0,1] h3 (c91 h2) o0),⟨(lz rfl),⟨tv,zF _⟩,tv,(lz rfl),tv⟩,(fMa (lz rfl) (zA ⟨tv,tv,tv⟩ zB)),⟨tv,tv,tv,tv⟩,(fMf (lz rfl) (zA ⟨tv,tv,tv⟩ zB))⟩
def e62(qq:Nat)(M:yY)(p1:List zD)(p2 p3 fl fu:Int):Option (zR×Int×Int×Int):=
 e60 qq M p1 p2 fl fu>>=fun r1=>
 match r1 with
 | .inl y3=>
  if y3.2.1 != 0 then
  some ((zR.mk 0 false [] [] []),y3.2.1,y3.2.2.1,y3.2.2.2.1)
  else
  zS y3.2.2.2.2.1 y3.1>>=fun x5=>
  e94 qq x5.cons p3>>=fun r7=>
  if r7 then
  e95 qq M y3.2.2.2.2.1 y3.2.2.2.2.2.1 y3.2.2.2.2.2.2.1 y3.2.2.1 y3.2.2.2.1 y3.2.2.2.2.2.2.2.1 y3.2.2.2.2.2.2.2.2 p3>>=fun r10=>
  some (r10.1,r10.2.1,r10.2.2.1,r10.2.2.2)
  else
  some ((zR.mk 0 false [] [] []),16,y3.2.2.1,y3.2.2.2.1)
 | .inr y12=>
  if y12.2.1 != 0 then
  some ((zR.mk 0 false [] [] []),y12.2.1,y12.2.2.1,y12.2.2.2)
  else
  none
theorem q62:Qf 62 Tryz.f62:=⟨Tryz.func62,rfl⟩
theorem c62{qq M p1 p2 p3 fl fu r}(h:e62 qq M p1 p2 p3 fl fu=some r):Ct 62 [mB M 1,mR M,.cells [ai fl,ai fu]] [.mp 0 0,slv zJ p1 .no,ai p2,ai p3,.mp 2 0] (.tup [bZ r.1,ai r.2.1]) [mB M 1,mR M,.cells [ai r.2.2.1,ai r.2.2.2]] 0:=⟨by
 unfold e62 at h
 have z {os ob} (k:Oz os ob):=oD (zM ([]:List zI))<|oD (zF ([]:List zD))<|oD (dI ([]:List Int))<|oDM M<|k
 obtain⟨r1,h2,h⟩:=zC h
 rcases r1 with y3|y12
 dsimp only at h
 have k:=oC 0 [0,1,2] (c60 h2) o0
 obtain⟨h4,h⟩|⟨h4,h⟩:=spl h
 cases h
 exact tF q62 1 [0,1,2] (z<|oB 3 h4 k)
 obtain⟨x5,h6,h⟩:=zC h
 obtain⟨r7,h8,h⟩:=zC h
 have k:=oA 1 (xL (o:=.no) h6)<|oB 3 h4 k
 obtain⟨h9,h⟩|⟨h9,h⟩:=spl h
 obtain⟨r10,h11,h⟩:=zC h
 cases h
 exact tF q62 3 [0,1,2] (oD (zM r10.1.solved_)<|oD (zF r10.1.vars_)<|oD (dI r10.1.args_)<|oDM M<|oC 1 [4,0,1,2] (c95 h11)<|oK 1 [] h9 (c94 h8) k)
 cases h
 exact tF q62 2 [0,1,2] (z<|oK 1 [] h9 (c94 h8) k)
 dsimp only at h
 have k:=oC 0 [0,1,2] (c60 h2) o0
 obtain⟨h13,h⟩:=spT h
 cases h
 exact tF q62 1 [0,1,2] (z<|oB 3 h13 k),⟨(lz rfl),⟨tv,zF _⟩,tv,tv,(lz rfl),tv⟩,(fMa (lz rfl) (zA ⟨tv,tv,tv⟩ zB)),⟨⟨tv,tv,dI _,zF _,zM _,tv⟩,tv,tv⟩,(fMf (lz rfl) (zA ⟨tv,tv,tv⟩ zB))⟩
def C7(qq:Nat)(p0 q1:Int)(q2 q3:List Ent)(q4:List yX)(q5 q6:List Int)(q7:List zD)(q8 q9 q10:Int)(q11:List zR):Option (Int×Int×Int×List zR):=
 if q1==0 then
 e62 qq (yY.mk q2 q3 q4 q5 q6) q7 q8 p0 q9 q10>>=fun r2=>
 yN 88 q11 [r2.1]>>=fun l4=>
 some (r2.2.1,r2.2.2.1,r2.2.2.2,l4)
 else
 some (q1,q9,q10,q11)
theorem zIh:Qf 61 Tryz.f61:=⟨Tryz.func61,rfl⟩
theorem zRf{qq p0 q1 q2 q3 q4 q5 q6 q7 q8 q9 q10 q11 r}(h:C7 qq p0 q1 q2 q3 q4 q5 q6 q7 q8 q9 q10 q11=some r):Ct 61 [.cells [ai q1],.cells [.mp 2 0],qB q2 3 q5 q6,qR q3 q4,.cells [slv zJ q7 .no],.cells [ai q8],.cells [.mp 7 0],.cells [ai q9,ai q10],.cells [.ms 9 0 q11.length q11.length 5],.row (zK yE q11)] [ai p0,.mp 0 0,.mp 1 0,.mp 4 0,.mp 5 0,.mp 6 0,.mp 8 0] (.tup []) [.cells [ai r.1],.cells [.mp 2 0],qB q2 3 q5 q6,qR q3 q4,.cells [slv zJ q7 .no],.cells [ai q8],.cells [.mp 7 0],.cells [ai r.2.1,ai r.2.2.1],.cells [.ms 10 0 r.2.2.2.length r.2.2.2.length 5],.dead,.row (zK yE r.2.2.2)] 0:=⟨by
 unfold C7 at h
 obtain⟨h1,h⟩|⟨h1,h⟩:=spl h
 obtain⟨r2,h3,h⟩:=zC h
 obtain⟨l4,h5,h⟩:=zC h
 cases h
 exact tF zIh 1 [0,1,2,3,4,5,6,7,8,9,11] (oD (yF l4)<|oD (zF q7)<|oDm q2 q3 q4 q5 q6<|oM 7 (zUd h5 (by simp))<|oC 4 [2,3,7] (c62 h3)<|oB 1 h1 o0)
 cases h
 exact tG zIh 0 [(some 9,0,0)] [0,1,2,3,4,5,6,7,8,9,10] [] false (oD (yF q11)<|oD (zF q7)<|oDm q2 q3 q4 q5 q6<|oB 1 h1 o0),⟨tv,(lz rfl),(lz rfl),(lz rfl),(lz rfl),(lz rfl),(lz rfl),tv⟩,(zA ⟨tv,tv⟩ (zA ⟨(lz rfl),tv⟩ (fMa (lz rfl) (zA ⟨⟨tv,zF _⟩,tv⟩ (zA ⟨tv,tv⟩ (zA ⟨(lz rfl),tv⟩ (zA ⟨tv,tv,tv⟩ (zA ⟨(lz rfl),tv⟩ (zA (yF _) zB))))))))),tv,(zA ⟨tv,tv⟩ (zA ⟨(lz rfl),tv⟩ (fMf (lz rfl) (zA ⟨zF _,tv⟩ (zA ⟨tv,tv⟩ (zA ⟨(lz rfl),tv⟩ (zA ⟨tv,tv,tv⟩ (zA ⟨(lz rfl),tv⟩ (zA tv (zA (yF _) zB))))))))))⟩
def bE:Nat->yY->List zD->Int->Ent->Int->Int->Int->Int->List zR->Option ((List zR×Int×Int×Int) ⊕ (List zR×Int×Int×Int))
 |0,_,_,_,_,_,_,_,_,_=>none
 |qq+1,M,p1,p2,x5,v39,xC,xR,xP,wE=>
 if decide (v39<(x5.cons.length:Int))then
 zS x5.cons v39>>=fun x8=>
 C7 qq x8 xP M.l M.rl M.parts M.args M.own p1 p2 xC xR wE>>=fun r10=>
 bE qq M p1 p2 x5 (w64 (v39+1)) r10.2.1 r10.2.2.1 r10.1 r10.2.2.2
 else
 if xP != 0 then
 some (.inl ([],xP,xC,xR))
 else
 gfz wE.length wE>>=fun l13=>
 some (.inr (l13,0,xC,xR))
def e29(qq:Nat)(M:yY)(p1:List zD)(p2 fl fu:Int):Option ((List zR×Int×Int×Int) ⊕ (List zR×Int×Int×Int)):=
 e60 qq M p1 p2 fl fu>>=fun r1=>
 match r1 with
 | .inl y3=>
  if y3.2.1 != 0 then
  some (.inl ([],y3.2.1,y3.2.2.1,y3.2.2.2.1))
  else
  zS y3.2.2.2.2.1 y3.1>>=fun x5=>
  bE qq M p1 p2 x5 0 y3.2.2.1 y3.2.2.2.1 y3.2.1 ([]:List zR)
 | .inr y7=>
  if y7.2.1 != 0 then
  some (.inl ([],y7.2.1,y7.2.2.1,y7.2.2.2))
  else
  none
section
variable (M:yY) (p1:List zD) (p2 fl fu:Int)
abbrev zOc (r:List zR×Int×Int×Int) (C:Cf):Prop:=C 29 [mB M 1,mR M,.cells [ai fl,ai fu]] [.mp 0 0,slv zJ p1 .no,ai p2,.mp 2 0] (.tup [.sl (zK yE r.1) r.1.length .no,ai r.2.1]) [mB M 1,mR M,.cells [ai r.2.2.1,ai r.2.2.2]] 0
abbrev zWk (r:List zR×Int×Int×Int) (C:Cf):Prop:=C 29 [mB M 1,mR M,.cells [ai fl,ai fu]] [.mp 0 0,slv zJ p1 .no,ai p2,.mp 2 0] (.tup [.ms 3 0 r.1.length r.1.length 5,ai r.2.1]) [mB M 1,mR M,.cells [ai r.2.2.1,ai r.2.2.2],.row (zK yE r.1)] 0
end
theorem q29:Qf 29 Tryz.f29:=⟨Tryz.func29,rfl⟩
theorem zOb{M p1 p2 fl fu r}(h:zOc M p1 p2 fl fu r Ci):zOc M p1 p2 fl fu r Ct:=⟨h,⟨(lz rfl),⟨tv,zF _⟩,tv,(lz rfl),tv⟩,(fMa (lz rfl) (zA ⟨tv,tv,tv⟩ zB)),⟨yF _,tv,tv⟩,(fMf (lz rfl) (zA ⟨tv,tv,tv⟩ zB))⟩
theorem zOa:∀qq:Nat,(∀ {M p1 p2 x5 v39 xC xR xP wE r},bE qq M p1 p2 x5 v39 xC xR xP wE=some r->(∀j,dL 3 (pt 262069 Tryz.f29) (sp j 51 0 [(12,.mp 3 0),(13,.mp 4 0),(14,.clo 61 [] [.mp 3 0,.mp 5 0,.mp 6 0,.mp 7 0,.mp 8 0,.mp 4 0]),(37,slv yB x5.cons .no),(38,ai (x5.cons.length:Int)),(39,ai v39)]) (⟨[(0,mB M 1),(1,mR M),(2,.cells [ai xC,ai xR]),(3,.cells [ai xP]),(4,.cells [.ms 9 0 wE.length wE.length 5]),(5,.cells [.mp 0 0]),(6,.cells [slv zJ p1 .no]),(7,.cells [ai p2]),(8,.cells [.mp 2 0]),(9,.row (zK yE wE))],10,[],0,[]⟩) (fQ 3 ((match (generalizing:=false) r with | .inl x=>nQ 3 Tryz.f29 (.tup [.sl (zK yE x.1) x.1.length .no,ai x.2.1]) [mB M 1,mR M,.cells [ai x.2.2.1,ai x.2.2.2]] 0 | .inr x=>nQ 3 Tryz.f29 (.tup [.ms 3 0 x.1.length x.1.length 5,ai x.2.1]) [mB M 1,mR M,.cells [ai x.2.2.1,ai x.2.2.2],.row (zK yE x.1)] 0)) [.blk 0,.seq (pt 4095 Tryz.f29)]))):=by
 intro qq
 induction qq with
 |zero=>
  exact fun h=>nn h
 |succ qq ih=>
  intro M p1 p2 x5 v39 xC xR xP wE r h
  rw[bE]at h
  obtain⟨h7,h⟩|⟨h7,h⟩:=spl h
  obtain⟨x8,h9,h⟩:=zC h
  obtain⟨r10,h11,h⟩:=zC h
  exact fun j=>lH 1 [] [0,1,2,3,4,5,6,7,8,10] [] [12,13,14,37,38,39] (oD (dI x5.cons)<|oD (yF r10.2.2.2)<|oD (zF p1)<|oDM M<|oC 1 [3,5,0,1,6,7,8,2,4,9] (zRf h11)<|oA 0 (nU (o:=.no) h9)<|oB 0 h7 o0) (ih h)
  have k:=oB 0 h7 o0
  obtain⟨h12,h⟩|⟨h12,h⟩:=spl h
  cases h
  exact fun j=>lF 1 [0,1,2] (oD (yF ([]:List zR))<|oDM M<|oB 1 h12 k)
  obtain⟨l13,h14,h⟩:=zC h
  obtain⟨h14a,h14b⟩:=sA h14
  cases h
  obtain rfl:=h14a.symm
  dsimp only
  rw[←h14b]
  exact fun j=>lF 1 [0,1,2,9] (oD (yF wE)<|oDM M<|oB 1 h12 k)
theorem zXC{qq M p1 p2 fl fu r}(h:e29 qq M p1 p2 fl fu=some r):(match (generalizing:=false) r with | .inl x=>zOc M p1 p2 fl fu x Ct | .inr x=>zWk M p1 p2 fl fu x Ct):=by
 unfold e29 at h
 have z {os ob} (k:Oz os ob):=oD (yF ([]:List zR))<|oD (zF p1)<|oDM M<|k
 obtain⟨r1,h2,h⟩:=zC h
 rcases r1 with y3|y7
 dsimp only at h
 have k:=oC 4 [0,1,2] (c60 h2) o0
 obtain⟨h4,h⟩|⟨h4,h⟩:=spl h
 cases h
 exact zOb (tF q29 1 [0,1,2] (oD (yF ([]:List zR))<|oDM M<|oB 5 h4 k))
 obtain⟨x5,h6,h⟩:=zC h
 rcases r with y0|y1
 exact zOb (tH q29 2 [(some 9,0,4101)] [0,1,2,8,9,3,4,5,6,10] [] [12,13,14,37,38,39] (oD (dI x5.cons)<|z<|oA 1 (xL (o:=.no) h6)<|oB 5 h4 k) (zOa _ h))
 exact⟨tH q29 2 [(some 9,0,4101)] [0,1,2,8,9,3,4,5,6,10] [] [12,13,14,37,38,39] (oD (dI x5.cons)<|z<|oA 1 (xL (o:=.no) h6)<|oB 5 h4 k) (zOa _ h),⟨(lz rfl),⟨tv,zF _⟩,tv,(lz rfl),tv⟩,(fMa (lz rfl) (zA ⟨tv,tv,tv⟩ zB)),⟨(lz rfl),tv,tv⟩,(fMf (lz rfl) (zA ⟨tv,tv,tv⟩ (zA (yF _) zB)))⟩
 dsimp only at h
 have k:=oC 4 [0,1,2] (c60 h2) o0
 obtain⟨h8,h⟩:=spT h
 cases h
 exact zOb (tF q29 1 [0,1,2] (oD (yF ([]:List zR))<|oDM M<|oB 5 h8 k))
theorem c29{qq M p1 p2 fl fu r}(h:e29 qq M p1 p2 fl fu=some r):(match (generalizing:=false) r with | .inl x=>CT Tryz.prog 29 [mB M 1,mR M,.cells [ai fl,ai fu]] [.mp 0 0,slv zJ p1 .no,ai p2,.mp 2 0] (.tup [.sl (zK yE x.1) x.1.length .no,ai x.2.1]) [mB M 1,mR M,.cells [ai x.2.2.1,ai x.2.2.2]] 0 | .inr x=>CT Tryz.prog 29 [mB M 1,mR M,.cells [ai fl,ai fu]] [.mp 0 0,slv zJ p1 .no,ai p2,.mp 2 0] (.tup [.sl (zK yE x.1) x.1.length .no,ai x.2.1]) [mB M 1,mR M,.cells [ai x.2.2.1,ai x.2.2.2]] 0):=by
 have k:=zXC h
 rcases r with y0|y1
 ·exact k
 ·exact CT.freeze (H1:=[mB M 1,mR M,.cells [ai y1.2.2.1,ai y1.2.2.2]]) (cs:=zK yE y1.1) (res':=(.tup [.sl (zK yE y1.1) y1.1.length .no,ai y1.2.1])) k (Nat.le_of_ble_eq_true rfl) (fMf (lz rfl) (zA ⟨tv,tv,tv⟩ zB)) (yF _) ⟨(.inl ⟨rfl,rfl⟩),trivial,tv⟩ (by rfl) rfl
def zBR(qq:Nat)(p1:List zD):Option Bool:=
 some false
theorem zRe{qq p1 r}(h:zBR qq p1=some r):Ct 91 [] [.val (.pointer none),slv zJ p1 .no] (ab r) [] 0:=⟨by
 unfold zBR at h
 cases h
 exact tF ⟨Tryz.func91,rfl⟩ 1 [] (o0),⟨tv,⟨tv,zF _⟩,tv⟩,zB,tv,zB⟩
def zBS(qq:Nat)(p1:List zD)(p2 q2 q3:Int):Option ((Int×Int×List Ent×List zD×Int×List Tm×List Tm) ⊕ (Int×Int)):=
 zBR qq p1>>=fun r1=>
 if r1 then
 none
 else
 some (.inr (0,5))
section
variable (p1:List zD) (p2 q2 q3:Int)
abbrev zKH (r:Int×Int×List Ent×List zD×Int×List Tm×List Tm) (C:Cf):Prop:=C 60 [.cells [ai q2,ai q3]] [.val (.pointer none),slv zJ p1 .no,ai p2,.mp 0 0] (.tup [.mp 1 0,ai r.1,ai r.2.1]) [.cells [ai q2,ai q3],.cells [.val (.pointer none),slv yP r.2.2.1 .no,slv zJ r.2.2.2.1 .no,ai r.2.2.2.2.1,.mp 0 0,slv zG r.2.2.2.2.2.1 .no,slv zG r.2.2.2.2.2.2 .no]] 0
abbrev zKI (r:Int×Int) (C:Cf):Prop:=C 60 [.cells [ai q2,ai q3]] [.val (.pointer none),slv zJ p1 .no,ai p2,.mp 0 0] (.tup [.val (.pointer none),ai r.1,ai r.2]) [.cells [ai q2,ai q3]] 0
end
theorem zIg{qq p1 p2 q2 q3 r}(h:zBS qq p1 p2 q2 q3=some r):(match (generalizing:=false) r with | .inl x=>zKH p1 p2 q2 q3 x Ct | .inr x=>zKI p1 p2 q2 q3 x Ct):=by
 unfold zBS at h
 obtain⟨r1,h2,h⟩:=zC h
 obtain⟨h3,h⟩:=zSn h
 cases h
 exact⟨tF ⟨Tryz.func60,rfl⟩ 1 [0] (oK 0 [] h3 (zRe h2) o0),⟨tv,⟨tv,zF _⟩,tv,(lz rfl),tv⟩,(zA ⟨tv,tv,tv⟩ zB),⟨tv,tv,tv,tv⟩,(zA ⟨tv,tv,tv⟩ zB)⟩
def bF(qq:Nat)(p1:List zD)(p2 q2 q3:Int)(x5:Ent)(v39 tM:Int)(K9:List zR):Option ((List zR×Int) ⊕ (List zR×Int)):=
 if decide (v39<(x5.cons.length:Int))then
 none
 else
 if tM != 0 then
 some (.inl ([],tM))
 else
 gfz K9.length K9>>=fun l13=>
 some (.inr (l13,0))
def eE(qq:Nat)(p1:List zD)(p2 q2 q3:Int):Option ((List zR×Int) ⊕ (List zR×Int)):=
 zBS qq p1 p2 q2 q3>>=fun r1=>
 match r1 with
 | .inl y3=>
  if y3.2.1 != 0 then
  some (.inl ([],y3.2.1))
  else
  zS y3.2.2.1 y3.1>>=fun x5=>
  bF qq p1 p2 q2 q3 x5 0 y3.2.1 ([]:List zR)
 | .inr y7=>
  if y7.2 != 0 then
  some (.inl ([],y7.2))
  else
  none
section
variable (p1:List zD) (p2 q2 q3:Int)
abbrev H4 (r:List zR×Int) (C:Cf):Prop:=C 29 [.cells [ai q2,ai q3]] [.val (.pointer none),slv zJ p1 .no,ai p2,.mp 0 0] (.tup [.sl (zK yE r.1) r.1.length .no,ai r.2]) [.cells [ai q2,ai q3]] 0
abbrev zKJ (r:List zR×Int) (C:Cf):Prop:=C 29 [.cells [ai q2,ai q3]] [.val (.pointer none),slv zJ p1 .no,ai p2,.mp 0 0] (.tup [.ms 1 0 r.1.length r.1.length 5,ai r.2]) [.cells [ai q2,ai q3],.row (zK yE r.1)] 0
end
theorem P0:Qf 29 Tryz.f29:=⟨Tryz.func29,rfl⟩
theorem H5{p1 p2 q2 q3 r}(h:H4 p1 p2 q2 q3 r Ci):H4 p1 p2 q2 q3 r Ct:=⟨h,⟨tv,⟨tv,zF _⟩,tv,(lz rfl),tv⟩,(zA ⟨tv,tv,tv⟩ zB),⟨yF _,tv,tv⟩,(zA ⟨tv,tv,tv⟩ zB)⟩
theorem Y8{qq p1 p2 q2 q3 x5 v39 tM K9 r}(h:bF qq p1 p2 q2 q3 x5 v39 tM K9=some r):(∀j,dL 1 (pt 262069 Tryz.f29) (sp j 51 0 [(12,.mp 1 0),(13,.mp 2 0),(14,.clo 61 [] [.mp 1 0,.mp 3 0,.mp 4 0,.mp 5 0,.mp 6 0,.mp 2 0]),(37,slv yB x5.cons .no),(38,ai (x5.cons.length:Int)),(39,ai v39)]) (⟨[(0,.cells [ai q2,ai q3]),(1,.cells [ai tM]),(2,.cells [.ms 7 0 K9.length K9.length 5]),(3,.cells [.val (.pointer none)]),(4,.cells [slv zJ p1 .no]),(5,.cells [ai p2]),(6,.cells [.mp 0 0]),(7,.row (zK yE K9))],8,[],0,[]⟩) (fQ 1 ((match (generalizing:=false) r with | .inl x=>nQ 1 Tryz.f29 (.tup [.sl (zK yE x.1) x.1.length .no,ai x.2]) [.cells [ai q2,ai q3]] 0 | .inr x=>nQ 1 Tryz.f29 (.tup [.ms 1 0 x.1.length x.1.length 5,ai x.2]) [.cells [ai q2,ai q3],.row (zK yE x.1)] 0)) [.blk 0,.seq (pt 4095 Tryz.f29)])):=by
 unfold bF at h
 obtain⟨h7,h⟩:=zSn h
 have k:=oB 0 h7 o0
 obtain⟨h12,h⟩|⟨h12,h⟩:=spl h
 cases h
 exact fun j=>lF 1 [0] (oD (yF ([]:List zR))<|oB 1 h12 k)
 obtain⟨l13,h14,h⟩:=zC h
 obtain⟨h14a,h14b⟩:=sA h14
 cases h
 obtain rfl:=h14a.symm
 dsimp only
 rw[←h14b]
 exact fun j=>lF 1 [0,7] (oD (yF K9)<|oB 1 h12 k)
theorem zOA{qq p1 p2 q2 q3 r}(h:eE qq p1 p2 q2 q3=some r):(match (generalizing:=false) r with | .inl x=>H4 p1 p2 q2 q3 x Ct | .inr x=>zKJ p1 p2 q2 q3 x Ct):=by
 unfold eE at h
 have z {os ob} (k:Oz os ob):=oD (yF ([]:List zR))<|oD (zF p1)<|k
 obtain⟨r1,h2,h⟩:=zC h
 rcases r1 with y3|y7
 dsimp only at h
 have k:=oC 4 [0] (zIg h2) o0
 obtain⟨h4,h⟩|⟨h4,h⟩:=spl h
 cases h
 exact H5 (tF P0 1 [0] (oD (yF ([]:List zR))<|oB 5 h4 k))
 obtain⟨x5,h6,h⟩:=zC h
 rcases r with y0|y1
 exact H5 (tH P0 2 [(some 7,0,4101)] [0,6,7,1,2,3,4,8] [] [12,13,14,37,38,39] (oD (dI x5.cons)<|z<|oA 1 (xL (o:=.no) h6)<|oB 5 h4 k) (Y8 h))
 exact⟨tH P0 2 [(some 7,0,4101)] [0,6,7,1,2,3,4,8] [] [12,13,14,37,38,39] (oD (dI x5.cons)<|z<|oA 1 (xL (o:=.no) h6)<|oB 5 h4 k) (Y8 h),⟨tv,⟨tv,zF _⟩,tv,(lz rfl),tv⟩,(zA ⟨tv,tv,tv⟩ zB),⟨(lz rfl),tv,tv⟩,(zA ⟨tv,tv,tv⟩ (zA (yF _) zB))⟩
 dsimp only at h
 have k:=oC 4 [0] (zIg h2) o0
 obtain⟨h8,h⟩:=spT h
 cases h
 exact H5 (tF P0 1 [0] (oD (yF ([]:List zR))<|oB 5 h8 k))
theorem P1{qq p1 p2 q2 q3 r}(h:eE qq p1 p2 q2 q3=some r):(match (generalizing:=false) r with | .inl x=>CT Tryz.prog 29 [.cells [ai q2,ai q3]] [.val (.pointer none),slv zJ p1 .no,ai p2,.mp 0 0] (.tup [.sl (zK yE x.1) x.1.length .no,ai x.2]) [.cells [ai q2,ai q3]] 0 | .inr x=>CT Tryz.prog 29 [.cells [ai q2,ai q3]] [.val (.pointer none),slv zJ p1 .no,ai p2,.mp 0 0] (.tup [.sl (zK yE x.1) x.1.length .no,ai x.2]) [.cells [ai q2,ai q3]] 0):=by
 have k:=zOA h
 rcases r with y0|y1
 ·exact k
 ·exact CT.freeze (H1:=[.cells [ai q2,ai q3]]) (cs:=zK yE y1.1) (res':=(.tup [.sl (zK yE y1.1) y1.1.length .no,ai y1.2])) k (Nat.le_of_ble_eq_true rfl) (zA ⟨tv,tv,tv⟩ zB) (yF _) ⟨(.inl ⟨rfl,rfl⟩),trivial,tv⟩ (by rfl) rfl
def e26(qq:Nat)  : Option Bool:=
 e13 qq>>=fun r1=>
 e27 qq r1>>=fun r3=>
 match r3 with
 | .inl y54=>
  e28 qq 50>>=fun r55=>
  match r55 with
  | .inl y80=>
   none
  | .inr y57=>
   e33 qq 0>>=fun r58=>
   eE qq [(zD.mk 4 r58)] 4 y57.2.1 y57.2.2>>=fun r60=>
   match r60 with
   | .inl y62=>
    if y62.2==0 then
    if (y62.1.length:Int)==2 then
    zS y62.1 1>>=fun x65=>
    if x65.yes_ then
    if (x65.args_.length:Int)==1 then
    zS x65.args_ 0>>=fun x69=>
    some (x69==5)
    else
    some false
    else
    some false
    else
    some false
    else
    some false
   | .inr y71=>
    if y71.2==0 then
    if (y71.1.length:Int)==2 then
    zS y71.1 1>>=fun x74=>
    if x74.yes_ then
    if (x74.args_.length:Int)==1 then
    zS x74.args_ 0>>=fun x78=>
    some (x78==5)
    else
    some false
    else
    some false
    else
    some false
    else
    some false
 | .inr y5=>
  e28 qq 50>>=fun r6=>
  match r6 with
  | .inl y31=>
   none
  | .inr y8=>
   e33 qq 0>>=fun r9=>
   e29 qq (yY.mk y5.2.1 y5.2.2.2.2.1 y5.2.2.2.2.2 y5.2.2.1 y5.2.2.2.1) [(zD.mk 4 r9)] 4 y8.2.1 y8.2.2>>=fun r11=>
   match r11 with
   | .inl y13=>
    if y13.2.1==0 then
    if (y13.1.length:Int)==2 then
    zS y13.1 1>>=fun x16=>
    if x16.yes_ then
    if (x16.args_.length:Int)==1 then
    zS x16.args_ 0>>=fun x20=>
    some (x20==5)
    else
    some false
    else
    some false
    else
    some false
    else
    some false
   | .inr y22=>
    if y22.2.1==0 then
    if (y22.1.length:Int)==2 then
    zS y22.1 1>>=fun x25=>
    if x25.yes_ then
    if (x25.args_.length:Int)==1 then
    zS x25.args_ 0>>=fun x29=>
    some (x29==5)
    else
    some false
    else
    some false
    else
    some false
    else
    some false
theorem q26:Qf 26 Tryz.f26:=⟨Tryz.func26,rfl⟩
theorem c26{qq r}(h:e26 qq  = some r):Ct 26 [] [] (ab r) [] 0:=⟨by
 unfold e26 at h
 obtain⟨r1,h2,h⟩:=zC h
 obtain⟨r3,h4,h⟩:=zC h
 have k:=oC 0 [] (c13 h2) o0
 rcases r3 with y54|y5
 dsimp only at h
 obtain⟨r55,h56,h⟩:=zC h
 have k:=oC 0 [] (c27 h4) k
 rcases r55 with y80|y57
 cases h
 dsimp only at h
 obtain⟨r58,h59,h⟩:=zC h
 obtain⟨r60,h61,h⟩:=zC h
 have k:=oC 2 [] (c33 h59)<|oC 2 [] (c28 h56) k
 rcases r60 with y62|y71
 dsimp only at h
 have k:=oC 1 [0] (P1 h61) k
 obtain⟨h63,h⟩|⟨h63,h⟩:=spl h
 have k:=oB 2 h63 k
 obtain⟨h64,h⟩|⟨h64,h⟩:=spl h
 obtain⟨x65,h66,h⟩:=zC h
 have k:=oA 0 (nA (o:=.no) h66)<|oB 1 h64 k
 obtain⟨h67,h⟩|⟨h67,h⟩:=spl h
 have k:=oA 0 (nA (o:=.no) h66)<|oB 0 h67 k
 obtain⟨h68,h⟩|⟨h68,h⟩:=spl h
 obtain⟨x69,h70,h⟩:=zC h
 cases h
 exact tF q26 2 [] (oA 1 (nU (o:=.no) h70)<|oA 0 (nA (o:=.no) h66)<|oB 2 h68 k)
 cases h
 exact tF q26 0 [] (oB 2 h68 k)
 cases h
 exact tF q26 0 [] (oB 0 h67 k)
 cases h
 exact tF q26 0 [] (oB 1 h64 k)
 cases h
 exact tF q26 0 [] (oB 2 h63 k)
 dsimp only at h
 have k:=oC 1 [0] (P1 h61) k
 obtain⟨h72,h⟩|⟨h72,h⟩:=spl h
 have k:=oB 2 h72 k
 obtain⟨h73,h⟩|⟨h73,h⟩:=spl h
 obtain⟨x74,h75,h⟩:=zC h
 have k:=oA 0 (nA (o:=.no) h75)<|oB 1 h73 k
 obtain⟨h76,h⟩|⟨h76,h⟩:=spl h
 have k:=oA 0 (nA (o:=.no) h75)<|oB 0 h76 k
 obtain⟨h77,h⟩|⟨h77,h⟩:=spl h
 obtain⟨x78,h79,h⟩:=zC h
 cases h
 exact tF q26 2 [] (oA 1 (nU (o:=.no) h79)<|oA 0 (nA (o:=.no) h75)<|oB 2 h77 k)
 cases h
 exact tF q26 0 [] (oB 2 h77 k)
 cases h
 exact tF q26 0 [] (oB 0 h76 k)
 cases h
 exact tF q26 0 [] (oB 1 h73 k)
 cases h
 exact tF q26 0 [] (oB 2 h72 k)
 dsimp only at h
 obtain⟨r6,h7,h⟩:=zC h
 have k:=oC 0 [] (c27 h4) k
 rcases r6 with y31|y8
 cases h
 dsimp only at h
 obtain⟨r9,h10,h⟩:=zC h
 obtain⟨r11,h12,h⟩:=zC h
 have k:=oC 2 [] (c33 h10)<|oC 2 [] (c28 h7) k
 rcases r11 with y13|y22
 dsimp only at h
 have k:=oC 1 [0,1,2] (c29 h12) k
 obtain⟨h14,h⟩|⟨h14,h⟩:=spl h
 have k:=oB 2 h14 k
 obtain⟨h15,h⟩|⟨h15,h⟩:=spl h
 obtain⟨x16,h17,h⟩:=zC h
 have k:=oA 0 (nA (o:=.no) h17)<|oB 1 h15 k
 obtain⟨h18,h⟩|⟨h18,h⟩:=spl h
 have k:=oA 0 (nA (o:=.no) h17)<|oB 0 h18 k
 obtain⟨h19,h⟩|⟨h19,h⟩:=spl h
 obtain⟨x20,h21,h⟩:=zC h
 cases h
 exact tF q26 2 [] (oA 1 (nU (o:=.no) h21)<|oA 0 (nA (o:=.no) h17)<|oB 2 h19 k)
 cases h
 exact tF q26 0 [] (oB 2 h19 k)
 cases h
 exact tF q26 0 [] (oB 0 h18 k)
 cases h
 exact tF q26 0 [] (oB 1 h15 k)
 cases h
 exact tF q26 0 [] (oB 2 h14 k)
 dsimp only at h
 have k:=oC 1 [0,1,2] (c29 h12) k
 obtain⟨h23,h⟩|⟨h23,h⟩:=spl h
 have k:=oB 2 h23 k
 obtain⟨h24,h⟩|⟨h24,h⟩:=spl h
 obtain⟨x25,h26,h⟩:=zC h
 have k:=oA 0 (nA (o:=.no) h26)<|oB 1 h24 k
 obtain⟨h27,h⟩|⟨h27,h⟩:=spl h
 have k:=oA 0 (nA (o:=.no) h26)<|oB 0 h27 k
 obtain⟨h28,h⟩|⟨h28,h⟩:=spl h
 obtain⟨x29,h30,h⟩:=zC h
 cases h
 exact tF q26 2 [] (oA 1 (nU (o:=.no) h30)<|oA 0 (nA (o:=.no) h26)<|oB 2 h28 k)
 cases h
 exact tF q26 0 [] (oB 2 h28 k)
 cases h
 exact tF q26 0 [] (oB 0 h27 k)
 cases h
 exact tF q26 0 [] (oB 1 h24 k)
 cases h
 exact tF q26 0 [] (oB 2 h23 k),tv,zB,tv,zB⟩
def bG:Nat->List zD->List xD->Int->Option (List xD)
 |0,_,_,_=>none
 |qq+1,p0,v3,v4=>
 if decide (v4<(p0.length:Int))then
 zS p0 v4>>=fun x2=>
 yN 48 v3 [(xD.mk x2.n_ x2.type_)]>>=fun l4=>
 bG qq p0 l4 (w64 (v4+1))
 else
 some v3
def e30(qq:Nat)(p0:List zD):Option (List xD):=
 bG qq p0 [] 0
theorem zTY:∀qq:Nat,(∀ {p0 v3 v4 r},bG qq p0 v3 v4=some r->(∀j,dL 0 (pt 4021 Tryz.f30) (sp j 27 0 [(0,slv zJ p0 .no),(3,slv wT v3 (.st 0 4)),(4,ai v4)]) (⟨[],0,[0],1,[]⟩) (fQ 0 (nQ 0 Tryz.f30 (.sl (zK wT r) r.length .no) [] 0) [.blk 0,.seq (pt 63 Tryz.f30)]))):=by
 intro qq
 induction qq with
 |zero=>
  exact fun h=>nn h
 |succ qq ih=>
  intro p0 v3 v4 r h
  rw[bG]at h
  obtain⟨h1,h⟩|⟨h1,h⟩:=spl h
  obtain⟨x2,h3,h⟩:=zC h
  obtain⟨l4,h5,h⟩:=zC h
  exact fun j=>lH 1 [] [] [1] [0,3,4] (oD (wN l4)<|oD (zF p0)<|oP 2 (zUb h5 (by simp))<|oA 1 (E1 (o:=.no) h3)<|oA 0 (E1 (o:=.no) h3)<|oB 1 h1 o0) (ih h)
  obtain rfl:=sj h
  exact fun j=>lF 0 [] (oD (wN v3)<|oB 1 h1 o0)
theorem c30{qq p0 r}(h:e30 qq p0=some r):Ct 30 [] [slv zJ p0 .no] (.sl (zK wT r) r.length .no) [] 0:=⟨by
 unfold e30 at h
 exact tH ⟨Tryz.func30,rfl⟩ 1 [(none,3,4)] [] [0] [0,3,4] (oD (wN ([]:List xD))<|oD (zF p0) o0) (zTY _ h),⟨⟨tv,zF _⟩,tv⟩,zB,wN _,zB⟩
mutual
def iI:Nat->Int->List zR->Int->Option Bool
 |0,_,_,_=>none
 |qq+1,p2,v11,v13=>
 if decide (v13<(v11.length:Int))then
 zS v11 v13>>=fun x18=>
 e30 qq x18.vars_>>=fun r20=>
 e12 qq r20>>=fun r22=>
 if r22 then
 if x18.yes_ then
 if (x18.solved_.length:Int)==0 then
 some false
 else
 zS x18.solved_ 0>>=fun x27=>
 if x27.n_ != p2 then
 some false
 else
 dD qq p2 v11 v13 r20 0
 else
 if decide ((w64 ((w64 ((r20.length:Int)+(x18.args_.length:Int)))+(x18.solved_.length:Int)))>0)then
 some false
 else
 dD qq p2 v11 v13 r20 0
 else
 some false
 else
 e26 qq>>=fun r31=>
 some r31
def dD:Nat->Int->List zR->Int->List xD->Int->Option Bool
 |0,_,_,_,_,_=>none
 |qq+1,p2,v11,v13,r20,v15=>
 zS v11 v13>>=fun x30=>
 if decide (v15<(x30.solved_.length:Int))then
 zS x30.solved_ v15>>=fun x33=>
 Y9 qq p2 v11 v13 r20 v15 x33 0
 else
 iI qq p2 v11 (w64 (v13+1))
def Y9:Nat->Int->List zR->Int->List xD->Int->zI->Int->Option Bool
 |0,_,_,_,_,_,_,_=>none
 |qq+1,p2,v11,v13,r20,v15,x33,v17=>
 if decide (v17<(r20.length:Int))then
 zS r20 v17>>=fun x36=>
 if x36.n_==x33.n_ then
 some false
 else
 e11 qq x36.type_ x33.n_>>=fun r39=>
 if r39 then
 some false
 else
 Y9 qq p2 v11 v13 r20 v15 x33 (w64 (v17+1))
 else
 zS v11 v13>>=fun x42=>
 zS x42.solved_ 0>>=fun x44=>
 e11 qq x44.t_ x33.n_>>=fun r46=>
 if r46 then
 some false
 else
 dD qq p2 v11 v13 r20 (w64 (v15+1))
end
def e6(qq:Nat)(p0:List Ent)(p1:List zD)(p2:Int):Option Bool:=
 e25 qq p0 p1>>=fun r1=>
 if r1 then
 e27 qq p0>>=fun r4=>
 match r4 with
 | .inl y35=>
  e28 qq 400>>=fun r36=>
  match r36 with
  | .inl y51=>
   none
  | .inr y38=>
   eE qq p1 p2 y38.2.1 y38.2.2>>=fun r39=>
   match r39 with
   | .inl y41=>
    if y41.2 != 0 then
    if (y41.1.length:Int)==0 then
    e26 qq>>=fun r44=>
    some r44
    else
    some false
    else
    iI qq p2 y41.1 0
   | .inr y46=>
    if y46.2 != 0 then
    if (y46.1.length:Int)==0 then
    e26 qq>>=fun r49=>
    some r49
    else
    some false
    else
    iI qq p2 y46.1 0
 | .inr y6=>
  e28 qq 400>>=fun r7=>
  match r7 with
  | .inl y22=>
   none
  | .inr y9=>
   e29 qq (yY.mk y6.2.1 y6.2.2.2.2.1 y6.2.2.2.2.2 y6.2.2.1 y6.2.2.2.1) p1 p2 y9.2.1 y9.2.2>>=fun r10=>
   match r10 with
   | .inl y12=>
    if y12.2.1 != 0 then
    if (y12.1.length:Int)==0 then
    e26 qq>>=fun r15=>
    some r15
    else
    some false
    else
    iI qq p2 y12.1 0
   | .inr y17=>
    if y17.2.1 != 0 then
    if (y17.1.length:Int)==0 then
    e26 qq>>=fun r20=>
    some r20
    else
    some false
    else
    iI qq p2 y17.1 0
 else
 e26 qq>>=fun r64=>
 some r64
theorem q6:Qf 6 Tryz.f6:=⟨Tryz.func6,rfl⟩
theorem rE:∀qq:Nat,(∀ {p2 v11 v13 r},iI qq p2 v11 v13=some r->(∀j,dL 0 (pt 1048501 Tryz.f6) (sp j 170 0 [(2,ai p2),(11,slv yE v11 .no),(13,ai v13)]) (⟨[],0,[],0,[]⟩) (fQ 0 (nQ 0 Tryz.f6 (ab r) [] 0) [.blk 0,.seq (pt 16383 Tryz.f6)])))∧(∀ {p2 v11 v13 r20 v15 r},dD qq p2 v11 v13 r20 v15=some r->(∀j,dL 0 (pt 68714620917 Tryz.f6) (sp j 170 0 [(2,ai p2),(11,slv yE v11 .no),(13,ai v13),(14,slv wT r20 .no),(15,ai v15)]) (⟨[],0,[],0,[]⟩) (fQ 0 (nQ 0 Tryz.f6 (ab r) [] 0) [.blk 2,.blk 1,.seq (pt 16776031 Tryz.f6),.loop (pt 1048501 Tryz.f6),.blk 0,.seq (pt 16383 Tryz.f6)])))∧(∀ {p2 v11 v13 r20 v15 x33 v17 r},Y9 qq p2 v11 v13 r20 v15 x33 v17=some r->(∀j,dL 0 (pt 4503281396475829 Tryz.f6) (sp j 170 0 [(2,ai p2),(11,slv yE v11 .no),(13,ai v13),(14,slv wT r20 .no),(15,ai v15),(16,ai x33.n_),(17,ai v17)]) (⟨[],0,[],0,[]⟩) (fQ 0 (nQ 0 Tryz.f6 (ab r) [] 0) [.blk 4,.seq (pt 70363771819935 Tryz.f6),.blk 3,.seq (pt 1099433934687 Tryz.f6),.loop (pt 68714620917 Tryz.f6),.blk 2,.blk 1,.seq (pt 16776031 Tryz.f6),.loop (pt 1048501 Tryz.f6),.blk 0,.seq (pt 16383 Tryz.f6)]))):=by
 intro qq
 induction qq with
 |zero=>
  exact⟨fun h=>nn h,fun h=>nn h,fun h=>nn h⟩
 |succ qq ih=>
  obtain⟨zTZ,zGF,zOB⟩:=ih
  refine⟨?_,?_,?_⟩
  intro p2 v11 v13 r h
  rw[iI]at h
  obtain⟨h17,h⟩|⟨h17,h⟩:=spl h
  obtain⟨x18,h19,h⟩:=zC h
  obtain⟨r20,h21,h⟩:=zC h
  obtain⟨r22,h23,h⟩:=zC h
  have k:=oC 1 [] (c30 h21)<|oA 0 (nA (o:=.no) h19)<|oB 1 h17 o0
  obtain⟨h24,h⟩|⟨h24,h⟩:=spl h
  have k:=oA 1 (nA (o:=.no) h19)<|oK 0 [] h24 (c12 h23) k
  obtain⟨h25,h⟩|⟨h25,h⟩:=spl h
  have k:=oA 0 (nA (o:=.no) h19)<|oB 0 h25<|oA 1 (nA (o:=.no) h19)<|oB 0 h25 k
  obtain⟨h26,h⟩|⟨h26,h⟩:=spl h
  obtain rfl:=sj h
  exact fun j=>lF 0 [] (oB 2 h26 k)
  obtain⟨x27,h28,h⟩:=zC h
  have k:=oA 1 (zPw (o:=.no) h28)<|oA 0 (nA (o:=.no) h19)<|oB 2 h26 k
  obtain⟨h29,h⟩|⟨h29,h⟩:=spl h
  obtain rfl:=sj h
  exact fun j=>lF 0 [] (oB 1 h29 k)
  exact fun j=>lH 0 [] [] [] [2,11,13,14,15] (oD (wN r20)<|oD (yF v11)<|oB 1 h29 k) (zGF h)
  have k:=oA 3 (nA (o:=.no) h19)<|oA 2 (nA (o:=.no) h19)<|oB 0 h25 k
  obtain⟨h30,h⟩|⟨h30,h⟩:=spl h
  obtain rfl:=sj h
  exact fun j=>lF 0 [] (oB 3 h30 k)
  exact fun j=>lH 0 [] [] [] [2,11,13,14,15] (oD (wN r20)<|oD (yF v11)<|oB 0 h25<|oA 0 (nA (o:=.no) h19)<|oB 3 h30 k) (zGF h)
  obtain rfl:=sj h
  exact fun j=>lF 1 [] (oK 0 [] h24 (c12 h23) k)
  obtain⟨r31,h32,h⟩:=zC h
  obtain rfl:=sj h
  exact fun j=>lF 0 [] (oC 0 [] (c26 h32)<|oB 1 h17 o0)
  intro p2 v11 v13 r20 v15 r h
  rw[dD]at h
  obtain⟨x30,h31,h⟩:=zC h
  have k:=oA 0 (nA (o:=.no) h31) o0
  obtain⟨h32,h⟩|⟨h32,h⟩:=spl h
  obtain⟨x33,h34,h⟩:=zC h
  exact fun j=>lH 1 [] [] [] [2,11,13,14,15,16,17] (oD (wN r20)<|oD (yF v11)<|oA 1 (zPw (o:=.no) h34)<|oA 0 (nA (o:=.no) h31)<|oB 2 h32 k) (zOB h)
  exact fun j=>lH 1 [] [] [] [2,11,13] (oD (yF v11)<|oB 2 h32 k) (zTZ h)
  intro p2 v11 v13 r20 v15 x33 v17 r h
  rw[Y9]at h
  obtain⟨h35,h⟩|⟨h35,h⟩:=spl h
  obtain⟨x36,h37,h⟩:=zC h
  have k:=oA 0 (zAR (o:=.no) h37)<|oB 1 h35 o0
  obtain⟨h38,h⟩|⟨h38,h⟩:=spl h
  obtain rfl:=sj h
  exact fun j=>lF 0 [] (oB 1 h38 k)
  obtain⟨r39,h40,h⟩:=zC h
  have k:=oA 0 (zAR (o:=.no) h37)<|oB 1 h38 k
  obtain⟨h41,h⟩|⟨h41,h⟩:=spl h
  obtain rfl:=sj h
  exact fun j=>lF 0 [] (oK 1 [] h41 (c11 h40) k)
  exact fun j=>lH 1 [] [] [] [2,11,13,14,15,16,17] (oD (wN r20)<|oD (yF v11)<|oK 1 [] h41 (c11 h40) k) (zOB h)
  obtain⟨x42,h43,h⟩:=zC h
  obtain⟨x44,h45,h⟩:=zC h
  obtain⟨r46,h47,h⟩:=zC h
  have k:=oA 1 (zPw (o:=.no) h45)<|oA 0 (nA (o:=.no) h43)<|oB 1 h35 o0
  obtain⟨h48,h⟩|⟨h48,h⟩:=spl h
  obtain rfl:=sj h
  exact fun j=>lF 0 [] (oK 1 [] h48 (c11 h47) k)
  exact fun j=>lH 1 [] [] [] [2,11,13,14,15] (oD (wN r20)<|oD (yF v11)<|oK 1 [] h48 (c11 h47) k) (zGF h)
theorem c6{qq p0 p1 p2 r}(h:e6 qq p0 p1 p2=some r):Ct 6 [] [slv yP p0 .no,slv zJ p1 .no,ai p2] (ab r) [] 0:=⟨by
 unfold e6 at h
 obtain⟨r1,h2,h⟩:=zC h
 obtain⟨h3,h⟩|⟨h3,h⟩:=spl h
 obtain⟨r4,h5,h⟩:=zC h
 have k:=oK 0 [] h3 (c25 h2) o0
 rcases r4 with y35|y6
 dsimp only at h
 obtain⟨r36,h37,h⟩:=zC h
 have k:=oC 1 [] (c27 h5) k
 rcases r36 with y51|y38
 cases h
 dsimp only at h
 obtain⟨r39,h40,h⟩:=zC h
 have k:=oC 2 [] (c28 h37) k
 rcases r39 with y41|y46
 dsimp only at h
 have k:=oC 2 [0] (P1 h40) k
 obtain⟨h42,h⟩|⟨h42,h⟩:=spl h
 have k:=oB 2 h42 k
 obtain⟨h43,h⟩|⟨h43,h⟩:=spl h
 obtain⟨r44,h45,h⟩:=zC h
 obtain rfl:=sj h
 exact tF q6 0 [] (oC 0 [] (c26 h45)<|oB 1 h43 k)
 obtain rfl:=sj h
 exact tF q6 0 [] (oB 1 h43 k)
 exact tH q6 0 [] [] [] [2,11,13] (oD (yF y41.1)<|oB 2 h42 k) ((rE _).1 h)
 dsimp only at h
 have k:=oC 2 [0] (P1 h40) k
 obtain⟨h47,h⟩|⟨h47,h⟩:=spl h
 have k:=oB 2 h47 k
 obtain⟨h48,h⟩|⟨h48,h⟩:=spl h
 obtain⟨r49,h50,h⟩:=zC h
 obtain rfl:=sj h
 exact tF q6 0 [] (oC 0 [] (c26 h50)<|oB 1 h48 k)
 obtain rfl:=sj h
 exact tF q6 0 [] (oB 1 h48 k)
 exact tH q6 0 [] [] [] [2,11,13] (oD (yF y46.1)<|oB 2 h47 k) ((rE _).1 h)
 dsimp only at h
 obtain⟨r7,h8,h⟩:=zC h
 have k:=oC 1 [] (c27 h5) k
 rcases r7 with y22|y9
 cases h
 dsimp only at h
 obtain⟨r10,h11,h⟩:=zC h
 have k:=oC 2 [] (c28 h8) k
 rcases r10 with y12|y17
 dsimp only at h
 have k:=oC 2 [0,1,2] (c29 h11) k
 obtain⟨h13,h⟩|⟨h13,h⟩:=spl h
 have k:=oB 2 h13 k
 obtain⟨h14,h⟩|⟨h14,h⟩:=spl h
 obtain⟨r15,h16,h⟩:=zC h
 obtain rfl:=sj h
 exact tF q6 0 [] (oC 0 [] (c26 h16)<|oB 1 h14 k)
 obtain rfl:=sj h
 exact tF q6 0 [] (oB 1 h14 k)
 exact tH q6 0 [] [] [] [2,11,13] (oD (yF y12.1)<|oB 2 h13 k) ((rE _).1 h)
 dsimp only at h
 have k:=oC 2 [0,1,2] (c29 h11) k
 obtain⟨h18,h⟩|⟨h18,h⟩:=spl h
 have k:=oB 2 h18 k
 obtain⟨h19,h⟩|⟨h19,h⟩:=spl h
 obtain⟨r20,h21,h⟩:=zC h
 obtain rfl:=sj h
 exact tF q6 0 [] (oC 0 [] (c26 h21)<|oB 1 h19 k)
 obtain rfl:=sj h
 exact tF q6 0 [] (oB 1 h19 k)
 exact tH q6 0 [] [] [] [2,11,13] (oD (yF y17.1)<|oB 2 h18 k) ((rE _).1 h)
 obtain⟨r64,h65,h⟩:=zC h
 obtain rfl:=sj h
 exact tF q6 0 [] (oC 1 [] (c26 h65)<|oK 0 [] h3 (c25 h2) o0),⟨⟨tv,dE _⟩,⟨tv,zF _⟩,tv,tv⟩,zB,tv,zB⟩
theorem zRd(q:Nat):e26 (q+600)=some true:=by kernel_rfl
theorem zGG:Evt (fun q=>e26 q) true:=⟨600,fun q hq=>by
 obtain⟨k,rfl⟩:∃k,q=k+600:=⟨q-600,by omega⟩
 exact zRd k⟩
theorem zRc:Evt (fun q=>e26 q>>=fun r=>some r) true:=zGG.bind Evt.ret
theorem zEI(l:List Ent)(hl:l.length≤60)(he:∀e∈l,EOk e)(hc:∀e∈l,ECl e):Evt (fun q=>e27 q l) (zJS l false)∨∃N,wS N l∧Evt (fun q=>e27 q l) (zJS l true)∧Evt (fun q=>e87 q l) true:=by
 obtain⟨N,hN⟩:=zML
 obtain⟨b,hb,hA,hn⟩:=zQv N hN l (by omega) he hc
 cases b with
 |false=>exact .inl hn
 |true=>exact .inr ⟨N,hA rfl,hn,hb⟩
abbrev StT:=(Int×Int×Int×Int×List Ent×List zD×Int×List Tm×List Tm) ⊕ (Int×Int×Int×Int)
def StR(l:List Ent)(c:List zD)(n T:Int)(x:StT):Prop:=
 (∃d a b,x = .inr (d,5,a,b))∨∃d e fl fu p i,x = .inl (d,e,fl,fu,l,c,n,p,i)∧gP c∧(∀w∈c,vM l w.type_)∧zTQ l c n T (d,p,i,e,fl,fu)
section
variable {N:ByteArray->Bool} {l:List Ent} (hE:wS N l) (he:∀e∈l,EOk e) (hl:l.length≤65535) (hcl:∀e∈l,ECl e)
theorem Z0(c:List zD)(hl:c.length≤1048576)(ho:∀v∈c,v.type_.Ok):∀(r:List zD) (v:Nat),c.drop v=r->(∀w∈c.take v,vM l w.type_)->Tot (fun q=>bD q (xH l) c (v:Int)) fun b=>b=true->∀w∈c,vM l w.type_
 | [],v,hd,hm=>by
  refine Tot.succ ?_
  simp only[bD]
  refine Tot.ite (fun h=>?_) fun _=>Tot.ret fun _ w hw=>hm w ?_
  ·rw[zZ hd]at h;cases h
  ·rwa[List.take_of_length_le (List.drop_eq_nil_iff.1 hd)]
 |x::r,v,hd,hm=>by
  have hlt:=yC hd
  have hx:=ho x (List.mem_of_mem_drop (by rw[hd];simp))
  have hLen:Evt (fun q=>zBJ q (xH l)) (l.length:Int):=Evt.mk fun _=>rfl
  refine Tot.succ ?_
  simp only[bD]
  refine Tot.ite (fun _=>Tot.pure (zX hd) (Tot.bind (P:=fun k=>k=(l.length:Int)) (hLen.tot rfl) fun k hk=>Tot.bind (P:=fun b=>b=sU x.type_ 0 l.length) ((lJ x.type_ 0 k hx).tot (by rw[hk])) fun b hb=>Tot.ite (fun h=>?_) fun _=>Tot.ret fun h=>by cases h)) fun h=>?_
  ·rw[zW v (by omega)]
   refine Z0 c hl ho r (v+1) (zU hd) fun w hw=>?_
   rw[tS hd]at hw
   rcases List.mem_append.1 hw with hw|hw
   ·exact hm w hw
   ·rw[List.mem_singleton.1 hw];rw[hb]at h;exact h
  ·rw[zY hd]at h;cases h
include hE he hl hcl
theorem Z1(c:List zD)(n:Int)(hcn:c.length≤1048576)(ho:∀v∈c,v.type_.Ok){L U T:Int}(h0:0≤L)(h1:0≤U)(h2:L+U=T)(hT:T≤100000):Tot (fun q=>e60 q (xH l) c n L U) (StR l c n T):=by
 have hEnt:Evt (fun q=>e92 q (xH l)) l:=by
  simp only[e92]
  exact((aT l hl he hcl).eq (fY hE)).bind Evt.ret
 simp only[e60]
 have hR:Tot (fun q=>e91 q (xH l) c) fun b=>b=true->gP c∧∀w∈c,vM l w.type_:=by
  simp only[e91]
  exact(mV (by omega) ho).bind fun b hb=>Tot.ite (fun h=>(Z0 c hcn ho _ 0 rfl fun w h=>by cases h).mono fun b2 h2 h3=>⟨hb h,h2 h3⟩) fun _=>Tot.ret fun h=>by cases h
 refine hR.bind fun b hb=>Tot.ite (fun h=>?_) fun _=>Tot.ret (.inl ⟨_,_,_,rfl⟩)
 obtain⟨hc,hm⟩:=hb h
 refine Tot.bind (P:=fun r=>r=l) (hEnt.tot rfl) fun r4 q4=>?_
 subst q4
 exact(zGA hE he c n hc hm h0 h1 h2 hT).bind fun r6 q6=>Tot.ret (.inr ⟨_,_,_,_,_,_,rfl,hc,hm,q6⟩)
theorem zRb(hfm:Evt (fun q=>e87 q l) true)(c:List zD)(n con:Int)(hcn:c.length≤1048576)(ho:∀v∈c,v.type_.Ok){L U T:Int}(h0:0≤L)(h1:0≤U)(h2:L+U=T)(hT:T≤100000):Tot (fun q=>e62 q (xH l) c n con L U) (zRk n T):=by
 simp only[e62]
 have no:∀(e a b:Int),e≠0->Tot (fun _:Nat=>some (zR.mk 0 false [] [] [],e,a,b)) (zRk n T):=fun e a b h=>Tot.ret fun h2=>absurd h2 h
 refine(Z1 hE he hl hcl c n hcn ho h0 h1 h2 hT).bind fun r1 q1=>?_
 rcases q1 with⟨d,a,b,rfl⟩|⟨d,e,fl,fu,p,i,rfl,hc,hm,hf⟩
 ·exact Tot.ite (fun _=>no 5 _ _ (by decide)) fun h=>by cases h
 ·refine Tot.ite (fun h=>no _ _ _ (by simpa using h)) fun h=>?_
  have e0:e=0:=by simpa using h
  obtain⟨hn,d0,d1,d16,p8,i8,hp,hi,hF⟩:=hf e0
  have hcons:(ent l d).cons.length≤17592186044416:=(hcl _ (pC d0 d1)).1
  refine Tot.pure (yL d0 d1) ((B5 (ent l d).cons con hcons).bind fun b hb=>Tot.ite (fun hbt=>?_) fun _=>no 16 _ _ (by decide))
  exact(zGB hE he hl hcl hfm c n p i con hc hm hn p8 i8 hp hi hF.1 hF.2.1 hF.2.2 hT).bind fun r10 q10=>Tot.ret q10
def zWj(n:Int)(x:(List zR×Int×Int×Int) ⊕ (List zR×Int×Int×Int)):Prop:=
 (∃e a b,e≠0∧x = .inl ([],e,a,b))∨∃bs a b,bs.length≤1048576∧(∀y∈bs,zED n y)∧x = .inr (bs,0,a,b)
theorem zEJ(hfm:Evt (fun q=>e87 q l) true)(c:List zD)(n:Int)(hcn:c.length≤1048576)(ho:∀v∈c,v.type_.Ok){T:Int}(hT:T≤100000)(x5:Ent)(hx:x5.cons.length≤65535):∀(r:List Int) (v:Nat) (L U e:Int) (bs:List zR),x5.cons.drop v=r->bs.length≤v->v≤x5.cons.length->(e=0->Fu T L U∧∀y∈bs,zED n y) ->
  Tot (fun q=>bE q (xH l) c n x5 (v:Int) L U e bs) (zWj n)
 | [],v,L,U,e,bs,hd,hb,hvl,hi=>by
  refine Tot.succ ?_
  simp only[bE]
  refine Tot.ite (fun h=>?_) fun _=>Tot.ite (fun h=>Tot.ret (.inl ⟨e,L,U,by simpa using h,rfl⟩)) fun h=>?_
  ·rw[zZ hd]at h;cases h
  ·have e0:e=0:=by simpa using h
   exact Tot.pure (a:=bs) (by unfold gfz;rw[if_pos rfl]) (Tot.ret (.inr ⟨bs,L,U,by omega,(hi e0).2,rfl⟩))
 |con::r,v,L,U,e,bs,hd,hb,hvl,hi=>by
  have hlt:=yC hd
  refine Tot.succ ?_
  simp only[bE]
  refine Tot.ite (fun _=>Tot.pure (zX hd) ?_) fun h=>?_
  ·have step:Tot (fun q=>C7 q con e l l (evA l l.length 0) (l.map xS) (l.map sD) c n L U bs) fun y=>y.2.2.2.length≤v+1∧(y.1=0->Fu T y.2.1 y.2.2.1∧∀z∈y.2.2.2,zED n z):=by
    simp only[C7]
    refine Tot.ite (fun h=>?_) fun h=>Tot.ret ⟨by show bs.length≤_;omega,fun h0=>?_⟩
    ·obtain⟨hF,hg⟩:=hi (by simpa using h)
     refine(zRb hE he hl hcl hfm c n con hcn ho hF.1 hF.2.1 hF.2.2 hT).bind fun r2 q2=>Tot.pure (yG (by simp;omega)) (Tot.ret ⟨by simp;omega,fun h0=>?_⟩)
     obtain⟨g1,g2⟩:=q2 h0
     refine⟨g2,fun z hz=>?_⟩
     rcases List.mem_append.1 hz with hz|hz
     ·exact hg z hz
     ·rw[List.mem_singleton.1 hz];exact g1
    ·have h0':e=0:=h0
     rw[h0']at h;cases h
   refine step.bind fun y hy=>?_
   rw[zW v (by omega)]
   exact zEJ hfm c n hcn ho hT x5 hx r (v+1) _ _ _ _ (zU hd) hy.1 hlt hy.2
  ·rw[zY hd]at h;cases h
theorem zGH(hfm:Evt (fun q=>e87 q l) true)(c:List zD)(n:Int)(hcn:c.length≤1048576)(ho:∀v∈c,v.type_.Ok){L U T:Int}(h0:0≤L)(h1:0≤U)(h2:L+U=T)(hT:T≤100000):Tot (fun q=>e29 q (xH l) c n L U) (zWj n):=by
 simp only[e29]
 refine(Z1 hE he hl hcl c n hcn ho h0 h1 h2 hT).bind fun r1 q1=>?_
 rcases q1 with⟨d,a,b,rfl⟩|⟨d,e,fl,fu,p,i,rfl,hc,hm,hf⟩
 ·exact Tot.ite (fun _=>Tot.ret (.inl ⟨5,_,_,by decide,rfl⟩)) fun h=>by cases h
 ·refine Tot.ite (fun h=>Tot.ret (.inl ⟨e,_,_,by simpa using h,rfl⟩)) fun h=>?_
  have e0:e=0:=by simpa using h
  obtain⟨hn,d0,d1,d16,p8,i8,hp,hi,hF⟩:=hf e0
  exact Tot.pure (yL d0 d1) (zEJ hE he hl hcl hfm c n hcn ho hT (ent l d) (Nat.le_trans d16 (by decide)) _ 0 fl fu e [] rfl (Nat.le_refl _) (Nat.zero_le _) fun _=>⟨hF,fun y h=>nomatch h⟩)
end
theorem C8(c:List zD)(hl:c.length≤1048576):∀(r:List zD) (v:Nat),c.drop v=r->Tot (fun q=>bC q c (v:Int)) fun _=>True
 | [],v,hd=>by
  refine Tot.succ ?_
  simp only[bC]
  refine Tot.ite (fun h=>?_) fun _=>Tot.ret trivial
  rw[zZ hd]at h;cases h
 |x::r,v,hd=>by
  have hlt:=yC hd
  refine Tot.succ ?_
  simp only[bC]
  refine Tot.ite (fun _=>Tot.pure (zX hd) (Tot.bind (P:=fun _=>True) ((zDX x.type_).tot trivial) fun s _=>Tot.ite (fun _=>Tot.ret trivial) fun _=>?_)) fun h=>?_
  ·rw[zW v (by omega)]
   exact C8 c hl r (v+1) (zU hd)
  ·rw[zY hd]at h;cases h
theorem zEK(l:List Ent)(c:List zD):Tot (fun q=>e25 q l c) fun b=>b=true->l.length≤60∧c.length≤12:=by
 simp only[e25]
 refine Tot.ite (fun _=>Tot.ret fun h=>by cases h) fun h1=>Tot.ite (fun _=>Tot.ret fun h=>by cases h) fun h2=>?_
 have h1:=of_decide_eq_false h1
 have h2:=of_decide_eq_false h2
 exact(C8 c (by omega) _ 0 rfl).mono fun b _ _=>⟨by omega,by omega⟩
theorem zAk(c:List zD)(hl:c.length≤1048576):∀(r:List zD) (v:Nat) (acc:List xD),c.drop v=r->v≤c.length->acc=(c.take v).map (fun v=>xD.mk v.n_ v.type_)->Evt (fun q=>bG q c acc (v:Int)) (ofV c)
 | [],v,acc,hd,hv,ha=>by
  refine Evt.succ ?_
  simp only[bG]
  refine Evt.ifF (zZ hd) (Evt.ret.eq ?_)
  rw[ha,List.take_of_length_le (List.drop_eq_nil_iff.1 hd)];rfl
 |x::r,v,acc,hd,hv,ha=>by
  have hlt:=yC hd
  refine Evt.succ ?_
  simp only[bG]
  refine Evt.ifT (zY hd) (Evt.pure (zX hd) (Evt.pure (yG (by rw[ha];simp;omega)) ?_))
  rw[zW v (by omega)]
  exact zAk c hl r (v+1) _ (zU hd) hlt (by rw[tS hd,List.map_append,ha];rfl)
theorem zIf(c:List zD)(hl:c.length≤1048576):Evt (fun q=>e30 q c) (ofV c):=by
 simp only[e30]
 exact zAk c hl c 0 [] rfl (Nat.zero_le _) rfl
section
variable {n:Int} {bs:List zR} {i:Nat} {b:zR}
theorem zOC(hb:bs[i]? = some b)(own:Tm)(so':List zI)(hs0:b.solved_=⟨n,own⟩::so')(hso:zL own=true)(s:zI)(hso2:¬s.n_∈frT own)(hl:(ofV b.vars_).length≤1048576)(hv:∀v∈ofV b.vars_,v.n_≠s.n_∧zL v.type_=true∧¬s.n_∈frT v.type_)(k:Nat)(K:Evt (fun q=>dD q n bs (i:Int) (ofV b.vars_) (w64 ((k:Int)+1))) true) :
  ∀(r:List xD) (v:Nat),(ofV b.vars_).drop v=r->Evt (fun q=>Y9 q n bs (i:Int) (ofV b.vars_) (k:Int) s (v:Int)) true
 | [],v,hd=>by
  refine Evt.succ ?_
  simp only[Y9]
  refine Evt.ifF (zZ hd) (Evt.pure (vG hb) (Evt.pure (a:=⟨n,own⟩) (by rw[hs0];rfl) ((cW hso hso2).bind (Evt.ifF rfl K))))
 |y::r,v,hd=>by
  have hlt:=yC hd
  obtain⟨h1,h2,h3⟩:=hv y (List.mem_of_mem_drop (by rw[hd];simp))
  refine Evt.succ ?_
  simp only[Y9]
  refine Evt.ifT (zY hd) (Evt.pure (zX hd) (Evt.ifF (by simpa using h1) ((cW h2 h3).bind (Evt.ifF rfl ?_))))
  rw[zW v (by omega)]
  exact zOC hb own so' hs0 hso s hso2 hl hv k K r (v+1) (zU hd)
theorem zOD(hb:bs[i]? = some b)(own:Tm)(so':List zI)(hs0:b.solved_=⟨n,own⟩::so')(hso:zL own=true)(hc:gP b.vars_)(hsl:b.solved_.length≤1048576)(hg:∀s∈b.solved_,¬s.n_∈frT own∧∀v∈b.vars_,v.n_≠s.n_∧zL v.type_=true∧¬s.n_∈frT v.type_)(K:Evt (fun q=>iI q n bs (w64 ((i:Int)+1))) true) :
  ∀(r:List zI) (k:Nat),b.solved_.drop k=r->Evt (fun q=>dD q n bs (i:Int) (ofV b.vars_) (k:Int)) true
 | [],k,hd=>by
  refine Evt.succ ?_
  simp only[dD]
  exact Evt.pure (vG hb) (Evt.ifF (zZ hd) K)
 |s::r,k,hd=>by
  have hlt:=yC hd
  obtain⟨h1,h2⟩:=hg s (List.mem_of_mem_drop (by rw[hd];simp))
  have hof:(ofV b.vars_).length=b.vars_.length:=by unfold ofV;rw[List.length_map]
  have hcl:=hc.len
  refine Evt.succ ?_
  simp only[dD]
  refine Evt.pure (vG hb) (Evt.ifT (zY hd) (Evt.pure (zX hd) (zOC hb own so' hs0 hso s h1 (by omega) (fun v hv=>?_) k ?_ _ 0 rfl)))
  ·obtain⟨u,hu,rfl⟩:=List.mem_map.1 hv
   exact h2 u hu
  ·rw[zW k (by omega)]
   exact zOD hb own so' hs0 hso hc hsl hg K r (k+1) (zU hd)
end
theorem zOE(n:Int)(bs:List zR)(hl:bs.length≤1048576)(hg:∀b∈bs,zED n b):∀(r:List zR) (v:Nat),bs.drop v=r->Evt (fun q=>iI q n bs (v:Int)) true
 | [],v,hd=>by
  refine Evt.succ ?_
  simp only[iI]
  exact Evt.ifF (zZ hd) zRc
 |b::r,v,hd=>by
  have hlt:=yC hd
  have hb:bs[v]? = some b:=by rw[←List.head?_drop,hd];rfl
  have next:Evt (fun q=>iI q n bs (w64 ((v:Int)+1))) true:=by
   rw[zW v (by omega)]
   exact zOE n bs hl hg r (v+1) (zU hd)
  refine Evt.succ ?_
  simp only[iI]
  refine Evt.ifT (zY hd) (Evt.pure (zX hd) ?_)
  rcases hg b (List.mem_of_mem_drop (by rw[hd];simp))with⟨h1,h2,h3,h4⟩|⟨h1,hc,hlo,hsl,own,so',hs0,hso,hall⟩
  ·have hR:Evt (fun q=>e12 q (ofV [])) true:=K8 (c:=[]) ⟨by simp,fun v h=>(nomatch h),by simp,fun v h=>(nomatch h),by simp⟩ fun v h=>nomatch h
   rw[h2]
   refine(zIf [] (by simp)).bind (hR.bind (Evt.ifT rfl (Evt.ifF h1 (Evt.ifF ?_ (Evt.succ ?_)))))
   ·rw[h3,h4];rfl
   ·simp only[dD]
    exact Evt.pure (vG hb) (Evt.ifF (by rw[h4];rfl) next)
  ·have hcl:=hc.len
   refine(zIf b.vars_ (by omega)).bind ((K8 hc hlo).bind (Evt.ifT rfl (Evt.ifT h1 (Evt.ifF ?_ (Evt.pure (a:=⟨n,own⟩) (by rw[hs0];rfl) (Evt.ifF (by simp) (zOD hb own so' hs0 hso hc hsl hall next _ 0 rfl)))))))
   rw[hs0];simp;omega
theorem zBT(l:List Ent)(c:List zD)(n:Int)(he:∀e∈l,EOk e)(hcl:∀e∈l,ECl e)(ho:∀v∈c,v.type_.Ok):Evt (fun q=>e6 q l c n) true:=by
 simp only[e6]
 obtain⟨g,hg,hg'⟩:=zEK l c
 refine hg.bind (Evt.iff (fun z=>?_) fun _=>zRc)
 obtain⟨hl,hcn⟩:=hg' z
 have hm:Evt (fun q=>e28 q 400) (.inr (0,400,0)):=zQH 400 (by omega) (by omega)
 rcases zEI l hl he hcl with hn|⟨N,hE,hn,hfm⟩
 ·refine(hn.eq (show zJS l false = .inl 5 from rfl)).bind (hm.bind ?_)
  have hz:Evt (fun q=>eE q c n 400 0) (.inl ([],5)):=Evt.mk fun q=>rfl
  exact hz.bind (Evt.ifT rfl (Evt.ifT rfl zRc))
 ·refine hn.bind ?_
  simp only[zJS,if_true]
  refine hm.bind ?_
  obtain⟨x,hx,hx'⟩:=zGH hE he (by omega) hcl hfm c n (by omega) ho (L:=400) (U:=0) (T:=400) (by omega) (by omega) rfl (by omega)
  refine Evt.bind (a:=x) hx ?_
  rcases hx' with⟨e,a,b,e0,rfl⟩|⟨bs,a,b,h1,h2,rfl⟩
  ·exact Evt.ifT (by simpa using e0) (Evt.ifT rfl zRc)
  ·exact Evt.ifF rfl (zOE n bs h1 h2 _ 0 rfl)
theorem zUz{l:List Ent}(h:∀e∈l,RdE e):∀e∈l,EOk e:=fun e he=>⟨(h e he).1,(h e he).2.1,Nat.le_trans (h e he).2.2.1 (by decide),Nat.le_trans (h e he).2.2.2 (by decide)⟩
theorem zUy{l:List Ent}(h:∀e∈l,RdE e):∀e∈l,ECl e:=fun e he=>⟨(h e he).2.2.1,(h e he).2.2.2⟩
theorem zBU(l:List Ent)(c:List zD)(n:Int)(w0:∀e∈l,RdE e)(w1:(∀e∈c,e.type_.Ok)∧c.length≤17592186044416)(w2:(Lit.int .i64 n).wf=true):CT Tryz.prog 6 [] [.sl (zK yP l) l.length .no,.sl (zK zJ c) c.length .no,.val (.int .i64 n)] (ab true) [] 0:=by
 obtain⟨q,hq⟩:=(zBT l c n (zUz w0) (zUy w0) w1.1).at
 exact c6 hq
end Go.Proofs.YtfbkefchjcocmaaGreat
