/- Parts of the proof that the law returns true: walks of the functions, plain laws. -/
import Derived.KernelRfl
import Derived.Test.YtfbkefchjcocmaaGreatAbB5
set_option linter.unusedVariables false
set_option linter.unusedSimpArgs false
set_option linter.unusedSectionVars false
namespace Go.Proofs.YtfbkefchjcocmaaGreat
open Go Go.Ab Go.Proofs.Tryz
def J3(qq:Nat)(q0 q1:yV)(q2:uM)(q3 q4:zZ)(q5 q6:Int)(q7:xR)(q8:qA)(q9 q10 yZ:Nat)(xE:Bool)(q13:xR)(xG:sE)(q15 q16:Nat)(q17:zZ)(xC:Bool)(q19:Int):Option ((xR×qA×Nat×Nat×Nat×sE×Nat×Nat×zZ×Bool×Int×Int×Int) ⊕ ((xR×qA×Nat×Nat×Nat×sE×Nat×Nat×zZ×Int×Int×Int) ⊕ ((xR×qA×Nat×Nat×Nat×sE×zZ×Bool×Int×Int×Int) ⊕ (xR×qA×sE×Nat×Nat×zZ×Bool×Int×Int×Int×qA)))):=
 iM q9 0>>=fun x1=>
 zW q8 ((q10+x1):Int)>>=fun x3=>
 kT q9 1 (q9:Int)>>=fun x5=>
 e98 qq q5 q6>>=fun r7=>
 if r7.1 != 0 then
 some (.inl (q7,q8,x5.2,(q10+x5.1),(yZ-x5.1),xG,q15,q16,q17,xC,r7.1,r7.2.1,r7.2.2))
 else
 zFP qq (wA.mk q0 q1 q2 q3 q4) x3.a_ r7.2.1 r7.2.2>>=fun r10=>
 mK qq q0 q1 q2 q3 q4 r10.2.2.1 r10.2.2.2 q7 q8 x5.2 (q10+x5.1) (yZ-x5.1) xE q13 xG q15 q16 q17 xC q19 r10.1 r10.2.1>>=fun r12=>
 if r12.2 != 0 then
 some (.inl (q7,q8,x5.2,(q10+x5.1),(yZ-x5.1),xG,q15,q16,q17,xC,r12.2,r10.2.2.1,r10.2.2.2))
 else
 zFP qq (wA.mk q0 q1 q2 q3 q4) x3.b_ r10.2.2.1 r10.2.2.2>>=fun r15=>
 mK qq q0 q1 q2 q3 q4 r15.2.2.1 r15.2.2.2 q7 q8 x5.2 (q10+x5.1) (yZ-x5.1) xE q13 xG q15 q16 q17 xC r12.2 r15.1 r15.2.1>>=fun r17=>
 if r17.2 != 0 then
 some (.inl (q7,q8,x5.2,(q10+x5.1),(yZ-x5.1),xG,q15,q16,q17,xC,r17.2,r15.2.2.1,r15.2.2.2))
 else
 jY qq q0 q1 q2 q3 q4 r15.2.2.1 r15.2.2.2 q7 q8 x5.2 (q10+x5.1) (yZ-x5.1) xE q13 xG q15 q16 q17 xC r17.2 r12.1>>=fun r20=>
 jY qq q0 q1 q2 q3 q4 r15.2.2.1 r15.2.2.2 q7 q8 x5.2 (q10+x5.1) (yZ-x5.1) xE q13 xG q15 q16 q17 xC r17.2 r17.1>>=fun r22=>
 if decide (r20≥0)then
 if r20==r22 then
 some (.inl (q7,q8,x5.2,(q10+x5.1),(yZ-x5.1),xG,q15,q16,q17,xC,12,r15.2.2.1,r15.2.2.2))
 else
 jU qq q0 q1 q2 q3 q4 r15.2.2.1 r15.2.2.2 q7 q8 x5.2 (q10+x5.1) (yZ-x5.1) xE q13 xG q15 q16 q17 xC r17.2 r20 r17.1>>=fun r26=>
 match r26 with
 | .inl y28=>
  some (.inr (.inl (y28.1,y28.2.2.2.2.2.2,x5.2,(q10+x5.1),(yZ-x5.1),y28.2.1,y28.2.2.1,y28.2.2.2.1,y28.2.2.2.2.1,y28.2.2.2.2.2.1,r15.2.2.1,r15.2.2.2)))
 | .inr (.inl y29)=>
  some (.inl (y29.1,y29.2.2.2.2.2.2.2,x5.2,(q10+x5.1),(yZ-x5.1),y29.2.1,y29.2.2.1,y29.2.2.2.1,y29.2.2.2.2.1,y29.2.2.2.2.2.1,y29.2.2.2.2.2.2.1,r15.2.2.1,r15.2.2.2))
 | .inr (.inr y30)=>
  some (.inr (.inr (.inl (y30.1,y30.2.2.2.2.2,x5.2,(q10+x5.1),(yZ-x5.1),y30.2.1,y30.2.2.1,y30.2.2.2.1,y30.2.2.2.2.1,r15.2.2.1,r15.2.2.2))))
 else
 if decide (r22≥0)then
 jU qq q0 q1 q2 q3 q4 r15.2.2.1 r15.2.2.2 q7 q8 x5.2 (q10+x5.1) (yZ-x5.1) xE q13 xG q15 q16 q17 xC r17.2 r22 r12.1>>=fun r32=>
 match r32 with
 | .inl y34=>
  some (.inr (.inl (y34.1,y34.2.2.2.2.2.2,x5.2,(q10+x5.1),(yZ-x5.1),y34.2.1,y34.2.2.1,y34.2.2.2.1,y34.2.2.2.2.1,y34.2.2.2.2.2.1,r15.2.2.1,r15.2.2.2)))
 | .inr (.inl y35)=>
  some (.inl (y35.1,y35.2.2.2.2.2.2.2,x5.2,(q10+x5.1),(yZ-x5.1),y35.2.1,y35.2.2.1,y35.2.2.2.1,y35.2.2.2.2.1,y35.2.2.2.2.2.1,y35.2.2.2.2.2.2.1,r15.2.2.1,r15.2.2.2))
 | .inr (.inr y36)=>
  some (.inr (.inr (.inl (y36.1,y36.2.2.2.2.2,x5.2,(q10+x5.1),(yZ-x5.1),y36.2.1,y36.2.2.1,y36.2.2.2.1,y36.2.2.2.2.1,r15.2.2.1,r15.2.2.2))))
 else
 dF qq q0 q1 q2 q3 q4 r15.2.2.1 r15.2.2.2 q7 q8 x5.2 (q10+x5.1) (yZ-x5.1) xE q13 xG q15 q16 q17 xC r17.2 (zM.mk r12.1 r17.1)>>=fun r37=>
 match r37 with
 | .inl y39=>
  some (.inl (q7,q8,y39.2.1,y39.2.2.1,y39.2.2.2.1,xG,q15,q16,y39.2.2.2.2.1,y39.2.2.2.2.2.1,y39.2.2.2.2.2.2.1,y39.2.2.2.2.2.2.2.1,y39.2.2.2.2.2.2.2.2))
 | .inr (.inl y40)=>
  some (.inr (.inl (q7,q8,y40.2.1,y40.2.2.1,y40.2.2.2.1,xG,q15,q16,y40.2.2.2.2.1,y40.2.2.2.2.2.1,y40.2.2.2.2.2.2.1,y40.2.2.2.2.2.2.2)))
 | .inr (.inr y41)=>
  some (.inr (.inr (.inr (q7,y41.1,xG,q15,q16,y41.2.1,y41.2.2.1,y41.2.2.2.1,y41.2.2.2.2.1,y41.2.2.2.2.2,q8))))
section
variable (q0 q1:yV) (q2:uM) (q3 q4:zZ) (q5 q6:Int) (q7:xR) (q8:qA) (q9 q10 yZ:Nat) (xE:Bool) (q13:xR) (xG:sE) (q15 q16:Nat) (q17:zZ) (xC:Bool) (q19:Int)
abbrev Q3 (r:xR×qA×Nat×Nat×Nat×sE×Nat×Nat×zZ×Bool×Int×Int×Int) (C:Cf):Prop:=C 65 [.cells [.mp 1 0,.mp 3 0,zV zI q7 .no,.ms 4 (q10*6) q9 yZ 6,ab xE,.ms 5 0 q13.length q13.length 4,.ms 6 0 q15 q16 4,.ms 7 0 q17.length q17.length 1,ab xC,ai q19],qB q0 2 q3 q4,qR q1 q2,.cells [ai q5,ai q6],.row (zG zP q8),.row (zG zI q13),.row (zG zQ xG),.row (zG yC q17)] [.mp 0 0] (.tup []) [.cells [.mp 1 0,.mp 3 0,zV zI r.1 .no,.ms 4 (r.2.2.2.1*6) r.2.2.1 r.2.2.2.2.1 6,ab xE,.ms 5 0 q13.length q13.length 4,.ms 8 0 r.2.2.2.2.2.2.1 r.2.2.2.2.2.2.2.1 4,.ms 9 0 r.2.2.2.2.2.2.2.2.1.length r.2.2.2.2.2.2.2.2.1.length 1,ab r.2.2.2.2.2.2.2.2.2.1,ai r.2.2.2.2.2.2.2.2.2.2.1],qB q0 2 q3 q4,qR q1 q2,.cells [ai r.2.2.2.2.2.2.2.2.2.2.2.1,ai r.2.2.2.2.2.2.2.2.2.2.2.2],.row (zG zP r.2.1),.row (zG zI q13),.dead,.dead,.row (zG zQ r.2.2.2.2.2.1),.row (zG yC r.2.2.2.2.2.2.2.2.1)] 0
abbrev Q4 (r:xR×qA×Nat×Nat×Nat×sE×Nat×Nat×zZ×Int×Int×Int) (C:Cf):Prop:=C 65 [.cells [.mp 1 0,.mp 3 0,zV zI q7 .no,.ms 4 (q10*6) q9 yZ 6,ab xE,.ms 5 0 q13.length q13.length 4,.ms 6 0 q15 q16 4,.ms 7 0 q17.length q17.length 1,ab xC,ai q19],qB q0 2 q3 q4,qR q1 q2,.cells [ai q5,ai q6],.row (zG zP q8),.row (zG zI q13),.row (zG zQ xG),.row (zG yC q17)] [.mp 0 0] (.tup []) [.cells [.mp 1 0,.mp 3 0,zV zI r.1 .no,.ms 4 (r.2.2.2.1*6) r.2.2.1 r.2.2.2.2.1 6,ab xE,.ms 5 0 q13.length q13.length 4,.ms 8 0 r.2.2.2.2.2.2.1 r.2.2.2.2.2.2.2.1 4,.ms 9 0 r.2.2.2.2.2.2.2.2.1.length r.2.2.2.2.2.2.2.2.1.length 1,ab true,ai r.2.2.2.2.2.2.2.2.2.1],qB q0 2 q3 q4,qR q1 q2,.cells [ai r.2.2.2.2.2.2.2.2.2.2.1,ai r.2.2.2.2.2.2.2.2.2.2.2],.row (zG zP r.2.1),.row (zG zI q13),.dead,.dead,.row (zG zQ r.2.2.2.2.2.1),.row (zG yC r.2.2.2.2.2.2.2.2.1)] 0
abbrev Q5 (r:xR×qA×Nat×Nat×Nat×sE×zZ×Bool×Int×Int×Int) (C:Cf):Prop:=C 65 [.cells [.mp 1 0,.mp 3 0,zV zI q7 .no,.ms 4 (q10*6) q9 yZ 6,ab xE,.ms 5 0 q13.length q13.length 4,.ms 6 0 q15 q16 4,.ms 7 0 q17.length q17.length 1,ab xC,ai q19],qB q0 2 q3 q4,qR q1 q2,.cells [ai q5,ai q6],.row (zG zP q8),.row (zG zI q13),.row (zG zQ xG),.row (zG yC q17)] [.mp 0 0] (.tup []) [.cells [.mp 1 0,.mp 3 0,zV zI r.1 .no,.ms 4 (r.2.2.2.1*6) r.2.2.1 r.2.2.2.2.1 6,ab xE,.ms 5 0 q13.length q13.length 4,.ms 8 0 r.2.2.2.2.2.1.length r.2.2.2.2.2.1.length 4,.ms 9 0 r.2.2.2.2.2.2.1.length r.2.2.2.2.2.2.1.length 1,ab r.2.2.2.2.2.2.2.1,ai r.2.2.2.2.2.2.2.2.1],qB q0 2 q3 q4,qR q1 q2,.cells [ai r.2.2.2.2.2.2.2.2.2.1,ai r.2.2.2.2.2.2.2.2.2.2],.row (zG zP r.2.1),.row (zG zI q13),.dead,.dead,.row (zG zQ r.2.2.2.2.2.1),.row (zG yC r.2.2.2.2.2.2.1)] 0
abbrev zMN (r:xR×qA×sE×Nat×Nat×zZ×Bool×Int×Int×Int×qA) (C:Cf):Prop:=C 65 [.cells [.mp 1 0,.mp 3 0,zV zI q7 .no,.ms 4 (q10*6) q9 yZ 6,ab xE,.ms 5 0 q13.length q13.length 4,.ms 6 0 q15 q16 4,.ms 7 0 q17.length q17.length 1,ab xC,ai q19],qB q0 2 q3 q4,qR q1 q2,.cells [ai q5,ai q6],.row (zG zP q8),.row (zG zI q13),.row (zG zQ xG),.row (zG yC q17)] [.mp 0 0] (.tup []) [.cells [.mp 1 0,.mp 3 0,zV zI r.1 .no,.ms 8 0 r.2.1.length r.2.1.length 6,ab xE,.ms 5 0 q13.length q13.length 4,.ms 9 0 r.2.2.2.1 r.2.2.2.2.1 4,.ms 10 0 r.2.2.2.2.2.1.length r.2.2.2.2.2.1.length 1,ab r.2.2.2.2.2.2.1,ai r.2.2.2.2.2.2.2.1],qB q0 2 q3 q4,qR q1 q2,.cells [ai r.2.2.2.2.2.2.2.2.1,ai r.2.2.2.2.2.2.2.2.2.1],.row (zG zP r.2.2.2.2.2.2.2.2.2.2),.row (zG zI q13),.dead,.dead,.row (zG zP r.2.1),.row (zG zQ r.2.2.1),.row (zG yC r.2.2.2.2.2.1)] 0
end
theorem rY:Qf 65 f65:=⟨func65,rfl⟩
theorem oY{q0 q1 q2 q3 q4 q5 q6 q7 q8 q9 q10 yZ xE q13 xG q15 q16 q17 xC q19 r}(h:Q3 q0 q1 q2 q3 q4 q5 q6 q7 q8 q9 q10 yZ xE q13 xG q15 q16 q17 xC q19 r Ci):Q3 q0 q1 q2 q3 q4 q5 q6 q7 q8 q9 q10 yZ xE q13 xG q15 q16 q17 xC q19 r Ct:=⟨h,⟨(lz rfl),tv⟩,(zA ⟨(lz rfl),(lz rfl),⟨tv,zF _⟩,(lz rfl),tv,(lz rfl),(lz rfl),(lz rfl),tv,tv,tv⟩ (nW (lz rfl) (zA ⟨tv,tv,tv⟩ (zA (zL _) (zA (zF _) (zA (zK _) (zA (dI _) zB))))))),tv,(zA ⟨(lz rfl),(lz rfl),zF _,(lz rfl),tv,(lz rfl),(lz rfl),(lz rfl),tv,tv,tv⟩ (pW (lz rfl) (zA ⟨tv,tv,tv⟩ (zA (zL _) (zA (zF _) (zA tv (zA tv (zA (zK _) (zA (dI _) zB)))))))))⟩
theorem Q6{q0 q1 q2 q3 q4 q5 q6 q7 q8 q9 q10 yZ xE q13 xG q15 q16 q17 xC q19 r}(h:Q4 q0 q1 q2 q3 q4 q5 q6 q7 q8 q9 q10 yZ xE q13 xG q15 q16 q17 xC q19 r Ci):Q4 q0 q1 q2 q3 q4 q5 q6 q7 q8 q9 q10 yZ xE q13 xG q15 q16 q17 xC q19 r Ct:=⟨h,⟨(lz rfl),tv⟩,(zA ⟨(lz rfl),(lz rfl),⟨tv,zF _⟩,(lz rfl),tv,(lz rfl),(lz rfl),(lz rfl),tv,tv,tv⟩ (nW (lz rfl) (zA ⟨tv,tv,tv⟩ (zA (zL _) (zA (zF _) (zA (zK _) (zA (dI _) zB))))))),tv,(zA ⟨(lz rfl),(lz rfl),zF _,(lz rfl),tv,(lz rfl),(lz rfl),(lz rfl),tv,tv,tv⟩ (pW (lz rfl) (zA ⟨tv,tv,tv⟩ (zA (zL _) (zA (zF _) (zA tv (zA tv (zA (zK _) (zA (dI _) zB)))))))))⟩
theorem zBM{q0 q1 q2 q3 q4 q5 q6 q7 q8 q9 q10 yZ xE q13 xG q15 q16 q17 xC q19 r}(h:Q5 q0 q1 q2 q3 q4 q5 q6 q7 q8 q9 q10 yZ xE q13 xG q15 q16 q17 xC q19 r Ci):Q5 q0 q1 q2 q3 q4 q5 q6 q7 q8 q9 q10 yZ xE q13 xG q15 q16 q17 xC q19 r Ct:=⟨h,⟨(lz rfl),tv⟩,(zA ⟨(lz rfl),(lz rfl),⟨tv,zF _⟩,(lz rfl),tv,(lz rfl),(lz rfl),(lz rfl),tv,tv,tv⟩ (nW (lz rfl) (zA ⟨tv,tv,tv⟩ (zA (zL _) (zA (zF _) (zA (zK _) (zA (dI _) zB))))))),tv,(zA ⟨(lz rfl),(lz rfl),zF _,(lz rfl),tv,(lz rfl),(lz rfl),(lz rfl),tv,tv,tv⟩ (pW (lz rfl) (zA ⟨tv,tv,tv⟩ (zA (zL _) (zA (zF _) (zA tv (zA tv (zA (zK _) (zA (dI _) zB)))))))))⟩
theorem W7{qq q0 q1 q2 q3 q4 q5 q6 q7 q8 q9 q10 yZ xE q13 xG q15 q16 q17 xC q19 r}(h:J3 qq q0 q1 q2 q3 q4 q5 q6 q7 q8 q9 q10 yZ xE q13 xG q15 q16 q17 xC q19=some r):(match (generalizing:=false) r with | .inl x=>Q3 q0 q1 q2 q3 q4 q5 q6 q7 q8 q9 q10 yZ xE q13 xG q15 q16 q17 xC q19 x Ct | .inr (.inl x)=>Q4 q0 q1 q2 q3 q4 q5 q6 q7 q8 q9 q10 yZ xE q13 xG q15 q16 q17 xC q19 x Ct | .inr (.inr (.inl x))=>Q5 q0 q1 q2 q3 q4 q5 q6 q7 q8 q9 q10 yZ xE q13 xG q15 q16 q17 xC q19 x Ct | .inr (.inr (.inr x))=>zMN q0 q1 q2 q3 q4 q5 q6 q7 q8 q9 q10 yZ xE q13 xG q15 q16 q17 xC q19 x Ct):=by
 unfold J3 at h
 have z {os ob} (k:Oz os ob):=oD (zK xG)<|oD (zF q13)<|oD (zL q8)<|cU q0 q1 q2 q3 q4<|oD (zF q7)<|k
 obtain⟨x1,h2,h⟩:=zC h
 obtain⟨x3,h4,h⟩:=zC h
 obtain⟨x5,h6,h⟩:=zC h
 obtain⟨r7,h8,h⟩:=zC h
 have k:=oC 2 [3] (c98 h8)<|oA 2 (zHc (b:=4) (o:=q10) (c:=yZ) h6)<|oG (a:=(.agg [ai x3.a_.k,ai x3.a_.n,zV zD x3.a_.sub .no,ai x3.b_.k,ai x3.b_.n,zV zD x3.b_.sub .no])) 0 (ldE uA h4 (true,6) (val:=.agg [ai x3.a_.k,ai x3.a_.n,zV zD x3.a_.sub .no,ai x3.b_.k,ai x3.b_.n,zV zD x3.b_.sub .no]) rfl)<|oA 1 (zHd (b:=4) (o:=q10) (c:=yZ) (z:=6) h2) o0
 obtain⟨h9,h⟩|⟨h9,h⟩:=zU h
 cases h
 exact oY (tG rY 1 [(some 6,0,0),(some 7,0,0)] [0,1,2,3,4,5,6,7,9,10] [] false (oD (dI q17)<|z<|oB 0 h9 k))
 obtain⟨r10,h11,h⟩:=zC h
 obtain⟨r12,h13,h⟩:=zC h
 have k:=oC 2 [0,1,2,3,4,5,6,7] (J0 h13)<|oC 3 [1,2,3] (zWp h11)<|oB 0 h9 k
 obtain⟨h14,h⟩|⟨h14,h⟩:=zU h
 cases h
 exact oY (tG rY 0 [(some 6,0,0),(some 7,0,0)] [0,1,2,3,4,5,6,7,9,10] [] false (oD (dI q17)<|z<|oB 2 h14 k))
 obtain⟨r15,h16,h⟩:=zC h
 obtain⟨r17,h18,h⟩:=zC h
 have k:=oC 2 [0,1,2,3,4,5,6,7] (J0 h18)<|oC 3 [1,2,3] (zWp h16)<|oB 2 h14 k
 obtain⟨h19,h⟩|⟨h19,h⟩:=zU h
 cases h
 exact oY (tG rY 0 [(some 6,0,0),(some 7,0,0)] [0,1,2,3,4,5,6,7,9,10] [] false (oD (dI q17)<|z<|oB 2 h19 k))
 obtain⟨r20,h21,h⟩:=zC h
 obtain⟨r22,h23,h⟩:=zC h
 have k:=oC 1 [0,1,2,3,4,5,6,7] (zGk h23)<|oC 1 [0,1,2,3,4,5,6,7] (zGk h21)<|oB 2 h19 k
 obtain⟨h24,h⟩|⟨h24,h⟩:=zU h
 have k:=oB 0 h24 k
 obtain⟨h25,h⟩|⟨h25,h⟩:=zU h
 cases h
 exact oY (tG rY 1 [(some 6,0,0),(some 7,0,0)] [0,1,2,3,4,5,6,7,9,10] [] false (oD (dI q17)<|z<|oB 0 h25 k))
 obtain⟨r26,h27,h⟩:=zC h
 have k:=oB 0 h24<|oB 0 h25 k
 rcases r26 with y28 | (y29|y30)
 dsimp only at h
 cases h
 exact Q6 (tF rY 0 [0,1,2,3,4,5,6,7,9,10] (oD (dI y28.2.2.2.2.1)<|oD (zK y28.2.1)<|oD (zF q13)<|oD (zL y28.2.2.2.2.2.2)<|cU q0 q1 q2 q3 q4<|oD (zF y28.1)<|oC 1 [0,1,2,3,4,5,6,7] (jV h27) k))
 dsimp only at h
 cases h
 exact oY (tF rY 0 [0,1,2,3,4,5,6,7,9,10] (oD (dI y29.2.2.2.2.1)<|oD (zK y29.2.1)<|oD (zF q13)<|oD (zL y29.2.2.2.2.2.2.2)<|cU q0 q1 q2 q3 q4<|oD (zF y29.1)<|oC 1 [0,1,2,3,4,5,6,7] (jV h27) k))
 dsimp only at h
 cases h
 exact zBM (tF rY 0 [0,1,2,3,4,5,6,7,9,10] (oD (dI y30.2.2.1)<|oD (zK y30.2.1)<|oD (zF q13)<|oD (zL y30.2.2.2.2.2)<|cU q0 q1 q2 q3 q4<|oD (zF y30.1)<|oC 1 [0,1,2,3,4,5,6,7] (jV h27) k))
 have k:=oB 0 h24<|oB 0 h24 k
 obtain⟨h31,h⟩|⟨h31,h⟩:=zU h
 obtain⟨r32,h33,h⟩:=zC h
 have k:=oB 0 h31 k
 rcases r32 with y34 | (y35|y36)
 dsimp only at h
 cases h
 exact Q6 (tF rY 0 [0,1,2,3,4,5,6,7,9,10] (oD (dI y34.2.2.2.2.1)<|oD (zK y34.2.1)<|oD (zF q13)<|oD (zL y34.2.2.2.2.2.2)<|cU q0 q1 q2 q3 q4<|oD (zF y34.1)<|oC 1 [0,1,2,3,4,5,6,7] (jV h33) k))
 dsimp only at h
 cases h
 exact oY (tF rY 0 [0,1,2,3,4,5,6,7,9,10] (oD (dI y35.2.2.2.2.1)<|oD (zK y35.2.1)<|oD (zF q13)<|oD (zL y35.2.2.2.2.2.2.2)<|cU q0 q1 q2 q3 q4<|oD (zF y35.1)<|oC 1 [0,1,2,3,4,5,6,7] (jV h33) k))
 dsimp only at h
 cases h
 exact zBM (tF rY 0 [0,1,2,3,4,5,6,7,9,10] (oD (dI y36.2.2.1)<|oD (zK y36.2.1)<|oD (zF q13)<|oD (zL y36.2.2.2.2.2)<|cU q0 q1 q2 q3 q4<|oD (zF y36.1)<|oC 1 [0,1,2,3,4,5,6,7] (jV h33) k))
 obtain⟨r37,h38,h⟩:=zC h
 have k:=oB 0 h31 k
 rcases r37 with y39 | (y40|y41)
 dsimp only at h
 cases h
 exact oY (tG rY 0 [(some 6,0,0)] [0,1,2,3,4,5,6,7,10,9] [] false (oD (dI y39.2.2.2.2.1)<|z<|oC 1 [0,1,2,3,4,5,6,7] (b7 h38) k))
 dsimp only at h
 cases h
 exact Q6 (tG rY 0 [(some 6,0,0)] [0,1,2,3,4,5,6,7,10,9] [] false (oD (dI y40.2.2.2.2.1)<|z<|oC 1 [0,1,2,3,4,5,6,7] (b7 h38) k))
 dsimp only at h
 cases h
 exact⟨tG rY 0 [(some 6,0,0)] [0,1,2,3,4,5,6,7,9,11,10] [] false (oD (dI y41.2.1)<|oD (zK xG)<|oD (zL y41.1)<|oD (zF q13)<|oD (zL q8)<|cU q0 q1 q2 q3 q4<|oD (zF q7)<|oC 1 [0,1,2,3,4,5,6,7] (b7 h38) k),⟨(lz rfl),tv⟩,(zA ⟨(lz rfl),(lz rfl),⟨tv,zF _⟩,(lz rfl),tv,(lz rfl),(lz rfl),(lz rfl),tv,tv,tv⟩ (nW (lz rfl) (zA ⟨tv,tv,tv⟩ (zA (zL _) (zA (zF _) (zA (zK _) (zA (dI _) zB))))))),tv,(zA ⟨(lz rfl),(lz rfl),zF _,(lz rfl),tv,(lz rfl),(lz rfl),(lz rfl),tv,tv,tv⟩ (pW (lz rfl) (zA ⟨tv,tv,tv⟩ (zA (zL _) (zA (zF _) (zA tv (zA tv (zA (zL _) (zA (zK _) (zA (dI _) zB))))))))))⟩
abbrev NxT:=(List zR×List zM×Nat×Nat×Nat×List zS×Nat×Nat×List Int×Bool×Int×Int×Int) ⊕ ((List zR×List zM×Nat×Nat×Nat×List zS×Nat×Nat×List Int×Int×Int×Int) ⊕ ((List zR×List zM×Nat×Nat×Nat×List zS×List Int×Bool×Int×Int×Int) ⊕ (List zR×List zM×List zS×Nat×Nat×List Int×Bool×Int×Int×Int×List zM)))
inductive NxR (l:List yI) (c:List zR) (q8:List zM) (q9 q10:Nat) (so:List zS) (q15 q16:Nat) (q17:List Int) (xC:Bool) (L U:Int):NxT->Prop
 |err {c' q8' n o k so' a b s no e fl fu}:e≠0->NxR l c q8 q9 q10 so q15 q16 q17 xC L U (.inl (c',q8',n,o,k,so',a,b,s,no,e,fl,fu))
 |no {c' q8' n o k so' a b s fl fu}:s.length=q17.length+1->0≤fl∧0≤fu∧fl+fu=L+U->Un l c ((q8.drop q10).take q9) so none->NxR l c q8 q9 q10 so q15 q16 q17 xC L U (.inr (.inl (c',q8',n,o,k,so',a,b,s,0,fl,fu)))
 |sol {d row k so' n t s e fl fu}:s.length=q17.length+1->0≤fl->fl<L->0≤fu->fl+fu=L+U->row.length=q8.length->(∀x∈row,x.a_.Ok∧x.b_.Ok)->so'.length=so.length->(∀x∈so',x.t_.Ok)->zFV c n t d->t.Ok ->
   (e=0->(∀x∈(row.drop (q10+1)).take (q9-1),zH x.a_=true∧zH x.b_=true)∧∀r,Un l d ((row.drop (q10+1)).take (q9-1)) (so'++[⟨n,t⟩]) r->Un l c ((q8.drop q10).take q9) so r)->NxR l c q8 q9 q10 so q15 q16 q17 xC L U (.inr (.inr (.inl (d,row,q9-1,q10+1,k,so'++[⟨n,t⟩],s,xC,e,fl,fu))))
 |inj {td s fl fu}:s.length=q17.length+1->0≤fl->fl<L->0≤fu->fl+fu=L+U->td.length≤q9+8192->(∀x∈td,zH x.a_=true∧zH x.b_=true) ->
   (∀r,Un l c td so r->Un l c ((q8.drop q10).take q9) so r)->NxR l c q8 q9 q10 so q15 q16 q17 xC L U (.inr (.inr (.inr (c,td,so,q15,q16,s,xC,0,fl,fu,q8))))
theorem zMO{N:ByteArray->Bool}{l:List yI}(hE:wP N l)(he:∀e∈l,eK e)(hl:l.length≤65535)(hc:∀e∈l,ECl e)(L U:Int)(c:List zR)(q8:List zM)(q9 q10 yZ:Nat)(xE:Bool)(q13:List zR)(so:List zS)(q15 q16:Nat)(q17:List Int)(xC:Bool)
  (h0:0≤L) (h1:0≤U) (h2:L+U≤1099511627776) (hpos:1≤q9) (hb:q10+q9≤q8.length) (h8:q8.length≤1048576000) (hok8:∀x∈q8,x.a_.Ok∧x.b_.Ok) (hok:∀x∈(q8.drop q10).take q9,zH x.a_=true∧zH x.b_=true) (hso:so.length=q15) (hso2:so.length≤1048576) (hsok:∀x∈so,x.t_.Ok) (hst:q17.length≤1048576) (hcl:c.length≤524288) (hco:∀v∈c,v.type_.Ok) :
  zN (fun q=>J3 q l l (lW l l.length 0) (l.map wG) (l.map rX) L U c q8 q9 q10 yZ xE q13 so q15 q16 q17 xC 0) (NxR l c q8 q9 q10 so q15 q16 q17 xC L U):=by
 obtain⟨eq,heq⟩:∃x,q8[q10]? = some x:=⟨_,List.getElem?_eq_getElem (by omega)⟩
 have htd:(q8.drop q10).take q9=eq::(q8.drop (q10+1)).take (q9-1):=by
  obtain⟨m,rfl⟩:∃m,q9=m+1:=⟨q9-1,by omega⟩
  obtain⟨g1,g2⟩:=List.getElem?_eq_some_iff.1 heq
  rw[List.drop_eq_getElem_cons g1,g2,List.take_succ_cons];rfl
 have hsh:=hok eq (by rw[htd];exact List.mem_cons_self ..)
 have hrest:∀x∈(q8.drop (q10+1)).take (q9-1),zH x.a_=true∧zH x.b_=true:=fun x hx=>hok x (by rw[htd];exact List.mem_cons_of_mem _ hx)
 simp only[J3]
 refine zN.pure (a:=0) (lM (v:=0) hpos) (zN.pure (a:=eq) (sH (i:=q10+0) heq) (zN.pure (a:=(1,q9-1)) (eV (a:=1) hpos (Nat.le_refl _)) (zN.bind (P:=fun r=>r=if 1≤L then((0:Int),L-1,U+1)else(8,L,U)) ((H4 L U h0 h1 h2).tot rfl) fun r7 h7=>?_)))
 by_cases hL:1≤L
 ·rw[if_pos hL]at h7
  subst h7
  refine zN.ite (fun h=>by cases h) fun _=>(b9 hE he (yB hsh.1) (L-1) (U+1) (by omega) (by omega) (by omega)).bind fun r10 h10=>(eX l l _ _ _ _ _ c q8 _ _ _ xE q13 so q15 q16 q17 xC 0 r10.1 r10.2.1).bind fun r12 h12=>?_
  have e12:=h12.2.2 rfl
  refine zN.ite (fun h=>zN.ret (.err (by simpa using h))) fun h=>?_
  have z12:r12.2=0:=by simpa using h
  obtain⟨k,k0,k1,hbr,hf1,hf2⟩:=h10 (by rw[←e12];exact z12)
  rw[z12,hf1,hf2,h12.1]
  have sa:=hbr.shaped hsh.1 rfl
  refine(b9 hE he (yB hsh.2) (L-1-k) (U+1+k) (by omega) (by omega) (by omega)).bind fun r15 h15=>(eX l l _ _ _ _ _ c q8 _ _ _ xE q13 so q15 q16 q17 xC 0 r15.1 r15.2.1).bind fun r17 h17=>?_
  have e17:=h17.2.2 rfl
  refine zN.ite (fun h=>zN.ret (.err (by simpa using h))) fun h=>?_
  have z17:r17.2=0:=by simpa using h
  obtain⟨j,j0,j1,hbs,hg1,hg2⟩:=h15 (by rw[←e17];exact z17)
  rw[z17,hg1,hg2,h17.1]
  have sb:=hbs.shaped hsh.2 rfl
  have fin:∀(n:Int) (t:Tm),zFW l c eq n t->zH t=true->∀x,zZD l c q8 (q9-1) (q10+1) so q15 q16 q17 xC n t x->NxR l c q8 q9 q10 so q15 q16 q17 xC L U (match x with
    | .inl y=>.inr (.inl (y.1,y.2.2.2.2.2.2,q9-1,q10+1,yZ-1,y.2.1,y.2.2.1,y.2.2.2.1,y.2.2.2.2.1,y.2.2.2.2.2.1,L-1-k-j,U+1+k+j))
    | .inr (.inl y)=>.inl (y.1,y.2.2.2.2.2.2.2,q9-1,q10+1,yZ-1,y.2.1,y.2.2.1,y.2.2.2.1,y.2.2.2.2.1,y.2.2.2.2.2.1,y.2.2.2.2.2.2.1,L-1-k-j,U+1+k+j)
    | .inr (.inr y)=>.inr (.inr (.inl (y.1,y.2.2.2.2.2,q9-1,q10+1,yZ-1,y.2.1,y.2.2.1,y.2.2.2.1,y.2.2.2.2.1,L-1-k-j,U+1+k+j)))):=by
   intro n t hv hst' x hx
   rcases hx with⟨rfl,hB⟩|⟨e,e0,rfl⟩|⟨d,row,so',e,rfl,g1,g2,g3,g4,g5,g6,g7⟩
   ·exact .no (by simp) ⟨by show (0:Int)≤L-1-k-j;omega,by show (0:Int)≤U+1+k+j;omega,by show L-1-k-j+(U+1+k+j)=L+U;omega⟩ (by rw[htd];exact .cyc hv hB)
   ·exact .err e0
   ·refine .sol (by simp) (by omega) (by omega) (by omega) (by omega) g1 g2 g3 g4 g6 (yB hst') fun e0=>?_
    obtain⟨p1,p2,p3,p4⟩:=g7 e0
    refine⟨fun x hx=>?_,fun r hr=>?_⟩
    ·rw[p2]at hx
     obtain⟨z,hz,rfl⟩:=List.mem_map.1 hx
     exact p3 z hz
    rw[htd]
    exact .sol hv g5 g6 p3 p4 (by rw[←p2,←p1];exact hr)
  refine(zGj l l _ _ _ _ _ hcl hco q8 _ _ _ xE q13 so q15 q16 q17 xC 0 r10.1).bind fun r20 h20=>(zGj l l _ _ _ _ _ hcl hco q8 _ _ _ xE q13 so q15 q16 q17 xC 0 r15.1).bind fun r22 h22=>zN.ite (fun hp=>zN.ite (fun _=>zN.ret (.err (by decide))) fun _=>?_) fun _=>zN.ite (fun hp=>?_) fun _=>?_
  ·obtain⟨v1,v2,v3⟩:=h20 (of_decide_eq_true hp)
   refine(i6 hE (L-1-k-j) (U+1+k+j) c q8 (q9-1) (q10+1) (yZ-1) xE q13 so q15 q16 q17 xC r20 r15.1 (by omega) (by omega) hok8 hso hso2 hsok (by omega) hcl hco sb).bind fun x hx=>?_
   have:=fin r20 r15.1 ⟨r10.1,r15.1,k,j,hbr,hbs,v3,.inl ⟨v1,v2,rfl⟩⟩ sb x hx
   rcases x with y|y|y<;>exact zN.ret this
  ·obtain⟨v1,v2,v3⟩:=h22 (of_decide_eq_true hp)
   refine(i6 hE (L-1-k-j) (U+1+k+j) c q8 (q9-1) (q10+1) (yZ-1) xE q13 so q15 q16 q17 xC r22 r10.1 (by omega) (by omega) hok8 hso hso2 hsok (by omega) hcl hco sa).bind fun x hx=>?_
   have:=fin r22 r10.1 ⟨r10.1,r15.1,k,j,hbr,hbs,v3,.inr ⟨v1,v2,rfl⟩⟩ sa x hx
   rcases x with y|y|y<;>exact zN.ret this
  ·refine(zID hE he hl hc sa sb (L-1-k-j) (U+1+k+j) c q8 (q9-1) (q10+1) (yZ-1) xE q13 so q15 q16 q17 xC (by omega) (by omega) (by omega) (by omega) h8 (by omega)).bind fun x hx=>?_
   rcases hx with⟨e,fl,fu,e0,rfl⟩|⟨rfl,ca,cb,hn⟩|⟨fl,fu,f0,f1,f2,f3,rfl,ca,cb,hn,hp⟩
   ·exact zN.ret (.err e0)
   ·exact zN.ret (.no (by simp) ⟨by show (0:Int)≤L-1-k-j;omega,by show (0:Int)≤U+1+k+j;omega,by show L-1-k-j+(U+1+k+j)=L+U;omega⟩ (by rw[htd];exact .conf hbr hbs ca cb hn))
   ·refine zN.ret (.inj (fl:=fl) (fu:=fu) (by simp) f0 (by omega) f2 (by omega) ?_ (fun x hx=>?_) fun r hr=>?_)
    ·have:=rE r10.1 (zO sa).2.2
     have:=(zO sa).1
     unfold tD nM
     simp
     omega
    ·rcases List.mem_append.1 hx with hx|hx
     ·have hm:=I2 hx
      exact⟨xI sa (List.mem_of_mem_drop hm.1),xI sb (List.mem_of_mem_drop hm.2)⟩
     ·exact hrest x hx
    ·rw[htd]
     exact .inj hbr hbs ca cb hn hp hr
 ·rw[if_neg hL]at h7
  subst h7
  exact zN.ite (fun _=>zN.ret (.err (by show (8:Int)≠0;decide))) fun h=>by cases h
def e97(qq:Nat)(M:wA)(p1:Tm):Option Bool:=
 zIA qq M>>=fun r1=>
 zCB qq p1 0 r1>>=fun r3=>
 some r3
theorem c97{qq M p1 r}(h:e97 qq M p1=some r):Ct 97 [mB M 1,mR M] [.mp 0 0,yY p1] (ab r) [mB M 1,mR M] 0:=⟨by
 unfold e97 at h
 obtain⟨r1,h2,h⟩:=zC h
 obtain⟨r3,h4,h⟩:=zC h
 obtain rfl:=sj h
 exact tF ⟨func97,rfl⟩ 0 [0,1] (sP M<|oC 0 [] (zET h4)<|oC 1 [0,1] (zWa h2) o0),⟨(lz rfl),⟨tv,tv,⟨tv,dT _⟩,tv⟩,tv⟩,(nW (lz rfl) zB),tv,(pW (lz rfl) zB)⟩
def A4:Nat->wA->xR->yM->yM->Int->Int->Int->qA->Option ((Unit) ⊕ (xR×qA×xR×sE×zZ×Int))
 |0,_,_,_,_,_,_,_,_=>none
 |qq+1,M,p1,p2,p3,fl,fu,v49,vX=>
 if decide (v49<(p2.length:Int))then
 zW p2 v49>>=fun x12=>
 e97 qq M x12>>=fun r14=>
 if r14 then
 zW p3 v49>>=fun x17=>
 e97 qq M x17>>=fun r19=>
 if r19 then
 xF 80 vX [(zM.mk x12 x17)]>>=fun l22=>
 A4 qq M p1 p2 p3 fl fu (xL (v49+1)) l22
 else
 some (.inl ())
 else
 some (.inl ())
 else
 some (.inr (p1,vX,([]:xR),([]:sE),([]:zZ),0))
def A5:Nat->wA->xR->yM->yM->Int->Int->Int->Option ((Unit) ⊕ (xR×qA×xR×sE×zZ×Int))
 |0,_,_,_,_,_,_,_=>none
 |qq+1,M,p1,p2,p3,fl,fu,v32=>
 if decide (v32<(p1.length:Int))then
 zW p1 v32>>=fun x6=>
 e97 qq M x6.type_>>=fun r8=>
 if r8 then
 A5 qq M p1 p2 p3 fl fu (xL (v32+1))
 else
 some (.inl ())
 else
 A4 qq M p1 p2 p3 fl fu 0 ([]:qA)
def e64(qq:Nat)(M:wA)(p1:xR)(p2 p3:yM)(fl fu:Int):Option ((Unit) ⊕ (xR×qA×xR×sE×zZ×Int)):=
 e96 qq p1>>=fun r1=>
 if r1 then
 if (p2.length:Int) != (p3.length:Int)then
 some (.inl ())
 else
 A5 qq M p1 p2 p3 fl fu 0
 else
 some (.inl ())
section
variable (M:wA) (p1:xR) (p2 p3:yM) (fl fu:Int)
abbrev zQL (C:Cf):Prop:=C 64 [mB M 1,mR M,.cells [ai fl,ai fu]] [.mp 0 0,zV zI p1 .no,zV zD p2 .no,zV zD p3 .no,.mp 2 0] (.tup [.val (.pointer none),ab false]) [mB M 1,mR M,.cells [ai fl,ai fu]] 0
abbrev zZS (r:xR×qA×xR×sE×zZ×Int) (C:Cf):Prop:=C 64 [mB M 1,mR M,.cells [ai fl,ai fu]] [.mp 0 0,zV zI p1 .no,zV zD p2 .no,zV zD p3 .no,.mp 2 0] (.tup [.mp 3 0,ab true]) [mB M 1,mR M,.cells [ai fl,ai fu],.cells [.mp 0 0,.mp 2 0,zV zI r.1 .no,.ms 4 0 r.2.1.length r.2.1.length 6,ab false,.ms 5 0 r.2.2.1.length r.2.2.1.length 4,.ms 6 0 r.2.2.2.1.length r.2.2.2.1.length 4,.ms 7 0 r.2.2.2.2.1.length r.2.2.2.2.1.length 1,ab false,ai r.2.2.2.2.2],.row (zG zP r.2.1),.row (zG zI r.2.2.1),.row (zG zQ r.2.2.2.1),.row (zG yC r.2.2.2.2.1)] 0
end
theorem q64:Qf 64 f64:=⟨func64,rfl⟩
theorem zQM{M p1 p2 p3 fl fu}(h:zQL M p1 p2 p3 fl fu Ci):zQL M p1 p2 p3 fl fu Ct:=⟨h,⟨(lz rfl),⟨tv,zF _⟩,⟨tv,dT _⟩,⟨tv,dT _⟩,(lz rfl),tv⟩,(nW (lz rfl) (zA ⟨tv,tv,tv⟩ zB)),⟨tv,tv,tv⟩,(pW (lz rfl) (zA ⟨tv,tv,tv⟩ zB))⟩
theorem zWF:∀qq:Nat,(∀ {M p1 p2 p3 fl fu v49 vX r},A4 qq M p1 p2 p3 fl fu v49 vX=some r->(∀j,dL 3 (pt 65461 f64) (sp j 88 0 [(0,.mp 0 0),(2,zV zD p2 .no),(3,zV zD p3 .no),(14,.mp 3 0),(48,ai (p2.length:Int)),(49,ai v49)]) (⟨[(0,mB M 1),(1,mR M),(2,.cells [ai fl,ai fu]),(3,.cells [.mp 0 0,.mp 2 0,zV zI p1 .no,.ms 4 0 vX.length vX.length 6,ab false,.ms 5 0 (List.length ([]:xR)) (List.length ([]:xR)) 4,.ms 6 0 (List.length ([]:sE)) (List.length ([]:sE)) 4,.ms 7 0 (List.length ([]:zZ)) (List.length ([]:zZ)) 1,ab false,ai 0]),(4,.row (zG zP vX)),(5,.row (zG zI ([]:xR))),(6,.row (zG zQ ([]:sE))),(7,.row (zG yC ([]:zZ)))],8,[],0,[]⟩) (fQ 3 ((match (generalizing:=false) r with | .inl x=>nQ 3 f64 (.tup [.val (.pointer none),ab false]) [mB M 1,mR M,.cells [ai fl,ai fu]] 0 | .inr x=>nQ 3 f64 (.tup [.mp 3 0,ab true]) [mB M 1,mR M,.cells [ai fl,ai fu],.cells [.mp 0 0,.mp 2 0,zV zI x.1 .no,.ms 4 0 x.2.1.length x.2.1.length 6,ab false,.ms 5 0 x.2.2.1.length x.2.2.1.length 4,.ms 6 0 x.2.2.2.1.length x.2.2.2.1.length 4,.ms 7 0 x.2.2.2.2.1.length x.2.2.2.2.1.length 1,ab false,ai x.2.2.2.2.2],.row (zG zP x.2.1),.row (zG zI x.2.2.1),.row (zG zQ x.2.2.2.1),.row (zG yC x.2.2.2.2.1)] 0)) [.blk 2,.seq (pt 1023 f64)]))):=by
 intro qq
 induction qq with
 |zero=>
  exact fun h=>nn h
 |succ qq ih=>
  intro M p1 p2 p3 fl fu v49 vX r h
  rw[A4]at h
  obtain⟨h11,h⟩|⟨h11,h⟩:=zU h
  obtain⟨x12,h13,h⟩:=zC h
  obtain⟨r14,h15,h⟩:=zC h
  have k:=oA 0 (xH (o:=.no) h13)<|oB 0 h11 o0
  obtain⟨h16,h⟩|⟨h16,h⟩:=zU h
  obtain⟨x17,h18,h⟩:=zC h
  obtain⟨r19,h20,h⟩:=zC h
  have k:=oA 1 (xH (o:=.no) h18)<|oK 1 [0,1] h16 (c97 h15) k
  obtain⟨h21,h⟩|⟨h21,h⟩:=zU h
  obtain⟨l22,h23,h⟩:=zC h
  exact fun j=>lH 2 [] [0,1,2,3,8,5,6,7] [] [0,2,3,14,48,49] (oD (dT p3)<|oD (dT p2)<|oD (dI ([]:zZ))<|oD (zK ([]:sE))<|oD (zF ([]:xR))<|oD (zL l22)<|oD (zF p1)<|sP M<|oM 2 (zNV h23 (by simp))<|oA 1 (xH (o:=.no) h18)<|oA 2 (xH (o:=.no) h13)<|oK 1 [0,1] h21 (c97 h20) k) (ih h)
  cases h
  exact fun j=>lF 1 [0,1,2] (sP M<|oK 1 [0,1] h21 (c97 h20) k)
  cases h
  exact fun j=>lF 1 [0,1,2] (sP M<|oK 1 [0,1] h16 (c97 h15) k)
  cases h
  exact fun j=>lF 0 [0,1,2,3,4,5,6,7] (oD (dI ([]:zZ))<|oD (zK ([]:sE))<|oD (zF ([]:xR))<|oD (zL vX)<|oD (zF p1)<|sP M<|oB 0 h11 o0)
theorem zQN:∀qq:Nat,(∀ {M p1 p2 p3 fl fu v32 r},A5 qq M p1 p2 p3 fl fu v32=some r->(∀j,dL 3 (pt 4021 f64) (sp j 88 0 [(0,.mp 0 0),(1,zV zI p1 .no),(2,zV zD p2 .no),(3,zV zD p3 .no),(4,.mp 2 0),(30,zV zI p1 .no),(31,ai (p1.length:Int)),(32,ai v32)]) (⟨[(0,mB M 1),(1,mR M),(2,.cells [ai fl,ai fu])],3,[],0,[]⟩) (fQ 3 ((match (generalizing:=false) r with | .inl x=>nQ 3 f64 (.tup [.val (.pointer none),ab false]) [mB M 1,mR M,.cells [ai fl,ai fu]] 0 | .inr x=>nQ 3 f64 (.tup [.mp 3 0,ab true]) [mB M 1,mR M,.cells [ai fl,ai fu],.cells [.mp 0 0,.mp 2 0,zV zI x.1 .no,.ms 4 0 x.2.1.length x.2.1.length 6,ab false,.ms 5 0 x.2.2.1.length x.2.2.1.length 4,.ms 6 0 x.2.2.2.1.length x.2.2.2.1.length 4,.ms 7 0 x.2.2.2.2.1.length x.2.2.2.2.1.length 1,ab false,ai x.2.2.2.2.2],.row (zG zP x.2.1),.row (zG zI x.2.2.1),.row (zG zQ x.2.2.2.1),.row (zG yC x.2.2.2.2.1)] 0)) [.blk 0,.seq (pt 63 f64)]))):=by
 intro qq
 induction qq with
 |zero=>
  exact fun h=>nn h
 |succ qq ih=>
  intro M p1 p2 p3 fl fu v32 r h
  rw[A5]at h
  obtain⟨h5,h⟩|⟨h5,h⟩:=zU h
  obtain⟨x6,h7,h⟩:=zC h
  obtain⟨r8,h9,h⟩:=zC h
  have k:=oA 0 (zCb (o:=.no) h7)<|oB 0 h5 o0
  obtain⟨h10,h⟩|⟨h10,h⟩:=zU h
  exact fun j=>lH 2 [] [0,1,2] [] [0,1,2,3,4,30,31,32] (oD (zF p1)<|oD (dT p3)<|oD (dT p2)<|oD (zF p1)<|sP M<|oK 3 [0,1] h10 (c97 h9) k) (ih h)
  cases h
  exact fun j=>lF 1 [0,1,2] (sP M<|oK 3 [0,1] h10 (c97 h9) k)
  exact fun j=>lH 1 [(some 3,3,4102),(some 3,5,4100),(some 3,6,4100),(some 3,7,4097)] [0,1,2,3,4,5,6,7] [] [0,2,3,14,48,49] (oD (dT p3)<|oD (dT p2)<|oD (dI ([]:zZ))<|oD (zK ([]:sE))<|oD (zF ([]:xR))<|oD (zL ([]:qA))<|oD (zF p1)<|sP M<|oB 0 h5 o0) (zWF _ h)
theorem c64{qq M p1 p2 p3 fl fu r}(h:e64 qq M p1 p2 p3 fl fu=some r):(match (generalizing:=false) r with | .inl x=>zQL M p1 p2 p3 fl fu Ct | .inr x=>zZS M p1 p2 p3 fl fu x Ct):=by
 unfold e64 at h
 have z {os ob} (k:Oz os ob):=oD (zF p1)<|oD (dT p3)<|oD (dT p2)<|oD (zF p1)<|sP M<|k
 obtain⟨r1,h2,h⟩:=zC h
 obtain⟨h3,h⟩|⟨h3,h⟩:=zU h
 have k:=oK 1 [] h3 (c96 h2) o0
 obtain⟨h4,h⟩|⟨h4,h⟩:=zU h
 cases h
 exact zQM (tF q64 0 [0,1,2] (sP M<|oB 3 h4 k))
 rcases r with y0|y1
 exact zQM (tH q64 1 [] [0,1,2] [] [0,1,2,3,4,30,31,32] (z<|oB 3 h4 k) (zQN _ h))
 exact⟨tH q64 1 [] [0,1,2] [] [0,1,2,3,4,30,31,32] (z<|oB 3 h4 k) (zQN _ h),⟨(lz rfl),⟨tv,zF _⟩,⟨tv,dT _⟩,⟨tv,dT _⟩,(lz rfl),tv⟩,(nW (lz rfl) (zA ⟨tv,tv,tv⟩ zB)),⟨(lz rfl),tv,tv⟩,(pW (lz rfl) (zA ⟨tv,tv,tv⟩ (zA ⟨(lz rfl),(lz rfl),zF _,(lz rfl),tv,(lz rfl),(lz rfl),(lz rfl),tv,tv,tv⟩ (zA (zL _) (zA (zF _) (zA (zK _) (zA (dI _) zB)))))))⟩
 cases h
 exact zQM (tF q64 1 [0,1,2] (sP M<|oK 1 [] h3 (c96 h2) o0))
theorem zAz(l:List yI)(t:Tm)(ht:t.Ok):zN (fun q=>e97 q (wW l) t) fun b=>b=true->uN l t:=by
 simp only[e97]
 have hLen:zJ (fun q=>zIA q (wW l)) (l.length:Int):=zJ.mk fun _=>rfl
 refine zN.bind (P:=fun k=>k=(l.length:Int)) (hLen.tot rfl) fun k hk=>?_
 subst hk
 exact zN.bind (P:=fun b=>b=rC t 0 l.length) ((eI t _ _ ht).tot rfl) fun b hb=>zN.ret fun h=>by
  rw[hb]at h;exact h
theorem zAy(l:List yI)(c:List zR)(A B:List Tm)(hA:∀x∈A,x.Ok)(hB:∀x∈B,x.Ok)(hn:A.length=B.length)(hl:A.length≤1048576)(fl fu:Int):∀(k v:Nat) (td:List zM),v+k=A.length->td=(tD A B).take v->(∀e∈td,uN l e.a_∧uN l e.b_) ->
  zN (fun q=>A4 q (wW l) c A B fl fu (v:Int) td) fun x=>∀y,x = .inr y->y=(c,tD A B,[],[],[],0)∧∀e∈tD A B,uN l e.a_∧uN l e.b_
 |0,v,td,hv,ht,hm=>by
  have hz:(tD A B).length=A.length:=by unfold tD;rw[List.length_zipWith];omega
  have e:td=tD A B:=by rw[ht,List.take_of_length_le (by omega)]
  refine zN.succ ?_
  simp only[A4]
  refine zN.ite (fun h=>absurd (of_decide_eq_true h) (by omega)) fun _=>zN.ret fun y hy=>?_
  cases hy
  exact⟨by rw[e],by rw[←e];exact hm⟩
 |k+1,v,td,hv,ht,hm=>by
  have hva:v<A.length:=by omega
  obtain⟨x,hx⟩:∃x,A[v]? = some x:=⟨_,List.getElem?_eq_getElem hva⟩
  obtain⟨y,hy⟩:∃y,B[v]? = some y:=⟨_,List.getElem?_eq_getElem (by omega)⟩
  have htl:td.length≤1048576:=by rw[ht,List.length_take];omega
  refine zN.succ ?_
  simp only[A4]
  refine zN.ite (fun _=>zN.pure (sH hx) ((zAz l x (hA x (List.mem_of_getElem? hx))).bind fun b hb=>zN.ite (fun h1=>zN.pure (sH hy) ((zAz l y (hB y (List.mem_of_getElem? hy))).bind fun b2 hb2=>zN.ite (fun h2=>zN.pure (yK (by simp;omega)) ?_) fun _=>zN.ret fun z hz=>by cases hz)) fun _=>zN.ret fun z hz=>by cases hz)) fun h=>absurd (of_decide_eq_false h) (by omega)
  rw[yA v (by omega)]
  refine zAy l c A B hA hB hn hl fl fu k (v+1) _ (by omega) (by rw[d9 hx hy,ht]) fun e he=>?_
  rcases List.mem_append.1 he with he|he
  ·exact hm e he
  ·rw[List.mem_singleton.1 he];exact⟨hb h1,hb2 h2⟩
theorem zAx(l:List yI)(c:List zR)(A B:List Tm)(hA:∀x∈A,x.Ok)(hB:∀x∈B,x.Ok)(hn:A.length=B.length)(hl:A.length≤1048576)(hcl:c.length≤1048576)(hco:∀v∈c,v.type_.Ok)(fl fu:Int):∀(r:List zR) (v:Nat),c.drop v=r->(∀w∈c.take v,uN l w.type_) ->
  zN (fun q=>A5 q (wW l) c A B fl fu (v:Int)) fun x=>∀y,x = .inr y->(y=(c,tD A B,[],[],[],0)∧∀e∈tD A B,uN l e.a_∧uN l e.b_)∧∀w∈c,uN l w.type_
 | [],v,hd,hm=>by
  refine zN.succ ?_
  simp only[A5]
  refine zN.ite (fun h=>?_) fun _=>(zAy l c A B hA hB hn hl fl fu A.length 0 [] (by omega) rfl (fun e he=>by simp at he)).mono fun x hx y hy=>⟨hx y hy,fun w hw=>hm w ?_⟩
  ·rw[yH hd]at h;cases h
  ·rwa[List.take_of_length_le (List.drop_eq_nil_iff.1 hd)]
 |x::r,v,hd,hm=>by
  have hlt:=yL hd
  have hx:x∈c:=List.mem_of_mem_drop (by rw[hd];simp)
  refine zN.succ ?_
  simp only[A5]
  refine zN.ite (fun _=>zN.pure (yD hd) ((zAz l x.type_ (hco x hx)).bind fun b hb=>zN.ite (fun h1=>?_) fun _=>zN.ret fun z hz=>by cases hz)) fun h=>?_
  ·rw[yA v (by omega)]
   refine zAx l c A B hA hB hn hl hcl hco fl fu r (v+1) (zY hd) fun w hw=>?_
   rw[oX hd]at hw
   rcases List.mem_append.1 hw with hw|hw
   ·exact hm w hw
   ·rw[List.mem_singleton.1 hw];exact hb h1
  ·rw[yG hd]at h;cases h
theorem zIE(l:List yI)(c:List zR)(A B:List Tm)(hA:∀x∈A,x.Ok)(hB:∀x∈B,x.Ok)(hl:A.length≤1048576)(hcl:c.length≤1048576)(hco:∀v∈c,v.type_.Ok)(fl fu:Int) :
  zN (fun q=>e64 q (wW l) c A B fl fu) fun x=>∀y,x = .inr y->zFU c∧A.length=B.length∧(y=(c,tD A B,[],[],[],0)∧∀e∈tD A B,uN l e.a_∧uN l e.b_)∧∀w∈c,uN l w.type_:=by
 simp only[e64]
 refine(bP (by omega) hco).bind fun b hb=>zN.ite (fun h1=>zN.ite (fun _=>zN.ret fun z hz=>by cases hz) fun h2=>?_) fun _=>zN.ret fun z hz=>by cases hz
 have hn:A.length=B.length:=by have:=(by simpa using h2:(A.length:Int)=B.length);omega
 exact(zAx l c A B hA hB hn hl hcl hco fl fu c 0 rfl (fun w hw=>by simp at hw)).mono fun x hx y hy=>⟨hb h1,hn,hx y hy⟩
def A6:Nat->wA->zZ->Int->Int->xR->Nat->Nat->Nat->Nat->Nat->Bool->Int->qA->xR->Int->sE->Option ((yR×Int×Int×Int) ⊕ ((zZ×xR×sE×Int×Int×Int) ⊕ (xR×sE×zZ×Nat×Int×Int×Int)))
 |0,_,_,_,_,_,_,_,_,_,_,_,_,_,_,_,_=>none
 |qq+1,M,xY,wK,vS,wJ,uS,uE,uT,vD,wV,rT,sN,wX,tP,v109,J4=>
 if decide (v109<(wV:Int))then
 iM wV v109>>=fun x28=>
 zW J4 (x28:Int)>>=fun x30=>
 e53 qq x30.t_>>=fun r32=>
 zW J4 (x28:Int)>>=fun x34=>
 N5 J4 x28 (zS.mk x34.n_ r32)>>=fun l36=>
 A6 qq M xY wK vS wJ uS uE uT vD wV rT sN wX tP (xL (v109+1)) l36
 else
 gfz tP.length tP>>=fun l38=>
 gfz wV J4>>=fun l40=>
 gfz xY.length xY>>=fun l42=>
 some (.inr (.inr (l38,l40,l42,vD,0,wK,vS)))
def dG:Nat->wA->sE->zZ->Int->Int->xR->Nat->Nat->Nat->Nat->Nat->Bool->Int->qA->Int->xR->Option ((yR×Int×Int×Int) ⊕ ((zZ×xR×sE×Int×Int×Int) ⊕ (xR×sE×zZ×Nat×Int×Int×Int)))
 |0,_,_,_,_,_,_,_,_,_,_,_,_,_,_,_,_=>none
 |qq+1,M,rU,xY,wK,vS,wJ,uS,uE,uT,vD,wV,rT,sN,wX,v81,tP=>
 if decide (v81<(wJ.length:Int))then
 zW wJ v81>>=fun x21=>
 e53 qq x21.type_>>=fun r23=>
 xF 48 tP [(zR.mk x21.n_ r23)]>>=fun l25=>
 dG qq M rU xY wK vS wJ uS uE uT vD wV rT sN wX (xL (v81+1)) l25
 else
 A6 qq M xY wK vS wJ uS uE uT vD wV rT sN wX tP 0 rU
def oZ:Nat->wA->(xR×qA×xR×sE×zZ×Int)->sE->zZ->Int->Int->xR->Nat->Nat->Nat->Nat->Nat->Bool->Int->qA->Option ((yR×Int×Int×Int) ⊕ ((zZ×xR×sE×Int×Int×Int) ⊕ (xR×sE×zZ×Nat×Int×Int×Int)))
 |0,_,_,_,_,_,_,_,_,_,_,_,_,_,_,_=>none
 |qq+1,M,y3,rU,xY,wK,vS,wJ,uS,uE,uT,vD,wV,rT,sN,wX=>
 if decide ((uE:Int)>0)then
 if sN==0 then
 if rT then
 if sN != 0 then
 some (.inl ((yR.mk false [] [] []),sN,wK,vS))
 else
 gfz xY.length xY>>=fun l8=>
 some (.inr (.inl (l8,[],[],0,wK,vS)))
 else
 J3 qq M.l M.rl M.parts M.args M.own wK vS wJ wX uE uT uS false y3.2.2.1 rU wV vD xY rT sN>>=fun r10=>
 match r10 with
 | .inl y12=>
  oZ qq M y3 y12.2.2.2.2.2.1 y12.2.2.2.2.2.2.2.2.1 y12.2.2.2.2.2.2.2.2.2.2.2.1 y12.2.2.2.2.2.2.2.2.2.2.2.2 y12.1 y12.2.2.2.2.1 y12.2.2.1 y12.2.2.2.1 y12.2.2.2.2.2.2.2.1 y12.2.2.2.2.2.2.1 y12.2.2.2.2.2.2.2.2.2.1 y12.2.2.2.2.2.2.2.2.2.2.1 y12.2.1
 | .inr (.inl y13)=>
  oZ qq M y3 y13.2.2.2.2.2.1 y13.2.2.2.2.2.2.2.2.1 y13.2.2.2.2.2.2.2.2.2.2.1 y13.2.2.2.2.2.2.2.2.2.2.2 y13.1 y13.2.2.2.2.1 y13.2.2.1 y13.2.2.2.1 y13.2.2.2.2.2.2.2.1 y13.2.2.2.2.2.2.1 true y13.2.2.2.2.2.2.2.2.2.1 y13.2.1
 | .inr (.inr (.inl y14))=>
  oZ qq M y3 y14.2.2.2.2.2.1 y14.2.2.2.2.2.2.1 y14.2.2.2.2.2.2.2.2.2.1 y14.2.2.2.2.2.2.2.2.2.2 y14.1 y14.2.2.2.2.1 y14.2.2.1 y14.2.2.2.1 y14.2.2.2.2.2.1.length y14.2.2.2.2.2.1.length y14.2.2.2.2.2.2.2.1 y14.2.2.2.2.2.2.2.2.1 y14.2.1
 | .inr (.inr (.inr y15))=>
  oZ qq M y3 y15.2.2.1 y15.2.2.2.2.2.1 y15.2.2.2.2.2.2.2.2.1 y15.2.2.2.2.2.2.2.2.2.1 y15.1 y15.2.1.length y15.2.1.length 0 y15.2.2.2.2.1 y15.2.2.2.1 y15.2.2.2.2.2.2.1 y15.2.2.2.2.2.2.2.1 y15.2.1
 else
 if sN != 0 then
 some (.inl ((yR.mk false [] [] []),sN,wK,vS))
 else
 if rT then
 gfz xY.length xY>>=fun l18=>
 some (.inr (.inl (l18,[],[],0,wK,vS)))
 else
 dG qq M rU xY wK vS wJ uS uE uT vD wV rT sN wX 0 y3.2.2.1
 else
 if sN != 0 then
 some (.inl ((yR.mk false [] [] []),sN,wK,vS))
 else
 if rT then
 gfz xY.length xY>>=fun l22=>
 some (.inr (.inl (l22,[],[],0,wK,vS)))
 else
 dG qq M rU xY wK vS wJ uS uE uT vD wV rT sN wX 0 y3.2.2.1
def e34(qq:Nat)(M:wA)(p1:xR)(p2 p3:yM)(fl fu:Int):Option ((yR×Int×Int×Int) ⊕ ((zZ×xR×sE×Int×Int×Int) ⊕ (xR×sE×zZ×Nat×Int×Int×Int))):=
 e64 qq M p1 p2 p3 fl fu>>=fun r1=>
 match r1 with
 | .inl y4=>
  some (.inl ((yR.mk false [] [] []),5,fl,fu))
 | .inr y3=>
  oZ qq M y3 y3.2.2.2.1 y3.2.2.2.2.1 fl fu y3.1 y3.2.1.length y3.2.1.length 0 y3.2.2.2.1.length y3.2.2.2.1.length false y3.2.2.2.2.2 y3.2.1
section
variable (M:wA) (p1:xR) (p2 p3:yM) (fl fu:Int)
abbrev zQO (r:yR×Int×Int×Int) (C:Cf):Prop:=C 34 [mB M 1,mR M,.cells [ai fl,ai fu]] [.mp 0 0,zV zI p1 .no,zV zD p2 .no,zV zD p3 .no,.mp 2 0] (.tup [vJ r.1,ai r.2.1]) [mB M 1,mR M,.cells [ai r.2.2.1,ai r.2.2.2]] 0
abbrev zZT (r:zZ×xR×sE×Int×Int×Int) (C:Cf):Prop:=C 34 [mB M 1,mR M,.cells [ai fl,ai fu]] [.mp 0 0,zV zI p1 .no,zV zD p2 .no,zV zD p3 .no,.mp 2 0] (.tup [.agg [ab false,zV zI r.2.1 .no,zV zQ r.2.2.1 .no,.ms 3 0 r.1.length r.1.length 1],ai r.2.2.2.1]) [mB M 1,mR M,.cells [ai r.2.2.2.2.1,ai r.2.2.2.2.2],.row (zG yC r.1)] 0
abbrev zZU (r:xR×sE×zZ×Nat×Int×Int×Int) (C:Cf):Prop:=C 34 [mB M 1,mR M,.cells [ai fl,ai fu]] [.mp 0 0,zV zI p1 .no,zV zD p2 .no,zV zD p3 .no,.mp 2 0] (.tup [.agg [ab true,.ms 3 0 r.1.length r.1.length 4,.ms 4 0 r.2.1.length r.2.2.2.1 4,.ms 5 0 r.2.2.1.length r.2.2.1.length 1],ai r.2.2.2.2.1]) [mB M 1,mR M,.cells [ai r.2.2.2.2.2.1,ai r.2.2.2.2.2.2],.row (zG zI r.1),.row (zG zQ r.2.1),.row (zG yC r.2.2.1)] 0
end
theorem q34:Qf 34 Tryz.f34:=⟨func34,rfl⟩
theorem zUE{M p1 p2 p3 fl fu r}(h:zQO M p1 p2 p3 fl fu r Ci):zQO M p1 p2 p3 fl fu r Ct:=⟨h,⟨(lz rfl),⟨tv,zF _⟩,⟨tv,dT _⟩,⟨tv,dT _⟩,(lz rfl),tv⟩,(nW (lz rfl) (zA ⟨tv,tv,tv⟩ zB)),⟨⟨tv,zF _,zK _,dI _,tv⟩,tv,tv⟩,(pW (lz rfl) (zA ⟨tv,tv,tv⟩ zB))⟩
theorem zWH:∀qq:Nat,(∀ {M xY wK vS wJ uS uE uT vD wV rT sN wX tP v109 J4 r},A6 qq M xY wK vS wJ uS uE uT vD wV rT sN wX tP v109 J4=some r->(∀j,dL 3 (pt 16777141 Tryz.f34) (sp j 130 0 [(10,.mp 3 0),(12,.mp 4 0),(107,.ms 5 0 wV vD 4),(108,ai (wV:Int)),(109,ai v109)]) (⟨[(0,mB M 1),(1,mR M),(2,.cells [ai wK,ai vS]),(3,.cells [ab false,.ms 6 0 (List.length ([]:xR)) (List.length ([]:xR)) 4,.ms 7 0 (List.length ([]:sE)) (List.length ([]:sE)) 4,.ms 8 0 (List.length ([]:zZ)) (List.length ([]:zZ)) 1]),(4,.cells [.mp 0 0,.mp 2 0,zV zI wJ .no,.ms 9 (uT*6) uE uS 6,ab true,.ms 10 0 tP.length tP.length 4,.ms 5 0 wV vD 4,.ms 11 0 xY.length xY.length 1,ab rT,ai sN]),(5,.row (zG zQ J4)),(6,.row (zG zI ([]:xR))),(7,.row (zG zQ ([]:sE))),(8,.row (zG yC ([]:zZ))),(9,.row (zG zP wX)),(10,.row (zG zI tP)),(11,.row (zG yC xY))],12,[],0,[]⟩) (fQ 3 ((match (generalizing:=false) r with | .inl x=>nQ 3 Tryz.f34 (.tup [vJ x.1,ai x.2.1]) [mB M 1,mR M,.cells [ai x.2.2.1,ai x.2.2.2]] 0 | .inr (.inl x)=>nQ 3 Tryz.f34 (.tup [.agg [ab false,zV zI x.2.1 .no,zV zQ x.2.2.1 .no,.ms 3 0 x.1.length x.1.length 1],ai x.2.2.2.1]) [mB M 1,mR M,.cells [ai x.2.2.2.2.1,ai x.2.2.2.2.2],.row (zG yC x.1)] 0 | .inr (.inr x)=>nQ 3 Tryz.f34 (.tup [.agg [ab true,.ms 3 0 x.1.length x.1.length 4,.ms 4 0 x.2.1.length x.2.2.2.1 4,.ms 5 0 x.2.2.1.length x.2.2.1.length 1],ai x.2.2.2.2.1]) [mB M 1,mR M,.cells [ai x.2.2.2.2.2.1,ai x.2.2.2.2.2.2],.row (zG zI x.1),.row (zG zQ x.2.1),.row (zG yC x.2.2.1)] 0)) [.blk 4,.seq (pt 262143 Tryz.f34)]))):=by
 intro qq
 induction qq with
 |zero=>
  exact fun h=>nn h
 |succ qq ih=>
  intro M xY wK vS wJ uS uE uT vD wV rT sN wX tP v109 J4 r h
  rw[A6]at h
  obtain⟨h27,h⟩|⟨h27,h⟩:=zU h
  obtain⟨x28,h29,h⟩:=zC h
  obtain⟨x30,h31,h⟩:=zC h
  obtain⟨r32,h33,h⟩:=zC h
  obtain⟨x34,h35,h⟩:=zC h
  obtain⟨l36,h37,h⟩:=zC h
  exact fun j=>lH 1 [] [0,1,2,3,4,5,6,7,8,9,10,11] [] [10,12,107,108,109] (oD (dI xY)<|oD (zF tP)<|oD (zL wX)<|oD (dI ([]:zZ))<|oD (zK ([]:sE))<|oD (zF ([]:xR))<|oD (zK l36)<|oD (zF wJ)<|sP M<|oW 0 (wtF (x':=(zS.mk x34.n_ r32)) vZ h35 h37 1 3 (.agg [ai r32.k,ai r32.n,zV zD r32.sub .no]) rfl rfl (by decide) rfl)<|oA 0 (zJo (b:=5) (c:=vD) (z:=4) h29)<|oC 1 [] (c53 h33)<|aH 1<|oG (a:=(.agg [ai x30.n_,ai x30.t_.k,ai x30.t_.n,zV zD x30.t_.sub .no])) 0 (ldE vZ h31 (true,4) (val:=.agg [ai x30.n_,ai x30.t_.k,ai x30.t_.n,zV zD x30.t_.sub .no]) rfl)<|oA 0 (zJo (b:=5) (c:=vD) (z:=4) h29)<|oB 0 h27 o0) (ih h)
  obtain⟨l38,h39,h⟩:=zC h
  obtain⟨h39a,h39b⟩:=nH h39
  obtain⟨l40,h41,h⟩:=zC h
  obtain⟨h41a,h41b⟩:=nH h41
  obtain⟨l42,h43,h⟩:=zC h
  obtain⟨h43a,h43b⟩:=nH h43
  cases h
  obtain rfl:=h39a.symm
  obtain rfl:=h41a.symm
  obtain rfl:=h43a.symm
  dsimp only
  rw[←h39b,←h41b,←h43b]
  exact fun j=>lF 2 [0,1,2,10,5,11] (oD (dI xY)<|oD (zK J4)<|oD (zF tP)<|sP M<|oB 0 h27 o0)
theorem zQP:∀qq:Nat,(∀ {M rU xY wK vS wJ uS uE uT vD wV rT sN wX v81 tP r},dG qq M rU xY wK vS wJ uS uE uT vD wV rT sN wX v81 tP=some r->(∀j,dL 3 (pt 4194229 Tryz.f34) (sp j 130 0 [(10,.mp 3 0),(12,.mp 4 0),(79,zV zI wJ .no),(80,ai (wJ.length:Int)),(81,ai v81)]) (⟨[(0,mB M 1),(1,mR M),(2,.cells [ai wK,ai vS]),(3,.cells [ab false,.ms 5 0 (List.length ([]:xR)) (List.length ([]:xR)) 4,.ms 6 0 (List.length ([]:sE)) (List.length ([]:sE)) 4,.ms 7 0 (List.length ([]:zZ)) (List.length ([]:zZ)) 1]),(4,.cells [.mp 0 0,.mp 2 0,zV zI wJ .no,.ms 8 (uT*6) uE uS 6,ab true,.ms 9 0 tP.length tP.length 4,.ms 10 0 wV vD 4,.ms 11 0 xY.length xY.length 1,ab rT,ai sN]),(5,.row (zG zI ([]:xR))),(6,.row (zG zQ ([]:sE))),(7,.row (zG yC ([]:zZ))),(8,.row (zG zP wX)),(9,.row (zG zI tP)),(10,.row (zG zQ rU)),(11,.row (zG yC xY))],12,[],0,[]⟩) (fQ 3 ((match (generalizing:=false) r with | .inl x=>nQ 3 Tryz.f34 (.tup [vJ x.1,ai x.2.1]) [mB M 1,mR M,.cells [ai x.2.2.1,ai x.2.2.2]] 0 | .inr (.inl x)=>nQ 3 Tryz.f34 (.tup [.agg [ab false,zV zI x.2.1 .no,zV zQ x.2.2.1 .no,.ms 3 0 x.1.length x.1.length 1],ai x.2.2.2.1]) [mB M 1,mR M,.cells [ai x.2.2.2.2.1,ai x.2.2.2.2.2],.row (zG yC x.1)] 0 | .inr (.inr x)=>nQ 3 Tryz.f34 (.tup [.agg [ab true,.ms 3 0 x.1.length x.1.length 4,.ms 4 0 x.2.1.length x.2.2.2.1 4,.ms 5 0 x.2.2.1.length x.2.2.1.length 1],ai x.2.2.2.2.1]) [mB M 1,mR M,.cells [ai x.2.2.2.2.2.1,ai x.2.2.2.2.2.2],.row (zG zI x.1),.row (zG zQ x.2.1),.row (zG yC x.2.2.1)] 0)) [.blk 2,.seq (pt 65535 Tryz.f34)]))):=by
 intro qq
 induction qq with
 |zero=>
  exact fun h=>nn h
 |succ qq ih=>
  intro M rU xY wK vS wJ uS uE uT vD wV rT sN wX v81 tP r h
  rw[dG]at h
  obtain⟨h20,h⟩|⟨h20,h⟩:=zU h
  obtain⟨x21,h22,h⟩:=zC h
  obtain⟨r23,h24,h⟩:=zC h
  obtain⟨l25,h26,h⟩:=zC h
  exact fun j=>lH 2 [] [0,1,2,3,4,5,6,7,8,13,10,11] [] [10,12,79,80,81] (oD (zF wJ)<|oD (dI xY)<|oD (zK rU)<|oD (zF l25)<|oD (zL wX)<|oD (dI ([]:zZ))<|oD (zK ([]:sE))<|oD (zF ([]:xR))<|oD (zF wJ)<|sP M<|oM 1 (zXW h26 (by simp))<|oC 1 [] (c53 h24)<|aH 0<|aH 2<|oA 0 (zCb (o:=.no) h22)<|oB 0 h20 o0) (ih h)
  exact fun j=>lH 2 [] [0,1,2,3,4,10,5,6,7,8,9,11] [] [10,12,107,108,109] (oD (dI xY)<|oD (zF tP)<|oD (zL wX)<|oD (dI ([]:zZ))<|oD (zK ([]:sE))<|oD (zF ([]:xR))<|oD (zK rU)<|oD (zF wJ)<|sP M<|oB 0 h20 o0) (zWH _ h)
theorem zIF:∀qq:Nat,(∀ {M y3 rU xY wK vS wJ uS uE uT vD wV rT sN wX r},oZ qq M y3 rU xY wK vS wJ uS uE uT vD wV rT sN wX=some r->(∀j,dL 3 (pt 4069 Tryz.f34) (sp j 130 0 [(10,.mp 3 0),(12,.mp 4 0)]) (⟨[(0,mB M 1),(1,mR M),(2,.cells [ai wK,ai vS]),(3,.cells [ab false,.ms 5 0 (List.length ([]:xR)) (List.length ([]:xR)) 4,.ms 6 0 (List.length ([]:sE)) (List.length ([]:sE)) 4,.ms 7 0 (List.length ([]:zZ)) (List.length ([]:zZ)) 1]),(4,.cells [.mp 0 0,.mp 2 0,zV zI wJ .no,.ms 8 (uT*6) uE uS 6,ab false,.ms 9 0 y3.2.2.1.length y3.2.2.1.length 4,.ms 10 0 wV vD 4,.ms 11 0 xY.length xY.length 1,ab rT,ai sN]),(5,.row (zG zI ([]:xR))),(6,.row (zG zQ ([]:sE))),(7,.row (zG yC ([]:zZ))),(8,.row (zG zP wX)),(9,.row (zG zI y3.2.2.1)),(10,.row (zG zQ rU)),(11,.row (zG yC xY))],12,[],0,[]⟩) (fQ 3 ((match (generalizing:=false) r with | .inl x=>nQ 3 Tryz.f34 (.tup [vJ x.1,ai x.2.1]) [mB M 1,mR M,.cells [ai x.2.2.1,ai x.2.2.2]] 0 | .inr (.inl x)=>nQ 3 Tryz.f34 (.tup [.agg [ab false,zV zI x.2.1 .no,zV zQ x.2.2.1 .no,.ms 3 0 x.1.length x.1.length 1],ai x.2.2.2.1]) [mB M 1,mR M,.cells [ai x.2.2.2.2.1,ai x.2.2.2.2.2],.row (zG yC x.1)] 0 | .inr (.inr x)=>nQ 3 Tryz.f34 (.tup [.agg [ab true,.ms 3 0 x.1.length x.1.length 4,.ms 4 0 x.2.1.length x.2.2.2.1 4,.ms 5 0 x.2.2.1.length x.2.2.1.length 1],ai x.2.2.2.2.1]) [mB M 1,mR M,.cells [ai x.2.2.2.2.2.1,ai x.2.2.2.2.2.2],.row (zG zI x.1),.row (zG zQ x.2.1),.row (zG yC x.2.2.1)] 0)) [.blk 0,.seq (pt 255 Tryz.f34)]))):=by
 intro qq
 induction qq with
 |zero=>
  exact fun h=>nn h
 |succ qq ih=>
  intro M y3 rU xY wK vS wJ uS uE uT vD wV rT sN wX r h
  rw[oZ]at h
  have z {os ob} (k:Oz os ob):=oD (zF wJ)<|oD (dI xY)<|oD (zK rU)<|oD (zF y3.2.2.1)<|oD (zL wX)<|oD (dI ([]:zZ))<|oD (zK ([]:sE))<|oD (zF ([]:xR))<|oD (zF wJ)<|sP M<|k
  have z1 {os ob} (k:Oz os ob):=oD (dI ([]:zZ))<|oD (zK ([]:sE))<|oD (zF ([]:xR))<|sP M<|k
  have z2 {os ob} (k:Oz os ob):=oD (zK ([]:sE))<|oD (zF ([]:xR))<|oD (dI xY)<|sP M<|k
  obtain⟨h4,h⟩|⟨h4,h⟩:=zU h
  have k:=oB 2 h4 o0
  obtain⟨h5,h⟩|⟨h5,h⟩:=zU h
  have k:=oB 1 h5 k
  obtain⟨h6,h⟩|⟨h6,h⟩:=zU h
  have k:=oB 0 h6 k
  obtain⟨h7,h⟩|⟨h7,h⟩:=zU h
  cases h
  exact fun j=>lF 2 [0,1,2] (z1<|oB 2 h7 k)
  obtain⟨l8,h9,h⟩:=zC h
  obtain⟨h9a,h9b⟩:=nH h9
  cases h
  obtain rfl:=h9a.symm
  dsimp only
  rw[←h9b]
  exact fun j=>lF 2 [0,1,2,11] (z2<|oB 0 h6<|oB 2 h7 k)
  obtain⟨r10,h11,h⟩:=zC h
  have k:=oB 0 h6 k
  rcases r10 with y12 | (y13 | (y14|y15))
  dsimp only at h
  exact fun j=>lH 0 [] [0,1,2,3,4,5,6,7,8,9,12,13] [] [10,12] (oD (dI y12.2.2.2.2.2.2.2.2.1)<|oD (zK y12.2.2.2.2.2.1)<|oD (zF y3.2.2.1)<|oD (zL y12.2.1)<|oD (dI ([]:zZ))<|oD (zK ([]:sE))<|oD (zF ([]:xR))<|oD (zF y12.1)<|sP M<|oC 1 [4,0,1,2,8,9,10,11] (W7 h11) k) (ih h)
  dsimp only at h
  exact fun j=>lH 0 [] [0,1,2,3,4,5,6,7,8,9,12,13] [] [10,12] (oD (dI y13.2.2.2.2.2.2.2.2.1)<|oD (zK y13.2.2.2.2.2.1)<|oD (zF y3.2.2.1)<|oD (zL y13.2.1)<|oD (dI ([]:zZ))<|oD (zK ([]:sE))<|oD (zF ([]:xR))<|oD (zF y13.1)<|sP M<|oC 1 [4,0,1,2,8,9,10,11] (W7 h11) k) (ih h)
  dsimp only at h
  exact fun j=>lH 0 [] [0,1,2,3,4,5,6,7,8,9,12,13] [] [10,12] (oD (dI y14.2.2.2.2.2.2.1)<|oD (zK y14.2.2.2.2.2.1)<|oD (zF y3.2.2.1)<|oD (zL y14.2.1)<|oD (dI ([]:zZ))<|oD (zK ([]:sE))<|oD (zF ([]:xR))<|oD (zF y14.1)<|sP M<|oC 1 [4,0,1,2,8,9,10,11] (W7 h11) k) (ih h)
  dsimp only at h
  exact fun j=>lH 0 [] [0,1,2,3,4,5,6,7,12,9,13,14] [] [10,12] (oD (dI y15.2.2.2.2.2.1)<|oD (zK y15.2.2.1)<|oD (zF y3.2.2.1)<|oD (zL y15.2.1)<|oD (dI ([]:zZ))<|oD (zK ([]:sE))<|oD (zF ([]:xR))<|oD (zF y15.1)<|sP M<|oC 1 [4,0,1,2,8,9,10,11] (W7 h11) k) (ih h)
  have k:=oB 1 h5 k
  obtain⟨h16,h⟩|⟨h16,h⟩:=zU h
  cases h
  exact fun j=>lF 2 [0,1,2] (z1<|oB 1 h16 k)
  have k:=oB 1 h16 k
  obtain⟨h17,h⟩|⟨h17,h⟩:=zU h
  obtain⟨l18,h19,h⟩:=zC h
  obtain⟨h19a,h19b⟩:=nH h19
  cases h
  obtain rfl:=h19a.symm
  dsimp only
  rw[←h19b]
  exact fun j=>lF 2 [0,1,2,11] (z2<|oB 0 h17 k)
  exact fun j=>lH 3 [] [0,1,2,3,4,5,6,7,8,9,10,11] [] [10,12,79,80,81] (z<|oB 0 h17 k) (zQP _ h)
  have k:=oB 2 h4 o0
  obtain⟨h20,h⟩|⟨h20,h⟩:=zU h
  cases h
  exact fun j=>lF 2 [0,1,2] (z1<|oB 1 h20 k)
  have k:=oB 1 h20 k
  obtain⟨h21,h⟩|⟨h21,h⟩:=zU h
  obtain⟨l22,h23,h⟩:=zC h
  obtain⟨h23a,h23b⟩:=nH h23
  cases h
  obtain rfl:=h23a.symm
  dsimp only
  rw[←h23b]
  exact fun j=>lF 2 [0,1,2,11] (z2<|oB 0 h21 k)
  exact fun j=>lH 3 [] [0,1,2,3,4,5,6,7,8,9,10,11] [] [10,12,79,80,81] (z<|oB 0 h21 k) (zQP _ h)
theorem yCz{qq M p1 p2 p3 fl fu r}(h:e34 qq M p1 p2 p3 fl fu=some r):(match (generalizing:=false) r with | .inl x=>zQO M p1 p2 p3 fl fu x Ct | .inr (.inl x)=>zZT M p1 p2 p3 fl fu x Ct | .inr (.inr x)=>zZU M p1 p2 p3 fl fu x Ct):=by
 unfold e34 at h
 obtain⟨r1,h2,h⟩:=zC h
 rcases r1 with y4|y3
 dsimp only at h
 cases h
 exact zUE (tF q34 4 [0,1,2] (oD (dI ([]:zZ))<|oD (zK ([]:sE))<|oD (zF ([]:xR))<|sP M<|oC 0 [0,1,2] (c64 h2) o0))
 dsimp only at h
 rcases r with y0 | (y1|y2)
 exact zUE (tH q34 3 [(some 3,1,4100),(some 3,2,4100),(some 3,3,4097)] [0,1,2,3,4,9,10,11,5,6,7,8] [] [10,12] (oD (dI y3.2.2.2.2.1)<|oD (zK y3.2.2.2.1)<|oD (zF y3.2.2.1)<|oD (zL y3.2.1)<|oD (dI ([]:zZ))<|oD (zK ([]:sE))<|oD (zF ([]:xR))<|oD (zF y3.1)<|sP M<|oC 0 [0,1,2] (c64 h2) o0) (zIF _ h))
 exact⟨tH q34 3 [(some 3,1,4100),(some 3,2,4100),(some 3,3,4097)] [0,1,2,3,4,9,10,11,5,6,7,8] [] [10,12] (oD (dI y3.2.2.2.2.1)<|oD (zK y3.2.2.2.1)<|oD (zF y3.2.2.1)<|oD (zL y3.2.1)<|oD (dI ([]:zZ))<|oD (zK ([]:sE))<|oD (zF ([]:xR))<|oD (zF y3.1)<|sP M<|oC 0 [0,1,2] (c64 h2) o0) (zIF _ h),⟨(lz rfl),⟨tv,zF _⟩,⟨tv,dT _⟩,⟨tv,dT _⟩,(lz rfl),tv⟩,(nW (lz rfl) (zA ⟨tv,tv,tv⟩ zB)),⟨⟨tv,zF _,zK _,(lz rfl),tv⟩,tv,tv⟩,(pW (lz rfl) (zA ⟨tv,tv,tv⟩ (zA (dI _) zB)))⟩
 exact⟨tH q34 3 [(some 3,1,4100),(some 3,2,4100),(some 3,3,4097)] [0,1,2,3,4,9,10,11,5,6,7,8] [] [10,12] (oD (dI y3.2.2.2.2.1)<|oD (zK y3.2.2.2.1)<|oD (zF y3.2.2.1)<|oD (zL y3.2.1)<|oD (dI ([]:zZ))<|oD (zK ([]:sE))<|oD (zF ([]:xR))<|oD (zF y3.1)<|sP M<|oC 0 [0,1,2] (c64 h2) o0) (zIF _ h),⟨(lz rfl),⟨tv,zF _⟩,⟨tv,dT _⟩,⟨tv,dT _⟩,(lz rfl),tv⟩,(nW (lz rfl) (zA ⟨tv,tv,tv⟩ zB)),⟨⟨tv,(lz rfl),(lz rfl),(lz rfl),tv⟩,tv,tv⟩,(pW (lz rfl) (zA ⟨tv,tv,tv⟩ (zA (zF _) (zA (zK _) (zA (dI _) zB)))))⟩
theorem c34{qq M p1 p2 p3 fl fu r}(h:e34 qq M p1 p2 p3 fl fu=some r):(match (generalizing:=false) r with | .inl x=>CT prog 34 [mB M 1,mR M,.cells [ai fl,ai fu]] [.mp 0 0,zV zI p1 .no,zV zD p2 .no,zV zD p3 .no,.mp 2 0] (.tup [vJ x.1,ai x.2.1]) [mB M 1,mR M,.cells [ai x.2.2.1,ai x.2.2.2]] 0 | .inr (.inl x)=>CT prog 34 [mB M 1,mR M,.cells [ai fl,ai fu]] [.mp 0 0,zV zI p1 .no,zV zD p2 .no,zV zD p3 .no,.mp 2 0] (.tup [vJ (yR.mk false x.2.1 x.2.2.1 x.1),ai x.2.2.2.1]) [mB M 1,mR M,.cells [ai x.2.2.2.2.1,ai x.2.2.2.2.2]] 0 | .inr (.inr x)=>CT prog 34 [mB M 1,mR M,.cells [ai fl,ai fu]] [.mp 0 0,zV zI p1 .no,zV zD p2 .no,zV zD p3 .no,.mp 2 0] (.tup [vJ (yR.mk true x.1 x.2.1 x.2.2.1),ai x.2.2.2.2.1]) [mB M 1,mR M,.cells [ai x.2.2.2.2.2.1,ai x.2.2.2.2.2.2]] 0):=by
 have k:=yCz h
 rcases r with y0 | (y1|y2)
 ·exact k
 ·exact CT.freeze (H1:=[mB M 1,mR M,.cells [ai y1.2.2.2.2.1,ai y1.2.2.2.2.2]]) (cs:=zG yC y1.1) (res':=(.tup [vJ (yR.mk false y1.2.1 y1.2.2.1 y1.1),ai y1.2.2.2.1])) k (Nat.le_of_ble_eq_true rfl) (pW (lz rfl) (zA ⟨tv,tv,tv⟩ zB)) (dI _) ⟨⟨trivial,zF _,zK _,(.inl ⟨rfl,rfl⟩),tv⟩,trivial,tv⟩ (by rfl) rfl
 ·replace k:=CT.freeze (H1:=[mB M 1,mR M,.cells [ai y2.2.2.2.2.2.1,ai y2.2.2.2.2.2.2],.row (zG zI y2.1),.row (zG zQ y2.2.1)]) (cs:=zG yC y2.2.2.1) (res':=(.tup [.agg [ab true,.ms 3 0 y2.1.length y2.1.length 4,.ms 4 0 y2.2.1.length y2.2.2.2.1 4,zV yC y2.2.2.1 .no],ai y2.2.2.2.2.1])) k (Nat.le_of_ble_eq_true rfl) (pW (lz rfl) (zA ⟨tv,tv,tv⟩ (zA (zF _) (zA (zK _) zB)))) (dI _) ⟨⟨trivial,(.inr (show 3<5 by decide)),(.inr (show 4<5 by decide)),(.inl ⟨rfl,rfl⟩),tv⟩,trivial,tv⟩ (by rfl) rfl;replace k:=CT.freeze (H1:=[mB M 1,mR M,.cells [ai y2.2.2.2.2.2.1,ai y2.2.2.2.2.2.2],.row (zG zI y2.1)]) (cs:=zG zQ y2.2.1) (res':=(.tup [.agg [ab true,.ms 3 0 y2.1.length y2.1.length 4,zV zQ y2.2.1 .no,zV yC y2.2.2.1 .no],ai y2.2.2.2.2.1])) k (Nat.le_of_ble_eq_true rfl) (pW (lz rfl) (zA ⟨tv,tv,tv⟩ (zA (zF _) zB))) (zK _) ⟨⟨trivial,(.inr (show 3<4 by decide)),(.inl ⟨rfl,rfl⟩),dI _,tv⟩,trivial,tv⟩ (by rfl) rfl;exact CT.freeze (H1:=[mB M 1,mR M,.cells [ai y2.2.2.2.2.2.1,ai y2.2.2.2.2.2.2]]) (cs:=zG zI y2.1) (res':=(.tup [vJ (yR.mk true y2.1 y2.2.1 y2.2.2.1),ai y2.2.2.2.2.1])) k (Nat.le_of_ble_eq_true rfl) (pW (lz rfl) (zA ⟨tv,tv,tv⟩ zB)) (zF _) ⟨⟨trivial,(.inl ⟨rfl,rfl⟩),zK _,dI _,tv⟩,trivial,tv⟩ (by rfl) rfl
abbrev SvT:=(yR×Int×Int×Int) ⊕ ((List Int×List zR×List zS×Int×Int×Int) ⊕ (List zR×List zS×List Int×Nat×Int×Int×Int))
inductive SvR (l:List yI) (c:List zR) (td:List zM) (so:List zS) (T:Int):SvT->Prop
 |err {a e fl fu}:e≠0->SvR l c td so T (.inl (a,e,fl,fu))
 |no {s fl fu}:0≤fl∧0≤fu∧fl+fu=T->Un l c td so none->SvR l c td so T (.inr (.inl (s,[],[],0,fl,fu)))
 |yes {c' so' s k fl fu}:0≤fl∧0≤fu∧fl+fu=T->Un l c td so (some (c',so'))->SvR l c td so T (.inr (.inr (c',so',s,k,0,fl,fu)))
theorem zKg(M:wA)(st:List Int)(L U:Int)(c:List zR)(a1 a2 a3 a4:Nat)(no:Bool)(e:Int)(q8:List zM)(vs:List zR)(so:List zS)(hl:so.length≤1048576)(hs:∀s∈so,zH s.t_=true):∀(k v:Nat),v+k=so.length->zN (fun q=>A6 q M st L U c a1 a2 a3 a4 so.length no e q8 vs (v:Int) so) fun x=>x = .inr (.inr (vs,so,st,a4,0,L,U))
 |0,v,hv=>by
  refine zN.succ ?_
  simp only[A6]
  refine zN.ite (fun h=>absurd (of_decide_eq_true h) (by omega)) fun _=>zN.pure (a:=vs) (by unfold gfz;rw[if_pos rfl]) (zN.pure (a:=so) (by unfold gfz;rw[if_pos rfl]) (zN.pure (a:=st) (by unfold gfz;rw[if_pos rfl]) (zN.ret rfl)))
 |k+1,v,hv=>by
  have hlt:v<so.length:=by omega
  obtain⟨x,hx⟩:∃x,so[v]? = some x:=⟨_,List.getElem?_eq_getElem hlt⟩
  have hsx:=hs x (List.mem_of_getElem? hx)
  refine zN.succ ?_
  simp only[A6]
  refine zN.ite (fun _=>zN.pure (lM hlt) (zN.pure (sH hx) (zN.bind (P:=fun t=>t=x.t_) ((qK x.t_ (yB hsx)).tot (by unfold lV;rw[if_pos hsx])) fun t ht=>zN.pure (sH hx) (zN.pure (a:=so) ?_ ?_)))) fun h=>absurd (of_decide_eq_false h) (by omega)
  ·subst ht
   obtain⟨h1,h2⟩:=List.getElem?_eq_some_iff.1 hx
   have:(zS.mk x.n_ x.t_)=so[v]:=by rw[h2]
   unfold N5
   rw[if_pos hlt,this,List.set_getElem_self]
  ·rw[yA v (by omega)]
   exact zKg M st L U c a1 a2 a3 a4 no e q8 vs so hl hs k (v+1) (by omega)
theorem zKf(M:wA)(st:List Int)(L U:Int)(c:List zR)(a1 a2 a3 a4:Nat)(no:Bool)(e:Int)(q8:List zM)(so:List zS)(hl:so.length≤1048576)(hs:∀s∈so,zH s.t_=true)(hcl:c.length≤524288)(hc:∀v∈c,zH v.type_=true):∀(r:List zR) (v:Nat) (vs:List zR),c.drop v=r->vs=c.take v->zN (fun q=>dG q M so st L U c a1 a2 a3 a4 so.length no e q8 (v:Int) vs) fun x=>x = .inr (.inr (c,so,st,a4,0,L,U))
 | [],v,vs,hd,hv=>by
  refine zN.succ ?_
  simp only[dG]
  refine zN.ite (fun h=>?_) fun _=>?_
  ·rw[yH hd]at h;cases h
  ·rw[hv,List.take_of_length_le (List.drop_eq_nil_iff.1 hd)]
   exact zKg M st L U c a1 a2 a3 a4 no e q8 c so hl hs so.length 0 (by omega)
 |x::r,v,vs,hd,hv=>by
  have hlt:=yL hd
  have hsx:=hc x (List.mem_of_mem_drop (by rw[hd];simp))
  refine zN.succ ?_
  simp only[dG]
  refine zN.ite (fun _=>zN.pure (yD hd) (zN.bind (P:=fun t=>t=x.type_) ((qK x.type_ (yB hsx)).tot (by unfold lV;rw[if_pos hsx])) fun t ht=>zN.pure (yK (by rw[hv];simp;omega)) ?_)) fun h=>?_
  ·rw[yA v (by omega),ht,zQB]
   exact zKf M st L U c a1 a2 a3 a4 no e q8 so hl hs hcl hc r (v+1) _ (zY hd) (by rw[oX hd,hv])
  ·rw[yG hd]at h;cases h
theorem zKe{l:List yI}{c0 td0 so0}{T:Int}(M:wA)(st:List Int)(L U:Int)(c:List zR)(a1 a2 a3 a4 a5:Nat)(no:Bool)(e:Int)(he:e≠0)(q8:List zM)(so:List zS)(y3:List zR×List zM×List zR×List zS×List Int×Int) :
  zN (fun q=>oZ q M y3 so st L U c a1 a2 a3 a4 a5 no e q8) (SvR l c0 td0 so0 T):=by
 refine zN.succ ?_
 simp only[oZ]
 exact zN.ite (fun _=>zN.ite (fun h=>absurd (by simpa using h) he) fun _=>zN.ite (fun _=>zN.ret (.err he)) fun h=>absurd (by simpa using h) he) fun _=>zN.ite (fun _=>zN.ret (.err he)) fun h=>absurd (by simpa using h) he
theorem zTR{l:List yI}{c0 td0 so0}{T:Int}(M:wA)(st:List Int)(L U:Int)(c:List zR)(a1 a2 a3 a4 a5:Nat)(q8:List zM)(so:List zS)(y3:List zR×List zM×List zR×List zS×List Int×Int)(hU:Un l c0 td0 so0 none)(hF:0≤L∧0≤U∧L+U=T)(no:Bool)(hno:no=true) :
  zN (fun q=>oZ q M y3 so st L U c a1 a2 a3 a4 a5 no 0 q8) (SvR l c0 td0 so0 T):=by
 refine zN.succ ?_
 simp only[oZ]
 refine zN.ite (fun _=>zN.ite (fun _=>zN.ite (fun _=>zN.ite (fun h=>by cases h) fun _=>?_) fun h=>by rw[hno]at h;cases h) fun h=>by cases h) fun _=>zN.ite (fun h=>by cases h) fun _=>zN.ite (fun _=>?_) fun h=>by rw[hno]at h;cases h
 ·exact zN.pure (a:=st) (by unfold gfz;rw[if_pos rfl]) (zN.ret (.no hF hU))
 ·exact zN.pure (a:=st) (by unfold gfz;rw[if_pos rfl]) (zN.ret (.no hF hU))
theorem zDh{N:ByteArray->Bool}{l:List yI}(hE:wP N l)(he:∀e∈l,eK e)(hl:l.length≤65535)(hc:∀e∈l,ECl e){c0:List zR}{td0:List zM}{so0:List zS}{T0:Int}(I:∀c' so',Un l c0 td0 so0 (some (c',so'))->(∀v∈c',zH v.type_=true)∧∀s∈so',zH s.t_=true)
  (y3:List zR×List zM×List zR×List zS×List Int×Int) (hy:y3.2.2.1=[]) (no:Bool) (hno:no=false):∀(m:Nat) (L U:Int) (c:List zR) (q8:List zM) (n o k k6 n6:Nat) (so:List zS) (st:List Int),L.toNat<m->0≤L->0≤U->L+U=T0->T0≤1099511627776->o+n≤q8.length->(q8.length:Int)+8192*L≤1048576000->(∀x∈q8,x.a_.Ok∧x.b_.Ok)->(∀x∈(q8.drop o).take n,zH x.a_=true∧zH x.b_=true) ->
   so.length=n6->(so.length:Int)+L≤1048576->(∀x∈so,x.t_.Ok)->(st.length:Int)+L≤1048576->c.length≤524288->(∀v∈c,v.type_.Ok)->(∀r,Un l c ((q8.drop o).take n) so r->Un l c0 td0 so0 r) ->
   zN (fun q=>oZ q (wW l) y3 so st L U c k n o k6 n6 no 0 q8) (SvR l c0 td0 so0 T0)
 |0,L,U,c,q8,n,o,k,k6,n6,so,st,hm,_,_,_,_,_,_,_,_,_,_,_,_,_,_,_=>absurd hm (Nat.not_lt_zero _)
 |m+1,L,U,c,q8,n,o,k,k6,n6,so,st,hm,h0,h1,hT,h2,hb,h8,hok8,hok,hn6,hso,hsok,hst,hcl,hco,T=>by
  refine zN.succ ?_
  simp only[oZ]
  refine zN.ite (fun hp=>zN.ite (fun _=>zN.ite (fun h=>by rw[hno]at h;cases h) fun _=>?_) fun h=>by cases h) fun hp=>zN.ite (fun h=>by cases h) fun _=>zN.ite (fun h=>by rw[hno]at h;cases h) fun _=>?_
  ·have hpos:1≤n:=by have:=of_decide_eq_true hp;omega
   refine(zMO hE he hl hc L U c q8 n o k false y3.2.2.1 so n6 k6 st no h0 h1 (by omega) hpos hb (by omega) hok8 hok hn6 (by omega) hsok (by omega) hcl hco).bind fun x hx=>?_
   cases hx with
   |err e0=>exact zKe _ _ _ _ _ _ _ _ _ _ _ _ e0 _ _ _
   |no _ hF hU=>exact zTR _ _ _ _ _ _ _ _ _ _ _ _ _ (T _ hU) ⟨hF.1,hF.2.1,by omega⟩ _ rfl
   | @sol d row k' so' n' t s e fl fu g1 g2 g3 g4 g5 g6 g7 g8 g9 g10 g11 g12=>
    by_cases e0:e=0
    ·subst e0
     obtain⟨p1,p2⟩:=g12 rfl
     refine zDh hE he hl hc I y3 hy no hno m fl fu d row (n-1) (o+1) k' _ _ (so'++[⟨n',t⟩]) s (by omega) g2 g4 (by omega) h2 (by rw[g6];omega) (by rw[g6];omega) g7 p1 rfl (by simp;omega) (fun x hx=>?_) (by omega) (by have:=g10.right.len;omega) (fun v hv=>yB (g10.right.each v hv).2.2.1) fun r hr=>T r (p2 r hr)
     rcases List.mem_append.1 hx with hx|hx
     ·exact g9 x hx
     ·rw[List.mem_singleton.1 hx];exact g11
    ·exact zKe _ _ _ _ _ _ _ _ _ _ _ _ e0 _ _ _
   | @inj td s fl fu g1 g2 g3 g4 g5 g6 g7 g8=>
    refine zDh hE he hl hc I y3 hy no hno m fl fu c td td.length 0 td.length _ _ so s (by omega) g2 g4 (by omega) h2 (by omega) (by omega) (fun x hx=>⟨yB (g7 x hx).1,yB (g7 x hx).2⟩) (fun x hx=>g7 x (List.mem_of_mem_drop (List.mem_of_mem_take hx))) hn6 (by omega) hsok (by omega) hcl hco fun r hr=>T r (g8 r ?_)
    rwa[List.drop_zero,List.take_length]at hr
  ·have hn0:n=0:=by have:=of_decide_eq_false hp;omega
   subst hn0
   have hU:Un l c0 td0 so0 (some (c,so)):=T _ (by rw[List.take_zero];exact .done)
   obtain⟨i1,i2⟩:=I c so hU
   subst hn6
   rw[hy]
   exact(zKf (wW l) st L U c _ _ _ _ no 0 q8 so (by omega) i2 hcl i1 c 0 [] rfl (by simp)).mono fun x hx=>by rw[hx];exact .yes ⟨h0,h1,hT⟩ hU
theorem bB.start{l:List yI}{c:List zR}{td:List zM}(hc:zFU c)(ht:∀w∈c,uN l w.type_)(hm:∀e∈td,uN l e.a_∧uN l e.b_):bB l c td [] c.length:=
 ⟨hc,ht,hm,fun s h=>by simp at h,fun s h=>by simp at h,fun s h=>by simp at h,fun s h=>by simp at h,by simp,by simp⟩
def SlR(l:List yI)(c:List zR)(A B:List Tm)(T:Int)(x:SvT):Prop:=
 (∃a e fl fu,e≠0∧x = .inl (a,e,fl,fu))∨(zFU c∧A.length=B.length∧(∀e∈tD A B,uN l e.a_∧uN l e.b_)∧(∀w∈c,uN l w.type_)∧SvR l c (tD A B) [] T x)
theorem zIG{N:ByteArray->Bool}{l:List yI}(hE:wP N l)(he:∀e∈l,eK e)(hl:l.length≤65535)(hc:∀e∈l,ECl e)(c:List zR)(A B:List Tm)(hA:∀x∈A,x.Ok)(hB:∀x∈B,x.Ok)(hal:A.length≤1048576)(hcl:c.length≤524288)(hco:∀v∈c,v.type_.Ok)(L U:Int)(h0:0≤L)(hL:L≤100000)(h1:0≤U)(h2:L+U≤1099511627776) :
  zN (fun q=>e34 q (wW l) c A B L U) (SlR l c A B (L+U)):=by
 simp only[e34]
 refine(zIE l c A B hA hB hal (by omega) hco L U).bind fun x hx=>?_
 rcases x with y|y
 ·exact zN.ret (.inl ⟨_,5,L,U,by decide,rfl⟩)
 ·obtain⟨hC,hn,⟨rfl,hm⟩,ht⟩:=hx y rfl
  have hz:(tD A B).length=A.length:=by unfold tD;rw[List.length_zipWith];omega
  have hI:=bB.start hC ht hm
  have hsh:∀e∈tD A B,zH e.a_=true∧zH e.b_=true:=fun e h=>⟨(gQ.1 (hm e h).1).1,(gQ.1 (hm e h).2).1⟩
  refine zN.mono (zDh hE he hl hc (c0:=c) (td0:=tD A B) (so0:=[]) (fun c' so' h=>?_) (c,tD A B,[],[],[],0) rfl false rfl (L.toNat+1) L U c (tD A B) (tD A B).length 0 (tD A B).length 0 0 [] [] (by omega) h0 h1 rfl h2 (by omega) (by omega) (fun x hx=>⟨yB (hsh x hx).1,yB (hsh x hx).2⟩) (fun x hx=>hsh x (List.mem_of_mem_drop (List.mem_of_mem_take hx))) rfl (by simp;omega) (fun x hx=>by simp at hx) (by simp;omega) hcl hco (fun r hr=>by rwa[List.drop_zero,List.take_length]at hr)) fun x hx=>.inr ⟨hC,hn,hm,ht,hx⟩
  have:=h.inv hE hI c' so' rfl
  exact⟨fun v hv=>(gQ.1 (this.typ v hv)).1,fun s hs=>(gQ.1 (this.sol s hs)).1⟩
mutual
def e11:Nat->Tm->Int->Option Bool
 |0,_,_=>none
 |qq+1,p0,p1=>
 if p0.k==8 then
 some (p0.n==p1)
 else
 A7 qq p0 p1 0
def A7:Nat->Tm->Int->Int->Option Bool
 |0,_,_,_=>none
 |qq+1,p0,p1,v5=>
 if decide (v5<(p0.sub.length:Int))then
 zW p0.sub v5>>=fun x3=>
 e11 qq x3 p1>>=fun r5=>
 if r5 then
 some true
 else
 A7 qq p0 p1 (xL (v5+1))
 else
 some false
end
abbrev K11 (p0:Tm) (p1:Int) (r:Bool) (C:Cf):Prop:=C 11 [] [yY p0,ai p1] (ab r) [] 0
theorem yZ:Qf 11 Tryz.f11:=⟨func11,rfl⟩
theorem zMP:∀qq:Nat,(∀ {p0 p1 r},e11 qq p0 p1=some r->K11 p0 p1 r Ct)∧(∀ {p0 p1 v5 r},A7 qq p0 p1 v5=some r->(∀j,dL 0 (pt 4021 Tryz.f11) (sp j 27 0 [(1,ai p1),(2,.mp 0 0),(5,ai v5)]) (⟨[(0,.cells [ai p0.k,ai p0.n,zV zD p0.sub .no])],1,[],0,[]⟩) (fQ 0 (nQ 0 Tryz.f11 (ab r) [] 0) [.blk 0,.seq (pt 63 Tryz.f11)]))):=by
 intro qq
 induction qq with
 |zero=>
  exact⟨fun h=>nn h,fun h=>nn h⟩
 |succ qq ih=>
  obtain⟨zZV,zKd⟩:=ih
  refine⟨?_,?_⟩
  intro p0 p1 r h
  rw[e11]at h
  obtain⟨h1,h⟩|⟨h1,h⟩:=zU h
  cases h
  exact⟨tF yZ 2 [] (oB 1 h1 o0),⟨⟨tv,tv,⟨tv,dT _⟩,tv⟩,tv,tv⟩,zB,tv,zB⟩
  exact⟨tH yZ 0 [] [0] [] [1,2,5] (oD (dT p0.sub)<|oB 1 h1 o0) (zKd h),⟨⟨tv,tv,⟨tv,dT _⟩,tv⟩,tv,tv⟩,zB,tv,zB⟩
  intro p0 p1 v5 r h
  rw[A7]at h
  obtain⟨h2,h⟩|⟨h2,h⟩:=zU h
  obtain⟨x3,h4,h⟩:=zC h
  obtain⟨r5,h6,h⟩:=zC h
  have k:=oA 1 (xH (o:=.no) h4)<|oB 2 h2 o0
  obtain⟨h7,h⟩|⟨h7,h⟩:=zU h
  cases h
  exact fun j=>lF 0 [] (oK 1 [] h7 (zZV h6) k)
  exact fun j=>lH 1 [] [0] [] [1,2,5] (oD (dT p0.sub)<|oK 1 [] h7 (zZV h6) k) (zKd h)
  cases h
  exact fun j=>lF 0 [] (oB 2 h2 o0)
theorem c11{qq p0 p1 r}(h:e11 qq p0 p1=some r):K11 p0 p1 r Ct:=(zMP _).1 h
def A8:Nat->xR->LR2->Int->Option LR2
 |0,_,_,_=>none
 |qq+1,p0,v3,v4=>
 if decide (v4<(p0.length:Int))then
 zW p0 v4>>=fun x2=>
 xF 48 v3 [(vT.mk x2.n_ x2.type_)]>>=fun l4=>
 A8 qq p0 l4 (xL (v4+1))
 else
 some v3
def e10(qq:Nat)(p0:xR):Option LR2:=
 A8 qq p0 [] 0
theorem zWK:∀qq:Nat,(∀ {p0 v3 v4 r},A8 qq p0 v3 v4=some r->(∀j,dL 0 (pt 4021 Tryz.f10) (sp j 27 0 [(0,zV zI p0 .no),(3,zV vK v3 (.st 0 4)),(4,ai v4)]) (⟨[],0,[0],1,[]⟩) (fQ 0 (nQ 0 Tryz.f10 (.sl (zG vK r) r.length .no) [] 0) [.blk 0,.seq (pt 63 Tryz.f10)]))):=by
 intro qq
 induction qq with
 |zero=>
  exact fun h=>nn h
 |succ qq ih=>
  intro p0 v3 v4 r h
  rw[A8]at h
  obtain⟨h1,h⟩|⟨h1,h⟩:=zU h
  obtain⟨x2,h3,h⟩:=zC h
  obtain⟨l4,h5,h⟩:=zC h
  exact fun j=>lH 1 [] [] [1] [0,3,4] (oD (vU l4)<|oD (zF p0)<|oP 2 (zXY h5 (by simp))<|oA 1 (zCb (o:=.no) h3)<|oA 0 (zCb (o:=.no) h3)<|oB 1 h1 o0) (ih h)
  obtain rfl:=sj h
  exact fun j=>lF 0 [] (oD (vU v3)<|oB 1 h1 o0)
theorem c10{qq p0 r}(h:e10 qq p0=some r):Ct 10 [] [zV zI p0 .no] (.sl (zG vK r) r.length .no) [] 0:=⟨by
 unfold e10 at h
 exact tH ⟨func10,rfl⟩ 1 [(none,3,4)] [] [0] [0,3,4] (oD (vU ([]:LR2))<|oD (zF p0) o0) (zWK _ h),⟨⟨tv,zF _⟩,tv⟩,zB,vU _,zB⟩
def ofV(c:List zR):List vT:=c.map fun v=>vT.mk v.n_ v.type_
theorem zKc(c:List zR)(hl:c.length≤1048576):∀(r:List zR) (v:Nat) (acc:List vT),c.drop v=r->v≤c.length->acc=(c.take v).map (fun v=>vT.mk v.n_ v.type_)->zJ (fun q=>A8 q c acc (v:Int)) (ofV c)
 | [],v,acc,hd,hv,ha=>by
  refine zJ.succ ?_
  simp only[A8]
  refine zJ.ifF (yH hd) (zJ.ret.eq ?_)
  rw[ha,List.take_of_length_le (List.drop_eq_nil_iff.1 hd)];rfl
 |x::r,v,acc,hd,hv,ha=>by
  have hlt:=yL hd
  refine zJ.succ ?_
  simp only[A8]
  refine zJ.ifT (yG hd) (zJ.pure (yD hd) (zJ.pure (yK (by rw[ha];simp;omega)) ?_))
  rw[yA v (by omega)]
  exact zKc c hl r (v+1) _ (zY hd) hlt (by rw[oX hd,List.map_append,ha];rfl)
theorem zUF(c:List zR)(hl:c.length≤1048576):zJ (fun q=>e10 q c) (ofV c):=by
 simp only[e10]
 exact zKc c hl c 0 [] rfl (Nat.zero_le _) rfl
mutual
def zIH:Nat->Tm->Option Bool
 |0,_=>none
 |qq+1,p0=>
 if p0.k==1 then
 if (p0.sub.length:Int) != 0 then
 some false
 else
 if decide (p0.n<0)then
 some false
 else
 if decide (p0.n>1048576)then
 some false
 else
 if p0.k==7 then
 zW p0.sub 0>>=fun x6=>
 if x6.k != 2 then
 some false
 else
 vV qq p0 0 0
 else
 vV qq p0 0 0
 else
 if p0.k==6 then
 if (p0.sub.length:Int) != 0 then
 some false
 else
 if decide (p0.n<0)then
 some false
 else
 if decide (p0.n>1048576)then
 some false
 else
 if p0.k==7 then
 zW p0.sub 0>>=fun x14=>
 if x14.k != 2 then
 some false
 else
 vV qq p0 0 0
 else
 vV qq p0 0 0
 else
 if p0.k==8 then
 if (p0.sub.length:Int) != 0 then
 some false
 else
 if decide (p0.n<0)then
 some false
 else
 if decide (p0.n>1048576)then
 some false
 else
 if p0.k==7 then
 zW p0.sub 0>>=fun x22=>
 if x22.k != 2 then
 some false
 else
 vV qq p0 0 0
 else
 vV qq p0 0 0
 else
 if p0.k==2 then
 if (p0.sub.length:Int) != 0 then
 some false
 else
 if decide (p0.n<0)then
 some false
 else
 if decide (p0.n>7)then
 some false
 else
 if p0.k==7 then
 zW p0.sub 0>>=fun x30=>
 if x30.k != 2 then
 some false
 else
 vV qq p0 0 0
 else
 vV qq p0 0 0
 else
 if p0.k==3 then
 if (p0.sub.length:Int) != 2 then
 some false
 else
 if decide (p0.n<0)then
 some false
 else
 if decide (p0.n>0)then
 some false
 else
 if p0.k==7 then
 zW p0.sub 0>>=fun x38=>
 if x38.k != 2 then
 some false
 else
 vV qq p0 2 0
 else
 vV qq p0 2 0
 else
 if p0.k==4 then
 if (p0.sub.length:Int) != 2 then
 some false
 else
 if decide (p0.n<0)then
 some false
 else
 if decide (p0.n>0)then
 some false
 else
 if p0.k==7 then
 zW p0.sub 0>>=fun x46=>
 if x46.k != 2 then
 some false
 else
 vV qq p0 2 0
 else
 vV qq p0 2 0
 else
 if p0.k==5 then
 if (p0.sub.length:Int) != 2 then
 some false
 else
 if decide (p0.n<0)then
 some false
 else
 if decide (p0.n>0)then
 some false
 else
 if p0.k==7 then
 zW p0.sub 0>>=fun x54=>
 if x54.k != 2 then
 some false
 else
 vV qq p0 2 0
 else
 vV qq p0 2 0
 else
 if p0.k==7 then
 if (p0.sub.length:Int) != 1 then
 some false
 else
 if decide (p0.n<0)then
 some false
 else
 if decide (p0.n>1048576)then
 some false
 else
 zW p0.sub 0>>=fun x61=>
 if x61.k != 2 then
 some false
 else
 vV qq p0 1 0
 else
 some false
def vV:Nat->Tm->Int->Int->Option Bool
 |0,_,_,_=>none
 |qq+1,p0,v3,v5=>
 if decide (v5<v3)then
 zW p0.sub v5>>=fun x10=>
 zIH qq x10>>=fun r12=>
 if r12 then
 vV qq p0 v3 (xL (v5+1))
 else
 some false
 else
 some true
end
abbrev zTS (p0:Tm) (r:Bool) (C:Cf):Prop:=C 105 [] [yY p0] (ab r) [] 0
theorem tE:Qf 105 f105:=⟨func105,rfl⟩
theorem tI{p0 r}(h:zTS p0 r Ci):zTS p0 r Ct:=⟨h,⟨⟨tv,tv,⟨tv,dT _⟩,tv⟩,tv⟩,zB,tv,zB⟩
theorem zGi:∀qq:Nat,(∀ {p0 r},zIH qq p0=some r->zTS p0 r Ct)∧(∀ {p0 v3 v5 r},vV qq p0 v3 v5=some r->(∀j,dL 0 (pt 262069 f105) (sp j 61 0 [(1,.mp 0 0),(3,ai v3),(5,ai v5)]) (⟨[(0,.cells [ai p0.k,ai p0.n,zV zD p0.sub .no])],1,[],0,[]⟩) (fQ 0 (nQ 0 f105 (ab r) [] 0) [.blk 1,.seq (pt 4095 f105)]))):=by
 intro qq
 induction qq with
 |zero=>
  exact⟨fun h=>nn h,fun h=>nn h⟩
 |succ qq ih=>
  obtain⟨zUG,uW⟩:=ih
  refine⟨?_,?_⟩
  intro p0 r h
  rw[zIH]at h
  obtain⟨h1,h⟩|⟨h1,h⟩:=zU h
  have k:=oB 1 h1 o0
  obtain⟨h2,h⟩|⟨h2,h⟩:=zU h
  cases h
  exact tI (tF tE 0 [] (oB 2 h2 k))
  have k:=oB 2 h2 k
  obtain⟨h3,h⟩|⟨h3,h⟩:=zU h
  cases h
  exact tI (tF tE 0 [] (oB 1 h3 k))
  have k:=oB 1 h3 k
  obtain⟨h4,h⟩|⟨h4,h⟩:=zU h
  cases h
  exact tI (tF tE 0 [] (oB 1 h4 k))
  have k:=oB 1 h4 k
  obtain⟨h5,h⟩|⟨h5,h⟩:=zU h
  obtain⟨x6,h7,h⟩:=zC h
  have k:=oA 1 (xH (o:=.no) h7)<|oB 1 h5 k
  obtain⟨h8,h⟩|⟨h8,h⟩:=zU h
  cases h
  exact tI (tF tE 0 [] (oB 1 h8 k))
  exact tI (tH tE 0 [] [0] [] [1,3,5] (oD (dT p0.sub)<|oB 1 h8 k) (uW h))
  exact tI (tH tE 0 [] [0] [] [1,3,5] (oD (dT p0.sub)<|oB 1 h5 k) (uW h))
  have k:=oB 1 h1 o0
  obtain⟨h9,h⟩|⟨h9,h⟩:=zU h
  have k:=oB 0 h9 k
  obtain⟨h10,h⟩|⟨h10,h⟩:=zU h
  cases h
  exact tI (tF tE 0 [] (oB 2 h10 k))
  have k:=oB 2 h10 k
  obtain⟨h11,h⟩|⟨h11,h⟩:=zU h
  cases h
  exact tI (tF tE 0 [] (oB 1 h11 k))
  have k:=oB 1 h11 k
  obtain⟨h12,h⟩|⟨h12,h⟩:=zU h
  cases h
  exact tI (tF tE 0 [] (oB 1 h12 k))
  have k:=oB 1 h12 k
  obtain⟨h13,h⟩|⟨h13,h⟩:=zU h
  obtain⟨x14,h15,h⟩:=zC h
  have k:=oA 1 (xH (o:=.no) h15)<|oB 1 h13 k
  obtain⟨h16,h⟩|⟨h16,h⟩:=zU h
  cases h
  exact tI (tF tE 0 [] (oB 1 h16 k))
  exact tI (tH tE 0 [] [0] [] [1,3,5] (oD (dT p0.sub)<|oB 1 h16 k) (uW h))
  exact tI (tH tE 0 [] [0] [] [1,3,5] (oD (dT p0.sub)<|oB 1 h13 k) (uW h))
  have k:=oB 0 h9 k
  obtain⟨h17,h⟩|⟨h17,h⟩:=zU h
  have k:=oB 0 h17 k
  obtain⟨h18,h⟩|⟨h18,h⟩:=zU h
  cases h
  exact tI (tF tE 0 [] (oB 2 h18 k))
  have k:=oB 2 h18 k
  obtain⟨h19,h⟩|⟨h19,h⟩:=zU h
  cases h
  exact tI (tF tE 0 [] (oB 1 h19 k))
  have k:=oB 1 h19 k
  obtain⟨h20,h⟩|⟨h20,h⟩:=zU h
  cases h
  exact tI (tF tE 0 [] (oB 1 h20 k))
  have k:=oB 1 h20 k
  obtain⟨h21,h⟩|⟨h21,h⟩:=zU h
  obtain⟨x22,h23,h⟩:=zC h
  have k:=oA 1 (xH (o:=.no) h23)<|oB 1 h21 k
  obtain⟨h24,h⟩|⟨h24,h⟩:=zU h
  cases h
  exact tI (tF tE 0 [] (oB 1 h24 k))
  exact tI (tH tE 0 [] [0] [] [1,3,5] (oD (dT p0.sub)<|oB 1 h24 k) (uW h))
  exact tI (tH tE 0 [] [0] [] [1,3,5] (oD (dT p0.sub)<|oB 1 h21 k) (uW h))
  have k:=oB 0 h17 k
  obtain⟨h25,h⟩|⟨h25,h⟩:=zU h
  have k:=oB 0 h25 k
  obtain⟨h26,h⟩|⟨h26,h⟩:=zU h
  cases h
  exact tI (tF tE 0 [] (oB 2 h26 k))
  have k:=oB 2 h26 k
  obtain⟨h27,h⟩|⟨h27,h⟩:=zU h
  cases h
  exact tI (tF tE 0 [] (oB 1 h27 k))
  have k:=oB 1 h27 k
  obtain⟨h28,h⟩|⟨h28,h⟩:=zU h
  cases h
  exact tI (tF tE 0 [] (oB 1 h28 k))
  have k:=oB 1 h28 k
  obtain⟨h29,h⟩|⟨h29,h⟩:=zU h
  obtain⟨x30,h31,h⟩:=zC h
  have k:=oA 1 (xH (o:=.no) h31)<|oB 1 h29 k
  obtain⟨h32,h⟩|⟨h32,h⟩:=zU h
  cases h
  exact tI (tF tE 0 [] (oB 1 h32 k))
  exact tI (tH tE 0 [] [0] [] [1,3,5] (oD (dT p0.sub)<|oB 1 h32 k) (uW h))
  exact tI (tH tE 0 [] [0] [] [1,3,5] (oD (dT p0.sub)<|oB 1 h29 k) (uW h))
  have k:=oB 0 h25 k
  obtain⟨h33,h⟩|⟨h33,h⟩:=zU h
  have k:=oB 0 h33 k
  obtain⟨h34,h⟩|⟨h34,h⟩:=zU h
  cases h
  exact tI (tF tE 0 [] (oB 2 h34 k))
  have k:=oB 2 h34 k
  obtain⟨h35,h⟩|⟨h35,h⟩:=zU h
  cases h
  exact tI (tF tE 0 [] (oB 1 h35 k))
  have k:=oB 1 h35 k
  obtain⟨h36,h⟩|⟨h36,h⟩:=zU h
  cases h
  exact tI (tF tE 0 [] (oB 1 h36 k))
  have k:=oB 1 h36 k
  obtain⟨h37,h⟩|⟨h37,h⟩:=zU h
  obtain⟨x38,h39,h⟩:=zC h
  have k:=oA 1 (xH (o:=.no) h39)<|oB 1 h37 k
  obtain⟨h40,h⟩|⟨h40,h⟩:=zU h
  cases h
  exact tI (tF tE 0 [] (oB 1 h40 k))
  exact tI (tH tE 0 [] [0] [] [1,3,5] (oD (dT p0.sub)<|oB 1 h40 k) (uW h))
  exact tI (tH tE 0 [] [0] [] [1,3,5] (oD (dT p0.sub)<|oB 1 h37 k) (uW h))
  have k:=oB 0 h33 k
  obtain⟨h41,h⟩|⟨h41,h⟩:=zU h
  have k:=oB 0 h41 k
  obtain⟨h42,h⟩|⟨h42,h⟩:=zU h
  cases h
  exact tI (tF tE 0 [] (oB 2 h42 k))
  have k:=oB 2 h42 k
  obtain⟨h43,h⟩|⟨h43,h⟩:=zU h
  cases h
  exact tI (tF tE 0 [] (oB 1 h43 k))
  have k:=oB 1 h43 k
  obtain⟨h44,h⟩|⟨h44,h⟩:=zU h
  cases h
  exact tI (tF tE 0 [] (oB 1 h44 k))
  have k:=oB 1 h44 k
  obtain⟨h45,h⟩|⟨h45,h⟩:=zU h
  obtain⟨x46,h47,h⟩:=zC h
  have k:=oA 1 (xH (o:=.no) h47)<|oB 1 h45 k
  obtain⟨h48,h⟩|⟨h48,h⟩:=zU h
  cases h
  exact tI (tF tE 0 [] (oB 1 h48 k))
  exact tI (tH tE 0 [] [0] [] [1,3,5] (oD (dT p0.sub)<|oB 1 h48 k) (uW h))
  exact tI (tH tE 0 [] [0] [] [1,3,5] (oD (dT p0.sub)<|oB 1 h45 k) (uW h))
  have k:=oB 0 h41 k
  obtain⟨h49,h⟩|⟨h49,h⟩:=zU h
  have k:=oB 0 h49 k
  obtain⟨h50,h⟩|⟨h50,h⟩:=zU h
  cases h
  exact tI (tF tE 0 [] (oB 2 h50 k))
  have k:=oB 2 h50 k
  obtain⟨h51,h⟩|⟨h51,h⟩:=zU h
  cases h
  exact tI (tF tE 0 [] (oB 1 h51 k))
  have k:=oB 1 h51 k
  obtain⟨h52,h⟩|⟨h52,h⟩:=zU h
  cases h
  exact tI (tF tE 0 [] (oB 1 h52 k))
  have k:=oB 1 h52 k
  obtain⟨h53,h⟩|⟨h53,h⟩:=zU h
  obtain⟨x54,h55,h⟩:=zC h
  have k:=oA 1 (xH (o:=.no) h55)<|oB 1 h53 k
  obtain⟨h56,h⟩|⟨h56,h⟩:=zU h
  cases h
  exact tI (tF tE 0 [] (oB 1 h56 k))
  exact tI (tH tE 0 [] [0] [] [1,3,5] (oD (dT p0.sub)<|oB 1 h56 k) (uW h))
  exact tI (tH tE 0 [] [0] [] [1,3,5] (oD (dT p0.sub)<|oB 1 h53 k) (uW h))
  have k:=oB 0 h49 k
  obtain⟨h57,h⟩|⟨h57,h⟩:=zU h
  have k:=oB 0 h57 k
  obtain⟨h58,h⟩|⟨h58,h⟩:=zU h
  cases h
  exact tI (tF tE 0 [] (oB 2 h58 k))
  have k:=oB 2 h58 k
  obtain⟨h59,h⟩|⟨h59,h⟩:=zU h
  cases h
  exact tI (tF tE 0 [] (oB 1 h59 k))
  have k:=oB 1 h59 k
  obtain⟨h60,h⟩|⟨h60,h⟩:=zU h
  cases h
  exact tI (tF tE 0 [] (oB 1 h60 k))
  obtain⟨x61,h62,h⟩:=zC h
  have k:=oA 1 (xH (o:=.no) h62)<|oB 1 h57<|oB 1 h60 k
  obtain⟨h63,h⟩|⟨h63,h⟩:=zU h
  cases h
  exact tI (tF tE 0 [] (oB 1 h63 k))
  exact tI (tH tE 0 [] [0] [] [1,3,5] (oD (dT p0.sub)<|oB 1 h63 k) (uW h))
  cases h
  exact tI (tF tE 0 [] (oB 0 h57 k))
  intro p0 v3 v5 r h
  rw[vV]at h
  obtain⟨h9,h⟩|⟨h9,h⟩:=zU h
  obtain⟨x10,h11,h⟩:=zC h
  obtain⟨r12,h13,h⟩:=zC h
  have k:=oA 1 (xH (o:=.no) h11)<|oB 0 h9 o0
  obtain⟨h14,h⟩|⟨h14,h⟩:=zU h
  exact fun j=>lH 2 [] [0] [] [1,3,5] (oD (dT p0.sub)<|oK 1 [] h14 (zUG h13) k) (uW h)
  cases h
  exact fun j=>lF 1 [] (oK 1 [] h14 (zUG h13) k)
  cases h
  exact fun j=>lF 0 [] (oB 0 h9 o0)
theorem yCy{qq p0 r}(h:zIH qq p0=some r):zTS p0 r Ct:=(zGi _).1 h
def e70(qq:Nat)(p0:Tm)(p1:Int):Option Int:=
 if p1==1 then
 if p0.k != 5 then
 some 1
 else
 some 0
 else
 some 0
theorem q70:Qf 70 f70:=⟨func70,rfl⟩
theorem c70{qq p0 p1 r}(h:e70 qq p0 p1=some r):Ct 70 [] [yY p0,ai p1] (ai r) [] 0:=⟨by
 unfold e70 at h
 obtain⟨h1,h⟩|⟨h1,h⟩:=zU h
 have k:=oB 0 h1 o0
 obtain⟨h2,h⟩|⟨h2,h⟩:=zU h
 cases h
 exact tF q70 0 [] (oB 1 h2 k)
 cases h
 exact tF q70 0 [] (oB 1 h2 k)
 cases h
 exact tF q70 0 [] (oB 0 h1 o0),⟨⟨tv,tv,⟨tv,dT _⟩,tv⟩,tv,tv⟩,zB,tv,zB⟩
mutual
def e38:Nat->Tm->Int->Option Int
 |0,_,_=>none
 |qq+1,p0,p1=>
 if p0.k==1 then
 if decide (p0.n≥p1)then
 some (xL ((xL (p0.n-p1))+1))
 else
 fE qq p0 p1 0 0
 else
 fE qq p0 p1 0 0
def fE:Nat->Tm->Int->Int->Int->Option Int
 |0,_,_,_,_=>none
 |qq+1,p0,p1,v5,v6=>
 if decide (v6<(p0.sub.length:Int))then
 zW p0.sub v6>>=fun x4=>
 e70 qq p0 v6>>=fun r6=>
 e38 qq x4 (xL (p1+r6))>>=fun r8=>
 fE qq p0 p1 (iG v5 r8) (xL (v6+1))
 else
 some v5
end
abbrev K38 (p0:Tm) (p1 r:Int) (C:Cf):Prop:=C 38 [] [yY p0,ai p1] (ai r) [] 0
theorem q38:Qf 38 f38:=⟨func38,rfl⟩
theorem k38{p0 p1 r}(h:K38 p0 p1 r Ci):K38 p0 p1 r Ct:=⟨h,⟨⟨tv,tv,⟨tv,dT _⟩,tv⟩,tv,tv⟩,zB,tv,zB⟩
theorem zMQ:∀qq:Nat,(∀ {p0 p1 r},e38 qq p0 p1=some r->K38 p0 p1 r Ct)∧(∀ {p0 p1 v5 v6 r},fE qq p0 p1 v5 v6=some r->(∀j,dL 0 (pt 16309 f38) (sp j 42 0 [(1,ai p1),(2,.mp 0 0),(5,ai v5),(6,ai v6)]) (⟨[(0,.cells [ai p0.k,ai p0.n,zV zD p0.sub .no])],1,[],0,[]⟩) (fQ 0 (nQ 0 f38 (ai r) [] 0) [.blk 0,.seq (pt 255 f38)]))):=by
 intro qq
 induction qq with
 |zero=>
  exact⟨fun h=>nn h,fun h=>nn h⟩
 |succ qq ih=>
  obtain⟨yCu,zDg⟩:=ih
  refine⟨?_,?_⟩
  intro p0 p1 r h
  rw[e38]at h
  obtain⟨h1,h⟩|⟨h1,h⟩:=zU h
  have k:=oB 1 h1 o0
  obtain⟨h2,h⟩|⟨h2,h⟩:=zU h
  obtain rfl:=sj h
  exact k38 (tF q38 3 [] (oB 1 h2 k))
  exact k38 (tH q38 0 [] [0] [] [1,2,5,6] (oD (dT p0.sub)<|oB 1 h2 k) (zDg h))
  exact k38 (tH q38 0 [] [0] [] [1,2,5,6] (oD (dT p0.sub)<|oB 1 h1 o0) (zDg h))
  intro p0 p1 v5 v6 r h
  rw[fE]at h
  obtain⟨h3,h⟩|⟨h3,h⟩:=zU h
  obtain⟨x4,h5,h⟩:=zC h
  obtain⟨r6,h7,h⟩:=zC h
  obtain⟨r8,h9,h⟩:=zC h
  exact fun j=>lH 2 [] [0] [] [1,2,5,6] (oD (dT p0.sub)<|oC 1 [] (yCu h9)<|oC 2 [] (c70 h7)<|oA 0 (xH (o:=.no) h5)<|aH 0<|oB 2 h3 o0) (zDg h)
  obtain rfl:=sj h
  exact fun j=>lF 0 [] (oB 2 h3 o0)
theorem c38{qq p0 p1 r}(h:e38 qq p0 p1=some r):K38 p0 p1 r Ct:=(zMQ _).1 h
def e68(qq:Nat)(p0:Tm):Option Bool:=
 zQl qq p0>>=fun r1=>
 if decide (r1≤128)then
 zIH qq p0>>=fun r4=>
 some r4
 else
 some false
theorem q68:Qf 68 f68:=⟨func68,rfl⟩
theorem c68{qq p0 r}(h:e68 qq p0=some r):Ct 68 [] [yY p0] (ab r) [] 0:=⟨by
 unfold e68 at h
 obtain⟨r1,h2,h⟩:=zC h
 have k:=oC 1 [] (yBO h2) o0
 obtain⟨h3,h⟩|⟨h3,h⟩:=zU h
 obtain⟨r4,h5,h⟩:=zC h
 obtain rfl:=sj h
 exact tF q68 0 [] (oC 1 [] (yCy h5)<|oB 0 h3 k)
 obtain rfl:=sj h
 exact tF q68 0 [] (oB 0 h3 k),⟨⟨tv,tv,⟨tv,dT _⟩,tv⟩,tv⟩,zB,tv,zB⟩
theorem rB(k n:Int)(l:List Tm):xB (.mk k n l)=(rJ (.mk k n l)&&wZ l):=by rw[xB]
mutual
theorem zGh:∀(t:Tm),t.Ok->zJ (fun q=>zIH q t) (xB t)
 | .mk k n l,ho=>by
  refine zJ.succ ?_
  simp only[zIH]
  have hL:∀c:Nat,l.length=c->zJ (fun q=>vV q (.mk k n l) (c:Int) 0) (wZ l):=fun c hc=>
   zBN l (.mk k n l) 0 c rfl (by simpa[Tm.sub]using hc) ho.1 ho.2
  by_cases h1:k=1
  ·subst h1
   refine zJ.ifT rfl ((I1 (p:=.mk 1 n l) (c:=0) (m:=1048576) (r:=wZ l) fun hc _ _=>zJ.ifF rfl (hL 0 hc)).eq ?_)
   rw[rB];simp[rJ,Tm.k,Tm.n,Tm.sub]
   cases wZ l<;>simp[Bool.and_comm,Bool.and_left_comm,Bool.and_assoc]
  refine zJ.ifF (by simpa[Tm.k]using h1) ?_
  by_cases h6:k=6
  ·subst h6
   refine zJ.ifT rfl ((I1 (p:=.mk 6 n l) (c:=0) (m:=1048576) (r:=wZ l) fun hc _ _=>zJ.ifF rfl (hL 0 hc)).eq ?_)
   rw[rB];simp[rJ,Tm.k,Tm.n,Tm.sub]
   cases wZ l<;>simp[Bool.and_comm,Bool.and_left_comm,Bool.and_assoc]
  refine zJ.ifF (by simpa[Tm.k]using h6) ?_
  by_cases h8:k=8
  ·subst h8
   refine zJ.ifT rfl ((I1 (p:=.mk 8 n l) (c:=0) (m:=1048576) (r:=wZ l) fun hc _ _=>zJ.ifF rfl (hL 0 hc)).eq ?_)
   rw[rB];simp[rJ,Tm.k,Tm.n,Tm.sub]
   cases wZ l<;>simp[Bool.and_comm,Bool.and_left_comm,Bool.and_assoc]
  refine zJ.ifF (by simpa[Tm.k]using h8) ?_
  by_cases h2:k=2
  ·subst h2
   refine zJ.ifT rfl ((I1 (p:=.mk 2 n l) (c:=0) (m:=7) (r:=wZ l) fun hc _ _=>zJ.ifF rfl (hL 0 hc)).eq ?_)
   rw[rB];simp[rJ,Tm.k,Tm.n,Tm.sub]
   cases wZ l<;>simp[Bool.and_comm,Bool.and_left_comm,Bool.and_assoc]
  refine zJ.ifF (by simpa[Tm.k]using h2) ?_
  by_cases h3:k=3
  ·subst h3
   refine zJ.ifT rfl ((I1 (p:=.mk 3 n l) (c:=2) (m:=0) (r:=wZ l) fun hc _ _=>zJ.ifF rfl (hL 2 hc)).eq ?_)
   rw[rB];simp[rJ,Tm.k,Tm.n,Tm.sub]
   cases wZ l<;>simp[Bool.and_comm,Bool.and_left_comm,Bool.and_assoc]
  refine zJ.ifF (by simpa[Tm.k]using h3) ?_
  by_cases h4:k=4
  ·subst h4
   refine zJ.ifT rfl ((I1 (p:=.mk 4 n l) (c:=2) (m:=0) (r:=wZ l) fun hc _ _=>zJ.ifF rfl (hL 2 hc)).eq ?_)
   rw[rB];simp[rJ,Tm.k,Tm.n,Tm.sub]
   cases wZ l<;>simp[Bool.and_comm,Bool.and_left_comm,Bool.and_assoc]
  refine zJ.ifF (by simpa[Tm.k]using h4) ?_
  by_cases h5:k=5
  ·subst h5
   refine zJ.ifT rfl ((I1 (p:=.mk 5 n l) (c:=2) (m:=0) (r:=wZ l) fun hc _ _=>zJ.ifF rfl (hL 2 hc)).eq ?_)
   rw[rB];simp[rJ,Tm.k,Tm.n,Tm.sub]
   cases wZ l<;>simp[Bool.and_comm,Bool.and_left_comm,Bool.and_assoc]
  refine zJ.ifF (by simpa[Tm.k]using h5) ?_
  by_cases h7:k=7
  ·subst h7
   refine zJ.ifT rfl ?_
   rcases l with _|⟨x,l⟩
   ·refine(I1 (p:=.mk 7 n []) (c:=1) (m:=1048576) (r:=false) fun hc _ _=>by simp[Tm.sub]at hc).eq ?_
    rw[rB];simp[rJ,Tm.k,Tm.n,Tm.sub]
   ·refine(I1 (p:=.mk 7 n (x::l)) (c:=1) (m:=1048576) (r:=(x.k==2)&&wZ (x::l)) fun hc _ _=>zJ.pure (a:=x) rfl ?_).eq ?_
    ·by_cases hx:x.k=2
     ·refine zJ.ifF (by simp[hx]) ((hL 1 (by simpa[Tm.sub]using hc)).eq (by simp[hx]))
     ·exact zJ.ifT (by simp[hx]) (zJ.ret.eq (by simp[hx]))
    ·rw[rB];simp[rJ,Tm.k,Tm.n,Tm.sub]
     cases wZ (x::l)<;>cases (x.k==2)<;>simp[Bool.and_comm,Bool.and_left_comm,Bool.and_assoc]
  refine zJ.ifF (by simpa[Tm.k]using h7) (zJ.ret.eq ?_)
  rw[rB]
  have:rJ (.mk k n l)=false:=by
   simp only[rJ,Tm.k]
   by_cases h9:1≤k∧k≤8
   ·omega
   ·by_cases h10:1≤k
    ·simp[show ¬k≤8 by omega]
    ·simp[h10]
  simp[this]
theorem zBN:∀(l:List Tm) (p:Tm) (v c:Nat),p.sub.drop v=l->p.sub.length=c->p.sub.length<9223372036854775808->mX l->zJ (fun q=>vV q p (c:Int) (v:Int)) (wZ l)
 | [],p,v,c,hd,hc,hl,ho=>by
  refine zJ.succ ?_
  simp only[vV]
  rw[wZ,←hc]
  exact zJ.ifF (yH hd) zJ.ret
 |t::l,p,v,c,hd,hc,hl,ho=>by
  refine zJ.succ ?_
  simp only[vV]
  refine zJ.ifT (by rw[←hc];exact yG hd) (zJ.pure (yD hd) ((zGh t ho.1).bind ?_))
  rw[wZ]
  cases xB t with
  |false=>exact zJ.ifF rfl zJ.ret
  |true=>
   refine zJ.ifT rfl ?_
   rw[yA v (by have:=yL hd;omega)]
   exact zBN l p (v+1) c (zY hd) hc hl ho.2
end
theorem zAw(t:Tm)(ho:t.Ok):zJ (fun q=>e68 q t) (zH t):=by
 simp only[e68]
 refine(zMc t).bind ?_
 unfold zH zQj
 by_cases h1:t.nodes≤8192
 ·rw[if_pos h1]
  by_cases h2:t.high≤128
  ·exact zJ.ifT (by simp<;>omega) (((zGh t ho).bind zJ.ret).eq (by simp[h1,h2]))
  ·exact zJ.ifF (by simp<;>omega) (zJ.ret.eq (by simp[h2]))
 ·rw[if_neg h1]
  exact zJ.ifF (by simp) (zJ.ret.eq (by simp[h1]))
def zTT(k:Int)(i:Nat):Int:=if i=1∧k≠5 then 1 else 0
theorem zGg(t:Tm)(i:Nat):zJ (fun q=>e70 q t (i:Int)) (zTT t.k i):=by
 refine zJ.mk fun q=>?_
 simp only[e70,zTT]
 by_cases h1:i=1
 ·subst h1;by_cases h5:t.k=5<;>simp[h5]
 ·have:¬((i:Int)=1):=by omega
  simp[h1,this]
theorem zTU{k n:Int}{l:List Tm}(h:rJ (.mk k n l)=true){i:Nat}(hi:i<l.length):zTT k i=cV k i:=by
 unfold cV zTT
 by_cases h1:i=1
 ·subst h1
  have hs:=vN h
  simp only[Tm.k,Tm.n,Tm.sub]at hs
  have:k=3∨k=4∨k=5:=by
   by_cases h7:k=7
   ·obtain⟨x,hx,_⟩:=hs.2.2.2.2.2.2.1 h7
    rw[hx]at hi;simp at hi
   ·by_cases h3:k=1∨k=2∨k=6∨k=8
    ·rw[hs.2.2.2.2.2.2.2.1 h3]at hi;simp at hi
    ·omega
  rcases this with rfl|rfl|rfl<;>simp
 ·simp[h1]
mutual
theorem Q7:∀(t:Tm) (b:Int),xB t=true->0≤b->b+t.high≤4611686018427387904->zJ (fun q=>e38 q t b) (mY t b)
 | .mk k n l,b,hg,h0,h1=>by
  refine zJ.succ ?_
  simp only[e38,Tm.k,Tm.n]
  have hh:=wF hg
  have hn:=kV hh.1
  have hl:zJ (fun q=>fE q (.mk k n l) b 0 0) (kU l k 0 b):=
   (zAv l (.mk k n l) 0 b 0 rfl hh.1 hh.2 h0 (by omega) (by rw[Tm.high]at h1;omega)).eq (by have:=zCE l k 0 b;simp only[Tm.k];omega)
  rw[Tm.high]at h1
  rw[mY]
  by_cases hk:k=1
  ·rw[if_pos hk]
   refine zJ.ifT (by simpa using hk) ?_
   by_cases hb:n≥b
   ·refine zJ.ifT (by simpa using hb) (zJ.ret.eq ?_)
    rw[yW (x:=n-b) (by omega) (by omega),yW (by omega) (by omega)];omega
   ·refine zJ.ifF (by simpa using hb) (hl.eq ?_)
    have:l=[]:=by
     have:=hh.1
     subst hk
     simp[rJ,Tm.k,Tm.n,Tm.sub]at this
     exact this.2.1
    subst this
    rw[kU];omega
  ·rw[if_neg hk]
   exact zJ.ifF (by simpa using hk) hl
theorem zAv:∀(l:List Tm) (p:Tm) (v:Nat) (b m:Int),p.sub.drop v=l->rJ p=true->wZ l=true->0≤b->0≤m->b+1+vQ l≤4611686018427387904->zJ (fun q=>fE q p b m (v:Int)) (max m (kU l p.k v b))
 | [],p,v,b,m,hd,hp,ho,h0,hm,h1=>by
  refine zJ.succ ?_
  simp only[fE]
  rw[kU]
  exact zJ.ifF (yH hd) (zJ.ret.eq (by omega))
 |t::l,p,v,b,m,hd,hp,ho,h0,hm,h1=>by
  refine zJ.succ ?_
  simp only[fE]
  have hg:=wB ho
  have hu:=zCF p.k v
  have hlt:=yL hd
  obtain⟨k,n,ls⟩:=p
  have hls:=(kV hp).2.2.2.2
  simp only[Tm.sub]at hlt hd
  have he:=zTU hp hlt
  rw[vQ]at h1
  refine zJ.ifT (yG hd) (zJ.pure (yD hd) ((zGg (.mk k n ls) v).bind ?_))
  simp only[Tm.k]at hu ⊢
  rw[he,yW (x:=b+cV k v) (by omega) (by omega)]
  refine(Q7 t (b+cV k v) hg.1 (by omega) (by omega)).bind ?_
  rw[yA v (by omega),zCD]
  refine(zAv l (.mk k n ls) (v+1) b _ (zY hd) hp hg.2 h0 (by omega) (by omega)).eq ?_
  simp only[Tm.k]
  rw[kU];omega
end
def e67(qq:Nat)(p0:Int):Option Bool:=
 if decide (p0≥0)then
 some (decide (p0≤1048576))
 else
 some false
theorem q67:Qf 67 f67:=⟨func67,rfl⟩
theorem c67{qq p0 r}(h:e67 qq p0=some r):Ct 67 [] [ai p0] (ab r) [] 0:=⟨by
 unfold e67 at h
 obtain⟨h1,h⟩|⟨h1,h⟩:=zU h
 cases h
 exact tF q67 1 [] (oB 0 h1 o0)
 cases h
 exact tF q67 0 [] (oB 0 h1 o0),⟨tv,tv⟩,zB,tv,zB⟩
def A9:Nat->LR2->Int->Option Bool
 |0,_,_=>none
 |qq+1,p0,v3=>
 if decide (v3<(p0.length:Int))then
 zW p0 v3>>=fun x2=>
 e67 qq x2.n_>>=fun r4=>
 if r4 then
 e68 qq x2.type_>>=fun r7=>
 if r7 then
 A9 qq p0 (xL (v3+1))
 else
 some false
 else
 some false
 else
 some (decide ((p0.length:Int)≤256))
def e36(qq:Nat)(p0:LR2):Option Bool:=
 A9 qq p0 0
theorem zWL:∀qq:Nat,(∀ {p0 v3 r},A9 qq p0 v3=some r->(∀j,dL 0 (pt 949 f36) (sp j 29 0 [(0,zV vK p0 .no),(3,ai v3)]) (⟨[],0,[],0,[]⟩) (fQ 0 (nQ 0 f36 (ab r) [] 0) [.blk 0,.seq (pt 15 f36)]))):=by
 intro qq
 induction qq with
 |zero=>
  exact fun h=>nn h
 |succ qq ih=>
  intro p0 v3 r h
  rw[A9]at h
  obtain⟨h1,h⟩|⟨h1,h⟩:=zU h
  obtain⟨x2,h3,h⟩:=zC h
  obtain⟨r4,h5,h⟩:=zC h
  have k:=oA 0 (zED (o:=.no) h3)<|oB 1 h1 o0
  obtain⟨h6,h⟩|⟨h6,h⟩:=zU h
  obtain⟨r7,h8,h⟩:=zC h
  have k:=oA 1 (zED (o:=.no) h3)<|oK 1 [] h6 (c67 h5) k
  obtain⟨h9,h⟩|⟨h9,h⟩:=zU h
  exact fun j=>lH 2 [] [] [] [0,3] (oD (vU p0)<|oK 1 [] h9 (c68 h8) k) (ih h)
  cases h
  exact fun j=>lF 1 [] (oK 1 [] h9 (c68 h8) k)
  cases h
  exact fun j=>lF 1 [] (oK 1 [] h6 (c67 h5) k)
  cases h
  exact fun j=>lF 2 [] (oB 1 h1 o0)
theorem c36{qq p0 r}(h:e36 qq p0=some r):Ct 36 [] [zV vK p0 .no] (ab r) [] 0:=⟨by
 unfold e36 at h
 exact tH ⟨func36,rfl⟩ 0 [] [] [] [0,3] (oD (vU p0) o0) (zWL _ h),⟨⟨tv,vU _⟩,tv⟩,zB,tv,zB⟩
def B0:Nat->LR2->Int->Int->Option Int
 |0,_,_,_=>none
 |qq+1,p0,p1,v5=>
 if decide (v5<(p0.length:Int))then
 zW p0 v5>>=fun x2=>
 if x2.n_==p1 then
 some v5
 else
 B0 qq p0 p1 (xL (v5+1))
 else
 some (-1)
def e69(qq:Nat)(p0:LR2)(p1:Int):Option Int:=
 B0 qq p0 p1 0
theorem zWM:∀qq:Nat,(∀ {p0 p1 v5 r},B0 qq p0 p1 v5=some r->(∀j,dL 0 (pt 949 f69) (sp j 20 0 [(0,zV vK p0 .no),(1,ai p1),(5,ai v5)]) (⟨[],0,[],0,[]⟩) (fQ 0 (nQ 0 f69 (ai r) [] 0) [.blk 0,.seq (pt 15 f69)]))):=by
 intro qq
 induction qq with
 |zero=>
  exact fun h=>nn h
 |succ qq ih=>
  intro p0 p1 v5 r h
  rw[B0]at h
  obtain⟨h1,h⟩|⟨h1,h⟩:=zU h
  obtain⟨x2,h3,h⟩:=zC h
  have k:=oA 0 (zED (o:=.no) h3)<|oB 1 h1 o0
  obtain⟨h4,h⟩|⟨h4,h⟩:=zU h
  obtain rfl:=sj h
  exact fun j=>lF 0 [] (oB 1 h4 k)
  exact fun j=>lH 1 [] [] [] [0,1,5] (oD (vU p0)<|oB 1 h4 k) (ih h)
  obtain rfl:=sj h
  exact fun j=>lF 0 [] (oB 1 h1 o0)
theorem c69{qq p0 p1 r}(h:e69 qq p0 p1=some r):Ct 69 [] [zV vK p0 .no,ai p1] (ai r) [] 0:=⟨by
 unfold e69 at h
 exact tH ⟨func69,rfl⟩ 0 [] [] [] [0,1,5] (oD (vU p0) o0) (zWM _ h),⟨⟨tv,vU _⟩,tv,tv⟩,zB,tv,zB⟩
def B1:Nat->LR2->Int->Option Bool
 |0,_,_=>none
 |qq+1,p0,v3=>
 if decide (v3<(p0.length:Int))then
 zW p0 v3>>=fun x2=>
 e69 qq p0 x2.n_>>=fun r4=>
 if r4 != v3 then
 some false
 else
 B1 qq p0 (xL (v3+1))
 else
 some true
def e37(qq:Nat)(p0:LR2):Option Bool:=
 B1 qq p0 0
theorem zWN:∀qq:Nat,(∀ {p0 v3 r},B1 qq p0 v3=some r->(∀j,dL 0 (pt 949 f37) (sp j 19 0 [(0,zV vK p0 .no),(3,ai v3)]) (⟨[],0,[],0,[]⟩) (fQ 0 (nQ 0 f37 (ab r) [] 0) [.blk 0,.seq (pt 15 f37)]))):=by
 intro qq
 induction qq with
 |zero=>
  exact fun h=>nn h
 |succ qq ih=>
  intro p0 v3 r h
  rw[B1]at h
  obtain⟨h1,h⟩|⟨h1,h⟩:=zU h
  obtain⟨x2,h3,h⟩:=zC h
  obtain⟨r4,h5,h⟩:=zC h
  have k:=oC 1 [] (c69 h5)<|oA 0 (zED (o:=.no) h3)<|oB 1 h1 o0
  obtain⟨h6,h⟩|⟨h6,h⟩:=zU h
  cases h
  exact fun j=>lF 0 [] (oB 0 h6 k)
  exact fun j=>lH 1 [] [] [] [0,3] (oD (vU p0)<|oB 0 h6 k) (ih h)
  cases h
  exact fun j=>lF 0 [] (oB 1 h1 o0)
theorem c37{qq p0 r}(h:e37 qq p0=some r):Ct 37 [] [zV vK p0 .no] (ab r) [] 0:=⟨by
 unfold e37 at h
 exact tH ⟨func37,rfl⟩ 0 [] [] [] [0,3] (oD (vU p0) o0) (zWN _ h),⟨⟨tv,vU _⟩,tv⟩,zB,tv,zB⟩
mutual
def dH:Nat->LR2->Int->Option Bool
 |0,_,_=>none
 |qq+1,p0,v3=>
 if decide (v3<(p0.length:Int))then
 zW p0 v3>>=fun x8=>
 e38 qq x8.type_ 0>>=fun r10=>
 if decide (r10>0)then
 some false
 else
 B2 qq p0 v3 v3
 else
 some true
def B2:Nat->LR2->Int->Int->Option Bool
 |0,_,_,_=>none
 |qq+1,p0,v3,v4=>
 if decide (v4<(p0.length:Int))then
 zW p0 v3>>=fun x14=>
 zW p0 v4>>=fun x16=>
 e11 qq x14.type_ x16.n_>>=fun r18=>
 if r18 then
 some false
 else
 B2 qq p0 v3 (xL (v4+1))
 else
 dH qq p0 (xL (v3+1))
end
def e12(qq:Nat)(p0:LR2):Option Bool:=
 e36 qq p0>>=fun r1=>
 if r1 then
 e37 qq p0>>=fun r4=>
 if r4 then
 dH qq p0 0
 else
 some false
 else
 some false
theorem xE:Qf 12 Tryz.f12:=⟨func12,rfl⟩
theorem zDf:∀qq:Nat,(∀ {p0 v3 r},dH qq p0 v3=some r->(∀j,dL 0 (pt 4021 Tryz.f12) (sp j 44 0 [(0,zV vK p0 .no),(3,ai v3)]) (⟨[],0,[],0,[]⟩) (fQ 0 (nQ 0 Tryz.f12 (ab r) [] 0) [.blk 0,.seq (pt 63 Tryz.f12)])))∧(∀ {p0 v3 v4 r},B2 qq p0 v3 v4=some r->(∀j,dL 0 (pt 65894901 Tryz.f12) (sp j 44 0 [(0,zV vK p0 .no),(3,ai v3),(4,ai v4)]) (⟨[],0,[],0,[]⟩) (fQ 0 (nQ 0 Tryz.f12 (ab r) [] 0) [.blk 2,.blk 1,.seq (pt 64351 Tryz.f12),.loop (pt 4021 Tryz.f12),.blk 0,.seq (pt 63 Tryz.f12)]))):=by
 intro qq
 induction qq with
 |zero=>
  exact⟨fun h=>nn h,fun h=>nn h⟩
 |succ qq ih=>
  obtain⟨zTV,zKb⟩:=ih
  refine⟨?_,?_⟩
  intro p0 v3 r h
  rw[dH]at h
  obtain⟨h7,h⟩|⟨h7,h⟩:=zU h
  obtain⟨x8,h9,h⟩:=zC h
  obtain⟨r10,h11,h⟩:=zC h
  have k:=oC 1 [] (c38 h11)<|oA 0 (zED (o:=.no) h9)<|oB 1 h7 o0
  obtain⟨h12,h⟩|⟨h12,h⟩:=zU h
  cases h
  exact fun j=>lF 0 [] (oB 0 h12 k)
  exact fun j=>lH 0 [] [] [] [0,3,4] (oD (vU p0)<|oB 0 h12 k) (zKb h)
  cases h
  exact fun j=>lF 0 [] (oB 1 h7 o0)
  intro p0 v3 v4 r h
  rw[B2]at h
  obtain⟨h13,h⟩|⟨h13,h⟩:=zU h
  obtain⟨x14,h15,h⟩:=zC h
  obtain⟨x16,h17,h⟩:=zC h
  obtain⟨r18,h19,h⟩:=zC h
  have k:=oA 1 (zED (o:=.no) h17)<|oA 0 (zED (o:=.no) h15)<|oB 1 h13 o0
  obtain⟨h20,h⟩|⟨h20,h⟩:=zU h
  cases h
  exact fun j=>lF 0 [] (oK 1 [] h20 (c11 h19) k)
  exact fun j=>lH 1 [] [] [] [0,3,4] (oD (vU p0)<|oK 1 [] h20 (c11 h19) k) (zKb h)
  exact fun j=>lH 1 [] [] [] [0,3] (oD (vU p0)<|oB 1 h13 o0) (zTV h)
theorem c12{qq p0 r}(h:e12 qq p0=some r):Ct 12 [] [zV vK p0 .no] (ab r) [] 0:=⟨by
 unfold e12 at h
 obtain⟨r1,h2,h⟩:=zC h
 obtain⟨h3,h⟩|⟨h3,h⟩:=zU h
 obtain⟨r4,h5,h⟩:=zC h
 have k:=oK 0 [] h3 (c36 h2) o0
 obtain⟨h6,h⟩|⟨h6,h⟩:=zU h
 exact tH xE 1 [] [] [] [0,3] (oD (vU p0)<|oK 1 [] h6 (c37 h5) k) ((zDf _).1 h)
 cases h
 exact tF xE 1 [] (oK 1 [] h6 (c37 h5) k)
 cases h
 exact tF xE 1 [] (oK 0 [] h3 (c36 h2) o0),⟨⟨tv,vU _⟩,tv⟩,zB,tv,zB⟩
def B3:Nat->LR2->yM->Int->Option yM
 |0,_,_,_=>none
 |qq+1,p0,v3,v4=>
 if decide (v4<(p0.length:Int))then
 zW p0 v4>>=fun x2=>
 xF 40 v3 [x2.type_]>>=fun l4=>
 B3 qq p0 l4 (xL (v4+1))
 else
 some v3
def e31(qq:Nat)(p0:LR2):Option yM:=
 B3 qq p0 [] 0
theorem zWO:∀qq:Nat,(∀ {p0 v3 v4 r},B3 qq p0 v3 v4=some r->(∀j,dL 0 (pt 4021 Tryz.f31) (sp j 21 0 [(0,zV vK p0 .no),(3,zV zD v3 (.st 0 3)),(4,ai v4)]) (⟨[],0,[0],1,[]⟩) (fQ 0 (nQ 0 Tryz.f31 (zV zD r (.st 0 3)) [] 1) [.blk 0,.seq (pt 63 Tryz.f31)]))):=by
 intro qq
 induction qq with
 |zero=>
  exact fun h=>nn h
 |succ qq ih=>
  intro p0 v3 v4 r h
  rw[B3]at h
  obtain⟨h1,h⟩|⟨h1,h⟩:=zU h
  obtain⟨x2,h3,h⟩:=zC h
  obtain⟨l4,h5,h⟩:=zC h
  exact fun j=>lH 1 [] [] [1] [0,3,4] (oD (dT l4)<|oD (vU p0)<|oP 0 (vE h5 (by simp))<|oS 1 (xO xW [x2.type_])<|oA 0 (zED (o:=.no) h3)<|oB 1 h1 o0) (ih h)
  obtain rfl:=sj h
  exact fun j=>lG 0 [] [] [0] true (oD (dT v3)<|oB 1 h1 o0)
theorem c31{qq p0 r}(h:e31 qq p0=some r):Ct 31 [] [zV vK p0 .no] (zV zD r (.st 0 3)) [] 1:=⟨by
 unfold e31 at h
 exact tH ⟨func31,rfl⟩ 1 [(none,3,3)] [] [0] [0,3,4] (oD (dT ([]:yM))<|oD (vU p0) o0) (zWO _ h),⟨⟨tv,vU _⟩,tv⟩,zB,dT _,zB⟩
def W8(qq:Nat)(p1:xR)(p2 p3:yM)(q3 q4:Int):Option Unit:=
 some ()
theorem zTW{qq p1 p2 p3 q3 q4 r}(h:W8 qq p1 p2 p3 q3 q4=some r):Ct 64 [.cells [ai q3,ai q4]] [.val (.pointer none),zV zI p1 .no,zV zD p2 .no,zV zD p3 .no,.mp 0 0] (.tup [.val (.pointer none),ab false]) [.cells [ai q3,ai q4]] 0:=⟨by
 unfold W8 at h
 cases h
 exact tF ⟨func64,rfl⟩ 1 [0] (o0),⟨tv,⟨tv,zF _⟩,⟨tv,dT _⟩,⟨tv,dT _⟩,(lz rfl),tv⟩,(zA ⟨tv,tv,tv⟩ zB),⟨tv,tv,tv⟩,(zA ⟨tv,tv,tv⟩ zB)⟩
def cL(qq:Nat)(p1:xR)(p2 p3:yM)(q3 q4:Int):Option (yR×Int):=
 W8 qq p1 p2 p3 q3 q4>>=fun r1=>
 some ((yR.mk false [] [] []),5)
theorem zKa{qq p1 p2 p3 q3 q4 r}(h:cL qq p1 p2 p3 q3 q4=some r):Ct 34 [.cells [ai q3,ai q4]] [.val (.pointer none),zV zI p1 .no,zV zD p2 .no,zV zD p3 .no,.mp 0 0] (.tup [vJ r.1,ai r.2]) [.cells [ai q3,ai q4]] 0:=⟨by
 unfold cL at h
 obtain⟨r1,h2,h⟩:=zC h
 cases h
 exact tF ⟨func34,rfl⟩ 4 [0] (oD (dI ([]:zZ))<|oD (zK ([]:sE))<|oD (zF ([]:xR))<|oC 0 [0] (zTW h2) o0),⟨tv,⟨tv,zF _⟩,⟨tv,dT _⟩,⟨tv,dT _⟩,(lz rfl),tv⟩,(zA ⟨tv,tv,tv⟩ zB),⟨⟨tv,zF _,zK _,dI _,tv⟩,tv,tv⟩,(zA ⟨tv,tv,tv⟩ zB)⟩
def zAu:Nat->yM->Int->Option Bool
 |0,_,_=>none
 |qq+1,l16,v4=>
 if decide (v4<(l16.length:Int))then
 zW l16 v4>>=fun x20=>
 e15 qq x20>>=fun r22=>
 if decide (r22>150)then
 some false
 else
 zAu qq l16 (xL (v4+1))
 else
 some true
def e7(qq:Nat)(p0:uO):Option Bool:=
 if decide ((p0.c_.length:Int)>12)then
 some false
 else
 if decide ((p0.a_.length:Int)>8)then
 some false
 else
 if decide ((p0.b_.length:Int)>8)then
 some false
 else
 if decide (p0.fuel_<0)then
 some false
 else
 if decide (p0.fuel_>400)then
 some false
 else
 e10 qq p0.c_>>=fun r6=>
 e31 qq r6>>=fun r8=>
 xF 40 ([]:yM) r8>>=fun l10=>
 xF 40 l10 p0.a_>>=fun l13=>
 xF 40 l13 p0.b_>>=fun l16=>
 zAu qq l16 0
theorem q7:Qf 7 Tryz.f7:=⟨func7,rfl⟩
theorem T5:∀qq:Nat,(∀ {l16 v4 r},zAu qq l16 v4=some r->(∀j,dL 0 (pt 16309 Tryz.f7) (sp j 55 0 [(3,zV zD l16 .full),(4,ai v4)]) (⟨[],0,[],0,[]⟩) (fQ 0 (nQ 0 Tryz.f7 (ab r) [] 0) [.blk 0,.seq (pt 255 Tryz.f7)]))∧(∀j,dL 0 (pt 16309 Tryz.f7) (sp j 55 0 [(3,zV zD l16 (.st 0 3)),(4,ai v4)]) (⟨[],0,[0],1,[]⟩) (fQ 0 (nQ 0 Tryz.f7 (ab r) [] 0) [.blk 0,.seq (pt 255 Tryz.f7)]))):=by
 intro qq
 induction qq with
 |zero=>
  exact fun h=>nn h
 |succ qq ih=>
  intro l16 v4 r h
  rw[zAu]at h
  refine⟨?_,?_⟩
  obtain⟨h19,h⟩|⟨h19,h⟩:=zU h
  obtain⟨x20,h21,h⟩:=zC h
  obtain⟨r22,h23,h⟩:=zC h
  have k:=oC 1 [] (c15 h23)<|oA 0 (xH (o:=.full) h21)<|oB 1 h19 o0
  obtain⟨h24,h⟩|⟨h24,h⟩:=zU h
  cases h
  exact fun j=>lF 0 [] (oB 0 h24 k)
  exact fun j=>lH 1 [] [] [] [3,4] (oD (dT l16)<|oB 0 h24 k) ((ih h).1)
  cases h
  exact fun j=>lF 0 [] (oB 1 h19 o0)
  obtain⟨h19,h⟩|⟨h19,h⟩:=zU h
  obtain⟨x20,h21,h⟩:=zC h
  obtain⟨r22,h23,h⟩:=zC h
  have k:=oC 1 [] (c15 h23)<|oA 0 (xH (o:=(.st 0 3)) h21)<|oB 1 h19 o0
  obtain⟨h24,h⟩|⟨h24,h⟩:=zU h
  cases h
  exact fun j=>lF 0 [] (oB 0 h24 k)
  exact fun j=>lH 1 [] [] [0] [3,4] (oD (dT l16)<|oB 0 h24 k) ((ih h).2)
  cases h
  exact fun j=>lF 0 [] (oB 1 h19 o0)
theorem c7{qq p0 r}(h:e7 qq p0=some r):Ct 7 [] [z8 p0] (ab r) [] 0:=⟨by
 unfold e7 at h
 obtain⟨h1,h⟩|⟨h1,h⟩:=zU h
 cases h
 exact tF q7 0 [] (oB 2 h1 o0)
 have k:=oB 2 h1 o0
 obtain⟨h2,h⟩|⟨h2,h⟩:=zU h
 cases h
 exact tF q7 0 [] (oB 2 h2 k)
 have k:=oB 2 h2 k
 obtain⟨h3,h⟩|⟨h3,h⟩:=zU h
 cases h
 exact tF q7 0 [] (oB 2 h3 k)
 have k:=oB 2 h3 k
 obtain⟨h4,h⟩|⟨h4,h⟩:=zU h
 cases h
 exact tF q7 0 [] (oB 1 h4 k)
 have k:=oB 1 h4 k
 obtain⟨h5,h⟩|⟨h5,h⟩:=zU h
 cases h
 exact tF q7 0 [] (oB 1 h5 k)
 obtain⟨r6,h7,h⟩:=zC h
 obtain⟨r8,h9,h⟩:=zC h
 obtain⟨l10,h11,h⟩:=zC h
 have k:=oC 0 [] (c31 h9)<|oC 2 [] (c10 h7)<|oB 1 h5 k
 by_cases h12:List.length r8=0
 obtain⟨l13,h14,h⟩:=zC h
 have k:=aH 0<|oP 0 (qE h11 h12) k
 by_cases h15:List.length p0.a_=0
 obtain⟨l16,h17,h⟩:=zC h
 have k:=aH 0<|oP 0 (qE h14 h15) k
 by_cases h18:List.length p0.b_=0
 exact tH q7 0 [] [] [] [3,4] (oD (dT l16)<|oP 0 (qE h17 h18) k) ((T5 _ h).1)
 exact tH q7 0 [] [] [1] [3,4] (oD (dT l16)<|oP 0 (vE h17 h18) k) ((T5 _ h).2)
 obtain⟨l16,h17,h⟩:=zC h
 have k:=aH 0<|oP 0 (vE h14 h15) k
 by_cases h18:List.length p0.b_=0
 exact tH q7 0 [] [] [1] [3,4] (oD (dT l16)<|oP 0 (qE h17 h18) k) ((T5 _ h).2)
 exact tH q7 0 [] [] [2] [3,4] (oD (dT l16)<|oP 0 (vE h17 h18) k) ((T5 _ h).2)
 obtain⟨l13,h14,h⟩:=zC h
 have k:=aH 0<|oP 0 (vE h11 h12) k
 by_cases h15:List.length p0.a_=0
 obtain⟨l16,h17,h⟩:=zC h
 have k:=aH 0<|oP 0 (qE h14 h15) k
 by_cases h18:List.length p0.b_=0
 exact tH q7 0 [] [] [1] [3,4] (oD (dT l16)<|oP 0 (qE h17 h18) k) ((T5 _ h).2)
 exact tH q7 0 [] [] [2] [3,4] (oD (dT l16)<|oP 0 (vE h17 h18) k) ((T5 _ h).2)
 obtain⟨l16,h17,h⟩:=zC h
 have k:=aH 0<|oP 0 (vE h14 h15) k
 by_cases h18:List.length p0.b_=0
 exact tH q7 0 [] [] [2] [3,4] (oD (dT l16)<|oP 0 (qE h17 h18) k) ((T5 _ h).2)
 exact tH q7 0 [] [] [3] [3,4] (oD (dT l16)<|oP 0 (vE h17 h18) k) ((T5 _ h).2),⟨⟨⟨tv,zF _⟩,⟨tv,dT _⟩,⟨tv,dT _⟩,tv,tv⟩,tv⟩,zB,tv,zB⟩
def e21(qq:Nat)(p0:Int):Option Tm:=
 some (Tm.mk 8 p0 [])
theorem c21{qq p0 r}(h:e21 qq p0=some r):Ct 21 [] [ai p0] (yY r) [] 0:=⟨by
 unfold e21 at h
 cases h
 exact tF ⟨func21,rfl⟩ 1 [] (oD (dT ([]:yM)) o0),⟨tv,tv⟩,zB,⟨tv,tv,dT _,tv⟩,zB⟩
def e63(qq:Nat)(p0 p1:Int):Option Tm:=
 some (Tm.mk p0 p1 [])
theorem c63{qq p0 p1 r}(h:e63 qq p0 p1=some r):Ct 63 [] [ai p0,ai p1] (yY r) [] 0:=⟨by
 unfold e63 at h
 cases h
 exact tF ⟨func63,rfl⟩ 1 [] (oD (dT ([]:yM)) o0),⟨tv,tv,tv⟩,zB,⟨tv,tv,dT _,tv⟩,zB⟩
def e33(qq:Nat)(p0:Int):Option Tm:=
 e63 qq 6 p0>>=fun r1=>
 some r1
theorem T6{qq p0 r}(h:e33 qq p0=some r):Ct 33 [] [ai p0] (yY r) [] 0:=⟨by
 unfold e33 at h
 obtain⟨r1,h2,h⟩:=zC h
 obtain rfl:=sj h
 exact tF ⟨func33,rfl⟩ 1 [] (oD (dT r1.sub)<|oC 0 [] (c63 h2) o0),⟨tv,tv⟩,zB,⟨tv,tv,dT _,tv⟩,zB⟩
def e71(qq:Nat)(p0:Int)(p1 p2:Tm):Option Tm:=
 some (Tm.mk p0 0 [p1,p2])
theorem c71{qq p0 p1 p2 r}(h:e71 qq p0 p1 p2=some r):Ct 71 [] [ai p0,yY p1,yY p2] (yY r) [] 0:=⟨by
 unfold e71 at h
 cases h
 exact tF ⟨func71,rfl⟩ 1 [] (oD (dT [p1,p2])<|oS 2 (xO xW [p1,p2]) o0),⟨tv,⟨tv,tv,⟨tv,dT _⟩,tv⟩,⟨tv,tv,⟨tv,dT _⟩,tv⟩,tv⟩,zB,⟨tv,tv,dT _,tv⟩,zB⟩
def zDe:Nat->yM->Int->Int->Int->yM->Option Tm
 |0,_,_,_,_,_=>none
 |qq+1,p1,v5,yE,wC,xT=>
 if decide (v5<(p1.length:Int))then
 zW p1 v5>>=fun x2=>
 e71 qq 5 (Tm.mk yE wC xT) x2>>=fun r4=>
 zDe qq p1 (xL (v5+1)) r4.k r4.n r4.sub
 else
 some (Tm.mk yE wC xT)
def e66(qq:Nat)(p0:Tm)(p1:yM):Option Tm:=
 zDe qq p1 0 p0.k p0.n p0.sub
theorem zWP:∀qq:Nat,(∀ {p1 v5 yE wC xT r},zDe qq p1 v5 yE wC xT=some r->(∀j,dL 0 (pt 949 f66) (sp j 19 0 [(1,zV zD p1 .no),(2,.mp 0 0),(4,.mp 1 0),(5,ai v5)]) (⟨[(0,.cells [ai yE,ai wC,zV zD xT .no]),(1,.cells [ai 0,ai 0,zV zD ([]:yM) .nl])],2,[],0,[]⟩) (fQ 0 (nQ 0 f66 (yY r) [] 0) [.blk 0,.seq (pt 15 f66)]))):=by
 intro qq
 induction qq with
 |zero=>
  exact fun h=>nn h
 |succ qq ih=>
  intro p1 v5 yE wC xT r h
  rw[zDe]at h
  obtain⟨h1,h⟩|⟨h1,h⟩:=zU h
  obtain⟨x2,h3,h⟩:=zC h
  obtain⟨r4,h5,h⟩:=zC h
  exact fun j=>lH 2 [] [0,1] [] [1,2,4,5] (oD (dT p1)<|oD (dT ([]:yM))<|oD (dT r4.sub)<|oC 1 [] (c71 h5)<|oA 1 (xH (o:=.no) h3)<|oB 1 h1 o0) (ih h)
  cases h
  exact fun j=>lF 2 [] (oD (dT xT)<|oB 1 h1 o0)
theorem c66{qq p0 p1 r}(h:e66 qq p0 p1=some r):Ct 66 [] [yY p0,zV zD p1 .no] (yY r) [] 0:=⟨by
 unfold e66 at h
 exact tH ⟨func66,rfl⟩ 0 [] [0,1] [] [1,2,4,5] (oD (dT p1)<|oD (dT ([]:yM))<|oD (dT p0.sub) o0) (zWP _ h),⟨⟨tv,tv,⟨tv,dT _⟩,tv⟩,⟨tv,dT _⟩,tv⟩,zB,⟨tv,tv,dT _,tv⟩,zB⟩
def e35(qq:Nat)(p0:Tm)(p1:yM):Option Tm:=
 e66 qq p0 p1>>=fun r1=>
 some r1
theorem c35{qq p0 p1 r}(h:e35 qq p0 p1=some r):Ct 35 [] [yY p0,zV zD p1 .no] (yY r) [] 0:=⟨by
 unfold e35 at h
 obtain⟨r1,h2,h⟩:=zC h
 obtain rfl:=sj h
 exact tF ⟨func35,rfl⟩ 1 [] (oD (dT r1.sub)<|oC 1 [] (c66 h2) o0),⟨⟨tv,tv,⟨tv,dT _⟩,tv⟩,⟨tv,dT _⟩,tv⟩,zB,⟨tv,tv,dT _,tv⟩,zB⟩
def e39(qq:Nat)(p0:ByteArray)(p1:Tm)(p2 p3:Int)(p4:zZ):Option yI:=
 some (yI.mk 1 p0 p1 (Tm.mk 0 0 []) 0 0 p2 p3 0 p4 [])
theorem c39{qq p0 p1 p2 p3 p4 r}(h:e39 qq p0 p1 p2 p3 p4=some r):Ct 39 [] [at' p0,yY p1,ai p2,ai p3,zV yC p4 .no] (zUZ r) [] 0:=⟨by
 unfold e39 at h
 cases h
 exact tF ⟨func39,rfl⟩ 2 [] (oD (dI ([]:zZ))<|oD (dI p4)<|oD (dT ([]:yM))<|oD (dT p1.sub) o0),⟨tv,⟨tv,tv,⟨tv,dT _⟩,tv⟩,tv,tv,⟨tv,dI _⟩,tv⟩,zB,⟨tv,tv,tv,tv,dT _,tv,tv,dT _,tv,tv,tv,tv,tv,dI _,dI _,tv⟩,zB⟩
def fO(qq:Nat)(p0 p1:Tm):Option Tm:=
 e71 qq 3 p0 p1>>=fun r1=>
 some r1
theorem fP{qq p0 p1 r}(h:fO qq p0 p1=some r):Ct 40 [] [yY p0,yY p1] (yY r) [] 0:=⟨by
 unfold fO at h
 obtain⟨r1,h2,h⟩:=zC h
 obtain rfl:=sj h
 exact tF ⟨func40,rfl⟩ 1 [] (oD (dT r1.sub)<|oC 2 [] (c71 h2) o0),⟨⟨tv,tv,⟨tv,dT _⟩,tv⟩,⟨tv,tv,⟨tv,dT _⟩,tv⟩,tv⟩,zB,⟨tv,tv,dT _,tv⟩,zB⟩
def e41(qq:Nat)(p0:Int):Option Tm:=
 e63 qq 2 p0>>=fun r1=>
 some r1
theorem T7{qq p0 r}(h:e41 qq p0=some r):Ct 41 [] [ai p0] (yY r) [] 0:=⟨by
 unfold e41 at h
 obtain⟨r1,h2,h⟩:=zC h
 obtain rfl:=sj h
 exact tF ⟨func41,rfl⟩ 1 [] (oD (dT r1.sub)<|oC 0 [] (c63 h2) o0),⟨tv,tv⟩,zB,⟨tv,tv,dT _,tv⟩,zB⟩
def e42(qq:Nat)(p0:Int):Option Tm:=
 e63 qq 1 p0>>=fun r1=>
 some r1
theorem B4{qq p0 r}(h:e42 qq p0=some r):Ct 42 [] [ai p0] (yY r) [] 0:=⟨by
 unfold e42 at h
 obtain⟨r1,h2,h⟩:=zC h
 obtain rfl:=sj h
 exact tF ⟨func42,rfl⟩ 1 [] (oD (dT r1.sub)<|oC 0 [] (c63 h2) o0),⟨tv,tv⟩,zB,⟨tv,tv,dT _,tv⟩,zB⟩
def e43(qq:Nat)(p0 p1:Tm):Option Tm:=
 e71 qq 4 p0 p1>>=fun r1=>
 some r1
theorem c43{qq p0 p1 r}(h:e43 qq p0 p1=some r):Ct 43 [] [yY p0,yY p1] (yY r) [] 0:=⟨by
 unfold e43 at h
 obtain⟨r1,h2,h⟩:=zC h
 obtain rfl:=sj h
 exact tF ⟨func43,rfl⟩ 1 [] (oD (dT r1.sub)<|oC 2 [] (c71 h2) o0),⟨⟨tv,tv,⟨tv,dT _⟩,tv⟩,⟨tv,tv,⟨tv,dT _⟩,tv⟩,tv⟩,zB,⟨tv,tv,dT _,tv⟩,zB⟩
def e72(qq:Nat)(p0 p1:Int)(p2:yM):Option Tm:=
 some (Tm.mk p0 p1 p2)
theorem c72{qq p0 p1 p2 r}(h:e72 qq p0 p1 p2=some r):Ct 72 [] [ai p0,ai p1,zV zD p2 .no] (yY r) [] 0:=⟨by
 unfold e72 at h
 cases h
 exact tF ⟨func72,rfl⟩ 1 [] (oD (dT p2) o0),⟨tv,tv,⟨tv,dT _⟩,tv⟩,zB,⟨tv,tv,dT _,tv⟩,zB⟩
def e44(qq:Nat)(p0 p1:Int):Option Tm:=
 e41 qq p1>>=fun r1=>
 e72 qq 7 p0 [r1]>>=fun r3=>
 some r3
theorem c44{qq p0 p1 r}(h:e44 qq p0 p1=some r):Ct 44 [] [ai p0,ai p1] (yY r) [] 0:=⟨by
 unfold e44 at h
 obtain⟨r1,h2,h⟩:=zC h
 obtain⟨r3,h4,h⟩:=zC h
 obtain rfl:=sj h
 exact tF ⟨func44,rfl⟩ 1 [] (oD (dT r3.sub)<|oC 0 [] (c72 h4)<|oS 0 (xO xW [r1])<|oC 0 [] (T7 h2) o0),⟨tv,tv,tv⟩,zB,⟨tv,tv,dT _,tv⟩,zB⟩
def e45(qq:Nat)(p0:ByteArray)(p1:Tm)(p2 p3 p4:Int):Option yI:=
 some (yI.mk 2 p0 p1 (Tm.mk 0 0 []) p2 p3 p4 0 0 [] [])
theorem c45{qq p0 p1 p2 p3 p4 r}(h:e45 qq p0 p1 p2 p3 p4=some r):Ct 45 [] [at' p0,yY p1,ai p2,ai p3,ai p4] (zUZ r) [] 0:=⟨by
 unfold e45 at h
 cases h
 exact tF ⟨func45,rfl⟩ 2 [] (oD (dI ([]:zZ))<|oD (dI ([]:zZ))<|oD (dT ([]:yM))<|oD (dT p1.sub) o0),⟨tv,⟨tv,tv,⟨tv,dT _⟩,tv⟩,tv,tv,tv,tv⟩,zB,⟨tv,tv,tv,tv,dT _,tv,tv,dT _,tv,tv,tv,tv,tv,dI _,dI _,tv⟩,zB⟩
def e46(qq:Nat)(p0:ByteArray)(p1:Tm)(p2:Int):Option yI:=
 some (yI.mk 4 p0 p1 (Tm.mk 0 0 []) 14 p2 2 0 0 [] [])
theorem c46{qq p0 p1 p2 r}(h:e46 qq p0 p1 p2=some r):Ct 46 [] [at' p0,yY p1,ai p2] (zUZ r) [] 0:=⟨by
 unfold e46 at h
 cases h
 exact tF ⟨func46,rfl⟩ 2 [] (oD (dI ([]:zZ))<|oD (dI ([]:zZ))<|oD (dT ([]:yM))<|oD (dT p1.sub) o0),⟨tv,⟨tv,tv,⟨tv,dT _⟩,tv⟩,tv,tv⟩,zB,⟨tv,tv,tv,tv,dT _,tv,tv,dT _,tv,tv,tv,tv,tv,dI _,dI _,tv⟩,zB⟩
def e13(qq:Nat)  : Option yV:=
 e33 qq 0>>=fun r1=>
 e41 qq 0>>=fun r3=>
 fO qq r3 r3>>=fun r5=>
 fO qq r3 r5>>=fun r7=>
 e39 qq (⟨#[80,97,105,114]⟩:ByteArray) r7 2 0 [15]>>=fun r9=>
 e33 qq 14>>=fun r11=>
 e42 qq 1>>=fun r13=>
 e42 qq 0>>=fun r15=>
 e35 qq r11 [r13,r15]>>=fun r17=>
 e44 qq 0 0>>=fun r19=>
 e43 qq r1 r1>>=fun r21=>
 e33 qq 2>>=fun r23=>
 e35 qq r23 [r15]>>=fun r25=>
 e43 qq r1 r25>>=fun r27=>
 e43 qq r1 r27>>=fun r29=>
 e35 qq r19 [r21,r15,r29,r13]>>=fun r31=>
 e43 qq r1 r31>>=fun r33=>
 e43 qq r1 r33>>=fun r35=>
 e39 qq (⟨#[78,97,116]⟩:ByteArray) r3 0 0 [1,2]>>=fun r37=>
 e45 qq (⟨#[122,101,114,111]⟩:ByteArray) r1 0 0 0>>=fun r39=>
 fO qq r1 r1>>=fun r41=>
 e45 qq (⟨#[115,117,99]⟩:ByteArray) r41 0 1 0>>=fun r43=>
 e39 qq (⟨#[66,111,111,108]⟩:ByteArray) r3 0 0 [4,5]>>=fun r45=>
 e33 qq 3>>=fun r47=>
 e45 qq (⟨#[116,114,117,101]⟩:ByteArray) r47 3 0 0>>=fun r49=>
 e45 qq (⟨#[102,97,108,115,101]⟩:ByteArray) r47 3 1 0>>=fun r51=>
 e39 qq (⟨#[76,105,115,116]⟩:ByteArray) r5 1 0 [7,8]>>=fun r53=>
 e33 qq 6>>=fun r55=>
 e35 qq r55 [r15]>>=fun r57=>
 fO qq r3 r57>>=fun r59=>
 e45 qq (⟨#[110,105,108]⟩:ByteArray) r59 6 0 1>>=fun r61=>
 e35 qq r55 [r13]>>=fun r63=>
 e42 qq 2>>=fun r65=>
 e35 qq r55 [r65]>>=fun r67=>
 fO qq r63 r67>>=fun r69=>
 fO qq r15 r69>>=fun r71=>
 fO qq r3 r71>>=fun r73=>
 e45 qq (⟨#[99,111,110,115]⟩:ByteArray) r73 6 1 1>>=fun r75=>
 fO qq r1 r3>>=fun r77=>
 fO qq r3 r77>>=fun r79=>
 e39 qq (⟨#[86,101,99]⟩:ByteArray) r79 1 1 [10,11]>>=fun r81=>
 e33 qq 9>>=fun r83=>
 e33 qq 1>>=fun r85=>
 e35 qq r83 [r15,r85]>>=fun r87=>
 fO qq r3 r87>>=fun r89=>
 e45 qq (⟨#[118,110,105,108]⟩:ByteArray) r89 9 0 1>>=fun r91=>
 e35 qq r83 [r65,r13]>>=fun r93=>
 e42 qq 3>>=fun r95=>
 e35 qq r23 [r65]>>=fun r97=>
 e35 qq r83 [r95,r97]>>=fun r99=>
 fO qq r93 r99>>=fun r101=>
 fO qq r13 r101>>=fun r103=>
 fO qq r1 r103>>=fun r105=>
 fO qq r3 r105>>=fun r107=>
 e45 qq (⟨#[118,99,111,110,115]⟩:ByteArray) r107 9 1 1>>=fun r109=>
 fO qq r13 r3>>=fun r111=>
 fO qq r15 r111>>=fun r113=>
 fO qq r3 r113>>=fun r115=>
 e39 qq (⟨#[69,113]⟩:ByteArray) r115 2 1 [13]>>=fun r117=>
 e33 qq 12>>=fun r119=>
 e35 qq r119 [r13,r15,r15]>>=fun r121=>
 fO qq r15 r121>>=fun r123=>
 fO qq r3 r123>>=fun r125=>
 e45 qq (⟨#[114,101,102,108]⟩:ByteArray) r125 12 0 2>>=fun r127=>
 e35 qq r11 [r95,r65]>>=fun r129=>
 fO qq r13 r129>>=fun r131=>
 fO qq r13 r131>>=fun r133=>
 fO qq r3 r133>>=fun r135=>
 fO qq r3 r135>>=fun r137=>
 e45 qq (⟨#[112,97,105,114]⟩:ByteArray) r137 14 0 2>>=fun r139=>
 fO qq r17 r65>>=fun r141=>
 fO qq r3 r141>>=fun r143=>
 fO qq r3 r143>>=fun r145=>
 e46 qq (⟨#[102,115,116]⟩:ByteArray) r145 0>>=fun r147=>
 fO qq r17 r13>>=fun r149=>
 fO qq r3 r149>>=fun r151=>
 fO qq r3 r151>>=fun r153=>
 e46 qq (⟨#[115,110,100]⟩:ByteArray) r153 1>>=fun r155=>
 e39 qq (⟨#[84,114,101,101]⟩:ByteArray) r3 0 0 [19,20]>>=fun r157=>
 e33 qq 18>>=fun r159=>
 e45 qq (⟨#[108,101,97,102]⟩:ByteArray) r159 18 0 0>>=fun r161=>
 fO qq r1 r159>>=fun r163=>
 fO qq r163 r159>>=fun r165=>
 e45 qq (⟨#[110,111,100,101]⟩:ByteArray) r165 18 1 0>>=fun r167=>
 fO qq r1 r41>>=fun r169=>
 fO qq r15 r13>>=fun r171=>
 fO qq r3 r171>>=fun r173=>
 e43 qq r15 r15>>=fun r175=>
 e43 qq r3 r175>>=fun r177=>
 some [r37,r39,r43,r45,r49,r51,r53,r61,r75,r81,r91,r109,r117,r127,(yI.mk r9.kind r9.name r9.type r9.body r9.fam r9.place r9.pars r9.inds r9.level r9.cons [16,17]),r139,r147,r155,r157,r161,r167,(yI.mk 3 (⟨#[112,108,117,115]⟩:ByteArray) r169 r35 0 0 0 0 0 [] []),(yI.mk 3 (⟨#[105,100]⟩:ByteArray) r173 r177 0 0 0 0 0 [] [])]
theorem c13{qq r}(h:e13 qq  = some r):Ct 13 [] [] (.sl (zG xJ r) r.length .no) [] 0:=⟨by
 unfold e13 at h
 obtain⟨r1,h2,h⟩:=zC h
 obtain⟨r3,h4,h⟩:=zC h
 obtain⟨r5,h6,h⟩:=zC h
 obtain⟨r7,h8,h⟩:=zC h
 obtain⟨r9,h10,h⟩:=zC h
 obtain⟨r11,h12,h⟩:=zC h
 obtain⟨r13,h14,h⟩:=zC h
 obtain⟨r15,h16,h⟩:=zC h
 obtain⟨r17,h18,h⟩:=zC h
 obtain⟨r19,h20,h⟩:=zC h
 obtain⟨r21,h22,h⟩:=zC h
 obtain⟨r23,h24,h⟩:=zC h
 obtain⟨r25,h26,h⟩:=zC h
 obtain⟨r27,h28,h⟩:=zC h
 obtain⟨r29,h30,h⟩:=zC h
 obtain⟨r31,h32,h⟩:=zC h
 obtain⟨r33,h34,h⟩:=zC h
 obtain⟨r35,h36,h⟩:=zC h
 obtain⟨r37,h38,h⟩:=zC h
 obtain⟨r39,h40,h⟩:=zC h
 obtain⟨r41,h42,h⟩:=zC h
 obtain⟨r43,h44,h⟩:=zC h
 obtain⟨r45,h46,h⟩:=zC h
 obtain⟨r47,h48,h⟩:=zC h
 obtain⟨r49,h50,h⟩:=zC h
 obtain⟨r51,h52,h⟩:=zC h
 obtain⟨r53,h54,h⟩:=zC h
 obtain⟨r55,h56,h⟩:=zC h
 obtain⟨r57,h58,h⟩:=zC h
 obtain⟨r59,h60,h⟩:=zC h
 obtain⟨r61,h62,h⟩:=zC h
 obtain⟨r63,h64,h⟩:=zC h
 obtain⟨r65,h66,h⟩:=zC h
 obtain⟨r67,h68,h⟩:=zC h
 obtain⟨r69,h70,h⟩:=zC h
 obtain⟨r71,h72,h⟩:=zC h
 obtain⟨r73,h74,h⟩:=zC h
 obtain⟨r75,h76,h⟩:=zC h
 obtain⟨r77,h78,h⟩:=zC h
 obtain⟨r79,h80,h⟩:=zC h
 obtain⟨r81,h82,h⟩:=zC h
 obtain⟨r83,h84,h⟩:=zC h
 obtain⟨r85,h86,h⟩:=zC h
 obtain⟨r87,h88,h⟩:=zC h
 obtain⟨r89,h90,h⟩:=zC h
 obtain⟨r91,h92,h⟩:=zC h
 obtain⟨r93,h94,h⟩:=zC h
 obtain⟨r95,h96,h⟩:=zC h
 obtain⟨r97,h98,h⟩:=zC h
 obtain⟨r99,h100,h⟩:=zC h
 obtain⟨r101,h102,h⟩:=zC h
 obtain⟨r103,h104,h⟩:=zC h
 obtain⟨r105,h106,h⟩:=zC h
 obtain⟨r107,h108,h⟩:=zC h
 obtain⟨r109,h110,h⟩:=zC h
 obtain⟨r111,h112,h⟩:=zC h
 obtain⟨r113,h114,h⟩:=zC h
 obtain⟨r115,h116,h⟩:=zC h
 obtain⟨r117,h118,h⟩:=zC h
 obtain⟨r119,h120,h⟩:=zC h
 obtain⟨r121,h122,h⟩:=zC h
 obtain⟨r123,h124,h⟩:=zC h
 obtain⟨r125,h126,h⟩:=zC h
 obtain⟨r127,h128,h⟩:=zC h
 obtain⟨r129,h130,h⟩:=zC h
 obtain⟨r131,h132,h⟩:=zC h
 obtain⟨r133,h134,h⟩:=zC h
 obtain⟨r135,h136,h⟩:=zC h
 obtain⟨r137,h138,h⟩:=zC h
 obtain⟨r139,h140,h⟩:=zC h
 obtain⟨r141,h142,h⟩:=zC h
 obtain⟨r143,h144,h⟩:=zC h
 obtain⟨r145,h146,h⟩:=zC h
 obtain⟨r147,h148,h⟩:=zC h
 obtain⟨r149,h150,h⟩:=zC h
 obtain⟨r151,h152,h⟩:=zC h
 obtain⟨r153,h154,h⟩:=zC h
 obtain⟨r155,h156,h⟩:=zC h
 obtain⟨r157,h158,h⟩:=zC h
 obtain⟨r159,h160,h⟩:=zC h
 obtain⟨r161,h162,h⟩:=zC h
 obtain⟨r163,h164,h⟩:=zC h
 obtain⟨r165,h166,h⟩:=zC h
 obtain⟨r167,h168,h⟩:=zC h
 obtain⟨r169,h170,h⟩:=zC h
 obtain⟨r171,h172,h⟩:=zC h
 obtain⟨r173,h174,h⟩:=zC h
 obtain⟨r175,h176,h⟩:=zC h
 obtain⟨r177,h178,h⟩:=zC h
 cases h
 exact tF ⟨func13,rfl⟩ 1 [] (oD (dE [r37,r39,r43,r45,r49,r51,r53,r61,r75,r81,r91,r109,r117,r127,(yI.mk r9.kind r9.name r9.type r9.body r9.fam r9.place r9.pars r9.inds r9.level r9.cons [16,17]),r139,r147,r155,r157,r161,r167,(yI.mk 3 (⟨#[112,108,117,115]⟩:ByteArray) r169 r35 0 0 0 0 0 [] []),(yI.mk 3 (⟨#[105,100]⟩:ByteArray) r173 r177 0 0 0 0 0 [] [])])<|oC 0 [] (c43 h178)<|oC 0 [] (c43 h176)<|oC 0 [] (B4 h16)<|oC 0 [] (B4 h16)<|oC 0 [] (T7 h4)<|oC 0 [] (fP h174)<|oC 0 [] (fP h172)<|oC 0 [] (B4 h14)<|oC 0 [] (B4 h16)<|oC 1 [] (T7 h4)<|oC 0 [] (fP h170)<|oC 3 [] (fP h42)<|oC 0 [] (c45 h168)<|oC 0 [] (fP h166)<|oC 0 [] (T6 h160)<|oC 0 [] (fP h164)<|oC 1 [] (T6 h160)<|oC 0 [] (c45 h162)<|oC 0 [] (T6 h160)<|oC 1 [] (c39 h158)<|oC 0 [] (T7 h4)<|oC 0 [] (c46 h156)<|oC 0 [] (fP h154)<|oC 0 [] (fP h152)<|oC 0 [] (fP h150)<|oC 1 [] (B4 h14)<|oC 0 [] (T7 h4)<|oC 0 [] (T7 h4)<|oC 0 [] (c46 h148)<|oC 0 [] (fP h146)<|oC 0 [] (fP h144)<|oC 0 [] (fP h142)<|oC 1 [] (B4 h66)<|oC 0 [] (T7 h4)<|oC 0 [] (T7 h4)<|oC 0 [] (c45 h140)<|oC 0 [] (fP h138)<|oC 0 [] (fP h136)<|oC 0 [] (fP h134)<|oC 0 [] (fP h132)<|oC 0 [] (c35 h130)<|oS 0 (xO xW [r95,r65])<|oC 0 [] (B4 h66)<|oC 0 [] (B4 h96)<|oC 0 [] (T6 h12)<|oC 0 [] (B4 h14)<|oC 0 [] (B4 h14)<|oC 0 [] (T7 h4)<|oC 1 [] (T7 h4)<|oC 0 [] (c45 h128)<|oC 0 [] (fP h126)<|oC 0 [] (fP h124)<|oC 0 [] (c35 h122)<|oS 0 (xO xW [r13,r15,r15])<|oC 0 [] (B4 h16)<|oC 0 [] (B4 h16)<|oC 0 [] (B4 h14)<|oC 0 [] (T6 h120)<|oC 0 [] (B4 h16)<|oC 0 [] (T7 h4)<|oC 1 [] (c39 h118)<|oC 0 [] (fP h116)<|oC 0 [] (fP h114)<|oC 0 [] (fP h112)<|oC 0 [] (T7 h4)<|oC 0 [] (B4 h14)<|oC 0 [] (B4 h16)<|oC 0 [] (T7 h4)<|oC 0 [] (c45 h110)<|oC 0 [] (fP h108)<|oC 0 [] (fP h106)<|oC 0 [] (fP h104)<|oC 0 [] (fP h102)<|oC 0 [] (c35 h100)<|oS 0 (xO xW [r95,r97])<|oC 0 [] (c35 h98)<|oS 0 (xO xW [r65])<|oC 0 [] (B4 h66)<|oC 0 [] (T6 h24)<|oC 0 [] (B4 h96)<|oC 0 [] (T6 h84)<|oC 0 [] (c35 h94)<|oS 0 (xO xW [r65,r13])<|oC 0 [] (B4 h14)<|oC 0 [] (B4 h66)<|oC 0 [] (T6 h84)<|oC 1 [] (B4 h14)<|oC 0 [] (T7 h4)<|oC 0 [] (c45 h92)<|oC 0 [] (fP h90)<|oC 0 [] (c35 h88)<|oS 0 (xO xW [r15,r85])<|oC 0 [] (T6 h86)<|oC 0 [] (B4 h16)<|oC 0 [] (T6 h84)<|oC 0 [] (T7 h4)<|oC 1 [] (c39 h82)<|oC 0 [] (fP h80)<|oC 0 [] (fP h78)<|oC 1 [] (T7 h4)<|oC 0 [] (T7 h4)<|oC 0 [] (c45 h76)<|oC 0 [] (fP h74)<|oC 0 [] (fP h72)<|oC 0 [] (fP h70)<|oC 0 [] (c35 h68)<|oS 0 (xO xW [r65])<|oC 0 [] (B4 h66)<|oC 0 [] (T6 h56)<|oC 0 [] (c35 h64)<|oS 0 (xO xW [r13])<|oC 0 [] (B4 h14)<|oC 0 [] (T6 h56)<|oC 0 [] (B4 h16)<|oC 0 [] (T7 h4)<|oC 0 [] (c45 h62)<|oC 0 [] (fP h60)<|oC 0 [] (c35 h58)<|oS 0 (xO xW [r15])<|oC 0 [] (B4 h16)<|oC 0 [] (T6 h56)<|oC 0 [] (T7 h4)<|oC 1 [] (c39 h54)<|oC 0 [] (fP h6)<|oC 0 [] (T7 h4)<|oC 0 [] (T7 h4)<|oC 0 [] (c45 h52)<|oC 0 [] (T6 h48)<|oC 0 [] (c45 h50)<|oC 0 [] (T6 h48)<|oC 1 [] (c39 h46)<|oC 0 [] (T7 h4)<|oC 0 [] (c45 h44)<|oC 2 [] (fP h42)<|oC 1 [] (c45 h40)<|oC 1 [] (c39 h38)<|oC 1 [] (T7 h4)<|oC 0 [] (c43 h36)<|oC 0 [] (c43 h34)<|oC 0 [] (c35 h32)<|oS 0 (xO xW [r21,r15,r29,r13])<|oC 0 [] (B4 h14)<|oC 0 [] (c43 h30)<|oC 0 [] (c43 h28)<|oC 0 [] (c35 h26)<|oS 0 (xO xW [r15])<|oC 0 [] (B4 h16)<|oC 2 [] (T6 h24)<|oC 0 [] (B4 h16)<|oC 2 [] (c43 h22)<|oC 3 [] (c44 h20)<|oC 0 [] (c35 h18)<|oS 0 (xO xW [r13,r15])<|oC 0 [] (B4 h16)<|oC 0 [] (B4 h14)<|oC 3 [] (T6 h12)<|oC 1 [] (c39 h10)<|oC 0 [] (fP h8)<|oC 0 [] (fP h6)<|oC 0 [] (T7 h4)<|oC 0 [] (T7 h4)<|oC 1 [] (T7 h4)<|oC 0 [] (T6 h2) o0),tv,zB,dE _,zB⟩
def e32(qq:Nat)(p0:Int):Option ((yV×zZ×zZ×Int×Int×yV×uM) ⊕ ((yV×zZ×zZ×yV×uM) ⊕ ((Int×Int) ⊕ (Unit)))):=
 e13 qq>>=fun r1=>
 e27 qq r1>>=fun r3=>
 match r3 with
 | .inl y10=>
  e28 qq p0>>=fun r11=>
  match r11 with
  | .inl y14=>
   some (.inr (.inr (.inr ())))
  | .inr y13=>
   some (.inr (.inr (.inl (y13.2.1,y13.2.2))))
 | .inr y5=>
  e28 qq p0>>=fun r6=>
  match r6 with
  | .inl y9=>
   some (.inr (.inl (y5.2.1,y5.2.2.1,y5.2.2.2.1,y5.2.2.2.2.1,y5.2.2.2.2.2)))
  | .inr y8=>
   some (.inl (y5.2.1,y5.2.2.1,y5.2.2.2.1,y8.2.1,y8.2.2,y5.2.2.2.2.1,y5.2.2.2.2.2))
section
variable (p0:Int)
abbrev yAy (r:yV×zZ×zZ×Int×Int×yV×uM) (C:Cf):Prop:=C 32 [] [ai p0] (.tup [.mp 0 0,.mp 1 0]) [.cells [zV xJ r.1 .no,.mp 2 0,zV yC r.2.1 .no,zV yC r.2.2.1 .no],.cells [ai r.2.2.2.1,ai r.2.2.2.2.1],.cells [zV xJ r.2.2.2.2.2.1 .no,zV pT r.2.2.2.2.2.2 .no]] 0
abbrev yAx (r:yV×zZ×zZ×yV×uM) (C:Cf):Prop:=C 32 [] [ai p0] (.tup [.mp 0 0,.val (.pointer none)]) [.cells [zV xJ r.1 .no,.mp 1 0,zV yC r.2.1 .no,zV yC r.2.2.1 .no],.cells [zV xJ r.2.2.2.1 .no,zV pT r.2.2.2.2 .no]] 0
abbrev yAw (r:Int×Int) (C:Cf):Prop:=C 32 [] [ai p0] (.tup [.val (.pointer none),.mp 0 0]) [.cells [ai r.1,ai r.2]] 0
abbrev yAv (C:Cf):Prop:=C 32 [] [ai p0] (.tup [.val (.pointer none),.val (.pointer none)]) [] 0
end
theorem q32:Qf 32 Tryz.f32:=⟨func32,rfl⟩
theorem c32{qq p0 r}(h:e32 qq p0=some r):(match (generalizing:=false) r with | .inl x=>yAy p0 x Ct | .inr (.inl x)=>yAx p0 x Ct | .inr (.inr (.inl x))=>yAw p0 x Ct | .inr (.inr (.inr x))=>yAv p0 Ct):=by
 unfold e32 at h
 obtain⟨r1,h2,h⟩:=zC h
 obtain⟨r3,h4,h⟩:=zC h
 have k:=oC 0 [] (c13 h2) o0
 rcases r3 with y10|y5
 dsimp only at h
 obtain⟨r11,h12,h⟩:=zC h
 have k:=oC 0 [] (c27 h4) k
 rcases r11 with y14|y13
 dsimp only at h
 cases h
 exact⟨tF q32 2 [] (oC 2 [] (c28 h12) k),⟨tv,tv⟩,zB,⟨tv,tv,tv⟩,zB⟩
 dsimp only at h
 cases h
 exact⟨tF q32 2 [0] (oC 2 [] (c28 h12) k),⟨tv,tv⟩,zB,⟨tv,(lz rfl),tv⟩,(zA ⟨tv,tv,tv⟩ zB)⟩
 dsimp only at h
 obtain⟨r6,h7,h⟩:=zC h
 have k:=oC 0 [] (c27 h4) k
 rcases r6 with y9|y8
 dsimp only at h
 cases h
 exact⟨tF q32 2 [0,1] (oD (dC y5.2.2.2.2.2)<|oD (dE y5.2.2.2.2.1)<|oD (dI y5.2.2.2.1)<|oD (dI y5.2.2.1)<|oD (dE y5.2.1)<|oC 2 [] (c28 h7) k),⟨tv,tv⟩,zB,⟨(lz rfl),tv,tv⟩,(pW (lz rfl) zB)⟩
 dsimp only at h
 cases h
 exact⟨tF q32 2 [0,2,1] (oD (dC y5.2.2.2.2.2)<|oD (dE y5.2.2.2.2.1)<|oD (dI y5.2.2.2.1)<|oD (dI y5.2.2.1)<|oD (dE y5.2.1)<|oC 2 [] (c28 h7) k),⟨tv,tv⟩,zB,⟨(lz rfl),(lz rfl),tv⟩,(zA ⟨dE _,(lz rfl),dI _,dI _,tv⟩ (zA ⟨tv,tv,tv⟩ (zA ⟨dE _,dC _,tv⟩ zB)))⟩
def e8(qq:Nat)  : Option Bool:=
 e32 qq 50>>=fun r1=>
 match r1 with
 | .inl y3=>
  e33 qq 0>>=fun r4=>
  e33 qq 2>>=fun r6=>
  e21 qq 1>>=fun r8=>
  e35 qq r6 [r8]>>=fun r10=>
  e33 qq 1>>=fun r12=>
  e35 qq r6 [r12]>>=fun r14=>
  e34 qq (wA.mk y3.1 y3.2.2.2.2.2.1 y3.2.2.2.2.2.2 y3.2.1 y3.2.2.1) [(zR.mk 1 r4)] [r10] [r14] y3.2.2.2.1 y3.2.2.2.2.1>>=fun r16=>
  match r16 with
  | .inl y18=>
   if y18.2.1==0 then
   if y18.1.yes_ then
   if (y18.1.solved_.length:Int)==1 then
   zW y18.1.solved_ 0>>=fun x22=>
   if x22.n_==1 then
   some ((y18.1.steps_.length:Int)==2)
   else
   some false
   else
   some false
   else
   some false
   else
   some false
  | .inr (.inl y25)=>
   if y25.2.2.2.1==0 then
   some false
   else
   some false
  | .inr (.inr y27)=>
   if y27.2.2.2.2.1==0 then
   if (y27.2.1.length:Int)==1 then
   zW y27.2.1 0>>=fun x30=>
   if x30.n_==1 then
   some ((y27.2.2.1.length:Int)==2)
   else
   some false
   else
   some false
   else
   some false
 | .inr (.inl y33)=>
  none
 | .inr (.inr (.inl y63))=>
  e33 qq 0>>=fun r64=>
  e33 qq 2>>=fun r66=>
  e21 qq 1>>=fun r68=>
  e35 qq r66 [r68]>>=fun r70=>
  e33 qq 1>>=fun r72=>
  e35 qq r66 [r72]>>=fun r74=>
  cL qq [(zR.mk 1 r64)] [r70] [r74] y63.1 y63.2>>=fun r76=>
  if r76.2==0 then
  if r76.1.yes_ then
  if (r76.1.solved_.length:Int)==1 then
  zW r76.1.solved_ 0>>=fun x81=>
  if x81.n_==1 then
  some ((r76.1.steps_.length:Int)==2)
  else
  some false
  else
  some false
  else
  some false
  else
  some false
 | .inr (.inr (.inr y84))=>
  none
theorem q8:Qf 8 Tryz.f8:=⟨func8,rfl⟩
theorem c8{qq r}(h:e8 qq  = some r):Ct 8 [] [] (ab r) [] 0:=⟨(by
 unfold e8 at h
 obtain⟨r1,h2,h⟩:=zC h
 rcases r1 with y3 | (y33 | (y63|y84))
 dsimp only at h
 obtain⟨r4,h5,h⟩:=zC h
 obtain⟨r6,h7,h⟩:=zC h
 obtain⟨r8,h9,h⟩:=zC h
 obtain⟨r10,h11,h⟩:=zC h
 obtain⟨r12,h13,h⟩:=zC h
 obtain⟨r14,h15,h⟩:=zC h
 obtain⟨r16,h17,h⟩:=zC h
 have k:=oS 0 (xO xW [r14])<|oC 0 [] (c35 h15)<|oS 0 (xO xW [r12])<|oC 0 [] (T6 h13)<|oC 0 [] (T6 h7)<|oS 0 (xO xW [r10])<|oC 0 [] (c35 h11)<|oS 0 (xO xW [r8])<|oC 0 [] (c21 h9)<|oC 3 [] (T6 h7)<|oC 2 [] (T6 h5)<|oC 0 [] (c32 h2) o0
 rcases r16 with y18 | (y25|y27)
 dsimp only at h
 have k:=oC 0 [0,2,1] (c34 h17) k
 obtain⟨h19,h⟩|⟨h19,h⟩:=zU h
 have k:=oB 3 h19 k
 obtain⟨h20,h⟩|⟨h20,h⟩:=zU h
 have k:=oB 0 h20 k
 obtain⟨h21,h⟩|⟨h21,h⟩:=zU h
 obtain⟨x22,h23,h⟩:=zC h
 have k:=oA 1 (zRS (o:=.no) h23)<|oB 2 h21 k
 obtain⟨h24,h⟩|⟨h24,h⟩:=zU h
 cases h
 exact tF q8 3 [] (oB 1 h24 k)
 cases h
 exact tF q8 0 [] (oB 1 h24 k)
 cases h
 exact tF q8 0 [] (oB 2 h21 k)
 cases h
 exact tF q8 0 [] (oB 0 h20 k)
 cases h
 exact tF q8 0 [] (oB 3 h19 k)
 dsimp only at h
 have k:=oC 0 [0,2,1] (c34 h17) k
 obtain⟨h26,h⟩|⟨h26,h⟩:=zU h
 cases h
 exact tF q8 1 [] (oB 3 h26 k)
 cases h
 exact tF q8 0 [] (oB 3 h26 k)
 dsimp only at h
 have k:=oC 0 [0,2,1] (c34 h17) k
 obtain⟨h28,h⟩|⟨h28,h⟩:=zU h
 have k:=oB 3 h28 k
 obtain⟨h29,h⟩|⟨h29,h⟩:=zU h
 obtain⟨x30,h31,h⟩:=zC h
 have k:=oA 1 (zRS (o:=.no) h31)<|oB 3 h29 k
 obtain⟨h32,h⟩|⟨h32,h⟩:=zU h
 cases h
 exact tF q8 3 [] (oB 1 h32 k)
 cases h
 exact tF q8 0 [] (oB 1 h32 k)
 cases h
 exact tF q8 0 [] (oB 3 h29 k)
 cases h
 exact tF q8 0 [] (oB 3 h28 k)
 cases h
 dsimp only at h
 obtain⟨r64,h65,h⟩:=zC h
 obtain⟨r66,h67,h⟩:=zC h
 obtain⟨r68,h69,h⟩:=zC h
 obtain⟨r70,h71,h⟩:=zC h
 obtain⟨r72,h73,h⟩:=zC h
 obtain⟨r74,h75,h⟩:=zC h
 obtain⟨r76,h77,h⟩:=zC h
 have k:=oC 0 [0] (zKa h77)<|oS 0 (xO xW [r74])<|oC 0 [] (c35 h75)<|oS 0 (xO xW [r72])<|oC 0 [] (T6 h73)<|oC 0 [] (T6 h67)<|oS 0 (xO xW [r70])<|oC 0 [] (c35 h71)<|oS 0 (xO xW [r68])<|oC 0 [] (c21 h69)<|oC 3 [] (T6 h67)<|oC 2 [] (T6 h65)<|oC 0 [] (c32 h2) o0
 obtain⟨h78,h⟩|⟨h78,h⟩:=zU h
 have k:=oB 3 h78 k
 obtain⟨h79,h⟩|⟨h79,h⟩:=zU h
 have k:=oB 0 h79 k
 obtain⟨h80,h⟩|⟨h80,h⟩:=zU h
 obtain⟨x81,h82,h⟩:=zC h
 have k:=oA 1 (zRS (o:=.no) h82)<|oB 2 h80 k
 obtain⟨h83,h⟩|⟨h83,h⟩:=zU h
 cases h
 exact tF q8 3 [] (oB 1 h83 k)
 cases h
 exact tF q8 0 [] (oB 1 h83 k)
 cases h
 exact tF q8 0 [] (oB 2 h80 k)
 cases h
 exact tF q8 0 [] (oB 0 h79 k)
 cases h
 exact tF q8 0 [] (oB 3 h78 k)
 cases h),tv,zB,tv,zB⟩
def e9(qq:Nat)(p0:yV)(p1:uO):Option (yR×Int):=
 e27 qq p0>>=fun r1=>
 match r1 with
 | .inl y18=>
  e28 qq p1.fuel_>>=fun r19=>
  match r19 with
  | .inl y24=>
   none
  | .inr y21=>
   cL qq p1.c_ p1.a_ p1.b_ y21.2.1 y21.2.2>>=fun r22=>
   some (r22.1,r22.2)
 | .inr y3=>
  e28 qq p1.fuel_>>=fun r4=>
  match r4 with
  | .inl y12=>
   none
  | .inr y6=>
   e34 qq (wA.mk y3.2.1 y3.2.2.2.2.1 y3.2.2.2.2.2 y3.2.2.1 y3.2.2.2.1) p1.c_ p1.a_ p1.b_ y6.2.1 y6.2.2>>=fun r7=>
   match r7 with
   | .inl y9=>
    some (y9.1,y9.2.1)
   | .inr (.inl y10)=>
    some ((yR.mk false y10.2.1 y10.2.2.1 y10.1),y10.2.2.2.1)
   | .inr (.inr y11)=>
    some ((yR.mk true y11.1 y11.2.1 y11.2.2.1),y11.2.2.2.2.1)
theorem q9:Qf 9 f9:=⟨func9,rfl⟩
theorem c9{qq p0 p1 r}(h:e9 qq p0 p1=some r):Ct 9 [] [zV xJ p0 .no,z8 p1] (.tup [vJ r.1,ai r.2]) [] 0:=⟨by
 unfold e9 at h
 obtain⟨r1,h2,h⟩:=zC h
 rcases r1 with y18|y3
 dsimp only at h
 obtain⟨r19,h20,h⟩:=zC h
 have k:=oC 0 [] (c27 h2) o0
 rcases r19 with y24|y21
 cases h
 dsimp only at h
 obtain⟨r22,h23,h⟩:=zC h
 cases h
 exact tF q9 3 [] (oD (dI r22.1.steps_)<|oD (zK r22.1.solved_)<|oD (zF r22.1.vars_)<|oC 5 [2] (zKa h23)<|oC 3 [] (c28 h20) k)
 dsimp only at h
 obtain⟨r4,h5,h⟩:=zC h
 have k:=oC 0 [] (c27 h2) o0
 rcases r4 with y12|y6
 cases h
 dsimp only at h
 obtain⟨r7,h8,h⟩:=zC h
 have k:=oC 3 [] (c28 h5) k
 rcases r7 with y9 | (y10|y11)
 dsimp only at h
 cases h
 exact tF q9 3 [] (oD (dI y9.1.steps_)<|oD (zK y9.1.solved_)<|oD (zF y9.1.vars_)<|oC 5 [2,3,4] (c34 h8) k)
 dsimp only at h
 cases h
 exact tF q9 3 [] (oD (dI y10.1)<|oD (zK y10.2.2.1)<|oD (zF y10.2.1)<|oC 5 [2,3,4] (c34 h8) k)
 dsimp only at h
 cases h
 exact tF q9 3 [] (oD (dI y11.2.2.1)<|oD (zK y11.2.1)<|oD (zF y11.1)<|oC 5 [2,3,4] (c34 h8) k),⟨⟨tv,dE _⟩,⟨⟨tv,zF _⟩,⟨tv,dT _⟩,⟨tv,dT _⟩,tv,tv⟩,tv⟩,zB,⟨⟨tv,zF _,zK _,dI _,tv⟩,tv,tv⟩,zB⟩
theorem zTZ(q:Nat):e8 (q+400)=some true:=by kernel_rfl
theorem zII:zJ (fun q=>e8 q) true:=⟨400,fun q hq=>by
 obtain⟨k,rfl⟩:∃k,q=k+400:=⟨q-400,by omega⟩
 exact zTZ k⟩
theorem Q8(D:List vT)(hl:D.length≤1048576):∀(r:List vT) (v:Nat) (acc:List Tm),D.drop v=r->v≤D.length->acc=(D.take v).map (·.type_)->zJ (fun q=>B3 q D acc (v:Int)) (D.map (·.type_))
 | [],v,acc,hd,hv,ha=>by
  refine zJ.succ ?_
  simp only[B3]
  refine zJ.ifF (yH hd) (zJ.ret.eq ?_)
  rw[ha,List.take_of_length_le (List.drop_eq_nil_iff.1 hd)]
 |x::r,v,acc,hd,hv,ha=>by
  have hlt:=yL hd
  refine zJ.succ ?_
  simp only[B3]
  refine zJ.ifT (yG hd) (zJ.pure (yD hd) (zJ.pure (yK (by rw[ha];simp;omega)) ?_))
  rw[yA v (by omega)]
  exact Q8 D hl r (v+1) _ (zY hd) hlt (by rw[oX hd,List.map_append,ha];rfl)
theorem J5(L:List Tm)(hl:L.length≤1048576):∀(r:List Tm) (v:Nat),L.drop v=r->zN (fun q=>zAu q L (v:Int)) fun _=>True
 | [],v,hd=>by
  refine zN.succ ?_
  simp only[zAu]
  refine zN.ite (fun h=>?_) fun _=>zN.ret trivial
  rw[yH hd]at h;cases h
 |x::r,v,hd=>by
  have hlt:=yL hd
  refine zN.succ ?_
  simp only[zAu]
  refine zN.ite (fun _=>zN.pure (yD hd) (zN.bind (P:=fun _=>True) ((zFT x).tot trivial) fun s _=>zN.ite (fun _=>zN.ret trivial) fun _=>?_)) fun h=>?_
  ·rw[yA v (by omega)]
   exact J5 L hl r (v+1) (zY hd)
  ·rw[yG hd]at h;cases h
structure zKB (x:uO):Prop where
 c:x.c_.length≤12
 a:x.a_.length≤8
 b:x.b_.length≤8
 f0:0≤x.fuel_
 f1:x.fuel_≤400
theorem zGe(x:uO):zN (fun q=>e7 q x) fun b=>b=true->zKB x:=by
 simp only[e7]
 refine zN.ite (fun _=>zN.ret fun h=>by cases h) fun h1=>zN.ite (fun _=>zN.ret fun h=>by cases h) fun h2=>zN.ite (fun _=>zN.ret fun h=>by cases h) fun h3=>zN.ite (fun _=>zN.ret fun h=>by cases h) fun h4=>zN.ite (fun _=>zN.ret fun h=>by cases h) fun h5=>?_
 have h1:=of_decide_eq_false h1
 have h2:=of_decide_eq_false h2
 have h3:=of_decide_eq_false h3
 have h4:=of_decide_eq_false h4
 have h5:=of_decide_eq_false h5
 have hL:zKB x:=⟨by omega,by omega,by omega,by omega,by omega⟩
 have hof:(ofV x.c_).length=x.c_.length:=by unfold ofV;rw[List.length_map]
 have ht:zJ (fun q=>e31 q (ofV x.c_)) ((ofV x.c_).map (·.type_)):=by
  simp only[e31]
  exact Q8 (ofV x.c_) (by omega) _ 0 [] rfl (Nat.zero_le _) rfl
 have hm:((ofV x.c_).map (fun v:vT=>v.type_)).length≤12:=by rw[List.length_map];omega
 refine zN.bind (P:=fun r=>r=ofV x.c_) ((zUF x.c_ (by omega)).tot rfl) fun r6 h6=>?_
 subst h6
 refine zN.bind (P:=fun r=>r=(ofV x.c_).map (·.type_)) (ht.tot rfl) fun r8 h8=>?_
 subst h8
 refine zN.pure (yK (by simp only[List.length_nil];omega)) (zN.pure (yK (by simp only[List.nil_append];omega)) (zN.pure (yK (by simp only[List.nil_append,List.length_append];omega)) ?_))
 refine(J5 _ ?_ _ 0 rfl).mono fun b _ _=>hL
 simp only[List.nil_append,List.length_append]
 omega
def yCo(l:List yI)(x:uO)(r:yR×Int):Prop:=
 r.2≠0∨((∃N,wP N l)∧zFU x.c_∧x.a_.length=x.b_.length∧(∀e∈tD x.a_ x.b_,uN l e.a_∧uN l e.b_)∧(∀w∈x.c_,uN l w.type_) ∧
  ((∃s,Un l x.c_ (tD x.a_ x.b_) [] none∧r=(yR.mk false [] [] s,0))∨∃c' so' s,Un l x.c_ (tD x.a_ x.b_) [] (some (c',so'))∧r=(yR.mk true c' so' s,0)))
structure zIJ (x:uO):Prop where
 c:∀v∈x.c_,v.type_.Ok
 a:∀t∈x.a_,t.Ok
 b:∀t∈x.b_,t.Ok
theorem zGd(l:List yI)(x:uO)(hl:l.length≤60)(he:∀e∈l,eK e)(hc:∀e∈l,ECl e)(hL:zKB x)(ho:zIJ x):zN (fun q=>e9 q l x) (yCo l x):=by
 have l1:=hL.c
 have l2:=hL.a
 have l3:=hL.f0
 have l4:=hL.f1
 simp only[e9]
 rcases zIl l hl he hc with hn|⟨N,hE,hn⟩
 ·refine zN.bind (P:=fun r=>r = .inl 5) ((hn.eq (show zCQ l false = .inl 5 from rfl)).tot rfl) fun r1 h1=>?_
  subst h1
  refine zN.bind (P:=fun r=>r = .inr (0,x.fuel_,0)) ((zDr x.fuel_ l3 (by omega)).tot rfl) fun r2 h2=>?_
  subst h2
  have hz:zJ (fun q=>cL q x.c_ x.a_ x.b_ x.fuel_ 0) (yR.mk false [] [] [],5):=by
   simp only[cL,W8]
   exact zJ.pure (a:=()) rfl zJ.ret
  exact zN.bind (P:=fun r=>r=(yR.mk false [] [] [],5)) (hz.tot rfl) fun r h=>zN.ret (.inl (by rw[h];show (5:Int)≠0;decide))
 ·refine zN.bind (P:=fun r=>r=zCQ l true) (hn.tot rfl) fun r1 h1=>?_
  subst h1
  simp only[zCQ,if_true]
  refine zN.bind (P:=fun r=>r = .inr (0,x.fuel_,0)) ((zDr x.fuel_ l3 (by omega)).tot rfl) fun r2 h2=>?_
  subst h2
  refine(zIG hE he (by omega) hc x.c_ x.a_ x.b_ ho.a ho.b (by omega) (by omega) ho.c x.fuel_ 0 l3 (by omega) (Int.le_refl 0) (by omega)).bind fun r h=>?_
  rcases h with⟨a,e,fl,fu,e0,rfl⟩|⟨h1,h2,h3,h4,h5⟩
  ·exact zN.ret (.inl e0)
  ·cases h5 with
   |err e0=>exact zN.ret (.inl e0)
   |no _ hU=>exact zN.ret (.inr ⟨⟨N,hE⟩,h1,h2,h3,h4,.inl ⟨_,hU,rfl⟩⟩)
   |yes _ hU=>exact zN.ret (.inr ⟨⟨N,hE⟩,h1,h2,h3,h4,.inr ⟨_,_,_,hU,rfl⟩⟩)
open Go.RowKit Go.Proofs
theorem zQQ:∀ {l:List Tm},(∀t∈l,t.Ok)->mX l
 | [],_=>trivial
 |t::l,h=>⟨h t (by simp),zQQ fun u hu=>h u (by simp[hu])⟩
theorem zDd:∀ {l:List Tm},mX l->∀x∈l,x.Ok
 | [],_,_,h=>nomatch h
 |a::l,⟨h1,h2⟩,x,hx=>by
  rcases List.mem_cons.1 hx with rfl|hx
  ·exact h1
  ·exact zDd h2 x hx
theorem zBO{H:Type}{enc:TypeId×Value->H}{W:World}{n:Nat}{c2:Value}{x:DataW H×List MemPlace}(f2:DataW.trod enc prog W 0 (fun _=>true) true n 24 [c2]=some x)(hw:Wt prog 24 x.1) :
  ∃l:List Tm,V (rdG W) W (.sl (zG zD l) l.length .no) c2∧mX l∧l.length≤17592186044416:=by
 obtain⟨l,h1,h3,h2⟩:=zBs zD 3 oH.len (by omega) (Q:=Tm.Ok) Tryz.underlying24 (by kernel_rfl) (fun m _ cs x h _=>by
  obtain⟨t,a,b⟩:=zJm m cs x h
  exact⟨t,by rw[xW];exact a,b⟩) f2 hw
 refine⟨l,h1,zQQ h3,?_⟩
 have:prog.bytesOf 39=40:=by kernel_rfl
 rw[this]at h2
 have:reachBytes=140737488351232:=rfl
 omega
theorem zQR{α:Type}(l:List α)(h:l.length=4):∃c0 c1 c2 c3,l=[c0,c1,c2,c3]:=by
 rcases l with _|⟨c0,_|⟨c1,_|⟨c2,_|⟨c3,_|⟨zz,zs⟩⟩⟩⟩⟩<;>simp only[List.length_nil,List.length_cons]at h<;>first|exact⟨c0,c1,c2,c3,rfl⟩|omega
theorem yAu{α:Type}(l:List α)(h:l.length=2):∃c0 c1,l=[c0,c1]:=by
 rcases l with _|⟨c0,_|⟨c1,_|⟨zz,zs⟩⟩⟩<;>simp only[List.length_nil,List.length_cons]at h<;>first|exact⟨c0,c1,rfl⟩|omega
theorem zGc{H:Type}{enc:TypeId×Value->H}{W:World}(fuel:Nat):∀(cs:List Value) (x:DataW H×List MemPlace),DataW.trod enc prog W 0 (fun _=>true) true fuel 77 cs=some x->Wt prog 77 x.1->∃e:zR,VL (rdG W) W (zI e) cs∧(fun v=>v.type_.Ok) e:=by
 intro cs x h hw
 obtain⟨xs,n,hn,hx,hlen,hxs,hf⟩:=DataW.trod_struct Tryz.underlying77 h
 rw[hx]at hw
 have cc:prog.cellsOf 77=4:=by kernel_rfl
 obtain⟨c0,c1,c2,c3,rfl⟩:=zQR cs (hlen.trans cc)
 obtain⟨y0,y1,rfl⟩:=yAu xs hxs
 have k3:prog.cellsOf 3=1:=by kernel_rfl
 have k39:prog.cellsOf 39=3:=by kernel_rfl
 have f0:DataW.trod enc prog W 0 (fun _=>true) true n 3 ((List.drop 0 [c0,c1,c2,c3]).take (prog.cellsOf 3))=some y0:=hf 0 _ rfl
 rw[k3]at f0
 replace f0:DataW.trod enc prog W 0 (fun _=>true) true n 3 [c0]=some y0:=f0
 have w0:Wt prog 3 y0.1:=jK Tryz.underlying77 hw (i:=0) rfl rfl
 have f1:DataW.trod enc prog W 0 (fun _=>true) true n 39 ((List.drop 1 [c0,c1,c2,c3]).take (prog.cellsOf 39))=some y1:=hf 1 _ rfl
 rw[k39]at f1
 replace f1:DataW.trod enc prog W 0 (fun _=>true) true n 39 [c1,c2,c3]=some y1:=f1
 have w1:Wt prog 39 y1.1:=jK Tryz.underlying77 hw (i:=1) rfl rfl
 obtain⟨n0,e0,-,-⟩:=DataW.trod_int Tryz.underlying3 f0
 cases e0
 obtain⟨l1,v1,o1⟩:=zJm n _ _ f1
 simp only[cS,VL]at v1
 refine⟨zR.mk n0 l1,?_,o1⟩
 simp only[zI]
 simp only[VL]
 exact⟨by simp only[V],v1.1,v1.2.1,v1.2.2.1,trivial⟩
theorem zGb{H:Type}{enc:TypeId×Value->H}{W:World}(fuel:Nat):∀(cs:List Value) (x:DataW H×List MemPlace),DataW.trod enc prog W 0 (fun _=>true) true fuel 26 cs=some x->Wt prog 26 x.1->∃e:uO,VL (rdG W) W (jJ e) cs∧zIJ e:=by
 intro cs x h hw
 obtain⟨xs,n,hn,hx,hlen,hxs,hf⟩:=DataW.trod_struct Tryz.underlying26 h
 rw[hx]at hw
 have cc:prog.cellsOf 26=4:=by kernel_rfl
 obtain⟨c0,c1,c2,c3,rfl⟩:=zQR cs (hlen.trans cc)
 obtain⟨y0,y1,y2,y3,rfl⟩:=zQR xs hxs
 have k3:prog.cellsOf 3=1:=by kernel_rfl
 have k23:prog.cellsOf 23=1:=by kernel_rfl
 have k24:prog.cellsOf 24=1:=by kernel_rfl
 have f0:DataW.trod enc prog W 0 (fun _=>true) true n 23 ((List.drop 0 [c0,c1,c2,c3]).take (prog.cellsOf 23))=some y0:=hf 0 _ rfl
 rw[k23]at f0
 replace f0:DataW.trod enc prog W 0 (fun _=>true) true n 23 [c0]=some y0:=f0
 have w0:Wt prog 23 y0.1:=jK Tryz.underlying26 hw (i:=0) rfl rfl
 have f1:DataW.trod enc prog W 0 (fun _=>true) true n 24 ((List.drop 1 [c0,c1,c2,c3]).take (prog.cellsOf 24))=some y1:=hf 1 _ rfl
 rw[k24]at f1
 replace f1:DataW.trod enc prog W 0 (fun _=>true) true n 24 [c1]=some y1:=f1
 have w1:Wt prog 24 y1.1:=jK Tryz.underlying26 hw (i:=1) rfl rfl
 have f2:DataW.trod enc prog W 0 (fun _=>true) true n 24 ((List.drop 2 [c0,c1,c2,c3]).take (prog.cellsOf 24))=some y2:=hf 2 _ rfl
 rw[k24]at f2
 replace f2:DataW.trod enc prog W 0 (fun _=>true) true n 24 [c2]=some y2:=f2
 have w2:Wt prog 24 y2.1:=jK Tryz.underlying26 hw (i:=2) rfl rfl
 have f3:DataW.trod enc prog W 0 (fun _=>true) true n 3 ((List.drop 3 [c0,c1,c2,c3]).take (prog.cellsOf 3))=some y3:=hf 3 _ rfl
 rw[k3]at f3
 replace f3:DataW.trod enc prog W 0 (fun _=>true) true n 3 [c3]=some y3:=f3
 have w3:Wt prog 3 y3.1:=jK Tryz.underlying26 hw (i:=3) rfl rfl
 obtain⟨l0,v0,o0,b0⟩:=zBs zI 4 wL.len (by omega) (Q:=(fun v=>v.type_.Ok)) Tryz.underlying23 (by kernel_rfl) (fun m _ cs x h hw=>zGc m cs x h hw) (n:=n) f0 w0
 have b0:l0.length≤17592186044416:=by
  have hb:prog.bytesOf 77=48:=by kernel_rfl
  rw[hb]at b0
  have:reachBytes=140737488351232:=rfl
  omega
 obtain⟨l1,v1,o1,b1⟩:=zBO f1 w1
 obtain⟨l2,v2,o2,b2⟩:=zBO f2 w2
 obtain⟨n3,e3,-,-⟩:=DataW.trod_int Tryz.underlying3 f3
 cases e3
 refine⟨uO.mk l0 l1 l2 n3,?_,⟨o0,zDd o1,zDd o2⟩⟩
 simp only[jJ]
 simp only[VL]
 exact⟨v0,v1,v2,by simp only[V],trivial⟩
theorem zGa{H:Type}{enc:TypeId×Value->H}{W:World}{v:Value}{d:DataW H}{p:List MemPlace}(h:DataW.Trod enc prog W 0 (fun _=>true) true 26 v d p)(hw:Wt prog 26 d):∃e:uO,V (rdG W) W (.agg (jJ e)) v∧zIJ e:=by
 obtain⟨fuel,hf⟩:=h
 have hlen:v.cells.toList.length=4:=by
  obtain⟨xs,n,hn,hx,hlen,hxs,-⟩:=DataW.trod_struct Tryz.underlying26 hf
  exact hlen.trans (by kernel_rfl)
 obtain⟨e,he,hr⟩:=zGb fuel _ _ hf hw
 refine⟨e,?_,hr⟩
 cases v with
 |agg cs=>simp only[V];exact⟨_,rfl,by simpa[Value.cells]using he⟩
 |_=>simp[Value.cells]at hlen
def jA:Nat->zZ->Int->zZ->Bool->Int->Option zZ
 |0,_,_,_,_,_=>none
 |qq+1,p0,p1,v5,v6,v7=>
 if v6 then
 if decide (v7<(p0.length:Int))then
 zW p0 v7>>=fun x2=>
 xF 8 v5 [x2]>>=fun l4=>
 jA qq p0 p1 l4 true (xL (v7+1))
 else
 some v5
 else
 if decide (v7<(p0.length:Int))then
 zW p0 v7>>=fun x7=>
 if decide (x7≥p1)then
 if decide (x7>p1)then
 xF 8 v5 [p1]>>=fun l11=>
 xF 8 l11 [x7]>>=fun l13=>
 jA qq p0 p1 l13 true (xL (v7+1))
 else
 xF 8 v5 [x7]>>=fun l15=>
 jA qq p0 p1 l15 true (xL (v7+1))
 else
 xF 8 v5 [x7]>>=fun l17=>
 jA qq p0 p1 l17 false (xL (v7+1))
 else
 xF 8 v5 [p1]>>=fun l19=>
 some l19
def e50(qq:Nat)(p0:zZ)(p1:Int):Option zZ:=
 jA qq p0 p1 [] false 0
theorem zWS:∀qq:Nat,(∀ {p0 p1 v5 v6 v7 r},jA qq p0 p1 v5 v6 v7=some r->(∀j,dL 0 (pt 16309 f50) (sp j 49 0 [(0,zV yC p0 .no),(1,ai p1),(5,zV yC v5 (.st 0 1)),(6,ab v6),(7,ai v7)]) (⟨[],0,[0],1,[]⟩) (fQ 0 (nQ 0 f50 (.sl (zG yC r) r.length .no) [] 0) [.blk 0,.seq (pt 255 f50)]))):=by
 intro qq
 induction qq with
 |zero=>
  exact fun h=>nn h
 |succ qq ih=>
  intro p0 p1 v5 v6 v7 r h
  rw[jA]at h
  cases v6
  replace h:=ifF rfl h
  obtain⟨h6,h⟩|⟨h6,h⟩:=zU h
  obtain⟨x7,h8,h⟩:=zC h
  have k:=oA 1 (nI (o:=.no) h8)<|oB 1 h6 o0
  obtain⟨h9,h⟩|⟨h9,h⟩:=zU h
  have k:=oA 0 (nI (o:=.no) h8)<|oB 1 h9 k
  obtain⟨h10,h⟩|⟨h10,h⟩:=zU h
  obtain⟨l11,h12,h⟩:=zC h
  obtain⟨l13,h14,h⟩:=zC h
  exact fun j=>lH 1 [] [] [2] [0,1,5,6,7] (oD (dI l13)<|oD (dI p0)<|oP 2 (qF h14 (by simp))<|oA 0 (nI (o:=.no) h8)<|oP 1 (qF h12 (by simp))<|oB 1 h10 k) (ih h)
  obtain⟨l15,h16,h⟩:=zC h
  exact fun j=>lH 1 [] [] [1] [0,1,5,6,7] (oD (dI l15)<|oD (dI p0)<|oP 2 (qF h16 (by simp))<|oA 0 (nI (o:=.no) h8)<|oB 1 h10 k) (ih h)
  obtain⟨l17,h18,h⟩:=zC h
  exact fun j=>lH 1 [] [] [1] [0,1,5,6,7] (oD (dI l17)<|oD (dI p0)<|oP 2 (qF h18 (by simp))<|oA 0 (nI (o:=.no) h8)<|oB 1 h9 k) (ih h)
  obtain⟨l19,h20,h⟩:=zC h
  obtain rfl:=sj h
  exact fun j=>lF 0 [] (oD (dI l19)<|oP 2 (qF h20 (by simp))<|oB 1 h6 o0)
  replace h:=ifT rfl h
  obtain⟨h1,h⟩|⟨h1,h⟩:=zU h
  obtain⟨x2,h3,h⟩:=zC h
  obtain⟨l4,h5,h⟩:=zC h
  exact fun j=>lH 1 [] [] [1] [0,1,5,6,7] (oD (dI l4)<|oD (dI p0)<|oP 2 (qF h5 (by simp))<|oA 1 (nI (o:=.no) h3)<|oB 1 h1 o0) (ih h)
  obtain rfl:=sj h
  exact fun j=>lF 1 [] (oD (dI v5)<|oB 1 h1 o0)
theorem c50{qq p0 p1 r}(h:e50 qq p0 p1=some r):Ct 50 [] [zV yC p0 .no,ai p1] (.sl (zG yC r) r.length .no) [] 0:=⟨by
 unfold e50 at h
 exact tH ⟨func50,rfl⟩ 1 [(none,5,1)] [] [0] [0,1,5,6,7] (oD (dI ([]:zZ))<|oD (dI p0) o0) (zWS _ h),⟨⟨tv,dI _⟩,tv,tv⟩,zB,dI _,zB⟩
mutual
def e18:Nat->Tm->Int->Int->Option zZ
 |0,_,_,_=>none
 |qq+1,p0,p1,p2=>
 if p0.k==p1 then
 xF 8 ([]:zZ) [p0.n]>>=fun l2=>
 lT qq p0 p1 p2 l2 0
 else
 if p0.k==p2 then
 xF 8 ([]:zZ) [p0.n]>>=fun l5=>
 lT qq p0 p1 p2 l5 0
 else
 lT qq p0 p1 p2 [] 0
def lT:Nat->Tm->Int->Int->zZ->Int->Option zZ
 |0,_,_,_,_,_=>none
 |qq+1,p0,p1,p2,v7,v8=>
 if decide (v8<(p0.sub.length:Int))then
 zW p0.sub v8>>=fun x5=>
 e18 qq x5 p1 p2>>=fun r7=>
 B5 qq p0 p1 p2 v8 r7 0 v7
 else
 some v7
def B5:Nat->Tm->Int->Int->Int->zZ->Int->zZ->Option zZ
 |0,_,_,_,_,_,_,_=>none
 |qq+1,p0,p1,p2,v8,r7,v10,v7=>
 if decide (v10<(r7.length:Int))then
 zW r7 v10>>=fun x10=>
 e50 qq v7 x10>>=fun r12=>
 B5 qq p0 p1 p2 v8 r7 (xL (v10+1)) r12
 else
 lT qq p0 p1 p2 v7 (xL (v8+1))
end
abbrev K18 (p0:Tm) (p1 p2:Int) (r:zZ) (C:Cf):Prop:=C 18 [] [yY p0,ai p1,ai p2] (.sl (zG yC r) r.length .no) [] 0
theorem xC:Qf 18 Tryz.f18:=⟨func18,rfl⟩
theorem k18{p0 p1 p2 r}(h:K18 p0 p1 p2 r Ci):K18 p0 p1 p2 r Ct:=⟨h,⟨⟨tv,tv,⟨tv,dT _⟩,tv⟩,tv,tv,tv⟩,zB,dI _,zB⟩
theorem V0:∀qq:Nat,(∀ {p0 p1 p2 r},e18 qq p0 p1 p2=some r->K18 p0 p1 p2 r Ct)∧(∀ {p0 p1 p2 v7 v8 r},lT qq p0 p1 p2 v7 v8=some r->(∀j,dL 0 (pt 16309 Tryz.f18) (sp j 55 0 [(1,ai p1),(2,ai p2),(3,.mp 0 0),(7,zV yC v7 (.st 0 1)),(8,ai v8)]) (⟨[(0,.cells [ai p0.k,ai p0.n,zV zD p0.sub .no])],1,[0],1,[]⟩) (fQ 0 (nQ 0 Tryz.f18 (.sl (zG yC r) r.length .no) [] 0) [.blk 0,.seq (pt 255 Tryz.f18)]))∧(∀j,dL 0 (pt 16309 Tryz.f18) (sp j 55 0 [(1,ai p1),(2,ai p2),(3,.mp 0 0),(7,zV yC v7 .no),(8,ai v8)]) (⟨[(0,.cells [ai p0.k,ai p0.n,zV zD p0.sub .no])],1,[],0,[]⟩) (fQ 0 (nQ 0 Tryz.f18 (.sl (zG yC r) r.length .no) [] 0) [.blk 0,.seq (pt 255 Tryz.f18)]))∧(∀j,dL 0 (pt 16309 Tryz.f18) (sp j 55 0 [(1,ai p1),(2,ai p2),(3,.mp 0 0),(7,zV yC v7 .full),(8,ai v8)]) (⟨[(0,.cells [ai p0.k,ai p0.n,zV zD p0.sub .no])],1,[],0,[]⟩) (fQ 0 (nQ 0 Tryz.f18 (.sl (zG yC r) r.length .no) [] 0) [.blk 0,.seq (pt 255 Tryz.f18)])))∧(∀ {p0 p1 p2 v8 r7 v10 v7 r},B5 qq p0 p1 p2 v8 r7 v10 v7=some r->(∀j,dL 0 (pt 267221493 Tryz.f18) (sp j 55 0 [(1,ai p1),(2,ai p2),(3,.mp 0 0),(7,zV yC v7 (.st 0 1)),(8,ai v8),(9,zV yC r7 .no),(10,ai v10)]) (⟨[(0,.cells [ai p0.k,ai p0.n,zV zD p0.sub .no])],1,[0],1,[]⟩) (fQ 0 (nQ 0 Tryz.f18 (.sl (zG yC r) r.length .no) [] 0) [.blk 2,.blk 1,.seq (pt 260959 Tryz.f18),.loop (pt 16309 Tryz.f18),.blk 0,.seq (pt 255 Tryz.f18)]))∧(∀j,dL 0 (pt 267221493 Tryz.f18) (sp j 55 0 [(1,ai p1),(2,ai p2),(3,.mp 0 0),(7,zV yC v7 .no),(8,ai v8),(9,zV yC r7 .no),(10,ai v10)]) (⟨[(0,.cells [ai p0.k,ai p0.n,zV zD p0.sub .no])],1,[],0,[]⟩) (fQ 0 (nQ 0 Tryz.f18 (.sl (zG yC r) r.length .no) [] 0) [.blk 2,.blk 1,.seq (pt 260959 Tryz.f18),.loop (pt 16309 Tryz.f18),.blk 0,.seq (pt 255 Tryz.f18)]))∧(∀j,dL 0 (pt 267221493 Tryz.f18) (sp j 55 0 [(1,ai p1),(2,ai p2),(3,.mp 0 0),(7,zV yC v7 .full),(8,ai v8),(9,zV yC r7 .no),(10,ai v10)]) (⟨[(0,.cells [ai p0.k,ai p0.n,zV zD p0.sub .no])],1,[],0,[]⟩) (fQ 0 (nQ 0 Tryz.f18 (.sl (zG yC r) r.length .no) [] 0) [.blk 2,.blk 1,.seq (pt 260959 Tryz.f18),.loop (pt 16309 Tryz.f18),.blk 0,.seq (pt 255 Tryz.f18)]))):=by
 intro qq
 induction qq with
 |zero=>
  exact⟨fun h=>nn h,fun h=>nn h,fun h=>nn h⟩
 |succ qq ih=>
  obtain⟨zWU,cM,cN⟩:=ih
  refine⟨?_,?_,?_⟩
  intro p0 p1 p2 r h
  rw[e18]at h
  obtain⟨h1,h⟩|⟨h1,h⟩:=zU h
  obtain⟨l2,h3,h⟩:=zC h
  exact k18 (tH xC 0 [] [0] [0] [1,2,3,7,8] (oD (dI l2)<|oD (dT p0.sub)<|oP 2 (qF h3 (by simp))<|oB 2 h1 o0) ((cM h).1))
  have k:=oB 2 h1 o0
  obtain⟨h4,h⟩|⟨h4,h⟩:=zU h
  obtain⟨l5,h6,h⟩:=zC h
  exact k18 (tH xC 0 [] [0] [0] [1,2,3,7,8] (oD (dI l5)<|oD (dT p0.sub)<|oP 2 (qF h6 (by simp))<|oB 1 h4 k) ((cM h).1))
  exact k18 (tH xC 0 [] [0] [] [1,2,3,7,8] (oD (dI ([]:zZ))<|oD (dT p0.sub)<|oB 1 h4 k) ((cM h).2.2))
  intro p0 p1 p2 v7 v8 r h
  rw[lT]at h
  have z {os ob} (k:Oz os ob):=oD (dI v7)<|oD (dT p0.sub)<|k
  refine⟨?_,?_,?_⟩
  obtain⟨h4,h⟩|⟨h4,h⟩:=zU h
  obtain⟨x5,h6,h⟩:=zC h
  obtain⟨r7,h8,h⟩:=zC h
  exact fun j=>lH 0 [] [0] [0] [1,2,3,7,8,9,10] (oD (dI r7)<|z<|oC 1 [] (zWU h8)<|oA 1 (xH (o:=.no) h6)<|oB 2 h4 o0) ((cN h).1)
  obtain rfl:=sj h
  exact fun j=>lF 0 [] (oD (dI v7)<|oB 2 h4 o0)
  obtain⟨h4,h⟩|⟨h4,h⟩:=zU h
  obtain⟨x5,h6,h⟩:=zC h
  obtain⟨r7,h8,h⟩:=zC h
  exact fun j=>lH 0 [] [0] [] [1,2,3,7,8,9,10] (oD (dI r7)<|z<|oC 1 [] (zWU h8)<|oA 1 (xH (o:=.no) h6)<|oB 2 h4 o0) ((cN h).2.1)
  obtain rfl:=sj h
  exact fun j=>lF 0 [] (oD (dI v7)<|oB 2 h4 o0)
  obtain⟨h4,h⟩|⟨h4,h⟩:=zU h
  obtain⟨x5,h6,h⟩:=zC h
  obtain⟨r7,h8,h⟩:=zC h
  exact fun j=>lH 0 [] [0] [] [1,2,3,7,8,9,10] (oD (dI r7)<|z<|oC 1 [] (zWU h8)<|oA 1 (xH (o:=.no) h6)<|oB 2 h4 o0) ((cN h).2.2)
  obtain rfl:=sj h
  exact fun j=>lF 0 [] (oD (dI v7)<|oB 2 h4 o0)
  intro p0 p1 p2 v8 r7 v10 v7 r h
  rw[B5]at h
  have z {os ob} (k:Oz os ob):=oD (dI v7)<|oD (dT p0.sub)<|k
  refine⟨?_,?_,?_⟩
  obtain⟨h9,h⟩|⟨h9,h⟩:=zU h
  obtain⟨x10,h11,h⟩:=zC h
  obtain⟨r12,h13,h⟩:=zC h
  exact fun j=>lH 1 [] [0] [] [1,2,3,7,8,9,10] (oD (dI r7)<|oD (dI r12)<|oD (dT p0.sub)<|oC 1 [] (c50 h13)<|oA 0 (nI (o:=.no) h11)<|oB 1 h9 o0) ((cN h).2.1)
  exact fun j=>lH 1 [] [0] [0] [1,2,3,7,8] (z<|oB 1 h9 o0) ((cM h).1)
  obtain⟨h9,h⟩|⟨h9,h⟩:=zU h
  obtain⟨x10,h11,h⟩:=zC h
  obtain⟨r12,h13,h⟩:=zC h
  exact fun j=>lH 1 [] [0] [] [1,2,3,7,8,9,10] (oD (dI r7)<|oD (dI r12)<|oD (dT p0.sub)<|oC 1 [] (c50 h13)<|oA 0 (nI (o:=.no) h11)<|oB 1 h9 o0) ((cN h).2.1)
  exact fun j=>lH 1 [] [0] [] [1,2,3,7,8] (z<|oB 1 h9 o0) ((cM h).2.1)
  obtain⟨h9,h⟩|⟨h9,h⟩:=zU h
  obtain⟨x10,h11,h⟩:=zC h
  obtain⟨r12,h13,h⟩:=zC h
  exact fun j=>lH 1 [] [0] [] [1,2,3,7,8,9,10] (oD (dI r7)<|oD (dI r12)<|oD (dT p0.sub)<|oC 1 [] (c50 h13)<|oA 0 (nI (o:=.no) h11)<|oB 1 h9 o0) ((cN h).2.1)
  exact fun j=>lH 1 [] [0] [] [1,2,3,7,8] (z<|oB 1 h9 o0) ((cM h).2.2)
theorem c18{qq p0 p1 p2 r}(h:e18 qq p0 p1 p2=some r):K18 p0 p1 p2 r Ct:=(V0 _).1 h
def B6:Nat->Int->zZ->Int->Option Bool
 |0,_,_,_=>none
 |qq+1,p2,r7,v8=>
 if decide (v8<(r7.length:Int))then
 zW r7 v8>>=fun x10=>
 if decide (x10≥p2)then
 some false
 else
 B6 qq p2 r7 (xL (v8+1))
 else
 some true
def e47(qq:Nat)(p0:Tm)(p1 p2:Int):Option Bool:=
 e68 qq p0>>=fun r1=>
 if r1 then
 e38 qq p0 0>>=fun r4=>
 if decide (r4>p1)then
 some false
 else
 e18 qq p0 6 7>>=fun r7=>
 B6 qq p2 r7 0
 else
 some false
theorem q47:Qf 47 f47:=⟨func47,rfl⟩
theorem zWV:∀qq:Nat,(∀ {p2 r7 v8 r},B6 qq p2 r7 v8=some r->(∀j,dL 0 (pt 16309 f47) (sp j 32 0 [(2,ai p2),(7,zV yC r7 .no),(8,ai v8)]) (⟨[],0,[],0,[]⟩) (fQ 0 (nQ 0 f47 (ab r) [] 0) [.blk 0,.seq (pt 255 f47)]))):=by
 intro qq
 induction qq with
 |zero=>
  exact fun h=>nn h
 |succ qq ih=>
  intro p2 r7 v8 r h
  rw[B6]at h
  obtain⟨h9,h⟩|⟨h9,h⟩:=zU h
  obtain⟨x10,h11,h⟩:=zC h
  have k:=oA 0 (nI (o:=.no) h11)<|oB 1 h9 o0
  obtain⟨h12,h⟩|⟨h12,h⟩:=zU h
  cases h
  exact fun j=>lF 0 [] (oB 1 h12 k)
  exact fun j=>lH 1 [] [] [] [2,7,8] (oD (dI r7)<|oB 1 h12 k) (ih h)
  cases h
  exact fun j=>lF 0 [] (oB 1 h9 o0)
theorem c47{qq p0 p1 p2 r}(h:e47 qq p0 p1 p2=some r):Ct 47 [] [yY p0,ai p1,ai p2] (ab r) [] 0:=⟨by
 unfold e47 at h
 obtain⟨r1,h2,h⟩:=zC h
 obtain⟨h3,h⟩|⟨h3,h⟩:=zU h
 obtain⟨r4,h5,h⟩:=zC h
 have k:=oC 2 [] (c38 h5)<|oK 1 [] h3 (c68 h2) o0
 obtain⟨h6,h⟩|⟨h6,h⟩:=zU h
 cases h
 exact tF q47 0 [] (oB 0 h6 k)
 obtain⟨r7,h8,h⟩:=zC h
 exact tH q47 0 [] [] [] [2,7,8] (oD (dI r7)<|oC 1 [] (c18 h8)<|oB 0 h6 k) (zWV _ h)
 cases h
 exact tF q47 1 [] (oK 1 [] h3 (c68 h2) o0),⟨⟨tv,tv,⟨tv,dT _⟩,tv⟩,tv,tv,tv⟩,zB,tv,zB⟩
theorem J6:∀(r l:List Int) (n:Int) (v:Nat) (acc:List Int) (done:Bool),l.drop v=r->l.length≤8192->acc.length≤v+1->(done=false->acc.length≤v)->v≤l.length ->
  zN (fun q=>jA q l n acc done (v:Int)) fun o=>o.length≤acc.length+r.length+1∧(done=true->o.length≤acc.length+r.length)∧∀x,x∈o↔x∈acc∨x∈r∨(done=false∧x=n)
 | [],l,n,v,acc,done,hd,hl,ha,hb,hv=>by
  refine zN.succ ?_
  simp only[jA]
  cases done with
  |true=>
   refine zN.ite (fun _=>zN.ite (fun h=>?_) fun _=>zN.ret ⟨(by simp<;>omega),fun _=>(by simp),fun x=>by simp⟩) (fun h=>by cases h)
   rw[yH hd]at h;cases h
  |false=>
   refine zN.ite (fun h=>by cases h) (fun _=>zN.ite (fun h=>?_) fun _=>zN.pure (yK (by simp<;>omega)) (zN.ret ⟨(by simp),fun h=>(by cases h),fun x=>by simp⟩))
   rw[yH hd]at h;cases h
 |y::r,l,n,v,acc,done,hd,hl,ha,hb,hv=>by
  have hlt:=yL hd
  refine zN.succ ?_
  simp only[jA]
  cases done with
  |true=>
   refine zN.ite (fun _=>zN.ite (fun _=>zN.pure (yD hd) (zN.pure (yK (by simp<;>omega)) ?_)) fun h=>?_) (fun h=>by cases h)
   ·rw[yA v (by omega)]
    refine(J6 r l n (v+1) (acc++[y]) true (zY hd) hl (by simp<;>omega) (fun h=>by cases h) (by omega)).mono fun o ho=>?_
    refine⟨by have:=ho.2.1 rfl;simp at this ⊢ <;> omega,fun _=>by have:=ho.2.1 rfl;simp at this ⊢ <;> omega,fun x=>?_⟩
    rw[ho.2.2 x];simp[or_assoc]
   ·rw[yG hd]at h;cases h
  |false=>
   have hb':=hb rfl
   refine zN.ite (fun h=>by cases h) (fun _=>zN.ite (fun _=>zN.pure (yD hd) (zN.ite (fun h1=>zN.ite (fun h2=>zN.pure (yK (by simp<;>omega)) (zN.pure (yK (by simp<;>omega)) ?_)) fun h2=>zN.pure (yK (by simp<;>omega)) ?_) fun h1=>zN.pure (yK (by simp<;>omega)) ?_)) fun h=>?_)
   ·rw[yA v (by omega)]
    refine(J6 r l n (v+1) (acc++[n]++[y]) true (zY hd) hl (by simp<;>omega) (fun h=>by cases h) (by omega)).mono fun o ho=>?_
    refine⟨by have:=ho.2.1 rfl;simp at this ⊢ <;> omega,fun h=>(by cases h),fun x=>?_⟩
    rw[ho.2.2 x];simp;grind
   ·rw[yA v (by omega)]
    refine(J6 r l n (v+1) (acc++[y]) true (zY hd) hl (by simp<;>omega) (fun h=>by cases h) (by omega)).mono fun o ho=>?_
    have e:y=n:=by simp at h1 h2;omega
    subst e
    refine⟨by have:=ho.2.1 rfl;simp at this ⊢ <;> omega,fun h=>(by cases h),fun x=>?_⟩
    rw[ho.2.2 x];simp;grind
   ·rw[yA v (by omega)]
    refine(J6 r l n (v+1) (acc++[y]) false (zY hd) hl (by simp<;>omega) (fun _=>by simp<;>omega) (by omega)).mono fun o ho=>?_
    refine⟨by have:=ho.1;simp at this ⊢;omega,fun h=>(by cases h),fun x=>?_⟩
    rw[ho.2.2 x];simp;grind
   ·rw[yG hd]at h;cases h
theorem zQS(l:List Int)(n:Int)(hl:l.length≤8192):zN (fun q=>e50 q l n) fun o=>o.length≤l.length+1∧∀x,x∈o↔x∈l∨x=n:=by
 simp only[e50]
 refine(J6 l l n 0 [] false rfl hl (by simp) (fun _=>by simp) (by omega)).mono fun o ho=>⟨by have:=ho.1;simpa using this,fun x=>by rw[ho.2.2 x];simp⟩
theorem zBP{p:Tm}{a b:Int}{v:Nat}{r7:List Int}{Q:List Int->Prop}{N:Nat}{S:Int->Prop}(hN:N≤8192)(hr:r7.length≤8192)(hv:v<9223372036854775807)
  (K:∀acc:List Int,acc.length≤N->(∀x,x∈acc↔S x)->zN (fun q=>lT q p a b acc ((v+1:Nat):Int)) Q) :
  ∀(m:List Int) (w:Nat) (acc:List Int),r7.drop w=m->acc.length+m.length≤N->(∀x,(x∈acc∨x∈m)↔S x)->zN (fun q=>B5 q p a b (v:Int) r7 (w:Int) acc) Q
 | [],w,acc,hd,hl,hm=>by
  refine zN.succ ?_
  simp only[B5]
  refine zN.ite (fun h=>?_) fun _=>?_
  ·rw[yH hd]at h;cases h
  ·rw[yA v (by omega)]
   exact K acc (by simpa using hl) fun x=>by simpa using hm x
 |y::m,w,acc,hd,hl,hm=>by
  have hlt:=yL hd
  refine zN.succ ?_
  simp only[B5]
  refine zN.ite (fun _=>zN.pure (yD hd) ((zQS acc y (by simp at hl;omega)).bind fun o ho=>?_)) fun h=>?_
  ·rw[yA w (by omega)]
   refine zBP hN hr hv K m (w+1) o (zY hd) (by simp at hl;have:=ho.1;omega) fun x=>?_
   rw[←hm x,ho.2 x];simp[or_assoc]
  ·rw[yG hd]at h;cases h
def zWW(r m:List Int):Prop:=∀x,x∈r↔x∈m
mutual
theorem T8:∀(t:Tm) (a b:Int),t.Ok->t.nodes≤8192->zN (fun q=>e18 q t a b) fun o=>o.length≤t.nodes∧zWW o (qL t a b)
 | .mk k n l,a,b,ho,hn=>by
  refine zN.succ ?_
  simp only[e18,Tm.k,Tm.n]
  rw[Tm.nodes]at hn
  have key:∀acc:List Int,acc.length≤1->acc=(if k=a∨k=b then [n]else [])->zN (fun q=>lT q (.mk k n l) a b acc 0) fun o=>o.length≤(Tm.mk k n l).nodes∧zWW o (qL (.mk k n l) a b):=by
   intro acc h1 h2
   refine(J7 l (.mk k n l) 0 a b acc rfl ho.1 ho.2 (by omega)).mono fun o ho=>⟨by rw[Tm.nodes];have:=ho.1;omega,fun x=>?_⟩
   rw[ho.2 x,qL,h2];simp
  refine zN.ite (fun h=>zN.pure (yK (by simp)) ?_) fun h=>zN.ite (fun h'=>zN.pure (yK (by simp)) ?_) fun h'=>?_
  ·exact key _ (by simp) (by rw[if_pos (.inl (by simpa using h))];rfl)
  ·exact key _ (by simp) (by rw[if_pos (.inr (by simpa using h'))];rfl)
  ·exact key _ (by simp) (by rw[if_neg (by simp at h h';simp[h,h'])])
theorem J7:∀(l:List Tm) (p:Tm) (v:Nat) (a b:Int) (acc:List Int),p.sub.drop v=l->p.sub.length<9223372036854775808->mX l->acc.length+yP l≤8192 ->
  zN (fun q=>lT q p a b acc (v:Int)) fun o=>o.length≤acc.length+yP l∧∀x,x∈o↔x∈acc∨x∈E2 l a b
 | [],p,v,a,b,acc,hd,hl,ho,hn=>by
  refine zN.succ ?_
  simp only[lT]
  refine zN.ite (fun h=>?_) fun _=>zN.ret ⟨by omega,fun x=>by rw[E2];simp⟩
  rw[yH hd]at h;cases h
 |t::l,p,v,a,b,acc,hd,hl,ho,hn=>by
  have hlt:=yL hd
  rw[yP]at hn
  have IH:=fun acc' h=>J7 l p (v+1) a b acc' (zY hd) hl ho.2 h
  refine zN.succ ?_
  simp only[lT]
  refine zN.ite (fun _=>zN.pure (yD hd) ((T8 t a b ho.1 (by omega)).bind fun r7 hr=>?_)) fun h=>?_
  ·refine zBP (N:=acc.length+t.nodes) (S:=fun x=>x∈acc∨x∈qL t a b) (by omega) (by have:=hr.1;omega) (by omega) (fun acc' h1 h2=>?_) r7 0 acc rfl (by have:=hr.1;omega) fun x=>by rw[hr.2 x]
   refine(IH acc' (by omega)).mono fun o ho=>⟨by rw[yP];have:=ho.1;omega,fun x=>?_⟩
   rw[ho.2 x,h2 x,E2];simp[or_assoc]
  ·rw[yG hd]at h;cases h
end
theorem zQT:∀(r l:List Int) (n:Int) (v:Nat),l.drop v=r->l.length≤8192->zJ (fun q=>B6 q n l (v:Int)) (r.all fun x=>decide (x<n))
 | [],l,n,v,hd,hl=>by
  refine zJ.succ ?_
  simp only[B6]
  exact zJ.ifF (yH hd) zJ.ret
 |y::r,l,n,v,hd,hl=>by
  have hlt:=yL hd
  refine zJ.succ ?_
  simp only[B6]
  refine zJ.ifT (yG hd) (zJ.pure (yD hd) ?_)
  by_cases h:y≥n
  ·exact zJ.ifT (by simpa using h) (zJ.ret.eq (by simp<;>omega))
  ·refine zJ.ifF (by simpa using h) ?_
   rw[yA v (by omega)]
   refine(zQT r l n (v+1) (zY hd) hl).eq ?_
   simp[show y<n by omega]
theorem zQU{r m:List Int}(h:zWW r m)(n:Int):(r.all fun x=>decide (x<n))=m.all fun x=>decide (x<n):=by
 rw[Bool.eq_iff_iff]
 simp only[List.all_eq_true]
 exact⟨fun k x hx=>k x ((h x).2 hx),fun k x hx=>k x ((h x).1 hx)⟩
theorem zMR(t:Tm)(f n:Int)(ho:t.Ok):zJ (fun q=>e47 q t f n) (rC t f n):=by
 simp only[e47]
 refine(zAw t ho).bind ?_
 unfold rC
 by_cases h:zH t=true
 ·have hs:=zO h
  refine zJ.ifT h ((Q7 t 0 hs.2.2 (by omega) (by omega)).bind ?_)
  rw[h]
  by_cases h2:mY t 0>f
  ·exact zJ.ifT (by simpa using h2) (zJ.ret.eq (by simp<;>omega))
  ·obtain⟨r,h3,h4,h5⟩:=T8 t 6 7 ho hs.1
   refine zJ.ifF (by simpa using h2) (h3.bind ((zQT r r n 0 rfl (by omega)).eq ?_))
   rw[zQU h5,show decide (mY t 0≤f)=true by simp<;>omega];simp
 ·exact zJ.ifF (by simpa using h) (zJ.ret.eq (by simp[h]))
theorem zGA{l:List yI}{t:Tm}(hs:zH t=true)(h:xV l t):yF t = .mk 6 (yF t).n []:=by
 have h1:=wD h.1 (by decide)
 have hg:=(zO (uP hs)).2.2
 revert hg h1
 generalize yF t=w
 obtain⟨k,n,ls⟩:=w
 intro h1 hg
 have h6:k=6:=h1.1
 have:=(vN (wF hg).1).2.2.2.2.2.2.2.1 (.inr (.inr (.inl h6)))
 have e:ls=[]:=this
 rw[e,h6];rfl
theorem zBQ:∀(l:List Tm) (f b:Tm),uF f (l++[b]) = .mk 5 0 [uF f l,b]
 | [],f,b=>rfl
 |a::l,f,b=>by rw[List.cons_append,uF,zBQ l,uF]
theorem zBR:∀t:Tm,xB t=true->uF (yF t) (yS t)=t:=by
 refine iT ?_ ?_
 ·intro t hg hk
  rw[tS hk,tY hk];rfl
 ·intro n a b hg ha hb ih
  have hs:=vN (wF hg).1
  have hn1:n≤0:=(hs.2.2.2.2.2.1 (.inr (.inr rfl))).2
  have hn2:0≤n:=hs.2.2.1
  have hn:n=0:=by omega
  rw[kG,pA,zBQ,ih,hn]
theorem zWX{l:List yI}{t:Tm}(hs:zH t=true)(h:xV l t):t=uF (.mk 6 (yF t).n []) (yS t):=by
 have:=zBR t (zO hs).2.2
 rw[zGA hs h]at this
 exact this.symm
theorem mO{l:List yI}{x y:Tm}{k:Int}(hc:xV l x)(h:Br l x y 0 k):y=x:=by
 have hk:=wD hc.1 (by decide)
 have ha:wQ l x = .none:=by
  unfold wQ
  rw[if_neg (by omega),if_neg (by rw[hc.1];decide),if_neg (by rw[hc.1];decide),if_neg (by omega)]
 cases h with
 |stop _=>rfl
 |redE a b=>exact absurd rfl b
 |red a _ _=>rw[ha]at a;cases a
 |tgtE a b c=>exact absurd rfl c
 |tgtN _ _ _=>rfl
 |tgtRE _ _ _ c=>exact absurd rfl c
 |tgtR a _ _ _ _=>rw[ha]at a;cases a
theorem zBS{l:List yI}{m:Int}{y:Tm}{k:Int}(h:Br l (.mk 8 m []) y 0 k):y = .mk 8 m []:=by
 have e:yF (Tm.mk 8 m []) = .mk 8 m []:=tS (by show (8:Int)≠5;decide)
 have ha:wQ l (.mk 8 m []) = .none:=by
  unfold wQ wH
  rw[e]
  simp[Tm.k]
 cases h with
 |stop _=>rfl
 |redE a b=>exact absurd rfl b
 |red a _ _=>rw[ha]at a;cases a
 |tgtE a b c=>exact absurd rfl c
 |tgtN _ _ _=>rfl
 |tgtRE _ _ _ c=>exact absurd rfl c
 |tgtR a _ _ _ _=>rw[ha]at a;cases a
theorem T9{l:List yI}{m:Int}:¬xV l (.mk 8 m []):=fun h=>by
 have e:yF (Tm.mk 8 m []) = .mk 8 m []:=tS (by show (8:Int)≠5;decide)
 have:=wD h.1 (by decide)
 rw[e]at this
 exact absurd this.1 (by show ¬(8:Int)=6;decide)
theorem zDc{a:Tm}{n k m:Int}(h:¬(k=8∧m=n))(b:Int):qM a n (.mk k m []) b = .mk k m []:=by
 rw[qM,if_neg h,naL]
theorem zQV(a:Tm)(n:Int):∀(l:List Tm) (f:Tm) (b:Int),qM a n (uF f l) b=uF (qM a n f b) (l.map fun x=>qM a n x b)
 | [],f,b=>by rw[uF,List.map_nil,uF]
 |x::l,f,b=>by
  rw[uF,zQV a n l,List.map_cons,uF]
  congr 1
theorem zIK{t:Tm}{n:Int}(hs:zH t=true)(h8:t.k=8)(hn:t.n=n):t = .mk 8 n []:=by
 have hg:=(zO hs).2.2
 obtain⟨k,m,ls⟩:=t
 have h8':k=8:=h8
 have hn':m=n:=hn
 have hl:ls=[]:=(vN (wF hg).1).2.2.2.2.2.2.2.1 (.inr (.inr (.inr h8')))
 rw[h8',hn',hl]
def e49:Nat->Tm->Option yM
 |0,_=>none
 |qq+1,p0=>
 if p0.k != 5 then
 some []
 else
 zW p0.sub 0>>=fun x2=>
 e49 qq x2>>=fun r4=>
 zW p0.sub 1>>=fun x6=>
 xF 40 r4 [x6]>>=fun l8=>
 some l8
abbrev K49 (p0:Tm) (r:yM) (C:Cf):Prop:=C 49 [] [yY p0] (zV zD r (.st 0 3)) [] 1
theorem q49:Qf 49 f49:=⟨func49,rfl⟩
theorem k49{p0 r}(h:K49 p0 r Ci):K49 p0 r Ct:=⟨h,⟨⟨tv,tv,⟨tv,dT _⟩,tv⟩,tv⟩,zB,dT _,zB⟩
theorem a49:∀qq:Nat,(∀ {p0 r},e49 qq p0=some r->K49 p0 r Ct):=by
 intro qq
 induction qq with
 |zero=>
  exact fun h=>nn h
 |succ qq ih=>
  intro p0 r h
  rw[e49]at h
  obtain⟨h1,h⟩|⟨h1,h⟩:=zU h
  obtain rfl:=sj h
  exact k49 (tG q49 1 [(none,2,3)] [] [0] true (oD (dT ([]:yM))<|oB 1 h1 o0))
  obtain⟨x2,h3,h⟩:=zC h
  obtain⟨r4,h5,h⟩:=zC h
  obtain⟨x6,h7,h⟩:=zC h
  obtain⟨l8,h9,h⟩:=zC h
  obtain rfl:=sj h
  exact k49 (tG q49 0 [] [] [1] true (oD (dT l8)<|oP 0 (vE h9 (by simp))<|oS 1 (xO xW [x6])<|oA 0 (xH (o:=.no) h7)<|aH 0<|oC 1 [] (ih h5)<|oA 1 (xH (o:=.no) h3)<|oB 1 h1 o0))
theorem c49{qq p0 r}(h:e49 qq p0=some r):K49 p0 r Ct:=a49 _ h
def Q9:Nat->Int->Int->yM->Option Tm
 |0,_,_,_=>none
 |qq+1,yE,wC,xT=>
 if yE==5 then
 zW xT 0>>=fun x2=>
 Q9 qq x2.k x2.n x2.sub
 else
 some (Tm.mk yE wC xT)
def e51(qq:Nat)(p0:Tm):Option Tm:=
 Q9 qq p0.k p0.n p0.sub
theorem zWY:∀qq:Nat,(∀ {yE wC xT r},Q9 qq yE wC xT=some r->(∀j,dL 0 (pt 229 f51) (sp j 11 0 [(1,.mp 0 0),(2,.mp 1 0)]) (⟨[(0,.cells [ai yE,ai wC,zV zD xT .no]),(1,.cells [ai 0,ai 0,zV zD ([]:yM) .nl])],2,[],0,[]⟩) (fQ 0 (nQ 0 f51 (yY r) [] 0) [.blk 0,.seq (pt 15 f51)]))):=by
 intro qq
 induction qq with
 |zero=>
  exact fun h=>nn h
 |succ qq ih=>
  intro yE wC xT r h
  rw[Q9]at h
  obtain⟨h1,h⟩|⟨h1,h⟩:=zU h
  obtain⟨x2,h3,h⟩:=zC h
  exact fun j=>lH 2 [] [0,1] [] [1,2] (oD (dT ([]:yM))<|oD (dT x2.sub)<|oA 1 (xH (o:=.no) h3)<|oB 1 h1 o0) (ih h)
  cases h
  exact fun j=>lF 2 [] (oD (dT xT)<|oB 1 h1 o0)
theorem c51{qq p0 r}(h:e51 qq p0=some r):Ct 51 [] [yY p0] (yY r) [] 0:=⟨by
 unfold e51 at h
 exact tH ⟨func51,rfl⟩ 0 [] [0,1] [] [1,2] (oD (dT ([]:yM))<|oD (dT p0.sub) o0) (zWY _ h),⟨⟨tv,tv,⟨tv,dT _⟩,tv⟩,tv⟩,zB,⟨tv,tv,dT _,tv⟩,zB⟩
def e73(qq:Nat)(p0:yV)(p1 p2:Int):Option Bool:=
 if decide (p1≥0)then
 if decide (p1<(p0.length:Int))then
 zW p0 p1>>=fun x3=>
 some (x3.kind==p2)
 else
 some false
 else
 some false
theorem q73:Qf 73 f73:=⟨func73,rfl⟩
theorem c73{qq p0 p1 p2 r}(h:e73 qq p0 p1 p2=some r):Ct 73 [] [zV xJ p0 .no,ai p1,ai p2] (ab r) [] 0:=⟨by
 unfold e73 at h
 obtain⟨h1,h⟩|⟨h1,h⟩:=zU h
 have k:=oB 0 h1 o0
 obtain⟨h2,h⟩|⟨h2,h⟩:=zU h
 obtain⟨x3,h4,h⟩:=zC h
 cases h
 exact tF q73 2 [] (oA 0 (wI (o:=.no) h4)<|oB 1 h2 k)
 cases h
 exact tF q73 0 [] (oB 1 h2 k)
 cases h
 exact tF q73 0 [] (oB 0 h1 o0),⟨⟨tv,dE _⟩,tv,tv,tv⟩,zB,tv,zB⟩
def B7:Nat->yM->Int->Int->yM->Option yM
 |0,_,_,_,_=>none
 |qq+1,v3,yE,wC,xT=>
 if yE==3 then
 zW xT 0>>=fun x2=>
 xF 40 v3 [x2]>>=fun l4=>
 zW xT 1>>=fun x6=>
 B7 qq l4 x6.k x6.n x6.sub
 else
 some v3
def e74(qq:Nat)(p0:Tm):Option yM:=
 B7 qq [] p0.k p0.n p0.sub
theorem zWZ:∀qq:Nat,(∀ {v3 yE wC xT r},B7 qq v3 yE wC xT=some r->(∀j,dL 0 (pt 997 f74) (sp j 20 0 [(1,.mp 0 0),(3,zV zD v3 (.st 0 3))]) (⟨[(0,.cells [ai yE,ai wC,zV zD xT .no])],1,[0],1,[]⟩) (fQ 0 (nQ 0 f74 (.sl (zG zD r) r.length .no) [] 0) [.blk 0,.seq (pt 63 f74)]))):=by
 intro qq
 induction qq with
 |zero=>
  exact fun h=>nn h
 |succ qq ih=>
  intro v3 yE wC xT r h
  rw[B7]at h
  obtain⟨h1,h⟩|⟨h1,h⟩:=zU h
  obtain⟨x2,h3,h⟩:=zC h
  obtain⟨l4,h5,h⟩:=zC h
  obtain⟨x6,h7,h⟩:=zC h
  exact fun j=>lH 2 [] [0] [1] [1,3] (oD (dT l4)<|oD (dT x6.sub)<|oA 1 (xH (o:=.no) h7)<|oP 0 (vE h5 (by simp))<|oS 1 (xO xW [x2])<|oA 1 (xH (o:=.no) h3)<|oB 1 h1 o0) (ih h)
  obtain rfl:=sj h
  exact fun j=>lF 0 [] (oD (dT v3)<|oB 1 h1 o0)
theorem c74{qq p0 r}(h:e74 qq p0=some r):Ct 74 [] [yY p0] (.sl (zG zD r) r.length .no) [] 0:=⟨by
 unfold e74 at h
 exact tH ⟨func74,rfl⟩ 1 [(none,3,3)] [0] [0] [1,3] (oD (dT ([]:yM))<|oD (dT p0.sub) o0) (zWZ _ h),⟨⟨tv,tv,⟨tv,dT _⟩,tv⟩,tv⟩,zB,dT _,zB⟩
def e48(qq:Nat)(p0:yV)(p1:Tm):Option Int:=
 e51 qq p1>>=fun r1=>
 if r1.k != 6 then
 some (-1)
 else
 e73 qq p0 r1.n 2>>=fun r4=>
 if r4 then
 e49 qq p1>>=fun r7=>
 zW p0 r1.n>>=fun x9=>
 e74 qq x9.type>>=fun r11=>
 if (r7.length:Int) != (r11.length:Int)then
 some (-1)
 else
 some r1.n
 else
 some (-1)
theorem q48:Qf 48 f48:=⟨func48,rfl⟩
theorem c48{qq p0 p1 r}(h:e48 qq p0 p1=some r):Ct 48 [] [zV xJ p0 .no,yY p1] (ai r) [] 0:=⟨by
 unfold e48 at h
 obtain⟨r1,h2,h⟩:=zC h
 have k:=oC 1 [] (c51 h2) o0
 obtain⟨h3,h⟩|⟨h3,h⟩:=zU h
 obtain rfl:=sj h
 exact tF q48 0 [] (oB 2 h3 k)
 obtain⟨r4,h5,h⟩:=zC h
 have k:=oB 2 h3 k
 obtain⟨h6,h⟩|⟨h6,h⟩:=zU h
 obtain⟨r7,h8,h⟩:=zC h
 obtain⟨x9,h10,h⟩:=zC h
 obtain⟨r11,h12,h⟩:=zC h
 have k:=oC 1 [] (c74 h12)<|oA 0 (wI (o:=.no) h10)<|aH 1<|oC 2 [] (c49 h8)<|oK 1 [] h6 (c73 h5) k
 obtain⟨h13,h⟩|⟨h13,h⟩:=zU h
 obtain rfl:=sj h
 exact tF q48 0 [] (oB 1 h13 k)
 obtain rfl:=sj h
 exact tF q48 1 [] (oB 1 h13 k)
 obtain rfl:=sj h
 exact tF q48 1 [] (oK 1 [] h6 (c73 h5) k),⟨⟨tv,dE _⟩,⟨tv,tv,⟨tv,dT _⟩,tv⟩,tv⟩,zB,tv,zB⟩
def zX:List yI:=match e13 300 with|some l=>l|none=>[]
theorem zQW{α:Type}{f:Nat->Option α}{r:α}(n:Nat)(h:∀q,f (q+n)=some r):zJ f r:=⟨n,fun q hq=>by have:=h (q-n);rwa[show q-n+n=q by omega]at this⟩
theorem zUz:zJ (fun q=>e13 q) zX:=zQW 300 fun q=>by kernel_rfl
theorem zQX:zJ (fun q=>e87 q zX) true:=zQW 1000 fun q=>by kernel_rfl
theorem cO:zX.length=23:=by kernel_rfl
def zXz(e:yI):Bool:=(zH e.type||e.type.sub.isEmpty)&&(zH e.body||e.body.sub.isEmpty)&&Nat.ble e.cons.length 100&&Nat.ble e.fields.length 100
theorem zKC:zX.all zXz=true:=by kernel_rfl
theorem yAq{t:Tm}(h:(zH t||t.sub.isEmpty)=true):t.Ok:=by
 rcases Bool.or_eq_true _ _ |>.mp h with h|h
 ·exact yB h
 ·obtain⟨k,n,l⟩:=t
  have:l=[]:=List.isEmpty_iff.1 h
  subst this
  exact xX k n
theorem zAt:∀e∈zX,eK e:=fun e h=>by
 have:=List.all_eq_true.1 zKC e h
 unfold zXz at this
 simp only[Bool.and_eq_true]at this
 obtain⟨⟨⟨a,b⟩,c⟩,d⟩:=this
 have c:=Nat.le_of_ble_eq_true c
 have d:=Nat.le_of_ble_eq_true d
 exact⟨yAq a,yAq b,by omega,by omega⟩
theorem zAs:∀e∈zX,ECl e:=fun e h=>by
 have:=List.all_eq_true.1 zKC e h
 unfold zXz at this
 simp only[Bool.and_eq_true]at this
 obtain⟨⟨⟨a,b⟩,c⟩,d⟩:=this
 have c:=Nat.le_of_ble_eq_true c
 have d:=Nat.le_of_ble_eq_true d
 exact⟨by omega,by omega⟩
theorem dJ:∃N,wP N zX∧zJ (fun q=>e27 q zX) (zCQ zX true):=by
 obtain⟨N,hN⟩:=zFn
 obtain⟨b,hb,hA,hn⟩:=zJJ N hN zX (by rw[cO];omega) zAt zAs
 have:=hb.det zQX
 subst this
 exact⟨N,hA rfl,hn⟩
theorem zQY{t:Tm}(hg:xB t=true):∃l y,nS (vP t) t=some (l,y)∧l.length=vP t∧y.k≠3∧xB y=true∧y.nodes≤t.nodes∧y.high≤t.high∧∀x∈l,xB x=true∧x.nodes≤t.nodes∧x.high≤t.high:=by
 obtain⟨r,hr⟩:=zOH t hg _ (Nat.le_refl _)
 obtain⟨h1,h2,h3,h4⟩:=O3 _ t r hg hr
 refine⟨r.1,r.2,hr,h1,fun h=>?_,h3.1,h3.2.1,h3.2.2,h4⟩
 obtain⟨a,b,hx,-,-⟩:=mG h3.1 h
 rw[hx,cB]at h2
 omega
theorem zQZ:∀(n:Nat) (t:Tm),t.nodes≤n->vP t≤n
 |0,t,h=>by have:=vM t;omega
 |n+1,t,h=>by
  unfold vP
  split
  ·rename_i k m a b
   rw[Tm.nodes,yP,yP,yP]at h
   have:=vM a
   split
   ·have:=zQZ n b (by omega);omega
   ·omega
  ·omega
theorem zGB:∀(n:Nat) (t:Tm) (l:List Tm) (y:Tm) (acc:List Tm),xB t=true->nS n t=some (l,y)->y.k≠3->acc.length+n≤100000->zJ (fun q=>B7 q acc t.k t.n t.sub) (acc++l)
 |0,t,l,y,acc,_,h,hk,_=>by
  rw[nS]at h;cases h
  refine zJ.succ ?_
  simp only[B7]
  exact zJ.ifF (by simpa using hk) (zJ.ret.eq (by simp))
 |n+1,t,l,y,acc,hg,h,hk,hl=>by
  by_cases h3:t.k=3
  ·obtain⟨a,b,hx,hga,hgb⟩:=mG hg h3
   rw[hx,cA]at h
   obtain⟨r',h1,h2⟩:=Option.map_eq_some_iff.1 h
   cases h2
   refine zJ.succ ?_
   simp only[B7]
   have hs:t.sub=[a,b]:=by rw[hx];rfl
   rw[hs]
   refine zJ.ifT (by simp[h3]) (zJ.pure (a:=a) rfl (zJ.pure (yK (by simp;omega)) (zJ.pure (a:=b) rfl ?_)))
   exact(zGB n b r'.1 r'.2 (acc++[a]) hgb h1 hk (by simp;omega)).eq (by simp)
  ·rw[eJ h3]at h;cases h
theorem zUy{t:Tm}(hg:xB t=true)(hn:t.nodes≤8192){l:List Tm}{y:Tm}(h:nS (vP t) t=some (l,y))(hk:y.k≠3):zJ (fun q=>e74 q t) l:=by
 simp only[e74]
 have:=zQZ t.nodes t (Nat.le_refl _)
 exact(zGB (vP t) t l y [] hg h hk (by simp;omega)).eq (by simp)
theorem zAr{t:Tm}(hg:xB t=true)(h:t.k=5):∃a b,t = .mk 5 t.n [a,b]∧xB a=true∧xB b=true:=by
 obtain⟨k,n,l⟩:=t
 have hh:=wF hg
 replace h:k=5:=h
 subst h
 obtain⟨a,b,rfl⟩:=zLD ((vN hh.1).2.2.2.2.2.1 (.inr (.inr rfl))).1
 have hc:=wB hh.2
 exact⟨a,b,rfl,hc.1,(wB hc.2).1⟩
theorem zRz:∀(n:Nat) (t:Tm),xB t=true->t.nodes≤n->(yS t).length≤n
 |0,t,_,h=>by have:=vM t;omega
 |n+1,t,hg,h=>by
  by_cases h5:t.k=5
  ·obtain⟨a,b,hx,hga,-⟩:=zAr hg h5
   rw[hx]at h ⊢
   rw[Tm.nodes,yP,yP,yP]at h
   rw[pA,List.length_append]
   have:=zRz n a hga (by omega)
   have:=vM b
   simp;omega
  ·rw[tY h5];simp
theorem zAq:∀(n:Nat) (t:Tm),xB t=true->t.nodes≤n->n≤8192->zJ (fun q=>e49 q t) (yS t)
 |0,t,_,h,_=>by have:=vM t;omega
 |n+1,t,hg,h,hn=>by
  refine zJ.succ ?_
  simp only[e49]
  by_cases h5:t.k=5
  ·obtain⟨a,b,hx,hga,-⟩:=zAr hg h5
   have hs:t.sub=[a,b]:=by rw[hx];rfl
   have hnn:=cI t
   rw[hs,yP,yP,yP]at hnn
   have:=vM b
   rw[hs]
   have hle:=zRz n a hga (by omega)
   refine zJ.ifF (by simp[h5]) (zJ.pure (a:=a) rfl ((zAq n a hga (by omega) (by omega)).bind (zJ.pure (a:=b) rfl (zJ.pure (yK (by simp;omega)) (zJ.ret.eq ?_)))))
   rw[hx,pA]
  ·exact zJ.ifT (by simpa using h5) (zJ.ret.eq (tY h5).symm)
theorem R0:∀(n:Nat) (t:Tm),xB t=true->t.nodes≤n->zJ (fun q=>Q9 q t.k t.n t.sub) (yF t)
 |0,t,_,h=>by have:=vM t;omega
 |n+1,t,hg,h=>by
  refine zJ.succ ?_
  simp only[Q9]
  by_cases h5:t.k=5
  ·obtain⟨a,b,hx,hga,-⟩:=zAr hg h5
   have hs:t.sub=[a,b]:=by rw[hx];rfl
   have hnn:=cI t
   rw[hs,yP,yP,yP]at hnn
   rw[hs]
   refine zJ.ifT (by simp[h5]) (zJ.pure (a:=a) rfl ((R0 n a hga (by omega)).eq ?_))
   rw[hx,kG]
  ·exact zJ.ifF (by simpa using h5) (zJ.ret.eq (by rw[tS h5,rD]))
theorem zXy(l:List yI)(n kind:Int):zJ (fun q=>e73 q l n kind) (aN l n kind):=by
 simp only[e73]
 unfold aN
 by_cases h0:0≤n
 ·refine zJ.ifT (decide_eq_true h0) ?_
  by_cases h1:n<l.length
  ·exact zJ.ifT (decide_eq_true h1) (zJ.pure (yT h0 h1) (zJ.ret.eq (by simp[h0,h1])))
  ·exact zJ.ifF (decide_eq_false h1) (zJ.ret.eq (by simp[h1]))
 ·exact zJ.ifF (decide_eq_false h0) (zJ.ret.eq (by simp[h0]))
theorem zMS{t:Tm}(hs:zH t=true):∃L:List Tm,L.length=vP t∧zJ (fun q=>e74 q t) L:=by
 have hsp:=zO hs
 obtain⟨L,y,hL,hlen,hyk,hyg,hyn,hyh,hLg⟩:=zQY hsp.2.2
 exact⟨L,hlen,zUy hsp.2.2 hsp.1 hL hyk⟩
theorem zUx{N:ByteArray->Bool}(l:List yI)(hE:wP N l)(t:Tm)(hs:zH t=true):zJ (fun q=>e48 q l t) (if xV l t then(yF t).n else -1):=by
 have h:=zO hs
 have hn:=kY (zO (uP hs)).2.2
 simp only[e48]
 refine zJ.bind (a:=yF t) (by simp only[e51];exact R0 t.nodes t h.2.2 (Nat.le_refl _)) ?_
 by_cases h6:(yF t).k=6
 ·refine zJ.ifF (by simpa using h6) ((zXy l (yF t).n 2).bind ?_)
  by_cases hi:aN l (yF t).n 2=true
  ·have hi':=tM hi
   have hst:=(xD (hE.2 _ hi'.1 hi'.2.1)).1
   have hst':=qG hst
   refine zJ.ifT hi ((zAq t.nodes t h.2.2 (Nat.le_refl _) h.1).bind (zJ.pure (yT hi'.1 hi'.2.1) ?_))
   obtain⟨L,hlen,hT⟩:=zMS hst'
   refine hT.bind ?_
   have hk:wH l (yF t)=2:=by unfold wH;rw[if_pos h6,if_pos hi'.2.1];exact hi'.2.2
   by_cases hq:(yS t).length=L.length
   ·refine zJ.ifF (by simp[hq]) (zJ.ret.eq ?_)
    rw[if_pos];exact⟨hk,by rw[hq,hlen]⟩
   ·refine zJ.ifT (by simp;omega) (zJ.ret.eq ?_)
    rw[if_neg];intro hc;exact hq (by rw[hlen];exact hc.2)
  ·refine zJ.ifF (by simpa using hi) (zJ.ret.eq ?_)
   rw[if_neg]
   intro hc
   have:=wD hc.1 (by decide)
   exact hi (by unfold aN;simp[hn,this.2.1,this.2.2])
 ·refine zJ.ifT (by simpa using h6) (zJ.ret.eq ?_)
  rw[if_neg]
  intro hc
  exact h6 (wD hc.1 (by decide)).1
theorem zUL{a:Tm}(hs:zH a=true)(h6:a.k=6):∃i,a = .mk 6 i []:=by
 have hg:=(zO hs).2.2
 obtain⟨k,m,ls⟩:=a
 have h:k=6:=h6
 have hl:ls=[]:=(vN (wF hg).1).2.2.2.2.2.2.2.1 (.inr (.inr (.inl h)))
 exact⟨m,by rw[h,hl]⟩
theorem uN.ent{l:List yI}{i:Int}(h:uN l (.mk 6 i [])):0≤i∧i<l.length:=by
 have h1:=gQ.1 h
 have h2:=h1.2.2
 rw[xM]at h2
 refine⟨kY (t:=.mk 6 i []) (zO h1.1).2.2,?_⟩
 rcases h2.1 with q|q
 ·omega
 ·exact q (.inl rfl)
theorem uK.rel{C:Tm->Tm->Bool->Int->Prop}{R:Tm->Tm->Prop}(h:∀x y b k,R x y->C x y b k->b=true):∀ {ps:List PE} {b:Bool} {k:Int},(∀p∈ps,R p.1.1 p.2.1)->uK C ps b k->b=true
 | [],_,_,_,a=>a.1
 |p::_,_,_,hp,⟨_,_,b1,k1,c,d⟩=>by
  have:=h _ _ _ _ (hp p (by simp)) c
  rcases d with⟨d,_⟩|⟨_,k2,d,_⟩
  ·rw[this]at d;cases d
  ·exact uK.rel h (fun q hq=>hp q (by simp[hq])) d
theorem J8{l:List yI}{x y:Tm}{c:Int}{pars:List Tm}:∀ {m i:Nat} {p:PE},p∈zAJ l x y c pars m i->∃j,p=(tN l x c j pars,tN l y c j pars)
 |0,_,_,h=>by cases h
 |m+1,i,p,h=>by
  rw[zAJ]at h
  rcases List.mem_cons.1 h with h|h
  ·exact⟨i,h⟩
  ·exact J8 h
theorem zBT:∀ {a:List Tm} {p:PE},p∈U6 a a->p.1.1=p.2.1
 | [],_,h=>by cases h
 |a::l,p,h=>by
  rw[U6]at h
  rcases List.mem_cons.1 h with h|h
  ·rw[h]
  ·exact zBT h
theorem cP{l:List yI}{C:Bool->Tm->Tm->Bool->Int->Prop}(h:∀m x b k,C m x x b k->b=true){m:Bool}{x:Tm}{b:Bool}{k:Int}(hd:S9 C m (tO l m x x) b k):b=true:=by
 have hC:∀x y b k,x=y->C false x y b k->b=true:=fun x y b k e c=>by subst e;exact h _ _ _ _ c
 have ht:∀ {ps:List PE},(∀p∈ps,p.1.1=p.2.1)->S9 C m (.all ps) b k->b=true:=fun hp a=>uK.rel hC hp a
 unfold tO at hd
 split at hd
 ·exact ht (fun p hp=>by rw[List.mem_singleton.1 hp]) hd
 ·split at hd
  ·split at hd
   ·rename_i g;exact absurd rfl g.2
   ·exact ht (fun p hp=>by obtain⟨j,rfl⟩:=J8 hp;rfl) hd
  ·rw[if_neg (fun h=>h rfl)]at hd
   split at hd
   ·obtain⟨b1,k1,c,d⟩:=hd
    have e:=h _ _ _ _ c
    rcases d with⟨d,_⟩|⟨_,k2,d,_⟩
    ·rw[e]at d;cases d
    ·exact h _ _ _ _ d
   ·split at hd
    ·obtain⟨e,-⟩:=hd
     rw[e];split<;>simp
    ·unfold kZ at hd
     rw[if_neg (by simp)]at hd
     refine ht (fun p hp=>?_) hd
     unfold zIi at hp
     rcases List.mem_append.1 hp with hp|hp
     ·split at hp
      ·simp only[List.mem_cons,List.not_mem_nil,or_false]at hp
       rcases hp with rfl|rfl<;>rfl
      ·cases hp
     ·exact zBT hp
def pQ(l:List yI)(t x:Tm):Prop:=t=x∨(zH x=true∧∃k,Nm l t x k)
theorem NmL.at{l:List yI}{ts xs:List Tm}{k:Int}(h:NmL l ts xs k):xs.length=ts.length∧∀(i:Nat) (h:i<ts.length) (h':i<xs.length),∃k1,Nm l ts[i] xs[i] k1:=by
 obtain⟨n,h⟩:=h
 exact⟨h.len,fun i hi hi'=>by obtain⟨k1,h⟩:=h.at i hi hi';exact⟨k1,n,h⟩⟩
theorem zAp{R:Tm->Tm->Prop}:∀ {a b:List Tm} {p:PE},(∀(i:Nat) (h:i<a.length) (h':i<b.length),R a[i] b[i])->p∈U6 a b->R p.1.1 p.2.1
 | [],_,_,_,h=>by cases h
 |_::_,[],_,_,h=>by cases h
 |a::l,b::m,p,hR,h=>by
  rw[U6]at h
  rcases List.mem_cons.1 h with h|h
  ·rw[h];exact hR 0 (by simp) (by simp)
  ·exact zAp (fun i h1 h2=>by have:=hR (i+1) (by simpa using h1) (by simpa using h2);simpa using this) h
theorem zMT{l:List yI}{x y:Tm}{k:Int}(h:Br l x y 0 k):∃j,Br l y y 0 j:=by
 obtain⟨j,-,hon⟩:=h.last rfl
 rcases hon.still_inv with h|⟨a',z,j',h1,h2,h3⟩
 ·exact⟨_,.stop h⟩
 ·exact⟨_,.tgtN h1 h2 h3⟩
theorem T3.rel{N:ByteArray->Bool}{l:List yI}(hE:wP N l):∀ {n:Nat} {m:Bool} {t x:Tm} {b:Bool} {k:Int},T3 l n m t x b k->pQ l t x->(m=false∨t=x)->b=true
 |0,_,_,_,_,_,h,_,_=>h.elim
 |n+1,m,t,x,b,k,⟨r1,r2,y,k1,y',k2,k3,h1,h2,h3,h4⟩,hr,hm=>by
  have self:∀m x b k,T3 l n m x x b k->b=true:=fun m x b k h=>T3.rel hE h (.inl rfl) (.inr rfl)
  rcases hr with rfl|⟨hs,kn,hN⟩
  ·obtain⟨rfl,-,-⟩:=h1.det h2
   exact cP self h3
  ·by_cases htx:t=x
   ·subst htx
    obtain⟨rfl,-,-⟩:=h1.det h2
    exact cP self h3
   ·have hm':m=false:=hm.resolve_right htx
    subst hm'
    have hA:Nm l x x 0:=by obtain⟨i,hi⟩:=hN;exact⟨i,hi.again hE hs⟩
    obtain⟨y0,j1,ps,j2,-,hb,hps,hxe,-⟩:=hN.inv
    obtain⟨rfl,-,-⟩:=hb.det h1
    have hx':y'=x:=by
     obtain⟨z,i1,qs,i2,-,hz,hq,-,hi⟩:=hA.inv
     obtain⟨rfl,-,rfl⟩:=h2.det hz
     have n1:=hz.nn
     have n2:=hq.nn
     exact hz.zero rfl (by omega)
    subst hx'
    have hsy:=h1.shaped r1.shaped rfl
    have hgy:=(zO hsy).2.2
    obtain⟨hlen,hat⟩:=hps.at
    have hC:∀a b q k,pQ l a b->T3 l n false a b q k->q=true:=fun a b q k hr hc=>T3.rel hE hc hr (.inl rfl)
    have hparts:sM y'=ps:=by rw[hxe];exact(P4 hsy hlen).1
    have hrel:∀(i:Nat) (h:i<(sM y).length) (h':i<ps.length),pQ l (sM y)[i] ps[i]:=fun i h h'=>.inr ⟨bO hs (by rw[hparts];exact List.getElem_mem h'),hat i h h'⟩
    by_cases h34:y.k=3∨y.k=4
    ·have hpy:sM y=y.sub:=by unfold sM;rw[if_pos h34]
     have hx34:y' = .mk y.k 0 ps:=by rw[hxe];unfold P2;rw[if_pos h34]
     obtain⟨u,v,huv,-,-⟩:=rN hgy (h34.elim .inl fun h=>.inr (.inl h))
     rw[hpy]at hrel hlen
     rw[huv]at hlen
     obtain⟨u',v',rfl⟩:∃u' v',ps=[u',v']:=by
      rcases ps with _|⟨a,_|⟨b,_|⟨c,ps⟩⟩⟩<;>simp at hlen
      exact⟨a,b,rfl⟩
     have hu:pQ l u u':=by have:=hrel 0 (by rw[huv];simp) (by simp);simpa[huv]using this
     have hv:pQ l v v':=by have:=hrel 1 (by rw[huv];simp) (by simp);simpa[huv]using this
     have hy1:¬uQ l y:=fun h=>zDq h34 h.1
     have hy2:¬uQ l y':=fun h=>zDq (by rw[hx34];simpa[Tm.k]using h34) h.1
     have hk':y'.k=y.k:=by rw[hx34];rfl
     have hs':y'.sub=[u',v']:=by rw[hx34];rfl
     unfold tO at h3
     rw[hk']at h3
     by_cases h4':y.k=4
     ·rw[if_pos (.inl h4')]at h3
      refine uK.rel (R:=pQ l) hC (fun p hp=>?_) h3
      rw[List.mem_singleton.1 hp]
      unfold pU
      rw[if_pos h4',if_pos (hk'.trans h4'),huv,hs']
      exact hv
     ·rw[if_neg (by omega),if_neg hy1,if_neg hy2,if_neg (by simp),if_pos (by omega),huv,hs']at h3
      obtain⟨b1,q1,c,d⟩:=h3
      have e:=hC _ _ _ _ hu c
      rcases d with⟨d,_⟩|⟨_,k2,d,_⟩
      ·rw[e]at d;cases d
      ·exact hC _ _ _ _ hv d
    ·by_cases h5:y.k=5
     ·have hpy:sM y=yS y:=by unfold sM;rw[if_neg h34,if_pos h5]
      rw[hpy]at hrel hlen
      have hx5:y'=uF (yF y) ps:=by rw[hxe];unfold P2;rw[if_neg h34,if_pos h5]
      have hd5:=(kH y hgy).2.1
      have hh:yF y'=yF y:=by rw[hx5,P3,tS hd5]
      have ha:yS y'=ps:=by rw[hx5,aW,tY hd5,List.nil_append]
      have hne:ps≠[]:=fun h=>by
       have:=zZk hgy h5
       rw[h]at hlen
       exact this (List.length_eq_zero_iff.1 hlen.symm)
      have hk':y'.k=5:=by rw[hx5];exact zKz ps _ hne
      have hrc:uQ l y'↔uQ l y:=by unfold uQ xV;rw[hh,ha,hlen]
      have hnth:∀i:Nat,pQ l (tJ (yS y) (i:Int)) (tJ (yS y') (i:Int)):=fun i=>by
       unfold tJ
       rw[ha,Int.toNat_natCast]
       by_cases hi:i<(yS y).length
       ·rw[List.getElem?_eq_getElem hi,List.getElem?_eq_getElem (show i<ps.length by omega)]
        exact hrel i hi (by omega)
       ·rw[List.getElem?_eq_none (by omega),List.getElem?_eq_none (by omega)]
        exact .inl rfl
      unfold tO at h3
      rw[if_neg (by omega)]at h3
      by_cases hr:uQ l y
      ·rw[if_pos hr,if_neg (fun h=>h.2 (by rw[hh]))]at h3
       refine uK.rel (R:=pQ l) hC (fun p hp=>?_) h3
       obtain⟨j,rfl⟩:=J8 hp
       unfold tN
       rw[if_pos ⟨hr,rfl⟩,if_pos ⟨hrc.2 hr,by rw[hh]⟩]
       exact hnth _
      ·rw[if_neg hr,if_neg (fun h=>hr (hrc.1 h)),if_neg (by omega),if_neg (by omega),if_neg (by omega)]at h3
       unfold kZ at h3
       rw[hh,ha,if_neg (by simp[hlen])]at h3
       refine uK.rel (R:=pQ l) hC (fun p hp=>?_) h3
       unfold zIi at hp
       rw[hh,ha]at hp
       rcases List.mem_append.1 hp with hp|hp
       ·split at hp
        ·simp only[List.mem_cons,List.not_mem_nil,or_false]at hp
         rcases hp with rfl|rfl<;>exact .inl rfl
        ·cases hp
       ·exact zAp (R:=pQ l) hrel hp
     ·have hx0:y'=y:=by rw[hxe];unfold P2;rw[if_neg h34,if_neg h5]
      rw[hx0]at h3
      exact cP self h3
theorem Cv.refl{N:ByteArray->Bool}{l:List yI}(hE:wP N l){m:Bool}{x:Tm}{b:Bool}{k:Int}:Cv l m x x b k->b=true:=fun⟨_,h⟩=>h.rel hE (.inl rfl) (.inr rfl)
def elH:Tm:=.mk 7 0 [.mk 2 0 []]
def elM:Tm:=.mk 4 0 [.mk 6 0 [],.mk 6 0 []]
def elS:Tm:=.mk 4 0 [.mk 6 0 [],.mk 4 0 [.mk 6 0 [],.mk 5 0 [.mk 6 2 [],.mk 1 0 []]]]
def lU(c:Int)(az:List Tm):Tm:=uF (.mk 6 c []) az
def fM(a b:Tm):Tm:=uF elH [elM,b,elS,a]
theorem zMU:(ent zX 21).body = .mk 4 0 [.mk 6 0 [],.mk 4 0 [.mk 6 0 [],fM (.mk 1 1 []) (.mk 1 0 [])]]:=by kernel_rfl
theorem R1:wH zX (.mk 6 21 [])=3:=by kernel_rfl
theorem zXx:aN zX 0 1=true:=by kernel_rfl
theorem zGD:wG (ent zX 0)=4:=by kernel_rfl
theorem zAo:(ent zX 0).pars=0:=by kernel_rfl
theorem zRy:(ent zX 0).cons.length=2:=by kernel_rfl
theorem zMV:(vL zX 1).recs=[]:=by kernel_rfl
theorem zMW:(vL zX 2).recs=[sV.mk true [] []]:=by kernel_rfl
theorem vO:(ent zX 1).place=0∧(ent zX 2).place=1∧(ent zX 1).pars=0∧(ent zX 2).pars=0∧vP (ent zX 1).type=0∧vP (ent zX 2).type=1∧(ent zX 2).fam=0∧(ent zX 1).fam=0∧wH zX (.mk 6 2 [])=2∧wH zX (.mk 6 1 [])=2:=
 ⟨by kernel_rfl,by kernel_rfl,by kernel_rfl,by kernel_rfl,by kernel_rfl,by kernel_rfl,by kernel_rfl,by kernel_rfl,by kernel_rfl,by kernel_rfl⟩
theorem zRx:((List.range 23).all fun i=>!((ent zX (i:Int)).kind==2&&(ent zX (i:Int)).fam==0)||i==1||i==2)=true:=by kernel_rfl
theorem zUw{c:Int}(h2:wH zX (.mk 6 c [])=2)(hf:(ent zX c).fam=0):c=1∨c=2:=by
 have hk:=wD h2 (by decide)
 have hc:c<23:=by have:=hk.2.1;rw[cO]at this;exact this
 have e:ent zX c=ent zX (c.toNat:Int):=by unfold ent;rw[Int.toNat_natCast]
 have h:=List.all_eq_true.1 zRx c.toNat (List.mem_range.2 (by omega))
 have h3:(ent zX c).kind=2:=hk.2.2
 rw[←e,h3,hf]at h
 have:c.toNat=1∨c.toNat=2:=by simpa using h
 omega
theorem tR(c:Int)(az:List Tm):yF (lU c az) = .mk 6 c []:=by unfold lU;rw[P3,tS (by show (6:Int)≠5;decide)]
theorem pX(c:Int)(az:List Tm):yS (lU c az)=az:=by unfold lU;rw[aW,tY (by show (6:Int)≠5;decide)];rfl
theorem zGE(a b:Tm):yF (fM a b)=elH:=by unfold fM;rw[P3,tS (by show (7:Int)≠5;decide)]
theorem zKE(a b:Tm):yS (fM a b)=[elM,b,elS,a]:=by unfold fM;rw[aW,tY (by show (7:Int)≠5;decide)];rfl
inductive Sm:Tm->Prop
 |var (m:Int):Sm (.mk 8 m [])
 |con {c:Int} {az:List Tm}:wH zX (.mk 6 c [])=2->az.length=vP (ent zX c).type->(∀a∈az.take (ent zX c).pars.toNat,∃i,a = .mk 6 i []∧wH zX a=1)->(∀a∈az.drop (ent zX c).pars.toNat,Sm a)->Sm (lU c az)
 |plus {a b:Tm}:Sm a->Sm b->Sm (lU 21 [a,b])
 |el {a b:Tm}:Sm a->Sm b->Sm (fM a b)
structure Sb (f:Tm->Tm):Prop where
 con:∀c az,f (lU c az)=lU c (az.map f)
 el:∀a b,f (fM a b)=fM (f a) (f b)
 var:∀m,Sm (f (.mk 8 m []))
theorem Sb.leaf{f:Tm->Tm}(h:Sb f)(i:Int):f (.mk 6 i []) = .mk 6 i []:=h.con i []
theorem J9{c:Int}{az:List Tm}{P:Tm->Prop}(h1:∀a∈az.take (ent zX c).pars.toNat,∃i,a = .mk 6 i []∧wH zX a=1)(h2:∀a∈az.drop (ent zX c).pars.toNat,P a)(h:∀i,P (.mk 6 i [])):∀a∈az,P a:=fun a ha=>by
 rw[←List.take_append_drop (ent zX c).pars.toNat az]at ha
 rcases List.mem_append.1 ha with ha|ha
 ·obtain⟨i,rfl,-⟩:=h1 a ha
  exact h i
 ·exact h2 a ha
theorem Sb.sm{f:Tm->Tm}(hf:Sb f){t:Tm}(h:Sm t):Sm (f t):=by
 induction h with
 |var m=>exact hf.var m
 |con a b c d ih=>
  rw[hf.con]
  refine .con a (by rw[List.length_map];exact b) ?_ ?_
  ·rw[←List.map_take]
   intro x hx
   obtain⟨y,hy,rfl⟩:=List.mem_map.1 hx
   obtain⟨i,rfl,hk⟩:=c y hy
   exact⟨i,hf.leaf i,by rw[hf.leaf i];exact hk⟩
  ·rw[←List.map_drop]
   intro x hx
   obtain⟨y,hy,rfl⟩:=List.mem_map.1 hx
   exact ih y hy
 |plus a b ih1 U5=>rw[hf.con];exact .plus ih1 U5
 |el a b ih1 U5=>rw[hf.el];exact .el ih1 U5
theorem zDa(b c k:Int):∀(l:List Tm) (f:Tm),jM (uF f l) b c k=uF (jM f b c k) (l.map fun a=>jM a b c k)
 | [],f=>by rw[uF,List.map_nil,uF]
 |a::l,f=>by
  rw[uF,zDa b c k l,List.map_cons,uF]
  congr 1
theorem zDA(ls:List Tm)(b:Int):∀(l:List Tm) (f:Tm),cD ls (uF f l) b=uF (cD ls f b) (l.map fun a=>cD ls a b)
 | [],f=>by rw[uF,List.map_nil,uF]
 |a::l,f=>by
  rw[uF,zDA ls b l,List.map_cons,uF]
  congr 1
theorem zGF{f:Tm->Tm}{l:List Tm}(h:∀a∈l,f a=a):l.map f=l:=by
 have:=List.map_congr_left (f:=f) (g:=id) h
 rwa[List.map_id]at this
theorem Sm.lf{t:Tm}(h:Sm t)(b k:Int)(hb:0≤b):jM t b 0 k=t:=by
 induction h with
 |var m=>simp[jM,C0]
 |con h1 h2 h3 h4 ih=>unfold lU;rw[zDa,zGF (J9 h3 ih fun i=>by simp[jM,C0])];simp[jM,C0]
 |plus _ _ ih1 U5=>unfold lU;rw[zDa];simp[jM,C0,ih1,U5]
 |el _ _ ih1 U5=>unfold fM;rw[zDa];simp[jM,C0,ih1,U5,elM,elS,elH,xU,show ¬b+1+1≤0 by omega]
theorem Sm.si{t:Tm}(h:Sm t)(ls:List Tm)(b:Int)(hb:0≤b):cD ls t b=t:=by
 induction h with
 |var m=>simp[cD,siL]
 |con h1 h2 h3 h4 ih=>unfold lU;rw[zDA,zGF (J9 h3 ih fun i=>by simp[cD,siL])];simp[cD,siL]
 |plus _ _ ih1 U5=>unfold lU;rw[zDA];simp[cD,siL,ih1,U5]
 |el _ _ ih1 U5=>unfold fM;rw[zDA];simp[cD,siL,ih1,U5,elM,elS,elH,xU,show ¬b+1+1≤0 by omega]
theorem zRw{l:List yI}{Y y:Tm}{e0 k0 k:Int}(h:zWr l Y e0 k0 y 0 k):e0=0∧zH Y=true∧∃k',Br l Y y 0 k'∧k=k0+1+k':=by
 rcases h with⟨a,-,b,-⟩|⟨-,-,-,b,-⟩|h
 ·exact absurd b.symm a
 ·cases b
 ·exact h
theorem K0{l:List yI}{n:Int}{A B a y:Tm}{r:List Tm}{k:Int}(h:Br l (uF (.mk 4 n [A,B]) (a::r)) y 0 k):zH (uF (cD [a] B 0) r)=true∧∃k',Br l (uF (cD [a] B 0) r) y 0 k'∧k=0+1+k':=by
 have hh:yF (uF (.mk 4 n [A,B]) (a::r)) = .mk 4 n [A,B]:=by rw[P3,tS (by show (4:Int)≠5;decide)]
 have ha:yS (uF (.mk 4 n [A,B]) (a::r))=a::r:=by rw[aW,tY (by show (4:Int)≠5;decide)];rfl
 have e:wQ l (uF (.mk 4 n [A,B]) (a::r)) = .red (uF (iV B [a]).1 r) (iV B [a]).2:=by
  unfold wQ
  rw[hh,ha,if_pos ⟨rfl,by simp⟩]
  rfl
 obtain⟨h1,h2,k',h3,h4⟩:=zRw (h.inv_red e)
 have h5:=(zCR h1).2.2.2
 rw[h5]at h2 h3
 exact⟨h2,k',h3,h4⟩
theorem zAn{a b y:Tm}{k:Int}(ha:Sm a)(hb:Sm b)(h:Br zX (lU 21 [a,b]) y 0 k):zH (fM a b)=true∧∃k',k'<k∧Br zX (fM a b) y 0 k':=by
 have e:wQ zX (lU 21 [a,b]) = .red (uF (ent zX 21).body [a,b]) 0:=by
  unfold wQ
  rw[tR,pX,if_neg (fun h=>absurd h.1 (by show ¬(6:Int)=4;decide)),if_pos R1]
  rfl
 obtain⟨-,-,k1,h1,e1⟩:=zRw (h.inv_red e)
 rw[zMU]at h1
 obtain⟨-,k2,h2,e2⟩:=K0 h1
 have s1:cD [a] (.mk 4 0 [.mk 6 0 [],fM (.mk 1 1 []) (.mk 1 0 [])]) 0 = .mk 4 0 [.mk 6 0 [],fM a (.mk 1 0 [])]:=by
  simp[cD,siL,xU,fM,uF,elM,elS,elH,ha.lf 0 1 (by decide)]
 rw[s1]at h2
 obtain⟨h5,k3,h3,e3⟩:=K0 h2
 have s2:uF (cD [b] (fM a (.mk 1 0 [])) 0) []=fM a b:=by
  simp[cD,siL,xU,fM,uF,elM,elS,elH,ha.si [b] 0 (by decide),hb.lf 0 0 (by decide)]
 rw[s2]at h5 h3
 exact⟨h5,k3,by omega,h3⟩
theorem Sm.ok{t:Tm}(h:Sm t):t.Ok:=by
 induction h with
 |var m=>exact xX 8 m
 |con _ _ h3 h4 ih=>exact oT _ _ (xX 6 _) (J9 h3 ih fun i=>xX 6 i)
 |plus _ _ ih1 U5=>exact oT _ _ (xX 6 21) (by simpa using⟨ih1,U5⟩)
 |el _ _ ih1 U5=>exact oT _ _ (yB (by kernel_rfl)) (by simpa using⟨yB (by kernel_rfl),U5,yB (by kernel_rfl),ih1⟩)
theorem zGG{c:Int}{b:Tm}{own:List Tm}(hb:b.Ok)(ho:∀x∈own,x.Ok)(hl:own.length≤65535)(h:(fJ zX 0 0 c [elM,b,elS] own).2=0):(fJ zX 0 0 c [elM,b,elS] own).1=G9 zX 0 0 c [elM,b,elS] own:=by
 obtain⟨N,hE,-⟩:=dJ
 have hof:∀x∈[elM,b,elS],x.Ok:=by simpa using⟨yB (by kernel_rfl),hb,yB (by kernel_rfl)⟩
 have hs:=(gR zX 0 0 c [elM,b,elS] own hE hof ho (by simp) hl).2
 exact(hs.2.2 h).2.2.2.2.2.2.2.2.1
def ElI(a b y:Tm)(k:Int):Prop:=
 (y=fM a b∧∃z ka,Br zX a z 0 ka∧¬(xV zX z∧(ent zX (yF z).n).fam=0))∨(∃ka,ka<k∧Br zX a (lU 1 []) 0 ka∧zH b=true∧∃k',k'<k∧Br zX b y 0 k') ∨
  ∃ka a',ka<k∧Br zX a (lU 2 [a']) 0 ka∧y=lU 2 [fM a' b]∧zH y=true∧Sm a'
theorem zRv{a b y:Tm}{k:Int}(ha:Sm a)(hb:Sm b)(H:∀z ka,ka<k->Br zX a z 0 ka->Sm z)(h:Br zX (fM a b) y 0 k):ElI a b y k:=by
 have hk0:wH zX elH=0:=by unfold wH elH;rw[if_neg (by show ¬(7:Int)=6;decide)]
 have e:wQ zX (fM a b) = .tgt a:=by
  unfold wQ
  rw[zGE,zKE,if_neg (fun h=>absurd h.1 (by show ¬(7:Int)=4;decide)),hk0,if_neg (by decide),if_neg (by decide),if_pos (show elH.k=7 from rfl)]
  rw[show elH.n=0 from rfl,zGD,if_pos ⟨zXx,by simp⟩]
  rfl
 obtain⟨z,ea,ka,hz,h1|⟨rfl,h1⟩⟩:=h.inv_tgt e
 ·exact absurd h1.2.2.1.symm h1.1
 ·by_cases hc:xV zX z∧(ent zX (yF z).n).fam=0
  ·refine .inr ?_
   have er:uJ zX (fM a b) z=some (uF (fJ zX 0 0 (yF z).n [elM,b,elS] (yS z)).1 [],(fJ zX 0 0 (yF z).n [elM,b,elS] (yS z)).2):=by
    unfold uJ
    rw[zGE,zKE,hk0,if_neg (by decide),show elH.n=0 from rfl,if_pos hc,zGD,zAo,zRy]
    rfl
   rw[er]at h1
   rcases h1 with⟨h1,-⟩|⟨Y,e0,h1,hP⟩
   ·cases h1
   ·cases h1
    obtain⟨p1,p2,k',p3,p4⟩:=zRw hP
    have hn:=hz.nn
    have hn':=p3.nn
    have hzs:=H z ka (by omega) hz
    obtain⟨N,hE,-⟩:=dJ
    cases hzs with
    |var m=>exact absurd hc.1 T9
    |plus _ _=>
     have:=hc.1.1
     rw[tR,R1]at this
     cases this
    |el _ _=>
     have:=hc.1.1
     rw[zGE,hk0]at this
     cases this
    | @con c az q1 q2 q3 q4=>
     rw[tR,pX,show (Tm.mk 6 c []).n=c from rfl]at p1 p2 p3
     rw[tR]at hc
     have q5:=zUw q1 hc.2
     have ho:=J9 (P:=fun x=>x.Ok) q3 (fun x hx=>(q4 x hx).ok) fun i=>xX 6 i
     rcases q5 with rfl|rfl
     ·have hl:az=[]:=List.length_eq_zero_iff.1 (q2.trans vO.2.2.2.2.1)
      subst hl
      have e1:=zGG hb.ok ho (by simp) p1
      have e2:G9 zX 0 0 1 [elM,b,elS] []=b:=by
       unfold G9
       rw[zMV,nT,zAo,vO.1];rfl
      rw[e1,e2]at p2 p3
      exact .inl ⟨ka,by omega,hz,p2,k',by omega,p3⟩
     ·have hl:=q2.trans vO.2.2.2.2.2.1
      obtain⟨a',rfl⟩:=List.length_eq_one_iff.1 hl
      have ha':Sm a':=q4 a' (by rw[vO.2.2.2.1];simp)
      have e1:=zGG hb.ok ho (by simp) p1
      have e2:G9 zX 0 0 2 [elM,b,elS] [a']=uF elS [a',fM a' b]:=by
       unfold G9
       rw[zMW,nT,nT,if_pos rfl,zAo,vO.2.1]
       simp[zPS,U4,kJ,upI,aS,uF,tJ,fM,hb.lf 0 0 (by decide),ha'.lf 0 0 (by decide),elM,elS,elH,jM,C0,xU]
      rw[e1,e2]at p2 p3
      obtain⟨-,k2,h2,e3⟩:=K0 p3
      have s1:cD [a'] (.mk 4 0 [.mk 6 0 [],.mk 5 0 [.mk 6 2 [],.mk 1 0 []]]) 0 = .mk 4 0 [.mk 6 0 [],.mk 5 0 [.mk 6 2 [],.mk 1 0 []]]:=by
       simp[cD,siL,xU]
      rw[s1]at h2
      obtain⟨h5,k3,h3,e4⟩:=K0 h2
      have s2:uF (cD [fM a' b] (.mk 5 0 [.mk 6 2 [],.mk 1 0 []]) 0) []=lU 2 [fM a' b]:=by
       simp[cD,siL,xU,uF,lU,(Sm.el ha' hb).lf 0 0 (by decide)]
      rw[s2]at h5 h3
      have hc2:xV zX (lU 2 [fM a' b]):=⟨by rw[tR];exact q1,by rw[tR,pX];exact vO.2.2.2.2.2.1.symm⟩
      have hy:=mO hc2 h3
      exact .inr ⟨ka,a',by omega,hz,hy,by rw[hy];exact h5,ha'⟩
  ·refine .inl ⟨?_,z,ka,hz,hc⟩
   have er:uJ zX (fM a b) z=none:=by
    unfold uJ
    rw[zGE,hk0,if_neg (by decide),show elH.n=0 from rfl,if_neg hc]
   rw[er]at h1
   rcases h1 with⟨-,h1,-⟩|⟨Y,e0,h1,-⟩
   ·exact h1
   ·cases h1
theorem nO{c:Int}{az:List Tm}(h1:wH zX (.mk 6 c [])=2)(h2:az.length=vP (ent zX c).type):xV zX (lU c az):=⟨by rw[tR];exact h1,by rw[tR,pX];exact h2⟩
theorem zDB:xV zX (lU 1 []):=nO vO.2.2.2.2.2.2.2.2.2 vO.2.2.2.2.1.symm
theorem W9(a:Tm):xV zX (lU 2 [a]):=nO vO.2.2.2.2.2.2.2.2.1 vO.2.2.2.2.2.1.symm
theorem zXw{a:Tm}(h:Sm a):Sm (lU 2 [a]):=.con vO.2.2.2.2.2.2.2.2.1 vO.2.2.2.2.2.1.symm (fun x hx=>by rw[vO.2.2.2.1]at hx;cases hx) fun x hx=>by
 rw[vO.2.2.2.1]at hx
 rw[List.mem_singleton.1 hx];exact h
theorem Sm.br:∀(n:Nat) {x y:Tm} {k:Int},k<n->Sm x->Br zX x y 0 k->Sm y
 |0,_,_,_,hk,_,h=>by have:=h.nn;omega
 |n+1,x,y,k,hk,hx,h=>by
  have el:∀ {a b y:Tm} {k:Int},k<(n+1:Nat)->Sm a->Sm b->Br zX (fM a b) y 0 k->Sm y:=fun hk ha hb h=>by
   rcases zRv ha hb (fun z ka hl hz=>Sm.br n (by omega) ha hz) h with⟨rfl,-⟩|⟨ka,-,-,-,k2,h4,h5⟩|⟨ka,a',h4,h5,rfl,-,h6⟩
   ·exact .el ha hb
   ·exact Sm.br n (by omega) hb h5
   ·exact zXw (.el h6 hb)
  cases hx with
  |var m=>rw[zBS h];exact .var m
  |con q1 q2 q3 q4=>rw[mO (nO q1 q2) h];exact .con q1 q2 q3 q4
  |plus ha hb=>
   obtain⟨-,k',h1,h2⟩:=zAn ha hb h
   exact el (by omega) ha hb h2
  |el ha hb=>exact el hk ha hb h
theorem zRu{a b y:Tm}{k:Int}(ha:Sm a)(hb:Sm b):Br zX (fM a b) y 0 k->ElI a b y k:=zRv ha hb fun z ka _ hz=>Sm.br (ka.toNat+1) (by omega) ha hz
theorem Sm.put{f:Tm->Tm}(hf:Sb f):∀(n:Nat) {x y w:Tm} {k j:Int},k<n->Sm x->Br zX x y 0 k->zH (f x)=true->Br zX (f x) w 0 j->zH (f y)=true∧∃j',Br zX (f y) w 0 j'
 |0,_,_,_,_,_,hk,_,h,_,_=>by have:=h.nn;omega
 |n+1,x,y,w,k,j,hk,hx,h,hs,hw=>by
  have el:∀ {a b y w:Tm} {k j:Int},k<(n+1:Nat)->Sm a->Sm b->Br zX (fM a b) y 0 k->zH (fM (f a) (f b))=true->Br zX (fM (f a) (f b)) w 0 j->zH (f y)=true∧∃j',Br zX (f y) w 0 j':=fun {a b y w k j} hk ha hb h hs hw=>by
   have hsa:zH (f a)=true:=xI hs (by rw[zKE];simp)
   have hsb:zH (f b)=true:=xI hs (by rw[zKE];simp)
   have tgt:∀ {c:Int} {az:List Tm} {ka:Int},ka<k->Br zX a (lU c az) 0 ka->xV zX (lU c (az.map f))->∀ {z:Tm} {ka':Int},Br zX (f a) z 0 ka'->z=lU c (az.map f):=fun hl hz hc z ka' hz'=>by
    obtain⟨-,j',h'⟩:=Sm.put hf n (by omega) ha hz hsa hz'
    rw[hf.con]at h'
    exact mO hc h'
   rcases zRu ha hb h with⟨rfl,-⟩|⟨ka,h1,h2,-,k2,h4,h5⟩|⟨ka,a',h4,h5,rfl,-,h6⟩
   ·rw[hf.el];exact⟨hs,j,hw⟩
   ·rcases zRu (hf.sm ha) (hf.sm hb) hw with⟨-,z,kz,hz,hn⟩|⟨-,-,-,-,k3,-,h7⟩|⟨kz,a'',-,hz,-⟩
    ·have:=tgt h1 h2 zDB hz
     subst this
     exact absurd ⟨zDB,by rw[tR];exact vO.2.2.2.2.2.2.2.1⟩ hn
    ·exact Sm.put hf n (by omega) hb h5 hsb h7
    ·have:=congrArg yF (tgt h1 h2 zDB hz)
     rw[tR,tR]at this
     cases this
   ·rw[hf.con,List.map_cons,List.map_nil,hf.el]
    rcases zRu (hf.sm ha) (hf.sm hb) hw with⟨-,z,kz,hz,hn⟩|⟨kz,-,hz,-⟩|⟨kz,a'',-,hz,rfl,h8,-⟩
    ·have:=tgt h4 h5 (W9 _) hz
     subst this
     exact absurd ⟨W9 _,by rw[tR];exact vO.2.2.2.2.2.2.1⟩ hn
    ·have:=congrArg yF (tgt h4 h5 (W9 _) hz)
     rw[tR,tR]at this
     cases this
    ·have:=congrArg yS (tgt h4 h5 (W9 _) hz)
     rw[pX,pX,List.map_cons,List.map_nil]at this
     cases this
     exact⟨h8,zMT hw⟩
  cases hx with
  |var m=>rw[zBS h];exact⟨hs,j,hw⟩
  |con q1 q2 q3 q4=>rw[mO (nO q1 q2) h];exact⟨hs,j,hw⟩
  |plus ha hb=>
   obtain⟨-,k',h1,h2⟩:=zAn ha hb h
   rw[hf.con]at hs hw
   obtain⟨h3,j',-,h4⟩:=zAn (hf.sm ha) (hf.sm hb) hw
   exact el (by omega) ha hb h2 h3 h4
  |el ha hb=>rw[hf.el]at hs hw;exact el hk ha hb h hs hw
mutual
theorem zKF{a:Tm}{n:Int}:∀(t:Tm) (b:Int),xM (fun k m=>k=8->m≠n) t->qM a n t b=t
 | .mk k m l,b,h=>by
  rw[xM]at h
  rw[qM,if_neg (fun e=>?_),zGH l k 0 b h.2]
  rcases h.1 with q|q
  ·omega
  ·exact q e.1 e.2
theorem zGH{a:Tm}{n:Int}:∀(l:List Tm) (k:Int) (i:Nat) (b:Int),wM (fun k m=>k=8->m≠n) l->naL a n l k i b=l
 | [],_,_,_,_=>by rw[naL]
 |t::l,k,i,b,h=>by
  rw[wM]at h
  rw[naL,zKF t _ h.1,zGH l k (i+1) b h.2]
end
theorem zUv{a t:Tm}{n:Int}(h:¬n∈nY t):qM a n t 0=t:=zKF t 0 (eS.1 fun x hx e=>h (e▸hx))
def puT(so:List zS)(t:Tm):Tm:=so.foldl (fun t s=>qM s.t_ s.n_ t 0) t
theorem X0(s:zS)(so:List zS)(t:Tm):puT (s::so) t=puT so (qM s.t_ s.n_ t 0):=rfl
theorem zIL{a:Tm}(ha:Sm a)(n m:Int):qM a n (.mk 8 m []) 0=if m=n then a else .mk 8 m []:=by
 by_cases h:m=n
 ·rw[qM,if_pos ⟨rfl,h⟩,if_pos h];exact ha.lf 0 0 (Int.le_refl 0)
 ·rw[zDc (fun e=>h e.2),if_neg h]
theorem zAl{a:Tm}{n:Int}(ha:Sm a):Sb fun u=>qM a n u 0 where
 con c az:=by show qM a n (lU c az) 0=_;unfold lU;rw[zQV,zDc (by omega)]
 el x y:=by
  show qM a n (fM x y) 0=fM (qM a n x 0) (qM a n y 0)
  unfold fM
  rw[zQV]
  simp[elH,elM,elS,qM,naL,xU]
 var m:=by
  show Sm (qM a n (.mk 8 m []) 0)
  rw[zIL ha]
  split
  ·exact ha
  ·exact .var m
theorem zRt:∀ {so:List zS},(∀s∈so,Sm s.t_)->Sb (puT so)
 | [],_=>⟨fun c az=>by show lU c az=lU c (az.map fun x=>x);rw[List.map_id'],fun _ _=>rfl,fun m=>.var m⟩
 |s::so,h=>by
  have h1:=zAl (n:=s.n_) (h s (by simp))
  have h2:=zRt (so:=so) fun x hx=>h x (by simp[hx])
  refine⟨fun c az=>?_,fun x y=>?_,fun m=>?_⟩
  ·rw[X0,h1.con,h2.con,List.map_map];rfl
  ·rw[X0,h1.el,h2.el];rfl
  ·exact h2.sm (h1.var m)
theorem zDC:∀ {so:List zS} {t:Tm},(∀s∈so,¬s.n_∈nY t)->puT so t=t
 | [],_,_=>rfl
 |s::so,t,h=>by
  rw[X0,zUv (h s (by simp))]
  exact zDC fun x hx=>h x (by simp[hx])
theorem zRs:∀ {so:List zS},(∀s∈so,Sm s.t_)->(so.map (·.n_)).Nodup->(∀s∈so,∀r∈so,¬s.n_∈nY r.t_)->∀s∈so,puT so (.mk 8 s.n_ [])=s.t_
 |s0::so,h,hd,ho,s,hs=>by
  rw[List.map_cons,List.nodup_cons]at hd
  rw[X0,zIL (h s0 (by simp))]
  rcases List.mem_cons.1 hs with rfl|hs
  ·rw[if_pos rfl]
   exact zDC fun x hx=>ho x (by simp[hx]) s (by simp)
  ·rw[if_neg fun e=>hd.1 (List.mem_map.2 ⟨s,hs,e⟩)]
   exact zRs (fun x hx=>h x (by simp[hx])) hd.2 (fun x hx r hr=>ho x (by simp[hx]) r (by simp[hr])) s hs
theorem zIM{f:Tm->Tm}(hf:Sb f){a:Tm}{n:Int}(ha:Sm a)(h:f (.mk 8 n [])=f a){u:Tm}(hu:Sm u):f (qM a n u 0)=f u:=by
 induction hu with
 |var m=>
  rw[zIL ha]
  split
  ·rename_i e;rw[e,h]
  ·rfl
 |con h1 h2 h3 h4 ih=>
  rw[(zAl ha).con,hf.con,hf.con,List.map_map]
  congr 1
  exact List.map_congr_left (J9 h3 ih fun i=>by show f (qM a n (.mk 6 i []) 0)=_;rw[zDc (by omega)])
 |plus _ _ ih1 U5=>rw[(zAl ha).con,hf.con,hf.con,List.map_map];simp[ih1,U5]
 |el _ _ ih1 U5=>rw[(zAl ha).el,hf.el,hf.el,ih1,U5]
def Hol(x y:Tm):Prop:=∀b k,Cv zX false x y b k->b=true
theorem Hol.self(x:Tm):Hol x x:=fun b k h=>by
 obtain⟨N,hE,-⟩:=dJ
 exact h.refl hE
theorem zRr{c:Int}{p q:List Tm}{b:Bool}{k:Int}(hc:wH zX (.mk 6 c [])=2)(hp:p.length=vP (ent zX c).type)(hq:q.length=vP (ent zX c).type)(h:∀i:Nat,Hol (tJ p i) (tJ q i))(hd:S9 (Cv zX) false (tO zX false (lU c p) (lU c q)) b k):b=true:=by
 have key:∀ {ps:List PE},(∀e∈ps,Hol e.1.1 e.2.1)->S9 (Cv zX) false (.all ps) b k->b=true:=fun hp a=>uK.rel (R:=Hol) (fun x y b k h c=>h b k c) hp a
 have k5:∀r:List Tm,(lU c r).k=5∨(lU c r).k=6∧r=[]:=fun r=>by
  unfold lU
  cases r with
  |nil=>exact .inr ⟨rfl,rfl⟩
  |cons a l=>exact .inl (zKz _ _ (by simp))
 have hk:(lU c p).k=(lU c q).k:=by
  rcases k5 p with h1|⟨h1,rfl⟩<;>rcases k5 q with h2|⟨h2,rfl⟩
  ·rw[h1,h2]
  ·rw[List.length_nil]at hq
   have:=List.length_eq_zero_iff.1 (hp.trans hq.symm)
   subst this
   rfl
  ·rw[List.length_nil]at hp
   have:=List.length_eq_zero_iff.1 (hq.trans hp.symm)
   subst this
   rfl
  ·rfl
 have n4:∀r:List Tm,(lU c r).k≠4∧(lU c r).k≠3∧(lU c r).k≠2:=fun r=>by rcases k5 r with h|⟨h,-⟩<;>omega
 unfold tO at hd
 rw[if_neg (fun h=>h.elim (n4 p).1 (n4 q).1)]at hd
 by_cases hr:uQ zX (lU c p)
 ·have hr2:uQ zX (lU c q):=⟨nO hc hq,by have:=hr.2;rw[tR]at this ⊢;exact this⟩
  rw[if_pos hr,if_neg (fun h=>h.2 (by rw[tR,tR]))]at hd
  refine key (fun e he=>?_) hd
  obtain⟨j,rfl⟩:=J8 he
  unfold tN
  rw[if_pos ⟨hr,rfl⟩,if_pos ⟨hr2,by rw[tR,tR]⟩,pX,pX]
  exact h _
 ·have hr2:¬uQ zX (lU c q):=fun h2=>hr ⟨nO hc hp,by have:=h2.2;rw[tR]at this ⊢;exact this⟩
  rw[if_neg hr,if_neg hr2,if_neg (fun h=>h hk),if_neg (n4 p).2.1,if_neg (n4 p).2.2]at hd
  unfold kZ at hd
  rw[tR,tR,pX,pX,if_neg (by rintro (h|h|h|h)<;>first|exact h rfl|exact h (hp.trans hq.symm)|exact absurd h.1 (by show ¬(6:Int)=7;decide))]at hd
  unfold zIi at hd
  rw[tR,pX,pX,if_neg (by show ¬(6:Int)=3;decide),List.nil_append]at hd
  refine key (fun e he=>?_) hd
  refine zAp (R:=Hol) (fun i h1 h2=>?_) he
  have:=h i
  unfold tJ at this
  rw[Int.toNat_natCast,List.getElem?_eq_getElem h1,List.getElem?_eq_getElem h2]at this
  exact this
theorem Hol.br{f:Tm->Tm}(hf:Sb f){x y x' y':Tm}{k j:Int}(hx:Sm x)(hy:Sm y)(bx:Br zX x x' 0 k)(bz:Br zX y y' 0 j)
  (H:∀X Y b k1 k2 k3,Br zX (f x') X 0 k1->Br zX (f y') Y 0 k2->S9 (Cv zX) false (tO zX false X Y) b k3->b=true):Hol (f x) (f y):=fun b m h=>by
 obtain⟨r1,r2,X,k1,Y,k2,k3,h1,h2,h3,-⟩:=h.inv
 have:=bx.nn
 have:=bz.nn
 obtain⟨-,j1,g1⟩:=Sm.put hf (k.toNat+1) (by omega) hx bx r1.shaped h1
 obtain⟨-,j2,g2⟩:=Sm.put hf (j.toNat+1) (by omega) hy bz r2.shaped h2
 exact H X Y b j1 j2 k3 g1 g2 h3
theorem Sm.br'{x y:Tm}{k:Int}(h:Sm x)(hb:Br zX x y 0 k):Sm y:=by
 have:=hb.nn
 exact Sm.br (k.toNat+1) (by omega) h hb
theorem Sm.form{x:Tm}(h:Sm x)(hc:xV zX x):∃c az,x=lU c az∧wH zX (.mk 6 c [])=2∧az.length=vP (ent zX c).type∧(∀a∈az.take (ent zX c).pars.toNat,∃i,a = .mk 6 i []∧wH zX a=1)∧∀a∈az.drop (ent zX c).pars.toNat,Sm a:=by
 cases h with
 |var m=>exact absurd hc T9
 |plus _ _=>
  have:=hc.1
  rw[tR,R1]at this
  cases this
 |el _ _=>
  have:=hc.1
  rw[zGE]at this
  cases this
 |con a b c d=>exact⟨_,_,rfl,a,b,c,d⟩
theorem zBU{i:Int}{X:Tm}{k:Int}(hk:wH zX (.mk 6 i [])=1)(h:Br zX (.mk 6 i []) X 0 k):X = .mk 6 i []:=by
 have e:yF (Tm.mk 6 i []) = .mk 6 i []:=tS (by show (6:Int)≠5;decide)
 have ha:wQ zX (.mk 6 i []) = .none:=by
  unfold wQ
  rw[e,hk,if_neg (fun h=>absurd h.1 (by show ¬(6:Int)=4;decide)),if_neg (by decide),if_neg (by decide),if_neg (by show ¬(6:Int)=7;decide)]
 exact(h.inv_none ha).1
theorem zXv{i j k:Int}(hi:wH zX (.mk 6 i [])=1)(hj:wH zX (.mk 6 j [])=1)(h:Cv zX false (.mk 6 i []) (.mk 6 j []) true k):i=j:=by
 obtain⟨-,-,X,k1,Y,k2,k3,h1,h2,h3,-⟩:=h.inv
 rw[zBU hi h1,zBU hj h2]at h3
 have e:∀i,yF (Tm.mk 6 i []) = .mk 6 i []:=fun i=>tS (by show (6:Int)≠5;decide)
 have nr:∀ {i},wH zX (.mk 6 i [])=1->¬uQ zX (.mk 6 i []):=fun {i} h hr=>by
  have:=hr.1.1
  rw[e,h]at this
  cases this
 by_cases hn:i=j
 ·exact hn
 ·unfold tO at h3
  rw[if_neg (by rintro (h|h)<;>exact absurd h (by show ¬(6:Int)=4;decide)),if_neg (nr hi),if_neg (nr hj),if_neg (fun h=>h rfl),if_neg (by show ¬(6:Int)=3;decide),if_neg (by show ¬(6:Int)=2;decide)]at h3
  unfold kZ at h3
  rw[e,e,if_pos (.inr (.inl hn))]at h3
  exact absurd h3.1 (by decide)
theorem zKG{l:List Tm}{i:Nat}(h:l.length≤i):tJ l i=zT:=by
 unfold tJ
 rw[Int.toNat_natCast,List.getElem?_eq_none h];rfl
theorem zDD{l:List Tm}{i:Nat}(h:i<l.length):tJ l i=l[i]:=by
 unfold tJ
 rw[Int.toNat_natCast,List.getElem?_eq_getElem h];rfl
def SmE(e:zM):Prop:=Sm e.a_∧Sm e.b_
theorem Un.holds{N:ByteArray->Bool}(hE:wP N zX){c:List zR}{td:List zM}{so:List zS}{r:Option (List zR×List zS)}{M:Nat}(h:Un zX c td so r) :
  bB zX c td so M->(∀e∈td,SmE e)->(∀s∈so,Sm s.t_)->∀c' so',r=some (c',so')->(∀s∈so',Sm s.t_)∧(∀e∈td,Hol (puT so' e.a_) (puT so' e.b_))∧∀s∈so,puT so' (.mk 8 s.n_ [])=puT so' s.t_:=by
 induction h with
 | @done c so=>
  intro hI _ hs c' so' e
  cases e
  refine⟨hs,(fun e he=>nomatch he),fun s h'=>?_⟩
  rw[zRs hs hI.nd hI.os s h',zDC fun x hx=>hI.os x hx s h']
 | @sol c d e td so n t r a b hp f g _ ih=>
  intro hI he hs c' so' er
  have h0:=hI.may e (List.mem_cons_self ..)
  have hm:=a.may hE h0.1 h0.2
  have hse:=he e (List.mem_cons_self ..)
  obtain⟨x,y,k,j,hx,hy,-,hxy⟩:=a
  have sx:=hse.1.br' hx
  have sy:=hse.2.br' hy
  have st:Sm t:=by rcases hxy with⟨-,-,rfl⟩|⟨-,-,rfl⟩<;>assumption
  obtain⟨i1,i2,i3⟩:=ih (hI.solve hm.1 hm.2 b hp f g) (fun e' h'=>by
   obtain⟨e2,h2,rfl⟩:=List.mem_map.1 h'
   have:=he e2 (List.mem_cons_of_mem _ h2)
   exact⟨(zAl st).sm this.1,(zAl st).sm this.2⟩) (fun s h'=>by
   rcases List.mem_append.1 h' with h'|h'
   ·obtain⟨s2,h2,rfl⟩:=List.mem_map.1 h'
    exact(zAl st).sm (hs s2 h2)
   ·rw[List.mem_singleton.1 h'];exact st) c' so' er
  have hf:=zRt i1
  have hn:puT so' (.mk 8 n [])=puT so' t:=i3 ⟨n,t⟩ (by simp)
  refine⟨i1,fun e' h'=>?_,fun s h'=>?_⟩
  ·rcases List.mem_cons.1 h' with rfl|h'
   ·refine Hol.br hf hse.1 hse.2 hx hy fun X Y b k1 k2 k3 g1 g2 h3=>?_
    have hsx:=(gQ.1 (h0.1.br hE hx).1).1
    have hsy:=(gQ.1 (h0.2.br hE hy).1).1
    have e1:puT so' x=puT so' y:=by
     rcases hxy with⟨h8,e8,rfl⟩|⟨h8,e8,rfl⟩
     ·rw[zIK hsx h8 e8];exact hn
     ·rw[zIK hsy h8 e8];exact hn.symm
    rw[e1]at g1
    have e2:=(g1.det g2).1
    subst e2
    exact cP (fun m x b k h=>h.refl hE) h3
   ·have hh:=i2 (naE t n e') (List.mem_map.2 ⟨e',h',rfl⟩)
    have hs':=he e' (List.mem_cons_of_mem _ h')
    have:Hol (puT so' (qM t n e'.a_ 0)) (puT so' (qM t n e'.b_ 0)):=hh
    rwa[zIM hf st hn hs'.1,zIM hf st hn hs'.2]at this
  ·have:=i3 (naS t n s) (List.mem_append_left _ (List.mem_map.2 ⟨s,h',rfl⟩))
   have:puT so' (.mk 8 s.n_ [])=puT so' (qM t n s.t_ 0):=this
   rwa[zIM hf st hn (hs s h')]at this
 |cyc _ _=>intro _ _ _ c' so' e;cases e
 |conf _ _ _ _ _=>intro _ _ _ c' so' e;cases e
 | @inj c e td so x y k j r hx hy cx cy heq hpar _ ih=>
  intro hI he hs c' so' er
  have hse:=he e (List.mem_cons_self ..)
  have sx:=hse.1.br' hx
  have sy:=hse.2.br' hy
  obtain⟨c1,p,rfl,p1,p2,p3,p4⟩:=sx.form cx
  obtain⟨c2,q,rfl,q1,q2,q3,q4⟩:=sy.form cy
  rw[tR,tR]at heq
  have heq:c1=c2:=heq
  subst heq
  obtain⟨i1,i2,i3⟩:=ih (hI.inj hE hx hy) (fun e' h'=>by
   rcases List.mem_append.1 h' with h'|h'
   ·have hm:=I2 h'
    unfold nM at hm
    rw[tR,tR,pX,pX]at hm
    exact⟨p4 _ hm.1,q4 _ hm.2⟩
   ·exact he e' (List.mem_cons_of_mem _ h')) hs c' so' er
  have hf:=zRt i1
  refine⟨i1,fun e' h'=>?_,i3⟩
  rcases List.mem_cons.1 h' with rfl|h'
  ·refine Hol.br hf hse.1 hse.2 hx hy fun X Y b k1 k2 k3 g1 g2 h3=>?_
   rw[hf.con]at g1 g2
   have lp:(p.map (puT so')).length=vP (ent zX c1).type:=by rw[List.length_map,p2]
   have lq:(q.map (puT so')).length=vP (ent zX c1).type:=by rw[List.length_map,q2]
   rw[mO (nO p1 lp) g1,mO (nO p1 lq) g2]at h3
   refine zRr p1 lp lq (fun i=>?_) h3
   by_cases hi:i<p.length
   ·have hj:i<q.length:=by omega
    rw[zDD (by simpa using hi),zDD (by simpa using hj),List.getElem_map,List.getElem_map]
    by_cases hip:(i:Int)<(ent zX c1).pars
    ·obtain⟨k,hk⟩:=hpar i (by rw[tR];exact hip)
     rw[pX,pX,zDD hi,zDD hj]at hk
     obtain⟨i1,e1,f1⟩:=p3 p[i] (List.mem_take_iff_getElem.2 ⟨i,by omega,rfl⟩)
     obtain⟨i2,e2,f2⟩:=q3 q[i] (List.mem_take_iff_getElem.2 ⟨i,by omega,rfl⟩)
     rw[e1]at f1 hk ⊢
     rw[e2]at f2 hk ⊢
     have:=zXv f1 f2 hk
     subst this
     exact Hol.self _
    ·refine i2 ⟨p[i],q[i]⟩ (List.mem_append_left _ ?_)
     unfold tD nM
     rw[tR,tR,pX,pX]
     show _∈List.zipWith zM.mk (p.drop (ent zX c1).pars.toNat) (q.drop (ent zX c1).pars.toNat)
     refine List.mem_iff_getElem.2 ⟨i-(ent zX c1).pars.toNat,by simp;omega,?_⟩
     rw[List.getElem_zipWith,List.getElem_drop,List.getElem_drop]
     congr 2<;>omega
   ·rw[zKG (by rw[List.length_map];omega),zKG (by rw[List.length_map];omega)]
    exact Hol.self _
  ·exact i2 e' (List.mem_append_right _ h')
theorem zDE:zJ (fun q=>e8 q>>=fun r=>some r) true:=zII.bind zJ.ret
def e16(qq:Nat)(p0:yV)(p1:Tm):Option Bool:=
 e47 qq p1 0 (p0.length:Int)>>=fun r1=>
 some r1
theorem c16{qq p0 p1 r}(h:e16 qq p0 p1=some r):Ct 16 [] [zV xJ p0 .no,yY p1] (ab r) [] 0:=⟨by
 unfold e16 at h
 obtain⟨r1,h2,h⟩:=zC h
 obtain rfl:=sj h
 exact tF ⟨func16,rfl⟩ 0 [] (oC 2 [] (c47 h2) o0),⟨⟨tv,dE _⟩,⟨tv,tv,⟨tv,dT _⟩,tv⟩,tv⟩,zB,tv,zB⟩
def B8:Nat->yV->yM->Int->Option Bool
 |0,_,_,_=>none
 |qq+1,p0,l10,v10=>
 if decide (v10<(l10.length:Int))then
 zW l10 v10>>=fun x14=>
 e16 qq p0 x14>>=fun r16=>
 if r16 then
 B8 qq p0 l10 (xL (v10+1))
 else
 some false
 else
 some true
def e14(qq:Nat)(p0:yV)(p1:LR2)(p2 p3:yM):Option Bool:=
 e12 qq p1>>=fun r1=>
 if r1 then
 if (p2.length:Int) != (p3.length:Int)then
 some false
 else
 e31 qq p1>>=fun r5=>
 xF 40 r5 p2>>=fun l7=>
 xF 40 l7 p3>>=fun l10=>
 B8 qq p0 l10 0
 else
 some false
theorem xG:Qf 14 Tryz.f14:=⟨func14,rfl⟩
theorem zDF:∀qq:Nat,(∀ {p0 l10 v10 r},B8 qq p0 l10 v10=some r->(∀j,dL 0 (pt 16309 Tryz.f14) (sp j 40 0 [(0,zV xJ p0 .no),(9,zV zD l10 (.st 0 3)),(10,ai v10)]) (⟨[],0,[0],1,[]⟩) (fQ 0 (nQ 0 Tryz.f14 (ab r) [] 0) [.blk 0,.seq (pt 255 Tryz.f14)]))):=by
 intro qq
 induction qq with
 |zero=>
  exact fun h=>nn h
 |succ qq ih=>
  intro p0 l10 v10 r h
  rw[B8]at h
  obtain⟨h13,h⟩|⟨h13,h⟩:=zU h
  obtain⟨x14,h15,h⟩:=zC h
  obtain⟨r16,h17,h⟩:=zC h
  have k:=oA 0 (xH (o:=(.st 0 3)) h15)<|oB 1 h13 o0
  obtain⟨h18,h⟩|⟨h18,h⟩:=zU h
  exact fun j=>lH 2 [] [] [0] [0,9,10] (oD (dT l10)<|oD (dE p0)<|oK 1 [] h18 (c16 h17) k) (ih h)
  cases h
  exact fun j=>lF 1 [] (oK 1 [] h18 (c16 h17) k)
  cases h
  exact fun j=>lF 0 [] (oB 1 h13 o0)
theorem c14{qq p0 p1 p2 p3 r}(h:e14 qq p0 p1 p2 p3=some r):Ct 14 [] [zV xJ p0 .no,zV vK p1 .no,zV zD p2 .no,zV zD p3 .no] (ab r) [] 0:=⟨by
 unfold e14 at h
 obtain⟨r1,h2,h⟩:=zC h
 obtain⟨h3,h⟩|⟨h3,h⟩:=zU h
 have k:=oK 0 [] h3 (c12 h2) o0
 obtain⟨h4,h⟩|⟨h4,h⟩:=zU h
 cases h
 exact tF xG 0 [] (oB 3 h4 k)
 obtain⟨r5,h6,h⟩:=zC h
 obtain⟨l7,h8,h⟩:=zC h
 have k:=oC 0 [] (c31 h6)<|oB 3 h4 k
 by_cases h9:List.length p2=0
 obtain⟨l10,h11,h⟩:=zC h
 have k:=oP 0 (qE h8 h9) k
 by_cases h12:List.length p3=0
 exact tH xG 0 [] [] [0] [0,9,10] (oD (dT l10)<|oD (dE p0)<|oP 0 (qE h11 h12) k) (zDF _ h)
 exact tH xG 0 [] [] [1] [0,9,10] (oD (dT l10)<|oD (dE p0)<|oP 0 (vE h11 h12) k) (zDF _ h)
 obtain⟨l10,h11,h⟩:=zC h
 have k:=oP 0 (vE h8 h9) k
 by_cases h12:List.length p3=0
 exact tH xG 0 [] [] [1] [0,9,10] (oD (dT l10)<|oD (dE p0)<|oP 0 (qE h11 h12) k) (zDF _ h)
 exact tH xG 0 [] [] [2] [0,9,10] (oD (dT l10)<|oD (dE p0)<|oP 0 (vE h11 h12) k) (zDF _ h)
 cases h
 exact tF xG 1 [] (oK 0 [] h3 (c12 h2) o0),⟨⟨tv,dE _⟩,⟨tv,vU _⟩,⟨tv,dT _⟩,⟨tv,dT _⟩,tv⟩,zB,tv,zB⟩
mutual
theorem zKH(n:Int):∀t:Tm,t.Ok->zN (fun q=>e11 q t n) fun _=>True
 | .mk k i l,ho=>by
  rw[Tm.Ok]at ho
  refine zN.succ ?_
  simp only[e11]
  exact zN.ite (fun _=>zN.ret trivial) fun _=>zGI n l (.mk k i l) 0 rfl ho.1 ho.2
theorem zGI(n:Int):∀(r:List Tm) (p:Tm) (v:Nat),p.sub.drop v=r->p.sub.length<9223372036854775808->mX r->zN (fun q=>A7 q p n (v:Int)) fun _=>True
 | [],p,v,hd,hl,ho=>by
  refine zN.succ ?_
  simp only[A7]
  refine zN.ite (fun h=>?_) fun _=>zN.ret trivial
  rw[yH hd]at h;cases h
 |x::r,p,v,hd,hl,ho=>by
  have hlt:=yL hd
  rw[mX]at ho
  refine zN.succ ?_
  simp only[A7]
  refine zN.ite (fun _=>zN.pure (yD hd) ((zKH n x ho.1).bind fun b _=>zN.ite (fun _=>zN.ret trivial) fun _=>?_)) fun h=>?_
  ·rw[yA v (by omega)]
   exact zGI n r p (v+1) (zY hd) hl ho.2
  ·rw[yG hd]at h;cases h
end
theorem zGJ(n:Int):zN (fun q=>e67 q n) fun _=>True:=by
 simp only[e67]
 exact zN.ite (fun _=>zN.ret trivial) fun _=>zN.ret trivial
theorem dK(D:List vT)(hl:D.length≤1048576):∀(r:List vT) (v:Nat),D.drop v=r->(∀x∈r,x.type_.Ok)->zN (fun q=>A9 q D (v:Int)) fun b=>b=true->∀x∈r,zH x.type_=true
 | [],v,hd,h=>by
  refine zN.succ ?_
  simp only[A9]
  refine zN.ite (fun h=>?_) fun _=>zN.ret fun _ x hx=>by cases hx
  rw[yH hd]at h;cases h
 |x::r,v,hd,h=>by
  have hlt:=yL hd
  refine zN.succ ?_
  simp only[A9]
  refine zN.ite (fun _=>zN.pure (yD hd) ((zGJ x.n_).bind fun b _=>zN.ite (fun _=>zN.bind (P:=fun b=>b=zH x.type_) ((zAw x.type_ (h x (by simp))).tot rfl) fun b2 hb2=>zN.ite (fun h2=>?_) fun _=>zN.ret fun h=>by cases h) fun _=>zN.ret fun h=>by cases h)) fun h=>?_
  ·rw[yA v (by omega)]
   refine(dK D hl r (v+1) (zY hd) fun y hy=>h y (by simp[hy])).mono fun b hb hbt y hy=>?_
   rcases List.mem_cons.1 hy with rfl|hy
   ·rw[←hb2];exact h2
   ·exact hb hbt y hy
  ·rw[yG hd]at h;cases h
theorem bQ(D:List vT)(n:Int)(hl:D.length≤1048576):∀(r:List vT) (v:Nat),D.drop v=r->zN (fun q=>B0 q D n (v:Int)) fun _=>True
 | [],v,hd=>by
  refine zN.succ ?_
  simp only[B0]
  refine zN.ite (fun h=>?_) fun _=>zN.ret trivial
  rw[yH hd]at h;cases h
 |x::r,v,hd=>by
  have hlt:=yL hd
  refine zN.succ ?_
  simp only[B0]
  refine zN.ite (fun _=>zN.pure (yD hd) (zN.ite (fun _=>zN.ret trivial) fun _=>?_)) fun h=>?_
  ·rw[yA v (by omega)]
   exact bQ D n hl r (v+1) (zY hd)
  ·rw[yG hd]at h;cases h
theorem K1(D:List vT)(hl:D.length≤1048576):∀(r:List vT) (v:Nat),D.drop v=r->zN (fun q=>B1 q D (v:Int)) fun _=>True
 | [],v,hd=>by
  refine zN.succ ?_
  simp only[B1]
  refine zN.ite (fun h=>?_) fun _=>zN.ret trivial
  rw[yH hd]at h;cases h
 |x::r,v,hd=>by
  have hlt:=yL hd
  have hp:zN (fun q=>e69 q D x.n_) fun _=>True:=by
   simp only[e69]
   exact bQ D x.n_ hl _ 0 rfl
  refine zN.succ ?_
  simp only[B1]
  refine zN.ite (fun _=>zN.pure (yD hd) (hp.bind fun b _=>zN.ite (fun _=>zN.ret trivial) fun _=>?_)) fun h=>?_
  ·rw[yA v (by omega)]
   exact K1 D hl r (v+1) (zY hd)
  ·rw[yG hd]at h;cases h
theorem bR(D:List vT)(hl:D.length≤1048576)(x:vT)(v:Nat)(hx:zW D (v:Int)=some x)(hs:zH x.type_=true)(K:zN (fun q=>dH q D (xL ((v:Int)+1))) fun _=>True):∀(r:List vT) (k:Nat),D.drop k=r->zN (fun q=>B2 q D (v:Int) (k:Int)) fun _=>True
 | [],k,hd=>by
  refine zN.succ ?_
  simp only[B2]
  refine zN.ite (fun h=>?_) fun _=>K
  rw[yH hd]at h;cases h
 |y::r,k,hd=>by
  have hlt:=yL hd
  refine zN.succ ?_
  simp only[B2]
  refine zN.ite (fun _=>zN.pure hx (zN.pure (yD hd) ((zKH y.n_ x.type_ (yB hs)).bind fun b _=>zN.ite (fun _=>zN.ret trivial) fun _=>?_))) fun h=>?_
  ·rw[yA k (by omega)]
   exact bR D hl x v hx hs K r (k+1) (zY hd)
  ·rw[yG hd]at h;cases h
theorem bS(D:List vT)(hl:D.length≤1048576):∀(r:List vT) (v:Nat),D.drop v=r->(∀x∈r,zH x.type_=true)->zN (fun q=>dH q D (v:Int)) fun _=>True
 | [],v,hd,h=>by
  refine zN.succ ?_
  simp only[dH]
  refine zN.ite (fun h=>?_) fun _=>zN.ret trivial
  rw[yH hd]at h;cases h
 |x::r,v,hd,h=>by
  have hlt:=yL hd
  have hh:=zO (h x (by simp))
  refine zN.succ ?_
  simp only[dH]
  refine zN.ite (fun _=>zN.pure (yD hd) (zN.bind (P:=fun _=>True) ((Q7 x.type_ 0 hh.2.2 (by omega) (by omega)).tot trivial) fun b _=>zN.ite (fun _=>zN.ret trivial) fun _=>?_)) fun h=>?_
  ·refine bR D hl x v (yD hd) (h x (by simp)) ?_ (x::r) v hd
   rw[yA v (by omega)]
   exact bS D hl r (v+1) (zY hd) fun y hy=>h y (by simp[hy])
  ·rw[yG hd]at h;cases h
theorem zDG(D:List vT)(hl:D.length≤1048576)(ho:∀x∈D,x.type_.Ok):zN (fun q=>e12 q D) fun _=>True:=by
 simp only[e12,e36,e37]
 exact(dK D hl _ 0 rfl ho).bind fun b hb=>zN.ite (fun h=>(K1 D hl _ 0 rfl).bind fun b2 _=>zN.ite (fun _=>bS D hl _ 0 rfl (hb h)) fun _=>zN.ret trivial) fun _=>zN.ret trivial
theorem zIO(l:List yI)(t:Tm)(ho:t.Ok):zN (fun q=>e16 q l t) fun b=>b=true->uN l t:=by
 simp only[e16]
 exact zN.bind (P:=fun b=>b=rC t 0 l.length) ((zMR t 0 l.length ho).tot rfl) fun b hb=>zN.ret fun h=>by rw[hb]at h;exact h
theorem bT(l:List yI)(L:List Tm)(hl:L.length≤1048576):∀(r:List Tm) (v:Nat),L.drop v=r->(∀t∈r,t.Ok)->zN (fun q=>B8 q l L (v:Int)) fun b=>b=true->∀t∈r,uN l t
 | [],v,hd,h=>by
  refine zN.succ ?_
  simp only[B8]
  refine zN.ite (fun h=>?_) fun _=>zN.ret fun _ t ht=>by cases ht
  rw[yH hd]at h;cases h
 |x::r,v,hd,h=>by
  have hlt:=yL hd
  refine zN.succ ?_
  simp only[B8]
  refine zN.ite (fun _=>zN.pure (yD hd) ((zIO l x (h x (by simp))).bind fun b hb=>zN.ite (fun h1=>?_) fun _=>zN.ret fun h=>by cases h)) fun h=>?_
  ·rw[yA v (by omega)]
   refine(bT l L hl r (v+1) (zY hd) fun y hy=>h y (by simp[hy])).mono fun b2 hb2 h2 t ht=>?_
   rcases List.mem_cons.1 ht with rfl|ht
   ·exact hb h1
   ·exact hb2 h2 t ht
  ·rw[yG hd]at h;cases h
theorem zDH(l:List yI)(c:List zR)(A B:List Tm)(hc:c.length≤12)(hA:A.length≤8)(hB:B.length≤8)(oc:∀v∈c,v.type_.Ok)(oA:∀t∈A,t.Ok)(oB:∀t∈B,t.Ok) :
  zN (fun q=>e14 q l (ofV c) A B) fun b=>b=true->A.length=B.length∧∀t∈A++B,uN l t:=by
 have hof:(ofV c).length=c.length:=by unfold ofV;rw[List.length_map]
 have hom:∀x∈ofV c,x.type_.Ok:=fun x hx=>by
  obtain⟨v,hv,rfl⟩:=List.mem_map.1 hx
  exact oc v hv
 have ht:zJ (fun q=>e31 q (ofV c)) ((ofV c).map (·.type_)):=by
  simp only[e31]
  exact Q8 (ofV c) (by omega) _ 0 [] rfl (Nat.zero_le _) rfl
 have hm:((ofV c).map (fun v:vT=>v.type_)).length≤12:=by rw[List.length_map];omega
 simp only[e14]
 refine(zDG (ofV c) (by omega) hom).bind fun b _=>zN.ite (fun _=>zN.ite (fun _=>zN.ret fun h=>by cases h) fun h2=>?_) fun _=>zN.ret fun h=>by cases h
 have h2:A.length=B.length:=by have:=(by simpa using h2:(A.length:Int)=B.length);omega
 refine zN.bind (P:=fun r=>r=(ofV c).map (·.type_)) (ht.tot rfl) fun r8 h8=>?_
 subst h8
 refine zN.pure (yK (by omega)) (zN.pure (yK (by simp only[List.length_append];omega)) ?_)
 refine(bT l _ (by simp only[List.length_append];omega) _ 0 rfl fun t h=>?_).mono fun b hb h=>⟨h2,fun t ht=>hb h t ?_⟩
 ·rcases List.mem_append.1 h with h|h
  ·rcases List.mem_append.1 h with h|h
   ·obtain⟨x,hx,rfl⟩:=List.mem_map.1 h
    exact hom x hx
   ·exact oA t h
  ·exact oB t h
 ·rw[List.drop_zero,List.append_assoc];exact List.mem_append_right _ ht
theorem Un.num{l:List yI}{c:List zR}{td:List zM}{so:List zS}{r:Option (List zR×List zS)}(h:Un l c td so r):zFU c->(∀s∈so,0≤s.n_∧s.n_≤1048576)->∀c' so',r=some (c',so')->∀s∈so',0≤s.n_∧s.n_≤1048576:=by
 induction h with
 |done=>intro _ hs c' so' e;cases e;exact hs
 | @sol c d e td so n t r a b hp f g _ ih=>
  intro hC hs
  refine ih hp.right fun s h'=>?_
  rcases List.mem_append.1 h' with h'|h'
  ·obtain⟨s2,h2,rfl⟩:=List.mem_map.1 h'
   exact hs s2 h2
  ·rw[List.mem_singleton.1 h']
   obtain⟨v,hv,e⟩:=List.mem_map.1 hp.has
   have:=hC.each v hv
   show 0≤n∧n≤1048576
   rw[←e];exact⟨this.1,this.2.1⟩
 |cyc _ _=>intro _ _ c' so' e;cases e
 |conf _ _ _ _ _=>intro _ _ c' so' e;cases e
 |inj a b _ _ _ _ _ ih=>intro hC hs;exact ih hC hs
mutual
def e22:Nat->yV->Tm->Option Bool
 |0,_,_=>none
 |qq+1,p0,p1=>
 e51 qq p1>>=fun r1=>
 e49 qq p1>>=fun r3=>
 if r1.k==6 then
 if r1.n==21 then
 if (r3.length:Int)==2 then
 zW r3 0>>=fun x8=>
 e22 qq p0 x8>>=fun r10=>
 if r10 then
 zW r3 1>>=fun x13=>
 e22 qq p0 x13>>=fun r15=>
 some r15
 else
 some false
 else
 if p1.k==8 then
 some true
 else
 e48 qq p0 p1>>=fun r18=>
 if decide (r18<0)then
 some false
 else
 pO qq p0 r3 r18 0
 else
 if p1.k==8 then
 some true
 else
 e48 qq p0 p1>>=fun r22=>
 if decide (r22<0)then
 some false
 else
 pO qq p0 r3 r22 0
 else
 if p1.k==8 then
 some true
 else
 e48 qq p0 p1>>=fun r26=>
 if decide (r26<0)then
 some false
 else
 pO qq p0 r3 r26 0
def pO:Nat->yV->yM->Int->Int->Option Bool
 |0,_,_,_,_=>none
 |qq+1,p0,r3,v7,v8=>
 if decide (v8<(r3.length:Int))then
 zW p0 v7>>=fun x22=>
 if decide (v8<x22.pars)then
 zW r3 v8>>=fun x25=>
 if x25.k != 6 then
 some false
 else
 zW p0 x25.n>>=fun x28=>
 if x28.kind != 1 then
 some false
 else
 if decide (v8≥x22.pars)then
 e22 qq p0 x25>>=fun r32=>
 if r32 then
 pO qq p0 r3 v7 (xL (v8+1))
 else
 some false
 else
 pO qq p0 r3 v7 (xL (v8+1))
 else
 if decide (v8≥x22.pars)then
 zW r3 v8>>=fun x36=>
 e22 qq p0 x36>>=fun r38=>
 if r38 then
 pO qq p0 r3 v7 (xL (v8+1))
 else
 some false
 else
 pO qq p0 r3 v7 (xL (v8+1))
 else
 some true
end
abbrev K22 (p0:yV) (p1:Tm) (r:Bool) (C:Cf):Prop:=C 22 [] [zV xJ p0 .no,yY p1] (ab r) [] 0
theorem q22:Qf 22 f22:=⟨func22,rfl⟩
theorem k22{p0 p1 r}(h:K22 p0 p1 r Ci):K22 p0 p1 r Ct:=⟨h,⟨⟨tv,dE _⟩,⟨tv,tv,⟨tv,dT _⟩,tv⟩,tv⟩,zB,tv,zB⟩
theorem zMY:∀qq:Nat,(∀ {p0 p1 r},e22 qq p0 p1=some r->K22 p0 p1 r Ct)∧(∀ {p0 r3 v7 v8 r},pO qq p0 r3 v7 v8=some r->(∀j,dL 0 (pt 4194229 f22) (sp j 97 0 [(0,zV xJ p0 .no),(6,zV zD r3 (.st 0 3)),(7,ai v7),(8,ai v8)]) (⟨[],0,[0],1,[]⟩) (fQ 0 (nQ 0 f22 (ab r) [] 0) [.blk 0,.seq (pt 65535 f22)]))):=by
 intro qq
 induction qq with
 |zero=>
  exact⟨fun h=>nn h,fun h=>nn h⟩
 |succ qq ih=>
  obtain⟨zIP,fF⟩:=ih
  refine⟨?_,?_⟩
  intro p0 p1 r h
  rw[e22]at h
  obtain⟨r1,h2,h⟩:=zC h
  obtain⟨r3,h4,h⟩:=zC h
  have k:=oC 2 [] (c49 h4)<|oC 1 [] (c51 h2) o0
  obtain⟨h5,h⟩|⟨h5,h⟩:=zU h
  have k:=oB 1 h5 k
  obtain⟨h6,h⟩|⟨h6,h⟩:=zU h
  have k:=oB 1 h6 k
  obtain⟨h7,h⟩|⟨h7,h⟩:=zU h
  obtain⟨x8,h9,h⟩:=zC h
  obtain⟨r10,h11,h⟩:=zC h
  have k:=oA 0 (xH (o:=(.st 0 3)) h9)<|oB 1 h7 k
  obtain⟨h12,h⟩|⟨h12,h⟩:=zU h
  obtain⟨x13,h14,h⟩:=zC h
  obtain⟨r15,h16,h⟩:=zC h
  obtain rfl:=sj h
  exact k22 (tF q22 0 [] (oC 1 [] (zIP h16)<|oA 0 (xH (o:=(.st 0 3)) h14)<|oK 1 [] h12 (zIP h11) k))
  obtain rfl:=sj h
  exact k22 (tF q22 0 [] (oK 1 [] h12 (zIP h11) k))
  have k:=oB 1 h7 k
  obtain⟨h17,h⟩|⟨h17,h⟩:=zU h
  obtain rfl:=sj h
  exact k22 (tF q22 0 [] (oB 1 h17 k))
  obtain⟨r18,h19,h⟩:=zC h
  have k:=oC 1 [] (c48 h19)<|oB 1 h17 k
  obtain⟨h20,h⟩|⟨h20,h⟩:=zU h
  obtain rfl:=sj h
  exact k22 (tF q22 0 [] (oB 0 h20 k))
  exact k22 (tH q22 0 [] [] [0] [0,6,7,8] (oD (dT r3)<|oD (dE p0)<|oB 0 h20 k) (fF h))
  have k:=oB 1 h6 k
  obtain⟨h21,h⟩|⟨h21,h⟩:=zU h
  obtain rfl:=sj h
  exact k22 (tF q22 0 [] (oB 1 h21 k))
  obtain⟨r22,h23,h⟩:=zC h
  have k:=oC 1 [] (c48 h23)<|oB 1 h21 k
  obtain⟨h24,h⟩|⟨h24,h⟩:=zU h
  obtain rfl:=sj h
  exact k22 (tF q22 0 [] (oB 0 h24 k))
  exact k22 (tH q22 0 [] [] [0] [0,6,7,8] (oD (dT r3)<|oD (dE p0)<|oB 0 h24 k) (fF h))
  have k:=oB 1 h5 k
  obtain⟨h25,h⟩|⟨h25,h⟩:=zU h
  obtain rfl:=sj h
  exact k22 (tF q22 0 [] (oB 1 h25 k))
  obtain⟨r26,h27,h⟩:=zC h
  have k:=oC 1 [] (c48 h27)<|oB 1 h25 k
  obtain⟨h28,h⟩|⟨h28,h⟩:=zU h
  obtain rfl:=sj h
  exact k22 (tF q22 0 [] (oB 0 h28 k))
  exact k22 (tH q22 0 [] [] [0] [0,6,7,8] (oD (dT r3)<|oD (dE p0)<|oB 0 h28 k) (fF h))
  intro p0 r3 v7 v8 r h
  rw[pO]at h
  have z {os ob} (k:Oz os ob):=oD (dT r3)<|oD (dE p0)<|k
  obtain⟨h21,h⟩|⟨h21,h⟩:=zU h
  obtain⟨x22,h23,h⟩:=zC h
  have k:=oA 0 (wI (o:=.no) h23)<|oB 1 h21 o0
  obtain⟨h24,h⟩|⟨h24,h⟩:=zU h
  obtain⟨x25,h26,h⟩:=zC h
  have k:=oA 0 (xH (o:=(.st 0 3)) h26)<|oB 1 h24 k
  obtain⟨h27,h⟩|⟨h27,h⟩:=zU h
  obtain rfl:=sj h
  exact fun j=>lF 0 [] (oB 1 h27 k)
  obtain⟨x28,h29,h⟩:=zC h
  have k:=oA 1 (wI (o:=.no) h29)<|oA 0 (xH (o:=(.st 0 3)) h26)<|oB 1 h27 k
  obtain⟨h30,h⟩|⟨h30,h⟩:=zU h
  obtain rfl:=sj h
  exact fun j=>lF 0 [] (oB 1 h30 k)
  have k:=oA 0 (wI (o:=.no) h23)<|oB 1 h30 k
  obtain⟨h31,h⟩|⟨h31,h⟩:=zU h
  obtain⟨r32,h33,h⟩:=zC h
  have k:=oA 0 (xH (o:=(.st 0 3)) h26)<|oB 1 h31 k
  obtain⟨h34,h⟩|⟨h34,h⟩:=zU h
  exact fun j=>lH 2 [] [] [0] [0,6,7,8] (z<|oK 1 [] h34 (zIP h33) k) (fF h)
  obtain rfl:=sj h
  exact fun j=>lF 1 [] (oK 1 [] h34 (zIP h33) k)
  exact fun j=>lH 1 [] [] [0] [0,6,7,8] (z<|oB 1 h31 k) (fF h)
  have k:=oA 0 (wI (o:=.no) h23)<|oB 1 h24 k
  obtain⟨h35,h⟩|⟨h35,h⟩:=zU h
  obtain⟨x36,h37,h⟩:=zC h
  obtain⟨r38,h39,h⟩:=zC h
  have k:=oA 0 (xH (o:=(.st 0 3)) h37)<|oB 1 h35 k
  obtain⟨h40,h⟩|⟨h40,h⟩:=zU h
  exact fun j=>lH 2 [] [] [0] [0,6,7,8] (z<|oK 1 [] h40 (zIP h39) k) (fF h)
  obtain rfl:=sj h
  exact fun j=>lF 1 [] (oK 1 [] h40 (zIP h39) k)
  exact fun j=>lH 1 [] [] [0] [0,6,7,8] (z<|oB 1 h35 k) (fF h)
  obtain rfl:=sj h
  exact fun j=>lF 0 [] (oB 1 h21 o0)
theorem c22{qq p0 p1 r}(h:e22 qq p0 p1=some r):K22 p0 p1 r Ct:=(zMY _).1 h
def B9:Nat->sE->Int->Int->Int->yM->Option (Tm×Int)
 |0,_,_,_,_,_=>none
 |qq+1,p0,v19,pE,nL,tT=>
 if decide (v19<(p0.length:Int))then
 zW p0 v19>>=fun x7=>
 e54 qq (Tm.mk pE nL tT) x7.t_ x7.n_>>=fun r9=>
 if r9.2 != 0 then
 some ((Tm.mk 0 0 []),r9.2)
 else
 B9 qq p0 (xL (v19+1)) r9.1.k r9.1.n r9.1.sub
 else
 some ((Tm.mk pE nL tT),0)
def e23(qq:Nat)(p0:sE)(p1:Tm):Option (Tm×Int):=
 bI qq p1>>=fun r1=>
 if r1 then
 e53 qq p1>>=fun r4=>
 B9 qq p0 0 r4.k r4.n r4.sub
 else
 some ((Tm.mk 0 0 []),5)
theorem q23:Qf 23 f23:=⟨func23,rfl⟩
theorem zXu:∀qq:Nat,(∀ {p0 v19 pE nL tT r},B9 qq p0 v19 pE nL tT=some r->(∀j,dL 0 (pt 16309 f23) (sp j 39 0 [(4,.mp 0 0),(6,.mp 1 0),(17,zV zQ p0 .no),(18,ai (p0.length:Int)),(19,ai v19)]) (⟨[(0,.cells [ai 0,ai 0,.ms 2 0 (List.length ([]:yM)) (List.length ([]:yM)) 3]),(1,.cells [ai pE,ai nL,zV zD tT .no]),(2,.row (zG zD ([]:yM)))],3,[],0,[]⟩) (fQ 0 (nQ 0 f23 (.tup [yY r.1,ai r.2]) [] 0) [.blk 0,.seq (pt 255 f23)]))):=by
 intro qq
 induction qq with
 |zero=>
  exact fun h=>nn h
 |succ qq ih=>
  intro p0 v19 pE nL tT r h
  rw[B9]at h
  obtain⟨h6,h⟩|⟨h6,h⟩:=zU h
  obtain⟨x7,h8,h⟩:=zC h
  obtain⟨r9,h10,h⟩:=zC h
  have k:=oC 5 [] (c54 h10)<|oA 0 (zRS (o:=.no) h8)<|oB 0 h6 o0
  obtain⟨h11,h⟩|⟨h11,h⟩:=zU h
  cases h
  exact fun j=>lF 1 [] (oD (dT ([]:yM))<|oB 3 h11 k)
  exact fun j=>lH 3 [] [0,1,2] [] [4,6,17,18,19] (oD (zK p0)<|oD (dT ([]:yM))<|oD (dT r9.1.sub)<|oB 3 h11 k) (ih h)
  cases h
  exact fun j=>lF 2 [] (oD (dT tT)<|oB 0 h6 o0)
theorem c23{qq p0 p1 r}(h:e23 qq p0 p1=some r):Ct 23 [] [zV zQ p0 .no,yY p1] (.tup [yY r.1,ai r.2]) [] 0:=⟨by
 unfold e23 at h
 obtain⟨r1,h2,h⟩:=zC h
 obtain⟨h3,h⟩|⟨h3,h⟩:=zU h
 obtain⟨r4,h5,h⟩:=zC h
 exact tH q23 2 [(some 1,2,4099)] [1,2,3] [] [4,6,17,18,19] (oD (zK p0)<|oD (dT ([]:yM))<|oD (dT r4.sub)<|oC 2 [] (c53 h5)<|oK 1 [] h3 (nC h2) o0) (zXu _ h)
 cases h
 exact tF q23 2 [] (oD (dT ([]:yM))<|oK 1 [] h3 (nC h2) o0),⟨⟨tv,zK _⟩,⟨tv,tv,⟨tv,dT _⟩,tv⟩,tv⟩,zB,⟨⟨tv,tv,dT _,tv⟩,tv,tv⟩,zB⟩
def X1(qq:Nat)(q0 q1:Int):Option Int:=
 some q1
theorem zUu{qq q0 q1 r}(h:X1 qq q0 q1=some r):Ct 86 [.cells [ai q0,ai q1]] [.mp 0 1] (ai r) [.cells [ai q0,ai q1]] 0:=⟨by
 unfold X1 at h
 obtain rfl:=sj h
 exact tF ⟨func86,rfl⟩ 1 [0] (o0),⟨(lz rfl),tv⟩,(zA ⟨tv,tv,tv⟩ zB),tv,(zA ⟨tv,tv,tv⟩ zB)⟩
def e56(qq:Nat)(fl fu:Int):Option Int:=
 X1 qq fl fu>>=fun r1=>
 some r1
theorem c56{qq fl fu r}(h:e56 qq fl fu=some r):Ct 56 [.cells [ai fl,ai fu]] [.mp 0 0] (ai r) [.cells [ai fl,ai fu]] 0:=⟨by
 unfold e56 at h
 obtain⟨r1,h2,h⟩:=zC h
 obtain rfl:=sj h
 exact tF ⟨func56,rfl⟩ 0 [0] (oC 1 [0] (zUu h2) o0),⟨(lz rfl),tv⟩,(zA ⟨tv,tv,tv⟩ zB),tv,(zA ⟨tv,tv,tv⟩ zB)⟩
def e24(qq:Nat)(p0:yV)(p1 p2:Tm)(p3:Int):Option (Bool×Int×Int):=
 e27 qq p0>>=fun r1=>
 match r1 with
 | .inl y21=>
  none
 | .inr y3=>
  if y3.1 != 0 then
  none
  else
  e28 qq p3>>=fun r5=>
  match r5 with
  | .inl y14=>
   none
  | .inr y7=>
   if y7.1 != 0 then
   none
   else
   e55 qq (wA.mk y3.2.1 y3.2.2.2.2.1 y3.2.2.2.2.2 y3.2.2.1 y3.2.2.2.1) p1 p2 y7.2.1 y7.2.2>>=fun r9=>
   if r9.2.1 != 0 then
   some (false,0,r9.2.1)
   else
   e56 qq r9.2.2.1 r9.2.2.2>>=fun r12=>
   some (r9.1,r12,0)
theorem q24:Qf 24 f24:=⟨func24,rfl⟩
theorem c24{qq p0 p1 p2 p3 r}(h:e24 qq p0 p1 p2 p3=some r):Ct 24 [] [zV xJ p0 .no,yY p1,yY p2,ai p3] (.tup [ab r.1,ai r.2.1,ai r.2.2]) [] 0:=⟨by
 unfold e24 at h
 obtain⟨r1,h2,h⟩:=zC h
 rcases r1 with y21|y3
 cases h
 dsimp only at h
 have k:=oC 0 [] (c27 h2) o0
 obtain⟨h4,h⟩:=zXT h
 obtain⟨r5,h6,h⟩:=zC h
 have k:=oB 2 h4 k
 rcases r5 with y14|y7
 cases h
 dsimp only at h
 have k:=oC 0 [] (c28 h6) k
 obtain⟨h8,h⟩:=zXT h
 obtain⟨r9,h10,h⟩:=zC h
 have k:=oC 2 [2,3,4] (c55 h10)<|oB 2 h8 k
 obtain⟨h11,h⟩|⟨h11,h⟩:=zU h
 cases h
 exact tF q24 0 [] (oB 2 h11 k)
 obtain⟨r12,h13,h⟩:=zC h
 cases h
 exact tF q24 0 [] (oC 0 [4] (c56 h13)<|oB 2 h11 k),⟨⟨tv,dE _⟩,⟨tv,tv,⟨tv,dT _⟩,tv⟩,⟨tv,tv,⟨tv,dT _⟩,tv⟩,tv,tv⟩,zB,⟨tv,tv,tv,tv⟩,zB⟩
def K2:Nat->uO->yV->(yR×Int)->Int->Option Bool
 |0,_,_,_,_=>none
 |qq+1,p0,r1,r26,v7=>
 if decide (v7<(p0.a_.length:Int))then
 zW p0.a_ v7>>=fun x33=>
 e23 qq r26.1.solved_ x33>>=fun r35=>
 zW p0.b_ v7>>=fun x37=>
 e23 qq r26.1.solved_ x37>>=fun r39=>
 if r35.2 != 0 then
 if r35.2==2 then
 e8 qq>>=fun r43=>
 some r43
 else
 if r39.2==2 then
 e8 qq>>=fun r46=>
 some r46
 else
 some false
 else
 if r39.2 != 0 then
 if r35.2==2 then
 e8 qq>>=fun r50=>
 some r50
 else
 if r39.2==2 then
 e8 qq>>=fun r53=>
 some r53
 else
 some false
 else
 e24 qq r1 r35.1 r39.1 3000>>=fun r55=>
 if r55.1 then
 if r55.2.2==0 then
 K2 qq p0 r1 r26 (xL (v7+1))
 else
 K2 qq p0 r1 r26 (xL (v7+1))
 else
 if r55.2.2==0 then
 some false
 else
 K2 qq p0 r1 r26 (xL (v7+1))
 else
 e8 qq>>=fun r60=>
 some r60
def zAk:Nat->uO->yV->Int->Option Bool
 |0,_,_,_=>none
 |qq+1,p0,r1,v4=>
 if decide (v4<(p0.a_.length:Int))then
 zW p0.a_ v4>>=fun x12=>
 e22 qq r1 x12>>=fun r14=>
 if r14 then
 zW p0.b_ v4>>=fun x17=>
 e22 qq r1 x17>>=fun r19=>
 if r19 then
 zAk qq p0 r1 (xL (v4+1))
 else
 e8 qq>>=fun r22=>
 some r22
 else
 e8 qq>>=fun r24=>
 some r24
 else
 e9 qq r1 p0>>=fun r26=>
 if r26.2 != 0 then
 e8 qq>>=fun r29=>
 some r29
 else
 if r26.1.yes_ then
 K2 qq p0 r1 r26 0
 else
 e8 qq>>=fun r32=>
 some r32
def e5(qq:Nat)(p0:uO):Option Bool:=
 e13 qq>>=fun r1=>
 e7 qq p0>>=fun r3=>
 if r3 then
 e10 qq p0.c_>>=fun r6=>
 e14 qq r1 r6 p0.a_ p0.b_>>=fun r8=>
 if r8 then
 zAk qq p0 r1 0
 else
 e8 qq>>=fun r11=>
 some r11
 else
 e8 qq>>=fun r13=>
 some r13
theorem q5:Qf 5 Tryz.f5:=⟨func5,rfl⟩
theorem yAn:∀qq:Nat,(∀ {p0 r1 r26 v7 r},K2 qq p0 r1 r26 v7=some r->(∀j,dL 0 (pt 1048501 Tryz.f5) (sp j 131 0 [(1,.mp 0 0),(3,zV xJ r1 .no),(5,.mp 1 0),(7,ai v7)]) (⟨[(0,.cells [zV zI p0.c_ .no,zV zD p0.a_ .no,zV zD p0.b_ .no,ai p0.fuel_]),(1,.cells [ab r26.1.yes_,zV zI r26.1.vars_ .no,zV zQ r26.1.solved_ .no,zV yC r26.1.steps_ .no])],2,[],0,[]⟩) (fQ 0 (nQ 0 Tryz.f5 (ab r) [] 0) [.blk 2,.seq (pt 16383 Tryz.f5)]))):=by
 intro qq
 induction qq with
 |zero=>
  exact fun h=>nn h
 |succ qq ih=>
  intro p0 r1 r26 v7 r h
  rw[K2]at h
  have z {os ob} (k:Oz os ob):=oD (dE r1)<|oD (dI r26.1.steps_)<|oD (zK r26.1.solved_)<|oD (zF r26.1.vars_)<|oD (dT p0.b_)<|oD (dT p0.a_)<|oD (zF p0.c_)<|k
  obtain⟨h32,h⟩|⟨h32,h⟩:=zU h
  obtain⟨x33,h34,h⟩:=zC h
  obtain⟨r35,h36,h⟩:=zC h
  obtain⟨x37,h38,h⟩:=zC h
  obtain⟨r39,h40,h⟩:=zC h
  have k:=oC 1 [] (c23 h40)<|oA 5 (xH (o:=.no) h38)<|oC 1 [] (c23 h36)<|oA 2 (xH (o:=.no) h34)<|oB 2 h32 o0
  obtain⟨h41,h⟩|⟨h41,h⟩:=zU h
  have k:=oB 3 h41 k
  obtain⟨h42,h⟩|⟨h42,h⟩:=zU h
  obtain⟨r43,h44,h⟩:=zC h
  obtain rfl:=sj h
  exact fun j=>lF 0 [] (oC 0 [] (c8 h44)<|oB 0 h42 k)
  have k:=oB 0 h42 k
  obtain⟨h45,h⟩|⟨h45,h⟩:=zU h
  obtain⟨r46,h47,h⟩:=zC h
  obtain rfl:=sj h
  exact fun j=>lF 0 [] (oC 0 [] (c8 h47)<|oB 0 h45 k)
  obtain rfl:=sj h
  exact fun j=>lF 0 [] (oB 0 h45 k)
  have k:=oB 3 h41 k
  obtain⟨h48,h⟩|⟨h48,h⟩:=zU h
  have k:=oB 0 h48 k
  obtain⟨h49,h⟩|⟨h49,h⟩:=zU h
  obtain⟨r50,h51,h⟩:=zC h
  obtain rfl:=sj h
  exact fun j=>lF 0 [] (oC 0 [] (c8 h51)<|oB 0 h49 k)
  have k:=oB 0 h49 k
  obtain⟨h52,h⟩|⟨h52,h⟩:=zU h
  obtain⟨r53,h54,h⟩:=zC h
  obtain rfl:=sj h
  exact fun j=>lF 0 [] (oC 0 [] (c8 h54)<|oB 0 h52 k)
  obtain rfl:=sj h
  exact fun j=>lF 0 [] (oB 0 h52 k)
  obtain⟨r55,h56,h⟩:=zC h
  have k:=oC 2 [] (c24 h56)<|oB 0 h48 k
  obtain⟨h57,h⟩|⟨h57,h⟩:=zU h
  have k:=oB 0 h57 k
  obtain⟨h58,h⟩|⟨h58,h⟩:=zU h
  exact fun j=>lH 2 [] [0,1] [] [1,3,5,7] (z<|oB 2 h58 k) (ih h)
  exact fun j=>lH 1 [] [0,1] [] [1,3,5,7] (z<|oB 2 h58 k) (ih h)
  have k:=oB 0 h57 k
  obtain⟨h59,h⟩|⟨h59,h⟩:=zU h
  obtain rfl:=sj h
  exact fun j=>lF 1 [] (oB 2 h59 k)
  exact fun j=>lH 1 [] [0,1] [] [1,3,5,7] (z<|oB 2 h59 k) (ih h)
  obtain⟨r60,h61,h⟩:=zC h
  obtain rfl:=sj h
  exact fun j=>lF 0 [] (oC 0 [] (c8 h61)<|oB 2 h32 o0)
theorem yAm:∀qq:Nat,(∀ {p0 r1 v4 r},zAk qq p0 r1 v4=some r->(∀j,dL 0 (pt 16309 Tryz.f5) (sp j 131 0 [(1,.mp 0 0),(3,zV xJ r1 .no),(4,ai v4)]) (⟨[(0,.cells [zV zI p0.c_ .no,zV zD p0.a_ .no,zV zD p0.b_ .no,ai p0.fuel_])],1,[],0,[]⟩) (fQ 0 (nQ 0 Tryz.f5 (ab r) [] 0) [.blk 0,.seq (pt 255 Tryz.f5)]))):=by
 intro qq
 induction qq with
 |zero=>
  exact fun h=>nn h
 |succ qq ih=>
  intro p0 r1 v4 r h
  rw[zAk]at h
  have z {os ob} (k:Oz os ob):=oD (dT p0.b_)<|oD (dT p0.a_)<|oD (zF p0.c_)<|k
  obtain⟨h11,h⟩|⟨h11,h⟩:=zU h
  obtain⟨x12,h13,h⟩:=zC h
  obtain⟨r14,h15,h⟩:=zC h
  have k:=oA 1 (xH (o:=.no) h13)<|oB 2 h11 o0
  obtain⟨h16,h⟩|⟨h16,h⟩:=zU h
  obtain⟨x17,h18,h⟩:=zC h
  obtain⟨r19,h20,h⟩:=zC h
  have k:=oA 2 (xH (o:=.no) h18)<|oK 1 [] h16 (c22 h15) k
  obtain⟨h21,h⟩|⟨h21,h⟩:=zU h
  exact fun j=>lH 2 [] [0] [] [1,3,4] (oD (dE r1)<|z<|oK 1 [] h21 (c22 h20) k) (ih h)
  obtain⟨r22,h23,h⟩:=zC h
  obtain rfl:=sj h
  exact fun j=>lF 0 [] (oC 1 [] (c8 h23)<|oK 1 [] h21 (c22 h20) k)
  obtain⟨r24,h25,h⟩:=zC h
  obtain rfl:=sj h
  exact fun j=>lF 0 [] (oC 1 [] (c8 h25)<|oK 1 [] h16 (c22 h15) k)
  obtain⟨r26,h27,h⟩:=zC h
  have k:=oC 1 [] (c9 h27)<|oB 2 h11 o0
  obtain⟨h28,h⟩|⟨h28,h⟩:=zU h
  obtain⟨r29,h30,h⟩:=zC h
  obtain rfl:=sj h
  exact fun j=>lF 0 [] (oC 0 [] (c8 h30)<|oB 3 h28 k)
  have k:=oB 3 h28 k
  obtain⟨h31,h⟩|⟨h31,h⟩:=zU h
  exact fun j=>lH 1 [] [0,1] [] [1,3,5,7] (oD (dE r1)<|oD (dI r26.1.steps_)<|oD (zK r26.1.solved_)<|oD (zF r26.1.vars_)<|z<|oB 0 h31 k) (yAn _ h)
  obtain⟨r32,h33,h⟩:=zC h
  obtain rfl:=sj h
  exact fun j=>lF 0 [] (oC 1 [] (c8 h33)<|oB 0 h31 k)
theorem c5{qq p0 r}(h:e5 qq p0=some r):Ct 5 [] [z8 p0] (ab r) [] 0:=⟨by
 unfold e5 at h
 obtain⟨r1,h2,h⟩:=zC h
 obtain⟨r3,h4,h⟩:=zC h
 have k:=oC 0 [] (c13 h2) o0
 obtain⟨h5,h⟩|⟨h5,h⟩:=zU h
 obtain⟨r6,h7,h⟩:=zC h
 obtain⟨r8,h9,h⟩:=zC h
 have k:=aH 0<|aH 0<|oC 2 [] (c10 h7)<|oK 1 [] h5 (c7 h4) k
 obtain⟨h10,h⟩|⟨h10,h⟩:=zU h
 exact tH q5 1 [] [0] [] [1,3,4] (oD (dE r1)<|oD (dT p0.b_)<|oD (dT p0.a_)<|oD (zF p0.c_)<|oK 0 [] h10 (c14 h9) k) (yAm _ h)
 obtain⟨r11,h12,h⟩:=zC h
 obtain rfl:=sj h
 exact tF q5 0 [] (oC 1 [] (c8 h12)<|oK 0 [] h10 (c14 h9) k)
 obtain⟨r13,h14,h⟩:=zC h
 obtain rfl:=sj h
 exact tF q5 0 [] (oC 1 [] (c8 h14)<|oK 1 [] h5 (c7 h4) k),⟨⟨⟨tv,zF _⟩,⟨tv,dT _⟩,⟨tv,dT _⟩,tv,tv⟩,tv⟩,zB,tv,zB⟩
theorem zRo{N:ByteArray->Bool}(l:List yI)(hn:zJ (fun q=>e27 q l) (zCQ l true))(hE:wP N l)(he:∀e∈l,eK e)(hl:l.length≤65535)(hc:∀e∈l,ECl e)(x y:Tm)(hx:x.Ok)(hy:y.Ok)(f:Int)(h0:0≤f)(h1:f≤1048576) :
  ∃r:Bool×Int×Int,zJ (fun q=>e24 q l x y f) r∧(r.2.2=0->∃k,Cv l false x y r.1 k):=by
 have run:∀r,zJ (fun q=>e55 q (wW l) x y f 0) r->zJ (fun q=>e24 q l x y f) (if r.2.1≠0 then(false,0,r.2.1)else(r.1,r.2.2.2,0)):=fun r h=>by
  simp only[e24]
  refine hn.bind (zJ.ifF (by simp) ((zDr f h0 h1).bind (zJ.ifF (by simp) (zJ.bind (a:=r) h ?_))))
  by_cases e:r.2.1≠0
  ·rw[if_pos e];exact zJ.ifT (by simpa using e) zJ.ret
  ·rw[if_neg e]
   refine zJ.ifF (by simpa using e) (zJ.bind (a:=r.2.2.2) (zJ.mk fun q=>?_) zJ.ret)
   simp only[e56,X1];rfl
 rcases zKi l hE he hl hc false x y hx hy f h0 with⟨R,k,k0,k1,⟨b,e,h8,hC,hno,rfl⟩,h3,-⟩|⟨h,-⟩
 ·refine⟨_,run _ (h3 f 0 k1 (by omega) (by omega)),fun hz=>?_⟩
  by_cases e0:e=0
  ·subst e0
   rw[if_neg (by simp)]
   exact⟨k,hC rfl⟩
  ·rw[if_pos e0]at hz
   exact absurd hz e0
 ·obtain⟨r,h5,h6⟩:=h 0 (by omega) (by omega)
  have h7:=(i9 h6).2
  refine⟨_,run r h5,fun hz=>?_⟩
  rw[if_pos (by omega)]at hz
  have:r.2.1=0:=hz
  omega
theorem zAj(so:List zS)(hl:so.length≤1048576)(hs:∀s∈so,zH s.t_=true∧0≤s.n_∧s.n_≤1048576):∀(r:List zS) (v:Nat) (x:Tm),so.drop v=r->zH x=true ->
  zN (fun q=>B9 q so (v:Int) x.k x.n x.sub) fun y=>y.1.Ok∧(y.2=0∨y.2=2)∧(y.2=0->y.1=puT r x)
 | [],v,x,hd,hx=>by
  refine zN.succ ?_
  simp only[B9,rD]
  refine zN.ite (fun h=>?_) fun _=>zN.ret ⟨yB hx,.inl rfl,fun _=>rfl⟩
  rw[yH hd]at h;cases h
 |s::r,v,x,hd,hx=>by
  have hlt:=yL hd
  have hms:=hs s (List.mem_of_mem_drop (by rw[hd];simp))
  refine zN.succ ?_
  simp only[B9,rD]
  refine zN.ite (fun _=>zN.pure (yD hd) ((lJ x s.t_ s.n_ (yB hx) (yB hms.1)).bind fun r9 h9=>zN.ite (fun h=>zN.ret ⟨xX 0 0,.inr ?_,fun h2=>?_⟩) fun h=>?_)) fun h=>?_
  ·have h5:=h9.2.2.2.2 hx hms.1 hms.2.1 hms.2.2
   have:r9.2≠0:=by simpa using h
   rcases h9.2.2.2.1 with q|q|q
   ·exact absurd q this
   ·exact q
   ·exact absurd q h5
  ·have:r9.2≠0:=by simpa using h
   exact absurd h2 this
  ·have h0:r9.2=0:=by simpa using h
   obtain⟨-,-,-,-,h5,h6⟩:=h9.2.2.1 h0
   rw[h6,yA v (by omega)]
   exact zAj so hl hs r (v+1) _ (zY hd) h5
  ·rw[yG hd]at h;cases h
theorem zBV(so:List zS)(hl:so.length≤1048576)(hs:∀s∈so,zH s.t_=true∧0≤s.n_∧s.n_≤1048576)(x:Tm)(hx:zH x=true):zN (fun q=>e23 q so x) fun y=>y.1.Ok∧(y.2=0∨y.2=2)∧(y.2=0->y.1=puT so x):=by
 simp only[e23]
 refine zN.bind (P:=fun b=>b=zH x) ((xN x (yB hx)).tot rfl) fun b hb=>zN.ite (fun _=>zN.bind (P:=fun y=>y=x) ((qK x (yB hx)).tot (by unfold lV;rw[if_pos hx])) fun y hy=>?_) fun h=>?_
 ·subst hy
  exact zAj so hl hs so 0 y rfl hx
 ·rw[hb,hx]at h;cases h
theorem zBW(c:Int)(h0:0≤c)(h1:c<zX.length)(L:List Tm)(hl:L.length≤8192)(hM:∀a∈L,uN zX a)(H:∀a∈L,zN (fun q=>e22 q zX a) fun b=>b=true->Sm a):∀(r:List Tm) (v:Nat),L.drop v=r ->
  zN (fun q=>pO q zX L c (v:Int)) fun b=>b=true->∀(i:Nat) (a:Tm),v≤i->L[i]? = some a->((i:Int)<(ent zX c).pars->∃n,a = .mk 6 n []∧wH zX a=1)∧(¬(i:Int)<(ent zX c).pars->Sm a)
 | [],v,hd=>by
  refine zN.succ ?_
  simp only[pO]
  refine zN.ite (fun h=>?_) fun _=>zN.ret fun _ i a hi ha=>?_
  ·rw[yH hd]at h;cases h
  ·have:=List.drop_eq_nil_iff.1 hd
   have:=(List.getElem?_eq_some_iff.1 ha).1
   omega
 |x::r,v,hd=>by
  have hlt:=yL hd
  have hx:x∈L:=List.mem_of_mem_drop (by rw[hd];simp)
  have hxv:L[v]? = some x:=by rw[←List.head?_drop,hd];rfl
  have next:∀(P:((v:Int)<(ent zX c).pars->∃n,x = .mk 6 n []∧wH zX x=1)∧(¬(v:Int)<(ent zX c).pars->Sm x)),zN (fun q=>pO q zX L c (xL ((v:Int)+1))) fun b=>b=true->∀(i:Nat) (a:Tm),v≤i->L[i]? = some a->((i:Int)<(ent zX c).pars->∃n,a = .mk 6 n []∧wH zX a=1)∧(¬(i:Int)<(ent zX c).pars->Sm a):=fun P=>by
   rw[yA v (by omega)]
   refine(zBW c h0 h1 L hl hM H r (v+1) (zY hd)).mono fun b hb h i a hi ha=>?_
   by_cases e:i=v
   ·subst e
    rw[hxv]at ha
    cases ha
    exact P
   ·exact hb h i a (by omega) ha
  refine zN.succ ?_
  simp only[pO]
  refine zN.ite (fun _=>zN.pure (yT h0 h1) (zN.ite (fun hp=>zN.pure (yD hd) (zN.ite (fun _=>zN.ret fun h=>by cases h) fun h6=>?_)) fun hp=>?_)) fun h=>?_
  ·have h6:x.k=6:=by simpa using h6
   obtain⟨n,rfl⟩:=zUL (gQ.1 (hM x hx)).1 h6
   have hn:=(hM _ hx).ent
   have hp:=of_decide_eq_true hp
   refine zN.pure (yT hn.1 hn.2) (zN.ite (fun _=>zN.ret fun h=>by cases h) fun hk=>zN.ite (fun h=>absurd (of_decide_eq_true h) (by omega)) fun _=>next ⟨fun _=>⟨n,rfl,?_⟩,fun h=>absurd hp h⟩)
   unfold wH
   rw[if_pos (show (Tm.mk 6 n []).k=6 from rfl),if_pos (show (Tm.mk 6 n []).n<zX.length from hn.2)]
   exact(by simpa[Tm.n]using hk:(ent zX n).kind=1)
  ·have hp:=of_decide_eq_false hp
   refine zN.ite (fun _=>zN.pure (yD hd) ((H x hx).bind fun b hb=>zN.ite (fun h=>next ⟨fun h2=>absurd h2 hp,fun _=>hb h⟩) fun _=>zN.ret fun h=>by cases h)) fun h=>absurd (of_decide_eq_false h) (by omega)
  ·rw[yG hd]at h;cases h
theorem zAi{N:ByteArray->Bool}(hE:wP N zX):∀(n:Nat) (t:Tm),t.nodes≤n->uN zX t->zN (fun q=>e22 q zX t) fun b=>b=true->Sm t
 |0,t,hn,_=>by have:=vM t;omega
 |n+1,t,hn,hm=>by
  have hs:=(gQ.1 hm).1
  have hsp:=zO hs
  have hlen:=zRz t.nodes t hsp.2.2 (Nat.le_refl _)
  have H:∀a∈yS t,zN (fun q=>e22 q zX a) fun b=>b=true->Sm a:=fun a ha=>by
   have:=((kH t hsp.2.2).2.2.2.2 a ha).2.1
   exact zAi hE n a (by omega) (hm.ar ha).1
  have rest:zN (fun q=>if (t.k==8)=true then some true else e48 q zX t>>=fun r18=>if decide (r18<0)=true then some false else pO q zX (yS t) r18 0) fun b=>b=true->Sm t:=by
   refine zN.ite (fun h8=>zN.ret fun _=>?_) fun _=>?_
   ·rw[zIK hs (by simpa using h8) rfl];exact .var _
   ·refine zN.bind (P:=fun r=>r=if xV zX t then(yF t).n else -1) ((zUx zX hE t hs).tot rfl) fun c hc=>?_
    by_cases hC:xV zX t
    ·rw[if_pos hC]at hc
     subst hc
     have hi:=uB hs hC
     refine zN.ite (fun h=>absurd (of_decide_eq_true h) (by omega)) fun _=>?_
     refine(zBW (yF t).n hi.1 hi.2.1 (yS t) (by omega) (fun a ha=>(hm.ar ha).1) H _ 0 rfl).mono fun b hb h=>?_
     have key:=hb h
     rw[zWX hs hC]
     have hk:=hC.1
     rw[zGA hs hC]at hk
     refine .con hk hC.2 (fun a ha=>?_) fun a ha=>?_
     ·obtain⟨i,hi⟩:=List.mem_iff_getElem?.1 ha
      rw[List.getElem?_take]at hi
      split at hi
      ·exact(key i a (Nat.zero_le _) hi).1 (by omega)
      ·cases hi
     ·obtain⟨i,hi⟩:=List.mem_iff_getElem?.1 ha
      rw[List.getElem?_drop]at hi
      exact(key _ a (Nat.zero_le _) hi).2 (by omega)
    ·rw[if_neg hC]at hc
     subst hc
     exact zN.ite (fun _=>zN.ret fun h=>by cases h) fun h=>by cases h
  refine zN.succ ?_
  simp only[e22]
  refine zN.bind (P:=fun r=>r=yF t) (zJ.tot (by simp only[e51];exact R0 t.nodes t hsp.2.2 (Nat.le_refl _)) rfl) fun r1 e1=>?_
  subst e1
  refine zN.bind (P:=fun r=>r=yS t) ((zAq t.nodes t hsp.2.2 (Nat.le_refl _) hsp.1).tot rfl) fun r3 e3=>?_
  subst e3
  refine zN.ite (fun h6=>zN.ite (fun h21=>zN.ite (fun h2=>?_) fun _=>rest) fun _=>rest) fun _=>rest
  have h2:(yS t).length=2:=by have:=(by simpa using h2:((yS t).length:Int)=2);omega
  obtain⟨a,b,hab⟩:∃a b,yS t=[a,b]:=zLD h2
  have hh:yF t = .mk 6 21 []:=(by obtain⟨i,hi⟩:=zUL (uP hs) (by simpa using h6);rw[hi]at h21 ⊢;have:i=21:=(by simpa[Tm.n]using h21);rw[this])
  have ht:t=lU 21 [a,b]:=by
   have:=zBR t hsp.2.2
   rw[hh,hab]at this
   exact this.symm
  rw[hab]
  refine zN.pure (a:=a) rfl ((H a (by rw[hab];simp)).bind fun b1 hb1=>zN.ite (fun z1=>zN.pure (a:=b) rfl ((H b (by rw[hab];simp)).bind fun b2 hb2=>zN.ret fun z2=>?_)) fun _=>zN.ret fun h=>by cases h)
  rw[ht]
  exact .plus (hb1 z1) (hb2 z2)
section
variable {x:uO}
theorem zRn{c':List zR}{so':List zS}{st:List Int}(hlen:x.a_.length=x.b_.length)(hA:x.a_.length≤8)(hM:∀t∈x.a_++x.b_,uN zX t)(hl:so'.length≤1048576)(hs:∀s∈so',zH s.t_=true∧0≤s.n_∧s.n_≤1048576)
  (hH:∀e∈tD x.a_ x.b_,Hol (puT so' e.a_) (puT so' e.b_)):∀(m v:Nat),v+m=x.a_.length->zJ (fun q=>K2 q x zX (yR.mk true c' so' st,0) (v:Int)) true
 |0,v,hvm=>by
  refine zJ.succ ?_
  simp only[K2]
  exact zJ.ifF (decide_eq_false (by omega)) zDE
 |m+1,v,hvm=>by
  obtain⟨a,ha⟩:∃a,x.a_[v]? = some a:=⟨_,List.getElem?_eq_getElem (by omega)⟩
  obtain⟨b,hb⟩:∃b,x.b_[v]? = some b:=⟨_,List.getElem?_eq_getElem (by omega)⟩
  have sa:=(gQ.1 (hM a (List.mem_append_left _ (List.mem_of_getElem? ha)))).1
  have sb:=(gQ.1 (hM b (List.mem_append_right _ (List.mem_of_getElem? hb)))).1
  obtain⟨p1,hp1,o1,e1,q1⟩:=zBV so' hl hs a sa
  obtain⟨p2,hp2,o2,e2,q2⟩:=zBV so' hl hs b sb
  obtain⟨N,hE,hn⟩:=dJ
  obtain⟨r,hr,hC⟩:=zRo zX hn hE zAt (by rw[cO];omega) zAs p1.1 p2.1 o1 o2 3000 (by omega) (by omega)
  have go:=zRn (c':=c') (st:=st) hlen hA hM hl hs hH m (v+1) (by omega)
  refine zJ.succ ?_
  simp only[K2]
  rw[yA v (by omega)]
  refine zJ.ifT (decide_eq_true (by omega)) (zJ.pure (sH ha) (hp1.bind (zJ.pure (sH hb) (hp2.bind ?_))))
  rcases e1 with e1|e1
  ·rcases e2 with e2|e2
   ·refine zJ.ifF (by simp[e1]) (zJ.ifF (by simp[e2]) (hr.bind (zJ.iff (fun _=>zJ.iff (fun _=>go) fun _=>go) fun h1=>zJ.iff (fun h2=>?_) fun _=>go)))
    obtain⟨k,hk⟩:=hC (by simpa using h2)
    rw[q1 e1,q2 e2]at hk
    have hmem:(⟨a,b⟩:zM)∈tD x.a_ x.b_:=List.mem_of_mem_take (i:=v+1) (by rw[d9 ha hb];simp)
    rw[hH _ hmem _ _ hk]at h1
    cases h1
   ·exact zJ.ifF (by simp[e1]) (zJ.ifT (by simp[e2]) (zJ.ifF (by simp[e1]) (zJ.ifT (by simp[e2]) zDE)))
  ·exact zJ.ifT (by simp[e1]) (zJ.ifT (by simp[e1]) zDE)
theorem zRm(hL:zKB x)(hx:zIJ x)(hlen:x.a_.length=x.b_.length)(hM:∀t∈x.a_++x.b_,uN zX t):∀(m v:Nat),v+m=x.a_.length->(∀e∈(tD x.a_ x.b_).take v,SmE e)->zJ (fun q=>zAk q x zX (v:Int)) true
 |0,v,hvm,h=>by
  have hz:(tD x.a_ x.b_).length=x.a_.length:=by unfold tD;rw[List.length_zipWith];omega
  obtain⟨r,hr,hS⟩:=zGd zX x (by rw[cO];omega) zAt zAs hL hx
  refine zJ.succ ?_
  simp only[zAk]
  refine zJ.ifF (decide_eq_false (by omega)) (hr.bind ?_)
  rw[List.take_of_length_le (by omega)]at h
  rcases hS with e|⟨⟨N,hE⟩,h1,h2,h3,h4,hU⟩
  ·exact zJ.ifT (by simpa using e) zDE
  ·have hI:=bB.start h1 h4 h3
   rcases hU with⟨s,hU,rfl⟩|⟨c',so',s,hU,rfl⟩
   ·exact zJ.ifF rfl (zJ.ifF rfl zDE)
   ·obtain⟨-,hH,-⟩:=hU.holds hE hI h (fun s hs=>nomatch hs) c' so' rfl
    have hJ:=hU.inv hE hI c' so' rfl
    have:=hJ.len
    have:=hL.c
    have hn:=hU.num h1 (fun s hs=>nomatch hs) c' so' rfl
    exact zJ.ifF rfl (zJ.ifT rfl (zRn hlen hL.a hM (by omega) (fun s hs=>⟨(gQ.1 (hJ.sol s hs)).1,hn s hs⟩) hH x.a_.length 0 (by omega)))
 |m+1,v,hvm,h=>by
  have hA:=hL.a
  obtain⟨a,ha⟩:∃a,x.a_[v]? = some a:=⟨_,List.getElem?_eq_getElem (by omega)⟩
  obtain⟨b,hb⟩:∃b,x.b_[v]? = some b:=⟨_,List.getElem?_eq_getElem (by omega)⟩
  obtain⟨N,hE,-⟩:=dJ
  obtain⟨p1,hp1,q1⟩:=zAi hE a.nodes a (Nat.le_refl _) (hM a (List.mem_append_left _ (List.mem_of_getElem? ha)))
  obtain⟨p2,hp2,q2⟩:=zAi hE b.nodes b (Nat.le_refl _) (hM b (List.mem_append_right _ (List.mem_of_getElem? hb)))
  refine zJ.succ ?_
  simp only[zAk]
  refine zJ.ifT (decide_eq_true (by omega)) (zJ.pure (sH ha) (hp1.bind (zJ.iff (fun z1=>zJ.pure (sH hb) (hp2.bind (zJ.iff (fun z2=>?_) fun _=>zDE))) fun _=>zDE)))
  rw[yA v (by omega)]
  refine zRm hL hx hlen hM m (v+1) (by omega) fun e he=>?_
  rw[d9 ha hb]at he
  rcases List.mem_append.1 he with he|he
  ·exact h e he
  ·rw[List.mem_singleton.1 he];exact⟨q1 z1,q2 z2⟩
end
theorem zAL(x:uO)(hx:zIJ x):zJ (fun q=>e5 q x) true:=by
 simp only[e5]
 obtain⟨g,hg,hg'⟩:=zGe x
 refine zUz.bind (hg.bind (zJ.iff (fun z=>?_) fun _=>zDE))
 have hL:=hg' z
 have:=hL.c
 refine(zUF x.c_ (by omega)).bind ?_
 obtain⟨p,hp,hq⟩:=zDH zX x.c_ x.a_ x.b_ hL.c hL.a hL.b hx.c hx.a hx.b
 exact hp.bind (zJ.iff (fun z2=>zRm hL hx (hq z2).1 (hq z2).2 x.a_.length 0 (by omega) fun e he=>by simp at he) fun _=>zDE)
theorem zAM(x:uO)(w0:zIJ x):CT prog 5 [] [.agg (jJ x)] (ab true) [] 0:=by
 obtain⟨q,hq⟩:=(zAL x w0).at
 exact c5 hq
end Go.Proofs.YtfbkefchjcocmaaGreat
