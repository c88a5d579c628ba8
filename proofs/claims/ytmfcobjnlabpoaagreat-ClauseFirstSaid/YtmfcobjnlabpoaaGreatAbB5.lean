/- Texts: AbF186va8342_244va62322_186va48102_244va53988 AbVc AbVd AbUf AbF121va42196 AbF121va55787 AbF54 AbVe AbF170 AbF100 AbF21 AbF101 AbF171 AbF98 AbF102 AbF103 AbF104 AbF95 AbF96 AbF97 AbF25 AbF99 AbF44 AbUg AbF113va35861 AbF47 AbF48 AbUh AbF50 AbF182 AbF117 AbF52 AbF10 AbVf AbSa AbF276 AbSb AbF378 AbF350 AbF315 AbF275 AbSc AbF203 AbF316 AbF277 AbF205 AbF206 AbSd AbF139 AbF204 AbF140 AbF73 AbSe AbF70 AbF18 AbF71 AbF20 AbPe AbF85 AbF30 AbF168 AbF116 AbPf AbF207 AbF208 AbF77 AbF209 AbF76 AbF78 AbF79 AbF86 AbF87 AbSf AbF26 AbF35 AbWz AbF296 AbF237 AbWa AbF239 AbF181 AbF179 AbF240 AbF297 AbF238 -/
import Derived.Test.YtmfcobjnlabpoaaGreatAbB4
set_option linter.unusedVariables false
set_option linter.unusedSimpArgs false
set_option linter.unusedSectionVars false
namespace Go.Proofs.YtmfcobjnlabpoaaGreat
open Go Go.Ab
mutual
def e186vacs:Nat->(List Ent)->(List Ent)->(List Con')->(List Int)->(List Int)->Int->Int->Int->PatternPat->Tm->(List Tm)->Nat->Nat->Option (Int×Tm×Int×Int×Int×List Tm×Nat×Nat)
 |0,_,_,_,_,_,_,_,_,_,_,_,_,_=>none
 |qq+1,q0,q1,q2,q3,q4,q5,q6,q7,p1,p2,q10,q11,q12=>
 if p1.kind_==3 then
 some (0,p2,q7,q5,q6,q10,q11,q12)
 else
 if p1.kind_==1 then
 gfz q11 q10>>=fun l3=>
 gapp 40 l3 [(Tm.mk 0 0 [])]>>=fun l5=>
 gchk (List.length l5) (q11:Int)>>=fun x7=>
 gset l5 x7 p2>>=fun x9=>
 some (0,p2,q7,q5,q6,x9,List.length l5,List.length l5)
 else
 if p1.kind_==4 then
 some (1,p2,q7,q5,q6,q10,q11,q12)
 else
 e165 qq (Mach.mk q0 q1 q2 q3 q4) p2>>=fun r12=>
 if r12.2.2 then
 if r12.1 != p1.n_ then
 some (1,p2,q7,q5,q6,q10,q11,q12)
 else
 e166 qq (Mach.mk q0 q1 q2 q3 q4) r12.1>>=fun r16=>
 gsl r12.2.1 r16 (List.length r12.2.1:Int)>>=fun x18=>
 e244vact qq q0 q1 q2 q3 q4 q5 q6 q7 p1.sub_ x18 p2 q10 q11 q12>>=fun r20=>
 some (r20.1,r20.2.1,r20.2.2.1,r20.2.2.2.1,r20.2.2.2.2.1,r20.2.2.2.2.2.1,r20.2.2.2.2.2.2.1,r20.2.2.2.2.2.2.2)
 else
 e69 qq (Mach.mk q0 q1 q2 q3 q4) p2 q5 q6>>=fun r22=>
 if r22.2.1 != 0 then
 some (2,p2,r22.2.1,r22.2.2.1,r22.2.2.2,q10,q11,q12)
 else
 e165 qq (Mach.mk q0 q1 q2 q3 q4) r22.1>>=fun r25=>
 if r25.2.2 then
 if r25.1 != p1.n_ then
 some (1,r22.1,q7,r22.2.2.1,r22.2.2.2,q10,q11,q12)
 else
 e166 qq (Mach.mk q0 q1 q2 q3 q4) r25.1>>=fun r29=>
 gsl r25.2.1 r29 (List.length r25.2.1:Int)>>=fun x31=>
 e244vact qq q0 q1 q2 q3 q4 r22.2.2.1 r22.2.2.2 q7 p1.sub_ x31 r22.1 q10 q11 q12>>=fun r33=>
 some (r33.1,r33.2.1,r33.2.2.1,r33.2.2.2.1,r33.2.2.2.2.1,r33.2.2.2.2.2.1,r33.2.2.2.2.2.2.1,r33.2.2.2.2.2.2.2)
 else
 some (2,p2,q7,r22.2.2.1,r22.2.2.2,q10,q11,q12)
 termination_by structural n=>n
def e244vact:Nat->(List Ent)->(List Ent)->(List Con')->(List Int)->(List Int)->Int->Int->Int->(List PatternPat)->(List Tm)->Tm->(List Tm)->Nat->Nat->Option (Int×Tm×Int×Int×Int×List Tm×Nat×Nat)
 |0,_,_,_,_,_,_,_,_,_,_,_,_,_,_=>none
 |qq+1,q0,q1,q2,q3,q4,q5,q6,q7,p1,p2,p3,q11,q12,q13=>
 e167 qq p3>>=fun r1=>
 e120vr qq r1.2>>=fun r3=>
 match r3 with
 |Sum.inl y5=>
  e244vactLcu qq q0 q1 q2 q3 q4 q5 q6 q7 p1 p2 q11 q12 q13 r1 0
 |Sum.inr y6=>
  e244vactLcv qq q0 q1 q2 q3 q4 p1 p2 r1 y6 0 q7 q5 q6 q13 q12 y6 q11
 termination_by structural n=>n
def e244vactLcu:Nat->(List Ent)->(List Ent)->(List Con')->(List Int)->(List Int)->Int->Int->Int->(List PatternPat)->(List Tm)->(List Tm)->Nat->Nat->(Tm×List Tm)->Int->Option (Int×Tm×Int×Int×Int×List Tm×Nat×Nat)
 |0,_,_,_,_,_,_,_,_,_,_,_,_,_,_,_=>none
 |qq+1,q0,q1,q2,q3,q4,q5,q6,q7,p1,p2,q11,q12,q13,r1,v27=>
 if decide (v27<(List.length p1:Int))then
 gidx p1 v27>>=fun x7=>
 gidx p2 v27>>=fun x9=>
 e186vacs qq q0 q1 q2 q3 q4 q5 q6 q7 (PatternPat.mk x7.kind_ x7.n_ x7.at_ x7.sub_ x7.t_) x9 q11 q12 q13>>=fun r11=>
 none
 else
 e151 qq r1.1 []>>=fun r13=>
 some (0,r13,q7,q5,q6,q11,q12,q13)
 termination_by structural n=>n
def e244vactLcv:Nat->(List Ent)->(List Ent)->(List Con')->(List Int)->(List Int)->(List PatternPat)->(List Tm)->(Tm×List Tm)->(List Tm)->Int->Int->Int->Int->Nat->Nat->(List Tm)->(List Tm)->Option (Int×Tm×Int×Int×Int×List Tm×Nat×Nat)
 |0,_,_,_,_,_,_,_,_,_,_,_,_,_,_,_,_,_=>none
 |qq+1,q0,q1,q2,q3,q4,p1,p2,r1,y6,v27,vb0_2,vb3_0,vb3_1,vb4_0_c,vb4_0_n,vb8_0,vb9_0=>
 if decide (v27<(List.length p1:Int))then
 gidx p1 v27>>=fun x8=>
 gidx p2 v27>>=fun x10=>
 e186vacs qq q0 q1 q2 q3 q4 vb3_0 vb3_1 vb0_2 (PatternPat.mk x8.kind_ x8.n_ x8.at_ x8.sub_ x8.t_) x10 vb9_0 vb4_0_n vb4_0_c>>=fun r12=>
 gchk (List.length y6) (w64 ((w64 ((List.length y6:Int)-(List.length p2:Int)))+v27))>>=fun x14=>
 gset vb8_0 x14 r12.2.1>>=fun x16=>
 if r12.1 != 0 then
 e151vacq qq r1.1 x16 (List.length y6)>>=fun r19=>
 some (r12.1,r19,r12.2.2.1,r12.2.2.2.1,r12.2.2.2.2.1,r12.2.2.2.2.2.1,r12.2.2.2.2.2.2.1,r12.2.2.2.2.2.2.2)
 else
 e244vactLcv qq q0 q1 q2 q3 q4 p1 p2 r1 y6 (w64 (v27+1)) r12.2.2.1 r12.2.2.2.1 r12.2.2.2.2.1 r12.2.2.2.2.2.2.2 r12.2.2.2.2.2.2.1 x16 r12.2.2.2.2.2.1
 else
 e151vacq qq r1.1 vb8_0 (List.length y6)>>=fun r21=>
 some (0,r21,vb0_2,vb3_0,vb3_1,vb9_0,vb4_0_n,vb4_0_c)
 termination_by structural n=>n
end
def e244vacwLcx:Nat->(List Ent)->(List Ent)->(List Con')->(List Int)->(List Int)->(List PatternPat)->(List Tm)->(Tm×List Tm)->(List Tm)->Int->Int->Int->Int->Nat->Nat->(List Tm)->(List Tm)->Option ((Int×Tm×Int×Int×Int) ⊕ (Int×Tm×Int×Int×Int×List Tm×Nat×Nat))
 |0,_,_,_,_,_,_,_,_,_,_,_,_,_,_,_,_,_=>none
 |qq+1,q0,q1,q2,q3,q4,p1,p2,r1,y6,v27,vb0_2,vb3_0,vb3_1,vb4_0_c,vb4_0_n,vb7_0,vb8_0=>
 if decide (v27<(List.length p1:Int))then
 gidx p1 v27>>=fun x31=>
 gidx p2 v27>>=fun x33=>
 e186vacs qq q0 q1 q2 q3 q4 vb3_0 vb3_1 vb0_2 (PatternPat.mk x31.kind_ x31.n_ x31.at_ x31.sub_ x31.t_) x33 vb8_0 vb4_0_n vb4_0_c>>=fun r35=>
 gchk (List.length y6) (w64 ((w64 ((List.length y6:Int)-(List.length p2:Int)))+v27))>>=fun x37=>
 gset vb7_0 x37 r35.2.1>>=fun x39=>
 if r35.1 != 0 then
 e151vacq qq r1.1 x39 (List.length y6)>>=fun r42=>
 some (Sum.inr (r35.1,r42,r35.2.2.1,r35.2.2.2.1,r35.2.2.2.2.1,r35.2.2.2.2.2.1,r35.2.2.2.2.2.2.1,r35.2.2.2.2.2.2.2))
 else
 e244vacwLcx qq q0 q1 q2 q3 q4 p1 p2 r1 y6 (w64 (v27+1)) r35.2.2.1 r35.2.2.2.1 r35.2.2.2.2.1 r35.2.2.2.2.2.2.2 r35.2.2.2.2.2.2.1 x39 r35.2.2.2.2.2.1
 else
 e151vacq qq r1.1 vb7_0 (List.length y6)>>=fun r44=>
 some (Sum.inr (0,r44,vb0_2,vb3_0,vb3_1,vb8_0,vb4_0_n,vb4_0_c))
mutual
def e186vacy:Nat->(List Ent)->(List Ent)->(List Con')->(List Int)->(List Int)->Int->Int->Int->PatternPat->Tm->Option ((Int×Tm×Int×Int×Int) ⊕ (Int×Tm×Int×Int×Int×List Tm×Nat×Nat))
 |0,_,_,_,_,_,_,_,_,_,_=>none
 |qq+1,q0,q1,q2,q3,q4,q5,q6,q7,p1,p2=>
 if p1.kind_==3 then
 some (Sum.inl (0,p2,q7,q5,q6))
 else
 if p1.kind_==1 then
 gapp 40 ([]:List Tm) [(Tm.mk 0 0 [])]>>=fun l3=>
 gchk (List.length l3) 0>>=fun x5=>
 gset l3 x5 p2>>=fun x7=>
 some (Sum.inr (0,p2,q7,q5,q6,x7,List.length l3,List.length l3))
 else
 if p1.kind_==4 then
 some (Sum.inl (1,p2,q7,q5,q6))
 else
 e165 qq (Mach.mk q0 q1 q2 q3 q4) p2>>=fun r10=>
 if r10.2.2 then
 if r10.1 != p1.n_ then
 some (Sum.inl (1,p2,q7,q5,q6))
 else
 e166 qq (Mach.mk q0 q1 q2 q3 q4) r10.1>>=fun r14=>
 gsl r10.2.1 r14 (List.length r10.2.1:Int)>>=fun x16=>
 e244vacw qq q0 q1 q2 q3 q4 q5 q6 q7 p1.sub_ x16 p2>>=fun r18=>
 match r18 with
 |Sum.inl y20=>
  some (Sum.inl (y20.1,y20.2.1,y20.2.2.1,y20.2.2.2.1,y20.2.2.2.2))
 |Sum.inr y21=>
  some (Sum.inr (y21.1,y21.2.1,y21.2.2.1,y21.2.2.2.1,y21.2.2.2.2.1,y21.2.2.2.2.2.1,y21.2.2.2.2.2.2.1,y21.2.2.2.2.2.2.2))
 else
 e69 qq (Mach.mk q0 q1 q2 q3 q4) p2 q5 q6>>=fun r22=>
 if r22.2.1 != 0 then
 some (Sum.inl (2,p2,r22.2.1,r22.2.2.1,r22.2.2.2))
 else
 e165 qq (Mach.mk q0 q1 q2 q3 q4) r22.1>>=fun r25=>
 if r25.2.2 then
 if r25.1 != p1.n_ then
 some (Sum.inl (1,r22.1,q7,r22.2.2.1,r22.2.2.2))
 else
 e166 qq (Mach.mk q0 q1 q2 q3 q4) r25.1>>=fun r29=>
 gsl r25.2.1 r29 (List.length r25.2.1:Int)>>=fun x31=>
 e244vacw qq q0 q1 q2 q3 q4 r22.2.2.1 r22.2.2.2 q7 p1.sub_ x31 r22.1>>=fun r33=>
 match r33 with
 |Sum.inl y35=>
  some (Sum.inl (y35.1,y35.2.1,y35.2.2.1,y35.2.2.2.1,y35.2.2.2.2))
 |Sum.inr y36=>
  some (Sum.inr (y36.1,y36.2.1,y36.2.2.1,y36.2.2.2.1,y36.2.2.2.2.1,y36.2.2.2.2.2.1,y36.2.2.2.2.2.2.1,y36.2.2.2.2.2.2.2))
 else
 some (Sum.inl (2,p2,q7,r22.2.2.1,r22.2.2.2))
def e244vacw:Nat->(List Ent)->(List Ent)->(List Con')->(List Int)->(List Int)->Int->Int->Int->(List PatternPat)->(List Tm)->Tm->Option ((Int×Tm×Int×Int×Int) ⊕ (Int×Tm×Int×Int×Int×List Tm×Nat×Nat))
 |0,_,_,_,_,_,_,_,_,_,_,_=>none
 |qq+1,q0,q1,q2,q3,q4,q5,q6,q7,p1,p2,p3=>
 e167 qq p3>>=fun r1=>
 e120vr qq r1.2>>=fun r3=>
 match r3 with
 |Sum.inl y5=>
  e244vacwLcz qq q0 q1 q2 q3 q4 q5 q6 q7 p1 p2 r1 0
 |Sum.inr y6=>
  e244vacwLda qq q0 q1 q2 q3 q4 p1 p2 r1 y6 0 q7 q5 q6 y6
def e244vacwLcz:Nat->(List Ent)->(List Ent)->(List Con')->(List Int)->(List Int)->Int->Int->Int->(List PatternPat)->(List Tm)->(Tm×List Tm)->Int->Option ((Int×Tm×Int×Int×Int) ⊕ (Int×Tm×Int×Int×Int×List Tm×Nat×Nat))
 |0,_,_,_,_,_,_,_,_,_,_,_,_=>none
 |qq+1,q0,q1,q2,q3,q4,q5,q6,q7,p1,p2,r1,v27=>
 if decide (v27<(List.length p1:Int))then
 gidx p1 v27>>=fun x7=>
 gidx p2 v27>>=fun x9=>
 e186vacy qq q0 q1 q2 q3 q4 q5 q6 q7 (PatternPat.mk x7.kind_ x7.n_ x7.at_ x7.sub_ x7.t_) x9>>=fun r11=>
 match r11 with
 |Sum.inl y13=>
  none
 |Sum.inr y14=>
  none
 else
 e151 qq r1.1 []>>=fun r15=>
 some (Sum.inl (0,r15,q7,q5,q6))
def e244vacwLda:Nat->(List Ent)->(List Ent)->(List Con')->(List Int)->(List Int)->(List PatternPat)->(List Tm)->(Tm×List Tm)->(List Tm)->Int->Int->Int->Int->(List Tm)->Option ((Int×Tm×Int×Int×Int) ⊕ (Int×Tm×Int×Int×Int×List Tm×Nat×Nat))
 |0,_,_,_,_,_,_,_,_,_,_,_,_,_,_=>none
 |qq+1,q0,q1,q2,q3,q4,p1,p2,r1,y6,v27,vb0_2,vb3_0,vb3_1,vb7_0=>
 if decide (v27<(List.length p1:Int))then
 gidx p1 v27>>=fun x8=>
 gidx p2 v27>>=fun x10=>
 e186vacy qq q0 q1 q2 q3 q4 vb3_0 vb3_1 vb0_2 (PatternPat.mk x8.kind_ x8.n_ x8.at_ x8.sub_ x8.t_) x10>>=fun r12=>
 match r12 with
 |Sum.inl y14=>
  gchk (List.length y6) (w64 ((w64 ((List.length y6:Int)-(List.length p2:Int)))+v27))>>=fun x15=>
  gset vb7_0 x15 y14.2.1>>=fun x17=>
  if y14.1 != 0 then
  e151vacq qq r1.1 x17 (List.length y6)>>=fun r20=>
  some (Sum.inl (y14.1,r20,y14.2.2.1,y14.2.2.2.1,y14.2.2.2.2))
  else
  e244vacwLda qq q0 q1 q2 q3 q4 p1 p2 r1 y6 (w64 (v27+1)) y14.2.2.1 y14.2.2.2.1 y14.2.2.2.2 x17
 |Sum.inr y22=>
  gchk (List.length y6) (w64 ((w64 ((List.length y6:Int)-(List.length p2:Int)))+v27))>>=fun x23=>
  gset vb7_0 x23 y22.2.1>>=fun x25=>
  if y22.1 != 0 then
  e151vacq qq r1.1 x25 (List.length y6)>>=fun r28=>
  some (Sum.inr (y22.1,r28,y22.2.2.1,y22.2.2.2.1,y22.2.2.2.2.1,y22.2.2.2.2.2.1,y22.2.2.2.2.2.2.1,y22.2.2.2.2.2.2.2))
  else
  e244vacwLcx qq q0 q1 q2 q3 q4 p1 p2 r1 y6 (w64 (v27+1)) y22.2.2.1 y22.2.2.2.1 y22.2.2.2.2.1 y22.2.2.2.2.2.2.2 y22.2.2.2.2.2.2.1 x25 y22.2.2.2.2.2.1
 else
 e151vacq qq r1.1 vb7_0 (List.length y6)>>=fun r30=>
 some (Sum.inl (0,r30,vb0_2,vb3_0,vb3_1))
end
def g244vacwLczE0(j:Nat->Value)(q0 q1:List Ent)(q2:List Con')(q3 q4:List Int)(q5 q6 q7:Int)(p1:List PatternPat)(p2:List Tm)(r1:Tm×List Tm)(v27:Int):=sp j 63 0 [(0,.mp 0 0),(2,slv tmCells p2 .no),(4,.mp 4 0),(11,.mp 5 0),(12,.mp 6 0),(13,slv tmCells ([]:List Tm) .full),(25,slv patternPatC p1 .no),(26,ai (List.length p1:Int)),(27,ai v27)]
def g244vacwLczS0(q0 q1:List Ent)(q2:List Con')(q3 q4:List Int)(q5 q6 q7:Int)(p1:List PatternPat)(p2:List Tm)(r1:Tm×List Tm)(v27:Int):LSt:=⟨[(0,.cells [.mp 1 0,.mp 3 0,ai q7]),(1,.cells [slv entL q0 .no,.mp 2 0,slv intC q3 .no,slv intC q4 .no]),(2,.cells [slv entL q1 .no,slv conL q2 .no]),(3,.cells [ai q5,ai q6]),(4,.cells [slv tmCells ([]:List Tm) .nl]),(5,.cells [ai 0,ai 0,slv tmCells ([]:List Tm) .nl]),(6,.cells [ai r1.1.k,ai r1.1.n,slv tmCells r1.1.sub .no])],7,[],0,[]⟩
def g244vacwLdaE0(j:Nat->Value)(q0 q1:List Ent)(q2:List Con')(q3 q4:List Int)(p1:List PatternPat)(p2:List Tm)(r1:Tm×List Tm)(y6:List Tm)(v27 vb0_2 vb3_0 vb3_1:Int)(vb7_0:List Tm):=sp j 63 0 [(0,.mp 0 0),(2,slv tmCells p2 .no),(4,.mp 4 0),(11,.mp 5 0),(12,.mp 6 0),(13,.ms 7 0 (List.length y6) (List.length y6) 3),(25,slv patternPatC p1 .no),(26,ai (List.length p1:Int)),(27,ai v27)]
def g244vacwLdaS0(q0 q1:List Ent)(q2:List Con')(q3 q4:List Int)(p1:List PatternPat)(p2:List Tm)(r1:Tm×List Tm)(y6:List Tm)(v27 vb0_2 vb3_0 vb3_1:Int)(vb7_0:List Tm):LSt:=⟨[(0,.cells [.mp 1 0,.mp 3 0,ai vb0_2]),(1,.cells [slv entL q0 .no,.mp 2 0,slv intC q3 .no,slv intC q4 .no]),(2,.cells [slv entL q1 .no,slv conL q2 .no]),(3,.cells [ai vb3_0,ai vb3_1]),(4,.cells [slv tmCells ([]:List Tm) .nl]),(5,.cells [ai 0,ai 0,slv tmCells ([]:List Tm) .nl]),(6,.cells [ai r1.1.k,ai r1.1.n,slv tmCells r1.1.sub .no]),(7,.row (flat tmCells vb7_0))],8,[],0,[]⟩
def g244vacwLcxE0(j:Nat->Value)(q0 q1:List Ent)(q2:List Con')(q3 q4:List Int)(p1:List PatternPat)(p2:List Tm)(r1:Tm×List Tm)(y6:List Tm)(v27 vb0_2 vb3_0 vb3_1:Int)(vb4_0_c vb4_0_n:Nat)(vb7_0 vb8_0:List Tm):=sp j 63 0 [(0,.mp 0 0),(2,slv tmCells p2 .no),(4,.mp 4 0),(11,.mp 5 0),(12,.mp 6 0),(13,.ms 7 0 (List.length y6) (List.length y6) 3),(25,slv patternPatC p1 .no),(26,ai (List.length p1:Int)),(27,ai v27)]
def g244vacwLcxS0(q0 q1:List Ent)(q2:List Con')(q3 q4:List Int)(p1:List PatternPat)(p2:List Tm)(r1:Tm×List Tm)(y6:List Tm)(v27 vb0_2 vb3_0 vb3_1:Int)(vb4_0_c vb4_0_n:Nat)(vb7_0 vb8_0:List Tm):LSt:=⟨[(0,.cells [.mp 1 0,.mp 3 0,ai vb0_2]),(1,.cells [slv entL q0 .no,.mp 2 0,slv intC q3 .no,slv intC q4 .no]),(2,.cells [slv entL q1 .no,slv conL q2 .no]),(3,.cells [ai vb3_0,ai vb3_1]),(4,.cells [.ms 8 0 vb4_0_n vb4_0_c 3]),(5,.cells [ai 0,ai 0,slv tmCells ([]:List Tm) .nl]),(6,.cells [ai r1.1.k,ai r1.1.n,slv tmCells r1.1.sub .no]),(7,.row (flat tmCells vb7_0)),(8,.row (flat tmCells vb8_0))],9,[],0,[]⟩
def g244vactLcuE0(j:Nat->Value)(q0 q1:List Ent)(q2:List Con')(q3 q4:List Int)(q5 q6 q7:Int)(p1:List PatternPat)(p2 q11:List Tm)(q12 q13:Nat)(r1:Tm×List Tm)(v27:Int):=sp j 63 0 [(0,.mp 0 0),(2,slv tmCells p2 .no),(4,.mp 4 0),(11,.mp 6 0),(12,.mp 7 0),(13,slv tmCells ([]:List Tm) .full),(25,slv patternPatC p1 .no),(26,ai (List.length p1:Int)),(27,ai v27)]
def g244vactLcuS0(q0 q1:List Ent)(q2:List Con')(q3 q4:List Int)(q5 q6 q7:Int)(p1:List PatternPat)(p2 q11:List Tm)(q12 q13:Nat)(r1:Tm×List Tm)(v27:Int):LSt:=⟨[(0,.cells [.mp 1 0,.mp 3 0,ai q7]),(1,.cells [slv entL q0 .no,.mp 2 0,slv intC q3 .no,slv intC q4 .no]),(2,.cells [slv entL q1 .no,slv conL q2 .no]),(3,.cells [ai q5,ai q6]),(4,.cells [.ms 8 0 q12 q13 3]),(5,.dead),(6,.cells [ai 0,ai 0,slv tmCells ([]:List Tm) .nl]),(7,.cells [ai r1.1.k,ai r1.1.n,slv tmCells r1.1.sub .no]),(8,.row (flat tmCells q11))],9,[],0,[]⟩
def g244vactLcvE0(j:Nat->Value)(q0 q1:List Ent)(q2:List Con')(q3 q4:List Int)(p1:List PatternPat)(p2:List Tm)(r1:Tm×List Tm)(y6:List Tm)(v27 vb0_2 vb3_0 vb3_1:Int)(vb4_0_c vb4_0_n:Nat)(vb8_0 vb9_0:List Tm):=sp j 63 0 [(0,.mp 0 0),(2,slv tmCells p2 .no),(4,.mp 4 0),(11,.mp 6 0),(12,.mp 7 0),(13,.ms 8 0 (List.length y6) (List.length y6) 3),(25,slv patternPatC p1 .no),(26,ai (List.length p1:Int)),(27,ai v27)]
def g244vactLcvS0(q0 q1:List Ent)(q2:List Con')(q3 q4:List Int)(p1:List PatternPat)(p2:List Tm)(r1:Tm×List Tm)(y6:List Tm)(v27 vb0_2 vb3_0 vb3_1:Int)(vb4_0_c vb4_0_n:Nat)(vb8_0 vb9_0:List Tm):LSt:=⟨[(0,.cells [.mp 1 0,.mp 3 0,ai vb0_2]),(1,.cells [slv entL q0 .no,.mp 2 0,slv intC q3 .no,slv intC q4 .no]),(2,.cells [slv entL q1 .no,slv conL q2 .no]),(3,.cells [ai vb3_0,ai vb3_1]),(4,.cells [.ms 9 0 vb4_0_n vb4_0_c 3]),(5,.dead),(6,.cells [ai 0,ai 0,slv tmCells ([]:List Tm) .nl]),(7,.cells [ai r1.1.k,ai r1.1.n,slv tmCells r1.1.sub .no]),(8,.row (flat tmCells vb8_0)),(9,.row (flat tmCells vb9_0))],10,[],0,[]⟩
abbrev K186vacys0 (q0 q1:List Ent) (q2:List Con') (q3 q4:List Int) (q5 q6 q7:Int) (p1:PatternPat) (p2:Tm) (r:Int×Tm×Int×Int×Int) (C:Cf):Prop:=C 186 [.cells [.mp 1 0,.mp 3 0,ai q7],.cells [slv entL q0 .no,.mp 2 0,slv intC q3 .no,slv intC q4 .no],.cells [slv entL q1 .no,slv conL q2 .no],.cells [ai q5,ai q6],.cells [slv tmCells ([]:List Tm) .nl]] [.mp 0 0,patternPatA p1,tmA p2,.mp 4 0] (.tup [ai r.1,tmA r.2.1]) [.cells [.mp 1 0,.mp 3 0,ai r.2.2.1],.cells [slv entL q0 .no,.mp 2 0,slv intC q3 .no,slv intC q4 .no],.cells [slv entL q1 .no,slv conL q2 .no],.cells [ai r.2.2.2.1,ai r.2.2.2.2],.cells [slv tmCells ([]:List Tm) .nl]] 0
abbrev K186vacys1 (q0 q1:List Ent) (q2:List Con') (q3 q4:List Int) (q5 q6 q7:Int) (p1:PatternPat) (p2:Tm) (r:Int×Tm×Int×Int×Int×List Tm×Nat×Nat) (C:Cf):Prop:=C 186 [.cells [.mp 1 0,.mp 3 0,ai q7],.cells [slv entL q0 .no,.mp 2 0,slv intC q3 .no,slv intC q4 .no],.cells [slv entL q1 .no,slv conL q2 .no],.cells [ai q5,ai q6],.cells [slv tmCells ([]:List Tm) .nl]] [.mp 0 0,patternPatA p1,tmA p2,.mp 4 0] (.tup [ai r.1,tmA r.2.1]) [.cells [.mp 1 0,.mp 3 0,ai r.2.2.1],.cells [slv entL q0 .no,.mp 2 0,slv intC q3 .no,slv intC q4 .no],.cells [slv entL q1 .no,slv conL q2 .no],.cells [ai r.2.2.2.1,ai r.2.2.2.2.1],.cells [.ms 5 0 r.2.2.2.2.2.2.1 r.2.2.2.2.2.2.2 3],.row (flat tmCells r.2.2.2.2.2.1)] 0
abbrev K244vacws0 (q0 q1:List Ent) (q2:List Con') (q3 q4:List Int) (q5 q6 q7:Int) (p1:List PatternPat) (p2:List Tm) (p3:Tm) (r:Int×Tm×Int×Int×Int) (C:Cf):Prop:=C 244 [.cells [.mp 1 0,.mp 3 0,ai q7],.cells [slv entL q0 .no,.mp 2 0,slv intC q3 .no,slv intC q4 .no],.cells [slv entL q1 .no,slv conL q2 .no],.cells [ai q5,ai q6],.cells [slv tmCells ([]:List Tm) .nl]] [.mp 0 0,slv patternPatC p1 .no,slv tmCells p2 .no,tmA p3,.mp 4 0] (.tup [ai r.1,tmA r.2.1]) [.cells [.mp 1 0,.mp 3 0,ai r.2.2.1],.cells [slv entL q0 .no,.mp 2 0,slv intC q3 .no,slv intC q4 .no],.cells [slv entL q1 .no,slv conL q2 .no],.cells [ai r.2.2.2.1,ai r.2.2.2.2],.cells [slv tmCells ([]:List Tm) .nl]] 0
abbrev K244vacws1 (q0 q1:List Ent) (q2:List Con') (q3 q4:List Int) (q5 q6 q7:Int) (p1:List PatternPat) (p2:List Tm) (p3:Tm) (r:Int×Tm×Int×Int×Int×List Tm×Nat×Nat) (C:Cf):Prop:=C 244 [.cells [.mp 1 0,.mp 3 0,ai q7],.cells [slv entL q0 .no,.mp 2 0,slv intC q3 .no,slv intC q4 .no],.cells [slv entL q1 .no,slv conL q2 .no],.cells [ai q5,ai q6],.cells [slv tmCells ([]:List Tm) .nl]] [.mp 0 0,slv patternPatC p1 .no,slv tmCells p2 .no,tmA p3,.mp 4 0] (.tup [ai r.1,tmA r.2.1]) [.cells [.mp 1 0,.mp 3 0,ai r.2.2.1],.cells [slv entL q0 .no,.mp 2 0,slv intC q3 .no,slv intC q4 .no],.cells [slv entL q1 .no,slv conL q2 .no],.cells [ai r.2.2.2.1,ai r.2.2.2.2.1],.cells [.ms 5 0 r.2.2.2.2.2.2.1 r.2.2.2.2.2.2.2 3],.row (flat tmCells r.2.2.2.2.2.1)] 0
abbrev K186vacs (q0 q1:List Ent) (q2:List Con') (q3 q4:List Int) (q5 q6 q7:Int) (p1:PatternPat) (p2:Tm) (q10:List Tm) (q11 q12:Nat) (r:Int×Tm×Int×Int×Int×List Tm×Nat×Nat) (C:Cf):Prop:=C 186 [.cells [.mp 1 0,.mp 3 0,ai q7],.cells [slv entL q0 .no,.mp 2 0,slv intC q3 .no,slv intC q4 .no],.cells [slv entL q1 .no,slv conL q2 .no],.cells [ai q5,ai q6],.cells [.ms 5 0 q11 q12 3],.row (flat tmCells q10)] [.mp 0 0,patternPatA p1,tmA p2,.mp 4 0] (.tup [ai r.1,tmA r.2.1]) [.cells [.mp 1 0,.mp 3 0,ai r.2.2.1],.cells [slv entL q0 .no,.mp 2 0,slv intC q3 .no,slv intC q4 .no],.cells [slv entL q1 .no,slv conL q2 .no],.cells [ai r.2.2.2.1,ai r.2.2.2.2.1],.cells [.ms 6 0 r.2.2.2.2.2.2.1 r.2.2.2.2.2.2.2 3],.dead,.row (flat tmCells r.2.2.2.2.2.1)] 0
abbrev K244vact (q0 q1:List Ent) (q2:List Con') (q3 q4:List Int) (q5 q6 q7:Int) (p1:List PatternPat) (p2:List Tm) (p3:Tm) (q11:List Tm) (q12 q13:Nat) (r:Int×Tm×Int×Int×Int×List Tm×Nat×Nat) (C:Cf):Prop:=C 244 [.cells [.mp 1 0,.mp 3 0,ai q7],.cells [slv entL q0 .no,.mp 2 0,slv intC q3 .no,slv intC q4 .no],.cells [slv entL q1 .no,slv conL q2 .no],.cells [ai q5,ai q6],.cells [.ms 5 0 q12 q13 3],.row (flat tmCells q11)] [.mp 0 0,slv patternPatC p1 .no,slv tmCells p2 .no,tmA p3,.mp 4 0] (.tup [ai r.1,tmA r.2.1]) [.cells [.mp 1 0,.mp 3 0,ai r.2.2.1],.cells [slv entL q0 .no,.mp 2 0,slv intC q3 .no,slv intC q4 .no],.cells [slv entL q1 .no,slv conL q2 .no],.cells [ai r.2.2.2.1,ai r.2.2.2.2.1],.cells [.ms 6 0 r.2.2.2.2.2.2.1 r.2.2.2.2.2.2.2 3],.dead,.row (flat tmCells r.2.2.2.2.2.1)] 0
theorem q186vacy:Qf 186 Tryz.f186:=⟨Tryz.func186,by kernel_rfl⟩
theorem k186vacys0{q0 q1 q2 q3 q4 q5 q6 q7 p1 p2 r}(h:K186vacys0 q0 q1 q2 q3 q4 q5 q6 q7 p1 p2 r Ci):K186vacys0 q0 q1 q2 q3 q4 q5 q6 q7 p1 p2 r Ct:=⟨h,⟨(lz rfl),⟨tv,tv,tv,⟨tv,dPatternPat _⟩,tv,tv,⟨tv,dT _⟩,tv⟩,⟨tv,tv,⟨tv,dT _⟩,tv⟩,(lz rfl),tv⟩,(forall_cons ⟨(lz rfl),(lz rfl),tv,tv⟩ (forall_cons ⟨⟨tv,dE _⟩,(lz rfl),⟨tv,dI _⟩,⟨tv,dI _⟩,tv⟩ (forall_cons ⟨⟨tv,dE _⟩,⟨tv,dC _⟩,tv⟩ (forall_cons ⟨tv,tv,tv⟩ (forall_cons ⟨⟨tv,dT _⟩,tv⟩ forall_nil))))),⟨tv,⟨tv,tv,dT _,tv⟩,tv⟩,(forall_cons ⟨(lz rfl),(lz rfl),tv,tv⟩ (forall_cons ⟨dE _,(lz rfl),dI _,dI _,tv⟩ (forall_cons ⟨dE _,dC _,tv⟩ (forall_cons ⟨tv,tv,tv⟩ (forall_cons ⟨dT _,tv⟩ forall_nil)))))⟩
theorem k186vacys1{q0 q1 q2 q3 q4 q5 q6 q7 p1 p2 r}(h:K186vacys1 q0 q1 q2 q3 q4 q5 q6 q7 p1 p2 r Ci):K186vacys1 q0 q1 q2 q3 q4 q5 q6 q7 p1 p2 r Ct:=⟨h,⟨(lz rfl),⟨tv,tv,tv,⟨tv,dPatternPat _⟩,tv,tv,⟨tv,dT _⟩,tv⟩,⟨tv,tv,⟨tv,dT _⟩,tv⟩,(lz rfl),tv⟩,(forall_cons ⟨(lz rfl),(lz rfl),tv,tv⟩ (forall_cons ⟨⟨tv,dE _⟩,(lz rfl),⟨tv,dI _⟩,⟨tv,dI _⟩,tv⟩ (forall_cons ⟨⟨tv,dE _⟩,⟨tv,dC _⟩,tv⟩ (forall_cons ⟨tv,tv,tv⟩ (forall_cons ⟨⟨tv,dT _⟩,tv⟩ forall_nil))))),⟨tv,⟨tv,tv,dT _,tv⟩,tv⟩,(forall_cons ⟨(lz rfl),(lz rfl),tv,tv⟩ (forall_cons ⟨dE _,(lz rfl),dI _,dI _,tv⟩ (forall_cons ⟨dE _,dC _,tv⟩ (forall_cons ⟨tv,tv,tv⟩ (forall_cons ⟨(lz rfl),tv⟩ (forall_cons (dT _) forall_nil))))))⟩
theorem q244vacw:Qf 244 Tryz.f244:=⟨Tryz.func244,by kernel_rfl⟩
theorem k244vacws0{q0 q1 q2 q3 q4 q5 q6 q7 p1 p2 p3 r}(h:K244vacws0 q0 q1 q2 q3 q4 q5 q6 q7 p1 p2 p3 r Ci):K244vacws0 q0 q1 q2 q3 q4 q5 q6 q7 p1 p2 p3 r Ct:=⟨h,⟨(lz rfl),⟨tv,dPatternPat _⟩,⟨tv,dT _⟩,⟨tv,tv,⟨tv,dT _⟩,tv⟩,(lz rfl),tv⟩,(forall_cons ⟨(lz rfl),(lz rfl),tv,tv⟩ (forall_cons ⟨⟨tv,dE _⟩,(lz rfl),⟨tv,dI _⟩,⟨tv,dI _⟩,tv⟩ (forall_cons ⟨⟨tv,dE _⟩,⟨tv,dC _⟩,tv⟩ (forall_cons ⟨tv,tv,tv⟩ (forall_cons ⟨⟨tv,dT _⟩,tv⟩ forall_nil))))),⟨tv,⟨tv,tv,dT _,tv⟩,tv⟩,(forall_cons ⟨(lz rfl),(lz rfl),tv,tv⟩ (forall_cons ⟨dE _,(lz rfl),dI _,dI _,tv⟩ (forall_cons ⟨dE _,dC _,tv⟩ (forall_cons ⟨tv,tv,tv⟩ (forall_cons ⟨dT _,tv⟩ forall_nil)))))⟩
theorem k244vacws1{q0 q1 q2 q3 q4 q5 q6 q7 p1 p2 p3 r}(h:K244vacws1 q0 q1 q2 q3 q4 q5 q6 q7 p1 p2 p3 r Ci):K244vacws1 q0 q1 q2 q3 q4 q5 q6 q7 p1 p2 p3 r Ct:=⟨h,⟨(lz rfl),⟨tv,dPatternPat _⟩,⟨tv,dT _⟩,⟨tv,tv,⟨tv,dT _⟩,tv⟩,(lz rfl),tv⟩,(forall_cons ⟨(lz rfl),(lz rfl),tv,tv⟩ (forall_cons ⟨⟨tv,dE _⟩,(lz rfl),⟨tv,dI _⟩,⟨tv,dI _⟩,tv⟩ (forall_cons ⟨⟨tv,dE _⟩,⟨tv,dC _⟩,tv⟩ (forall_cons ⟨tv,tv,tv⟩ (forall_cons ⟨⟨tv,dT _⟩,tv⟩ forall_nil))))),⟨tv,⟨tv,tv,dT _,tv⟩,tv⟩,(forall_cons ⟨(lz rfl),(lz rfl),tv,tv⟩ (forall_cons ⟨dE _,(lz rfl),dI _,dI _,tv⟩ (forall_cons ⟨dE _,dC _,tv⟩ (forall_cons ⟨tv,tv,tv⟩ (forall_cons ⟨(lz rfl),tv⟩ (forall_cons (dT _) forall_nil))))))⟩
theorem q186vacs:Qf 186 Tryz.f186:=⟨Tryz.func186,by kernel_rfl⟩
theorem k186vacs{q0 q1 q2 q3 q4 q5 q6 q7 p1 p2 q10 q11 q12 r}(h:K186vacs q0 q1 q2 q3 q4 q5 q6 q7 p1 p2 q10 q11 q12 r Ci):K186vacs q0 q1 q2 q3 q4 q5 q6 q7 p1 p2 q10 q11 q12 r Ct:=⟨h,⟨(lz rfl),⟨tv,tv,tv,⟨tv,dPatternPat _⟩,tv,tv,⟨tv,dT _⟩,tv⟩,⟨tv,tv,⟨tv,dT _⟩,tv⟩,(lz rfl),tv⟩,(forall_cons ⟨(lz rfl),(lz rfl),tv,tv⟩ (forall_cons ⟨⟨tv,dE _⟩,(lz rfl),⟨tv,dI _⟩,⟨tv,dI _⟩,tv⟩ (forall_cons ⟨⟨tv,dE _⟩,⟨tv,dC _⟩,tv⟩ (forall_cons ⟨tv,tv,tv⟩ (forall_cons ⟨(lz rfl),tv⟩ (forall_cons (dT _) forall_nil)))))),⟨tv,⟨tv,tv,dT _,tv⟩,tv⟩,(forall_cons ⟨(lz rfl),(lz rfl),tv,tv⟩ (forall_cons ⟨dE _,(lz rfl),dI _,dI _,tv⟩ (forall_cons ⟨dE _,dC _,tv⟩ (forall_cons ⟨tv,tv,tv⟩ (forall_cons ⟨(lz rfl),tv⟩ (forall_cons tv (forall_cons (dT _) forall_nil)))))))⟩
theorem q244vact:Qf 244 Tryz.f244:=⟨Tryz.func244,by kernel_rfl⟩
theorem k244vact{q0 q1 q2 q3 q4 q5 q6 q7 p1 p2 p3 q11 q12 q13 r}(h:K244vact q0 q1 q2 q3 q4 q5 q6 q7 p1 p2 p3 q11 q12 q13 r Ci):K244vact q0 q1 q2 q3 q4 q5 q6 q7 p1 p2 p3 q11 q12 q13 r Ct:=⟨h,⟨(lz rfl),⟨tv,dPatternPat _⟩,⟨tv,dT _⟩,⟨tv,tv,⟨tv,dT _⟩,tv⟩,(lz rfl),tv⟩,(forall_cons ⟨(lz rfl),(lz rfl),tv,tv⟩ (forall_cons ⟨⟨tv,dE _⟩,(lz rfl),⟨tv,dI _⟩,⟨tv,dI _⟩,tv⟩ (forall_cons ⟨⟨tv,dE _⟩,⟨tv,dC _⟩,tv⟩ (forall_cons ⟨tv,tv,tv⟩ (forall_cons ⟨(lz rfl),tv⟩ (forall_cons (dT _) forall_nil)))))),⟨tv,⟨tv,tv,dT _,tv⟩,tv⟩,(forall_cons ⟨(lz rfl),(lz rfl),tv,tv⟩ (forall_cons ⟨dE _,(lz rfl),dI _,dI _,tv⟩ (forall_cons ⟨dE _,dC _,tv⟩ (forall_cons ⟨tv,tv,tv⟩ (forall_cons ⟨(lz rfl),tv⟩ (forall_cons tv (forall_cons (dT _) forall_nil)))))))⟩
theorem a186vacs_244vact_244vactLcu_244vactLcv:∀qq:Nat,(∀q0 q1 q2 q3 q4 q5 q6 q7 p1 p2 q10 q11 q12 r,e186vacs qq q0 q1 q2 q3 q4 q5 q6 q7 p1 p2 q10 q11 q12=some r->K186vacs q0 q1 q2 q3 q4 q5 q6 q7 p1 p2 q10 q11 q12 r Ct)∧(∀q0 q1 q2 q3 q4 q5 q6 q7 p1 p2 p3 q11 q12 q13 r,e244vact qq q0 q1 q2 q3 q4 q5 q6 q7 p1 p2 p3 q11 q12 q13=some r->K244vact q0 q1 q2 q3 q4 q5 q6 q7 p1 p2 p3 q11 q12 q13 r Ct)∧(∀q0 q1 q2 q3 q4 q5 q6 q7 p1 p2 q11 q12 q13 r1 v27 r,e244vactLcu qq q0 q1 q2 q3 q4 q5 q6 q7 p1 p2 q11 q12 q13 r1 v27=some r->(∀j,Dl Tryz.prog 6 (inn (inn (rgt (lft (rgt (rgt (rgt (bod Tryz.f244)))))))) (g244vactLcuE0 j q0 q1 q2 q3 q4 q5 q6 q7 p1 p2 q11 q12 q13 r1 v27) (g244vactLcuS0 q0 q1 q2 q3 q4 q5 q6 q7 p1 p2 q11 q12 q13 r1 v27) (frameQ Tryz.prog 6 (FinQ Tryz.prog 6 Tryz.f244 (.tup [ai r.1,tmA r.2.1]) [.cells [.mp 1 0,.mp 3 0,ai r.2.2.1],.cells [slv entL q0 .no,.mp 2 0,slv intC q3 .no,slv intC q4 .no],.cells [slv entL q1 .no,slv conL q2 .no],.cells [ai r.2.2.2.1,ai r.2.2.2.2.1],.cells [.ms 6 0 r.2.2.2.2.2.2.1 r.2.2.2.2.2.2.2 3],.dead,.row (flat tmCells r.2.2.2.2.2.1)] 0) [.blk 0,.seq (rgt (rgt (rgt (rgt (bod Tryz.f244)))))])))∧(∀q0 q1 q2 q3 q4 p1 p2 r1 y6 v27 vb0_2 vb3_0 vb3_1 vb4_0_c vb4_0_n vb8_0 vb9_0 r,e244vactLcv qq q0 q1 q2 q3 q4 p1 p2 r1 y6 v27 vb0_2 vb3_0 vb3_1 vb4_0_c vb4_0_n vb8_0 vb9_0=some r->(∀j,Dl Tryz.prog 6 (inn (inn (rgt (lft (rgt (rgt (rgt (bod Tryz.f244)))))))) (g244vactLcvE0 j q0 q1 q2 q3 q4 p1 p2 r1 y6 v27 vb0_2 vb3_0 vb3_1 vb4_0_c vb4_0_n vb8_0 vb9_0) (g244vactLcvS0 q0 q1 q2 q3 q4 p1 p2 r1 y6 v27 vb0_2 vb3_0 vb3_1 vb4_0_c vb4_0_n vb8_0 vb9_0) (frameQ Tryz.prog 6 (FinQ Tryz.prog 6 Tryz.f244 (.tup [ai r.1,tmA r.2.1]) [.cells [.mp 1 0,.mp 3 0,ai r.2.2.1],.cells [slv entL q0 .no,.mp 2 0,slv intC q3 .no,slv intC q4 .no],.cells [slv entL q1 .no,slv conL q2 .no],.cells [ai r.2.2.2.1,ai r.2.2.2.2.1],.cells [.ms 6 0 r.2.2.2.2.2.2.1 r.2.2.2.2.2.2.2 3],.dead,.row (flat tmCells r.2.2.2.2.2.1)] 0) [.blk 0,.seq (rgt (rgt (rgt (rgt (bod Tryz.f244)))))]))):=by
 intro qq
 induction qq with
 |zero=>
  exact⟨fun _ _ _ _ _ _ _ _ _ _ _ _ _ _ h=>nn h,fun _ _ _ _ _ _ _ _ _ _ _ _ _ _ _ h=>nn h,fun _ _ _ _ _ _ _ _ _ _ _ _ _ _ _ _ h=>nn h,fun _ _ _ _ _ _ _ _ _ _ _ _ _ _ _ _ _ _ h=>nn h⟩
 |succ qq ih=>
  obtain⟨ih186vacs,ih244vact,ih244vactLcu,ih244vactLcv⟩:=ih
  refine⟨?_,?_,?_,?_⟩
  intro q0 q1 q2 q3 q4 q5 q6 q7 p1 p2 q10 q11 q12 r h
  rw[e186vacs]at h
  rcases spl h with⟨h1,h⟩|⟨h1,h⟩
  obtain rfl:=sj h
  exact k186vacs (tG q186vacs 2 [(some 5,0,0)] [0,1,2,3,4,5,9] [] false (oD (dT p2.sub)<|oD (dT q10)<|oD (dC q2)<|oD (dE q1)<|oD (dI q4)<|oD (dI q3)<|oD (dE q0)<|oB 1 h1 o0))
  have k:=oB 1 h1 o0
  rcases spl h with⟨h2,h⟩|⟨h2,h⟩
  obtain⟨l3,h4,h⟩:=obind h
  obtain⟨l5,h6,h⟩:=obind h
  obtain⟨x7,h8,h⟩:=obind h
  obtain⟨x9,h10,h⟩:=obind h
  obtain rfl:=sj h
  exact k186vacs (tF q186vacs 3 [0,1,2,3,4,5,9] (oD (dT p2.sub)<|oD (dT x9)<|oD (dC q2)<|oD (dE q1)<|oD (dI q4)<|oD (dI q3)<|oD (dE q0)<|oW 0 (wtE (x:=p2) (cs:=[ai p2.k,ai p2.n,slv tmCells p2.sub .no]) codecT (by rw[tm_eq];rfl) h10)<|oA 0 (ixM23 (b:=9) (c:=List.length l5) (z:=3) h8)<|oM 0 (apRn23 h4 h6 (by simp))<|oS 3 (obLitR tm_eq [(Tm.mk 0 0 [])])<|oB 0 h2 k))
  have k:=oB 0 h2 k
  rcases spl h with⟨h11,h⟩|⟨h11,h⟩
  obtain rfl:=sj h
  exact k186vacs (tG q186vacs 2 [(some 5,0,0)] [0,1,2,3,4,5,9] [] false (oD (dT p2.sub)<|oD (dT q10)<|oD (dC q2)<|oD (dE q1)<|oD (dI q4)<|oD (dI q3)<|oD (dE q0)<|oB 0 h11 k))
  obtain⟨r12,h13,h⟩:=obind h
  have k:=oC 2 [1,2] (c165 h13)<|oB 0 h11 k
  rcases spl h with⟨h14,h⟩|⟨h14,h⟩
  have k:=oB 2 h14 k
  rcases spl h with⟨h15,h⟩|⟨h15,h⟩
  obtain rfl:=sj h
  exact k186vacs (tG q186vacs 2 [(some 5,0,0)] [0,1,2,3,4,5,9] [] false (oD (dT p2.sub)<|oD (dT q10)<|oD (dC q2)<|oD (dE q1)<|oD (dI q4)<|oD (dI q3)<|oD (dE q0)<|oB 2 h15 k))
  obtain⟨r16,h17,h⟩:=obind h
  obtain⟨x18,h19,h⟩:=obind h
  obtain⟨r20,h21,h⟩:=obind h
  obtain rfl:=sj h
  exact k186vacs (tF q186vacs 3 [0,1,2,3,4,5,9] (oD (dT r20.2.1.sub)<|oD (dT r20.2.2.2.2.2.1)<|oD (dC q2)<|oD (dE q1)<|oD (dI q4)<|oD (dI q3)<|oD (dE q0)<|oC 1 [0,1,2,3,4,5] (ih244vact _ _ _ _ _ _ _ _ _ _ _ _ _ _ _ h21)<|oA 0 (slFrom23 h19)<|oC 2 [1,2] (c166 h17)<|oB 2 h15 k))
  obtain⟨r22,h23,h⟩:=obind h
  have k:=oC 4 [1,2,3] (c69 h23)<|oB 2 h14 k
  rcases spl h with⟨h24,h⟩|⟨h24,h⟩
  obtain rfl:=sj h
  exact k186vacs (tG q186vacs 3 [(some 5,0,0)] [0,1,2,3,4,5,10] [] false (oD (dT p2.sub)<|oD (dT q10)<|oD (dC q2)<|oD (dE q1)<|oD (dI q4)<|oD (dI q3)<|oD (dE q0)<|oB 3 h24 k))
  obtain⟨r25,h26,h⟩:=obind h
  have k:=oC 2 [1,2] (c165 h26)<|oB 3 h24 k
  rcases spl h with⟨h27,h⟩|⟨h27,h⟩
  have k:=oB 2 h27 k
  rcases spl h with⟨h28,h⟩|⟨h28,h⟩
  obtain rfl:=sj h
  exact k186vacs (tG q186vacs 2 [(some 5,0,0)] [0,1,2,3,4,5,10] [] false (oD (dT r22.1.sub)<|oD (dT q10)<|oD (dC q2)<|oD (dE q1)<|oD (dI q4)<|oD (dI q3)<|oD (dE q0)<|oB 4 h28 k))
  obtain⟨r29,h30,h⟩:=obind h
  obtain⟨x31,h32,h⟩:=obind h
  obtain⟨r33,h34,h⟩:=obind h
  obtain rfl:=sj h
  exact k186vacs (tF q186vacs 3 [0,1,2,3,4,5,10] (oD (dT r33.2.1.sub)<|oD (dT r33.2.2.2.2.2.1)<|oD (dC q2)<|oD (dE q1)<|oD (dI q4)<|oD (dI q3)<|oD (dE q0)<|oC 1 [0,1,2,3,4,5] (ih244vact _ _ _ _ _ _ _ _ _ _ _ _ _ _ _ h34)<|oA 0 (slFrom23 h32)<|oC 2 [1,2] (c166 h30)<|oB 4 h28 k))
  obtain rfl:=sj h
  exact k186vacs (tG q186vacs 3 [(some 5,0,0)] [0,1,2,3,4,5,10] [] false (oD (dT p2.sub)<|oD (dT q10)<|oD (dC q2)<|oD (dE q1)<|oD (dI q4)<|oD (dI q3)<|oD (dE q0)<|oB 2 h27 k))
  intro q0 q1 q2 q3 q4 q5 q6 q7 p1 p2 p3 q11 q12 q13 r h
  rw[e244vact]at h
  obtain⟨r1,h2,h⟩:=obind h
  obtain⟨r3,h4,h⟩:=obind h
  have k:=oC 1 [] (c167 h2) o0
  rcases r3 with y5|y6
  dsimp only at h
  exact k244vact (tH q244vact 1 [(some 5,0,0)] [0,1,2,3,4,5,7,8,9] [] [0,2,4,11,12,13,25,26,27] (oD (dPatternPat p1)<|oD (dT ([]:List Tm))<|oD (dT p2)<|oD (dT q11)<|oD (dT r1.1.sub)<|oD (dT ([]:List Tm))<|oD (dC q2)<|oD (dE q1)<|oD (dI q4)<|oD (dI q3)<|oD (dE q0)<|oC 3 [] (c120vr h4) k) (ih244vactLcu _ _ _ _ _ _ _ _ _ _ _ _ _ _ _ _ h))
  dsimp only at h
  exact k244vact (tH q244vact 1 [(some 5,0,0)] [0,1,2,3,4,5,7,8,9,10] [] [0,2,4,11,12,13,25,26,27] (oD (dPatternPat p1)<|oD (dT p2)<|oD (dT q11)<|oD (dT y6)<|oD (dT r1.1.sub)<|oD (dT ([]:List Tm))<|oD (dC q2)<|oD (dE q1)<|oD (dI q4)<|oD (dI q3)<|oD (dE q0)<|oC 3 [] (c120vr h4) k) (ih244vactLcv _ _ _ _ _ _ _ _ _ _ _ _ _ _ _ _ _ _ h))
  intro q0 q1 q2 q3 q4 q5 q6 q7 p1 p2 q11 q12 q13 r1 v27 r h
  rw[e244vactLcu]at h
  rcases spl h with⟨h6,h⟩|⟨h6,h⟩
  obtain⟨x7,h8,h⟩:=obind h
  obtain⟨x9,h10,h⟩:=obind h
  obtain⟨r11,h12,h⟩:=obind h
  cases h
  obtain⟨r13,h14,h⟩:=obind h
  obtain rfl:=sj h
  exact fun j=>lF 1 [0,1,2,3,4,5,8] (oD (dT r13.sub)<|oD (dT q11)<|oD (dC q2)<|oD (dE q1)<|oD (dI q4)<|oD (dI q3)<|oD (dE q0)<|oC 1 [] (c151 h14)<|oB 0 h6 o0)
  intro q0 q1 q2 q3 q4 p1 p2 r1 y6 v27 vb0_2 vb3_0 vb3_1 vb4_0_c vb4_0_n vb8_0 vb9_0 r h
  rw[e244vactLcv]at h
  rcases spl h with⟨h7,h⟩|⟨h7,h⟩
  obtain⟨x8,h9,h⟩:=obind h
  obtain⟨x10,h11,h⟩:=obind h
  obtain⟨r12,h13,h⟩:=obind h
  obtain⟨x14,h15,h⟩:=obind h
  obtain⟨x16,h17,h⟩:=obind h
  have k:=oW 0 (wtE (x:=r12.2.1) (cs:=[ai r12.2.1.k,ai r12.2.1.n,slv tmCells r12.2.1.sub .no]) codecT (by rw[tm_eq];rfl) h17)<|oA 8 (ixM23 (b:=8) (c:=List.length y6) (z:=3) h15)<|oC 1 [0,1,2,3,4,9] (ih186vacs _ _ _ _ _ _ _ _ _ _ _ _ _ _ h13)<|oA 3 (ix23 (o:=.no) h11)<|oA 0 (ix106 (o:=.no) h9)<|oB 0 h7 o0
  rcases spl h with⟨h18,h⟩|⟨h18,h⟩
  obtain⟨r19,h20,h⟩:=obind h
  obtain rfl:=sj h
  exact fun j=>lF 1 [0,1,2,3,4,5,11] (oD (dT r19.sub)<|oD (dT r12.2.2.2.2.2.1)<|oD (dC q2)<|oD (dE q1)<|oD (dI q4)<|oD (dI q3)<|oD (dE q0)<|oC 1 [8] (c151vacq h20)<|oB 0 h18 k)
  exact fun j=>lH 1 [] [0,1,2,3,4,5,6,7,8,11] [] [0,2,4,11,12,13,25,26,27] (oD (dPatternPat p1)<|oD (dT p2)<|oD (dT r12.2.2.2.2.2.1)<|oD (dT x16)<|oD (dT r1.1.sub)<|oD (dT ([]:List Tm))<|oD (dC q2)<|oD (dE q1)<|oD (dI q4)<|oD (dI q3)<|oD (dE q0)<|oB 0 h18 k) (ih244vactLcv _ _ _ _ _ _ _ _ _ _ _ _ _ _ _ _ _ _ h)
  obtain⟨r21,h22,h⟩:=obind h
  obtain rfl:=sj h
  exact fun j=>lF 1 [0,1,2,3,4,5,9] (oD (dT r21.sub)<|oD (dT vb9_0)<|oD (dC q2)<|oD (dE q1)<|oD (dI q4)<|oD (dI q3)<|oD (dE q0)<|oC 1 [8] (c151vacq h22)<|oB 0 h7 o0)
theorem c186vacs{qq q0 q1 q2 q3 q4 q5 q6 q7 p1 p2 q10 q11 q12 r}(h:e186vacs qq q0 q1 q2 q3 q4 q5 q6 q7 p1 p2 q10 q11 q12=some r):K186vacs q0 q1 q2 q3 q4 q5 q6 q7 p1 p2 q10 q11 q12 r Ct:=(a186vacs_244vact_244vactLcu_244vactLcv _).1 _ _ _ _ _ _ _ _ _ _ _ _ _ _ h
theorem l244vacwLcx:∀qq:Nat,(∀q0 q1 q2 q3 q4 p1 p2 r1 y6 v27 vb0_2 vb3_0 vb3_1 vb4_0_c vb4_0_n vb7_0 vb8_0 r,e244vacwLcx qq q0 q1 q2 q3 q4 p1 p2 r1 y6 v27 vb0_2 vb3_0 vb3_1 vb4_0_c vb4_0_n vb7_0 vb8_0=some r->(∀j,Dl Tryz.prog 5 (inn (inn (rgt (lft (rgt (rgt (rgt (bod Tryz.f244)))))))) (g244vacwLcxE0 j q0 q1 q2 q3 q4 p1 p2 r1 y6 v27 vb0_2 vb3_0 vb3_1 vb4_0_c vb4_0_n vb7_0 vb8_0) (g244vacwLcxS0 q0 q1 q2 q3 q4 p1 p2 r1 y6 v27 vb0_2 vb3_0 vb3_1 vb4_0_c vb4_0_n vb7_0 vb8_0) (frameQ Tryz.prog 5 ((match (generalizing:=false) r with|Sum.inl x=>FinQ Tryz.prog 5 Tryz.f244 (.tup [ai x.1,tmA x.2.1]) [.cells [.mp 1 0,.mp 3 0,ai x.2.2.1],.cells [slv entL q0 .no,.mp 2 0,slv intC q3 .no,slv intC q4 .no],.cells [slv entL q1 .no,slv conL q2 .no],.cells [ai x.2.2.2.1,ai x.2.2.2.2],.cells [slv tmCells ([]:List Tm) .nl]] 0|Sum.inr x=>FinQ Tryz.prog 5 Tryz.f244 (.tup [ai x.1,tmA x.2.1]) [.cells [.mp 1 0,.mp 3 0,ai x.2.2.1],.cells [slv entL q0 .no,.mp 2 0,slv intC q3 .no,slv intC q4 .no],.cells [slv entL q1 .no,slv conL q2 .no],.cells [ai x.2.2.2.1,ai x.2.2.2.2.1],.cells [.ms 5 0 x.2.2.2.2.2.2.1 x.2.2.2.2.2.2.2 3],.row (flat tmCells x.2.2.2.2.2.1)] 0)) [.blk 0,.seq (rgt (rgt (rgt (rgt (bod Tryz.f244)))))]))):=by
 intro qq
 induction qq with
 |zero=>
  exact fun _ _ _ _ _ _ _ _ _ _ _ _ _ _ _ _ _ _ h=>nn h
 |succ qq ih=>
  intro q0 q1 q2 q3 q4 p1 p2 r1 y6 v27 vb0_2 vb3_0 vb3_1 vb4_0_c vb4_0_n vb7_0 vb8_0 r h
  rw[e244vacwLcx]at h
  rcases spl h with⟨h30,h⟩|⟨h30,h⟩
  obtain⟨x31,h32,h⟩:=obind h
  obtain⟨x33,h34,h⟩:=obind h
  obtain⟨r35,h36,h⟩:=obind h
  obtain⟨x37,h38,h⟩:=obind h
  obtain⟨x39,h40,h⟩:=obind h
  have k:=oW 0 (wtE (x:=r35.2.1) (cs:=[ai r35.2.1.k,ai r35.2.1.n,slv tmCells r35.2.1.sub .no]) codecT (by rw[tm_eq];rfl) h40)<|oA 8 (ixM23 (b:=7) (c:=List.length y6) (z:=3) h38)<|oC 1 [0,1,2,3,4,8] (c186vacs h36)<|oA 3 (ix23 (o:=.no) h34)<|oA 0 (ix106 (o:=.no) h32)<|oB 0 h30 o0
  rcases spl h with⟨h41,h⟩|⟨h41,h⟩
  obtain⟨r42,h43,h⟩:=obind h
  obtain rfl:=sj h
  exact fun j=>lF 1 [0,1,2,3,4,10] (oD (dT r42.sub)<|oD (dT r35.2.2.2.2.2.1)<|oD (dC q2)<|oD (dE q1)<|oD (dI q4)<|oD (dI q3)<|oD (dE q0)<|oC 1 [7] (c151vacq h43)<|oB 0 h41 k)
  exact fun j=>lH 1 [] [0,1,2,3,4,5,6,7,10] [] [0,2,4,11,12,13,25,26,27] (oD (dPatternPat p1)<|oD (dT p2)<|oD (dT r35.2.2.2.2.2.1)<|oD (dT x39)<|oD (dT r1.1.sub)<|oD (dT ([]:List Tm))<|oD (dC q2)<|oD (dE q1)<|oD (dI q4)<|oD (dI q3)<|oD (dE q0)<|oB 0 h41 k) (ih _ _ _ _ _ _ _ _ _ _ _ _ _ _ _ _ _ _ h)
  obtain⟨r44,h45,h⟩:=obind h
  obtain rfl:=sj h
  exact fun j=>lF 1 [0,1,2,3,4,8] (oD (dT r44.sub)<|oD (dT vb8_0)<|oD (dC q2)<|oD (dE q1)<|oD (dI q4)<|oD (dI q3)<|oD (dE q0)<|oC 1 [7] (c151vacq h45)<|oB 0 h30 o0)
theorem a186vacy_244vacw_244vacwLcz_244vacwLda:∀qq:Nat,(∀q0 q1 q2 q3 q4 q5 q6 q7 p1 p2 r,e186vacy qq q0 q1 q2 q3 q4 q5 q6 q7 p1 p2=some r->(match (generalizing:=false) r with|Sum.inl x=>K186vacys0 q0 q1 q2 q3 q4 q5 q6 q7 p1 p2 x Ct|Sum.inr x=>K186vacys1 q0 q1 q2 q3 q4 q5 q6 q7 p1 p2 x Ct))∧(∀q0 q1 q2 q3 q4 q5 q6 q7 p1 p2 p3 r,e244vacw qq q0 q1 q2 q3 q4 q5 q6 q7 p1 p2 p3=some r->(match (generalizing:=false) r with|Sum.inl x=>K244vacws0 q0 q1 q2 q3 q4 q5 q6 q7 p1 p2 p3 x Ct|Sum.inr x=>K244vacws1 q0 q1 q2 q3 q4 q5 q6 q7 p1 p2 p3 x Ct))∧(∀q0 q1 q2 q3 q4 q5 q6 q7 p1 p2 r1 v27 r,e244vacwLcz qq q0 q1 q2 q3 q4 q5 q6 q7 p1 p2 r1 v27=some r->(∀j,Dl Tryz.prog 5 (inn (inn (rgt (lft (rgt (rgt (rgt (bod Tryz.f244)))))))) (g244vacwLczE0 j q0 q1 q2 q3 q4 q5 q6 q7 p1 p2 r1 v27) (g244vacwLczS0 q0 q1 q2 q3 q4 q5 q6 q7 p1 p2 r1 v27) (frameQ Tryz.prog 5 ((match (generalizing:=false) r with|Sum.inl x=>FinQ Tryz.prog 5 Tryz.f244 (.tup [ai x.1,tmA x.2.1]) [.cells [.mp 1 0,.mp 3 0,ai x.2.2.1],.cells [slv entL q0 .no,.mp 2 0,slv intC q3 .no,slv intC q4 .no],.cells [slv entL q1 .no,slv conL q2 .no],.cells [ai x.2.2.2.1,ai x.2.2.2.2],.cells [slv tmCells ([]:List Tm) .nl]] 0|Sum.inr x=>FinQ Tryz.prog 5 Tryz.f244 (.tup [ai x.1,tmA x.2.1]) [.cells [.mp 1 0,.mp 3 0,ai x.2.2.1],.cells [slv entL q0 .no,.mp 2 0,slv intC q3 .no,slv intC q4 .no],.cells [slv entL q1 .no,slv conL q2 .no],.cells [ai x.2.2.2.1,ai x.2.2.2.2.1],.cells [.ms 5 0 x.2.2.2.2.2.2.1 x.2.2.2.2.2.2.2 3],.row (flat tmCells x.2.2.2.2.2.1)] 0)) [.blk 0,.seq (rgt (rgt (rgt (rgt (bod Tryz.f244)))))])))∧(∀q0 q1 q2 q3 q4 p1 p2 r1 y6 v27 vb0_2 vb3_0 vb3_1 vb7_0 r,e244vacwLda qq q0 q1 q2 q3 q4 p1 p2 r1 y6 v27 vb0_2 vb3_0 vb3_1 vb7_0=some r->(∀j,Dl Tryz.prog 5 (inn (inn (rgt (lft (rgt (rgt (rgt (bod Tryz.f244)))))))) (g244vacwLdaE0 j q0 q1 q2 q3 q4 p1 p2 r1 y6 v27 vb0_2 vb3_0 vb3_1 vb7_0) (g244vacwLdaS0 q0 q1 q2 q3 q4 p1 p2 r1 y6 v27 vb0_2 vb3_0 vb3_1 vb7_0) (frameQ Tryz.prog 5 ((match (generalizing:=false) r with|Sum.inl x=>FinQ Tryz.prog 5 Tryz.f244 (.tup [ai x.1,tmA x.2.1]) [.cells [.mp 1 0,.mp 3 0,ai x.2.2.1],.cells [slv entL q0 .no,.mp 2 0,slv intC q3 .no,slv intC q4 .no],.cells [slv entL q1 .no,slv conL q2 .no],.cells [ai x.2.2.2.1,ai x.2.2.2.2],.cells [slv tmCells ([]:List Tm) .nl]] 0|Sum.inr x=>FinQ Tryz.prog 5 Tryz.f244 (.tup [ai x.1,tmA x.2.1]) [.cells [.mp 1 0,.mp 3 0,ai x.2.2.1],.cells [slv entL q0 .no,.mp 2 0,slv intC q3 .no,slv intC q4 .no],.cells [slv entL q1 .no,slv conL q2 .no],.cells [ai x.2.2.2.1,ai x.2.2.2.2.1],.cells [.ms 5 0 x.2.2.2.2.2.2.1 x.2.2.2.2.2.2.2 3],.row (flat tmCells x.2.2.2.2.2.1)] 0)) [.blk 0,.seq (rgt (rgt (rgt (rgt (bod Tryz.f244)))))]))):=by
 intro qq
 induction qq with
 |zero=>
  exact⟨fun _ _ _ _ _ _ _ _ _ _ _ h=>nn h,fun _ _ _ _ _ _ _ _ _ _ _ _ h=>nn h,fun _ _ _ _ _ _ _ _ _ _ _ _ _ h=>nn h,fun _ _ _ _ _ _ _ _ _ _ _ _ _ _ _ h=>nn h⟩
 |succ qq ih=>
  obtain⟨ih186vacy,ih244vacw,ih244vacwLcz,ih244vacwLda⟩:=ih
  refine⟨?_,?_,?_,?_⟩
  intro q0 q1 q2 q3 q4 q5 q6 q7 p1 p2 r h
  rw[e186vacy]at h
  rcases spl h with⟨h1,h⟩|⟨h1,h⟩
  obtain rfl:=sj h
  exact k186vacys0 (tG q186vacy 2 [] [0,1,2,3,4] [] true (oD (dT p2.sub)<|oD (dT ([]:List Tm))<|oD (dC q2)<|oD (dE q1)<|oD (dI q4)<|oD (dI q3)<|oD (dE q0)<|oB 1 h1 o0))
  have k:=oB 1 h1 o0
  rcases spl h with⟨h2,h⟩|⟨h2,h⟩
  obtain⟨l3,h4,h⟩:=obind h
  obtain⟨x5,h6,h⟩:=obind h
  obtain⟨x7,h8,h⟩:=obind h
  obtain rfl:=sj h
  exact k186vacys1 (tF q186vacy 3 [0,1,2,3,4,8] (oD (dT p2.sub)<|oD (dT x7)<|oD (dC q2)<|oD (dE q1)<|oD (dI q4)<|oD (dI q3)<|oD (dE q0)<|oW 0 (wtE (x:=p2) (cs:=[ai p2.k,ai p2.n,slv tmCells p2.sub .no]) codecT (by rw[tm_eq];rfl) h8)<|oA 0 (ixM23 (b:=8) (c:=List.length l3) (z:=3) h6)<|oM 0 (apW23 h4 (by simp))<|oS 3 (obLitR tm_eq [(Tm.mk 0 0 [])])<|oB 0 h2 k))
  have k:=oB 0 h2 k
  rcases spl h with⟨h9,h⟩|⟨h9,h⟩
  obtain rfl:=sj h
  exact k186vacys0 (tG q186vacy 2 [] [0,1,2,3,4] [] true (oD (dT p2.sub)<|oD (dT ([]:List Tm))<|oD (dC q2)<|oD (dE q1)<|oD (dI q4)<|oD (dI q3)<|oD (dE q0)<|oB 0 h9 k))
  obtain⟨r10,h11,h⟩:=obind h
  have k:=oC 2 [1,2] (c165 h11)<|oB 0 h9 k
  rcases spl h with⟨h12,h⟩|⟨h12,h⟩
  have k:=oB 2 h12 k
  rcases spl h with⟨h13,h⟩|⟨h13,h⟩
  obtain rfl:=sj h
  exact k186vacys0 (tG q186vacy 2 [] [0,1,2,3,4] [] true (oD (dT p2.sub)<|oD (dT ([]:List Tm))<|oD (dC q2)<|oD (dE q1)<|oD (dI q4)<|oD (dI q3)<|oD (dE q0)<|oB 2 h13 k))
  obtain⟨r14,h15,h⟩:=obind h
  obtain⟨x16,h17,h⟩:=obind h
  obtain⟨r18,h19,h⟩:=obind h
  have k:=oA 0 (slFrom23 h17)<|oC 2 [1,2] (c166 h15)<|oB 2 h13 k
  rcases r18 with y20|y21
  dsimp only at h
  obtain rfl:=sj h
  exact k186vacys0 (tG q186vacy 3 [] [0,1,2,3,4] [] true (oD (dT y20.2.1.sub)<|oD (dT ([]:List Tm))<|oD (dC q2)<|oD (dE q1)<|oD (dI q4)<|oD (dI q3)<|oD (dE q0)<|oC 1 [0,1,2,3,4] (ih244vacw _ _ _ _ _ _ _ _ _ _ _ _ h19) k))
  dsimp only at h
  obtain rfl:=sj h
  exact k186vacys1 (tF q186vacy 3 [0,1,2,3,4,8] (oD (dT y21.2.1.sub)<|oD (dT y21.2.2.2.2.2.1)<|oD (dC q2)<|oD (dE q1)<|oD (dI q4)<|oD (dI q3)<|oD (dE q0)<|oC 1 [0,1,2,3,4] (ih244vacw _ _ _ _ _ _ _ _ _ _ _ _ h19) k))
  obtain⟨r22,h23,h⟩:=obind h
  have k:=oC 4 [1,2,3] (c69 h23)<|oB 2 h12 k
  rcases spl h with⟨h24,h⟩|⟨h24,h⟩
  obtain rfl:=sj h
  exact k186vacys0 (tG q186vacy 3 [] [0,1,2,3,4] [] true (oD (dT p2.sub)<|oD (dT ([]:List Tm))<|oD (dC q2)<|oD (dE q1)<|oD (dI q4)<|oD (dI q3)<|oD (dE q0)<|oB 3 h24 k))
  obtain⟨r25,h26,h⟩:=obind h
  have k:=oC 2 [1,2] (c165 h26)<|oB 3 h24 k
  rcases spl h with⟨h27,h⟩|⟨h27,h⟩
  have k:=oB 2 h27 k
  rcases spl h with⟨h28,h⟩|⟨h28,h⟩
  obtain rfl:=sj h
  exact k186vacys0 (tG q186vacy 2 [] [0,1,2,3,4] [] true (oD (dT r22.1.sub)<|oD (dT ([]:List Tm))<|oD (dC q2)<|oD (dE q1)<|oD (dI q4)<|oD (dI q3)<|oD (dE q0)<|oB 4 h28 k))
  obtain⟨r29,h30,h⟩:=obind h
  obtain⟨x31,h32,h⟩:=obind h
  obtain⟨r33,h34,h⟩:=obind h
  have k:=oA 0 (slFrom23 h32)<|oC 2 [1,2] (c166 h30)<|oB 4 h28 k
  rcases r33 with y35|y36
  dsimp only at h
  obtain rfl:=sj h
  exact k186vacys0 (tG q186vacy 3 [] [0,1,2,3,4] [] true (oD (dT y35.2.1.sub)<|oD (dT ([]:List Tm))<|oD (dC q2)<|oD (dE q1)<|oD (dI q4)<|oD (dI q3)<|oD (dE q0)<|oC 1 [0,1,2,3,4] (ih244vacw _ _ _ _ _ _ _ _ _ _ _ _ h34) k))
  dsimp only at h
  obtain rfl:=sj h
  exact k186vacys1 (tF q186vacy 3 [0,1,2,3,4,9] (oD (dT y36.2.1.sub)<|oD (dT y36.2.2.2.2.2.1)<|oD (dC q2)<|oD (dE q1)<|oD (dI q4)<|oD (dI q3)<|oD (dE q0)<|oC 1 [0,1,2,3,4] (ih244vacw _ _ _ _ _ _ _ _ _ _ _ _ h34) k))
  obtain rfl:=sj h
  exact k186vacys0 (tG q186vacy 3 [] [0,1,2,3,4] [] true (oD (dT p2.sub)<|oD (dT ([]:List Tm))<|oD (dC q2)<|oD (dE q1)<|oD (dI q4)<|oD (dI q3)<|oD (dE q0)<|oB 2 h27 k))
  intro q0 q1 q2 q3 q4 q5 q6 q7 p1 p2 p3 r h
  rw[e244vacw]at h
  obtain⟨r1,h2,h⟩:=obind h
  obtain⟨r3,h4,h⟩:=obind h
  have k:=oC 1 [] (c167 h2) o0
  rcases r3 with y5|y6
  dsimp only at h
  rcases r with y0|y1
  exact k244vacws0 (tH q244vacw 1 [] [0,1,2,3,4,6,7] [] [0,2,4,11,12,13,25,26,27] (oD (dPatternPat p1)<|oD (dT ([]:List Tm))<|oD (dT p2)<|oD (dT r1.1.sub)<|oD (dT ([]:List Tm))<|oD (dT ([]:List Tm))<|oD (dC q2)<|oD (dE q1)<|oD (dI q4)<|oD (dI q3)<|oD (dE q0)<|oC 3 [] (c120vr h4) k) (ih244vacwLcz _ _ _ _ _ _ _ _ _ _ _ _ _ h))
  exact k244vacws1 (tH q244vacw 1 [] [0,1,2,3,4,6,7] [] [0,2,4,11,12,13,25,26,27] (oD (dPatternPat p1)<|oD (dT ([]:List Tm))<|oD (dT p2)<|oD (dT r1.1.sub)<|oD (dT ([]:List Tm))<|oD (dT ([]:List Tm))<|oD (dC q2)<|oD (dE q1)<|oD (dI q4)<|oD (dI q3)<|oD (dE q0)<|oC 3 [] (c120vr h4) k) (ih244vacwLcz _ _ _ _ _ _ _ _ _ _ _ _ _ h))
  dsimp only at h
  rcases r with y0|y1
  exact k244vacws0 (tH q244vacw 1 [] [0,1,2,3,4,6,7,8] [] [0,2,4,11,12,13,25,26,27] (oD (dPatternPat p1)<|oD (dT p2)<|oD (dT y6)<|oD (dT r1.1.sub)<|oD (dT ([]:List Tm))<|oD (dT ([]:List Tm))<|oD (dC q2)<|oD (dE q1)<|oD (dI q4)<|oD (dI q3)<|oD (dE q0)<|oC 3 [] (c120vr h4) k) (ih244vacwLda _ _ _ _ _ _ _ _ _ _ _ _ _ _ _ h))
  exact k244vacws1 (tH q244vacw 1 [] [0,1,2,3,4,6,7,8] [] [0,2,4,11,12,13,25,26,27] (oD (dPatternPat p1)<|oD (dT p2)<|oD (dT y6)<|oD (dT r1.1.sub)<|oD (dT ([]:List Tm))<|oD (dT ([]:List Tm))<|oD (dC q2)<|oD (dE q1)<|oD (dI q4)<|oD (dI q3)<|oD (dE q0)<|oC 3 [] (c120vr h4) k) (ih244vacwLda _ _ _ _ _ _ _ _ _ _ _ _ _ _ _ h))
  intro q0 q1 q2 q3 q4 q5 q6 q7 p1 p2 r1 v27 r h
  rw[e244vacwLcz]at h
  rcases spl h with⟨h6,h⟩|⟨h6,h⟩
  obtain⟨x7,h8,h⟩:=obind h
  obtain⟨x9,h10,h⟩:=obind h
  obtain⟨r11,h12,h⟩:=obind h
  rcases r11 with y13|y14
  cases h
  cases h
  obtain⟨r15,h16,h⟩:=obind h
  obtain rfl:=sj h
  exact fun j=>lG 1 [] [0,1,2,3,4] [] true (oD (dT r15.sub)<|oD (dT ([]:List Tm))<|oD (dC q2)<|oD (dE q1)<|oD (dI q4)<|oD (dI q3)<|oD (dE q0)<|oC 1 [] (c151 h16)<|oB 0 h6 o0)
  intro q0 q1 q2 q3 q4 p1 p2 r1 y6 v27 vb0_2 vb3_0 vb3_1 vb7_0 r h
  rw[e244vacwLda]at h
  rcases spl h with⟨h7,h⟩|⟨h7,h⟩
  obtain⟨x8,h9,h⟩:=obind h
  obtain⟨x10,h11,h⟩:=obind h
  obtain⟨r12,h13,h⟩:=obind h
  have k:=oA 3 (ix23 (o:=.no) h11)<|oA 0 (ix106 (o:=.no) h9)<|oB 0 h7 o0
  rcases r12 with y14|y22
  dsimp only at h
  obtain⟨x15,h16,h⟩:=obind h
  obtain⟨x17,h18,h⟩:=obind h
  have k:=oW 0 (wtE (x:=y14.2.1) (cs:=[ai y14.2.1.k,ai y14.2.1.n,slv tmCells y14.2.1.sub .no]) codecT (by rw[tm_eq];rfl) h18)<|oA 8 (ixM23 (b:=7) (c:=List.length y6) (z:=3) h16)<|oC 1 [0,1,2,3,4] (ih186vacy _ _ _ _ _ _ _ _ _ _ _ h13) k
  rcases spl h with⟨h19,h⟩|⟨h19,h⟩
  obtain⟨r20,h21,h⟩:=obind h
  obtain rfl:=sj h
  exact fun j=>lG 1 [] [0,1,2,3,4] [] true (oD (dT r20.sub)<|oD (dT ([]:List Tm))<|oD (dC q2)<|oD (dE q1)<|oD (dI q4)<|oD (dI q3)<|oD (dE q0)<|oC 1 [7] (c151vacq h21)<|oB 0 h19 k)
  exact fun j=>lH 1 [] [0,1,2,3,4,5,6,7] [] [0,2,4,11,12,13,25,26,27] (oD (dPatternPat p1)<|oD (dT p2)<|oD (dT x17)<|oD (dT r1.1.sub)<|oD (dT ([]:List Tm))<|oD (dT ([]:List Tm))<|oD (dC q2)<|oD (dE q1)<|oD (dI q4)<|oD (dI q3)<|oD (dE q0)<|oB 0 h19 k) (ih244vacwLda _ _ _ _ _ _ _ _ _ _ _ _ _ _ _ h)
  dsimp only at h
  obtain⟨x23,h24,h⟩:=obind h
  obtain⟨x25,h26,h⟩:=obind h
  have k:=oW 0 (wtE (x:=y22.2.1) (cs:=[ai y22.2.1.k,ai y22.2.1.n,slv tmCells y22.2.1.sub .no]) codecT (by rw[tm_eq];rfl) h26)<|oA 8 (ixM23 (b:=7) (c:=List.length y6) (z:=3) h24)<|oC 1 [0,1,2,3,4] (ih186vacy _ _ _ _ _ _ _ _ _ _ _ h13) k
  rcases spl h with⟨h27,h⟩|⟨h27,h⟩
  obtain⟨r28,h29,h⟩:=obind h
  obtain rfl:=sj h
  exact fun j=>lF 1 [0,1,2,3,4,9] (oD (dT r28.sub)<|oD (dT y22.2.2.2.2.2.1)<|oD (dC q2)<|oD (dE q1)<|oD (dI q4)<|oD (dI q3)<|oD (dE q0)<|oC 1 [7] (c151vacq h29)<|oB 0 h27 k)
  exact fun j=>lH 1 [] [0,1,2,3,4,5,6,7,9] [] [0,2,4,11,12,13,25,26,27] (oD (dPatternPat p1)<|oD (dT p2)<|oD (dT y22.2.2.2.2.2.1)<|oD (dT x25)<|oD (dT r1.1.sub)<|oD (dT ([]:List Tm))<|oD (dC q2)<|oD (dE q1)<|oD (dI q4)<|oD (dI q3)<|oD (dE q0)<|oB 0 h27 k) (l244vacwLcx _ _ _ _ _ _ _ _ _ _ _ _ _ _ _ _ _ _ _ h)
  obtain⟨r30,h31,h⟩:=obind h
  obtain rfl:=sj h
  exact fun j=>lG 1 [] [0,1,2,3,4] [] true (oD (dT r30.sub)<|oD (dT ([]:List Tm))<|oD (dC q2)<|oD (dE q1)<|oD (dI q4)<|oD (dI q3)<|oD (dE q0)<|oC 1 [7] (c151vacq h31)<|oB 0 h7 o0)
theorem c186vacy{qq q0 q1 q2 q3 q4 q5 q6 q7 p1 p2 r}(h:e186vacy qq q0 q1 q2 q3 q4 q5 q6 q7 p1 p2=some r):(match (generalizing:=false) r with|Sum.inl x=>K186vacys0 q0 q1 q2 q3 q4 q5 q6 q7 p1 p2 x Ct|Sum.inr x=>K186vacys1 q0 q1 q2 q3 q4 q5 q6 q7 p1 p2 x Ct):=(a186vacy_244vacw_244vacwLcz_244vacwLda _).1 _ _ _ _ _ _ _ _ _ _ _ h
theorem gset_ok{α:Type}{l:List α}{k:Nat}(x:α)(h:k<l.length):gset l k x=some (l.set k x):=by unfold gset;rw[if_pos h]
theorem ev_vr(l:List Tm)(h:l.length≤1000000):Evt (fun q=>e120vr q l) (if l=[]then .inl ()else .inr l):=by
 refine Evt.mk fun q=>?_
 unfold e120vr
 by_cases hl:l=[]
 ·subst hl;rfl
 ·rw[if_neg (by simpa using hl),if_neg hl,gapp_ok (by simp;omega)];rfl
theorem ev_AWL(row:List Tm)(hl:row.length≤1000000):∀(r:List Tm) (v:Nat) (f:Tm),row.drop v=r->Evt (fun q=>e151vacqLcr q row row.length (v:Int) f.k f.n f.sub) (apT f r)
 | [],v,f,hd=>by
  refine Evt.succ ?_
  simp only[e151vacqLcr,tm_eta]
  exact Evt.ifF (drop_nil hd) (Evt.ret.eq rfl)
 |x::r,v,f,hd=>by
  have hlt:=drop_lt hd
  have hx:row[v]=x:=by have:=drop_idx hd;rw[gidx_nat hlt]at this;exact Option.some.inj this
  refine Evt.succ ?_
  simp only[e151vacqLcr,tm_eta]
  refine Evt.ifT (drop_dec hd) (Evt.pure (gchk_ok hlt) (Evt.pure (gidx_nat hlt) ((ev_App f _).bind ?_)))
  rw[w64_nat v (by omega),hx]
  exact ev_AWL row hl r (v+1) (.mk 5 0 [f,x]) (drop_next hd)
theorem ev_AW(f:Tm)(row:List Tm)(n:Nat)(hn:row.length=n)(hl:n≤1000000):Evt (fun q=>e151vacq q f row n) (apT f row):=by
 subst hn
 simp only[e151vacq]
 exact ev_AWL row hl row 0 f rfl
abbrev RM:=Int×Tm×Int×Int×Int×List Tm×Nat×Nat
abbrev RM0:=(Int×Tm×Int×Int×Int) ⊕ RM
def e121vadbLdc(qq:Nat)(q0 q1:List Ent)(q2:List Con')(q3 q4:List Int)(q5 q6 q7:Int)(p1:List PatternPat)(p2:List Tm)(v15:Int):Option (Int×List Tm):=
 if decide (v15<(List.length p1:Int))then
 none
 else
 some (0,[])
def e121vadb(qq:Nat)(q0 q1:List Ent)(q2:List Con')(q3 q4:List Int)(q5 q6 q7:Int)(p1:List PatternPat)(p2:List Tm):Option (Int×List Tm):=
 e121vadbLdc qq q0 q1 q2 q3 q4 q5 q6 q7 p1 p2 0
def g121vadbLdcE0(j:Nat->Value)(q0 q1:List Ent)(q2:List Con')(q3 q4:List Int)(q5 q6 q7:Int)(p1:List PatternPat)(p2:List Tm)(v15:Int):=sp j 59 0 [(0,.mp 0 0),(2,slv tmCells p2 .no),(8,.mp 4 0),(13,slv patternPatC p1 .no),(14,ai (List.length p1:Int)),(15,ai v15)]
def g121vadbLdcS0(q0 q1:List Ent)(q2:List Con')(q3 q4:List Int)(q5 q6 q7:Int)(p1:List PatternPat)(p2:List Tm)(v15:Int):LSt:=⟨[(0,.cells [.mp 1 0,.mp 3 0,ai q7]),(1,.cells [slv entL q0 .no,.mp 2 0,slv intC q3 .no,slv intC q4 .no]),(2,.cells [slv entL q1 .no,slv conL q2 .no]),(3,.cells [ai q5,ai q6]),(4,.cells [slv tmCells ([]:List Tm) .nl])],5,[],0,[]⟩
abbrev K121vadb (q0 q1:List Ent) (q2:List Con') (q3 q4:List Int) (q5 q6 q7:Int) (p1:List PatternPat) (p2:List Tm) (r:Int×List Tm) (C:Cf):Prop:=C 121 [.cells [.mp 1 0,.mp 3 0,ai q7],.cells [slv entL q0 .no,.mp 2 0,slv intC q3 .no,slv intC q4 .no],.cells [slv entL q1 .no,slv conL q2 .no],.cells [ai q5,ai q6]] [.mp 0 0,slv patternPatC p1 .no,slv tmCells p2 .no] (.tup [ai r.1,.sl (flat tmCells r.2) (List.length r.2) .no]) [.cells [.mp 1 0,.mp 3 0,ai q7],.cells [slv entL q0 .no,.mp 2 0,slv intC q3 .no,slv intC q4 .no],.cells [slv entL q1 .no,slv conL q2 .no],.cells [ai q5,ai q6]] 0
theorem q121vadb:Qf 121 Tryz.f121:=⟨Tryz.func121,by kernel_rfl⟩
theorem k121vadb{q0 q1 q2 q3 q4 q5 q6 q7 p1 p2 r}(h:K121vadb q0 q1 q2 q3 q4 q5 q6 q7 p1 p2 r Ci):K121vadb q0 q1 q2 q3 q4 q5 q6 q7 p1 p2 r Ct:=⟨h,⟨(lz rfl),⟨tv,dPatternPat _⟩,⟨tv,dT _⟩,tv⟩,(forall_cons ⟨(lz rfl),(lz rfl),tv,tv⟩ (forall_cons ⟨⟨tv,dE _⟩,(lz rfl),⟨tv,dI _⟩,⟨tv,dI _⟩,tv⟩ (forall_cons ⟨⟨tv,dE _⟩,⟨tv,dC _⟩,tv⟩ (forall_cons ⟨tv,tv,tv⟩ forall_nil)))),⟨tv,dT _,tv⟩,(forall_cons ⟨(lz rfl),(lz rfl),tv,tv⟩ (forall_cons ⟨dE _,(lz rfl),dI _,dI _,tv⟩ (forall_cons ⟨dE _,dC _,tv⟩ (forall_cons ⟨tv,tv,tv⟩ forall_nil))))⟩
theorem l121vadbLdc(qq q0 q1 q2 q3 q4 q5 q6 q7 p1 p2 v15 r)(h:e121vadbLdc qq q0 q1 q2 q3 q4 q5 q6 q7 p1 p2 v15=some r):(∀j,Dl Tryz.prog 4 (inn (inn (rgt (lft (rgt (rgt (bod Tryz.f121))))))) (g121vadbLdcE0 j q0 q1 q2 q3 q4 q5 q6 q7 p1 p2 v15) (g121vadbLdcS0 q0 q1 q2 q3 q4 q5 q6 q7 p1 p2 v15) (frameQ Tryz.prog 4 (FinQ Tryz.prog 4 Tryz.f121 (.tup [ai r.1,.sl (flat tmCells r.2) (List.length r.2) .no]) [.cells [.mp 1 0,.mp 3 0,ai q7],.cells [slv entL q0 .no,.mp 2 0,slv intC q3 .no,slv intC q4 .no],.cells [slv entL q1 .no,slv conL q2 .no],.cells [ai q5,ai q6]] 0) [.blk 0,.seq (rgt (rgt (rgt (bod Tryz.f121))))])):=by
 unfold e121vadbLdc at h
 obtain⟨h1,h⟩:=splF h
 obtain rfl:=sj h
 exact fun j=>lF 1 [0,1,2,3] (oD (dT ([]:List Tm))<|oD (dC q2)<|oD (dE q1)<|oD (dI q4)<|oD (dI q3)<|oD (dE q0)<|oB 0 h1 o0)
theorem c121vadb{qq q0 q1 q2 q3 q4 q5 q6 q7 p1 p2 r}(h:e121vadb qq q0 q1 q2 q3 q4 q5 q6 q7 p1 p2=some r):K121vadb q0 q1 q2 q3 q4 q5 q6 q7 p1 p2 r Ct:=by
 unfold e121vadb at h
 exact k121vadb (tH q121vadb 1 [] [0,1,2,3,4] [] [0,2,8,13,14,15] (oD (dPatternPat p1)<|oD (dT p2)<|oD (dT ([]:List Tm))<|oD (dC q2)<|oD (dE q1)<|oD (dI q4)<|oD (dI q3)<|oD (dE q0) o0) (l121vadbLdc qq _ _ _ _ _ _ _ _ _ _ _ _ h))
def e121vaddLde:Nat->(List Ent)->(List Ent)->(List Con')->(List Int)->(List Int)->(List PatternPat)->Nat->Int->Int->Int->Int->(List Tm)->Nat->Nat->(List Tm)->Option ((Int×List Tm×Int×Int×Int×List Tm) ⊕ (List Tm×Int×Nat×Int×Int×Int×List Tm))
 |0,_,_,_,_,_,_,_,_,_,_,_,_,_,_,_=>none
 |qq+1,q0,q1,q2,q3,q4,p1,q10,v15,vb0_2,vb3_0,vb3_1,vb4_0,vb5_0_c,vb5_0_n,vb6_0=>
 if decide (v15<(List.length p1:Int))then
 gidx p1 v15>>=fun x36=>
 gchk q10 v15>>=fun x38=>
 gidx vb4_0 (x38:Int)>>=fun x40=>
 e186vacs qq q0 q1 q2 q3 q4 vb3_0 vb3_1 vb0_2 (PatternPat.mk x36.kind_ x36.n_ x36.at_ x36.sub_ x36.t_) x40 vb6_0 vb5_0_n vb5_0_c>>=fun r42=>
 if r42.2.2.1==0 then
 e89 qq r42.2.1>>=fun r45=>
 if r45 then
 gset vb4_0 x38 r42.2.1>>=fun x48=>
 if r42.1 != 0 then
 some (Sum.inl (r42.1,[],r42.2.2.1,r42.2.2.2.1,r42.2.2.2.2.1,x48))
 else
 if r42.2.2.1 != 0 then
 some (Sum.inl (r42.1,[],r42.2.2.1,r42.2.2.2.1,r42.2.2.2.2.1,x48))
 else
 e121vaddLde qq q0 q1 q2 q3 q4 p1 q10 (w64 (v15+1)) r42.2.2.1 r42.2.2.2.1 r42.2.2.2.2.1 x48 r42.2.2.2.2.2.2.2 r42.2.2.2.2.2.2.1 r42.2.2.2.2.2.1
 else
 gset vb4_0 x38 r42.2.1>>=fun x52=>
 if r42.1 != 0 then
 some (Sum.inl (r42.1,[],2,r42.2.2.2.1,r42.2.2.2.2.1,x52))
 else
 some (Sum.inl (r42.1,[],2,r42.2.2.2.1,r42.2.2.2.2.1,x52))
 else
 gset vb4_0 x38 r42.2.1>>=fun x55=>
 if r42.1 != 0 then
 some (Sum.inl (r42.1,[],r42.2.2.1,r42.2.2.2.1,r42.2.2.2.2.1,x55))
 else
 if r42.2.2.1 != 0 then
 some (Sum.inl (r42.1,[],r42.2.2.1,r42.2.2.2.1,r42.2.2.2.2.1,x55))
 else
 e121vaddLde qq q0 q1 q2 q3 q4 p1 q10 (w64 (v15+1)) r42.2.2.1 r42.2.2.2.1 r42.2.2.2.2.1 x55 r42.2.2.2.2.2.2.2 r42.2.2.2.2.2.2.1 r42.2.2.2.2.2.1
 else
 gfz vb5_0_n vb6_0>>=fun l59=>
 some (Sum.inr (l59,0,vb5_0_c,vb0_2,vb3_0,vb3_1,vb4_0))
def e121vaddLdf:Nat->(List Ent)->(List Ent)->(List Con')->(List Int)->(List Int)->(List PatternPat)->Nat->Int->Int->Int->Int->(List Tm)->Option ((Int×List Tm×Int×Int×Int×List Tm) ⊕ (List Tm×Int×Nat×Int×Int×Int×List Tm))
 |0,_,_,_,_,_,_,_,_,_,_,_,_=>none
 |qq+1,q0,q1,q2,q3,q4,p1,q10,v15,vb0_2,vb3_0,vb3_1,vb4_0=>
 if decide (v15<(List.length p1:Int))then
 gidx p1 v15>>=fun x2=>
 gchk q10 v15>>=fun x4=>
 gidx vb4_0 (x4:Int)>>=fun x6=>
 e186vacy qq q0 q1 q2 q3 q4 vb3_0 vb3_1 vb0_2 (PatternPat.mk x2.kind_ x2.n_ x2.at_ x2.sub_ x2.t_) x6>>=fun r8=>
 match r8 with
 |Sum.inl y10=>
  if y10.2.2.1==0 then
  e89 qq y10.2.1>>=fun r12=>
  if r12 then
  gset vb4_0 x4 y10.2.1>>=fun x15=>
  if y10.1 != 0 then
  some (Sum.inl (y10.1,[],y10.2.2.1,y10.2.2.2.1,y10.2.2.2.2,x15))
  else
  if y10.2.2.1 != 0 then
  some (Sum.inl (y10.1,[],y10.2.2.1,y10.2.2.2.1,y10.2.2.2.2,x15))
  else
  e121vaddLdf qq q0 q1 q2 q3 q4 p1 q10 (w64 (v15+1)) y10.2.2.1 y10.2.2.2.1 y10.2.2.2.2 x15
  else
  gset vb4_0 x4 y10.2.1>>=fun x19=>
  if y10.1 != 0 then
  some (Sum.inl (y10.1,[],2,y10.2.2.2.1,y10.2.2.2.2,x19))
  else
  some (Sum.inl (y10.1,[],2,y10.2.2.2.1,y10.2.2.2.2,x19))
  else
  gset vb4_0 x4 y10.2.1>>=fun x22=>
  if y10.1 != 0 then
  some (Sum.inl (y10.1,[],y10.2.2.1,y10.2.2.2.1,y10.2.2.2.2,x22))
  else
  if y10.2.2.1 != 0 then
  some (Sum.inl (y10.1,[],y10.2.2.1,y10.2.2.2.1,y10.2.2.2.2,x22))
  else
  e121vaddLdf qq q0 q1 q2 q3 q4 p1 q10 (w64 (v15+1)) y10.2.2.1 y10.2.2.2.1 y10.2.2.2.2 x22
 |Sum.inr y26=>
  if y26.2.2.1==0 then
  e89 qq y26.2.1>>=fun r28=>
  if r28 then
  gset vb4_0 x4 y26.2.1>>=fun x31=>
  if y26.1 != 0 then
  some (Sum.inl (y26.1,[],y26.2.2.1,y26.2.2.2.1,y26.2.2.2.2.1,x31))
  else
  if y26.2.2.1 != 0 then
  some (Sum.inl (y26.1,[],y26.2.2.1,y26.2.2.2.1,y26.2.2.2.2.1,x31))
  else
  e121vaddLde qq q0 q1 q2 q3 q4 p1 q10 (w64 (v15+1)) y26.2.2.1 y26.2.2.2.1 y26.2.2.2.2.1 x31 y26.2.2.2.2.2.2.2 y26.2.2.2.2.2.2.1 y26.2.2.2.2.2.1
  else
  gset vb4_0 x4 y26.2.1>>=fun x35=>
  if y26.1 != 0 then
  some (Sum.inl (y26.1,[],2,y26.2.2.2.1,y26.2.2.2.2.1,x35))
  else
  some (Sum.inl (y26.1,[],2,y26.2.2.2.1,y26.2.2.2.2.1,x35))
  else
  gset vb4_0 x4 y26.2.1>>=fun x38=>
  if y26.1 != 0 then
  some (Sum.inl (y26.1,[],y26.2.2.1,y26.2.2.2.1,y26.2.2.2.2.1,x38))
  else
  if y26.2.2.1 != 0 then
  some (Sum.inl (y26.1,[],y26.2.2.1,y26.2.2.2.1,y26.2.2.2.2.1,x38))
  else
  e121vaddLde qq q0 q1 q2 q3 q4 p1 q10 (w64 (v15+1)) y26.2.2.1 y26.2.2.2.1 y26.2.2.2.2.1 x38 y26.2.2.2.2.2.2.2 y26.2.2.2.2.2.2.1 y26.2.2.2.2.2.1
 else
 some (Sum.inl (0,[],vb0_2,vb3_0,vb3_1,vb4_0))
def e121vadd(qq:Nat)(q0 q1:List Ent)(q2:List Con')(q3 q4:List Int)(q5 q6 q7:Int)(p1:List PatternPat)(q9:List Tm)(q10:Nat):Option ((Int×List Tm×Int×Int×Int×List Tm) ⊕ (List Tm×Int×Nat×Int×Int×Int×List Tm)):=
 e121vaddLdf qq q0 q1 q2 q3 q4 p1 q10 0 q7 q5 q6 q9
def g121vaddLdfE0(j:Nat->Value)(q0 q1:List Ent)(q2:List Con')(q3 q4:List Int)(p1:List PatternPat)(q10:Nat)(v15 vb0_2 vb3_0 vb3_1:Int)(vb4_0:List Tm):=sp j 59 0 [(0,.mp 0 0),(2,.ms 4 0 q10 q10 3),(8,.mp 5 0),(13,slv patternPatC p1 .no),(14,ai (List.length p1:Int)),(15,ai v15)]
def g121vaddLdfS0(q0 q1:List Ent)(q2:List Con')(q3 q4:List Int)(p1:List PatternPat)(q10:Nat)(v15 vb0_2 vb3_0 vb3_1:Int)(vb4_0:List Tm):LSt:=⟨[(0,.cells [.mp 1 0,.mp 3 0,ai vb0_2]),(1,.cells [slv entL q0 .no,.mp 2 0,slv intC q3 .no,slv intC q4 .no]),(2,.cells [slv entL q1 .no,slv conL q2 .no]),(3,.cells [ai vb3_0,ai vb3_1]),(4,.row (flat tmCells vb4_0)),(5,.cells [slv tmCells ([]:List Tm) .nl])],6,[],0,[]⟩
def g121vaddLdeE0(j:Nat->Value)(q0 q1:List Ent)(q2:List Con')(q3 q4:List Int)(p1:List PatternPat)(q10:Nat)(v15 vb0_2 vb3_0 vb3_1:Int)(vb4_0:List Tm)(vb5_0_c vb5_0_n:Nat)(vb6_0:List Tm):=sp j 59 0 [(0,.mp 0 0),(2,.ms 4 0 q10 q10 3),(8,.mp 5 0),(13,slv patternPatC p1 .no),(14,ai (List.length p1:Int)),(15,ai v15)]
def g121vaddLdeS0(q0 q1:List Ent)(q2:List Con')(q3 q4:List Int)(p1:List PatternPat)(q10:Nat)(v15 vb0_2 vb3_0 vb3_1:Int)(vb4_0:List Tm)(vb5_0_c vb5_0_n:Nat)(vb6_0:List Tm):LSt:=⟨[(0,.cells [.mp 1 0,.mp 3 0,ai vb0_2]),(1,.cells [slv entL q0 .no,.mp 2 0,slv intC q3 .no,slv intC q4 .no]),(2,.cells [slv entL q1 .no,slv conL q2 .no]),(3,.cells [ai vb3_0,ai vb3_1]),(4,.row (flat tmCells vb4_0)),(5,.cells [.ms 6 0 vb5_0_n vb5_0_c 3]),(6,.row (flat tmCells vb6_0))],7,[],0,[]⟩
abbrev K121vadds0 (q0 q1:List Ent) (q2:List Con') (q3 q4:List Int) (q5 q6 q7:Int) (p1:List PatternPat) (q9:List Tm) (q10:Nat) (r:Int×List Tm×Int×Int×Int×List Tm) (C:Cf):Prop:=C 121 [.cells [.mp 1 0,.mp 3 0,ai q7],.cells [slv entL q0 .no,.mp 2 0,slv intC q3 .no,slv intC q4 .no],.cells [slv entL q1 .no,slv conL q2 .no],.cells [ai q5,ai q6],.row (flat tmCells q9)] [.mp 0 0,slv patternPatC p1 .no,.ms 4 0 q10 q10 3] (.tup [ai r.1,.sl (flat tmCells r.2.1) (List.length r.2.1) .no]) [.cells [.mp 1 0,.mp 3 0,ai r.2.2.1],.cells [slv entL q0 .no,.mp 2 0,slv intC q3 .no,slv intC q4 .no],.cells [slv entL q1 .no,slv conL q2 .no],.cells [ai r.2.2.2.1,ai r.2.2.2.2.1],.row (flat tmCells r.2.2.2.2.2)] 0
abbrev K121vadds1 (q0 q1:List Ent) (q2:List Con') (q3 q4:List Int) (q5 q6 q7:Int) (p1:List PatternPat) (q9:List Tm) (q10:Nat) (r:List Tm×Int×Nat×Int×Int×Int×List Tm) (C:Cf):Prop:=C 121 [.cells [.mp 1 0,.mp 3 0,ai q7],.cells [slv entL q0 .no,.mp 2 0,slv intC q3 .no,slv intC q4 .no],.cells [slv entL q1 .no,slv conL q2 .no],.cells [ai q5,ai q6],.row (flat tmCells q9)] [.mp 0 0,slv patternPatC p1 .no,.ms 4 0 q10 q10 3] (.tup [ai r.2.1,.ms 5 0 (List.length r.1) r.2.2.1 3]) [.cells [.mp 1 0,.mp 3 0,ai r.2.2.2.1],.cells [slv entL q0 .no,.mp 2 0,slv intC q3 .no,slv intC q4 .no],.cells [slv entL q1 .no,slv conL q2 .no],.cells [ai r.2.2.2.2.1,ai r.2.2.2.2.2.1],.row (flat tmCells r.2.2.2.2.2.2),.row (flat tmCells r.1)] 0
theorem q121vadd:Qf 121 Tryz.f121:=⟨Tryz.func121,by kernel_rfl⟩
theorem k121vadds0{q0 q1 q2 q3 q4 q5 q6 q7 p1 q9 q10 r}(h:K121vadds0 q0 q1 q2 q3 q4 q5 q6 q7 p1 q9 q10 r Ci):K121vadds0 q0 q1 q2 q3 q4 q5 q6 q7 p1 q9 q10 r Ct:=⟨h,⟨(lz rfl),⟨tv,dPatternPat _⟩,(lz rfl),tv⟩,(forall_cons ⟨(lz rfl),(lz rfl),tv,tv⟩ (forall_cons ⟨⟨tv,dE _⟩,(lz rfl),⟨tv,dI _⟩,⟨tv,dI _⟩,tv⟩ (forall_cons ⟨⟨tv,dE _⟩,⟨tv,dC _⟩,tv⟩ (forall_cons ⟨tv,tv,tv⟩ (forall_cons (dT _) forall_nil))))),⟨tv,dT _,tv⟩,(forall_cons ⟨(lz rfl),(lz rfl),tv,tv⟩ (forall_cons ⟨dE _,(lz rfl),dI _,dI _,tv⟩ (forall_cons ⟨dE _,dC _,tv⟩ (forall_cons ⟨tv,tv,tv⟩ (forall_cons (dT _) forall_nil)))))⟩
theorem k121vadds1{q0 q1 q2 q3 q4 q5 q6 q7 p1 q9 q10 r}(h:K121vadds1 q0 q1 q2 q3 q4 q5 q6 q7 p1 q9 q10 r Ci):K121vadds1 q0 q1 q2 q3 q4 q5 q6 q7 p1 q9 q10 r Ct:=⟨h,⟨(lz rfl),⟨tv,dPatternPat _⟩,(lz rfl),tv⟩,(forall_cons ⟨(lz rfl),(lz rfl),tv,tv⟩ (forall_cons ⟨⟨tv,dE _⟩,(lz rfl),⟨tv,dI _⟩,⟨tv,dI _⟩,tv⟩ (forall_cons ⟨⟨tv,dE _⟩,⟨tv,dC _⟩,tv⟩ (forall_cons ⟨tv,tv,tv⟩ (forall_cons (dT _) forall_nil))))),⟨tv,(lz rfl),tv⟩,(forall_cons ⟨(lz rfl),(lz rfl),tv,tv⟩ (forall_cons ⟨dE _,(lz rfl),dI _,dI _,tv⟩ (forall_cons ⟨dE _,dC _,tv⟩ (forall_cons ⟨tv,tv,tv⟩ (forall_cons (dT _) (forall_cons (dT _) forall_nil))))))⟩
theorem l121vaddLde:∀qq:Nat,(∀q0 q1 q2 q3 q4 p1 q10 v15 vb0_2 vb3_0 vb3_1 vb4_0 vb5_0_c vb5_0_n vb6_0 r,e121vaddLde qq q0 q1 q2 q3 q4 p1 q10 v15 vb0_2 vb3_0 vb3_1 vb4_0 vb5_0_c vb5_0_n vb6_0=some r->(∀j,Dl Tryz.prog 5 (inn (inn (rgt (lft (rgt (rgt (bod Tryz.f121))))))) (g121vaddLdeE0 j q0 q1 q2 q3 q4 p1 q10 v15 vb0_2 vb3_0 vb3_1 vb4_0 vb5_0_c vb5_0_n vb6_0) (g121vaddLdeS0 q0 q1 q2 q3 q4 p1 q10 v15 vb0_2 vb3_0 vb3_1 vb4_0 vb5_0_c vb5_0_n vb6_0) (frameQ Tryz.prog 5 ((match (generalizing:=false) r with|Sum.inl x=>FinQ Tryz.prog 5 Tryz.f121 (.tup [ai x.1,.sl (flat tmCells x.2.1) (List.length x.2.1) .no]) [.cells [.mp 1 0,.mp 3 0,ai x.2.2.1],.cells [slv entL q0 .no,.mp 2 0,slv intC q3 .no,slv intC q4 .no],.cells [slv entL q1 .no,slv conL q2 .no],.cells [ai x.2.2.2.1,ai x.2.2.2.2.1],.row (flat tmCells x.2.2.2.2.2)] 0|Sum.inr x=>FinQ Tryz.prog 5 Tryz.f121 (.tup [ai x.2.1,.ms 5 0 (List.length x.1) x.2.2.1 3]) [.cells [.mp 1 0,.mp 3 0,ai x.2.2.2.1],.cells [slv entL q0 .no,.mp 2 0,slv intC q3 .no,slv intC q4 .no],.cells [slv entL q1 .no,slv conL q2 .no],.cells [ai x.2.2.2.2.1,ai x.2.2.2.2.2.1],.row (flat tmCells x.2.2.2.2.2.2),.row (flat tmCells x.1)] 0)) [.blk 0,.seq (rgt (rgt (rgt (bod Tryz.f121))))]))):=by
 intro qq
 induction qq with
 |zero=>
  exact fun _ _ _ _ _ _ _ _ _ _ _ _ _ _ _ _ h=>nn h
 |succ qq ih=>
  intro q0 q1 q2 q3 q4 p1 q10 v15 vb0_2 vb3_0 vb3_1 vb4_0 vb5_0_c vb5_0_n vb6_0 r h
  rw[e121vaddLde]at h
  rcases spl h with⟨h35,h⟩|⟨h35,h⟩
  obtain⟨x36,h37,h⟩:=obind h
  obtain⟨x38,h39,h⟩:=obind h
  obtain⟨x40,h41,h⟩:=obind h
  obtain⟨r42,h43,h⟩:=obind h
  have k:=oC 0 [0,1,2,3,5,6] (c186vacs h43)<|oG (a:=(.agg [ai x40.k,ai x40.n,slv tmCells x40.sub .no])) 0 (ldE codecT h41 (true,3) (val:=.agg [ai x40.k,ai x40.n,slv tmCells x40.sub .no]) (by rw[tm_eq];rfl))<|oA 3 (ixM23 (b:=4) (c:=q10) (z:=3) h39)<|oA 0 (ix106 (o:=.no) h37)<|oB 0 h35 o0
  rcases spl h with⟨h44,h⟩|⟨h44,h⟩
  obtain⟨r45,h46,h⟩:=obind h
  have k:=oB 4 h44 k
  rcases spl h with⟨h47,h⟩|⟨h47,h⟩
  obtain⟨x48,h49,h⟩:=obind h
  have k:=oW 0 (wtE (x:=r42.2.1) (cs:=[ai r42.2.1.k,ai r42.2.1.n,slv tmCells r42.2.1.sub .no]) codecT (by rw[tm_eq];rfl) h49)<|oA 2 (ixM23 (b:=4) (c:=q10) (z:=3) h39)<|oK 1 [] h47 (c89 h46) k
  rcases spl h with⟨h50,h⟩|⟨h50,h⟩
  obtain rfl:=sj h
  exact fun j=>lF 0 [0,1,2,3,4] (oD (dT ([]:List Tm))<|oD (dT x48)<|oD (dC q2)<|oD (dE q1)<|oD (dI q4)<|oD (dI q3)<|oD (dE q0)<|oB 0 h50 k)
  have k:=oB 0 h50 k
  rcases spl h with⟨h51,h⟩|⟨h51,h⟩
  obtain rfl:=sj h
  exact fun j=>lF 0 [0,1,2,3,4] (oD (dT ([]:List Tm))<|oD (dT x48)<|oD (dC q2)<|oD (dE q1)<|oD (dI q4)<|oD (dI q3)<|oD (dE q0)<|oB 1 h51 k)
  exact fun j=>lH 1 [] [0,1,2,3,4,5,8] [] [0,2,8,13,14,15] (oD (dPatternPat p1)<|oD (dT r42.2.2.2.2.2.1)<|oD (dT x48)<|oD (dC q2)<|oD (dE q1)<|oD (dI q4)<|oD (dI q3)<|oD (dE q0)<|oB 1 h51 k) (ih _ _ _ _ _ _ _ _ _ _ _ _ _ _ _ _ h)
  obtain⟨x52,h53,h⟩:=obind h
  have k:=oW 0 (wtE (x:=r42.2.1) (cs:=[ai r42.2.1.k,ai r42.2.1.n,slv tmCells r42.2.1.sub .no]) codecT (by rw[tm_eq];rfl) h53)<|oA 3 (ixM23 (b:=4) (c:=q10) (z:=3) h39)<|oK 1 [] h47 (c89 h46) k
  rcases spl h with⟨h54,h⟩|⟨h54,h⟩
  obtain rfl:=sj h
  exact fun j=>lF 0 [0,1,2,3,4] (oD (dT ([]:List Tm))<|oD (dT x52)<|oD (dC q2)<|oD (dE q1)<|oD (dI q4)<|oD (dI q3)<|oD (dE q0)<|oB 0 h54 k)
  obtain rfl:=sj h
  exact fun j=>lF 2 [0,1,2,3,4] (oD (dT ([]:List Tm))<|oD (dT x52)<|oD (dC q2)<|oD (dE q1)<|oD (dI q4)<|oD (dI q3)<|oD (dE q0)<|oB 0 h54 k)
  obtain⟨x55,h56,h⟩:=obind h
  have k:=oW 0 (wtE (x:=r42.2.1) (cs:=[ai r42.2.1.k,ai r42.2.1.n,slv tmCells r42.2.1.sub .no]) codecT (by rw[tm_eq];rfl) h56)<|oA 1 (ixM23 (b:=4) (c:=q10) (z:=3) h39)<|oB 4 h44 k
  rcases spl h with⟨h57,h⟩|⟨h57,h⟩
  obtain rfl:=sj h
  exact fun j=>lF 0 [0,1,2,3,4] (oD (dT ([]:List Tm))<|oD (dT x55)<|oD (dC q2)<|oD (dE q1)<|oD (dI q4)<|oD (dI q3)<|oD (dE q0)<|oB 0 h57 k)
  have k:=oB 0 h57 k
  rcases spl h with⟨h58,h⟩|⟨h58,h⟩
  obtain rfl:=sj h
  exact fun j=>lF 0 [0,1,2,3,4] (oD (dT ([]:List Tm))<|oD (dT x55)<|oD (dC q2)<|oD (dE q1)<|oD (dI q4)<|oD (dI q3)<|oD (dE q0)<|oB 1 h58 k)
  exact fun j=>lH 1 [] [0,1,2,3,4,5,8] [] [0,2,8,13,14,15] (oD (dPatternPat p1)<|oD (dT r42.2.2.2.2.2.1)<|oD (dT x55)<|oD (dC q2)<|oD (dE q1)<|oD (dI q4)<|oD (dI q3)<|oD (dE q0)<|oB 1 h58 k) (ih _ _ _ _ _ _ _ _ _ _ _ _ _ _ _ _ h)
  obtain⟨l59,h60,h⟩:=obind h
  obtain⟨h60a,h60b⟩:=gfz_spec h60
  obtain rfl:=sj h
  obtain rfl:=h60a.symm
  dsimp only
  rw[←h60b]
  exact fun j=>lF 1 [0,1,2,3,4,6] (oD (dT vb6_0)<|oD (dT vb4_0)<|oD (dC q2)<|oD (dE q1)<|oD (dI q4)<|oD (dI q3)<|oD (dE q0)<|oB 0 h35 o0)
theorem l121vaddLdf:∀qq:Nat,(∀q0 q1 q2 q3 q4 p1 q10 v15 vb0_2 vb3_0 vb3_1 vb4_0 r,e121vaddLdf qq q0 q1 q2 q3 q4 p1 q10 v15 vb0_2 vb3_0 vb3_1 vb4_0=some r->(∀j,Dl Tryz.prog 5 (inn (inn (rgt (lft (rgt (rgt (bod Tryz.f121))))))) (g121vaddLdfE0 j q0 q1 q2 q3 q4 p1 q10 v15 vb0_2 vb3_0 vb3_1 vb4_0) (g121vaddLdfS0 q0 q1 q2 q3 q4 p1 q10 v15 vb0_2 vb3_0 vb3_1 vb4_0) (frameQ Tryz.prog 5 ((match (generalizing:=false) r with|Sum.inl x=>FinQ Tryz.prog 5 Tryz.f121 (.tup [ai x.1,.sl (flat tmCells x.2.1) (List.length x.2.1) .no]) [.cells [.mp 1 0,.mp 3 0,ai x.2.2.1],.cells [slv entL q0 .no,.mp 2 0,slv intC q3 .no,slv intC q4 .no],.cells [slv entL q1 .no,slv conL q2 .no],.cells [ai x.2.2.2.1,ai x.2.2.2.2.1],.row (flat tmCells x.2.2.2.2.2)] 0|Sum.inr x=>FinQ Tryz.prog 5 Tryz.f121 (.tup [ai x.2.1,.ms 5 0 (List.length x.1) x.2.2.1 3]) [.cells [.mp 1 0,.mp 3 0,ai x.2.2.2.1],.cells [slv entL q0 .no,.mp 2 0,slv intC q3 .no,slv intC q4 .no],.cells [slv entL q1 .no,slv conL q2 .no],.cells [ai x.2.2.2.2.1,ai x.2.2.2.2.2.1],.row (flat tmCells x.2.2.2.2.2.2),.row (flat tmCells x.1)] 0)) [.blk 0,.seq (rgt (rgt (rgt (bod Tryz.f121))))]))):=by
 intro qq
 induction qq with
 |zero=>
  exact fun _ _ _ _ _ _ _ _ _ _ _ _ _ h=>nn h
 |succ qq ih=>
  intro q0 q1 q2 q3 q4 p1 q10 v15 vb0_2 vb3_0 vb3_1 vb4_0 r h
  rw[e121vaddLdf]at h
  rcases spl h with⟨h1,h⟩|⟨h1,h⟩
  obtain⟨x2,h3,h⟩:=obind h
  obtain⟨x4,h5,h⟩:=obind h
  obtain⟨x6,h7,h⟩:=obind h
  obtain⟨r8,h9,h⟩:=obind h
  have k:=oG (a:=(.agg [ai x6.k,ai x6.n,slv tmCells x6.sub .no])) 0 (ldE codecT h7 (true,3) (val:=.agg [ai x6.k,ai x6.n,slv tmCells x6.sub .no]) (by rw[tm_eq];rfl))<|oA 3 (ixM23 (b:=4) (c:=q10) (z:=3) h5)<|oA 0 (ix106 (o:=.no) h3)<|oB 0 h1 o0
  rcases r8 with y10|y26
  dsimp only at h
  have k:=oC 0 [0,1,2,3,5] (c186vacy h9) k
  rcases spl h with⟨h11,h⟩|⟨h11,h⟩
  obtain⟨r12,h13,h⟩:=obind h
  have k:=oB 4 h11 k
  rcases spl h with⟨h14,h⟩|⟨h14,h⟩
  obtain⟨x15,h16,h⟩:=obind h
  have k:=oW 0 (wtE (x:=y10.2.1) (cs:=[ai y10.2.1.k,ai y10.2.1.n,slv tmCells y10.2.1.sub .no]) codecT (by rw[tm_eq];rfl) h16)<|oA 2 (ixM23 (b:=4) (c:=q10) (z:=3) h5)<|oK 1 [] h14 (c89 h13) k
  rcases spl h with⟨h17,h⟩|⟨h17,h⟩
  obtain rfl:=sj h
  exact fun j=>lF 0 [0,1,2,3,4] (oD (dT ([]:List Tm))<|oD (dT x15)<|oD (dC q2)<|oD (dE q1)<|oD (dI q4)<|oD (dI q3)<|oD (dE q0)<|oB 0 h17 k)
  have k:=oB 0 h17 k
  rcases spl h with⟨h18,h⟩|⟨h18,h⟩
  obtain rfl:=sj h
  exact fun j=>lF 0 [0,1,2,3,4] (oD (dT ([]:List Tm))<|oD (dT x15)<|oD (dC q2)<|oD (dE q1)<|oD (dI q4)<|oD (dI q3)<|oD (dE q0)<|oB 1 h18 k)
  exact fun j=>lH 1 [] [0,1,2,3,4,5] [] [0,2,8,13,14,15] (oD (dPatternPat p1)<|oD (dT ([]:List Tm))<|oD (dT x15)<|oD (dC q2)<|oD (dE q1)<|oD (dI q4)<|oD (dI q3)<|oD (dE q0)<|oB 1 h18 k) (ih _ _ _ _ _ _ _ _ _ _ _ _ _ h)
  obtain⟨x19,h20,h⟩:=obind h
  have k:=oW 0 (wtE (x:=y10.2.1) (cs:=[ai y10.2.1.k,ai y10.2.1.n,slv tmCells y10.2.1.sub .no]) codecT (by rw[tm_eq];rfl) h20)<|oA 3 (ixM23 (b:=4) (c:=q10) (z:=3) h5)<|oK 1 [] h14 (c89 h13) k
  rcases spl h with⟨h21,h⟩|⟨h21,h⟩
  obtain rfl:=sj h
  exact fun j=>lF 0 [0,1,2,3,4] (oD (dT ([]:List Tm))<|oD (dT x19)<|oD (dC q2)<|oD (dE q1)<|oD (dI q4)<|oD (dI q3)<|oD (dE q0)<|oB 0 h21 k)
  obtain rfl:=sj h
  exact fun j=>lF 2 [0,1,2,3,4] (oD (dT ([]:List Tm))<|oD (dT x19)<|oD (dC q2)<|oD (dE q1)<|oD (dI q4)<|oD (dI q3)<|oD (dE q0)<|oB 0 h21 k)
  obtain⟨x22,h23,h⟩:=obind h
  have k:=oW 0 (wtE (x:=y10.2.1) (cs:=[ai y10.2.1.k,ai y10.2.1.n,slv tmCells y10.2.1.sub .no]) codecT (by rw[tm_eq];rfl) h23)<|oA 1 (ixM23 (b:=4) (c:=q10) (z:=3) h5)<|oB 4 h11 k
  rcases spl h with⟨h24,h⟩|⟨h24,h⟩
  obtain rfl:=sj h
  exact fun j=>lF 0 [0,1,2,3,4] (oD (dT ([]:List Tm))<|oD (dT x22)<|oD (dC q2)<|oD (dE q1)<|oD (dI q4)<|oD (dI q3)<|oD (dE q0)<|oB 0 h24 k)
  have k:=oB 0 h24 k
  rcases spl h with⟨h25,h⟩|⟨h25,h⟩
  obtain rfl:=sj h
  exact fun j=>lF 0 [0,1,2,3,4] (oD (dT ([]:List Tm))<|oD (dT x22)<|oD (dC q2)<|oD (dE q1)<|oD (dI q4)<|oD (dI q3)<|oD (dE q0)<|oB 1 h25 k)
  exact fun j=>lH 1 [] [0,1,2,3,4,5] [] [0,2,8,13,14,15] (oD (dPatternPat p1)<|oD (dT ([]:List Tm))<|oD (dT x22)<|oD (dC q2)<|oD (dE q1)<|oD (dI q4)<|oD (dI q3)<|oD (dE q0)<|oB 1 h25 k) (ih _ _ _ _ _ _ _ _ _ _ _ _ _ h)
  dsimp only at h
  have k:=oC 0 [0,1,2,3,5] (c186vacy h9) k
  rcases spl h with⟨h27,h⟩|⟨h27,h⟩
  obtain⟨r28,h29,h⟩:=obind h
  have k:=oB 4 h27 k
  rcases spl h with⟨h30,h⟩|⟨h30,h⟩
  obtain⟨x31,h32,h⟩:=obind h
  have k:=oW 0 (wtE (x:=y26.2.1) (cs:=[ai y26.2.1.k,ai y26.2.1.n,slv tmCells y26.2.1.sub .no]) codecT (by rw[tm_eq];rfl) h32)<|oA 2 (ixM23 (b:=4) (c:=q10) (z:=3) h5)<|oK 1 [] h30 (c89 h29) k
  rcases spl h with⟨h33,h⟩|⟨h33,h⟩
  obtain rfl:=sj h
  exact fun j=>lF 0 [0,1,2,3,4] (oD (dT ([]:List Tm))<|oD (dT x31)<|oD (dC q2)<|oD (dE q1)<|oD (dI q4)<|oD (dI q3)<|oD (dE q0)<|oB 0 h33 k)
  have k:=oB 0 h33 k
  rcases spl h with⟨h34,h⟩|⟨h34,h⟩
  obtain rfl:=sj h
  exact fun j=>lF 0 [0,1,2,3,4] (oD (dT ([]:List Tm))<|oD (dT x31)<|oD (dC q2)<|oD (dE q1)<|oD (dI q4)<|oD (dI q3)<|oD (dE q0)<|oB 1 h34 k)
  exact fun j=>lH 1 [] [0,1,2,3,4,5,7] [] [0,2,8,13,14,15] (oD (dPatternPat p1)<|oD (dT y26.2.2.2.2.2.1)<|oD (dT x31)<|oD (dC q2)<|oD (dE q1)<|oD (dI q4)<|oD (dI q3)<|oD (dE q0)<|oB 1 h34 k) (l121vaddLde _ _ _ _ _ _ _ _ _ _ _ _ _ _ _ _ _ h)
  obtain⟨x35,h36,h⟩:=obind h
  have k:=oW 0 (wtE (x:=y26.2.1) (cs:=[ai y26.2.1.k,ai y26.2.1.n,slv tmCells y26.2.1.sub .no]) codecT (by rw[tm_eq];rfl) h36)<|oA 3 (ixM23 (b:=4) (c:=q10) (z:=3) h5)<|oK 1 [] h30 (c89 h29) k
  rcases spl h with⟨h37,h⟩|⟨h37,h⟩
  obtain rfl:=sj h
  exact fun j=>lF 0 [0,1,2,3,4] (oD (dT ([]:List Tm))<|oD (dT x35)<|oD (dC q2)<|oD (dE q1)<|oD (dI q4)<|oD (dI q3)<|oD (dE q0)<|oB 0 h37 k)
  obtain rfl:=sj h
  exact fun j=>lF 2 [0,1,2,3,4] (oD (dT ([]:List Tm))<|oD (dT x35)<|oD (dC q2)<|oD (dE q1)<|oD (dI q4)<|oD (dI q3)<|oD (dE q0)<|oB 0 h37 k)
  obtain⟨x38,h39,h⟩:=obind h
  have k:=oW 0 (wtE (x:=y26.2.1) (cs:=[ai y26.2.1.k,ai y26.2.1.n,slv tmCells y26.2.1.sub .no]) codecT (by rw[tm_eq];rfl) h39)<|oA 1 (ixM23 (b:=4) (c:=q10) (z:=3) h5)<|oB 4 h27 k
  rcases spl h with⟨h40,h⟩|⟨h40,h⟩
  obtain rfl:=sj h
  exact fun j=>lF 0 [0,1,2,3,4] (oD (dT ([]:List Tm))<|oD (dT x38)<|oD (dC q2)<|oD (dE q1)<|oD (dI q4)<|oD (dI q3)<|oD (dE q0)<|oB 0 h40 k)
  have k:=oB 0 h40 k
  rcases spl h with⟨h41,h⟩|⟨h41,h⟩
  obtain rfl:=sj h
  exact fun j=>lF 0 [0,1,2,3,4] (oD (dT ([]:List Tm))<|oD (dT x38)<|oD (dC q2)<|oD (dE q1)<|oD (dI q4)<|oD (dI q3)<|oD (dE q0)<|oB 1 h41 k)
  exact fun j=>lH 1 [] [0,1,2,3,4,5,7] [] [0,2,8,13,14,15] (oD (dPatternPat p1)<|oD (dT y26.2.2.2.2.2.1)<|oD (dT x38)<|oD (dC q2)<|oD (dE q1)<|oD (dI q4)<|oD (dI q3)<|oD (dE q0)<|oB 1 h41 k) (l121vaddLde _ _ _ _ _ _ _ _ _ _ _ _ _ _ _ _ _ h)
  obtain rfl:=sj h
  exact fun j=>lF 1 [0,1,2,3,4] (oD (dT ([]:List Tm))<|oD (dT vb4_0)<|oD (dC q2)<|oD (dE q1)<|oD (dI q4)<|oD (dI q3)<|oD (dE q0)<|oB 0 h1 o0)
theorem c121vaddr{qq q0 q1 q2 q3 q4 q5 q6 q7 p1 q9 q10 r}(h:e121vadd qq q0 q1 q2 q3 q4 q5 q6 q7 p1 q9 q10=some r):(match (generalizing:=false) r with|Sum.inl x=>K121vadds0 q0 q1 q2 q3 q4 q5 q6 q7 p1 q9 q10 x Ct|Sum.inr x=>K121vadds1 q0 q1 q2 q3 q4 q5 q6 q7 p1 q9 q10 x Ct):=by
 unfold e121vadd at h
 rcases r with y0|y1
 exact k121vadds0 (tH q121vadd 1 [] [0,1,2,3,4,5] [] [0,2,8,13,14,15] (oD (dPatternPat p1)<|oD (dT ([]:List Tm))<|oD (dT q9)<|oD (dC q2)<|oD (dE q1)<|oD (dI q4)<|oD (dI q3)<|oD (dE q0) o0) (l121vaddLdf _ _ _ _ _ _ _ _ _ _ _ _ _ _ h))
 exact k121vadds1 (tH q121vadd 1 [] [0,1,2,3,4,5] [] [0,2,8,13,14,15] (oD (dPatternPat p1)<|oD (dT ([]:List Tm))<|oD (dT q9)<|oD (dC q2)<|oD (dE q1)<|oD (dI q4)<|oD (dI q3)<|oD (dE q0) o0) (l121vaddLdf _ _ _ _ _ _ _ _ _ _ _ _ _ _ h))
theorem c121vadd{qq q0 q1 q2 q3 q4 q5 q6 q7 p1 q9 q10 r}(h:e121vadd qq q0 q1 q2 q3 q4 q5 q6 q7 p1 q9 q10=some r):(match (generalizing:=false) r with|Sum.inl x=>CT Tryz.prog 121 [.cells [.mp 1 0,.mp 3 0,ai q7],.cells [slv entL q0 .no,.mp 2 0,slv intC q3 .no,slv intC q4 .no],.cells [slv entL q1 .no,slv conL q2 .no],.cells [ai q5,ai q6],.row (flat tmCells q9)] [.mp 0 0,slv patternPatC p1 .no,.ms 4 0 q10 q10 3] (.tup [ai x.1,.sl (flat tmCells x.2.1) (List.length x.2.1) .no]) [.cells [.mp 1 0,.mp 3 0,ai x.2.2.1],.cells [slv entL q0 .no,.mp 2 0,slv intC q3 .no,slv intC q4 .no],.cells [slv entL q1 .no,slv conL q2 .no],.cells [ai x.2.2.2.1,ai x.2.2.2.2.1],.row (flat tmCells x.2.2.2.2.2)] 0|Sum.inr x=>CT Tryz.prog 121 [.cells [.mp 1 0,.mp 3 0,ai q7],.cells [slv entL q0 .no,.mp 2 0,slv intC q3 .no,slv intC q4 .no],.cells [slv entL q1 .no,slv conL q2 .no],.cells [ai q5,ai q6],.row (flat tmCells q9)] [.mp 0 0,slv patternPatC p1 .no,.ms 4 0 q10 q10 3] (.tup [ai x.2.1,.sl (flat tmCells x.1) (List.length x.1) .no]) [.cells [.mp 1 0,.mp 3 0,ai x.2.2.2.1],.cells [slv entL q0 .no,.mp 2 0,slv intC q3 .no,slv intC q4 .no],.cells [slv entL q1 .no,slv conL q2 .no],.cells [ai x.2.2.2.2.1,ai x.2.2.2.2.2.1],.row (flat tmCells x.2.2.2.2.2.2)] 0):=by
 have k:=c121vaddr h
 rcases r with y0|y1
 ·exact k
 ·exact CT.freeze (H1:=[.cells [.mp 1 0,.mp 3 0,ai y1.2.2.2.1],.cells [slv entL q0 .no,.mp 2 0,slv intC q3 .no,slv intC q4 .no],.cells [slv entL q1 .no,slv conL q2 .no],.cells [ai y1.2.2.2.2.1,ai y1.2.2.2.2.2.1],.row (flat tmCells y1.2.2.2.2.2.2)]) (cs:=flat tmCells y1.1) (res':=(.tup [ai y1.2.1,.sl (flat tmCells y1.1) (List.length y1.1) .no])) k (Nat.le_of_ble_eq_true rfl) (forall_cons ⟨(lz rfl),(lz rfl),tv,tv⟩ (forall_cons ⟨dE _,(lz rfl),dI _,dI _,tv⟩ (forall_cons ⟨dE _,dC _,tv⟩ (forall_cons ⟨tv,tv,tv⟩ (forall_cons (dT _) forall_nil))))) (dT _) ⟨trivial,(.inl ⟨rfl,rfl⟩),tv⟩ (by rfl) rfl
def e54Ldg:Nat->Mach->Int->(List Tm)->Int->Int->Int->Int->Int->(List Tm)->Int->(List Tm)->Option ((ClauseDone×Int×Int×Int) ⊕ (List Tm×Int×Int×Int×List Tm×Int×Int×Int))
 |0,_,_,_,_,_,_,_,_,_,_,_=>none
 |qq+1,M,v35,v85,v86,vb2_0,vb2_1,vb4_2,vb4_3,vb4_4,v87,vb5_0=>
 if decide (v87<v86)then
 gidx v85 v87>>=fun x26=>
 e123 qq x26>>=fun r28=>
 gapp 40 vb5_0 [r28]>>=fun l30=>
 e54Ldg qq M v35 v85 v86 vb2_0 vb2_1 vb4_2 vb4_3 vb4_4 (w64 (v87+1)) l30
 else
 gfz (List.length vb5_0) vb5_0>>=fun l32=>
 some (Sum.inr (l32,v35,vb4_2,vb4_3,vb4_4,0,vb2_0,vb2_1))
def e54Ldh(qq:Nat)(M:Mach)(v35:Int)(v85:List Tm)(v86 v87 vb2_0 vb2_1 vb4_2 vb4_3:Int)(vb4_4:List Tm):Option ((ClauseDone×Int×Int×Int) ⊕ (List Tm×Int×Int×Int×List Tm×Int×Int×Int)):=
 if decide (v87<v86)then
 gidx v85 v87>>=fun x19=>
 e123 qq x19>>=fun r21=>
 gapp 40 ([]:List Tm) [r21]>>=fun l23=>
 e54Ldg qq M v35 v85 v86 vb2_0 vb2_1 vb4_2 vb4_3 vb4_4 (w64 (v87+1)) l23
 else
 some (Sum.inl ((ClauseDone.mk v35 [] (Tm.mk vb4_2 vb4_3 vb4_4)),0,vb2_0,vb2_1))
def e54Ldi:Nat->Mach->(List ClauseClause)->Int->Int->Int->Option ((ClauseDone×Int×Int×Int) ⊕ (List Tm×Int×Int×Int×List Tm×Int×Int×Int))
 |0,_,_,_,_,_=>none
 |qq+1,M,p1,fl,fu,v35=>
 if decide (v35<(List.length p1:Int))then
 gidx p1 v35>>=fun x8=>
 e121vadb qq M.l M.rl M.parts M.args M.own fl fu 0 x8.pats_ []>>=fun r10=>
 if r10.1==1 then
 e54Ldi qq M p1 fl fu (w64 (v35+1))
 else
 if r10.1==2 then
 some (Sum.inl ((ClauseDone.mk 0 [] (Tm.mk 0 0 [])),13,fl,fu))
 else
 if x8.has_ then
 e122 qq x8.body_ r10.2>>=fun r15=>
 if r15.2 != 0 then
 some (Sum.inl ((ClauseDone.mk 0 [] (Tm.mk 0 0 [])),r15.2,fl,fu))
 else
 e54Ldh qq M v35 r10.2 (List.length r10.2:Int) 0 fl fu r15.1.k r15.1.n r15.1.sub
 else
 some (Sum.inl ((ClauseDone.mk 0 [] (Tm.mk 0 0 [])),13,fl,fu))
 else
 some (Sum.inl ((ClauseDone.mk 0 [] (Tm.mk 0 0 [])),16,fl,fu))
def e54Ldj:Nat->Mach->(List ClauseClause)->(List Tm)->Int->Int->Int->Int->(List Tm)->Option ((ClauseDone×Int×Int×Int) ⊕ (List Tm×Int×Int×Int×List Tm×Int×Int×Int))
 |0,_,_,_,_,_,_,_,_=>none
 |qq+1,M,p1,y7,v35,vb2_0,vb2_1,vb4_2,vb5_0=>
 if decide (v35<(List.length p1:Int))then
 gidx p1 v35>>=fun x9=>
 e121vadd qq M.l M.rl M.parts M.args M.own vb2_0 vb2_1 vb4_2 x9.pats_ vb5_0 (List.length y7)>>=fun r11=>
 match r11 with
 |Sum.inl y13=>
  if y13.2.2.1 != 0 then
  some (Sum.inl ((ClauseDone.mk 0 [] (Tm.mk 0 0 [])),y13.2.2.1,y13.2.2.2.1,y13.2.2.2.2.1))
  else
  if y13.1==1 then
  e54Ldj qq M p1 y7 (w64 (v35+1)) y13.2.2.2.1 y13.2.2.2.2.1 y13.2.2.1 y13.2.2.2.2.2
  else
  if y13.1==2 then
  some (Sum.inl ((ClauseDone.mk 0 [] (Tm.mk 0 0 [])),13,y13.2.2.2.1,y13.2.2.2.2.1))
  else
  if x9.has_ then
  e122 qq x9.body_ y13.2.1>>=fun r18=>
  if r18.2 != 0 then
  some (Sum.inl ((ClauseDone.mk 0 [] (Tm.mk 0 0 [])),r18.2,y13.2.2.2.1,y13.2.2.2.2.1))
  else
  e54Ldh qq M v35 y13.2.1 (List.length y13.2.1:Int) 0 y13.2.2.2.1 y13.2.2.2.2.1 r18.1.k r18.1.n r18.1.sub
  else
  some (Sum.inl ((ClauseDone.mk 0 [] (Tm.mk 0 0 [])),13,y13.2.2.2.1,y13.2.2.2.2.1))
 |Sum.inr y21=>
  if y21.2.2.2.1 != 0 then
  some (Sum.inl ((ClauseDone.mk 0 [] (Tm.mk 0 0 [])),y21.2.2.2.1,y21.2.2.2.2.1,y21.2.2.2.2.2.1))
  else
  if y21.2.1==1 then
  e54Ldj qq M p1 y7 (w64 (v35+1)) y21.2.2.2.2.1 y21.2.2.2.2.2.1 y21.2.2.2.1 y21.2.2.2.2.2.2
  else
  if y21.2.1==2 then
  some (Sum.inl ((ClauseDone.mk 0 [] (Tm.mk 0 0 [])),13,y21.2.2.2.2.1,y21.2.2.2.2.2.1))
  else
  if x9.has_ then
  e122 qq x9.body_ y21.1>>=fun r26=>
  if r26.2 != 0 then
  some (Sum.inl ((ClauseDone.mk 0 [] (Tm.mk 0 0 [])),r26.2,y21.2.2.2.2.1,y21.2.2.2.2.2.1))
  else
  e54Ldh qq M v35 y21.1 (List.length y21.1:Int) 0 y21.2.2.2.2.1 y21.2.2.2.2.2.1 r26.1.k r26.1.n r26.1.sub
  else
  some (Sum.inl ((ClauseDone.mk 0 [] (Tm.mk 0 0 [])),13,y21.2.2.2.2.1,y21.2.2.2.2.2.1))
 else
 some (Sum.inl ((ClauseDone.mk 0 [] (Tm.mk 0 0 [])),16,vb2_0,vb2_1))
def e54(qq:Nat)(M:Mach)(p1:List ClauseClause)(p2:List Tm)(fl fu:Int):Option ((ClauseDone×Int×Int×Int) ⊕ (List Tm×Int×Int×Int×List Tm×Int×Int×Int)):=
 e119 qq M p1 p2>>=fun r1=>
 if r1 then
 e120vr qq p2>>=fun r4=>
 match r4 with
 |Sum.inl y6=>
  e54Ldi qq M p1 fl fu 0
 |Sum.inr y7=>
  e54Ldj qq M p1 y7 0 fl fu 0 y7
 else
 some (Sum.inl ((ClauseDone.mk 0 [] (Tm.mk 0 0 [])),5,fl,fu))
def g54LdiE0(j:Nat->Value)(M:Mach)(p1:List ClauseClause)(fl fu v35:Int):=sp j 102 0 [(8,.mp 3 0),(10,.mp 4 0),(11,slv tmCells ([]:List Tm) .full),(33,slv clauseClauseL p1 .no),(34,ai (List.length p1:Int)),(35,ai v35)]
def g54LdiS0(M:Mach)(p1:List ClauseClause)(fl fu v35:Int):LSt:=⟨[(0,mB M 1),(1,mR M),(2,.cells [ai fl,ai fu]),(3,.cells [ai 0,slv tmCells ([]:List Tm) .nl,ai 0,ai 0,slv tmCells ([]:List Tm) .nl]),(4,.cells [.mp 0 0,.mp 2 0,ai 0])],5,[],0,[]⟩
def g54LdhE0(j:Nat->Value)(M:Mach)(v35:Int)(v85:List Tm)(v86 v87 vb2_0 vb2_1 vb4_2 vb4_3:Int)(vb4_4:List Tm):=sp j 102 0 [(8,.mp 3 0),(18,.mp 4 0),(85,slv tmCells v85 .no),(86,ai v86),(87,ai v87)]
def g54LdhS0(M:Mach)(v35:Int)(v85:List Tm)(v86 v87 vb2_0 vb2_1 vb4_2 vb4_3:Int)(vb4_4:List Tm):LSt:=⟨[(0,mB M 1),(1,mR M),(2,.cells [ai vb2_0,ai vb2_1]),(3,.cells [ai 0,slv tmCells ([]:List Tm) .nl,ai 0,ai 0,slv tmCells ([]:List Tm) .nl]),(4,.cells [ai v35,slv tmCells ([]:List Tm) .nl,ai vb4_2,ai vb4_3,slv tmCells vb4_4 .no])],5,[],0,[]⟩
def g54LdgE0(j:Nat->Value)(M:Mach)(v35:Int)(v85:List Tm)(v86 vb2_0 vb2_1 vb4_2 vb4_3:Int)(vb4_4:List Tm)(v87:Int)(vb5_0:List Tm):=sp j 102 0 [(8,.mp 3 0),(18,.mp 4 0),(85,slv tmCells v85 .no),(86,ai v86),(87,ai v87)]
def g54LdgS0(M:Mach)(v35:Int)(v85:List Tm)(v86 vb2_0 vb2_1 vb4_2 vb4_3:Int)(vb4_4:List Tm)(v87:Int)(vb5_0:List Tm):LSt:=⟨[(0,mB M 1),(1,mR M),(2,.cells [ai vb2_0,ai vb2_1]),(3,.cells [ai 0,slv tmCells ([]:List Tm) .nl,ai 0,ai 0,slv tmCells ([]:List Tm) .nl]),(4,.cells [ai v35,.ms 5 0 (List.length vb5_0) (List.length vb5_0) 3,ai vb4_2,ai vb4_3,slv tmCells vb4_4 .no]),(5,.row (flat tmCells vb5_0))],6,[],0,[]⟩
def g54LdjE0(j:Nat->Value)(M:Mach)(p1:List ClauseClause)(y7:List Tm)(v35 vb2_0 vb2_1 vb4_2:Int)(vb5_0:List Tm):=sp j 102 0 [(8,.mp 3 0),(10,.mp 4 0),(11,.ms 5 0 (List.length y7) (List.length y7) 3),(33,slv clauseClauseL p1 .no),(34,ai (List.length p1:Int)),(35,ai v35)]
def g54LdjS0(M:Mach)(p1:List ClauseClause)(y7:List Tm)(v35 vb2_0 vb2_1 vb4_2:Int)(vb5_0:List Tm):LSt:=⟨[(0,mB M 1),(1,mR M),(2,.cells [ai vb2_0,ai vb2_1]),(3,.cells [ai 0,slv tmCells ([]:List Tm) .nl,ai 0,ai 0,slv tmCells ([]:List Tm) .nl]),(4,.cells [.mp 0 0,.mp 2 0,ai vb4_2]),(5,.row (flat tmCells vb5_0))],6,[],0,[]⟩
abbrev K54s0 (M:Mach) (p1:List ClauseClause) (p2:List Tm) (fl fu:Int) (r:ClauseDone×Int×Int×Int) (C:Cf):Prop:=C 54 [mB M 1,mR M,.cells [ai fl,ai fu]] [.mp 0 0,slv clauseClauseL p1 .no,slv tmCells p2 .no,.mp 2 0] (.tup [clauseDoneA r.1,ai r.2.1]) [mB M 1,mR M,.cells [ai r.2.2.1,ai r.2.2.2]] 0
abbrev K54s1 (M:Mach) (p1:List ClauseClause) (p2:List Tm) (fl fu:Int) (r:List Tm×Int×Int×Int×List Tm×Int×Int×Int) (C:Cf):Prop:=C 54 [mB M 1,mR M,.cells [ai fl,ai fu]] [.mp 0 0,slv clauseClauseL p1 .no,slv tmCells p2 .no,.mp 2 0] (.tup [.agg [ai r.2.1,.ms 3 0 (List.length r.1) (List.length r.1) 3,ai r.2.2.1,ai r.2.2.2.1,slv tmCells r.2.2.2.2.1 .no],ai r.2.2.2.2.2.1]) [mB M 1,mR M,.cells [ai r.2.2.2.2.2.2.1,ai r.2.2.2.2.2.2.2],.row (flat tmCells r.1)] 0
theorem q54:Qf 54 Tryz.f54:=⟨Tryz.func54,by kernel_rfl⟩
theorem k54s0{M p1 p2 fl fu r}(h:K54s0 M p1 p2 fl fu r Ci):K54s0 M p1 p2 fl fu r Ct:=⟨h,⟨(lz rfl),⟨tv,dClauseClause _⟩,⟨tv,dT _⟩,(lz rfl),tv⟩,(forall_cons ⟨⟨tv,dE _⟩,(lz rfl),⟨tv,dI _⟩,⟨tv,dI _⟩,tv⟩ (forall_cons ⟨⟨tv,dE _⟩,⟨tv,dC _⟩,tv⟩ (forall_cons ⟨tv,tv,tv⟩ forall_nil))),⟨⟨tv,dT _,tv,tv,dT _,tv⟩,tv,tv⟩,(forall_cons ⟨dE _,(lz rfl),dI _,dI _,tv⟩ (forall_cons ⟨dE _,dC _,tv⟩ (forall_cons ⟨tv,tv,tv⟩ forall_nil)))⟩
theorem k54s1{M p1 p2 fl fu r}(h:K54s1 M p1 p2 fl fu r Ci):K54s1 M p1 p2 fl fu r Ct:=⟨h,⟨(lz rfl),⟨tv,dClauseClause _⟩,⟨tv,dT _⟩,(lz rfl),tv⟩,(forall_cons ⟨⟨tv,dE _⟩,(lz rfl),⟨tv,dI _⟩,⟨tv,dI _⟩,tv⟩ (forall_cons ⟨⟨tv,dE _⟩,⟨tv,dC _⟩,tv⟩ (forall_cons ⟨tv,tv,tv⟩ forall_nil))),⟨⟨tv,(lz rfl),tv,tv,dT _,tv⟩,tv,tv⟩,(forall_cons ⟨dE _,(lz rfl),dI _,dI _,tv⟩ (forall_cons ⟨dE _,dC _,tv⟩ (forall_cons ⟨tv,tv,tv⟩ (forall_cons (dT _) forall_nil))))⟩
theorem l54Ldg:∀qq:Nat,(∀M v35 v85 v86 vb2_0 vb2_1 vb4_2 vb4_3 vb4_4 v87 vb5_0 r,e54Ldg qq M v35 v85 v86 vb2_0 vb2_1 vb4_2 vb4_3 vb4_4 v87 vb5_0=some r->(∀j,Dl Tryz.prog 3 (inn (inn (rgt (lft (rgt (rgt (rgt (rgt (rgt (rgt (inn (lft (rgt (rgt (inn (inn (rgt (lft (rgt (rgt (rgt (rgt (inn (rgt (bod Tryz.f54))))))))))))))))))))))))) (g54LdgE0 j M v35 v85 v86 vb2_0 vb2_1 vb4_2 vb4_3 vb4_4 v87 vb5_0) (g54LdgS0 M v35 v85 v86 vb2_0 vb2_1 vb4_2 vb4_3 vb4_4 v87 vb5_0) (frameQ Tryz.prog 3 ((match (generalizing:=false) r with|Sum.inl x=>FinQ Tryz.prog 3 Tryz.f54 (.tup [clauseDoneA x.1,ai x.2.1]) [mB M 1,mR M,.cells [ai x.2.2.1,ai x.2.2.2]] 0|Sum.inr x=>FinQ Tryz.prog 3 Tryz.f54 (.tup [.agg [ai x.2.1,.ms 3 0 (List.length x.1) (List.length x.1) 3,ai x.2.2.1,ai x.2.2.2.1,slv tmCells x.2.2.2.2.1 .no],ai x.2.2.2.2.2.1]) [mB M 1,mR M,.cells [ai x.2.2.2.2.2.2.1,ai x.2.2.2.2.2.2.2],.row (flat tmCells x.1)] 0)) [.blk 3,.seq (rgt (rgt (rgt (rgt (rgt (rgt (rgt (inn (lft (rgt (rgt (inn (inn (rgt (lft (rgt (rgt (rgt (rgt (inn (rgt (bod Tryz.f54)))))))))))))))))))))),.blk 1,.seq (rgt (rgt (rgt (inn (inn (rgt (lft (rgt (rgt (rgt (rgt (inn (rgt (bod Tryz.f54)))))))))))))),.loop (inn (inn (rgt (lft (rgt (rgt (rgt (rgt (inn (rgt (bod Tryz.f54))))))))))),.blk 0,.seq (rgt (rgt (rgt (rgt (rgt (inn (rgt (bod Tryz.f54))))))))]))):=by
 intro qq
 induction qq with
 |zero=>
  exact fun _ _ _ _ _ _ _ _ _ _ _ _ h=>nn h
 |succ qq ih=>
  intro M v35 v85 v86 vb2_0 vb2_1 vb4_2 vb4_3 vb4_4 v87 vb5_0 r h
  rw[e54Ldg]at h
  rcases spl h with⟨h25,h⟩|⟨h25,h⟩
  obtain⟨x26,h27,h⟩:=obind h
  obtain⟨r28,h29,h⟩:=obind h
  obtain⟨l30,h31,h⟩:=obind h
  exact fun j=>lH 2 [] [0,1,2,3,4,7] [] [8,18,85,86,87] (oD (dT v85)<|oD (dT l30)<|oD (dT vb4_4)<|oD (dT ([]:List Tm))<|oD (dT ([]:List Tm))<|oD (dC M.parts)<|oD (dE M.rl)<|oD (dI M.own)<|oD (dI M.args)<|oD (dE M.l)<|oM 0 (apR23 h31 (by simp))<|oS 0 (obLitR tm_eq [r28])<|oC 4 [] (c123 h29)<|oA 0 (ix23 (o:=.no) h27)<|oB 0 h25 o0) (ih _ _ _ _ _ _ _ _ _ _ _ _ h)
  obtain⟨l32,h33,h⟩:=obind h
  obtain⟨h33a,h33b⟩:=gfz_spec h33
  obtain rfl:=sj h
  obtain rfl:=h33a.symm
  dsimp only
  rw[←h33b]
  exact fun j=>lF 2 [0,1,2,5] (oD (dT vb4_4)<|oD (dT vb5_0)<|oD (dC M.parts)<|oD (dE M.rl)<|oD (dI M.own)<|oD (dI M.args)<|oD (dE M.l)<|oB 0 h25 o0)
theorem l54Ldh(qq M v35 v85 v86 v87 vb2_0 vb2_1 vb4_2 vb4_3 vb4_4 r)(h:e54Ldh qq M v35 v85 v86 v87 vb2_0 vb2_1 vb4_2 vb4_3 vb4_4=some r):(∀j,Dl Tryz.prog 3 (inn (inn (rgt (lft (rgt (rgt (rgt (rgt (rgt (rgt (inn (lft (rgt (rgt (inn (inn (rgt (lft (rgt (rgt (rgt (rgt (inn (rgt (bod Tryz.f54))))))))))))))))))))))))) (g54LdhE0 j M v35 v85 v86 v87 vb2_0 vb2_1 vb4_2 vb4_3 vb4_4) (g54LdhS0 M v35 v85 v86 v87 vb2_0 vb2_1 vb4_2 vb4_3 vb4_4) (frameQ Tryz.prog 3 ((match (generalizing:=false) r with|Sum.inl x=>FinQ Tryz.prog 3 Tryz.f54 (.tup [clauseDoneA x.1,ai x.2.1]) [mB M 1,mR M,.cells [ai x.2.2.1,ai x.2.2.2]] 0|Sum.inr x=>FinQ Tryz.prog 3 Tryz.f54 (.tup [.agg [ai x.2.1,.ms 3 0 (List.length x.1) (List.length x.1) 3,ai x.2.2.1,ai x.2.2.2.1,slv tmCells x.2.2.2.2.1 .no],ai x.2.2.2.2.2.1]) [mB M 1,mR M,.cells [ai x.2.2.2.2.2.2.1,ai x.2.2.2.2.2.2.2],.row (flat tmCells x.1)] 0)) [.blk 3,.seq (rgt (rgt (rgt (rgt (rgt (rgt (rgt (inn (lft (rgt (rgt (inn (inn (rgt (lft (rgt (rgt (rgt (rgt (inn (rgt (bod Tryz.f54)))))))))))))))))))))),.blk 1,.seq (rgt (rgt (rgt (inn (inn (rgt (lft (rgt (rgt (rgt (rgt (inn (rgt (bod Tryz.f54)))))))))))))),.loop (inn (inn (rgt (lft (rgt (rgt (rgt (rgt (inn (rgt (bod Tryz.f54))))))))))),.blk 0,.seq (rgt (rgt (rgt (rgt (rgt (inn (rgt (bod Tryz.f54))))))))])):=by
 unfold e54Ldh at h
 rcases spl h with⟨h18,h⟩|⟨h18,h⟩
 obtain⟨x19,h20,h⟩:=obind h
 obtain⟨r21,h22,h⟩:=obind h
 obtain⟨l23,h24,h⟩:=obind h
 exact fun j=>lH 2 [] [0,1,2,3,4,6] [] [8,18,85,86,87] (oD (dT v85)<|oD (dT l23)<|oD (dT vb4_4)<|oD (dT ([]:List Tm))<|oD (dT ([]:List Tm))<|oD (dC M.parts)<|oD (dE M.rl)<|oD (dI M.own)<|oD (dI M.args)<|oD (dE M.l)<|oM 0 (apW23 h24 (by simp))<|oS 0 (obLitR tm_eq [r21])<|oC 4 [] (c123 h22)<|oA 0 (ix23 (o:=.no) h20)<|oB 0 h18 o0) (l54Ldg _ _ _ _ _ _ _ _ _ _ _ _ _ h)
 obtain rfl:=sj h
 exact fun j=>lF 2 [0,1,2] (oD (dT vb4_4)<|oD (dT ([]:List Tm))<|oD (dC M.parts)<|oD (dE M.rl)<|oD (dI M.own)<|oD (dI M.args)<|oD (dE M.l)<|oB 0 h18 o0)
theorem l54Ldi:∀qq:Nat,(∀M p1 fl fu v35 r,e54Ldi qq M p1 fl fu v35=some r->(∀j,Dl Tryz.prog 3 (inn (inn (rgt (lft (rgt (rgt (rgt (rgt (inn (rgt (bod Tryz.f54))))))))))) (g54LdiE0 j M p1 fl fu v35) (g54LdiS0 M p1 fl fu v35) (frameQ Tryz.prog 3 ((match (generalizing:=false) r with|Sum.inl x=>FinQ Tryz.prog 3 Tryz.f54 (.tup [clauseDoneA x.1,ai x.2.1]) [mB M 1,mR M,.cells [ai x.2.2.1,ai x.2.2.2]] 0|Sum.inr x=>FinQ Tryz.prog 3 Tryz.f54 (.tup [.agg [ai x.2.1,.ms 3 0 (List.length x.1) (List.length x.1) 3,ai x.2.2.1,ai x.2.2.2.1,slv tmCells x.2.2.2.2.1 .no],ai x.2.2.2.2.2.1]) [mB M 1,mR M,.cells [ai x.2.2.2.2.2.2.1,ai x.2.2.2.2.2.2.2],.row (flat tmCells x.1)] 0)) [.blk 0,.seq (rgt (rgt (rgt (rgt (rgt (inn (rgt (bod Tryz.f54))))))))]))):=by
 intro qq
 induction qq with
 |zero=>
  exact fun _ _ _ _ _ _ h=>nn h
 |succ qq ih=>
  intro M p1 fl fu v35 r h
  rw[e54Ldi]at h
  rcases spl h with⟨h7,h⟩|⟨h7,h⟩
  obtain⟨x8,h9,h⟩:=obind h
  obtain⟨r10,h11,h⟩:=obind h
  have k:=oC 3 [4,0,1,2] (c121vadb h11)<|oA 0 (ix91 (o:=.no) h9)<|oB 0 h7 o0
  rcases spl h with⟨h12,h⟩|⟨h12,h⟩
  exact fun j=>lH 1 [] [0,1,2,3,4] [] [8,10,11,33,34,35] (oD (dClauseClause p1)<|oD (dT ([]:List Tm))<|oD (dT ([]:List Tm))<|oD (dT ([]:List Tm))<|oD (dC M.parts)<|oD (dE M.rl)<|oD (dI M.own)<|oD (dI M.args)<|oD (dE M.l)<|oB 4 h12 k) (ih _ _ _ _ _ _ h)
  have k:=oB 4 h12 k
  rcases spl h with⟨h13,h⟩|⟨h13,h⟩
  obtain rfl:=sj h
  exact fun j=>lF 1 [0,1,2] (oD (dT ([]:List Tm))<|oD (dT ([]:List Tm))<|oD (dC M.parts)<|oD (dE M.rl)<|oD (dI M.own)<|oD (dI M.args)<|oD (dE M.l)<|oB 0 h13 k)
  have k:=oB 0 h13 k
  rcases spl h with⟨h14,h⟩|⟨h14,h⟩
  obtain⟨r15,h16,h⟩:=obind h
  have k:=oC 2 [] (c122 h16)<|oB 0 h14 k
  rcases spl h with⟨h17,h⟩|⟨h17,h⟩
  obtain rfl:=sj h
  exact fun j=>lF 1 [0,1,2] (oD (dT ([]:List Tm))<|oD (dT ([]:List Tm))<|oD (dC M.parts)<|oD (dE M.rl)<|oD (dI M.own)<|oD (dI M.args)<|oD (dE M.l)<|oB 3 h17 k)
  exact fun j=>lH 3 [] [0,1,2,3,7] [] [8,18,85,86,87] (oD (dT r10.2)<|oD (dT r15.1.sub)<|oD (dT ([]:List Tm))<|oD (dT ([]:List Tm))<|oD (dT ([]:List Tm))<|oD (dC M.parts)<|oD (dE M.rl)<|oD (dI M.own)<|oD (dI M.args)<|oD (dE M.l)<|oB 3 h17 k) (l54Ldh qq _ _ _ _ _ _ _ _ _ _ _ h)
  obtain rfl:=sj h
  exact fun j=>lF 2 [0,1,2] (oD (dT ([]:List Tm))<|oD (dT ([]:List Tm))<|oD (dC M.parts)<|oD (dE M.rl)<|oD (dI M.own)<|oD (dI M.args)<|oD (dE M.l)<|oB 0 h14 k)
  obtain rfl:=sj h
  exact fun j=>lF 1 [0,1,2] (oD (dT ([]:List Tm))<|oD (dT ([]:List Tm))<|oD (dC M.parts)<|oD (dE M.rl)<|oD (dI M.own)<|oD (dI M.args)<|oD (dE M.l)<|oB 0 h7 o0)
theorem l54Ldj:∀qq:Nat,(∀M p1 y7 v35 vb2_0 vb2_1 vb4_2 vb5_0 r,e54Ldj qq M p1 y7 v35 vb2_0 vb2_1 vb4_2 vb5_0=some r->(∀j,Dl Tryz.prog 3 (inn (inn (rgt (lft (rgt (rgt (rgt (rgt (inn (rgt (bod Tryz.f54))))))))))) (g54LdjE0 j M p1 y7 v35 vb2_0 vb2_1 vb4_2 vb5_0) (g54LdjS0 M p1 y7 v35 vb2_0 vb2_1 vb4_2 vb5_0) (frameQ Tryz.prog 3 ((match (generalizing:=false) r with|Sum.inl x=>FinQ Tryz.prog 3 Tryz.f54 (.tup [clauseDoneA x.1,ai x.2.1]) [mB M 1,mR M,.cells [ai x.2.2.1,ai x.2.2.2]] 0|Sum.inr x=>FinQ Tryz.prog 3 Tryz.f54 (.tup [.agg [ai x.2.1,.ms 3 0 (List.length x.1) (List.length x.1) 3,ai x.2.2.1,ai x.2.2.2.1,slv tmCells x.2.2.2.2.1 .no],ai x.2.2.2.2.2.1]) [mB M 1,mR M,.cells [ai x.2.2.2.2.2.2.1,ai x.2.2.2.2.2.2.2],.row (flat tmCells x.1)] 0)) [.blk 0,.seq (rgt (rgt (rgt (rgt (rgt (inn (rgt (bod Tryz.f54))))))))]))):=by
 intro qq
 induction qq with
 |zero=>
  exact fun _ _ _ _ _ _ _ _ _ h=>nn h
 |succ qq ih=>
  intro M p1 y7 v35 vb2_0 vb2_1 vb4_2 vb5_0 r h
  rw[e54Ldj]at h
  rcases spl h with⟨h8,h⟩|⟨h8,h⟩
  obtain⟨x9,h10,h⟩:=obind h
  obtain⟨r11,h12,h⟩:=obind h
  have k:=oA 0 (ix91 (o:=.no) h10)<|oB 0 h8 o0
  rcases r11 with y13|y21
  dsimp only at h
  have k:=oC 3 [4,0,1,2,5] (c121vadd h12) k
  rcases spl h with⟨h14,h⟩|⟨h14,h⟩
  obtain rfl:=sj h
  exact fun j=>lF 2 [0,1,2] (oD (dT ([]:List Tm))<|oD (dT ([]:List Tm))<|oD (dC M.parts)<|oD (dE M.rl)<|oD (dI M.own)<|oD (dI M.args)<|oD (dE M.l)<|oB 3 h14 k)
  have k:=oB 3 h14 k
  rcases spl h with⟨h15,h⟩|⟨h15,h⟩
  exact fun j=>lH 1 [] [0,1,2,3,4,5] [] [8,10,11,33,34,35] (oD (dClauseClause p1)<|oD (dT y13.2.2.2.2.2)<|oD (dT ([]:List Tm))<|oD (dT ([]:List Tm))<|oD (dC M.parts)<|oD (dE M.rl)<|oD (dI M.own)<|oD (dI M.args)<|oD (dE M.l)<|oB 0 h15 k) (ih _ _ _ _ _ _ _ _ _ h)
  have k:=oB 0 h15 k
  rcases spl h with⟨h16,h⟩|⟨h16,h⟩
  obtain rfl:=sj h
  exact fun j=>lF 1 [0,1,2] (oD (dT ([]:List Tm))<|oD (dT ([]:List Tm))<|oD (dC M.parts)<|oD (dE M.rl)<|oD (dI M.own)<|oD (dI M.args)<|oD (dE M.l)<|oB 0 h16 k)
  have k:=oB 0 h16 k
  rcases spl h with⟨h17,h⟩|⟨h17,h⟩
  obtain⟨r18,h19,h⟩:=obind h
  have k:=oC 2 [] (c122 h19)<|oB 0 h17 k
  rcases spl h with⟨h20,h⟩|⟨h20,h⟩
  obtain rfl:=sj h
  exact fun j=>lF 1 [0,1,2] (oD (dT ([]:List Tm))<|oD (dT ([]:List Tm))<|oD (dC M.parts)<|oD (dE M.rl)<|oD (dI M.own)<|oD (dI M.args)<|oD (dE M.l)<|oB 3 h20 k)
  exact fun j=>lH 3 [] [0,1,2,3,8] [] [8,18,85,86,87] (oD (dT y13.2.1)<|oD (dT r18.1.sub)<|oD (dT ([]:List Tm))<|oD (dT ([]:List Tm))<|oD (dT ([]:List Tm))<|oD (dC M.parts)<|oD (dE M.rl)<|oD (dI M.own)<|oD (dI M.args)<|oD (dE M.l)<|oB 3 h20 k) (l54Ldh qq _ _ _ _ _ _ _ _ _ _ _ h)
  obtain rfl:=sj h
  exact fun j=>lF 2 [0,1,2] (oD (dT ([]:List Tm))<|oD (dT ([]:List Tm))<|oD (dC M.parts)<|oD (dE M.rl)<|oD (dI M.own)<|oD (dI M.args)<|oD (dE M.l)<|oB 0 h17 k)
  dsimp only at h
  have k:=oC 3 [4,0,1,2,5] (c121vadd h12) k
  rcases spl h with⟨h22,h⟩|⟨h22,h⟩
  obtain rfl:=sj h
  exact fun j=>lF 2 [0,1,2] (oD (dT ([]:List Tm))<|oD (dT ([]:List Tm))<|oD (dC M.parts)<|oD (dE M.rl)<|oD (dI M.own)<|oD (dI M.args)<|oD (dE M.l)<|oB 3 h22 k)
  have k:=oB 3 h22 k
  rcases spl h with⟨h23,h⟩|⟨h23,h⟩
  exact fun j=>lH 1 [] [0,1,2,3,4,5] [] [8,10,11,33,34,35] (oD (dClauseClause p1)<|oD (dT y21.2.2.2.2.2.2)<|oD (dT ([]:List Tm))<|oD (dT ([]:List Tm))<|oD (dC M.parts)<|oD (dE M.rl)<|oD (dI M.own)<|oD (dI M.args)<|oD (dE M.l)<|oB 0 h23 k) (ih _ _ _ _ _ _ _ _ _ h)
  have k:=oB 0 h23 k
  rcases spl h with⟨h24,h⟩|⟨h24,h⟩
  obtain rfl:=sj h
  exact fun j=>lF 1 [0,1,2] (oD (dT ([]:List Tm))<|oD (dT ([]:List Tm))<|oD (dC M.parts)<|oD (dE M.rl)<|oD (dI M.own)<|oD (dI M.args)<|oD (dE M.l)<|oB 0 h24 k)
  have k:=oB 0 h24 k
  rcases spl h with⟨h25,h⟩|⟨h25,h⟩
  obtain⟨r26,h27,h⟩:=obind h
  have k:=oC 2 [] (c122 h27)<|oB 0 h25 k
  rcases spl h with⟨h28,h⟩|⟨h28,h⟩
  obtain rfl:=sj h
  exact fun j=>lF 1 [0,1,2] (oD (dT ([]:List Tm))<|oD (dT ([]:List Tm))<|oD (dC M.parts)<|oD (dE M.rl)<|oD (dI M.own)<|oD (dI M.args)<|oD (dE M.l)<|oB 3 h28 k)
  exact fun j=>lH 3 [] [0,1,2,3,8] [] [8,18,85,86,87] (oD (dT y21.1)<|oD (dT r26.1.sub)<|oD (dT ([]:List Tm))<|oD (dT ([]:List Tm))<|oD (dT ([]:List Tm))<|oD (dC M.parts)<|oD (dE M.rl)<|oD (dI M.own)<|oD (dI M.args)<|oD (dE M.l)<|oB 3 h28 k) (l54Ldh qq _ _ _ _ _ _ _ _ _ _ _ h)
  obtain rfl:=sj h
  exact fun j=>lF 2 [0,1,2] (oD (dT ([]:List Tm))<|oD (dT ([]:List Tm))<|oD (dC M.parts)<|oD (dE M.rl)<|oD (dI M.own)<|oD (dI M.args)<|oD (dE M.l)<|oB 0 h25 k)
  obtain rfl:=sj h
  exact fun j=>lF 1 [0,1,2] (oD (dT ([]:List Tm))<|oD (dT ([]:List Tm))<|oD (dC M.parts)<|oD (dE M.rl)<|oD (dI M.own)<|oD (dI M.args)<|oD (dE M.l)<|oB 0 h8 o0)
theorem c54r{qq M p1 p2 fl fu r}(h:e54 qq M p1 p2 fl fu=some r):(match (generalizing:=false) r with|Sum.inl x=>K54s0 M p1 p2 fl fu x Ct|Sum.inr x=>K54s1 M p1 p2 fl fu x Ct):=by
 unfold e54 at h
 obtain⟨r1,h2,h⟩:=obind h
 rcases spl h with⟨h3,h⟩|⟨h3,h⟩
 obtain⟨r4,h5,h⟩:=obind h
 have k:=oK 0 [0,1] h3 (c119 h2) o0
 rcases r4 with y6|y7
 dsimp only at h
 rcases r with y0|y1
 exact k54s0 (tH q54 1 [] [0,1,2,3,4] [] [8,10,11,33,34,35] (oD (dClauseClause p1)<|oD (dT ([]:List Tm))<|oD (dT ([]:List Tm))<|oD (dT ([]:List Tm))<|oD (dC M.parts)<|oD (dE M.rl)<|oD (dI M.own)<|oD (dI M.args)<|oD (dE M.l)<|oC 1 [] (c120vr h5) k) (l54Ldi _ _ _ _ _ _ _ h))
 exact k54s1 (tH q54 1 [] [0,1,2,3,4] [] [8,10,11,33,34,35] (oD (dClauseClause p1)<|oD (dT ([]:List Tm))<|oD (dT ([]:List Tm))<|oD (dT ([]:List Tm))<|oD (dC M.parts)<|oD (dE M.rl)<|oD (dI M.own)<|oD (dI M.args)<|oD (dE M.l)<|oC 1 [] (c120vr h5) k) (l54Ldi _ _ _ _ _ _ _ h))
 dsimp only at h
 rcases r with y0|y1
 exact k54s0 (tH q54 1 [] [0,1,2,3,4,5] [] [8,10,11,33,34,35] (oD (dClauseClause p1)<|oD (dT y7)<|oD (dT ([]:List Tm))<|oD (dT ([]:List Tm))<|oD (dC M.parts)<|oD (dE M.rl)<|oD (dI M.own)<|oD (dI M.args)<|oD (dE M.l)<|oC 1 [] (c120vr h5) k) (l54Ldj _ _ _ _ _ _ _ _ _ _ h))
 exact k54s1 (tH q54 1 [] [0,1,2,3,4,5] [] [8,10,11,33,34,35] (oD (dClauseClause p1)<|oD (dT y7)<|oD (dT ([]:List Tm))<|oD (dT ([]:List Tm))<|oD (dC M.parts)<|oD (dE M.rl)<|oD (dI M.own)<|oD (dI M.args)<|oD (dE M.l)<|oC 1 [] (c120vr h5) k) (l54Ldj _ _ _ _ _ _ _ _ _ _ h))
 obtain rfl:=sj h
 exact k54s0 (tF q54 2 [0,1,2] (oD (dT ([]:List Tm))<|oD (dT ([]:List Tm))<|oD (dC M.parts)<|oD (dE M.rl)<|oD (dI M.own)<|oD (dI M.args)<|oD (dE M.l)<|oK 0 [0,1] h3 (c119 h2) o0))
theorem c54{qq M p1 p2 fl fu r}(h:e54 qq M p1 p2 fl fu=some r):(match (generalizing:=false) r with|Sum.inl x=>CT Tryz.prog 54 [mB M 1,mR M,.cells [ai fl,ai fu]] [.mp 0 0,slv clauseClauseL p1 .no,slv tmCells p2 .no,.mp 2 0] (.tup [clauseDoneA x.1,ai x.2.1]) [mB M 1,mR M,.cells [ai x.2.2.1,ai x.2.2.2]] 0|Sum.inr x=>CT Tryz.prog 54 [mB M 1,mR M,.cells [ai fl,ai fu]] [.mp 0 0,slv clauseClauseL p1 .no,slv tmCells p2 .no,.mp 2 0] (.tup [clauseDoneA (ClauseDone.mk x.2.1 x.1 (Tm.mk x.2.2.1 x.2.2.2.1 x.2.2.2.2.1)),ai x.2.2.2.2.2.1]) [mB M 1,mR M,.cells [ai x.2.2.2.2.2.2.1,ai x.2.2.2.2.2.2.2]] 0):=by
 have k:=c54r h
 rcases r with y0|y1
 ·exact k
 ·exact CT.freeze (H1:=[mB M 1,mR M,.cells [ai y1.2.2.2.2.2.2.1,ai y1.2.2.2.2.2.2.2]]) (cs:=flat tmCells y1.1) (res':=(.tup [clauseDoneA (ClauseDone.mk y1.2.1 y1.1 (Tm.mk y1.2.2.1 y1.2.2.2.1 y1.2.2.2.2.1)),ai y1.2.2.2.2.2.1])) k (Nat.le_of_ble_eq_true rfl) (forall_cons ⟨dE _,(lz rfl),dI _,dI _,tv⟩ (forall_cons ⟨dE _,dC _,tv⟩ (forall_cons ⟨tv,tv,tv⟩ forall_nil))) (dT _) ⟨⟨trivial,(.inl ⟨rfl,rfl⟩),trivial,trivial,dT _,tv⟩,trivial,tv⟩ (by rfl) rfl
abbrev RRW:=(Int×List Tm×Int×Int×Int×List Tm) ⊕ (List Tm×Int×Nat×Int×Int×Int×List Tm)
def Shs(l:List Tm):Prop:=∀x∈l,shapedT x=true
theorem shs_set{l:List Tm}(h:Shs l)(k:Nat){x:Tm}(hx:shapedT x=true):Shs (l.set k x):=fun y hy=>by
 rcases List.mem_or_eq_of_mem_set hy with h'|rfl
 ·exact h y h'
 ·exact hx
section
variable {N:ByteArray->Bool} (l:List Ent) (hE:AllE N l) (he:∀e∈l,EOk e)
include hE he in
abbrev R54:=(ClauseDone×Int×Int×Int) ⊕ (List Tm×Int×Int×Int×List Tm×Int×Int×Int)
def er54:R54->Int
 | .inl y=>y.2.1
 | .inr y=>y.2.2.2.2.2.1
include hE he
end
def e170(qq:Nat)(p0 p1:Int):Option (Tm):=
 some (Tm.mk p0 p1 [])
abbrev K170 (p0 p1:Int) (r:Tm) (C:Cf):Prop:=C 170 [] [ai p0,ai p1] (tmA r) [] 0
theorem q170:Qf 170 Tryz.f170:=⟨Tryz.func170,by kernel_rfl⟩
theorem k170{p0 p1 r}(h:K170 p0 p1 r Ci):K170 p0 p1 r Ct:=⟨h,⟨tv,tv,tv⟩,forall_nil,⟨tv,tv,dT _,tv⟩,forall_nil⟩
theorem c170{qq p0 p1 r}(h:e170 qq p0 p1=some r):K170 p0 p1 r Ct:=by
 unfold e170 at h
 obtain rfl:=sj h
 exact k170 (tF q170 1 [] (oD (dT ([]:List Tm)) o0))
def e100(qq:Nat)(p0:Int):Option (Tm):=
 e170 qq 1 p0>>=fun r1=>
 some r1
abbrev K100 (p0:Int) (r:Tm) (C:Cf):Prop:=C 100 [] [ai p0] (tmA r) [] 0
theorem q100:Qf 100 Tryz.f100:=⟨Tryz.func100,by kernel_rfl⟩
theorem k100{p0 r}(h:K100 p0 r Ci):K100 p0 r Ct:=⟨h,⟨tv,tv⟩,forall_nil,⟨tv,tv,dT _,tv⟩,forall_nil⟩
theorem c100{qq p0 r}(h:e100 qq p0=some r):K100 p0 r Ct:=by
 unfold e100 at h
 obtain⟨r1,h2,h⟩:=obind h
 obtain rfl:=sj h
 exact k100 (tF q100 1 [] (oD (dT r1.sub)<|oC 0 [] (c170 h2) o0))
def e21(qq:Nat)(p0:Int)(p1 p2:Tm):Option (Tm):=
 some (Tm.mk p0 0 [p1,p2])
abbrev K21 (p0:Int) (p1 p2 r:Tm) (C:Cf):Prop:=C 21 [] [ai p0,tmA p1,tmA p2] (tmA r) [] 0
theorem q21:Qf 21 Tryz.f21:=⟨Tryz.func21,by kernel_rfl⟩
theorem k21{p0 p1 p2 r}(h:K21 p0 p1 p2 r Ci):K21 p0 p1 p2 r Ct:=⟨h,⟨tv,⟨tv,tv,⟨tv,dT _⟩,tv⟩,⟨tv,tv,⟨tv,dT _⟩,tv⟩,tv⟩,forall_nil,⟨tv,tv,dT _,tv⟩,forall_nil⟩
theorem c21{qq p0 p1 p2 r}(h:e21 qq p0 p1 p2=some r):K21 p0 p1 p2 r Ct:=by
 unfold e21 at h
 obtain rfl:=sj h
 exact k21 (tF q21 1 [] (oD (dT [p1,p2])<|oS 2 (obLitR tm_eq [p1,p2]) o0))
def e101(qq:Nat)(p0 p1:Tm):Option (Tm):=
 e21 qq 4 p0 p1>>=fun r1=>
 some r1
abbrev K101 (p0 p1 r:Tm) (C:Cf):Prop:=C 101 [] [tmA p0,tmA p1] (tmA r) [] 0
theorem q101:Qf 101 Tryz.f101:=⟨Tryz.func101,by kernel_rfl⟩
theorem k101{p0 p1 r}(h:K101 p0 p1 r Ci):K101 p0 p1 r Ct:=⟨h,⟨⟨tv,tv,⟨tv,dT _⟩,tv⟩,⟨tv,tv,⟨tv,dT _⟩,tv⟩,tv⟩,forall_nil,⟨tv,tv,dT _,tv⟩,forall_nil⟩
theorem c101{qq p0 p1 r}(h:e101 qq p0 p1=some r):K101 p0 p1 r Ct:=by
 unfold e101 at h
 obtain⟨r1,h2,h⟩:=obind h
 obtain rfl:=sj h
 exact k101 (tF q101 1 [] (oD (dT r1.sub)<|oC 2 [] (c21 h2) o0))
def e171(qq:Nat)(p0 p1:Int)(p2:List Tm):Option (Tm):=
 some (Tm.mk p0 p1 p2)
abbrev K171 (p0 p1:Int) (p2:List Tm) (r:Tm) (C:Cf):Prop:=C 171 [] [ai p0,ai p1,slv tmCells p2 .no] (tmA r) [] 0
theorem q171:Qf 171 Tryz.f171:=⟨Tryz.func171,by kernel_rfl⟩
theorem k171{p0 p1 p2 r}(h:K171 p0 p1 p2 r Ci):K171 p0 p1 p2 r Ct:=⟨h,⟨tv,tv,⟨tv,dT _⟩,tv⟩,forall_nil,⟨tv,tv,dT _,tv⟩,forall_nil⟩
theorem c171{qq p0 p1 p2 r}(h:e171 qq p0 p1 p2=some r):K171 p0 p1 p2 r Ct:=by
 unfold e171 at h
 obtain rfl:=sj h
 exact k171 (tF q171 1 [] (oD (dT p2) o0))
def e98(qq:Nat)(p0:Int):Option (Tm):=
 e170 qq 2 p0>>=fun r1=>
 some r1
abbrev K98 (p0:Int) (r:Tm) (C:Cf):Prop:=C 98 [] [ai p0] (tmA r) [] 0
theorem q98:Qf 98 Tryz.f98:=⟨Tryz.func98,by kernel_rfl⟩
theorem k98{p0 r}(h:K98 p0 r Ci):K98 p0 r Ct:=⟨h,⟨tv,tv⟩,forall_nil,⟨tv,tv,dT _,tv⟩,forall_nil⟩
theorem c98{qq p0 r}(h:e98 qq p0=some r):K98 p0 r Ct:=by
 unfold e98 at h
 obtain⟨r1,h2,h⟩:=obind h
 obtain rfl:=sj h
 exact k98 (tF q98 1 [] (oD (dT r1.sub)<|oC 0 [] (c170 h2) o0))
def e102(qq:Nat)(p0 p1:Int):Option (Tm):=
 e98 qq p1>>=fun r1=>
 e171 qq 7 p0 [r1]>>=fun r3=>
 some r3
abbrev K102 (p0 p1:Int) (r:Tm) (C:Cf):Prop:=C 102 [] [ai p0,ai p1] (tmA r) [] 0
theorem q102:Qf 102 Tryz.f102:=⟨Tryz.func102,by kernel_rfl⟩
theorem k102{p0 p1 r}(h:K102 p0 p1 r Ci):K102 p0 p1 r Ct:=⟨h,⟨tv,tv,tv⟩,forall_nil,⟨tv,tv,dT _,tv⟩,forall_nil⟩
theorem c102{qq p0 p1 r}(h:e102 qq p0 p1=some r):K102 p0 p1 r Ct:=by
 unfold e102 at h
 obtain⟨r1,h2,h⟩:=obind h
 obtain⟨r3,h4,h⟩:=obind h
 obtain rfl:=sj h
 exact k102 (tF q102 1 [] (oD (dT r3.sub)<|oC 0 [] (c171 h4)<|oS 0 (obLitR tm_eq [r1])<|oC 0 [] (c98 h2) o0))
def e103(qq:Nat)(p0:ByteArray)(p1:Tm)(p2 p3 p4:Int):Option (Ent):=
 some (Ent.mk 2 p0 p1 (Tm.mk 0 0 []) p2 p3 p4 0 0 [] [])
abbrev K103 (p0:ByteArray) (p1:Tm) (p2 p3 p4:Int) (r:Ent) (C:Cf):Prop:=C 103 [] [at' p0,tmA p1,ai p2,ai p3,ai p4] (entA r) [] 0
theorem q103:Qf 103 Tryz.f103:=⟨Tryz.func103,by kernel_rfl⟩
theorem k103{p0 p1 p2 p3 p4 r}(h:K103 p0 p1 p2 p3 p4 r Ci):K103 p0 p1 p2 p3 p4 r Ct:=⟨h,⟨tv,⟨tv,tv,⟨tv,dT _⟩,tv⟩,tv,tv,tv,tv⟩,forall_nil,⟨tv,tv,tv,tv,dT _,tv,tv,dT _,tv,tv,tv,tv,tv,dI _,dI _,tv⟩,forall_nil⟩
theorem c103{qq p0 p1 p2 p3 p4 r}(h:e103 qq p0 p1 p2 p3 p4=some r):K103 p0 p1 p2 p3 p4 r Ct:=by
 unfold e103 at h
 obtain rfl:=sj h
 exact k103 (tF q103 2 [] (oD (dI ([]:List Int))<|oD (dI ([]:List Int))<|oD (dT ([]:List Tm))<|oD (dT p1.sub) o0))
def e104(qq:Nat)(p0:ByteArray)(p1:Tm)(p2:Int):Option (Ent):=
 some (Ent.mk 4 p0 p1 (Tm.mk 0 0 []) 14 p2 2 0 0 [] [])
abbrev K104 (p0:ByteArray) (p1:Tm) (p2:Int) (r:Ent) (C:Cf):Prop:=C 104 [] [at' p0,tmA p1,ai p2] (entA r) [] 0
theorem q104:Qf 104 Tryz.f104:=⟨Tryz.func104,by kernel_rfl⟩
theorem k104{p0 p1 p2 r}(h:K104 p0 p1 p2 r Ci):K104 p0 p1 p2 r Ct:=⟨h,⟨tv,⟨tv,tv,⟨tv,dT _⟩,tv⟩,tv,tv⟩,forall_nil,⟨tv,tv,tv,tv,dT _,tv,tv,dT _,tv,tv,tv,tv,tv,dI _,dI _,tv⟩,forall_nil⟩
theorem c104{qq p0 p1 p2 r}(h:e104 qq p0 p1 p2=some r):K104 p0 p1 p2 r Ct:=by
 unfold e104 at h
 obtain rfl:=sj h
 exact k104 (tF q104 2 [] (oD (dI ([]:List Int))<|oD (dI ([]:List Int))<|oD (dT ([]:List Tm))<|oD (dT p1.sub) o0))
def e95(qq:Nat)(p0:Int):Option (Tm):=
 e170 qq 6 p0>>=fun r1=>
 some r1
abbrev K95 (p0:Int) (r:Tm) (C:Cf):Prop:=C 95 [] [ai p0] (tmA r) [] 0
theorem q95:Qf 95 Tryz.f95:=⟨Tryz.func95,by kernel_rfl⟩
theorem k95{p0 r}(h:K95 p0 r Ci):K95 p0 r Ct:=⟨h,⟨tv,tv⟩,forall_nil,⟨tv,tv,dT _,tv⟩,forall_nil⟩
theorem c95{qq p0 r}(h:e95 qq p0=some r):K95 p0 r Ct:=by
 unfold e95 at h
 obtain⟨r1,h2,h⟩:=obind h
 obtain rfl:=sj h
 exact k95 (tF q95 1 [] (oD (dT r1.sub)<|oC 0 [] (c170 h2) o0))
def e96(qq:Nat)(p0:ByteArray)(p1:Tm)(p2 p3:Int)(p4:List Int):Option (Ent):=
 some (Ent.mk 1 p0 p1 (Tm.mk 0 0 []) 0 0 p2 p3 0 p4 [])
abbrev K96 (p0:ByteArray) (p1:Tm) (p2 p3:Int) (p4:List Int) (r:Ent) (C:Cf):Prop:=C 96 [] [at' p0,tmA p1,ai p2,ai p3,slv intC p4 .no] (entA r) [] 0
theorem q96:Qf 96 Tryz.f96:=⟨Tryz.func96,by kernel_rfl⟩
theorem k96{p0 p1 p2 p3 p4 r}(h:K96 p0 p1 p2 p3 p4 r Ci):K96 p0 p1 p2 p3 p4 r Ct:=⟨h,⟨tv,⟨tv,tv,⟨tv,dT _⟩,tv⟩,tv,tv,⟨tv,dI _⟩,tv⟩,forall_nil,⟨tv,tv,tv,tv,dT _,tv,tv,dT _,tv,tv,tv,tv,tv,dI _,dI _,tv⟩,forall_nil⟩
theorem c96{qq p0 p1 p2 p3 p4 r}(h:e96 qq p0 p1 p2 p3 p4=some r):K96 p0 p1 p2 p3 p4 r Ct:=by
 unfold e96 at h
 obtain rfl:=sj h
 exact k96 (tF q96 2 [] (oD (dI ([]:List Int))<|oD (dI p4)<|oD (dT ([]:List Tm))<|oD (dT p1.sub) o0))
def e97(qq:Nat)(p0 p1:Tm):Option (Tm):=
 e21 qq 3 p0 p1>>=fun r1=>
 some r1
abbrev K97 (p0 p1 r:Tm) (C:Cf):Prop:=C 97 [] [tmA p0,tmA p1] (tmA r) [] 0
theorem q97:Qf 97 Tryz.f97:=⟨Tryz.func97,by kernel_rfl⟩
theorem k97{p0 p1 r}(h:K97 p0 p1 r Ci):K97 p0 p1 r Ct:=⟨h,⟨⟨tv,tv,⟨tv,dT _⟩,tv⟩,⟨tv,tv,⟨tv,dT _⟩,tv⟩,tv⟩,forall_nil,⟨tv,tv,dT _,tv⟩,forall_nil⟩
theorem c97{qq p0 p1 r}(h:e97 qq p0 p1=some r):K97 p0 p1 r Ct:=by
 unfold e97 at h
 obtain⟨r1,h2,h⟩:=obind h
 obtain rfl:=sj h
 exact k97 (tF q97 1 [] (oD (dT r1.sub)<|oC 2 [] (c21 h2) o0))
def e25Ldk:Nat->(List Tm)->Int->Int->Int->(List Tm)->Option (Tm)
 |0,_,_,_,_,_=>none
 |qq+1,p1,v5,vb0_0,vb0_1,vb0_2=>
 if decide (v5<(List.length p1:Int))then
 gidx p1 v5>>=fun x2=>
 e21 qq 5 (Tm.mk vb0_0 vb0_1 vb0_2) x2>>=fun r4=>
 e25Ldk qq p1 (w64 (v5+1)) r4.k r4.n r4.sub
 else
 some (Tm.mk vb0_0 vb0_1 vb0_2)
def e25(qq:Nat)(p0:Tm)(p1:List Tm):Option (Tm):=
 e25Ldk qq p1 0 p0.k p0.n p0.sub
def g25LdkE0(j:Nat->Value)(p1:List Tm)(v5 vb0_0 vb0_1:Int)(vb0_2:List Tm):=sp j 19 0 [(1,slv tmCells p1 .no),(2,.mp 0 0),(4,.mp 1 0),(5,ai v5)]
def g25LdkS0(p1:List Tm)(v5 vb0_0 vb0_1:Int)(vb0_2:List Tm):LSt:=⟨[(0,.cells [ai vb0_0,ai vb0_1,slv tmCells vb0_2 .no]),(1,.cells [ai 0,ai 0,slv tmCells ([]:List Tm) .nl])],2,[],0,[]⟩
abbrev K25 (p0:Tm) (p1:List Tm) (r:Tm) (C:Cf):Prop:=C 25 [] [tmA p0,slv tmCells p1 .no] (tmA r) [] 0
theorem q25:Qf 25 Tryz.f25:=⟨Tryz.func25,by kernel_rfl⟩
theorem k25{p0 p1 r}(h:K25 p0 p1 r Ci):K25 p0 p1 r Ct:=⟨h,⟨⟨tv,tv,⟨tv,dT _⟩,tv⟩,⟨tv,dT _⟩,tv⟩,forall_nil,⟨tv,tv,dT _,tv⟩,forall_nil⟩
theorem l25Ldk:∀qq:Nat,(∀p1 v5 vb0_0 vb0_1 vb0_2 r,e25Ldk qq p1 v5 vb0_0 vb0_1 vb0_2=some r->(∀j,Dl Tryz.prog 0 (inn (inn (rgt (lft (rgt (bod Tryz.f25)))))) (g25LdkE0 j p1 v5 vb0_0 vb0_1 vb0_2) (g25LdkS0 p1 v5 vb0_0 vb0_1 vb0_2) (frameQ Tryz.prog 0 (FinQ Tryz.prog 0 Tryz.f25 (tmA r) [] 0) [.blk 0,.seq (rgt (rgt (bod Tryz.f25)))]))):=by
 intro qq
 induction qq with
 |zero=>
  exact fun _ _ _ _ _ _ h=>nn h
 |succ qq ih=>
  intro p1 v5 vb0_0 vb0_1 vb0_2 r h
  rw[e25Ldk]at h
  rcases spl h with⟨h1,h⟩|⟨h1,h⟩
  obtain⟨x2,h3,h⟩:=obind h
  obtain⟨r4,h5,h⟩:=obind h
  exact fun j=>lH 2 [] [0,1] [] [1,2,4,5] (oD (dT p1)<|oD (dT ([]:List Tm))<|oD (dT r4.sub)<|oC 1 [] (c21 h5)<|oA 1 (ix23 (o:=.no) h3)<|oB 1 h1 o0) (ih _ _ _ _ _ _ h)
  obtain rfl:=sj h
  exact fun j=>lF 2 [] (oD (dT vb0_2)<|oB 1 h1 o0)
theorem c25{qq p0 p1 r}(h:e25 qq p0 p1=some r):K25 p0 p1 r Ct:=by
 unfold e25 at h
 exact k25 (tH q25 0 [] [0,1] [] [1,2,4,5] (oD (dT p1)<|oD (dT ([]:List Tm))<|oD (dT p0.sub) o0) (l25Ldk _ _ _ _ _ _ _ h))
def e99(qq:Nat)(p0:Tm)(p1:List Tm):Option (Tm):=
 e25 qq p0 p1>>=fun r1=>
 some r1
abbrev K99 (p0:Tm) (p1:List Tm) (r:Tm) (C:Cf):Prop:=C 99 [] [tmA p0,slv tmCells p1 .no] (tmA r) [] 0
theorem q99:Qf 99 Tryz.f99:=⟨Tryz.func99,by kernel_rfl⟩
theorem k99{p0 p1 r}(h:K99 p0 p1 r Ci):K99 p0 p1 r Ct:=⟨h,⟨⟨tv,tv,⟨tv,dT _⟩,tv⟩,⟨tv,dT _⟩,tv⟩,forall_nil,⟨tv,tv,dT _,tv⟩,forall_nil⟩
theorem c99{qq p0 p1 r}(h:e99 qq p0 p1=some r):K99 p0 p1 r Ct:=by
 unfold e99 at h
 obtain⟨r1,h2,h⟩:=obind h
 obtain rfl:=sj h
 exact k99 (tF q99 1 [] (oD (dT r1.sub)<|oC 1 [] (c25 h2) o0))
def e44(qq:Nat)  : Option (List Ent):=
 e95 qq 0>>=fun r1=>
 e98 qq 0>>=fun r3=>
 e97 qq r3 r3>>=fun r5=>
 e97 qq r3 r5>>=fun r7=>
 e96 qq (⟨#[80,97,105,114]⟩:ByteArray) r7 2 0 [15]>>=fun r9=>
 e95 qq 14>>=fun r11=>
 e100 qq 1>>=fun r13=>
 e100 qq 0>>=fun r15=>
 e99 qq r11 [r13,r15]>>=fun r17=>
 e102 qq 0 0>>=fun r19=>
 e101 qq r1 r1>>=fun r21=>
 e95 qq 2>>=fun r23=>
 e99 qq r23 [r15]>>=fun r25=>
 e101 qq r1 r25>>=fun r27=>
 e101 qq r1 r27>>=fun r29=>
 e99 qq r19 [r21,r15,r29,r13]>>=fun r31=>
 e101 qq r1 r31>>=fun r33=>
 e101 qq r1 r33>>=fun r35=>
 e96 qq (⟨#[78,97,116]⟩:ByteArray) r3 0 0 [1,2]>>=fun r37=>
 e103 qq (⟨#[122,101,114,111]⟩:ByteArray) r1 0 0 0>>=fun r39=>
 e97 qq r1 r1>>=fun r41=>
 e103 qq (⟨#[115,117,99]⟩:ByteArray) r41 0 1 0>>=fun r43=>
 e96 qq (⟨#[66,111,111,108]⟩:ByteArray) r3 0 0 [4,5]>>=fun r45=>
 e95 qq 3>>=fun r47=>
 e103 qq (⟨#[116,114,117,101]⟩:ByteArray) r47 3 0 0>>=fun r49=>
 e103 qq (⟨#[102,97,108,115,101]⟩:ByteArray) r47 3 1 0>>=fun r51=>
 e96 qq (⟨#[76,105,115,116]⟩:ByteArray) r5 1 0 [7,8]>>=fun r53=>
 e95 qq 6>>=fun r55=>
 e99 qq r55 [r15]>>=fun r57=>
 e97 qq r3 r57>>=fun r59=>
 e103 qq (⟨#[110,105,108]⟩:ByteArray) r59 6 0 1>>=fun r61=>
 e99 qq r55 [r13]>>=fun r63=>
 e100 qq 2>>=fun r65=>
 e99 qq r55 [r65]>>=fun r67=>
 e97 qq r63 r67>>=fun r69=>
 e97 qq r15 r69>>=fun r71=>
 e97 qq r3 r71>>=fun r73=>
 e103 qq (⟨#[99,111,110,115]⟩:ByteArray) r73 6 1 1>>=fun r75=>
 e97 qq r1 r3>>=fun r77=>
 e97 qq r3 r77>>=fun r79=>
 e96 qq (⟨#[86,101,99]⟩:ByteArray) r79 1 1 [10,11]>>=fun r81=>
 e95 qq 9>>=fun r83=>
 e95 qq 1>>=fun r85=>
 e99 qq r83 [r15,r85]>>=fun r87=>
 e97 qq r3 r87>>=fun r89=>
 e103 qq (⟨#[118,110,105,108]⟩:ByteArray) r89 9 0 1>>=fun r91=>
 e99 qq r83 [r65,r13]>>=fun r93=>
 e100 qq 3>>=fun r95=>
 e99 qq r23 [r65]>>=fun r97=>
 e99 qq r83 [r95,r97]>>=fun r99=>
 e97 qq r93 r99>>=fun r101=>
 e97 qq r13 r101>>=fun r103=>
 e97 qq r1 r103>>=fun r105=>
 e97 qq r3 r105>>=fun r107=>
 e103 qq (⟨#[118,99,111,110,115]⟩:ByteArray) r107 9 1 1>>=fun r109=>
 e97 qq r13 r3>>=fun r111=>
 e97 qq r15 r111>>=fun r113=>
 e97 qq r3 r113>>=fun r115=>
 e96 qq (⟨#[69,113]⟩:ByteArray) r115 2 1 [13]>>=fun r117=>
 e95 qq 12>>=fun r119=>
 e99 qq r119 [r13,r15,r15]>>=fun r121=>
 e97 qq r15 r121>>=fun r123=>
 e97 qq r3 r123>>=fun r125=>
 e103 qq (⟨#[114,101,102,108]⟩:ByteArray) r125 12 0 2>>=fun r127=>
 e99 qq r11 [r95,r65]>>=fun r129=>
 e97 qq r13 r129>>=fun r131=>
 e97 qq r13 r131>>=fun r133=>
 e97 qq r3 r133>>=fun r135=>
 e97 qq r3 r135>>=fun r137=>
 e103 qq (⟨#[112,97,105,114]⟩:ByteArray) r137 14 0 2>>=fun r139=>
 e97 qq r17 r65>>=fun r141=>
 e97 qq r3 r141>>=fun r143=>
 e97 qq r3 r143>>=fun r145=>
 e104 qq (⟨#[102,115,116]⟩:ByteArray) r145 0>>=fun r147=>
 e97 qq r17 r13>>=fun r149=>
 e97 qq r3 r149>>=fun r151=>
 e97 qq r3 r151>>=fun r153=>
 e104 qq (⟨#[115,110,100]⟩:ByteArray) r153 1>>=fun r155=>
 e96 qq (⟨#[84,114,101,101]⟩:ByteArray) r3 0 0 [19,20]>>=fun r157=>
 e95 qq 18>>=fun r159=>
 e103 qq (⟨#[108,101,97,102]⟩:ByteArray) r159 18 0 0>>=fun r161=>
 e97 qq r1 r159>>=fun r163=>
 e97 qq r163 r159>>=fun r165=>
 e103 qq (⟨#[110,111,100,101]⟩:ByteArray) r165 18 1 0>>=fun r167=>
 e97 qq r1 r41>>=fun r169=>
 e97 qq r15 r13>>=fun r171=>
 e97 qq r3 r171>>=fun r173=>
 e101 qq r15 r15>>=fun r175=>
 e101 qq r3 r175>>=fun r177=>
 some [r37,r39,r43,r45,r49,r51,r53,r61,r75,r81,r91,r109,r117,r127,(Ent.mk r9.kind r9.name r9.type r9.body r9.fam r9.place r9.pars r9.inds r9.level r9.cons [16,17]),r139,r147,r155,r157,r161,r167,(Ent.mk 3 (⟨#[112,108,117,115]⟩:ByteArray) r169 r35 0 0 0 0 0 [] []),(Ent.mk 3 (⟨#[105,100]⟩:ByteArray) r173 r177 0 0 0 0 0 [] [])]
abbrev K44 (r:List Ent) (C:Cf):Prop:=C 44 [] [] (.sl (flat entL r) (List.length r) .no) [] 0
theorem q44:Qf 44 Tryz.f44:=⟨Tryz.func44,by kernel_rfl⟩
theorem k44{r}(h:K44 r Ci):K44 r Ct:=⟨h,tv,forall_nil,dE _,forall_nil⟩
theorem c44{qq r}(h:e44 qq  = some r):K44 r Ct:=by
 unfold e44 at h
 obtain⟨r1,h2,h⟩:=obind h
 obtain⟨r3,h4,h⟩:=obind h
 obtain⟨r5,h6,h⟩:=obind h
 obtain⟨r7,h8,h⟩:=obind h
 obtain⟨r9,h10,h⟩:=obind h
 obtain⟨r11,h12,h⟩:=obind h
 obtain⟨r13,h14,h⟩:=obind h
 obtain⟨r15,h16,h⟩:=obind h
 obtain⟨r17,h18,h⟩:=obind h
 obtain⟨r19,h20,h⟩:=obind h
 obtain⟨r21,h22,h⟩:=obind h
 obtain⟨r23,h24,h⟩:=obind h
 obtain⟨r25,h26,h⟩:=obind h
 obtain⟨r27,h28,h⟩:=obind h
 obtain⟨r29,h30,h⟩:=obind h
 obtain⟨r31,h32,h⟩:=obind h
 obtain⟨r33,h34,h⟩:=obind h
 obtain⟨r35,h36,h⟩:=obind h
 obtain⟨r37,h38,h⟩:=obind h
 obtain⟨r39,h40,h⟩:=obind h
 obtain⟨r41,h42,h⟩:=obind h
 obtain⟨r43,h44,h⟩:=obind h
 obtain⟨r45,h46,h⟩:=obind h
 obtain⟨r47,h48,h⟩:=obind h
 obtain⟨r49,h50,h⟩:=obind h
 obtain⟨r51,h52,h⟩:=obind h
 obtain⟨r53,h54,h⟩:=obind h
 obtain⟨r55,h56,h⟩:=obind h
 obtain⟨r57,h58,h⟩:=obind h
 obtain⟨r59,h60,h⟩:=obind h
 obtain⟨r61,h62,h⟩:=obind h
 obtain⟨r63,h64,h⟩:=obind h
 obtain⟨r65,h66,h⟩:=obind h
 obtain⟨r67,h68,h⟩:=obind h
 obtain⟨r69,h70,h⟩:=obind h
 obtain⟨r71,h72,h⟩:=obind h
 obtain⟨r73,h74,h⟩:=obind h
 obtain⟨r75,h76,h⟩:=obind h
 obtain⟨r77,h78,h⟩:=obind h
 obtain⟨r79,h80,h⟩:=obind h
 obtain⟨r81,h82,h⟩:=obind h
 obtain⟨r83,h84,h⟩:=obind h
 obtain⟨r85,h86,h⟩:=obind h
 obtain⟨r87,h88,h⟩:=obind h
 obtain⟨r89,h90,h⟩:=obind h
 obtain⟨r91,h92,h⟩:=obind h
 obtain⟨r93,h94,h⟩:=obind h
 obtain⟨r95,h96,h⟩:=obind h
 obtain⟨r97,h98,h⟩:=obind h
 obtain⟨r99,h100,h⟩:=obind h
 obtain⟨r101,h102,h⟩:=obind h
 obtain⟨r103,h104,h⟩:=obind h
 obtain⟨r105,h106,h⟩:=obind h
 obtain⟨r107,h108,h⟩:=obind h
 obtain⟨r109,h110,h⟩:=obind h
 obtain⟨r111,h112,h⟩:=obind h
 obtain⟨r113,h114,h⟩:=obind h
 obtain⟨r115,h116,h⟩:=obind h
 obtain⟨r117,h118,h⟩:=obind h
 obtain⟨r119,h120,h⟩:=obind h
 obtain⟨r121,h122,h⟩:=obind h
 obtain⟨r123,h124,h⟩:=obind h
 obtain⟨r125,h126,h⟩:=obind h
 obtain⟨r127,h128,h⟩:=obind h
 obtain⟨r129,h130,h⟩:=obind h
 obtain⟨r131,h132,h⟩:=obind h
 obtain⟨r133,h134,h⟩:=obind h
 obtain⟨r135,h136,h⟩:=obind h
 obtain⟨r137,h138,h⟩:=obind h
 obtain⟨r139,h140,h⟩:=obind h
 obtain⟨r141,h142,h⟩:=obind h
 obtain⟨r143,h144,h⟩:=obind h
 obtain⟨r145,h146,h⟩:=obind h
 obtain⟨r147,h148,h⟩:=obind h
 obtain⟨r149,h150,h⟩:=obind h
 obtain⟨r151,h152,h⟩:=obind h
 obtain⟨r153,h154,h⟩:=obind h
 obtain⟨r155,h156,h⟩:=obind h
 obtain⟨r157,h158,h⟩:=obind h
 obtain⟨r159,h160,h⟩:=obind h
 obtain⟨r161,h162,h⟩:=obind h
 obtain⟨r163,h164,h⟩:=obind h
 obtain⟨r165,h166,h⟩:=obind h
 obtain⟨r167,h168,h⟩:=obind h
 obtain⟨r169,h170,h⟩:=obind h
 obtain⟨r171,h172,h⟩:=obind h
 obtain⟨r173,h174,h⟩:=obind h
 obtain⟨r175,h176,h⟩:=obind h
 obtain⟨r177,h178,h⟩:=obind h
 obtain rfl:=sj h
 exact k44 (tF q44 1 [] (oD (dE [r37,r39,r43,r45,r49,r51,r53,r61,r75,r81,r91,r109,r117,r127,(Ent.mk r9.kind r9.name r9.type r9.body r9.fam r9.place r9.pars r9.inds r9.level r9.cons [16,17]),r139,r147,r155,r157,r161,r167,(Ent.mk 3 (⟨#[112,108,117,115]⟩:ByteArray) r169 r35 0 0 0 0 0 [] []),(Ent.mk 3 (⟨#[105,100]⟩:ByteArray) r173 r177 0 0 0 0 0 [] [])])<|oC 0 [] (c101 h178)<|oC 0 [] (c101 h176)<|oC 0 [] (c100 h16)<|oC 0 [] (c100 h16)<|oC 0 [] (c98 h4)<|oC 0 [] (c97 h174)<|oC 0 [] (c97 h172)<|oC 0 [] (c100 h14)<|oC 0 [] (c100 h16)<|oC 1 [] (c98 h4)<|oC 0 [] (c97 h170)<|oC 3 [] (c97 h42)<|oC 0 [] (c103 h168)<|oC 0 [] (c97 h166)<|oC 0 [] (c95 h160)<|oC 0 [] (c97 h164)<|oC 1 [] (c95 h160)<|oC 0 [] (c103 h162)<|oC 0 [] (c95 h160)<|oC 1 [] (c96 h158)<|oC 0 [] (c98 h4)<|oC 0 [] (c104 h156)<|oC 0 [] (c97 h154)<|oC 0 [] (c97 h152)<|oC 0 [] (c97 h150)<|oC 1 [] (c100 h14)<|oC 0 [] (c98 h4)<|oC 0 [] (c98 h4)<|oC 0 [] (c104 h148)<|oC 0 [] (c97 h146)<|oC 0 [] (c97 h144)<|oC 0 [] (c97 h142)<|oC 1 [] (c100 h66)<|oC 0 [] (c98 h4)<|oC 0 [] (c98 h4)<|oC 0 [] (c103 h140)<|oC 0 [] (c97 h138)<|oC 0 [] (c97 h136)<|oC 0 [] (c97 h134)<|oC 0 [] (c97 h132)<|oC 0 [] (c99 h130)<|oS 0 (obLitR tm_eq [r95,r65])<|oC 0 [] (c100 h66)<|oC 0 [] (c100 h96)<|oC 0 [] (c95 h12)<|oC 0 [] (c100 h14)<|oC 0 [] (c100 h14)<|oC 0 [] (c98 h4)<|oC 1 [] (c98 h4)<|oC 0 [] (c103 h128)<|oC 0 [] (c97 h126)<|oC 0 [] (c97 h124)<|oC 0 [] (c99 h122)<|oS 0 (obLitR tm_eq [r13,r15,r15])<|oC 0 [] (c100 h16)<|oC 0 [] (c100 h16)<|oC 0 [] (c100 h14)<|oC 0 [] (c95 h120)<|oC 0 [] (c100 h16)<|oC 0 [] (c98 h4)<|oC 1 [] (c96 h118)<|oC 0 [] (c97 h116)<|oC 0 [] (c97 h114)<|oC 0 [] (c97 h112)<|oC 0 [] (c98 h4)<|oC 0 [] (c100 h14)<|oC 0 [] (c100 h16)<|oC 0 [] (c98 h4)<|oC 0 [] (c103 h110)<|oC 0 [] (c97 h108)<|oC 0 [] (c97 h106)<|oC 0 [] (c97 h104)<|oC 0 [] (c97 h102)<|oC 0 [] (c99 h100)<|oS 0 (obLitR tm_eq [r95,r97])<|oC 0 [] (c99 h98)<|oS 0 (obLitR tm_eq [r65])<|oC 0 [] (c100 h66)<|oC 0 [] (c95 h24)<|oC 0 [] (c100 h96)<|oC 0 [] (c95 h84)<|oC 0 [] (c99 h94)<|oS 0 (obLitR tm_eq [r65,r13])<|oC 0 [] (c100 h14)<|oC 0 [] (c100 h66)<|oC 0 [] (c95 h84)<|oC 1 [] (c100 h14)<|oC 0 [] (c98 h4)<|oC 0 [] (c103 h92)<|oC 0 [] (c97 h90)<|oC 0 [] (c99 h88)<|oS 0 (obLitR tm_eq [r15,r85])<|oC 0 [] (c95 h86)<|oC 0 [] (c100 h16)<|oC 0 [] (c95 h84)<|oC 0 [] (c98 h4)<|oC 1 [] (c96 h82)<|oC 0 [] (c97 h80)<|oC 0 [] (c97 h78)<|oC 1 [] (c98 h4)<|oC 0 [] (c98 h4)<|oC 0 [] (c103 h76)<|oC 0 [] (c97 h74)<|oC 0 [] (c97 h72)<|oC 0 [] (c97 h70)<|oC 0 [] (c99 h68)<|oS 0 (obLitR tm_eq [r65])<|oC 0 [] (c100 h66)<|oC 0 [] (c95 h56)<|oC 0 [] (c99 h64)<|oS 0 (obLitR tm_eq [r13])<|oC 0 [] (c100 h14)<|oC 0 [] (c95 h56)<|oC 0 [] (c100 h16)<|oC 0 [] (c98 h4)<|oC 0 [] (c103 h62)<|oC 0 [] (c97 h60)<|oC 0 [] (c99 h58)<|oS 0 (obLitR tm_eq [r15])<|oC 0 [] (c100 h16)<|oC 0 [] (c95 h56)<|oC 0 [] (c98 h4)<|oC 1 [] (c96 h54)<|oC 0 [] (c97 h6)<|oC 0 [] (c98 h4)<|oC 0 [] (c98 h4)<|oC 0 [] (c103 h52)<|oC 0 [] (c95 h48)<|oC 0 [] (c103 h50)<|oC 0 [] (c95 h48)<|oC 1 [] (c96 h46)<|oC 0 [] (c98 h4)<|oC 0 [] (c103 h44)<|oC 2 [] (c97 h42)<|oC 1 [] (c103 h40)<|oC 1 [] (c96 h38)<|oC 1 [] (c98 h4)<|oC 0 [] (c101 h36)<|oC 0 [] (c101 h34)<|oC 0 [] (c99 h32)<|oS 0 (obLitR tm_eq [r21,r15,r29,r13])<|oC 0 [] (c100 h14)<|oC 0 [] (c101 h30)<|oC 0 [] (c101 h28)<|oC 0 [] (c99 h26)<|oS 0 (obLitR tm_eq [r15])<|oC 0 [] (c100 h16)<|oC 2 [] (c95 h24)<|oC 0 [] (c100 h16)<|oC 2 [] (c101 h22)<|oC 3 [] (c102 h20)<|oC 0 [] (c99 h18)<|oS 0 (obLitR tm_eq [r13,r15])<|oC 0 [] (c100 h16)<|oC 0 [] (c100 h14)<|oC 3 [] (c95 h12)<|oC 1 [] (c96 h10)<|oC 0 [] (c97 h8)<|oC 0 [] (c97 h6)<|oC 0 [] (c98 h4)<|oC 0 [] (c98 h4)<|oC 1 [] (c98 h4)<|oC 0 [] (c95 h2) o0))
def baseL:List Ent:=match e44 300 with|some l=>l|none=>[]
theorem evt_of{α:Type}{f:Nat->Option α}{r:α}(n:Nat)(h:∀q,f (q+n)=some r):Evt f r:=⟨n,fun q hq=>by have:=h (q-n);rwa[show q-n+n=q by omega]at this⟩
theorem ev_Base:Evt (fun q=>e44 q) baseL:=evt_of 300 fun q=>by kernel_rfl
theorem ev_BaseF:Evt (fun q=>e157 q baseL) true:=evt_of 1000 fun q=>by kernel_rfl
theorem baseL_len:baseL.length=23:=by kernel_rfl
def entC(e:Ent):Bool:=(shapedT e.type||e.type.sub.isEmpty)&&(shapedT e.body||e.body.sub.isEmpty)&&Nat.ble e.cons.length 100&&Nat.ble e.fields.length 100
theorem baseL_c:baseL.all entC=true:=by kernel_rfl
theorem ok_c{t:Tm}(h:(shapedT t||t.sub.isEmpty)=true):t.Ok:=by
 rcases Bool.or_eq_true _ _ |>.mp h with h|h
 ·exact shaped_ok h
 ·obtain⟨k,n,l⟩:=t
  have:l=[]:=List.isEmpty_iff.1 h
  subst this
  exact leaf_ok k n
theorem baseL_ok:∀e∈baseL,EOk e:=fun e h=>by
 have:=List.all_eq_true.1 baseL_c e h
 unfold entC at this
 simp only[Bool.and_eq_true]at this
 obtain⟨⟨⟨a,b⟩,c⟩,d⟩:=this
 have c:=Nat.le_of_ble_eq_true c
 have d:=Nat.le_of_ble_eq_true d
 exact⟨ok_c a,ok_c b,by omega,by omega⟩
theorem baseL_cl:∀e∈baseL,ECl e:=fun e h=>by
 have:=List.all_eq_true.1 baseL_c e h
 unfold entC at this
 simp only[Bool.and_eq_true]at this
 obtain⟨⟨⟨a,b⟩,c⟩,d⟩:=this
 have c:=Nat.le_of_ble_eq_true c
 have d:=Nat.le_of_ble_eq_true d
 exact⟨by omega,by omega⟩
theorem base_new:∃N,AllE N baseL∧Evt (fun q=>e37 q baseL) (newT baseL true):=by
 obtain⟨N,hN⟩:=names_by
 obtain⟨b,hb,hA,hn⟩:=ev_wNew N hN baseL (by rw[baseL_len];omega) baseL_ok baseL_cl
 have:=hb.det ev_BaseF
 subst this
 exact⟨N,hA rfl,hn⟩
def e47Ldl:Nat->(List Tm)->(List Tm)->Int->Option (Bool)
 |0,_,_,_=>none
 |qq+1,p0,p1,v5=>
 if decide (v5<(List.length p0:Int))then
 gidx p0 v5>>=fun x3=>
 gidx p1 v5>>=fun x5=>
 e55 qq x3 x5>>=fun r7=>
 if r7 then
 e47Ldl qq p0 p1 (w64 (v5+1))
 else
 some false
 else
 some true
def e47(qq:Nat)(p0 p1:List Tm):Option (Bool):=
 if (List.length p0:Int) != (List.length p1:Int)then
 some false
 else
 e47Ldl qq p0 p1 0
def g47LdlE0(j:Nat->Value)(p0 p1:List Tm)(v5:Int):=sp j 27 0 [(0,slv tmCells p0 .no),(1,slv tmCells p1 .no),(5,ai v5)]
def g47LdlS0(p0 p1:List Tm)(v5:Int):LSt:=⟨[],0,[],0,[]⟩
abbrev K47 (p0 p1:List Tm) (r:Bool) (C:Cf):Prop:=C 47 [] [slv tmCells p0 .no,slv tmCells p1 .no] (ab r) [] 0
theorem q47:Qf 47 Tryz.f47:=⟨Tryz.func47,by kernel_rfl⟩
theorem k47{p0 p1 r}(h:K47 p0 p1 r Ci):K47 p0 p1 r Ct:=⟨h,⟨⟨tv,dT _⟩,⟨tv,dT _⟩,tv⟩,forall_nil,tv,forall_nil⟩
theorem l47Ldl:∀qq:Nat,(∀p0 p1 v5 r,e47Ldl qq p0 p1 v5=some r->(∀j,Dl Tryz.prog 0 (inn (inn (rgt (lft (rgt (rgt (bod Tryz.f47))))))) (g47LdlE0 j p0 p1 v5) (g47LdlS0 p0 p1 v5) (frameQ Tryz.prog 0 (FinQ Tryz.prog 0 Tryz.f47 (ab r) [] 0) [.blk 0,.seq (rgt (rgt (rgt (bod Tryz.f47))))]))):=by
 intro qq
 induction qq with
 |zero=>
  exact fun _ _ _ _ h=>nn h
 |succ qq ih=>
  intro p0 p1 v5 r h
  rw[e47Ldl]at h
  rcases spl h with⟨h2,h⟩|⟨h2,h⟩
  obtain⟨x3,h4,h⟩:=obind h
  obtain⟨x5,h6,h⟩:=obind h
  obtain⟨r7,h8,h⟩:=obind h
  have k:=oA 1 (ix23 (o:=.no) h6)<|oA 0 (ix23 (o:=.no) h4)<|oB 1 h2 o0
  rcases spl h with⟨h9,h⟩|⟨h9,h⟩
  exact fun j=>lH 2 [] [] [] [0,1,5] (oD (dT p1)<|oD (dT p0)<|oK 1 [] h9 (c55 h8) k) (ih _ _ _ _ h)
  obtain rfl:=sj h
  exact fun j=>lF 1 [] (oK 1 [] h9 (c55 h8) k)
  obtain rfl:=sj h
  exact fun j=>lF 0 [] (oB 1 h2 o0)
theorem c47{qq p0 p1 r}(h:e47 qq p0 p1=some r):K47 p0 p1 r Ct:=by
 unfold e47 at h
 rcases spl h with⟨h1,h⟩|⟨h1,h⟩
 obtain rfl:=sj h
 exact k47 (tF q47 0 [] (oB 2 h1 o0))
 exact k47 (tH q47 0 [] [] [] [0,1,5] (oD (dT p1)<|oD (dT p0)<|oB 2 h1 o0) (l47Ldl _ _ _ _ _ h))
theorem ev_rSameAll(l:List Tm)(hl:LOk l):Evt (fun q=>e47 q l l) true:=by
 simp only[e47]
 refine Evt.ifF (by simp) ?_
 have key:∀(r:List Tm) (v:Nat),l.drop v=r->Evt (fun q=>e47Ldl q l l (v:Int)) true:=by
  intro r
  induction r with
  |nil=>
   intro v hd
   refine Evt.succ ?_
   simp only[e47Ldl]
   exact Evt.ifF (drop_nil hd) Evt.ret
  |cons x r ih=>
   intro v hd
   have hlt:=drop_lt hd
   have:=hl.2
   refine Evt.succ ?_
   simp only[e47Ldl]
   refine Evt.ifT (drop_dec hd) (Evt.pure (drop_idx hd) (Evt.pure (drop_idx hd) ((ev_rEqual x (okL_all hl.1 x (List.mem_of_mem_drop (by rw[hd];simp)))).bind (Evt.ifT rfl ?_))))
   rw[w64_nat v (by omega)]
   exact ih (v+1) (drop_next hd)
 exact key l 0 rfl
def e50Ldm:Nat->(List Tm)->Int->Option (Bool)
 |0,_,_=>none
 |qq+1,p0,v3=>
 if decide (v3<(List.length p0:Int))then
 gidx p0 v3>>=fun x3=>
 e66 qq x3>>=fun r5=>
 if decide (r5>150)then
 some false
 else
 e50Ldm qq p0 (w64 (v3+1))
 else
 some true
def e50(qq:Nat)(p0:List Tm):Option (Bool):=
 if decide ((List.length p0:Int)>24)then
 some false
 else
 e50Ldm qq p0 0
def g50LdmE0(j:Nat->Value)(p0:List Tm)(v3:Int):=sp j 19 0 [(0,slv tmCells p0 .no),(3,ai v3)]
def g50LdmS0(p0:List Tm)(v3:Int):LSt:=⟨[],0,[],0,[]⟩
abbrev K50 (p0:List Tm) (r:Bool) (C:Cf):Prop:=C 50 [] [slv tmCells p0 .no] (ab r) [] 0
theorem q50:Qf 50 Tryz.f50:=⟨Tryz.func50,by kernel_rfl⟩
theorem k50{p0 r}(h:K50 p0 r Ci):K50 p0 r Ct:=⟨h,⟨⟨tv,dT _⟩,tv⟩,forall_nil,tv,forall_nil⟩
theorem l50Ldm:∀qq:Nat,(∀p0 v3 r,e50Ldm qq p0 v3=some r->(∀j,Dl Tryz.prog 0 (inn (inn (rgt (lft (rgt (rgt (bod Tryz.f50))))))) (g50LdmE0 j p0 v3) (g50LdmS0 p0 v3) (frameQ Tryz.prog 0 (FinQ Tryz.prog 0 Tryz.f50 (ab r) [] 0) [.blk 0,.seq (rgt (rgt (rgt (bod Tryz.f50))))]))):=by
 intro qq
 induction qq with
 |zero=>
  exact fun _ _ _ h=>nn h
 |succ qq ih=>
  intro p0 v3 r h
  rw[e50Ldm]at h
  rcases spl h with⟨h2,h⟩|⟨h2,h⟩
  obtain⟨x3,h4,h⟩:=obind h
  obtain⟨r5,h6,h⟩:=obind h
  have k:=oC 1 [] (c66 h6)<|oA 0 (ix23 (o:=.no) h4)<|oB 1 h2 o0
  rcases spl h with⟨h7,h⟩|⟨h7,h⟩
  obtain rfl:=sj h
  exact fun j=>lF 0 [] (oB 0 h7 k)
  exact fun j=>lH 1 [] [] [] [0,3] (oD (dT p0)<|oB 0 h7 k) (ih _ _ _ h)
  obtain rfl:=sj h
  exact fun j=>lF 0 [] (oB 1 h2 o0)
theorem c50{qq p0 r}(h:e50 qq p0=some r):K50 p0 r Ct:=by
 unfold e50 at h
 rcases spl h with⟨h1,h⟩|⟨h1,h⟩
 obtain rfl:=sj h
 exact k50 (tF q50 0 [] (oB 1 h1 o0))
 exact k50 (tH q50 0 [] [] [] [0,3] (oD (dT p0)<|oB 1 h1 o0) (l50Ldm _ _ _ _ h))
def e182(qq:Nat)(p0:Int):Option (PatternPat):=
 some (PatternPat.mk 1 p0 0 [] (Tm.mk 0 0 []))
abbrev K182 (p0:Int) (r:PatternPat) (C:Cf):Prop:=C 182 [] [ai p0] (patternPatA (PatternPat.mk r.kind_ r.n_ r.at_ r.sub_ r.t_)) [] 0
theorem q182:Qf 182 Tryz.f182:=⟨Tryz.func182,by kernel_rfl⟩
theorem k182{p0 r}(h:K182 p0 r Ci):K182 p0 r Ct:=⟨h,⟨tv,tv⟩,forall_nil,⟨tv,tv,tv,dPatternPat _,tv,tv,dT _,tv⟩,forall_nil⟩
theorem c182{qq p0 r}(h:e182 qq p0=some r):K182 p0 r Ct:=by
 unfold e182 at h
 obtain rfl:=sj h
 exact k182 (tF q182 1 [] (oD (dT ([]:List Tm))<|oD (dPatternPat ([]:List PatternPat)) o0))
def e117(qq:Nat)  : Option (List ClauseClause):=
 e182 qq 0>>=fun r1=>
 e100 qq 0>>=fun r3=>
 e182 qq 1>>=fun r5=>
 e95 qq 2>>=fun r7=>
 e100 qq 1>>=fun r9=>
 e99 qq r7 [r9]>>=fun r11=>
 some [(ClauseClause.mk [(PatternPat.mk 2 1 0 [] (Tm.mk 0 0 [])),(PatternPat.mk r1.kind_ r1.n_ r1.at_ r1.sub_ r1.t_)] true r3),(ClauseClause.mk [(PatternPat.mk 2 2 0 [(PatternPat.mk r1.kind_ r1.n_ r1.at_ r1.sub_ r1.t_)] (Tm.mk 0 0 [])),(PatternPat.mk r5.kind_ r5.n_ r5.at_ r5.sub_ r5.t_)] true r11)]
abbrev K117 (r:List ClauseClause) (C:Cf):Prop:=C 117 [] [] (.sl (flat clauseClauseL r) (List.length r) .no) [] 0
theorem q117:Qf 117 Tryz.f117:=⟨Tryz.func117,by kernel_rfl⟩
theorem k117{r}(h:K117 r Ci):K117 r Ct:=⟨h,tv,forall_nil,dClauseClause _,forall_nil⟩
theorem c117{qq r}(h:e117 qq  = some r):K117 r Ct:=by
 unfold e117 at h
 obtain⟨r1,h2,h⟩:=obind h
 obtain⟨r3,h4,h⟩:=obind h
 obtain⟨r5,h6,h⟩:=obind h
 obtain⟨r7,h8,h⟩:=obind h
 obtain⟨r9,h10,h⟩:=obind h
 obtain⟨r11,h12,h⟩:=obind h
 obtain rfl:=sj h
 exact k117 (tF q117 1 [] (oD (dClauseClause [(ClauseClause.mk [(PatternPat.mk 2 1 0 [] (Tm.mk 0 0 [])),(PatternPat.mk r1.kind_ r1.n_ r1.at_ r1.sub_ r1.t_)] true r3),(ClauseClause.mk [(PatternPat.mk 2 2 0 [(PatternPat.mk r1.kind_ r1.n_ r1.at_ r1.sub_ r1.t_)] (Tm.mk 0 0 [])),(PatternPat.mk r5.kind_ r5.n_ r5.at_ r5.sub_ r5.t_)] true r11)])<|oC 0 [] (c99 h12)<|oS 0 (obLitR tm_eq [r9])<|oC 0 [] (c100 h10)<|oC 0 [] (c95 h8)<|oS 0 (obLitR patternPat_eq [(PatternPat.mk 2 2 0 [(PatternPat.mk r1.kind_ r1.n_ r1.at_ r1.sub_ r1.t_)] (Tm.mk 0 0 [])),(PatternPat.mk r5.kind_ r5.n_ r5.at_ r5.sub_ r5.t_)])<|oC 0 [] (c182 h6)<|oS 0 (obLitR patternPat_eq [(PatternPat.mk r1.kind_ r1.n_ r1.at_ r1.sub_ r1.t_)])<|oC 0 [] (c182 h2)<|oC 0 [] (c100 h4)<|oS 0 (obLitR patternPat_eq [(PatternPat.mk 2 1 0 [] (Tm.mk 0 0 [])),(PatternPat.mk r1.kind_ r1.n_ r1.at_ r1.sub_ r1.t_)])<|oC 0 [] (c182 h2) o0))
def e52(qq:Nat)  : Option (Bool):=
 e44 qq>>=fun r1=>
 e37 qq r1>>=fun r3=>
 match r3 with
 |Sum.inl y38=>
  none
 |Sum.inr y5=>
  e45 qq 100>>=fun r6=>
  match r6 with
  |Sum.inl y23=>
   none
  |Sum.inr y8=>
   e117 qq>>=fun r9=>
   e95 qq 1>>=fun r11=>
   e54 qq (Mach.mk y5.2.1 y5.2.2.2.2.1 y5.2.2.2.2.2 y5.2.2.1 y5.2.2.2.1) r9 [r11,r11] y8.2.1 y8.2.2>>=fun r13=>
   match r13 with
   |Sum.inl y15=>
    if y15.2.1==0 then
    if y15.1.row_==0 then
    if y15.1.term_.n==1 then
    some ((List.length y15.1.binds_:Int)==1)
    else
    some false
    else
    some false
    else
    some false
   |Sum.inr y19=>
    if y19.2.2.2.2.2.1==0 then
    if y19.2.1==0 then
    if y19.2.2.2.1==1 then
    some ((List.length y19.1:Int)==1)
    else
    some false
    else
    some false
    else
    some false
abbrev K52 (r:Bool) (C:Cf):Prop:=C 52 [] [] (ab r) [] 0
theorem q52:Qf 52 Tryz.f52:=⟨Tryz.func52,by kernel_rfl⟩
theorem k52{r}(h:K52 r Ci):K52 r Ct:=⟨h,tv,forall_nil,tv,forall_nil⟩
theorem c52{qq r}(h:e52 qq  = some r):K52 r Ct:=by
 unfold e52 at h
 obtain⟨r1,h2,h⟩:=obind h
 obtain⟨r3,h4,h⟩:=obind h
 have k:=oC 0 [] (c44 h2) o0
 rcases r3 with y38|y5
 cases h
 dsimp only at h
 obtain⟨r6,h7,h⟩:=obind h
 have k:=oC 0 [] (c37 h4) k
 rcases r6 with y23|y8
 cases h
 dsimp only at h
 obtain⟨r9,h10,h⟩:=obind h
 obtain⟨r11,h12,h⟩:=obind h
 obtain⟨r13,h14,h⟩:=obind h
 have k:=oS 0 (obLitR tm_eq [r11,r11])<|oC 0 [] (c95 h12)<|oC 0 [] (c95 h12)<|oC 2 [] (c117 h10)<|oC 2 [] (c45 h7) k
 rcases r13 with y15|y19
 dsimp only at h
 have k:=oC 0 [0,1,2] (c54 h14) k
 rcases spl h with⟨h16,h⟩|⟨h16,h⟩
 have k:=oB 3 h16 k
 rcases spl h with⟨h17,h⟩|⟨h17,h⟩
 have k:=oB 1 h17 k
 rcases spl h with⟨h18,h⟩|⟨h18,h⟩
 obtain rfl:=sj h
 exact k52 (tF q52 3 [] (oB 1 h18 k))
 obtain rfl:=sj h
 exact k52 (tF q52 0 [] (oB 1 h18 k))
 obtain rfl:=sj h
 exact k52 (tF q52 0 [] (oB 1 h17 k))
 obtain rfl:=sj h
 exact k52 (tF q52 0 [] (oB 3 h16 k))
 dsimp only at h
 have k:=oC 0 [0,1,2] (c54 h14) k
 rcases spl h with⟨h20,h⟩|⟨h20,h⟩
 have k:=oB 3 h20 k
 rcases spl h with⟨h21,h⟩|⟨h21,h⟩
 have k:=oB 1 h21 k
 rcases spl h with⟨h22,h⟩|⟨h22,h⟩
 obtain rfl:=sj h
 exact k52 (tF q52 3 [] (oB 1 h22 k))
 obtain rfl:=sj h
 exact k52 (tF q52 0 [] (oB 1 h22 k))
 obtain rfl:=sj h
 exact k52 (tF q52 0 [] (oB 1 h21 k))
 obtain rfl:=sj h
 exact k52 (tF q52 0 [] (oB 3 h20 k))
theorem ev_cawake:Evt (fun q=>e52 q) true:=evt_of 2000 fun q=>by kernel_rfl
theorem baseL_cop:baseL.map copE=baseL:=by kernel_rfl
theorem tot_small28(l:List Tm):Tot (fun q=>e50 q l) fun b=>b=true->l.length≤24:=by
 simp only[e50]
 refine Tot.ite (fun _=>Tot.ret fun h=>nomatch h) fun h=>?_
 have h':=of_decide_eq_false h
 have key:∀(r:List Tm) (v:Nat),l.drop v=r->Tot (fun q=>e50Ldm q l (v:Int)) fun _=>True:=by
  intro r
  induction r with
  |nil=>
   intro v hd
   refine Tot.succ ?_
   simp only[e50Ldm]
   refine Tot.ite (fun h=>?_) fun _=>Tot.ret trivial
   rw[drop_nil hd]at h;cases h
  |cons x r ih=>
   intro v hd
   have hlt:=drop_lt hd
   refine Tot.succ ?_
   simp only[e50Ldm]
   refine Tot.ite (fun _=>Tot.pure (drop_idx hd) (Tot.bind (P:=fun _=>True) ((ev_rSize x).tot trivial) fun _ _=>Tot.ite (fun _=>Tot.ret trivial) fun _=>?_)) fun h=>?_
   ·rw[w64_nat v (by omega)]
    exact ih (v+1) (drop_next hd)
   ·rw[drop_dec hd]at h;cases h
 exact(key l 0 rfl).mono fun _ _ _=>by omega
def e276(qq:Nat)(p0:Int):Option (Bool):=
 if decide (p0<0)then
 some false
 else
 if decide (p0>1114111)then
 some false
 else
 if decide (p0<55296)then
 some true
 else
 some (decide (p0>57343))
abbrev K276 (p0:Int) (r:Bool) (C:Cf):Prop:=C 276 [] [ai p0] (ab r) [] 0
theorem q276:Qf 276 Tryz.f276:=⟨Tryz.func276,by kernel_rfl⟩
theorem k276{p0 r}(h:K276 p0 r Ci):K276 p0 r Ct:=⟨h,⟨tv,tv⟩,forall_nil,tv,forall_nil⟩
theorem c276{qq p0 r}(h:e276 qq p0=some r):K276 p0 r Ct:=by
 unfold e276 at h
 rcases spl h with⟨h1,h⟩|⟨h1,h⟩
 obtain rfl:=sj h
 exact k276 (tF q276 0 [] (oB 0 h1 o0))
 have k:=oB 0 h1 o0
 rcases spl h with⟨h2,h⟩|⟨h2,h⟩
 obtain rfl:=sj h
 exact k276 (tF q276 0 [] (oB 0 h2 k))
 have k:=oB 0 h2 k
 rcases spl h with⟨h3,h⟩|⟨h3,h⟩
 obtain rfl:=sj h
 exact k276 (tF q276 0 [] (oB 0 h3 k))
 obtain rfl:=sj h
 exact k276 (tF q276 1 [] (oB 0 h3 k))
mutual
def e378Ldn:Nat->Int->(List U8)->Int->Option (List U8)
 |0,_,_,_=>none
 |qq+1,p0,v5,v6=>
 if decide (v6≥0)then
 e378Ldo qq p0 v5 v6 p0 0
 else
 some v5
def e378Ldo:Nat->Int->(List U8)->Int->Int->Int->Option (List U8)
 |0,_,_,_,_,_=>none
 |qq+1,p0,v5,v6,v7,v8=>
 if decide (v8<v6)then
 e378Ldo qq p0 v5 v6 (w64 (Int.tdiv v7 64)) (w64 (v8+1))
 else
 gapp 1 v5 [(IntKind.u8.wrap ((w64 (128+(Int.tmod v7 64)))))]>>=fun l3=>
 e378Ldn qq p0 l3 (w64 (v6-1))
end
def e378(qq:Nat)(p0 p1:Int):Option (List U8):=
 e378Ldn qq p0 [] (w64 (p1-1))
def g378LdnE0(j:Nat->Value)(p0:Int)(v5:List U8)(v6:Int):=sp j 32 0 [(0,ai p0),(5,slv u8C v5 (.st 0 1)),(6,ai v6)]
def g378LdnS0(p0:Int)(v5:List U8)(v6:Int):LSt:=⟨[],0,[0],1,[]⟩
def g378LdoE0(j:Nat->Value)(p0:Int)(v5:List U8)(v6 v7 v8:Int):=sp j 32 0 [(0,ai p0),(5,slv u8C v5 (.st 0 1)),(6,ai v6),(7,ai v7),(8,ai v8)]
def g378LdoS0(p0:Int)(v5:List U8)(v6 v7 v8:Int):LSt:=⟨[],0,[0],1,[]⟩
abbrev K378 (p0 p1:Int) (r:List U8) (C:Cf):Prop:=C 378 [] [ai p0,ai p1] (.sl (flat u8C r) (List.length r) .no) [] 0
theorem q378:Qf 378 Tryz.f378:=⟨Tryz.func378,by kernel_rfl⟩
theorem k378{p0 p1 r}(h:K378 p0 p1 r Ci):K378 p0 p1 r Ct:=⟨h,⟨tv,tv,tv⟩,forall_nil,dU _,forall_nil⟩
theorem a378Ldn_378Ldo:∀qq:Nat,(∀p0 v5 v6 r,e378Ldn qq p0 v5 v6=some r->(∀j,Dl Tryz.prog 0 (inn (inn (rgt (lft (rgt (rgt (bod Tryz.f378))))))) (g378LdnE0 j p0 v5 v6) (g378LdnS0 p0 v5 v6) (frameQ Tryz.prog 0 (FinQ Tryz.prog 0 Tryz.f378 (.sl (flat u8C r) (List.length r) .no) [] 0) [.blk 0,.seq (rgt (rgt (rgt (bod Tryz.f378))))])))∧(∀p0 v5 v6 v7 v8 r,e378Ldo qq p0 v5 v6 v7 v8=some r->(∀j,Dl Tryz.prog 0 (inn (inn (rgt (lft (rgt (inn (lft (rgt (inn (inn (rgt (lft (rgt (rgt (bod Tryz.f378))))))))))))))) (g378LdoE0 j p0 v5 v6 v7 v8) (g378LdoS0 p0 v5 v6 v7 v8) (frameQ Tryz.prog 0 (FinQ Tryz.prog 0 Tryz.f378 (.sl (flat u8C r) (List.length r) .no) [] 0) [.blk 2,.seq (rgt (rgt (inn (lft (rgt (inn (inn (rgt (lft (rgt (rgt (bod Tryz.f378)))))))))))),.blk 1,.seq (rgt (rgt (inn (inn (rgt (lft (rgt (rgt (bod Tryz.f378))))))))),.loop (inn (inn (rgt (lft (rgt (rgt (bod Tryz.f378))))))),.blk 0,.seq (rgt (rgt (rgt (bod Tryz.f378))))]))):=by
 intro qq
 induction qq with
 |zero=>
  exact⟨fun _ _ _ _ h=>nn h,fun _ _ _ _ _ _ h=>nn h⟩
 |succ qq ih=>
  obtain⟨ih378Ldn,ih378Ldo⟩:=ih
  refine⟨?_,?_⟩
  intro p0 v5 v6 r h
  rw[e378Ldn]at h
  rcases spl h with⟨h1,h⟩|⟨h1,h⟩
  exact fun j=>lH 0 [] [] [0] [0,5,6,7,8] (oD (dU v5)<|oB 0 h1 o0) (ih378Ldo _ _ _ _ _ _ h)
  obtain rfl:=sj h
  exact fun j=>lF 0 [] (oD (dU v5)<|oB 0 h1 o0)
  intro p0 v5 v6 v7 v8 r h
  rw[e378Ldo]at h
  rcases spl h with⟨h2,h⟩|⟨h2,h⟩
  exact fun j=>lH 2 [] [] [0] [0,5,6,7,8] (oD (dU v5)<|oB 0 h2 o0) (ih378Ldo _ _ _ _ _ _ h)
  obtain⟨l3,h4,h⟩:=obind h
  exact fun j=>lH 1 [] [] [1] [0,5,6] (oD (dU l3)<|oP 4 (apS418 h4 (by simp))<|oB 0 h2 o0) (ih378Ldn _ _ _ _ h)
theorem c378{qq p0 p1 r}(h:e378 qq p0 p1=some r):K378 p0 p1 r Ct:=by
 unfold e378 at h
 exact k378 (tH q378 2 [(none,5,1)] [] [0] [0,5,6] (oD (dU ([]:List U8)) o0) (((a378Ldn_378Ldo _).1) _ _ _ _ h))
def e350(qq:Nat)(p0:Int):Option (ByteArray):=
 if decide (p0<128)then
 some (gstr [(IntKind.u8.wrap (p0))])
 else
 if decide (p0<2048)then
 e378 qq p0 1>>=fun r3=>
 gapp 1 [(IntKind.u8.wrap ((w64 (192+(w64 (Int.tdiv p0 64))))))] r3>>=fun l5=>
 some (gstr l5)
 else
 if decide (p0<65536)then
 e378 qq p0 2>>=fun r9=>
 gapp 1 [(IntKind.u8.wrap ((w64 (224+(w64 (Int.tdiv p0 4096))))))] r9>>=fun l11=>
 some (gstr l11)
 else
 e378 qq p0 3>>=fun r14=>
 gapp 1 [(IntKind.u8.wrap ((w64 (240+(w64 (Int.tdiv p0 262144))))))] r14>>=fun l16=>
 some (gstr l16)
abbrev K350 (p0:Int) (r:ByteArray) (C:Cf):Prop:=C 350 [] [ai p0] (at' r) [] 0
theorem q350:Qf 350 Tryz.f350:=⟨Tryz.func350,by kernel_rfl⟩
theorem k350{p0 r}(h:K350 p0 r Ci):K350 p0 r Ct:=⟨h,⟨tv,tv⟩,forall_nil,tv,forall_nil⟩
theorem c350{qq p0 r}(h:e350 qq p0=some r):K350 p0 r Ct:=by
 unfold e350 at h
 rcases spl h with⟨h1,h⟩|⟨h1,h⟩
 obtain rfl:=sj h
 exact k350 (tF q350 0 [] (oA 2 (cv418_9 [(IntKind.u8.wrap (p0))] (o:=.full))<|oB 0 h1 o0))
 have k:=oB 0 h1 o0
 rcases spl h with⟨h2,h⟩|⟨h2,h⟩
 obtain⟨r3,h4,h⟩:=obind h
 obtain⟨l5,h6,h⟩:=obind h
 have k:=oC 4 [] (c378 h4)<|oB 0 h2 k
 by_cases h7:List.length r3=0
 obtain rfl:=sj h
 exact k350 (tF q350 0 [] (oA 0 (cv418_9 l5 (o:=.full))<|oP 0 (apN418 h6 h7) k))
 obtain rfl:=sj h
 exact k350 (tF q350 0 [] (oA 0 (cv418_9 l5 (o:=(.st 0 1)))<|oP 0 (apS418 h6 h7) k))
 have k:=oB 0 h2 k
 rcases spl h with⟨h8,h⟩|⟨h8,h⟩
 obtain⟨r9,h10,h⟩:=obind h
 obtain⟨l11,h12,h⟩:=obind h
 have k:=oC 4 [] (c378 h10)<|oB 0 h8 k
 by_cases h13:List.length r9=0
 obtain rfl:=sj h
 exact k350 (tF q350 0 [] (oA 0 (cv418_9 l11 (o:=.full))<|oP 0 (apN418 h12 h13) k))
 obtain rfl:=sj h
 exact k350 (tF q350 0 [] (oA 0 (cv418_9 l11 (o:=(.st 0 1)))<|oP 0 (apS418 h12 h13) k))
 obtain⟨r14,h15,h⟩:=obind h
 obtain⟨l16,h17,h⟩:=obind h
 have k:=oC 4 [] (c378 h15)<|oB 0 h8 k
 by_cases h18:List.length r14=0
 obtain rfl:=sj h
 exact k350 (tF q350 0 [] (oA 0 (cv418_9 l16 (o:=.full))<|oP 0 (apN418 h17 h18) k))
 obtain rfl:=sj h
 exact k350 (tF q350 0 [] (oA 0 (cv418_9 l16 (o:=(.st 0 1)))<|oP 0 (apS418 h17 h18) k))
def e315Ldp:Nat->ByteArray->Int->Int->Option (Int)
 |0,_,_,_=>none
 |qq+1,p0,v3,v5=>
 if decide (v5<(p0.size:Int))then
 gbyte p0 v5>>=fun x9=>
 e315Ldp qq p0 (w64 ((w64 ((w64 (v3*64))+(w64 (x9))))-128)) (w64 (v5+1))
 else
 e276 qq v3>>=fun r11=>
 if r11 then
 e350 qq v3>>=fun r14=>
 if !(r14.toList==p0.toList)then
 some (-1)
 else
 some v3
 else
 some (-1)
def e315(qq:Nat)(p0:ByteArray):Option (Int):=
 if (p0.size:Int)==0 then
 some (-1)
 else
 gbyte p0 0>>=fun x2=>
 if decide ((p0.size:Int)>1)then
 gidx [0,0,192,224,240] (p0.size:Int)>>=fun x5=>
 if decide ((w64 ((w64 (x2))-x5))<0)then
 some (-1)
 else
 e315Ldp qq p0 (w64 ((w64 (x2))-x5)) 1
 else
 if decide ((w64 (x2))<0)then
 some (-1)
 else
 e315Ldp qq p0 (w64 (x2)) 1
def g315LdpE0(j:Nat->Value)(p0:ByteArray)(v3 v5:Int):=sp j 49 0 [(0,at' p0),(3,ai v3),(5,ai v5)]
def g315LdpS0(p0:ByteArray)(v3 v5:Int):LSt:=⟨[],0,[],0,[]⟩
abbrev K315 (p0:ByteArray) (r:Int) (C:Cf):Prop:=C 315 [] [at' p0] (ai r) [] 0
theorem q315:Qf 315 Tryz.f315:=⟨Tryz.func315,by kernel_rfl⟩
theorem k315{p0 r}(h:K315 p0 r Ci):K315 p0 r Ct:=⟨h,⟨tv,tv⟩,forall_nil,tv,forall_nil⟩
theorem l315Ldp:∀qq:Nat,(∀p0 v3 v5 r,e315Ldp qq p0 v3 v5=some r->(∀j,Dl Tryz.prog 0 (inn (inn (rgt (lft (rgt (rgt (rgt (rgt (rgt (rgt (bod Tryz.f315))))))))))) (g315LdpE0 j p0 v3 v5) (g315LdpS0 p0 v3 v5) (frameQ Tryz.prog 0 (FinQ Tryz.prog 0 Tryz.f315 (ai r) [] 0) [.blk 0,.seq (rgt (rgt (rgt (rgt (rgt (rgt (rgt (bod Tryz.f315))))))))]))):=by
 intro qq
 induction qq with
 |zero=>
  exact fun _ _ _ _ h=>nn h
 |succ qq ih=>
  intro p0 v3 v5 r h
  rw[e315Ldp]at h
  rcases spl h with⟨h8,h⟩|⟨h8,h⟩
  obtain⟨x9,h10,h⟩:=obind h
  exact fun j=>lH 4 [] [] [] [0,3,5] (oA 1 (ixStr9 h10)<|oB 1 h8 o0) (ih _ _ _ _ h)
  obtain⟨r11,h12,h⟩:=obind h
  have k:=oB 1 h8 o0
  rcases spl h with⟨h13,h⟩|⟨h13,h⟩
  obtain⟨r14,h15,h⟩:=obind h
  have k:=oC 1 [] (c350 h15)<|oK 0 [] h13 (c276 h12) k
  rcases spl h with⟨h16,h⟩|⟨h16,h⟩
  obtain rfl:=sj h
  exact fun j=>lF 0 [] (oB 0 h16 k)
  obtain rfl:=sj h
  exact fun j=>lF 0 [] (oB 0 h16 k)
  obtain rfl:=sj h
  exact fun j=>lF 1 [] (oK 0 [] h13 (c276 h12) k)
theorem c315{qq p0 r}(h:e315 qq p0=some r):K315 p0 r Ct:=by
 unfold e315 at h
 rcases spl h with⟨h1,h⟩|⟨h1,h⟩
 obtain rfl:=sj h
 exact k315 (tF q315 0 [] (oB 1 h1 o0))
 obtain⟨x2,h3,h⟩:=obind h
 have k:=oA 0 (ixStr9 h3)<|oB 1 h1 o0
 rcases spl h with⟨h4,h⟩|⟨h4,h⟩
 obtain⟨x5,h6,h⟩:=obind h
 have k:=oA 1 (ix41 (o:=.full) h6)<|oB 3 h4 k
 rcases spl h with⟨h7,h⟩|⟨h7,h⟩
 obtain rfl:=sj h
 exact k315 (tF q315 0 [] (oB 2 h7 k))
 exact k315 (tH q315 0 [] [] [] [0,3,5] (oB 2 h7 k) (l315Ldp _ _ _ _ _ h))
 have k:=oB 3 h4 k
 rcases spl h with⟨h8,h⟩|⟨h8,h⟩
 obtain rfl:=sj h
 exact k315 (tF q315 0 [] (oB 0 h8 k))
 exact k315 (tH q315 0 [] [] [] [0,3,5] (oB 0 h8 k) (l315Ldp _ _ _ _ _ h))
def e275Ldq:Nat->ByteArray->Int->Int->Option (Int×Int×Bool)
 |0,_,_,_=>none
 |qq+1,p0,p1,v7=>
 if decide (v7≤4)then
 if decide (v7≤(w64 ((p0.size:Int)-p1)))then
 gsub p0 p1 (w64 (p1+v7))>>=fun x5=>
 e315 qq x5>>=fun r7=>
 if decide (r7≥0)then
 some (r7,v7,true)
 else
 e275Ldq qq p0 p1 (w64 (v7+1))
 else
 some (0,0,false)
 else
 some (0,0,false)
def e275(qq:Nat)(p0:ByteArray)(p1:Int):Option (Int×Int×Bool):=
 if decide (p1<0)then
 some (0,0,false)
 else
 if decide (p1≥(p0.size:Int))then
 some (0,0,false)
 else
 e275Ldq qq p0 p1 1
def g275LdqE0(j:Nat->Value)(p0:ByteArray)(p1 v7:Int):=sp j 40 0 [(0,at' p0),(1,ai p1),(7,ai v7)]
def g275LdqS0(p0:ByteArray)(p1 v7:Int):LSt:=⟨[],0,[],0,[]⟩
abbrev K275 (p0:ByteArray) (p1:Int) (r:Int×Int×Bool) (C:Cf):Prop:=C 275 [] [at' p0,ai p1] (.tup [ai r.1,ai r.2.1,ab r.2.2]) [] 0
theorem q275:Qf 275 Tryz.f275:=⟨Tryz.func275,by kernel_rfl⟩
theorem k275{p0 p1 r}(h:K275 p0 p1 r Ci):K275 p0 p1 r Ct:=⟨h,⟨tv,tv,tv⟩,forall_nil,⟨tv,tv,tv,tv⟩,forall_nil⟩
theorem l275Ldq:∀qq:Nat,(∀p0 p1 v7 r,e275Ldq qq p0 p1 v7=some r->(∀j,Dl Tryz.prog 0 (inn (inn (rgt (lft (rgt (rgt (bod Tryz.f275))))))) (g275LdqE0 j p0 p1 v7) (g275LdqS0 p0 p1 v7) (frameQ Tryz.prog 0 (FinQ Tryz.prog 0 Tryz.f275 (.tup [ai r.1,ai r.2.1,ab r.2.2]) [] 0) [.blk 0,.seq (rgt (rgt (rgt (bod Tryz.f275))))]))):=by
 intro qq
 induction qq with
 |zero=>
  exact fun _ _ _ _ h=>nn h
 |succ qq ih=>
  intro p0 p1 v7 r h
  rw[e275Ldq]at h
  rcases spl h with⟨h3,h⟩|⟨h3,h⟩
  have k:=oB 0 h3 o0
  rcases spl h with⟨h4,h⟩|⟨h4,h⟩
  obtain⟨x5,h6,h⟩:=obind h
  obtain⟨r7,h8,h⟩:=obind h
  have k:=oC 0 [] (c315 h8)<|oA 1 (slStr9 h6)<|oB 2 h4 k
  rcases spl h with⟨h9,h⟩|⟨h9,h⟩
  obtain rfl:=sj h
  exact fun j=>lF 0 [] (oB 0 h9 k)
  exact fun j=>lH 1 [] [] [] [0,1,7] (oB 0 h9 k) (ih _ _ _ _ h)
  obtain rfl:=sj h
  exact fun j=>lF 0 [] (oB 2 h4 k)
  obtain rfl:=sj h
  exact fun j=>lF 0 [] (oB 0 h3 o0)
theorem c275{qq p0 p1 r}(h:e275 qq p0 p1=some r):K275 p0 p1 r Ct:=by
 unfold e275 at h
 rcases spl h with⟨h1,h⟩|⟨h1,h⟩
 obtain rfl:=sj h
 exact k275 (tF q275 0 [] (oB 0 h1 o0))
 have k:=oB 0 h1 o0
 rcases spl h with⟨h2,h⟩|⟨h2,h⟩
 obtain rfl:=sj h
 exact k275 (tF q275 0 [] (oB 1 h2 k))
 exact k275 (tH q275 0 [] [] [] [0,1,7] (oB 1 h2 k) (l275Ldq _ _ _ _ _ h))
def e203Ldr:Nat->ByteArray->(List Int)->Int->Option (List Int×Int×Int)
 |0,_,_,_=>none
 |qq+1,p0,v5,v6=>
 if decide (v6<(p0.size:Int))then
 e275 qq p0 v6>>=fun r3=>
 if r3.2.2 then
 gapp 8 v5 [r3.1]>>=fun l6=>
 e203Ldr qq p0 l6 (w64 (v6+r3.2.1))
 else
 some ([],v6,1)
 else
 some (v5,(p0.size:Int),0)
def e203(qq:Nat)(p0:ByteArray):Option (List Int×Int×Int):=
 if decide ((p0.size:Int)>65535)then
 some ([],0,2)
 else
 e203Ldr qq p0 [] 0
def g203LdrE0(j:Nat->Value)(p0:ByteArray)(v5:List Int)(v6:Int):=sp j 38 0 [(0,at' p0),(5,slv intC v5 (.st 0 1)),(6,ai v6)]
def g203LdrS0(p0:ByteArray)(v5:List Int)(v6:Int):LSt:=⟨[],0,[0],1,[]⟩
abbrev K203 (p0:ByteArray) (r:List Int×Int×Int) (C:Cf):Prop:=C 203 [] [at' p0] (.tup [.sl (flat intC r.1) (List.length r.1) .no,ai r.2.1,ai r.2.2]) [] 0
theorem q203:Qf 203 Tryz.f203:=⟨Tryz.func203,by kernel_rfl⟩
theorem k203{p0 r}(h:K203 p0 r Ci):K203 p0 r Ct:=⟨h,⟨tv,tv⟩,forall_nil,⟨dI _,tv,tv,tv⟩,forall_nil⟩
theorem l203Ldr:∀qq:Nat,(∀p0 v5 v6 r,e203Ldr qq p0 v5 v6=some r->(∀j,Dl Tryz.prog 0 (inn (inn (lft (rgt (rgt (rgt (rgt (bod Tryz.f203)))))))) (g203LdrE0 j p0 v5 v6) (g203LdrS0 p0 v5 v6) (frameQ Tryz.prog 0 (FinQ Tryz.prog 0 Tryz.f203 (.tup [.sl (flat intC r.1) (List.length r.1) .no,ai r.2.1,ai r.2.2]) [] 0) [.blk 0,.seq (rgt (rgt (rgt (rgt (rgt (bod Tryz.f203))))))]))):=by
 intro qq
 induction qq with
 |zero=>
  exact fun _ _ _ _ h=>nn h
 |succ qq ih=>
  intro p0 v5 v6 r h
  rw[e203Ldr]at h
  rcases spl h with⟨h2,h⟩|⟨h2,h⟩
  obtain⟨r3,h4,h⟩:=obind h
  have k:=oC 0 [] (c275 h4)<|oB 1 h2 o0
  rcases spl h with⟨h5,h⟩|⟨h5,h⟩
  obtain⟨l6,h7,h⟩:=obind h
  exact fun j=>lH 1 [] [] [1] [0,5,6] (oD (dI l6)<|oP 2 (apS41 h7 (by simp))<|oB 2 h5 k) (ih _ _ _ _ h)
  obtain rfl:=sj h
  exact fun j=>lF 1 [] (oD (dI ([]:List Int))<|oB 2 h5 k)
  obtain rfl:=sj h
  exact fun j=>lF 1 [] (oD (dI v5)<|oB 1 h2 o0)
theorem c203{qq p0 r}(h:e203 qq p0=some r):K203 p0 r Ct:=by
 unfold e203 at h
 rcases spl h with⟨h1,h⟩|⟨h1,h⟩
 obtain rfl:=sj h
 exact k203 (tF q203 0 [] (oD (dI ([]:List Int))<|oB 1 h1 o0))
 exact k203 (tH q203 1 [(none,5,1)] [] [0] [0,5,6] (oD (dI ([]:List Int))<|oB 1 h1 o0) (l203Ldr _ _ _ _ _ h))
def e316Lds:Nat->(List Int)->Int->Int->Option (Bool)
 |0,_,_,_=>none
 |qq+1,p0,p1,v5=>
 if decide (v5<(List.length p0:Int))then
 gidx p0 v5>>=fun x2=>
 if x2==p1 then
 some true
 else
 e316Lds qq p0 p1 (w64 (v5+1))
 else
 some false
def e316(qq:Nat)(p0:List Int)(p1:Int):Option (Bool):=
 e316Lds qq p0 p1 0
def g316LdsE0(j:Nat->Value)(p0:List Int)(p1 v5:Int):=sp j 18 0 [(0,slv intC p0 .no),(1,ai p1),(5,ai v5)]
def g316LdsS0(p0:List Int)(p1 v5:Int):LSt:=⟨[],0,[],0,[]⟩
abbrev K316 (p0:List Int) (p1:Int) (r:Bool) (C:Cf):Prop:=C 316 [] [slv intC p0 .no,ai p1] (ab r) [] 0
theorem q316:Qf 316 Tryz.f316:=⟨Tryz.func316,by kernel_rfl⟩
theorem k316{p0 p1 r}(h:K316 p0 p1 r Ci):K316 p0 p1 r Ct:=⟨h,⟨⟨tv,dI _⟩,tv,tv⟩,forall_nil,tv,forall_nil⟩
theorem l316Lds:∀qq:Nat,(∀p0 p1 v5 r,e316Lds qq p0 p1 v5=some r->(∀j,Dl Tryz.prog 0 (inn (inn (rgt (lft (rgt (bod Tryz.f316)))))) (g316LdsE0 j p0 p1 v5) (g316LdsS0 p0 p1 v5) (frameQ Tryz.prog 0 (FinQ Tryz.prog 0 Tryz.f316 (ab r) [] 0) [.blk 0,.seq (rgt (rgt (bod Tryz.f316)))]))):=by
 intro qq
 induction qq with
 |zero=>
  exact fun _ _ _ _ h=>nn h
 |succ qq ih=>
  intro p0 p1 v5 r h
  rw[e316Lds]at h
  rcases spl h with⟨h1,h⟩|⟨h1,h⟩
  obtain⟨x2,h3,h⟩:=obind h
  have k:=oA 0 (ix41 (o:=.no) h3)<|oB 1 h1 o0
  rcases spl h with⟨h4,h⟩|⟨h4,h⟩
  obtain rfl:=sj h
  exact fun j=>lF 0 [] (oB 1 h4 k)
  exact fun j=>lH 1 [] [] [] [0,1,5] (oD (dI p0)<|oB 1 h4 k) (ih _ _ _ _ h)
  obtain rfl:=sj h
  exact fun j=>lF 0 [] (oB 1 h1 o0)
theorem c316{qq p0 p1 r}(h:e316 qq p0 p1=some r):K316 p0 p1 r Ct:=by
 unfold e316 at h
 exact k316 (tH q316 0 [] [] [] [0,1,5] (oD (dI p0) o0) (l316Lds _ _ _ _ _ h))
def e277(qq:Nat)(p0:Int):Option (Bool):=
 e316 qq [40,41,123,125,58,61,46,44,59,124,92,955,8594,45,62] p0>>=fun r1=>
 some r1
abbrev K277 (p0:Int) (r:Bool) (C:Cf):Prop:=C 277 [] [ai p0] (ab r) [] 0
theorem q277:Qf 277 Tryz.f277:=⟨Tryz.func277,by kernel_rfl⟩
theorem k277{p0 r}(h:K277 p0 r Ci):K277 p0 r Ct:=⟨h,⟨tv,tv⟩,forall_nil,tv,forall_nil⟩
theorem c277{qq p0 r}(h:e277 qq p0=some r):K277 p0 r Ct:=by
 unfold e277 at h
 obtain⟨r1,h2,h⟩:=obind h
 obtain rfl:=sj h
 exact k277 (tF q277 0 [] (oC 1 [] (c316 h2) o0))
def e205(qq:Nat)(p0:Int):Option (Bool):=
 if decide (p0≥97)then
 if decide (p0≤122)then
 some true
 else
 if decide (p0≥65)then
 if decide (p0≤90)then
 some true
 else
 if decide (p0≥128)then
 e276 qq p0>>=fun r6=>
 if r6 then
 e277 qq p0>>=fun r9=>
 if r9 then
 some false
 else
 if p0 != 160 then
 if decide (p0≥8192)then
 some (!(decide (p0≤8303)))
 else
 some true
 else
 some false
 else
 some false
 else
 some false
 else
 if decide (p0≥128)then
 e276 qq p0>>=fun r15=>
 if r15 then
 e277 qq p0>>=fun r18=>
 if r18 then
 some false
 else
 if p0 != 160 then
 if decide (p0≥8192)then
 some (!(decide (p0≤8303)))
 else
 some true
 else
 some false
 else
 some false
 else
 some false
 else
 if decide (p0≥65)then
 if decide (p0≤90)then
 some true
 else
 if decide (p0≥128)then
 e276 qq p0>>=fun r26=>
 if r26 then
 e277 qq p0>>=fun r29=>
 if r29 then
 some false
 else
 if p0 != 160 then
 if decide (p0≥8192)then
 some (!(decide (p0≤8303)))
 else
 some true
 else
 some false
 else
 some false
 else
 some false
 else
 if decide (p0≥128)then
 e276 qq p0>>=fun r35=>
 if r35 then
 e277 qq p0>>=fun r38=>
 if r38 then
 some false
 else
 if p0 != 160 then
 if decide (p0≥8192)then
 some (!(decide (p0≤8303)))
 else
 some true
 else
 some false
 else
 some false
 else
 some false
abbrev K205 (p0:Int) (r:Bool) (C:Cf):Prop:=C 205 [] [ai p0] (ab r) [] 0
theorem q205:Qf 205 Tryz.f205:=⟨Tryz.func205,by kernel_rfl⟩
theorem k205{p0 r}(h:K205 p0 r Ci):K205 p0 r Ct:=⟨h,⟨tv,tv⟩,forall_nil,tv,forall_nil⟩
theorem c205{qq p0 r}(h:e205 qq p0=some r):K205 p0 r Ct:=by
 unfold e205 at h
 rcases spl h with⟨h1,h⟩|⟨h1,h⟩
 have k:=oB 0 h1 o0
 rcases spl h with⟨h2,h⟩|⟨h2,h⟩
 obtain rfl:=sj h
 exact k205 (tF q205 0 [] (oB 0 h2 k))
 have k:=oB 0 h2 k
 rcases spl h with⟨h3,h⟩|⟨h3,h⟩
 have k:=oB 0 h3 k
 rcases spl h with⟨h4,h⟩|⟨h4,h⟩
 obtain rfl:=sj h
 exact k205 (tF q205 0 [] (oB 0 h4 k))
 have k:=oB 0 h4 k
 rcases spl h with⟨h5,h⟩|⟨h5,h⟩
 obtain⟨r6,h7,h⟩:=obind h
 have k:=oB 0 h5 k
 rcases spl h with⟨h8,h⟩|⟨h8,h⟩
 obtain⟨r9,h10,h⟩:=obind h
 have k:=oK 0 [] h8 (c276 h7) k
 rcases spl h with⟨h11,h⟩|⟨h11,h⟩
 obtain rfl:=sj h
 exact k205 (tF q205 1 [] (oK 0 [] h11 (c277 h10) k))
 have k:=oK 0 [] h11 (c277 h10) k
 rcases spl h with⟨h12,h⟩|⟨h12,h⟩
 have k:=oB 1 h12 k
 rcases spl h with⟨h13,h⟩|⟨h13,h⟩
 obtain rfl:=sj h
 exact k205 (tF q205 2 [] (oB 0 h13 k))
 obtain rfl:=sj h
 exact k205 (tF q205 1 [] (oB 0 h13 k))
 obtain rfl:=sj h
 exact k205 (tF q205 0 [] (oB 1 h12 k))
 obtain rfl:=sj h
 exact k205 (tF q205 0 [] (oK 0 [] h8 (c276 h7) k))
 obtain rfl:=sj h
 exact k205 (tF q205 0 [] (oB 0 h5 k))
 have k:=oB 0 h3 k
 rcases spl h with⟨h14,h⟩|⟨h14,h⟩
 obtain⟨r15,h16,h⟩:=obind h
 have k:=oB 0 h14 k
 rcases spl h with⟨h17,h⟩|⟨h17,h⟩
 obtain⟨r18,h19,h⟩:=obind h
 have k:=oK 0 [] h17 (c276 h16) k
 rcases spl h with⟨h20,h⟩|⟨h20,h⟩
 obtain rfl:=sj h
 exact k205 (tF q205 1 [] (oK 0 [] h20 (c277 h19) k))
 have k:=oK 0 [] h20 (c277 h19) k
 rcases spl h with⟨h21,h⟩|⟨h21,h⟩
 have k:=oB 1 h21 k
 rcases spl h with⟨h22,h⟩|⟨h22,h⟩
 obtain rfl:=sj h
 exact k205 (tF q205 2 [] (oB 0 h22 k))
 obtain rfl:=sj h
 exact k205 (tF q205 1 [] (oB 0 h22 k))
 obtain rfl:=sj h
 exact k205 (tF q205 0 [] (oB 1 h21 k))
 obtain rfl:=sj h
 exact k205 (tF q205 0 [] (oK 0 [] h17 (c276 h16) k))
 obtain rfl:=sj h
 exact k205 (tF q205 0 [] (oB 0 h14 k))
 have k:=oB 0 h1 o0
 rcases spl h with⟨h23,h⟩|⟨h23,h⟩
 have k:=oB 0 h23 k
 rcases spl h with⟨h24,h⟩|⟨h24,h⟩
 obtain rfl:=sj h
 exact k205 (tF q205 0 [] (oB 0 h24 k))
 have k:=oB 0 h24 k
 rcases spl h with⟨h25,h⟩|⟨h25,h⟩
 obtain⟨r26,h27,h⟩:=obind h
 have k:=oB 0 h25 k
 rcases spl h with⟨h28,h⟩|⟨h28,h⟩
 obtain⟨r29,h30,h⟩:=obind h
 have k:=oK 0 [] h28 (c276 h27) k
 rcases spl h with⟨h31,h⟩|⟨h31,h⟩
 obtain rfl:=sj h
 exact k205 (tF q205 1 [] (oK 0 [] h31 (c277 h30) k))
 have k:=oK 0 [] h31 (c277 h30) k
 rcases spl h with⟨h32,h⟩|⟨h32,h⟩
 have k:=oB 1 h32 k
 rcases spl h with⟨h33,h⟩|⟨h33,h⟩
 obtain rfl:=sj h
 exact k205 (tF q205 2 [] (oB 0 h33 k))
 obtain rfl:=sj h
 exact k205 (tF q205 1 [] (oB 0 h33 k))
 obtain rfl:=sj h
 exact k205 (tF q205 0 [] (oB 1 h32 k))
 obtain rfl:=sj h
 exact k205 (tF q205 0 [] (oK 0 [] h28 (c276 h27) k))
 obtain rfl:=sj h
 exact k205 (tF q205 0 [] (oB 0 h25 k))
 have k:=oB 0 h23 k
 rcases spl h with⟨h34,h⟩|⟨h34,h⟩
 obtain⟨r35,h36,h⟩:=obind h
 have k:=oB 0 h34 k
 rcases spl h with⟨h37,h⟩|⟨h37,h⟩
 obtain⟨r38,h39,h⟩:=obind h
 have k:=oK 0 [] h37 (c276 h36) k
 rcases spl h with⟨h40,h⟩|⟨h40,h⟩
 obtain rfl:=sj h
 exact k205 (tF q205 1 [] (oK 0 [] h40 (c277 h39) k))
 have k:=oK 0 [] h40 (c277 h39) k
 rcases spl h with⟨h41,h⟩|⟨h41,h⟩
 have k:=oB 1 h41 k
 rcases spl h with⟨h42,h⟩|⟨h42,h⟩
 obtain rfl:=sj h
 exact k205 (tF q205 2 [] (oB 0 h42 k))
 obtain rfl:=sj h
 exact k205 (tF q205 1 [] (oB 0 h42 k))
 obtain rfl:=sj h
 exact k205 (tF q205 0 [] (oB 1 h41 k))
 obtain rfl:=sj h
 exact k205 (tF q205 0 [] (oK 0 [] h37 (c276 h36) k))
 obtain rfl:=sj h
 exact k205 (tF q205 0 [] (oB 0 h34 k))
def e206(qq:Nat)(p0:Int):Option (Bool):=
 if decide (p0≥48)then
 some (decide (p0≤57))
 else
 some false
abbrev K206 (p0:Int) (r:Bool) (C:Cf):Prop:=C 206 [] [ai p0] (ab r) [] 0
theorem q206:Qf 206 Tryz.f206:=⟨Tryz.func206,by kernel_rfl⟩
theorem k206{p0 r}(h:K206 p0 r Ci):K206 p0 r Ct:=⟨h,⟨tv,tv⟩,forall_nil,tv,forall_nil⟩
theorem c206{qq p0 r}(h:e206 qq p0=some r):K206 p0 r Ct:=by
 unfold e206 at h
 rcases spl h with⟨h1,h⟩|⟨h1,h⟩
 obtain rfl:=sj h
 exact k206 (tF q206 1 [] (oB 0 h1 o0))
 obtain rfl:=sj h
 exact k206 (tF q206 0 [] (oB 0 h1 o0))
def e139Ldt:Nat->(List ByteArray)->ByteArray->Int->Int->Option (Int)
 |0,_,_,_,_=>none
 |qq+1,p0,p1,v5,v6=>
 if decide (v6<(List.length p0:Int))then
 gidx p0 v6>>=fun x2=>
 if x2.toList==p1.toList then
 e139Ldt qq p0 p1 v6 (w64 (v6+1))
 else
 e139Ldt qq p0 p1 v5 (w64 (v6+1))
 else
 some v5
def e139(qq:Nat)(p0:List ByteArray)(p1:ByteArray):Option (Int):=
 e139Ldt qq p0 p1 (-1) 0
def g139LdtE0(j:Nat->Value)(p0:List ByteArray)(p1:ByteArray)(v5 v6:Int):=sp j 21 0 [(0,slv strC p0 .no),(1,at' p1),(5,ai v5),(6,ai v6)]
def g139LdtS0(p0:List ByteArray)(p1:ByteArray)(v5 v6:Int):LSt:=⟨[],0,[],0,[]⟩
abbrev K139 (p0:List ByteArray) (p1:ByteArray) (r:Int) (C:Cf):Prop:=C 139 [] [slv strC p0 .no,at' p1] (ai r) [] 0
theorem q139:Qf 139 Tryz.f139:=⟨Tryz.func139,by kernel_rfl⟩
theorem k139{p0 p1 r}(h:K139 p0 p1 r Ci):K139 p0 p1 r Ct:=⟨h,⟨⟨tv,dS _⟩,tv,tv⟩,forall_nil,tv,forall_nil⟩
theorem l139Ldt:∀qq:Nat,(∀p0 p1 v5 v6 r,e139Ldt qq p0 p1 v5 v6=some r->(∀j,Dl Tryz.prog 0 (inn (inn (rgt (lft (rgt (rgt (bod Tryz.f139))))))) (g139LdtE0 j p0 p1 v5 v6) (g139LdtS0 p0 p1 v5 v6) (frameQ Tryz.prog 0 (FinQ Tryz.prog 0 Tryz.f139 (ai r) [] 0) [.blk 0,.seq (rgt (rgt (rgt (bod Tryz.f139))))]))):=by
 intro qq
 induction qq with
 |zero=>
  exact fun _ _ _ _ _ h=>nn h
 |succ qq ih=>
  intro p0 p1 v5 v6 r h
  rw[e139Ldt]at h
  rcases spl h with⟨h1,h⟩|⟨h1,h⟩
  obtain⟨x2,h3,h⟩:=obind h
  have k:=oA 0 (ix141 (o:=.no) h3)<|oB 1 h1 o0
  rcases spl h with⟨h4,h⟩|⟨h4,h⟩
  exact fun j=>lH 1 [] [] [] [0,1,5,6] (oD (dS p0)<|oB 1 h4 k) (ih _ _ _ _ _ h)
  exact fun j=>lH 1 [] [] [] [0,1,5,6] (oD (dS p0)<|oB 1 h4 k) (ih _ _ _ _ _ h)
  obtain rfl:=sj h
  exact fun j=>lF 0 [] (oB 1 h1 o0)
theorem c139{qq p0 p1 r}(h:e139 qq p0 p1=some r):K139 p0 p1 r Ct:=by
 unfold e139 at h
 exact k139 (tH q139 0 [] [] [] [0,1,5,6] (oD (dS p0) o0) (l139Ldt _ _ _ _ _ _ h))
def e204(qq:Nat)(p0:ByteArray):Option (Bool):=
 if p0.toList==(⟨#[100,97,116,97]⟩:ByteArray).toList then
 some true
 else
 if p0.toList==(⟨#[114,101,99,111,114,100]⟩:ByteArray).toList then
 some true
 else
 if p0.toList==(⟨#[100,101,102]⟩:ByteArray).toList then
 some true
 else
 some (p0.toList==(⟨#[83,101,116]⟩:ByteArray).toList)
abbrev K204 (p0:ByteArray) (r:Bool) (C:Cf):Prop:=C 204 [] [at' p0] (ab r) [] 0
theorem q204:Qf 204 Tryz.f204:=⟨Tryz.func204,by kernel_rfl⟩
theorem k204{p0 r}(h:K204 p0 r Ci):K204 p0 r Ct:=⟨h,⟨tv,tv⟩,forall_nil,tv,forall_nil⟩
theorem c204{qq p0 r}(h:e204 qq p0=some r):K204 p0 r Ct:=by
 unfold e204 at h
 rcases spl h with⟨h1,h⟩|⟨h1,h⟩
 obtain rfl:=sj h
 exact k204 (tF q204 0 [] (oB 0 h1 o0))
 have k:=oB 0 h1 o0
 rcases spl h with⟨h2,h⟩|⟨h2,h⟩
 obtain rfl:=sj h
 exact k204 (tF q204 0 [] (oB 0 h2 k))
 have k:=oB 0 h2 k
 rcases spl h with⟨h3,h⟩|⟨h3,h⟩
 obtain rfl:=sj h
 exact k204 (tF q204 0 [] (oB 0 h3 k))
 obtain rfl:=sj h
 exact k204 (tF q204 1 [] (oB 0 h3 k))
def e140Ldu:Nat->(List Int×Int×Int)->Int->Option (Bool)
 |0,_,_=>none
 |qq+1,r1,v6=>
 if decide (v6<(List.length r1.1:Int))then
 gidx r1.1 v6>>=fun x11=>
 e205 qq x11>>=fun r13=>
 if r13 then
 e140Ldu qq r1 (w64 (v6+1))
 else
 if x11 != 95 then
 if v6==0 then
 some false
 else
 e206 qq x11>>=fun r18=>
 if r18 then
 e140Ldu qq r1 (w64 (v6+1))
 else
 if x11 != 39 then
 some false
 else
 e140Ldu qq r1 (w64 (v6+1))
 else
 e140Ldu qq r1 (w64 (v6+1))
 else
 some true
def e140(qq:Nat)(p0:ByteArray):Option (Bool):=
 e203 qq p0>>=fun r1=>
 if r1.2.2 != 0 then
 some false
 else
 if (p0.size:Int)==0 then
 some false
 else
 if decide ((p0.size:Int)>40)then
 some false
 else
 e204 qq p0>>=fun r6=>
 if r6 then
 some false
 else
 if p0.toList==(⟨#[95]⟩:ByteArray).toList then
 some false
 else
 e140Ldu qq r1 0
def g140LduE0(j:Nat->Value)(r1:List Int×Int×Int)(v6:Int):=sp j 71 0 [(3,slv intC r1.1 .no),(6,ai v6)]
def g140LduS0(r1:List Int×Int×Int)(v6:Int):LSt:=⟨[],0,[],0,[]⟩
abbrev K140 (p0:ByteArray) (r:Bool) (C:Cf):Prop:=C 140 [] [at' p0] (ab r) [] 0
theorem q140:Qf 140 Tryz.f140:=⟨Tryz.func140,by kernel_rfl⟩
theorem k140{p0 r}(h:K140 p0 r Ci):K140 p0 r Ct:=⟨h,⟨tv,tv⟩,forall_nil,tv,forall_nil⟩
theorem l140Ldu:∀qq:Nat,(∀r1 v6 r,e140Ldu qq r1 v6=some r->(∀j,Dl Tryz.prog 0 (inn (inn (rgt (lft (rgt (rgt (rgt (bod Tryz.f140)))))))) (g140LduE0 j r1 v6) (g140LduS0 r1 v6) (frameQ Tryz.prog 0 (FinQ Tryz.prog 0 Tryz.f140 (ab r) [] 0) [.blk 0,.seq (rgt (rgt (rgt (rgt (bod Tryz.f140)))))]))):=by
 intro qq
 induction qq with
 |zero=>
  exact fun _ _ _ h=>nn h
 |succ qq ih=>
  intro r1 v6 r h
  rw[e140Ldu]at h
  rcases spl h with⟨h10,h⟩|⟨h10,h⟩
  obtain⟨x11,h12,h⟩:=obind h
  obtain⟨r13,h14,h⟩:=obind h
  have k:=oA 0 (ix41 (o:=.no) h12)<|oB 1 h10 o0
  rcases spl h with⟨h15,h⟩|⟨h15,h⟩
  exact fun j=>lH 2 [] [] [] [3,6] (oD (dI r1.1)<|oK 1 [] h15 (c205 h14) k) (ih _ _ _ h)
  have k:=oA 1 (ix41 (o:=.no) h12)<|oK 1 [] h15 (c205 h14) k
  rcases spl h with⟨h16,h⟩|⟨h16,h⟩
  have k:=oB 1 h16 k
  rcases spl h with⟨h17,h⟩|⟨h17,h⟩
  obtain rfl:=sj h
  exact fun j=>lF 0 [] (oB 0 h17 k)
  obtain⟨r18,h19,h⟩:=obind h
  have k:=oA 0 (ix41 (o:=.no) h12)<|oB 0 h17 k
  rcases spl h with⟨h20,h⟩|⟨h20,h⟩
  exact fun j=>lH 2 [] [] [] [3,6] (oD (dI r1.1)<|oK 1 [] h20 (c206 h19) k) (ih _ _ _ h)
  have k:=oA 1 (ix41 (o:=.no) h12)<|oK 1 [] h20 (c206 h19) k
  rcases spl h with⟨h21,h⟩|⟨h21,h⟩
  obtain rfl:=sj h
  exact fun j=>lF 0 [] (oB 1 h21 k)
  exact fun j=>lH 1 [] [] [] [3,6] (oD (dI r1.1)<|oB 1 h21 k) (ih _ _ _ h)
  exact fun j=>lH 1 [] [] [] [3,6] (oD (dI r1.1)<|oB 1 h16 k) (ih _ _ _ h)
  obtain rfl:=sj h
  exact fun j=>lF 0 [] (oB 1 h10 o0)
theorem c140{qq p0 r}(h:e140 qq p0=some r):K140 p0 r Ct:=by
 unfold e140 at h
 obtain⟨r1,h2,h⟩:=obind h
 have k:=oC 0 [] (c203 h2) o0
 rcases spl h with⟨h3,h⟩|⟨h3,h⟩
 obtain rfl:=sj h
 exact k140 (tF q140 0 [] (oB 3 h3 k))
 have k:=oB 3 h3 k
 rcases spl h with⟨h4,h⟩|⟨h4,h⟩
 obtain rfl:=sj h
 exact k140 (tF q140 0 [] (oB 1 h4 k))
 have k:=oB 1 h4 k
 rcases spl h with⟨h5,h⟩|⟨h5,h⟩
 obtain rfl:=sj h
 exact k140 (tF q140 0 [] (oB 1 h5 k))
 obtain⟨r6,h7,h⟩:=obind h
 have k:=oB 1 h5 k
 rcases spl h with⟨h8,h⟩|⟨h8,h⟩
 obtain rfl:=sj h
 exact k140 (tF q140 0 [] (oK 0 [] h8 (c204 h7) k))
 have k:=oK 0 [] h8 (c204 h7) k
 rcases spl h with⟨h9,h⟩|⟨h9,h⟩
 obtain rfl:=sj h
 exact k140 (tF q140 0 [] (oB 0 h9 k))
 exact k140 (tH q140 0 [] [] [] [3,6] (oD (dI r1.1)<|oB 0 h9 k) (l140Ldu _ _ _ _ h))
def e73Ldv:Nat->(List ByteArray)->Int->Option (Bool)
 |0,_,_=>none
 |qq+1,p0,v3=>
 if decide (v3<(List.length p0:Int))then
 gidx p0 v3>>=fun x2=>
 e139 qq p0 x2>>=fun r4=>
 if r4 != v3 then
 some false
 else
 e73Ldv qq p0 (w64 (v3+1))
 else
 some true
def e73(qq:Nat)(p0:List ByteArray):Option (Bool):=
 e73Ldv qq p0 0
def g73LdvE0(j:Nat->Value)(p0:List ByteArray)(v3:Int):=sp j 18 0 [(0,slv strC p0 .no),(3,ai v3)]
def g73LdvS0(p0:List ByteArray)(v3:Int):LSt:=⟨[],0,[],0,[]⟩
abbrev K73 (p0:List ByteArray) (r:Bool) (C:Cf):Prop:=C 73 [] [slv strC p0 .no] (ab r) [] 0
theorem q73:Qf 73 Tryz.f73:=⟨Tryz.func73,by kernel_rfl⟩
theorem k73{p0 r}(h:K73 p0 r Ci):K73 p0 r Ct:=⟨h,⟨⟨tv,dS _⟩,tv⟩,forall_nil,tv,forall_nil⟩
theorem l73Ldv:∀qq:Nat,(∀p0 v3 r,e73Ldv qq p0 v3=some r->(∀j,Dl Tryz.prog 0 (inn (inn (rgt (lft (rgt (bod Tryz.f73)))))) (g73LdvE0 j p0 v3) (g73LdvS0 p0 v3) (frameQ Tryz.prog 0 (FinQ Tryz.prog 0 Tryz.f73 (ab r) [] 0) [.blk 0,.seq (rgt (rgt (bod Tryz.f73)))]))):=by
 intro qq
 induction qq with
 |zero=>
  exact fun _ _ _ h=>nn h
 |succ qq ih=>
  intro p0 v3 r h
  rw[e73Ldv]at h
  rcases spl h with⟨h1,h⟩|⟨h1,h⟩
  obtain⟨x2,h3,h⟩:=obind h
  obtain⟨r4,h5,h⟩:=obind h
  have k:=oC 1 [] (c139 h5)<|oA 0 (ix141 (o:=.no) h3)<|oB 1 h1 o0
  rcases spl h with⟨h6,h⟩|⟨h6,h⟩
  obtain rfl:=sj h
  exact fun j=>lF 0 [] (oB 0 h6 k)
  exact fun j=>lH 1 [] [] [] [0,3] (oD (dS p0)<|oB 0 h6 k) (ih _ _ _ h)
  obtain rfl:=sj h
  exact fun j=>lF 0 [] (oB 1 h1 o0)
theorem c73{qq p0 r}(h:e73 qq p0=some r):K73 p0 r Ct:=by
 unfold e73 at h
 exact k73 (tH q73 0 [] [] [] [0,3] (oD (dS p0) o0) (l73Ldv _ _ _ _ h))
mutual
def e70:Nat->Tm->Option (Bool)
 |0,_=>none
 |qq+1,p0=>
 if p0.k==1 then
 if (List.length p0.sub:Int) != 0 then
 some false
 else
 if decide (p0.n<0)then
 some false
 else
 if decide (p0.n>1048576)then
 some false
 else
 if p0.k==7 then
 gidx p0.sub 0>>=fun x6=>
 if x6.k != 2 then
 some false
 else
 e70Ldw qq p0 0 0
 else
 e70Ldw qq p0 0 0
 else
 if p0.k==6 then
 if (List.length p0.sub:Int) != 0 then
 some false
 else
 if decide (p0.n<0)then
 some false
 else
 if decide (p0.n>1048576)then
 some false
 else
 if p0.k==7 then
 gidx p0.sub 0>>=fun x14=>
 if x14.k != 2 then
 some false
 else
 e70Ldw qq p0 0 0
 else
 e70Ldw qq p0 0 0
 else
 if p0.k==8 then
 if (List.length p0.sub:Int) != 0 then
 some false
 else
 if decide (p0.n<0)then
 some false
 else
 if decide (p0.n>1048576)then
 some false
 else
 if p0.k==7 then
 gidx p0.sub 0>>=fun x22=>
 if x22.k != 2 then
 some false
 else
 e70Ldw qq p0 0 0
 else
 e70Ldw qq p0 0 0
 else
 if p0.k==2 then
 if (List.length p0.sub:Int) != 0 then
 some false
 else
 if decide (p0.n<0)then
 some false
 else
 if decide (p0.n>7)then
 some false
 else
 if p0.k==7 then
 gidx p0.sub 0>>=fun x30=>
 if x30.k != 2 then
 some false
 else
 e70Ldw qq p0 0 0
 else
 e70Ldw qq p0 0 0
 else
 if p0.k==3 then
 if (List.length p0.sub:Int) != 2 then
 some false
 else
 if decide (p0.n<0)then
 some false
 else
 if decide (p0.n>0)then
 some false
 else
 if p0.k==7 then
 gidx p0.sub 0>>=fun x38=>
 if x38.k != 2 then
 some false
 else
 e70Ldw qq p0 2 0
 else
 e70Ldw qq p0 2 0
 else
 if p0.k==4 then
 if (List.length p0.sub:Int) != 2 then
 some false
 else
 if decide (p0.n<0)then
 some false
 else
 if decide (p0.n>0)then
 some false
 else
 if p0.k==7 then
 gidx p0.sub 0>>=fun x46=>
 if x46.k != 2 then
 some false
 else
 e70Ldw qq p0 2 0
 else
 e70Ldw qq p0 2 0
 else
 if p0.k==5 then
 if (List.length p0.sub:Int) != 2 then
 some false
 else
 if decide (p0.n<0)then
 some false
 else
 if decide (p0.n>0)then
 some false
 else
 if p0.k==7 then
 gidx p0.sub 0>>=fun x54=>
 if x54.k != 2 then
 some false
 else
 e70Ldw qq p0 2 0
 else
 e70Ldw qq p0 2 0
 else
 if p0.k==7 then
 if (List.length p0.sub:Int) != 1 then
 some false
 else
 if decide (p0.n<0)then
 some false
 else
 if decide (p0.n>1048576)then
 some false
 else
 gidx p0.sub 0>>=fun x61=>
 if x61.k != 2 then
 some false
 else
 e70Ldw qq p0 1 0
 else
 some false
def e70Ldw:Nat->Tm->Int->Int->Option (Bool)
 |0,_,_,_=>none
 |qq+1,p0,v3,v5=>
 if decide (v5<v3)then
 gidx p0.sub v5>>=fun x10=>
 e70 qq x10>>=fun r12=>
 if r12 then
 e70Ldw qq p0 v3 (w64 (v5+1))
 else
 some false
 else
 some true
end
def g70LdwE0(j:Nat->Value)(p0:Tm)(v3 v5:Int):=sp j 61 0 [(1,.mp 0 0),(3,ai v3),(5,ai v5)]
def g70LdwS0(p0:Tm)(v3 v5:Int):LSt:=⟨[(0,.cells [ai p0.k,ai p0.n,slv tmCells p0.sub .no])],1,[],0,[]⟩
abbrev K70 (p0:Tm) (r:Bool) (C:Cf):Prop:=C 70 [] [tmA p0] (ab r) [] 0
theorem q70:Qf 70 Tryz.f70:=⟨Tryz.func70,by kernel_rfl⟩
theorem k70{p0 r}(h:K70 p0 r Ci):K70 p0 r Ct:=⟨h,⟨⟨tv,tv,⟨tv,dT _⟩,tv⟩,tv⟩,forall_nil,tv,forall_nil⟩
theorem a70_70Ldw:∀qq:Nat,(∀p0 r,e70 qq p0=some r->K70 p0 r Ct)∧(∀p0 v3 v5 r,e70Ldw qq p0 v3 v5=some r->(∀j,Dl Tryz.prog 0 (inn (inn (rgt (lft (rgt (rgt (rgt (rgt (rgt (bod Tryz.f70)))))))))) (g70LdwE0 j p0 v3 v5) (g70LdwS0 p0 v3 v5) (frameQ Tryz.prog 0 (FinQ Tryz.prog 0 Tryz.f70 (ab r) [] 0) [.blk 1,.seq (rgt (rgt (rgt (rgt (rgt (rgt (bod Tryz.f70)))))))]))):=by
 intro qq
 induction qq with
 |zero=>
  exact⟨fun _ _ h=>nn h,fun _ _ _ _ h=>nn h⟩
 |succ qq ih=>
  obtain⟨ih70,ih70Ldw⟩:=ih
  refine⟨?_,?_⟩
  intro p0 r h
  rw[e70]at h
  rcases spl h with⟨h1,h⟩|⟨h1,h⟩
  have k:=oB 1 h1 o0
  rcases spl h with⟨h2,h⟩|⟨h2,h⟩
  obtain rfl:=sj h
  exact k70 (tF q70 0 [] (oB 2 h2 k))
  have k:=oB 2 h2 k
  rcases spl h with⟨h3,h⟩|⟨h3,h⟩
  obtain rfl:=sj h
  exact k70 (tF q70 0 [] (oB 1 h3 k))
  have k:=oB 1 h3 k
  rcases spl h with⟨h4,h⟩|⟨h4,h⟩
  obtain rfl:=sj h
  exact k70 (tF q70 0 [] (oB 1 h4 k))
  have k:=oB 1 h4 k
  rcases spl h with⟨h5,h⟩|⟨h5,h⟩
  obtain⟨x6,h7,h⟩:=obind h
  have k:=oA 1 (ix23 (o:=.no) h7)<|oB 1 h5 k
  rcases spl h with⟨h8,h⟩|⟨h8,h⟩
  obtain rfl:=sj h
  exact k70 (tF q70 0 [] (oB 1 h8 k))
  exact k70 (tH q70 0 [] [0] [] [1,3,5] (oD (dT p0.sub)<|oB 1 h8 k) (ih70Ldw _ _ _ _ h))
  exact k70 (tH q70 0 [] [0] [] [1,3,5] (oD (dT p0.sub)<|oB 1 h5 k) (ih70Ldw _ _ _ _ h))
  have k:=oB 1 h1 o0
  rcases spl h with⟨h9,h⟩|⟨h9,h⟩
  have k:=oB 0 h9 k
  rcases spl h with⟨h10,h⟩|⟨h10,h⟩
  obtain rfl:=sj h
  exact k70 (tF q70 0 [] (oB 2 h10 k))
  have k:=oB 2 h10 k
  rcases spl h with⟨h11,h⟩|⟨h11,h⟩
  obtain rfl:=sj h
  exact k70 (tF q70 0 [] (oB 1 h11 k))
  have k:=oB 1 h11 k
  rcases spl h with⟨h12,h⟩|⟨h12,h⟩
  obtain rfl:=sj h
  exact k70 (tF q70 0 [] (oB 1 h12 k))
  have k:=oB 1 h12 k
  rcases spl h with⟨h13,h⟩|⟨h13,h⟩
  obtain⟨x14,h15,h⟩:=obind h
  have k:=oA 1 (ix23 (o:=.no) h15)<|oB 1 h13 k
  rcases spl h with⟨h16,h⟩|⟨h16,h⟩
  obtain rfl:=sj h
  exact k70 (tF q70 0 [] (oB 1 h16 k))
  exact k70 (tH q70 0 [] [0] [] [1,3,5] (oD (dT p0.sub)<|oB 1 h16 k) (ih70Ldw _ _ _ _ h))
  exact k70 (tH q70 0 [] [0] [] [1,3,5] (oD (dT p0.sub)<|oB 1 h13 k) (ih70Ldw _ _ _ _ h))
  have k:=oB 0 h9 k
  rcases spl h with⟨h17,h⟩|⟨h17,h⟩
  have k:=oB 0 h17 k
  rcases spl h with⟨h18,h⟩|⟨h18,h⟩
  obtain rfl:=sj h
  exact k70 (tF q70 0 [] (oB 2 h18 k))
  have k:=oB 2 h18 k
  rcases spl h with⟨h19,h⟩|⟨h19,h⟩
  obtain rfl:=sj h
  exact k70 (tF q70 0 [] (oB 1 h19 k))
  have k:=oB 1 h19 k
  rcases spl h with⟨h20,h⟩|⟨h20,h⟩
  obtain rfl:=sj h
  exact k70 (tF q70 0 [] (oB 1 h20 k))
  have k:=oB 1 h20 k
  rcases spl h with⟨h21,h⟩|⟨h21,h⟩
  obtain⟨x22,h23,h⟩:=obind h
  have k:=oA 1 (ix23 (o:=.no) h23)<|oB 1 h21 k
  rcases spl h with⟨h24,h⟩|⟨h24,h⟩
  obtain rfl:=sj h
  exact k70 (tF q70 0 [] (oB 1 h24 k))
  exact k70 (tH q70 0 [] [0] [] [1,3,5] (oD (dT p0.sub)<|oB 1 h24 k) (ih70Ldw _ _ _ _ h))
  exact k70 (tH q70 0 [] [0] [] [1,3,5] (oD (dT p0.sub)<|oB 1 h21 k) (ih70Ldw _ _ _ _ h))
  have k:=oB 0 h17 k
  rcases spl h with⟨h25,h⟩|⟨h25,h⟩
  have k:=oB 0 h25 k
  rcases spl h with⟨h26,h⟩|⟨h26,h⟩
  obtain rfl:=sj h
  exact k70 (tF q70 0 [] (oB 2 h26 k))
  have k:=oB 2 h26 k
  rcases spl h with⟨h27,h⟩|⟨h27,h⟩
  obtain rfl:=sj h
  exact k70 (tF q70 0 [] (oB 1 h27 k))
  have k:=oB 1 h27 k
  rcases spl h with⟨h28,h⟩|⟨h28,h⟩
  obtain rfl:=sj h
  exact k70 (tF q70 0 [] (oB 1 h28 k))
  have k:=oB 1 h28 k
  rcases spl h with⟨h29,h⟩|⟨h29,h⟩
  obtain⟨x30,h31,h⟩:=obind h
  have k:=oA 1 (ix23 (o:=.no) h31)<|oB 1 h29 k
  rcases spl h with⟨h32,h⟩|⟨h32,h⟩
  obtain rfl:=sj h
  exact k70 (tF q70 0 [] (oB 1 h32 k))
  exact k70 (tH q70 0 [] [0] [] [1,3,5] (oD (dT p0.sub)<|oB 1 h32 k) (ih70Ldw _ _ _ _ h))
  exact k70 (tH q70 0 [] [0] [] [1,3,5] (oD (dT p0.sub)<|oB 1 h29 k) (ih70Ldw _ _ _ _ h))
  have k:=oB 0 h25 k
  rcases spl h with⟨h33,h⟩|⟨h33,h⟩
  have k:=oB 0 h33 k
  rcases spl h with⟨h34,h⟩|⟨h34,h⟩
  obtain rfl:=sj h
  exact k70 (tF q70 0 [] (oB 2 h34 k))
  have k:=oB 2 h34 k
  rcases spl h with⟨h35,h⟩|⟨h35,h⟩
  obtain rfl:=sj h
  exact k70 (tF q70 0 [] (oB 1 h35 k))
  have k:=oB 1 h35 k
  rcases spl h with⟨h36,h⟩|⟨h36,h⟩
  obtain rfl:=sj h
  exact k70 (tF q70 0 [] (oB 1 h36 k))
  have k:=oB 1 h36 k
  rcases spl h with⟨h37,h⟩|⟨h37,h⟩
  obtain⟨x38,h39,h⟩:=obind h
  have k:=oA 1 (ix23 (o:=.no) h39)<|oB 1 h37 k
  rcases spl h with⟨h40,h⟩|⟨h40,h⟩
  obtain rfl:=sj h
  exact k70 (tF q70 0 [] (oB 1 h40 k))
  exact k70 (tH q70 0 [] [0] [] [1,3,5] (oD (dT p0.sub)<|oB 1 h40 k) (ih70Ldw _ _ _ _ h))
  exact k70 (tH q70 0 [] [0] [] [1,3,5] (oD (dT p0.sub)<|oB 1 h37 k) (ih70Ldw _ _ _ _ h))
  have k:=oB 0 h33 k
  rcases spl h with⟨h41,h⟩|⟨h41,h⟩
  have k:=oB 0 h41 k
  rcases spl h with⟨h42,h⟩|⟨h42,h⟩
  obtain rfl:=sj h
  exact k70 (tF q70 0 [] (oB 2 h42 k))
  have k:=oB 2 h42 k
  rcases spl h with⟨h43,h⟩|⟨h43,h⟩
  obtain rfl:=sj h
  exact k70 (tF q70 0 [] (oB 1 h43 k))
  have k:=oB 1 h43 k
  rcases spl h with⟨h44,h⟩|⟨h44,h⟩
  obtain rfl:=sj h
  exact k70 (tF q70 0 [] (oB 1 h44 k))
  have k:=oB 1 h44 k
  rcases spl h with⟨h45,h⟩|⟨h45,h⟩
  obtain⟨x46,h47,h⟩:=obind h
  have k:=oA 1 (ix23 (o:=.no) h47)<|oB 1 h45 k
  rcases spl h with⟨h48,h⟩|⟨h48,h⟩
  obtain rfl:=sj h
  exact k70 (tF q70 0 [] (oB 1 h48 k))
  exact k70 (tH q70 0 [] [0] [] [1,3,5] (oD (dT p0.sub)<|oB 1 h48 k) (ih70Ldw _ _ _ _ h))
  exact k70 (tH q70 0 [] [0] [] [1,3,5] (oD (dT p0.sub)<|oB 1 h45 k) (ih70Ldw _ _ _ _ h))
  have k:=oB 0 h41 k
  rcases spl h with⟨h49,h⟩|⟨h49,h⟩
  have k:=oB 0 h49 k
  rcases spl h with⟨h50,h⟩|⟨h50,h⟩
  obtain rfl:=sj h
  exact k70 (tF q70 0 [] (oB 2 h50 k))
  have k:=oB 2 h50 k
  rcases spl h with⟨h51,h⟩|⟨h51,h⟩
  obtain rfl:=sj h
  exact k70 (tF q70 0 [] (oB 1 h51 k))
  have k:=oB 1 h51 k
  rcases spl h with⟨h52,h⟩|⟨h52,h⟩
  obtain rfl:=sj h
  exact k70 (tF q70 0 [] (oB 1 h52 k))
  have k:=oB 1 h52 k
  rcases spl h with⟨h53,h⟩|⟨h53,h⟩
  obtain⟨x54,h55,h⟩:=obind h
  have k:=oA 1 (ix23 (o:=.no) h55)<|oB 1 h53 k
  rcases spl h with⟨h56,h⟩|⟨h56,h⟩
  obtain rfl:=sj h
  exact k70 (tF q70 0 [] (oB 1 h56 k))
  exact k70 (tH q70 0 [] [0] [] [1,3,5] (oD (dT p0.sub)<|oB 1 h56 k) (ih70Ldw _ _ _ _ h))
  exact k70 (tH q70 0 [] [0] [] [1,3,5] (oD (dT p0.sub)<|oB 1 h53 k) (ih70Ldw _ _ _ _ h))
  have k:=oB 0 h49 k
  rcases spl h with⟨h57,h⟩|⟨h57,h⟩
  have k:=oB 0 h57 k
  rcases spl h with⟨h58,h⟩|⟨h58,h⟩
  obtain rfl:=sj h
  exact k70 (tF q70 0 [] (oB 2 h58 k))
  have k:=oB 2 h58 k
  rcases spl h with⟨h59,h⟩|⟨h59,h⟩
  obtain rfl:=sj h
  exact k70 (tF q70 0 [] (oB 1 h59 k))
  have k:=oB 1 h59 k
  rcases spl h with⟨h60,h⟩|⟨h60,h⟩
  obtain rfl:=sj h
  exact k70 (tF q70 0 [] (oB 1 h60 k))
  obtain⟨x61,h62,h⟩:=obind h
  have k:=oA 1 (ix23 (o:=.no) h62)<|oB 1 h57<|oB 1 h60 k
  rcases spl h with⟨h63,h⟩|⟨h63,h⟩
  obtain rfl:=sj h
  exact k70 (tF q70 0 [] (oB 1 h63 k))
  exact k70 (tH q70 0 [] [0] [] [1,3,5] (oD (dT p0.sub)<|oB 1 h63 k) (ih70Ldw _ _ _ _ h))
  obtain rfl:=sj h
  exact k70 (tF q70 0 [] (oB 0 h57 k))
  intro p0 v3 v5 r h
  rw[e70Ldw]at h
  rcases spl h with⟨h9,h⟩|⟨h9,h⟩
  obtain⟨x10,h11,h⟩:=obind h
  obtain⟨r12,h13,h⟩:=obind h
  have k:=oA 1 (ix23 (o:=.no) h11)<|oB 0 h9 o0
  rcases spl h with⟨h14,h⟩|⟨h14,h⟩
  exact fun j=>lH 2 [] [0] [] [1,3,5] (oD (dT p0.sub)<|oK 1 [] h14 (ih70 _ _ h13) k) (ih70Ldw _ _ _ _ h)
  obtain rfl:=sj h
  exact fun j=>lF 1 [] (oK 1 [] h14 (ih70 _ _ h13) k)
  obtain rfl:=sj h
  exact fun j=>lF 0 [] (oB 0 h9 o0)
theorem c70{qq p0 r}(h:e70 qq p0=some r):K70 p0 r Ct:=(a70_70Ldw _).1 _ _ h
def e18(qq:Nat)(p0:Tm):Option (Bool):=
 e19 qq p0>>=fun r1=>
 if decide (r1≤128)then
 e70 qq p0>>=fun r4=>
 some r4
 else
 some false
abbrev K18 (p0:Tm) (r:Bool) (C:Cf):Prop:=C 18 [] [tmA p0] (ab r) [] 0
theorem q18:Qf 18 Tryz.f18:=⟨Tryz.func18,by kernel_rfl⟩
theorem k18{p0 r}(h:K18 p0 r Ci):K18 p0 r Ct:=⟨h,⟨⟨tv,tv,⟨tv,dT _⟩,tv⟩,tv⟩,forall_nil,tv,forall_nil⟩
theorem c18{qq p0 r}(h:e18 qq p0=some r):K18 p0 r Ct:=by
 unfold e18 at h
 obtain⟨r1,h2,h⟩:=obind h
 have k:=oC 1 [] (c19 h2) o0
 rcases spl h with⟨h3,h⟩|⟨h3,h⟩
 obtain⟨r4,h5,h⟩:=obind h
 obtain rfl:=sj h
 exact k18 (tF q18 0 [] (oC 1 [] (c70 h5)<|oB 0 h3 k))
 obtain rfl:=sj h
 exact k18 (tF q18 0 [] (oB 0 h3 k))
def e71(qq:Nat)(p0:Tm)(p1:Int):Option (Int):=
 if p1==1 then
 if p0.k != 5 then
 some 1
 else
 some 0
 else
 some 0
abbrev K71 (p0:Tm) (p1 r:Int) (C:Cf):Prop:=C 71 [] [tmA p0,ai p1] (ai r) [] 0
theorem q71:Qf 71 Tryz.f71:=⟨Tryz.func71,by kernel_rfl⟩
theorem k71{p0 p1 r}(h:K71 p0 p1 r Ci):K71 p0 p1 r Ct:=⟨h,⟨⟨tv,tv,⟨tv,dT _⟩,tv⟩,tv,tv⟩,forall_nil,tv,forall_nil⟩
theorem c71{qq p0 p1 r}(h:e71 qq p0 p1=some r):K71 p0 p1 r Ct:=by
 unfold e71 at h
 rcases spl h with⟨h1,h⟩|⟨h1,h⟩
 have k:=oB 0 h1 o0
 rcases spl h with⟨h2,h⟩|⟨h2,h⟩
 obtain rfl:=sj h
 exact k71 (tF q71 0 [] (oB 1 h2 k))
 obtain rfl:=sj h
 exact k71 (tF q71 0 [] (oB 1 h2 k))
 obtain rfl:=sj h
 exact k71 (tF q71 0 [] (oB 0 h1 o0))
mutual
def e20:Nat->Tm->Int->Option (Int)
 |0,_,_=>none
 |qq+1,p0,p1=>
 if p0.k==1 then
 if decide (p0.n≥p1)then
 some (w64 ((w64 (p0.n-p1))+1))
 else
 e20Ldx qq p0 p1 0 0
 else
 e20Ldx qq p0 p1 0 0
def e20Ldx:Nat->Tm->Int->Int->Int->Option (Int)
 |0,_,_,_,_=>none
 |qq+1,p0,p1,v5,v6=>
 if decide (v6<(List.length p0.sub:Int))then
 gidx p0.sub v6>>=fun x4=>
 e71 qq p0 v6>>=fun r6=>
 e20 qq x4 (w64 (p1+r6))>>=fun r8=>
 e20Ldx qq p0 p1 (imax v5 r8) (w64 (v6+1))
 else
 some v5
end
def g20LdxE0(j:Nat->Value)(p0:Tm)(p1 v5 v6:Int):=sp j 42 0 [(1,ai p1),(2,.mp 0 0),(5,ai v5),(6,ai v6)]
def g20LdxS0(p0:Tm)(p1 v5 v6:Int):LSt:=⟨[(0,.cells [ai p0.k,ai p0.n,slv tmCells p0.sub .no])],1,[],0,[]⟩
abbrev K20 (p0:Tm) (p1 r:Int) (C:Cf):Prop:=C 20 [] [tmA p0,ai p1] (ai r) [] 0
theorem q20:Qf 20 Tryz.f20:=⟨Tryz.func20,by kernel_rfl⟩
theorem k20{p0 p1 r}(h:K20 p0 p1 r Ci):K20 p0 p1 r Ct:=⟨h,⟨⟨tv,tv,⟨tv,dT _⟩,tv⟩,tv,tv⟩,forall_nil,tv,forall_nil⟩
theorem a20_20Ldx:∀qq:Nat,(∀p0 p1 r,e20 qq p0 p1=some r->K20 p0 p1 r Ct)∧(∀p0 p1 v5 v6 r,e20Ldx qq p0 p1 v5 v6=some r->(∀j,Dl Tryz.prog 0 (inn (inn (rgt (lft (rgt (rgt (rgt (bod Tryz.f20)))))))) (g20LdxE0 j p0 p1 v5 v6) (g20LdxS0 p0 p1 v5 v6) (frameQ Tryz.prog 0 (FinQ Tryz.prog 0 Tryz.f20 (ai r) [] 0) [.blk 0,.seq (rgt (rgt (rgt (rgt (bod Tryz.f20)))))]))):=by
 intro qq
 induction qq with
 |zero=>
  exact⟨fun _ _ _ h=>nn h,fun _ _ _ _ _ h=>nn h⟩
 |succ qq ih=>
  obtain⟨ih20,ih20Ldx⟩:=ih
  refine⟨?_,?_⟩
  intro p0 p1 r h
  rw[e20]at h
  rcases spl h with⟨h1,h⟩|⟨h1,h⟩
  have k:=oB 1 h1 o0
  rcases spl h with⟨h2,h⟩|⟨h2,h⟩
  obtain rfl:=sj h
  exact k20 (tF q20 3 [] (oB 1 h2 k))
  exact k20 (tH q20 0 [] [0] [] [1,2,5,6] (oD (dT p0.sub)<|oB 1 h2 k) (ih20Ldx _ _ _ _ _ h))
  exact k20 (tH q20 0 [] [0] [] [1,2,5,6] (oD (dT p0.sub)<|oB 1 h1 o0) (ih20Ldx _ _ _ _ _ h))
  intro p0 p1 v5 v6 r h
  rw[e20Ldx]at h
  rcases spl h with⟨h3,h⟩|⟨h3,h⟩
  obtain⟨x4,h5,h⟩:=obind h
  obtain⟨r6,h7,h⟩:=obind h
  obtain⟨r8,h9,h⟩:=obind h
  exact fun j=>lH 2 [] [0] [] [1,2,5,6] (oD (dT p0.sub)<|oC 1 [] (ih20 _ _ _ h9)<|oC 2 [] (c71 h7)<|oA 1 (ix23 (o:=.no) h5)<|oB 2 h3 o0) (ih20Ldx _ _ _ _ _ h)
  obtain rfl:=sj h
  exact fun j=>lF 0 [] (oB 2 h3 o0)
theorem c20{qq p0 p1 r}(h:e20 qq p0 p1=some r):K20 p0 p1 r Ct:=(a20_20Ldx _).1 _ _ _ h
theorem goodT_iff(k n:Int)(l:List Tm):goodT (.mk k n l)=(headT (.mk k n l)&&goodL l):=by rw[goodT]
mutual
theorem ev_rgood:∀(t:Tm),t.Ok->Evt (fun q=>e70 q t) (goodT t)
 | .mk k n l,ho=>by
  refine Evt.succ ?_
  simp only[e70]
  have hL:∀c:Nat,l.length=c->Evt (fun q=>e70Ldw q (.mk k n l) (c:Int) 0) (goodL l):=fun c hc=>
   ev_rgoodL l (.mk k n l) 0 c rfl (by simpa[Tm.sub]using hc) ho.1 ho.2
  by_cases h1:k=1
  ·subst h1
   refine Evt.ifT rfl ((tailG (p:=.mk 1 n l) (c:=0) (m:=1048576) (r:=goodL l) fun hc _ _=>Evt.ifF rfl (hL 0 hc)).eq ?_)
   rw[goodT_iff];simp[headT,Tm.k,Tm.n,Tm.sub]
   cases goodL l<;>simp[Bool.and_comm,Bool.and_left_comm,Bool.and_assoc]
  refine Evt.ifF (by simpa[Tm.k]using h1) ?_
  by_cases h6:k=6
  ·subst h6
   refine Evt.ifT rfl ((tailG (p:=.mk 6 n l) (c:=0) (m:=1048576) (r:=goodL l) fun hc _ _=>Evt.ifF rfl (hL 0 hc)).eq ?_)
   rw[goodT_iff];simp[headT,Tm.k,Tm.n,Tm.sub]
   cases goodL l<;>simp[Bool.and_comm,Bool.and_left_comm,Bool.and_assoc]
  refine Evt.ifF (by simpa[Tm.k]using h6) ?_
  by_cases h8:k=8
  ·subst h8
   refine Evt.ifT rfl ((tailG (p:=.mk 8 n l) (c:=0) (m:=1048576) (r:=goodL l) fun hc _ _=>Evt.ifF rfl (hL 0 hc)).eq ?_)
   rw[goodT_iff];simp[headT,Tm.k,Tm.n,Tm.sub]
   cases goodL l<;>simp[Bool.and_comm,Bool.and_left_comm,Bool.and_assoc]
  refine Evt.ifF (by simpa[Tm.k]using h8) ?_
  by_cases h2:k=2
  ·subst h2
   refine Evt.ifT rfl ((tailG (p:=.mk 2 n l) (c:=0) (m:=7) (r:=goodL l) fun hc _ _=>Evt.ifF rfl (hL 0 hc)).eq ?_)
   rw[goodT_iff];simp[headT,Tm.k,Tm.n,Tm.sub]
   cases goodL l<;>simp[Bool.and_comm,Bool.and_left_comm,Bool.and_assoc]
  refine Evt.ifF (by simpa[Tm.k]using h2) ?_
  by_cases h3:k=3
  ·subst h3
   refine Evt.ifT rfl ((tailG (p:=.mk 3 n l) (c:=2) (m:=0) (r:=goodL l) fun hc _ _=>Evt.ifF rfl (hL 2 hc)).eq ?_)
   rw[goodT_iff];simp[headT,Tm.k,Tm.n,Tm.sub]
   cases goodL l<;>simp[Bool.and_comm,Bool.and_left_comm,Bool.and_assoc]
  refine Evt.ifF (by simpa[Tm.k]using h3) ?_
  by_cases h4:k=4
  ·subst h4
   refine Evt.ifT rfl ((tailG (p:=.mk 4 n l) (c:=2) (m:=0) (r:=goodL l) fun hc _ _=>Evt.ifF rfl (hL 2 hc)).eq ?_)
   rw[goodT_iff];simp[headT,Tm.k,Tm.n,Tm.sub]
   cases goodL l<;>simp[Bool.and_comm,Bool.and_left_comm,Bool.and_assoc]
  refine Evt.ifF (by simpa[Tm.k]using h4) ?_
  by_cases h5:k=5
  ·subst h5
   refine Evt.ifT rfl ((tailG (p:=.mk 5 n l) (c:=2) (m:=0) (r:=goodL l) fun hc _ _=>Evt.ifF rfl (hL 2 hc)).eq ?_)
   rw[goodT_iff];simp[headT,Tm.k,Tm.n,Tm.sub]
   cases goodL l<;>simp[Bool.and_comm,Bool.and_left_comm,Bool.and_assoc]
  refine Evt.ifF (by simpa[Tm.k]using h5) ?_
  by_cases h7:k=7
  ·subst h7
   refine Evt.ifT rfl ?_
   rcases l with _|⟨x,l⟩
   ·refine(tailG (p:=.mk 7 n []) (c:=1) (m:=1048576) (r:=false) fun hc _ _=>by simp[Tm.sub]at hc).eq ?_
    rw[goodT_iff];simp[headT,Tm.k,Tm.n,Tm.sub]
   ·refine(tailG (p:=.mk 7 n (x::l)) (c:=1) (m:=1048576) (r:=(x.k==2)&&goodL (x::l)) fun hc _ _=>Evt.pure (a:=x) rfl ?_).eq ?_
    ·by_cases hx:x.k=2
     ·refine Evt.ifF (by simp[hx]) ((hL 1 (by simpa[Tm.sub]using hc)).eq (by simp[hx]))
     ·exact Evt.ifT (by simp[hx]) (Evt.ret.eq (by simp[hx]))
    ·rw[goodT_iff];simp[headT,Tm.k,Tm.n,Tm.sub]
     cases goodL (x::l)<;>cases (x.k==2)<;>simp[Bool.and_comm,Bool.and_left_comm,Bool.and_assoc]
  refine Evt.ifF (by simpa[Tm.k]using h7) (Evt.ret.eq ?_)
  rw[goodT_iff]
  have:headT (.mk k n l)=false:=by
   simp only[headT,Tm.k]
   by_cases h9:1≤k∧k≤8
   ·omega
   ·by_cases h10:1≤k
    ·simp[show ¬k≤8 by omega]
    ·simp[h10]
  simp[this]
theorem ev_rgoodL:∀(l:List Tm) (p:Tm) (v c:Nat),p.sub.drop v=l->p.sub.length=c->p.sub.length<9223372036854775808->OkL l->Evt (fun q=>e70Ldw q p (c:Int) (v:Int)) (goodL l)
 | [],p,v,c,hd,hc,hl,ho=>by
  refine Evt.succ ?_
  simp only[e70Ldw]
  rw[goodL,←hc]
  exact Evt.ifF (drop_nil hd) Evt.ret
 |t::l,p,v,c,hd,hc,hl,ho=>by
  refine Evt.succ ?_
  simp only[e70Ldw]
  refine Evt.ifT (by rw[←hc];exact drop_dec hd) (Evt.pure (drop_idx hd) ((ev_rgood t ho.1).bind ?_))
  rw[goodL]
  cases goodT t with
  |false=>exact Evt.ifF rfl Evt.ret
  |true=>
   refine Evt.ifT rfl ?_
   rw[w64_nat v (by have:=drop_lt hd;omega)]
   exact ev_rgoodL l p (v+1) c (drop_next hd) hc hl ho.2
end
theorem ev_rShaped(t:Tm)(ho:t.Ok):Evt (fun q=>e18 q t) (shapedT t):=by
 simp only[e18]
 refine(ev_rDepth t).bind ?_
 unfold shapedT rdepT
 by_cases h1:t.nodes≤8192
 ·rw[if_pos h1]
  by_cases h2:t.high≤128
  ·exact Evt.ifT (by simp<;>omega) (((ev_rgood t ho).bind Evt.ret).eq (by simp[h1,h2]))
  ·exact Evt.ifF (by simp<;>omega) (Evt.ret.eq (by simp[h2]))
 ·rw[if_neg h1]
  exact Evt.ifF (by simp) (Evt.ret.eq (by simp[h1]))
def undR(k:Int)(i:Nat):Int:=if i=1∧k≠5 then 1 else 0
theorem ev_rBeneath(t:Tm)(i:Nat):Evt (fun q=>e71 q t (i:Int)) (undR t.k i):=by
 refine Evt.mk fun q=>?_
 simp only[e71,undR]
 by_cases h1:i=1
 ·subst h1;by_cases h5:t.k=5<;>simp[h5]
 ·have:¬((i:Int)=1):=by omega
  simp[h1,this]
theorem und_ref{k n:Int}{l:List Tm}(h:headT (.mk k n l)=true){i:Nat}(hi:i<l.length):undR k i=undT k i:=by
 unfold undT undR
 by_cases h1:i=1
 ·subst h1
  have hs:=head_spec h
  simp only[Tm.k,Tm.n,Tm.sub]at hs
  have:k=3∨k=4∨k=5:=by
   by_cases h7:k=7
   ·obtain⟨x,hx,_⟩:=hs.2.2.2.2.2.2.1 h7
    rw[hx]at hi;simp at hi
   ·by_cases h3:k=1∨k=2∨k=6∨k=8
    ·rw[hs.2.2.2.2.2.2.2.1 h3]at hi;simp at hi
    ·omega
  rcases this with rfl|rfl|rfl<;>simp
 ·simp[h1]
mutual
theorem ev_rLoose:∀(t:Tm) (b:Int),goodT t=true->0≤b->b+t.high≤4611686018427387904->Evt (fun q=>e20 q t b) (looT t b)
 | .mk k n l,b,hg,h0,h1=>by
  refine Evt.succ ?_
  simp only[e20,Tm.k,Tm.n]
  have hh:=goodT_mk hg
  have hn:=head_n hh.1
  have hl:Evt (fun q=>e20Ldx q (.mk k n l) b 0 0) (looL l k 0 b):=
   (ev_rLooseL l (.mk k n l) 0 b 0 rfl hh.1 hh.2 h0 (by omega) (by rw[Tm.high]at h1;omega)).eq (by have:=looL_nn l k 0 b;simp only[Tm.k];omega)
  rw[Tm.high]at h1
  rw[looT]
  by_cases hk:k=1
  ·rw[if_pos hk]
   refine Evt.ifT (by simpa using hk) ?_
   by_cases hb:n≥b
   ·refine Evt.ifT (by simpa using hb) (Evt.ret.eq ?_)
    rw[w64_id (x:=n-b) (by omega) (by omega),w64_id (by omega) (by omega)];omega
   ·refine Evt.ifF (by simpa using hb) (hl.eq ?_)
    have:l=[]:=by
     have:=hh.1
     subst hk
     simp[headT,Tm.k,Tm.n,Tm.sub]at this
     exact this.2.1
    subst this
    rw[looL];omega
  ·rw[if_neg hk]
   exact Evt.ifF (by simpa using hk) hl
theorem ev_rLooseL:∀(l:List Tm) (p:Tm) (v:Nat) (b m:Int),p.sub.drop v=l->headT p=true->goodL l=true->0≤b->0≤m->b+1+highL l≤4611686018427387904->Evt (fun q=>e20Ldx q p b m (v:Int)) (max m (looL l p.k v b))
 | [],p,v,b,m,hd,hp,ho,h0,hm,h1=>by
  refine Evt.succ ?_
  simp only[e20Ldx]
  rw[looL]
  exact Evt.ifF (drop_nil hd) (Evt.ret.eq (by omega))
 |t::l,p,v,b,m,hd,hp,ho,h0,hm,h1=>by
  refine Evt.succ ?_
  simp only[e20Ldx]
  have hg:=goodL_cons ho
  have hu:=undT_01 p.k v
  have hlt:=drop_lt hd
  obtain⟨k,n,ls⟩:=p
  have hls:=(head_n hp).2.2.2.2
  simp only[Tm.sub]at hlt hd
  have he:=und_ref hp hlt
  rw[highL]at h1
  refine Evt.ifT (drop_dec hd) (Evt.pure (drop_idx hd) ((ev_rBeneath (.mk k n ls) v).bind ?_))
  simp only[Tm.k]at hu ⊢
  rw[he,w64_id (x:=b+undT k v) (by omega) (by omega)]
  refine(ev_rLoose t (b+undT k v) hg.1 (by omega) (by omega)).bind ?_
  rw[w64_nat v (by omega),imax_eq]
  refine(ev_rLooseL l (.mk k n ls) (v+1) b _ (drop_next hd) hp hg.2 h0 (by omega) (by omega)).eq ?_
  simp only[Tm.k]
  rw[looL];omega
end
def e85Ldy:Nat->(List Int)->Int->(List Int)->Bool->Int->Option (List Int)
 |0,_,_,_,_,_=>none
 |qq+1,p0,p1,v5,v6,v7=>
 if v6 then
 if decide (v7<(List.length p0:Int))then
 gidx p0 v7>>=fun x2=>
 gapp 8 v5 [x2]>>=fun l4=>
 e85Ldy qq p0 p1 l4 true (w64 (v7+1))
 else
 some v5
 else
 if decide (v7<(List.length p0:Int))then
 gidx p0 v7>>=fun x7=>
 if decide (x7≥p1)then
 if decide (x7>p1)then
 gapp 8 v5 [p1]>>=fun l11=>
 gapp 8 l11 [x7]>>=fun l13=>
 e85Ldy qq p0 p1 l13 true (w64 (v7+1))
 else
 gapp 8 v5 [x7]>>=fun l15=>
 e85Ldy qq p0 p1 l15 true (w64 (v7+1))
 else
 gapp 8 v5 [x7]>>=fun l17=>
 e85Ldy qq p0 p1 l17 false (w64 (v7+1))
 else
 gapp 8 v5 [p1]>>=fun l19=>
 some l19
def e85(qq:Nat)(p0:List Int)(p1:Int):Option (List Int):=
 e85Ldy qq p0 p1 [] false 0
def g85LdyE0(j:Nat->Value)(p0:List Int)(p1:Int)(v5:List Int)(v6:Bool)(v7:Int):=sp j 49 0 [(0,slv intC p0 .no),(1,ai p1),(5,slv intC v5 (.st 0 1)),(6,ab v6),(7,ai v7)]
def g85LdyS0(p0:List Int)(p1:Int)(v5:List Int)(v6:Bool)(v7:Int):LSt:=⟨[],0,[0],1,[]⟩
abbrev K85 (p0:List Int) (p1:Int) (r:List Int) (C:Cf):Prop:=C 85 [] [slv intC p0 .no,ai p1] (.sl (flat intC r) (List.length r) .no) [] 0
theorem q85:Qf 85 Tryz.f85:=⟨Tryz.func85,by kernel_rfl⟩
theorem k85{p0 p1 r}(h:K85 p0 p1 r Ci):K85 p0 p1 r Ct:=⟨h,⟨⟨tv,dI _⟩,tv,tv⟩,forall_nil,dI _,forall_nil⟩
theorem l85Ldy:∀qq:Nat,(∀p0 p1 v5 v6 v7 r,e85Ldy qq p0 p1 v5 v6 v7=some r->(∀j,Dl Tryz.prog 0 (inn (inn (rgt (lft (rgt (rgt (rgt (bod Tryz.f85)))))))) (g85LdyE0 j p0 p1 v5 v6 v7) (g85LdyS0 p0 p1 v5 v6 v7) (frameQ Tryz.prog 0 (FinQ Tryz.prog 0 Tryz.f85 (.sl (flat intC r) (List.length r) .no) [] 0) [.blk 0,.seq (rgt (rgt (rgt (rgt (bod Tryz.f85)))))]))):=by
 intro qq
 induction qq with
 |zero=>
  exact fun _ _ _ _ _ _ h=>nn h
 |succ qq ih=>
  intro p0 p1 v5 v6 v7 r h
  rw[e85Ldy]at h
  cases v6
  replace h:=ifF rfl h
  rcases spl h with⟨h6,h⟩|⟨h6,h⟩
  obtain⟨x7,h8,h⟩:=obind h
  have k:=oA 1 (ix41 (o:=.no) h8)<|oB 1 h6 o0
  rcases spl h with⟨h9,h⟩|⟨h9,h⟩
  have k:=oA 0 (ix41 (o:=.no) h8)<|oB 1 h9 k
  rcases spl h with⟨h10,h⟩|⟨h10,h⟩
  obtain⟨l11,h12,h⟩:=obind h
  obtain⟨l13,h14,h⟩:=obind h
  exact fun j=>lH 1 [] [] [2] [0,1,5,6,7] (oD (dI l13)<|oD (dI p0)<|oP 2 (apS41 h14 (by simp))<|oA 0 (ix41 (o:=.no) h8)<|oP 1 (apS41 h12 (by simp))<|oB 1 h10 k) (ih _ _ _ _ _ _ h)
  obtain⟨l15,h16,h⟩:=obind h
  exact fun j=>lH 1 [] [] [1] [0,1,5,6,7] (oD (dI l15)<|oD (dI p0)<|oP 2 (apS41 h16 (by simp))<|oA 0 (ix41 (o:=.no) h8)<|oB 1 h10 k) (ih _ _ _ _ _ _ h)
  obtain⟨l17,h18,h⟩:=obind h
  exact fun j=>lH 1 [] [] [1] [0,1,5,6,7] (oD (dI l17)<|oD (dI p0)<|oP 2 (apS41 h18 (by simp))<|oA 0 (ix41 (o:=.no) h8)<|oB 1 h9 k) (ih _ _ _ _ _ _ h)
  obtain⟨l19,h20,h⟩:=obind h
  obtain rfl:=sj h
  exact fun j=>lF 0 [] (oD (dI l19)<|oP 2 (apS41 h20 (by simp))<|oB 1 h6 o0)
  replace h:=ifT rfl h
  rcases spl h with⟨h1,h⟩|⟨h1,h⟩
  obtain⟨x2,h3,h⟩:=obind h
  obtain⟨l4,h5,h⟩:=obind h
  exact fun j=>lH 1 [] [] [1] [0,1,5,6,7] (oD (dI l4)<|oD (dI p0)<|oP 2 (apS41 h5 (by simp))<|oA 1 (ix41 (o:=.no) h3)<|oB 1 h1 o0) (ih _ _ _ _ _ _ h)
  obtain rfl:=sj h
  exact fun j=>lF 1 [] (oD (dI v5)<|oB 1 h1 o0)
theorem c85{qq p0 p1 r}(h:e85 qq p0 p1=some r):K85 p0 p1 r Ct:=by
 unfold e85 at h
 exact k85 (tH q85 1 [(none,5,1)] [] [0] [0,1,5,6,7] (oD (dI ([]:List Int))<|oD (dI p0) o0) (l85Ldy _ _ _ _ _ _ _ h))
mutual
def e30:Nat->Tm->Int->Int->Option (List Int)
 |0,_,_,_=>none
 |qq+1,p0,p1,p2=>
 if p0.k==p1 then
 gapp 8 ([]:List Int) [p0.n]>>=fun l2=>
 e30Ldz qq p0 p1 p2 l2 0
 else
 if p0.k==p2 then
 gapp 8 ([]:List Int) [p0.n]>>=fun l5=>
 e30Ldz qq p0 p1 p2 l5 0
 else
 e30Ldz qq p0 p1 p2 [] 0
def e30Ldz:Nat->Tm->Int->Int->(List Int)->Int->Option (List Int)
 |0,_,_,_,_,_=>none
 |qq+1,p0,p1,p2,v7,v8=>
 if decide (v8<(List.length p0.sub:Int))then
 gidx p0.sub v8>>=fun x5=>
 e30 qq x5 p1 p2>>=fun r7=>
 e30Lea qq p0 p1 p2 v8 r7 0 v7
 else
 some v7
def e30Lea:Nat->Tm->Int->Int->Int->(List Int)->Int->(List Int)->Option (List Int)
 |0,_,_,_,_,_,_,_=>none
 |qq+1,p0,p1,p2,v8,r7,v10,v7=>
 if decide (v10<(List.length r7:Int))then
 gidx r7 v10>>=fun x10=>
 e85 qq v7 x10>>=fun r12=>
 e30Lea qq p0 p1 p2 v8 r7 (w64 (v10+1)) r12
 else
 e30Ldz qq p0 p1 p2 v7 (w64 (v8+1))
end
def g30LdzE0(j:Nat->Value)(p0:Tm)(p1 p2:Int)(v7:List Int)(v8:Int):=sp j 55 0 [(1,ai p1),(2,ai p2),(3,.mp 0 0),(7,slv intC v7 (.st 0 1)),(8,ai v8)]
def g30LdzS0(p0:Tm)(p1 p2:Int)(v7:List Int)(v8:Int):LSt:=⟨[(0,.cells [ai p0.k,ai p0.n,slv tmCells p0.sub .no])],1,[0],1,[]⟩
def g30LdzE1(j:Nat->Value)(p0:Tm)(p1 p2:Int)(v7:List Int)(v8:Int):=sp j 55 0 [(1,ai p1),(2,ai p2),(3,.mp 0 0),(7,slv intC v7 .no),(8,ai v8)]
def g30LdzS1(p0:Tm)(p1 p2:Int)(v7:List Int)(v8:Int):LSt:=⟨[(0,.cells [ai p0.k,ai p0.n,slv tmCells p0.sub .no])],1,[],0,[]⟩
def g30LdzE2(j:Nat->Value)(p0:Tm)(p1 p2:Int)(v7:List Int)(v8:Int):=sp j 55 0 [(1,ai p1),(2,ai p2),(3,.mp 0 0),(7,slv intC v7 .full),(8,ai v8)]
def g30LdzS2(p0:Tm)(p1 p2:Int)(v7:List Int)(v8:Int):LSt:=⟨[(0,.cells [ai p0.k,ai p0.n,slv tmCells p0.sub .no])],1,[],0,[]⟩
def g30LeaE0(j:Nat->Value)(p0:Tm)(p1 p2 v8:Int)(r7:List Int)(v10:Int)(v7:List Int):=sp j 55 0 [(1,ai p1),(2,ai p2),(3,.mp 0 0),(7,slv intC v7 (.st 0 1)),(8,ai v8),(9,slv intC r7 .no),(10,ai v10)]
def g30LeaS0(p0:Tm)(p1 p2 v8:Int)(r7:List Int)(v10:Int)(v7:List Int):LSt:=⟨[(0,.cells [ai p0.k,ai p0.n,slv tmCells p0.sub .no])],1,[0],1,[]⟩
def g30LeaE1(j:Nat->Value)(p0:Tm)(p1 p2 v8:Int)(r7:List Int)(v10:Int)(v7:List Int):=sp j 55 0 [(1,ai p1),(2,ai p2),(3,.mp 0 0),(7,slv intC v7 .no),(8,ai v8),(9,slv intC r7 .no),(10,ai v10)]
def g30LeaS1(p0:Tm)(p1 p2 v8:Int)(r7:List Int)(v10:Int)(v7:List Int):LSt:=⟨[(0,.cells [ai p0.k,ai p0.n,slv tmCells p0.sub .no])],1,[],0,[]⟩
def g30LeaE2(j:Nat->Value)(p0:Tm)(p1 p2 v8:Int)(r7:List Int)(v10:Int)(v7:List Int):=sp j 55 0 [(1,ai p1),(2,ai p2),(3,.mp 0 0),(7,slv intC v7 .full),(8,ai v8),(9,slv intC r7 .no),(10,ai v10)]
def g30LeaS2(p0:Tm)(p1 p2 v8:Int)(r7:List Int)(v10:Int)(v7:List Int):LSt:=⟨[(0,.cells [ai p0.k,ai p0.n,slv tmCells p0.sub .no])],1,[],0,[]⟩
abbrev K30 (p0:Tm) (p1 p2:Int) (r:List Int) (C:Cf):Prop:=C 30 [] [tmA p0,ai p1,ai p2] (.sl (flat intC r) (List.length r) .no) [] 0
theorem q30:Qf 30 Tryz.f30:=⟨Tryz.func30,by kernel_rfl⟩
theorem k30{p0 p1 p2 r}(h:K30 p0 p1 p2 r Ci):K30 p0 p1 p2 r Ct:=⟨h,⟨⟨tv,tv,⟨tv,dT _⟩,tv⟩,tv,tv,tv⟩,forall_nil,dI _,forall_nil⟩
theorem a30_30Ldz_30Lea:∀qq:Nat,(∀p0 p1 p2 r,e30 qq p0 p1 p2=some r->K30 p0 p1 p2 r Ct)∧(∀p0 p1 p2 v7 v8 r,e30Ldz qq p0 p1 p2 v7 v8=some r->(∀j,Dl Tryz.prog 0 (inn (inn (rgt (lft (rgt (rgt (rgt (bod Tryz.f30)))))))) (g30LdzE0 j p0 p1 p2 v7 v8) (g30LdzS0 p0 p1 p2 v7 v8) (frameQ Tryz.prog 0 (FinQ Tryz.prog 0 Tryz.f30 (.sl (flat intC r) (List.length r) .no) [] 0) [.blk 0,.seq (rgt (rgt (rgt (rgt (bod Tryz.f30)))))]))∧(∀j,Dl Tryz.prog 0 (inn (inn (rgt (lft (rgt (rgt (rgt (bod Tryz.f30)))))))) (g30LdzE1 j p0 p1 p2 v7 v8) (g30LdzS1 p0 p1 p2 v7 v8) (frameQ Tryz.prog 0 (FinQ Tryz.prog 0 Tryz.f30 (.sl (flat intC r) (List.length r) .no) [] 0) [.blk 0,.seq (rgt (rgt (rgt (rgt (bod Tryz.f30)))))]))∧(∀j,Dl Tryz.prog 0 (inn (inn (rgt (lft (rgt (rgt (rgt (bod Tryz.f30)))))))) (g30LdzE2 j p0 p1 p2 v7 v8) (g30LdzS2 p0 p1 p2 v7 v8) (frameQ Tryz.prog 0 (FinQ Tryz.prog 0 Tryz.f30 (.sl (flat intC r) (List.length r) .no) [] 0) [.blk 0,.seq (rgt (rgt (rgt (rgt (bod Tryz.f30)))))])))∧(∀p0 p1 p2 v8 r7 v10 v7 r,e30Lea qq p0 p1 p2 v8 r7 v10 v7=some r->(∀j,Dl Tryz.prog 0 (inn (inn (rgt (rgt (inn (lft (rgt (inn (inn (rgt (lft (rgt (rgt (rgt (bod Tryz.f30))))))))))))))) (g30LeaE0 j p0 p1 p2 v8 r7 v10 v7) (g30LeaS0 p0 p1 p2 v8 r7 v10 v7) (frameQ Tryz.prog 0 (FinQ Tryz.prog 0 Tryz.f30 (.sl (flat intC r) (List.length r) .no) [] 0) [.blk 2,.blk 1,.seq (rgt (rgt (inn (inn (rgt (lft (rgt (rgt (rgt (bod Tryz.f30)))))))))),.loop (inn (inn (rgt (lft (rgt (rgt (rgt (bod Tryz.f30)))))))),.blk 0,.seq (rgt (rgt (rgt (rgt (bod Tryz.f30)))))]))∧(∀j,Dl Tryz.prog 0 (inn (inn (rgt (rgt (inn (lft (rgt (inn (inn (rgt (lft (rgt (rgt (rgt (bod Tryz.f30))))))))))))))) (g30LeaE1 j p0 p1 p2 v8 r7 v10 v7) (g30LeaS1 p0 p1 p2 v8 r7 v10 v7) (frameQ Tryz.prog 0 (FinQ Tryz.prog 0 Tryz.f30 (.sl (flat intC r) (List.length r) .no) [] 0) [.blk 2,.blk 1,.seq (rgt (rgt (inn (inn (rgt (lft (rgt (rgt (rgt (bod Tryz.f30)))))))))),.loop (inn (inn (rgt (lft (rgt (rgt (rgt (bod Tryz.f30)))))))),.blk 0,.seq (rgt (rgt (rgt (rgt (bod Tryz.f30)))))]))∧(∀j,Dl Tryz.prog 0 (inn (inn (rgt (rgt (inn (lft (rgt (inn (inn (rgt (lft (rgt (rgt (rgt (bod Tryz.f30))))))))))))))) (g30LeaE2 j p0 p1 p2 v8 r7 v10 v7) (g30LeaS2 p0 p1 p2 v8 r7 v10 v7) (frameQ Tryz.prog 0 (FinQ Tryz.prog 0 Tryz.f30 (.sl (flat intC r) (List.length r) .no) [] 0) [.blk 2,.blk 1,.seq (rgt (rgt (inn (inn (rgt (lft (rgt (rgt (rgt (bod Tryz.f30)))))))))),.loop (inn (inn (rgt (lft (rgt (rgt (rgt (bod Tryz.f30)))))))),.blk 0,.seq (rgt (rgt (rgt (rgt (bod Tryz.f30)))))]))):=by
 intro qq
 induction qq with
 |zero=>
  exact⟨fun _ _ _ _ h=>nn h,fun _ _ _ _ _ _ h=>nn h,fun _ _ _ _ _ _ _ _ h=>nn h⟩
 |succ qq ih=>
  obtain⟨ih30,ih30Ldz,ih30Lea⟩:=ih
  refine⟨?_,?_,?_⟩
  intro p0 p1 p2 r h
  rw[e30]at h
  rcases spl h with⟨h1,h⟩|⟨h1,h⟩
  obtain⟨l2,h3,h⟩:=obind h
  exact k30 (tH q30 0 [] [0] [0] [1,2,3,7,8] (oD (dI l2)<|oD (dT p0.sub)<|oP 2 (apS41 h3 (by simp))<|oB 2 h1 o0) ((ih30Ldz _ _ _ _ _ _ h).1))
  have k:=oB 2 h1 o0
  rcases spl h with⟨h4,h⟩|⟨h4,h⟩
  obtain⟨l5,h6,h⟩:=obind h
  exact k30 (tH q30 0 [] [0] [0] [1,2,3,7,8] (oD (dI l5)<|oD (dT p0.sub)<|oP 2 (apS41 h6 (by simp))<|oB 1 h4 k) ((ih30Ldz _ _ _ _ _ _ h).1))
  exact k30 (tH q30 0 [] [0] [] [1,2,3,7,8] (oD (dI ([]:List Int))<|oD (dT p0.sub)<|oB 1 h4 k) ((ih30Ldz _ _ _ _ _ _ h).2.2))
  intro p0 p1 p2 v7 v8 r h
  rw[e30Ldz]at h
  refine⟨?_,?_,?_⟩
  rcases spl h with⟨h4,h⟩|⟨h4,h⟩
  obtain⟨x5,h6,h⟩:=obind h
  obtain⟨r7,h8,h⟩:=obind h
  exact fun j=>lH 0 [] [0] [0] [1,2,3,7,8,9,10] (oD (dI r7)<|oD (dI v7)<|oD (dT p0.sub)<|oC 1 [] (ih30 _ _ _ _ h8)<|oA 1 (ix23 (o:=.no) h6)<|oB 2 h4 o0) ((ih30Lea _ _ _ _ _ _ _ _ h).1)
  obtain rfl:=sj h
  exact fun j=>lF 0 [] (oD (dI v7)<|oB 2 h4 o0)
  rcases spl h with⟨h4,h⟩|⟨h4,h⟩
  obtain⟨x5,h6,h⟩:=obind h
  obtain⟨r7,h8,h⟩:=obind h
  exact fun j=>lH 0 [] [0] [] [1,2,3,7,8,9,10] (oD (dI r7)<|oD (dI v7)<|oD (dT p0.sub)<|oC 1 [] (ih30 _ _ _ _ h8)<|oA 1 (ix23 (o:=.no) h6)<|oB 2 h4 o0) ((ih30Lea _ _ _ _ _ _ _ _ h).2.1)
  obtain rfl:=sj h
  exact fun j=>lF 0 [] (oD (dI v7)<|oB 2 h4 o0)
  rcases spl h with⟨h4,h⟩|⟨h4,h⟩
  obtain⟨x5,h6,h⟩:=obind h
  obtain⟨r7,h8,h⟩:=obind h
  exact fun j=>lH 0 [] [0] [] [1,2,3,7,8,9,10] (oD (dI r7)<|oD (dI v7)<|oD (dT p0.sub)<|oC 1 [] (ih30 _ _ _ _ h8)<|oA 1 (ix23 (o:=.no) h6)<|oB 2 h4 o0) ((ih30Lea _ _ _ _ _ _ _ _ h).2.2)
  obtain rfl:=sj h
  exact fun j=>lF 0 [] (oD (dI v7)<|oB 2 h4 o0)
  intro p0 p1 p2 v8 r7 v10 v7 r h
  rw[e30Lea]at h
  refine⟨?_,?_,?_⟩
  rcases spl h with⟨h9,h⟩|⟨h9,h⟩
  obtain⟨x10,h11,h⟩:=obind h
  obtain⟨r12,h13,h⟩:=obind h
  exact fun j=>lH 1 [] [0] [] [1,2,3,7,8,9,10] (oD (dI r7)<|oD (dI r12)<|oD (dT p0.sub)<|oC 1 [] (c85 h13)<|oA 0 (ix41 (o:=.no) h11)<|oB 1 h9 o0) ((ih30Lea _ _ _ _ _ _ _ _ h).2.1)
  exact fun j=>lH 1 [] [0] [0] [1,2,3,7,8] (oD (dI v7)<|oD (dT p0.sub)<|oB 1 h9 o0) ((ih30Ldz _ _ _ _ _ _ h).1)
  rcases spl h with⟨h9,h⟩|⟨h9,h⟩
  obtain⟨x10,h11,h⟩:=obind h
  obtain⟨r12,h13,h⟩:=obind h
  exact fun j=>lH 1 [] [0] [] [1,2,3,7,8,9,10] (oD (dI r7)<|oD (dI r12)<|oD (dT p0.sub)<|oC 1 [] (c85 h13)<|oA 0 (ix41 (o:=.no) h11)<|oB 1 h9 o0) ((ih30Lea _ _ _ _ _ _ _ _ h).2.1)
  exact fun j=>lH 1 [] [0] [] [1,2,3,7,8] (oD (dI v7)<|oD (dT p0.sub)<|oB 1 h9 o0) ((ih30Ldz _ _ _ _ _ _ h).2.1)
  rcases spl h with⟨h9,h⟩|⟨h9,h⟩
  obtain⟨x10,h11,h⟩:=obind h
  obtain⟨r12,h13,h⟩:=obind h
  exact fun j=>lH 1 [] [0] [] [1,2,3,7,8,9,10] (oD (dI r7)<|oD (dI r12)<|oD (dT p0.sub)<|oC 1 [] (c85 h13)<|oA 0 (ix41 (o:=.no) h11)<|oB 1 h9 o0) ((ih30Lea _ _ _ _ _ _ _ _ h).2.1)
  exact fun j=>lH 1 [] [0] [] [1,2,3,7,8] (oD (dI v7)<|oD (dT p0.sub)<|oB 1 h9 o0) ((ih30Ldz _ _ _ _ _ _ h).2.2)
theorem c30{qq p0 p1 p2 r}(h:e30 qq p0 p1 p2=some r):K30 p0 p1 p2 r Ct:=(a30_30Ldz_30Lea _).1 _ _ _ _ h
def e168Leb:Nat->Int->(List Int)->Int->Option (Bool)
 |0,_,_,_=>none
 |qq+1,p2,r7,v8=>
 if decide (v8<(List.length r7:Int))then
 gidx r7 v8>>=fun x10=>
 if decide (x10≥p2)then
 some false
 else
 e168Leb qq p2 r7 (w64 (v8+1))
 else
 some true
def e168(qq:Nat)(p0:Tm)(p1 p2:Int):Option (Bool):=
 e18 qq p0>>=fun r1=>
 if r1 then
 e20 qq p0 0>>=fun r4=>
 if decide (r4>p1)then
 some false
 else
 e30 qq p0 6 7>>=fun r7=>
 e168Leb qq p2 r7 0
 else
 some false
def g168LebE0(j:Nat->Value)(p2:Int)(r7:List Int)(v8:Int):=sp j 32 0 [(2,ai p2),(7,slv intC r7 .no),(8,ai v8)]
def g168LebS0(p2:Int)(r7:List Int)(v8:Int):LSt:=⟨[],0,[],0,[]⟩
abbrev K168 (p0:Tm) (p1 p2:Int) (r:Bool) (C:Cf):Prop:=C 168 [] [tmA p0,ai p1,ai p2] (ab r) [] 0
theorem q168:Qf 168 Tryz.f168:=⟨Tryz.func168,by kernel_rfl⟩
theorem k168{p0 p1 p2 r}(h:K168 p0 p1 p2 r Ci):K168 p0 p1 p2 r Ct:=⟨h,⟨⟨tv,tv,⟨tv,dT _⟩,tv⟩,tv,tv,tv⟩,forall_nil,tv,forall_nil⟩
theorem l168Leb:∀qq:Nat,(∀p2 r7 v8 r,e168Leb qq p2 r7 v8=some r->(∀j,Dl Tryz.prog 0 (inn (inn (rgt (lft (rgt (rgt (rgt (bod Tryz.f168)))))))) (g168LebE0 j p2 r7 v8) (g168LebS0 p2 r7 v8) (frameQ Tryz.prog 0 (FinQ Tryz.prog 0 Tryz.f168 (ab r) [] 0) [.blk 0,.seq (rgt (rgt (rgt (rgt (bod Tryz.f168)))))]))):=by
 intro qq
 induction qq with
 |zero=>
  exact fun _ _ _ _ h=>nn h
 |succ qq ih=>
  intro p2 r7 v8 r h
  rw[e168Leb]at h
  rcases spl h with⟨h9,h⟩|⟨h9,h⟩
  obtain⟨x10,h11,h⟩:=obind h
  have k:=oA 0 (ix41 (o:=.no) h11)<|oB 1 h9 o0
  rcases spl h with⟨h12,h⟩|⟨h12,h⟩
  obtain rfl:=sj h
  exact fun j=>lF 0 [] (oB 1 h12 k)
  exact fun j=>lH 1 [] [] [] [2,7,8] (oD (dI r7)<|oB 1 h12 k) (ih _ _ _ _ h)
  obtain rfl:=sj h
  exact fun j=>lF 0 [] (oB 1 h9 o0)
theorem c168{qq p0 p1 p2 r}(h:e168 qq p0 p1 p2=some r):K168 p0 p1 p2 r Ct:=by
 unfold e168 at h
 obtain⟨r1,h2,h⟩:=obind h
 rcases spl h with⟨h3,h⟩|⟨h3,h⟩
 obtain⟨r4,h5,h⟩:=obind h
 have k:=oC 2 [] (c20 h5)<|oK 1 [] h3 (c18 h2) o0
 rcases spl h with⟨h6,h⟩|⟨h6,h⟩
 obtain rfl:=sj h
 exact k168 (tF q168 0 [] (oB 0 h6 k))
 obtain⟨r7,h8,h⟩:=obind h
 exact k168 (tH q168 0 [] [] [] [2,7,8] (oD (dI r7)<|oC 1 [] (c30 h8)<|oB 0 h6 k) (l168Leb _ _ _ _ _ h))
 obtain rfl:=sj h
 exact k168 (tF q168 1 [] (oK 1 [] h3 (c18 h2) o0))
def e116(qq:Nat)(p0:Tm)(p1:Int):Option (Bool):=
 e168 qq p0 0 p1>>=fun r1=>
 if r1 then
 e30 qq p0 8 8>>=fun r4=>
 some ((List.length r4:Int)==0)
 else
 some false
abbrev K116 (p0:Tm) (p1:Int) (r:Bool) (C:Cf):Prop:=C 116 [] [tmA p0,ai p1] (ab r) [] 0
theorem q116:Qf 116 Tryz.f116:=⟨Tryz.func116,by kernel_rfl⟩
theorem k116{p0 p1 r}(h:K116 p0 p1 r Ci):K116 p0 p1 r Ct:=⟨h,⟨⟨tv,tv,⟨tv,dT _⟩,tv⟩,tv,tv⟩,forall_nil,tv,forall_nil⟩
theorem c116{qq p0 p1 r}(h:e116 qq p0 p1=some r):K116 p0 p1 r Ct:=by
 unfold e116 at h
 obtain⟨r1,h2,h⟩:=obind h
 rcases spl h with⟨h3,h⟩|⟨h3,h⟩
 obtain⟨r4,h5,h⟩:=obind h
 obtain rfl:=sj h
 exact k116 (tF q116 2 [] (oC 1 [] (c30 h5)<|oK 1 [] h3 (c168 h2) o0))
 obtain rfl:=sj h
 exact k116 (tF q116 0 [] (oK 1 [] h3 (c168 h2) o0))
theorem tot_put:∀(r l:List Int) (n:Int) (v:Nat) (acc:List Int) (done:Bool),l.drop v=r->l.length≤8192->acc.length≤v+1->(done=false->acc.length≤v)->v≤l.length ->
  Tot (fun q=>e85Ldy q l n acc done (v:Int)) fun o=>o.length≤acc.length+r.length+1∧(done=true->o.length≤acc.length+r.length)∧∀x,x∈o↔x∈acc∨x∈r∨(done=false∧x=n)
 | [],l,n,v,acc,done,hd,hl,ha,hb,hv=>by
  refine Tot.succ ?_
  simp only[e85Ldy]
  cases done with
  |true=>
   refine Tot.ite (fun _=>Tot.ite (fun h=>?_) fun _=>Tot.ret ⟨(by simp<;>omega),fun _=>(by simp),fun x=>by simp⟩) (fun h=>by cases h)
   rw[drop_nil hd]at h;cases h
  |false=>
   refine Tot.ite (fun h=>by cases h) (fun _=>Tot.ite (fun h=>?_) fun _=>Tot.pure (gapp_ok (by simp<;>omega)) (Tot.ret ⟨(by simp),fun h=>(by cases h),fun x=>by simp⟩))
   rw[drop_nil hd]at h;cases h
 |y::r,l,n,v,acc,done,hd,hl,ha,hb,hv=>by
  have hlt:=drop_lt hd
  refine Tot.succ ?_
  simp only[e85Ldy]
  cases done with
  |true=>
   refine Tot.ite (fun _=>Tot.ite (fun _=>Tot.pure (drop_idx hd) (Tot.pure (gapp_ok (by simp<;>omega)) ?_)) fun h=>?_) (fun h=>by cases h)
   ·rw[w64_nat v (by omega)]
    refine(tot_put r l n (v+1) (acc++[y]) true (drop_next hd) hl (by simp<;>omega) (fun h=>by cases h) (by omega)).mono fun o ho=>?_
    refine⟨by have:=ho.2.1 rfl;simp at this ⊢ <;> omega,fun _=>by have:=ho.2.1 rfl;simp at this ⊢ <;> omega,fun x=>?_⟩
    rw[ho.2.2 x];simp[or_assoc]
   ·rw[drop_dec hd]at h;cases h
  |false=>
   have hb':=hb rfl
   refine Tot.ite (fun h=>by cases h) (fun _=>Tot.ite (fun _=>Tot.pure (drop_idx hd) (Tot.ite (fun h1=>Tot.ite (fun h2=>Tot.pure (gapp_ok (by simp<;>omega)) (Tot.pure (gapp_ok (by simp<;>omega)) ?_)) fun h2=>Tot.pure (gapp_ok (by simp<;>omega)) ?_) fun h1=>Tot.pure (gapp_ok (by simp<;>omega)) ?_)) fun h=>?_)
   ·rw[w64_nat v (by omega)]
    refine(tot_put r l n (v+1) (acc++[n]++[y]) true (drop_next hd) hl (by simp<;>omega) (fun h=>by cases h) (by omega)).mono fun o ho=>?_
    refine⟨by have:=ho.2.1 rfl;simp at this ⊢ <;> omega,fun h=>(by cases h),fun x=>?_⟩
    rw[ho.2.2 x];simp;grind
   ·rw[w64_nat v (by omega)]
    refine(tot_put r l n (v+1) (acc++[y]) true (drop_next hd) hl (by simp<;>omega) (fun h=>by cases h) (by omega)).mono fun o ho=>?_
    have e:y=n:=by simp at h1 h2;omega
    subst e
    refine⟨by have:=ho.2.1 rfl;simp at this ⊢ <;> omega,fun h=>(by cases h),fun x=>?_⟩
    rw[ho.2.2 x];simp;grind
   ·rw[w64_nat v (by omega)]
    refine(tot_put r l n (v+1) (acc++[y]) false (drop_next hd) hl (by simp<;>omega) (fun _=>by simp<;>omega) (by omega)).mono fun o ho=>?_
    refine⟨by have:=ho.1;simp at this ⊢;omega,fun h=>(by cases h),fun x=>?_⟩
    rw[ho.2.2 x];simp;grind
   ·rw[drop_dec hd]at h;cases h
theorem tot_put0(l:List Int)(n:Int)(hl:l.length≤8192):Tot (fun q=>e85 q l n) fun o=>o.length≤l.length+1∧∀x,x∈o↔x∈l∨x=n:=by
 simp only[e85]
 refine(tot_put l l n 0 [] false rfl hl (by simp) (fun _=>by simp) (by omega)).mono fun o ho=>⟨by have:=ho.1;simpa using this,fun x=>by rw[ho.2.2 x];simp⟩
theorem tot_NumIn{p:Tm}{a b:Int}{v:Nat}{r7:List Int}{Q:List Int->Prop}{N:Nat}{S:Int->Prop}(hN:N≤8192)(hr:r7.length≤8192)(hv:v<9223372036854775807)
  (K:∀acc:List Int,acc.length≤N->(∀x,x∈acc↔S x)->Tot (fun q=>e30Ldz q p a b acc ((v+1:Nat):Int)) Q) :
  ∀(m:List Int) (w:Nat) (acc:List Int),r7.drop w=m->acc.length+m.length≤N->(∀x,(x∈acc∨x∈m)↔S x)->Tot (fun q=>e30Lea q p a b (v:Int) r7 (w:Int) acc) Q
 | [],w,acc,hd,hl,hm=>by
  refine Tot.succ ?_
  simp only[e30Lea]
  refine Tot.ite (fun h=>?_) fun _=>?_
  ·rw[drop_nil hd]at h;cases h
  ·rw[w64_nat v (by omega)]
   exact K acc (by simpa using hl) fun x=>by simpa using hm x
 |y::m,w,acc,hd,hl,hm=>by
  have hlt:=drop_lt hd
  refine Tot.succ ?_
  simp only[e30Lea]
  refine Tot.ite (fun _=>Tot.pure (drop_idx hd) ((tot_put0 acc y (by simp at hl;omega)).bind fun o ho=>?_)) fun h=>?_
  ·rw[w64_nat w (by omega)]
   refine tot_NumIn hN hr hv K m (w+1) o (drop_next hd) (by simp at hl;have:=ho.1;omega) fun x=>?_
   rw[←hm x,ho.2 x];simp[or_assoc]
  ·rw[drop_dec hd]at h;cases h
def Same(r m:List Int):Prop:=∀x,x∈r↔x∈m
mutual
theorem tot_Numbers:∀(t:Tm) (a b:Int),t.Ok->t.nodes≤8192->Tot (fun q=>e30 q t a b) fun o=>o.length≤t.nodes∧Same o (colT t a b)
 | .mk k n l,a,b,ho,hn=>by
  refine Tot.succ ?_
  simp only[e30,Tm.k,Tm.n]
  rw[Tm.nodes]at hn
  have key:∀acc:List Int,acc.length≤1->acc=(if k=a∨k=b then [n]else [])->Tot (fun q=>e30Ldz q (.mk k n l) a b acc 0) fun o=>o.length≤(Tm.mk k n l).nodes∧Same o (colT (.mk k n l) a b):=by
   intro acc h1 h2
   refine(tot_NumbersL l (.mk k n l) 0 a b acc rfl ho.1 ho.2 (by omega)).mono fun o ho=>⟨by rw[Tm.nodes];have:=ho.1;omega,fun x=>?_⟩
   rw[ho.2 x,colT,h2];simp
  refine Tot.ite (fun h=>Tot.pure (gapp_ok (by simp)) ?_) fun h=>Tot.ite (fun h'=>Tot.pure (gapp_ok (by simp)) ?_) fun h'=>?_
  ·exact key _ (by simp) (by rw[if_pos (.inl (by simpa using h))];rfl)
  ·exact key _ (by simp) (by rw[if_pos (.inr (by simpa using h'))];rfl)
  ·exact key _ (by simp) (by rw[if_neg (by simp at h h';simp[h,h'])])
theorem tot_NumbersL:∀(l:List Tm) (p:Tm) (v:Nat) (a b:Int) (acc:List Int),p.sub.drop v=l->p.sub.length<9223372036854775808->OkL l->acc.length+nodesL l≤8192 ->
  Tot (fun q=>e30Ldz q p a b acc (v:Int)) fun o=>o.length≤acc.length+nodesL l∧∀x,x∈o↔x∈acc∨x∈colL l a b
 | [],p,v,a,b,acc,hd,hl,ho,hn=>by
  refine Tot.succ ?_
  simp only[e30Ldz]
  refine Tot.ite (fun h=>?_) fun _=>Tot.ret ⟨by omega,fun x=>by rw[colL];simp⟩
  rw[drop_nil hd]at h;cases h
 |t::l,p,v,a,b,acc,hd,hl,ho,hn=>by
  have hlt:=drop_lt hd
  rw[nodesL]at hn
  have IH:=fun acc' h=>tot_NumbersL l p (v+1) a b acc' (drop_next hd) hl ho.2 h
  refine Tot.succ ?_
  simp only[e30Ldz]
  refine Tot.ite (fun _=>Tot.pure (drop_idx hd) ((tot_Numbers t a b ho.1 (by omega)).bind fun r7 hr=>?_)) fun h=>?_
  ·refine tot_NumIn (N:=acc.length+t.nodes) (S:=fun x=>x∈acc∨x∈colT t a b) (by omega) (by have:=hr.1;omega) (by omega) (fun acc' h1 h2=>?_) r7 0 acc rfl (by have:=hr.1;omega) fun x=>by rw[hr.2 x]
   refine(IH acc' (by omega)).mono fun o ho=>⟨by rw[nodesL];have:=ho.1;omega,fun x=>?_⟩
   rw[ho.2 x,h2 x,colL];simp[or_assoc]
  ·rw[drop_dec hd]at h;cases h
end
theorem ev_all:∀(r l:List Int) (n:Int) (v:Nat),l.drop v=r->l.length≤8192->Evt (fun q=>e168Leb q n l (v:Int)) (r.all fun x=>decide (x<n))
 | [],l,n,v,hd,hl=>by
  refine Evt.succ ?_
  simp only[e168Leb]
  exact Evt.ifF (drop_nil hd) Evt.ret
 |y::r,l,n,v,hd,hl=>by
  have hlt:=drop_lt hd
  refine Evt.succ ?_
  simp only[e168Leb]
  refine Evt.ifT (drop_dec hd) (Evt.pure (drop_idx hd) ?_)
  by_cases h:y≥n
  ·exact Evt.ifT (by simpa using h) (Evt.ret.eq (by simp<;>omega))
  ·refine Evt.ifF (by simpa using h) ?_
   rw[w64_nat v (by omega)]
   refine(ev_all r l n (v+1) (drop_next hd) hl).eq ?_
   simp[show y<n by omega]
theorem all_same{r m:List Int}(h:Same r m)(n:Int):(r.all fun x=>decide (x<n))=m.all fun x=>decide (x<n):=by
 rw[Bool.eq_iff_iff]
 simp only[List.all_eq_true]
 exact⟨fun k x hx=>k x ((h x).2 hx),fun k x hx=>k x ((h x).1 hx)⟩
theorem ev_rRight(t:Tm)(f n:Int)(ho:t.Ok):Evt (fun q=>e168 q t f n) (rightT t f n):=by
 simp only[e168]
 refine(ev_rShaped t ho).bind ?_
 unfold rightT
 by_cases h:shapedT t=true
 ·have hs:=shapedT_spec h
  refine Evt.ifT h ((ev_rLoose t 0 hs.2.2 (by omega) (by omega)).bind ?_)
  rw[h]
  by_cases h2:looT t 0>f
  ·exact Evt.ifT (by simpa using h2) (Evt.ret.eq (by simp<;>omega))
  ·obtain⟨r,h3,h4,h5⟩:=tot_Numbers t 6 7 ho hs.1
   refine Evt.ifF (by simpa using h2) (h3.bind ((ev_all r r n 0 rfl (by omega)).eq ?_))
   rw[all_same h5,show decide (looT t 0≤f)=true by simp<;>omega];simp
 ·exact Evt.ifF (by simpa using h) (Evt.ret.eq (by simp[h]))
def closedT(t:Tm)(n:Int):Bool:=rightT t 0 n&&(colT t 8 8).isEmpty
theorem rightT_shaped{t:Tm}{f n:Int}(h:rightT t f n=true):shapedT t=true:=by
 unfold rightT at h;simp at h;exact h.1.1
theorem ev_rClosed(t:Tm)(n:Int)(ho:t.Ok):Evt (fun q=>e116 q t n) (closedT t n):=by
 simp only[e116]
 refine(ev_rRight t 0 n ho).bind ?_
 unfold closedT
 by_cases h:rightT t 0 n=true
 ·have hs:=shapedT_spec (rightT_shaped h)
  obtain⟨r,h3,h4,h5⟩:=tot_Numbers t 8 8 ho hs.1
  refine Evt.ifT h (h3.bind (Evt.ret.eq ?_))
  rw[h,Bool.true_and,Bool.eq_iff_iff]
  simp only[beq_iff_eq,List.isEmpty_iff]
  constructor
  ·intro h6
   have h6':r=[]:=List.length_eq_zero_iff.1 (by omega)
   refine List.eq_nil_iff_forall_not_mem.2 fun x hx=>?_
   rw[←h5 x,h6']at hx;cases hx
  ·intro h6
   have:r=[]:=List.eq_nil_iff_forall_not_mem.2 fun x hx=>by rw[h5 x,h6]at hx;cases hx
   rw[this];rfl
 ·exact Evt.ifF (by simpa using h) (Evt.ret.eq (by simp[h]))
def e207(qq:Nat)(p0:Tm):Option (Bool):=
 if p0.k==0 then
 if p0.n==0 then
 some ((List.length p0.sub:Int)==0)
 else
 some false
 else
 some false
abbrev K207 (p0:Tm) (r:Bool) (C:Cf):Prop:=C 207 [] [tmA p0] (ab r) [] 0
theorem q207:Qf 207 Tryz.f207:=⟨Tryz.func207,by kernel_rfl⟩
theorem k207{p0 r}(h:K207 p0 r Ci):K207 p0 r Ct:=⟨h,⟨⟨tv,tv,⟨tv,dT _⟩,tv⟩,tv⟩,forall_nil,tv,forall_nil⟩
theorem c207{qq p0 r}(h:e207 qq p0=some r):K207 p0 r Ct:=by
 unfold e207 at h
 rcases spl h with⟨h1,h⟩|⟨h1,h⟩
 have k:=oB 1 h1 o0
 rcases spl h with⟨h2,h⟩|⟨h2,h⟩
 obtain rfl:=sj h
 exact k207 (tF q207 3 [] (oB 1 h2 k))
 obtain rfl:=sj h
 exact k207 (tF q207 0 [] (oB 1 h2 k))
 obtain rfl:=sj h
 exact k207 (tF q207 0 [] (oB 1 h1 o0))
def e208Lec:Nat->Int->(List Tm)->Int->Int->Int->(List Tm)->Option (List Tm×Tm×Int)
 |0,_,_,_,_,_,_=>none
 |qq+1,p1,v7,v8,vb0_0,vb0_1,vb0_2=>
 if decide (v8<p1)then
 if vb0_0 != 3 then
 some ([],(Tm.mk 0 0 []),6)
 else
 gidx vb0_2 0>>=fun x8=>
 gapp 40 v7 [x8]>>=fun l10=>
 gidx vb0_2 1>>=fun x12=>
 e208Lec qq p1 l10 (w64 (v8+1)) x12.k x12.n x12.sub
 else
 some (v7,(Tm.mk vb0_0 vb0_1 vb0_2),0)
def e208(qq:Nat)(p0:Tm)(p1:Int):Option (List Tm×Tm×Int):=
 e18 qq p0>>=fun r1=>
 if r1 then
 if decide (p1<0)then
 some ([],(Tm.mk 0 0 []),5)
 else
 if decide (p1>24)then
 some ([],(Tm.mk 0 0 []),2)
 else
 e208Lec qq p1 [] 0 p0.k p0.n p0.sub
 else
 some ([],(Tm.mk 0 0 []),5)
def g208LecE0(j:Nat->Value)(p1:Int)(v7:List Tm)(v8 vb0_0 vb0_1:Int)(vb0_2:List Tm):=sp j 43 0 [(1,ai p1),(2,.mp 0 0),(5,.mp 1 0),(7,slv tmCells v7 (.st 0 3)),(8,ai v8)]
def g208LecS0(p1:Int)(v7:List Tm)(v8 vb0_0 vb0_1:Int)(vb0_2:List Tm):LSt:=⟨[(0,.cells [ai vb0_0,ai vb0_1,slv tmCells vb0_2 .no]),(1,.cells [ai 0,ai 0,slv tmCells ([]:List Tm) .nl])],2,[0],1,[]⟩
abbrev K208 (p0:Tm) (p1:Int) (r:List Tm×Tm×Int) (C:Cf):Prop:=C 208 [] [tmA p0,ai p1] (.tup [.sl (flat tmCells r.1) (List.length r.1) .no,tmA r.2.1,ai r.2.2]) [] 0
theorem q208:Qf 208 Tryz.f208:=⟨Tryz.func208,by kernel_rfl⟩
theorem k208{p0 p1 r}(h:K208 p0 p1 r Ci):K208 p0 p1 r Ct:=⟨h,⟨⟨tv,tv,⟨tv,dT _⟩,tv⟩,tv,tv⟩,forall_nil,⟨dT _,⟨tv,tv,dT _,tv⟩,tv,tv⟩,forall_nil⟩
theorem l208Lec:∀qq:Nat,(∀p1 v7 v8 vb0_0 vb0_1 vb0_2 r,e208Lec qq p1 v7 v8 vb0_0 vb0_1 vb0_2=some r->(∀j,Dl Tryz.prog 0 (inn (inn (rgt (lft (rgt (rgt (rgt (rgt (bod Tryz.f208))))))))) (g208LecE0 j p1 v7 v8 vb0_0 vb0_1 vb0_2) (g208LecS0 p1 v7 v8 vb0_0 vb0_1 vb0_2) (frameQ Tryz.prog 0 (FinQ Tryz.prog 0 Tryz.f208 (.tup [.sl (flat tmCells r.1) (List.length r.1) .no,tmA r.2.1,ai r.2.2]) [] 0) [.blk 0,.seq (rgt (rgt (rgt (rgt (rgt (bod Tryz.f208))))))]))):=by
 intro qq
 induction qq with
 |zero=>
  exact fun _ _ _ _ _ _ _ h=>nn h
 |succ qq ih=>
  intro p1 v7 v8 vb0_0 vb0_1 vb0_2 r h
  rw[e208Lec]at h
  rcases spl h with⟨h6,h⟩|⟨h6,h⟩
  have k:=oB 0 h6 o0
  rcases spl h with⟨h7,h⟩|⟨h7,h⟩
  obtain rfl:=sj h
  exact fun j=>lF 1 [] (oD (dT ([]:List Tm))<|oD (dT ([]:List Tm))<|oB 1 h7 k)
  obtain⟨x8,h9,h⟩:=obind h
  obtain⟨l10,h11,h⟩:=obind h
  obtain⟨x12,h13,h⟩:=obind h
  exact fun j=>lH 3 [] [0,1] [1] [1,2,5,7,8] (oD (dT l10)<|oD (dT ([]:List Tm))<|oD (dT x12.sub)<|oA 1 (ix23 (o:=.no) h13)<|oP 0 (apS23 h11 (by simp))<|oS 1 (obLitR tm_eq [x8])<|oA 1 (ix23 (o:=.no) h9)<|oB 1 h7 k) (ih _ _ _ _ _ _ _ h)
  obtain rfl:=sj h
  exact fun j=>lF 2 [] (oD (dT vb0_2)<|oD (dT v7)<|oB 0 h6 o0)
theorem c208{qq p0 p1 r}(h:e208 qq p0 p1=some r):K208 p0 p1 r Ct:=by
 unfold e208 at h
 obtain⟨r1,h2,h⟩:=obind h
 rcases spl h with⟨h3,h⟩|⟨h3,h⟩
 have k:=oK 1 [] h3 (c18 h2) o0
 rcases spl h with⟨h4,h⟩|⟨h4,h⟩
 obtain rfl:=sj h
 exact k208 (tF q208 1 [] (oD (dT ([]:List Tm))<|oD (dT ([]:List Tm))<|oB 1 h4 k))
 have k:=oB 1 h4 k
 rcases spl h with⟨h5,h⟩|⟨h5,h⟩
 obtain rfl:=sj h
 exact k208 (tF q208 1 [] (oD (dT ([]:List Tm))<|oD (dT ([]:List Tm))<|oB 0 h5 k))
 exact k208 (tH q208 1 [(none,7,3)] [0,1] [0] [1,2,5,7,8] (oD (dT ([]:List Tm))<|oD (dT ([]:List Tm))<|oD (dT p0.sub)<|oB 0 h5 k) (l208Lec _ _ _ _ _ _ _ _ h))
 obtain rfl:=sj h
 exact k208 (tF q208 2 [] (oD (dT ([]:List Tm))<|oD (dT ([]:List Tm))<|oK 1 [] h3 (c18 h2) o0))
def e77(qq:Nat)(p0:List Ent)(p1 p2:Int):Option (Bool):=
 if decide (p1≥0)then
 if decide (p1<(List.length p0:Int))then
 gidx p0 p1>>=fun x3=>
 some (x3.kind==p2)
 else
 some false
 else
 some false
abbrev K77 (p0:List Ent) (p1 p2:Int) (r:Bool) (C:Cf):Prop:=C 77 [] [slv entL p0 .no,ai p1,ai p2] (ab r) [] 0
theorem q77:Qf 77 Tryz.f77:=⟨Tryz.func77,by kernel_rfl⟩
theorem k77{p0 p1 p2 r}(h:K77 p0 p1 p2 r Ci):K77 p0 p1 p2 r Ct:=⟨h,⟨⟨tv,dE _⟩,tv,tv,tv⟩,forall_nil,tv,forall_nil⟩
theorem c77{qq p0 p1 p2 r}(h:e77 qq p0 p1 p2=some r):K77 p0 p1 p2 r Ct:=by
 unfold e77 at h
 rcases spl h with⟨h1,h⟩|⟨h1,h⟩
 have k:=oB 0 h1 o0
 rcases spl h with⟨h2,h⟩|⟨h2,h⟩
 obtain⟨x3,h4,h⟩:=obind h
 obtain rfl:=sj h
 exact k77 (tF q77 2 [] (oA 0 (ix22 (o:=.no) h4)<|oB 1 h2 k))
 obtain rfl:=sj h
 exact k77 (tF q77 0 [] (oB 1 h2 k))
 obtain rfl:=sj h
 exact k77 (tF q77 0 [] (oB 0 h1 o0))
def e209Led:Nat->(List Ent)->(List Int)->Int->Int->Int->Int->Option (Bool)
 |0,_,_,_,_,_,_=>none
 |qq+1,p0,p1,p2,p3,p4,v11=>
 if decide (v11<(List.length p1:Int))then
 gidx p1 v11>>=fun x2=>
 if x2 != (w64 (p2+v11))then
 some false
 else
 e77 qq p0 x2 p4>>=fun r5=>
 if r5 then
 gidx p0 x2>>=fun x8=>
 if x8.fam != p3 then
 some false
 else
 if x8.place != v11 then
 some false
 else
 e209Led qq p0 p1 p2 p3 p4 (w64 (v11+1))
 else
 some false
 else
 some true
def e209(qq:Nat)(p0:List Ent)(p1:List Int)(p2 p3 p4:Int):Option (Bool):=
 e209Led qq p0 p1 p2 p3 p4 0
def g209LedE0(j:Nat->Value)(p0:List Ent)(p1:List Int)(p2 p3 p4 v11:Int):=sp j 60 0 [(0,slv entL p0 .no),(1,slv intC p1 .no),(2,ai p2),(3,ai p3),(4,ai p4),(11,ai v11)]
def g209LedS0(p0:List Ent)(p1:List Int)(p2 p3 p4 v11:Int):LSt:=⟨[],0,[],0,[]⟩
abbrev K209 (p0:List Ent) (p1:List Int) (p2 p3 p4:Int) (r:Bool) (C:Cf):Prop:=C 209 [] [slv entL p0 .no,slv intC p1 .no,ai p2,ai p3,ai p4] (ab r) [] 0
theorem q209:Qf 209 Tryz.f209:=⟨Tryz.func209,by kernel_rfl⟩
theorem k209{p0 p1 p2 p3 p4 r}(h:K209 p0 p1 p2 p3 p4 r Ci):K209 p0 p1 p2 p3 p4 r Ct:=⟨h,⟨⟨tv,dE _⟩,⟨tv,dI _⟩,tv,tv,tv,tv⟩,forall_nil,tv,forall_nil⟩
theorem l209Led:∀qq:Nat,(∀p0 p1 p2 p3 p4 v11 r,e209Led qq p0 p1 p2 p3 p4 v11=some r->(∀j,Dl Tryz.prog 0 (inn (inn (rgt (lft (rgt (bod Tryz.f209)))))) (g209LedE0 j p0 p1 p2 p3 p4 v11) (g209LedS0 p0 p1 p2 p3 p4 v11) (frameQ Tryz.prog 0 (FinQ Tryz.prog 0 Tryz.f209 (ab r) [] 0) [.blk 0,.seq (rgt (rgt (bod Tryz.f209)))]))):=by
 intro qq
 induction qq with
 |zero=>
  exact fun _ _ _ _ _ _ _ h=>nn h
 |succ qq ih=>
  intro p0 p1 p2 p3 p4 v11 r h
  rw[e209Led]at h
  rcases spl h with⟨h1,h⟩|⟨h1,h⟩
  obtain⟨x2,h3,h⟩:=obind h
  have k:=oA 0 (ix41 (o:=.no) h3)<|oB 1 h1 o0
  rcases spl h with⟨h4,h⟩|⟨h4,h⟩
  obtain rfl:=sj h
  exact fun j=>lF 0 [] (oB 2 h4 k)
  obtain⟨r5,h6,h⟩:=obind h
  have k:=oA 0 (ix41 (o:=.no) h3)<|oB 2 h4 k
  rcases spl h with⟨h7,h⟩|⟨h7,h⟩
  obtain⟨x8,h9,h⟩:=obind h
  have k:=oA 1 (ix22 (o:=.no) h9)<|oA 1 (ix41 (o:=.no) h3)<|oK 1 [] h7 (c77 h6) k
  rcases spl h with⟨h10,h⟩|⟨h10,h⟩
  obtain rfl:=sj h
  exact fun j=>lF 0 [] (oB 1 h10 k)
  have k:=oA 1 (ix22 (o:=.no) h9)<|oA 0 (ix41 (o:=.no) h3)<|oB 1 h10 k
  rcases spl h with⟨h11,h⟩|⟨h11,h⟩
  obtain rfl:=sj h
  exact fun j=>lF 0 [] (oB 1 h11 k)
  exact fun j=>lH 1 [] [] [] [0,1,2,3,4,11] (oD (dI p1)<|oD (dE p0)<|oB 1 h11 k) (ih _ _ _ _ _ _ _ h)
  obtain rfl:=sj h
  exact fun j=>lF 1 [] (oK 1 [] h7 (c77 h6) k)
  obtain rfl:=sj h
  exact fun j=>lF 0 [] (oB 1 h1 o0)
theorem c209{qq p0 p1 p2 p3 p4 r}(h:e209 qq p0 p1 p2 p3 p4=some r):K209 p0 p1 p2 p3 p4 r Ct:=by
 unfold e209 at h
 exact k209 (tH q209 0 [] [] [] [0,1,2,3,4,11] (oD (dI p1)<|oD (dE p0) o0) (l209Led _ _ _ _ _ _ _ _ h))
def e76Lee:Nat->Int->Int->(List Tm)->Option (Tm)
 |0,_,_,_=>none
 |qq+1,vb0_0,vb0_1,vb0_2=>
 if vb0_0==5 then
 gidx vb0_2 0>>=fun x2=>
 e76Lee qq x2.k x2.n x2.sub
 else
 some (Tm.mk vb0_0 vb0_1 vb0_2)
def e76(qq:Nat)(p0:Tm):Option (Tm):=
 e76Lee qq p0.k p0.n p0.sub
def g76LeeE0(j:Nat->Value)(vb0_0 vb0_1:Int)(vb0_2:List Tm):=sp j 11 0 [(1,.mp 0 0),(2,.mp 1 0)]
def g76LeeS0(vb0_0 vb0_1:Int)(vb0_2:List Tm):LSt:=⟨[(0,.cells [ai vb0_0,ai vb0_1,slv tmCells vb0_2 .no]),(1,.cells [ai 0,ai 0,slv tmCells ([]:List Tm) .nl])],2,[],0,[]⟩
abbrev K76 (p0 r:Tm) (C:Cf):Prop:=C 76 [] [tmA p0] (tmA r) [] 0
theorem q76:Qf 76 Tryz.f76:=⟨Tryz.func76,by kernel_rfl⟩
theorem k76{p0 r}(h:K76 p0 r Ci):K76 p0 r Ct:=⟨h,⟨⟨tv,tv,⟨tv,dT _⟩,tv⟩,tv⟩,forall_nil,⟨tv,tv,dT _,tv⟩,forall_nil⟩
theorem l76Lee:∀qq:Nat,(∀vb0_0 vb0_1 vb0_2 r,e76Lee qq vb0_0 vb0_1 vb0_2=some r->(∀j,Dl Tryz.prog 0 (inn (inn (lft (rgt (bod Tryz.f76))))) (g76LeeE0 j vb0_0 vb0_1 vb0_2) (g76LeeS0 vb0_0 vb0_1 vb0_2) (frameQ Tryz.prog 0 (FinQ Tryz.prog 0 Tryz.f76 (tmA r) [] 0) [.blk 0,.seq (rgt (rgt (bod Tryz.f76)))]))):=by
 intro qq
 induction qq with
 |zero=>
  exact fun _ _ _ _ h=>nn h
 |succ qq ih=>
  intro vb0_0 vb0_1 vb0_2 r h
  rw[e76Lee]at h
  rcases spl h with⟨h1,h⟩|⟨h1,h⟩
  obtain⟨x2,h3,h⟩:=obind h
  exact fun j=>lH 2 [] [0,1] [] [1,2] (oD (dT ([]:List Tm))<|oD (dT x2.sub)<|oA 1 (ix23 (o:=.no) h3)<|oB 1 h1 o0) (ih _ _ _ _ h)
  obtain rfl:=sj h
  exact fun j=>lF 2 [] (oD (dT vb0_2)<|oB 1 h1 o0)
theorem c76{qq p0 r}(h:e76 qq p0=some r):K76 p0 r Ct:=by
 unfold e76 at h
 exact k76 (tH q76 0 [] [0,1] [] [1,2] (oD (dT ([]:List Tm))<|oD (dT p0.sub) o0) (l76Lee _ _ _ _ _ h))
def e78:Nat->Tm->Option (List Tm)
 |0,_=>none
 |qq+1,p0=>
 if p0.k != 5 then
 some []
 else
 gidx p0.sub 0>>=fun x2=>
 e78 qq x2>>=fun r4=>
 gidx p0.sub 1>>=fun x6=>
 gapp 40 r4 [x6]>>=fun l8=>
 some l8
abbrev K78 (p0:Tm) (r:List Tm) (C:Cf):Prop:=C 78 [] [tmA p0] (slv tmCells r (.st 0 3)) [] 1
theorem q78:Qf 78 Tryz.f78:=⟨Tryz.func78,by kernel_rfl⟩
theorem k78{p0 r}(h:K78 p0 r Ci):K78 p0 r Ct:=⟨h,⟨⟨tv,tv,⟨tv,dT _⟩,tv⟩,tv⟩,forall_nil,dT _,forall_nil⟩
theorem a78:∀qq:Nat,(∀p0 r,e78 qq p0=some r->K78 p0 r Ct):=by
 intro qq
 induction qq with
 |zero=>
  exact fun _ _ h=>nn h
 |succ qq ih=>
  intro p0 r h
  rw[e78]at h
  rcases spl h with⟨h1,h⟩|⟨h1,h⟩
  obtain rfl:=sj h
  exact k78 (tG q78 1 [(none,2,3)] [] [0] true (oD (dT ([]:List Tm))<|oB 1 h1 o0))
  obtain⟨x2,h3,h⟩:=obind h
  obtain⟨r4,h5,h⟩:=obind h
  obtain⟨x6,h7,h⟩:=obind h
  obtain⟨l8,h9,h⟩:=obind h
  obtain rfl:=sj h
  exact k78 (tG q78 0 [] [] [1] true (oD (dT l8)<|oP 0 (apS23 h9 (by simp))<|oS 1 (obLitR tm_eq [x6])<|oA 1 (ix23 (o:=.no) h7)<|oC 1 [] (ih _ _ h5)<|oA 1 (ix23 (o:=.no) h3)<|oB 1 h1 o0))
theorem c78{qq p0 r}(h:e78 qq p0=some r):K78 p0 r Ct:=a78 _ _ _ h
def e79Lef:Nat->(List Tm)->Int->Int->(List Tm)->Option (List Tm)
 |0,_,_,_,_=>none
 |qq+1,v3,vb0_0,vb0_1,vb0_2=>
 if vb0_0==3 then
 gidx vb0_2 0>>=fun x2=>
 gapp 40 v3 [x2]>>=fun l4=>
 gidx vb0_2 1>>=fun x6=>
 e79Lef qq l4 x6.k x6.n x6.sub
 else
 some v3
def e79(qq:Nat)(p0:Tm):Option (List Tm):=
 e79Lef qq [] p0.k p0.n p0.sub
def g79LefE0(j:Nat->Value)(v3:List Tm)(vb0_0 vb0_1:Int)(vb0_2:List Tm):=sp j 20 0 [(1,.mp 0 0),(3,slv tmCells v3 (.st 0 3))]
def g79LefS0(v3:List Tm)(vb0_0 vb0_1:Int)(vb0_2:List Tm):LSt:=⟨[(0,.cells [ai vb0_0,ai vb0_1,slv tmCells vb0_2 .no])],1,[0],1,[]⟩
abbrev K79 (p0:Tm) (r:List Tm) (C:Cf):Prop:=C 79 [] [tmA p0] (.sl (flat tmCells r) (List.length r) .no) [] 0
theorem q79:Qf 79 Tryz.f79:=⟨Tryz.func79,by kernel_rfl⟩
theorem k79{p0 r}(h:K79 p0 r Ci):K79 p0 r Ct:=⟨h,⟨⟨tv,tv,⟨tv,dT _⟩,tv⟩,tv⟩,forall_nil,dT _,forall_nil⟩
theorem l79Lef:∀qq:Nat,(∀v3 vb0_0 vb0_1 vb0_2 r,e79Lef qq v3 vb0_0 vb0_1 vb0_2=some r->(∀j,Dl Tryz.prog 0 (inn (inn (lft (rgt (rgt (bod Tryz.f79)))))) (g79LefE0 j v3 vb0_0 vb0_1 vb0_2) (g79LefS0 v3 vb0_0 vb0_1 vb0_2) (frameQ Tryz.prog 0 (FinQ Tryz.prog 0 Tryz.f79 (.sl (flat tmCells r) (List.length r) .no) [] 0) [.blk 0,.seq (rgt (rgt (rgt (bod Tryz.f79))))]))):=by
 intro qq
 induction qq with
 |zero=>
  exact fun _ _ _ _ _ h=>nn h
 |succ qq ih=>
  intro v3 vb0_0 vb0_1 vb0_2 r h
  rw[e79Lef]at h
  rcases spl h with⟨h1,h⟩|⟨h1,h⟩
  obtain⟨x2,h3,h⟩:=obind h
  obtain⟨l4,h5,h⟩:=obind h
  obtain⟨x6,h7,h⟩:=obind h
  exact fun j=>lH 2 [] [0] [1] [1,3] (oD (dT l4)<|oD (dT x6.sub)<|oA 1 (ix23 (o:=.no) h7)<|oP 0 (apS23 h5 (by simp))<|oS 1 (obLitR tm_eq [x2])<|oA 1 (ix23 (o:=.no) h3)<|oB 1 h1 o0) (ih _ _ _ _ _ h)
  obtain rfl:=sj h
  exact fun j=>lF 0 [] (oD (dT v3)<|oB 1 h1 o0)
theorem c79{qq p0 r}(h:e79 qq p0=some r):K79 p0 r Ct:=by
 unfold e79 at h
 exact k79 (tH q79 1 [(none,3,3)] [0] [0] [1,3] (oD (dT ([]:List Tm))<|oD (dT p0.sub) o0) (l79Lef _ _ _ _ _ _ h))
def e86Leg:Nat->Int->Int->(List Tm)->Option (Tm)
 |0,_,_,_=>none
 |qq+1,vb0_0,vb0_1,vb0_2=>
 if vb0_0==3 then
 gidx vb0_2 1>>=fun x2=>
 e86Leg qq x2.k x2.n x2.sub
 else
 some (Tm.mk vb0_0 vb0_1 vb0_2)
def e86(qq:Nat)(p0:Tm):Option (Tm):=
 e86Leg qq p0.k p0.n p0.sub
def g86LegE0(j:Nat->Value)(vb0_0 vb0_1:Int)(vb0_2:List Tm):=sp j 11 0 [(1,.mp 0 0),(2,.mp 1 0)]
def g86LegS0(vb0_0 vb0_1:Int)(vb0_2:List Tm):LSt:=⟨[(0,.cells [ai vb0_0,ai vb0_1,slv tmCells vb0_2 .no]),(1,.cells [ai 0,ai 0,slv tmCells ([]:List Tm) .nl])],2,[],0,[]⟩
abbrev K86 (p0 r:Tm) (C:Cf):Prop:=C 86 [] [tmA p0] (tmA r) [] 0
theorem q86:Qf 86 Tryz.f86:=⟨Tryz.func86,by kernel_rfl⟩
theorem k86{p0 r}(h:K86 p0 r Ci):K86 p0 r Ct:=⟨h,⟨⟨tv,tv,⟨tv,dT _⟩,tv⟩,tv⟩,forall_nil,⟨tv,tv,dT _,tv⟩,forall_nil⟩
theorem l86Leg:∀qq:Nat,(∀vb0_0 vb0_1 vb0_2 r,e86Leg qq vb0_0 vb0_1 vb0_2=some r->(∀j,Dl Tryz.prog 0 (inn (inn (lft (rgt (bod Tryz.f86))))) (g86LegE0 j vb0_0 vb0_1 vb0_2) (g86LegS0 vb0_0 vb0_1 vb0_2) (frameQ Tryz.prog 0 (FinQ Tryz.prog 0 Tryz.f86 (tmA r) [] 0) [.blk 0,.seq (rgt (rgt (bod Tryz.f86)))]))):=by
 intro qq
 induction qq with
 |zero=>
  exact fun _ _ _ _ h=>nn h
 |succ qq ih=>
  intro vb0_0 vb0_1 vb0_2 r h
  rw[e86Leg]at h
  rcases spl h with⟨h1,h⟩|⟨h1,h⟩
  obtain⟨x2,h3,h⟩:=obind h
  exact fun j=>lH 2 [] [0,1] [] [1,2] (oD (dT ([]:List Tm))<|oD (dT x2.sub)<|oA 1 (ix23 (o:=.no) h3)<|oB 1 h1 o0) (ih _ _ _ _ h)
  obtain rfl:=sj h
  exact fun j=>lF 2 [] (oD (dT vb0_2)<|oB 1 h1 o0)
theorem c86{qq p0 r}(h:e86 qq p0=some r):K86 p0 r Ct:=by
 unfold e86 at h
 exact k86 (tH q86 0 [] [0,1] [] [1,2] (oD (dT ([]:List Tm))<|oD (dT p0.sub) o0) (l86Leg _ _ _ _ _ h))
def e87Leh:Nat->Int->Int->(List Tm)->Int->Option (Bool)
 |0,_,_,_,_=>none
 |qq+1,p2,p4,r1,v13=>
 if decide (v13<p2)then
 gidx r1 v13>>=fun x9=>
 if x9.k != 1 then
 some false
 else
 if x9.n != (w64 ((w64 (p4-1))-v13))then
 some false
 else
 e87Leh qq p2 p4 r1 (w64 (v13+1))
 else
 some true
def e87(qq:Nat)(p0:Tm)(p1 p2 p3 p4:Int):Option (Bool):=
 e78 qq p0>>=fun r1=>
 e76 qq p0>>=fun r3=>
 if r3.k != 6 then
 some false
 else
 if r3.n != p1 then
 some false
 else
 if (List.length r1:Int) != (w64 (p2+p3))then
 some false
 else
 e87Leh qq p2 p4 r1 0
def g87LehE0(j:Nat->Value)(p2 p4:Int)(r1:List Tm)(v13:Int):=sp j 58 0 [(2,ai p2),(4,ai p4),(11,slv tmCells r1 (.st 0 3)),(13,ai v13)]
def g87LehS0(p2 p4:Int)(r1:List Tm)(v13:Int):LSt:=⟨[],0,[0],1,[]⟩
abbrev K87 (p0:Tm) (p1 p2 p3 p4:Int) (r:Bool) (C:Cf):Prop:=C 87 [] [tmA p0,ai p1,ai p2,ai p3,ai p4] (ab r) [] 0
theorem q87:Qf 87 Tryz.f87:=⟨Tryz.func87,by kernel_rfl⟩
theorem k87{p0 p1 p2 p3 p4 r}(h:K87 p0 p1 p2 p3 p4 r Ci):K87 p0 p1 p2 p3 p4 r Ct:=⟨h,⟨⟨tv,tv,⟨tv,dT _⟩,tv⟩,tv,tv,tv,tv,tv⟩,forall_nil,tv,forall_nil⟩
theorem l87Leh:∀qq:Nat,(∀p2 p4 r1 v13 r,e87Leh qq p2 p4 r1 v13=some r->(∀j,Dl Tryz.prog 0 (inn (inn (rgt (lft (rgt (rgt (rgt (rgt (bod Tryz.f87))))))))) (g87LehE0 j p2 p4 r1 v13) (g87LehS0 p2 p4 r1 v13) (frameQ Tryz.prog 0 (FinQ Tryz.prog 0 Tryz.f87 (ab r) [] 0) [.blk 0,.seq (rgt (rgt (rgt (rgt (rgt (bod Tryz.f87))))))]))):=by
 intro qq
 induction qq with
 |zero=>
  exact fun _ _ _ _ _ h=>nn h
 |succ qq ih=>
  intro p2 p4 r1 v13 r h
  rw[e87Leh]at h
  rcases spl h with⟨h8,h⟩|⟨h8,h⟩
  obtain⟨x9,h10,h⟩:=obind h
  have k:=oA 0 (ix23 (o:=(.st 0 3)) h10)<|oB 0 h8 o0
  rcases spl h with⟨h11,h⟩|⟨h11,h⟩
  obtain rfl:=sj h
  exact fun j=>lF 0 [] (oB 1 h11 k)
  have k:=oA 0 (ix23 (o:=(.st 0 3)) h10)<|oB 1 h11 k
  rcases spl h with⟨h12,h⟩|⟨h12,h⟩
  obtain rfl:=sj h
  exact fun j=>lF 0 [] (oB 3 h12 k)
  exact fun j=>lH 1 [] [] [0] [2,4,11,13] (oD (dT r1)<|oB 3 h12 k) (ih _ _ _ _ _ h)
  obtain rfl:=sj h
  exact fun j=>lF 0 [] (oB 0 h8 o0)
theorem c87{qq p0 p1 p2 p3 p4 r}(h:e87 qq p0 p1 p2 p3 p4=some r):K87 p0 p1 p2 p3 p4 r Ct:=by
 unfold e87 at h
 obtain⟨r1,h2,h⟩:=obind h
 obtain⟨r3,h4,h⟩:=obind h
 have k:=oC 1 [] (c76 h4)<|oC 1 [] (c78 h2) o0
 rcases spl h with⟨h5,h⟩|⟨h5,h⟩
 obtain rfl:=sj h
 exact k87 (tF q87 0 [] (oB 2 h5 k))
 have k:=oB 2 h5 k
 rcases spl h with⟨h6,h⟩|⟨h6,h⟩
 obtain rfl:=sj h
 exact k87 (tF q87 0 [] (oB 1 h6 k))
 have k:=oB 1 h6 k
 rcases spl h with⟨h7,h⟩|⟨h7,h⟩
 obtain rfl:=sj h
 exact k87 (tF q87 0 [] (oB 2 h7 k))
 exact k87 (tH q87 0 [] [] [0] [2,4,11,13] (oD (dT r1)<|oB 2 h7 k) (l87Leh _ _ _ _ _ _ h))
theorem tel_spec{t:Tm}(hg:goodT t=true):∃l y,splT (pisT t) t=some (l,y)∧l.length=pisT t∧y.k≠3∧goodT y=true∧y.nodes≤t.nodes∧y.high≤t.high∧∀x∈l,goodT x=true∧x.nodes≤t.nodes∧x.high≤t.high:=by
 obtain⟨r,hr⟩:=splT_all t hg _ (Nat.le_refl _)
 obtain⟨h1,h2,h3,h4⟩:=splT_spec _ t r hg hr
 refine⟨r.1,r.2,hr,h1,fun h=>?_,h3.1,h3.2.1,h3.2.2,h4⟩
 obtain⟨a,b,hx,-,-⟩:=pi_form h3.1 h
 rw[hx,pisT_pi]at h2
 omega
theorem ev_TeleL:∀(n:Nat) (t:Tm) (l:List Tm) (y:Tm) (acc:List Tm),goodT t=true->splT n t=some (l,y)->y.k≠3->acc.length+n≤100000->Evt (fun q=>e79Lef q acc t.k t.n t.sub) (acc++l)
 |0,t,l,y,acc,_,h,hk,_=>by
  rw[splT]at h;cases h
  refine Evt.succ ?_
  simp only[e79Lef]
  exact Evt.ifF (by simpa using hk) (Evt.ret.eq (by simp))
 |n+1,t,l,y,acc,hg,h,hk,hl=>by
  by_cases h3:t.k=3
  ·obtain⟨a,b,hx,hga,hgb⟩:=pi_form hg h3
   rw[hx,splT_pi]at h
   obtain⟨r',h1,h2⟩:=Option.map_eq_some_iff.1 h
   cases h2
   refine Evt.succ ?_
   simp only[e79Lef]
   have hs:t.sub=[a,b]:=by rw[hx];rfl
   rw[hs]
   refine Evt.ifT (by simp[h3]) (Evt.pure (a:=a) rfl (Evt.pure (gapp_ok (by simp;omega)) (Evt.pure (a:=b) rfl ?_)))
   exact(ev_TeleL n b r'.1 r'.2 (acc++[a]) hgb h1 hk (by simp;omega)).eq (by simp)
  ·rw[splT_not h3]at h;cases h
theorem pis_le:∀(n:Nat) (t:Tm),t.nodes≤n->pisT t≤n
 |0,t,h=>by have:=nodes_pos t;omega
 |n+1,t,h=>by
  unfold pisT
  split
  ·rename_i k m a b
   rw[Tm.nodes,nodesL,nodesL,nodesL]at h
   have:=nodes_pos a
   split
   ·have:=pis_le n b (by omega);omega
   ·omega
  ·omega
theorem ev_Tele{t:Tm}(hg:goodT t=true)(hn:t.nodes≤8192){l:List Tm}{y:Tm}(h:splT (pisT t) t=some (l,y))(hk:y.k≠3):Evt (fun q=>e79 q t) l:=by
 simp only[e79]
 have:=pis_le t.nodes t (Nat.le_refl _)
 exact(ev_TeleL (pisT t) t l y [] hg h hk (by simp;omega)).eq (by simp)
theorem ev_Bene:∀(n:Nat) (t:Tm) (l:List Tm) (y:Tm),goodT t=true->splT n t=some (l,y)->y.k≠3->Evt (fun q=>e86Leg q t.k t.n t.sub) y
 |0,t,l,y,_,h,hk=>by
  rw[splT]at h;cases h
  refine Evt.succ ?_
  simp only[e86Leg]
  exact Evt.ifF (by simpa using hk) (Evt.ret.eq (tm_eta _))
 |n+1,t,l,y,hg,h,hk=>by
  by_cases h3:t.k=3
  ·obtain⟨a,b,hx,hga,hgb⟩:=pi_form hg h3
   rw[hx,splT_pi]at h
   obtain⟨r',h1,h2⟩:=Option.map_eq_some_iff.1 h
   cases h2
   refine Evt.succ ?_
   simp only[e86Leg]
   have hs:t.sub=[a,b]:=by rw[hx];rfl
   rw[hs]
   exact Evt.ifT (by simp[h3]) (Evt.pure (a:=b) rfl (ev_Bene n b r'.1 r'.2 hgb h1 hk))
  ·rw[splT_not h3]at h;cases h
theorem app_form{t:Tm}(hg:goodT t=true)(h:t.k=5):∃a b,t = .mk 5 t.n [a,b]∧goodT a=true∧goodT b=true:=by
 obtain⟨k,n,l⟩:=t
 have hh:=goodT_mk hg
 replace h:k=5:=h
 subst h
 obtain⟨a,b,rfl⟩:=sub2 ((head_spec hh.1).2.2.2.2.2.1 (.inr (.inr rfl))).1
 have hc:=goodL_cons hh.2
 exact⟨a,b,rfl,hc.1,(goodL_cons hc.2).1⟩
theorem ar_le:∀(n:Nat) (t:Tm),goodT t=true->t.nodes≤n->(arT t).length≤n
 |0,t,_,h=>by have:=nodes_pos t;omega
 |n+1,t,hg,h=>by
  by_cases h5:t.k=5
  ·obtain⟨a,b,hx,hga,-⟩:=app_form hg h5
   rw[hx]at h ⊢
   rw[Tm.nodes,nodesL,nodesL,nodesL]at h
   rw[arT_app,List.length_append]
   have:=ar_le n a hga (by omega)
   have:=nodes_pos b
   simp;omega
  ·rw[arT_not h5];simp
theorem ev_rArgs:∀(n:Nat) (t:Tm),goodT t=true->t.nodes≤n->n≤8192->Evt (fun q=>e78 q t) (arT t)
 |0,t,_,h,_=>by have:=nodes_pos t;omega
 |n+1,t,hg,h,hn=>by
  refine Evt.succ ?_
  simp only[e78]
  by_cases h5:t.k=5
  ·obtain⟨a,b,hx,hga,-⟩:=app_form hg h5
   have hs:t.sub=[a,b]:=by rw[hx];rfl
   have hnn:=nodes_sub t
   rw[hs,nodesL,nodesL,nodesL]at hnn
   have:=nodes_pos b
   rw[hs]
   have hle:=ar_le n a hga (by omega)
   refine Evt.ifF (by simp[h5]) (Evt.pure (a:=a) rfl ((ev_rArgs n a hga (by omega) (by omega)).bind (Evt.pure (a:=b) rfl (Evt.pure (gapp_ok (by simp;omega)) (Evt.ret.eq ?_)))))
   rw[hx,arT_app]
  ·exact Evt.ifT (by simpa using h5) (Evt.ret.eq (arT_not h5).symm)
theorem ev_rHeadL:∀(n:Nat) (t:Tm),goodT t=true->t.nodes≤n->Evt (fun q=>e76Lee q t.k t.n t.sub) (hdT t)
 |0,t,_,h=>by have:=nodes_pos t;omega
 |n+1,t,hg,h=>by
  refine Evt.succ ?_
  simp only[e76Lee]
  by_cases h5:t.k=5
  ·obtain⟨a,b,hx,hga,-⟩:=app_form hg h5
   have hs:t.sub=[a,b]:=by rw[hx];rfl
   have hnn:=nodes_sub t
   rw[hs,nodesL,nodesL,nodesL]at hnn
   rw[hs]
   refine Evt.ifT (by simp[h5]) (Evt.pure (a:=a) rfl ((ev_rHeadL n a hga (by omega)).eq ?_))
   rw[hx,hdT_app]
  ·exact Evt.ifF (by simpa using h5) (Evt.ret.eq (by rw[hdT_not h5,tm_eta]))
theorem ev_rIs(l:List Ent)(n kind:Int):Evt (fun q=>e77 q l n kind) (isT l n kind):=by
 simp only[e77]
 unfold isT
 by_cases h0:0≤n
 ·refine Evt.ifT (decide_eq_true h0) ?_
  by_cases h1:n<l.length
  ·exact Evt.ifT (decide_eq_true h1) (Evt.pure (gidx_ent h0 h1) (Evt.ret.eq (by simp[h0,h1])))
  ·exact Evt.ifF (decide_eq_false h1) (Evt.ret.eq (by simp[h1]))
 ·exact Evt.ifF (decide_eq_false h0) (Evt.ret.eq (by simp[h0]))
def e26(qq:Nat)(p0:List Ent)(p1:Tm):Option (Int):=
 e76 qq p1>>=fun r1=>
 if r1.k != 6 then
 some (-1)
 else
 e77 qq p0 r1.n 2>>=fun r4=>
 if r4 then
 e78 qq p1>>=fun r7=>
 gidx p0 r1.n>>=fun x9=>
 e79 qq x9.type>>=fun r11=>
 if (List.length r7:Int) != (List.length r11:Int)then
 some (-1)
 else
 some r1.n
 else
 some (-1)
abbrev K26 (p0:List Ent) (p1:Tm) (r:Int) (C:Cf):Prop:=C 26 [] [slv entL p0 .no,tmA p1] (ai r) [] 0
theorem q26:Qf 26 Tryz.f26:=⟨Tryz.func26,by kernel_rfl⟩
theorem k26{p0 p1 r}(h:K26 p0 p1 r Ci):K26 p0 p1 r Ct:=⟨h,⟨⟨tv,dE _⟩,⟨tv,tv,⟨tv,dT _⟩,tv⟩,tv⟩,forall_nil,tv,forall_nil⟩
theorem c26{qq p0 p1 r}(h:e26 qq p0 p1=some r):K26 p0 p1 r Ct:=by
 unfold e26 at h
 obtain⟨r1,h2,h⟩:=obind h
 have k:=oC 1 [] (c76 h2) o0
 rcases spl h with⟨h3,h⟩|⟨h3,h⟩
 obtain rfl:=sj h
 exact k26 (tF q26 0 [] (oB 2 h3 k))
 obtain⟨r4,h5,h⟩:=obind h
 have k:=oB 2 h3 k
 rcases spl h with⟨h6,h⟩|⟨h6,h⟩
 obtain⟨r7,h8,h⟩:=obind h
 obtain⟨x9,h10,h⟩:=obind h
 obtain⟨r11,h12,h⟩:=obind h
 have k:=oC 1 [] (c79 h12)<|oA 2 (ix22 (o:=.no) h10)<|oC 2 [] (c78 h8)<|oK 1 [] h6 (c77 h5) k
 rcases spl h with⟨h13,h⟩|⟨h13,h⟩
 obtain rfl:=sj h
 exact k26 (tF q26 0 [] (oB 1 h13 k))
 obtain rfl:=sj h
 exact k26 (tF q26 1 [] (oB 1 h13 k))
 obtain rfl:=sj h
 exact k26 (tF q26 1 [] (oK 1 [] h6 (c77 h5) k))
mutual
def e35:Nat->(List Ent)->Tm->Option (Bool)
 |0,_,_=>none
 |qq+1,p0,p1=>
 e26 qq p0 p1>>=fun r1=>
 if decide (r1<0)then
 some false
 else
 e78 qq p1>>=fun r4=>
 gidx p0 r1>>=fun x6=>
 e35Lei qq p0 r4 x6.pars
def e35Lei:Nat->(List Ent)->(List Tm)->Int->Option (Bool)
 |0,_,_,_=>none
 |qq+1,p0,r4,v7=>
 if decide (v7<(List.length r4:Int))then
 gidx r4 v7>>=fun x9=>
 e35 qq p0 x9>>=fun r11=>
 if r11 then
 e35Lei qq p0 r4 (w64 (v7+1))
 else
 some false
 else
 some true
end
def g35LeiE0(j:Nat->Value)(p0:List Ent)(r4:List Tm)(v7:Int):=sp j 33 0 [(0,slv entL p0 .no),(6,slv tmCells r4 (.st 0 3)),(7,ai v7)]
def g35LeiS0(p0:List Ent)(r4:List Tm)(v7:Int):LSt:=⟨[],0,[0],1,[]⟩
abbrev K35 (p0:List Ent) (p1:Tm) (r:Bool) (C:Cf):Prop:=C 35 [] [slv entL p0 .no,tmA p1] (ab r) [] 0
theorem q35:Qf 35 Tryz.f35:=⟨Tryz.func35,by kernel_rfl⟩
theorem k35{p0 p1 r}(h:K35 p0 p1 r Ci):K35 p0 p1 r Ct:=⟨h,⟨⟨tv,dE _⟩,⟨tv,tv,⟨tv,dT _⟩,tv⟩,tv⟩,forall_nil,tv,forall_nil⟩
theorem a35_35Lei:∀qq:Nat,(∀p0 p1 r,e35 qq p0 p1=some r->K35 p0 p1 r Ct)∧(∀p0 r4 v7 r,e35Lei qq p0 r4 v7=some r->(∀j,Dl Tryz.prog 0 (inn (inn (rgt (lft (rgt (rgt (rgt (rgt (bod Tryz.f35))))))))) (g35LeiE0 j p0 r4 v7) (g35LeiS0 p0 r4 v7) (frameQ Tryz.prog 0 (FinQ Tryz.prog 0 Tryz.f35 (ab r) [] 0) [.blk 0,.seq (rgt (rgt (rgt (rgt (rgt (bod Tryz.f35))))))]))):=by
 intro qq
 induction qq with
 |zero=>
  exact⟨fun _ _ _ h=>nn h,fun _ _ _ _ h=>nn h⟩
 |succ qq ih=>
  obtain⟨ih35,ih35Lei⟩:=ih
  refine⟨?_,?_⟩
  intro p0 p1 r h
  rw[e35]at h
  obtain⟨r1,h2,h⟩:=obind h
  have k:=oC 1 [] (c26 h2) o0
  rcases spl h with⟨h3,h⟩|⟨h3,h⟩
  obtain rfl:=sj h
  exact k35 (tF q35 0 [] (oB 0 h3 k))
  obtain⟨r4,h5,h⟩:=obind h
  obtain⟨x6,h7,h⟩:=obind h
  exact k35 (tH q35 1 [] [] [0] [0,6,7] (oD (dT r4)<|oD (dE p0)<|oA 0 (ix22 (o:=.no) h7)<|oC 1 [] (c78 h5)<|oB 0 h3 k) (ih35Lei _ _ _ _ h))
  intro p0 r4 v7 r h
  rw[e35Lei]at h
  rcases spl h with⟨h8,h⟩|⟨h8,h⟩
  obtain⟨x9,h10,h⟩:=obind h
  obtain⟨r11,h12,h⟩:=obind h
  have k:=oA 0 (ix23 (o:=(.st 0 3)) h10)<|oB 1 h8 o0
  rcases spl h with⟨h13,h⟩|⟨h13,h⟩
  exact fun j=>lH 2 [] [] [0] [0,6,7] (oD (dT r4)<|oD (dE p0)<|oK 1 [] h13 (ih35 _ _ _ h12) k) (ih35Lei _ _ _ _ h)
  obtain rfl:=sj h
  exact fun j=>lF 1 [] (oK 1 [] h13 (ih35 _ _ _ h12) k)
  obtain rfl:=sj h
  exact fun j=>lF 0 [] (oB 1 h8 o0)
theorem c35{qq p0 p1 r}(h:e35 qq p0 p1=some r):K35 p0 p1 r Ct:=(a35_35Lei _).1 _ _ _ h
theorem ev_rTele2{t:Tm}(hs:shapedT t=true):∃L y,splT (pisT t) t=some (L,y)∧L.length=pisT t∧goodT y=true∧y.nodes≤8192∧shapedT y=true∧(∀x∈L,shapedT x=true)∧Evt (fun q=>e79 q t) L∧Evt (fun q=>e86 q t) y:=by
 have hsp:=shapedT_spec hs
 obtain⟨L,y,hL,hlen,hyk,hyg,hyn,hyh,hLg⟩:=tel_spec hsp.2.2
 refine⟨L,y,hL,hlen,hyg,by omega,shapedT_of (by omega) (by omega) hyg,fun x hx=>?_,ev_Tele hsp.2.2 hsp.1 hL hyk,?_⟩
 ·have:=hLg x hx;exact shapedT_of (by omega) (by omega) this.1
 ·simp only[e86];exact ev_Bene _ _ L y hsp.2.2 hL hyk
theorem ev_rCon{N:ByteArray->Bool}(l:List Ent)(hE:AllE N l)(t:Tm)(hs:shapedT t=true):Evt (fun q=>e26 q l t) (if isCon l t then(hdT t).n else -1):=by
 have h:=shapedT_spec hs
 have hn:=good_n (shapedT_spec (hd_shaped hs)).2.2
 simp only[e26]
 refine Evt.bind (a:=hdT t) (by simp only[e76];exact ev_rHeadL t.nodes t h.2.2 (Nat.le_refl _)) ?_
 by_cases h6:(hdT t).k=6
 ·refine Evt.ifF (by simpa using h6) ((ev_rIs l (hdT t).n 2).bind ?_)
  by_cases hi:isT l (hdT t).n 2=true
  ·have hi':=isT_spec hi
   have hst:=(entryT_spec (hE.2 _ hi'.1 hi'.2.1)).1
   have hst':=closed_shaped hst
   refine Evt.ifT hi ((ev_rArgs t.nodes t h.2.2 (Nat.le_refl _) h.1).bind (Evt.pure (gidx_ent hi'.1 hi'.2.1) ?_))
   obtain⟨L,y,hL,hlen,-,-,-,-,hT,-⟩:=ev_rTele2 hst'
   refine hT.bind ?_
   have hk:kindT l (hdT t)=2:=by unfold kindT;rw[if_pos h6,if_pos hi'.2.1];exact hi'.2.2
   by_cases hq:(arT t).length=L.length
   ·refine Evt.ifF (by simp[hq]) (Evt.ret.eq ?_)
    rw[if_pos];exact⟨hk,by rw[hq,hlen]⟩
   ·refine Evt.ifT (by simp;omega) (Evt.ret.eq ?_)
    rw[if_neg];intro hc;exact hq (by rw[hlen];exact hc.2)
  ·refine Evt.ifF (by simpa using hi) (Evt.ret.eq ?_)
   rw[if_neg]
   intro hc
   have:=kindT_spec hc.1 (by decide)
   exact hi (by unfold isT;simp[hn,this.2.1,this.2.2])
 ·refine Evt.ifT (by simpa using h6) (Evt.ret.eq ?_)
  rw[if_neg]
  intro hc
  exact h6 (kindT_spec hc.1 (by decide)).1
section
variable {N:ByteArray->Bool} {l:List Ent}
theorem ev_hd0{t:Tm}(hs:shapedT t=true):Evt (fun q=>e76 q t) (hdT t):=by
 simp only[e76];exact ev_rHeadL t.nodes t (shapedT_spec hs).2.2 (Nat.le_refl _)
theorem ev_ar0{t:Tm}(hs:shapedT t=true):Evt (fun q=>e78 q t) (arT t):=ev_rArgs t.nodes t (shapedT_spec hs).2.2 (Nat.le_refl _) (shapedT_spec hs).1
def VT(l:List Ent):Nat->Tm->Prop
 |0,_=>False
 |n+1,t=>isCon l t∧∀x∈(arT t).drop (ent l (hdT t).n).pars.toNat,VT l n x
theorem con_pars(hE:AllE N l){t:Tm}(hs:shapedT t=true)(hc:isCon l t):∃p:Nat,(ent l (hdT t).n).pars=(p:Int)∧p≤(arT t).length∧0≤(hdT t).n∧(hdT t).n<l.length:=by
 have h:=isCon_spec hs hc
 obtain⟨A,y,hw,-,-,hp,-,q0,q1,-⟩:=con_facts hE h.1 h.2.1 h.2.2.1
 exact⟨(ent l (hdT t).n).pars.toNat,by omega,by rw[h.2.2.2];omega,h.1,h.2.1⟩
theorem tot_rValue(hE:AllE N l):∀(n:Nat) (t:Tm),t.nodes≤n->shapedT t=true->Tot (fun q=>e35 q l t) fun b=>b=true->VT l n t
 |0,t,hn,hs=>by have:=nodes_pos t;omega
 |n+1,t,hn,hs=>by
  have hg:=(shapedT_spec hs).2.2
  have hl:=(shapedT_spec hs).1
  have hal:=ar_len t hg
  refine Tot.succ ?_
  simp only[e35]
  refine Tot.bind (P:=fun n=>n=if isCon l t then(hdT t).n else -1) ((ev_rCon l hE t hs).tot rfl) fun c hc=>?_
  by_cases hcc:isCon l t
  ·rw[if_pos hcc]at hc
   subst hc
   obtain⟨p,hp,hpl,h0,h1⟩:=con_pars hE hs hcc
   refine Tot.ite (fun h=>Tot.ret fun h=>nomatch h) fun _=>?_
   refine Tot.bind (P:=fun a=>a=arT t) ((ev_ar0 hs).tot rfl) fun a e=>?_
   subst e
   refine Tot.pure (gidx_ent h0 h1) ?_
   rw[hp]
   have L:∀(r:List Tm) (v:Nat),(arT t).drop v=r->Tot (fun q=>e35Lei q l (arT t) (v:Int)) fun b=>b=true->∀x∈r,VT l n x:=by
    intro r
    induction r with
    |nil=>
     intro v hd
     refine Tot.succ ?_
     simp only[e35Lei]
     refine Tot.ite (fun h=>?_) fun _=>Tot.ret fun _ x hx=>nomatch hx
     rw[drop_nil hd]at h;cases h
    |cons x r ih=>
     intro v hd
     have hlt:=drop_lt hd
     have hx:x∈arT t:=List.mem_of_mem_drop (by rw[hd];simp)
     refine Tot.succ ?_
     simp only[e35Lei]
     refine Tot.ite (fun _=>Tot.pure (drop_idx hd) ((tot_rValue hE n x (by have:=((hd_spec t hg).2.2.2.2 x hx).2.1;omega) (ar_shaped hs hx)).bind fun b hb=>Tot.ite (fun h=>?_) fun _=>Tot.ret fun h=>nomatch h)) fun h=>?_
     ·rw[w64_nat v (by omega)]
      exact(ih (v+1) (drop_next hd)).mono fun b' h' hb' y hy=>by
       rcases List.mem_cons.1 hy with rfl|hy
       ·exact hb h
       ·exact h' hb' y hy
     ·rw[drop_dec hd]at h;cases h
   exact(L _ p rfl).mono fun b hb h=>⟨hcc,by rw[hp];exact hb h⟩
  ·rw[if_neg hcc]at hc
   subst hc
   exact Tot.ite (fun _=>Tot.ret fun h=>nomatch h) fun h=>absurd (of_decide_eq_false h) (by decide)
end
def e296Lej:Nat->(List R24Pat)->Int->Option (Int)
 |0,_,_=>none
 |qq+1,v3,v4=>
 if decide ((List.length v3:Int)>0)then
 if decide (v4≤8192)then
 gidx v3 (w64 ((List.length v3:Int)-1))>>=fun x3=>
 gsl v3 0 (w64 ((List.length v3:Int)-1))>>=fun x5=>
 gapp 88 ([]:List R24Pat) x5>>=fun l7=>
 gsl x3.sub_ 0 (imin (List.length x3.sub_:Int) 8193)>>=fun x10=>
 gapp 88 l7 x10>>=fun l12=>
 e296Lej qq l12 (w64 (v4+1))
 else
 some v4
 else
 some v4
def e296(qq:Nat)(p0:R24Pat):Option (Int):=
 e296Lej qq [(R24Pat.mk p0.kind_ p0.n_ p0.at_ p0.sub_ p0.t_)] 0
def g296LejE0(j:Nat->Value)(v3:List R24Pat)(v4:Int):=sp j 39 0 [(3,slv r24PatC v3 .full),(4,ai v4)]
def g296LejS0(v3:List R24Pat)(v4:Int):LSt:=⟨[],0,[],0,[]⟩
def g296LejE1(j:Nat->Value)(v3:List R24Pat)(v4:Int):=sp j 39 0 [(3,slv r24PatC v3 (.st 0 7)),(4,ai v4)]
def g296LejS1(v3:List R24Pat)(v4:Int):LSt:=⟨[],0,[0],1,[]⟩
abbrev K296 (p0:R24Pat) (r:Int) (C:Cf):Prop:=C 296 [] [r24PatA p0] (ai r) [] 0
theorem q296:Qf 296 Tryz.f296:=⟨Tryz.func296,by kernel_rfl⟩
theorem k296{p0 r}(h:K296 p0 r Ci):K296 p0 r Ct:=⟨h,⟨⟨tv,tv,tv,⟨tv,dR24Pat _⟩,tv,tv,⟨tv,dT _⟩,tv⟩,tv⟩,forall_nil,tv,forall_nil⟩
theorem l296Lej:∀qq:Nat,(∀v3 v4 r,e296Lej qq v3 v4=some r->(∀j,Dl Tryz.prog 0 (inn (inn (lft (rgt (rgt (rgt (bod Tryz.f296))))))) (g296LejE0 j v3 v4) (g296LejS0 v3 v4) (frameQ Tryz.prog 0 (FinQ Tryz.prog 0 Tryz.f296 (ai r) [] 0) [.blk 0,.seq (rgt (rgt (rgt (rgt (bod Tryz.f296)))))]))∧(∀j,Dl Tryz.prog 0 (inn (inn (lft (rgt (rgt (rgt (bod Tryz.f296))))))) (g296LejE1 j v3 v4) (g296LejS1 v3 v4) (frameQ Tryz.prog 0 (FinQ Tryz.prog 0 Tryz.f296 (ai r) [] 0) [.blk 0,.seq (rgt (rgt (rgt (rgt (bod Tryz.f296)))))]))):=by
 intro qq
 induction qq with
 |zero=>
  exact fun _ _ _ h=>nn h
 |succ qq ih=>
  intro v3 v4 r h
  rw[e296Lej]at h
  refine⟨?_,?_⟩
  rcases spl h with⟨h1,h⟩|⟨h1,h⟩
  have k:=oB 1 h1 o0
  rcases spl h with⟨h2,h⟩|⟨h2,h⟩
  obtain⟨x3,h4,h⟩:=obind h
  obtain⟨x5,h6,h⟩:=obind h
  obtain⟨l7,h8,h⟩:=obind h
  have k:=oF 5 (slToO97 (o:=.full) h6)<|oA 2 (ix97 (o:=.full) h4)<|oB 0 h2 k
  by_cases h9:List.length x5=0
  obtain⟨x10,h11,h⟩:=obind h
  obtain⟨l12,h13,h⟩:=obind h
  have k:=oA 4 (slTo97 h11)<|oP 0 (apN97 h8 h9) k
  by_cases h14:List.length x10=0
  exact fun j=>lH 1 [] [] [] [3,4] (oD (dR24Pat l12)<|oP 0 (apN97 h13 h14) k) ((ih _ _ _ h).1)
  exact fun j=>lH 1 [] [] [0] [3,4] (oD (dR24Pat l12)<|oP 0 (apS97 h13 h14) k) ((ih _ _ _ h).2)
  obtain⟨x10,h11,h⟩:=obind h
  obtain⟨l12,h13,h⟩:=obind h
  have k:=oA 4 (slTo97 h11)<|oP 0 (apS97 h8 h9) k
  by_cases h14:List.length x10=0
  exact fun j=>lH 1 [] [] [0] [3,4] (oD (dR24Pat l12)<|oP 0 (apN97 h13 h14) k) ((ih _ _ _ h).2)
  exact fun j=>lH 1 [] [] [1] [3,4] (oD (dR24Pat l12)<|oP 0 (apS97 h13 h14) k) ((ih _ _ _ h).2)
  obtain rfl:=sj h
  exact fun j=>lF 0 [] (oB 0 h2 k)
  obtain rfl:=sj h
  exact fun j=>lF 0 [] (oB 1 h1 o0)
  rcases spl h with⟨h1,h⟩|⟨h1,h⟩
  have k:=oB 1 h1 o0
  rcases spl h with⟨h2,h⟩|⟨h2,h⟩
  obtain⟨x3,h4,h⟩:=obind h
  obtain⟨x5,h6,h⟩:=obind h
  obtain⟨l7,h8,h⟩:=obind h
  have k:=oF 5 (slToO97 (o:=(.st 0 7)) h6)<|oA 2 (ix97 (o:=(.st 0 7)) h4)<|oB 0 h2 k
  by_cases h9:List.length x5=0
  obtain⟨x10,h11,h⟩:=obind h
  obtain⟨l12,h13,h⟩:=obind h
  have k:=oA 4 (slTo97 h11)<|oP 0 (apN97 h8 h9) k
  by_cases h14:List.length x10=0
  exact fun j=>lH 1 [] [] [] [3,4] (oD (dR24Pat l12)<|oP 0 (apN97 h13 h14) k) ((ih _ _ _ h).1)
  exact fun j=>lH 1 [] [] [1] [3,4] (oD (dR24Pat l12)<|oP 0 (apS97 h13 h14) k) ((ih _ _ _ h).2)
  obtain⟨x10,h11,h⟩:=obind h
  obtain⟨l12,h13,h⟩:=obind h
  have k:=oA 4 (slTo97 h11)<|oP 0 (apS97 h8 h9) k
  by_cases h14:List.length x10=0
  exact fun j=>lH 1 [] [] [1] [3,4] (oD (dR24Pat l12)<|oP 0 (apN97 h13 h14) k) ((ih _ _ _ h).2)
  exact fun j=>lH 1 [] [] [2] [3,4] (oD (dR24Pat l12)<|oP 0 (apS97 h13 h14) k) ((ih _ _ _ h).2)
  obtain rfl:=sj h
  exact fun j=>lF 0 [] (oB 0 h2 k)
  obtain rfl:=sj h
  exact fun j=>lF 0 [] (oB 1 h1 o0)
theorem c296{qq p0 r}(h:e296 qq p0=some r):K296 p0 r Ct:=by
 unfold e296 at h
 exact k296 (tH q296 0 [] [] [] [3,4] (oD (dR24Pat [(R24Pat.mk p0.kind_ p0.n_ p0.at_ p0.sub_ p0.t_)])<|oS 1 (obLitR r24Pat_eq [(R24Pat.mk p0.kind_ p0.n_ p0.at_ p0.sub_ p0.t_)]) o0) ((l296Lej _ _ _ _ h).1))
mutual
def e237Lek:Nat->(List R24Pat)->Int->Option (Bool)
 |0,_,_=>none
 |qq+1,v3,v4=>
 if decide (v4<129)then
 if (List.length v3:Int)==0 then
 some true
 else
 e237Lel qq v3 v4 [] 0
 else
 some false
def e237Lel:Nat->(List R24Pat)->Int->(List R24Pat)->Int->Option (Bool)
 |0,_,_,_,_=>none
 |qq+1,v3,v4,v5,v6=>
 if decide (v6<(List.length v3:Int))then
 gidx v3 v6>>=fun x7=>
 gapp 88 v5 x7.sub_>>=fun l9=>
 e237Lel qq v3 v4 l9 (w64 (v6+1))
 else
 e237Lek qq v5 (w64 (v4+1))
end
def e237(qq:Nat)(p0:R24Pat):Option (Bool):=
 e296 qq (R24Pat.mk p0.kind_ p0.n_ p0.at_ p0.sub_ p0.t_)>>=fun r1=>
 if decide (r1>8192)then
 some false
 else
 e237Lek qq [(R24Pat.mk p0.kind_ p0.n_ p0.at_ p0.sub_ p0.t_)] 0
def g237LekE0(j:Nat->Value)(v3:List R24Pat)(v4:Int):=sp j 34 0 [(3,slv r24PatC v3 .full),(4,ai v4)]
def g237LekS0(v3:List R24Pat)(v4:Int):LSt:=⟨[],0,[],0,[]⟩
def g237LekE1(j:Nat->Value)(v3:List R24Pat)(v4:Int):=sp j 34 0 [(3,slv r24PatC v3 (.st 0 7)),(4,ai v4)]
def g237LekS1(v3:List R24Pat)(v4:Int):LSt:=⟨[],0,[0],1,[]⟩
def g237LelE0(j:Nat->Value)(v3:List R24Pat)(v4:Int)(v5:List R24Pat)(v6:Int):=sp j 34 0 [(3,slv r24PatC v3 .full),(4,ai v4),(5,slv r24PatC v5 (.st 0 7)),(6,ai v6)]
def g237LelS0(v3:List R24Pat)(v4:Int)(v5:List R24Pat)(v6:Int):LSt:=⟨[],0,[0],1,[]⟩
def g237LelE1(j:Nat->Value)(v3:List R24Pat)(v4:Int)(v5:List R24Pat)(v6:Int):=sp j 34 0 [(3,slv r24PatC v3 (.st 0 7)),(4,ai v4),(5,slv r24PatC v5 (.st 1 7)),(6,ai v6)]
def g237LelS1(v3:List R24Pat)(v4:Int)(v5:List R24Pat)(v6:Int):LSt:=⟨[],0,[0,1],2,[]⟩
abbrev K237 (p0:R24Pat) (r:Bool) (C:Cf):Prop:=C 237 [] [r24PatA p0] (ab r) [] 0
theorem q237:Qf 237 Tryz.f237:=⟨Tryz.func237,by kernel_rfl⟩
theorem k237{p0 r}(h:K237 p0 r Ci):K237 p0 r Ct:=⟨h,⟨⟨tv,tv,tv,⟨tv,dR24Pat _⟩,tv,tv,⟨tv,dT _⟩,tv⟩,tv⟩,forall_nil,tv,forall_nil⟩
theorem a237Lek_237Lel:∀qq:Nat,(∀v3 v4 r,e237Lek qq v3 v4=some r->(∀j,Dl Tryz.prog 0 (inn (inn (rgt (lft (rgt (rgt (rgt (bod Tryz.f237)))))))) (g237LekE0 j v3 v4) (g237LekS0 v3 v4) (frameQ Tryz.prog 0 (FinQ Tryz.prog 0 Tryz.f237 (ab r) [] 0) [.blk 0,.seq (rgt (rgt (rgt (rgt (bod Tryz.f237)))))]))∧(∀j,Dl Tryz.prog 0 (inn (inn (rgt (lft (rgt (rgt (rgt (bod Tryz.f237)))))))) (g237LekE1 j v3 v4) (g237LekS1 v3 v4) (frameQ Tryz.prog 0 (FinQ Tryz.prog 0 Tryz.f237 (ab r) [] 0) [.blk 0,.seq (rgt (rgt (rgt (rgt (bod Tryz.f237)))))])))∧(∀v3 v4 v5 v6 r,e237Lel qq v3 v4 v5 v6=some r->(∀j,Dl Tryz.prog 0 (inn (inn (rgt (lft (rgt (rgt (inn (lft (rgt (inn (inn (rgt (lft (rgt (rgt (rgt (bod Tryz.f237))))))))))))))))) (g237LelE0 j v3 v4 v5 v6) (g237LelS0 v3 v4 v5 v6) (frameQ Tryz.prog 0 (FinQ Tryz.prog 0 Tryz.f237 (ab r) [] 0) [.blk 2,.seq (rgt (rgt (rgt (inn (lft (rgt (inn (inn (rgt (lft (rgt (rgt (rgt (bod Tryz.f237)))))))))))))),.blk 1,.seq (rgt (rgt (inn (inn (rgt (lft (rgt (rgt (rgt (bod Tryz.f237)))))))))),.loop (inn (inn (rgt (lft (rgt (rgt (rgt (bod Tryz.f237)))))))),.blk 0,.seq (rgt (rgt (rgt (rgt (bod Tryz.f237)))))]))∧(∀j,Dl Tryz.prog 0 (inn (inn (rgt (lft (rgt (rgt (inn (lft (rgt (inn (inn (rgt (lft (rgt (rgt (rgt (bod Tryz.f237))))))))))))))))) (g237LelE1 j v3 v4 v5 v6) (g237LelS1 v3 v4 v5 v6) (frameQ Tryz.prog 0 (FinQ Tryz.prog 0 Tryz.f237 (ab r) [] 0) [.blk 2,.seq (rgt (rgt (rgt (inn (lft (rgt (inn (inn (rgt (lft (rgt (rgt (rgt (bod Tryz.f237)))))))))))))),.blk 1,.seq (rgt (rgt (inn (inn (rgt (lft (rgt (rgt (rgt (bod Tryz.f237)))))))))),.loop (inn (inn (rgt (lft (rgt (rgt (rgt (bod Tryz.f237)))))))),.blk 0,.seq (rgt (rgt (rgt (rgt (bod Tryz.f237)))))]))):=by
 intro qq
 induction qq with
 |zero=>
  exact⟨fun _ _ _ h=>nn h,fun _ _ _ _ _ h=>nn h⟩
 |succ qq ih=>
  obtain⟨ih237Lek,ih237Lel⟩:=ih
  refine⟨?_,?_⟩
  intro v3 v4 r h
  rw[e237Lek]at h
  refine⟨?_,?_⟩
  rcases spl h with⟨h4,h⟩|⟨h4,h⟩
  have k:=oB 0 h4 o0
  rcases spl h with⟨h5,h⟩|⟨h5,h⟩
  obtain rfl:=sj h
  exact fun j=>lF 0 [] (oB 1 h5 k)
  exact fun j=>lH 1 [(none,5,7)] [] [0] [3,4,5,6] (oD (dR24Pat ([]:List R24Pat))<|oD (dR24Pat v3)<|oB 1 h5 k) ((ih237Lel _ _ _ _ _ h).1)
  obtain rfl:=sj h
  exact fun j=>lF 0 [] (oB 0 h4 o0)
  rcases spl h with⟨h4,h⟩|⟨h4,h⟩
  have k:=oB 0 h4 o0
  rcases spl h with⟨h5,h⟩|⟨h5,h⟩
  obtain rfl:=sj h
  exact fun j=>lF 0 [] (oB 1 h5 k)
  exact fun j=>lH 1 [(none,5,7)] [] [0,1] [3,4,5,6] (oD (dR24Pat ([]:List R24Pat))<|oD (dR24Pat v3)<|oB 1 h5 k) ((ih237Lel _ _ _ _ _ h).2)
  obtain rfl:=sj h
  exact fun j=>lF 0 [] (oB 0 h4 o0)
  intro v3 v4 v5 v6 r h
  rw[e237Lel]at h
  refine⟨?_,?_⟩
  rcases spl h with⟨h6,h⟩|⟨h6,h⟩
  obtain⟨x7,h8,h⟩:=obind h
  obtain⟨l9,h10,h⟩:=obind h
  have k:=oA 0 (ix97 (o:=.full) h8)<|oB 1 h6 o0
  by_cases h11:List.length x7.sub_=0
  exact fun j=>lH 1 [] [] [0] [3,4,5,6] (oD (dR24Pat l9)<|oD (dR24Pat v3)<|oP 1 (apN97 h10 h11) k) ((ih237Lel _ _ _ _ _ h).1)
  exact fun j=>lH 1 [] [] [1] [3,4,5,6] (oD (dR24Pat l9)<|oD (dR24Pat v3)<|oP 1 (apS97 h10 h11) k) ((ih237Lel _ _ _ _ _ h).1)
  exact fun j=>lH 1 [] [] [0] [3,4] (oD (dR24Pat v5)<|oB 1 h6 o0) ((ih237Lek _ _ _ h).2)
  rcases spl h with⟨h6,h⟩|⟨h6,h⟩
  obtain⟨x7,h8,h⟩:=obind h
  obtain⟨l9,h10,h⟩:=obind h
  have k:=oA 0 (ix97 (o:=(.st 0 7)) h8)<|oB 1 h6 o0
  by_cases h11:List.length x7.sub_=0
  exact fun j=>lH 1 [] [] [0,1] [3,4,5,6] (oD (dR24Pat l9)<|oD (dR24Pat v3)<|oP 1 (apN97 h10 h11) k) ((ih237Lel _ _ _ _ _ h).2)
  exact fun j=>lH 1 [] [] [0,2] [3,4,5,6] (oD (dR24Pat l9)<|oD (dR24Pat v3)<|oP 1 (apS97 h10 h11) k) ((ih237Lel _ _ _ _ _ h).2)
  exact fun j=>lH 1 [] [] [1] [3,4] (oD (dR24Pat v5)<|oB 1 h6 o0) ((ih237Lek _ _ _ h).2)
theorem c237{qq p0 r}(h:e237 qq p0=some r):K237 p0 r Ct:=by
 unfold e237 at h
 obtain⟨r1,h2,h⟩:=obind h
 have k:=oC 1 [] (c296 h2) o0
 rcases spl h with⟨h3,h⟩|⟨h3,h⟩
 obtain rfl:=sj h
 exact k237 (tF q237 0 [] (oB 0 h3 k))
 exact k237 (tH q237 0 [] [] [] [3,4] (oD (dR24Pat [(R24Pat.mk p0.kind_ p0.n_ p0.at_ p0.sub_ p0.t_)])<|oS 1 (obLitR r24Pat_eq [(R24Pat.mk p0.kind_ p0.n_ p0.at_ p0.sub_ p0.t_)])<|oB 0 h3 k) ((((a237Lek_237Lel _).1) _ _ _ h).1))
mutual
def cvP:PatternPat->R24Pat
 | .mk k n a sub t=>.mk k n a (cvPs sub) t
def cvPs:List PatternPat->List R24Pat
 | []=>[]
 |p::ps=>cvP p::cvPs ps
end
theorem cvPs_map:∀l:List PatternPat,cvPs l=l.map cvP
 | []=>rfl
 |p::l=>by rw[cvPs,cvPs_map l];rfl
theorem cvP_eq(p:PatternPat):cvP p = .mk p.kind_ p.n_ p.at_ (cvPs p.sub_) p.t_:=by cases p;rw[cvP];rfl
theorem rp_eta(p:R24Pat):R24Pat.mk p.kind_ p.n_ p.at_ p.sub_ p.t_=p:=by cases p;rfl
def cvC(c:ClauseClause):R28Clause:=R28Clause.mk (cvPs c.pats_) c.has_ c.body_
mutual
theorem tot_patX:∀(p:PatternPat) (n:Int),okPt p->-8999≤n->n≤1000000->Tot (fun q=>e114 q p n) fun r=>r.2≤n-1∧-9000≤r.2∧(-9000<r.2->(ndP p:Int)+r.2≤n∧r.1=cvP p)
 | .mk k n0 a sub t,n,ho,h0,h1=>by
  rw[okPt]at ho
  refine Tot.succ ?_
  simp only[e114]
  rw[w64_id (x:=n-1) (by omega) (by omega)]
  refine(tot_patXL sub (.mk k n0 a sub t) (n-1) 0 [] rfl ho.2.1 ho.1 (by simp;omega) (by omega)).mono fun r hr=>⟨hr.1,hr.2.1,fun h=>?_⟩
  obtain⟨a1,a2⟩:=hr.2.2 h
  rw[ndP]
  exact⟨by omega,by rw[a2,cvP];rfl⟩
theorem tot_patXL:∀(r:List PatternPat) (p:PatternPat) (n:Int) (v:Nat) (acc:List R24Pat),p.sub_.drop v=r->okPs r->p.sub_.length≤17592186044416->(acc.length:Int)+n≤1000000->-9000≤n->Tot (fun q=>e114Lch q p n (v:Int) acc) fun o=>o.2≤n∧-9000≤o.2∧(-9000<o.2->(ndPs r:Int)+o.2≤n∧o.1 = .mk p.kind_ p.n_ p.at_ (acc++cvPs r) p.t_)
 | [],p,n,v,acc,hd,ho,hl,ha,hn=>by
  refine Tot.succ ?_
  simp only[e114Lch]
  refine Tot.ite (fun h=>?_) fun _=>Tot.ret ⟨Int.le_refl _,hn,fun _=>⟨by rw[ndPs];simp,by rw[cvPs];simp⟩⟩
  rw[drop_nil hd]at h;cases h
 |x::r,p,n,v,acc,hd,ho,hl,ha,hn=>by
  have hlt:=drop_lt hd
  rw[okPs]at ho
  refine Tot.succ ?_
  simp only[e114Lch,pp_eta,rp_eta]
  refine Tot.ite (fun _=>Tot.ite (fun hp=>Tot.pure (drop_idx hd) ((tot_patX x n ho.1 (by have:=of_decide_eq_true hp;omega) (by omega)).bind fun y hy=>Tot.pure (gapp_ok (by simp;omega)) ?_)) fun hp=>Tot.ret ⟨Int.le_refl _,hn,fun h=>?_⟩) fun h=>?_
  ·rw[w64_nat v (by omega)]
   have h1:=hy.1
   have h2:=hy.2.1
   refine(tot_patXL r p y.2 (v+1) _ (drop_next hd) ho.2 hl (by simp;omega) h2).mono fun o h=>⟨by have:=h.1;omega,h.2.1,fun h'=>?_⟩
   obtain⟨a1,b1⟩:=h.2.2 h'
   obtain⟨a2,b2⟩:=hy.2.2 (by have:=h.1;omega)
   rw[ndPs]
   exact⟨by omega,by rw[b1,b2,cvPs];simp⟩
  ·exfalso
   have:=of_decide_eq_false hp
   simp only[]at h
   omega
  ·rw[drop_dec hd]at h;cases h
end
theorem tot_ofXP(cs:List ClauseClause)(hcs:cs.length≤17592186044416)(v4:List R28Clause)(i:Nat)(c:ClauseClause)(hd:∃r,cs.drop i=c::r)(hc:okC c){P:List R28Clause×Bool->Prop}(hP:P ([],false))(left:Int)(hleft:left≤300)
  (K:∀(n:Int),n≤left-1->(ndPs c.pats_:Int)+n≤left->0<n->Tot (fun q=>gapp 72 v4 [cvC c]>>=fun l=>e49Lcl q cs l n (w64 ((i:Int)+1))) P) :
  ∀(r:List PatternPat) (v:Nat) (n:Int) (acc:List R24Pat),c.pats_.drop v=r->okPs r->(acc.length:Int)+n≤300->-9000≤n->n≤left->(ndPs c.pats_:Int)+n≤left+ndPs r->acc++cvPs r=cvPs c.pats_->Tot (fun q=>e49Lcm q cs v4 (i:Int) c n (v:Int) acc) P:=by
 obtain⟨rr,hd⟩:=hd
 have fin:∀(n:Int) (acc:List R24Pat),acc=cvPs c.pats_->-9000≤n->n≤left->(ndPs c.pats_:Int)+n≤left->Tot (fun q=>if decide (w64 (n-1)≤0)=true then some ([],false)else e66 q c.body_>>=fun r15=>if decide (r15>150)=true then some ([],false)else gapp 72 v4 [R28Clause.mk acc c.has_ c.body_]>>=fun l=>e49Lcl q cs l (w64 (n-1)) (w64 ((i:Int)+1))) P:=fun n acc he h0 h1 h2=>by
  subst he
  rw[w64_id (x:=n-1) (by omega) (by omega)]
  refine Tot.ite (fun _=>Tot.ret hP) fun h=>Tot.bind (P:=fun _=>True) ((ev_rSize c.body_).tot trivial) fun _ _=>Tot.ite (fun _=>Tot.ret hP) fun _=>K (n-1) (by omega) (by omega) (by have:=of_decide_eq_false h;omega)
 intro r
 induction r with
 |nil=>
  intro v n acc hv ho ha h0 h1 h2 he
  refine Tot.succ ?_
  simp only[e49Lcm]
  refine Tot.pure (drop_idx hd) (Tot.ite (fun h=>?_) fun _=>fin n acc (by rw[cvPs]at he;simpa using he) h0 h1 (by rw[ndPs]at h2;omega))
  rw[drop_nil hv]at h;cases h
 |cons x r ih=>
  intro v n acc hv ho ha h0 h1 h2 he
  have hlt:=drop_lt hv
  have hcl:=hc.1
  rw[okPs]at ho
  rw[ndPs]at h2
  rw[cvPs]at he
  refine Tot.succ ?_
  simp only[e49Lcm,pp_eta,rp_eta]
  refine Tot.pure (drop_idx hd) (Tot.ite (fun _=>Tot.ite (fun hp=>Tot.pure (drop_idx hv) ?_) fun hp=>?_) fun h=>?_)
  ·have hp':=of_decide_eq_true hp
   refine(tot_patX x n ho.1 (by omega) (by omega)).bind fun y hy=>Tot.pure (gapp_ok (by simp;omega)) ?_
   rw[w64_nat v (by omega)]
   have b1:=hy.1
   have b2:=hy.2.1
   by_cases b3:-9000<y.2
   ·obtain⟨a1,a2⟩:=hy.2.2 b3
    exact ih (v+1) y.2 _ (drop_next hv) ho.2 (by simp;omega) b2 (by omega) (by omega) (by rw[a2,List.append_assoc];exact he)
   ·have hz:y.2 = -9000:=by omega
    rw[hz]
    have no:∀(r:List PatternPat) (v:Nat) (acc:List R24Pat),c.pats_.drop v=r->Tot (fun q=>e49Lcm q cs v4 (i:Int) c (-9000) (v:Int) acc) P:=fun r v acc hv=>by
     refine Tot.succ ?_
     simp only[e49Lcm,pp_eta]
     exact Tot.pure (drop_idx hd) (Tot.ite (fun _=>Tot.ite (fun h=>by cases h) fun _=>Tot.ite (fun _=>Tot.ret hP) fun h=>by cases h) fun _=>Tot.ite (fun _=>Tot.ret hP) fun h=>by cases h)
    exact no r (v+1) _ (drop_next hv)
  ·have hp':=of_decide_eq_false hp
   rw[w64_id (x:=n-1) (by omega) (by omega)]
   refine Tot.ite (fun _=>Tot.ret hP) fun h=>?_
   have:=of_decide_eq_false h
   omega
  ·rw[drop_dec hv]at h;cases h
theorem tot_ofX0(cs:List ClauseClause)(hcs:cs.length≤17592186044416):∀(r:List ClauseClause) (i:Nat) (acc:List R28Clause) (n:Int),cs.drop i=r->(∀c∈r,okC c)->(acc.length:Int)+n≤300->0≤n->Tot (fun q=>e49Lcl q cs acc n (i:Int)) fun o=>o.2=true->(∀c∈r,ndPs c.pats_≤300)∧o.1=acc++r.map cvC∧(acc.length:Int)+r.length≤300
 | [],i,acc,n,hd,ho,ha,h0=>by
  refine Tot.succ ?_
  simp only[e49Lcl]
  refine Tot.ite (fun h=>?_) fun _=>Tot.ret fun _=>⟨fun _ h=>(nomatch h),by simp,by simp;omega⟩
  rw[drop_nil hd]at h;cases h
 |c::r,i,acc,n,hd,ho,ha,h0=>by
  have hlt:=drop_lt hd
  refine Tot.succ ?_
  simp only[e49Lcl]
  refine Tot.ite (fun _=>Tot.pure (drop_idx hd) ?_) fun h=>?_
  ·refine tot_ofXP cs hcs acc i c ⟨r,hd⟩ (ho c (by simp)) (fun h=>nomatch h) n (by omega) (fun n' h1 h2 h3=>Tot.pure (gapp_ok (by simp;omega)) ?_) c.pats_ 0 n [] rfl (ho c (by simp)).2.1 (by simp;omega) (by omega) (by omega) (by omega) (by simp)
   rw[w64_nat i (by omega)]
   refine(tot_ofX0 cs hcs r (i+1) _ n' (drop_next hd) (fun x hx=>ho x (by simp[hx])) (by simp;omega) (by omega)).mono fun o h hb=>?_
   obtain⟨a1,a2,a3⟩:=h hb
   refine⟨fun x hx=>?_,by rw[a2];simp,by simp at a3 ⊢;omega⟩
   rcases List.mem_cons.1 hx with rfl|hx
   ·omega
   ·exact a1 x hx
  ·rw[drop_dec hd]at h;cases h
theorem tot_ofX(cs:List ClauseClause)(hcs:cs.length≤17592186044416)(ho:∀c∈cs,okC c):Tot (fun q=>e49 q cs) fun o=>o.2=true->(∀c∈cs,ndPs c.pats_≤300)∧o.1=cs.map cvC∧cs.length≤300:=by
 simp only[e49]
 exact(tot_ofX0 cs hcs cs 0 [] 300 rfl ho (by simp) (by omega)).mono fun o h hb=>by
  obtain⟨a1,a2,a3⟩:=h hb
  exact⟨a1,by simpa using a2,by simp at a3;omega⟩
mutual
def hP:PatternPat->Nat
 | .mk _ _ _ sub _=>1+hPs sub
def hPs:List PatternPat->Nat
 | []=>0
 |p::ps=>max (hP p) (hPs ps)
end
theorem hP_sub(p:PatternPat):hP p=1+hPs p.sub_:=by cases p;rw[hP];rfl
theorem hPs_app:∀a b:List PatternPat,hPs (a++b)=max (hPs a) (hPs b)
 | [],b=>by simp[hPs]
 |x::a,b=>by rw[List.cons_append,hPs,hPs,hPs_app a b];omega
theorem ndPs_app:∀a b:List PatternPat,ndPs (a++b)=ndPs a+ndPs b
 | [],b=>by simp[ndPs]
 |x::a,b=>by rw[List.cons_append,ndPs,ndPs,ndPs_app a b];omega
theorem cvPs_app(a b:List PatternPat):cvPs (a++b)=cvPs a++cvPs b:=by rw[cvPs_map,cvPs_map,cvPs_map,List.map_append]
theorem cvPs_len(a:List PatternPat):(cvPs a).length=a.length:=by rw[cvPs_map,List.length_map]
theorem cvPs_drop{l:List PatternPat}{v:Nat}{x:PatternPat}{r:List PatternPat}(h:l.drop v=x::r):(cvPs l).drop v=cvP x::cvPs r:=by
 rw[cvPs_map,←List.map_drop,h,cvPs_map];rfl
theorem cvPs_drop0{l:List PatternPat}{v:Nat}(h:l.drop v=[]):(cvPs l).drop v=[]:=by rw[cvPs_map,←List.map_drop,h];rfl
theorem cv_sub(p:PatternPat):(cvP p).sub_=cvPs p.sub_:=by rw[cvP_eq];rfl
theorem cv_kind(p:PatternPat):(cvP p).kind_=p.kind_:=by rw[cvP_eq];rfl
theorem cv_n(p:PatternPat):(cvP p).n_=p.n_:=by rw[cvP_eq];rfl
theorem cv_t(p:PatternPat):(cvP p).t_=p.t_:=by rw[cvP_eq];rfl
def subs:List PatternPat->List PatternPat
 | []=>[]
 |p::ps=>p.sub_++subs ps
theorem hPs_subs:∀ {l:List PatternPat},l≠[]->hPs l=1+hPs (subs l)
 | [],h=>absurd rfl h
 | [p],_=>by rw[hPs,hPs,subs,subs,hP_sub];simp
 |p::x::l,_=>by
  have:=hPs_subs (l:=x::l) (by simp)
  rw[hPs,this,show subs (p::x::l)=p.sub_++subs (x::l)from rfl,hPs_app,hP_sub];omega
theorem ndPs_subs:∀l:List PatternPat,ndPs (subs l)+l.length=ndPs l
 | []=>rfl
 |p::l=>by rw[subs,ndPs_app,ndPs,ndP_sub,←ndPs_subs l];simp;omega
theorem ev_rlev(lv:List PatternPat)(hn:ndPs lv≤300)(d:Nat)(b:Bool)(K:Evt (fun q=>e237Lek q (cvPs (subs lv)) ((d+1:Nat):Int)) b)(hd:d<1000):∀(r:List PatternPat) (v:Nat) (acc:List PatternPat),lv.drop v=r->acc++subs r=subs lv->Evt (fun q=>e237Lel q (cvPs lv) (d:Int) (cvPs acc) (v:Int)) b:=by
 have hnl:=ndPs_len lv
 intro r
 induction r with
 |nil=>
  intro v acc hv ha
  refine Evt.succ ?_
  simp only[e237Lel]
  refine Evt.ifF (drop_nil (cvPs_drop0 hv)) ?_
  rw[w64_nat d (by omega),show acc=subs lv by rw[←ha,subs];simp]
  exact K
 |cons x r ih=>
  intro v acc hv ha
  have hlt:=drop_lt hv
  rw[subs]at ha
  have h1:acc.length+x.sub_.length≤300:=by
   have a1:=congrArg List.length ha
   have a2:=ndPs_subs lv
   have a3:=ndPs_len (subs lv)
   simp at a1
   omega
  refine Evt.succ ?_
  simp only[e237Lel]
  refine Evt.ifT (drop_dec (cvPs_drop hv)) (Evt.pure (drop_idx (cvPs_drop hv)) ?_)
  rw[cv_sub]
  refine Evt.pure (gapp_ok (by rw[cvPs_len,cvPs_len];omega)) ?_
  rw[w64_nat v (by omega),←cvPs_app]
  exact ih (v+1) _ (drop_next hv) (by rw[List.append_assoc];exact ha)
theorem ev_rlevs:∀(m d:Nat) (lv:List PatternPat),d+m=129->ndPs lv≤300->Evt (fun q=>e237Lek q (cvPs lv) (d:Int)) (decide (d+hPs lv≤128)):=by
 intro m
 induction m with
 |zero=>
  intro d lv hm hn
  refine Evt.succ ?_
  simp only[e237Lek]
  exact Evt.ifF (decide_eq_false (by omega)) (Evt.ret.eq (decide_eq_false (by omega)).symm)
 |succ m ih=>
  intro d lv hm hn
  have hs:=ndPs_subs lv
  refine Evt.succ ?_
  simp only[e237Lek]
  refine Evt.ifT (decide_eq_true (by omega)) ?_
  by_cases h:lv=[]
  ·subst h
   exact Evt.ifT (by rw[cvPs];rfl) (Evt.ret.eq (decide_eq_true (by rw[hPs];omega)).symm)
  ·have:=List.length_pos_iff.2 h
   refine Evt.ifF (by rw[cvPs_len];simp;omega) ?_
   refine ev_rlev lv hn d _ ((ih (d+1) (subs lv) (by omega) (by omega)).eq ?_) (by omega) lv 0 [] rfl (by simp)
   rw[hPs_subs h]
   congr 1
   simp only[eq_iff_iff];omega
theorem tot_rPSize:∀(m:Nat) (todo:List PatternPat) (have0:Nat),ndPs todo≤m->m≤300->have0+m≤300->Tot (fun q=>e296Lej q (cvPs todo) (have0:Int)) fun r=>r≤300:=by
 intro m
 induction m with
 |zero=>
  intro todo h hn hm hh
  have:=ndPs_len todo
  have:todo=[]:=List.length_eq_zero_iff.1 (by omega)
  subst this
  refine Tot.succ ?_
  simp only[e296Lej]
  exact Tot.ite (fun h=>by rw[cvPs]at h;cases h) fun _=>Tot.ret (by omega)
 |succ m ih=>
  intro todo h hn hm hh
  have hl:=ndPs_len todo
  refine Tot.succ ?_
  simp only[e296Lej]
  refine Tot.ite (fun hp=>?_) fun _=>Tot.ret (by omega)
  rcases List.eq_nil_or_concat todo with rfl|⟨ini,x,rfl⟩
  ·rw[cvPs]at hp;cases hp
  simp only[List.concat_eq_append]at hn hl hp ⊢
  have hnd:ndPs ini+ndP x≤m+1:=by rw[ndPs_app,ndPs,ndPs]at hn;omega
  have hx:=ndP_sub x
  have hxl:=ndPs_len x.sub_
  have hlen:(cvPs (ini++[x])).length=ini.length+1:=by rw[cvPs_len];simp
  have hil:ini.length≤300:=by simp at hl;omega
  have e1:w64 (((cvPs (ini++[x])).length:Int)-1)=(ini.length:Int):=by rw[w64_id (by omega) (by omega),hlen];omega
  rw[e1]
  have i1:gidx (cvPs (ini++[x])) (ini.length:Int)=some (cvP x):=by
   have:=gidx_last (cvPs ini) (cvP x)
   rw[cvPs_len]at this
   rw[cvPs_app,cvPs,cvPs];exact this
  have g1:gsl (cvPs (ini++[x])) 0 (ini.length:Int)=some (cvPs ini):=by
   have:=gsl_ok (l:=cvPs (ini++[x])) (a:=0) (b:=ini.length) (by omega) (by omega)
   rw[cvPs_app]at this ⊢
   simpa[cvPs_len]using this
  refine Tot.ite (fun _=>Tot.pure i1 (Tot.pure g1 (Tot.pure (gapp_ok (by rw[cvPs_len];simp;omega)) ?_))) fun h=>?_
  ·rw[cv_sub]
   have e3:imin ((cvPs x.sub_).length:Int) 8193=((cvPs x.sub_).length:Int):=by unfold imin;rw[cvPs_len];split<;>omega
   rw[e3]
   have g2:=gsl_ok (l:=cvPs x.sub_) (a:=0) (b:=(cvPs x.sub_).length) (by omega) (by omega)
   have g3:gsl (cvPs x.sub_) 0 ((cvPs x.sub_).length:Int)=some (cvPs x.sub_):=by simpa using g2
   refine Tot.pure g3 (Tot.pure (gapp_ok (by rw[List.nil_append,cvPs_len,cvPs_len];omega)) ?_)
   rw[w64_nat h (by omega),List.nil_append,←cvPs_app]
   exact ih (ini++x.sub_) (h+1) (by rw[ndPs_app];omega) (by omega) (by omega)
  ·have:=of_decide_eq_false h
   omega
theorem ev_rPsmall(p:PatternPat)(hn:ndP p≤300):Evt (fun q=>e237 q (cvP p)) (decide (hP p≤128)):=by
 simp only[e237,rp_eta]
 have e:[cvP p]=cvPs [p]:=by rw[cvPs,cvPs]
 rw[e]
 obtain⟨r,hr,h300⟩:=tot_rPSize 300 [p] 0 (by rw[ndPs,ndPs];omega) (by omega) (by omega)
 simp only[e296,rp_eta,e]
 refine Evt.bind hr (Evt.ifF (decide_eq_false (by omega)) ?_)
 refine(ev_rlevs 129 0 [p] rfl (by rw[ndPs,ndPs];omega)).eq ?_
 rw[hPs,hPs]
 congr 1
 simp only[eq_iff_iff];omega
mutual
def e239:Nat->R24Pat->Option (List Int)
 |0,_=>none
 |qq+1,p0=>
 if p0.kind_==1 then
 some [p0.n_]
 else
 e239Lem qq p0 [] 0
def e239Lem:Nat->R24Pat->(List Int)->Int->Option (List Int)
 |0,_,_,_=>none
 |qq+1,p0,v3,v4=>
 if decide (v4<(List.length p0.sub_:Int))then
 gidx p0.sub_ v4>>=fun x3=>
 e239 qq (R24Pat.mk x3.kind_ x3.n_ x3.at_ x3.sub_ x3.t_)>>=fun r5=>
 gapp 8 v3 r5>>=fun l7=>
 e239Lem qq p0 l7 (w64 (v4+1))
 else
 some v3
end
def g239LemE0(j:Nat->Value)(p0:R24Pat)(v3:List Int)(v4:Int):=sp j 28 0 [(1,.mp 0 0),(3,slv intC v3 (.st 0 1)),(4,ai v4)]
def g239LemS0(p0:R24Pat)(v3:List Int)(v4:Int):LSt:=⟨[(0,.cells [ai p0.kind_,ai p0.n_,ai p0.at_,slv r24PatC p0.sub_ .no,ai p0.t_.k,ai p0.t_.n,slv tmCells p0.t_.sub .no])],1,[0],1,[]⟩
abbrev K239 (p0:R24Pat) (r:List Int) (C:Cf):Prop:=C 239 [] [r24PatA p0] (.sl (flat intC r) (List.length r) .no) [] 0
theorem q239:Qf 239 Tryz.f239:=⟨Tryz.func239,by kernel_rfl⟩
theorem k239{p0 r}(h:K239 p0 r Ci):K239 p0 r Ct:=⟨h,⟨⟨tv,tv,tv,⟨tv,dR24Pat _⟩,tv,tv,⟨tv,dT _⟩,tv⟩,tv⟩,forall_nil,dI _,forall_nil⟩
theorem a239_239Lem:∀qq:Nat,(∀p0 r,e239 qq p0=some r->K239 p0 r Ct)∧(∀p0 v3 v4 r,e239Lem qq p0 v3 v4=some r->(∀j,Dl Tryz.prog 0 (inn (inn (rgt (lft (rgt (rgt (rgt (bod Tryz.f239)))))))) (g239LemE0 j p0 v3 v4) (g239LemS0 p0 v3 v4) (frameQ Tryz.prog 0 (FinQ Tryz.prog 0 Tryz.f239 (.sl (flat intC r) (List.length r) .no) [] 0) [.blk 0,.seq (rgt (rgt (rgt (rgt (bod Tryz.f239)))))]))):=by
 intro qq
 induction qq with
 |zero=>
  exact⟨fun _ _ h=>nn h,fun _ _ _ _ h=>nn h⟩
 |succ qq ih=>
  obtain⟨ih239,ih239Lem⟩:=ih
  refine⟨?_,?_⟩
  intro p0 r h
  rw[e239]at h
  rcases spl h with⟨h1,h⟩|⟨h1,h⟩
  obtain rfl:=sj h
  exact k239 (tF q239 2 [] (oD (dI [p0.n_])<|oB 1 h1 o0))
  exact k239 (tH q239 1 [(none,3,1)] [0] [0] [1,3,4] (oD (dI ([]:List Int))<|oD (dT p0.t_.sub)<|oD (dR24Pat p0.sub_)<|oB 1 h1 o0) (ih239Lem _ _ _ _ h))
  intro p0 v3 v4 r h
  rw[e239Lem]at h
  rcases spl h with⟨h2,h⟩|⟨h2,h⟩
  obtain⟨x3,h4,h⟩:=obind h
  obtain⟨r5,h6,h⟩:=obind h
  obtain⟨l7,h8,h⟩:=obind h
  have k:=oC 1 [] (ih239 _ _ h6)<|oA 1 (ix97 (o:=.no) h4)<|oB 2 h2 o0
  by_cases h9:List.length r5=0
  exact fun j=>lH 1 [] [0] [0] [1,3,4] (oD (dI l7)<|oD (dT p0.t_.sub)<|oD (dR24Pat p0.sub_)<|oP 0 (apN41 h8 h9) k) (ih239Lem _ _ _ _ h)
  exact fun j=>lH 1 [] [0] [1] [1,3,4] (oD (dI l7)<|oD (dT p0.t_.sub)<|oD (dR24Pat p0.sub_)<|oP 0 (apS41 h8 h9) k) (ih239Lem _ _ _ _ h)
  obtain rfl:=sj h
  exact fun j=>lF 0 [] (oD (dI v3)<|oB 2 h2 o0)
theorem c239{qq p0 r}(h:e239 qq p0=some r):K239 p0 r Ct:=(a239_239Lem _).1 _ _ h
def e181Len:Nat->(List R24Pat)->(List Int)->Int->Option (List Int)
 |0,_,_,_=>none
 |qq+1,p0,v3,v4=>
 if decide (v4<(List.length p0:Int))then
 gidx p0 v4>>=fun x2=>
 e237 qq (R24Pat.mk x2.kind_ x2.n_ x2.at_ x2.sub_ x2.t_)>>=fun r4=>
 if r4 then
 e239 qq (R24Pat.mk x2.kind_ x2.n_ x2.at_ x2.sub_ x2.t_)>>=fun r7=>
 gapp 8 v3 r7>>=fun l9=>
 e181Len qq p0 l9 (w64 (v4+1))
 else
 e181Len qq p0 v3 (w64 (v4+1))
 else
 some v3
def e181(qq:Nat)(p0:List R24Pat):Option (List Int):=
 e181Len qq p0 [] 0
def g181LenE0(j:Nat->Value)(p0:List R24Pat)(v3:List Int)(v4:Int):=sp j 25 0 [(0,slv r24PatC p0 .no),(3,slv intC v3 (.st 0 1)),(4,ai v4)]
def g181LenS0(p0:List R24Pat)(v3:List Int)(v4:Int):LSt:=⟨[],0,[0],1,[]⟩
abbrev K181 (p0:List R24Pat) (r:List Int) (C:Cf):Prop:=C 181 [] [slv r24PatC p0 .no] (.sl (flat intC r) (List.length r) .no) [] 0
theorem q181:Qf 181 Tryz.f181:=⟨Tryz.func181,by kernel_rfl⟩
theorem k181{p0 r}(h:K181 p0 r Ci):K181 p0 r Ct:=⟨h,⟨⟨tv,dR24Pat _⟩,tv⟩,forall_nil,dI _,forall_nil⟩
theorem l181Len:∀qq:Nat,(∀p0 v3 v4 r,e181Len qq p0 v3 v4=some r->(∀j,Dl Tryz.prog 0 (inn (inn (rgt (lft (rgt (rgt (bod Tryz.f181))))))) (g181LenE0 j p0 v3 v4) (g181LenS0 p0 v3 v4) (frameQ Tryz.prog 0 (FinQ Tryz.prog 0 Tryz.f181 (.sl (flat intC r) (List.length r) .no) [] 0) [.blk 0,.seq (rgt (rgt (rgt (bod Tryz.f181))))]))):=by
 intro qq
 induction qq with
 |zero=>
  exact fun _ _ _ _ h=>nn h
 |succ qq ih=>
  intro p0 v3 v4 r h
  rw[e181Len]at h
  rcases spl h with⟨h1,h⟩|⟨h1,h⟩
  obtain⟨x2,h3,h⟩:=obind h
  obtain⟨r4,h5,h⟩:=obind h
  have k:=oA 0 (ix97 (o:=.no) h3)<|oB 1 h1 o0
  rcases spl h with⟨h6,h⟩|⟨h6,h⟩
  obtain⟨r7,h8,h⟩:=obind h
  obtain⟨l9,h10,h⟩:=obind h
  have k:=oC 1 [] (c239 h8)<|oA 0 (ix97 (o:=.no) h3)<|oK 1 [] h6 (c237 h5) k
  by_cases h11:List.length r7=0
  exact fun j=>lH 1 [] [] [0] [0,3,4] (oD (dI l9)<|oD (dR24Pat p0)<|oP 0 (apN41 h10 h11) k) (ih _ _ _ _ h)
  exact fun j=>lH 1 [] [] [1] [0,3,4] (oD (dI l9)<|oD (dR24Pat p0)<|oP 0 (apS41 h10 h11) k) (ih _ _ _ _ h)
  exact fun j=>lH 1 [] [] [0] [0,3,4] (oD (dI v3)<|oD (dR24Pat p0)<|oK 1 [] h6 (c237 h5) k) (ih _ _ _ _ h)
  obtain rfl:=sj h
  exact fun j=>lF 0 [] (oD (dI v3)<|oB 1 h1 o0)
theorem c181{qq p0 r}(h:e181 qq p0=some r):K181 p0 r Ct:=by
 unfold e181 at h
 exact k181 (tH q181 1 [(none,3,1)] [] [0] [0,3,4] (oD (dI ([]:List Int))<|oD (dR24Pat p0) o0) (l181Len _ _ _ _ _ h))
mutual
def e179Leo:Nat->(List Int)->Int->Option (Bool)
 |0,_,_=>none
 |qq+1,r1,v4=>
 if decide (v4<(List.length r1:Int))then
 e179Lep qq r1 v4 0
 else
 some true
def e179Lep:Nat->(List Int)->Int->Int->Option (Bool)
 |0,_,_,_=>none
 |qq+1,r1,v4,v5=>
 if decide (v5<v4)then
 gidx r1 v4>>=fun x5=>
 gidx r1 v5>>=fun x7=>
 if x5==x7 then
 some false
 else
 e179Lep qq r1 v4 (w64 (v5+1))
 else
 e179Leo qq r1 (w64 (v4+1))
end
def e179(qq:Nat)(p0:List R24Pat):Option (Bool):=
 e181 qq p0>>=fun r1=>
 e179Leo qq r1 0
def g179LeoE0(j:Nat->Value)(r1:List Int)(v4:Int):=sp j 28 0 [(3,slv intC r1 .no),(4,ai v4)]
def g179LeoS0(r1:List Int)(v4:Int):LSt:=⟨[],0,[],0,[]⟩
def g179LepE0(j:Nat->Value)(r1:List Int)(v4 v5:Int):=sp j 28 0 [(3,slv intC r1 .no),(4,ai v4),(5,ai v5)]
def g179LepS0(r1:List Int)(v4 v5:Int):LSt:=⟨[],0,[],0,[]⟩
abbrev K179 (p0:List R24Pat) (r:Bool) (C:Cf):Prop:=C 179 [] [slv r24PatC p0 .no] (ab r) [] 0
theorem q179:Qf 179 Tryz.f179:=⟨Tryz.func179,by kernel_rfl⟩
theorem k179{p0 r}(h:K179 p0 r Ci):K179 p0 r Ct:=⟨h,⟨⟨tv,dR24Pat _⟩,tv⟩,forall_nil,tv,forall_nil⟩
theorem a179Leo_179Lep:∀qq:Nat,(∀r1 v4 r,e179Leo qq r1 v4=some r->(∀j,Dl Tryz.prog 0 (inn (inn (rgt (lft (rgt (rgt (bod Tryz.f179))))))) (g179LeoE0 j r1 v4) (g179LeoS0 r1 v4) (frameQ Tryz.prog 0 (FinQ Tryz.prog 0 Tryz.f179 (ab r) [] 0) [.blk 0,.seq (rgt (rgt (rgt (bod Tryz.f179))))])))∧(∀r1 v4 v5 r,e179Lep qq r1 v4 v5=some r->(∀j,Dl Tryz.prog 0 (inn (inn (rgt (inn (lft (rgt (inn (inn (rgt (lft (rgt (rgt (bod Tryz.f179))))))))))))) (g179LepE0 j r1 v4 v5) (g179LepS0 r1 v4 v5) (frameQ Tryz.prog 0 (FinQ Tryz.prog 0 Tryz.f179 (ab r) [] 0) [.blk 2,.blk 1,.seq (rgt (rgt (inn (inn (rgt (lft (rgt (rgt (bod Tryz.f179))))))))),.loop (inn (inn (rgt (lft (rgt (rgt (bod Tryz.f179))))))),.blk 0,.seq (rgt (rgt (rgt (bod Tryz.f179))))]))):=by
 intro qq
 induction qq with
 |zero=>
  exact⟨fun _ _ _ h=>nn h,fun _ _ _ _ h=>nn h⟩
 |succ qq ih=>
  obtain⟨ih179Leo,ih179Lep⟩:=ih
  refine⟨?_,?_⟩
  intro r1 v4 r h
  rw[e179Leo]at h
  rcases spl h with⟨h3,h⟩|⟨h3,h⟩
  exact fun j=>lH 0 [] [] [] [3,4,5] (oD (dI r1)<|oB 1 h3 o0) (ih179Lep _ _ _ _ h)
  obtain rfl:=sj h
  exact fun j=>lF 0 [] (oB 1 h3 o0)
  intro r1 v4 v5 r h
  rw[e179Lep]at h
  rcases spl h with⟨h4,h⟩|⟨h4,h⟩
  obtain⟨x5,h6,h⟩:=obind h
  obtain⟨x7,h8,h⟩:=obind h
  have k:=oA 1 (ix41 (o:=.no) h8)<|oA 0 (ix41 (o:=.no) h6)<|oB 0 h4 o0
  rcases spl h with⟨h9,h⟩|⟨h9,h⟩
  obtain rfl:=sj h
  exact fun j=>lF 0 [] (oB 1 h9 k)
  exact fun j=>lH 1 [] [] [] [3,4,5] (oD (dI r1)<|oB 1 h9 k) (ih179Lep _ _ _ _ h)
  exact fun j=>lH 1 [] [] [] [3,4] (oD (dI r1)<|oB 0 h4 o0) (ih179Leo _ _ _ h)
theorem c179{qq p0 r}(h:e179 qq p0=some r):K179 p0 r Ct:=by
 unfold e179 at h
 obtain⟨r1,h2,h⟩:=obind h
 exact k179 (tH q179 0 [] [] [] [3,4] (oD (dI r1)<|oC 0 [] (c181 h2) o0) (((a179Leo_179Lep _).1) _ _ _ h))
def e240(qq:Nat)(p0:List Ent)(p1:Int):Option (Int):=
 e77 qq p0 p1 2>>=fun r1=>
 if r1 then
 gidx p0 p1>>=fun x4=>
 e79 qq x4.type>>=fun r6=>
 some (w64 ((List.length r6:Int)-x4.pars))
 else
 some (-1)
abbrev K240 (p0:List Ent) (p1 r:Int) (C:Cf):Prop:=C 240 [] [slv entL p0 .no,ai p1] (ai r) [] 0
theorem q240:Qf 240 Tryz.f240:=⟨Tryz.func240,by kernel_rfl⟩
theorem k240{p0 p1 r}(h:K240 p0 p1 r Ci):K240 p0 p1 r Ct:=⟨h,⟨⟨tv,dE _⟩,tv,tv⟩,forall_nil,tv,forall_nil⟩
theorem c240{qq p0 p1 r}(h:e240 qq p0 p1=some r):K240 p0 p1 r Ct:=by
 unfold e240 at h
 obtain⟨r1,h2,h⟩:=obind h
 rcases spl h with⟨h3,h⟩|⟨h3,h⟩
 obtain⟨x4,h5,h⟩:=obind h
 obtain⟨r6,h7,h⟩:=obind h
 obtain rfl:=sj h
 exact k240 (tF q240 2 [] (oA 1 (ix22 (o:=.no) h5)<|oC 1 [] (c79 h7)<|oA 1 (ix22 (o:=.no) h5)<|oK 0 [] h3 (c77 h2) o0))
 obtain rfl:=sj h
 exact k240 (tF q240 1 [] (oK 0 [] h3 (c77 h2) o0))
def e297(qq:Nat)(p0:Tm):Option (Bool):=
 if p0.k==0 then
 if p0.n==0 then
 some ((List.length p0.sub:Int)==0)
 else
 some false
 else
 some false
abbrev K297 (p0:Tm) (r:Bool) (C:Cf):Prop:=C 297 [] [tmA p0] (ab r) [] 0
theorem q297:Qf 297 Tryz.f297:=⟨Tryz.func297,by kernel_rfl⟩
theorem k297{p0 r}(h:K297 p0 r Ci):K297 p0 r Ct:=⟨h,⟨⟨tv,tv,⟨tv,dT _⟩,tv⟩,tv⟩,forall_nil,tv,forall_nil⟩
theorem c297{qq p0 r}(h:e297 qq p0=some r):K297 p0 r Ct:=by
 unfold e297 at h
 rcases spl h with⟨h1,h⟩|⟨h1,h⟩
 have k:=oB 1 h1 o0
 rcases spl h with⟨h2,h⟩|⟨h2,h⟩
 obtain rfl:=sj h
 exact k297 (tF q297 3 [] (oB 1 h2 k))
 obtain rfl:=sj h
 exact k297 (tF q297 0 [] (oB 1 h2 k))
 obtain rfl:=sj h
 exact k297 (tF q297 0 [] (oB 1 h1 o0))
mutual
def e238:Nat->(List Ent)->R24Pat->Option (Bool)
 |0,_,_=>none
 |qq+1,p0,p1=>
 if p1.kind_==2 then
 e240 qq p0 p1.n_>>=fun r2=>
 if r2==(List.length p1.sub_:Int)then
 e297 qq p1.t_>>=fun r5=>
 if r5 then
 e238Leq qq p0 p1 true 0
 else
 e238Leq qq p0 p1 false 0
 else
 e238Leq qq p0 p1 false 0
 else
 if decide ((List.length p1.sub_:Int)>0)then
 some false
 else
 if decide (p1.kind_<1)then
 some false
 else
 if decide (p1.kind_>4)then
 some false
 else
 if p1.kind_ != 1 then
 if p1.n_ != 0 then
 some false
 else
 if decide (p1.n_<0)then
 some false
 else
 if decide (p1.n_>1048576)then
 some false
 else
 if p1.kind_==3 then
 e18 qq p1.t_>>=fun r16=>
 some r16
 else
 e297 qq p1.t_>>=fun r18=>
 some r18
 else
 if decide (p1.n_<0)then
 some false
 else
 if decide (p1.n_>1048576)then
 some false
 else
 if p1.kind_==3 then
 e18 qq p1.t_>>=fun r23=>
 some r23
 else
 e297 qq p1.t_>>=fun r25=>
 some r25
def e238Leq:Nat->(List Ent)->R24Pat->Bool->Int->Option (Bool)
 |0,_,_,_,_=>none
 |qq+1,p0,p1,v5,v6=>
 if v5 then
 if decide (v6<(List.length p1.sub_:Int))then
 gidx p1.sub_ v6>>=fun x9=>
 e238 qq p0 (R24Pat.mk x9.kind_ x9.n_ x9.at_ x9.sub_ x9.t_)>>=fun r11=>
 if r11 then
 e238Leq qq p0 p1 true (w64 (v6+1))
 else
 e238Leq qq p0 p1 false (w64 (v6+1))
 else
 some true
 else
 if decide (v6<(List.length p1.sub_:Int))then
 some false
 else
 some false
end
def g238LeqE0(j:Nat->Value)(p0:List Ent)(p1:R24Pat)(v5:Bool)(v6:Int):=sp j 84 0 [(0,slv entL p0 .no),(3,.mp 0 0),(5,ab v5),(6,ai v6)]
def g238LeqS0(p0:List Ent)(p1:R24Pat)(v5:Bool)(v6:Int):LSt:=⟨[(0,.cells [ai p1.kind_,ai p1.n_,ai p1.at_,slv r24PatC p1.sub_ .no,ai p1.t_.k,ai p1.t_.n,slv tmCells p1.t_.sub .no])],1,[],0,[]⟩
abbrev K238 (p0:List Ent) (p1:R24Pat) (r:Bool) (C:Cf):Prop:=C 238 [] [slv entL p0 .no,r24PatA p1] (ab r) [] 0
theorem q238:Qf 238 Tryz.f238:=⟨Tryz.func238,by kernel_rfl⟩
theorem k238{p0 p1 r}(h:K238 p0 p1 r Ci):K238 p0 p1 r Ct:=⟨h,⟨⟨tv,dE _⟩,⟨tv,tv,tv,⟨tv,dR24Pat _⟩,tv,tv,⟨tv,dT _⟩,tv⟩,tv⟩,forall_nil,tv,forall_nil⟩
theorem a238_238Leq:∀qq:Nat,(∀p0 p1 r,e238 qq p0 p1=some r->K238 p0 p1 r Ct)∧(∀p0 p1 v5 v6 r,e238Leq qq p0 p1 v5 v6=some r->(∀j,Dl Tryz.prog 0 (inn (inn (rgt (lft (rgt (lft (rgt (lft (rgt (bod Tryz.f238)))))))))) (g238LeqE0 j p0 p1 v5 v6) (g238LeqS0 p0 p1 v5 v6) (frameQ Tryz.prog 0 (FinQ Tryz.prog 0 Tryz.f238 (ab r) [] 0) [.blk 0,.seq (rgt (rgt (lft (rgt (lft (rgt (bod Tryz.f238))))))),.seq (rgt (rgt (bod Tryz.f238)))]))):=by
 intro qq
 induction qq with
 |zero=>
  exact⟨fun _ _ _ h=>nn h,fun _ _ _ _ _ h=>nn h⟩
 |succ qq ih=>
  obtain⟨ih238,ih238Leq⟩:=ih
  refine⟨?_,?_⟩
  intro p0 p1 r h
  rw[e238]at h
  rcases spl h with⟨h1,h⟩|⟨h1,h⟩
  obtain⟨r2,h3,h⟩:=obind h
  have k:=oC 1 [] (c240 h3)<|oB 1 h1 o0
  rcases spl h with⟨h4,h⟩|⟨h4,h⟩
  obtain⟨r5,h6,h⟩:=obind h
  have k:=oB 2 h4 k
  rcases spl h with⟨h7,h⟩|⟨h7,h⟩
  exact k238 (tH q238 0 [] [0] [] [0,3,5,6] (oD (dE p0)<|oD (dT p1.t_.sub)<|oD (dR24Pat p1.sub_)<|oK 1 [] h7 (c297 h6) k) (ih238Leq _ _ _ _ _ h))
  exact k238 (tH q238 0 [] [0] [] [0,3,5,6] (oD (dE p0)<|oD (dT p1.t_.sub)<|oD (dR24Pat p1.sub_)<|oK 1 [] h7 (c297 h6) k) (ih238Leq _ _ _ _ _ h))
  exact k238 (tH q238 0 [] [0] [] [0,3,5,6] (oD (dE p0)<|oD (dT p1.t_.sub)<|oD (dR24Pat p1.sub_)<|oB 2 h4 k) (ih238Leq _ _ _ _ _ h))
  have k:=oB 1 h1 o0
  rcases spl h with⟨h8,h⟩|⟨h8,h⟩
  obtain rfl:=sj h
  exact k238 (tF q238 0 [] (oB 2 h8 k))
  have k:=oB 2 h8 k
  rcases spl h with⟨h9,h⟩|⟨h9,h⟩
  obtain rfl:=sj h
  exact k238 (tF q238 0 [] (oB 1 h9 k))
  have k:=oB 1 h9 k
  rcases spl h with⟨h10,h⟩|⟨h10,h⟩
  obtain rfl:=sj h
  exact k238 (tF q238 0 [] (oB 1 h10 k))
  have k:=oB 1 h10 k
  rcases spl h with⟨h11,h⟩|⟨h11,h⟩
  have k:=oB 1 h11 k
  rcases spl h with⟨h12,h⟩|⟨h12,h⟩
  obtain rfl:=sj h
  exact k238 (tF q238 0 [] (oB 1 h12 k))
  have k:=oB 1 h12 k
  rcases spl h with⟨h13,h⟩|⟨h13,h⟩
  obtain rfl:=sj h
  exact k238 (tF q238 0 [] (oB 1 h13 k))
  have k:=oB 1 h13 k
  rcases spl h with⟨h14,h⟩|⟨h14,h⟩
  obtain rfl:=sj h
  exact k238 (tF q238 0 [] (oB 1 h14 k))
  have k:=oB 1 h14 k
  rcases spl h with⟨h15,h⟩|⟨h15,h⟩
  obtain⟨r16,h17,h⟩:=obind h
  obtain rfl:=sj h
  exact k238 (tF q238 0 [] (oC 1 [] (c18 h17)<|oB 1 h15 k))
  obtain⟨r18,h19,h⟩:=obind h
  obtain rfl:=sj h
  exact k238 (tF q238 0 [] (oC 1 [] (c297 h19)<|oB 1 h15 k))
  have k:=oB 1 h11 k
  rcases spl h with⟨h20,h⟩|⟨h20,h⟩
  obtain rfl:=sj h
  exact k238 (tF q238 0 [] (oB 1 h20 k))
  have k:=oB 1 h20 k
  rcases spl h with⟨h21,h⟩|⟨h21,h⟩
  obtain rfl:=sj h
  exact k238 (tF q238 0 [] (oB 1 h21 k))
  have k:=oB 1 h21 k
  rcases spl h with⟨h22,h⟩|⟨h22,h⟩
  obtain⟨r23,h24,h⟩:=obind h
  obtain rfl:=sj h
  exact k238 (tF q238 0 [] (oC 1 [] (c18 h24)<|oB 1 h22 k))
  obtain⟨r25,h26,h⟩:=obind h
  obtain rfl:=sj h
  exact k238 (tF q238 0 [] (oC 1 [] (c297 h26)<|oB 1 h22 k))
  intro p0 p1 v5 v6 r h
  rw[e238Leq]at h
  cases v5
  replace h:=ifF rfl h
  rcases spl h with⟨h14,h⟩|⟨h14,h⟩
  obtain rfl:=sj h
  exact fun j=>lF 0 [] (oB 2 h14 o0)
  obtain rfl:=sj h
  exact fun j=>lF 0 [] (oB 2 h14 o0)
  replace h:=ifT rfl h
  rcases spl h with⟨h8,h⟩|⟨h8,h⟩
  obtain⟨x9,h10,h⟩:=obind h
  obtain⟨r11,h12,h⟩:=obind h
  have k:=oA 1 (ix97 (o:=.no) h10)<|oB 2 h8 o0
  rcases spl h with⟨h13,h⟩|⟨h13,h⟩
  exact fun j=>lH 1 [] [0] [] [0,3,5,6] (oD (dE p0)<|oD (dT p1.t_.sub)<|oD (dR24Pat p1.sub_)<|oK 1 [] h13 (ih238 _ _ _ h12) k) (ih238Leq _ _ _ _ _ h)
  exact fun j=>lH 1 [] [0] [] [0,3,5,6] (oD (dE p0)<|oD (dT p1.t_.sub)<|oD (dR24Pat p1.sub_)<|oK 1 [] h13 (ih238 _ _ _ h12) k) (ih238Leq _ _ _ _ _ h)
  obtain rfl:=sj h
  exact fun j=>lF 0 [] (oB 2 h8 o0)
theorem c238{qq p0 p1 r}(h:e238 qq p0 p1=some r):K238 p0 p1 r Ct:=(a238_238Leq _).1 _ _ _ h
end Go.Proofs.YtmfcobjnlabpoaaGreat
