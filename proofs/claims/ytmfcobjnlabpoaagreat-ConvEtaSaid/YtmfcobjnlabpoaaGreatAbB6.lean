/- Texts: AbF135va22461_199va26991_268va27343_269va22461 AbRj AbRk AbRl AbF108 AbF134va30903 AbF184 AbF133va24069 AbF67 AbRm AbF68 AbF68va14437 AbF68va17286 AbF68va53055 AbF16 AbF91 AbRg AbF67va18876 AbF67va29373 AbF67va30710 AbF15 AbRv AbF21 AbF72 AbF22 AbF25 AbF26 AbTe AbF13 AbF14 AbF24va6771 AbF5 AbTf AbTg -/
import Derived.KernelRfl
import Derived.Test.YtmfcobjnlabpoaaGreatAbB5
set_option linter.unusedVariables false
set_option linter.unusedSimpArgs false
namespace Go.Proofs.YtmfcobjnlabpoaaGreat
open Go Go.Ab
mutual
def e135vadb:Nat->(List Ent)->(List Ent)->(List Con')->(List Int)->(List Int)->(List Ent)->Int->Int->Int->Tm->Tm->Option (Bool×Int×Int×Int)
 |0,_,_,_,_,_,_,_,_,_,_,_=>none
 |qq+1,q0,q1,q2,q3,q4,q5,q6,q7,q8,p1,p2=>
 e198 qq (Mach.mk q0 q1 q2 q3 q4) q5 q6 q7 q8 p1 p2>>=fun r1=>
 if r1.2.2.1 then
 e199vadc qq q0 q1 q2 q3 q4 q5 r1.2.2.2.2.1 r1.2.2.2.2.2 r1.2.2.2.1 r1.1 r1.2.1>>=fun r4=>
 some (r4.1,r4.2.1,r4.2.2.1,r4.2.2.2)
 else
 some (false,r1.2.2.2.1,r1.2.2.2.2.1,r1.2.2.2.2.2)
def e199vadc:Nat->(List Ent)->(List Ent)->(List Con')->(List Int)->(List Int)->(List Ent)->Int->Int->Int->Tm->Tm->Option (Bool×Int×Int×Int)
 |0,_,_,_,_,_,_,_,_,_,_,_=>none
 |qq+1,q0,q1,q2,q3,q4,q5,q6,q7,q8,p1,p2=>
 if p1.k==4 then
 e266 qq (Mach.mk q0 q1 q2 q3 q4) q5 q6 q7 q8 p1>>=fun r2=>
 e266 qq (Mach.mk q0 q1 q2 q3 q4) q5 q6 q7 r2.2 p2>>=fun r4=>
 e135vadb qq q0 q1 q2 q3 q4 q5 q6 q7 r4.2 r2.1 r4.1>>=fun r6=>
 some (r6.1,r6.2.1,r6.2.2.1,r6.2.2.2)
 else
 if p2.k==4 then
 e266 qq (Mach.mk q0 q1 q2 q3 q4) q5 q6 q7 q8 p1>>=fun r9=>
 e266 qq (Mach.mk q0 q1 q2 q3 q4) q5 q6 q7 r9.2 p2>>=fun r11=>
 e135vadb qq q0 q1 q2 q3 q4 q5 q6 q7 r11.2 r9.1 r11.1>>=fun r13=>
 some (r13.1,r13.2.1,r13.2.2.1,r13.2.2.2)
 else
 e267 qq (Mach.mk q0 q1 q2 q3 q4) q5 q6 q7 q8 p1>>=fun r15=>
 if r15.2.2 then
 e267 qq (Mach.mk q0 q1 q2 q3 q4) q5 q6 q7 q8 p2>>=fun r18=>
 if r18.2.2 then
 if r15.1 != r18.1 then
 some (false,q8,q6,q7)
 else
 gidx q5 r15.1>>=fun x22=>
 gsl r15.2.1 0 x22.pars>>=fun x24=>
 e268vadd qq q0 q1 q2 q3 q4 q5 q6 q7 q8 p1 p2 r15.1 x24>>=fun r26=>
 some (r26.1,r26.2.1,r26.2.2.1,r26.2.2.2)
 else
 gidx q5 r15.1>>=fun x28=>
 gsl r15.2.1 0 x28.pars>>=fun x30=>
 e268vadd qq q0 q1 q2 q3 q4 q5 q6 q7 q8 p1 p2 r15.1 x30>>=fun r32=>
 some (r32.1,r32.2.1,r32.2.2.1,r32.2.2.2)
 else
 e267 qq (Mach.mk q0 q1 q2 q3 q4) q5 q6 q7 q8 p2>>=fun r34=>
 if r34.2.2 then
 gidx q5 r34.1>>=fun x37=>
 gsl r34.2.1 0 x37.pars>>=fun x39=>
 e268vadd qq q0 q1 q2 q3 q4 q5 q6 q7 q8 p1 p2 r34.1 x39>>=fun r41=>
 some (r41.1,r41.2.1,r41.2.2.1,r41.2.2.2)
 else
 if p1.k != p2.k then
 some (false,q8,q6,q7)
 else
 if p1.k==3 then
 gidx p1.sub 0>>=fun x45=>
 gidx p2.sub 0>>=fun x47=>
 e135vadb qq q0 q1 q2 q3 q4 q5 q6 q7 q8 x45 x47>>=fun r49=>
 if r49.1 then
 gidx p1.sub 1>>=fun x52=>
 gidx p2.sub 1>>=fun x54=>
 e135vadb qq q0 q1 q2 q3 q4 q5 r49.2.2.1 r49.2.2.2 r49.2.1 x52 x54>>=fun r56=>
 some (r56.1,r56.2.1,r56.2.2.1,r56.2.2.2)
 else
 some (false,r49.2.1,r49.2.2.1,r49.2.2.2)
 else
 if p1.k==2 then
 e200 qq p1.n p2.n>>=fun r59=>
 some (r59,q8,q6,q7)
 else
 e269vadb qq q0 q1 q2 q3 q4 q5 q6 q7 q8 p1 p2>>=fun r61=>
 some (r61.1,r61.2.1,r61.2.2.1,r61.2.2.2)
def e268vadd:Nat->(List Ent)->(List Ent)->(List Con')->(List Int)->(List Int)->(List Ent)->Int->Int->Int->Tm->Tm->Int->(List Tm)->Option (Bool×Int×Int×Int)
 |0,_,_,_,_,_,_,_,_,_,_,_,_,_=>none
 |qq+1,q0,q1,q2,q3,q4,q5,q6,q7,q8,p1,p2,p3,p4=>
 gidx q5 p3>>=fun x1=>
 gidx q5 x1.fam>>=fun x3=>
 e268vaddLde qq q0 q1 q2 q3 q4 q5 p1 p2 p3 p4 x3 0 q8 q6 q7
def e268vaddLde:Nat->(List Ent)->(List Ent)->(List Con')->(List Int)->(List Int)->(List Ent)->Tm->Tm->Int->(List Tm)->Ent->Int->Int->Int->Int->Option (Bool×Int×Int×Int)
 |0,_,_,_,_,_,_,_,_,_,_,_,_,_,_,_=>none
 |qq+1,q0,q1,q2,q3,q4,q5,p1,p2,p3,p4,x3,v28,vb0_3,vb3_0,vb3_1=>
 if decide (v28<(List.length x3.fields:Int))then
 e313 qq (Mach.mk q0 q1 q2 q3 q4) q5 vb3_0 vb3_1 vb0_3 p1 p3 v28 p4>>=fun r6=>
 e313 qq (Mach.mk q0 q1 q2 q3 q4) q5 vb3_0 vb3_1 r6.2 p2 p3 v28 p4>>=fun r8=>
 e135vadb qq q0 q1 q2 q3 q4 q5 vb3_0 vb3_1 r8.2 r6.1 r8.1>>=fun r10=>
 if r10.1 then
 e268vaddLde qq q0 q1 q2 q3 q4 q5 p1 p2 p3 p4 x3 (w64 (v28+1)) r10.2.1 r10.2.2.1 r10.2.2.2
 else
 some (false,r10.2.1,r10.2.2.1,r10.2.2.2)
 else
 some (true,vb0_3,vb3_0,vb3_1)
def e269vadb:Nat->(List Ent)->(List Ent)->(List Con')->(List Int)->(List Int)->(List Ent)->Int->Int->Int->Tm->Tm->Option (Bool×Int×Int×Int)
 |0,_,_,_,_,_,_,_,_,_,_,_=>none
 |qq+1,q0,q1,q2,q3,q4,q5,q6,q7,q8,p1,p2=>
 e167 qq p1>>=fun r1=>
 e167 qq p2>>=fun r3=>
 if r1.1.k != r3.1.k then
 some (false,q8,q6,q7)
 else
 if r1.1.n != r3.1.n then
 some (false,q8,q6,q7)
 else
 if (List.length r1.2:Int) != (List.length r3.2:Int)then
 some (false,q8,q6,q7)
 else
 if r1.1.k==7 then
 gidx r1.1.sub 0>>=fun x9=>
 gidx r3.1.sub 0>>=fun x11=>
 if x9.n != x11.n then
 some (false,q8,q6,q7)
 else
 if r1.1.k==3 then
 e135vadb qq q0 q1 q2 q3 q4 q5 q6 q7 q8 x9 x11>>=fun r15=>
 if r15.1 then
 gidx r1.1.sub 1>>=fun x18=>
 gidx r3.1.sub 1>>=fun x20=>
 e135vadb qq q0 q1 q2 q3 q4 q5 r15.2.2.1 r15.2.2.2 r15.2.1 x18 x20>>=fun r22=>
 if r22.1 then
 e269vadbLdf qq q0 q1 q2 q3 q4 q5 r1 r3 0 r22.2.1 r22.2.2.1 r22.2.2.2
 else
 some (false,r22.2.1,r22.2.2.1,r22.2.2.2)
 else
 some (false,r15.2.1,r15.2.2.1,r15.2.2.2)
 else
 e269vadbLdf qq q0 q1 q2 q3 q4 q5 r1 r3 0 q8 q6 q7
 else
 if r1.1.k==3 then
 gidx r1.1.sub 0>>=fun x26=>
 gidx r3.1.sub 0>>=fun x28=>
 e135vadb qq q0 q1 q2 q3 q4 q5 q6 q7 q8 x26 x28>>=fun r30=>
 if r30.1 then
 gidx r1.1.sub 1>>=fun x33=>
 gidx r3.1.sub 1>>=fun x35=>
 e135vadb qq q0 q1 q2 q3 q4 q5 r30.2.2.1 r30.2.2.2 r30.2.1 x33 x35>>=fun r37=>
 if r37.1 then
 e269vadbLdf qq q0 q1 q2 q3 q4 q5 r1 r3 0 r37.2.1 r37.2.2.1 r37.2.2.2
 else
 some (false,r37.2.1,r37.2.2.1,r37.2.2.2)
 else
 some (false,r30.2.1,r30.2.2.1,r30.2.2.2)
 else
 e269vadbLdf qq q0 q1 q2 q3 q4 q5 r1 r3 0 q8 q6 q7
def e269vadbLdf:Nat->(List Ent)->(List Ent)->(List Con')->(List Int)->(List Int)->(List Ent)->(Tm×List Tm)->(Tm×List Tm)->Int->Int->Int->Int->Option (Bool×Int×Int×Int)
 |0,_,_,_,_,_,_,_,_,_,_,_,_=>none
 |qq+1,q0,q1,q2,q3,q4,q5,r1,r3,v89,vb0_3,vb3_0,vb3_1=>
 if decide (v89<(List.length r1.2:Int))then
 gidx r1.2 v89>>=fun x26=>
 gidx r3.2 v89>>=fun x28=>
 e135vadb qq q0 q1 q2 q3 q4 q5 vb3_0 vb3_1 vb0_3 x26 x28>>=fun r30=>
 if r30.1 then
 e269vadbLdf qq q0 q1 q2 q3 q4 q5 r1 r3 (w64 (v89+1)) r30.2.1 r30.2.2.1 r30.2.2.2
 else
 some (false,r30.2.1,r30.2.2.1,r30.2.2.2)
 else
 some (true,vb0_3,vb3_0,vb3_1)
end
def g268vaddLdeE0(j:Nat->Value)(q0 q1:List Ent)(q2:List Con')(q3 q4:List Int)(q5:List Ent)(p1 p2:Tm)(p3:Int)(p4:List Tm)(x3:Ent)(v28 vb0_3 vb3_0 vb3_1:Int):=sp j 47 0 [(0,.mp 0 0),(3,ai p3),(4,slv tmCells p4 .no),(6,.mp 4 0),(7,.mp 5 0),(27,ai (List.length x3.fields:Int)),(28,ai v28)]
def g268vaddLdeS0(q0 q1:List Ent)(q2:List Con')(q3 q4:List Int)(q5:List Ent)(p1 p2:Tm)(p3:Int)(p4:List Tm)(x3:Ent)(v28 vb0_3 vb3_0 vb3_1:Int):LSt:=⟨[(0,.cells [.mp 1 0,slv entL q5 .no,.mp 3 0,ai vb0_3]),(1,.cells [slv entL q0 .no,.mp 2 0,slv intC q3 .no,slv intC q4 .no]),(2,.cells [slv entL q1 .no,slv conL q2 .no]),(3,.cells [ai vb3_0,ai vb3_1]),(4,.cells [ai p1.k,ai p1.n,slv tmCells p1.sub .no]),(5,.cells [ai p2.k,ai p2.n,slv tmCells p2.sub .no])],6,[],0,[]⟩
def g269vadbLdfE0(j:Nat->Value)(q0 q1:List Ent)(q2:List Con')(q3 q4:List Int)(q5:List Ent)(r1 r3:Tm×List Tm)(v89 vb0_3 vb3_0 vb3_1:Int):=sp j 104 0 [(0,.mp 0 0),(8,slv tmCells r1.2 .no),(10,slv tmCells r3.2 .no),(88,ai (List.length r1.2:Int)),(89,ai v89)]
def g269vadbLdfS0(q0 q1:List Ent)(q2:List Con')(q3 q4:List Int)(q5:List Ent)(r1 r3:Tm×List Tm)(v89 vb0_3 vb3_0 vb3_1:Int):LSt:=⟨[(0,.cells [.mp 1 0,slv entL q5 .no,.mp 3 0,ai vb0_3]),(1,.cells [slv entL q0 .no,.mp 2 0,slv intC q3 .no,slv intC q4 .no]),(2,.cells [slv entL q1 .no,slv conL q2 .no]),(3,.cells [ai vb3_0,ai vb3_1])],4,[],0,[]⟩
abbrev K135vadb (q0 q1:List Ent) (q2:List Con') (q3 q4:List Int) (q5:List Ent) (q6 q7 q8:Int) (p1 p2:Tm) (r:Bool×Int×Int×Int) (C:Cf):Prop:=C 135 [.cells [.mp 1 0,slv entL q5 .no,.mp 3 0,ai q8],.cells [slv entL q0 .no,.mp 2 0,slv intC q3 .no,slv intC q4 .no],.cells [slv entL q1 .no,slv conL q2 .no],.cells [ai q6,ai q7]] [.mp 0 0,tmA p1,tmA p2] (ab r.1) [.cells [.mp 1 0,slv entL q5 .no,.mp 3 0,ai r.2.1],.cells [slv entL q0 .no,.mp 2 0,slv intC q3 .no,slv intC q4 .no],.cells [slv entL q1 .no,slv conL q2 .no],.cells [ai r.2.2.1,ai r.2.2.2]] 0
abbrev K199vadc (q0 q1:List Ent) (q2:List Con') (q3 q4:List Int) (q5:List Ent) (q6 q7 q8:Int) (p1 p2:Tm) (r:Bool×Int×Int×Int) (C:Cf):Prop:=C 199 [.cells [.mp 1 0,slv entL q5 .no,.mp 3 0,ai q8],.cells [slv entL q0 .no,.mp 2 0,slv intC q3 .no,slv intC q4 .no],.cells [slv entL q1 .no,slv conL q2 .no],.cells [ai q6,ai q7]] [.mp 0 0,tmA p1,tmA p2,.agg [.clo 200 [] [],.clo 135 [.mp 0 0] []]] (ab r.1) [.cells [.mp 1 0,slv entL q5 .no,.mp 3 0,ai r.2.1],.cells [slv entL q0 .no,.mp 2 0,slv intC q3 .no,slv intC q4 .no],.cells [slv entL q1 .no,slv conL q2 .no],.cells [ai r.2.2.1,ai r.2.2.2]] 0
abbrev K268vadd (q0 q1:List Ent) (q2:List Con') (q3 q4:List Int) (q5:List Ent) (q6 q7 q8:Int) (p1 p2:Tm) (p3:Int) (p4:List Tm) (r:Bool×Int×Int×Int) (C:Cf):Prop:=C 268 [.cells [.mp 1 0,slv entL q5 .no,.mp 3 0,ai q8],.cells [slv entL q0 .no,.mp 2 0,slv intC q3 .no,slv intC q4 .no],.cells [slv entL q1 .no,slv conL q2 .no],.cells [ai q6,ai q7]] [.mp 0 0,tmA p1,tmA p2,ai p3,slv tmCells p4 .no] (ab r.1) [.cells [.mp 1 0,slv entL q5 .no,.mp 3 0,ai r.2.1],.cells [slv entL q0 .no,.mp 2 0,slv intC q3 .no,slv intC q4 .no],.cells [slv entL q1 .no,slv conL q2 .no],.cells [ai r.2.2.1,ai r.2.2.2]] 0
abbrev K269vadb (q0 q1:List Ent) (q2:List Con') (q3 q4:List Int) (q5:List Ent) (q6 q7 q8:Int) (p1 p2:Tm) (r:Bool×Int×Int×Int) (C:Cf):Prop:=C 269 [.cells [.mp 1 0,slv entL q5 .no,.mp 3 0,ai q8],.cells [slv entL q0 .no,.mp 2 0,slv intC q3 .no,slv intC q4 .no],.cells [slv entL q1 .no,slv conL q2 .no],.cells [ai q6,ai q7]] [.mp 0 0,tmA p1,tmA p2] (ab r.1) [.cells [.mp 1 0,slv entL q5 .no,.mp 3 0,ai r.2.1],.cells [slv entL q0 .no,.mp 2 0,slv intC q3 .no,slv intC q4 .no],.cells [slv entL q1 .no,slv conL q2 .no],.cells [ai r.2.2.1,ai r.2.2.2]] 0
theorem q135vadb:Qf 135 Tryz.f135:=⟨Tryz.func135,by kernel_rfl⟩
theorem k135vadb{q0 q1 q2 q3 q4 q5 q6 q7 q8 p1 p2 r}(h:K135vadb q0 q1 q2 q3 q4 q5 q6 q7 q8 p1 p2 r Ci):K135vadb q0 q1 q2 q3 q4 q5 q6 q7 q8 p1 p2 r Ct:=⟨h,⟨(lz rfl),⟨tv,tv,⟨tv,dT _⟩,tv⟩,⟨tv,tv,⟨tv,dT _⟩,tv⟩,tv⟩,(forall_cons ⟨(lz rfl),⟨tv,dE _⟩,(lz rfl),tv,tv⟩ (forall_cons ⟨⟨tv,dE _⟩,(lz rfl),⟨tv,dI _⟩,⟨tv,dI _⟩,tv⟩ (forall_cons ⟨⟨tv,dE _⟩,⟨tv,dC _⟩,tv⟩ (forall_cons ⟨tv,tv,tv⟩ forall_nil)))),tv,(forall_cons ⟨(lz rfl),dE _,(lz rfl),tv,tv⟩ (forall_cons ⟨dE _,(lz rfl),dI _,dI _,tv⟩ (forall_cons ⟨dE _,dC _,tv⟩ (forall_cons ⟨tv,tv,tv⟩ forall_nil))))⟩
theorem q199vadc:Qf 199 Tryz.f199:=⟨Tryz.func199,by kernel_rfl⟩
theorem k199vadc{q0 q1 q2 q3 q4 q5 q6 q7 q8 p1 p2 r}(h:K199vadc q0 q1 q2 q3 q4 q5 q6 q7 q8 p1 p2 r Ci):K199vadc q0 q1 q2 q3 q4 q5 q6 q7 q8 p1 p2 r Ct:=⟨h,⟨(lz rfl),⟨tv,tv,⟨tv,dT _⟩,tv⟩,⟨tv,tv,⟨tv,dT _⟩,tv⟩,⟨⟨tv,tv⟩,⟨⟨(lz rfl),tv⟩,tv⟩,tv⟩,tv⟩,(forall_cons ⟨(lz rfl),⟨tv,dE _⟩,(lz rfl),tv,tv⟩ (forall_cons ⟨⟨tv,dE _⟩,(lz rfl),⟨tv,dI _⟩,⟨tv,dI _⟩,tv⟩ (forall_cons ⟨⟨tv,dE _⟩,⟨tv,dC _⟩,tv⟩ (forall_cons ⟨tv,tv,tv⟩ forall_nil)))),tv,(forall_cons ⟨(lz rfl),dE _,(lz rfl),tv,tv⟩ (forall_cons ⟨dE _,(lz rfl),dI _,dI _,tv⟩ (forall_cons ⟨dE _,dC _,tv⟩ (forall_cons ⟨tv,tv,tv⟩ forall_nil))))⟩
theorem q268vadd:Qf 268 Tryz.f268:=⟨Tryz.func268,by kernel_rfl⟩
theorem k268vadd{q0 q1 q2 q3 q4 q5 q6 q7 q8 p1 p2 p3 p4 r}(h:K268vadd q0 q1 q2 q3 q4 q5 q6 q7 q8 p1 p2 p3 p4 r Ci):K268vadd q0 q1 q2 q3 q4 q5 q6 q7 q8 p1 p2 p3 p4 r Ct:=⟨h,⟨(lz rfl),⟨tv,tv,⟨tv,dT _⟩,tv⟩,⟨tv,tv,⟨tv,dT _⟩,tv⟩,tv,⟨tv,dT _⟩,tv⟩,(forall_cons ⟨(lz rfl),⟨tv,dE _⟩,(lz rfl),tv,tv⟩ (forall_cons ⟨⟨tv,dE _⟩,(lz rfl),⟨tv,dI _⟩,⟨tv,dI _⟩,tv⟩ (forall_cons ⟨⟨tv,dE _⟩,⟨tv,dC _⟩,tv⟩ (forall_cons ⟨tv,tv,tv⟩ forall_nil)))),tv,(forall_cons ⟨(lz rfl),dE _,(lz rfl),tv,tv⟩ (forall_cons ⟨dE _,(lz rfl),dI _,dI _,tv⟩ (forall_cons ⟨dE _,dC _,tv⟩ (forall_cons ⟨tv,tv,tv⟩ forall_nil))))⟩
theorem q269vadb:Qf 269 Tryz.f269:=⟨Tryz.func269,by kernel_rfl⟩
theorem k269vadb{q0 q1 q2 q3 q4 q5 q6 q7 q8 p1 p2 r}(h:K269vadb q0 q1 q2 q3 q4 q5 q6 q7 q8 p1 p2 r Ci):K269vadb q0 q1 q2 q3 q4 q5 q6 q7 q8 p1 p2 r Ct:=⟨h,⟨(lz rfl),⟨tv,tv,⟨tv,dT _⟩,tv⟩,⟨tv,tv,⟨tv,dT _⟩,tv⟩,tv⟩,(forall_cons ⟨(lz rfl),⟨tv,dE _⟩,(lz rfl),tv,tv⟩ (forall_cons ⟨⟨tv,dE _⟩,(lz rfl),⟨tv,dI _⟩,⟨tv,dI _⟩,tv⟩ (forall_cons ⟨⟨tv,dE _⟩,⟨tv,dC _⟩,tv⟩ (forall_cons ⟨tv,tv,tv⟩ forall_nil)))),tv,(forall_cons ⟨(lz rfl),dE _,(lz rfl),tv,tv⟩ (forall_cons ⟨dE _,(lz rfl),dI _,dI _,tv⟩ (forall_cons ⟨dE _,dC _,tv⟩ (forall_cons ⟨tv,tv,tv⟩ forall_nil))))⟩
theorem a135vadb_199vadc_268vadd_268vaddLde_269vadb_269vadbLdf:∀qq:Nat,(∀q0 q1 q2 q3 q4 q5 q6 q7 q8 p1 p2 r,e135vadb qq q0 q1 q2 q3 q4 q5 q6 q7 q8 p1 p2=some r->K135vadb q0 q1 q2 q3 q4 q5 q6 q7 q8 p1 p2 r Ct)∧(∀q0 q1 q2 q3 q4 q5 q6 q7 q8 p1 p2 r,e199vadc qq q0 q1 q2 q3 q4 q5 q6 q7 q8 p1 p2=some r->K199vadc q0 q1 q2 q3 q4 q5 q6 q7 q8 p1 p2 r Ct)∧(∀q0 q1 q2 q3 q4 q5 q6 q7 q8 p1 p2 p3 p4 r,e268vadd qq q0 q1 q2 q3 q4 q5 q6 q7 q8 p1 p2 p3 p4=some r->K268vadd q0 q1 q2 q3 q4 q5 q6 q7 q8 p1 p2 p3 p4 r Ct)∧(∀q0 q1 q2 q3 q4 q5 p1 p2 p3 p4 x3 v28 vb0_3 vb3_0 vb3_1 r,e268vaddLde qq q0 q1 q2 q3 q4 q5 p1 p2 p3 p4 x3 v28 vb0_3 vb3_0 vb3_1=some r->(∀j,Dl Tryz.prog 4 (inn (inn (rgt (lft (rgt (bod Tryz.f268)))))) (g268vaddLdeE0 j q0 q1 q2 q3 q4 q5 p1 p2 p3 p4 x3 v28 vb0_3 vb3_0 vb3_1) (g268vaddLdeS0 q0 q1 q2 q3 q4 q5 p1 p2 p3 p4 x3 v28 vb0_3 vb3_0 vb3_1) (frameQ Tryz.prog 4 (FinQ Tryz.prog 4 Tryz.f268 (ab r.1) [.cells [.mp 1 0,slv entL q5 .no,.mp 3 0,ai r.2.1],.cells [slv entL q0 .no,.mp 2 0,slv intC q3 .no,slv intC q4 .no],.cells [slv entL q1 .no,slv conL q2 .no],.cells [ai r.2.2.1,ai r.2.2.2]] 0) [.blk 0,.seq (rgt (rgt (bod Tryz.f268)))])))∧(∀q0 q1 q2 q3 q4 q5 q6 q7 q8 p1 p2 r,e269vadb qq q0 q1 q2 q3 q4 q5 q6 q7 q8 p1 p2=some r->K269vadb q0 q1 q2 q3 q4 q5 q6 q7 q8 p1 p2 r Ct)∧(∀q0 q1 q2 q3 q4 q5 r1 r3 v89 vb0_3 vb3_0 vb3_1 r,e269vadbLdf qq q0 q1 q2 q3 q4 q5 r1 r3 v89 vb0_3 vb3_0 vb3_1=some r->(∀j,Dl Tryz.prog 4 (inn (inn (rgt (lft (rgt (rgt (rgt (rgt (rgt (bod Tryz.f269)))))))))) (g269vadbLdfE0 j q0 q1 q2 q3 q4 q5 r1 r3 v89 vb0_3 vb3_0 vb3_1) (g269vadbLdfS0 q0 q1 q2 q3 q4 q5 r1 r3 v89 vb0_3 vb3_0 vb3_1) (frameQ Tryz.prog 4 (FinQ Tryz.prog 4 Tryz.f269 (ab r.1) [.cells [.mp 1 0,slv entL q5 .no,.mp 3 0,ai r.2.1],.cells [slv entL q0 .no,.mp 2 0,slv intC q3 .no,slv intC q4 .no],.cells [slv entL q1 .no,slv conL q2 .no],.cells [ai r.2.2.1,ai r.2.2.2]] 0) [.blk 0,.seq (rgt (rgt (rgt (rgt (rgt (rgt (bod Tryz.f269)))))))]))):=by
 intro qq
 induction qq with
 |zero=>
  exact⟨fun _ _ _ _ _ _ _ _ _ _ _ _ h=>nn h,fun _ _ _ _ _ _ _ _ _ _ _ _ h=>nn h,fun _ _ _ _ _ _ _ _ _ _ _ _ _ _ h=>nn h,fun _ _ _ _ _ _ _ _ _ _ _ _ _ _ _ _ h=>nn h,fun _ _ _ _ _ _ _ _ _ _ _ _ h=>nn h,fun _ _ _ _ _ _ _ _ _ _ _ _ _ h=>nn h⟩
 |succ qq ih=>
  obtain⟨ih135vadb,ih199vadc,ih268vadd,ih268vaddLde,ih269vadb,ih269vadbLdf⟩:=ih
  refine⟨?_,?_,?_,?_,?_,?_⟩
  intro q0 q1 q2 q3 q4 q5 q6 q7 q8 p1 p2 r h
  rw[e135vadb]at h
  obtain⟨r1,h2,h⟩:=obind h
  have k:=oC 2 [0,1,2,3] (c198 h2) o0
  rcases spl h with⟨h3,h⟩|⟨h3,h⟩
  obtain⟨r4,h5,h⟩:=obind h
  obtain rfl:=sj h
  exact k135vadb (tF q135vadb 0 [0,1,2,3] (oD (dC q2)<|oD (dE q1)<|oD (dI q4)<|oD (dI q3)<|oD (dE q0)<|oD (dE q5)<|oC 4 [0,1,2,3] (ih199vadc _ _ _ _ _ _ _ _ _ _ _ _ h5)<|oB 2 h3 k))
  obtain rfl:=sj h
  exact k135vadb (tF q135vadb 2 [0,1,2,3] (oD (dC q2)<|oD (dE q1)<|oD (dI q4)<|oD (dI q3)<|oD (dE q0)<|oD (dE q5)<|oB 2 h3 k))
  intro q0 q1 q2 q3 q4 q5 q6 q7 q8 p1 p2 r h
  rw[e199vadc]at h
  rcases spl h with⟨h1,h⟩|⟨h1,h⟩
  obtain⟨r2,h3,h⟩:=obind h
  obtain⟨r4,h5,h⟩:=obind h
  obtain⟨r6,h7,h⟩:=obind h
  obtain rfl:=sj h
  exact k199vadc (tF q199vadc 0 [0,1,2,3] (oD (dC q2)<|oD (dE q1)<|oD (dI q4)<|oD (dI q3)<|oD (dE q0)<|oD (dE q5)<|oC 0 [0,1,2,3] (ih135vadb _ _ _ _ _ _ _ _ _ _ _ _ h7)<|oC 1 [0,1,2,3] (c266 h5)<|oC 1 [0,1,2,3] (c266 h3)<|oB 1 h1 o0))
  have k:=oB 1 h1 o0
  rcases spl h with⟨h8,h⟩|⟨h8,h⟩
  obtain⟨r9,h10,h⟩:=obind h
  obtain⟨r11,h12,h⟩:=obind h
  obtain⟨r13,h14,h⟩:=obind h
  obtain rfl:=sj h
  exact k199vadc (tF q199vadc 0 [0,1,2,3] (oD (dC q2)<|oD (dE q1)<|oD (dI q4)<|oD (dI q3)<|oD (dE q0)<|oD (dE q5)<|oC 0 [0,1,2,3] (ih135vadb _ _ _ _ _ _ _ _ _ _ _ _ h14)<|oC 1 [0,1,2,3] (c266 h12)<|oC 1 [0,1,2,3] (c266 h10)<|oB 1 h8 k))
  obtain⟨r15,h16,h⟩:=obind h
  have k:=oC 1 [0,1,2,3] (c267 h16)<|oB 1 h8 k
  rcases spl h with⟨h17,h⟩|⟨h17,h⟩
  obtain⟨r18,h19,h⟩:=obind h
  have k:=oC 1 [0,1,2,3] (c267 h19)<|oB 2 h17 k
  rcases spl h with⟨h20,h⟩|⟨h20,h⟩
  have k:=oB 2 h20 k
  rcases spl h with⟨h21,h⟩|⟨h21,h⟩
  obtain rfl:=sj h
  exact k199vadc (tF q199vadc 0 [0,1,2,3] (oD (dC q2)<|oD (dE q1)<|oD (dI q4)<|oD (dI q3)<|oD (dE q0)<|oD (dE q5)<|oB 0 h21 k))
  obtain⟨x22,h23,h⟩:=obind h
  obtain⟨x24,h25,h⟩:=obind h
  obtain⟨r26,h27,h⟩:=obind h
  obtain rfl:=sj h
  exact k199vadc (tF q199vadc 0 [0,1,2,3] (oD (dC q2)<|oD (dE q1)<|oD (dI q4)<|oD (dI q3)<|oD (dE q0)<|oD (dE q5)<|oC 0 [0,1,2,3] (ih268vadd _ _ _ _ _ _ _ _ _ _ _ _ _ _ h27)<|oA 1 (slTo23 h25)<|oA 3 (ix22 (o:=.no) h23)<|oB 0 h21 k))
  obtain⟨x28,h29,h⟩:=obind h
  obtain⟨x30,h31,h⟩:=obind h
  obtain⟨r32,h33,h⟩:=obind h
  obtain rfl:=sj h
  exact k199vadc (tF q199vadc 0 [0,1,2,3] (oD (dC q2)<|oD (dE q1)<|oD (dI q4)<|oD (dI q3)<|oD (dE q0)<|oD (dE q5)<|oC 0 [0,1,2,3] (ih268vadd _ _ _ _ _ _ _ _ _ _ _ _ _ _ h33)<|oA 1 (slTo23 h31)<|oA 3 (ix22 (o:=.no) h29)<|oB 2 h20 k))
  obtain⟨r34,h35,h⟩:=obind h
  have k:=oC 1 [0,1,2,3] (c267 h35)<|oB 2 h17 k
  rcases spl h with⟨h36,h⟩|⟨h36,h⟩
  obtain⟨x37,h38,h⟩:=obind h
  obtain⟨x39,h40,h⟩:=obind h
  obtain⟨r41,h42,h⟩:=obind h
  obtain rfl:=sj h
  exact k199vadc (tF q199vadc 0 [0,1,2,3] (oD (dC q2)<|oD (dE q1)<|oD (dI q4)<|oD (dI q3)<|oD (dE q0)<|oD (dE q5)<|oC 0 [0,1,2,3] (ih268vadd _ _ _ _ _ _ _ _ _ _ _ _ _ _ h42)<|oA 1 (slTo23 h40)<|oA 3 (ix22 (o:=.no) h38)<|oB 2 h36 k))
  have k:=oB 2 h36 k
  rcases spl h with⟨h43,h⟩|⟨h43,h⟩
  obtain rfl:=sj h
  exact k199vadc (tF q199vadc 0 [0,1,2,3] (oD (dC q2)<|oD (dE q1)<|oD (dI q4)<|oD (dI q3)<|oD (dE q0)<|oD (dE q5)<|oB 2 h43 k))
  have k:=oB 2 h43 k
  rcases spl h with⟨h44,h⟩|⟨h44,h⟩
  obtain⟨x45,h46,h⟩:=obind h
  obtain⟨x47,h48,h⟩:=obind h
  obtain⟨r49,h50,h⟩:=obind h
  have k:=oA 2 (ix23 (o:=.no) h48)<|oA 1 (ix23 (o:=.no) h46)<|oB 1 h44 k
  rcases spl h with⟨h51,h⟩|⟨h51,h⟩
  obtain⟨x52,h53,h⟩:=obind h
  obtain⟨x54,h55,h⟩:=obind h
  obtain⟨r56,h57,h⟩:=obind h
  obtain rfl:=sj h
  exact k199vadc (tF q199vadc 0 [0,1,2,3] (oD (dC q2)<|oD (dE q1)<|oD (dI q4)<|oD (dI q3)<|oD (dE q0)<|oD (dE q5)<|oC 1 [0,1,2,3] (ih135vadb _ _ _ _ _ _ _ _ _ _ _ _ h57)<|oA 2 (ix23 (o:=.no) h55)<|oA 2 (ix23 (o:=.no) h53)<|oK 1 [0,1,2,3] h51 (ih135vadb _ _ _ _ _ _ _ _ _ _ _ _ h50) k))
  obtain rfl:=sj h
  exact k199vadc (tF q199vadc 0 [0,1,2,3] (oD (dC q2)<|oD (dE q1)<|oD (dI q4)<|oD (dI q3)<|oD (dE q0)<|oD (dE q5)<|oK 1 [0,1,2,3] h51 (ih135vadb _ _ _ _ _ _ _ _ _ _ _ _ h50) k))
  have k:=oB 1 h44 k
  rcases spl h with⟨h58,h⟩|⟨h58,h⟩
  obtain⟨r59,h60,h⟩:=obind h
  obtain rfl:=sj h
  exact k199vadc (tF q199vadc 0 [0,1,2,3] (oD (dC q2)<|oD (dE q1)<|oD (dI q4)<|oD (dI q3)<|oD (dE q0)<|oD (dE q5)<|oC 3 [] (c200 h60)<|oB 1 h58 k))
  obtain⟨r61,h62,h⟩:=obind h
  obtain rfl:=sj h
  exact k199vadc (tF q199vadc 0 [0,1,2,3] (oD (dC q2)<|oD (dE q1)<|oD (dI q4)<|oD (dI q3)<|oD (dE q0)<|oD (dE q5)<|oC 2 [0,1,2,3] (ih269vadb _ _ _ _ _ _ _ _ _ _ _ _ h62)<|oB 1 h58 k))
  intro q0 q1 q2 q3 q4 q5 q6 q7 q8 p1 p2 p3 p4 r h
  rw[e268vadd]at h
  obtain⟨x1,h2,h⟩:=obind h
  obtain⟨x3,h4,h⟩:=obind h
  exact k268vadd (tH q268vadd 2 [] [0,1,2,3,4,5] [] [0,3,4,6,7,27,28] (oD (dT p4)<|oD (dT p2.sub)<|oD (dT p1.sub)<|oD (dC q2)<|oD (dE q1)<|oD (dI q4)<|oD (dI q3)<|oD (dE q0)<|oD (dE q5)<|oA 1 (ix22 (o:=.no) h4)<|oA 2 (ix22 (o:=.no) h2) o0) (ih268vaddLde _ _ _ _ _ _ _ _ _ _ _ _ _ _ _ _ h))
  intro q0 q1 q2 q3 q4 q5 p1 p2 p3 p4 x3 v28 vb0_3 vb3_0 vb3_1 r h
  rw[e268vaddLde]at h
  rcases spl h with⟨h5,h⟩|⟨h5,h⟩
  obtain⟨r6,h7,h⟩:=obind h
  obtain⟨r8,h9,h⟩:=obind h
  obtain⟨r10,h11,h⟩:=obind h
  have k:=oC 1 [0,1,2,3] (c313 h9)<|oC 1 [0,1,2,3] (c313 h7)<|oB 0 h5 o0
  rcases spl h with⟨h12,h⟩|⟨h12,h⟩
  exact fun j=>lH 2 [] [0,1,2,3,4,5] [] [0,3,4,6,7,27,28] (oD (dT p4)<|oD (dT p2.sub)<|oD (dT p1.sub)<|oD (dC q2)<|oD (dE q1)<|oD (dI q4)<|oD (dI q3)<|oD (dE q0)<|oD (dE q5)<|oK 0 [0,1,2,3] h12 (ih135vadb _ _ _ _ _ _ _ _ _ _ _ _ h11) k) (ih268vaddLde _ _ _ _ _ _ _ _ _ _ _ _ _ _ _ _ h)
  obtain rfl:=sj h
  exact fun j=>lF 1 [0,1,2,3] (oD (dC q2)<|oD (dE q1)<|oD (dI q4)<|oD (dI q3)<|oD (dE q0)<|oD (dE q5)<|oK 0 [0,1,2,3] h12 (ih135vadb _ _ _ _ _ _ _ _ _ _ _ _ h11) k)
  obtain rfl:=sj h
  exact fun j=>lF 0 [0,1,2,3] (oD (dC q2)<|oD (dE q1)<|oD (dI q4)<|oD (dI q3)<|oD (dE q0)<|oD (dE q5)<|oB 0 h5 o0)
  intro q0 q1 q2 q3 q4 q5 q6 q7 q8 p1 p2 r h
  rw[e269vadb]at h
  obtain⟨r1,h2,h⟩:=obind h
  obtain⟨r3,h4,h⟩:=obind h
  have k:=oC 4 [] (c167 h4)<|oC 1 [] (c167 h2) o0
  rcases spl h with⟨h5,h⟩|⟨h5,h⟩
  obtain rfl:=sj h
  exact k269vadb (tF q269vadb 0 [0,1,2,3] (oD (dC q2)<|oD (dE q1)<|oD (dI q4)<|oD (dI q3)<|oD (dE q0)<|oD (dE q5)<|oB 5 h5 k))
  have k:=oB 5 h5 k
  rcases spl h with⟨h6,h⟩|⟨h6,h⟩
  obtain rfl:=sj h
  exact k269vadb (tF q269vadb 0 [0,1,2,3] (oD (dC q2)<|oD (dE q1)<|oD (dI q4)<|oD (dI q3)<|oD (dE q0)<|oD (dE q5)<|oB 2 h6 k))
  have k:=oB 2 h6 k
  rcases spl h with⟨h7,h⟩|⟨h7,h⟩
  obtain rfl:=sj h
  exact k269vadb (tF q269vadb 0 [0,1,2,3] (oD (dC q2)<|oD (dE q1)<|oD (dI q4)<|oD (dI q3)<|oD (dE q0)<|oD (dE q5)<|oB 2 h7 k))
  have k:=oB 2 h7 k
  rcases spl h with⟨h8,h⟩|⟨h8,h⟩
  obtain⟨x9,h10,h⟩:=obind h
  obtain⟨x11,h12,h⟩:=obind h
  have k:=oA 2 (ix23 (o:=.no) h12)<|oA 1 (ix23 (o:=.no) h10)<|oB 1 h8 k
  rcases spl h with⟨h13,h⟩|⟨h13,h⟩
  obtain rfl:=sj h
  exact k269vadb (tF q269vadb 0 [0,1,2,3] (oD (dC q2)<|oD (dE q1)<|oD (dI q4)<|oD (dI q3)<|oD (dE q0)<|oD (dE q5)<|oB 1 h13 k))
  have k:=oB 1 h13 k
  rcases spl h with⟨h14,h⟩|⟨h14,h⟩
  obtain⟨r15,h16,h⟩:=obind h
  have k:=oA 2 (ix23 (o:=.no) h12)<|oA 1 (ix23 (o:=.no) h10)<|oB 1 h14 k
  rcases spl h with⟨h17,h⟩|⟨h17,h⟩
  obtain⟨x18,h19,h⟩:=obind h
  obtain⟨x20,h21,h⟩:=obind h
  obtain⟨r22,h23,h⟩:=obind h
  have k:=oA 2 (ix23 (o:=.no) h21)<|oA 1 (ix23 (o:=.no) h19)<|oK 1 [0,1,2,3] h17 (ih135vadb _ _ _ _ _ _ _ _ _ _ _ _ h16) k
  rcases spl h with⟨h24,h⟩|⟨h24,h⟩
  exact k269vadb (tH q269vadb 2 [] [0,1,2,3] [] [0,8,10,88,89] (oD (dT r3.2)<|oD (dT r1.2)<|oD (dC q2)<|oD (dE q1)<|oD (dI q4)<|oD (dI q3)<|oD (dE q0)<|oD (dE q5)<|oK 1 [0,1,2,3] h24 (ih135vadb _ _ _ _ _ _ _ _ _ _ _ _ h23) k) (ih269vadbLdf _ _ _ _ _ _ _ _ _ _ _ _ _ h))
  obtain rfl:=sj h
  exact k269vadb (tF q269vadb 1 [0,1,2,3] (oD (dC q2)<|oD (dE q1)<|oD (dI q4)<|oD (dI q3)<|oD (dE q0)<|oD (dE q5)<|oK 1 [0,1,2,3] h24 (ih135vadb _ _ _ _ _ _ _ _ _ _ _ _ h23) k))
  obtain rfl:=sj h
  exact k269vadb (tF q269vadb 1 [0,1,2,3] (oD (dC q2)<|oD (dE q1)<|oD (dI q4)<|oD (dI q3)<|oD (dE q0)<|oD (dE q5)<|oK 1 [0,1,2,3] h17 (ih135vadb _ _ _ _ _ _ _ _ _ _ _ _ h16) k))
  exact k269vadb (tH q269vadb 1 [] [0,1,2,3] [] [0,8,10,88,89] (oD (dT r3.2)<|oD (dT r1.2)<|oD (dC q2)<|oD (dE q1)<|oD (dI q4)<|oD (dI q3)<|oD (dE q0)<|oD (dE q5)<|oB 1 h14 k) (ih269vadbLdf _ _ _ _ _ _ _ _ _ _ _ _ _ h))
  have k:=oB 1 h8 k
  rcases spl h with⟨h25,h⟩|⟨h25,h⟩
  obtain⟨x26,h27,h⟩:=obind h
  obtain⟨x28,h29,h⟩:=obind h
  obtain⟨r30,h31,h⟩:=obind h
  have k:=oA 2 (ix23 (o:=.no) h29)<|oA 1 (ix23 (o:=.no) h27)<|oB 1 h25 k
  rcases spl h with⟨h32,h⟩|⟨h32,h⟩
  obtain⟨x33,h34,h⟩:=obind h
  obtain⟨x35,h36,h⟩:=obind h
  obtain⟨r37,h38,h⟩:=obind h
  have k:=oA 2 (ix23 (o:=.no) h36)<|oA 1 (ix23 (o:=.no) h34)<|oK 1 [0,1,2,3] h32 (ih135vadb _ _ _ _ _ _ _ _ _ _ _ _ h31) k
  rcases spl h with⟨h39,h⟩|⟨h39,h⟩
  exact k269vadb (tH q269vadb 2 [] [0,1,2,3] [] [0,8,10,88,89] (oD (dT r3.2)<|oD (dT r1.2)<|oD (dC q2)<|oD (dE q1)<|oD (dI q4)<|oD (dI q3)<|oD (dE q0)<|oD (dE q5)<|oK 1 [0,1,2,3] h39 (ih135vadb _ _ _ _ _ _ _ _ _ _ _ _ h38) k) (ih269vadbLdf _ _ _ _ _ _ _ _ _ _ _ _ _ h))
  obtain rfl:=sj h
  exact k269vadb (tF q269vadb 1 [0,1,2,3] (oD (dC q2)<|oD (dE q1)<|oD (dI q4)<|oD (dI q3)<|oD (dE q0)<|oD (dE q5)<|oK 1 [0,1,2,3] h39 (ih135vadb _ _ _ _ _ _ _ _ _ _ _ _ h38) k))
  obtain rfl:=sj h
  exact k269vadb (tF q269vadb 1 [0,1,2,3] (oD (dC q2)<|oD (dE q1)<|oD (dI q4)<|oD (dI q3)<|oD (dE q0)<|oD (dE q5)<|oK 1 [0,1,2,3] h32 (ih135vadb _ _ _ _ _ _ _ _ _ _ _ _ h31) k))
  exact k269vadb (tH q269vadb 1 [] [0,1,2,3] [] [0,8,10,88,89] (oD (dT r3.2)<|oD (dT r1.2)<|oD (dC q2)<|oD (dE q1)<|oD (dI q4)<|oD (dI q3)<|oD (dE q0)<|oD (dE q5)<|oB 1 h25 k) (ih269vadbLdf _ _ _ _ _ _ _ _ _ _ _ _ _ h))
  intro q0 q1 q2 q3 q4 q5 r1 r3 v89 vb0_3 vb3_0 vb3_1 r h
  rw[e269vadbLdf]at h
  rcases spl h with⟨h25,h⟩|⟨h25,h⟩
  obtain⟨x26,h27,h⟩:=obind h
  obtain⟨x28,h29,h⟩:=obind h
  obtain⟨r30,h31,h⟩:=obind h
  have k:=oA 1 (ix23 (o:=.no) h29)<|oA 0 (ix23 (o:=.no) h27)<|oB 0 h25 o0
  rcases spl h with⟨h32,h⟩|⟨h32,h⟩
  exact fun j=>lH 2 [] [0,1,2,3] [] [0,8,10,88,89] (oD (dT r3.2)<|oD (dT r1.2)<|oD (dC q2)<|oD (dE q1)<|oD (dI q4)<|oD (dI q3)<|oD (dE q0)<|oD (dE q5)<|oK 1 [0,1,2,3] h32 (ih135vadb _ _ _ _ _ _ _ _ _ _ _ _ h31) k) (ih269vadbLdf _ _ _ _ _ _ _ _ _ _ _ _ _ h)
  obtain rfl:=sj h
  exact fun j=>lF 1 [0,1,2,3] (oD (dC q2)<|oD (dE q1)<|oD (dI q4)<|oD (dI q3)<|oD (dE q0)<|oD (dE q5)<|oK 1 [0,1,2,3] h32 (ih135vadb _ _ _ _ _ _ _ _ _ _ _ _ h31) k)
  obtain rfl:=sj h
  exact fun j=>lF 0 [0,1,2,3] (oD (dC q2)<|oD (dE q1)<|oD (dI q4)<|oD (dI q3)<|oD (dE q0)<|oD (dE q5)<|oB 0 h25 o0)
theorem c135vadb{qq q0 q1 q2 q3 q4 q5 q6 q7 q8 p1 p2 r}(h:e135vadb qq q0 q1 q2 q3 q4 q5 q6 q7 q8 p1 p2=some r):K135vadb q0 q1 q2 q3 q4 q5 q6 q7 q8 p1 p2 r Ct:=(a135vadb_199vadc_268vadd_268vaddLde_269vadb_269vadbLdf _).1 _ _ _ _ _ _ _ _ _ _ _ _ h
def er4b(r:Bool×Int×Int×Int):Int:=if r.1=true then 9 else r.2.1
theorem er4b_8{r:Bool×Int×Int×Int}(h:er4b r=8):r.1=false∧r.2.1=8:=by
 unfold er4b at h
 split at h
 ·omega
 ·rename_i h1;exact⟨by simpa using h1,h⟩
def runC(l:List Ent)(m:Bool)(L U e:Int)(q:Nat)(x y:Tm):Option (Bool×Int×Int×Int):=match m with
 |false=>e135vadb q l l (evA l l.length 0) (l.map argsT) (l.map ownT) l L U e x y
 |true=>none
def runH(l:List Ent)(m:Bool)(L U e:Int)(q:Nat)(x y:Tm):Option (Bool×Int×Int×Int):=match m with
 |false=>e199vadc q l l (evA l l.length 0) (l.map argsT) (l.map ownT) l L U e x y
 |true=>none
def QX(X:Bool->Int->Prop)(R:Int->Int->Bool×Int×Int×Int)(k:Int):Prop:=∃b e,e≠8∧(e=0->X b k)∧(e≠0->b=false∧∀b k,¬X b k)∧R=fun L U=>(b,e,L,U)
def HX(g:Int->Int->Nat->Option (Bool×Int×Int×Int))(X:Bool->Int->Prop)(f:Int):Prop:=Ou g er4b (QX X) (∀b k,X b k->f<k) f
def HC(l:List Ent)(m:Bool)(x y:Tm)(f:Int):Prop:=HX (fun L U q=>runC l m L U 0 q x y) (Cv l m x y) f
theorem qx_bad{X:Bool->Int->Prop}{e k:Int}(h8:e≠8)(h0:e≠0)(h:∀b k,¬X b k):QX X (fun L U=>(false,e,L,U)) k:=⟨false,e,h8,fun h=>absurd h h0,fun _=>⟨rfl,h⟩,rfl⟩
theorem qx_ok{X:Bool->Int->Prop}{b:Bool}{k:Int}(h:X b k):QX X (fun L U=>(b,0,L,U)) k:=⟨b,0,by decide,fun _=>h,fun h=>absurd rfl h,rfl⟩
theorem ev_sameE(l:List Ent)(m:Bool)(x y:Tm)(e:Int)(he:e≠0)(L U:Int)(hmf:m=false):Evt (fun q=>runC l m L U e q x y) (false,e,L,U):=by
 have hp:Evt (fun q=>e198 q (Mach.mk l l (evA l l.length 0) (l.map argsT) (l.map ownT)) l L U e x y) (x,y,false,e,L,U):=by
  simp only[e198]
  exact Evt.ifT (by simpa using he) Evt.ret
 cases m with
 |false=>
  refine Evt.succ ?_
  simp only[runC,e135vadb]
  exact hp.bind (Evt.ifF rfl Evt.ret)
 |true=>cases hmf
theorem AllC.one{C:Tm->Tm->Bool->Int->Prop}{p:PE}{b:Bool}{k:Int}:AllC C [p] b k↔p.1.2=0∧p.2.2=0∧C p.1.1 p.2.1 b k:=by
 constructor
 ·rintro ⟨h1,h2,b1,k1,h3,⟨rfl,rfl,rfl⟩|⟨rfl,k2,⟨rfl,rfl⟩,rfl⟩⟩
  ·exact⟨h1,h2,h3⟩
  ·exact⟨h1,h2,by rwa[Int.add_zero]⟩
 ·rintro ⟨h1,h2,h3⟩
  refine⟨h1,h2,b,k,h3,?_⟩
  cases b with
  |false=>exact .inl ⟨rfl,rfl,rfl⟩
  |true=>exact .inr ⟨rfl,0,⟨rfl,rfl⟩,by omega⟩
theorem out_cons{l:List Ent}{p:PE}{r:List PE}{f:Int}{g:Int->Int->Nat->Option (Bool×Int×Int×Int)}{c:Int->Int->Int->Nat->Option (Bool×Int×Int×Int)}
  (h1:HX g (AllC (Cv l false) [p]) f) (hc:∀k,0≤k->k≤f->HX (fun L U q=>c 0 L U q) (AllC (Cv l false) r) (f-k)) :
  HX (fun L U q=>g L U q>>=fun r30=>if r30.1=true then c r30.2.1 r30.2.2.1 r30.2.2.2 q else some (false,r30.2.1,r30.2.2.1,r30.2.2.2)) (AllC (Cv l false) (p::r)) f:=by
 refine Ou.bind h1 (fun h b k ha=>?_) (fun r hr=>?_) ?_
 ·obtain⟨a1,a2,b1,k1,a3,a4⟩:=ha
  have:=h b1 k1 (AllC.one.2 ⟨a1,a2,a3⟩)
  rcases a4 with⟨-,-,a4⟩|⟨-,k2,a4,a5⟩
  ·omega
  ·have:=AllC.nn (fun _ _ _ _ h=>Cv.nn h) a4;omega
 ·have:=er4b_8 hr
  refine⟨_,Evt.ifF this.1 Evt.ret,?_⟩
  unfold er4b
  rw[if_neg (by simp)];exact this.2
 ·rintro R k k0 k1 ⟨b1,e1,h8,h0,hn,rfl⟩
  dsimp only
  by_cases e0:e1=0
  ·subst e0
   obtain⟨a1,a2,a3⟩:=AllC.one.1 (h0 rfl)
   cases b1 with
   |false=>exact Ou.ifF rfl (Ou.ret (by omega) (qx_ok ⟨a1,a2,false,k,a3,.inl ⟨rfl,rfl,by omega⟩⟩))
   |true=>
    refine Ou.ifT rfl ((hc k k0 k1).mono ?_ fun h b k' ha=>?_)
    ·rintro R n _ _ ⟨b,e,g8,g0,gn,rfl⟩
     refine⟨b,e,g8,fun he=>⟨a1,a2,true,k,a3,.inr ⟨rfl,n,g0 he,rfl⟩⟩,fun he=>⟨(gn he).1,fun b' k' ha=>?_⟩,rfl⟩
     obtain⟨-,-,b1,k1,a4,a5⟩:=ha
     obtain⟨rfl,rfl⟩:=a3.det a4
     rcases a5 with⟨a5,-⟩|⟨-,k2,a5,-⟩
     ·cases a5
     ·exact(gn he).2 _ _ a5
    ·obtain⟨-,-,b1,k1,a4,a5⟩:=ha
     obtain⟨rfl,rfl⟩:=a3.det a4
     rcases a5 with⟨a5,-⟩|⟨-,k2,a5,a6⟩
     ·cases a5
     ·have:=h _ _ a5;omega
  ·obtain⟨rfl,hno⟩:=hn e0
   refine Ou.ifF rfl (Ou.ret (by omega) (qx_bad h8 e0 fun b k ha=>?_))
   obtain⟨a1,a2,b1,k1,a3,-⟩:=ha
   exact hno b1 k1 (AllC.one.2 ⟨a1,a2,a3⟩)
theorem out_one{l:List Ent}{p q:Tm×Int}{f:Int}(hf:0≤f)(h8:p.2≠8∧q.2≠8)(h:p.2=0->q.2=0->HC l false p.1 q.1 f):HX (fun L U n=>runC l false L U (if p.2=0 then q.2 else p.2) n p.1 q.1) (AllC (Cv l false) [(p,q)]) f:=by
 by_cases h1:p.2=0
 ·rw[if_pos h1]
  by_cases h2:q.2=0
  ·rw[h2]
   refine(h h1 h2).mono ?_ fun hs b k ha=>hs b k (AllC.one.1 ha).2.2
   rintro R n _ _ ⟨b,e,g8,g0,gn,rfl⟩
   exact⟨b,e,g8,fun he=>AllC.one.2 ⟨h1,h2,g0 he⟩,fun he=>⟨(gn he).1,fun b k ha=>(gn he).2 b k (AllC.one.1 ha).2.2⟩,rfl⟩
  ·exact Ou.evt0 (fun L U=>ev_sameE l false p.1 q.1 q.2 h2 L U rfl) hf (qx_bad h8.2 h2 fun b k ha=>h2 (AllC.one.1 ha).2.1)
 ·rw[if_neg h1]
  exact Ou.evt0 (fun L U=>ev_sameE l false p.1 q.1 p.2 h1 L U rfl) hf (qx_bad h8.1 h1 fun b k ha=>h1 (AllC.one.1 ha).1)
theorem out_plain{l:List Ent}{a b:Tm}{f:Int}(h:HC l false a b f):HX (fun L U n=>runC l false L U 0 n a b) (AllC (Cv l false) [((a,0),(b,0))]) f:=by
 refine h.mono ?_ fun hs b k ha=>hs b k (AllC.one.1 ha).2.2
 rintro R n _ _ ⟨b,e,g8,g0,gn,rfl⟩
 exact⟨b,e,g8,fun he=>AllC.one.2 ⟨rfl,rfl,g0 he⟩,fun he=>⟨(gn he).1,fun b k ha=>(gn he).2 b k (AllC.one.1 ha).2.2⟩,rfl⟩
theorem out_nil{l:List Ent}{f:Int}(hf:0≤f):HX (fun L U _=>some (true,0,L,U)) (AllC (Cv l false) []) f:=Ou.ret hf (qx_ok ⟨rfl,rfl⟩)
theorem opnT_e8(t:Tm):(opnT t).2≠8:=by
 unfold opnT
 split
 ·simp
 ·dsimp only
  split
  ·split<;>simp
  ·exact liftT_e8 t 1 0
theorem opnT_ok{t:Tm}(hs:shapedT t=true):(opnT t).1.Ok:=by
 unfold opnT
 split
 ·rename_i h
  obtain⟨a,b,hab,-,hb⟩:=nth_sub2 (shapedT_spec hs).2.2 (.inr (.inl h))
  rw[hab];exact good_ok b hb
 ·exact ok_mk2 (liftT_ok t 1 0 (shaped_ok hs)) (leaf_ok _ _)
theorem opn4{t:Tm}(h:t.k=4):opnT t=(nth t.sub 1,0):=if_pos h
theorem opnN{t:Tm}(h:t.k≠4):opnT t=(.mk 5 0 [(liftT t 1 0).1,.mk 1 0 []],if (liftT t 1 0).2=0 then(if shapedT (.mk 5 0 [(liftT t 1 0).1,.mk 1 0 []])=true then 0 else 2)else(liftT t 1 0).2):=if_neg h
theorem ev_opened(M:Mach)(l:List Ent)(t:Tm)(hs:shapedT t=true)(L U e:Int):Evt (fun q=>e266 q M l L U e t) ((opnT t).1,if e=0 then(opnT t).2 else e):=by
 simp only[e266]
 by_cases h4:t.k=4
 ·obtain⟨a,b,hab,-,-⟩:=nth_sub2 (shapedT_spec hs).2.2 (.inr (.inl h4))
  refine Evt.ifT (by simp[h4]) (Evt.pure (gidx_nth (by omega) (by rw[hab];simp)) (Evt.ret.eq ?_))
  rw[opn4 h4]
  by_cases he:e=0
  ·simp[he]
  ·simp[he]
 ·rw[opnN h4]
  refine Evt.ifF (by simp[h4]) ((ev_Up t 1 (shaped_ok hs)).bind ((ev_Var 0).bind ((ev_App _ _).bind ?_)))
  dsimp only
  by_cases h1:(liftT t 1 0).2=0
  ·refine Evt.ifT (by simp[h1]) ((ev_Shaped _ (ok_mk2 (liftT_ok t 1 0 (shaped_ok hs)) (leaf_ok _ _))).bind ?_)
   by_cases h2:shapedT (.mk 5 0 [(liftT t 1 0).1,.mk 1 0 []])=true
   ·refine Evt.ifT h2 ?_
    by_cases he:e=0
    ·exact Evt.ifT (by simp[he]) (Evt.ret.eq (by simp[h1,h2,he]))
    ·exact Evt.ifF (by simp[he]) (Evt.ret.eq (by simp[he]))
   ·refine Evt.ifF (by simpa using h2) ?_
    by_cases he:e=0
    ·exact Evt.ifT (by simp[he]) (Evt.ret.eq (by simp[h1,h2,he]))
    ·exact Evt.ifF (by simp[he]) (Evt.ret.eq (by simp[he]))
  ·refine Evt.ifF (by simp[h1]) ?_
   by_cases he:e=0
   ·exact Evt.ifT (by simp[he]) (Evt.ret.eq (by simp[h1,he]))
   ·exact Evt.ifF (by simp[he]) (Evt.ret.eq (by simp[he]))
def recX(l:List Ent)(t:Tm):Int×List Tm×Bool:=if isRec l t then((hdT t).n,arT t,true)else(0,[],false)
theorem ev_Con(l:List Ent)(t:Tm)(hs:shapedT t=true):Evt (fun q=>e165 q (machT l) t) (conX l t):=by
 simp only[e165]
 refine(ev_Shaped t (shaped_ok hs)).bind (Evt.ifT hs (((ev_Copy t (shaped_ok hs)).eq (by unfold copT;rw[if_pos hs])).bind ((ev_wcon l t hs).bind Evt.ret)))
theorem ev_record{N:ByteArray->Bool}(l:List Ent)(hE:AllE N l)(t:Tm)(hs:shapedT t=true)(L U e:Int):Evt (fun q=>e267 q (machT l) l L U e t) (recX l t):=by
 simp only[e267]
 refine(ev_Con l t hs).bind ?_
 by_cases h:isCon l t
 ·have hcs:=isCon_spec hs h
  obtain⟨A,z,a1,-,-,a4,a5,a6,a7,f0,f1,-⟩:=con_facts hE hcs.1 hcs.2.1 hcs.2.2.1
  have c:conX l t=((hdT t).n,arT t,true):=if_pos h
  rw[c]
  refine Evt.ifT rfl (Evt.pure (gidx_ent hcs.1 hcs.2.1) (Evt.pure (gidx_ent f0 (show (ent l (hdT t).n).fam<_ by omega)) ?_))
  by_cases h2:fldsT l (hdT t).n=[]
  ·have r:recX l t=(0,[],false):=if_neg (fun h=>h.2 h2)
   rw[r]
   have h3:(ent l (ent l (hdT t).n).fam).fields=[]:=h2
   exact Evt.ifT (by rw[h3];rfl) Evt.ret
  ·have r:recX l t=((hdT t).n,arT t,true):=if_pos ⟨h,h2⟩
   rw[r]
   have h3:(ent l (ent l (hdT t).n).fam).fields≠[]:=h2
   have:=List.length_pos_iff.2 h3
   exact Evt.ifF (by simp;omega) Evt.ret
 ·have c:conX l t=(0,[],false):=if_neg h
  have r:recX l t=(0,[],false):=if_neg (fun h'=>h h'.1)
  rw[c,r]
  exact Evt.ifF rfl Evt.ret
theorem rec_facts{N:ByteArray->Bool}{l:List Ent}{c:Int}(hE:AllE N l)(h0:0≤c)(h1:c<l.length)(hk:(ent l c).kind=2)(hf:fldsT l c≠[]) :
  (pisT (ent l c).type:Int)=(ent l c).pars+(fldsT l c).length∧0≤(ent l c).pars∧0≤(ent l c).fam∧(ent l c).fam<l.length∧∀n∈fldsT l c,isT l n 4=true:=by
 obtain⟨A,z,a1,-,-,a4,a5,a6,a7,f0,f1,fk,fp,fi,fs,-,q0,q1⟩:=con_facts hE h0 h1 hk
 have hft:=(entryT_spec (hE.2 _ f0 (by omega))).2.1 fk
 have hcn:=(entryT_spec (hE.2 c h0 h1)).2.2.1 hk
 unfold familyT at hft
 simp only[Bool.and_eq_true,Bool.or_eq_true,decide_eq_true_eq]at hft
 have hne:(ent l (ent l c).fam).fields.length≠0:=fun h=>hf (List.length_eq_zero_iff.1 h)
 have hD:=hft.2.resolve_left hne
 have hC:=hft.1.2
 unfold famD at hD
 unfold famC at hC
 simp only[Bool.and_eq_true,beq_iff_eq,decide_eq_true_eq]at hD hC
 obtain⟨⟨⟨⟨⟨d1,d2⟩,d3⟩,d4⟩,d5⟩,d6⟩:=hD
 unfold conT ownedT ownB at hcn
 simp only[Bool.and_eq_true,decide_eq_true_eq,beq_iff_eq]at hcn
 have hown:ownL l (ent l c)=(ent l (ent l c).fam).cons:=by unfold ownL;rw[if_neg (by omega)]
 have hpl:=hcn.1.2
 rw[hown]at hpl
 obtain⟨w,hw⟩:∃w,(ent l (ent l c).fam).cons=[w]:=by
  rcases hc:(ent l (ent l c).fam).cons with _|⟨w,_|⟨v,r⟩⟩<;>rw[hc]at d2<;>simp at d2
  exact⟨w,rfl⟩
 rw[hw]at hC hpl
 have hwc:w=c:=by
  have h3:=hpl.2
  have h4:(ent l c).place.toNat=0:=by have:=hpl.1.2;simp at this;omega
  rw[h4]at h3
  simpa using h3
 have hrun:=hC.1.2
 rw[runT]at hrun
 simp only[Bool.and_eq_true,beq_iff_eq]at hrun
 have hc1:c=(ent l c).fam+1:=by omega
 rw[←hc1,a1]at d6
 refine⟨?_,a6,f0,by omega,?_⟩
 ·rw[←a4,fp];exact d6
 ·have key:∀(r:List Int) (k:Int),memT l (ent l c).fam 4 r k=true->∀n∈r,isT l n 4=true:=by
   intro r
   induction r with
   |nil=>intro k _ n hn;cases hn
   |cons a r ih=>
    intro k h n hn
    rw[memT]at h
    simp only[Bool.and_eq_true]at h
    rcases List.mem_cons.1 hn with rfl|hn
    ·exact h.1.1.1
    ·exact ih _ h.2 n hn
  exact key _ 0 d4
theorem fld_get{l:List Ent}{c:Int}{i:Nat}(h:i<(fldsT l c).length):gidx (ent l (ent l c).fam).fields (i:Int)=some (((fldsT l c)[i]?).getD (-1)):=by
 unfold gidx
 rw[if_pos (by omega),show (i:Int).toNat=i by omega]
 show (fldsT l c)[i]? = _
 rw[List.getElem?_eq_getElem h];rfl
theorem partC_e8(l:List Ent)(t:Tm)(c:Int)(i:Nat)(pars:List Tm):(partC l t c i pars).2≠8:=by
 unfold partC
 split
 ·simp
 ·dsimp only;split<;>simp
theorem partC_ok{l:List Ent}{t:Tm}(hs:shapedT t=true){c:Int}{i:Nat}{pars:List Tm}(hp:OkA pars):(partC l t c i pars).1.Ok:=by
 unfold partC
 split
 ·exact nth_all (Q:=Tm.Ok) (fun a ha=>shaped_ok (ar_shaped hs ha)) zT_ok
 ·exact ok_mk2 (apT_ok _ _ (leaf_ok _ _) hp) (shaped_ok hs)
theorem ev_part{N:ByteArray->Bool}(l:List Ent)(hE:AllE N l)(t:Tm)(hs:shapedT t=true)(L U e c:Int)(i:Nat)(pars:List Tm)(h0:0≤c)(h1:c<l.length)(hk:(ent l c).kind=2)(hi:i<(fldsT l c).length)(hp:(pars.length:Int)=(ent l c).pars)(hop:OkA pars) :
  Evt (fun q=>e313 q (machT l) l L U e t c (i:Int) pars) ((partC l t c i pars).1,if e=0 then(partC l t c i pars).2 else e):=by
 have hf:fldsT l c≠[]:=fun h=>by rw[h]at hi;simp at hi
 obtain⟨r1,r2,r3,r4,-⟩:=rec_facts hE h0 h1 hk hf
 have hpl:(ent l c).pars≤24∧pisT (ent l c).type≤24:=by
  obtain⟨A,z,a1,-,-,a4,a5,a6,a7,-⟩:=con_facts hE h0 h1 hk
  omega
 have tail:Evt (fun q=>gidx l c>>=fun x7=>gidx l x7.fam>>=fun x9=>gidx x9.fields (i:Int)>>=fun x11=>e152 q x11>>=fun r13=>e151 q r13 pars>>=fun r15=>e156 q r15 t>>=fun r17=>if (e==0)=true then e89 q r17>>=fun r20=>if r20=true then some (r17,e)else some (r17,2)else some (r17,e))
   (.mk 5 0 [apT (.mk 6 (((fldsT l c)[i]?).getD (-1)) []) pars,t],if e=0 then(if shapedT (.mk 5 0 [apT (.mk 6 (((fldsT l c)[i]?).getD (-1)) []) pars,t])=true then 0 else 2)else e):=by
  refine Evt.pure (gidx_ent h0 h1) (Evt.pure (gidx_ent r3 r4) (Evt.pure (fld_get hi) (Evt.bind (a:=.mk 6 (((fldsT l c)[i]?).getD (-1)) []) (Evt.mk fun _=>rfl) ((ev_Apply _ pars (by omega)).bind ((ev_App _ t).bind ?_)))))
  by_cases he:e=0
  ·refine Evt.ifT (by simp[he]) ((ev_Shaped _ (ok_mk2 (apT_ok _ _ (leaf_ok _ _) hop) (shaped_ok hs))).bind ?_)
   by_cases h2:shapedT (.mk 5 0 [apT (.mk 6 (((fldsT l c)[i]?).getD (-1)) []) pars,t])=true
   ·exact Evt.ifT h2 (Evt.ret.eq (by simp[h2,he]))
   ·exact Evt.ifF (by simpa using h2) (Evt.ret.eq (by simp[h2,he]))
  ·exact Evt.ifF (by simp[he]) (Evt.ret.eq (by simp[he]))
 simp only[e313]
 refine(ev_record l hE t hs L U e).bind ?_
 by_cases h:isRec l t
 ·have r:recX l t=((hdT t).n,arT t,true):=if_pos h
  rw[r]
  refine Evt.ifT rfl ?_
  by_cases h2:(hdT t).n=c
  ·have hpc:partC l t c i pars=(nth (arT t) ((pars.length+i:Nat):Int),0):=if_pos ⟨h,h2⟩
   rw[hpc]
   have hal:(arT t).length=pisT (ent l c).type:=by rw[←h2];exact h.1.2
   refine Evt.ifT (by simp[h2]) ?_
   rw[w64_id (x:=(pars.length:Int)+i) (by omega) (by omega),show (pars.length:Int)+(i:Int)=((pars.length+i:Nat):Int) by omega]
   refine Evt.pure (gidx_nth (by omega) (by show _<((arT t).length:Int);omega)) (Evt.ret.eq ?_)
   by_cases he:e=0
   ·simp[he]
   ·simp[he]
  ·have hpc:partC l t c i pars=(.mk 5 0 [apT (.mk 6 (((fldsT l c)[i]?).getD (-1)) []) pars,t],if shapedT (.mk 5 0 [apT (.mk 6 (((fldsT l c)[i]?).getD (-1)) []) pars,t])=true then 0 else 2):=if_neg (fun h'=>h2 h'.2)
   rw[hpc]
   exact Evt.ifF (by simpa using h2) tail
 ·have r:recX l t=(0,[],false):=if_neg h
  have hpc:partC l t c i pars=(.mk 5 0 [apT (.mk 6 (((fldsT l c)[i]?).getD (-1)) []) pars,t],if shapedT (.mk 5 0 [apT (.mk 6 (((fldsT l c)[i]?).getD (-1)) []) pars,t])=true then 0 else 2):=if_neg (fun h'=>h h'.1)
  rw[r,hpc]
  exact Evt.ifF rfl tail
def er6(r:Tm×Tm×Bool×Int×Int×Int):Int:=if r.2.2.1=true then 9 else r.2.2.2.1
theorem er6_8{r:Tm×Tm×Bool×Int×Int×Int}(h:er6 r=8):r.2.2.1=false∧r.2.2.2.1=8:=by
 unfold er6 at h
 split at h
 ·omega
 ·rename_i h1;exact⟨by simpa using h1,h⟩
def QP(l:List Ent)(x y:Tm)(R:Int->Int->Tm×Tm×Bool×Int×Int×Int)(k:Int):Prop:=
 (∃x' k1 y' k2,RightM l x∧RightM l y∧Br l x x' 0 k1∧Br l y y' 0 k2∧k=k1+k2∧R=fun L U=>(x',y',true,0,L,U)) ∨
 (∃a b e,e≠0∧e≠8∧(∀m b k,¬Cv l m x y b k)∧R=fun L U=>(a,b,false,e,L,U))
theorem out_cbring{N:ByteArray->Bool}(l:List Ent)(hE:AllE N l)(he:∀e∈l,EOk e)(x:Tm)(ho:x.Ok)(f:Int)(hf:0≤f):Ou (fun L U q=>e265 q (machT l) l L U 0 x) er4 (QBR l x) (RightM l x∧∀y e k,Br l x y e k->f<k) f:=by
 simp only[e265]
 refine Ou.bind (out_Bring l hE he x ho f hf) id (fun r hr=>⟨_,Evt.ifT rfl Evt.ret,hr⟩) ?_
 rintro R k k0 k1 hQ
 have hQ':=hQ
 rcases hQ with⟨hR,rfl,rfl⟩|⟨hR,y,e,hbr,rfl⟩
 ·exact Ou.ifT rfl (Ou.ret (by omega) (by rw[Int.add_zero];exact hQ'))
 ·exact Ou.ifT rfl (Ou.ret (by omega) (by rw[Int.add_zero];exact hQ'))
theorem out_pair{N:ByteArray->Bool}(l:List Ent)(hE:AllE N l)(he:∀e∈l,EOk e)(x y:Tm)(hx:x.Ok)(hy:y.Ok)(f:Int)(hf:0≤f):Ou (fun L U q=>e198 q (machT l) l L U 0 x y) er6 (QP l x y) (∀m b k,Cv l m x y b k->f<k) f:=by
 simp only[e198]
 refine Ou.ifF rfl (Ou.bind (out_cbring l hE he x hx f hf) (fun h m b k hc=>?_) (fun r hr=>?_) ?_)
 ·obtain⟨-,-,x',k1,y',k2,k3,h1,h2,h3,rfl⟩:=hc.inv
  have:=h.2 _ _ _ h1
  have:=h2.nn
  have:=h3.nn (fun _ _ _ _ _ h=>Cv.nn h)
  omega
 ·refine⟨_,Evt.ifT (by show (r.2.1 != 0)=true;rw[show r.2.1=8 from hr];decide) Evt.ret,?_⟩
  unfold er6
  rw[if_neg (by simp)];exact hr
 ·rintro R k k0 k1 (⟨hR,rfl,rfl⟩|⟨hR,x',e,hbr,rfl⟩)
  ·exact Ou.ifT rfl (Ou.ret (by omega) (.inr ⟨_,_,5,by decide,by decide,fun m b k hc=>hR hc.inv.1,rfl⟩))
  ·dsimp only
   by_cases e0:e=0
   ·subst e0
    rw[if_pos rfl]
    refine Ou.ifF rfl (Ou.bind (out_cbring l hE he y hy (f-k) (by omega)) (fun h m b k' hc=>?_) (fun r hr=>⟨_,Evt.ret,?_⟩) ?_)
    ·obtain⟨-,-,x1,k1,y',k2,k3,h1,h2,h3,rfl⟩:=hc.inv
     obtain⟨-,-,rfl⟩:=hbr.det h1
     have:=h.2 _ _ _ h2
     have:=h3.nn (fun _ _ _ _ _ h=>Cv.nn h)
     omega
    ·have hr':r.2.1=8:=hr
     unfold er6
     dsimp only
     rw[hr',if_neg (by decide)]
    ·rintro R n n0 n1 (⟨hR2,rfl,rfl⟩|⟨hR2,y',e,hbr2,rfl⟩)
     ·exact Ou.ret (by omega) (.inr ⟨x',zT,5,by decide,by decide,fun m b k hc=>hR2 hc.inv.2.1,rfl⟩)
     ·by_cases e1:e=0
      ·subst e1
       exact Ou.ret (by omega) (.inl ⟨x',k,y',n,hR,hR2,hbr,hbr2,by omega,by funext L U;simp⟩)
      ·refine Ou.ret (by omega) (.inr ⟨x',zT,e,e1,hbr2.e8 hE hR2.shaped,fun m b k' hc=>?_,by simp[e1,show (e==0)=false by simpa using e1]⟩)
       obtain⟨-,-,x1,k1,y1,k2,k3,h1,h2,h3,-⟩:=hc.inv
       exact e1 (hbr2.det h2).2.1.symm
   ·rw[if_neg e0]
    refine Ou.ifT (by simpa using e0) (Ou.ret (by omega) (.inr ⟨zT,y,e,e0,hbr.e8 hE hR.shaped,fun m b k' hc=>?_,rfl⟩))
    obtain⟨-,-,x1,k1,y1,k2,k3,h1,-⟩:=hc.inv
    exact e0 (hbr.det h1).2.1.symm
def BC(l:List Ent)(f:Int)(W:Nat):Prop:=∀m p q,p.Ok->q.Ok->wtT l p+wtT l q<W->∀g,0≤g->g≤f->m=false->HC l m p q g
theorem BC.le{l:List Ent}{f g:Int}{W:Nat}(h:BC l f W)(hg:g≤f):BC l g W:=fun m p q a b c d e k=>h m p q a b c d e (by omega)
theorem HX.imp{g g':Int->Int->Nat->Option (Bool×Int×Int×Int)}{X:Bool->Int->Prop}{f:Int}(h:HX g X f)(k:∀L U r,Evt (g L U) r->Evt (g' L U) r):HX g' X f:=Ou.imp h k
theorem HX.same{g:Int->Int->Nat->Option (Bool×Int×Int×Int)}{X:Bool->Int->Prop}{f:Int}(h:HX g X f):HX (fun L U q=>g L U q>>=fun r=>some (r.1,r.2.1,r.2.2.1,r.2.2.2)) X f:=h.imp fun L U r h=>h.bind Evt.ret
theorem out_spL(l:List Ent)(x y:Tm×List Tm)(W:Nat)(hl:x.2.length≤8192)(hxy:y.2.length=x.2.length)(hox:OkA x.2)(hoy:OkA y.2)(hw:∀a∈x.2,∀b∈y.2,wtT l a+wtT l b<W):∀(r s:List Tm) (v:Nat) (f:Int),x.2.drop v=r->y.2.drop v=s->0≤f->BC l f W ->
  HX (fun L U q=>e269vadbLdf q l l (evA l l.length 0) (l.map argsT) (l.map ownT) l x y (v:Int) 0 L U) (AllC (Cv l false) (argP r s)) f
 | [],s,v,f,hd,hs,hf,hB=>by
  refine Ou.succ ?_
  simp only[e269vadbLdf]
  have e:argP [] s=[]:=by cases s<;>rfl
  rw[e]
  exact Ou.ifF (drop_nil hd) (out_nil hf)
 |a::r,[],v,f,hd,hs,hf,hB=>by
  have hlt:=drop_lt hd
  have:y.2.length≤v:=List.drop_eq_nil_iff.1 hs
  omega
 |a::r,b::s,v,f,hd,hs,hf,hB=>by
  have hlt:=drop_lt hd
  have hma:a∈x.2:=by
   have:a∈x.2.drop v:=by rw[hd];simp
   exact List.mem_of_mem_drop this
  have hmb:b∈y.2:=by
   have:b∈y.2.drop v:=by rw[hs];simp
   exact List.mem_of_mem_drop this
  refine Ou.succ ?_
  simp only[e269vadbLdf]
  refine Ou.ifT (drop_dec hd) (Ou.pure (drop_idx hd) (Ou.pure (drop_idx hs) ?_))
  rw[w64_nat v (by omega)]
  exact out_cons (c:=fun e L U q=>e269vadbLdf q l l (evA l l.length 0) (l.map argsT) (l.map ownT) l x y ((v+1:Nat):Int) e L U) (out_plain (hB false a b (hox a hma) (hoy b hmb) (hw a hma b hmb) f hf (Int.le_refl f) rfl))
   fun k k0 k1=>out_spL l x y W hl hxy hox hoy hw r s (v+1) (f-k) (drop_next hd) (drop_next hs) (by omega) (hB.le (by omega))
theorem ans_ret{l:List Ent}{m b:Bool}{f:Int}(hf:0≤f):HX (fun L U _=>some (b,0,L,U)) (HdR (Cv l) m (.ans b)) f:=Ou.ret hf (qx_ok ⟨rfl,rfl⟩)
theorem out_spines(l:List Ent)(m:Bool)(x y:Tm)(hsx:shapedT x=true)(hsy:shapedT y=true)(f:Int)(hf:0≤f)(hB:BC l f (wtT l x+wtT l y)):HX (fun L U q=>e269vadb q l l (evA l l.length 0) (l.map argsT) (l.map ownT) l L U 0 x y) (HdR (Cv l) m (spnC x y)) f:=by
 have hgx:=(shapedT_spec hsx).2.2
 have hgy:=(shapedT_spec hsy).2.2
 have hgh:=(shapedT_spec (hd_shaped hsx)).2.2
 have hgk:=(shapedT_spec (hd_shaped hsy)).2.2
 have hox:OkA (arT x):=fun a ha=>shaped_ok (ar_shaped hsx ha)
 have hoy:OkA (arT y):=fun a ha=>shaped_ok (ar_shaped hsy ha)
 have hlx:(arT x).length≤8192:=by
  have h:=shapedT_spec hsx
  have:=ar_len _ h.2.2
  omega
 have hwx:=wt_spine l x hgx
 have hwy:=wt_spine l y hgy
 have hph:=wt_pos l (hdT x)
 have hpk:=wt_pos l (hdT y)
 have hw:∀a∈arT x,∀b∈arT y,wtT l a+wtT l b<wtT l x+wtT l y:=fun a ha b hb=>by
  have:=wt_mem l ha
  have:=wt_mem l hb
  omega
 refine Ou.succ ?_
 simp only[e269vadb]
 refine Ou.evt (ev_Spine x hsx) (Ou.evt (ev_Spine y hsy) ?_)
 dsimp only
 by_cases c1:(hdT x).k=(hdT y).k
 ·refine Ou.ifF (by simp[c1]) ?_
  by_cases c2:(hdT x).n=(hdT y).n
  ·refine Ou.ifF (by simp[c2]) ?_
   by_cases c3:(arT x).length=(arT y).length
   ·refine Ou.ifF (by simp[c3]) ?_
    have loop:∀g,0≤g->g≤f->HX (fun L U q=>e269vadbLdf q l l (evA l l.length 0) (l.map argsT) (l.map ownT) l (hdT x,arT x) (hdT y,arT y) 0 0 L U) (AllC (Cv l false) (argP (arT x) (arT y))) g:=fun g g0 g1=>out_spL l (hdT x,arT x) (hdT y,arT y) _ hlx c3.symm hox hoy hw (arT x) (arT y) 0 g rfl rfl g0 (hB.le g1)
    by_cases c4:(hdT x).k=7
    ·obtain⟨s,hs⟩:∃s,(hdT x).sub=[s]:=by
      revert hgh c4
      generalize hdT x=w
      intro hg h7
      obtain⟨kk,nn,ss⟩:=w
      obtain⟨s,hs,-⟩:=(head_spec (goodT_mk hg).1).2.2.2.2.2.2.1 h7
      exact⟨s,hs⟩
     obtain⟨s',hs'⟩:∃s,(hdT y).sub=[s]:=by
      have c4':(hdT y).k=7:=by omega
      revert hgk c4'
      generalize hdT y=w
      intro hg h7
      obtain⟨kk,nn,ss⟩:=w
      obtain⟨s,hs,-⟩:=(head_spec (goodT_mk hg).1).2.2.2.2.2.2.1 h7
      exact⟨s,hs⟩
     refine Ou.ifT (by simp[c4]) (Ou.pure (gidx_nth (by omega) (by rw[hs];simp)) (Ou.pure (gidx_nth (by omega) (by rw[hs'];simp)) ?_))
     by_cases c5:(nth (hdT x).sub 0).n=(nth (hdT y).sub 0).n
     ·refine Ou.ifF (by simp[c5]) (Ou.ifF (by simp[c4]) ?_)
      have e:spnC x y = .all (argP (arT x) (arT y)):=by
       unfold spnC spnP
       rw[if_neg (by omega),if_neg (by omega),List.nil_append]
      rw[e]
      exact loop f hf (Int.le_refl f)
     ·refine Ou.ifT (by simpa using c5) ?_
      have e:spnC x y = .ans false:=by unfold spnC;rw[if_pos (.inr (.inr (.inr ⟨c4,c5⟩)))]
      rw[e];exact ans_ret hf
    ·refine Ou.ifF (by simpa using c4) ?_
     by_cases c5:(hdT x).k=3
     ·have c5':(hdT y).k=3:=by omega
      obtain⟨a,b,hab,hga,hgb⟩:=nth_sub2 hgh (.inl c5)
      obtain⟨a',b',hab',hga',hgb'⟩:=nth_sub2 hgk (.inl c5')
      have ea:nth (hdT x).sub 0=a:=by rw[hab];rfl
      have eb:nth (hdT x).sub 1=b:=by rw[hab];rfl
      have ea':nth (hdT y).sub 0=a':=by rw[hab'];rfl
      have eb':nth (hdT y).sub 1=b':=by rw[hab'];rfl
      have e:spnC x y = .all (((a,0),(a',0))::((b,0),(b',0))::argP (arT x) (arT y)):=by
       unfold spnC spnP
       rw[if_neg (by omega),if_pos c5,ea,eb,ea',eb'];rfl
      have w1:=wt_sub l (hdT x)
      have w2:=wt_sub l (hdT y)
      rw[hab,wtL,wtL,wtL]at w1
      rw[hab',wtL,wtL,wtL]at w2
      have v1:=(nw_pos l (hdT x).k (hdT x).n).1
      have v2:=(nw_pos l (hdT y).k (hdT y).n).1
      rw[e]
      refine Ou.ifT (by simp[c5]) (Ou.pure (a:=a) (by rw[hab];rfl) (Ou.pure (a:=a') (by rw[hab'];rfl) ?_))
      refine out_cons (c:=fun e L U q=>gidx (hdT x).sub 1>>=fun x33=>gidx (hdT y).sub 1>>=fun x35=>e135vadb q l l (evA l l.length 0) (l.map argsT) (l.map ownT) l L U e x33 x35>>=fun r37=>if r37.1=true then e269vadbLdf q l l (evA l l.length 0) (l.map argsT) (l.map ownT) l (hdT x,arT x) (hdT y,arT y) 0 r37.2.1 r37.2.2.1 r37.2.2.2 else some (false,r37.2.1,r37.2.2.1,r37.2.2.2)) (out_plain (hB false a a' (good_ok a hga) (good_ok a' hga') (by omega) f hf (Int.le_refl f) rfl)) fun k k0 k1=>?_
      refine Ou.pure (a:=b) (by rw[hab];rfl) (Ou.pure (a:=b') (by rw[hab'];rfl) ?_)
      exact out_cons (c:=fun e L U q=>e269vadbLdf q l l (evA l l.length 0) (l.map argsT) (l.map ownT) l (hdT x,arT x) (hdT y,arT y) 0 e L U) (out_plain (hB false b b' (good_ok b hgb) (good_ok b' hgb') (by omega) (f-k) (by omega) (by omega) rfl)) fun k' k0' k1'=>loop (f-k-k') (by omega) (by omega)
     ·refine Ou.ifF (by simpa using c5) ?_
      have e:spnC x y = .all (argP (arT x) (arT y)):=by
       unfold spnC spnP
       rw[if_neg (by omega),if_neg c5,List.nil_append]
      rw[e]
      exact loop f hf (Int.le_refl f)
   ·refine Ou.ifT (by simp;omega) ?_
    have e:spnC x y = .ans false:=by unfold spnC;rw[if_pos (.inr (.inr (.inl c3)))]
    rw[e];exact ans_ret hf
  ·refine Ou.ifT (by simpa using c2) ?_
   have e:spnC x y = .ans false:=by unfold spnC;rw[if_pos (.inr (.inl c2))]
   rw[e];exact ans_ret hf
 ·refine Ou.ifT (by simpa using c1) ?_
  have e:spnC x y = .ans false:=by unfold spnC;rw[if_pos (.inl c1)]
  rw[e];exact ans_ret hf
theorem out_fldL{N:ByteArray->Bool}(l:List Ent)(hE:AllE N l)(x y:Tm)(c:Int)(pars:List Tm)(W:Nat)(hsx:shapedT x=true)(hsy:shapedT y=true)(h0:0≤c)(h1:c<l.length)(hk:(ent l c).kind=2)(hp:(pars.length:Int)=(ent l c).pars)(hop:OkA pars)
  (hw:∀i,i<(fldsT l c).length->wtT l (partC l x c i pars).1+wtT l (partC l y c i pars).1<W):∀(m i:Nat) (f:Int),i+m=(fldsT l c).length->0≤f->BC l f W ->
  HX (fun L U q=>e268vaddLde q l l (evA l l.length 0) (l.map argsT) (l.map ownT) l x y c pars (ent l (ent l c).fam) (i:Int) 0 L U) (AllC (Cv l false) (fldP l x y c pars m i)) f
 |0,i,f,hm,hf,hB=>by
  refine Ou.succ ?_
  simp only[e268vaddLde]
  have hm':i=(ent l (ent l c).fam).fields.length:=hm
  exact Ou.ifF (decide_eq_false (by omega)) (out_nil hf)
 |m+1,i,f,hm,hf,hB=>by
  have hi:i<(fldsT l c).length:=by omega
  have hne:fldsT l c≠[]:=fun h=>by rw[h]at hi;simp at hi
  have hlen:(fldsT l c).length≤24:=by
   have r:=rec_facts hE h0 h1 hk hne
   obtain⟨A,z,a1,-,-,a4,a5,a6,a7,-⟩:=con_facts hE h0 h1 hk
   omega
  refine Ou.succ ?_
  simp only[e268vaddLde]
  refine Ou.ifT (decide_eq_true (by show (i:Int)<((fldsT l c).length:Int);omega)) ?_
  have e1:=fun L U=>ev_part l hE x hsx L U 0 c i pars h0 h1 hk hi hp hop
  have e2:=fun L U=>ev_part l hE y hsy L U (partC l x c i pars).2 c i pars h0 h1 hk hi hp hop
  refine HX.imp (g:=fun L U q=>runC l false L U (if (partC l x c i pars).2=0 then(partC l y c i pars).2 else(partC l x c i pars).2) q (partC l x c i pars).1 (partC l y c i pars).1>>=fun r10=>if r10.1=true then e268vaddLde q l l (evA l l.length 0) (l.map argsT) (l.map ownT) l x y c pars (ent l (ent l c).fam) ((i+1:Nat):Int) r10.2.1 r10.2.2.1 r10.2.2.2 else some (false,r10.2.1,r10.2.2.1,r10.2.2.2)) ?_ fun L U r h=>?_
  ·exact out_cons (c:=fun e L U q=>e268vaddLde q l l (evA l l.length 0) (l.map argsT) (l.map ownT) l x y c pars (ent l (ent l c).fam) ((i+1:Nat):Int) e L U)
    (out_one (p:=partC l x c i pars) (q:=partC l y c i pars) hf ⟨partC_e8 _ _ _ _ _,partC_e8 _ _ _ _ _⟩ fun _ _=>hB false _ _ (partC_ok hsx hop) (partC_ok hsy hop) (hw i hi) f hf (Int.le_refl f) rfl)
    fun k k0 k1=>out_fldL l hE x y c pars W hsx hsy h0 h1 hk hp hop hw m (i+1) (f-k) (by omega) (by omega) (hB.le (by omega))
  ·have a1:=e1 L U
   rw[if_pos rfl]at a1
   rw[w64_nat i (by omega)]
   exact a1.bind ((e2 L U).bind h)
theorem out_pi{l:List Ent}{m:Bool}{a a' c1 c1':Tm}{f:Int}{g:Int->Int->Nat->Option (Bool×Int×Int×Int)}{c:Int->Int->Int->Nat->Option (Bool×Int×Int×Int)}
  (h1:HX g (Cv l false a a') f) (hc:∀k,0≤k->k≤f->HX (fun L U q=>c 0 L U q) (Cv l m c1 c1') (f-k)) :
  HX (fun L U q=>g L U q>>=fun r30=>if r30.1=true then c r30.2.1 r30.2.2.1 r30.2.2.2 q else some (false,r30.2.1,r30.2.2.1,r30.2.2.2)) (HdR (Cv l) m (.pi a a' c1 c1')) f:=by
 refine Ou.bind h1 (fun h b k ha=>?_) (fun r hr=>?_) ?_
 ·obtain⟨b1,k1,a3,a4⟩:=ha
  have:=h b1 k1 a3
  rcases a4 with⟨-,-,a4⟩|⟨-,k2,a4,a5⟩
  ·omega
  ·have:=a4.nn;omega
 ·have:=er4b_8 hr
  refine⟨_,Evt.ifF this.1 Evt.ret,?_⟩
  unfold er4b
  rw[if_neg (by simp)];exact this.2
 ·rintro R k k0 k1 ⟨b1,e1,h8,h0,hn,rfl⟩
  dsimp only
  by_cases e0:e1=0
  ·subst e0
   have a3:=h0 rfl
   cases b1 with
   |false=>exact Ou.ifF rfl (Ou.ret (by omega) (qx_ok ⟨false,k,a3,.inl ⟨rfl,rfl,by omega⟩⟩))
   |true=>
    refine Ou.ifT rfl ((hc k k0 k1).mono ?_ fun h b k' ha=>?_)
    ·rintro R n _ _ ⟨b,e,g8,g0,gn,rfl⟩
     refine⟨b,e,g8,fun he=>⟨true,k,a3,.inr ⟨rfl,n,g0 he,rfl⟩⟩,fun he=>⟨(gn he).1,fun b' k' ha=>?_⟩,rfl⟩
     obtain⟨b1,k1,a4,a5⟩:=ha
     obtain⟨rfl,rfl⟩:=a3.det a4
     rcases a5 with⟨a5,-⟩|⟨-,k2,a5,-⟩
     ·cases a5
     ·exact(gn he).2 _ _ a5
    ·obtain⟨b1,k1,a4,a5⟩:=ha
     obtain⟨rfl,rfl⟩:=a3.det a4
     rcases a5 with⟨a5,-⟩|⟨-,k2,a5,a6⟩
     ·cases a5
     ·have:=h _ _ a5;omega
  ·obtain⟨rfl,hno⟩:=hn e0
   refine Ou.ifF rfl (Ou.ret (by omega) (qx_bad h8 e0 fun b k ha=>?_))
   obtain⟨b1,k1,a3,-⟩:=ha
   exact hno b1 k1 a3
theorem opn_wt(l:List Ent){x y:Tm}(hgx:goodT x=true)(hgy:goodT y=true)(hp:(opnT x).2=0)(hq:(opnT y).2=0)(h:x.k=4∨y.k=4):wtT l (opnT x).1+wtT l (opnT y).1<wtT l x+wtT l y:=by
 have lam:∀t:Tm,goodT t=true->t.k=4->wtT l (opnT t).1+4≤wtT l t:=fun t hg h4=>by
  obtain⟨a,b,hab,-,-⟩:=nth_sub2 hg (.inr (.inl h4))
  rw[opn4 h4,hab]
  have w:=wt_sub l t
  rw[hab,wtL,wtL,wtL]at w
  have e:nwT l t.k t.n=3:=by unfold nwT;rw[if_pos h4]
  have:=wt_pos l a
  show wtT l b+4≤_
  omega
 have oth:∀t:Tm,(opnT t).2=0->t.k≠4->wtT l (opnT t).1≤wtT l t+2:=fun t h0 h4=>by
  rw[opnN h4]at h0 ⊢
  have h1:(liftT t 1 0).2=0:=by
   by_cases h1:(liftT t 1 0).2=0
   ·exact h1
   ·rw[if_neg h1]at h0;exact h0
  rw[(liftT_id h1).2.2.2.2,wtT,wtL,wtL,wtL,wtT,wtL]
  have e1:nwT l 5 0=1:=by unfold nwT;simp
  have e2:nwT l 1 0=1:=by unfold nwT;simp
  have:=wt_lf l t 0 0 1
  omega
 by_cases h1:x.k=4
 ·have a:=lam x hgx h1
  by_cases h2:y.k=4
  ·have b:=lam y hgy h2;omega
  ·have b:=oth y hq h2;omega
 ·have a:=oth x hp h1
  have b:=lam y hgy (h.resolve_left h1)
  omega
theorem fld_wt{N:ByteArray->Bool}{l:List Ent}(hE:AllE N l){x y:Tm}(hsx:shapedT x=true)(hsy:shapedT y=true){c:Int}{pars:List Tm}(h0:0≤c)(h1:c<l.length)(hk:(ent l c).kind=2){i:Nat}(hi:i<(fldsT l c).length)
  (h:(isRec l x∧(hdT x).n=c∧pars=prsT l x∧(isRec l y->(hdT y).n=c))∨(¬isRec l x∧isRec l y∧(hdT y).n=c∧pars=prsT l y)):wtT l (partC l x c i pars).1+wtT l (partC l y c i pars).1<wtT l x+wtT l y:=by
 have hne:fldsT l c≠[]:=fun h=>by rw[h]at hi;simp at hi
 obtain⟨r1,r2,r3,r4,r5⟩:=rec_facts hE h0 h1 hk hne
 have con:∀t:Tm,shapedT t=true->isRec l t->(hdT t).n=c->pars.length=(ent l c).pars.toNat->wtT l (partC l t c i pars).1+wtL l (prsT l t)+(ent l c).pars.toNat+3≤wtT l t:=fun t hs hr hn hl=>by
  have e:partC l t c i pars=(nth (arT t) ((pars.length+i:Nat):Int),0):=if_pos ⟨hr,hn⟩
  rw[e]
  show wtT l (nth (arT t) ((pars.length+i:Nat):Int))+wtL l (prsT l t)+(ent l c).pars.toNat+3≤wtT l t
  have hlen:(arT t).length=pisT (ent l c).type:=by rw[←hn];exact hr.1.2
  have hk6:=(kindT_spec hr.1.1 (by decide)).1
  have hw:=wt_spine l t (shapedT_spec hs).2.2
  have hh:=wt_sub l (hdT t)
  have e2:nwT l (hdT t).k (hdT t).n=2:=by unfold nwT;rw[if_neg (by omega),if_pos ⟨hk6,by rw[hn];exact hk⟩]
  have hsplit:arT t=(arT t).take (ent l c).pars.toNat++(arT t).drop (ent l c).pars.toNat:=(List.take_append_drop _ _).symm
  have hwl:wtL l (arT t)=wtL l (prsT l t)+wtL l ((arT t).drop (ent l c).pars.toNat):=by
   have:prsT l t=(arT t).take (ent l c).pars.toNat:=by unfold prsT;rw[hn]
   rw[this,←wtL_app,List.take_append_drop]
  have hm:nth (arT t) ((pars.length+i:Nat):Int)∈(arT t).drop (ent l c).pars.toNat:=by
   unfold nth
   have hlt:pars.length+i<(arT t).length:=by omega
   rw[show (((pars.length+i:Nat):Int)).toNat=pars.length+i by omega,List.getElem?_eq_getElem hlt]
   show (arT t)[pars.length+i]∈_
   have:(arT t)[pars.length+i]=((arT t).drop (ent l c).pars.toNat)[i]'(by simp;omega):=by
    rw[List.getElem_drop]
    congr 1
    omega
   rw[this]
   exact List.getElem_mem _
  have:=wt_mem l hm
  have:(arT t).length≥(ent l c).pars.toNat+1:=by omega
  have hnn:0≤wtL l (hdT t).sub:=Nat.zero_le _
  omega
 have oth:∀t:Tm,¬(isRec l t∧(hdT t).n=c)->wtT l (partC l t c i pars).1=2+wtL l pars+pars.length+wtT l t:=fun t hr=>by
  have e:partC l t c i pars=(.mk 5 0 [apT (.mk 6 (((fldsT l c)[i]?).getD (-1)) []) pars,t],if shapedT (.mk 5 0 [apT (.mk 6 (((fldsT l c)[i]?).getD (-1)) []) pars,t])=true then 0 else 2):=if_neg hr
  rw[e]
  have hfk:(ent l (((fldsT l c)[i]?).getD (-1))).kind=4:=by
   rw[List.getElem?_eq_getElem hi]
   exact(isT_spec (r5 _ (List.getElem_mem hi))).2.2
  have e1:nwT l 5 0=1:=by unfold nwT;simp
  have e2:nwT l 6 (((fldsT l c)[i]?).getD (-1))=1:=by unfold nwT;rw[if_neg (by decide),if_neg (by omega)]
  show wtT l (.mk 5 0 [apT (.mk 6 (((fldsT l c)[i]?).getD (-1)) []) pars,t])=_
  rw[wtT,wtL,wtL,wtL,wt_ap,wtT,wtL,e1,e2]
  omega
 have plen:∀t:Tm,shapedT t=true->isRec l t->(hdT t).n=c->(prsT l t).length=(ent l c).pars.toNat:=fun t hs hr hn=>by
  have hlen:(arT t).length=pisT (ent l c).type:=by rw[←hn];exact hr.1.2
  unfold prsT
  rw[hn,List.length_take]
  omega
 rcases h with⟨hx,hn,hp,hy⟩|⟨hx,hy,hn,hp⟩
 ·have hl:=plen x hsx hx hn
  rw[←hp]at hl
  have a:=con x hsx hx hn hl
  rw[←hp]at a
  by_cases ry:isRec l y
  ·have b:=con y hsy ry (hy ry) hl
   omega
  ·have b:=oth y (fun h=>ry h.1)
   omega
 ·have hl:=plen y hsy hy hn
  rw[←hp]at hl
  have a:=con y hsy hy hn hl
  rw[←hp]at a
  have b:=oth x (fun h=>hx h.1)
  omega
theorem out_headsF{N:ByteArray->Bool}(l:List Ent)(hE:AllE N l)(x y:Tm)(hsx:shapedT x=true)(hsy:shapedT y=true)(f:Int)(hf:0≤f)(hB:BC l f (wtT l x+wtT l y)):HX (fun L U q=>runH l false L U 0 q x y) (HdR (Cv l) false (headC l false x y)) f:=by
 have hgx:=(shapedT_spec hsx).2.2
 have hgy:=(shapedT_spec hsy).2.2
 refine Ou.succ ?_
 simp only[runH,e199vadc]
 have lamC:x.k=4∨y.k=4->HX (fun L U q=>e266 q (Mach.mk l l (evA l l.length 0) (l.map argsT) (l.map ownT)) l L U 0 x>>=fun r2=>e266 q (Mach.mk l l (evA l l.length 0) (l.map argsT) (l.map ownT)) l L U r2.2 y>>=fun r4=>e135vadb q l l (evA l l.length 0) (l.map argsT) (l.map ownT) l L U r4.2 r2.1 r4.1>>=fun r6=>some (r6.1,r6.2.1,r6.2.2.1,r6.2.2.2)) (HdR (Cv l) false (headC l false x y)) f:=fun h=>by
  have e:headC l false x y = .all [(opnT x,opnT y)]:=if_pos h
  rw[e]
  refine HX.imp (g:=fun L U q=>runC l false L U (if (opnT x).2=0 then(opnT y).2 else(opnT x).2) q (opnT x).1 (opnT y).1>>=fun r6=>some (r6.1,r6.2.1,r6.2.2.1,r6.2.2.2)) ?_ fun L U r h=>?_
  ·refine HX.same (out_one (p:=opnT x) (q:=opnT y) hf ⟨opnT_e8 x,opnT_e8 y⟩ fun hp hq=>hB false _ _ (opnT_ok hsx) (opnT_ok hsy) ?_ f hf (Int.le_refl f) rfl)
   exact opn_wt l hgx hgy hp hq h
  ·have a1:=ev_opened (machT l) l x hsx L U 0
   have a2:=ev_opened (machT l) l y hsy L U (opnT x).2
   rw[if_pos rfl]at a1
   exact a1.bind (a2.bind h)
 refine Ou.ite (fun h=>lamC (.inl (by simpa using h))) fun h4=>Ou.ite (fun h=>lamC (.inr (by simpa using h))) fun h4'=>?_
 have n4:¬(x.k=4∨y.k=4):=by
  have a:x.k≠4:=by simpa using h4
  have b:y.k≠4:=by simpa using h4'
  omega
 have flds:∀(c:Int) (pars:List Tm),(isRec l x∧(hdT x).n=c∧pars=prsT l x∧(isRec l y->(hdT y).n=c))∨(¬isRec l x∧isRec l y∧(hdT y).n=c∧pars=prsT l y)->∀cs:List Tm,gsl cs 0 (ent l c).pars=some pars ->
   HX (fun L U q=>gidx l c>>=fun x22=>gsl cs 0 x22.pars>>=fun x24=>e268vadd q l l (evA l l.length 0) (l.map argsT) (l.map ownT) l L U 0 x y c x24>>=fun r26=>some (r26.1,r26.2.1,r26.2.2.1,r26.2.2.2)) (AllC (Cv l false) (fldP l x y c pars (fldsT l c).length 0)) f:=fun c pars h cs hcs=>by
  have hc:∃t,(t=x∨t=y)∧shapedT t=true∧isRec l t∧(hdT t).n=c∧pars=prsT l t:=by
   rcases h with h|h
   ·exact⟨x,.inl rfl,hsx,h.1,h.2.1,h.2.2.1⟩
   ·exact⟨y,.inr rfl,hsy,h.2.1,h.2.2.1,h.2.2.2⟩
  obtain⟨t,-,hst,hrt,hnt,hpt⟩:=hc
  have hcs':=isCon_spec hst hrt.1
  rw[hnt]at hcs'
  have hf0:=hrt.2
  rw[hnt]at hf0
  have rf:=rec_facts hE hcs'.1 hcs'.2.1 hcs'.2.2.1 hf0
  have hop:OkA pars:=by rw[hpt];exact OkA.take (fun a ha=>shaped_ok (ar_shaped hst ha)) _
  have hpl:(pars.length:Int)=(ent l c).pars:=by
   rw[hpt];unfold prsT
   rw[hnt,List.length_take]
   omega
  refine Ou.pure (gidx_ent hcs'.1 hcs'.2.1) (Ou.pure hcs (HX.same (Ou.succ ?_)))
  simp only[e268vadd]
  refine Ou.pure (gidx_ent hcs'.1 hcs'.2.1) (Ou.pure (gidx_ent rf.2.2.1 rf.2.2.2.1) ?_)
  exact out_fldL l hE x y c pars _ hsx hsy hcs'.1 hcs'.2.1 hcs'.2.2.1 hpl hop (fun i hi=>fld_wt hE hsx hsy hcs'.1 hcs'.2.1 hcs'.2.2.1 hi h) (fldsT l c).length 0 f (by omega) hf hB
 have par_sl:∀t,shapedT t=true->isRec l t->gsl (arT t) 0 (ent l (hdT t).n).pars=some (prsT l t):=fun t hst hrt=>by
  have hcs':=isCon_spec hst hrt.1
  have rf:=rec_facts hE hcs'.1 hcs'.2.1 hcs'.2.2.1 hrt.2
  rw[gsl_mid (by omega) rf.2.1 (by omega)]
  unfold prsT;simp
 refine Ou.evt (ev_record l hE x hsx 0 0 0) ?_
 by_cases rx:isRec l x
 ·have ex:recX l x=((hdT x).n,arT x,true):=if_pos rx
  rw[ex]
  refine Ou.ifT rfl (Ou.evt (ev_record l hE y hsy 0 0 0) ?_)
  by_cases ry:isRec l y
  ·have ey:recX l y=((hdT y).n,arT y,true):=if_pos ry
   rw[ey]
   refine Ou.ifT rfl ?_
   by_cases hn:(hdT x).n=(hdT y).n
   ·have e:headC l false x y = .all (fldP l x y (hdT x).n (prsT l x) (fldsT l (hdT x).n).length 0):=by
     unfold headC;rw[if_neg n4,if_pos rx,if_neg (fun h=>h.2 hn)]
    rw[e]
    exact Ou.ifF (by simp[hn]) (flds _ _ (.inl ⟨rx,rfl,rfl,fun _=>hn.symm⟩) (arT x) (par_sl x hsx rx))
   ·have e:headC l false x y = .ans false:=by
     unfold headC;rw[if_neg n4,if_pos rx,if_pos ⟨ry,hn⟩]
    rw[e]
    exact Ou.ifT (by simpa using hn) (ans_ret hf)
  ·have ey:recX l y=(0,[],false):=if_neg ry
   have e:headC l false x y = .all (fldP l x y (hdT x).n (prsT l x) (fldsT l (hdT x).n).length 0):=by
    unfold headC;rw[if_neg n4,if_pos rx,if_neg (fun h=>ry h.1)]
   rw[ey,e]
   exact Ou.ifF rfl (flds _ _ (.inl ⟨rx,rfl,rfl,fun h=>absurd h ry⟩) (arT x) (par_sl x hsx rx))
 ·have ex:recX l x=(0,[],false):=if_neg rx
  rw[ex]
  refine Ou.ifF rfl (Ou.evt (ev_record l hE y hsy 0 0 0) ?_)
  by_cases ry:isRec l y
  ·have ey:recX l y=((hdT y).n,arT y,true):=if_pos ry
   have e:headC l false x y = .all (fldP l x y (hdT y).n (prsT l y) (fldsT l (hdT y).n).length 0):=by
    unfold headC;rw[if_neg n4,if_neg rx,if_pos ry]
   rw[ey,e]
   exact Ou.ifT rfl (flds _ _ (.inr ⟨rx,ry,rfl,rfl⟩) (arT y) (par_sl y hsy ry))
  ·have ey:recX l y=(0,[],false):=if_neg ry
   rw[ey]
   refine Ou.ifF rfl ?_
   by_cases hk:x.k=y.k
   ·refine Ou.ifF (by simp[hk]) ?_
    by_cases k3:x.k=3
    ·have e:headC l false x y = .pi (nth x.sub 0) (nth y.sub 0) (nth x.sub 1) (nth y.sub 1):=by
      unfold headC;rw[if_neg n4,if_neg rx,if_neg ry,if_neg (by simpa using hk),if_pos k3]
     obtain⟨a,b,hab,hga,hgb⟩:=nth_sub2 hgx (.inl k3)
     obtain⟨a',b',hab',hga',hgb'⟩:=nth_sub2 hgy (.inl (by omega))
     have ea:nth x.sub 0=a:=by rw[hab];rfl
     have eb:nth x.sub 1=b:=by rw[hab];rfl
     have ea':nth y.sub 0=a':=by rw[hab'];rfl
     have eb':nth y.sub 1=b':=by rw[hab'];rfl
     have w1:=wt_sub l x
     have w2:=wt_sub l y
     rw[hab,wtL,wtL,wtL]at w1
     rw[hab',wtL,wtL,wtL]at w2
     have v1:=(nw_pos l x.k x.n).1
     have v2:=(nw_pos l y.k y.n).1
     rw[e,ea,eb,ea',eb']
     refine Ou.ifT (by simp[k3]) (Ou.pure (a:=a) (by rw[hab];rfl) (Ou.pure (a:=a') (by rw[hab'];rfl) ?_))
     refine out_pi (c:=fun e L U q=>gidx x.sub 1>>=fun x52=>gidx y.sub 1>>=fun x54=>e135vadb q l l (evA l l.length 0) (l.map argsT) (l.map ownT) l L U e x52 x54>>=fun r56=>some (r56.1,r56.2.1,r56.2.2.1,r56.2.2.2)) (hB false a a' (good_ok a hga) (good_ok a' hga') (by omega) f hf (Int.le_refl f) rfl) fun k k0 k1=>?_
     exact Ou.pure (a:=b) (by rw[hab];rfl) (Ou.pure (a:=b') (by rw[hab'];rfl) (HX.same (hB false b b' (good_ok b hgb) (good_ok b' hgb') (by omega) (f-k) (by omega) (by omega) rfl)))
    ·refine Ou.ifF (by simpa using k3) ?_
     by_cases k2:x.k=2
     ·have e:headC l false x y = .ans (if false=true then decide (x.n≤y.n)else x.n==y.n):=by
       unfold headC;rw[if_neg n4,if_neg rx,if_neg ry,if_neg (by simpa using hk),if_neg k3,if_pos k2]
      rw[e]
      refine Ou.ifT (by simp[k2]) (Ou.evt (a:=if false=true then decide (x.n≤y.n)else x.n==y.n) (Evt.mk fun q=>?_) (ans_ret hf))
      simp[e200]
     ·have e:headC l false x y=spnC x y:=by
       unfold headC;rw[if_neg n4,if_neg rx,if_neg ry,if_neg (by simpa using hk),if_neg k3,if_neg k2]
      rw[e]
      exact Ou.ifF (by simpa using k2) (HX.same (out_spines l false x y hsx hsy f hf hB))
   ·have e:headC l false x y = .ans false:=by
     unfold headC;rw[if_neg n4,if_neg rx,if_neg ry,if_pos hk]
    rw[e]
    exact Ou.ifT (by simpa using hk) (ans_ret hf)
def e108(qq:Nat)(M:Mach):Option (Int):=
 some (List.length M.l:Int)
abbrev K108 (M:Mach) (r:Int) (C:Cf):Prop:=C 108 [mB M 1,mR M] [.mp 0 0] (ai r) [mB M 1,mR M] 0
theorem q108:Qf 108 Tryz.f108:=⟨Tryz.func108,by kernel_rfl⟩
theorem k108{M r}(h:K108 M r Ci):K108 M r Ct:=⟨h,⟨(lz rfl),tv⟩,(forall_cons ⟨⟨tv,dE _⟩,(lz rfl),⟨tv,dI _⟩,⟨tv,dI _⟩,tv⟩ (forall_cons ⟨⟨tv,dE _⟩,⟨tv,dC _⟩,tv⟩ forall_nil)),tv,(forall_cons ⟨dE _,(lz rfl),dI _,dI _,tv⟩ (forall_cons ⟨dE _,dC _,tv⟩ forall_nil))⟩
theorem c108{qq M r}(h:e108 qq M=some r):K108 M r Ct:=by
 unfold e108 at h
 obtain rfl:=sj h
 exact k108 (tF q108 3 [0,1] (oD (dC M.parts)<|oD (dE M.rl)<|oD (dI M.own)<|oD (dI M.args)<|oD (dE M.l) o0))
def e134vadg(qq:Nat)(q0 q1:List Ent)(q2:List Con')(q3 q4:List Int)(q5:List Ent)(q6 q7 q8 q9 q10:Int)(q11:List Tm)(q12 q13:Int)(q14:List Tm):Option (Bool×Int×Int×Int):=
 e135vadb qq q0 q1 q2 q3 q4 q5 q6 q7 q8 (Tm.mk q9 q10 q11) (Tm.mk q12 q13 q14)>>=fun r1=>
 some (r1.1,r1.2.1,r1.2.2.1,r1.2.2.2)
abbrev K134vadg (q0 q1:List Ent) (q2:List Con') (q3 q4:List Int) (q5:List Ent) (q6 q7 q8 q9 q10:Int) (q11:List Tm) (q12 q13:Int) (q14:List Tm) (r:Bool×Int×Int×Int) (C:Cf):Prop:=C 134 [.cells [.mp 1 0,slv entL q5 .no,.mp 3 0,ai q8],.cells [slv entL q0 .no,.mp 2 0,slv intC q3 .no,slv intC q4 .no],.cells [slv entL q1 .no,slv conL q2 .no],.cells [ai q6,ai q7],.cells [ai q9,ai q10,slv tmCells q11 .no],.cells [ai q12,ai q13,slv tmCells q14 .no]] [.mp 0 0,.mp 4 0,.mp 5 0] (ab r.1) [.cells [.mp 1 0,slv entL q5 .no,.mp 3 0,ai r.2.1],.cells [slv entL q0 .no,.mp 2 0,slv intC q3 .no,slv intC q4 .no],.cells [slv entL q1 .no,slv conL q2 .no],.cells [ai r.2.2.1,ai r.2.2.2],.cells [ai q9,ai q10,slv tmCells q11 .no],.cells [ai q12,ai q13,slv tmCells q14 .no]] 0
theorem q134vadg:Qf 134 Tryz.f134:=⟨Tryz.func134,by kernel_rfl⟩
theorem k134vadg{q0 q1 q2 q3 q4 q5 q6 q7 q8 q9 q10 q11 q12 q13 q14 r}(h:K134vadg q0 q1 q2 q3 q4 q5 q6 q7 q8 q9 q10 q11 q12 q13 q14 r Ci):K134vadg q0 q1 q2 q3 q4 q5 q6 q7 q8 q9 q10 q11 q12 q13 q14 r Ct:=⟨h,⟨(lz rfl),(lz rfl),(lz rfl),tv⟩,(forall_cons ⟨(lz rfl),⟨tv,dE _⟩,(lz rfl),tv,tv⟩ (forall_cons ⟨⟨tv,dE _⟩,(lz rfl),⟨tv,dI _⟩,⟨tv,dI _⟩,tv⟩ (forall_cons ⟨⟨tv,dE _⟩,⟨tv,dC _⟩,tv⟩ (forall_cons ⟨tv,tv,tv⟩ (forall_cons ⟨tv,tv,⟨tv,dT _⟩,tv⟩ (forall_cons ⟨tv,tv,⟨tv,dT _⟩,tv⟩ forall_nil)))))),tv,(forall_cons ⟨(lz rfl),dE _,(lz rfl),tv,tv⟩ (forall_cons ⟨dE _,(lz rfl),dI _,dI _,tv⟩ (forall_cons ⟨dE _,dC _,tv⟩ (forall_cons ⟨tv,tv,tv⟩ (forall_cons ⟨tv,tv,dT _,tv⟩ (forall_cons ⟨tv,tv,dT _,tv⟩ forall_nil))))))⟩
theorem c134vadg{qq q0 q1 q2 q3 q4 q5 q6 q7 q8 q9 q10 q11 q12 q13 q14 r}(h:e134vadg qq q0 q1 q2 q3 q4 q5 q6 q7 q8 q9 q10 q11 q12 q13 q14=some r):K134vadg q0 q1 q2 q3 q4 q5 q6 q7 q8 q9 q10 q11 q12 q13 q14 r Ct:=by
 unfold e134vadg at h
 obtain⟨r1,h2,h⟩:=obind h
 obtain rfl:=sj h
 exact k134vadg (tF q134vadg 0 [0,1,2,3,4,5] (oD (dT q14)<|oD (dT q11)<|oD (dC q2)<|oD (dE q1)<|oD (dI q4)<|oD (dI q3)<|oD (dE q0)<|oD (dE q5)<|oC 2 [0,1,2,3] (c135vadb h2) o0))
def e184(qq:Nat)(M:Mach):Option (List Ent):=
 e88 qq M.l>>=fun r1=>
 some r1
abbrev K184 (M:Mach) (r:List Ent) (C:Cf):Prop:=C 184 [mB M 1,mR M] [.mp 0 0] (.sl (flat entL r) (List.length r) .no) [mB M 1,mR M] 0
theorem q184:Qf 184 Tryz.f184:=⟨Tryz.func184,by kernel_rfl⟩
theorem k184{M r}(h:K184 M r Ci):K184 M r Ct:=⟨h,⟨(lz rfl),tv⟩,(forall_cons ⟨⟨tv,dE _⟩,(lz rfl),⟨tv,dI _⟩,⟨tv,dI _⟩,tv⟩ (forall_cons ⟨⟨tv,dE _⟩,⟨tv,dC _⟩,tv⟩ forall_nil)),dE _,(forall_cons ⟨dE _,(lz rfl),dI _,dI _,tv⟩ (forall_cons ⟨dE _,dC _,tv⟩ forall_nil))⟩
theorem c184{qq M r}(h:e184 qq M=some r):K184 M r Ct:=by
 unfold e184 at h
 obtain⟨r1,h2,h⟩:=obind h
 obtain rfl:=sj h
 exact k184 (tF q184 0 [0,1] (oD (dE r1)<|oD (dC M.parts)<|oD (dE M.rl)<|oD (dI M.own)<|oD (dI M.args)<|oD (dE M.l)<|oC 2 [] (c88 h2) o0))
def e133vadh(qq:Nat)(q0 q1:List Ent)(q2:List Con')(q3 q4:List Int)(p1 p2:Tm)(q7 q8 q9 q10:Int)(q11:List Tm)(q12 q13:Int)(q14:List Tm):Option (Bool×Int×Int×Int):=
 e108 qq (Mach.mk q0 q1 q2 q3 q4)>>=fun r1=>
 e107 qq p1 1048577 r1>>=fun r3=>
 if r3 then
 e108 qq (Mach.mk q0 q1 q2 q3 q4)>>=fun r6=>
 e107 qq p2 1048577 r6>>=fun r8=>
 if r8 then
 e184 qq (Mach.mk q0 q1 q2 q3 q4)>>=fun r11=>
 e134vadg qq q0 q1 q2 q3 q4 r11 q7 q8 0 q9 q10 q11 q12 q13 q14>>=fun r13=>
 if r13.1 then
 some ((r13.2.1==0),r13.2.1,r13.2.2.1,r13.2.2.2)
 else
 some (false,r13.2.1,r13.2.2.1,r13.2.2.2)
 else
 some (false,5,q7,q8)
 else
 some (false,5,q7,q8)
abbrev K133vadh (q0 q1:List Ent) (q2:List Con') (q3 q4:List Int) (p1 p2:Tm) (q7 q8 q9 q10:Int) (q11:List Tm) (q12 q13:Int) (q14:List Tm) (r:Bool×Int×Int×Int) (C:Cf):Prop:=C 133 [.cells [slv entL q0 .no,.mp 1 0,slv intC q3 .no,slv intC q4 .no],.cells [slv entL q1 .no,slv conL q2 .no],.cells [ai q7,ai q8],.cells [ai q9,ai q10,slv tmCells q11 .no],.cells [ai q12,ai q13,slv tmCells q14 .no]] [.mp 0 0,tmA p1,tmA p2,.mp 2 0,.clo 134 [] [.mp 3 0,.mp 4 0]] (.tup [ab r.1,ai r.2.1]) [.cells [slv entL q0 .no,.mp 1 0,slv intC q3 .no,slv intC q4 .no],.cells [slv entL q1 .no,slv conL q2 .no],.cells [ai r.2.2.1,ai r.2.2.2],.cells [ai q9,ai q10,slv tmCells q11 .no],.cells [ai q12,ai q13,slv tmCells q14 .no]] 0
theorem q133vadh:Qf 133 Tryz.f133:=⟨Tryz.func133,by kernel_rfl⟩
theorem k133vadh{q0 q1 q2 q3 q4 p1 p2 q7 q8 q9 q10 q11 q12 q13 q14 r}(h:K133vadh q0 q1 q2 q3 q4 p1 p2 q7 q8 q9 q10 q11 q12 q13 q14 r Ci):K133vadh q0 q1 q2 q3 q4 p1 p2 q7 q8 q9 q10 q11 q12 q13 q14 r Ct:=⟨h,⟨(lz rfl),⟨tv,tv,⟨tv,dT _⟩,tv⟩,⟨tv,tv,⟨tv,dT _⟩,tv⟩,(lz rfl),⟨tv,⟨(lz rfl),(lz rfl),tv⟩⟩,tv⟩,(forall_cons ⟨⟨tv,dE _⟩,(lz rfl),⟨tv,dI _⟩,⟨tv,dI _⟩,tv⟩ (forall_cons ⟨⟨tv,dE _⟩,⟨tv,dC _⟩,tv⟩ (forall_cons ⟨tv,tv,tv⟩ (forall_cons ⟨tv,tv,⟨tv,dT _⟩,tv⟩ (forall_cons ⟨tv,tv,⟨tv,dT _⟩,tv⟩ forall_nil))))),⟨tv,tv,tv⟩,(forall_cons ⟨dE _,(lz rfl),dI _,dI _,tv⟩ (forall_cons ⟨dE _,dC _,tv⟩ (forall_cons ⟨tv,tv,tv⟩ (forall_cons ⟨tv,tv,dT _,tv⟩ (forall_cons ⟨tv,tv,dT _,tv⟩ forall_nil)))))⟩
theorem c133vadh{qq q0 q1 q2 q3 q4 p1 p2 q7 q8 q9 q10 q11 q12 q13 q14 r}(h:e133vadh qq q0 q1 q2 q3 q4 p1 p2 q7 q8 q9 q10 q11 q12 q13 q14=some r):K133vadh q0 q1 q2 q3 q4 p1 p2 q7 q8 q9 q10 q11 q12 q13 q14 r Ct:=by
 unfold e133vadh at h
 obtain⟨r1,h2,h⟩:=obind h
 obtain⟨r3,h4,h⟩:=obind h
 have k:=oC 2 [0,1] (c108 h2) o0
 rcases spl h with⟨h5,h⟩|⟨h5,h⟩
 obtain⟨r6,h7,h⟩:=obind h
 obtain⟨r8,h9,h⟩:=obind h
 have k:=oC 2 [0,1] (c108 h7)<|oK 0 [] h5 (c107 h4) k
 rcases spl h with⟨h10,h⟩|⟨h10,h⟩
 obtain⟨r11,h12,h⟩:=obind h
 obtain⟨r13,h14,h⟩:=obind h
 have k:=oC 1 [0,1] (c184 h12)<|oK 0 [] h10 (c107 h9) k
 rcases spl h with⟨h15,h⟩|⟨h15,h⟩
 obtain rfl:=sj h
 exact k133vadh (tF q133vadh 3 [0,1,2,3,4] (oD (dT q14)<|oD (dT q11)<|oD (dC q2)<|oD (dE q1)<|oD (dI q4)<|oD (dI q3)<|oD (dE q0)<|oK 0 [7,0,1,2,3,4] h15 (c134vadg h14) k))
 obtain rfl:=sj h
 exact k133vadh (tF q133vadh 1 [0,1,2,3,4] (oD (dT q14)<|oD (dT q11)<|oD (dC q2)<|oD (dE q1)<|oD (dI q4)<|oD (dI q3)<|oD (dE q0)<|oK 0 [7,0,1,2,3,4] h15 (c134vadg h14) k))
 obtain rfl:=sj h
 exact k133vadh (tF q133vadh 1 [0,1,2,3,4] (oD (dT q14)<|oD (dT q11)<|oD (dC q2)<|oD (dE q1)<|oD (dI q4)<|oD (dI q3)<|oD (dE q0)<|oK 0 [] h10 (c107 h9) k))
 obtain rfl:=sj h
 exact k133vadh (tF q133vadh 1 [0,1,2,3,4] (oD (dT q14)<|oD (dT q11)<|oD (dC q2)<|oD (dE q1)<|oD (dI q4)<|oD (dI q3)<|oD (dE q0)<|oK 0 [] h5 (c107 h4) k))
def e67(qq:Nat)(M:Mach)(p1 p2:Tm)(fl fu:Int):Option (Bool×Int×Int×Int):=
 e133vadh qq M.l M.rl M.parts M.args M.own p1 p2 fl fu p1.k p1.n p1.sub p2.k p2.n p2.sub>>=fun r1=>
 some (r1.1,r1.2.1,r1.2.2.1,r1.2.2.2)
abbrev K67 (M:Mach) (p1 p2:Tm) (fl fu:Int) (r:Bool×Int×Int×Int) (C:Cf):Prop:=C 67 [mB M 1,mR M,.cells [ai fl,ai fu]] [.mp 0 0,tmA p1,tmA p2,.mp 2 0] (.tup [ab r.1,ai r.2.1]) [mB M 1,mR M,.cells [ai r.2.2.1,ai r.2.2.2]] 0
theorem q67:Qf 67 Tryz.f67:=⟨Tryz.func67,by kernel_rfl⟩
theorem k67{M p1 p2 fl fu r}(h:K67 M p1 p2 fl fu r Ci):K67 M p1 p2 fl fu r Ct:=⟨h,⟨(lz rfl),⟨tv,tv,⟨tv,dT _⟩,tv⟩,⟨tv,tv,⟨tv,dT _⟩,tv⟩,(lz rfl),tv⟩,(forall_cons ⟨⟨tv,dE _⟩,(lz rfl),⟨tv,dI _⟩,⟨tv,dI _⟩,tv⟩ (forall_cons ⟨⟨tv,dE _⟩,⟨tv,dC _⟩,tv⟩ (forall_cons ⟨tv,tv,tv⟩ forall_nil))),⟨tv,tv,tv⟩,(forall_cons ⟨dE _,(lz rfl),dI _,dI _,tv⟩ (forall_cons ⟨dE _,dC _,tv⟩ (forall_cons ⟨tv,tv,tv⟩ forall_nil)))⟩
theorem c67{qq M p1 p2 fl fu r}(h:e67 qq M p1 p2 fl fu=some r):K67 M p1 p2 fl fu r Ct:=by
 unfold e67 at h
 obtain⟨r1,h2,h⟩:=obind h
 obtain rfl:=sj h
 exact k67 (tF q67 2 [0,1,2] (oD (dC M.parts)<|oD (dE M.rl)<|oD (dI M.own)<|oD (dI M.args)<|oD (dE M.l)<|oC 2 [0,1,2,3,4] (c133vadh h2) o0))
theorem out_conv{N:ByteArray->Bool}(l:List Ent)(hE:AllE N l)(he:∀e∈l,EOk e):∀(F n:Nat) (m:Bool) (x y:Tm),x.Ok->y.Ok->wtT l x+wtT l y≤n->m=false->HC l m x y (F:Int):=by
 intro F
 induction F using Nat.strongRecOn with
 |ind F IH=>
  intro n
  induction n with
  |zero=>intro m x y _ _ h _;have:=wt_pos l x;omega
  |succ n ih=>
   intro m x y hx hy hn hmf
   have fin:∀(k:Int) (x' y':Tm) (j1 j2:Int),RightM l x->RightM l y->Br l x x' 0 j1->Br l y y' 0 j2->k=j1+j2->k≤F->Ou (fun L U q=>runH l false L U 0 q x' y'>>=fun r4=>some (r4.1,r4.2.1,r4.2.2.1,r4.2.2.2)) er4b (fun R n=>QX (Cv l false x y) R (k+n)) (∀b k,Cv l false x y b k->(F:Int)<k) ((F:Int)-k):=fun k x' y' j1 j2 hR1 hR2 hb1 hb2 hk k1=>by
    have n1:=hb1.nn
    have n2:=hb2.nn
    have hB:BC l ((F:Int)-k) (wtT l x'+wtT l y'):=fun m p q hp hq hw g g0 g1 hf0=>by
     by_cases hk0:k≤0
     ·have e1:=hb1.zero rfl (by omega)
      have e2:=hb2.zero rfl (by omega)
      subst e1;subst e2
      by_cases hg:g=F
      ·subst hg
       exact ih m p q hp hq (by omega) hf0
      ·have:=IH g.toNat (by omega) (wtT l p+wtT l q) m p q hp hq (Nat.le_refl _) hf0
       rwa[show ((g.toNat:Nat):Int)=g by omega]at this
     ·have:=IH g.toNat (by omega) (wtT l p+wtT l q) m p q hp hq (Nat.le_refl _) hf0
      rwa[show ((g.toNat:Nat):Int)=g by omega]at this
    have h:=HX.same (out_headsF l hE x' y' (hb1.shaped hR1.shaped rfl) (hb2.shaped hR2.shaped rfl) ((F:Int)-k) (by omega) hB)
    refine Ou.mono h ?_ fun hs b k' hc=>?_
    ·rintro R n _ _ ⟨b,e,h8,h0,hn',rfl⟩
     refine⟨b,e,h8,fun he=>?_,fun he=>⟨(hn' he).1,fun b' k' hc=>?_⟩,rfl⟩
     ·have:=Cv.mk hR1 hR2 hb1 hb2 (h0 he)
      rwa[hk]
     ·obtain⟨-,-,x1,i1,y1,i2,i3,h1,h2,h3,-⟩:=hc.inv
      obtain⟨rfl,-,-⟩:=hb1.det h1
      obtain⟨rfl,-,-⟩:=hb2.det h2
      exact(hn' he).2 _ _ h3
    ·obtain⟨-,-,x1,i1,y1,i2,i3,h1,h2,h3,rfl⟩:=hc.inv
     obtain⟨rfl,-,rfl⟩:=hb1.det h1
     obtain⟨rfl,-,rfl⟩:=hb2.det h2
     have:=hs _ _ h3
     omega
   cases m
   ·refine Ou.succ ?_
    simp only[runC,e135vadb]
    refine Ou.bind (out_pair l hE he x y hx hy F (by omega)) (fun h b k hc=>h _ _ _ hc) (fun r hr=>?_) ?_
    ·have:=er6_8 hr
     refine⟨_,Evt.ifF this.1 Evt.ret,?_⟩
     unfold er4b
     rw[if_neg (by simp)];exact this.2
    ·rintro R k k0 k1 (⟨x',j1,y',j2,hR1,hR2,hb1,hb2,rfl,rfl⟩|⟨a,b,e,e0,e8,hno,rfl⟩)
     ·exact Ou.ifT rfl (fin (j1+j2) x' y' j1 j2 hR1 hR2 hb1 hb2 rfl k1)
     ·exact Ou.ifF rfl (Ou.ret (by omega) (qx_bad e8 e0 fun b k=>hno _ b k))
   ·cases hmf
theorem out_askF{N:ByteArray->Bool}(l:List Ent)(hE:AllE N l)(he:∀e∈l,EOk e)(hl:l.length≤65535)(hc:∀e∈l,ECl e)(x y:Tm)(hx:x.Ok)(hy:y.Ok)(f:Int)(hf:0≤f):HX (fun L U q=>e67 q (machT l) x y L U) (Cv l false x y) f:=by
 have hC:=out_conv l hE he f.toNat (wtT l x+wtT l y) false x y hx hy (Nat.le_refl _) rfl
 rw[show ((f.toNat:Nat):Int)=f by omega]at hC
 have hLen:Evt (fun q=>e108 q (machT l)) (l.length:Int):=Evt.mk fun _=>rfl
 have hEnt:Evt (fun q=>e184 q (machT l)) l:=by
  simp only[e184]
  exact((ev_sCopy l hl he hc).eq (copy_same hE)).bind Evt.ret
 have post:HX (fun L U q=>(runC l false L U 0 q x y>>=fun r1=>some (r1.1,r1.2.1,r1.2.2.1,r1.2.2.2))>>=fun r13=>if r13.1=true then some ((r13.2.1==0),r13.2.1,r13.2.2.1,r13.2.2.2)else some (false,r13.2.1,r13.2.2.1,r13.2.2.2)) (Cv l false x y) f:=by
  refine Ou.bind (HX.same hC) id (fun r hr=>?_) ?_
  ·have:=er4b_8 hr
   refine⟨_,Evt.ifF this.1 Evt.ret,?_⟩
   unfold er4b
   rw[if_neg (by simp)];exact this.2
  ·rintro R k k0 k1 ⟨b,e,h8,h0,hn,rfl⟩
   dsimp only
   by_cases e0:e=0
   ·subst e0
    have hX:=h0 rfl
    cases b with
    |true=>exact Ou.ifT rfl (Ou.ret (by omega) (qx_ok (b:=true) (by rwa[Int.add_zero])))
    |false=>exact Ou.ifF rfl (Ou.ret (by omega) (qx_ok (by rwa[Int.add_zero])))
   ·obtain⟨rfl,hno⟩:=hn e0
    exact Ou.ifF rfl (Ou.ret (by omega) (qx_bad h8 e0 hno))
 have bad1:¬RightM l x->∀b k,¬Cv l false x y b k:=fun h b k hc=>h hc.inv.1
 have bad2:¬RightM l y->∀b k,¬Cv l false x y b k:=fun h b k hc=>h hc.inv.2.1
 simp only[e67,e133vadh]
 refine HX.same ?_
 refine Ou.evt hLen (Ou.evt (ev_Right x 1048577 l.length hx) (Ou.ite (fun h1=>?_) fun h1=>?_))
 ·refine Ou.evt hLen (Ou.evt (ev_Right y 1048577 l.length hy) (Ou.ite (fun h2=>?_) fun h2=>?_))
  ·refine Ou.evt hEnt ?_
   simp only[e134vadg,tm_eta]
   exact post
  ·exact Ou.ret hf (qx_bad (by decide) (by decide) (bad2 (by unfold RightM;rw[h2];simp)))
 ·exact Ou.ret hf (qx_bad (by decide) (by decide) (bad1 (by unfold RightM;rw[h1];simp)))
abbrev K16 (p0:List Ent) (p1:Tm) (p2:Int) (r:Tm×Int×Int) (C:Cf):Prop:=C 16 [] [slv entL p0 .no,tmA p1,ai p2] (.tup [tmA r.1,ai r.2.1,ai r.2.2]) [] 0
theorem k16{p0 p1 p2 r}(h:K16 p0 p1 p2 r Ci):K16 p0 p1 p2 r Ct:=⟨h,⟨⟨tv,dE _⟩,⟨tv,tv,⟨tv,dT _⟩,tv⟩,tv,tv⟩,forall_nil,⟨⟨tv,tv,dT _,tv⟩,tv,tv,tv⟩,forall_nil⟩
def e67vadi(qq:Nat)(q0 q1:List Ent)(q2:List Con')(q3 q4:List Int)(p1 p2:Tm):Option (Bool×Int):=
 none
abbrev K67vadi (q0 q1:List Ent) (q2:List Con') (q3 q4:List Int) (p1 p2:Tm) (r:Bool×Int) (C:Cf):Prop:=C 67 [.cells [slv entL q0 .no,.mp 1 0,slv intC q3 .no,slv intC q4 .no],.cells [slv entL q1 .no,slv conL q2 .no]] [.mp 0 0,tmA p1,tmA p2,.val (.pointer none)] (.tup [ab r.1,ai r.2]) [.cells [slv entL q0 .no,.mp 1 0,slv intC q3 .no,slv intC q4 .no],.cells [slv entL q1 .no,slv conL q2 .no]] 0
theorem c67vadi{qq q0 q1 q2 q3 q4 p1 p2 r}(h:e67vadi qq q0 q1 q2 q3 q4 p1 p2=some r):K67vadi q0 q1 q2 q3 q4 p1 p2 r Ct:=by
 unfold e67vadi at h
 cases h
def e67vadj(qq:Nat)(p1 p2:Tm)(q2 q3:Int):Option (Bool×Int):=
 none
abbrev K67vadj (p1 p2:Tm) (q2 q3:Int) (r:Bool×Int) (C:Cf):Prop:=C 67 [.cells [ai q2,ai q3]] [.val (.pointer none),tmA p1,tmA p2,.mp 0 0] (.tup [ab r.1,ai r.2]) [.cells [ai q2,ai q3]] 0
theorem c67vadj{qq p1 p2 q2 q3 r}(h:e67vadj qq p1 p2 q2 q3=some r):K67vadj p1 p2 q2 q3 r Ct:=by
 unfold e67vadj at h
 cases h
def e67vadk(qq:Nat)(p1 p2:Tm):Option (Bool×Int):=
 none
abbrev K67vadk (p1 p2:Tm) (r:Bool×Int) (C:Cf):Prop:=C 67 [] [.val (.pointer none),tmA p1,tmA p2,.val (.pointer none)] (.tup [ab r.1,ai r.2]) [] 0
theorem c67vadk{qq p1 p2 r}(h:e67vadk qq p1 p2=some r):K67vadk p1 p2 r Ct:=by
 unfold e67vadk at h
 cases h
def e15(qq:Nat)(p0:List Ent)(p1 p2:Tm)(p3:Int):Option (Bool×Int×Int):=
 e37 qq p0>>=fun r1=>
 match r1 with
 |Sum.inl y21=>
  if y21 != 0 then
  some (false,0,y21)
  else
  e45 qq p3>>=fun r23=>
  match r23 with
  |Sum.inl y32=>
   if y32 != 0 then
   some (false,0,y32)
   else
   e67vadk qq p1 p2>>=fun r34=>
   if r34.2 != 0 then
   some (false,0,r34.2)
   else
   e48vabz qq>>=fun r37=>
   some (r34.1,r37,0)
  |Sum.inr y25=>
   if y25.1 != 0 then
   some (false,0,y25.1)
   else
   e67vadj qq p1 p2 y25.2.1 y25.2.2>>=fun r27=>
   if r27.2 != 0 then
   some (false,0,r27.2)
   else
   e48 qq y25.2.1 y25.2.2>>=fun r30=>
   some (r27.1,r30,0)
 |Sum.inr y3=>
  if y3.1 != 0 then
  some (false,0,y3.1)
  else
  e45 qq p3>>=fun r5=>
  match r5 with
  |Sum.inl y14=>
   if y14 != 0 then
   some (false,0,y14)
   else
   e67vadi qq y3.2.1 y3.2.2.2.2.1 y3.2.2.2.2.2 y3.2.2.1 y3.2.2.2.1 p1 p2>>=fun r16=>
   if r16.2 != 0 then
   some (false,0,r16.2)
   else
   e48vabz qq>>=fun r19=>
   some (r16.1,r19,0)
  |Sum.inr y7=>
   if y7.1 != 0 then
   some (false,0,y7.1)
   else
   e67 qq (Mach.mk y3.2.1 y3.2.2.2.2.1 y3.2.2.2.2.2 y3.2.2.1 y3.2.2.2.1) p1 p2 y7.2.1 y7.2.2>>=fun r9=>
   if r9.2.1 != 0 then
   some (false,0,r9.2.1)
   else
   e48 qq r9.2.2.1 r9.2.2.2>>=fun r12=>
   some (r9.1,r12,0)
abbrev K15 (p0:List Ent) (p1 p2:Tm) (p3:Int) (r:Bool×Int×Int) (C:Cf):Prop:=C 15 [] [slv entL p0 .no,tmA p1,tmA p2,ai p3] (.tup [ab r.1,ai r.2.1,ai r.2.2]) [] 0
theorem q15:Qf 15 Tryz.f15:=⟨Tryz.func15,by kernel_rfl⟩
theorem k15{p0 p1 p2 p3 r}(h:K15 p0 p1 p2 p3 r Ci):K15 p0 p1 p2 p3 r Ct:=⟨h,⟨⟨tv,dE _⟩,⟨tv,tv,⟨tv,dT _⟩,tv⟩,⟨tv,tv,⟨tv,dT _⟩,tv⟩,tv,tv⟩,forall_nil,⟨tv,tv,tv,tv⟩,forall_nil⟩
theorem c15{qq p0 p1 p2 p3 r}(h:e15 qq p0 p1 p2 p3=some r):K15 p0 p1 p2 p3 r Ct:=by
 unfold e15 at h
 obtain⟨r1,h2,h⟩:=obind h
 rcases r1 with y21|y3
 dsimp only at h
 have k:=oC 0 [] (c37 h2) o0
 rcases spl h with⟨h22,h⟩|⟨h22,h⟩
 obtain rfl:=sj h
 exact k15 (tF q15 0 [] (oB 2 h22 k))
 obtain⟨r23,h24,h⟩:=obind h
 have k:=oB 2 h22 k
 rcases r23 with y32|y25
 dsimp only at h
 have k:=oC 0 [] (c45 h24) k
 rcases spl h with⟨h33,h⟩|⟨h33,h⟩
 obtain rfl:=sj h
 exact k15 (tF q15 0 [] (oB 2 h33 k))
 obtain⟨r34,h35,h⟩:=obind h
 have k:=oC 2 [] (c67vadk h35)<|oB 2 h33 k
 rcases spl h with⟨h36,h⟩|⟨h36,h⟩
 obtain rfl:=sj h
 exact k15 (tF q15 0 [] (oB 2 h36 k))
 obtain⟨r37,h38,h⟩:=obind h
 obtain rfl:=sj h
 exact k15 (tF q15 0 [] (oC 0 [] (c48vabz h38)<|oB 2 h36 k))
 dsimp only at h
 have k:=oC 0 [] (c45 h24) k
 rcases spl h with⟨h26,h⟩|⟨h26,h⟩
 obtain rfl:=sj h
 exact k15 (tF q15 0 [] (oB 2 h26 k))
 obtain⟨r27,h28,h⟩:=obind h
 have k:=oC 2 [2] (c67vadj h28)<|oB 2 h26 k
 rcases spl h with⟨h29,h⟩|⟨h29,h⟩
 obtain rfl:=sj h
 exact k15 (tF q15 0 [] (oB 2 h29 k))
 obtain⟨r30,h31,h⟩:=obind h
 obtain rfl:=sj h
 exact k15 (tF q15 0 [] (oC 0 [2] (c48 h31)<|oB 2 h29 k))
 dsimp only at h
 have k:=oC 0 [] (c37 h2) o0
 rcases spl h with⟨h4,h⟩|⟨h4,h⟩
 obtain rfl:=sj h
 exact k15 (tF q15 0 [] (oB 2 h4 k))
 obtain⟨r5,h6,h⟩:=obind h
 have k:=oB 2 h4 k
 rcases r5 with y14|y7
 dsimp only at h
 have k:=oC 0 [] (c45 h6) k
 rcases spl h with⟨h15,h⟩|⟨h15,h⟩
 obtain rfl:=sj h
 exact k15 (tF q15 0 [] (oB 2 h15 k))
 obtain⟨r16,h17,h⟩:=obind h
 have k:=oC 2 [2,3] (c67vadi h17)<|oB 2 h15 k
 rcases spl h with⟨h18,h⟩|⟨h18,h⟩
 obtain rfl:=sj h
 exact k15 (tF q15 0 [] (oB 2 h18 k))
 obtain⟨r19,h20,h⟩:=obind h
 obtain rfl:=sj h
 exact k15 (tF q15 0 [] (oC 0 [] (c48vabz h20)<|oB 2 h18 k))
 dsimp only at h
 have k:=oC 0 [] (c45 h6) k
 rcases spl h with⟨h8,h⟩|⟨h8,h⟩
 obtain rfl:=sj h
 exact k15 (tF q15 0 [] (oB 2 h8 k))
 obtain⟨r9,h10,h⟩:=obind h
 have k:=oC 2 [2,3,4] (c67 h10)<|oB 2 h8 k
 rcases spl h with⟨h11,h⟩|⟨h11,h⟩
 obtain rfl:=sj h
 exact k15 (tF q15 0 [] (oB 2 h11 k))
 obtain⟨r12,h13,h⟩:=obind h
 obtain rfl:=sj h
 exact k15 (tF q15 0 [] (oC 0 [4] (c48 h13)<|oB 2 h11 k))
theorem conv_of{N:ByteArray->Bool}(l:List Ent)(hn:Evt (fun q=>e37 q l) (newT l true))(hE:AllE N l)(he:∀e∈l,EOk e)(hl:l.length≤65535)(hc:∀e∈l,ECl e)(x y:Tm)(hx:x.Ok)(hy:y.Ok)(f:Int)(h0:0≤f)(h1:f≤1048576) :
  ∃r:Bool×Int×Int,Evt (fun q=>e15 q l x y f) r∧(r.2.2=0->∃k,Cv l false x y r.1 k):=by
 have run:∀r,Evt (fun q=>e67 q (machT l) x y f 0) r->Evt (fun q=>e15 q l x y f) (if r.2.1≠0 then(false,0,r.2.1)else(r.1,r.2.2.2,0)):=fun r h=>by
  simp only[e15]
  refine hn.bind (Evt.ifF (by simp) ((ev_mNew f h0 h1).bind (Evt.ifF (by simp) (Evt.bind (a:=r) h ?_))))
  by_cases e:r.2.1≠0
  ·rw[if_pos e];exact Evt.ifT (by simpa using e) Evt.ret
  ·rw[if_neg e]
   refine Evt.ifF (by simpa using e) (Evt.bind (a:=r.2.2.2) (Evt.mk fun q=>?_) Evt.ret)
   simp only[e48,e113vaby];rfl
 rcases out_askF l hE he hl hc x y hx hy f h0 with⟨R,k,k0,k1,⟨b,e,h8,hC,hno,rfl⟩,h3,-⟩|⟨h,-⟩
 ·refine⟨_,run _ (h3 f 0 k1 (by omega) (by omega)),fun hz=>?_⟩
  by_cases e0:e=0
  ·subst e0
   rw[if_neg (by simp)]
   exact⟨k,hC rfl⟩
  ·rw[if_pos e0]at hz
   exact absurd hz e0
 ·obtain⟨r,h5,h6⟩:=h 0 (by omega) (by omega)
  have h7:=(er4b_8 h6).2
  refine⟨_,run r h5,fun hz=>?_⟩
  rw[if_pos (by omega)]at hz
  have:r.2.1=0:=hz
  omega
theorem conv_unf(l:List Ent)(hn:Evt (fun q=>e37 q l) (newT l false))(x y:Tm)(f:Int):Evt (fun q=>e15 q l x y f) (false,0,5):=by
 simp only[e15]
 exact hn.bind (Evt.ifT (by decide) Evt.ret)
def e21(qq:Nat)(p0:Int)(p1 p2:Tm):Option (Tm):=
 some (Tm.mk p0 0 [p1,p2])
abbrev K21 (p0:Int) (p1 p2 r:Tm) (C:Cf):Prop:=C 21 [] [ai p0,tmA p1,tmA p2] (tmA r) [] 0
theorem q21:Qf 21 Tryz.f21:=⟨Tryz.func21,by kernel_rfl⟩
theorem k21{p0 p1 p2 r}(h:K21 p0 p1 p2 r Ci):K21 p0 p1 p2 r Ct:=⟨h,⟨tv,⟨tv,tv,⟨tv,dT _⟩,tv⟩,⟨tv,tv,⟨tv,dT _⟩,tv⟩,tv⟩,forall_nil,⟨tv,tv,dT _,tv⟩,forall_nil⟩
theorem c21{qq p0 p1 p2 r}(h:e21 qq p0 p1 p2=some r):K21 p0 p1 p2 r Ct:=by
 unfold e21 at h
 obtain rfl:=sj h
 exact k21 (tF q21 1 [] (oD (dT [p1,p2])<|oS 2 (obLitR tm_eq [p1,p2]) o0))
mutual
def e72:Nat->Tm->Int->Option (Tm)
 |0,_,_=>none
 |qq+1,p0,p1=>
 if p0.k==1 then
 if decide (p0.n<p1)then
 some p0
 else
 some (Tm.mk 1 (w64 (p0.n+1)) [])
 else
 e72Ldl qq p0 p1 0 []
def e72Ldl:Nat->Tm->Int->Int->(List Tm)->Option (Tm)
 |0,_,_,_,_=>none
 |qq+1,p0,p1,v6,vb2_2=>
 if decide (v6<(List.length p0.sub:Int))then
 gidx p0.sub v6>>=fun x4=>
 e71 qq p0 v6>>=fun r6=>
 e72 qq x4 (w64 (p1+r6))>>=fun r8=>
 gapp 40 vb2_2 [r8]>>=fun l10=>
 e72Ldl qq p0 p1 (w64 (v6+1)) l10
 else
 some (Tm.mk p0.k p0.n vb2_2)
end
def g72LdlE0(j:Nat->Value)(p0:Tm)(p1 v6:Int)(vb2_2:List Tm):=sp j 48 0 [(1,ai p1),(2,.mp 0 0),(4,.mp 1 0),(5,.mp 2 0),(6,ai v6)]
def g72LdlS0(p0:Tm)(p1 v6:Int)(vb2_2:List Tm):LSt:=⟨[(0,.cells [ai p0.k,ai p0.n,slv tmCells p0.sub .no]),(1,.cells [ai 0,ai 0,slv tmCells ([]:List Tm) .nl]),(2,.cells [ai p0.k,ai p0.n,slv tmCells vb2_2 (.st 0 3)])],3,[0],1,[]⟩
abbrev K72 (p0:Tm) (p1:Int) (r:Tm) (C:Cf):Prop:=C 72 [] [tmA p0,ai p1] (tmA r) [] 0
theorem q72:Qf 72 Tryz.f72:=⟨Tryz.func72,by kernel_rfl⟩
theorem k72{p0 p1 r}(h:K72 p0 p1 r Ci):K72 p0 p1 r Ct:=⟨h,⟨⟨tv,tv,⟨tv,dT _⟩,tv⟩,tv,tv⟩,forall_nil,⟨tv,tv,dT _,tv⟩,forall_nil⟩
theorem a72_72Ldl:∀qq:Nat,(∀p0 p1 r,e72 qq p0 p1=some r->K72 p0 p1 r Ct)∧(∀p0 p1 v6 vb2_2 r,e72Ldl qq p0 p1 v6 vb2_2=some r->(∀j,Dl Tryz.prog 0 (inn (inn (rgt (lft (rgt (rgt (rgt (bod Tryz.f72)))))))) (g72LdlE0 j p0 p1 v6 vb2_2) (g72LdlS0 p0 p1 v6 vb2_2) (frameQ Tryz.prog 0 (FinQ Tryz.prog 0 Tryz.f72 (tmA r) [] 0) [.blk 0,.seq (rgt (rgt (rgt (rgt (bod Tryz.f72)))))]))):=by
 intro qq
 induction qq with
 |zero=>
  exact⟨fun _ _ _ h=>nn h,fun _ _ _ _ _ h=>nn h⟩
 |succ qq ih=>
  obtain⟨ih72,ih72Ldl⟩:=ih
  refine⟨?_,?_⟩
  intro p0 p1 r h
  rw[e72]at h
  rcases spl h with⟨h1,h⟩|⟨h1,h⟩
  have k:=oB 1 h1 o0
  rcases spl h with⟨h2,h⟩|⟨h2,h⟩
  obtain rfl:=sj h
  exact k72 (tF q72 2 [] (oD (dT p0.sub)<|oB 1 h2 k))
  obtain rfl:=sj h
  exact k72 (tF q72 3 [] (oD (dT ([]:List Tm))<|oB 1 h2 k))
  exact k72 (tH q72 3 [(some 2,2,3)] [0,1,2] [0] [1,2,4,5,6] (oD (dT ([]:List Tm))<|oD (dT ([]:List Tm))<|oD (dT p0.sub)<|oB 1 h1 o0) (ih72Ldl _ _ _ _ _ h))
  intro p0 p1 v6 vb2_2 r h
  rw[e72Ldl]at h
  rcases spl h with⟨h3,h⟩|⟨h3,h⟩
  obtain⟨x4,h5,h⟩:=obind h
  obtain⟨r6,h7,h⟩:=obind h
  obtain⟨r8,h9,h⟩:=obind h
  obtain⟨l10,h11,h⟩:=obind h
  exact fun j=>lH 2 [] [0,1,2] [1] [1,2,4,5,6] (oD (dT l10)<|oD (dT ([]:List Tm))<|oD (dT p0.sub)<|oP 0 (apS23 h11 (by simp))<|oS 0 (obLitR tm_eq [r8])<|oC 1 [] (ih72 _ _ _ h9)<|oC 2 [] (c71 h7)<|oA 2 (ix23 (o:=.no) h5)<|oB 2 h3 o0) (ih72Ldl _ _ _ _ _ h)
  obtain rfl:=sj h
  exact fun j=>lF 2 [] (oD (dT vb2_2)<|oB 2 h3 o0)
theorem c72{qq p0 p1 r}(h:e72 qq p0 p1=some r):K72 p0 p1 r Ct:=(a72_72Ldl _).1 _ _ _ h
def e22(qq:Nat)(p0:Tm):Option (Tm):=
 if p0.k==1 then
 some (Tm.mk 1 (w64 (p0.n+1)) [])
 else
 e72 qq p0 0>>=fun r2=>
 some r2
abbrev K22 (p0 r:Tm) (C:Cf):Prop:=C 22 [] [tmA p0] (tmA r) [] 0
theorem q22:Qf 22 Tryz.f22:=⟨Tryz.func22,by kernel_rfl⟩
theorem k22{p0 r}(h:K22 p0 r Ci):K22 p0 r Ct:=⟨h,⟨⟨tv,tv,⟨tv,dT _⟩,tv⟩,tv⟩,forall_nil,⟨tv,tv,dT _,tv⟩,forall_nil⟩
theorem c22{qq p0 r}(h:e22 qq p0=some r):K22 p0 r Ct:=by
 unfold e22 at h
 rcases spl h with⟨h1,h⟩|⟨h1,h⟩
 obtain rfl:=sj h
 exact k22 (tF q22 3 [] (oD (dT ([]:List Tm))<|oB 1 h1 o0))
 obtain⟨r2,h3,h⟩:=obind h
 obtain rfl:=sj h
 exact k22 (tF q22 1 [] (oD (dT r2.sub)<|oC 1 [] (c72 h3)<|oB 1 h1 o0))
def e25Ldm:Nat->(List Tm)->Int->Int->Int->(List Tm)->Option (Tm)
 |0,_,_,_,_,_=>none
 |qq+1,p1,v5,vb0_0,vb0_1,vb0_2=>
 if decide (v5<(List.length p1:Int))then
 gidx p1 v5>>=fun x2=>
 e21 qq 5 (Tm.mk vb0_0 vb0_1 vb0_2) x2>>=fun r4=>
 e25Ldm qq p1 (w64 (v5+1)) r4.k r4.n r4.sub
 else
 some (Tm.mk vb0_0 vb0_1 vb0_2)
def e25(qq:Nat)(p0:Tm)(p1:List Tm):Option (Tm):=
 e25Ldm qq p1 0 p0.k p0.n p0.sub
def g25LdmE0(j:Nat->Value)(p1:List Tm)(v5 vb0_0 vb0_1:Int)(vb0_2:List Tm):=sp j 19 0 [(1,slv tmCells p1 .no),(2,.mp 0 0),(4,.mp 1 0),(5,ai v5)]
def g25LdmS0(p1:List Tm)(v5 vb0_0 vb0_1:Int)(vb0_2:List Tm):LSt:=⟨[(0,.cells [ai vb0_0,ai vb0_1,slv tmCells vb0_2 .no]),(1,.cells [ai 0,ai 0,slv tmCells ([]:List Tm) .nl])],2,[],0,[]⟩
abbrev K25 (p0:Tm) (p1:List Tm) (r:Tm) (C:Cf):Prop:=C 25 [] [tmA p0,slv tmCells p1 .no] (tmA r) [] 0
theorem q25:Qf 25 Tryz.f25:=⟨Tryz.func25,by kernel_rfl⟩
theorem k25{p0 p1 r}(h:K25 p0 p1 r Ci):K25 p0 p1 r Ct:=⟨h,⟨⟨tv,tv,⟨tv,dT _⟩,tv⟩,⟨tv,dT _⟩,tv⟩,forall_nil,⟨tv,tv,dT _,tv⟩,forall_nil⟩
theorem l25Ldm:∀qq:Nat,(∀p1 v5 vb0_0 vb0_1 vb0_2 r,e25Ldm qq p1 v5 vb0_0 vb0_1 vb0_2=some r->(∀j,Dl Tryz.prog 0 (inn (inn (rgt (lft (rgt (bod Tryz.f25)))))) (g25LdmE0 j p1 v5 vb0_0 vb0_1 vb0_2) (g25LdmS0 p1 v5 vb0_0 vb0_1 vb0_2) (frameQ Tryz.prog 0 (FinQ Tryz.prog 0 Tryz.f25 (tmA r) [] 0) [.blk 0,.seq (rgt (rgt (bod Tryz.f25)))]))):=by
 intro qq
 induction qq with
 |zero=>
  exact fun _ _ _ _ _ _ h=>nn h
 |succ qq ih=>
  intro p1 v5 vb0_0 vb0_1 vb0_2 r h
  rw[e25Ldm]at h
  rcases spl h with⟨h1,h⟩|⟨h1,h⟩
  obtain⟨x2,h3,h⟩:=obind h
  obtain⟨r4,h5,h⟩:=obind h
  exact fun j=>lH 2 [] [0,1] [] [1,2,4,5] (oD (dT p1)<|oD (dT ([]:List Tm))<|oD (dT r4.sub)<|oC 1 [] (c21 h5)<|oA 1 (ix23 (o:=.no) h3)<|oB 1 h1 o0) (ih _ _ _ _ _ _ h)
  obtain rfl:=sj h
  exact fun j=>lF 2 [] (oD (dT vb0_2)<|oB 1 h1 o0)
theorem c25{qq p0 p1 r}(h:e25 qq p0 p1=some r):K25 p0 p1 r Ct:=by
 unfold e25 at h
 exact k25 (tH q25 0 [] [0,1] [] [1,2,4,5] (oD (dT p1)<|oD (dT ([]:List Tm))<|oD (dT p0.sub) o0) (l25Ldm _ _ _ _ _ _ _ h))
def e26(qq:Nat)(p0:List Ent)(p1:Tm):Option (Int):=
 e76 qq p1>>=fun r1=>
 if r1.k != 6 then
 some (-1)
 else
 e77 qq p0 r1.n 2>>=fun r4=>
 if r4 then
 e78 qq p1>>=fun r7=>
 gidx p0 r1.n>>=fun x9=>
 e79 qq x9.type>>=fun r11=>
 if (List.length r7:Int) != (List.length r11:Int)then
 some (-1)
 else
 some r1.n
 else
 some (-1)
abbrev K26 (p0:List Ent) (p1:Tm) (r:Int) (C:Cf):Prop:=C 26 [] [slv entL p0 .no,tmA p1] (ai r) [] 0
theorem q26:Qf 26 Tryz.f26:=⟨Tryz.func26,by kernel_rfl⟩
theorem k26{p0 p1 r}(h:K26 p0 p1 r Ci):K26 p0 p1 r Ct:=⟨h,⟨⟨tv,dE _⟩,⟨tv,tv,⟨tv,dT _⟩,tv⟩,tv⟩,forall_nil,tv,forall_nil⟩
theorem c26{qq p0 p1 r}(h:e26 qq p0 p1=some r):K26 p0 p1 r Ct:=by
 unfold e26 at h
 obtain⟨r1,h2,h⟩:=obind h
 have k:=oC 1 [] (c76 h2) o0
 rcases spl h with⟨h3,h⟩|⟨h3,h⟩
 obtain rfl:=sj h
 exact k26 (tF q26 0 [] (oB 2 h3 k))
 obtain⟨r4,h5,h⟩:=obind h
 have k:=oB 2 h3 k
 rcases spl h with⟨h6,h⟩|⟨h6,h⟩
 obtain⟨r7,h8,h⟩:=obind h
 obtain⟨x9,h10,h⟩:=obind h
 obtain⟨r11,h12,h⟩:=obind h
 have k:=oC 1 [] (c79 h12)<|oA 2 (ix22 (o:=.no) h10)<|oC 2 [] (c78 h8)<|oK 1 [] h6 (c77 h5) k
 rcases spl h with⟨h13,h⟩|⟨h13,h⟩
 obtain rfl:=sj h
 exact k26 (tF q26 0 [] (oB 1 h13 k))
 obtain rfl:=sj h
 exact k26 (tF q26 1 [] (oB 1 h13 k))
 obtain rfl:=sj h
 exact k26 (tF q26 1 [] (oK 1 [] h6 (c77 h5) k))
mutual
theorem ev_lifted:∀(t:Tm) (b:Int),goodT t=true->0≤b->b+t.high≤1152921504606846976->Evt (fun q=>e72 q t b) (lfT t b 0 1)
 | .mk kd n l,b,hg,hb,hb2=>by
  refine Evt.succ ?_
  simp only[e72]
  have hh:=goodT_mk hg
  have hn:=head_n hh.1
  rw[Tm.high]at hb2
  by_cases h1:kd=1
  ·subst h1
   have hl:l=[]:=(head_spec hh.1).2.2.2.2.2.2.2.1 (.inl rfl)
   subst hl
   refine Evt.ifT rfl ?_
   simp only[Tm.n]
   rw[lf_var (by decide)]
   unfold lfn
   by_cases h2:n<b
   ·refine Evt.ifT (decide_eq_true h2) (Evt.ret.eq ?_)
    rw[if_neg (by omega)]
   ·refine Evt.ifF (decide_eq_false h2) (Evt.ret.eq ?_)
    rw[if_pos (by omega),w64_id (by omega) (by omega)]
  ·refine Evt.ifF (by simpa[Tm.k]using h1) ?_
   rw[lf_node h1]
   exact ev_liftedL l (.mk kd n l) 0 b [] rfl hh.2 (by have:=hn.2.2.2.2;exact this) hb (by omega) (by simp)
theorem ev_liftedL:∀(l:List Tm) (p:Tm) (v:Nat) (b:Int) (acc:List Tm),p.sub.drop v=l->goodL l=true->p.sub.length≤2->0≤b->b+1+highL l≤1152921504606846976->acc.length≤v ->
  Evt (fun q=>e72Ldl q p b (v:Int) acc) (.mk p.k p.n (acc++lfL l p.k v b 0 1))
 | [],p,v,b,acc,hd,hg,hl,hb,hb2,ha=>by
  refine Evt.succ ?_
  simp only[e72Ldl]
  exact Evt.ifF (drop_nil hd) (Evt.ret.eq (by rw[lfL];simp))
 |t::l,p,v,b,acc,hd,hg,hl,hb,hb2,ha=>by
  have hlt:=drop_lt hd
  have hgc:=goodL_cons hg
  rw[highL]at hb2
  refine Evt.succ ?_
  simp only[e72Ldl]
  have hu:undR' p.k v b=b+undR p.k v:=by
   unfold undR' undR
   by_cases h:v=1∧p.k≠5
   ·rw[if_pos h,if_pos h]
   ·rw[if_neg h,if_neg h];omega
  have hu2:0≤undR p.k v∧undR p.k v≤1:=by unfold undR;split<;>omega
  refine Evt.ifT (drop_dec hd) (Evt.pure (drop_idx hd) ((ev_rBeneath p v).bind ?_))
  rw[w64_id (x:=b+undR p.k v) (by omega) (by omega),w64_nat v (by omega)]
  refine(ev_lifted t (b+undR p.k v) hgc.1 (by omega) (by omega)).bind (Evt.pure (gapp_ok (by simp;omega)) ?_)
  refine(ev_liftedL l p (v+1) b (acc++[lfT t (b+undR p.k v) 0 1]) (drop_next hd) hgc.2 hl hb (by omega) (by simp;omega)).eq ?_
  rw[lfL,hu];simp
end
theorem ev_up(t:Tm)(hs:shapedT t=true):Evt (fun q=>e22 q t) (lfT t 0 0 1):=by
 have h:=shapedT_spec hs
 simp only[e22]
 refine Evt.iff (fun h1=>?_) fun _=>(ev_lifted t 0 h.2.2 (by omega) (by omega)).bind Evt.ret
 obtain⟨kd,n,l⟩:=t
 have h1':kd=1:=by simpa[Tm.k]using h1
 subst h1'
 have hn:=head_n (goodT_mk h.2.2).1
 rw[lf_var (by decide)]
 unfold lfn
 refine Evt.ret.eq ?_
 rw[if_pos (by omega)]
 simp only[Tm.n]
 rw[w64_id (by omega) (by omega)]
theorem ev_rTwo(k:Int)(a b:Tm):Evt (fun q=>e21 q k a b) (.mk k 0 [a,b]):=Evt.mk fun _=>rfl
theorem ev_rApplyL:∀(r l:List Tm) (v:Nat) (f:Tm),l.drop v=r->l.length≤4294967296->Evt (fun q=>e25Ldm q l (v:Int) f.k f.n f.sub) (apT f r)
 | [],l,v,f,hd,hl=>by
  refine Evt.succ ?_
  simp only[e25Ldm,tm_eta]
  exact Evt.ifF (drop_nil hd) (Evt.ret.eq (by rw[apT]))
 |a::r,l,v,f,hd,hl=>by
  have hlt:=drop_lt hd
  refine Evt.succ ?_
  simp only[e25Ldm,tm_eta]
  refine Evt.ifT (drop_dec hd) (Evt.pure (drop_idx hd) ((ev_rTwo 5 f a).bind ?_))
  rw[w64_nat v (by omega),apT]
  exact ev_rApplyL r l (v+1) (.mk 5 0 [f,a]) (drop_next hd) hl
theorem ev_rApply(f:Tm)(l:List Tm)(hl:l.length≤4294967296):Evt (fun q=>e25 q f l) (apT f l):=by
 simp only[e25]
 exact ev_rApplyL l l 0 f rfl hl
theorem ev_rCon{N:ByteArray->Bool}(l:List Ent)(hE:AllE N l)(t:Tm)(hs:shapedT t=true):Evt (fun q=>e26 q l t) (if isCon l t then(hdT t).n else -1):=by
 have h:=shapedT_spec hs
 have hn:=good_n (shapedT_spec (hd_shaped hs)).2.2
 simp only[e26]
 refine Evt.bind (a:=hdT t) (by simp only[e76];exact ev_rHeadL t.nodes t h.2.2 (Nat.le_refl _)) ?_
 by_cases h6:(hdT t).k=6
 ·refine Evt.ifF (by simpa using h6) ((ev_rIs l (hdT t).n 2).bind ?_)
  by_cases hi:isT l (hdT t).n 2=true
  ·have hi':=isT_spec hi
   have hst:=(entryT_spec (hE.2 _ hi'.1 hi'.2.1)).1
   have hst':=closed_shaped hst
   refine Evt.ifT hi ((ev_rArgs t.nodes t h.2.2 (Nat.le_refl _) h.1).bind (Evt.pure (gidx_ent hi'.1 hi'.2.1) ?_))
   obtain⟨L,y,hL,hlen,-,-,-,-,hT,-⟩:=ev_rTele2 hst'
   refine hT.bind ?_
   have hk:kindT l (hdT t)=2:=by unfold kindT;rw[if_pos h6,if_pos hi'.2.1];exact hi'.2.2
   by_cases hq:(arT t).length=L.length
   ·refine Evt.ifF (by simp[hq]) (Evt.ret.eq ?_)
    rw[if_pos];exact⟨hk,by rw[hq,hlen]⟩
   ·refine Evt.ifT (by simp;omega) (Evt.ret.eq ?_)
    rw[if_neg];intro hc;exact hq (by rw[hlen];exact hc.2)
  ·refine Evt.ifF (by simpa using hi) (Evt.ret.eq ?_)
   rw[if_neg]
   intro hc
   have:=kindT_spec hc.1 (by decide)
   exact hi (by unfold isT;simp[hn,this.2.1,this.2.2])
 ·refine Evt.ifT (by simpa using h6) (Evt.ret.eq ?_)
  rw[if_neg]
  intro hc
  exact h6 (kindT_spec hc.1 (by decide)).1
def e13(qq:Nat)(p0:List Ent)(p1 p2:Tm)(p3:Int):Option (Bool):=
 if decide ((List.length p0:Int)≤60)then
 if decide (p3≤400)then
 e66 qq p1>>=fun r3=>
 if decide (r3≤300)then
 e66 qq p2>>=fun r6=>
 some (decide (r6≤300))
 else
 some false
 else
 some false
 else
 some false
abbrev K13 (p0:List Ent) (p1 p2:Tm) (p3:Int) (r:Bool) (C:Cf):Prop:=C 13 [] [slv entL p0 .no,tmA p1,tmA p2,ai p3] (ab r) [] 0
theorem q13:Qf 13 Tryz.f13:=⟨Tryz.func13,by kernel_rfl⟩
theorem k13{p0 p1 p2 p3 r}(h:K13 p0 p1 p2 p3 r Ci):K13 p0 p1 p2 p3 r Ct:=⟨h,⟨⟨tv,dE _⟩,⟨tv,tv,⟨tv,dT _⟩,tv⟩,⟨tv,tv,⟨tv,dT _⟩,tv⟩,tv,tv⟩,forall_nil,tv,forall_nil⟩
theorem c13{qq p0 p1 p2 p3 r}(h:e13 qq p0 p1 p2 p3=some r):K13 p0 p1 p2 p3 r Ct:=by
 unfold e13 at h
 rcases spl h with⟨h1,h⟩|⟨h1,h⟩
 have k:=oB 1 h1 o0
 rcases spl h with⟨h2,h⟩|⟨h2,h⟩
 obtain⟨r3,h4,h⟩:=obind h
 have k:=oC 1 [] (c66 h4)<|oB 0 h2 k
 rcases spl h with⟨h5,h⟩|⟨h5,h⟩
 obtain⟨r6,h7,h⟩:=obind h
 obtain rfl:=sj h
 exact k13 (tF q13 1 [] (oC 1 [] (c66 h7)<|oB 0 h5 k))
 obtain rfl:=sj h
 exact k13 (tF q13 0 [] (oB 0 h5 k))
 obtain rfl:=sj h
 exact k13 (tF q13 0 [] (oB 0 h2 k))
 obtain rfl:=sj h
 exact k13 (tF q13 0 [] (oB 1 h1 o0))
def e14(qq:Nat)  : Option (Bool):=
 e21 qq 4 (Tm.mk 2 2 []) (Tm.mk 1 0 [])>>=fun r1=>
 e21 qq 5 r1 (Tm.mk 2 2 [])>>=fun r3=>
 e15 qq [] r3 (Tm.mk 2 2 []) 5>>=fun r5=>
 if r5.1 then
 e15 qq [] (Tm.mk 2 2 []) (Tm.mk 1 0 []) 5>>=fun r8=>
 if r8.1 then
 if r5.2.1==1 then
 if r5.2.2==0 then
 some false
 else
 some false
 else
 some false
 else
 if r5.2.1==1 then
 if r5.2.2==0 then
 some (r8.2.2==0)
 else
 some false
 else
 some false
 else
 e15 qq [] (Tm.mk 2 2 []) (Tm.mk 1 0 []) 5>>=fun r15=>
 if r15.1 then
 some false
 else
 some false
abbrev K14 (r:Bool) (C:Cf):Prop:=C 14 [] [] (ab r) [] 0
theorem q14:Qf 14 Tryz.f14:=⟨Tryz.func14,by kernel_rfl⟩
theorem k14{r}(h:K14 r Ci):K14 r Ct:=⟨h,tv,forall_nil,tv,forall_nil⟩
theorem c14{qq r}(h:e14 qq  = some r):K14 r Ct:=by
 unfold e14 at h
 obtain⟨r1,h2,h⟩:=obind h
 obtain⟨r3,h4,h⟩:=obind h
 obtain⟨r5,h6,h⟩:=obind h
 have k:=oC 1 [] (c15 h6)<|oC 1 [] (c21 h4)<|oC 4 [] (c21 h2) o0
 rcases spl h with⟨h7,h⟩|⟨h7,h⟩
 obtain⟨r8,h9,h⟩:=obind h
 have k:=oC 4 [] (c15 h9)<|oB 0 h7 k
 rcases spl h with⟨h10,h⟩|⟨h10,h⟩
 have k:=oB 0 h10 k
 rcases spl h with⟨h11,h⟩|⟨h11,h⟩
 have k:=oB 2 h11 k
 rcases spl h with⟨h12,h⟩|⟨h12,h⟩
 obtain rfl:=sj h
 exact k14 (tF q14 1 [] (oB 0 h12 k))
 obtain rfl:=sj h
 exact k14 (tF q14 0 [] (oB 0 h12 k))
 obtain rfl:=sj h
 exact k14 (tF q14 0 [] (oB 2 h11 k))
 have k:=oB 0 h10 k
 rcases spl h with⟨h13,h⟩|⟨h13,h⟩
 have k:=oB 2 h13 k
 rcases spl h with⟨h14,h⟩|⟨h14,h⟩
 obtain rfl:=sj h
 exact k14 (tF q14 2 [] (oB 0 h14 k))
 obtain rfl:=sj h
 exact k14 (tF q14 0 [] (oB 0 h14 k))
 obtain rfl:=sj h
 exact k14 (tF q14 0 [] (oB 2 h13 k))
 obtain⟨r15,h16,h⟩:=obind h
 have k:=oC 4 [] (c15 h16)<|oB 0 h7 k
 rcases spl h with⟨h17,h⟩|⟨h17,h⟩
 obtain rfl:=sj h
 exact k14 (tF q14 2 [] (oB 0 h17 k))
 obtain rfl:=sj h
 exact k14 (tF q14 2 [] (oB 0 h17 k))
def e24vadn(qq:Nat)(p0 q1 q2 q3 q4:Int)(q5:List Tm):Option (Tm):=
 e25 qq (Tm.mk 6 p0 []) [(Tm.mk q1 q2 []),(Tm.mk q1 q2 []),(Tm.mk q3 q4 q5)]>>=fun r1=>
 some r1
abbrev K24vadn (p0 q1 q2 q3 q4:Int) (q5:List Tm) (r:Tm) (C:Cf):Prop:=C 24 [.cells [ai q1,ai q2,slv tmCells ([]:List Tm) .nl],.cells [ai q3,ai q4,slv tmCells q5 .no]] [ai p0,.mp 0 0,.mp 1 0] (tmA r) [.cells [ai q1,ai q2,slv tmCells ([]:List Tm) .nl],.cells [ai q3,ai q4,slv tmCells q5 .no]] 0
theorem q24vadn:Qf 24 Tryz.f24:=⟨Tryz.func24,by kernel_rfl⟩
theorem k24vadn{p0 q1 q2 q3 q4 q5 r}(h:K24vadn p0 q1 q2 q3 q4 q5 r Ci):K24vadn p0 q1 q2 q3 q4 q5 r Ct:=⟨h,⟨tv,(lz rfl),(lz rfl),tv⟩,(forall_cons ⟨tv,tv,⟨tv,dT _⟩,tv⟩ (forall_cons ⟨tv,tv,⟨tv,dT _⟩,tv⟩ forall_nil)),⟨tv,tv,dT _,tv⟩,(forall_cons ⟨tv,tv,dT _,tv⟩ (forall_cons ⟨tv,tv,dT _,tv⟩ forall_nil))⟩
theorem c24vadn{qq p0 q1 q2 q3 q4 q5 r}(h:e24vadn qq p0 q1 q2 q3 q4 q5=some r):K24vadn p0 q1 q2 q3 q4 q5 r Ct:=by
 unfold e24vadn at h
 obtain⟨r1,h2,h⟩:=obind h
 obtain rfl:=sj h
 exact k24vadn (tG q24vadn 1 [] [0,1] [] true (oD (dT r1.sub)<|oD (dT q5)<|oD (dT ([]:List Tm))<|oC 0 [] (c25 h2)<|oS 3 (obLitR tm_eq [(Tm.mk q1 q2 []),(Tm.mk q1 q2 []),(Tm.mk q3 q4 q5)]) o0))
def e5(qq:Nat)(p0:List Ent)(p1:Tm):Option (Bool):=
 e13 qq p0 p1 p1 0>>=fun r1=>
 if r1 then
 e18 qq p1>>=fun r4=>
 if r4 then
 e19 qq p1>>=fun r7=>
 if decide (r7>60)then
 e14 qq>>=fun r10=>
 some r10
 else
 e20 qq p1 0>>=fun r12=>
 if decide (r12>1000)then
 e14 qq>>=fun r15=>
 some r15
 else
 e22 qq p1>>=fun r17=>
 e21 qq 5 r17 (Tm.mk 1 0 [])>>=fun r19=>
 e21 qq 4 (Tm.mk 2 0 []) r19>>=fun r21=>
 e15 qq p0 r21 p1 400>>=fun r23=>
 if r23.1 then
 if r23.2.2==0 then
 if decide ((List.length p0:Int)<18)then
 e14 qq>>=fun r28=>
 some r28
 else
 gidx p0 14>>=fun x30=>
 if (List.length x30.fields:Int) != 2 then
 e14 qq>>=fun r33=>
 some r33
 else
 if x30.pars != 2 then
 e14 qq>>=fun r36=>
 some r36
 else
 e23 qq p0>>=fun r38=>
 if r38 then
 e24vadn qq 16 2 0 p1.k p1.n p1.sub>>=fun r41=>
 e24vadn qq 17 2 0 p1.k p1.n p1.sub>>=fun r43=>
 e25 qq (Tm.mk 6 15 []) [(Tm.mk 2 0 []),(Tm.mk 2 0 []),r41,r43]>>=fun r45=>
 e17 qq p0 p1 400>>=fun r47=>
 if r47.2.2 != 0 then
 e14 qq>>=fun r50=>
 some r50
 else
 if r47.1.k==4 then
 e14 qq>>=fun r53=>
 some r53
 else
 e26 qq p0 r47.1>>=fun r55=>
 if decide (r55≥0)then
 if r55 != 15 then
 e14 qq>>=fun r59=>
 some r59
 else
 e15 qq p0 r45 p1 400>>=fun r61=>
 if r61.1 then
 if r61.2.2 != 0 then
 e14 qq>>=fun r65=>
 some r65
 else
 e14 qq>>=fun r67=>
 some r67
 else
 if r61.2.2 != 0 then
 e14 qq>>=fun r70=>
 some r70
 else
 some false
 else
 e15 qq p0 r45 p1 400>>=fun r72=>
 if r72.1 then
 if r72.2.2 != 0 then
 e14 qq>>=fun r76=>
 some r76
 else
 e14 qq>>=fun r78=>
 some r78
 else
 if r72.2.2 != 0 then
 e14 qq>>=fun r81=>
 some r81
 else
 some false
 else
 e14 qq>>=fun r83=>
 some r83
 else
 if decide ((List.length p0:Int)<18)then
 e14 qq>>=fun r86=>
 some r86
 else
 gidx p0 14>>=fun x88=>
 if (List.length x88.fields:Int) != 2 then
 e14 qq>>=fun r91=>
 some r91
 else
 if x88.pars != 2 then
 e14 qq>>=fun r94=>
 some r94
 else
 e23 qq p0>>=fun r96=>
 if r96 then
 e24vadn qq 16 2 0 p1.k p1.n p1.sub>>=fun r99=>
 e24vadn qq 17 2 0 p1.k p1.n p1.sub>>=fun r101=>
 e25 qq (Tm.mk 6 15 []) [(Tm.mk 2 0 []),(Tm.mk 2 0 []),r99,r101]>>=fun r103=>
 e17 qq p0 p1 400>>=fun r105=>
 if r105.2.2 != 0 then
 e14 qq>>=fun r108=>
 some r108
 else
 if r105.1.k==4 then
 e14 qq>>=fun r111=>
 some r111
 else
 e26 qq p0 r105.1>>=fun r113=>
 if decide (r113≥0)then
 if r113 != 15 then
 e14 qq>>=fun r117=>
 some r117
 else
 e15 qq p0 r103 p1 400>>=fun r119=>
 if r119.1 then
 if r119.2.2 != 0 then
 e14 qq>>=fun r123=>
 some r123
 else
 e14 qq>>=fun r125=>
 some r125
 else
 if r119.2.2 != 0 then
 e14 qq>>=fun r128=>
 some r128
 else
 some false
 else
 e15 qq p0 r103 p1 400>>=fun r130=>
 if r130.1 then
 if r130.2.2 != 0 then
 e14 qq>>=fun r134=>
 some r134
 else
 e14 qq>>=fun r136=>
 some r136
 else
 if r130.2.2 != 0 then
 e14 qq>>=fun r139=>
 some r139
 else
 some false
 else
 e14 qq>>=fun r141=>
 some r141
 else
 if r23.2.2==0 then
 some false
 else
 if decide ((List.length p0:Int)<18)then
 e14 qq>>=fun r145=>
 some r145
 else
 gidx p0 14>>=fun x147=>
 if (List.length x147.fields:Int) != 2 then
 e14 qq>>=fun r150=>
 some r150
 else
 if x147.pars != 2 then
 e14 qq>>=fun r153=>
 some r153
 else
 e23 qq p0>>=fun r155=>
 if r155 then
 e24vadn qq 16 2 0 p1.k p1.n p1.sub>>=fun r158=>
 e24vadn qq 17 2 0 p1.k p1.n p1.sub>>=fun r160=>
 e25 qq (Tm.mk 6 15 []) [(Tm.mk 2 0 []),(Tm.mk 2 0 []),r158,r160]>>=fun r162=>
 e17 qq p0 p1 400>>=fun r164=>
 if r164.2.2 != 0 then
 e14 qq>>=fun r167=>
 some r167
 else
 if r164.1.k==4 then
 e14 qq>>=fun r170=>
 some r170
 else
 e26 qq p0 r164.1>>=fun r172=>
 if decide (r172≥0)then
 if r172 != 15 then
 e14 qq>>=fun r176=>
 some r176
 else
 e15 qq p0 r162 p1 400>>=fun r178=>
 if r178.1 then
 if r178.2.2 != 0 then
 e14 qq>>=fun r182=>
 some r182
 else
 e14 qq>>=fun r184=>
 some r184
 else
 if r178.2.2 != 0 then
 e14 qq>>=fun r187=>
 some r187
 else
 some false
 else
 e15 qq p0 r162 p1 400>>=fun r189=>
 if r189.1 then
 if r189.2.2 != 0 then
 e14 qq>>=fun r193=>
 some r193
 else
 e14 qq>>=fun r195=>
 some r195
 else
 if r189.2.2 != 0 then
 e14 qq>>=fun r198=>
 some r198
 else
 some false
 else
 e14 qq>>=fun r200=>
 some r200
 else
 e14 qq>>=fun r202=>
 some r202
 else
 e14 qq>>=fun r204=>
 some r204
abbrev K5 (p0:List Ent) (p1:Tm) (r:Bool) (C:Cf):Prop:=C 5 [] [slv entL p0 .no,tmA p1] (ab r) [] 0
theorem q5:Qf 5 Tryz.f5:=⟨Tryz.func5,by kernel_rfl⟩
theorem k5{p0 p1 r}(h:K5 p0 p1 r Ci):K5 p0 p1 r Ct:=⟨h,⟨⟨tv,dE _⟩,⟨tv,tv,⟨tv,dT _⟩,tv⟩,tv⟩,forall_nil,tv,forall_nil⟩
theorem c5{qq p0 p1 r}(h:e5 qq p0 p1=some r):K5 p0 p1 r Ct:=by
 unfold e5 at h
 obtain⟨r1,h2,h⟩:=obind h
 rcases spl h with⟨h3,h⟩|⟨h3,h⟩
 obtain⟨r4,h5,h⟩:=obind h
 have k:=oK 2 [] h3 (c13 h2) o0
 rcases spl h with⟨h6,h⟩|⟨h6,h⟩
 obtain⟨r7,h8,h⟩:=obind h
 have k:=oC 2 [] (c19 h8)<|oK 2 [] h6 (c18 h5) k
 rcases spl h with⟨h9,h⟩|⟨h9,h⟩
 obtain⟨r10,h11,h⟩:=obind h
 obtain rfl:=sj h
 exact k5 (tF q5 0 [] (oC 0 [] (c14 h11)<|oB 0 h9 k))
 obtain⟨r12,h13,h⟩:=obind h
 have k:=oC 1 [] (c20 h13)<|oB 0 h9 k
 rcases spl h with⟨h14,h⟩|⟨h14,h⟩
 obtain⟨r15,h16,h⟩:=obind h
 obtain rfl:=sj h
 exact k5 (tF q5 0 [] (oC 0 [] (c14 h16)<|oB 0 h14 k))
 obtain⟨r17,h18,h⟩:=obind h
 obtain⟨r19,h20,h⟩:=obind h
 obtain⟨r21,h22,h⟩:=obind h
 obtain⟨r23,h24,h⟩:=obind h
 have k:=oC 3 [] (c15 h24)<|oC 0 [] (c21 h22)<|oC 0 [] (c21 h20)<|oC 3 [] (c22 h18)<|oB 0 h14 k
 rcases spl h with⟨h25,h⟩|⟨h25,h⟩
 have k:=oB 0 h25 k
 rcases spl h with⟨h26,h⟩|⟨h26,h⟩
 have k:=oB 2 h26 k
 rcases spl h with⟨h27,h⟩|⟨h27,h⟩
 obtain⟨r28,h29,h⟩:=obind h
 obtain rfl:=sj h
 exact k5 (tF q5 0 [] (oC 0 [] (c14 h29)<|oB 2 h27 k))
 obtain⟨x30,h31,h⟩:=obind h
 have k:=oA 0 (ix22 (o:=.no) h31)<|oB 2 h27 k
 rcases spl h with⟨h32,h⟩|⟨h32,h⟩
 obtain⟨r33,h34,h⟩:=obind h
 obtain rfl:=sj h
 exact k5 (tF q5 0 [] (oC 0 [] (c14 h34)<|oB 2 h32 k))
 have k:=oA 0 (ix22 (o:=.no) h31)<|oB 2 h32 k
 rcases spl h with⟨h35,h⟩|⟨h35,h⟩
 obtain⟨r36,h37,h⟩:=obind h
 obtain rfl:=sj h
 exact k5 (tF q5 0 [] (oC 0 [] (c14 h37)<|oB 1 h35 k))
 obtain⟨r38,h39,h⟩:=obind h
 have k:=oB 1 h35 k
 rcases spl h with⟨h40,h⟩|⟨h40,h⟩
 obtain⟨r41,h42,h⟩:=obind h
 obtain⟨r43,h44,h⟩:=obind h
 obtain⟨r45,h46,h⟩:=obind h
 obtain⟨r47,h48,h⟩:=obind h
 have k:=oC 2 [] (c17 h48)<|oC 0 [] (c25 h46)<|oS 0 (obLitR tm_eq [(Tm.mk 2 0 []),(Tm.mk 2 0 []),r41,r43])<|oRo 0 [1,0] (c24vadn h44)<|oRo 3 [1,0] (c24vadn h42)<|oK 0 [] h40 (c23 h39) k
 rcases spl h with⟨h49,h⟩|⟨h49,h⟩
 obtain⟨r50,h51,h⟩:=obind h
 obtain rfl:=sj h
 exact k5 (tF q5 0 [] (oC 0 [] (c14 h51)<|oB 4 h49 k))
 have k:=oB 4 h49 k
 rcases spl h with⟨h52,h⟩|⟨h52,h⟩
 obtain⟨r53,h54,h⟩:=obind h
 obtain rfl:=sj h
 exact k5 (tF q5 0 [] (oC 0 [] (c14 h54)<|oB 1 h52 k))
 obtain⟨r55,h56,h⟩:=obind h
 have k:=oC 1 [] (c26 h56)<|oB 1 h52 k
 rcases spl h with⟨h57,h⟩|⟨h57,h⟩
 have k:=oC 1 [] (c26 h56)<|oB 0 h57 k
 rcases spl h with⟨h58,h⟩|⟨h58,h⟩
 obtain⟨r59,h60,h⟩:=obind h
 obtain rfl:=sj h
 exact k5 (tF q5 0 [] (oC 0 [] (c14 h60)<|oB 0 h58 k))
 obtain⟨r61,h62,h⟩:=obind h
 have k:=oC 2 [] (c15 h62)<|oB 0 h58 k
 rcases spl h with⟨h63,h⟩|⟨h63,h⟩
 have k:=oB 0 h63 k
 rcases spl h with⟨h64,h⟩|⟨h64,h⟩
 obtain⟨r65,h66,h⟩:=obind h
 obtain rfl:=sj h
 exact k5 (tF q5 0 [] (oC 0 [] (c14 h66)<|oB 2 h64 k))
 obtain⟨r67,h68,h⟩:=obind h
 obtain rfl:=sj h
 exact k5 (tF q5 0 [] (oC 0 [] (c14 h68)<|oB 2 h64 k))
 have k:=oB 0 h63 k
 rcases spl h with⟨h69,h⟩|⟨h69,h⟩
 obtain⟨r70,h71,h⟩:=obind h
 obtain rfl:=sj h
 exact k5 (tF q5 0 [] (oC 0 [] (c14 h71)<|oB 2 h69 k))
 obtain rfl:=sj h
 exact k5 (tF q5 0 [] (oB 2 h69 k))
 obtain⟨r72,h73,h⟩:=obind h
 have k:=oC 2 [] (c15 h73)<|oB 0 h57 k
 rcases spl h with⟨h74,h⟩|⟨h74,h⟩
 have k:=oB 0 h74 k
 rcases spl h with⟨h75,h⟩|⟨h75,h⟩
 obtain⟨r76,h77,h⟩:=obind h
 obtain rfl:=sj h
 exact k5 (tF q5 0 [] (oC 0 [] (c14 h77)<|oB 2 h75 k))
 obtain⟨r78,h79,h⟩:=obind h
 obtain rfl:=sj h
 exact k5 (tF q5 0 [] (oC 0 [] (c14 h79)<|oB 2 h75 k))
 have k:=oB 0 h74 k
 rcases spl h with⟨h80,h⟩|⟨h80,h⟩
 obtain⟨r81,h82,h⟩:=obind h
 obtain rfl:=sj h
 exact k5 (tF q5 0 [] (oC 0 [] (c14 h82)<|oB 2 h80 k))
 obtain rfl:=sj h
 exact k5 (tF q5 0 [] (oB 2 h80 k))
 obtain⟨r83,h84,h⟩:=obind h
 obtain rfl:=sj h
 exact k5 (tF q5 0 [] (oC 1 [] (c14 h84)<|oK 0 [] h40 (c23 h39) k))
 have k:=oB 2 h26 k
 rcases spl h with⟨h85,h⟩|⟨h85,h⟩
 obtain⟨r86,h87,h⟩:=obind h
 obtain rfl:=sj h
 exact k5 (tF q5 0 [] (oC 0 [] (c14 h87)<|oB 1 h85 k))
 obtain⟨x88,h89,h⟩:=obind h
 have k:=oA 0 (ix22 (o:=.no) h89)<|oB 1 h85 k
 rcases spl h with⟨h90,h⟩|⟨h90,h⟩
 obtain⟨r91,h92,h⟩:=obind h
 obtain rfl:=sj h
 exact k5 (tF q5 0 [] (oC 0 [] (c14 h92)<|oB 2 h90 k))
 have k:=oA 0 (ix22 (o:=.no) h89)<|oB 2 h90 k
 rcases spl h with⟨h93,h⟩|⟨h93,h⟩
 obtain⟨r94,h95,h⟩:=obind h
 obtain rfl:=sj h
 exact k5 (tF q5 0 [] (oC 0 [] (c14 h95)<|oB 1 h93 k))
 obtain⟨r96,h97,h⟩:=obind h
 have k:=oB 1 h93 k
 rcases spl h with⟨h98,h⟩|⟨h98,h⟩
 obtain⟨r99,h100,h⟩:=obind h
 obtain⟨r101,h102,h⟩:=obind h
 obtain⟨r103,h104,h⟩:=obind h
 obtain⟨r105,h106,h⟩:=obind h
 have k:=oC 2 [] (c17 h106)<|oC 0 [] (c25 h104)<|oS 0 (obLitR tm_eq [(Tm.mk 2 0 []),(Tm.mk 2 0 []),r99,r101])<|oRo 0 [1,0] (c24vadn h102)<|oRo 3 [1,0] (c24vadn h100)<|oK 0 [] h98 (c23 h97) k
 rcases spl h with⟨h107,h⟩|⟨h107,h⟩
 obtain⟨r108,h109,h⟩:=obind h
 obtain rfl:=sj h
 exact k5 (tF q5 0 [] (oC 0 [] (c14 h109)<|oB 4 h107 k))
 have k:=oB 4 h107 k
 rcases spl h with⟨h110,h⟩|⟨h110,h⟩
 obtain⟨r111,h112,h⟩:=obind h
 obtain rfl:=sj h
 exact k5 (tF q5 0 [] (oC 0 [] (c14 h112)<|oB 1 h110 k))
 obtain⟨r113,h114,h⟩:=obind h
 have k:=oC 1 [] (c26 h114)<|oB 1 h110 k
 rcases spl h with⟨h115,h⟩|⟨h115,h⟩
 have k:=oC 1 [] (c26 h114)<|oB 0 h115 k
 rcases spl h with⟨h116,h⟩|⟨h116,h⟩
 obtain⟨r117,h118,h⟩:=obind h
 obtain rfl:=sj h
 exact k5 (tF q5 0 [] (oC 0 [] (c14 h118)<|oB 0 h116 k))
 obtain⟨r119,h120,h⟩:=obind h
 have k:=oC 2 [] (c15 h120)<|oB 0 h116 k
 rcases spl h with⟨h121,h⟩|⟨h121,h⟩
 have k:=oB 0 h121 k
 rcases spl h with⟨h122,h⟩|⟨h122,h⟩
 obtain⟨r123,h124,h⟩:=obind h
 obtain rfl:=sj h
 exact k5 (tF q5 0 [] (oC 0 [] (c14 h124)<|oB 2 h122 k))
 obtain⟨r125,h126,h⟩:=obind h
 obtain rfl:=sj h
 exact k5 (tF q5 0 [] (oC 0 [] (c14 h126)<|oB 2 h122 k))
 have k:=oB 0 h121 k
 rcases spl h with⟨h127,h⟩|⟨h127,h⟩
 obtain⟨r128,h129,h⟩:=obind h
 obtain rfl:=sj h
 exact k5 (tF q5 0 [] (oC 0 [] (c14 h129)<|oB 2 h127 k))
 obtain rfl:=sj h
 exact k5 (tF q5 0 [] (oB 2 h127 k))
 obtain⟨r130,h131,h⟩:=obind h
 have k:=oC 2 [] (c15 h131)<|oB 0 h115 k
 rcases spl h with⟨h132,h⟩|⟨h132,h⟩
 have k:=oB 0 h132 k
 rcases spl h with⟨h133,h⟩|⟨h133,h⟩
 obtain⟨r134,h135,h⟩:=obind h
 obtain rfl:=sj h
 exact k5 (tF q5 0 [] (oC 0 [] (c14 h135)<|oB 2 h133 k))
 obtain⟨r136,h137,h⟩:=obind h
 obtain rfl:=sj h
 exact k5 (tF q5 0 [] (oC 0 [] (c14 h137)<|oB 2 h133 k))
 have k:=oB 0 h132 k
 rcases spl h with⟨h138,h⟩|⟨h138,h⟩
 obtain⟨r139,h140,h⟩:=obind h
 obtain rfl:=sj h
 exact k5 (tF q5 0 [] (oC 0 [] (c14 h140)<|oB 2 h138 k))
 obtain rfl:=sj h
 exact k5 (tF q5 0 [] (oB 2 h138 k))
 obtain⟨r141,h142,h⟩:=obind h
 obtain rfl:=sj h
 exact k5 (tF q5 0 [] (oC 1 [] (c14 h142)<|oK 0 [] h98 (c23 h97) k))
 have k:=oB 0 h25 k
 rcases spl h with⟨h143,h⟩|⟨h143,h⟩
 obtain rfl:=sj h
 exact k5 (tF q5 1 [] (oB 2 h143 k))
 have k:=oB 2 h143 k
 rcases spl h with⟨h144,h⟩|⟨h144,h⟩
 obtain⟨r145,h146,h⟩:=obind h
 obtain rfl:=sj h
 exact k5 (tF q5 0 [] (oC 0 [] (c14 h146)<|oB 1 h144 k))
 obtain⟨x147,h148,h⟩:=obind h
 have k:=oA 0 (ix22 (o:=.no) h148)<|oB 1 h144 k
 rcases spl h with⟨h149,h⟩|⟨h149,h⟩
 obtain⟨r150,h151,h⟩:=obind h
 obtain rfl:=sj h
 exact k5 (tF q5 0 [] (oC 0 [] (c14 h151)<|oB 2 h149 k))
 have k:=oA 0 (ix22 (o:=.no) h148)<|oB 2 h149 k
 rcases spl h with⟨h152,h⟩|⟨h152,h⟩
 obtain⟨r153,h154,h⟩:=obind h
 obtain rfl:=sj h
 exact k5 (tF q5 0 [] (oC 0 [] (c14 h154)<|oB 1 h152 k))
 obtain⟨r155,h156,h⟩:=obind h
 have k:=oB 1 h152 k
 rcases spl h with⟨h157,h⟩|⟨h157,h⟩
 obtain⟨r158,h159,h⟩:=obind h
 obtain⟨r160,h161,h⟩:=obind h
 obtain⟨r162,h163,h⟩:=obind h
 obtain⟨r164,h165,h⟩:=obind h
 have k:=oC 2 [] (c17 h165)<|oC 0 [] (c25 h163)<|oS 0 (obLitR tm_eq [(Tm.mk 2 0 []),(Tm.mk 2 0 []),r158,r160])<|oRo 0 [1,0] (c24vadn h161)<|oRo 3 [1,0] (c24vadn h159)<|oK 0 [] h157 (c23 h156) k
 rcases spl h with⟨h166,h⟩|⟨h166,h⟩
 obtain⟨r167,h168,h⟩:=obind h
 obtain rfl:=sj h
 exact k5 (tF q5 0 [] (oC 0 [] (c14 h168)<|oB 4 h166 k))
 have k:=oB 4 h166 k
 rcases spl h with⟨h169,h⟩|⟨h169,h⟩
 obtain⟨r170,h171,h⟩:=obind h
 obtain rfl:=sj h
 exact k5 (tF q5 0 [] (oC 0 [] (c14 h171)<|oB 1 h169 k))
 obtain⟨r172,h173,h⟩:=obind h
 have k:=oC 1 [] (c26 h173)<|oB 1 h169 k
 rcases spl h with⟨h174,h⟩|⟨h174,h⟩
 have k:=oC 1 [] (c26 h173)<|oB 0 h174 k
 rcases spl h with⟨h175,h⟩|⟨h175,h⟩
 obtain⟨r176,h177,h⟩:=obind h
 obtain rfl:=sj h
 exact k5 (tF q5 0 [] (oC 0 [] (c14 h177)<|oB 0 h175 k))
 obtain⟨r178,h179,h⟩:=obind h
 have k:=oC 2 [] (c15 h179)<|oB 0 h175 k
 rcases spl h with⟨h180,h⟩|⟨h180,h⟩
 have k:=oB 0 h180 k
 rcases spl h with⟨h181,h⟩|⟨h181,h⟩
 obtain⟨r182,h183,h⟩:=obind h
 obtain rfl:=sj h
 exact k5 (tF q5 0 [] (oC 0 [] (c14 h183)<|oB 2 h181 k))
 obtain⟨r184,h185,h⟩:=obind h
 obtain rfl:=sj h
 exact k5 (tF q5 0 [] (oC 0 [] (c14 h185)<|oB 2 h181 k))
 have k:=oB 0 h180 k
 rcases spl h with⟨h186,h⟩|⟨h186,h⟩
 obtain⟨r187,h188,h⟩:=obind h
 obtain rfl:=sj h
 exact k5 (tF q5 0 [] (oC 0 [] (c14 h188)<|oB 2 h186 k))
 obtain rfl:=sj h
 exact k5 (tF q5 0 [] (oB 2 h186 k))
 obtain⟨r189,h190,h⟩:=obind h
 have k:=oC 2 [] (c15 h190)<|oB 0 h174 k
 rcases spl h with⟨h191,h⟩|⟨h191,h⟩
 have k:=oB 0 h191 k
 rcases spl h with⟨h192,h⟩|⟨h192,h⟩
 obtain⟨r193,h194,h⟩:=obind h
 obtain rfl:=sj h
 exact k5 (tF q5 0 [] (oC 0 [] (c14 h194)<|oB 2 h192 k))
 obtain⟨r195,h196,h⟩:=obind h
 obtain rfl:=sj h
 exact k5 (tF q5 0 [] (oC 0 [] (c14 h196)<|oB 2 h192 k))
 have k:=oB 0 h191 k
 rcases spl h with⟨h197,h⟩|⟨h197,h⟩
 obtain⟨r198,h199,h⟩:=obind h
 obtain rfl:=sj h
 exact k5 (tF q5 0 [] (oC 0 [] (c14 h199)<|oB 2 h197 k))
 obtain rfl:=sj h
 exact k5 (tF q5 0 [] (oB 2 h197 k))
 obtain⟨r200,h201,h⟩:=obind h
 obtain rfl:=sj h
 exact k5 (tF q5 0 [] (oC 1 [] (c14 h201)<|oK 0 [] h157 (c23 h156) k))
 obtain⟨r202,h203,h⟩:=obind h
 obtain rfl:=sj h
 exact k5 (tF q5 0 [] (oC 1 [] (c14 h203)<|oK 2 [] h6 (c18 h5) k))
 obtain⟨r204,h205,h⟩:=obind h
 obtain rfl:=sj h
 exact k5 (tF q5 0 [] (oC 1 [] (c14 h205)<|oK 2 [] h3 (c13 h2) o0))
theorem awake16(q:Nat):e14 (q+200)=some true:=by kernel_rfl
theorem ev_awake16:Evt (fun q=>e14 q) true:=⟨200,fun q hq=>by
 obtain⟨k,rfl⟩:∃k,q=k+200:=⟨q-200,by omega⟩
 exact awake16 k⟩
theorem tot_light16(l:List Ent)(a b:Tm)(f:Int):Tot (fun q=>e13 q l a b f) (fun r=>r=true->l.length≤60):=by
 simp only[e13]
 refine Tot.ite (fun h=>Tot.ite (fun _=>?_) fun _=>Tot.ret (fun h=>by cases h)) fun _=>Tot.ret (fun h=>by cases h)
 have:=of_decide_eq_true h
 exact Tot.bind (P:=fun _=>True) ((ev_rSize a).tot trivial) fun r _=>Tot.ite (fun _=>Tot.bind (P:=fun _=>True) ((ev_rSize b).tot trivial) fun r _=>Tot.ret fun _=>by omega) fun _=>Tot.ret (fun h=>by cases h)
theorem pair_shape{N:ByteArray->Bool}{l:List Ent}(hE:AllE N l)(h18:18≤l.length)(hf:(ent l 14).fields.length=2):isT l 14 1=true∧(ent l 14).cons=[15]∧(ent l 14).fields=[16,17]:=by
 have hk:=(entryT_spec (hE.2 14 (by omega) (by omega)))
 have hkk:(ent l 14).kind=1:=by
  rcases hk.2.2.2.2.2 with h|h|h|h
  ·exact h
  ·have:=hk.2.2.1 h
   unfold conT at this
   simp only[Bool.and_eq_true]at this
   have ho:=this.1
   unfold ownedT ownA at ho
   simp only[Bool.and_eq_true,decide_eq_true_eq,beq_iff_eq]at ho
   omega
  ·have:=hk.2.2.2.2.1 h
   unfold defT at this
   simp only[Bool.and_eq_true,decide_eq_true_eq,beq_iff_eq]at this
   omega
  ·have:=hk.2.2.2.1 h
   unfold projT at this
   simp only[Bool.and_eq_true]at this
   have ho:=this.1
   unfold ownedT ownA at ho
   simp only[Bool.and_eq_true,decide_eq_true_eq,beq_iff_eq]at ho
   omega
 have hi:isT l 14 1=true:=by unfold isT;simp[hkk];omega
 have hft:=hk.2.1 hkk
 unfold familyT at hft
 simp only[Bool.and_eq_true,Bool.or_eq_true,decide_eq_true_eq]at hft
 have hD:=hft.2.resolve_left fun h=>by omega
 have hC:=hft.1.2
 unfold famD at hD
 unfold famC at hC
 simp only[Bool.and_eq_true,beq_iff_eq,decide_eq_true_eq]at hD hC
 obtain⟨⟨⟨⟨⟨d1,d2⟩,d3⟩,d4⟩,d5⟩,d6⟩:=hD
 refine⟨hi,?_,?_⟩
 ·rcases hc:(ent l 14).cons with _|⟨w,_|⟨v,s⟩⟩<;>rw[hc]at d2<;>simp at d2
  have hrun:=hC.1.2
  rw[hc,runT]at hrun
  simp only[Bool.and_eq_true,beq_iff_eq]at hrun
  rw[hrun.1];rfl
 ·rcases hc:(ent l 14).fields with _|⟨w,_|⟨v,_|⟨u,s⟩⟩⟩<;>rw[hc]at hf<;>simp at hf
  rw[hc,runT,runT]at d3
  simp only[Bool.and_eq_true,beq_iff_eq]at d3
  rw[d3.1,d3.2.1];rfl
theorem ev_ConvEta(l:List Ent)(t:Tm)(he:∀e∈l,EOk e)(hc:∀e∈l,ECl e)(ht:t.Ok):Evt (fun q=>e5 q l t) true:=by
 simp only[e5]
 have aw:Evt (fun q=>e14 q>>=fun r=>some r) true:=ev_awake16.bind Evt.ret
 obtain⟨g,hg,hg'⟩:=tot_light16 l t t 0
 refine hg.bind ?_
 cases g with
 |false=>exact Evt.ifF rfl aw
 |true=>
  have hl:=hg' rfl
  refine Evt.ifT rfl ((ev_rShaped t ht).bind (Evt.iff (fun hs=>?_) fun _=>aw))
  have hsp:=shapedT_spec hs
  refine(ev_rDepth t).bind (Evt.iff (fun _=>aw) fun _=>?_)
  refine(ev_rLoose t 0 hsp.2.2 (by omega) (by omega)).bind (Evt.iff (fun _=>aw) fun _=>?_)
  refine(ev_up t hs).bind ((ev_rTwo 5 _ _).bind ((ev_rTwo 4 _ _).bind ?_))
  have hup:(lfT t 0 0 1).Ok:=lfT_ok _ _ _ _ ht
  have hfun:(Tm.mk 4 0 [Tm.mk 2 0 [],Tm.mk 5 0 [lfT t 0 0 1,Tm.mk 1 0 []]]).Ok:=ok_mk2 (leaf_ok 2 0) (ok_mk2 hup (leaf_ok 1 0))
  have F1:Evt (fun q=>e24vadn q 16 2 0 t.k t.n t.sub) (fldA 16 [.mk 2 0 [],.mk 2 0 []] t):=by
   simp only[e24vadn,tm_eta]
   exact(ev_rApply _ _ (by simp)).bind (Evt.ret.eq (by simp only[apT,fldA]))
  have F2:Evt (fun q=>e24vadn q 17 2 0 t.k t.n t.sub) (fldA 17 [.mk 2 0 [],.mk 2 0 []] t):=by
   simp only[e24vadn,tm_eta]
   exact(ev_rApply _ _ (by simp)).bind (Evt.ret.eq (by simp only[apT,fldA]))
  have P1:Evt (fun q=>e25 q (.mk 6 15 []) [.mk 2 0 [],.mk 2 0 [],fldA 16 [.mk 2 0 [],.mk 2 0 []] t,fldA 17 [.mk 2 0 [],.mk 2 0 []] t]) (apT (.mk 6 15 []) [.mk 2 0 [],.mk 2 0 [],fldA 16 [.mk 2 0 [],.mk 2 0 []] t,fldA 17 [.mk 2 0 [],.mk 2 0 []] t]):=ev_rApply _ _ (by simp)
  have hfl:∀f:Int,(fldA f [.mk 2 0 [],.mk 2 0 []] t).Ok:=fun f=>by
   unfold fldA
   exact ok_mk2 (apT_ok _ _ (leaf_ok 6 f) fun x hx=>by simp at hx;rw[hx];exact leaf_ok 2 0) ht
  have hpo:(apT (.mk 6 15 []) [.mk 2 0 [],.mk 2 0 [],fldA 16 [.mk 2 0 [],.mk 2 0 []] t,fldA 17 [.mk 2 0 [],.mk 2 0 []] t]).Ok:=apT_ok _ _ (leaf_ok 6 15) fun x hx=>by
   simp only[List.mem_cons,List.not_mem_nil,or_false]at hx
   rcases hx with rfl|rfl|rfl|rfl
   ·exact leaf_ok 2 0
   ·exact leaf_ok 2 0
   ·exact hfl 16
   ·exact hfl 17
  obtain⟨x,hx,hx'⟩:∃x:Bool×Int×Int,Evt (fun q=>e15 q l (Tm.mk 4 0 [Tm.mk 2 0 [],Tm.mk 5 0 [lfT t 0 0 1,Tm.mk 1 0 []]]) t 400) x∧(x.2.2=0->x.1=true):=by
   rcases sign_cases l hl he hc with hn|⟨N,hE,hn⟩
   ·exact⟨_,conv_unf l hn _ t 400,fun h=>by simp at h⟩
   ·obtain⟨x,h1,h2⟩:=conv_of l hn hE he (by omega) hc _ t hfun ht 400 (by omega) (by omega)
    exact⟨x,h1,fun h=>by obtain⟨k,c⟩:=h2 h;exact Cv.fun hE c⟩
  refine hx.bind ?_
  rcases bcases x.1 with q1|q1<;>rcases bcases (x.2.2==0)with q2|q2<;>simp only[q1,q2,Bool.false_eq_true,if_true,if_false]
  case inr.inl=>
   have:=hx' (by simpa using q2)
   rw[q1]at this;cases this
  all_goals
   refine Evt.iff (fun _=>aw) fun h18=>?_
   have h18:=of_decide_eq_false h18
   refine Evt.pure (gidx_ent (n:=14) (by omega) (by omega)) (Evt.iff (fun _=>aw) fun hf=>Evt.iff (fun _=>aw) fun hp=>?_)
   have hf:(ent l 14).fields.length=2:=by simp at hf;omega
   have hp:(ent l 14).pars=2:=by simpa using hp
   obtain⟨N,hN⟩:=names_by
   obtain⟨b,hF,hA,hnw⟩:=ev_wNew N hN l (by omega) he hc
   refine(ev_refFormed l (by omega) he hF).bind ?_
   cases b with
   |false=>exact Evt.ifF rfl aw
   |true=>
    have hE:=hA rfl
    refine Evt.ifT rfl (F1.bind (F2.bind (P1.bind ?_)))
    have hcf:=pair_shape hE (by omega) hf
    have hnw:Evt (fun q=>e37 q l) (newT l true):=hnw
    rcases bring_is l hnw hE he t ht 400 (by omega) (by omega)with⟨y,e,kk,k0,k1,hxx,hgd⟩|⟨r,h1,h2⟩
    ·have hb:=hgd 400 k1 (by omega)
     refine hb.bind ?_
     by_cases e0:e=0
     ·subst e0
      obtain⟨hR,hbr⟩:RightM l t∧Br l t y 0 kk:=by
       rcases hxx with⟨-,h⟩|h
       ·exact absurd h (by decide)
       ·exact h
      have hsy:=hbr.shaped hR.shaped rfl
      rw[if_pos rfl]
      refine Evt.ifF rfl (Evt.iff (fun _=>aw) fun h4=>?_)
      have h4:y.k≠4:=by simpa using h4
      refine(ev_rCon l hE y hsy).bind ?_
      obtain⟨z,hz,hz'⟩:∃z:Bool×Int×Int,Evt (fun q=>e15 q l (apT (.mk 6 15 []) [.mk 2 0 [],.mk 2 0 [],fldA 16 [.mk 2 0 [],.mk 2 0 []] t,fldA 17 [.mk 2 0 [],.mk 2 0 []] t]) t 400) z∧((isCon l y->(hdT y).n=15)->z.2.2=0->z.1=true):=by
       obtain⟨z,h1,h2⟩:=conv_of l hnw hE he (by omega) hc _ t hpo ht 400 (by omega) (by omega)
       refine⟨z,h1,fun hy h=>?_⟩
       obtain⟨k,c⟩:=h2 h
       refine Cv.eta hE (r:=14) (c:=15) (pars:=[.mk 2 0 [],.mk 2 0 []]) hcf.1 (by rw[hcf.2.2];simp) hcf.2.1 (by rw[hp];rfl) hbr h4 (fun hcy=>?_) (b:=z.1) (k:=k) ?_
       ·rw[hy hcy]
        have:=rec_all hE hcf.1 (by rw[hcf.2.2];simp)
        obtain⟨c',a1,a2,a3,a4,a5,-⟩:=this
        rw[hcf.2.1]at a1
        simp at a1
        rw[a1];exact a5
       ·rw[hcf.2.2]
        exact c
      have tail:(isCon l y->(hdT y).n=15)->Evt (fun q=>if z.1=true then(if (z.2.2 != 0)=true then e14 q>>=fun r=>some r else e14 q>>=fun r=>some r)else if (z.2.2 != 0)=true then e14 q>>=fun r=>some r else some false) true:=fun hy=>by
       refine Evt.iff (fun _=>Evt.iff (fun _=>aw) fun _=>aw) fun hz1=>Evt.ifT ?_ aw
       have:z.2.2≠0:=fun e=>by rw[hz' hy e]at hz1;cases hz1
       simpa using this
      by_cases hcy:isCon l y
      ·rw[if_pos hcy]
       have hn:=good_n (shapedT_spec (hd_shaped hsy)).2.2
       refine Evt.ifT (decide_eq_true (by omega)) (Evt.iff (fun _=>aw) fun h15=>hz.bind (tail fun _=>?_))
       simpa using h15
      ·rw[if_neg hcy]
       exact Evt.ifF (decide_eq_false (by omega)) (hz.bind (tail fun h=>absurd h hcy))
     ·rw[if_neg e0]
      exact Evt.ifT (by simpa using e0) aw
    ·exact h1.bind (Evt.ifT (by simp[show r.2.2=8 from h2]) aw)
theorem rdE_ok{l:List Ent}(h:∀e∈l,RdE e):∀e∈l,EOk e:=fun e he=>⟨(h e he).1,(h e he).2.1,Nat.le_trans (h e he).2.2.1 (by decide),Nat.le_trans (h e he).2.2.2 (by decide)⟩
theorem rdE_cl{l:List Ent}(h:∀e∈l,RdE e):∀e∈l,ECl e:=fun e he=>⟨(h e he).2.2.1,(h e he).2.2.2⟩
theorem convEta_ct(l:List Ent)(t:Tm)(w0:∀e∈l,RdE e)(w1:t.Ok):CT Tryz.prog 5 [] [.sl (flat entL l) l.length .no,tmA t] (ab true) [] 0:=by
 obtain⟨q,hq⟩:=(ev_ConvEta l t (rdE_ok w0) (rdE_cl w0) w1).at
 exact c5 hq
end Go.Proofs.YtmfcobjnlabpoaaGreat
