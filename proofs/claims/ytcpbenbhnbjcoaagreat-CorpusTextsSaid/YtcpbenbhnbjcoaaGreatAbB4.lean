/- Texts: AbF242 AbF151va41311 AbF295va49556 AbF193 AbF241 AbF365vr0 AbF365vr1 AbF365 AbF305 AbF200 AbF121 AbF75 AbF243 AbF194vrz AbF194 AbF116 AbF21vz AbF69 AbF203 AbF421 AbF422 AbF310 AbF204 AbF124 AbF161 AbF268 AbF250 AbF206 AbF207 AbF126 AbF77 AbF106 AbF180 AbF210 AbF127 AbF325 AbF505 AbF326_430_506_507 AbF217 AbF128_163_192_214_215_216_293 AbF96 AbF152 AbF241va6293 AbF243va16350 AbF349va41200 AbF440 AbF350 AbF244va41200 AbF153va55758 AbF154va21719 AbF159 AbF92 AbF89 AbF52 AbF51va56329 AbF23 AbF72 AbF41va31478 AbF40va9610 AbF70va61739 AbF39va3116 AbF20va56823 AbF44 AbF123 AbF76 AbF78 AbF45 AbF129_218 AbF79 AbF162 AbF221_329 AbF130 AbF330 AbF331va17779 AbF222va45200_332va26706_332va11587_222va8346_434va26706_434va11587 AbF223va40187 AbF131 AbF80 AbF46 AbF22 AbF7va23259 AbF24va46026 AbF9va57595 AbF10 AbF11 AbF12 AbF13 AbF14 AbF15 AbF16 AbF4 AbEvC4 AbRead -/
import Derived.ChangeArms
import Derived.ChangeShapes
import Derived.Test.YtcpbenbhnbjcoaaGreatAbB3
set_option linter.unusedVariables false
set_option linter.unusedSimpArgs false
set_option linter.unusedSectionVars false
namespace Go.Proofs.YtcpbenbhnbjcoaaGreat
open Go Go.Ab
def e242Lbo(qq:Nat)(p0:List Ent)(p2:List TreeBind)(v11:List Tm)(v12:List ByteArray)(v35:Int):Option (List Tm×List ByteArray×Int×Int):=
 if decide (v35<(List.length p2:Int))then
 none
 else
 some (v11,v12,0,0)
def e242(qq:Nat)(p0:List Ent)(p1:List ByteArray)(p2:List TreeBind):Option (List Tm×List ByteArray×Int×Int):=
 e125 qq p0 p1>>=fun r1=>
 if r1 != 0 then
 none
 else
 if decide ((List.length p2:Int)>(w64 (24-(List.length p1:Int))))then
 none
 else
 gapp 16 ([]:List ByteArray) p1>>=fun l5=>
 e242Lbo qq p0 p2 [] l5 0
def g242LboE0(j:Nat->Value)(p0:List Ent)(p2:List TreeBind)(v11:List Tm)(v12:List ByteArray)(v35:Int):=sp j 68 0 [(0,slv entL p0 .no),(11,slv tmCells v11 (.st 0 3)),(12,slv strC v12 .full),(33,slv treeBindL p2 .no),(34,ai (List.length p2:Int)),(35,ai v35)]
def g242LboS0(p0:List Ent)(p2:List TreeBind)(v11:List Tm)(v12:List ByteArray)(v35:Int):LSt:=⟨[],0,[0],1,[]⟩
def g242LboE1(j:Nat->Value)(p0:List Ent)(p2:List TreeBind)(v11:List Tm)(v12:List ByteArray)(v35:Int):=sp j 68 0 [(0,slv entL p0 .no),(11,slv tmCells v11 (.st 0 3)),(12,slv strC v12 (.st 1 1)),(33,slv treeBindL p2 .no),(34,ai (List.length p2:Int)),(35,ai v35)]
def g242LboS1(p0:List Ent)(p2:List TreeBind)(v11:List Tm)(v12:List ByteArray)(v35:Int):LSt:=⟨[],0,[0,1],2,[]⟩
abbrev K242 (p0:List Ent) (p1:List ByteArray) (p2:List TreeBind) (r:List Tm×List ByteArray×Int×Int) (C:Cf):Prop:=C 242 [] [slv entL p0 .no,slv strC p1 .no,slv treeBindL p2 .no] (.tup [.sl (flat tmCells r.1) (List.length r.1) .no,.sl (flat strC r.2.1) (List.length r.2.1) .no,ai r.2.2.1,ai r.2.2.2]) [] 0
theorem q242:Qf 242 Tryz.f242:=⟨Tryz.func242,by kernel_rfl⟩
theorem k242{p0 p1 p2 r}(h:K242 p0 p1 p2 r Ci):K242 p0 p1 p2 r Ct:=⟨h,⟨⟨tv,dE _⟩,⟨tv,dS _⟩,⟨tv,dTreeBind _⟩,tv⟩,forall_nil,⟨dT _,dS _,tv,tv,tv⟩,forall_nil⟩
theorem l242Lbo(qq p0 p2 v11 v12 v35 r)(h:e242Lbo qq p0 p2 v11 v12 v35=some r):(∀j,Dl Tryz.prog 0 (inn (inn (rgt (lft (rgt (rgt (rgt (rgt (bod Tryz.f242))))))))) (g242LboE0 j p0 p2 v11 v12 v35) (g242LboS0 p0 p2 v11 v12 v35) (frameQ Tryz.prog 0 (FinQ Tryz.prog 0 Tryz.f242 (.tup [.sl (flat tmCells r.1) (List.length r.1) .no,.sl (flat strC r.2.1) (List.length r.2.1) .no,ai r.2.2.1,ai r.2.2.2]) [] 0) [.blk 0,.seq (rgt (rgt (rgt (rgt (rgt (bod Tryz.f242))))))]))∧(∀j,Dl Tryz.prog 0 (inn (inn (rgt (lft (rgt (rgt (rgt (rgt (bod Tryz.f242))))))))) (g242LboE1 j p0 p2 v11 v12 v35) (g242LboS1 p0 p2 v11 v12 v35) (frameQ Tryz.prog 0 (FinQ Tryz.prog 0 Tryz.f242 (.tup [.sl (flat tmCells r.1) (List.length r.1) .no,.sl (flat strC r.2.1) (List.length r.2.1) .no,ai r.2.2.1,ai r.2.2.2]) [] 0) [.blk 0,.seq (rgt (rgt (rgt (rgt (rgt (bod Tryz.f242))))))])):=by
 unfold e242Lbo at h
 refine⟨?_,?_⟩
 obtain⟨h8,h⟩:=splF h
 obtain rfl:=sj h
 exact fun j=>lF 0 [] (oD (dS v12)<|oD (dT v11)<|oB 0 h8 o0)
 obtain⟨h8,h⟩:=splF h
 obtain rfl:=sj h
 exact fun j=>lF 0 [] (oD (dS v12)<|oD (dT v11)<|oB 0 h8 o0)
theorem c242{qq p0 p1 p2 r}(h:e242 qq p0 p1 p2=some r):K242 p0 p1 p2 r Ct:=by
 unfold e242 at h
 obtain⟨r1,h2,h⟩:=obind h
 have k:=oC 0 [] (c125 h2) o0
 obtain⟨h3,h⟩:=splF h
 have k:=oB 0 h3 k
 obtain⟨h4,h⟩:=splF h
 obtain⟨l5,h6,h⟩:=obind h
 have k:=oB 3 h4 k
 by_cases h7:List.length p1=0
 exact k242 (tH q242 1 [(none,11,3)] [] [0] [0,11,12,33,34,35] (oD (dTreeBind p2)<|oD (dS l5)<|oD (dT ([]:List Tm))<|oD (dE p0)<|oP 1 (apN56 h6 h7) k) ((l242Lbo qq _ _ _ _ _ _ h).1))
 exact k242 (tH q242 1 [(none,11,3)] [] [1,0] [0,11,12,33,34,35] (oD (dTreeBind p2)<|oD (dS l5)<|oD (dT ([]:List Tm))<|oD (dE p0)<|oP 1 (apS56 h6 h7) k) ((l242Lbo qq _ _ _ _ _ _ h).2))
def e151vabjLbp(qq:Nat)(q0:List Ent)(q1 q2:Int)(q3:ByteArray)(q4:List TreeBind)(q5 q6:Int)(q7:ByteArray)(q8:Int)(q9:List TreeNode)(q10:List TreeBind)(q11:List TreeRow)(r1:List Tm×List ByteArray×Int×Int)(v38 vb0_15 vb0_16 vb1_0 vb1_1:Int):Option (List Tm×List ByteArray×Int×Int×Int×Int):=
 if decide (v38<(List.length r1.1:Int))then
 none
 else
 some (r1.1,r1.2.1,vb0_15,vb0_16,vb1_0,vb1_1)
def e151vabj(qq:Nat)(q0:List Ent)(q1 q2:Int)(q3:ByteArray)(q4:List TreeBind)(q5 q6:Int)(q7:ByteArray)(q8:Int)(q9:List TreeNode)(q10:List TreeBind)(q11:List TreeRow)(q12 q13 q14 q15:Int):Option (List Tm×List ByteArray×Int×Int×Int×Int):=
 e242 qq q0 [] q4>>=fun r1=>
 if r1.2.2.2==2 then
 none
 else
 e241vabm qq q0 q1 q2 q3 q4 q5 q6 q7 q8 q9 q10 q11 q12 q13 q14 q15 r1.2.2.2 r1.2.2.1>>=fun r7=>
 if r7.1 then
 none
 else
 e151vabjLbp qq q0 q1 q2 q3 q4 q5 q6 q7 q8 q9 q10 q11 r1 0 r7.2.1 r7.2.2 q12 q13
def g151vabjLbpE0(j:Nat->Value)(q0:List Ent)(q1 q2:Int)(q3:ByteArray)(q4:List TreeBind)(q5 q6:Int)(q7:ByteArray)(q8:Int)(q9:List TreeNode)(q10:List TreeBind)(q11:List TreeRow)(r1:List Tm×List ByteArray×Int×Int)(v38 vb0_15 vb0_16 vb1_0 vb1_1:Int):=sp j 75 0 [(0,.mp 0 0),(2,slv tmCells r1.1 .no),(3,slv strC r1.2.1 .no),(36,slv tmCells r1.1 .no),(37,ai (List.length r1.1:Int)),(38,ai v38)]
def g151vabjLbpS0(q0:List Ent)(q1 q2:Int)(q3:ByteArray)(q4:List TreeBind)(q5 q6:Int)(q7:ByteArray)(q8:Int)(q9:List TreeNode)(q10:List TreeBind)(q11:List TreeRow)(r1:List Tm×List ByteArray×Int×Int)(v38 vb0_15 vb0_16 vb1_0 vb1_1:Int):LSt:=⟨[(0,.cells [slv entL q0 .no,ai q1,ai q2,at' q3,slv treeBindL q4 .no,ai q5,ai q6,at' q7,ai q8,slv treeNodeC q9 .no,slv treeBindL q10 .no,slv treeRowL q11 .no,.mp 1 0,slv tmCells ([]:List Tm) .nl,slv strC ([]:List ByteArray) .nl,ai vb0_15,ai vb0_16]),(1,.cells [ai vb1_0,ai vb1_1])],2,[],0,[]⟩
abbrev K151vabj (q0:List Ent) (q1 q2:Int) (q3:ByteArray) (q4:List TreeBind) (q5 q6:Int) (q7:ByteArray) (q8:Int) (q9:List TreeNode) (q10:List TreeBind) (q11:List TreeRow) (q12 q13 q14 q15:Int) (r:List Tm×List ByteArray×Int×Int×Int×Int) (C:Cf):Prop:=C 151 [.cells [slv entL q0 .no,ai q1,ai q2,at' q3,slv treeBindL q4 .no,ai q5,ai q6,at' q7,ai q8,slv treeNodeC q9 .no,slv treeBindL q10 .no,slv treeRowL q11 .no,.mp 1 0,slv tmCells ([]:List Tm) .nl,slv strC ([]:List ByteArray) .nl,ai q14,ai q15],.cells [ai q12,ai q13]] [.mp 0 0] (.tup []) [.cells [slv entL q0 .no,ai q1,ai q2,at' q3,slv treeBindL q4 .no,ai q5,ai q6,at' q7,ai q8,slv treeNodeC q9 .no,slv treeBindL q10 .no,slv treeRowL q11 .no,.mp 1 0,slv tmCells r.1 .no,slv strC r.2.1 .no,ai r.2.2.1,ai r.2.2.2.1],.cells [ai r.2.2.2.2.1,ai r.2.2.2.2.2]] 0
theorem q151vabj:Qf 151 Tryz.f151:=⟨Tryz.func151,by kernel_rfl⟩
theorem k151vabj{q0 q1 q2 q3 q4 q5 q6 q7 q8 q9 q10 q11 q12 q13 q14 q15 r}(h:K151vabj q0 q1 q2 q3 q4 q5 q6 q7 q8 q9 q10 q11 q12 q13 q14 q15 r Ci):K151vabj q0 q1 q2 q3 q4 q5 q6 q7 q8 q9 q10 q11 q12 q13 q14 q15 r Ct:=⟨h,⟨(lz rfl),tv⟩,(forall_cons ⟨⟨tv,dE _⟩,tv,tv,tv,⟨tv,dTreeBind _⟩,tv,tv,tv,tv,⟨tv,dTreeNode _⟩,⟨tv,dTreeBind _⟩,⟨tv,dTreeRow _⟩,(lz rfl),⟨tv,dT _⟩,⟨tv,dS _⟩,tv,tv,tv⟩ (forall_cons ⟨tv,tv,tv⟩ forall_nil)),tv,(forall_cons ⟨dE _,tv,tv,tv,dTreeBind _,tv,tv,tv,tv,dTreeNode _,dTreeBind _,dTreeRow _,(lz rfl),dT _,dS _,tv,tv,tv⟩ (forall_cons ⟨tv,tv,tv⟩ forall_nil))⟩
theorem l151vabjLbp(qq q0 q1 q2 q3 q4 q5 q6 q7 q8 q9 q10 q11 r1 v38 vb0_15 vb0_16 vb1_0 vb1_1 r)(h:e151vabjLbp qq q0 q1 q2 q3 q4 q5 q6 q7 q8 q9 q10 q11 r1 v38 vb0_15 vb0_16 vb1_0 vb1_1=some r):(∀j,Dl Tryz.prog 2 (inn (inn (rgt (lft (rgt (rgt (rgt (bod Tryz.f151)))))))) (g151vabjLbpE0 j q0 q1 q2 q3 q4 q5 q6 q7 q8 q9 q10 q11 r1 v38 vb0_15 vb0_16 vb1_0 vb1_1) (g151vabjLbpS0 q0 q1 q2 q3 q4 q5 q6 q7 q8 q9 q10 q11 r1 v38 vb0_15 vb0_16 vb1_0 vb1_1) (frameQ Tryz.prog 2 (FinQ Tryz.prog 2 Tryz.f151 (.tup []) [.cells [slv entL q0 .no,ai q1,ai q2,at' q3,slv treeBindL q4 .no,ai q5,ai q6,at' q7,ai q8,slv treeNodeC q9 .no,slv treeBindL q10 .no,slv treeRowL q11 .no,.mp 1 0,slv tmCells r.1 .no,slv strC r.2.1 .no,ai r.2.2.1,ai r.2.2.2.1],.cells [ai r.2.2.2.2.1,ai r.2.2.2.2.2]] 0) [.blk 0,.seq (rgt (rgt (rgt (rgt (bod Tryz.f151)))))])):=by
 unfold e151vabjLbp at h
 obtain⟨h7,h⟩:=splF h
 obtain rfl:=sj h
 exact fun j=>lF 2 [0,1] (oD (dS r1.2.1)<|oD (dT r1.1)<|oD (dTreeRow q11)<|oD (dTreeBind q10)<|oD (dTreeNode q9)<|oD (dTreeBind q4)<|oD (dE q0)<|oB 0 h7 o0)
theorem c151vabj{qq q0 q1 q2 q3 q4 q5 q6 q7 q8 q9 q10 q11 q12 q13 q14 q15 r}(h:e151vabj qq q0 q1 q2 q3 q4 q5 q6 q7 q8 q9 q10 q11 q12 q13 q14 q15=some r):K151vabj q0 q1 q2 q3 q4 q5 q6 q7 q8 q9 q10 q11 q12 q13 q14 q15 r Ct:=by
 unfold e151vabj at h
 obtain⟨r1,h2,h⟩:=obind h
 have k:=oC 2 [] (c242 h2) o0
 obtain⟨h3,h⟩:=splF h
 obtain⟨r7,h8,h⟩:=obind h
 have k:=oB 4 h3 k
 obtain⟨h9,h⟩:=splF h
 exact k151vabj (tH q151vabj 1 [] [0,1] [] [0,2,3,36,37,38] (oD (dT r1.1)<|oD (dS r1.2.1)<|oD (dT r1.1)<|oD (dS ([]:List ByteArray))<|oD (dT ([]:List Tm))<|oD (dTreeRow q11)<|oD (dTreeBind q10)<|oD (dTreeNode q9)<|oD (dTreeBind q4)<|oD (dE q0)<|oK 0 [0,1] h9 (c241vabm h8) k) (l151vabjLbp qq _ _ _ _ _ _ _ _ _ _ _ _ _ _ _ _ _ _ _ h))
def e295vabqLbr(qq:Nat)(p0:List Tm)(v32 vb0_0 vb0_1:Int)(vb0_2:List Tm):Option (Tm×Int):=
 if decide (v32<(List.length p0:Int))then
 none
 else
 e73 qq (Tm.mk vb0_0 vb0_1 vb0_2)>>=fun r16=>
 if r16 then
 e42 qq (Tm.mk vb0_0 vb0_1 vb0_2)>>=fun r19=>
 some (r19,0)
 else
 none
def e295vabqLbs(qq:Nat)(p0:List Tm)(p1:Tm)(v17:Int):Option (Tm×Int):=
 if decide (v17<(List.length p0:Int))then
 none
 else
 e73 qq p1>>=fun r8=>
 if r8 then
 e295vabqLbr qq p0 0 p1.k p1.n p1.sub
 else
 none
def e295vabq(qq:Nat)(p0:List Tm)(p1:Tm):Option (Tm×Int):=
 if decide ((List.length p0:Int)>24)then
 none
 else
 e295vabqLbs qq p0 p1 0
def g295vabqLbsE0(j:Nat->Value)(p0:List Tm)(p1:Tm)(v17:Int):=sp j 53 0 [(0,slv tmCells p0 .no),(2,.clo 208 [] []),(4,.mp 0 0),(6,.mp 1 0),(15,slv tmCells p0 .no),(16,ai (List.length p0:Int)),(17,ai v17)]
def g295vabqLbsS0(p0:List Tm)(p1:Tm)(v17:Int):LSt:=⟨[(0,.cells [ai p1.k,ai p1.n,slv tmCells p1.sub .no]),(1,.cells [ai 0,ai 0,slv tmCells ([]:List Tm) .nl])],2,[],0,[]⟩
def g295vabqLbrE0(j:Nat->Value)(p0:List Tm)(v32 vb0_0 vb0_1:Int)(vb0_2:List Tm):=sp j 53 0 [(0,slv tmCells p0 .no),(2,.clo 208 [] []),(4,.mp 0 0),(6,.mp 1 0),(31,ai (List.length p0:Int)),(32,ai v32)]
def g295vabqLbrS0(p0:List Tm)(v32 vb0_0 vb0_1:Int)(vb0_2:List Tm):LSt:=⟨[(0,.cells [ai vb0_0,ai vb0_1,slv tmCells vb0_2 .no]),(1,.cells [ai 0,ai 0,slv tmCells ([]:List Tm) .nl])],2,[],0,[]⟩
abbrev K295vabq (p0:List Tm) (p1:Tm) (r:Tm×Int) (C:Cf):Prop:=C 295 [] [slv tmCells p0 .no,tmA p1,.clo 208 [] []] (.tup [tmA r.1,ai r.2]) [] 0
theorem q295vabq:Qf 295 Tryz.f295:=⟨Tryz.func295,by kernel_rfl⟩
theorem k295vabq{p0 p1 r}(h:K295vabq p0 p1 r Ci):K295vabq p0 p1 r Ct:=⟨h,⟨⟨tv,dT _⟩,⟨tv,tv,⟨tv,dT _⟩,tv⟩,⟨tv,tv⟩,tv⟩,forall_nil,⟨⟨tv,tv,dT _,tv⟩,tv,tv⟩,forall_nil⟩
theorem l295vabqLbr(qq p0 v32 vb0_0 vb0_1 vb0_2 r)(h:e295vabqLbr qq p0 v32 vb0_0 vb0_1 vb0_2=some r):(∀j,Dl Tryz.prog 0 (inn (inn (rgt (lft (rgt (rgt (rgt (rgt (bod Tryz.f295))))))))) (g295vabqLbrE0 j p0 v32 vb0_0 vb0_1 vb0_2) (g295vabqLbrS0 p0 v32 vb0_0 vb0_1 vb0_2) (frameQ Tryz.prog 0 (FinQ Tryz.prog 0 Tryz.f295 (.tup [tmA r.1,ai r.2]) [] 0) [.blk 2,.seq (rgt (rgt (rgt (rgt (rgt (bod Tryz.f295))))))])):=by
 unfold e295vabqLbr at h
 obtain⟨h11,h⟩:=splF h
 obtain⟨r16,h17,h⟩:=obind h
 have k:=oB 0 h11 o0
 obtain⟨h18,h⟩:=spT h
 obtain⟨r19,h20,h⟩:=obind h
 obtain rfl:=sj h
 exact fun j=>lF 1 [] (oD (dT r19.sub)<|oC 2 [] (c42 h20)<|oK 1 [] h18 (c73 h17) k)
theorem l295vabqLbs(qq p0 p1 v17 r)(h:e295vabqLbs qq p0 p1 v17=some r):(∀j,Dl Tryz.prog 0 (inn (inn (rgt (lft (rgt (rgt (bod Tryz.f295))))))) (g295vabqLbsE0 j p0 p1 v17) (g295vabqLbsS0 p0 p1 v17) (frameQ Tryz.prog 0 (FinQ Tryz.prog 0 Tryz.f295 (.tup [tmA r.1,ai r.2]) [] 0) [.blk 0,.seq (rgt (rgt (rgt (bod Tryz.f295))))])):=by
 unfold e295vabqLbs at h
 obtain⟨h2,h⟩:=splF h
 obtain⟨r8,h9,h⟩:=obind h
 have k:=oB 0 h2 o0
 obtain⟨h10,h⟩:=spT h
 exact fun j=>lH 2 [] [0,1] [] [0,2,4,6,31,32] (oD (dT p0)<|oD (dT ([]:List Tm))<|oD (dT p1.sub)<|oK 1 [] h10 (c73 h9) k) (l295vabqLbr qq _ _ _ _ _ _ h)
theorem c295vabq{qq p0 p1 r}(h:e295vabq qq p0 p1=some r):K295vabq p0 p1 r Ct:=by
 unfold e295vabq at h
 obtain⟨h1,h⟩:=splF h
 exact k295vabq (tH q295vabq 1 [] [0,1] [] [0,2,4,6,15,16,17] (oD (dT p0)<|oD (dT p0)<|oD (dT ([]:List Tm))<|oD (dT p1.sub)<|oB 1 h1 o0) (l295vabqLbs qq _ _ _ _ h))
def e193(qq:Nat)(p0:List Tm)(p1:Tm):Option (Tm×Int):=
 e295vabq qq p0 p1>>=fun r1=>
 some (r1.1,r1.2)
abbrev K193 (p0:List Tm) (p1:Tm) (r:Tm×Int) (C:Cf):Prop:=C 193 [] [slv tmCells p0 .no,tmA p1] (.tup [tmA r.1,ai r.2]) [] 0
theorem q193:Qf 193 Tryz.f193:=⟨Tryz.func193,by kernel_rfl⟩
theorem k193{p0 p1 r}(h:K193 p0 p1 r Ci):K193 p0 p1 r Ct:=⟨h,⟨⟨tv,dT _⟩,⟨tv,tv,⟨tv,dT _⟩,tv⟩,tv⟩,forall_nil,⟨⟨tv,tv,dT _,tv⟩,tv,tv⟩,forall_nil⟩
theorem c193{qq p0 p1 r}(h:e193 qq p0 p1=some r):K193 p0 p1 r Ct:=by
 unfold e193 at h
 obtain⟨r1,h2,h⟩:=obind h
 obtain rfl:=sj h
 exact k193 (tF q193 3 [] (oD (dT r1.1.sub)<|oC 1 [] (c295vabq h2) o0))
def e241(qq:Nat)(q0_l:List Ent)(q0_d:TreeDecl)(fl fu:Int)(q0_pars:List Tm)(q0_own:List ByteArray)(q0_e q0_at p1 p2:Int):Option (Bool×Int×Int):=
 if q0_e==0 then
 if p1 != 0 then
 none
 else
 some ((q0_e != 0),q0_e,q0_at)
 else
 none
abbrev K241 (q0_l:List Ent) (q0_d:TreeDecl) (fl fu:Int) (q0_pars:List Tm) (q0_own:List ByteArray) (q0_e q0_at p1 p2:Int) (r:Bool×Int×Int) (C:Cf):Prop:=C 241 [.cells [slv entL q0_l .no,ai q0_d.kind_,ai q0_d.at_,at' q0_d.name_,slv treeBindL q0_d.tele_ .no,ai q0_d.type_.kind_,ai q0_d.type_.at_,at' q0_d.type_.name_,ai q0_d.type_.n_,slv treeNodeC q0_d.type_.sub_ .no,slv treeBindL q0_d.cons_ .no,slv treeRowL q0_d.rows_ .no,.mp 1 0,slv tmCells q0_pars .no,slv strC q0_own .no,ai q0_e,ai q0_at],.cells [ai fl,ai fu]] [.mp 0 0,ai p1,ai p2] (ab r.1) [.cells [slv entL q0_l .no,ai q0_d.kind_,ai q0_d.at_,at' q0_d.name_,slv treeBindL q0_d.tele_ .no,ai q0_d.type_.kind_,ai q0_d.type_.at_,at' q0_d.type_.name_,ai q0_d.type_.n_,slv treeNodeC q0_d.type_.sub_ .no,slv treeBindL q0_d.cons_ .no,slv treeRowL q0_d.rows_ .no,.mp 1 0,slv tmCells q0_pars .no,slv strC q0_own .no,ai r.2.1,ai r.2.2],.cells [ai fl,ai fu]] 0
theorem q241:Qf 241 Tryz.f241:=⟨Tryz.func241,by kernel_rfl⟩
theorem k241{q0_l q0_d fl fu q0_pars q0_own q0_e q0_at p1 p2 r}(h:K241 q0_l q0_d fl fu q0_pars q0_own q0_e q0_at p1 p2 r Ci):K241 q0_l q0_d fl fu q0_pars q0_own q0_e q0_at p1 p2 r Ct:=⟨h,⟨(lz rfl),tv,tv,tv⟩,(forall_cons ⟨⟨tv,dE _⟩,tv,tv,tv,⟨tv,dTreeBind _⟩,tv,tv,tv,tv,⟨tv,dTreeNode _⟩,⟨tv,dTreeBind _⟩,⟨tv,dTreeRow _⟩,(lz rfl),⟨tv,dT _⟩,⟨tv,dS _⟩,tv,tv,tv⟩ (forall_cons ⟨tv,tv,tv⟩ forall_nil)),tv,(forall_cons ⟨dE _,tv,tv,tv,dTreeBind _,tv,tv,tv,tv,dTreeNode _,dTreeBind _,dTreeRow _,(lz rfl),dT _,dS _,tv,tv,tv⟩ (forall_cons ⟨tv,tv,tv⟩ forall_nil))⟩
theorem c241{qq q0_l q0_d fl fu q0_pars q0_own q0_e q0_at p1 p2 r}(h:e241 qq q0_l q0_d fl fu q0_pars q0_own q0_e q0_at p1 p2=some r):K241 q0_l q0_d fl fu q0_pars q0_own q0_e q0_at p1 p2 r Ct:=by
 unfold e241 at h
 obtain⟨h1,h⟩:=spT h
 have k:=oB 1 h1 o0
 obtain⟨h2,h⟩:=splF h
 obtain rfl:=sj h
 exact k241 (tF q241 2 [0,1] (oD (dS q0_own)<|oD (dT q0_pars)<|oD (dTreeRow q0_d.rows_)<|oD (dTreeBind q0_d.cons_)<|oD (dTreeNode q0_d.type_.sub_)<|oD (dTreeBind q0_d.tele_)<|oD (dE q0_l)<|oB 0 h2 k))
def e365vr0(qq:Nat)(p0:List Tm):Option (Unit):=
 some ()
abbrev K365vr0 (p0:List Tm) (C:Cf):Prop:=C 365 [] [slv tmCells p0 .nl] (slv tmCells ([]:List Tm) .full) [] 0
theorem q365vr0:Qf 365 Tryz.f365:=⟨Tryz.func365,by kernel_rfl⟩
theorem k365vr0{p0}(h:K365vr0 p0 Ci):K365vr0 p0 Ct:=⟨h,⟨⟨tv,dT _⟩,tv⟩,forall_nil,dT _,forall_nil⟩
theorem c365vr0{qq p0 r}(h:e365vr0 qq p0=some r):K365vr0 p0 Ct:=by
 unfold e365vr0 at h
 obtain rfl:=sj h
 exact k365vr0 (tG q365vr0 1 [] [] [] true (oD (dT ([]:List Tm)) o0))
def e365vr1(qq:Nat)(p0:List Tm):Option ((Unit) ⊕ (List Tm)):=
 if decide (List.length p0=0)then
 some (Sum.inl ())
 else
 gapp 40 ([]:List Tm) p0>>=fun l2=>
 some (Sum.inr l2)
abbrev K365vr1s0 (p0:List Tm) (C:Cf):Prop:=C 365 [] [slv tmCells p0 .nn] (slv tmCells ([]:List Tm) .full) [] 0
abbrev K365vr1s1 (p0 r:List Tm) (C:Cf):Prop:=C 365 [] [slv tmCells p0 .nn] (.ms 0 0 (List.length r) (List.length r) 3) [.row (flat tmCells r)] 0
theorem q365vr1:Qf 365 Tryz.f365:=⟨Tryz.func365,by kernel_rfl⟩
theorem k365vr1s0{p0}(h:K365vr1s0 p0 Ci):K365vr1s0 p0 Ct:=⟨h,⟨⟨tv,dT _⟩,tv⟩,forall_nil,dT _,forall_nil⟩
theorem k365vr1s1{p0 r}(h:K365vr1s1 p0 r Ci):K365vr1s1 p0 r Ct:=⟨h,⟨⟨tv,dT _⟩,tv⟩,forall_nil,(lz rfl),(forall_cons (dT _) forall_nil)⟩
theorem c365vr1{qq p0 r}(h:e365vr1 qq p0=some r):(match (generalizing:=false) r with|Sum.inl x=>K365vr1s0 p0 Ct|Sum.inr x=>K365vr1s1 p0 x Ct):=by
 unfold e365vr1 at h
 rcases spl h with⟨h1,h⟩|⟨h1,h⟩
 obtain rfl:=sj h
 exact k365vr1s0 (tG q365vr1 0 [] [] [] true (oD (dT ([]:List Tm))<|oQ 2 (apQ78 (of_decide_eq_true h1)) o0))
 obtain⟨l2,h3,h⟩:=obind h
 obtain rfl:=sj h
 exact k365vr1s1 (tF q365vr1 0 [0] (oD (dT l2)<|oM 2 (apW78 h3 (of_decide_eq_false h1)) o0))
def e365vr(qq:Nat)(p0:List Tm):Option (Unit ⊕ List Tm):=if decide (List.length p0=0)=true then some (.inl ())else(gapp 40 [] p0)>>=fun r=>some (.inr r)
theorem c365vr{qq:Nat}{p0:List Tm}{r:Unit ⊕ List Tm}(h:e365vr qq p0=some r):(match (generalizing:=false) r with | .inl _=>CT Tryz.prog 365 [] [.sl (flat tmCells p0) (List.length p0) .no] (.sl (flat tmCells ([]:List Tm)) (List.length ([]:List Tm)) .full) [] 0 | .inr x=>CT Tryz.prog 365 [] [.sl (flat tmCells p0) (List.length p0) .no] (.ms 0 0 (List.length x) (List.length x) 3) [.row (flat tmCells x)] 0):=by
 unfold e365vr at h
 rcases spl h with⟨h1,h⟩|⟨h1,h⟩
 ·obtain rfl:=sj h
  have hp:p0=[]:=List.length_eq_zero_iff.1 (of_decide_eq_true h1)
  subst hp
  have k0:=c365vr0 (qq:=qq) (p0:=[]) (r:=()) rfl
  have k1:=c365vr1 (qq:=qq) (p0:=[]) (r:=.inl ()) rfl
  exact⟨CTri.nilcase (fun _=>k0.tri) k1.tri,⟨⟨trivial,dT _⟩,trivial⟩,(fun _ h=>nomatch h),dT _,(fun _ h=>nomatch h)⟩
 ·obtain⟨x,h2,h⟩:=obind h
  obtain rfl:=sj h
  have k1:=c365vr1 (qq:=qq) (p0:=p0) (r:=.inr x) (by unfold e365vr1;rw[if_neg (by rw[h1];decide),h2];rfl)
  refine⟨CTri.nilcase (fun hn=>?_) k1.tri,⟨⟨trivial,dT _⟩,trivial⟩,(fun _ h=>nomatch h),(show 0<1 by decide),forall_cons (dT _) forall_nil⟩
  have hp:p0=[]:=flat_nil codecT (by decide) hn
  subst hp
  cases h1
def e365(_qq:Nat)(p0:List Tm):Option (List Tm):=gapp 40 [] p0
theorem c365{qq:Nat}{p0:List Tm}{r:List Tm}(h:e365 qq p0=some r):CT Tryz.prog 365 [] [.sl (flat tmCells p0) (List.length p0) .no] (.sl (flat tmCells r) (List.length r) (.st 0 3)) [] 1:=by
 have hr:r=p0:=by have:=(gapp_spec h).2;simpa using this
 subst hr
 by_cases h1:List.length r=0
 ·have hp:r=[]:=List.length_eq_zero_iff.1 h1
  subst hp
  exact CT.stampNil (c365vr (qq:=qq) (p0:=[]) (r:=.inl ()) rfl)
 ·exact CT.freezeS (c365vr (qq:=qq) (p0:=r) (r:=.inr r) (by unfold e365vr;rw[if_neg (by simpa using h1),show gapp 40 ([]:List Tm) r=some r from h];rfl)) (dT _) (flat_len codecT.len _)
def e305Lbt(qq:Nat)(p0:List Ent)(x1:Ent)(x7 r11:List Tm)(v43:Int)(vb2_2:List Rec'):Option (Con'):=
 if decide (v43<(List.length x7:Int))then
 none
 else
 some (Con'.mk x7 r11 vb2_2)
def e305(qq:Nat)(p0:List Ent)(p1:Int):Option (Con'):=
 gidx p0 p1>>=fun x1=>
 e231 qq x1.type>>=fun r3=>
 e219 qq r3.2.1>>=fun r5=>
 gsl r3.1 x1.pars (List.length r3.1:Int)>>=fun x7=>
 gsl r5.2 x1.pars (List.length r5.2:Int)>>=fun x9=>
 e365 qq x9>>=fun r11=>
 e305Lbt qq p0 x1 x7 r11 0 []
def g305LbtE0(j:Nat->Value)(p0:List Ent)(x1:Ent)(x7 r11:List Tm)(v43:Int)(vb2_2:List Rec'):=sp j 64 0 [(0,slv entL p0 .no),(4,.mp 0 0),(5,.mp 1 0),(11,.mp 2 0),(41,slv tmCells x7 .no),(42,ai (List.length x7:Int)),(43,ai v43)]
def g305LbtS0(p0:List Ent)(x1:Ent)(x7 r11:List Tm)(v43:Int)(vb2_2:List Rec'):LSt:=⟨[(0,.cells [slv tmCells ([]:List Tm) .nl,slv tmCells ([]:List Tm) .nl,slv recL ([]:List Rec') .nl]),(1,.cells [ai x1.kind,at' x1.name,ai x1.type.k,ai x1.type.n,slv tmCells x1.type.sub .no,ai x1.body.k,ai x1.body.n,slv tmCells x1.body.sub .no,ai x1.fam,ai x1.place,ai x1.pars,ai x1.inds,ai x1.level,slv intC x1.cons .no,slv intC x1.fields .no]),(2,.cells [slv tmCells x7 .no,slv tmCells r11 (.st 0 3),slv recL vb2_2 (.st 1 3)])],3,[0,1],2,[]⟩
abbrev K305 (p0:List Ent) (p1:Int) (r:Con') (C:Cf):Prop:=C 305 [] [slv entL p0 .no,ai p1] (conA r) [] 0
theorem q305:Qf 305 Tryz.f305:=⟨Tryz.func305,by kernel_rfl⟩
theorem k305{p0 p1 r}(h:K305 p0 p1 r Ci):K305 p0 p1 r Ct:=⟨h,⟨⟨tv,dE _⟩,tv,tv⟩,forall_nil,⟨dT _,dT _,dR _,tv⟩,forall_nil⟩
theorem l305Lbt(qq p0 x1 x7 r11 v43 vb2_2 r)(h:e305Lbt qq p0 x1 x7 r11 v43 vb2_2=some r):(∀j,Dl Tryz.prog 0 (inn (inn (rgt (lft (rgt (rgt (rgt (rgt (rgt (bod Tryz.f305)))))))))) (g305LbtE0 j p0 x1 x7 r11 v43 vb2_2) (g305LbtS0 p0 x1 x7 r11 v43 vb2_2) (frameQ Tryz.prog 0 (FinQ Tryz.prog 0 Tryz.f305 (conA r) [] 0) [.blk 0,.seq (rgt (rgt (rgt (rgt (rgt (rgt (bod Tryz.f305)))))))])):=by
 unfold e305Lbt at h
 obtain⟨h13,h⟩:=splF h
 obtain rfl:=sj h
 exact fun j=>lF 2 [] (oD (dR vb2_2)<|oD (dT r11)<|oD (dT x7)<|oB 0 h13 o0)
theorem c305{qq p0 p1 r}(h:e305 qq p0 p1=some r):K305 p0 p1 r Ct:=by
 unfold e305 at h
 obtain⟨x1,h2,h⟩:=obind h
 obtain⟨r3,h4,h⟩:=obind h
 obtain⟨r5,h6,h⟩:=obind h
 obtain⟨x7,h8,h⟩:=obind h
 obtain⟨x9,h10,h⟩:=obind h
 obtain⟨r11,h12,h⟩:=obind h
 exact k305 (tH q305 3 [(some 4,2,3)] [0,1,4] [0,1] [0,4,5,11,41,42,43] (oD (dT x7)<|oD (dE p0)<|oD (dR ([]:List Rec'))<|oD (dT r11)<|oD (dT x7)<|oD (dI x1.fields)<|oD (dI x1.cons)<|oD (dT x1.body.sub)<|oD (dT x1.type.sub)<|oD (dR ([]:List Rec'))<|oD (dT ([]:List Tm))<|oD (dT ([]:List Tm))<|oC 0 [] (c365 h12)<|oA 1 (slFrom78 h10)<|oA 0 (slFrom78 h8)<|oCl 3<|oC 5 [] (c219 h6)<|oC 3 [] (c231 h4)<|oA 0 (ix23 (o:=.no) h2) o0) (l305Lbt qq _ _ _ _ _ _ _ h))
def e200Lbu:Nat->(List Ent)->(List Con')->Int->(List Con')->Option (List Con' × Int)
 |0,_,_,_,_=>none
 |qq+1,p0,x4,v14,vb0_0=>
 if decide (v14<(List.length p0:Int))then
 gidx p0 v14>>=fun x7=>
 if x7.kind==2 then
 e305 qq p0 v14>>=fun r10=>
 gchk (List.length x4) v14>>=fun x12=>
 gset vb0_0 x12 r10>>=fun x14=>
 e200Lbu qq p0 x4 (w64 (v14+1)) x14
 else
 e200Lbu qq p0 x4 (w64 (v14+1)) vb0_0
 else
 gfz (List.length x4) vb0_0>>=fun l16=>
 some (l16,0)
def e200(qq:Nat)(p0:List Ent):Option (List Con' × Int):=
 e48 qq p0>>=fun r1=>
 if r1 then
 gmk 72 (default:Con') (List.length p0:Int)>>=fun x4=>
 e200Lbu qq p0 x4 0 x4
 else
 none
def g200LbuE0(j:Nat->Value)(p0:List Ent)(x4:List Con')(v14:Int)(vb0_0:List Con'):=sp j 31 0 [(0,slv entL p0 .no),(4,.ms 0 0 (List.length x4) (List.length x4) 3),(13,ai (List.length p0:Int)),(14,ai v14)]
def g200LbuS0(p0:List Ent)(x4:List Con')(v14:Int)(vb0_0:List Con'):LSt:=⟨[(0,.row (flat conL vb0_0))],1,[],0,[]⟩
abbrev K200 (p0:List Ent) (r:List Con' × Int) (C:Cf):Prop:=C 200 [] [slv entL p0 .no] (.tup [.ms 0 0 (List.length r.1) (List.length r.1) 3,ai r.2]) [.row (flat conL r.1)] 0
theorem q200:Qf 200 Tryz.f200:=⟨Tryz.func200,by kernel_rfl⟩
theorem k200{p0 r}(h:K200 p0 r Ci):K200 p0 r Ct:=⟨h,⟨⟨tv,dE _⟩,tv⟩,forall_nil,⟨(lz rfl),tv,tv⟩,(forall_cons (dC _) forall_nil)⟩
theorem l200Lbu:∀qq:Nat,(∀p0 x4 v14 vb0_0 r,e200Lbu qq p0 x4 v14 vb0_0=some r->(∀j,Dl Tryz.prog 0 (inn (inn (rgt (lft (rgt (rgt (rgt (bod Tryz.f200)))))))) (g200LbuE0 j p0 x4 v14 vb0_0) (g200LbuS0 p0 x4 v14 vb0_0) (frameQ Tryz.prog 0 (FinQ Tryz.prog 0 Tryz.f200 (.tup [.ms 0 0 (List.length r.1) (List.length r.1) 3,ai r.2]) [.row (flat conL r.1)] 0) [.blk 0,.seq (rgt (rgt (rgt (rgt (bod Tryz.f200)))))]))):=by
 intro qq
 induction qq with
 |zero=>
  exact fun _ _ _ _ _ h=>nn h
 |succ qq ih=>
  intro p0 x4 v14 vb0_0 r h
  rw[e200Lbu]at h
  rcases spl h with⟨h6,h⟩|⟨h6,h⟩
  obtain⟨x7,h8,h⟩:=obind h
  have k:=oA 0 (ix23 (o:=.no) h8)<|oB 0 h6 o0
  rcases spl h with⟨h9,h⟩|⟨h9,h⟩
  obtain⟨r10,h11,h⟩:=obind h
  obtain⟨x12,h13,h⟩:=obind h
  obtain⟨x14,h15,h⟩:=obind h
  exact fun j=>lH 1 [] [0] [] [0,4,13,14] (oD (dE p0)<|oD (dC x14)<|oW 0 (wtE (x:=r10) (cs:=[slv tmCells r10.args .no,slv tmCells r10.inds .no,slv recL r10.recs .no]) codecC rfl h15)<|oA 0 (ixM327 (b:=0) (c:=List.length x4) (z:=3) h13)<|oC 0 [] (c305 h11)<|oB 1 h9 k) (ih _ _ _ _ _ h)
  exact fun j=>lH 1 [] [0] [] [0,4,13,14] (oD (dE p0)<|oD (dC vb0_0)<|oB 1 h9 k) (ih _ _ _ _ _ h)
  obtain⟨l16,h17,h⟩:=obind h
  obtain⟨h17a,h17b⟩:=gfz_spec h17
  obtain rfl:=sj h
  obtain rfl:=h17a.symm
  dsimp only
  rw[←h17b]
  exact fun j=>lF 0 [0] (oD (dC vb0_0)<|oB 0 h6 o0)
theorem c200r{qq p0 r}(h:e200 qq p0=some r):K200 p0 r Ct:=by
 unfold e200 at h
 obtain⟨r1,h2,h⟩:=obind h
 obtain⟨h3,h⟩:=spT h
 obtain⟨x4,h5,h⟩:=obind h
 exact k200 (tH q200 1 [] [0] [] [0,4,13,14] (oD (dE p0)<|oD (dC x4)<|oM 2 (mkM327 h5)<|oK 0 [] h3 (c48 h2) o0) (l200Lbu _ _ _ _ _ _ h))
theorem c200{qq p0 r}(h:e200 qq p0=some r):CT Tryz.prog 200 [] [slv entL p0 .no] (.tup [.sl (flat conL r.1) (List.length r.1) .no,ai r.2]) [] 0:=by
 have k:=c200r h
 exact CT.freeze (H1:=[]) (cs:=flat conL r.1) (res':=(.tup [.sl (flat conL r.1) (List.length r.1) .no,ai r.2])) k (Nat.le_of_ble_eq_true rfl) forall_nil (dC _) ⟨(.inl ⟨rfl,rfl⟩),trivial,tv⟩ (by rfl) rfl
def e121(qq:Nat)(p0:List Ent):Option (Int×List Ent×List Con'):=
 e21 qq p0>>=fun r1=>
 e48 qq p0>>=fun r3=>
 if r3 then
 e200 qq r1>>=fun r6=>
 if r6.2 != 0 then
 none
 else
 some (0,r1,r6.1)
 else
 none
abbrev K121 (p0:List Ent) (r:Int×List Ent×List Con') (C:Cf):Prop:=C 121 [] [slv entL p0 .no] (.tup [.mp 0 0,ai r.1]) [.cells [slv entL r.2.1 .no,slv conL r.2.2 .no]] 0
theorem q121:Qf 121 Tryz.f121:=⟨Tryz.func121,by kernel_rfl⟩
theorem k121{p0 r}(h:K121 p0 r Ci):K121 p0 r Ct:=⟨h,⟨⟨tv,dE _⟩,tv⟩,forall_nil,⟨(lz rfl),tv,tv⟩,(forall_cons ⟨dE _,dC _,tv⟩ forall_nil)⟩
theorem c121{qq p0 r}(h:e121 qq p0=some r):K121 p0 r Ct:=by
 unfold e121 at h
 obtain⟨r1,h2,h⟩:=obind h
 obtain⟨r3,h4,h⟩:=obind h
 have k:=oC 0 [] (c21 h2) o0
 obtain⟨h5,h⟩:=spT h
 obtain⟨r6,h7,h⟩:=obind h
 have k:=oC 1 [] (c200 h7)<|oK 0 [] h5 (c48 h4) k
 obtain⟨h8,h⟩:=splF h
 obtain rfl:=sj h
 exact k121 (tF q121 0 [0] (oD (dC r6.1)<|oD (dE r1)<|oB 2 h8 k))
mutual
def e75Lbv:Nat->(List Ent)->(Int×List Ent×List Con')->(List Ent)->Int->(List Int)->(List Int)->Option (Int×List Ent×List Int×List Int×List Ent×List Con')
 |0,_,_,_,_,_,_=>none
 |qq+1,p0,r1,r4,v27,vb0_2,vb0_3=>
 if decide (v27<(List.length p0:Int))then
 gidx p0 v27>>=fun x7=>
 if x7.kind==1 then
 gapp 8 vb0_2 [(w64 ((w64 ((w64 (x7.pars+2))+(List.length x7.cons:Int)))+x7.inds))]>>=fun l10=>
 gapp 8 vb0_3 [0]>>=fun l12=>
 e75Lbv qq p0 r1 r4 (w64 (v27+1)) l10 l12
 else
 if x7.kind==2 then
 e75Lbw qq p0 r1 r4 v27 vb0_2 vb0_3 0 x7.type.k x7.type.n x7.type.sub
 else
 none
 else
 some (0,r4,vb0_2,vb0_3,r1.2.1,r1.2.2)
def e75Lbw:Nat->(List Ent)->(Int×List Ent×List Con')->(List Ent)->Int->(List Int)->(List Int)->Int->Int->Int->(List Tm)->Option (Int×List Ent×List Int×List Int×List Ent×List Con')
 |0,_,_,_,_,_,_,_,_,_,_=>none
 |qq+1,p0,r1,r4,v27,vb0_2,vb0_3,v10,vb1_0,vb1_1,vb1_2=>
 if vb1_0==3 then
 none
 else
 gapp 8 vb0_2 [0]>>=fun l18=>
 gapp 8 vb0_3 [v10]>>=fun l20=>
 e75Lbv qq p0 r1 r4 (w64 (v27+1)) l18 l20
end
def e75(qq:Nat)(p0:List Ent):Option (Int×List Ent×List Int×List Int×List Ent×List Con'):=
 e121 qq p0>>=fun r1=>
 if r1.1 != 0 then
 none
 else
 e21 qq p0>>=fun r4=>
 e75Lbv qq p0 r1 r4 0 [] []
def g75LbvE0(j:Nat->Value)(p0:List Ent)(r1:Int×List Ent×List Con')(r4:List Ent)(v27:Int)(vb0_2 vb0_3:List Int):=sp j 81 0 [(6,.mp 0 0),(25,slv entL p0 .no),(26,ai (List.length p0:Int)),(27,ai v27)]
def g75LbvS0(p0:List Ent)(r1:Int×List Ent×List Con')(r4:List Ent)(v27:Int)(vb0_2 vb0_3:List Int):LSt:=⟨[(0,.cells [slv entL r4 .no,.mp 1 0,slv intC vb0_2 (.st 0 1),slv intC vb0_3 (.st 1 1)]),(1,.cells [slv entL r1.2.1 .no,slv conL r1.2.2 .no])],2,[0,1],2,[]⟩
def g75LbwE0(j:Nat->Value)(p0:List Ent)(r1:Int×List Ent×List Con')(r4:List Ent)(v27:Int)(vb0_2 vb0_3:List Int)(v10 vb1_0 vb1_1:Int)(vb1_2:List Tm):=sp j 81 0 [(6,.mp 0 0),(9,ai 0),(10,ai v10),(11,.mp 1 0),(25,slv entL p0 .no),(26,ai (List.length p0:Int)),(27,ai v27)]
def g75LbwS0(p0:List Ent)(r1:Int×List Ent×List Con')(r4:List Ent)(v27:Int)(vb0_2 vb0_3:List Int)(v10 vb1_0 vb1_1:Int)(vb1_2:List Tm):LSt:=⟨[(0,.cells [slv entL r4 .no,.mp 2 0,slv intC vb0_2 (.st 0 1),slv intC vb0_3 (.st 1 1)]),(1,.cells [ai vb1_0,ai vb1_1,slv tmCells vb1_2 .no]),(2,.cells [slv entL r1.2.1 .no,slv conL r1.2.2 .no])],3,[0,1],2,[]⟩
abbrev K75 (p0:List Ent) (r:Int×List Ent×List Int×List Int×List Ent×List Con') (C:Cf):Prop:=C 75 [] [slv entL p0 .no] (.tup [.mp 0 0,ai r.1]) [.cells [slv entL r.2.1 .no,.mp 1 0,slv intC r.2.2.1 .no,slv intC r.2.2.2.1 .no],.cells [slv entL r.2.2.2.2.1 .no,slv conL r.2.2.2.2.2 .no]] 0
theorem q75:Qf 75 Tryz.f75:=⟨Tryz.func75,by kernel_rfl⟩
theorem k75{p0 r}(h:K75 p0 r Ci):K75 p0 r Ct:=⟨h,⟨⟨tv,dE _⟩,tv⟩,forall_nil,⟨(lz rfl),tv,tv⟩,(forall_cons ⟨dE _,(lz rfl),dI _,dI _,tv⟩ (forall_cons ⟨dE _,dC _,tv⟩ forall_nil))⟩
theorem a75Lbv_75Lbw:∀qq:Nat,(∀p0 r1 r4 v27 vb0_2 vb0_3 r,e75Lbv qq p0 r1 r4 v27 vb0_2 vb0_3=some r->(∀j,Dl Tryz.prog 0 (inn (inn (rgt (lft (rgt (rgt (rgt (rgt (bod Tryz.f75))))))))) (g75LbvE0 j p0 r1 r4 v27 vb0_2 vb0_3) (g75LbvS0 p0 r1 r4 v27 vb0_2 vb0_3) (frameQ Tryz.prog 0 (FinQ Tryz.prog 0 Tryz.f75 (.tup [.mp 0 0,ai r.1]) [.cells [slv entL r.2.1 .no,.mp 1 0,slv intC r.2.2.1 .no,slv intC r.2.2.2.1 .no],.cells [slv entL r.2.2.2.2.1 .no,slv conL r.2.2.2.2.2 .no]] 0) [.blk 0,.seq (rgt (rgt (rgt (rgt (rgt (bod Tryz.f75))))))])))∧(∀p0 r1 r4 v27 vb0_2 vb0_3 v10 vb1_0 vb1_1 vb1_2 r,e75Lbw qq p0 r1 r4 v27 vb0_2 vb0_3 v10 vb1_0 vb1_1 vb1_2=some r->(∀j,Dl Tryz.prog 0 (inn (inn (rgt (lft (rgt (rgt (rgt (inn (rgt (lft (rgt (rgt (inn (lft (rgt (rgt (inn (inn (rgt (lft (rgt (rgt (rgt (rgt (bod Tryz.f75))))))))))))))))))))))))) (g75LbwE0 j p0 r1 r4 v27 vb0_2 vb0_3 v10 vb1_0 vb1_1 vb1_2) (g75LbwS0 p0 r1 r4 v27 vb0_2 vb0_3 v10 vb1_0 vb1_1 vb1_2) (frameQ Tryz.prog 0 (FinQ Tryz.prog 0 Tryz.f75 (.tup [.mp 0 0,ai r.1]) [.cells [slv entL r.2.1 .no,.mp 1 0,slv intC r.2.2.1 .no,slv intC r.2.2.2.1 .no],.cells [slv entL r.2.2.2.2.1 .no,slv conL r.2.2.2.2.2 .no]] 0) [.blk 3,.blk 2,.seq (rgt (rgt (rgt (inn (lft (rgt (rgt (inn (inn (rgt (lft (rgt (rgt (rgt (rgt (bod Tryz.f75)))))))))))))))),.blk 1,.seq (rgt (rgt (rgt (inn (inn (rgt (lft (rgt (rgt (rgt (rgt (bod Tryz.f75)))))))))))),.loop (inn (inn (rgt (lft (rgt (rgt (rgt (rgt (bod Tryz.f75))))))))),.blk 0,.seq (rgt (rgt (rgt (rgt (rgt (bod Tryz.f75))))))]))):=by
 intro qq
 induction qq with
 |zero=>
  exact⟨fun _ _ _ _ _ _ _ h=>nn h,fun _ _ _ _ _ _ _ _ _ _ _ h=>nn h⟩
 |succ qq ih=>
  obtain⟨ih75Lbv,ih75Lbw⟩:=ih
  refine⟨?_,?_⟩
  intro p0 r1 r4 v27 vb0_2 vb0_3 r h
  rw[e75Lbv]at h
  rcases spl h with⟨h6,h⟩|⟨h6,h⟩
  obtain⟨x7,h8,h⟩:=obind h
  have k:=oA 0 (ix23 (o:=.no) h8)<|oB 0 h6 o0
  rcases spl h with⟨h9,h⟩|⟨h9,h⟩
  obtain⟨l10,h11,h⟩:=obind h
  obtain⟨l12,h13,h⟩:=obind h
  exact fun j=>lH 3 [] [0,1] [2,3] [6,25,26,27] (oD (dE p0)<|oD (dC r1.2.2)<|oD (dE r1.2.1)<|oD (dI l12)<|oD (dI l10)<|oD (dE r4)<|oP 2 (apS24 h13 (by simp))<|oP 9 (apS24 h11 (by simp))<|oB 3 h9 k) (ih75Lbv _ _ _ _ _ _ _ h)
  have k:=oB 3 h9 k
  obtain⟨h14,h⟩:=spT h
  exact fun j=>lH 2 [] [0,3,1] [0,1] [6,9,10,11,25,26,27] (oD (dE p0)<|oD (dC r1.2.2)<|oD (dE r1.2.1)<|oD (dT x7.type.sub)<|oD (dI vb0_3)<|oD (dI vb0_2)<|oD (dE r4)<|oB 0 h14 k) (ih75Lbw _ _ _ _ _ _ _ _ _ _ _ h)
  obtain rfl:=sj h
  exact fun j=>lF 0 [0,1] (oD (dC r1.2.2)<|oD (dE r1.2.1)<|oD (dI vb0_3)<|oD (dI vb0_2)<|oD (dE r4)<|oB 0 h6 o0)
  intro p0 r1 r4 v27 vb0_2 vb0_3 v10 vb1_0 vb1_1 vb1_2 r h
  rw[e75Lbw]at h
  obtain⟨h15,h⟩:=splF h
  obtain⟨l18,h19,h⟩:=obind h
  obtain⟨l20,h21,h⟩:=obind h
  exact fun j=>lH 3 [] [0,2] [2,3] [6,25,26,27] (oD (dE p0)<|oD (dC r1.2.2)<|oD (dE r1.2.1)<|oD (dI l20)<|oD (dI l18)<|oD (dE r4)<|oP 2 (apS24 h21 (by simp))<|oP 2 (apS24 h19 (by simp))<|oB 1 h15 o0) (ih75Lbv _ _ _ _ _ _ _ h)
theorem c75{qq p0 r}(h:e75 qq p0=some r):K75 p0 r Ct:=by
 unfold e75 at h
 obtain⟨r1,h2,h⟩:=obind h
 have k:=oC 0 [] (c121 h2) o0
 obtain⟨h3,h⟩:=splF h
 obtain⟨r4,h5,h⟩:=obind h
 exact k75 (tH q75 1 [(some 1,2,1),(some 1,3,1)] [1,0] [0,1] [6,25,26,27] (oD (dE p0)<|oD (dC r1.2.2)<|oD (dE r1.2.1)<|oD (dI ([]:List Int))<|oD (dI ([]:List Int))<|oD (dE r4)<|oC 0 [] (c21 h5)<|oB 2 h3 k) (((a75Lbv_75Lbw _).1) _ _ _ _ _ _ _ h))
def e243(qq:Nat)(q0_l:List Ent)(q0_d:TreeDecl)(fl fu:Int)(q0_pars:List Tm)(q0_own:List ByteArray)(q0_e q0_at:Int)(p1:List Tm):Option (List Tm×List Int×List Tm×Int×Int×List Ent×List Int×List Int×List Ent×List Con'):=
 e75 qq q0_l>>=fun r1=>
 if r1.1 != 0 then
 none
 else
 some (p1,[],[],q0_e,q0_at,r1.2.1,r1.2.2.1,r1.2.2.2.1,r1.2.2.2.2.1,r1.2.2.2.2.2)
abbrev K243 (q0_l:List Ent) (q0_d:TreeDecl) (fl fu:Int) (q0_pars:List Tm) (q0_own:List ByteArray) (q0_e q0_at:Int) (p1:List Tm) (r:List Tm×List Int×List Tm×Int×Int×List Ent×List Int×List Int×List Ent×List Con') (C:Cf):Prop:=C 243 [.cells [slv entL q0_l .no,ai q0_d.kind_,ai q0_d.at_,at' q0_d.name_,slv treeBindL q0_d.tele_ .no,ai q0_d.type_.kind_,ai q0_d.type_.at_,at' q0_d.type_.name_,ai q0_d.type_.n_,slv treeNodeC q0_d.type_.sub_ .no,slv treeBindL q0_d.cons_ .no,slv treeRowL q0_d.rows_ .no,.mp 1 0,slv tmCells q0_pars .no,slv strC q0_own .no,ai q0_e,ai q0_at],.cells [ai fl,ai fu]] [.mp 0 0,slv tmCells p1 .no] (.agg [.mp 2 0,.mp 1 0,slv tmCells r.1 .no,slv intC r.2.1 .no,slv tmCells r.2.2.1 .no]) [.cells [slv entL q0_l .no,ai q0_d.kind_,ai q0_d.at_,at' q0_d.name_,slv treeBindL q0_d.tele_ .no,ai q0_d.type_.kind_,ai q0_d.type_.at_,at' q0_d.type_.name_,ai q0_d.type_.n_,slv treeNodeC q0_d.type_.sub_ .no,slv treeBindL q0_d.cons_ .no,slv treeRowL q0_d.rows_ .no,.mp 1 0,slv tmCells q0_pars .no,slv strC q0_own .no,ai r.2.2.2.1,ai r.2.2.2.2.1],.cells [ai fl,ai fu],.cells [slv entL r.2.2.2.2.2.1 .no,.mp 3 0,slv intC r.2.2.2.2.2.2.1 .no,slv intC r.2.2.2.2.2.2.2.1 .no],.cells [slv entL r.2.2.2.2.2.2.2.2.1 .no,slv conL r.2.2.2.2.2.2.2.2.2 .no]] 0
theorem q243:Qf 243 Tryz.f243:=⟨Tryz.func243,by kernel_rfl⟩
theorem k243{q0_l q0_d fl fu q0_pars q0_own q0_e q0_at p1 r}(h:K243 q0_l q0_d fl fu q0_pars q0_own q0_e q0_at p1 r Ci):K243 q0_l q0_d fl fu q0_pars q0_own q0_e q0_at p1 r Ct:=⟨h,⟨(lz rfl),⟨tv,dT _⟩,tv⟩,(forall_cons ⟨⟨tv,dE _⟩,tv,tv,tv,⟨tv,dTreeBind _⟩,tv,tv,tv,tv,⟨tv,dTreeNode _⟩,⟨tv,dTreeBind _⟩,⟨tv,dTreeRow _⟩,(lz rfl),⟨tv,dT _⟩,⟨tv,dS _⟩,tv,tv,tv⟩ (forall_cons ⟨tv,tv,tv⟩ forall_nil)),⟨(lz rfl),(lz rfl),dT _,dI _,dT _,tv⟩,(forall_cons ⟨dE _,tv,tv,tv,dTreeBind _,tv,tv,tv,tv,dTreeNode _,dTreeBind _,dTreeRow _,(lz rfl),dT _,dS _,tv,tv,tv⟩ (forall_cons ⟨tv,tv,tv⟩ (forall_cons ⟨dE _,(lz rfl),dI _,dI _,tv⟩ (forall_cons ⟨dE _,dC _,tv⟩ forall_nil))))⟩
theorem c243{qq q0_l q0_d fl fu q0_pars q0_own q0_e q0_at p1 r}(h:e243 qq q0_l q0_d fl fu q0_pars q0_own q0_e q0_at p1=some r):K243 q0_l q0_d fl fu q0_pars q0_own q0_e q0_at p1 r Ct:=by
 unfold e243 at h
 obtain⟨r1,h2,h⟩:=obind h
 have k:=oC 1 [] (c75 h2) o0
 obtain⟨h3,h⟩:=splF h
 obtain rfl:=sj h
 exact k243 (tF q243 2 [0,1,3,4] (oD (dT ([]:List Tm))<|oD (dI ([]:List Int))<|oD (dT p1)<|oD (dC r1.2.2.2.2.2)<|oD (dE r1.2.2.2.2.1)<|oD (dI r1.2.2.2.1)<|oD (dI r1.2.2.1)<|oD (dE r1.2.1)<|oD (dS q0_own)<|oD (dT q0_pars)<|oD (dTreeRow q0_d.rows_)<|oD (dTreeBind q0_d.cons_)<|oD (dTreeNode q0_d.type_.sub_)<|oD (dTreeBind q0_d.tele_)<|oD (dE q0_l)<|oB 2 h3 k))
def e194vrz(qq:Nat)(p1:Int):Option (List Ent×Nat):=
 if decide (p1<0)then
 none
 else
 if decide ((w64 (p1-0))>0)then
 gmk 192 (default:Ent) (w64 (p1-0))>>=fun x3=>
 gcut (List.length x3) 0 0>>=fun x5=>
 some (x3,x5.2)
 else
 none
abbrev K194vrz (p1:Int) (r:List Ent×Nat) (C:Cf):Prop:=C 194 [] [slv entL ([]:List Ent) .nl,ai p1] (.ms 0 0 r.2 (List.length r.1) 15) [.row (flat entL r.1)] 0
theorem q194vrz:Qf 194 Tryz.f194:=⟨Tryz.func194,by kernel_rfl⟩
theorem k194vrz{p1 r}(h:K194vrz p1 r Ci):K194vrz p1 r Ct:=⟨h,⟨⟨tv,dE _⟩,tv,tv⟩,forall_nil,(lz rfl),(forall_cons (dE _) forall_nil)⟩
theorem c194vrz{qq p1 r}(h:e194vrz qq p1=some r):K194vrz p1 r Ct:=by
 unfold e194vrz at h
 obtain⟨h1,h⟩:=splF h
 have k:=oB 0 h1 o0
 obtain⟨h2,h⟩:=spT h
 obtain⟨x3,h4,h⟩:=obind h
 obtain⟨x5,h6,h⟩:=obind h
 obtain rfl:=sj h
 exact k194vrz (tF q194vrz 0 [0] (oD (dE x3)<|oA 1 (slMTo23 (b:=0) (off:=0) (n:=List.length x3) h6)<|oMz 2 (zrM23_3 (of_decide_eq_true h2) h4)<|oB 4 h2 k))
def e194(qq:Nat)(p1:Int):Option Unit:=(e194vrz qq p1)>>=fun r=>if decide (r.2=0)=true then some ()else none
theorem c194{qq:Nat}{p1:Int}{r:Unit}(h:e194 qq p1=some r):CT Tryz.prog 194 [] [.sl (flat entL ([]:List Ent)) (List.length ([]:List Ent)) .nl,ai p1] (.sl (flat entL ([]:List Ent)) (List.length ([]:List Ent)) (.st 0 15)) [] 1:=by
 obtain⟨x,h1,h⟩:=obind h
 obtain⟨h2,h⟩:=spT h
 exact CT.freezeZ (c194vrz h1) (of_decide_eq_true h2)
def e116Lbx:Nat->(List (List Ent))->Int->(List Ent)->Option (List Ent)
 |0,_,_,_=>none
 |qq+1,p0,v27,v6=>
 if decide (v27<(List.length p0:Int))then
 gidx p0 v27>>=fun x8=>
 gapp 192 v6 x8>>=fun l10=>
 e116Lbx qq p0 (w64 (v27+1)) l10
 else
 some v6
def e116Lby:Nat->(List (List Ent))->Int->Int->Option (List Ent)
 |0,_,_,_=>none
 |qq+1,p0,v11,v3=>
 if decide (v11<(List.length p0:Int))then
 gidx p0 v11>>=fun x2=>
 if decide ((w64 (v3+(List.length x2:Int)))<0)then
 none
 else
 e116Lby qq p0 (w64 (v11+1)) (w64 (v3+(List.length x2:Int)))
 else
 e194 qq v3>>=fun r5=>
 e116Lbx qq p0 0 []
def e116(qq:Nat)(p0:List (List Ent)):Option (List Ent):=
 e116Lby qq p0 0 0
def g116LbyE0(j:Nat->Value)(p0:List (List Ent))(v11 v3:Int):=sp j 36 0 [(0,slv (slC entL) p0 .no),(3,ai v3),(9,slv (slC entL) p0 .no),(10,ai (List.length p0:Int)),(11,ai v11)]
def g116LbyS0(p0:List (List Ent))(v11 v3:Int):LSt:=⟨[],0,[],0,[]⟩
def g116LbxE0(j:Nat->Value)(p0:List (List Ent))(v27:Int)(v6:List Ent):=sp j 36 0 [(6,slv entL v6 (.st 0 15)),(25,slv (slC entL) p0 .no),(26,ai (List.length p0:Int)),(27,ai v27)]
def g116LbxS0(p0:List (List Ent))(v27:Int)(v6:List Ent):LSt:=⟨[],0,[0],1,[]⟩
abbrev K116 (p0:List (List Ent)) (r:List Ent) (C:Cf):Prop:=C 116 [] [slv (slC entL) p0 .no] (.sl (flat entL r) (List.length r) .no) [] 0
theorem q116:Qf 116 Tryz.f116:=⟨Tryz.func116,by kernel_rfl⟩
theorem k116{p0 r}(h:K116 p0 r Ci):K116 p0 r Ct:=⟨h,⟨⟨tv,(dSl codecE) _⟩,tv⟩,forall_nil,dE _,forall_nil⟩
theorem l116Lbx:∀qq:Nat,(∀p0 v27 v6 r,e116Lbx qq p0 v27 v6=some r->(∀j,Dl Tryz.prog 0 (inn (inn (rgt (lft (rgt (rgt (rgt (rgt (bod Tryz.f116))))))))) (g116LbxE0 j p0 v27 v6) (g116LbxS0 p0 v27 v6) (frameQ Tryz.prog 0 (FinQ Tryz.prog 0 Tryz.f116 (.sl (flat entL r) (List.length r) .no) [] 0) [.blk 2,.seq (rgt (rgt (rgt (rgt (rgt (bod Tryz.f116))))))]))):=by
 intro qq
 induction qq with
 |zero=>
  exact fun _ _ _ _ h=>nn h
 |succ qq ih=>
  intro p0 v27 v6 r h
  rw[e116Lbx]at h
  rcases spl h with⟨h7,h⟩|⟨h7,h⟩
  obtain⟨x8,h9,h⟩:=obind h
  obtain⟨l10,h11,h⟩:=obind h
  have k:=oA 0 (ix324 (o:=.no) h9)<|oB 0 h7 o0
  by_cases h12:List.length x8=0
  exact fun j=>lH 1 [] [] [0] [6,25,26,27] (oD ((dSl codecE) p0)<|oD (dE l10)<|oP 1 (apN23 h11 h12) k) (ih _ _ _ _ h)
  exact fun j=>lH 1 [] [] [1] [6,25,26,27] (oD ((dSl codecE) p0)<|oD (dE l10)<|oP 1 (apS23 h11 h12) k) (ih _ _ _ _ h)
  obtain rfl:=sj h
  exact fun j=>lF 0 [] (oD (dE v6)<|oB 0 h7 o0)
theorem l116Lby:∀qq:Nat,(∀p0 v11 v3 r,e116Lby qq p0 v11 v3=some r->(∀j,Dl Tryz.prog 0 (inn (inn (rgt (lft (rgt (rgt (bod Tryz.f116))))))) (g116LbyE0 j p0 v11 v3) (g116LbyS0 p0 v11 v3) (frameQ Tryz.prog 0 (FinQ Tryz.prog 0 Tryz.f116 (.sl (flat entL r) (List.length r) .no) [] 0) [.blk 0,.seq (rgt (rgt (rgt (bod Tryz.f116))))]))):=by
 intro qq
 induction qq with
 |zero=>
  exact fun _ _ _ _ h=>nn h
 |succ qq ih=>
  intro p0 v11 v3 r h
  rw[e116Lby]at h
  rcases spl h with⟨h1,h⟩|⟨h1,h⟩
  obtain⟨x2,h3,h⟩:=obind h
  have k:=oA 0 (ix324 (o:=.no) h3)<|oB 0 h1 o0
  obtain⟨h4,h⟩:=splF h
  exact fun j=>lH 1 [] [] [] [0,3,9,10,11] (oD ((dSl codecE) p0)<|oD ((dSl codecE) p0)<|oB 3 h4 k) (ih _ _ _ _ h)
  obtain⟨r5,h6,h⟩:=obind h
  exact fun j=>lH 1 [] [] [0] [6,25,26,27] (oD ((dSl codecE) p0)<|oD (dE ([]:List Ent))<|oCx 0 [] (c194 h6)<|oB 0 h1 o0) (l116Lbx _ _ _ _ _ h)
theorem c116{qq p0 r}(h:e116 qq p0=some r):K116 p0 r Ct:=by
 unfold e116 at h
 exact k116 (tH q116 1 [] [] [] [0,3,9,10,11] (oD ((dSl codecE) p0)<|oD ((dSl codecE) p0) o0) (l116Lby _ _ _ _ _ h))
def e21vzL19865:Nat->(List Ent)->(List EntZ)->Int->Option (List Ent)
 |0,_,_,_=>none
 |qq+1,p0,v3,v8=>
 if decide (v8<(List.length p0:Int))then
 gidx p0 v8>>=fun x2=>
 e42 qq x2.type>>=fun r4=>
 e42 qq x2.body>>=fun r6=>
 e43vz qq x2.cons>>=fun r8=>
 e43vz qq x2.fields>>=fun r10=>
 gapp 192 v3 [(Ent.mk x2.kind x2.name r4 r6 x2.fam x2.place x2.pars x2.inds x2.level r8 r10)]>>=fun l12=>
 e21vzL19865 qq p0 l12 (w64 (v8+1))
 else
 some v3
def e21vz(qq:Nat)(p0:List Ent):Option (List Ent):=
 e21vzL19865 qq p0 [] 0
def g21vzL19865E0(j:Nat->Value)(p0:List Ent)(v3:List EntZ)(v8:Int):=sp j 34 0 [(3,slv entZ v3 (.st 0 15)),(6,slv entL p0 .no),(7,ai (List.length p0:Int)),(8,ai v8)]
def g21vzL19865S0(p0:List Ent)(v3:List EntZ)(v8:Int):LSt:=⟨[],0,[0],1,[]⟩
abbrev K21vz (p0 r:List Ent) (C:Cf):Prop:=C 21 [] [slv entL p0 .no] (slv entZ r .no) [] 0
theorem q21vz:Qf 21 Tryz.f21:=⟨Tryz.func21,by kernel_rfl⟩
theorem k21vz{p0 r}(h:K21vz p0 r Ci):K21vz p0 r Ct:=⟨h,⟨⟨tv,dE _⟩,tv⟩,forall_nil,dEZ _,forall_nil⟩
theorem l21vzL19865:∀qq:Nat,(∀p0 v3 v8 r,e21vzL19865 qq p0 v3 v8=some r->(∀j,Dl Tryz.prog 0 (inn (inn (rgt (lft (rgt (rgt (bod Tryz.f21))))))) (g21vzL19865E0 j p0 v3 v8) (g21vzL19865S0 p0 v3 v8) (frameQ Tryz.prog 0 (FinQ Tryz.prog 0 Tryz.f21 (slv entZ r .no) [] 0) [.blk 0,.seq (rgt (rgt (rgt (bod Tryz.f21))))]))):=by
 intro qq
 induction qq with
 |zero=>
  exact fun _ _ _ _ h=>nn h
 |succ qq ih=>
  intro p0 v3 v8 r h
  rw[e21vzL19865]at h
  rcases spl h with⟨h1,h⟩|⟨h1,h⟩
  obtain⟨x2,h3,h⟩:=obind h
  obtain⟨r4,h5,h⟩:=obind h
  obtain⟨r6,h7,h⟩:=obind h
  obtain⟨r8,h9,h⟩:=obind h
  obtain⟨r10,h11,h⟩:=obind h
  obtain⟨l12,h13,h⟩:=obind h
  exact fun j=>lH 1 [] [] [1] [3,6,7,8] (oD (dE p0)<|oD (dEZ l12)<|oP 0 (apSZ23 h13 (by simp))<|oWk 3 (wkr (slv entZ [(Ent.mk x2.kind x2.name r4 r6 x2.fam x2.place x2.pars x2.inds x2.level r8 r10)] .full))<|oC 0 [] (c43vz h11)<|oCl 0<|oC 3 [] (c43vz h9)<|oC 1 [] (c42 h7)<|oC 3 [] (c42 h5)<|oA 0 (ix23 (o:=.no) h3)<|oB 0 h1 o0) (ih _ _ _ _ h)
  obtain rfl:=sj h
  exact fun j=>lF 0 [] (oD (dEZ v3)<|oB 0 h1 o0)
theorem c21vz{qq p0 r}(h:e21vz qq p0=some r):K21vz p0 r Ct:=by
 unfold e21vz at h
 exact k21vz (tH q21vz 1 [(none,3,15)] [] [0] [3,6,7,8] (oD (dE p0)<|oD (dEZ ([]:List EntZ)) o0) (l21vzL19865 _ _ _ _ _ h))
def e69Lbz:Nat->(List Ent)->(List Ent)->(List (ByteArray×Int))->Int->Option (List Ent×Int)
 |0,_,_,_,_=>none
 |qq+1,p0,p1,vb0_0,v36=>
 if decide (v36<(List.length p1:Int))then
 gidx p1 v36>>=fun x9=>
 if decide ((mget vb0_0 x9.name)>0)then
 none
 else
 e69Lbz qq p0 p1 vb0_0 (w64 (v36+1))
 else
 e116 qq [p0,p1]>>=fun r12=>
 e48 qq r12>>=fun r14=>
 if r14 then
 e21vz qq r12>>=fun r17=>
 some (r17,0)
 else
 none
def e69Lca(qq:Nat)(p0 p1:List Ent)(v24:Int)(vb0_0:List (ByteArray×Int)):Option (List Ent×Int):=
 if decide (v24<(List.length p0:Int))then
 none
 else
 e69Lbz qq p0 p1 vb0_0 0
def e69(qq:Nat)(p0 p1:List Ent):Option (List Ent×Int):=
 e48 qq p0>>=fun r1=>
 if r1 then
 if decide ((List.length p1:Int)>(w64 (256-(List.length p0:Int))))then
 none
 else
 e69Lca qq p0 p1 0 ([]:List (ByteArray×Int))
 else
 none
def g69LcaE0(j:Nat->Value)(p0 p1:List Ent)(v24:Int)(vb0_0:List (ByteArray×Int)):=sp j 55 0 [(0,slv entL p0 .no),(1,slv entL p1 .no),(6,.obj 0),(22,slv entL p0 .no),(23,ai (List.length p0:Int)),(24,ai v24)]
def g69LcaS0(p0 p1:List Ent)(v24:Int)(vb0_0:List (ByteArray×Int)):LSt:=⟨[(0,smap vb0_0)],1,[],0,[]⟩
def g69LbzE0(j:Nat->Value)(p0 p1:List Ent)(vb0_0:List (ByteArray×Int))(v36:Int):=sp j 55 0 [(0,slv entL p0 .no),(1,slv entL p1 .no),(6,.obj 0),(34,slv entL p1 .no),(35,ai (List.length p1:Int)),(36,ai v36)]
def g69LbzS0(p0 p1:List Ent)(vb0_0:List (ByteArray×Int))(v36:Int):LSt:=⟨[(0,smap vb0_0)],1,[],0,[]⟩
abbrev K69 (p0 p1:List Ent) (r:List Ent×Int) (C:Cf):Prop:=C 69 [] [slv entL p0 .no,slv entL p1 .no] (.tup [slv entZ r.1 .no,ai r.2]) [] 0
theorem q69:Qf 69 Tryz.f69:=⟨Tryz.func69,by kernel_rfl⟩
theorem k69{p0 p1 r}(h:K69 p0 p1 r Ci):K69 p0 p1 r Ct:=⟨h,⟨⟨tv,dE _⟩,⟨tv,dE _⟩,tv⟩,forall_nil,⟨dEZ _,tv,tv⟩,forall_nil⟩
theorem l69Lbz:∀qq:Nat,(∀p0 p1 vb0_0 v36 r,e69Lbz qq p0 p1 vb0_0 v36=some r->(∀j,Dl Tryz.prog 0 (inn (inn (rgt (lft (rgt (rgt (rgt (rgt (rgt (bod Tryz.f69)))))))))) (g69LbzE0 j p0 p1 vb0_0 v36) (g69LbzS0 p0 p1 vb0_0 v36) (frameQ Tryz.prog 0 (FinQ Tryz.prog 0 Tryz.f69 (.tup [slv entZ r.1 .no,ai r.2]) [] 0) [.blk 2,.seq (rgt (rgt (rgt (rgt (rgt (rgt (bod Tryz.f69)))))))]))):=by
 intro qq
 induction qq with
 |zero=>
  exact fun _ _ _ _ _ h=>nn h
 |succ qq ih=>
  intro p0 p1 vb0_0 v36 r h
  rw[e69Lbz]at h
  rcases spl h with⟨h8,h⟩|⟨h8,h⟩
  obtain⟨x9,h10,h⟩:=obind h
  have k:=oL 3 (lk231 vb0_0 x9.name)<|oA 0 (ix23 (o:=.no) h10)<|oB 0 h8 o0
  obtain⟨h11,h⟩:=splF h
  exact fun j=>lH 1 [] [0] [] [0,1,6,34,35,36] (oD (dE p1)<|oD (dE p1)<|oD (dE p0)<|oB 0 h11 k) (ih _ _ _ _ _ h)
  obtain⟨r12,h13,h⟩:=obind h
  obtain⟨r14,h15,h⟩:=obind h
  have k:=oC 1 [] (c116 h13)<|oB 0 h8 o0
  obtain⟨h16,h⟩:=spT h
  obtain⟨r17,h18,h⟩:=obind h
  obtain rfl:=sj h
  exact fun j=>lF 0 [] (oD (dEZ r17)<|oC 1 [] (c21vz h18)<|oK 0 [] h16 (c48 h15) k)
theorem l69Lca(qq p0 p1 v24 vb0_0 r)(h:e69Lca qq p0 p1 v24 vb0_0=some r):(∀j,Dl Tryz.prog 0 (inn (inn (rgt (lft (rgt (rgt (rgt (rgt (bod Tryz.f69))))))))) (g69LcaE0 j p0 p1 v24 vb0_0) (g69LcaS0 p0 p1 v24 vb0_0) (frameQ Tryz.prog 0 (FinQ Tryz.prog 0 Tryz.f69 (.tup [slv entZ r.1 .no,ai r.2]) [] 0) [.blk 0,.seq (rgt (rgt (rgt (rgt (rgt (bod Tryz.f69))))))])):=by
 unfold e69Lca at h
 obtain⟨h5,h⟩:=splF h
 exact fun j=>lH 1 [] [0] [] [0,1,6,34,35,36] (oD (dE p1)<|oD (dE p1)<|oD (dE p0)<|oB 0 h5 o0) (l69Lbz _ _ _ _ _ _ h)
theorem c69{qq p0 p1 r}(h:e69 qq p0 p1=some r):K69 p0 p1 r Ct:=by
 unfold e69 at h
 obtain⟨r1,h2,h⟩:=obind h
 obtain⟨h3,h⟩:=spT h
 have k:=oK 0 [] h3 (c48 h2) o0
 obtain⟨h4,h⟩:=splF h
 exact k69 (tH q69 1 [] [0] [] [0,1,6,22,23,24] (oD (dE p0)<|oD (dE p1)<|oD (dE p0)<|oB 4 h4 k) (l69Lca qq _ _ _ _ _ h))
def e203(qq:Nat)(p0:TreeNode):Option (Bool):=
 e306 qq p0>>=fun r1=>
 some (decide (r1≤128))
abbrev K203 (p0:TreeNode) (r:Bool) (C:Cf):Prop:=C 203 [] [treeNodeA p0] (ab r) [] 0
theorem q203:Qf 203 Tryz.f203:=⟨Tryz.func203,by kernel_rfl⟩
theorem k203{p0 r}(h:K203 p0 r Ci):K203 p0 r Ct:=⟨h,⟨⟨tv,tv,tv,tv,⟨tv,dTreeNode _⟩,tv⟩,tv⟩,forall_nil,tv,forall_nil⟩
theorem c203{qq p0 r}(h:e203 qq p0=some r):K203 p0 r Ct:=by
 unfold e203 at h
 obtain⟨r1,h2,h⟩:=obind h
 obtain rfl:=sj h
 exact k203 (tF q203 1 [] (oC 1 [] (c306 h2) o0))
def e421(qq:Nat)(p0:Int):Option (Int):=
 if decide (p0<1)then
 none
 else
 if decide (p0>10)then
 none
 else
 gidx ([0,0,0,2,2,2,0,0,(-1),0,1]:List Int) p0>>=fun x3=>
 some x3
abbrev K421 (p0 r:Int) (C:Cf):Prop:=C 421 [] [ai p0] (ai r) [] 0
theorem q421:Qf 421 Tryz.f421:=⟨Tryz.func421,by kernel_rfl⟩
theorem k421{p0 r}(h:K421 p0 r Ci):K421 p0 r Ct:=⟨h,⟨tv,tv⟩,forall_nil,tv,forall_nil⟩
theorem c421{qq p0 r}(h:e421 qq p0=some r):K421 p0 r Ct:=by
 unfold e421 at h
 obtain⟨h1,h⟩:=splF h
 have k:=oB 0 h1 o0
 obtain⟨h2,h⟩:=splF h
 obtain⟨x3,h4,h⟩:=obind h
 obtain rfl:=sj h
 exact k421 (tF q421 0 [] (oA 0 (ixArr612 h4 rfl)<|oB 0 h2 k))
def e422(qq:Nat)(p0:TreeNode):Option (Bool):=
 if p0.kind_==1 then
 e133 qq p0.name_>>=fun r2=>
 some r2
 else
 if p0.kind_==6 then
 none
 else
 if p0.kind_==8 then
 none
 else
 if p0.kind_==3 then
 none
 else
 if p0.kind_==4 then
 none
 else
 some (p0.name_.toList==(⟨#[]⟩:ByteArray).toList)
abbrev K422 (p0:TreeNode) (r:Bool) (C:Cf):Prop:=C 422 [] [treeNodeA p0] (ab r) [] 0
theorem q422:Qf 422 Tryz.f422:=⟨Tryz.func422,by kernel_rfl⟩
theorem k422{p0 r}(h:K422 p0 r Ci):K422 p0 r Ct:=⟨h,⟨⟨tv,tv,tv,tv,⟨tv,dTreeNode _⟩,tv⟩,tv⟩,forall_nil,tv,forall_nil⟩
theorem c422{qq p0 r}(h:e422 qq p0=some r):K422 p0 r Ct:=by
 unfold e422 at h
 rcases spl h with⟨h1,h⟩|⟨h1,h⟩
 obtain⟨r2,h3,h⟩:=obind h
 obtain rfl:=sj h
 exact k422 (tF q422 0 [] (oC 1 [] (c133 h3)<|oB 1 h1 o0))
 have k:=oB 1 h1 o0
 obtain⟨h4,h⟩:=splF h
 have k:=oB 0 h4 k
 obtain⟨h7,h⟩:=splF h
 have k:=oB 0 h7 k
 obtain⟨h10,h⟩:=splF h
 have k:=oB 0 h10 k
 obtain⟨h14,h⟩:=splF h
 obtain rfl:=sj h
 exact k422 (tF q422 2 [] (oB 0 h14 k))
def e310(qq:Nat)(p0:TreeNode):Option (Bool):=
 e421 qq p0.kind_>>=fun r1=>
 if r1==(-2)then
 none
 else
 if decide (r1≥0)then
 if (List.length p0.sub_:Int) != r1 then
 none
 else
 if r1==(-1)then
 none
 else
 e422 qq p0>>=fun r13=>
 if r13 then
 if p0.kind_==2 then
 if decide (p0.n_≥0)then
 some (decide (p0.n_≤7))
 else
 none
 else
 some (p0.n_==0)
 else
 none
 else
 none
abbrev K310 (p0:TreeNode) (r:Bool) (C:Cf):Prop:=C 310 [] [treeNodeA p0] (ab r) [] 0
theorem q310:Qf 310 Tryz.f310:=⟨Tryz.func310,by kernel_rfl⟩
theorem k310{p0 r}(h:K310 p0 r Ci):K310 p0 r Ct:=⟨h,⟨⟨tv,tv,tv,tv,⟨tv,dTreeNode _⟩,tv⟩,tv⟩,forall_nil,tv,forall_nil⟩
theorem c310{qq p0 r}(h:e310 qq p0=some r):K310 p0 r Ct:=by
 unfold e310 at h
 obtain⟨r1,h2,h⟩:=obind h
 have k:=oC 1 [] (c421 h2) o0
 obtain⟨h3,h⟩:=splF h
 have k:=oB 0 h3 k
 obtain⟨h4,h⟩:=spT h
 have k:=oB 0 h4 k
 obtain⟨h5,h⟩:=splF h
 have k:=oB 2 h5 k
 obtain⟨h6,h⟩:=splF h
 obtain⟨r13,h14,h⟩:=obind h
 have k:=oB 0 h6 k
 obtain⟨h15,h⟩:=spT h
 have k:=oK 1 [] h15 (c422 h14) k
 rcases spl h with⟨h16,h⟩|⟨h16,h⟩
 have k:=oB 2 h16 k
 obtain⟨h17,h⟩:=spT h
 obtain rfl:=sj h
 exact k310 (tF q310 2 [] (oB 1 h17 k))
 obtain rfl:=sj h
 exact k310 (tF q310 2 [] (oB 2 h16 k))
def e204Lcb(qq:Nat)(p0:TreeNode)(v1:Bool)(v20:Int):Option (Bool):=
 if v1 then
 none
 else
 if decide (v20<(List.length p0.sub_:Int))then
 none
 else
 some true
def e204(qq:Nat)(p0:TreeNode)(p1:Bool):Option (Bool):=
 if p1 then
 none
 else
 e310 qq p0>>=fun r5=>
 if r5 then
 if !(decide (p0.kind_≥6)==false)then
 none
 else
 e204Lcb qq p0 false 0
 else
 none
def g204LcbE0(j:Nat->Value)(p0:TreeNode)(v1:Bool)(v20:Int):=sp j 34 0 [(1,ab v1),(2,.mp 0 0),(18,slv treeNodeC p0.sub_ .no),(19,ai (List.length p0.sub_:Int)),(20,ai v20)]
def g204LcbS0(p0:TreeNode)(v1:Bool)(v20:Int):LSt:=⟨[(0,.cells [ai p0.kind_,ai p0.at_,at' p0.name_,ai p0.n_,slv treeNodeC p0.sub_ .no])],1,[],0,[]⟩
abbrev K204 (p0:TreeNode) (p1 r:Bool) (C:Cf):Prop:=C 204 [] [treeNodeA p0,ab p1] (ab r) [] 0
theorem q204:Qf 204 Tryz.f204:=⟨Tryz.func204,by kernel_rfl⟩
theorem k204{p0 p1 r}(h:K204 p0 p1 r Ci):K204 p0 p1 r Ct:=⟨h,⟨⟨tv,tv,tv,tv,⟨tv,dTreeNode _⟩,tv⟩,tv,tv⟩,forall_nil,tv,forall_nil⟩
theorem l204Lcb(qq p0 v1 v20 r)(h:e204Lcb qq p0 v1 v20=some r):(∀j,Dl Tryz.prog 0 (inn (inn (rgt (lft (rgt (rgt (bod Tryz.f204))))))) (g204LcbE0 j p0 v1 v20) (g204LcbS0 p0 v1 v20) (frameQ Tryz.prog 0 (FinQ Tryz.prog 0 Tryz.f204 (ab r) [] 0) [.blk 0,.seq (rgt (rgt (rgt (bod Tryz.f204))))])):=by
 unfold e204Lcb at h
 cases v1
 replace h:=ifF rfl h
 obtain⟨h11,h⟩:=splF h
 obtain rfl:=sj h
 exact fun j=>lF 0 [] (oB 0 h11 o0)
 replace h:=ifT rfl h
 cases h
theorem c204{qq p0 p1 r}(h:e204 qq p0 p1=some r):K204 p0 p1 r Ct:=by
 unfold e204 at h
 cases p1
 replace h:=ifF rfl h
 obtain⟨r5,h6,h⟩:=obind h
 obtain⟨h7,h⟩:=spT h
 have k:=oK 1 [] h7 (c310 h6) o0
 obtain⟨h8,h⟩:=splF h
 exact k204 (tH q204 2 [] [0] [] [1,2,18,19,20] (oD (dTreeNode p0.sub_)<|oD (dTreeNode p0.sub_)<|oB 3 h8 k) (l204Lcb qq _ _ _ _ h))
 replace h:=ifT rfl h
 cases h
def e124(qq:Nat)(p0:TreeNode):Option (Bool):=
 e203 qq p0>>=fun r1=>
 if r1 then
 e204 qq p0 false>>=fun r4=>
 some r4
 else
 none
abbrev K124 (p0:TreeNode) (r:Bool) (C:Cf):Prop:=C 124 [] [treeNodeA p0] (ab r) [] 0
theorem q124:Qf 124 Tryz.f124:=⟨Tryz.func124,by kernel_rfl⟩
theorem k124{p0 r}(h:K124 p0 r Ci):K124 p0 r Ct:=⟨h,⟨⟨tv,tv,tv,tv,⟨tv,dTreeNode _⟩,tv⟩,tv⟩,forall_nil,tv,forall_nil⟩
theorem c124{qq p0 r}(h:e124 qq p0=some r):K124 p0 r Ct:=by
 unfold e124 at h
 obtain⟨r1,h2,h⟩:=obind h
 obtain⟨h3,h⟩:=spT h
 obtain⟨r4,h5,h⟩:=obind h
 obtain rfl:=sj h
 exact k124 (tF q124 0 [] (oC 1 [] (c204 h5)<|oK 1 [] h3 (c203 h2) o0))
def e161Lcc:Nat->(List Ent)->ByteArray->Int->Option (Int×Int)
 |0,_,_,_=>none
 |qq+1,p0,p1,v10=>
 if decide (v10<(List.length p0:Int))then
 gidx p0 v10>>=fun x2=>
 if x2.name.toList==p1.toList then
 some (v10,0)
 else
 e161Lcc qq p0 p1 (w64 (v10+1))
 else
 none
def e161(qq:Nat)(p0:List Ent)(p1:ByteArray):Option (Int×Int):=
 e161Lcc qq p0 p1 0
def g161LccE0(j:Nat->Value)(p0:List Ent)(p1:ByteArray)(v10:Int):=sp j 21 0 [(1,at' p1),(8,slv entL p0 .no),(9,ai (List.length p0:Int)),(10,ai v10)]
def g161LccS0(p0:List Ent)(p1:ByteArray)(v10:Int):LSt:=⟨[],0,[],0,[]⟩
abbrev K161 (p0:List Ent) (p1:ByteArray) (r:Int×Int) (C:Cf):Prop:=C 161 [] [slv entL p0 .no,at' p1] (.tup [ai r.1,ai r.2]) [] 0
theorem q161:Qf 161 Tryz.f161:=⟨Tryz.func161,by kernel_rfl⟩
theorem k161{p0 p1 r}(h:K161 p0 p1 r Ci):K161 p0 p1 r Ct:=⟨h,⟨⟨tv,dE _⟩,tv,tv⟩,forall_nil,⟨tv,tv,tv⟩,forall_nil⟩
theorem l161Lcc:∀qq:Nat,(∀p0 p1 v10 r,e161Lcc qq p0 p1 v10=some r->(∀j,Dl Tryz.prog 0 (inn (inn (rgt (lft (rgt (bod Tryz.f161)))))) (g161LccE0 j p0 p1 v10) (g161LccS0 p0 p1 v10) (frameQ Tryz.prog 0 (FinQ Tryz.prog 0 Tryz.f161 (.tup [ai r.1,ai r.2]) [] 0) [.blk 0,.seq (rgt (rgt (bod Tryz.f161)))]))):=by
 intro qq
 induction qq with
 |zero=>
  exact fun _ _ _ _ h=>nn h
 |succ qq ih=>
  intro p0 p1 v10 r h
  rw[e161Lcc]at h
  obtain⟨h1,h⟩:=spT h
  obtain⟨x2,h3,h⟩:=obind h
  have k:=oA 0 (ix23 (o:=.no) h3)<|oB 0 h1 o0
  rcases spl h with⟨h4,h⟩|⟨h4,h⟩
  obtain rfl:=sj h
  exact fun j=>lF 0 [] (oB 3 h4 k)
  exact fun j=>lH 1 [] [] [] [1,8,9,10] (oD (dE p0)<|oB 3 h4 k) (ih _ _ _ _ h)
theorem c161{qq p0 p1 r}(h:e161 qq p0 p1=some r):K161 p0 p1 r Ct:=by
 unfold e161 at h
 exact k161 (tH q161 1 [] [] [] [1,8,9,10] (oD (dE p0) o0) (l161Lcc _ _ _ _ _ h))
def e268(qq:Nat)(p0 p1:Int)(p2:List Tm):Option (Tm):=
 some (Tm.mk p0 p1 p2)
abbrev K268 (p0 p1:Int) (p2:List Tm) (r:Tm) (C:Cf):Prop:=C 268 [] [ai p0,ai p1,slv tmCells p2 .no] (tmA r) [] 0
theorem q268:Qf 268 Tryz.f268:=⟨Tryz.func268,by kernel_rfl⟩
theorem k268{p0 p1 p2 r}(h:K268 p0 p1 p2 r Ci):K268 p0 p1 p2 r Ct:=⟨h,⟨tv,tv,⟨tv,dT _⟩,tv⟩,forall_nil,⟨tv,tv,dT _,tv⟩,forall_nil⟩
theorem c268{qq p0 p1 p2 r}(h:e268 qq p0 p1 p2=some r):K268 p0 p1 p2 r Ct:=by
 unfold e268 at h
 obtain rfl:=sj h
 exact k268 (tF q268 1 [] (oD (dT p2) o0))
def e250(qq:Nat)(p0:Int):Option (Tm):=
 e268 qq 6 p0 []>>=fun r1=>
 some r1
abbrev K250 (p0:Int) (r:Tm) (C:Cf):Prop:=C 250 [] [ai p0] (tmA r) [] 0
theorem q250:Qf 250 Tryz.f250:=⟨Tryz.func250,by kernel_rfl⟩
theorem k250{p0 r}(h:K250 p0 r Ci):K250 p0 r Ct:=⟨h,⟨tv,tv⟩,forall_nil,⟨tv,tv,dT _,tv⟩,forall_nil⟩
theorem c250{qq p0 r}(h:e250 qq p0=some r):K250 p0 r Ct:=by
 unfold e250 at h
 obtain⟨r1,h2,h⟩:=obind h
 obtain rfl:=sj h
 exact k250 (tF q250 1 [] (oD (dT r1.sub)<|oC 0 [] (c268 h2) o0))
def e206Lcd(qq:Nat)(q0_l:List Ent)(q0_e q0_at:Int)(p1:List ByteArray)(p2:TreeNode)(v7:Int):Option (Tm×Int×Int):=
 if decide (v7≥0)then
 none
 else
 e161 qq q0_l p2.name_>>=fun r7=>
 if r7.2 != 0 then
 none
 else
 e250 qq r7.1>>=fun r14=>
 some (r14,q0_e,q0_at)
def e206(qq:Nat)(q0_l:List Ent)(q0_e q0_at:Int)(p1:List ByteArray)(p2:TreeNode):Option (Tm×Int×Int):=
 e206Lcd qq q0_l q0_e q0_at p1 p2 (w64 ((List.length p1:Int)-1))
def g206LcdE0(j:Nat->Value)(q0_l:List Ent)(q0_e q0_at:Int)(p1:List ByteArray)(p2:TreeNode)(v7:Int):=sp j 48 0 [(0,.mp 0 0),(1,slv strC p1 .no),(5,.mp 1 0),(6,.mp 2 0),(7,ai v7)]
def g206LcdS0(q0_l:List Ent)(q0_e q0_at:Int)(p1:List ByteArray)(p2:TreeNode)(v7:Int):LSt:=⟨[(0,.cells [slv entL q0_l .no,ai q0_e,ai q0_at]),(1,.cells [ai p2.kind_,ai p2.at_,at' p2.name_,ai p2.n_,slv treeNodeC p2.sub_ .no]),(2,.cells [ai 0,ai 0,slv tmCells ([]:List Tm) .nl])],3,[],0,[]⟩
abbrev K206 (q0_l:List Ent) (q0_e q0_at:Int) (p1:List ByteArray) (p2:TreeNode) (r:Tm×Int×Int) (C:Cf):Prop:=C 206 [.cells [slv entL q0_l .no,ai q0_e,ai q0_at]] [.mp 0 0,slv strC p1 .no,treeNodeA p2] (tmA r.1) [.cells [slv entL q0_l .no,ai r.2.1,ai r.2.2]] 0
theorem q206:Qf 206 Tryz.f206:=⟨Tryz.func206,by kernel_rfl⟩
theorem k206{q0_l q0_e q0_at p1 p2 r}(h:K206 q0_l q0_e q0_at p1 p2 r Ci):K206 q0_l q0_e q0_at p1 p2 r Ct:=⟨h,⟨(lz rfl),⟨tv,dS _⟩,⟨tv,tv,tv,tv,⟨tv,dTreeNode _⟩,tv⟩,tv⟩,(forall_cons ⟨⟨tv,dE _⟩,tv,tv,tv⟩ forall_nil),⟨tv,tv,dT _,tv⟩,(forall_cons ⟨dE _,tv,tv,tv⟩ forall_nil)⟩
theorem l206Lcd(qq q0_l q0_e q0_at p1 p2 v7 r)(h:e206Lcd qq q0_l q0_e q0_at p1 p2 v7=some r):(∀j,Dl Tryz.prog 1 (inn (inn (rgt (lft (rgt (bod Tryz.f206)))))) (g206LcdE0 j q0_l q0_e q0_at p1 p2 v7) (g206LcdS0 q0_l q0_e q0_at p1 p2 v7) (frameQ Tryz.prog 1 (FinQ Tryz.prog 1 Tryz.f206 (tmA r.1) [.cells [slv entL q0_l .no,ai r.2.1,ai r.2.2]] 0) [.blk 0,.seq (rgt (rgt (bod Tryz.f206)))])):=by
 unfold e206Lcd at h
 obtain⟨h1,h⟩:=splF h
 obtain⟨r7,h8,h⟩:=obind h
 have k:=oC 2 [] (c161 h8)<|oB 0 h1 o0
 obtain⟨h9,h⟩:=splF h
 obtain⟨r14,h15,h⟩:=obind h
 obtain rfl:=sj h
 exact fun j=>lF 1 [0] (oD (dT r14.sub)<|oD (dE q0_l)<|oC 0 [] (c250 h15)<|oB 2 h9 k)
theorem c206{qq q0_l q0_e q0_at p1 p2 r}(h:e206 qq q0_l q0_e q0_at p1 p2=some r):K206 q0_l q0_e q0_at p1 p2 r Ct:=by
 unfold e206 at h
 exact k206 (tH q206 2 [] [0,1,2] [] [0,1,5,6,7] (oD (dS p1)<|oD (dT ([]:List Tm))<|oD (dTreeNode p2.sub_)<|oD (dE q0_l) o0) (l206Lcd qq _ _ _ _ _ _ _ h))
def e207(qq:Nat)(p0:Int):Option (Tm):=
 e268 qq 2 p0 []>>=fun r1=>
 some r1
abbrev K207 (p0:Int) (r:Tm) (C:Cf):Prop:=C 207 [] [ai p0] (tmA r) [] 0
theorem q207:Qf 207 Tryz.f207:=⟨Tryz.func207,by kernel_rfl⟩
theorem k207{p0 r}(h:K207 p0 r Ci):K207 p0 r Ct:=⟨h,⟨tv,tv⟩,forall_nil,⟨tv,tv,dT _,tv⟩,forall_nil⟩
theorem c207{qq p0 r}(h:e207 qq p0=some r):K207 p0 r Ct:=by
 unfold e207 at h
 obtain⟨r1,h2,h⟩:=obind h
 obtain rfl:=sj h
 exact k207 (tF q207 1 [] (oD (dT r1.sub)<|oC 0 [] (c268 h2) o0))
def e126(qq:Nat)(q0_l:List Ent)(q0_e q0_at:Int)(p1:List ByteArray)(p2:TreeNode):Option (Tm×Int×Int):=
 if p2.kind_==1 then
 e206 qq q0_l q0_e q0_at p1 p2>>=fun r2=>
 some (r2.1,r2.2.1,r2.2.2)
 else
 if p2.kind_==2 then
 e207 qq p2.n_>>=fun r5=>
 some (r5,q0_e,q0_at)
 else
 none
abbrev K126 (q0_l:List Ent) (q0_e q0_at:Int) (p1:List ByteArray) (p2:TreeNode) (r:Tm×Int×Int) (C:Cf):Prop:=C 126 [.cells [slv entL q0_l .no,ai q0_e,ai q0_at]] [.mp 0 0,slv strC p1 .no,treeNodeA p2] (tmA r.1) [.cells [slv entL q0_l .no,ai r.2.1,ai r.2.2]] 0
theorem q126:Qf 126 Tryz.f126:=⟨Tryz.func126,by kernel_rfl⟩
theorem k126{q0_l q0_e q0_at p1 p2 r}(h:K126 q0_l q0_e q0_at p1 p2 r Ci):K126 q0_l q0_e q0_at p1 p2 r Ct:=⟨h,⟨(lz rfl),⟨tv,dS _⟩,⟨tv,tv,tv,tv,⟨tv,dTreeNode _⟩,tv⟩,tv⟩,(forall_cons ⟨⟨tv,dE _⟩,tv,tv,tv⟩ forall_nil),⟨tv,tv,dT _,tv⟩,(forall_cons ⟨dE _,tv,tv,tv⟩ forall_nil)⟩
theorem c126{qq q0_l q0_e q0_at p1 p2 r}(h:e126 qq q0_l q0_e q0_at p1 p2=some r):K126 q0_l q0_e q0_at p1 p2 r Ct:=by
 unfold e126 at h
 rcases spl h with⟨h1,h⟩|⟨h1,h⟩
 obtain⟨r2,h3,h⟩:=obind h
 obtain rfl:=sj h
 exact k126 (tF q126 1 [0] (oD (dT r2.1.sub)<|oD (dE q0_l)<|oC 1 [0] (c206 h3)<|oB 1 h1 o0))
 have k:=oB 1 h1 o0
 obtain⟨h4,h⟩:=spT h
 obtain⟨r5,h6,h⟩:=obind h
 obtain rfl:=sj h
 exact k126 (tF q126 1 [0] (oD (dT r5.sub)<|oD (dE q0_l)<|oC 1 [] (c207 h6)<|oB 0 h4 k))
def e77(qq:Nat)(p0:List Ent)(p1:List ByteArray)(p2:TreeNode):Option (Tm×Int×Int):=
 e124 qq p2>>=fun r1=>
 if r1 then
 e125 qq p0 p1>>=fun r4=>
 if r4 != 0 then
 none
 else
 e126 qq p0 0 0 p1 p2>>=fun r7=>
 if r7.2.1 != 0 then
 none
 else
 e73 qq r7.1>>=fun r10=>
 if r10 then
 some (r7.1,0,0)
 else
 none
 else
 none
abbrev K77 (p0:List Ent) (p1:List ByteArray) (p2:TreeNode) (r:Tm×Int×Int) (C:Cf):Prop:=C 77 [] [slv entL p0 .no,slv strC p1 .no,treeNodeA p2] (.tup [tmA r.1,ai r.2.1,ai r.2.2]) [] 0
theorem q77:Qf 77 Tryz.f77:=⟨Tryz.func77,by kernel_rfl⟩
theorem k77{p0 p1 p2 r}(h:K77 p0 p1 p2 r Ci):K77 p0 p1 p2 r Ct:=⟨h,⟨⟨tv,dE _⟩,⟨tv,dS _⟩,⟨tv,tv,tv,tv,⟨tv,dTreeNode _⟩,tv⟩,tv⟩,forall_nil,⟨⟨tv,tv,dT _,tv⟩,tv,tv,tv⟩,forall_nil⟩
theorem c77{qq p0 p1 p2 r}(h:e77 qq p0 p1 p2=some r):K77 p0 p1 p2 r Ct:=by
 unfold e77 at h
 obtain⟨r1,h2,h⟩:=obind h
 obtain⟨h3,h⟩:=spT h
 obtain⟨r4,h5,h⟩:=obind h
 have k:=oC 1 [] (c125 h5)<|oK 1 [] h3 (c124 h2) o0
 obtain⟨h6,h⟩:=splF h
 obtain⟨r7,h8,h⟩:=obind h
 have k:=oC 1 [2] (c126 h8)<|oB 0 h6 k
 obtain⟨h9,h⟩:=splF h
 obtain⟨r10,h11,h⟩:=obind h
 have k:=oB 2 h9 k
 obtain⟨h12,h⟩:=spT h
 obtain rfl:=sj h
 exact k77 (tF q77 3 [] (oD (dT r7.1.sub)<|oK 1 [] h12 (c73 h11) k))
def e106(qq:Nat)(M:Mach):Option (List Ent):=
 e21 qq M.l>>=fun r1=>
 some r1
abbrev K106 (M:Mach) (r:List Ent) (C:Cf):Prop:=C 106 [mB M 1,mR M] [.mp 0 0] (.sl (flat entL r) (List.length r) .no) [mB M 1,mR M] 0
theorem q106:Qf 106 Tryz.f106:=⟨Tryz.func106,by kernel_rfl⟩
theorem k106{M r}(h:K106 M r Ci):K106 M r Ct:=⟨h,⟨(lz rfl),tv⟩,(forall_cons ⟨⟨tv,dE _⟩,(lz rfl),⟨tv,dI _⟩,⟨tv,dI _⟩,tv⟩ (forall_cons ⟨⟨tv,dE _⟩,⟨tv,dC _⟩,tv⟩ forall_nil)),dE _,(forall_cons ⟨dE _,(lz rfl),dI _,dI _,tv⟩ (forall_cons ⟨dE _,dC _,tv⟩ forall_nil))⟩
theorem c106{qq M r}(h:e106 qq M=some r):K106 M r Ct:=by
 unfold e106 at h
 obtain⟨r1,h2,h⟩:=obind h
 obtain rfl:=sj h
 exact k106 (tF q106 0 [0,1] (oD (dE r1)<|oD (dC M.parts)<|oD (dE M.rl)<|oD (dI M.own)<|oD (dI M.args)<|oD (dE M.l)<|oC 2 [] (c21 h2) o0))
def e180(qq:Nat)(M:Mach):Option (Int):=
 some (List.length M.l:Int)
abbrev K180 (M:Mach) (r:Int) (C:Cf):Prop:=C 180 [mB M 1,mR M] [.mp 0 0] (ai r) [mB M 1,mR M] 0
theorem q180:Qf 180 Tryz.f180:=⟨Tryz.func180,by kernel_rfl⟩
theorem k180{M r}(h:K180 M r Ci):K180 M r Ct:=⟨h,⟨(lz rfl),tv⟩,(forall_cons ⟨⟨tv,dE _⟩,(lz rfl),⟨tv,dI _⟩,⟨tv,dI _⟩,tv⟩ (forall_cons ⟨⟨tv,dE _⟩,⟨tv,dC _⟩,tv⟩ forall_nil)),tv,(forall_cons ⟨dE _,(lz rfl),dI _,dI _,tv⟩ (forall_cons ⟨dE _,dC _,tv⟩ forall_nil))⟩
theorem c180{qq M r}(h:e180 qq M=some r):K180 M r Ct:=by
 unfold e180 at h
 obtain rfl:=sj h
 exact k180 (tF q180 3 [0,1] (oD (dC M.parts)<|oD (dE M.rl)<|oD (dI M.own)<|oD (dI M.args)<|oD (dE M.l) o0))
def e210Lce:Nat->Mach->Int->Int->(List Tm)->(List Int)->(List Tm)->(List Tm)->Int->Option (Bool)
 |0,_,_,_,_,_,_,_,_=>none
 |qq+1,M,fl,fu,p0_Context,p0_Names,p0_Types,p1,v21=>
 if decide (v21<(List.length p1:Int))then
 gidx p1 v21>>=fun x3=>
 e180 qq M>>=fun r5=>
 e181 qq x3 1048577 r5>>=fun r7=>
 if r7 then
 e210Lce qq M fl fu p0_Context p0_Names p0_Types p1 (w64 (v21+1))
 else
 none
 else
 some true
def e210(qq:Nat)(M:Mach)(fl fu:Int)(p0_Context:List Tm)(p0_Names:List Int)(p0_Types p1:List Tm):Option (Bool):=
 if (List.length p0_Names:Int) != (List.length p0_Types:Int)then
 none
 else
 e210Lce qq M fl fu p0_Context p0_Names p0_Types p1 0
def g210LceE0(j:Nat->Value)(M:Mach)(fl fu:Int)(p0_Context:List Tm)(p0_Names:List Int)(p0_Types p1:List Tm)(v21:Int):=sp j 32 0 [(2,.mp 3 0),(19,slv tmCells p1 .no),(20,ai (List.length p1:Int)),(21,ai v21)]
def g210LceS0(M:Mach)(fl fu:Int)(p0_Context:List Tm)(p0_Names:List Int)(p0_Types p1:List Tm)(v21:Int):LSt:=⟨[(0,mB M 1),(1,mR M),(2,.cells [ai fl,ai fu]),(3,.cells [.mp 0 0,.mp 2 0,slv tmCells p0_Context .no,slv intC p0_Names .no,slv tmCells p0_Types .no])],4,[],0,[]⟩
abbrev K210 (M:Mach) (fl fu:Int) (p0_Context:List Tm) (p0_Names:List Int) (p0_Types p1:List Tm) (r:Bool) (C:Cf):Prop:=C 210 [mB M 1,mR M,.cells [ai fl,ai fu]] [.agg [.mp 0 0,.mp 2 0,slv tmCells p0_Context .no,slv intC p0_Names .no,slv tmCells p0_Types .no],slv tmCells p1 .no] (ab r) [mB M 1,mR M,.cells [ai fl,ai fu]] 0
theorem q210:Qf 210 Tryz.f210:=⟨Tryz.func210,by kernel_rfl⟩
theorem k210{M fl fu p0_Context p0_Names p0_Types p1 r}(h:K210 M fl fu p0_Context p0_Names p0_Types p1 r Ci):K210 M fl fu p0_Context p0_Names p0_Types p1 r Ct:=⟨h,⟨⟨(lz rfl),(lz rfl),⟨tv,dT _⟩,⟨tv,dI _⟩,⟨tv,dT _⟩,tv⟩,⟨tv,dT _⟩,tv⟩,(forall_cons ⟨⟨tv,dE _⟩,(lz rfl),⟨tv,dI _⟩,⟨tv,dI _⟩,tv⟩ (forall_cons ⟨⟨tv,dE _⟩,⟨tv,dC _⟩,tv⟩ (forall_cons ⟨tv,tv,tv⟩ forall_nil))),tv,(forall_cons ⟨dE _,(lz rfl),dI _,dI _,tv⟩ (forall_cons ⟨dE _,dC _,tv⟩ (forall_cons ⟨tv,tv,tv⟩ forall_nil)))⟩
theorem l210Lce:∀qq:Nat,(∀M fl fu p0_Context p0_Names p0_Types p1 v21 r,e210Lce qq M fl fu p0_Context p0_Names p0_Types p1 v21=some r->(∀j,Dl Tryz.prog 3 (inn (inn (rgt (lft (rgt (rgt (bod Tryz.f210))))))) (g210LceE0 j M fl fu p0_Context p0_Names p0_Types p1 v21) (g210LceS0 M fl fu p0_Context p0_Names p0_Types p1 v21) (frameQ Tryz.prog 3 (FinQ Tryz.prog 3 Tryz.f210 (ab r) [mB M 1,mR M,.cells [ai fl,ai fu]] 0) [.blk 0,.seq (rgt (rgt (rgt (bod Tryz.f210))))]))):=by
 intro qq
 induction qq with
 |zero=>
  exact fun _ _ _ _ _ _ _ _ _ h=>nn h
 |succ qq ih=>
  intro M fl fu p0_Context p0_Names p0_Types p1 v21 r h
  rw[e210Lce]at h
  rcases spl h with⟨h2,h⟩|⟨h2,h⟩
  obtain⟨x3,h4,h⟩:=obind h
  obtain⟨r5,h6,h⟩:=obind h
  obtain⟨r7,h8,h⟩:=obind h
  have k:=oC 4 [0,1] (c180 h6)<|oA 0 (ix78 (o:=.no) h4)<|oB 0 h2 o0
  obtain⟨h9,h⟩:=spT h
  exact fun j=>lH 2 [] [0,1,2,3] [] [2,19,20,21] (oD (dT p1)<|oD (dT p0_Types)<|oD (dI p0_Names)<|oD (dT p0_Context)<|oD (dC M.parts)<|oD (dE M.rl)<|oD (dI M.own)<|oD (dI M.args)<|oD (dE M.l)<|oK 0 [] h9 (c181 h8) k) (ih _ _ _ _ _ _ _ _ _ h)
  obtain rfl:=sj h
  exact fun j=>lF 0 [0,1,2] (oD (dC M.parts)<|oD (dE M.rl)<|oD (dI M.own)<|oD (dI M.args)<|oD (dE M.l)<|oB 0 h2 o0)
theorem c210{qq M fl fu p0_Context p0_Names p0_Types p1 r}(h:e210 qq M fl fu p0_Context p0_Names p0_Types p1=some r):K210 M fl fu p0_Context p0_Names p0_Types p1 r Ct:=by
 unfold e210 at h
 obtain⟨h1,h⟩:=splF h
 exact k210 (tH q210 1 [] [0,1,2,3] [] [2,19,20,21] (oD (dT p1)<|oD (dT p0_Types)<|oD (dI p0_Names)<|oD (dT p0_Context)<|oD (dC M.parts)<|oD (dE M.rl)<|oD (dI M.own)<|oD (dI M.args)<|oD (dE M.l)<|oB 6 h1 o0) (l210Lce _ _ _ _ _ _ _ _ _ _ h))
def e127(qq:Nat)(M:Mach)(fl fu:Int)(p0_Context:List Tm)(p0_Names:List Int)(p0_Types p1:List Tm):Option (Int×List Tm×List Int×List Tm×List Ent):=
 e210 qq M fl fu p0_Context p0_Names p0_Types p1>>=fun r1=>
 if r1 then
 e210 qq M fl fu p0_Context p0_Names p0_Types p0_Context>>=fun r4=>
 if r4 then
 e210 qq M fl fu p0_Context p0_Names p0_Types p0_Types>>=fun r7=>
 if r7 then
 e106 qq M>>=fun r10=>
 some (0,p0_Context,p0_Names,p0_Types,r10)
 else
 none
 else
 none
 else
 none
abbrev K127 (M:Mach) (fl fu:Int) (p0_Context:List Tm) (p0_Names:List Int) (p0_Types p1:List Tm) (r:Int×List Tm×List Int×List Tm×List Ent) (C:Cf):Prop:=C 127 [mB M 1,mR M,.cells [ai fl,ai fu]] [.agg [.mp 0 0,.mp 2 0,slv tmCells p0_Context .no,slv intC p0_Names .no,slv tmCells p0_Types .no],slv tmCells p1 .no] (.tup [.mp 3 0,ai r.1]) [mB M 1,mR M,.cells [ai fl,ai fu],.cells [.mp 0 0,.mp 2 0,slv tmCells r.2.1 .no,slv intC r.2.2.1 .no,slv tmCells r.2.2.2.1 .no,slv entL r.2.2.2.2 .no]] 0
theorem q127:Qf 127 Tryz.f127:=⟨Tryz.func127,by kernel_rfl⟩
theorem k127{M fl fu p0_Context p0_Names p0_Types p1 r}(h:K127 M fl fu p0_Context p0_Names p0_Types p1 r Ci):K127 M fl fu p0_Context p0_Names p0_Types p1 r Ct:=⟨h,⟨⟨(lz rfl),(lz rfl),⟨tv,dT _⟩,⟨tv,dI _⟩,⟨tv,dT _⟩,tv⟩,⟨tv,dT _⟩,tv⟩,(forall_cons ⟨⟨tv,dE _⟩,(lz rfl),⟨tv,dI _⟩,⟨tv,dI _⟩,tv⟩ (forall_cons ⟨⟨tv,dE _⟩,⟨tv,dC _⟩,tv⟩ (forall_cons ⟨tv,tv,tv⟩ forall_nil))),⟨(lz rfl),tv,tv⟩,(forall_cons ⟨dE _,(lz rfl),dI _,dI _,tv⟩ (forall_cons ⟨dE _,dC _,tv⟩ (forall_cons ⟨tv,tv,tv⟩ (forall_cons ⟨(lz rfl),(lz rfl),dT _,dI _,dT _,dE _,tv⟩ forall_nil))))⟩
theorem c127{qq M fl fu p0_Context p0_Names p0_Types p1 r}(h:e127 qq M fl fu p0_Context p0_Names p0_Types p1=some r):K127 M fl fu p0_Context p0_Names p0_Types p1 r Ct:=by
 unfold e127 at h
 obtain⟨r1,h2,h⟩:=obind h
 obtain⟨h3,h⟩:=spT h
 obtain⟨r4,h5,h⟩:=obind h
 have k:=oK 1 [0,1,2] h3 (c210 h2) o0
 obtain⟨h6,h⟩:=spT h
 obtain⟨r7,h8,h⟩:=obind h
 have k:=oK 3 [0,1,2] h6 (c210 h5) k
 obtain⟨h9,h⟩:=spT h
 obtain⟨r10,h11,h⟩:=obind h
 obtain rfl:=sj h
 exact k127 (tF q127 0 [0,1,2,4] (oD (dE r10)<|oD (dT p0_Types)<|oD (dI p0_Names)<|oD (dT p0_Context)<|oD (dC M.parts)<|oD (dE M.rl)<|oD (dI M.own)<|oD (dI M.args)<|oD (dE M.l)<|oC 3 [0,1] (c106 h11)<|oK 3 [0,1,2] h9 (c210 h8) k))
def e325(qq:Nat)(M:Mach)(p1:Tm):Option (Bool):=
 e181 qq p1 1048577 (List.length M.l:Int)>>=fun r1=>
 some r1
abbrev K325 (M:Mach) (p1:Tm) (r:Bool) (C:Cf):Prop:=C 325 [mB M 1,mR M] [.mp 0 0,tmA p1] (ab r) [mB M 1,mR M] 0
theorem q325:Qf 325 Tryz.f325:=⟨Tryz.func325,by kernel_rfl⟩
theorem k325{M p1 r}(h:K325 M p1 r Ci):K325 M p1 r Ct:=⟨h,⟨(lz rfl),⟨tv,tv,⟨tv,dT _⟩,tv⟩,tv⟩,(forall_cons ⟨⟨tv,dE _⟩,(lz rfl),⟨tv,dI _⟩,⟨tv,dI _⟩,tv⟩ (forall_cons ⟨⟨tv,dE _⟩,⟨tv,dC _⟩,tv⟩ forall_nil)),tv,(forall_cons ⟨dE _,(lz rfl),dI _,dI _,tv⟩ (forall_cons ⟨dE _,dC _,tv⟩ forall_nil))⟩
theorem c325{qq M p1 r}(h:e325 qq M p1=some r):K325 M p1 r Ct:=by
 unfold e325 at h
 obtain⟨r1,h2,h⟩:=obind h
 obtain rfl:=sj h
 exact k325 (tF q325 0 [0,1] (oD (dC M.parts)<|oD (dE M.rl)<|oD (dI M.own)<|oD (dI M.args)<|oD (dE M.l)<|oC 4 [] (c181 h2) o0))
def e505(qq:Nat)(M:Mach)(p1:Tm):Option (Int):=
 if p1.k != 6 then
 some 0
 else
 if decide (p1.n≥(List.length M.l:Int))then
 none
 else
 gidx M.l p1.n>>=fun x3=>
 some x3.kind
abbrev K505 (M:Mach) (p1:Tm) (r:Int) (C:Cf):Prop:=C 505 [mB M 1,mR M] [.mp 0 0,tmA p1] (ai r) [mB M 1,mR M] 0
theorem q505:Qf 505 Tryz.f505:=⟨Tryz.func505,by kernel_rfl⟩
theorem k505{M p1 r}(h:K505 M p1 r Ci):K505 M p1 r Ct:=⟨h,⟨(lz rfl),⟨tv,tv,⟨tv,dT _⟩,tv⟩,tv⟩,(forall_cons ⟨⟨tv,dE _⟩,(lz rfl),⟨tv,dI _⟩,⟨tv,dI _⟩,tv⟩ (forall_cons ⟨⟨tv,dE _⟩,⟨tv,dC _⟩,tv⟩ forall_nil)),tv,(forall_cons ⟨dE _,(lz rfl),dI _,dI _,tv⟩ (forall_cons ⟨dE _,dC _,tv⟩ forall_nil))⟩
theorem c505{qq M p1 r}(h:e505 qq M p1=some r):K505 M p1 r Ct:=by
 unfold e505 at h
 rcases spl h with⟨h1,h⟩|⟨h1,h⟩
 obtain rfl:=sj h
 exact k505 (tF q505 0 [0,1] (oD (dC M.parts)<|oD (dE M.rl)<|oD (dI M.own)<|oD (dI M.args)<|oD (dE M.l)<|oB 1 h1 o0))
 have k:=oB 1 h1 o0
 obtain⟨h2,h⟩:=splF h
 obtain⟨x3,h4,h⟩:=obind h
 obtain rfl:=sj h
 exact k505 (tF q505 1 [0,1] (oD (dC M.parts)<|oD (dE M.rl)<|oD (dI M.own)<|oD (dI M.args)<|oD (dE M.l)<|oA 2 (ix23 (o:=.no) h4)<|oB 3 h2 k))
def e430(qq:Nat)(M:Mach)(p1:Tm)(fl fu:Int):Option (Tm×Bool×Int×Int×Int):=
 e219 qq p1>>=fun r1=>
 if r1.1.k==4 then
 none
 else
 e505 qq M r1.1>>=fun r57=>
 if r57==3 then
 none
 else
 e505 qq M r1.1>>=fun r69=>
 if r69==4 then
 none
 else
 if r1.1.k==7 then
 none
 else
 some (p1,false,0,fl,fu)
def e326Lcf(qq:Nat)(M:Mach)(vb2_0 vb2_1 vb3_0 vb3_1:Int)(vb3_2:List Tm):Option (Tm×Int×Int×Int):=
 e430 qq M (Tm.mk vb3_0 vb3_1 vb3_2) vb2_0 vb2_1>>=fun r1=>
 if r1.2.1 then
 none
 else
 if r1.2.2.1 != 0 then
 none
 else
 some ((Tm.mk vb3_0 vb3_1 vb3_2),0,r1.2.2.2.1,r1.2.2.2.2)
def e326(qq:Nat)(M:Mach)(p1:Tm)(fl fu:Int):Option (Tm×Int×Int×Int):=
 e326Lcf qq M fl fu p1.k p1.n p1.sub
def g326LcfE0(j:Nat->Value)(M:Mach)(vb2_0 vb2_1 vb3_0 vb3_1:Int)(vb3_2:List Tm):=sp j 28 0 [(0,.mp 0 0),(2,.mp 2 0),(4,.mp 3 0),(6,.mp 4 0)]
def g326LcfS0(M:Mach)(vb2_0 vb2_1 vb3_0 vb3_1:Int)(vb3_2:List Tm):LSt:=⟨[(0,mB M 1),(1,mR M),(2,.cells [ai vb2_0,ai vb2_1]),(3,.cells [ai vb3_0,ai vb3_1,slv tmCells vb3_2 .no]),(4,.cells [ai 0,ai 0,slv tmCells ([]:List Tm) .nl])],5,[],0,[]⟩
abbrev K326 (M:Mach) (p1:Tm) (fl fu:Int) (r:Tm×Int×Int×Int) (C:Cf):Prop:=C 326 [mB M 1,mR M,.cells [ai fl,ai fu]] [.mp 0 0,tmA p1,.mp 2 0] (.tup [tmA r.1,ai r.2.1]) [mB M 1,mR M,.cells [ai r.2.2.1,ai r.2.2.2]] 0
abbrev K430 (M:Mach) (p1:Tm) (fl fu:Int) (r:Tm×Bool×Int×Int×Int) (C:Cf):Prop:=C 430 [mB M 1,mR M,.cells [ai fl,ai fu]] [.mp 0 0,tmA p1,.mp 2 0] (.tup [tmA r.1,ab r.2.1,ai r.2.2.1]) [mB M 1,mR M,.cells [ai r.2.2.2.1,ai r.2.2.2.2]] 0
theorem q326:Qf 326 Tryz.f326:=⟨Tryz.func326,by kernel_rfl⟩
theorem k326{M p1 fl fu r}(h:K326 M p1 fl fu r Ci):K326 M p1 fl fu r Ct:=⟨h,⟨(lz rfl),⟨tv,tv,⟨tv,dT _⟩,tv⟩,(lz rfl),tv⟩,(forall_cons ⟨⟨tv,dE _⟩,(lz rfl),⟨tv,dI _⟩,⟨tv,dI _⟩,tv⟩ (forall_cons ⟨⟨tv,dE _⟩,⟨tv,dC _⟩,tv⟩ (forall_cons ⟨tv,tv,tv⟩ forall_nil))),⟨⟨tv,tv,dT _,tv⟩,tv,tv⟩,(forall_cons ⟨dE _,(lz rfl),dI _,dI _,tv⟩ (forall_cons ⟨dE _,dC _,tv⟩ (forall_cons ⟨tv,tv,tv⟩ forall_nil)))⟩
theorem q430:Qf 430 Tryz.f430:=⟨Tryz.func430,by kernel_rfl⟩
theorem k430{M p1 fl fu r}(h:K430 M p1 fl fu r Ci):K430 M p1 fl fu r Ct:=⟨h,⟨(lz rfl),⟨tv,tv,⟨tv,dT _⟩,tv⟩,(lz rfl),tv⟩,(forall_cons ⟨⟨tv,dE _⟩,(lz rfl),⟨tv,dI _⟩,⟨tv,dI _⟩,tv⟩ (forall_cons ⟨⟨tv,dE _⟩,⟨tv,dC _⟩,tv⟩ (forall_cons ⟨tv,tv,tv⟩ forall_nil))),⟨⟨tv,tv,dT _,tv⟩,tv,tv,tv⟩,(forall_cons ⟨dE _,(lz rfl),dI _,dI _,tv⟩ (forall_cons ⟨dE _,dC _,tv⟩ (forall_cons ⟨tv,tv,tv⟩ forall_nil)))⟩
theorem c430{qq M p1 fl fu r}(h:e430 qq M p1 fl fu=some r):K430 M p1 fl fu r Ct:=by
 unfold e430 at h
 obtain⟨r1,h2,h⟩:=obind h
 have k:=oC 1 [] (c219 h2) o0
 obtain⟨h3,h⟩:=splF h
 obtain⟨r57,h58,h⟩:=obind h
 have k:=oC 1 [0,1] (c505 h58)<|oB 5 h3 k
 obtain⟨h59,h⟩:=splF h
 obtain⟨r69,h70,h⟩:=obind h
 have k:=oC 1 [0,1] (c505 h70)<|oB 0 h59 k
 obtain⟨h71,h⟩:=splF h
 have k:=oB 0 h71 k
 obtain⟨h82,h⟩:=splF h
 obtain rfl:=sj h
 exact k430 (tF q430 4 [0,1,2] (oD (dT p1.sub)<|oD (dC M.parts)<|oD (dE M.rl)<|oD (dI M.own)<|oD (dI M.args)<|oD (dE M.l)<|oB 1 h82 k))
theorem l326Lcf(qq M vb2_0 vb2_1 vb3_0 vb3_1 vb3_2 r)(h:e326Lcf qq M vb2_0 vb2_1 vb3_0 vb3_1 vb3_2=some r):(∀j,Dl Tryz.prog 3 (inn (inn (rgt (inn (rgt (bod Tryz.f326)))))) (g326LcfE0 j M vb2_0 vb2_1 vb3_0 vb3_1 vb3_2) (g326LcfS0 M vb2_0 vb2_1 vb3_0 vb3_1 vb3_2) (frameQ Tryz.prog 3 (FinQ Tryz.prog 3 Tryz.f326 (.tup [tmA r.1,ai r.2.1]) [mB M 1,mR M,.cells [ai r.2.2.1,ai r.2.2.2]] 0) [.blk 0])):=by
 unfold e326Lcf at h
 obtain⟨r1,h2,h⟩:=obind h
 have k:=oC 1 [0,1,2] (c430 h2) o0
 obtain⟨h3,h⟩:=splF h
 have k:=oB 1 h3 k
 obtain⟨h5,h⟩:=splF h
 obtain rfl:=sj h
 exact fun j=>lF 2 [0,1,2] (oD (dT vb3_2)<|oD (dC M.parts)<|oD (dE M.rl)<|oD (dI M.own)<|oD (dI M.args)<|oD (dE M.l)<|oB 2 h5 k)
theorem c326{qq M p1 fl fu r}(h:e326 qq M p1 fl fu=some r):K326 M p1 fl fu r Ct:=by
 unfold e326 at h
 exact k326 (tH q326 0 [] [0,1,2,3,4] [] [0,2,4,6] (oD (dT ([]:List Tm))<|oD (dT p1.sub)<|oD (dC M.parts)<|oD (dE M.rl)<|oD (dI M.own)<|oD (dI M.args)<|oD (dE M.l) o0) (l326Lcf qq _ _ _ _ _ _ _ h))
def e217(qq:Nat)(M:Mach)(p1:Tm)(fl fu:Int):Option (Tm×Int×Int×Int):=
 e325 qq M p1>>=fun r1=>
 if r1 then
 e326 qq M p1 fl fu>>=fun r4=>
 if r4.2.1 != 0 then
 none
 else
 e42 qq r4.1>>=fun r7=>
 some (r7,0,r4.2.2.1,r4.2.2.2)
 else
 none
abbrev K217 (M:Mach) (p1:Tm) (fl fu:Int) (r:Tm×Int×Int×Int) (C:Cf):Prop:=C 217 [mB M 1,mR M,.cells [ai fl,ai fu]] [.mp 0 0,tmA p1,.mp 2 0] (.tup [tmA r.1,ai r.2.1]) [mB M 1,mR M,.cells [ai r.2.2.1,ai r.2.2.2]] 0
theorem q217:Qf 217 Tryz.f217:=⟨Tryz.func217,by kernel_rfl⟩
theorem k217{M p1 fl fu r}(h:K217 M p1 fl fu r Ci):K217 M p1 fl fu r Ct:=⟨h,⟨(lz rfl),⟨tv,tv,⟨tv,dT _⟩,tv⟩,(lz rfl),tv⟩,(forall_cons ⟨⟨tv,dE _⟩,(lz rfl),⟨tv,dI _⟩,⟨tv,dI _⟩,tv⟩ (forall_cons ⟨⟨tv,dE _⟩,⟨tv,dC _⟩,tv⟩ (forall_cons ⟨tv,tv,tv⟩ forall_nil))),⟨⟨tv,tv,dT _,tv⟩,tv,tv⟩,(forall_cons ⟨dE _,(lz rfl),dI _,dI _,tv⟩ (forall_cons ⟨dE _,dC _,tv⟩ (forall_cons ⟨tv,tv,tv⟩ forall_nil)))⟩
theorem c217{qq M p1 fl fu r}(h:e217 qq M p1 fl fu=some r):K217 M p1 fl fu r Ct:=by
 unfold e217 at h
 obtain⟨r1,h2,h⟩:=obind h
 obtain⟨h3,h⟩:=spT h
 obtain⟨r4,h5,h⟩:=obind h
 have k:=oC 2 [0,1,2] (c326 h5)<|oK 1 [0,1] h3 (c325 h2) o0
 obtain⟨h6,h⟩:=splF h
 obtain⟨r7,h8,h⟩:=obind h
 obtain rfl:=sj h
 exact k217 (tF q217 1 [0,1,2] (oD (dT r7.sub)<|oD (dC M.parts)<|oD (dE M.rl)<|oD (dI M.own)<|oD (dI M.args)<|oD (dE M.l)<|oC 1 [] (c42 h8)<|oB 3 h6 k))
def e128(qq:Nat)(M:Mach)(fl fu:Int)(q0_World_Context:List Tm)(q0_World_Names:List Int)(q0_World_Types:List Tm)(q0_l:List Ent)(p1:Tm):Option (Tm×Int×Int×Int):=
 if p1.k==1 then
 none
 else
 if p1.k==8 then
 none
 else
 if p1.k==6 then
 gidx q0_l p1.n>>=fun x8=>
 some (x8.type,0,fl,fu)
 else
 if p1.k==7 then
 none
 else
 if p1.k==2 then
 if decide (p1.n≥7)then
 none
 else
 e207 qq (w64 (p1.n+1))>>=fun r17=>
 some (r17,0,fl,fu)
 else
 none
def e163(qq:Nat)(M:Mach)(fl fu:Int)(q0_World_Context:List Tm)(q0_World_Names:List Int)(q0_World_Types:List Tm)(q0_l:List Ent)(p1:Tm):Option (Int×Int×Int×Int):=
 e128 qq M fl fu q0_World_Context q0_World_Names q0_World_Types q0_l p1>>=fun r1=>
 if r1.2.1 != 0 then
 none
 else
 e217 qq M r1.1 r1.2.2.1 r1.2.2.2>>=fun r4=>
 if r4.2.1 != 0 then
 none
 else
 if r4.1.k != 2 then
 none
 else
 some (r4.1.n,0,r4.2.2.1,r4.2.2.2)
abbrev K128 (M:Mach) (fl fu:Int) (q0_World_Context:List Tm) (q0_World_Names:List Int) (q0_World_Types:List Tm) (q0_l:List Ent) (p1:Tm) (r:Tm×Int×Int×Int) (C:Cf):Prop:=C 128 [.cells [.mp 1 0,.mp 3 0,slv tmCells q0_World_Context .no,slv intC q0_World_Names .no,slv tmCells q0_World_Types .no,slv entL q0_l .no],mB M 2,mR M,.cells [ai fl,ai fu]] [.mp 0 0,tmA p1] (.tup [tmA r.1,ai r.2.1]) [.cells [.mp 1 0,.mp 3 0,slv tmCells q0_World_Context .no,slv intC q0_World_Names .no,slv tmCells q0_World_Types .no,slv entL q0_l .no],mB M 2,mR M,.cells [ai r.2.2.1,ai r.2.2.2]] 0
abbrev K163 (M:Mach) (fl fu:Int) (q0_World_Context:List Tm) (q0_World_Names:List Int) (q0_World_Types:List Tm) (q0_l:List Ent) (p1:Tm) (r:Int×Int×Int×Int) (C:Cf):Prop:=C 163 [.cells [.mp 1 0,.mp 3 0,slv tmCells q0_World_Context .no,slv intC q0_World_Names .no,slv tmCells q0_World_Types .no,slv entL q0_l .no],mB M 2,mR M,.cells [ai fl,ai fu]] [.mp 0 0,tmA p1] (.tup [ai r.1,ai r.2.1]) [.cells [.mp 1 0,.mp 3 0,slv tmCells q0_World_Context .no,slv intC q0_World_Names .no,slv tmCells q0_World_Types .no,slv entL q0_l .no],mB M 2,mR M,.cells [ai r.2.2.1,ai r.2.2.2]] 0
theorem q128:Qf 128 Tryz.f128:=⟨Tryz.func128,by kernel_rfl⟩
theorem k128{M fl fu q0_World_Context q0_World_Names q0_World_Types q0_l p1 r}(h:K128 M fl fu q0_World_Context q0_World_Names q0_World_Types q0_l p1 r Ci):K128 M fl fu q0_World_Context q0_World_Names q0_World_Types q0_l p1 r Ct:=⟨h,⟨(lz rfl),⟨tv,tv,⟨tv,dT _⟩,tv⟩,tv⟩,(forall_cons ⟨(lz rfl),(lz rfl),⟨tv,dT _⟩,⟨tv,dI _⟩,⟨tv,dT _⟩,⟨tv,dE _⟩,tv⟩ (forall_cons ⟨⟨tv,dE _⟩,(lz rfl),⟨tv,dI _⟩,⟨tv,dI _⟩,tv⟩ (forall_cons ⟨⟨tv,dE _⟩,⟨tv,dC _⟩,tv⟩ (forall_cons ⟨tv,tv,tv⟩ forall_nil)))),⟨⟨tv,tv,dT _,tv⟩,tv,tv⟩,(forall_cons ⟨(lz rfl),(lz rfl),dT _,dI _,dT _,dE _,tv⟩ (forall_cons ⟨dE _,(lz rfl),dI _,dI _,tv⟩ (forall_cons ⟨dE _,dC _,tv⟩ (forall_cons ⟨tv,tv,tv⟩ forall_nil))))⟩
theorem q163:Qf 163 Tryz.f163:=⟨Tryz.func163,by kernel_rfl⟩
theorem k163{M fl fu q0_World_Context q0_World_Names q0_World_Types q0_l p1 r}(h:K163 M fl fu q0_World_Context q0_World_Names q0_World_Types q0_l p1 r Ci):K163 M fl fu q0_World_Context q0_World_Names q0_World_Types q0_l p1 r Ct:=⟨h,⟨(lz rfl),⟨tv,tv,⟨tv,dT _⟩,tv⟩,tv⟩,(forall_cons ⟨(lz rfl),(lz rfl),⟨tv,dT _⟩,⟨tv,dI _⟩,⟨tv,dT _⟩,⟨tv,dE _⟩,tv⟩ (forall_cons ⟨⟨tv,dE _⟩,(lz rfl),⟨tv,dI _⟩,⟨tv,dI _⟩,tv⟩ (forall_cons ⟨⟨tv,dE _⟩,⟨tv,dC _⟩,tv⟩ (forall_cons ⟨tv,tv,tv⟩ forall_nil)))),⟨tv,tv,tv⟩,(forall_cons ⟨(lz rfl),(lz rfl),dT _,dI _,dT _,dE _,tv⟩ (forall_cons ⟨dE _,(lz rfl),dI _,dI _,tv⟩ (forall_cons ⟨dE _,dC _,tv⟩ (forall_cons ⟨tv,tv,tv⟩ forall_nil))))⟩
theorem c128{qq M fl fu q0_World_Context q0_World_Names q0_World_Types q0_l p1 r}(h:e128 qq M fl fu q0_World_Context q0_World_Names q0_World_Types q0_l p1=some r):K128 M fl fu q0_World_Context q0_World_Names q0_World_Types q0_l p1 r Ct:=by
 unfold e128 at h
 obtain⟨h1,h⟩:=splF h
 have k:=oB 1 h1 o0
 obtain⟨h4,h⟩:=splF h
 have k:=oB 0 h4 k
 rcases spl h with⟨h7,h⟩|⟨h7,h⟩
 obtain⟨x8,h9,h⟩:=obind h
 obtain rfl:=sj h
 exact k128 (tF q128 2 [0,1,2,3] (oD (dT x8.type.sub)<|oD (dC M.parts)<|oD (dE M.rl)<|oD (dI M.own)<|oD (dI M.args)<|oD (dE M.l)<|oD (dE q0_l)<|oD (dT q0_World_Types)<|oD (dI q0_World_Names)<|oD (dT q0_World_Context)<|oA 2 (ix23 (o:=.no) h9)<|oB 0 h7 k))
 have k:=oB 0 h7 k
 obtain⟨h10,h⟩:=splF h
 have k:=oB 0 h10 k
 obtain⟨h15,h⟩:=spT h
 have k:=oB 0 h15 k
 obtain⟨h16,h⟩:=splF h
 obtain⟨r17,h18,h⟩:=obind h
 obtain rfl:=sj h
 exact k128 (tF q128 1 [0,1,2,3] (oD (dT r17.sub)<|oD (dC M.parts)<|oD (dE M.rl)<|oD (dI M.own)<|oD (dI M.args)<|oD (dE M.l)<|oD (dE q0_l)<|oD (dT q0_World_Types)<|oD (dI q0_World_Names)<|oD (dT q0_World_Context)<|oC 2 [] (c207 h18)<|oB 1 h16 k))
theorem c163{qq M fl fu q0_World_Context q0_World_Names q0_World_Types q0_l p1 r}(h:e163 qq M fl fu q0_World_Context q0_World_Names q0_World_Types q0_l p1=some r):K163 M fl fu q0_World_Context q0_World_Names q0_World_Types q0_l p1 r Ct:=by
 unfold e163 at h
 obtain⟨r1,h2,h⟩:=obind h
 have k:=oC 1 [0,1,2,3] (c128 h2) o0
 obtain⟨h3,h⟩:=splF h
 obtain⟨r4,h5,h⟩:=obind h
 have k:=oC 3 [1,2,3] (c217 h5)<|oB 3 h3 k
 obtain⟨h6,h⟩:=splF h
 have k:=oB 3 h6 k
 obtain⟨h7,h⟩:=splF h
 obtain rfl:=sj h
 exact k163 (tF q163 1 [0,1,2,3] (oD (dC M.parts)<|oD (dE M.rl)<|oD (dI M.own)<|oD (dI M.args)<|oD (dE M.l)<|oD (dE q0_l)<|oD (dT q0_World_Types)<|oD (dI q0_World_Names)<|oD (dT q0_World_Context)<|oB 1 h7 k))
def e96(qq:Nat)(M:Mach)(fl fu:Int)(p0_Context:List Tm)(p0_Names:List Int)(p0_Types:List Tm)(p1:Tm):Option (Int×Int×Int×Int):=
 e127 qq M fl fu p0_Context p0_Names p0_Types [p1]>>=fun r1=>
 if r1.1 != 0 then
 none
 else
 e163 qq M fl fu r1.2.1 r1.2.2.1 r1.2.2.2.1 r1.2.2.2.2 p1>>=fun r4=>
 some (r4.1,r4.2.1,r4.2.2.1,r4.2.2.2)
abbrev K96 (M:Mach) (fl fu:Int) (p0_Context:List Tm) (p0_Names:List Int) (p0_Types:List Tm) (p1:Tm) (r:Int×Int×Int×Int) (C:Cf):Prop:=C 96 [mB M 1,mR M,.cells [ai fl,ai fu]] [.agg [.mp 0 0,.mp 2 0,slv tmCells p0_Context .no,slv intC p0_Names .no,slv tmCells p0_Types .no],tmA p1] (.tup [ai r.1,ai r.2.1]) [mB M 1,mR M,.cells [ai r.2.2.1,ai r.2.2.2]] 0
theorem q96:Qf 96 Tryz.f96:=⟨Tryz.func96,by kernel_rfl⟩
theorem k96{M fl fu p0_Context p0_Names p0_Types p1 r}(h:K96 M fl fu p0_Context p0_Names p0_Types p1 r Ci):K96 M fl fu p0_Context p0_Names p0_Types p1 r Ct:=⟨h,⟨⟨(lz rfl),(lz rfl),⟨tv,dT _⟩,⟨tv,dI _⟩,⟨tv,dT _⟩,tv⟩,⟨tv,tv,⟨tv,dT _⟩,tv⟩,tv⟩,(forall_cons ⟨⟨tv,dE _⟩,(lz rfl),⟨tv,dI _⟩,⟨tv,dI _⟩,tv⟩ (forall_cons ⟨⟨tv,dE _⟩,⟨tv,dC _⟩,tv⟩ (forall_cons ⟨tv,tv,tv⟩ forall_nil))),⟨tv,tv,tv⟩,(forall_cons ⟨dE _,(lz rfl),dI _,dI _,tv⟩ (forall_cons ⟨dE _,dC _,tv⟩ (forall_cons ⟨tv,tv,tv⟩ forall_nil)))⟩
theorem c96{qq M fl fu p0_Context p0_Names p0_Types p1 r}(h:e96 qq M fl fu p0_Context p0_Names p0_Types p1=some r):K96 M fl fu p0_Context p0_Names p0_Types p1 r Ct:=by
 unfold e96 at h
 obtain⟨r1,h2,h⟩:=obind h
 have k:=oC 0 [0,1,2] (c127 h2)<|oS 2 (obLitR tm_eq [p1]) o0
 obtain⟨h3,h⟩:=splF h
 obtain⟨r4,h5,h⟩:=obind h
 obtain rfl:=sj h
 exact k96 (tF q96 2 [0,1,2] (oD (dC M.parts)<|oD (dE M.rl)<|oD (dI M.own)<|oD (dI M.args)<|oD (dE M.l)<|oC 1 [5,0,1,2] (c163 h5)<|oB 2 h3 k))
def e152(qq:Nat)(q0_l:List Ent)(q0_d:TreeDecl)(fl fu:Int)(q0_pars:List Tm)(q0_own:List ByteArray)(q0_e q0_at:Int):Option (List EntZ×Int×Int×Int×Int):=
 e77 qq q0_l q0_own q0_d.type_>>=fun r1=>
 if r1.2.2==2 then
 none
 else
 e241 qq q0_l q0_d fl fu q0_pars q0_own q0_e q0_at r1.2.2 r1.2.1>>=fun r35=>
 if r35.1 then
 none
 else
 e243 qq q0_l q0_d fl fu q0_pars q0_own r35.2.1 r35.2.2 q0_pars>>=fun r38=>
 e96 qq (Mach.mk r38.2.2.2.2.2.1 r38.2.2.2.2.2.2.2.2.1 r38.2.2.2.2.2.2.2.2.2 r38.2.2.2.2.2.2.1 r38.2.2.2.2.2.2.2.1) fl fu r38.1 r38.2.1 r38.2.2.1 r1.1>>=fun r40=>
 e241 qq q0_l q0_d r40.2.2.1 r40.2.2.2 q0_pars q0_own r38.2.2.2.1 r38.2.2.2.2.1 r40.2.1 q0_d.type_.at_>>=fun r42=>
 if r42.1 then
 none
 else
 e231 qq r1.1>>=fun r45=>
 if r45.2.2 != 0 then
 none
 else
 if r45.2.1.k != 2 then
 none
 else
 if decide ((List.length r45.1:Int)>(w64 (24-(List.length q0_pars:Int))))then
 none
 else
 e193 qq q0_pars r1.1>>=fun r56=>
 e241 qq q0_l q0_d r40.2.2.1 r40.2.2.2 q0_pars q0_own r42.2.1 r42.2.2 r56.2 q0_d.at_>>=fun r58=>
 if r58.1 then
 none
 else
 e69 qq q0_l [(Ent.mk 1 q0_d.name_ r56.1 (Tm.mk 0 0 []) 0 0 (List.length q0_pars:Int) (List.length r45.1:Int) r45.2.1.n [] [])]>>=fun r61=>
 e241 qq q0_l q0_d r40.2.2.1 r40.2.2.2 q0_pars q0_own r58.2.1 r58.2.2 r61.2 q0_d.at_>>=fun r63=>
 if r63.1 then
 none
 else
 some (r61.1,r63.2.1,r63.2.2,r40.2.2.1,r40.2.2.2)
abbrev K152 (q0_l:List Ent) (q0_d:TreeDecl) (fl fu:Int) (q0_pars:List Tm) (q0_own:List ByteArray) (q0_e q0_at:Int) (r:List EntZ×Int×Int×Int×Int) (C:Cf):Prop:=C 152 [.cells [slv entL q0_l .no,ai q0_d.kind_,ai q0_d.at_,at' q0_d.name_,slv treeBindL q0_d.tele_ .no,ai q0_d.type_.kind_,ai q0_d.type_.at_,at' q0_d.type_.name_,ai q0_d.type_.n_,slv treeNodeC q0_d.type_.sub_ .no,slv treeBindL q0_d.cons_ .no,slv treeRowL q0_d.rows_ .no,.mp 1 0,slv tmCells q0_pars .no,slv strC q0_own .no,ai q0_e,ai q0_at],.cells [ai fl,ai fu]] [.mp 0 0] (.tup []) [.cells [slv entZ r.1 .no,ai q0_d.kind_,ai q0_d.at_,at' q0_d.name_,slv treeBindL q0_d.tele_ .no,ai q0_d.type_.kind_,ai q0_d.type_.at_,at' q0_d.type_.name_,ai q0_d.type_.n_,slv treeNodeC q0_d.type_.sub_ .no,slv treeBindL q0_d.cons_ .no,slv treeRowL q0_d.rows_ .no,.mp 1 0,slv tmCells q0_pars .no,slv strC q0_own .no,ai r.2.1,ai r.2.2.1],.cells [ai r.2.2.2.1,ai r.2.2.2.2]] 0
theorem q152:Qf 152 Tryz.f152:=⟨Tryz.func152,by kernel_rfl⟩
theorem k152{q0_l q0_d fl fu q0_pars q0_own q0_e q0_at r}(h:K152 q0_l q0_d fl fu q0_pars q0_own q0_e q0_at r Ci):K152 q0_l q0_d fl fu q0_pars q0_own q0_e q0_at r Ct:=⟨h,⟨(lz rfl),tv⟩,(forall_cons ⟨⟨tv,dE _⟩,tv,tv,tv,⟨tv,dTreeBind _⟩,tv,tv,tv,tv,⟨tv,dTreeNode _⟩,⟨tv,dTreeBind _⟩,⟨tv,dTreeRow _⟩,(lz rfl),⟨tv,dT _⟩,⟨tv,dS _⟩,tv,tv,tv⟩ (forall_cons ⟨tv,tv,tv⟩ forall_nil)),tv,(forall_cons ⟨dEZ _,tv,tv,tv,dTreeBind _,tv,tv,tv,tv,dTreeNode _,dTreeBind _,dTreeRow _,(lz rfl),dT _,dS _,tv,tv,tv⟩ (forall_cons ⟨tv,tv,tv⟩ forall_nil))⟩
theorem c152{qq q0_l q0_d fl fu q0_pars q0_own q0_e q0_at r}(h:e152 qq q0_l q0_d fl fu q0_pars q0_own q0_e q0_at=some r):K152 q0_l q0_d fl fu q0_pars q0_own q0_e q0_at r Ct:=by
 unfold e152 at h
 obtain⟨r1,h2,h⟩:=obind h
 have k:=oC 3 [] (c77 h2) o0
 obtain⟨h3,h⟩:=splF h
 obtain⟨r35,h36,h⟩:=obind h
 have k:=oB 4 h3 k
 obtain⟨h37,h⟩:=splF h
 obtain⟨r38,h39,h⟩:=obind h
 obtain⟨r40,h41,h⟩:=obind h
 obtain⟨r42,h43,h⟩:=obind h
 have k:=oC 1 [3,4,1] (c96 h41)<|oC 1 [0,1] (c243 h39)<|oK 0 [0,1] h37 (c241 h36) k
 obtain⟨h44,h⟩:=splF h
 obtain⟨r45,h46,h⟩:=obind h
 have k:=oC 1 [] (c231 h46)<|oK 3 [0,1] h44 (c241 h43) k
 obtain⟨h47,h⟩:=splF h
 have k:=oB 4 h47 k
 obtain⟨h50,h⟩:=splF h
 have k:=oB 1 h50 k
 obtain⟨h53,h⟩:=splF h
 obtain⟨r56,h57,h⟩:=obind h
 obtain⟨r58,h59,h⟩:=obind h
 have k:=oC 2 [] (c193 h57)<|oB 4 h53 k
 obtain⟨h60,h⟩:=splF h
 obtain⟨r61,h62,h⟩:=obind h
 obtain⟨r63,h64,h⟩:=obind h
 have k:=oC 10 [] (c69 h62)<|oK 4 [0,1] h60 (c241 h59) k
 obtain⟨h65,h⟩:=splF h
 obtain rfl:=sj h
 exact k152 (tF q152 1 [0,1] (oD (dS q0_own)<|oD (dT q0_pars)<|oD (dTreeRow q0_d.rows_)<|oD (dTreeBind q0_d.cons_)<|oD (dTreeNode q0_d.type_.sub_)<|oD (dTreeBind q0_d.tele_)<|oD (dEZ r61.1)<|oK 3 [0,1] h65 (c241 h64) k))
def e241vacg(qq:Nat)(q0:List EntZ)(q1 q2:Int)(q3:ByteArray)(q4:List TreeBind)(q5 q6:Int)(q7:ByteArray)(q8:Int)(q9:List TreeNode)(q10:List TreeBind)(q11:List TreeRow)(q12 q13:Int)(q14:List Tm)(q15:List ByteArray)(q16 q17 p1 p2:Int):Option (Bool×Int×Int):=
 if q16==0 then
 if p1 != 0 then
 none
 else
 some ((q16 != 0),q16,q17)
 else
 none
abbrev K241vacg (q0:List EntZ) (q1 q2:Int) (q3:ByteArray) (q4:List TreeBind) (q5 q6:Int) (q7:ByteArray) (q8:Int) (q9:List TreeNode) (q10:List TreeBind) (q11:List TreeRow) (q12 q13:Int) (q14:List Tm) (q15:List ByteArray) (q16 q17 p1 p2:Int) (r:Bool×Int×Int) (C:Cf):Prop:=C 241 [.cells [slv entZ q0 .no,ai q1,ai q2,at' q3,slv treeBindL q4 .no,ai q5,ai q6,at' q7,ai q8,slv treeNodeC q9 .no,slv treeBindL q10 .no,slv treeRowL q11 .no,.mp 1 0,slv tmCells q14 .no,slv strC q15 .no,ai q16,ai q17],.cells [ai q12,ai q13]] [.mp 0 0,ai p1,ai p2] (ab r.1) [.cells [slv entZ q0 .no,ai q1,ai q2,at' q3,slv treeBindL q4 .no,ai q5,ai q6,at' q7,ai q8,slv treeNodeC q9 .no,slv treeBindL q10 .no,slv treeRowL q11 .no,.mp 1 0,slv tmCells q14 .no,slv strC q15 .no,ai r.2.1,ai r.2.2],.cells [ai q12,ai q13]] 0
theorem q241vacg:Qf 241 Tryz.f241:=⟨Tryz.func241,by kernel_rfl⟩
theorem k241vacg{q0 q1 q2 q3 q4 q5 q6 q7 q8 q9 q10 q11 q12 q13 q14 q15 q16 q17 p1 p2 r}(h:K241vacg q0 q1 q2 q3 q4 q5 q6 q7 q8 q9 q10 q11 q12 q13 q14 q15 q16 q17 p1 p2 r Ci):K241vacg q0 q1 q2 q3 q4 q5 q6 q7 q8 q9 q10 q11 q12 q13 q14 q15 q16 q17 p1 p2 r Ct:=⟨h,⟨(lz rfl),tv,tv,tv⟩,(forall_cons ⟨⟨tv,dEZ _⟩,tv,tv,tv,⟨tv,dTreeBind _⟩,tv,tv,tv,tv,⟨tv,dTreeNode _⟩,⟨tv,dTreeBind _⟩,⟨tv,dTreeRow _⟩,(lz rfl),⟨tv,dT _⟩,⟨tv,dS _⟩,tv,tv,tv⟩ (forall_cons ⟨tv,tv,tv⟩ forall_nil)),tv,(forall_cons ⟨dEZ _,tv,tv,tv,dTreeBind _,tv,tv,tv,tv,dTreeNode _,dTreeBind _,dTreeRow _,(lz rfl),dT _,dS _,tv,tv,tv⟩ (forall_cons ⟨tv,tv,tv⟩ forall_nil))⟩
theorem c241vacg{qq q0 q1 q2 q3 q4 q5 q6 q7 q8 q9 q10 q11 q12 q13 q14 q15 q16 q17 p1 p2 r}(h:e241vacg qq q0 q1 q2 q3 q4 q5 q6 q7 q8 q9 q10 q11 q12 q13 q14 q15 q16 q17 p1 p2=some r):K241vacg q0 q1 q2 q3 q4 q5 q6 q7 q8 q9 q10 q11 q12 q13 q14 q15 q16 q17 p1 p2 r Ct:=by
 unfold e241vacg at h
 obtain⟨h1,h⟩:=spT h
 have k:=oB 1 h1 o0
 obtain⟨h2,h⟩:=splF h
 obtain rfl:=sj h
 exact k241vacg (tF q241vacg 2 [0,1] (oD (dS q15)<|oD (dT q14)<|oD (dTreeRow q11)<|oD (dTreeBind q10)<|oD (dTreeNode q9)<|oD (dTreeBind q4)<|oD (dEZ q0)<|oB 0 h2 k))
def e243vach(qq:Nat)(q0:List EntZ)(q1 q2:Int)(q3:ByteArray)(q4:List TreeBind)(q5 q6:Int)(q7:ByteArray)(q8:Int)(q9:List TreeNode)(q10:List TreeBind)(q11:List TreeRow)(q12 q13:Int)(q14:List Tm)(q15:List ByteArray)(q16 q17:Int)(p1:List Tm):Option (List Tm×List Int×List Tm×Int×Int×List Ent×List Int×List Int×List Ent×List Con'):=
 e75 qq q0>>=fun r1=>
 if r1.1 != 0 then
 none
 else
 some (p1,[],[],q16,q17,r1.2.1,r1.2.2.1,r1.2.2.2.1,r1.2.2.2.2.1,r1.2.2.2.2.2)
abbrev K243vach (q0:List EntZ) (q1 q2:Int) (q3:ByteArray) (q4:List TreeBind) (q5 q6:Int) (q7:ByteArray) (q8:Int) (q9:List TreeNode) (q10:List TreeBind) (q11:List TreeRow) (q12 q13:Int) (q14:List Tm) (q15:List ByteArray) (q16 q17:Int) (p1:List Tm) (r:List Tm×List Int×List Tm×Int×Int×List Ent×List Int×List Int×List Ent×List Con') (C:Cf):Prop:=C 243 [.cells [slv entZ q0 .no,ai q1,ai q2,at' q3,slv treeBindL q4 .no,ai q5,ai q6,at' q7,ai q8,slv treeNodeC q9 .no,slv treeBindL q10 .no,slv treeRowL q11 .no,.mp 1 0,slv tmCells q14 .no,slv strC q15 .no,ai q16,ai q17],.cells [ai q12,ai q13]] [.mp 0 0,slv tmCells p1 .no] (.agg [.mp 2 0,.mp 1 0,slv tmCells r.1 .no,slv intC r.2.1 .no,slv tmCells r.2.2.1 .no]) [.cells [slv entZ q0 .no,ai q1,ai q2,at' q3,slv treeBindL q4 .no,ai q5,ai q6,at' q7,ai q8,slv treeNodeC q9 .no,slv treeBindL q10 .no,slv treeRowL q11 .no,.mp 1 0,slv tmCells q14 .no,slv strC q15 .no,ai r.2.2.2.1,ai r.2.2.2.2.1],.cells [ai q12,ai q13],.cells [slv entL r.2.2.2.2.2.1 .no,.mp 3 0,slv intC r.2.2.2.2.2.2.1 .no,slv intC r.2.2.2.2.2.2.2.1 .no],.cells [slv entL r.2.2.2.2.2.2.2.2.1 .no,slv conL r.2.2.2.2.2.2.2.2.2 .no]] 0
theorem q243vach:Qf 243 Tryz.f243:=⟨Tryz.func243,by kernel_rfl⟩
theorem k243vach{q0 q1 q2 q3 q4 q5 q6 q7 q8 q9 q10 q11 q12 q13 q14 q15 q16 q17 p1 r}(h:K243vach q0 q1 q2 q3 q4 q5 q6 q7 q8 q9 q10 q11 q12 q13 q14 q15 q16 q17 p1 r Ci):K243vach q0 q1 q2 q3 q4 q5 q6 q7 q8 q9 q10 q11 q12 q13 q14 q15 q16 q17 p1 r Ct:=⟨h,⟨(lz rfl),⟨tv,dT _⟩,tv⟩,(forall_cons ⟨⟨tv,dEZ _⟩,tv,tv,tv,⟨tv,dTreeBind _⟩,tv,tv,tv,tv,⟨tv,dTreeNode _⟩,⟨tv,dTreeBind _⟩,⟨tv,dTreeRow _⟩,(lz rfl),⟨tv,dT _⟩,⟨tv,dS _⟩,tv,tv,tv⟩ (forall_cons ⟨tv,tv,tv⟩ forall_nil)),⟨(lz rfl),(lz rfl),dT _,dI _,dT _,tv⟩,(forall_cons ⟨dEZ _,tv,tv,tv,dTreeBind _,tv,tv,tv,tv,dTreeNode _,dTreeBind _,dTreeRow _,(lz rfl),dT _,dS _,tv,tv,tv⟩ (forall_cons ⟨tv,tv,tv⟩ (forall_cons ⟨dE _,(lz rfl),dI _,dI _,tv⟩ (forall_cons ⟨dE _,dC _,tv⟩ forall_nil))))⟩
theorem c243vach{qq q0 q1 q2 q3 q4 q5 q6 q7 q8 q9 q10 q11 q12 q13 q14 q15 q16 q17 p1 r}(h:e243vach qq q0 q1 q2 q3 q4 q5 q6 q7 q8 q9 q10 q11 q12 q13 q14 q15 q16 q17 p1=some r):K243vach q0 q1 q2 q3 q4 q5 q6 q7 q8 q9 q10 q11 q12 q13 q14 q15 q16 q17 p1 r Ct:=by
 unfold e243vach at h
 obtain⟨r1,h2,h⟩:=obind h
 have k:=oC 0 [] (c75 h2)<|oWk 0 (wkE q0 .no) o0
 obtain⟨h3,h⟩:=splF h
 obtain rfl:=sj h
 exact k243vach (tF q243vach 2 [0,1,3,4] (oD (dT ([]:List Tm))<|oD (dI ([]:List Int))<|oD (dT p1)<|oD (dC r1.2.2.2.2.2)<|oD (dE r1.2.2.2.2.1)<|oD (dI r1.2.2.2.1)<|oD (dI r1.2.2.1)<|oD (dE r1.2.1)<|oD (dS q15)<|oD (dT q14)<|oD (dTreeRow q11)<|oD (dTreeBind q10)<|oD (dTreeNode q9)<|oD (dTreeBind q4)<|oD (dEZ q0)<|oB 2 h3 k))
def e349vaciLcj(qq:Nat)(q0:List EntZ)(q1 q2:Int)(q3:ByteArray)(q4:List TreeBind)(q5 q6:Int)(q7:ByteArray)(q8:Int)(q9:List TreeNode)(q10:List TreeBind)(q11:List TreeRow)(q12 q13:Int)(q14:List Tm)(q15:List ByteArray)(q16 q17 p2 p3:Int)(r1:Tm×List Tm)(x5:Ent)(v56:Int):Option (Bool):=
 if decide (v56<x5.pars)then
 none
 else
 some true
def e349vaci(qq:Nat)(q0:List EntZ)(q1 q2:Int)(q3:ByteArray)(q4:List TreeBind)(q5 q6:Int)(q7:ByteArray)(q8:Int)(q9:List TreeNode)(q10:List TreeBind)(q11:List TreeRow)(q12 q13:Int)(q14:List Tm)(q15:List ByteArray)(q16 q17:Int)(p1:Tm)(p2 p3:Int):Option (Bool):=
 e219 qq p1>>=fun r1=>
 if r1.1.k != 6 then
 none
 else
 if r1.1.n != p2 then
 none
 else
 gidx q0 p2>>=fun x5=>
 if (List.length r1.2:Int) != (w64 (x5.pars+x5.inds))then
 none
 else
 e349vaciLcj qq q0 q1 q2 q3 q4 q5 q6 q7 q8 q9 q10 q11 q12 q13 q14 q15 q16 q17 p2 p3 r1 x5 0
def g349vaciLcjE0(j:Nat->Value)(q0:List EntZ)(q1 q2:Int)(q3:ByteArray)(q4:List TreeBind)(q5 q6:Int)(q7:ByteArray)(q8:Int)(q9:List TreeNode)(q10:List TreeBind)(q11:List TreeRow)(q12 q13:Int)(q14:List Tm)(q15:List ByteArray)(q16 q17 p2 p3:Int)(r1:Tm×List Tm)(x5:Ent)(v56:Int):=sp j 87 0 [(0,.mp 0 0),(2,ai p2),(3,ai p3),(10,slv tmCells r1.2 .no),(55,ai x5.pars),(56,ai v56)]
def g349vaciLcjS0(q0:List EntZ)(q1 q2:Int)(q3:ByteArray)(q4:List TreeBind)(q5 q6:Int)(q7:ByteArray)(q8:Int)(q9:List TreeNode)(q10:List TreeBind)(q11:List TreeRow)(q12 q13:Int)(q14:List Tm)(q15:List ByteArray)(q16 q17 p2 p3:Int)(r1:Tm×List Tm)(x5:Ent)(v56:Int):LSt:=⟨[(0,.cells [slv entZ q0 .no,ai q1,ai q2,at' q3,slv treeBindL q4 .no,ai q5,ai q6,at' q7,ai q8,slv treeNodeC q9 .no,slv treeBindL q10 .no,slv treeRowL q11 .no,.mp 1 0,slv tmCells q14 .no,slv strC q15 .no,ai q16,ai q17]),(1,.cells [ai q12,ai q13])],2,[],0,[]⟩
abbrev K349vaci (q0:List EntZ) (q1 q2:Int) (q3:ByteArray) (q4:List TreeBind) (q5 q6:Int) (q7:ByteArray) (q8:Int) (q9:List TreeNode) (q10:List TreeBind) (q11:List TreeRow) (q12 q13:Int) (q14:List Tm) (q15:List ByteArray) (q16 q17:Int) (p1:Tm) (p2 p3:Int) (r:Bool) (C:Cf):Prop:=C 349 [.cells [slv entZ q0 .no,ai q1,ai q2,at' q3,slv treeBindL q4 .no,ai q5,ai q6,at' q7,ai q8,slv treeNodeC q9 .no,slv treeBindL q10 .no,slv treeRowL q11 .no,.mp 1 0,slv tmCells q14 .no,slv strC q15 .no,ai q16,ai q17],.cells [ai q12,ai q13]] [.mp 0 0,tmA p1,ai p2,ai p3] (ab r) [.cells [slv entZ q0 .no,ai q1,ai q2,at' q3,slv treeBindL q4 .no,ai q5,ai q6,at' q7,ai q8,slv treeNodeC q9 .no,slv treeBindL q10 .no,slv treeRowL q11 .no,.mp 1 0,slv tmCells q14 .no,slv strC q15 .no,ai q16,ai q17],.cells [ai q12,ai q13]] 0
theorem q349vaci:Qf 349 Tryz.f349:=⟨Tryz.func349,by kernel_rfl⟩
theorem k349vaci{q0 q1 q2 q3 q4 q5 q6 q7 q8 q9 q10 q11 q12 q13 q14 q15 q16 q17 p1 p2 p3 r}(h:K349vaci q0 q1 q2 q3 q4 q5 q6 q7 q8 q9 q10 q11 q12 q13 q14 q15 q16 q17 p1 p2 p3 r Ci):K349vaci q0 q1 q2 q3 q4 q5 q6 q7 q8 q9 q10 q11 q12 q13 q14 q15 q16 q17 p1 p2 p3 r Ct:=⟨h,⟨(lz rfl),⟨tv,tv,⟨tv,dT _⟩,tv⟩,tv,tv,tv⟩,(forall_cons ⟨⟨tv,dEZ _⟩,tv,tv,tv,⟨tv,dTreeBind _⟩,tv,tv,tv,tv,⟨tv,dTreeNode _⟩,⟨tv,dTreeBind _⟩,⟨tv,dTreeRow _⟩,(lz rfl),⟨tv,dT _⟩,⟨tv,dS _⟩,tv,tv,tv⟩ (forall_cons ⟨tv,tv,tv⟩ forall_nil)),tv,(forall_cons ⟨dEZ _,tv,tv,tv,dTreeBind _,tv,tv,tv,tv,dTreeNode _,dTreeBind _,dTreeRow _,(lz rfl),dT _,dS _,tv,tv,tv⟩ (forall_cons ⟨tv,tv,tv⟩ forall_nil))⟩
theorem l349vaciLcj(qq q0 q1 q2 q3 q4 q5 q6 q7 q8 q9 q10 q11 q12 q13 q14 q15 q16 q17 p2 p3 r1 x5 v56 r)(h:e349vaciLcj qq q0 q1 q2 q3 q4 q5 q6 q7 q8 q9 q10 q11 q12 q13 q14 q15 q16 q17 p2 p3 r1 x5 v56=some r):(∀j,Dl Tryz.prog 2 (inn (inn (rgt (lft (rgt (rgt (rgt (bod Tryz.f349)))))))) (g349vaciLcjE0 j q0 q1 q2 q3 q4 q5 q6 q7 q8 q9 q10 q11 q12 q13 q14 q15 q16 q17 p2 p3 r1 x5 v56) (g349vaciLcjS0 q0 q1 q2 q3 q4 q5 q6 q7 q8 q9 q10 q11 q12 q13 q14 q15 q16 q17 p2 p3 r1 x5 v56) (frameQ Tryz.prog 2 (FinQ Tryz.prog 2 Tryz.f349 (ab r) [.cells [slv entZ q0 .no,ai q1,ai q2,at' q3,slv treeBindL q4 .no,ai q5,ai q6,at' q7,ai q8,slv treeNodeC q9 .no,slv treeBindL q10 .no,slv treeRowL q11 .no,.mp 1 0,slv tmCells q14 .no,slv strC q15 .no,ai q16,ai q17],.cells [ai q12,ai q13]] 0) [.blk 0,.seq (rgt (rgt (rgt (rgt (bod Tryz.f349)))))])):=by
 unfold e349vaciLcj at h
 obtain⟨h8,h⟩:=splF h
 obtain rfl:=sj h
 exact fun j=>lF 0 [0,1] (oD (dS q15)<|oD (dT q14)<|oD (dTreeRow q11)<|oD (dTreeBind q10)<|oD (dTreeNode q9)<|oD (dTreeBind q4)<|oD (dEZ q0)<|oB 0 h8 o0)
theorem c349vaci{qq q0 q1 q2 q3 q4 q5 q6 q7 q8 q9 q10 q11 q12 q13 q14 q15 q16 q17 p1 p2 p3 r}(h:e349vaci qq q0 q1 q2 q3 q4 q5 q6 q7 q8 q9 q10 q11 q12 q13 q14 q15 q16 q17 p1 p2 p3=some r):K349vaci q0 q1 q2 q3 q4 q5 q6 q7 q8 q9 q10 q11 q12 q13 q14 q15 q16 q17 p1 p2 p3 r Ct:=by
 unfold e349vaci at h
 obtain⟨r1,h2,h⟩:=obind h
 have k:=oC 1 [] (c219 h2) o0
 obtain⟨h3,h⟩:=splF h
 have k:=oB 4 h3 k
 obtain⟨h4,h⟩:=splF h
 obtain⟨x5,h6,h⟩:=obind h
 have k:=oA 0 (ix23 (o:=.no) h6)<|oWk 1 (wkE q0 .no)<|oA 0 (ix23 (o:=.no) h6)<|oWk 1 (wkE q0 .no)<|oB 1 h4 k
 obtain⟨h7,h⟩:=splF h
 exact k349vaci (tH q349vaci 1 [] [0,1] [] [0,2,3,10,55,56] (oD (dT r1.2)<|oD (dS q15)<|oD (dT q14)<|oD (dTreeRow q11)<|oD (dTreeBind q10)<|oD (dTreeNode q9)<|oD (dTreeBind q4)<|oD (dEZ q0)<|oA 0 (ix23 (o:=.no) h6)<|oWk 0 (wkE q0 .no)<|oB 2 h7 k) (l349vaciLcj qq _ _ _ _ _ _ _ _ _ _ _ _ _ _ _ _ _ _ _ _ _ _ _ _ h))
def e440Lck:Nat->(List Int)->Int->Option (Bool)
 |0,_,_=>none
 |qq+1,p0,v7=>
 if decide (v7<(List.length p0:Int))then
 gidx p0 v7>>=fun x2=>
 if decide (x2<0)then
 none
 else
 if decide (x2>24)then
 none
 else
 e440Lck qq p0 (w64 (v7+1))
 else
 some true
def e440(qq:Nat)(p0:List Int):Option (Bool):=
 e440Lck qq p0 0
def g440LckE0(j:Nat->Value)(p0:List Int)(v7:Int):=sp j 18 0 [(5,slv intC p0 .no),(6,ai (List.length p0:Int)),(7,ai v7)]
def g440LckS0(p0:List Int)(v7:Int):LSt:=⟨[],0,[],0,[]⟩
abbrev K440 (p0:List Int) (r:Bool) (C:Cf):Prop:=C 440 [] [slv intC p0 .no] (ab r) [] 0
theorem q440:Qf 440 Tryz.f440:=⟨Tryz.func440,by kernel_rfl⟩
theorem k440{p0 r}(h:K440 p0 r Ci):K440 p0 r Ct:=⟨h,⟨⟨tv,dI _⟩,tv⟩,forall_nil,tv,forall_nil⟩
theorem l440Lck:∀qq:Nat,(∀p0 v7 r,e440Lck qq p0 v7=some r->(∀j,Dl Tryz.prog 0 (inn (inn (rgt (lft (rgt (bod Tryz.f440)))))) (g440LckE0 j p0 v7) (g440LckS0 p0 v7) (frameQ Tryz.prog 0 (FinQ Tryz.prog 0 Tryz.f440 (ab r) [] 0) [.blk 0,.seq (rgt (rgt (bod Tryz.f440)))]))):=by
 intro qq
 induction qq with
 |zero=>
  exact fun _ _ _ h=>nn h
 |succ qq ih=>
  intro p0 v7 r h
  rw[e440Lck]at h
  rcases spl h with⟨h1,h⟩|⟨h1,h⟩
  obtain⟨x2,h3,h⟩:=obind h
  have k:=oA 0 (ix24 (o:=.no) h3)<|oB 0 h1 o0
  obtain⟨h4,h⟩:=splF h
  have k:=oB 1 h4 k
  obtain⟨h5,h⟩:=splF h
  exact fun j=>lH 1 [] [] [] [5,6,7] (oD (dI p0)<|oB 0 h5 k) (ih _ _ _ h)
  obtain rfl:=sj h
  exact fun j=>lF 0 [] (oB 0 h1 o0)
theorem c440{qq p0 r}(h:e440 qq p0=some r):K440 p0 r Ct:=by
 unfold e440 at h
 exact k440 (tH q440 1 [] [] [] [5,6,7] (oD (dI p0) o0) (l440Lck _ _ _ _ h))
def e350Lcl(qq:Nat)(p0:List Tm)(p1 p2 p3 v37:Int):Option (Int×Int):=
 if decide (v37<(List.length p0:Int))then
 none
 else
 some ((-1),0)
def e350Lcm(qq:Nat)(p0:List Tm)(p1 p2 p3 v27:Int):Option (Int×Int):=
 if decide (v27<(List.length p0:Int))then
 none
 else
 e350Lcl qq p0 p1 p2 p3 0
def e350(qq:Nat)(p0:List Tm)(p1 p2 p3:Int):Option (Int×Int):=
 e440 qq [p2,p3,(List.length p0:Int)]>>=fun r1=>
 if r1 then
 if decide (p1<0)then
 none
 else
 e350Lcm qq p0 p1 p2 p3 0
 else
 none
def g350LcmE0(j:Nat->Value)(p0:List Tm)(p1 p2 p3 v27:Int):=sp j 64 0 [(0,slv tmCells p0 .no),(1,ai p1),(2,ai p2),(3,ai p3),(25,slv tmCells p0 .no),(26,ai (List.length p0:Int)),(27,ai v27)]
def g350LcmS0(p0:List Tm)(p1 p2 p3 v27:Int):LSt:=⟨[],0,[],0,[]⟩
def g350LclE0(j:Nat->Value)(p0:List Tm)(p1 p2 p3 v37:Int):=sp j 64 0 [(0,slv tmCells p0 .no),(1,ai p1),(2,ai p2),(3,ai p3),(35,slv tmCells p0 .no),(36,ai (List.length p0:Int)),(37,ai v37)]
def g350LclS0(p0:List Tm)(p1 p2 p3 v37:Int):LSt:=⟨[],0,[],0,[]⟩
abbrev K350 (p0:List Tm) (p1 p2 p3:Int) (r:Int×Int) (C:Cf):Prop:=C 350 [] [slv tmCells p0 .no,ai p1,ai p2,ai p3] (.tup [ai r.1,ai r.2]) [] 0
theorem q350:Qf 350 Tryz.f350:=⟨Tryz.func350,by kernel_rfl⟩
theorem k350{p0 p1 p2 p3 r}(h:K350 p0 p1 p2 p3 r Ci):K350 p0 p1 p2 p3 r Ct:=⟨h,⟨⟨tv,dT _⟩,tv,tv,tv,tv⟩,forall_nil,⟨tv,tv,tv⟩,forall_nil⟩
theorem l350Lcl(qq p0 p1 p2 p3 v37 r)(h:e350Lcl qq p0 p1 p2 p3 v37=some r):(∀j,Dl Tryz.prog 0 (inn (inn (rgt (lft (rgt (rgt (rgt (bod Tryz.f350)))))))) (g350LclE0 j p0 p1 p2 p3 v37) (g350LclS0 p0 p1 p2 p3 v37) (frameQ Tryz.prog 0 (FinQ Tryz.prog 0 Tryz.f350 (.tup [ai r.1,ai r.2]) [] 0) [.blk 2,.seq (rgt (rgt (rgt (rgt (bod Tryz.f350)))))])):=by
 unfold e350Lcl at h
 obtain⟨h11,h⟩:=splF h
 obtain rfl:=sj h
 exact fun j=>lF 0 [] (oB 0 h11 o0)
theorem l350Lcm(qq p0 p1 p2 p3 v27 r)(h:e350Lcm qq p0 p1 p2 p3 v27=some r):(∀j,Dl Tryz.prog 0 (inn (inn (rgt (lft (rgt (rgt (bod Tryz.f350))))))) (g350LcmE0 j p0 p1 p2 p3 v27) (g350LcmS0 p0 p1 p2 p3 v27) (frameQ Tryz.prog 0 (FinQ Tryz.prog 0 Tryz.f350 (.tup [ai r.1,ai r.2]) [] 0) [.blk 0,.seq (rgt (rgt (rgt (bod Tryz.f350))))])):=by
 unfold e350Lcm at h
 obtain⟨h5,h⟩:=splF h
 exact fun j=>lH 1 [] [] [] [0,1,2,3,35,36,37] (oD (dT p0)<|oD (dT p0)<|oB 0 h5 o0) (l350Lcl qq _ _ _ _ _ _ h)
theorem c350{qq p0 p1 p2 p3 r}(h:e350 qq p0 p1 p2 p3=some r):K350 p0 p1 p2 p3 r Ct:=by
 unfold e350 at h
 obtain⟨r1,h2,h⟩:=obind h
 obtain⟨h3,h⟩:=spT h
 have k:=oK 2 [] h3 (c440 h2) o0
 obtain⟨h4,h⟩:=splF h
 exact k350 (tH q350 1 [] [] [] [0,1,2,3,25,26,27] (oD (dT p0)<|oD (dT p0)<|oB 1 h4 k) (l350Lcm qq _ _ _ _ _ _ h))
def e244vaciLcn(qq:Nat)(q0:List EntZ)(q1 q2:Int)(q3:ByteArray)(q4:List TreeBind)(q5 q6:Int)(q7:ByteArray)(q8:Int)(q9:List TreeNode)(q10:List TreeBind)(q11:List TreeRow)(q14:List Tm)(q15:List ByteArray)(p2 p3 vb1_0 vb1_1:Int)(x55:List Tm)(v163 vb0_15 vb0_16:Int):Option (Int×Int×Int×Int):=
 if decide (v163<(List.length x55:Int))then
 none
 else
 some (vb0_15,vb0_16,vb1_0,vb1_1)
def e244vaciLco(qq:Nat)(q0:List EntZ)(q1 q2:Int)(q3:ByteArray)(q4:List TreeBind)(q5 q6:Int)(q7:ByteArray)(q8:Int)(q9:List TreeNode)(q10:List TreeBind)(q11:List TreeRow)(q14:List Tm)(q15:List ByteArray)(p2 p3:Int)(r8:List Tm×Tm×Int)(v71 vb0_15 vb0_16 vb1_0 vb1_1:Int):Option (Int×Int×Int×Int):=
 if decide (v71<(List.length r8.1:Int))then
 none
 else
 gidx q0 p2>>=fun x46=>
 e350 qq r8.1 p2 x46.pars x46.inds>>=fun r48=>
 e241vacg qq q0 q1 q2 q3 q4 q5 q6 q7 q8 q9 q10 q11 vb1_0 vb1_1 q14 q15 vb0_15 vb0_16 r48.2 p3>>=fun r50=>
 if r50.1 then
 none
 else
 e219 qq r8.2.1>>=fun r53=>
 gsl r53.2 x46.pars (List.length r53.2:Int)>>=fun x55=>
 e244vaciLcn qq q0 q1 q2 q3 q4 q5 q6 q7 q8 q9 q10 q11 q14 q15 p2 p3 vb1_0 vb1_1 x55 0 r50.2.1 r50.2.2
def e244vaci(qq:Nat)(q0:List EntZ)(q1 q2:Int)(q3:ByteArray)(q4:List TreeBind)(q5 q6:Int)(q7:ByteArray)(q8:Int)(q9:List TreeNode)(q10:List TreeBind)(q11:List TreeRow)(q12 q13:Int)(q14:List Tm)(q15:List ByteArray)(q16 q17:Int)(p1:Tm)(p2 p3:Int):Option (Int×Int×Int×Int):=
 e243vach qq q0 q1 q2 q3 q4 q5 q6 q7 q8 q9 q10 q11 q12 q13 q14 q15 q16 q17 q14>>=fun r1=>
 e96 qq (Mach.mk r1.2.2.2.2.2.1 r1.2.2.2.2.2.2.2.2.1 r1.2.2.2.2.2.2.2.2.2 r1.2.2.2.2.2.2.1 r1.2.2.2.2.2.2.2.1) q12 q13 r1.1 r1.2.1 r1.2.2.1 p1>>=fun r3=>
 e241vacg qq q0 q1 q2 q3 q4 q5 q6 q7 q8 q9 q10 q11 r3.2.2.1 r3.2.2.2 q14 q15 r1.2.2.2.1 r1.2.2.2.2.1 r3.2.1 p3>>=fun r5=>
 if r5.1 then
 none
 else
 e231 qq p1>>=fun r8=>
 if r8.2.2 != 0 then
 none
 else
 if decide ((List.length r8.1:Int)>(w64 (24-(List.length q14:Int))))then
 none
 else
 e349vaci qq q0 q1 q2 q3 q4 q5 q6 q7 q8 q9 q10 q11 r3.2.2.1 r3.2.2.2 q14 q15 r5.2.1 r5.2.2 r8.2.1 p2 (List.length r8.1:Int)>>=fun r16=>
 if r16 then
 e244vaciLco qq q0 q1 q2 q3 q4 q5 q6 q7 q8 q9 q10 q11 q14 q15 p2 p3 r8 0 r5.2.1 r5.2.2 r3.2.2.1 r3.2.2.2
 else
 none
def g244vaciLcoE0(j:Nat->Value)(q0:List EntZ)(q1 q2:Int)(q3:ByteArray)(q4:List TreeBind)(q5 q6:Int)(q7:ByteArray)(q8:Int)(q9:List TreeNode)(q10:List TreeBind)(q11:List TreeRow)(q14:List Tm)(q15:List ByteArray)(p2 p3:Int)(r8:List Tm×Tm×Int)(v71 vb0_15 vb0_16 vb1_0 vb1_1:Int):=sp j 174 0 [(0,.mp 0 0),(2,ai p2),(3,ai p3),(10,slv tmCells r8.1 .no),(11,.mp 2 0),(69,slv tmCells r8.1 .no),(70,ai (List.length r8.1:Int)),(71,ai v71)]
def g244vaciLcoS0(q0:List EntZ)(q1 q2:Int)(q3:ByteArray)(q4:List TreeBind)(q5 q6:Int)(q7:ByteArray)(q8:Int)(q9:List TreeNode)(q10:List TreeBind)(q11:List TreeRow)(q14:List Tm)(q15:List ByteArray)(p2 p3:Int)(r8:List Tm×Tm×Int)(v71 vb0_15 vb0_16 vb1_0 vb1_1:Int):LSt:=⟨[(0,.cells [slv entZ q0 .no,ai q1,ai q2,at' q3,slv treeBindL q4 .no,ai q5,ai q6,at' q7,ai q8,slv treeNodeC q9 .no,slv treeBindL q10 .no,slv treeRowL q11 .no,.mp 1 0,slv tmCells q14 .no,slv strC q15 .no,ai vb0_15,ai vb0_16]),(1,.cells [ai vb1_0,ai vb1_1]),(2,.cells [ai r8.2.1.k,ai r8.2.1.n,slv tmCells r8.2.1.sub .no])],3,[],0,[]⟩
def g244vaciLcnE0(j:Nat->Value)(q0:List EntZ)(q1 q2:Int)(q3:ByteArray)(q4:List TreeBind)(q5 q6:Int)(q7:ByteArray)(q8:Int)(q9:List TreeNode)(q10:List TreeBind)(q11:List TreeRow)(q14:List Tm)(q15:List ByteArray)(p2 p3 vb1_0 vb1_1:Int)(x55:List Tm)(v163 vb0_15 vb0_16:Int):=sp j 174 0 [(0,.mp 0 0),(2,ai p2),(3,ai p3),(161,slv tmCells x55 .no),(162,ai (List.length x55:Int)),(163,ai v163)]
def g244vaciLcnS0(q0:List EntZ)(q1 q2:Int)(q3:ByteArray)(q4:List TreeBind)(q5 q6:Int)(q7:ByteArray)(q8:Int)(q9:List TreeNode)(q10:List TreeBind)(q11:List TreeRow)(q14:List Tm)(q15:List ByteArray)(p2 p3 vb1_0 vb1_1:Int)(x55:List Tm)(v163 vb0_15 vb0_16:Int):LSt:=⟨[(0,.cells [slv entZ q0 .no,ai q1,ai q2,at' q3,slv treeBindL q4 .no,ai q5,ai q6,at' q7,ai q8,slv treeNodeC q9 .no,slv treeBindL q10 .no,slv treeRowL q11 .no,.mp 1 0,slv tmCells q14 .no,slv strC q15 .no,ai vb0_15,ai vb0_16]),(1,.cells [ai vb1_0,ai vb1_1])],2,[],0,[]⟩
abbrev K244vaci (q0:List EntZ) (q1 q2:Int) (q3:ByteArray) (q4:List TreeBind) (q5 q6:Int) (q7:ByteArray) (q8:Int) (q9:List TreeNode) (q10:List TreeBind) (q11:List TreeRow) (q12 q13:Int) (q14:List Tm) (q15:List ByteArray) (q16 q17:Int) (p1:Tm) (p2 p3:Int) (r:Int×Int×Int×Int) (C:Cf):Prop:=C 244 [.cells [slv entZ q0 .no,ai q1,ai q2,at' q3,slv treeBindL q4 .no,ai q5,ai q6,at' q7,ai q8,slv treeNodeC q9 .no,slv treeBindL q10 .no,slv treeRowL q11 .no,.mp 1 0,slv tmCells q14 .no,slv strC q15 .no,ai q16,ai q17],.cells [ai q12,ai q13]] [.mp 0 0,tmA p1,ai p2,ai p3] (.tup []) [.cells [slv entZ q0 .no,ai q1,ai q2,at' q3,slv treeBindL q4 .no,ai q5,ai q6,at' q7,ai q8,slv treeNodeC q9 .no,slv treeBindL q10 .no,slv treeRowL q11 .no,.mp 1 0,slv tmCells q14 .no,slv strC q15 .no,ai r.1,ai r.2.1],.cells [ai r.2.2.1,ai r.2.2.2]] 0
theorem q244vaci:Qf 244 Tryz.f244:=⟨Tryz.func244,by kernel_rfl⟩
theorem k244vaci{q0 q1 q2 q3 q4 q5 q6 q7 q8 q9 q10 q11 q12 q13 q14 q15 q16 q17 p1 p2 p3 r}(h:K244vaci q0 q1 q2 q3 q4 q5 q6 q7 q8 q9 q10 q11 q12 q13 q14 q15 q16 q17 p1 p2 p3 r Ci):K244vaci q0 q1 q2 q3 q4 q5 q6 q7 q8 q9 q10 q11 q12 q13 q14 q15 q16 q17 p1 p2 p3 r Ct:=⟨h,⟨(lz rfl),⟨tv,tv,⟨tv,dT _⟩,tv⟩,tv,tv,tv⟩,(forall_cons ⟨⟨tv,dEZ _⟩,tv,tv,tv,⟨tv,dTreeBind _⟩,tv,tv,tv,tv,⟨tv,dTreeNode _⟩,⟨tv,dTreeBind _⟩,⟨tv,dTreeRow _⟩,(lz rfl),⟨tv,dT _⟩,⟨tv,dS _⟩,tv,tv,tv⟩ (forall_cons ⟨tv,tv,tv⟩ forall_nil)),tv,(forall_cons ⟨dEZ _,tv,tv,tv,dTreeBind _,tv,tv,tv,tv,dTreeNode _,dTreeBind _,dTreeRow _,(lz rfl),dT _,dS _,tv,tv,tv⟩ (forall_cons ⟨tv,tv,tv⟩ forall_nil))⟩
theorem l244vaciLcn(qq q0 q1 q2 q3 q4 q5 q6 q7 q8 q9 q10 q11 q14 q15 p2 p3 vb1_0 vb1_1 x55 v163 vb0_15 vb0_16 r)(h:e244vaciLcn qq q0 q1 q2 q3 q4 q5 q6 q7 q8 q9 q10 q11 q14 q15 p2 p3 vb1_0 vb1_1 x55 v163 vb0_15 vb0_16=some r):(∀j,Dl Tryz.prog 2 (inn (inn (rgt (rgt (rgt (rgt (rgt (rgt (rgt (rgt (bod Tryz.f244))))))))))) (g244vaciLcnE0 j q0 q1 q2 q3 q4 q5 q6 q7 q8 q9 q10 q11 q14 q15 p2 p3 vb1_0 vb1_1 x55 v163 vb0_15 vb0_16) (g244vaciLcnS0 q0 q1 q2 q3 q4 q5 q6 q7 q8 q9 q10 q11 q14 q15 p2 p3 vb1_0 vb1_1 x55 v163 vb0_15 vb0_16) (frameQ Tryz.prog 2 (FinQ Tryz.prog 2 Tryz.f244 (.tup []) [.cells [slv entZ q0 .no,ai q1,ai q2,at' q3,slv treeBindL q4 .no,ai q5,ai q6,at' q7,ai q8,slv treeNodeC q9 .no,slv treeBindL q10 .no,slv treeRowL q11 .no,.mp 1 0,slv tmCells q14 .no,slv strC q15 .no,ai r.1,ai r.2.1],.cells [ai r.2.2.1,ai r.2.2.2]] 0) [.blk 2])):=by
 unfold e244vaciLcn at h
 obtain⟨h57,h⟩:=splF h
 obtain rfl:=sj h
 exact fun j=>lF 0 [0,1] (oD (dS q15)<|oD (dT q14)<|oD (dTreeRow q11)<|oD (dTreeBind q10)<|oD (dTreeNode q9)<|oD (dTreeBind q4)<|oD (dEZ q0)<|oB 0 h57 o0)
theorem l244vaciLco(qq q0 q1 q2 q3 q4 q5 q6 q7 q8 q9 q10 q11 q14 q15 p2 p3 r8 v71 vb0_15 vb0_16 vb1_0 vb1_1 r)(h:e244vaciLco qq q0 q1 q2 q3 q4 q5 q6 q7 q8 q9 q10 q11 q14 q15 p2 p3 r8 v71 vb0_15 vb0_16 vb1_0 vb1_1=some r):(∀j,Dl Tryz.prog 2 (inn (inn (rgt (lft (rgt (rgt (rgt (rgt (bod Tryz.f244))))))))) (g244vaciLcoE0 j q0 q1 q2 q3 q4 q5 q6 q7 q8 q9 q10 q11 q14 q15 p2 p3 r8 v71 vb0_15 vb0_16 vb1_0 vb1_1) (g244vaciLcoS0 q0 q1 q2 q3 q4 q5 q6 q7 q8 q9 q10 q11 q14 q15 p2 p3 r8 v71 vb0_15 vb0_16 vb1_0 vb1_1) (frameQ Tryz.prog 2 (FinQ Tryz.prog 2 Tryz.f244 (.tup []) [.cells [slv entZ q0 .no,ai q1,ai q2,at' q3,slv treeBindL q4 .no,ai q5,ai q6,at' q7,ai q8,slv treeNodeC q9 .no,slv treeBindL q10 .no,slv treeRowL q11 .no,.mp 1 0,slv tmCells q14 .no,slv strC q15 .no,ai r.1,ai r.2.1],.cells [ai r.2.2.1,ai r.2.2.2]] 0) [.blk 0,.seq (rgt (rgt (rgt (rgt (rgt (bod Tryz.f244))))))])):=by
 unfold e244vaciLco at h
 obtain⟨h19,h⟩:=splF h
 obtain⟨x46,h47,h⟩:=obind h
 obtain⟨r48,h49,h⟩:=obind h
 obtain⟨r50,h51,h⟩:=obind h
 have k:=oC 1 [] (c350 h49)<|oA 0 (ix23 (o:=.no) h47)<|oWk 1 (wkE q0 .no)<|oA 0 (ix23 (o:=.no) h47)<|oWk 0 (wkE q0 .no)<|oB 0 h19 o0
 obtain⟨h52,h⟩:=splF h
 obtain⟨r53,h54,h⟩:=obind h
 obtain⟨x55,h56,h⟩:=obind h
 exact fun j=>lH 1 [] [0,1] [] [0,2,3,161,162,163] (oD (dT x55)<|oD (dS q15)<|oD (dT q14)<|oD (dTreeRow q11)<|oD (dTreeBind q10)<|oD (dTreeNode q9)<|oD (dTreeBind q4)<|oD (dEZ q0)<|oA 1 (slFrom78 h56)<|oA 0 (ix23 (o:=.no) h47)<|oWk 3 (wkE q0 .no)<|oC 1 [] (c219 h54)<|oK 2 [0,1] h52 (c241vacg h51) k) (l244vaciLcn qq _ _ _ _ _ _ _ _ _ _ _ _ _ _ _ _ _ _ _ _ _ _ _ h)
theorem c244vaci{qq q0 q1 q2 q3 q4 q5 q6 q7 q8 q9 q10 q11 q12 q13 q14 q15 q16 q17 p1 p2 p3 r}(h:e244vaci qq q0 q1 q2 q3 q4 q5 q6 q7 q8 q9 q10 q11 q12 q13 q14 q15 q16 q17 p1 p2 p3=some r):K244vaci q0 q1 q2 q3 q4 q5 q6 q7 q8 q9 q10 q11 q12 q13 q14 q15 q16 q17 p1 p2 p3 r Ct:=by
 unfold e244vaci at h
 obtain⟨r1,h2,h⟩:=obind h
 obtain⟨r3,h4,h⟩:=obind h
 obtain⟨r5,h6,h⟩:=obind h
 have k:=oC 1 [3,4,1] (c96 h4)<|oC 1 [0,1] (c243vach h2) o0
 obtain⟨h7,h⟩:=splF h
 obtain⟨r8,h9,h⟩:=obind h
 have k:=oC 1 [] (c231 h9)<|oK 2 [0,1] h7 (c241vacg h6) k
 obtain⟨h10,h⟩:=splF h
 have k:=oB 4 h10 k
 obtain⟨h13,h⟩:=splF h
 obtain⟨r16,h17,h⟩:=obind h
 have k:=oB 4 h13 k
 obtain⟨h18,h⟩:=spT h
 exact k244vaci (tH q244vaci 2 [] [0,1,5] [] [0,2,3,10,11,69,70,71] (oD (dT r8.1)<|oD (dT r8.1)<|oD (dT r8.2.1.sub)<|oD (dS q15)<|oD (dT q14)<|oD (dTreeRow q11)<|oD (dTreeBind q10)<|oD (dTreeNode q9)<|oD (dTreeBind q4)<|oD (dEZ q0)<|oK 2 [0,1] h18 (c349vaci h17) k) (l244vaciLco qq _ _ _ _ _ _ _ _ _ _ _ _ _ _ _ _ _ _ _ _ _ _ _ h))
def e153vacpLcq:Nat->(List EntZ)->Int->Int->ByteArray->(List TreeBind)->Int->Int->ByteArray->Int->(List TreeNode)->(List TreeBind)->(List TreeRow)->(List Tm)->(List ByteArray)->Int->(List Ent)->Int->Int->Int->Int->Option (List Ent×Int×Int×Int×Int)
 |0,_,_,_,_,_,_,_,_,_,_,_,_,_,_,_,_,_,_,_,_=>none
 |qq+1,q0,q1,q2,q3,q4,q5,q6,q7,q8,q9,q10,q11,q14,q15,v23,v4,vb0_15,vb0_16,vb1_0,vb1_1=>
 if decide (v23<(List.length q10:Int))then
 gidx q10 v23>>=fun x2=>
 e77 qq q0 q15 x2.type_>>=fun r4=>
 if r4.2.2==2 then
 none
 else
 e241vacg qq q0 q1 q2 q3 q4 q5 q6 q7 q8 q9 q10 q11 vb1_0 vb1_1 q14 q15 vb0_15 vb0_16 r4.2.2 r4.2.1>>=fun r21=>
 if r21.1 then
 none
 else
 e244vaci qq q0 q1 q2 q3 q4 q5 q6 q7 q8 q9 q10 q11 vb1_0 vb1_1 q14 q15 r21.2.1 r21.2.2 r4.1 (w64 ((List.length q0:Int)-1)) x2.at_>>=fun r24=>
 if r24.1 != 0 then
 none
 else
 e193 qq q14 r4.1>>=fun r27=>
 e241vacg qq q0 q1 q2 q3 q4 q5 q6 q7 q8 q9 q10 q11 r24.2.2.1 r24.2.2.2 q14 q15 r24.1 r24.2.1 r27.2 x2.at_>>=fun r29=>
 if r29.1 then
 none
 else
 gapp 192 v4 [(Ent.mk 2 x2.name_ r27.1 (Tm.mk 0 0 []) (w64 ((List.length q0:Int)-1)) v23 (List.length q14:Int) 0 0 [] [])]>>=fun l32=>
 e153vacpLcq qq q0 q1 q2 q3 q4 q5 q6 q7 q8 q9 q10 q11 q14 q15 (w64 (v23+1)) l32 r29.2.1 r29.2.2 r24.2.2.1 r24.2.2.2
 else
 some (v4,vb0_15,vb0_16,vb1_0,vb1_1)
def e153vacp(qq:Nat)(q0:List EntZ)(q1 q2:Int)(q3:ByteArray)(q4:List TreeBind)(q5 q6:Int)(q7:ByteArray)(q8:Int)(q9:List TreeNode)(q10:List TreeBind)(q11:List TreeRow)(q12 q13:Int)(q14:List Tm)(q15:List ByteArray)(q16 q17:Int):Option (List Ent×Int×Int×Int×Int):=
 e153vacpLcq qq q0 q1 q2 q3 q4 q5 q6 q7 q8 q9 q10 q11 q14 q15 0 [] q16 q17 q12 q13
def g153vacpLcqE0(j:Nat->Value)(q0:List EntZ)(q1 q2:Int)(q3:ByteArray)(q4:List TreeBind)(q5 q6:Int)(q7:ByteArray)(q8:Int)(q9:List TreeNode)(q10:List TreeBind)(q11:List TreeRow)(q14:List Tm)(q15:List ByteArray)(v23:Int)(v4:List Ent)(vb0_15 vb0_16 vb1_0 vb1_1:Int):=sp j 92 0 [(0,.mp 0 0),(3,ai (w64 ((List.length q0:Int)-1))),(4,slv entL v4 (.st 0 15)),(21,slv treeBindL q10 .no),(22,ai (List.length q10:Int)),(23,ai v23)]
def g153vacpLcqS0(q0:List EntZ)(q1 q2:Int)(q3:ByteArray)(q4:List TreeBind)(q5 q6:Int)(q7:ByteArray)(q8:Int)(q9:List TreeNode)(q10:List TreeBind)(q11:List TreeRow)(q14:List Tm)(q15:List ByteArray)(v23:Int)(v4:List Ent)(vb0_15 vb0_16 vb1_0 vb1_1:Int):LSt:=⟨[(0,.cells [slv entZ q0 .no,ai q1,ai q2,at' q3,slv treeBindL q4 .no,ai q5,ai q6,at' q7,ai q8,slv treeNodeC q9 .no,slv treeBindL q10 .no,slv treeRowL q11 .no,.mp 1 0,slv tmCells q14 .no,slv strC q15 .no,ai vb0_15,ai vb0_16]),(1,.cells [ai vb1_0,ai vb1_1])],2,[0],1,[]⟩
abbrev K153vacp (q0:List EntZ) (q1 q2:Int) (q3:ByteArray) (q4:List TreeBind) (q5 q6:Int) (q7:ByteArray) (q8:Int) (q9:List TreeNode) (q10:List TreeBind) (q11:List TreeRow) (q12 q13:Int) (q14:List Tm) (q15:List ByteArray) (q16 q17:Int) (r:List Ent×Int×Int×Int×Int) (C:Cf):Prop:=C 153 [.cells [slv entZ q0 .no,ai q1,ai q2,at' q3,slv treeBindL q4 .no,ai q5,ai q6,at' q7,ai q8,slv treeNodeC q9 .no,slv treeBindL q10 .no,slv treeRowL q11 .no,.mp 1 0,slv tmCells q14 .no,slv strC q15 .no,ai q16,ai q17],.cells [ai q12,ai q13]] [.mp 0 0] (.sl (flat entL r.1) (List.length r.1) .no) [.cells [slv entZ q0 .no,ai q1,ai q2,at' q3,slv treeBindL q4 .no,ai q5,ai q6,at' q7,ai q8,slv treeNodeC q9 .no,slv treeBindL q10 .no,slv treeRowL q11 .no,.mp 1 0,slv tmCells q14 .no,slv strC q15 .no,ai r.2.1,ai r.2.2.1],.cells [ai r.2.2.2.1,ai r.2.2.2.2]] 0
theorem q153vacp:Qf 153 Tryz.f153:=⟨Tryz.func153,by kernel_rfl⟩
theorem k153vacp{q0 q1 q2 q3 q4 q5 q6 q7 q8 q9 q10 q11 q12 q13 q14 q15 q16 q17 r}(h:K153vacp q0 q1 q2 q3 q4 q5 q6 q7 q8 q9 q10 q11 q12 q13 q14 q15 q16 q17 r Ci):K153vacp q0 q1 q2 q3 q4 q5 q6 q7 q8 q9 q10 q11 q12 q13 q14 q15 q16 q17 r Ct:=⟨h,⟨(lz rfl),tv⟩,(forall_cons ⟨⟨tv,dEZ _⟩,tv,tv,tv,⟨tv,dTreeBind _⟩,tv,tv,tv,tv,⟨tv,dTreeNode _⟩,⟨tv,dTreeBind _⟩,⟨tv,dTreeRow _⟩,(lz rfl),⟨tv,dT _⟩,⟨tv,dS _⟩,tv,tv,tv⟩ (forall_cons ⟨tv,tv,tv⟩ forall_nil)),dE _,(forall_cons ⟨dEZ _,tv,tv,tv,dTreeBind _,tv,tv,tv,tv,dTreeNode _,dTreeBind _,dTreeRow _,(lz rfl),dT _,dS _,tv,tv,tv⟩ (forall_cons ⟨tv,tv,tv⟩ forall_nil))⟩
theorem l153vacpLcq:∀qq:Nat,(∀q0 q1 q2 q3 q4 q5 q6 q7 q8 q9 q10 q11 q14 q15 v23 v4 vb0_15 vb0_16 vb1_0 vb1_1 r,e153vacpLcq qq q0 q1 q2 q3 q4 q5 q6 q7 q8 q9 q10 q11 q14 q15 v23 v4 vb0_15 vb0_16 vb1_0 vb1_1=some r->(∀j,Dl Tryz.prog 2 (inn (inn (rgt (lft (rgt (rgt (rgt (bod Tryz.f153)))))))) (g153vacpLcqE0 j q0 q1 q2 q3 q4 q5 q6 q7 q8 q9 q10 q11 q14 q15 v23 v4 vb0_15 vb0_16 vb1_0 vb1_1) (g153vacpLcqS0 q0 q1 q2 q3 q4 q5 q6 q7 q8 q9 q10 q11 q14 q15 v23 v4 vb0_15 vb0_16 vb1_0 vb1_1) (frameQ Tryz.prog 2 (FinQ Tryz.prog 2 Tryz.f153 (.sl (flat entL r.1) (List.length r.1) .no) [.cells [slv entZ q0 .no,ai q1,ai q2,at' q3,slv treeBindL q4 .no,ai q5,ai q6,at' q7,ai q8,slv treeNodeC q9 .no,slv treeBindL q10 .no,slv treeRowL q11 .no,.mp 1 0,slv tmCells q14 .no,slv strC q15 .no,ai r.2.1,ai r.2.2.1],.cells [ai r.2.2.2.1,ai r.2.2.2.2]] 0) [.blk 0,.seq (rgt (rgt (rgt (rgt (bod Tryz.f153)))))]))):=by
 intro qq
 induction qq with
 |zero=>
  exact fun _ _ _ _ _ _ _ _ _ _ _ _ _ _ _ _ _ _ _ _ _ h=>nn h
 |succ qq ih=>
  intro q0 q1 q2 q3 q4 q5 q6 q7 q8 q9 q10 q11 q14 q15 v23 v4 vb0_15 vb0_16 vb1_0 vb1_1 r h
  rw[e153vacpLcq]at h
  rcases spl h with⟨h1,h⟩|⟨h1,h⟩
  obtain⟨x2,h3,h⟩:=obind h
  obtain⟨r4,h5,h⟩:=obind h
  have k:=oC 2 [] (c77 h5)<|oWk 2 (wkE q0 .no)<|oA 0 (ix90 (o:=.no) h3)<|oB 0 h1 o0
  obtain⟨h6,h⟩:=splF h
  obtain⟨r21,h22,h⟩:=obind h
  have k:=oB 4 h6 k
  obtain⟨h23,h⟩:=splF h
  obtain⟨r24,h25,h⟩:=obind h
  have k:=oC 2 [0,1] (c244vaci h25)<|oK 0 [0,1] h23 (c241vacg h22) k
  obtain⟨h26,h⟩:=splF h
  obtain⟨r27,h28,h⟩:=obind h
  obtain⟨r29,h30,h⟩:=obind h
  have k:=oC 2 [] (c193 h28)<|oB 1 h26 k
  obtain⟨h31,h⟩:=splF h
  obtain⟨l32,h33,h⟩:=obind h
  have k:=oK 4 [0,1] h31 (c241vacg h30) k
  by_cases h34:List.length [(Ent.mk 2 x2.name_ r27.1 (Tm.mk 0 0 []) (w64 ((List.length q0:Int)-1)) v23 (List.length q14:Int) 0 0 [] [])]=0
  exact fun j=>lH 1 [] [0,1] [0] [0,3,4,21,22,23] (oD (dTreeBind q10)<|oD (dE l32)<|oD (dS q15)<|oD (dT q14)<|oD (dTreeRow q11)<|oD (dTreeBind q10)<|oD (dTreeNode q9)<|oD (dTreeBind q4)<|oD (dEZ q0)<|oP 5 (apN23 h33 h34) k) (ih _ _ _ _ _ _ _ _ _ _ _ _ _ _ _ _ _ _ _ _ _ h)
  exact fun j=>lH 1 [] [0,1] [1] [0,3,4,21,22,23] (oD (dTreeBind q10)<|oD (dE l32)<|oD (dS q15)<|oD (dT q14)<|oD (dTreeRow q11)<|oD (dTreeBind q10)<|oD (dTreeNode q9)<|oD (dTreeBind q4)<|oD (dEZ q0)<|oP 5 (apS23 h33 h34) k) (ih _ _ _ _ _ _ _ _ _ _ _ _ _ _ _ _ _ _ _ _ _ h)
  obtain rfl:=sj h
  exact fun j=>lF 0 [0,1] (oD (dE v4)<|oD (dS q15)<|oD (dT q14)<|oD (dTreeRow q11)<|oD (dTreeBind q10)<|oD (dTreeNode q9)<|oD (dTreeBind q4)<|oD (dEZ q0)<|oB 0 h1 o0)
theorem c153vacp{qq q0 q1 q2 q3 q4 q5 q6 q7 q8 q9 q10 q11 q12 q13 q14 q15 q16 q17 r}(h:e153vacp qq q0 q1 q2 q3 q4 q5 q6 q7 q8 q9 q10 q11 q12 q13 q14 q15 q16 q17=some r):K153vacp q0 q1 q2 q3 q4 q5 q6 q7 q8 q9 q10 q11 q12 q13 q14 q15 q16 q17 r Ct:=by
 unfold e153vacp at h
 exact k153vacp (tH q153vacp 4 [(none,4,15)] [0,1] [0] [0,3,4,21,22,23] (oD (dTreeBind q10)<|oD (dE ([]:List Ent))<|oD (dS q15)<|oD (dT q14)<|oD (dTreeRow q11)<|oD (dTreeBind q10)<|oD (dTreeNode q9)<|oD (dTreeBind q4)<|oD (dEZ q0)<|oWk 0 (wkE q0 .no) o0) (l153vacpLcq _ _ _ _ _ _ _ _ _ _ _ _ _ _ _ _ _ _ _ _ _ _ h))
def e154vacrLcs:Nat->(List EntZ)->Int->Int->ByteArray->(List TreeBind)->Int->Int->ByteArray->Int->(List TreeNode)->(List TreeBind)->(List TreeRow)->Int->Int->(List Tm)->(List ByteArray)->Int->Int->(List Ent)->(List Ent)->Ent->Int->(List Int)->Option (List Ent×Int×Int)
 |0,_,_,_,_,_,_,_,_,_,_,_,_,_,_,_,_,_,_,_,_,_,_,_=>none
 |qq+1,q0,q1,q2,q3,q4,q5,q6,q7,q8,q9,q10,q11,q12,q13,q14,q15,q16,q17,p1,p2,x1,v21,vb2_13=>
 if decide (v21<(List.length p2:Int))then
 gapp 8 vb2_13 [(w64 ((w64 ((List.length p1:Int)+1))+v21))]>>=fun l5=>
 e154vacrLcs qq q0 q1 q2 q3 q4 q5 q6 q7 q8 q9 q10 q11 q12 q13 q14 q15 q16 q17 p1 p2 x1 (w64 (v21+1)) l5
 else
 gapp 192 [(Ent.mk x1.kind x1.name x1.type x1.body x1.fam x1.place x1.pars x1.inds x1.level vb2_13 x1.fields)] p2>>=fun l7=>
 e69 qq p1 l7>>=fun r10=>
 e241vacg qq q0 q1 q2 q3 q4 q5 q6 q7 q8 q9 q10 q11 q12 q13 q14 q15 q16 q17 r10.2 q2>>=fun r12=>
 some (r10.1,r12.2.1,r12.2.2)
def e154vacr(qq:Nat)(q0:List EntZ)(q1 q2:Int)(q3:ByteArray)(q4:List TreeBind)(q5 q6:Int)(q7:ByteArray)(q8:Int)(q9:List TreeNode)(q10:List TreeBind)(q11:List TreeRow)(q12 q13:Int)(q14:List Tm)(q15:List ByteArray)(q16 q17:Int)(p1 p2:List Ent):Option (List Ent×Int×Int):=
 gidx q0 (List.length p1:Int)>>=fun x1=>
 if List.isEmpty x1.cons then
 e154vacrLcs qq q0 q1 q2 q3 q4 q5 q6 q7 q8 q9 q10 q11 q12 q13 q14 q15 q16 q17 p1 p2 x1 0 []
 else
 none
def g154vacrLcsE0(j:Nat->Value)(q0:List EntZ)(q1 q2:Int)(q3:ByteArray)(q4:List TreeBind)(q5 q6:Int)(q7:ByteArray)(q8:Int)(q9:List TreeNode)(q10:List TreeBind)(q11:List TreeRow)(q12 q13:Int)(q14:List Tm)(q15:List ByteArray)(q16 q17:Int)(p1 p2:List Ent)(x1:Ent)(v21:Int)(vb2_13:List Int):=sp j 53 0 [(0,.mp 0 0),(1,slv entL p1 .no),(2,slv entL p2 .no),(7,.mp 2 0),(20,ai (List.length p2:Int)),(21,ai v21)]
def g154vacrLcsS0(q0:List EntZ)(q1 q2:Int)(q3:ByteArray)(q4:List TreeBind)(q5 q6:Int)(q7:ByteArray)(q8:Int)(q9:List TreeNode)(q10:List TreeBind)(q11:List TreeRow)(q12 q13:Int)(q14:List Tm)(q15:List ByteArray)(q16 q17:Int)(p1 p2:List Ent)(x1:Ent)(v21:Int)(vb2_13:List Int):LSt:=⟨[(0,.cells [slv entZ q0 .no,ai q1,ai q2,at' q3,slv treeBindL q4 .no,ai q5,ai q6,at' q7,ai q8,slv treeNodeC q9 .no,slv treeBindL q10 .no,slv treeRowL q11 .no,.mp 1 0,slv tmCells q14 .no,slv strC q15 .no,ai q16,ai q17]),(1,.cells [ai q12,ai q13]),(2,.cells [ai x1.kind,at' x1.name,ai x1.type.k,ai x1.type.n,slv tmCells x1.type.sub .no,ai x1.body.k,ai x1.body.n,slv tmCells x1.body.sub .no,ai x1.fam,ai x1.place,ai x1.pars,ai x1.inds,ai x1.level,slv intC vb2_13 (.st 0 1),slv intC x1.fields .no])],3,[0],1,[]⟩
abbrev K154vacr (q0:List EntZ) (q1 q2:Int) (q3:ByteArray) (q4:List TreeBind) (q5 q6:Int) (q7:ByteArray) (q8:Int) (q9:List TreeNode) (q10:List TreeBind) (q11:List TreeRow) (q12 q13:Int) (q14:List Tm) (q15:List ByteArray) (q16 q17:Int) (p1 p2:List Ent) (r:List Ent×Int×Int) (C:Cf):Prop:=C 154 [.cells [slv entZ q0 .no,ai q1,ai q2,at' q3,slv treeBindL q4 .no,ai q5,ai q6,at' q7,ai q8,slv treeNodeC q9 .no,slv treeBindL q10 .no,slv treeRowL q11 .no,.mp 1 0,slv tmCells q14 .no,slv strC q15 .no,ai q16,ai q17],.cells [ai q12,ai q13]] [.mp 0 0,slv entL p1 .no,slv entL p2 .no] (.sl (flat entL r.1) (List.length r.1) .no) [.cells [slv entZ q0 .no,ai q1,ai q2,at' q3,slv treeBindL q4 .no,ai q5,ai q6,at' q7,ai q8,slv treeNodeC q9 .no,slv treeBindL q10 .no,slv treeRowL q11 .no,.mp 1 0,slv tmCells q14 .no,slv strC q15 .no,ai r.2.1,ai r.2.2],.cells [ai q12,ai q13]] 0
theorem q154vacr:Qf 154 Tryz.f154:=⟨Tryz.func154,by kernel_rfl⟩
theorem k154vacr{q0 q1 q2 q3 q4 q5 q6 q7 q8 q9 q10 q11 q12 q13 q14 q15 q16 q17 p1 p2 r}(h:K154vacr q0 q1 q2 q3 q4 q5 q6 q7 q8 q9 q10 q11 q12 q13 q14 q15 q16 q17 p1 p2 r Ci):K154vacr q0 q1 q2 q3 q4 q5 q6 q7 q8 q9 q10 q11 q12 q13 q14 q15 q16 q17 p1 p2 r Ct:=⟨h,⟨(lz rfl),⟨tv,dE _⟩,⟨tv,dE _⟩,tv⟩,(forall_cons ⟨⟨tv,dEZ _⟩,tv,tv,tv,⟨tv,dTreeBind _⟩,tv,tv,tv,tv,⟨tv,dTreeNode _⟩,⟨tv,dTreeBind _⟩,⟨tv,dTreeRow _⟩,(lz rfl),⟨tv,dT _⟩,⟨tv,dS _⟩,tv,tv,tv⟩ (forall_cons ⟨tv,tv,tv⟩ forall_nil)),dE _,(forall_cons ⟨dEZ _,tv,tv,tv,dTreeBind _,tv,tv,tv,tv,dTreeNode _,dTreeBind _,dTreeRow _,(lz rfl),dT _,dS _,tv,tv,tv⟩ (forall_cons ⟨tv,tv,tv⟩ forall_nil))⟩
theorem l154vacrLcs:∀qq:Nat,(∀q0 q1 q2 q3 q4 q5 q6 q7 q8 q9 q10 q11 q12 q13 q14 q15 q16 q17 p1 p2 x1 v21 vb2_13 r,e154vacrLcs qq q0 q1 q2 q3 q4 q5 q6 q7 q8 q9 q10 q11 q12 q13 q14 q15 q16 q17 p1 p2 x1 v21 vb2_13=some r->(∀j,Dl Tryz.prog 2 (inn (inn (rgt (lft (rgt (rgt (bod Tryz.f154))))))) (g154vacrLcsE0 j q0 q1 q2 q3 q4 q5 q6 q7 q8 q9 q10 q11 q12 q13 q14 q15 q16 q17 p1 p2 x1 v21 vb2_13) (g154vacrLcsS0 q0 q1 q2 q3 q4 q5 q6 q7 q8 q9 q10 q11 q12 q13 q14 q15 q16 q17 p1 p2 x1 v21 vb2_13) (frameQ Tryz.prog 2 (FinQ Tryz.prog 2 Tryz.f154 (.sl (flat entL r.1) (List.length r.1) .no) [.cells [slv entZ q0 .no,ai q1,ai q2,at' q3,slv treeBindL q4 .no,ai q5,ai q6,at' q7,ai q8,slv treeNodeC q9 .no,slv treeBindL q10 .no,slv treeRowL q11 .no,.mp 1 0,slv tmCells q14 .no,slv strC q15 .no,ai r.2.1,ai r.2.2],.cells [ai q12,ai q13]] 0) [.blk 0,.seq (rgt (rgt (rgt (bod Tryz.f154))))]))):=by
 intro qq
 induction qq with
 |zero=>
  exact fun _ _ _ _ _ _ _ _ _ _ _ _ _ _ _ _ _ _ _ _ _ _ _ _ h=>nn h
 |succ qq ih=>
  intro q0 q1 q2 q3 q4 q5 q6 q7 q8 q9 q10 q11 q12 q13 q14 q15 q16 q17 p1 p2 x1 v21 vb2_13 r h
  rw[e154vacrLcs]at h
  rcases spl h with⟨h4,h⟩|⟨h4,h⟩
  obtain⟨l5,h6,h⟩:=obind h
  exact fun j=>lH 2 [] [0,1,2] [1] [0,1,2,7,20,21] (oD (dE p2)<|oD (dE p1)<|oD (dI x1.fields)<|oD (dI l5)<|oD (dT x1.body.sub)<|oD (dT x1.type.sub)<|oD (dS q15)<|oD (dT q14)<|oD (dTreeRow q11)<|oD (dTreeBind q10)<|oD (dTreeNode q9)<|oD (dTreeBind q4)<|oD (dEZ q0)<|oP 5 (apS24 h6 (by simp))<|oB 0 h4 o0) (ih _ _ _ _ _ _ _ _ _ _ _ _ _ _ _ _ _ _ _ _ _ _ _ _ h)
  obtain⟨l7,h8,h⟩:=obind h
  have k:=oB 0 h4 o0
  by_cases h9:List.length p2=0
  obtain⟨r10,h11,h⟩:=obind h
  obtain⟨r12,h13,h⟩:=obind h
  obtain rfl:=sj h
  exact fun j=>lF 0 [0,1] (oD (dE r10.1)<|oD (dS q15)<|oD (dT q14)<|oD (dTreeRow q11)<|oD (dTreeBind q10)<|oD (dTreeNode q9)<|oD (dTreeBind q4)<|oD (dEZ q0)<|oC 2 [0,1] (c241vacg h13)<|oWk 0 (wkE r10.1 .no)<|oC 0 [] (c69 h11)<|oP 2 (apN23 h8 h9) k)
  obtain⟨r10,h11,h⟩:=obind h
  obtain⟨r12,h13,h⟩:=obind h
  obtain rfl:=sj h
  exact fun j=>lF 0 [0,1] (oD (dE r10.1)<|oD (dS q15)<|oD (dT q14)<|oD (dTreeRow q11)<|oD (dTreeBind q10)<|oD (dTreeNode q9)<|oD (dTreeBind q4)<|oD (dEZ q0)<|oC 2 [0,1] (c241vacg h13)<|oWk 0 (wkE r10.1 .no)<|oC 0 [] (c69 h11)<|oP 2 (apS23 h8 h9) k)
theorem c154vacr{qq q0 q1 q2 q3 q4 q5 q6 q7 q8 q9 q10 q11 q12 q13 q14 q15 q16 q17 p1 p2 r}(h:e154vacr qq q0 q1 q2 q3 q4 q5 q6 q7 q8 q9 q10 q11 q12 q13 q14 q15 q16 q17 p1 p2=some r):K154vacr q0 q1 q2 q3 q4 q5 q6 q7 q8 q9 q10 q11 q12 q13 q14 q15 q16 q17 p1 p2 r Ct:=by
 unfold e154vacr at h
 obtain⟨x1,h2,h⟩:=obind h
 have k:=oA 2 (ixZ23 (o:=.no) h2) o0
 obtain⟨h3,h⟩:=spT h
 exact k154vacr (tH q154vacr 2 [(some 2,13,1)] [0,1,2] [0] [0,1,2,7,20,21] (oD (dE p2)<|oD (dE p1)<|oD (dI x1.fields)<|oD (dI ([]:List Int))<|oD (dT x1.body.sub)<|oD (dT x1.type.sub)<|oD (dS q15)<|oD (dT q14)<|oD (dTreeRow q11)<|oD (dTreeBind q10)<|oD (dTreeNode q9)<|oD (dTreeBind q4)<|oD (dEZ q0)<|oWk 0 (wkC h3) k) (l154vacrLcs _ _ _ _ _ _ _ _ _ _ _ _ _ _ _ _ _ _ _ _ _ _ _ _ _ h))
def e159Lct:Nat->(List TreeBind)->Int->Int->Option (Bool)
 |0,_,_,_=>none
 |qq+1,p0,p1,v9=>
 if decide (v9<(List.length p0:Int))then
 gidx p0 v9>>=fun x2=>
 if decide ((List.length p0:Int)>p1)then
 none
 else
 e133 qq x2.name_>>=fun r5=>
 if r5 then
 e124 qq x2.type_>>=fun r8=>
 if r8 then
 e159Lct qq p0 p1 (w64 (v9+1))
 else
 none
 else
 none
 else
 some true
def e159(qq:Nat)(p0:List TreeBind)(p1:Int):Option (Bool):=
 e159Lct qq p0 p1 0
def g159LctE0(j:Nat->Value)(p0:List TreeBind)(p1 v9:Int):=sp j 30 0 [(0,slv treeBindL p0 .no),(1,ai p1),(7,slv treeBindL p0 .no),(8,ai (List.length p0:Int)),(9,ai v9)]
def g159LctS0(p0:List TreeBind)(p1 v9:Int):LSt:=⟨[],0,[],0,[]⟩
abbrev K159 (p0:List TreeBind) (p1:Int) (r:Bool) (C:Cf):Prop:=C 159 [] [slv treeBindL p0 .no,ai p1] (ab r) [] 0
theorem q159:Qf 159 Tryz.f159:=⟨Tryz.func159,by kernel_rfl⟩
theorem k159{p0 p1 r}(h:K159 p0 p1 r Ci):K159 p0 p1 r Ct:=⟨h,⟨⟨tv,dTreeBind _⟩,tv,tv⟩,forall_nil,tv,forall_nil⟩
theorem l159Lct:∀qq:Nat,(∀p0 p1 v9 r,e159Lct qq p0 p1 v9=some r->(∀j,Dl Tryz.prog 0 (inn (inn (rgt (lft (rgt (bod Tryz.f159)))))) (g159LctE0 j p0 p1 v9) (g159LctS0 p0 p1 v9) (frameQ Tryz.prog 0 (FinQ Tryz.prog 0 Tryz.f159 (ab r) [] 0) [.blk 0,.seq (rgt (rgt (bod Tryz.f159)))]))):=by
 intro qq
 induction qq with
 |zero=>
  exact fun _ _ _ _ h=>nn h
 |succ qq ih=>
  intro p0 p1 v9 r h
  rw[e159Lct]at h
  rcases spl h with⟨h1,h⟩|⟨h1,h⟩
  obtain⟨x2,h3,h⟩:=obind h
  have k:=oA 0 (ix90 (o:=.no) h3)<|oB 0 h1 o0
  obtain⟨h4,h⟩:=splF h
  obtain⟨r5,h6,h⟩:=obind h
  have k:=oB 3 h4 k
  obtain⟨h7,h⟩:=spT h
  obtain⟨r8,h9,h⟩:=obind h
  have k:=oK 1 [] h7 (c133 h6) k
  obtain⟨h10,h⟩:=spT h
  exact fun j=>lH 2 [] [] [] [0,1,7,8,9] (oD (dTreeBind p0)<|oD (dTreeBind p0)<|oK 2 [] h10 (c124 h9) k) (ih _ _ _ _ h)
  obtain rfl:=sj h
  exact fun j=>lF 0 [] (oB 0 h1 o0)
theorem c159{qq p0 p1 r}(h:e159 qq p0 p1=some r):K159 p0 p1 r Ct:=by
 unfold e159 at h
 exact k159 (tH q159 1 [] [] [] [0,1,7,8,9] (oD (dTreeBind p0)<|oD (dTreeBind p0) o0) (l159Lct _ _ _ _ _ h))
def e92Lcu(qq:Nat)(p0:TreeDecl)(v70:Int):Option (Bool):=
 if decide (v70<(List.length p0.rows_:Int))then
 none
 else
 some true
def e92(qq:Nat)(p0:TreeDecl):Option (Bool):=
 if decide (p0.kind_<1)then
 none
 else
 if decide (p0.kind_>3)then
 none
 else
 e133 qq p0.name_>>=fun r3=>
 if r3 then
 e124 qq p0.type_>>=fun r6=>
 if r6 then
 e159 qq p0.tele_ 24>>=fun r9=>
 if r9 then
 e159 qq p0.cons_ 16>>=fun r12=>
 if r12 then
 if p0.kind_==3 then
 none
 else
 if p0.kind_ != 3 then
 if decide ((List.length p0.rows_:Int)>0)then
 none
 else
 if decide ((List.length p0.rows_:Int)>32)then
 none
 else
 e92Lcu qq p0 0
 else
 none
 else
 none
 else
 none
 else
 none
 else
 none
def g92LcuE0(j:Nat->Value)(p0:TreeDecl)(v70:Int):=sp j 78 0 [(68,slv treeRowL p0.rows_ .no),(69,ai (List.length p0.rows_:Int)),(70,ai v70)]
def g92LcuS0(p0:TreeDecl)(v70:Int):LSt:=⟨[],0,[],0,[]⟩
abbrev K92 (p0:TreeDecl) (r:Bool) (C:Cf):Prop:=C 92 [] [treeDeclA p0] (ab r) [] 0
theorem q92:Qf 92 Tryz.f92:=⟨Tryz.func92,by kernel_rfl⟩
theorem k92{p0 r}(h:K92 p0 r Ci):K92 p0 r Ct:=⟨h,⟨⟨tv,tv,tv,⟨tv,dTreeBind _⟩,tv,tv,tv,tv,⟨tv,dTreeNode _⟩,⟨tv,dTreeBind _⟩,⟨tv,dTreeRow _⟩,tv⟩,tv⟩,forall_nil,tv,forall_nil⟩
theorem l92Lcu(qq p0 v70 r)(h:e92Lcu qq p0 v70=some r):(∀j,Dl Tryz.prog 0 (inn (inn (rgt (lft (rgt (rgt (rgt (bod Tryz.f92)))))))) (g92LcuE0 j p0 v70) (g92LcuS0 p0 v70) (frameQ Tryz.prog 0 (FinQ Tryz.prog 0 Tryz.f92 (ab r) [] 0) [.blk 0,.seq (rgt (rgt (rgt (rgt (bod Tryz.f92)))))])):=by
 unfold e92Lcu at h
 obtain⟨h20,h⟩:=splF h
 obtain rfl:=sj h
 exact fun j=>lF 0 [] (oB 0 h20 o0)
theorem c92{qq p0 r}(h:e92 qq p0=some r):K92 p0 r Ct:=by
 unfold e92 at h
 obtain⟨h1,h⟩:=splF h
 have k:=oB 1 h1 o0
 obtain⟨h2,h⟩:=splF h
 obtain⟨r3,h4,h⟩:=obind h
 have k:=oB 1 h2 k
 obtain⟨h5,h⟩:=spT h
 obtain⟨r6,h7,h⟩:=obind h
 have k:=oK 1 [] h5 (c133 h4) k
 obtain⟨h8,h⟩:=spT h
 obtain⟨r9,h10,h⟩:=obind h
 have k:=oK 2 [] h8 (c124 h7) k
 obtain⟨h11,h⟩:=spT h
 obtain⟨r12,h13,h⟩:=obind h
 have k:=oK 2 [] h11 (c159 h10) k
 obtain⟨h14,h⟩:=spT h
 have k:=oK 2 [] h14 (c159 h13) k
 obtain⟨h15,h⟩:=splF h
 have k:=oB 2 h15 k
 obtain⟨h21,h⟩:=spT h
 have k:=oB 1 h21 k
 obtain⟨h22,h⟩:=splF h
 have k:=oB 2 h22 k
 obtain⟨h23,h⟩:=splF h
 exact k92 (tH q92 2 [] [] [] [68,69,70] (oD (dTreeRow p0.rows_)<|oB 2 h23 k) (l92Lcu qq _ _ _ h))
def e89Lcv(qq:Nat)(p0:List Ent)(p1:TreeDecl)(r11:List Tm×List ByteArray×Int×Int×Int×Int)(r14:List EntZ×Int×Int×Int×Int):Option (List Ent×Int×Int×Int×Int):=
 e153vacp qq r14.1 p1.kind_ p1.at_ p1.name_ p1.tele_ p1.type_.kind_ p1.type_.at_ p1.type_.name_ p1.type_.n_ p1.type_.sub_ p1.cons_ p1.rows_ r14.2.2.2.1 r14.2.2.2.2 r11.1 r11.2.1 r14.2.1 r14.2.2.1>>=fun r17=>
 if r17.2.1 != 0 then
 none
 else
 e154vacr qq r14.1 p1.kind_ p1.at_ p1.name_ p1.tele_ p1.type_.kind_ p1.type_.at_ p1.type_.name_ p1.type_.n_ p1.type_.sub_ p1.cons_ p1.rows_ r17.2.2.2.1 r17.2.2.2.2 r11.1 r11.2.1 r17.2.1 r17.2.2.1 p0 r17.1>>=fun r20=>
 if r20.2.1 != 0 then
 none
 else
 some (r20.1,0,0,r17.2.2.2.1,r17.2.2.2.2)
def e89Lcw(qq:Nat)(p0:List Ent)(p1:TreeDecl)(r11:List Tm×List ByteArray×Int×Int×Int×Int):Option (List Ent×Int×Int×Int×Int):=
 e152 qq p0 p1 r11.2.2.2.2.1 r11.2.2.2.2.2 r11.1 r11.2.1 r11.2.2.1 r11.2.2.2.1>>=fun r14=>
 if r14.2.1 != 0 then
 none
 else
 e89Lcv qq p0 p1 r11 r14
def e89Lcx(qq:Nat)(p0:List Ent)(p1:TreeDecl)(fl fu:Int)(r8:Int×Int):Option (List Ent×Int×Int×Int×Int):=
 e151vabj qq p0 p1.kind_ p1.at_ p1.name_ p1.tele_ p1.type_.kind_ p1.type_.at_ p1.type_.name_ p1.type_.n_ p1.type_.sub_ p1.cons_ p1.rows_ fl fu r8.1 r8.2>>=fun r11=>
 if r11.2.2.1 != 0 then
 none
 else
 e89Lcw qq p0 p1 r11
def e89Lcy(qq:Nat)(p0:List Ent)(p1:TreeDecl)(fl fu:Int):Option (List Ent×Int×Int×Int×Int):=
 e150vabj qq p0 p1.kind_ p1.at_ p1.name_ p1.tele_ p1.type_.kind_ p1.type_.at_ p1.type_.name_ p1.type_.n_ p1.type_.sub_ p1.cons_ p1.rows_ fl fu 0 0>>=fun r8=>
 if r8.1 != 0 then
 none
 else
 e89Lcx qq p0 p1 fl fu r8
def e89(qq:Nat)(p0:List Ent)(p1:TreeDecl)(fl fu:Int):Option (List Ent×Int×Int×Int×Int):=
 e48 qq p0>>=fun r1=>
 if r1 then
 e92 qq p1>>=fun r4=>
 if r4 then
 if p1.kind_ != 1 then
 none
 else
 e89Lcy qq p0 p1 fl fu
 else
 none
 else
 none
def g89LcyE0(j:Nat->Value)(p0:List Ent)(p1:TreeDecl)(fl fu:Int):=sp j 91 0 [(0,slv entL p0 .no),(9,.mp 1 0),(38,.agg [.clo 150 [.mp 1 0] [],.clo 151 [.mp 1 0] [],.clo 152 [.mp 1 0] []]),(39,ai 0)]
def g89LcyS0(p0:List Ent)(p1:TreeDecl)(fl fu:Int):LSt:=⟨[(0,.cells [ai fl,ai fu]),(1,.cells [slv entL p0 .no,ai p1.kind_,ai p1.at_,at' p1.name_,slv treeBindL p1.tele_ .no,ai p1.type_.kind_,ai p1.type_.at_,at' p1.type_.name_,ai p1.type_.n_,slv treeNodeC p1.type_.sub_ .no,slv treeBindL p1.cons_ .no,slv treeRowL p1.rows_ .no,.mp 0 0,slv tmCells ([]:List Tm) .nl,slv strC ([]:List ByteArray) .nl,ai 0,ai 0])],2,[],0,[]⟩
def g89LcxE0(j:Nat->Value)(p0:List Ent)(p1:TreeDecl)(fl fu:Int)(r8:Int×Int):=sp j 91 0 [(0,slv entL p0 .no),(9,.mp 1 0),(38,.agg [.clo 150 [.mp 1 0] [],.clo 151 [.mp 1 0] [],.clo 152 [.mp 1 0] []]),(39,ai 1)]
def g89LcxS0(p0:List Ent)(p1:TreeDecl)(fl fu:Int)(r8:Int×Int):LSt:=⟨[(0,.cells [ai fl,ai fu]),(1,.cells [slv entL p0 .no,ai p1.kind_,ai p1.at_,at' p1.name_,slv treeBindL p1.tele_ .no,ai p1.type_.kind_,ai p1.type_.at_,at' p1.type_.name_,ai p1.type_.n_,slv treeNodeC p1.type_.sub_ .no,slv treeBindL p1.cons_ .no,slv treeRowL p1.rows_ .no,.mp 0 0,slv tmCells ([]:List Tm) .nl,slv strC ([]:List ByteArray) .nl,ai r8.1,ai r8.2])],2,[],0,[]⟩
def g89LcwE0(j:Nat->Value)(p0:List Ent)(p1:TreeDecl)(r11:List Tm×List ByteArray×Int×Int×Int×Int):=sp j 91 0 [(0,slv entL p0 .no),(9,.mp 1 0),(38,.agg [.clo 150 [.mp 1 0] [],.clo 151 [.mp 1 0] [],.clo 152 [.mp 1 0] []]),(39,ai 2)]
def g89LcwS0(p0:List Ent)(p1:TreeDecl)(r11:List Tm×List ByteArray×Int×Int×Int×Int):LSt:=⟨[(0,.cells [ai r11.2.2.2.2.1,ai r11.2.2.2.2.2]),(1,.cells [slv entL p0 .no,ai p1.kind_,ai p1.at_,at' p1.name_,slv treeBindL p1.tele_ .no,ai p1.type_.kind_,ai p1.type_.at_,at' p1.type_.name_,ai p1.type_.n_,slv treeNodeC p1.type_.sub_ .no,slv treeBindL p1.cons_ .no,slv treeRowL p1.rows_ .no,.mp 0 0,slv tmCells r11.1 .no,slv strC r11.2.1 .no,ai r11.2.2.1,ai r11.2.2.2.1])],2,[],0,[]⟩
def g89LcvE0(j:Nat->Value)(p0:List Ent)(p1:TreeDecl)(r11:List Tm×List ByteArray×Int×Int×Int×Int)(r14:List EntZ×Int×Int×Int×Int):=sp j 91 0 [(0,slv entL p0 .no),(9,.mp 1 0),(38,.agg [.clo 150 [.mp 1 0] [],.clo 151 [.mp 1 0] [],.clo 152 [.mp 1 0] []]),(39,ai 3)]
def g89LcvS0(p0:List Ent)(p1:TreeDecl)(r11:List Tm×List ByteArray×Int×Int×Int×Int)(r14:List EntZ×Int×Int×Int×Int):LSt:=⟨[(0,.cells [ai r14.2.2.2.1,ai r14.2.2.2.2]),(1,.cells [slv entZ r14.1 .no,ai p1.kind_,ai p1.at_,at' p1.name_,slv treeBindL p1.tele_ .no,ai p1.type_.kind_,ai p1.type_.at_,at' p1.type_.name_,ai p1.type_.n_,slv treeNodeC p1.type_.sub_ .no,slv treeBindL p1.cons_ .no,slv treeRowL p1.rows_ .no,.mp 0 0,slv tmCells r11.1 .no,slv strC r11.2.1 .no,ai r14.2.1,ai r14.2.2.1])],2,[],0,[]⟩
abbrev K89 (p0:List Ent) (p1:TreeDecl) (fl fu:Int) (r:List Ent×Int×Int×Int×Int) (C:Cf):Prop:=C 89 [.cells [ai fl,ai fu]] [slv entL p0 .no,treeDeclA p1,.mp 0 0] (.tup [.sl (flat entL r.1) (List.length r.1) .no,ai r.2.1,ai r.2.2.1]) [.cells [ai r.2.2.2.1,ai r.2.2.2.2]] 0
theorem q89:Qf 89 Tryz.f89:=⟨Tryz.func89,by kernel_rfl⟩
theorem k89{p0 p1 fl fu r}(h:K89 p0 p1 fl fu r Ci):K89 p0 p1 fl fu r Ct:=⟨h,⟨⟨tv,dE _⟩,⟨tv,tv,tv,⟨tv,dTreeBind _⟩,tv,tv,tv,tv,⟨tv,dTreeNode _⟩,⟨tv,dTreeBind _⟩,⟨tv,dTreeRow _⟩,tv⟩,(lz rfl),tv⟩,(forall_cons ⟨tv,tv,tv⟩ forall_nil),⟨dE _,tv,tv,tv⟩,(forall_cons ⟨tv,tv,tv⟩ forall_nil)⟩
theorem l89Lcv(qq p0 p1 r11 r14 r)(h:e89Lcv qq p0 p1 r11 r14=some r):(∀j,Dl Tryz.prog 1 (inn (inn (rgt (lft (rgt (rgt (rgt (bod Tryz.f89)))))))) (g89LcvE0 j p0 p1 r11 r14) (g89LcvS0 p0 p1 r11 r14) (frameQ Tryz.prog 1 (FinQ Tryz.prog 1 Tryz.f89 (.tup [.sl (flat entL r.1) (List.length r.1) .no,ai r.2.1,ai r.2.2.1]) [.cells [ai r.2.2.2.1,ai r.2.2.2.2]] 0) [.blk 0,.seq (rgt (rgt (rgt (rgt (bod Tryz.f89)))))])):=by
 unfold e89Lcv at h
 obtain⟨r17,h18,h⟩:=obind h
 have k:=oC 1 [1,0] (c153vacp h18) o0
 obtain⟨h19,h⟩:=splF h
 obtain⟨r20,h21,h⟩:=obind h
 have k:=oC 0 [1,0] (c154vacr h21)<|oB 1 h19 k
 obtain⟨h22,h⟩:=splF h
 obtain rfl:=sj h
 exact fun j=>lF 0 [0] (oD (dE r20.1)<|oB 1 h22 k)
theorem l89Lcw(qq p0 p1 r11 r)(h:e89Lcw qq p0 p1 r11=some r):(∀j,Dl Tryz.prog 1 (inn (inn (rgt (lft (rgt (rgt (rgt (bod Tryz.f89)))))))) (g89LcwE0 j p0 p1 r11) (g89LcwS0 p0 p1 r11) (frameQ Tryz.prog 1 (FinQ Tryz.prog 1 Tryz.f89 (.tup [.sl (flat entL r.1) (List.length r.1) .no,ai r.2.1,ai r.2.2.1]) [.cells [ai r.2.2.2.1,ai r.2.2.2.2]] 0) [.blk 0,.seq (rgt (rgt (rgt (rgt (bod Tryz.f89)))))])):=by
 unfold e89Lcw at h
 obtain⟨r14,h15,h⟩:=obind h
 have k:=oC 2 [1,0] (c152 h15) o0
 obtain⟨h16,h⟩:=splF h
 exact fun j=>lH 1 [] [0,1] [] [0,9,38,39] (oD (dE p0)<|oD (dS r11.2.1)<|oD (dT r11.1)<|oD (dTreeRow p1.rows_)<|oD (dTreeBind p1.cons_)<|oD (dTreeNode p1.type_.sub_)<|oD (dTreeBind p1.tele_)<|oD (dEZ r14.1)<|oB 1 h16 k) (l89Lcv qq _ _ _ _ _ h)
theorem l89Lcx(qq p0 p1 fl fu r8 r)(h:e89Lcx qq p0 p1 fl fu r8=some r):(∀j,Dl Tryz.prog 1 (inn (inn (rgt (lft (rgt (rgt (rgt (bod Tryz.f89)))))))) (g89LcxE0 j p0 p1 fl fu r8) (g89LcxS0 p0 p1 fl fu r8) (frameQ Tryz.prog 1 (FinQ Tryz.prog 1 Tryz.f89 (.tup [.sl (flat entL r.1) (List.length r.1) .no,ai r.2.1,ai r.2.2.1]) [.cells [ai r.2.2.2.1,ai r.2.2.2.2]] 0) [.blk 0,.seq (rgt (rgt (rgt (rgt (bod Tryz.f89)))))])):=by
 unfold e89Lcx at h
 obtain⟨r11,h12,h⟩:=obind h
 have k:=oC 2 [1,0] (c151vabj h12) o0
 obtain⟨h13,h⟩:=splF h
 exact fun j=>lH 1 [] [0,1] [] [0,9,38,39] (oD (dE p0)<|oD (dS r11.2.1)<|oD (dT r11.1)<|oD (dTreeRow p1.rows_)<|oD (dTreeBind p1.cons_)<|oD (dTreeNode p1.type_.sub_)<|oD (dTreeBind p1.tele_)<|oD (dE p0)<|oB 1 h13 k) (l89Lcw qq _ _ _ _ h)
theorem l89Lcy(qq p0 p1 fl fu r)(h:e89Lcy qq p0 p1 fl fu=some r):(∀j,Dl Tryz.prog 1 (inn (inn (rgt (lft (rgt (rgt (rgt (bod Tryz.f89)))))))) (g89LcyE0 j p0 p1 fl fu) (g89LcyS0 p0 p1 fl fu) (frameQ Tryz.prog 1 (FinQ Tryz.prog 1 Tryz.f89 (.tup [.sl (flat entL r.1) (List.length r.1) .no,ai r.2.1,ai r.2.2.1]) [.cells [ai r.2.2.2.1,ai r.2.2.2.2]] 0) [.blk 0,.seq (rgt (rgt (rgt (rgt (bod Tryz.f89)))))])):=by
 unfold e89Lcy at h
 obtain⟨r8,h9,h⟩:=obind h
 have k:=oC 2 [1,0] (c150vabj h9) o0
 obtain⟨h10,h⟩:=splF h
 exact fun j=>lH 1 [] [0,1] [] [0,9,38,39] (oD (dE p0)<|oD (dS ([]:List ByteArray))<|oD (dT ([]:List Tm))<|oD (dTreeRow p1.rows_)<|oD (dTreeBind p1.cons_)<|oD (dTreeNode p1.type_.sub_)<|oD (dTreeBind p1.tele_)<|oD (dE p0)<|oB 1 h10 k) (l89Lcx qq _ _ _ _ _ _ h)
theorem c89{qq p0 p1 fl fu r}(h:e89 qq p0 p1 fl fu=some r):K89 p0 p1 fl fu r Ct:=by
 unfold e89 at h
 obtain⟨r1,h2,h⟩:=obind h
 obtain⟨h3,h⟩:=spT h
 obtain⟨r4,h5,h⟩:=obind h
 have k:=oK 0 [] h3 (c48 h2) o0
 obtain⟨h6,h⟩:=spT h
 have k:=oK 2 [] h6 (c92 h5) k
 obtain⟨h7,h⟩:=splF h
 exact k89 (tH q89 1 [] [0,2] [] [0,9,38,39] (oD (dE p0)<|oD (dS ([]:List ByteArray))<|oD (dT ([]:List Tm))<|oD (dTreeRow p1.rows_)<|oD (dTreeBind p1.cons_)<|oD (dTreeNode p1.type_.sub_)<|oD (dTreeBind p1.tele_)<|oD (dE p0)<|oB 2 h7 k) (l89Lcy qq _ _ _ _ _ h))
def e52(qq:Nat)(p0:List Ent)(p1:TreeDecl)(fl fu:Int):Option (List Ent×Int×Int×Int×Int):=
 if p1.kind_==1 then
 e89 qq p0 p1 fl fu>>=fun r2=>
 some (r2.1,r2.2.1,r2.2.2.1,r2.2.2.2.1,r2.2.2.2.2)
 else
 none
abbrev K52 (p0:List Ent) (p1:TreeDecl) (fl fu:Int) (r:List Ent×Int×Int×Int×Int) (C:Cf):Prop:=C 52 [.cells [ai fl,ai fu]] [slv entL p0 .no,treeDeclA p1,.mp 0 0] (.tup [.sl (flat entL r.1) (List.length r.1) .no,ai r.2.1,ai r.2.2.1]) [.cells [ai r.2.2.2.1,ai r.2.2.2.2]] 0
theorem q52:Qf 52 Tryz.f52:=⟨Tryz.func52,by kernel_rfl⟩
theorem k52{p0 p1 fl fu r}(h:K52 p0 p1 fl fu r Ci):K52 p0 p1 fl fu r Ct:=⟨h,⟨⟨tv,dE _⟩,⟨tv,tv,tv,⟨tv,dTreeBind _⟩,tv,tv,tv,tv,⟨tv,dTreeNode _⟩,⟨tv,dTreeBind _⟩,⟨tv,dTreeRow _⟩,tv⟩,(lz rfl),tv⟩,(forall_cons ⟨tv,tv,tv⟩ forall_nil),⟨dE _,tv,tv,tv⟩,(forall_cons ⟨tv,tv,tv⟩ forall_nil)⟩
theorem c52{qq p0 p1 fl fu r}(h:e52 qq p0 p1 fl fu=some r):K52 p0 p1 fl fu r Ct:=by
 unfold e52 at h
 obtain⟨h1,h⟩:=spT h
 obtain⟨r2,h3,h⟩:=obind h
 obtain rfl:=sj h
 exact k52 (tF q52 3 [0] (oD (dE r2.1)<|oC 1 [0] (c89 h3)<|oB 1 h1 o0))
def e51vacz(qq:Nat)(p0:TreeDecl)(q1:Int)(q2:List Ent)(q3 q4 q5 q6 q7:Int):Option (Int×Int×List Ent×Int×List Int):=
 e37 qq q1>>=fun r1=>
 e52 qq q2 p0 r1.2.1 r1.2.2>>=fun r3=>
 if r3.2.2.1 != 0 then
 none
 else
 e47 qq r3.2.2.2.1 r3.2.2.2.2>>=fun r6=>
 gapp 8 ([]:List Int) [r6]>>=fun l8=>
 some (0,0,r3.1,(w64 (q3+1)),l8)
abbrev K51vacz (p0:TreeDecl) (q1:Int) (q2:List Ent) (q3 q4 q5 q6 q7:Int) (r:Int×Int×List Ent×Int×List Int) (C:Cf):Prop:=C 51 [.cells [ai q1],.cells [slv entL q2 .no,ai q3,slv intC ([]:List Int) .nl,ai q4,ai q5,ai q6,ai q7]] [treeDeclA p0,.mp 0 0,.mp 1 0] (.tup [ai r.1,ai r.2.1]) [.cells [ai q1],.cells [slv entL r.2.2.1 .no,ai r.2.2.2.1,.ms 2 0 (List.length r.2.2.2.2) (List.length r.2.2.2.2) 1,ai q4,ai q5,ai q6,ai q7],.row (flat intC r.2.2.2.2)] 0
theorem q51vacz:Qf 51 Tryz.f51:=⟨Tryz.func51,by kernel_rfl⟩
theorem k51vacz{p0 q1 q2 q3 q4 q5 q6 q7 r}(h:K51vacz p0 q1 q2 q3 q4 q5 q6 q7 r Ci):K51vacz p0 q1 q2 q3 q4 q5 q6 q7 r Ct:=⟨h,⟨⟨tv,tv,tv,⟨tv,dTreeBind _⟩,tv,tv,tv,tv,⟨tv,dTreeNode _⟩,⟨tv,dTreeBind _⟩,⟨tv,dTreeRow _⟩,tv⟩,(lz rfl),(lz rfl),tv⟩,(forall_cons ⟨tv,tv⟩ (forall_cons ⟨⟨tv,dE _⟩,tv,⟨tv,dI _⟩,tv,tv,tv,tv,tv⟩ forall_nil)),⟨tv,tv,tv⟩,(forall_cons ⟨tv,tv⟩ (forall_cons ⟨dE _,tv,(lz rfl),tv,tv,tv,tv,tv⟩ (forall_cons (dI _) forall_nil)))⟩
theorem c51vacz{qq p0 q1 q2 q3 q4 q5 q6 q7 r}(h:e51vacz qq p0 q1 q2 q3 q4 q5 q6 q7=some r):K51vacz p0 q1 q2 q3 q4 q5 q6 q7 r Ct:=by
 unfold e51vacz at h
 obtain⟨r1,h2,h⟩:=obind h
 obtain⟨r3,h4,h⟩:=obind h
 have k:=oC 4 [3] (c52 h4)<|oC 1 [] (c37 h2) o0
 obtain⟨h5,h⟩:=splF h
 obtain⟨r6,h7,h⟩:=obind h
 obtain⟨l8,h9,h⟩:=obind h
 obtain rfl:=sj h
 exact k51vacz (tF q51vacz 3 [0,1,4] (oD (dI l8)<|oD (dE r3.1)<|oM 1 (apW24 h9 (by simp))<|oC 0 [3] (c47 h7)<|oCl 1<|oCl 0<|oB 3 h5 k))
def e23Lda(qq:Nat)(p1:ByteArray)(p2:Int)(r8:List TreeDecl×Int×Int)(v47:Int)(vb1_0:List Ent)(vb1_1:Int)(vb3_0:List Int):Option (List Int×List Ent×Int×Int×Int×Int×Int):=
 if decide (v47<(List.length r8.1:Int))then
 none
 else
 gfz (List.length vb3_0) vb3_0>>=fun l23=>
 some (l23,vb1_0,vb1_1,0,0,0,0)
def e23Ldb(qq:Nat)(p1:ByteArray)(p2:Int)(r6:List Ent)(r8:List TreeDecl×Int×Int)(v47:Int):Option (List Int×List Ent×Int×Int×Int×Int×Int):=
 if decide (v47<(List.length r8.1:Int))then
 gidx r8.1 v47>>=fun x12=>
 e51vacz qq x12 p2 r6 0 0 0 0 0>>=fun r14=>
 if r14.2.1 != 0 then
 none
 else
 e23Lda qq p1 p2 r8 (w64 (v47+1)) r14.2.2.1 r14.2.2.2.1 r14.2.2.2.2
 else
 none
def e23(qq:Nat)(p0:List Ent)(p1:ByteArray)(p2:Int):Option (List Int×List Ent×Int×Int×Int×Int×Int):=
 e48 qq p0>>=fun r1=>
 if r1 then
 if decide (p2<0)then
 none
 else
 if decide (p2>1048576)then
 none
 else
 e21 qq p0>>=fun r6=>
 e49 qq p1>>=fun r8=>
 if r8.2.2 != 0 then
 none
 else
 e23Ldb qq p1 p2 r6 r8 0
 else
 none
def g23LdbE0(j:Nat->Value)(p1:ByteArray)(p2:Int)(r6:List Ent)(r8:List TreeDecl×Int×Int)(v47:Int):=sp j 66 0 [(1,at' p1),(6,.mp 0 0),(7,.mp 1 0),(11,.clo 51 [] [.mp 2 0,.mp 1 0]),(45,slv treeDeclL r8.1 .no),(46,ai (List.length r8.1:Int)),(47,ai v47)]
def g23LdbS0(p1:ByteArray)(p2:Int)(r6:List Ent)(r8:List TreeDecl×Int×Int)(v47:Int):LSt:=⟨[(0,.cells [slv entL ([]:List Ent) .nl,ai 0,slv intC ([]:List Int) .nl,ai 0,ai 0,ai 0,ai 0]),(1,.cells [slv entL r6 .no,ai 0,slv intC ([]:List Int) .nl,ai 0,ai 0,ai 0,ai 0]),(2,.cells [ai p2])],3,[],0,[]⟩
def g23LdaE0(j:Nat->Value)(p1:ByteArray)(p2:Int)(r8:List TreeDecl×Int×Int)(v47:Int)(vb1_0:List Ent)(vb1_1:Int)(vb3_0:List Int):=sp j 66 0 [(1,at' p1),(6,.mp 0 0),(7,.mp 1 0),(11,.clo 51 [] [.mp 2 0,.mp 1 0]),(45,slv treeDeclL r8.1 .no),(46,ai (List.length r8.1:Int)),(47,ai v47)]
def g23LdaS0(p1:ByteArray)(p2:Int)(r8:List TreeDecl×Int×Int)(v47:Int)(vb1_0:List Ent)(vb1_1:Int)(vb3_0:List Int):LSt:=⟨[(0,.cells [slv entL ([]:List Ent) .nl,ai 0,slv intC ([]:List Int) .nl,ai 0,ai 0,ai 0,ai 0]),(1,.cells [slv entL vb1_0 .no,ai vb1_1,.ms 3 0 (List.length vb3_0) (List.length vb3_0) 1,ai 0,ai 0,ai 0,ai 0]),(2,.cells [ai p2]),(3,.row (flat intC vb3_0))],4,[],0,[]⟩
abbrev K23 (p0:List Ent) (p1:ByteArray) (p2:Int) (r:List Int×List Ent×Int×Int×Int×Int×Int) (C:Cf):Prop:=C 23 [] [slv entL p0 .no,at' p1,ai p2] (.agg [slv entL r.2.1 .no,ai r.2.2.1,.ms 0 0 (List.length r.1) (List.length r.1) 1,ai r.2.2.2.1,ai r.2.2.2.2.1,ai r.2.2.2.2.2.1,ai r.2.2.2.2.2.2]) [.row (flat intC r.1)] 0
theorem q23:Qf 23 Tryz.f23:=⟨Tryz.func23,by kernel_rfl⟩
theorem k23{p0 p1 p2 r}(h:K23 p0 p1 p2 r Ci):K23 p0 p1 p2 r Ct:=⟨h,⟨⟨tv,dE _⟩,tv,tv,tv⟩,forall_nil,⟨dE _,tv,(lz rfl),tv,tv,tv,tv,tv⟩,(forall_cons (dI _) forall_nil)⟩
theorem l23Lda(qq p1 p2 r8 v47 vb1_0 vb1_1 vb3_0 r)(h:e23Lda qq p1 p2 r8 v47 vb1_0 vb1_1 vb3_0=some r):(∀j,Dl Tryz.prog 0 (inn (inn (rgt (lft (rgt (rgt (rgt (rgt (rgt (rgt (bod Tryz.f23))))))))))) (g23LdaE0 j p1 p2 r8 v47 vb1_0 vb1_1 vb3_0) (g23LdaS0 p1 p2 r8 v47 vb1_0 vb1_1 vb3_0) (frameQ Tryz.prog 0 (FinQ Tryz.prog 0 Tryz.f23 (.agg [slv entL r.2.1 .no,ai r.2.2.1,.ms 0 0 (List.length r.1) (List.length r.1) 1,ai r.2.2.2.1,ai r.2.2.2.2.1,ai r.2.2.2.2.2.1,ai r.2.2.2.2.2.2]) [.row (flat intC r.1)] 0) [.blk 0,.seq (rgt (rgt (rgt (rgt (rgt (rgt (rgt (bod Tryz.f23))))))))])):=by
 unfold e23Lda at h
 obtain⟨h17,h⟩:=splF h
 obtain⟨l23,h24,h⟩:=obind h
 obtain⟨h24a,h24b⟩:=gfz_spec h24
 obtain rfl:=sj h
 obtain rfl:=h24a.symm
 dsimp only
 rw[←h24b]
 exact fun j=>lF 2 [3] (oD (dE vb1_0)<|oD (dI vb3_0)<|oB 0 h17 o0)
theorem l23Ldb(qq p1 p2 r6 r8 v47 r)(h:e23Ldb qq p1 p2 r6 r8 v47=some r):(∀j,Dl Tryz.prog 0 (inn (inn (rgt (lft (rgt (rgt (rgt (rgt (rgt (rgt (bod Tryz.f23))))))))))) (g23LdbE0 j p1 p2 r6 r8 v47) (g23LdbS0 p1 p2 r6 r8 v47) (frameQ Tryz.prog 0 (FinQ Tryz.prog 0 Tryz.f23 (.agg [slv entL r.2.1 .no,ai r.2.2.1,.ms 0 0 (List.length r.1) (List.length r.1) 1,ai r.2.2.2.1,ai r.2.2.2.2.1,ai r.2.2.2.2.2.1,ai r.2.2.2.2.2.2]) [.row (flat intC r.1)] 0) [.blk 0,.seq (rgt (rgt (rgt (rgt (rgt (rgt (rgt (bod Tryz.f23))))))))])):=by
 unfold e23Ldb at h
 obtain⟨h11,h⟩:=spT h
 obtain⟨x12,h13,h⟩:=obind h
 obtain⟨r14,h15,h⟩:=obind h
 have k:=oC 3 [2,1] (c51vacz h15)<|oA 0 (ix119 (o:=.no) h13)<|oB 0 h11 o0
 obtain⟨h16,h⟩:=splF h
 exact fun j=>lH 1 [] [0,1,2,4] [] [1,6,7,11,45,46,47] (oD (dTreeDecl r8.1)<|oD (dI r14.2.2.2.2)<|oD (dE r14.2.2.1)<|oD (dI ([]:List Int))<|oD (dE ([]:List Ent))<|oB 2 h16 k) (l23Lda qq _ _ _ _ _ _ _ _ h)
theorem c23r{qq p0 p1 p2 r}(h:e23 qq p0 p1 p2=some r):K23 p0 p1 p2 r Ct:=by
 unfold e23 at h
 obtain⟨r1,h2,h⟩:=obind h
 obtain⟨h3,h⟩:=spT h
 have k:=oK 0 [] h3 (c48 h2) o0
 obtain⟨h4,h⟩:=splF h
 have k:=oB 2 h4 k
 obtain⟨h5,h⟩:=splF h
 obtain⟨r6,h7,h⟩:=obind h
 obtain⟨r8,h9,h⟩:=obind h
 have k:=oC 1 [] (c49 h9)<|oC 0 [] (c21 h7)<|oB 1 h5 k
 obtain⟨h10,h⟩:=splF h
 exact k23 (tH q23 1 [] [1,2,0] [] [1,6,7,11,45,46,47] (oD (dTreeDecl r8.1)<|oD (dI ([]:List Int))<|oD (dE r6)<|oD (dI ([]:List Int))<|oD (dE ([]:List Ent))<|oB 3 h10 k) (l23Ldb qq _ _ _ _ _ _ h))
theorem c23{qq p0 p1 p2 r}(h:e23 qq p0 p1 p2=some r):CT Tryz.prog 23 [] [slv entL p0 .no,at' p1,ai p2] (fileResultA (FileResult.mk r.2.1 r.2.2.1 r.1 r.2.2.2.1 r.2.2.2.2.1 r.2.2.2.2.2.1 r.2.2.2.2.2.2)) [] 0:=by
 have k:=c23r h
 exact CT.freeze (H1:=[]) (cs:=flat intC r.1) (res':=(fileResultA (FileResult.mk r.2.1 r.2.2.1 r.1 r.2.2.2.1 r.2.2.2.2.1 r.2.2.2.2.2.1 r.2.2.2.2.2.2))) k (Nat.le_of_ble_eq_true rfl) forall_nil (dI _) ⟨dE _,trivial,(.inl ⟨rfl,rfl⟩),trivial,trivial,trivial,trivial,tv⟩ (by rfl) rfl
def e72(qq:Nat)(p0:Bool):Option (Int):=
 if p0 then
 some 1
 else
 none
abbrev K72 (p0:Bool) (r:Int) (C:Cf):Prop:=C 72 [] [ab p0] (.val (.int .u32 r)) [] 0
theorem q72:Qf 72 Tryz.f72:=⟨Tryz.func72,by kernel_rfl⟩
theorem k72{p0 r}(h:K72 p0 r Ci):K72 p0 r Ct:=⟨h,⟨tv,tv⟩,forall_nil,tv,forall_nil⟩
theorem c72{qq p0 r}(h:e72 qq p0=some r):K72 p0 r Ct:=by
 unfold e72 at h
 cases p0
 replace h:=ifF rfl h
 cases h
 replace h:=ifT rfl h
 obtain rfl:=sj h
 exact k72 (tF q72 0 [] (o0))
def e41vadc(qq:Nat)(q0:ByteArray)(q1:Int)(q2:List Ent)(q3:Int)(q4:List Int)(q5 q6 q7 q8:Int)(p1:Bool):Option (Int):=
 e72 qq p1>>=fun r1=>
 some r1
abbrev K41vadc (q0:ByteArray) (q1:Int) (q2:List Ent) (q3:Int) (q4:List Int) (q5 q6 q7 q8:Int) (p1:Bool) (r:Int) (C:Cf):Prop:=C 41 [.cells [at' q0,ai q1,.val (.int .u32 0),.val (.int .i32 1),.val (.int .u32 0),.val (.int .u32 0),slv entL q2 .no,ai q3,slv intC q4 .no,ai q5,ai q6,ai q7,ai q8]] [.mp 0 5,ab p1] (.tup []) [.cells [at' q0,ai q1,.val (.int .u32 0),.val (.int .i32 1),.val (.int .u32 0),.val (.int .u32 r),slv entL q2 .no,ai q3,slv intC q4 .no,ai q5,ai q6,ai q7,ai q8]] 0
theorem q41vadc:Qf 41 Tryz.f41:=⟨Tryz.func41,by kernel_rfl⟩
theorem k41vadc{q0 q1 q2 q3 q4 q5 q6 q7 q8 p1 r}(h:K41vadc q0 q1 q2 q3 q4 q5 q6 q7 q8 p1 r Ci):K41vadc q0 q1 q2 q3 q4 q5 q6 q7 q8 p1 r Ct:=⟨h,⟨(lz rfl),tv,tv⟩,(forall_cons ⟨tv,tv,tv,tv,tv,tv,⟨tv,dE _⟩,tv,⟨tv,dI _⟩,tv,tv,tv,tv,tv⟩ forall_nil),tv,(forall_cons ⟨tv,tv,tv,tv,tv,tv,dE _,tv,dI _,tv,tv,tv,tv,tv⟩ forall_nil)⟩
theorem c41vadc{qq q0 q1 q2 q3 q4 q5 q6 q7 q8 p1 r}(h:e41vadc qq q0 q1 q2 q3 q4 q5 q6 q7 q8 p1=some r):K41vadc q0 q1 q2 q3 q4 q5 q6 q7 q8 p1 r Ct:=by
 unfold e41vadc at h
 obtain⟨r1,h2,h⟩:=obind h
 obtain rfl:=sj h
 exact k41vadc (tF q41vadc 1 [0] (oD (dI q4)<|oD (dE q2)<|oC 0 [] (c72 h2) o0))
def e40vadd(qq:Nat)(q0:ByteArray)(q1:Int)(q2:List Ent)(q3:Int)(q4:List Int)(q5 q6 q7 q8:Int):Option (Int×List Ent×Int×List Int×Int×Int×Int×Int):=
 e23 qq [] q0 q1>>=fun r1=>
 e41vadc qq q0 q1 r1.2.1 r1.2.2.1 r1.1 r1.2.2.2.1 r1.2.2.2.2.1 r1.2.2.2.2.2.1 r1.2.2.2.2.2.2 true>>=fun r3=>
 some (r3,r1.2.1,r1.2.2.1,r1.1,r1.2.2.2.1,r1.2.2.2.2.1,r1.2.2.2.2.2.1,r1.2.2.2.2.2.2)
abbrev K40vadd (q0:ByteArray) (q1:Int) (q2:List Ent) (q3:Int) (q4:List Int) (q5 q6 q7 q8:Int) (r:Int×List Ent×Int×List Int×Int×Int×Int×Int) (C:Cf):Prop:=C 40 [.cells [.mp 1 0],.cells [at' q0,ai q1,.val (.int .u32 0),.val (.int .i32 1),.val (.int .u32 0),.val (.int .u32 0),slv entL q2 .no,ai q3,slv intC q4 .no,ai q5,ai q6,ai q7,ai q8]] [.mp 0 0] (.tup []) [.cells [.mp 1 0],.cells [at' q0,ai q1,.val (.int .u32 0),.val (.int .i32 1),.val (.int .u32 0),.val (.int .u32 r.1),slv entL r.2.1 .no,ai r.2.2.1,slv intC r.2.2.2.1 .no,ai r.2.2.2.2.1,ai r.2.2.2.2.2.1,ai r.2.2.2.2.2.2.1,ai r.2.2.2.2.2.2.2]] 0
theorem q40vadd:Qf 40 Tryz.f40:=⟨Tryz.func40,by kernel_rfl⟩
theorem k40vadd{q0 q1 q2 q3 q4 q5 q6 q7 q8 r}(h:K40vadd q0 q1 q2 q3 q4 q5 q6 q7 q8 r Ci):K40vadd q0 q1 q2 q3 q4 q5 q6 q7 q8 r Ct:=⟨h,⟨(lz rfl),tv⟩,(forall_cons ⟨(lz rfl),tv⟩ (forall_cons ⟨tv,tv,tv,tv,tv,tv,⟨tv,dE _⟩,tv,⟨tv,dI _⟩,tv,tv,tv,tv,tv⟩ forall_nil)),tv,(forall_cons ⟨(lz rfl),tv⟩ (forall_cons ⟨tv,tv,tv,tv,tv,tv,dE _,tv,dI _,tv,tv,tv,tv,tv⟩ forall_nil))⟩
theorem c40vadd{qq q0 q1 q2 q3 q4 q5 q6 q7 q8 r}(h:e40vadd qq q0 q1 q2 q3 q4 q5 q6 q7 q8=some r):K40vadd q0 q1 q2 q3 q4 q5 q6 q7 q8 r Ct:=by
 unfold e40vadd at h
 obtain⟨r1,h2,h⟩:=obind h
 obtain⟨r3,h4,h⟩:=obind h
 obtain rfl:=sj h
 exact k40vadd (tF q40vadd 0 [0,1] (oD (dI r1.1)<|oD (dE r1.2.1)<|oC 2 [1] (c41vadc h4)<|oC 4 [] (c23 h2)<|oCl 0 o0))
def e70vade(qq:Nat)(q0:ByteArray)(q1:Int)(q2:List Ent)(q3:Int)(q4:List Int)(q5 q6 q7 q8:Int):Option (Int×Int×List Ent×Int×List Int×Int×Int×Int×Int):=
 e40vadd qq q0 q1 q2 q3 q4 q5 q6 q7 q8>>=fun r1=>
 some (1,r1.1,r1.2.1,r1.2.2.1,r1.2.2.2.1,r1.2.2.2.2.1,r1.2.2.2.2.2.1,r1.2.2.2.2.2.2.1,r1.2.2.2.2.2.2.2)
abbrev K70vade (q0:ByteArray) (q1:Int) (q2:List Ent) (q3:Int) (q4:List Int) (q5 q6 q7 q8:Int) (r:Int×Int×List Ent×Int×List Int×Int×Int×Int×Int) (C:Cf):Prop:=C 70 [.cells [.mp 1 0],.cells [at' q0,ai q1,.val (.int .u32 0),.val (.int .i32 0),.val (.int .u32 0),.val (.int .u32 0),slv entL q2 .no,ai q3,slv intC q4 .no,ai q5,ai q6,ai q7,ai q8]] [.mp 1 2,.clo 40 [] [.mp 0 0]] (.tup []) [.cells [.mp 1 0],.cells [at' q0,ai q1,.val (.int .u32 r.1),.val (.int .i32 0),.val (.int .u32 0),.val (.int .u32 r.2.1),slv entL r.2.2.1 .no,ai r.2.2.2.1,slv intC r.2.2.2.2.1 .no,ai r.2.2.2.2.2.1,ai r.2.2.2.2.2.2.1,ai r.2.2.2.2.2.2.2.1,ai r.2.2.2.2.2.2.2.2]] 0
theorem k70vade{q0 q1 q2 q3 q4 q5 q6 q7 q8 r}(h:K70vade q0 q1 q2 q3 q4 q5 q6 q7 q8 r Ci):K70vade q0 q1 q2 q3 q4 q5 q6 q7 q8 r Ct:=⟨h,⟨(lz rfl),⟨tv,⟨(lz rfl),tv⟩⟩,tv⟩,(forall_cons ⟨(lz rfl),tv⟩ (forall_cons ⟨tv,tv,tv,tv,tv,tv,⟨tv,dE _⟩,tv,⟨tv,dI _⟩,tv,tv,tv,tv,tv⟩ forall_nil)),tv,(forall_cons ⟨(lz rfl),tv⟩ (forall_cons ⟨tv,tv,tv,tv,tv,tv,dE _,tv,dI _,tv,tv,tv,tv,tv⟩ forall_nil))⟩
theorem c70vade{qq q0 q1 q2 q3 q4 q5 q6 q7 q8 r}(h:e70vade qq q0 q1 q2 q3 q4 q5 q6 q7 q8=some r):K70vade q0 q1 q2 q3 q4 q5 q6 q7 q8 r Ct:=by
 unfold e70vade at h
 obtain⟨r1,h2,h⟩:=obind h
 obtain rfl:=sj h
 exact k70vade (once_slow slow_ok (enters_of Tryz.func40 (by kernel_rfl) rfl) (c40vadd h2) rfl rfl rfl rfl rfl rfl rfl rfl)
def e39vadf(qq:Nat)(q0:ByteArray)(q1:Int)(q2:List Ent)(q3:Int)(q4:List Int)(q5 q6 q7 q8:Int):Option (Int×Int×List Ent×Int×List Int×Int×Int×Int×Int):=
 e24vaaa qq q0 q1 q2 q3 q4 q5 q6 q7 q8>>=fun r1=>
 if r1 then
 none
 else
 e70vade qq q0 q1 q2 q3 q4 q5 q6 q7 q8>>=fun r4=>
 some (r4.1,r4.2.1,r4.2.2.1,r4.2.2.2.1,r4.2.2.2.2.1,r4.2.2.2.2.2.1,r4.2.2.2.2.2.2.1,r4.2.2.2.2.2.2.2.1,r4.2.2.2.2.2.2.2.2)
abbrev K39vadf (q0:ByteArray) (q1:Int) (q2:List Ent) (q3:Int) (q4:List Int) (q5 q6 q7 q8:Int) (r:Int×Int×List Ent×Int×List Int×Int×Int×Int×Int) (C:Cf):Prop:=C 39 [.cells [at' q0,ai q1,.val (.int .u32 0),.val (.int .i32 0),.val (.int .u32 0),.val (.int .u32 0),slv entL q2 .no,ai q3,slv intC q4 .no,ai q5,ai q6,ai q7,ai q8],.cells [.mp 0 0]] [.mp 0 2,.clo 40 [] [.mp 1 0]] (.tup []) [.cells [at' q0,ai q1,.val (.int .u32 r.1),.val (.int .i32 0),.val (.int .u32 0),.val (.int .u32 r.2.1),slv entL r.2.2.1 .no,ai r.2.2.2.1,slv intC r.2.2.2.2.1 .no,ai r.2.2.2.2.2.1,ai r.2.2.2.2.2.2.1,ai r.2.2.2.2.2.2.2.1,ai r.2.2.2.2.2.2.2.2],.cells [.mp 0 0]] 0
theorem q39vadf:Qf 39 Tryz.f39:=⟨Tryz.func39,by kernel_rfl⟩
theorem k39vadf{q0 q1 q2 q3 q4 q5 q6 q7 q8 r}(h:K39vadf q0 q1 q2 q3 q4 q5 q6 q7 q8 r Ci):K39vadf q0 q1 q2 q3 q4 q5 q6 q7 q8 r Ct:=⟨h,⟨(lz rfl),⟨tv,⟨(lz rfl),tv⟩⟩,tv⟩,(forall_cons ⟨tv,tv,tv,tv,tv,tv,⟨tv,dE _⟩,tv,⟨tv,dI _⟩,tv,tv,tv,tv,tv⟩ (forall_cons ⟨(lz rfl),tv⟩ forall_nil)),tv,(forall_cons ⟨tv,tv,tv,tv,tv,tv,dE _,tv,dI _,tv,tv,tv,tv,tv⟩ (forall_cons ⟨(lz rfl),tv⟩ forall_nil))⟩
theorem c39vadf{qq q0 q1 q2 q3 q4 q5 q6 q7 q8 r}(h:e39vadf qq q0 q1 q2 q3 q4 q5 q6 q7 q8=some r):K39vadf q0 q1 q2 q3 q4 q5 q6 q7 q8 r Ct:=by
 unfold e39vadf at h
 obtain⟨r1,h2,h⟩:=obind h
 obtain⟨h3,h⟩:=splF h
 obtain⟨r4,h5,h⟩:=obind h
 obtain rfl:=sj h
 exact k39vadf (tF q39vadf 0 [0,1] (oD (dI r4.2.2.2.2.1)<|oD (dE r4.2.2.1)<|oC 1 [1,0] (c70vade h5)<|oK 0 [0] h3 (c24vaaa h2) o0))
def e20vadg(qq:Nat)(q0:ByteArray)(q1:Int)(q2:List Ent)(q3:Int)(q4:List Int)(q5 q6 q7 q8:Int):Option (FileResult×Int×Int×List Ent×Int×List Int×Int×Int×Int×Int):=
 e39vadf qq q0 q1 q2 q3 q4 q5 q6 q7 q8>>=fun r1=>
 some ((FileResult.mk r1.2.2.1 r1.2.2.2.1 r1.2.2.2.2.1 r1.2.2.2.2.2.1 r1.2.2.2.2.2.2.1 r1.2.2.2.2.2.2.2.1 r1.2.2.2.2.2.2.2.2),r1.1,r1.2.1,r1.2.2.1,r1.2.2.2.1,r1.2.2.2.2.1,r1.2.2.2.2.2.1,r1.2.2.2.2.2.2.1,r1.2.2.2.2.2.2.2.1,r1.2.2.2.2.2.2.2.2)
abbrev K20vadg (q0:ByteArray) (q1:Int) (q2:List Ent) (q3:Int) (q4:List Int) (q5 q6 q7 q8:Int) (r:FileResult×Int×Int×List Ent×Int×List Int×Int×Int×Int×Int) (C:Cf):Prop:=C 20 [.cells [at' q0,ai q1,.val (.int .u32 0),.val (.int .i32 0),.val (.int .u32 0),.val (.int .u32 0),slv entL q2 .no,ai q3,slv intC q4 .no,ai q5,ai q6,ai q7,ai q8]] [.mp 0 0] (fileResultA r.1) [.cells [at' q0,ai q1,.val (.int .u32 r.2.1),.val (.int .i32 0),.val (.int .u32 0),.val (.int .u32 r.2.2.1),slv entL r.2.2.2.1 .no,ai r.2.2.2.2.1,slv intC r.2.2.2.2.2.1 .no,ai r.2.2.2.2.2.2.1,ai r.2.2.2.2.2.2.2.1,ai r.2.2.2.2.2.2.2.2.1,ai r.2.2.2.2.2.2.2.2.2]] 0
theorem q20vadg:Qf 20 Tryz.f20:=⟨Tryz.func20,by kernel_rfl⟩
theorem k20vadg{q0 q1 q2 q3 q4 q5 q6 q7 q8 r}(h:K20vadg q0 q1 q2 q3 q4 q5 q6 q7 q8 r Ci):K20vadg q0 q1 q2 q3 q4 q5 q6 q7 q8 r Ct:=⟨h,⟨(lz rfl),tv⟩,(forall_cons ⟨tv,tv,tv,tv,tv,tv,⟨tv,dE _⟩,tv,⟨tv,dI _⟩,tv,tv,tv,tv,tv⟩ forall_nil),⟨dE _,tv,dI _,tv,tv,tv,tv,tv⟩,(forall_cons ⟨tv,tv,tv,tv,tv,tv,dE _,tv,dI _,tv,tv,tv,tv,tv⟩ forall_nil)⟩
theorem c20vadg{qq q0 q1 q2 q3 q4 q5 q6 q7 q8 r}(h:e20vadg qq q0 q1 q2 q3 q4 q5 q6 q7 q8=some r):K20vadg q0 q1 q2 q3 q4 q5 q6 q7 q8 r Ct:=by
 unfold e20vadg at h
 obtain⟨r1,h2,h⟩:=obind h
 obtain rfl:=sj h
 exact k20vadg (tF q20vadg 3 [0] (oD (dI r1.2.2.2.2.1)<|oD (dE r1.2.2.1)<|oD (dI r1.2.2.2.2.1)<|oD (dE r1.2.2.1)<|oC 1 [0,1] (c39vadf h2) o0))
def e44(qq:Nat)(p0:List Ent)(p1:Int):Option (Bool×List Ent×List Ent×List Int×List Int×Int×Int×List Ent×List Con'):=
 e75 qq p0>>=fun r1=>
 e37 qq p1>>=fun r3=>
 if r1.1==0 then
 some ((r3.1==0),p0,r1.2.1,r1.2.2.1,r1.2.2.2.1,r3.2.1,r3.2.2,r1.2.2.2.2.1,r1.2.2.2.2.2)
 else
 none
abbrev K44 (p0:List Ent) (p1:Int) (r:Bool×List Ent×List Ent×List Int×List Int×Int×Int×List Ent×List Con') (C:Cf):Prop:=C 44 [] [slv entL p0 .no,ai p1] (.tup [.mp 0 0,ab r.1]) [.cells [slv entL r.2.1 .no,.mp 1 0,.mp 2 0],.cells [slv entL r.2.2.1 .no,.mp 3 0,slv intC r.2.2.2.1 .no,slv intC r.2.2.2.2.1 .no],.cells [ai r.2.2.2.2.2.1,ai r.2.2.2.2.2.2.1],.cells [slv entL r.2.2.2.2.2.2.2.1 .no,slv conL r.2.2.2.2.2.2.2.2 .no]] 0
theorem q44:Qf 44 Tryz.f44:=⟨Tryz.func44,by kernel_rfl⟩
theorem k44{p0 p1 r}(h:K44 p0 p1 r Ci):K44 p0 p1 r Ct:=⟨h,⟨⟨tv,dE _⟩,tv,tv⟩,forall_nil,⟨(lz rfl),tv,tv⟩,(forall_cons ⟨dE _,(lz rfl),(lz rfl),tv⟩ (forall_cons ⟨dE _,(lz rfl),dI _,dI _,tv⟩ (forall_cons ⟨tv,tv,tv⟩ (forall_cons ⟨dE _,dC _,tv⟩ forall_nil))))⟩
theorem c44{qq p0 p1 r}(h:e44 qq p0 p1=some r):K44 p0 p1 r Ct:=by
 unfold e44 at h
 obtain⟨r1,h2,h⟩:=obind h
 obtain⟨r3,h4,h⟩:=obind h
 have k:=oC 2 [] (c37 h4)<|oC 0 [] (c75 h2) o0
 obtain⟨h5,h⟩:=spT h
 obtain rfl:=sj h
 exact k44 (tF q44 1 [3,0,2,1] (oD (dC r1.2.2.2.2.2)<|oD (dE r1.2.2.2.2.1)<|oD (dI r1.2.2.2.1)<|oD (dI r1.2.2.1)<|oD (dE r1.2.1)<|oD (dE p0)<|oB 2 h5 k))
def e123(qq:Nat)(q0_l:List TokenToken)(q0_i q0_at q0_bad:Int):Option (Int×Int):=
 e86 qq q0_l q0_i q0_at q0_bad 0>>=fun r1=>
 if r1.kind_ != 5 then
 none
 else
 some (q0_at,q0_bad)
abbrev K123 (q0_l:List TokenToken) (q0_i q0_at q0_bad:Int) (r:Int×Int) (C:Cf):Prop:=C 123 [.cells [slv tokenTokenL q0_l .no,ai q0_i,ai q0_at,ai q0_bad]] [.mp 0 0] (.tup []) [.cells [slv tokenTokenL q0_l .no,ai q0_i,ai r.1,ai r.2]] 0
theorem q123:Qf 123 Tryz.f123:=⟨Tryz.func123,by kernel_rfl⟩
theorem k123{q0_l q0_i q0_at q0_bad r}(h:K123 q0_l q0_i q0_at q0_bad r Ci):K123 q0_l q0_i q0_at q0_bad r Ct:=⟨h,⟨(lz rfl),tv⟩,(forall_cons ⟨⟨tv,dTokenToken _⟩,tv,tv,tv,tv⟩ forall_nil),tv,(forall_cons ⟨dTokenToken _,tv,tv,tv,tv⟩ forall_nil)⟩
theorem c123{qq q0_l q0_i q0_at q0_bad r}(h:e123 qq q0_l q0_i q0_at q0_bad=some r):K123 q0_l q0_i q0_at q0_bad r Ct:=by
 unfold e123 at h
 obtain⟨r1,h2,h⟩:=obind h
 have k:=oC 0 [0] (c86 h2) o0
 obtain⟨h3,h⟩:=splF h
 obtain rfl:=sj h
 exact k123 (tF q123 0 [0] (oD (dTokenToken q0_l)<|oB 0 h3 k))
def e76(qq:Nat)(p0:ByteArray):Option (TreeNode×Int×Int):=
 e85 qq p0>>=fun r1=>
 e122 qq r1.1 r1.2.1 r1.2.2.1 r1.2.2.2>>=fun r3=>
 e123 qq r1.1 r3.2.1 r3.2.2.1 r3.2.2.2>>=fun r5=>
 if r5.2 != 0 then
 none
 else
 some (r3.1,(p0.size:Int),0)
abbrev K76 (p0:ByteArray) (r:TreeNode×Int×Int) (C:Cf):Prop:=C 76 [] [at' p0] (.tup [treeNodeA r.1,ai r.2.1,ai r.2.2]) [] 0
theorem q76:Qf 76 Tryz.f76:=⟨Tryz.func76,by kernel_rfl⟩
theorem k76{p0 r}(h:K76 p0 r Ci):K76 p0 r Ct:=⟨h,⟨tv,tv⟩,forall_nil,⟨⟨tv,tv,tv,tv,dTreeNode _,tv⟩,tv,tv,tv⟩,forall_nil⟩
theorem c76{qq p0 r}(h:e76 qq p0=some r):K76 p0 r Ct:=by
 unfold e76 at h
 obtain⟨r1,h2,h⟩:=obind h
 obtain⟨r3,h4,h⟩:=obind h
 obtain⟨r5,h6,h⟩:=obind h
 have k:=oC 1 [1] (c123 h6)<|oC 0 [1] (c122 h4)<|oC 0 [] (c85 h2) o0
 obtain⟨h7,h⟩:=splF h
 obtain rfl:=sj h
 exact k76 (tF q76 3 [] (oD (dTreeNode r3.1.sub_)<|oB 1 h7 k))
def e78(qq:Nat)(M:Mach)(fl fu:Int)(p0_Context:List Tm)(p0_Names:List Int)(p0_Types:List Tm)(p1:Tm):Option (Tm×Int×Int×Int):=
 e127 qq M fl fu p0_Context p0_Names p0_Types [p1]>>=fun r1=>
 if r1.1 != 0 then
 none
 else
 e128 qq M fl fu r1.2.1 r1.2.2.1 r1.2.2.2.1 r1.2.2.2.2 p1>>=fun r4=>
 if r4.2.1 != 0 then
 none
 else
 e42 qq r4.1>>=fun r7=>
 some (r7,0,r4.2.2.1,r4.2.2.2)
abbrev K78 (M:Mach) (fl fu:Int) (p0_Context:List Tm) (p0_Names:List Int) (p0_Types:List Tm) (p1:Tm) (r:Tm×Int×Int×Int) (C:Cf):Prop:=C 78 [mB M 1,mR M,.cells [ai fl,ai fu]] [.agg [.mp 0 0,.mp 2 0,slv tmCells p0_Context .no,slv intC p0_Names .no,slv tmCells p0_Types .no],tmA p1] (.tup [tmA r.1,ai r.2.1]) [mB M 1,mR M,.cells [ai r.2.2.1,ai r.2.2.2]] 0
theorem q78:Qf 78 Tryz.f78:=⟨Tryz.func78,by kernel_rfl⟩
theorem k78{M fl fu p0_Context p0_Names p0_Types p1 r}(h:K78 M fl fu p0_Context p0_Names p0_Types p1 r Ci):K78 M fl fu p0_Context p0_Names p0_Types p1 r Ct:=⟨h,⟨⟨(lz rfl),(lz rfl),⟨tv,dT _⟩,⟨tv,dI _⟩,⟨tv,dT _⟩,tv⟩,⟨tv,tv,⟨tv,dT _⟩,tv⟩,tv⟩,(forall_cons ⟨⟨tv,dE _⟩,(lz rfl),⟨tv,dI _⟩,⟨tv,dI _⟩,tv⟩ (forall_cons ⟨⟨tv,dE _⟩,⟨tv,dC _⟩,tv⟩ (forall_cons ⟨tv,tv,tv⟩ forall_nil))),⟨⟨tv,tv,dT _,tv⟩,tv,tv⟩,(forall_cons ⟨dE _,(lz rfl),dI _,dI _,tv⟩ (forall_cons ⟨dE _,dC _,tv⟩ (forall_cons ⟨tv,tv,tv⟩ forall_nil)))⟩
theorem c78{qq M fl fu p0_Context p0_Names p0_Types p1 r}(h:e78 qq M fl fu p0_Context p0_Names p0_Types p1=some r):K78 M fl fu p0_Context p0_Names p0_Types p1 r Ct:=by
 unfold e78 at h
 obtain⟨r1,h2,h⟩:=obind h
 have k:=oC 0 [0,1,2] (c127 h2)<|oS 2 (obLitR tm_eq [p1]) o0
 obtain⟨h3,h⟩:=splF h
 obtain⟨r4,h5,h⟩:=obind h
 have k:=oC 1 [6,0,1,2] (c128 h5)<|oB 2 h3 k
 obtain⟨h6,h⟩:=splF h
 obtain⟨r7,h8,h⟩:=obind h
 obtain rfl:=sj h
 exact k78 (tF q78 1 [0,1,2] (oD (dT r7.sub)<|oD (dC M.parts)<|oD (dE M.rl)<|oD (dI M.own)<|oD (dI M.args)<|oD (dE M.l)<|oC 1 [] (c42 h8)<|oB 3 h6 k))
def e45(qq:Nat)(q0_l:List Ent)(M:Mach)(fl fu:Int)(p1:ByteArray):Option (Tm×Tm×Int×Int×Int×Int):=
 e76 qq p1>>=fun r1=>
 if r1.2.2 != 0 then
 none
 else
 e77 qq q0_l [] r1.1>>=fun r4=>
 if r4.2.2 != 0 then
 none
 else
 e78 qq M fl fu [] [] [] r4.1>>=fun r7=>
 some (r4.1,r7.1,0,r7.2.1,r7.2.2.1,r7.2.2.2)
abbrev K45 (q0_l:List Ent) (M:Mach) (fl fu:Int) (p1:ByteArray) (r:Tm×Tm×Int×Int×Int×Int) (C:Cf):Prop:=C 45 [.cells [slv entL q0_l .no,.mp 1 0,.mp 3 0],mB M 2,mR M,.cells [ai fl,ai fu]] [.mp 0 0,at' p1] (.tup [tmA r.1,tmA r.2.1,ai r.2.2.1,ai r.2.2.2.1]) [.cells [slv entL q0_l .no,.mp 1 0,.mp 3 0],mB M 2,mR M,.cells [ai r.2.2.2.2.1,ai r.2.2.2.2.2]] 0
theorem q45:Qf 45 Tryz.f45:=⟨Tryz.func45,by kernel_rfl⟩
theorem k45{q0_l M fl fu p1 r}(h:K45 q0_l M fl fu p1 r Ci):K45 q0_l M fl fu p1 r Ct:=⟨h,⟨(lz rfl),tv,tv⟩,(forall_cons ⟨⟨tv,dE _⟩,(lz rfl),(lz rfl),tv⟩ (forall_cons ⟨⟨tv,dE _⟩,(lz rfl),⟨tv,dI _⟩,⟨tv,dI _⟩,tv⟩ (forall_cons ⟨⟨tv,dE _⟩,⟨tv,dC _⟩,tv⟩ (forall_cons ⟨tv,tv,tv⟩ forall_nil)))),⟨⟨tv,tv,dT _,tv⟩,⟨tv,tv,dT _,tv⟩,tv,tv,tv⟩,(forall_cons ⟨dE _,(lz rfl),(lz rfl),tv⟩ (forall_cons ⟨dE _,(lz rfl),dI _,dI _,tv⟩ (forall_cons ⟨dE _,dC _,tv⟩ (forall_cons ⟨tv,tv,tv⟩ forall_nil))))⟩
theorem c45{qq q0_l M fl fu p1 r}(h:e45 qq q0_l M fl fu p1=some r):K45 q0_l M fl fu p1 r Ct:=by
 unfold e45 at h
 obtain⟨r1,h2,h⟩:=obind h
 have k:=oC 0 [] (c76 h2) o0
 obtain⟨h3,h⟩:=splF h
 obtain⟨r4,h5,h⟩:=obind h
 have k:=oC 2 [] (c77 h5)<|oB 4 h3 k
 obtain⟨h6,h⟩:=splF h
 obtain⟨r7,h8,h⟩:=obind h
 obtain rfl:=sj h
 exact k45 (tF q45 7 [0,1,2,3] (oD (dT r7.1.sub)<|oD (dT r4.1.sub)<|oD (dC M.parts)<|oD (dE M.rl)<|oD (dI M.own)<|oD (dI M.args)<|oD (dE M.l)<|oD (dE q0_l)<|oC 3 [1,2,3] (c78 h8)<|oB 4 h6 k))
def e129(qq:Nat)(M:Mach)(fl fu q0_e:Int)(p1:Tm):Option (Tm×Int×Int×Int):=
 e217 qq M p1 fl fu>>=fun r1=>
 if r1.2.1 != 0 then
 none
 else
 if r1.1.k==4 then
 none
 else
 if r1.1.k==3 then
 none
 else
 if r1.1.k==5 then
 none
 else
 some (r1.1,q0_e,r1.2.2.1,r1.2.2.2)
abbrev K129 (M:Mach) (fl fu q0_e:Int) (p1:Tm) (r:Tm×Int×Int×Int) (C:Cf):Prop:=C 129 [.cells [.mp 1 0,.mp 3 0,ai q0_e],mB M 2,mR M,.cells [ai fl,ai fu]] [.mp 0 0,tmA p1] (tmA r.1) [.cells [.mp 1 0,.mp 3 0,ai r.2.1],mB M 2,mR M,.cells [ai r.2.2.1,ai r.2.2.2]] 0
theorem q129:Qf 129 Tryz.f129:=⟨Tryz.func129,by kernel_rfl⟩
theorem k129{M fl fu q0_e p1 r}(h:K129 M fl fu q0_e p1 r Ci):K129 M fl fu q0_e p1 r Ct:=⟨h,⟨(lz rfl),⟨tv,tv,⟨tv,dT _⟩,tv⟩,tv⟩,(forall_cons ⟨(lz rfl),(lz rfl),tv,tv⟩ (forall_cons ⟨⟨tv,dE _⟩,(lz rfl),⟨tv,dI _⟩,⟨tv,dI _⟩,tv⟩ (forall_cons ⟨⟨tv,dE _⟩,⟨tv,dC _⟩,tv⟩ (forall_cons ⟨tv,tv,tv⟩ forall_nil)))),⟨tv,tv,dT _,tv⟩,(forall_cons ⟨(lz rfl),(lz rfl),tv,tv⟩ (forall_cons ⟨dE _,(lz rfl),dI _,dI _,tv⟩ (forall_cons ⟨dE _,dC _,tv⟩ (forall_cons ⟨tv,tv,tv⟩ forall_nil))))⟩
theorem c129{qq M fl fu q0_e p1 r}(h:e129 qq M fl fu q0_e p1=some r):K129 M fl fu q0_e p1 r Ct:=by
 unfold e129 at h
 obtain⟨r1,h2,h⟩:=obind h
 have k:=oC 3 [1,2,3] (c217 h2) o0
 obtain⟨h3,h⟩:=splF h
 have k:=oB 3 h3 k
 obtain⟨h4,h⟩:=splF h
 have k:=oB 1 h4 k
 obtain⟨h7,h⟩:=splF h
 have k:=oB 0 h7 k
 obtain⟨h10,h⟩:=splF h
 obtain rfl:=sj h
 exact k129 (tF q129 2 [0,1,2,3] (oD (dT r1.1.sub)<|oD (dC M.parts)<|oD (dE M.rl)<|oD (dI M.own)<|oD (dI M.args)<|oD (dE M.l)<|oB 0 h10 k))
def e79(qq:Nat)(M:Mach)(p1:Tm)(fl fu:Int):Option (Tm×Int×Int×Int):=
 e129 qq M fl fu 0 p1>>=fun r1=>
 if r1.2.1 != 0 then
 none
 else
 e73 qq r1.1>>=fun r4=>
 if r4 then
 some (r1.1,0,r1.2.2.1,r1.2.2.2)
 else
 none
abbrev K79 (M:Mach) (p1:Tm) (fl fu:Int) (r:Tm×Int×Int×Int) (C:Cf):Prop:=C 79 [mB M 1,mR M,.cells [ai fl,ai fu]] [.mp 0 0,tmA p1,.mp 2 0] (.tup [tmA r.1,ai r.2.1]) [mB M 1,mR M,.cells [ai r.2.2.1,ai r.2.2.2]] 0
theorem q79:Qf 79 Tryz.f79:=⟨Tryz.func79,by kernel_rfl⟩
theorem k79{M p1 fl fu r}(h:K79 M p1 fl fu r Ci):K79 M p1 fl fu r Ct:=⟨h,⟨(lz rfl),⟨tv,tv,⟨tv,dT _⟩,tv⟩,(lz rfl),tv⟩,(forall_cons ⟨⟨tv,dE _⟩,(lz rfl),⟨tv,dI _⟩,⟨tv,dI _⟩,tv⟩ (forall_cons ⟨⟨tv,dE _⟩,⟨tv,dC _⟩,tv⟩ (forall_cons ⟨tv,tv,tv⟩ forall_nil))),⟨⟨tv,tv,dT _,tv⟩,tv,tv⟩,(forall_cons ⟨dE _,(lz rfl),dI _,dI _,tv⟩ (forall_cons ⟨dE _,dC _,tv⟩ (forall_cons ⟨tv,tv,tv⟩ forall_nil)))⟩
theorem c79{qq M p1 fl fu r}(h:e79 qq M p1 fl fu=some r):K79 M p1 fl fu r Ct:=by
 unfold e79 at h
 obtain⟨r1,h2,h⟩:=obind h
 have k:=oC 1 [5,0,1,2] (c129 h2) o0
 obtain⟨h3,h⟩:=splF h
 obtain⟨r4,h5,h⟩:=obind h
 have k:=oB 2 h3 k
 obtain⟨h6,h⟩:=spT h
 obtain rfl:=sj h
 exact k79 (tF q79 3 [0,1,2] (oD (dT r1.1.sub)<|oD (dC M.parts)<|oD (dE M.rl)<|oD (dI M.own)<|oD (dI M.args)<|oD (dE M.l)<|oK 1 [] h6 (c73 h5) k))
def e162Ldh(qq:Nat)(p0:List ByteArray)(p1:ByteArray)(v5:Int):Option (Int):=
 if decide (v5≥0)then
 none
 else
 some (-1)
def e162(qq:Nat)(p0:List ByteArray)(p1:ByteArray):Option (Int):=
 e162Ldh qq p0 p1 (w64 ((List.length p0:Int)-1))
def g162LdhE0(j:Nat->Value)(p0:List ByteArray)(p1:ByteArray)(v5:Int):=sp j 20 0 [(0,slv strC p0 .no),(1,at' p1),(5,ai v5)]
def g162LdhS0(p0:List ByteArray)(p1:ByteArray)(v5:Int):LSt:=⟨[],0,[],0,[]⟩
abbrev K162 (p0:List ByteArray) (p1:ByteArray) (r:Int) (C:Cf):Prop:=C 162 [] [slv strC p0 .no,at' p1] (ai r) [] 0
theorem q162:Qf 162 Tryz.f162:=⟨Tryz.func162,by kernel_rfl⟩
theorem k162{p0 p1 r}(h:K162 p0 p1 r Ci):K162 p0 p1 r Ct:=⟨h,⟨⟨tv,dS _⟩,tv,tv⟩,forall_nil,tv,forall_nil⟩
theorem l162Ldh(qq p0 p1 v5 r)(h:e162Ldh qq p0 p1 v5=some r):(∀j,Dl Tryz.prog 0 (inn (inn (rgt (lft (rgt (bod Tryz.f162)))))) (g162LdhE0 j p0 p1 v5) (g162LdhS0 p0 p1 v5) (frameQ Tryz.prog 0 (FinQ Tryz.prog 0 Tryz.f162 (ai r) [] 0) [.blk 0,.seq (rgt (rgt (bod Tryz.f162)))])):=by
 unfold e162Ldh at h
 obtain⟨h1,h⟩:=splF h
 obtain rfl:=sj h
 exact fun j=>lF 0 [] (oB 0 h1 o0)
theorem c162{qq p0 p1 r}(h:e162 qq p0 p1=some r):K162 p0 p1 r Ct:=by
 unfold e162 at h
 exact k162 (tH q162 2 [] [] [] [0,1,5] (oD (dS p0) o0) (l162Ldh qq _ _ _ _ h))
def e221(qq:Nat)(q0_l:List Ent)(q0_e q0_at:Int)(p1:List ByteArray)(p2:Tm):Option (TreeNode×Int×Int):=
 if p2.k==1 then
 none
 else
 if p2.k==2 then
 none
 else
 if p2.k==6 then
 gidx q0_l p2.n>>=fun x6=>
 e162 qq p1 x6.name>>=fun r8=>
 if decide (r8≥0)then
 none
 else
 some ((TreeNode.mk 1 0 x6.name 0 []),q0_e,q0_at)
 else
 none
abbrev K221 (q0_l:List Ent) (q0_e q0_at:Int) (p1:List ByteArray) (p2:Tm) (r:TreeNode×Int×Int) (C:Cf):Prop:=C 221 [.cells [slv entL q0_l .no,ai q0_e,ai q0_at]] [.mp 0 0,slv strC p1 .no,tmA p2] (treeNodeA r.1) [.cells [slv entL q0_l .no,ai r.2.1,ai r.2.2]] 0
theorem q221:Qf 221 Tryz.f221:=⟨Tryz.func221,by kernel_rfl⟩
theorem k221{q0_l q0_e q0_at p1 p2 r}(h:K221 q0_l q0_e q0_at p1 p2 r Ci):K221 q0_l q0_e q0_at p1 p2 r Ct:=⟨h,⟨(lz rfl),⟨tv,dS _⟩,⟨tv,tv,⟨tv,dT _⟩,tv⟩,tv⟩,(forall_cons ⟨⟨tv,dE _⟩,tv,tv,tv⟩ forall_nil),⟨tv,tv,tv,tv,dTreeNode _,tv⟩,(forall_cons ⟨dE _,tv,tv,tv⟩ forall_nil)⟩
theorem c221{qq q0_l q0_e q0_at p1 p2 r}(h:e221 qq q0_l q0_e q0_at p1 p2=some r):K221 q0_l q0_e q0_at p1 p2 r Ct:=by
 unfold e221 at h
 obtain⟨h1,h⟩:=splF h
 have k:=oB 1 h1 o0
 obtain⟨h4,h⟩:=splF h
 have k:=oB 0 h4 k
 obtain⟨h5,h⟩:=spT h
 obtain⟨x6,h7,h⟩:=obind h
 obtain⟨r8,h9,h⟩:=obind h
 have k:=oC 1 [] (c162 h9)<|oA 2 (ix23 (o:=.no) h7)<|oB 0 h5 k
 obtain⟨h10,h⟩:=splF h
 obtain rfl:=sj h
 exact k221 (tF q221 2 [0] (oD (dTreeNode ([]:List TreeNode))<|oD (dE q0_l)<|oA 2 (ix23 (o:=.no) h7)<|oB 0 h10 k))
def e130(qq:Nat)(p0:List Ent)(p1:List ByteArray)(p2:Tm):Option (TreeNode×Int):=
 e181 qq p2 (List.length p1:Int) (List.length p0:Int)>>=fun r1=>
 if r1 then
 e125 qq p0 p1>>=fun r4=>
 if r4 != 0 then
 none
 else
 e221 qq p0 0 0 p1 p2>>=fun r7=>
 if r7.2.1 != 0 then
 none
 else
 e124 qq r7.1>>=fun r10=>
 if r10 then
 some (r7.1,0)
 else
 none
 else
 none
abbrev K130 (p0:List Ent) (p1:List ByteArray) (p2:Tm) (r:TreeNode×Int) (C:Cf):Prop:=C 130 [] [slv entL p0 .no,slv strC p1 .no,tmA p2] (.tup [treeNodeA r.1,ai r.2]) [] 0
theorem q130:Qf 130 Tryz.f130:=⟨Tryz.func130,by kernel_rfl⟩
theorem k130{p0 p1 p2 r}(h:K130 p0 p1 p2 r Ci):K130 p0 p1 p2 r Ct:=⟨h,⟨⟨tv,dE _⟩,⟨tv,dS _⟩,⟨tv,tv,⟨tv,dT _⟩,tv⟩,tv⟩,forall_nil,⟨⟨tv,tv,tv,tv,dTreeNode _,tv⟩,tv,tv⟩,forall_nil⟩
theorem c130{qq p0 p1 p2 r}(h:e130 qq p0 p1 p2=some r):K130 p0 p1 p2 r Ct:=by
 unfold e130 at h
 obtain⟨r1,h2,h⟩:=obind h
 obtain⟨h3,h⟩:=spT h
 obtain⟨r4,h5,h⟩:=obind h
 have k:=oC 1 [] (c125 h5)<|oK 3 [] h3 (c181 h2) o0
 obtain⟨h6,h⟩:=splF h
 obtain⟨r7,h8,h⟩:=obind h
 have k:=oC 1 [2] (c221 h8)<|oB 0 h6 k
 obtain⟨h9,h⟩:=splF h
 obtain⟨r10,h11,h⟩:=obind h
 have k:=oB 2 h9 k
 obtain⟨h12,h⟩:=spT h
 obtain rfl:=sj h
 exact k130 (tF q130 3 [] (oD (dTreeNode r7.1.sub_)<|oK 1 [] h12 (c124 h11) k))
def e330(qq:Nat)(p0:TreeNode)(p1:Int):Option (Bool):=
 if p0.kind_==3 then
 none
 else
 if p0.kind_==4 then
 none
 else
 if p0.kind_==5 then
 none
 else
 some false
abbrev K330 (p0:TreeNode) (p1:Int) (r:Bool) (C:Cf):Prop:=C 330 [] [treeNodeA p0,ai p1] (ab r) [] 0
theorem q330:Qf 330 Tryz.f330:=⟨Tryz.func330,by kernel_rfl⟩
theorem k330{p0 p1 r}(h:K330 p0 p1 r Ci):K330 p0 p1 r Ct:=⟨h,⟨⟨tv,tv,tv,tv,⟨tv,dTreeNode _⟩,tv⟩,tv,tv⟩,forall_nil,tv,forall_nil⟩
theorem c330{qq p0 p1 r}(h:e330 qq p0 p1=some r):K330 p0 p1 r Ct:=by
 unfold e330 at h
 obtain⟨h1,h⟩:=splF h
 have k:=oB 1 h1 o0
 obtain⟨h2,h⟩:=splF h
 have k:=oB 0 h2 k
 obtain⟨h3,h⟩:=splF h
 obtain rfl:=sj h
 exact k330 (tF q330 0 [] (oB 0 h3 k))
def e331vadiLdj(qq:Nat)(q0:Bool)(p1:List ByteArray)(v8:Int)(vb1_0:List U8):Option (List U8×Bool):=
 if decide (v8<(List.length p1:Int))then
 none
 else
 some (vb1_0,q0)
def e331vadiLdk(qq:Nat)(q0:Bool)(p1:List ByteArray)(v8:Int):Option (List U8×Bool):=
 if decide (v8<(List.length p1:Int))then
 gidx p1 v8>>=fun x2=>
 if decide ((x2.size:Int)>65535)then
 none
 else
 if decide (ByteArray.size x2=0)then
 none
 else
 gapp 1 ([]:List U8) (gbs x2)>>=fun l6=>
 e331vadiLdj qq q0 p1 (w64 (v8+1)) l6
 else
 none
def e331vadi(qq:Nat)(q0:Bool)(p1:List ByteArray):Option (List U8×Bool):=
 e331vadiLdk qq q0 p1 0
def g331vadiLdkE0(j:Nat->Value)(q0:Bool)(p1:List ByteArray)(v8:Int):=sp j 34 0 [(0,.mp 0 0),(6,slv strC p1 .no),(7,ai (List.length p1:Int)),(8,ai v8)]
def g331vadiLdkS0(q0:Bool)(p1:List ByteArray)(v8:Int):LSt:=⟨[(0,.cells [slv u8C ([]:List U8) .nl,ab q0])],1,[],0,[]⟩
def g331vadiLdjE0(j:Nat->Value)(q0:Bool)(p1:List ByteArray)(v8:Int)(vb1_0:List U8):=sp j 34 0 [(0,.mp 0 0),(6,slv strC p1 .no),(7,ai (List.length p1:Int)),(8,ai v8)]
def g331vadiLdjS0(q0:Bool)(p1:List ByteArray)(v8:Int)(vb1_0:List U8):LSt:=⟨[(0,.cells [.ms 1 0 (List.length vb1_0) (List.length vb1_0) 1,ab q0]),(1,.row (flat u8C vb1_0))],2,[],0,[]⟩
abbrev K331vadi (q0:Bool) (p1:List ByteArray) (r:List U8×Bool) (C:Cf):Prop:=C 331 [.cells [slv u8C ([]:List U8) .nl,ab q0]] [.mp 0 0,slv strC p1 .no] (.tup []) [.cells [.ms 1 0 (List.length r.1) (List.length r.1) 1,ab r.2],.row (flat u8C r.1)] 0
theorem q331vadi:Qf 331 Tryz.f331:=⟨Tryz.func331,by kernel_rfl⟩
theorem k331vadi{q0 p1 r}(h:K331vadi q0 p1 r Ci):K331vadi q0 p1 r Ct:=⟨h,⟨(lz rfl),⟨tv,dS _⟩,tv⟩,(forall_cons ⟨⟨tv,dU _⟩,tv,tv⟩ forall_nil),tv,(forall_cons ⟨(lz rfl),tv,tv⟩ (forall_cons (dU _) forall_nil))⟩
theorem l331vadiLdj(qq q0 p1 v8 vb1_0 r)(h:e331vadiLdj qq q0 p1 v8 vb1_0=some r):(∀j,Dl Tryz.prog 1 (inn (inn (rgt (bod Tryz.f331)))) (g331vadiLdjE0 j q0 p1 v8 vb1_0) (g331vadiLdjS0 q0 p1 v8 vb1_0) (frameQ Tryz.prog 1 (FinQ Tryz.prog 1 Tryz.f331 (.tup []) [.cells [.ms 1 0 (List.length r.1) (List.length r.1) 1,ab r.2],.row (flat u8C r.1)] 0) [.blk 0])):=by
 unfold e331vadiLdj at h
 obtain⟨h8,h⟩:=splF h
 obtain rfl:=sj h
 exact fun j=>lF 0 [0,1] (oD (dU vb1_0)<|oB 0 h8 o0)
theorem l331vadiLdk(qq q0 p1 v8 r)(h:e331vadiLdk qq q0 p1 v8=some r):(∀j,Dl Tryz.prog 1 (inn (inn (rgt (bod Tryz.f331)))) (g331vadiLdkE0 j q0 p1 v8) (g331vadiLdkS0 q0 p1 v8) (frameQ Tryz.prog 1 (FinQ Tryz.prog 1 Tryz.f331 (.tup []) [.cells [.ms 1 0 (List.length r.1) (List.length r.1) 1,ab r.2],.row (flat u8C r.1)] 0) [.blk 0])):=by
 unfold e331vadiLdk at h
 obtain⟨h1,h⟩:=spT h
 obtain⟨x2,h3,h⟩:=obind h
 have k:=oA 0 (ix56 (o:=.no) h3)<|oB 0 h1 o0
 obtain⟨h4,h⟩:=splF h
 have k:=oB 5 h4 k
 obtain⟨h5,h⟩:=splF h
 obtain⟨l6,h7,h⟩:=obind h
 exact fun j=>lH 2 [] [0,1] [] [0,6,7,8] (oD (dS p1)<|oD (dU l6)<|oMks 1 (apWS264_9 h7 (of_decide_eq_false h5)) k) (l331vadiLdj qq _ _ _ _ _ h)
theorem c331vadi{qq q0 p1 r}(h:e331vadi qq q0 p1=some r):K331vadi q0 p1 r Ct:=by
 unfold e331vadi at h
 exact k331vadi (tH q331vadi 1 [] [0] [] [0,6,7,8] (oD (dS p1)<|oD (dU ([]:List U8)) o0) (l331vadiLdk qq _ _ _ _ h))
def e332vadl(qq:Nat)(q0:Bool)(p1:TreeNode):Option (List U8×Bool):=
 if p1.kind_==1 then
 e331vadi qq q0 [p1.name_]>>=fun r2=>
 some (r2.1,r2.2)
 else
 none
def e222vadm(qq:Nat)(q0:Bool)(p1:TreeNode)(p2:Int):Option (List U8×Bool):=
 e330 qq p1 p2>>=fun r1=>
 if r1 then
 none
 else
 e332vadl qq q0 p1>>=fun r18=>
 match r18 with
 |y20=>
  some (y20.1,y20.2)
abbrev K222vadm (q0:Bool) (p1:TreeNode) (p2:Int) (r:List U8×Bool) (C:Cf):Prop:=C 222 [.cells [slv u8C ([]:List U8) .nl,ab q0]] [.mp 0 0,treeNodeA p1,ai p2] (.tup []) [.cells [.ms 1 0 (List.length r.1) (List.length r.1) 1,ab r.2],.row (flat u8C r.1)] 0
abbrev K332vadl (q0:Bool) (p1:TreeNode) (r:List U8×Bool) (C:Cf):Prop:=C 332 [.cells [slv u8C ([]:List U8) .nl,ab q0]] [.mp 0 0,treeNodeA p1] (.tup []) [.cells [.ms 1 0 (List.length r.1) (List.length r.1) 1,ab r.2],.row (flat u8C r.1)] 0
theorem q222vadm:Qf 222 Tryz.f222:=⟨Tryz.func222,by kernel_rfl⟩
theorem k222vadm{q0 p1 p2 r}(h:K222vadm q0 p1 p2 r Ci):K222vadm q0 p1 p2 r Ct:=⟨h,⟨(lz rfl),⟨tv,tv,tv,tv,⟨tv,dTreeNode _⟩,tv⟩,tv,tv⟩,(forall_cons ⟨⟨tv,dU _⟩,tv,tv⟩ forall_nil),tv,(forall_cons ⟨(lz rfl),tv,tv⟩ (forall_cons (dU _) forall_nil))⟩
theorem q332vadl:Qf 332 Tryz.f332:=⟨Tryz.func332,by kernel_rfl⟩
theorem k332vadl{q0 p1 r}(h:K332vadl q0 p1 r Ci):K332vadl q0 p1 r Ct:=⟨h,⟨(lz rfl),⟨tv,tv,tv,tv,⟨tv,dTreeNode _⟩,tv⟩,tv⟩,(forall_cons ⟨⟨tv,dU _⟩,tv,tv⟩ forall_nil),tv,(forall_cons ⟨(lz rfl),tv,tv⟩ (forall_cons (dU _) forall_nil))⟩
theorem c332vadl{qq q0 p1 r}(h:e332vadl qq q0 p1=some r):K332vadl q0 p1 r Ct:=by
 unfold e332vadl at h
 obtain⟨h1,h⟩:=spT h
 obtain⟨r2,h3,h⟩:=obind h
 obtain rfl:=sj h
 exact k332vadl (tF q332vadl 0 [0,2] (oD (dU r2.1)<|oC 2 [0] (c331vadi h3)<|oB 1 h1 o0))
theorem c222vadm{qq q0 p1 p2 r}(h:e222vadm qq q0 p1 p2=some r):K222vadm q0 p1 p2 r Ct:=by
 unfold e222vadm at h
 obtain⟨r1,h2,h⟩:=obind h
 obtain⟨h3,h⟩:=splF h
 obtain⟨r18,h19,h⟩:=obind h
 have k:=oK 1 [] h3 (c330 h2) o0
 dsimp only at h
 obtain rfl:=sj h
 exact k222vadm (tF q222vadm 0 [0,2] (oD (dU r18.1)<|oC 1 [0] (c332vadl h19) k))
def e223vadn(qq:Nat)(q0:List U8)(q1:Bool):Option (ByteArray×Int):=
 if q1 then
 none
 else
 some ((gstr q0),0)
abbrev K223vadn (q0:List U8) (q1:Bool) (r:ByteArray×Int) (C:Cf):Prop:=C 223 [.cells [.ms 1 0 (List.length q0) (List.length q0) 1,ab q1],.row (flat u8C q0)] [.mp 0 0] (.tup [at' r.1,ai r.2]) [.cells [.ms 1 0 (List.length q0) (List.length q0) 1,ab q1],.row (flat u8C q0)] 0
theorem q223vadn:Qf 223 Tryz.f223:=⟨Tryz.func223,by kernel_rfl⟩
theorem k223vadn{q0 q1 r}(h:K223vadn q0 q1 r Ci):K223vadn q0 q1 r Ct:=⟨h,⟨(lz rfl),tv⟩,(forall_cons ⟨(lz rfl),tv,tv⟩ (forall_cons (dU _) forall_nil)),⟨tv,tv,tv⟩,(forall_cons ⟨(lz rfl),tv,tv⟩ (forall_cons (dU _) forall_nil))⟩
theorem c223vadn{qq q0 q1 r}(h:e223vadn qq q0 q1=some r):K223vadn q0 q1 r Ct:=by
 unfold e223vadn at h
 obtain⟨h1,h⟩:=splF h
 obtain rfl:=sj h
 exact k223vadn (tF q223vadn 0 [0,1] (oD (dU q0)<|oCv 1 (cvR264_9 q0)<|oB 0 h1 o0))
def e131(qq:Nat)(p0:TreeNode):Option (ByteArray×Int):=
 e124 qq p0>>=fun r1=>
 if r1 then
 e222vadm qq false p0 0>>=fun r4=>
 e223vadn qq r4.1 r4.2>>=fun r6=>
 some (r6.1,r6.2)
 else
 none
abbrev K131 (p0:TreeNode) (r:ByteArray×Int) (C:Cf):Prop:=C 131 [] [treeNodeA p0] (.tup [at' r.1,ai r.2]) [] 0
theorem q131:Qf 131 Tryz.f131:=⟨Tryz.func131,by kernel_rfl⟩
theorem k131{p0 r}(h:K131 p0 r Ci):K131 p0 r Ct:=⟨h,⟨⟨tv,tv,tv,tv,⟨tv,dTreeNode _⟩,tv⟩,tv⟩,forall_nil,⟨tv,tv,tv⟩,forall_nil⟩
theorem c131{qq p0 r}(h:e131 qq p0=some r):K131 p0 r Ct:=by
 unfold e131 at h
 obtain⟨r1,h2,h⟩:=obind h
 obtain⟨h3,h⟩:=spT h
 obtain⟨r4,h5,h⟩:=obind h
 obtain⟨r6,h7,h⟩:=obind h
 obtain rfl:=sj h
 exact k131 (tF q131 2 [] (oC 0 [1,2] (c223vadn h7)<|oC 2 [1] (c222vadm h5)<|oK 1 [] h3 (c124 h2) o0))
def e80(qq:Nat)(q0_l:List Ent)(M:Mach)(fl fu:Int)(p1:Tm):Option (ByteArray×Int):=
 e130 qq q0_l [] p1>>=fun r1=>
 if r1.2 != 0 then
 none
 else
 e131 qq r1.1>>=fun r4=>
 some (r4.1,r4.2)
abbrev K80 (q0_l:List Ent) (M:Mach) (fl fu:Int) (p1:Tm) (r:ByteArray×Int) (C:Cf):Prop:=C 80 [.cells [slv entL q0_l .no,.mp 1 0,.mp 3 0],mB M 2,mR M,.cells [ai fl,ai fu]] [.mp 0 0,tmA p1] (.tup [at' r.1,ai r.2]) [.cells [slv entL q0_l .no,.mp 1 0,.mp 3 0],mB M 2,mR M,.cells [ai fl,ai fu]] 0
theorem q80:Qf 80 Tryz.f80:=⟨Tryz.func80,by kernel_rfl⟩
theorem k80{q0_l M fl fu p1 r}(h:K80 q0_l M fl fu p1 r Ci):K80 q0_l M fl fu p1 r Ct:=⟨h,⟨(lz rfl),⟨tv,tv,⟨tv,dT _⟩,tv⟩,tv⟩,(forall_cons ⟨⟨tv,dE _⟩,(lz rfl),(lz rfl),tv⟩ (forall_cons ⟨⟨tv,dE _⟩,(lz rfl),⟨tv,dI _⟩,⟨tv,dI _⟩,tv⟩ (forall_cons ⟨⟨tv,dE _⟩,⟨tv,dC _⟩,tv⟩ (forall_cons ⟨tv,tv,tv⟩ forall_nil)))),⟨tv,tv,tv⟩,(forall_cons ⟨dE _,(lz rfl),(lz rfl),tv⟩ (forall_cons ⟨dE _,(lz rfl),dI _,dI _,tv⟩ (forall_cons ⟨dE _,dC _,tv⟩ (forall_cons ⟨tv,tv,tv⟩ forall_nil))))⟩
theorem c80{qq q0_l M fl fu p1 r}(h:e80 qq q0_l M fl fu p1=some r):K80 q0_l M fl fu p1 r Ct:=by
 unfold e80 at h
 obtain⟨r1,h2,h⟩:=obind h
 have k:=oC 2 [] (c130 h2) o0
 obtain⟨h3,h⟩:=splF h
 obtain⟨r4,h5,h⟩:=obind h
 obtain rfl:=sj h
 exact k80 (tF q80 2 [0,1,2,3] (oD (dC M.parts)<|oD (dE M.rl)<|oD (dI M.own)<|oD (dI M.args)<|oD (dE M.l)<|oD (dE q0_l)<|oC 1 [] (c131 h5)<|oB 3 h3 k))
def e46(qq:Nat)(q0_l:List Ent)(M:Mach)(fl fu:Int)(p1:Tm):Option (ByteArray×Int×Int×Int):=
 e79 qq M p1 fl fu>>=fun r1=>
 if r1.2.1 != 0 then
 none
 else
 e80 qq q0_l M r1.2.2.1 r1.2.2.2 r1.1>>=fun r4=>
 some (r4.1,r4.2,r1.2.2.1,r1.2.2.2)
abbrev K46 (q0_l:List Ent) (M:Mach) (fl fu:Int) (p1:Tm) (r:ByteArray×Int×Int×Int) (C:Cf):Prop:=C 46 [.cells [slv entL q0_l .no,.mp 1 0,.mp 3 0],mB M 2,mR M,.cells [ai fl,ai fu]] [.mp 0 0,tmA p1] (.tup [at' r.1,ai r.2.1]) [.cells [slv entL q0_l .no,.mp 1 0,.mp 3 0],mB M 2,mR M,.cells [ai r.2.2.1,ai r.2.2.2]] 0
theorem q46:Qf 46 Tryz.f46:=⟨Tryz.func46,by kernel_rfl⟩
theorem k46{q0_l M fl fu p1 r}(h:K46 q0_l M fl fu p1 r Ci):K46 q0_l M fl fu p1 r Ct:=⟨h,⟨(lz rfl),⟨tv,tv,⟨tv,dT _⟩,tv⟩,tv⟩,(forall_cons ⟨⟨tv,dE _⟩,(lz rfl),(lz rfl),tv⟩ (forall_cons ⟨⟨tv,dE _⟩,(lz rfl),⟨tv,dI _⟩,⟨tv,dI _⟩,tv⟩ (forall_cons ⟨⟨tv,dE _⟩,⟨tv,dC _⟩,tv⟩ (forall_cons ⟨tv,tv,tv⟩ forall_nil)))),⟨tv,tv,tv⟩,(forall_cons ⟨dE _,(lz rfl),(lz rfl),tv⟩ (forall_cons ⟨dE _,(lz rfl),dI _,dI _,tv⟩ (forall_cons ⟨dE _,dC _,tv⟩ (forall_cons ⟨tv,tv,tv⟩ forall_nil))))⟩
theorem c46{qq q0_l M fl fu p1 r}(h:e46 qq q0_l M fl fu p1=some r):K46 q0_l M fl fu p1 r Ct:=by
 unfold e46 at h
 obtain⟨r1,h2,h⟩:=obind h
 have k:=oC 3 [1,2,3] (c79 h2) o0
 obtain⟨h3,h⟩:=splF h
 obtain⟨r4,h5,h⟩:=obind h
 obtain rfl:=sj h
 exact k46 (tF q46 2 [0,1,2,3] (oD (dC M.parts)<|oD (dE M.rl)<|oD (dI M.own)<|oD (dI M.args)<|oD (dE M.l)<|oD (dE q0_l)<|oC 1 [0,1,2,3] (c80 h5)<|oB 3 h3 k))
def e22(qq:Nat)(p0:List Ent)(p1:ByteArray)(p2:Int):Option (FileTold×Int×Int):=
 e44 qq p0 p2>>=fun r1=>
 if r1.1 then
 e45 qq r1.2.1 (Mach.mk r1.2.2.1 r1.2.2.2.2.2.2.2.1 r1.2.2.2.2.2.2.2.2 r1.2.2.2.1 r1.2.2.2.2.1) r1.2.2.2.2.2.1 r1.2.2.2.2.2.2.1 p1>>=fun r4=>
 if r4.2.2.2.1 != 0 then
 none
 else
 e46 qq r1.2.1 (Mach.mk r1.2.2.1 r1.2.2.2.2.2.2.2.1 r1.2.2.2.2.2.2.2.2 r1.2.2.2.1 r1.2.2.2.2.1) r4.2.2.2.2.1 r4.2.2.2.2.2 r4.1>>=fun r7=>
 if r7.2.1 != 0 then
 none
 else
 e46 qq r1.2.1 (Mach.mk r1.2.2.1 r1.2.2.2.2.2.2.2.1 r1.2.2.2.2.2.2.2.2 r1.2.2.2.1 r1.2.2.2.2.1) r7.2.2.1 r7.2.2.2 r4.2.1>>=fun r10=>
 if r10.2.1 != 0 then
 none
 else
 e47 qq r10.2.2.1 r10.2.2.2>>=fun r13=>
 some ((FileTold.mk r7.1 r10.1 r13),0,0)
 else
 none
abbrev K22 (p0:List Ent) (p1:ByteArray) (p2:Int) (r:FileTold×Int×Int) (C:Cf):Prop:=C 22 [] [slv entL p0 .no,at' p1,ai p2] (.tup [fileToldA r.1,ai r.2.1,ai r.2.2]) [] 0
theorem q22:Qf 22 Tryz.f22:=⟨Tryz.func22,by kernel_rfl⟩
theorem k22{p0 p1 p2 r}(h:K22 p0 p1 p2 r Ci):K22 p0 p1 p2 r Ct:=⟨h,⟨⟨tv,dE _⟩,tv,tv,tv⟩,forall_nil,⟨⟨tv,tv,tv,tv⟩,tv,tv,tv⟩,forall_nil⟩
theorem c22{qq p0 p1 p2 r}(h:e22 qq p0 p1 p2=some r):K22 p0 p1 p2 r Ct:=by
 unfold e22 at h
 obtain⟨r1,h2,h⟩:=obind h
 have k:=oC 0 [] (c44 h2) o0
 obtain⟨h3,h⟩:=spT h
 obtain⟨r4,h5,h⟩:=obind h
 have k:=oC 1 [1,2,4,3] (c45 h5)<|oB 1 h3 k
 obtain⟨h6,h⟩:=splF h
 obtain⟨r7,h8,h⟩:=obind h
 have k:=oC 1 [1,2,4,3] (c46 h8)<|oB 6 h6 k
 obtain⟨h9,h⟩:=splF h
 obtain⟨r10,h11,h⟩:=obind h
 have k:=oC 1 [1,2,4,3] (c46 h11)<|oB 2 h9 k
 obtain⟨h12,h⟩:=splF h
 obtain⟨r13,h14,h⟩:=obind h
 obtain rfl:=sj h
 exact k22 (tF q22 1 [] (oC 1 [3] (c47 h14)<|oB 2 h12 k))
def e7vado(qq:Nat)(q0:ByteArray)(q1:Int)(q2:List Ent)(q3:Int)(q4:List Int)(q5 q6 q7 q8:Int)(p1:ByteArray):Option (FileTold×Int×Int×Int×Int×List Ent×Int×List Int×Int×Int×Int×Int):=
 e20vadg qq q0 q1 q2 q3 q4 q5 q6 q7 q8>>=fun r1=>
 e22 qq r1.1.sig_ p1 q1>>=fun r3=>
 some (r3.1,r3.2.1,r3.2.2,r1.2.1,r1.2.2.1,r1.2.2.2.1,r1.2.2.2.2.1,r1.2.2.2.2.2.1,r1.2.2.2.2.2.2.1,r1.2.2.2.2.2.2.2.1,r1.2.2.2.2.2.2.2.2.1,r1.2.2.2.2.2.2.2.2.2)
abbrev K7vado (q0:ByteArray) (q1:Int) (q2:List Ent) (q3:Int) (q4:List Int) (q5 q6 q7 q8:Int) (p1:ByteArray) (r:FileTold×Int×Int×Int×Int×List Ent×Int×List Int×Int×Int×Int×Int) (C:Cf):Prop:=C 7 [.cells [at' q0,ai q1,.val (.int .u32 0),.val (.int .i32 0),.val (.int .u32 0),.val (.int .u32 0),slv entL q2 .no,ai q3,slv intC q4 .no,ai q5,ai q6,ai q7,ai q8]] [.mp 0 0,at' p1] (.tup [fileToldA r.1,ai r.2.1,ai r.2.2.1]) [.cells [at' q0,ai q1,.val (.int .u32 r.2.2.2.1),.val (.int .i32 0),.val (.int .u32 0),.val (.int .u32 r.2.2.2.2.1),slv entL r.2.2.2.2.2.1 .no,ai r.2.2.2.2.2.2.1,slv intC r.2.2.2.2.2.2.2.1 .no,ai r.2.2.2.2.2.2.2.2.1,ai r.2.2.2.2.2.2.2.2.2.1,ai r.2.2.2.2.2.2.2.2.2.2.1,ai r.2.2.2.2.2.2.2.2.2.2.2]] 0
theorem q7vado:Qf 7 Tryz.f7:=⟨Tryz.func7,by kernel_rfl⟩
theorem k7vado{q0 q1 q2 q3 q4 q5 q6 q7 q8 p1 r}(h:K7vado q0 q1 q2 q3 q4 q5 q6 q7 q8 p1 r Ci):K7vado q0 q1 q2 q3 q4 q5 q6 q7 q8 p1 r Ct:=⟨h,⟨(lz rfl),tv,tv⟩,(forall_cons ⟨tv,tv,tv,tv,tv,tv,⟨tv,dE _⟩,tv,⟨tv,dI _⟩,tv,tv,tv,tv,tv⟩ forall_nil),⟨⟨tv,tv,tv,tv⟩,tv,tv,tv⟩,(forall_cons ⟨tv,tv,tv,tv,tv,tv,dE _,tv,dI _,tv,tv,tv,tv,tv⟩ forall_nil)⟩
theorem c7vado{qq q0 q1 q2 q3 q4 q5 q6 q7 q8 p1 r}(h:e7vado qq q0 q1 q2 q3 q4 q5 q6 q7 q8 p1=some r):K7vado q0 q1 q2 q3 q4 q5 q6 q7 q8 p1 r Ct:=by
 unfold e7vado at h
 obtain⟨r1,h2,h⟩:=obind h
 obtain⟨r3,h4,h⟩:=obind h
 obtain rfl:=sj h
 exact k7vado (tF q7vado 4 [0] (oD (dI r1.2.2.2.2.2.1)<|oD (dE r1.2.2.2.1)<|oC 0 [] (c22 h4)<|oCl 0<|oCk 1 [0] [(0,1)] (c20vadg h2) ⟨⟨_,rfl,rfl,fun _ _ _=>rfl⟩,trivial⟩ o0))
def e24vadp(qq:Nat)(q0:ByteArray)(q1 q2 q3:Int)(q4:List Ent)(q5:Int)(q6:List Int)(q7 q8 q9 q10:Int):Option (Bool):=
 some (q3 != 0)
abbrev K24vadp (q0:ByteArray) (q1 q2 q3:Int) (q4:List Ent) (q5:Int) (q6:List Int) (q7 q8 q9 q10:Int) (r:Bool) (C:Cf):Prop:=C 24 [.cells [at' q0,ai q1,.val (.int .u32 q2),.val (.int .i32 0),.val (.int .u32 0),.val (.int .u32 q3),slv entL q4 .no,ai q5,slv intC q6 .no,ai q7,ai q8,ai q9,ai q10]] [.mp 0 5] (ab r) [.cells [at' q0,ai q1,.val (.int .u32 q2),.val (.int .i32 0),.val (.int .u32 0),.val (.int .u32 q3),slv entL q4 .no,ai q5,slv intC q6 .no,ai q7,ai q8,ai q9,ai q10]] 0
theorem q24vadp:Qf 24 Tryz.f24:=⟨Tryz.func24,by kernel_rfl⟩
theorem k24vadp{q0 q1 q2 q3 q4 q5 q6 q7 q8 q9 q10 r}(h:K24vadp q0 q1 q2 q3 q4 q5 q6 q7 q8 q9 q10 r Ci):K24vadp q0 q1 q2 q3 q4 q5 q6 q7 q8 q9 q10 r Ct:=⟨h,⟨(lz rfl),tv⟩,(forall_cons ⟨tv,tv,tv,tv,tv,tv,⟨tv,dE _⟩,tv,⟨tv,dI _⟩,tv,tv,tv,tv,tv⟩ forall_nil),tv,(forall_cons ⟨tv,tv,tv,tv,tv,tv,dE _,tv,dI _,tv,tv,tv,tv,tv⟩ forall_nil)⟩
theorem c24vadp{qq q0 q1 q2 q3 q4 q5 q6 q7 q8 q9 q10 r}(h:e24vadp qq q0 q1 q2 q3 q4 q5 q6 q7 q8 q9 q10=some r):K24vadp q0 q1 q2 q3 q4 q5 q6 q7 q8 q9 q10 r Ct:=by
 unfold e24vadp at h
 obtain rfl:=sj h
 exact k24vadp (tF q24vadp 2 [0] (oD (dI q6)<|oD (dE q4) o0))
def e9vadq(qq:Nat)(q0:ByteArray)(q1 q2 q3:Int)(q4:List Ent)(q5:Int)(q6:List Int)(q7 q8 q9 q10:Int):Option (Bool):=
 e24vadp qq q0 q1 q2 q3 q4 q5 q6 q7 q8 q9 q10>>=fun r1=>
 some r1
abbrev K9vadq (q0:ByteArray) (q1 q2 q3:Int) (q4:List Ent) (q5:Int) (q6:List Int) (q7 q8 q9 q10:Int) (r:Bool) (C:Cf):Prop:=C 9 [.cells [at' q0,ai q1,.val (.int .u32 q2),.val (.int .i32 0),.val (.int .u32 0),.val (.int .u32 q3),slv entL q4 .no,ai q5,slv intC q6 .no,ai q7,ai q8,ai q9,ai q10]] [.mp 0 0] (ab r) [.cells [at' q0,ai q1,.val (.int .u32 q2),.val (.int .i32 0),.val (.int .u32 0),.val (.int .u32 q3),slv entL q4 .no,ai q5,slv intC q6 .no,ai q7,ai q8,ai q9,ai q10]] 0
theorem q9vadq:Qf 9 Tryz.f9:=⟨Tryz.func9,by kernel_rfl⟩
theorem k9vadq{q0 q1 q2 q3 q4 q5 q6 q7 q8 q9 q10 r}(h:K9vadq q0 q1 q2 q3 q4 q5 q6 q7 q8 q9 q10 r Ci):K9vadq q0 q1 q2 q3 q4 q5 q6 q7 q8 q9 q10 r Ct:=⟨h,⟨(lz rfl),tv⟩,(forall_cons ⟨tv,tv,tv,tv,tv,tv,⟨tv,dE _⟩,tv,⟨tv,dI _⟩,tv,tv,tv,tv,tv⟩ forall_nil),tv,(forall_cons ⟨tv,tv,tv,tv,tv,tv,dE _,tv,dI _,tv,tv,tv,tv,tv⟩ forall_nil)⟩
theorem c9vadq{qq q0 q1 q2 q3 q4 q5 q6 q7 q8 q9 q10 r}(h:e9vadq qq q0 q1 q2 q3 q4 q5 q6 q7 q8 q9 q10=some r):K9vadq q0 q1 q2 q3 q4 q5 q6 q7 q8 q9 q10 r Ct:=by
 unfold e9vadq at h
 obtain⟨r1,h2,h⟩:=obind h
 obtain rfl:=sj h
 exact k9vadq (tF q9vadq 0 [0] (oD (dI q6)<|oD (dE q4)<|oC 1 [0] (c24vadp h2) o0))
def e10(qq:Nat)  : Option (Bool):=
 e25 qq (⟨#[100,97,116,97,32,78,32,58,32,83,101,116,32,123,32,122,32,58,32,78,59,32,125]⟩:ByteArray) 500>>=fun r1=>
 e7vado qq r1.1 r1.2.1 r1.2.2.1 r1.2.2.2.1 r1.2.2.2.2.1 r1.2.2.2.2.2.1 r1.2.2.2.2.2.2.1 r1.2.2.2.2.2.2.2.1 r1.2.2.2.2.2.2.2.2 (⟨#[122]⟩:ByteArray)>>=fun r3=>
 if r3.2.2.1==0 then
 if r3.1.value_.toList==(⟨#[122]⟩:ByteArray).toList then
 e9vadq qq r1.1 r1.2.1 r3.2.2.2.1 r3.2.2.2.2.1 r3.2.2.2.2.2.1 r3.2.2.2.2.2.2.1 r3.2.2.2.2.2.2.2.1 r3.2.2.2.2.2.2.2.2.1 r3.2.2.2.2.2.2.2.2.2.1 r3.2.2.2.2.2.2.2.2.2.2.1 r3.2.2.2.2.2.2.2.2.2.2.2>>=fun r7=>
 some r7
 else
 none
 else
 none
abbrev K10 (r:Bool) (C:Cf):Prop:=C 10 [] [] (ab r) [] 0
theorem q10:Qf 10 Tryz.f10:=⟨Tryz.func10,by kernel_rfl⟩
theorem k10{r}(h:K10 r Ci):K10 r Ct:=⟨h,tv,forall_nil,tv,forall_nil⟩
theorem c10{qq r}(h:e10 qq  = some r):K10 r Ct:=by
 unfold e10 at h
 obtain⟨r1,h2,h⟩:=obind h
 obtain⟨r3,h4,h⟩:=obind h
 have k:=oC 0 [0] (c7vado h4)<|oC 0 [] (c25 h2) o0
 obtain⟨h5,h⟩:=spT h
 have k:=oB 4 h5 k
 obtain⟨h6,h⟩:=spT h
 obtain⟨r7,h8,h⟩:=obind h
 obtain rfl:=sj h
 exact k10 (tF q10 0 [] (oC 0 [0] (c9vadq h8)<|oB 1 h6 k))
def e11(qq:Nat)  : Option (List CorpusSample):=
 some [(CorpusSample.mk (⟨#[112,108,117,115,32,116,119,111,32,116,119,111]⟩:ByteArray) (⟨#[115,117,99,32,40,115,117,99,32,40,115,117,99,32,40,115,117,99,32,122,101,114,111,41,41,41]⟩:ByteArray) (⟨#[78,97,116]⟩:ByteArray)),(CorpusSample.mk (⟨#[116,105,109,101,115,32,116,119,111,32,40,112,108,117,115,32,116,119,111,32,116,119,111,41]⟩:ByteArray) (⟨#[115,117,99,32,40,115,117,99,32,40,115,117,99,32,40,115,117,99,32,40,115,117,99,32,40,115,117,99,32,40,115,117,99,32,40,115,117,99,32,122,101,114,111,41,41,41,41,41,41,41]⟩:ByteArray) (⟨#[78,97,116]⟩:ByteArray)),(CorpusSample.mk (⟨#[97,99,107,32,116,119,111,32,116,119,111]⟩:ByteArray) (⟨#[115,117,99,32,40,115,117,99,32,40,115,117,99,32,40,115,117,99,32,40,115,117,99,32,40,115,117,99,32,40,115,117,99,32,122,101,114,111,41,41,41,41,41,41]⟩:ByteArray) (⟨#[78,97,116]⟩:ByteArray)),(CorpusSample.mk (⟨#[109,97,120,32,116,119,111,32,40,115,117,99,32,116,119,111,41]⟩:ByteArray) (⟨#[115,117,99,32,40,115,117,99,32,40,115,117,99,32,122,101,114,111,41,41]⟩:ByteArray) (⟨#[78,97,116]⟩:ByteArray)),(CorpusSample.mk (⟨#[115,117,109,32,40,109,97,112,32,78,97,116,32,78,97,116,32,115,117,99,32,40,99,111,110,115,32,78,97,116,32,122,101,114,111,32,40,99,111,110,115,32,78,97,116,32,116,119,111,32,40,110,105,108,32,78,97,116,41,41,41,41]⟩:ByteArray) (⟨#[115,117,99,32,40,115,117,99,32,40,115,117,99,32,40,115,117,99,32,122,101,114,111,41,41,41]⟩:ByteArray) (⟨#[78,97,116]⟩:ByteArray)),(CorpusSample.mk (⟨#[104,101,97,100,32,78,97,116,32,122,101,114,111,32,40,118,99,111,110,115,32,78,97,116,32,122,101,114,111,32,116,119,111,32,40,118,110,105,108,32,78,97,116,41,41]⟩:ByteArray) (⟨#[115,117,99,32,40,115,117,99,32,122,101,114,111,41]⟩:ByteArray) (⟨#[78,97,116]⟩:ByteArray)),(CorpusSample.mk (⟨#[116,97,105,108,32,78,97,116,32,122,101,114,111,32,40,118,99,111,110,115,32,78,97,116,32,122,101,114,111,32,116,119,111,32,40,118,110,105,108,32,78,97,116,41,41]⟩:ByteArray) (⟨#[118,110,105,108,32,78,97,116]⟩:ByteArray) (⟨#[86,101,99,32,78,97,116,32,122,101,114,111]⟩:ByteArray)),(CorpusSample.mk (⟨#[102,115,116,32,78,97,116,32,66,111,111,108,32,40,115,119,97,112,32,66,111,111,108,32,78,97,116,32,40,80,97,105,114,39,32,66,111,111,108,32,78,97,116,32,116,114,117,101,32,116,119,111,41,41]⟩:ByteArray) (⟨#[115,117,99,32,40,115,117,99,32,122,101,114,111,41]⟩:ByteArray) (⟨#[78,97,116]⟩:ByteArray)),(CorpusSample.mk (⟨#[108,111,111,107,117,112,32,78,97,116,32,116,119,111,32,40,102,115,32,40,115,117,99,32,122,101,114,111,41,32,40,102,122,32,122,101,114,111,41,41,32,40,118,99,111,110,115,32,78,97,116,32,40,115,117,99,32,122,101,114,111,41,32,122,101,114,111,32,40,118,99,111,110,115,32,78,97,116,32,122,101,114,111,32,116,119,111,32,40,118,110,105,108,32,78,97,116,41,41,41]⟩:ByteArray) (⟨#[115,117,99,32,40,115,117,99,32,122,101,114,111,41]⟩:ByteArray) (⟨#[78,97,116]⟩:ByteArray)),(CorpusSample.mk (⟨#[108,101,84,114,97,110,115,32,122,101,114,111,32,122,101,114,111,32,122,101,114,111,32,40,108,101,82,101,102,108,32,122,101,114,111,41,32,40,108,101,82,101,102,108,32,122,101,114,111,41]⟩:ByteArray) (⟨#[108,122,32,122,101,114,111]⟩:ByteArray) (⟨#[76,101,32,122,101,114,111,32,122,101,114,111]⟩:ByteArray)),(CorpusSample.mk (⟨#[108,101,84,114,97,110,115,32,116,119,111,32,116,119,111,32,116,119,111,32,40,108,101,82,101,102,108,32,116,119,111,41,32,40,108,101,82,101,102,108,32,116,119,111,41]⟩:ByteArray) (⟨#[108,115,32,40,115,117,99,32,122,101,114,111,41,32,40,115,117,99,32,122,101,114,111,41,32,40,108,115,32,122,101,114,111,32,122,101,114,111,32,40,108,122,32,122,101,114,111,41,41]⟩:ByteArray) (⟨#[76,101,32,40,115,117,99,32,40,115,117,99,32,122,101,114,111,41,41,32,40,115,117,99,32,40,115,117,99,32,122,101,114,111,41,41]⟩:ByteArray)),(CorpusSample.mk (⟨#[112,108,117,115,90,101,114,111,32,116,119,111]⟩:ByteArray) (⟨#[114,101,102,108,32,78,97,116,32,40,115,117,99,32,40,115,117,99,32,122,101,114,111,41,41]⟩:ByteArray) (⟨#[69,113,32,78,97,116,32,40,115,117,99,32,40,115,117,99,32,122,101,114,111,41,41,32,40,115,117,99,32,40,115,117,99,32,122,101,114,111,41,41]⟩:ByteArray)),(CorpusSample.mk (⟨#[110,111,116,32,40,110,111,116,32,116,114,117,101,41]⟩:ByteArray) (⟨#[116,114,117,101]⟩:ByteArray) (⟨#[66,111,111,108]⟩:ByteArray)),(CorpusSample.mk (⟨#[97,112,112,101,110,100,32,78,97,116,32,40,99,111,110,115,32,78,97,116,32,122,101,114,111,32,40,110,105,108,32,78,97,116,41,41,32,40,99,111,110,115,32,78,97,116,32,116,119,111,32,40,110,105,108,32,78,97,116,41,41]⟩:ByteArray) (⟨#[99,111,110,115,32,78,97,116,32,122,101,114,111,32,40,99,111,110,115,32,78,97,116,32,40,115,117,99,32,40,115,117,99,32,122,101,114,111,41,41,32,40,110,105,108,32,78,97,116,41,41]⟩:ByteArray) (⟨#[76,105,115,116,32,78,97,116]⟩:ByteArray)),(CorpusSample.mk (⟨#[122,105,112,32,78,97,116,32,66,111,111,108,32,40,115,117,99,32,122,101,114,111,41,32,40,118,99,111,110,115,32,78,97,116,32,122,101,114,111,32,116,119,111,32,40,118,110,105,108,32,78,97,116,41,41,32,40,118,99,111,110,115,32,66,111,111,108,32,122,101,114,111,32,116,114,117,101,32,40,118,110,105,108,32,66,111,111,108,41,41]⟩:ByteArray) (⟨#[118,99,111,110,115,32,40,80,97,105,114,32,78,97,116,32,66,111,111,108,41,32,122,101,114,111,32,40,80,97,105,114,39,32,78,97,116,32,66,111,111,108,32,40,115,117,99,32,40,115,117,99,32,122,101,114,111,41,41,32,116,114,117,101,41,32,40,118,110,105,108,32,40,80,97,105,114,32,78,97,116,32,66,111,111,108,41,41]⟩:ByteArray) (⟨#[86,101,99,32,40,80,97,105,114,32,78,97,116,32,66,111,111,108,41,32,40,115,117,99,32,122,101,114,111,41]⟩:ByteArray))]
abbrev K11 (r:List CorpusSample) (C:Cf):Prop:=C 11 [] [] (.sl (flat corpusSampleL r) (List.length r) .no) [] 0
theorem q11:Qf 11 Tryz.f11:=⟨Tryz.func11,by kernel_rfl⟩
theorem k11{r}(h:K11 r Ci):K11 r Ct:=⟨h,tv,forall_nil,dCorpusSample _,forall_nil⟩
theorem c11{qq r}(h:e11 qq  = some r):K11 r Ct:=by
 unfold e11 at h
 obtain rfl:=sj h
 exact k11 (tF q11 1 [] (oD (dCorpusSample [(CorpusSample.mk (⟨#[112,108,117,115,32,116,119,111,32,116,119,111]⟩:ByteArray) (⟨#[115,117,99,32,40,115,117,99,32,40,115,117,99,32,40,115,117,99,32,122,101,114,111,41,41,41]⟩:ByteArray) (⟨#[78,97,116]⟩:ByteArray)),(CorpusSample.mk (⟨#[116,105,109,101,115,32,116,119,111,32,40,112,108,117,115,32,116,119,111,32,116,119,111,41]⟩:ByteArray) (⟨#[115,117,99,32,40,115,117,99,32,40,115,117,99,32,40,115,117,99,32,40,115,117,99,32,40,115,117,99,32,40,115,117,99,32,40,115,117,99,32,122,101,114,111,41,41,41,41,41,41,41]⟩:ByteArray) (⟨#[78,97,116]⟩:ByteArray)),(CorpusSample.mk (⟨#[97,99,107,32,116,119,111,32,116,119,111]⟩:ByteArray) (⟨#[115,117,99,32,40,115,117,99,32,40,115,117,99,32,40,115,117,99,32,40,115,117,99,32,40,115,117,99,32,40,115,117,99,32,122,101,114,111,41,41,41,41,41,41]⟩:ByteArray) (⟨#[78,97,116]⟩:ByteArray)),(CorpusSample.mk (⟨#[109,97,120,32,116,119,111,32,40,115,117,99,32,116,119,111,41]⟩:ByteArray) (⟨#[115,117,99,32,40,115,117,99,32,40,115,117,99,32,122,101,114,111,41,41]⟩:ByteArray) (⟨#[78,97,116]⟩:ByteArray)),(CorpusSample.mk (⟨#[115,117,109,32,40,109,97,112,32,78,97,116,32,78,97,116,32,115,117,99,32,40,99,111,110,115,32,78,97,116,32,122,101,114,111,32,40,99,111,110,115,32,78,97,116,32,116,119,111,32,40,110,105,108,32,78,97,116,41,41,41,41]⟩:ByteArray) (⟨#[115,117,99,32,40,115,117,99,32,40,115,117,99,32,40,115,117,99,32,122,101,114,111,41,41,41]⟩:ByteArray) (⟨#[78,97,116]⟩:ByteArray)),(CorpusSample.mk (⟨#[104,101,97,100,32,78,97,116,32,122,101,114,111,32,40,118,99,111,110,115,32,78,97,116,32,122,101,114,111,32,116,119,111,32,40,118,110,105,108,32,78,97,116,41,41]⟩:ByteArray) (⟨#[115,117,99,32,40,115,117,99,32,122,101,114,111,41]⟩:ByteArray) (⟨#[78,97,116]⟩:ByteArray)),(CorpusSample.mk (⟨#[116,97,105,108,32,78,97,116,32,122,101,114,111,32,40,118,99,111,110,115,32,78,97,116,32,122,101,114,111,32,116,119,111,32,40,118,110,105,108,32,78,97,116,41,41]⟩:ByteArray) (⟨#[118,110,105,108,32,78,97,116]⟩:ByteArray) (⟨#[86,101,99,32,78,97,116,32,122,101,114,111]⟩:ByteArray)),(CorpusSample.mk (⟨#[102,115,116,32,78,97,116,32,66,111,111,108,32,40,115,119,97,112,32,66,111,111,108,32,78,97,116,32,40,80,97,105,114,39,32,66,111,111,108,32,78,97,116,32,116,114,117,101,32,116,119,111,41,41]⟩:ByteArray) (⟨#[115,117,99,32,40,115,117,99,32,122,101,114,111,41]⟩:ByteArray) (⟨#[78,97,116]⟩:ByteArray)),(CorpusSample.mk (⟨#[108,111,111,107,117,112,32,78,97,116,32,116,119,111,32,40,102,115,32,40,115,117,99,32,122,101,114,111,41,32,40,102,122,32,122,101,114,111,41,41,32,40,118,99,111,110,115,32,78,97,116,32,40,115,117,99,32,122,101,114,111,41,32,122,101,114,111,32,40,118,99,111,110,115,32,78,97,116,32,122,101,114,111,32,116,119,111,32,40,118,110,105,108,32,78,97,116,41,41,41]⟩:ByteArray) (⟨#[115,117,99,32,40,115,117,99,32,122,101,114,111,41]⟩:ByteArray) (⟨#[78,97,116]⟩:ByteArray)),(CorpusSample.mk (⟨#[108,101,84,114,97,110,115,32,122,101,114,111,32,122,101,114,111,32,122,101,114,111,32,40,108,101,82,101,102,108,32,122,101,114,111,41,32,40,108,101,82,101,102,108,32,122,101,114,111,41]⟩:ByteArray) (⟨#[108,122,32,122,101,114,111]⟩:ByteArray) (⟨#[76,101,32,122,101,114,111,32,122,101,114,111]⟩:ByteArray)),(CorpusSample.mk (⟨#[108,101,84,114,97,110,115,32,116,119,111,32,116,119,111,32,116,119,111,32,40,108,101,82,101,102,108,32,116,119,111,41,32,40,108,101,82,101,102,108,32,116,119,111,41]⟩:ByteArray) (⟨#[108,115,32,40,115,117,99,32,122,101,114,111,41,32,40,115,117,99,32,122,101,114,111,41,32,40,108,115,32,122,101,114,111,32,122,101,114,111,32,40,108,122,32,122,101,114,111,41,41]⟩:ByteArray) (⟨#[76,101,32,40,115,117,99,32,40,115,117,99,32,122,101,114,111,41,41,32,40,115,117,99,32,40,115,117,99,32,122,101,114,111,41,41]⟩:ByteArray)),(CorpusSample.mk (⟨#[112,108,117,115,90,101,114,111,32,116,119,111]⟩:ByteArray) (⟨#[114,101,102,108,32,78,97,116,32,40,115,117,99,32,40,115,117,99,32,122,101,114,111,41,41]⟩:ByteArray) (⟨#[69,113,32,78,97,116,32,40,115,117,99,32,40,115,117,99,32,122,101,114,111,41,41,32,40,115,117,99,32,40,115,117,99,32,122,101,114,111,41,41]⟩:ByteArray)),(CorpusSample.mk (⟨#[110,111,116,32,40,110,111,116,32,116,114,117,101,41]⟩:ByteArray) (⟨#[116,114,117,101]⟩:ByteArray) (⟨#[66,111,111,108]⟩:ByteArray)),(CorpusSample.mk (⟨#[97,112,112,101,110,100,32,78,97,116,32,40,99,111,110,115,32,78,97,116,32,122,101,114,111,32,40,110,105,108,32,78,97,116,41,41,32,40,99,111,110,115,32,78,97,116,32,116,119,111,32,40,110,105,108,32,78,97,116,41,41]⟩:ByteArray) (⟨#[99,111,110,115,32,78,97,116,32,122,101,114,111,32,40,99,111,110,115,32,78,97,116,32,40,115,117,99,32,40,115,117,99,32,122,101,114,111,41,41,32,40,110,105,108,32,78,97,116,41,41]⟩:ByteArray) (⟨#[76,105,115,116,32,78,97,116]⟩:ByteArray)),(CorpusSample.mk (⟨#[122,105,112,32,78,97,116,32,66,111,111,108,32,40,115,117,99,32,122,101,114,111,41,32,40,118,99,111,110,115,32,78,97,116,32,122,101,114,111,32,116,119,111,32,40,118,110,105,108,32,78,97,116,41,41,32,40,118,99,111,110,115,32,66,111,111,108,32,122,101,114,111,32,116,114,117,101,32,40,118,110,105,108,32,66,111,111,108,41,41]⟩:ByteArray) (⟨#[118,99,111,110,115,32,40,80,97,105,114,32,78,97,116,32,66,111,111,108,41,32,122,101,114,111,32,40,80,97,105,114,39,32,78,97,116,32,66,111,111,108,32,40,115,117,99,32,40,115,117,99,32,122,101,114,111,41,41,32,116,114,117,101,41,32,40,118,110,105,108,32,40,80,97,105,114,32,78,97,116,32,66,111,111,108,41,41]⟩:ByteArray) (⟨#[86,101,99,32,40,80,97,105,114,32,78,97,116,32,66,111,111,108,41,32,40,115,117,99,32,122,101,114,111,41]⟩:ByteArray))]) o0))
def e12(qq:Nat)  : Option (List CorpusRefusal):=
 some [(CorpusRefusal.mk (⟨#[100,101,102,32,107,32,58,32,40,65,32,58,32,83,101,116,41,32,45,62,32,40,120,32,58,32,65,41,32,45,62,32,40,80,32,58,32,69,113,32,65,32,120,32,120,32,45,62,32,83,101,116,41,32,45,62,32,80,32,40,114,101,102,108,32,65,32,120,41,32,45,62,32,40,101,32,58,32,69,113,32,65,32,120,32,120,41,32,45,62,32,80,32,101,32,123,32,65,32,120,32,80,32,112,32,114,101,102,108,32,61,32,112,59,32,125]⟩:ByteArray) (⟨#[100,101,108,101,116,105,111,110]⟩:ByteArray)),(CorpusRefusal.mk (⟨#[100,101,102,32,102,32,58,32,78,97,116,32,45,62,32,78,97,116,32,123,32,110,32,61,32,102,32,110,59,32,125]⟩:ByteArray) (⟨#[101,110,100,115]⟩:ByteArray)),(CorpusRefusal.mk (⟨#[100,101,102,32,102,32,58,32,78,97,116,32,45,62,32,78,97,116,32,123,32,122,101,114,111,32,61,32,122,101,114,111,59,32,125]⟩:ByteArray) (⟨#[99,111,118,101,114]⟩:ByteArray)),(CorpusRefusal.mk (⟨#[100,101,102,32,102,32,58,32,78,97,116,32,45,62,32,78,97,116,32,123,32,110,32,61,32,110,59,32,122,101,114,111,32,61,32,122,101,114,111,59,32,125]⟩:ByteArray) (⟨#[114,101,97,99,104]⟩:ByteArray)),(CorpusRefusal.mk (⟨#[100,97,116,97,32,68,32,58,32,83,101,116,32,123,32,99,32,58,32,40,68,32,45,62,32,78,97,116,41,32,45,62,32,68,59,32,125]⟩:ByteArray) (⟨#[112,111,115,105,116,105,118,101]⟩:ByteArray)),(CorpusRefusal.mk (⟨#[100,97,116,97,32,68,32,58,32,83,101,116,32,123,32,99,32,58,32,83,101,116,32,45,62,32,68,59,32,125]⟩:ByteArray) (⟨#[108,101,118,101,108]⟩:ByteArray)),(CorpusRefusal.mk (⟨#[100,101,102,32,102,32,58,32,78,97,116,32,45,62,32,66,111,111,108,32,123,32,110,32,61,32,110,59,32,125]⟩:ByteArray) (⟨#[116,121,112,101]⟩:ByteArray)),(CorpusRefusal.mk (⟨#[100,101,102,32,102,32,58,32,78,97,116,32,45,62,32,78,97,116,32,123,32,110,32,61,32,109,59,32,125]⟩:ByteArray) (⟨#[115,99,111,112,101]⟩:ByteArray)),(CorpusRefusal.mk (⟨#[100,101,102,32,112,108,117,115,32,58,32,78,97,116,32,123,32,61,32,122,101,114,111,59,32,125]⟩:ByteArray) (⟨#[116,119,105,99,101]⟩:ByteArray)),(CorpusRefusal.mk (⟨#[100,101,102,32,102,32,58,32,40,110,32,58,32,78,97,116,41,32,45,62,32,86,101,99,32,78,97,116,32,40,112,108,117,115,32,110,32,110,41,32,45,62,32,78,97,116,32,123,32,110,32,118,110,105,108,32,61,32,122,101,114,111,59,32,110,32,40,118,99,111,110,115,32,107,32,120,32,120,115,41,32,61,32,120,59,32,125]⟩:ByteArray) (⟨#[115,116,117,99,107]⟩:ByteArray)),(CorpusRefusal.mk (⟨#[100,101,102,32,102,32,58,32,40,78,97,116,32,45,62,32,78,97,116,41,32,45,62,32,78,97,116,32,123,32,122,101,114,111,32,61,32,122,101,114,111,59,32,125]⟩:ByteArray) (⟨#[112,97,116,116,101,114,110]⟩:ByteArray))]
abbrev K12 (r:List CorpusRefusal) (C:Cf):Prop:=C 12 [] [] (.sl (flat corpusRefusalL r) (List.length r) .no) [] 0
theorem q12:Qf 12 Tryz.f12:=⟨Tryz.func12,by kernel_rfl⟩
theorem k12{r}(h:K12 r Ci):K12 r Ct:=⟨h,tv,forall_nil,dCorpusRefusal _,forall_nil⟩
theorem c12{qq r}(h:e12 qq  = some r):K12 r Ct:=by
 unfold e12 at h
 obtain rfl:=sj h
 exact k12 (tF q12 1 [] (oD (dCorpusRefusal [(CorpusRefusal.mk (⟨#[100,101,102,32,107,32,58,32,40,65,32,58,32,83,101,116,41,32,45,62,32,40,120,32,58,32,65,41,32,45,62,32,40,80,32,58,32,69,113,32,65,32,120,32,120,32,45,62,32,83,101,116,41,32,45,62,32,80,32,40,114,101,102,108,32,65,32,120,41,32,45,62,32,40,101,32,58,32,69,113,32,65,32,120,32,120,41,32,45,62,32,80,32,101,32,123,32,65,32,120,32,80,32,112,32,114,101,102,108,32,61,32,112,59,32,125]⟩:ByteArray) (⟨#[100,101,108,101,116,105,111,110]⟩:ByteArray)),(CorpusRefusal.mk (⟨#[100,101,102,32,102,32,58,32,78,97,116,32,45,62,32,78,97,116,32,123,32,110,32,61,32,102,32,110,59,32,125]⟩:ByteArray) (⟨#[101,110,100,115]⟩:ByteArray)),(CorpusRefusal.mk (⟨#[100,101,102,32,102,32,58,32,78,97,116,32,45,62,32,78,97,116,32,123,32,122,101,114,111,32,61,32,122,101,114,111,59,32,125]⟩:ByteArray) (⟨#[99,111,118,101,114]⟩:ByteArray)),(CorpusRefusal.mk (⟨#[100,101,102,32,102,32,58,32,78,97,116,32,45,62,32,78,97,116,32,123,32,110,32,61,32,110,59,32,122,101,114,111,32,61,32,122,101,114,111,59,32,125]⟩:ByteArray) (⟨#[114,101,97,99,104]⟩:ByteArray)),(CorpusRefusal.mk (⟨#[100,97,116,97,32,68,32,58,32,83,101,116,32,123,32,99,32,58,32,40,68,32,45,62,32,78,97,116,41,32,45,62,32,68,59,32,125]⟩:ByteArray) (⟨#[112,111,115,105,116,105,118,101]⟩:ByteArray)),(CorpusRefusal.mk (⟨#[100,97,116,97,32,68,32,58,32,83,101,116,32,123,32,99,32,58,32,83,101,116,32,45,62,32,68,59,32,125]⟩:ByteArray) (⟨#[108,101,118,101,108]⟩:ByteArray)),(CorpusRefusal.mk (⟨#[100,101,102,32,102,32,58,32,78,97,116,32,45,62,32,66,111,111,108,32,123,32,110,32,61,32,110,59,32,125]⟩:ByteArray) (⟨#[116,121,112,101]⟩:ByteArray)),(CorpusRefusal.mk (⟨#[100,101,102,32,102,32,58,32,78,97,116,32,45,62,32,78,97,116,32,123,32,110,32,61,32,109,59,32,125]⟩:ByteArray) (⟨#[115,99,111,112,101]⟩:ByteArray)),(CorpusRefusal.mk (⟨#[100,101,102,32,112,108,117,115,32,58,32,78,97,116,32,123,32,61,32,122,101,114,111,59,32,125]⟩:ByteArray) (⟨#[116,119,105,99,101]⟩:ByteArray)),(CorpusRefusal.mk (⟨#[100,101,102,32,102,32,58,32,40,110,32,58,32,78,97,116,41,32,45,62,32,86,101,99,32,78,97,116,32,40,112,108,117,115,32,110,32,110,41,32,45,62,32,78,97,116,32,123,32,110,32,118,110,105,108,32,61,32,122,101,114,111,59,32,110,32,40,118,99,111,110,115,32,107,32,120,32,120,115,41,32,61,32,120,59,32,125]⟩:ByteArray) (⟨#[115,116,117,99,107]⟩:ByteArray)),(CorpusRefusal.mk (⟨#[100,101,102,32,102,32,58,32,40,78,97,116,32,45,62,32,78,97,116,41,32,45,62,32,78,97,116,32,123,32,122,101,114,111,32,61,32,122,101,114,111,59,32,125]⟩:ByteArray) (⟨#[112,97,116,116,101,114,110]⟩:ByteArray))]) o0))
def e13(qq:Nat)  : Option (List A3ByteArray):=
 some [(A3ByteArray.mk (⟨#[112,108,117,115,32,116,119,111,32,116,119,111]⟩:ByteArray) (⟨#[115,117,99,32,40,115,117,99,32,40,115,117,99,32,40,115,117,99,32,122,101,114,111,41,41,41]⟩:ByteArray) (⟨#[78,97,116]⟩:ByteArray)),(A3ByteArray.mk (⟨#[116,105,109,101,115,32,116,119,111,32,40,112,108,117,115,32,116,119,111,32,116,119,111,41]⟩:ByteArray) (⟨#[115,117,99,32,40,115,117,99,32,40,115,117,99,32,40,115,117,99,32,40,115,117,99,32,40,115,117,99,32,40,115,117,99,32,40,115,117,99,32,122,101,114,111,41,41,41,41,41,41,41]⟩:ByteArray) (⟨#[78,97,116]⟩:ByteArray)),(A3ByteArray.mk (⟨#[97,99,107,32,116,119,111,32,116,119,111]⟩:ByteArray) (⟨#[115,117,99,32,40,115,117,99,32,40,115,117,99,32,40,115,117,99,32,40,115,117,99,32,40,115,117,99,32,40,115,117,99,32,122,101,114,111,41,41,41,41,41,41]⟩:ByteArray) (⟨#[78,97,116]⟩:ByteArray)),(A3ByteArray.mk (⟨#[109,97,120,32,116,119,111,32,40,115,117,99,32,116,119,111,41]⟩:ByteArray) (⟨#[115,117,99,32,40,115,117,99,32,40,115,117,99,32,122,101,114,111,41,41]⟩:ByteArray) (⟨#[78,97,116]⟩:ByteArray)),(A3ByteArray.mk (⟨#[115,117,109,32,40,109,97,112,32,78,97,116,32,78,97,116,32,115,117,99,32,40,99,111,110,115,32,78,97,116,32,122,101,114,111,32,40,99,111,110,115,32,78,97,116,32,116,119,111,32,40,110,105,108,32,78,97,116,41,41,41,41]⟩:ByteArray) (⟨#[115,117,99,32,40,115,117,99,32,40,115,117,99,32,40,115,117,99,32,122,101,114,111,41,41,41]⟩:ByteArray) (⟨#[78,97,116]⟩:ByteArray)),(A3ByteArray.mk (⟨#[104,101,97,100,32,78,97,116,32,122,101,114,111,32,40,118,99,111,110,115,32,78,97,116,32,122,101,114,111,32,116,119,111,32,40,118,110,105,108,32,78,97,116,41,41]⟩:ByteArray) (⟨#[115,117,99,32,40,115,117,99,32,122,101,114,111,41]⟩:ByteArray) (⟨#[78,97,116]⟩:ByteArray)),(A3ByteArray.mk (⟨#[116,97,105,108,32,78,97,116,32,122,101,114,111,32,40,118,99,111,110,115,32,78,97,116,32,122,101,114,111,32,116,119,111,32,40,118,110,105,108,32,78,97,116,41,41]⟩:ByteArray) (⟨#[118,110,105,108,32,78,97,116]⟩:ByteArray) (⟨#[86,101,99,32,78,97,116,32,122,101,114,111]⟩:ByteArray)),(A3ByteArray.mk (⟨#[102,115,116,32,78,97,116,32,66,111,111,108,32,40,115,119,97,112,32,66,111,111,108,32,78,97,116,32,40,80,97,105,114,39,32,66,111,111,108,32,78,97,116,32,116,114,117,101,32,116,119,111,41,41]⟩:ByteArray) (⟨#[115,117,99,32,40,115,117,99,32,122,101,114,111,41]⟩:ByteArray) (⟨#[78,97,116]⟩:ByteArray)),(A3ByteArray.mk (⟨#[108,111,111,107,117,112,32,78,97,116,32,116,119,111,32,40,102,115,32,40,115,117,99,32,122,101,114,111,41,32,40,102,122,32,122,101,114,111,41,41,32,40,118,99,111,110,115,32,78,97,116,32,40,115,117,99,32,122,101,114,111,41,32,122,101,114,111,32,40,118,99,111,110,115,32,78,97,116,32,122,101,114,111,32,116,119,111,32,40,118,110,105,108,32,78,97,116,41,41,41]⟩:ByteArray) (⟨#[115,117,99,32,40,115,117,99,32,122,101,114,111,41]⟩:ByteArray) (⟨#[78,97,116]⟩:ByteArray)),(A3ByteArray.mk (⟨#[108,101,84,114,97,110,115,32,122,101,114,111,32,122,101,114,111,32,122,101,114,111,32,40,108,101,82,101,102,108,32,122,101,114,111,41,32,40,108,101,82,101,102,108,32,122,101,114,111,41]⟩:ByteArray) (⟨#[108,122,32,122,101,114,111]⟩:ByteArray) (⟨#[76,101,32,122,101,114,111,32,122,101,114,111]⟩:ByteArray)),(A3ByteArray.mk (⟨#[108,101,84,114,97,110,115,32,116,119,111,32,116,119,111,32,116,119,111,32,40,108,101,82,101,102,108,32,116,119,111,41,32,40,108,101,82,101,102,108,32,116,119,111,41]⟩:ByteArray) (⟨#[108,115,32,40,115,117,99,32,122,101,114,111,41,32,40,115,117,99,32,122,101,114,111,41,32,40,108,115,32,122,101,114,111,32,122,101,114,111,32,40,108,122,32,122,101,114,111,41,41]⟩:ByteArray) (⟨#[76,101,32,40,115,117,99,32,40,115,117,99,32,122,101,114,111,41,41,32,40,115,117,99,32,40,115,117,99,32,122,101,114,111,41,41]⟩:ByteArray)),(A3ByteArray.mk (⟨#[112,108,117,115,90,101,114,111,32,116,119,111]⟩:ByteArray) (⟨#[114,101,102,108,32,78,97,116,32,40,115,117,99,32,40,115,117,99,32,122,101,114,111,41,41]⟩:ByteArray) (⟨#[69,113,32,78,97,116,32,40,115,117,99,32,40,115,117,99,32,122,101,114,111,41,41,32,40,115,117,99,32,40,115,117,99,32,122,101,114,111,41,41]⟩:ByteArray)),(A3ByteArray.mk (⟨#[110,111,116,32,40,110,111,116,32,116,114,117,101,41]⟩:ByteArray) (⟨#[116,114,117,101]⟩:ByteArray) (⟨#[66,111,111,108]⟩:ByteArray)),(A3ByteArray.mk (⟨#[97,112,112,101,110,100,32,78,97,116,32,40,99,111,110,115,32,78,97,116,32,122,101,114,111,32,40,110,105,108,32,78,97,116,41,41,32,40,99,111,110,115,32,78,97,116,32,116,119,111,32,40,110,105,108,32,78,97,116,41,41]⟩:ByteArray) (⟨#[99,111,110,115,32,78,97,116,32,122,101,114,111,32,40,99,111,110,115,32,78,97,116,32,40,115,117,99,32,40,115,117,99,32,122,101,114,111,41,41,32,40,110,105,108,32,78,97,116,41,41]⟩:ByteArray) (⟨#[76,105,115,116,32,78,97,116]⟩:ByteArray)),(A3ByteArray.mk (⟨#[122,105,112,32,78,97,116,32,66,111,111,108,32,40,115,117,99,32,122,101,114,111,41,32,40,118,99,111,110,115,32,78,97,116,32,122,101,114,111,32,116,119,111,32,40,118,110,105,108,32,78,97,116,41,41,32,40,118,99,111,110,115,32,66,111,111,108,32,122,101,114,111,32,116,114,117,101,32,40,118,110,105,108,32,66,111,111,108,41,41]⟩:ByteArray) (⟨#[118,99,111,110,115,32,40,80,97,105,114,32,78,97,116,32,66,111,111,108,41,32,122,101,114,111,32,40,80,97,105,114,39,32,78,97,116,32,66,111,111,108,32,40,115,117,99,32,40,115,117,99,32,122,101,114,111,41,41,32,116,114,117,101,41,32,40,118,110,105,108,32,40,80,97,105,114,32,78,97,116,32,66,111,111,108,41,41]⟩:ByteArray) (⟨#[86,101,99,32,40,80,97,105,114,32,78,97,116,32,66,111,111,108,41,32,40,115,117,99,32,122,101,114,111,41]⟩:ByteArray))]
abbrev K13 (r:List A3ByteArray) (C:Cf):Prop:=C 13 [] [] (.sl (flat a3ByteArrayL r) (List.length r) .no) [] 0
theorem q13:Qf 13 Tryz.f13:=⟨Tryz.func13,by kernel_rfl⟩
theorem k13{r}(h:K13 r Ci):K13 r Ct:=⟨h,tv,forall_nil,dA3ByteArray _,forall_nil⟩
theorem c13{qq r}(h:e13 qq  = some r):K13 r Ct:=by
 unfold e13 at h
 obtain rfl:=sj h
 exact k13 (tF q13 1 [] (oD (dA3ByteArray [(A3ByteArray.mk (⟨#[112,108,117,115,32,116,119,111,32,116,119,111]⟩:ByteArray) (⟨#[115,117,99,32,40,115,117,99,32,40,115,117,99,32,40,115,117,99,32,122,101,114,111,41,41,41]⟩:ByteArray) (⟨#[78,97,116]⟩:ByteArray)),(A3ByteArray.mk (⟨#[116,105,109,101,115,32,116,119,111,32,40,112,108,117,115,32,116,119,111,32,116,119,111,41]⟩:ByteArray) (⟨#[115,117,99,32,40,115,117,99,32,40,115,117,99,32,40,115,117,99,32,40,115,117,99,32,40,115,117,99,32,40,115,117,99,32,40,115,117,99,32,122,101,114,111,41,41,41,41,41,41,41]⟩:ByteArray) (⟨#[78,97,116]⟩:ByteArray)),(A3ByteArray.mk (⟨#[97,99,107,32,116,119,111,32,116,119,111]⟩:ByteArray) (⟨#[115,117,99,32,40,115,117,99,32,40,115,117,99,32,40,115,117,99,32,40,115,117,99,32,40,115,117,99,32,40,115,117,99,32,122,101,114,111,41,41,41,41,41,41]⟩:ByteArray) (⟨#[78,97,116]⟩:ByteArray)),(A3ByteArray.mk (⟨#[109,97,120,32,116,119,111,32,40,115,117,99,32,116,119,111,41]⟩:ByteArray) (⟨#[115,117,99,32,40,115,117,99,32,40,115,117,99,32,122,101,114,111,41,41]⟩:ByteArray) (⟨#[78,97,116]⟩:ByteArray)),(A3ByteArray.mk (⟨#[115,117,109,32,40,109,97,112,32,78,97,116,32,78,97,116,32,115,117,99,32,40,99,111,110,115,32,78,97,116,32,122,101,114,111,32,40,99,111,110,115,32,78,97,116,32,116,119,111,32,40,110,105,108,32,78,97,116,41,41,41,41]⟩:ByteArray) (⟨#[115,117,99,32,40,115,117,99,32,40,115,117,99,32,40,115,117,99,32,122,101,114,111,41,41,41]⟩:ByteArray) (⟨#[78,97,116]⟩:ByteArray)),(A3ByteArray.mk (⟨#[104,101,97,100,32,78,97,116,32,122,101,114,111,32,40,118,99,111,110,115,32,78,97,116,32,122,101,114,111,32,116,119,111,32,40,118,110,105,108,32,78,97,116,41,41]⟩:ByteArray) (⟨#[115,117,99,32,40,115,117,99,32,122,101,114,111,41]⟩:ByteArray) (⟨#[78,97,116]⟩:ByteArray)),(A3ByteArray.mk (⟨#[116,97,105,108,32,78,97,116,32,122,101,114,111,32,40,118,99,111,110,115,32,78,97,116,32,122,101,114,111,32,116,119,111,32,40,118,110,105,108,32,78,97,116,41,41]⟩:ByteArray) (⟨#[118,110,105,108,32,78,97,116]⟩:ByteArray) (⟨#[86,101,99,32,78,97,116,32,122,101,114,111]⟩:ByteArray)),(A3ByteArray.mk (⟨#[102,115,116,32,78,97,116,32,66,111,111,108,32,40,115,119,97,112,32,66,111,111,108,32,78,97,116,32,40,80,97,105,114,39,32,66,111,111,108,32,78,97,116,32,116,114,117,101,32,116,119,111,41,41]⟩:ByteArray) (⟨#[115,117,99,32,40,115,117,99,32,122,101,114,111,41]⟩:ByteArray) (⟨#[78,97,116]⟩:ByteArray)),(A3ByteArray.mk (⟨#[108,111,111,107,117,112,32,78,97,116,32,116,119,111,32,40,102,115,32,40,115,117,99,32,122,101,114,111,41,32,40,102,122,32,122,101,114,111,41,41,32,40,118,99,111,110,115,32,78,97,116,32,40,115,117,99,32,122,101,114,111,41,32,122,101,114,111,32,40,118,99,111,110,115,32,78,97,116,32,122,101,114,111,32,116,119,111,32,40,118,110,105,108,32,78,97,116,41,41,41]⟩:ByteArray) (⟨#[115,117,99,32,40,115,117,99,32,122,101,114,111,41]⟩:ByteArray) (⟨#[78,97,116]⟩:ByteArray)),(A3ByteArray.mk (⟨#[108,101,84,114,97,110,115,32,122,101,114,111,32,122,101,114,111,32,122,101,114,111,32,40,108,101,82,101,102,108,32,122,101,114,111,41,32,40,108,101,82,101,102,108,32,122,101,114,111,41]⟩:ByteArray) (⟨#[108,122,32,122,101,114,111]⟩:ByteArray) (⟨#[76,101,32,122,101,114,111,32,122,101,114,111]⟩:ByteArray)),(A3ByteArray.mk (⟨#[108,101,84,114,97,110,115,32,116,119,111,32,116,119,111,32,116,119,111,32,40,108,101,82,101,102,108,32,116,119,111,41,32,40,108,101,82,101,102,108,32,116,119,111,41]⟩:ByteArray) (⟨#[108,115,32,40,115,117,99,32,122,101,114,111,41,32,40,115,117,99,32,122,101,114,111,41,32,40,108,115,32,122,101,114,111,32,122,101,114,111,32,40,108,122,32,122,101,114,111,41,41]⟩:ByteArray) (⟨#[76,101,32,40,115,117,99,32,40,115,117,99,32,122,101,114,111,41,41,32,40,115,117,99,32,40,115,117,99,32,122,101,114,111,41,41]⟩:ByteArray)),(A3ByteArray.mk (⟨#[112,108,117,115,90,101,114,111,32,116,119,111]⟩:ByteArray) (⟨#[114,101,102,108,32,78,97,116,32,40,115,117,99,32,40,115,117,99,32,122,101,114,111,41,41]⟩:ByteArray) (⟨#[69,113,32,78,97,116,32,40,115,117,99,32,40,115,117,99,32,122,101,114,111,41,41,32,40,115,117,99,32,40,115,117,99,32,122,101,114,111,41,41]⟩:ByteArray)),(A3ByteArray.mk (⟨#[110,111,116,32,40,110,111,116,32,116,114,117,101,41]⟩:ByteArray) (⟨#[116,114,117,101]⟩:ByteArray) (⟨#[66,111,111,108]⟩:ByteArray)),(A3ByteArray.mk (⟨#[97,112,112,101,110,100,32,78,97,116,32,40,99,111,110,115,32,78,97,116,32,122,101,114,111,32,40,110,105,108,32,78,97,116,41,41,32,40,99,111,110,115,32,78,97,116,32,116,119,111,32,40,110,105,108,32,78,97,116,41,41]⟩:ByteArray) (⟨#[99,111,110,115,32,78,97,116,32,122,101,114,111,32,40,99,111,110,115,32,78,97,116,32,40,115,117,99,32,40,115,117,99,32,122,101,114,111,41,41,32,40,110,105,108,32,78,97,116,41,41]⟩:ByteArray) (⟨#[76,105,115,116,32,78,97,116]⟩:ByteArray)),(A3ByteArray.mk (⟨#[122,105,112,32,78,97,116,32,66,111,111,108,32,40,115,117,99,32,122,101,114,111,41,32,40,118,99,111,110,115,32,78,97,116,32,122,101,114,111,32,116,119,111,32,40,118,110,105,108,32,78,97,116,41,41,32,40,118,99,111,110,115,32,66,111,111,108,32,122,101,114,111,32,116,114,117,101,32,40,118,110,105,108,32,66,111,111,108,41,41]⟩:ByteArray) (⟨#[118,99,111,110,115,32,40,80,97,105,114,32,78,97,116,32,66,111,111,108,41,32,122,101,114,111,32,40,80,97,105,114,39,32,78,97,116,32,66,111,111,108,32,40,115,117,99,32,40,115,117,99,32,122,101,114,111,41,41,32,116,114,117,101,41,32,40,118,110,105,108,32,40,80,97,105,114,32,78,97,116,32,66,111,111,108,41,41]⟩:ByteArray) (⟨#[86,101,99,32,40,80,97,105,114,32,78,97,116,32,66,111,111,108,41,32,40,115,117,99,32,122,101,114,111,41]⟩:ByteArray))]) o0))
def e14(qq:Nat)  : Option (List A2ByteArray):=
 some [(A2ByteArray.mk (⟨#[100,101,102,32,107,32,58,32,40,65,32,58,32,83,101,116,41,32,45,62,32,40,120,32,58,32,65,41,32,45,62,32,40,80,32,58,32,69,113,32,65,32,120,32,120,32,45,62,32,83,101,116,41,32,45,62,32,80,32,40,114,101,102,108,32,65,32,120,41,32,45,62,32,40,101,32,58,32,69,113,32,65,32,120,32,120,41,32,45,62,32,80,32,101,32,123,32,65,32,120,32,80,32,112,32,114,101,102,108,32,61,32,112,59,32,125]⟩:ByteArray) (⟨#[100,101,108,101,116,105,111,110]⟩:ByteArray)),(A2ByteArray.mk (⟨#[100,101,102,32,102,32,58,32,78,97,116,32,45,62,32,78,97,116,32,123,32,110,32,61,32,102,32,110,59,32,125]⟩:ByteArray) (⟨#[101,110,100,115]⟩:ByteArray)),(A2ByteArray.mk (⟨#[100,101,102,32,102,32,58,32,78,97,116,32,45,62,32,78,97,116,32,123,32,122,101,114,111,32,61,32,122,101,114,111,59,32,125]⟩:ByteArray) (⟨#[99,111,118,101,114]⟩:ByteArray)),(A2ByteArray.mk (⟨#[100,101,102,32,102,32,58,32,78,97,116,32,45,62,32,78,97,116,32,123,32,110,32,61,32,110,59,32,122,101,114,111,32,61,32,122,101,114,111,59,32,125]⟩:ByteArray) (⟨#[114,101,97,99,104]⟩:ByteArray)),(A2ByteArray.mk (⟨#[100,97,116,97,32,68,32,58,32,83,101,116,32,123,32,99,32,58,32,40,68,32,45,62,32,78,97,116,41,32,45,62,32,68,59,32,125]⟩:ByteArray) (⟨#[112,111,115,105,116,105,118,101]⟩:ByteArray)),(A2ByteArray.mk (⟨#[100,97,116,97,32,68,32,58,32,83,101,116,32,123,32,99,32,58,32,83,101,116,32,45,62,32,68,59,32,125]⟩:ByteArray) (⟨#[108,101,118,101,108]⟩:ByteArray)),(A2ByteArray.mk (⟨#[100,101,102,32,102,32,58,32,78,97,116,32,45,62,32,66,111,111,108,32,123,32,110,32,61,32,110,59,32,125]⟩:ByteArray) (⟨#[116,121,112,101]⟩:ByteArray)),(A2ByteArray.mk (⟨#[100,101,102,32,102,32,58,32,78,97,116,32,45,62,32,78,97,116,32,123,32,110,32,61,32,109,59,32,125]⟩:ByteArray) (⟨#[115,99,111,112,101]⟩:ByteArray)),(A2ByteArray.mk (⟨#[100,101,102,32,112,108,117,115,32,58,32,78,97,116,32,123,32,61,32,122,101,114,111,59,32,125]⟩:ByteArray) (⟨#[116,119,105,99,101]⟩:ByteArray)),(A2ByteArray.mk (⟨#[100,101,102,32,102,32,58,32,40,110,32,58,32,78,97,116,41,32,45,62,32,86,101,99,32,78,97,116,32,40,112,108,117,115,32,110,32,110,41,32,45,62,32,78,97,116,32,123,32,110,32,118,110,105,108,32,61,32,122,101,114,111,59,32,110,32,40,118,99,111,110,115,32,107,32,120,32,120,115,41,32,61,32,120,59,32,125]⟩:ByteArray) (⟨#[115,116,117,99,107]⟩:ByteArray)),(A2ByteArray.mk (⟨#[100,101,102,32,102,32,58,32,40,78,97,116,32,45,62,32,78,97,116,41,32,45,62,32,78,97,116,32,123,32,122,101,114,111,32,61,32,122,101,114,111,59,32,125]⟩:ByteArray) (⟨#[112,97,116,116,101,114,110]⟩:ByteArray))]
abbrev K14 (r:List A2ByteArray) (C:Cf):Prop:=C 14 [] [] (.sl (flat a2ByteArrayL r) (List.length r) .no) [] 0
theorem q14:Qf 14 Tryz.f14:=⟨Tryz.func14,by kernel_rfl⟩
theorem k14{r}(h:K14 r Ci):K14 r Ct:=⟨h,tv,forall_nil,dA2ByteArray _,forall_nil⟩
theorem c14{qq r}(h:e14 qq  = some r):K14 r Ct:=by
 unfold e14 at h
 obtain rfl:=sj h
 exact k14 (tF q14 1 [] (oD (dA2ByteArray [(A2ByteArray.mk (⟨#[100,101,102,32,107,32,58,32,40,65,32,58,32,83,101,116,41,32,45,62,32,40,120,32,58,32,65,41,32,45,62,32,40,80,32,58,32,69,113,32,65,32,120,32,120,32,45,62,32,83,101,116,41,32,45,62,32,80,32,40,114,101,102,108,32,65,32,120,41,32,45,62,32,40,101,32,58,32,69,113,32,65,32,120,32,120,41,32,45,62,32,80,32,101,32,123,32,65,32,120,32,80,32,112,32,114,101,102,108,32,61,32,112,59,32,125]⟩:ByteArray) (⟨#[100,101,108,101,116,105,111,110]⟩:ByteArray)),(A2ByteArray.mk (⟨#[100,101,102,32,102,32,58,32,78,97,116,32,45,62,32,78,97,116,32,123,32,110,32,61,32,102,32,110,59,32,125]⟩:ByteArray) (⟨#[101,110,100,115]⟩:ByteArray)),(A2ByteArray.mk (⟨#[100,101,102,32,102,32,58,32,78,97,116,32,45,62,32,78,97,116,32,123,32,122,101,114,111,32,61,32,122,101,114,111,59,32,125]⟩:ByteArray) (⟨#[99,111,118,101,114]⟩:ByteArray)),(A2ByteArray.mk (⟨#[100,101,102,32,102,32,58,32,78,97,116,32,45,62,32,78,97,116,32,123,32,110,32,61,32,110,59,32,122,101,114,111,32,61,32,122,101,114,111,59,32,125]⟩:ByteArray) (⟨#[114,101,97,99,104]⟩:ByteArray)),(A2ByteArray.mk (⟨#[100,97,116,97,32,68,32,58,32,83,101,116,32,123,32,99,32,58,32,40,68,32,45,62,32,78,97,116,41,32,45,62,32,68,59,32,125]⟩:ByteArray) (⟨#[112,111,115,105,116,105,118,101]⟩:ByteArray)),(A2ByteArray.mk (⟨#[100,97,116,97,32,68,32,58,32,83,101,116,32,123,32,99,32,58,32,83,101,116,32,45,62,32,68,59,32,125]⟩:ByteArray) (⟨#[108,101,118,101,108]⟩:ByteArray)),(A2ByteArray.mk (⟨#[100,101,102,32,102,32,58,32,78,97,116,32,45,62,32,66,111,111,108,32,123,32,110,32,61,32,110,59,32,125]⟩:ByteArray) (⟨#[116,121,112,101]⟩:ByteArray)),(A2ByteArray.mk (⟨#[100,101,102,32,102,32,58,32,78,97,116,32,45,62,32,78,97,116,32,123,32,110,32,61,32,109,59,32,125]⟩:ByteArray) (⟨#[115,99,111,112,101]⟩:ByteArray)),(A2ByteArray.mk (⟨#[100,101,102,32,112,108,117,115,32,58,32,78,97,116,32,123,32,61,32,122,101,114,111,59,32,125]⟩:ByteArray) (⟨#[116,119,105,99,101]⟩:ByteArray)),(A2ByteArray.mk (⟨#[100,101,102,32,102,32,58,32,40,110,32,58,32,78,97,116,41,32,45,62,32,86,101,99,32,78,97,116,32,40,112,108,117,115,32,110,32,110,41,32,45,62,32,78,97,116,32,123,32,110,32,118,110,105,108,32,61,32,122,101,114,111,59,32,110,32,40,118,99,111,110,115,32,107,32,120,32,120,115,41,32,61,32,120,59,32,125]⟩:ByteArray) (⟨#[115,116,117,99,107]⟩:ByteArray)),(A2ByteArray.mk (⟨#[100,101,102,32,102,32,58,32,40,78,97,116,32,45,62,32,78,97,116,41,32,45,62,32,78,97,116,32,123,32,122,101,114,111,32,61,32,122,101,114,111,59,32,125]⟩:ByteArray) (⟨#[112,97,116,116,101,114,110]⟩:ByteArray))]) o0))
def e15(qq:Nat)  : Option (ByteArray):=
 some (⟨#[100,97,116,97,32,78,97,116,32,58,32,83,101,116,32,123,32,122,101,114,111,32,58,32,78,97,116,59,32,115,117,99,32,58,32,78,97,116,32,45,62,32,78,97,116,59,32,125,10,100,97,116,97,32,66,111,111,108,32,58,32,83,101,116,32,123,32,116,114,117,101,32,58,32,66,111,111,108,59,32,102,97,108,115,101,32,58,32,66,111,111,108,59,32,125,10,100,97,116,97,32,66,111,116,32,58,32,83,101,116,32,123,32,125,10,100,97,116,97,32,76,105,115,116,32,40,65,32,58,32,83,101,116,41,32,58,32,83,101,116,32,123,32,110,105,108,32,58,32,76,105,115,116,32,65,59,32,99,111,110,115,32,58,32,65,32,45,62,32,76,105,115,116,32,65,32,45,62,32,76,105,115,116,32,65,59,32,125,10,100,97,116,97,32,86,101,99,32,40,65,32,58,32,83,101,116,41,32,58,32,78,97,116,32,45,62,32,83,101,116,32,123,32,118,110,105,108,32,58,32,86,101,99,32,65,32,122,101,114,111,59,32,118,99,111,110,115,32,58,32,40,110,32,58,32,78,97,116,41,32,45,62,32,65,32,45,62,32,86,101,99,32,65,32,110,32,45,62,32,86,101,99,32,65,32,40,115,117,99,32,110,41,59,32,125,10,100,97,116,97,32,70,105,110,32,58,32,78,97,116,32,45,62,32,83,101,116,32,123,32,102,122,32,58,32,40,110,32,58,32,78,97,116,41,32,45,62,32,70,105,110,32,40,115,117,99,32,110,41,59,32,102,115,32,58,32,40,110,32,58,32,78,97,116,41,32,45,62,32,70,105,110,32,110,32,45,62,32,70,105,110,32,40,115,117,99,32,110,41,59,32,125,10,100,97,116,97,32,76,101,32,58,32,78,97,116,32,45,62,32,78,97,116,32,45,62,32,83,101,116,32,123,32,108,122,32,58,32,40,110,32,58,32,78,97,116,41,32,45,62,32,76,101,32,122,101,114,111,32,110,59,32,108,115,32,58,32,40,109,32,58,32,78,97,116,41,32,45,62,32,40,110,32,58,32,78,97,116,41,32,45,62,32,76,101,32,109,32,110,32,45,62,32,76,101,32,40,115,117,99,32,109,41,32,40,115,117,99,32,110,41,59,32,125,10,100,97,116,97,32,69,113,32,40,65,32,58,32,83,101,116,41,32,40,120,32,58,32,65,41,32,58,32,65,32,45,62,32,83,101,116,32,123,32,114,101,102,108,32,58,32,69,113,32,65,32,120,32,120,59,32,125,10,114,101,99,111,114,100,32,80,97,105,114,32,40,65,32,58,32,83,101,116,41,32,40,66,32,58,32,83,101,116,41,32,58,32,83,101,116,32,123,32,102,115,116,32,58,32,65,59,32,115,110,100,32,58,32,66,59,32,125,10,100,101,102,32,110,111,116,32,58,32,66,111,111,108,32,45,62,32,66,111,111,108,32,123,32,116,114,117,101,32,61,32,102,97,108,115,101,59,32,102,97,108,115,101,32,61,32,116,114,117,101,59,32,125,10,100,101,102,32,112,108,117,115,32,58,32,78,97,116,32,45,62,32,78,97,116,32,45,62,32,78,97,116,32,123,32,122,101,114,111,32,110,32,61,32,110,59,32,40,115,117,99,32,109,41,32,110,32,61,32,115,117,99,32,40,112,108,117,115,32,109,32,110,41,59,32,125,10,100,101,102,32,116,105,109,101,115,32,58,32,78,97,116,32,45,62,32,78,97,116,32,45,62,32,78,97,116,32,123,32,122,101,114,111,32,110,32,61,32,122,101,114,111,59,32,40,115,117,99,32,109,41,32,110,32,61,32,112,108,117,115,32,110,32,40,116,105,109,101,115,32,109,32,110,41,59,32,125,10,100,101,102,32,97,99,107,32,58,32,78,97,116,32,45,62,32,78,97,116,32,45,62,32,78,97,116,32,123,32,122,101,114,111,32,110,32,61,32,115,117,99,32,110,59,32,40,115,117,99,32,109,41,32,122,101,114,111,32,61,32,97,99,107,32,109,32,40,115,117,99,32,122,101,114,111,41,59,32,40,115,117,99,32,109,41,32,40,115,117,99,32,110,41,32,61,32,97,99,107,32,109,32,40,97,99,107,32,40,115,117,99,32,109,41,32,110,41,59,32,125,10,100,101,102,32,109,97,120,32,58,32,78,97,116,32,45,62,32,78,97,116,32,45,62,32,78,97,116,32,123,32,122,101,114,111,32,110,32,61,32,110,59,32,40,115,117,99,32,109,41,32,122,101,114,111,32,61,32,115,117,99,32,109,59,32,40,115,117,99,32,109,41,32,40,115,117,99,32,110,41,32,61,32,115,117,99,32,40,109,97,120,32,109,32,110,41,59,32,125,10,100,101,102,32,109,97,112,32,58,32,40,65,32,58,32,83,101,116,41,32,45,62,32,40,66,32,58,32,83,101,116,41,32,45,62,32,40,65,32,45,62,32,66,41,32,45,62,32,76,105,115,116,32,65,32,45,62,32,76,105,115,116,32,66,32,123,32,65,32,66,32,102,32,110,105,108,32,61,32,110,105,108,32,66,59,32,65,32,66,32,102,32,40,99,111,110,115,32,120,32,120,115,41,32,61,32,99,111,110,115,32,66,32,40,102,32,120,41,32,40,109,97,112,32,65,32,66,32,102,32,120,115,41,59,32,125,10,100,101,102,32,97,112,112,101,110,100,32,58,32,40,65,32,58,32,83,101,116,41,32,45,62,32,76,105,115,116,32,65,32,45,62,32,76,105,115,116,32,65,32,45,62,32,76,105,115,116,32,65,32,123,32,65,32,110,105,108,32,121,115,32,61,32,121,115,59,32,65,32,40,99,111,110,115,32,120,32,120,115,41,32,121,115,32,61,32,99,111,110,115,32,65,32,120,32,40,97,112,112,101,110,100,32,65,32,120,115,32,121,115,41,59,32,125,10,100,101,102,32,115,117,109,32,58,32,76,105,115,116,32,78,97,116,32,45,62,32,78,97,116,32,123,32,110,105,108,32,61,32,122,101,114,111,59,32,40,99,111,110,115,32,120,32,120,115,41,32,61,32,112,108,117,115,32,120,32,40,115,117,109,32,120,115,41,59,32,125,10,100,101,102,32,104,101,97,100,32,58,32,40,65,32,58,32,83,101,116,41,32,45,62,32,40,110,32,58,32,78,97,116,41,32,45,62,32,86,101,99,32,65,32,40,115,117,99,32,110,41,32,45,62,32,65,32,123,32,65,32,110,32,40,118,99,111,110,115,32,46,110,32,120,32,120,115,41,32,61,32,120,59,32,125,10,100,101,102,32,116,97,105,108,32,58,32,40,65,32,58,32,83,101,116,41,32,45,62,32,40,110,32,58,32,78,97,116,41,32,45,62,32,86,101,99,32,65,32,40,115,117,99,32,110,41,32,45,62,32,86,101,99,32,65,32,110,32,123,32,65,32,46,107,32,40,118,99,111,110,115,32,107,32,120,32,120,115,41,32,61,32,120,115,59,32,125,10,100,101,102,32,122,105,112,32,58,32,40,65,32,58,32,83,101,116,41,32,45,62,32,40,66,32,58,32,83,101,116,41,32,45,62,32,40,110,32,58,32,78,97,116,41,32,45,62,32,86,101,99,32,65,32,110,32,45,62,32,86,101,99,32,66,32,110,32,45,62,32,86,101,99,32,40,80,97,105,114,32,65,32,66,41,32,110,32,123,32,65,32,66,32,46,122,101,114,111,32,118,110,105,108,32,118,110,105,108,32,61,32,118,110,105,108,32,40,80,97,105,114,32,65,32,66,41,59,32,65,32,66,32,46,40,115,117,99,32,107,41,32,40,118,99,111,110,115,32,107,32,120,32,120,115,41,32,40,118,99,111,110,115,32,95,32,121,32,121,115,41,32,61,32,118,99,111,110,115,32,40,80,97,105,114,32,65,32,66,41,32,107,32,40,80,97,105,114,39,32,65,32,66,32,120,32,121,41,32,40,122,105,112,32,65,32,66,32,107,32,120,115,32,121,115,41,59,32,125,10,100,101,102,32,108,111,111,107,117,112,32,58,32,40,65,32,58,32,83,101,116,41,32,45,62,32,40,110,32,58,32,78,97,116,41,32,45,62,32,70,105,110,32,110,32,45,62,32,86,101,99,32,65,32,110,32,45,62,32,65,32,123,32,65,32,46,40,115,117,99,32,107,41,32,40,102,122,32,107,41,32,40,118,99,111,110,115,32,95,32,120,32,120,115,41,32,61,32,120,59,32,65,32,46,40,115,117,99,32,107,41,32,40,102,115,32,107,32,105,41,32,40,118,99,111,110,115,32,95,32,120,32,120,115,41,32,61,32,108,111,111,107,117,112,32,65,32,107,32,105,32,120,115,59,32,125,10,100,101,102,32,108,101,84,114,97,110,115,32,58,32,40,97,32,58,32,78,97,116,41,32,45,62,32,40,98,32,58,32,78,97,116,41,32,45,62,32,40,99,32,58,32,78,97,116,41,32,45,62,32,76,101,32,97,32,98,32,45,62,32,76,101,32,98,32,99,32,45,62,32,76,101,32,97,32,99,32,123,32,46,122,101,114,111,32,98,32,99,32,40,108,122,32,95,41,32,113,32,61,32,108,122,32,99,59,32,46,40,115,117,99,32,109,41,32,46,40,115,117,99,32,110,41,32,46,40,115,117,99,32,107,41,32,40,108,115,32,109,32,110,32,112,41,32,40,108,115,32,95,32,107,32,113,41,32,61,32,108,115,32,109,32,107,32,40,108,101,84,114,97,110,115,32,109,32,110,32,107,32,112,32,113,41,59,32,125,10,100,101,102,32,108,101,82,101,102,108,32,58,32,40,110,32,58,32,78,97,116,41,32,45,62,32,76,101,32,110,32,110,32,123,32,122,101,114,111,32,61,32,108,122,32,122,101,114,111,59,32,40,115,117,99,32,110,41,32,61,32,108,115,32,110,32,110,32,40,108,101,82,101,102,108,32,110,41,59,32,125,10,100,101,102,32,115,121,109,32,58,32,40,65,32,58,32,83,101,116,41,32,45,62,32,40,120,32,58,32,65,41,32,45,62,32,40,121,32,58,32,65,41,32,45,62,32,69,113,32,65,32,120,32,121,32,45,62,32,69,113,32,65,32,121,32,120,32,123,32,65,32,120,32,46,120,32,114,101,102,108,32,61,32,114,101,102,108,32,65,32,120,59,32,125,10,100,101,102,32,116,114,97,110,115,32,58,32,40,65,32,58,32,83,101,116,41,32,45,62,32,40,120,32,58,32,65,41,32,45,62,32,40,121,32,58,32,65,41,32,45,62,32,40,122,32,58,32,65,41,32,45,62,32,69,113,32,65,32,120,32,121,32,45,62,32,69,113,32,65,32,121,32,122,32,45,62,32,69,113,32,65,32,120,32,122,32,123,32,65,32,120,32,46,120,32,46,120,32,114,101,102,108,32,114,101,102,108,32,61,32,114,101,102,108,32,65,32,120,59,32,125,10,100,101,102,32,99,111,110,103,32,58,32,40,65,32,58,32,83,101,116,41,32,45,62,32,40,66,32,58,32,83,101,116,41,32,45,62,32,40,102,32,58,32,65,32,45,62,32,66,41,32,45,62,32,40,120,32,58,32,65,41,32,45,62,32,40,121,32,58,32,65,41,32,45,62,32,69,113,32,65,32,120,32,121,32,45,62,32,69,113,32,66,32,40,102,32,120,41,32,40,102,32,121,41,32,123,32,65,32,66,32,102,32,120,32,46,120,32,114,101,102,108,32,61,32,114,101,102,108,32,66,32,40,102,32,120,41,59,32,125,10,100,101,102,32,112,108,117,115,90,101,114,111,32,58,32,40,110,32,58,32,78,97,116,41,32,45,62,32,69,113,32,78,97,116,32,40,112,108,117,115,32,110,32,122,101,114,111,41,32,110,32,123,32,122,101,114,111,32,61,32,114,101,102,108,32,78,97,116,32,122,101,114,111,59,32,40,115,117,99,32,110,41,32,61,32,99,111,110,103,32,78,97,116,32,78,97,116,32,115,117,99,32,40,112,108,117,115,32,110,32,122,101,114,111,41,32,110,32,40,112,108,117,115,90,101,114,111,32,110,41,59,32,125,10,100,101,102,32,112,108,117,115,83,117,99,32,58,32,40,109,32,58,32,78,97,116,41,32,45,62,32,40,110,32,58,32,78,97,116,41,32,45,62,32,69,113,32,78,97,116,32,40,112,108,117,115,32,109,32,40,115,117,99,32,110,41,41,32,40,115,117,99,32,40,112,108,117,115,32,109,32,110,41,41,32,123,32,122,101,114,111,32,110,32,61,32,114,101,102,108,32,78,97,116,32,40,115,117,99,32,110,41,59,32,40,115,117,99,32,109,41,32,110,32,61,32,99,111,110,103,32,78,97,116,32,78,97,116,32,115,117,99,32,40,112,108,117,115,32,109,32,40,115,117,99,32,110,41,41,32,40,115,117,99,32,40,112,108,117,115,32,109,32,110,41,41,32,40,112,108,117,115,83,117,99,32,109,32,110,41,59,32,125,10,100,101,102,32,97,98,115,117,114,100,32,58,32,40,65,32,58,32,83,101,116,41,32,45,62,32,66,111,116,32,45,62,32,65,32,123,32,65,32,40,41,59,32,125,10,100,101,102,32,110,111,70,105,110,32,58,32,70,105,110,32,122,101,114,111,32,45,62,32,66,111,116,32,123,32,40,41,59,32,125,10,100,101,102,32,116,119,111,32,58,32,78,97,116,32,123,32,61,32,115,117,99,32,40,115,117,99,32,122,101,114,111,41,59,32,125,10,100,101,102,32,115,119,97,112,32,58,32,40,65,32,58,32,83,101,116,41,32,45,62,32,40,66,32,58,32,83,101,116,41,32,45,62,32,80,97,105,114,32,65,32,66,32,45,62,32,80,97,105,114,32,66,32,65,32,123,32,65,32,66,32,40,80,97,105,114,39,32,120,32,121,41,32,61,32,80,97,105,114,39,32,66,32,65,32,121,32,120,59,32,125,10]⟩:ByteArray)
abbrev K15 (r:ByteArray) (C:Cf):Prop:=C 15 [] [] (at' r) [] 0
theorem q15:Qf 15 Tryz.f15:=⟨Tryz.func15,by kernel_rfl⟩
theorem k15{r}(h:K15 r Ci):K15 r Ct:=⟨h,tv,forall_nil,tv,forall_nil⟩
theorem c15{qq r}(h:e15 qq  = some r):K15 r Ct:=by
 unfold e15 at h
 obtain rfl:=sj h
 exact k15 (tF q15 0 [] (o0))
def e16(qq:Nat)  : Option (ByteArray):=
 some (⟨#[100,97,116,97,32,78,97,116,32,58,32,83,101,116,32,123,32,122,101,114,111,32,58,32,78,97,116,59,32,115,117,99,32,58,32,78,97,116,32,45,62,32,78,97,116,59,32,125,10,100,97,116,97,32,66,111,111,108,32,58,32,83,101,116,32,123,32,116,114,117,101,32,58,32,66,111,111,108,59,32,102,97,108,115,101,32,58,32,66,111,111,108,59,32,125,10,100,97,116,97,32,66,111,116,32,58,32,83,101,116,32,123,32,125,10,100,97,116,97,32,76,105,115,116,32,40,65,32,58,32,83,101,116,41,32,58,32,83,101,116,32,123,32,110,105,108,32,58,32,76,105,115,116,32,65,59,32,99,111,110,115,32,58,32,65,32,45,62,32,76,105,115,116,32,65,32,45,62,32,76,105,115,116,32,65,59,32,125,10,100,97,116,97,32,86,101,99,32,40,65,32,58,32,83,101,116,41,32,58,32,78,97,116,32,45,62,32,83,101,116,32,123,32,118,110,105,108,32,58,32,86,101,99,32,65,32,122,101,114,111,59,32,118,99,111,110,115,32,58,32,40,110,32,58,32,78,97,116,41,32,45,62,32,65,32,45,62,32,86,101,99,32,65,32,110,32,45,62,32,86,101,99,32,65,32,40,115,117,99,32,110,41,59,32,125,10,100,97,116,97,32,70,105,110,32,58,32,78,97,116,32,45,62,32,83,101,116,32,123,32,102,122,32,58,32,40,110,32,58,32,78,97,116,41,32,45,62,32,70,105,110,32,40,115,117,99,32,110,41,59,32,102,115,32,58,32,40,110,32,58,32,78,97,116,41,32,45,62,32,70,105,110,32,110,32,45,62,32,70,105,110,32,40,115,117,99,32,110,41,59,32,125,10,100,97,116,97,32,76,101,32,58,32,78,97,116,32,45,62,32,78,97,116,32,45,62,32,83,101,116,32,123,32,108,122,32,58,32,40,110,32,58,32,78,97,116,41,32,45,62,32,76,101,32,122,101,114,111,32,110,59,32,108,115,32,58,32,40,109,32,58,32,78,97,116,41,32,45,62,32,40,110,32,58,32,78,97,116,41,32,45,62,32,76,101,32,109,32,110,32,45,62,32,76,101,32,40,115,117,99,32,109,41,32,40,115,117,99,32,110,41,59,32,125,10,100,97,116,97,32,69,113,32,40,65,32,58,32,83,101,116,41,32,40,120,32,58,32,65,41,32,58,32,65,32,45,62,32,83,101,116,32,123,32,114,101,102,108,32,58,32,69,113,32,65,32,120,32,120,59,32,125,10,114,101,99,111,114,100,32,80,97,105,114,32,40,65,32,58,32,83,101,116,41,32,40,66,32,58,32,83,101,116,41,32,58,32,83,101,116,32,123,32,102,115,116,32,58,32,65,59,32,115,110,100,32,58,32,66,59,32,125,10,100,101,102,32,110,111,116,32,58,32,66,111,111,108,32,45,62,32,66,111,111,108,32,123,32,116,114,117,101,32,61,32,102,97,108,115,101,59,32,102,97,108,115,101,32,61,32,116,114,117,101,59,32,125,10,100,101,102,32,112,108,117,115,32,58,32,78,97,116,32,45,62,32,78,97,116,32,45,62,32,78,97,116,32,123,32,122,101,114,111,32,110,32,61,32,110,59,32,40,115,117,99,32,109,41,32,110,32,61,32,115,117,99,32,40,112,108,117,115,32,109,32,110,41,59,32,125,10,100,101,102,32,116,105,109,101,115,32,58,32,78,97,116,32,45,62,32,78,97,116,32,45,62,32,78,97,116,32,123,32,122,101,114,111,32,110,32,61,32,122,101,114,111,59,32,40,115,117,99,32,109,41,32,110,32,61,32,112,108,117,115,32,110,32,40,116,105,109,101,115,32,109,32,110,41,59,32,125,10,100,101,102,32,97,99,107,32,58,32,78,97,116,32,45,62,32,78,97,116,32,45,62,32,78,97,116,32,123,32,122,101,114,111,32,110,32,61,32,115,117,99,32,110,59,32,40,115,117,99,32,109,41,32,122,101,114,111,32,61,32,97,99,107,32,109,32,40,115,117,99,32,122,101,114,111,41,59,32,40,115,117,99,32,109,41,32,40,115,117,99,32,110,41,32,61,32,97,99,107,32,109,32,40,97,99,107,32,40,115,117,99,32,109,41,32,110,41,59,32,125,10,100,101,102,32,109,97,120,32,58,32,78,97,116,32,45,62,32,78,97,116,32,45,62,32,78,97,116,32,123,32,122,101,114,111,32,110,32,61,32,110,59,32,40,115,117,99,32,109,41,32,122,101,114,111,32,61,32,115,117,99,32,109,59,32,40,115,117,99,32,109,41,32,40,115,117,99,32,110,41,32,61,32,115,117,99,32,40,109,97,120,32,109,32,110,41,59,32,125,10,100,101,102,32,109,97,112,32,58,32,40,65,32,58,32,83,101,116,41,32,45,62,32,40,66,32,58,32,83,101,116,41,32,45,62,32,40,65,32,45,62,32,66,41,32,45,62,32,76,105,115,116,32,65,32,45,62,32,76,105,115,116,32,66,32,123,32,65,32,66,32,102,32,110,105,108,32,61,32,110,105,108,32,66,59,32,65,32,66,32,102,32,40,99,111,110,115,32,120,32,120,115,41,32,61,32,99,111,110,115,32,66,32,40,102,32,120,41,32,40,109,97,112,32,65,32,66,32,102,32,120,115,41,59,32,125,10,100,101,102,32,97,112,112,101,110,100,32,58,32,40,65,32,58,32,83,101,116,41,32,45,62,32,76,105,115,116,32,65,32,45,62,32,76,105,115,116,32,65,32,45,62,32,76,105,115,116,32,65,32,123,32,65,32,110,105,108,32,121,115,32,61,32,121,115,59,32,65,32,40,99,111,110,115,32,120,32,120,115,41,32,121,115,32,61,32,99,111,110,115,32,65,32,120,32,40,97,112,112,101,110,100,32,65,32,120,115,32,121,115,41,59,32,125,10,100,101,102,32,115,117,109,32,58,32,76,105,115,116,32,78,97,116,32,45,62,32,78,97,116,32,123,32,110,105,108,32,61,32,122,101,114,111,59,32,40,99,111,110,115,32,120,32,120,115,41,32,61,32,112,108,117,115,32,120,32,40,115,117,109,32,120,115,41,59,32,125,10,100,101,102,32,104,101,97,100,32,58,32,40,65,32,58,32,83,101,116,41,32,45,62,32,40,110,32,58,32,78,97,116,41,32,45,62,32,86,101,99,32,65,32,40,115,117,99,32,110,41,32,45,62,32,65,32,123,32,65,32,110,32,40,118,99,111,110,115,32,46,110,32,120,32,120,115,41,32,61,32,120,59,32,125,10,100,101,102,32,116,97,105,108,32,58,32,40,65,32,58,32,83,101,116,41,32,45,62,32,40,110,32,58,32,78,97,116,41,32,45,62,32,86,101,99,32,65,32,40,115,117,99,32,110,41,32,45,62,32,86,101,99,32,65,32,110,32,123,32,65,32,46,107,32,40,118,99,111,110,115,32,107,32,120,32,120,115,41,32,61,32,120,115,59,32,125,10,100,101,102,32,122,105,112,32,58,32,40,65,32,58,32,83,101,116,41,32,45,62,32,40,66,32,58,32,83,101,116,41,32,45,62,32,40,110,32,58,32,78,97,116,41,32,45,62,32,86,101,99,32,65,32,110,32,45,62,32,86,101,99,32,66,32,110,32,45,62,32,86,101,99,32,40,80,97,105,114,32,65,32,66,41,32,110,32,123,32,65,32,66,32,46,122,101,114,111,32,118,110,105,108,32,118,110,105,108,32,61,32,118,110,105,108,32,40,80,97,105,114,32,65,32,66,41,59,32,65,32,66,32,46,40,115,117,99,32,107,41,32,40,118,99,111,110,115,32,107,32,120,32,120,115,41,32,40,118,99,111,110,115,32,95,32,121,32,121,115,41,32,61,32,118,99,111,110,115,32,40,80,97,105,114,32,65,32,66,41,32,107,32,40,80,97,105,114,39,32,65,32,66,32,120,32,121,41,32,40,122,105,112,32,65,32,66,32,107,32,120,115,32,121,115,41,59,32,125,10,100,101,102,32,108,111,111,107,117,112,32,58,32,40,65,32,58,32,83,101,116,41,32,45,62,32,40,110,32,58,32,78,97,116,41,32,45,62,32,70,105,110,32,110,32,45,62,32,86,101,99,32,65,32,110,32,45,62,32,65,32,123,32,65,32,46,40,115,117,99,32,107,41,32,40,102,122,32,107,41,32,40,118,99,111,110,115,32,95,32,120,32,120,115,41,32,61,32,120,59,32,65,32,46,40,115,117,99,32,107,41,32,40,102,115,32,107,32,105,41,32,40,118,99,111,110,115,32,95,32,120,32,120,115,41,32,61,32,108,111,111,107,117,112,32,65,32,107,32,105,32,120,115,59,32,125,10,100,101,102,32,108,101,84,114,97,110,115,32,58,32,40,97,32,58,32,78,97,116,41,32,45,62,32,40,98,32,58,32,78,97,116,41,32,45,62,32,40,99,32,58,32,78,97,116,41,32,45,62,32,76,101,32,97,32,98,32,45,62,32,76,101,32,98,32,99,32,45,62,32,76,101,32,97,32,99,32,123,32,46,122,101,114,111,32,98,32,99,32,40,108,122,32,95,41,32,113,32,61,32,108,122,32,99,59,32,46,40,115,117,99,32,109,41,32,46,40,115,117,99,32,110,41,32,46,40,115,117,99,32,107,41,32,40,108,115,32,109,32,110,32,112,41,32,40,108,115,32,95,32,107,32,113,41,32,61,32,108,115,32,109,32,107,32,40,108,101,84,114,97,110,115,32,109,32,110,32,107,32,112,32,113,41,59,32,125,10,100,101,102,32,108,101,82,101,102,108,32,58,32,40,110,32,58,32,78,97,116,41,32,45,62,32,76,101,32,110,32,110,32,123,32,122,101,114,111,32,61,32,108,122,32,122,101,114,111,59,32,40,115,117,99,32,110,41,32,61,32,108,115,32,110,32,110,32,40,108,101,82,101,102,108,32,110,41,59,32,125,10,100,101,102,32,115,121,109,32,58,32,40,65,32,58,32,83,101,116,41,32,45,62,32,40,120,32,58,32,65,41,32,45,62,32,40,121,32,58,32,65,41,32,45,62,32,69,113,32,65,32,120,32,121,32,45,62,32,69,113,32,65,32,121,32,120,32,123,32,65,32,120,32,46,120,32,114,101,102,108,32,61,32,114,101,102,108,32,65,32,120,59,32,125,10,100,101,102,32,116,114,97,110,115,32,58,32,40,65,32,58,32,83,101,116,41,32,45,62,32,40,120,32,58,32,65,41,32,45,62,32,40,121,32,58,32,65,41,32,45,62,32,40,122,32,58,32,65,41,32,45,62,32,69,113,32,65,32,120,32,121,32,45,62,32,69,113,32,65,32,121,32,122,32,45,62,32,69,113,32,65,32,120,32,122,32,123,32,65,32,120,32,46,120,32,46,120,32,114,101,102,108,32,114,101,102,108,32,61,32,114,101,102,108,32,65,32,120,59,32,125,10,100,101,102,32,99,111,110,103,32,58,32,40,65,32,58,32,83,101,116,41,32,45,62,32,40,66,32,58,32,83,101,116,41,32,45,62,32,40,102,32,58,32,65,32,45,62,32,66,41,32,45,62,32,40,120,32,58,32,65,41,32,45,62,32,40,121,32,58,32,65,41,32,45,62,32,69,113,32,65,32,120,32,121,32,45,62,32,69,113,32,66,32,40,102,32,120,41,32,40,102,32,121,41,32,123,32,65,32,66,32,102,32,120,32,46,120,32,114,101,102,108,32,61,32,114,101,102,108,32,66,32,40,102,32,120,41,59,32,125,10,100,101,102,32,112,108,117,115,90,101,114,111,32,58,32,40,110,32,58,32,78,97,116,41,32,45,62,32,69,113,32,78,97,116,32,40,112,108,117,115,32,110,32,122,101,114,111,41,32,110,32,123,32,122,101,114,111,32,61,32,114,101,102,108,32,78,97,116,32,122,101,114,111,59,32,40,115,117,99,32,110,41,32,61,32,99,111,110,103,32,78,97,116,32,78,97,116,32,115,117,99,32,40,112,108,117,115,32,110,32,122,101,114,111,41,32,110,32,40,112,108,117,115,90,101,114,111,32,110,41,59,32,125,10,100,101,102,32,112,108,117,115,83,117,99,32,58,32,40,109,32,58,32,78,97,116,41,32,45,62,32,40,110,32,58,32,78,97,116,41,32,45,62,32,69,113,32,78,97,116,32,40,112,108,117,115,32,109,32,40,115,117,99,32,110,41,41,32,40,115,117,99,32,40,112,108,117,115,32,109,32,110,41,41,32,123,32,122,101,114,111,32,110,32,61,32,114,101,102,108,32,78,97,116,32,40,115,117,99,32,110,41,59,32,40,115,117,99,32,109,41,32,110,32,61,32,99,111,110,103,32,78,97,116,32,78,97,116,32,115,117,99,32,40,112,108,117,115,32,109,32,40,115,117,99,32,110,41,41,32,40,115,117,99,32,40,112,108,117,115,32,109,32,110,41,41,32,40,112,108,117,115,83,117,99,32,109,32,110,41,59,32,125,10,100,101,102,32,97,98,115,117,114,100,32,58,32,40,65,32,58,32,83,101,116,41,32,45,62,32,66,111,116,32,45,62,32,65,32,123,32,65,32,40,41,59,32,125,10,100,101,102,32,110,111,70,105,110,32,58,32,70,105,110,32,122,101,114,111,32,45,62,32,66,111,116,32,123,32,40,41,59,32,125,10,100,101,102,32,116,119,111,32,58,32,78,97,116,32,123,32,61,32,115,117,99,32,40,115,117,99,32,122,101,114,111,41,59,32,125,10,100,101,102,32,115,119,97,112,32,58,32,40,65,32,58,32,83,101,116,41,32,45,62,32,40,66,32,58,32,83,101,116,41,32,45,62,32,80,97,105,114,32,65,32,66,32,45,62,32,80,97,105,114,32,66,32,65,32,123,32,65,32,66,32,40,80,97,105,114,39,32,120,32,121,41,32,61,32,80,97,105,114,39,32,66,32,65,32,121,32,120,59,32,125,10]⟩:ByteArray)
abbrev K16 (r:ByteArray) (C:Cf):Prop:=C 16 [] [] (at' r) [] 0
theorem q16:Qf 16 Tryz.f16:=⟨Tryz.func16,by kernel_rfl⟩
theorem k16{r}(h:K16 r Ci):K16 r Ct:=⟨h,tv,forall_nil,tv,forall_nil⟩
theorem c16{qq r}(h:e16 qq  = some r):K16 r Ct:=by
 unfold e16 at h
 obtain rfl:=sj h
 exact k16 (tF q16 0 [] (o0))
def e4(qq:Nat)(p0:Int):Option (Bool):=
 e11 qq>>=fun r1=>
 e12 qq>>=fun r3=>
 e13 qq>>=fun r5=>
 e14 qq>>=fun r7=>
 e15 qq>>=fun r9=>
 e16 qq>>=fun r11=>
 if !(r9.toList==r11.toList)then
 none
 else
 if (List.length r1:Int) != (List.length r5:Int)then
 none
 else
 if (List.length r3:Int) != (List.length r7:Int)then
 none
 else
 if decide (p0≥0)then
 if decide (p0<(List.length r1:Int))then
 gidx r1 p0>>=fun x18=>
 gidx r5 p0>>=fun x20=>
 if !(x18.expr_.toList==x20.a.toList)then
 none
 else
 if !(x18.value_.toList==x20.b.toList)then
 none
 else
 if !(x18.type_.toList==x20.c.toList)then
 none
 else
 if decide (p0<0)then
 none
 else
 if decide (p0≥(List.length r3:Int))then
 e10 qq>>=fun r29=>
 some r29
 else
 gidx r3 p0>>=fun x31=>
 gidx r7 p0>>=fun x33=>
 if x31.decl_.toList==x33.a.toList then
 if x31.word_.toList==x33.b.toList then
 e10 qq>>=fun r37=>
 some r37
 else
 none
 else
 none
 else
 if decide (p0<0)then
 none
 else
 if decide (p0≥(List.length r3:Int))then
 e10 qq>>=fun r43=>
 some r43
 else
 none
 else
 if decide (p0<0)then
 e10 qq>>=fun r54=>
 some r54
 else
 none
abbrev K4 (p0:Int) (r:Bool) (C:Cf):Prop:=C 4 [] [ai p0] (ab r) [] 0
theorem q4:Qf 4 Tryz.f4:=⟨Tryz.func4,by kernel_rfl⟩
theorem k4{p0 r}(h:K4 p0 r Ci):K4 p0 r Ct:=⟨h,⟨tv,tv⟩,forall_nil,tv,forall_nil⟩
theorem c4{qq p0 r}(h:e4 qq p0=some r):K4 p0 r Ct:=by
 unfold e4 at h
 obtain⟨r1,h2,h⟩:=obind h
 obtain⟨r3,h4,h⟩:=obind h
 obtain⟨r5,h6,h⟩:=obind h
 obtain⟨r7,h8,h⟩:=obind h
 obtain⟨r9,h10,h⟩:=obind h
 obtain⟨r11,h12,h⟩:=obind h
 have k:=oC 0 [] (c16 h12)<|oC 0 [] (c15 h10)<|oC 0 [] (c14 h8)<|oC 0 [] (c13 h6)<|oC 0 [] (c12 h4)<|oC 0 [] (c11 h2) o0
 obtain⟨h13,h⟩:=splF h
 have k:=oB 0 h13 k
 obtain⟨h14,h⟩:=splF h
 have k:=oB 2 h14 k
 obtain⟨h15,h⟩:=splF h
 have k:=oB 2 h15 k
 rcases spl h with⟨h16,h⟩|⟨h16,h⟩
 have k:=oB 0 h16 k
 rcases spl h with⟨h17,h⟩|⟨h17,h⟩
 obtain⟨x18,h19,h⟩:=obind h
 obtain⟨x20,h21,h⟩:=obind h
 have k:=oA 1 (ix41 (o:=.no) h21)<|oA 0 (ix37 (o:=.no) h19)<|oB 1 h17 k
 obtain⟨h22,h⟩:=splF h
 have k:=oA 1 (ix41 (o:=.no) h21)<|oA 0 (ix37 (o:=.no) h19)<|oB 2 h22 k
 obtain⟨h23,h⟩:=splF h
 have k:=oA 1 (ix41 (o:=.no) h21)<|oA 0 (ix37 (o:=.no) h19)<|oB 2 h23 k
 obtain⟨h24,h⟩:=splF h
 have k:=oB 2 h24 k
 obtain⟨h25,h⟩:=splF h
 have k:=oB 0 h25 k
 rcases spl h with⟨h28,h⟩|⟨h28,h⟩
 obtain⟨r29,h30,h⟩:=obind h
 obtain rfl:=sj h
 exact k4 (tF q4 0 [] (oC 0 [] (c10 h30)<|oB 1 h28 k))
 obtain⟨x31,h32,h⟩:=obind h
 obtain⟨x33,h34,h⟩:=obind h
 have k:=oA 1 (ix43 (o:=.no) h34)<|oA 0 (ix39 (o:=.no) h32)<|oB 1 h28 k
 obtain⟨h35,h⟩:=spT h
 have k:=oA 1 (ix43 (o:=.no) h34)<|oA 0 (ix39 (o:=.no) h32)<|oB 2 h35 k
 obtain⟨h36,h⟩:=spT h
 obtain⟨r37,h38,h⟩:=obind h
 obtain rfl:=sj h
 exact k4 (tF q4 0 [] (oC 0 [] (c10 h38)<|oB 2 h36 k))
 have k:=oB 1 h17 k
 obtain⟨h39,h⟩:=splF h
 have k:=oB 0 h39 k
 obtain⟨h42,h⟩:=spT h
 obtain⟨r43,h44,h⟩:=obind h
 obtain rfl:=sj h
 exact k4 (tF q4 0 [] (oC 0 [] (c10 h44)<|oB 1 h42 k))
 have k:=oB 0 h16 k
 obtain⟨h53,h⟩:=spT h
 obtain⟨r54,h55,h⟩:=obind h
 obtain rfl:=sj h
 exact k4 (tF q4 0 [] (oC 0 [] (c10 h55)<|oB 0 h53 k))
theorem aw4:e10 400=some true:=by kernel_rfl
def R11:=(e11 400).getD []
theorem t11:e11 400=some R11:=by kernel_rfl
def R12:=(e12 400).getD []
theorem t12:e12 400=some R12:=by kernel_rfl
def R13:=(e13 400).getD []
theorem t13:e13 400=some R13:=by kernel_rfl
def R14:=(e14 400).getD []
theorem t14:e14 400=some R14:=by kernel_rfl
def A4:ByteArray:=(e15 400).getD ByteArray.empty
theorem tA4:e15 400=some A4:=by kernel_rfl
theorem tB4:e16 400=some A4:=by kernel_rfl
theorem nA4:(!(A4.toList==A4.toList))=false:=by rw[beq_self_eq_true];rfl
def g4(p0:Int):Option (Bool):=
 if (List.length R11:Int) != (List.length R13:Int)then
 none
 else
 if (List.length R12:Int) != (List.length R14:Int)then
 none
 else
 if decide (p0≥0)then
 if decide (p0<(List.length R11:Int))then
 gidx R11 p0>>=fun x18=>
 gidx R13 p0>>=fun x20=>
 if !(x18.expr_.toList==x20.a.toList)then
 none
 else
 if !(x18.value_.toList==x20.b.toList)then
 none
 else
 if !(x18.type_.toList==x20.c.toList)then
 none
 else
 if decide (p0<0)then
 none
 else
 if decide (p0≥(List.length R12:Int))then
 (some true:Option Bool)>>=fun r29=>
 some r29
 else
 gidx R12 p0>>=fun x31=>
 gidx R14 p0>>=fun x33=>
 if x31.decl_.toList==x33.a.toList then
 if x31.word_.toList==x33.b.toList then
 (some true:Option Bool)>>=fun r37=>
 some r37
 else
 none
 else
 none
 else
 if decide (p0<0)then
 none
 else
 if decide (p0≥(List.length R12:Int))then
 (some true:Option Bool)>>=fun r43=>
 some r43
 else
 none
 else
 if decide (p0<0)then
 (some true:Option Bool)>>=fun r54=>
 some r54
 else
 none
theorem st4{p0:Int}(h:g4 p0=some true):e4 400 p0=some true:=by
 unfold e4
 refine obk t11 (obk t12 (obk t13 (obk t14 (obk tA4 (obk tB4 ?_)))))
 rw[ifFe nA4,aw4]
 exact h
def h4(c1 c2 c3 c4:Bool)(p0:Int):Option (Bool):=
 if (List.length R11:Int) != (List.length R13:Int)then
 none
 else
 if (List.length R12:Int) != (List.length R14:Int)then
 none
 else
 if c1 then
 if c2 then
 gidx R11 p0>>=fun x18=>
 gidx R13 p0>>=fun x20=>
 if !(x18.expr_.toList==x20.a.toList)then
 none
 else
 if !(x18.value_.toList==x20.b.toList)then
 none
 else
 if !(x18.type_.toList==x20.c.toList)then
 none
 else
 if c3 then
 none
 else
 if c4 then
 (some true:Option Bool)>>=fun r29=>
 some r29
 else
 gidx R12 p0>>=fun x31=>
 gidx R14 p0>>=fun x33=>
 if x31.decl_.toList==x33.a.toList then
 if x31.word_.toList==x33.b.toList then
 (some true:Option Bool)>>=fun r37=>
 some r37
 else
 none
 else
 none
 else
 if c3 then
 none
 else
 if c4 then
 (some true:Option Bool)>>=fun r43=>
 some r43
 else
 none
 else
 if c3 then
 (some true:Option Bool)>>=fun r54=>
 some r54
 else
 none
theorem gh4(p0:Int):g4 p0=h4 (decide (p0≥0)) (decide (p0<(List.length R11:Int))) (decide (p0<0)) (decide (p0≥(List.length R12:Int))) p0:=rfl
theorem l11:Nat.ble (List.length R11) 15=true:=by kernel_rfl
theorem l12:Nat.ble (List.length R12) 15=true:=by kernel_rfl
theorem hn4(c2 c4:Bool)(p0:Int):h4 false c2 true c4 p0=some true:=by kernel_rfl
theorem hm4(p0:Int):h4 true false false true p0=some true:=by kernel_rfl
theorem evC4n(k:Nat):g4 (.negSucc k)=some true:=by
 rw[gh4,decide_eq_false (p:=Int.negSucc k≥0) (by omega),decide_eq_true (p:=Int.negSucc k<0) (by omega)]
 exact hn4 _ _ _
theorem evC4m(k:Nat):g4 (.ofNat (k+15))=some true:=by
 have h1:=Nat.le_of_ble_eq_true l11
 have h2:=Nat.le_of_ble_eq_true l12
 rw[gh4,decide_eq_true (p:=Int.ofNat (k+15)≥0) (by rw[Int.ofNat_eq_natCast];omega),decide_eq_false (p:=Int.ofNat (k+15)<(List.length R11:Int)) (by rw[Int.ofNat_eq_natCast];omega),decide_eq_false (p:=Int.ofNat (k+15)<0) (by rw[Int.ofNat_eq_natCast];omega),decide_eq_true (p:=Int.ofNat (k+15)≥(List.length R12:Int)) (by rw[Int.ofNat_eq_natCast];omega)]
 exact hm4 _
theorem evC4_0:g4 (.ofNat 0)=some true:=by kernel_rfl
theorem evC4_1:g4 (.ofNat 1)=some true:=by kernel_rfl
theorem evC4_2:g4 (.ofNat 2)=some true:=by kernel_rfl
theorem evC4_3:g4 (.ofNat 3)=some true:=by kernel_rfl
theorem evC4_4:g4 (.ofNat 4)=some true:=by kernel_rfl
theorem evC4_5:g4 (.ofNat 5)=some true:=by kernel_rfl
theorem evC4_6:g4 (.ofNat 6)=some true:=by kernel_rfl
theorem evC4_7:g4 (.ofNat 7)=some true:=by kernel_rfl
theorem evC4_8:g4 (.ofNat 8)=some true:=by kernel_rfl
theorem evC4_9:g4 (.ofNat 9)=some true:=by kernel_rfl
theorem evC4_10:g4 (.ofNat 10)=some true:=by kernel_rfl
theorem evC4_11:g4 (.ofNat 11)=some true:=by kernel_rfl
theorem evC4_12:g4 (.ofNat 12)=some true:=by kernel_rfl
theorem evC4_13:g4 (.ofNat 13)=some true:=by kernel_rfl
theorem evC4_14:g4 (.ofNat 14)=some true:=by kernel_rfl
theorem evC4g:∀n:Int,g4 n=some true
 | .negSucc k=>evC4n k
 | .ofNat 0=>evC4_0
 | .ofNat 1=>evC4_1
 | .ofNat 2=>evC4_2
 | .ofNat 3=>evC4_3
 | .ofNat 4=>evC4_4
 | .ofNat 5=>evC4_5
 | .ofNat 6=>evC4_6
 | .ofNat 7=>evC4_7
 | .ofNat 8=>evC4_8
 | .ofNat 9=>evC4_9
 | .ofNat 10=>evC4_10
 | .ofNat 11=>evC4_11
 | .ofNat 12=>evC4_12
 | .ofNat 13=>evC4_13
 | .ofNat 14=>evC4_14
 | .ofNat (k+15)=>evC4m k
theorem evC4(n:Int):e4 400 n=some true:=st4 (evC4g n)
theorem corpusTexts_ct(x0:Int)(_w:(Lit.int .i64 x0).wf=true):CT Tryz.prog 4 [] [.val (.int .i64 x0)] (ab true) [] 0:=c4 (evC4 x0)
end Go.Proofs.YtcpbenbhnbjcoaaGreat
namespace Go.Ab
open Go Go.RowKit
def rdG(W:World):Gh:=⟨fun _=>none,fun _=>none,fun b o=>∃v,W.cell? ⟨b,o,none⟩=some v,W,fun b=>b<W.heap.size⟩
theorem rd_rel(W:World):RelS (rdG W) (over (Emp 0) (st0 [])) W:=by
 refine⟨fun _=>⟨fun _=>rfl,fun _=>rfl⟩,⟨0,fun _ _=>rfl⟩,fun _ _ _ h=>?_,fun _ _ _ h=>?_,fun _ _ h=>⟨h,fun i e=>by cases e⟩,fun _ _=>rfl,fun _ h=>?_,fun _ _ _ _ _ _ _ h=>?_,Keep.refl _ _,fun _ h=>h⟩
 ·cases h
 ·cases h
 ·cases h
 ·cases h
theorem rd_base(W:World):Base (0:Nat) (rdG W):=⟨fun _ _=>rfl,fun _=>rfl,fun _ _ ⟨_,h⟩=>World.block_lt_of_cell? W _ h,trivial⟩
end Go.Ab
