/- Parts of the proof that the law returns true: walks of the functions, plain laws. -/
import Derived.ChangeArms
import Derived.ChangeShapes
import Derived.IntWalk
import Derived.Test.YtedhamlfcienmaaGreatAbB4
set_option linter.unusedVariables false
set_option linter.unusedSimpArgs false
set_option linter.unusedSectionVars false
namespace Go.Proofs.YtedhamlfcienmaaGreat
open Go Go.Ab
def e22Ldt:Nat->Mach->(List Tm)->Int->Int->Int->Int->(List Tm)->(List Int)->(List Tm)->(List Ent)->Option (Int×Int×Int×Int)
 |0,_,_,_,_,_,_,_,_,_,_=>none
 |qq+1,M,p1,v24,v8,vb2_0,vb2_1,vb3_2,vb3_3,vb3_4,vb3_5=>
 if decide (v24<(List.length p1:Int))then
 gidx p1 v24>>=fun x5=>
 e39 qq M vb2_0 vb2_1 vb3_2 vb3_3 vb3_4 vb3_5 x5>>=fun r7=>
 if r7.2.1 != 0 then
 none
 else
 e40 qq M r7.2.2.1 r7.2.2.2 vb3_2 vb3_3 vb3_4 vb3_5 x5>>=fun r10=>
 e22Ldt qq M p1 (w64 (v24+1)) (imax v8 r7.1) r7.2.2.1 r7.2.2.2 r10.1 r10.2.1 r10.2.2.1 r10.2.2.2
 else
 some (v8,0,vb2_0,vb2_1)
def e22(qq:Nat)(M:Mach)(fl fu:Int)(p0_Context:List Tm)(p0_Names:List Int)(p0_Types p1:List Tm):Option (Int×Int×Int×Int):=
 e38 qq M fl fu p0_Context p0_Names p0_Types p1>>=fun r1=>
 if r1.1 != 0 then
 none
 else
 e22Ldt qq M p1 0 0 fl fu r1.2.1 r1.2.2.1 r1.2.2.2.1 r1.2.2.2.2
def g22LdtE0(j:Nat->Value)(M:Mach)(p1:List Tm)(v24 v8 vb2_0 vb2_1:Int)(vb3_2:List Tm)(vb3_3:List Int)(vb3_4:List Tm)(vb3_5:List Ent):=sp j 45 0 [(6,.mp 3 0),(8,ai v8),(22,slv tmCells p1 .no),(23,ai (List.length p1:Int)),(24,ai v24)]
def g22LdtS0(M:Mach)(p1:List Tm)(v24 v8 vb2_0 vb2_1:Int)(vb3_2:List Tm)(vb3_3:List Int)(vb3_4:List Tm)(vb3_5:List Ent):LSt:=⟨[(0,mB M 1),(1,mR M),(2,.cells [ai vb2_0,ai vb2_1]),(3,.cells [.mp 0 0,.mp 2 0,slv tmCells vb3_2 .no,slv intC vb3_3 .no,slv tmCells vb3_4 .no,slv entL vb3_5 .no])],4,[],0,[]⟩
abbrev K22 (M:Mach) (fl fu:Int) (p0_Context:List Tm) (p0_Names:List Int) (p0_Types p1:List Tm) (r:Int×Int×Int×Int) (C:Cf):Prop:=C 22 [mB M 1,mR M,.cells [ai fl,ai fu]] [.agg [.mp 0 0,.mp 2 0,slv tmCells p0_Context .no,slv intC p0_Names .no,slv tmCells p0_Types .no],slv tmCells p1 .no] (.tup [ai r.1,ai r.2.1]) [mB M 1,mR M,.cells [ai r.2.2.1,ai r.2.2.2]] 0
theorem q22:Qf 22 Tryz.f22:=⟨Tryz.func22,by kernel_rfl⟩
theorem k22{M fl fu p0_Context p0_Names p0_Types p1 r}(h:K22 M fl fu p0_Context p0_Names p0_Types p1 r Ci):K22 M fl fu p0_Context p0_Names p0_Types p1 r Ct:=⟨h,⟨⟨(lz rfl),(lz rfl),⟨tv,dT _⟩,⟨tv,dI _⟩,⟨tv,dT _⟩,tv⟩,⟨tv,dT _⟩,tv⟩,(forall_cons ⟨⟨tv,dE _⟩,(lz rfl),⟨tv,dI _⟩,⟨tv,dI _⟩,tv⟩ (forall_cons ⟨⟨tv,dE _⟩,⟨tv,dC _⟩,tv⟩ (forall_cons ⟨tv,tv,tv⟩ forall_nil))),⟨tv,tv,tv⟩,(forall_cons ⟨dE _,(lz rfl),dI _,dI _,tv⟩ (forall_cons ⟨dE _,dC _,tv⟩ (forall_cons ⟨tv,tv,tv⟩ forall_nil)))⟩
theorem l22Ldt:∀qq:Nat,(∀M p1 v24 v8 vb2_0 vb2_1 vb3_2 vb3_3 vb3_4 vb3_5 r,e22Ldt qq M p1 v24 v8 vb2_0 vb2_1 vb3_2 vb3_3 vb3_4 vb3_5=some r->(∀j,Dl Tryz.prog 3 (inn (inn (rgt (lft (rgt (rgt (rgt (rgt (bod Tryz.f22))))))))) (g22LdtE0 j M p1 v24 v8 vb2_0 vb2_1 vb3_2 vb3_3 vb3_4 vb3_5) (g22LdtS0 M p1 v24 v8 vb2_0 vb2_1 vb3_2 vb3_3 vb3_4 vb3_5) (frameQ Tryz.prog 3 (FinQ Tryz.prog 3 Tryz.f22 (.tup [ai r.1,ai r.2.1]) [mB M 1,mR M,.cells [ai r.2.2.1,ai r.2.2.2]] 0) [.blk 0,.seq (rgt (rgt (rgt (rgt (rgt (bod Tryz.f22))))))]))):=by
 intro qq
 induction qq with
 |zero=>
  exact fun _ _ _ _ _ _ _ _ _ _ _ h=>nn h
 |succ qq ih=>
  intro M p1 v24 v8 vb2_0 vb2_1 vb3_2 vb3_3 vb3_4 vb3_5 r h
  rw[e22Ldt]at h
  rcases spl h with⟨h4,h⟩|⟨h4,h⟩
  obtain⟨x5,h6,h⟩:=obind h
  obtain⟨r7,h8,h⟩:=obind h
  have k:=oC 3 [3,0,1,2] (c39 h8)<|oA 0 (ix29 (o:=.no) h6)<|oB 0 h4 o0
  obtain⟨h9,h⟩:=splF h
  obtain⟨r10,h11,h⟩:=obind h
  exact fun j=>lH 1 [] [0,1,2,5] [] [6,8,22,23,24] (oD (dT p1)<|oD (dE r10.2.2.2)<|oD (dT r10.2.2.1)<|oD (dI r10.2.1)<|oD (dT r10.1)<|oD (dC M.parts)<|oD (dE M.rl)<|oD (dI M.own)<|oD (dI M.args)<|oD (dE M.l)<|oC 2 [3,0,1,2] (c40 h11)<|oB 2 h9 k) (ih _ _ _ _ _ _ _ _ _ _ _ h)
  obtain rfl:=sj h
  exact fun j=>lF 0 [0,1,2] (oD (dC M.parts)<|oD (dE M.rl)<|oD (dI M.own)<|oD (dI M.args)<|oD (dE M.l)<|oB 0 h4 o0)
theorem c22{qq M fl fu p0_Context p0_Names p0_Types p1 r}(h:e22 qq M fl fu p0_Context p0_Names p0_Types p1=some r):K22 M fl fu p0_Context p0_Names p0_Types p1 r Ct:=by
 unfold e22 at h
 obtain⟨r1,h2,h⟩:=obind h
 have k:=oC 1 [0,1,2] (c38 h2) o0
 obtain⟨h3,h⟩:=splF h
 exact k22 (tH q22 1 [] [0,1,2,4] [] [6,8,22,23,24] (oD (dT p1)<|oD (dE r1.2.2.2.2)<|oD (dT r1.2.2.2.1)<|oD (dI r1.2.2.1)<|oD (dT r1.2.1)<|oD (dC M.parts)<|oD (dE M.rl)<|oD (dI M.own)<|oD (dI M.args)<|oD (dE M.l)<|oB 2 h3 k) (l22Ldt _ _ _ _ _ _ _ _ _ _ _ _ h))
def e37vadu(qq:Nat)(q0:List Ent)(q1 q2:Int)(q3:ByteArray)(q4 q5:Int)(q6:ByteArray)(q7 q8 q9:Int)(q10:List Tm)(q11 q12 p1 p2:Int):Option (Bool×Int×Int):=
 if q11==0 then
 if p1 != 0 then
 some ((p1 != 0),p1,p2)
 else
 some ((q11 != 0),q11,q12)
 else
 none
abbrev K37vadu (q0:List Ent) (q1 q2:Int) (q3:ByteArray) (q4 q5:Int) (q6:ByteArray) (q7 q8 q9:Int) (q10:List Tm) (q11 q12 p1 p2:Int) (r:Bool×Int×Int) (C:Cf):Prop:=C 37 [.cells [slv entL q0 .no,ai q1,ai q2,at' q3,slv treeBindL ([]:List TreeBind) .nl,ai q4,ai q5,at' q6,ai q7,slv treeNodeC ([]:List TreeNode) .nl,slv treeBindL ([]:List TreeBind) .nl,slv treeRowL ([]:List TreeRow) .nl,.mp 1 0,slv tmCells q10 .no,slv strC ([]:List ByteArray) .nl,ai q11,ai q12],.cells [ai q8,ai q9]] [.mp 0 0,ai p1,ai p2] (ab r.1) [.cells [slv entL q0 .no,ai q1,ai q2,at' q3,slv treeBindL ([]:List TreeBind) .nl,ai q4,ai q5,at' q6,ai q7,slv treeNodeC ([]:List TreeNode) .nl,slv treeBindL ([]:List TreeBind) .nl,slv treeRowL ([]:List TreeRow) .nl,.mp 1 0,slv tmCells q10 .no,slv strC ([]:List ByteArray) .nl,ai r.2.1,ai r.2.2],.cells [ai q8,ai q9]] 0
theorem q37vadu:Qf 37 Tryz.f37:=⟨Tryz.func37,by kernel_rfl⟩
theorem k37vadu{q0 q1 q2 q3 q4 q5 q6 q7 q8 q9 q10 q11 q12 p1 p2 r}(h:K37vadu q0 q1 q2 q3 q4 q5 q6 q7 q8 q9 q10 q11 q12 p1 p2 r Ci):K37vadu q0 q1 q2 q3 q4 q5 q6 q7 q8 q9 q10 q11 q12 p1 p2 r Ct:=⟨h,⟨(lz rfl),tv,tv,tv⟩,(forall_cons ⟨⟨tv,dE _⟩,tv,tv,tv,⟨tv,dTreeBind _⟩,tv,tv,tv,tv,⟨tv,dTreeNode _⟩,⟨tv,dTreeBind _⟩,⟨tv,dTreeRow _⟩,(lz rfl),⟨tv,dT _⟩,⟨tv,dS _⟩,tv,tv,tv⟩ (forall_cons ⟨tv,tv,tv⟩ forall_nil)),tv,(forall_cons ⟨dE _,tv,tv,tv,dTreeBind _,tv,tv,tv,tv,dTreeNode _,dTreeBind _,dTreeRow _,(lz rfl),dT _,dS _,tv,tv,tv⟩ (forall_cons ⟨tv,tv,tv⟩ forall_nil))⟩
theorem c37vadu{qq q0 q1 q2 q3 q4 q5 q6 q7 q8 q9 q10 q11 q12 p1 p2 r}(h:e37vadu qq q0 q1 q2 q3 q4 q5 q6 q7 q8 q9 q10 q11 q12 p1 p2=some r):K37vadu q0 q1 q2 q3 q4 q5 q6 q7 q8 q9 q10 q11 q12 p1 p2 r Ct:=by
 unfold e37vadu at h
 obtain⟨h1,h⟩:=spT h
 have k:=oB 1 h1 o0
 rcases spl h with⟨h2,h⟩|⟨h2,h⟩
 obtain rfl:=sj h
 exact k37vadu (tG q37vadu 4 [] [0,1] [] true (oD (dS ([]:List ByteArray))<|oD (dT q10)<|oD (dTreeRow ([]:List TreeRow))<|oD (dTreeBind ([]:List TreeBind))<|oD (dTreeNode ([]:List TreeNode))<|oD (dTreeBind ([]:List TreeBind))<|oD (dE q0)<|oB 0 h2 k))
 obtain rfl:=sj h
 exact k37vadu (tG q37vadu 2 [] [0,1] [] true (oD (dS ([]:List ByteArray))<|oD (dT q10)<|oD (dTreeRow ([]:List TreeRow))<|oD (dTreeBind ([]:List TreeBind))<|oD (dTreeNode ([]:List TreeNode))<|oD (dTreeBind ([]:List TreeBind))<|oD (dE q0)<|oB 0 h2 k))
def e45vadvLdw:Nat->(List Ent)->Int->Int->ByteArray->Int->Int->ByteArray->Int->Int->Int->(List Tm)->Int->Int->Int->Int->(Tm×List Tm)->Ent->Int->Option (Bool)
 |0,_,_,_,_,_,_,_,_,_,_,_,_,_,_,_,_,_,_=>none
 |qq+1,q0,q1,q2,q3,q4,q5,q6,q7,q8,q9,q10,q11,q12,p2,p3,r1,x5,v56=>
 if decide (v56<x5.pars)then
 gidx r1.2 v56>>=fun x9=>
 if x9.k != 1 then
 none
 else
 gidx q0 p2>>=fun x12=>
 if x9.n != (w64 ((w64 ((w64 (x12.pars+p3))-1))-v56))then
 none
 else
 e45vadvLdw qq q0 q1 q2 q3 q4 q5 q6 q7 q8 q9 q10 q11 q12 p2 p3 r1 x5 (w64 (v56+1))
 else
 some true
def e45vadv(qq:Nat)(q0:List Ent)(q1 q2:Int)(q3:ByteArray)(q4 q5:Int)(q6:ByteArray)(q7 q8 q9:Int)(q10:List Tm)(q11 q12:Int)(p1:Tm)(p2 p3:Int):Option (Bool):=
 e47 qq p1>>=fun r1=>
 if r1.1.k != 6 then
 none
 else
 if r1.1.n != p2 then
 none
 else
 gidx q0 p2>>=fun x5=>
 if (List.length r1.2:Int) != (w64 (x5.pars+x5.inds))then
 none
 else
 e45vadvLdw qq q0 q1 q2 q3 q4 q5 q6 q7 q8 q9 q10 q11 q12 p2 p3 r1 x5 0
def g45vadvLdwE0(j:Nat->Value)(q0:List Ent)(q1 q2:Int)(q3:ByteArray)(q4 q5:Int)(q6:ByteArray)(q7 q8 q9:Int)(q10:List Tm)(q11 q12 p2 p3:Int)(r1:Tm×List Tm)(x5:Ent)(v56:Int):=sp j 87 0 [(0,.mp 0 0),(2,ai p2),(3,ai p3),(10,slv tmCells r1.2 .no),(55,ai x5.pars),(56,ai v56)]
def g45vadvLdwS0(q0:List Ent)(q1 q2:Int)(q3:ByteArray)(q4 q5:Int)(q6:ByteArray)(q7 q8 q9:Int)(q10:List Tm)(q11 q12 p2 p3:Int)(r1:Tm×List Tm)(x5:Ent)(v56:Int):LSt:=⟨[(0,.cells [slv entL q0 .no,ai q1,ai q2,at' q3,slv treeBindL ([]:List TreeBind) .nl,ai q4,ai q5,at' q6,ai q7,slv treeNodeC ([]:List TreeNode) .nl,slv treeBindL ([]:List TreeBind) .nl,slv treeRowL ([]:List TreeRow) .nl,.mp 1 0,slv tmCells q10 .no,slv strC ([]:List ByteArray) .nl,ai q11,ai q12]),(1,.cells [ai q8,ai q9])],2,[],0,[]⟩
abbrev K45vadv (q0:List Ent) (q1 q2:Int) (q3:ByteArray) (q4 q5:Int) (q6:ByteArray) (q7 q8 q9:Int) (q10:List Tm) (q11 q12:Int) (p1:Tm) (p2 p3:Int) (r:Bool) (C:Cf):Prop:=C 45 [.cells [slv entL q0 .no,ai q1,ai q2,at' q3,slv treeBindL ([]:List TreeBind) .nl,ai q4,ai q5,at' q6,ai q7,slv treeNodeC ([]:List TreeNode) .nl,slv treeBindL ([]:List TreeBind) .nl,slv treeRowL ([]:List TreeRow) .nl,.mp 1 0,slv tmCells q10 .no,slv strC ([]:List ByteArray) .nl,ai q11,ai q12],.cells [ai q8,ai q9]] [.mp 0 0,tmA p1,ai p2,ai p3] (ab r) [.cells [slv entL q0 .no,ai q1,ai q2,at' q3,slv treeBindL ([]:List TreeBind) .nl,ai q4,ai q5,at' q6,ai q7,slv treeNodeC ([]:List TreeNode) .nl,slv treeBindL ([]:List TreeBind) .nl,slv treeRowL ([]:List TreeRow) .nl,.mp 1 0,slv tmCells q10 .no,slv strC ([]:List ByteArray) .nl,ai q11,ai q12],.cells [ai q8,ai q9]] 0
theorem q45vadv:Qf 45 Tryz.f45:=⟨Tryz.func45,by kernel_rfl⟩
theorem k45vadv{q0 q1 q2 q3 q4 q5 q6 q7 q8 q9 q10 q11 q12 p1 p2 p3 r}(h:K45vadv q0 q1 q2 q3 q4 q5 q6 q7 q8 q9 q10 q11 q12 p1 p2 p3 r Ci):K45vadv q0 q1 q2 q3 q4 q5 q6 q7 q8 q9 q10 q11 q12 p1 p2 p3 r Ct:=⟨h,⟨(lz rfl),⟨tv,tv,⟨tv,dT _⟩,tv⟩,tv,tv,tv⟩,(forall_cons ⟨⟨tv,dE _⟩,tv,tv,tv,⟨tv,dTreeBind _⟩,tv,tv,tv,tv,⟨tv,dTreeNode _⟩,⟨tv,dTreeBind _⟩,⟨tv,dTreeRow _⟩,(lz rfl),⟨tv,dT _⟩,⟨tv,dS _⟩,tv,tv,tv⟩ (forall_cons ⟨tv,tv,tv⟩ forall_nil)),tv,(forall_cons ⟨dE _,tv,tv,tv,dTreeBind _,tv,tv,tv,tv,dTreeNode _,dTreeBind _,dTreeRow _,(lz rfl),dT _,dS _,tv,tv,tv⟩ (forall_cons ⟨tv,tv,tv⟩ forall_nil))⟩
theorem l45vadvLdw:∀qq:Nat,(∀q0 q1 q2 q3 q4 q5 q6 q7 q8 q9 q10 q11 q12 p2 p3 r1 x5 v56 r,e45vadvLdw qq q0 q1 q2 q3 q4 q5 q6 q7 q8 q9 q10 q11 q12 p2 p3 r1 x5 v56=some r->(∀j,Dl Tryz.prog 2 (inn (inn (rgt (lft (rgt (rgt (rgt (bod Tryz.f45)))))))) (g45vadvLdwE0 j q0 q1 q2 q3 q4 q5 q6 q7 q8 q9 q10 q11 q12 p2 p3 r1 x5 v56) (g45vadvLdwS0 q0 q1 q2 q3 q4 q5 q6 q7 q8 q9 q10 q11 q12 p2 p3 r1 x5 v56) (frameQ Tryz.prog 2 (FinQ Tryz.prog 2 Tryz.f45 (ab r) [.cells [slv entL q0 .no,ai q1,ai q2,at' q3,slv treeBindL ([]:List TreeBind) .nl,ai q4,ai q5,at' q6,ai q7,slv treeNodeC ([]:List TreeNode) .nl,slv treeBindL ([]:List TreeBind) .nl,slv treeRowL ([]:List TreeRow) .nl,.mp 1 0,slv tmCells q10 .no,slv strC ([]:List ByteArray) .nl,ai q11,ai q12],.cells [ai q8,ai q9]] 0) [.blk 0,.seq (rgt (rgt (rgt (rgt (bod Tryz.f45)))))]))):=by
 intro qq
 induction qq with
 |zero=>
  exact fun _ _ _ _ _ _ _ _ _ _ _ _ _ _ _ _ _ _ _ h=>nn h
 |succ qq ih=>
  intro q0 q1 q2 q3 q4 q5 q6 q7 q8 q9 q10 q11 q12 p2 p3 r1 x5 v56 r h
  rw[e45vadvLdw]at h
  rcases spl h with⟨h8,h⟩|⟨h8,h⟩
  obtain⟨x9,h10,h⟩:=obind h
  have k:=oA 0 (ix29 (o:=.no) h10)<|oB 0 h8 o0
  obtain⟨h11,h⟩:=splF h
  obtain⟨x12,h13,h⟩:=obind h
  have k:=oA 2 (ix22 (o:=.no) h13)<|oA 0 (ix29 (o:=.no) h10)<|oB 1 h11 k
  obtain⟨h14,h⟩:=splF h
  exact fun j=>lH 1 [] [0,1] [] [0,2,3,10,55,56] (oD (dT r1.2)<|oD (dS ([]:List ByteArray))<|oD (dT q10)<|oD (dTreeRow ([]:List TreeRow))<|oD (dTreeBind ([]:List TreeBind))<|oD (dTreeNode ([]:List TreeNode))<|oD (dTreeBind ([]:List TreeBind))<|oD (dE q0)<|oB 4 h14 k) (ih _ _ _ _ _ _ _ _ _ _ _ _ _ _ _ _ _ _ _ h)
  obtain rfl:=sj h
  exact fun j=>lG 0 [] [0,1] [] true (oD (dS ([]:List ByteArray))<|oD (dT q10)<|oD (dTreeRow ([]:List TreeRow))<|oD (dTreeBind ([]:List TreeBind))<|oD (dTreeNode ([]:List TreeNode))<|oD (dTreeBind ([]:List TreeBind))<|oD (dE q0)<|oB 0 h8 o0)
theorem c45vadv{qq q0 q1 q2 q3 q4 q5 q6 q7 q8 q9 q10 q11 q12 p1 p2 p3 r}(h:e45vadv qq q0 q1 q2 q3 q4 q5 q6 q7 q8 q9 q10 q11 q12 p1 p2 p3=some r):K45vadv q0 q1 q2 q3 q4 q5 q6 q7 q8 q9 q10 q11 q12 p1 p2 p3 r Ct:=by
 unfold e45vadv at h
 obtain⟨r1,h2,h⟩:=obind h
 have k:=oC 1 [] (c47 h2) o0
 obtain⟨h3,h⟩:=splF h
 have k:=oB 4 h3 k
 obtain⟨h4,h⟩:=splF h
 obtain⟨x5,h6,h⟩:=obind h
 have k:=oA 2 (ix22 (o:=.no) h6)<|oA 2 (ix22 (o:=.no) h6)<|oB 1 h4 k
 obtain⟨h7,h⟩:=splF h
 exact k45vadv (tH q45vadv 1 [] [0,1] [] [0,2,3,10,55,56] (oD (dT r1.2)<|oD (dS ([]:List ByteArray))<|oD (dT q10)<|oD (dTreeRow ([]:List TreeRow))<|oD (dTreeBind ([]:List TreeBind))<|oD (dTreeNode ([]:List TreeNode))<|oD (dTreeBind ([]:List TreeBind))<|oD (dE q0)<|oA 1 (ix22 (o:=.no) h6)<|oB 2 h7 k) (l45vadvLdw _ _ _ _ _ _ _ _ _ _ _ _ _ _ _ _ _ _ _ _ h))
def e48(qq:Nat)(p0:Tm)(p1:Int):Option (Bool):=
 e57 qq p0>>=fun r1=>
 if r1 then
 e66 qq p0 p1>>=fun r4=>
 some r4
 else
 none
abbrev K48 (p0:Tm) (p1:Int) (r:Bool) (C:Cf):Prop:=C 48 [] [tmA p0,ai p1] (ab r) [] 0
theorem q48:Qf 48 Tryz.f48:=⟨Tryz.func48,by kernel_rfl⟩
theorem k48{p0 p1 r}(h:K48 p0 p1 r Ci):K48 p0 p1 r Ct:=⟨h,⟨⟨tv,tv,⟨tv,dT _⟩,tv⟩,tv,tv⟩,forall_nil,tv,forall_nil⟩
theorem c48{qq p0 p1 r}(h:e48 qq p0 p1=some r):K48 p0 p1 r Ct:=by
 unfold e48 at h
 obtain⟨r1,h2,h⟩:=obind h
 obtain⟨h3,h⟩:=spT h
 obtain⟨r4,h5,h⟩:=obind h
 obtain rfl:=sj h
 exact k48 (tF q48 0 [] (oC 1 [] (c66 h5)<|oK 1 [] h3 (c57 h2) o0))
def e24vadvLdx:Nat->(List Ent)->Int->Int->ByteArray->Int->Int->ByteArray->Int->(List Tm)->Int->Int->Int->Int->(List Tm)->Int->Int->Int->Option (Int×Int×Int×Int)
 |0,_,_,_,_,_,_,_,_,_,_,_,_,_,_,_,_,_=>none
 |qq+1,q0,q1,q2,q3,q4,q5,q6,q7,q10,p2,p3,vb1_0,vb1_1,x55,v163,vb0_15,vb0_16=>
 if decide (v163<(List.length x55:Int))then
 gidx x55 v163>>=fun x58=>
 e48 qq x58 p2>>=fun r60=>
 if r60 then
 none
 else
 e24vadvLdx qq q0 q1 q2 q3 q4 q5 q6 q7 q10 p2 p3 vb1_0 vb1_1 x55 (w64 (v163+1)) vb0_15 vb0_16
 else
 some (vb0_15,vb0_16,vb1_0,vb1_1)
def e24vadvLdy:Nat->(List Ent)->Int->Int->ByteArray->Int->Int->ByteArray->Int->(List Tm)->Int->Int->(List Tm×Tm×Int)->Int->Int->Int->Int->Int->Option (Int×Int×Int×Int)
 |0,_,_,_,_,_,_,_,_,_,_,_,_,_,_,_,_,_=>none
 |qq+1,q0,q1,q2,q3,q4,q5,q6,q7,q10,p2,p3,r8,v71,vb0_15,vb0_16,vb1_0,vb1_1=>
 if decide (v71<(List.length r8.1:Int))then
 gidx r8.1 v71>>=fun x20=>
 gsl q10 0 (List.length q10:Int)>>=fun x22=>
 gsl r8.1 0 v71>>=fun x24=>
 gapp 40 x22 x24>>=fun l26=>
 e21vads qq q0 q1 q2 q3 q4 q5 q6 q7 vb1_0 vb1_1 q10 vb0_15 vb0_16 l26>>=fun r29=>
 e43 qq (Mach.mk r29.2.2.2.2.2.1 r29.2.2.2.2.2.2.2.2.1 r29.2.2.2.2.2.2.2.2.2 r29.2.2.2.2.2.2.1 r29.2.2.2.2.2.2.2.1) vb1_0 vb1_1 r29.1 r29.2.1 r29.2.2.1 x20>>=fun r31=>
 if r31.2.1==0 then
 gidx q0 p2>>=fun x34=>
 if decide (r31.1>x34.level)then
 e37vadu qq q0 q1 q2 q3 q4 q5 q6 q7 r31.2.2.1 r31.2.2.2 q10 r29.2.2.2.1 r29.2.2.2.2.1 7 p3>>=fun r37=>
 if r37.1 then
 some (r37.2.1,r37.2.2,r31.2.2.1,r31.2.2.2)
 else
 none
 else
 e37vadu qq q0 q1 q2 q3 q4 q5 q6 q7 r31.2.2.1 r31.2.2.2 q10 r29.2.2.2.1 r29.2.2.2.2.1 r31.2.1 p3>>=fun r40=>
 if r40.1 then
 none
 else
 e24vadvLdy qq q0 q1 q2 q3 q4 q5 q6 q7 q10 p2 p3 r8 (w64 (v71+1)) r40.2.1 r40.2.2 r31.2.2.1 r31.2.2.2
 else
 none
 else
 gidx q0 p2>>=fun x46=>
 e46 qq r8.1 p2 x46.pars x46.inds>>=fun r48=>
 e37vadu qq q0 q1 q2 q3 q4 q5 q6 q7 vb1_0 vb1_1 q10 vb0_15 vb0_16 r48.2 p3>>=fun r50=>
 if r50.1 then
 some (r50.2.1,r50.2.2,vb1_0,vb1_1)
 else
 e47 qq r8.2.1>>=fun r53=>
 gsl r53.2 x46.pars (List.length r53.2:Int)>>=fun x55=>
 e24vadvLdx qq q0 q1 q2 q3 q4 q5 q6 q7 q10 p2 p3 vb1_0 vb1_1 x55 0 r50.2.1 r50.2.2
def e24vadv(qq:Nat)(q0:List Ent)(q1 q2:Int)(q3:ByteArray)(q4 q5:Int)(q6:ByteArray)(q7 q8 q9:Int)(q10:List Tm)(q11 q12:Int)(p1:Tm)(p2 p3:Int):Option (Int×Int×Int×Int):=
 e21vads qq q0 q1 q2 q3 q4 q5 q6 q7 q8 q9 q10 q11 q12 q10>>=fun r1=>
 e43 qq (Mach.mk r1.2.2.2.2.2.1 r1.2.2.2.2.2.2.2.2.1 r1.2.2.2.2.2.2.2.2.2 r1.2.2.2.2.2.2.1 r1.2.2.2.2.2.2.2.1) q8 q9 r1.1 r1.2.1 r1.2.2.1 p1>>=fun r3=>
 e37vadu qq q0 q1 q2 q3 q4 q5 q6 q7 r3.2.2.1 r3.2.2.2 q10 r1.2.2.2.1 r1.2.2.2.2.1 r3.2.1 p3>>=fun r5=>
 if r5.1 then
 some (r5.2.1,r5.2.2,r3.2.2.1,r3.2.2.2)
 else
 e44 qq p1>>=fun r8=>
 if r8.2.2 != 0 then
 none
 else
 if decide ((List.length r8.1:Int)>(w64 (24-(List.length q10:Int))))then
 none
 else
 e45vadv qq q0 q1 q2 q3 q4 q5 q6 q7 r3.2.2.1 r3.2.2.2 q10 r5.2.1 r5.2.2 r8.2.1 p2 (List.length r8.1:Int)>>=fun r16=>
 if r16 then
 e24vadvLdy qq q0 q1 q2 q3 q4 q5 q6 q7 q10 p2 p3 r8 0 r5.2.1 r5.2.2 r3.2.2.1 r3.2.2.2
 else
 none
def g24vadvLdyE0(j:Nat->Value)(q0:List Ent)(q1 q2:Int)(q3:ByteArray)(q4 q5:Int)(q6:ByteArray)(q7:Int)(q10:List Tm)(p2 p3:Int)(r8:List Tm×Tm×Int)(v71 vb0_15 vb0_16 vb1_0 vb1_1:Int):=sp j 174 0 [(0,.mp 0 0),(2,ai p2),(3,ai p3),(10,slv tmCells r8.1 .no),(11,.mp 2 0),(69,slv tmCells r8.1 .no),(70,ai (List.length r8.1:Int)),(71,ai v71)]
def g24vadvLdyS0(q0:List Ent)(q1 q2:Int)(q3:ByteArray)(q4 q5:Int)(q6:ByteArray)(q7:Int)(q10:List Tm)(p2 p3:Int)(r8:List Tm×Tm×Int)(v71 vb0_15 vb0_16 vb1_0 vb1_1:Int):LSt:=⟨[(0,.cells [slv entL q0 .no,ai q1,ai q2,at' q3,slv treeBindL ([]:List TreeBind) .nl,ai q4,ai q5,at' q6,ai q7,slv treeNodeC ([]:List TreeNode) .nl,slv treeBindL ([]:List TreeBind) .nl,slv treeRowL ([]:List TreeRow) .nl,.mp 1 0,slv tmCells q10 .no,slv strC ([]:List ByteArray) .nl,ai vb0_15,ai vb0_16]),(1,.cells [ai vb1_0,ai vb1_1]),(2,.cells [ai r8.2.1.k,ai r8.2.1.n,slv tmCells r8.2.1.sub .no])],3,[],0,[]⟩
def g24vadvLdxE0(j:Nat->Value)(q0:List Ent)(q1 q2:Int)(q3:ByteArray)(q4 q5:Int)(q6:ByteArray)(q7:Int)(q10:List Tm)(p2 p3 vb1_0 vb1_1:Int)(x55:List Tm)(v163 vb0_15 vb0_16:Int):=sp j 174 0 [(0,.mp 0 0),(2,ai p2),(3,ai p3),(161,slv tmCells x55 .no),(162,ai (List.length x55:Int)),(163,ai v163)]
def g24vadvLdxS0(q0:List Ent)(q1 q2:Int)(q3:ByteArray)(q4 q5:Int)(q6:ByteArray)(q7:Int)(q10:List Tm)(p2 p3 vb1_0 vb1_1:Int)(x55:List Tm)(v163 vb0_15 vb0_16:Int):LSt:=⟨[(0,.cells [slv entL q0 .no,ai q1,ai q2,at' q3,slv treeBindL ([]:List TreeBind) .nl,ai q4,ai q5,at' q6,ai q7,slv treeNodeC ([]:List TreeNode) .nl,slv treeBindL ([]:List TreeBind) .nl,slv treeRowL ([]:List TreeRow) .nl,.mp 1 0,slv tmCells q10 .no,slv strC ([]:List ByteArray) .nl,ai vb0_15,ai vb0_16]),(1,.cells [ai vb1_0,ai vb1_1])],2,[],0,[]⟩
abbrev K24vadv (q0:List Ent) (q1 q2:Int) (q3:ByteArray) (q4 q5:Int) (q6:ByteArray) (q7 q8 q9:Int) (q10:List Tm) (q11 q12:Int) (p1:Tm) (p2 p3:Int) (r:Int×Int×Int×Int) (C:Cf):Prop:=C 24 [.cells [slv entL q0 .no,ai q1,ai q2,at' q3,slv treeBindL ([]:List TreeBind) .nl,ai q4,ai q5,at' q6,ai q7,slv treeNodeC ([]:List TreeNode) .nl,slv treeBindL ([]:List TreeBind) .nl,slv treeRowL ([]:List TreeRow) .nl,.mp 1 0,slv tmCells q10 .no,slv strC ([]:List ByteArray) .nl,ai q11,ai q12],.cells [ai q8,ai q9]] [.mp 0 0,tmA p1,ai p2,ai p3] (.tup []) [.cells [slv entL q0 .no,ai q1,ai q2,at' q3,slv treeBindL ([]:List TreeBind) .nl,ai q4,ai q5,at' q6,ai q7,slv treeNodeC ([]:List TreeNode) .nl,slv treeBindL ([]:List TreeBind) .nl,slv treeRowL ([]:List TreeRow) .nl,.mp 1 0,slv tmCells q10 .no,slv strC ([]:List ByteArray) .nl,ai r.1,ai r.2.1],.cells [ai r.2.2.1,ai r.2.2.2]] 0
theorem q24vadv:Qf 24 Tryz.f24:=⟨Tryz.func24,by kernel_rfl⟩
theorem k24vadv{q0 q1 q2 q3 q4 q5 q6 q7 q8 q9 q10 q11 q12 p1 p2 p3 r}(h:K24vadv q0 q1 q2 q3 q4 q5 q6 q7 q8 q9 q10 q11 q12 p1 p2 p3 r Ci):K24vadv q0 q1 q2 q3 q4 q5 q6 q7 q8 q9 q10 q11 q12 p1 p2 p3 r Ct:=⟨h,⟨(lz rfl),⟨tv,tv,⟨tv,dT _⟩,tv⟩,tv,tv,tv⟩,(forall_cons ⟨⟨tv,dE _⟩,tv,tv,tv,⟨tv,dTreeBind _⟩,tv,tv,tv,tv,⟨tv,dTreeNode _⟩,⟨tv,dTreeBind _⟩,⟨tv,dTreeRow _⟩,(lz rfl),⟨tv,dT _⟩,⟨tv,dS _⟩,tv,tv,tv⟩ (forall_cons ⟨tv,tv,tv⟩ forall_nil)),tv,(forall_cons ⟨dE _,tv,tv,tv,dTreeBind _,tv,tv,tv,tv,dTreeNode _,dTreeBind _,dTreeRow _,(lz rfl),dT _,dS _,tv,tv,tv⟩ (forall_cons ⟨tv,tv,tv⟩ forall_nil))⟩
theorem l24vadvLdx:∀qq:Nat,(∀q0 q1 q2 q3 q4 q5 q6 q7 q10 p2 p3 vb1_0 vb1_1 x55 v163 vb0_15 vb0_16 r,e24vadvLdx qq q0 q1 q2 q3 q4 q5 q6 q7 q10 p2 p3 vb1_0 vb1_1 x55 v163 vb0_15 vb0_16=some r->(∀j,Dl Tryz.prog 2 (inn (inn (rgt (rgt (rgt (rgt (rgt (rgt (rgt (rgt (bod Tryz.f24))))))))))) (g24vadvLdxE0 j q0 q1 q2 q3 q4 q5 q6 q7 q10 p2 p3 vb1_0 vb1_1 x55 v163 vb0_15 vb0_16) (g24vadvLdxS0 q0 q1 q2 q3 q4 q5 q6 q7 q10 p2 p3 vb1_0 vb1_1 x55 v163 vb0_15 vb0_16) (frameQ Tryz.prog 2 (FinQ Tryz.prog 2 Tryz.f24 (.tup []) [.cells [slv entL q0 .no,ai q1,ai q2,at' q3,slv treeBindL ([]:List TreeBind) .nl,ai q4,ai q5,at' q6,ai q7,slv treeNodeC ([]:List TreeNode) .nl,slv treeBindL ([]:List TreeBind) .nl,slv treeRowL ([]:List TreeRow) .nl,.mp 1 0,slv tmCells q10 .no,slv strC ([]:List ByteArray) .nl,ai r.1,ai r.2.1],.cells [ai r.2.2.1,ai r.2.2.2]] 0) [.blk 2]))):=by
 intro qq
 induction qq with
 |zero=>
  exact fun _ _ _ _ _ _ _ _ _ _ _ _ _ _ _ _ _ _ h=>nn h
 |succ qq ih=>
  intro q0 q1 q2 q3 q4 q5 q6 q7 q10 p2 p3 vb1_0 vb1_1 x55 v163 vb0_15 vb0_16 r h
  rw[e24vadvLdx]at h
  rcases spl h with⟨h57,h⟩|⟨h57,h⟩
  obtain⟨x58,h59,h⟩:=obind h
  obtain⟨r60,h61,h⟩:=obind h
  have k:=oA 0 (ix29 (o:=.no) h59)<|oB 0 h57 o0
  obtain⟨h62,h⟩:=splF h
  exact fun j=>lH 1 [] [0,1] [] [0,2,3,161,162,163] (oD (dT x55)<|oD (dS ([]:List ByteArray))<|oD (dT q10)<|oD (dTreeRow ([]:List TreeRow))<|oD (dTreeBind ([]:List TreeBind))<|oD (dTreeNode ([]:List TreeNode))<|oD (dTreeBind ([]:List TreeBind))<|oD (dE q0)<|oK 3 [] h62 (c48 h61) k) (ih _ _ _ _ _ _ _ _ _ _ _ _ _ _ _ _ _ _ h)
  obtain rfl:=sj h
  exact fun j=>lG 0 [] [0,1] [] true (oD (dS ([]:List ByteArray))<|oD (dT q10)<|oD (dTreeRow ([]:List TreeRow))<|oD (dTreeBind ([]:List TreeBind))<|oD (dTreeNode ([]:List TreeNode))<|oD (dTreeBind ([]:List TreeBind))<|oD (dE q0)<|oB 0 h57 o0)
theorem l24vadvLdy:∀qq:Nat,(∀q0 q1 q2 q3 q4 q5 q6 q7 q10 p2 p3 r8 v71 vb0_15 vb0_16 vb1_0 vb1_1 r,e24vadvLdy qq q0 q1 q2 q3 q4 q5 q6 q7 q10 p2 p3 r8 v71 vb0_15 vb0_16 vb1_0 vb1_1=some r->(∀j,Dl Tryz.prog 2 (inn (inn (rgt (lft (rgt (rgt (rgt (rgt (bod Tryz.f24))))))))) (g24vadvLdyE0 j q0 q1 q2 q3 q4 q5 q6 q7 q10 p2 p3 r8 v71 vb0_15 vb0_16 vb1_0 vb1_1) (g24vadvLdyS0 q0 q1 q2 q3 q4 q5 q6 q7 q10 p2 p3 r8 v71 vb0_15 vb0_16 vb1_0 vb1_1) (frameQ Tryz.prog 2 (FinQ Tryz.prog 2 Tryz.f24 (.tup []) [.cells [slv entL q0 .no,ai q1,ai q2,at' q3,slv treeBindL ([]:List TreeBind) .nl,ai q4,ai q5,at' q6,ai q7,slv treeNodeC ([]:List TreeNode) .nl,slv treeBindL ([]:List TreeBind) .nl,slv treeRowL ([]:List TreeRow) .nl,.mp 1 0,slv tmCells q10 .no,slv strC ([]:List ByteArray) .nl,ai r.1,ai r.2.1],.cells [ai r.2.2.1,ai r.2.2.2]] 0) [.blk 0,.seq (rgt (rgt (rgt (rgt (rgt (bod Tryz.f24))))))]))):=by
 intro qq
 induction qq with
 |zero=>
  exact fun _ _ _ _ _ _ _ _ _ _ _ _ _ _ _ _ _ _ h=>nn h
 |succ qq ih=>
  intro q0 q1 q2 q3 q4 q5 q6 q7 q10 p2 p3 r8 v71 vb0_15 vb0_16 vb1_0 vb1_1 r h
  rw[e24vadvLdy]at h
  rcases spl h with⟨h19,h⟩|⟨h19,h⟩
  obtain⟨x20,h21,h⟩:=obind h
  obtain⟨x22,h23,h⟩:=obind h
  obtain⟨x24,h25,h⟩:=obind h
  obtain⟨l26,h27,h⟩:=obind h
  have k:=oA 0 (slTo29 h25)<|oA 7 (slTo3_29 (o:=.no) h23)<|oA 0 (ix29 (o:=.no) h21)<|oB 0 h19 o0
  by_cases h28:List.length x24=0
  obtain⟨r29,h30,h⟩:=obind h
  obtain⟨r31,h32,h⟩:=obind h
  have k:=oC 1 [4,5,1] (c43 h32)<|oC 0 [0,1] (c21vads h30)<|oP 0 (apN29 h27 h28) k
  obtain⟨h33,h⟩:=spT h
  obtain⟨x34,h35,h⟩:=obind h
  have k:=oA 1 (ix22 (o:=.no) h35)<|oB 2 h33 k
  rcases spl h with⟨h36,h⟩|⟨h36,h⟩
  obtain⟨r37,h38,h⟩:=obind h
  have k:=oB 1 h36 k
  obtain⟨h39,h⟩:=spT h
  obtain rfl:=sj h
  exact fun j=>lG 0 [] [0,1] [] true (oD (dS ([]:List ByteArray))<|oD (dT q10)<|oD (dTreeRow ([]:List TreeRow))<|oD (dTreeBind ([]:List TreeBind))<|oD (dTreeNode ([]:List TreeNode))<|oD (dTreeBind ([]:List TreeBind))<|oD (dE q0)<|oK 0 [0,1] h39 (c37vadu h38) k)
  obtain⟨r40,h41,h⟩:=obind h
  have k:=oB 1 h36 k
  obtain⟨h42,h⟩:=splF h
  exact fun j=>lH 1 [] [0,1,2] [] [0,2,3,10,11,69,70,71] (oD (dT r8.1)<|oD (dT r8.1)<|oD (dT r8.2.1.sub)<|oD (dS ([]:List ByteArray))<|oD (dT q10)<|oD (dTreeRow ([]:List TreeRow))<|oD (dTreeBind ([]:List TreeBind))<|oD (dTreeNode ([]:List TreeNode))<|oD (dTreeBind ([]:List TreeBind))<|oD (dE q0)<|oK 0 [0,1] h42 (c37vadu h41) k) (ih _ _ _ _ _ _ _ _ _ _ _ _ _ _ _ _ _ _ h)
  obtain⟨r29,h30,h⟩:=obind h
  obtain⟨r31,h32,h⟩:=obind h
  have k:=oC 1 [4,5,1] (c43 h32)<|oC 0 [0,1] (c21vads h30)<|oP 0 (apS29 h27 h28) k
  obtain⟨h33,h⟩:=spT h
  obtain⟨x34,h35,h⟩:=obind h
  have k:=oA 1 (ix22 (o:=.no) h35)<|oB 2 h33 k
  rcases spl h with⟨h36,h⟩|⟨h36,h⟩
  obtain⟨r37,h38,h⟩:=obind h
  have k:=oB 1 h36 k
  obtain⟨h39,h⟩:=spT h
  obtain rfl:=sj h
  exact fun j=>lG 0 [] [0,1] [] true (oD (dS ([]:List ByteArray))<|oD (dT q10)<|oD (dTreeRow ([]:List TreeRow))<|oD (dTreeBind ([]:List TreeBind))<|oD (dTreeNode ([]:List TreeNode))<|oD (dTreeBind ([]:List TreeBind))<|oD (dE q0)<|oK 0 [0,1] h39 (c37vadu h38) k)
  obtain⟨r40,h41,h⟩:=obind h
  have k:=oB 1 h36 k
  obtain⟨h42,h⟩:=splF h
  exact fun j=>lH 1 [] [0,1,2] [] [0,2,3,10,11,69,70,71] (oD (dT r8.1)<|oD (dT r8.1)<|oD (dT r8.2.1.sub)<|oD (dS ([]:List ByteArray))<|oD (dT q10)<|oD (dTreeRow ([]:List TreeRow))<|oD (dTreeBind ([]:List TreeBind))<|oD (dTreeNode ([]:List TreeNode))<|oD (dTreeBind ([]:List TreeBind))<|oD (dE q0)<|oK 0 [0,1] h42 (c37vadu h41) k) (ih _ _ _ _ _ _ _ _ _ _ _ _ _ _ _ _ _ _ h)
  obtain⟨x46,h47,h⟩:=obind h
  obtain⟨r48,h49,h⟩:=obind h
  obtain⟨r50,h51,h⟩:=obind h
  have k:=oC 1 [] (c46 h49)<|oA 2 (ix22 (o:=.no) h47)<|oA 1 (ix22 (o:=.no) h47)<|oB 0 h19 o0
  rcases spl h with⟨h52,h⟩|⟨h52,h⟩
  obtain rfl:=sj h
  exact fun j=>lG 0 [] [0,1] [] true (oD (dS ([]:List ByteArray))<|oD (dT q10)<|oD (dTreeRow ([]:List TreeRow))<|oD (dTreeBind ([]:List TreeBind))<|oD (dTreeNode ([]:List TreeNode))<|oD (dTreeBind ([]:List TreeBind))<|oD (dE q0)<|oK 2 [0,1] h52 (c37vadu h51) k)
  obtain⟨r53,h54,h⟩:=obind h
  obtain⟨x55,h56,h⟩:=obind h
  exact fun j=>lH 1 [] [0,1] [] [0,2,3,161,162,163] (oD (dT x55)<|oD (dS ([]:List ByteArray))<|oD (dT q10)<|oD (dTreeRow ([]:List TreeRow))<|oD (dTreeBind ([]:List TreeBind))<|oD (dTreeNode ([]:List TreeNode))<|oD (dTreeBind ([]:List TreeBind))<|oD (dE q0)<|oA 1 (slFrom29 h56)<|oA 4 (ix22 (o:=.no) h47)<|oC 1 [] (c47 h54)<|oK 2 [0,1] h52 (c37vadu h51) k) (l24vadvLdx _ _ _ _ _ _ _ _ _ _ _ _ _ _ _ _ _ _ _ h)
theorem c24vadv{qq q0 q1 q2 q3 q4 q5 q6 q7 q8 q9 q10 q11 q12 p1 p2 p3 r}(h:e24vadv qq q0 q1 q2 q3 q4 q5 q6 q7 q8 q9 q10 q11 q12 p1 p2 p3=some r):K24vadv q0 q1 q2 q3 q4 q5 q6 q7 q8 q9 q10 q11 q12 p1 p2 p3 r Ct:=by
 unfold e24vadv at h
 obtain⟨r1,h2,h⟩:=obind h
 obtain⟨r3,h4,h⟩:=obind h
 obtain⟨r5,h6,h⟩:=obind h
 have k:=oC 1 [3,4,1] (c43 h4)<|oC 1 [0,1] (c21vads h2) o0
 rcases spl h with⟨h7,h⟩|⟨h7,h⟩
 obtain rfl:=sj h
 exact k24vadv (tG q24vadv 0 [] [0,1] [] true (oD (dS ([]:List ByteArray))<|oD (dT q10)<|oD (dTreeRow ([]:List TreeRow))<|oD (dTreeBind ([]:List TreeBind))<|oD (dTreeNode ([]:List TreeNode))<|oD (dTreeBind ([]:List TreeBind))<|oD (dE q0)<|oK 2 [0,1] h7 (c37vadu h6) k))
 obtain⟨r8,h9,h⟩:=obind h
 have k:=oC 1 [] (c44 h9)<|oK 2 [0,1] h7 (c37vadu h6) k
 obtain⟨h10,h⟩:=splF h
 have k:=oB 4 h10 k
 obtain⟨h13,h⟩:=splF h
 obtain⟨r16,h17,h⟩:=obind h
 have k:=oB 4 h13 k
 obtain⟨h18,h⟩:=spT h
 exact k24vadv (tH q24vadv 2 [] [0,1,5] [] [0,2,3,10,11,69,70,71] (oD (dT r8.1)<|oD (dT r8.1)<|oD (dT r8.2.1.sub)<|oD (dS ([]:List ByteArray))<|oD (dT q10)<|oD (dTreeRow ([]:List TreeRow))<|oD (dTreeBind ([]:List TreeBind))<|oD (dTreeNode ([]:List TreeNode))<|oD (dTreeBind ([]:List TreeBind))<|oD (dE q0)<|oK 2 [0,1] h18 (c45vadv h17) k) (l24vadvLdy _ _ _ _ _ _ _ _ _ _ _ _ _ _ _ _ _ _ _ h))
mutual
def e6Ldz:Nat->(List Ent)->Int->Ent->(List Tm×List Tm×Int)->(List Ent)->Int->Int->Int->Int->Int->Option (Int×Int×Int)
 |0,_,_,_,_,_,_,_,_,_,_=>none
 |qq+1,p0,p1,x6,r9,l26,v93,vb0_0,vb0_1,vb2_15,vb2_16=>
 if decide (v93<(List.length x6.cons:Int))then
 gidx x6.cons v93>>=fun x30=>
 gidx p0 x30>>=fun x32=>
 e6Lea qq p0 p1 x6 r9 l26 v93 vb0_0 vb0_1 vb2_15 vb2_16 0 x32.type.k x32.type.n x32.type.sub
 else
 some (0,vb0_0,vb0_1)
def e6Lea:Nat->(List Ent)->Int->Ent->(List Tm×List Tm×Int)->(List Ent)->Int->Int->Int->Int->Int->Int->Int->Int->(List Tm)->Option (Int×Int×Int)
 |0,_,_,_,_,_,_,_,_,_,_,_,_,_,_=>none
 |qq+1,p0,p1,x6,r9,l26,v93,vb0_0,vb0_1,vb2_15,vb2_16,v104,vb3_0,vb3_1,vb3_2=>
 if decide (v104<x6.pars)then
 gidx vb3_2 1>>=fun x35=>
 e6Lea qq p0 p1 x6 r9 l26 v93 vb0_0 vb0_1 vb2_15 vb2_16 (w64 (v104+1)) x35.k x35.n x35.sub
 else
 e24vadv qq l26 0 0 (⟨#[]⟩:ByteArray) 0 0 (⟨#[]⟩:ByteArray) 0 vb0_0 vb0_1 r9.1 vb2_15 vb2_16 (Tm.mk vb3_0 vb3_1 vb3_2) p1 0>>=fun r37=>
 if r37.1 != 0 then
 some (r37.1,r37.2.2.1,r37.2.2.2)
 else
 e6Ldz qq p0 p1 x6 r9 l26 (w64 (v93+1)) r37.2.2.1 r37.2.2.2 r37.1 r37.2.1
end
def e6(qq:Nat)(p0:List Ent)(p1 fl fu:Int):Option (Int×Int×Int):=
 e19 qq p0>>=fun r1=>
 if r1 then
 if decide (p1<0)then
 none
 else
 if decide (p1≥(List.length p0:Int))then
 some (16,fl,fu)
 else
 gidx p0 p1>>=fun x6=>
 if x6.kind != 1 then
 some (16,fl,fu)
 else
 e20 qq p0 p1>>=fun r9=>
 gsl p0 0 p1>>=fun x11=>
 e21vads qq x11 0 0 (⟨#[]⟩:ByteArray) 0 0 (⟨#[]⟩:ByteArray) 0 fl fu r9.1 0 0 []>>=fun r13=>
 gsl r9.1 0 (List.length r9.1:Int)>>=fun x15=>
 gapp 40 x15 r9.2.1>>=fun l17=>
 e22 qq (Mach.mk r13.2.2.2.2.2.1 r13.2.2.2.2.2.2.2.2.1 r13.2.2.2.2.2.2.2.2.2 r13.2.2.2.2.2.2.1 r13.2.2.2.2.2.2.2.1) fl fu r13.1 r13.2.1 r13.2.2.1 l17>>=fun r20=>
 if r20.2.1 != 0 then
 none
 else
 if decide (x6.level≥7)then
 none
 else
 e23 qq x11>>=fun r24=>
 gapp 192 r24 [(Ent.mk x6.kind x6.name x6.type x6.body x6.fam x6.place x6.pars x6.inds x6.level [] [])]>>=fun l26=>
 e6Ldz qq p0 p1 x6 r9 l26 0 r20.2.2.1 r20.2.2.2 r13.2.2.2.1 r13.2.2.2.2.1
 else
 none
def g6LdzE0(j:Nat->Value)(p0:List Ent)(p1:Int)(x6:Ent)(r9:List Tm×List Tm×Int)(l26:List Ent)(v93 vb0_0 vb0_1 vb2_15 vb2_16:Int):=sp j 125 0 [(0,slv entL p0 .no),(1,ai p1),(7,.mp 1 0),(11,.mp 2 0),(91,slv intC x6.cons .no),(92,ai (List.length x6.cons:Int)),(93,ai v93)]
def g6LdzS0(p0:List Ent)(p1:Int)(x6:Ent)(r9:List Tm×List Tm×Int)(l26:List Ent)(v93 vb0_0 vb0_1 vb2_15 vb2_16:Int):LSt:=⟨[(0,.cells [ai vb0_0,ai vb0_1]),(1,.cells [ai x6.kind,at' x6.name,ai x6.type.k,ai x6.type.n,slv tmCells x6.type.sub .no,ai x6.body.k,ai x6.body.n,slv tmCells x6.body.sub .no,ai x6.fam,ai x6.place,ai x6.pars,ai x6.inds,ai x6.level,slv intC x6.cons .no,slv intC x6.fields .no]),(2,.cells [slv entL l26 .no,ai 0,ai 0,at' (⟨#[]⟩:ByteArray),slv treeBindL ([]:List TreeBind) .nl,ai 0,ai 0,at' (⟨#[]⟩:ByteArray),ai 0,slv treeNodeC ([]:List TreeNode) .nl,slv treeBindL ([]:List TreeBind) .nl,slv treeRowL ([]:List TreeRow) .nl,.mp 0 0,slv tmCells r9.1 .no,slv strC ([]:List ByteArray) .nl,ai vb2_15,ai vb2_16])],3,[],0,[]⟩
def g6LeaE0(j:Nat->Value)(p0:List Ent)(p1:Int)(x6:Ent)(r9:List Tm×List Tm×Int)(l26:List Ent)(v93 vb0_0 vb0_1 vb2_15 vb2_16 v104 vb3_0 vb3_1:Int)(vb3_2:List Tm):=sp j 125 0 [(0,slv entL p0 .no),(1,ai p1),(7,.mp 1 0),(11,.mp 2 0),(18,.mp 3 0),(91,slv intC x6.cons .no),(92,ai (List.length x6.cons:Int)),(93,ai v93),(103,ai x6.pars),(104,ai v104)]
def g6LeaS0(p0:List Ent)(p1:Int)(x6:Ent)(r9:List Tm×List Tm×Int)(l26:List Ent)(v93 vb0_0 vb0_1 vb2_15 vb2_16 v104 vb3_0 vb3_1:Int)(vb3_2:List Tm):LSt:=⟨[(0,.cells [ai vb0_0,ai vb0_1]),(1,.cells [ai x6.kind,at' x6.name,ai x6.type.k,ai x6.type.n,slv tmCells x6.type.sub .no,ai x6.body.k,ai x6.body.n,slv tmCells x6.body.sub .no,ai x6.fam,ai x6.place,ai x6.pars,ai x6.inds,ai x6.level,slv intC x6.cons .no,slv intC x6.fields .no]),(2,.cells [slv entL l26 .no,ai 0,ai 0,at' (⟨#[]⟩:ByteArray),slv treeBindL ([]:List TreeBind) .nl,ai 0,ai 0,at' (⟨#[]⟩:ByteArray),ai 0,slv treeNodeC ([]:List TreeNode) .nl,slv treeBindL ([]:List TreeBind) .nl,slv treeRowL ([]:List TreeRow) .nl,.mp 0 0,slv tmCells r9.1 .no,slv strC ([]:List ByteArray) .nl,ai vb2_15,ai vb2_16]),(3,.cells [ai vb3_0,ai vb3_1,slv tmCells vb3_2 .no])],4,[],0,[]⟩
abbrev K6 (p0:List Ent) (p1 fl fu:Int) (r:Int×Int×Int) (C:Cf):Prop:=C 6 [.cells [ai fl,ai fu]] [slv entL p0 .no,ai p1,.mp 0 0] (ai r.1) [.cells [ai r.2.1,ai r.2.2]] 0
theorem q6:Qf 6 Tryz.f6:=⟨Tryz.func6,by kernel_rfl⟩
theorem k6{p0 p1 fl fu r}(h:K6 p0 p1 fl fu r Ci):K6 p0 p1 fl fu r Ct:=⟨h,⟨⟨tv,dE _⟩,tv,(lz rfl),tv⟩,(forall_cons ⟨tv,tv,tv⟩ forall_nil),tv,(forall_cons ⟨tv,tv,tv⟩ forall_nil)⟩
theorem a6Ldz_6Lea:∀qq:Nat,(∀p0 p1 x6 r9 l26 v93 vb0_0 vb0_1 vb2_15 vb2_16 r,e6Ldz qq p0 p1 x6 r9 l26 v93 vb0_0 vb0_1 vb2_15 vb2_16=some r->(∀j,Dl Tryz.prog 1 (inn (inn (rgt (lft (rgt (rgt (rgt (rgt (rgt (rgt (rgt (rgt (rgt (rgt (rgt (rgt (bod Tryz.f6))))))))))))))))) (g6LdzE0 j p0 p1 x6 r9 l26 v93 vb0_0 vb0_1 vb2_15 vb2_16) (g6LdzS0 p0 p1 x6 r9 l26 v93 vb0_0 vb0_1 vb2_15 vb2_16) (frameQ Tryz.prog 1 (FinQ Tryz.prog 1 Tryz.f6 (ai r.1) [.cells [ai r.2.1,ai r.2.2]] 0) [.blk 0,.seq (rgt (rgt (rgt (rgt (rgt (rgt (rgt (rgt (rgt (rgt (rgt (rgt (rgt (bod Tryz.f6))))))))))))))])))∧(∀p0 p1 x6 r9 l26 v93 vb0_0 vb0_1 vb2_15 vb2_16 v104 vb3_0 vb3_1 vb3_2 r,e6Lea qq p0 p1 x6 r9 l26 v93 vb0_0 vb0_1 vb2_15 vb2_16 v104 vb3_0 vb3_1 vb3_2=some r->(∀j,Dl Tryz.prog 1 (inn (inn (rgt (lft (rgt (rgt (inn (lft (rgt (rgt (inn (inn (rgt (lft (rgt (rgt (rgt (rgt (rgt (rgt (rgt (rgt (rgt (rgt (rgt (rgt (bod Tryz.f6))))))))))))))))))))))))))) (g6LeaE0 j p0 p1 x6 r9 l26 v93 vb0_0 vb0_1 vb2_15 vb2_16 v104 vb3_0 vb3_1 vb3_2) (g6LeaS0 p0 p1 x6 r9 l26 v93 vb0_0 vb0_1 vb2_15 vb2_16 v104 vb3_0 vb3_1 vb3_2) (frameQ Tryz.prog 1 (FinQ Tryz.prog 1 Tryz.f6 (ai r.1) [.cells [ai r.2.1,ai r.2.2]] 0) [.blk 2,.seq (rgt (rgt (rgt (inn (lft (rgt (rgt (inn (inn (rgt (lft (rgt (rgt (rgt (rgt (rgt (rgt (rgt (rgt (rgt (rgt (rgt (rgt (bod Tryz.f6)))))))))))))))))))))))),.blk 1,.seq (rgt (rgt (rgt (inn (inn (rgt (lft (rgt (rgt (rgt (rgt (rgt (rgt (rgt (rgt (rgt (rgt (rgt (rgt (bod Tryz.f6)))))))))))))))))))),.loop (inn (inn (rgt (lft (rgt (rgt (rgt (rgt (rgt (rgt (rgt (rgt (rgt (rgt (rgt (rgt (bod Tryz.f6))))))))))))))))),.blk 0,.seq (rgt (rgt (rgt (rgt (rgt (rgt (rgt (rgt (rgt (rgt (rgt (rgt (rgt (bod Tryz.f6))))))))))))))]))):=by
 intro qq
 induction qq with
 |zero=>
  exact⟨fun _ _ _ _ _ _ _ _ _ _ _ h=>nn h,fun _ _ _ _ _ _ _ _ _ _ _ _ _ _ _ h=>nn h⟩
 |succ qq ih=>
  obtain⟨ih6Ldz,ih6Lea⟩:=ih
  refine⟨?_,?_⟩
  intro p0 p1 x6 r9 l26 v93 vb0_0 vb0_1 vb2_15 vb2_16 r h
  rw[e6Ldz]at h
  rcases spl h with⟨h29,h⟩|⟨h29,h⟩
  obtain⟨x30,h31,h⟩:=obind h
  obtain⟨x32,h33,h⟩:=obind h
  exact fun j=>lH 3 [] [0,1,2,3] [] [0,1,7,11,18,91,92,93,103,104] (oD (dI x6.cons)<|oD (dE p0)<|oD (dT x32.type.sub)<|oD (dS ([]:List ByteArray))<|oD (dT r9.1)<|oD (dTreeRow ([]:List TreeRow))<|oD (dTreeBind ([]:List TreeBind))<|oD (dTreeNode ([]:List TreeNode))<|oD (dTreeBind ([]:List TreeBind))<|oD (dE l26)<|oD (dI x6.fields)<|oD (dI x6.cons)<|oD (dT x6.body.sub)<|oD (dT x6.type.sub)<|oA 1 (ix22 (o:=.no) h33)<|oA 0 (ix32 (o:=.no) h31)<|oB 0 h29 o0) (ih6Lea _ _ _ _ _ _ _ _ _ _ _ _ _ _ _ h)
  obtain rfl:=sj h
  exact fun j=>lF 0 [0] (oB 0 h29 o0)
  intro p0 p1 x6 r9 l26 v93 vb0_0 vb0_1 vb2_15 vb2_16 v104 vb3_0 vb3_1 vb3_2 r h
  rw[e6Lea]at h
  rcases spl h with⟨h34,h⟩|⟨h34,h⟩
  obtain⟨x35,h36,h⟩:=obind h
  exact fun j=>lH 3 [] [0,1,2,3] [] [0,1,7,11,18,91,92,93,103,104] (oD (dI x6.cons)<|oD (dE p0)<|oD (dT x35.sub)<|oD (dS ([]:List ByteArray))<|oD (dT r9.1)<|oD (dTreeRow ([]:List TreeRow))<|oD (dTreeBind ([]:List TreeBind))<|oD (dTreeNode ([]:List TreeNode))<|oD (dTreeBind ([]:List TreeBind))<|oD (dE l26)<|oD (dI x6.fields)<|oD (dI x6.cons)<|oD (dT x6.body.sub)<|oD (dT x6.type.sub)<|oA 1 (ix29 (o:=.no) h36)<|oB 0 h34 o0) (ih6Lea _ _ _ _ _ _ _ _ _ _ _ _ _ _ _ h)
  obtain⟨r37,h38,h⟩:=obind h
  have k:=oC 1 [2,0] (c24vadv h38)<|oB 0 h34 o0
  rcases spl h with⟨h39,h⟩|⟨h39,h⟩
  obtain rfl:=sj h
  exact fun j=>lF 1 [0] (oB 1 h39 k)
  exact fun j=>lH 1 [] [0,1,2] [] [0,1,7,11,91,92,93] (oD (dI x6.cons)<|oD (dE p0)<|oD (dS ([]:List ByteArray))<|oD (dT r9.1)<|oD (dTreeRow ([]:List TreeRow))<|oD (dTreeBind ([]:List TreeBind))<|oD (dTreeNode ([]:List TreeNode))<|oD (dTreeBind ([]:List TreeBind))<|oD (dE l26)<|oD (dI x6.fields)<|oD (dI x6.cons)<|oD (dT x6.body.sub)<|oD (dT x6.type.sub)<|oB 1 h39 k) (ih6Ldz _ _ _ _ _ _ _ _ _ _ _ h)
theorem c6{qq p0 p1 fl fu r}(h:e6 qq p0 p1 fl fu=some r):K6 p0 p1 fl fu r Ct:=by
 unfold e6 at h
 obtain⟨r1,h2,h⟩:=obind h
 obtain⟨h3,h⟩:=spT h
 have k:=oK 0 [] h3 (c19 h2) o0
 obtain⟨h4,h⟩:=splF h
 have k:=oB 1 h4 k
 rcases spl h with⟨h5,h⟩|⟨h5,h⟩
 obtain rfl:=sj h
 exact k6 (tF q6 0 [0] (oB 1 h5 k))
 obtain⟨x6,h7,h⟩:=obind h
 have k:=oA 0 (ix22 (o:=.no) h7)<|oB 1 h5 k
 rcases spl h with⟨h8,h⟩|⟨h8,h⟩
 obtain rfl:=sj h
 exact k6 (tF q6 0 [0] (oB 1 h8 k))
 obtain⟨r9,h10,h⟩:=obind h
 obtain⟨x11,h12,h⟩:=obind h
 obtain⟨r13,h14,h⟩:=obind h
 obtain⟨x15,h16,h⟩:=obind h
 obtain⟨l17,h18,h⟩:=obind h
 have k:=oA 4 (slTo3_29 (o:=.no) h16)<|oC 0 [2,0] (c21vads h14)<|oA 3 (slTo22 h12)<|oC 2 [] (c20 h10)<|oA 0 (ix22 (o:=.no) h7)<|oB 1 h8 k
 by_cases h19:List.length r9.2.1=0
 obtain⟨r20,h21,h⟩:=obind h
 have k:=oC 0 [3,4,0] (c22 h21)<|oP 0 (apN29 h18 h19) k
 obtain⟨h22,h⟩:=splF h
 have k:=oB 2 h22 k
 obtain⟨h23,h⟩:=splF h
 obtain⟨r24,h25,h⟩:=obind h
 obtain⟨l26,h27,h⟩:=obind h
 have k:=oC 0 [] (c23 h25)<|oA 4 (slTo22 h12)<|oB 1 h23 k
 by_cases h28:List.length [(Ent.mk x6.kind x6.name x6.type x6.body x6.fam x6.place x6.pars x6.inds x6.level [] [])]=0
 exact k6 (tH q6 3 [] [0,1,2] [] [0,1,7,11,91,92,93] (oD (dI x6.cons)<|oD (dE p0)<|oD (dS ([]:List ByteArray))<|oD (dT r9.1)<|oD (dTreeRow ([]:List TreeRow))<|oD (dTreeBind ([]:List TreeBind))<|oD (dTreeNode ([]:List TreeNode))<|oD (dTreeBind ([]:List TreeBind))<|oD (dE l26)<|oD (dI x6.fields)<|oD (dI x6.cons)<|oD (dT x6.body.sub)<|oD (dT x6.type.sub)<|oP 2 (apN22 h27 h28) k) (((a6Ldz_6Lea _).1) _ _ _ _ _ _ _ _ _ _ _ h))
 exact k6 (tH q6 3 [] [0,1,2] [] [0,1,7,11,91,92,93] (oD (dI x6.cons)<|oD (dE p0)<|oD (dS ([]:List ByteArray))<|oD (dT r9.1)<|oD (dTreeRow ([]:List TreeRow))<|oD (dTreeBind ([]:List TreeBind))<|oD (dTreeNode ([]:List TreeNode))<|oD (dTreeBind ([]:List TreeBind))<|oD (dE l26)<|oD (dI x6.fields)<|oD (dI x6.cons)<|oD (dT x6.body.sub)<|oD (dT x6.type.sub)<|oP 2 (apS22 h27 h28) k) (((a6Ldz_6Lea _).1) _ _ _ _ _ _ _ _ _ _ _ h))
 obtain⟨r20,h21,h⟩:=obind h
 have k:=oC 0 [3,4,0] (c22 h21)<|oP 0 (apS29 h18 h19) k
 obtain⟨h22,h⟩:=splF h
 have k:=oB 2 h22 k
 obtain⟨h23,h⟩:=splF h
 obtain⟨r24,h25,h⟩:=obind h
 obtain⟨l26,h27,h⟩:=obind h
 have k:=oC 0 [] (c23 h25)<|oA 4 (slTo22 h12)<|oB 1 h23 k
 by_cases h28:List.length [(Ent.mk x6.kind x6.name x6.type x6.body x6.fam x6.place x6.pars x6.inds x6.level [] [])]=0
 exact k6 (tH q6 3 [] [0,1,2] [] [0,1,7,11,91,92,93] (oD (dI x6.cons)<|oD (dE p0)<|oD (dS ([]:List ByteArray))<|oD (dT r9.1)<|oD (dTreeRow ([]:List TreeRow))<|oD (dTreeBind ([]:List TreeBind))<|oD (dTreeNode ([]:List TreeNode))<|oD (dTreeBind ([]:List TreeBind))<|oD (dE l26)<|oD (dI x6.fields)<|oD (dI x6.cons)<|oD (dT x6.body.sub)<|oD (dT x6.type.sub)<|oP 2 (apN22 h27 h28) k) (((a6Ldz_6Lea _).1) _ _ _ _ _ _ _ _ _ _ _ h))
 exact k6 (tH q6 3 [] [0,1,2] [] [0,1,7,11,91,92,93] (oD (dI x6.cons)<|oD (dE p0)<|oD (dS ([]:List ByteArray))<|oD (dT r9.1)<|oD (dTreeRow ([]:List TreeRow))<|oD (dTreeBind ([]:List TreeBind))<|oD (dTreeNode ([]:List TreeNode))<|oD (dTreeBind ([]:List TreeBind))<|oD (dE l26)<|oD (dI x6.fields)<|oD (dI x6.cons)<|oD (dT x6.body.sub)<|oD (dT x6.type.sub)<|oP 2 (apS22 h27 h28) k) (((a6Ldz_6Lea _).1) _ _ _ _ _ _ _ _ _ _ _ h))
def e6vw(qq:Nat)(p0:List Ent)(p1:Int)(fl:Int)(fu:Int)(n0:Nat):Option (Int×Int×Int):=if (List.isEmpty p0||n0 != List.length p0)then none else e6 qq p0 p1 fl fu
theorem c6vw{qq p0 p1 fl fu n0 r}(h:e6vw qq p0 p1 fl fu n0=some r):CT Tryz.prog 6 [.cells [ai fl,ai fu],.row (flat entL p0)] [.ms 1 0 n0 n0 15,ai p1,.mp 0 0] (ai r.1) [.cells [ai r.2.1,ai r.2.2],.row (flat entL p0)] 0:=by
 unfold e6vw at h
 obtain⟨hn0,h2⟩:=splF h
 obtain⟨hn,hm⟩:=Bool.or_eq_false_iff.1 hn0
 clear h hn0
 obtain rfl:n0=List.length p0:=by simpa using hm
 exact CT.lend (a1:=[]) (c6 h2) rfl (by intro X hX;simp only[List.mem_cons,List.not_mem_nil,or_false]at hX;subst hX;exact⟨_,rfl,(by intro a ha;simp only[List.mem_cons,List.not_mem_nil,or_false]at ha;rcases ha with rfl|rfl<;>exact⟨_,rfl⟩)⟩) (by intro X hX;simp only[List.mem_cons,List.not_mem_nil,or_false]at hX;subst hX;exact⟨_,rfl,(by intro a ha;simp only[List.mem_cons,List.not_mem_nil,or_false]at ha;rcases ha with rfl|rfl<;>exact⟨_,rfl⟩)⟩) ⟨_,rfl⟩ (fun a ha=>nomatch ha) (fun a ha=>by simp only[List.mem_cons,List.not_mem_nil,or_false]at ha;rcases ha with rfl|rfl<;>first|exact .inl ⟨_,rfl⟩|exact .inr ⟨_,_,rfl,Nat.le_of_ble_eq_true rfl⟩) (dE _) (fun e=>by rw[flat_nil codecE (by decide) e]at hn;cases hn)
def e3Leb:Nat->U8->(List Ent)->Int->Option (Bool)
 |0,_,_,_=>none
 |qq+1,p0,r1,v4=>
 if decide (v4<(List.length r1:Int))then
 e5 qq 5000>>=fun r4=>
 e6vw qq r1 v4 r4.2.1 r4.2.2 (List.length r1)>>=fun r6=>
 gchk (List.length r1) v4>>=fun x8=>
 gidx r1 (x8:Int)>>=fun x10=>
 if x10.kind==1 then
 if r6.1 != 0 then
 none
 else
 if x10.kind != 1 then
 if r6.1 != 16 then
 none
 else
 e3Leb qq p0 r1 (w64 (v4+1))
 else
 e3Leb qq p0 r1 (w64 (v4+1))
 else
 if x10.kind != 1 then
 if r6.1 != 16 then
 none
 else
 e3Leb qq p0 r1 (w64 (v4+1))
 else
 e3Leb qq p0 r1 (w64 (v4+1))
 else
 e7 qq 18>>=fun r18=>
 if (Int.tmod p0 4)==0 then
 e7 qq 0>>=fun r21=>
 e8 qq r18 r21>>=fun r23=>
 e8 qq r23 r18>>=fun r25=>
 gchk (List.length r1) 20>>=fun x27=>
 gidx r1 (x27:Int)>>=fun x29=>
 gset r1 x27 (Ent.mk x29.kind x29.name r25 x29.body x29.fam x29.place x29.pars x29.inds x29.level x29.cons x29.fields)>>=fun l31=>
 e5 qq 5000>>=fun r33=>
 e6vw qq l31 18 r33.2.1 r33.2.2 (List.length r1)>>=fun r35=>
 if r35.1==9 then
 e11 qq>>=fun r38=>
 some r38
 else
 none
 else
 if (Int.tmod p0 4)==1 then
 e9 qq 0>>=fun r41=>
 e8 qq r41 r18>>=fun r43=>
 gchk (List.length r1) 20>>=fun x45=>
 gidx r1 (x45:Int)>>=fun x47=>
 gset r1 x45 (Ent.mk x47.kind x47.name r43 x47.body x47.fam x47.place x47.pars x47.inds x47.level x47.cons x47.fields)>>=fun l49=>
 e5 qq 5000>>=fun r51=>
 e6vw qq l49 18 r51.2.1 r51.2.2 (List.length r1)>>=fun r53=>
 if r53.1==7 then
 e11 qq>>=fun r56=>
 some r56
 else
 none
 else
 if (Int.tmod p0 4)==2 then
 e7 qq 1>>=fun r59=>
 e8 qq r59 r18>>=fun r61=>
 gchk (List.length r1) 20>>=fun x63=>
 gidx r1 (x63:Int)>>=fun x65=>
 gset r1 x63 (Ent.mk x65.kind x65.name r61 x65.body x65.fam x65.place x65.pars x65.inds x65.level x65.cons x65.fields)>>=fun l67=>
 e5 qq 5000>>=fun r69=>
 e6vw qq l67 18 r69.2.1 r69.2.2 (List.length r1)>>=fun r71=>
 if r71.1==6 then
 e11 qq>>=fun r74=>
 some r74
 else
 none
 else
 e7 qq 6>>=fun r76=>
 e10 qq r76 [r18]>>=fun r78=>
 e8 qq r78 r18>>=fun r80=>
 gchk (List.length r1) 20>>=fun x82=>
 gidx r1 (x82:Int)>>=fun x84=>
 gset r1 x82 (Ent.mk x84.kind x84.name r80 x84.body x84.fam x84.place x84.pars x84.inds x84.level x84.cons x84.fields)>>=fun l86=>
 e5 qq 5000>>=fun r88=>
 e6vw qq l86 18 r88.2.1 r88.2.2 (List.length r1)>>=fun r90=>
 if r90.1==9 then
 e11 qq>>=fun r93=>
 some r93
 else
 none
def e3(qq:Nat)(p0:U8):Option (Bool):=
 e4 qq>>=fun r1=>
 e3Leb qq p0 r1 0
def g3LebE0(j:Nat->Value)(p0:U8)(r1:List Ent)(v4:Int):=sp j 99 0 [(0,.val (.int .u8 p0)),(3,.ms 0 0 (List.length r1) (List.length r1) 15),(4,ai v4)]
def g3LebS0(p0:U8)(r1:List Ent)(v4:Int):LSt:=⟨[(0,.row (flat entL r1))],1,[],0,[]⟩
abbrev K3 (p0:U8) (r:Bool) (C:Cf):Prop:=C 3 [] [.val (.int .u8 p0)] (ab r) [] 0
theorem q3:Qf 3 Tryz.f3:=⟨Tryz.func3,by kernel_rfl⟩
theorem k3{p0 r}(h:K3 p0 r Ci):K3 p0 r Ct:=⟨h,⟨tv,tv⟩,forall_nil,tv,forall_nil⟩
theorem l3Leb:∀qq:Nat,(∀p0 r1 v4 r,e3Leb qq p0 r1 v4=some r->(∀j,Dl Tryz.prog 0 (inn (inn (rgt (lft (rgt (rgt (bod Tryz.f3))))))) (g3LebE0 j p0 r1 v4) (g3LebS0 p0 r1 v4) (frameQ Tryz.prog 0 (FinQ Tryz.prog 0 Tryz.f3 (ab r) [] 0) [.blk 0,.seq (rgt (rgt (rgt (bod Tryz.f3))))]))):=by
 intro qq
 induction qq with
 |zero=>
  exact fun _ _ _ _ h=>nn h
 |succ qq ih=>
  intro p0 r1 v4 r h
  rw[e3Leb]at h
  rcases spl h with⟨h3,h⟩|⟨h3,h⟩
  obtain⟨r4,h5,h⟩:=obind h
  obtain⟨r6,h7,h⟩:=obind h
  obtain⟨x8,h9,h⟩:=obind h
  obtain⟨x10,h11,h⟩:=obind h
  have k:=oG (a:=(ai x10.kind)) 0 (ldE codecE h11 (false,1) (val:=ai x10.kind) rfl)<|oA 0 (ixM22 (b:=0) (c:=List.length r1) (z:=15) h9)<|oC 2 [1,0] (c6vw h7)<|oC 0 [] (c5 h5)<|oB 1 h3 o0
  rcases spl h with⟨h12,h⟩|⟨h12,h⟩
  have k:=oB 0 h12 k
  obtain⟨h13,h⟩:=splF h
  have k:=oG (a:=(ai x10.kind)) 0 (ldE codecE h11 (false,1) (val:=ai x10.kind) rfl)<|oA 0 (ixM22 (b:=0) (c:=List.length r1) (z:=15) h9)<|oB 0 h13 k
  rcases spl h with⟨h14,h⟩|⟨h14,h⟩
  have k:=oB 0 h14 k
  obtain⟨h15,h⟩:=splF h
  exact fun j=>lH 1 [] [0] [] [0,3,4] (oD (dE r1)<|oB 0 h15 k) (ih _ _ _ _ h)
  exact fun j=>lH 1 [] [0] [] [0,3,4] (oD (dE r1)<|oB 0 h14 k) (ih _ _ _ _ h)
  have k:=oG (a:=(ai x10.kind)) 0 (ldE codecE h11 (false,1) (val:=ai x10.kind) rfl)<|oA 0 (ixM22 (b:=0) (c:=List.length r1) (z:=15) h9)<|oB 0 h12 k
  rcases spl h with⟨h16,h⟩|⟨h16,h⟩
  have k:=oB 0 h16 k
  obtain⟨h17,h⟩:=splF h
  exact fun j=>lH 1 [] [0] [] [0,3,4] (oD (dE r1)<|oB 0 h17 k) (ih _ _ _ _ h)
  exact fun j=>lH 1 [] [0] [] [0,3,4] (oD (dE r1)<|oB 0 h16 k) (ih _ _ _ _ h)
  obtain⟨r18,h19,h⟩:=obind h
  have k:=oC 0 [] (c7 h19)<|oB 1 h3 o0
  rcases spl h with⟨h20,h⟩|⟨h20,h⟩
  obtain⟨r21,h22,h⟩:=obind h
  obtain⟨r23,h24,h⟩:=obind h
  obtain⟨r25,h26,h⟩:=obind h
  obtain⟨x27,h28,h⟩:=obind h
  obtain⟨x29,h30,h⟩:=obind h
  obtain⟨l31,h32,h⟩:=obind h
  obtain⟨r33,h34,h⟩:=obind h
  obtain⟨r35,h36,h⟩:=obind h
  have k:=oC 2 [2,0] (c6vw h36)<|oC 0 [] (c5 h34)<|oW 0 (wtF (x':=(Ent.mk x29.kind x29.name r25 x29.body x29.fam x29.place x29.pars x29.inds x29.level x29.cons x29.fields)) codecE h30 h32 2 3 (.agg [ai r25.k,ai r25.n,slv tmCells r25.sub .no]) rfl rfl (by decide) rfl)<|oA 0 (ixM22 (b:=0) (c:=List.length r1) (z:=15) h28)<|oC 1 [] (c8 h26)<|oC 0 [] (c8 h24)<|oC 1 [] (c7 h22)<|oB 2 h20 k
  obtain⟨h37,h⟩:=spT h
  obtain⟨r38,h39,h⟩:=obind h
  obtain rfl:=sj h
  exact fun j=>lF 0 [] (oC 0 [] (c11 h39)<|oB 0 h37 k)
  have k:=oB 2 h20 k
  rcases spl h with⟨h40,h⟩|⟨h40,h⟩
  obtain⟨r41,h42,h⟩:=obind h
  obtain⟨r43,h44,h⟩:=obind h
  obtain⟨x45,h46,h⟩:=obind h
  obtain⟨x47,h48,h⟩:=obind h
  obtain⟨l49,h50,h⟩:=obind h
  obtain⟨r51,h52,h⟩:=obind h
  obtain⟨r53,h54,h⟩:=obind h
  have k:=oC 2 [2,0] (c6vw h54)<|oC 0 [] (c5 h52)<|oW 0 (wtF (x':=(Ent.mk x47.kind x47.name r43 x47.body x47.fam x47.place x47.pars x47.inds x47.level x47.cons x47.fields)) codecE h48 h50 2 3 (.agg [ai r43.k,ai r43.n,slv tmCells r43.sub .no]) rfl rfl (by decide) rfl)<|oA 0 (ixM22 (b:=0) (c:=List.length r1) (z:=15) h46)<|oC 1 [] (c8 h44)<|oC 0 [] (c9 h42)<|oB 0 h40 k
  obtain⟨h55,h⟩:=spT h
  obtain⟨r56,h57,h⟩:=obind h
  obtain rfl:=sj h
  exact fun j=>lF 0 [] (oC 0 [] (c11 h57)<|oB 0 h55 k)
  have k:=oB 0 h40 k
  rcases spl h with⟨h58,h⟩|⟨h58,h⟩
  obtain⟨r59,h60,h⟩:=obind h
  obtain⟨r61,h62,h⟩:=obind h
  obtain⟨x63,h64,h⟩:=obind h
  obtain⟨x65,h66,h⟩:=obind h
  obtain⟨l67,h68,h⟩:=obind h
  obtain⟨r69,h70,h⟩:=obind h
  obtain⟨r71,h72,h⟩:=obind h
  have k:=oC 2 [2,0] (c6vw h72)<|oC 0 [] (c5 h70)<|oW 0 (wtF (x':=(Ent.mk x65.kind x65.name r61 x65.body x65.fam x65.place x65.pars x65.inds x65.level x65.cons x65.fields)) codecE h66 h68 2 3 (.agg [ai r61.k,ai r61.n,slv tmCells r61.sub .no]) rfl rfl (by decide) rfl)<|oA 0 (ixM22 (b:=0) (c:=List.length r1) (z:=15) h64)<|oC 1 [] (c8 h62)<|oC 0 [] (c7 h60)<|oB 0 h58 k
  obtain⟨h73,h⟩:=spT h
  obtain⟨r74,h75,h⟩:=obind h
  obtain rfl:=sj h
  exact fun j=>lF 0 [] (oC 0 [] (c11 h75)<|oB 0 h73 k)
  obtain⟨r76,h77,h⟩:=obind h
  obtain⟨r78,h79,h⟩:=obind h
  obtain⟨r80,h81,h⟩:=obind h
  obtain⟨x82,h83,h⟩:=obind h
  obtain⟨x84,h85,h⟩:=obind h
  obtain⟨l86,h87,h⟩:=obind h
  obtain⟨r88,h89,h⟩:=obind h
  obtain⟨r90,h91,h⟩:=obind h
  have k:=oC 2 [2,0] (c6vw h91)<|oC 0 [] (c5 h89)<|oW 0 (wtF (x':=(Ent.mk x84.kind x84.name r80 x84.body x84.fam x84.place x84.pars x84.inds x84.level x84.cons x84.fields)) codecE h85 h87 2 3 (.agg [ai r80.k,ai r80.n,slv tmCells r80.sub .no]) rfl rfl (by decide) rfl)<|oA 0 (ixM22 (b:=0) (c:=List.length r1) (z:=15) h83)<|oC 1 [] (c8 h81)<|oC 0 [] (c10 h79)<|oS 1 (obLitR tm_eq [r18])<|oC 0 [] (c7 h77)<|oB 0 h58 k
  obtain⟨h92,h⟩:=spT h
  obtain⟨r93,h94,h⟩:=obind h
  obtain rfl:=sj h
  exact fun j=>lF 0 [] (oC 0 [] (c11 h94)<|oB 0 h92 k)
theorem c3{qq p0 r}(h:e3 qq p0=some r):K3 p0 r Ct:=by
 unfold e3 at h
 obtain⟨r1,h2,h⟩:=obind h
 exact k3 (tH q3 0 [] [0] [] [0,3,4] (oD (dE r1)<|oC 0 [] (c4r h2) o0) (l3Leb _ _ _ _ _ h))
theorem evL:∀(q:Nat) (n m:Int),Int.tmod n 4=Int.tmod m 4->∀r1 v4,e3Leb q n r1 v4=e3Leb q m r1 v4
 |0,_,_,_,_,_=>rfl
 |q+1,n,m,h,r1,v4=>by
  rw[e3Leb,e3Leb]
  simp only[h,evL q n m h]
theorem evM(n m:Int)(h:Int.tmod n 4=Int.tmod m 4):e3 100 n=e3 100 m:=by
 unfold e3
 simp only[evL 100 n m h]
theorem ev0:e3 100 0=some true:=by kernel_rfl
theorem ev1:e3 100 1=some true:=by kernel_rfl
theorem ev2:e3 100 2=some true:=by kernel_rfl
theorem ev3:e3 100 3=some true:=by kernel_rfl
theorem u8_wf{x:Int}(h:(Lit.int .u8 x).wf=true):0≤x∧x<256:=by
 have e1:IntKind.u8.min=0:=rfl
 have e2:IntKind.u8.max=255:=rfl
 simp[Lit.wf]at h
 omega
theorem evD(x:Int)(h:0≤x):e3 100 x=some true:=by
 have h1:Int.tmod x 4=0∨Int.tmod x 4=1∨Int.tmod x 4=2∨Int.tmod x 4=3:=by
  rw[Int.tmod_eq_emod_of_nonneg h];omega
 rcases h1 with h1|h1|h1|h1
 ·rw[evM x 0 h1];exact ev0
 ·rw[evM x 1 h1];exact ev1
 ·rw[evM x 2 h1];exact ev2
 ·rw[evM x 3 h1];exact ev3
theorem dataBase_ct(x:Int)(w:(Lit.int .u8 x).wf=true):CT Tryz.prog 3 [] [.val (.int .u8 x)] (ab true) [] 0:=
 c3 (evD x (u8_wf w).1)
end Go.Proofs.YtedhamlfcienmaaGreat
namespace Go.Ab
open Go Go.RowKit
def rdG(W:World):Gh:=⟨fun _=>none,fun _=>none,fun b o=>∃v,W.cell? ⟨b,o,none⟩=some v,W,fun b=>b<W.heap.size,fun _=>False⟩
theorem rd_rel(W:World):RelS (rdG W) (over (Emp 0) (st0 [])) W:=by
 refine⟨fun _=>⟨fun _=>.inr rfl,fun _=>⟨rfl,id⟩,fun e=>e.elim⟩,⟨0,fun _ _=>rfl⟩,fun _ _ _ h=>?_,fun _ _ _ h=>?_,fun _ _ h=>⟨h,fun i e=>by cases e⟩,fun _ _=>rfl,fun _ h=>?_,fun _ _ _ _ _ _ _ h=>?_,Keep.refl _ _,fun _ h=>h⟩
 ·cases h
 ·cases h
 ·cases h
 ·cases h
theorem rd_base(W:World):Base (0:Nat) (rdG W):=⟨fun _ _=>⟨rfl,id⟩,fun _=>rfl,fun _ _ ⟨_,h⟩=>World.block_lt_of_cell? W _ h,trivial⟩
end Go.Ab
