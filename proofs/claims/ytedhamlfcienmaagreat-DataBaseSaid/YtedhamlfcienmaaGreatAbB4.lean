/- Parts of the proof that the law returns true: walks of the functions, plain laws. -/
import Derived.Test.YtedhamlfcienmaaGreatAbB3
set_option linter.unusedVariables false
set_option linter.unusedSimpArgs false
set_option linter.unusedSectionVars false
namespace Go.Proofs.YtedhamlfcienmaaGreat
open Go Go.Ab
def e117Lbi:Nat->(List TreeBind)->Int->Int->Option (Bool)
 |0,_,_,_=>none
 |qq+1,p0,p1,v9=>
 if decide (v9<(List.length p0:Int))then
 gidx p0 v9>>=fun x2=>
 if decide ((List.length p0:Int)>p1)then
 none
 else
 e51 qq x2.name_>>=fun r5=>
 if r5 then
 e116 qq x2.type_>>=fun r8=>
 if r8 then
 e117Lbi qq p0 p1 (w64 (v9+1))
 else
 none
 else
 none
 else
 some true
def e117(qq:Nat)(p0:List TreeBind)(p1:Int):Option (Bool):=
 e117Lbi qq p0 p1 0
def g117LbiE0(j:Nat->Value)(p0:List TreeBind)(p1 v9:Int):=sp j 30 0 [(0,slv treeBindL p0 .no),(1,ai p1),(7,slv treeBindL p0 .no),(8,ai (List.length p0:Int)),(9,ai v9)]
def g117LbiS0(p0:List TreeBind)(p1 v9:Int):LSt:=⟨[],0,[],0,[]⟩
abbrev K117 (p0:List TreeBind) (p1:Int) (r:Bool) (C:Cf):Prop:=C 117 [] [slv treeBindL p0 .no,ai p1] (ab r) [] 0
theorem q117:Qf 117 Tryz.f117:=⟨Tryz.func117,by kernel_rfl⟩
theorem k117{p0 p1 r}(h:K117 p0 p1 r Ci):K117 p0 p1 r Ct:=⟨h,⟨⟨tv,dTreeBind _⟩,tv,tv⟩,forall_nil,tv,forall_nil⟩
theorem l117Lbi:∀qq:Nat,(∀p0 p1 v9 r,e117Lbi qq p0 p1 v9=some r->(∀j,Dl Tryz.prog 0 (inn (inn (rgt (lft (rgt (bod Tryz.f117)))))) (g117LbiE0 j p0 p1 v9) (g117LbiS0 p0 p1 v9) (frameQ Tryz.prog 0 (FinQ Tryz.prog 0 Tryz.f117 (ab r) [] 0) [.blk 0,.seq (rgt (rgt (bod Tryz.f117)))]))):=by
 intro qq
 induction qq with
 |zero=>
  exact fun _ _ _ _ h=>nn h
 |succ qq ih=>
  intro p0 p1 v9 r h
  rw[e117Lbi]at h
  rcases spl h with⟨h1,h⟩|⟨h1,h⟩
  obtain⟨x2,h3,h⟩:=obind h
  have k:=oA 0 (ix56 (o:=.no) h3)<|oB 0 h1 o0
  obtain⟨h4,h⟩:=splF h
  obtain⟨r5,h6,h⟩:=obind h
  have k:=oB 3 h4 k
  obtain⟨h7,h⟩:=spT h
  obtain⟨r8,h9,h⟩:=obind h
  have k:=oK 1 [] h7 (c51 h6) k
  obtain⟨h10,h⟩:=spT h
  exact fun j=>lH 2 [] [] [] [0,1,7,8,9] (oD (dTreeBind p0)<|oD (dTreeBind p0)<|oK 2 [] h10 (c116 h9) k) (ih _ _ _ _ h)
  obtain rfl:=sj h
  exact fun j=>lF 0 [] (oB 0 h1 o0)
theorem c117{qq p0 p1 r}(h:e117 qq p0 p1=some r):K117 p0 p1 r Ct:=by
 unfold e117 at h
 exact k117 (tH q117 1 [] [] [] [0,1,7,8,9] (oD (dTreeBind p0)<|oD (dTreeBind p0) o0) (l117Lbi _ _ _ _ _ h))
def e72Lbj(qq:Nat)(p0:TreeDecl)(v70:Int):Option (Bool):=
 if decide (v70<(List.length p0.rows_:Int))then
 none
 else
 some true
def e72(qq:Nat)(p0:TreeDecl):Option (Bool):=
 if decide (p0.kind_<1)then
 none
 else
 if decide (p0.kind_>3)then
 none
 else
 e51 qq p0.name_>>=fun r3=>
 if r3 then
 e116 qq p0.type_>>=fun r6=>
 if r6 then
 e117 qq p0.tele_ 24>>=fun r9=>
 if r9 then
 e117 qq p0.cons_ 16>>=fun r12=>
 if r12 then
 if p0.kind_==3 then
 none
 else
 if p0.kind_ != 3 then
 if decide ((List.length p0.rows_:Int)>0)then
 none
 else
 if decide ((List.length p0.rows_:Int)>32)then
 none
 else
 e72Lbj qq p0 0
 else
 none
 else
 none
 else
 none
 else
 none
 else
 none
def g72LbjE0(j:Nat->Value)(p0:TreeDecl)(v70:Int):=sp j 78 0 [(68,slv treeRowL p0.rows_ .no),(69,ai (List.length p0.rows_:Int)),(70,ai v70)]
def g72LbjS0(p0:TreeDecl)(v70:Int):LSt:=⟨[],0,[],0,[]⟩
abbrev K72 (p0:TreeDecl) (r:Bool) (C:Cf):Prop:=C 72 [] [treeDeclA p0] (ab r) [] 0
theorem q72:Qf 72 Tryz.f72:=⟨Tryz.func72,by kernel_rfl⟩
theorem k72{p0 r}(h:K72 p0 r Ci):K72 p0 r Ct:=⟨h,⟨⟨tv,tv,tv,⟨tv,dTreeBind _⟩,tv,tv,tv,tv,⟨tv,dTreeNode _⟩,⟨tv,dTreeBind _⟩,⟨tv,dTreeRow _⟩,tv⟩,tv⟩,forall_nil,tv,forall_nil⟩
theorem l72Lbj(qq p0 v70 r)(h:e72Lbj qq p0 v70=some r):(∀j,Dl Tryz.prog 0 (inn (inn (rgt (lft (rgt (rgt (rgt (bod Tryz.f72)))))))) (g72LbjE0 j p0 v70) (g72LbjS0 p0 v70) (frameQ Tryz.prog 0 (FinQ Tryz.prog 0 Tryz.f72 (ab r) [] 0) [.blk 0,.seq (rgt (rgt (rgt (rgt (bod Tryz.f72)))))])):=by
 unfold e72Lbj at h
 obtain⟨h20,h⟩:=splF h
 obtain rfl:=sj h
 exact fun j=>lF 0 [] (oB 0 h20 o0)
theorem c72{qq p0 r}(h:e72 qq p0=some r):K72 p0 r Ct:=by
 unfold e72 at h
 obtain⟨h1,h⟩:=splF h
 have k:=oB 1 h1 o0
 obtain⟨h2,h⟩:=splF h
 obtain⟨r3,h4,h⟩:=obind h
 have k:=oB 1 h2 k
 obtain⟨h5,h⟩:=spT h
 obtain⟨r6,h7,h⟩:=obind h
 have k:=oK 1 [] h5 (c51 h4) k
 obtain⟨h8,h⟩:=spT h
 obtain⟨r9,h10,h⟩:=obind h
 have k:=oK 2 [] h8 (c116 h7) k
 obtain⟨h11,h⟩:=spT h
 obtain⟨r12,h13,h⟩:=obind h
 have k:=oK 2 [] h11 (c117 h10) k
 obtain⟨h14,h⟩:=spT h
 have k:=oK 2 [] h14 (c117 h13) k
 obtain⟨h15,h⟩:=splF h
 have k:=oB 2 h15 k
 obtain⟨h21,h⟩:=spT h
 have k:=oB 1 h21 k
 obtain⟨h22,h⟩:=splF h
 have k:=oB 2 h22 k
 obtain⟨h23,h⟩:=splF h
 exact k72 (tH q72 2 [] [] [] [68,69,70] (oD (dTreeRow p0.rows_)<|oB 2 h23 k) (l72Lbj qq _ _ _ h))
mutual
def e73vabkLbl:Nat->(List Ent)->Int->Int->ByteArray->(List TreeBind)->Int->Int->ByteArray->Int->(List TreeNode)->(List TreeBind)->(List TreeRow)->Int->Int->(List TreeBind)->(List ByteArray)->Int->Int->Int->Option (Int×Int)
 |0,_,_,_,_,_,_,_,_,_,_,_,_,_,_,_,_,_,_,_=>none
 |qq+1,q0,q1,q2,q3,q4,q5,q6,q7,q8,q9,q10,q11,q12,q13,l3,v2,v33,vb0_15,vb0_16=>
 if decide (v33<(List.length l3:Int))then
 gidx l3 v33>>=fun x7=>
 e73vabkLbm qq q0 q1 q2 q3 q4 q5 q6 q7 q8 q9 q10 q11 q12 q13 l3 v2 v33 x7 0 vb0_15 vb0_16
 else
 some (vb0_15,vb0_16)
def e73vabkLbm:Nat->(List Ent)->Int->Int->ByteArray->(List TreeBind)->Int->Int->ByteArray->Int->(List TreeNode)->(List TreeBind)->(List TreeRow)->Int->Int->(List TreeBind)->(List ByteArray)->Int->TreeBind->Int->Int->Int->Option (Int×Int)
 |0,_,_,_,_,_,_,_,_,_,_,_,_,_,_,_,_,_,_,_,_,_=>none
 |qq+1,q0,q1,q2,q3,q4,q5,q6,q7,q8,q9,q10,q11,q12,q13,l3,v2,v33,x7,v39,vb0_15,vb0_16=>
 if decide (v39<(List.length v2:Int))then
 gidx v2 v39>>=fun x10=>
 if x10.toList==x7.name_.toList then
 none
 else
 e73vabkLbm qq q0 q1 q2 q3 q4 q5 q6 q7 q8 q9 q10 q11 q12 q13 l3 v2 v33 x7 (w64 (v39+1)) vb0_15 vb0_16
 else
 gapp 16 v2 [x7.name_]>>=fun l15=>
 e73vabkLbl qq q0 q1 q2 q3 q4 q5 q6 q7 q8 q9 q10 q11 q12 q13 l3 l15 (w64 (v33+1)) vb0_15 vb0_16
end
def e73vabk(qq:Nat)(q0:List Ent)(q1 q2:Int)(q3:ByteArray)(q4:List TreeBind)(q5 q6:Int)(q7:ByteArray)(q8:Int)(q9:List TreeNode)(q10:List TreeBind)(q11:List TreeRow)(q12 q13 q14 q15:Int):Option (Int×Int):=
 e32 qq q0>>=fun r1=>
 gapp 88 [(TreeBind.mk q3 q2 (TreeNode.mk 0 0 (⟨#[]⟩:ByteArray) 0 []))] q10>>=fun l3=>
 e73vabkLbl qq q0 q1 q2 q3 q4 q5 q6 q7 q8 q9 q10 q11 q12 q13 l3 r1 0 q14 q15
def g73vabkLblE0(j:Nat->Value)(q0:List Ent)(q1 q2:Int)(q3:ByteArray)(q4:List TreeBind)(q5 q6:Int)(q7:ByteArray)(q8:Int)(q9:List TreeNode)(q10:List TreeBind)(q11:List TreeRow)(q12 q13:Int)(l3:List TreeBind)(v2:List ByteArray)(v33 vb0_15 vb0_16:Int):=sp j 58 0 [(0,.mp 0 0),(2,slv strC v2 (.st 0 1)),(31,slv treeBindL l3 .full),(32,ai (List.length l3:Int)),(33,ai v33)]
def g73vabkLblS0(q0:List Ent)(q1 q2:Int)(q3:ByteArray)(q4:List TreeBind)(q5 q6:Int)(q7:ByteArray)(q8:Int)(q9:List TreeNode)(q10:List TreeBind)(q11:List TreeRow)(q12 q13:Int)(l3:List TreeBind)(v2:List ByteArray)(v33 vb0_15 vb0_16:Int):LSt:=⟨[(0,.cells [slv entL q0 .no,ai q1,ai q2,at' q3,slv treeBindL q4 .no,ai q5,ai q6,at' q7,ai q8,slv treeNodeC q9 .no,slv treeBindL q10 .no,slv treeRowL q11 .no,.mp 1 0,slv tmCells ([]:List Tm) .nl,slv strC ([]:List ByteArray) .nl,ai vb0_15,ai vb0_16]),(1,.cells [ai q12,ai q13])],2,[0],1,[]⟩
def g73vabkLblE1(j:Nat->Value)(q0:List Ent)(q1 q2:Int)(q3:ByteArray)(q4:List TreeBind)(q5 q6:Int)(q7:ByteArray)(q8:Int)(q9:List TreeNode)(q10:List TreeBind)(q11:List TreeRow)(q12 q13:Int)(l3:List TreeBind)(v2:List ByteArray)(v33 vb0_15 vb0_16:Int):=sp j 58 0 [(0,.mp 0 0),(2,slv strC v2 (.st 0 1)),(31,slv treeBindL l3 (.st 1 7)),(32,ai (List.length l3:Int)),(33,ai v33)]
def g73vabkLblS1(q0:List Ent)(q1 q2:Int)(q3:ByteArray)(q4:List TreeBind)(q5 q6:Int)(q7:ByteArray)(q8:Int)(q9:List TreeNode)(q10:List TreeBind)(q11:List TreeRow)(q12 q13:Int)(l3:List TreeBind)(v2:List ByteArray)(v33 vb0_15 vb0_16:Int):LSt:=⟨[(0,.cells [slv entL q0 .no,ai q1,ai q2,at' q3,slv treeBindL q4 .no,ai q5,ai q6,at' q7,ai q8,slv treeNodeC q9 .no,slv treeBindL q10 .no,slv treeRowL q11 .no,.mp 1 0,slv tmCells ([]:List Tm) .nl,slv strC ([]:List ByteArray) .nl,ai vb0_15,ai vb0_16]),(1,.cells [ai q12,ai q13])],2,[0,1],2,[]⟩
def g73vabkLbmE0(j:Nat->Value)(q0:List Ent)(q1 q2:Int)(q3:ByteArray)(q4:List TreeBind)(q5 q6:Int)(q7:ByteArray)(q8:Int)(q9:List TreeNode)(q10:List TreeBind)(q11:List TreeRow)(q12 q13:Int)(l3:List TreeBind)(v2:List ByteArray)(v33:Int)(x7:TreeBind)(v39 vb0_15 vb0_16:Int):=sp j 58 0 [(0,.mp 0 0),(2,slv strC v2 (.st 0 1)),(5,.mp 2 0),(31,slv treeBindL l3 .full),(32,ai (List.length l3:Int)),(33,ai v33),(37,slv strC v2 (.st 0 1)),(38,ai (List.length v2:Int)),(39,ai v39)]
def g73vabkLbmS0(q0:List Ent)(q1 q2:Int)(q3:ByteArray)(q4:List TreeBind)(q5 q6:Int)(q7:ByteArray)(q8:Int)(q9:List TreeNode)(q10:List TreeBind)(q11:List TreeRow)(q12 q13:Int)(l3:List TreeBind)(v2:List ByteArray)(v33:Int)(x7:TreeBind)(v39 vb0_15 vb0_16:Int):LSt:=⟨[(0,.cells [slv entL q0 .no,ai q1,ai q2,at' q3,slv treeBindL q4 .no,ai q5,ai q6,at' q7,ai q8,slv treeNodeC q9 .no,slv treeBindL q10 .no,slv treeRowL q11 .no,.mp 1 0,slv tmCells ([]:List Tm) .nl,slv strC ([]:List ByteArray) .nl,ai vb0_15,ai vb0_16]),(1,.cells [ai q12,ai q13]),(2,.cells [at' x7.name_,ai x7.at_,ai x7.type_.kind_,ai x7.type_.at_,at' x7.type_.name_,ai x7.type_.n_,slv treeNodeC x7.type_.sub_ .no])],3,[0],1,[]⟩
def g73vabkLbmE1(j:Nat->Value)(q0:List Ent)(q1 q2:Int)(q3:ByteArray)(q4:List TreeBind)(q5 q6:Int)(q7:ByteArray)(q8:Int)(q9:List TreeNode)(q10:List TreeBind)(q11:List TreeRow)(q12 q13:Int)(l3:List TreeBind)(v2:List ByteArray)(v33:Int)(x7:TreeBind)(v39 vb0_15 vb0_16:Int):=sp j 58 0 [(0,.mp 0 0),(2,slv strC v2 (.st 0 1)),(5,.mp 2 0),(31,slv treeBindL l3 (.st 1 7)),(32,ai (List.length l3:Int)),(33,ai v33),(37,slv strC v2 (.st 0 1)),(38,ai (List.length v2:Int)),(39,ai v39)]
def g73vabkLbmS1(q0:List Ent)(q1 q2:Int)(q3:ByteArray)(q4:List TreeBind)(q5 q6:Int)(q7:ByteArray)(q8:Int)(q9:List TreeNode)(q10:List TreeBind)(q11:List TreeRow)(q12 q13:Int)(l3:List TreeBind)(v2:List ByteArray)(v33:Int)(x7:TreeBind)(v39 vb0_15 vb0_16:Int):LSt:=⟨[(0,.cells [slv entL q0 .no,ai q1,ai q2,at' q3,slv treeBindL q4 .no,ai q5,ai q6,at' q7,ai q8,slv treeNodeC q9 .no,slv treeBindL q10 .no,slv treeRowL q11 .no,.mp 1 0,slv tmCells ([]:List Tm) .nl,slv strC ([]:List ByteArray) .nl,ai vb0_15,ai vb0_16]),(1,.cells [ai q12,ai q13]),(2,.cells [at' x7.name_,ai x7.at_,ai x7.type_.kind_,ai x7.type_.at_,at' x7.type_.name_,ai x7.type_.n_,slv treeNodeC x7.type_.sub_ .no])],3,[0,1],2,[]⟩
abbrev K73vabk (q0:List Ent) (q1 q2:Int) (q3:ByteArray) (q4:List TreeBind) (q5 q6:Int) (q7:ByteArray) (q8:Int) (q9:List TreeNode) (q10:List TreeBind) (q11:List TreeRow) (q12 q13 q14 q15:Int) (r:Int×Int) (C:Cf):Prop:=C 73 [.cells [slv entL q0 .no,ai q1,ai q2,at' q3,slv treeBindL q4 .no,ai q5,ai q6,at' q7,ai q8,slv treeNodeC q9 .no,slv treeBindL q10 .no,slv treeRowL q11 .no,.mp 1 0,slv tmCells ([]:List Tm) .nl,slv strC ([]:List ByteArray) .nl,ai q14,ai q15],.cells [ai q12,ai q13]] [.mp 0 0] (.tup []) [.cells [slv entL q0 .no,ai q1,ai q2,at' q3,slv treeBindL q4 .no,ai q5,ai q6,at' q7,ai q8,slv treeNodeC q9 .no,slv treeBindL q10 .no,slv treeRowL q11 .no,.mp 1 0,slv tmCells ([]:List Tm) .nl,slv strC ([]:List ByteArray) .nl,ai r.1,ai r.2],.cells [ai q12,ai q13]] 0
theorem q73vabk:Qf 73 Tryz.f73:=⟨Tryz.func73,by kernel_rfl⟩
theorem k73vabk{q0 q1 q2 q3 q4 q5 q6 q7 q8 q9 q10 q11 q12 q13 q14 q15 r}(h:K73vabk q0 q1 q2 q3 q4 q5 q6 q7 q8 q9 q10 q11 q12 q13 q14 q15 r Ci):K73vabk q0 q1 q2 q3 q4 q5 q6 q7 q8 q9 q10 q11 q12 q13 q14 q15 r Ct:=⟨h,⟨(lz rfl),tv⟩,(forall_cons ⟨⟨tv,dE _⟩,tv,tv,tv,⟨tv,dTreeBind _⟩,tv,tv,tv,tv,⟨tv,dTreeNode _⟩,⟨tv,dTreeBind _⟩,⟨tv,dTreeRow _⟩,(lz rfl),⟨tv,dT _⟩,⟨tv,dS _⟩,tv,tv,tv⟩ (forall_cons ⟨tv,tv,tv⟩ forall_nil)),tv,(forall_cons ⟨dE _,tv,tv,tv,dTreeBind _,tv,tv,tv,tv,dTreeNode _,dTreeBind _,dTreeRow _,(lz rfl),dT _,dS _,tv,tv,tv⟩ (forall_cons ⟨tv,tv,tv⟩ forall_nil))⟩
theorem a73vabkLbl_73vabkLbm:∀qq:Nat,(∀q0 q1 q2 q3 q4 q5 q6 q7 q8 q9 q10 q11 q12 q13 l3 v2 v33 vb0_15 vb0_16 r,e73vabkLbl qq q0 q1 q2 q3 q4 q5 q6 q7 q8 q9 q10 q11 q12 q13 l3 v2 v33 vb0_15 vb0_16=some r->(∀j,Dl Tryz.prog 2 (inn (inn (rgt (rgt (rgt (bod Tryz.f73)))))) (g73vabkLblE0 j q0 q1 q2 q3 q4 q5 q6 q7 q8 q9 q10 q11 q12 q13 l3 v2 v33 vb0_15 vb0_16) (g73vabkLblS0 q0 q1 q2 q3 q4 q5 q6 q7 q8 q9 q10 q11 q12 q13 l3 v2 v33 vb0_15 vb0_16) (frameQ Tryz.prog 2 (FinQ Tryz.prog 2 Tryz.f73 (.tup []) [.cells [slv entL q0 .no,ai q1,ai q2,at' q3,slv treeBindL q4 .no,ai q5,ai q6,at' q7,ai q8,slv treeNodeC q9 .no,slv treeBindL q10 .no,slv treeRowL q11 .no,.mp 1 0,slv tmCells ([]:List Tm) .nl,slv strC ([]:List ByteArray) .nl,ai r.1,ai r.2],.cells [ai q12,ai q13]] 0) [.blk 0]))∧(∀j,Dl Tryz.prog 2 (inn (inn (rgt (rgt (rgt (bod Tryz.f73)))))) (g73vabkLblE1 j q0 q1 q2 q3 q4 q5 q6 q7 q8 q9 q10 q11 q12 q13 l3 v2 v33 vb0_15 vb0_16) (g73vabkLblS1 q0 q1 q2 q3 q4 q5 q6 q7 q8 q9 q10 q11 q12 q13 l3 v2 v33 vb0_15 vb0_16) (frameQ Tryz.prog 2 (FinQ Tryz.prog 2 Tryz.f73 (.tup []) [.cells [slv entL q0 .no,ai q1,ai q2,at' q3,slv treeBindL q4 .no,ai q5,ai q6,at' q7,ai q8,slv treeNodeC q9 .no,slv treeBindL q10 .no,slv treeRowL q11 .no,.mp 1 0,slv tmCells ([]:List Tm) .nl,slv strC ([]:List ByteArray) .nl,ai r.1,ai r.2],.cells [ai q12,ai q13]] 0) [.blk 0])))∧(∀q0 q1 q2 q3 q4 q5 q6 q7 q8 q9 q10 q11 q12 q13 l3 v2 v33 x7 v39 vb0_15 vb0_16 r,e73vabkLbm qq q0 q1 q2 q3 q4 q5 q6 q7 q8 q9 q10 q11 q12 q13 l3 v2 v33 x7 v39 vb0_15 vb0_16=some r->(∀j,Dl Tryz.prog 2 (inn (inn (rgt (lft (rgt (inn (lft (rgt (rgt (inn (inn (rgt (rgt (rgt (bod Tryz.f73))))))))))))))) (g73vabkLbmE0 j q0 q1 q2 q3 q4 q5 q6 q7 q8 q9 q10 q11 q12 q13 l3 v2 v33 x7 v39 vb0_15 vb0_16) (g73vabkLbmS0 q0 q1 q2 q3 q4 q5 q6 q7 q8 q9 q10 q11 q12 q13 l3 v2 v33 x7 v39 vb0_15 vb0_16) (frameQ Tryz.prog 2 (FinQ Tryz.prog 2 Tryz.f73 (.tup []) [.cells [slv entL q0 .no,ai q1,ai q2,at' q3,slv treeBindL q4 .no,ai q5,ai q6,at' q7,ai q8,slv treeNodeC q9 .no,slv treeBindL q10 .no,slv treeRowL q11 .no,.mp 1 0,slv tmCells ([]:List Tm) .nl,slv strC ([]:List ByteArray) .nl,ai r.1,ai r.2],.cells [ai q12,ai q13]] 0) [.blk 2,.seq (rgt (rgt (inn (lft (rgt (rgt (inn (inn (rgt (rgt (rgt (bod Tryz.f73)))))))))))),.blk 1,.seq (rgt (rgt (rgt (inn (inn (rgt (rgt (rgt (bod Tryz.f73))))))))),.loop (inn (inn (rgt (rgt (rgt (bod Tryz.f73)))))),.blk 0]))∧(∀j,Dl Tryz.prog 2 (inn (inn (rgt (lft (rgt (inn (lft (rgt (rgt (inn (inn (rgt (rgt (rgt (bod Tryz.f73))))))))))))))) (g73vabkLbmE1 j q0 q1 q2 q3 q4 q5 q6 q7 q8 q9 q10 q11 q12 q13 l3 v2 v33 x7 v39 vb0_15 vb0_16) (g73vabkLbmS1 q0 q1 q2 q3 q4 q5 q6 q7 q8 q9 q10 q11 q12 q13 l3 v2 v33 x7 v39 vb0_15 vb0_16) (frameQ Tryz.prog 2 (FinQ Tryz.prog 2 Tryz.f73 (.tup []) [.cells [slv entL q0 .no,ai q1,ai q2,at' q3,slv treeBindL q4 .no,ai q5,ai q6,at' q7,ai q8,slv treeNodeC q9 .no,slv treeBindL q10 .no,slv treeRowL q11 .no,.mp 1 0,slv tmCells ([]:List Tm) .nl,slv strC ([]:List ByteArray) .nl,ai r.1,ai r.2],.cells [ai q12,ai q13]] 0) [.blk 2,.seq (rgt (rgt (inn (lft (rgt (rgt (inn (inn (rgt (rgt (rgt (bod Tryz.f73)))))))))))),.blk 1,.seq (rgt (rgt (rgt (inn (inn (rgt (rgt (rgt (bod Tryz.f73))))))))),.loop (inn (inn (rgt (rgt (rgt (bod Tryz.f73)))))),.blk 0]))):=by
 intro qq
 induction qq with
 |zero=>
  exact⟨fun _ _ _ _ _ _ _ _ _ _ _ _ _ _ _ _ _ _ _ _ h=>nn h,fun _ _ _ _ _ _ _ _ _ _ _ _ _ _ _ _ _ _ _ _ _ _ h=>nn h⟩
 |succ qq ih=>
  obtain⟨ih73vabkLbl,ih73vabkLbm⟩:=ih
  refine⟨?_,?_⟩
  intro q0 q1 q2 q3 q4 q5 q6 q7 q8 q9 q10 q11 q12 q13 l3 v2 v33 vb0_15 vb0_16 r h
  rw[e73vabkLbl]at h
  refine⟨?_,?_⟩
  rcases spl h with⟨h6,h⟩|⟨h6,h⟩
  obtain⟨x7,h8,h⟩:=obind h
  exact fun j=>lH 3 [] [0,1,2] [0] [0,2,5,31,32,33,37,38,39] (oD (dS v2)<|oD (dTreeBind l3)<|oD (dS v2)<|oD (dTreeNode x7.type_.sub_)<|oD (dS ([]:List ByteArray))<|oD (dT ([]:List Tm))<|oD (dTreeRow q11)<|oD (dTreeBind q10)<|oD (dTreeNode q9)<|oD (dTreeBind q4)<|oD (dE q0)<|oA 0 (ix56 (o:=.full) h8)<|oB 0 h6 o0) ((ih73vabkLbm _ _ _ _ _ _ _ _ _ _ _ _ _ _ _ _ _ _ _ _ _ _ h).1)
  obtain rfl:=sj h
  exact fun j=>lG 0 [] [0,1] [] true (oD (dS ([]:List ByteArray))<|oD (dT ([]:List Tm))<|oD (dTreeRow q11)<|oD (dTreeBind q10)<|oD (dTreeNode q9)<|oD (dTreeBind q4)<|oD (dE q0)<|oB 0 h6 o0)
  rcases spl h with⟨h6,h⟩|⟨h6,h⟩
  obtain⟨x7,h8,h⟩:=obind h
  exact fun j=>lH 3 [] [0,1,2] [0,1] [0,2,5,31,32,33,37,38,39] (oD (dS v2)<|oD (dTreeBind l3)<|oD (dS v2)<|oD (dTreeNode x7.type_.sub_)<|oD (dS ([]:List ByteArray))<|oD (dT ([]:List Tm))<|oD (dTreeRow q11)<|oD (dTreeBind q10)<|oD (dTreeNode q9)<|oD (dTreeBind q4)<|oD (dE q0)<|oA 0 (ix56 (o:=(.st 1 7)) h8)<|oB 0 h6 o0) ((ih73vabkLbm _ _ _ _ _ _ _ _ _ _ _ _ _ _ _ _ _ _ _ _ _ _ h).2)
  obtain rfl:=sj h
  exact fun j=>lG 0 [] [0,1] [] true (oD (dS ([]:List ByteArray))<|oD (dT ([]:List Tm))<|oD (dTreeRow q11)<|oD (dTreeBind q10)<|oD (dTreeNode q9)<|oD (dTreeBind q4)<|oD (dE q0)<|oB 0 h6 o0)
  intro q0 q1 q2 q3 q4 q5 q6 q7 q8 q9 q10 q11 q12 q13 l3 v2 v33 x7 v39 vb0_15 vb0_16 r h
  rw[e73vabkLbm]at h
  refine⟨?_,?_⟩
  rcases spl h with⟨h9,h⟩|⟨h9,h⟩
  obtain⟨x10,h11,h⟩:=obind h
  have k:=oA 0 (ix63 (o:=(.st 0 1)) h11)<|oB 0 h9 o0
  obtain⟨h12,h⟩:=splF h
  exact fun j=>lH 1 [] [0,1,2] [0] [0,2,5,31,32,33,37,38,39] (oD (dS v2)<|oD (dTreeBind l3)<|oD (dS v2)<|oD (dTreeNode x7.type_.sub_)<|oD (dS ([]:List ByteArray))<|oD (dT ([]:List Tm))<|oD (dTreeRow q11)<|oD (dTreeBind q10)<|oD (dTreeNode q9)<|oD (dTreeBind q4)<|oD (dE q0)<|oB 2 h12 k) ((ih73vabkLbm _ _ _ _ _ _ _ _ _ _ _ _ _ _ _ _ _ _ _ _ _ _ h).1)
  obtain⟨l15,h16,h⟩:=obind h
  exact fun j=>lH 1 [] [0,1] [1] [0,2,31,32,33] (oD (dTreeBind l3)<|oD (dS l15)<|oD (dS ([]:List ByteArray))<|oD (dT ([]:List Tm))<|oD (dTreeRow q11)<|oD (dTreeBind q10)<|oD (dTreeNode q9)<|oD (dTreeBind q4)<|oD (dE q0)<|oP 2 (apS63 h16 (by simp))<|oB 0 h9 o0) ((ih73vabkLbl _ _ _ _ _ _ _ _ _ _ _ _ _ _ _ _ _ _ _ _ h).1)
  rcases spl h with⟨h9,h⟩|⟨h9,h⟩
  obtain⟨x10,h11,h⟩:=obind h
  have k:=oA 0 (ix63 (o:=(.st 0 1)) h11)<|oB 0 h9 o0
  obtain⟨h12,h⟩:=splF h
  exact fun j=>lH 1 [] [0,1,2] [0,1] [0,2,5,31,32,33,37,38,39] (oD (dS v2)<|oD (dTreeBind l3)<|oD (dS v2)<|oD (dTreeNode x7.type_.sub_)<|oD (dS ([]:List ByteArray))<|oD (dT ([]:List Tm))<|oD (dTreeRow q11)<|oD (dTreeBind q10)<|oD (dTreeNode q9)<|oD (dTreeBind q4)<|oD (dE q0)<|oB 2 h12 k) ((ih73vabkLbm _ _ _ _ _ _ _ _ _ _ _ _ _ _ _ _ _ _ _ _ _ _ h).2)
  obtain⟨l15,h16,h⟩:=obind h
  exact fun j=>lH 1 [] [0,1] [2,1] [0,2,31,32,33] (oD (dTreeBind l3)<|oD (dS l15)<|oD (dS ([]:List ByteArray))<|oD (dT ([]:List Tm))<|oD (dTreeRow q11)<|oD (dTreeBind q10)<|oD (dTreeNode q9)<|oD (dTreeBind q4)<|oD (dE q0)<|oP 2 (apS63 h16 (by simp))<|oB 0 h9 o0) ((ih73vabkLbl _ _ _ _ _ _ _ _ _ _ _ _ _ _ _ _ _ _ _ _ h).2)
theorem c73vabk{qq q0 q1 q2 q3 q4 q5 q6 q7 q8 q9 q10 q11 q12 q13 q14 q15 r}(h:e73vabk qq q0 q1 q2 q3 q4 q5 q6 q7 q8 q9 q10 q11 q12 q13 q14 q15=some r):K73vabk q0 q1 q2 q3 q4 q5 q6 q7 q8 q9 q10 q11 q12 q13 q14 q15 r Ct:=by
 unfold e73vabk at h
 obtain⟨r1,h2,h⟩:=obind h
 obtain⟨l3,h4,h⟩:=obind h
 have k:=oC 1 [] (c32 h2) o0
 by_cases h5:List.length q10=0
 exact k73vabk (tH q73vabk 1 [] [0,1] [0] [0,2,31,32,33] (oD (dTreeBind l3)<|oD (dS r1)<|oD (dS ([]:List ByteArray))<|oD (dT ([]:List Tm))<|oD (dTreeRow q11)<|oD (dTreeBind q10)<|oD (dTreeNode q9)<|oD (dTreeBind q4)<|oD (dE q0)<|oP 4 (apN56 h4 h5) k) ((((a73vabkLbl_73vabkLbm _).1) _ _ _ _ _ _ _ _ _ _ _ _ _ _ _ _ _ _ _ _ h).1))
 exact k73vabk (tH q73vabk 1 [] [0,1] [0,1] [0,2,31,32,33] (oD (dTreeBind l3)<|oD (dS r1)<|oD (dS ([]:List ByteArray))<|oD (dT ([]:List Tm))<|oD (dTreeRow q11)<|oD (dTreeBind q10)<|oD (dTreeNode q9)<|oD (dTreeBind q4)<|oD (dE q0)<|oP 4 (apS56 h4 h5) k) ((((a73vabkLbl_73vabkLbm _).1) _ _ _ _ _ _ _ _ _ _ _ _ _ _ _ _ _ _ _ _ h).2))
def e212Lbn(qq:Nat)(p0:List ByteArray)(v7:Int):Option (Bool):=
 if decide (v7<(List.length p0:Int))then
 none
 else
 some true
def e212(qq:Nat)(p0:List ByteArray):Option (Bool):=
 e212Lbn qq p0 0
def g212LbnE0(j:Nat->Value)(p0:List ByteArray)(v7:Int):=sp j 19 0 [(5,slv strC p0 .no),(6,ai (List.length p0:Int)),(7,ai v7)]
def g212LbnS0(p0:List ByteArray)(v7:Int):LSt:=⟨[],0,[],0,[]⟩
abbrev K212 (p0:List ByteArray) (r:Bool) (C:Cf):Prop:=C 212 [] [slv strC p0 .no] (ab r) [] 0
theorem q212:Qf 212 Tryz.f212:=⟨Tryz.func212,by kernel_rfl⟩
theorem k212{p0 r}(h:K212 p0 r Ci):K212 p0 r Ct:=⟨h,⟨⟨tv,dS _⟩,tv⟩,forall_nil,tv,forall_nil⟩
theorem l212Lbn(qq p0 v7 r)(h:e212Lbn qq p0 v7=some r):(∀j,Dl Tryz.prog 0 (inn (inn (rgt (lft (rgt (bod Tryz.f212)))))) (g212LbnE0 j p0 v7) (g212LbnS0 p0 v7) (frameQ Tryz.prog 0 (FinQ Tryz.prog 0 Tryz.f212 (ab r) [] 0) [.blk 0,.seq (rgt (rgt (bod Tryz.f212)))])):=by
 unfold e212Lbn at h
 obtain⟨h1,h⟩:=splF h
 obtain rfl:=sj h
 exact fun j=>lF 0 [] (oB 0 h1 o0)
theorem c212{qq p0 r}(h:e212 qq p0=some r):K212 p0 r Ct:=by
 unfold e212 at h
 exact k212 (tH q212 1 [] [] [] [5,6,7] (oD (dS p0) o0) (l212Lbn qq _ _ _ h))
def e168(qq:Nat)(p0:List Ent)(p1:List ByteArray):Option (Int):=
 e212 qq p1>>=fun r1=>
 if r1 then
 e19 qq p0>>=fun r4=>
 if r4 then
 if decide ((List.length p1:Int)>24)then
 none
 else
 some 0
 else
 none
 else
 none
abbrev K168 (p0:List Ent) (p1:List ByteArray) (r:Int) (C:Cf):Prop:=C 168 [] [slv entL p0 .no,slv strC p1 .no] (ai r) [] 0
theorem q168:Qf 168 Tryz.f168:=⟨Tryz.func168,by kernel_rfl⟩
theorem k168{p0 p1 r}(h:K168 p0 p1 r Ci):K168 p0 p1 r Ct:=⟨h,⟨⟨tv,dE _⟩,⟨tv,dS _⟩,tv⟩,forall_nil,tv,forall_nil⟩
theorem c168{qq p0 p1 r}(h:e168 qq p0 p1=some r):K168 p0 p1 r Ct:=by
 unfold e168 at h
 obtain⟨r1,h2,h⟩:=obind h
 obtain⟨h3,h⟩:=spT h
 obtain⟨r4,h5,h⟩:=obind h
 have k:=oK 0 [] h3 (c212 h2) o0
 obtain⟨h6,h⟩:=spT h
 have k:=oK 1 [] h6 (c19 h5) k
 obtain⟨h7,h⟩:=splF h
 obtain rfl:=sj h
 exact k168 (tF q168 0 [] (oB 2 h7 k))
def e119Lbo(qq:Nat)(p0:List Ent)(p2:List TreeBind)(v11:List Tm)(v12:List ByteArray)(v35:Int):Option (List Tm×List ByteArray×Int×Int):=
 if decide (v35<(List.length p2:Int))then
 none
 else
 some (v11,v12,0,0)
def e119(qq:Nat)(p0:List Ent)(p1:List ByteArray)(p2:List TreeBind):Option (List Tm×List ByteArray×Int×Int):=
 e168 qq p0 p1>>=fun r1=>
 if r1 != 0 then
 none
 else
 if decide ((List.length p2:Int)>(w64 (24-(List.length p1:Int))))then
 none
 else
 gapp 16 ([]:List ByteArray) p1>>=fun l5=>
 e119Lbo qq p0 p2 [] l5 0
def g119LboE0(j:Nat->Value)(p0:List Ent)(p2:List TreeBind)(v11:List Tm)(v12:List ByteArray)(v35:Int):=sp j 68 0 [(0,slv entL p0 .no),(11,slv tmCells v11 (.st 0 3)),(12,slv strC v12 .full),(33,slv treeBindL p2 .no),(34,ai (List.length p2:Int)),(35,ai v35)]
def g119LboS0(p0:List Ent)(p2:List TreeBind)(v11:List Tm)(v12:List ByteArray)(v35:Int):LSt:=⟨[],0,[0],1,[]⟩
def g119LboE1(j:Nat->Value)(p0:List Ent)(p2:List TreeBind)(v11:List Tm)(v12:List ByteArray)(v35:Int):=sp j 68 0 [(0,slv entL p0 .no),(11,slv tmCells v11 (.st 0 3)),(12,slv strC v12 (.st 1 1)),(33,slv treeBindL p2 .no),(34,ai (List.length p2:Int)),(35,ai v35)]
def g119LboS1(p0:List Ent)(p2:List TreeBind)(v11:List Tm)(v12:List ByteArray)(v35:Int):LSt:=⟨[],0,[0,1],2,[]⟩
abbrev K119 (p0:List Ent) (p1:List ByteArray) (p2:List TreeBind) (r:List Tm×List ByteArray×Int×Int) (C:Cf):Prop:=C 119 [] [slv entL p0 .no,slv strC p1 .no,slv treeBindL p2 .no] (.tup [.sl (flat tmCells r.1) (List.length r.1) .no,.sl (flat strC r.2.1) (List.length r.2.1) .no,ai r.2.2.1,ai r.2.2.2]) [] 0
theorem q119:Qf 119 Tryz.f119:=⟨Tryz.func119,by kernel_rfl⟩
theorem k119{p0 p1 p2 r}(h:K119 p0 p1 p2 r Ci):K119 p0 p1 p2 r Ct:=⟨h,⟨⟨tv,dE _⟩,⟨tv,dS _⟩,⟨tv,dTreeBind _⟩,tv⟩,forall_nil,⟨dT _,dS _,tv,tv,tv⟩,forall_nil⟩
theorem l119Lbo(qq p0 p2 v11 v12 v35 r)(h:e119Lbo qq p0 p2 v11 v12 v35=some r):(∀j,Dl Tryz.prog 0 (inn (inn (rgt (lft (rgt (rgt (rgt (rgt (bod Tryz.f119))))))))) (g119LboE0 j p0 p2 v11 v12 v35) (g119LboS0 p0 p2 v11 v12 v35) (frameQ Tryz.prog 0 (FinQ Tryz.prog 0 Tryz.f119 (.tup [.sl (flat tmCells r.1) (List.length r.1) .no,.sl (flat strC r.2.1) (List.length r.2.1) .no,ai r.2.2.1,ai r.2.2.2]) [] 0) [.blk 0,.seq (rgt (rgt (rgt (rgt (rgt (bod Tryz.f119))))))]))∧(∀j,Dl Tryz.prog 0 (inn (inn (rgt (lft (rgt (rgt (rgt (rgt (bod Tryz.f119))))))))) (g119LboE1 j p0 p2 v11 v12 v35) (g119LboS1 p0 p2 v11 v12 v35) (frameQ Tryz.prog 0 (FinQ Tryz.prog 0 Tryz.f119 (.tup [.sl (flat tmCells r.1) (List.length r.1) .no,.sl (flat strC r.2.1) (List.length r.2.1) .no,ai r.2.2.1,ai r.2.2.2]) [] 0) [.blk 0,.seq (rgt (rgt (rgt (rgt (rgt (bod Tryz.f119))))))])):=by
 unfold e119Lbo at h
 refine⟨?_,?_⟩
 obtain⟨h8,h⟩:=splF h
 obtain rfl:=sj h
 exact fun j=>lF 0 [] (oD (dS v12)<|oD (dT v11)<|oB 0 h8 o0)
 obtain⟨h8,h⟩:=splF h
 obtain rfl:=sj h
 exact fun j=>lF 0 [] (oD (dS v12)<|oD (dT v11)<|oB 0 h8 o0)
theorem c119{qq p0 p1 p2 r}(h:e119 qq p0 p1 p2=some r):K119 p0 p1 p2 r Ct:=by
 unfold e119 at h
 obtain⟨r1,h2,h⟩:=obind h
 have k:=oC 0 [] (c168 h2) o0
 obtain⟨h3,h⟩:=splF h
 have k:=oB 0 h3 k
 obtain⟨h4,h⟩:=splF h
 obtain⟨l5,h6,h⟩:=obind h
 have k:=oB 3 h4 k
 by_cases h7:List.length p1=0
 exact k119 (tH q119 1 [(none,11,3)] [] [0] [0,11,12,33,34,35] (oD (dTreeBind p2)<|oD (dS l5)<|oD (dT ([]:List Tm))<|oD (dE p0)<|oP 1 (apN63 h6 h7) k) ((l119Lbo qq _ _ _ _ _ _ h).1))
 exact k119 (tH q119 1 [(none,11,3)] [] [1,0] [0,11,12,33,34,35] (oD (dTreeBind p2)<|oD (dS l5)<|oD (dT ([]:List Tm))<|oD (dE p0)<|oP 1 (apS63 h6 h7) k) ((l119Lbo qq _ _ _ _ _ _ h).2))
def e37vabp(qq:Nat)(q0:List Ent)(q1 q2:Int)(q3:ByteArray)(q4:List TreeBind)(q5 q6:Int)(q7:ByteArray)(q8:Int)(q9:List TreeNode)(q10:List TreeBind)(q11:List TreeRow)(q12 q13 q14 q15 p1 p2:Int):Option (Bool×Int×Int):=
 if q14==0 then
 if p1 != 0 then
 none
 else
 some ((q14 != 0),q14,q15)
 else
 none
abbrev K37vabp (q0:List Ent) (q1 q2:Int) (q3:ByteArray) (q4:List TreeBind) (q5 q6:Int) (q7:ByteArray) (q8:Int) (q9:List TreeNode) (q10:List TreeBind) (q11:List TreeRow) (q12 q13 q14 q15 p1 p2:Int) (r:Bool×Int×Int) (C:Cf):Prop:=C 37 [.cells [slv entL q0 .no,ai q1,ai q2,at' q3,slv treeBindL q4 .no,ai q5,ai q6,at' q7,ai q8,slv treeNodeC q9 .no,slv treeBindL q10 .no,slv treeRowL q11 .no,.mp 1 0,slv tmCells ([]:List Tm) .nl,slv strC ([]:List ByteArray) .nl,ai q14,ai q15],.cells [ai q12,ai q13]] [.mp 0 0,ai p1,ai p2] (ab r.1) [.cells [slv entL q0 .no,ai q1,ai q2,at' q3,slv treeBindL q4 .no,ai q5,ai q6,at' q7,ai q8,slv treeNodeC q9 .no,slv treeBindL q10 .no,slv treeRowL q11 .no,.mp 1 0,slv tmCells ([]:List Tm) .nl,slv strC ([]:List ByteArray) .nl,ai r.2.1,ai r.2.2],.cells [ai q12,ai q13]] 0
theorem q37vabp:Qf 37 Tryz.f37:=⟨Tryz.func37,by kernel_rfl⟩
theorem k37vabp{q0 q1 q2 q3 q4 q5 q6 q7 q8 q9 q10 q11 q12 q13 q14 q15 p1 p2 r}(h:K37vabp q0 q1 q2 q3 q4 q5 q6 q7 q8 q9 q10 q11 q12 q13 q14 q15 p1 p2 r Ci):K37vabp q0 q1 q2 q3 q4 q5 q6 q7 q8 q9 q10 q11 q12 q13 q14 q15 p1 p2 r Ct:=⟨h,⟨(lz rfl),tv,tv,tv⟩,(forall_cons ⟨⟨tv,dE _⟩,tv,tv,tv,⟨tv,dTreeBind _⟩,tv,tv,tv,tv,⟨tv,dTreeNode _⟩,⟨tv,dTreeBind _⟩,⟨tv,dTreeRow _⟩,(lz rfl),⟨tv,dT _⟩,⟨tv,dS _⟩,tv,tv,tv⟩ (forall_cons ⟨tv,tv,tv⟩ forall_nil)),tv,(forall_cons ⟨dE _,tv,tv,tv,dTreeBind _,tv,tv,tv,tv,dTreeNode _,dTreeBind _,dTreeRow _,(lz rfl),dT _,dS _,tv,tv,tv⟩ (forall_cons ⟨tv,tv,tv⟩ forall_nil))⟩
theorem c37vabp{qq q0 q1 q2 q3 q4 q5 q6 q7 q8 q9 q10 q11 q12 q13 q14 q15 p1 p2 r}(h:e37vabp qq q0 q1 q2 q3 q4 q5 q6 q7 q8 q9 q10 q11 q12 q13 q14 q15 p1 p2=some r):K37vabp q0 q1 q2 q3 q4 q5 q6 q7 q8 q9 q10 q11 q12 q13 q14 q15 p1 p2 r Ct:=by
 unfold e37vabp at h
 obtain⟨h1,h⟩:=spT h
 have k:=oB 1 h1 o0
 obtain⟨h2,h⟩:=splF h
 obtain rfl:=sj h
 exact k37vabp (tG q37vabp 2 [] [0,1] [] true (oD (dS ([]:List ByteArray))<|oD (dT ([]:List Tm))<|oD (dTreeRow q11)<|oD (dTreeBind q10)<|oD (dTreeNode q9)<|oD (dTreeBind q4)<|oD (dE q0)<|oB 0 h2 k))
def e74vabkLbq(qq:Nat)(q0:List Ent)(q1 q2:Int)(q3:ByteArray)(q4:List TreeBind)(q5 q6:Int)(q7:ByteArray)(q8:Int)(q9:List TreeNode)(q10:List TreeBind)(q11:List TreeRow)(r1:List Tm×List ByteArray×Int×Int)(v38 vb0_15 vb0_16 vb1_0 vb1_1:Int):Option (List Tm×List ByteArray×Int×Int×Int×Int):=
 if decide (v38<(List.length r1.1:Int))then
 none
 else
 some (r1.1,r1.2.1,vb0_15,vb0_16,vb1_0,vb1_1)
def e74vabk(qq:Nat)(q0:List Ent)(q1 q2:Int)(q3:ByteArray)(q4:List TreeBind)(q5 q6:Int)(q7:ByteArray)(q8:Int)(q9:List TreeNode)(q10:List TreeBind)(q11:List TreeRow)(q12 q13 q14 q15:Int):Option (List Tm×List ByteArray×Int×Int×Int×Int):=
 e119 qq q0 [] q4>>=fun r1=>
 if r1.2.2.2==2 then
 none
 else
 e37vabp qq q0 q1 q2 q3 q4 q5 q6 q7 q8 q9 q10 q11 q12 q13 q14 q15 r1.2.2.2 r1.2.2.1>>=fun r7=>
 if r7.1 then
 none
 else
 e74vabkLbq qq q0 q1 q2 q3 q4 q5 q6 q7 q8 q9 q10 q11 r1 0 r7.2.1 r7.2.2 q12 q13
def g74vabkLbqE0(j:Nat->Value)(q0:List Ent)(q1 q2:Int)(q3:ByteArray)(q4:List TreeBind)(q5 q6:Int)(q7:ByteArray)(q8:Int)(q9:List TreeNode)(q10:List TreeBind)(q11:List TreeRow)(r1:List Tm×List ByteArray×Int×Int)(v38 vb0_15 vb0_16 vb1_0 vb1_1:Int):=sp j 75 0 [(0,.mp 0 0),(2,slv tmCells r1.1 .no),(3,slv strC r1.2.1 .no),(36,slv tmCells r1.1 .no),(37,ai (List.length r1.1:Int)),(38,ai v38)]
def g74vabkLbqS0(q0:List Ent)(q1 q2:Int)(q3:ByteArray)(q4:List TreeBind)(q5 q6:Int)(q7:ByteArray)(q8:Int)(q9:List TreeNode)(q10:List TreeBind)(q11:List TreeRow)(r1:List Tm×List ByteArray×Int×Int)(v38 vb0_15 vb0_16 vb1_0 vb1_1:Int):LSt:=⟨[(0,.cells [slv entL q0 .no,ai q1,ai q2,at' q3,slv treeBindL q4 .no,ai q5,ai q6,at' q7,ai q8,slv treeNodeC q9 .no,slv treeBindL q10 .no,slv treeRowL q11 .no,.mp 1 0,slv tmCells ([]:List Tm) .nl,slv strC ([]:List ByteArray) .nl,ai vb0_15,ai vb0_16]),(1,.cells [ai vb1_0,ai vb1_1])],2,[],0,[]⟩
abbrev K74vabk (q0:List Ent) (q1 q2:Int) (q3:ByteArray) (q4:List TreeBind) (q5 q6:Int) (q7:ByteArray) (q8:Int) (q9:List TreeNode) (q10:List TreeBind) (q11:List TreeRow) (q12 q13 q14 q15:Int) (r:List Tm×List ByteArray×Int×Int×Int×Int) (C:Cf):Prop:=C 74 [.cells [slv entL q0 .no,ai q1,ai q2,at' q3,slv treeBindL q4 .no,ai q5,ai q6,at' q7,ai q8,slv treeNodeC q9 .no,slv treeBindL q10 .no,slv treeRowL q11 .no,.mp 1 0,slv tmCells ([]:List Tm) .nl,slv strC ([]:List ByteArray) .nl,ai q14,ai q15],.cells [ai q12,ai q13]] [.mp 0 0] (.tup []) [.cells [slv entL q0 .no,ai q1,ai q2,at' q3,slv treeBindL q4 .no,ai q5,ai q6,at' q7,ai q8,slv treeNodeC q9 .no,slv treeBindL q10 .no,slv treeRowL q11 .no,.mp 1 0,slv tmCells r.1 .no,slv strC r.2.1 .no,ai r.2.2.1,ai r.2.2.2.1],.cells [ai r.2.2.2.2.1,ai r.2.2.2.2.2]] 0
theorem q74vabk:Qf 74 Tryz.f74:=⟨Tryz.func74,by kernel_rfl⟩
theorem k74vabk{q0 q1 q2 q3 q4 q5 q6 q7 q8 q9 q10 q11 q12 q13 q14 q15 r}(h:K74vabk q0 q1 q2 q3 q4 q5 q6 q7 q8 q9 q10 q11 q12 q13 q14 q15 r Ci):K74vabk q0 q1 q2 q3 q4 q5 q6 q7 q8 q9 q10 q11 q12 q13 q14 q15 r Ct:=⟨h,⟨(lz rfl),tv⟩,(forall_cons ⟨⟨tv,dE _⟩,tv,tv,tv,⟨tv,dTreeBind _⟩,tv,tv,tv,tv,⟨tv,dTreeNode _⟩,⟨tv,dTreeBind _⟩,⟨tv,dTreeRow _⟩,(lz rfl),⟨tv,dT _⟩,⟨tv,dS _⟩,tv,tv,tv⟩ (forall_cons ⟨tv,tv,tv⟩ forall_nil)),tv,(forall_cons ⟨dE _,tv,tv,tv,dTreeBind _,tv,tv,tv,tv,dTreeNode _,dTreeBind _,dTreeRow _,(lz rfl),dT _,dS _,tv,tv,tv⟩ (forall_cons ⟨tv,tv,tv⟩ forall_nil))⟩
theorem l74vabkLbq(qq q0 q1 q2 q3 q4 q5 q6 q7 q8 q9 q10 q11 r1 v38 vb0_15 vb0_16 vb1_0 vb1_1 r)(h:e74vabkLbq qq q0 q1 q2 q3 q4 q5 q6 q7 q8 q9 q10 q11 r1 v38 vb0_15 vb0_16 vb1_0 vb1_1=some r):(∀j,Dl Tryz.prog 2 (inn (inn (rgt (lft (rgt (rgt (rgt (bod Tryz.f74)))))))) (g74vabkLbqE0 j q0 q1 q2 q3 q4 q5 q6 q7 q8 q9 q10 q11 r1 v38 vb0_15 vb0_16 vb1_0 vb1_1) (g74vabkLbqS0 q0 q1 q2 q3 q4 q5 q6 q7 q8 q9 q10 q11 r1 v38 vb0_15 vb0_16 vb1_0 vb1_1) (frameQ Tryz.prog 2 (FinQ Tryz.prog 2 Tryz.f74 (.tup []) [.cells [slv entL q0 .no,ai q1,ai q2,at' q3,slv treeBindL q4 .no,ai q5,ai q6,at' q7,ai q8,slv treeNodeC q9 .no,slv treeBindL q10 .no,slv treeRowL q11 .no,.mp 1 0,slv tmCells r.1 .no,slv strC r.2.1 .no,ai r.2.2.1,ai r.2.2.2.1],.cells [ai r.2.2.2.2.1,ai r.2.2.2.2.2]] 0) [.blk 0,.seq (rgt (rgt (rgt (rgt (bod Tryz.f74)))))])):=by
 unfold e74vabkLbq at h
 obtain⟨h7,h⟩:=splF h
 obtain rfl:=sj h
 exact fun j=>lF 2 [0,1] (oD (dS r1.2.1)<|oD (dT r1.1)<|oD (dTreeRow q11)<|oD (dTreeBind q10)<|oD (dTreeNode q9)<|oD (dTreeBind q4)<|oD (dE q0)<|oB 0 h7 o0)
theorem c74vabk{qq q0 q1 q2 q3 q4 q5 q6 q7 q8 q9 q10 q11 q12 q13 q14 q15 r}(h:e74vabk qq q0 q1 q2 q3 q4 q5 q6 q7 q8 q9 q10 q11 q12 q13 q14 q15=some r):K74vabk q0 q1 q2 q3 q4 q5 q6 q7 q8 q9 q10 q11 q12 q13 q14 q15 r Ct:=by
 unfold e74vabk at h
 obtain⟨r1,h2,h⟩:=obind h
 have k:=oC 2 [] (c119 h2) o0
 obtain⟨h3,h⟩:=splF h
 obtain⟨r7,h8,h⟩:=obind h
 have k:=oB 4 h3 k
 obtain⟨h9,h⟩:=splF h
 exact k74vabk (tH q74vabk 1 [] [0,1] [] [0,2,3,36,37,38] (oD (dT r1.1)<|oD (dS r1.2.1)<|oD (dT r1.1)<|oD (dS ([]:List ByteArray))<|oD (dT ([]:List Tm))<|oD (dTreeRow q11)<|oD (dTreeBind q10)<|oD (dTreeNode q9)<|oD (dTreeBind q4)<|oD (dE q0)<|oK 0 [0,1] h9 (c37vabp h8) k) (l74vabkLbq qq _ _ _ _ _ _ _ _ _ _ _ _ _ _ _ _ _ _ _ h))
def e148(qq:Nat)(p0 p1:Int)(p2:List Tm):Option (Tm):=
 some (Tm.mk p0 p1 p2)
abbrev K148 (p0 p1:Int) (p2:List Tm) (r:Tm) (C:Cf):Prop:=C 148 [] [ai p0,ai p1,slv tmCells p2 .no] (tmA r) [] 0
theorem q148:Qf 148 Tryz.f148:=⟨Tryz.func148,by kernel_rfl⟩
theorem k148{p0 p1 p2 r}(h:K148 p0 p1 p2 r Ci):K148 p0 p1 p2 r Ct:=⟨h,⟨tv,tv,⟨tv,dT _⟩,tv⟩,forall_nil,⟨tv,tv,dT _,tv⟩,forall_nil⟩
theorem c148{qq p0 p1 p2 r}(h:e148 qq p0 p1 p2=some r):K148 p0 p1 p2 r Ct:=by
 unfold e148 at h
 obtain rfl:=sj h
 exact k148 (tF q148 1 [] (oD (dT p2) o0))
def e150(qq:Nat)(p0 p1:Tm):Option (Tm):=
 e148 qq 3 0 [p0,p1]>>=fun r1=>
 some r1
abbrev K150 (p0 p1 r:Tm) (C:Cf):Prop:=C 150 [] [tmA p0,tmA p1] (tmA r) [] 0
theorem q150:Qf 150 Tryz.f150:=⟨Tryz.func150,by kernel_rfl⟩
theorem k150{p0 p1 r}(h:K150 p0 p1 r Ci):K150 p0 p1 r Ct:=⟨h,⟨⟨tv,tv,⟨tv,dT _⟩,tv⟩,⟨tv,tv,⟨tv,dT _⟩,tv⟩,tv⟩,forall_nil,⟨tv,tv,dT _,tv⟩,forall_nil⟩
theorem c150{qq p0 p1 r}(h:e150 qq p0 p1=some r):K150 p0 p1 r Ct:=by
 unfold e150 at h
 obtain⟨r1,h2,h⟩:=obind h
 obtain rfl:=sj h
 exact k150 (tF q150 1 [] (oD (dT r1.sub)<|oC 0 [] (c148 h2)<|oS 2 (obLitR tm_eq [p0,p1]) o0))
def e144(qq:Nat)(p0:Int):Option (Tm):=
 e148 qq 6 p0 []>>=fun r1=>
 some r1
abbrev K144 (p0:Int) (r:Tm) (C:Cf):Prop:=C 144 [] [ai p0] (tmA r) [] 0
theorem q144:Qf 144 Tryz.f144:=⟨Tryz.func144,by kernel_rfl⟩
theorem k144{p0 r}(h:K144 p0 r Ci):K144 p0 r Ct:=⟨h,⟨tv,tv⟩,forall_nil,⟨tv,tv,dT _,tv⟩,forall_nil⟩
theorem c144{qq p0 r}(h:e144 qq p0=some r):K144 p0 r Ct:=by
 unfold e144 at h
 obtain⟨r1,h2,h⟩:=obind h
 obtain rfl:=sj h
 exact k144 (tF q144 1 [] (oD (dT r1.sub)<|oC 0 [] (c148 h2) o0))
def e245Lbr(qq:Nat)(p0:List Ent)(p1:ByteArray)(v10:Int):Option (Int×Int):=
 if decide (v10<(List.length p0:Int))then
 gidx p0 v10>>=fun x2=>
 if x2.name.toList==p1.toList then
 some (v10,0)
 else
 none
 else
 none
def e245(qq:Nat)(p0:List Ent)(p1:ByteArray):Option (Int×Int):=
 e245Lbr qq p0 p1 0
def g245LbrE0(j:Nat->Value)(p0:List Ent)(p1:ByteArray)(v10:Int):=sp j 21 0 [(1,at' p1),(8,slv entL p0 .no),(9,ai (List.length p0:Int)),(10,ai v10)]
def g245LbrS0(p0:List Ent)(p1:ByteArray)(v10:Int):LSt:=⟨[],0,[],0,[]⟩
abbrev K245 (p0:List Ent) (p1:ByteArray) (r:Int×Int) (C:Cf):Prop:=C 245 [] [slv entL p0 .no,at' p1] (.tup [ai r.1,ai r.2]) [] 0
theorem q245:Qf 245 Tryz.f245:=⟨Tryz.func245,by kernel_rfl⟩
theorem k245{p0 p1 r}(h:K245 p0 p1 r Ci):K245 p0 p1 r Ct:=⟨h,⟨⟨tv,dE _⟩,tv,tv⟩,forall_nil,⟨tv,tv,tv⟩,forall_nil⟩
theorem l245Lbr(qq p0 p1 v10 r)(h:e245Lbr qq p0 p1 v10=some r):(∀j,Dl Tryz.prog 0 (inn (inn (rgt (lft (rgt (bod Tryz.f245)))))) (g245LbrE0 j p0 p1 v10) (g245LbrS0 p0 p1 v10) (frameQ Tryz.prog 0 (FinQ Tryz.prog 0 Tryz.f245 (.tup [ai r.1,ai r.2]) [] 0) [.blk 0,.seq (rgt (rgt (bod Tryz.f245)))])):=by
 unfold e245Lbr at h
 obtain⟨h1,h⟩:=spT h
 obtain⟨x2,h3,h⟩:=obind h
 have k:=oA 0 (ix22 (o:=.no) h3)<|oB 0 h1 o0
 obtain⟨h4,h⟩:=spT h
 obtain rfl:=sj h
 exact fun j=>lF 0 [] (oB 3 h4 k)
theorem c245{qq p0 p1 r}(h:e245 qq p0 p1=some r):K245 p0 p1 r Ct:=by
 unfold e245 at h
 exact k245 (tH q245 1 [] [] [] [1,8,9,10] (oD (dE p0) o0) (l245Lbr qq _ _ _ _ h))
def e213Lbs:Nat->(List Ent)->Int->Int->(List ByteArray)->TreeNode->Int->Option (Tm×Int×Int)
 |0,_,_,_,_,_,_=>none
 |qq+1,q0_l,q0_e,q0_at,p1,p2,v7=>
 if decide (v7≥0)then
 gidx p1 v7>>=fun x2=>
 if x2.toList==p2.name_.toList then
 none
 else
 e213Lbs qq q0_l q0_e q0_at p1 p2 (w64 (v7-1))
 else
 e245 qq q0_l p2.name_>>=fun r7=>
 if r7.2 != 0 then
 none
 else
 e144 qq r7.1>>=fun r14=>
 some (r14,q0_e,q0_at)
def e213(qq:Nat)(q0_l:List Ent)(q0_e q0_at:Int)(p1:List ByteArray)(p2:TreeNode):Option (Tm×Int×Int):=
 e213Lbs qq q0_l q0_e q0_at p1 p2 (w64 ((List.length p1:Int)-1))
def g213LbsE0(j:Nat->Value)(q0_l:List Ent)(q0_e q0_at:Int)(p1:List ByteArray)(p2:TreeNode)(v7:Int):=sp j 48 0 [(0,.mp 0 0),(1,slv strC p1 .no),(5,.mp 1 0),(6,.mp 2 0),(7,ai v7)]
def g213LbsS0(q0_l:List Ent)(q0_e q0_at:Int)(p1:List ByteArray)(p2:TreeNode)(v7:Int):LSt:=⟨[(0,.cells [slv entL q0_l .no,ai q0_e,ai q0_at]),(1,.cells [ai p2.kind_,ai p2.at_,at' p2.name_,ai p2.n_,slv treeNodeC p2.sub_ .no]),(2,.cells [ai 0,ai 0,slv tmCells ([]:List Tm) .nl])],3,[],0,[]⟩
abbrev K213 (q0_l:List Ent) (q0_e q0_at:Int) (p1:List ByteArray) (p2:TreeNode) (r:Tm×Int×Int) (C:Cf):Prop:=C 213 [.cells [slv entL q0_l .no,ai q0_e,ai q0_at]] [.mp 0 0,slv strC p1 .no,treeNodeA p2] (tmA r.1) [.cells [slv entL q0_l .no,ai r.2.1,ai r.2.2]] 0
theorem q213:Qf 213 Tryz.f213:=⟨Tryz.func213,by kernel_rfl⟩
theorem k213{q0_l q0_e q0_at p1 p2 r}(h:K213 q0_l q0_e q0_at p1 p2 r Ci):K213 q0_l q0_e q0_at p1 p2 r Ct:=⟨h,⟨(lz rfl),⟨tv,dS _⟩,⟨tv,tv,tv,tv,⟨tv,dTreeNode _⟩,tv⟩,tv⟩,(forall_cons ⟨⟨tv,dE _⟩,tv,tv,tv⟩ forall_nil),⟨tv,tv,dT _,tv⟩,(forall_cons ⟨dE _,tv,tv,tv⟩ forall_nil)⟩
theorem l213Lbs:∀qq:Nat,(∀q0_l q0_e q0_at p1 p2 v7 r,e213Lbs qq q0_l q0_e q0_at p1 p2 v7=some r->(∀j,Dl Tryz.prog 1 (inn (inn (rgt (lft (rgt (bod Tryz.f213)))))) (g213LbsE0 j q0_l q0_e q0_at p1 p2 v7) (g213LbsS0 q0_l q0_e q0_at p1 p2 v7) (frameQ Tryz.prog 1 (FinQ Tryz.prog 1 Tryz.f213 (tmA r.1) [.cells [slv entL q0_l .no,ai r.2.1,ai r.2.2]] 0) [.blk 0,.seq (rgt (rgt (bod Tryz.f213)))]))):=by
 intro qq
 induction qq with
 |zero=>
  exact fun _ _ _ _ _ _ _ h=>nn h
 |succ qq ih=>
  intro q0_l q0_e q0_at p1 p2 v7 r h
  rw[e213Lbs]at h
  rcases spl h with⟨h1,h⟩|⟨h1,h⟩
  obtain⟨x2,h3,h⟩:=obind h
  have k:=oA 0 (ix63 (o:=.no) h3)<|oB 0 h1 o0
  obtain⟨h4,h⟩:=splF h
  exact fun j=>lH 1 [] [0,1,2] [] [0,1,5,6,7] (oD (dS p1)<|oD (dT ([]:List Tm))<|oD (dTreeNode p2.sub_)<|oD (dE q0_l)<|oB 2 h4 k) (ih _ _ _ _ _ _ _ h)
  obtain⟨r7,h8,h⟩:=obind h
  have k:=oC 2 [] (c245 h8)<|oB 0 h1 o0
  obtain⟨h9,h⟩:=splF h
  obtain⟨r14,h15,h⟩:=obind h
  obtain rfl:=sj h
  exact fun j=>lF 1 [0] (oD (dT r14.sub)<|oD (dE q0_l)<|oC 0 [] (c144 h15)<|oB 2 h9 k)
theorem c213{qq q0_l q0_e q0_at p1 p2 r}(h:e213 qq q0_l q0_e q0_at p1 p2=some r):K213 q0_l q0_e q0_at p1 p2 r Ct:=by
 unfold e213 at h
 exact k213 (tH q213 2 [] [0,1,2] [] [0,1,5,6,7] (oD (dS p1)<|oD (dT ([]:List Tm))<|oD (dTreeNode p2.sub_)<|oD (dE q0_l) o0) (l213Lbs _ _ _ _ _ _ _ _ h))
def e96(qq:Nat)(p0:Int):Option (Tm):=
 e148 qq 2 p0 []>>=fun r1=>
 some r1
abbrev K96 (p0:Int) (r:Tm) (C:Cf):Prop:=C 96 [] [ai p0] (tmA r) [] 0
theorem q96:Qf 96 Tryz.f96:=⟨Tryz.func96,by kernel_rfl⟩
theorem k96{p0 r}(h:K96 p0 r Ci):K96 p0 r Ct:=⟨h,⟨tv,tv⟩,forall_nil,⟨tv,tv,dT _,tv⟩,forall_nil⟩
theorem c96{qq p0 r}(h:e96 qq p0=some r):K96 p0 r Ct:=by
 unfold e96 at h
 obtain⟨r1,h2,h⟩:=obind h
 obtain rfl:=sj h
 exact k96 (tF q96 1 [] (oD (dT r1.sub)<|oC 0 [] (c148 h2) o0))
def e169:Nat->(List Ent)->Int->Int->(List ByteArray)->TreeNode->Option (Tm×Int×Int)
 |0,_,_,_,_,_=>none
 |qq+1,q0_l,q0_e,q0_at,p1,p2=>
 if p2.kind_==1 then
 e213 qq q0_l q0_e q0_at p1 p2>>=fun r2=>
 some (r2.1,r2.2.1,r2.2.2)
 else
 if p2.kind_==2 then
 e96 qq p2.n_>>=fun r5=>
 some (r5,q0_e,q0_at)
 else
 gidx p2.sub_ 0>>=fun x7=>
 e169 qq q0_l q0_e q0_at p1 x7>>=fun r9=>
 if p2.kind_ != 5 then
 gsl p1 0 (List.length p1:Int)>>=fun x12=>
 gapp 16 x12 [p2.name_]>>=fun l14=>
 gidx p2.sub_ 1>>=fun x16=>
 e169 qq q0_l r9.2.1 r9.2.2 l14 x16>>=fun r18=>
 if p2.kind_==3 then
 e150 qq r9.1 r18.1>>=fun r21=>
 some (r21,r18.2.1,r18.2.2)
 else
 none
 else
 none
abbrev K169 (q0_l:List Ent) (q0_e q0_at:Int) (p1:List ByteArray) (p2:TreeNode) (r:Tm×Int×Int) (C:Cf):Prop:=C 169 [.cells [slv entL q0_l .no,ai q0_e,ai q0_at]] [.mp 0 0,slv strC p1 .no,treeNodeA p2] (tmA r.1) [.cells [slv entL q0_l .no,ai r.2.1,ai r.2.2]] 0
theorem q169:Qf 169 Tryz.f169:=⟨Tryz.func169,by kernel_rfl⟩
theorem k169{q0_l q0_e q0_at p1 p2 r}(h:K169 q0_l q0_e q0_at p1 p2 r Ci):K169 q0_l q0_e q0_at p1 p2 r Ct:=⟨h,⟨(lz rfl),⟨tv,dS _⟩,⟨tv,tv,tv,tv,⟨tv,dTreeNode _⟩,tv⟩,tv⟩,(forall_cons ⟨⟨tv,dE _⟩,tv,tv,tv⟩ forall_nil),⟨tv,tv,dT _,tv⟩,(forall_cons ⟨dE _,tv,tv,tv⟩ forall_nil)⟩
theorem a169:∀qq:Nat,(∀q0_l q0_e q0_at p1 p2 r,e169 qq q0_l q0_e q0_at p1 p2=some r->K169 q0_l q0_e q0_at p1 p2 r Ct):=by
 intro qq
 induction qq with
 |zero=>
  exact fun _ _ _ _ _ _ h=>nn h
 |succ qq ih=>
  intro q0_l q0_e q0_at p1 p2 r h
  rw[e169]at h
  rcases spl h with⟨h1,h⟩|⟨h1,h⟩
  obtain⟨r2,h3,h⟩:=obind h
  obtain rfl:=sj h
  exact k169 (tF q169 1 [0] (oD (dT r2.1.sub)<|oD (dE q0_l)<|oC 1 [0] (c213 h3)<|oB 1 h1 o0))
  have k:=oB 1 h1 o0
  rcases spl h with⟨h4,h⟩|⟨h4,h⟩
  obtain⟨r5,h6,h⟩:=obind h
  obtain rfl:=sj h
  exact k169 (tF q169 1 [0] (oD (dT r5.sub)<|oD (dE q0_l)<|oC 1 [] (c96 h6)<|oB 0 h4 k))
  obtain⟨x7,h8,h⟩:=obind h
  obtain⟨r9,h10,h⟩:=obind h
  have k:=oC 1 [0] (ih _ _ _ _ _ _ h10)<|oA 1 (ix57 (o:=.no) h8)<|oB 0 h4 k
  obtain⟨h11,h⟩:=spT h
  obtain⟨x12,h13,h⟩:=obind h
  obtain⟨l14,h15,h⟩:=obind h
  obtain⟨x16,h17,h⟩:=obind h
  obtain⟨r18,h19,h⟩:=obind h
  have k:=oC 1 [0] (ih _ _ _ _ _ _ h19)<|oA 1 (ix57 (o:=.no) h17)<|oP 2 (apS63 h15 (by simp))<|oA 2 (slTo3_63 (o:=.no) h13)<|oB 2 h11 k
  obtain⟨h20,h⟩:=spT h
  obtain⟨r21,h22,h⟩:=obind h
  obtain rfl:=sj h
  exact k169 (tF q169 1 [0] (oD (dT r21.sub)<|oD (dE q0_l)<|oC 2 [] (c150 h22)<|oB 2 h20 k))
theorem c169{qq q0_l q0_e q0_at p1 p2 r}(h:e169 qq q0_l q0_e q0_at p1 p2=some r):K169 q0_l q0_e q0_at p1 p2 r Ct:=a169 _ _ _ _ _ _ _ h
def e120(qq:Nat)(p0:List Ent)(p1:List ByteArray)(p2:TreeNode):Option (Tm×Int×Int):=
 e116 qq p2>>=fun r1=>
 if r1 then
 e168 qq p0 p1>>=fun r4=>
 if r4 != 0 then
 none
 else
 e169 qq p0 0 0 p1 p2>>=fun r7=>
 if r7.2.1 != 0 then
 none
 else
 e57 qq r7.1>>=fun r10=>
 if r10 then
 some (r7.1,0,0)
 else
 none
 else
 none
abbrev K120 (p0:List Ent) (p1:List ByteArray) (p2:TreeNode) (r:Tm×Int×Int) (C:Cf):Prop:=C 120 [] [slv entL p0 .no,slv strC p1 .no,treeNodeA p2] (.tup [tmA r.1,ai r.2.1,ai r.2.2]) [] 0
theorem q120:Qf 120 Tryz.f120:=⟨Tryz.func120,by kernel_rfl⟩
theorem k120{p0 p1 p2 r}(h:K120 p0 p1 p2 r Ci):K120 p0 p1 p2 r Ct:=⟨h,⟨⟨tv,dE _⟩,⟨tv,dS _⟩,⟨tv,tv,tv,tv,⟨tv,dTreeNode _⟩,tv⟩,tv⟩,forall_nil,⟨⟨tv,tv,dT _,tv⟩,tv,tv,tv⟩,forall_nil⟩
theorem c120{qq p0 p1 p2 r}(h:e120 qq p0 p1 p2=some r):K120 p0 p1 p2 r Ct:=by
 unfold e120 at h
 obtain⟨r1,h2,h⟩:=obind h
 obtain⟨h3,h⟩:=spT h
 obtain⟨r4,h5,h⟩:=obind h
 have k:=oC 1 [] (c168 h5)<|oK 1 [] h3 (c116 h2) o0
 obtain⟨h6,h⟩:=splF h
 obtain⟨r7,h8,h⟩:=obind h
 have k:=oC 1 [2] (c169 h8)<|oB 0 h6 k
 obtain⟨h9,h⟩:=splF h
 obtain⟨r10,h11,h⟩:=obind h
 have k:=oB 2 h9 k
 obtain⟨h12,h⟩:=spT h
 obtain rfl:=sj h
 exact k120 (tF q120 3 [] (oD (dT r7.1.sub)<|oK 1 [] h12 (c57 h11) k))
def e170vabtLbu(qq:Nat)(p0:List Tm)(v32 vb0_0 vb0_1:Int)(vb0_2:List Tm):Option (Tm×Int):=
 if decide (v32<(List.length p0:Int))then
 none
 else
 e57 qq (Tm.mk vb0_0 vb0_1 vb0_2)>>=fun r16=>
 if r16 then
 e41 qq (Tm.mk vb0_0 vb0_1 vb0_2)>>=fun r19=>
 some (r19,0)
 else
 none
def e170vabtLbv(qq:Nat)(p0:List Tm)(p1:Tm)(v17:Int):Option (Tm×Int):=
 if decide (v17<(List.length p0:Int))then
 none
 else
 e57 qq p1>>=fun r8=>
 if r8 then
 e170vabtLbu qq p0 0 p1.k p1.n p1.sub
 else
 none
def e170vabt(qq:Nat)(p0:List Tm)(p1:Tm):Option (Tm×Int):=
 if decide ((List.length p0:Int)>24)then
 none
 else
 e170vabtLbv qq p0 p1 0
def g170vabtLbvE0(j:Nat->Value)(p0:List Tm)(p1:Tm)(v17:Int):=sp j 53 0 [(0,slv tmCells p0 .no),(2,.clo 150 [] []),(4,.mp 0 0),(6,.mp 1 0),(15,slv tmCells p0 .no),(16,ai (List.length p0:Int)),(17,ai v17)]
def g170vabtLbvS0(p0:List Tm)(p1:Tm)(v17:Int):LSt:=⟨[(0,.cells [ai p1.k,ai p1.n,slv tmCells p1.sub .no]),(1,.cells [ai 0,ai 0,slv tmCells ([]:List Tm) .nl])],2,[],0,[]⟩
def g170vabtLbuE0(j:Nat->Value)(p0:List Tm)(v32 vb0_0 vb0_1:Int)(vb0_2:List Tm):=sp j 53 0 [(0,slv tmCells p0 .no),(2,.clo 150 [] []),(4,.mp 0 0),(6,.mp 1 0),(31,ai (List.length p0:Int)),(32,ai v32)]
def g170vabtLbuS0(p0:List Tm)(v32 vb0_0 vb0_1:Int)(vb0_2:List Tm):LSt:=⟨[(0,.cells [ai vb0_0,ai vb0_1,slv tmCells vb0_2 .no]),(1,.cells [ai 0,ai 0,slv tmCells ([]:List Tm) .nl])],2,[],0,[]⟩
abbrev K170vabt (p0:List Tm) (p1:Tm) (r:Tm×Int) (C:Cf):Prop:=C 170 [] [slv tmCells p0 .no,tmA p1,.clo 150 [] []] (.tup [tmA r.1,ai r.2]) [] 0
theorem q170vabt:Qf 170 Tryz.f170:=⟨Tryz.func170,by kernel_rfl⟩
theorem k170vabt{p0 p1 r}(h:K170vabt p0 p1 r Ci):K170vabt p0 p1 r Ct:=⟨h,⟨⟨tv,dT _⟩,⟨tv,tv,⟨tv,dT _⟩,tv⟩,⟨tv,tv⟩,tv⟩,forall_nil,⟨⟨tv,tv,dT _,tv⟩,tv,tv⟩,forall_nil⟩
theorem l170vabtLbu(qq p0 v32 vb0_0 vb0_1 vb0_2 r)(h:e170vabtLbu qq p0 v32 vb0_0 vb0_1 vb0_2=some r):(∀j,Dl Tryz.prog 0 (inn (inn (rgt (lft (rgt (rgt (rgt (rgt (bod Tryz.f170))))))))) (g170vabtLbuE0 j p0 v32 vb0_0 vb0_1 vb0_2) (g170vabtLbuS0 p0 v32 vb0_0 vb0_1 vb0_2) (frameQ Tryz.prog 0 (FinQ Tryz.prog 0 Tryz.f170 (.tup [tmA r.1,ai r.2]) [] 0) [.blk 2,.seq (rgt (rgt (rgt (rgt (rgt (bod Tryz.f170))))))])):=by
 unfold e170vabtLbu at h
 obtain⟨h11,h⟩:=splF h
 obtain⟨r16,h17,h⟩:=obind h
 have k:=oB 0 h11 o0
 obtain⟨h18,h⟩:=spT h
 obtain⟨r19,h20,h⟩:=obind h
 obtain rfl:=sj h
 exact fun j=>lF 1 [] (oD (dT r19.sub)<|oC 2 [] (c41 h20)<|oK 1 [] h18 (c57 h17) k)
theorem l170vabtLbv(qq p0 p1 v17 r)(h:e170vabtLbv qq p0 p1 v17=some r):(∀j,Dl Tryz.prog 0 (inn (inn (rgt (lft (rgt (rgt (bod Tryz.f170))))))) (g170vabtLbvE0 j p0 p1 v17) (g170vabtLbvS0 p0 p1 v17) (frameQ Tryz.prog 0 (FinQ Tryz.prog 0 Tryz.f170 (.tup [tmA r.1,ai r.2]) [] 0) [.blk 0,.seq (rgt (rgt (rgt (bod Tryz.f170))))])):=by
 unfold e170vabtLbv at h
 obtain⟨h2,h⟩:=splF h
 obtain⟨r8,h9,h⟩:=obind h
 have k:=oB 0 h2 o0
 obtain⟨h10,h⟩:=spT h
 exact fun j=>lH 2 [] [0,1] [] [0,2,4,6,31,32] (oD (dT p0)<|oD (dT ([]:List Tm))<|oD (dT p1.sub)<|oK 1 [] h10 (c57 h9) k) (l170vabtLbu qq _ _ _ _ _ _ h)
theorem c170vabt{qq p0 p1 r}(h:e170vabt qq p0 p1=some r):K170vabt p0 p1 r Ct:=by
 unfold e170vabt at h
 obtain⟨h1,h⟩:=splF h
 exact k170vabt (tH q170vabt 1 [] [0,1] [] [0,2,4,6,15,16,17] (oD (dT p0)<|oD (dT p0)<|oD (dT ([]:List Tm))<|oD (dT p1.sub)<|oB 1 h1 o0) (l170vabtLbv qq _ _ _ _ h))
def e121(qq:Nat)(p0:List Tm)(p1:Tm):Option (Tm×Int):=
 e170vabt qq p0 p1>>=fun r1=>
 some (r1.1,r1.2)
abbrev K121 (p0:List Tm) (p1:Tm) (r:Tm×Int) (C:Cf):Prop:=C 121 [] [slv tmCells p0 .no,tmA p1] (.tup [tmA r.1,ai r.2]) [] 0
theorem q121:Qf 121 Tryz.f121:=⟨Tryz.func121,by kernel_rfl⟩
theorem k121{p0 p1 r}(h:K121 p0 p1 r Ci):K121 p0 p1 r Ct:=⟨h,⟨⟨tv,dT _⟩,⟨tv,tv,⟨tv,dT _⟩,tv⟩,tv⟩,forall_nil,⟨⟨tv,tv,dT _,tv⟩,tv,tv⟩,forall_nil⟩
theorem c121{qq p0 p1 r}(h:e121 qq p0 p1=some r):K121 p0 p1 r Ct:=by
 unfold e121 at h
 obtain⟨r1,h2,h⟩:=obind h
 obtain rfl:=sj h
 exact k121 (tF q121 3 [] (oD (dT r1.1.sub)<|oC 1 [] (c170vabt h2) o0))
def e215vrz(qq:Nat)(p1:Int):Option (List Ent×Nat):=
 if decide (p1<0)then
 none
 else
 if decide ((w64 (p1-0))>0)then
 gmk 192 (default:Ent) (w64 (p1-0))>>=fun x3=>
 gcut (List.length x3) 0 0>>=fun x5=>
 some (x3,x5.2)
 else
 none
abbrev K215vrz (p1:Int) (r:List Ent×Nat) (C:Cf):Prop:=C 215 [] [slv entL ([]:List Ent) .nl,ai p1] (.ms 0 0 r.2 (List.length r.1) 15) [.row (flat entL r.1)] 0
theorem q215vrz:Qf 215 Tryz.f215:=⟨Tryz.func215,by kernel_rfl⟩
theorem k215vrz{p1 r}(h:K215vrz p1 r Ci):K215vrz p1 r Ct:=⟨h,⟨⟨tv,dE _⟩,tv,tv⟩,forall_nil,(lz rfl),(forall_cons (dE _) forall_nil)⟩
theorem c215vrz{qq p1 r}(h:e215vrz qq p1=some r):K215vrz p1 r Ct:=by
 unfold e215vrz at h
 obtain⟨h1,h⟩:=splF h
 have k:=oB 0 h1 o0
 obtain⟨h2,h⟩:=spT h
 obtain⟨x3,h4,h⟩:=obind h
 obtain⟨x5,h6,h⟩:=obind h
 obtain rfl:=sj h
 exact k215vrz (tF q215vrz 0 [0] (oD (dE x3)<|oA 1 (slMTo22 (b:=0) (off:=0) (n:=List.length x3) h6)<|oMz 2 (zrM22_3 (of_decide_eq_true h2) h4)<|oB 4 h2 k))
def e215(qq:Nat)(p1:Int):Option Unit:=(e215vrz qq p1)>>=fun r=>if decide (r.2=0)=true then some ()else none
theorem c215{qq:Nat}{p1:Int}{r:Unit}(h:e215 qq p1=some r):CT Tryz.prog 215 [] [.sl (flat entL ([]:List Ent)) (List.length ([]:List Ent)) .nl,ai p1] (.sl (flat entL ([]:List Ent)) (List.length ([]:List Ent)) (.st 0 15)) [] 1:=by
 obtain⟨x,h1,h⟩:=obind h
 obtain⟨h2,h⟩:=spT h
 exact CT.freezeZ (c215vrz h1) (of_decide_eq_true h2)
def e171Lbw:Nat->(List (List Ent))->Int->(List Ent)->Option (List Ent)
 |0,_,_,_=>none
 |qq+1,p0,v27,v6=>
 if decide (v27<(List.length p0:Int))then
 gidx p0 v27>>=fun x8=>
 gapp 192 v6 x8>>=fun l10=>
 e171Lbw qq p0 (w64 (v27+1)) l10
 else
 some v6
def e171Lbx:Nat->(List (List Ent))->Int->Int->Option (List Ent)
 |0,_,_,_=>none
 |qq+1,p0,v11,v3=>
 if decide (v11<(List.length p0:Int))then
 gidx p0 v11>>=fun x2=>
 if decide ((w64 (v3+(List.length x2:Int)))<0)then
 none
 else
 e171Lbx qq p0 (w64 (v11+1)) (w64 (v3+(List.length x2:Int)))
 else
 e215 qq v3>>=fun r5=>
 e171Lbw qq p0 0 []
def e171(qq:Nat)(p0:List (List Ent)):Option (List Ent):=
 e171Lbx qq p0 0 0
def g171LbxE0(j:Nat->Value)(p0:List (List Ent))(v11 v3:Int):=sp j 36 0 [(0,slv (slC entL) p0 .no),(3,ai v3),(9,slv (slC entL) p0 .no),(10,ai (List.length p0:Int)),(11,ai v11)]
def g171LbxS0(p0:List (List Ent))(v11 v3:Int):LSt:=⟨[],0,[],0,[]⟩
def g171LbwE0(j:Nat->Value)(p0:List (List Ent))(v27:Int)(v6:List Ent):=sp j 36 0 [(6,slv entL v6 (.st 0 15)),(25,slv (slC entL) p0 .no),(26,ai (List.length p0:Int)),(27,ai v27)]
def g171LbwS0(p0:List (List Ent))(v27:Int)(v6:List Ent):LSt:=⟨[],0,[0],1,[]⟩
abbrev K171 (p0:List (List Ent)) (r:List Ent) (C:Cf):Prop:=C 171 [] [slv (slC entL) p0 .no] (.sl (flat entL r) (List.length r) .no) [] 0
theorem q171:Qf 171 Tryz.f171:=⟨Tryz.func171,by kernel_rfl⟩
theorem k171{p0 r}(h:K171 p0 r Ci):K171 p0 r Ct:=⟨h,⟨⟨tv,(dSl codecE) _⟩,tv⟩,forall_nil,dE _,forall_nil⟩
theorem l171Lbw:∀qq:Nat,(∀p0 v27 v6 r,e171Lbw qq p0 v27 v6=some r->(∀j,Dl Tryz.prog 0 (inn (inn (rgt (lft (rgt (rgt (rgt (rgt (bod Tryz.f171))))))))) (g171LbwE0 j p0 v27 v6) (g171LbwS0 p0 v27 v6) (frameQ Tryz.prog 0 (FinQ Tryz.prog 0 Tryz.f171 (.sl (flat entL r) (List.length r) .no) [] 0) [.blk 2,.seq (rgt (rgt (rgt (rgt (rgt (bod Tryz.f171))))))]))):=by
 intro qq
 induction qq with
 |zero=>
  exact fun _ _ _ _ h=>nn h
 |succ qq ih=>
  intro p0 v27 v6 r h
  rw[e171Lbw]at h
  rcases spl h with⟨h7,h⟩|⟨h7,h⟩
  obtain⟨x8,h9,h⟩:=obind h
  obtain⟨l10,h11,h⟩:=obind h
  have k:=oA 0 (ix255 (o:=.no) h9)<|oB 0 h7 o0
  by_cases h12:List.length x8=0
  exact fun j=>lH 1 [] [] [0] [6,25,26,27] (oD ((dSl codecE) p0)<|oD (dE l10)<|oP 1 (apN22 h11 h12) k) (ih _ _ _ _ h)
  exact fun j=>lH 1 [] [] [1] [6,25,26,27] (oD ((dSl codecE) p0)<|oD (dE l10)<|oP 1 (apS22 h11 h12) k) (ih _ _ _ _ h)
  obtain rfl:=sj h
  exact fun j=>lF 0 [] (oD (dE v6)<|oB 0 h7 o0)
theorem l171Lbx:∀qq:Nat,(∀p0 v11 v3 r,e171Lbx qq p0 v11 v3=some r->(∀j,Dl Tryz.prog 0 (inn (inn (rgt (lft (rgt (rgt (bod Tryz.f171))))))) (g171LbxE0 j p0 v11 v3) (g171LbxS0 p0 v11 v3) (frameQ Tryz.prog 0 (FinQ Tryz.prog 0 Tryz.f171 (.sl (flat entL r) (List.length r) .no) [] 0) [.blk 0,.seq (rgt (rgt (rgt (bod Tryz.f171))))]))):=by
 intro qq
 induction qq with
 |zero=>
  exact fun _ _ _ _ h=>nn h
 |succ qq ih=>
  intro p0 v11 v3 r h
  rw[e171Lbx]at h
  rcases spl h with⟨h1,h⟩|⟨h1,h⟩
  obtain⟨x2,h3,h⟩:=obind h
  have k:=oA 0 (ix255 (o:=.no) h3)<|oB 0 h1 o0
  obtain⟨h4,h⟩:=splF h
  exact fun j=>lH 1 [] [] [] [0,3,9,10,11] (oD ((dSl codecE) p0)<|oD ((dSl codecE) p0)<|oB 3 h4 k) (ih _ _ _ _ h)
  obtain⟨r5,h6,h⟩:=obind h
  exact fun j=>lH 1 [] [] [0] [6,25,26,27] (oD ((dSl codecE) p0)<|oD (dE ([]:List Ent))<|oCx 0 [] (c215 h6)<|oB 0 h1 o0) (l171Lbw _ _ _ _ _ h)
theorem c171{qq p0 r}(h:e171 qq p0=some r):K171 p0 r Ct:=by
 unfold e171 at h
 exact k171 (tH q171 1 [] [] [] [0,3,9,10,11] (oD ((dSl codecE) p0)<|oD ((dSl codecE) p0) o0) (l171Lbx _ _ _ _ _ h))
def e42v0(qq:Nat)(p0:List Int):Option (List Int):=
 some []
abbrev K42v0 (p0 r:List Int) (C:Cf):Prop:=C 42 [] [slv intC p0 .nl] (.sl (flat intC r) (List.length r) .no) [] 0
theorem q42v0:Qf 42 Tryz.f42:=⟨Tryz.func42,by kernel_rfl⟩
theorem k42v0{p0 r}(h:K42v0 p0 r Ci):K42v0 p0 r Ct:=⟨h,⟨⟨tv,dI _⟩,tv⟩,forall_nil,dI _,forall_nil⟩
theorem c42v0{qq p0 r}(h:e42v0 qq p0=some r):K42v0 p0 r Ct:=by
 unfold e42v0 at h
 obtain rfl:=sj h
 exact k42v0 (tF q42v0 1 [] (oD (dI ([]:List Int)) o0))
def e42v1(qq:Nat)(p0:List Int):Option (List Int):=
 gapp 8 ([]:List Int) p0>>=fun l1=>
 some l1
abbrev K42v1 (p0 r:List Int) (C:Cf):Prop:=C 42 [] [slv intC p0 .nn] (.sl (flat intC r) (List.length r) .no) [] 0
theorem q42v1:Qf 42 Tryz.f42:=⟨Tryz.func42,by kernel_rfl⟩
theorem k42v1{p0 r}(h:K42v1 p0 r Ci):K42v1 p0 r Ct:=⟨h,⟨⟨tv,dI _⟩,tv⟩,forall_nil,dI _,forall_nil⟩
theorem c42v1{qq p0 r}(h:e42v1 qq p0=some r):K42v1 p0 r Ct:=by
 unfold e42v1 at h
 obtain⟨l1,h2,h⟩:=obind h
 by_cases h3:List.length p0=0
 obtain rfl:=sj h
 exact k42v1 (tF q42v1 0 [] (oD (dI l1)<|oP 2 (apN32 h2 h3) o0))
 obtain rfl:=sj h
 exact k42v1 (tF q42v1 0 [] (oD (dI l1)<|oP 2 (apS32 h2 h3) o0))
def e42vr0(qq:Nat)(p0:List Int):Option (Unit):=
 some ()
abbrev K42vr0 (p0:List Int) (C:Cf):Prop:=C 42 [] [slv intC p0 .nl] (slv intC ([]:List Int) .full) [] 0
theorem q42vr0:Qf 42 Tryz.f42:=⟨Tryz.func42,by kernel_rfl⟩
theorem k42vr0{p0}(h:K42vr0 p0 Ci):K42vr0 p0 Ct:=⟨h,⟨⟨tv,dI _⟩,tv⟩,forall_nil,dI _,forall_nil⟩
theorem c42vr0{qq p0 r}(h:e42vr0 qq p0=some r):K42vr0 p0 Ct:=by
 unfold e42vr0 at h
 obtain rfl:=sj h
 exact k42vr0 (tG q42vr0 1 [] [] [] true (oD (dI ([]:List Int)) o0))
def e42vr1(qq:Nat)(p0:List Int):Option ((Unit) ⊕ (List Int)):=
 if decide (List.length p0=0)then
 some (Sum.inl ())
 else
 gapp 8 ([]:List Int) p0>>=fun l2=>
 some (Sum.inr l2)
abbrev K42vr1s0 (p0:List Int) (C:Cf):Prop:=C 42 [] [slv intC p0 .nn] (slv intC ([]:List Int) .full) [] 0
abbrev K42vr1s1 (p0 r:List Int) (C:Cf):Prop:=C 42 [] [slv intC p0 .nn] (.ms 0 0 (List.length r) (List.length r) 1) [.row (flat intC r)] 0
theorem q42vr1:Qf 42 Tryz.f42:=⟨Tryz.func42,by kernel_rfl⟩
theorem k42vr1s0{p0}(h:K42vr1s0 p0 Ci):K42vr1s0 p0 Ct:=⟨h,⟨⟨tv,dI _⟩,tv⟩,forall_nil,dI _,forall_nil⟩
theorem k42vr1s1{p0 r}(h:K42vr1s1 p0 r Ci):K42vr1s1 p0 r Ct:=⟨h,⟨⟨tv,dI _⟩,tv⟩,forall_nil,(lz rfl),(forall_cons (dI _) forall_nil)⟩
theorem c42vr1{qq p0 r}(h:e42vr1 qq p0=some r):(match (generalizing:=false) r with|Sum.inl x=>K42vr1s0 p0 Ct|Sum.inr x=>K42vr1s1 p0 x Ct):=by
 unfold e42vr1 at h
 rcases spl h with⟨h1,h⟩|⟨h1,h⟩
 obtain rfl:=sj h
 exact k42vr1s0 (tG q42vr1 0 [] [] [] true (oD (dI ([]:List Int))<|oQ 2 (apQ32 (of_decide_eq_true h1)) o0))
 obtain⟨l2,h3,h⟩:=obind h
 obtain rfl:=sj h
 exact k42vr1s1 (tF q42vr1 0 [0] (oD (dI l2)<|oM 2 (apW32 h3 (of_decide_eq_false h1)) o0))
def e42(_qq:Nat)(p0:List Int):Option (List Int):=gapp 8 [] p0
theorem c42{qq:Nat}{p0:List Int}{r:List Int}(h:e42 qq p0=some r):CT Tryz.prog 42 [] [.sl (flat intC p0) (List.length p0) .no] (.sl (flat intC r) (List.length r) .no) [] 0:=by
 have hr:r=p0:=by have:=(gapp_spec h).2;simpa using this
 have h1:e42v1 qq p0=some r:=by unfold e42v1;rw[show gapp 8 ([]:List Int) p0=some r from h];rfl
 have k1:=c42v1 h1
 refine⟨CTri.nilcase (fun hn=>?_) k1.tri,⟨⟨trivial,dI _⟩,trivial⟩,(fun _ h=>nomatch h),dI _,(fun _ h=>nomatch h)⟩
 have hp:p0=[]:=flat_nil codecI (by decide) hn
 subst hr
 subst hp
 exact(c42v0 (qq:=qq) rfl).tri
def e42vr(qq:Nat)(p0:List Int):Option (Unit ⊕ List Int):=if decide (List.length p0=0)=true then some (.inl ())else(gapp 8 [] p0)>>=fun r=>some (.inr r)
theorem c42vr{qq:Nat}{p0:List Int}{r:Unit ⊕ List Int}(h:e42vr qq p0=some r):(match (generalizing:=false) r with | .inl _=>CT Tryz.prog 42 [] [.sl (flat intC p0) (List.length p0) .no] (.sl (flat intC ([]:List Int)) (List.length ([]:List Int)) .full) [] 0 | .inr x=>CT Tryz.prog 42 [] [.sl (flat intC p0) (List.length p0) .no] (.ms 0 0 (List.length x) (List.length x) 1) [.row (flat intC x)] 0):=by
 unfold e42vr at h
 rcases spl h with⟨h1,h⟩|⟨h1,h⟩
 ·obtain rfl:=sj h
  have hp:p0=[]:=List.length_eq_zero_iff.1 (of_decide_eq_true h1)
  subst hp
  have k0:=c42vr0 (qq:=qq) (p0:=[]) (r:=()) rfl
  have k1:=c42vr1 (qq:=qq) (p0:=[]) (r:=.inl ()) rfl
  exact⟨CTri.nilcase (fun _=>k0.tri) k1.tri,⟨⟨trivial,dI _⟩,trivial⟩,(fun _ h=>nomatch h),dI _,(fun _ h=>nomatch h)⟩
 ·obtain⟨x,h2,h⟩:=obind h
  obtain rfl:=sj h
  have k1:=c42vr1 (qq:=qq) (p0:=p0) (r:=.inr x) (by unfold e42vr1;rw[if_neg (by rw[h1];decide),h2];rfl)
  refine⟨CTri.nilcase (fun hn=>?_) k1.tri,⟨⟨trivial,dI _⟩,trivial⟩,(fun _ h=>nomatch h),(show 0<1 by decide),forall_cons (dI _) forall_nil⟩
  have hp:p0=[]:=flat_nil codecI (by decide) hn
  subst hp
  cases h1
def e42vz(_qq:Nat)(p0:List Int):Option (List Int):=gapp 8 [] p0
theorem c42vz{qq:Nat}{p0:List Int}{r:List Int}(h:e42vz qq p0=some r):CT Tryz.prog 42 [] [.sl (flat intC p0) (List.length p0) .no] (.sl (flat intC r) (List.length r) .z) [] 0:=by
 have hr:r=p0:=by have:=(gapp_spec h).2;simpa using this
 subst hr
 cases r with
 |nil=>exact CT.zfull (c42vr (qq:=qq) (p0:=[]) (r:=.inl ()) rfl)
 |cons x l=>exact CT.zno (by simp) (dI _) (c42 (qq:=qq) h)
def e23vzL38262:Nat->(List Ent)->(List EntZ)->Int->Option (List Ent)
 |0,_,_,_=>none
 |qq+1,p0,v3,v8=>
 if decide (v8<(List.length p0:Int))then
 gidx p0 v8>>=fun x2=>
 e41 qq x2.type>>=fun r4=>
 e41 qq x2.body>>=fun r6=>
 e42vz qq x2.cons>>=fun r8=>
 e42vz qq x2.fields>>=fun r10=>
 gapp 192 v3 [(Ent.mk x2.kind x2.name r4 r6 x2.fam x2.place x2.pars x2.inds x2.level r8 r10)]>>=fun l12=>
 e23vzL38262 qq p0 l12 (w64 (v8+1))
 else
 some v3
def e23vz(qq:Nat)(p0:List Ent):Option (List Ent):=
 e23vzL38262 qq p0 [] 0
def g23vzL38262E0(j:Nat->Value)(p0:List Ent)(v3:List EntZ)(v8:Int):=sp j 34 0 [(3,slv entZ v3 (.st 0 15)),(6,slv entL p0 .no),(7,ai (List.length p0:Int)),(8,ai v8)]
def g23vzL38262S0(p0:List Ent)(v3:List EntZ)(v8:Int):LSt:=⟨[],0,[0],1,[]⟩
abbrev K23vz (p0 r:List Ent) (C:Cf):Prop:=C 23 [] [slv entL p0 .no] (slv entZ r .no) [] 0
theorem q23vz:Qf 23 Tryz.f23:=⟨Tryz.func23,by kernel_rfl⟩
theorem k23vz{p0 r}(h:K23vz p0 r Ci):K23vz p0 r Ct:=⟨h,⟨⟨tv,dE _⟩,tv⟩,forall_nil,dEZ _,forall_nil⟩
theorem l23vzL38262:∀qq:Nat,(∀p0 v3 v8 r,e23vzL38262 qq p0 v3 v8=some r->(∀j,Dl Tryz.prog 0 (inn (inn (rgt (lft (rgt (rgt (bod Tryz.f23))))))) (g23vzL38262E0 j p0 v3 v8) (g23vzL38262S0 p0 v3 v8) (frameQ Tryz.prog 0 (FinQ Tryz.prog 0 Tryz.f23 (slv entZ r .no) [] 0) [.blk 0,.seq (rgt (rgt (rgt (bod Tryz.f23))))]))):=by
 intro qq
 induction qq with
 |zero=>
  exact fun _ _ _ _ h=>nn h
 |succ qq ih=>
  intro p0 v3 v8 r h
  rw[e23vzL38262]at h
  rcases spl h with⟨h1,h⟩|⟨h1,h⟩
  obtain⟨x2,h3,h⟩:=obind h
  obtain⟨r4,h5,h⟩:=obind h
  obtain⟨r6,h7,h⟩:=obind h
  obtain⟨r8,h9,h⟩:=obind h
  obtain⟨r10,h11,h⟩:=obind h
  obtain⟨l12,h13,h⟩:=obind h
  exact fun j=>lH 1 [] [] [1] [3,6,7,8] (oD (dE p0)<|oD (dEZ l12)<|oP 0 (apSZ22 h13 (by simp))<|oWk 3 (wkr (slv entZ [(Ent.mk x2.kind x2.name r4 r6 x2.fam x2.place x2.pars x2.inds x2.level r8 r10)] .full))<|oC 0 [] (c42vz h11)<|oCl 0<|oC 3 [] (c42vz h9)<|oC 1 [] (c41 h7)<|oC 3 [] (c41 h5)<|oA 0 (ix22 (o:=.no) h3)<|oB 0 h1 o0) (ih _ _ _ _ h)
  obtain rfl:=sj h
  exact fun j=>lF 0 [] (oD (dEZ v3)<|oB 0 h1 o0)
theorem c23vz{qq p0 r}(h:e23vz qq p0=some r):K23vz p0 r Ct:=by
 unfold e23vz at h
 exact k23vz (tH q23vz 1 [(none,3,15)] [] [0] [3,6,7,8] (oD (dE p0)<|oD (dEZ ([]:List EntZ)) o0) (l23vzL38262 _ _ _ _ _ h))
def e122Lby:Nat->(List Ent)->(List Ent)->(List (ByteArray×Int))->Int->Option (List Ent×Int)
 |0,_,_,_,_=>none
 |qq+1,p0,p1,vb0_0,v36=>
 if decide (v36<(List.length p1:Int))then
 gidx p1 v36>>=fun x9=>
 if decide ((mget vb0_0 x9.name)>0)then
 none
 else
 e122Lby qq p0 p1 vb0_0 (w64 (v36+1))
 else
 e171 qq [p0,p1]>>=fun r12=>
 e19 qq r12>>=fun r14=>
 if r14 then
 e23vz qq r12>>=fun r17=>
 some (r17,0)
 else
 none
def e122Lbz(qq:Nat)(p0 p1:List Ent)(v24:Int)(vb0_0:List (ByteArray×Int)):Option (List Ent×Int):=
 if decide (v24<(List.length p0:Int))then
 none
 else
 e122Lby qq p0 p1 vb0_0 0
def e122(qq:Nat)(p0 p1:List Ent):Option (List Ent×Int):=
 e19 qq p0>>=fun r1=>
 if r1 then
 if decide ((List.length p1:Int)>(w64 (256-(List.length p0:Int))))then
 none
 else
 e122Lbz qq p0 p1 0 ([]:List (ByteArray×Int))
 else
 none
def g122LbzE0(j:Nat->Value)(p0 p1:List Ent)(v24:Int)(vb0_0:List (ByteArray×Int)):=sp j 55 0 [(0,slv entL p0 .no),(1,slv entL p1 .no),(6,.obj 0),(22,slv entL p0 .no),(23,ai (List.length p0:Int)),(24,ai v24)]
def g122LbzS0(p0 p1:List Ent)(v24:Int)(vb0_0:List (ByteArray×Int)):LSt:=⟨[(0,smap vb0_0)],1,[],0,[]⟩
def g122LbyE0(j:Nat->Value)(p0 p1:List Ent)(vb0_0:List (ByteArray×Int))(v36:Int):=sp j 55 0 [(0,slv entL p0 .no),(1,slv entL p1 .no),(6,.obj 0),(34,slv entL p1 .no),(35,ai (List.length p1:Int)),(36,ai v36)]
def g122LbyS0(p0 p1:List Ent)(vb0_0:List (ByteArray×Int))(v36:Int):LSt:=⟨[(0,smap vb0_0)],1,[],0,[]⟩
abbrev K122 (p0 p1:List Ent) (r:List Ent×Int) (C:Cf):Prop:=C 122 [] [slv entL p0 .no,slv entL p1 .no] (.tup [slv entZ r.1 .no,ai r.2]) [] 0
theorem q122:Qf 122 Tryz.f122:=⟨Tryz.func122,by kernel_rfl⟩
theorem k122{p0 p1 r}(h:K122 p0 p1 r Ci):K122 p0 p1 r Ct:=⟨h,⟨⟨tv,dE _⟩,⟨tv,dE _⟩,tv⟩,forall_nil,⟨dEZ _,tv,tv⟩,forall_nil⟩
theorem l122Lby:∀qq:Nat,(∀p0 p1 vb0_0 v36 r,e122Lby qq p0 p1 vb0_0 v36=some r->(∀j,Dl Tryz.prog 0 (inn (inn (rgt (lft (rgt (rgt (rgt (rgt (rgt (bod Tryz.f122)))))))))) (g122LbyE0 j p0 p1 vb0_0 v36) (g122LbyS0 p0 p1 vb0_0 v36) (frameQ Tryz.prog 0 (FinQ Tryz.prog 0 Tryz.f122 (.tup [slv entZ r.1 .no,ai r.2]) [] 0) [.blk 2,.seq (rgt (rgt (rgt (rgt (rgt (rgt (bod Tryz.f122)))))))]))):=by
 intro qq
 induction qq with
 |zero=>
  exact fun _ _ _ _ _ h=>nn h
 |succ qq ih=>
  intro p0 p1 vb0_0 v36 r h
  rw[e122Lby]at h
  rcases spl h with⟨h8,h⟩|⟨h8,h⟩
  obtain⟨x9,h10,h⟩:=obind h
  have k:=oL 3 (lk109 vb0_0 x9.name)<|oA 0 (ix22 (o:=.no) h10)<|oB 0 h8 o0
  obtain⟨h11,h⟩:=splF h
  exact fun j=>lH 1 [] [0] [] [0,1,6,34,35,36] (oD (dE p1)<|oD (dE p1)<|oD (dE p0)<|oB 0 h11 k) (ih _ _ _ _ _ h)
  obtain⟨r12,h13,h⟩:=obind h
  obtain⟨r14,h15,h⟩:=obind h
  have k:=oC 1 [] (c171 h13)<|oB 0 h8 o0
  obtain⟨h16,h⟩:=spT h
  obtain⟨r17,h18,h⟩:=obind h
  obtain rfl:=sj h
  exact fun j=>lF 0 [] (oD (dEZ r17)<|oC 1 [] (c23vz h18)<|oK 0 [] h16 (c19 h15) k)
theorem l122Lbz(qq p0 p1 v24 vb0_0 r)(h:e122Lbz qq p0 p1 v24 vb0_0=some r):(∀j,Dl Tryz.prog 0 (inn (inn (rgt (lft (rgt (rgt (rgt (rgt (bod Tryz.f122))))))))) (g122LbzE0 j p0 p1 v24 vb0_0) (g122LbzS0 p0 p1 v24 vb0_0) (frameQ Tryz.prog 0 (FinQ Tryz.prog 0 Tryz.f122 (.tup [slv entZ r.1 .no,ai r.2]) [] 0) [.blk 0,.seq (rgt (rgt (rgt (rgt (rgt (bod Tryz.f122))))))])):=by
 unfold e122Lbz at h
 obtain⟨h5,h⟩:=splF h
 exact fun j=>lH 1 [] [0] [] [0,1,6,34,35,36] (oD (dE p1)<|oD (dE p1)<|oD (dE p0)<|oB 0 h5 o0) (l122Lby _ _ _ _ _ _ h)
theorem c122{qq p0 p1 r}(h:e122 qq p0 p1=some r):K122 p0 p1 r Ct:=by
 unfold e122 at h
 obtain⟨r1,h2,h⟩:=obind h
 obtain⟨h3,h⟩:=spT h
 have k:=oK 0 [] h3 (c19 h2) o0
 obtain⟨h4,h⟩:=splF h
 exact k122 (tH q122 1 [] [0] [] [0,1,6,22,23,24] (oD (dE p0)<|oD (dE p1)<|oD (dE p0)<|oB 4 h4 k) (l122Lbz qq _ _ _ _ _ h))
def e23Lca:Nat->(List Ent)->(List Ent)->Int->Option (List Ent)
 |0,_,_,_=>none
 |qq+1,p0,v3,v8=>
 if decide (v8<(List.length p0:Int))then
 gidx p0 v8>>=fun x2=>
 e41 qq x2.type>>=fun r4=>
 e41 qq x2.body>>=fun r6=>
 e42 qq x2.cons>>=fun r8=>
 e42 qq x2.fields>>=fun r10=>
 gapp 192 v3 [(Ent.mk x2.kind x2.name r4 r6 x2.fam x2.place x2.pars x2.inds x2.level r8 r10)]>>=fun l12=>
 e23Lca qq p0 l12 (w64 (v8+1))
 else
 some v3
def e23(qq:Nat)(p0:List Ent):Option (List Ent):=
 e23Lca qq p0 [] 0
def g23LcaE0(j:Nat->Value)(p0 v3:List Ent)(v8:Int):=sp j 34 0 [(3,slv entL v3 (.st 0 15)),(6,slv entL p0 .no),(7,ai (List.length p0:Int)),(8,ai v8)]
def g23LcaS0(p0 v3:List Ent)(v8:Int):LSt:=⟨[],0,[0],1,[]⟩
abbrev K23 (p0 r:List Ent) (C:Cf):Prop:=C 23 [] [slv entL p0 .no] (slv entL r (.st 0 15)) [] 1
theorem q23:Qf 23 Tryz.f23:=⟨Tryz.func23,by kernel_rfl⟩
theorem k23{p0 r}(h:K23 p0 r Ci):K23 p0 r Ct:=⟨h,⟨⟨tv,dE _⟩,tv⟩,forall_nil,dE _,forall_nil⟩
theorem l23Lca:∀qq:Nat,(∀p0 v3 v8 r,e23Lca qq p0 v3 v8=some r->(∀j,Dl Tryz.prog 0 (inn (inn (rgt (lft (rgt (rgt (bod Tryz.f23))))))) (g23LcaE0 j p0 v3 v8) (g23LcaS0 p0 v3 v8) (frameQ Tryz.prog 0 (FinQ Tryz.prog 0 Tryz.f23 (slv entL r (.st 0 15)) [] 1) [.blk 0,.seq (rgt (rgt (rgt (bod Tryz.f23))))]))):=by
 intro qq
 induction qq with
 |zero=>
  exact fun _ _ _ _ h=>nn h
 |succ qq ih=>
  intro p0 v3 v8 r h
  rw[e23Lca]at h
  rcases spl h with⟨h1,h⟩|⟨h1,h⟩
  obtain⟨x2,h3,h⟩:=obind h
  obtain⟨r4,h5,h⟩:=obind h
  obtain⟨r6,h7,h⟩:=obind h
  obtain⟨r8,h9,h⟩:=obind h
  obtain⟨r10,h11,h⟩:=obind h
  obtain⟨l12,h13,h⟩:=obind h
  exact fun j=>lH 1 [] [] [1] [3,6,7,8] (oD (dE p0)<|oD (dE l12)<|oP 4 (apS22 h13 (by simp))<|oC 0 [] (c42 h11)<|oCl 0<|oC 3 [] (c42 h9)<|oC 1 [] (c41 h7)<|oC 3 [] (c41 h5)<|oA 0 (ix22 (o:=.no) h3)<|oB 0 h1 o0) (ih _ _ _ _ h)
  obtain rfl:=sj h
  exact fun j=>lG 0 [] [] [0] true (oD (dE v3)<|oB 0 h1 o0)
theorem c23{qq p0 r}(h:e23 qq p0=some r):K23 p0 r Ct:=by
 unfold e23 at h
 exact k23 (tH q23 1 [(none,3,15)] [] [0] [3,6,7,8] (oD (dE p0)<|oD (dE ([]:List Ent)) o0) (l23Lca _ _ _ _ _ h))
def e178v0(qq:Nat)(p0:List Tm):Option (List Tm):=
 some []
abbrev K178v0 (p0 r:List Tm) (C:Cf):Prop:=C 178 [] [slv tmCells p0 .nl] (.sl (flat tmCells r) (List.length r) .no) [] 0
theorem q178v0:Qf 178 Tryz.f178:=⟨Tryz.func178,by kernel_rfl⟩
theorem k178v0{p0 r}(h:K178v0 p0 r Ci):K178v0 p0 r Ct:=⟨h,⟨⟨tv,dT _⟩,tv⟩,forall_nil,dT _,forall_nil⟩
theorem c178v0{qq p0 r}(h:e178v0 qq p0=some r):K178v0 p0 r Ct:=by
 unfold e178v0 at h
 obtain rfl:=sj h
 exact k178v0 (tF q178v0 1 [] (oD (dT ([]:List Tm)) o0))
def e178v1(qq:Nat)(p0:List Tm):Option (List Tm):=
 gapp 40 ([]:List Tm) p0>>=fun l1=>
 some l1
abbrev K178v1 (p0 r:List Tm) (C:Cf):Prop:=C 178 [] [slv tmCells p0 .nn] (.sl (flat tmCells r) (List.length r) .no) [] 0
theorem q178v1:Qf 178 Tryz.f178:=⟨Tryz.func178,by kernel_rfl⟩
theorem k178v1{p0 r}(h:K178v1 p0 r Ci):K178v1 p0 r Ct:=⟨h,⟨⟨tv,dT _⟩,tv⟩,forall_nil,dT _,forall_nil⟩
theorem c178v1{qq p0 r}(h:e178v1 qq p0=some r):K178v1 p0 r Ct:=by
 unfold e178v1 at h
 obtain⟨l1,h2,h⟩:=obind h
 by_cases h3:List.length p0=0
 obtain rfl:=sj h
 exact k178v1 (tF q178v1 0 [] (oD (dT l1)<|oP 2 (apN29 h2 h3) o0))
 obtain rfl:=sj h
 exact k178v1 (tF q178v1 0 [] (oD (dT l1)<|oP 2 (apS29 h2 h3) o0))
def e178(_qq:Nat)(p0:List Tm):Option (List Tm):=gapp 40 [] p0
theorem c178{qq:Nat}{p0:List Tm}{r:List Tm}(h:e178 qq p0=some r):CT Tryz.prog 178 [] [.sl (flat tmCells p0) (List.length p0) .no] (.sl (flat tmCells r) (List.length r) .no) [] 0:=by
 have hr:r=p0:=by have:=(gapp_spec h).2;simpa using this
 have h1:e178v1 qq p0=some r:=by unfold e178v1;rw[show gapp 40 ([]:List Tm) p0=some r from h];rfl
 have k1:=c178v1 h1
 refine⟨CTri.nilcase (fun hn=>?_) k1.tri,⟨⟨trivial,dT _⟩,trivial⟩,(fun _ h=>nomatch h),dT _,(fun _ h=>nomatch h)⟩
 have hp:p0=[]:=flat_nil codecT (by decide) hn
 subst hr
 subst hp
 exact(c178v0 (qq:=qq) rfl).tri
def e179(qq:Nat)(p0:List Ent)(p1:Tm)(p2 p3:Int):Option (Rec'):=
 e44 qq p1>>=fun r1=>
 e47 qq r1.2.1>>=fun r3=>
 if r1.2.2 != 0 then
 none
 else
 if r3.1.k != 6 then
 some (Rec'.mk false [] [])
 else
 if r3.1.n != p2 then
 some (Rec'.mk false [] [])
 else
 gidx p0 p2>>=fun x8=>
 e88 qq r1.2.1 p2 x8.pars x8.inds (w64 (p3+(List.length r1.1:Int)))>>=fun r10=>
 if r10 then
 gsl r3.2 x8.pars (List.length r3.2:Int)>>=fun x13=>
 e178 qq x13>>=fun r15=>
 some (Rec'.mk true r1.1 r15)
 else
 none
abbrev K179 (p0:List Ent) (p1:Tm) (p2 p3:Int) (r:Rec') (C:Cf):Prop:=C 179 [] [slv entL p0 .no,tmA p1,ai p2,ai p3] (recA r) [] 0
theorem q179:Qf 179 Tryz.f179:=⟨Tryz.func179,by kernel_rfl⟩
theorem k179{p0 p1 p2 p3 r}(h:K179 p0 p1 p2 p3 r Ci):K179 p0 p1 p2 p3 r Ct:=⟨h,⟨⟨tv,dE _⟩,⟨tv,tv,⟨tv,dT _⟩,tv⟩,tv,tv,tv⟩,forall_nil,⟨tv,dT _,dT _,tv⟩,forall_nil⟩
theorem c179{qq p0 p1 p2 p3 r}(h:e179 qq p0 p1 p2 p3=some r):K179 p0 p1 p2 p3 r Ct:=by
 unfold e179 at h
 obtain⟨r1,h2,h⟩:=obind h
 obtain⟨r3,h4,h⟩:=obind h
 have k:=oC 5 [] (c47 h4)<|oC 1 [] (c44 h2) o0
 obtain⟨h5,h⟩:=splF h
 have k:=oB 3 h5 k
 rcases spl h with⟨h6,h⟩|⟨h6,h⟩
 obtain rfl:=sj h
 exact k179 (tF q179 1 [] (oD (dT ([]:List Tm))<|oD (dT ([]:List Tm))<|oB 1 h6 k))
 have k:=oB 1 h6 k
 rcases spl h with⟨h7,h⟩|⟨h7,h⟩
 obtain rfl:=sj h
 exact k179 (tF q179 1 [] (oD (dT ([]:List Tm))<|oD (dT ([]:List Tm))<|oB 1 h7 k))
 obtain⟨x8,h9,h⟩:=obind h
 obtain⟨r10,h11,h⟩:=obind h
 have k:=oA 1 (ix22 (o:=.no) h9)<|oA 1 (ix22 (o:=.no) h9)<|oB 1 h7 k
 obtain⟨h12,h⟩:=spT h
 obtain⟨x13,h14,h⟩:=obind h
 obtain⟨r15,h16,h⟩:=obind h
 obtain rfl:=sj h
 exact k179 (tF q179 1 [] (oD (dT r15)<|oD (dT r1.1)<|oC 0 [] (c178 h16)<|oA 1 (slFrom29 h14)<|oA 1 (ix22 (o:=.no) h9)<|oK 3 [] h12 (c88 h11) k))
def e134Lcb:Nat->(List Ent)->Ent->(List Tm)->(List Tm)->Int->(List Rec')->Option (Con')
 |0,_,_,_,_,_,_=>none
 |qq+1,p0,x1,x7,r11,v43,vb2_2=>
 if decide (v43<(List.length x7:Int))then
 gidx x7 v43>>=fun x14=>
 e179 qq p0 x14 x1.fam (w64 (x1.pars+v43))>>=fun r16=>
 gapp 56 vb2_2 [r16]>>=fun l18=>
 e134Lcb qq p0 x1 x7 r11 (w64 (v43+1)) l18
 else
 some (Con'.mk x7 r11 vb2_2)
def e134(qq:Nat)(p0:List Ent)(p1:Int):Option (Con'):=
 gidx p0 p1>>=fun x1=>
 e44 qq x1.type>>=fun r3=>
 e47 qq r3.2.1>>=fun r5=>
 gsl r3.1 x1.pars (List.length r3.1:Int)>>=fun x7=>
 gsl r5.2 x1.pars (List.length r5.2:Int)>>=fun x9=>
 e178 qq x9>>=fun r11=>
 e134Lcb qq p0 x1 x7 r11 0 []
def g134LcbE0(j:Nat->Value)(p0:List Ent)(x1:Ent)(x7 r11:List Tm)(v43:Int)(vb2_2:List Rec'):=sp j 64 0 [(0,slv entL p0 .no),(4,.mp 0 0),(5,.mp 1 0),(11,.mp 2 0),(41,slv tmCells x7 .no),(42,ai (List.length x7:Int)),(43,ai v43)]
def g134LcbS0(p0:List Ent)(x1:Ent)(x7 r11:List Tm)(v43:Int)(vb2_2:List Rec'):LSt:=⟨[(0,.cells [slv tmCells ([]:List Tm) .nl,slv tmCells ([]:List Tm) .nl,slv recL ([]:List Rec') .nl]),(1,.cells [ai x1.kind,at' x1.name,ai x1.type.k,ai x1.type.n,slv tmCells x1.type.sub .no,ai x1.body.k,ai x1.body.n,slv tmCells x1.body.sub .no,ai x1.fam,ai x1.place,ai x1.pars,ai x1.inds,ai x1.level,slv intC x1.cons .no,slv intC x1.fields .no]),(2,.cells [slv tmCells x7 .no,slv tmCells r11 .no,slv recL vb2_2 (.st 0 3)])],3,[0],1,[]⟩
abbrev K134 (p0:List Ent) (p1:Int) (r:Con') (C:Cf):Prop:=C 134 [] [slv entL p0 .no,ai p1] (conA r) [] 0
theorem q134:Qf 134 Tryz.f134:=⟨Tryz.func134,by kernel_rfl⟩
theorem k134{p0 p1 r}(h:K134 p0 p1 r Ci):K134 p0 p1 r Ct:=⟨h,⟨⟨tv,dE _⟩,tv,tv⟩,forall_nil,⟨dT _,dT _,dR _,tv⟩,forall_nil⟩
theorem l134Lcb:∀qq:Nat,(∀p0 x1 x7 r11 v43 vb2_2 r,e134Lcb qq p0 x1 x7 r11 v43 vb2_2=some r->(∀j,Dl Tryz.prog 0 (inn (inn (rgt (lft (rgt (rgt (rgt (rgt (rgt (bod Tryz.f134)))))))))) (g134LcbE0 j p0 x1 x7 r11 v43 vb2_2) (g134LcbS0 p0 x1 x7 r11 v43 vb2_2) (frameQ Tryz.prog 0 (FinQ Tryz.prog 0 Tryz.f134 (conA r) [] 0) [.blk 0,.seq (rgt (rgt (rgt (rgt (rgt (rgt (bod Tryz.f134)))))))]))):=by
 intro qq
 induction qq with
 |zero=>
  exact fun _ _ _ _ _ _ _ h=>nn h
 |succ qq ih=>
  intro p0 x1 x7 r11 v43 vb2_2 r h
  rw[e134Lcb]at h
  rcases spl h with⟨h13,h⟩|⟨h13,h⟩
  obtain⟨x14,h15,h⟩:=obind h
  obtain⟨r16,h17,h⟩:=obind h
  obtain⟨l18,h19,h⟩:=obind h
  exact fun j=>lH 2 [] [0,1,2] [1] [0,4,5,11,41,42,43] (oD (dT x7)<|oD (dE p0)<|oD (dR l18)<|oD (dT r11)<|oD (dT x7)<|oD (dI x1.fields)<|oD (dI x1.cons)<|oD (dT x1.body.sub)<|oD (dT x1.type.sub)<|oD (dR ([]:List Rec'))<|oD (dT ([]:List Tm))<|oD (dT ([]:List Tm))<|oP 1 (apS182 h19 (by simp))<|oC 4 [] (c179 h17)<|oCl 2<|oA 0 (ix29 (o:=.no) h15)<|oB 0 h13 o0) (ih _ _ _ _ _ _ _ h)
  obtain rfl:=sj h
  exact fun j=>lF 2 [] (oD (dR vb2_2)<|oD (dT r11)<|oD (dT x7)<|oB 0 h13 o0)
theorem c134{qq p0 p1 r}(h:e134 qq p0 p1=some r):K134 p0 p1 r Ct:=by
 unfold e134 at h
 obtain⟨x1,h2,h⟩:=obind h
 obtain⟨r3,h4,h⟩:=obind h
 obtain⟨r5,h6,h⟩:=obind h
 obtain⟨x7,h8,h⟩:=obind h
 obtain⟨x9,h10,h⟩:=obind h
 obtain⟨r11,h12,h⟩:=obind h
 exact k134 (tH q134 3 [(some 4,2,3)] [0,1,4] [0] [0,4,5,11,41,42,43] (oD (dT x7)<|oD (dE p0)<|oD (dR ([]:List Rec'))<|oD (dT r11)<|oD (dT x7)<|oD (dI x1.fields)<|oD (dI x1.cons)<|oD (dT x1.body.sub)<|oD (dT x1.type.sub)<|oD (dR ([]:List Rec'))<|oD (dT ([]:List Tm))<|oD (dT ([]:List Tm))<|oC 0 [] (c178 h12)<|oA 1 (slFrom29 h10)<|oA 0 (slFrom29 h8)<|oCl 3<|oC 5 [] (c47 h6)<|oC 3 [] (c44 h4)<|oA 0 (ix22 (o:=.no) h2) o0) (l134Lcb _ _ _ _ _ _ _ _ h))
def e91Lcc:Nat->(List Ent)->(List Con')->Int->(List Con')->Option (List Con' × Int)
 |0,_,_,_,_=>none
 |qq+1,p0,x4,v14,vb0_0=>
 if decide (v14<(List.length p0:Int))then
 gidx p0 v14>>=fun x7=>
 if x7.kind==2 then
 e134 qq p0 v14>>=fun r10=>
 gchk (List.length x4) v14>>=fun x12=>
 gset vb0_0 x12 r10>>=fun x14=>
 e91Lcc qq p0 x4 (w64 (v14+1)) x14
 else
 e91Lcc qq p0 x4 (w64 (v14+1)) vb0_0
 else
 gfz (List.length x4) vb0_0>>=fun l16=>
 some (l16,0)
def e91(qq:Nat)(p0:List Ent):Option (List Con' × Int):=
 e19 qq p0>>=fun r1=>
 if r1 then
 gmk 72 (default:Con') (List.length p0:Int)>>=fun x4=>
 e91Lcc qq p0 x4 0 x4
 else
 none
def g91LccE0(j:Nat->Value)(p0:List Ent)(x4:List Con')(v14:Int)(vb0_0:List Con'):=sp j 31 0 [(0,slv entL p0 .no),(4,.ms 0 0 (List.length x4) (List.length x4) 3),(13,ai (List.length p0:Int)),(14,ai v14)]
def g91LccS0(p0:List Ent)(x4:List Con')(v14:Int)(vb0_0:List Con'):LSt:=⟨[(0,.row (flat conL vb0_0))],1,[],0,[]⟩
abbrev K91 (p0:List Ent) (r:List Con' × Int) (C:Cf):Prop:=C 91 [] [slv entL p0 .no] (.tup [.ms 0 0 (List.length r.1) (List.length r.1) 3,ai r.2]) [.row (flat conL r.1)] 0
theorem q91:Qf 91 Tryz.f91:=⟨Tryz.func91,by kernel_rfl⟩
theorem k91{p0 r}(h:K91 p0 r Ci):K91 p0 r Ct:=⟨h,⟨⟨tv,dE _⟩,tv⟩,forall_nil,⟨(lz rfl),tv,tv⟩,(forall_cons (dC _) forall_nil)⟩
theorem l91Lcc:∀qq:Nat,(∀p0 x4 v14 vb0_0 r,e91Lcc qq p0 x4 v14 vb0_0=some r->(∀j,Dl Tryz.prog 0 (inn (inn (rgt (lft (rgt (rgt (rgt (bod Tryz.f91)))))))) (g91LccE0 j p0 x4 v14 vb0_0) (g91LccS0 p0 x4 v14 vb0_0) (frameQ Tryz.prog 0 (FinQ Tryz.prog 0 Tryz.f91 (.tup [.ms 0 0 (List.length r.1) (List.length r.1) 3,ai r.2]) [.row (flat conL r.1)] 0) [.blk 0,.seq (rgt (rgt (rgt (rgt (bod Tryz.f91)))))]))):=by
 intro qq
 induction qq with
 |zero=>
  exact fun _ _ _ _ _ h=>nn h
 |succ qq ih=>
  intro p0 x4 v14 vb0_0 r h
  rw[e91Lcc]at h
  rcases spl h with⟨h6,h⟩|⟨h6,h⟩
  obtain⟨x7,h8,h⟩:=obind h
  have k:=oA 0 (ix22 (o:=.no) h8)<|oB 0 h6 o0
  rcases spl h with⟨h9,h⟩|⟨h9,h⟩
  obtain⟨r10,h11,h⟩:=obind h
  obtain⟨x12,h13,h⟩:=obind h
  obtain⟨x14,h15,h⟩:=obind h
  exact fun j=>lH 1 [] [0] [] [0,4,13,14] (oD (dE p0)<|oD (dC x14)<|oW 0 (wtE (x:=r10) (cs:=[slv tmCells r10.args .no,slv tmCells r10.inds .no,slv recL r10.recs .no]) codecC rfl h15)<|oA 0 (ixM147 (b:=0) (c:=List.length x4) (z:=3) h13)<|oC 0 [] (c134 h11)<|oB 1 h9 k) (ih _ _ _ _ _ h)
  exact fun j=>lH 1 [] [0] [] [0,4,13,14] (oD (dE p0)<|oD (dC vb0_0)<|oB 1 h9 k) (ih _ _ _ _ _ h)
  obtain⟨l16,h17,h⟩:=obind h
  obtain⟨h17a,h17b⟩:=gfz_spec h17
  obtain rfl:=sj h
  obtain rfl:=h17a.symm
  try dsimp only
  rw[←h17b]
  exact fun j=>lF 0 [0] (oD (dC vb0_0)<|oB 0 h6 o0)
theorem c91r{qq p0 r}(h:e91 qq p0=some r):K91 p0 r Ct:=by
 unfold e91 at h
 obtain⟨r1,h2,h⟩:=obind h
 obtain⟨h3,h⟩:=spT h
 obtain⟨x4,h5,h⟩:=obind h
 exact k91 (tH q91 1 [] [0] [] [0,4,13,14] (oD (dE p0)<|oD (dC x4)<|oM 2 (mkM147 h5)<|oK 0 [] h3 (c19 h2) o0) (l91Lcc _ _ _ _ _ _ h))
theorem c91{qq p0 r}(h:e91 qq p0=some r):CT Tryz.prog 91 [] [slv entL p0 .no] (.tup [.sl (flat conL r.1) (List.length r.1) .no,ai r.2]) [] 0:=by
 have k:=c91r h
 exact CT.freeze (H1:=[]) (cs:=flat conL r.1) (res':=(.tup [.sl (flat conL r.1) (List.length r.1) .no,ai r.2])) k (Nat.le_of_ble_eq_true rfl) forall_nil (dC _) ⟨(.inl ⟨rfl,rfl⟩),trivial,tv⟩ (by rfl) rfl
def e58(qq:Nat)(p0:List Ent):Option (Int×List Ent×List Con'):=
 e23 qq p0>>=fun r1=>
 e19 qq p0>>=fun r3=>
 if r3 then
 e91 qq r1>>=fun r6=>
 if r6.2 != 0 then
 none
 else
 some (0,r1,r6.1)
 else
 none
abbrev K58 (p0:List Ent) (r:Int×List Ent×List Con') (C:Cf):Prop:=C 58 [] [slv entL p0 .no] (.tup [.mp 0 0,ai r.1]) [.cells [slv entL r.2.1 .no,slv conL r.2.2 .no]] 0
theorem q58:Qf 58 Tryz.f58:=⟨Tryz.func58,by kernel_rfl⟩
theorem k58{p0 r}(h:K58 p0 r Ci):K58 p0 r Ct:=⟨h,⟨⟨tv,dE _⟩,tv⟩,forall_nil,⟨(lz rfl),tv,tv⟩,(forall_cons ⟨dE _,dC _,tv⟩ forall_nil)⟩
theorem c58{qq p0 r}(h:e58 qq p0=some r):K58 p0 r Ct:=by
 unfold e58 at h
 obtain⟨r1,h2,h⟩:=obind h
 obtain⟨r3,h4,h⟩:=obind h
 have k:=oC 0 [] (c23 h2) o0
 obtain⟨h5,h⟩:=spT h
 obtain⟨r6,h7,h⟩:=obind h
 have k:=oC 1 [] (c91 h7)<|oK 0 [] h5 (c19 h4) k
 obtain⟨h8,h⟩:=splF h
 obtain rfl:=sj h
 exact k58 (tF q58 0 [0] (oD (dC r6.1)<|oD (dE r1)<|oB 2 h8 k))
mutual
def e36Lcd:Nat->(List Ent)->(Int×List Ent×List Con')->(List Ent)->Int->(List Int)->(List Int)->Option (Int×List Ent×List Int×List Int×List Ent×List Con')
 |0,_,_,_,_,_,_=>none
 |qq+1,p0,r1,r4,v27,vb0_2,vb0_3=>
 if decide (v27<(List.length p0:Int))then
 gidx p0 v27>>=fun x7=>
 if x7.kind==1 then
 gapp 8 vb0_2 [(w64 ((w64 ((w64 (x7.pars+2))+(List.length x7.cons:Int)))+x7.inds))]>>=fun l10=>
 gapp 8 vb0_3 [0]>>=fun l12=>
 e36Lcd qq p0 r1 r4 (w64 (v27+1)) l10 l12
 else
 if x7.kind==2 then
 e36Lce qq p0 r1 r4 v27 vb0_2 vb0_3 0 x7.type.k x7.type.n x7.type.sub
 else
 gapp 8 vb0_2 [0]>>=fun l15=>
 gapp 8 vb0_3 [0]>>=fun l17=>
 e36Lcd qq p0 r1 r4 (w64 (v27+1)) l15 l17
 else
 some (0,r4,vb0_2,vb0_3,r1.2.1,r1.2.2)
def e36Lce:Nat->(List Ent)->(Int×List Ent×List Con')->(List Ent)->Int->(List Int)->(List Int)->Int->Int->Int->(List Tm)->Option (Int×List Ent×List Int×List Int×List Ent×List Con')
 |0,_,_,_,_,_,_,_,_,_,_=>none
 |qq+1,p0,r1,r4,v27,vb0_2,vb0_3,v10,vb1_0,vb1_1,vb1_2=>
 if vb1_0==3 then
 gidx vb1_2 1>>=fun x16=>
 e36Lce qq p0 r1 r4 v27 vb0_2 vb0_3 (w64 (v10+1)) x16.k x16.n x16.sub
 else
 gapp 8 vb0_2 [0]>>=fun l18=>
 gapp 8 vb0_3 [v10]>>=fun l20=>
 e36Lcd qq p0 r1 r4 (w64 (v27+1)) l18 l20
end
def e36(qq:Nat)(p0:List Ent):Option (Int×List Ent×List Int×List Int×List Ent×List Con'):=
 e58 qq p0>>=fun r1=>
 if r1.1 != 0 then
 none
 else
 e23 qq p0>>=fun r4=>
 e36Lcd qq p0 r1 r4 0 [] []
def g36LcdE0(j:Nat->Value)(p0:List Ent)(r1:Int×List Ent×List Con')(r4:List Ent)(v27:Int)(vb0_2 vb0_3:List Int):=sp j 81 0 [(6,.mp 0 0),(25,slv entL p0 .no),(26,ai (List.length p0:Int)),(27,ai v27)]
def g36LcdS0(p0:List Ent)(r1:Int×List Ent×List Con')(r4:List Ent)(v27:Int)(vb0_2 vb0_3:List Int):LSt:=⟨[(0,.cells [slv entL r4 (.st 0 15),.mp 1 0,slv intC vb0_2 (.st 1 1),slv intC vb0_3 (.st 2 1)]),(1,.cells [slv entL r1.2.1 .no,slv conL r1.2.2 .no])],2,[0,1,2],3,[]⟩
def g36LceE0(j:Nat->Value)(p0:List Ent)(r1:Int×List Ent×List Con')(r4:List Ent)(v27:Int)(vb0_2 vb0_3:List Int)(v10 vb1_0 vb1_1:Int)(vb1_2:List Tm):=sp j 81 0 [(6,.mp 0 0),(9,ai 0),(10,ai v10),(11,.mp 1 0),(25,slv entL p0 .no),(26,ai (List.length p0:Int)),(27,ai v27)]
def g36LceS0(p0:List Ent)(r1:Int×List Ent×List Con')(r4:List Ent)(v27:Int)(vb0_2 vb0_3:List Int)(v10 vb1_0 vb1_1:Int)(vb1_2:List Tm):LSt:=⟨[(0,.cells [slv entL r4 (.st 0 15),.mp 2 0,slv intC vb0_2 (.st 1 1),slv intC vb0_3 (.st 2 1)]),(1,.cells [ai vb1_0,ai vb1_1,slv tmCells vb1_2 .no]),(2,.cells [slv entL r1.2.1 .no,slv conL r1.2.2 .no])],3,[0,1,2],3,[]⟩
abbrev K36 (p0:List Ent) (r:Int×List Ent×List Int×List Int×List Ent×List Con') (C:Cf):Prop:=C 36 [] [slv entL p0 .no] (.tup [.mp 0 0,ai r.1]) [.cells [slv entL r.2.1 .no,.mp 1 0,slv intC r.2.2.1 .no,slv intC r.2.2.2.1 .no],.cells [slv entL r.2.2.2.2.1 .no,slv conL r.2.2.2.2.2 .no]] 0
theorem q36:Qf 36 Tryz.f36:=⟨Tryz.func36,by kernel_rfl⟩
theorem k36{p0 r}(h:K36 p0 r Ci):K36 p0 r Ct:=⟨h,⟨⟨tv,dE _⟩,tv⟩,forall_nil,⟨(lz rfl),tv,tv⟩,(forall_cons ⟨dE _,(lz rfl),dI _,dI _,tv⟩ (forall_cons ⟨dE _,dC _,tv⟩ forall_nil))⟩
theorem a36Lcd_36Lce:∀qq:Nat,(∀p0 r1 r4 v27 vb0_2 vb0_3 r,e36Lcd qq p0 r1 r4 v27 vb0_2 vb0_3=some r->(∀j,Dl Tryz.prog 0 (inn (inn (rgt (lft (rgt (rgt (rgt (rgt (bod Tryz.f36))))))))) (g36LcdE0 j p0 r1 r4 v27 vb0_2 vb0_3) (g36LcdS0 p0 r1 r4 v27 vb0_2 vb0_3) (frameQ Tryz.prog 0 (FinQ Tryz.prog 0 Tryz.f36 (.tup [.mp 0 0,ai r.1]) [.cells [slv entL r.2.1 .no,.mp 1 0,slv intC r.2.2.1 .no,slv intC r.2.2.2.1 .no],.cells [slv entL r.2.2.2.2.1 .no,slv conL r.2.2.2.2.2 .no]] 0) [.blk 0,.seq (rgt (rgt (rgt (rgt (rgt (bod Tryz.f36))))))])))∧(∀p0 r1 r4 v27 vb0_2 vb0_3 v10 vb1_0 vb1_1 vb1_2 r,e36Lce qq p0 r1 r4 v27 vb0_2 vb0_3 v10 vb1_0 vb1_1 vb1_2=some r->(∀j,Dl Tryz.prog 0 (inn (inn (rgt (lft (rgt (rgt (rgt (inn (rgt (lft (rgt (rgt (inn (lft (rgt (rgt (inn (inn (rgt (lft (rgt (rgt (rgt (rgt (bod Tryz.f36))))))))))))))))))))))))) (g36LceE0 j p0 r1 r4 v27 vb0_2 vb0_3 v10 vb1_0 vb1_1 vb1_2) (g36LceS0 p0 r1 r4 v27 vb0_2 vb0_3 v10 vb1_0 vb1_1 vb1_2) (frameQ Tryz.prog 0 (FinQ Tryz.prog 0 Tryz.f36 (.tup [.mp 0 0,ai r.1]) [.cells [slv entL r.2.1 .no,.mp 1 0,slv intC r.2.2.1 .no,slv intC r.2.2.2.1 .no],.cells [slv entL r.2.2.2.2.1 .no,slv conL r.2.2.2.2.2 .no]] 0) [.blk 3,.blk 2,.seq (rgt (rgt (rgt (inn (lft (rgt (rgt (inn (inn (rgt (lft (rgt (rgt (rgt (rgt (bod Tryz.f36)))))))))))))))),.blk 1,.seq (rgt (rgt (rgt (inn (inn (rgt (lft (rgt (rgt (rgt (rgt (bod Tryz.f36)))))))))))),.loop (inn (inn (rgt (lft (rgt (rgt (rgt (rgt (bod Tryz.f36))))))))),.blk 0,.seq (rgt (rgt (rgt (rgt (rgt (bod Tryz.f36))))))]))):=by
 intro qq
 induction qq with
 |zero=>
  exact⟨fun _ _ _ _ _ _ _ h=>nn h,fun _ _ _ _ _ _ _ _ _ _ _ h=>nn h⟩
 |succ qq ih=>
  obtain⟨ih36Lcd,ih36Lce⟩:=ih
  refine⟨?_,?_⟩
  intro p0 r1 r4 v27 vb0_2 vb0_3 r h
  rw[e36Lcd]at h
  rcases spl h with⟨h6,h⟩|⟨h6,h⟩
  obtain⟨x7,h8,h⟩:=obind h
  have k:=oA 0 (ix22 (o:=.no) h8)<|oB 0 h6 o0
  rcases spl h with⟨h9,h⟩|⟨h9,h⟩
  obtain⟨l10,h11,h⟩:=obind h
  obtain⟨l12,h13,h⟩:=obind h
  exact fun j=>lH 3 [] [0,1] [0,3,4] [6,25,26,27] (oD (dE p0)<|oD (dC r1.2.2)<|oD (dE r1.2.1)<|oD (dI l12)<|oD (dI l10)<|oD (dE r4)<|oP 2 (apS32 h13 (by simp))<|oP 9 (apS32 h11 (by simp))<|oB 3 h9 k) (ih36Lcd _ _ _ _ _ _ _ h)
  have k:=oB 3 h9 k
  rcases spl h with⟨h14,h⟩|⟨h14,h⟩
  exact fun j=>lH 2 [] [0,3,1] [0,1,2] [6,9,10,11,25,26,27] (oD (dE p0)<|oD (dC r1.2.2)<|oD (dE r1.2.1)<|oD (dT x7.type.sub)<|oD (dI vb0_3)<|oD (dI vb0_2)<|oD (dE r4)<|oB 0 h14 k) (ih36Lce _ _ _ _ _ _ _ _ _ _ _ h)
  obtain⟨l15,h16,h⟩:=obind h
  obtain⟨l17,h18,h⟩:=obind h
  exact fun j=>lH 3 [] [0,1] [0,3,4] [6,25,26,27] (oD (dE p0)<|oD (dC r1.2.2)<|oD (dE r1.2.1)<|oD (dI l17)<|oD (dI l15)<|oD (dE r4)<|oP 2 (apS32 h18 (by simp))<|oP 2 (apS32 h16 (by simp))<|oB 0 h14 k) (ih36Lcd _ _ _ _ _ _ _ h)
  obtain rfl:=sj h
  exact fun j=>lF 0 [0,1] (oD (dC r1.2.2)<|oD (dE r1.2.1)<|oD (dI vb0_3)<|oD (dI vb0_2)<|oD (dE r4)<|oB 0 h6 o0)
  intro p0 r1 r4 v27 vb0_2 vb0_3 v10 vb1_0 vb1_1 vb1_2 r h
  rw[e36Lce]at h
  rcases spl h with⟨h15,h⟩|⟨h15,h⟩
  obtain⟨x16,h17,h⟩:=obind h
  exact fun j=>lH 2 [] [0,3,2] [0,1,2] [6,9,10,11,25,26,27] (oD (dE p0)<|oD (dC r1.2.2)<|oD (dE r1.2.1)<|oD (dT x16.sub)<|oD (dI vb0_3)<|oD (dI vb0_2)<|oD (dE r4)<|oA 4 (ix29 (o:=.no) h17)<|oB 1 h15 o0) (ih36Lce _ _ _ _ _ _ _ _ _ _ _ h)
  obtain⟨l18,h19,h⟩:=obind h
  obtain⟨l20,h21,h⟩:=obind h
  exact fun j=>lH 3 [] [0,2] [0,3,4] [6,25,26,27] (oD (dE p0)<|oD (dC r1.2.2)<|oD (dE r1.2.1)<|oD (dI l20)<|oD (dI l18)<|oD (dE r4)<|oP 2 (apS32 h21 (by simp))<|oP 2 (apS32 h19 (by simp))<|oB 1 h15 o0) (ih36Lcd _ _ _ _ _ _ _ h)
theorem c36{qq p0 r}(h:e36 qq p0=some r):K36 p0 r Ct:=by
 unfold e36 at h
 obtain⟨r1,h2,h⟩:=obind h
 have k:=oC 0 [] (c58 h2) o0
 obtain⟨h3,h⟩:=splF h
 obtain⟨r4,h5,h⟩:=obind h
 exact k36 (tH q36 1 [(some 1,2,1),(some 1,3,1)] [1,0] [0,1,2] [6,25,26,27] (oD (dE p0)<|oD (dC r1.2.2)<|oD (dE r1.2.1)<|oD (dI ([]:List Int))<|oD (dI ([]:List Int))<|oD (dE r4)<|oC 0 [] (c23 h5)<|oB 2 h3 k) (((a36Lcd_36Lce _).1) _ _ _ _ _ _ _ h))
def e21(qq:Nat)(q0_l:List Ent)(q0_d:TreeDecl)(fl fu:Int)(q0_pars:List Tm)(q0_own:List ByteArray)(q0_e q0_at:Int)(p1:List Tm):Option (List Tm×List Int×List Tm×Int×Int×List Ent×List Int×List Int×List Ent×List Con'):=
 e36 qq q0_l>>=fun r1=>
 if r1.1 != 0 then
 none
 else
 some (p1,[],[],q0_e,q0_at,r1.2.1,r1.2.2.1,r1.2.2.2.1,r1.2.2.2.2.1,r1.2.2.2.2.2)
abbrev K21 (q0_l:List Ent) (q0_d:TreeDecl) (fl fu:Int) (q0_pars:List Tm) (q0_own:List ByteArray) (q0_e q0_at:Int) (p1:List Tm) (r:List Tm×List Int×List Tm×Int×Int×List Ent×List Int×List Int×List Ent×List Con') (C:Cf):Prop:=C 21 [.cells [slv entL q0_l .no,ai q0_d.kind_,ai q0_d.at_,at' q0_d.name_,slv treeBindL q0_d.tele_ .no,ai q0_d.type_.kind_,ai q0_d.type_.at_,at' q0_d.type_.name_,ai q0_d.type_.n_,slv treeNodeC q0_d.type_.sub_ .no,slv treeBindL q0_d.cons_ .no,slv treeRowL q0_d.rows_ .no,.mp 1 0,slv tmCells q0_pars .no,slv strC q0_own .no,ai q0_e,ai q0_at],.cells [ai fl,ai fu]] [.mp 0 0,slv tmCells p1 .no] (.agg [.mp 2 0,.mp 1 0,slv tmCells r.1 .no,slv intC r.2.1 .no,slv tmCells r.2.2.1 .no]) [.cells [slv entL q0_l .no,ai q0_d.kind_,ai q0_d.at_,at' q0_d.name_,slv treeBindL q0_d.tele_ .no,ai q0_d.type_.kind_,ai q0_d.type_.at_,at' q0_d.type_.name_,ai q0_d.type_.n_,slv treeNodeC q0_d.type_.sub_ .no,slv treeBindL q0_d.cons_ .no,slv treeRowL q0_d.rows_ .no,.mp 1 0,slv tmCells q0_pars .no,slv strC q0_own .no,ai r.2.2.2.1,ai r.2.2.2.2.1],.cells [ai fl,ai fu],.cells [slv entL r.2.2.2.2.2.1 .no,.mp 3 0,slv intC r.2.2.2.2.2.2.1 .no,slv intC r.2.2.2.2.2.2.2.1 .no],.cells [slv entL r.2.2.2.2.2.2.2.2.1 .no,slv conL r.2.2.2.2.2.2.2.2.2 .no]] 0
theorem q21:Qf 21 Tryz.f21:=⟨Tryz.func21,by kernel_rfl⟩
theorem k21{q0_l q0_d fl fu q0_pars q0_own q0_e q0_at p1 r}(h:K21 q0_l q0_d fl fu q0_pars q0_own q0_e q0_at p1 r Ci):K21 q0_l q0_d fl fu q0_pars q0_own q0_e q0_at p1 r Ct:=⟨h,⟨(lz rfl),⟨tv,dT _⟩,tv⟩,(forall_cons ⟨⟨tv,dE _⟩,tv,tv,tv,⟨tv,dTreeBind _⟩,tv,tv,tv,tv,⟨tv,dTreeNode _⟩,⟨tv,dTreeBind _⟩,⟨tv,dTreeRow _⟩,(lz rfl),⟨tv,dT _⟩,⟨tv,dS _⟩,tv,tv,tv⟩ (forall_cons ⟨tv,tv,tv⟩ forall_nil)),⟨(lz rfl),(lz rfl),dT _,dI _,dT _,tv⟩,(forall_cons ⟨dE _,tv,tv,tv,dTreeBind _,tv,tv,tv,tv,dTreeNode _,dTreeBind _,dTreeRow _,(lz rfl),dT _,dS _,tv,tv,tv⟩ (forall_cons ⟨tv,tv,tv⟩ (forall_cons ⟨dE _,(lz rfl),dI _,dI _,tv⟩ (forall_cons ⟨dE _,dC _,tv⟩ forall_nil))))⟩
theorem c21{qq q0_l q0_d fl fu q0_pars q0_own q0_e q0_at p1 r}(h:e21 qq q0_l q0_d fl fu q0_pars q0_own q0_e q0_at p1=some r):K21 q0_l q0_d fl fu q0_pars q0_own q0_e q0_at p1 r Ct:=by
 unfold e21 at h
 obtain⟨r1,h2,h⟩:=obind h
 have k:=oC 1 [] (c36 h2) o0
 obtain⟨h3,h⟩:=splF h
 obtain rfl:=sj h
 exact k21 (tF q21 2 [0,1,3,4] (oD (dT ([]:List Tm))<|oD (dI ([]:List Int))<|oD (dT p1)<|oD (dC r1.2.2.2.2.2)<|oD (dE r1.2.2.2.2.1)<|oD (dI r1.2.2.2.1)<|oD (dI r1.2.2.1)<|oD (dE r1.2.1)<|oD (dS q0_own)<|oD (dT q0_pars)<|oD (dTreeRow q0_d.rows_)<|oD (dTreeBind q0_d.cons_)<|oD (dTreeNode q0_d.type_.sub_)<|oD (dTreeBind q0_d.tele_)<|oD (dE q0_l)<|oB 2 h3 k))
def e37(qq:Nat)(q0_l:List Ent)(q0_d:TreeDecl)(fl fu:Int)(q0_pars:List Tm)(q0_own:List ByteArray)(q0_e q0_at p1 p2:Int):Option (Bool×Int×Int):=
 if q0_e==0 then
 if p1 != 0 then
 none
 else
 some ((q0_e != 0),q0_e,q0_at)
 else
 none
abbrev K37 (q0_l:List Ent) (q0_d:TreeDecl) (fl fu:Int) (q0_pars:List Tm) (q0_own:List ByteArray) (q0_e q0_at p1 p2:Int) (r:Bool×Int×Int) (C:Cf):Prop:=C 37 [.cells [slv entL q0_l .no,ai q0_d.kind_,ai q0_d.at_,at' q0_d.name_,slv treeBindL q0_d.tele_ .no,ai q0_d.type_.kind_,ai q0_d.type_.at_,at' q0_d.type_.name_,ai q0_d.type_.n_,slv treeNodeC q0_d.type_.sub_ .no,slv treeBindL q0_d.cons_ .no,slv treeRowL q0_d.rows_ .no,.mp 1 0,slv tmCells q0_pars .no,slv strC q0_own .no,ai q0_e,ai q0_at],.cells [ai fl,ai fu]] [.mp 0 0,ai p1,ai p2] (ab r.1) [.cells [slv entL q0_l .no,ai q0_d.kind_,ai q0_d.at_,at' q0_d.name_,slv treeBindL q0_d.tele_ .no,ai q0_d.type_.kind_,ai q0_d.type_.at_,at' q0_d.type_.name_,ai q0_d.type_.n_,slv treeNodeC q0_d.type_.sub_ .no,slv treeBindL q0_d.cons_ .no,slv treeRowL q0_d.rows_ .no,.mp 1 0,slv tmCells q0_pars .no,slv strC q0_own .no,ai r.2.1,ai r.2.2],.cells [ai fl,ai fu]] 0
theorem q37:Qf 37 Tryz.f37:=⟨Tryz.func37,by kernel_rfl⟩
theorem k37{q0_l q0_d fl fu q0_pars q0_own q0_e q0_at p1 p2 r}(h:K37 q0_l q0_d fl fu q0_pars q0_own q0_e q0_at p1 p2 r Ci):K37 q0_l q0_d fl fu q0_pars q0_own q0_e q0_at p1 p2 r Ct:=⟨h,⟨(lz rfl),tv,tv,tv⟩,(forall_cons ⟨⟨tv,dE _⟩,tv,tv,tv,⟨tv,dTreeBind _⟩,tv,tv,tv,tv,⟨tv,dTreeNode _⟩,⟨tv,dTreeBind _⟩,⟨tv,dTreeRow _⟩,(lz rfl),⟨tv,dT _⟩,⟨tv,dS _⟩,tv,tv,tv⟩ (forall_cons ⟨tv,tv,tv⟩ forall_nil)),tv,(forall_cons ⟨dE _,tv,tv,tv,dTreeBind _,tv,tv,tv,tv,dTreeNode _,dTreeBind _,dTreeRow _,(lz rfl),dT _,dS _,tv,tv,tv⟩ (forall_cons ⟨tv,tv,tv⟩ forall_nil))⟩
theorem c37{qq q0_l q0_d fl fu q0_pars q0_own q0_e q0_at p1 p2 r}(h:e37 qq q0_l q0_d fl fu q0_pars q0_own q0_e q0_at p1 p2=some r):K37 q0_l q0_d fl fu q0_pars q0_own q0_e q0_at p1 p2 r Ct:=by
 unfold e37 at h
 obtain⟨h1,h⟩:=spT h
 have k:=oB 1 h1 o0
 obtain⟨h2,h⟩:=splF h
 obtain rfl:=sj h
 exact k37 (tF q37 2 [0,1] (oD (dS q0_own)<|oD (dT q0_pars)<|oD (dTreeRow q0_d.rows_)<|oD (dTreeBind q0_d.cons_)<|oD (dTreeNode q0_d.type_.sub_)<|oD (dTreeBind q0_d.tele_)<|oD (dE q0_l)<|oB 0 h2 k))
def e92(qq:Nat)(M:Mach):Option (Int):=
 some (List.length M.l:Int)
abbrev K92 (M:Mach) (r:Int) (C:Cf):Prop:=C 92 [mB M 1,mR M] [.mp 0 0] (ai r) [mB M 1,mR M] 0
theorem q92:Qf 92 Tryz.f92:=⟨Tryz.func92,by kernel_rfl⟩
theorem k92{M r}(h:K92 M r Ci):K92 M r Ct:=⟨h,⟨(lz rfl),tv⟩,(forall_cons ⟨⟨tv,dE _⟩,(lz rfl),⟨tv,dI _⟩,⟨tv,dI _⟩,tv⟩ (forall_cons ⟨⟨tv,dE _⟩,⟨tv,dC _⟩,tv⟩ forall_nil)),tv,(forall_cons ⟨dE _,(lz rfl),dI _,dI _,tv⟩ (forall_cons ⟨dE _,dC _,tv⟩ forall_nil))⟩
theorem c92{qq M r}(h:e92 qq M=some r):K92 M r Ct:=by
 unfold e92 at h
 obtain rfl:=sj h
 exact k92 (tF q92 3 [0,1] (oD (dC M.parts)<|oD (dE M.rl)<|oD (dI M.own)<|oD (dI M.args)<|oD (dE M.l) o0))
def e59Lcf:Nat->Mach->Int->Int->(List Tm)->(List Int)->(List Tm)->(List Tm)->Int->Option (Bool)
 |0,_,_,_,_,_,_,_,_=>none
 |qq+1,M,fl,fu,p0_Context,p0_Names,p0_Types,p1,v21=>
 if decide (v21<(List.length p1:Int))then
 gidx p1 v21>>=fun x3=>
 e92 qq M>>=fun r5=>
 e82 qq x3 1048577 r5>>=fun r7=>
 if r7 then
 e59Lcf qq M fl fu p0_Context p0_Names p0_Types p1 (w64 (v21+1))
 else
 none
 else
 some true
def e59(qq:Nat)(M:Mach)(fl fu:Int)(p0_Context:List Tm)(p0_Names:List Int)(p0_Types p1:List Tm):Option (Bool):=
 if (List.length p0_Names:Int) != (List.length p0_Types:Int)then
 none
 else
 e59Lcf qq M fl fu p0_Context p0_Names p0_Types p1 0
def g59LcfE0(j:Nat->Value)(M:Mach)(fl fu:Int)(p0_Context:List Tm)(p0_Names:List Int)(p0_Types p1:List Tm)(v21:Int):=sp j 32 0 [(2,.mp 3 0),(19,slv tmCells p1 .no),(20,ai (List.length p1:Int)),(21,ai v21)]
def g59LcfS0(M:Mach)(fl fu:Int)(p0_Context:List Tm)(p0_Names:List Int)(p0_Types p1:List Tm)(v21:Int):LSt:=⟨[(0,mB M 1),(1,mR M),(2,.cells [ai fl,ai fu]),(3,.cells [.mp 0 0,.mp 2 0,slv tmCells p0_Context .no,slv intC p0_Names .no,slv tmCells p0_Types .no])],4,[],0,[]⟩
abbrev K59 (M:Mach) (fl fu:Int) (p0_Context:List Tm) (p0_Names:List Int) (p0_Types p1:List Tm) (r:Bool) (C:Cf):Prop:=C 59 [mB M 1,mR M,.cells [ai fl,ai fu]] [.agg [.mp 0 0,.mp 2 0,slv tmCells p0_Context .no,slv intC p0_Names .no,slv tmCells p0_Types .no],slv tmCells p1 .no] (ab r) [mB M 1,mR M,.cells [ai fl,ai fu]] 0
theorem q59:Qf 59 Tryz.f59:=⟨Tryz.func59,by kernel_rfl⟩
theorem k59{M fl fu p0_Context p0_Names p0_Types p1 r}(h:K59 M fl fu p0_Context p0_Names p0_Types p1 r Ci):K59 M fl fu p0_Context p0_Names p0_Types p1 r Ct:=⟨h,⟨⟨(lz rfl),(lz rfl),⟨tv,dT _⟩,⟨tv,dI _⟩,⟨tv,dT _⟩,tv⟩,⟨tv,dT _⟩,tv⟩,(forall_cons ⟨⟨tv,dE _⟩,(lz rfl),⟨tv,dI _⟩,⟨tv,dI _⟩,tv⟩ (forall_cons ⟨⟨tv,dE _⟩,⟨tv,dC _⟩,tv⟩ (forall_cons ⟨tv,tv,tv⟩ forall_nil))),tv,(forall_cons ⟨dE _,(lz rfl),dI _,dI _,tv⟩ (forall_cons ⟨dE _,dC _,tv⟩ (forall_cons ⟨tv,tv,tv⟩ forall_nil)))⟩
theorem l59Lcf:∀qq:Nat,(∀M fl fu p0_Context p0_Names p0_Types p1 v21 r,e59Lcf qq M fl fu p0_Context p0_Names p0_Types p1 v21=some r->(∀j,Dl Tryz.prog 3 (inn (inn (rgt (lft (rgt (rgt (bod Tryz.f59))))))) (g59LcfE0 j M fl fu p0_Context p0_Names p0_Types p1 v21) (g59LcfS0 M fl fu p0_Context p0_Names p0_Types p1 v21) (frameQ Tryz.prog 3 (FinQ Tryz.prog 3 Tryz.f59 (ab r) [mB M 1,mR M,.cells [ai fl,ai fu]] 0) [.blk 0,.seq (rgt (rgt (rgt (bod Tryz.f59))))]))):=by
 intro qq
 induction qq with
 |zero=>
  exact fun _ _ _ _ _ _ _ _ _ h=>nn h
 |succ qq ih=>
  intro M fl fu p0_Context p0_Names p0_Types p1 v21 r h
  rw[e59Lcf]at h
  rcases spl h with⟨h2,h⟩|⟨h2,h⟩
  obtain⟨x3,h4,h⟩:=obind h
  obtain⟨r5,h6,h⟩:=obind h
  obtain⟨r7,h8,h⟩:=obind h
  have k:=oC 4 [0,1] (c92 h6)<|oA 0 (ix29 (o:=.no) h4)<|oB 0 h2 o0
  obtain⟨h9,h⟩:=spT h
  exact fun j=>lH 2 [] [0,1,2,3] [] [2,19,20,21] (oD (dT p1)<|oD (dT p0_Types)<|oD (dI p0_Names)<|oD (dT p0_Context)<|oD (dC M.parts)<|oD (dE M.rl)<|oD (dI M.own)<|oD (dI M.args)<|oD (dE M.l)<|oK 0 [] h9 (c82 h8) k) (ih _ _ _ _ _ _ _ _ _ h)
  obtain rfl:=sj h
  exact fun j=>lF 0 [0,1,2] (oD (dC M.parts)<|oD (dE M.rl)<|oD (dI M.own)<|oD (dI M.args)<|oD (dE M.l)<|oB 0 h2 o0)
theorem c59{qq M fl fu p0_Context p0_Names p0_Types p1 r}(h:e59 qq M fl fu p0_Context p0_Names p0_Types p1=some r):K59 M fl fu p0_Context p0_Names p0_Types p1 r Ct:=by
 unfold e59 at h
 obtain⟨h1,h⟩:=splF h
 exact k59 (tH q59 1 [] [0,1,2,3] [] [2,19,20,21] (oD (dT p1)<|oD (dT p0_Types)<|oD (dI p0_Names)<|oD (dT p0_Context)<|oD (dC M.parts)<|oD (dE M.rl)<|oD (dI M.own)<|oD (dI M.args)<|oD (dE M.l)<|oB 6 h1 o0) (l59Lcf _ _ _ _ _ _ _ _ _ _ h))
def e60(qq:Nat)(M:Mach):Option (List Ent):=
 e23 qq M.l>>=fun r1=>
 some r1
abbrev K60 (M:Mach) (r:List Ent) (C:Cf):Prop:=C 60 [mB M 1,mR M] [.mp 0 0] (.sl (flat entL r) (List.length r) .no) [mB M 1,mR M] 0
theorem q60:Qf 60 Tryz.f60:=⟨Tryz.func60,by kernel_rfl⟩
theorem k60{M r}(h:K60 M r Ci):K60 M r Ct:=⟨h,⟨(lz rfl),tv⟩,(forall_cons ⟨⟨tv,dE _⟩,(lz rfl),⟨tv,dI _⟩,⟨tv,dI _⟩,tv⟩ (forall_cons ⟨⟨tv,dE _⟩,⟨tv,dC _⟩,tv⟩ forall_nil)),dE _,(forall_cons ⟨dE _,(lz rfl),dI _,dI _,tv⟩ (forall_cons ⟨dE _,dC _,tv⟩ forall_nil))⟩
theorem c60{qq M r}(h:e60 qq M=some r):K60 M r Ct:=by
 unfold e60 at h
 obtain⟨r1,h2,h⟩:=obind h
 obtain rfl:=sj h
 exact k60 (tF q60 0 [0,1] (oD (dE r1)<|oD (dC M.parts)<|oD (dE M.rl)<|oD (dI M.own)<|oD (dI M.args)<|oD (dE M.l)<|oC 2 [] (c23 h2) o0))
def e38(qq:Nat)(M:Mach)(fl fu:Int)(p0_Context:List Tm)(p0_Names:List Int)(p0_Types p1:List Tm):Option (Int×List Tm×List Int×List Tm×List Ent):=
 e59 qq M fl fu p0_Context p0_Names p0_Types p1>>=fun r1=>
 if r1 then
 e59 qq M fl fu p0_Context p0_Names p0_Types p0_Context>>=fun r4=>
 if r4 then
 e59 qq M fl fu p0_Context p0_Names p0_Types p0_Types>>=fun r7=>
 if r7 then
 e60 qq M>>=fun r10=>
 some (0,p0_Context,p0_Names,p0_Types,r10)
 else
 none
 else
 none
 else
 none
abbrev K38 (M:Mach) (fl fu:Int) (p0_Context:List Tm) (p0_Names:List Int) (p0_Types p1:List Tm) (r:Int×List Tm×List Int×List Tm×List Ent) (C:Cf):Prop:=C 38 [mB M 1,mR M,.cells [ai fl,ai fu]] [.agg [.mp 0 0,.mp 2 0,slv tmCells p0_Context .no,slv intC p0_Names .no,slv tmCells p0_Types .no],slv tmCells p1 .no] (.tup [.mp 3 0,ai r.1]) [mB M 1,mR M,.cells [ai fl,ai fu],.cells [.mp 0 0,.mp 2 0,slv tmCells r.2.1 .no,slv intC r.2.2.1 .no,slv tmCells r.2.2.2.1 .no,slv entL r.2.2.2.2 .no]] 0
theorem q38:Qf 38 Tryz.f38:=⟨Tryz.func38,by kernel_rfl⟩
theorem k38{M fl fu p0_Context p0_Names p0_Types p1 r}(h:K38 M fl fu p0_Context p0_Names p0_Types p1 r Ci):K38 M fl fu p0_Context p0_Names p0_Types p1 r Ct:=⟨h,⟨⟨(lz rfl),(lz rfl),⟨tv,dT _⟩,⟨tv,dI _⟩,⟨tv,dT _⟩,tv⟩,⟨tv,dT _⟩,tv⟩,(forall_cons ⟨⟨tv,dE _⟩,(lz rfl),⟨tv,dI _⟩,⟨tv,dI _⟩,tv⟩ (forall_cons ⟨⟨tv,dE _⟩,⟨tv,dC _⟩,tv⟩ (forall_cons ⟨tv,tv,tv⟩ forall_nil))),⟨(lz rfl),tv,tv⟩,(forall_cons ⟨dE _,(lz rfl),dI _,dI _,tv⟩ (forall_cons ⟨dE _,dC _,tv⟩ (forall_cons ⟨tv,tv,tv⟩ (forall_cons ⟨(lz rfl),(lz rfl),dT _,dI _,dT _,dE _,tv⟩ forall_nil))))⟩
theorem c38{qq M fl fu p0_Context p0_Names p0_Types p1 r}(h:e38 qq M fl fu p0_Context p0_Names p0_Types p1=some r):K38 M fl fu p0_Context p0_Names p0_Types p1 r Ct:=by
 unfold e38 at h
 obtain⟨r1,h2,h⟩:=obind h
 obtain⟨h3,h⟩:=spT h
 obtain⟨r4,h5,h⟩:=obind h
 have k:=oK 1 [0,1,2] h3 (c59 h2) o0
 obtain⟨h6,h⟩:=spT h
 obtain⟨r7,h8,h⟩:=obind h
 have k:=oK 3 [0,1,2] h6 (c59 h5) k
 obtain⟨h9,h⟩:=spT h
 obtain⟨r10,h11,h⟩:=obind h
 obtain rfl:=sj h
 exact k38 (tF q38 0 [0,1,2,4] (oD (dE r10)<|oD (dT p0_Types)<|oD (dI p0_Names)<|oD (dT p0_Context)<|oD (dC M.parts)<|oD (dE M.rl)<|oD (dI M.own)<|oD (dI M.args)<|oD (dE M.l)<|oC 3 [0,1] (c60 h11)<|oK 3 [0,1,2] h9 (c59 h8) k))
def e221vacg(qq:Nat)(q0 q1:Int):Option (Int):=
 some q0
abbrev K221vacg (q0 q1 r:Int) (C:Cf):Prop:=C 221 [.cells [ai q0,ai q1]] [.mp 0 0] (ai r) [.cells [ai q0,ai q1]] 0
theorem q221vacg:Qf 221 Tryz.f221:=⟨Tryz.func221,by kernel_rfl⟩
theorem k221vacg{q0 q1 r}(h:K221vacg q0 q1 r Ci):K221vacg q0 q1 r Ct:=⟨h,⟨(lz rfl),tv⟩,(forall_cons ⟨tv,tv,tv⟩ forall_nil),tv,(forall_cons ⟨tv,tv,tv⟩ forall_nil)⟩
theorem c221vacg{qq q0 q1 r}(h:e221vacg qq q0 q1=some r):K221vacg q0 q1 r Ct:=by
 unfold e221vacg at h
 obtain rfl:=sj h
 exact k221vacg (tF q221vacg 1 [0] (o0))
def e222vaas(qq:Nat)(q0 q1 p1:Int):Option (Int×Int):=
 some ((w64 (q0+p1)),(w64 (q0+p1)))
abbrev K222vaas (q0 q1 p1:Int) (r:Int×Int) (C:Cf):Prop:=C 222 [.cells [ai q0,ai q1]] [.mp 0 0,ai p1] (ai r.1) [.cells [ai r.2,ai q1]] 0
theorem q222vaas:Qf 222 Tryz.f222:=⟨Tryz.func222,by kernel_rfl⟩
theorem k222vaas{q0 q1 p1 r}(h:K222vaas q0 q1 p1 r Ci):K222vaas q0 q1 p1 r Ct:=⟨h,⟨(lz rfl),tv,tv⟩,(forall_cons ⟨tv,tv,tv⟩ forall_nil),tv,(forall_cons ⟨tv,tv,tv⟩ forall_nil)⟩
theorem c222vaas{qq q0 q1 p1 r}(h:e222vaas qq q0 q1 p1=some r):K222vaas q0 q1 p1 r Ct:=by
 unfold e222vaas at h
 obtain rfl:=sj h
 exact k222vaas (tF q222vaas 1 [0] (o0))
def e222vach(qq:Nat)(q0 q1 p1:Int):Option (Int×Int):=
 some ((w64 (q1+p1)),(w64 (q1+p1)))
abbrev K222vach (q0 q1 p1:Int) (r:Int×Int) (C:Cf):Prop:=C 222 [.cells [ai q0,ai q1]] [.mp 0 1,ai p1] (ai r.1) [.cells [ai q0,ai r.2]] 0
theorem q222vach:Qf 222 Tryz.f222:=⟨Tryz.func222,by kernel_rfl⟩
theorem k222vach{q0 q1 p1 r}(h:K222vach q0 q1 p1 r Ci):K222vach q0 q1 p1 r Ct:=⟨h,⟨(lz rfl),tv,tv⟩,(forall_cons ⟨tv,tv,tv⟩ forall_nil),tv,(forall_cons ⟨tv,tv,tv⟩ forall_nil)⟩
theorem c222vach{qq q0 q1 p1 r}(h:e222vach qq q0 q1 p1=some r):K222vach q0 q1 p1 r Ct:=by
 unfold e222vach at h
 obtain rfl:=sj h
 exact k222vach (tF q222vach 1 [0] (o0))
def e188(qq:Nat)(fl fu p1:Int):Option (Int×Int×Int):=
 if decide (p1<0)then
 none
 else
 e221vacg qq fl fu>>=fun r2=>
 if decide (p1>r2)then
 none
 else
 e222vaas qq fl fu (w64 (0-p1))>>=fun r5=>
 e222vach qq r5.2 fu p1>>=fun r7=>
 some (0,r5.2,r7.2)
abbrev K188 (fl fu p1:Int) (r:Int×Int×Int) (C:Cf):Prop:=C 188 [.cells [ai fl,ai fu]] [.mp 0 0,ai p1] (ai r.1) [.cells [ai r.2.1,ai r.2.2]] 0
theorem q188:Qf 188 Tryz.f188:=⟨Tryz.func188,by kernel_rfl⟩
theorem k188{fl fu p1 r}(h:K188 fl fu p1 r Ci):K188 fl fu p1 r Ct:=⟨h,⟨(lz rfl),tv,tv⟩,(forall_cons ⟨tv,tv,tv⟩ forall_nil),tv,(forall_cons ⟨tv,tv,tv⟩ forall_nil)⟩
theorem c188{qq fl fu p1 r}(h:e188 qq fl fu p1=some r):K188 fl fu p1 r Ct:=by
 unfold e188 at h
 obtain⟨h1,h⟩:=splF h
 obtain⟨r2,h3,h⟩:=obind h
 have k:=oC 0 [0] (c221vacg h3)<|oB 1 h1 o0
 obtain⟨h4,h⟩:=splF h
 obtain⟨r5,h6,h⟩:=obind h
 obtain⟨r7,h8,h⟩:=obind h
 obtain rfl:=sj h
 exact k188 (tF q188 0 [0] (oC 0 [0] (c222vach h8)<|oC 1 [0] (c222vaas h6)<|oB 0 h4 k))
def e151(qq:Nat)(fl fu:Int):Option (Int×Int×Int):=
 e188 qq fl fu 1>>=fun r1=>
 some (r1.1,r1.2.1,r1.2.2)
abbrev K151 (fl fu:Int) (r:Int×Int×Int) (C:Cf):Prop:=C 151 [.cells [ai fl,ai fu]] [.mp 0 0] (ai r.1) [.cells [ai r.2.1,ai r.2.2]] 0
theorem q151:Qf 151 Tryz.f151:=⟨Tryz.func151,by kernel_rfl⟩
theorem k151{fl fu r}(h:K151 fl fu r Ci):K151 fl fu r Ct:=⟨h,⟨(lz rfl),tv⟩,(forall_cons ⟨tv,tv,tv⟩ forall_nil),tv,(forall_cons ⟨tv,tv,tv⟩ forall_nil)⟩
theorem c151{qq fl fu r}(h:e151 qq fl fu=some r):K151 fl fu r Ct:=by
 unfold e151 at h
 obtain⟨r1,h2,h⟩:=obind h
 obtain rfl:=sj h
 exact k151 (tF q151 0 [0] (oC 0 [0] (c188 h2) o0))
def e228vaci(qq:Nat)(q0:Int)(q1:Bool)(q2:List Tm):Option (Unit):=
 some ()
abbrev K228vaci (q0:Int) (q1:Bool) (q2:List Tm) (C:Cf):Prop:=C 228 [.cells [ai q0,ab q1,.val .nilFunc],.cells [slv tmCells q2 .no]] [.mp 0 0,.mp 1 0] (.clo 229 [] [.mp 1 0,.mp 2 0]) [.cells [ai q0,ab q1,.val .nilFunc],.cells [slv tmCells q2 .no],.cells [.mp 0 0]] 0
theorem q228vaci:Qf 228 Tryz.f228:=⟨Tryz.func228,by kernel_rfl⟩
theorem k228vaci{q0 q1 q2}(h:K228vaci q0 q1 q2 Ci):K228vaci q0 q1 q2 Ct:=⟨h,⟨(lz rfl),(lz rfl),tv⟩,(forall_cons ⟨tv,tv,tv,tv⟩ (forall_cons ⟨⟨tv,dT _⟩,tv⟩ forall_nil)),⟨tv,⟨(lz rfl),(lz rfl),tv⟩⟩,(forall_cons ⟨tv,tv,tv,tv⟩ (forall_cons ⟨dT _,tv⟩ (forall_cons ⟨(lz rfl),tv⟩ forall_nil)))⟩
theorem c228vaci{qq q0 q1 q2 r}(h:e228vaci qq q0 q1 q2=some r):K228vaci q0 q1 q2 Ct:=by
 unfold e228vaci at h
 obtain rfl:=sj h
 exact k228vaci (tF q228vaci 0 [0,1,2] (oD (dT q2) o0))
def e141(qq:Nat)(p0:Int):Option (Tm):=
 e148 qq 1 p0 []>>=fun r1=>
 some r1
abbrev K141 (p0:Int) (r:Tm) (C:Cf):Prop:=C 141 [] [ai p0] (tmA r) [] 0
theorem q141:Qf 141 Tryz.f141:=⟨Tryz.func141,by kernel_rfl⟩
theorem k141{p0 r}(h:K141 p0 r Ci):K141 p0 r Ct:=⟨h,⟨tv,tv⟩,forall_nil,⟨tv,tv,dT _,tv⟩,forall_nil⟩
theorem c141{qq p0 r}(h:e141 qq p0=some r):K141 p0 r Ct:=by
 unfold e141 at h
 obtain⟨r1,h2,h⟩:=obind h
 obtain rfl:=sj h
 exact k141 (tF q141 1 [] (oD (dT r1.sub)<|oC 0 [] (c148 h2) o0))
def e230(qq:Nat)(p0:Tm)(p1:Int):Option (Int):=
 if p0.k != 1 then
 some (-1)
 else
 if decide (p0.n<p1)then
 none
 else
 some (w64 (p0.n-p1))
abbrev K230 (p0:Tm) (p1 r:Int) (C:Cf):Prop:=C 230 [] [tmA p0,ai p1] (ai r) [] 0
theorem q230:Qf 230 Tryz.f230:=⟨Tryz.func230,by kernel_rfl⟩
theorem k230{p0 p1 r}(h:K230 p0 p1 r Ci):K230 p0 p1 r Ct:=⟨h,⟨⟨tv,tv,⟨tv,dT _⟩,tv⟩,tv,tv⟩,forall_nil,tv,forall_nil⟩
theorem c230{qq p0 p1 r}(h:e230 qq p0 p1=some r):K230 p0 p1 r Ct:=by
 unfold e230 at h
 rcases spl h with⟨h1,h⟩|⟨h1,h⟩
 obtain rfl:=sj h
 exact k230 (tF q230 0 [] (oB 1 h1 o0))
 have k:=oB 1 h1 o0
 obtain⟨h2,h⟩:=splF h
 obtain rfl:=sj h
 exact k230 (tF q230 2 [] (oB 1 h2 k))
def e218(qq:Nat)(p0:Int):Option (Bool):=
 if decide (p0≥0)then
 some (decide (p0≤1048576))
 else
 none
abbrev K218 (p0:Int) (r:Bool) (C:Cf):Prop:=C 218 [] [ai p0] (ab r) [] 0
theorem q218:Qf 218 Tryz.f218:=⟨Tryz.func218,by kernel_rfl⟩
theorem k218{p0 r}(h:K218 p0 r Ci):K218 p0 r Ct:=⟨h,⟨tv,tv⟩,forall_nil,tv,forall_nil⟩
theorem c218{qq p0 r}(h:e218 qq p0=some r):K218 p0 r Ct:=by
 unfold e218 at h
 obtain⟨h1,h⟩:=spT h
 obtain rfl:=sj h
 exact k218 (tF q218 1 [] (oB 0 h1 o0))
def e220vacj(qq:Nat)(p0 q1 q2:Int):Option (Int):=
 if decide (p0<q1)then
 none
 else
 some (w64 (p0+q2))
abbrev K220vacj (p0 q1 q2 r:Int) (C:Cf):Prop:=C 220 [.cells [ai q1],.cells [ai q2]] [ai p0,.mp 0 0,.mp 1 0] (ai r) [.cells [ai q1],.cells [ai q2]] 0
theorem q220vacj:Qf 220 Tryz.f220:=⟨Tryz.func220,by kernel_rfl⟩
theorem k220vacj{p0 q1 q2 r}(h:K220vacj p0 q1 q2 r Ci):K220vacj p0 q1 q2 r Ct:=⟨h,⟨tv,(lz rfl),(lz rfl),tv⟩,(forall_cons ⟨tv,tv⟩ (forall_cons ⟨tv,tv⟩ forall_nil)),tv,(forall_cons ⟨tv,tv⟩ (forall_cons ⟨tv,tv⟩ forall_nil))⟩
theorem c220vacj{qq p0 q1 q2 r}(h:e220vacj qq p0 q1 q2=some r):K220vacj p0 q1 q2 r Ct:=by
 unfold e220vacj at h
 obtain⟨h1,h⟩:=splF h
 obtain rfl:=sj h
 exact k220vacj (tF q220vacj 2 [0,1] (oB 1 h1 o0))
def e219vackLcl(qq:Nat)(p0:Tm)(p1 q2 q3 v38:Int)(vb4_2:List Tm):Option (Tm):=
 if decide (v38<(List.length p0.sub:Int))then
 none
 else
 some (Tm.mk p0.k p0.n vb4_2)
def e219vack(qq:Nat)(p0:Tm)(p1 q2 q3:Int):Option (Tm):=
 if p0.k==1 then
 if decide (p0.n≥p1)then
 e220vacj qq (w64 (p0.n-p1)) q2 q3>>=fun r3=>
 e141 qq (w64 (r3+p1))>>=fun r5=>
 some r5
 else
 none
 else
 e219vackLcl qq p0 p1 q2 q3 0 []
def g219vackLclE0(j:Nat->Value)(p0:Tm)(p1 q2 q3 v38:Int)(vb4_2:List Tm):=sp j 64 0 [(1,ai p1),(2,.clo 220 [] [.mp 0 0,.mp 1 0]),(3,.mp 2 0),(6,.mp 3 0),(7,.mp 4 0),(36,slv tmCells p0.sub .no),(37,ai (List.length p0.sub:Int)),(38,ai v38)]
def g219vackLclS0(p0:Tm)(p1 q2 q3 v38:Int)(vb4_2:List Tm):LSt:=⟨[(0,.cells [ai q2]),(1,.cells [ai q3]),(2,.cells [ai p0.k,ai p0.n,slv tmCells p0.sub .no]),(3,.cells [ai 0,ai 0,slv tmCells ([]:List Tm) .nl]),(4,.cells [ai p0.k,ai p0.n,slv tmCells vb4_2 (.st 0 3)])],5,[0],1,[]⟩
abbrev K219vack (p0:Tm) (p1 q2 q3:Int) (r:Tm) (C:Cf):Prop:=C 219 [.cells [ai q2],.cells [ai q3]] [tmA p0,ai p1,.clo 220 [] [.mp 0 0,.mp 1 0]] (tmA r) [.cells [ai q2],.cells [ai q3]] 0
theorem q219vack:Qf 219 Tryz.f219:=⟨Tryz.func219,by kernel_rfl⟩
theorem k219vack{p0 p1 q2 q3 r}(h:K219vack p0 p1 q2 q3 r Ci):K219vack p0 p1 q2 q3 r Ct:=⟨h,⟨⟨tv,tv,⟨tv,dT _⟩,tv⟩,tv,⟨tv,⟨(lz rfl),(lz rfl),tv⟩⟩,tv⟩,(forall_cons ⟨tv,tv⟩ (forall_cons ⟨tv,tv⟩ forall_nil)),⟨tv,tv,dT _,tv⟩,(forall_cons ⟨tv,tv⟩ (forall_cons ⟨tv,tv⟩ forall_nil))⟩
theorem l219vackLcl(qq p0 p1 q2 q3 v38 vb4_2 r)(h:e219vackLcl qq p0 p1 q2 q3 v38 vb4_2=some r):(∀j,Dl Tryz.prog 2 (inn (inn (rgt (lft (rgt (rgt (rgt (bod Tryz.f219)))))))) (g219vackLclE0 j p0 p1 q2 q3 v38 vb4_2) (g219vackLclS0 p0 p1 q2 q3 v38 vb4_2) (frameQ Tryz.prog 2 (FinQ Tryz.prog 2 Tryz.f219 (tmA r) [.cells [ai q2],.cells [ai q3]] 0) [.blk 0,.seq (rgt (rgt (rgt (rgt (bod Tryz.f219)))))])):=by
 unfold e219vackLcl at h
 obtain⟨h9,h⟩:=splF h
 obtain rfl:=sj h
 exact fun j=>lF 2 [0,1] (oD (dT vb4_2)<|oB 0 h9 o0)
theorem c219vack{qq p0 p1 q2 q3 r}(h:e219vack qq p0 p1 q2 q3=some r):K219vack p0 p1 q2 q3 r Ct:=by
 unfold e219vack at h
 rcases spl h with⟨h1,h⟩|⟨h1,h⟩
 have k:=oB 1 h1 o0
 obtain⟨h2,h⟩:=spT h
 obtain⟨r3,h4,h⟩:=obind h
 obtain⟨r5,h6,h⟩:=obind h
 obtain rfl:=sj h
 exact k219vack (tF q219vack 1 [0,1] (oD (dT r5.sub)<|oC 1 [] (c141 h6)<|oC 2 [0,1] (c220vacj h4)<|oB 1 h2 k))
 exact k219vack (tH q219vack 5 [(some 4,2,3)] [0,1,2,3,4] [0] [1,2,3,6,7,36,37,38] (oD (dT p0.sub)<|oD (dT ([]:List Tm))<|oD (dT ([]:List Tm))<|oD (dT p0.sub)<|oB 1 h1 o0) (l219vackLcl qq _ _ _ _ _ _ _ h))
def e180(qq:Nat)(p0:Tm)(p1 p2:Int):Option (Tm×Int):=
 e57 qq p0>>=fun r1=>
 if r1 then
 e218 qq p1>>=fun r4=>
 if r4 then
 e218 qq p2>>=fun r7=>
 if r7 then
 e219vack qq p0 0 p2 p1>>=fun r10=>
 e57 qq r10>>=fun r12=>
 if r12 then
 some (r10,0)
 else
 none
 else
 none
 else
 none
 else
 none
abbrev K180 (p0:Tm) (p1 p2:Int) (r:Tm×Int) (C:Cf):Prop:=C 180 [] [tmA p0,ai p1,ai p2] (.tup [tmA r.1,ai r.2]) [] 0
theorem q180:Qf 180 Tryz.f180:=⟨Tryz.func180,by kernel_rfl⟩
theorem k180{p0 p1 p2 r}(h:K180 p0 p1 p2 r Ci):K180 p0 p1 p2 r Ct:=⟨h,⟨⟨tv,tv,⟨tv,dT _⟩,tv⟩,tv,tv,tv⟩,forall_nil,⟨⟨tv,tv,dT _,tv⟩,tv,tv⟩,forall_nil⟩
theorem c180{qq p0 p1 p2 r}(h:e180 qq p0 p1 p2=some r):K180 p0 p1 p2 r Ct:=by
 unfold e180 at h
 obtain⟨r1,h2,h⟩:=obind h
 obtain⟨h3,h⟩:=spT h
 obtain⟨r4,h5,h⟩:=obind h
 have k:=oK 1 [] h3 (c57 h2) o0
 obtain⟨h6,h⟩:=spT h
 obtain⟨r7,h8,h⟩:=obind h
 have k:=oK 2 [] h6 (c218 h5) k
 obtain⟨h9,h⟩:=spT h
 obtain⟨r10,h11,h⟩:=obind h
 obtain⟨r12,h13,h⟩:=obind h
 have k:=oC 2 [2,1] (c219vack h11)<|oK 2 [] h9 (c218 h8) k
 obtain⟨h14,h⟩:=spT h
 obtain rfl:=sj h
 exact k180 (tF q180 3 [] (oD (dT r10.sub)<|oK 2 [] h14 (c57 h13) k))
def e135(qq:Nat)(p0:Tm)(p1:Int):Option (Tm×Int):=
 e180 qq p0 p1 0>>=fun r1=>
 some (r1.1,r1.2)
abbrev K135 (p0:Tm) (p1:Int) (r:Tm×Int) (C:Cf):Prop:=C 135 [] [tmA p0,ai p1] (.tup [tmA r.1,ai r.2]) [] 0
theorem q135:Qf 135 Tryz.f135:=⟨Tryz.func135,by kernel_rfl⟩
theorem k135{p0 p1 r}(h:K135 p0 p1 r Ci):K135 p0 p1 r Ct:=⟨h,⟨⟨tv,tv,⟨tv,dT _⟩,tv⟩,tv,tv⟩,forall_nil,⟨⟨tv,tv,dT _,tv⟩,tv,tv⟩,forall_nil⟩
theorem c135{qq p0 p1 r}(h:e135 qq p0 p1=some r):K135 p0 p1 r Ct:=by
 unfold e135 at h
 obtain⟨r1,h2,h⟩:=obind h
 obtain rfl:=sj h
 exact k135 (tF q135 3 [] (oD (dT r1.1.sub)<|oC 1 [] (c180 h2) o0))
def e231vacm(qq:Nat)(q0:Int)(q1:Bool)(q2:List Tm)(p1:Tm)(p2:Int):Option (Tm×Int×Bool):=
 e131 qq p1>>=fun r1=>
 if decide ((w64 (q0-r1))<0)then
 none
 else
 e135 qq p1 p2>>=fun r6=>
 if r6.2 != 0 then
 none
 else
 some (r6.1,(w64 (q0-r1)),q1)
abbrev K231vacm (q0:Int) (q1:Bool) (q2:List Tm) (p1:Tm) (p2:Int) (r:Tm×Int×Bool) (C:Cf):Prop:=C 231 [.cells [ai q0,ab q1,.clo 229 [] [.mp 1 0,.mp 2 0]],.cells [slv tmCells q2 .no],.cells [.mp 0 0]] [.mp 0 0,tmA p1,ai p2] (tmA r.1) [.cells [ai r.2.1,ab r.2.2,.clo 229 [] [.mp 1 0,.mp 2 0]],.cells [slv tmCells q2 .no],.cells [.mp 0 0]] 0
theorem q231vacm:Qf 231 Tryz.f231:=⟨Tryz.func231,by kernel_rfl⟩
theorem k231vacm{q0 q1 q2 p1 p2 r}(h:K231vacm q0 q1 q2 p1 p2 r Ci):K231vacm q0 q1 q2 p1 p2 r Ct:=⟨h,⟨(lz rfl),⟨tv,tv,⟨tv,dT _⟩,tv⟩,tv,tv⟩,(forall_cons ⟨tv,tv,⟨tv,⟨(lz rfl),(lz rfl),tv⟩⟩,tv⟩ (forall_cons ⟨⟨tv,dT _⟩,tv⟩ (forall_cons ⟨(lz rfl),tv⟩ forall_nil))),⟨tv,tv,dT _,tv⟩,(forall_cons ⟨tv,tv,⟨tv,⟨(lz rfl),(lz rfl),tv⟩⟩,tv⟩ (forall_cons ⟨dT _,tv⟩ (forall_cons ⟨(lz rfl),tv⟩ forall_nil)))⟩
theorem c231vacm{qq q0 q1 q2 p1 p2 r}(h:e231vacm qq q0 q1 q2 p1 p2=some r):K231vacm q0 q1 q2 p1 p2 r Ct:=by
 unfold e231vacm at h
 obtain⟨r1,h2,h⟩:=obind h
 have k:=oC 1 [] (c131 h2)<|oCl 0 o0
 obtain⟨h3,h⟩:=splF h
 obtain⟨r6,h7,h⟩:=obind h
 have k:=oC 1 [] (c135 h7)<|oB 3 h3 k
 obtain⟨h8,h⟩:=splF h
 obtain rfl:=sj h
 exact k231vacm (tF q231vacm 2 [0,1,2] (oD (dT r6.1.sub)<|oD (dT q2)<|oB 3 h8 k))
def e229vacn(qq:Nat)(p0:Tm)(p1:Int)(q2:List Tm)(q3:Int)(q4:Bool):Option (Tm×Bool×Int×Bool):=
 e230 qq p0 p1>>=fun r1=>
 if decide (r1<0)then
 some ((Tm.mk 0 0 []),false,q3,q4)
 else
 if decide (r1<(List.length q2:Int))then
 gidx q2 r1>>=fun x5=>
 e231vacm qq q3 q4 q2 x5 p1>>=fun r7=>
 some (r7.1,true,r7.2.1,r7.2.2)
 else
 e141 qq (w64 (p0.n-(List.length q2:Int)))>>=fun r9=>
 some (r9,true,q3,q4)
abbrev K229vacn (p0:Tm) (p1:Int) (q2:List Tm) (q3:Int) (q4:Bool) (r:Tm×Bool×Int×Bool) (C:Cf):Prop:=C 229 [.cells [slv tmCells q2 .no],.cells [.mp 2 0],.cells [ai q3,ab q4,.clo 229 [] [.mp 0 0,.mp 1 0]]] [tmA p0,ai p1,.mp 0 0,.mp 1 0] (.tup [tmA r.1,ab r.2.1]) [.cells [slv tmCells q2 .no],.cells [.mp 2 0],.cells [ai r.2.2.1,ab r.2.2.2,.clo 229 [] [.mp 0 0,.mp 1 0]]] 0
theorem q229vacn:Qf 229 Tryz.f229:=⟨Tryz.func229,by kernel_rfl⟩
theorem k229vacn{p0 p1 q2 q3 q4 r}(h:K229vacn p0 p1 q2 q3 q4 r Ci):K229vacn p0 p1 q2 q3 q4 r Ct:=⟨h,⟨⟨tv,tv,⟨tv,dT _⟩,tv⟩,tv,(lz rfl),(lz rfl),tv⟩,(forall_cons ⟨⟨tv,dT _⟩,tv⟩ (forall_cons ⟨(lz rfl),tv⟩ (forall_cons ⟨tv,tv,⟨tv,⟨(lz rfl),(lz rfl),tv⟩⟩,tv⟩ forall_nil))),⟨⟨tv,tv,dT _,tv⟩,tv,tv⟩,(forall_cons ⟨dT _,tv⟩ (forall_cons ⟨(lz rfl),tv⟩ (forall_cons ⟨tv,tv,⟨tv,⟨(lz rfl),(lz rfl),tv⟩⟩,tv⟩ forall_nil)))⟩
theorem c229vacn{qq p0 p1 q2 q3 q4 r}(h:e229vacn qq p0 p1 q2 q3 q4=some r):K229vacn p0 p1 q2 q3 q4 r Ct:=by
 unfold e229vacn at h
 obtain⟨r1,h2,h⟩:=obind h
 have k:=oC 1 [] (c230 h2) o0
 rcases spl h with⟨h3,h⟩|⟨h3,h⟩
 obtain rfl:=sj h
 exact k229vacn (tF q229vacn 1 [0,1,2] (oD (dT ([]:List Tm))<|oD (dT q2)<|oB 0 h3 k))
 have k:=oB 0 h3 k
 rcases spl h with⟨h4,h⟩|⟨h4,h⟩
 obtain⟨x5,h6,h⟩:=obind h
 obtain⟨r7,h8,h⟩:=obind h
 obtain rfl:=sj h
 exact k229vacn (tF q229vacn 1 [0,1,2] (oD (dT r7.1.sub)<|oD (dT q2)<|oC 1 [2,0,1] (c231vacm h8)<|oA 2 (ix29 (o:=.no) h6)<|oB 2 h4 k))
 obtain⟨r9,h10,h⟩:=obind h
 obtain rfl:=sj h
 exact k229vacn (tF q229vacn 1 [0,1,2] (oD (dT r9.sub)<|oD (dT q2)<|oC 4 [] (c141 h10)<|oB 2 h4 k))
mutual
def e265vacm:Nat->Int->Bool->(List Tm)->Tm->Int->Option (Tm×Int×Bool)
 |0,_,_,_,_,_=>none
 |qq+1,q0,q1,q2,p1,p2=>
 if q1 then
 none
 else
 e229vacn qq p1 p2 q2 q0 q1>>=fun r4=>
 if r4.2.1 then
 some (r4.1,r4.2.2.1,r4.2.2.2)
 else
 if decide ((w64 (r4.2.2.1-1))<0)then
 none
 else
 e265vacmLco qq q2 p1 p2 0 (w64 (r4.2.2.1-1)) r4.2.2.2 []
def e265vacmLco:Nat->(List Tm)->Tm->Int->Int->Int->Bool->(List Tm)->Option (Tm×Int×Bool)
 |0,_,_,_,_,_,_,_=>none
 |qq+1,q2,p1,p2,v53,vb0_0,vb0_1,vb5_2=>
 if decide (v53<(List.length p1.sub:Int))then
 gidx p1.sub v53>>=fun x9=>
 if v53==1 then
 if p1.k != 5 then
 e265vacm qq vb0_0 vb0_1 q2 x9 (w64 (p2+1))>>=fun r13=>
 gapp 40 vb5_2 [r13.1]>>=fun l15=>
 e265vacmLco qq q2 p1 p2 (w64 (v53+1)) r13.2.1 r13.2.2 l15
 else
 none
 else
 e265vacm qq vb0_0 vb0_1 q2 x9 p2>>=fun r21=>
 gapp 40 vb5_2 [r21.1]>>=fun l23=>
 e265vacmLco qq q2 p1 p2 (w64 (v53+1)) r21.2.1 r21.2.2 l23
 else
 some ((Tm.mk p1.k p1.n vb5_2),vb0_0,vb0_1)
end
def g265vacmLcoE0(j:Nat->Value)(q2:List Tm)(p1:Tm)(p2 v53 vb0_0:Int)(vb0_1:Bool)(vb5_2:List Tm):=sp j 79 0 [(0,.mp 0 0),(2,ai p2),(4,.mp 3 0),(6,.mp 4 0),(9,.mp 5 0),(51,slv tmCells p1.sub .no),(52,ai (List.length p1.sub:Int)),(53,ai v53)]
def g265vacmLcoS0(q2:List Tm)(p1:Tm)(p2 v53 vb0_0:Int)(vb0_1:Bool)(vb5_2:List Tm):LSt:=⟨[(0,.cells [ai vb0_0,ab vb0_1,.clo 229 [] [.mp 1 0,.mp 2 0]]),(1,.cells [slv tmCells q2 .no]),(2,.cells [.mp 0 0]),(3,.cells [ai p1.k,ai p1.n,slv tmCells p1.sub .no]),(4,.cells [ai 0,ai 0,slv tmCells ([]:List Tm) .nl]),(5,.cells [ai p1.k,ai p1.n,slv tmCells vb5_2 (.st 0 3)])],6,[0],1,[]⟩
abbrev K265vacm (q0:Int) (q1:Bool) (q2:List Tm) (p1:Tm) (p2:Int) (r:Tm×Int×Bool) (C:Cf):Prop:=C 265 [.cells [ai q0,ab q1,.clo 229 [] [.mp 1 0,.mp 2 0]],.cells [slv tmCells q2 .no],.cells [.mp 0 0]] [.mp 0 0,tmA p1,ai p2] (tmA r.1) [.cells [ai r.2.1,ab r.2.2,.clo 229 [] [.mp 1 0,.mp 2 0]],.cells [slv tmCells q2 .no],.cells [.mp 0 0]] 0
theorem q265vacm:Qf 265 Tryz.f265:=⟨Tryz.func265,by kernel_rfl⟩
theorem k265vacm{q0 q1 q2 p1 p2 r}(h:K265vacm q0 q1 q2 p1 p2 r Ci):K265vacm q0 q1 q2 p1 p2 r Ct:=⟨h,⟨(lz rfl),⟨tv,tv,⟨tv,dT _⟩,tv⟩,tv,tv⟩,(forall_cons ⟨tv,tv,⟨tv,⟨(lz rfl),(lz rfl),tv⟩⟩,tv⟩ (forall_cons ⟨⟨tv,dT _⟩,tv⟩ (forall_cons ⟨(lz rfl),tv⟩ forall_nil))),⟨tv,tv,dT _,tv⟩,(forall_cons ⟨tv,tv,⟨tv,⟨(lz rfl),(lz rfl),tv⟩⟩,tv⟩ (forall_cons ⟨dT _,tv⟩ (forall_cons ⟨(lz rfl),tv⟩ forall_nil)))⟩
theorem a265vacm_265vacmLco:∀qq:Nat,(∀q0 q1 q2 p1 p2 r,e265vacm qq q0 q1 q2 p1 p2=some r->K265vacm q0 q1 q2 p1 p2 r Ct)∧(∀q2 p1 p2 v53 vb0_0 vb0_1 vb5_2 r,e265vacmLco qq q2 p1 p2 v53 vb0_0 vb0_1 vb5_2=some r->(∀j,Dl Tryz.prog 3 (inn (inn (rgt (lft (rgt (rgt (rgt (rgt (rgt (bod Tryz.f265)))))))))) (g265vacmLcoE0 j q2 p1 p2 v53 vb0_0 vb0_1 vb5_2) (g265vacmLcoS0 q2 p1 p2 v53 vb0_0 vb0_1 vb5_2) (frameQ Tryz.prog 3 (FinQ Tryz.prog 3 Tryz.f265 (tmA r.1) [.cells [ai r.2.1,ab r.2.2,.clo 229 [] [.mp 1 0,.mp 2 0]],.cells [slv tmCells q2 .no],.cells [.mp 0 0]] 0) [.blk 0,.seq (rgt (rgt (rgt (rgt (rgt (rgt (bod Tryz.f265)))))))]))):=by
 intro qq
 induction qq with
 |zero=>
  exact⟨fun _ _ _ _ _ _ h=>nn h,fun _ _ _ _ _ _ _ _ h=>nn h⟩
 |succ qq ih=>
  obtain⟨ih265vacm,ih265vacmLco⟩:=ih
  refine⟨?_,?_⟩
  intro q0 q1 q2 p1 p2 r h
  rw[e265vacm]at h
  obtain⟨h1,h⟩:=splF h
  obtain⟨r4,h5,h⟩:=obind h
  have k:=oC 2 [1,2,0] (c229vacn h5)<|oB 0 h1 o0
  rcases spl h with⟨h6,h⟩|⟨h6,h⟩
  obtain rfl:=sj h
  exact k265vacm (tF q265vacm 3 [0,1,2] (oD (dT r4.1.sub)<|oD (dT q2)<|oB 1 h6 k))
  have k:=oB 1 h6 k
  obtain⟨h7,h⟩:=splF h
  exact k265vacm (tH q265vacm 5 [(some 6,2,3)] [0,1,2,3,4,6] [0] [0,2,4,6,9,51,52,53] (oD (dT p1.sub)<|oD (dT ([]:List Tm))<|oD (dT ([]:List Tm))<|oD (dT p1.sub)<|oD (dT q2)<|oB 5 h7 k) (ih265vacmLco _ _ _ _ _ _ _ _ h))
  intro q2 p1 p2 v53 vb0_0 vb0_1 vb5_2 r h
  rw[e265vacmLco]at h
  rcases spl h with⟨h8,h⟩|⟨h8,h⟩
  obtain⟨x9,h10,h⟩:=obind h
  have k:=oA 0 (ix29 (o:=.no) h10)<|oB 0 h8 o0
  rcases spl h with⟨h11,h⟩|⟨h11,h⟩
  have k:=oB 2 h11 k
  obtain⟨h12,h⟩:=spT h
  obtain⟨r13,h14,h⟩:=obind h
  obtain⟨l15,h16,h⟩:=obind h
  exact fun j=>lH 2 [] [0,1,2,3,4,5] [1] [0,2,4,6,9,51,52,53] (oD (dT p1.sub)<|oD (dT l15)<|oD (dT ([]:List Tm))<|oD (dT p1.sub)<|oD (dT q2)<|oP 0 (apS29 h16 (by simp))<|oS 0 (obLitR tm_eq [r13.1])<|oC 1 [0,1,2] (ih265vacm _ _ _ _ _ _ h14)<|oCl 1<|oB 1 h12 k) (ih265vacmLco _ _ _ _ _ _ _ _ h)
  obtain⟨r21,h22,h⟩:=obind h
  obtain⟨l23,h24,h⟩:=obind h
  exact fun j=>lH 2 [] [0,1,2,3,4,5] [1] [0,2,4,6,9,51,52,53] (oD (dT p1.sub)<|oD (dT l23)<|oD (dT ([]:List Tm))<|oD (dT p1.sub)<|oD (dT q2)<|oP 0 (apS29 h24 (by simp))<|oS 0 (obLitR tm_eq [r21.1])<|oC 1 [0,1,2] (ih265vacm _ _ _ _ _ _ h22)<|oCl 0<|oB 2 h11 k) (ih265vacmLco _ _ _ _ _ _ _ _ h)
  obtain rfl:=sj h
  exact fun j=>lF 2 [0,1,2] (oD (dT vb5_2)<|oD (dT q2)<|oB 0 h8 o0)
theorem c265vacm{qq q0 q1 q2 p1 p2 r}(h:e265vacm qq q0 q1 q2 p1 p2=some r):K265vacm q0 q1 q2 p1 p2 r Ct:=(a265vacm_265vacmLco _).1 _ _ _ _ _ _ h
def e227vacp(qq:Nat)(p0:Tm)(q1:List Tm):Option (Tm×Int):=
 e228vaci qq 8192 false q1>>=fun r1=>
 e265vacm qq 8192 false q1 p0 0>>=fun r3=>
 if r3.2.2 then
 none
 else
 e57 qq r3.1>>=fun r6=>
 if r6 then
 some (r3.1,0)
 else
 none
abbrev K227vacp (p0:Tm) (q1:List Tm) (r:Tm×Int) (C:Cf):Prop:=C 227 [.cells [slv tmCells q1 .no]] [tmA p0,.clo 228 [] [.mp 0 0]] (.tup [tmA r.1,ai r.2]) [.cells [slv tmCells q1 .no]] 0
theorem q227vacp:Qf 227 Tryz.f227:=⟨Tryz.func227,by kernel_rfl⟩
theorem k227vacp{p0 q1 r}(h:K227vacp p0 q1 r Ci):K227vacp p0 q1 r Ct:=⟨h,⟨⟨tv,tv,⟨tv,dT _⟩,tv⟩,⟨tv,⟨(lz rfl),tv⟩⟩,tv⟩,(forall_cons ⟨⟨tv,dT _⟩,tv⟩ forall_nil),⟨⟨tv,tv,dT _,tv⟩,tv,tv⟩,(forall_cons ⟨dT _,tv⟩ forall_nil)⟩
theorem c227vacp{qq p0 q1 r}(h:e227vacp qq p0 q1=some r):K227vacp p0 q1 r Ct:=by
 unfold e227vacp at h
 obtain⟨r1,h2,h⟩:=obind h
 obtain⟨r3,h4,h⟩:=obind h
 have k:=oC 2 [3,0,4] (c265vacm h4)<|oC 0 [3,0] (c228vaci h2) o0
 obtain⟨h5,h⟩:=splF h
 obtain⟨r6,h7,h⟩:=obind h
 have k:=oB 1 h5 k
 obtain⟨h8,h⟩:=spT h
 obtain rfl:=sj h
 exact k227vacp (tF q227vacp 3 [0] (oD (dT r3.1.sub)<|oD (dT q1)<|oK 1 [] h8 (c57 h7) k))
def e191Lcq:Nat->Tm->(List Tm)->Int->Option (Tm×Int)
 |0,_,_,_=>none
 |qq+1,p0,p1,v14=>
 if decide (v14<(List.length p1:Int))then
 gidx p1 v14>>=fun x5=>
 e57 qq x5>>=fun r7=>
 if r7 then
 e191Lcq qq p0 p1 (w64 (v14+1))
 else
 none
 else
 e227vacp qq p0 p1>>=fun r10=>
 some (r10.1,r10.2)
def e191(qq:Nat)(p0:Tm)(p1:List Tm):Option (Tm×Int):=
 e57 qq p0>>=fun r1=>
 if r1 then
 e191Lcq qq p0 p1 0
 else
 none
def g191LcqE0(j:Nat->Value)(p0:Tm)(p1:List Tm)(v14:Int):=sp j 28 0 [(2,.mp 0 0),(3,.mp 1 0),(4,.mp 2 0),(12,slv tmCells p1 .no),(13,ai (List.length p1:Int)),(14,ai v14)]
def g191LcqS0(p0:Tm)(p1:List Tm)(v14:Int):LSt:=⟨[(0,.cells [ai p0.k,ai p0.n,slv tmCells p0.sub .no]),(1,.cells [slv tmCells p1 .no]),(2,.cells [ai 0,ai 0,slv tmCells ([]:List Tm) .nl])],3,[],0,[]⟩
abbrev K191 (p0:Tm) (p1:List Tm) (r:Tm×Int) (C:Cf):Prop:=C 191 [] [tmA p0,slv tmCells p1 .no] (.tup [tmA r.1,ai r.2]) [] 0
theorem q191:Qf 191 Tryz.f191:=⟨Tryz.func191,by kernel_rfl⟩
theorem k191{p0 p1 r}(h:K191 p0 p1 r Ci):K191 p0 p1 r Ct:=⟨h,⟨⟨tv,tv,⟨tv,dT _⟩,tv⟩,⟨tv,dT _⟩,tv⟩,forall_nil,⟨⟨tv,tv,dT _,tv⟩,tv,tv⟩,forall_nil⟩
theorem l191Lcq:∀qq:Nat,(∀p0 p1 v14 r,e191Lcq qq p0 p1 v14=some r->(∀j,Dl Tryz.prog 0 (inn (inn (rgt (lft (rgt (rgt (bod Tryz.f191))))))) (g191LcqE0 j p0 p1 v14) (g191LcqS0 p0 p1 v14) (frameQ Tryz.prog 0 (FinQ Tryz.prog 0 Tryz.f191 (.tup [tmA r.1,ai r.2]) [] 0) [.blk 0,.seq (rgt (rgt (rgt (bod Tryz.f191))))]))):=by
 intro qq
 induction qq with
 |zero=>
  exact fun _ _ _ _ h=>nn h
 |succ qq ih=>
  intro p0 p1 v14 r h
  rw[e191Lcq]at h
  rcases spl h with⟨h4,h⟩|⟨h4,h⟩
  obtain⟨x5,h6,h⟩:=obind h
  obtain⟨r7,h8,h⟩:=obind h
  have k:=oA 0 (ix29 (o:=.no) h6)<|oB 0 h4 o0
  obtain⟨h9,h⟩:=spT h
  exact fun j=>lH 2 [] [0,1,2] [] [2,3,4,12,13,14] (oD (dT p1)<|oD (dT ([]:List Tm))<|oD (dT p1)<|oD (dT p0.sub)<|oK 3 [] h9 (c57 h8) k) (ih _ _ _ _ h)
  obtain⟨r10,h11,h⟩:=obind h
  obtain rfl:=sj h
  exact fun j=>lF 3 [] (oD (dT r10.1.sub)<|oC 1 [1] (c227vacp h11)<|oB 0 h4 o0)
theorem c191{qq p0 p1 r}(h:e191 qq p0 p1=some r):K191 p0 p1 r Ct:=by
 unfold e191 at h
 obtain⟨r1,h2,h⟩:=obind h
 obtain⟨h3,h⟩:=spT h
 exact k191 (tH q191 3 [] [0,1,2] [] [2,3,4,12,13,14] (oD (dT p1)<|oD (dT ([]:List Tm))<|oD (dT p1)<|oD (dT p0.sub)<|oK 1 [] h3 (c57 h2) o0) (l191Lcq _ _ _ _ _ h))
def e153(qq:Nat)(p0 p1:Tm):Option (Tm×Int):=
 e191 qq p0 [p1]>>=fun r1=>
 some (r1.1,r1.2)
abbrev K153 (p0 p1:Tm) (r:Tm×Int) (C:Cf):Prop:=C 153 [] [tmA p0,tmA p1] (.tup [tmA r.1,ai r.2]) [] 0
theorem q153:Qf 153 Tryz.f153:=⟨Tryz.func153,by kernel_rfl⟩
theorem k153{p0 p1 r}(h:K153 p0 p1 r Ci):K153 p0 p1 r Ct:=⟨h,⟨⟨tv,tv,⟨tv,dT _⟩,tv⟩,⟨tv,tv,⟨tv,dT _⟩,tv⟩,tv⟩,forall_nil,⟨⟨tv,tv,dT _,tv⟩,tv,tv⟩,forall_nil⟩
theorem c153{qq p0 p1 r}(h:e153 qq p0 p1=some r):K153 p0 p1 r Ct:=by
 unfold e153 at h
 obtain⟨r1,h2,h⟩:=obind h
 obtain rfl:=sj h
 exact k153 (tF q153 3 [] (oD (dT r1.1.sub)<|oC 0 [] (c191 h2)<|oS 2 (obLitR tm_eq [p1]) o0))
def e283vacrLcs(qq:Nat)(q0 q1:List Ent)(q2:List Con')(q3 q4:List Int)(q5:List Ent)(r1 r3:Tm×List Tm)(v89 vb0_3 vb3_0 vb3_1:Int):Option (Bool×Int×Int×Int):=
 if decide (v89<(List.length r1.2:Int))then
 none
 else
 some (true,vb0_3,vb3_0,vb3_1)
def e283vacr(qq:Nat)(q0 q1:List Ent)(q2:List Con')(q3 q4:List Int)(q5:List Ent)(q6 q7 q8:Int)(p1 p2:Tm):Option (Bool×Int×Int×Int):=
 e47 qq p1>>=fun r1=>
 e47 qq p2>>=fun r3=>
 if r1.1.k != r3.1.k then
 none
 else
 if r1.1.n != r3.1.n then
 none
 else
 if (List.length r1.2:Int) != (List.length r3.2:Int)then
 none
 else
 if r1.1.k==7 then
 none
 else
 if r1.1.k==3 then
 none
 else
 e283vacrLcs qq q0 q1 q2 q3 q4 q5 r1 r3 0 q8 q6 q7
def g283vacrLcsE0(j:Nat->Value)(q0 q1:List Ent)(q2:List Con')(q3 q4:List Int)(q5:List Ent)(r1 r3:Tm×List Tm)(v89 vb0_3 vb3_0 vb3_1:Int):=sp j 104 0 [(0,.mp 0 0),(8,slv tmCells r1.2 .no),(10,slv tmCells r3.2 .no),(88,ai (List.length r1.2:Int)),(89,ai v89)]
def g283vacrLcsS0(q0 q1:List Ent)(q2:List Con')(q3 q4:List Int)(q5:List Ent)(r1 r3:Tm×List Tm)(v89 vb0_3 vb3_0 vb3_1:Int):LSt:=⟨[(0,.cells [.mp 1 0,slv entL q5 .no,.mp 3 0,ai vb0_3]),(1,.cells [slv entL q0 .no,.mp 2 0,slv intC q3 .no,slv intC q4 .no]),(2,.cells [slv entL q1 .no,slv conL q2 .no]),(3,.cells [ai vb3_0,ai vb3_1])],4,[],0,[]⟩
abbrev K283vacr (q0 q1:List Ent) (q2:List Con') (q3 q4:List Int) (q5:List Ent) (q6 q7 q8:Int) (p1 p2:Tm) (r:Bool×Int×Int×Int) (C:Cf):Prop:=C 283 [.cells [.mp 1 0,slv entL q5 .no,.mp 3 0,ai q8],.cells [slv entL q0 .no,.mp 2 0,slv intC q3 .no,slv intC q4 .no],.cells [slv entL q1 .no,slv conL q2 .no],.cells [ai q6,ai q7]] [.mp 0 0,tmA p1,tmA p2] (ab r.1) [.cells [.mp 1 0,slv entL q5 .no,.mp 3 0,ai r.2.1],.cells [slv entL q0 .no,.mp 2 0,slv intC q3 .no,slv intC q4 .no],.cells [slv entL q1 .no,slv conL q2 .no],.cells [ai r.2.2.1,ai r.2.2.2]] 0
theorem q283vacr:Qf 283 Tryz.f283:=⟨Tryz.func283,by kernel_rfl⟩
theorem k283vacr{q0 q1 q2 q3 q4 q5 q6 q7 q8 p1 p2 r}(h:K283vacr q0 q1 q2 q3 q4 q5 q6 q7 q8 p1 p2 r Ci):K283vacr q0 q1 q2 q3 q4 q5 q6 q7 q8 p1 p2 r Ct:=⟨h,⟨(lz rfl),⟨tv,tv,⟨tv,dT _⟩,tv⟩,⟨tv,tv,⟨tv,dT _⟩,tv⟩,tv⟩,(forall_cons ⟨(lz rfl),⟨tv,dE _⟩,(lz rfl),tv,tv⟩ (forall_cons ⟨⟨tv,dE _⟩,(lz rfl),⟨tv,dI _⟩,⟨tv,dI _⟩,tv⟩ (forall_cons ⟨⟨tv,dE _⟩,⟨tv,dC _⟩,tv⟩ (forall_cons ⟨tv,tv,tv⟩ forall_nil)))),tv,(forall_cons ⟨(lz rfl),dE _,(lz rfl),tv,tv⟩ (forall_cons ⟨dE _,(lz rfl),dI _,dI _,tv⟩ (forall_cons ⟨dE _,dC _,tv⟩ (forall_cons ⟨tv,tv,tv⟩ forall_nil))))⟩
theorem l283vacrLcs(qq q0 q1 q2 q3 q4 q5 r1 r3 v89 vb0_3 vb3_0 vb3_1 r)(h:e283vacrLcs qq q0 q1 q2 q3 q4 q5 r1 r3 v89 vb0_3 vb3_0 vb3_1=some r):(∀j,Dl Tryz.prog 4 (inn (inn (rgt (lft (rgt (rgt (rgt (rgt (rgt (bod Tryz.f283)))))))))) (g283vacrLcsE0 j q0 q1 q2 q3 q4 q5 r1 r3 v89 vb0_3 vb3_0 vb3_1) (g283vacrLcsS0 q0 q1 q2 q3 q4 q5 r1 r3 v89 vb0_3 vb3_0 vb3_1) (frameQ Tryz.prog 4 (FinQ Tryz.prog 4 Tryz.f283 (ab r.1) [.cells [.mp 1 0,slv entL q5 .no,.mp 3 0,ai r.2.1],.cells [slv entL q0 .no,.mp 2 0,slv intC q3 .no,slv intC q4 .no],.cells [slv entL q1 .no,slv conL q2 .no],.cells [ai r.2.2.1,ai r.2.2.2]] 0) [.blk 0,.seq (rgt (rgt (rgt (rgt (rgt (rgt (bod Tryz.f283)))))))])):=by
 unfold e283vacrLcs at h
 obtain⟨h25,h⟩:=splF h
 obtain rfl:=sj h
 exact fun j=>lF 0 [0,1,2,3] (oD (dC q2)<|oD (dE q1)<|oD (dI q4)<|oD (dI q3)<|oD (dE q0)<|oD (dE q5)<|oB 0 h25 o0)
theorem c283vacr{qq q0 q1 q2 q3 q4 q5 q6 q7 q8 p1 p2 r}(h:e283vacr qq q0 q1 q2 q3 q4 q5 q6 q7 q8 p1 p2=some r):K283vacr q0 q1 q2 q3 q4 q5 q6 q7 q8 p1 p2 r Ct:=by
 unfold e283vacr at h
 obtain⟨r1,h2,h⟩:=obind h
 obtain⟨r3,h4,h⟩:=obind h
 have k:=oC 4 [] (c47 h4)<|oC 1 [] (c47 h2) o0
 obtain⟨h5,h⟩:=splF h
 have k:=oB 5 h5 k
 obtain⟨h6,h⟩:=splF h
 have k:=oB 2 h6 k
 obtain⟨h7,h⟩:=splF h
 have k:=oB 2 h7 k
 obtain⟨h8,h⟩:=splF h
 have k:=oB 1 h8 k
 obtain⟨h25,h⟩:=splF h
 exact k283vacr (tH q283vacr 1 [] [0,1,2,3] [] [0,8,10,88,89] (oD (dT r3.2)<|oD (dT r1.2)<|oD (dC q2)<|oD (dE q1)<|oD (dI q4)<|oD (dI q3)<|oD (dE q0)<|oD (dE q5)<|oB 1 h25 k) (l283vacrLcs qq _ _ _ _ _ _ _ _ _ _ _ _ _ h))
def e100(qq:Nat)(M:Mach)(p1:Tm):Option (Bool):=
 e82 qq p1 1048577 (List.length M.l:Int)>>=fun r1=>
 some r1
abbrev K100 (M:Mach) (p1:Tm) (r:Bool) (C:Cf):Prop:=C 100 [mB M 1,mR M] [.mp 0 0,tmA p1] (ab r) [mB M 1,mR M] 0
theorem q100:Qf 100 Tryz.f100:=⟨Tryz.func100,by kernel_rfl⟩
theorem k100{M p1 r}(h:K100 M p1 r Ci):K100 M p1 r Ct:=⟨h,⟨(lz rfl),⟨tv,tv,⟨tv,dT _⟩,tv⟩,tv⟩,(forall_cons ⟨⟨tv,dE _⟩,(lz rfl),⟨tv,dI _⟩,⟨tv,dI _⟩,tv⟩ (forall_cons ⟨⟨tv,dE _⟩,⟨tv,dC _⟩,tv⟩ forall_nil)),tv,(forall_cons ⟨dE _,(lz rfl),dI _,dI _,tv⟩ (forall_cons ⟨dE _,dC _,tv⟩ forall_nil))⟩
theorem c100{qq M p1 r}(h:e100 qq M p1=some r):K100 M p1 r Ct:=by
 unfold e100 at h
 obtain⟨r1,h2,h⟩:=obind h
 obtain rfl:=sj h
 exact k100 (tF q100 0 [0,1] (oD (dC M.parts)<|oD (dE M.rl)<|oD (dI M.own)<|oD (dI M.args)<|oD (dE M.l)<|oC 4 [] (c82 h2) o0))
def e192(qq:Nat)(M:Mach)(p1:Tm):Option (Int):=
 if p1.k != 6 then
 some 0
 else
 if decide (p1.n≥(List.length M.l:Int))then
 none
 else
 gidx M.l p1.n>>=fun x3=>
 some x3.kind
abbrev K192 (M:Mach) (p1:Tm) (r:Int) (C:Cf):Prop:=C 192 [mB M 1,mR M] [.mp 0 0,tmA p1] (ai r) [mB M 1,mR M] 0
theorem q192:Qf 192 Tryz.f192:=⟨Tryz.func192,by kernel_rfl⟩
theorem k192{M p1 r}(h:K192 M p1 r Ci):K192 M p1 r Ct:=⟨h,⟨(lz rfl),⟨tv,tv,⟨tv,dT _⟩,tv⟩,tv⟩,(forall_cons ⟨⟨tv,dE _⟩,(lz rfl),⟨tv,dI _⟩,⟨tv,dI _⟩,tv⟩ (forall_cons ⟨⟨tv,dE _⟩,⟨tv,dC _⟩,tv⟩ forall_nil)),tv,(forall_cons ⟨dE _,(lz rfl),dI _,dI _,tv⟩ (forall_cons ⟨dE _,dC _,tv⟩ forall_nil))⟩
theorem c192{qq M p1 r}(h:e192 qq M p1=some r):K192 M p1 r Ct:=by
 unfold e192 at h
 rcases spl h with⟨h1,h⟩|⟨h1,h⟩
 obtain rfl:=sj h
 exact k192 (tF q192 0 [0,1] (oD (dC M.parts)<|oD (dE M.rl)<|oD (dI M.own)<|oD (dI M.args)<|oD (dE M.l)<|oB 1 h1 o0))
 have k:=oB 1 h1 o0
 obtain⟨h2,h⟩:=splF h
 obtain⟨x3,h4,h⟩:=obind h
 obtain rfl:=sj h
 exact k192 (tF q192 1 [0,1] (oD (dC M.parts)<|oD (dE M.rl)<|oD (dI M.own)<|oD (dI M.args)<|oD (dE M.l)<|oA 2 (ix22 (o:=.no) h4)<|oB 3 h2 k))
def e154(qq:Nat)(M:Mach)(p1:Tm)(fl fu:Int):Option (Tm×Bool×Int×Int×Int):=
 e47 qq p1>>=fun r1=>
 if r1.1.k==4 then
 none
 else
 e192 qq M r1.1>>=fun r57=>
 if r57==3 then
 none
 else
 e192 qq M r1.1>>=fun r69=>
 if r69==4 then
 none
 else
 if r1.1.k==7 then
 none
 else
 some (p1,false,0,fl,fu)
def e101Lct(qq:Nat)(M:Mach)(vb2_0 vb2_1 vb3_0 vb3_1:Int)(vb3_2:List Tm):Option (Tm×Int×Int×Int):=
 e154 qq M (Tm.mk vb3_0 vb3_1 vb3_2) vb2_0 vb2_1>>=fun r1=>
 if r1.2.1 then
 none
 else
 if r1.2.2.1 != 0 then
 none
 else
 some ((Tm.mk vb3_0 vb3_1 vb3_2),0,r1.2.2.2.1,r1.2.2.2.2)
def e101(qq:Nat)(M:Mach)(p1:Tm)(fl fu:Int):Option (Tm×Int×Int×Int):=
 e101Lct qq M fl fu p1.k p1.n p1.sub
def g101LctE0(j:Nat->Value)(M:Mach)(vb2_0 vb2_1 vb3_0 vb3_1:Int)(vb3_2:List Tm):=sp j 28 0 [(0,.mp 0 0),(2,.mp 2 0),(4,.mp 3 0),(6,.mp 4 0)]
def g101LctS0(M:Mach)(vb2_0 vb2_1 vb3_0 vb3_1:Int)(vb3_2:List Tm):LSt:=⟨[(0,mB M 1),(1,mR M),(2,.cells [ai vb2_0,ai vb2_1]),(3,.cells [ai vb3_0,ai vb3_1,slv tmCells vb3_2 .no]),(4,.cells [ai 0,ai 0,slv tmCells ([]:List Tm) .nl])],5,[],0,[]⟩
abbrev K101 (M:Mach) (p1:Tm) (fl fu:Int) (r:Tm×Int×Int×Int) (C:Cf):Prop:=C 101 [mB M 1,mR M,.cells [ai fl,ai fu]] [.mp 0 0,tmA p1,.mp 2 0] (.tup [tmA r.1,ai r.2.1]) [mB M 1,mR M,.cells [ai r.2.2.1,ai r.2.2.2]] 0
abbrev K154 (M:Mach) (p1:Tm) (fl fu:Int) (r:Tm×Bool×Int×Int×Int) (C:Cf):Prop:=C 154 [mB M 1,mR M,.cells [ai fl,ai fu]] [.mp 0 0,tmA p1,.mp 2 0] (.tup [tmA r.1,ab r.2.1,ai r.2.2.1]) [mB M 1,mR M,.cells [ai r.2.2.2.1,ai r.2.2.2.2]] 0
theorem q101:Qf 101 Tryz.f101:=⟨Tryz.func101,by kernel_rfl⟩
theorem k101{M p1 fl fu r}(h:K101 M p1 fl fu r Ci):K101 M p1 fl fu r Ct:=⟨h,⟨(lz rfl),⟨tv,tv,⟨tv,dT _⟩,tv⟩,(lz rfl),tv⟩,(forall_cons ⟨⟨tv,dE _⟩,(lz rfl),⟨tv,dI _⟩,⟨tv,dI _⟩,tv⟩ (forall_cons ⟨⟨tv,dE _⟩,⟨tv,dC _⟩,tv⟩ (forall_cons ⟨tv,tv,tv⟩ forall_nil))),⟨⟨tv,tv,dT _,tv⟩,tv,tv⟩,(forall_cons ⟨dE _,(lz rfl),dI _,dI _,tv⟩ (forall_cons ⟨dE _,dC _,tv⟩ (forall_cons ⟨tv,tv,tv⟩ forall_nil)))⟩
theorem q154:Qf 154 Tryz.f154:=⟨Tryz.func154,by kernel_rfl⟩
theorem k154{M p1 fl fu r}(h:K154 M p1 fl fu r Ci):K154 M p1 fl fu r Ct:=⟨h,⟨(lz rfl),⟨tv,tv,⟨tv,dT _⟩,tv⟩,(lz rfl),tv⟩,(forall_cons ⟨⟨tv,dE _⟩,(lz rfl),⟨tv,dI _⟩,⟨tv,dI _⟩,tv⟩ (forall_cons ⟨⟨tv,dE _⟩,⟨tv,dC _⟩,tv⟩ (forall_cons ⟨tv,tv,tv⟩ forall_nil))),⟨⟨tv,tv,dT _,tv⟩,tv,tv,tv⟩,(forall_cons ⟨dE _,(lz rfl),dI _,dI _,tv⟩ (forall_cons ⟨dE _,dC _,tv⟩ (forall_cons ⟨tv,tv,tv⟩ forall_nil)))⟩
theorem c154{qq M p1 fl fu r}(h:e154 qq M p1 fl fu=some r):K154 M p1 fl fu r Ct:=by
 unfold e154 at h
 obtain⟨r1,h2,h⟩:=obind h
 have k:=oC 1 [] (c47 h2) o0
 obtain⟨h3,h⟩:=splF h
 obtain⟨r57,h58,h⟩:=obind h
 have k:=oC 1 [0,1] (c192 h58)<|oB 5 h3 k
 obtain⟨h59,h⟩:=splF h
 obtain⟨r69,h70,h⟩:=obind h
 have k:=oC 1 [0,1] (c192 h70)<|oB 0 h59 k
 obtain⟨h71,h⟩:=splF h
 have k:=oB 0 h71 k
 obtain⟨h82,h⟩:=splF h
 obtain rfl:=sj h
 exact k154 (tF q154 4 [0,1,2] (oD (dT p1.sub)<|oD (dC M.parts)<|oD (dE M.rl)<|oD (dI M.own)<|oD (dI M.args)<|oD (dE M.l)<|oB 1 h82 k))
theorem l101Lct(qq M vb2_0 vb2_1 vb3_0 vb3_1 vb3_2 r)(h:e101Lct qq M vb2_0 vb2_1 vb3_0 vb3_1 vb3_2=some r):(∀j,Dl Tryz.prog 3 (inn (inn (rgt (inn (rgt (bod Tryz.f101)))))) (g101LctE0 j M vb2_0 vb2_1 vb3_0 vb3_1 vb3_2) (g101LctS0 M vb2_0 vb2_1 vb3_0 vb3_1 vb3_2) (frameQ Tryz.prog 3 (FinQ Tryz.prog 3 Tryz.f101 (.tup [tmA r.1,ai r.2.1]) [mB M 1,mR M,.cells [ai r.2.2.1,ai r.2.2.2]] 0) [.blk 0])):=by
 unfold e101Lct at h
 obtain⟨r1,h2,h⟩:=obind h
 have k:=oC 1 [0,1,2] (c154 h2) o0
 obtain⟨h3,h⟩:=splF h
 have k:=oB 1 h3 k
 obtain⟨h5,h⟩:=splF h
 obtain rfl:=sj h
 exact fun j=>lF 2 [0,1,2] (oD (dT vb3_2)<|oD (dC M.parts)<|oD (dE M.rl)<|oD (dI M.own)<|oD (dI M.args)<|oD (dE M.l)<|oB 2 h5 k)
theorem c101{qq M p1 fl fu r}(h:e101 qq M p1 fl fu=some r):K101 M p1 fl fu r Ct:=by
 unfold e101 at h
 exact k101 (tH q101 0 [] [0,1,2,3,4] [] [0,2,4,6] (oD (dT ([]:List Tm))<|oD (dT p1.sub)<|oD (dC M.parts)<|oD (dE M.rl)<|oD (dI M.own)<|oD (dI M.args)<|oD (dE M.l) o0) (l101Lct qq _ _ _ _ _ _ _ h))
def e62(qq:Nat)(M:Mach)(p1:Tm)(fl fu:Int):Option (Tm×Int×Int×Int):=
 e100 qq M p1>>=fun r1=>
 if r1 then
 e101 qq M p1 fl fu>>=fun r4=>
 if r4.2.1 != 0 then
 none
 else
 e41 qq r4.1>>=fun r7=>
 some (r7,0,r4.2.2.1,r4.2.2.2)
 else
 none
abbrev K62 (M:Mach) (p1:Tm) (fl fu:Int) (r:Tm×Int×Int×Int) (C:Cf):Prop:=C 62 [mB M 1,mR M,.cells [ai fl,ai fu]] [.mp 0 0,tmA p1,.mp 2 0] (.tup [tmA r.1,ai r.2.1]) [mB M 1,mR M,.cells [ai r.2.2.1,ai r.2.2.2]] 0
theorem q62:Qf 62 Tryz.f62:=⟨Tryz.func62,by kernel_rfl⟩
theorem k62{M p1 fl fu r}(h:K62 M p1 fl fu r Ci):K62 M p1 fl fu r Ct:=⟨h,⟨(lz rfl),⟨tv,tv,⟨tv,dT _⟩,tv⟩,(lz rfl),tv⟩,(forall_cons ⟨⟨tv,dE _⟩,(lz rfl),⟨tv,dI _⟩,⟨tv,dI _⟩,tv⟩ (forall_cons ⟨⟨tv,dE _⟩,⟨tv,dC _⟩,tv⟩ (forall_cons ⟨tv,tv,tv⟩ forall_nil))),⟨⟨tv,tv,dT _,tv⟩,tv,tv⟩,(forall_cons ⟨dE _,(lz rfl),dI _,dI _,tv⟩ (forall_cons ⟨dE _,dC _,tv⟩ (forall_cons ⟨tv,tv,tv⟩ forall_nil)))⟩
theorem c62{qq M p1 fl fu r}(h:e62 qq M p1 fl fu=some r):K62 M p1 fl fu r Ct:=by
 unfold e62 at h
 obtain⟨r1,h2,h⟩:=obind h
 obtain⟨h3,h⟩:=spT h
 obtain⟨r4,h5,h⟩:=obind h
 have k:=oC 2 [0,1,2] (c101 h5)<|oK 1 [0,1] h3 (c100 h2) o0
 obtain⟨h6,h⟩:=splF h
 obtain⟨r7,h8,h⟩:=obind h
 obtain rfl:=sj h
 exact k62 (tF q62 1 [0,1,2] (oD (dT r7.sub)<|oD (dC M.parts)<|oD (dE M.rl)<|oD (dI M.own)<|oD (dI M.args)<|oD (dE M.l)<|oC 1 [] (c41 h8)<|oB 3 h6 k))
def e279(qq:Nat)(M:Mach)(q0_l:List Ent)(fl fu q0_e:Int)(p1:Tm):Option (Tm×Int×Int×Int):=
 e62 qq M p1 fl fu>>=fun r1=>
 if q0_e==0 then
 some (r1.1,r1.2.1,r1.2.2.1,r1.2.2.2)
 else
 none
abbrev K279 (M:Mach) (q0_l:List Ent) (fl fu q0_e:Int) (p1:Tm) (r:Tm×Int×Int×Int) (C:Cf):Prop:=C 279 [.cells [.mp 1 0,slv entL q0_l .no,.mp 3 0,ai q0_e],mB M 2,mR M,.cells [ai fl,ai fu]] [.mp 0 0,tmA p1] (tmA r.1) [.cells [.mp 1 0,slv entL q0_l .no,.mp 3 0,ai r.2.1],mB M 2,mR M,.cells [ai r.2.2.1,ai r.2.2.2]] 0
theorem q279:Qf 279 Tryz.f279:=⟨Tryz.func279,by kernel_rfl⟩
theorem k279{M q0_l fl fu q0_e p1 r}(h:K279 M q0_l fl fu q0_e p1 r Ci):K279 M q0_l fl fu q0_e p1 r Ct:=⟨h,⟨(lz rfl),⟨tv,tv,⟨tv,dT _⟩,tv⟩,tv⟩,(forall_cons ⟨(lz rfl),⟨tv,dE _⟩,(lz rfl),tv,tv⟩ (forall_cons ⟨⟨tv,dE _⟩,(lz rfl),⟨tv,dI _⟩,⟨tv,dI _⟩,tv⟩ (forall_cons ⟨⟨tv,dE _⟩,⟨tv,dC _⟩,tv⟩ (forall_cons ⟨tv,tv,tv⟩ forall_nil)))),⟨tv,tv,dT _,tv⟩,(forall_cons ⟨(lz rfl),dE _,(lz rfl),tv,tv⟩ (forall_cons ⟨dE _,(lz rfl),dI _,dI _,tv⟩ (forall_cons ⟨dE _,dC _,tv⟩ (forall_cons ⟨tv,tv,tv⟩ forall_nil))))⟩
theorem c279{qq M q0_l fl fu q0_e p1 r}(h:e279 qq M q0_l fl fu q0_e p1=some r):K279 M q0_l fl fu q0_e p1 r Ct:=by
 unfold e279 at h
 obtain⟨r1,h2,h⟩:=obind h
 have k:=oC 3 [1,2,3] (c62 h2) o0
 obtain⟨h3,h⟩:=spT h
 obtain rfl:=sj h
 exact k279 (tF q279 3 [0,1,2,3] (oD (dT r1.1.sub)<|oD (dC M.parts)<|oD (dE M.rl)<|oD (dI M.own)<|oD (dI M.args)<|oD (dE M.l)<|oD (dE q0_l)<|oB 4 h3 k))
def e262(qq:Nat)(M:Mach)(q0_l:List Ent)(fl fu q0_e:Int)(p1 p2:Tm):Option (Tm×Tm×Bool×Int×Int×Int):=
 if q0_e != 0 then
 none
 else
 e279 qq M q0_l fl fu q0_e p1>>=fun r2=>
 if r2.2.1 != 0 then
 none
 else
 e279 qq M q0_l r2.2.2.1 r2.2.2.2 r2.2.1 p2>>=fun r5=>
 some (r2.1,r5.1,(r5.2.1==0),r5.2.1,r5.2.2.1,r5.2.2.2)
abbrev K262 (M:Mach) (q0_l:List Ent) (fl fu q0_e:Int) (p1 p2:Tm) (r:Tm×Tm×Bool×Int×Int×Int) (C:Cf):Prop:=C 262 [.cells [.mp 1 0,slv entL q0_l .no,.mp 3 0,ai q0_e],mB M 2,mR M,.cells [ai fl,ai fu]] [.mp 0 0,tmA p1,tmA p2] (.tup [tmA r.1,tmA r.2.1,ab r.2.2.1]) [.cells [.mp 1 0,slv entL q0_l .no,.mp 3 0,ai r.2.2.2.1],mB M 2,mR M,.cells [ai r.2.2.2.2.1,ai r.2.2.2.2.2]] 0
theorem q262:Qf 262 Tryz.f262:=⟨Tryz.func262,by kernel_rfl⟩
theorem k262{M q0_l fl fu q0_e p1 p2 r}(h:K262 M q0_l fl fu q0_e p1 p2 r Ci):K262 M q0_l fl fu q0_e p1 p2 r Ct:=⟨h,⟨(lz rfl),⟨tv,tv,⟨tv,dT _⟩,tv⟩,⟨tv,tv,⟨tv,dT _⟩,tv⟩,tv⟩,(forall_cons ⟨(lz rfl),⟨tv,dE _⟩,(lz rfl),tv,tv⟩ (forall_cons ⟨⟨tv,dE _⟩,(lz rfl),⟨tv,dI _⟩,⟨tv,dI _⟩,tv⟩ (forall_cons ⟨⟨tv,dE _⟩,⟨tv,dC _⟩,tv⟩ (forall_cons ⟨tv,tv,tv⟩ forall_nil)))),⟨⟨tv,tv,dT _,tv⟩,⟨tv,tv,dT _,tv⟩,tv,tv⟩,(forall_cons ⟨(lz rfl),dE _,(lz rfl),tv,tv⟩ (forall_cons ⟨dE _,(lz rfl),dI _,dI _,tv⟩ (forall_cons ⟨dE _,dC _,tv⟩ (forall_cons ⟨tv,tv,tv⟩ forall_nil))))⟩
theorem c262{qq M q0_l fl fu q0_e p1 p2 r}(h:e262 qq M q0_l fl fu q0_e p1 p2=some r):K262 M q0_l fl fu q0_e p1 p2 r Ct:=by
 unfold e262 at h
 obtain⟨h1,h⟩:=splF h
 obtain⟨r2,h3,h⟩:=obind h
 have k:=oC 1 [0,1,2,3] (c279 h3)<|oB 1 h1 o0
 obtain⟨h4,h⟩:=splF h
 obtain⟨r5,h6,h⟩:=obind h
 obtain rfl:=sj h
 exact k262 (tF q262 7 [0,1,2,3] (oD (dT r5.1.sub)<|oD (dT r2.1.sub)<|oD (dC M.parts)<|oD (dE M.rl)<|oD (dI M.own)<|oD (dI M.args)<|oD (dE M.l)<|oD (dE q0_l)<|oC 1 [0,1,2,3] (c279 h6)<|oB 2 h4 k))
def e264(qq:Nat)(p0 p1:Int):Option (Bool):=
 some (decide (p0≤p1))
abbrev K264 (p0 p1:Int) (r:Bool) (C:Cf):Prop:=C 264 [] [ai p0,ai p1] (ab r) [] 0
theorem q264:Qf 264 Tryz.f264:=⟨Tryz.func264,by kernel_rfl⟩
theorem k264{p0 p1 r}(h:K264 p0 p1 r Ci):K264 p0 p1 r Ct:=⟨h,⟨tv,tv,tv⟩,forall_nil,tv,forall_nil⟩
theorem c264{qq p0 p1 r}(h:e264 qq p0 p1=some r):K264 p0 p1 r Ct:=by
 unfold e264 at h
 obtain rfl:=sj h
 exact k264 (tF q264 1 [] (o0))
def e232(qq:Nat)(M:Mach)(p1:Tm):Option (Int×List Tm×Bool):=
 e47 qq p1>>=fun r1=>
 e192 qq M r1.1>>=fun r3=>
 if r3 != 2 then
 some (0,[],false)
 else
 none
abbrev K232 (M:Mach) (p1:Tm) (r:Int×List Tm×Bool) (C:Cf):Prop:=C 232 [mB M 1,mR M] [.mp 0 0,tmA p1] (.tup [ai r.1,.sl (flat tmCells r.2.1) (List.length r.2.1) .no,ab r.2.2]) [mB M 1,mR M] 0
theorem q232:Qf 232 Tryz.f232:=⟨Tryz.func232,by kernel_rfl⟩
theorem k232{M p1 r}(h:K232 M p1 r Ci):K232 M p1 r Ct:=⟨h,⟨(lz rfl),⟨tv,tv,⟨tv,dT _⟩,tv⟩,tv⟩,(forall_cons ⟨⟨tv,dE _⟩,(lz rfl),⟨tv,dI _⟩,⟨tv,dI _⟩,tv⟩ (forall_cons ⟨⟨tv,dE _⟩,⟨tv,dC _⟩,tv⟩ forall_nil)),⟨tv,dT _,tv,tv⟩,(forall_cons ⟨dE _,(lz rfl),dI _,dI _,tv⟩ (forall_cons ⟨dE _,dC _,tv⟩ forall_nil))⟩
theorem c232{qq M p1 r}(h:e232 qq M p1=some r):K232 M p1 r Ct:=by
 unfold e232 at h
 obtain⟨r1,h2,h⟩:=obind h
 obtain⟨r3,h4,h⟩:=obind h
 have k:=oC 4 [0,1] (c192 h4)<|oC 1 [] (c47 h2) o0
 obtain⟨h5,h⟩:=spT h
 obtain rfl:=sj h
 exact k232 (tF q232 0 [0,1] (oD (dT ([]:List Tm))<|oD (dC M.parts)<|oD (dE M.rl)<|oD (dI M.own)<|oD (dI M.args)<|oD (dE M.l)<|oB 0 h5 k))
def e286(qq:Nat)(M:Mach)(p1:Tm):Option (Int×List Tm×Bool):=
 e57 qq p1>>=fun r1=>
 if r1 then
 e41 qq p1>>=fun r4=>
 e232 qq M r4>>=fun r6=>
 some (r6.1,r6.2.1,r6.2.2)
 else
 none
abbrev K286 (M:Mach) (p1:Tm) (r:Int×List Tm×Bool) (C:Cf):Prop:=C 286 [mB M 1,mR M] [.mp 0 0,tmA p1] (.tup [ai r.1,.sl (flat tmCells r.2.1) (List.length r.2.1) .no,ab r.2.2]) [mB M 1,mR M] 0
theorem q286:Qf 286 Tryz.f286:=⟨Tryz.func286,by kernel_rfl⟩
theorem k286{M p1 r}(h:K286 M p1 r Ci):K286 M p1 r Ct:=⟨h,⟨(lz rfl),⟨tv,tv,⟨tv,dT _⟩,tv⟩,tv⟩,(forall_cons ⟨⟨tv,dE _⟩,(lz rfl),⟨tv,dI _⟩,⟨tv,dI _⟩,tv⟩ (forall_cons ⟨⟨tv,dE _⟩,⟨tv,dC _⟩,tv⟩ forall_nil)),⟨tv,dT _,tv,tv⟩,(forall_cons ⟨dE _,(lz rfl),dI _,dI _,tv⟩ (forall_cons ⟨dE _,dC _,tv⟩ forall_nil))⟩
theorem c286{qq M p1 r}(h:e286 qq M p1=some r):K286 M p1 r Ct:=by
 unfold e286 at h
 obtain⟨r1,h2,h⟩:=obind h
 obtain⟨h3,h⟩:=spT h
 obtain⟨r4,h5,h⟩:=obind h
 obtain⟨r6,h7,h⟩:=obind h
 obtain rfl:=sj h
 exact k286 (tF q286 3 [0,1] (oD (dT r6.2.1)<|oD (dC M.parts)<|oD (dE M.rl)<|oD (dI M.own)<|oD (dI M.args)<|oD (dE M.l)<|oC 0 [0,1] (c232 h7)<|oC 2 [] (c41 h5)<|oK 2 [] h3 (c57 h2) o0))
def e281(qq:Nat)(M:Mach)(q0_l:List Ent)(fl fu q0_e:Int)(p1:Tm):Option (Int×List Tm×Bool):=
 e286 qq M p1>>=fun r1=>
 if r1.2.2 then
 none
 else
 some (0,[],false)
abbrev K281 (M:Mach) (q0_l:List Ent) (fl fu q0_e:Int) (p1:Tm) (r:Int×List Tm×Bool) (C:Cf):Prop:=C 281 [.cells [.mp 1 0,slv entL q0_l .no,.mp 3 0,ai q0_e],mB M 2,mR M,.cells [ai fl,ai fu]] [.mp 0 0,tmA p1] (.tup [ai r.1,.sl (flat tmCells r.2.1) (List.length r.2.1) .no,ab r.2.2]) [.cells [.mp 1 0,slv entL q0_l .no,.mp 3 0,ai q0_e],mB M 2,mR M,.cells [ai fl,ai fu]] 0
theorem q281:Qf 281 Tryz.f281:=⟨Tryz.func281,by kernel_rfl⟩
theorem k281{M q0_l fl fu q0_e p1 r}(h:K281 M q0_l fl fu q0_e p1 r Ci):K281 M q0_l fl fu q0_e p1 r Ct:=⟨h,⟨(lz rfl),⟨tv,tv,⟨tv,dT _⟩,tv⟩,tv⟩,(forall_cons ⟨(lz rfl),⟨tv,dE _⟩,(lz rfl),tv,tv⟩ (forall_cons ⟨⟨tv,dE _⟩,(lz rfl),⟨tv,dI _⟩,⟨tv,dI _⟩,tv⟩ (forall_cons ⟨⟨tv,dE _⟩,⟨tv,dC _⟩,tv⟩ (forall_cons ⟨tv,tv,tv⟩ forall_nil)))),⟨tv,dT _,tv,tv⟩,(forall_cons ⟨(lz rfl),dE _,(lz rfl),tv,tv⟩ (forall_cons ⟨dE _,(lz rfl),dI _,dI _,tv⟩ (forall_cons ⟨dE _,dC _,tv⟩ (forall_cons ⟨tv,tv,tv⟩ forall_nil))))⟩
theorem c281{qq M q0_l fl fu q0_e p1 r}(h:e281 qq M q0_l fl fu q0_e p1=some r):K281 M q0_l fl fu q0_e p1 r Ct:=by
 unfold e281 at h
 obtain⟨r1,h2,h⟩:=obind h
 have k:=oC 2 [1,2] (c286 h2) o0
 obtain⟨h3,h⟩:=splF h
 obtain rfl:=sj h
 exact k281 (tF q281 1 [0,1,2,3] (oD (dT ([]:List Tm))<|oD (dC M.parts)<|oD (dE M.rl)<|oD (dI M.own)<|oD (dI M.args)<|oD (dE M.l)<|oD (dE q0_l)<|oB 2 h3 k))
def e263vacu(qq:Nat)(q0 q1:List Ent)(q2:List Con')(q3 q4:List Int)(q5:List Ent)(q6 q7 q8:Int)(p1 p2:Tm):Option (Bool×Int×Int×Int):=
 if p1.k==4 then
 none
 else
 if p2.k==4 then
 none
 else
 e281 qq (Mach.mk q0 q1 q2 q3 q4) q5 q6 q7 q8 p1>>=fun r15=>
 if r15.2.2 then
 none
 else
 e281 qq (Mach.mk q0 q1 q2 q3 q4) q5 q6 q7 q8 p2>>=fun r34=>
 if r34.2.2 then
 none
 else
 if p1.k != p2.k then
 none
 else
 if p1.k==3 then
 none
 else
 if p1.k==2 then
 e264 qq p1.n p2.n>>=fun r59=>
 some (r59,q8,q6,q7)
 else
 e283vacr qq q0 q1 q2 q3 q4 q5 q6 q7 q8 p1 p2>>=fun r61=>
 some (r61.1,r61.2.1,r61.2.2.1,r61.2.2.2)
def e226vacr(qq:Nat)(q0 q1:List Ent)(q2:List Con')(q3 q4:List Int)(q5:List Ent)(q6 q7 q8:Int)(p1 p2:Tm):Option (Bool×Int×Int×Int):=
 e262 qq (Mach.mk q0 q1 q2 q3 q4) q5 q6 q7 q8 p1 p2>>=fun r1=>
 if r1.2.2.1 then
 e263vacu qq q0 q1 q2 q3 q4 q5 r1.2.2.2.2.1 r1.2.2.2.2.2 r1.2.2.2.1 r1.1 r1.2.1>>=fun r4=>
 some (r4.1,r4.2.1,r4.2.2.1,r4.2.2.2)
 else
 none
abbrev K263vacu (q0 q1:List Ent) (q2:List Con') (q3 q4:List Int) (q5:List Ent) (q6 q7 q8:Int) (p1 p2:Tm) (r:Bool×Int×Int×Int) (C:Cf):Prop:=C 263 [.cells [.mp 1 0,slv entL q5 .no,.mp 3 0,ai q8],.cells [slv entL q0 .no,.mp 2 0,slv intC q3 .no,slv intC q4 .no],.cells [slv entL q1 .no,slv conL q2 .no],.cells [ai q6,ai q7]] [.mp 0 0,tmA p1,tmA p2,.agg [.clo 264 [] [],.clo 226 [.mp 0 0] []]] (ab r.1) [.cells [.mp 1 0,slv entL q5 .no,.mp 3 0,ai r.2.1],.cells [slv entL q0 .no,.mp 2 0,slv intC q3 .no,slv intC q4 .no],.cells [slv entL q1 .no,slv conL q2 .no],.cells [ai r.2.2.1,ai r.2.2.2]] 0
abbrev K226vacr (q0 q1:List Ent) (q2:List Con') (q3 q4:List Int) (q5:List Ent) (q6 q7 q8:Int) (p1 p2:Tm) (r:Bool×Int×Int×Int) (C:Cf):Prop:=C 226 [.cells [.mp 1 0,slv entL q5 .no,.mp 3 0,ai q8],.cells [slv entL q0 .no,.mp 2 0,slv intC q3 .no,slv intC q4 .no],.cells [slv entL q1 .no,slv conL q2 .no],.cells [ai q6,ai q7]] [.mp 0 0,tmA p1,tmA p2] (ab r.1) [.cells [.mp 1 0,slv entL q5 .no,.mp 3 0,ai r.2.1],.cells [slv entL q0 .no,.mp 2 0,slv intC q3 .no,slv intC q4 .no],.cells [slv entL q1 .no,slv conL q2 .no],.cells [ai r.2.2.1,ai r.2.2.2]] 0
theorem q263vacu:Qf 263 Tryz.f263:=⟨Tryz.func263,by kernel_rfl⟩
theorem k263vacu{q0 q1 q2 q3 q4 q5 q6 q7 q8 p1 p2 r}(h:K263vacu q0 q1 q2 q3 q4 q5 q6 q7 q8 p1 p2 r Ci):K263vacu q0 q1 q2 q3 q4 q5 q6 q7 q8 p1 p2 r Ct:=⟨h,⟨(lz rfl),⟨tv,tv,⟨tv,dT _⟩,tv⟩,⟨tv,tv,⟨tv,dT _⟩,tv⟩,⟨⟨tv,tv⟩,⟨⟨(lz rfl),tv⟩,tv⟩,tv⟩,tv⟩,(forall_cons ⟨(lz rfl),⟨tv,dE _⟩,(lz rfl),tv,tv⟩ (forall_cons ⟨⟨tv,dE _⟩,(lz rfl),⟨tv,dI _⟩,⟨tv,dI _⟩,tv⟩ (forall_cons ⟨⟨tv,dE _⟩,⟨tv,dC _⟩,tv⟩ (forall_cons ⟨tv,tv,tv⟩ forall_nil)))),tv,(forall_cons ⟨(lz rfl),dE _,(lz rfl),tv,tv⟩ (forall_cons ⟨dE _,(lz rfl),dI _,dI _,tv⟩ (forall_cons ⟨dE _,dC _,tv⟩ (forall_cons ⟨tv,tv,tv⟩ forall_nil))))⟩
theorem q226vacr:Qf 226 Tryz.f226:=⟨Tryz.func226,by kernel_rfl⟩
theorem k226vacr{q0 q1 q2 q3 q4 q5 q6 q7 q8 p1 p2 r}(h:K226vacr q0 q1 q2 q3 q4 q5 q6 q7 q8 p1 p2 r Ci):K226vacr q0 q1 q2 q3 q4 q5 q6 q7 q8 p1 p2 r Ct:=⟨h,⟨(lz rfl),⟨tv,tv,⟨tv,dT _⟩,tv⟩,⟨tv,tv,⟨tv,dT _⟩,tv⟩,tv⟩,(forall_cons ⟨(lz rfl),⟨tv,dE _⟩,(lz rfl),tv,tv⟩ (forall_cons ⟨⟨tv,dE _⟩,(lz rfl),⟨tv,dI _⟩,⟨tv,dI _⟩,tv⟩ (forall_cons ⟨⟨tv,dE _⟩,⟨tv,dC _⟩,tv⟩ (forall_cons ⟨tv,tv,tv⟩ forall_nil)))),tv,(forall_cons ⟨(lz rfl),dE _,(lz rfl),tv,tv⟩ (forall_cons ⟨dE _,(lz rfl),dI _,dI _,tv⟩ (forall_cons ⟨dE _,dC _,tv⟩ (forall_cons ⟨tv,tv,tv⟩ forall_nil))))⟩
theorem c263vacu{qq q0 q1 q2 q3 q4 q5 q6 q7 q8 p1 p2 r}(h:e263vacu qq q0 q1 q2 q3 q4 q5 q6 q7 q8 p1 p2=some r):K263vacu q0 q1 q2 q3 q4 q5 q6 q7 q8 p1 p2 r Ct:=by
 unfold e263vacu at h
 obtain⟨h1,h⟩:=splF h
 have k:=oB 1 h1 o0
 obtain⟨h8,h⟩:=splF h
 obtain⟨r15,h16,h⟩:=obind h
 have k:=oC 1 [0,1,2,3] (c281 h16)<|oB 1 h8 k
 obtain⟨h17,h⟩:=splF h
 obtain⟨r34,h35,h⟩:=obind h
 have k:=oC 1 [0,1,2,3] (c281 h35)<|oB 2 h17 k
 obtain⟨h36,h⟩:=splF h
 have k:=oB 2 h36 k
 obtain⟨h43,h⟩:=splF h
 have k:=oB 2 h43 k
 obtain⟨h44,h⟩:=splF h
 have k:=oB 1 h44 k
 rcases spl h with⟨h58,h⟩|⟨h58,h⟩
 obtain⟨r59,h60,h⟩:=obind h
 obtain rfl:=sj h
 exact k263vacu (tF q263vacu 0 [0,1,2,3] (oD (dC q2)<|oD (dE q1)<|oD (dI q4)<|oD (dI q3)<|oD (dE q0)<|oD (dE q5)<|oC 3 [] (c264 h60)<|oB 1 h58 k))
 obtain⟨r61,h62,h⟩:=obind h
 obtain rfl:=sj h
 exact k263vacu (tF q263vacu 0 [0,1,2,3] (oD (dC q2)<|oD (dE q1)<|oD (dI q4)<|oD (dI q3)<|oD (dE q0)<|oD (dE q5)<|oC 2 [0,1,2,3] (c283vacr h62)<|oB 1 h58 k))
theorem c226vacr{qq q0 q1 q2 q3 q4 q5 q6 q7 q8 p1 p2 r}(h:e226vacr qq q0 q1 q2 q3 q4 q5 q6 q7 q8 p1 p2=some r):K226vacr q0 q1 q2 q3 q4 q5 q6 q7 q8 p1 p2 r Ct:=by
 unfold e226vacr at h
 obtain⟨r1,h2,h⟩:=obind h
 have k:=oC 2 [0,1,2,3] (c262 h2) o0
 obtain⟨h3,h⟩:=spT h
 obtain⟨r4,h5,h⟩:=obind h
 obtain rfl:=sj h
 exact k226vacr (tF q226vacr 0 [0,1,2,3] (oD (dC q2)<|oD (dE q1)<|oD (dI q4)<|oD (dI q3)<|oD (dE q0)<|oD (dE q5)<|oC 4 [0,1,2,3] (c263vacu h5)<|oB 2 h3 k))
def e225vacv(qq:Nat)(q0 q1:List Ent)(q2:List Con')(q3 q4:List Int)(q5:List Ent)(q6 q7 q8 q9 q10:Int)(q11:List Tm)(q12 q13:Int)(q14:List Tm):Option (Bool×Int×Int×Int):=
 e226vacr qq q0 q1 q2 q3 q4 q5 q6 q7 q8 (Tm.mk q9 q10 q11) (Tm.mk q12 q13 q14)>>=fun r1=>
 some (r1.1,r1.2.1,r1.2.2.1,r1.2.2.2)
abbrev K225vacv (q0 q1:List Ent) (q2:List Con') (q3 q4:List Int) (q5:List Ent) (q6 q7 q8 q9 q10:Int) (q11:List Tm) (q12 q13:Int) (q14:List Tm) (r:Bool×Int×Int×Int) (C:Cf):Prop:=C 225 [.cells [.mp 1 0,slv entL q5 .no,.mp 3 0,ai q8],.cells [slv entL q0 .no,.mp 2 0,slv intC q3 .no,slv intC q4 .no],.cells [slv entL q1 .no,slv conL q2 .no],.cells [ai q6,ai q7],.cells [ai q9,ai q10,slv tmCells q11 .no],.cells [ai q12,ai q13,slv tmCells q14 .no]] [.mp 0 0,.mp 4 0,.mp 5 0] (ab r.1) [.cells [.mp 1 0,slv entL q5 .no,.mp 3 0,ai r.2.1],.cells [slv entL q0 .no,.mp 2 0,slv intC q3 .no,slv intC q4 .no],.cells [slv entL q1 .no,slv conL q2 .no],.cells [ai r.2.2.1,ai r.2.2.2],.cells [ai q9,ai q10,slv tmCells q11 .no],.cells [ai q12,ai q13,slv tmCells q14 .no]] 0
theorem q225vacv:Qf 225 Tryz.f225:=⟨Tryz.func225,by kernel_rfl⟩
theorem k225vacv{q0 q1 q2 q3 q4 q5 q6 q7 q8 q9 q10 q11 q12 q13 q14 r}(h:K225vacv q0 q1 q2 q3 q4 q5 q6 q7 q8 q9 q10 q11 q12 q13 q14 r Ci):K225vacv q0 q1 q2 q3 q4 q5 q6 q7 q8 q9 q10 q11 q12 q13 q14 r Ct:=⟨h,⟨(lz rfl),(lz rfl),(lz rfl),tv⟩,(forall_cons ⟨(lz rfl),⟨tv,dE _⟩,(lz rfl),tv,tv⟩ (forall_cons ⟨⟨tv,dE _⟩,(lz rfl),⟨tv,dI _⟩,⟨tv,dI _⟩,tv⟩ (forall_cons ⟨⟨tv,dE _⟩,⟨tv,dC _⟩,tv⟩ (forall_cons ⟨tv,tv,tv⟩ (forall_cons ⟨tv,tv,⟨tv,dT _⟩,tv⟩ (forall_cons ⟨tv,tv,⟨tv,dT _⟩,tv⟩ forall_nil)))))),tv,(forall_cons ⟨(lz rfl),dE _,(lz rfl),tv,tv⟩ (forall_cons ⟨dE _,(lz rfl),dI _,dI _,tv⟩ (forall_cons ⟨dE _,dC _,tv⟩ (forall_cons ⟨tv,tv,tv⟩ (forall_cons ⟨tv,tv,dT _,tv⟩ (forall_cons ⟨tv,tv,dT _,tv⟩ forall_nil))))))⟩
theorem c225vacv{qq q0 q1 q2 q3 q4 q5 q6 q7 q8 q9 q10 q11 q12 q13 q14 r}(h:e225vacv qq q0 q1 q2 q3 q4 q5 q6 q7 q8 q9 q10 q11 q12 q13 q14=some r):K225vacv q0 q1 q2 q3 q4 q5 q6 q7 q8 q9 q10 q11 q12 q13 q14 r Ct:=by
 unfold e225vacv at h
 obtain⟨r1,h2,h⟩:=obind h
 obtain rfl:=sj h
 exact k225vacv (tF q225vacv 0 [0,1,2,3,4,5] (oD (dT q14)<|oD (dT q11)<|oD (dC q2)<|oD (dE q1)<|oD (dI q4)<|oD (dI q3)<|oD (dE q0)<|oD (dE q5)<|oC 2 [0,1,2,3] (c226vacr h2) o0))
def e224vacw(qq:Nat)(q0 q1:List Ent)(q2:List Con')(q3 q4:List Int)(p1 p2:Tm)(q7 q8 q9 q10:Int)(q11:List Tm)(q12 q13:Int)(q14:List Tm):Option (Bool×Int×Int×Int):=
 e92 qq (Mach.mk q0 q1 q2 q3 q4)>>=fun r1=>
 e82 qq p1 1048577 r1>>=fun r3=>
 if r3 then
 e92 qq (Mach.mk q0 q1 q2 q3 q4)>>=fun r6=>
 e82 qq p2 1048577 r6>>=fun r8=>
 if r8 then
 e60 qq (Mach.mk q0 q1 q2 q3 q4)>>=fun r11=>
 e225vacv qq q0 q1 q2 q3 q4 r11 q7 q8 0 q9 q10 q11 q12 q13 q14>>=fun r13=>
 if r13.1 then
 some ((r13.2.1==0),r13.2.1,r13.2.2.1,r13.2.2.2)
 else
 none
 else
 none
 else
 none
abbrev K224vacw (q0 q1:List Ent) (q2:List Con') (q3 q4:List Int) (p1 p2:Tm) (q7 q8 q9 q10:Int) (q11:List Tm) (q12 q13:Int) (q14:List Tm) (r:Bool×Int×Int×Int) (C:Cf):Prop:=C 224 [.cells [slv entL q0 .no,.mp 1 0,slv intC q3 .no,slv intC q4 .no],.cells [slv entL q1 .no,slv conL q2 .no],.cells [ai q7,ai q8],.cells [ai q9,ai q10,slv tmCells q11 .no],.cells [ai q12,ai q13,slv tmCells q14 .no]] [.mp 0 0,tmA p1,tmA p2,.mp 2 0,.clo 225 [] [.mp 3 0,.mp 4 0]] (.tup [ab r.1,ai r.2.1]) [.cells [slv entL q0 .no,.mp 1 0,slv intC q3 .no,slv intC q4 .no],.cells [slv entL q1 .no,slv conL q2 .no],.cells [ai r.2.2.1,ai r.2.2.2],.cells [ai q9,ai q10,slv tmCells q11 .no],.cells [ai q12,ai q13,slv tmCells q14 .no]] 0
theorem q224vacw:Qf 224 Tryz.f224:=⟨Tryz.func224,by kernel_rfl⟩
theorem k224vacw{q0 q1 q2 q3 q4 p1 p2 q7 q8 q9 q10 q11 q12 q13 q14 r}(h:K224vacw q0 q1 q2 q3 q4 p1 p2 q7 q8 q9 q10 q11 q12 q13 q14 r Ci):K224vacw q0 q1 q2 q3 q4 p1 p2 q7 q8 q9 q10 q11 q12 q13 q14 r Ct:=⟨h,⟨(lz rfl),⟨tv,tv,⟨tv,dT _⟩,tv⟩,⟨tv,tv,⟨tv,dT _⟩,tv⟩,(lz rfl),⟨tv,⟨(lz rfl),(lz rfl),tv⟩⟩,tv⟩,(forall_cons ⟨⟨tv,dE _⟩,(lz rfl),⟨tv,dI _⟩,⟨tv,dI _⟩,tv⟩ (forall_cons ⟨⟨tv,dE _⟩,⟨tv,dC _⟩,tv⟩ (forall_cons ⟨tv,tv,tv⟩ (forall_cons ⟨tv,tv,⟨tv,dT _⟩,tv⟩ (forall_cons ⟨tv,tv,⟨tv,dT _⟩,tv⟩ forall_nil))))),⟨tv,tv,tv⟩,(forall_cons ⟨dE _,(lz rfl),dI _,dI _,tv⟩ (forall_cons ⟨dE _,dC _,tv⟩ (forall_cons ⟨tv,tv,tv⟩ (forall_cons ⟨tv,tv,dT _,tv⟩ (forall_cons ⟨tv,tv,dT _,tv⟩ forall_nil)))))⟩
theorem c224vacw{qq q0 q1 q2 q3 q4 p1 p2 q7 q8 q9 q10 q11 q12 q13 q14 r}(h:e224vacw qq q0 q1 q2 q3 q4 p1 p2 q7 q8 q9 q10 q11 q12 q13 q14=some r):K224vacw q0 q1 q2 q3 q4 p1 p2 q7 q8 q9 q10 q11 q12 q13 q14 r Ct:=by
 unfold e224vacw at h
 obtain⟨r1,h2,h⟩:=obind h
 obtain⟨r3,h4,h⟩:=obind h
 have k:=oC 2 [0,1] (c92 h2) o0
 obtain⟨h5,h⟩:=spT h
 obtain⟨r6,h7,h⟩:=obind h
 obtain⟨r8,h9,h⟩:=obind h
 have k:=oC 2 [0,1] (c92 h7)<|oK 0 [] h5 (c82 h4) k
 obtain⟨h10,h⟩:=spT h
 obtain⟨r11,h12,h⟩:=obind h
 obtain⟨r13,h14,h⟩:=obind h
 have k:=oC 1 [0,1] (c60 h12)<|oK 0 [] h10 (c82 h9) k
 obtain⟨h15,h⟩:=spT h
 obtain rfl:=sj h
 exact k224vacw (tF q224vacw 3 [0,1,2,3,4] (oD (dT q14)<|oD (dT q11)<|oD (dC q2)<|oD (dE q1)<|oD (dI q4)<|oD (dI q3)<|oD (dE q0)<|oK 0 [7,0,1,2,3,4] h15 (c225vacv h14) k))
def e190(qq:Nat)(M:Mach)(p1 p2:Tm)(fl fu:Int):Option (Bool×Int×Int×Int):=
 e224vacw qq M.l M.rl M.parts M.args M.own p1 p2 fl fu p1.k p1.n p1.sub p2.k p2.n p2.sub>>=fun r1=>
 some (r1.1,r1.2.1,r1.2.2.1,r1.2.2.2)
abbrev K190 (M:Mach) (p1 p2:Tm) (fl fu:Int) (r:Bool×Int×Int×Int) (C:Cf):Prop:=C 190 [mB M 1,mR M,.cells [ai fl,ai fu]] [.mp 0 0,tmA p1,tmA p2,.mp 2 0] (.tup [ab r.1,ai r.2.1]) [mB M 1,mR M,.cells [ai r.2.2.1,ai r.2.2.2]] 0
theorem q190:Qf 190 Tryz.f190:=⟨Tryz.func190,by kernel_rfl⟩
theorem k190{M p1 p2 fl fu r}(h:K190 M p1 p2 fl fu r Ci):K190 M p1 p2 fl fu r Ct:=⟨h,⟨(lz rfl),⟨tv,tv,⟨tv,dT _⟩,tv⟩,⟨tv,tv,⟨tv,dT _⟩,tv⟩,(lz rfl),tv⟩,(forall_cons ⟨⟨tv,dE _⟩,(lz rfl),⟨tv,dI _⟩,⟨tv,dI _⟩,tv⟩ (forall_cons ⟨⟨tv,dE _⟩,⟨tv,dC _⟩,tv⟩ (forall_cons ⟨tv,tv,tv⟩ forall_nil))),⟨tv,tv,tv⟩,(forall_cons ⟨dE _,(lz rfl),dI _,dI _,tv⟩ (forall_cons ⟨dE _,dC _,tv⟩ (forall_cons ⟨tv,tv,tv⟩ forall_nil)))⟩
theorem c190{qq M p1 p2 fl fu r}(h:e190 qq M p1 p2 fl fu=some r):K190 M p1 p2 fl fu r Ct:=by
 unfold e190 at h
 obtain⟨r1,h2,h⟩:=obind h
 obtain rfl:=sj h
 exact k190 (tF q190 2 [0,1,2] (oD (dC M.parts)<|oD (dE M.rl)<|oD (dI M.own)<|oD (dI M.args)<|oD (dE M.l)<|oC 2 [0,1,2,3,4] (c224vacw h2) o0))
def e40(qq:Nat)(M:Mach)(fl fu:Int)(q0_World_Context:List Tm)(q0_World_Names:List Int)(q0_World_Types:List Tm)(q0_l:List Ent)(p1:Tm):Option (List Tm×List Int×List Tm×List Ent):=
 gsl q0_World_Context 0 (List.length q0_World_Context:Int)>>=fun x1=>
 gapp 40 x1 [p1]>>=fun l3=>
 some (l3,q0_World_Names,q0_World_Types,q0_l)
abbrev K40 (M:Mach) (fl fu:Int) (q0_World_Context:List Tm) (q0_World_Names:List Int) (q0_World_Types:List Tm) (q0_l:List Ent) (p1:Tm) (r:List Tm×List Int×List Tm×List Ent) (C:Cf):Prop:=C 40 [.cells [.mp 1 0,.mp 3 0,slv tmCells q0_World_Context .no,slv intC q0_World_Names .no,slv tmCells q0_World_Types .no,slv entL q0_l .no],mB M 2,mR M,.cells [ai fl,ai fu]] [.mp 0 0,tmA p1] (.mp 4 0) [.cells [.mp 1 0,.mp 3 0,slv tmCells q0_World_Context .no,slv intC q0_World_Names .no,slv tmCells q0_World_Types .no,slv entL q0_l .no],mB M 2,mR M,.cells [ai fl,ai fu],.cells [.mp 1 0,.mp 3 0,slv tmCells r.1 .no,slv intC r.2.1 .no,slv tmCells r.2.2.1 .no,slv entL r.2.2.2 .no]] 0
theorem q40:Qf 40 Tryz.f40:=⟨Tryz.func40,by kernel_rfl⟩
theorem k40{M fl fu q0_World_Context q0_World_Names q0_World_Types q0_l p1 r}(h:K40 M fl fu q0_World_Context q0_World_Names q0_World_Types q0_l p1 r Ci):K40 M fl fu q0_World_Context q0_World_Names q0_World_Types q0_l p1 r Ct:=⟨h,⟨(lz rfl),⟨tv,tv,⟨tv,dT _⟩,tv⟩,tv⟩,(forall_cons ⟨(lz rfl),(lz rfl),⟨tv,dT _⟩,⟨tv,dI _⟩,⟨tv,dT _⟩,⟨tv,dE _⟩,tv⟩ (forall_cons ⟨⟨tv,dE _⟩,(lz rfl),⟨tv,dI _⟩,⟨tv,dI _⟩,tv⟩ (forall_cons ⟨⟨tv,dE _⟩,⟨tv,dC _⟩,tv⟩ (forall_cons ⟨tv,tv,tv⟩ forall_nil)))),(lz rfl),(forall_cons ⟨(lz rfl),(lz rfl),dT _,dI _,dT _,dE _,tv⟩ (forall_cons ⟨dE _,(lz rfl),dI _,dI _,tv⟩ (forall_cons ⟨dE _,dC _,tv⟩ (forall_cons ⟨tv,tv,tv⟩ (forall_cons ⟨(lz rfl),(lz rfl),dT _,dI _,dT _,dE _,tv⟩ forall_nil)))))⟩
theorem c40{qq M fl fu q0_World_Context q0_World_Names q0_World_Types q0_l p1 r}(h:e40 qq M fl fu q0_World_Context q0_World_Names q0_World_Types q0_l p1=some r):K40 M fl fu q0_World_Context q0_World_Names q0_World_Types q0_l p1 r Ct:=by
 unfold e40 at h
 obtain⟨x1,h2,h⟩:=obind h
 obtain⟨l3,h4,h⟩:=obind h
 obtain rfl:=sj h
 exact k40 (tF q40 1 [0,1,2,3,5] (oD (dE q0_l)<|oD (dT q0_World_Types)<|oD (dI q0_World_Names)<|oD (dT l3)<|oD (dC M.parts)<|oD (dE M.rl)<|oD (dI M.own)<|oD (dI M.args)<|oD (dE M.l)<|oD (dE q0_l)<|oD (dT q0_World_Types)<|oD (dI q0_World_Names)<|oD (dT q0_World_Context)<|oP 0 (apS29 h4 (by simp))<|oS 1 (obLitR tm_eq [p1])<|oA 7 (slTo3_29 (o:=.no) h2) o0))
def e93(qq:Nat)(M:Mach)(fl fu:Int)(q0_World_Context:List Tm)(q0_World_Names:List Int)(q0_World_Types:List Tm)(q0_l:List Ent)(p1:Int):Option (Tm×Int):=
 if decide (p1≥(List.length q0_World_Context:Int))then
 none
 else
 gidx q0_World_Context (w64 ((w64 ((List.length q0_World_Context:Int)-1))-p1))>>=fun x2=>
 e135 qq x2 (w64 (p1+1))>>=fun r4=>
 some (r4.1,r4.2)
abbrev K93 (M:Mach) (fl fu:Int) (q0_World_Context:List Tm) (q0_World_Names:List Int) (q0_World_Types:List Tm) (q0_l:List Ent) (p1:Int) (r:Tm×Int) (C:Cf):Prop:=C 93 [.cells [.mp 1 0,.mp 3 0,slv tmCells q0_World_Context .no,slv intC q0_World_Names .no,slv tmCells q0_World_Types .no,slv entL q0_l .no],mB M 2,mR M,.cells [ai fl,ai fu]] [.mp 0 0,ai p1] (.tup [tmA r.1,ai r.2]) [.cells [.mp 1 0,.mp 3 0,slv tmCells q0_World_Context .no,slv intC q0_World_Names .no,slv tmCells q0_World_Types .no,slv entL q0_l .no],mB M 2,mR M,.cells [ai fl,ai fu]] 0
theorem q93:Qf 93 Tryz.f93:=⟨Tryz.func93,by kernel_rfl⟩
theorem k93{M fl fu q0_World_Context q0_World_Names q0_World_Types q0_l p1 r}(h:K93 M fl fu q0_World_Context q0_World_Names q0_World_Types q0_l p1 r Ci):K93 M fl fu q0_World_Context q0_World_Names q0_World_Types q0_l p1 r Ct:=⟨h,⟨(lz rfl),tv,tv⟩,(forall_cons ⟨(lz rfl),(lz rfl),⟨tv,dT _⟩,⟨tv,dI _⟩,⟨tv,dT _⟩,⟨tv,dE _⟩,tv⟩ (forall_cons ⟨⟨tv,dE _⟩,(lz rfl),⟨tv,dI _⟩,⟨tv,dI _⟩,tv⟩ (forall_cons ⟨⟨tv,dE _⟩,⟨tv,dC _⟩,tv⟩ (forall_cons ⟨tv,tv,tv⟩ forall_nil)))),⟨⟨tv,tv,dT _,tv⟩,tv,tv⟩,(forall_cons ⟨(lz rfl),(lz rfl),dT _,dI _,dT _,dE _,tv⟩ (forall_cons ⟨dE _,(lz rfl),dI _,dI _,tv⟩ (forall_cons ⟨dE _,dC _,tv⟩ (forall_cons ⟨tv,tv,tv⟩ forall_nil))))⟩
theorem c93{qq M fl fu q0_World_Context q0_World_Names q0_World_Types q0_l p1 r}(h:e93 qq M fl fu q0_World_Context q0_World_Names q0_World_Types q0_l p1=some r):K93 M fl fu q0_World_Context q0_World_Names q0_World_Types q0_l p1 r Ct:=by
 unfold e93 at h
 obtain⟨h1,h⟩:=splF h
 obtain⟨x2,h3,h⟩:=obind h
 obtain⟨r4,h5,h⟩:=obind h
 obtain rfl:=sj h
 exact k93 (tF q93 3 [0,1,2,3] (oD (dT r4.1.sub)<|oD (dC M.parts)<|oD (dE M.rl)<|oD (dI M.own)<|oD (dI M.args)<|oD (dE M.l)<|oD (dE q0_l)<|oD (dT q0_World_Types)<|oD (dI q0_World_Names)<|oD (dT q0_World_Context)<|oC 2 [] (c135 h5)<|oA 5 (ix29 (o:=.no) h3)<|oB 2 h1 o0))
mutual
def e39:Nat->Mach->Int->Int->(List Tm)->(List Int)->(List Tm)->(List Ent)->Tm->Option (Int×Int×Int×Int)
 |0,_,_,_,_,_,_,_,_=>none
 |qq+1,M,fl,fu,q0_World_Context,q0_World_Names,q0_World_Types,q0_l,p1=>
 e61 qq M fl fu q0_World_Context q0_World_Names q0_World_Types q0_l p1>>=fun r1=>
 if r1.2.1 != 0 then
 some (0,r1.2.1,r1.2.2.1,r1.2.2.2)
 else
 e62 qq M r1.1 r1.2.2.1 r1.2.2.2>>=fun r4=>
 if r4.2.1 != 0 then
 none
 else
 if r4.1.k != 2 then
 some (0,6,r4.2.2.1,r4.2.2.2)
 else
 some (r4.1.n,0,r4.2.2.1,r4.2.2.2)
def e61:Nat->Mach->Int->Int->(List Tm)->(List Int)->(List Tm)->(List Ent)->Tm->Option (Tm×Int×Int×Int)
 |0,_,_,_,_,_,_,_,_=>none
 |qq+1,M,fl,fu,q0_World_Context,q0_World_Names,q0_World_Types,q0_l,p1=>
 if p1.k==1 then
 e93 qq M fl fu q0_World_Context q0_World_Names q0_World_Types q0_l p1.n>>=fun r2=>
 some (r2.1,r2.2,fl,fu)
 else
 if p1.k==8 then
 none
 else
 if p1.k==6 then
 gidx q0_l p1.n>>=fun x8=>
 some (x8.type,0,fl,fu)
 else
 if p1.k==7 then
 none
 else
 if p1.k==2 then
 if decide (p1.n≥7)then
 none
 else
 e96 qq (w64 (p1.n+1))>>=fun r17=>
 some (r17,0,fl,fu)
 else
 if p1.k==3 then
 e97 qq M fl fu q0_World_Context q0_World_Names q0_World_Types q0_l p1>>=fun r20=>
 some (r20.1,r20.2.1,r20.2.2.1,r20.2.2.2)
 else
 if p1.k==4 then
 none
 else
 e99 qq M fl fu q0_World_Context q0_World_Names q0_World_Types q0_l p1>>=fun r25=>
 some (r25.1,r25.2.1,r25.2.2.1,r25.2.2.2)
def e97:Nat->Mach->Int->Int->(List Tm)->(List Int)->(List Tm)->(List Ent)->Tm->Option (Tm×Int×Int×Int)
 |0,_,_,_,_,_,_,_,_=>none
 |qq+1,M,fl,fu,q0_World_Context,q0_World_Names,q0_World_Types,q0_l,p1=>
 gidx p1.sub 0>>=fun x1=>
 e39 qq M fl fu q0_World_Context q0_World_Names q0_World_Types q0_l x1>>=fun r3=>
 if r3.2.1 != 0 then
 some ((Tm.mk 0 0 []),r3.2.1,r3.2.2.1,r3.2.2.2)
 else
 e40 qq M r3.2.2.1 r3.2.2.2 q0_World_Context q0_World_Names q0_World_Types q0_l x1>>=fun r6=>
 gidx p1.sub 1>>=fun x8=>
 e39 qq M r3.2.2.1 r3.2.2.2 r6.1 r6.2.1 r6.2.2.1 r6.2.2.2 x8>>=fun r10=>
 if r10.2.1 != 0 then
 none
 else
 e96 qq (imax r3.1 r10.1)>>=fun r13=>
 some (r13,0,r10.2.2.1,r10.2.2.2)
def e99:Nat->Mach->Int->Int->(List Tm)->(List Int)->(List Tm)->(List Ent)->Tm->Option (Tm×Int×Int×Int)
 |0,_,_,_,_,_,_,_,_=>none
 |qq+1,M,fl,fu,q0_World_Context,q0_World_Names,q0_World_Types,q0_l,p1=>
 e151 qq fl fu>>=fun r1=>
 if r1.1 != 0 then
 none
 else
 gidx p1.sub 0>>=fun x4=>
 e61 qq M r1.2.1 r1.2.2 q0_World_Context q0_World_Names q0_World_Types q0_l x4>>=fun r6=>
 if r6.2.1 != 0 then
 none
 else
 e62 qq M r6.1 r6.2.2.1 r6.2.2.2>>=fun r9=>
 if r9.2.1 != 0 then
 none
 else
 if r9.1.k != 3 then
 none
 else
 gidx p1.sub 1>>=fun x13=>
 gidx r9.1.sub 0>>=fun x15=>
 e152 qq M r9.2.2.1 r9.2.2.2 q0_World_Context q0_World_Names q0_World_Types q0_l x13 x15>>=fun r17=>
 if r17.1 != 0 then
 none
 else
 gidx r9.1.sub 1>>=fun x20=>
 e153 qq x20 x13>>=fun r22=>
 some (r22.1,r22.2,r17.2.1,r17.2.2)
def e152:Nat->Mach->Int->Int->(List Tm)->(List Int)->(List Tm)->(List Ent)->Tm->Tm->Option (Int×Int×Int)
 |0,_,_,_,_,_,_,_,_,_=>none
 |qq+1,M,fl,fu,q0_World_Context,q0_World_Names,q0_World_Types,q0_l,p1,p2=>
 if p1.k==4 then
 none
 else
 e61 qq M fl fu q0_World_Context q0_World_Names q0_World_Types q0_l p1>>=fun r16=>
 if r16.2.1 != 0 then
 none
 else
 e190 qq M r16.1 p2 r16.2.2.1 r16.2.2.2>>=fun r19=>
 if r19.1 then
 if r19.2.1==0 then
 some (r19.2.1,r19.2.2.1,r19.2.2.2)
 else
 none
 else
 none
end
abbrev K39 (M:Mach) (fl fu:Int) (q0_World_Context:List Tm) (q0_World_Names:List Int) (q0_World_Types:List Tm) (q0_l:List Ent) (p1:Tm) (r:Int×Int×Int×Int) (C:Cf):Prop:=C 39 [.cells [.mp 1 0,.mp 3 0,slv tmCells q0_World_Context .no,slv intC q0_World_Names .no,slv tmCells q0_World_Types .no,slv entL q0_l .no],mB M 2,mR M,.cells [ai fl,ai fu]] [.mp 0 0,tmA p1] (.tup [ai r.1,ai r.2.1]) [.cells [.mp 1 0,.mp 3 0,slv tmCells q0_World_Context .no,slv intC q0_World_Names .no,slv tmCells q0_World_Types .no,slv entL q0_l .no],mB M 2,mR M,.cells [ai r.2.2.1,ai r.2.2.2]] 0
abbrev K61 (M:Mach) (fl fu:Int) (q0_World_Context:List Tm) (q0_World_Names:List Int) (q0_World_Types:List Tm) (q0_l:List Ent) (p1:Tm) (r:Tm×Int×Int×Int) (C:Cf):Prop:=C 61 [.cells [.mp 1 0,.mp 3 0,slv tmCells q0_World_Context .no,slv intC q0_World_Names .no,slv tmCells q0_World_Types .no,slv entL q0_l .no],mB M 2,mR M,.cells [ai fl,ai fu]] [.mp 0 0,tmA p1] (.tup [tmA r.1,ai r.2.1]) [.cells [.mp 1 0,.mp 3 0,slv tmCells q0_World_Context .no,slv intC q0_World_Names .no,slv tmCells q0_World_Types .no,slv entL q0_l .no],mB M 2,mR M,.cells [ai r.2.2.1,ai r.2.2.2]] 0
abbrev K97 (M:Mach) (fl fu:Int) (q0_World_Context:List Tm) (q0_World_Names:List Int) (q0_World_Types:List Tm) (q0_l:List Ent) (p1:Tm) (r:Tm×Int×Int×Int) (C:Cf):Prop:=C 97 [.cells [.mp 1 0,.mp 3 0,slv tmCells q0_World_Context .no,slv intC q0_World_Names .no,slv tmCells q0_World_Types .no,slv entL q0_l .no],mB M 2,mR M,.cells [ai fl,ai fu]] [.mp 0 0,tmA p1] (.tup [tmA r.1,ai r.2.1]) [.cells [.mp 1 0,.mp 3 0,slv tmCells q0_World_Context .no,slv intC q0_World_Names .no,slv tmCells q0_World_Types .no,slv entL q0_l .no],mB M 2,mR M,.cells [ai r.2.2.1,ai r.2.2.2]] 0
abbrev K99 (M:Mach) (fl fu:Int) (q0_World_Context:List Tm) (q0_World_Names:List Int) (q0_World_Types:List Tm) (q0_l:List Ent) (p1:Tm) (r:Tm×Int×Int×Int) (C:Cf):Prop:=C 99 [.cells [.mp 1 0,.mp 3 0,slv tmCells q0_World_Context .no,slv intC q0_World_Names .no,slv tmCells q0_World_Types .no,slv entL q0_l .no],mB M 2,mR M,.cells [ai fl,ai fu]] [.mp 0 0,tmA p1] (.tup [tmA r.1,ai r.2.1]) [.cells [.mp 1 0,.mp 3 0,slv tmCells q0_World_Context .no,slv intC q0_World_Names .no,slv tmCells q0_World_Types .no,slv entL q0_l .no],mB M 2,mR M,.cells [ai r.2.2.1,ai r.2.2.2]] 0
abbrev K152 (M:Mach) (fl fu:Int) (q0_World_Context:List Tm) (q0_World_Names:List Int) (q0_World_Types:List Tm) (q0_l:List Ent) (p1 p2:Tm) (r:Int×Int×Int) (C:Cf):Prop:=C 152 [.cells [.mp 1 0,.mp 3 0,slv tmCells q0_World_Context .no,slv intC q0_World_Names .no,slv tmCells q0_World_Types .no,slv entL q0_l .no],mB M 2,mR M,.cells [ai fl,ai fu]] [.mp 0 0,tmA p1,tmA p2] (ai r.1) [.cells [.mp 1 0,.mp 3 0,slv tmCells q0_World_Context .no,slv intC q0_World_Names .no,slv tmCells q0_World_Types .no,slv entL q0_l .no],mB M 2,mR M,.cells [ai r.2.1,ai r.2.2]] 0
theorem q39:Qf 39 Tryz.f39:=⟨Tryz.func39,by kernel_rfl⟩
theorem k39{M fl fu q0_World_Context q0_World_Names q0_World_Types q0_l p1 r}(h:K39 M fl fu q0_World_Context q0_World_Names q0_World_Types q0_l p1 r Ci):K39 M fl fu q0_World_Context q0_World_Names q0_World_Types q0_l p1 r Ct:=⟨h,⟨(lz rfl),⟨tv,tv,⟨tv,dT _⟩,tv⟩,tv⟩,(forall_cons ⟨(lz rfl),(lz rfl),⟨tv,dT _⟩,⟨tv,dI _⟩,⟨tv,dT _⟩,⟨tv,dE _⟩,tv⟩ (forall_cons ⟨⟨tv,dE _⟩,(lz rfl),⟨tv,dI _⟩,⟨tv,dI _⟩,tv⟩ (forall_cons ⟨⟨tv,dE _⟩,⟨tv,dC _⟩,tv⟩ (forall_cons ⟨tv,tv,tv⟩ forall_nil)))),⟨tv,tv,tv⟩,(forall_cons ⟨(lz rfl),(lz rfl),dT _,dI _,dT _,dE _,tv⟩ (forall_cons ⟨dE _,(lz rfl),dI _,dI _,tv⟩ (forall_cons ⟨dE _,dC _,tv⟩ (forall_cons ⟨tv,tv,tv⟩ forall_nil))))⟩
theorem q61:Qf 61 Tryz.f61:=⟨Tryz.func61,by kernel_rfl⟩
theorem k61{M fl fu q0_World_Context q0_World_Names q0_World_Types q0_l p1 r}(h:K61 M fl fu q0_World_Context q0_World_Names q0_World_Types q0_l p1 r Ci):K61 M fl fu q0_World_Context q0_World_Names q0_World_Types q0_l p1 r Ct:=⟨h,⟨(lz rfl),⟨tv,tv,⟨tv,dT _⟩,tv⟩,tv⟩,(forall_cons ⟨(lz rfl),(lz rfl),⟨tv,dT _⟩,⟨tv,dI _⟩,⟨tv,dT _⟩,⟨tv,dE _⟩,tv⟩ (forall_cons ⟨⟨tv,dE _⟩,(lz rfl),⟨tv,dI _⟩,⟨tv,dI _⟩,tv⟩ (forall_cons ⟨⟨tv,dE _⟩,⟨tv,dC _⟩,tv⟩ (forall_cons ⟨tv,tv,tv⟩ forall_nil)))),⟨⟨tv,tv,dT _,tv⟩,tv,tv⟩,(forall_cons ⟨(lz rfl),(lz rfl),dT _,dI _,dT _,dE _,tv⟩ (forall_cons ⟨dE _,(lz rfl),dI _,dI _,tv⟩ (forall_cons ⟨dE _,dC _,tv⟩ (forall_cons ⟨tv,tv,tv⟩ forall_nil))))⟩
theorem q97:Qf 97 Tryz.f97:=⟨Tryz.func97,by kernel_rfl⟩
theorem k97{M fl fu q0_World_Context q0_World_Names q0_World_Types q0_l p1 r}(h:K97 M fl fu q0_World_Context q0_World_Names q0_World_Types q0_l p1 r Ci):K97 M fl fu q0_World_Context q0_World_Names q0_World_Types q0_l p1 r Ct:=⟨h,⟨(lz rfl),⟨tv,tv,⟨tv,dT _⟩,tv⟩,tv⟩,(forall_cons ⟨(lz rfl),(lz rfl),⟨tv,dT _⟩,⟨tv,dI _⟩,⟨tv,dT _⟩,⟨tv,dE _⟩,tv⟩ (forall_cons ⟨⟨tv,dE _⟩,(lz rfl),⟨tv,dI _⟩,⟨tv,dI _⟩,tv⟩ (forall_cons ⟨⟨tv,dE _⟩,⟨tv,dC _⟩,tv⟩ (forall_cons ⟨tv,tv,tv⟩ forall_nil)))),⟨⟨tv,tv,dT _,tv⟩,tv,tv⟩,(forall_cons ⟨(lz rfl),(lz rfl),dT _,dI _,dT _,dE _,tv⟩ (forall_cons ⟨dE _,(lz rfl),dI _,dI _,tv⟩ (forall_cons ⟨dE _,dC _,tv⟩ (forall_cons ⟨tv,tv,tv⟩ forall_nil))))⟩
theorem q99:Qf 99 Tryz.f99:=⟨Tryz.func99,by kernel_rfl⟩
theorem k99{M fl fu q0_World_Context q0_World_Names q0_World_Types q0_l p1 r}(h:K99 M fl fu q0_World_Context q0_World_Names q0_World_Types q0_l p1 r Ci):K99 M fl fu q0_World_Context q0_World_Names q0_World_Types q0_l p1 r Ct:=⟨h,⟨(lz rfl),⟨tv,tv,⟨tv,dT _⟩,tv⟩,tv⟩,(forall_cons ⟨(lz rfl),(lz rfl),⟨tv,dT _⟩,⟨tv,dI _⟩,⟨tv,dT _⟩,⟨tv,dE _⟩,tv⟩ (forall_cons ⟨⟨tv,dE _⟩,(lz rfl),⟨tv,dI _⟩,⟨tv,dI _⟩,tv⟩ (forall_cons ⟨⟨tv,dE _⟩,⟨tv,dC _⟩,tv⟩ (forall_cons ⟨tv,tv,tv⟩ forall_nil)))),⟨⟨tv,tv,dT _,tv⟩,tv,tv⟩,(forall_cons ⟨(lz rfl),(lz rfl),dT _,dI _,dT _,dE _,tv⟩ (forall_cons ⟨dE _,(lz rfl),dI _,dI _,tv⟩ (forall_cons ⟨dE _,dC _,tv⟩ (forall_cons ⟨tv,tv,tv⟩ forall_nil))))⟩
theorem q152:Qf 152 Tryz.f152:=⟨Tryz.func152,by kernel_rfl⟩
theorem k152{M fl fu q0_World_Context q0_World_Names q0_World_Types q0_l p1 p2 r}(h:K152 M fl fu q0_World_Context q0_World_Names q0_World_Types q0_l p1 p2 r Ci):K152 M fl fu q0_World_Context q0_World_Names q0_World_Types q0_l p1 p2 r Ct:=⟨h,⟨(lz rfl),⟨tv,tv,⟨tv,dT _⟩,tv⟩,⟨tv,tv,⟨tv,dT _⟩,tv⟩,tv⟩,(forall_cons ⟨(lz rfl),(lz rfl),⟨tv,dT _⟩,⟨tv,dI _⟩,⟨tv,dT _⟩,⟨tv,dE _⟩,tv⟩ (forall_cons ⟨⟨tv,dE _⟩,(lz rfl),⟨tv,dI _⟩,⟨tv,dI _⟩,tv⟩ (forall_cons ⟨⟨tv,dE _⟩,⟨tv,dC _⟩,tv⟩ (forall_cons ⟨tv,tv,tv⟩ forall_nil)))),tv,(forall_cons ⟨(lz rfl),(lz rfl),dT _,dI _,dT _,dE _,tv⟩ (forall_cons ⟨dE _,(lz rfl),dI _,dI _,tv⟩ (forall_cons ⟨dE _,dC _,tv⟩ (forall_cons ⟨tv,tv,tv⟩ forall_nil))))⟩
theorem a39_61_97_99_152:∀qq:Nat,(∀M fl fu q0_World_Context q0_World_Names q0_World_Types q0_l p1 r,e39 qq M fl fu q0_World_Context q0_World_Names q0_World_Types q0_l p1=some r->K39 M fl fu q0_World_Context q0_World_Names q0_World_Types q0_l p1 r Ct)∧(∀M fl fu q0_World_Context q0_World_Names q0_World_Types q0_l p1 r,e61 qq M fl fu q0_World_Context q0_World_Names q0_World_Types q0_l p1=some r->K61 M fl fu q0_World_Context q0_World_Names q0_World_Types q0_l p1 r Ct)∧(∀M fl fu q0_World_Context q0_World_Names q0_World_Types q0_l p1 r,e97 qq M fl fu q0_World_Context q0_World_Names q0_World_Types q0_l p1=some r->K97 M fl fu q0_World_Context q0_World_Names q0_World_Types q0_l p1 r Ct)∧(∀M fl fu q0_World_Context q0_World_Names q0_World_Types q0_l p1 r,e99 qq M fl fu q0_World_Context q0_World_Names q0_World_Types q0_l p1=some r->K99 M fl fu q0_World_Context q0_World_Names q0_World_Types q0_l p1 r Ct)∧(∀M fl fu q0_World_Context q0_World_Names q0_World_Types q0_l p1 p2 r,e152 qq M fl fu q0_World_Context q0_World_Names q0_World_Types q0_l p1 p2=some r->K152 M fl fu q0_World_Context q0_World_Names q0_World_Types q0_l p1 p2 r Ct):=by
 intro qq
 induction qq with
 |zero=>
  exact⟨fun _ _ _ _ _ _ _ _ _ h=>nn h,fun _ _ _ _ _ _ _ _ _ h=>nn h,fun _ _ _ _ _ _ _ _ _ h=>nn h,fun _ _ _ _ _ _ _ _ _ h=>nn h,fun _ _ _ _ _ _ _ _ _ _ h=>nn h⟩
 |succ qq ih=>
  obtain⟨ih39,ih61,ih97,ih99,ih152⟩:=ih
  refine⟨?_,?_,?_,?_,?_⟩
  intro M fl fu q0_World_Context q0_World_Names q0_World_Types q0_l p1 r h
  rw[e39]at h
  obtain⟨r1,h2,h⟩:=obind h
  have k:=oC 1 [0,1,2,3] (ih61 _ _ _ _ _ _ _ _ _ h2) o0
  rcases spl h with⟨h3,h⟩|⟨h3,h⟩
  obtain rfl:=sj h
  exact k39 (tF q39 0 [0,1,2,3] (oD (dC M.parts)<|oD (dE M.rl)<|oD (dI M.own)<|oD (dI M.args)<|oD (dE M.l)<|oD (dE q0_l)<|oD (dT q0_World_Types)<|oD (dI q0_World_Names)<|oD (dT q0_World_Context)<|oB 3 h3 k))
  obtain⟨r4,h5,h⟩:=obind h
  have k:=oC 3 [1,2,3] (c62 h5)<|oB 3 h3 k
  obtain⟨h6,h⟩:=splF h
  have k:=oB 3 h6 k
  rcases spl h with⟨h7,h⟩|⟨h7,h⟩
  obtain rfl:=sj h
  exact k39 (tF q39 0 [0,1,2,3] (oD (dC M.parts)<|oD (dE M.rl)<|oD (dI M.own)<|oD (dI M.args)<|oD (dE M.l)<|oD (dE q0_l)<|oD (dT q0_World_Types)<|oD (dI q0_World_Names)<|oD (dT q0_World_Context)<|oB 1 h7 k))
  obtain rfl:=sj h
  exact k39 (tF q39 1 [0,1,2,3] (oD (dC M.parts)<|oD (dE M.rl)<|oD (dI M.own)<|oD (dI M.args)<|oD (dE M.l)<|oD (dE q0_l)<|oD (dT q0_World_Types)<|oD (dI q0_World_Names)<|oD (dT q0_World_Context)<|oB 1 h7 k))
  intro M fl fu q0_World_Context q0_World_Names q0_World_Types q0_l p1 r h
  rw[e61]at h
  rcases spl h with⟨h1,h⟩|⟨h1,h⟩
  obtain⟨r2,h3,h⟩:=obind h
  obtain rfl:=sj h
  exact k61 (tF q61 3 [0,1,2,3] (oD (dT r2.1.sub)<|oD (dC M.parts)<|oD (dE M.rl)<|oD (dI M.own)<|oD (dI M.args)<|oD (dE M.l)<|oD (dE q0_l)<|oD (dT q0_World_Types)<|oD (dI q0_World_Names)<|oD (dT q0_World_Context)<|oC 1 [0,1,2,3] (c93 h3)<|oB 1 h1 o0))
  have k:=oB 1 h1 o0
  obtain⟨h4,h⟩:=splF h
  have k:=oB 0 h4 k
  rcases spl h with⟨h7,h⟩|⟨h7,h⟩
  obtain⟨x8,h9,h⟩:=obind h
  obtain rfl:=sj h
  exact k61 (tF q61 2 [0,1,2,3] (oD (dT x8.type.sub)<|oD (dC M.parts)<|oD (dE M.rl)<|oD (dI M.own)<|oD (dI M.args)<|oD (dE M.l)<|oD (dE q0_l)<|oD (dT q0_World_Types)<|oD (dI q0_World_Names)<|oD (dT q0_World_Context)<|oA 2 (ix22 (o:=.no) h9)<|oB 0 h7 k))
  have k:=oB 0 h7 k
  obtain⟨h10,h⟩:=splF h
  have k:=oB 0 h10 k
  rcases spl h with⟨h15,h⟩|⟨h15,h⟩
  have k:=oB 0 h15 k
  obtain⟨h16,h⟩:=splF h
  obtain⟨r17,h18,h⟩:=obind h
  obtain rfl:=sj h
  exact k61 (tF q61 1 [0,1,2,3] (oD (dT r17.sub)<|oD (dC M.parts)<|oD (dE M.rl)<|oD (dI M.own)<|oD (dI M.args)<|oD (dE M.l)<|oD (dE q0_l)<|oD (dT q0_World_Types)<|oD (dI q0_World_Names)<|oD (dT q0_World_Context)<|oC 2 [] (c96 h18)<|oB 1 h16 k))
  have k:=oB 0 h15 k
  rcases spl h with⟨h19,h⟩|⟨h19,h⟩
  obtain⟨r20,h21,h⟩:=obind h
  obtain rfl:=sj h
  exact k61 (tF q61 3 [0,1,2,3] (oD (dT r20.1.sub)<|oD (dC M.parts)<|oD (dE M.rl)<|oD (dI M.own)<|oD (dI M.args)<|oD (dE M.l)<|oD (dE q0_l)<|oD (dT q0_World_Types)<|oD (dI q0_World_Names)<|oD (dT q0_World_Context)<|oC 1 [0,1,2,3] (ih97 _ _ _ _ _ _ _ _ _ h21)<|oB 0 h19 k))
  have k:=oB 0 h19 k
  obtain⟨h22,h⟩:=splF h
  obtain⟨r25,h26,h⟩:=obind h
  obtain rfl:=sj h
  exact k61 (tF q61 3 [0,1,2,3] (oD (dT r25.1.sub)<|oD (dC M.parts)<|oD (dE M.rl)<|oD (dI M.own)<|oD (dI M.args)<|oD (dE M.l)<|oD (dE q0_l)<|oD (dT q0_World_Types)<|oD (dI q0_World_Names)<|oD (dT q0_World_Context)<|oC 1 [0,1,2,3] (ih99 _ _ _ _ _ _ _ _ _ h26)<|oB 0 h22 k))
  intro M fl fu q0_World_Context q0_World_Names q0_World_Types q0_l p1 r h
  rw[e97]at h
  obtain⟨x1,h2,h⟩:=obind h
  obtain⟨r3,h4,h⟩:=obind h
  have k:=oC 1 [0,1,2,3] (ih39 _ _ _ _ _ _ _ _ _ h4)<|oA 1 (ix29 (o:=.no) h2) o0
  rcases spl h with⟨h5,h⟩|⟨h5,h⟩
  obtain rfl:=sj h
  exact k97 (tF q97 1 [0,1,2,3] (oD (dT ([]:List Tm))<|oD (dC M.parts)<|oD (dE M.rl)<|oD (dI M.own)<|oD (dI M.args)<|oD (dE M.l)<|oD (dE q0_l)<|oD (dT q0_World_Types)<|oD (dI q0_World_Names)<|oD (dT q0_World_Context)<|oB 2 h5 k))
  obtain⟨r6,h7,h⟩:=obind h
  obtain⟨x8,h9,h⟩:=obind h
  obtain⟨r10,h11,h⟩:=obind h
  have k:=oC 1 [6,1,2,3] (ih39 _ _ _ _ _ _ _ _ _ h11)<|oA 0 (ix29 (o:=.no) h9)<|oCl 0<|oC 1 [0,1,2,3] (c40 h7)<|oA 1 (ix29 (o:=.no) h2)<|oB 2 h5 k
  obtain⟨h12,h⟩:=splF h
  obtain⟨r13,h14,h⟩:=obind h
  obtain rfl:=sj h
  exact k97 (tF q97 1 [0,1,2,3] (oD (dT r13.sub)<|oD (dC M.parts)<|oD (dE M.rl)<|oD (dI M.own)<|oD (dI M.args)<|oD (dE M.l)<|oD (dE q0_l)<|oD (dT q0_World_Types)<|oD (dI q0_World_Names)<|oD (dT q0_World_Context)<|oC 1 [] (c96 h14)<|oB 2 h12 k))
  intro M fl fu q0_World_Context q0_World_Names q0_World_Types q0_l p1 r h
  rw[e99]at h
  obtain⟨r1,h2,h⟩:=obind h
  have k:=oC 1 [3] (c151 h2) o0
  obtain⟨h3,h⟩:=splF h
  obtain⟨x4,h5,h⟩:=obind h
  obtain⟨r6,h7,h⟩:=obind h
  have k:=oC 1 [0,1,2,3] (ih61 _ _ _ _ _ _ _ _ _ h7)<|oA 1 (ix29 (o:=.no) h5)<|oB 0 h3 k
  obtain⟨h8,h⟩:=splF h
  obtain⟨r9,h10,h⟩:=obind h
  have k:=oC 3 [1,2,3] (c62 h10)<|oB 3 h8 k
  obtain⟨h11,h⟩:=splF h
  have k:=oB 3 h11 k
  obtain⟨h12,h⟩:=splF h
  obtain⟨x13,h14,h⟩:=obind h
  obtain⟨x15,h16,h⟩:=obind h
  obtain⟨r17,h18,h⟩:=obind h
  have k:=oC 1 [0,1,2,3] (ih152 _ _ _ _ _ _ _ _ _ _ h18)<|oA 2 (ix29 (o:=.no) h16)<|oA 1 (ix29 (o:=.no) h14)<|oB 1 h12 k
  obtain⟨h19,h⟩:=splF h
  obtain⟨x20,h21,h⟩:=obind h
  obtain⟨r22,h23,h⟩:=obind h
  obtain rfl:=sj h
  exact k99 (tF q99 3 [0,1,2,3] (oD (dT r22.1.sub)<|oD (dC M.parts)<|oD (dE M.rl)<|oD (dI M.own)<|oD (dI M.args)<|oD (dE M.l)<|oD (dE q0_l)<|oD (dT q0_World_Types)<|oD (dI q0_World_Names)<|oD (dT q0_World_Context)<|oC 1 [] (c153 h23)<|oA 2 (ix29 (o:=.no) h14)<|oA 1 (ix29 (o:=.no) h21)<|oB 0 h19 k))
  intro M fl fu q0_World_Context q0_World_Names q0_World_Types q0_l p1 p2 r h
  rw[e152]at h
  obtain⟨h1,h⟩:=splF h
  obtain⟨r16,h17,h⟩:=obind h
  have k:=oC 1 [0,1,2,3] (ih61 _ _ _ _ _ _ _ _ _ h17)<|oB 1 h1 o0
  obtain⟨h18,h⟩:=splF h
  obtain⟨r19,h20,h⟩:=obind h
  have k:=oC 4 [1,2,3] (c190 h20)<|oB 3 h18 k
  obtain⟨h21,h⟩:=spT h
  have k:=oB 0 h21 k
  obtain⟨h22,h⟩:=spT h
  obtain rfl:=sj h
  exact k152 (tF q152 1 [0,1,2,3] (oD (dC M.parts)<|oD (dE M.rl)<|oD (dI M.own)<|oD (dI M.args)<|oD (dE M.l)<|oD (dE q0_l)<|oD (dT q0_World_Types)<|oD (dI q0_World_Names)<|oD (dT q0_World_Context)<|oB 1 h22 k))
theorem c39{qq M fl fu q0_World_Context q0_World_Names q0_World_Types q0_l p1 r}(h:e39 qq M fl fu q0_World_Context q0_World_Names q0_World_Types q0_l p1=some r):K39 M fl fu q0_World_Context q0_World_Names q0_World_Types q0_l p1 r Ct:=(a39_61_97_99_152 _).1 _ _ _ _ _ _ _ _ _ h
def e43(qq:Nat)(M:Mach)(fl fu:Int)(p0_Context:List Tm)(p0_Names:List Int)(p0_Types:List Tm)(p1:Tm):Option (Int×Int×Int×Int):=
 e38 qq M fl fu p0_Context p0_Names p0_Types [p1]>>=fun r1=>
 if r1.1 != 0 then
 none
 else
 e39 qq M fl fu r1.2.1 r1.2.2.1 r1.2.2.2.1 r1.2.2.2.2 p1>>=fun r4=>
 some (r4.1,r4.2.1,r4.2.2.1,r4.2.2.2)
abbrev K43 (M:Mach) (fl fu:Int) (p0_Context:List Tm) (p0_Names:List Int) (p0_Types:List Tm) (p1:Tm) (r:Int×Int×Int×Int) (C:Cf):Prop:=C 43 [mB M 1,mR M,.cells [ai fl,ai fu]] [.agg [.mp 0 0,.mp 2 0,slv tmCells p0_Context .no,slv intC p0_Names .no,slv tmCells p0_Types .no],tmA p1] (.tup [ai r.1,ai r.2.1]) [mB M 1,mR M,.cells [ai r.2.2.1,ai r.2.2.2]] 0
theorem q43:Qf 43 Tryz.f43:=⟨Tryz.func43,by kernel_rfl⟩
theorem k43{M fl fu p0_Context p0_Names p0_Types p1 r}(h:K43 M fl fu p0_Context p0_Names p0_Types p1 r Ci):K43 M fl fu p0_Context p0_Names p0_Types p1 r Ct:=⟨h,⟨⟨(lz rfl),(lz rfl),⟨tv,dT _⟩,⟨tv,dI _⟩,⟨tv,dT _⟩,tv⟩,⟨tv,tv,⟨tv,dT _⟩,tv⟩,tv⟩,(forall_cons ⟨⟨tv,dE _⟩,(lz rfl),⟨tv,dI _⟩,⟨tv,dI _⟩,tv⟩ (forall_cons ⟨⟨tv,dE _⟩,⟨tv,dC _⟩,tv⟩ (forall_cons ⟨tv,tv,tv⟩ forall_nil))),⟨tv,tv,tv⟩,(forall_cons ⟨dE _,(lz rfl),dI _,dI _,tv⟩ (forall_cons ⟨dE _,dC _,tv⟩ (forall_cons ⟨tv,tv,tv⟩ forall_nil)))⟩
theorem c43{qq M fl fu p0_Context p0_Names p0_Types p1 r}(h:e43 qq M fl fu p0_Context p0_Names p0_Types p1=some r):K43 M fl fu p0_Context p0_Names p0_Types p1 r Ct:=by
 unfold e43 at h
 obtain⟨r1,h2,h⟩:=obind h
 have k:=oC 0 [0,1,2] (c38 h2)<|oS 2 (obLitR tm_eq [p1]) o0
 obtain⟨h3,h⟩:=splF h
 obtain⟨r4,h5,h⟩:=obind h
 obtain rfl:=sj h
 exact k43 (tF q43 2 [0,1,2] (oD (dC M.parts)<|oD (dE M.rl)<|oD (dI M.own)<|oD (dI M.args)<|oD (dE M.l)<|oC 1 [5,0,1,2] (c39 h5)<|oB 2 h3 k))
def e75(qq:Nat)(q0_l:List Ent)(q0_d:TreeDecl)(fl fu:Int)(q0_pars:List Tm)(q0_own:List ByteArray)(q0_e q0_at:Int):Option (List EntZ×Int×Int×Int×Int):=
 e120 qq q0_l q0_own q0_d.type_>>=fun r1=>
 if r1.2.2==2 then
 none
 else
 e37 qq q0_l q0_d fl fu q0_pars q0_own q0_e q0_at r1.2.2 r1.2.1>>=fun r35=>
 if r35.1 then
 none
 else
 e21 qq q0_l q0_d fl fu q0_pars q0_own r35.2.1 r35.2.2 q0_pars>>=fun r38=>
 e43 qq (Mach.mk r38.2.2.2.2.2.1 r38.2.2.2.2.2.2.2.2.1 r38.2.2.2.2.2.2.2.2.2 r38.2.2.2.2.2.2.1 r38.2.2.2.2.2.2.2.1) fl fu r38.1 r38.2.1 r38.2.2.1 r1.1>>=fun r40=>
 e37 qq q0_l q0_d r40.2.2.1 r40.2.2.2 q0_pars q0_own r38.2.2.2.1 r38.2.2.2.2.1 r40.2.1 q0_d.type_.at_>>=fun r42=>
 if r42.1 then
 none
 else
 e44 qq r1.1>>=fun r45=>
 if r45.2.2 != 0 then
 none
 else
 if r45.2.1.k != 2 then
 none
 else
 if decide ((List.length r45.1:Int)>(w64 (24-(List.length q0_pars:Int))))then
 none
 else
 e121 qq q0_pars r1.1>>=fun r56=>
 e37 qq q0_l q0_d r40.2.2.1 r40.2.2.2 q0_pars q0_own r42.2.1 r42.2.2 r56.2 q0_d.at_>>=fun r58=>
 if r58.1 then
 none
 else
 e122 qq q0_l [(Ent.mk 1 q0_d.name_ r56.1 (Tm.mk 0 0 []) 0 0 (List.length q0_pars:Int) (List.length r45.1:Int) r45.2.1.n [] [])]>>=fun r61=>
 e37 qq q0_l q0_d r40.2.2.1 r40.2.2.2 q0_pars q0_own r58.2.1 r58.2.2 r61.2 q0_d.at_>>=fun r63=>
 if r63.1 then
 none
 else
 some (r61.1,r63.2.1,r63.2.2,r40.2.2.1,r40.2.2.2)
abbrev K75 (q0_l:List Ent) (q0_d:TreeDecl) (fl fu:Int) (q0_pars:List Tm) (q0_own:List ByteArray) (q0_e q0_at:Int) (r:List EntZ×Int×Int×Int×Int) (C:Cf):Prop:=C 75 [.cells [slv entL q0_l .no,ai q0_d.kind_,ai q0_d.at_,at' q0_d.name_,slv treeBindL q0_d.tele_ .no,ai q0_d.type_.kind_,ai q0_d.type_.at_,at' q0_d.type_.name_,ai q0_d.type_.n_,slv treeNodeC q0_d.type_.sub_ .no,slv treeBindL q0_d.cons_ .no,slv treeRowL q0_d.rows_ .no,.mp 1 0,slv tmCells q0_pars .no,slv strC q0_own .no,ai q0_e,ai q0_at],.cells [ai fl,ai fu]] [.mp 0 0] (.tup []) [.cells [slv entZ r.1 .no,ai q0_d.kind_,ai q0_d.at_,at' q0_d.name_,slv treeBindL q0_d.tele_ .no,ai q0_d.type_.kind_,ai q0_d.type_.at_,at' q0_d.type_.name_,ai q0_d.type_.n_,slv treeNodeC q0_d.type_.sub_ .no,slv treeBindL q0_d.cons_ .no,slv treeRowL q0_d.rows_ .no,.mp 1 0,slv tmCells q0_pars .no,slv strC q0_own .no,ai r.2.1,ai r.2.2.1],.cells [ai r.2.2.2.1,ai r.2.2.2.2]] 0
theorem q75:Qf 75 Tryz.f75:=⟨Tryz.func75,by kernel_rfl⟩
theorem k75{q0_l q0_d fl fu q0_pars q0_own q0_e q0_at r}(h:K75 q0_l q0_d fl fu q0_pars q0_own q0_e q0_at r Ci):K75 q0_l q0_d fl fu q0_pars q0_own q0_e q0_at r Ct:=⟨h,⟨(lz rfl),tv⟩,(forall_cons ⟨⟨tv,dE _⟩,tv,tv,tv,⟨tv,dTreeBind _⟩,tv,tv,tv,tv,⟨tv,dTreeNode _⟩,⟨tv,dTreeBind _⟩,⟨tv,dTreeRow _⟩,(lz rfl),⟨tv,dT _⟩,⟨tv,dS _⟩,tv,tv,tv⟩ (forall_cons ⟨tv,tv,tv⟩ forall_nil)),tv,(forall_cons ⟨dEZ _,tv,tv,tv,dTreeBind _,tv,tv,tv,tv,dTreeNode _,dTreeBind _,dTreeRow _,(lz rfl),dT _,dS _,tv,tv,tv⟩ (forall_cons ⟨tv,tv,tv⟩ forall_nil))⟩
theorem c75{qq q0_l q0_d fl fu q0_pars q0_own q0_e q0_at r}(h:e75 qq q0_l q0_d fl fu q0_pars q0_own q0_e q0_at=some r):K75 q0_l q0_d fl fu q0_pars q0_own q0_e q0_at r Ct:=by
 unfold e75 at h
 obtain⟨r1,h2,h⟩:=obind h
 have k:=oC 3 [] (c120 h2) o0
 obtain⟨h3,h⟩:=splF h
 obtain⟨r35,h36,h⟩:=obind h
 have k:=oB 4 h3 k
 obtain⟨h37,h⟩:=splF h
 obtain⟨r38,h39,h⟩:=obind h
 obtain⟨r40,h41,h⟩:=obind h
 obtain⟨r42,h43,h⟩:=obind h
 have k:=oC 1 [3,4,1] (c43 h41)<|oC 1 [0,1] (c21 h39)<|oK 0 [0,1] h37 (c37 h36) k
 obtain⟨h44,h⟩:=splF h
 obtain⟨r45,h46,h⟩:=obind h
 have k:=oC 1 [] (c44 h46)<|oK 3 [0,1] h44 (c37 h43) k
 obtain⟨h47,h⟩:=splF h
 have k:=oB 4 h47 k
 obtain⟨h50,h⟩:=splF h
 have k:=oB 1 h50 k
 obtain⟨h53,h⟩:=splF h
 obtain⟨r56,h57,h⟩:=obind h
 obtain⟨r58,h59,h⟩:=obind h
 have k:=oC 2 [] (c121 h57)<|oB 4 h53 k
 obtain⟨h60,h⟩:=splF h
 obtain⟨r61,h62,h⟩:=obind h
 obtain⟨r63,h64,h⟩:=obind h
 have k:=oC 10 [] (c122 h62)<|oK 4 [0,1] h60 (c37 h59) k
 obtain⟨h65,h⟩:=splF h
 obtain rfl:=sj h
 exact k75 (tF q75 1 [0,1] (oD (dS q0_own)<|oD (dT q0_pars)<|oD (dTreeRow q0_d.rows_)<|oD (dTreeBind q0_d.cons_)<|oD (dTreeNode q0_d.type_.sub_)<|oD (dTreeBind q0_d.tele_)<|oD (dEZ r61.1)<|oK 3 [0,1] h65 (c37 h64) k))
def e21vacx(qq:Nat)(q0:List EntZ)(q1 q2:Int)(q3:ByteArray)(q4:List TreeBind)(q5 q6:Int)(q7:ByteArray)(q8:Int)(q9:List TreeNode)(q10:List TreeBind)(q11:List TreeRow)(q12 q13:Int)(q14:List Tm)(q15:List ByteArray)(q16 q17:Int)(p1:List Tm):Option (List Tm×List Int×List Tm×Int×Int×List Ent×List Int×List Int×List Ent×List Con'):=
 e36 qq q0>>=fun r1=>
 if r1.1 != 0 then
 none
 else
 some (p1,[],[],q16,q17,r1.2.1,r1.2.2.1,r1.2.2.2.1,r1.2.2.2.2.1,r1.2.2.2.2.2)
abbrev K21vacx (q0:List EntZ) (q1 q2:Int) (q3:ByteArray) (q4:List TreeBind) (q5 q6:Int) (q7:ByteArray) (q8:Int) (q9:List TreeNode) (q10:List TreeBind) (q11:List TreeRow) (q12 q13:Int) (q14:List Tm) (q15:List ByteArray) (q16 q17:Int) (p1:List Tm) (r:List Tm×List Int×List Tm×Int×Int×List Ent×List Int×List Int×List Ent×List Con') (C:Cf):Prop:=C 21 [.cells [slv entZ q0 .no,ai q1,ai q2,at' q3,slv treeBindL q4 .no,ai q5,ai q6,at' q7,ai q8,slv treeNodeC q9 .no,slv treeBindL q10 .no,slv treeRowL q11 .no,.mp 1 0,slv tmCells q14 .no,slv strC q15 .no,ai q16,ai q17],.cells [ai q12,ai q13]] [.mp 0 0,slv tmCells p1 .no] (.agg [.mp 2 0,.mp 1 0,slv tmCells r.1 .no,slv intC r.2.1 .no,slv tmCells r.2.2.1 .no]) [.cells [slv entZ q0 .no,ai q1,ai q2,at' q3,slv treeBindL q4 .no,ai q5,ai q6,at' q7,ai q8,slv treeNodeC q9 .no,slv treeBindL q10 .no,slv treeRowL q11 .no,.mp 1 0,slv tmCells q14 .no,slv strC q15 .no,ai r.2.2.2.1,ai r.2.2.2.2.1],.cells [ai q12,ai q13],.cells [slv entL r.2.2.2.2.2.1 .no,.mp 3 0,slv intC r.2.2.2.2.2.2.1 .no,slv intC r.2.2.2.2.2.2.2.1 .no],.cells [slv entL r.2.2.2.2.2.2.2.2.1 .no,slv conL r.2.2.2.2.2.2.2.2.2 .no]] 0
theorem q21vacx:Qf 21 Tryz.f21:=⟨Tryz.func21,by kernel_rfl⟩
theorem k21vacx{q0 q1 q2 q3 q4 q5 q6 q7 q8 q9 q10 q11 q12 q13 q14 q15 q16 q17 p1 r}(h:K21vacx q0 q1 q2 q3 q4 q5 q6 q7 q8 q9 q10 q11 q12 q13 q14 q15 q16 q17 p1 r Ci):K21vacx q0 q1 q2 q3 q4 q5 q6 q7 q8 q9 q10 q11 q12 q13 q14 q15 q16 q17 p1 r Ct:=⟨h,⟨(lz rfl),⟨tv,dT _⟩,tv⟩,(forall_cons ⟨⟨tv,dEZ _⟩,tv,tv,tv,⟨tv,dTreeBind _⟩,tv,tv,tv,tv,⟨tv,dTreeNode _⟩,⟨tv,dTreeBind _⟩,⟨tv,dTreeRow _⟩,(lz rfl),⟨tv,dT _⟩,⟨tv,dS _⟩,tv,tv,tv⟩ (forall_cons ⟨tv,tv,tv⟩ forall_nil)),⟨(lz rfl),(lz rfl),dT _,dI _,dT _,tv⟩,(forall_cons ⟨dEZ _,tv,tv,tv,dTreeBind _,tv,tv,tv,tv,dTreeNode _,dTreeBind _,dTreeRow _,(lz rfl),dT _,dS _,tv,tv,tv⟩ (forall_cons ⟨tv,tv,tv⟩ (forall_cons ⟨dE _,(lz rfl),dI _,dI _,tv⟩ (forall_cons ⟨dE _,dC _,tv⟩ forall_nil))))⟩
theorem c21vacx{qq q0 q1 q2 q3 q4 q5 q6 q7 q8 q9 q10 q11 q12 q13 q14 q15 q16 q17 p1 r}(h:e21vacx qq q0 q1 q2 q3 q4 q5 q6 q7 q8 q9 q10 q11 q12 q13 q14 q15 q16 q17 p1=some r):K21vacx q0 q1 q2 q3 q4 q5 q6 q7 q8 q9 q10 q11 q12 q13 q14 q15 q16 q17 p1 r Ct:=by
 unfold e21vacx at h
 obtain⟨r1,h2,h⟩:=obind h
 have k:=oC 0 [] (c36 h2)<|oWk 0 (wkE q0 .no) o0
 obtain⟨h3,h⟩:=splF h
 obtain rfl:=sj h
 exact k21vacx (tF q21vacx 2 [0,1,3,4] (oD (dT ([]:List Tm))<|oD (dI ([]:List Int))<|oD (dT p1)<|oD (dC r1.2.2.2.2.2)<|oD (dE r1.2.2.2.2.1)<|oD (dI r1.2.2.2.1)<|oD (dI r1.2.2.1)<|oD (dE r1.2.1)<|oD (dS q15)<|oD (dT q14)<|oD (dTreeRow q11)<|oD (dTreeBind q10)<|oD (dTreeNode q9)<|oD (dTreeBind q4)<|oD (dEZ q0)<|oB 2 h3 k))
def e37vacy(qq:Nat)(q0:List EntZ)(q1 q2:Int)(q3:ByteArray)(q4:List TreeBind)(q5 q6:Int)(q7:ByteArray)(q8:Int)(q9:List TreeNode)(q10:List TreeBind)(q11:List TreeRow)(q12 q13:Int)(q14:List Tm)(q15:List ByteArray)(q16 q17 p1 p2:Int):Option (Bool×Int×Int):=
 if q16==0 then
 if p1 != 0 then
 none
 else
 some ((q16 != 0),q16,q17)
 else
 none
abbrev K37vacy (q0:List EntZ) (q1 q2:Int) (q3:ByteArray) (q4:List TreeBind) (q5 q6:Int) (q7:ByteArray) (q8:Int) (q9:List TreeNode) (q10:List TreeBind) (q11:List TreeRow) (q12 q13:Int) (q14:List Tm) (q15:List ByteArray) (q16 q17 p1 p2:Int) (r:Bool×Int×Int) (C:Cf):Prop:=C 37 [.cells [slv entZ q0 .no,ai q1,ai q2,at' q3,slv treeBindL q4 .no,ai q5,ai q6,at' q7,ai q8,slv treeNodeC q9 .no,slv treeBindL q10 .no,slv treeRowL q11 .no,.mp 1 0,slv tmCells q14 .no,slv strC q15 .no,ai q16,ai q17],.cells [ai q12,ai q13]] [.mp 0 0,ai p1,ai p2] (ab r.1) [.cells [slv entZ q0 .no,ai q1,ai q2,at' q3,slv treeBindL q4 .no,ai q5,ai q6,at' q7,ai q8,slv treeNodeC q9 .no,slv treeBindL q10 .no,slv treeRowL q11 .no,.mp 1 0,slv tmCells q14 .no,slv strC q15 .no,ai r.2.1,ai r.2.2],.cells [ai q12,ai q13]] 0
theorem q37vacy:Qf 37 Tryz.f37:=⟨Tryz.func37,by kernel_rfl⟩
theorem k37vacy{q0 q1 q2 q3 q4 q5 q6 q7 q8 q9 q10 q11 q12 q13 q14 q15 q16 q17 p1 p2 r}(h:K37vacy q0 q1 q2 q3 q4 q5 q6 q7 q8 q9 q10 q11 q12 q13 q14 q15 q16 q17 p1 p2 r Ci):K37vacy q0 q1 q2 q3 q4 q5 q6 q7 q8 q9 q10 q11 q12 q13 q14 q15 q16 q17 p1 p2 r Ct:=⟨h,⟨(lz rfl),tv,tv,tv⟩,(forall_cons ⟨⟨tv,dEZ _⟩,tv,tv,tv,⟨tv,dTreeBind _⟩,tv,tv,tv,tv,⟨tv,dTreeNode _⟩,⟨tv,dTreeBind _⟩,⟨tv,dTreeRow _⟩,(lz rfl),⟨tv,dT _⟩,⟨tv,dS _⟩,tv,tv,tv⟩ (forall_cons ⟨tv,tv,tv⟩ forall_nil)),tv,(forall_cons ⟨dEZ _,tv,tv,tv,dTreeBind _,tv,tv,tv,tv,dTreeNode _,dTreeBind _,dTreeRow _,(lz rfl),dT _,dS _,tv,tv,tv⟩ (forall_cons ⟨tv,tv,tv⟩ forall_nil))⟩
theorem c37vacy{qq q0 q1 q2 q3 q4 q5 q6 q7 q8 q9 q10 q11 q12 q13 q14 q15 q16 q17 p1 p2 r}(h:e37vacy qq q0 q1 q2 q3 q4 q5 q6 q7 q8 q9 q10 q11 q12 q13 q14 q15 q16 q17 p1 p2=some r):K37vacy q0 q1 q2 q3 q4 q5 q6 q7 q8 q9 q10 q11 q12 q13 q14 q15 q16 q17 p1 p2 r Ct:=by
 unfold e37vacy at h
 obtain⟨h1,h⟩:=spT h
 have k:=oB 1 h1 o0
 obtain⟨h2,h⟩:=splF h
 obtain rfl:=sj h
 exact k37vacy (tF q37vacy 2 [0,1] (oD (dS q15)<|oD (dT q14)<|oD (dTreeRow q11)<|oD (dTreeBind q10)<|oD (dTreeNode q9)<|oD (dTreeBind q4)<|oD (dEZ q0)<|oB 0 h2 k))
def e45vaczLda(qq:Nat)(q0:List EntZ)(q1 q2:Int)(q3:ByteArray)(q4:List TreeBind)(q5 q6:Int)(q7:ByteArray)(q8:Int)(q9:List TreeNode)(q10:List TreeBind)(q11:List TreeRow)(q12 q13:Int)(q14:List Tm)(q15:List ByteArray)(q16 q17 p2 p3:Int)(r1:Tm×List Tm)(x5:Ent)(v56:Int):Option (Bool):=
 if decide (v56<x5.pars)then
 none
 else
 some true
def e45vacz(qq:Nat)(q0:List EntZ)(q1 q2:Int)(q3:ByteArray)(q4:List TreeBind)(q5 q6:Int)(q7:ByteArray)(q8:Int)(q9:List TreeNode)(q10:List TreeBind)(q11:List TreeRow)(q12 q13:Int)(q14:List Tm)(q15:List ByteArray)(q16 q17:Int)(p1:Tm)(p2 p3:Int):Option (Bool):=
 e47 qq p1>>=fun r1=>
 if r1.1.k != 6 then
 none
 else
 if r1.1.n != p2 then
 none
 else
 gidx q0 p2>>=fun x5=>
 if (List.length r1.2:Int) != (w64 (x5.pars+x5.inds))then
 none
 else
 e45vaczLda qq q0 q1 q2 q3 q4 q5 q6 q7 q8 q9 q10 q11 q12 q13 q14 q15 q16 q17 p2 p3 r1 x5 0
def g45vaczLdaE0(j:Nat->Value)(q0:List EntZ)(q1 q2:Int)(q3:ByteArray)(q4:List TreeBind)(q5 q6:Int)(q7:ByteArray)(q8:Int)(q9:List TreeNode)(q10:List TreeBind)(q11:List TreeRow)(q12 q13:Int)(q14:List Tm)(q15:List ByteArray)(q16 q17 p2 p3:Int)(r1:Tm×List Tm)(x5:Ent)(v56:Int):=sp j 87 0 [(0,.mp 0 0),(2,ai p2),(3,ai p3),(10,slv tmCells r1.2 .no),(55,ai x5.pars),(56,ai v56)]
def g45vaczLdaS0(q0:List EntZ)(q1 q2:Int)(q3:ByteArray)(q4:List TreeBind)(q5 q6:Int)(q7:ByteArray)(q8:Int)(q9:List TreeNode)(q10:List TreeBind)(q11:List TreeRow)(q12 q13:Int)(q14:List Tm)(q15:List ByteArray)(q16 q17 p2 p3:Int)(r1:Tm×List Tm)(x5:Ent)(v56:Int):LSt:=⟨[(0,.cells [slv entZ q0 .no,ai q1,ai q2,at' q3,slv treeBindL q4 .no,ai q5,ai q6,at' q7,ai q8,slv treeNodeC q9 .no,slv treeBindL q10 .no,slv treeRowL q11 .no,.mp 1 0,slv tmCells q14 .no,slv strC q15 .no,ai q16,ai q17]),(1,.cells [ai q12,ai q13])],2,[],0,[]⟩
abbrev K45vacz (q0:List EntZ) (q1 q2:Int) (q3:ByteArray) (q4:List TreeBind) (q5 q6:Int) (q7:ByteArray) (q8:Int) (q9:List TreeNode) (q10:List TreeBind) (q11:List TreeRow) (q12 q13:Int) (q14:List Tm) (q15:List ByteArray) (q16 q17:Int) (p1:Tm) (p2 p3:Int) (r:Bool) (C:Cf):Prop:=C 45 [.cells [slv entZ q0 .no,ai q1,ai q2,at' q3,slv treeBindL q4 .no,ai q5,ai q6,at' q7,ai q8,slv treeNodeC q9 .no,slv treeBindL q10 .no,slv treeRowL q11 .no,.mp 1 0,slv tmCells q14 .no,slv strC q15 .no,ai q16,ai q17],.cells [ai q12,ai q13]] [.mp 0 0,tmA p1,ai p2,ai p3] (ab r) [.cells [slv entZ q0 .no,ai q1,ai q2,at' q3,slv treeBindL q4 .no,ai q5,ai q6,at' q7,ai q8,slv treeNodeC q9 .no,slv treeBindL q10 .no,slv treeRowL q11 .no,.mp 1 0,slv tmCells q14 .no,slv strC q15 .no,ai q16,ai q17],.cells [ai q12,ai q13]] 0
theorem q45vacz:Qf 45 Tryz.f45:=⟨Tryz.func45,by kernel_rfl⟩
theorem k45vacz{q0 q1 q2 q3 q4 q5 q6 q7 q8 q9 q10 q11 q12 q13 q14 q15 q16 q17 p1 p2 p3 r}(h:K45vacz q0 q1 q2 q3 q4 q5 q6 q7 q8 q9 q10 q11 q12 q13 q14 q15 q16 q17 p1 p2 p3 r Ci):K45vacz q0 q1 q2 q3 q4 q5 q6 q7 q8 q9 q10 q11 q12 q13 q14 q15 q16 q17 p1 p2 p3 r Ct:=⟨h,⟨(lz rfl),⟨tv,tv,⟨tv,dT _⟩,tv⟩,tv,tv,tv⟩,(forall_cons ⟨⟨tv,dEZ _⟩,tv,tv,tv,⟨tv,dTreeBind _⟩,tv,tv,tv,tv,⟨tv,dTreeNode _⟩,⟨tv,dTreeBind _⟩,⟨tv,dTreeRow _⟩,(lz rfl),⟨tv,dT _⟩,⟨tv,dS _⟩,tv,tv,tv⟩ (forall_cons ⟨tv,tv,tv⟩ forall_nil)),tv,(forall_cons ⟨dEZ _,tv,tv,tv,dTreeBind _,tv,tv,tv,tv,dTreeNode _,dTreeBind _,dTreeRow _,(lz rfl),dT _,dS _,tv,tv,tv⟩ (forall_cons ⟨tv,tv,tv⟩ forall_nil))⟩
theorem l45vaczLda(qq q0 q1 q2 q3 q4 q5 q6 q7 q8 q9 q10 q11 q12 q13 q14 q15 q16 q17 p2 p3 r1 x5 v56 r)(h:e45vaczLda qq q0 q1 q2 q3 q4 q5 q6 q7 q8 q9 q10 q11 q12 q13 q14 q15 q16 q17 p2 p3 r1 x5 v56=some r):(∀j,Dl Tryz.prog 2 (inn (inn (rgt (lft (rgt (rgt (rgt (bod Tryz.f45)))))))) (g45vaczLdaE0 j q0 q1 q2 q3 q4 q5 q6 q7 q8 q9 q10 q11 q12 q13 q14 q15 q16 q17 p2 p3 r1 x5 v56) (g45vaczLdaS0 q0 q1 q2 q3 q4 q5 q6 q7 q8 q9 q10 q11 q12 q13 q14 q15 q16 q17 p2 p3 r1 x5 v56) (frameQ Tryz.prog 2 (FinQ Tryz.prog 2 Tryz.f45 (ab r) [.cells [slv entZ q0 .no,ai q1,ai q2,at' q3,slv treeBindL q4 .no,ai q5,ai q6,at' q7,ai q8,slv treeNodeC q9 .no,slv treeBindL q10 .no,slv treeRowL q11 .no,.mp 1 0,slv tmCells q14 .no,slv strC q15 .no,ai q16,ai q17],.cells [ai q12,ai q13]] 0) [.blk 0,.seq (rgt (rgt (rgt (rgt (bod Tryz.f45)))))])):=by
 unfold e45vaczLda at h
 obtain⟨h8,h⟩:=splF h
 obtain rfl:=sj h
 exact fun j=>lF 0 [0,1] (oD (dS q15)<|oD (dT q14)<|oD (dTreeRow q11)<|oD (dTreeBind q10)<|oD (dTreeNode q9)<|oD (dTreeBind q4)<|oD (dEZ q0)<|oB 0 h8 o0)
theorem c45vacz{qq q0 q1 q2 q3 q4 q5 q6 q7 q8 q9 q10 q11 q12 q13 q14 q15 q16 q17 p1 p2 p3 r}(h:e45vacz qq q0 q1 q2 q3 q4 q5 q6 q7 q8 q9 q10 q11 q12 q13 q14 q15 q16 q17 p1 p2 p3=some r):K45vacz q0 q1 q2 q3 q4 q5 q6 q7 q8 q9 q10 q11 q12 q13 q14 q15 q16 q17 p1 p2 p3 r Ct:=by
 unfold e45vacz at h
 obtain⟨r1,h2,h⟩:=obind h
 have k:=oC 1 [] (c47 h2) o0
 obtain⟨h3,h⟩:=splF h
 have k:=oB 4 h3 k
 obtain⟨h4,h⟩:=splF h
 obtain⟨x5,h6,h⟩:=obind h
 have k:=oA 0 (ix22 (o:=.no) h6)<|oWk 1 (wkE q0 .no)<|oA 0 (ix22 (o:=.no) h6)<|oWk 1 (wkE q0 .no)<|oB 1 h4 k
 obtain⟨h7,h⟩:=splF h
 exact k45vacz (tH q45vacz 1 [] [0,1] [] [0,2,3,10,55,56] (oD (dT r1.2)<|oD (dS q15)<|oD (dT q14)<|oD (dTreeRow q11)<|oD (dTreeBind q10)<|oD (dTreeNode q9)<|oD (dTreeBind q4)<|oD (dEZ q0)<|oA 0 (ix22 (o:=.no) h6)<|oWk 0 (wkE q0 .no)<|oB 2 h7 k) (l45vaczLda qq _ _ _ _ _ _ _ _ _ _ _ _ _ _ _ _ _ _ _ _ _ _ _ _ h))
def e64Ldb:Nat->(List Int)->Int->Option (Bool)
 |0,_,_=>none
 |qq+1,p0,v7=>
 if decide (v7<(List.length p0:Int))then
 gidx p0 v7>>=fun x2=>
 if decide (x2<0)then
 none
 else
 if decide (x2>24)then
 none
 else
 e64Ldb qq p0 (w64 (v7+1))
 else
 some true
def e64(qq:Nat)(p0:List Int):Option (Bool):=
 e64Ldb qq p0 0
def g64LdbE0(j:Nat->Value)(p0:List Int)(v7:Int):=sp j 18 0 [(5,slv intC p0 .no),(6,ai (List.length p0:Int)),(7,ai v7)]
def g64LdbS0(p0:List Int)(v7:Int):LSt:=⟨[],0,[],0,[]⟩
abbrev K64 (p0:List Int) (r:Bool) (C:Cf):Prop:=C 64 [] [slv intC p0 .no] (ab r) [] 0
theorem q64:Qf 64 Tryz.f64:=⟨Tryz.func64,by kernel_rfl⟩
theorem k64{p0 r}(h:K64 p0 r Ci):K64 p0 r Ct:=⟨h,⟨⟨tv,dI _⟩,tv⟩,forall_nil,tv,forall_nil⟩
theorem l64Ldb:∀qq:Nat,(∀p0 v7 r,e64Ldb qq p0 v7=some r->(∀j,Dl Tryz.prog 0 (inn (inn (rgt (lft (rgt (bod Tryz.f64)))))) (g64LdbE0 j p0 v7) (g64LdbS0 p0 v7) (frameQ Tryz.prog 0 (FinQ Tryz.prog 0 Tryz.f64 (ab r) [] 0) [.blk 0,.seq (rgt (rgt (bod Tryz.f64)))]))):=by
 intro qq
 induction qq with
 |zero=>
  exact fun _ _ _ h=>nn h
 |succ qq ih=>
  intro p0 v7 r h
  rw[e64Ldb]at h
  rcases spl h with⟨h1,h⟩|⟨h1,h⟩
  obtain⟨x2,h3,h⟩:=obind h
  have k:=oA 0 (ix32 (o:=.no) h3)<|oB 0 h1 o0
  obtain⟨h4,h⟩:=splF h
  have k:=oB 1 h4 k
  obtain⟨h5,h⟩:=splF h
  exact fun j=>lH 1 [] [] [] [5,6,7] (oD (dI p0)<|oB 0 h5 k) (ih _ _ _ h)
  obtain rfl:=sj h
  exact fun j=>lF 0 [] (oB 0 h1 o0)
theorem c64{qq p0 r}(h:e64 qq p0=some r):K64 p0 r Ct:=by
 unfold e64 at h
 exact k64 (tH q64 1 [] [] [] [5,6,7] (oD (dI p0) o0) (l64Ldb _ _ _ _ h))
mutual
def e66:Nat->Tm->Int->Option (Bool)
 |0,_,_=>none
 |qq+1,p0,p1=>
 if p0.k==6 then
 if p0.n==p1 then
 some true
 else
 e66Ldc qq p0 p1 0
 else
 if p0.k==7 then
 none
 else
 e66Ldc qq p0 p1 0
def e66Ldc:Nat->Tm->Int->Int->Option (Bool)
 |0,_,_,_=>none
 |qq+1,p0,p1,v24=>
 if decide (v24<(List.length p0.sub:Int))then
 gidx p0.sub v24>>=fun x4=>
 e66 qq x4 p1>>=fun r6=>
 if r6 then
 some true
 else
 e66Ldc qq p0 p1 (w64 (v24+1))
 else
 some false
end
def g66LdcE0(j:Nat->Value)(p0:Tm)(p1 v24:Int):=sp j 32 0 [(1,ai p1),(22,slv tmCells p0.sub .no),(23,ai (List.length p0.sub:Int)),(24,ai v24)]
def g66LdcS0(p0:Tm)(p1 v24:Int):LSt:=⟨[],0,[],0,[]⟩
abbrev K66 (p0:Tm) (p1:Int) (r:Bool) (C:Cf):Prop:=C 66 [] [tmA p0,ai p1] (ab r) [] 0
theorem q66:Qf 66 Tryz.f66:=⟨Tryz.func66,by kernel_rfl⟩
theorem k66{p0 p1 r}(h:K66 p0 p1 r Ci):K66 p0 p1 r Ct:=⟨h,⟨⟨tv,tv,⟨tv,dT _⟩,tv⟩,tv,tv⟩,forall_nil,tv,forall_nil⟩
theorem a66_66Ldc:∀qq:Nat,(∀p0 p1 r,e66 qq p0 p1=some r->K66 p0 p1 r Ct)∧(∀p0 p1 v24 r,e66Ldc qq p0 p1 v24=some r->(∀j,Dl Tryz.prog 0 (inn (inn (rgt (lft (rgt (rgt (bod Tryz.f66))))))) (g66LdcE0 j p0 p1 v24) (g66LdcS0 p0 p1 v24) (frameQ Tryz.prog 0 (FinQ Tryz.prog 0 Tryz.f66 (ab r) [] 0) [.blk 0,.seq (rgt (rgt (rgt (bod Tryz.f66))))]))):=by
 intro qq
 induction qq with
 |zero=>
  exact⟨fun _ _ _ h=>nn h,fun _ _ _ _ h=>nn h⟩
 |succ qq ih=>
  obtain⟨ih66,ih66Ldc⟩:=ih
  refine⟨?_,?_⟩
  intro p0 p1 r h
  rw[e66]at h
  rcases spl h with⟨h1,h⟩|⟨h1,h⟩
  have k:=oB 1 h1 o0
  rcases spl h with⟨h2,h⟩|⟨h2,h⟩
  obtain rfl:=sj h
  exact k66 (tF q66 0 [] (oB 1 h2 k))
  exact k66 (tH q66 2 [] [] [] [1,22,23,24] (oD (dT p0.sub)<|oB 1 h2 k) (ih66Ldc _ _ _ _ h))
  have k:=oB 1 h1 o0
  obtain⟨h3,h⟩:=splF h
  exact k66 (tH q66 2 [] [] [] [1,22,23,24] (oD (dT p0.sub)<|oB 1 h3 k) (ih66Ldc _ _ _ _ h))
  intro p0 p1 v24 r h
  rw[e66Ldc]at h
  rcases spl h with⟨h3,h⟩|⟨h3,h⟩
  obtain⟨x4,h5,h⟩:=obind h
  obtain⟨r6,h7,h⟩:=obind h
  have k:=oA 0 (ix29 (o:=.no) h5)<|oB 0 h3 o0
  rcases spl h with⟨h8,h⟩|⟨h8,h⟩
  obtain rfl:=sj h
  exact fun j=>lF 0 [] (oK 3 [] h8 (ih66 _ _ _ h7) k)
  exact fun j=>lH 1 [] [] [] [1,22,23,24] (oD (dT p0.sub)<|oK 3 [] h8 (ih66 _ _ _ h7) k) (ih66Ldc _ _ _ _ h)
  obtain rfl:=sj h
  exact fun j=>lF 0 [] (oB 0 h3 o0)
theorem c66{qq p0 p1 r}(h:e66 qq p0 p1=some r):K66 p0 p1 r Ct:=(a66_66Ldc _).1 _ _ _ h
def e102Ldd:Nat->Int->Int->Int->(Tm×List Tm)->Int->Option (Bool)
 |0,_,_,_,_,_=>none
 |qq+1,p1,p2,p4,r1,v38=>
 if decide (v38<(List.length r1.2:Int))then
 gidx r1.2 v38>>=fun x7=>
 e66 qq x7 p1>>=fun r9=>
 if r9 then
 none
 else
 if decide (v38<p2)then
 if x7.k != 1 then
 none
 else
 if x7.n != (w64 (p4-v38))then
 none
 else
 e102Ldd qq p1 p2 p4 r1 (w64 (v38+1))
 else
 e102Ldd qq p1 p2 p4 r1 (w64 (v38+1))
 else
 some true
def e102(qq:Nat)(p0:Tm)(p1 p2 p3 p4:Int):Option (Bool):=
 e47 qq p0>>=fun r1=>
 if r1.1.k != 6 then
 none
 else
 if r1.1.n != p1 then
 some false
 else
 if (List.length r1.2:Int) != (w64 (p2+p3))then
 none
 else
 e102Ldd qq p1 p2 p4 r1 0
def g102LddE0(j:Nat->Value)(p1 p2 p4:Int)(r1:Tm×List Tm)(v38:Int):=sp j 72 0 [(1,ai p1),(2,ai p2),(4,ai p4),(12,slv tmCells r1.2 .no),(37,ai (List.length r1.2:Int)),(38,ai v38)]
def g102LddS0(p1 p2 p4:Int)(r1:Tm×List Tm)(v38:Int):LSt:=⟨[],0,[],0,[]⟩
abbrev K102 (p0:Tm) (p1 p2 p3 p4:Int) (r:Bool) (C:Cf):Prop:=C 102 [] [tmA p0,ai p1,ai p2,ai p3,ai p4] (ab r) [] 0
theorem q102:Qf 102 Tryz.f102:=⟨Tryz.func102,by kernel_rfl⟩
theorem k102{p0 p1 p2 p3 p4 r}(h:K102 p0 p1 p2 p3 p4 r Ci):K102 p0 p1 p2 p3 p4 r Ct:=⟨h,⟨⟨tv,tv,⟨tv,dT _⟩,tv⟩,tv,tv,tv,tv,tv⟩,forall_nil,tv,forall_nil⟩
theorem l102Ldd:∀qq:Nat,(∀p1 p2 p4 r1 v38 r,e102Ldd qq p1 p2 p4 r1 v38=some r->(∀j,Dl Tryz.prog 0 (inn (inn (rgt (lft (rgt (rgt (rgt (bod Tryz.f102)))))))) (g102LddE0 j p1 p2 p4 r1 v38) (g102LddS0 p1 p2 p4 r1 v38) (frameQ Tryz.prog 0 (FinQ Tryz.prog 0 Tryz.f102 (ab r) [] 0) [.blk 0,.seq (rgt (rgt (rgt (rgt (bod Tryz.f102)))))]))):=by
 intro qq
 induction qq with
 |zero=>
  exact fun _ _ _ _ _ _ h=>nn h
 |succ qq ih=>
  intro p1 p2 p4 r1 v38 r h
  rw[e102Ldd]at h
  rcases spl h with⟨h6,h⟩|⟨h6,h⟩
  obtain⟨x7,h8,h⟩:=obind h
  obtain⟨r9,h10,h⟩:=obind h
  have k:=oA 0 (ix29 (o:=.no) h8)<|oB 0 h6 o0
  obtain⟨h11,h⟩:=splF h
  have k:=oK 1 [] h11 (c66 h10) k
  rcases spl h with⟨h12,h⟩|⟨h12,h⟩
  have k:=oA 0 (ix29 (o:=.no) h8)<|oB 0 h12 k
  obtain⟨h13,h⟩:=splF h
  have k:=oA 0 (ix29 (o:=.no) h8)<|oB 1 h13 k
  obtain⟨h14,h⟩:=splF h
  exact fun j=>lH 1 [] [] [] [1,2,4,12,37,38] (oD (dT r1.2)<|oB 2 h14 k) (ih _ _ _ _ _ _ h)
  exact fun j=>lH 1 [] [] [] [1,2,4,12,37,38] (oD (dT r1.2)<|oB 0 h12 k) (ih _ _ _ _ _ _ h)
  obtain rfl:=sj h
  exact fun j=>lF 0 [] (oB 0 h6 o0)
theorem c102{qq p0 p1 p2 p3 p4 r}(h:e102 qq p0 p1 p2 p3 p4=some r):K102 p0 p1 p2 p3 p4 r Ct:=by
 unfold e102 at h
 obtain⟨r1,h2,h⟩:=obind h
 have k:=oC 1 [] (c47 h2) o0
 obtain⟨h3,h⟩:=splF h
 have k:=oB 4 h3 k
 rcases spl h with⟨h4,h⟩|⟨h4,h⟩
 obtain rfl:=sj h
 exact k102 (tF q102 0 [] (oB 1 h4 k))
 have k:=oB 1 h4 k
 obtain⟨h5,h⟩:=splF h
 exact k102 (tH q102 1 [] [] [] [1,2,4,12,37,38] (oD (dT r1.2)<|oB 2 h5 k) (l102Ldd _ _ _ _ _ _ _ h))
def e65Lde:Nat->Int->Int->Int->Int->Int->Int->Int->(List Tm)->Option (Int)
 |0,_,_,_,_,_,_,_,_=>none
 |qq+1,p1,p2,p3,p4,v11,vb0_0,vb0_1,vb0_2=>
 if vb0_0==3 then
 gidx vb0_2 0>>=fun x5=>
 e66 qq x5 p1>>=fun r7=>
 if r7 then
 some v11
 else
 gidx vb0_2 1>>=fun x10=>
 e65Lde qq p1 p2 p3 p4 (w64 (v11+1)) x10.k x10.n x10.sub
 else
 if decide (v11≤24)then
 e102 qq (Tm.mk vb0_0 vb0_1 vb0_2) p1 p2 p3 (w64 (p4+v11))>>=fun r13=>
 if r13 then
 some (-2)
 else
 some (-1)
 else
 none
def e65(qq:Nat)(p0:Tm)(p1 p2 p3 p4:Int):Option (Int):=
 e66 qq p0 p1>>=fun r1=>
 if r1 then
 e65Lde qq p1 p2 p3 p4 0 p0.k p0.n p0.sub
 else
 some (-2)
def g65LdeE0(j:Nat->Value)(p1 p2 p3 p4 v11 vb0_0 vb0_1:Int)(vb0_2:List Tm):=sp j 44 0 [(1,ai p1),(2,ai p2),(3,ai p3),(4,ai p4),(5,.mp 0 0),(11,ai v11)]
def g65LdeS0(p1 p2 p3 p4 v11 vb0_0 vb0_1:Int)(vb0_2:List Tm):LSt:=⟨[(0,.cells [ai vb0_0,ai vb0_1,slv tmCells vb0_2 .no])],1,[],0,[]⟩
abbrev K65 (p0:Tm) (p1 p2 p3 p4 r:Int) (C:Cf):Prop:=C 65 [] [tmA p0,ai p1,ai p2,ai p3,ai p4] (ai r) [] 0
theorem q65:Qf 65 Tryz.f65:=⟨Tryz.func65,by kernel_rfl⟩
theorem k65{p0 p1 p2 p3 p4 r}(h:K65 p0 p1 p2 p3 p4 r Ci):K65 p0 p1 p2 p3 p4 r Ct:=⟨h,⟨⟨tv,tv,⟨tv,dT _⟩,tv⟩,tv,tv,tv,tv,tv⟩,forall_nil,tv,forall_nil⟩
theorem l65Lde:∀qq:Nat,(∀p1 p2 p3 p4 v11 vb0_0 vb0_1 vb0_2 r,e65Lde qq p1 p2 p3 p4 v11 vb0_0 vb0_1 vb0_2=some r->(∀j,Dl Tryz.prog 0 (inn (inn (lft (rgt (rgt (rgt (bod Tryz.f65))))))) (g65LdeE0 j p1 p2 p3 p4 v11 vb0_0 vb0_1 vb0_2) (g65LdeS0 p1 p2 p3 p4 v11 vb0_0 vb0_1 vb0_2) (frameQ Tryz.prog 0 (FinQ Tryz.prog 0 Tryz.f65 (ai r) [] 0) [.blk 0,.seq (rgt (rgt (rgt (rgt (bod Tryz.f65)))))]))):=by
 intro qq
 induction qq with
 |zero=>
  exact fun _ _ _ _ _ _ _ _ _ h=>nn h
 |succ qq ih=>
  intro p1 p2 p3 p4 v11 vb0_0 vb0_1 vb0_2 r h
  rw[e65Lde]at h
  rcases spl h with⟨h4,h⟩|⟨h4,h⟩
  obtain⟨x5,h6,h⟩:=obind h
  obtain⟨r7,h8,h⟩:=obind h
  have k:=oA 1 (ix29 (o:=.no) h6)<|oB 1 h4 o0
  rcases spl h with⟨h9,h⟩|⟨h9,h⟩
  obtain rfl:=sj h
  exact fun j=>lF 0 [] (oK 1 [] h9 (c66 h8) k)
  obtain⟨x10,h11,h⟩:=obind h
  exact fun j=>lH 3 [] [0] [] [1,2,3,4,5,11] (oD (dT x10.sub)<|oA 1 (ix29 (o:=.no) h11)<|oK 1 [] h9 (c66 h8) k) (ih _ _ _ _ _ _ _ _ _ h)
  have k:=oB 1 h4 o0
  obtain⟨h12,h⟩:=spT h
  obtain⟨r13,h14,h⟩:=obind h
  have k:=oB 0 h12 k
  rcases spl h with⟨h15,h⟩|⟨h15,h⟩
  obtain rfl:=sj h
  exact fun j=>lF 0 [] (oK 2 [] h15 (c102 h14) k)
  obtain rfl:=sj h
  exact fun j=>lF 0 [] (oK 2 [] h15 (c102 h14) k)
theorem c65{qq p0 p1 p2 p3 p4 r}(h:e65 qq p0 p1 p2 p3 p4=some r):K65 p0 p1 p2 p3 p4 r Ct:=by
 unfold e65 at h
 obtain⟨r1,h2,h⟩:=obind h
 rcases spl h with⟨h3,h⟩|⟨h3,h⟩
 exact k65 (tH q65 1 [] [0] [] [1,2,3,4,5,11] (oD (dT p0.sub)<|oK 1 [] h3 (c66 h2) o0) (l65Lde _ _ _ _ _ _ _ _ _ _ h))
 obtain rfl:=sj h
 exact k65 (tF q65 1 [] (oK 1 [] h3 (c66 h2) o0))
def e67Ldf(qq:Nat)(p0:List Tm)(p1 v5:Int):Option (Bool):=
 if decide (v5<(List.length p0:Int))then
 none
 else
 some false
def e67(qq:Nat)(p0:List Tm)(p1:Int):Option (Bool):=
 e67Ldf qq p0 p1 (w64 (p1+1))
def g67LdfE0(j:Nat->Value)(p0:List Tm)(p1 v5:Int):=sp j 23 0 [(0,slv tmCells p0 .no),(1,ai p1),(5,ai v5)]
def g67LdfS0(p0:List Tm)(p1 v5:Int):LSt:=⟨[],0,[],0,[]⟩
abbrev K67 (p0:List Tm) (p1:Int) (r:Bool) (C:Cf):Prop:=C 67 [] [slv tmCells p0 .no,ai p1] (ab r) [] 0
theorem q67:Qf 67 Tryz.f67:=⟨Tryz.func67,by kernel_rfl⟩
theorem k67{p0 p1 r}(h:K67 p0 p1 r Ci):K67 p0 p1 r Ct:=⟨h,⟨⟨tv,dT _⟩,tv,tv⟩,forall_nil,tv,forall_nil⟩
theorem l67Ldf(qq p0 p1 v5 r)(h:e67Ldf qq p0 p1 v5=some r):(∀j,Dl Tryz.prog 0 (inn (inn (rgt (lft (rgt (bod Tryz.f67)))))) (g67LdfE0 j p0 p1 v5) (g67LdfS0 p0 p1 v5) (frameQ Tryz.prog 0 (FinQ Tryz.prog 0 Tryz.f67 (ab r) [] 0) [.blk 0,.seq (rgt (rgt (bod Tryz.f67)))])):=by
 unfold e67Ldf at h
 obtain⟨h1,h⟩:=splF h
 obtain rfl:=sj h
 exact fun j=>lF 0 [] (oB 1 h1 o0)
theorem c67{qq p0 p1 r}(h:e67 qq p0 p1=some r):K67 p0 p1 r Ct:=by
 unfold e67 at h
 exact k67 (tH q67 1 [] [] [] [0,1,5] (oD (dT p0) o0) (l67Ldf qq _ _ _ _ h))
def e46Ldg:Nat->(List Tm)->Int->Int->Int->Int->Option (Int×Int)
 |0,_,_,_,_,_=>none
 |qq+1,p0,p1,p2,p3,v37=>
 if decide (v37<(List.length p0:Int))then
 gidx p0 v37>>=fun x12=>
 e65 qq x12 p1 p2 p3 (w64 ((w64 (p2-1))+v37))>>=fun r14=>
 if decide (r14>(-2))then
 some (v37,9)
 else
 e66 qq x12 p1>>=fun r17=>
 if r17 then
 e67 qq p0 v37>>=fun r20=>
 if r20 then
 none
 else
 e46Ldg qq p0 p1 p2 p3 (w64 (v37+1))
 else
 e46Ldg qq p0 p1 p2 p3 (w64 (v37+1))
 else
 some ((-1),0)
def e46Ldh:Nat->(List Tm)->Int->Int->Int->Int->Option (Int×Int)
 |0,_,_,_,_,_=>none
 |qq+1,p0,p1,p2,p3,v27=>
 if decide (v27<(List.length p0:Int))then
 gidx p0 v27>>=fun x6=>
 e57 qq x6>>=fun r8=>
 if r8 then
 e46Ldh qq p0 p1 p2 p3 (w64 (v27+1))
 else
 none
 else
 e46Ldg qq p0 p1 p2 p3 0
def e46(qq:Nat)(p0:List Tm)(p1 p2 p3:Int):Option (Int×Int):=
 e64 qq [p2,p3,(List.length p0:Int)]>>=fun r1=>
 if r1 then
 if decide (p1<0)then
 none
 else
 e46Ldh qq p0 p1 p2 p3 0
 else
 none
def g46LdhE0(j:Nat->Value)(p0:List Tm)(p1 p2 p3 v27:Int):=sp j 64 0 [(0,slv tmCells p0 .no),(1,ai p1),(2,ai p2),(3,ai p3),(25,slv tmCells p0 .no),(26,ai (List.length p0:Int)),(27,ai v27)]
def g46LdhS0(p0:List Tm)(p1 p2 p3 v27:Int):LSt:=⟨[],0,[],0,[]⟩
def g46LdgE0(j:Nat->Value)(p0:List Tm)(p1 p2 p3 v37:Int):=sp j 64 0 [(0,slv tmCells p0 .no),(1,ai p1),(2,ai p2),(3,ai p3),(35,slv tmCells p0 .no),(36,ai (List.length p0:Int)),(37,ai v37)]
def g46LdgS0(p0:List Tm)(p1 p2 p3 v37:Int):LSt:=⟨[],0,[],0,[]⟩
abbrev K46 (p0:List Tm) (p1 p2 p3:Int) (r:Int×Int) (C:Cf):Prop:=C 46 [] [slv tmCells p0 .no,ai p1,ai p2,ai p3] (.tup [ai r.1,ai r.2]) [] 0
theorem q46:Qf 46 Tryz.f46:=⟨Tryz.func46,by kernel_rfl⟩
theorem k46{p0 p1 p2 p3 r}(h:K46 p0 p1 p2 p3 r Ci):K46 p0 p1 p2 p3 r Ct:=⟨h,⟨⟨tv,dT _⟩,tv,tv,tv,tv⟩,forall_nil,⟨tv,tv,tv⟩,forall_nil⟩
theorem l46Ldg:∀qq:Nat,(∀p0 p1 p2 p3 v37 r,e46Ldg qq p0 p1 p2 p3 v37=some r->(∀j,Dl Tryz.prog 0 (inn (inn (rgt (lft (rgt (rgt (rgt (bod Tryz.f46)))))))) (g46LdgE0 j p0 p1 p2 p3 v37) (g46LdgS0 p0 p1 p2 p3 v37) (frameQ Tryz.prog 0 (FinQ Tryz.prog 0 Tryz.f46 (.tup [ai r.1,ai r.2]) [] 0) [.blk 2,.seq (rgt (rgt (rgt (rgt (bod Tryz.f46)))))]))):=by
 intro qq
 induction qq with
 |zero=>
  exact fun _ _ _ _ _ _ h=>nn h
 |succ qq ih=>
  intro p0 p1 p2 p3 v37 r h
  rw[e46Ldg]at h
  rcases spl h with⟨h11,h⟩|⟨h11,h⟩
  obtain⟨x12,h13,h⟩:=obind h
  obtain⟨r14,h15,h⟩:=obind h
  have k:=oC 5 [] (c65 h15)<|oA 0 (ix29 (o:=.no) h13)<|oB 0 h11 o0
  rcases spl h with⟨h16,h⟩|⟨h16,h⟩
  obtain rfl:=sj h
  exact fun j=>lF 0 [] (oB 0 h16 k)
  obtain⟨r17,h18,h⟩:=obind h
  have k:=oB 0 h16 k
  rcases spl h with⟨h19,h⟩|⟨h19,h⟩
  obtain⟨r20,h21,h⟩:=obind h
  have k:=oK 1 [] h19 (c66 h18) k
  obtain⟨h22,h⟩:=splF h
  exact fun j=>lH 1 [] [] [] [0,1,2,3,35,36,37] (oD (dT p0)<|oD (dT p0)<|oK 0 [] h22 (c67 h21) k) (ih _ _ _ _ _ _ h)
  exact fun j=>lH 1 [] [] [] [0,1,2,3,35,36,37] (oD (dT p0)<|oD (dT p0)<|oK 1 [] h19 (c66 h18) k) (ih _ _ _ _ _ _ h)
  obtain rfl:=sj h
  exact fun j=>lF 0 [] (oB 0 h11 o0)
theorem l46Ldh:∀qq:Nat,(∀p0 p1 p2 p3 v27 r,e46Ldh qq p0 p1 p2 p3 v27=some r->(∀j,Dl Tryz.prog 0 (inn (inn (rgt (lft (rgt (rgt (bod Tryz.f46))))))) (g46LdhE0 j p0 p1 p2 p3 v27) (g46LdhS0 p0 p1 p2 p3 v27) (frameQ Tryz.prog 0 (FinQ Tryz.prog 0 Tryz.f46 (.tup [ai r.1,ai r.2]) [] 0) [.blk 0,.seq (rgt (rgt (rgt (bod Tryz.f46))))]))):=by
 intro qq
 induction qq with
 |zero=>
  exact fun _ _ _ _ _ _ h=>nn h
 |succ qq ih=>
  intro p0 p1 p2 p3 v27 r h
  rw[e46Ldh]at h
  rcases spl h with⟨h5,h⟩|⟨h5,h⟩
  obtain⟨x6,h7,h⟩:=obind h
  obtain⟨r8,h9,h⟩:=obind h
  have k:=oA 0 (ix29 (o:=.no) h7)<|oB 0 h5 o0
  obtain⟨h10,h⟩:=spT h
  exact fun j=>lH 2 [] [] [] [0,1,2,3,25,26,27] (oD (dT p0)<|oD (dT p0)<|oK 3 [] h10 (c57 h9) k) (ih _ _ _ _ _ _ h)
  exact fun j=>lH 1 [] [] [] [0,1,2,3,35,36,37] (oD (dT p0)<|oD (dT p0)<|oB 0 h5 o0) (l46Ldg _ _ _ _ _ _ _ h)
theorem c46{qq p0 p1 p2 p3 r}(h:e46 qq p0 p1 p2 p3=some r):K46 p0 p1 p2 p3 r Ct:=by
 unfold e46 at h
 obtain⟨r1,h2,h⟩:=obind h
 obtain⟨h3,h⟩:=spT h
 have k:=oK 2 [] h3 (c64 h2) o0
 obtain⟨h4,h⟩:=splF h
 exact k46 (tH q46 1 [] [] [] [0,1,2,3,25,26,27] (oD (dT p0)<|oD (dT p0)<|oB 1 h4 k) (l46Ldh _ _ _ _ _ _ _ h))
def e24vaczLdi(qq:Nat)(q0:List EntZ)(q1 q2:Int)(q3:ByteArray)(q4:List TreeBind)(q5 q6:Int)(q7:ByteArray)(q8:Int)(q9:List TreeNode)(q10:List TreeBind)(q11:List TreeRow)(q14:List Tm)(q15:List ByteArray)(p2 p3 vb1_0 vb1_1:Int)(x55:List Tm)(v163 vb0_15 vb0_16:Int):Option (Int×Int×Int×Int):=
 if decide (v163<(List.length x55:Int))then
 none
 else
 some (vb0_15,vb0_16,vb1_0,vb1_1)
def e24vaczLdj:Nat->(List EntZ)->Int->Int->ByteArray->(List TreeBind)->Int->Int->ByteArray->Int->(List TreeNode)->(List TreeBind)->(List TreeRow)->(List Tm)->(List ByteArray)->Int->Int->(List Tm×Tm×Int)->Int->Int->Int->Int->Int->Option (Int×Int×Int×Int)
 |0,_,_,_,_,_,_,_,_,_,_,_,_,_,_,_,_,_,_,_,_,_,_=>none
 |qq+1,q0,q1,q2,q3,q4,q5,q6,q7,q8,q9,q10,q11,q14,q15,p2,p3,r8,v71,vb0_15,vb0_16,vb1_0,vb1_1=>
 if decide (v71<(List.length r8.1:Int))then
 gidx r8.1 v71>>=fun x20=>
 gsl q14 0 (List.length q14:Int)>>=fun x22=>
 gsl r8.1 0 v71>>=fun x24=>
 gapp 40 x22 x24>>=fun l26=>
 e21vacx qq q0 q1 q2 q3 q4 q5 q6 q7 q8 q9 q10 q11 vb1_0 vb1_1 q14 q15 vb0_15 vb0_16 l26>>=fun r29=>
 e43 qq (Mach.mk r29.2.2.2.2.2.1 r29.2.2.2.2.2.2.2.2.1 r29.2.2.2.2.2.2.2.2.2 r29.2.2.2.2.2.2.1 r29.2.2.2.2.2.2.2.1) vb1_0 vb1_1 r29.1 r29.2.1 r29.2.2.1 x20>>=fun r31=>
 if r31.2.1==0 then
 gidx q0 p2>>=fun x34=>
 if decide (r31.1>x34.level)then
 none
 else
 e37vacy qq q0 q1 q2 q3 q4 q5 q6 q7 q8 q9 q10 q11 r31.2.2.1 r31.2.2.2 q14 q15 r29.2.2.2.1 r29.2.2.2.2.1 r31.2.1 p3>>=fun r40=>
 if r40.1 then
 none
 else
 e24vaczLdj qq q0 q1 q2 q3 q4 q5 q6 q7 q8 q9 q10 q11 q14 q15 p2 p3 r8 (w64 (v71+1)) r40.2.1 r40.2.2 r31.2.2.1 r31.2.2.2
 else
 none
 else
 gidx q0 p2>>=fun x46=>
 e46 qq r8.1 p2 x46.pars x46.inds>>=fun r48=>
 e37vacy qq q0 q1 q2 q3 q4 q5 q6 q7 q8 q9 q10 q11 vb1_0 vb1_1 q14 q15 vb0_15 vb0_16 r48.2 p3>>=fun r50=>
 if r50.1 then
 none
 else
 e47 qq r8.2.1>>=fun r53=>
 gsl r53.2 x46.pars (List.length r53.2:Int)>>=fun x55=>
 e24vaczLdi qq q0 q1 q2 q3 q4 q5 q6 q7 q8 q9 q10 q11 q14 q15 p2 p3 vb1_0 vb1_1 x55 0 r50.2.1 r50.2.2
def e24vacz(qq:Nat)(q0:List EntZ)(q1 q2:Int)(q3:ByteArray)(q4:List TreeBind)(q5 q6:Int)(q7:ByteArray)(q8:Int)(q9:List TreeNode)(q10:List TreeBind)(q11:List TreeRow)(q12 q13:Int)(q14:List Tm)(q15:List ByteArray)(q16 q17:Int)(p1:Tm)(p2 p3:Int):Option (Int×Int×Int×Int):=
 e21vacx qq q0 q1 q2 q3 q4 q5 q6 q7 q8 q9 q10 q11 q12 q13 q14 q15 q16 q17 q14>>=fun r1=>
 e43 qq (Mach.mk r1.2.2.2.2.2.1 r1.2.2.2.2.2.2.2.2.1 r1.2.2.2.2.2.2.2.2.2 r1.2.2.2.2.2.2.1 r1.2.2.2.2.2.2.2.1) q12 q13 r1.1 r1.2.1 r1.2.2.1 p1>>=fun r3=>
 e37vacy qq q0 q1 q2 q3 q4 q5 q6 q7 q8 q9 q10 q11 r3.2.2.1 r3.2.2.2 q14 q15 r1.2.2.2.1 r1.2.2.2.2.1 r3.2.1 p3>>=fun r5=>
 if r5.1 then
 none
 else
 e44 qq p1>>=fun r8=>
 if r8.2.2 != 0 then
 none
 else
 if decide ((List.length r8.1:Int)>(w64 (24-(List.length q14:Int))))then
 none
 else
 e45vacz qq q0 q1 q2 q3 q4 q5 q6 q7 q8 q9 q10 q11 r3.2.2.1 r3.2.2.2 q14 q15 r5.2.1 r5.2.2 r8.2.1 p2 (List.length r8.1:Int)>>=fun r16=>
 if r16 then
 e24vaczLdj qq q0 q1 q2 q3 q4 q5 q6 q7 q8 q9 q10 q11 q14 q15 p2 p3 r8 0 r5.2.1 r5.2.2 r3.2.2.1 r3.2.2.2
 else
 none
def g24vaczLdjE0(j:Nat->Value)(q0:List EntZ)(q1 q2:Int)(q3:ByteArray)(q4:List TreeBind)(q5 q6:Int)(q7:ByteArray)(q8:Int)(q9:List TreeNode)(q10:List TreeBind)(q11:List TreeRow)(q14:List Tm)(q15:List ByteArray)(p2 p3:Int)(r8:List Tm×Tm×Int)(v71 vb0_15 vb0_16 vb1_0 vb1_1:Int):=sp j 174 0 [(0,.mp 0 0),(2,ai p2),(3,ai p3),(10,slv tmCells r8.1 .no),(11,.mp 2 0),(69,slv tmCells r8.1 .no),(70,ai (List.length r8.1:Int)),(71,ai v71)]
def g24vaczLdjS0(q0:List EntZ)(q1 q2:Int)(q3:ByteArray)(q4:List TreeBind)(q5 q6:Int)(q7:ByteArray)(q8:Int)(q9:List TreeNode)(q10:List TreeBind)(q11:List TreeRow)(q14:List Tm)(q15:List ByteArray)(p2 p3:Int)(r8:List Tm×Tm×Int)(v71 vb0_15 vb0_16 vb1_0 vb1_1:Int):LSt:=⟨[(0,.cells [slv entZ q0 .no,ai q1,ai q2,at' q3,slv treeBindL q4 .no,ai q5,ai q6,at' q7,ai q8,slv treeNodeC q9 .no,slv treeBindL q10 .no,slv treeRowL q11 .no,.mp 1 0,slv tmCells q14 .no,slv strC q15 .no,ai vb0_15,ai vb0_16]),(1,.cells [ai vb1_0,ai vb1_1]),(2,.cells [ai r8.2.1.k,ai r8.2.1.n,slv tmCells r8.2.1.sub .no])],3,[],0,[]⟩
def g24vaczLdiE0(j:Nat->Value)(q0:List EntZ)(q1 q2:Int)(q3:ByteArray)(q4:List TreeBind)(q5 q6:Int)(q7:ByteArray)(q8:Int)(q9:List TreeNode)(q10:List TreeBind)(q11:List TreeRow)(q14:List Tm)(q15:List ByteArray)(p2 p3 vb1_0 vb1_1:Int)(x55:List Tm)(v163 vb0_15 vb0_16:Int):=sp j 174 0 [(0,.mp 0 0),(2,ai p2),(3,ai p3),(161,slv tmCells x55 .no),(162,ai (List.length x55:Int)),(163,ai v163)]
def g24vaczLdiS0(q0:List EntZ)(q1 q2:Int)(q3:ByteArray)(q4:List TreeBind)(q5 q6:Int)(q7:ByteArray)(q8:Int)(q9:List TreeNode)(q10:List TreeBind)(q11:List TreeRow)(q14:List Tm)(q15:List ByteArray)(p2 p3 vb1_0 vb1_1:Int)(x55:List Tm)(v163 vb0_15 vb0_16:Int):LSt:=⟨[(0,.cells [slv entZ q0 .no,ai q1,ai q2,at' q3,slv treeBindL q4 .no,ai q5,ai q6,at' q7,ai q8,slv treeNodeC q9 .no,slv treeBindL q10 .no,slv treeRowL q11 .no,.mp 1 0,slv tmCells q14 .no,slv strC q15 .no,ai vb0_15,ai vb0_16]),(1,.cells [ai vb1_0,ai vb1_1])],2,[],0,[]⟩
abbrev K24vacz (q0:List EntZ) (q1 q2:Int) (q3:ByteArray) (q4:List TreeBind) (q5 q6:Int) (q7:ByteArray) (q8:Int) (q9:List TreeNode) (q10:List TreeBind) (q11:List TreeRow) (q12 q13:Int) (q14:List Tm) (q15:List ByteArray) (q16 q17:Int) (p1:Tm) (p2 p3:Int) (r:Int×Int×Int×Int) (C:Cf):Prop:=C 24 [.cells [slv entZ q0 .no,ai q1,ai q2,at' q3,slv treeBindL q4 .no,ai q5,ai q6,at' q7,ai q8,slv treeNodeC q9 .no,slv treeBindL q10 .no,slv treeRowL q11 .no,.mp 1 0,slv tmCells q14 .no,slv strC q15 .no,ai q16,ai q17],.cells [ai q12,ai q13]] [.mp 0 0,tmA p1,ai p2,ai p3] (.tup []) [.cells [slv entZ q0 .no,ai q1,ai q2,at' q3,slv treeBindL q4 .no,ai q5,ai q6,at' q7,ai q8,slv treeNodeC q9 .no,slv treeBindL q10 .no,slv treeRowL q11 .no,.mp 1 0,slv tmCells q14 .no,slv strC q15 .no,ai r.1,ai r.2.1],.cells [ai r.2.2.1,ai r.2.2.2]] 0
theorem q24vacz:Qf 24 Tryz.f24:=⟨Tryz.func24,by kernel_rfl⟩
theorem k24vacz{q0 q1 q2 q3 q4 q5 q6 q7 q8 q9 q10 q11 q12 q13 q14 q15 q16 q17 p1 p2 p3 r}(h:K24vacz q0 q1 q2 q3 q4 q5 q6 q7 q8 q9 q10 q11 q12 q13 q14 q15 q16 q17 p1 p2 p3 r Ci):K24vacz q0 q1 q2 q3 q4 q5 q6 q7 q8 q9 q10 q11 q12 q13 q14 q15 q16 q17 p1 p2 p3 r Ct:=⟨h,⟨(lz rfl),⟨tv,tv,⟨tv,dT _⟩,tv⟩,tv,tv,tv⟩,(forall_cons ⟨⟨tv,dEZ _⟩,tv,tv,tv,⟨tv,dTreeBind _⟩,tv,tv,tv,tv,⟨tv,dTreeNode _⟩,⟨tv,dTreeBind _⟩,⟨tv,dTreeRow _⟩,(lz rfl),⟨tv,dT _⟩,⟨tv,dS _⟩,tv,tv,tv⟩ (forall_cons ⟨tv,tv,tv⟩ forall_nil)),tv,(forall_cons ⟨dEZ _,tv,tv,tv,dTreeBind _,tv,tv,tv,tv,dTreeNode _,dTreeBind _,dTreeRow _,(lz rfl),dT _,dS _,tv,tv,tv⟩ (forall_cons ⟨tv,tv,tv⟩ forall_nil))⟩
theorem l24vaczLdi(qq q0 q1 q2 q3 q4 q5 q6 q7 q8 q9 q10 q11 q14 q15 p2 p3 vb1_0 vb1_1 x55 v163 vb0_15 vb0_16 r)(h:e24vaczLdi qq q0 q1 q2 q3 q4 q5 q6 q7 q8 q9 q10 q11 q14 q15 p2 p3 vb1_0 vb1_1 x55 v163 vb0_15 vb0_16=some r):(∀j,Dl Tryz.prog 2 (inn (inn (rgt (rgt (rgt (rgt (rgt (rgt (rgt (rgt (bod Tryz.f24))))))))))) (g24vaczLdiE0 j q0 q1 q2 q3 q4 q5 q6 q7 q8 q9 q10 q11 q14 q15 p2 p3 vb1_0 vb1_1 x55 v163 vb0_15 vb0_16) (g24vaczLdiS0 q0 q1 q2 q3 q4 q5 q6 q7 q8 q9 q10 q11 q14 q15 p2 p3 vb1_0 vb1_1 x55 v163 vb0_15 vb0_16) (frameQ Tryz.prog 2 (FinQ Tryz.prog 2 Tryz.f24 (.tup []) [.cells [slv entZ q0 .no,ai q1,ai q2,at' q3,slv treeBindL q4 .no,ai q5,ai q6,at' q7,ai q8,slv treeNodeC q9 .no,slv treeBindL q10 .no,slv treeRowL q11 .no,.mp 1 0,slv tmCells q14 .no,slv strC q15 .no,ai r.1,ai r.2.1],.cells [ai r.2.2.1,ai r.2.2.2]] 0) [.blk 2])):=by
 unfold e24vaczLdi at h
 obtain⟨h57,h⟩:=splF h
 obtain rfl:=sj h
 exact fun j=>lF 0 [0,1] (oD (dS q15)<|oD (dT q14)<|oD (dTreeRow q11)<|oD (dTreeBind q10)<|oD (dTreeNode q9)<|oD (dTreeBind q4)<|oD (dEZ q0)<|oB 0 h57 o0)
theorem l24vaczLdj:∀qq:Nat,(∀q0 q1 q2 q3 q4 q5 q6 q7 q8 q9 q10 q11 q14 q15 p2 p3 r8 v71 vb0_15 vb0_16 vb1_0 vb1_1 r,e24vaczLdj qq q0 q1 q2 q3 q4 q5 q6 q7 q8 q9 q10 q11 q14 q15 p2 p3 r8 v71 vb0_15 vb0_16 vb1_0 vb1_1=some r->(∀j,Dl Tryz.prog 2 (inn (inn (rgt (lft (rgt (rgt (rgt (rgt (bod Tryz.f24))))))))) (g24vaczLdjE0 j q0 q1 q2 q3 q4 q5 q6 q7 q8 q9 q10 q11 q14 q15 p2 p3 r8 v71 vb0_15 vb0_16 vb1_0 vb1_1) (g24vaczLdjS0 q0 q1 q2 q3 q4 q5 q6 q7 q8 q9 q10 q11 q14 q15 p2 p3 r8 v71 vb0_15 vb0_16 vb1_0 vb1_1) (frameQ Tryz.prog 2 (FinQ Tryz.prog 2 Tryz.f24 (.tup []) [.cells [slv entZ q0 .no,ai q1,ai q2,at' q3,slv treeBindL q4 .no,ai q5,ai q6,at' q7,ai q8,slv treeNodeC q9 .no,slv treeBindL q10 .no,slv treeRowL q11 .no,.mp 1 0,slv tmCells q14 .no,slv strC q15 .no,ai r.1,ai r.2.1],.cells [ai r.2.2.1,ai r.2.2.2]] 0) [.blk 0,.seq (rgt (rgt (rgt (rgt (rgt (bod Tryz.f24))))))]))):=by
 intro qq
 induction qq with
 |zero=>
  exact fun _ _ _ _ _ _ _ _ _ _ _ _ _ _ _ _ _ _ _ _ _ _ _ h=>nn h
 |succ qq ih=>
  intro q0 q1 q2 q3 q4 q5 q6 q7 q8 q9 q10 q11 q14 q15 p2 p3 r8 v71 vb0_15 vb0_16 vb1_0 vb1_1 r h
  rw[e24vaczLdj]at h
  rcases spl h with⟨h19,h⟩|⟨h19,h⟩
  obtain⟨x20,h21,h⟩:=obind h
  obtain⟨x22,h23,h⟩:=obind h
  obtain⟨x24,h25,h⟩:=obind h
  obtain⟨l26,h27,h⟩:=obind h
  have k:=oA 0 (slTo29 h25)<|oA 7 (slTo3_29 (o:=.no) h23)<|oA 0 (ix29 (o:=.no) h21)<|oB 0 h19 o0
  by_cases h28:List.length x24=0
  obtain⟨r29,h30,h⟩:=obind h
  obtain⟨r31,h32,h⟩:=obind h
  have k:=oC 1 [4,5,1] (c43 h32)<|oC 0 [0,1] (c21vacx h30)<|oP 0 (apN29 h27 h28) k
  obtain⟨h33,h⟩:=spT h
  obtain⟨x34,h35,h⟩:=obind h
  have k:=oA 0 (ix22 (o:=.no) h35)<|oWk 0 (wkE q0 .no)<|oB 2 h33 k
  obtain⟨h36,h⟩:=splF h
  obtain⟨r40,h41,h⟩:=obind h
  have k:=oB 1 h36 k
  obtain⟨h42,h⟩:=splF h
  exact fun j=>lH 1 [] [0,1,2] [] [0,2,3,10,11,69,70,71] (oD (dT r8.1)<|oD (dT r8.1)<|oD (dT r8.2.1.sub)<|oD (dS q15)<|oD (dT q14)<|oD (dTreeRow q11)<|oD (dTreeBind q10)<|oD (dTreeNode q9)<|oD (dTreeBind q4)<|oD (dEZ q0)<|oK 0 [0,1] h42 (c37vacy h41) k) (ih _ _ _ _ _ _ _ _ _ _ _ _ _ _ _ _ _ _ _ _ _ _ _ h)
  obtain⟨r29,h30,h⟩:=obind h
  obtain⟨r31,h32,h⟩:=obind h
  have k:=oC 1 [4,5,1] (c43 h32)<|oC 0 [0,1] (c21vacx h30)<|oP 0 (apS29 h27 h28) k
  obtain⟨h33,h⟩:=spT h
  obtain⟨x34,h35,h⟩:=obind h
  have k:=oA 0 (ix22 (o:=.no) h35)<|oWk 0 (wkE q0 .no)<|oB 2 h33 k
  obtain⟨h36,h⟩:=splF h
  obtain⟨r40,h41,h⟩:=obind h
  have k:=oB 1 h36 k
  obtain⟨h42,h⟩:=splF h
  exact fun j=>lH 1 [] [0,1,2] [] [0,2,3,10,11,69,70,71] (oD (dT r8.1)<|oD (dT r8.1)<|oD (dT r8.2.1.sub)<|oD (dS q15)<|oD (dT q14)<|oD (dTreeRow q11)<|oD (dTreeBind q10)<|oD (dTreeNode q9)<|oD (dTreeBind q4)<|oD (dEZ q0)<|oK 0 [0,1] h42 (c37vacy h41) k) (ih _ _ _ _ _ _ _ _ _ _ _ _ _ _ _ _ _ _ _ _ _ _ _ h)
  obtain⟨x46,h47,h⟩:=obind h
  obtain⟨r48,h49,h⟩:=obind h
  obtain⟨r50,h51,h⟩:=obind h
  have k:=oC 1 [] (c46 h49)<|oA 0 (ix22 (o:=.no) h47)<|oWk 1 (wkE q0 .no)<|oA 0 (ix22 (o:=.no) h47)<|oWk 0 (wkE q0 .no)<|oB 0 h19 o0
  obtain⟨h52,h⟩:=splF h
  obtain⟨r53,h54,h⟩:=obind h
  obtain⟨x55,h56,h⟩:=obind h
  exact fun j=>lH 1 [] [0,1] [] [0,2,3,161,162,163] (oD (dT x55)<|oD (dS q15)<|oD (dT q14)<|oD (dTreeRow q11)<|oD (dTreeBind q10)<|oD (dTreeNode q9)<|oD (dTreeBind q4)<|oD (dEZ q0)<|oA 1 (slFrom29 h56)<|oA 0 (ix22 (o:=.no) h47)<|oWk 3 (wkE q0 .no)<|oC 1 [] (c47 h54)<|oK 2 [0,1] h52 (c37vacy h51) k) (l24vaczLdi qq _ _ _ _ _ _ _ _ _ _ _ _ _ _ _ _ _ _ _ _ _ _ _ h)
theorem c24vacz{qq q0 q1 q2 q3 q4 q5 q6 q7 q8 q9 q10 q11 q12 q13 q14 q15 q16 q17 p1 p2 p3 r}(h:e24vacz qq q0 q1 q2 q3 q4 q5 q6 q7 q8 q9 q10 q11 q12 q13 q14 q15 q16 q17 p1 p2 p3=some r):K24vacz q0 q1 q2 q3 q4 q5 q6 q7 q8 q9 q10 q11 q12 q13 q14 q15 q16 q17 p1 p2 p3 r Ct:=by
 unfold e24vacz at h
 obtain⟨r1,h2,h⟩:=obind h
 obtain⟨r3,h4,h⟩:=obind h
 obtain⟨r5,h6,h⟩:=obind h
 have k:=oC 1 [3,4,1] (c43 h4)<|oC 1 [0,1] (c21vacx h2) o0
 obtain⟨h7,h⟩:=splF h
 obtain⟨r8,h9,h⟩:=obind h
 have k:=oC 1 [] (c44 h9)<|oK 2 [0,1] h7 (c37vacy h6) k
 obtain⟨h10,h⟩:=splF h
 have k:=oB 4 h10 k
 obtain⟨h13,h⟩:=splF h
 obtain⟨r16,h17,h⟩:=obind h
 have k:=oB 4 h13 k
 obtain⟨h18,h⟩:=spT h
 exact k24vacz (tH q24vacz 2 [] [0,1,5] [] [0,2,3,10,11,69,70,71] (oD (dT r8.1)<|oD (dT r8.1)<|oD (dT r8.2.1.sub)<|oD (dS q15)<|oD (dT q14)<|oD (dTreeRow q11)<|oD (dTreeBind q10)<|oD (dTreeNode q9)<|oD (dTreeBind q4)<|oD (dEZ q0)<|oK 2 [0,1] h18 (c45vacz h17) k) (l24vaczLdj _ _ _ _ _ _ _ _ _ _ _ _ _ _ _ _ _ _ _ _ _ _ _ _ h))
def e76vadkLdl:Nat->(List EntZ)->Int->Int->ByteArray->(List TreeBind)->Int->Int->ByteArray->Int->(List TreeNode)->(List TreeBind)->(List TreeRow)->(List Tm)->(List ByteArray)->Int->(List Ent)->Int->Int->Int->Int->Option (List Ent×Int×Int×Int×Int)
 |0,_,_,_,_,_,_,_,_,_,_,_,_,_,_,_,_,_,_,_,_=>none
 |qq+1,q0,q1,q2,q3,q4,q5,q6,q7,q8,q9,q10,q11,q14,q15,v23,v4,vb0_15,vb0_16,vb1_0,vb1_1=>
 if decide (v23<(List.length q10:Int))then
 gidx q10 v23>>=fun x2=>
 e120 qq q0 q15 x2.type_>>=fun r4=>
 if r4.2.2==2 then
 none
 else
 e37vacy qq q0 q1 q2 q3 q4 q5 q6 q7 q8 q9 q10 q11 vb1_0 vb1_1 q14 q15 vb0_15 vb0_16 r4.2.2 r4.2.1>>=fun r21=>
 if r21.1 then
 none
 else
 e24vacz qq q0 q1 q2 q3 q4 q5 q6 q7 q8 q9 q10 q11 vb1_0 vb1_1 q14 q15 r21.2.1 r21.2.2 r4.1 (w64 ((List.length q0:Int)-1)) x2.at_>>=fun r24=>
 if r24.1 != 0 then
 none
 else
 e121 qq q14 r4.1>>=fun r27=>
 e37vacy qq q0 q1 q2 q3 q4 q5 q6 q7 q8 q9 q10 q11 r24.2.2.1 r24.2.2.2 q14 q15 r24.1 r24.2.1 r27.2 x2.at_>>=fun r29=>
 if r29.1 then
 none
 else
 gapp 192 v4 [(Ent.mk 2 x2.name_ r27.1 (Tm.mk 0 0 []) (w64 ((List.length q0:Int)-1)) v23 (List.length q14:Int) 0 0 [] [])]>>=fun l32=>
 e76vadkLdl qq q0 q1 q2 q3 q4 q5 q6 q7 q8 q9 q10 q11 q14 q15 (w64 (v23+1)) l32 r29.2.1 r29.2.2 r24.2.2.1 r24.2.2.2
 else
 some (v4,vb0_15,vb0_16,vb1_0,vb1_1)
def e76vadk(qq:Nat)(q0:List EntZ)(q1 q2:Int)(q3:ByteArray)(q4:List TreeBind)(q5 q6:Int)(q7:ByteArray)(q8:Int)(q9:List TreeNode)(q10:List TreeBind)(q11:List TreeRow)(q12 q13:Int)(q14:List Tm)(q15:List ByteArray)(q16 q17:Int):Option (List Ent×Int×Int×Int×Int):=
 e76vadkLdl qq q0 q1 q2 q3 q4 q5 q6 q7 q8 q9 q10 q11 q14 q15 0 [] q16 q17 q12 q13
def g76vadkLdlE0(j:Nat->Value)(q0:List EntZ)(q1 q2:Int)(q3:ByteArray)(q4:List TreeBind)(q5 q6:Int)(q7:ByteArray)(q8:Int)(q9:List TreeNode)(q10:List TreeBind)(q11:List TreeRow)(q14:List Tm)(q15:List ByteArray)(v23:Int)(v4:List Ent)(vb0_15 vb0_16 vb1_0 vb1_1:Int):=sp j 92 0 [(0,.mp 0 0),(3,ai (w64 ((List.length q0:Int)-1))),(4,slv entL v4 (.st 0 15)),(21,slv treeBindL q10 .no),(22,ai (List.length q10:Int)),(23,ai v23)]
def g76vadkLdlS0(q0:List EntZ)(q1 q2:Int)(q3:ByteArray)(q4:List TreeBind)(q5 q6:Int)(q7:ByteArray)(q8:Int)(q9:List TreeNode)(q10:List TreeBind)(q11:List TreeRow)(q14:List Tm)(q15:List ByteArray)(v23:Int)(v4:List Ent)(vb0_15 vb0_16 vb1_0 vb1_1:Int):LSt:=⟨[(0,.cells [slv entZ q0 .no,ai q1,ai q2,at' q3,slv treeBindL q4 .no,ai q5,ai q6,at' q7,ai q8,slv treeNodeC q9 .no,slv treeBindL q10 .no,slv treeRowL q11 .no,.mp 1 0,slv tmCells q14 .no,slv strC q15 .no,ai vb0_15,ai vb0_16]),(1,.cells [ai vb1_0,ai vb1_1])],2,[0],1,[]⟩
abbrev K76vadk (q0:List EntZ) (q1 q2:Int) (q3:ByteArray) (q4:List TreeBind) (q5 q6:Int) (q7:ByteArray) (q8:Int) (q9:List TreeNode) (q10:List TreeBind) (q11:List TreeRow) (q12 q13:Int) (q14:List Tm) (q15:List ByteArray) (q16 q17:Int) (r:List Ent×Int×Int×Int×Int) (C:Cf):Prop:=C 76 [.cells [slv entZ q0 .no,ai q1,ai q2,at' q3,slv treeBindL q4 .no,ai q5,ai q6,at' q7,ai q8,slv treeNodeC q9 .no,slv treeBindL q10 .no,slv treeRowL q11 .no,.mp 1 0,slv tmCells q14 .no,slv strC q15 .no,ai q16,ai q17],.cells [ai q12,ai q13]] [.mp 0 0] (.sl (flat entL r.1) (List.length r.1) .no) [.cells [slv entZ q0 .no,ai q1,ai q2,at' q3,slv treeBindL q4 .no,ai q5,ai q6,at' q7,ai q8,slv treeNodeC q9 .no,slv treeBindL q10 .no,slv treeRowL q11 .no,.mp 1 0,slv tmCells q14 .no,slv strC q15 .no,ai r.2.1,ai r.2.2.1],.cells [ai r.2.2.2.1,ai r.2.2.2.2]] 0
theorem q76vadk:Qf 76 Tryz.f76:=⟨Tryz.func76,by kernel_rfl⟩
theorem k76vadk{q0 q1 q2 q3 q4 q5 q6 q7 q8 q9 q10 q11 q12 q13 q14 q15 q16 q17 r}(h:K76vadk q0 q1 q2 q3 q4 q5 q6 q7 q8 q9 q10 q11 q12 q13 q14 q15 q16 q17 r Ci):K76vadk q0 q1 q2 q3 q4 q5 q6 q7 q8 q9 q10 q11 q12 q13 q14 q15 q16 q17 r Ct:=⟨h,⟨(lz rfl),tv⟩,(forall_cons ⟨⟨tv,dEZ _⟩,tv,tv,tv,⟨tv,dTreeBind _⟩,tv,tv,tv,tv,⟨tv,dTreeNode _⟩,⟨tv,dTreeBind _⟩,⟨tv,dTreeRow _⟩,(lz rfl),⟨tv,dT _⟩,⟨tv,dS _⟩,tv,tv,tv⟩ (forall_cons ⟨tv,tv,tv⟩ forall_nil)),dE _,(forall_cons ⟨dEZ _,tv,tv,tv,dTreeBind _,tv,tv,tv,tv,dTreeNode _,dTreeBind _,dTreeRow _,(lz rfl),dT _,dS _,tv,tv,tv⟩ (forall_cons ⟨tv,tv,tv⟩ forall_nil))⟩
theorem l76vadkLdl:∀qq:Nat,(∀q0 q1 q2 q3 q4 q5 q6 q7 q8 q9 q10 q11 q14 q15 v23 v4 vb0_15 vb0_16 vb1_0 vb1_1 r,e76vadkLdl qq q0 q1 q2 q3 q4 q5 q6 q7 q8 q9 q10 q11 q14 q15 v23 v4 vb0_15 vb0_16 vb1_0 vb1_1=some r->(∀j,Dl Tryz.prog 2 (inn (inn (rgt (lft (rgt (rgt (rgt (bod Tryz.f76)))))))) (g76vadkLdlE0 j q0 q1 q2 q3 q4 q5 q6 q7 q8 q9 q10 q11 q14 q15 v23 v4 vb0_15 vb0_16 vb1_0 vb1_1) (g76vadkLdlS0 q0 q1 q2 q3 q4 q5 q6 q7 q8 q9 q10 q11 q14 q15 v23 v4 vb0_15 vb0_16 vb1_0 vb1_1) (frameQ Tryz.prog 2 (FinQ Tryz.prog 2 Tryz.f76 (.sl (flat entL r.1) (List.length r.1) .no) [.cells [slv entZ q0 .no,ai q1,ai q2,at' q3,slv treeBindL q4 .no,ai q5,ai q6,at' q7,ai q8,slv treeNodeC q9 .no,slv treeBindL q10 .no,slv treeRowL q11 .no,.mp 1 0,slv tmCells q14 .no,slv strC q15 .no,ai r.2.1,ai r.2.2.1],.cells [ai r.2.2.2.1,ai r.2.2.2.2]] 0) [.blk 0,.seq (rgt (rgt (rgt (rgt (bod Tryz.f76)))))]))):=by
 intro qq
 induction qq with
 |zero=>
  exact fun _ _ _ _ _ _ _ _ _ _ _ _ _ _ _ _ _ _ _ _ _ h=>nn h
 |succ qq ih=>
  intro q0 q1 q2 q3 q4 q5 q6 q7 q8 q9 q10 q11 q14 q15 v23 v4 vb0_15 vb0_16 vb1_0 vb1_1 r h
  rw[e76vadkLdl]at h
  rcases spl h with⟨h1,h⟩|⟨h1,h⟩
  obtain⟨x2,h3,h⟩:=obind h
  obtain⟨r4,h5,h⟩:=obind h
  have k:=oC 2 [] (c120 h5)<|oWk 2 (wkE q0 .no)<|oA 0 (ix56 (o:=.no) h3)<|oB 0 h1 o0
  obtain⟨h6,h⟩:=splF h
  obtain⟨r21,h22,h⟩:=obind h
  have k:=oB 4 h6 k
  obtain⟨h23,h⟩:=splF h
  obtain⟨r24,h25,h⟩:=obind h
  have k:=oC 2 [0,1] (c24vacz h25)<|oK 0 [0,1] h23 (c37vacy h22) k
  obtain⟨h26,h⟩:=splF h
  obtain⟨r27,h28,h⟩:=obind h
  obtain⟨r29,h30,h⟩:=obind h
  have k:=oC 2 [] (c121 h28)<|oB 1 h26 k
  obtain⟨h31,h⟩:=splF h
  obtain⟨l32,h33,h⟩:=obind h
  have k:=oK 4 [0,1] h31 (c37vacy h30) k
  by_cases h34:List.length [(Ent.mk 2 x2.name_ r27.1 (Tm.mk 0 0 []) (w64 ((List.length q0:Int)-1)) v23 (List.length q14:Int) 0 0 [] [])]=0
  exact fun j=>lH 1 [] [0,1] [0] [0,3,4,21,22,23] (oD (dTreeBind q10)<|oD (dE l32)<|oD (dS q15)<|oD (dT q14)<|oD (dTreeRow q11)<|oD (dTreeBind q10)<|oD (dTreeNode q9)<|oD (dTreeBind q4)<|oD (dEZ q0)<|oP 5 (apN22 h33 h34) k) (ih _ _ _ _ _ _ _ _ _ _ _ _ _ _ _ _ _ _ _ _ _ h)
  exact fun j=>lH 1 [] [0,1] [1] [0,3,4,21,22,23] (oD (dTreeBind q10)<|oD (dE l32)<|oD (dS q15)<|oD (dT q14)<|oD (dTreeRow q11)<|oD (dTreeBind q10)<|oD (dTreeNode q9)<|oD (dTreeBind q4)<|oD (dEZ q0)<|oP 5 (apS22 h33 h34) k) (ih _ _ _ _ _ _ _ _ _ _ _ _ _ _ _ _ _ _ _ _ _ h)
  obtain rfl:=sj h
  exact fun j=>lF 0 [0,1] (oD (dE v4)<|oD (dS q15)<|oD (dT q14)<|oD (dTreeRow q11)<|oD (dTreeBind q10)<|oD (dTreeNode q9)<|oD (dTreeBind q4)<|oD (dEZ q0)<|oB 0 h1 o0)
theorem c76vadk{qq q0 q1 q2 q3 q4 q5 q6 q7 q8 q9 q10 q11 q12 q13 q14 q15 q16 q17 r}(h:e76vadk qq q0 q1 q2 q3 q4 q5 q6 q7 q8 q9 q10 q11 q12 q13 q14 q15 q16 q17=some r):K76vadk q0 q1 q2 q3 q4 q5 q6 q7 q8 q9 q10 q11 q12 q13 q14 q15 q16 q17 r Ct:=by
 unfold e76vadk at h
 exact k76vadk (tH q76vadk 4 [(none,4,15)] [0,1] [0] [0,3,4,21,22,23] (oD (dTreeBind q10)<|oD (dE ([]:List Ent))<|oD (dS q15)<|oD (dT q14)<|oD (dTreeRow q11)<|oD (dTreeBind q10)<|oD (dTreeNode q9)<|oD (dTreeBind q4)<|oD (dEZ q0)<|oWk 0 (wkE q0 .no) o0) (l76vadkLdl _ _ _ _ _ _ _ _ _ _ _ _ _ _ _ _ _ _ _ _ _ _ h))
def e77vadmLdn:Nat->(List EntZ)->Int->Int->ByteArray->(List TreeBind)->Int->Int->ByteArray->Int->(List TreeNode)->(List TreeBind)->(List TreeRow)->Int->Int->(List Tm)->(List ByteArray)->Int->Int->(List Ent)->(List Ent)->Ent->Int->(List Int)->Option (List Ent×Int×Int)
 |0,_,_,_,_,_,_,_,_,_,_,_,_,_,_,_,_,_,_,_,_,_,_,_=>none
 |qq+1,q0,q1,q2,q3,q4,q5,q6,q7,q8,q9,q10,q11,q12,q13,q14,q15,q16,q17,p1,p2,x1,v21,vb2_13=>
 if decide (v21<(List.length p2:Int))then
 gapp 8 vb2_13 [(w64 ((w64 ((List.length p1:Int)+1))+v21))]>>=fun l5=>
 e77vadmLdn qq q0 q1 q2 q3 q4 q5 q6 q7 q8 q9 q10 q11 q12 q13 q14 q15 q16 q17 p1 p2 x1 (w64 (v21+1)) l5
 else
 gapp 192 [(Ent.mk x1.kind x1.name x1.type x1.body x1.fam x1.place x1.pars x1.inds x1.level vb2_13 x1.fields)] p2>>=fun l7=>
 e122 qq p1 l7>>=fun r10=>
 e37vacy qq q0 q1 q2 q3 q4 q5 q6 q7 q8 q9 q10 q11 q12 q13 q14 q15 q16 q17 r10.2 q2>>=fun r12=>
 some (r10.1,r12.2.1,r12.2.2)
def e77vadm(qq:Nat)(q0:List EntZ)(q1 q2:Int)(q3:ByteArray)(q4:List TreeBind)(q5 q6:Int)(q7:ByteArray)(q8:Int)(q9:List TreeNode)(q10:List TreeBind)(q11:List TreeRow)(q12 q13:Int)(q14:List Tm)(q15:List ByteArray)(q16 q17:Int)(p1 p2:List Ent):Option (List Ent×Int×Int):=
 gidx q0 (List.length p1:Int)>>=fun x1=>
 if List.isEmpty x1.cons then
 e77vadmLdn qq q0 q1 q2 q3 q4 q5 q6 q7 q8 q9 q10 q11 q12 q13 q14 q15 q16 q17 p1 p2 x1 0 []
 else
 none
def g77vadmLdnE0(j:Nat->Value)(q0:List EntZ)(q1 q2:Int)(q3:ByteArray)(q4:List TreeBind)(q5 q6:Int)(q7:ByteArray)(q8:Int)(q9:List TreeNode)(q10:List TreeBind)(q11:List TreeRow)(q12 q13:Int)(q14:List Tm)(q15:List ByteArray)(q16 q17:Int)(p1 p2:List Ent)(x1:Ent)(v21:Int)(vb2_13:List Int):=sp j 53 0 [(0,.mp 0 0),(1,slv entL p1 .no),(2,slv entL p2 .no),(7,.mp 2 0),(20,ai (List.length p2:Int)),(21,ai v21)]
def g77vadmLdnS0(q0:List EntZ)(q1 q2:Int)(q3:ByteArray)(q4:List TreeBind)(q5 q6:Int)(q7:ByteArray)(q8:Int)(q9:List TreeNode)(q10:List TreeBind)(q11:List TreeRow)(q12 q13:Int)(q14:List Tm)(q15:List ByteArray)(q16 q17:Int)(p1 p2:List Ent)(x1:Ent)(v21:Int)(vb2_13:List Int):LSt:=⟨[(0,.cells [slv entZ q0 .no,ai q1,ai q2,at' q3,slv treeBindL q4 .no,ai q5,ai q6,at' q7,ai q8,slv treeNodeC q9 .no,slv treeBindL q10 .no,slv treeRowL q11 .no,.mp 1 0,slv tmCells q14 .no,slv strC q15 .no,ai q16,ai q17]),(1,.cells [ai q12,ai q13]),(2,.cells [ai x1.kind,at' x1.name,ai x1.type.k,ai x1.type.n,slv tmCells x1.type.sub .no,ai x1.body.k,ai x1.body.n,slv tmCells x1.body.sub .no,ai x1.fam,ai x1.place,ai x1.pars,ai x1.inds,ai x1.level,slv intC vb2_13 (.st 0 1),slv intC x1.fields .no])],3,[0],1,[]⟩
abbrev K77vadm (q0:List EntZ) (q1 q2:Int) (q3:ByteArray) (q4:List TreeBind) (q5 q6:Int) (q7:ByteArray) (q8:Int) (q9:List TreeNode) (q10:List TreeBind) (q11:List TreeRow) (q12 q13:Int) (q14:List Tm) (q15:List ByteArray) (q16 q17:Int) (p1 p2:List Ent) (r:List Ent×Int×Int) (C:Cf):Prop:=C 77 [.cells [slv entZ q0 .no,ai q1,ai q2,at' q3,slv treeBindL q4 .no,ai q5,ai q6,at' q7,ai q8,slv treeNodeC q9 .no,slv treeBindL q10 .no,slv treeRowL q11 .no,.mp 1 0,slv tmCells q14 .no,slv strC q15 .no,ai q16,ai q17],.cells [ai q12,ai q13]] [.mp 0 0,slv entL p1 .no,slv entL p2 .no] (.sl (flat entL r.1) (List.length r.1) .no) [.cells [slv entZ q0 .no,ai q1,ai q2,at' q3,slv treeBindL q4 .no,ai q5,ai q6,at' q7,ai q8,slv treeNodeC q9 .no,slv treeBindL q10 .no,slv treeRowL q11 .no,.mp 1 0,slv tmCells q14 .no,slv strC q15 .no,ai r.2.1,ai r.2.2],.cells [ai q12,ai q13]] 0
theorem q77vadm:Qf 77 Tryz.f77:=⟨Tryz.func77,by kernel_rfl⟩
theorem k77vadm{q0 q1 q2 q3 q4 q5 q6 q7 q8 q9 q10 q11 q12 q13 q14 q15 q16 q17 p1 p2 r}(h:K77vadm q0 q1 q2 q3 q4 q5 q6 q7 q8 q9 q10 q11 q12 q13 q14 q15 q16 q17 p1 p2 r Ci):K77vadm q0 q1 q2 q3 q4 q5 q6 q7 q8 q9 q10 q11 q12 q13 q14 q15 q16 q17 p1 p2 r Ct:=⟨h,⟨(lz rfl),⟨tv,dE _⟩,⟨tv,dE _⟩,tv⟩,(forall_cons ⟨⟨tv,dEZ _⟩,tv,tv,tv,⟨tv,dTreeBind _⟩,tv,tv,tv,tv,⟨tv,dTreeNode _⟩,⟨tv,dTreeBind _⟩,⟨tv,dTreeRow _⟩,(lz rfl),⟨tv,dT _⟩,⟨tv,dS _⟩,tv,tv,tv⟩ (forall_cons ⟨tv,tv,tv⟩ forall_nil)),dE _,(forall_cons ⟨dEZ _,tv,tv,tv,dTreeBind _,tv,tv,tv,tv,dTreeNode _,dTreeBind _,dTreeRow _,(lz rfl),dT _,dS _,tv,tv,tv⟩ (forall_cons ⟨tv,tv,tv⟩ forall_nil))⟩
theorem l77vadmLdn:∀qq:Nat,(∀q0 q1 q2 q3 q4 q5 q6 q7 q8 q9 q10 q11 q12 q13 q14 q15 q16 q17 p1 p2 x1 v21 vb2_13 r,e77vadmLdn qq q0 q1 q2 q3 q4 q5 q6 q7 q8 q9 q10 q11 q12 q13 q14 q15 q16 q17 p1 p2 x1 v21 vb2_13=some r->(∀j,Dl Tryz.prog 2 (inn (inn (rgt (lft (rgt (rgt (bod Tryz.f77))))))) (g77vadmLdnE0 j q0 q1 q2 q3 q4 q5 q6 q7 q8 q9 q10 q11 q12 q13 q14 q15 q16 q17 p1 p2 x1 v21 vb2_13) (g77vadmLdnS0 q0 q1 q2 q3 q4 q5 q6 q7 q8 q9 q10 q11 q12 q13 q14 q15 q16 q17 p1 p2 x1 v21 vb2_13) (frameQ Tryz.prog 2 (FinQ Tryz.prog 2 Tryz.f77 (.sl (flat entL r.1) (List.length r.1) .no) [.cells [slv entZ q0 .no,ai q1,ai q2,at' q3,slv treeBindL q4 .no,ai q5,ai q6,at' q7,ai q8,slv treeNodeC q9 .no,slv treeBindL q10 .no,slv treeRowL q11 .no,.mp 1 0,slv tmCells q14 .no,slv strC q15 .no,ai r.2.1,ai r.2.2],.cells [ai q12,ai q13]] 0) [.blk 0,.seq (rgt (rgt (rgt (bod Tryz.f77))))]))):=by
 intro qq
 induction qq with
 |zero=>
  exact fun _ _ _ _ _ _ _ _ _ _ _ _ _ _ _ _ _ _ _ _ _ _ _ _ h=>nn h
 |succ qq ih=>
  intro q0 q1 q2 q3 q4 q5 q6 q7 q8 q9 q10 q11 q12 q13 q14 q15 q16 q17 p1 p2 x1 v21 vb2_13 r h
  rw[e77vadmLdn]at h
  rcases spl h with⟨h4,h⟩|⟨h4,h⟩
  obtain⟨l5,h6,h⟩:=obind h
  exact fun j=>lH 2 [] [0,1,2] [1] [0,1,2,7,20,21] (oD (dE p2)<|oD (dE p1)<|oD (dI x1.fields)<|oD (dI l5)<|oD (dT x1.body.sub)<|oD (dT x1.type.sub)<|oD (dS q15)<|oD (dT q14)<|oD (dTreeRow q11)<|oD (dTreeBind q10)<|oD (dTreeNode q9)<|oD (dTreeBind q4)<|oD (dEZ q0)<|oP 5 (apS32 h6 (by simp))<|oB 0 h4 o0) (ih _ _ _ _ _ _ _ _ _ _ _ _ _ _ _ _ _ _ _ _ _ _ _ _ h)
  obtain⟨l7,h8,h⟩:=obind h
  have k:=oB 0 h4 o0
  by_cases h9:List.length p2=0
  obtain⟨r10,h11,h⟩:=obind h
  obtain⟨r12,h13,h⟩:=obind h
  obtain rfl:=sj h
  exact fun j=>lF 0 [0,1] (oD (dE r10.1)<|oD (dS q15)<|oD (dT q14)<|oD (dTreeRow q11)<|oD (dTreeBind q10)<|oD (dTreeNode q9)<|oD (dTreeBind q4)<|oD (dEZ q0)<|oC 2 [0,1] (c37vacy h13)<|oWk 0 (wkE r10.1 .no)<|oC 0 [] (c122 h11)<|oP 2 (apN22 h8 h9) k)
  obtain⟨r10,h11,h⟩:=obind h
  obtain⟨r12,h13,h⟩:=obind h
  obtain rfl:=sj h
  exact fun j=>lF 0 [0,1] (oD (dE r10.1)<|oD (dS q15)<|oD (dT q14)<|oD (dTreeRow q11)<|oD (dTreeBind q10)<|oD (dTreeNode q9)<|oD (dTreeBind q4)<|oD (dEZ q0)<|oC 2 [0,1] (c37vacy h13)<|oWk 0 (wkE r10.1 .no)<|oC 0 [] (c122 h11)<|oP 2 (apS22 h8 h9) k)
theorem c77vadm{qq q0 q1 q2 q3 q4 q5 q6 q7 q8 q9 q10 q11 q12 q13 q14 q15 q16 q17 p1 p2 r}(h:e77vadm qq q0 q1 q2 q3 q4 q5 q6 q7 q8 q9 q10 q11 q12 q13 q14 q15 q16 q17 p1 p2=some r):K77vadm q0 q1 q2 q3 q4 q5 q6 q7 q8 q9 q10 q11 q12 q13 q14 q15 q16 q17 p1 p2 r Ct:=by
 unfold e77vadm at h
 obtain⟨x1,h2,h⟩:=obind h
 have k:=oA 2 (ixZ22 (o:=.no) h2) o0
 obtain⟨h3,h⟩:=spT h
 exact k77vadm (tH q77vadm 2 [(some 2,13,1)] [0,1,2] [0] [0,1,2,7,20,21] (oD (dE p2)<|oD (dE p1)<|oD (dI x1.fields)<|oD (dI ([]:List Int))<|oD (dT x1.body.sub)<|oD (dT x1.type.sub)<|oD (dS q15)<|oD (dT q14)<|oD (dTreeRow q11)<|oD (dTreeBind q10)<|oD (dTreeNode q9)<|oD (dTreeBind q4)<|oD (dEZ q0)<|oWk 0 (wkC h3) k) (l77vadmLdn _ _ _ _ _ _ _ _ _ _ _ _ _ _ _ _ _ _ _ _ _ _ _ _ _ h))
def e50Ldo(qq:Nat)(p0:List Ent)(p1:TreeDecl)(r11:List Tm×List ByteArray×Int×Int×Int×Int)(r14:List EntZ×Int×Int×Int×Int):Option (List Ent×Int×Int×Int×Int):=
 e76vadk qq r14.1 p1.kind_ p1.at_ p1.name_ p1.tele_ p1.type_.kind_ p1.type_.at_ p1.type_.name_ p1.type_.n_ p1.type_.sub_ p1.cons_ p1.rows_ r14.2.2.2.1 r14.2.2.2.2 r11.1 r11.2.1 r14.2.1 r14.2.2.1>>=fun r17=>
 if r17.2.1 != 0 then
 none
 else
 e77vadm qq r14.1 p1.kind_ p1.at_ p1.name_ p1.tele_ p1.type_.kind_ p1.type_.at_ p1.type_.name_ p1.type_.n_ p1.type_.sub_ p1.cons_ p1.rows_ r17.2.2.2.1 r17.2.2.2.2 r11.1 r11.2.1 r17.2.1 r17.2.2.1 p0 r17.1>>=fun r20=>
 if r20.2.1 != 0 then
 none
 else
 some (r20.1,0,0,r17.2.2.2.1,r17.2.2.2.2)
def e50Ldp(qq:Nat)(p0:List Ent)(p1:TreeDecl)(r11:List Tm×List ByteArray×Int×Int×Int×Int):Option (List Ent×Int×Int×Int×Int):=
 e75 qq p0 p1 r11.2.2.2.2.1 r11.2.2.2.2.2 r11.1 r11.2.1 r11.2.2.1 r11.2.2.2.1>>=fun r14=>
 if r14.2.1 != 0 then
 none
 else
 e50Ldo qq p0 p1 r11 r14
def e50Ldq(qq:Nat)(p0:List Ent)(p1:TreeDecl)(fl fu:Int)(r8:Int×Int):Option (List Ent×Int×Int×Int×Int):=
 e74vabk qq p0 p1.kind_ p1.at_ p1.name_ p1.tele_ p1.type_.kind_ p1.type_.at_ p1.type_.name_ p1.type_.n_ p1.type_.sub_ p1.cons_ p1.rows_ fl fu r8.1 r8.2>>=fun r11=>
 if r11.2.2.1 != 0 then
 none
 else
 e50Ldp qq p0 p1 r11
def e50Ldr(qq:Nat)(p0:List Ent)(p1:TreeDecl)(fl fu:Int):Option (List Ent×Int×Int×Int×Int):=
 e73vabk qq p0 p1.kind_ p1.at_ p1.name_ p1.tele_ p1.type_.kind_ p1.type_.at_ p1.type_.name_ p1.type_.n_ p1.type_.sub_ p1.cons_ p1.rows_ fl fu 0 0>>=fun r8=>
 if r8.1 != 0 then
 none
 else
 e50Ldq qq p0 p1 fl fu r8
def e50(qq:Nat)(p0:List Ent)(p1:TreeDecl)(fl fu:Int):Option (List Ent×Int×Int×Int×Int):=
 e19 qq p0>>=fun r1=>
 if r1 then
 e72 qq p1>>=fun r4=>
 if r4 then
 if p1.kind_ != 1 then
 none
 else
 e50Ldr qq p0 p1 fl fu
 else
 none
 else
 none
def g50LdrE0(j:Nat->Value)(p0:List Ent)(p1:TreeDecl)(fl fu:Int):=sp j 91 0 [(0,slv entL p0 .no),(9,.mp 1 0),(38,.agg [.clo 73 [.mp 1 0] [],.clo 74 [.mp 1 0] [],.clo 75 [.mp 1 0] []]),(39,ai 0)]
def g50LdrS0(p0:List Ent)(p1:TreeDecl)(fl fu:Int):LSt:=⟨[(0,.cells [ai fl,ai fu]),(1,.cells [slv entL p0 .no,ai p1.kind_,ai p1.at_,at' p1.name_,slv treeBindL p1.tele_ .no,ai p1.type_.kind_,ai p1.type_.at_,at' p1.type_.name_,ai p1.type_.n_,slv treeNodeC p1.type_.sub_ .no,slv treeBindL p1.cons_ .no,slv treeRowL p1.rows_ .no,.mp 0 0,slv tmCells ([]:List Tm) .nl,slv strC ([]:List ByteArray) .nl,ai 0,ai 0])],2,[],0,[]⟩
def g50LdqE0(j:Nat->Value)(p0:List Ent)(p1:TreeDecl)(fl fu:Int)(r8:Int×Int):=sp j 91 0 [(0,slv entL p0 .no),(9,.mp 1 0),(38,.agg [.clo 73 [.mp 1 0] [],.clo 74 [.mp 1 0] [],.clo 75 [.mp 1 0] []]),(39,ai 1)]
def g50LdqS0(p0:List Ent)(p1:TreeDecl)(fl fu:Int)(r8:Int×Int):LSt:=⟨[(0,.cells [ai fl,ai fu]),(1,.cells [slv entL p0 .no,ai p1.kind_,ai p1.at_,at' p1.name_,slv treeBindL p1.tele_ .no,ai p1.type_.kind_,ai p1.type_.at_,at' p1.type_.name_,ai p1.type_.n_,slv treeNodeC p1.type_.sub_ .no,slv treeBindL p1.cons_ .no,slv treeRowL p1.rows_ .no,.mp 0 0,slv tmCells ([]:List Tm) .nl,slv strC ([]:List ByteArray) .nl,ai r8.1,ai r8.2])],2,[],0,[]⟩
def g50LdpE0(j:Nat->Value)(p0:List Ent)(p1:TreeDecl)(r11:List Tm×List ByteArray×Int×Int×Int×Int):=sp j 91 0 [(0,slv entL p0 .no),(9,.mp 1 0),(38,.agg [.clo 73 [.mp 1 0] [],.clo 74 [.mp 1 0] [],.clo 75 [.mp 1 0] []]),(39,ai 2)]
def g50LdpS0(p0:List Ent)(p1:TreeDecl)(r11:List Tm×List ByteArray×Int×Int×Int×Int):LSt:=⟨[(0,.cells [ai r11.2.2.2.2.1,ai r11.2.2.2.2.2]),(1,.cells [slv entL p0 .no,ai p1.kind_,ai p1.at_,at' p1.name_,slv treeBindL p1.tele_ .no,ai p1.type_.kind_,ai p1.type_.at_,at' p1.type_.name_,ai p1.type_.n_,slv treeNodeC p1.type_.sub_ .no,slv treeBindL p1.cons_ .no,slv treeRowL p1.rows_ .no,.mp 0 0,slv tmCells r11.1 .no,slv strC r11.2.1 .no,ai r11.2.2.1,ai r11.2.2.2.1])],2,[],0,[]⟩
def g50LdoE0(j:Nat->Value)(p0:List Ent)(p1:TreeDecl)(r11:List Tm×List ByteArray×Int×Int×Int×Int)(r14:List EntZ×Int×Int×Int×Int):=sp j 91 0 [(0,slv entL p0 .no),(9,.mp 1 0),(38,.agg [.clo 73 [.mp 1 0] [],.clo 74 [.mp 1 0] [],.clo 75 [.mp 1 0] []]),(39,ai 3)]
def g50LdoS0(p0:List Ent)(p1:TreeDecl)(r11:List Tm×List ByteArray×Int×Int×Int×Int)(r14:List EntZ×Int×Int×Int×Int):LSt:=⟨[(0,.cells [ai r14.2.2.2.1,ai r14.2.2.2.2]),(1,.cells [slv entZ r14.1 .no,ai p1.kind_,ai p1.at_,at' p1.name_,slv treeBindL p1.tele_ .no,ai p1.type_.kind_,ai p1.type_.at_,at' p1.type_.name_,ai p1.type_.n_,slv treeNodeC p1.type_.sub_ .no,slv treeBindL p1.cons_ .no,slv treeRowL p1.rows_ .no,.mp 0 0,slv tmCells r11.1 .no,slv strC r11.2.1 .no,ai r14.2.1,ai r14.2.2.1])],2,[],0,[]⟩
abbrev K50 (p0:List Ent) (p1:TreeDecl) (fl fu:Int) (r:List Ent×Int×Int×Int×Int) (C:Cf):Prop:=C 50 [.cells [ai fl,ai fu]] [slv entL p0 .no,treeDeclA p1,.mp 0 0] (.tup [.sl (flat entL r.1) (List.length r.1) .no,ai r.2.1,ai r.2.2.1]) [.cells [ai r.2.2.2.1,ai r.2.2.2.2]] 0
theorem q50:Qf 50 Tryz.f50:=⟨Tryz.func50,by kernel_rfl⟩
theorem k50{p0 p1 fl fu r}(h:K50 p0 p1 fl fu r Ci):K50 p0 p1 fl fu r Ct:=⟨h,⟨⟨tv,dE _⟩,⟨tv,tv,tv,⟨tv,dTreeBind _⟩,tv,tv,tv,tv,⟨tv,dTreeNode _⟩,⟨tv,dTreeBind _⟩,⟨tv,dTreeRow _⟩,tv⟩,(lz rfl),tv⟩,(forall_cons ⟨tv,tv,tv⟩ forall_nil),⟨dE _,tv,tv,tv⟩,(forall_cons ⟨tv,tv,tv⟩ forall_nil)⟩
theorem l50Ldo(qq p0 p1 r11 r14 r)(h:e50Ldo qq p0 p1 r11 r14=some r):(∀j,Dl Tryz.prog 1 (inn (inn (rgt (lft (rgt (rgt (rgt (bod Tryz.f50)))))))) (g50LdoE0 j p0 p1 r11 r14) (g50LdoS0 p0 p1 r11 r14) (frameQ Tryz.prog 1 (FinQ Tryz.prog 1 Tryz.f50 (.tup [.sl (flat entL r.1) (List.length r.1) .no,ai r.2.1,ai r.2.2.1]) [.cells [ai r.2.2.2.1,ai r.2.2.2.2]] 0) [.blk 0,.seq (rgt (rgt (rgt (rgt (bod Tryz.f50)))))])):=by
 unfold e50Ldo at h
 obtain⟨r17,h18,h⟩:=obind h
 have k:=oC 1 [1,0] (c76vadk h18) o0
 obtain⟨h19,h⟩:=splF h
 obtain⟨r20,h21,h⟩:=obind h
 have k:=oC 0 [1,0] (c77vadm h21)<|oB 1 h19 k
 obtain⟨h22,h⟩:=splF h
 obtain rfl:=sj h
 exact fun j=>lF 0 [0] (oD (dE r20.1)<|oB 1 h22 k)
theorem l50Ldp(qq p0 p1 r11 r)(h:e50Ldp qq p0 p1 r11=some r):(∀j,Dl Tryz.prog 1 (inn (inn (rgt (lft (rgt (rgt (rgt (bod Tryz.f50)))))))) (g50LdpE0 j p0 p1 r11) (g50LdpS0 p0 p1 r11) (frameQ Tryz.prog 1 (FinQ Tryz.prog 1 Tryz.f50 (.tup [.sl (flat entL r.1) (List.length r.1) .no,ai r.2.1,ai r.2.2.1]) [.cells [ai r.2.2.2.1,ai r.2.2.2.2]] 0) [.blk 0,.seq (rgt (rgt (rgt (rgt (bod Tryz.f50)))))])):=by
 unfold e50Ldp at h
 obtain⟨r14,h15,h⟩:=obind h
 have k:=oC 2 [1,0] (c75 h15) o0
 obtain⟨h16,h⟩:=splF h
 exact fun j=>lH 1 [] [0,1] [] [0,9,38,39] (oD (dE p0)<|oD (dS r11.2.1)<|oD (dT r11.1)<|oD (dTreeRow p1.rows_)<|oD (dTreeBind p1.cons_)<|oD (dTreeNode p1.type_.sub_)<|oD (dTreeBind p1.tele_)<|oD (dEZ r14.1)<|oB 1 h16 k) (l50Ldo qq _ _ _ _ _ h)
theorem l50Ldq(qq p0 p1 fl fu r8 r)(h:e50Ldq qq p0 p1 fl fu r8=some r):(∀j,Dl Tryz.prog 1 (inn (inn (rgt (lft (rgt (rgt (rgt (bod Tryz.f50)))))))) (g50LdqE0 j p0 p1 fl fu r8) (g50LdqS0 p0 p1 fl fu r8) (frameQ Tryz.prog 1 (FinQ Tryz.prog 1 Tryz.f50 (.tup [.sl (flat entL r.1) (List.length r.1) .no,ai r.2.1,ai r.2.2.1]) [.cells [ai r.2.2.2.1,ai r.2.2.2.2]] 0) [.blk 0,.seq (rgt (rgt (rgt (rgt (bod Tryz.f50)))))])):=by
 unfold e50Ldq at h
 obtain⟨r11,h12,h⟩:=obind h
 have k:=oC 2 [1,0] (c74vabk h12) o0
 obtain⟨h13,h⟩:=splF h
 exact fun j=>lH 1 [] [0,1] [] [0,9,38,39] (oD (dE p0)<|oD (dS r11.2.1)<|oD (dT r11.1)<|oD (dTreeRow p1.rows_)<|oD (dTreeBind p1.cons_)<|oD (dTreeNode p1.type_.sub_)<|oD (dTreeBind p1.tele_)<|oD (dE p0)<|oB 1 h13 k) (l50Ldp qq _ _ _ _ h)
theorem l50Ldr(qq p0 p1 fl fu r)(h:e50Ldr qq p0 p1 fl fu=some r):(∀j,Dl Tryz.prog 1 (inn (inn (rgt (lft (rgt (rgt (rgt (bod Tryz.f50)))))))) (g50LdrE0 j p0 p1 fl fu) (g50LdrS0 p0 p1 fl fu) (frameQ Tryz.prog 1 (FinQ Tryz.prog 1 Tryz.f50 (.tup [.sl (flat entL r.1) (List.length r.1) .no,ai r.2.1,ai r.2.2.1]) [.cells [ai r.2.2.2.1,ai r.2.2.2.2]] 0) [.blk 0,.seq (rgt (rgt (rgt (rgt (bod Tryz.f50)))))])):=by
 unfold e50Ldr at h
 obtain⟨r8,h9,h⟩:=obind h
 have k:=oC 2 [1,0] (c73vabk h9) o0
 obtain⟨h10,h⟩:=splF h
 exact fun j=>lH 1 [] [0,1] [] [0,9,38,39] (oD (dE p0)<|oD (dS ([]:List ByteArray))<|oD (dT ([]:List Tm))<|oD (dTreeRow p1.rows_)<|oD (dTreeBind p1.cons_)<|oD (dTreeNode p1.type_.sub_)<|oD (dTreeBind p1.tele_)<|oD (dE p0)<|oB 1 h10 k) (l50Ldq qq _ _ _ _ _ _ h)
theorem c50{qq p0 p1 fl fu r}(h:e50 qq p0 p1 fl fu=some r):K50 p0 p1 fl fu r Ct:=by
 unfold e50 at h
 obtain⟨r1,h2,h⟩:=obind h
 obtain⟨h3,h⟩:=spT h
 obtain⟨r4,h5,h⟩:=obind h
 have k:=oK 0 [] h3 (c19 h2) o0
 obtain⟨h6,h⟩:=spT h
 have k:=oK 2 [] h6 (c72 h5) k
 obtain⟨h7,h⟩:=splF h
 exact k50 (tH q50 1 [] [0,2] [] [0,9,38,39] (oD (dE p0)<|oD (dS ([]:List ByteArray))<|oD (dT ([]:List Tm))<|oD (dTreeRow p1.rows_)<|oD (dTreeBind p1.cons_)<|oD (dTreeNode p1.type_.sub_)<|oD (dTreeBind p1.tele_)<|oD (dE p0)<|oB 2 h7 k) (l50Ldr qq _ _ _ _ _ h))
def e28(qq:Nat)(p0:List Ent)(p1:ByteArray)(p2:Int):Option (List Ent×Int×Int):=
 e49 qq p1>>=fun r1=>
 e5 qq p2>>=fun r3=>
 if r1.2.2 != 0 then
 none
 else
 if r3.1 != 0 then
 none
 else
 if (List.length r1.1:Int)==0 then
 none
 else
 gidx r1.1 0>>=fun x8=>
 e50 qq p0 x8 r3.2.1 r3.2.2>>=fun r10=>
 some (r10.1,r10.2.1,r10.2.2.1)
abbrev K28 (p0:List Ent) (p1:ByteArray) (p2:Int) (r:List Ent×Int×Int) (C:Cf):Prop:=C 28 [] [slv entL p0 .no,at' p1,ai p2] (.tup [.sl (flat entL r.1) (List.length r.1) .no,ai r.2.1,ai r.2.2]) [] 0
theorem q28:Qf 28 Tryz.f28:=⟨Tryz.func28,by kernel_rfl⟩
theorem k28{p0 p1 p2 r}(h:K28 p0 p1 p2 r Ci):K28 p0 p1 p2 r Ct:=⟨h,⟨⟨tv,dE _⟩,tv,tv,tv⟩,forall_nil,⟨dE _,tv,tv,tv⟩,forall_nil⟩
theorem c28{qq p0 p1 p2 r}(h:e28 qq p0 p1 p2=some r):K28 p0 p1 p2 r Ct:=by
 unfold e28 at h
 obtain⟨r1,h2,h⟩:=obind h
 obtain⟨r3,h4,h⟩:=obind h
 have k:=oC 3 [] (c5 h4)<|oC 0 [] (c49 h2) o0
 obtain⟨h5,h⟩:=splF h
 have k:=oB 2 h5 k
 obtain⟨h6,h⟩:=splF h
 have k:=oB 0 h6 k
 obtain⟨h7,h⟩:=splF h
 obtain⟨x8,h9,h⟩:=obind h
 obtain⟨r10,h11,h⟩:=obind h
 obtain rfl:=sj h
 exact k28 (tF q28 3 [] (oD (dE r10.1)<|oC 1 [0] (c50 h11)<|oA 0 (ix105 (o:=.no) h9)<|oB 1 h7 k))
def e11(qq:Nat)  : Option (Bool):=
 e28 qq [] (⟨#[100,97,116,97,32,78,32,58,32,83,101,116,32,123,32,122,32,58,32,78,59,32,115,32,58,32,78,32,45,62,32,78,59,32,125]⟩:ByteArray) 100>>=fun r1=>
 if r1.2.2==0 then
 if (List.length r1.1:Int)==3 then
 gidx r1.1 2>>=fun x5=>
 some (x5.name.toList==(⟨#[115]⟩:ByteArray).toList)
 else
 none
 else
 none
abbrev K11 (r:Bool) (C:Cf):Prop:=C 11 [] [] (ab r) [] 0
theorem q11:Qf 11 Tryz.f11:=⟨Tryz.func11,by kernel_rfl⟩
theorem k11{r}(h:K11 r Ci):K11 r Ct:=⟨h,tv,forall_nil,tv,forall_nil⟩
theorem c11{qq r}(h:e11 qq  = some r):K11 r Ct:=by
 unfold e11 at h
 obtain⟨r1,h2,h⟩:=obind h
 have k:=oC 0 [] (c28 h2) o0
 obtain⟨h3,h⟩:=spT h
 have k:=oB 3 h3 k
 obtain⟨h4,h⟩:=spT h
 obtain⟨x5,h6,h⟩:=obind h
 obtain rfl:=sj h
 exact k11 (tF q11 2 [] (oA 0 (ix22 (o:=.no) h6)<|oB 1 h4 k))
def e12(qq:Nat)(p0:ByteArray)(p1:Tm)(p2 p3:Int)(p4:List Int):Option (Ent):=
 some (Ent.mk 1 p0 p1 (Tm.mk 0 0 []) 0 0 p2 p3 0 p4 [])
abbrev K12 (p0:ByteArray) (p1:Tm) (p2 p3:Int) (p4:List Int) (r:Ent) (C:Cf):Prop:=C 12 [] [at' p0,tmA p1,ai p2,ai p3,slv intC p4 .no] (entA r) [] 0
theorem q12:Qf 12 Tryz.f12:=⟨Tryz.func12,by kernel_rfl⟩
theorem k12{p0 p1 p2 p3 p4 r}(h:K12 p0 p1 p2 p3 p4 r Ci):K12 p0 p1 p2 p3 p4 r Ct:=⟨h,⟨tv,⟨tv,tv,⟨tv,dT _⟩,tv⟩,tv,tv,⟨tv,dI _⟩,tv⟩,forall_nil,⟨tv,tv,tv,tv,dT _,tv,tv,dT _,tv,tv,tv,tv,tv,dI _,dI _,tv⟩,forall_nil⟩
theorem c12{qq p0 p1 p2 p3 p4 r}(h:e12 qq p0 p1 p2 p3 p4=some r):K12 p0 p1 p2 p3 p4 r Ct:=by
 unfold e12 at h
 obtain rfl:=sj h
 exact k12 (tF q12 2 [] (oD (dI ([]:List Int))<|oD (dI p4)<|oD (dT ([]:List Tm))<|oD (dT p1.sub) o0))
def e25(qq:Nat)(p0 p1:Int):Option (Tm):=
 some (Tm.mk p0 p1 [])
abbrev K25 (p0 p1:Int) (r:Tm) (C:Cf):Prop:=C 25 [] [ai p0,ai p1] (tmA r) [] 0
theorem q25:Qf 25 Tryz.f25:=⟨Tryz.func25,by kernel_rfl⟩
theorem k25{p0 p1 r}(h:K25 p0 p1 r Ci):K25 p0 p1 r Ct:=⟨h,⟨tv,tv,tv⟩,forall_nil,⟨tv,tv,dT _,tv⟩,forall_nil⟩
theorem c25{qq p0 p1 r}(h:e25 qq p0 p1=some r):K25 p0 p1 r Ct:=by
 unfold e25 at h
 obtain rfl:=sj h
 exact k25 (tF q25 1 [] (oD (dT ([]:List Tm)) o0))
def e13(qq:Nat)(p0:Int):Option (Tm):=
 e25 qq 1 p0>>=fun r1=>
 some r1
abbrev K13 (p0:Int) (r:Tm) (C:Cf):Prop:=C 13 [] [ai p0] (tmA r) [] 0
theorem q13:Qf 13 Tryz.f13:=⟨Tryz.func13,by kernel_rfl⟩
theorem k13{p0 r}(h:K13 p0 r Ci):K13 p0 r Ct:=⟨h,⟨tv,tv⟩,forall_nil,⟨tv,tv,dT _,tv⟩,forall_nil⟩
theorem c13{qq p0 r}(h:e13 qq p0=some r):K13 p0 r Ct:=by
 unfold e13 at h
 obtain⟨r1,h2,h⟩:=obind h
 obtain rfl:=sj h
 exact k13 (tF q13 1 [] (oD (dT r1.sub)<|oC 0 [] (c25 h2) o0))
def e14(qq:Nat)(p0 p1:Tm):Option (Tm):=
 e26 qq 4 p0 p1>>=fun r1=>
 some r1
abbrev K14 (p0 p1 r:Tm) (C:Cf):Prop:=C 14 [] [tmA p0,tmA p1] (tmA r) [] 0
theorem q14:Qf 14 Tryz.f14:=⟨Tryz.func14,by kernel_rfl⟩
theorem k14{p0 p1 r}(h:K14 p0 p1 r Ci):K14 p0 p1 r Ct:=⟨h,⟨⟨tv,tv,⟨tv,dT _⟩,tv⟩,⟨tv,tv,⟨tv,dT _⟩,tv⟩,tv⟩,forall_nil,⟨tv,tv,dT _,tv⟩,forall_nil⟩
theorem c14{qq p0 p1 r}(h:e14 qq p0 p1=some r):K14 p0 p1 r Ct:=by
 unfold e14 at h
 obtain⟨r1,h2,h⟩:=obind h
 obtain rfl:=sj h
 exact k14 (tF q14 1 [] (oD (dT r1.sub)<|oC 2 [] (c26 h2) o0))
def e29(qq:Nat)(p0 p1:Int)(p2:List Tm):Option (Tm):=
 some (Tm.mk p0 p1 p2)
abbrev K29 (p0 p1:Int) (p2:List Tm) (r:Tm) (C:Cf):Prop:=C 29 [] [ai p0,ai p1,slv tmCells p2 .no] (tmA r) [] 0
theorem q29:Qf 29 Tryz.f29:=⟨Tryz.func29,by kernel_rfl⟩
theorem k29{p0 p1 p2 r}(h:K29 p0 p1 p2 r Ci):K29 p0 p1 p2 r Ct:=⟨h,⟨tv,tv,⟨tv,dT _⟩,tv⟩,forall_nil,⟨tv,tv,dT _,tv⟩,forall_nil⟩
theorem c29{qq p0 p1 p2 r}(h:e29 qq p0 p1 p2=some r):K29 p0 p1 p2 r Ct:=by
 unfold e29 at h
 obtain rfl:=sj h
 exact k29 (tF q29 1 [] (oD (dT p2) o0))
def e9(qq:Nat)(p0:Int):Option (Tm):=
 e25 qq 2 p0>>=fun r1=>
 some r1
abbrev K9 (p0:Int) (r:Tm) (C:Cf):Prop:=C 9 [] [ai p0] (tmA r) [] 0
theorem q9:Qf 9 Tryz.f9:=⟨Tryz.func9,by kernel_rfl⟩
theorem k9{p0 r}(h:K9 p0 r Ci):K9 p0 r Ct:=⟨h,⟨tv,tv⟩,forall_nil,⟨tv,tv,dT _,tv⟩,forall_nil⟩
theorem c9{qq p0 r}(h:e9 qq p0=some r):K9 p0 r Ct:=by
 unfold e9 at h
 obtain⟨r1,h2,h⟩:=obind h
 obtain rfl:=sj h
 exact k9 (tF q9 1 [] (oD (dT r1.sub)<|oC 0 [] (c25 h2) o0))
def e15(qq:Nat)(p0 p1:Int):Option (Tm):=
 e9 qq p1>>=fun r1=>
 e29 qq 7 p0 [r1]>>=fun r3=>
 some r3
abbrev K15 (p0 p1:Int) (r:Tm) (C:Cf):Prop:=C 15 [] [ai p0,ai p1] (tmA r) [] 0
theorem q15:Qf 15 Tryz.f15:=⟨Tryz.func15,by kernel_rfl⟩
theorem k15{p0 p1 r}(h:K15 p0 p1 r Ci):K15 p0 p1 r Ct:=⟨h,⟨tv,tv,tv⟩,forall_nil,⟨tv,tv,dT _,tv⟩,forall_nil⟩
theorem c15{qq p0 p1 r}(h:e15 qq p0 p1=some r):K15 p0 p1 r Ct:=by
 unfold e15 at h
 obtain⟨r1,h2,h⟩:=obind h
 obtain⟨r3,h4,h⟩:=obind h
 obtain rfl:=sj h
 exact k15 (tF q15 1 [] (oD (dT r3.sub)<|oC 0 [] (c29 h4)<|oS 0 (obLitR tm_eq [r1])<|oC 0 [] (c9 h2) o0))
def e16(qq:Nat)(p0:ByteArray)(p1:Tm)(p2 p3 p4:Int):Option (Ent):=
 some (Ent.mk 2 p0 p1 (Tm.mk 0 0 []) p2 p3 p4 0 0 [] [])
abbrev K16 (p0:ByteArray) (p1:Tm) (p2 p3 p4:Int) (r:Ent) (C:Cf):Prop:=C 16 [] [at' p0,tmA p1,ai p2,ai p3,ai p4] (entA r) [] 0
theorem q16:Qf 16 Tryz.f16:=⟨Tryz.func16,by kernel_rfl⟩
theorem k16{p0 p1 p2 p3 p4 r}(h:K16 p0 p1 p2 p3 p4 r Ci):K16 p0 p1 p2 p3 p4 r Ct:=⟨h,⟨tv,⟨tv,tv,⟨tv,dT _⟩,tv⟩,tv,tv,tv,tv⟩,forall_nil,⟨tv,tv,tv,tv,dT _,tv,tv,dT _,tv,tv,tv,tv,tv,dI _,dI _,tv⟩,forall_nil⟩
theorem c16{qq p0 p1 p2 p3 p4 r}(h:e16 qq p0 p1 p2 p3 p4=some r):K16 p0 p1 p2 p3 p4 r Ct:=by
 unfold e16 at h
 obtain rfl:=sj h
 exact k16 (tF q16 2 [] (oD (dI ([]:List Int))<|oD (dI ([]:List Int))<|oD (dT ([]:List Tm))<|oD (dT p1.sub) o0))
def e17(qq:Nat)(p0:ByteArray)(p1:Tm)(p2:Int):Option (Ent):=
 some (Ent.mk 4 p0 p1 (Tm.mk 0 0 []) 14 p2 2 0 0 [] [])
abbrev K17 (p0:ByteArray) (p1:Tm) (p2:Int) (r:Ent) (C:Cf):Prop:=C 17 [] [at' p0,tmA p1,ai p2] (entA r) [] 0
theorem q17:Qf 17 Tryz.f17:=⟨Tryz.func17,by kernel_rfl⟩
theorem k17{p0 p1 p2 r}(h:K17 p0 p1 p2 r Ci):K17 p0 p1 p2 r Ct:=⟨h,⟨tv,⟨tv,tv,⟨tv,dT _⟩,tv⟩,tv,tv⟩,forall_nil,⟨tv,tv,tv,tv,dT _,tv,tv,dT _,tv,tv,tv,tv,tv,dI _,dI _,tv⟩,forall_nil⟩
theorem c17{qq p0 p1 p2 r}(h:e17 qq p0 p1 p2=some r):K17 p0 p1 p2 r Ct:=by
 unfold e17 at h
 obtain rfl:=sj h
 exact k17 (tF q17 2 [] (oD (dI ([]:List Int))<|oD (dI ([]:List Int))<|oD (dT ([]:List Tm))<|oD (dT p1.sub) o0))
def e7(qq:Nat)(p0:Int):Option (Tm):=
 e25 qq 6 p0>>=fun r1=>
 some r1
abbrev K7 (p0:Int) (r:Tm) (C:Cf):Prop:=C 7 [] [ai p0] (tmA r) [] 0
theorem q7:Qf 7 Tryz.f7:=⟨Tryz.func7,by kernel_rfl⟩
theorem k7{p0 r}(h:K7 p0 r Ci):K7 p0 r Ct:=⟨h,⟨tv,tv⟩,forall_nil,⟨tv,tv,dT _,tv⟩,forall_nil⟩
theorem c7{qq p0 r}(h:e7 qq p0=some r):K7 p0 r Ct:=by
 unfold e7 at h
 obtain⟨r1,h2,h⟩:=obind h
 obtain rfl:=sj h
 exact k7 (tF q7 1 [] (oD (dT r1.sub)<|oC 0 [] (c25 h2) o0))
def e8(qq:Nat)(p0 p1:Tm):Option (Tm):=
 e26 qq 3 p0 p1>>=fun r1=>
 some r1
abbrev K8 (p0 p1 r:Tm) (C:Cf):Prop:=C 8 [] [tmA p0,tmA p1] (tmA r) [] 0
theorem q8:Qf 8 Tryz.f8:=⟨Tryz.func8,by kernel_rfl⟩
theorem k8{p0 p1 r}(h:K8 p0 p1 r Ci):K8 p0 p1 r Ct:=⟨h,⟨⟨tv,tv,⟨tv,dT _⟩,tv⟩,⟨tv,tv,⟨tv,dT _⟩,tv⟩,tv⟩,forall_nil,⟨tv,tv,dT _,tv⟩,forall_nil⟩
theorem c8{qq p0 p1 r}(h:e8 qq p0 p1=some r):K8 p0 p1 r Ct:=by
 unfold e8 at h
 obtain⟨r1,h2,h⟩:=obind h
 obtain rfl:=sj h
 exact k8 (tF q8 1 [] (oD (dT r1.sub)<|oC 2 [] (c26 h2) o0))
def e4(qq:Nat)  : Option (List Ent):=
 e7 qq 0>>=fun r1=>
 e9 qq 0>>=fun r3=>
 e9 qq 0>>=fun r5=>
 e9 qq 0>>=fun r7=>
 e8 qq r5 r7>>=fun r9=>
 e8 qq r3 r9>>=fun r11=>
 e12 qq (⟨#[80,97,105,114]⟩:ByteArray) r11 2 0 [15]>>=fun r13=>
 e7 qq 14>>=fun r15=>
 e13 qq 1>>=fun r17=>
 e13 qq 0>>=fun r19=>
 e10 qq r15 [r17,r19]>>=fun r21=>
 e15 qq 0 0>>=fun r23=>
 e14 qq r1 r1>>=fun r25=>
 e13 qq 0>>=fun r27=>
 e7 qq 2>>=fun r29=>
 e13 qq 0>>=fun r31=>
 e10 qq r29 [r31]>>=fun r33=>
 e14 qq r1 r33>>=fun r35=>
 e14 qq r1 r35>>=fun r37=>
 e13 qq 1>>=fun r39=>
 e10 qq r23 [r25,r27,r37,r39]>>=fun r41=>
 e14 qq r1 r41>>=fun r43=>
 e14 qq r1 r43>>=fun r45=>
 e9 qq 0>>=fun r47=>
 e12 qq (⟨#[78,97,116]⟩:ByteArray) r47 0 0 [1,2]>>=fun r49=>
 e16 qq (⟨#[122,101,114,111]⟩:ByteArray) r1 0 0 0>>=fun r51=>
 e8 qq r1 r1>>=fun r53=>
 e16 qq (⟨#[115,117,99]⟩:ByteArray) r53 0 1 0>>=fun r55=>
 e9 qq 0>>=fun r57=>
 e12 qq (⟨#[66,111,111,108]⟩:ByteArray) r57 0 0 [4,5]>>=fun r59=>
 e7 qq 3>>=fun r61=>
 e16 qq (⟨#[116,114,117,101]⟩:ByteArray) r61 3 0 0>>=fun r63=>
 e7 qq 3>>=fun r65=>
 e16 qq (⟨#[102,97,108,115,101]⟩:ByteArray) r65 3 1 0>>=fun r67=>
 e9 qq 0>>=fun r69=>
 e9 qq 0>>=fun r71=>
 e8 qq r69 r71>>=fun r73=>
 e12 qq (⟨#[76,105,115,116]⟩:ByteArray) r73 1 0 [7,8]>>=fun r75=>
 e9 qq 0>>=fun r77=>
 e7 qq 6>>=fun r79=>
 e13 qq 0>>=fun r81=>
 e10 qq r79 [r81]>>=fun r83=>
 e8 qq r77 r83>>=fun r85=>
 e16 qq (⟨#[110,105,108]⟩:ByteArray) r85 6 0 1>>=fun r87=>
 e9 qq 0>>=fun r89=>
 e13 qq 0>>=fun r91=>
 e7 qq 6>>=fun r93=>
 e13 qq 1>>=fun r95=>
 e10 qq r93 [r95]>>=fun r97=>
 e7 qq 6>>=fun r99=>
 e13 qq 2>>=fun r101=>
 e10 qq r99 [r101]>>=fun r103=>
 e8 qq r97 r103>>=fun r105=>
 e8 qq r91 r105>>=fun r107=>
 e8 qq r89 r107>>=fun r109=>
 e16 qq (⟨#[99,111,110,115]⟩:ByteArray) r109 6 1 1>>=fun r111=>
 e9 qq 0>>=fun r113=>
 e9 qq 0>>=fun r115=>
 e8 qq r1 r115>>=fun r117=>
 e8 qq r113 r117>>=fun r119=>
 e12 qq (⟨#[86,101,99]⟩:ByteArray) r119 1 1 [10,11]>>=fun r121=>
 e9 qq 0>>=fun r123=>
 e7 qq 9>>=fun r125=>
 e13 qq 0>>=fun r127=>
 e7 qq 1>>=fun r129=>
 e10 qq r125 [r127,r129]>>=fun r131=>
 e8 qq r123 r131>>=fun r133=>
 e16 qq (⟨#[118,110,105,108]⟩:ByteArray) r133 9 0 1>>=fun r135=>
 e9 qq 0>>=fun r137=>
 e13 qq 1>>=fun r139=>
 e7 qq 9>>=fun r141=>
 e13 qq 2>>=fun r143=>
 e13 qq 1>>=fun r145=>
 e10 qq r141 [r143,r145]>>=fun r147=>
 e7 qq 9>>=fun r149=>
 e13 qq 3>>=fun r151=>
 e7 qq 2>>=fun r153=>
 e13 qq 2>>=fun r155=>
 e10 qq r153 [r155]>>=fun r157=>
 e10 qq r149 [r151,r157]>>=fun r159=>
 e8 qq r147 r159>>=fun r161=>
 e8 qq r139 r161>>=fun r163=>
 e8 qq r1 r163>>=fun r165=>
 e8 qq r137 r165>>=fun r167=>
 e16 qq (⟨#[118,99,111,110,115]⟩:ByteArray) r167 9 1 1>>=fun r169=>
 e9 qq 0>>=fun r171=>
 e13 qq 0>>=fun r173=>
 e13 qq 1>>=fun r175=>
 e9 qq 0>>=fun r177=>
 e8 qq r175 r177>>=fun r179=>
 e8 qq r173 r179>>=fun r181=>
 e8 qq r171 r181>>=fun r183=>
 e12 qq (⟨#[69,113]⟩:ByteArray) r183 2 1 [13]>>=fun r185=>
 e9 qq 0>>=fun r187=>
 e13 qq 0>>=fun r189=>
 e7 qq 12>>=fun r191=>
 e13 qq 1>>=fun r193=>
 e13 qq 0>>=fun r195=>
 e13 qq 0>>=fun r197=>
 e10 qq r191 [r193,r195,r197]>>=fun r199=>
 e8 qq r189 r199>>=fun r201=>
 e8 qq r187 r201>>=fun r203=>
 e16 qq (⟨#[114,101,102,108]⟩:ByteArray) r203 12 0 2>>=fun r205=>
 e9 qq 0>>=fun r207=>
 e9 qq 0>>=fun r209=>
 e13 qq 1>>=fun r211=>
 e13 qq 1>>=fun r213=>
 e7 qq 14>>=fun r215=>
 e13 qq 3>>=fun r217=>
 e13 qq 2>>=fun r219=>
 e10 qq r215 [r217,r219]>>=fun r221=>
 e8 qq r213 r221>>=fun r223=>
 e8 qq r211 r223>>=fun r225=>
 e8 qq r209 r225>>=fun r227=>
 e8 qq r207 r227>>=fun r229=>
 e16 qq (⟨#[112,97,105,114]⟩:ByteArray) r229 14 0 2>>=fun r231=>
 e9 qq 0>>=fun r233=>
 e9 qq 0>>=fun r235=>
 e13 qq 2>>=fun r237=>
 e8 qq r21 r237>>=fun r239=>
 e8 qq r235 r239>>=fun r241=>
 e8 qq r233 r241>>=fun r243=>
 e17 qq (⟨#[102,115,116]⟩:ByteArray) r243 0>>=fun r245=>
 e9 qq 0>>=fun r247=>
 e9 qq 0>>=fun r249=>
 e13 qq 1>>=fun r251=>
 e8 qq r21 r251>>=fun r253=>
 e8 qq r249 r253>>=fun r255=>
 e8 qq r247 r255>>=fun r257=>
 e17 qq (⟨#[115,110,100]⟩:ByteArray) r257 1>>=fun r259=>
 e9 qq 0>>=fun r261=>
 e12 qq (⟨#[84,114,101,101]⟩:ByteArray) r261 0 0 [19,20]>>=fun r263=>
 e7 qq 18>>=fun r265=>
 e16 qq (⟨#[108,101,97,102]⟩:ByteArray) r265 18 0 0>>=fun r267=>
 e7 qq 18>>=fun r269=>
 e8 qq r1 r269>>=fun r271=>
 e7 qq 18>>=fun r273=>
 e8 qq r271 r273>>=fun r275=>
 e16 qq (⟨#[110,111,100,101]⟩:ByteArray) r275 18 1 0>>=fun r277=>
 e8 qq r1 r1>>=fun r279=>
 e8 qq r1 r279>>=fun r281=>
 e9 qq 0>>=fun r283=>
 e13 qq 0>>=fun r285=>
 e13 qq 1>>=fun r287=>
 e8 qq r285 r287>>=fun r289=>
 e8 qq r283 r289>>=fun r291=>
 e9 qq 0>>=fun r293=>
 e13 qq 0>>=fun r295=>
 e13 qq 0>>=fun r297=>
 e14 qq r295 r297>>=fun r299=>
 e14 qq r293 r299>>=fun r301=>
 gfz (List.length [r49,r51,r55,r59,r63,r67,r75,r87,r111,r121,r135,r169,r185,r205,(Ent.mk r13.kind r13.name r13.type r13.body r13.fam r13.place r13.pars r13.inds r13.level r13.cons [16,17]),r231,r245,r259,r263,r267,r277,(Ent.mk 3 (⟨#[112,108,117,115]⟩:ByteArray) r281 r45 0 0 0 0 0 [] []),(Ent.mk 3 (⟨#[105,100]⟩:ByteArray) r291 r301 0 0 0 0 0 [] [])]) [r49,r51,r55,r59,r63,r67,r75,r87,r111,r121,r135,r169,r185,r205,(Ent.mk r13.kind r13.name r13.type r13.body r13.fam r13.place r13.pars r13.inds r13.level r13.cons [16,17]),r231,r245,r259,r263,r267,r277,(Ent.mk 3 (⟨#[112,108,117,115]⟩:ByteArray) r281 r45 0 0 0 0 0 [] []),(Ent.mk 3 (⟨#[105,100]⟩:ByteArray) r291 r301 0 0 0 0 0 [] [])]>>=fun l303=>
 some l303
abbrev K4 (r:List Ent) (C:Cf):Prop:=C 4 [] [] (.ms 0 0 (List.length r) (List.length r) 15) [.row (flat entL r)] 0
theorem q4:Qf 4 Tryz.f4:=⟨Tryz.func4,by kernel_rfl⟩
theorem k4{r}(h:K4 r Ci):K4 r Ct:=⟨h,tv,forall_nil,(lz rfl),(forall_cons (dE _) forall_nil)⟩
theorem c4r{qq r}(h:e4 qq  = some r):K4 r Ct:=by
 unfold e4 at h
 obtain⟨r1,h2,h⟩:=obind h
 obtain⟨r3,h4,h⟩:=obind h
 obtain⟨r5,h6,h⟩:=obind h
 obtain⟨r7,h8,h⟩:=obind h
 obtain⟨r9,h10,h⟩:=obind h
 obtain⟨r11,h12,h⟩:=obind h
 obtain⟨r13,h14,h⟩:=obind h
 obtain⟨r15,h16,h⟩:=obind h
 obtain⟨r17,h18,h⟩:=obind h
 obtain⟨r19,h20,h⟩:=obind h
 obtain⟨r21,h22,h⟩:=obind h
 obtain⟨r23,h24,h⟩:=obind h
 obtain⟨r25,h26,h⟩:=obind h
 obtain⟨r27,h28,h⟩:=obind h
 obtain⟨r29,h30,h⟩:=obind h
 obtain⟨r31,h32,h⟩:=obind h
 obtain⟨r33,h34,h⟩:=obind h
 obtain⟨r35,h36,h⟩:=obind h
 obtain⟨r37,h38,h⟩:=obind h
 obtain⟨r39,h40,h⟩:=obind h
 obtain⟨r41,h42,h⟩:=obind h
 obtain⟨r43,h44,h⟩:=obind h
 obtain⟨r45,h46,h⟩:=obind h
 obtain⟨r47,h48,h⟩:=obind h
 obtain⟨r49,h50,h⟩:=obind h
 obtain⟨r51,h52,h⟩:=obind h
 obtain⟨r53,h54,h⟩:=obind h
 obtain⟨r55,h56,h⟩:=obind h
 obtain⟨r57,h58,h⟩:=obind h
 obtain⟨r59,h60,h⟩:=obind h
 obtain⟨r61,h62,h⟩:=obind h
 obtain⟨r63,h64,h⟩:=obind h
 obtain⟨r65,h66,h⟩:=obind h
 obtain⟨r67,h68,h⟩:=obind h
 obtain⟨r69,h70,h⟩:=obind h
 obtain⟨r71,h72,h⟩:=obind h
 obtain⟨r73,h74,h⟩:=obind h
 obtain⟨r75,h76,h⟩:=obind h
 obtain⟨r77,h78,h⟩:=obind h
 obtain⟨r79,h80,h⟩:=obind h
 obtain⟨r81,h82,h⟩:=obind h
 obtain⟨r83,h84,h⟩:=obind h
 obtain⟨r85,h86,h⟩:=obind h
 obtain⟨r87,h88,h⟩:=obind h
 obtain⟨r89,h90,h⟩:=obind h
 obtain⟨r91,h92,h⟩:=obind h
 obtain⟨r93,h94,h⟩:=obind h
 obtain⟨r95,h96,h⟩:=obind h
 obtain⟨r97,h98,h⟩:=obind h
 obtain⟨r99,h100,h⟩:=obind h
 obtain⟨r101,h102,h⟩:=obind h
 obtain⟨r103,h104,h⟩:=obind h
 obtain⟨r105,h106,h⟩:=obind h
 obtain⟨r107,h108,h⟩:=obind h
 obtain⟨r109,h110,h⟩:=obind h
 obtain⟨r111,h112,h⟩:=obind h
 obtain⟨r113,h114,h⟩:=obind h
 obtain⟨r115,h116,h⟩:=obind h
 obtain⟨r117,h118,h⟩:=obind h
 obtain⟨r119,h120,h⟩:=obind h
 obtain⟨r121,h122,h⟩:=obind h
 obtain⟨r123,h124,h⟩:=obind h
 obtain⟨r125,h126,h⟩:=obind h
 obtain⟨r127,h128,h⟩:=obind h
 obtain⟨r129,h130,h⟩:=obind h
 obtain⟨r131,h132,h⟩:=obind h
 obtain⟨r133,h134,h⟩:=obind h
 obtain⟨r135,h136,h⟩:=obind h
 obtain⟨r137,h138,h⟩:=obind h
 obtain⟨r139,h140,h⟩:=obind h
 obtain⟨r141,h142,h⟩:=obind h
 obtain⟨r143,h144,h⟩:=obind h
 obtain⟨r145,h146,h⟩:=obind h
 obtain⟨r147,h148,h⟩:=obind h
 obtain⟨r149,h150,h⟩:=obind h
 obtain⟨r151,h152,h⟩:=obind h
 obtain⟨r153,h154,h⟩:=obind h
 obtain⟨r155,h156,h⟩:=obind h
 obtain⟨r157,h158,h⟩:=obind h
 obtain⟨r159,h160,h⟩:=obind h
 obtain⟨r161,h162,h⟩:=obind h
 obtain⟨r163,h164,h⟩:=obind h
 obtain⟨r165,h166,h⟩:=obind h
 obtain⟨r167,h168,h⟩:=obind h
 obtain⟨r169,h170,h⟩:=obind h
 obtain⟨r171,h172,h⟩:=obind h
 obtain⟨r173,h174,h⟩:=obind h
 obtain⟨r175,h176,h⟩:=obind h
 obtain⟨r177,h178,h⟩:=obind h
 obtain⟨r179,h180,h⟩:=obind h
 obtain⟨r181,h182,h⟩:=obind h
 obtain⟨r183,h184,h⟩:=obind h
 obtain⟨r185,h186,h⟩:=obind h
 obtain⟨r187,h188,h⟩:=obind h
 obtain⟨r189,h190,h⟩:=obind h
 obtain⟨r191,h192,h⟩:=obind h
 obtain⟨r193,h194,h⟩:=obind h
 obtain⟨r195,h196,h⟩:=obind h
 obtain⟨r197,h198,h⟩:=obind h
 obtain⟨r199,h200,h⟩:=obind h
 obtain⟨r201,h202,h⟩:=obind h
 obtain⟨r203,h204,h⟩:=obind h
 obtain⟨r205,h206,h⟩:=obind h
 obtain⟨r207,h208,h⟩:=obind h
 obtain⟨r209,h210,h⟩:=obind h
 obtain⟨r211,h212,h⟩:=obind h
 obtain⟨r213,h214,h⟩:=obind h
 obtain⟨r215,h216,h⟩:=obind h
 obtain⟨r217,h218,h⟩:=obind h
 obtain⟨r219,h220,h⟩:=obind h
 obtain⟨r221,h222,h⟩:=obind h
 obtain⟨r223,h224,h⟩:=obind h
 obtain⟨r225,h226,h⟩:=obind h
 obtain⟨r227,h228,h⟩:=obind h
 obtain⟨r229,h230,h⟩:=obind h
 obtain⟨r231,h232,h⟩:=obind h
 obtain⟨r233,h234,h⟩:=obind h
 obtain⟨r235,h236,h⟩:=obind h
 obtain⟨r237,h238,h⟩:=obind h
 obtain⟨r239,h240,h⟩:=obind h
 obtain⟨r241,h242,h⟩:=obind h
 obtain⟨r243,h244,h⟩:=obind h
 obtain⟨r245,h246,h⟩:=obind h
 obtain⟨r247,h248,h⟩:=obind h
 obtain⟨r249,h250,h⟩:=obind h
 obtain⟨r251,h252,h⟩:=obind h
 obtain⟨r253,h254,h⟩:=obind h
 obtain⟨r255,h256,h⟩:=obind h
 obtain⟨r257,h258,h⟩:=obind h
 obtain⟨r259,h260,h⟩:=obind h
 obtain⟨r261,h262,h⟩:=obind h
 obtain⟨r263,h264,h⟩:=obind h
 obtain⟨r265,h266,h⟩:=obind h
 obtain⟨r267,h268,h⟩:=obind h
 obtain⟨r269,h270,h⟩:=obind h
 obtain⟨r271,h272,h⟩:=obind h
 obtain⟨r273,h274,h⟩:=obind h
 obtain⟨r275,h276,h⟩:=obind h
 obtain⟨r277,h278,h⟩:=obind h
 obtain⟨r279,h280,h⟩:=obind h
 obtain⟨r281,h282,h⟩:=obind h
 obtain⟨r283,h284,h⟩:=obind h
 obtain⟨r285,h286,h⟩:=obind h
 obtain⟨r287,h288,h⟩:=obind h
 obtain⟨r289,h290,h⟩:=obind h
 obtain⟨r291,h292,h⟩:=obind h
 obtain⟨r293,h294,h⟩:=obind h
 obtain⟨r295,h296,h⟩:=obind h
 obtain⟨r297,h298,h⟩:=obind h
 obtain⟨r299,h300,h⟩:=obind h
 obtain⟨r301,h302,h⟩:=obind h
 obtain⟨l303,h304,h⟩:=obind h
 obtain⟨h304a,h304b⟩:=gfz_spec h304
 obtain rfl:=sj h
 obtain rfl:=h304a.symm
 try dsimp only
 exact k4 (by unfold K4;rw[←h304b];exact(tF q4 0 [4] (oD (dE [r49,r51,r55,r59,r63,r67,r75,r87,r111,r121,r135,r169,r185,r205,(Ent.mk r13.kind r13.name r13.type r13.body r13.fam r13.place r13.pars r13.inds r13.level r13.cons [16,17]),r231,r245,r259,r263,r267,r277,(Ent.mk 3 (⟨#[112,108,117,115]⟩:ByteArray) r281 r45 0 0 0 0 0 [] []),(Ent.mk 3 (⟨#[105,100]⟩:ByteArray) r291 r301 0 0 0 0 0 [] [])])<|oM 0 (obMkR entL [r49,r51,r55,r59,r63,r67,r75,r87,r111,r121,r135,r169,r185,r205,(Ent.mk r13.kind r13.name r13.type r13.body r13.fam r13.place r13.pars r13.inds r13.level r13.cons [16,17]),r231,r245,r259,r263,r267,r277,(Ent.mk 3 (⟨#[112,108,117,115]⟩:ByteArray) r281 r45 0 0 0 0 0 [] []),(Ent.mk 3 (⟨#[105,100]⟩:ByteArray) r291 r301 0 0 0 0 0 [] [])])<|oC 0 [] (c14 h302)<|oC 0 [] (c14 h300)<|oC 0 [] (c13 h298)<|oC 0 [] (c13 h296)<|oC 0 [] (c9 h294)<|oC 0 [] (c8 h292)<|oC 0 [] (c8 h290)<|oC 0 [] (c13 h288)<|oC 0 [] (c13 h286)<|oC 1 [] (c9 h284)<|oC 0 [] (c8 h282)<|oC 3 [] (c8 h280)<|oC 0 [] (c16 h278)<|oC 0 [] (c8 h276)<|oC 0 [] (c7 h274)<|oC 0 [] (c8 h272)<|oC 1 [] (c7 h270)<|oC 0 [] (c16 h268)<|oC 0 [] (c7 h266)<|oC 1 [] (c12 h264)<|oC 0 [] (c9 h262)<|oC 0 [] (c17 h260)<|oC 0 [] (c8 h258)<|oC 0 [] (c8 h256)<|oC 0 [] (c8 h254)<|oC 1 [] (c13 h252)<|oC 0 [] (c9 h250)<|oC 0 [] (c9 h248)<|oC 0 [] (c17 h246)<|oC 0 [] (c8 h244)<|oC 0 [] (c8 h242)<|oC 0 [] (c8 h240)<|oC 1 [] (c13 h238)<|oC 0 [] (c9 h236)<|oC 0 [] (c9 h234)<|oC 0 [] (c16 h232)<|oC 0 [] (c8 h230)<|oC 0 [] (c8 h228)<|oC 0 [] (c8 h226)<|oC 0 [] (c8 h224)<|oC 0 [] (c10 h222)<|oS 0 (obLitR tm_eq [r217,r219])<|oC 0 [] (c13 h220)<|oC 0 [] (c13 h218)<|oC 0 [] (c7 h216)<|oC 0 [] (c13 h214)<|oC 0 [] (c13 h212)<|oC 0 [] (c9 h210)<|oC 1 [] (c9 h208)<|oC 0 [] (c16 h206)<|oC 0 [] (c8 h204)<|oC 0 [] (c8 h202)<|oC 0 [] (c10 h200)<|oS 0 (obLitR tm_eq [r193,r195,r197])<|oC 0 [] (c13 h198)<|oC 0 [] (c13 h196)<|oC 0 [] (c13 h194)<|oC 0 [] (c7 h192)<|oC 0 [] (c13 h190)<|oC 0 [] (c9 h188)<|oC 1 [] (c12 h186)<|oC 0 [] (c8 h184)<|oC 0 [] (c8 h182)<|oC 0 [] (c8 h180)<|oC 0 [] (c9 h178)<|oC 0 [] (c13 h176)<|oC 0 [] (c13 h174)<|oC 0 [] (c9 h172)<|oC 0 [] (c16 h170)<|oC 0 [] (c8 h168)<|oC 0 [] (c8 h166)<|oC 0 [] (c8 h164)<|oC 0 [] (c8 h162)<|oC 0 [] (c10 h160)<|oS 0 (obLitR tm_eq [r151,r157])<|oC 0 [] (c10 h158)<|oS 0 (obLitR tm_eq [r155])<|oC 0 [] (c13 h156)<|oC 0 [] (c7 h154)<|oC 0 [] (c13 h152)<|oC 0 [] (c7 h150)<|oC 0 [] (c10 h148)<|oS 0 (obLitR tm_eq [r143,r145])<|oC 0 [] (c13 h146)<|oC 0 [] (c13 h144)<|oC 0 [] (c7 h142)<|oC 1 [] (c13 h140)<|oC 0 [] (c9 h138)<|oC 0 [] (c16 h136)<|oC 0 [] (c8 h134)<|oC 0 [] (c10 h132)<|oS 0 (obLitR tm_eq [r127,r129])<|oC 0 [] (c7 h130)<|oC 0 [] (c13 h128)<|oC 0 [] (c7 h126)<|oC 0 [] (c9 h124)<|oC 1 [] (c12 h122)<|oC 0 [] (c8 h120)<|oC 0 [] (c8 h118)<|oC 1 [] (c9 h116)<|oC 0 [] (c9 h114)<|oC 0 [] (c16 h112)<|oC 0 [] (c8 h110)<|oC 0 [] (c8 h108)<|oC 0 [] (c8 h106)<|oC 0 [] (c10 h104)<|oS 0 (obLitR tm_eq [r101])<|oC 0 [] (c13 h102)<|oC 0 [] (c7 h100)<|oC 0 [] (c10 h98)<|oS 0 (obLitR tm_eq [r95])<|oC 0 [] (c13 h96)<|oC 0 [] (c7 h94)<|oC 0 [] (c13 h92)<|oC 0 [] (c9 h90)<|oC 0 [] (c16 h88)<|oC 0 [] (c8 h86)<|oC 0 [] (c10 h84)<|oS 0 (obLitR tm_eq [r81])<|oC 0 [] (c13 h82)<|oC 0 [] (c7 h80)<|oC 0 [] (c9 h78)<|oC 1 [] (c12 h76)<|oC 0 [] (c8 h74)<|oC 0 [] (c9 h72)<|oC 0 [] (c9 h70)<|oC 0 [] (c16 h68)<|oC 0 [] (c7 h66)<|oC 0 [] (c16 h64)<|oC 0 [] (c7 h62)<|oC 1 [] (c12 h60)<|oC 0 [] (c9 h58)<|oC 0 [] (c16 h56)<|oC 2 [] (c8 h54)<|oC 1 [] (c16 h52)<|oC 1 [] (c12 h50)<|oC 1 [] (c9 h48)<|oC 0 [] (c14 h46)<|oC 0 [] (c14 h44)<|oC 0 [] (c10 h42)<|oS 0 (obLitR tm_eq [r25,r27,r37,r39])<|oC 0 [] (c13 h40)<|oC 0 [] (c14 h38)<|oC 0 [] (c14 h36)<|oC 0 [] (c10 h34)<|oS 0 (obLitR tm_eq [r31])<|oC 0 [] (c13 h32)<|oC 2 [] (c7 h30)<|oC 0 [] (c13 h28)<|oC 2 [] (c14 h26)<|oC 3 [] (c15 h24)<|oC 0 [] (c10 h22)<|oS 0 (obLitR tm_eq [r17,r19])<|oC 0 [] (c13 h20)<|oC 0 [] (c13 h18)<|oC 3 [] (c7 h16)<|oC 1 [] (c12 h14)<|oC 0 [] (c8 h12)<|oC 0 [] (c8 h10)<|oC 0 [] (c9 h8)<|oC 0 [] (c9 h6)<|oC 1 [] (c9 h4)<|oC 0 [] (c7 h2) o0)))
def e20(qq:Nat)(p0:List Ent)(p1:Int):Option (List Tm×List Tm×Int):=
 e19 qq p0>>=fun r1=>
 if r1 then
 e34 qq p0 p1 1>>=fun r4=>
 if r4 then
 gidx p0 p1>>=fun x7=>
 e35 qq x7.type (w64 (x7.pars+x7.inds))>>=fun r9=>
 gsl r9.1 0 x7.pars>>=fun x11=>
 gsl r9.1 x7.pars (List.length r9.1:Int)>>=fun x13=>
 some (x11,x13,0)
 else
 none
 else
 none
abbrev K20 (p0:List Ent) (p1:Int) (r:List Tm×List Tm×Int) (C:Cf):Prop:=C 20 [] [slv entL p0 .no,ai p1] (.tup [.sl (flat tmCells r.1) (List.length r.1) .no,.sl (flat tmCells r.2.1) (List.length r.2.1) .no,ai r.2.2]) [] 0
theorem q20:Qf 20 Tryz.f20:=⟨Tryz.func20,by kernel_rfl⟩
theorem k20{p0 p1 r}(h:K20 p0 p1 r Ci):K20 p0 p1 r Ct:=⟨h,⟨⟨tv,dE _⟩,tv,tv⟩,forall_nil,⟨dT _,dT _,tv,tv⟩,forall_nil⟩
theorem c20{qq p0 p1 r}(h:e20 qq p0 p1=some r):K20 p0 p1 r Ct:=by
 unfold e20 at h
 obtain⟨r1,h2,h⟩:=obind h
 obtain⟨h3,h⟩:=spT h
 obtain⟨r4,h5,h⟩:=obind h
 have k:=oK 0 [] h3 (c19 h2) o0
 obtain⟨h6,h⟩:=spT h
 obtain⟨x7,h8,h⟩:=obind h
 obtain⟨r9,h10,h⟩:=obind h
 obtain⟨x11,h12,h⟩:=obind h
 obtain⟨x13,h14,h⟩:=obind h
 obtain rfl:=sj h
 exact k20 (tF q20 0 [] (oD (dT x13)<|oD (dT x11)<|oA 1 (slFrom29 h14)<|oA 0 (ix22 (o:=.no) h8)<|oA 1 (slTo3_29 (o:=.no) h12)<|oA 1 (ix22 (o:=.no) h8)<|oA 4 (ix22 (o:=.no) h8)<|oC 2 [] (c35 h10)<|oA 1 (ix22 (o:=.no) h8)<|oA 1 (ix22 (o:=.no) h8)<|oA 1 (ix22 (o:=.no) h8)<|oK 1 [] h6 (c34 h5) k))
def e21vads(qq:Nat)(q0:List Ent)(q1 q2:Int)(q3:ByteArray)(q4 q5:Int)(q6:ByteArray)(q7 q8 q9:Int)(q10:List Tm)(q11 q12:Int)(p1:List Tm):Option (List Tm×List Int×List Tm×Int×Int×List Ent×List Int×List Int×List Ent×List Con'):=
 e36 qq q0>>=fun r1=>
 if r1.1 != 0 then
 none
 else
 some (p1,[],[],q11,q12,r1.2.1,r1.2.2.1,r1.2.2.2.1,r1.2.2.2.2.1,r1.2.2.2.2.2)
abbrev K21vads (q0:List Ent) (q1 q2:Int) (q3:ByteArray) (q4 q5:Int) (q6:ByteArray) (q7 q8 q9:Int) (q10:List Tm) (q11 q12:Int) (p1:List Tm) (r:List Tm×List Int×List Tm×Int×Int×List Ent×List Int×List Int×List Ent×List Con') (C:Cf):Prop:=C 21 [.cells [slv entL q0 .no,ai q1,ai q2,at' q3,slv treeBindL ([]:List TreeBind) .nl,ai q4,ai q5,at' q6,ai q7,slv treeNodeC ([]:List TreeNode) .nl,slv treeBindL ([]:List TreeBind) .nl,slv treeRowL ([]:List TreeRow) .nl,.mp 1 0,slv tmCells q10 .no,slv strC ([]:List ByteArray) .nl,ai q11,ai q12],.cells [ai q8,ai q9]] [.mp 0 0,slv tmCells p1 .no] (.agg [.mp 2 0,.mp 1 0,slv tmCells r.1 .no,slv intC r.2.1 .no,slv tmCells r.2.2.1 .no]) [.cells [slv entL q0 .no,ai q1,ai q2,at' q3,slv treeBindL ([]:List TreeBind) .nl,ai q4,ai q5,at' q6,ai q7,slv treeNodeC ([]:List TreeNode) .nl,slv treeBindL ([]:List TreeBind) .nl,slv treeRowL ([]:List TreeRow) .nl,.mp 1 0,slv tmCells q10 .no,slv strC ([]:List ByteArray) .nl,ai r.2.2.2.1,ai r.2.2.2.2.1],.cells [ai q8,ai q9],.cells [slv entL r.2.2.2.2.2.1 .no,.mp 3 0,slv intC r.2.2.2.2.2.2.1 .no,slv intC r.2.2.2.2.2.2.2.1 .no],.cells [slv entL r.2.2.2.2.2.2.2.2.1 .no,slv conL r.2.2.2.2.2.2.2.2.2 .no]] 0
theorem q21vads:Qf 21 Tryz.f21:=⟨Tryz.func21,by kernel_rfl⟩
theorem k21vads{q0 q1 q2 q3 q4 q5 q6 q7 q8 q9 q10 q11 q12 p1 r}(h:K21vads q0 q1 q2 q3 q4 q5 q6 q7 q8 q9 q10 q11 q12 p1 r Ci):K21vads q0 q1 q2 q3 q4 q5 q6 q7 q8 q9 q10 q11 q12 p1 r Ct:=⟨h,⟨(lz rfl),⟨tv,dT _⟩,tv⟩,(forall_cons ⟨⟨tv,dE _⟩,tv,tv,tv,⟨tv,dTreeBind _⟩,tv,tv,tv,tv,⟨tv,dTreeNode _⟩,⟨tv,dTreeBind _⟩,⟨tv,dTreeRow _⟩,(lz rfl),⟨tv,dT _⟩,⟨tv,dS _⟩,tv,tv,tv⟩ (forall_cons ⟨tv,tv,tv⟩ forall_nil)),⟨(lz rfl),(lz rfl),dT _,dI _,dT _,tv⟩,(forall_cons ⟨dE _,tv,tv,tv,dTreeBind _,tv,tv,tv,tv,dTreeNode _,dTreeBind _,dTreeRow _,(lz rfl),dT _,dS _,tv,tv,tv⟩ (forall_cons ⟨tv,tv,tv⟩ (forall_cons ⟨dE _,(lz rfl),dI _,dI _,tv⟩ (forall_cons ⟨dE _,dC _,tv⟩ forall_nil))))⟩
theorem c21vads{qq q0 q1 q2 q3 q4 q5 q6 q7 q8 q9 q10 q11 q12 p1 r}(h:e21vads qq q0 q1 q2 q3 q4 q5 q6 q7 q8 q9 q10 q11 q12 p1=some r):K21vads q0 q1 q2 q3 q4 q5 q6 q7 q8 q9 q10 q11 q12 p1 r Ct:=by
 unfold e21vads at h
 obtain⟨r1,h2,h⟩:=obind h
 have k:=oC 1 [] (c36 h2) o0
 obtain⟨h3,h⟩:=splF h
 obtain rfl:=sj h
 exact k21vads (tG q21vads 2 [] [0,1,3,4] [] true (oD (dT ([]:List Tm))<|oD (dI ([]:List Int))<|oD (dT p1)<|oD (dC r1.2.2.2.2.2)<|oD (dE r1.2.2.2.2.1)<|oD (dI r1.2.2.2.1)<|oD (dI r1.2.2.1)<|oD (dE r1.2.1)<|oD (dS ([]:List ByteArray))<|oD (dT q10)<|oD (dTreeRow ([]:List TreeRow))<|oD (dTreeBind ([]:List TreeBind))<|oD (dTreeNode ([]:List TreeNode))<|oD (dTreeBind ([]:List TreeBind))<|oD (dE q0)<|oB 2 h3 k))
end Go.Proofs.YtedhamlfcienmaaGreat
