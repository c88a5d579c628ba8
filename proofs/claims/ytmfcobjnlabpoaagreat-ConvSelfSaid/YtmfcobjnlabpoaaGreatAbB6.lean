/- Texts: AbF313va59181 AbF135va10998_199va31596_268va61798_269va10998 AbF134va38585 AbF133va32470 AbF67va18876 AbF133va61264 AbF67va29373 AbF133va3995 AbF67va30710 AbF15 AbRv AbF13 AbF21 AbF14 AbF3 AbF4 AbRw AbTd -/
import Derived.KernelRfl
import Derived.Test.YtmfcobjnlabpoaaGreatAbB5
set_option linter.unusedVariables false
set_option linter.unusedSimpArgs false
namespace Go.Proofs.YtmfcobjnlabpoaaGreat
open Go Go.Ab
def e313va59181 (qq:Nat) (q0 q1:List Ent) (q2:List Con') (q3 q4:List Int) (q5:List Ent) (q6:Int) (p1:Tm) (p2 p3:Int) (p4:List Tm):Option (Tm × Int) :=
 e267va38843 qq q0 q1 q2 q3 q4 q5 q6 p1 >>= fun r1 =>
 if r1.2.2 then
 if r1.1 == p2 then
 gidx r1.2.1 (w64 ((List.length p4:Int) + p3)) >>= fun x5 =>
 some (x5,q6)
 else
 gidx q5 p2 >>= fun x7 =>
 gidx q5 x7.fam >>= fun x9 =>
 gidx x9.fields p3 >>= fun x11 =>
 e152 qq x11 >>= fun r13 =>
 e151 qq r13 p4 >>= fun r15 =>
 e156 qq r15 p1 >>= fun r17 =>
 if q6 == 0 then
 e89 qq r17 >>= fun r20 =>
 if r20 then
 some (r17,q6)
 else
 some (r17,2)
 else
 some (r17,q6)
 else
 gidx q5 p2 >>= fun x23 =>
 gidx q5 x23.fam >>= fun x25 =>
 gidx x25.fields p3 >>= fun x27 =>
 e152 qq x27 >>= fun r29 =>
 e151 qq r29 p4 >>= fun r31 =>
 e156 qq r31 p1 >>= fun r33 =>
 if q6 == 0 then
 e89 qq r33 >>= fun r36 =>
 if r36 then
 some (r33,q6)
 else
 some (r33,2)
 else
 some (r33,q6)
abbrev K313va59181 (q0 q1:List Ent) (q2:List Con') (q3 q4:List Int) (q5:List Ent) (q6:Int) (p1:Tm) (p2 p3:Int) (p4:List Tm) (r:Tm × Int) (C:Cf):Prop:=C 313 [.cells [.mp 1 0,slv entL q5 .no,.val (.pointer none),ai q6],.cells [slv entL q0 .no,.mp 2 0,slv intC q3 .no,slv intC q4 .no],.cells [slv entL q1 .no,slv conL q2 .no]] [.mp 0 0,tmA p1,ai p2,ai p3,slv tmCells p4 .no] (tmA r.1) [.cells [.mp 1 0,slv entL q5 .no,.val (.pointer none),ai r.2],.cells [slv entL q0 .no,.mp 2 0,slv intC q3 .no,slv intC q4 .no],.cells [slv entL q1 .no,slv conL q2 .no]] 0
theorem q313va59181:Qf 313 Tryz.f313:=⟨Tryz.func313,by kernel_rfl⟩
theorem k313va59181 {q0 q1 q2 q3 q4 q5 q6 p1 p2 p3 p4 r} (h:K313va59181 q0 q1 q2 q3 q4 q5 q6 p1 p2 p3 p4 r Ci):K313va59181 q0 q1 q2 q3 q4 q5 q6 p1 p2 p3 p4 r Ct:=⟨h,⟨(lz rfl),⟨tv,tv,⟨tv,dT _⟩,tv⟩,tv,tv,⟨tv,dT _⟩,tv⟩,(forall_cons ⟨(lz rfl),⟨tv,dE _⟩,tv,tv,tv⟩ (forall_cons ⟨⟨tv,dE _⟩,(lz rfl),⟨tv,dI _⟩,⟨tv,dI _⟩,tv⟩ (forall_cons ⟨⟨tv,dE _⟩,⟨tv,dC _⟩,tv⟩ forall_nil))),⟨tv,tv,dT _,tv⟩,(forall_cons ⟨(lz rfl),dE _,tv,tv,tv⟩ (forall_cons ⟨dE _,(lz rfl),dI _,dI _,tv⟩ (forall_cons ⟨dE _,dC _,tv⟩ forall_nil)))⟩
theorem c313va59181 {qq q0 q1 q2 q3 q4 q5 q6 p1 p2 p3 p4 r} (h:e313va59181 qq q0 q1 q2 q3 q4 q5 q6 p1 p2 p3 p4 = some r):K313va59181 q0 q1 q2 q3 q4 q5 q6 p1 p2 p3 p4 r Ct:=by
 unfold e313va59181 at h
 obtain ⟨r1,h2,h⟩:=obind h
 have k:=oC 1 [0,1,2] (c267va38843 h2) o0
 rcases spl h with ⟨h3,h⟩ | ⟨h3,h⟩
 have k:=oB 2 h3 k
 rcases spl h with ⟨h4,h⟩ | ⟨h4,h⟩
 obtain ⟨x5,h6,h⟩:=obind h
 obtain rfl:=sj h
 exact k313va59181 (tF q313va59181 2 [0,1,2] (oD (dT x5.sub) <| oD (dC q2) <| oD (dE q1) <| oD (dI q4) <| oD (dI q3) <| oD (dE q0) <| oD (dE q5) <| oA 2 (ix23 (o:=.no) h6) <| oB 0 h4 k))
 obtain ⟨x7,h8,h⟩:=obind h
 obtain ⟨x9,h10,h⟩:=obind h
 obtain ⟨x11,h12,h⟩:=obind h
 obtain ⟨r13,h14,h⟩:=obind h
 obtain ⟨r15,h16,h⟩:=obind h
 obtain ⟨r17,h18,h⟩:=obind h
 have k:=oC 1 [] (c156 h18) <| oC 0 [] (c151 h16) <| oC 1 [] (c152 h14) <| oA 1 (ix41 (o:=.no) h12) <| oA 1 (ix22 (o:=.no) h10) <| oA 2 (ix22 (o:=.no) h8) <| oB 0 h4 k
 rcases spl h with ⟨h19,h⟩ | ⟨h19,h⟩
 obtain ⟨r20,h21,h⟩:=obind h
 have k:=oB 2 h19 k
 rcases spl h with ⟨h22,h⟩ | ⟨h22,h⟩
 obtain rfl:=sj h
 exact k313va59181 (tF q313va59181 3 [0,1,2] (oD (dT r17.sub) <| oD (dC q2) <| oD (dE q1) <| oD (dI q4) <| oD (dI q3) <| oD (dE q0) <| oD (dE q5) <| oK 1 [] h22 (c89 h21) k))
 obtain rfl:=sj h
 exact k313va59181 (tF q313va59181 4 [0,1,2] (oD (dT r17.sub) <| oD (dC q2) <| oD (dE q1) <| oD (dI q4) <| oD (dI q3) <| oD (dE q0) <| oD (dE q5) <| oK 1 [] h22 (c89 h21) k))
 obtain rfl:=sj h
 exact k313va59181 (tF q313va59181 2 [0,1,2] (oD (dT r17.sub) <| oD (dC q2) <| oD (dE q1) <| oD (dI q4) <| oD (dI q3) <| oD (dE q0) <| oD (dE q5) <| oB 2 h19 k))
 obtain ⟨x23,h24,h⟩:=obind h
 obtain ⟨x25,h26,h⟩:=obind h
 obtain ⟨x27,h28,h⟩:=obind h
 obtain ⟨r29,h30,h⟩:=obind h
 obtain ⟨r31,h32,h⟩:=obind h
 obtain ⟨r33,h34,h⟩:=obind h
 have k:=oC 1 [] (c156 h34) <| oC 0 [] (c151 h32) <| oC 1 [] (c152 h30) <| oA 1 (ix41 (o:=.no) h28) <| oA 1 (ix22 (o:=.no) h26) <| oA 2 (ix22 (o:=.no) h24) <| oB 2 h3 k
 rcases spl h with ⟨h35,h⟩ | ⟨h35,h⟩
 obtain ⟨r36,h37,h⟩:=obind h
 have k:=oB 2 h35 k
 rcases spl h with ⟨h38,h⟩ | ⟨h38,h⟩
 obtain rfl:=sj h
 exact k313va59181 (tF q313va59181 3 [0,1,2] (oD (dT r33.sub) <| oD (dC q2) <| oD (dE q1) <| oD (dI q4) <| oD (dI q3) <| oD (dE q0) <| oD (dE q5) <| oK 1 [] h38 (c89 h37) k))
 obtain rfl:=sj h
 exact k313va59181 (tF q313va59181 4 [0,1,2] (oD (dT r33.sub) <| oD (dC q2) <| oD (dE q1) <| oD (dI q4) <| oD (dI q3) <| oD (dE q0) <| oD (dE q5) <| oK 1 [] h38 (c89 h37) k))
 obtain rfl:=sj h
 exact k313va59181 (tF q313va59181 2 [0,1,2] (oD (dT r33.sub) <| oD (dC q2) <| oD (dE q1) <| oD (dI q4) <| oD (dI q3) <| oD (dE q0) <| oD (dE q5) <| oB 2 h35 k))
mutual
def e135va10998:Nat → (List Ent) → (List Ent) → (List Con') → (List Int) → (List Int) → (List Ent) → Int → Tm → Tm → Option (Bool × Int)
 | 0,_,_,_,_,_,_,_,_,_ => none
 | qq + 1,q0,q1,q2,q3,q4,q5,q6,p1,p2 =>
 e198va10998 qq q0 q1 q2 q3 q4 q5 q6 p1 p2 >>= fun r1 =>
 if r1.2.2.1 then
 e199va31596 qq q0 q1 q2 q3 q4 q5 r1.2.2.2 r1.1 r1.2.1 >>= fun r4 =>
 some (r4.1,r4.2)
 else
 some (false,r1.2.2.2)
def e199va31596:Nat → (List Ent) → (List Ent) → (List Con') → (List Int) → (List Int) → (List Ent) → Int → Tm → Tm → Option (Bool × Int)
 | 0,_,_,_,_,_,_,_,_,_ => none
 | qq + 1,q0,q1,q2,q3,q4,q5,q6,p1,p2 =>
 if p1.k == 4 then
 e266va38843 qq q0 q1 q2 q3 q4 q5 q6 p1 >>= fun r2 =>
 e266va38843 qq q0 q1 q2 q3 q4 q5 r2.2 p2 >>= fun r4 =>
 e135va10998 qq q0 q1 q2 q3 q4 q5 r4.2 r2.1 r4.1 >>= fun r6 =>
 some (r6.1,r6.2)
 else
 if p2.k == 4 then
 e266va38843 qq q0 q1 q2 q3 q4 q5 q6 p1 >>= fun r9 =>
 e266va38843 qq q0 q1 q2 q3 q4 q5 r9.2 p2 >>= fun r11 =>
 e135va10998 qq q0 q1 q2 q3 q4 q5 r11.2 r9.1 r11.1 >>= fun r13 =>
 some (r13.1,r13.2)
 else
 e267va38843 qq q0 q1 q2 q3 q4 q5 q6 p1 >>= fun r15 =>
 if r15.2.2 then
 e267va38843 qq q0 q1 q2 q3 q4 q5 q6 p2 >>= fun r18 =>
 if r18.2.2 then
 if r15.1 != r18.1 then
 some (false,q6)
 else
 gidx q5 r15.1 >>= fun x22 =>
 gsl r15.2.1 0 x22.pars >>= fun x24 =>
 e268va61798 qq q0 q1 q2 q3 q4 q5 q6 p1 p2 r15.1 x24 >>= fun r26 =>
 some (r26.1,r26.2)
 else
 gidx q5 r15.1 >>= fun x28 =>
 gsl r15.2.1 0 x28.pars >>= fun x30 =>
 e268va61798 qq q0 q1 q2 q3 q4 q5 q6 p1 p2 r15.1 x30 >>= fun r32 =>
 some (r32.1,r32.2)
 else
 e267va38843 qq q0 q1 q2 q3 q4 q5 q6 p2 >>= fun r34 =>
 if r34.2.2 then
 gidx q5 r34.1 >>= fun x37 =>
 gsl r34.2.1 0 x37.pars >>= fun x39 =>
 e268va61798 qq q0 q1 q2 q3 q4 q5 q6 p1 p2 r34.1 x39 >>= fun r41 =>
 some (r41.1,r41.2)
 else
 if p1.k != p2.k then
 some (false,q6)
 else
 if p1.k == 3 then
 gidx p1.sub 0 >>= fun x45 =>
 gidx p2.sub 0 >>= fun x47 =>
 e135va10998 qq q0 q1 q2 q3 q4 q5 q6 x45 x47 >>= fun r49 =>
 if r49.1 then
 gidx p1.sub 1 >>= fun x52 =>
 gidx p2.sub 1 >>= fun x54 =>
 e135va10998 qq q0 q1 q2 q3 q4 q5 r49.2 x52 x54 >>= fun r56 =>
 some (r56.1,r56.2)
 else
 some (false,r49.2)
 else
 if p1.k == 2 then
 e200 qq p1.n p2.n >>= fun r59 =>
 some (r59,q6)
 else
 e269va10998 qq q0 q1 q2 q3 q4 q5 q6 p1 p2 >>= fun r61 =>
 some (r61.1,r61.2)
def e268va61798:Nat → (List Ent) → (List Ent) → (List Con') → (List Int) → (List Int) → (List Ent) → Int → Tm → Tm → Int → (List Tm) → Option (Bool × Int)
 | 0,_,_,_,_,_,_,_,_,_,_,_ => none
 | qq + 1,q0,q1,q2,q3,q4,q5,q6,p1,p2,p3,p4 =>
 gidx q5 p3 >>= fun x1 =>
 gidx q5 x1.fam >>= fun x3 =>
 e268va61798L45303 qq q0 q1 q2 q3 q4 q5 p1 p2 p3 p4 x3 0 q6
def e268va61798L45303:Nat → (List Ent) → (List Ent) → (List Con') → (List Int) → (List Int) → (List Ent) → Tm → Tm → Int → (List Tm) → Ent → Int → Int → Option (Bool × Int)
 | 0,_,_,_,_,_,_,_,_,_,_,_,_,_ => none
 | qq + 1,q0,q1,q2,q3,q4,q5,p1,p2,p3,p4,x3,v28,vb0_3 =>
 if decide (v28 < (List.length x3.fields:Int)) then
 e313va59181 qq q0 q1 q2 q3 q4 q5 vb0_3 p1 p3 v28 p4 >>= fun r6 =>
 e313va59181 qq q0 q1 q2 q3 q4 q5 r6.2 p2 p3 v28 p4 >>= fun r8 =>
 e135va10998 qq q0 q1 q2 q3 q4 q5 r8.2 r6.1 r8.1 >>= fun r10 =>
 if r10.1 then
 e268va61798L45303 qq q0 q1 q2 q3 q4 q5 p1 p2 p3 p4 x3 (w64 (v28 + 1)) r10.2
 else
 some (false,r10.2)
 else
 some (true,vb0_3)
def e269va10998:Nat → (List Ent) → (List Ent) → (List Con') → (List Int) → (List Int) → (List Ent) → Int → Tm → Tm → Option (Bool × Int)
 | 0,_,_,_,_,_,_,_,_,_ => none
 | qq + 1,q0,q1,q2,q3,q4,q5,q6,p1,p2 =>
 e167 qq p1 >>= fun r1 =>
 e167 qq p2 >>= fun r3 =>
 if r1.1.k != r3.1.k then
 some (false,q6)
 else
 if r1.1.n != r3.1.n then
 some (false,q6)
 else
 if (List.length r1.2:Int) != (List.length r3.2:Int) then
 some (false,q6)
 else
 if r1.1.k == 7 then
 gidx r1.1.sub 0 >>= fun x9 =>
 gidx r3.1.sub 0 >>= fun x11 =>
 if x9.n != x11.n then
 some (false,q6)
 else
 if r1.1.k == 3 then
 e135va10998 qq q0 q1 q2 q3 q4 q5 q6 x9 x11 >>= fun r15 =>
 if r15.1 then
 gidx r1.1.sub 1 >>= fun x18 =>
 gidx r3.1.sub 1 >>= fun x20 =>
 e135va10998 qq q0 q1 q2 q3 q4 q5 r15.2 x18 x20 >>= fun r22 =>
 if r22.1 then
 e269va10998L17401 qq q0 q1 q2 q3 q4 q5 r1 r3 0 r22.2
 else
 some (false,r22.2)
 else
 some (false,r15.2)
 else
 e269va10998L17401 qq q0 q1 q2 q3 q4 q5 r1 r3 0 q6
 else
 if r1.1.k == 3 then
 gidx r1.1.sub 0 >>= fun x26 =>
 gidx r3.1.sub 0 >>= fun x28 =>
 e135va10998 qq q0 q1 q2 q3 q4 q5 q6 x26 x28 >>= fun r30 =>
 if r30.1 then
 gidx r1.1.sub 1 >>= fun x33 =>
 gidx r3.1.sub 1 >>= fun x35 =>
 e135va10998 qq q0 q1 q2 q3 q4 q5 r30.2 x33 x35 >>= fun r37 =>
 if r37.1 then
 e269va10998L17401 qq q0 q1 q2 q3 q4 q5 r1 r3 0 r37.2
 else
 some (false,r37.2)
 else
 some (false,r30.2)
 else
 e269va10998L17401 qq q0 q1 q2 q3 q4 q5 r1 r3 0 q6
def e269va10998L17401:Nat → (List Ent) → (List Ent) → (List Con') → (List Int) → (List Int) → (List Ent) → (Tm × List Tm) → (Tm × List Tm) → Int → Int → Option (Bool × Int)
 | 0,_,_,_,_,_,_,_,_,_,_ => none
 | qq + 1,q0,q1,q2,q3,q4,q5,r1,r3,v89,vb0_3 =>
 if decide (v89 < (List.length r1.2:Int)) then
 gidx r1.2 v89 >>= fun x26 =>
 gidx r3.2 v89 >>= fun x28 =>
 e135va10998 qq q0 q1 q2 q3 q4 q5 vb0_3 x26 x28 >>= fun r30 =>
 if r30.1 then
 e269va10998L17401 qq q0 q1 q2 q3 q4 q5 r1 r3 (w64 (v89 + 1)) r30.2
 else
 some (false,r30.2)
 else
 some (true,vb0_3)
end
def g268va61798L45303E0 (j:Nat → Value) (q0 q1:List Ent) (q2:List Con') (q3 q4:List Int) (q5:List Ent) (p1 p2:Tm) (p3:Int) (p4:List Tm) (x3:Ent) (v28 vb0_3:Int):=sp j 47 0 [(0,.mp 0 0),(3,ai p3),(4,slv tmCells p4 .no),(6,.mp 3 0),(7,.mp 4 0),(27,ai (List.length x3.fields:Int)),(28,ai v28)]
def g268va61798L45303S0 (q0 q1:List Ent) (q2:List Con') (q3 q4:List Int) (q5:List Ent) (p1 p2:Tm) (p3:Int) (p4:List Tm) (x3:Ent) (v28 vb0_3:Int):LSt:=⟨[(0,.cells [.mp 1 0,slv entL q5 .no,.val (.pointer none),ai vb0_3]),(1,.cells [slv entL q0 .no,.mp 2 0,slv intC q3 .no,slv intC q4 .no]),(2,.cells [slv entL q1 .no,slv conL q2 .no]),(3,.cells [ai p1.k,ai p1.n,slv tmCells p1.sub .no]),(4,.cells [ai p2.k,ai p2.n,slv tmCells p2.sub .no])],5,[],0,[]⟩
def g269va10998L17401E0 (j:Nat → Value) (q0 q1:List Ent) (q2:List Con') (q3 q4:List Int) (q5:List Ent) (r1 r3:Tm × List Tm) (v89 vb0_3:Int):=sp j 104 0 [(0,.mp 0 0),(8,slv tmCells r1.2 .no),(10,slv tmCells r3.2 .no),(88,ai (List.length r1.2:Int)),(89,ai v89)]
def g269va10998L17401S0 (q0 q1:List Ent) (q2:List Con') (q3 q4:List Int) (q5:List Ent) (r1 r3:Tm × List Tm) (v89 vb0_3:Int):LSt:=⟨[(0,.cells [.mp 1 0,slv entL q5 .no,.val (.pointer none),ai vb0_3]),(1,.cells [slv entL q0 .no,.mp 2 0,slv intC q3 .no,slv intC q4 .no]),(2,.cells [slv entL q1 .no,slv conL q2 .no])],3,[],0,[]⟩
abbrev K135va10998 (q0 q1:List Ent) (q2:List Con') (q3 q4:List Int) (q5:List Ent) (q6:Int) (p1 p2:Tm) (r:Bool × Int) (C:Cf):Prop:=C 135 [.cells [.mp 1 0,slv entL q5 .no,.val (.pointer none),ai q6],.cells [slv entL q0 .no,.mp 2 0,slv intC q3 .no,slv intC q4 .no],.cells [slv entL q1 .no,slv conL q2 .no]] [.mp 0 0,tmA p1,tmA p2] (ab r.1) [.cells [.mp 1 0,slv entL q5 .no,.val (.pointer none),ai r.2],.cells [slv entL q0 .no,.mp 2 0,slv intC q3 .no,slv intC q4 .no],.cells [slv entL q1 .no,slv conL q2 .no]] 0
abbrev K199va31596 (q0 q1:List Ent) (q2:List Con') (q3 q4:List Int) (q5:List Ent) (q6:Int) (p1 p2:Tm) (r:Bool × Int) (C:Cf):Prop:=C 199 [.cells [.mp 1 0,slv entL q5 .no,.val (.pointer none),ai q6],.cells [slv entL q0 .no,.mp 2 0,slv intC q3 .no,slv intC q4 .no],.cells [slv entL q1 .no,slv conL q2 .no]] [.mp 0 0,tmA p1,tmA p2,.agg [.clo 200 [] [],.clo 135 [.mp 0 0] []]] (ab r.1) [.cells [.mp 1 0,slv entL q5 .no,.val (.pointer none),ai r.2],.cells [slv entL q0 .no,.mp 2 0,slv intC q3 .no,slv intC q4 .no],.cells [slv entL q1 .no,slv conL q2 .no]] 0
abbrev K268va61798 (q0 q1:List Ent) (q2:List Con') (q3 q4:List Int) (q5:List Ent) (q6:Int) (p1 p2:Tm) (p3:Int) (p4:List Tm) (r:Bool × Int) (C:Cf):Prop:=C 268 [.cells [.mp 1 0,slv entL q5 .no,.val (.pointer none),ai q6],.cells [slv entL q0 .no,.mp 2 0,slv intC q3 .no,slv intC q4 .no],.cells [slv entL q1 .no,slv conL q2 .no]] [.mp 0 0,tmA p1,tmA p2,ai p3,slv tmCells p4 .no] (ab r.1) [.cells [.mp 1 0,slv entL q5 .no,.val (.pointer none),ai r.2],.cells [slv entL q0 .no,.mp 2 0,slv intC q3 .no,slv intC q4 .no],.cells [slv entL q1 .no,slv conL q2 .no]] 0
abbrev K269va10998 (q0 q1:List Ent) (q2:List Con') (q3 q4:List Int) (q5:List Ent) (q6:Int) (p1 p2:Tm) (r:Bool × Int) (C:Cf):Prop:=C 269 [.cells [.mp 1 0,slv entL q5 .no,.val (.pointer none),ai q6],.cells [slv entL q0 .no,.mp 2 0,slv intC q3 .no,slv intC q4 .no],.cells [slv entL q1 .no,slv conL q2 .no]] [.mp 0 0,tmA p1,tmA p2] (ab r.1) [.cells [.mp 1 0,slv entL q5 .no,.val (.pointer none),ai r.2],.cells [slv entL q0 .no,.mp 2 0,slv intC q3 .no,slv intC q4 .no],.cells [slv entL q1 .no,slv conL q2 .no]] 0
theorem q135va10998:Qf 135 Tryz.f135:=⟨Tryz.func135,by kernel_rfl⟩
theorem k135va10998 {q0 q1 q2 q3 q4 q5 q6 p1 p2 r} (h:K135va10998 q0 q1 q2 q3 q4 q5 q6 p1 p2 r Ci):K135va10998 q0 q1 q2 q3 q4 q5 q6 p1 p2 r Ct:=⟨h,⟨(lz rfl),⟨tv,tv,⟨tv,dT _⟩,tv⟩,⟨tv,tv,⟨tv,dT _⟩,tv⟩,tv⟩,(forall_cons ⟨(lz rfl),⟨tv,dE _⟩,tv,tv,tv⟩ (forall_cons ⟨⟨tv,dE _⟩,(lz rfl),⟨tv,dI _⟩,⟨tv,dI _⟩,tv⟩ (forall_cons ⟨⟨tv,dE _⟩,⟨tv,dC _⟩,tv⟩ forall_nil))),tv,(forall_cons ⟨(lz rfl),dE _,tv,tv,tv⟩ (forall_cons ⟨dE _,(lz rfl),dI _,dI _,tv⟩ (forall_cons ⟨dE _,dC _,tv⟩ forall_nil)))⟩
theorem q199va31596:Qf 199 Tryz.f199:=⟨Tryz.func199,by kernel_rfl⟩
theorem k199va31596 {q0 q1 q2 q3 q4 q5 q6 p1 p2 r} (h:K199va31596 q0 q1 q2 q3 q4 q5 q6 p1 p2 r Ci):K199va31596 q0 q1 q2 q3 q4 q5 q6 p1 p2 r Ct:=⟨h,⟨(lz rfl),⟨tv,tv,⟨tv,dT _⟩,tv⟩,⟨tv,tv,⟨tv,dT _⟩,tv⟩,⟨⟨tv,tv⟩,⟨⟨(lz rfl),tv⟩,tv⟩,tv⟩,tv⟩,(forall_cons ⟨(lz rfl),⟨tv,dE _⟩,tv,tv,tv⟩ (forall_cons ⟨⟨tv,dE _⟩,(lz rfl),⟨tv,dI _⟩,⟨tv,dI _⟩,tv⟩ (forall_cons ⟨⟨tv,dE _⟩,⟨tv,dC _⟩,tv⟩ forall_nil))),tv,(forall_cons ⟨(lz rfl),dE _,tv,tv,tv⟩ (forall_cons ⟨dE _,(lz rfl),dI _,dI _,tv⟩ (forall_cons ⟨dE _,dC _,tv⟩ forall_nil)))⟩
theorem q268va61798:Qf 268 Tryz.f268:=⟨Tryz.func268,by kernel_rfl⟩
theorem k268va61798 {q0 q1 q2 q3 q4 q5 q6 p1 p2 p3 p4 r} (h:K268va61798 q0 q1 q2 q3 q4 q5 q6 p1 p2 p3 p4 r Ci):K268va61798 q0 q1 q2 q3 q4 q5 q6 p1 p2 p3 p4 r Ct:=⟨h,⟨(lz rfl),⟨tv,tv,⟨tv,dT _⟩,tv⟩,⟨tv,tv,⟨tv,dT _⟩,tv⟩,tv,⟨tv,dT _⟩,tv⟩,(forall_cons ⟨(lz rfl),⟨tv,dE _⟩,tv,tv,tv⟩ (forall_cons ⟨⟨tv,dE _⟩,(lz rfl),⟨tv,dI _⟩,⟨tv,dI _⟩,tv⟩ (forall_cons ⟨⟨tv,dE _⟩,⟨tv,dC _⟩,tv⟩ forall_nil))),tv,(forall_cons ⟨(lz rfl),dE _,tv,tv,tv⟩ (forall_cons ⟨dE _,(lz rfl),dI _,dI _,tv⟩ (forall_cons ⟨dE _,dC _,tv⟩ forall_nil)))⟩
theorem q269va10998:Qf 269 Tryz.f269:=⟨Tryz.func269,by kernel_rfl⟩
theorem k269va10998 {q0 q1 q2 q3 q4 q5 q6 p1 p2 r} (h:K269va10998 q0 q1 q2 q3 q4 q5 q6 p1 p2 r Ci):K269va10998 q0 q1 q2 q3 q4 q5 q6 p1 p2 r Ct:=⟨h,⟨(lz rfl),⟨tv,tv,⟨tv,dT _⟩,tv⟩,⟨tv,tv,⟨tv,dT _⟩,tv⟩,tv⟩,(forall_cons ⟨(lz rfl),⟨tv,dE _⟩,tv,tv,tv⟩ (forall_cons ⟨⟨tv,dE _⟩,(lz rfl),⟨tv,dI _⟩,⟨tv,dI _⟩,tv⟩ (forall_cons ⟨⟨tv,dE _⟩,⟨tv,dC _⟩,tv⟩ forall_nil))),tv,(forall_cons ⟨(lz rfl),dE _,tv,tv,tv⟩ (forall_cons ⟨dE _,(lz rfl),dI _,dI _,tv⟩ (forall_cons ⟨dE _,dC _,tv⟩ forall_nil)))⟩
theorem a135va10998_199va31596_268va61798_268va61798L45303_269va10998_269va10998L17401:∀ qq:Nat,(∀ q0 q1 q2 q3 q4 q5 q6 p1 p2 r,e135va10998 qq q0 q1 q2 q3 q4 q5 q6 p1 p2 = some r → K135va10998 q0 q1 q2 q3 q4 q5 q6 p1 p2 r Ct) ∧ (∀ q0 q1 q2 q3 q4 q5 q6 p1 p2 r,e199va31596 qq q0 q1 q2 q3 q4 q5 q6 p1 p2 = some r → K199va31596 q0 q1 q2 q3 q4 q5 q6 p1 p2 r Ct) ∧ (∀ q0 q1 q2 q3 q4 q5 q6 p1 p2 p3 p4 r,e268va61798 qq q0 q1 q2 q3 q4 q5 q6 p1 p2 p3 p4 = some r → K268va61798 q0 q1 q2 q3 q4 q5 q6 p1 p2 p3 p4 r Ct) ∧ (∀ q0 q1 q2 q3 q4 q5 p1 p2 p3 p4 x3 v28 vb0_3 r,e268va61798L45303 qq q0 q1 q2 q3 q4 q5 p1 p2 p3 p4 x3 v28 vb0_3 = some r → (∀ j,Dl Tryz.prog 3 (inn (inn (rgt (lft (rgt (bod Tryz.f268)))))) (g268va61798L45303E0 j q0 q1 q2 q3 q4 q5 p1 p2 p3 p4 x3 v28 vb0_3) (g268va61798L45303S0 q0 q1 q2 q3 q4 q5 p1 p2 p3 p4 x3 v28 vb0_3) (frameQ Tryz.prog 3 (FinQ Tryz.prog 3 Tryz.f268 (ab r.1) [.cells [.mp 1 0,slv entL q5 .no,.val (.pointer none),ai r.2],.cells [slv entL q0 .no,.mp 2 0,slv intC q3 .no,slv intC q4 .no],.cells [slv entL q1 .no,slv conL q2 .no]] 0) [.blk 0,.seq (rgt (rgt (bod Tryz.f268)))]))) ∧ (∀ q0 q1 q2 q3 q4 q5 q6 p1 p2 r,e269va10998 qq q0 q1 q2 q3 q4 q5 q6 p1 p2 = some r → K269va10998 q0 q1 q2 q3 q4 q5 q6 p1 p2 r Ct) ∧ (∀ q0 q1 q2 q3 q4 q5 r1 r3 v89 vb0_3 r,e269va10998L17401 qq q0 q1 q2 q3 q4 q5 r1 r3 v89 vb0_3 = some r → (∀ j,Dl Tryz.prog 3 (inn (inn (rgt (lft (rgt (rgt (rgt (rgt (rgt (bod Tryz.f269)))))))))) (g269va10998L17401E0 j q0 q1 q2 q3 q4 q5 r1 r3 v89 vb0_3) (g269va10998L17401S0 q0 q1 q2 q3 q4 q5 r1 r3 v89 vb0_3) (frameQ Tryz.prog 3 (FinQ Tryz.prog 3 Tryz.f269 (ab r.1) [.cells [.mp 1 0,slv entL q5 .no,.val (.pointer none),ai r.2],.cells [slv entL q0 .no,.mp 2 0,slv intC q3 .no,slv intC q4 .no],.cells [slv entL q1 .no,slv conL q2 .no]] 0) [.blk 0,.seq (rgt (rgt (rgt (rgt (rgt (rgt (bod Tryz.f269)))))))]))):=by
 intro qq
 induction qq with
 | zero =>
  exact ⟨fun _ _ _ _ _ _ _ _ _ _ h => nn h,fun _ _ _ _ _ _ _ _ _ _ h => nn h,fun _ _ _ _ _ _ _ _ _ _ _ _ h => nn h,fun _ _ _ _ _ _ _ _ _ _ _ _ _ _ h => nn h,fun _ _ _ _ _ _ _ _ _ _ h => nn h,fun _ _ _ _ _ _ _ _ _ _ _ h => nn h⟩
 | succ qq ih =>
  obtain ⟨ih135va10998,ih199va31596,ih268va61798,ih268va61798L45303,ih269va10998,ih269va10998L17401⟩:=ih
  refine ⟨?_,?_,?_,?_,?_,?_⟩
  intro q0 q1 q2 q3 q4 q5 q6 p1 p2 r h
  rw [e135va10998] at h
  obtain ⟨r1,h2,h⟩:=obind h
  have k:=oC 2 [0,1,2] (c198va10998 h2) o0
  rcases spl h with ⟨h3,h⟩ | ⟨h3,h⟩
  obtain ⟨r4,h5,h⟩:=obind h
  obtain rfl:=sj h
  exact k135va10998 (tF q135va10998 0 [0,1,2] (oD (dC q2) <| oD (dE q1) <| oD (dI q4) <| oD (dI q3) <| oD (dE q0) <| oD (dE q5) <| oC 4 [0,1,2] (ih199va31596 _ _ _ _ _ _ _ _ _ _ h5) <| oB 2 h3 k))
  obtain rfl:=sj h
  exact k135va10998 (tF q135va10998 2 [0,1,2] (oD (dC q2) <| oD (dE q1) <| oD (dI q4) <| oD (dI q3) <| oD (dE q0) <| oD (dE q5) <| oB 2 h3 k))
  intro q0 q1 q2 q3 q4 q5 q6 p1 p2 r h
  rw [e199va31596] at h
  rcases spl h with ⟨h1,h⟩ | ⟨h1,h⟩
  obtain ⟨r2,h3,h⟩:=obind h
  obtain ⟨r4,h5,h⟩:=obind h
  obtain ⟨r6,h7,h⟩:=obind h
  obtain rfl:=sj h
  exact k199va31596 (tF q199va31596 0 [0,1,2] (oD (dC q2) <| oD (dE q1) <| oD (dI q4) <| oD (dI q3) <| oD (dE q0) <| oD (dE q5) <| oC 0 [0,1,2] (ih135va10998 _ _ _ _ _ _ _ _ _ _ h7) <| oC 1 [0,1,2] (c266va38843 h5) <| oC 1 [0,1,2] (c266va38843 h3) <| oB 1 h1 o0))
  have k:=oB 1 h1 o0
  rcases spl h with ⟨h8,h⟩ | ⟨h8,h⟩
  obtain ⟨r9,h10,h⟩:=obind h
  obtain ⟨r11,h12,h⟩:=obind h
  obtain ⟨r13,h14,h⟩:=obind h
  obtain rfl:=sj h
  exact k199va31596 (tF q199va31596 0 [0,1,2] (oD (dC q2) <| oD (dE q1) <| oD (dI q4) <| oD (dI q3) <| oD (dE q0) <| oD (dE q5) <| oC 0 [0,1,2] (ih135va10998 _ _ _ _ _ _ _ _ _ _ h14) <| oC 1 [0,1,2] (c266va38843 h12) <| oC 1 [0,1,2] (c266va38843 h10) <| oB 1 h8 k))
  obtain ⟨r15,h16,h⟩:=obind h
  have k:=oC 1 [0,1,2] (c267va38843 h16) <| oB 1 h8 k
  rcases spl h with ⟨h17,h⟩ | ⟨h17,h⟩
  obtain ⟨r18,h19,h⟩:=obind h
  have k:=oC 1 [0,1,2] (c267va38843 h19) <| oB 2 h17 k
  rcases spl h with ⟨h20,h⟩ | ⟨h20,h⟩
  have k:=oB 2 h20 k
  rcases spl h with ⟨h21,h⟩ | ⟨h21,h⟩
  obtain rfl:=sj h
  exact k199va31596 (tF q199va31596 0 [0,1,2] (oD (dC q2) <| oD (dE q1) <| oD (dI q4) <| oD (dI q3) <| oD (dE q0) <| oD (dE q5) <| oB 0 h21 k))
  obtain ⟨x22,h23,h⟩:=obind h
  obtain ⟨x24,h25,h⟩:=obind h
  obtain ⟨r26,h27,h⟩:=obind h
  obtain rfl:=sj h
  exact k199va31596 (tF q199va31596 0 [0,1,2] (oD (dC q2) <| oD (dE q1) <| oD (dI q4) <| oD (dI q3) <| oD (dE q0) <| oD (dE q5) <| oC 0 [0,1,2] (ih268va61798 _ _ _ _ _ _ _ _ _ _ _ _ h27) <| oA 1 (slTo23 h25) <| oA 3 (ix22 (o:=.no) h23) <| oB 0 h21 k))
  obtain ⟨x28,h29,h⟩:=obind h
  obtain ⟨x30,h31,h⟩:=obind h
  obtain ⟨r32,h33,h⟩:=obind h
  obtain rfl:=sj h
  exact k199va31596 (tF q199va31596 0 [0,1,2] (oD (dC q2) <| oD (dE q1) <| oD (dI q4) <| oD (dI q3) <| oD (dE q0) <| oD (dE q5) <| oC 0 [0,1,2] (ih268va61798 _ _ _ _ _ _ _ _ _ _ _ _ h33) <| oA 1 (slTo23 h31) <| oA 3 (ix22 (o:=.no) h29) <| oB 2 h20 k))
  obtain ⟨r34,h35,h⟩:=obind h
  have k:=oC 1 [0,1,2] (c267va38843 h35) <| oB 2 h17 k
  rcases spl h with ⟨h36,h⟩ | ⟨h36,h⟩
  obtain ⟨x37,h38,h⟩:=obind h
  obtain ⟨x39,h40,h⟩:=obind h
  obtain ⟨r41,h42,h⟩:=obind h
  obtain rfl:=sj h
  exact k199va31596 (tF q199va31596 0 [0,1,2] (oD (dC q2) <| oD (dE q1) <| oD (dI q4) <| oD (dI q3) <| oD (dE q0) <| oD (dE q5) <| oC 0 [0,1,2] (ih268va61798 _ _ _ _ _ _ _ _ _ _ _ _ h42) <| oA 1 (slTo23 h40) <| oA 3 (ix22 (o:=.no) h38) <| oB 2 h36 k))
  have k:=oB 2 h36 k
  rcases spl h with ⟨h43,h⟩ | ⟨h43,h⟩
  obtain rfl:=sj h
  exact k199va31596 (tF q199va31596 0 [0,1,2] (oD (dC q2) <| oD (dE q1) <| oD (dI q4) <| oD (dI q3) <| oD (dE q0) <| oD (dE q5) <| oB 2 h43 k))
  have k:=oB 2 h43 k
  rcases spl h with ⟨h44,h⟩ | ⟨h44,h⟩
  obtain ⟨x45,h46,h⟩:=obind h
  obtain ⟨x47,h48,h⟩:=obind h
  obtain ⟨r49,h50,h⟩:=obind h
  have k:=oA 2 (ix23 (o:=.no) h48) <| oA 1 (ix23 (o:=.no) h46) <| oB 1 h44 k
  rcases spl h with ⟨h51,h⟩ | ⟨h51,h⟩
  obtain ⟨x52,h53,h⟩:=obind h
  obtain ⟨x54,h55,h⟩:=obind h
  obtain ⟨r56,h57,h⟩:=obind h
  obtain rfl:=sj h
  exact k199va31596 (tF q199va31596 0 [0,1,2] (oD (dC q2) <| oD (dE q1) <| oD (dI q4) <| oD (dI q3) <| oD (dE q0) <| oD (dE q5) <| oC 1 [0,1,2] (ih135va10998 _ _ _ _ _ _ _ _ _ _ h57) <| oA 2 (ix23 (o:=.no) h55) <| oA 2 (ix23 (o:=.no) h53) <| oK 1 [0,1,2] h51 (ih135va10998 _ _ _ _ _ _ _ _ _ _ h50) k))
  obtain rfl:=sj h
  exact k199va31596 (tF q199va31596 0 [0,1,2] (oD (dC q2) <| oD (dE q1) <| oD (dI q4) <| oD (dI q3) <| oD (dE q0) <| oD (dE q5) <| oK 1 [0,1,2] h51 (ih135va10998 _ _ _ _ _ _ _ _ _ _ h50) k))
  have k:=oB 1 h44 k
  rcases spl h with ⟨h58,h⟩ | ⟨h58,h⟩
  obtain ⟨r59,h60,h⟩:=obind h
  obtain rfl:=sj h
  exact k199va31596 (tF q199va31596 0 [0,1,2] (oD (dC q2) <| oD (dE q1) <| oD (dI q4) <| oD (dI q3) <| oD (dE q0) <| oD (dE q5) <| oC 3 [] (c200 h60) <| oB 1 h58 k))
  obtain ⟨r61,h62,h⟩:=obind h
  obtain rfl:=sj h
  exact k199va31596 (tF q199va31596 0 [0,1,2] (oD (dC q2) <| oD (dE q1) <| oD (dI q4) <| oD (dI q3) <| oD (dE q0) <| oD (dE q5) <| oC 2 [0,1,2] (ih269va10998 _ _ _ _ _ _ _ _ _ _ h62) <| oB 1 h58 k))
  intro q0 q1 q2 q3 q4 q5 q6 p1 p2 p3 p4 r h
  rw [e268va61798] at h
  obtain ⟨x1,h2,h⟩:=obind h
  obtain ⟨x3,h4,h⟩:=obind h
  exact k268va61798 (tH q268va61798 2 [] [0,1,2,3,4] [] [0,3,4,6,7,27,28] (oD (dT p4) <| oD (dT p2.sub) <| oD (dT p1.sub) <| oD (dC q2) <| oD (dE q1) <| oD (dI q4) <| oD (dI q3) <| oD (dE q0) <| oD (dE q5) <| oA 1 (ix22 (o:=.no) h4) <| oA 2 (ix22 (o:=.no) h2) o0) (ih268va61798L45303 _ _ _ _ _ _ _ _ _ _ _ _ _ _ h))
  intro q0 q1 q2 q3 q4 q5 p1 p2 p3 p4 x3 v28 vb0_3 r h
  rw [e268va61798L45303] at h
  rcases spl h with ⟨h5,h⟩ | ⟨h5,h⟩
  obtain ⟨r6,h7,h⟩:=obind h
  obtain ⟨r8,h9,h⟩:=obind h
  obtain ⟨r10,h11,h⟩:=obind h
  have k:=oC 1 [0,1,2] (c313va59181 h9) <| oC 1 [0,1,2] (c313va59181 h7) <| oB 0 h5 o0
  rcases spl h with ⟨h12,h⟩ | ⟨h12,h⟩
  exact fun j => lH 2 [] [0,1,2,3,4] [] [0,3,4,6,7,27,28] (oD (dT p4) <| oD (dT p2.sub) <| oD (dT p1.sub) <| oD (dC q2) <| oD (dE q1) <| oD (dI q4) <| oD (dI q3) <| oD (dE q0) <| oD (dE q5) <| oK 0 [0,1,2] h12 (ih135va10998 _ _ _ _ _ _ _ _ _ _ h11) k) (ih268va61798L45303 _ _ _ _ _ _ _ _ _ _ _ _ _ _ h)
  obtain rfl:=sj h
  exact fun j => lF 1 [0,1,2] (oD (dC q2) <| oD (dE q1) <| oD (dI q4) <| oD (dI q3) <| oD (dE q0) <| oD (dE q5) <| oK 0 [0,1,2] h12 (ih135va10998 _ _ _ _ _ _ _ _ _ _ h11) k)
  obtain rfl:=sj h
  exact fun j => lF 0 [0,1,2] (oD (dC q2) <| oD (dE q1) <| oD (dI q4) <| oD (dI q3) <| oD (dE q0) <| oD (dE q5) <| oB 0 h5 o0)
  intro q0 q1 q2 q3 q4 q5 q6 p1 p2 r h
  rw [e269va10998] at h
  obtain ⟨r1,h2,h⟩:=obind h
  obtain ⟨r3,h4,h⟩:=obind h
  have k:=oC 4 [] (c167 h4) <| oC 1 [] (c167 h2) o0
  rcases spl h with ⟨h5,h⟩ | ⟨h5,h⟩
  obtain rfl:=sj h
  exact k269va10998 (tF q269va10998 0 [0,1,2] (oD (dC q2) <| oD (dE q1) <| oD (dI q4) <| oD (dI q3) <| oD (dE q0) <| oD (dE q5) <| oB 5 h5 k))
  have k:=oB 5 h5 k
  rcases spl h with ⟨h6,h⟩ | ⟨h6,h⟩
  obtain rfl:=sj h
  exact k269va10998 (tF q269va10998 0 [0,1,2] (oD (dC q2) <| oD (dE q1) <| oD (dI q4) <| oD (dI q3) <| oD (dE q0) <| oD (dE q5) <| oB 2 h6 k))
  have k:=oB 2 h6 k
  rcases spl h with ⟨h7,h⟩ | ⟨h7,h⟩
  obtain rfl:=sj h
  exact k269va10998 (tF q269va10998 0 [0,1,2] (oD (dC q2) <| oD (dE q1) <| oD (dI q4) <| oD (dI q3) <| oD (dE q0) <| oD (dE q5) <| oB 2 h7 k))
  have k:=oB 2 h7 k
  rcases spl h with ⟨h8,h⟩ | ⟨h8,h⟩
  obtain ⟨x9,h10,h⟩:=obind h
  obtain ⟨x11,h12,h⟩:=obind h
  have k:=oA 2 (ix23 (o:=.no) h12) <| oA 1 (ix23 (o:=.no) h10) <| oB 1 h8 k
  rcases spl h with ⟨h13,h⟩ | ⟨h13,h⟩
  obtain rfl:=sj h
  exact k269va10998 (tF q269va10998 0 [0,1,2] (oD (dC q2) <| oD (dE q1) <| oD (dI q4) <| oD (dI q3) <| oD (dE q0) <| oD (dE q5) <| oB 1 h13 k))
  have k:=oB 1 h13 k
  rcases spl h with ⟨h14,h⟩ | ⟨h14,h⟩
  obtain ⟨r15,h16,h⟩:=obind h
  have k:=oA 2 (ix23 (o:=.no) h12) <| oA 1 (ix23 (o:=.no) h10) <| oB 1 h14 k
  rcases spl h with ⟨h17,h⟩ | ⟨h17,h⟩
  obtain ⟨x18,h19,h⟩:=obind h
  obtain ⟨x20,h21,h⟩:=obind h
  obtain ⟨r22,h23,h⟩:=obind h
  have k:=oA 2 (ix23 (o:=.no) h21) <| oA 1 (ix23 (o:=.no) h19) <| oK 1 [0,1,2] h17 (ih135va10998 _ _ _ _ _ _ _ _ _ _ h16) k
  rcases spl h with ⟨h24,h⟩ | ⟨h24,h⟩
  exact k269va10998 (tH q269va10998 2 [] [0,1,2] [] [0,8,10,88,89] (oD (dT r3.2) <| oD (dT r1.2) <| oD (dC q2) <| oD (dE q1) <| oD (dI q4) <| oD (dI q3) <| oD (dE q0) <| oD (dE q5) <| oK 1 [0,1,2] h24 (ih135va10998 _ _ _ _ _ _ _ _ _ _ h23) k) (ih269va10998L17401 _ _ _ _ _ _ _ _ _ _ _ h))
  obtain rfl:=sj h
  exact k269va10998 (tF q269va10998 1 [0,1,2] (oD (dC q2) <| oD (dE q1) <| oD (dI q4) <| oD (dI q3) <| oD (dE q0) <| oD (dE q5) <| oK 1 [0,1,2] h24 (ih135va10998 _ _ _ _ _ _ _ _ _ _ h23) k))
  obtain rfl:=sj h
  exact k269va10998 (tF q269va10998 1 [0,1,2] (oD (dC q2) <| oD (dE q1) <| oD (dI q4) <| oD (dI q3) <| oD (dE q0) <| oD (dE q5) <| oK 1 [0,1,2] h17 (ih135va10998 _ _ _ _ _ _ _ _ _ _ h16) k))
  exact k269va10998 (tH q269va10998 1 [] [0,1,2] [] [0,8,10,88,89] (oD (dT r3.2) <| oD (dT r1.2) <| oD (dC q2) <| oD (dE q1) <| oD (dI q4) <| oD (dI q3) <| oD (dE q0) <| oD (dE q5) <| oB 1 h14 k) (ih269va10998L17401 _ _ _ _ _ _ _ _ _ _ _ h))
  have k:=oB 1 h8 k
  rcases spl h with ⟨h25,h⟩ | ⟨h25,h⟩
  obtain ⟨x26,h27,h⟩:=obind h
  obtain ⟨x28,h29,h⟩:=obind h
  obtain ⟨r30,h31,h⟩:=obind h
  have k:=oA 2 (ix23 (o:=.no) h29) <| oA 1 (ix23 (o:=.no) h27) <| oB 1 h25 k
  rcases spl h with ⟨h32,h⟩ | ⟨h32,h⟩
  obtain ⟨x33,h34,h⟩:=obind h
  obtain ⟨x35,h36,h⟩:=obind h
  obtain ⟨r37,h38,h⟩:=obind h
  have k:=oA 2 (ix23 (o:=.no) h36) <| oA 1 (ix23 (o:=.no) h34) <| oK 1 [0,1,2] h32 (ih135va10998 _ _ _ _ _ _ _ _ _ _ h31) k
  rcases spl h with ⟨h39,h⟩ | ⟨h39,h⟩
  exact k269va10998 (tH q269va10998 2 [] [0,1,2] [] [0,8,10,88,89] (oD (dT r3.2) <| oD (dT r1.2) <| oD (dC q2) <| oD (dE q1) <| oD (dI q4) <| oD (dI q3) <| oD (dE q0) <| oD (dE q5) <| oK 1 [0,1,2] h39 (ih135va10998 _ _ _ _ _ _ _ _ _ _ h38) k) (ih269va10998L17401 _ _ _ _ _ _ _ _ _ _ _ h))
  obtain rfl:=sj h
  exact k269va10998 (tF q269va10998 1 [0,1,2] (oD (dC q2) <| oD (dE q1) <| oD (dI q4) <| oD (dI q3) <| oD (dE q0) <| oD (dE q5) <| oK 1 [0,1,2] h39 (ih135va10998 _ _ _ _ _ _ _ _ _ _ h38) k))
  obtain rfl:=sj h
  exact k269va10998 (tF q269va10998 1 [0,1,2] (oD (dC q2) <| oD (dE q1) <| oD (dI q4) <| oD (dI q3) <| oD (dE q0) <| oD (dE q5) <| oK 1 [0,1,2] h32 (ih135va10998 _ _ _ _ _ _ _ _ _ _ h31) k))
  exact k269va10998 (tH q269va10998 1 [] [0,1,2] [] [0,8,10,88,89] (oD (dT r3.2) <| oD (dT r1.2) <| oD (dC q2) <| oD (dE q1) <| oD (dI q4) <| oD (dI q3) <| oD (dE q0) <| oD (dE q5) <| oB 1 h25 k) (ih269va10998L17401 _ _ _ _ _ _ _ _ _ _ _ h))
  intro q0 q1 q2 q3 q4 q5 r1 r3 v89 vb0_3 r h
  rw [e269va10998L17401] at h
  rcases spl h with ⟨h25,h⟩ | ⟨h25,h⟩
  obtain ⟨x26,h27,h⟩:=obind h
  obtain ⟨x28,h29,h⟩:=obind h
  obtain ⟨r30,h31,h⟩:=obind h
  have k:=oA 1 (ix23 (o:=.no) h29) <| oA 0 (ix23 (o:=.no) h27) <| oB 0 h25 o0
  rcases spl h with ⟨h32,h⟩ | ⟨h32,h⟩
  exact fun j => lH 2 [] [0,1,2] [] [0,8,10,88,89] (oD (dT r3.2) <| oD (dT r1.2) <| oD (dC q2) <| oD (dE q1) <| oD (dI q4) <| oD (dI q3) <| oD (dE q0) <| oD (dE q5) <| oK 1 [0,1,2] h32 (ih135va10998 _ _ _ _ _ _ _ _ _ _ h31) k) (ih269va10998L17401 _ _ _ _ _ _ _ _ _ _ _ h)
  obtain rfl:=sj h
  exact fun j => lF 1 [0,1,2] (oD (dC q2) <| oD (dE q1) <| oD (dI q4) <| oD (dI q3) <| oD (dE q0) <| oD (dE q5) <| oK 1 [0,1,2] h32 (ih135va10998 _ _ _ _ _ _ _ _ _ _ h31) k)
  obtain rfl:=sj h
  exact fun j => lF 0 [0,1,2] (oD (dC q2) <| oD (dE q1) <| oD (dI q4) <| oD (dI q3) <| oD (dE q0) <| oD (dE q5) <| oB 0 h25 o0)
theorem c135va10998 {qq q0 q1 q2 q3 q4 q5 q6 p1 p2 r} (h:e135va10998 qq q0 q1 q2 q3 q4 q5 q6 p1 p2 = some r):K135va10998 q0 q1 q2 q3 q4 q5 q6 p1 p2 r Ct:=(a135va10998_199va31596_268va61798_268va61798L45303_269va10998_269va10998L17401 _).1 _ _ _ _ _ _ _ _ _ _ h
def e134va38585 (qq:Nat) (q0 q1:List Ent) (q2:List Con') (q3 q4:List Int) (q5:List Ent) (q6 q7 q8:Int) (q9:List Tm) (q10 q11:Int) (q12:List Tm):Option (Bool × Int) :=
 e135va10998 qq q0 q1 q2 q3 q4 q5 q6 (Tm.mk q7 q8 q9) (Tm.mk q10 q11 q12) >>= fun r1 =>
 some (r1.1,r1.2)
abbrev K134va38585 (q0 q1:List Ent) (q2:List Con') (q3 q4:List Int) (q5:List Ent) (q6 q7 q8:Int) (q9:List Tm) (q10 q11:Int) (q12:List Tm) (r:Bool × Int) (C:Cf):Prop:=C 134 [.cells [.mp 1 0,slv entL q5 .no,.val (.pointer none),ai q6],.cells [slv entL q0 .no,.mp 2 0,slv intC q3 .no,slv intC q4 .no],.cells [slv entL q1 .no,slv conL q2 .no],.cells [ai q7,ai q8,slv tmCells q9 .no],.cells [ai q10,ai q11,slv tmCells q12 .no]] [.mp 0 0,.mp 3 0,.mp 4 0] (ab r.1) [.cells [.mp 1 0,slv entL q5 .no,.val (.pointer none),ai r.2],.cells [slv entL q0 .no,.mp 2 0,slv intC q3 .no,slv intC q4 .no],.cells [slv entL q1 .no,slv conL q2 .no],.cells [ai q7,ai q8,slv tmCells q9 .no],.cells [ai q10,ai q11,slv tmCells q12 .no]] 0
theorem q134va38585:Qf 134 Tryz.f134:=⟨Tryz.func134,by kernel_rfl⟩
theorem k134va38585 {q0 q1 q2 q3 q4 q5 q6 q7 q8 q9 q10 q11 q12 r} (h:K134va38585 q0 q1 q2 q3 q4 q5 q6 q7 q8 q9 q10 q11 q12 r Ci):K134va38585 q0 q1 q2 q3 q4 q5 q6 q7 q8 q9 q10 q11 q12 r Ct:=⟨h,⟨(lz rfl),(lz rfl),(lz rfl),tv⟩,(forall_cons ⟨(lz rfl),⟨tv,dE _⟩,tv,tv,tv⟩ (forall_cons ⟨⟨tv,dE _⟩,(lz rfl),⟨tv,dI _⟩,⟨tv,dI _⟩,tv⟩ (forall_cons ⟨⟨tv,dE _⟩,⟨tv,dC _⟩,tv⟩ (forall_cons ⟨tv,tv,⟨tv,dT _⟩,tv⟩ (forall_cons ⟨tv,tv,⟨tv,dT _⟩,tv⟩ forall_nil))))),tv,(forall_cons ⟨(lz rfl),dE _,tv,tv,tv⟩ (forall_cons ⟨dE _,(lz rfl),dI _,dI _,tv⟩ (forall_cons ⟨dE _,dC _,tv⟩ (forall_cons ⟨tv,tv,dT _,tv⟩ (forall_cons ⟨tv,tv,dT _,tv⟩ forall_nil)))))⟩
theorem c134va38585 {qq q0 q1 q2 q3 q4 q5 q6 q7 q8 q9 q10 q11 q12 r} (h:e134va38585 qq q0 q1 q2 q3 q4 q5 q6 q7 q8 q9 q10 q11 q12 = some r):K134va38585 q0 q1 q2 q3 q4 q5 q6 q7 q8 q9 q10 q11 q12 r Ct:=by
 unfold e134va38585 at h
 obtain ⟨r1,h2,h⟩:=obind h
 obtain rfl:=sj h
 exact k134va38585 (tF q134va38585 0 [0,1,2,3,4] (oD (dT q12) <| oD (dT q9) <| oD (dC q2) <| oD (dE q1) <| oD (dI q4) <| oD (dI q3) <| oD (dE q0) <| oD (dE q5) <| oC 2 [0,1,2] (c135va10998 h2) o0))
def e133va32470 (qq:Nat) (q0 q1:List Ent) (q2:List Con') (q3 q4:List Int) (p1 p2:Tm) (q7 q8:Int) (q9:List Tm) (q10 q11:Int) (q12:List Tm):Option (Bool × Int) :=
 e108 qq (Mach.mk q0 q1 q2 q3 q4) >>= fun r1 =>
 e107 qq p1 1048577 r1 >>= fun r3 =>
 if r3 then
 e108 qq (Mach.mk q0 q1 q2 q3 q4) >>= fun r6 =>
 e107 qq p2 1048577 r6 >>= fun r8 =>
 if r8 then
 e184 qq (Mach.mk q0 q1 q2 q3 q4) >>= fun r11 =>
 e134va38585 qq q0 q1 q2 q3 q4 r11 0 q7 q8 q9 q10 q11 q12 >>= fun r13 =>
 if r13.1 then
 some ((r13.2 == 0),r13.2)
 else
 some (false,r13.2)
 else
 some (false,5)
 else
 some (false,5)
abbrev K133va32470 (q0 q1:List Ent) (q2:List Con') (q3 q4:List Int) (p1 p2:Tm) (q7 q8:Int) (q9:List Tm) (q10 q11:Int) (q12:List Tm) (r:Bool × Int) (C:Cf):Prop:=C 133 [.cells [slv entL q0 .no,.mp 1 0,slv intC q3 .no,slv intC q4 .no],.cells [slv entL q1 .no,slv conL q2 .no],.cells [ai q7,ai q8,slv tmCells q9 .no],.cells [ai q10,ai q11,slv tmCells q12 .no]] [.mp 0 0,tmA p1,tmA p2,.val (.pointer none),.clo 134 [] [.mp 2 0,.mp 3 0]] (.tup [ab r.1,ai r.2]) [.cells [slv entL q0 .no,.mp 1 0,slv intC q3 .no,slv intC q4 .no],.cells [slv entL q1 .no,slv conL q2 .no],.cells [ai q7,ai q8,slv tmCells q9 .no],.cells [ai q10,ai q11,slv tmCells q12 .no]] 0
theorem q133va32470:Qf 133 Tryz.f133:=⟨Tryz.func133,by kernel_rfl⟩
theorem k133va32470 {q0 q1 q2 q3 q4 p1 p2 q7 q8 q9 q10 q11 q12 r} (h:K133va32470 q0 q1 q2 q3 q4 p1 p2 q7 q8 q9 q10 q11 q12 r Ci):K133va32470 q0 q1 q2 q3 q4 p1 p2 q7 q8 q9 q10 q11 q12 r Ct:=⟨h,⟨(lz rfl),⟨tv,tv,⟨tv,dT _⟩,tv⟩,⟨tv,tv,⟨tv,dT _⟩,tv⟩,tv,⟨tv,⟨(lz rfl),(lz rfl),tv⟩⟩,tv⟩,(forall_cons ⟨⟨tv,dE _⟩,(lz rfl),⟨tv,dI _⟩,⟨tv,dI _⟩,tv⟩ (forall_cons ⟨⟨tv,dE _⟩,⟨tv,dC _⟩,tv⟩ (forall_cons ⟨tv,tv,⟨tv,dT _⟩,tv⟩ (forall_cons ⟨tv,tv,⟨tv,dT _⟩,tv⟩ forall_nil)))),⟨tv,tv,tv⟩,(forall_cons ⟨dE _,(lz rfl),dI _,dI _,tv⟩ (forall_cons ⟨dE _,dC _,tv⟩ (forall_cons ⟨tv,tv,dT _,tv⟩ (forall_cons ⟨tv,tv,dT _,tv⟩ forall_nil))))⟩
theorem c133va32470 {qq q0 q1 q2 q3 q4 p1 p2 q7 q8 q9 q10 q11 q12 r} (h:e133va32470 qq q0 q1 q2 q3 q4 p1 p2 q7 q8 q9 q10 q11 q12 = some r):K133va32470 q0 q1 q2 q3 q4 p1 p2 q7 q8 q9 q10 q11 q12 r Ct:=by
 unfold e133va32470 at h
 obtain ⟨r1,h2,h⟩:=obind h
 obtain ⟨r3,h4,h⟩:=obind h
 have k:=oC 2 [0,1] (c108 h2) o0
 rcases spl h with ⟨h5,h⟩ | ⟨h5,h⟩
 obtain ⟨r6,h7,h⟩:=obind h
 obtain ⟨r8,h9,h⟩:=obind h
 have k:=oC 2 [0,1] (c108 h7) <| oK 0 [] h5 (c107 h4) k
 rcases spl h with ⟨h10,h⟩ | ⟨h10,h⟩
 obtain ⟨r11,h12,h⟩:=obind h
 obtain ⟨r13,h14,h⟩:=obind h
 have k:=oC 1 [0,1] (c184 h12) <| oK 0 [] h10 (c107 h9) k
 rcases spl h with ⟨h15,h⟩ | ⟨h15,h⟩
 obtain rfl:=sj h
 exact k133va32470 (tF q133va32470 3 [0,1,2,3] (oD (dT q12) <| oD (dT q9) <| oD (dC q2) <| oD (dE q1) <| oD (dI q4) <| oD (dI q3) <| oD (dE q0) <| oK 0 [6,0,1,2,3] h15 (c134va38585 h14) k))
 obtain rfl:=sj h
 exact k133va32470 (tF q133va32470 1 [0,1,2,3] (oD (dT q12) <| oD (dT q9) <| oD (dC q2) <| oD (dE q1) <| oD (dI q4) <| oD (dI q3) <| oD (dE q0) <| oK 0 [6,0,1,2,3] h15 (c134va38585 h14) k))
 obtain rfl:=sj h
 exact k133va32470 (tF q133va32470 1 [0,1,2,3] (oD (dT q12) <| oD (dT q9) <| oD (dC q2) <| oD (dE q1) <| oD (dI q4) <| oD (dI q3) <| oD (dE q0) <| oK 0 [] h10 (c107 h9) k))
 obtain rfl:=sj h
 exact k133va32470 (tF q133va32470 1 [0,1,2,3] (oD (dT q12) <| oD (dT q9) <| oD (dC q2) <| oD (dE q1) <| oD (dI q4) <| oD (dI q3) <| oD (dE q0) <| oK 0 [] h5 (c107 h4) k))
def e67va18876 (qq:Nat) (q0 q1:List Ent) (q2:List Con') (q3 q4:List Int) (p1 p2:Tm):Option (Bool × Int) :=
 e133va32470 qq q0 q1 q2 q3 q4 p1 p2 p1.k p1.n p1.sub p2.k p2.n p2.sub >>= fun r1 =>
 some (r1.1,r1.2)
abbrev K67va18876 (q0 q1:List Ent) (q2:List Con') (q3 q4:List Int) (p1 p2:Tm) (r:Bool × Int) (C:Cf):Prop:=C 67 [.cells [slv entL q0 .no,.mp 1 0,slv intC q3 .no,slv intC q4 .no],.cells [slv entL q1 .no,slv conL q2 .no]] [.mp 0 0,tmA p1,tmA p2,.val (.pointer none)] (.tup [ab r.1,ai r.2]) [.cells [slv entL q0 .no,.mp 1 0,slv intC q3 .no,slv intC q4 .no],.cells [slv entL q1 .no,slv conL q2 .no]] 0
theorem q67va18876:Qf 67 Tryz.f67:=⟨Tryz.func67,by kernel_rfl⟩
theorem k67va18876 {q0 q1 q2 q3 q4 p1 p2 r} (h:K67va18876 q0 q1 q2 q3 q4 p1 p2 r Ci):K67va18876 q0 q1 q2 q3 q4 p1 p2 r Ct:=⟨h,⟨(lz rfl),⟨tv,tv,⟨tv,dT _⟩,tv⟩,⟨tv,tv,⟨tv,dT _⟩,tv⟩,tv,tv⟩,(forall_cons ⟨⟨tv,dE _⟩,(lz rfl),⟨tv,dI _⟩,⟨tv,dI _⟩,tv⟩ (forall_cons ⟨⟨tv,dE _⟩,⟨tv,dC _⟩,tv⟩ forall_nil)),⟨tv,tv,tv⟩,(forall_cons ⟨dE _,(lz rfl),dI _,dI _,tv⟩ (forall_cons ⟨dE _,dC _,tv⟩ forall_nil))⟩
theorem c67va18876 {qq q0 q1 q2 q3 q4 p1 p2 r} (h:e67va18876 qq q0 q1 q2 q3 q4 p1 p2 = some r):K67va18876 q0 q1 q2 q3 q4 p1 p2 r Ct:=by
 unfold e67va18876 at h
 obtain ⟨r1,h2,h⟩:=obind h
 obtain rfl:=sj h
 exact k67va18876 (tF q67va18876 2 [0,1] (oD (dC q2) <| oD (dE q1) <| oD (dI q4) <| oD (dI q3) <| oD (dE q0) <| oC 2 [0,1,2,3] (c133va32470 h2) o0))
def e133va61264 (qq:Nat) (p1 p2:Tm) (q2 q3 q4 q5:Int) (q6:List Tm) (q7 q8:Int) (q9:List Tm):Option (Bool × Int) :=
 some (false,5)
abbrev K133va61264 (p1 p2:Tm) (q2 q3 q4 q5:Int) (q6:List Tm) (q7 q8:Int) (q9:List Tm) (r:Bool × Int) (C:Cf):Prop:=C 133 [.cells [ai q2,ai q3],.cells [ai q4,ai q5,slv tmCells q6 .no],.cells [ai q7,ai q8,slv tmCells q9 .no]] [.val (.pointer none),tmA p1,tmA p2,.mp 0 0,.clo 134 [] [.mp 1 0,.mp 2 0]] (.tup [ab r.1,ai r.2]) [.cells [ai q2,ai q3],.cells [ai q4,ai q5,slv tmCells q6 .no],.cells [ai q7,ai q8,slv tmCells q9 .no]] 0
theorem q133va61264:Qf 133 Tryz.f133:=⟨Tryz.func133,by kernel_rfl⟩
theorem k133va61264 {p1 p2 q2 q3 q4 q5 q6 q7 q8 q9 r} (h:K133va61264 p1 p2 q2 q3 q4 q5 q6 q7 q8 q9 r Ci):K133va61264 p1 p2 q2 q3 q4 q5 q6 q7 q8 q9 r Ct:=⟨h,⟨tv,⟨tv,tv,⟨tv,dT _⟩,tv⟩,⟨tv,tv,⟨tv,dT _⟩,tv⟩,(lz rfl),⟨tv,⟨(lz rfl),(lz rfl),tv⟩⟩,tv⟩,(forall_cons ⟨tv,tv,tv⟩ (forall_cons ⟨tv,tv,⟨tv,dT _⟩,tv⟩ (forall_cons ⟨tv,tv,⟨tv,dT _⟩,tv⟩ forall_nil))),⟨tv,tv,tv⟩,(forall_cons ⟨tv,tv,tv⟩ (forall_cons ⟨tv,tv,dT _,tv⟩ (forall_cons ⟨tv,tv,dT _,tv⟩ forall_nil)))⟩
theorem c133va61264 {qq p1 p2 q2 q3 q4 q5 q6 q7 q8 q9 r} (h:e133va61264 qq p1 p2 q2 q3 q4 q5 q6 q7 q8 q9 = some r):K133va61264 p1 p2 q2 q3 q4 q5 q6 q7 q8 q9 r Ct:=by
 unfold e133va61264 at h
 obtain rfl:=sj h
 exact k133va61264 (tF q133va61264 1 [0,1,2] (oD (dT q9) <| oD (dT q6) o0))
def e67va29373 (qq:Nat) (p1 p2:Tm) (q2 q3:Int):Option (Bool × Int) :=
 e133va61264 qq p1 p2 q2 q3 p1.k p1.n p1.sub p2.k p2.n p2.sub >>= fun r1 =>
 some (r1.1,r1.2)
abbrev K67va29373 (p1 p2:Tm) (q2 q3:Int) (r:Bool × Int) (C:Cf):Prop:=C 67 [.cells [ai q2,ai q3]] [.val (.pointer none),tmA p1,tmA p2,.mp 0 0] (.tup [ab r.1,ai r.2]) [.cells [ai q2,ai q3]] 0
theorem q67va29373:Qf 67 Tryz.f67:=⟨Tryz.func67,by kernel_rfl⟩
theorem k67va29373 {p1 p2 q2 q3 r} (h:K67va29373 p1 p2 q2 q3 r Ci):K67va29373 p1 p2 q2 q3 r Ct:=⟨h,⟨tv,⟨tv,tv,⟨tv,dT _⟩,tv⟩,⟨tv,tv,⟨tv,dT _⟩,tv⟩,(lz rfl),tv⟩,(forall_cons ⟨tv,tv,tv⟩ forall_nil),⟨tv,tv,tv⟩,(forall_cons ⟨tv,tv,tv⟩ forall_nil)⟩
theorem c67va29373 {qq p1 p2 q2 q3 r} (h:e67va29373 qq p1 p2 q2 q3 = some r):K67va29373 p1 p2 q2 q3 r Ct:=by
 unfold e67va29373 at h
 obtain ⟨r1,h2,h⟩:=obind h
 obtain rfl:=sj h
 exact k67va29373 (tF q67va29373 2 [0] (oC 2 [0,1,2] (c133va61264 h2) o0))
def e133va3995 (qq:Nat) (p1 p2:Tm) (q2 q3:Int) (q4:List Tm) (q5 q6:Int) (q7:List Tm):Option (Bool × Int) :=
 some (false,5)
abbrev K133va3995 (p1 p2:Tm) (q2 q3:Int) (q4:List Tm) (q5 q6:Int) (q7:List Tm) (r:Bool × Int) (C:Cf):Prop:=C 133 [.cells [ai q2,ai q3,slv tmCells q4 .no],.cells [ai q5,ai q6,slv tmCells q7 .no]] [.val (.pointer none),tmA p1,tmA p2,.val (.pointer none),.clo 134 [] [.mp 0 0,.mp 1 0]] (.tup [ab r.1,ai r.2]) [.cells [ai q2,ai q3,slv tmCells q4 .no],.cells [ai q5,ai q6,slv tmCells q7 .no]] 0
theorem q133va3995:Qf 133 Tryz.f133:=⟨Tryz.func133,by kernel_rfl⟩
theorem k133va3995 {p1 p2 q2 q3 q4 q5 q6 q7 r} (h:K133va3995 p1 p2 q2 q3 q4 q5 q6 q7 r Ci):K133va3995 p1 p2 q2 q3 q4 q5 q6 q7 r Ct:=⟨h,⟨tv,⟨tv,tv,⟨tv,dT _⟩,tv⟩,⟨tv,tv,⟨tv,dT _⟩,tv⟩,tv,⟨tv,⟨(lz rfl),(lz rfl),tv⟩⟩,tv⟩,(forall_cons ⟨tv,tv,⟨tv,dT _⟩,tv⟩ (forall_cons ⟨tv,tv,⟨tv,dT _⟩,tv⟩ forall_nil)),⟨tv,tv,tv⟩,(forall_cons ⟨tv,tv,dT _,tv⟩ (forall_cons ⟨tv,tv,dT _,tv⟩ forall_nil))⟩
theorem c133va3995 {qq p1 p2 q2 q3 q4 q5 q6 q7 r} (h:e133va3995 qq p1 p2 q2 q3 q4 q5 q6 q7 = some r):K133va3995 p1 p2 q2 q3 q4 q5 q6 q7 r Ct:=by
 unfold e133va3995 at h
 obtain rfl:=sj h
 exact k133va3995 (tF q133va3995 1 [0,1] (oD (dT q7) <| oD (dT q4) o0))
def e67va30710 (qq:Nat) (p1 p2:Tm):Option (Bool × Int) :=
 e133va3995 qq p1 p2 p1.k p1.n p1.sub p2.k p2.n p2.sub >>= fun r1 =>
 some (r1.1,r1.2)
abbrev K67va30710 (p1 p2:Tm) (r:Bool × Int) (C:Cf):Prop:=C 67 [] [.val (.pointer none),tmA p1,tmA p2,.val (.pointer none)] (.tup [ab r.1,ai r.2]) [] 0
theorem q67va30710:Qf 67 Tryz.f67:=⟨Tryz.func67,by kernel_rfl⟩
theorem k67va30710 {p1 p2 r} (h:K67va30710 p1 p2 r Ci):K67va30710 p1 p2 r Ct:=⟨h,⟨tv,⟨tv,tv,⟨tv,dT _⟩,tv⟩,⟨tv,tv,⟨tv,dT _⟩,tv⟩,tv,tv⟩,forall_nil,⟨tv,tv,tv⟩,forall_nil⟩
theorem c67va30710 {qq p1 p2 r} (h:e67va30710 qq p1 p2 = some r):K67va30710 p1 p2 r Ct:=by
 unfold e67va30710 at h
 obtain ⟨r1,h2,h⟩:=obind h
 obtain rfl:=sj h
 exact k67va30710 (tF q67va30710 2 [] (oC 2 [0,1] (c133va3995 h2) o0))
def e15 (qq:Nat) (p0:List Ent) (p1 p2:Tm) (p3:Int):Option (Bool × Int × Int) :=
 e37 qq p0 >>= fun r1 =>
 match r1 with
 | Sum.inl y21 =>
  if y21 != 0 then
  some (false,0,y21)
  else
  e45 qq p3 >>= fun r23 =>
  match r23 with
  | Sum.inl y32 =>
   if y32 != 0 then
   some (false,0,y32)
   else
   e67va30710 qq p1 p2 >>= fun r34 =>
   if r34.2 != 0 then
   some (false,0,r34.2)
   else
   e48va47633 qq >>= fun r37 =>
   some (r34.1,r37,0)
  | Sum.inr y25 =>
   if y25.1 != 0 then
   some (false,0,y25.1)
   else
   e67va29373 qq p1 p2 y25.2.1 y25.2.2 >>= fun r27 =>
   if r27.2 != 0 then
   some (false,0,r27.2)
   else
   e48 qq y25.2.1 y25.2.2 >>= fun r30 =>
   some (r27.1,r30,0)
 | Sum.inr y3 =>
  if y3.1 != 0 then
  some (false,0,y3.1)
  else
  e45 qq p3 >>= fun r5 =>
  match r5 with
  | Sum.inl y14 =>
   if y14 != 0 then
   some (false,0,y14)
   else
   e67va18876 qq y3.2.1 y3.2.2.2.2.1 y3.2.2.2.2.2 y3.2.2.1 y3.2.2.2.1 p1 p2 >>= fun r16 =>
   if r16.2 != 0 then
   some (false,0,r16.2)
   else
   e48va47633 qq >>= fun r19 =>
   some (r16.1,r19,0)
  | Sum.inr y7 =>
   if y7.1 != 0 then
   some (false,0,y7.1)
   else
   e67 qq (Mach.mk y3.2.1 y3.2.2.2.2.1 y3.2.2.2.2.2 y3.2.2.1 y3.2.2.2.1) p1 p2 y7.2.1 y7.2.2 >>= fun r9 =>
   if r9.2.1 != 0 then
   some (false,0,r9.2.1)
   else
   e48 qq r9.2.2.1 r9.2.2.2 >>= fun r12 =>
   some (r9.1,r12,0)
abbrev K15 (p0:List Ent) (p1 p2:Tm) (p3:Int) (r:Bool × Int × Int) (C:Cf):Prop:=C 15 [] [slv entL p0 .no,tmA p1,tmA p2,ai p3] (.tup [ab r.1,ai r.2.1,ai r.2.2]) [] 0
theorem q15:Qf 15 Tryz.f15:=⟨Tryz.func15,by kernel_rfl⟩
theorem k15 {p0 p1 p2 p3 r} (h:K15 p0 p1 p2 p3 r Ci):K15 p0 p1 p2 p3 r Ct:=⟨h,⟨⟨tv,dE _⟩,⟨tv,tv,⟨tv,dT _⟩,tv⟩,⟨tv,tv,⟨tv,dT _⟩,tv⟩,tv,tv⟩,forall_nil,⟨tv,tv,tv,tv⟩,forall_nil⟩
theorem c15 {qq p0 p1 p2 p3 r} (h:e15 qq p0 p1 p2 p3 = some r):K15 p0 p1 p2 p3 r Ct:=by
 unfold e15 at h
 obtain ⟨r1,h2,h⟩:=obind h
 rcases r1 with y21 | y3
 dsimp only at h
 have k:=oC 0 [] (c37 h2) o0
 rcases spl h with ⟨h22,h⟩ | ⟨h22,h⟩
 obtain rfl:=sj h
 exact k15 (tF q15 0 [] (oB 2 h22 k))
 obtain ⟨r23,h24,h⟩:=obind h
 have k:=oB 2 h22 k
 rcases r23 with y32 | y25
 dsimp only at h
 have k:=oC 0 [] (c45 h24) k
 rcases spl h with ⟨h33,h⟩ | ⟨h33,h⟩
 obtain rfl:=sj h
 exact k15 (tF q15 0 [] (oB 2 h33 k))
 obtain ⟨r34,h35,h⟩:=obind h
 have k:=oC 2 [] (c67va30710 h35) <| oB 2 h33 k
 rcases spl h with ⟨h36,h⟩ | ⟨h36,h⟩
 obtain rfl:=sj h
 exact k15 (tF q15 0 [] (oB 2 h36 k))
 obtain ⟨r37,h38,h⟩:=obind h
 obtain rfl:=sj h
 exact k15 (tF q15 0 [] (oC 0 [] (c48va47633 h38) <| oB 2 h36 k))
 dsimp only at h
 have k:=oC 0 [] (c45 h24) k
 rcases spl h with ⟨h26,h⟩ | ⟨h26,h⟩
 obtain rfl:=sj h
 exact k15 (tF q15 0 [] (oB 2 h26 k))
 obtain ⟨r27,h28,h⟩:=obind h
 have k:=oC 2 [2] (c67va29373 h28) <| oB 2 h26 k
 rcases spl h with ⟨h29,h⟩ | ⟨h29,h⟩
 obtain rfl:=sj h
 exact k15 (tF q15 0 [] (oB 2 h29 k))
 obtain ⟨r30,h31,h⟩:=obind h
 obtain rfl:=sj h
 exact k15 (tF q15 0 [] (oC 0 [2] (c48 h31) <| oB 2 h29 k))
 dsimp only at h
 have k:=oC 0 [] (c37 h2) o0
 rcases spl h with ⟨h4,h⟩ | ⟨h4,h⟩
 obtain rfl:=sj h
 exact k15 (tF q15 0 [] (oB 2 h4 k))
 obtain ⟨r5,h6,h⟩:=obind h
 have k:=oB 2 h4 k
 rcases r5 with y14 | y7
 dsimp only at h
 have k:=oC 0 [] (c45 h6) k
 rcases spl h with ⟨h15,h⟩ | ⟨h15,h⟩
 obtain rfl:=sj h
 exact k15 (tF q15 0 [] (oB 2 h15 k))
 obtain ⟨r16,h17,h⟩:=obind h
 have k:=oC 2 [2,3] (c67va18876 h17) <| oB 2 h15 k
 rcases spl h with ⟨h18,h⟩ | ⟨h18,h⟩
 obtain rfl:=sj h
 exact k15 (tF q15 0 [] (oB 2 h18 k))
 obtain ⟨r19,h20,h⟩:=obind h
 obtain rfl:=sj h
 exact k15 (tF q15 0 [] (oC 0 [] (c48va47633 h20) <| oB 2 h18 k))
 dsimp only at h
 have k:=oC 0 [] (c45 h6) k
 rcases spl h with ⟨h8,h⟩ | ⟨h8,h⟩
 obtain rfl:=sj h
 exact k15 (tF q15 0 [] (oB 2 h8 k))
 obtain ⟨r9,h10,h⟩:=obind h
 have k:=oC 2 [2,3,4] (c67 h10) <| oB 2 h8 k
 rcases spl h with ⟨h11,h⟩ | ⟨h11,h⟩
 obtain rfl:=sj h
 exact k15 (tF q15 0 [] (oB 2 h11 k))
 obtain ⟨r12,h13,h⟩:=obind h
 obtain rfl:=sj h
 exact k15 (tF q15 0 [] (oC 0 [4] (c48 h13) <| oB 2 h11 k))
theorem conv_of {N : ByteArray → Bool} (l : List Ent) (hn : Evt (fun q => e37 q l) (newT l true)) (hE : AllE N l) (he : ∀ e ∈ l, EOk e) (hl : l.length ≤ 65535) (hc : ∀ e ∈ l, ECl e) (x y : Tm) (hx : x.Ok) (hy : y.Ok) (f : Int) (h0 : 0 ≤ f) (h1 : f ≤ 1048576) :
    ∃ r : Bool × Int × Int, Evt (fun q => e15 q l x y f) r ∧ (r.2.2 = 0 → ∃ k, Cv l false x y r.1 k) := by
  have run : ∀ r, Evt (fun q => e67 q (machT l) x y f 0) r → Evt (fun q => e15 q l x y f) (if r.2.1 ≠ 0 then (false, 0, r.2.1) else (r.1, r.2.2.2, 0)) := fun r h => by
    simp only [e15]
    refine hn.bind (Evt.ifF (by simp) ((ev_mNew f h0 h1).bind (Evt.ifF (by simp) (Evt.bind (a := r) h ?_))))
    by_cases e : r.2.1 ≠ 0
    · rw [if_pos e]; exact Evt.ifT (by simpa using e) Evt.ret
    · rw [if_neg e]
      refine Evt.ifF (by simpa using e) (Evt.bind (a := r.2.2.2) (Evt.mk fun q => ?_) Evt.ret)
      simp only [e48, e113va35861]; rfl
  rcases out_askF l hE he hl hc x y hx hy f h0 with ⟨R, k, k0, k1, ⟨b, e, h8, hC, hno, rfl⟩, h3, -⟩ | ⟨h, -⟩
  · refine ⟨_, run _ (h3 f 0 k1 (by omega) (by omega)), fun hz => ?_⟩
    by_cases e0 : e = 0
    · subst e0
      rw [if_neg (by simp)]
      exact ⟨k, hC rfl⟩
    · rw [if_pos e0] at hz
      exact absurd hz e0
  · obtain ⟨r, h5, h6⟩ := h 0 (by omega) (by omega)
    have h7 := (er4b_8 h6).2
    refine ⟨_, run r h5, fun hz => ?_⟩
    rw [if_pos (by omega)] at hz
    have : r.2.1 = 0 := hz
    omega
def e13 (qq:Nat) (p0:List Ent) (p1 p2:Tm) (p3:Int):Option (Bool) :=
 if decide ((List.length p0:Int) ≤ 60) then
 if decide (p3 ≤ 400) then
 e66 qq p1 >>= fun r3 =>
 if decide (r3 ≤ 300) then
 e66 qq p2 >>= fun r6 =>
 some (decide (r6 ≤ 300))
 else
 some false
 else
 some false
 else
 some false
abbrev K13 (p0:List Ent) (p1 p2:Tm) (p3:Int) (r:Bool) (C:Cf):Prop:=C 13 [] [slv entL p0 .no,tmA p1,tmA p2,ai p3] (ab r) [] 0
theorem q13:Qf 13 Tryz.f13:=⟨Tryz.func13,by kernel_rfl⟩
theorem k13 {p0 p1 p2 p3 r} (h:K13 p0 p1 p2 p3 r Ci):K13 p0 p1 p2 p3 r Ct:=⟨h,⟨⟨tv,dE _⟩,⟨tv,tv,⟨tv,dT _⟩,tv⟩,⟨tv,tv,⟨tv,dT _⟩,tv⟩,tv,tv⟩,forall_nil,tv,forall_nil⟩
theorem c13 {qq p0 p1 p2 p3 r} (h:e13 qq p0 p1 p2 p3 = some r):K13 p0 p1 p2 p3 r Ct:=by
 unfold e13 at h
 rcases spl h with ⟨h1,h⟩ | ⟨h1,h⟩
 have k:=oB 1 h1 o0
 rcases spl h with ⟨h2,h⟩ | ⟨h2,h⟩
 obtain ⟨r3,h4,h⟩:=obind h
 have k:=oC 1 [] (c66 h4) <| oB 0 h2 k
 rcases spl h with ⟨h5,h⟩ | ⟨h5,h⟩
 obtain ⟨r6,h7,h⟩:=obind h
 obtain rfl:=sj h
 exact k13 (tF q13 1 [] (oC 1 [] (c66 h7) <| oB 0 h5 k))
 obtain rfl:=sj h
 exact k13 (tF q13 0 [] (oB 0 h5 k))
 obtain rfl:=sj h
 exact k13 (tF q13 0 [] (oB 0 h2 k))
 obtain rfl:=sj h
 exact k13 (tF q13 0 [] (oB 1 h1 o0))
def e21 (qq:Nat) (p0:Int) (p1 p2:Tm):Option (Tm) :=
 some (Tm.mk p0 0 [p1,p2])
abbrev K21 (p0:Int) (p1 p2 r:Tm) (C:Cf):Prop:=C 21 [] [ai p0,tmA p1,tmA p2] (tmA r) [] 0
theorem q21:Qf 21 Tryz.f21:=⟨Tryz.func21,by kernel_rfl⟩
theorem k21 {p0 p1 p2 r} (h:K21 p0 p1 p2 r Ci):K21 p0 p1 p2 r Ct:=⟨h,⟨tv,⟨tv,tv,⟨tv,dT _⟩,tv⟩,⟨tv,tv,⟨tv,dT _⟩,tv⟩,tv⟩,forall_nil,⟨tv,tv,dT _,tv⟩,forall_nil⟩
theorem c21 {qq p0 p1 p2 r} (h:e21 qq p0 p1 p2 = some r):K21 p0 p1 p2 r Ct:=by
 unfold e21 at h
 obtain rfl:=sj h
 exact k21 (tF q21 1 [] (oD (dT [p1,p2]) <| oS 2 (obLitR tm_eq [p1,p2]) o0))
def e14 (qq:Nat)  : Option (Bool) :=
 e21 qq 4 (Tm.mk 2 2 []) (Tm.mk 1 0 []) >>= fun r1 =>
 e21 qq 5 r1 (Tm.mk 2 2 []) >>= fun r3 =>
 e15 qq [] r3 (Tm.mk 2 2 []) 5 >>= fun r5 =>
 if r5.1 then
 e15 qq [] (Tm.mk 2 2 []) (Tm.mk 1 0 []) 5 >>= fun r8 =>
 if r8.1 then
 if r5.2.1 == 1 then
 if r5.2.2 == 0 then
 some false
 else
 some false
 else
 some false
 else
 if r5.2.1 == 1 then
 if r5.2.2 == 0 then
 some (r8.2.2 == 0)
 else
 some false
 else
 some false
 else
 e15 qq [] (Tm.mk 2 2 []) (Tm.mk 1 0 []) 5 >>= fun r15 =>
 if r15.1 then
 some false
 else
 some false
abbrev K14 (r:Bool) (C:Cf):Prop:=C 14 [] [] (ab r) [] 0
theorem q14:Qf 14 Tryz.f14:=⟨Tryz.func14,by kernel_rfl⟩
theorem k14 {r} (h:K14 r Ci):K14 r Ct:=⟨h,tv,forall_nil,tv,forall_nil⟩
theorem c14 {qq r} (h:e14 qq  = some r):K14 r Ct:=by
 unfold e14 at h
 obtain ⟨r1,h2,h⟩:=obind h
 obtain ⟨r3,h4,h⟩:=obind h
 obtain ⟨r5,h6,h⟩:=obind h
 have k:=oC 1 [] (c15 h6) <| oC 1 [] (c21 h4) <| oC 4 [] (c21 h2) o0
 rcases spl h with ⟨h7,h⟩ | ⟨h7,h⟩
 obtain ⟨r8,h9,h⟩:=obind h
 have k:=oC 4 [] (c15 h9) <| oB 0 h7 k
 rcases spl h with ⟨h10,h⟩ | ⟨h10,h⟩
 have k:=oB 0 h10 k
 rcases spl h with ⟨h11,h⟩ | ⟨h11,h⟩
 have k:=oB 2 h11 k
 rcases spl h with ⟨h12,h⟩ | ⟨h12,h⟩
 obtain rfl:=sj h
 exact k14 (tF q14 1 [] (oB 0 h12 k))
 obtain rfl:=sj h
 exact k14 (tF q14 0 [] (oB 0 h12 k))
 obtain rfl:=sj h
 exact k14 (tF q14 0 [] (oB 2 h11 k))
 have k:=oB 0 h10 k
 rcases spl h with ⟨h13,h⟩ | ⟨h13,h⟩
 have k:=oB 2 h13 k
 rcases spl h with ⟨h14,h⟩ | ⟨h14,h⟩
 obtain rfl:=sj h
 exact k14 (tF q14 2 [] (oB 0 h14 k))
 obtain rfl:=sj h
 exact k14 (tF q14 0 [] (oB 0 h14 k))
 obtain rfl:=sj h
 exact k14 (tF q14 0 [] (oB 2 h13 k))
 obtain ⟨r15,h16,h⟩:=obind h
 have k:=oC 4 [] (c15 h16) <| oB 0 h7 k
 rcases spl h with ⟨h17,h⟩ | ⟨h17,h⟩
 obtain rfl:=sj h
 exact k14 (tF q14 2 [] (oB 0 h17 k))
 obtain rfl:=sj h
 exact k14 (tF q14 2 [] (oB 0 h17 k))
def e3 (qq:Nat) (p0:List Ent) (p1:A2Tm):Option (Bool) :=
 e13 qq p0 p1.a p1.b 0 >>= fun r1 =>
 if r1 then
 e15 qq p0 p1.a p1.b 400 >>= fun r4 =>
 e15 qq p0 p1.b p1.a 400 >>= fun r6 =>
 if r4.2.2 != 0 then
 e14 qq >>= fun r9 =>
 some r9
 else
 if r6.2.2 != 0 then
 e14 qq >>= fun r12 =>
 some r12
 else
 if r4.1 == r6.1 then
 e14 qq >>= fun r15 =>
 some r15
 else
 some false
 else
 e14 qq >>= fun r17 =>
 some r17
abbrev K3 (p0:List Ent) (p1:A2Tm) (r:Bool) (C:Cf):Prop:=C 3 [] [slv entL p0 .no,a2TmA p1] (ab r) [] 0
theorem q3:Qf 3 Tryz.f3:=⟨Tryz.func3,by kernel_rfl⟩
theorem k3 {p0 p1 r} (h:K3 p0 p1 r Ci):K3 p0 p1 r Ct:=⟨h,⟨⟨tv,dE _⟩,⟨tv,tv,⟨tv,dT _⟩,tv,tv,⟨tv,dT _⟩,tv⟩,tv⟩,forall_nil,tv,forall_nil⟩
theorem c3 {qq p0 p1 r} (h:e3 qq p0 p1 = some r):K3 p0 p1 r Ct:=by
 unfold e3 at h
 obtain ⟨r1,h2,h⟩:=obind h
 rcases spl h with ⟨h3,h⟩ | ⟨h3,h⟩
 obtain ⟨r4,h5,h⟩:=obind h
 obtain ⟨r6,h7,h⟩:=obind h
 have k:=oC 7 [] (c15 h7) <| oC 5 [] (c15 h5) <| oK 4 [] h3 (c13 h2) o0
 rcases spl h with ⟨h8,h⟩ | ⟨h8,h⟩
 obtain ⟨r9,h10,h⟩:=obind h
 obtain rfl:=sj h
 exact k3 (tF q3 0 [] (oC 0 [] (c14 h10) <| oB 3 h8 k))
 have k:=oB 3 h8 k
 rcases spl h with ⟨h11,h⟩ | ⟨h11,h⟩
 obtain ⟨r12,h13,h⟩:=obind h
 obtain rfl:=sj h
 exact k3 (tF q3 0 [] (oC 0 [] (c14 h13) <| oB 0 h11 k))
 have k:=oB 0 h11 k
 rcases spl h with ⟨h14,h⟩ | ⟨h14,h⟩
 obtain ⟨r15,h16,h⟩:=obind h
 obtain rfl:=sj h
 exact k3 (tF q3 0 [] (oC 0 [] (c14 h16) <| oB 0 h14 k))
 obtain rfl:=sj h
 exact k3 (tF q3 0 [] (oB 0 h14 k))
 obtain ⟨r17,h18,h⟩:=obind h
 obtain rfl:=sj h
 exact k3 (tF q3 0 [] (oC 1 [] (c14 h18) <| oK 4 [] h3 (c13 h2) o0))
def e4 (qq:Nat) (p0:List Ent) (p1:Tm):Option (Bool) :=
 e13 qq p0 p1 p1 0 >>= fun r1 =>
 if r1 then
 e16 qq p0 p1 300 >>= fun r4 =>
 e17 qq p0 p1 300 >>= fun r6 =>
 if r4.2.2 != 0 then
 e14 qq >>= fun r9 =>
 some r9
 else
 if r6.2.2 != 0 then
 e14 qq >>= fun r12 =>
 some r12
 else
 e15 qq p0 p1 p1 3000 >>= fun r14 =>
 if r14.1 then
 e15 qq p0 p1 r4.1 3000 >>= fun r17 =>
 if r17.1 then
 e15 qq p0 r6.1 p1 3000 >>= fun r20 =>
 if r20.1 then
 e14 qq >>= fun r23 =>
 some r23
 else
 if r20.2.2 != 0 then
 e14 qq >>= fun r26 =>
 some r26
 else
 some false
 else
 e15 qq p0 r6.1 p1 3000 >>= fun r28 =>
 if r28.1 then
 if r17.2.2 != 0 then
 e14 qq >>= fun r32 =>
 some r32
 else
 some false
 else
 if r17.2.2 != 0 then
 if r28.2.2 != 0 then
 e14 qq >>= fun r36 =>
 some r36
 else
 some false
 else
 some false
 else
 e15 qq p0 p1 r4.1 3000 >>= fun r38 =>
 if r38.1 then
 e15 qq p0 r6.1 p1 3000 >>= fun r41 =>
 if r41.1 then
 if r14.2.2 != 0 then
 e14 qq >>= fun r45 =>
 some r45
 else
 some false
 else
 if r14.2.2 != 0 then
 if r41.2.2 != 0 then
 e14 qq >>= fun r49 =>
 some r49
 else
 some false
 else
 some false
 else
 e15 qq p0 r6.1 p1 3000 >>= fun r51 =>
 if r51.1 then
 if r14.2.2 != 0 then
 if r38.2.2 != 0 then
 e14 qq >>= fun r56 =>
 some r56
 else
 some false
 else
 some false
 else
 if r14.2.2 != 0 then
 if r38.2.2 != 0 then
 if r51.2.2 != 0 then
 e14 qq >>= fun r61 =>
 some r61
 else
 some false
 else
 some false
 else
 some false
 else
 e14 qq >>= fun r63 =>
 some r63
abbrev K4 (p0:List Ent) (p1:Tm) (r:Bool) (C:Cf):Prop:=C 4 [] [slv entL p0 .no,tmA p1] (ab r) [] 0
theorem q4:Qf 4 Tryz.f4:=⟨Tryz.func4,by kernel_rfl⟩
theorem k4 {p0 p1 r} (h:K4 p0 p1 r Ci):K4 p0 p1 r Ct:=⟨h,⟨⟨tv,dE _⟩,⟨tv,tv,⟨tv,dT _⟩,tv⟩,tv⟩,forall_nil,tv,forall_nil⟩
theorem c4 {qq p0 p1 r} (h:e4 qq p0 p1 = some r):K4 p0 p1 r Ct:=by
 unfold e4 at h
 obtain ⟨r1,h2,h⟩:=obind h
 rcases spl h with ⟨h3,h⟩ | ⟨h3,h⟩
 obtain ⟨r4,h5,h⟩:=obind h
 obtain ⟨r6,h7,h⟩:=obind h
 have k:=oC 5 [] (c17 h7) <| oC 2 [] (c16 h5) <| oK 2 [] h3 (c13 h2) o0
 rcases spl h with ⟨h8,h⟩ | ⟨h8,h⟩
 obtain ⟨r9,h10,h⟩:=obind h
 obtain rfl:=sj h
 exact k4 (tF q4 0 [] (oC 0 [] (c14 h10) <| oB 4 h8 k))
 have k:=oB 4 h8 k
 rcases spl h with ⟨h11,h⟩ | ⟨h11,h⟩
 obtain ⟨r12,h13,h⟩:=obind h
 obtain rfl:=sj h
 exact k4 (tF q4 0 [] (oC 0 [] (c14 h13) <| oB 0 h11 k))
 obtain ⟨r14,h15,h⟩:=obind h
 have k:=oC 2 [] (c15 h15) <| oB 0 h11 k
 rcases spl h with ⟨h16,h⟩ | ⟨h16,h⟩
 obtain ⟨r17,h18,h⟩:=obind h
 have k:=oC 4 [] (c15 h18) <| oB 0 h16 k
 rcases spl h with ⟨h19,h⟩ | ⟨h19,h⟩
 obtain ⟨r20,h21,h⟩:=obind h
 have k:=oC 4 [] (c15 h21) <| oB 0 h19 k
 rcases spl h with ⟨h22,h⟩ | ⟨h22,h⟩
 obtain ⟨r23,h24,h⟩:=obind h
 obtain rfl:=sj h
 exact k4 (tF q4 0 [] (oC 2 [] (c14 h24) <| oB 0 h22 k))
 have k:=oB 0 h22 k
 rcases spl h with ⟨h25,h⟩ | ⟨h25,h⟩
 obtain ⟨r26,h27,h⟩:=obind h
 obtain rfl:=sj h
 exact k4 (tF q4 0 [] (oC 0 [] (c14 h27) <| oB 2 h25 k))
 obtain rfl:=sj h
 exact k4 (tF q4 0 [] (oB 2 h25 k))
 obtain ⟨r28,h29,h⟩:=obind h
 have k:=oC 4 [] (c15 h29) <| oB 0 h19 k
 rcases spl h with ⟨h30,h⟩ | ⟨h30,h⟩
 have k:=oB 0 h30 k
 rcases spl h with ⟨h31,h⟩ | ⟨h31,h⟩
 obtain ⟨r32,h33,h⟩:=obind h
 obtain rfl:=sj h
 exact k4 (tF q4 0 [] (oC 0 [] (c14 h33) <| oB 2 h31 k))
 obtain rfl:=sj h
 exact k4 (tF q4 0 [] (oB 2 h31 k))
 have k:=oB 0 h30 k
 rcases spl h with ⟨h34,h⟩ | ⟨h34,h⟩
 have k:=oB 2 h34 k
 rcases spl h with ⟨h35,h⟩ | ⟨h35,h⟩
 obtain ⟨r36,h37,h⟩:=obind h
 obtain rfl:=sj h
 exact k4 (tF q4 0 [] (oC 0 [] (c14 h37) <| oB 0 h35 k))
 obtain rfl:=sj h
 exact k4 (tF q4 0 [] (oB 0 h35 k))
 obtain rfl:=sj h
 exact k4 (tF q4 0 [] (oB 2 h34 k))
 obtain ⟨r38,h39,h⟩:=obind h
 have k:=oC 4 [] (c15 h39) <| oB 0 h16 k
 rcases spl h with ⟨h40,h⟩ | ⟨h40,h⟩
 obtain ⟨r41,h42,h⟩:=obind h
 have k:=oC 4 [] (c15 h42) <| oB 0 h40 k
 rcases spl h with ⟨h43,h⟩ | ⟨h43,h⟩
 have k:=oB 0 h43 k
 rcases spl h with ⟨h44,h⟩ | ⟨h44,h⟩
 obtain ⟨r45,h46,h⟩:=obind h
 obtain rfl:=sj h
 exact k4 (tF q4 0 [] (oC 0 [] (c14 h46) <| oB 2 h44 k))
 obtain rfl:=sj h
 exact k4 (tF q4 0 [] (oB 2 h44 k))
 have k:=oB 0 h43 k
 rcases spl h with ⟨h47,h⟩ | ⟨h47,h⟩
 have k:=oB 2 h47 k
 rcases spl h with ⟨h48,h⟩ | ⟨h48,h⟩
 obtain ⟨r49,h50,h⟩:=obind h
 obtain rfl:=sj h
 exact k4 (tF q4 0 [] (oC 0 [] (c14 h50) <| oB 0 h48 k))
 obtain rfl:=sj h
 exact k4 (tF q4 0 [] (oB 0 h48 k))
 obtain rfl:=sj h
 exact k4 (tF q4 0 [] (oB 2 h47 k))
 obtain ⟨r51,h52,h⟩:=obind h
 have k:=oC 4 [] (c15 h52) <| oB 0 h40 k
 rcases spl h with ⟨h53,h⟩ | ⟨h53,h⟩
 have k:=oB 0 h53 k
 rcases spl h with ⟨h54,h⟩ | ⟨h54,h⟩
 have k:=oB 2 h54 k
 rcases spl h with ⟨h55,h⟩ | ⟨h55,h⟩
 obtain ⟨r56,h57,h⟩:=obind h
 obtain rfl:=sj h
 exact k4 (tF q4 0 [] (oC 0 [] (c14 h57) <| oB 0 h55 k))
 obtain rfl:=sj h
 exact k4 (tF q4 0 [] (oB 0 h55 k))
 obtain rfl:=sj h
 exact k4 (tF q4 0 [] (oB 2 h54 k))
 have k:=oB 0 h53 k
 rcases spl h with ⟨h58,h⟩ | ⟨h58,h⟩
 have k:=oB 2 h58 k
 rcases spl h with ⟨h59,h⟩ | ⟨h59,h⟩
 have k:=oB 0 h59 k
 rcases spl h with ⟨h60,h⟩ | ⟨h60,h⟩
 obtain ⟨r61,h62,h⟩:=obind h
 obtain rfl:=sj h
 exact k4 (tF q4 0 [] (oC 0 [] (c14 h62) <| oB 0 h60 k))
 obtain rfl:=sj h
 exact k4 (tF q4 0 [] (oB 0 h60 k))
 obtain rfl:=sj h
 exact k4 (tF q4 0 [] (oB 0 h59 k))
 obtain rfl:=sj h
 exact k4 (tF q4 0 [] (oB 2 h58 k))
 obtain ⟨r63,h64,h⟩:=obind h
 obtain rfl:=sj h
 exact k4 (tF q4 0 [] (oC 1 [] (c14 h64) <| oK 2 [] h3 (c13 h2) o0))
theorem awake16 (q : Nat) : e14 (q + 200) = some true := by kernel_rfl
theorem ev_awake16 : Evt (fun q => e14 q) true := ⟨200, fun q hq => by
  obtain ⟨k, rfl⟩ : ∃ k, q = k + 200 := ⟨q - 200, by omega⟩
  exact awake16 k⟩
theorem tot_light16 (l : List Ent) (a b : Tm) (f : Int) : Tot (fun q => e13 q l a b f) (fun r => r = true → l.length ≤ 60) := by
  simp only [e13]
  refine Tot.ite (fun h => Tot.ite (fun _ => ?_) fun _ => Tot.ret (fun h => by cases h)) fun _ => Tot.ret (fun h => by cases h)
  have := of_decide_eq_true h
  exact Tot.bind (P := fun _ => True) ((ev_rSize a).tot trivial) fun r _ => Tot.ite (fun _ => Tot.bind (P := fun _ => True) ((ev_rSize b).tot trivial) fun r _ => Tot.ret fun _ => by omega) fun _ => Tot.ret (fun h => by cases h)
theorem ev_ConvSelf (l : List Ent) (t : Tm) (he : ∀ e ∈ l, EOk e) (hc : ∀ e ∈ l, ECl e) (ht : t.Ok) : Evt (fun q => e4 q l t) true := by
  simp only [e4]
  have aw : Evt (fun q => e14 q >>= fun r => some r) true := ev_awake16.bind Evt.ret
  obtain ⟨g, hg, hg'⟩ := tot_light16 l t t 0
  refine hg.bind ?_
  cases g with
  | false => exact Evt.ifF rfl aw
  | true =>
    have hl := hg' rfl
    refine Evt.ifT rfl ?_
    rcases sign_cases l hl he hc with hn | ⟨N, hE, hn⟩
    · refine (of_unf l hn t 300).bind ((bring_unf l hn t 300).bind ?_)
      exact Evt.ifT (by decide) aw
    · have hC : ∀ x y : Tm, x.Ok → y.Ok → ∃ r : Bool × Int × Int, Evt (fun q => e15 q l x y 3000) r ∧ (r.2.2 = 0 → ∃ k, Cv l false x y r.1 k) := fun x y hx hy => conv_of l hn hE he (by omega) hc x y hx hy 3000 (by omega) (by omega)
      rcases of_is l hn hE he t ht 300 (by omega) (by omega) with ⟨x, k, hN, hs, -, -, hev⟩ | ⟨r, h1, h2, -⟩
      · rcases bring_is l hn hE he t ht 300 (by omega) (by omega) with ⟨y, e, kk, k0, k1, hx, hgd⟩ | ⟨r, h1, h2⟩
        · have hb := hgd 300 k1 (by omega)
          refine hev.bind (hb.bind ?_)
          by_cases e0 : e = 0
          · subst e0
            obtain ⟨hR, hbr⟩ : RightM l t ∧ Br l t y 0 kk := by
              rcases hx with ⟨-, h⟩ | h
              · exact absurd h (by decide)
              · exact h
            have hsy := hbr.shaped hR.shaped rfl
            obtain ⟨ra, ha, ha'⟩ := hC t t ht ht
            obtain ⟨rb, hb1, hb2⟩ := hC t x ht (shaped_ok hs)
            obtain ⟨rc, hc1, hc2⟩ := hC y t (shaped_ok hsy) ht
            have za : ra.2.2 = 0 → ra.1 = true := fun h => by obtain ⟨k, c⟩ := ha' h; exact c.refl hE
            have zb : rb.2.2 = 0 → rb.1 = true := fun h => by obtain ⟨k, c⟩ := hb2 h; exact c.norm hE hN hs
            have zc : rc.2.2 = 0 → rc.1 = true := fun h => by obtain ⟨k, c⟩ := hc2 h; exact Cv.whnf hE hbr c
            rw [if_pos rfl]
            refine Evt.ifF rfl (Evt.ifF (by simp) (ha.bind ?_))
            have na : ra.1 = false → (ra.2.2 != 0) = true := fun h => by
              have : ra.2.2 ≠ 0 := fun e => by rw [za e] at h; cases h
              simpa using this
            have nb : rb.1 = false → (rb.2.2 != 0) = true := fun h => by
              have : rb.2.2 ≠ 0 := fun e => by rw [zb e] at h; cases h
              simpa using this
            have nc : rc.1 = false → (rc.2.2 != 0) = true := fun h => by
              have : rc.2.2 ≠ 0 := fun e => by rw [zc e] at h; cases h
              simpa using this
            rcases bcases ra.1 with qa | qa <;> rcases bcases rb.1 with qb | qb <;> rcases bcases rc.1 with qc | qc <;>
              (try have na := na qa) <;> (try have nb := nb qb) <;> (try have nc := nc qc) <;>
              simp only [qa, Bool.false_eq_true, if_true, if_false] <;> refine hb1.bind ?_ <;> simp only [qb, Bool.false_eq_true, if_true, if_false] <;> refine hc1.bind ?_ <;>
              simp only [qc, na, nb, nc, Bool.false_eq_true, if_true, if_false] <;> exact aw
          · rw [if_neg e0]
            exact Evt.ifF rfl (Evt.ifT (by simpa using e0) aw)
        · refine hev.bind (h1.bind (Evt.ifF rfl (Evt.ifT (by simp [show r.2.2 = 8 from h2]) aw)))
      · obtain ⟨rb, hb⟩ : ∃ rb, Evt (fun q => e17 q l t 300) rb := by
          rcases bring_is l hn hE he t ht 300 (by omega) (by omega) with ⟨y, e, kk, k0, k1, hx, hgd⟩ | ⟨r', h1', h2'⟩
          · exact ⟨_, hgd 300 k1 (by omega)⟩
          · exact ⟨_, h1'⟩
        exact h1.bind (hb.bind (Evt.ifT (by simpa using h2) aw))
theorem rdE_ok {l : List Ent} (h : ∀ e ∈ l, RdE e) : ∀ e ∈ l, EOk e := fun e he => ⟨(h e he).1, (h e he).2.1, Nat.le_trans (h e he).2.2.1 (by decide), Nat.le_trans (h e he).2.2.2 (by decide)⟩
theorem rdE_cl {l : List Ent} (h : ∀ e ∈ l, RdE e) : ∀ e ∈ l, ECl e := fun e he => ⟨(h e he).2.2.1, (h e he).2.2.2⟩
theorem convSelf_ct (l : List Ent) (t : Tm) (w0 : ∀ e ∈ l, RdE e) (w1 : t.Ok) : CT Tryz.prog 4 [] [.sl (flat entL l) l.length .no, tmA t] (ab true) [] 0 := by
  obtain ⟨q, hq⟩ := (ev_ConvSelf l t (rdE_ok w0) (rdE_cl w0) w1).at
  exact c4 hq
end Go.Proofs.YtmfcobjnlabpoaaGreat
