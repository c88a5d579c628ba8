/- Texts: AbF138va14437_202va14437_272va38066_273va38066 AbF69va14437 AbF137va20783 AbF69va17286 AbF69va53055 AbF17 AbF55 AbQi AbRd AbF136_201 AbRe AbRi AbRr AbRt AbRu AbF265 AbF198 AbF200 AbF266 AbF165 AbF267 AbF152 AbF313 AbF135va22461_199va26991_268va27343_269va22461 AbRj AbRk AbRl AbF108 AbF134va30903 AbF184 AbF133va24069 AbF67 AbRm AbF68 AbF136va10383_201va52547 AbF68va14437 AbF136va39915_201va7488 AbF68va17286 AbF136va20868_201va60136 AbF68va53055 AbF16 AbF91 AbRg AbF265va38843 AbF198va10998 AbF266va38843 AbF267va38843 AbF313va59181 AbF135va10998_199va31596_268va61798_269va10998 AbF134va38585 AbF133va32470 AbF67va18876 AbF133va61264 AbF67va29373 AbF133va3995 AbF67va30710 AbF15 AbRv AbF13 AbF21 AbF14 AbF3 AbF4 AbRw AbTd -/
import Derived.KernelRfl
import Derived.Test.YtmfcobjnlabpoaaGreatAbB4
set_option linter.unusedVariables false
set_option linter.unusedSimpArgs false
namespace Go.Proofs.YtmfcobjnlabpoaaGreat
open Go Go.Ab
mutual
def e138va14437:Nat → (List Ent) → (List Ent) → (List Con') → (List Int) → (List Int) → Tm → Option (Tm × Int)
 | 0,_,_,_,_,_,_ => none
 | qq + 1,q0,q1,q2,q3,q4,p1 =>
 e138va14437L15812 qq q0 q1 q2 q3 q4 p1.k p1.n p1.sub
def e138va14437L15812:Nat → (List Ent) → (List Ent) → (List Con') → (List Int) → (List Int) → Int → Int → (List Tm) → Option (Tm × Int)
 | 0,_,_,_,_,_,_,_,_ => none
 | qq + 1,q0,q1,q2,q3,q4,vb2_0,vb2_1,vb2_2 =>
 e202va14437 qq q0 q1 q2 q3 q4 (Tm.mk vb2_0 vb2_1 vb2_2) >>= fun r1 =>
 if r1.2.1 then
 if r1.2.2 != 0 then
 some ((Tm.mk 0 0 []),r1.2.2)
 else
 e138va14437L15812 qq q0 q1 q2 q3 q4 r1.1.k r1.1.n r1.1.sub
 else
 if r1.2.2 != 0 then
 some ((Tm.mk 0 0 []),r1.2.2)
 else
 some ((Tm.mk vb2_0 vb2_1 vb2_2),0)
def e202va14437:Nat → (List Ent) → (List Ent) → (List Con') → (List Int) → (List Int) → Tm → Option (Tm × Bool × Int)
 | 0,_,_,_,_,_,_ => none
 | qq + 1,q0,q1,q2,q3,q4,p1 =>
 e167 qq p1 >>= fun r1 =>
 if r1.1.k == 4 then
 if decide ((List.length r1.2:Int) > 0) then
 gidx r1.1.sub 1 >>= fun x5 =>
 gidx r1.2 0 >>= fun x7 =>
 e270 qq x5 x7 >>= fun r9 =>
 gsl r1.2 1 (List.length r1.2:Int) >>= fun x11 =>
 e151 qq r9.1 x11 >>= fun r13 =>
 if r9.2 != 0 then
 some (p1,false,r9.2)
 else
 e252va47633 qq >>= fun r16 =>
 if r16 != 0 then
 some (p1,false,r16)
 else
 e274 qq r13 >>= fun r19 =>
 some (r19.1,true,r19.2)
 else
 e271 qq (Mach.mk q0 q1 q2 q3 q4) r1.1 >>= fun r21 =>
 if r21 == 3 then
 gidx q0 r1.1.n >>= fun x24 =>
 e151 qq x24.body r1.2 >>= fun r26 =>
 e252va47633 qq >>= fun r28 =>
 if r28 != 0 then
 some (p1,false,r28)
 else
 e274 qq r26 >>= fun r31 =>
 some (r31.1,true,r31.2)
 else
 e271 qq (Mach.mk q0 q1 q2 q3 q4) r1.1 >>= fun r33 =>
 if r33 == 4 then
 e272va38066 qq q0 q1 q2 q3 q4 r1.1 r1.2 >>= fun r36 =>
 if r36.2.1 then
 if r36.2.2 != 0 then
 some (p1,false,r36.2.2)
 else
 e252va47633 qq >>= fun r40 =>
 if r40 != 0 then
 some (p1,false,r40)
 else
 e274 qq r36.1 >>= fun r43 =>
 some (r43.1,true,r43.2)
 else
 if r36.2.2 != 0 then
 some (p1,false,r36.2.2)
 else
 some (p1,false,r36.2.2)
 else
 if r1.1.k == 7 then
 e273va38066 qq q0 q1 q2 q3 q4 r1.1 r1.2 >>= fun r47 =>
 if r47.2.1 then
 if r47.2.2 != 0 then
 some (p1,false,r47.2.2)
 else
 e252va47633 qq >>= fun r51 =>
 if r51 != 0 then
 some (p1,false,r51)
 else
 e274 qq r47.1 >>= fun r54 =>
 some (r54.1,true,r54.2)
 else
 if r47.2.2 != 0 then
 some (p1,false,r47.2.2)
 else
 some (p1,false,r47.2.2)
 else
 some (p1,false,0)
 else
 e271 qq (Mach.mk q0 q1 q2 q3 q4) r1.1 >>= fun r57 =>
 if r57 == 3 then
 gidx q0 r1.1.n >>= fun x60 =>
 e151 qq x60.body r1.2 >>= fun r62 =>
 e252va47633 qq >>= fun r64 =>
 if r64 != 0 then
 some (p1,false,r64)
 else
 e274 qq r62 >>= fun r67 =>
 some (r67.1,true,r67.2)
 else
 e271 qq (Mach.mk q0 q1 q2 q3 q4) r1.1 >>= fun r69 =>
 if r69 == 4 then
 e272va38066 qq q0 q1 q2 q3 q4 r1.1 r1.2 >>= fun r72 =>
 if r72.2.1 then
 if r72.2.2 != 0 then
 some (p1,false,r72.2.2)
 else
 e252va47633 qq >>= fun r76 =>
 if r76 != 0 then
 some (p1,false,r76)
 else
 e274 qq r72.1 >>= fun r79 =>
 some (r79.1,true,r79.2)
 else
 if r72.2.2 != 0 then
 some (p1,false,r72.2.2)
 else
 some (p1,false,r72.2.2)
 else
 if r1.1.k == 7 then
 e273va38066 qq q0 q1 q2 q3 q4 r1.1 r1.2 >>= fun r83 =>
 if r83.2.1 then
 if r83.2.2 != 0 then
 some (p1,false,r83.2.2)
 else
 e252va47633 qq >>= fun r87 =>
 if r87 != 0 then
 some (p1,false,r87)
 else
 e274 qq r83.1 >>= fun r90 =>
 some (r90.1,true,r90.2)
 else
 if r83.2.2 != 0 then
 some (p1,false,r83.2.2)
 else
 some (p1,false,r83.2.2)
 else
 some (p1,false,0)
def e272va38066:Nat → (List Ent) → (List Ent) → (List Con') → (List Int) → (List Int) → Tm → (List Tm) → Option (Tm × Bool × Int)
 | 0,_,_,_,_,_,_,_ => none
 | qq + 1,q0,q1,q2,q3,q4,p1,p2 =>
 gidx q0 p1.n >>= fun x1 =>
 if decide ((List.length p2:Int) ≤ x1.pars) then
 some ((Tm.mk 0 0 []),false,0)
 else
 gidx p2 x1.pars >>= fun x4 =>
 e138va14437 qq q0 q1 q2 q3 q4 x4 >>= fun r6 =>
 if r6.2 != 0 then
 some ((Tm.mk 0 0 []),false,r6.2)
 else
 e230 qq (Mach.mk q0 q1 q2 q3 q4) r6.1 >>= fun r9 =>
 if r9.2.2 then
 gidx q0 r9.1 >>= fun x12 =>
 if x12.fam != x1.fam then
 some ((Tm.mk 0 0 []),false,0)
 else
 gsl r9.2.1 x12.pars (List.length r9.2.1:Int) >>= fun x15 =>
 e314 qq q1 q2 p1.n x15 >>= fun r17 =>
 gsl p2 (w64 (x1.pars + 1)) (List.length p2:Int) >>= fun x19 =>
 e151 qq r17.1 x19 >>= fun r21 =>
 some (r21,true,r17.2)
 else
 some ((Tm.mk 0 0 []),false,0)
def e273va38066:Nat → (List Ent) → (List Ent) → (List Con') → (List Int) → (List Int) → Tm → (List Tm) → Option (Tm × Bool × Int)
 | 0,_,_,_,_,_,_,_ => none
 | qq + 1,q0,q1,q2,q3,q4,p1,p2 =>
 if decide (p1.n ≥ (List.length q0:Int)) then
 some ((Tm.mk 0 0 []),false,0)
 else
 gidx q0 p1.n >>= fun x2 =>
 if x2.kind != 1 then
 some ((Tm.mk 0 0 []),false,0)
 else
 gidx q3 p1.n >>= fun x5 =>
 if decide ((List.length p2:Int) < x5) then
 some ((Tm.mk 0 0 []),false,0)
 else
 gidx p2 (w64 (x5 - 1)) >>= fun x8 =>
 e138va14437 qq q0 q1 q2 q3 q4 x8 >>= fun r10 =>
 if r10.2 != 0 then
 some ((Tm.mk 0 0 []),false,r10.2)
 else
 e230 qq (Mach.mk q0 q1 q2 q3 q4) r10.1 >>= fun r13 =>
 if r13.2.2 then
 gidx q0 r13.1 >>= fun x16 =>
 if x16.fam != p1.n then
 some ((Tm.mk 0 0 []),false,0)
 else
 gidx p1.sub 0 >>= fun x19 =>
 gsl p2 0 (w64 ((w64 (x2.pars + 1)) + (List.length x2.cons:Int))) >>= fun x21 =>
 gsl r13.2.1 x2.pars (List.length r13.2.1:Int) >>= fun x23 =>
 e84 qq q1 q2 p1.n x19.n r13.1 x21 x23 >>= fun r25 =>
 gsl p2 x5 (List.length p2:Int) >>= fun x27 =>
 e151 qq r25.1 x27 >>= fun r29 =>
 some (r29,true,r25.2)
 else
 some ((Tm.mk 0 0 []),false,0)
end
def g138va14437L15812E0 (j:Nat → Value) (q0 q1:List Ent) (q2:List Con') (q3 q4:List Int) (vb2_0 vb2_1:Int) (vb2_2:List Tm):=sp j 28 0 [(0,.mp 0 0),(2,.val (.pointer none)),(4,.mp 2 0),(6,.mp 3 0)]
def g138va14437L15812S0 (q0 q1:List Ent) (q2:List Con') (q3 q4:List Int) (vb2_0 vb2_1:Int) (vb2_2:List Tm):LSt:=⟨[(0,.cells [slv entL q0 .no,.mp 1 0,slv intC q3 .no,slv intC q4 .no]),(1,.cells [slv entL q1 .no,slv conL q2 .no]),(2,.cells [ai vb2_0,ai vb2_1,slv tmCells vb2_2 .no]),(3,.cells [ai 0,ai 0,slv tmCells ([]:List Tm) .nl])],4,[],0,[]⟩
abbrev K138va14437 (q0 q1:List Ent) (q2:List Con') (q3 q4:List Int) (p1:Tm) (r:Tm × Int) (C:Cf):Prop:=C 138 [.cells [slv entL q0 .no,.mp 1 0,slv intC q3 .no,slv intC q4 .no],.cells [slv entL q1 .no,slv conL q2 .no]] [.mp 0 0,tmA p1,.val (.pointer none)] (.tup [tmA r.1,ai r.2]) [.cells [slv entL q0 .no,.mp 1 0,slv intC q3 .no,slv intC q4 .no],.cells [slv entL q1 .no,slv conL q2 .no]] 0
abbrev K202va14437 (q0 q1:List Ent) (q2:List Con') (q3 q4:List Int) (p1:Tm) (r:Tm × Bool × Int) (C:Cf):Prop:=C 202 [.cells [slv entL q0 .no,.mp 1 0,slv intC q3 .no,slv intC q4 .no],.cells [slv entL q1 .no,slv conL q2 .no]] [.mp 0 0,tmA p1,.val (.pointer none)] (.tup [tmA r.1,ab r.2.1,ai r.2.2]) [.cells [slv entL q0 .no,.mp 1 0,slv intC q3 .no,slv intC q4 .no],.cells [slv entL q1 .no,slv conL q2 .no]] 0
abbrev K272va38066 (q0 q1:List Ent) (q2:List Con') (q3 q4:List Int) (p1:Tm) (p2:List Tm) (r:Tm × Bool × Int) (C:Cf):Prop:=C 272 [.cells [slv entL q0 .no,.mp 1 0,slv intC q3 .no,slv intC q4 .no],.cells [slv entL q1 .no,slv conL q2 .no]] [.mp 0 0,tmA p1,slv tmCells p2 .no,.val (.pointer none)] (.tup [tmA r.1,ab r.2.1,ai r.2.2]) [.cells [slv entL q0 .no,.mp 1 0,slv intC q3 .no,slv intC q4 .no],.cells [slv entL q1 .no,slv conL q2 .no]] 0
abbrev K273va38066 (q0 q1:List Ent) (q2:List Con') (q3 q4:List Int) (p1:Tm) (p2:List Tm) (r:Tm × Bool × Int) (C:Cf):Prop:=C 273 [.cells [slv entL q0 .no,.mp 1 0,slv intC q3 .no,slv intC q4 .no],.cells [slv entL q1 .no,slv conL q2 .no]] [.mp 0 0,tmA p1,slv tmCells p2 .no,.val (.pointer none)] (.tup [tmA r.1,ab r.2.1,ai r.2.2]) [.cells [slv entL q0 .no,.mp 1 0,slv intC q3 .no,slv intC q4 .no],.cells [slv entL q1 .no,slv conL q2 .no]] 0
theorem q138va14437:Qf 138 Tryz.f138:=⟨Tryz.func138,by kernel_rfl⟩
theorem k138va14437 {q0 q1 q2 q3 q4 p1 r} (h:K138va14437 q0 q1 q2 q3 q4 p1 r Ci):K138va14437 q0 q1 q2 q3 q4 p1 r Ct:=⟨h,⟨(lz rfl),⟨tv,tv,⟨tv,dT _⟩,tv⟩,tv,tv⟩,(forall_cons ⟨⟨tv,dE _⟩,(lz rfl),⟨tv,dI _⟩,⟨tv,dI _⟩,tv⟩ (forall_cons ⟨⟨tv,dE _⟩,⟨tv,dC _⟩,tv⟩ forall_nil)),⟨⟨tv,tv,dT _,tv⟩,tv,tv⟩,(forall_cons ⟨dE _,(lz rfl),dI _,dI _,tv⟩ (forall_cons ⟨dE _,dC _,tv⟩ forall_nil))⟩
theorem q202va14437:Qf 202 Tryz.f202:=⟨Tryz.func202,by kernel_rfl⟩
theorem k202va14437 {q0 q1 q2 q3 q4 p1 r} (h:K202va14437 q0 q1 q2 q3 q4 p1 r Ci):K202va14437 q0 q1 q2 q3 q4 p1 r Ct:=⟨h,⟨(lz rfl),⟨tv,tv,⟨tv,dT _⟩,tv⟩,tv,tv⟩,(forall_cons ⟨⟨tv,dE _⟩,(lz rfl),⟨tv,dI _⟩,⟨tv,dI _⟩,tv⟩ (forall_cons ⟨⟨tv,dE _⟩,⟨tv,dC _⟩,tv⟩ forall_nil)),⟨⟨tv,tv,dT _,tv⟩,tv,tv,tv⟩,(forall_cons ⟨dE _,(lz rfl),dI _,dI _,tv⟩ (forall_cons ⟨dE _,dC _,tv⟩ forall_nil))⟩
theorem q272va38066:Qf 272 Tryz.f272:=⟨Tryz.func272,by kernel_rfl⟩
theorem k272va38066 {q0 q1 q2 q3 q4 p1 p2 r} (h:K272va38066 q0 q1 q2 q3 q4 p1 p2 r Ci):K272va38066 q0 q1 q2 q3 q4 p1 p2 r Ct:=⟨h,⟨(lz rfl),⟨tv,tv,⟨tv,dT _⟩,tv⟩,⟨tv,dT _⟩,tv,tv⟩,(forall_cons ⟨⟨tv,dE _⟩,(lz rfl),⟨tv,dI _⟩,⟨tv,dI _⟩,tv⟩ (forall_cons ⟨⟨tv,dE _⟩,⟨tv,dC _⟩,tv⟩ forall_nil)),⟨⟨tv,tv,dT _,tv⟩,tv,tv,tv⟩,(forall_cons ⟨dE _,(lz rfl),dI _,dI _,tv⟩ (forall_cons ⟨dE _,dC _,tv⟩ forall_nil))⟩
theorem q273va38066:Qf 273 Tryz.f273:=⟨Tryz.func273,by kernel_rfl⟩
theorem k273va38066 {q0 q1 q2 q3 q4 p1 p2 r} (h:K273va38066 q0 q1 q2 q3 q4 p1 p2 r Ci):K273va38066 q0 q1 q2 q3 q4 p1 p2 r Ct:=⟨h,⟨(lz rfl),⟨tv,tv,⟨tv,dT _⟩,tv⟩,⟨tv,dT _⟩,tv,tv⟩,(forall_cons ⟨⟨tv,dE _⟩,(lz rfl),⟨tv,dI _⟩,⟨tv,dI _⟩,tv⟩ (forall_cons ⟨⟨tv,dE _⟩,⟨tv,dC _⟩,tv⟩ forall_nil)),⟨⟨tv,tv,dT _,tv⟩,tv,tv,tv⟩,(forall_cons ⟨dE _,(lz rfl),dI _,dI _,tv⟩ (forall_cons ⟨dE _,dC _,tv⟩ forall_nil))⟩
theorem a138va14437_138va14437L15812_202va14437_272va38066_273va38066:∀ qq:Nat,(∀ q0 q1 q2 q3 q4 p1 r,e138va14437 qq q0 q1 q2 q3 q4 p1 = some r → K138va14437 q0 q1 q2 q3 q4 p1 r Ct) ∧ (∀ q0 q1 q2 q3 q4 vb2_0 vb2_1 vb2_2 r,e138va14437L15812 qq q0 q1 q2 q3 q4 vb2_0 vb2_1 vb2_2 = some r → (∀ j,Dl Tryz.prog 2 (inn (inn (rgt (inn (rgt (bod Tryz.f138)))))) (g138va14437L15812E0 j q0 q1 q2 q3 q4 vb2_0 vb2_1 vb2_2) (g138va14437L15812S0 q0 q1 q2 q3 q4 vb2_0 vb2_1 vb2_2) (frameQ Tryz.prog 2 (FinQ Tryz.prog 2 Tryz.f138 (.tup [tmA r.1,ai r.2]) [.cells [slv entL q0 .no,.mp 1 0,slv intC q3 .no,slv intC q4 .no],.cells [slv entL q1 .no,slv conL q2 .no]] 0) [.blk 0]))) ∧ (∀ q0 q1 q2 q3 q4 p1 r,e202va14437 qq q0 q1 q2 q3 q4 p1 = some r → K202va14437 q0 q1 q2 q3 q4 p1 r Ct) ∧ (∀ q0 q1 q2 q3 q4 p1 p2 r,e272va38066 qq q0 q1 q2 q3 q4 p1 p2 = some r → K272va38066 q0 q1 q2 q3 q4 p1 p2 r Ct) ∧ (∀ q0 q1 q2 q3 q4 p1 p2 r,e273va38066 qq q0 q1 q2 q3 q4 p1 p2 = some r → K273va38066 q0 q1 q2 q3 q4 p1 p2 r Ct):=by
 intro qq
 induction qq with
 | zero =>
  exact ⟨fun _ _ _ _ _ _ _ h => nn h,fun _ _ _ _ _ _ _ _ _ h => nn h,fun _ _ _ _ _ _ _ h => nn h,fun _ _ _ _ _ _ _ _ h => nn h,fun _ _ _ _ _ _ _ _ h => nn h⟩
 | succ qq ih =>
  obtain ⟨ih138va14437,ih138va14437L15812,ih202va14437,ih272va38066,ih273va38066⟩:=ih
  refine ⟨?_,?_,?_,?_,?_⟩
  intro q0 q1 q2 q3 q4 p1 r h
  rw [e138va14437] at h
  exact k138va14437 (tH q138va14437 0 [] [0,1,2,3] [] [0,2,4,6] (oD (dT ([]:List Tm)) <| oD (dT p1.sub) <| oD (dC q2) <| oD (dE q1) <| oD (dI q4) <| oD (dI q3) <| oD (dE q0) o0) (ih138va14437L15812 _ _ _ _ _ _ _ _ _ h))
  intro q0 q1 q2 q3 q4 vb2_0 vb2_1 vb2_2 r h
  rw [e138va14437L15812] at h
  obtain ⟨r1,h2,h⟩:=obind h
  have k:=oC 1 [0,1] (ih202va14437 _ _ _ _ _ _ _ h2) o0
  rcases spl h with ⟨h3,h⟩ | ⟨h3,h⟩
  have k:=oB 1 h3 k
  rcases spl h with ⟨h4,h⟩ | ⟨h4,h⟩
  obtain rfl:=sj h
  exact fun j => lF 1 [0,1] (oD (dT ([]:List Tm)) <| oD (dC q2) <| oD (dE q1) <| oD (dI q4) <| oD (dI q3) <| oD (dE q0) <| oB 2 h4 k)
  exact fun j => lH 2 [] [0,1,2,3] [] [0,2,4,6] (oD (dT ([]:List Tm)) <| oD (dT r1.1.sub) <| oD (dC q2) <| oD (dE q1) <| oD (dI q4) <| oD (dI q3) <| oD (dE q0) <| oB 2 h4 k) (ih138va14437L15812 _ _ _ _ _ _ _ _ _ h)
  have k:=oB 1 h3 k
  rcases spl h with ⟨h5,h⟩ | ⟨h5,h⟩
  obtain rfl:=sj h
  exact fun j => lF 1 [0,1] (oD (dT ([]:List Tm)) <| oD (dC q2) <| oD (dE q1) <| oD (dI q4) <| oD (dI q3) <| oD (dE q0) <| oB 2 h5 k)
  obtain rfl:=sj h
  exact fun j => lF 2 [0,1] (oD (dT vb2_2) <| oD (dC q2) <| oD (dE q1) <| oD (dI q4) <| oD (dI q3) <| oD (dE q0) <| oB 2 h5 k)
  intro q0 q1 q2 q3 q4 p1 r h
  rw [e202va14437] at h
  obtain ⟨r1,h2,h⟩:=obind h
  have k:=oC 1 [] (c167 h2) o0
  rcases spl h with ⟨h3,h⟩ | ⟨h3,h⟩
  have k:=oB 5 h3 k
  rcases spl h with ⟨h4,h⟩ | ⟨h4,h⟩
  obtain ⟨x5,h6,h⟩:=obind h
  obtain ⟨x7,h8,h⟩:=obind h
  obtain ⟨r9,h10,h⟩:=obind h
  obtain ⟨x11,h12,h⟩:=obind h
  obtain ⟨r13,h14,h⟩:=obind h
  have k:=oC 0 [] (c151 h14) <| oA 4 (slFrom23 h12) <| oC 1 [] (c270 h10) <| oA 1 (ix23 (o:=.no) h8) <| oA 1 (ix23 (o:=.no) h6) <| oB 1 h4 k
  rcases spl h with ⟨h15,h⟩ | ⟨h15,h⟩
  obtain rfl:=sj h
  exact k202va14437 (tF q202va14437 2 [0,1] (oD (dT p1.sub) <| oD (dC q2) <| oD (dE q1) <| oD (dI q4) <| oD (dI q3) <| oD (dE q0) <| oB 1 h15 k))
  obtain ⟨r16,h17,h⟩:=obind h
  have k:=oC 1 [] (c252va47633 h17) <| oB 1 h15 k
  rcases spl h with ⟨h18,h⟩ | ⟨h18,h⟩
  obtain rfl:=sj h
  exact k202va14437 (tF q202va14437 2 [0,1] (oD (dT p1.sub) <| oD (dC q2) <| oD (dE q1) <| oD (dI q4) <| oD (dI q3) <| oD (dE q0) <| oB 0 h18 k))
  obtain ⟨r19,h20,h⟩:=obind h
  obtain rfl:=sj h
  exact k202va14437 (tF q202va14437 5 [0,1] (oD (dT r19.1.sub) <| oD (dC q2) <| oD (dE q1) <| oD (dI q4) <| oD (dI q3) <| oD (dE q0) <| oC 1 [] (c274 h20) <| oB 0 h18 k))
  obtain ⟨r21,h22,h⟩:=obind h
  have k:=oC 1 [0,1] (c271 h22) <| oB 1 h4 k
  rcases spl h with ⟨h23,h⟩ | ⟨h23,h⟩
  obtain ⟨x24,h25,h⟩:=obind h
  obtain ⟨r26,h27,h⟩:=obind h
  obtain ⟨r28,h29,h⟩:=obind h
  have k:=oC 3 [] (c252va47633 h29) <| oC 1 [] (c151 h27) <| oA 2 (ix22 (o:=.no) h25) <| oB 0 h23 k
  rcases spl h with ⟨h30,h⟩ | ⟨h30,h⟩
  obtain rfl:=sj h
  exact k202va14437 (tF q202va14437 2 [0,1] (oD (dT p1.sub) <| oD (dC q2) <| oD (dE q1) <| oD (dI q4) <| oD (dI q3) <| oD (dE q0) <| oB 0 h30 k))
  obtain ⟨r31,h32,h⟩:=obind h
  obtain rfl:=sj h
  exact k202va14437 (tF q202va14437 5 [0,1] (oD (dT r31.1.sub) <| oD (dC q2) <| oD (dE q1) <| oD (dI q4) <| oD (dI q3) <| oD (dE q0) <| oC 1 [] (c274 h32) <| oB 0 h30 k))
  obtain ⟨r33,h34,h⟩:=obind h
  have k:=oC 1 [0,1] (c271 h34) <| oB 0 h23 k
  rcases spl h with ⟨h35,h⟩ | ⟨h35,h⟩
  obtain ⟨r36,h37,h⟩:=obind h
  have k:=oC 1 [0,1] (ih272va38066 _ _ _ _ _ _ _ _ h37) <| oB 0 h35 k
  rcases spl h with ⟨h38,h⟩ | ⟨h38,h⟩
  have k:=oB 1 h38 k
  rcases spl h with ⟨h39,h⟩ | ⟨h39,h⟩
  obtain rfl:=sj h
  exact k202va14437 (tF q202va14437 2 [0,1] (oD (dT p1.sub) <| oD (dC q2) <| oD (dE q1) <| oD (dI q4) <| oD (dI q3) <| oD (dE q0) <| oB 2 h39 k))
  obtain ⟨r40,h41,h⟩:=obind h
  have k:=oC 1 [] (c252va47633 h41) <| oB 2 h39 k
  rcases spl h with ⟨h42,h⟩ | ⟨h42,h⟩
  obtain rfl:=sj h
  exact k202va14437 (tF q202va14437 2 [0,1] (oD (dT p1.sub) <| oD (dC q2) <| oD (dE q1) <| oD (dI q4) <| oD (dI q3) <| oD (dE q0) <| oB 0 h42 k))
  obtain ⟨r43,h44,h⟩:=obind h
  obtain rfl:=sj h
  exact k202va14437 (tF q202va14437 5 [0,1] (oD (dT r43.1.sub) <| oD (dC q2) <| oD (dE q1) <| oD (dI q4) <| oD (dI q3) <| oD (dE q0) <| oC 1 [] (c274 h44) <| oB 0 h42 k))
  have k:=oB 1 h38 k
  rcases spl h with ⟨h45,h⟩ | ⟨h45,h⟩
  obtain rfl:=sj h
  exact k202va14437 (tF q202va14437 2 [0,1] (oD (dT p1.sub) <| oD (dC q2) <| oD (dE q1) <| oD (dI q4) <| oD (dI q3) <| oD (dE q0) <| oB 2 h45 k))
  obtain rfl:=sj h
  exact k202va14437 (tF q202va14437 3 [0,1] (oD (dT p1.sub) <| oD (dC q2) <| oD (dE q1) <| oD (dI q4) <| oD (dI q3) <| oD (dE q0) <| oB 2 h45 k))
  have k:=oB 0 h35 k
  rcases spl h with ⟨h46,h⟩ | ⟨h46,h⟩
  obtain ⟨r47,h48,h⟩:=obind h
  have k:=oC 1 [0,1] (ih273va38066 _ _ _ _ _ _ _ _ h48) <| oB 1 h46 k
  rcases spl h with ⟨h49,h⟩ | ⟨h49,h⟩
  have k:=oB 1 h49 k
  rcases spl h with ⟨h50,h⟩ | ⟨h50,h⟩
  obtain rfl:=sj h
  exact k202va14437 (tF q202va14437 2 [0,1] (oD (dT p1.sub) <| oD (dC q2) <| oD (dE q1) <| oD (dI q4) <| oD (dI q3) <| oD (dE q0) <| oB 2 h50 k))
  obtain ⟨r51,h52,h⟩:=obind h
  have k:=oC 1 [] (c252va47633 h52) <| oB 2 h50 k
  rcases spl h with ⟨h53,h⟩ | ⟨h53,h⟩
  obtain rfl:=sj h
  exact k202va14437 (tF q202va14437 2 [0,1] (oD (dT p1.sub) <| oD (dC q2) <| oD (dE q1) <| oD (dI q4) <| oD (dI q3) <| oD (dE q0) <| oB 0 h53 k))
  obtain ⟨r54,h55,h⟩:=obind h
  obtain rfl:=sj h
  exact k202va14437 (tF q202va14437 5 [0,1] (oD (dT r54.1.sub) <| oD (dC q2) <| oD (dE q1) <| oD (dI q4) <| oD (dI q3) <| oD (dE q0) <| oC 1 [] (c274 h55) <| oB 0 h53 k))
  have k:=oB 1 h49 k
  rcases spl h with ⟨h56,h⟩ | ⟨h56,h⟩
  obtain rfl:=sj h
  exact k202va14437 (tF q202va14437 2 [0,1] (oD (dT p1.sub) <| oD (dC q2) <| oD (dE q1) <| oD (dI q4) <| oD (dI q3) <| oD (dE q0) <| oB 2 h56 k))
  obtain rfl:=sj h
  exact k202va14437 (tF q202va14437 3 [0,1] (oD (dT p1.sub) <| oD (dC q2) <| oD (dE q1) <| oD (dI q4) <| oD (dI q3) <| oD (dE q0) <| oB 2 h56 k))
  obtain rfl:=sj h
  exact k202va14437 (tF q202va14437 4 [0,1] (oD (dT p1.sub) <| oD (dC q2) <| oD (dE q1) <| oD (dI q4) <| oD (dI q3) <| oD (dE q0) <| oB 1 h46 k))
  obtain ⟨r57,h58,h⟩:=obind h
  have k:=oC 1 [0,1] (c271 h58) <| oB 5 h3 k
  rcases spl h with ⟨h59,h⟩ | ⟨h59,h⟩
  obtain ⟨x60,h61,h⟩:=obind h
  obtain ⟨r62,h63,h⟩:=obind h
  obtain ⟨r64,h65,h⟩:=obind h
  have k:=oC 3 [] (c252va47633 h65) <| oC 1 [] (c151 h63) <| oA 2 (ix22 (o:=.no) h61) <| oB 0 h59 k
  rcases spl h with ⟨h66,h⟩ | ⟨h66,h⟩
  obtain rfl:=sj h
  exact k202va14437 (tF q202va14437 2 [0,1] (oD (dT p1.sub) <| oD (dC q2) <| oD (dE q1) <| oD (dI q4) <| oD (dI q3) <| oD (dE q0) <| oB 0 h66 k))
  obtain ⟨r67,h68,h⟩:=obind h
  obtain rfl:=sj h
  exact k202va14437 (tF q202va14437 5 [0,1] (oD (dT r67.1.sub) <| oD (dC q2) <| oD (dE q1) <| oD (dI q4) <| oD (dI q3) <| oD (dE q0) <| oC 1 [] (c274 h68) <| oB 0 h66 k))
  obtain ⟨r69,h70,h⟩:=obind h
  have k:=oC 1 [0,1] (c271 h70) <| oB 0 h59 k
  rcases spl h with ⟨h71,h⟩ | ⟨h71,h⟩
  obtain ⟨r72,h73,h⟩:=obind h
  have k:=oC 1 [0,1] (ih272va38066 _ _ _ _ _ _ _ _ h73) <| oB 0 h71 k
  rcases spl h with ⟨h74,h⟩ | ⟨h74,h⟩
  have k:=oB 1 h74 k
  rcases spl h with ⟨h75,h⟩ | ⟨h75,h⟩
  obtain rfl:=sj h
  exact k202va14437 (tF q202va14437 2 [0,1] (oD (dT p1.sub) <| oD (dC q2) <| oD (dE q1) <| oD (dI q4) <| oD (dI q3) <| oD (dE q0) <| oB 2 h75 k))
  obtain ⟨r76,h77,h⟩:=obind h
  have k:=oC 1 [] (c252va47633 h77) <| oB 2 h75 k
  rcases spl h with ⟨h78,h⟩ | ⟨h78,h⟩
  obtain rfl:=sj h
  exact k202va14437 (tF q202va14437 2 [0,1] (oD (dT p1.sub) <| oD (dC q2) <| oD (dE q1) <| oD (dI q4) <| oD (dI q3) <| oD (dE q0) <| oB 0 h78 k))
  obtain ⟨r79,h80,h⟩:=obind h
  obtain rfl:=sj h
  exact k202va14437 (tF q202va14437 5 [0,1] (oD (dT r79.1.sub) <| oD (dC q2) <| oD (dE q1) <| oD (dI q4) <| oD (dI q3) <| oD (dE q0) <| oC 1 [] (c274 h80) <| oB 0 h78 k))
  have k:=oB 1 h74 k
  rcases spl h with ⟨h81,h⟩ | ⟨h81,h⟩
  obtain rfl:=sj h
  exact k202va14437 (tF q202va14437 2 [0,1] (oD (dT p1.sub) <| oD (dC q2) <| oD (dE q1) <| oD (dI q4) <| oD (dI q3) <| oD (dE q0) <| oB 2 h81 k))
  obtain rfl:=sj h
  exact k202va14437 (tF q202va14437 3 [0,1] (oD (dT p1.sub) <| oD (dC q2) <| oD (dE q1) <| oD (dI q4) <| oD (dI q3) <| oD (dE q0) <| oB 2 h81 k))
  have k:=oB 0 h71 k
  rcases spl h with ⟨h82,h⟩ | ⟨h82,h⟩
  obtain ⟨r83,h84,h⟩:=obind h
  have k:=oC 1 [0,1] (ih273va38066 _ _ _ _ _ _ _ _ h84) <| oB 1 h82 k
  rcases spl h with ⟨h85,h⟩ | ⟨h85,h⟩
  have k:=oB 1 h85 k
  rcases spl h with ⟨h86,h⟩ | ⟨h86,h⟩
  obtain rfl:=sj h
  exact k202va14437 (tF q202va14437 2 [0,1] (oD (dT p1.sub) <| oD (dC q2) <| oD (dE q1) <| oD (dI q4) <| oD (dI q3) <| oD (dE q0) <| oB 2 h86 k))
  obtain ⟨r87,h88,h⟩:=obind h
  have k:=oC 1 [] (c252va47633 h88) <| oB 2 h86 k
  rcases spl h with ⟨h89,h⟩ | ⟨h89,h⟩
  obtain rfl:=sj h
  exact k202va14437 (tF q202va14437 2 [0,1] (oD (dT p1.sub) <| oD (dC q2) <| oD (dE q1) <| oD (dI q4) <| oD (dI q3) <| oD (dE q0) <| oB 0 h89 k))
  obtain ⟨r90,h91,h⟩:=obind h
  obtain rfl:=sj h
  exact k202va14437 (tF q202va14437 5 [0,1] (oD (dT r90.1.sub) <| oD (dC q2) <| oD (dE q1) <| oD (dI q4) <| oD (dI q3) <| oD (dE q0) <| oC 1 [] (c274 h91) <| oB 0 h89 k))
  have k:=oB 1 h85 k
  rcases spl h with ⟨h92,h⟩ | ⟨h92,h⟩
  obtain rfl:=sj h
  exact k202va14437 (tF q202va14437 2 [0,1] (oD (dT p1.sub) <| oD (dC q2) <| oD (dE q1) <| oD (dI q4) <| oD (dI q3) <| oD (dE q0) <| oB 2 h92 k))
  obtain rfl:=sj h
  exact k202va14437 (tF q202va14437 3 [0,1] (oD (dT p1.sub) <| oD (dC q2) <| oD (dE q1) <| oD (dI q4) <| oD (dI q3) <| oD (dE q0) <| oB 2 h92 k))
  obtain rfl:=sj h
  exact k202va14437 (tF q202va14437 4 [0,1] (oD (dT p1.sub) <| oD (dC q2) <| oD (dE q1) <| oD (dI q4) <| oD (dI q3) <| oD (dE q0) <| oB 1 h82 k))
  intro q0 q1 q2 q3 q4 p1 p2 r h
  rw [e272va38066] at h
  obtain ⟨x1,h2,h⟩:=obind h
  have k:=oA 2 (ix22 (o:=.no) h2) o0
  rcases spl h with ⟨h3,h⟩ | ⟨h3,h⟩
  obtain rfl:=sj h
  exact k272va38066 (tF q272va38066 1 [0,1] (oD (dT ([]:List Tm)) <| oD (dC q2) <| oD (dE q1) <| oD (dI q4) <| oD (dI q3) <| oD (dE q0) <| oB 2 h3 k))
  obtain ⟨x4,h5,h⟩:=obind h
  obtain ⟨r6,h7,h⟩:=obind h
  have k:=oC 1 [0,1] (ih138va14437 _ _ _ _ _ _ _ h7) <| oA 0 (ix23 (o:=.no) h5) <| oB 2 h3 k
  rcases spl h with ⟨h8,h⟩ | ⟨h8,h⟩
  obtain rfl:=sj h
  exact k272va38066 (tF q272va38066 1 [0,1] (oD (dT ([]:List Tm)) <| oD (dC q2) <| oD (dE q1) <| oD (dI q4) <| oD (dI q3) <| oD (dE q0) <| oB 3 h8 k))
  obtain ⟨r9,h10,h⟩:=obind h
  have k:=oC 1 [0,1] (c230 h10) <| oB 3 h8 k
  rcases spl h with ⟨h11,h⟩ | ⟨h11,h⟩
  obtain ⟨x12,h13,h⟩:=obind h
  have k:=oA 3 (ix22 (o:=.no) h2) <| oA 2 (ix22 (o:=.no) h13) <| oB 2 h11 k
  rcases spl h with ⟨h14,h⟩ | ⟨h14,h⟩
  obtain rfl:=sj h
  exact k272va38066 (tF q272va38066 1 [0,1] (oD (dT ([]:List Tm)) <| oD (dC q2) <| oD (dE q1) <| oD (dI q4) <| oD (dI q3) <| oD (dE q0) <| oB 1 h14 k))
  obtain ⟨x15,h16,h⟩:=obind h
  obtain ⟨r17,h18,h⟩:=obind h
  obtain ⟨x19,h20,h⟩:=obind h
  obtain ⟨r21,h22,h⟩:=obind h
  obtain rfl:=sj h
  exact k272va38066 (tF q272va38066 1 [0,1] (oD (dT r21.sub) <| oD (dC q2) <| oD (dE q1) <| oD (dI q4) <| oD (dI q3) <| oD (dE q0) <| oC 0 [] (c151 h22) <| oA 5 (slFrom23 h20) <| oC 0 [1] (c314 h18) <| oA 1 (slFrom23 h16) <| oA 3 (ix22 (o:=.no) h13) <| oB 1 h14 k))
  obtain rfl:=sj h
  exact k272va38066 (tF q272va38066 2 [0,1] (oD (dT ([]:List Tm)) <| oD (dC q2) <| oD (dE q1) <| oD (dI q4) <| oD (dI q3) <| oD (dE q0) <| oB 2 h11 k))
  intro q0 q1 q2 q3 q4 p1 p2 r h
  rw [e273va38066] at h
  rcases spl h with ⟨h1,h⟩ | ⟨h1,h⟩
  obtain rfl:=sj h
  exact k273va38066 (tF q273va38066 1 [0,1] (oD (dT ([]:List Tm)) <| oD (dC q2) <| oD (dE q1) <| oD (dI q4) <| oD (dI q3) <| oD (dE q0) <| oB 3 h1 o0))
  obtain ⟨x2,h3,h⟩:=obind h
  have k:=oA 2 (ix22 (o:=.no) h3) <| oB 3 h1 o0
  rcases spl h with ⟨h4,h⟩ | ⟨h4,h⟩
  obtain rfl:=sj h
  exact k273va38066 (tF q273va38066 1 [0,1] (oD (dT ([]:List Tm)) <| oD (dC q2) <| oD (dE q1) <| oD (dI q4) <| oD (dI q3) <| oD (dE q0) <| oB 1 h4 k))
  obtain ⟨x5,h6,h⟩:=obind h
  have k:=oA 3 (ix41 (o:=.no) h6) <| oB 1 h4 k
  rcases spl h with ⟨h7,h⟩ | ⟨h7,h⟩
  obtain rfl:=sj h
  exact k273va38066 (tF q273va38066 1 [0,1] (oD (dT ([]:List Tm)) <| oD (dC q2) <| oD (dE q1) <| oD (dI q4) <| oD (dI q3) <| oD (dE q0) <| oB 1 h7 k))
  obtain ⟨x8,h9,h⟩:=obind h
  obtain ⟨r10,h11,h⟩:=obind h
  have k:=oC 1 [0,1] (ih138va14437 _ _ _ _ _ _ _ h11) <| oA 2 (ix23 (o:=.no) h9) <| oA 2 (ix41 (o:=.no) h6) <| oB 1 h7 k
  rcases spl h with ⟨h12,h⟩ | ⟨h12,h⟩
  obtain rfl:=sj h
  exact k273va38066 (tF q273va38066 1 [0,1] (oD (dT ([]:List Tm)) <| oD (dC q2) <| oD (dE q1) <| oD (dI q4) <| oD (dI q3) <| oD (dE q0) <| oB 3 h12 k))
  obtain ⟨r13,h14,h⟩:=obind h
  have k:=oC 1 [0,1] (c230 h14) <| oB 3 h12 k
  rcases spl h with ⟨h15,h⟩ | ⟨h15,h⟩
  obtain ⟨x16,h17,h⟩:=obind h
  have k:=oA 2 (ix22 (o:=.no) h17) <| oB 2 h15 k
  rcases spl h with ⟨h18,h⟩ | ⟨h18,h⟩
  obtain rfl:=sj h
  exact k273va38066 (tF q273va38066 1 [0,1] (oD (dT ([]:List Tm)) <| oD (dC q2) <| oD (dE q1) <| oD (dI q4) <| oD (dI q3) <| oD (dE q0) <| oB 2 h18 k))
  obtain ⟨x19,h20,h⟩:=obind h
  obtain ⟨x21,h22,h⟩:=obind h
  obtain ⟨x23,h24,h⟩:=obind h
  obtain ⟨r25,h26,h⟩:=obind h
  obtain ⟨x27,h28,h⟩:=obind h
  obtain ⟨r29,h30,h⟩:=obind h
  obtain rfl:=sj h
  exact k273va38066 (tF q273va38066 1 [0,1] (oD (dT r29.sub) <| oD (dC q2) <| oD (dE q1) <| oD (dI q4) <| oD (dI q3) <| oD (dE q0) <| oC 0 [] (c151 h30) <| oA 4 (slFrom23 h28) <| oC 0 [1] (c84 h26) <| oA 1 (slFrom23 h24) <| oA 6 (slTo23 h22) <| oA 5 (ix23 (o:=.no) h20) <| oA 2 (ix22 (o:=.no) h3) <| oB 2 h18 k))
  obtain rfl:=sj h
  exact k273va38066 (tF q273va38066 2 [0,1] (oD (dT ([]:List Tm)) <| oD (dC q2) <| oD (dE q1) <| oD (dI q4) <| oD (dI q3) <| oD (dE q0) <| oB 2 h15 k))
theorem c138va14437 {qq q0 q1 q2 q3 q4 p1 r} (h:e138va14437 qq q0 q1 q2 q3 q4 p1 = some r):K138va14437 q0 q1 q2 q3 q4 p1 r Ct:=(a138va14437_138va14437L15812_202va14437_272va38066_273va38066 _).1 _ _ _ _ _ _ _ h
def e69va14437 (qq:Nat) (q0 q1:List Ent) (q2:List Con') (q3 q4:List Int) (p1:Tm):Option (Tm × Int) :=
 e137 qq (Mach.mk q0 q1 q2 q3 q4) p1 >>= fun r1 =>
 if r1 then
 e138va14437 qq q0 q1 q2 q3 q4 p1 >>= fun r4 =>
 if r4.2 != 0 then
 some ((Tm.mk 0 0 []),r4.2)
 else
 e123 qq r4.1 >>= fun r7 =>
 some (r7,0)
 else
 some ((Tm.mk 0 0 []),5)
abbrev K69va14437 (q0 q1:List Ent) (q2:List Con') (q3 q4:List Int) (p1:Tm) (r:Tm × Int) (C:Cf):Prop:=C 69 [.cells [slv entL q0 .no,.mp 1 0,slv intC q3 .no,slv intC q4 .no],.cells [slv entL q1 .no,slv conL q2 .no]] [.mp 0 0,tmA p1,.val (.pointer none)] (.tup [tmA r.1,ai r.2]) [.cells [slv entL q0 .no,.mp 1 0,slv intC q3 .no,slv intC q4 .no],.cells [slv entL q1 .no,slv conL q2 .no]] 0
theorem q69va14437:Qf 69 Tryz.f69:=⟨Tryz.func69,by kernel_rfl⟩
theorem k69va14437 {q0 q1 q2 q3 q4 p1 r} (h:K69va14437 q0 q1 q2 q3 q4 p1 r Ci):K69va14437 q0 q1 q2 q3 q4 p1 r Ct:=⟨h,⟨(lz rfl),⟨tv,tv,⟨tv,dT _⟩,tv⟩,tv,tv⟩,(forall_cons ⟨⟨tv,dE _⟩,(lz rfl),⟨tv,dI _⟩,⟨tv,dI _⟩,tv⟩ (forall_cons ⟨⟨tv,dE _⟩,⟨tv,dC _⟩,tv⟩ forall_nil)),⟨⟨tv,tv,dT _,tv⟩,tv,tv⟩,(forall_cons ⟨dE _,(lz rfl),dI _,dI _,tv⟩ (forall_cons ⟨dE _,dC _,tv⟩ forall_nil))⟩
theorem c69va14437 {qq q0 q1 q2 q3 q4 p1 r} (h:e69va14437 qq q0 q1 q2 q3 q4 p1 = some r):K69va14437 q0 q1 q2 q3 q4 p1 r Ct:=by
 unfold e69va14437 at h
 obtain ⟨r1,h2,h⟩:=obind h
 rcases spl h with ⟨h3,h⟩ | ⟨h3,h⟩
 obtain ⟨r4,h5,h⟩:=obind h
 have k:=oC 2 [0,1] (c138va14437 h5) <| oK 1 [0,1] h3 (c137 h2) o0
 rcases spl h with ⟨h6,h⟩ | ⟨h6,h⟩
 obtain rfl:=sj h
 exact k69va14437 (tF q69va14437 1 [0,1] (oD (dT ([]:List Tm)) <| oD (dC q2) <| oD (dE q1) <| oD (dI q4) <| oD (dI q3) <| oD (dE q0) <| oB 3 h6 k))
 obtain ⟨r7,h8,h⟩:=obind h
 obtain rfl:=sj h
 exact k69va14437 (tF q69va14437 1 [0,1] (oD (dT r7.sub) <| oD (dC q2) <| oD (dE q1) <| oD (dI q4) <| oD (dI q3) <| oD (dE q0) <| oC 1 [] (c123 h8) <| oB 3 h6 k))
 obtain rfl:=sj h
 exact k69va14437 (tF q69va14437 2 [0,1] (oD (dT ([]:List Tm)) <| oD (dC q2) <| oD (dE q1) <| oD (dI q4) <| oD (dI q3) <| oD (dE q0) <| oK 1 [0,1] h3 (c137 h2) o0))
def e137va20783 (qq:Nat) (p1:Tm):Option (Bool) :=
 some false
abbrev K137va20783 (p1:Tm) (r:Bool) (C:Cf):Prop:=C 137 [] [.val (.pointer none),tmA p1] (ab r) [] 0
theorem q137va20783:Qf 137 Tryz.f137:=⟨Tryz.func137,by kernel_rfl⟩
theorem k137va20783 {p1 r} (h:K137va20783 p1 r Ci):K137va20783 p1 r Ct:=⟨h,⟨tv,⟨tv,tv,⟨tv,dT _⟩,tv⟩,tv⟩,forall_nil,tv,forall_nil⟩
theorem c137va20783 {qq p1 r} (h:e137va20783 qq p1 = some r):K137va20783 p1 r Ct:=by
 unfold e137va20783 at h
 obtain rfl:=sj h
 exact k137va20783 (tF q137va20783 1 [] (o0))
def e69va17286 (qq:Nat) (p1:Tm):Option (Tm × Int) :=
 e137va20783 qq p1 >>= fun r1 =>
 if r1 then
 none
 else
 some ((Tm.mk 0 0 []),5)
abbrev K69va17286 (p1:Tm) (r:Tm × Int) (C:Cf):Prop:=C 69 [] [.val (.pointer none),tmA p1,.val (.pointer none)] (.tup [tmA r.1,ai r.2]) [] 0
theorem q69va17286:Qf 69 Tryz.f69:=⟨Tryz.func69,by kernel_rfl⟩
theorem k69va17286 {p1 r} (h:K69va17286 p1 r Ci):K69va17286 p1 r Ct:=⟨h,⟨tv,⟨tv,tv,⟨tv,dT _⟩,tv⟩,tv,tv⟩,forall_nil,⟨⟨tv,tv,dT _,tv⟩,tv,tv⟩,forall_nil⟩
theorem c69va17286 {qq p1 r} (h:e69va17286 qq p1 = some r):K69va17286 p1 r Ct:=by
 unfold e69va17286 at h
 obtain ⟨r1,h2,h⟩:=obind h
 obtain ⟨h3,h⟩:=splF h
 obtain rfl:=sj h
 exact k69va17286 (tF q69va17286 2 [] (oD (dT ([]:List Tm)) <| oK 1 [] h3 (c137va20783 h2) o0))
def e69va53055 (qq:Nat) (p1:Tm) (q1 q2:Int):Option (Tm × Int) :=
 e137va20783 qq p1 >>= fun r1 =>
 if r1 then
 none
 else
 some ((Tm.mk 0 0 []),5)
abbrev K69va53055 (p1:Tm) (q1 q2:Int) (r:Tm × Int) (C:Cf):Prop:=C 69 [.cells [ai q1,ai q2]] [.val (.pointer none),tmA p1,.mp 0 0] (.tup [tmA r.1,ai r.2]) [.cells [ai q1,ai q2]] 0
theorem q69va53055:Qf 69 Tryz.f69:=⟨Tryz.func69,by kernel_rfl⟩
theorem k69va53055 {p1 q1 q2 r} (h:K69va53055 p1 q1 q2 r Ci):K69va53055 p1 q1 q2 r Ct:=⟨h,⟨tv,⟨tv,tv,⟨tv,dT _⟩,tv⟩,(lz rfl),tv⟩,(forall_cons ⟨tv,tv,tv⟩ forall_nil),⟨⟨tv,tv,dT _,tv⟩,tv,tv⟩,(forall_cons ⟨tv,tv,tv⟩ forall_nil)⟩
theorem c69va53055 {qq p1 q1 q2 r} (h:e69va53055 qq p1 q1 q2 = some r):K69va53055 p1 q1 q2 r Ct:=by
 unfold e69va53055 at h
 obtain ⟨r1,h2,h⟩:=obind h
 obtain ⟨h3,h⟩:=splF h
 obtain rfl:=sj h
 exact k69va53055 (tF q69va53055 2 [0] (oD (dT ([]:List Tm)) <| oK 1 [] h3 (c137va20783 h2) o0))
def e17 (qq:Nat) (p0:List Ent) (p1:Tm) (p2:Int):Option (Tm × Int × Int) :=
 e37 qq p0 >>= fun r1 =>
 match r1 with
 | Sum.inl y21 =>
  if y21 != 0 then
  some ((Tm.mk 0 0 []),0,y21)
  else
  e45 qq p2 >>= fun r23 =>
  match r23 with
  | Sum.inl y32 =>
   if y32 != 0 then
   some ((Tm.mk 0 0 []),0,y32)
   else
   e69va17286 qq p1 >>= fun r34 =>
   if r34.2 != 0 then
   some ((Tm.mk 0 0 []),0,r34.2)
   else
   e48va47633 qq >>= fun r37 =>
   some (r34.1,r37,0)
  | Sum.inr y25 =>
   if y25.1 != 0 then
   some ((Tm.mk 0 0 []),0,y25.1)
   else
   e69va53055 qq p1 y25.2.1 y25.2.2 >>= fun r27 =>
   if r27.2 != 0 then
   some ((Tm.mk 0 0 []),0,r27.2)
   else
   e48 qq y25.2.1 y25.2.2 >>= fun r30 =>
   some (r27.1,r30,0)
 | Sum.inr y3 =>
  if y3.1 != 0 then
  some ((Tm.mk 0 0 []),0,y3.1)
  else
  e45 qq p2 >>= fun r5 =>
  match r5 with
  | Sum.inl y14 =>
   if y14 != 0 then
   some ((Tm.mk 0 0 []),0,y14)
   else
   e69va14437 qq y3.2.1 y3.2.2.2.2.1 y3.2.2.2.2.2 y3.2.2.1 y3.2.2.2.1 p1 >>= fun r16 =>
   if r16.2 != 0 then
   some ((Tm.mk 0 0 []),0,r16.2)
   else
   e48va47633 qq >>= fun r19 =>
   some (r16.1,r19,0)
  | Sum.inr y7 =>
   if y7.1 != 0 then
   some ((Tm.mk 0 0 []),0,y7.1)
   else
   e69 qq (Mach.mk y3.2.1 y3.2.2.2.2.1 y3.2.2.2.2.2 y3.2.2.1 y3.2.2.2.1) p1 y7.2.1 y7.2.2 >>= fun r9 =>
   if r9.2.1 != 0 then
   some ((Tm.mk 0 0 []),0,r9.2.1)
   else
   e48 qq r9.2.2.1 r9.2.2.2 >>= fun r12 =>
   some (r9.1,r12,0)
abbrev K17 (p0:List Ent) (p1:Tm) (p2:Int) (r:Tm × Int × Int) (C:Cf):Prop:=C 17 [] [slv entL p0 .no,tmA p1,ai p2] (.tup [tmA r.1,ai r.2.1,ai r.2.2]) [] 0
theorem q17:Qf 17 Tryz.f17:=⟨Tryz.func17,by kernel_rfl⟩
theorem k17 {p0 p1 p2 r} (h:K17 p0 p1 p2 r Ci):K17 p0 p1 p2 r Ct:=⟨h,⟨⟨tv,dE _⟩,⟨tv,tv,⟨tv,dT _⟩,tv⟩,tv,tv⟩,forall_nil,⟨⟨tv,tv,dT _,tv⟩,tv,tv,tv⟩,forall_nil⟩
theorem c17 {qq p0 p1 p2 r} (h:e17 qq p0 p1 p2 = some r):K17 p0 p1 p2 r Ct:=by
 unfold e17 at h
 obtain ⟨r1,h2,h⟩:=obind h
 rcases r1 with y21 | y3
 dsimp only at h
 have k:=oC 0 [] (c37 h2) o0
 rcases spl h with ⟨h22,h⟩ | ⟨h22,h⟩
 obtain rfl:=sj h
 exact k17 (tF q17 1 [] (oD (dT ([]:List Tm)) <| oB 2 h22 k))
 obtain ⟨r23,h24,h⟩:=obind h
 have k:=oB 2 h22 k
 rcases r23 with y32 | y25
 dsimp only at h
 have k:=oC 0 [] (c45 h24) k
 rcases spl h with ⟨h33,h⟩ | ⟨h33,h⟩
 obtain rfl:=sj h
 exact k17 (tF q17 1 [] (oD (dT ([]:List Tm)) <| oB 2 h33 k))
 obtain ⟨r34,h35,h⟩:=obind h
 have k:=oC 1 [] (c69va17286 h35) <| oB 2 h33 k
 rcases spl h with ⟨h36,h⟩ | ⟨h36,h⟩
 obtain rfl:=sj h
 exact k17 (tF q17 1 [] (oD (dT ([]:List Tm)) <| oB 3 h36 k))
 obtain ⟨r37,h38,h⟩:=obind h
 obtain rfl:=sj h
 exact k17 (tF q17 1 [] (oD (dT r34.1.sub) <| oC 1 [] (c48va47633 h38) <| oB 3 h36 k))
 dsimp only at h
 have k:=oC 0 [] (c45 h24) k
 rcases spl h with ⟨h26,h⟩ | ⟨h26,h⟩
 obtain rfl:=sj h
 exact k17 (tF q17 1 [] (oD (dT ([]:List Tm)) <| oB 2 h26 k))
 obtain ⟨r27,h28,h⟩:=obind h
 have k:=oC 1 [2] (c69va53055 h28) <| oB 2 h26 k
 rcases spl h with ⟨h29,h⟩ | ⟨h29,h⟩
 obtain rfl:=sj h
 exact k17 (tF q17 1 [] (oD (dT ([]:List Tm)) <| oB 3 h29 k))
 obtain ⟨r30,h31,h⟩:=obind h
 obtain rfl:=sj h
 exact k17 (tF q17 1 [] (oD (dT r27.1.sub) <| oC 1 [2] (c48 h31) <| oB 3 h29 k))
 dsimp only at h
 have k:=oC 0 [] (c37 h2) o0
 rcases spl h with ⟨h4,h⟩ | ⟨h4,h⟩
 obtain rfl:=sj h
 exact k17 (tF q17 1 [] (oD (dT ([]:List Tm)) <| oB 2 h4 k))
 obtain ⟨r5,h6,h⟩:=obind h
 have k:=oB 2 h4 k
 rcases r5 with y14 | y7
 dsimp only at h
 have k:=oC 0 [] (c45 h6) k
 rcases spl h with ⟨h15,h⟩ | ⟨h15,h⟩
 obtain rfl:=sj h
 exact k17 (tF q17 1 [] (oD (dT ([]:List Tm)) <| oB 2 h15 k))
 obtain ⟨r16,h17,h⟩:=obind h
 have k:=oC 1 [2,3] (c69va14437 h17) <| oB 2 h15 k
 rcases spl h with ⟨h18,h⟩ | ⟨h18,h⟩
 obtain rfl:=sj h
 exact k17 (tF q17 1 [] (oD (dT ([]:List Tm)) <| oB 3 h18 k))
 obtain ⟨r19,h20,h⟩:=obind h
 obtain rfl:=sj h
 exact k17 (tF q17 1 [] (oD (dT r16.1.sub) <| oC 1 [] (c48va47633 h20) <| oB 3 h18 k))
 dsimp only at h
 have k:=oC 0 [] (c45 h6) k
 rcases spl h with ⟨h8,h⟩ | ⟨h8,h⟩
 obtain rfl:=sj h
 exact k17 (tF q17 1 [] (oD (dT ([]:List Tm)) <| oB 2 h8 k))
 obtain ⟨r9,h10,h⟩:=obind h
 have k:=oC 1 [2,3,4] (c69 h10) <| oB 2 h8 k
 rcases spl h with ⟨h11,h⟩ | ⟨h11,h⟩
 obtain rfl:=sj h
 exact k17 (tF q17 1 [] (oD (dT ([]:List Tm)) <| oB 3 h11 k))
 obtain ⟨r12,h13,h⟩:=obind h
 obtain rfl:=sj h
 exact k17 (tF q17 1 [] (oD (dT r9.1.sub) <| oC 1 [4] (c48 h13) <| oB 3 h11 k))
theorem ev_mNew (f : Int) (h0 : 0 ≤ f) (h1 : f ≤ 1048576) : Evt (fun q => e45 q f) (.inr (0, f, 0)) := by
  simp only [e45]
  exact Evt.ifF (decide_eq_false (by omega)) (Evt.ifF (decide_eq_false (by omega)) (Evt.bind (a := f) (Evt.mk fun _ => rfl) Evt.ret))
theorem sign_cases (l : List Ent) (hl : l.length ≤ 60) (he : ∀ e ∈ l, EOk e) (hc : ∀ e ∈ l, ECl e) : Evt (fun q => e37 q l) (newT l false) ∨ ∃ N, AllE N l ∧ Evt (fun q => e37 q l) (newT l true) := by
  obtain ⟨N, hN⟩ := names_by
  obtain ⟨b, -, hA, hn⟩ := ev_wNew N hN l (by omega) he hc
  cases b with
  | false => exact .inl hn
  | true => exact .inr ⟨N, hA rfl, hn⟩
def partsN (y : Tm) : List Tm := if y.k = 3 ∨ y.k = 4 then y.sub else if y.k = 5 then arT y else []
def reN (y : Tm) (ps : List Tm) : Tm := if y.k = 3 ∨ y.k = 4 then .mk y.k 0 ps else if y.k = 5 then apT (hdT y) ps else y
def AllP (P : Tm → Tm → Int → Prop) : List Tm → List Tm → Int → Prop
  | [], xs, k => xs = [] ∧ k = 0
  | t :: ts, xs, k => ∃ x xs' k1 k2, xs = x :: xs' ∧ P t x k1 ∧ AllP P ts xs' k2 ∧ k = k1 + k2
def NmN (l : List Ent) : Nat → Tm → Tm → Int → Prop
  | 0, _, _, _ => False
  | n + 1, t, x, k => RightM l t ∧ ∃ y k1 ps k2, Br l t y 0 k1 ∧ AllP (NmN l n) (partsN y) ps k2 ∧ x = reN y ps ∧ k = k1 + k2
def Nm (l : List Ent) (t x : Tm) (k : Int) : Prop := ∃ n, NmN l n t x k
def NmL (l : List Ent) (ts xs : List Tm) (k : Int) : Prop := ∃ n, AllP (NmN l n) ts xs k
section
variable {P P' : Tm → Tm → Int → Prop}
theorem AllP.mono (h : ∀ t x k, P t x k → P' t x k) : ∀ {ts xs : List Tm} {k : Int}, AllP P ts xs k → AllP P' ts xs k
  | [], _, _, a => a
  | _ :: _, _, _, ⟨x, xs', k1, k2, a, b, c, d⟩ => ⟨x, xs', k1, k2, a, h _ _ _ b, AllP.mono h c, d⟩
end
theorem NmN.mono {l : List Ent} : ∀ {n : Nat} {t x : Tm} {k : Int}, NmN l n t x k → NmN l (n + 1) t x k
  | 0, _, _, _, h => h.elim
  | n + 1, t, x, k, ⟨hR, y, k1, ps, k2, a, b, c, d⟩ => ⟨hR, y, k1, ps, k2, a, AllP.mono (fun _ _ _ h => NmN.mono h) b, c, d⟩
theorem Nm.mk {l : List Ent} {t y : Tm} {ps : List Tm} {k1 k2 : Int} (hR : RightM l t) (h : Br l t y 0 k1) (hp : NmL l (partsN y) ps k2) : Nm l t (reN y ps) (k1 + k2) := by
  obtain ⟨n, hp⟩ := hp
  exact ⟨n + 1, hR, y, k1, ps, k2, h, hp, rfl, rfl⟩
mutual
def e136:Nat → Mach → Int → Int → Int → Tm → Option (Tm × Int × Int × Int)
 | 0,_,_,_,_,_ => none
 | qq + 1,M,fl,fu,q0_e,p1 =>
 e69 qq M p1 fl fu >>= fun r1 =>
 if r1.2.1 != 0 then
 some ((Tm.mk 0 0 []),r1.2.1,r1.2.2.1,r1.2.2.2)
 else
 if r1.1.k == 4 then
 e201 qq M r1.2.2.1 r1.2.2.2 q0_e r1.1.sub >>= fun r5 =>
 some ((Tm.mk r1.1.k 0 r5.1),r5.2.1,r5.2.2.1,r5.2.2.2)
 else
 if r1.1.k == 3 then
 e201 qq M r1.2.2.1 r1.2.2.2 q0_e r1.1.sub >>= fun r8 =>
 some ((Tm.mk r1.1.k 0 r8.1),r8.2.1,r8.2.2.1,r8.2.2.2)
 else
 if r1.1.k == 5 then
 e167 qq r1.1 >>= fun r11 =>
 e201 qq M r1.2.2.1 r1.2.2.2 q0_e r11.2 >>= fun r13 =>
 e151 qq r11.1 r13.1 >>= fun r15 =>
 some (r15,r13.2.1,r13.2.2.1,r13.2.2.2)
 else
 some (r1.1,q0_e,r1.2.2.1,r1.2.2.2)
def e201:Nat → Mach → Int → Int → Int → (List Tm) → Option (List Tm × Int × Int × Int)
 | 0,_,_,_,_,_ => none
 | qq + 1,M,fl,fu,q0_e,p1 =>
 e201L7793 qq M p1 0 [] q0_e fl fu
def e201L7793:Nat → Mach → (List Tm) → Int → (List Tm) → Int → Int → Int → Option (List Tm × Int × Int × Int)
 | 0,_,_,_,_,_,_,_ => none
 | qq + 1,M,p1,v10,v5,vb0_2,vb3_0,vb3_1 =>
 if decide (v10 < (List.length p1:Int)) then
 gidx p1 v10 >>= fun x2 =>
 if vb0_2 != 0 then
 some ([],vb0_2,vb3_0,vb3_1)
 else
 e136 qq M vb3_0 vb3_1 vb0_2 x2 >>= fun r5 =>
 gapp 40 v5 [r5.1] >>= fun l7 =>
 e201L7793 qq M p1 (w64 (v10 + 1)) l7 r5.2.1 r5.2.2.1 r5.2.2.2
 else
 some (v5,vb0_2,vb3_0,vb3_1)
end
def g201L7793E0 (j:Nat → Value) (M:Mach) (p1:List Tm) (v10:Int) (v5:List Tm) (vb0_2 vb3_0 vb3_1:Int):=sp j 27 0 [(0,.mp 0 0),(5,slv tmCells v5 (.st 0 3)),(8,slv tmCells p1 .no),(9,ai (List.length p1:Int)),(10,ai v10)]
def g201L7793S0 (M:Mach) (p1:List Tm) (v10:Int) (v5:List Tm) (vb0_2 vb3_0 vb3_1:Int):LSt:=⟨[(0,.cells [.mp 1 0,.mp 3 0,ai vb0_2]),(1,mB M 2),(2,mR M),(3,.cells [ai vb3_0,ai vb3_1])],4,[0],1,[]⟩
abbrev K136 (M:Mach) (fl fu q0_e:Int) (p1:Tm) (r:Tm × Int × Int × Int) (C:Cf):Prop:=C 136 [.cells [.mp 1 0,.mp 3 0,ai q0_e],mB M 2,mR M,.cells [ai fl,ai fu]] [.mp 0 0,tmA p1] (tmA r.1) [.cells [.mp 1 0,.mp 3 0,ai r.2.1],mB M 2,mR M,.cells [ai r.2.2.1,ai r.2.2.2]] 0
abbrev K201 (M:Mach) (fl fu q0_e:Int) (p1:List Tm) (r:List Tm × Int × Int × Int) (C:Cf):Prop:=C 201 [.cells [.mp 1 0,.mp 3 0,ai q0_e],mB M 2,mR M,.cells [ai fl,ai fu]] [.mp 0 0,slv tmCells p1 .no] (.sl (flat tmCells r.1) (List.length r.1) .no) [.cells [.mp 1 0,.mp 3 0,ai r.2.1],mB M 2,mR M,.cells [ai r.2.2.1,ai r.2.2.2]] 0
theorem q136:Qf 136 Tryz.f136:=⟨Tryz.func136,by kernel_rfl⟩
theorem k136 {M fl fu q0_e p1 r} (h:K136 M fl fu q0_e p1 r Ci):K136 M fl fu q0_e p1 r Ct:=⟨h,⟨(lz rfl),⟨tv,tv,⟨tv,dT _⟩,tv⟩,tv⟩,(forall_cons ⟨(lz rfl),(lz rfl),tv,tv⟩ (forall_cons ⟨⟨tv,dE _⟩,(lz rfl),⟨tv,dI _⟩,⟨tv,dI _⟩,tv⟩ (forall_cons ⟨⟨tv,dE _⟩,⟨tv,dC _⟩,tv⟩ (forall_cons ⟨tv,tv,tv⟩ forall_nil)))),⟨tv,tv,dT _,tv⟩,(forall_cons ⟨(lz rfl),(lz rfl),tv,tv⟩ (forall_cons ⟨dE _,(lz rfl),dI _,dI _,tv⟩ (forall_cons ⟨dE _,dC _,tv⟩ (forall_cons ⟨tv,tv,tv⟩ forall_nil))))⟩
theorem q201:Qf 201 Tryz.f201:=⟨Tryz.func201,by kernel_rfl⟩
theorem k201 {M fl fu q0_e p1 r} (h:K201 M fl fu q0_e p1 r Ci):K201 M fl fu q0_e p1 r Ct:=⟨h,⟨(lz rfl),⟨tv,dT _⟩,tv⟩,(forall_cons ⟨(lz rfl),(lz rfl),tv,tv⟩ (forall_cons ⟨⟨tv,dE _⟩,(lz rfl),⟨tv,dI _⟩,⟨tv,dI _⟩,tv⟩ (forall_cons ⟨⟨tv,dE _⟩,⟨tv,dC _⟩,tv⟩ (forall_cons ⟨tv,tv,tv⟩ forall_nil)))),dT _,(forall_cons ⟨(lz rfl),(lz rfl),tv,tv⟩ (forall_cons ⟨dE _,(lz rfl),dI _,dI _,tv⟩ (forall_cons ⟨dE _,dC _,tv⟩ (forall_cons ⟨tv,tv,tv⟩ forall_nil))))⟩
theorem a136_201_201L7793:∀ qq:Nat,(∀ M fl fu q0_e p1 r,e136 qq M fl fu q0_e p1 = some r → K136 M fl fu q0_e p1 r Ct) ∧ (∀ M fl fu q0_e p1 r,e201 qq M fl fu q0_e p1 = some r → K201 M fl fu q0_e p1 r Ct) ∧ (∀ M p1 v10 v5 vb0_2 vb3_0 vb3_1 r,e201L7793 qq M p1 v10 v5 vb0_2 vb3_0 vb3_1 = some r → (∀ j,Dl Tryz.prog 4 (inn (inn (rgt (lft (rgt (rgt (bod Tryz.f201))))))) (g201L7793E0 j M p1 v10 v5 vb0_2 vb3_0 vb3_1) (g201L7793S0 M p1 v10 v5 vb0_2 vb3_0 vb3_1) (frameQ Tryz.prog 4 (FinQ Tryz.prog 4 Tryz.f201 (.sl (flat tmCells r.1) (List.length r.1) .no) [.cells [.mp 1 0,.mp 3 0,ai r.2.1],mB M 2,mR M,.cells [ai r.2.2.1,ai r.2.2.2]] 0) [.blk 0,.seq (rgt (rgt (rgt (bod Tryz.f201))))]))):=by
 intro qq
 induction qq with
 | zero =>
  exact ⟨fun _ _ _ _ _ _ h => nn h,fun _ _ _ _ _ _ h => nn h,fun _ _ _ _ _ _ _ _ h => nn h⟩
 | succ qq ih =>
  obtain ⟨ih136,ih201,ih201L7793⟩:=ih
  refine ⟨?_,?_,?_⟩
  intro M fl fu q0_e p1 r h
  rw [e136] at h
  obtain ⟨r1,h2,h⟩:=obind h
  have k:=oC 3 [1,2,3] (c69 h2) o0
  rcases spl h with ⟨h3,h⟩ | ⟨h3,h⟩
  obtain rfl:=sj h
  exact k136 (tF q136 2 [0,1,2,3] (oD (dT ([]:List Tm)) <| oD (dC M.parts) <| oD (dE M.rl) <| oD (dI M.own) <| oD (dI M.args) <| oD (dE M.l) <| oB 3 h3 k))
  have k:=oB 3 h3 k
  rcases spl h with ⟨h4,h⟩ | ⟨h4,h⟩
  obtain ⟨r5,h6,h⟩:=obind h
  obtain rfl:=sj h
  exact k136 (tF q136 1 [0,1,2,3] (oD (dT r5.1) <| oD (dC M.parts) <| oD (dE M.rl) <| oD (dI M.own) <| oD (dI M.args) <| oD (dE M.l) <| oC 2 [0,1,2,3] (ih201 _ _ _ _ _ _ h6) <| oB 1 h4 k))
  have k:=oB 1 h4 k
  rcases spl h with ⟨h7,h⟩ | ⟨h7,h⟩
  obtain ⟨r8,h9,h⟩:=obind h
  obtain rfl:=sj h
  exact k136 (tF q136 1 [0,1,2,3] (oD (dT r8.1) <| oD (dC M.parts) <| oD (dE M.rl) <| oD (dI M.own) <| oD (dI M.args) <| oD (dE M.l) <| oC 2 [0,1,2,3] (ih201 _ _ _ _ _ _ h9) <| oB 0 h7 k))
  have k:=oB 0 h7 k
  rcases spl h with ⟨h10,h⟩ | ⟨h10,h⟩
  obtain ⟨r11,h12,h⟩:=obind h
  obtain ⟨r13,h14,h⟩:=obind h
  obtain ⟨r15,h16,h⟩:=obind h
  obtain rfl:=sj h
  exact k136 (tF q136 1 [0,1,2,3] (oD (dT r15.sub) <| oD (dC M.parts) <| oD (dE M.rl) <| oD (dI M.own) <| oD (dI M.args) <| oD (dE M.l) <| oC 0 [] (c151 h16) <| oC 4 [0,1,2,3] (ih201 _ _ _ _ _ _ h14) <| oC 1 [] (c167 h12) <| oB 0 h10 k))
  obtain rfl:=sj h
  exact k136 (tF q136 2 [0,1,2,3] (oD (dT r1.1.sub) <| oD (dC M.parts) <| oD (dE M.rl) <| oD (dI M.own) <| oD (dI M.args) <| oD (dE M.l) <| oB 0 h10 k))
  intro M fl fu q0_e p1 r h
  rw [e201] at h
  exact k201 (tH q201 1 [(none,5,3)] [0,1,2,3] [0] [0,5,8,9,10] (oD (dT p1) <| oD (dT ([]:List Tm)) <| oD (dC M.parts) <| oD (dE M.rl) <| oD (dI M.own) <| oD (dI M.args) <| oD (dE M.l) o0) (ih201L7793 _ _ _ _ _ _ _ _ h))
  intro M p1 v10 v5 vb0_2 vb3_0 vb3_1 r h
  rw [e201L7793] at h
  rcases spl h with ⟨h1,h⟩ | ⟨h1,h⟩
  obtain ⟨x2,h3,h⟩:=obind h
  have k:=oA 0 (ix23 (o:=.no) h3) <| oB 0 h1 o0
  rcases spl h with ⟨h4,h⟩ | ⟨h4,h⟩
  obtain rfl:=sj h
  exact fun j => lF 0 [0,1,2,3] (oD (dT ([]:List Tm)) <| oD (dC M.parts) <| oD (dE M.rl) <| oD (dI M.own) <| oD (dI M.args) <| oD (dE M.l) <| oB 3 h4 k)
  obtain ⟨r5,h6,h⟩:=obind h
  obtain ⟨l7,h8,h⟩:=obind h
  exact fun j => lH 1 [] [0,1,2,3] [1] [0,5,8,9,10] (oD (dT p1) <| oD (dT l7) <| oD (dC M.parts) <| oD (dE M.rl) <| oD (dI M.own) <| oD (dI M.args) <| oD (dE M.l) <| oP 0 (apS23 h8 (by simp)) <| oS 0 (obLitR tm_eq [r5.1]) <| oC 1 [0,1,2,3] (ih136 _ _ _ _ _ _ h6) <| oB 3 h4 k) (ih201L7793 _ _ _ _ _ _ _ _ h)
  obtain rfl:=sj h
  exact fun j => lF 0 [0,1,2,3] (oD (dT v5) <| oD (dC M.parts) <| oD (dE M.rl) <| oD (dI M.own) <| oD (dI M.args) <| oD (dE M.l) <| oB 0 h1 o0)
theorem c136 {qq M fl fu q0_e p1 r} (h:e136 qq M fl fu q0_e p1 = some r):K136 M fl fu q0_e p1 r Ct:=(a136_201_201L7793 _).1 _ _ _ _ _ _ h
theorem Br.e8 {N : ByteArray → Bool} {l : List Ent} (hE : AllE N l) {x y : Tm} {e k : Int} (h : Br l x y e k) : shapedT x = true → e ≠ 8 := by
  induction h with
  | stop _ => exact fun _ => by decide
  | @redE x Y e a h =>
    intro hs
    unfold actT at a
    split at a
    · injection a with h1 h2
      rw [← h2]; exact subT_e8 _ _
    · split at a
      · injection a with h1 h2
        rw [← h2]; decide
      · split at a
        · split at a <;> cases a
        · split at a
          · split at a <;> cases a
          · cases a
  | redL _ _ => exact fun _ => by decide
  | red _ hY _ ih => exact fun _ => ih hY
  | tgtE a _ _ ih => exact fun hs => ih (ar_shaped hs (act_tgt hE hs a).1)
  | tgtN _ _ _ _ => exact fun _ => by decide
  | @tgtRE x a z Y e k ha hb hr he ih =>
    intro hs
    have hm := (act_tgt hE hs ha).1
    have hz := hb.shaped (ar_shaped hs hm) rfl
    have hox : OkA (arT x) := fun z hz => shaped_ok (ar_shaped hs hz)
    have hoy : OkA (arT z) := fun w hw => shaped_ok (ar_shaped hz hw)
    have hlx : (arT x).length ≤ 8192 := by
      have h := shapedT_spec hs
      have := ar_len _ h.2.2
      omega
    have hly : (arT z).length ≤ 8192 := by
      have h := shapedT_spec hz
      have := ar_len _ h.2.2
      omega
    unfold reactT at hr
    split at hr
    · split at hr
      · simp only [Option.some.injEq, Prod.mk.injEq] at hr
        rw [← hr.2]
        exact (fieldX_spec l (hdT x).n ((arT z).drop (ent l (hdT z).n).pars.toNat) hE (hoy.drop _) (by rw [List.length_drop]; omega)).2.2.1
      · cases hr
    · split at hr
      · simp only [Option.some.injEq, Prod.mk.injEq] at hr
        rw [← hr.2]
        exact (stepX_spec l (hdT x).n (nth (hdT x).sub 0).n (hdT z).n ((arT x).take ((ent l (hdT x).n).pars + 1 + (ent l (hdT x).n).cons.length).toNat) ((arT z).drop (ent l (hdT x).n).pars.toNat) hE (hox.take _) (hoy.drop _) (by rw [List.length_take]; omega) (by rw [List.length_drop]; omega)).2.2.1
      · cases hr
  | tgtRL _ _ _ _ _ => exact fun _ => by decide
  | tgtR a b c hY _ ih ih2 => exact fun _ => ih2 hY
theorem Br.zero {l : List Ent} {x y : Tm} {e k : Int} (h : Br l x y e k) : e = 0 → k ≤ 0 → y = x := by
  cases h with
  | stop _ => exact fun _ _ => rfl
  | redE _ h => exact fun he => absurd he h
  | redL _ _ => exact fun he => absurd he (by decide)
  | red _ _ h => exact fun _ hk => by have := h.nn; omega
  | tgtE _ _ h => exact fun he => absurd he h
  | tgtN _ _ _ => exact fun _ _ => rfl
  | tgtRE _ _ _ h => exact fun he => absurd he h
  | tgtRL _ _ _ _ => exact fun he => absurd he (by decide)
  | tgtR _ h1 _ _ h2 => exact fun _ hk => by have := h1.nn; have := h2.nn; omega
theorem Ou.evt0 {ρ : Type} {f : Int → Int → Nat → Option ρ} {er : ρ → Int} {Q : (Int → Int → ρ) → Int → Prop} {S : Prop} {l : Int} {R : Int → Int → ρ} (h : ∀ L U, Evt (f L U) (R L U)) (h0 : 0 ≤ l) (k : Q R 0) : Ou f er Q S l :=
  .inl ⟨R, 0, by omega, h0, k, fun L U _ _ _ => by rw [show L - 0 = L by omega, show U + 0 = U by omega]; exact h L U, fun L U _ _ => by omega⟩
abbrev PE := (Tm × Int) × (Tm × Int)
def opnT (t : Tm) : Tm × Int :=
  if t.k = 4 then (nth t.sub 1, 0) else
    (.mk 5 0 [(liftT t 1 0).1, .mk 1 0 []], if (liftT t 1 0).2 = 0 then (if shapedT (.mk 5 0 [(liftT t 1 0).1, .mk 1 0 []]) = true then 0 else 2) else (liftT t 1 0).2)
def fldsT (l : List Ent) (c : Int) : List Int := (ent l (ent l c).fam).fields
def isRec (l : List Ent) (t : Tm) : Prop := isCon l t ∧ fldsT l (hdT t).n ≠ []
instance (l : List Ent) (t : Tm) : Decidable (isRec l t) := inferInstanceAs (Decidable (_ ∧ _))
def partC (l : List Ent) (t : Tm) (c : Int) (i : Nat) (pars : List Tm) : Tm × Int :=
  if isRec l t ∧ (hdT t).n = c then (nth (arT t) ((pars.length + i : Nat) : Int), 0) else
    (.mk 5 0 [apT (.mk 6 (((fldsT l c)[i]?).getD (-1)) []) pars, t], if shapedT (.mk 5 0 [apT (.mk 6 (((fldsT l c)[i]?).getD (-1)) []) pars, t]) = true then 0 else 2)
def prsT (l : List Ent) (t : Tm) : List Tm := (arT t).take (ent l (hdT t).n).pars.toNat
def fldP (l : List Ent) (x y : Tm) (c : Int) (pars : List Tm) : Nat → Nat → List PE
  | 0, _ => []
  | m + 1, i => (partC l x c i pars, partC l y c i pars) :: fldP l x y c pars m (i + 1)
def argP : List Tm → List Tm → List PE
  | a :: l, b :: m => ((a, 0), (b, 0)) :: argP l m
  | _, _ => []
def spnP (x y : Tm) : List PE := (if (hdT x).k = 3 then [((nth (hdT x).sub 0, 0), (nth (hdT y).sub 0, 0)), ((nth (hdT x).sub 1, 0), (nth (hdT y).sub 1, 0))] else []) ++ argP (arT x) (arT y)
inductive Hd where
  | ans (b : Bool)
  | all (ps : List PE)
  | pi (a b c d : Tm)
def spnC (x y : Tm) : Hd :=
  if (hdT x).k ≠ (hdT y).k ∨ (hdT x).n ≠ (hdT y).n ∨ (arT x).length ≠ (arT y).length ∨ ((hdT x).k = 7 ∧ (nth (hdT x).sub 0).n ≠ (nth (hdT y).sub 0).n) then .ans false else .all (spnP x y)
def headC (l : List Ent) (m : Bool) (x y : Tm) : Hd :=
  if x.k = 4 ∨ y.k = 4 then .all [(opnT x, opnT y)]
  else if isRec l x then (if isRec l y ∧ (hdT x).n ≠ (hdT y).n then .ans false else .all (fldP l x y (hdT x).n (prsT l x) (fldsT l (hdT x).n).length 0))
  else if isRec l y then .all (fldP l x y (hdT y).n (prsT l y) (fldsT l (hdT y).n).length 0)
  else if x.k ≠ y.k then .ans false
  else if x.k = 3 then .pi (nth x.sub 0) (nth y.sub 0) (nth x.sub 1) (nth y.sub 1)
  else if x.k = 2 then .ans (if m = true then decide (x.n ≤ y.n) else x.n == y.n)
  else spnC x y
def AllC (C : Tm → Tm → Bool → Int → Prop) : List PE → Bool → Int → Prop
  | [], b, k => b = true ∧ k = 0
  | p :: r, b, k => p.1.2 = 0 ∧ p.2.2 = 0 ∧ ∃ b1 k1, C p.1.1 p.2.1 b1 k1 ∧ ((b1 = false ∧ b = false ∧ k = k1) ∨ (b1 = true ∧ ∃ k2, AllC C r b k2 ∧ k = k1 + k2))
def HdR (C : Bool → Tm → Tm → Bool → Int → Prop) (m : Bool) : Hd → Bool → Int → Prop
  | .ans b0, b, k => b = b0 ∧ k = 0
  | .all ps, b, k => AllC (C false) ps b k
  | .pi a a' c c', b, k => ∃ b1 k1, C false a a' b1 k1 ∧ ((b1 = false ∧ b = false ∧ k = k1) ∨ (b1 = true ∧ ∃ k2, C m c c' b k2 ∧ k = k1 + k2))
def CvN (l : List Ent) : Nat → Bool → Tm → Tm → Bool → Int → Prop
  | 0, _, _, _, _, _ => False
  | n + 1, m, x, y, b, k => RightM l x ∧ RightM l y ∧ ∃ x' k1 y' k2 k3, Br l x x' 0 k1 ∧ Br l y y' 0 k2 ∧ HdR (CvN l n) m (headC l m x' y') b k3 ∧ k = k1 + k2 + k3
def Cv (l : List Ent) (m : Bool) (x y : Tm) (b : Bool) (k : Int) : Prop := ∃ n, CvN l n m x y b k
section
variable {C C' : Tm → Tm → Bool → Int → Prop}
theorem AllC.mono (h : ∀ x y b k, C x y b k → C' x y b k) : ∀ {ps : List PE} {b : Bool} {k : Int}, AllC C ps b k → AllC C' ps b k
  | [], _, _, a => a
  | _ :: _, _, _, ⟨a, b, b1, k1, c, d⟩ => ⟨a, b, b1, k1, h _ _ _ _ c, d.imp id fun ⟨e, k2, f, g⟩ => ⟨e, k2, AllC.mono h f, g⟩⟩
theorem AllC.nn (h : ∀ x y b k, C x y b k → 0 ≤ k) : ∀ {ps : List PE} {b : Bool} {k : Int}, AllC C ps b k → 0 ≤ k
  | [], _, _, ⟨_, a⟩ => by omega
  | _ :: _, _, _, ⟨_, _, b1, k1, c, d⟩ => by
    have := h _ _ _ _ c
    rcases d with ⟨_, _, d⟩ | ⟨_, k2, d, e⟩
    · omega
    · have := AllC.nn h d; omega
theorem AllC.det (h : ∀ x y b k b' k', C x y b k → C' x y b' k' → b' = b ∧ k' = k) : ∀ {ps : List PE} {b b' : Bool} {k k' : Int}, AllC C ps b k → AllC C' ps b' k' → b' = b ∧ k' = k
  | [], _, _, _, _, ⟨a, b⟩, ⟨c, d⟩ => by subst a; subst c; exact ⟨rfl, by omega⟩
  | _ :: _, _, _, _, _, ⟨_, _, b1, k1, c, d⟩, ⟨_, _, b1', k1', c', d'⟩ => by
    obtain ⟨rfl, rfl⟩ := h _ _ _ _ _ _ c c'
    rcases d with ⟨d1, d2, d3⟩ | ⟨d1, k2, d2, d3⟩
    · rcases d' with ⟨_, e2, e3⟩ | ⟨e1, _⟩
      · subst d2; subst e2; exact ⟨rfl, by omega⟩
      · rw [d1] at e1; cases e1
    · rcases d' with ⟨e1, _⟩ | ⟨_, k2', e2, e3⟩
      · rw [d1] at e1; cases e1
      · obtain ⟨rfl, rfl⟩ := AllC.det h d2 e2; exact ⟨rfl, by omega⟩
end
section
variable {C C' : Bool → Tm → Tm → Bool → Int → Prop} {m : Bool}
theorem HdR.mono (h : ∀ m x y b k, C m x y b k → C' m x y b k) : ∀ {q : Hd} {b : Bool} {k : Int}, HdR C m q b k → HdR C' m q b k
  | .ans _, _, _, a => a
  | .all _, _, _, a => AllC.mono (h false) a
  | .pi _ _ _ _, _, _, ⟨b1, k1, c, d⟩ => ⟨b1, k1, h _ _ _ _ _ c, d.imp id fun ⟨e, k2, f, g⟩ => ⟨e, k2, h _ _ _ _ _ f, g⟩⟩
theorem HdR.nn (h : ∀ m x y b k, C m x y b k → 0 ≤ k) : ∀ {q : Hd} {b : Bool} {k : Int}, HdR C m q b k → 0 ≤ k
  | .ans _, _, _, ⟨_, a⟩ => by omega
  | .all _, _, _, a => AllC.nn (h false) a
  | .pi _ _ _ _, _, _, ⟨b1, k1, c, d⟩ => by
    have := h _ _ _ _ _ c
    rcases d with ⟨_, _, d⟩ | ⟨_, k2, d, e⟩
    · omega
    · have := h _ _ _ _ _ d; omega
theorem HdR.det (h : ∀ m x y b k b' k', C m x y b k → C' m x y b' k' → b' = b ∧ k' = k) : ∀ {q : Hd} {b b' : Bool} {k k' : Int}, HdR C m q b k → HdR C' m q b' k' → b' = b ∧ k' = k
  | .ans _, _, _, _, _, ⟨a, b⟩, ⟨c, d⟩ => by subst a; subst c; exact ⟨rfl, by omega⟩
  | .all _, _, _, _, _, a, b => AllC.det (h false) a b
  | .pi _ _ _ _, _, _, _, _, ⟨b1, k1, c, d⟩, ⟨b1', k1', c', d'⟩ => by
    obtain ⟨rfl, rfl⟩ := h _ _ _ _ _ _ _ c c'
    rcases d with ⟨d1, d2, d3⟩ | ⟨d1, k2, d2, d3⟩
    · rcases d' with ⟨_, e2, e3⟩ | ⟨e1, _⟩
      · subst d2; subst e2; exact ⟨rfl, by omega⟩
      · rw [d1] at e1; cases e1
    · rcases d' with ⟨e1, _⟩ | ⟨_, k2', e2, e3⟩
      · rw [d1] at e1; cases e1
      · obtain ⟨rfl, rfl⟩ := h _ _ _ _ _ _ _ d2 e2; exact ⟨rfl, by omega⟩
end
theorem CvN.mono {l : List Ent} : ∀ {n : Nat} {m : Bool} {x y : Tm} {b : Bool} {k : Int}, CvN l n m x y b k → CvN l (n + 1) m x y b k
  | 0, _, _, _, _, _, h => h.elim
  | n + 1, m, x, y, b, k, ⟨r1, r2, x', k1, y', k2, k3, h1, h2, h3, h4⟩ => ⟨r1, r2, x', k1, y', k2, k3, h1, h2, h3.mono (fun _ _ _ _ _ h => CvN.mono h), h4⟩
theorem CvN.le {l : List Ent} {n n' : Nat} {m : Bool} {x y : Tm} {b : Bool} {k : Int} (h : CvN l n m x y b k) (hm : n ≤ n') : CvN l n' m x y b k := by
  induction hm with
  | refl => exact h
  | step _ ih => exact ih.mono
theorem CvN.nn {l : List Ent} : ∀ {n : Nat} {m : Bool} {x y : Tm} {b : Bool} {k : Int}, CvN l n m x y b k → 0 ≤ k
  | 0, _, _, _, _, _, h => h.elim
  | n + 1, m, x, y, b, k, ⟨r1, r2, x', k1, y', k2, k3, h1, h2, h3, h4⟩ => by
    have := h1.nn
    have := h2.nn
    have := h3.nn (fun _ _ _ _ _ h => CvN.nn h)
    omega
theorem CvN.det {l : List Ent} : ∀ {n n' : Nat} {m : Bool} {x y : Tm} {b b' : Bool} {k k' : Int}, CvN l n m x y b k → CvN l n' m x y b' k' → b' = b ∧ k' = k
  | 0, _, _, _, _, _, _, _, _, h, _ => h.elim
  | _ + 1, 0, _, _, _, _, _, _, _, _, h => h.elim
  | n + 1, n' + 1, m, x, y, b, b', k, k', ⟨_, _, x', k1, y', k2, k3, h1, h2, h3, h4⟩, ⟨_, _, x1', j1, y1', j2, j3, g1, g2, g3, g4⟩ => by
    obtain ⟨rfl, -, rfl⟩ := h1.det g1
    obtain ⟨rfl, -, rfl⟩ := h2.det g2
    obtain ⟨rfl, rfl⟩ := HdR.det (C := CvN l n) (C' := CvN l n') (fun _ _ _ _ _ _ _ a b => CvN.det a b) h3 g3
    exact ⟨rfl, by omega⟩
theorem Cv.det {l : List Ent} {m : Bool} {x y : Tm} {b b' : Bool} {k k' : Int} : Cv l m x y b k → Cv l m x y b' k' → b' = b ∧ k' = k := fun ⟨_, a⟩ ⟨_, b⟩ => a.det b
theorem Cv.nn {l : List Ent} {m : Bool} {x y : Tm} {b : Bool} {k : Int} : Cv l m x y b k → 0 ≤ k := fun ⟨_, a⟩ => a.nn
theorem AllC.bound {l : List Ent} : ∀ {ps : List PE} {b : Bool} {k : Int}, AllC (Cv l false) ps b k → ∃ n, AllC (CvN l n false) ps b k
  | [], _, _, a => ⟨0, a⟩
  | _ :: _, _, _, ⟨a, b, b1, k1, ⟨n, c⟩, d⟩ => by
    rcases d with d | ⟨e, k2, f, g⟩
    · exact ⟨n, a, b, b1, k1, c, .inl d⟩
    · obtain ⟨n', f⟩ := AllC.bound f
      exact ⟨max n n', a, b, b1, k1, c.le (by omega), .inr ⟨e, k2, f.mono (fun _ _ _ _ h => h.le (by omega)), g⟩⟩
theorem HdR.bound {l : List Ent} {m : Bool} : ∀ {q : Hd} {b : Bool} {k : Int}, HdR (Cv l) m q b k → ∃ n, HdR (CvN l n) m q b k
  | .ans _, _, _, a => ⟨0, a⟩
  | .all _, _, _, a => AllC.bound a
  | .pi _ _ _ _, _, _, ⟨b1, k1, ⟨n, c⟩, d⟩ => by
    rcases d with d | ⟨e, k2, ⟨n', f⟩, g⟩
    · exact ⟨n, b1, k1, c, .inl d⟩
    · exact ⟨max n n', b1, k1, c.le (by omega), .inr ⟨e, k2, f.le (by omega), g⟩⟩
theorem Cv.mk {l : List Ent} {m : Bool} {x y x' y' : Tm} {b : Bool} {k1 k2 k3 : Int} (r1 : RightM l x) (r2 : RightM l y) (h1 : Br l x x' 0 k1) (h2 : Br l y y' 0 k2) (h3 : HdR (Cv l) m (headC l m x' y') b k3) : Cv l m x y b (k1 + k2 + k3) := by
  obtain ⟨n, h3⟩ := h3.bound
  exact ⟨n + 1, r1, r2, x', k1, y', k2, k3, h1, h2, h3, rfl⟩
theorem Cv.inv {l : List Ent} {m : Bool} {x y : Tm} {b : Bool} {k : Int} (h : Cv l m x y b k) : RightM l x ∧ RightM l y ∧ ∃ x' k1 y' k2 k3, Br l x x' 0 k1 ∧ Br l y y' 0 k2 ∧ HdR (Cv l) m (headC l m x' y') b k3 ∧ k = k1 + k2 + k3 := by
  obtain ⟨n, h⟩ := h
  cases n with
  | zero => exact h.elim
  | succ n =>
    obtain ⟨r1, r2, x', k1, y', k2, k3, h1, h2, h3, h4⟩ := h
    exact ⟨r1, r2, x', k1, y', k2, k3, h1, h2, h3.mono (fun _ _ _ _ _ h => ⟨n, h⟩), h4⟩
def nwT (l : List Ent) (k n : Int) : Nat := if k = 4 then 3 else if k = 6 ∧ (ent l n).kind = 2 then 2 else 1
mutual
def wtT (l : List Ent) : Tm → Nat
  | .mk k n s => nwT l k n + wtL l s
def wtL (l : List Ent) : List Tm → Nat
  | [] => 0
  | t :: s => wtT l t + wtL l s
end
theorem nw_pos (l : List Ent) (k n : Int) : 1 ≤ nwT l k n ∧ nwT l k n ≤ 3 := by unfold nwT; split <;> (try split) <;> omega
theorem wt_pos (l : List Ent) : ∀ t : Tm, 1 ≤ wtT l t
  | .mk k n s => by rw [wtT]; have := nw_pos l k n; omega
theorem wt_mem (l : List Ent) : ∀ {s : List Tm} {x : Tm}, x ∈ s → wtT l x ≤ wtL l s
  | a :: s, x, h => by
    rw [wtL]
    rcases List.mem_cons.1 h with rfl | h
    · omega
    · have := wt_mem l h; omega
theorem wtL_app (l : List Ent) : ∀ a b : List Tm, wtL l (a ++ b) = wtL l a + wtL l b
  | [], b => by simp [wtL]
  | t :: a, b => by simp only [List.cons_append, wtL, wtL_app l a b]; omega
mutual
theorem wt_lf (l : List Ent) : ∀ (t : Tm) (b c k : Int), wtT l (lfT t b c k) ≤ wtT l t
  | .mk kd n s, b, c, k => by
    rw [lfT]
    split
    · rename_i h
      rw [wtT, wtT, wtL]
      have e : ∀ m, nwT l 1 m = 1 := fun m => by unfold nwT; simp
      have := (nw_pos l kd n).1
      rw [e]; omega
    · rw [wtT, wtT]
      have := wtL_lf l s kd 0 b c k
      omega
theorem wtL_lf (l : List Ent) : ∀ (s : List Tm) (kd : Int) (i : Nat) (b c k : Int), wtL l (lfL s kd i b c k) ≤ wtL l s
  | [], _, _, _, _, _ => by rw [lfL]; omega
  | t :: s, kd, i, b, c, k => by
    rw [lfL, wtL, wtL]
    have := wt_lf l t (undR' kd i b) c k
    have := wtL_lf l s kd (i + 1) b c k
    omega
end
theorem wt_ap (l : List Ent) : ∀ (s : List Tm) (f : Tm), wtT l (apT f s) = wtT l f + wtL l s + s.length
  | [], f => by rw [apT, wtL]; simp
  | a :: s, f => by
    have e : nwT l 5 0 = 1 := by unfold nwT; simp
    rw [apT, wt_ap l s, wtT, wtL, wtL, wtL, wtL, e, List.length_cons]; omega
theorem wt_spine (l : List Ent) : ∀ t : Tm, goodT t = true → wtT l t = wtT l (hdT t) + wtL l (arT t) + (arT t).length := by
  refine app_ind ?_ ?_
  · intro t hg hk
    rw [hdT_not hk, arT_not hk, wtL]; simp
  · intro n a b hg ha hb ih
    have e : nwT l 5 n = 1 := by unfold nwT; simp
    rw [hdT_app, arT_app, wtT, wtL, wtL, wtL, e, wtL_app, wtL, wtL, List.length_append, ih]; simp; omega
theorem wt_sub (l : List Ent) (t : Tm) : wtT l t = nwT l t.k t.n + wtL l t.sub := by cases t; rw [wtT, Tm.k, Tm.n, Tm.sub]
def swP (p : PE) : PE := (p.2, p.1)
def swH : Hd → Hd
  | .ans b => .ans b
  | .all ps => .all (ps.map swP)
  | .pi a b c d => .pi b a d c
theorem fldP_sw (l : List Ent) (x y : Tm) (c : Int) (pars : List Tm) : ∀ (m i : Nat), fldP l y x c pars m i = (fldP l x y c pars m i).map swP
  | 0, _ => rfl
  | m + 1, i => by rw [fldP, fldP, List.map_cons, fldP_sw l x y c pars m (i + 1)]; rfl
theorem argP_sw : ∀ (a b : List Tm), argP b a = (argP a b).map swP
  | [], [] => rfl
  | [], _ :: _ => rfl
  | _ :: _, [] => rfl
  | a :: l, b :: m => by rw [argP, argP, List.map_cons, argP_sw l m]; rfl
theorem fldP_pars (l : List Ent) {x y : Tm} {c : Int} {p p' : List Tm} (hx : isRec l x ∧ (hdT x).n = c) (hy : isRec l y ∧ (hdT y).n = c) (hp : p.length = p'.length) : ∀ (m i : Nat), fldP l x y c p m i = fldP l x y c p' m i
  | 0, _ => rfl
  | m + 1, i => by
    rw [fldP, fldP, fldP_pars l hx hy hp m (i + 1)]
    unfold partC
    rw [if_pos hx, if_pos hx, if_pos hy, if_pos hy, hp]
theorem prs_len (l : List Ent) {x y : Tm} (hx : isRec l x) (hy : isRec l y) (h : (hdT x).n = (hdT y).n) : (prsT l x).length = (prsT l y).length := by
  unfold prsT
  have h1 := hx.1.2
  have h2 := hy.1.2
  rw [h] at h1
  have h3 : (arT x).length = (arT y).length := by omega
  rw [List.length_take, List.length_take, h, h3]
theorem spnC_sw (x y : Tm) : spnC y x = swH (spnC x y) := by
  unfold spnC
  by_cases h : (hdT x).k ≠ (hdT y).k ∨ (hdT x).n ≠ (hdT y).n ∨ (arT x).length ≠ (arT y).length ∨ ((hdT x).k = 7 ∧ (nth (hdT x).sub 0).n ≠ (nth (hdT y).sub 0).n)
  · rw [if_pos h, if_pos ?_]
    · rfl
    · rcases h with h | h | h | ⟨h1, h2⟩
      · exact .inl h.symm
      · exact .inr (.inl h.symm)
      · exact .inr (.inr (.inl h.symm))
      · by_cases h3 : (hdT x).k = (hdT y).k
        · exact .inr (.inr (.inr ⟨by omega, h2.symm⟩))
        · exact .inl fun h => h3 h.symm
  · have hk : (hdT x).k = (hdT y).k := Classical.byContradiction fun k => h (.inl k)
    rw [if_neg h, if_neg ?_]
    · unfold spnP
      rw [hk]
      by_cases h3 : (hdT y).k = 3
      · rw [if_pos h3, if_pos h3]; simp [swH, swP, argP_sw (arT x) (arT y)]
      · rw [if_neg h3, if_neg h3]; simp [swH, argP_sw (arT x) (arT y)]
    · rintro (h1 | h1 | h1 | ⟨h1, h2⟩)
      · exact h (.inl h1.symm)
      · exact h (.inr (.inl h1.symm))
      · exact h (.inr (.inr (.inl h1.symm)))
      · exact h (.inr (.inr (.inr ⟨by omega, h2.symm⟩)))
theorem headC_lam {l : List Ent} {m : Bool} {x y : Tm} (h : x.k = 4 ∨ y.k = 4) : headC l m x y = .all [(opnT x, opnT y)] := by unfold headC; rw [if_pos h]
theorem headC_rec1 {l : List Ent} {m : Bool} {x y : Tm} (h : ¬ (x.k = 4 ∨ y.k = 4)) (hx : isRec l x) : headC l m x y = if isRec l y ∧ (hdT x).n ≠ (hdT y).n then .ans false else .all (fldP l x y (hdT x).n (prsT l x) (fldsT l (hdT x).n).length 0) := by unfold headC; rw [if_neg h, if_pos hx]
theorem headC_rec2 {l : List Ent} {m : Bool} {x y : Tm} (h : ¬ (x.k = 4 ∨ y.k = 4)) (hx : ¬ isRec l x) (hy : isRec l y) : headC l m x y = .all (fldP l x y (hdT y).n (prsT l y) (fldsT l (hdT y).n).length 0) := by unfold headC; rw [if_neg h, if_neg hx, if_pos hy]
theorem headC_no {l : List Ent} {m : Bool} {x y : Tm} (h : ¬ (x.k = 4 ∨ y.k = 4)) (hx : ¬ isRec l x) (hy : ¬ isRec l y) : headC l m x y = if x.k ≠ y.k then .ans false else if x.k = 3 then .pi (nth x.sub 0) (nth y.sub 0) (nth x.sub 1) (nth y.sub 1)
  else if x.k = 2 then .ans (if m = true then decide (x.n ≤ y.n) else x.n == y.n)
  else spnC x y := by unfold headC; rw [if_neg h, if_neg hx, if_neg hy]
theorem headC_sw (l : List Ent) (x y : Tm) : headC l false y x = swH (headC l false x y) := by
  by_cases h4 : x.k = 4 ∨ y.k = 4
  · rw [headC_lam h4, headC_lam h4.symm]; rfl
  · have h4' : ¬ (y.k = 4 ∨ x.k = 4) := fun h => h4 h.symm
    by_cases hx : isRec l x
    · by_cases hy : isRec l y
      · rw [headC_rec1 h4 hx, headC_rec1 h4' hy]
        by_cases hn : (hdT x).n = (hdT y).n
        · rw [if_neg (fun h => absurd hn.symm h.2), if_neg (fun h => absurd hn h.2)]
          show _ = Hd.all (List.map swP _)
          rw [← fldP_sw, hn, fldP_pars l ⟨hy, rfl⟩ ⟨hx, hn⟩ (prs_len l hx hy hn).symm]
        · have a : isRec l x ∧ (hdT y).n ≠ (hdT x).n := ⟨hx, fun h => hn h.symm⟩
          have b : isRec l y ∧ (hdT x).n ≠ (hdT y).n := ⟨hy, hn⟩
          rw [if_pos a, if_pos b]; rfl
      · have b : ¬ (isRec l y ∧ (hdT x).n ≠ (hdT y).n) := fun h => hy h.1
        rw [headC_rec1 h4 hx, headC_rec2 h4' hy hx, if_neg b]
        show _ = Hd.all (List.map swP _)
        rw [← fldP_sw]
    · by_cases hy : isRec l y
      · have b : ¬ (isRec l x ∧ (hdT y).n ≠ (hdT x).n) := fun h => hx h.1
        rw [headC_rec1 h4' hy, headC_rec2 h4 hx hy, if_neg b]
        show _ = Hd.all (List.map swP _)
        rw [← fldP_sw]
      · rw [headC_no h4 hx hy, headC_no h4' hy hx]
        by_cases hk : x.k = y.k
        · rw [if_neg (show ¬ (y.k ≠ x.k) by omega), if_neg (show ¬ (x.k ≠ y.k) by omega), ← hk]
          by_cases h3 : x.k = 3
          · simp only [if_pos h3]; rfl
          · simp only [if_neg h3]
            by_cases h2 : x.k = 2
            · simp only [if_pos h2, Bool.false_eq_true, if_false, swH]; congr 1; exact Bool.beq_comm
            · simp only [if_neg h2]; exact spnC_sw x y
        · rw [if_pos (show y.k ≠ x.k by omega), if_pos (show x.k ≠ y.k by omega)]; rfl
theorem AllC.sw {C C' : Tm → Tm → Bool → Int → Prop} (h : ∀ x y b k, C x y b k → C' y x b k) : ∀ {ps : List PE} {b : Bool} {k : Int}, AllC C ps b k → AllC C' (ps.map swP) b k
  | [], _, _, a => a
  | _ :: _, _, _, ⟨a, b, b1, k1, c, d⟩ => ⟨b, a, b1, k1, h _ _ _ _ c, d.imp id fun ⟨e, k2, f, g⟩ => ⟨e, k2, AllC.sw h f, g⟩⟩
theorem HdR.sw {C C' : Bool → Tm → Tm → Bool → Int → Prop} (h : ∀ x y b k, C false x y b k → C' false y x b k) : ∀ {q : Hd} {b : Bool} {k : Int}, HdR C false q b k → HdR C' false (swH q) b k
  | .ans _, _, _, a => a
  | .all _, _, _, a => AllC.sw h a
  | .pi _ _ _ _, _, _, ⟨b1, k1, c, d⟩ => ⟨b1, k1, h _ _ _ _ c, d.imp id fun ⟨e, k2, f, g⟩ => ⟨e, k2, h _ _ _ _ f, g⟩⟩
theorem CvN.symm {l : List Ent} : ∀ {n : Nat} {x y : Tm} {b : Bool} {k : Int}, CvN l n false x y b k → CvN l n false y x b k
  | 0, _, _, _, _, h => h.elim
  | n + 1, x, y, b, k, ⟨r1, r2, x', k1, y', k2, k3, h1, h2, h3, h4⟩ => ⟨r2, r1, y', k2, x', k1, k3, h2, h1, by rw [headC_sw]; exact h3.sw fun _ _ _ _ h => CvN.symm h, by omega⟩
theorem Cv.symm {l : List Ent} {x y : Tm} {b : Bool} {k : Int} : Cv l false x y b k → Cv l false y x b k := fun ⟨n, h⟩ => ⟨n, h.symm⟩
def Rel (l : List Ent) (t x : Tm) : Prop := t = x ∨ (shapedT x = true ∧ ∃ k, Nm l t x k)
def e265 (qq:Nat) (M:Mach) (q0_l:List Ent) (fl fu q0_e:Int) (p1:Tm):Option (Tm × Int × Int × Int) :=
 e69 qq M p1 fl fu >>= fun r1 =>
 if q0_e == 0 then
 some (r1.1,r1.2.1,r1.2.2.1,r1.2.2.2)
 else
 some (r1.1,q0_e,r1.2.2.1,r1.2.2.2)
abbrev K265 (M:Mach) (q0_l:List Ent) (fl fu q0_e:Int) (p1:Tm) (r:Tm × Int × Int × Int) (C:Cf):Prop:=C 265 [.cells [.mp 1 0,slv entL q0_l .no,.mp 3 0,ai q0_e],mB M 2,mR M,.cells [ai fl,ai fu]] [.mp 0 0,tmA p1] (tmA r.1) [.cells [.mp 1 0,slv entL q0_l .no,.mp 3 0,ai r.2.1],mB M 2,mR M,.cells [ai r.2.2.1,ai r.2.2.2]] 0
theorem q265:Qf 265 Tryz.f265:=⟨Tryz.func265,by kernel_rfl⟩
theorem k265 {M q0_l fl fu q0_e p1 r} (h:K265 M q0_l fl fu q0_e p1 r Ci):K265 M q0_l fl fu q0_e p1 r Ct:=⟨h,⟨(lz rfl),⟨tv,tv,⟨tv,dT _⟩,tv⟩,tv⟩,(forall_cons ⟨(lz rfl),⟨tv,dE _⟩,(lz rfl),tv,tv⟩ (forall_cons ⟨⟨tv,dE _⟩,(lz rfl),⟨tv,dI _⟩,⟨tv,dI _⟩,tv⟩ (forall_cons ⟨⟨tv,dE _⟩,⟨tv,dC _⟩,tv⟩ (forall_cons ⟨tv,tv,tv⟩ forall_nil)))),⟨tv,tv,dT _,tv⟩,(forall_cons ⟨(lz rfl),dE _,(lz rfl),tv,tv⟩ (forall_cons ⟨dE _,(lz rfl),dI _,dI _,tv⟩ (forall_cons ⟨dE _,dC _,tv⟩ (forall_cons ⟨tv,tv,tv⟩ forall_nil))))⟩
theorem c265 {qq M q0_l fl fu q0_e p1 r} (h:e265 qq M q0_l fl fu q0_e p1 = some r):K265 M q0_l fl fu q0_e p1 r Ct:=by
 unfold e265 at h
 obtain ⟨r1,h2,h⟩:=obind h
 have k:=oC 3 [1,2,3] (c69 h2) o0
 rcases spl h with ⟨h3,h⟩ | ⟨h3,h⟩
 obtain rfl:=sj h
 exact k265 (tF q265 3 [0,1,2,3] (oD (dT r1.1.sub) <| oD (dC M.parts) <| oD (dE M.rl) <| oD (dI M.own) <| oD (dI M.args) <| oD (dE M.l) <| oD (dE q0_l) <| oB 4 h3 k))
 obtain rfl:=sj h
 exact k265 (tF q265 2 [0,1,2,3] (oD (dT r1.1.sub) <| oD (dC M.parts) <| oD (dE M.rl) <| oD (dI M.own) <| oD (dI M.args) <| oD (dE M.l) <| oD (dE q0_l) <| oB 4 h3 k))
def e198 (qq:Nat) (M:Mach) (q0_l:List Ent) (fl fu q0_e:Int) (p1 p2:Tm):Option (Tm × Tm × Bool × Int × Int × Int) :=
 if q0_e != 0 then
 some (p1,p2,false,q0_e,fl,fu)
 else
 e265 qq M q0_l fl fu q0_e p1 >>= fun r2 =>
 if r2.2.1 != 0 then
 some (r2.1,p2,false,r2.2.1,r2.2.2.1,r2.2.2.2)
 else
 e265 qq M q0_l r2.2.2.1 r2.2.2.2 r2.2.1 p2 >>= fun r5 =>
 some (r2.1,r5.1,(r5.2.1 == 0),r5.2.1,r5.2.2.1,r5.2.2.2)
abbrev K198 (M:Mach) (q0_l:List Ent) (fl fu q0_e:Int) (p1 p2:Tm) (r:Tm × Tm × Bool × Int × Int × Int) (C:Cf):Prop:=C 198 [.cells [.mp 1 0,slv entL q0_l .no,.mp 3 0,ai q0_e],mB M 2,mR M,.cells [ai fl,ai fu]] [.mp 0 0,tmA p1,tmA p2] (.tup [tmA r.1,tmA r.2.1,ab r.2.2.1]) [.cells [.mp 1 0,slv entL q0_l .no,.mp 3 0,ai r.2.2.2.1],mB M 2,mR M,.cells [ai r.2.2.2.2.1,ai r.2.2.2.2.2]] 0
theorem q198:Qf 198 Tryz.f198:=⟨Tryz.func198,by kernel_rfl⟩
theorem k198 {M q0_l fl fu q0_e p1 p2 r} (h:K198 M q0_l fl fu q0_e p1 p2 r Ci):K198 M q0_l fl fu q0_e p1 p2 r Ct:=⟨h,⟨(lz rfl),⟨tv,tv,⟨tv,dT _⟩,tv⟩,⟨tv,tv,⟨tv,dT _⟩,tv⟩,tv⟩,(forall_cons ⟨(lz rfl),⟨tv,dE _⟩,(lz rfl),tv,tv⟩ (forall_cons ⟨⟨tv,dE _⟩,(lz rfl),⟨tv,dI _⟩,⟨tv,dI _⟩,tv⟩ (forall_cons ⟨⟨tv,dE _⟩,⟨tv,dC _⟩,tv⟩ (forall_cons ⟨tv,tv,tv⟩ forall_nil)))),⟨⟨tv,tv,dT _,tv⟩,⟨tv,tv,dT _,tv⟩,tv,tv⟩,(forall_cons ⟨(lz rfl),dE _,(lz rfl),tv,tv⟩ (forall_cons ⟨dE _,(lz rfl),dI _,dI _,tv⟩ (forall_cons ⟨dE _,dC _,tv⟩ (forall_cons ⟨tv,tv,tv⟩ forall_nil))))⟩
theorem c198 {qq M q0_l fl fu q0_e p1 p2 r} (h:e198 qq M q0_l fl fu q0_e p1 p2 = some r):K198 M q0_l fl fu q0_e p1 p2 r Ct:=by
 unfold e198 at h
 rcases spl h with ⟨h1,h⟩ | ⟨h1,h⟩
 obtain rfl:=sj h
 exact k198 (tF q198 4 [0,1,2,3] (oD (dT p2.sub) <| oD (dT p1.sub) <| oD (dC M.parts) <| oD (dE M.rl) <| oD (dI M.own) <| oD (dI M.args) <| oD (dE M.l) <| oD (dE q0_l) <| oB 1 h1 o0))
 obtain ⟨r2,h3,h⟩:=obind h
 have k:=oC 1 [0,1,2,3] (c265 h3) <| oB 1 h1 o0
 rcases spl h with ⟨h4,h⟩ | ⟨h4,h⟩
 obtain rfl:=sj h
 exact k198 (tF q198 4 [0,1,2,3] (oD (dT p2.sub) <| oD (dT r2.1.sub) <| oD (dC M.parts) <| oD (dE M.rl) <| oD (dI M.own) <| oD (dI M.args) <| oD (dE M.l) <| oD (dE q0_l) <| oB 2 h4 k))
 obtain ⟨r5,h6,h⟩:=obind h
 obtain rfl:=sj h
 exact k198 (tF q198 7 [0,1,2,3] (oD (dT r5.1.sub) <| oD (dT r2.1.sub) <| oD (dC M.parts) <| oD (dE M.rl) <| oD (dI M.own) <| oD (dI M.args) <| oD (dE M.l) <| oD (dE q0_l) <| oC 1 [0,1,2,3] (c265 h6) <| oB 2 h4 k))
def e200 (qq:Nat) (p0 p1:Int):Option (Bool) :=
 some (p0 == p1)
abbrev K200 (p0 p1:Int) (r:Bool) (C:Cf):Prop:=C 200 [] [ai p0,ai p1] (ab r) [] 0
theorem q200:Qf 200 Tryz.f200:=⟨Tryz.func200,by kernel_rfl⟩
theorem k200 {p0 p1 r} (h:K200 p0 p1 r Ci):K200 p0 p1 r Ct:=⟨h,⟨tv,tv,tv⟩,forall_nil,tv,forall_nil⟩
theorem c200 {qq p0 p1 r} (h:e200 qq p0 p1 = some r):K200 p0 p1 r Ct:=by
 unfold e200 at h
 obtain rfl:=sj h
 exact k200 (tF q200 1 [] (o0))
def e266 (qq:Nat) (M:Mach) (q0_l:List Ent) (fl fu q0_e:Int) (p1:Tm):Option (Tm × Int) :=
 if p1.k == 4 then
 gidx p1.sub 1 >>= fun x2 =>
 some (x2,q0_e)
 else
 e278 qq p1 1 >>= fun r4 =>
 e149 qq 0 >>= fun r6 =>
 e156 qq r4.1 r6 >>= fun r8 =>
 if r4.2 == 0 then
 e89 qq r8 >>= fun r11 =>
 if r11 then
 if q0_e == 0 then
 some (r8,r4.2)
 else
 some (r8,q0_e)
 else
 if q0_e == 0 then
 some (r8,2)
 else
 some (r8,q0_e)
 else
 if q0_e == 0 then
 some (r8,r4.2)
 else
 some (r8,q0_e)
abbrev K266 (M:Mach) (q0_l:List Ent) (fl fu q0_e:Int) (p1:Tm) (r:Tm × Int) (C:Cf):Prop:=C 266 [.cells [.mp 1 0,slv entL q0_l .no,.mp 3 0,ai q0_e],mB M 2,mR M,.cells [ai fl,ai fu]] [.mp 0 0,tmA p1] (tmA r.1) [.cells [.mp 1 0,slv entL q0_l .no,.mp 3 0,ai r.2],mB M 2,mR M,.cells [ai fl,ai fu]] 0
theorem q266:Qf 266 Tryz.f266:=⟨Tryz.func266,by kernel_rfl⟩
theorem k266 {M q0_l fl fu q0_e p1 r} (h:K266 M q0_l fl fu q0_e p1 r Ci):K266 M q0_l fl fu q0_e p1 r Ct:=⟨h,⟨(lz rfl),⟨tv,tv,⟨tv,dT _⟩,tv⟩,tv⟩,(forall_cons ⟨(lz rfl),⟨tv,dE _⟩,(lz rfl),tv,tv⟩ (forall_cons ⟨⟨tv,dE _⟩,(lz rfl),⟨tv,dI _⟩,⟨tv,dI _⟩,tv⟩ (forall_cons ⟨⟨tv,dE _⟩,⟨tv,dC _⟩,tv⟩ (forall_cons ⟨tv,tv,tv⟩ forall_nil)))),⟨tv,tv,dT _,tv⟩,(forall_cons ⟨(lz rfl),dE _,(lz rfl),tv,tv⟩ (forall_cons ⟨dE _,(lz rfl),dI _,dI _,tv⟩ (forall_cons ⟨dE _,dC _,tv⟩ (forall_cons ⟨tv,tv,tv⟩ forall_nil))))⟩
theorem c266 {qq M q0_l fl fu q0_e p1 r} (h:e266 qq M q0_l fl fu q0_e p1 = some r):K266 M q0_l fl fu q0_e p1 r Ct:=by
 unfold e266 at h
 rcases spl h with ⟨h1,h⟩ | ⟨h1,h⟩
 obtain ⟨x2,h3,h⟩:=obind h
 obtain rfl:=sj h
 exact k266 (tF q266 2 [0,1,2,3] (oD (dT x2.sub) <| oD (dC M.parts) <| oD (dE M.rl) <| oD (dI M.own) <| oD (dI M.args) <| oD (dE M.l) <| oD (dE q0_l) <| oA 1 (ix23 (o:=.no) h3) <| oB 1 h1 o0))
 obtain ⟨r4,h5,h⟩:=obind h
 obtain ⟨r6,h7,h⟩:=obind h
 obtain ⟨r8,h9,h⟩:=obind h
 have k:=oC 0 [] (c156 h9) <| oC 4 [] (c149 h7) <| oC 1 [] (c278 h5) <| oB 1 h1 o0
 rcases spl h with ⟨h10,h⟩ | ⟨h10,h⟩
 obtain ⟨r11,h12,h⟩:=obind h
 have k:=oB 1 h10 k
 rcases spl h with ⟨h13,h⟩ | ⟨h13,h⟩
 have k:=oK 1 [] h13 (c89 h12) k
 rcases spl h with ⟨h14,h⟩ | ⟨h14,h⟩
 obtain rfl:=sj h
 exact k266 (tF q266 3 [0,1,2,3] (oD (dT r8.sub) <| oD (dC M.parts) <| oD (dE M.rl) <| oD (dI M.own) <| oD (dI M.args) <| oD (dE M.l) <| oD (dE q0_l) <| oB 2 h14 k))
 obtain rfl:=sj h
 exact k266 (tF q266 2 [0,1,2,3] (oD (dT r8.sub) <| oD (dC M.parts) <| oD (dE M.rl) <| oD (dI M.own) <| oD (dI M.args) <| oD (dE M.l) <| oD (dE q0_l) <| oB 2 h14 k))
 have k:=oK 1 [] h13 (c89 h12) k
 rcases spl h with ⟨h15,h⟩ | ⟨h15,h⟩
 obtain rfl:=sj h
 exact k266 (tF q266 3 [0,1,2,3] (oD (dT r8.sub) <| oD (dC M.parts) <| oD (dE M.rl) <| oD (dI M.own) <| oD (dI M.args) <| oD (dE M.l) <| oD (dE q0_l) <| oB 2 h15 k))
 obtain rfl:=sj h
 exact k266 (tF q266 2 [0,1,2,3] (oD (dT r8.sub) <| oD (dC M.parts) <| oD (dE M.rl) <| oD (dI M.own) <| oD (dI M.args) <| oD (dE M.l) <| oD (dE q0_l) <| oB 2 h15 k))
 have k:=oB 1 h10 k
 rcases spl h with ⟨h16,h⟩ | ⟨h16,h⟩
 obtain rfl:=sj h
 exact k266 (tF q266 3 [0,1,2,3] (oD (dT r8.sub) <| oD (dC M.parts) <| oD (dE M.rl) <| oD (dI M.own) <| oD (dI M.args) <| oD (dE M.l) <| oD (dE q0_l) <| oB 1 h16 k))
 obtain rfl:=sj h
 exact k266 (tF q266 2 [0,1,2,3] (oD (dT r8.sub) <| oD (dC M.parts) <| oD (dE M.rl) <| oD (dI M.own) <| oD (dI M.args) <| oD (dE M.l) <| oD (dE q0_l) <| oB 1 h16 k))
def e165 (qq:Nat) (M:Mach) (p1:Tm):Option (Int × List Tm × Bool) :=
 e89 qq p1 >>= fun r1 =>
 if r1 then
 e123 qq p1 >>= fun r4 =>
 e230 qq M r4 >>= fun r6 =>
 some (r6.1,r6.2.1,r6.2.2)
 else
 some (0,[],false)
abbrev K165 (M:Mach) (p1:Tm) (r:Int × List Tm × Bool) (C:Cf):Prop:=C 165 [mB M 1,mR M] [.mp 0 0,tmA p1] (.tup [ai r.1,.sl (flat tmCells r.2.1) (List.length r.2.1) .no,ab r.2.2]) [mB M 1,mR M] 0
theorem q165:Qf 165 Tryz.f165:=⟨Tryz.func165,by kernel_rfl⟩
theorem k165 {M p1 r} (h:K165 M p1 r Ci):K165 M p1 r Ct:=⟨h,⟨(lz rfl),⟨tv,tv,⟨tv,dT _⟩,tv⟩,tv⟩,(forall_cons ⟨⟨tv,dE _⟩,(lz rfl),⟨tv,dI _⟩,⟨tv,dI _⟩,tv⟩ (forall_cons ⟨⟨tv,dE _⟩,⟨tv,dC _⟩,tv⟩ forall_nil)),⟨tv,dT _,tv,tv⟩,(forall_cons ⟨dE _,(lz rfl),dI _,dI _,tv⟩ (forall_cons ⟨dE _,dC _,tv⟩ forall_nil))⟩
theorem c165 {qq M p1 r} (h:e165 qq M p1 = some r):K165 M p1 r Ct:=by
 unfold e165 at h
 obtain ⟨r1,h2,h⟩:=obind h
 rcases spl h with ⟨h3,h⟩ | ⟨h3,h⟩
 obtain ⟨r4,h5,h⟩:=obind h
 obtain ⟨r6,h7,h⟩:=obind h
 obtain rfl:=sj h
 exact k165 (tF q165 3 [0,1] (oD (dT r6.2.1) <| oD (dC M.parts) <| oD (dE M.rl) <| oD (dI M.own) <| oD (dI M.args) <| oD (dE M.l) <| oC 0 [0,1] (c230 h7) <| oC 2 [] (c123 h5) <| oK 2 [] h3 (c89 h2) o0))
 obtain rfl:=sj h
 exact k165 (tF q165 1 [0,1] (oD (dT ([]:List Tm)) <| oD (dC M.parts) <| oD (dE M.rl) <| oD (dI M.own) <| oD (dI M.args) <| oD (dE M.l) <| oK 2 [] h3 (c89 h2) o0))
def e267 (qq:Nat) (M:Mach) (q0_l:List Ent) (fl fu q0_e:Int) (p1:Tm):Option (Int × List Tm × Bool) :=
 e165 qq M p1 >>= fun r1 =>
 if r1.2.2 then
 gidx q0_l r1.1 >>= fun x4 =>
 gidx q0_l x4.fam >>= fun x6 =>
 if (List.length x6.fields:Int) == 0 then
 some (0,[],false)
 else
 some (r1.1,r1.2.1,true)
 else
 some (0,[],false)
abbrev K267 (M:Mach) (q0_l:List Ent) (fl fu q0_e:Int) (p1:Tm) (r:Int × List Tm × Bool) (C:Cf):Prop:=C 267 [.cells [.mp 1 0,slv entL q0_l .no,.mp 3 0,ai q0_e],mB M 2,mR M,.cells [ai fl,ai fu]] [.mp 0 0,tmA p1] (.tup [ai r.1,.sl (flat tmCells r.2.1) (List.length r.2.1) .no,ab r.2.2]) [.cells [.mp 1 0,slv entL q0_l .no,.mp 3 0,ai q0_e],mB M 2,mR M,.cells [ai fl,ai fu]] 0
theorem q267:Qf 267 Tryz.f267:=⟨Tryz.func267,by kernel_rfl⟩
theorem k267 {M q0_l fl fu q0_e p1 r} (h:K267 M q0_l fl fu q0_e p1 r Ci):K267 M q0_l fl fu q0_e p1 r Ct:=⟨h,⟨(lz rfl),⟨tv,tv,⟨tv,dT _⟩,tv⟩,tv⟩,(forall_cons ⟨(lz rfl),⟨tv,dE _⟩,(lz rfl),tv,tv⟩ (forall_cons ⟨⟨tv,dE _⟩,(lz rfl),⟨tv,dI _⟩,⟨tv,dI _⟩,tv⟩ (forall_cons ⟨⟨tv,dE _⟩,⟨tv,dC _⟩,tv⟩ (forall_cons ⟨tv,tv,tv⟩ forall_nil)))),⟨tv,dT _,tv,tv⟩,(forall_cons ⟨(lz rfl),dE _,(lz rfl),tv,tv⟩ (forall_cons ⟨dE _,(lz rfl),dI _,dI _,tv⟩ (forall_cons ⟨dE _,dC _,tv⟩ (forall_cons ⟨tv,tv,tv⟩ forall_nil))))⟩
theorem c267 {qq M q0_l fl fu q0_e p1 r} (h:e267 qq M q0_l fl fu q0_e p1 = some r):K267 M q0_l fl fu q0_e p1 r Ct:=by
 unfold e267 at h
 obtain ⟨r1,h2,h⟩:=obind h
 have k:=oC 2 [1,2] (c165 h2) o0
 rcases spl h with ⟨h3,h⟩ | ⟨h3,h⟩
 obtain ⟨x4,h5,h⟩:=obind h
 obtain ⟨x6,h7,h⟩:=obind h
 have k:=oA 1 (ix22 (o:=.no) h7) <| oA 3 (ix22 (o:=.no) h5) <| oB 2 h3 k
 rcases spl h with ⟨h8,h⟩ | ⟨h8,h⟩
 obtain rfl:=sj h
 exact k267 (tF q267 0 [0,1,2,3] (oD (dT ([]:List Tm)) <| oD (dC M.parts) <| oD (dE M.rl) <| oD (dI M.own) <| oD (dI M.args) <| oD (dE M.l) <| oD (dE q0_l) <| oB 2 h8 k))
 obtain rfl:=sj h
 exact k267 (tF q267 0 [0,1,2,3] (oD (dT r1.2.1) <| oD (dC M.parts) <| oD (dE M.rl) <| oD (dI M.own) <| oD (dI M.args) <| oD (dE M.l) <| oD (dE q0_l) <| oB 2 h8 k))
 obtain rfl:=sj h
 exact k267 (tF q267 1 [0,1,2,3] (oD (dT ([]:List Tm)) <| oD (dC M.parts) <| oD (dE M.rl) <| oD (dI M.own) <| oD (dI M.args) <| oD (dE M.l) <| oD (dE q0_l) <| oB 2 h3 k))
def e152 (qq:Nat) (p0:Int):Option (Tm) :=
 e219 qq 6 p0 [] >>= fun r1 =>
 some r1
abbrev K152 (p0:Int) (r:Tm) (C:Cf):Prop:=C 152 [] [ai p0] (tmA r) [] 0
theorem q152:Qf 152 Tryz.f152:=⟨Tryz.func152,by kernel_rfl⟩
theorem k152 {p0 r} (h:K152 p0 r Ci):K152 p0 r Ct:=⟨h,⟨tv,tv⟩,forall_nil,⟨tv,tv,dT _,tv⟩,forall_nil⟩
theorem c152 {qq p0 r} (h:e152 qq p0 = some r):K152 p0 r Ct:=by
 unfold e152 at h
 obtain ⟨r1,h2,h⟩:=obind h
 obtain rfl:=sj h
 exact k152 (tF q152 1 [] (oD (dT r1.sub) <| oC 0 [] (c219 h2) o0))
def e313 (qq:Nat) (M:Mach) (q0_l:List Ent) (fl fu q0_e:Int) (p1:Tm) (p2 p3:Int) (p4:List Tm):Option (Tm × Int) :=
 e267 qq M q0_l fl fu q0_e p1 >>= fun r1 =>
 if r1.2.2 then
 if r1.1 == p2 then
 gidx r1.2.1 (w64 ((List.length p4:Int) + p3)) >>= fun x5 =>
 some (x5,q0_e)
 else
 gidx q0_l p2 >>= fun x7 =>
 gidx q0_l x7.fam >>= fun x9 =>
 gidx x9.fields p3 >>= fun x11 =>
 e152 qq x11 >>= fun r13 =>
 e151 qq r13 p4 >>= fun r15 =>
 e156 qq r15 p1 >>= fun r17 =>
 if q0_e == 0 then
 e89 qq r17 >>= fun r20 =>
 if r20 then
 some (r17,q0_e)
 else
 some (r17,2)
 else
 some (r17,q0_e)
 else
 gidx q0_l p2 >>= fun x23 =>
 gidx q0_l x23.fam >>= fun x25 =>
 gidx x25.fields p3 >>= fun x27 =>
 e152 qq x27 >>= fun r29 =>
 e151 qq r29 p4 >>= fun r31 =>
 e156 qq r31 p1 >>= fun r33 =>
 if q0_e == 0 then
 e89 qq r33 >>= fun r36 =>
 if r36 then
 some (r33,q0_e)
 else
 some (r33,2)
 else
 some (r33,q0_e)
abbrev K313 (M:Mach) (q0_l:List Ent) (fl fu q0_e:Int) (p1:Tm) (p2 p3:Int) (p4:List Tm) (r:Tm × Int) (C:Cf):Prop:=C 313 [.cells [.mp 1 0,slv entL q0_l .no,.mp 3 0,ai q0_e],mB M 2,mR M,.cells [ai fl,ai fu]] [.mp 0 0,tmA p1,ai p2,ai p3,slv tmCells p4 .no] (tmA r.1) [.cells [.mp 1 0,slv entL q0_l .no,.mp 3 0,ai r.2],mB M 2,mR M,.cells [ai fl,ai fu]] 0
theorem q313:Qf 313 Tryz.f313:=⟨Tryz.func313,by kernel_rfl⟩
theorem k313 {M q0_l fl fu q0_e p1 p2 p3 p4 r} (h:K313 M q0_l fl fu q0_e p1 p2 p3 p4 r Ci):K313 M q0_l fl fu q0_e p1 p2 p3 p4 r Ct:=⟨h,⟨(lz rfl),⟨tv,tv,⟨tv,dT _⟩,tv⟩,tv,tv,⟨tv,dT _⟩,tv⟩,(forall_cons ⟨(lz rfl),⟨tv,dE _⟩,(lz rfl),tv,tv⟩ (forall_cons ⟨⟨tv,dE _⟩,(lz rfl),⟨tv,dI _⟩,⟨tv,dI _⟩,tv⟩ (forall_cons ⟨⟨tv,dE _⟩,⟨tv,dC _⟩,tv⟩ (forall_cons ⟨tv,tv,tv⟩ forall_nil)))),⟨tv,tv,dT _,tv⟩,(forall_cons ⟨(lz rfl),dE _,(lz rfl),tv,tv⟩ (forall_cons ⟨dE _,(lz rfl),dI _,dI _,tv⟩ (forall_cons ⟨dE _,dC _,tv⟩ (forall_cons ⟨tv,tv,tv⟩ forall_nil))))⟩
theorem c313 {qq M q0_l fl fu q0_e p1 p2 p3 p4 r} (h:e313 qq M q0_l fl fu q0_e p1 p2 p3 p4 = some r):K313 M q0_l fl fu q0_e p1 p2 p3 p4 r Ct:=by
 unfold e313 at h
 obtain ⟨r1,h2,h⟩:=obind h
 have k:=oC 1 [0,1,2,3] (c267 h2) o0
 rcases spl h with ⟨h3,h⟩ | ⟨h3,h⟩
 have k:=oB 2 h3 k
 rcases spl h with ⟨h4,h⟩ | ⟨h4,h⟩
 obtain ⟨x5,h6,h⟩:=obind h
 obtain rfl:=sj h
 exact k313 (tF q313 2 [0,1,2,3] (oD (dT x5.sub) <| oD (dC M.parts) <| oD (dE M.rl) <| oD (dI M.own) <| oD (dI M.args) <| oD (dE M.l) <| oD (dE q0_l) <| oA 2 (ix23 (o:=.no) h6) <| oB 0 h4 k))
 obtain ⟨x7,h8,h⟩:=obind h
 obtain ⟨x9,h10,h⟩:=obind h
 obtain ⟨x11,h12,h⟩:=obind h
 obtain ⟨r13,h14,h⟩:=obind h
 obtain ⟨r15,h16,h⟩:=obind h
 obtain ⟨r17,h18,h⟩:=obind h
 have k:=oC 1 [] (c156 h18) <| oC 0 [] (c151 h16) <| oC 1 [] (c152 h14) <| oA 1 (ix41 (o:=.no) h12) <| oA 1 (ix22 (o:=.no) h10) <| oA 2 (ix22 (o:=.no) h8) <| oB 0 h4 k
 rcases spl h with ⟨h19,h⟩ | ⟨h19,h⟩
 obtain ⟨r20,h21,h⟩:=obind h
 have k:=oB 2 h19 k
 rcases spl h with ⟨h22,h⟩ | ⟨h22,h⟩
 obtain rfl:=sj h
 exact k313 (tF q313 3 [0,1,2,3] (oD (dT r17.sub) <| oD (dC M.parts) <| oD (dE M.rl) <| oD (dI M.own) <| oD (dI M.args) <| oD (dE M.l) <| oD (dE q0_l) <| oK 1 [] h22 (c89 h21) k))
 obtain rfl:=sj h
 exact k313 (tF q313 4 [0,1,2,3] (oD (dT r17.sub) <| oD (dC M.parts) <| oD (dE M.rl) <| oD (dI M.own) <| oD (dI M.args) <| oD (dE M.l) <| oD (dE q0_l) <| oK 1 [] h22 (c89 h21) k))
 obtain rfl:=sj h
 exact k313 (tF q313 2 [0,1,2,3] (oD (dT r17.sub) <| oD (dC M.parts) <| oD (dE M.rl) <| oD (dI M.own) <| oD (dI M.args) <| oD (dE M.l) <| oD (dE q0_l) <| oB 2 h19 k))
 obtain ⟨x23,h24,h⟩:=obind h
 obtain ⟨x25,h26,h⟩:=obind h
 obtain ⟨x27,h28,h⟩:=obind h
 obtain ⟨r29,h30,h⟩:=obind h
 obtain ⟨r31,h32,h⟩:=obind h
 obtain ⟨r33,h34,h⟩:=obind h
 have k:=oC 1 [] (c156 h34) <| oC 0 [] (c151 h32) <| oC 1 [] (c152 h30) <| oA 1 (ix41 (o:=.no) h28) <| oA 1 (ix22 (o:=.no) h26) <| oA 2 (ix22 (o:=.no) h24) <| oB 2 h3 k
 rcases spl h with ⟨h35,h⟩ | ⟨h35,h⟩
 obtain ⟨r36,h37,h⟩:=obind h
 have k:=oB 2 h35 k
 rcases spl h with ⟨h38,h⟩ | ⟨h38,h⟩
 obtain rfl:=sj h
 exact k313 (tF q313 3 [0,1,2,3] (oD (dT r33.sub) <| oD (dC M.parts) <| oD (dE M.rl) <| oD (dI M.own) <| oD (dI M.args) <| oD (dE M.l) <| oD (dE q0_l) <| oK 1 [] h38 (c89 h37) k))
 obtain rfl:=sj h
 exact k313 (tF q313 4 [0,1,2,3] (oD (dT r33.sub) <| oD (dC M.parts) <| oD (dE M.rl) <| oD (dI M.own) <| oD (dI M.args) <| oD (dE M.l) <| oD (dE q0_l) <| oK 1 [] h38 (c89 h37) k))
 obtain rfl:=sj h
 exact k313 (tF q313 2 [0,1,2,3] (oD (dT r33.sub) <| oD (dC M.parts) <| oD (dE M.rl) <| oD (dI M.own) <| oD (dI M.args) <| oD (dE M.l) <| oD (dE q0_l) <| oB 2 h35 k))
mutual
def e135va22461:Nat → (List Ent) → (List Ent) → (List Con') → (List Int) → (List Int) → (List Ent) → Int → Int → Int → Tm → Tm → Option (Bool × Int × Int × Int)
 | 0,_,_,_,_,_,_,_,_,_,_,_ => none
 | qq + 1,q0,q1,q2,q3,q4,q5,q6,q7,q8,p1,p2 =>
 e198 qq (Mach.mk q0 q1 q2 q3 q4) q5 q6 q7 q8 p1 p2 >>= fun r1 =>
 if r1.2.2.1 then
 e199va26991 qq q0 q1 q2 q3 q4 q5 r1.2.2.2.2.1 r1.2.2.2.2.2 r1.2.2.2.1 r1.1 r1.2.1 >>= fun r4 =>
 some (r4.1,r4.2.1,r4.2.2.1,r4.2.2.2)
 else
 some (false,r1.2.2.2.1,r1.2.2.2.2.1,r1.2.2.2.2.2)
def e199va26991:Nat → (List Ent) → (List Ent) → (List Con') → (List Int) → (List Int) → (List Ent) → Int → Int → Int → Tm → Tm → Option (Bool × Int × Int × Int)
 | 0,_,_,_,_,_,_,_,_,_,_,_ => none
 | qq + 1,q0,q1,q2,q3,q4,q5,q6,q7,q8,p1,p2 =>
 if p1.k == 4 then
 e266 qq (Mach.mk q0 q1 q2 q3 q4) q5 q6 q7 q8 p1 >>= fun r2 =>
 e266 qq (Mach.mk q0 q1 q2 q3 q4) q5 q6 q7 r2.2 p2 >>= fun r4 =>
 e135va22461 qq q0 q1 q2 q3 q4 q5 q6 q7 r4.2 r2.1 r4.1 >>= fun r6 =>
 some (r6.1,r6.2.1,r6.2.2.1,r6.2.2.2)
 else
 if p2.k == 4 then
 e266 qq (Mach.mk q0 q1 q2 q3 q4) q5 q6 q7 q8 p1 >>= fun r9 =>
 e266 qq (Mach.mk q0 q1 q2 q3 q4) q5 q6 q7 r9.2 p2 >>= fun r11 =>
 e135va22461 qq q0 q1 q2 q3 q4 q5 q6 q7 r11.2 r9.1 r11.1 >>= fun r13 =>
 some (r13.1,r13.2.1,r13.2.2.1,r13.2.2.2)
 else
 e267 qq (Mach.mk q0 q1 q2 q3 q4) q5 q6 q7 q8 p1 >>= fun r15 =>
 if r15.2.2 then
 e267 qq (Mach.mk q0 q1 q2 q3 q4) q5 q6 q7 q8 p2 >>= fun r18 =>
 if r18.2.2 then
 if r15.1 != r18.1 then
 some (false,q8,q6,q7)
 else
 gidx q5 r15.1 >>= fun x22 =>
 gsl r15.2.1 0 x22.pars >>= fun x24 =>
 e268va27343 qq q0 q1 q2 q3 q4 q5 q6 q7 q8 p1 p2 r15.1 x24 >>= fun r26 =>
 some (r26.1,r26.2.1,r26.2.2.1,r26.2.2.2)
 else
 gidx q5 r15.1 >>= fun x28 =>
 gsl r15.2.1 0 x28.pars >>= fun x30 =>
 e268va27343 qq q0 q1 q2 q3 q4 q5 q6 q7 q8 p1 p2 r15.1 x30 >>= fun r32 =>
 some (r32.1,r32.2.1,r32.2.2.1,r32.2.2.2)
 else
 e267 qq (Mach.mk q0 q1 q2 q3 q4) q5 q6 q7 q8 p2 >>= fun r34 =>
 if r34.2.2 then
 gidx q5 r34.1 >>= fun x37 =>
 gsl r34.2.1 0 x37.pars >>= fun x39 =>
 e268va27343 qq q0 q1 q2 q3 q4 q5 q6 q7 q8 p1 p2 r34.1 x39 >>= fun r41 =>
 some (r41.1,r41.2.1,r41.2.2.1,r41.2.2.2)
 else
 if p1.k != p2.k then
 some (false,q8,q6,q7)
 else
 if p1.k == 3 then
 gidx p1.sub 0 >>= fun x45 =>
 gidx p2.sub 0 >>= fun x47 =>
 e135va22461 qq q0 q1 q2 q3 q4 q5 q6 q7 q8 x45 x47 >>= fun r49 =>
 if r49.1 then
 gidx p1.sub 1 >>= fun x52 =>
 gidx p2.sub 1 >>= fun x54 =>
 e135va22461 qq q0 q1 q2 q3 q4 q5 r49.2.2.1 r49.2.2.2 r49.2.1 x52 x54 >>= fun r56 =>
 some (r56.1,r56.2.1,r56.2.2.1,r56.2.2.2)
 else
 some (false,r49.2.1,r49.2.2.1,r49.2.2.2)
 else
 if p1.k == 2 then
 e200 qq p1.n p2.n >>= fun r59 =>
 some (r59,q8,q6,q7)
 else
 e269va22461 qq q0 q1 q2 q3 q4 q5 q6 q7 q8 p1 p2 >>= fun r61 =>
 some (r61.1,r61.2.1,r61.2.2.1,r61.2.2.2)
def e268va27343:Nat → (List Ent) → (List Ent) → (List Con') → (List Int) → (List Int) → (List Ent) → Int → Int → Int → Tm → Tm → Int → (List Tm) → Option (Bool × Int × Int × Int)
 | 0,_,_,_,_,_,_,_,_,_,_,_,_,_ => none
 | qq + 1,q0,q1,q2,q3,q4,q5,q6,q7,q8,p1,p2,p3,p4 =>
 gidx q5 p3 >>= fun x1 =>
 gidx q5 x1.fam >>= fun x3 =>
 e268va27343L45303 qq q0 q1 q2 q3 q4 q5 p1 p2 p3 p4 x3 0 q8 q6 q7
def e268va27343L45303:Nat → (List Ent) → (List Ent) → (List Con') → (List Int) → (List Int) → (List Ent) → Tm → Tm → Int → (List Tm) → Ent → Int → Int → Int → Int → Option (Bool × Int × Int × Int)
 | 0,_,_,_,_,_,_,_,_,_,_,_,_,_,_,_ => none
 | qq + 1,q0,q1,q2,q3,q4,q5,p1,p2,p3,p4,x3,v28,vb0_3,vb3_0,vb3_1 =>
 if decide (v28 < (List.length x3.fields:Int)) then
 e313 qq (Mach.mk q0 q1 q2 q3 q4) q5 vb3_0 vb3_1 vb0_3 p1 p3 v28 p4 >>= fun r6 =>
 e313 qq (Mach.mk q0 q1 q2 q3 q4) q5 vb3_0 vb3_1 r6.2 p2 p3 v28 p4 >>= fun r8 =>
 e135va22461 qq q0 q1 q2 q3 q4 q5 vb3_0 vb3_1 r8.2 r6.1 r8.1 >>= fun r10 =>
 if r10.1 then
 e268va27343L45303 qq q0 q1 q2 q3 q4 q5 p1 p2 p3 p4 x3 (w64 (v28 + 1)) r10.2.1 r10.2.2.1 r10.2.2.2
 else
 some (false,r10.2.1,r10.2.2.1,r10.2.2.2)
 else
 some (true,vb0_3,vb3_0,vb3_1)
def e269va22461:Nat → (List Ent) → (List Ent) → (List Con') → (List Int) → (List Int) → (List Ent) → Int → Int → Int → Tm → Tm → Option (Bool × Int × Int × Int)
 | 0,_,_,_,_,_,_,_,_,_,_,_ => none
 | qq + 1,q0,q1,q2,q3,q4,q5,q6,q7,q8,p1,p2 =>
 e167 qq p1 >>= fun r1 =>
 e167 qq p2 >>= fun r3 =>
 if r1.1.k != r3.1.k then
 some (false,q8,q6,q7)
 else
 if r1.1.n != r3.1.n then
 some (false,q8,q6,q7)
 else
 if (List.length r1.2:Int) != (List.length r3.2:Int) then
 some (false,q8,q6,q7)
 else
 if r1.1.k == 7 then
 gidx r1.1.sub 0 >>= fun x9 =>
 gidx r3.1.sub 0 >>= fun x11 =>
 if x9.n != x11.n then
 some (false,q8,q6,q7)
 else
 if r1.1.k == 3 then
 e135va22461 qq q0 q1 q2 q3 q4 q5 q6 q7 q8 x9 x11 >>= fun r15 =>
 if r15.1 then
 gidx r1.1.sub 1 >>= fun x18 =>
 gidx r3.1.sub 1 >>= fun x20 =>
 e135va22461 qq q0 q1 q2 q3 q4 q5 r15.2.2.1 r15.2.2.2 r15.2.1 x18 x20 >>= fun r22 =>
 if r22.1 then
 e269va22461L17401 qq q0 q1 q2 q3 q4 q5 r1 r3 0 r22.2.1 r22.2.2.1 r22.2.2.2
 else
 some (false,r22.2.1,r22.2.2.1,r22.2.2.2)
 else
 some (false,r15.2.1,r15.2.2.1,r15.2.2.2)
 else
 e269va22461L17401 qq q0 q1 q2 q3 q4 q5 r1 r3 0 q8 q6 q7
 else
 if r1.1.k == 3 then
 gidx r1.1.sub 0 >>= fun x26 =>
 gidx r3.1.sub 0 >>= fun x28 =>
 e135va22461 qq q0 q1 q2 q3 q4 q5 q6 q7 q8 x26 x28 >>= fun r30 =>
 if r30.1 then
 gidx r1.1.sub 1 >>= fun x33 =>
 gidx r3.1.sub 1 >>= fun x35 =>
 e135va22461 qq q0 q1 q2 q3 q4 q5 r30.2.2.1 r30.2.2.2 r30.2.1 x33 x35 >>= fun r37 =>
 if r37.1 then
 e269va22461L17401 qq q0 q1 q2 q3 q4 q5 r1 r3 0 r37.2.1 r37.2.2.1 r37.2.2.2
 else
 some (false,r37.2.1,r37.2.2.1,r37.2.2.2)
 else
 some (false,r30.2.1,r30.2.2.1,r30.2.2.2)
 else
 e269va22461L17401 qq q0 q1 q2 q3 q4 q5 r1 r3 0 q8 q6 q7
def e269va22461L17401:Nat → (List Ent) → (List Ent) → (List Con') → (List Int) → (List Int) → (List Ent) → (Tm × List Tm) → (Tm × List Tm) → Int → Int → Int → Int → Option (Bool × Int × Int × Int)
 | 0,_,_,_,_,_,_,_,_,_,_,_,_ => none
 | qq + 1,q0,q1,q2,q3,q4,q5,r1,r3,v89,vb0_3,vb3_0,vb3_1 =>
 if decide (v89 < (List.length r1.2:Int)) then
 gidx r1.2 v89 >>= fun x26 =>
 gidx r3.2 v89 >>= fun x28 =>
 e135va22461 qq q0 q1 q2 q3 q4 q5 vb3_0 vb3_1 vb0_3 x26 x28 >>= fun r30 =>
 if r30.1 then
 e269va22461L17401 qq q0 q1 q2 q3 q4 q5 r1 r3 (w64 (v89 + 1)) r30.2.1 r30.2.2.1 r30.2.2.2
 else
 some (false,r30.2.1,r30.2.2.1,r30.2.2.2)
 else
 some (true,vb0_3,vb3_0,vb3_1)
end
def g268va27343L45303E0 (j:Nat → Value) (q0 q1:List Ent) (q2:List Con') (q3 q4:List Int) (q5:List Ent) (p1 p2:Tm) (p3:Int) (p4:List Tm) (x3:Ent) (v28 vb0_3 vb3_0 vb3_1:Int):=sp j 47 0 [(0,.mp 0 0),(3,ai p3),(4,slv tmCells p4 .no),(6,.mp 4 0),(7,.mp 5 0),(27,ai (List.length x3.fields:Int)),(28,ai v28)]
def g268va27343L45303S0 (q0 q1:List Ent) (q2:List Con') (q3 q4:List Int) (q5:List Ent) (p1 p2:Tm) (p3:Int) (p4:List Tm) (x3:Ent) (v28 vb0_3 vb3_0 vb3_1:Int):LSt:=⟨[(0,.cells [.mp 1 0,slv entL q5 .no,.mp 3 0,ai vb0_3]),(1,.cells [slv entL q0 .no,.mp 2 0,slv intC q3 .no,slv intC q4 .no]),(2,.cells [slv entL q1 .no,slv conL q2 .no]),(3,.cells [ai vb3_0,ai vb3_1]),(4,.cells [ai p1.k,ai p1.n,slv tmCells p1.sub .no]),(5,.cells [ai p2.k,ai p2.n,slv tmCells p2.sub .no])],6,[],0,[]⟩
def g269va22461L17401E0 (j:Nat → Value) (q0 q1:List Ent) (q2:List Con') (q3 q4:List Int) (q5:List Ent) (r1 r3:Tm × List Tm) (v89 vb0_3 vb3_0 vb3_1:Int):=sp j 104 0 [(0,.mp 0 0),(8,slv tmCells r1.2 .no),(10,slv tmCells r3.2 .no),(88,ai (List.length r1.2:Int)),(89,ai v89)]
def g269va22461L17401S0 (q0 q1:List Ent) (q2:List Con') (q3 q4:List Int) (q5:List Ent) (r1 r3:Tm × List Tm) (v89 vb0_3 vb3_0 vb3_1:Int):LSt:=⟨[(0,.cells [.mp 1 0,slv entL q5 .no,.mp 3 0,ai vb0_3]),(1,.cells [slv entL q0 .no,.mp 2 0,slv intC q3 .no,slv intC q4 .no]),(2,.cells [slv entL q1 .no,slv conL q2 .no]),(3,.cells [ai vb3_0,ai vb3_1])],4,[],0,[]⟩
abbrev K135va22461 (q0 q1:List Ent) (q2:List Con') (q3 q4:List Int) (q5:List Ent) (q6 q7 q8:Int) (p1 p2:Tm) (r:Bool × Int × Int × Int) (C:Cf):Prop:=C 135 [.cells [.mp 1 0,slv entL q5 .no,.mp 3 0,ai q8],.cells [slv entL q0 .no,.mp 2 0,slv intC q3 .no,slv intC q4 .no],.cells [slv entL q1 .no,slv conL q2 .no],.cells [ai q6,ai q7]] [.mp 0 0,tmA p1,tmA p2] (ab r.1) [.cells [.mp 1 0,slv entL q5 .no,.mp 3 0,ai r.2.1],.cells [slv entL q0 .no,.mp 2 0,slv intC q3 .no,slv intC q4 .no],.cells [slv entL q1 .no,slv conL q2 .no],.cells [ai r.2.2.1,ai r.2.2.2]] 0
abbrev K199va26991 (q0 q1:List Ent) (q2:List Con') (q3 q4:List Int) (q5:List Ent) (q6 q7 q8:Int) (p1 p2:Tm) (r:Bool × Int × Int × Int) (C:Cf):Prop:=C 199 [.cells [.mp 1 0,slv entL q5 .no,.mp 3 0,ai q8],.cells [slv entL q0 .no,.mp 2 0,slv intC q3 .no,slv intC q4 .no],.cells [slv entL q1 .no,slv conL q2 .no],.cells [ai q6,ai q7]] [.mp 0 0,tmA p1,tmA p2,.agg [.clo 200 [] [],.clo 135 [.mp 0 0] []]] (ab r.1) [.cells [.mp 1 0,slv entL q5 .no,.mp 3 0,ai r.2.1],.cells [slv entL q0 .no,.mp 2 0,slv intC q3 .no,slv intC q4 .no],.cells [slv entL q1 .no,slv conL q2 .no],.cells [ai r.2.2.1,ai r.2.2.2]] 0
abbrev K268va27343 (q0 q1:List Ent) (q2:List Con') (q3 q4:List Int) (q5:List Ent) (q6 q7 q8:Int) (p1 p2:Tm) (p3:Int) (p4:List Tm) (r:Bool × Int × Int × Int) (C:Cf):Prop:=C 268 [.cells [.mp 1 0,slv entL q5 .no,.mp 3 0,ai q8],.cells [slv entL q0 .no,.mp 2 0,slv intC q3 .no,slv intC q4 .no],.cells [slv entL q1 .no,slv conL q2 .no],.cells [ai q6,ai q7]] [.mp 0 0,tmA p1,tmA p2,ai p3,slv tmCells p4 .no] (ab r.1) [.cells [.mp 1 0,slv entL q5 .no,.mp 3 0,ai r.2.1],.cells [slv entL q0 .no,.mp 2 0,slv intC q3 .no,slv intC q4 .no],.cells [slv entL q1 .no,slv conL q2 .no],.cells [ai r.2.2.1,ai r.2.2.2]] 0
abbrev K269va22461 (q0 q1:List Ent) (q2:List Con') (q3 q4:List Int) (q5:List Ent) (q6 q7 q8:Int) (p1 p2:Tm) (r:Bool × Int × Int × Int) (C:Cf):Prop:=C 269 [.cells [.mp 1 0,slv entL q5 .no,.mp 3 0,ai q8],.cells [slv entL q0 .no,.mp 2 0,slv intC q3 .no,slv intC q4 .no],.cells [slv entL q1 .no,slv conL q2 .no],.cells [ai q6,ai q7]] [.mp 0 0,tmA p1,tmA p2] (ab r.1) [.cells [.mp 1 0,slv entL q5 .no,.mp 3 0,ai r.2.1],.cells [slv entL q0 .no,.mp 2 0,slv intC q3 .no,slv intC q4 .no],.cells [slv entL q1 .no,slv conL q2 .no],.cells [ai r.2.2.1,ai r.2.2.2]] 0
theorem q135va22461:Qf 135 Tryz.f135:=⟨Tryz.func135,by kernel_rfl⟩
theorem k135va22461 {q0 q1 q2 q3 q4 q5 q6 q7 q8 p1 p2 r} (h:K135va22461 q0 q1 q2 q3 q4 q5 q6 q7 q8 p1 p2 r Ci):K135va22461 q0 q1 q2 q3 q4 q5 q6 q7 q8 p1 p2 r Ct:=⟨h,⟨(lz rfl),⟨tv,tv,⟨tv,dT _⟩,tv⟩,⟨tv,tv,⟨tv,dT _⟩,tv⟩,tv⟩,(forall_cons ⟨(lz rfl),⟨tv,dE _⟩,(lz rfl),tv,tv⟩ (forall_cons ⟨⟨tv,dE _⟩,(lz rfl),⟨tv,dI _⟩,⟨tv,dI _⟩,tv⟩ (forall_cons ⟨⟨tv,dE _⟩,⟨tv,dC _⟩,tv⟩ (forall_cons ⟨tv,tv,tv⟩ forall_nil)))),tv,(forall_cons ⟨(lz rfl),dE _,(lz rfl),tv,tv⟩ (forall_cons ⟨dE _,(lz rfl),dI _,dI _,tv⟩ (forall_cons ⟨dE _,dC _,tv⟩ (forall_cons ⟨tv,tv,tv⟩ forall_nil))))⟩
theorem q199va26991:Qf 199 Tryz.f199:=⟨Tryz.func199,by kernel_rfl⟩
theorem k199va26991 {q0 q1 q2 q3 q4 q5 q6 q7 q8 p1 p2 r} (h:K199va26991 q0 q1 q2 q3 q4 q5 q6 q7 q8 p1 p2 r Ci):K199va26991 q0 q1 q2 q3 q4 q5 q6 q7 q8 p1 p2 r Ct:=⟨h,⟨(lz rfl),⟨tv,tv,⟨tv,dT _⟩,tv⟩,⟨tv,tv,⟨tv,dT _⟩,tv⟩,⟨⟨tv,tv⟩,⟨⟨(lz rfl),tv⟩,tv⟩,tv⟩,tv⟩,(forall_cons ⟨(lz rfl),⟨tv,dE _⟩,(lz rfl),tv,tv⟩ (forall_cons ⟨⟨tv,dE _⟩,(lz rfl),⟨tv,dI _⟩,⟨tv,dI _⟩,tv⟩ (forall_cons ⟨⟨tv,dE _⟩,⟨tv,dC _⟩,tv⟩ (forall_cons ⟨tv,tv,tv⟩ forall_nil)))),tv,(forall_cons ⟨(lz rfl),dE _,(lz rfl),tv,tv⟩ (forall_cons ⟨dE _,(lz rfl),dI _,dI _,tv⟩ (forall_cons ⟨dE _,dC _,tv⟩ (forall_cons ⟨tv,tv,tv⟩ forall_nil))))⟩
theorem q268va27343:Qf 268 Tryz.f268:=⟨Tryz.func268,by kernel_rfl⟩
theorem k268va27343 {q0 q1 q2 q3 q4 q5 q6 q7 q8 p1 p2 p3 p4 r} (h:K268va27343 q0 q1 q2 q3 q4 q5 q6 q7 q8 p1 p2 p3 p4 r Ci):K268va27343 q0 q1 q2 q3 q4 q5 q6 q7 q8 p1 p2 p3 p4 r Ct:=⟨h,⟨(lz rfl),⟨tv,tv,⟨tv,dT _⟩,tv⟩,⟨tv,tv,⟨tv,dT _⟩,tv⟩,tv,⟨tv,dT _⟩,tv⟩,(forall_cons ⟨(lz rfl),⟨tv,dE _⟩,(lz rfl),tv,tv⟩ (forall_cons ⟨⟨tv,dE _⟩,(lz rfl),⟨tv,dI _⟩,⟨tv,dI _⟩,tv⟩ (forall_cons ⟨⟨tv,dE _⟩,⟨tv,dC _⟩,tv⟩ (forall_cons ⟨tv,tv,tv⟩ forall_nil)))),tv,(forall_cons ⟨(lz rfl),dE _,(lz rfl),tv,tv⟩ (forall_cons ⟨dE _,(lz rfl),dI _,dI _,tv⟩ (forall_cons ⟨dE _,dC _,tv⟩ (forall_cons ⟨tv,tv,tv⟩ forall_nil))))⟩
theorem q269va22461:Qf 269 Tryz.f269:=⟨Tryz.func269,by kernel_rfl⟩
theorem k269va22461 {q0 q1 q2 q3 q4 q5 q6 q7 q8 p1 p2 r} (h:K269va22461 q0 q1 q2 q3 q4 q5 q6 q7 q8 p1 p2 r Ci):K269va22461 q0 q1 q2 q3 q4 q5 q6 q7 q8 p1 p2 r Ct:=⟨h,⟨(lz rfl),⟨tv,tv,⟨tv,dT _⟩,tv⟩,⟨tv,tv,⟨tv,dT _⟩,tv⟩,tv⟩,(forall_cons ⟨(lz rfl),⟨tv,dE _⟩,(lz rfl),tv,tv⟩ (forall_cons ⟨⟨tv,dE _⟩,(lz rfl),⟨tv,dI _⟩,⟨tv,dI _⟩,tv⟩ (forall_cons ⟨⟨tv,dE _⟩,⟨tv,dC _⟩,tv⟩ (forall_cons ⟨tv,tv,tv⟩ forall_nil)))),tv,(forall_cons ⟨(lz rfl),dE _,(lz rfl),tv,tv⟩ (forall_cons ⟨dE _,(lz rfl),dI _,dI _,tv⟩ (forall_cons ⟨dE _,dC _,tv⟩ (forall_cons ⟨tv,tv,tv⟩ forall_nil))))⟩
theorem a135va22461_199va26991_268va27343_268va27343L45303_269va22461_269va22461L17401:∀ qq:Nat,(∀ q0 q1 q2 q3 q4 q5 q6 q7 q8 p1 p2 r,e135va22461 qq q0 q1 q2 q3 q4 q5 q6 q7 q8 p1 p2 = some r → K135va22461 q0 q1 q2 q3 q4 q5 q6 q7 q8 p1 p2 r Ct) ∧ (∀ q0 q1 q2 q3 q4 q5 q6 q7 q8 p1 p2 r,e199va26991 qq q0 q1 q2 q3 q4 q5 q6 q7 q8 p1 p2 = some r → K199va26991 q0 q1 q2 q3 q4 q5 q6 q7 q8 p1 p2 r Ct) ∧ (∀ q0 q1 q2 q3 q4 q5 q6 q7 q8 p1 p2 p3 p4 r,e268va27343 qq q0 q1 q2 q3 q4 q5 q6 q7 q8 p1 p2 p3 p4 = some r → K268va27343 q0 q1 q2 q3 q4 q5 q6 q7 q8 p1 p2 p3 p4 r Ct) ∧ (∀ q0 q1 q2 q3 q4 q5 p1 p2 p3 p4 x3 v28 vb0_3 vb3_0 vb3_1 r,e268va27343L45303 qq q0 q1 q2 q3 q4 q5 p1 p2 p3 p4 x3 v28 vb0_3 vb3_0 vb3_1 = some r → (∀ j,Dl Tryz.prog 4 (inn (inn (rgt (lft (rgt (bod Tryz.f268)))))) (g268va27343L45303E0 j q0 q1 q2 q3 q4 q5 p1 p2 p3 p4 x3 v28 vb0_3 vb3_0 vb3_1) (g268va27343L45303S0 q0 q1 q2 q3 q4 q5 p1 p2 p3 p4 x3 v28 vb0_3 vb3_0 vb3_1) (frameQ Tryz.prog 4 (FinQ Tryz.prog 4 Tryz.f268 (ab r.1) [.cells [.mp 1 0,slv entL q5 .no,.mp 3 0,ai r.2.1],.cells [slv entL q0 .no,.mp 2 0,slv intC q3 .no,slv intC q4 .no],.cells [slv entL q1 .no,slv conL q2 .no],.cells [ai r.2.2.1,ai r.2.2.2]] 0) [.blk 0,.seq (rgt (rgt (bod Tryz.f268)))]))) ∧ (∀ q0 q1 q2 q3 q4 q5 q6 q7 q8 p1 p2 r,e269va22461 qq q0 q1 q2 q3 q4 q5 q6 q7 q8 p1 p2 = some r → K269va22461 q0 q1 q2 q3 q4 q5 q6 q7 q8 p1 p2 r Ct) ∧ (∀ q0 q1 q2 q3 q4 q5 r1 r3 v89 vb0_3 vb3_0 vb3_1 r,e269va22461L17401 qq q0 q1 q2 q3 q4 q5 r1 r3 v89 vb0_3 vb3_0 vb3_1 = some r → (∀ j,Dl Tryz.prog 4 (inn (inn (rgt (lft (rgt (rgt (rgt (rgt (rgt (bod Tryz.f269)))))))))) (g269va22461L17401E0 j q0 q1 q2 q3 q4 q5 r1 r3 v89 vb0_3 vb3_0 vb3_1) (g269va22461L17401S0 q0 q1 q2 q3 q4 q5 r1 r3 v89 vb0_3 vb3_0 vb3_1) (frameQ Tryz.prog 4 (FinQ Tryz.prog 4 Tryz.f269 (ab r.1) [.cells [.mp 1 0,slv entL q5 .no,.mp 3 0,ai r.2.1],.cells [slv entL q0 .no,.mp 2 0,slv intC q3 .no,slv intC q4 .no],.cells [slv entL q1 .no,slv conL q2 .no],.cells [ai r.2.2.1,ai r.2.2.2]] 0) [.blk 0,.seq (rgt (rgt (rgt (rgt (rgt (rgt (bod Tryz.f269)))))))]))):=by
 intro qq
 induction qq with
 | zero =>
  exact ⟨fun _ _ _ _ _ _ _ _ _ _ _ _ h => nn h,fun _ _ _ _ _ _ _ _ _ _ _ _ h => nn h,fun _ _ _ _ _ _ _ _ _ _ _ _ _ _ h => nn h,fun _ _ _ _ _ _ _ _ _ _ _ _ _ _ _ _ h => nn h,fun _ _ _ _ _ _ _ _ _ _ _ _ h => nn h,fun _ _ _ _ _ _ _ _ _ _ _ _ _ h => nn h⟩
 | succ qq ih =>
  obtain ⟨ih135va22461,ih199va26991,ih268va27343,ih268va27343L45303,ih269va22461,ih269va22461L17401⟩:=ih
  refine ⟨?_,?_,?_,?_,?_,?_⟩
  intro q0 q1 q2 q3 q4 q5 q6 q7 q8 p1 p2 r h
  rw [e135va22461] at h
  obtain ⟨r1,h2,h⟩:=obind h
  have k:=oC 2 [0,1,2,3] (c198 h2) o0
  rcases spl h with ⟨h3,h⟩ | ⟨h3,h⟩
  obtain ⟨r4,h5,h⟩:=obind h
  obtain rfl:=sj h
  exact k135va22461 (tF q135va22461 0 [0,1,2,3] (oD (dC q2) <| oD (dE q1) <| oD (dI q4) <| oD (dI q3) <| oD (dE q0) <| oD (dE q5) <| oC 4 [0,1,2,3] (ih199va26991 _ _ _ _ _ _ _ _ _ _ _ _ h5) <| oB 2 h3 k))
  obtain rfl:=sj h
  exact k135va22461 (tF q135va22461 2 [0,1,2,3] (oD (dC q2) <| oD (dE q1) <| oD (dI q4) <| oD (dI q3) <| oD (dE q0) <| oD (dE q5) <| oB 2 h3 k))
  intro q0 q1 q2 q3 q4 q5 q6 q7 q8 p1 p2 r h
  rw [e199va26991] at h
  rcases spl h with ⟨h1,h⟩ | ⟨h1,h⟩
  obtain ⟨r2,h3,h⟩:=obind h
  obtain ⟨r4,h5,h⟩:=obind h
  obtain ⟨r6,h7,h⟩:=obind h
  obtain rfl:=sj h
  exact k199va26991 (tF q199va26991 0 [0,1,2,3] (oD (dC q2) <| oD (dE q1) <| oD (dI q4) <| oD (dI q3) <| oD (dE q0) <| oD (dE q5) <| oC 0 [0,1,2,3] (ih135va22461 _ _ _ _ _ _ _ _ _ _ _ _ h7) <| oC 1 [0,1,2,3] (c266 h5) <| oC 1 [0,1,2,3] (c266 h3) <| oB 1 h1 o0))
  have k:=oB 1 h1 o0
  rcases spl h with ⟨h8,h⟩ | ⟨h8,h⟩
  obtain ⟨r9,h10,h⟩:=obind h
  obtain ⟨r11,h12,h⟩:=obind h
  obtain ⟨r13,h14,h⟩:=obind h
  obtain rfl:=sj h
  exact k199va26991 (tF q199va26991 0 [0,1,2,3] (oD (dC q2) <| oD (dE q1) <| oD (dI q4) <| oD (dI q3) <| oD (dE q0) <| oD (dE q5) <| oC 0 [0,1,2,3] (ih135va22461 _ _ _ _ _ _ _ _ _ _ _ _ h14) <| oC 1 [0,1,2,3] (c266 h12) <| oC 1 [0,1,2,3] (c266 h10) <| oB 1 h8 k))
  obtain ⟨r15,h16,h⟩:=obind h
  have k:=oC 1 [0,1,2,3] (c267 h16) <| oB 1 h8 k
  rcases spl h with ⟨h17,h⟩ | ⟨h17,h⟩
  obtain ⟨r18,h19,h⟩:=obind h
  have k:=oC 1 [0,1,2,3] (c267 h19) <| oB 2 h17 k
  rcases spl h with ⟨h20,h⟩ | ⟨h20,h⟩
  have k:=oB 2 h20 k
  rcases spl h with ⟨h21,h⟩ | ⟨h21,h⟩
  obtain rfl:=sj h
  exact k199va26991 (tF q199va26991 0 [0,1,2,3] (oD (dC q2) <| oD (dE q1) <| oD (dI q4) <| oD (dI q3) <| oD (dE q0) <| oD (dE q5) <| oB 0 h21 k))
  obtain ⟨x22,h23,h⟩:=obind h
  obtain ⟨x24,h25,h⟩:=obind h
  obtain ⟨r26,h27,h⟩:=obind h
  obtain rfl:=sj h
  exact k199va26991 (tF q199va26991 0 [0,1,2,3] (oD (dC q2) <| oD (dE q1) <| oD (dI q4) <| oD (dI q3) <| oD (dE q0) <| oD (dE q5) <| oC 0 [0,1,2,3] (ih268va27343 _ _ _ _ _ _ _ _ _ _ _ _ _ _ h27) <| oA 1 (slTo23 h25) <| oA 3 (ix22 (o:=.no) h23) <| oB 0 h21 k))
  obtain ⟨x28,h29,h⟩:=obind h
  obtain ⟨x30,h31,h⟩:=obind h
  obtain ⟨r32,h33,h⟩:=obind h
  obtain rfl:=sj h
  exact k199va26991 (tF q199va26991 0 [0,1,2,3] (oD (dC q2) <| oD (dE q1) <| oD (dI q4) <| oD (dI q3) <| oD (dE q0) <| oD (dE q5) <| oC 0 [0,1,2,3] (ih268va27343 _ _ _ _ _ _ _ _ _ _ _ _ _ _ h33) <| oA 1 (slTo23 h31) <| oA 3 (ix22 (o:=.no) h29) <| oB 2 h20 k))
  obtain ⟨r34,h35,h⟩:=obind h
  have k:=oC 1 [0,1,2,3] (c267 h35) <| oB 2 h17 k
  rcases spl h with ⟨h36,h⟩ | ⟨h36,h⟩
  obtain ⟨x37,h38,h⟩:=obind h
  obtain ⟨x39,h40,h⟩:=obind h
  obtain ⟨r41,h42,h⟩:=obind h
  obtain rfl:=sj h
  exact k199va26991 (tF q199va26991 0 [0,1,2,3] (oD (dC q2) <| oD (dE q1) <| oD (dI q4) <| oD (dI q3) <| oD (dE q0) <| oD (dE q5) <| oC 0 [0,1,2,3] (ih268va27343 _ _ _ _ _ _ _ _ _ _ _ _ _ _ h42) <| oA 1 (slTo23 h40) <| oA 3 (ix22 (o:=.no) h38) <| oB 2 h36 k))
  have k:=oB 2 h36 k
  rcases spl h with ⟨h43,h⟩ | ⟨h43,h⟩
  obtain rfl:=sj h
  exact k199va26991 (tF q199va26991 0 [0,1,2,3] (oD (dC q2) <| oD (dE q1) <| oD (dI q4) <| oD (dI q3) <| oD (dE q0) <| oD (dE q5) <| oB 2 h43 k))
  have k:=oB 2 h43 k
  rcases spl h with ⟨h44,h⟩ | ⟨h44,h⟩
  obtain ⟨x45,h46,h⟩:=obind h
  obtain ⟨x47,h48,h⟩:=obind h
  obtain ⟨r49,h50,h⟩:=obind h
  have k:=oA 2 (ix23 (o:=.no) h48) <| oA 1 (ix23 (o:=.no) h46) <| oB 1 h44 k
  rcases spl h with ⟨h51,h⟩ | ⟨h51,h⟩
  obtain ⟨x52,h53,h⟩:=obind h
  obtain ⟨x54,h55,h⟩:=obind h
  obtain ⟨r56,h57,h⟩:=obind h
  obtain rfl:=sj h
  exact k199va26991 (tF q199va26991 0 [0,1,2,3] (oD (dC q2) <| oD (dE q1) <| oD (dI q4) <| oD (dI q3) <| oD (dE q0) <| oD (dE q5) <| oC 1 [0,1,2,3] (ih135va22461 _ _ _ _ _ _ _ _ _ _ _ _ h57) <| oA 2 (ix23 (o:=.no) h55) <| oA 2 (ix23 (o:=.no) h53) <| oK 1 [0,1,2,3] h51 (ih135va22461 _ _ _ _ _ _ _ _ _ _ _ _ h50) k))
  obtain rfl:=sj h
  exact k199va26991 (tF q199va26991 0 [0,1,2,3] (oD (dC q2) <| oD (dE q1) <| oD (dI q4) <| oD (dI q3) <| oD (dE q0) <| oD (dE q5) <| oK 1 [0,1,2,3] h51 (ih135va22461 _ _ _ _ _ _ _ _ _ _ _ _ h50) k))
  have k:=oB 1 h44 k
  rcases spl h with ⟨h58,h⟩ | ⟨h58,h⟩
  obtain ⟨r59,h60,h⟩:=obind h
  obtain rfl:=sj h
  exact k199va26991 (tF q199va26991 0 [0,1,2,3] (oD (dC q2) <| oD (dE q1) <| oD (dI q4) <| oD (dI q3) <| oD (dE q0) <| oD (dE q5) <| oC 3 [] (c200 h60) <| oB 1 h58 k))
  obtain ⟨r61,h62,h⟩:=obind h
  obtain rfl:=sj h
  exact k199va26991 (tF q199va26991 0 [0,1,2,3] (oD (dC q2) <| oD (dE q1) <| oD (dI q4) <| oD (dI q3) <| oD (dE q0) <| oD (dE q5) <| oC 2 [0,1,2,3] (ih269va22461 _ _ _ _ _ _ _ _ _ _ _ _ h62) <| oB 1 h58 k))
  intro q0 q1 q2 q3 q4 q5 q6 q7 q8 p1 p2 p3 p4 r h
  rw [e268va27343] at h
  obtain ⟨x1,h2,h⟩:=obind h
  obtain ⟨x3,h4,h⟩:=obind h
  exact k268va27343 (tH q268va27343 2 [] [0,1,2,3,4,5] [] [0,3,4,6,7,27,28] (oD (dT p4) <| oD (dT p2.sub) <| oD (dT p1.sub) <| oD (dC q2) <| oD (dE q1) <| oD (dI q4) <| oD (dI q3) <| oD (dE q0) <| oD (dE q5) <| oA 1 (ix22 (o:=.no) h4) <| oA 2 (ix22 (o:=.no) h2) o0) (ih268va27343L45303 _ _ _ _ _ _ _ _ _ _ _ _ _ _ _ _ h))
  intro q0 q1 q2 q3 q4 q5 p1 p2 p3 p4 x3 v28 vb0_3 vb3_0 vb3_1 r h
  rw [e268va27343L45303] at h
  rcases spl h with ⟨h5,h⟩ | ⟨h5,h⟩
  obtain ⟨r6,h7,h⟩:=obind h
  obtain ⟨r8,h9,h⟩:=obind h
  obtain ⟨r10,h11,h⟩:=obind h
  have k:=oC 1 [0,1,2,3] (c313 h9) <| oC 1 [0,1,2,3] (c313 h7) <| oB 0 h5 o0
  rcases spl h with ⟨h12,h⟩ | ⟨h12,h⟩
  exact fun j => lH 2 [] [0,1,2,3,4,5] [] [0,3,4,6,7,27,28] (oD (dT p4) <| oD (dT p2.sub) <| oD (dT p1.sub) <| oD (dC q2) <| oD (dE q1) <| oD (dI q4) <| oD (dI q3) <| oD (dE q0) <| oD (dE q5) <| oK 0 [0,1,2,3] h12 (ih135va22461 _ _ _ _ _ _ _ _ _ _ _ _ h11) k) (ih268va27343L45303 _ _ _ _ _ _ _ _ _ _ _ _ _ _ _ _ h)
  obtain rfl:=sj h
  exact fun j => lF 1 [0,1,2,3] (oD (dC q2) <| oD (dE q1) <| oD (dI q4) <| oD (dI q3) <| oD (dE q0) <| oD (dE q5) <| oK 0 [0,1,2,3] h12 (ih135va22461 _ _ _ _ _ _ _ _ _ _ _ _ h11) k)
  obtain rfl:=sj h
  exact fun j => lF 0 [0,1,2,3] (oD (dC q2) <| oD (dE q1) <| oD (dI q4) <| oD (dI q3) <| oD (dE q0) <| oD (dE q5) <| oB 0 h5 o0)
  intro q0 q1 q2 q3 q4 q5 q6 q7 q8 p1 p2 r h
  rw [e269va22461] at h
  obtain ⟨r1,h2,h⟩:=obind h
  obtain ⟨r3,h4,h⟩:=obind h
  have k:=oC 4 [] (c167 h4) <| oC 1 [] (c167 h2) o0
  rcases spl h with ⟨h5,h⟩ | ⟨h5,h⟩
  obtain rfl:=sj h
  exact k269va22461 (tF q269va22461 0 [0,1,2,3] (oD (dC q2) <| oD (dE q1) <| oD (dI q4) <| oD (dI q3) <| oD (dE q0) <| oD (dE q5) <| oB 5 h5 k))
  have k:=oB 5 h5 k
  rcases spl h with ⟨h6,h⟩ | ⟨h6,h⟩
  obtain rfl:=sj h
  exact k269va22461 (tF q269va22461 0 [0,1,2,3] (oD (dC q2) <| oD (dE q1) <| oD (dI q4) <| oD (dI q3) <| oD (dE q0) <| oD (dE q5) <| oB 2 h6 k))
  have k:=oB 2 h6 k
  rcases spl h with ⟨h7,h⟩ | ⟨h7,h⟩
  obtain rfl:=sj h
  exact k269va22461 (tF q269va22461 0 [0,1,2,3] (oD (dC q2) <| oD (dE q1) <| oD (dI q4) <| oD (dI q3) <| oD (dE q0) <| oD (dE q5) <| oB 2 h7 k))
  have k:=oB 2 h7 k
  rcases spl h with ⟨h8,h⟩ | ⟨h8,h⟩
  obtain ⟨x9,h10,h⟩:=obind h
  obtain ⟨x11,h12,h⟩:=obind h
  have k:=oA 2 (ix23 (o:=.no) h12) <| oA 1 (ix23 (o:=.no) h10) <| oB 1 h8 k
  rcases spl h with ⟨h13,h⟩ | ⟨h13,h⟩
  obtain rfl:=sj h
  exact k269va22461 (tF q269va22461 0 [0,1,2,3] (oD (dC q2) <| oD (dE q1) <| oD (dI q4) <| oD (dI q3) <| oD (dE q0) <| oD (dE q5) <| oB 1 h13 k))
  have k:=oB 1 h13 k
  rcases spl h with ⟨h14,h⟩ | ⟨h14,h⟩
  obtain ⟨r15,h16,h⟩:=obind h
  have k:=oA 2 (ix23 (o:=.no) h12) <| oA 1 (ix23 (o:=.no) h10) <| oB 1 h14 k
  rcases spl h with ⟨h17,h⟩ | ⟨h17,h⟩
  obtain ⟨x18,h19,h⟩:=obind h
  obtain ⟨x20,h21,h⟩:=obind h
  obtain ⟨r22,h23,h⟩:=obind h
  have k:=oA 2 (ix23 (o:=.no) h21) <| oA 1 (ix23 (o:=.no) h19) <| oK 1 [0,1,2,3] h17 (ih135va22461 _ _ _ _ _ _ _ _ _ _ _ _ h16) k
  rcases spl h with ⟨h24,h⟩ | ⟨h24,h⟩
  exact k269va22461 (tH q269va22461 2 [] [0,1,2,3] [] [0,8,10,88,89] (oD (dT r3.2) <| oD (dT r1.2) <| oD (dC q2) <| oD (dE q1) <| oD (dI q4) <| oD (dI q3) <| oD (dE q0) <| oD (dE q5) <| oK 1 [0,1,2,3] h24 (ih135va22461 _ _ _ _ _ _ _ _ _ _ _ _ h23) k) (ih269va22461L17401 _ _ _ _ _ _ _ _ _ _ _ _ _ h))
  obtain rfl:=sj h
  exact k269va22461 (tF q269va22461 1 [0,1,2,3] (oD (dC q2) <| oD (dE q1) <| oD (dI q4) <| oD (dI q3) <| oD (dE q0) <| oD (dE q5) <| oK 1 [0,1,2,3] h24 (ih135va22461 _ _ _ _ _ _ _ _ _ _ _ _ h23) k))
  obtain rfl:=sj h
  exact k269va22461 (tF q269va22461 1 [0,1,2,3] (oD (dC q2) <| oD (dE q1) <| oD (dI q4) <| oD (dI q3) <| oD (dE q0) <| oD (dE q5) <| oK 1 [0,1,2,3] h17 (ih135va22461 _ _ _ _ _ _ _ _ _ _ _ _ h16) k))
  exact k269va22461 (tH q269va22461 1 [] [0,1,2,3] [] [0,8,10,88,89] (oD (dT r3.2) <| oD (dT r1.2) <| oD (dC q2) <| oD (dE q1) <| oD (dI q4) <| oD (dI q3) <| oD (dE q0) <| oD (dE q5) <| oB 1 h14 k) (ih269va22461L17401 _ _ _ _ _ _ _ _ _ _ _ _ _ h))
  have k:=oB 1 h8 k
  rcases spl h with ⟨h25,h⟩ | ⟨h25,h⟩
  obtain ⟨x26,h27,h⟩:=obind h
  obtain ⟨x28,h29,h⟩:=obind h
  obtain ⟨r30,h31,h⟩:=obind h
  have k:=oA 2 (ix23 (o:=.no) h29) <| oA 1 (ix23 (o:=.no) h27) <| oB 1 h25 k
  rcases spl h with ⟨h32,h⟩ | ⟨h32,h⟩
  obtain ⟨x33,h34,h⟩:=obind h
  obtain ⟨x35,h36,h⟩:=obind h
  obtain ⟨r37,h38,h⟩:=obind h
  have k:=oA 2 (ix23 (o:=.no) h36) <| oA 1 (ix23 (o:=.no) h34) <| oK 1 [0,1,2,3] h32 (ih135va22461 _ _ _ _ _ _ _ _ _ _ _ _ h31) k
  rcases spl h with ⟨h39,h⟩ | ⟨h39,h⟩
  exact k269va22461 (tH q269va22461 2 [] [0,1,2,3] [] [0,8,10,88,89] (oD (dT r3.2) <| oD (dT r1.2) <| oD (dC q2) <| oD (dE q1) <| oD (dI q4) <| oD (dI q3) <| oD (dE q0) <| oD (dE q5) <| oK 1 [0,1,2,3] h39 (ih135va22461 _ _ _ _ _ _ _ _ _ _ _ _ h38) k) (ih269va22461L17401 _ _ _ _ _ _ _ _ _ _ _ _ _ h))
  obtain rfl:=sj h
  exact k269va22461 (tF q269va22461 1 [0,1,2,3] (oD (dC q2) <| oD (dE q1) <| oD (dI q4) <| oD (dI q3) <| oD (dE q0) <| oD (dE q5) <| oK 1 [0,1,2,3] h39 (ih135va22461 _ _ _ _ _ _ _ _ _ _ _ _ h38) k))
  obtain rfl:=sj h
  exact k269va22461 (tF q269va22461 1 [0,1,2,3] (oD (dC q2) <| oD (dE q1) <| oD (dI q4) <| oD (dI q3) <| oD (dE q0) <| oD (dE q5) <| oK 1 [0,1,2,3] h32 (ih135va22461 _ _ _ _ _ _ _ _ _ _ _ _ h31) k))
  exact k269va22461 (tH q269va22461 1 [] [0,1,2,3] [] [0,8,10,88,89] (oD (dT r3.2) <| oD (dT r1.2) <| oD (dC q2) <| oD (dE q1) <| oD (dI q4) <| oD (dI q3) <| oD (dE q0) <| oD (dE q5) <| oB 1 h25 k) (ih269va22461L17401 _ _ _ _ _ _ _ _ _ _ _ _ _ h))
  intro q0 q1 q2 q3 q4 q5 r1 r3 v89 vb0_3 vb3_0 vb3_1 r h
  rw [e269va22461L17401] at h
  rcases spl h with ⟨h25,h⟩ | ⟨h25,h⟩
  obtain ⟨x26,h27,h⟩:=obind h
  obtain ⟨x28,h29,h⟩:=obind h
  obtain ⟨r30,h31,h⟩:=obind h
  have k:=oA 1 (ix23 (o:=.no) h29) <| oA 0 (ix23 (o:=.no) h27) <| oB 0 h25 o0
  rcases spl h with ⟨h32,h⟩ | ⟨h32,h⟩
  exact fun j => lH 2 [] [0,1,2,3] [] [0,8,10,88,89] (oD (dT r3.2) <| oD (dT r1.2) <| oD (dC q2) <| oD (dE q1) <| oD (dI q4) <| oD (dI q3) <| oD (dE q0) <| oD (dE q5) <| oK 1 [0,1,2,3] h32 (ih135va22461 _ _ _ _ _ _ _ _ _ _ _ _ h31) k) (ih269va22461L17401 _ _ _ _ _ _ _ _ _ _ _ _ _ h)
  obtain rfl:=sj h
  exact fun j => lF 1 [0,1,2,3] (oD (dC q2) <| oD (dE q1) <| oD (dI q4) <| oD (dI q3) <| oD (dE q0) <| oD (dE q5) <| oK 1 [0,1,2,3] h32 (ih135va22461 _ _ _ _ _ _ _ _ _ _ _ _ h31) k)
  obtain rfl:=sj h
  exact fun j => lF 0 [0,1,2,3] (oD (dC q2) <| oD (dE q1) <| oD (dI q4) <| oD (dI q3) <| oD (dE q0) <| oD (dE q5) <| oB 0 h25 o0)
theorem c135va22461 {qq q0 q1 q2 q3 q4 q5 q6 q7 q8 p1 p2 r} (h:e135va22461 qq q0 q1 q2 q3 q4 q5 q6 q7 q8 p1 p2 = some r):K135va22461 q0 q1 q2 q3 q4 q5 q6 q7 q8 p1 p2 r Ct:=(a135va22461_199va26991_268va27343_268va27343L45303_269va22461_269va22461L17401 _).1 _ _ _ _ _ _ _ _ _ _ _ _ h
def er4b (r : Bool × Int × Int × Int) : Int := if r.1 = true then 9 else r.2.1
theorem er4b_8 {r : Bool × Int × Int × Int} (h : er4b r = 8) : r.1 = false ∧ r.2.1 = 8 := by
  unfold er4b at h
  split at h
  · omega
  · rename_i h1; exact ⟨by simpa using h1, h⟩
def runC (l : List Ent) (m : Bool) (L U e : Int) (q : Nat) (x y : Tm) : Option (Bool × Int × Int × Int) := match m with
  | false => e135va22461 q l l (evA l l.length 0) (l.map argsT) (l.map ownT) l L U e x y
  | true => none
def runH (l : List Ent) (m : Bool) (L U e : Int) (q : Nat) (x y : Tm) : Option (Bool × Int × Int × Int) := match m with
  | false => e199va26991 q l l (evA l l.length 0) (l.map argsT) (l.map ownT) l L U e x y
  | true => none
def QX (X : Bool → Int → Prop) (R : Int → Int → Bool × Int × Int × Int) (k : Int) : Prop := ∃ b e, e ≠ 8 ∧ (e = 0 → X b k) ∧ (e ≠ 0 → b = false ∧ ∀ b k, ¬ X b k) ∧ R = fun L U => (b, e, L, U)
def HX (g : Int → Int → Nat → Option (Bool × Int × Int × Int)) (X : Bool → Int → Prop) (f : Int) : Prop := Ou g er4b (QX X) (∀ b k, X b k → f < k) f
def HC (l : List Ent) (m : Bool) (x y : Tm) (f : Int) : Prop := HX (fun L U q => runC l m L U 0 q x y) (Cv l m x y) f
theorem qx_bad {X : Bool → Int → Prop} {e k : Int} (h8 : e ≠ 8) (h0 : e ≠ 0) (h : ∀ b k, ¬ X b k) : QX X (fun L U => (false, e, L, U)) k := ⟨false, e, h8, fun h => absurd h h0, fun _ => ⟨rfl, h⟩, rfl⟩
theorem qx_ok {X : Bool → Int → Prop} {b : Bool} {k : Int} (h : X b k) : QX X (fun L U => (b, 0, L, U)) k := ⟨b, 0, by decide, fun _ => h, fun h => absurd rfl h, rfl⟩
theorem ev_sameE (l : List Ent) (m : Bool) (x y : Tm) (e : Int) (he : e ≠ 0) (L U : Int) (hmf : m = false) : Evt (fun q => runC l m L U e q x y) (false, e, L, U) := by
  have hp : Evt (fun q => e198 q (Mach.mk l l (evA l l.length 0) (l.map argsT) (l.map ownT)) l L U e x y) (x, y, false, e, L, U) := by
    simp only [e198]
    exact Evt.ifT (by simpa using he) Evt.ret
  cases m with
  | false =>
    refine Evt.succ ?_
    simp only [runC, e135va22461]
    exact hp.bind (Evt.ifF rfl Evt.ret)
  | true => cases hmf
theorem AllC.one {C : Tm → Tm → Bool → Int → Prop} {p : PE} {b : Bool} {k : Int} : AllC C [p] b k ↔ p.1.2 = 0 ∧ p.2.2 = 0 ∧ C p.1.1 p.2.1 b k := by
  constructor
  · rintro ⟨h1, h2, b1, k1, h3, ⟨rfl, rfl, rfl⟩ | ⟨rfl, k2, ⟨rfl, rfl⟩, rfl⟩⟩
    · exact ⟨h1, h2, h3⟩
    · exact ⟨h1, h2, by rwa [Int.add_zero]⟩
  · rintro ⟨h1, h2, h3⟩
    refine ⟨h1, h2, b, k, h3, ?_⟩
    cases b with
    | false => exact .inl ⟨rfl, rfl, rfl⟩
    | true => exact .inr ⟨rfl, 0, ⟨rfl, rfl⟩, by omega⟩
theorem out_cons {l : List Ent} {p : PE} {r : List PE} {f : Int} {g : Int → Int → Nat → Option (Bool × Int × Int × Int)} {c : Int → Int → Int → Nat → Option (Bool × Int × Int × Int)}
    (h1 : HX g (AllC (Cv l false) [p]) f) (hc : ∀ k, 0 ≤ k → k ≤ f → HX (fun L U q => c 0 L U q) (AllC (Cv l false) r) (f - k)) :
    HX (fun L U q => g L U q >>= fun r30 => if r30.1 = true then c r30.2.1 r30.2.2.1 r30.2.2.2 q else some (false, r30.2.1, r30.2.2.1, r30.2.2.2)) (AllC (Cv l false) (p :: r)) f := by
  refine Ou.bind h1 (fun h b k ha => ?_) (fun r hr => ?_) ?_
  · obtain ⟨a1, a2, b1, k1, a3, a4⟩ := ha
    have := h b1 k1 (AllC.one.2 ⟨a1, a2, a3⟩)
    rcases a4 with ⟨-, -, a4⟩ | ⟨-, k2, a4, a5⟩
    · omega
    · have := AllC.nn (fun _ _ _ _ h => Cv.nn h) a4; omega
  · have := er4b_8 hr
    refine ⟨_, Evt.ifF this.1 Evt.ret, ?_⟩
    unfold er4b
    rw [if_neg (by simp)]; exact this.2
  · rintro R k k0 k1 ⟨b1, e1, h8, h0, hn, rfl⟩
    dsimp only
    by_cases e0 : e1 = 0
    · subst e0
      obtain ⟨a1, a2, a3⟩ := AllC.one.1 (h0 rfl)
      cases b1 with
      | false => exact Ou.ifF rfl (Ou.ret (by omega) (qx_ok ⟨a1, a2, false, k, a3, .inl ⟨rfl, rfl, by omega⟩⟩))
      | true =>
        refine Ou.ifT rfl ((hc k k0 k1).mono ?_ fun h b k' ha => ?_)
        · rintro R n _ _ ⟨b, e, g8, g0, gn, rfl⟩
          refine ⟨b, e, g8, fun he => ⟨a1, a2, true, k, a3, .inr ⟨rfl, n, g0 he, rfl⟩⟩, fun he => ⟨(gn he).1, fun b' k' ha => ?_⟩, rfl⟩
          obtain ⟨-, -, b1, k1, a4, a5⟩ := ha
          obtain ⟨rfl, rfl⟩ := a3.det a4
          rcases a5 with ⟨a5, -⟩ | ⟨-, k2, a5, -⟩
          · cases a5
          · exact (gn he).2 _ _ a5
        · obtain ⟨-, -, b1, k1, a4, a5⟩ := ha
          obtain ⟨rfl, rfl⟩ := a3.det a4
          rcases a5 with ⟨a5, -⟩ | ⟨-, k2, a5, a6⟩
          · cases a5
          · have := h _ _ a5; omega
    · obtain ⟨rfl, hno⟩ := hn e0
      refine Ou.ifF rfl (Ou.ret (by omega) (qx_bad h8 e0 fun b k ha => ?_))
      obtain ⟨a1, a2, b1, k1, a3, -⟩ := ha
      exact hno b1 k1 (AllC.one.2 ⟨a1, a2, a3⟩)
theorem out_one {l : List Ent} {p q : Tm × Int} {f : Int} (hf : 0 ≤ f) (h8 : p.2 ≠ 8 ∧ q.2 ≠ 8) (h : p.2 = 0 → q.2 = 0 → HC l false p.1 q.1 f) : HX (fun L U n => runC l false L U (if p.2 = 0 then q.2 else p.2) n p.1 q.1) (AllC (Cv l false) [(p, q)]) f := by
  by_cases h1 : p.2 = 0
  · rw [if_pos h1]
    by_cases h2 : q.2 = 0
    · rw [h2]
      refine (h h1 h2).mono ?_ fun hs b k ha => hs b k (AllC.one.1 ha).2.2
      rintro R n _ _ ⟨b, e, g8, g0, gn, rfl⟩
      exact ⟨b, e, g8, fun he => AllC.one.2 ⟨h1, h2, g0 he⟩, fun he => ⟨(gn he).1, fun b k ha => (gn he).2 b k (AllC.one.1 ha).2.2⟩, rfl⟩
    · exact Ou.evt0 (fun L U => ev_sameE l false p.1 q.1 q.2 h2 L U rfl) hf (qx_bad h8.2 h2 fun b k ha => h2 (AllC.one.1 ha).2.1)
  · rw [if_neg h1]
    exact Ou.evt0 (fun L U => ev_sameE l false p.1 q.1 p.2 h1 L U rfl) hf (qx_bad h8.1 h1 fun b k ha => h1 (AllC.one.1 ha).1)
theorem out_plain {l : List Ent} {a b : Tm} {f : Int} (h : HC l false a b f) : HX (fun L U n => runC l false L U 0 n a b) (AllC (Cv l false) [((a, 0), (b, 0))]) f := by
  refine h.mono ?_ fun hs b k ha => hs b k (AllC.one.1 ha).2.2
  rintro R n _ _ ⟨b, e, g8, g0, gn, rfl⟩
  exact ⟨b, e, g8, fun he => AllC.one.2 ⟨rfl, rfl, g0 he⟩, fun he => ⟨(gn he).1, fun b k ha => (gn he).2 b k (AllC.one.1 ha).2.2⟩, rfl⟩
theorem out_nil {l : List Ent} {f : Int} (hf : 0 ≤ f) : HX (fun L U _ => some (true, 0, L, U)) (AllC (Cv l false) []) f := Ou.ret hf (qx_ok ⟨rfl, rfl⟩)
theorem opnT_e8 (t : Tm) : (opnT t).2 ≠ 8 := by
  unfold opnT
  split
  · simp
  · dsimp only
    split
    · split <;> simp
    · exact liftT_e8 t 1 0
theorem opnT_ok {t : Tm} (hs : shapedT t = true) : (opnT t).1.Ok := by
  unfold opnT
  split
  · rename_i h
    obtain ⟨a, b, hab, -, hb⟩ := nth_sub2 (shapedT_spec hs).2.2 (.inr (.inl h))
    rw [hab]; exact good_ok b hb
  · exact ok_mk2 (liftT_ok t 1 0 (shaped_ok hs)) (leaf_ok _ _)
theorem opn4 {t : Tm} (h : t.k = 4) : opnT t = (nth t.sub 1, 0) := if_pos h
theorem opnN {t : Tm} (h : t.k ≠ 4) : opnT t = (.mk 5 0 [(liftT t 1 0).1, .mk 1 0 []], if (liftT t 1 0).2 = 0 then (if shapedT (.mk 5 0 [(liftT t 1 0).1, .mk 1 0 []]) = true then 0 else 2) else (liftT t 1 0).2) := if_neg h
theorem ev_opened (M : Mach) (l : List Ent) (t : Tm) (hs : shapedT t = true) (L U e : Int) : Evt (fun q => e266 q M l L U e t) ((opnT t).1, if e = 0 then (opnT t).2 else e) := by
  simp only [e266]
  by_cases h4 : t.k = 4
  · obtain ⟨a, b, hab, -, -⟩ := nth_sub2 (shapedT_spec hs).2.2 (.inr (.inl h4))
    refine Evt.ifT (by simp [h4]) (Evt.pure (gidx_nth (by omega) (by rw [hab]; simp)) (Evt.ret.eq ?_))
    rw [opn4 h4]
    by_cases he : e = 0
    · simp [he]
    · simp [he]
  · rw [opnN h4]
    refine Evt.ifF (by simp [h4]) ((ev_Up t 1 (shaped_ok hs)).bind ((ev_Var 0).bind ((ev_App _ _).bind ?_)))
    dsimp only
    by_cases h1 : (liftT t 1 0).2 = 0
    · refine Evt.ifT (by simp [h1]) ((ev_Shaped _ (ok_mk2 (liftT_ok t 1 0 (shaped_ok hs)) (leaf_ok _ _))).bind ?_)
      by_cases h2 : shapedT (.mk 5 0 [(liftT t 1 0).1, .mk 1 0 []]) = true
      · refine Evt.ifT h2 ?_
        by_cases he : e = 0
        · exact Evt.ifT (by simp [he]) (Evt.ret.eq (by simp [h1, h2, he]))
        · exact Evt.ifF (by simp [he]) (Evt.ret.eq (by simp [he]))
      · refine Evt.ifF (by simpa using h2) ?_
        by_cases he : e = 0
        · exact Evt.ifT (by simp [he]) (Evt.ret.eq (by simp [h1, h2, he]))
        · exact Evt.ifF (by simp [he]) (Evt.ret.eq (by simp [he]))
    · refine Evt.ifF (by simp [h1]) ?_
      by_cases he : e = 0
      · exact Evt.ifT (by simp [he]) (Evt.ret.eq (by simp [h1, he]))
      · exact Evt.ifF (by simp [he]) (Evt.ret.eq (by simp [he]))
def recX (l : List Ent) (t : Tm) : Int × List Tm × Bool := if isRec l t then ((hdT t).n, arT t, true) else (0, [], false)
theorem ev_Con (l : List Ent) (t : Tm) (hs : shapedT t = true) : Evt (fun q => e165 q (machT l) t) (conX l t) := by
  simp only [e165]
  refine (ev_Shaped t (shaped_ok hs)).bind (Evt.ifT hs (((ev_Copy t (shaped_ok hs)).eq (by unfold copT; rw [if_pos hs])).bind ((ev_wcon l t hs).bind Evt.ret)))
theorem ev_record {N : ByteArray → Bool} (l : List Ent) (hE : AllE N l) (t : Tm) (hs : shapedT t = true) (L U e : Int) : Evt (fun q => e267 q (machT l) l L U e t) (recX l t) := by
  simp only [e267]
  refine (ev_Con l t hs).bind ?_
  by_cases h : isCon l t
  · have hcs := isCon_spec hs h
    obtain ⟨A, z, a1, -, -, a4, a5, a6, a7, f0, f1, -⟩ := con_facts hE hcs.1 hcs.2.1 hcs.2.2.1
    have c : conX l t = ((hdT t).n, arT t, true) := if_pos h
    rw [c]
    refine Evt.ifT rfl (Evt.pure (gidx_ent hcs.1 hcs.2.1) (Evt.pure (gidx_ent f0 (show (ent l (hdT t).n).fam < _ by omega)) ?_))
    by_cases h2 : fldsT l (hdT t).n = []
    · have r : recX l t = (0, [], false) := if_neg (fun h => h.2 h2)
      rw [r]
      have h3 : (ent l (ent l (hdT t).n).fam).fields = [] := h2
      exact Evt.ifT (by rw [h3]; rfl) Evt.ret
    · have r : recX l t = ((hdT t).n, arT t, true) := if_pos ⟨h, h2⟩
      rw [r]
      have h3 : (ent l (ent l (hdT t).n).fam).fields ≠ [] := h2
      have := List.length_pos_iff.2 h3
      exact Evt.ifF (by simp; omega) Evt.ret
  · have c : conX l t = (0, [], false) := if_neg h
    have r : recX l t = (0, [], false) := if_neg (fun h' => h h'.1)
    rw [c, r]
    exact Evt.ifF rfl Evt.ret
theorem rec_facts {N : ByteArray → Bool} {l : List Ent} {c : Int} (hE : AllE N l) (h0 : 0 ≤ c) (h1 : c < l.length) (hk : (ent l c).kind = 2) (hf : fldsT l c ≠ []) :
    (pisT (ent l c).type : Int) = (ent l c).pars + (fldsT l c).length ∧ 0 ≤ (ent l c).pars ∧ 0 ≤ (ent l c).fam ∧ (ent l c).fam < l.length ∧ ∀ n ∈ fldsT l c, isT l n 4 = true := by
  obtain ⟨A, z, a1, -, -, a4, a5, a6, a7, f0, f1, fk, fp, fi, fs, -, q0, q1⟩ := con_facts hE h0 h1 hk
  have hft := (entryT_spec (hE.2 _ f0 (by omega))).2.1 fk
  have hcn := (entryT_spec (hE.2 c h0 h1)).2.2.1 hk
  unfold familyT at hft
  simp only [Bool.and_eq_true, Bool.or_eq_true, decide_eq_true_eq] at hft
  have hne : (ent l (ent l c).fam).fields.length ≠ 0 := fun h => hf (List.length_eq_zero_iff.1 h)
  have hD := hft.2.resolve_left hne
  have hC := hft.1.2
  unfold famD at hD
  unfold famC at hC
  simp only [Bool.and_eq_true, beq_iff_eq, decide_eq_true_eq] at hD hC
  obtain ⟨⟨⟨⟨⟨d1, d2⟩, d3⟩, d4⟩, d5⟩, d6⟩ := hD
  unfold conT ownedT ownB at hcn
  simp only [Bool.and_eq_true, decide_eq_true_eq, beq_iff_eq] at hcn
  have hown : ownL l (ent l c) = (ent l (ent l c).fam).cons := by unfold ownL; rw [if_neg (by omega)]
  have hpl := hcn.1.2
  rw [hown] at hpl
  obtain ⟨w, hw⟩ : ∃ w, (ent l (ent l c).fam).cons = [w] := by
    rcases hc : (ent l (ent l c).fam).cons with _ | ⟨w, _ | ⟨v, r⟩⟩ <;> rw [hc] at d2 <;> simp at d2
    exact ⟨w, rfl⟩
  rw [hw] at hC hpl
  have hwc : w = c := by
    have h3 := hpl.2
    have h4 : (ent l c).place.toNat = 0 := by have := hpl.1.2; simp at this; omega
    rw [h4] at h3
    simpa using h3
  have hrun := hC.1.2
  rw [runT] at hrun
  simp only [Bool.and_eq_true, beq_iff_eq] at hrun
  have hc1 : c = (ent l c).fam + 1 := by omega
  rw [← hc1, a1] at d6
  refine ⟨?_, a6, f0, by omega, ?_⟩
  · rw [← a4, fp]; exact d6
  · have key : ∀ (r : List Int) (k : Int), memT l (ent l c).fam 4 r k = true → ∀ n ∈ r, isT l n 4 = true := by
      intro r
      induction r with
      | nil => intro k _ n hn; cases hn
      | cons a r ih =>
        intro k h n hn
        rw [memT] at h
        simp only [Bool.and_eq_true] at h
        rcases List.mem_cons.1 hn with rfl | hn
        · exact h.1.1.1
        · exact ih _ h.2 n hn
    exact key _ 0 d4
theorem fld_get {l : List Ent} {c : Int} {i : Nat} (h : i < (fldsT l c).length) : gidx (ent l (ent l c).fam).fields (i : Int) = some (((fldsT l c)[i]?).getD (-1)) := by
  unfold gidx
  rw [if_pos (by omega), show (i : Int).toNat = i by omega]
  show (fldsT l c)[i]? = _
  rw [List.getElem?_eq_getElem h]; rfl
theorem partC_e8 (l : List Ent) (t : Tm) (c : Int) (i : Nat) (pars : List Tm) : (partC l t c i pars).2 ≠ 8 := by
  unfold partC
  split
  · simp
  · dsimp only; split <;> simp
theorem partC_ok {l : List Ent} {t : Tm} (hs : shapedT t = true) {c : Int} {i : Nat} {pars : List Tm} (hp : OkA pars) : (partC l t c i pars).1.Ok := by
  unfold partC
  split
  · exact nth_all (Q := Tm.Ok) (fun a ha => shaped_ok (ar_shaped hs ha)) zT_ok
  · exact ok_mk2 (apT_ok _ _ (leaf_ok _ _) hp) (shaped_ok hs)
theorem ev_part {N : ByteArray → Bool} (l : List Ent) (hE : AllE N l) (t : Tm) (hs : shapedT t = true) (L U e c : Int) (i : Nat) (pars : List Tm) (h0 : 0 ≤ c) (h1 : c < l.length) (hk : (ent l c).kind = 2) (hi : i < (fldsT l c).length) (hp : (pars.length : Int) = (ent l c).pars) (hop : OkA pars) :
    Evt (fun q => e313 q (machT l) l L U e t c (i : Int) pars) ((partC l t c i pars).1, if e = 0 then (partC l t c i pars).2 else e) := by
  have hf : fldsT l c ≠ [] := fun h => by rw [h] at hi; simp at hi
  obtain ⟨r1, r2, r3, r4, -⟩ := rec_facts hE h0 h1 hk hf
  have hpl : (ent l c).pars ≤ 24 ∧ pisT (ent l c).type ≤ 24 := by
    obtain ⟨A, z, a1, -, -, a4, a5, a6, a7, -⟩ := con_facts hE h0 h1 hk
    omega
  have tail : Evt (fun q => gidx l c >>= fun x7 => gidx l x7.fam >>= fun x9 => gidx x9.fields (i : Int) >>= fun x11 => e152 q x11 >>= fun r13 => e151 q r13 pars >>= fun r15 => e156 q r15 t >>= fun r17 => if (e == 0) = true then e89 q r17 >>= fun r20 => if r20 = true then some (r17, e) else some (r17, 2) else some (r17, e))
      (.mk 5 0 [apT (.mk 6 (((fldsT l c)[i]?).getD (-1)) []) pars, t], if e = 0 then (if shapedT (.mk 5 0 [apT (.mk 6 (((fldsT l c)[i]?).getD (-1)) []) pars, t]) = true then 0 else 2) else e) := by
    refine Evt.pure (gidx_ent h0 h1) (Evt.pure (gidx_ent r3 r4) (Evt.pure (fld_get hi) (Evt.bind (a := .mk 6 (((fldsT l c)[i]?).getD (-1)) []) (Evt.mk fun _ => rfl) ((ev_Apply _ pars (by omega)).bind ((ev_App _ t).bind ?_)))))
    by_cases he : e = 0
    · refine Evt.ifT (by simp [he]) ((ev_Shaped _ (ok_mk2 (apT_ok _ _ (leaf_ok _ _) hop) (shaped_ok hs))).bind ?_)
      by_cases h2 : shapedT (.mk 5 0 [apT (.mk 6 (((fldsT l c)[i]?).getD (-1)) []) pars, t]) = true
      · exact Evt.ifT h2 (Evt.ret.eq (by simp [h2, he]))
      · exact Evt.ifF (by simpa using h2) (Evt.ret.eq (by simp [h2, he]))
    · exact Evt.ifF (by simp [he]) (Evt.ret.eq (by simp [he]))
  simp only [e313]
  refine (ev_record l hE t hs L U e).bind ?_
  by_cases h : isRec l t
  · have r : recX l t = ((hdT t).n, arT t, true) := if_pos h
    rw [r]
    refine Evt.ifT rfl ?_
    by_cases h2 : (hdT t).n = c
    · have hpc : partC l t c i pars = (nth (arT t) ((pars.length + i : Nat) : Int), 0) := if_pos ⟨h, h2⟩
      rw [hpc]
      have hal : (arT t).length = pisT (ent l c).type := by rw [← h2]; exact h.1.2
      refine Evt.ifT (by simp [h2]) ?_
      rw [w64_id (x := (pars.length : Int) + i) (by omega) (by omega), show (pars.length : Int) + (i : Int) = ((pars.length + i : Nat) : Int) by omega]
      refine Evt.pure (gidx_nth (by omega) (by show _ < ((arT t).length : Int); omega)) (Evt.ret.eq ?_)
      by_cases he : e = 0
      · simp [he]
      · simp [he]
    · have hpc : partC l t c i pars = (.mk 5 0 [apT (.mk 6 (((fldsT l c)[i]?).getD (-1)) []) pars, t], if shapedT (.mk 5 0 [apT (.mk 6 (((fldsT l c)[i]?).getD (-1)) []) pars, t]) = true then 0 else 2) := if_neg (fun h' => h2 h'.2)
      rw [hpc]
      exact Evt.ifF (by simpa using h2) tail
  · have r : recX l t = (0, [], false) := if_neg h
    have hpc : partC l t c i pars = (.mk 5 0 [apT (.mk 6 (((fldsT l c)[i]?).getD (-1)) []) pars, t], if shapedT (.mk 5 0 [apT (.mk 6 (((fldsT l c)[i]?).getD (-1)) []) pars, t]) = true then 0 else 2) := if_neg (fun h' => h h'.1)
    rw [r, hpc]
    exact Evt.ifF rfl tail
def er6 (r : Tm × Tm × Bool × Int × Int × Int) : Int := if r.2.2.1 = true then 9 else r.2.2.2.1
theorem er6_8 {r : Tm × Tm × Bool × Int × Int × Int} (h : er6 r = 8) : r.2.2.1 = false ∧ r.2.2.2.1 = 8 := by
  unfold er6 at h
  split at h
  · omega
  · rename_i h1; exact ⟨by simpa using h1, h⟩
def QP (l : List Ent) (x y : Tm) (R : Int → Int → Tm × Tm × Bool × Int × Int × Int) (k : Int) : Prop :=
  (∃ x' k1 y' k2, RightM l x ∧ RightM l y ∧ Br l x x' 0 k1 ∧ Br l y y' 0 k2 ∧ k = k1 + k2 ∧ R = fun L U => (x', y', true, 0, L, U)) ∨
  (∃ a b e, e ≠ 0 ∧ e ≠ 8 ∧ (∀ m b k, ¬ Cv l m x y b k) ∧ R = fun L U => (a, b, false, e, L, U))
theorem out_cbring {N : ByteArray → Bool} (l : List Ent) (hE : AllE N l) (he : ∀ e ∈ l, EOk e) (x : Tm) (ho : x.Ok) (f : Int) (hf : 0 ≤ f) : Ou (fun L U q => e265 q (machT l) l L U 0 x) er4 (QBR l x) (RightM l x ∧ ∀ y e k, Br l x y e k → f < k) f := by
  simp only [e265]
  refine Ou.bind (out_Bring l hE he x ho f hf) id (fun r hr => ⟨_, Evt.ifT rfl Evt.ret, hr⟩) ?_
  rintro R k k0 k1 hQ
  have hQ' := hQ
  rcases hQ with ⟨hR, rfl, rfl⟩ | ⟨hR, y, e, hbr, rfl⟩
  · exact Ou.ifT rfl (Ou.ret (by omega) (by rw [Int.add_zero]; exact hQ'))
  · exact Ou.ifT rfl (Ou.ret (by omega) (by rw [Int.add_zero]; exact hQ'))
theorem out_pair {N : ByteArray → Bool} (l : List Ent) (hE : AllE N l) (he : ∀ e ∈ l, EOk e) (x y : Tm) (hx : x.Ok) (hy : y.Ok) (f : Int) (hf : 0 ≤ f) : Ou (fun L U q => e198 q (machT l) l L U 0 x y) er6 (QP l x y) (∀ m b k, Cv l m x y b k → f < k) f := by
  simp only [e198]
  refine Ou.ifF rfl (Ou.bind (out_cbring l hE he x hx f hf) (fun h m b k hc => ?_) (fun r hr => ?_) ?_)
  · obtain ⟨-, -, x', k1, y', k2, k3, h1, h2, h3, rfl⟩ := hc.inv
    have := h.2 _ _ _ h1
    have := h2.nn
    have := h3.nn (fun _ _ _ _ _ h => Cv.nn h)
    omega
  · refine ⟨_, Evt.ifT (by show (r.2.1 != 0) = true; rw [show r.2.1 = 8 from hr]; decide) Evt.ret, ?_⟩
    unfold er6
    rw [if_neg (by simp)]; exact hr
  · rintro R k k0 k1 (⟨hR, rfl, rfl⟩ | ⟨hR, x', e, hbr, rfl⟩)
    · exact Ou.ifT rfl (Ou.ret (by omega) (.inr ⟨_, _, 5, by decide, by decide, fun m b k hc => hR hc.inv.1, rfl⟩))
    · dsimp only
      by_cases e0 : e = 0
      · subst e0
        rw [if_pos rfl]
        refine Ou.ifF rfl (Ou.bind (out_cbring l hE he y hy (f - k) (by omega)) (fun h m b k' hc => ?_) (fun r hr => ⟨_, Evt.ret, ?_⟩) ?_)
        · obtain ⟨-, -, x1, k1, y', k2, k3, h1, h2, h3, rfl⟩ := hc.inv
          obtain ⟨-, -, rfl⟩ := hbr.det h1
          have := h.2 _ _ _ h2
          have := h3.nn (fun _ _ _ _ _ h => Cv.nn h)
          omega
        · have hr' : r.2.1 = 8 := hr
          unfold er6
          dsimp only
          rw [hr', if_neg (by decide)]
        · rintro R n n0 n1 (⟨hR2, rfl, rfl⟩ | ⟨hR2, y', e, hbr2, rfl⟩)
          · exact Ou.ret (by omega) (.inr ⟨x', zT, 5, by decide, by decide, fun m b k hc => hR2 hc.inv.2.1, rfl⟩)
          · by_cases e1 : e = 0
            · subst e1
              exact Ou.ret (by omega) (.inl ⟨x', k, y', n, hR, hR2, hbr, hbr2, by omega, by funext L U; simp⟩)
            · refine Ou.ret (by omega) (.inr ⟨x', zT, e, e1, hbr2.e8 hE hR2.shaped, fun m b k' hc => ?_, by simp [e1, show (e == 0) = false by simpa using e1]⟩)
              obtain ⟨-, -, x1, k1, y1, k2, k3, h1, h2, h3, -⟩ := hc.inv
              exact e1 (hbr2.det h2).2.1.symm
      · rw [if_neg e0]
        refine Ou.ifT (by simpa using e0) (Ou.ret (by omega) (.inr ⟨zT, y, e, e0, hbr.e8 hE hR.shaped, fun m b k' hc => ?_, rfl⟩))
        obtain ⟨-, -, x1, k1, y1, k2, k3, h1, -⟩ := hc.inv
        exact e0 (hbr.det h1).2.1.symm
def BC (l : List Ent) (f : Int) (W : Nat) : Prop := ∀ m p q, p.Ok → q.Ok → wtT l p + wtT l q < W → ∀ g, 0 ≤ g → g ≤ f → m = false → HC l m p q g
theorem BC.le {l : List Ent} {f g : Int} {W : Nat} (h : BC l f W) (hg : g ≤ f) : BC l g W := fun m p q a b c d e k => h m p q a b c d e (by omega)
theorem HX.imp {g g' : Int → Int → Nat → Option (Bool × Int × Int × Int)} {X : Bool → Int → Prop} {f : Int} (h : HX g X f) (k : ∀ L U r, Evt (g L U) r → Evt (g' L U) r) : HX g' X f := Ou.imp h k
theorem HX.same {g : Int → Int → Nat → Option (Bool × Int × Int × Int)} {X : Bool → Int → Prop} {f : Int} (h : HX g X f) : HX (fun L U q => g L U q >>= fun r => some (r.1, r.2.1, r.2.2.1, r.2.2.2)) X f := h.imp fun L U r h => h.bind Evt.ret
theorem out_spL (l : List Ent) (x y : Tm × List Tm) (W : Nat) (hl : x.2.length ≤ 8192) (hxy : y.2.length = x.2.length) (hox : OkA x.2) (hoy : OkA y.2) (hw : ∀ a ∈ x.2, ∀ b ∈ y.2, wtT l a + wtT l b < W) : ∀ (r s : List Tm) (v : Nat) (f : Int), x.2.drop v = r → y.2.drop v = s → 0 ≤ f → BC l f W →
    HX (fun L U q => e269va22461L17401 q l l (evA l l.length 0) (l.map argsT) (l.map ownT) l x y (v : Int) 0 L U) (AllC (Cv l false) (argP r s)) f
  | [], s, v, f, hd, hs, hf, hB => by
    refine Ou.succ ?_
    simp only [e269va22461L17401]
    have e : argP [] s = [] := by cases s <;> rfl
    rw [e]
    exact Ou.ifF (drop_nil hd) (out_nil hf)
  | a :: r, [], v, f, hd, hs, hf, hB => by
    have hlt := drop_lt hd
    have : y.2.length ≤ v := List.drop_eq_nil_iff.1 hs
    omega
  | a :: r, b :: s, v, f, hd, hs, hf, hB => by
    have hlt := drop_lt hd
    have hma : a ∈ x.2 := by
      have : a ∈ x.2.drop v := by rw [hd]; simp
      exact List.mem_of_mem_drop this
    have hmb : b ∈ y.2 := by
      have : b ∈ y.2.drop v := by rw [hs]; simp
      exact List.mem_of_mem_drop this
    refine Ou.succ ?_
    simp only [e269va22461L17401]
    refine Ou.ifT (drop_dec hd) (Ou.pure (drop_idx hd) (Ou.pure (drop_idx hs) ?_))
    rw [w64_nat v (by omega)]
    exact out_cons (c := fun e L U q => e269va22461L17401 q l l (evA l l.length 0) (l.map argsT) (l.map ownT) l x y ((v + 1 : Nat) : Int) e L U) (out_plain (hB false a b (hox a hma) (hoy b hmb) (hw a hma b hmb) f hf (Int.le_refl f) rfl))
      fun k k0 k1 => out_spL l x y W hl hxy hox hoy hw r s (v + 1) (f - k) (drop_next hd) (drop_next hs) (by omega) (hB.le (by omega))
theorem ans_ret {l : List Ent} {m b : Bool} {f : Int} (hf : 0 ≤ f) : HX (fun L U _ => some (b, 0, L, U)) (HdR (Cv l) m (.ans b)) f := Ou.ret hf (qx_ok ⟨rfl, rfl⟩)
theorem out_spines (l : List Ent) (m : Bool) (x y : Tm) (hsx : shapedT x = true) (hsy : shapedT y = true) (f : Int) (hf : 0 ≤ f) (hB : BC l f (wtT l x + wtT l y)) : HX (fun L U q => e269va22461 q l l (evA l l.length 0) (l.map argsT) (l.map ownT) l L U 0 x y) (HdR (Cv l) m (spnC x y)) f := by
  have hgx := (shapedT_spec hsx).2.2
  have hgy := (shapedT_spec hsy).2.2
  have hgh := (shapedT_spec (hd_shaped hsx)).2.2
  have hgk := (shapedT_spec (hd_shaped hsy)).2.2
  have hox : OkA (arT x) := fun a ha => shaped_ok (ar_shaped hsx ha)
  have hoy : OkA (arT y) := fun a ha => shaped_ok (ar_shaped hsy ha)
  have hlx : (arT x).length ≤ 8192 := by
    have h := shapedT_spec hsx
    have := ar_len _ h.2.2
    omega
  have hwx := wt_spine l x hgx
  have hwy := wt_spine l y hgy
  have hph := wt_pos l (hdT x)
  have hpk := wt_pos l (hdT y)
  have hw : ∀ a ∈ arT x, ∀ b ∈ arT y, wtT l a + wtT l b < wtT l x + wtT l y := fun a ha b hb => by
    have := wt_mem l ha
    have := wt_mem l hb
    omega
  refine Ou.succ ?_
  simp only [e269va22461]
  refine Ou.evt (ev_Spine x hsx) (Ou.evt (ev_Spine y hsy) ?_)
  dsimp only
  by_cases c1 : (hdT x).k = (hdT y).k
  · refine Ou.ifF (by simp [c1]) ?_
    by_cases c2 : (hdT x).n = (hdT y).n
    · refine Ou.ifF (by simp [c2]) ?_
      by_cases c3 : (arT x).length = (arT y).length
      · refine Ou.ifF (by simp [c3]) ?_
        have loop : ∀ g, 0 ≤ g → g ≤ f → HX (fun L U q => e269va22461L17401 q l l (evA l l.length 0) (l.map argsT) (l.map ownT) l (hdT x, arT x) (hdT y, arT y) 0 0 L U) (AllC (Cv l false) (argP (arT x) (arT y))) g := fun g g0 g1 => out_spL l (hdT x, arT x) (hdT y, arT y) _ hlx c3.symm hox hoy hw (arT x) (arT y) 0 g rfl rfl g0 (hB.le g1)
        by_cases c4 : (hdT x).k = 7
        · obtain ⟨s, hs⟩ : ∃ s, (hdT x).sub = [s] := by
            revert hgh c4
            generalize hdT x = w
            intro hg h7
            obtain ⟨kk, nn, ss⟩ := w
            obtain ⟨s, hs, -⟩ := (head_spec (goodT_mk hg).1).2.2.2.2.2.2.1 h7
            exact ⟨s, hs⟩
          obtain ⟨s', hs'⟩ : ∃ s, (hdT y).sub = [s] := by
            have c4' : (hdT y).k = 7 := by omega
            revert hgk c4'
            generalize hdT y = w
            intro hg h7
            obtain ⟨kk, nn, ss⟩ := w
            obtain ⟨s, hs, -⟩ := (head_spec (goodT_mk hg).1).2.2.2.2.2.2.1 h7
            exact ⟨s, hs⟩
          refine Ou.ifT (by simp [c4]) (Ou.pure (gidx_nth (by omega) (by rw [hs]; simp)) (Ou.pure (gidx_nth (by omega) (by rw [hs']; simp)) ?_))
          by_cases c5 : (nth (hdT x).sub 0).n = (nth (hdT y).sub 0).n
          · refine Ou.ifF (by simp [c5]) (Ou.ifF (by simp [c4]) ?_)
            have e : spnC x y = .all (argP (arT x) (arT y)) := by
              unfold spnC spnP
              rw [if_neg (by omega), if_neg (by omega), List.nil_append]
            rw [e]
            exact loop f hf (Int.le_refl f)
          · refine Ou.ifT (by simpa using c5) ?_
            have e : spnC x y = .ans false := by unfold spnC; rw [if_pos (.inr (.inr (.inr ⟨c4, c5⟩)))]
            rw [e]; exact ans_ret hf
        · refine Ou.ifF (by simpa using c4) ?_
          by_cases c5 : (hdT x).k = 3
          · have c5' : (hdT y).k = 3 := by omega
            obtain ⟨a, b, hab, hga, hgb⟩ := nth_sub2 hgh (.inl c5)
            obtain ⟨a', b', hab', hga', hgb'⟩ := nth_sub2 hgk (.inl c5')
            have ea : nth (hdT x).sub 0 = a := by rw [hab]; rfl
            have eb : nth (hdT x).sub 1 = b := by rw [hab]; rfl
            have ea' : nth (hdT y).sub 0 = a' := by rw [hab']; rfl
            have eb' : nth (hdT y).sub 1 = b' := by rw [hab']; rfl
            have e : spnC x y = .all (((a, 0), (a', 0)) :: ((b, 0), (b', 0)) :: argP (arT x) (arT y)) := by
              unfold spnC spnP
              rw [if_neg (by omega), if_pos c5, ea, eb, ea', eb']; rfl
            have w1 := wt_sub l (hdT x)
            have w2 := wt_sub l (hdT y)
            rw [hab, wtL, wtL, wtL] at w1
            rw [hab', wtL, wtL, wtL] at w2
            have v1 := (nw_pos l (hdT x).k (hdT x).n).1
            have v2 := (nw_pos l (hdT y).k (hdT y).n).1
            rw [e]
            refine Ou.ifT (by simp [c5]) (Ou.pure (a := a) (by rw [hab]; rfl) (Ou.pure (a := a') (by rw [hab']; rfl) ?_))
            refine out_cons (c := fun e L U q => gidx (hdT x).sub 1 >>= fun x33 => gidx (hdT y).sub 1 >>= fun x35 => e135va22461 q l l (evA l l.length 0) (l.map argsT) (l.map ownT) l L U e x33 x35 >>= fun r37 => if r37.1 = true then e269va22461L17401 q l l (evA l l.length 0) (l.map argsT) (l.map ownT) l (hdT x, arT x) (hdT y, arT y) 0 r37.2.1 r37.2.2.1 r37.2.2.2 else some (false, r37.2.1, r37.2.2.1, r37.2.2.2)) (out_plain (hB false a a' (good_ok a hga) (good_ok a' hga') (by omega) f hf (Int.le_refl f) rfl)) fun k k0 k1 => ?_
            refine Ou.pure (a := b) (by rw [hab]; rfl) (Ou.pure (a := b') (by rw [hab']; rfl) ?_)
            exact out_cons (c := fun e L U q => e269va22461L17401 q l l (evA l l.length 0) (l.map argsT) (l.map ownT) l (hdT x, arT x) (hdT y, arT y) 0 e L U) (out_plain (hB false b b' (good_ok b hgb) (good_ok b' hgb') (by omega) (f - k) (by omega) (by omega) rfl)) fun k' k0' k1' => loop (f - k - k') (by omega) (by omega)
          · refine Ou.ifF (by simpa using c5) ?_
            have e : spnC x y = .all (argP (arT x) (arT y)) := by
              unfold spnC spnP
              rw [if_neg (by omega), if_neg c5, List.nil_append]
            rw [e]
            exact loop f hf (Int.le_refl f)
      · refine Ou.ifT (by simp; omega) ?_
        have e : spnC x y = .ans false := by unfold spnC; rw [if_pos (.inr (.inr (.inl c3)))]
        rw [e]; exact ans_ret hf
    · refine Ou.ifT (by simpa using c2) ?_
      have e : spnC x y = .ans false := by unfold spnC; rw [if_pos (.inr (.inl c2))]
      rw [e]; exact ans_ret hf
  · refine Ou.ifT (by simpa using c1) ?_
    have e : spnC x y = .ans false := by unfold spnC; rw [if_pos (.inl c1)]
    rw [e]; exact ans_ret hf
theorem out_fldL {N : ByteArray → Bool} (l : List Ent) (hE : AllE N l) (x y : Tm) (c : Int) (pars : List Tm) (W : Nat) (hsx : shapedT x = true) (hsy : shapedT y = true) (h0 : 0 ≤ c) (h1 : c < l.length) (hk : (ent l c).kind = 2) (hp : (pars.length : Int) = (ent l c).pars) (hop : OkA pars)
    (hw : ∀ i, i < (fldsT l c).length → wtT l (partC l x c i pars).1 + wtT l (partC l y c i pars).1 < W) : ∀ (m i : Nat) (f : Int), i + m = (fldsT l c).length → 0 ≤ f → BC l f W →
    HX (fun L U q => e268va27343L45303 q l l (evA l l.length 0) (l.map argsT) (l.map ownT) l x y c pars (ent l (ent l c).fam) (i : Int) 0 L U) (AllC (Cv l false) (fldP l x y c pars m i)) f
  | 0, i, f, hm, hf, hB => by
    refine Ou.succ ?_
    simp only [e268va27343L45303]
    have hm' : i = (ent l (ent l c).fam).fields.length := hm
    exact Ou.ifF (decide_eq_false (by omega)) (out_nil hf)
  | m + 1, i, f, hm, hf, hB => by
    have hi : i < (fldsT l c).length := by omega
    have hne : fldsT l c ≠ [] := fun h => by rw [h] at hi; simp at hi
    have hlen : (fldsT l c).length ≤ 24 := by
      have r := rec_facts hE h0 h1 hk hne
      obtain ⟨A, z, a1, -, -, a4, a5, a6, a7, -⟩ := con_facts hE h0 h1 hk
      omega
    refine Ou.succ ?_
    simp only [e268va27343L45303]
    refine Ou.ifT (decide_eq_true (by show (i : Int) < ((fldsT l c).length : Int); omega)) ?_
    have e1 := fun L U => ev_part l hE x hsx L U 0 c i pars h0 h1 hk hi hp hop
    have e2 := fun L U => ev_part l hE y hsy L U (partC l x c i pars).2 c i pars h0 h1 hk hi hp hop
    refine HX.imp (g := fun L U q => runC l false L U (if (partC l x c i pars).2 = 0 then (partC l y c i pars).2 else (partC l x c i pars).2) q (partC l x c i pars).1 (partC l y c i pars).1 >>= fun r10 => if r10.1 = true then e268va27343L45303 q l l (evA l l.length 0) (l.map argsT) (l.map ownT) l x y c pars (ent l (ent l c).fam) ((i + 1 : Nat) : Int) r10.2.1 r10.2.2.1 r10.2.2.2 else some (false, r10.2.1, r10.2.2.1, r10.2.2.2)) ?_ fun L U r h => ?_
    · exact out_cons (c := fun e L U q => e268va27343L45303 q l l (evA l l.length 0) (l.map argsT) (l.map ownT) l x y c pars (ent l (ent l c).fam) ((i + 1 : Nat) : Int) e L U)
        (out_one (p := partC l x c i pars) (q := partC l y c i pars) hf ⟨partC_e8 _ _ _ _ _, partC_e8 _ _ _ _ _⟩ fun _ _ => hB false _ _ (partC_ok hsx hop) (partC_ok hsy hop) (hw i hi) f hf (Int.le_refl f) rfl)
        fun k k0 k1 => out_fldL l hE x y c pars W hsx hsy h0 h1 hk hp hop hw m (i + 1) (f - k) (by omega) (by omega) (hB.le (by omega))
    · have a1 := e1 L U
      rw [if_pos rfl] at a1
      rw [w64_nat i (by omega)]
      exact a1.bind ((e2 L U).bind h)
theorem out_pi {l : List Ent} {m : Bool} {a a' c1 c1' : Tm} {f : Int} {g : Int → Int → Nat → Option (Bool × Int × Int × Int)} {c : Int → Int → Int → Nat → Option (Bool × Int × Int × Int)}
    (h1 : HX g (Cv l false a a') f) (hc : ∀ k, 0 ≤ k → k ≤ f → HX (fun L U q => c 0 L U q) (Cv l m c1 c1') (f - k)) :
    HX (fun L U q => g L U q >>= fun r30 => if r30.1 = true then c r30.2.1 r30.2.2.1 r30.2.2.2 q else some (false, r30.2.1, r30.2.2.1, r30.2.2.2)) (HdR (Cv l) m (.pi a a' c1 c1')) f := by
  refine Ou.bind h1 (fun h b k ha => ?_) (fun r hr => ?_) ?_
  · obtain ⟨b1, k1, a3, a4⟩ := ha
    have := h b1 k1 a3
    rcases a4 with ⟨-, -, a4⟩ | ⟨-, k2, a4, a5⟩
    · omega
    · have := a4.nn; omega
  · have := er4b_8 hr
    refine ⟨_, Evt.ifF this.1 Evt.ret, ?_⟩
    unfold er4b
    rw [if_neg (by simp)]; exact this.2
  · rintro R k k0 k1 ⟨b1, e1, h8, h0, hn, rfl⟩
    dsimp only
    by_cases e0 : e1 = 0
    · subst e0
      have a3 := h0 rfl
      cases b1 with
      | false => exact Ou.ifF rfl (Ou.ret (by omega) (qx_ok ⟨false, k, a3, .inl ⟨rfl, rfl, by omega⟩⟩))
      | true =>
        refine Ou.ifT rfl ((hc k k0 k1).mono ?_ fun h b k' ha => ?_)
        · rintro R n _ _ ⟨b, e, g8, g0, gn, rfl⟩
          refine ⟨b, e, g8, fun he => ⟨true, k, a3, .inr ⟨rfl, n, g0 he, rfl⟩⟩, fun he => ⟨(gn he).1, fun b' k' ha => ?_⟩, rfl⟩
          obtain ⟨b1, k1, a4, a5⟩ := ha
          obtain ⟨rfl, rfl⟩ := a3.det a4
          rcases a5 with ⟨a5, -⟩ | ⟨-, k2, a5, -⟩
          · cases a5
          · exact (gn he).2 _ _ a5
        · obtain ⟨b1, k1, a4, a5⟩ := ha
          obtain ⟨rfl, rfl⟩ := a3.det a4
          rcases a5 with ⟨a5, -⟩ | ⟨-, k2, a5, a6⟩
          · cases a5
          · have := h _ _ a5; omega
    · obtain ⟨rfl, hno⟩ := hn e0
      refine Ou.ifF rfl (Ou.ret (by omega) (qx_bad h8 e0 fun b k ha => ?_))
      obtain ⟨b1, k1, a3, -⟩ := ha
      exact hno b1 k1 a3
theorem opn_wt (l : List Ent) {x y : Tm} (hgx : goodT x = true) (hgy : goodT y = true) (hp : (opnT x).2 = 0) (hq : (opnT y).2 = 0) (h : x.k = 4 ∨ y.k = 4) : wtT l (opnT x).1 + wtT l (opnT y).1 < wtT l x + wtT l y := by
  have lam : ∀ t : Tm, goodT t = true → t.k = 4 → wtT l (opnT t).1 + 4 ≤ wtT l t := fun t hg h4 => by
    obtain ⟨a, b, hab, -, -⟩ := nth_sub2 hg (.inr (.inl h4))
    rw [opn4 h4, hab]
    have w := wt_sub l t
    rw [hab, wtL, wtL, wtL] at w
    have e : nwT l t.k t.n = 3 := by unfold nwT; rw [if_pos h4]
    have := wt_pos l a
    show wtT l b + 4 ≤ _
    omega
  have oth : ∀ t : Tm, (opnT t).2 = 0 → t.k ≠ 4 → wtT l (opnT t).1 ≤ wtT l t + 2 := fun t h0 h4 => by
    rw [opnN h4] at h0 ⊢
    have h1 : (liftT t 1 0).2 = 0 := by
      by_cases h1 : (liftT t 1 0).2 = 0
      · exact h1
      · rw [if_neg h1] at h0; exact h0
    rw [(liftT_id h1).2.2.2.2, wtT, wtL, wtL, wtL, wtT, wtL]
    have e1 : nwT l 5 0 = 1 := by unfold nwT; simp
    have e2 : nwT l 1 0 = 1 := by unfold nwT; simp
    have := wt_lf l t 0 0 1
    omega
  by_cases h1 : x.k = 4
  · have a := lam x hgx h1
    by_cases h2 : y.k = 4
    · have b := lam y hgy h2; omega
    · have b := oth y hq h2; omega
  · have a := oth x hp h1
    have b := lam y hgy (h.resolve_left h1)
    omega
theorem fld_wt {N : ByteArray → Bool} {l : List Ent} (hE : AllE N l) {x y : Tm} (hsx : shapedT x = true) (hsy : shapedT y = true) {c : Int} {pars : List Tm} (h0 : 0 ≤ c) (h1 : c < l.length) (hk : (ent l c).kind = 2) {i : Nat} (hi : i < (fldsT l c).length)
    (h : (isRec l x ∧ (hdT x).n = c ∧ pars = prsT l x ∧ (isRec l y → (hdT y).n = c)) ∨ (¬ isRec l x ∧ isRec l y ∧ (hdT y).n = c ∧ pars = prsT l y)) : wtT l (partC l x c i pars).1 + wtT l (partC l y c i pars).1 < wtT l x + wtT l y := by
  have hne : fldsT l c ≠ [] := fun h => by rw [h] at hi; simp at hi
  obtain ⟨r1, r2, r3, r4, r5⟩ := rec_facts hE h0 h1 hk hne
  have con : ∀ t : Tm, shapedT t = true → isRec l t → (hdT t).n = c → pars.length = (ent l c).pars.toNat → wtT l (partC l t c i pars).1 + wtL l (prsT l t) + (ent l c).pars.toNat + 3 ≤ wtT l t := fun t hs hr hn hl => by
    have e : partC l t c i pars = (nth (arT t) ((pars.length + i : Nat) : Int), 0) := if_pos ⟨hr, hn⟩
    rw [e]
    show wtT l (nth (arT t) ((pars.length + i : Nat) : Int)) + wtL l (prsT l t) + (ent l c).pars.toNat + 3 ≤ wtT l t
    have hlen : (arT t).length = pisT (ent l c).type := by rw [← hn]; exact hr.1.2
    have hk6 := (kindT_spec hr.1.1 (by decide)).1
    have hw := wt_spine l t (shapedT_spec hs).2.2
    have hh := wt_sub l (hdT t)
    have e2 : nwT l (hdT t).k (hdT t).n = 2 := by unfold nwT; rw [if_neg (by omega), if_pos ⟨hk6, by rw [hn]; exact hk⟩]
    have hsplit : arT t = (arT t).take (ent l c).pars.toNat ++ (arT t).drop (ent l c).pars.toNat := (List.take_append_drop _ _).symm
    have hwl : wtL l (arT t) = wtL l (prsT l t) + wtL l ((arT t).drop (ent l c).pars.toNat) := by
      have : prsT l t = (arT t).take (ent l c).pars.toNat := by unfold prsT; rw [hn]
      rw [this, ← wtL_app, List.take_append_drop]
    have hm : nth (arT t) ((pars.length + i : Nat) : Int) ∈ (arT t).drop (ent l c).pars.toNat := by
      unfold nth
      have hlt : pars.length + i < (arT t).length := by omega
      rw [show (((pars.length + i : Nat) : Int)).toNat = pars.length + i by omega, List.getElem?_eq_getElem hlt]
      show (arT t)[pars.length + i] ∈ _
      have : (arT t)[pars.length + i] = ((arT t).drop (ent l c).pars.toNat)[i]'(by simp; omega) := by
        rw [List.getElem_drop]
        congr 1
        omega
      rw [this]
      exact List.getElem_mem _
    have := wt_mem l hm
    have : (arT t).length ≥ (ent l c).pars.toNat + 1 := by omega
    have hnn : 0 ≤ wtL l (hdT t).sub := Nat.zero_le _
    omega
  have oth : ∀ t : Tm, ¬ (isRec l t ∧ (hdT t).n = c) → wtT l (partC l t c i pars).1 = 2 + wtL l pars + pars.length + wtT l t := fun t hr => by
    have e : partC l t c i pars = (.mk 5 0 [apT (.mk 6 (((fldsT l c)[i]?).getD (-1)) []) pars, t], if shapedT (.mk 5 0 [apT (.mk 6 (((fldsT l c)[i]?).getD (-1)) []) pars, t]) = true then 0 else 2) := if_neg hr
    rw [e]
    have hfk : (ent l (((fldsT l c)[i]?).getD (-1))).kind = 4 := by
      rw [List.getElem?_eq_getElem hi]
      exact (isT_spec (r5 _ (List.getElem_mem hi))).2.2
    have e1 : nwT l 5 0 = 1 := by unfold nwT; simp
    have e2 : nwT l 6 (((fldsT l c)[i]?).getD (-1)) = 1 := by unfold nwT; rw [if_neg (by decide), if_neg (by omega)]
    show wtT l (.mk 5 0 [apT (.mk 6 (((fldsT l c)[i]?).getD (-1)) []) pars, t]) = _
    rw [wtT, wtL, wtL, wtL, wt_ap, wtT, wtL, e1, e2]
    omega
  have plen : ∀ t : Tm, shapedT t = true → isRec l t → (hdT t).n = c → (prsT l t).length = (ent l c).pars.toNat := fun t hs hr hn => by
    have hlen : (arT t).length = pisT (ent l c).type := by rw [← hn]; exact hr.1.2
    unfold prsT
    rw [hn, List.length_take]
    omega
  rcases h with ⟨hx, hn, hp, hy⟩ | ⟨hx, hy, hn, hp⟩
  · have hl := plen x hsx hx hn
    rw [← hp] at hl
    have a := con x hsx hx hn hl
    rw [← hp] at a
    by_cases ry : isRec l y
    · have b := con y hsy ry (hy ry) hl
      omega
    · have b := oth y (fun h => ry h.1)
      omega
  · have hl := plen y hsy hy hn
    rw [← hp] at hl
    have a := con y hsy hy hn hl
    rw [← hp] at a
    have b := oth x (fun h => hx h.1)
    omega
theorem out_headsF {N : ByteArray → Bool} (l : List Ent) (hE : AllE N l) (x y : Tm) (hsx : shapedT x = true) (hsy : shapedT y = true) (f : Int) (hf : 0 ≤ f) (hB : BC l f (wtT l x + wtT l y)) : HX (fun L U q => runH l false L U 0 q x y) (HdR (Cv l) false (headC l false x y)) f := by
  have hgx := (shapedT_spec hsx).2.2
  have hgy := (shapedT_spec hsy).2.2
  refine Ou.succ ?_
  simp only [runH, e199va26991]
  have lamC : x.k = 4 ∨ y.k = 4 → HX (fun L U q => e266 q (Mach.mk l l (evA l l.length 0) (l.map argsT) (l.map ownT)) l L U 0 x >>= fun r2 => e266 q (Mach.mk l l (evA l l.length 0) (l.map argsT) (l.map ownT)) l L U r2.2 y >>= fun r4 => e135va22461 q l l (evA l l.length 0) (l.map argsT) (l.map ownT) l L U r4.2 r2.1 r4.1 >>= fun r6 => some (r6.1, r6.2.1, r6.2.2.1, r6.2.2.2)) (HdR (Cv l) false (headC l false x y)) f := fun h => by
    have e : headC l false x y = .all [(opnT x, opnT y)] := if_pos h
    rw [e]
    refine HX.imp (g := fun L U q => runC l false L U (if (opnT x).2 = 0 then (opnT y).2 else (opnT x).2) q (opnT x).1 (opnT y).1 >>= fun r6 => some (r6.1, r6.2.1, r6.2.2.1, r6.2.2.2)) ?_ fun L U r h => ?_
    · refine HX.same (out_one (p := opnT x) (q := opnT y) hf ⟨opnT_e8 x, opnT_e8 y⟩ fun hp hq => hB false _ _ (opnT_ok hsx) (opnT_ok hsy) ?_ f hf (Int.le_refl f) rfl)
      exact opn_wt l hgx hgy hp hq h
    · have a1 := ev_opened (machT l) l x hsx L U 0
      have a2 := ev_opened (machT l) l y hsy L U (opnT x).2
      rw [if_pos rfl] at a1
      exact a1.bind (a2.bind h)
  refine Ou.ite (fun h => lamC (.inl (by simpa using h))) fun h4 => Ou.ite (fun h => lamC (.inr (by simpa using h))) fun h4' => ?_
  have n4 : ¬ (x.k = 4 ∨ y.k = 4) := by
    have a : x.k ≠ 4 := by simpa using h4
    have b : y.k ≠ 4 := by simpa using h4'
    omega
  have flds : ∀ (c : Int) (pars : List Tm), (isRec l x ∧ (hdT x).n = c ∧ pars = prsT l x ∧ (isRec l y → (hdT y).n = c)) ∨ (¬ isRec l x ∧ isRec l y ∧ (hdT y).n = c ∧ pars = prsT l y) → ∀ cs : List Tm, gsl cs 0 (ent l c).pars = some pars →
      HX (fun L U q => gidx l c >>= fun x22 => gsl cs 0 x22.pars >>= fun x24 => e268va27343 q l l (evA l l.length 0) (l.map argsT) (l.map ownT) l L U 0 x y c x24 >>= fun r26 => some (r26.1, r26.2.1, r26.2.2.1, r26.2.2.2)) (AllC (Cv l false) (fldP l x y c pars (fldsT l c).length 0)) f := fun c pars h cs hcs => by
    have hc : ∃ t, (t = x ∨ t = y) ∧ shapedT t = true ∧ isRec l t ∧ (hdT t).n = c ∧ pars = prsT l t := by
      rcases h with h | h
      · exact ⟨x, .inl rfl, hsx, h.1, h.2.1, h.2.2.1⟩
      · exact ⟨y, .inr rfl, hsy, h.2.1, h.2.2.1, h.2.2.2⟩
    obtain ⟨t, -, hst, hrt, hnt, hpt⟩ := hc
    have hcs' := isCon_spec hst hrt.1
    rw [hnt] at hcs'
    have hf0 := hrt.2
    rw [hnt] at hf0
    have rf := rec_facts hE hcs'.1 hcs'.2.1 hcs'.2.2.1 hf0
    have hop : OkA pars := by rw [hpt]; exact OkA.take (fun a ha => shaped_ok (ar_shaped hst ha)) _
    have hpl : (pars.length : Int) = (ent l c).pars := by
      rw [hpt]; unfold prsT
      rw [hnt, List.length_take]
      omega
    refine Ou.pure (gidx_ent hcs'.1 hcs'.2.1) (Ou.pure hcs (HX.same (Ou.succ ?_)))
    simp only [e268va27343]
    refine Ou.pure (gidx_ent hcs'.1 hcs'.2.1) (Ou.pure (gidx_ent rf.2.2.1 rf.2.2.2.1) ?_)
    exact out_fldL l hE x y c pars _ hsx hsy hcs'.1 hcs'.2.1 hcs'.2.2.1 hpl hop (fun i hi => fld_wt hE hsx hsy hcs'.1 hcs'.2.1 hcs'.2.2.1 hi h) (fldsT l c).length 0 f (by omega) hf hB
  have par_sl : ∀ t, shapedT t = true → isRec l t → gsl (arT t) 0 (ent l (hdT t).n).pars = some (prsT l t) := fun t hst hrt => by
    have hcs' := isCon_spec hst hrt.1
    have rf := rec_facts hE hcs'.1 hcs'.2.1 hcs'.2.2.1 hrt.2
    rw [gsl_mid (by omega) rf.2.1 (by omega)]
    unfold prsT; simp
  refine Ou.evt (ev_record l hE x hsx 0 0 0) ?_
  by_cases rx : isRec l x
  · have ex : recX l x = ((hdT x).n, arT x, true) := if_pos rx
    rw [ex]
    refine Ou.ifT rfl (Ou.evt (ev_record l hE y hsy 0 0 0) ?_)
    by_cases ry : isRec l y
    · have ey : recX l y = ((hdT y).n, arT y, true) := if_pos ry
      rw [ey]
      refine Ou.ifT rfl ?_
      by_cases hn : (hdT x).n = (hdT y).n
      · have e : headC l false x y = .all (fldP l x y (hdT x).n (prsT l x) (fldsT l (hdT x).n).length 0) := by
          unfold headC; rw [if_neg n4, if_pos rx, if_neg (fun h => h.2 hn)]
        rw [e]
        exact Ou.ifF (by simp [hn]) (flds _ _ (.inl ⟨rx, rfl, rfl, fun _ => hn.symm⟩) (arT x) (par_sl x hsx rx))
      · have e : headC l false x y = .ans false := by
          unfold headC; rw [if_neg n4, if_pos rx, if_pos ⟨ry, hn⟩]
        rw [e]
        exact Ou.ifT (by simpa using hn) (ans_ret hf)
    · have ey : recX l y = (0, [], false) := if_neg ry
      have e : headC l false x y = .all (fldP l x y (hdT x).n (prsT l x) (fldsT l (hdT x).n).length 0) := by
        unfold headC; rw [if_neg n4, if_pos rx, if_neg (fun h => ry h.1)]
      rw [ey, e]
      exact Ou.ifF rfl (flds _ _ (.inl ⟨rx, rfl, rfl, fun h => absurd h ry⟩) (arT x) (par_sl x hsx rx))
  · have ex : recX l x = (0, [], false) := if_neg rx
    rw [ex]
    refine Ou.ifF rfl (Ou.evt (ev_record l hE y hsy 0 0 0) ?_)
    by_cases ry : isRec l y
    · have ey : recX l y = ((hdT y).n, arT y, true) := if_pos ry
      have e : headC l false x y = .all (fldP l x y (hdT y).n (prsT l y) (fldsT l (hdT y).n).length 0) := by
        unfold headC; rw [if_neg n4, if_neg rx, if_pos ry]
      rw [ey, e]
      exact Ou.ifT rfl (flds _ _ (.inr ⟨rx, ry, rfl, rfl⟩) (arT y) (par_sl y hsy ry))
    · have ey : recX l y = (0, [], false) := if_neg ry
      rw [ey]
      refine Ou.ifF rfl ?_
      by_cases hk : x.k = y.k
      · refine Ou.ifF (by simp [hk]) ?_
        by_cases k3 : x.k = 3
        · have e : headC l false x y = .pi (nth x.sub 0) (nth y.sub 0) (nth x.sub 1) (nth y.sub 1) := by
            unfold headC; rw [if_neg n4, if_neg rx, if_neg ry, if_neg (by simpa using hk), if_pos k3]
          obtain ⟨a, b, hab, hga, hgb⟩ := nth_sub2 hgx (.inl k3)
          obtain ⟨a', b', hab', hga', hgb'⟩ := nth_sub2 hgy (.inl (by omega))
          have ea : nth x.sub 0 = a := by rw [hab]; rfl
          have eb : nth x.sub 1 = b := by rw [hab]; rfl
          have ea' : nth y.sub 0 = a' := by rw [hab']; rfl
          have eb' : nth y.sub 1 = b' := by rw [hab']; rfl
          have w1 := wt_sub l x
          have w2 := wt_sub l y
          rw [hab, wtL, wtL, wtL] at w1
          rw [hab', wtL, wtL, wtL] at w2
          have v1 := (nw_pos l x.k x.n).1
          have v2 := (nw_pos l y.k y.n).1
          rw [e, ea, eb, ea', eb']
          refine Ou.ifT (by simp [k3]) (Ou.pure (a := a) (by rw [hab]; rfl) (Ou.pure (a := a') (by rw [hab']; rfl) ?_))
          refine out_pi (c := fun e L U q => gidx x.sub 1 >>= fun x52 => gidx y.sub 1 >>= fun x54 => e135va22461 q l l (evA l l.length 0) (l.map argsT) (l.map ownT) l L U e x52 x54 >>= fun r56 => some (r56.1, r56.2.1, r56.2.2.1, r56.2.2.2)) (hB false a a' (good_ok a hga) (good_ok a' hga') (by omega) f hf (Int.le_refl f) rfl) fun k k0 k1 => ?_
          exact Ou.pure (a := b) (by rw [hab]; rfl) (Ou.pure (a := b') (by rw [hab']; rfl) (HX.same (hB false b b' (good_ok b hgb) (good_ok b' hgb') (by omega) (f - k) (by omega) (by omega) rfl)))
        · refine Ou.ifF (by simpa using k3) ?_
          by_cases k2 : x.k = 2
          · have e : headC l false x y = .ans (if false = true then decide (x.n ≤ y.n) else x.n == y.n) := by
              unfold headC; rw [if_neg n4, if_neg rx, if_neg ry, if_neg (by simpa using hk), if_neg k3, if_pos k2]
            rw [e]
            refine Ou.ifT (by simp [k2]) (Ou.evt (a := if false = true then decide (x.n ≤ y.n) else x.n == y.n) (Evt.mk fun q => ?_) (ans_ret hf))
            simp [e200]
          · have e : headC l false x y = spnC x y := by
              unfold headC; rw [if_neg n4, if_neg rx, if_neg ry, if_neg (by simpa using hk), if_neg k3, if_neg k2]
            rw [e]
            exact Ou.ifF (by simpa using k2) (HX.same (out_spines l false x y hsx hsy f hf hB))
      · have e : headC l false x y = .ans false := by
          unfold headC; rw [if_neg n4, if_neg rx, if_neg ry, if_pos hk]
        rw [e]
        exact Ou.ifT (by simpa using hk) (ans_ret hf)
def e108 (qq:Nat) (M:Mach):Option (Int) :=
 some (List.length M.l:Int)
abbrev K108 (M:Mach) (r:Int) (C:Cf):Prop:=C 108 [mB M 1,mR M] [.mp 0 0] (ai r) [mB M 1,mR M] 0
theorem q108:Qf 108 Tryz.f108:=⟨Tryz.func108,by kernel_rfl⟩
theorem k108 {M r} (h:K108 M r Ci):K108 M r Ct:=⟨h,⟨(lz rfl),tv⟩,(forall_cons ⟨⟨tv,dE _⟩,(lz rfl),⟨tv,dI _⟩,⟨tv,dI _⟩,tv⟩ (forall_cons ⟨⟨tv,dE _⟩,⟨tv,dC _⟩,tv⟩ forall_nil)),tv,(forall_cons ⟨dE _,(lz rfl),dI _,dI _,tv⟩ (forall_cons ⟨dE _,dC _,tv⟩ forall_nil))⟩
theorem c108 {qq M r} (h:e108 qq M = some r):K108 M r Ct:=by
 unfold e108 at h
 obtain rfl:=sj h
 exact k108 (tF q108 3 [0,1] (oD (dC M.parts) <| oD (dE M.rl) <| oD (dI M.own) <| oD (dI M.args) <| oD (dE M.l) o0))
def e134va30903 (qq:Nat) (q0 q1:List Ent) (q2:List Con') (q3 q4:List Int) (q5:List Ent) (q6 q7 q8 q9 q10:Int) (q11:List Tm) (q12 q13:Int) (q14:List Tm):Option (Bool × Int × Int × Int) :=
 e135va22461 qq q0 q1 q2 q3 q4 q5 q6 q7 q8 (Tm.mk q9 q10 q11) (Tm.mk q12 q13 q14) >>= fun r1 =>
 some (r1.1,r1.2.1,r1.2.2.1,r1.2.2.2)
abbrev K134va30903 (q0 q1:List Ent) (q2:List Con') (q3 q4:List Int) (q5:List Ent) (q6 q7 q8 q9 q10:Int) (q11:List Tm) (q12 q13:Int) (q14:List Tm) (r:Bool × Int × Int × Int) (C:Cf):Prop:=C 134 [.cells [.mp 1 0,slv entL q5 .no,.mp 3 0,ai q8],.cells [slv entL q0 .no,.mp 2 0,slv intC q3 .no,slv intC q4 .no],.cells [slv entL q1 .no,slv conL q2 .no],.cells [ai q6,ai q7],.cells [ai q9,ai q10,slv tmCells q11 .no],.cells [ai q12,ai q13,slv tmCells q14 .no]] [.mp 0 0,.mp 4 0,.mp 5 0] (ab r.1) [.cells [.mp 1 0,slv entL q5 .no,.mp 3 0,ai r.2.1],.cells [slv entL q0 .no,.mp 2 0,slv intC q3 .no,slv intC q4 .no],.cells [slv entL q1 .no,slv conL q2 .no],.cells [ai r.2.2.1,ai r.2.2.2],.cells [ai q9,ai q10,slv tmCells q11 .no],.cells [ai q12,ai q13,slv tmCells q14 .no]] 0
theorem q134va30903:Qf 134 Tryz.f134:=⟨Tryz.func134,by kernel_rfl⟩
theorem k134va30903 {q0 q1 q2 q3 q4 q5 q6 q7 q8 q9 q10 q11 q12 q13 q14 r} (h:K134va30903 q0 q1 q2 q3 q4 q5 q6 q7 q8 q9 q10 q11 q12 q13 q14 r Ci):K134va30903 q0 q1 q2 q3 q4 q5 q6 q7 q8 q9 q10 q11 q12 q13 q14 r Ct:=⟨h,⟨(lz rfl),(lz rfl),(lz rfl),tv⟩,(forall_cons ⟨(lz rfl),⟨tv,dE _⟩,(lz rfl),tv,tv⟩ (forall_cons ⟨⟨tv,dE _⟩,(lz rfl),⟨tv,dI _⟩,⟨tv,dI _⟩,tv⟩ (forall_cons ⟨⟨tv,dE _⟩,⟨tv,dC _⟩,tv⟩ (forall_cons ⟨tv,tv,tv⟩ (forall_cons ⟨tv,tv,⟨tv,dT _⟩,tv⟩ (forall_cons ⟨tv,tv,⟨tv,dT _⟩,tv⟩ forall_nil)))))),tv,(forall_cons ⟨(lz rfl),dE _,(lz rfl),tv,tv⟩ (forall_cons ⟨dE _,(lz rfl),dI _,dI _,tv⟩ (forall_cons ⟨dE _,dC _,tv⟩ (forall_cons ⟨tv,tv,tv⟩ (forall_cons ⟨tv,tv,dT _,tv⟩ (forall_cons ⟨tv,tv,dT _,tv⟩ forall_nil))))))⟩
theorem c134va30903 {qq q0 q1 q2 q3 q4 q5 q6 q7 q8 q9 q10 q11 q12 q13 q14 r} (h:e134va30903 qq q0 q1 q2 q3 q4 q5 q6 q7 q8 q9 q10 q11 q12 q13 q14 = some r):K134va30903 q0 q1 q2 q3 q4 q5 q6 q7 q8 q9 q10 q11 q12 q13 q14 r Ct:=by
 unfold e134va30903 at h
 obtain ⟨r1,h2,h⟩:=obind h
 obtain rfl:=sj h
 exact k134va30903 (tF q134va30903 0 [0,1,2,3,4,5] (oD (dT q14) <| oD (dT q11) <| oD (dC q2) <| oD (dE q1) <| oD (dI q4) <| oD (dI q3) <| oD (dE q0) <| oD (dE q5) <| oC 2 [0,1,2,3] (c135va22461 h2) o0))
def e184 (qq:Nat) (M:Mach):Option (List Ent) :=
 e88 qq M.l >>= fun r1 =>
 some r1
abbrev K184 (M:Mach) (r:List Ent) (C:Cf):Prop:=C 184 [mB M 1,mR M] [.mp 0 0] (.sl (flat entL r) (List.length r) .no) [mB M 1,mR M] 0
theorem q184:Qf 184 Tryz.f184:=⟨Tryz.func184,by kernel_rfl⟩
theorem k184 {M r} (h:K184 M r Ci):K184 M r Ct:=⟨h,⟨(lz rfl),tv⟩,(forall_cons ⟨⟨tv,dE _⟩,(lz rfl),⟨tv,dI _⟩,⟨tv,dI _⟩,tv⟩ (forall_cons ⟨⟨tv,dE _⟩,⟨tv,dC _⟩,tv⟩ forall_nil)),dE _,(forall_cons ⟨dE _,(lz rfl),dI _,dI _,tv⟩ (forall_cons ⟨dE _,dC _,tv⟩ forall_nil))⟩
theorem c184 {qq M r} (h:e184 qq M = some r):K184 M r Ct:=by
 unfold e184 at h
 obtain ⟨r1,h2,h⟩:=obind h
 obtain rfl:=sj h
 exact k184 (tF q184 0 [0,1] (oD (dE r1) <| oD (dC M.parts) <| oD (dE M.rl) <| oD (dI M.own) <| oD (dI M.args) <| oD (dE M.l) <| oC 2 [] (c88 h2) o0))
def e133va24069 (qq:Nat) (q0 q1:List Ent) (q2:List Con') (q3 q4:List Int) (p1 p2:Tm) (q7 q8 q9 q10:Int) (q11:List Tm) (q12 q13:Int) (q14:List Tm):Option (Bool × Int × Int × Int) :=
 e108 qq (Mach.mk q0 q1 q2 q3 q4) >>= fun r1 =>
 e107 qq p1 1048577 r1 >>= fun r3 =>
 if r3 then
 e108 qq (Mach.mk q0 q1 q2 q3 q4) >>= fun r6 =>
 e107 qq p2 1048577 r6 >>= fun r8 =>
 if r8 then
 e184 qq (Mach.mk q0 q1 q2 q3 q4) >>= fun r11 =>
 e134va30903 qq q0 q1 q2 q3 q4 r11 q7 q8 0 q9 q10 q11 q12 q13 q14 >>= fun r13 =>
 if r13.1 then
 some ((r13.2.1 == 0),r13.2.1,r13.2.2.1,r13.2.2.2)
 else
 some (false,r13.2.1,r13.2.2.1,r13.2.2.2)
 else
 some (false,5,q7,q8)
 else
 some (false,5,q7,q8)
abbrev K133va24069 (q0 q1:List Ent) (q2:List Con') (q3 q4:List Int) (p1 p2:Tm) (q7 q8 q9 q10:Int) (q11:List Tm) (q12 q13:Int) (q14:List Tm) (r:Bool × Int × Int × Int) (C:Cf):Prop:=C 133 [.cells [slv entL q0 .no,.mp 1 0,slv intC q3 .no,slv intC q4 .no],.cells [slv entL q1 .no,slv conL q2 .no],.cells [ai q7,ai q8],.cells [ai q9,ai q10,slv tmCells q11 .no],.cells [ai q12,ai q13,slv tmCells q14 .no]] [.mp 0 0,tmA p1,tmA p2,.mp 2 0,.clo 134 [] [.mp 3 0,.mp 4 0]] (.tup [ab r.1,ai r.2.1]) [.cells [slv entL q0 .no,.mp 1 0,slv intC q3 .no,slv intC q4 .no],.cells [slv entL q1 .no,slv conL q2 .no],.cells [ai r.2.2.1,ai r.2.2.2],.cells [ai q9,ai q10,slv tmCells q11 .no],.cells [ai q12,ai q13,slv tmCells q14 .no]] 0
theorem q133va24069:Qf 133 Tryz.f133:=⟨Tryz.func133,by kernel_rfl⟩
theorem k133va24069 {q0 q1 q2 q3 q4 p1 p2 q7 q8 q9 q10 q11 q12 q13 q14 r} (h:K133va24069 q0 q1 q2 q3 q4 p1 p2 q7 q8 q9 q10 q11 q12 q13 q14 r Ci):K133va24069 q0 q1 q2 q3 q4 p1 p2 q7 q8 q9 q10 q11 q12 q13 q14 r Ct:=⟨h,⟨(lz rfl),⟨tv,tv,⟨tv,dT _⟩,tv⟩,⟨tv,tv,⟨tv,dT _⟩,tv⟩,(lz rfl),⟨tv,⟨(lz rfl),(lz rfl),tv⟩⟩,tv⟩,(forall_cons ⟨⟨tv,dE _⟩,(lz rfl),⟨tv,dI _⟩,⟨tv,dI _⟩,tv⟩ (forall_cons ⟨⟨tv,dE _⟩,⟨tv,dC _⟩,tv⟩ (forall_cons ⟨tv,tv,tv⟩ (forall_cons ⟨tv,tv,⟨tv,dT _⟩,tv⟩ (forall_cons ⟨tv,tv,⟨tv,dT _⟩,tv⟩ forall_nil))))),⟨tv,tv,tv⟩,(forall_cons ⟨dE _,(lz rfl),dI _,dI _,tv⟩ (forall_cons ⟨dE _,dC _,tv⟩ (forall_cons ⟨tv,tv,tv⟩ (forall_cons ⟨tv,tv,dT _,tv⟩ (forall_cons ⟨tv,tv,dT _,tv⟩ forall_nil)))))⟩
theorem c133va24069 {qq q0 q1 q2 q3 q4 p1 p2 q7 q8 q9 q10 q11 q12 q13 q14 r} (h:e133va24069 qq q0 q1 q2 q3 q4 p1 p2 q7 q8 q9 q10 q11 q12 q13 q14 = some r):K133va24069 q0 q1 q2 q3 q4 p1 p2 q7 q8 q9 q10 q11 q12 q13 q14 r Ct:=by
 unfold e133va24069 at h
 obtain ⟨r1,h2,h⟩:=obind h
 obtain ⟨r3,h4,h⟩:=obind h
 have k:=oC 2 [0,1] (c108 h2) o0
 rcases spl h with ⟨h5,h⟩ | ⟨h5,h⟩
 obtain ⟨r6,h7,h⟩:=obind h
 obtain ⟨r8,h9,h⟩:=obind h
 have k:=oC 2 [0,1] (c108 h7) <| oK 0 [] h5 (c107 h4) k
 rcases spl h with ⟨h10,h⟩ | ⟨h10,h⟩
 obtain ⟨r11,h12,h⟩:=obind h
 obtain ⟨r13,h14,h⟩:=obind h
 have k:=oC 1 [0,1] (c184 h12) <| oK 0 [] h10 (c107 h9) k
 rcases spl h with ⟨h15,h⟩ | ⟨h15,h⟩
 obtain rfl:=sj h
 exact k133va24069 (tF q133va24069 3 [0,1,2,3,4] (oD (dT q14) <| oD (dT q11) <| oD (dC q2) <| oD (dE q1) <| oD (dI q4) <| oD (dI q3) <| oD (dE q0) <| oK 0 [7,0,1,2,3,4] h15 (c134va30903 h14) k))
 obtain rfl:=sj h
 exact k133va24069 (tF q133va24069 1 [0,1,2,3,4] (oD (dT q14) <| oD (dT q11) <| oD (dC q2) <| oD (dE q1) <| oD (dI q4) <| oD (dI q3) <| oD (dE q0) <| oK 0 [7,0,1,2,3,4] h15 (c134va30903 h14) k))
 obtain rfl:=sj h
 exact k133va24069 (tF q133va24069 1 [0,1,2,3,4] (oD (dT q14) <| oD (dT q11) <| oD (dC q2) <| oD (dE q1) <| oD (dI q4) <| oD (dI q3) <| oD (dE q0) <| oK 0 [] h10 (c107 h9) k))
 obtain rfl:=sj h
 exact k133va24069 (tF q133va24069 1 [0,1,2,3,4] (oD (dT q14) <| oD (dT q11) <| oD (dC q2) <| oD (dE q1) <| oD (dI q4) <| oD (dI q3) <| oD (dE q0) <| oK 0 [] h5 (c107 h4) k))
def e67 (qq:Nat) (M:Mach) (p1 p2:Tm) (fl fu:Int):Option (Bool × Int × Int × Int) :=
 e133va24069 qq M.l M.rl M.parts M.args M.own p1 p2 fl fu p1.k p1.n p1.sub p2.k p2.n p2.sub >>= fun r1 =>
 some (r1.1,r1.2.1,r1.2.2.1,r1.2.2.2)
abbrev K67 (M:Mach) (p1 p2:Tm) (fl fu:Int) (r:Bool × Int × Int × Int) (C:Cf):Prop:=C 67 [mB M 1,mR M,.cells [ai fl,ai fu]] [.mp 0 0,tmA p1,tmA p2,.mp 2 0] (.tup [ab r.1,ai r.2.1]) [mB M 1,mR M,.cells [ai r.2.2.1,ai r.2.2.2]] 0
theorem q67:Qf 67 Tryz.f67:=⟨Tryz.func67,by kernel_rfl⟩
theorem k67 {M p1 p2 fl fu r} (h:K67 M p1 p2 fl fu r Ci):K67 M p1 p2 fl fu r Ct:=⟨h,⟨(lz rfl),⟨tv,tv,⟨tv,dT _⟩,tv⟩,⟨tv,tv,⟨tv,dT _⟩,tv⟩,(lz rfl),tv⟩,(forall_cons ⟨⟨tv,dE _⟩,(lz rfl),⟨tv,dI _⟩,⟨tv,dI _⟩,tv⟩ (forall_cons ⟨⟨tv,dE _⟩,⟨tv,dC _⟩,tv⟩ (forall_cons ⟨tv,tv,tv⟩ forall_nil))),⟨tv,tv,tv⟩,(forall_cons ⟨dE _,(lz rfl),dI _,dI _,tv⟩ (forall_cons ⟨dE _,dC _,tv⟩ (forall_cons ⟨tv,tv,tv⟩ forall_nil)))⟩
theorem c67 {qq M p1 p2 fl fu r} (h:e67 qq M p1 p2 fl fu = some r):K67 M p1 p2 fl fu r Ct:=by
 unfold e67 at h
 obtain ⟨r1,h2,h⟩:=obind h
 obtain rfl:=sj h
 exact k67 (tF q67 2 [0,1,2] (oD (dC M.parts) <| oD (dE M.rl) <| oD (dI M.own) <| oD (dI M.args) <| oD (dE M.l) <| oC 2 [0,1,2,3,4] (c133va24069 h2) o0))
theorem out_conv {N : ByteArray → Bool} (l : List Ent) (hE : AllE N l) (he : ∀ e ∈ l, EOk e) : ∀ (F n : Nat) (m : Bool) (x y : Tm), x.Ok → y.Ok → wtT l x + wtT l y ≤ n → m = false → HC l m x y (F : Int) := by
  intro F
  induction F using Nat.strongRecOn with
  | ind F IH =>
    intro n
    induction n with
    | zero => intro m x y _ _ h _; have := wt_pos l x; omega
    | succ n ih =>
      intro m x y hx hy hn hmf
      have fin : ∀ (k : Int) (x' y' : Tm) (j1 j2 : Int), RightM l x → RightM l y → Br l x x' 0 j1 → Br l y y' 0 j2 → k = j1 + j2 → k ≤ F → Ou (fun L U q => runH l false L U 0 q x' y' >>= fun r4 => some (r4.1, r4.2.1, r4.2.2.1, r4.2.2.2)) er4b (fun R n => QX (Cv l false x y) R (k + n)) (∀ b k, Cv l false x y b k → (F : Int) < k) ((F : Int) - k) := fun k x' y' j1 j2 hR1 hR2 hb1 hb2 hk k1 => by
        have n1 := hb1.nn
        have n2 := hb2.nn
        have hB : BC l ((F : Int) - k) (wtT l x' + wtT l y') := fun m p q hp hq hw g g0 g1 hf0 => by
          by_cases hk0 : k ≤ 0
          · have e1 := hb1.zero rfl (by omega)
            have e2 := hb2.zero rfl (by omega)
            subst e1; subst e2
            by_cases hg : g = F
            · subst hg
              exact ih m p q hp hq (by omega) hf0
            · have := IH g.toNat (by omega) (wtT l p + wtT l q) m p q hp hq (Nat.le_refl _) hf0
              rwa [show ((g.toNat : Nat) : Int) = g by omega] at this
          · have := IH g.toNat (by omega) (wtT l p + wtT l q) m p q hp hq (Nat.le_refl _) hf0
            rwa [show ((g.toNat : Nat) : Int) = g by omega] at this
        have h := HX.same (out_headsF l hE x' y' (hb1.shaped hR1.shaped rfl) (hb2.shaped hR2.shaped rfl) ((F : Int) - k) (by omega) hB)
        refine Ou.mono h ?_ fun hs b k' hc => ?_
        · rintro R n _ _ ⟨b, e, h8, h0, hn', rfl⟩
          refine ⟨b, e, h8, fun he => ?_, fun he => ⟨(hn' he).1, fun b' k' hc => ?_⟩, rfl⟩
          · have := Cv.mk hR1 hR2 hb1 hb2 (h0 he)
            rwa [hk]
          · obtain ⟨-, -, x1, i1, y1, i2, i3, h1, h2, h3, -⟩ := hc.inv
            obtain ⟨rfl, -, -⟩ := hb1.det h1
            obtain ⟨rfl, -, -⟩ := hb2.det h2
            exact (hn' he).2 _ _ h3
        · obtain ⟨-, -, x1, i1, y1, i2, i3, h1, h2, h3, rfl⟩ := hc.inv
          obtain ⟨rfl, -, rfl⟩ := hb1.det h1
          obtain ⟨rfl, -, rfl⟩ := hb2.det h2
          have := hs _ _ h3
          omega
      cases m
      · refine Ou.succ ?_
        simp only [runC, e135va22461]
        refine Ou.bind (out_pair l hE he x y hx hy F (by omega)) (fun h b k hc => h _ _ _ hc) (fun r hr => ?_) ?_
        · have := er6_8 hr
          refine ⟨_, Evt.ifF this.1 Evt.ret, ?_⟩
          unfold er4b
          rw [if_neg (by simp)]; exact this.2
        · rintro R k k0 k1 (⟨x', j1, y', j2, hR1, hR2, hb1, hb2, rfl, rfl⟩ | ⟨a, b, e, e0, e8, hno, rfl⟩)
          · exact Ou.ifT rfl (fin (j1 + j2) x' y' j1 j2 hR1 hR2 hb1 hb2 rfl k1)
          · exact Ou.ifF rfl (Ou.ret (by omega) (qx_bad e8 e0 fun b k => hno _ b k))
      · cases hmf
theorem out_askF {N : ByteArray → Bool} (l : List Ent) (hE : AllE N l) (he : ∀ e ∈ l, EOk e) (hl : l.length ≤ 65535) (hc : ∀ e ∈ l, ECl e) (x y : Tm) (hx : x.Ok) (hy : y.Ok) (f : Int) (hf : 0 ≤ f) : HX (fun L U q => e67 q (machT l) x y L U) (Cv l false x y) f := by
  have hC := out_conv l hE he f.toNat (wtT l x + wtT l y) false x y hx hy (Nat.le_refl _) rfl
  rw [show ((f.toNat : Nat) : Int) = f by omega] at hC
  have hLen : Evt (fun q => e108 q (machT l)) (l.length : Int) := Evt.mk fun _ => rfl
  have hEnt : Evt (fun q => e184 q (machT l)) l := by
    simp only [e184]
    exact ((ev_sCopy l hl he hc).eq (copy_same hE)).bind Evt.ret
  have post : HX (fun L U q => (runC l false L U 0 q x y >>= fun r1 => some (r1.1, r1.2.1, r1.2.2.1, r1.2.2.2)) >>= fun r13 => if r13.1 = true then some ((r13.2.1 == 0), r13.2.1, r13.2.2.1, r13.2.2.2) else some (false, r13.2.1, r13.2.2.1, r13.2.2.2)) (Cv l false x y) f := by
    refine Ou.bind (HX.same hC) id (fun r hr => ?_) ?_
    · have := er4b_8 hr
      refine ⟨_, Evt.ifF this.1 Evt.ret, ?_⟩
      unfold er4b
      rw [if_neg (by simp)]; exact this.2
    · rintro R k k0 k1 ⟨b, e, h8, h0, hn, rfl⟩
      dsimp only
      by_cases e0 : e = 0
      · subst e0
        have hX := h0 rfl
        cases b with
        | true => exact Ou.ifT rfl (Ou.ret (by omega) (qx_ok (b := true) (by rwa [Int.add_zero])))
        | false => exact Ou.ifF rfl (Ou.ret (by omega) (qx_ok (by rwa [Int.add_zero])))
      · obtain ⟨rfl, hno⟩ := hn e0
        exact Ou.ifF rfl (Ou.ret (by omega) (qx_bad h8 e0 hno))
  have bad1 : ¬ RightM l x → ∀ b k, ¬ Cv l false x y b k := fun h b k hc => h hc.inv.1
  have bad2 : ¬ RightM l y → ∀ b k, ¬ Cv l false x y b k := fun h b k hc => h hc.inv.2.1
  simp only [e67, e133va24069]
  refine HX.same ?_
  refine Ou.evt hLen (Ou.evt (ev_Right x 1048577 l.length hx) (Ou.ite (fun h1 => ?_) fun h1 => ?_))
  · refine Ou.evt hLen (Ou.evt (ev_Right y 1048577 l.length hy) (Ou.ite (fun h2 => ?_) fun h2 => ?_))
    · refine Ou.evt hEnt ?_
      simp only [e134va30903, tm_eta]
      exact post
    · exact Ou.ret hf (qx_bad (by decide) (by decide) (bad2 (by unfold RightM; rw [h2]; simp)))
  · exact Ou.ret hf (qx_bad (by decide) (by decide) (bad1 (by unfold RightM; rw [h1]; simp)))
def e68 (qq:Nat) (M:Mach) (p1:Tm) (fl fu:Int):Option (Tm × Int × Int × Int) :=
 e136 qq M fl fu 0 p1 >>= fun r1 =>
 if r1.2.1 != 0 then
 some ((Tm.mk 0 0 []),r1.2.1,r1.2.2.1,r1.2.2.2)
 else
 e89 qq r1.1 >>= fun r4 =>
 if r4 then
 some (r1.1,0,r1.2.2.1,r1.2.2.2)
 else
 some ((Tm.mk 0 0 []),2,r1.2.2.1,r1.2.2.2)
abbrev K68 (M:Mach) (p1:Tm) (fl fu:Int) (r:Tm × Int × Int × Int) (C:Cf):Prop:=C 68 [mB M 1,mR M,.cells [ai fl,ai fu]] [.mp 0 0,tmA p1,.mp 2 0] (.tup [tmA r.1,ai r.2.1]) [mB M 1,mR M,.cells [ai r.2.2.1,ai r.2.2.2]] 0
theorem q68:Qf 68 Tryz.f68:=⟨Tryz.func68,by kernel_rfl⟩
theorem k68 {M p1 fl fu r} (h:K68 M p1 fl fu r Ci):K68 M p1 fl fu r Ct:=⟨h,⟨(lz rfl),⟨tv,tv,⟨tv,dT _⟩,tv⟩,(lz rfl),tv⟩,(forall_cons ⟨⟨tv,dE _⟩,(lz rfl),⟨tv,dI _⟩,⟨tv,dI _⟩,tv⟩ (forall_cons ⟨⟨tv,dE _⟩,⟨tv,dC _⟩,tv⟩ (forall_cons ⟨tv,tv,tv⟩ forall_nil))),⟨⟨tv,tv,dT _,tv⟩,tv,tv⟩,(forall_cons ⟨dE _,(lz rfl),dI _,dI _,tv⟩ (forall_cons ⟨dE _,dC _,tv⟩ (forall_cons ⟨tv,tv,tv⟩ forall_nil)))⟩
theorem c68 {qq M p1 fl fu r} (h:e68 qq M p1 fl fu = some r):K68 M p1 fl fu r Ct:=by
 unfold e68 at h
 obtain ⟨r1,h2,h⟩:=obind h
 have k:=oC 1 [5,0,1,2] (c136 h2) o0
 rcases spl h with ⟨h3,h⟩ | ⟨h3,h⟩
 obtain rfl:=sj h
 exact k68 (tF q68 2 [0,1,2] (oD (dT ([]:List Tm)) <| oD (dC M.parts) <| oD (dE M.rl) <| oD (dI M.own) <| oD (dI M.args) <| oD (dE M.l) <| oB 2 h3 k))
 obtain ⟨r4,h5,h⟩:=obind h
 have k:=oB 2 h3 k
 rcases spl h with ⟨h6,h⟩ | ⟨h6,h⟩
 obtain rfl:=sj h
 exact k68 (tF q68 3 [0,1,2] (oD (dT r1.1.sub) <| oD (dC M.parts) <| oD (dE M.rl) <| oD (dI M.own) <| oD (dI M.args) <| oD (dE M.l) <| oK 1 [] h6 (c89 h5) k))
 obtain rfl:=sj h
 exact k68 (tF q68 2 [0,1,2] (oD (dT ([]:List Tm)) <| oD (dC M.parts) <| oD (dE M.rl) <| oD (dI M.own) <| oD (dI M.args) <| oD (dE M.l) <| oK 1 [] h6 (c89 h5) k))
mutual
def e136va10383:Nat → (List Ent) → (List Ent) → (List Con') → (List Int) → (List Int) → Int → Tm → Option (Tm × Int)
 | 0,_,_,_,_,_,_,_ => none
 | qq + 1,q0,q1,q2,q3,q4,q5,p1 =>
 e69va14437 qq q0 q1 q2 q3 q4 p1 >>= fun r1 =>
 if r1.2 != 0 then
 some ((Tm.mk 0 0 []),r1.2)
 else
 if r1.1.k == 4 then
 e201va52547 qq q0 q1 q2 q3 q4 q5 r1.1.sub >>= fun r5 =>
 some ((Tm.mk r1.1.k 0 r5.1),r5.2)
 else
 if r1.1.k == 3 then
 e201va52547 qq q0 q1 q2 q3 q4 q5 r1.1.sub >>= fun r8 =>
 some ((Tm.mk r1.1.k 0 r8.1),r8.2)
 else
 if r1.1.k == 5 then
 e167 qq r1.1 >>= fun r11 =>
 e201va52547 qq q0 q1 q2 q3 q4 q5 r11.2 >>= fun r13 =>
 e151 qq r11.1 r13.1 >>= fun r15 =>
 some (r15,r13.2)
 else
 some (r1.1,q5)
def e201va52547:Nat → (List Ent) → (List Ent) → (List Con') → (List Int) → (List Int) → Int → (List Tm) → Option (List Tm × Int)
 | 0,_,_,_,_,_,_,_ => none
 | qq + 1,q0,q1,q2,q3,q4,q5,p1 =>
 e201va52547L7793 qq q0 q1 q2 q3 q4 p1 0 [] q5
def e201va52547L7793:Nat → (List Ent) → (List Ent) → (List Con') → (List Int) → (List Int) → (List Tm) → Int → (List Tm) → Int → Option (List Tm × Int)
 | 0,_,_,_,_,_,_,_,_,_ => none
 | qq + 1,q0,q1,q2,q3,q4,p1,v10,v5,vb0_2 =>
 if decide (v10 < (List.length p1:Int)) then
 gidx p1 v10 >>= fun x2 =>
 if vb0_2 != 0 then
 some ([],vb0_2)
 else
 e136va10383 qq q0 q1 q2 q3 q4 vb0_2 x2 >>= fun r5 =>
 gapp 40 v5 [r5.1] >>= fun l7 =>
 e201va52547L7793 qq q0 q1 q2 q3 q4 p1 (w64 (v10 + 1)) l7 r5.2
 else
 some (v5,vb0_2)
end
def g201va52547L7793E0 (j:Nat → Value) (q0 q1:List Ent) (q2:List Con') (q3 q4:List Int) (p1:List Tm) (v10:Int) (v5:List Tm) (vb0_2:Int):=sp j 27 0 [(0,.mp 0 0),(5,slv tmCells v5 (.st 0 3)),(8,slv tmCells p1 .no),(9,ai (List.length p1:Int)),(10,ai v10)]
def g201va52547L7793S0 (q0 q1:List Ent) (q2:List Con') (q3 q4:List Int) (p1:List Tm) (v10:Int) (v5:List Tm) (vb0_2:Int):LSt:=⟨[(0,.cells [.mp 1 0,.val (.pointer none),ai vb0_2]),(1,.cells [slv entL q0 .no,.mp 2 0,slv intC q3 .no,slv intC q4 .no]),(2,.cells [slv entL q1 .no,slv conL q2 .no])],3,[0],1,[]⟩
abbrev K136va10383 (q0 q1:List Ent) (q2:List Con') (q3 q4:List Int) (q5:Int) (p1:Tm) (r:Tm × Int) (C:Cf):Prop:=C 136 [.cells [.mp 1 0,.val (.pointer none),ai q5],.cells [slv entL q0 .no,.mp 2 0,slv intC q3 .no,slv intC q4 .no],.cells [slv entL q1 .no,slv conL q2 .no]] [.mp 0 0,tmA p1] (tmA r.1) [.cells [.mp 1 0,.val (.pointer none),ai r.2],.cells [slv entL q0 .no,.mp 2 0,slv intC q3 .no,slv intC q4 .no],.cells [slv entL q1 .no,slv conL q2 .no]] 0
abbrev K201va52547 (q0 q1:List Ent) (q2:List Con') (q3 q4:List Int) (q5:Int) (p1:List Tm) (r:List Tm × Int) (C:Cf):Prop:=C 201 [.cells [.mp 1 0,.val (.pointer none),ai q5],.cells [slv entL q0 .no,.mp 2 0,slv intC q3 .no,slv intC q4 .no],.cells [slv entL q1 .no,slv conL q2 .no]] [.mp 0 0,slv tmCells p1 .no] (.sl (flat tmCells r.1) (List.length r.1) .no) [.cells [.mp 1 0,.val (.pointer none),ai r.2],.cells [slv entL q0 .no,.mp 2 0,slv intC q3 .no,slv intC q4 .no],.cells [slv entL q1 .no,slv conL q2 .no]] 0
theorem q136va10383:Qf 136 Tryz.f136:=⟨Tryz.func136,by kernel_rfl⟩
theorem k136va10383 {q0 q1 q2 q3 q4 q5 p1 r} (h:K136va10383 q0 q1 q2 q3 q4 q5 p1 r Ci):K136va10383 q0 q1 q2 q3 q4 q5 p1 r Ct:=⟨h,⟨(lz rfl),⟨tv,tv,⟨tv,dT _⟩,tv⟩,tv⟩,(forall_cons ⟨(lz rfl),tv,tv,tv⟩ (forall_cons ⟨⟨tv,dE _⟩,(lz rfl),⟨tv,dI _⟩,⟨tv,dI _⟩,tv⟩ (forall_cons ⟨⟨tv,dE _⟩,⟨tv,dC _⟩,tv⟩ forall_nil))),⟨tv,tv,dT _,tv⟩,(forall_cons ⟨(lz rfl),tv,tv,tv⟩ (forall_cons ⟨dE _,(lz rfl),dI _,dI _,tv⟩ (forall_cons ⟨dE _,dC _,tv⟩ forall_nil)))⟩
theorem q201va52547:Qf 201 Tryz.f201:=⟨Tryz.func201,by kernel_rfl⟩
theorem k201va52547 {q0 q1 q2 q3 q4 q5 p1 r} (h:K201va52547 q0 q1 q2 q3 q4 q5 p1 r Ci):K201va52547 q0 q1 q2 q3 q4 q5 p1 r Ct:=⟨h,⟨(lz rfl),⟨tv,dT _⟩,tv⟩,(forall_cons ⟨(lz rfl),tv,tv,tv⟩ (forall_cons ⟨⟨tv,dE _⟩,(lz rfl),⟨tv,dI _⟩,⟨tv,dI _⟩,tv⟩ (forall_cons ⟨⟨tv,dE _⟩,⟨tv,dC _⟩,tv⟩ forall_nil))),dT _,(forall_cons ⟨(lz rfl),tv,tv,tv⟩ (forall_cons ⟨dE _,(lz rfl),dI _,dI _,tv⟩ (forall_cons ⟨dE _,dC _,tv⟩ forall_nil)))⟩
theorem a136va10383_201va52547_201va52547L7793:∀ qq:Nat,(∀ q0 q1 q2 q3 q4 q5 p1 r,e136va10383 qq q0 q1 q2 q3 q4 q5 p1 = some r → K136va10383 q0 q1 q2 q3 q4 q5 p1 r Ct) ∧ (∀ q0 q1 q2 q3 q4 q5 p1 r,e201va52547 qq q0 q1 q2 q3 q4 q5 p1 = some r → K201va52547 q0 q1 q2 q3 q4 q5 p1 r Ct) ∧ (∀ q0 q1 q2 q3 q4 p1 v10 v5 vb0_2 r,e201va52547L7793 qq q0 q1 q2 q3 q4 p1 v10 v5 vb0_2 = some r → (∀ j,Dl Tryz.prog 3 (inn (inn (rgt (lft (rgt (rgt (bod Tryz.f201))))))) (g201va52547L7793E0 j q0 q1 q2 q3 q4 p1 v10 v5 vb0_2) (g201va52547L7793S0 q0 q1 q2 q3 q4 p1 v10 v5 vb0_2) (frameQ Tryz.prog 3 (FinQ Tryz.prog 3 Tryz.f201 (.sl (flat tmCells r.1) (List.length r.1) .no) [.cells [.mp 1 0,.val (.pointer none),ai r.2],.cells [slv entL q0 .no,.mp 2 0,slv intC q3 .no,slv intC q4 .no],.cells [slv entL q1 .no,slv conL q2 .no]] 0) [.blk 0,.seq (rgt (rgt (rgt (bod Tryz.f201))))]))):=by
 intro qq
 induction qq with
 | zero =>
  exact ⟨fun _ _ _ _ _ _ _ _ h => nn h,fun _ _ _ _ _ _ _ _ h => nn h,fun _ _ _ _ _ _ _ _ _ _ h => nn h⟩
 | succ qq ih =>
  obtain ⟨ih136va10383,ih201va52547,ih201va52547L7793⟩:=ih
  refine ⟨?_,?_,?_⟩
  intro q0 q1 q2 q3 q4 q5 p1 r h
  rw [e136va10383] at h
  obtain ⟨r1,h2,h⟩:=obind h
  have k:=oC 3 [1,2] (c69va14437 h2) o0
  rcases spl h with ⟨h3,h⟩ | ⟨h3,h⟩
  obtain rfl:=sj h
  exact k136va10383 (tF q136va10383 2 [0,1,2] (oD (dT ([]:List Tm)) <| oD (dC q2) <| oD (dE q1) <| oD (dI q4) <| oD (dI q3) <| oD (dE q0) <| oB 3 h3 k))
  have k:=oB 3 h3 k
  rcases spl h with ⟨h4,h⟩ | ⟨h4,h⟩
  obtain ⟨r5,h6,h⟩:=obind h
  obtain rfl:=sj h
  exact k136va10383 (tF q136va10383 1 [0,1,2] (oD (dT r5.1) <| oD (dC q2) <| oD (dE q1) <| oD (dI q4) <| oD (dI q3) <| oD (dE q0) <| oC 2 [0,1,2] (ih201va52547 _ _ _ _ _ _ _ _ h6) <| oB 1 h4 k))
  have k:=oB 1 h4 k
  rcases spl h with ⟨h7,h⟩ | ⟨h7,h⟩
  obtain ⟨r8,h9,h⟩:=obind h
  obtain rfl:=sj h
  exact k136va10383 (tF q136va10383 1 [0,1,2] (oD (dT r8.1) <| oD (dC q2) <| oD (dE q1) <| oD (dI q4) <| oD (dI q3) <| oD (dE q0) <| oC 2 [0,1,2] (ih201va52547 _ _ _ _ _ _ _ _ h9) <| oB 0 h7 k))
  have k:=oB 0 h7 k
  rcases spl h with ⟨h10,h⟩ | ⟨h10,h⟩
  obtain ⟨r11,h12,h⟩:=obind h
  obtain ⟨r13,h14,h⟩:=obind h
  obtain ⟨r15,h16,h⟩:=obind h
  obtain rfl:=sj h
  exact k136va10383 (tF q136va10383 1 [0,1,2] (oD (dT r15.sub) <| oD (dC q2) <| oD (dE q1) <| oD (dI q4) <| oD (dI q3) <| oD (dE q0) <| oC 0 [] (c151 h16) <| oC 4 [0,1,2] (ih201va52547 _ _ _ _ _ _ _ _ h14) <| oC 1 [] (c167 h12) <| oB 0 h10 k))
  obtain rfl:=sj h
  exact k136va10383 (tF q136va10383 2 [0,1,2] (oD (dT r1.1.sub) <| oD (dC q2) <| oD (dE q1) <| oD (dI q4) <| oD (dI q3) <| oD (dE q0) <| oB 0 h10 k))
  intro q0 q1 q2 q3 q4 q5 p1 r h
  rw [e201va52547] at h
  exact k201va52547 (tH q201va52547 1 [(none,5,3)] [0,1,2] [0] [0,5,8,9,10] (oD (dT p1) <| oD (dT ([]:List Tm)) <| oD (dC q2) <| oD (dE q1) <| oD (dI q4) <| oD (dI q3) <| oD (dE q0) o0) (ih201va52547L7793 _ _ _ _ _ _ _ _ _ _ h))
  intro q0 q1 q2 q3 q4 p1 v10 v5 vb0_2 r h
  rw [e201va52547L7793] at h
  rcases spl h with ⟨h1,h⟩ | ⟨h1,h⟩
  obtain ⟨x2,h3,h⟩:=obind h
  have k:=oA 0 (ix23 (o:=.no) h3) <| oB 0 h1 o0
  rcases spl h with ⟨h4,h⟩ | ⟨h4,h⟩
  obtain rfl:=sj h
  exact fun j => lF 0 [0,1,2] (oD (dT ([]:List Tm)) <| oD (dC q2) <| oD (dE q1) <| oD (dI q4) <| oD (dI q3) <| oD (dE q0) <| oB 3 h4 k)
  obtain ⟨r5,h6,h⟩:=obind h
  obtain ⟨l7,h8,h⟩:=obind h
  exact fun j => lH 1 [] [0,1,2] [1] [0,5,8,9,10] (oD (dT p1) <| oD (dT l7) <| oD (dC q2) <| oD (dE q1) <| oD (dI q4) <| oD (dI q3) <| oD (dE q0) <| oP 0 (apS23 h8 (by simp)) <| oS 0 (obLitR tm_eq [r5.1]) <| oC 1 [0,1,2] (ih136va10383 _ _ _ _ _ _ _ _ h6) <| oB 3 h4 k) (ih201va52547L7793 _ _ _ _ _ _ _ _ _ _ h)
  obtain rfl:=sj h
  exact fun j => lF 0 [0,1,2] (oD (dT v5) <| oD (dC q2) <| oD (dE q1) <| oD (dI q4) <| oD (dI q3) <| oD (dE q0) <| oB 0 h1 o0)
theorem c136va10383 {qq q0 q1 q2 q3 q4 q5 p1 r} (h:e136va10383 qq q0 q1 q2 q3 q4 q5 p1 = some r):K136va10383 q0 q1 q2 q3 q4 q5 p1 r Ct:=(a136va10383_201va52547_201va52547L7793 _).1 _ _ _ _ _ _ _ _ h
def e68va14437 (qq:Nat) (q0 q1:List Ent) (q2:List Con') (q3 q4:List Int) (p1:Tm):Option (Tm × Int) :=
 e136va10383 qq q0 q1 q2 q3 q4 0 p1 >>= fun r1 =>
 if r1.2 != 0 then
 some ((Tm.mk 0 0 []),r1.2)
 else
 e89 qq r1.1 >>= fun r4 =>
 if r4 then
 some (r1.1,0)
 else
 some ((Tm.mk 0 0 []),2)
abbrev K68va14437 (q0 q1:List Ent) (q2:List Con') (q3 q4:List Int) (p1:Tm) (r:Tm × Int) (C:Cf):Prop:=C 68 [.cells [slv entL q0 .no,.mp 1 0,slv intC q3 .no,slv intC q4 .no],.cells [slv entL q1 .no,slv conL q2 .no]] [.mp 0 0,tmA p1,.val (.pointer none)] (.tup [tmA r.1,ai r.2]) [.cells [slv entL q0 .no,.mp 1 0,slv intC q3 .no,slv intC q4 .no],.cells [slv entL q1 .no,slv conL q2 .no]] 0
theorem q68va14437:Qf 68 Tryz.f68:=⟨Tryz.func68,by kernel_rfl⟩
theorem k68va14437 {q0 q1 q2 q3 q4 p1 r} (h:K68va14437 q0 q1 q2 q3 q4 p1 r Ci):K68va14437 q0 q1 q2 q3 q4 p1 r Ct:=⟨h,⟨(lz rfl),⟨tv,tv,⟨tv,dT _⟩,tv⟩,tv,tv⟩,(forall_cons ⟨⟨tv,dE _⟩,(lz rfl),⟨tv,dI _⟩,⟨tv,dI _⟩,tv⟩ (forall_cons ⟨⟨tv,dE _⟩,⟨tv,dC _⟩,tv⟩ forall_nil)),⟨⟨tv,tv,dT _,tv⟩,tv,tv⟩,(forall_cons ⟨dE _,(lz rfl),dI _,dI _,tv⟩ (forall_cons ⟨dE _,dC _,tv⟩ forall_nil))⟩
theorem c68va14437 {qq q0 q1 q2 q3 q4 p1 r} (h:e68va14437 qq q0 q1 q2 q3 q4 p1 = some r):K68va14437 q0 q1 q2 q3 q4 p1 r Ct:=by
 unfold e68va14437 at h
 obtain ⟨r1,h2,h⟩:=obind h
 have k:=oC 1 [4,0,1] (c136va10383 h2) o0
 rcases spl h with ⟨h3,h⟩ | ⟨h3,h⟩
 obtain rfl:=sj h
 exact k68va14437 (tF q68va14437 2 [0,1] (oD (dT ([]:List Tm)) <| oD (dC q2) <| oD (dE q1) <| oD (dI q4) <| oD (dI q3) <| oD (dE q0) <| oB 2 h3 k))
 obtain ⟨r4,h5,h⟩:=obind h
 have k:=oB 2 h3 k
 rcases spl h with ⟨h6,h⟩ | ⟨h6,h⟩
 obtain rfl:=sj h
 exact k68va14437 (tF q68va14437 3 [0,1] (oD (dT r1.1.sub) <| oD (dC q2) <| oD (dE q1) <| oD (dI q4) <| oD (dI q3) <| oD (dE q0) <| oK 1 [] h6 (c89 h5) k))
 obtain rfl:=sj h
 exact k68va14437 (tF q68va14437 2 [0,1] (oD (dT ([]:List Tm)) <| oD (dC q2) <| oD (dE q1) <| oD (dI q4) <| oD (dI q3) <| oD (dE q0) <| oK 1 [] h6 (c89 h5) k))
mutual
def e136va39915:Nat → Int → Tm → Option (Tm × Int)
 | 0,_,_ => none
 | qq + 1,q0,p1 =>
 e69va17286 qq p1 >>= fun r1 =>
 if r1.2 != 0 then
 some ((Tm.mk 0 0 []),r1.2)
 else
 if r1.1.k == 4 then
 e201va7488 qq q0 r1.1.sub >>= fun r5 =>
 some ((Tm.mk r1.1.k 0 r5.1),r5.2)
 else
 if r1.1.k == 3 then
 e201va7488 qq q0 r1.1.sub >>= fun r8 =>
 some ((Tm.mk r1.1.k 0 r8.1),r8.2)
 else
 if r1.1.k == 5 then
 e167 qq r1.1 >>= fun r11 =>
 e201va7488 qq q0 r11.2 >>= fun r13 =>
 e151 qq r11.1 r13.1 >>= fun r15 =>
 some (r15,r13.2)
 else
 some (r1.1,q0)
def e201va7488:Nat → Int → (List Tm) → Option (List Tm × Int)
 | 0,_,_ => none
 | qq + 1,q0,p1 =>
 e201va7488L7793 qq p1 0 [] q0
def e201va7488L7793:Nat → (List Tm) → Int → (List Tm) → Int → Option (List Tm × Int)
 | 0,_,_,_,_ => none
 | qq + 1,p1,v10,v5,vb0_2 =>
 if decide (v10 < (List.length p1:Int)) then
 gidx p1 v10 >>= fun x2 =>
 if vb0_2 != 0 then
 some ([],vb0_2)
 else
 e136va39915 qq vb0_2 x2 >>= fun r5 =>
 gapp 40 v5 [r5.1] >>= fun l7 =>
 e201va7488L7793 qq p1 (w64 (v10 + 1)) l7 r5.2
 else
 some (v5,vb0_2)
end
def g201va7488L7793E0 (j:Nat → Value) (p1:List Tm) (v10:Int) (v5:List Tm) (vb0_2:Int):=sp j 27 0 [(0,.mp 0 0),(5,slv tmCells v5 (.st 0 3)),(8,slv tmCells p1 .no),(9,ai (List.length p1:Int)),(10,ai v10)]
def g201va7488L7793S0 (p1:List Tm) (v10:Int) (v5:List Tm) (vb0_2:Int):LSt:=⟨[(0,.cells [.val (.pointer none),.val (.pointer none),ai vb0_2])],1,[0],1,[]⟩
abbrev K136va39915 (q0:Int) (p1:Tm) (r:Tm × Int) (C:Cf):Prop:=C 136 [.cells [.val (.pointer none),.val (.pointer none),ai q0]] [.mp 0 0,tmA p1] (tmA r.1) [.cells [.val (.pointer none),.val (.pointer none),ai r.2]] 0
abbrev K201va7488 (q0:Int) (p1:List Tm) (r:List Tm × Int) (C:Cf):Prop:=C 201 [.cells [.val (.pointer none),.val (.pointer none),ai q0]] [.mp 0 0,slv tmCells p1 .no] (.sl (flat tmCells r.1) (List.length r.1) .no) [.cells [.val (.pointer none),.val (.pointer none),ai r.2]] 0
theorem q136va39915:Qf 136 Tryz.f136:=⟨Tryz.func136,by kernel_rfl⟩
theorem k136va39915 {q0 p1 r} (h:K136va39915 q0 p1 r Ci):K136va39915 q0 p1 r Ct:=⟨h,⟨(lz rfl),⟨tv,tv,⟨tv,dT _⟩,tv⟩,tv⟩,(forall_cons ⟨tv,tv,tv,tv⟩ forall_nil),⟨tv,tv,dT _,tv⟩,(forall_cons ⟨tv,tv,tv,tv⟩ forall_nil)⟩
theorem q201va7488:Qf 201 Tryz.f201:=⟨Tryz.func201,by kernel_rfl⟩
theorem k201va7488 {q0 p1 r} (h:K201va7488 q0 p1 r Ci):K201va7488 q0 p1 r Ct:=⟨h,⟨(lz rfl),⟨tv,dT _⟩,tv⟩,(forall_cons ⟨tv,tv,tv,tv⟩ forall_nil),dT _,(forall_cons ⟨tv,tv,tv,tv⟩ forall_nil)⟩
theorem a136va39915_201va7488_201va7488L7793:∀ qq:Nat,(∀ q0 p1 r,e136va39915 qq q0 p1 = some r → K136va39915 q0 p1 r Ct) ∧ (∀ q0 p1 r,e201va7488 qq q0 p1 = some r → K201va7488 q0 p1 r Ct) ∧ (∀ p1 v10 v5 vb0_2 r,e201va7488L7793 qq p1 v10 v5 vb0_2 = some r → (∀ j,Dl Tryz.prog 1 (inn (inn (rgt (lft (rgt (rgt (bod Tryz.f201))))))) (g201va7488L7793E0 j p1 v10 v5 vb0_2) (g201va7488L7793S0 p1 v10 v5 vb0_2) (frameQ Tryz.prog 1 (FinQ Tryz.prog 1 Tryz.f201 (.sl (flat tmCells r.1) (List.length r.1) .no) [.cells [.val (.pointer none),.val (.pointer none),ai r.2]] 0) [.blk 0,.seq (rgt (rgt (rgt (bod Tryz.f201))))]))):=by
 intro qq
 induction qq with
 | zero =>
  exact ⟨fun _ _ _ h => nn h,fun _ _ _ h => nn h,fun _ _ _ _ _ h => nn h⟩
 | succ qq ih =>
  obtain ⟨ih136va39915,ih201va7488,ih201va7488L7793⟩:=ih
  refine ⟨?_,?_,?_⟩
  intro q0 p1 r h
  rw [e136va39915] at h
  obtain ⟨r1,h2,h⟩:=obind h
  have k:=oC 3 [] (c69va17286 h2) o0
  rcases spl h with ⟨h3,h⟩ | ⟨h3,h⟩
  obtain rfl:=sj h
  exact k136va39915 (tF q136va39915 2 [0] (oD (dT ([]:List Tm)) <| oB 3 h3 k))
  have k:=oB 3 h3 k
  rcases spl h with ⟨h4,h⟩ | ⟨h4,h⟩
  obtain ⟨r5,h6,h⟩:=obind h
  obtain rfl:=sj h
  exact k136va39915 (tF q136va39915 1 [0] (oD (dT r5.1) <| oC 2 [0] (ih201va7488 _ _ _ h6) <| oB 1 h4 k))
  have k:=oB 1 h4 k
  rcases spl h with ⟨h7,h⟩ | ⟨h7,h⟩
  obtain ⟨r8,h9,h⟩:=obind h
  obtain rfl:=sj h
  exact k136va39915 (tF q136va39915 1 [0] (oD (dT r8.1) <| oC 2 [0] (ih201va7488 _ _ _ h9) <| oB 0 h7 k))
  have k:=oB 0 h7 k
  rcases spl h with ⟨h10,h⟩ | ⟨h10,h⟩
  obtain ⟨r11,h12,h⟩:=obind h
  obtain ⟨r13,h14,h⟩:=obind h
  obtain ⟨r15,h16,h⟩:=obind h
  obtain rfl:=sj h
  exact k136va39915 (tF q136va39915 1 [0] (oD (dT r15.sub) <| oC 0 [] (c151 h16) <| oC 4 [0] (ih201va7488 _ _ _ h14) <| oC 1 [] (c167 h12) <| oB 0 h10 k))
  obtain rfl:=sj h
  exact k136va39915 (tF q136va39915 2 [0] (oD (dT r1.1.sub) <| oB 0 h10 k))
  intro q0 p1 r h
  rw [e201va7488] at h
  exact k201va7488 (tH q201va7488 1 [(none,5,3)] [0] [0] [0,5,8,9,10] (oD (dT p1) <| oD (dT ([]:List Tm)) o0) (ih201va7488L7793 _ _ _ _ _ h))
  intro p1 v10 v5 vb0_2 r h
  rw [e201va7488L7793] at h
  rcases spl h with ⟨h1,h⟩ | ⟨h1,h⟩
  obtain ⟨x2,h3,h⟩:=obind h
  have k:=oA 0 (ix23 (o:=.no) h3) <| oB 0 h1 o0
  rcases spl h with ⟨h4,h⟩ | ⟨h4,h⟩
  obtain rfl:=sj h
  exact fun j => lF 0 [0] (oD (dT ([]:List Tm)) <| oB 3 h4 k)
  obtain ⟨r5,h6,h⟩:=obind h
  obtain ⟨l7,h8,h⟩:=obind h
  exact fun j => lH 1 [] [0] [1] [0,5,8,9,10] (oD (dT p1) <| oD (dT l7) <| oP 0 (apS23 h8 (by simp)) <| oS 0 (obLitR tm_eq [r5.1]) <| oC 1 [0] (ih136va39915 _ _ _ h6) <| oB 3 h4 k) (ih201va7488L7793 _ _ _ _ _ h)
  obtain rfl:=sj h
  exact fun j => lF 0 [0] (oD (dT v5) <| oB 0 h1 o0)
theorem c136va39915 {qq q0 p1 r} (h:e136va39915 qq q0 p1 = some r):K136va39915 q0 p1 r Ct:=(a136va39915_201va7488_201va7488L7793 _).1 _ _ _ h
def e68va17286 (qq:Nat) (p1:Tm):Option (Tm × Int) :=
 e136va39915 qq 0 p1 >>= fun r1 =>
 if r1.2 != 0 then
 some ((Tm.mk 0 0 []),r1.2)
 else
 e89 qq r1.1 >>= fun r4 =>
 if r4 then
 some (r1.1,0)
 else
 some ((Tm.mk 0 0 []),2)
abbrev K68va17286 (p1:Tm) (r:Tm × Int) (C:Cf):Prop:=C 68 [] [.val (.pointer none),tmA p1,.val (.pointer none)] (.tup [tmA r.1,ai r.2]) [] 0
theorem q68va17286:Qf 68 Tryz.f68:=⟨Tryz.func68,by kernel_rfl⟩
theorem k68va17286 {p1 r} (h:K68va17286 p1 r Ci):K68va17286 p1 r Ct:=⟨h,⟨tv,⟨tv,tv,⟨tv,dT _⟩,tv⟩,tv,tv⟩,forall_nil,⟨⟨tv,tv,dT _,tv⟩,tv,tv⟩,forall_nil⟩
theorem c68va17286 {qq p1 r} (h:e68va17286 qq p1 = some r):K68va17286 p1 r Ct:=by
 unfold e68va17286 at h
 obtain ⟨r1,h2,h⟩:=obind h
 have k:=oC 1 [2] (c136va39915 h2) o0
 rcases spl h with ⟨h3,h⟩ | ⟨h3,h⟩
 obtain rfl:=sj h
 exact k68va17286 (tF q68va17286 2 [] (oD (dT ([]:List Tm)) <| oB 2 h3 k))
 obtain ⟨r4,h5,h⟩:=obind h
 have k:=oB 2 h3 k
 rcases spl h with ⟨h6,h⟩ | ⟨h6,h⟩
 obtain rfl:=sj h
 exact k68va17286 (tF q68va17286 3 [] (oD (dT r1.1.sub) <| oK 1 [] h6 (c89 h5) k))
 obtain rfl:=sj h
 exact k68va17286 (tF q68va17286 2 [] (oD (dT ([]:List Tm)) <| oK 1 [] h6 (c89 h5) k))
mutual
def e136va20868:Nat → Int → Int → Int → Tm → Option (Tm × Int)
 | 0,_,_,_,_ => none
 | qq + 1,q0,q1,q2,p1 =>
 e69va53055 qq p1 q0 q1 >>= fun r1 =>
 if r1.2 != 0 then
 some ((Tm.mk 0 0 []),r1.2)
 else
 if r1.1.k == 4 then
 e201va60136 qq q0 q1 q2 r1.1.sub >>= fun r5 =>
 some ((Tm.mk r1.1.k 0 r5.1),r5.2)
 else
 if r1.1.k == 3 then
 e201va60136 qq q0 q1 q2 r1.1.sub >>= fun r8 =>
 some ((Tm.mk r1.1.k 0 r8.1),r8.2)
 else
 if r1.1.k == 5 then
 e167 qq r1.1 >>= fun r11 =>
 e201va60136 qq q0 q1 q2 r11.2 >>= fun r13 =>
 e151 qq r11.1 r13.1 >>= fun r15 =>
 some (r15,r13.2)
 else
 some (r1.1,q2)
def e201va60136:Nat → Int → Int → Int → (List Tm) → Option (List Tm × Int)
 | 0,_,_,_,_ => none
 | qq + 1,q0,q1,q2,p1 =>
 e201va60136L7793 qq q0 q1 p1 0 [] q2
def e201va60136L7793:Nat → Int → Int → (List Tm) → Int → (List Tm) → Int → Option (List Tm × Int)
 | 0,_,_,_,_,_,_ => none
 | qq + 1,q0,q1,p1,v10,v5,vb0_2 =>
 if decide (v10 < (List.length p1:Int)) then
 gidx p1 v10 >>= fun x2 =>
 if vb0_2 != 0 then
 some ([],vb0_2)
 else
 e136va20868 qq q0 q1 vb0_2 x2 >>= fun r5 =>
 gapp 40 v5 [r5.1] >>= fun l7 =>
 e201va60136L7793 qq q0 q1 p1 (w64 (v10 + 1)) l7 r5.2
 else
 some (v5,vb0_2)
end
def g201va60136L7793E0 (j:Nat → Value) (q0 q1:Int) (p1:List Tm) (v10:Int) (v5:List Tm) (vb0_2:Int):=sp j 27 0 [(0,.mp 0 0),(5,slv tmCells v5 (.st 0 3)),(8,slv tmCells p1 .no),(9,ai (List.length p1:Int)),(10,ai v10)]
def g201va60136L7793S0 (q0 q1:Int) (p1:List Tm) (v10:Int) (v5:List Tm) (vb0_2:Int):LSt:=⟨[(0,.cells [.val (.pointer none),.mp 1 0,ai vb0_2]),(1,.cells [ai q0,ai q1])],2,[0],1,[]⟩
abbrev K136va20868 (q0 q1 q2:Int) (p1:Tm) (r:Tm × Int) (C:Cf):Prop:=C 136 [.cells [.val (.pointer none),.mp 1 0,ai q2],.cells [ai q0,ai q1]] [.mp 0 0,tmA p1] (tmA r.1) [.cells [.val (.pointer none),.mp 1 0,ai r.2],.cells [ai q0,ai q1]] 0
abbrev K201va60136 (q0 q1 q2:Int) (p1:List Tm) (r:List Tm × Int) (C:Cf):Prop:=C 201 [.cells [.val (.pointer none),.mp 1 0,ai q2],.cells [ai q0,ai q1]] [.mp 0 0,slv tmCells p1 .no] (.sl (flat tmCells r.1) (List.length r.1) .no) [.cells [.val (.pointer none),.mp 1 0,ai r.2],.cells [ai q0,ai q1]] 0
theorem q136va20868:Qf 136 Tryz.f136:=⟨Tryz.func136,by kernel_rfl⟩
theorem k136va20868 {q0 q1 q2 p1 r} (h:K136va20868 q0 q1 q2 p1 r Ci):K136va20868 q0 q1 q2 p1 r Ct:=⟨h,⟨(lz rfl),⟨tv,tv,⟨tv,dT _⟩,tv⟩,tv⟩,(forall_cons ⟨tv,(lz rfl),tv,tv⟩ (forall_cons ⟨tv,tv,tv⟩ forall_nil)),⟨tv,tv,dT _,tv⟩,(forall_cons ⟨tv,(lz rfl),tv,tv⟩ (forall_cons ⟨tv,tv,tv⟩ forall_nil))⟩
theorem q201va60136:Qf 201 Tryz.f201:=⟨Tryz.func201,by kernel_rfl⟩
theorem k201va60136 {q0 q1 q2 p1 r} (h:K201va60136 q0 q1 q2 p1 r Ci):K201va60136 q0 q1 q2 p1 r Ct:=⟨h,⟨(lz rfl),⟨tv,dT _⟩,tv⟩,(forall_cons ⟨tv,(lz rfl),tv,tv⟩ (forall_cons ⟨tv,tv,tv⟩ forall_nil)),dT _,(forall_cons ⟨tv,(lz rfl),tv,tv⟩ (forall_cons ⟨tv,tv,tv⟩ forall_nil))⟩
theorem a136va20868_201va60136_201va60136L7793:∀ qq:Nat,(∀ q0 q1 q2 p1 r,e136va20868 qq q0 q1 q2 p1 = some r → K136va20868 q0 q1 q2 p1 r Ct) ∧ (∀ q0 q1 q2 p1 r,e201va60136 qq q0 q1 q2 p1 = some r → K201va60136 q0 q1 q2 p1 r Ct) ∧ (∀ q0 q1 p1 v10 v5 vb0_2 r,e201va60136L7793 qq q0 q1 p1 v10 v5 vb0_2 = some r → (∀ j,Dl Tryz.prog 2 (inn (inn (rgt (lft (rgt (rgt (bod Tryz.f201))))))) (g201va60136L7793E0 j q0 q1 p1 v10 v5 vb0_2) (g201va60136L7793S0 q0 q1 p1 v10 v5 vb0_2) (frameQ Tryz.prog 2 (FinQ Tryz.prog 2 Tryz.f201 (.sl (flat tmCells r.1) (List.length r.1) .no) [.cells [.val (.pointer none),.mp 1 0,ai r.2],.cells [ai q0,ai q1]] 0) [.blk 0,.seq (rgt (rgt (rgt (bod Tryz.f201))))]))):=by
 intro qq
 induction qq with
 | zero =>
  exact ⟨fun _ _ _ _ _ h => nn h,fun _ _ _ _ _ h => nn h,fun _ _ _ _ _ _ _ h => nn h⟩
 | succ qq ih =>
  obtain ⟨ih136va20868,ih201va60136,ih201va60136L7793⟩:=ih
  refine ⟨?_,?_,?_⟩
  intro q0 q1 q2 p1 r h
  rw [e136va20868] at h
  obtain ⟨r1,h2,h⟩:=obind h
  have k:=oC 3 [1] (c69va53055 h2) o0
  rcases spl h with ⟨h3,h⟩ | ⟨h3,h⟩
  obtain rfl:=sj h
  exact k136va20868 (tF q136va20868 2 [0,1] (oD (dT ([]:List Tm)) <| oB 3 h3 k))
  have k:=oB 3 h3 k
  rcases spl h with ⟨h4,h⟩ | ⟨h4,h⟩
  obtain ⟨r5,h6,h⟩:=obind h
  obtain rfl:=sj h
  exact k136va20868 (tF q136va20868 1 [0,1] (oD (dT r5.1) <| oC 2 [0,1] (ih201va60136 _ _ _ _ _ h6) <| oB 1 h4 k))
  have k:=oB 1 h4 k
  rcases spl h with ⟨h7,h⟩ | ⟨h7,h⟩
  obtain ⟨r8,h9,h⟩:=obind h
  obtain rfl:=sj h
  exact k136va20868 (tF q136va20868 1 [0,1] (oD (dT r8.1) <| oC 2 [0,1] (ih201va60136 _ _ _ _ _ h9) <| oB 0 h7 k))
  have k:=oB 0 h7 k
  rcases spl h with ⟨h10,h⟩ | ⟨h10,h⟩
  obtain ⟨r11,h12,h⟩:=obind h
  obtain ⟨r13,h14,h⟩:=obind h
  obtain ⟨r15,h16,h⟩:=obind h
  obtain rfl:=sj h
  exact k136va20868 (tF q136va20868 1 [0,1] (oD (dT r15.sub) <| oC 0 [] (c151 h16) <| oC 4 [0,1] (ih201va60136 _ _ _ _ _ h14) <| oC 1 [] (c167 h12) <| oB 0 h10 k))
  obtain rfl:=sj h
  exact k136va20868 (tF q136va20868 2 [0,1] (oD (dT r1.1.sub) <| oB 0 h10 k))
  intro q0 q1 q2 p1 r h
  rw [e201va60136] at h
  exact k201va60136 (tH q201va60136 1 [(none,5,3)] [0,1] [0] [0,5,8,9,10] (oD (dT p1) <| oD (dT ([]:List Tm)) o0) (ih201va60136L7793 _ _ _ _ _ _ _ h))
  intro q0 q1 p1 v10 v5 vb0_2 r h
  rw [e201va60136L7793] at h
  rcases spl h with ⟨h1,h⟩ | ⟨h1,h⟩
  obtain ⟨x2,h3,h⟩:=obind h
  have k:=oA 0 (ix23 (o:=.no) h3) <| oB 0 h1 o0
  rcases spl h with ⟨h4,h⟩ | ⟨h4,h⟩
  obtain rfl:=sj h
  exact fun j => lF 0 [0,1] (oD (dT ([]:List Tm)) <| oB 3 h4 k)
  obtain ⟨r5,h6,h⟩:=obind h
  obtain ⟨l7,h8,h⟩:=obind h
  exact fun j => lH 1 [] [0,1] [1] [0,5,8,9,10] (oD (dT p1) <| oD (dT l7) <| oP 0 (apS23 h8 (by simp)) <| oS 0 (obLitR tm_eq [r5.1]) <| oC 1 [0,1] (ih136va20868 _ _ _ _ _ h6) <| oB 3 h4 k) (ih201va60136L7793 _ _ _ _ _ _ _ h)
  obtain rfl:=sj h
  exact fun j => lF 0 [0,1] (oD (dT v5) <| oB 0 h1 o0)
theorem c136va20868 {qq q0 q1 q2 p1 r} (h:e136va20868 qq q0 q1 q2 p1 = some r):K136va20868 q0 q1 q2 p1 r Ct:=(a136va20868_201va60136_201va60136L7793 _).1 _ _ _ _ _ h
def e68va53055 (qq:Nat) (p1:Tm) (q1 q2:Int):Option (Tm × Int) :=
 e136va20868 qq q1 q2 0 p1 >>= fun r1 =>
 if r1.2 != 0 then
 some ((Tm.mk 0 0 []),r1.2)
 else
 e89 qq r1.1 >>= fun r4 =>
 if r4 then
 some (r1.1,0)
 else
 some ((Tm.mk 0 0 []),2)
abbrev K68va53055 (p1:Tm) (q1 q2:Int) (r:Tm × Int) (C:Cf):Prop:=C 68 [.cells [ai q1,ai q2]] [.val (.pointer none),tmA p1,.mp 0 0] (.tup [tmA r.1,ai r.2]) [.cells [ai q1,ai q2]] 0
theorem q68va53055:Qf 68 Tryz.f68:=⟨Tryz.func68,by kernel_rfl⟩
theorem k68va53055 {p1 q1 q2 r} (h:K68va53055 p1 q1 q2 r Ci):K68va53055 p1 q1 q2 r Ct:=⟨h,⟨tv,⟨tv,tv,⟨tv,dT _⟩,tv⟩,(lz rfl),tv⟩,(forall_cons ⟨tv,tv,tv⟩ forall_nil),⟨⟨tv,tv,dT _,tv⟩,tv,tv⟩,(forall_cons ⟨tv,tv,tv⟩ forall_nil)⟩
theorem c68va53055 {qq p1 q1 q2 r} (h:e68va53055 qq p1 q1 q2 = some r):K68va53055 p1 q1 q2 r Ct:=by
 unfold e68va53055 at h
 obtain ⟨r1,h2,h⟩:=obind h
 have k:=oC 1 [3,0] (c136va20868 h2) o0
 rcases spl h with ⟨h3,h⟩ | ⟨h3,h⟩
 obtain rfl:=sj h
 exact k68va53055 (tF q68va53055 2 [0] (oD (dT ([]:List Tm)) <| oB 2 h3 k))
 obtain ⟨r4,h5,h⟩:=obind h
 have k:=oB 2 h3 k
 rcases spl h with ⟨h6,h⟩ | ⟨h6,h⟩
 obtain rfl:=sj h
 exact k68va53055 (tF q68va53055 3 [0] (oD (dT r1.1.sub) <| oK 1 [] h6 (c89 h5) k))
 obtain rfl:=sj h
 exact k68va53055 (tF q68va53055 2 [0] (oD (dT ([]:List Tm)) <| oK 1 [] h6 (c89 h5) k))
def e16 (qq:Nat) (p0:List Ent) (p1:Tm) (p2:Int):Option (Tm × Int × Int) :=
 e37 qq p0 >>= fun r1 =>
 match r1 with
 | Sum.inl y21 =>
  if y21 != 0 then
  some ((Tm.mk 0 0 []),0,y21)
  else
  e45 qq p2 >>= fun r23 =>
  match r23 with
  | Sum.inl y32 =>
   if y32 != 0 then
   some ((Tm.mk 0 0 []),0,y32)
   else
   e68va17286 qq p1 >>= fun r34 =>
   if r34.2 != 0 then
   some ((Tm.mk 0 0 []),0,r34.2)
   else
   e48va47633 qq >>= fun r37 =>
   some (r34.1,r37,0)
  | Sum.inr y25 =>
   if y25.1 != 0 then
   some ((Tm.mk 0 0 []),0,y25.1)
   else
   e68va53055 qq p1 y25.2.1 y25.2.2 >>= fun r27 =>
   if r27.2 != 0 then
   some ((Tm.mk 0 0 []),0,r27.2)
   else
   e48 qq y25.2.1 y25.2.2 >>= fun r30 =>
   some (r27.1,r30,0)
 | Sum.inr y3 =>
  if y3.1 != 0 then
  some ((Tm.mk 0 0 []),0,y3.1)
  else
  e45 qq p2 >>= fun r5 =>
  match r5 with
  | Sum.inl y14 =>
   if y14 != 0 then
   some ((Tm.mk 0 0 []),0,y14)
   else
   e68va14437 qq y3.2.1 y3.2.2.2.2.1 y3.2.2.2.2.2 y3.2.2.1 y3.2.2.2.1 p1 >>= fun r16 =>
   if r16.2 != 0 then
   some ((Tm.mk 0 0 []),0,r16.2)
   else
   e48va47633 qq >>= fun r19 =>
   some (r16.1,r19,0)
  | Sum.inr y7 =>
   if y7.1 != 0 then
   some ((Tm.mk 0 0 []),0,y7.1)
   else
   e68 qq (Mach.mk y3.2.1 y3.2.2.2.2.1 y3.2.2.2.2.2 y3.2.2.1 y3.2.2.2.1) p1 y7.2.1 y7.2.2 >>= fun r9 =>
   if r9.2.1 != 0 then
   some ((Tm.mk 0 0 []),0,r9.2.1)
   else
   e48 qq r9.2.2.1 r9.2.2.2 >>= fun r12 =>
   some (r9.1,r12,0)
abbrev K16 (p0:List Ent) (p1:Tm) (p2:Int) (r:Tm × Int × Int) (C:Cf):Prop:=C 16 [] [slv entL p0 .no,tmA p1,ai p2] (.tup [tmA r.1,ai r.2.1,ai r.2.2]) [] 0
theorem q16:Qf 16 Tryz.f16:=⟨Tryz.func16,by kernel_rfl⟩
theorem k16 {p0 p1 p2 r} (h:K16 p0 p1 p2 r Ci):K16 p0 p1 p2 r Ct:=⟨h,⟨⟨tv,dE _⟩,⟨tv,tv,⟨tv,dT _⟩,tv⟩,tv,tv⟩,forall_nil,⟨⟨tv,tv,dT _,tv⟩,tv,tv,tv⟩,forall_nil⟩
theorem c16 {qq p0 p1 p2 r} (h:e16 qq p0 p1 p2 = some r):K16 p0 p1 p2 r Ct:=by
 unfold e16 at h
 obtain ⟨r1,h2,h⟩:=obind h
 rcases r1 with y21 | y3
 dsimp only at h
 have k:=oC 0 [] (c37 h2) o0
 rcases spl h with ⟨h22,h⟩ | ⟨h22,h⟩
 obtain rfl:=sj h
 exact k16 (tF q16 1 [] (oD (dT ([]:List Tm)) <| oB 2 h22 k))
 obtain ⟨r23,h24,h⟩:=obind h
 have k:=oB 2 h22 k
 rcases r23 with y32 | y25
 dsimp only at h
 have k:=oC 0 [] (c45 h24) k
 rcases spl h with ⟨h33,h⟩ | ⟨h33,h⟩
 obtain rfl:=sj h
 exact k16 (tF q16 1 [] (oD (dT ([]:List Tm)) <| oB 2 h33 k))
 obtain ⟨r34,h35,h⟩:=obind h
 have k:=oC 1 [] (c68va17286 h35) <| oB 2 h33 k
 rcases spl h with ⟨h36,h⟩ | ⟨h36,h⟩
 obtain rfl:=sj h
 exact k16 (tF q16 1 [] (oD (dT ([]:List Tm)) <| oB 3 h36 k))
 obtain ⟨r37,h38,h⟩:=obind h
 obtain rfl:=sj h
 exact k16 (tF q16 1 [] (oD (dT r34.1.sub) <| oC 1 [] (c48va47633 h38) <| oB 3 h36 k))
 dsimp only at h
 have k:=oC 0 [] (c45 h24) k
 rcases spl h with ⟨h26,h⟩ | ⟨h26,h⟩
 obtain rfl:=sj h
 exact k16 (tF q16 1 [] (oD (dT ([]:List Tm)) <| oB 2 h26 k))
 obtain ⟨r27,h28,h⟩:=obind h
 have k:=oC 1 [2] (c68va53055 h28) <| oB 2 h26 k
 rcases spl h with ⟨h29,h⟩ | ⟨h29,h⟩
 obtain rfl:=sj h
 exact k16 (tF q16 1 [] (oD (dT ([]:List Tm)) <| oB 3 h29 k))
 obtain ⟨r30,h31,h⟩:=obind h
 obtain rfl:=sj h
 exact k16 (tF q16 1 [] (oD (dT r27.1.sub) <| oC 1 [2] (c48 h31) <| oB 3 h29 k))
 dsimp only at h
 have k:=oC 0 [] (c37 h2) o0
 rcases spl h with ⟨h4,h⟩ | ⟨h4,h⟩
 obtain rfl:=sj h
 exact k16 (tF q16 1 [] (oD (dT ([]:List Tm)) <| oB 2 h4 k))
 obtain ⟨r5,h6,h⟩:=obind h
 have k:=oB 2 h4 k
 rcases r5 with y14 | y7
 dsimp only at h
 have k:=oC 0 [] (c45 h6) k
 rcases spl h with ⟨h15,h⟩ | ⟨h15,h⟩
 obtain rfl:=sj h
 exact k16 (tF q16 1 [] (oD (dT ([]:List Tm)) <| oB 2 h15 k))
 obtain ⟨r16,h17,h⟩:=obind h
 have k:=oC 1 [2,3] (c68va14437 h17) <| oB 2 h15 k
 rcases spl h with ⟨h18,h⟩ | ⟨h18,h⟩
 obtain rfl:=sj h
 exact k16 (tF q16 1 [] (oD (dT ([]:List Tm)) <| oB 3 h18 k))
 obtain ⟨r19,h20,h⟩:=obind h
 obtain rfl:=sj h
 exact k16 (tF q16 1 [] (oD (dT r16.1.sub) <| oC 1 [] (c48va47633 h20) <| oB 3 h18 k))
 dsimp only at h
 have k:=oC 0 [] (c45 h6) k
 rcases spl h with ⟨h8,h⟩ | ⟨h8,h⟩
 obtain rfl:=sj h
 exact k16 (tF q16 1 [] (oD (dT ([]:List Tm)) <| oB 2 h8 k))
 obtain ⟨r9,h10,h⟩:=obind h
 have k:=oC 1 [2,3,4] (c68 h10) <| oB 2 h8 k
 rcases spl h with ⟨h11,h⟩ | ⟨h11,h⟩
 obtain rfl:=sj h
 exact k16 (tF q16 1 [] (oD (dT ([]:List Tm)) <| oB 3 h11 k))
 obtain ⟨r12,h13,h⟩:=obind h
 obtain rfl:=sj h
 exact k16 (tF q16 1 [] (oD (dT r9.1.sub) <| oC 1 [4] (c48 h13) <| oB 3 h11 k))
def e265va38843 (qq:Nat) (q0 q1:List Ent) (q2:List Con') (q3 q4:List Int) (q5:List Ent) (q6:Int) (p1:Tm):Option (Tm × Int) :=
 e69va14437 qq q0 q1 q2 q3 q4 p1 >>= fun r1 =>
 if q6 == 0 then
 some (r1.1,r1.2)
 else
 some (r1.1,q6)
abbrev K265va38843 (q0 q1:List Ent) (q2:List Con') (q3 q4:List Int) (q5:List Ent) (q6:Int) (p1:Tm) (r:Tm × Int) (C:Cf):Prop:=C 265 [.cells [.mp 1 0,slv entL q5 .no,.val (.pointer none),ai q6],.cells [slv entL q0 .no,.mp 2 0,slv intC q3 .no,slv intC q4 .no],.cells [slv entL q1 .no,slv conL q2 .no]] [.mp 0 0,tmA p1] (tmA r.1) [.cells [.mp 1 0,slv entL q5 .no,.val (.pointer none),ai r.2],.cells [slv entL q0 .no,.mp 2 0,slv intC q3 .no,slv intC q4 .no],.cells [slv entL q1 .no,slv conL q2 .no]] 0
theorem q265va38843:Qf 265 Tryz.f265:=⟨Tryz.func265,by kernel_rfl⟩
theorem k265va38843 {q0 q1 q2 q3 q4 q5 q6 p1 r} (h:K265va38843 q0 q1 q2 q3 q4 q5 q6 p1 r Ci):K265va38843 q0 q1 q2 q3 q4 q5 q6 p1 r Ct:=⟨h,⟨(lz rfl),⟨tv,tv,⟨tv,dT _⟩,tv⟩,tv⟩,(forall_cons ⟨(lz rfl),⟨tv,dE _⟩,tv,tv,tv⟩ (forall_cons ⟨⟨tv,dE _⟩,(lz rfl),⟨tv,dI _⟩,⟨tv,dI _⟩,tv⟩ (forall_cons ⟨⟨tv,dE _⟩,⟨tv,dC _⟩,tv⟩ forall_nil))),⟨tv,tv,dT _,tv⟩,(forall_cons ⟨(lz rfl),dE _,tv,tv,tv⟩ (forall_cons ⟨dE _,(lz rfl),dI _,dI _,tv⟩ (forall_cons ⟨dE _,dC _,tv⟩ forall_nil)))⟩
theorem c265va38843 {qq q0 q1 q2 q3 q4 q5 q6 p1 r} (h:e265va38843 qq q0 q1 q2 q3 q4 q5 q6 p1 = some r):K265va38843 q0 q1 q2 q3 q4 q5 q6 p1 r Ct:=by
 unfold e265va38843 at h
 obtain ⟨r1,h2,h⟩:=obind h
 have k:=oC 3 [1,2] (c69va14437 h2) o0
 rcases spl h with ⟨h3,h⟩ | ⟨h3,h⟩
 obtain rfl:=sj h
 exact k265va38843 (tF q265va38843 3 [0,1,2] (oD (dT r1.1.sub) <| oD (dC q2) <| oD (dE q1) <| oD (dI q4) <| oD (dI q3) <| oD (dE q0) <| oD (dE q5) <| oB 4 h3 k))
 obtain rfl:=sj h
 exact k265va38843 (tF q265va38843 2 [0,1,2] (oD (dT r1.1.sub) <| oD (dC q2) <| oD (dE q1) <| oD (dI q4) <| oD (dI q3) <| oD (dE q0) <| oD (dE q5) <| oB 4 h3 k))
def e198va10998 (qq:Nat) (q0 q1:List Ent) (q2:List Con') (q3 q4:List Int) (q5:List Ent) (q6:Int) (p1 p2:Tm):Option (Tm × Tm × Bool × Int) :=
 if q6 != 0 then
 some (p1,p2,false,q6)
 else
 e265va38843 qq q0 q1 q2 q3 q4 q5 q6 p1 >>= fun r2 =>
 if r2.2 != 0 then
 some (r2.1,p2,false,r2.2)
 else
 e265va38843 qq q0 q1 q2 q3 q4 q5 r2.2 p2 >>= fun r5 =>
 some (r2.1,r5.1,(r5.2 == 0),r5.2)
abbrev K198va10998 (q0 q1:List Ent) (q2:List Con') (q3 q4:List Int) (q5:List Ent) (q6:Int) (p1 p2:Tm) (r:Tm × Tm × Bool × Int) (C:Cf):Prop:=C 198 [.cells [.mp 1 0,slv entL q5 .no,.val (.pointer none),ai q6],.cells [slv entL q0 .no,.mp 2 0,slv intC q3 .no,slv intC q4 .no],.cells [slv entL q1 .no,slv conL q2 .no]] [.mp 0 0,tmA p1,tmA p2] (.tup [tmA r.1,tmA r.2.1,ab r.2.2.1]) [.cells [.mp 1 0,slv entL q5 .no,.val (.pointer none),ai r.2.2.2],.cells [slv entL q0 .no,.mp 2 0,slv intC q3 .no,slv intC q4 .no],.cells [slv entL q1 .no,slv conL q2 .no]] 0
theorem q198va10998:Qf 198 Tryz.f198:=⟨Tryz.func198,by kernel_rfl⟩
theorem k198va10998 {q0 q1 q2 q3 q4 q5 q6 p1 p2 r} (h:K198va10998 q0 q1 q2 q3 q4 q5 q6 p1 p2 r Ci):K198va10998 q0 q1 q2 q3 q4 q5 q6 p1 p2 r Ct:=⟨h,⟨(lz rfl),⟨tv,tv,⟨tv,dT _⟩,tv⟩,⟨tv,tv,⟨tv,dT _⟩,tv⟩,tv⟩,(forall_cons ⟨(lz rfl),⟨tv,dE _⟩,tv,tv,tv⟩ (forall_cons ⟨⟨tv,dE _⟩,(lz rfl),⟨tv,dI _⟩,⟨tv,dI _⟩,tv⟩ (forall_cons ⟨⟨tv,dE _⟩,⟨tv,dC _⟩,tv⟩ forall_nil))),⟨⟨tv,tv,dT _,tv⟩,⟨tv,tv,dT _,tv⟩,tv,tv⟩,(forall_cons ⟨(lz rfl),dE _,tv,tv,tv⟩ (forall_cons ⟨dE _,(lz rfl),dI _,dI _,tv⟩ (forall_cons ⟨dE _,dC _,tv⟩ forall_nil)))⟩
theorem c198va10998 {qq q0 q1 q2 q3 q4 q5 q6 p1 p2 r} (h:e198va10998 qq q0 q1 q2 q3 q4 q5 q6 p1 p2 = some r):K198va10998 q0 q1 q2 q3 q4 q5 q6 p1 p2 r Ct:=by
 unfold e198va10998 at h
 rcases spl h with ⟨h1,h⟩ | ⟨h1,h⟩
 obtain rfl:=sj h
 exact k198va10998 (tF q198va10998 4 [0,1,2] (oD (dT p2.sub) <| oD (dT p1.sub) <| oD (dC q2) <| oD (dE q1) <| oD (dI q4) <| oD (dI q3) <| oD (dE q0) <| oD (dE q5) <| oB 1 h1 o0))
 obtain ⟨r2,h3,h⟩:=obind h
 have k:=oC 1 [0,1,2] (c265va38843 h3) <| oB 1 h1 o0
 rcases spl h with ⟨h4,h⟩ | ⟨h4,h⟩
 obtain rfl:=sj h
 exact k198va10998 (tF q198va10998 4 [0,1,2] (oD (dT p2.sub) <| oD (dT r2.1.sub) <| oD (dC q2) <| oD (dE q1) <| oD (dI q4) <| oD (dI q3) <| oD (dE q0) <| oD (dE q5) <| oB 2 h4 k))
 obtain ⟨r5,h6,h⟩:=obind h
 obtain rfl:=sj h
 exact k198va10998 (tF q198va10998 7 [0,1,2] (oD (dT r5.1.sub) <| oD (dT r2.1.sub) <| oD (dC q2) <| oD (dE q1) <| oD (dI q4) <| oD (dI q3) <| oD (dE q0) <| oD (dE q5) <| oC 1 [0,1,2] (c265va38843 h6) <| oB 2 h4 k))
def e266va38843 (qq:Nat) (q0 q1:List Ent) (q2:List Con') (q3 q4:List Int) (q5:List Ent) (q6:Int) (p1:Tm):Option (Tm × Int) :=
 if p1.k == 4 then
 gidx p1.sub 1 >>= fun x2 =>
 some (x2,q6)
 else
 e278 qq p1 1 >>= fun r4 =>
 e149 qq 0 >>= fun r6 =>
 e156 qq r4.1 r6 >>= fun r8 =>
 if r4.2 == 0 then
 e89 qq r8 >>= fun r11 =>
 if r11 then
 if q6 == 0 then
 some (r8,r4.2)
 else
 some (r8,q6)
 else
 if q6 == 0 then
 some (r8,2)
 else
 some (r8,q6)
 else
 if q6 == 0 then
 some (r8,r4.2)
 else
 some (r8,q6)
abbrev K266va38843 (q0 q1:List Ent) (q2:List Con') (q3 q4:List Int) (q5:List Ent) (q6:Int) (p1:Tm) (r:Tm × Int) (C:Cf):Prop:=C 266 [.cells [.mp 1 0,slv entL q5 .no,.val (.pointer none),ai q6],.cells [slv entL q0 .no,.mp 2 0,slv intC q3 .no,slv intC q4 .no],.cells [slv entL q1 .no,slv conL q2 .no]] [.mp 0 0,tmA p1] (tmA r.1) [.cells [.mp 1 0,slv entL q5 .no,.val (.pointer none),ai r.2],.cells [slv entL q0 .no,.mp 2 0,slv intC q3 .no,slv intC q4 .no],.cells [slv entL q1 .no,slv conL q2 .no]] 0
theorem q266va38843:Qf 266 Tryz.f266:=⟨Tryz.func266,by kernel_rfl⟩
theorem k266va38843 {q0 q1 q2 q3 q4 q5 q6 p1 r} (h:K266va38843 q0 q1 q2 q3 q4 q5 q6 p1 r Ci):K266va38843 q0 q1 q2 q3 q4 q5 q6 p1 r Ct:=⟨h,⟨(lz rfl),⟨tv,tv,⟨tv,dT _⟩,tv⟩,tv⟩,(forall_cons ⟨(lz rfl),⟨tv,dE _⟩,tv,tv,tv⟩ (forall_cons ⟨⟨tv,dE _⟩,(lz rfl),⟨tv,dI _⟩,⟨tv,dI _⟩,tv⟩ (forall_cons ⟨⟨tv,dE _⟩,⟨tv,dC _⟩,tv⟩ forall_nil))),⟨tv,tv,dT _,tv⟩,(forall_cons ⟨(lz rfl),dE _,tv,tv,tv⟩ (forall_cons ⟨dE _,(lz rfl),dI _,dI _,tv⟩ (forall_cons ⟨dE _,dC _,tv⟩ forall_nil)))⟩
theorem c266va38843 {qq q0 q1 q2 q3 q4 q5 q6 p1 r} (h:e266va38843 qq q0 q1 q2 q3 q4 q5 q6 p1 = some r):K266va38843 q0 q1 q2 q3 q4 q5 q6 p1 r Ct:=by
 unfold e266va38843 at h
 rcases spl h with ⟨h1,h⟩ | ⟨h1,h⟩
 obtain ⟨x2,h3,h⟩:=obind h
 obtain rfl:=sj h
 exact k266va38843 (tF q266va38843 2 [0,1,2] (oD (dT x2.sub) <| oD (dC q2) <| oD (dE q1) <| oD (dI q4) <| oD (dI q3) <| oD (dE q0) <| oD (dE q5) <| oA 1 (ix23 (o:=.no) h3) <| oB 1 h1 o0))
 obtain ⟨r4,h5,h⟩:=obind h
 obtain ⟨r6,h7,h⟩:=obind h
 obtain ⟨r8,h9,h⟩:=obind h
 have k:=oC 0 [] (c156 h9) <| oC 4 [] (c149 h7) <| oC 1 [] (c278 h5) <| oB 1 h1 o0
 rcases spl h with ⟨h10,h⟩ | ⟨h10,h⟩
 obtain ⟨r11,h12,h⟩:=obind h
 have k:=oB 1 h10 k
 rcases spl h with ⟨h13,h⟩ | ⟨h13,h⟩
 have k:=oK 1 [] h13 (c89 h12) k
 rcases spl h with ⟨h14,h⟩ | ⟨h14,h⟩
 obtain rfl:=sj h
 exact k266va38843 (tF q266va38843 3 [0,1,2] (oD (dT r8.sub) <| oD (dC q2) <| oD (dE q1) <| oD (dI q4) <| oD (dI q3) <| oD (dE q0) <| oD (dE q5) <| oB 2 h14 k))
 obtain rfl:=sj h
 exact k266va38843 (tF q266va38843 2 [0,1,2] (oD (dT r8.sub) <| oD (dC q2) <| oD (dE q1) <| oD (dI q4) <| oD (dI q3) <| oD (dE q0) <| oD (dE q5) <| oB 2 h14 k))
 have k:=oK 1 [] h13 (c89 h12) k
 rcases spl h with ⟨h15,h⟩ | ⟨h15,h⟩
 obtain rfl:=sj h
 exact k266va38843 (tF q266va38843 3 [0,1,2] (oD (dT r8.sub) <| oD (dC q2) <| oD (dE q1) <| oD (dI q4) <| oD (dI q3) <| oD (dE q0) <| oD (dE q5) <| oB 2 h15 k))
 obtain rfl:=sj h
 exact k266va38843 (tF q266va38843 2 [0,1,2] (oD (dT r8.sub) <| oD (dC q2) <| oD (dE q1) <| oD (dI q4) <| oD (dI q3) <| oD (dE q0) <| oD (dE q5) <| oB 2 h15 k))
 have k:=oB 1 h10 k
 rcases spl h with ⟨h16,h⟩ | ⟨h16,h⟩
 obtain rfl:=sj h
 exact k266va38843 (tF q266va38843 3 [0,1,2] (oD (dT r8.sub) <| oD (dC q2) <| oD (dE q1) <| oD (dI q4) <| oD (dI q3) <| oD (dE q0) <| oD (dE q5) <| oB 1 h16 k))
 obtain rfl:=sj h
 exact k266va38843 (tF q266va38843 2 [0,1,2] (oD (dT r8.sub) <| oD (dC q2) <| oD (dE q1) <| oD (dI q4) <| oD (dI q3) <| oD (dE q0) <| oD (dE q5) <| oB 1 h16 k))
def e267va38843 (qq:Nat) (q0 q1:List Ent) (q2:List Con') (q3 q4:List Int) (q5:List Ent) (q6:Int) (p1:Tm):Option (Int × List Tm × Bool) :=
 e165 qq (Mach.mk q0 q1 q2 q3 q4) p1 >>= fun r1 =>
 if r1.2.2 then
 gidx q5 r1.1 >>= fun x4 =>
 gidx q5 x4.fam >>= fun x6 =>
 if (List.length x6.fields:Int) == 0 then
 some (0,[],false)
 else
 some (r1.1,r1.2.1,true)
 else
 some (0,[],false)
abbrev K267va38843 (q0 q1:List Ent) (q2:List Con') (q3 q4:List Int) (q5:List Ent) (q6:Int) (p1:Tm) (r:Int × List Tm × Bool) (C:Cf):Prop:=C 267 [.cells [.mp 1 0,slv entL q5 .no,.val (.pointer none),ai q6],.cells [slv entL q0 .no,.mp 2 0,slv intC q3 .no,slv intC q4 .no],.cells [slv entL q1 .no,slv conL q2 .no]] [.mp 0 0,tmA p1] (.tup [ai r.1,.sl (flat tmCells r.2.1) (List.length r.2.1) .no,ab r.2.2]) [.cells [.mp 1 0,slv entL q5 .no,.val (.pointer none),ai q6],.cells [slv entL q0 .no,.mp 2 0,slv intC q3 .no,slv intC q4 .no],.cells [slv entL q1 .no,slv conL q2 .no]] 0
theorem q267va38843:Qf 267 Tryz.f267:=⟨Tryz.func267,by kernel_rfl⟩
theorem k267va38843 {q0 q1 q2 q3 q4 q5 q6 p1 r} (h:K267va38843 q0 q1 q2 q3 q4 q5 q6 p1 r Ci):K267va38843 q0 q1 q2 q3 q4 q5 q6 p1 r Ct:=⟨h,⟨(lz rfl),⟨tv,tv,⟨tv,dT _⟩,tv⟩,tv⟩,(forall_cons ⟨(lz rfl),⟨tv,dE _⟩,tv,tv,tv⟩ (forall_cons ⟨⟨tv,dE _⟩,(lz rfl),⟨tv,dI _⟩,⟨tv,dI _⟩,tv⟩ (forall_cons ⟨⟨tv,dE _⟩,⟨tv,dC _⟩,tv⟩ forall_nil))),⟨tv,dT _,tv,tv⟩,(forall_cons ⟨(lz rfl),dE _,tv,tv,tv⟩ (forall_cons ⟨dE _,(lz rfl),dI _,dI _,tv⟩ (forall_cons ⟨dE _,dC _,tv⟩ forall_nil)))⟩
theorem c267va38843 {qq q0 q1 q2 q3 q4 q5 q6 p1 r} (h:e267va38843 qq q0 q1 q2 q3 q4 q5 q6 p1 = some r):K267va38843 q0 q1 q2 q3 q4 q5 q6 p1 r Ct:=by
 unfold e267va38843 at h
 obtain ⟨r1,h2,h⟩:=obind h
 have k:=oC 2 [1,2] (c165 h2) o0
 rcases spl h with ⟨h3,h⟩ | ⟨h3,h⟩
 obtain ⟨x4,h5,h⟩:=obind h
 obtain ⟨x6,h7,h⟩:=obind h
 have k:=oA 1 (ix22 (o:=.no) h7) <| oA 3 (ix22 (o:=.no) h5) <| oB 2 h3 k
 rcases spl h with ⟨h8,h⟩ | ⟨h8,h⟩
 obtain rfl:=sj h
 exact k267va38843 (tF q267va38843 0 [0,1,2] (oD (dT ([]:List Tm)) <| oD (dC q2) <| oD (dE q1) <| oD (dI q4) <| oD (dI q3) <| oD (dE q0) <| oD (dE q5) <| oB 2 h8 k))
 obtain rfl:=sj h
 exact k267va38843 (tF q267va38843 0 [0,1,2] (oD (dT r1.2.1) <| oD (dC q2) <| oD (dE q1) <| oD (dI q4) <| oD (dI q3) <| oD (dE q0) <| oD (dE q5) <| oB 2 h8 k))
 obtain rfl:=sj h
 exact k267va38843 (tF q267va38843 1 [0,1,2] (oD (dT ([]:List Tm)) <| oD (dC q2) <| oD (dE q1) <| oD (dI q4) <| oD (dI q3) <| oD (dE q0) <| oD (dE q5) <| oB 2 h3 k))
def e313va59181 (qq:Nat) (q0 q1:List Ent) (q2:List Con') (q3 q4:List Int) (q5:List Ent) (q6:Int) (p1:Tm) (p2 p3:Int) (p4:List Tm):Option (Tm × Int) :=
 e267va38843 qq q0 q1 q2 q3 q4 q5 q6 p1 >>= fun r1 =>
 if r1.2.2 then
 if r1.1 == p2 then
 gidx r1.2.1 (w64 ((List.length p4:Int) + p3)) >>= fun x5 =>
 some (x5,q6)
 else
 gidx q5 p2 >>= fun x7 =>
 gidx q5 x7.fam >>= fun x9 =>
 gidx x9.fields p3 >>= fun x11 =>
 e152 qq x11 >>= fun r13 =>
 e151 qq r13 p4 >>= fun r15 =>
 e156 qq r15 p1 >>= fun r17 =>
 if q6 == 0 then
 e89 qq r17 >>= fun r20 =>
 if r20 then
 some (r17,q6)
 else
 some (r17,2)
 else
 some (r17,q6)
 else
 gidx q5 p2 >>= fun x23 =>
 gidx q5 x23.fam >>= fun x25 =>
 gidx x25.fields p3 >>= fun x27 =>
 e152 qq x27 >>= fun r29 =>
 e151 qq r29 p4 >>= fun r31 =>
 e156 qq r31 p1 >>= fun r33 =>
 if q6 == 0 then
 e89 qq r33 >>= fun r36 =>
 if r36 then
 some (r33,q6)
 else
 some (r33,2)
 else
 some (r33,q6)
abbrev K313va59181 (q0 q1:List Ent) (q2:List Con') (q3 q4:List Int) (q5:List Ent) (q6:Int) (p1:Tm) (p2 p3:Int) (p4:List Tm) (r:Tm × Int) (C:Cf):Prop:=C 313 [.cells [.mp 1 0,slv entL q5 .no,.val (.pointer none),ai q6],.cells [slv entL q0 .no,.mp 2 0,slv intC q3 .no,slv intC q4 .no],.cells [slv entL q1 .no,slv conL q2 .no]] [.mp 0 0,tmA p1,ai p2,ai p3,slv tmCells p4 .no] (tmA r.1) [.cells [.mp 1 0,slv entL q5 .no,.val (.pointer none),ai r.2],.cells [slv entL q0 .no,.mp 2 0,slv intC q3 .no,slv intC q4 .no],.cells [slv entL q1 .no,slv conL q2 .no]] 0
theorem q313va59181:Qf 313 Tryz.f313:=⟨Tryz.func313,by kernel_rfl⟩
theorem k313va59181 {q0 q1 q2 q3 q4 q5 q6 p1 p2 p3 p4 r} (h:K313va59181 q0 q1 q2 q3 q4 q5 q6 p1 p2 p3 p4 r Ci):K313va59181 q0 q1 q2 q3 q4 q5 q6 p1 p2 p3 p4 r Ct:=⟨h,⟨(lz rfl),⟨tv,tv,⟨tv,dT _⟩,tv⟩,tv,tv,⟨tv,dT _⟩,tv⟩,(forall_cons ⟨(lz rfl),⟨tv,dE _⟩,tv,tv,tv⟩ (forall_cons ⟨⟨tv,dE _⟩,(lz rfl),⟨tv,dI _⟩,⟨tv,dI _⟩,tv⟩ (forall_cons ⟨⟨tv,dE _⟩,⟨tv,dC _⟩,tv⟩ forall_nil))),⟨tv,tv,dT _,tv⟩,(forall_cons ⟨(lz rfl),dE _,tv,tv,tv⟩ (forall_cons ⟨dE _,(lz rfl),dI _,dI _,tv⟩ (forall_cons ⟨dE _,dC _,tv⟩ forall_nil)))⟩
theorem c313va59181 {qq q0 q1 q2 q3 q4 q5 q6 p1 p2 p3 p4 r} (h:e313va59181 qq q0 q1 q2 q3 q4 q5 q6 p1 p2 p3 p4 = some r):K313va59181 q0 q1 q2 q3 q4 q5 q6 p1 p2 p3 p4 r Ct:=by
 unfold e313va59181 at h
 obtain ⟨r1,h2,h⟩:=obind h
 have k:=oC 1 [0,1,2] (c267va38843 h2) o0
 rcases spl h with ⟨h3,h⟩ | ⟨h3,h⟩
 have k:=oB 2 h3 k
 rcases spl h with ⟨h4,h⟩ | ⟨h4,h⟩
 obtain ⟨x5,h6,h⟩:=obind h
 obtain rfl:=sj h
 exact k313va59181 (tF q313va59181 2 [0,1,2] (oD (dT x5.sub) <| oD (dC q2) <| oD (dE q1) <| oD (dI q4) <| oD (dI q3) <| oD (dE q0) <| oD (dE q5) <| oA 2 (ix23 (o:=.no) h6) <| oB 0 h4 k))
 obtain ⟨x7,h8,h⟩:=obind h
 obtain ⟨x9,h10,h⟩:=obind h
 obtain ⟨x11,h12,h⟩:=obind h
 obtain ⟨r13,h14,h⟩:=obind h
 obtain ⟨r15,h16,h⟩:=obind h
 obtain ⟨r17,h18,h⟩:=obind h
 have k:=oC 1 [] (c156 h18) <| oC 0 [] (c151 h16) <| oC 1 [] (c152 h14) <| oA 1 (ix41 (o:=.no) h12) <| oA 1 (ix22 (o:=.no) h10) <| oA 2 (ix22 (o:=.no) h8) <| oB 0 h4 k
 rcases spl h with ⟨h19,h⟩ | ⟨h19,h⟩
 obtain ⟨r20,h21,h⟩:=obind h
 have k:=oB 2 h19 k
 rcases spl h with ⟨h22,h⟩ | ⟨h22,h⟩
 obtain rfl:=sj h
 exact k313va59181 (tF q313va59181 3 [0,1,2] (oD (dT r17.sub) <| oD (dC q2) <| oD (dE q1) <| oD (dI q4) <| oD (dI q3) <| oD (dE q0) <| oD (dE q5) <| oK 1 [] h22 (c89 h21) k))
 obtain rfl:=sj h
 exact k313va59181 (tF q313va59181 4 [0,1,2] (oD (dT r17.sub) <| oD (dC q2) <| oD (dE q1) <| oD (dI q4) <| oD (dI q3) <| oD (dE q0) <| oD (dE q5) <| oK 1 [] h22 (c89 h21) k))
 obtain rfl:=sj h
 exact k313va59181 (tF q313va59181 2 [0,1,2] (oD (dT r17.sub) <| oD (dC q2) <| oD (dE q1) <| oD (dI q4) <| oD (dI q3) <| oD (dE q0) <| oD (dE q5) <| oB 2 h19 k))
 obtain ⟨x23,h24,h⟩:=obind h
 obtain ⟨x25,h26,h⟩:=obind h
 obtain ⟨x27,h28,h⟩:=obind h
 obtain ⟨r29,h30,h⟩:=obind h
 obtain ⟨r31,h32,h⟩:=obind h
 obtain ⟨r33,h34,h⟩:=obind h
 have k:=oC 1 [] (c156 h34) <| oC 0 [] (c151 h32) <| oC 1 [] (c152 h30) <| oA 1 (ix41 (o:=.no) h28) <| oA 1 (ix22 (o:=.no) h26) <| oA 2 (ix22 (o:=.no) h24) <| oB 2 h3 k
 rcases spl h with ⟨h35,h⟩ | ⟨h35,h⟩
 obtain ⟨r36,h37,h⟩:=obind h
 have k:=oB 2 h35 k
 rcases spl h with ⟨h38,h⟩ | ⟨h38,h⟩
 obtain rfl:=sj h
 exact k313va59181 (tF q313va59181 3 [0,1,2] (oD (dT r33.sub) <| oD (dC q2) <| oD (dE q1) <| oD (dI q4) <| oD (dI q3) <| oD (dE q0) <| oD (dE q5) <| oK 1 [] h38 (c89 h37) k))
 obtain rfl:=sj h
 exact k313va59181 (tF q313va59181 4 [0,1,2] (oD (dT r33.sub) <| oD (dC q2) <| oD (dE q1) <| oD (dI q4) <| oD (dI q3) <| oD (dE q0) <| oD (dE q5) <| oK 1 [] h38 (c89 h37) k))
 obtain rfl:=sj h
 exact k313va59181 (tF q313va59181 2 [0,1,2] (oD (dT r33.sub) <| oD (dC q2) <| oD (dE q1) <| oD (dI q4) <| oD (dI q3) <| oD (dE q0) <| oD (dE q5) <| oB 2 h35 k))
mutual
def e135va10998:Nat → (List Ent) → (List Ent) → (List Con') → (List Int) → (List Int) → (List Ent) → Int → Tm → Tm → Option (Bool × Int)
 | 0,_,_,_,_,_,_,_,_,_ => none
 | qq + 1,q0,q1,q2,q3,q4,q5,q6,p1,p2 =>
 e198va10998 qq q0 q1 q2 q3 q4 q5 q6 p1 p2 >>= fun r1 =>
 if r1.2.2.1 then
 e199va31596 qq q0 q1 q2 q3 q4 q5 r1.2.2.2 r1.1 r1.2.1 >>= fun r4 =>
 some (r4.1,r4.2)
 else
 some (false,r1.2.2.2)
def e199va31596:Nat → (List Ent) → (List Ent) → (List Con') → (List Int) → (List Int) → (List Ent) → Int → Tm → Tm → Option (Bool × Int)
 | 0,_,_,_,_,_,_,_,_,_ => none
 | qq + 1,q0,q1,q2,q3,q4,q5,q6,p1,p2 =>
 if p1.k == 4 then
 e266va38843 qq q0 q1 q2 q3 q4 q5 q6 p1 >>= fun r2 =>
 e266va38843 qq q0 q1 q2 q3 q4 q5 r2.2 p2 >>= fun r4 =>
 e135va10998 qq q0 q1 q2 q3 q4 q5 r4.2 r2.1 r4.1 >>= fun r6 =>
 some (r6.1,r6.2)
 else
 if p2.k == 4 then
 e266va38843 qq q0 q1 q2 q3 q4 q5 q6 p1 >>= fun r9 =>
 e266va38843 qq q0 q1 q2 q3 q4 q5 r9.2 p2 >>= fun r11 =>
 e135va10998 qq q0 q1 q2 q3 q4 q5 r11.2 r9.1 r11.1 >>= fun r13 =>
 some (r13.1,r13.2)
 else
 e267va38843 qq q0 q1 q2 q3 q4 q5 q6 p1 >>= fun r15 =>
 if r15.2.2 then
 e267va38843 qq q0 q1 q2 q3 q4 q5 q6 p2 >>= fun r18 =>
 if r18.2.2 then
 if r15.1 != r18.1 then
 some (false,q6)
 else
 gidx q5 r15.1 >>= fun x22 =>
 gsl r15.2.1 0 x22.pars >>= fun x24 =>
 e268va61798 qq q0 q1 q2 q3 q4 q5 q6 p1 p2 r15.1 x24 >>= fun r26 =>
 some (r26.1,r26.2)
 else
 gidx q5 r15.1 >>= fun x28 =>
 gsl r15.2.1 0 x28.pars >>= fun x30 =>
 e268va61798 qq q0 q1 q2 q3 q4 q5 q6 p1 p2 r15.1 x30 >>= fun r32 =>
 some (r32.1,r32.2)
 else
 e267va38843 qq q0 q1 q2 q3 q4 q5 q6 p2 >>= fun r34 =>
 if r34.2.2 then
 gidx q5 r34.1 >>= fun x37 =>
 gsl r34.2.1 0 x37.pars >>= fun x39 =>
 e268va61798 qq q0 q1 q2 q3 q4 q5 q6 p1 p2 r34.1 x39 >>= fun r41 =>
 some (r41.1,r41.2)
 else
 if p1.k != p2.k then
 some (false,q6)
 else
 if p1.k == 3 then
 gidx p1.sub 0 >>= fun x45 =>
 gidx p2.sub 0 >>= fun x47 =>
 e135va10998 qq q0 q1 q2 q3 q4 q5 q6 x45 x47 >>= fun r49 =>
 if r49.1 then
 gidx p1.sub 1 >>= fun x52 =>
 gidx p2.sub 1 >>= fun x54 =>
 e135va10998 qq q0 q1 q2 q3 q4 q5 r49.2 x52 x54 >>= fun r56 =>
 some (r56.1,r56.2)
 else
 some (false,r49.2)
 else
 if p1.k == 2 then
 e200 qq p1.n p2.n >>= fun r59 =>
 some (r59,q6)
 else
 e269va10998 qq q0 q1 q2 q3 q4 q5 q6 p1 p2 >>= fun r61 =>
 some (r61.1,r61.2)
def e268va61798:Nat → (List Ent) → (List Ent) → (List Con') → (List Int) → (List Int) → (List Ent) → Int → Tm → Tm → Int → (List Tm) → Option (Bool × Int)
 | 0,_,_,_,_,_,_,_,_,_,_,_ => none
 | qq + 1,q0,q1,q2,q3,q4,q5,q6,p1,p2,p3,p4 =>
 gidx q5 p3 >>= fun x1 =>
 gidx q5 x1.fam >>= fun x3 =>
 e268va61798L45303 qq q0 q1 q2 q3 q4 q5 p1 p2 p3 p4 x3 0 q6
def e268va61798L45303:Nat → (List Ent) → (List Ent) → (List Con') → (List Int) → (List Int) → (List Ent) → Tm → Tm → Int → (List Tm) → Ent → Int → Int → Option (Bool × Int)
 | 0,_,_,_,_,_,_,_,_,_,_,_,_,_ => none
 | qq + 1,q0,q1,q2,q3,q4,q5,p1,p2,p3,p4,x3,v28,vb0_3 =>
 if decide (v28 < (List.length x3.fields:Int)) then
 e313va59181 qq q0 q1 q2 q3 q4 q5 vb0_3 p1 p3 v28 p4 >>= fun r6 =>
 e313va59181 qq q0 q1 q2 q3 q4 q5 r6.2 p2 p3 v28 p4 >>= fun r8 =>
 e135va10998 qq q0 q1 q2 q3 q4 q5 r8.2 r6.1 r8.1 >>= fun r10 =>
 if r10.1 then
 e268va61798L45303 qq q0 q1 q2 q3 q4 q5 p1 p2 p3 p4 x3 (w64 (v28 + 1)) r10.2
 else
 some (false,r10.2)
 else
 some (true,vb0_3)
def e269va10998:Nat → (List Ent) → (List Ent) → (List Con') → (List Int) → (List Int) → (List Ent) → Int → Tm → Tm → Option (Bool × Int)
 | 0,_,_,_,_,_,_,_,_,_ => none
 | qq + 1,q0,q1,q2,q3,q4,q5,q6,p1,p2 =>
 e167 qq p1 >>= fun r1 =>
 e167 qq p2 >>= fun r3 =>
 if r1.1.k != r3.1.k then
 some (false,q6)
 else
 if r1.1.n != r3.1.n then
 some (false,q6)
 else
 if (List.length r1.2:Int) != (List.length r3.2:Int) then
 some (false,q6)
 else
 if r1.1.k == 7 then
 gidx r1.1.sub 0 >>= fun x9 =>
 gidx r3.1.sub 0 >>= fun x11 =>
 if x9.n != x11.n then
 some (false,q6)
 else
 if r1.1.k == 3 then
 e135va10998 qq q0 q1 q2 q3 q4 q5 q6 x9 x11 >>= fun r15 =>
 if r15.1 then
 gidx r1.1.sub 1 >>= fun x18 =>
 gidx r3.1.sub 1 >>= fun x20 =>
 e135va10998 qq q0 q1 q2 q3 q4 q5 r15.2 x18 x20 >>= fun r22 =>
 if r22.1 then
 e269va10998L17401 qq q0 q1 q2 q3 q4 q5 r1 r3 0 r22.2
 else
 some (false,r22.2)
 else
 some (false,r15.2)
 else
 e269va10998L17401 qq q0 q1 q2 q3 q4 q5 r1 r3 0 q6
 else
 if r1.1.k == 3 then
 gidx r1.1.sub 0 >>= fun x26 =>
 gidx r3.1.sub 0 >>= fun x28 =>
 e135va10998 qq q0 q1 q2 q3 q4 q5 q6 x26 x28 >>= fun r30 =>
 if r30.1 then
 gidx r1.1.sub 1 >>= fun x33 =>
 gidx r3.1.sub 1 >>= fun x35 =>
 e135va10998 qq q0 q1 q2 q3 q4 q5 r30.2 x33 x35 >>= fun r37 =>
 if r37.1 then
 e269va10998L17401 qq q0 q1 q2 q3 q4 q5 r1 r3 0 r37.2
 else
 some (false,r37.2)
 else
 some (false,r30.2)
 else
 e269va10998L17401 qq q0 q1 q2 q3 q4 q5 r1 r3 0 q6
def e269va10998L17401:Nat → (List Ent) → (List Ent) → (List Con') → (List Int) → (List Int) → (List Ent) → (Tm × List Tm) → (Tm × List Tm) → Int → Int → Option (Bool × Int)
 | 0,_,_,_,_,_,_,_,_,_,_ => none
 | qq + 1,q0,q1,q2,q3,q4,q5,r1,r3,v89,vb0_3 =>
 if decide (v89 < (List.length r1.2:Int)) then
 gidx r1.2 v89 >>= fun x26 =>
 gidx r3.2 v89 >>= fun x28 =>
 e135va10998 qq q0 q1 q2 q3 q4 q5 vb0_3 x26 x28 >>= fun r30 =>
 if r30.1 then
 e269va10998L17401 qq q0 q1 q2 q3 q4 q5 r1 r3 (w64 (v89 + 1)) r30.2
 else
 some (false,r30.2)
 else
 some (true,vb0_3)
end
def g268va61798L45303E0 (j:Nat → Value) (q0 q1:List Ent) (q2:List Con') (q3 q4:List Int) (q5:List Ent) (p1 p2:Tm) (p3:Int) (p4:List Tm) (x3:Ent) (v28 vb0_3:Int):=sp j 47 0 [(0,.mp 0 0),(3,ai p3),(4,slv tmCells p4 .no),(6,.mp 3 0),(7,.mp 4 0),(27,ai (List.length x3.fields:Int)),(28,ai v28)]
def g268va61798L45303S0 (q0 q1:List Ent) (q2:List Con') (q3 q4:List Int) (q5:List Ent) (p1 p2:Tm) (p3:Int) (p4:List Tm) (x3:Ent) (v28 vb0_3:Int):LSt:=⟨[(0,.cells [.mp 1 0,slv entL q5 .no,.val (.pointer none),ai vb0_3]),(1,.cells [slv entL q0 .no,.mp 2 0,slv intC q3 .no,slv intC q4 .no]),(2,.cells [slv entL q1 .no,slv conL q2 .no]),(3,.cells [ai p1.k,ai p1.n,slv tmCells p1.sub .no]),(4,.cells [ai p2.k,ai p2.n,slv tmCells p2.sub .no])],5,[],0,[]⟩
def g269va10998L17401E0 (j:Nat → Value) (q0 q1:List Ent) (q2:List Con') (q3 q4:List Int) (q5:List Ent) (r1 r3:Tm × List Tm) (v89 vb0_3:Int):=sp j 104 0 [(0,.mp 0 0),(8,slv tmCells r1.2 .no),(10,slv tmCells r3.2 .no),(88,ai (List.length r1.2:Int)),(89,ai v89)]
def g269va10998L17401S0 (q0 q1:List Ent) (q2:List Con') (q3 q4:List Int) (q5:List Ent) (r1 r3:Tm × List Tm) (v89 vb0_3:Int):LSt:=⟨[(0,.cells [.mp 1 0,slv entL q5 .no,.val (.pointer none),ai vb0_3]),(1,.cells [slv entL q0 .no,.mp 2 0,slv intC q3 .no,slv intC q4 .no]),(2,.cells [slv entL q1 .no,slv conL q2 .no])],3,[],0,[]⟩
abbrev K135va10998 (q0 q1:List Ent) (q2:List Con') (q3 q4:List Int) (q5:List Ent) (q6:Int) (p1 p2:Tm) (r:Bool × Int) (C:Cf):Prop:=C 135 [.cells [.mp 1 0,slv entL q5 .no,.val (.pointer none),ai q6],.cells [slv entL q0 .no,.mp 2 0,slv intC q3 .no,slv intC q4 .no],.cells [slv entL q1 .no,slv conL q2 .no]] [.mp 0 0,tmA p1,tmA p2] (ab r.1) [.cells [.mp 1 0,slv entL q5 .no,.val (.pointer none),ai r.2],.cells [slv entL q0 .no,.mp 2 0,slv intC q3 .no,slv intC q4 .no],.cells [slv entL q1 .no,slv conL q2 .no]] 0
abbrev K199va31596 (q0 q1:List Ent) (q2:List Con') (q3 q4:List Int) (q5:List Ent) (q6:Int) (p1 p2:Tm) (r:Bool × Int) (C:Cf):Prop:=C 199 [.cells [.mp 1 0,slv entL q5 .no,.val (.pointer none),ai q6],.cells [slv entL q0 .no,.mp 2 0,slv intC q3 .no,slv intC q4 .no],.cells [slv entL q1 .no,slv conL q2 .no]] [.mp 0 0,tmA p1,tmA p2,.agg [.clo 200 [] [],.clo 135 [.mp 0 0] []]] (ab r.1) [.cells [.mp 1 0,slv entL q5 .no,.val (.pointer none),ai r.2],.cells [slv entL q0 .no,.mp 2 0,slv intC q3 .no,slv intC q4 .no],.cells [slv entL q1 .no,slv conL q2 .no]] 0
abbrev K268va61798 (q0 q1:List Ent) (q2:List Con') (q3 q4:List Int) (q5:List Ent) (q6:Int) (p1 p2:Tm) (p3:Int) (p4:List Tm) (r:Bool × Int) (C:Cf):Prop:=C 268 [.cells [.mp 1 0,slv entL q5 .no,.val (.pointer none),ai q6],.cells [slv entL q0 .no,.mp 2 0,slv intC q3 .no,slv intC q4 .no],.cells [slv entL q1 .no,slv conL q2 .no]] [.mp 0 0,tmA p1,tmA p2,ai p3,slv tmCells p4 .no] (ab r.1) [.cells [.mp 1 0,slv entL q5 .no,.val (.pointer none),ai r.2],.cells [slv entL q0 .no,.mp 2 0,slv intC q3 .no,slv intC q4 .no],.cells [slv entL q1 .no,slv conL q2 .no]] 0
abbrev K269va10998 (q0 q1:List Ent) (q2:List Con') (q3 q4:List Int) (q5:List Ent) (q6:Int) (p1 p2:Tm) (r:Bool × Int) (C:Cf):Prop:=C 269 [.cells [.mp 1 0,slv entL q5 .no,.val (.pointer none),ai q6],.cells [slv entL q0 .no,.mp 2 0,slv intC q3 .no,slv intC q4 .no],.cells [slv entL q1 .no,slv conL q2 .no]] [.mp 0 0,tmA p1,tmA p2] (ab r.1) [.cells [.mp 1 0,slv entL q5 .no,.val (.pointer none),ai r.2],.cells [slv entL q0 .no,.mp 2 0,slv intC q3 .no,slv intC q4 .no],.cells [slv entL q1 .no,slv conL q2 .no]] 0
theorem q135va10998:Qf 135 Tryz.f135:=⟨Tryz.func135,by kernel_rfl⟩
theorem k135va10998 {q0 q1 q2 q3 q4 q5 q6 p1 p2 r} (h:K135va10998 q0 q1 q2 q3 q4 q5 q6 p1 p2 r Ci):K135va10998 q0 q1 q2 q3 q4 q5 q6 p1 p2 r Ct:=⟨h,⟨(lz rfl),⟨tv,tv,⟨tv,dT _⟩,tv⟩,⟨tv,tv,⟨tv,dT _⟩,tv⟩,tv⟩,(forall_cons ⟨(lz rfl),⟨tv,dE _⟩,tv,tv,tv⟩ (forall_cons ⟨⟨tv,dE _⟩,(lz rfl),⟨tv,dI _⟩,⟨tv,dI _⟩,tv⟩ (forall_cons ⟨⟨tv,dE _⟩,⟨tv,dC _⟩,tv⟩ forall_nil))),tv,(forall_cons ⟨(lz rfl),dE _,tv,tv,tv⟩ (forall_cons ⟨dE _,(lz rfl),dI _,dI _,tv⟩ (forall_cons ⟨dE _,dC _,tv⟩ forall_nil)))⟩
theorem q199va31596:Qf 199 Tryz.f199:=⟨Tryz.func199,by kernel_rfl⟩
theorem k199va31596 {q0 q1 q2 q3 q4 q5 q6 p1 p2 r} (h:K199va31596 q0 q1 q2 q3 q4 q5 q6 p1 p2 r Ci):K199va31596 q0 q1 q2 q3 q4 q5 q6 p1 p2 r Ct:=⟨h,⟨(lz rfl),⟨tv,tv,⟨tv,dT _⟩,tv⟩,⟨tv,tv,⟨tv,dT _⟩,tv⟩,⟨⟨tv,tv⟩,⟨⟨(lz rfl),tv⟩,tv⟩,tv⟩,tv⟩,(forall_cons ⟨(lz rfl),⟨tv,dE _⟩,tv,tv,tv⟩ (forall_cons ⟨⟨tv,dE _⟩,(lz rfl),⟨tv,dI _⟩,⟨tv,dI _⟩,tv⟩ (forall_cons ⟨⟨tv,dE _⟩,⟨tv,dC _⟩,tv⟩ forall_nil))),tv,(forall_cons ⟨(lz rfl),dE _,tv,tv,tv⟩ (forall_cons ⟨dE _,(lz rfl),dI _,dI _,tv⟩ (forall_cons ⟨dE _,dC _,tv⟩ forall_nil)))⟩
theorem q268va61798:Qf 268 Tryz.f268:=⟨Tryz.func268,by kernel_rfl⟩
theorem k268va61798 {q0 q1 q2 q3 q4 q5 q6 p1 p2 p3 p4 r} (h:K268va61798 q0 q1 q2 q3 q4 q5 q6 p1 p2 p3 p4 r Ci):K268va61798 q0 q1 q2 q3 q4 q5 q6 p1 p2 p3 p4 r Ct:=⟨h,⟨(lz rfl),⟨tv,tv,⟨tv,dT _⟩,tv⟩,⟨tv,tv,⟨tv,dT _⟩,tv⟩,tv,⟨tv,dT _⟩,tv⟩,(forall_cons ⟨(lz rfl),⟨tv,dE _⟩,tv,tv,tv⟩ (forall_cons ⟨⟨tv,dE _⟩,(lz rfl),⟨tv,dI _⟩,⟨tv,dI _⟩,tv⟩ (forall_cons ⟨⟨tv,dE _⟩,⟨tv,dC _⟩,tv⟩ forall_nil))),tv,(forall_cons ⟨(lz rfl),dE _,tv,tv,tv⟩ (forall_cons ⟨dE _,(lz rfl),dI _,dI _,tv⟩ (forall_cons ⟨dE _,dC _,tv⟩ forall_nil)))⟩
theorem q269va10998:Qf 269 Tryz.f269:=⟨Tryz.func269,by kernel_rfl⟩
theorem k269va10998 {q0 q1 q2 q3 q4 q5 q6 p1 p2 r} (h:K269va10998 q0 q1 q2 q3 q4 q5 q6 p1 p2 r Ci):K269va10998 q0 q1 q2 q3 q4 q5 q6 p1 p2 r Ct:=⟨h,⟨(lz rfl),⟨tv,tv,⟨tv,dT _⟩,tv⟩,⟨tv,tv,⟨tv,dT _⟩,tv⟩,tv⟩,(forall_cons ⟨(lz rfl),⟨tv,dE _⟩,tv,tv,tv⟩ (forall_cons ⟨⟨tv,dE _⟩,(lz rfl),⟨tv,dI _⟩,⟨tv,dI _⟩,tv⟩ (forall_cons ⟨⟨tv,dE _⟩,⟨tv,dC _⟩,tv⟩ forall_nil))),tv,(forall_cons ⟨(lz rfl),dE _,tv,tv,tv⟩ (forall_cons ⟨dE _,(lz rfl),dI _,dI _,tv⟩ (forall_cons ⟨dE _,dC _,tv⟩ forall_nil)))⟩
theorem a135va10998_199va31596_268va61798_268va61798L45303_269va10998_269va10998L17401:∀ qq:Nat,(∀ q0 q1 q2 q3 q4 q5 q6 p1 p2 r,e135va10998 qq q0 q1 q2 q3 q4 q5 q6 p1 p2 = some r → K135va10998 q0 q1 q2 q3 q4 q5 q6 p1 p2 r Ct) ∧ (∀ q0 q1 q2 q3 q4 q5 q6 p1 p2 r,e199va31596 qq q0 q1 q2 q3 q4 q5 q6 p1 p2 = some r → K199va31596 q0 q1 q2 q3 q4 q5 q6 p1 p2 r Ct) ∧ (∀ q0 q1 q2 q3 q4 q5 q6 p1 p2 p3 p4 r,e268va61798 qq q0 q1 q2 q3 q4 q5 q6 p1 p2 p3 p4 = some r → K268va61798 q0 q1 q2 q3 q4 q5 q6 p1 p2 p3 p4 r Ct) ∧ (∀ q0 q1 q2 q3 q4 q5 p1 p2 p3 p4 x3 v28 vb0_3 r,e268va61798L45303 qq q0 q1 q2 q3 q4 q5 p1 p2 p3 p4 x3 v28 vb0_3 = some r → (∀ j,Dl Tryz.prog 3 (inn (inn (rgt (lft (rgt (bod Tryz.f268)))))) (g268va61798L45303E0 j q0 q1 q2 q3 q4 q5 p1 p2 p3 p4 x3 v28 vb0_3) (g268va61798L45303S0 q0 q1 q2 q3 q4 q5 p1 p2 p3 p4 x3 v28 vb0_3) (frameQ Tryz.prog 3 (FinQ Tryz.prog 3 Tryz.f268 (ab r.1) [.cells [.mp 1 0,slv entL q5 .no,.val (.pointer none),ai r.2],.cells [slv entL q0 .no,.mp 2 0,slv intC q3 .no,slv intC q4 .no],.cells [slv entL q1 .no,slv conL q2 .no]] 0) [.blk 0,.seq (rgt (rgt (bod Tryz.f268)))]))) ∧ (∀ q0 q1 q2 q3 q4 q5 q6 p1 p2 r,e269va10998 qq q0 q1 q2 q3 q4 q5 q6 p1 p2 = some r → K269va10998 q0 q1 q2 q3 q4 q5 q6 p1 p2 r Ct) ∧ (∀ q0 q1 q2 q3 q4 q5 r1 r3 v89 vb0_3 r,e269va10998L17401 qq q0 q1 q2 q3 q4 q5 r1 r3 v89 vb0_3 = some r → (∀ j,Dl Tryz.prog 3 (inn (inn (rgt (lft (rgt (rgt (rgt (rgt (rgt (bod Tryz.f269)))))))))) (g269va10998L17401E0 j q0 q1 q2 q3 q4 q5 r1 r3 v89 vb0_3) (g269va10998L17401S0 q0 q1 q2 q3 q4 q5 r1 r3 v89 vb0_3) (frameQ Tryz.prog 3 (FinQ Tryz.prog 3 Tryz.f269 (ab r.1) [.cells [.mp 1 0,slv entL q5 .no,.val (.pointer none),ai r.2],.cells [slv entL q0 .no,.mp 2 0,slv intC q3 .no,slv intC q4 .no],.cells [slv entL q1 .no,slv conL q2 .no]] 0) [.blk 0,.seq (rgt (rgt (rgt (rgt (rgt (rgt (bod Tryz.f269)))))))]))):=by
 intro qq
 induction qq with
 | zero =>
  exact ⟨fun _ _ _ _ _ _ _ _ _ _ h => nn h,fun _ _ _ _ _ _ _ _ _ _ h => nn h,fun _ _ _ _ _ _ _ _ _ _ _ _ h => nn h,fun _ _ _ _ _ _ _ _ _ _ _ _ _ _ h => nn h,fun _ _ _ _ _ _ _ _ _ _ h => nn h,fun _ _ _ _ _ _ _ _ _ _ _ h => nn h⟩
 | succ qq ih =>
  obtain ⟨ih135va10998,ih199va31596,ih268va61798,ih268va61798L45303,ih269va10998,ih269va10998L17401⟩:=ih
  refine ⟨?_,?_,?_,?_,?_,?_⟩
  intro q0 q1 q2 q3 q4 q5 q6 p1 p2 r h
  rw [e135va10998] at h
  obtain ⟨r1,h2,h⟩:=obind h
  have k:=oC 2 [0,1,2] (c198va10998 h2) o0
  rcases spl h with ⟨h3,h⟩ | ⟨h3,h⟩
  obtain ⟨r4,h5,h⟩:=obind h
  obtain rfl:=sj h
  exact k135va10998 (tF q135va10998 0 [0,1,2] (oD (dC q2) <| oD (dE q1) <| oD (dI q4) <| oD (dI q3) <| oD (dE q0) <| oD (dE q5) <| oC 4 [0,1,2] (ih199va31596 _ _ _ _ _ _ _ _ _ _ h5) <| oB 2 h3 k))
  obtain rfl:=sj h
  exact k135va10998 (tF q135va10998 2 [0,1,2] (oD (dC q2) <| oD (dE q1) <| oD (dI q4) <| oD (dI q3) <| oD (dE q0) <| oD (dE q5) <| oB 2 h3 k))
  intro q0 q1 q2 q3 q4 q5 q6 p1 p2 r h
  rw [e199va31596] at h
  rcases spl h with ⟨h1,h⟩ | ⟨h1,h⟩
  obtain ⟨r2,h3,h⟩:=obind h
  obtain ⟨r4,h5,h⟩:=obind h
  obtain ⟨r6,h7,h⟩:=obind h
  obtain rfl:=sj h
  exact k199va31596 (tF q199va31596 0 [0,1,2] (oD (dC q2) <| oD (dE q1) <| oD (dI q4) <| oD (dI q3) <| oD (dE q0) <| oD (dE q5) <| oC 0 [0,1,2] (ih135va10998 _ _ _ _ _ _ _ _ _ _ h7) <| oC 1 [0,1,2] (c266va38843 h5) <| oC 1 [0,1,2] (c266va38843 h3) <| oB 1 h1 o0))
  have k:=oB 1 h1 o0
  rcases spl h with ⟨h8,h⟩ | ⟨h8,h⟩
  obtain ⟨r9,h10,h⟩:=obind h
  obtain ⟨r11,h12,h⟩:=obind h
  obtain ⟨r13,h14,h⟩:=obind h
  obtain rfl:=sj h
  exact k199va31596 (tF q199va31596 0 [0,1,2] (oD (dC q2) <| oD (dE q1) <| oD (dI q4) <| oD (dI q3) <| oD (dE q0) <| oD (dE q5) <| oC 0 [0,1,2] (ih135va10998 _ _ _ _ _ _ _ _ _ _ h14) <| oC 1 [0,1,2] (c266va38843 h12) <| oC 1 [0,1,2] (c266va38843 h10) <| oB 1 h8 k))
  obtain ⟨r15,h16,h⟩:=obind h
  have k:=oC 1 [0,1,2] (c267va38843 h16) <| oB 1 h8 k
  rcases spl h with ⟨h17,h⟩ | ⟨h17,h⟩
  obtain ⟨r18,h19,h⟩:=obind h
  have k:=oC 1 [0,1,2] (c267va38843 h19) <| oB 2 h17 k
  rcases spl h with ⟨h20,h⟩ | ⟨h20,h⟩
  have k:=oB 2 h20 k
  rcases spl h with ⟨h21,h⟩ | ⟨h21,h⟩
  obtain rfl:=sj h
  exact k199va31596 (tF q199va31596 0 [0,1,2] (oD (dC q2) <| oD (dE q1) <| oD (dI q4) <| oD (dI q3) <| oD (dE q0) <| oD (dE q5) <| oB 0 h21 k))
  obtain ⟨x22,h23,h⟩:=obind h
  obtain ⟨x24,h25,h⟩:=obind h
  obtain ⟨r26,h27,h⟩:=obind h
  obtain rfl:=sj h
  exact k199va31596 (tF q199va31596 0 [0,1,2] (oD (dC q2) <| oD (dE q1) <| oD (dI q4) <| oD (dI q3) <| oD (dE q0) <| oD (dE q5) <| oC 0 [0,1,2] (ih268va61798 _ _ _ _ _ _ _ _ _ _ _ _ h27) <| oA 1 (slTo23 h25) <| oA 3 (ix22 (o:=.no) h23) <| oB 0 h21 k))
  obtain ⟨x28,h29,h⟩:=obind h
  obtain ⟨x30,h31,h⟩:=obind h
  obtain ⟨r32,h33,h⟩:=obind h
  obtain rfl:=sj h
  exact k199va31596 (tF q199va31596 0 [0,1,2] (oD (dC q2) <| oD (dE q1) <| oD (dI q4) <| oD (dI q3) <| oD (dE q0) <| oD (dE q5) <| oC 0 [0,1,2] (ih268va61798 _ _ _ _ _ _ _ _ _ _ _ _ h33) <| oA 1 (slTo23 h31) <| oA 3 (ix22 (o:=.no) h29) <| oB 2 h20 k))
  obtain ⟨r34,h35,h⟩:=obind h
  have k:=oC 1 [0,1,2] (c267va38843 h35) <| oB 2 h17 k
  rcases spl h with ⟨h36,h⟩ | ⟨h36,h⟩
  obtain ⟨x37,h38,h⟩:=obind h
  obtain ⟨x39,h40,h⟩:=obind h
  obtain ⟨r41,h42,h⟩:=obind h
  obtain rfl:=sj h
  exact k199va31596 (tF q199va31596 0 [0,1,2] (oD (dC q2) <| oD (dE q1) <| oD (dI q4) <| oD (dI q3) <| oD (dE q0) <| oD (dE q5) <| oC 0 [0,1,2] (ih268va61798 _ _ _ _ _ _ _ _ _ _ _ _ h42) <| oA 1 (slTo23 h40) <| oA 3 (ix22 (o:=.no) h38) <| oB 2 h36 k))
  have k:=oB 2 h36 k
  rcases spl h with ⟨h43,h⟩ | ⟨h43,h⟩
  obtain rfl:=sj h
  exact k199va31596 (tF q199va31596 0 [0,1,2] (oD (dC q2) <| oD (dE q1) <| oD (dI q4) <| oD (dI q3) <| oD (dE q0) <| oD (dE q5) <| oB 2 h43 k))
  have k:=oB 2 h43 k
  rcases spl h with ⟨h44,h⟩ | ⟨h44,h⟩
  obtain ⟨x45,h46,h⟩:=obind h
  obtain ⟨x47,h48,h⟩:=obind h
  obtain ⟨r49,h50,h⟩:=obind h
  have k:=oA 2 (ix23 (o:=.no) h48) <| oA 1 (ix23 (o:=.no) h46) <| oB 1 h44 k
  rcases spl h with ⟨h51,h⟩ | ⟨h51,h⟩
  obtain ⟨x52,h53,h⟩:=obind h
  obtain ⟨x54,h55,h⟩:=obind h
  obtain ⟨r56,h57,h⟩:=obind h
  obtain rfl:=sj h
  exact k199va31596 (tF q199va31596 0 [0,1,2] (oD (dC q2) <| oD (dE q1) <| oD (dI q4) <| oD (dI q3) <| oD (dE q0) <| oD (dE q5) <| oC 1 [0,1,2] (ih135va10998 _ _ _ _ _ _ _ _ _ _ h57) <| oA 2 (ix23 (o:=.no) h55) <| oA 2 (ix23 (o:=.no) h53) <| oK 1 [0,1,2] h51 (ih135va10998 _ _ _ _ _ _ _ _ _ _ h50) k))
  obtain rfl:=sj h
  exact k199va31596 (tF q199va31596 0 [0,1,2] (oD (dC q2) <| oD (dE q1) <| oD (dI q4) <| oD (dI q3) <| oD (dE q0) <| oD (dE q5) <| oK 1 [0,1,2] h51 (ih135va10998 _ _ _ _ _ _ _ _ _ _ h50) k))
  have k:=oB 1 h44 k
  rcases spl h with ⟨h58,h⟩ | ⟨h58,h⟩
  obtain ⟨r59,h60,h⟩:=obind h
  obtain rfl:=sj h
  exact k199va31596 (tF q199va31596 0 [0,1,2] (oD (dC q2) <| oD (dE q1) <| oD (dI q4) <| oD (dI q3) <| oD (dE q0) <| oD (dE q5) <| oC 3 [] (c200 h60) <| oB 1 h58 k))
  obtain ⟨r61,h62,h⟩:=obind h
  obtain rfl:=sj h
  exact k199va31596 (tF q199va31596 0 [0,1,2] (oD (dC q2) <| oD (dE q1) <| oD (dI q4) <| oD (dI q3) <| oD (dE q0) <| oD (dE q5) <| oC 2 [0,1,2] (ih269va10998 _ _ _ _ _ _ _ _ _ _ h62) <| oB 1 h58 k))
  intro q0 q1 q2 q3 q4 q5 q6 p1 p2 p3 p4 r h
  rw [e268va61798] at h
  obtain ⟨x1,h2,h⟩:=obind h
  obtain ⟨x3,h4,h⟩:=obind h
  exact k268va61798 (tH q268va61798 2 [] [0,1,2,3,4] [] [0,3,4,6,7,27,28] (oD (dT p4) <| oD (dT p2.sub) <| oD (dT p1.sub) <| oD (dC q2) <| oD (dE q1) <| oD (dI q4) <| oD (dI q3) <| oD (dE q0) <| oD (dE q5) <| oA 1 (ix22 (o:=.no) h4) <| oA 2 (ix22 (o:=.no) h2) o0) (ih268va61798L45303 _ _ _ _ _ _ _ _ _ _ _ _ _ _ h))
  intro q0 q1 q2 q3 q4 q5 p1 p2 p3 p4 x3 v28 vb0_3 r h
  rw [e268va61798L45303] at h
  rcases spl h with ⟨h5,h⟩ | ⟨h5,h⟩
  obtain ⟨r6,h7,h⟩:=obind h
  obtain ⟨r8,h9,h⟩:=obind h
  obtain ⟨r10,h11,h⟩:=obind h
  have k:=oC 1 [0,1,2] (c313va59181 h9) <| oC 1 [0,1,2] (c313va59181 h7) <| oB 0 h5 o0
  rcases spl h with ⟨h12,h⟩ | ⟨h12,h⟩
  exact fun j => lH 2 [] [0,1,2,3,4] [] [0,3,4,6,7,27,28] (oD (dT p4) <| oD (dT p2.sub) <| oD (dT p1.sub) <| oD (dC q2) <| oD (dE q1) <| oD (dI q4) <| oD (dI q3) <| oD (dE q0) <| oD (dE q5) <| oK 0 [0,1,2] h12 (ih135va10998 _ _ _ _ _ _ _ _ _ _ h11) k) (ih268va61798L45303 _ _ _ _ _ _ _ _ _ _ _ _ _ _ h)
  obtain rfl:=sj h
  exact fun j => lF 1 [0,1,2] (oD (dC q2) <| oD (dE q1) <| oD (dI q4) <| oD (dI q3) <| oD (dE q0) <| oD (dE q5) <| oK 0 [0,1,2] h12 (ih135va10998 _ _ _ _ _ _ _ _ _ _ h11) k)
  obtain rfl:=sj h
  exact fun j => lF 0 [0,1,2] (oD (dC q2) <| oD (dE q1) <| oD (dI q4) <| oD (dI q3) <| oD (dE q0) <| oD (dE q5) <| oB 0 h5 o0)
  intro q0 q1 q2 q3 q4 q5 q6 p1 p2 r h
  rw [e269va10998] at h
  obtain ⟨r1,h2,h⟩:=obind h
  obtain ⟨r3,h4,h⟩:=obind h
  have k:=oC 4 [] (c167 h4) <| oC 1 [] (c167 h2) o0
  rcases spl h with ⟨h5,h⟩ | ⟨h5,h⟩
  obtain rfl:=sj h
  exact k269va10998 (tF q269va10998 0 [0,1,2] (oD (dC q2) <| oD (dE q1) <| oD (dI q4) <| oD (dI q3) <| oD (dE q0) <| oD (dE q5) <| oB 5 h5 k))
  have k:=oB 5 h5 k
  rcases spl h with ⟨h6,h⟩ | ⟨h6,h⟩
  obtain rfl:=sj h
  exact k269va10998 (tF q269va10998 0 [0,1,2] (oD (dC q2) <| oD (dE q1) <| oD (dI q4) <| oD (dI q3) <| oD (dE q0) <| oD (dE q5) <| oB 2 h6 k))
  have k:=oB 2 h6 k
  rcases spl h with ⟨h7,h⟩ | ⟨h7,h⟩
  obtain rfl:=sj h
  exact k269va10998 (tF q269va10998 0 [0,1,2] (oD (dC q2) <| oD (dE q1) <| oD (dI q4) <| oD (dI q3) <| oD (dE q0) <| oD (dE q5) <| oB 2 h7 k))
  have k:=oB 2 h7 k
  rcases spl h with ⟨h8,h⟩ | ⟨h8,h⟩
  obtain ⟨x9,h10,h⟩:=obind h
  obtain ⟨x11,h12,h⟩:=obind h
  have k:=oA 2 (ix23 (o:=.no) h12) <| oA 1 (ix23 (o:=.no) h10) <| oB 1 h8 k
  rcases spl h with ⟨h13,h⟩ | ⟨h13,h⟩
  obtain rfl:=sj h
  exact k269va10998 (tF q269va10998 0 [0,1,2] (oD (dC q2) <| oD (dE q1) <| oD (dI q4) <| oD (dI q3) <| oD (dE q0) <| oD (dE q5) <| oB 1 h13 k))
  have k:=oB 1 h13 k
  rcases spl h with ⟨h14,h⟩ | ⟨h14,h⟩
  obtain ⟨r15,h16,h⟩:=obind h
  have k:=oA 2 (ix23 (o:=.no) h12) <| oA 1 (ix23 (o:=.no) h10) <| oB 1 h14 k
  rcases spl h with ⟨h17,h⟩ | ⟨h17,h⟩
  obtain ⟨x18,h19,h⟩:=obind h
  obtain ⟨x20,h21,h⟩:=obind h
  obtain ⟨r22,h23,h⟩:=obind h
  have k:=oA 2 (ix23 (o:=.no) h21) <| oA 1 (ix23 (o:=.no) h19) <| oK 1 [0,1,2] h17 (ih135va10998 _ _ _ _ _ _ _ _ _ _ h16) k
  rcases spl h with ⟨h24,h⟩ | ⟨h24,h⟩
  exact k269va10998 (tH q269va10998 2 [] [0,1,2] [] [0,8,10,88,89] (oD (dT r3.2) <| oD (dT r1.2) <| oD (dC q2) <| oD (dE q1) <| oD (dI q4) <| oD (dI q3) <| oD (dE q0) <| oD (dE q5) <| oK 1 [0,1,2] h24 (ih135va10998 _ _ _ _ _ _ _ _ _ _ h23) k) (ih269va10998L17401 _ _ _ _ _ _ _ _ _ _ _ h))
  obtain rfl:=sj h
  exact k269va10998 (tF q269va10998 1 [0,1,2] (oD (dC q2) <| oD (dE q1) <| oD (dI q4) <| oD (dI q3) <| oD (dE q0) <| oD (dE q5) <| oK 1 [0,1,2] h24 (ih135va10998 _ _ _ _ _ _ _ _ _ _ h23) k))
  obtain rfl:=sj h
  exact k269va10998 (tF q269va10998 1 [0,1,2] (oD (dC q2) <| oD (dE q1) <| oD (dI q4) <| oD (dI q3) <| oD (dE q0) <| oD (dE q5) <| oK 1 [0,1,2] h17 (ih135va10998 _ _ _ _ _ _ _ _ _ _ h16) k))
  exact k269va10998 (tH q269va10998 1 [] [0,1,2] [] [0,8,10,88,89] (oD (dT r3.2) <| oD (dT r1.2) <| oD (dC q2) <| oD (dE q1) <| oD (dI q4) <| oD (dI q3) <| oD (dE q0) <| oD (dE q5) <| oB 1 h14 k) (ih269va10998L17401 _ _ _ _ _ _ _ _ _ _ _ h))
  have k:=oB 1 h8 k
  rcases spl h with ⟨h25,h⟩ | ⟨h25,h⟩
  obtain ⟨x26,h27,h⟩:=obind h
  obtain ⟨x28,h29,h⟩:=obind h
  obtain ⟨r30,h31,h⟩:=obind h
  have k:=oA 2 (ix23 (o:=.no) h29) <| oA 1 (ix23 (o:=.no) h27) <| oB 1 h25 k
  rcases spl h with ⟨h32,h⟩ | ⟨h32,h⟩
  obtain ⟨x33,h34,h⟩:=obind h
  obtain ⟨x35,h36,h⟩:=obind h
  obtain ⟨r37,h38,h⟩:=obind h
  have k:=oA 2 (ix23 (o:=.no) h36) <| oA 1 (ix23 (o:=.no) h34) <| oK 1 [0,1,2] h32 (ih135va10998 _ _ _ _ _ _ _ _ _ _ h31) k
  rcases spl h with ⟨h39,h⟩ | ⟨h39,h⟩
  exact k269va10998 (tH q269va10998 2 [] [0,1,2] [] [0,8,10,88,89] (oD (dT r3.2) <| oD (dT r1.2) <| oD (dC q2) <| oD (dE q1) <| oD (dI q4) <| oD (dI q3) <| oD (dE q0) <| oD (dE q5) <| oK 1 [0,1,2] h39 (ih135va10998 _ _ _ _ _ _ _ _ _ _ h38) k) (ih269va10998L17401 _ _ _ _ _ _ _ _ _ _ _ h))
  obtain rfl:=sj h
  exact k269va10998 (tF q269va10998 1 [0,1,2] (oD (dC q2) <| oD (dE q1) <| oD (dI q4) <| oD (dI q3) <| oD (dE q0) <| oD (dE q5) <| oK 1 [0,1,2] h39 (ih135va10998 _ _ _ _ _ _ _ _ _ _ h38) k))
  obtain rfl:=sj h
  exact k269va10998 (tF q269va10998 1 [0,1,2] (oD (dC q2) <| oD (dE q1) <| oD (dI q4) <| oD (dI q3) <| oD (dE q0) <| oD (dE q5) <| oK 1 [0,1,2] h32 (ih135va10998 _ _ _ _ _ _ _ _ _ _ h31) k))
  exact k269va10998 (tH q269va10998 1 [] [0,1,2] [] [0,8,10,88,89] (oD (dT r3.2) <| oD (dT r1.2) <| oD (dC q2) <| oD (dE q1) <| oD (dI q4) <| oD (dI q3) <| oD (dE q0) <| oD (dE q5) <| oB 1 h25 k) (ih269va10998L17401 _ _ _ _ _ _ _ _ _ _ _ h))
  intro q0 q1 q2 q3 q4 q5 r1 r3 v89 vb0_3 r h
  rw [e269va10998L17401] at h
  rcases spl h with ⟨h25,h⟩ | ⟨h25,h⟩
  obtain ⟨x26,h27,h⟩:=obind h
  obtain ⟨x28,h29,h⟩:=obind h
  obtain ⟨r30,h31,h⟩:=obind h
  have k:=oA 1 (ix23 (o:=.no) h29) <| oA 0 (ix23 (o:=.no) h27) <| oB 0 h25 o0
  rcases spl h with ⟨h32,h⟩ | ⟨h32,h⟩
  exact fun j => lH 2 [] [0,1,2] [] [0,8,10,88,89] (oD (dT r3.2) <| oD (dT r1.2) <| oD (dC q2) <| oD (dE q1) <| oD (dI q4) <| oD (dI q3) <| oD (dE q0) <| oD (dE q5) <| oK 1 [0,1,2] h32 (ih135va10998 _ _ _ _ _ _ _ _ _ _ h31) k) (ih269va10998L17401 _ _ _ _ _ _ _ _ _ _ _ h)
  obtain rfl:=sj h
  exact fun j => lF 1 [0,1,2] (oD (dC q2) <| oD (dE q1) <| oD (dI q4) <| oD (dI q3) <| oD (dE q0) <| oD (dE q5) <| oK 1 [0,1,2] h32 (ih135va10998 _ _ _ _ _ _ _ _ _ _ h31) k)
  obtain rfl:=sj h
  exact fun j => lF 0 [0,1,2] (oD (dC q2) <| oD (dE q1) <| oD (dI q4) <| oD (dI q3) <| oD (dE q0) <| oD (dE q5) <| oB 0 h25 o0)
theorem c135va10998 {qq q0 q1 q2 q3 q4 q5 q6 p1 p2 r} (h:e135va10998 qq q0 q1 q2 q3 q4 q5 q6 p1 p2 = some r):K135va10998 q0 q1 q2 q3 q4 q5 q6 p1 p2 r Ct:=(a135va10998_199va31596_268va61798_268va61798L45303_269va10998_269va10998L17401 _).1 _ _ _ _ _ _ _ _ _ _ h
def e134va38585 (qq:Nat) (q0 q1:List Ent) (q2:List Con') (q3 q4:List Int) (q5:List Ent) (q6 q7 q8:Int) (q9:List Tm) (q10 q11:Int) (q12:List Tm):Option (Bool × Int) :=
 e135va10998 qq q0 q1 q2 q3 q4 q5 q6 (Tm.mk q7 q8 q9) (Tm.mk q10 q11 q12) >>= fun r1 =>
 some (r1.1,r1.2)
abbrev K134va38585 (q0 q1:List Ent) (q2:List Con') (q3 q4:List Int) (q5:List Ent) (q6 q7 q8:Int) (q9:List Tm) (q10 q11:Int) (q12:List Tm) (r:Bool × Int) (C:Cf):Prop:=C 134 [.cells [.mp 1 0,slv entL q5 .no,.val (.pointer none),ai q6],.cells [slv entL q0 .no,.mp 2 0,slv intC q3 .no,slv intC q4 .no],.cells [slv entL q1 .no,slv conL q2 .no],.cells [ai q7,ai q8,slv tmCells q9 .no],.cells [ai q10,ai q11,slv tmCells q12 .no]] [.mp 0 0,.mp 3 0,.mp 4 0] (ab r.1) [.cells [.mp 1 0,slv entL q5 .no,.val (.pointer none),ai r.2],.cells [slv entL q0 .no,.mp 2 0,slv intC q3 .no,slv intC q4 .no],.cells [slv entL q1 .no,slv conL q2 .no],.cells [ai q7,ai q8,slv tmCells q9 .no],.cells [ai q10,ai q11,slv tmCells q12 .no]] 0
theorem q134va38585:Qf 134 Tryz.f134:=⟨Tryz.func134,by kernel_rfl⟩
theorem k134va38585 {q0 q1 q2 q3 q4 q5 q6 q7 q8 q9 q10 q11 q12 r} (h:K134va38585 q0 q1 q2 q3 q4 q5 q6 q7 q8 q9 q10 q11 q12 r Ci):K134va38585 q0 q1 q2 q3 q4 q5 q6 q7 q8 q9 q10 q11 q12 r Ct:=⟨h,⟨(lz rfl),(lz rfl),(lz rfl),tv⟩,(forall_cons ⟨(lz rfl),⟨tv,dE _⟩,tv,tv,tv⟩ (forall_cons ⟨⟨tv,dE _⟩,(lz rfl),⟨tv,dI _⟩,⟨tv,dI _⟩,tv⟩ (forall_cons ⟨⟨tv,dE _⟩,⟨tv,dC _⟩,tv⟩ (forall_cons ⟨tv,tv,⟨tv,dT _⟩,tv⟩ (forall_cons ⟨tv,tv,⟨tv,dT _⟩,tv⟩ forall_nil))))),tv,(forall_cons ⟨(lz rfl),dE _,tv,tv,tv⟩ (forall_cons ⟨dE _,(lz rfl),dI _,dI _,tv⟩ (forall_cons ⟨dE _,dC _,tv⟩ (forall_cons ⟨tv,tv,dT _,tv⟩ (forall_cons ⟨tv,tv,dT _,tv⟩ forall_nil)))))⟩
theorem c134va38585 {qq q0 q1 q2 q3 q4 q5 q6 q7 q8 q9 q10 q11 q12 r} (h:e134va38585 qq q0 q1 q2 q3 q4 q5 q6 q7 q8 q9 q10 q11 q12 = some r):K134va38585 q0 q1 q2 q3 q4 q5 q6 q7 q8 q9 q10 q11 q12 r Ct:=by
 unfold e134va38585 at h
 obtain ⟨r1,h2,h⟩:=obind h
 obtain rfl:=sj h
 exact k134va38585 (tF q134va38585 0 [0,1,2,3,4] (oD (dT q12) <| oD (dT q9) <| oD (dC q2) <| oD (dE q1) <| oD (dI q4) <| oD (dI q3) <| oD (dE q0) <| oD (dE q5) <| oC 2 [0,1,2] (c135va10998 h2) o0))
def e133va32470 (qq:Nat) (q0 q1:List Ent) (q2:List Con') (q3 q4:List Int) (p1 p2:Tm) (q7 q8:Int) (q9:List Tm) (q10 q11:Int) (q12:List Tm):Option (Bool × Int) :=
 e108 qq (Mach.mk q0 q1 q2 q3 q4) >>= fun r1 =>
 e107 qq p1 1048577 r1 >>= fun r3 =>
 if r3 then
 e108 qq (Mach.mk q0 q1 q2 q3 q4) >>= fun r6 =>
 e107 qq p2 1048577 r6 >>= fun r8 =>
 if r8 then
 e184 qq (Mach.mk q0 q1 q2 q3 q4) >>= fun r11 =>
 e134va38585 qq q0 q1 q2 q3 q4 r11 0 q7 q8 q9 q10 q11 q12 >>= fun r13 =>
 if r13.1 then
 some ((r13.2 == 0),r13.2)
 else
 some (false,r13.2)
 else
 some (false,5)
 else
 some (false,5)
abbrev K133va32470 (q0 q1:List Ent) (q2:List Con') (q3 q4:List Int) (p1 p2:Tm) (q7 q8:Int) (q9:List Tm) (q10 q11:Int) (q12:List Tm) (r:Bool × Int) (C:Cf):Prop:=C 133 [.cells [slv entL q0 .no,.mp 1 0,slv intC q3 .no,slv intC q4 .no],.cells [slv entL q1 .no,slv conL q2 .no],.cells [ai q7,ai q8,slv tmCells q9 .no],.cells [ai q10,ai q11,slv tmCells q12 .no]] [.mp 0 0,tmA p1,tmA p2,.val (.pointer none),.clo 134 [] [.mp 2 0,.mp 3 0]] (.tup [ab r.1,ai r.2]) [.cells [slv entL q0 .no,.mp 1 0,slv intC q3 .no,slv intC q4 .no],.cells [slv entL q1 .no,slv conL q2 .no],.cells [ai q7,ai q8,slv tmCells q9 .no],.cells [ai q10,ai q11,slv tmCells q12 .no]] 0
theorem q133va32470:Qf 133 Tryz.f133:=⟨Tryz.func133,by kernel_rfl⟩
theorem k133va32470 {q0 q1 q2 q3 q4 p1 p2 q7 q8 q9 q10 q11 q12 r} (h:K133va32470 q0 q1 q2 q3 q4 p1 p2 q7 q8 q9 q10 q11 q12 r Ci):K133va32470 q0 q1 q2 q3 q4 p1 p2 q7 q8 q9 q10 q11 q12 r Ct:=⟨h,⟨(lz rfl),⟨tv,tv,⟨tv,dT _⟩,tv⟩,⟨tv,tv,⟨tv,dT _⟩,tv⟩,tv,⟨tv,⟨(lz rfl),(lz rfl),tv⟩⟩,tv⟩,(forall_cons ⟨⟨tv,dE _⟩,(lz rfl),⟨tv,dI _⟩,⟨tv,dI _⟩,tv⟩ (forall_cons ⟨⟨tv,dE _⟩,⟨tv,dC _⟩,tv⟩ (forall_cons ⟨tv,tv,⟨tv,dT _⟩,tv⟩ (forall_cons ⟨tv,tv,⟨tv,dT _⟩,tv⟩ forall_nil)))),⟨tv,tv,tv⟩,(forall_cons ⟨dE _,(lz rfl),dI _,dI _,tv⟩ (forall_cons ⟨dE _,dC _,tv⟩ (forall_cons ⟨tv,tv,dT _,tv⟩ (forall_cons ⟨tv,tv,dT _,tv⟩ forall_nil))))⟩
theorem c133va32470 {qq q0 q1 q2 q3 q4 p1 p2 q7 q8 q9 q10 q11 q12 r} (h:e133va32470 qq q0 q1 q2 q3 q4 p1 p2 q7 q8 q9 q10 q11 q12 = some r):K133va32470 q0 q1 q2 q3 q4 p1 p2 q7 q8 q9 q10 q11 q12 r Ct:=by
 unfold e133va32470 at h
 obtain ⟨r1,h2,h⟩:=obind h
 obtain ⟨r3,h4,h⟩:=obind h
 have k:=oC 2 [0,1] (c108 h2) o0
 rcases spl h with ⟨h5,h⟩ | ⟨h5,h⟩
 obtain ⟨r6,h7,h⟩:=obind h
 obtain ⟨r8,h9,h⟩:=obind h
 have k:=oC 2 [0,1] (c108 h7) <| oK 0 [] h5 (c107 h4) k
 rcases spl h with ⟨h10,h⟩ | ⟨h10,h⟩
 obtain ⟨r11,h12,h⟩:=obind h
 obtain ⟨r13,h14,h⟩:=obind h
 have k:=oC 1 [0,1] (c184 h12) <| oK 0 [] h10 (c107 h9) k
 rcases spl h with ⟨h15,h⟩ | ⟨h15,h⟩
 obtain rfl:=sj h
 exact k133va32470 (tF q133va32470 3 [0,1,2,3] (oD (dT q12) <| oD (dT q9) <| oD (dC q2) <| oD (dE q1) <| oD (dI q4) <| oD (dI q3) <| oD (dE q0) <| oK 0 [6,0,1,2,3] h15 (c134va38585 h14) k))
 obtain rfl:=sj h
 exact k133va32470 (tF q133va32470 1 [0,1,2,3] (oD (dT q12) <| oD (dT q9) <| oD (dC q2) <| oD (dE q1) <| oD (dI q4) <| oD (dI q3) <| oD (dE q0) <| oK 0 [6,0,1,2,3] h15 (c134va38585 h14) k))
 obtain rfl:=sj h
 exact k133va32470 (tF q133va32470 1 [0,1,2,3] (oD (dT q12) <| oD (dT q9) <| oD (dC q2) <| oD (dE q1) <| oD (dI q4) <| oD (dI q3) <| oD (dE q0) <| oK 0 [] h10 (c107 h9) k))
 obtain rfl:=sj h
 exact k133va32470 (tF q133va32470 1 [0,1,2,3] (oD (dT q12) <| oD (dT q9) <| oD (dC q2) <| oD (dE q1) <| oD (dI q4) <| oD (dI q3) <| oD (dE q0) <| oK 0 [] h5 (c107 h4) k))
def e67va18876 (qq:Nat) (q0 q1:List Ent) (q2:List Con') (q3 q4:List Int) (p1 p2:Tm):Option (Bool × Int) :=
 e133va32470 qq q0 q1 q2 q3 q4 p1 p2 p1.k p1.n p1.sub p2.k p2.n p2.sub >>= fun r1 =>
 some (r1.1,r1.2)
abbrev K67va18876 (q0 q1:List Ent) (q2:List Con') (q3 q4:List Int) (p1 p2:Tm) (r:Bool × Int) (C:Cf):Prop:=C 67 [.cells [slv entL q0 .no,.mp 1 0,slv intC q3 .no,slv intC q4 .no],.cells [slv entL q1 .no,slv conL q2 .no]] [.mp 0 0,tmA p1,tmA p2,.val (.pointer none)] (.tup [ab r.1,ai r.2]) [.cells [slv entL q0 .no,.mp 1 0,slv intC q3 .no,slv intC q4 .no],.cells [slv entL q1 .no,slv conL q2 .no]] 0
theorem q67va18876:Qf 67 Tryz.f67:=⟨Tryz.func67,by kernel_rfl⟩
theorem k67va18876 {q0 q1 q2 q3 q4 p1 p2 r} (h:K67va18876 q0 q1 q2 q3 q4 p1 p2 r Ci):K67va18876 q0 q1 q2 q3 q4 p1 p2 r Ct:=⟨h,⟨(lz rfl),⟨tv,tv,⟨tv,dT _⟩,tv⟩,⟨tv,tv,⟨tv,dT _⟩,tv⟩,tv,tv⟩,(forall_cons ⟨⟨tv,dE _⟩,(lz rfl),⟨tv,dI _⟩,⟨tv,dI _⟩,tv⟩ (forall_cons ⟨⟨tv,dE _⟩,⟨tv,dC _⟩,tv⟩ forall_nil)),⟨tv,tv,tv⟩,(forall_cons ⟨dE _,(lz rfl),dI _,dI _,tv⟩ (forall_cons ⟨dE _,dC _,tv⟩ forall_nil))⟩
theorem c67va18876 {qq q0 q1 q2 q3 q4 p1 p2 r} (h:e67va18876 qq q0 q1 q2 q3 q4 p1 p2 = some r):K67va18876 q0 q1 q2 q3 q4 p1 p2 r Ct:=by
 unfold e67va18876 at h
 obtain ⟨r1,h2,h⟩:=obind h
 obtain rfl:=sj h
 exact k67va18876 (tF q67va18876 2 [0,1] (oD (dC q2) <| oD (dE q1) <| oD (dI q4) <| oD (dI q3) <| oD (dE q0) <| oC 2 [0,1,2,3] (c133va32470 h2) o0))
def e133va61264 (qq:Nat) (p1 p2:Tm) (q2 q3 q4 q5:Int) (q6:List Tm) (q7 q8:Int) (q9:List Tm):Option (Bool × Int) :=
 some (false,5)
abbrev K133va61264 (p1 p2:Tm) (q2 q3 q4 q5:Int) (q6:List Tm) (q7 q8:Int) (q9:List Tm) (r:Bool × Int) (C:Cf):Prop:=C 133 [.cells [ai q2,ai q3],.cells [ai q4,ai q5,slv tmCells q6 .no],.cells [ai q7,ai q8,slv tmCells q9 .no]] [.val (.pointer none),tmA p1,tmA p2,.mp 0 0,.clo 134 [] [.mp 1 0,.mp 2 0]] (.tup [ab r.1,ai r.2]) [.cells [ai q2,ai q3],.cells [ai q4,ai q5,slv tmCells q6 .no],.cells [ai q7,ai q8,slv tmCells q9 .no]] 0
theorem q133va61264:Qf 133 Tryz.f133:=⟨Tryz.func133,by kernel_rfl⟩
theorem k133va61264 {p1 p2 q2 q3 q4 q5 q6 q7 q8 q9 r} (h:K133va61264 p1 p2 q2 q3 q4 q5 q6 q7 q8 q9 r Ci):K133va61264 p1 p2 q2 q3 q4 q5 q6 q7 q8 q9 r Ct:=⟨h,⟨tv,⟨tv,tv,⟨tv,dT _⟩,tv⟩,⟨tv,tv,⟨tv,dT _⟩,tv⟩,(lz rfl),⟨tv,⟨(lz rfl),(lz rfl),tv⟩⟩,tv⟩,(forall_cons ⟨tv,tv,tv⟩ (forall_cons ⟨tv,tv,⟨tv,dT _⟩,tv⟩ (forall_cons ⟨tv,tv,⟨tv,dT _⟩,tv⟩ forall_nil))),⟨tv,tv,tv⟩,(forall_cons ⟨tv,tv,tv⟩ (forall_cons ⟨tv,tv,dT _,tv⟩ (forall_cons ⟨tv,tv,dT _,tv⟩ forall_nil)))⟩
theorem c133va61264 {qq p1 p2 q2 q3 q4 q5 q6 q7 q8 q9 r} (h:e133va61264 qq p1 p2 q2 q3 q4 q5 q6 q7 q8 q9 = some r):K133va61264 p1 p2 q2 q3 q4 q5 q6 q7 q8 q9 r Ct:=by
 unfold e133va61264 at h
 obtain rfl:=sj h
 exact k133va61264 (tF q133va61264 1 [0,1,2] (oD (dT q9) <| oD (dT q6) o0))
def e67va29373 (qq:Nat) (p1 p2:Tm) (q2 q3:Int):Option (Bool × Int) :=
 e133va61264 qq p1 p2 q2 q3 p1.k p1.n p1.sub p2.k p2.n p2.sub >>= fun r1 =>
 some (r1.1,r1.2)
abbrev K67va29373 (p1 p2:Tm) (q2 q3:Int) (r:Bool × Int) (C:Cf):Prop:=C 67 [.cells [ai q2,ai q3]] [.val (.pointer none),tmA p1,tmA p2,.mp 0 0] (.tup [ab r.1,ai r.2]) [.cells [ai q2,ai q3]] 0
theorem q67va29373:Qf 67 Tryz.f67:=⟨Tryz.func67,by kernel_rfl⟩
theorem k67va29373 {p1 p2 q2 q3 r} (h:K67va29373 p1 p2 q2 q3 r Ci):K67va29373 p1 p2 q2 q3 r Ct:=⟨h,⟨tv,⟨tv,tv,⟨tv,dT _⟩,tv⟩,⟨tv,tv,⟨tv,dT _⟩,tv⟩,(lz rfl),tv⟩,(forall_cons ⟨tv,tv,tv⟩ forall_nil),⟨tv,tv,tv⟩,(forall_cons ⟨tv,tv,tv⟩ forall_nil)⟩
theorem c67va29373 {qq p1 p2 q2 q3 r} (h:e67va29373 qq p1 p2 q2 q3 = some r):K67va29373 p1 p2 q2 q3 r Ct:=by
 unfold e67va29373 at h
 obtain ⟨r1,h2,h⟩:=obind h
 obtain rfl:=sj h
 exact k67va29373 (tF q67va29373 2 [0] (oC 2 [0,1,2] (c133va61264 h2) o0))
def e133va3995 (qq:Nat) (p1 p2:Tm) (q2 q3:Int) (q4:List Tm) (q5 q6:Int) (q7:List Tm):Option (Bool × Int) :=
 some (false,5)
abbrev K133va3995 (p1 p2:Tm) (q2 q3:Int) (q4:List Tm) (q5 q6:Int) (q7:List Tm) (r:Bool × Int) (C:Cf):Prop:=C 133 [.cells [ai q2,ai q3,slv tmCells q4 .no],.cells [ai q5,ai q6,slv tmCells q7 .no]] [.val (.pointer none),tmA p1,tmA p2,.val (.pointer none),.clo 134 [] [.mp 0 0,.mp 1 0]] (.tup [ab r.1,ai r.2]) [.cells [ai q2,ai q3,slv tmCells q4 .no],.cells [ai q5,ai q6,slv tmCells q7 .no]] 0
theorem q133va3995:Qf 133 Tryz.f133:=⟨Tryz.func133,by kernel_rfl⟩
theorem k133va3995 {p1 p2 q2 q3 q4 q5 q6 q7 r} (h:K133va3995 p1 p2 q2 q3 q4 q5 q6 q7 r Ci):K133va3995 p1 p2 q2 q3 q4 q5 q6 q7 r Ct:=⟨h,⟨tv,⟨tv,tv,⟨tv,dT _⟩,tv⟩,⟨tv,tv,⟨tv,dT _⟩,tv⟩,tv,⟨tv,⟨(lz rfl),(lz rfl),tv⟩⟩,tv⟩,(forall_cons ⟨tv,tv,⟨tv,dT _⟩,tv⟩ (forall_cons ⟨tv,tv,⟨tv,dT _⟩,tv⟩ forall_nil)),⟨tv,tv,tv⟩,(forall_cons ⟨tv,tv,dT _,tv⟩ (forall_cons ⟨tv,tv,dT _,tv⟩ forall_nil))⟩
theorem c133va3995 {qq p1 p2 q2 q3 q4 q5 q6 q7 r} (h:e133va3995 qq p1 p2 q2 q3 q4 q5 q6 q7 = some r):K133va3995 p1 p2 q2 q3 q4 q5 q6 q7 r Ct:=by
 unfold e133va3995 at h
 obtain rfl:=sj h
 exact k133va3995 (tF q133va3995 1 [0,1] (oD (dT q7) <| oD (dT q4) o0))
def e67va30710 (qq:Nat) (p1 p2:Tm):Option (Bool × Int) :=
 e133va3995 qq p1 p2 p1.k p1.n p1.sub p2.k p2.n p2.sub >>= fun r1 =>
 some (r1.1,r1.2)
abbrev K67va30710 (p1 p2:Tm) (r:Bool × Int) (C:Cf):Prop:=C 67 [] [.val (.pointer none),tmA p1,tmA p2,.val (.pointer none)] (.tup [ab r.1,ai r.2]) [] 0
theorem q67va30710:Qf 67 Tryz.f67:=⟨Tryz.func67,by kernel_rfl⟩
theorem k67va30710 {p1 p2 r} (h:K67va30710 p1 p2 r Ci):K67va30710 p1 p2 r Ct:=⟨h,⟨tv,⟨tv,tv,⟨tv,dT _⟩,tv⟩,⟨tv,tv,⟨tv,dT _⟩,tv⟩,tv,tv⟩,forall_nil,⟨tv,tv,tv⟩,forall_nil⟩
theorem c67va30710 {qq p1 p2 r} (h:e67va30710 qq p1 p2 = some r):K67va30710 p1 p2 r Ct:=by
 unfold e67va30710 at h
 obtain ⟨r1,h2,h⟩:=obind h
 obtain rfl:=sj h
 exact k67va30710 (tF q67va30710 2 [] (oC 2 [0,1] (c133va3995 h2) o0))
def e15 (qq:Nat) (p0:List Ent) (p1 p2:Tm) (p3:Int):Option (Bool × Int × Int) :=
 e37 qq p0 >>= fun r1 =>
 match r1 with
 | Sum.inl y21 =>
  if y21 != 0 then
  some (false,0,y21)
  else
  e45 qq p3 >>= fun r23 =>
  match r23 with
  | Sum.inl y32 =>
   if y32 != 0 then
   some (false,0,y32)
   else
   e67va30710 qq p1 p2 >>= fun r34 =>
   if r34.2 != 0 then
   some (false,0,r34.2)
   else
   e48va47633 qq >>= fun r37 =>
   some (r34.1,r37,0)
  | Sum.inr y25 =>
   if y25.1 != 0 then
   some (false,0,y25.1)
   else
   e67va29373 qq p1 p2 y25.2.1 y25.2.2 >>= fun r27 =>
   if r27.2 != 0 then
   some (false,0,r27.2)
   else
   e48 qq y25.2.1 y25.2.2 >>= fun r30 =>
   some (r27.1,r30,0)
 | Sum.inr y3 =>
  if y3.1 != 0 then
  some (false,0,y3.1)
  else
  e45 qq p3 >>= fun r5 =>
  match r5 with
  | Sum.inl y14 =>
   if y14 != 0 then
   some (false,0,y14)
   else
   e67va18876 qq y3.2.1 y3.2.2.2.2.1 y3.2.2.2.2.2 y3.2.2.1 y3.2.2.2.1 p1 p2 >>= fun r16 =>
   if r16.2 != 0 then
   some (false,0,r16.2)
   else
   e48va47633 qq >>= fun r19 =>
   some (r16.1,r19,0)
  | Sum.inr y7 =>
   if y7.1 != 0 then
   some (false,0,y7.1)
   else
   e67 qq (Mach.mk y3.2.1 y3.2.2.2.2.1 y3.2.2.2.2.2 y3.2.2.1 y3.2.2.2.1) p1 p2 y7.2.1 y7.2.2 >>= fun r9 =>
   if r9.2.1 != 0 then
   some (false,0,r9.2.1)
   else
   e48 qq r9.2.2.1 r9.2.2.2 >>= fun r12 =>
   some (r9.1,r12,0)
abbrev K15 (p0:List Ent) (p1 p2:Tm) (p3:Int) (r:Bool × Int × Int) (C:Cf):Prop:=C 15 [] [slv entL p0 .no,tmA p1,tmA p2,ai p3] (.tup [ab r.1,ai r.2.1,ai r.2.2]) [] 0
theorem q15:Qf 15 Tryz.f15:=⟨Tryz.func15,by kernel_rfl⟩
theorem k15 {p0 p1 p2 p3 r} (h:K15 p0 p1 p2 p3 r Ci):K15 p0 p1 p2 p3 r Ct:=⟨h,⟨⟨tv,dE _⟩,⟨tv,tv,⟨tv,dT _⟩,tv⟩,⟨tv,tv,⟨tv,dT _⟩,tv⟩,tv,tv⟩,forall_nil,⟨tv,tv,tv,tv⟩,forall_nil⟩
theorem c15 {qq p0 p1 p2 p3 r} (h:e15 qq p0 p1 p2 p3 = some r):K15 p0 p1 p2 p3 r Ct:=by
 unfold e15 at h
 obtain ⟨r1,h2,h⟩:=obind h
 rcases r1 with y21 | y3
 dsimp only at h
 have k:=oC 0 [] (c37 h2) o0
 rcases spl h with ⟨h22,h⟩ | ⟨h22,h⟩
 obtain rfl:=sj h
 exact k15 (tF q15 0 [] (oB 2 h22 k))
 obtain ⟨r23,h24,h⟩:=obind h
 have k:=oB 2 h22 k
 rcases r23 with y32 | y25
 dsimp only at h
 have k:=oC 0 [] (c45 h24) k
 rcases spl h with ⟨h33,h⟩ | ⟨h33,h⟩
 obtain rfl:=sj h
 exact k15 (tF q15 0 [] (oB 2 h33 k))
 obtain ⟨r34,h35,h⟩:=obind h
 have k:=oC 2 [] (c67va30710 h35) <| oB 2 h33 k
 rcases spl h with ⟨h36,h⟩ | ⟨h36,h⟩
 obtain rfl:=sj h
 exact k15 (tF q15 0 [] (oB 2 h36 k))
 obtain ⟨r37,h38,h⟩:=obind h
 obtain rfl:=sj h
 exact k15 (tF q15 0 [] (oC 0 [] (c48va47633 h38) <| oB 2 h36 k))
 dsimp only at h
 have k:=oC 0 [] (c45 h24) k
 rcases spl h with ⟨h26,h⟩ | ⟨h26,h⟩
 obtain rfl:=sj h
 exact k15 (tF q15 0 [] (oB 2 h26 k))
 obtain ⟨r27,h28,h⟩:=obind h
 have k:=oC 2 [2] (c67va29373 h28) <| oB 2 h26 k
 rcases spl h with ⟨h29,h⟩ | ⟨h29,h⟩
 obtain rfl:=sj h
 exact k15 (tF q15 0 [] (oB 2 h29 k))
 obtain ⟨r30,h31,h⟩:=obind h
 obtain rfl:=sj h
 exact k15 (tF q15 0 [] (oC 0 [2] (c48 h31) <| oB 2 h29 k))
 dsimp only at h
 have k:=oC 0 [] (c37 h2) o0
 rcases spl h with ⟨h4,h⟩ | ⟨h4,h⟩
 obtain rfl:=sj h
 exact k15 (tF q15 0 [] (oB 2 h4 k))
 obtain ⟨r5,h6,h⟩:=obind h
 have k:=oB 2 h4 k
 rcases r5 with y14 | y7
 dsimp only at h
 have k:=oC 0 [] (c45 h6) k
 rcases spl h with ⟨h15,h⟩ | ⟨h15,h⟩
 obtain rfl:=sj h
 exact k15 (tF q15 0 [] (oB 2 h15 k))
 obtain ⟨r16,h17,h⟩:=obind h
 have k:=oC 2 [2,3] (c67va18876 h17) <| oB 2 h15 k
 rcases spl h with ⟨h18,h⟩ | ⟨h18,h⟩
 obtain rfl:=sj h
 exact k15 (tF q15 0 [] (oB 2 h18 k))
 obtain ⟨r19,h20,h⟩:=obind h
 obtain rfl:=sj h
 exact k15 (tF q15 0 [] (oC 0 [] (c48va47633 h20) <| oB 2 h18 k))
 dsimp only at h
 have k:=oC 0 [] (c45 h6) k
 rcases spl h with ⟨h8,h⟩ | ⟨h8,h⟩
 obtain rfl:=sj h
 exact k15 (tF q15 0 [] (oB 2 h8 k))
 obtain ⟨r9,h10,h⟩:=obind h
 have k:=oC 2 [2,3,4] (c67 h10) <| oB 2 h8 k
 rcases spl h with ⟨h11,h⟩ | ⟨h11,h⟩
 obtain rfl:=sj h
 exact k15 (tF q15 0 [] (oB 2 h11 k))
 obtain ⟨r12,h13,h⟩:=obind h
 obtain rfl:=sj h
 exact k15 (tF q15 0 [] (oC 0 [4] (c48 h13) <| oB 2 h11 k))
theorem conv_of {N : ByteArray → Bool} (l : List Ent) (hn : Evt (fun q => e37 q l) (newT l true)) (hE : AllE N l) (he : ∀ e ∈ l, EOk e) (hl : l.length ≤ 65535) (hc : ∀ e ∈ l, ECl e) (x y : Tm) (hx : x.Ok) (hy : y.Ok) (f : Int) (h0 : 0 ≤ f) (h1 : f ≤ 1048576) :
    ∃ r : Bool × Int × Int, Evt (fun q => e15 q l x y f) r ∧ (r.2.2 = 0 → ∃ k, Cv l false x y r.1 k) := by
  have run : ∀ r, Evt (fun q => e67 q (machT l) x y f 0) r → Evt (fun q => e15 q l x y f) (if r.2.1 ≠ 0 then (false, 0, r.2.1) else (r.1, r.2.2.2, 0)) := fun r h => by
    simp only [e15]
    refine hn.bind (Evt.ifF (by simp) ((ev_mNew f h0 h1).bind (Evt.ifF (by simp) (Evt.bind (a := r) h ?_))))
    by_cases e : r.2.1 ≠ 0
    · rw [if_pos e]; exact Evt.ifT (by simpa using e) Evt.ret
    · rw [if_neg e]
      refine Evt.ifF (by simpa using e) (Evt.bind (a := r.2.2.2) (Evt.mk fun q => ?_) Evt.ret)
      simp only [e48, e113va35861]; rfl
  rcases out_askF l hE he hl hc x y hx hy f h0 with ⟨R, k, k0, k1, ⟨b, e, h8, hC, hno, rfl⟩, h3, -⟩ | ⟨h, -⟩
  · refine ⟨_, run _ (h3 f 0 k1 (by omega) (by omega)), fun hz => ?_⟩
    by_cases e0 : e = 0
    · subst e0
      rw [if_neg (by simp)]
      exact ⟨k, hC rfl⟩
    · rw [if_pos e0] at hz
      exact absurd hz e0
  · obtain ⟨r, h5, h6⟩ := h 0 (by omega) (by omega)
    have h7 := (er4b_8 h6).2
    refine ⟨_, run r h5, fun hz => ?_⟩
    rw [if_pos (by omega)] at hz
    have : r.2.1 = 0 := hz
    omega
theorem conv_unf (l : List Ent) (hn : Evt (fun q => e37 q l) (newT l false)) (x y : Tm) (f : Int) : Evt (fun q => e15 q l x y f) (false, 0, 5) := by
  simp only [e15]
  exact hn.bind (Evt.ifT (by decide) Evt.ret)
def e13 (qq:Nat) (p0:List Ent) (p1 p2:Tm) (p3:Int):Option (Bool) :=
 if decide ((List.length p0:Int) ≤ 60) then
 if decide (p3 ≤ 400) then
 e66 qq p1 >>= fun r3 =>
 if decide (r3 ≤ 300) then
 e66 qq p2 >>= fun r6 =>
 some (decide (r6 ≤ 300))
 else
 some false
 else
 some false
 else
 some false
abbrev K13 (p0:List Ent) (p1 p2:Tm) (p3:Int) (r:Bool) (C:Cf):Prop:=C 13 [] [slv entL p0 .no,tmA p1,tmA p2,ai p3] (ab r) [] 0
theorem q13:Qf 13 Tryz.f13:=⟨Tryz.func13,by kernel_rfl⟩
theorem k13 {p0 p1 p2 p3 r} (h:K13 p0 p1 p2 p3 r Ci):K13 p0 p1 p2 p3 r Ct:=⟨h,⟨⟨tv,dE _⟩,⟨tv,tv,⟨tv,dT _⟩,tv⟩,⟨tv,tv,⟨tv,dT _⟩,tv⟩,tv,tv⟩,forall_nil,tv,forall_nil⟩
theorem c13 {qq p0 p1 p2 p3 r} (h:e13 qq p0 p1 p2 p3 = some r):K13 p0 p1 p2 p3 r Ct:=by
 unfold e13 at h
 rcases spl h with ⟨h1,h⟩ | ⟨h1,h⟩
 have k:=oB 1 h1 o0
 rcases spl h with ⟨h2,h⟩ | ⟨h2,h⟩
 obtain ⟨r3,h4,h⟩:=obind h
 have k:=oC 1 [] (c66 h4) <| oB 0 h2 k
 rcases spl h with ⟨h5,h⟩ | ⟨h5,h⟩
 obtain ⟨r6,h7,h⟩:=obind h
 obtain rfl:=sj h
 exact k13 (tF q13 1 [] (oC 1 [] (c66 h7) <| oB 0 h5 k))
 obtain rfl:=sj h
 exact k13 (tF q13 0 [] (oB 0 h5 k))
 obtain rfl:=sj h
 exact k13 (tF q13 0 [] (oB 0 h2 k))
 obtain rfl:=sj h
 exact k13 (tF q13 0 [] (oB 1 h1 o0))
def e21 (qq:Nat) (p0:Int) (p1 p2:Tm):Option (Tm) :=
 some (Tm.mk p0 0 [p1,p2])
abbrev K21 (p0:Int) (p1 p2 r:Tm) (C:Cf):Prop:=C 21 [] [ai p0,tmA p1,tmA p2] (tmA r) [] 0
theorem q21:Qf 21 Tryz.f21:=⟨Tryz.func21,by kernel_rfl⟩
theorem k21 {p0 p1 p2 r} (h:K21 p0 p1 p2 r Ci):K21 p0 p1 p2 r Ct:=⟨h,⟨tv,⟨tv,tv,⟨tv,dT _⟩,tv⟩,⟨tv,tv,⟨tv,dT _⟩,tv⟩,tv⟩,forall_nil,⟨tv,tv,dT _,tv⟩,forall_nil⟩
theorem c21 {qq p0 p1 p2 r} (h:e21 qq p0 p1 p2 = some r):K21 p0 p1 p2 r Ct:=by
 unfold e21 at h
 obtain rfl:=sj h
 exact k21 (tF q21 1 [] (oD (dT [p1,p2]) <| oS 2 (obLitR tm_eq [p1,p2]) o0))
def e14 (qq:Nat)  : Option (Bool) :=
 e21 qq 4 (Tm.mk 2 2 []) (Tm.mk 1 0 []) >>= fun r1 =>
 e21 qq 5 r1 (Tm.mk 2 2 []) >>= fun r3 =>
 e15 qq [] r3 (Tm.mk 2 2 []) 5 >>= fun r5 =>
 if r5.1 then
 e15 qq [] (Tm.mk 2 2 []) (Tm.mk 1 0 []) 5 >>= fun r8 =>
 if r8.1 then
 if r5.2.1 == 1 then
 if r5.2.2 == 0 then
 some false
 else
 some false
 else
 some false
 else
 if r5.2.1 == 1 then
 if r5.2.2 == 0 then
 some (r8.2.2 == 0)
 else
 some false
 else
 some false
 else
 e15 qq [] (Tm.mk 2 2 []) (Tm.mk 1 0 []) 5 >>= fun r15 =>
 if r15.1 then
 some false
 else
 some false
abbrev K14 (r:Bool) (C:Cf):Prop:=C 14 [] [] (ab r) [] 0
theorem q14:Qf 14 Tryz.f14:=⟨Tryz.func14,by kernel_rfl⟩
theorem k14 {r} (h:K14 r Ci):K14 r Ct:=⟨h,tv,forall_nil,tv,forall_nil⟩
theorem c14 {qq r} (h:e14 qq  = some r):K14 r Ct:=by
 unfold e14 at h
 obtain ⟨r1,h2,h⟩:=obind h
 obtain ⟨r3,h4,h⟩:=obind h
 obtain ⟨r5,h6,h⟩:=obind h
 have k:=oC 1 [] (c15 h6) <| oC 1 [] (c21 h4) <| oC 4 [] (c21 h2) o0
 rcases spl h with ⟨h7,h⟩ | ⟨h7,h⟩
 obtain ⟨r8,h9,h⟩:=obind h
 have k:=oC 4 [] (c15 h9) <| oB 0 h7 k
 rcases spl h with ⟨h10,h⟩ | ⟨h10,h⟩
 have k:=oB 0 h10 k
 rcases spl h with ⟨h11,h⟩ | ⟨h11,h⟩
 have k:=oB 2 h11 k
 rcases spl h with ⟨h12,h⟩ | ⟨h12,h⟩
 obtain rfl:=sj h
 exact k14 (tF q14 1 [] (oB 0 h12 k))
 obtain rfl:=sj h
 exact k14 (tF q14 0 [] (oB 0 h12 k))
 obtain rfl:=sj h
 exact k14 (tF q14 0 [] (oB 2 h11 k))
 have k:=oB 0 h10 k
 rcases spl h with ⟨h13,h⟩ | ⟨h13,h⟩
 have k:=oB 2 h13 k
 rcases spl h with ⟨h14,h⟩ | ⟨h14,h⟩
 obtain rfl:=sj h
 exact k14 (tF q14 2 [] (oB 0 h14 k))
 obtain rfl:=sj h
 exact k14 (tF q14 0 [] (oB 0 h14 k))
 obtain rfl:=sj h
 exact k14 (tF q14 0 [] (oB 2 h13 k))
 obtain ⟨r15,h16,h⟩:=obind h
 have k:=oC 4 [] (c15 h16) <| oB 0 h7 k
 rcases spl h with ⟨h17,h⟩ | ⟨h17,h⟩
 obtain rfl:=sj h
 exact k14 (tF q14 2 [] (oB 0 h17 k))
 obtain rfl:=sj h
 exact k14 (tF q14 2 [] (oB 0 h17 k))
def e3 (qq:Nat) (p0:List Ent) (p1:A2Tm):Option (Bool) :=
 e13 qq p0 p1.a p1.b 0 >>= fun r1 =>
 if r1 then
 e15 qq p0 p1.a p1.b 400 >>= fun r4 =>
 e15 qq p0 p1.b p1.a 400 >>= fun r6 =>
 if r4.2.2 != 0 then
 e14 qq >>= fun r9 =>
 some r9
 else
 if r6.2.2 != 0 then
 e14 qq >>= fun r12 =>
 some r12
 else
 if r4.1 == r6.1 then
 e14 qq >>= fun r15 =>
 some r15
 else
 some false
 else
 e14 qq >>= fun r17 =>
 some r17
abbrev K3 (p0:List Ent) (p1:A2Tm) (r:Bool) (C:Cf):Prop:=C 3 [] [slv entL p0 .no,a2TmA p1] (ab r) [] 0
theorem q3:Qf 3 Tryz.f3:=⟨Tryz.func3,by kernel_rfl⟩
theorem k3 {p0 p1 r} (h:K3 p0 p1 r Ci):K3 p0 p1 r Ct:=⟨h,⟨⟨tv,dE _⟩,⟨tv,tv,⟨tv,dT _⟩,tv,tv,⟨tv,dT _⟩,tv⟩,tv⟩,forall_nil,tv,forall_nil⟩
theorem c3 {qq p0 p1 r} (h:e3 qq p0 p1 = some r):K3 p0 p1 r Ct:=by
 unfold e3 at h
 obtain ⟨r1,h2,h⟩:=obind h
 rcases spl h with ⟨h3,h⟩ | ⟨h3,h⟩
 obtain ⟨r4,h5,h⟩:=obind h
 obtain ⟨r6,h7,h⟩:=obind h
 have k:=oC 7 [] (c15 h7) <| oC 5 [] (c15 h5) <| oK 4 [] h3 (c13 h2) o0
 rcases spl h with ⟨h8,h⟩ | ⟨h8,h⟩
 obtain ⟨r9,h10,h⟩:=obind h
 obtain rfl:=sj h
 exact k3 (tF q3 0 [] (oC 0 [] (c14 h10) <| oB 3 h8 k))
 have k:=oB 3 h8 k
 rcases spl h with ⟨h11,h⟩ | ⟨h11,h⟩
 obtain ⟨r12,h13,h⟩:=obind h
 obtain rfl:=sj h
 exact k3 (tF q3 0 [] (oC 0 [] (c14 h13) <| oB 0 h11 k))
 have k:=oB 0 h11 k
 rcases spl h with ⟨h14,h⟩ | ⟨h14,h⟩
 obtain ⟨r15,h16,h⟩:=obind h
 obtain rfl:=sj h
 exact k3 (tF q3 0 [] (oC 0 [] (c14 h16) <| oB 0 h14 k))
 obtain rfl:=sj h
 exact k3 (tF q3 0 [] (oB 0 h14 k))
 obtain ⟨r17,h18,h⟩:=obind h
 obtain rfl:=sj h
 exact k3 (tF q3 0 [] (oC 1 [] (c14 h18) <| oK 4 [] h3 (c13 h2) o0))
def e4 (qq:Nat) (p0:List Ent) (p1:Tm):Option (Bool) :=
 e13 qq p0 p1 p1 0 >>= fun r1 =>
 if r1 then
 e16 qq p0 p1 300 >>= fun r4 =>
 e17 qq p0 p1 300 >>= fun r6 =>
 if r4.2.2 != 0 then
 e14 qq >>= fun r9 =>
 some r9
 else
 if r6.2.2 != 0 then
 e14 qq >>= fun r12 =>
 some r12
 else
 e15 qq p0 p1 p1 3000 >>= fun r14 =>
 if r14.1 then
 e15 qq p0 p1 r4.1 3000 >>= fun r17 =>
 if r17.1 then
 e15 qq p0 r6.1 p1 3000 >>= fun r20 =>
 if r20.1 then
 e14 qq >>= fun r23 =>
 some r23
 else
 if r20.2.2 != 0 then
 e14 qq >>= fun r26 =>
 some r26
 else
 some false
 else
 e15 qq p0 r6.1 p1 3000 >>= fun r28 =>
 if r28.1 then
 if r17.2.2 != 0 then
 e14 qq >>= fun r32 =>
 some r32
 else
 some false
 else
 if r17.2.2 != 0 then
 if r28.2.2 != 0 then
 e14 qq >>= fun r36 =>
 some r36
 else
 some false
 else
 some false
 else
 e15 qq p0 p1 r4.1 3000 >>= fun r38 =>
 if r38.1 then
 e15 qq p0 r6.1 p1 3000 >>= fun r41 =>
 if r41.1 then
 if r14.2.2 != 0 then
 e14 qq >>= fun r45 =>
 some r45
 else
 some false
 else
 if r14.2.2 != 0 then
 if r41.2.2 != 0 then
 e14 qq >>= fun r49 =>
 some r49
 else
 some false
 else
 some false
 else
 e15 qq p0 r6.1 p1 3000 >>= fun r51 =>
 if r51.1 then
 if r14.2.2 != 0 then
 if r38.2.2 != 0 then
 e14 qq >>= fun r56 =>
 some r56
 else
 some false
 else
 some false
 else
 if r14.2.2 != 0 then
 if r38.2.2 != 0 then
 if r51.2.2 != 0 then
 e14 qq >>= fun r61 =>
 some r61
 else
 some false
 else
 some false
 else
 some false
 else
 e14 qq >>= fun r63 =>
 some r63
abbrev K4 (p0:List Ent) (p1:Tm) (r:Bool) (C:Cf):Prop:=C 4 [] [slv entL p0 .no,tmA p1] (ab r) [] 0
theorem q4:Qf 4 Tryz.f4:=⟨Tryz.func4,by kernel_rfl⟩
theorem k4 {p0 p1 r} (h:K4 p0 p1 r Ci):K4 p0 p1 r Ct:=⟨h,⟨⟨tv,dE _⟩,⟨tv,tv,⟨tv,dT _⟩,tv⟩,tv⟩,forall_nil,tv,forall_nil⟩
theorem c4 {qq p0 p1 r} (h:e4 qq p0 p1 = some r):K4 p0 p1 r Ct:=by
 unfold e4 at h
 obtain ⟨r1,h2,h⟩:=obind h
 rcases spl h with ⟨h3,h⟩ | ⟨h3,h⟩
 obtain ⟨r4,h5,h⟩:=obind h
 obtain ⟨r6,h7,h⟩:=obind h
 have k:=oC 5 [] (c17 h7) <| oC 2 [] (c16 h5) <| oK 2 [] h3 (c13 h2) o0
 rcases spl h with ⟨h8,h⟩ | ⟨h8,h⟩
 obtain ⟨r9,h10,h⟩:=obind h
 obtain rfl:=sj h
 exact k4 (tF q4 0 [] (oC 0 [] (c14 h10) <| oB 4 h8 k))
 have k:=oB 4 h8 k
 rcases spl h with ⟨h11,h⟩ | ⟨h11,h⟩
 obtain ⟨r12,h13,h⟩:=obind h
 obtain rfl:=sj h
 exact k4 (tF q4 0 [] (oC 0 [] (c14 h13) <| oB 0 h11 k))
 obtain ⟨r14,h15,h⟩:=obind h
 have k:=oC 2 [] (c15 h15) <| oB 0 h11 k
 rcases spl h with ⟨h16,h⟩ | ⟨h16,h⟩
 obtain ⟨r17,h18,h⟩:=obind h
 have k:=oC 4 [] (c15 h18) <| oB 0 h16 k
 rcases spl h with ⟨h19,h⟩ | ⟨h19,h⟩
 obtain ⟨r20,h21,h⟩:=obind h
 have k:=oC 4 [] (c15 h21) <| oB 0 h19 k
 rcases spl h with ⟨h22,h⟩ | ⟨h22,h⟩
 obtain ⟨r23,h24,h⟩:=obind h
 obtain rfl:=sj h
 exact k4 (tF q4 0 [] (oC 2 [] (c14 h24) <| oB 0 h22 k))
 have k:=oB 0 h22 k
 rcases spl h with ⟨h25,h⟩ | ⟨h25,h⟩
 obtain ⟨r26,h27,h⟩:=obind h
 obtain rfl:=sj h
 exact k4 (tF q4 0 [] (oC 0 [] (c14 h27) <| oB 2 h25 k))
 obtain rfl:=sj h
 exact k4 (tF q4 0 [] (oB 2 h25 k))
 obtain ⟨r28,h29,h⟩:=obind h
 have k:=oC 4 [] (c15 h29) <| oB 0 h19 k
 rcases spl h with ⟨h30,h⟩ | ⟨h30,h⟩
 have k:=oB 0 h30 k
 rcases spl h with ⟨h31,h⟩ | ⟨h31,h⟩
 obtain ⟨r32,h33,h⟩:=obind h
 obtain rfl:=sj h
 exact k4 (tF q4 0 [] (oC 0 [] (c14 h33) <| oB 2 h31 k))
 obtain rfl:=sj h
 exact k4 (tF q4 0 [] (oB 2 h31 k))
 have k:=oB 0 h30 k
 rcases spl h with ⟨h34,h⟩ | ⟨h34,h⟩
 have k:=oB 2 h34 k
 rcases spl h with ⟨h35,h⟩ | ⟨h35,h⟩
 obtain ⟨r36,h37,h⟩:=obind h
 obtain rfl:=sj h
 exact k4 (tF q4 0 [] (oC 0 [] (c14 h37) <| oB 0 h35 k))
 obtain rfl:=sj h
 exact k4 (tF q4 0 [] (oB 0 h35 k))
 obtain rfl:=sj h
 exact k4 (tF q4 0 [] (oB 2 h34 k))
 obtain ⟨r38,h39,h⟩:=obind h
 have k:=oC 4 [] (c15 h39) <| oB 0 h16 k
 rcases spl h with ⟨h40,h⟩ | ⟨h40,h⟩
 obtain ⟨r41,h42,h⟩:=obind h
 have k:=oC 4 [] (c15 h42) <| oB 0 h40 k
 rcases spl h with ⟨h43,h⟩ | ⟨h43,h⟩
 have k:=oB 0 h43 k
 rcases spl h with ⟨h44,h⟩ | ⟨h44,h⟩
 obtain ⟨r45,h46,h⟩:=obind h
 obtain rfl:=sj h
 exact k4 (tF q4 0 [] (oC 0 [] (c14 h46) <| oB 2 h44 k))
 obtain rfl:=sj h
 exact k4 (tF q4 0 [] (oB 2 h44 k))
 have k:=oB 0 h43 k
 rcases spl h with ⟨h47,h⟩ | ⟨h47,h⟩
 have k:=oB 2 h47 k
 rcases spl h with ⟨h48,h⟩ | ⟨h48,h⟩
 obtain ⟨r49,h50,h⟩:=obind h
 obtain rfl:=sj h
 exact k4 (tF q4 0 [] (oC 0 [] (c14 h50) <| oB 0 h48 k))
 obtain rfl:=sj h
 exact k4 (tF q4 0 [] (oB 0 h48 k))
 obtain rfl:=sj h
 exact k4 (tF q4 0 [] (oB 2 h47 k))
 obtain ⟨r51,h52,h⟩:=obind h
 have k:=oC 4 [] (c15 h52) <| oB 0 h40 k
 rcases spl h with ⟨h53,h⟩ | ⟨h53,h⟩
 have k:=oB 0 h53 k
 rcases spl h with ⟨h54,h⟩ | ⟨h54,h⟩
 have k:=oB 2 h54 k
 rcases spl h with ⟨h55,h⟩ | ⟨h55,h⟩
 obtain ⟨r56,h57,h⟩:=obind h
 obtain rfl:=sj h
 exact k4 (tF q4 0 [] (oC 0 [] (c14 h57) <| oB 0 h55 k))
 obtain rfl:=sj h
 exact k4 (tF q4 0 [] (oB 0 h55 k))
 obtain rfl:=sj h
 exact k4 (tF q4 0 [] (oB 2 h54 k))
 have k:=oB 0 h53 k
 rcases spl h with ⟨h58,h⟩ | ⟨h58,h⟩
 have k:=oB 2 h58 k
 rcases spl h with ⟨h59,h⟩ | ⟨h59,h⟩
 have k:=oB 0 h59 k
 rcases spl h with ⟨h60,h⟩ | ⟨h60,h⟩
 obtain ⟨r61,h62,h⟩:=obind h
 obtain rfl:=sj h
 exact k4 (tF q4 0 [] (oC 0 [] (c14 h62) <| oB 0 h60 k))
 obtain rfl:=sj h
 exact k4 (tF q4 0 [] (oB 0 h60 k))
 obtain rfl:=sj h
 exact k4 (tF q4 0 [] (oB 0 h59 k))
 obtain rfl:=sj h
 exact k4 (tF q4 0 [] (oB 2 h58 k))
 obtain ⟨r63,h64,h⟩:=obind h
 obtain rfl:=sj h
 exact k4 (tF q4 0 [] (oC 1 [] (c14 h64) <| oK 2 [] h3 (c13 h2) o0))
theorem awake16 (q : Nat) : e14 (q + 200) = some true := by kernel_rfl
theorem ev_awake16 : Evt (fun q => e14 q) true := ⟨200, fun q hq => by
  obtain ⟨k, rfl⟩ : ∃ k, q = k + 200 := ⟨q - 200, by omega⟩
  exact awake16 k⟩
theorem tot_light16 (l : List Ent) (a b : Tm) (f : Int) : Tot (fun q => e13 q l a b f) (fun r => r = true → l.length ≤ 60) := by
  simp only [e13]
  refine Tot.ite (fun h => Tot.ite (fun _ => ?_) fun _ => Tot.ret (fun h => by cases h)) fun _ => Tot.ret (fun h => by cases h)
  have := of_decide_eq_true h
  exact Tot.bind (P := fun _ => True) ((ev_rSize a).tot trivial) fun r _ => Tot.ite (fun _ => Tot.bind (P := fun _ => True) ((ev_rSize b).tot trivial) fun r _ => Tot.ret fun _ => by omega) fun _ => Tot.ret (fun h => by cases h)
theorem ev_ConvTurned (l : List Ent) (a b : Tm) (he : ∀ e ∈ l, EOk e) (hc : ∀ e ∈ l, ECl e) (ha : a.Ok) (hb : b.Ok) : Evt (fun q => e3 q l ⟨a, b⟩) true := by
  simp only [e3]
  have aw : Evt (fun q => e14 q >>= fun r => some r) true := ev_awake16.bind Evt.ret
  obtain ⟨g, hg, hg'⟩ := tot_light16 l a b 0
  refine hg.bind ?_
  cases g with
  | false => exact Evt.ifF rfl aw
  | true =>
    have hl := hg' rfl
    refine Evt.ifT rfl ?_
    rcases sign_cases l hl he hc with hn | ⟨N, hE, hn⟩
    · refine (conv_unf l hn a b 400).bind ((conv_unf l hn b a 400).bind ?_)
      exact Evt.ifT (by decide) aw
    · obtain ⟨x, hx, hx'⟩ := conv_of l hn hE he (by omega) hc a b ha hb 400 (by omega) (by omega)
      obtain ⟨y, hy, hy'⟩ := conv_of l hn hE he (by omega) hc b a hb ha 400 (by omega) (by omega)
      refine hx.bind (hy.bind ?_)
      by_cases e1 : x.2.2 = 0
      · by_cases e2 : y.2.2 = 0
        · obtain ⟨k1, c1⟩ := hx' e1
          obtain ⟨k2, c2⟩ := hy' e2
          have e3 : x.1 = y.1 := by have := (c1.symm.det c2).1; exact this.symm
          exact Evt.ifF (by simp [e1]) (Evt.ifF (by simp [e2]) (Evt.ifT (by simp [e3]) aw))
        · exact Evt.ifF (by simp [e1]) (Evt.ifT (by simpa using e2) aw)
      · exact Evt.ifT (by simpa using e1) aw
theorem rdE_ok {l : List Ent} (h : ∀ e ∈ l, RdE e) : ∀ e ∈ l, EOk e := fun e he => ⟨(h e he).1, (h e he).2.1, Nat.le_trans (h e he).2.2.1 (by decide), Nat.le_trans (h e he).2.2.2 (by decide)⟩
theorem rdE_cl {l : List Ent} (h : ∀ e ∈ l, RdE e) : ∀ e ∈ l, ECl e := fun e he => ⟨(h e he).2.2.1, (h e he).2.2.2⟩
theorem convTurned_ct (l : List Ent) (a : A2Tm) (w0 : ∀ e ∈ l, RdE e) (w1 : RdA2Tm a) : CT Tryz.prog 3 [] [.sl (flat entL l) l.length .no, .agg (a2TmL a)] (ab true) [] 0 := by
  obtain ⟨a, b⟩ := a
  obtain ⟨q, hq⟩ := (ev_ConvTurned l a b (rdE_ok w0) (rdE_cl w0) w1.1 w1.2).at
  exact c3 hq
end Go.Proofs.YtmfcobjnlabpoaaGreat
