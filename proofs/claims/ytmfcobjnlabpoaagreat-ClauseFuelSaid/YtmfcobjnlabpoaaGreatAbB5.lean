/- Texts: AbF114 AbF184 AbF242 AbF185 AbF119 AbF49 AbVb AbF41 AbUa AbF249va3474 AbF295va21141 AbF301va3474 AbUb AbF173 AbF106 AbF294va13904 AbF245va22273 AbF293 AbF236 AbF177 AbUc AbF109va36581 AbF109va38460 AbF109va7426 AbF110va45810 AbF110va8026 AbF110va8481 AbUd AbF165 AbF166 AbF111va45810 AbF111va8481 AbUe AbF231 AbF231va47683 AbF188 AbF122 AbF151va6687 AbF186va8342_244va62322_186va48102_244va53988 AbVc AbVd AbF108 AbF111va8026 AbF112va4400 AbF46 AbUf AbF121va42196 AbF121va55787 AbF54 AbVe AbF170 AbF100 AbF21 AbF101 AbF171 AbF98 AbF102 AbF103 AbF104 AbF95 AbF96 AbF97 AbF25 AbF99 AbF44 AbUg AbF113va35861 AbF42 AbF94 AbF43 AbF47 AbF48 AbF8 AbUh AbF50 AbF182 AbF117 AbF52 AbF10 AbVf AbVg -/
import Derived.Test.YtmfcobjnlabpoaaGreatAbB4
set_option linter.unusedVariables false
set_option linter.unusedSimpArgs false
set_option linter.unusedSectionVars false
namespace Go.Proofs.YtmfcobjnlabpoaaGreat
open Go Go.Ab
mutual
def e114:Nat->PatternPat->Int->Option (R24Pat×Int)
 |0,_,_=>none
 |qq+1,p0,p1=>
 e114Lcf qq p0 (w64 (p1-1)) 0 []
def e114Lcf:Nat->PatternPat->Int->Int->(List R24Pat)->Option (R24Pat×Int)
 |0,_,_,_,_=>none
 |qq+1,p0,v1,v7,vb2_3=>
 if decide (v7<(List.length p0.sub_:Int))then
 if decide (v1>(-9000))then
 gidx p0.sub_ v7>>=fun x3=>
 e114 qq (PatternPat.mk x3.kind_ x3.n_ x3.at_ x3.sub_ x3.t_) v1>>=fun r5=>
 gapp 88 vb2_3 [(R24Pat.mk r5.1.kind_ r5.1.n_ r5.1.at_ r5.1.sub_ r5.1.t_)]>>=fun l7=>
 e114Lcf qq p0 r5.2 (w64 (v7+1)) l7
 else
 some ((R24Pat.mk p0.kind_ p0.n_ p0.at_ vb2_3 p0.t_),v1)
 else
 some ((R24Pat.mk p0.kind_ p0.n_ p0.at_ vb2_3 p0.t_),v1)
end
def g114LcfE0(j:Nat->Value)(p0:PatternPat)(v1 v7:Int)(vb2_3:List R24Pat):=sp j 51 0 [(1,ai v1),(2,.mp 0 0),(4,.mp 1 0),(6,.mp 2 0),(7,ai v7)]
def g114LcfS0(p0:PatternPat)(v1 v7:Int)(vb2_3:List R24Pat):LSt:=⟨[(0,.cells [ai p0.kind_,ai p0.n_,ai p0.at_,slv patternPatC p0.sub_ .no,ai p0.t_.k,ai p0.t_.n,slv tmCells p0.t_.sub .no]),(1,.cells [ai 0,ai 0,ai 0,slv r24PatC ([]:List R24Pat) .nl,ai 0,ai 0,slv tmCells ([]:List Tm) .nl]),(2,.cells [ai p0.kind_,ai p0.n_,ai p0.at_,slv r24PatC vb2_3 (.st 0 7),ai p0.t_.k,ai p0.t_.n,slv tmCells p0.t_.sub .no])],3,[0],1,[]⟩
abbrev K114 (p0:PatternPat) (p1:Int) (r:R24Pat×Int) (C:Cf):Prop:=C 114 [] [patternPatA p0,ai p1] (.tup [r24PatA (R24Pat.mk r.1.kind_ r.1.n_ r.1.at_ r.1.sub_ r.1.t_),ai r.2]) [] 0
theorem q114:Qf 114 Tryz.f114:=⟨Tryz.func114,by kernel_rfl⟩
theorem k114{p0 p1 r}(h:K114 p0 p1 r Ci):K114 p0 p1 r Ct:=⟨h,⟨⟨tv,tv,tv,⟨tv,dPatternPat _⟩,tv,tv,⟨tv,dT _⟩,tv⟩,tv,tv⟩,forall_nil,⟨⟨tv,tv,tv,dR24Pat _,tv,tv,dT _,tv⟩,tv,tv⟩,forall_nil⟩
theorem a114_114Lcf:∀qq:Nat,(∀p0 p1 r,e114 qq p0 p1=some r->K114 p0 p1 r Ct)∧(∀p0 v1 v7 vb2_3 r,e114Lcf qq p0 v1 v7 vb2_3=some r->(∀j,Dl Tryz.prog 0 (inn (inn (rgt (lft (rgt (rgt (rgt (bod Tryz.f114)))))))) (g114LcfE0 j p0 v1 v7 vb2_3) (g114LcfS0 p0 v1 v7 vb2_3) (frameQ Tryz.prog 0 (FinQ Tryz.prog 0 Tryz.f114 (.tup [r24PatA (R24Pat.mk r.1.kind_ r.1.n_ r.1.at_ r.1.sub_ r.1.t_),ai r.2]) [] 0) [.blk 0,.seq (rgt (rgt (rgt (rgt (bod Tryz.f114)))))]))):=by
 intro qq
 induction qq with
 |zero=>
  exact⟨fun _ _ _ h=>nn h,fun _ _ _ _ _ h=>nn h⟩
 |succ qq ih=>
  obtain⟨ih114,ih114Lcf⟩:=ih
  refine⟨?_,?_⟩
  intro p0 p1 r h
  rw[e114]at h
  exact k114 (tH q114 6 [(some 2,3,7)] [0,1,2] [0] [1,2,4,6,7] (oD (dT p0.t_.sub)<|oD (dR24Pat ([]:List R24Pat))<|oD (dT ([]:List Tm))<|oD (dR24Pat ([]:List R24Pat))<|oD (dT p0.t_.sub)<|oD (dPatternPat p0.sub_) o0) (ih114Lcf _ _ _ _ _ h))
  intro p0 v1 v7 vb2_3 r h
  rw[e114Lcf]at h
  rcases spl h with⟨h1,h⟩|⟨h1,h⟩
  have k:=oB 2 h1 o0
  rcases spl h with⟨h2,h⟩|⟨h2,h⟩
  obtain⟨x3,h4,h⟩:=obind h
  obtain⟨r5,h6,h⟩:=obind h
  obtain⟨l7,h8,h⟩:=obind h
  exact fun j=>lH 2 [] [0,1,2] [1] [1,2,4,6,7] (oD (dT p0.t_.sub)<|oD (dR24Pat l7)<|oD (dT ([]:List Tm))<|oD (dR24Pat ([]:List R24Pat))<|oD (dT p0.t_.sub)<|oD (dPatternPat p0.sub_)<|oP 0 (apS97 h8 (by simp))<|oS 5 (obLitR r24Pat_eq [(R24Pat.mk r5.1.kind_ r5.1.n_ r5.1.at_ r5.1.sub_ r5.1.t_)])<|oC 1 [] (ih114 _ _ _ h6)<|oA 1 (ix106 (o:=.no) h4)<|oB 0 h2 k) (ih114Lcf _ _ _ _ _ h)
  obtain rfl:=sj h
  exact fun j=>lF 2 [] (oD (dT p0.t_.sub)<|oD (dR24Pat vb2_3)<|oB 0 h2 k)
  obtain rfl:=sj h
  exact fun j=>lF 2 [] (oD (dT p0.t_.sub)<|oD (dR24Pat vb2_3)<|oB 2 h1 o0)
theorem c114{qq p0 p1 r}(h:e114 qq p0 p1=some r):K114 p0 p1 r Ct:=(a114_114Lcf _).1 _ _ _ h
def e184(qq:Nat)(M:Mach):Option (List Ent):=
 e88 qq M.l>>=fun r1=>
 some r1
abbrev K184 (M:Mach) (r:List Ent) (C:Cf):Prop:=C 184 [mB M 1,mR M] [.mp 0 0] (.sl (flat entL r) (List.length r) .no) [mB M 1,mR M] 0
theorem q184:Qf 184 Tryz.f184:=⟨Tryz.func184,by kernel_rfl⟩
theorem k184{M r}(h:K184 M r Ci):K184 M r Ct:=⟨h,⟨(lz rfl),tv⟩,(forall_cons ⟨⟨tv,dE _⟩,(lz rfl),⟨tv,dI _⟩,⟨tv,dI _⟩,tv⟩ (forall_cons ⟨⟨tv,dE _⟩,⟨tv,dC _⟩,tv⟩ forall_nil)),dE _,(forall_cons ⟨dE _,(lz rfl),dI _,dI _,tv⟩ (forall_cons ⟨dE _,dC _,tv⟩ forall_nil))⟩
theorem c184{qq M r}(h:e184 qq M=some r):K184 M r Ct:=by
 unfold e184 at h
 obtain⟨r1,h2,h⟩:=obind h
 obtain rfl:=sj h
 exact k184 (tF q184 0 [0,1] (oD (dE r1)<|oD (dC M.parts)<|oD (dE M.rl)<|oD (dI M.own)<|oD (dI M.args)<|oD (dE M.l)<|oC 2 [] (c88 h2) o0))
def e242(qq:Nat)(p0:List Ent)(p1:PatternPat):Option (Bool):=
 e157 qq p0>>=fun r1=>
 if r1 then
 e298 qq (PatternPat.mk p1.kind_ p1.n_ p1.at_ p1.sub_ p1.t_)>>=fun r4=>
 if r4 then
 e299vace qq p0 (PatternPat.mk p1.kind_ p1.n_ p1.at_ p1.sub_ p1.t_)>>=fun r7=>
 some r7
 else
 some false
 else
 some false
abbrev K242 (p0:List Ent) (p1:PatternPat) (r:Bool) (C:Cf):Prop:=C 242 [] [slv entL p0 .no,patternPatA p1] (ab r) [] 0
theorem q242:Qf 242 Tryz.f242:=⟨Tryz.func242,by kernel_rfl⟩
theorem k242{p0 p1 r}(h:K242 p0 p1 r Ci):K242 p0 p1 r Ct:=⟨h,⟨⟨tv,dE _⟩,⟨tv,tv,tv,⟨tv,dPatternPat _⟩,tv,tv,⟨tv,dT _⟩,tv⟩,tv⟩,forall_nil,tv,forall_nil⟩
theorem c242{qq p0 p1 r}(h:e242 qq p0 p1=some r):K242 p0 p1 r Ct:=by
 unfold e242 at h
 obtain⟨r1,h2,h⟩:=obind h
 rcases spl h with⟨h3,h⟩|⟨h3,h⟩
 obtain⟨r4,h5,h⟩:=obind h
 have k:=oK 0 [] h3 (c157 h2) o0
 rcases spl h with⟨h6,h⟩|⟨h6,h⟩
 obtain⟨r7,h8,h⟩:=obind h
 obtain rfl:=sj h
 exact k242 (tF q242 0 [] (oC 1 [] (c299vace h8)<|oK 1 [] h6 (c298 h5) k))
 obtain rfl:=sj h
 exact k242 (tF q242 0 [] (oK 1 [] h6 (c298 h5) k))
 obtain rfl:=sj h
 exact k242 (tF q242 0 [] (oK 0 [] h3 (c157 h2) o0))
def e185Lcg:Nat->(List Ent)->ClauseClause->Int->Option (Bool)
 |0,_,_,_=>none
 |qq+1,p0,p1,v23=>
 if decide (v23<(List.length p1.pats_:Int))then
 gidx p1.pats_ v23>>=fun x6=>
 e242 qq p0 (PatternPat.mk x6.kind_ x6.n_ x6.at_ x6.sub_ x6.t_)>>=fun r8=>
 if r8 then
 e185Lcg qq p0 p1 (w64 (v23+1))
 else
 some false
 else
 if p1.has_ then
 e243 qq p1.pats_>>=fun r12=>
 e107 qq p1.body_ (List.length r12:Int) (List.length p0:Int)>>=fun r14=>
 if r14 then
 e174 qq p1.body_>>=fun r17=>
 some ((List.length r17:Int)==0)
 else
 some false
 else
 if p1.body_.k==0 then
 if p1.body_.n==0 then
 some ((List.length p1.body_.sub:Int)==0)
 else
 some false
 else
 some false
def e185(qq:Nat)(p0:List Ent)(p1:ClauseClause)(p2:Int):Option (Bool):=
 if (List.length p1.pats_:Int) != p2 then
 some false
 else
 e241 qq p1.pats_>>=fun r2=>
 if r2 then
 e185Lcg qq p0 p1 0
 else
 some false
def g185LcgE0(j:Nat->Value)(p0:List Ent)(p1:ClauseClause)(v23:Int):=sp j 68 0 [(0,slv entL p0 .no),(4,.mp 0 0),(21,slv patternPatC p1.pats_ .no),(22,ai (List.length p1.pats_:Int)),(23,ai v23)]
def g185LcgS0(p0:List Ent)(p1:ClauseClause)(v23:Int):LSt:=⟨[(0,.cells [slv patternPatC p1.pats_ .no,ab p1.has_,ai p1.body_.k,ai p1.body_.n,slv tmCells p1.body_.sub .no])],1,[],0,[]⟩
abbrev K185 (p0:List Ent) (p1:ClauseClause) (p2:Int) (r:Bool) (C:Cf):Prop:=C 185 [] [slv entL p0 .no,clauseClauseA p1,ai p2] (ab r) [] 0
theorem q185:Qf 185 Tryz.f185:=⟨Tryz.func185,by kernel_rfl⟩
theorem k185{p0 p1 p2 r}(h:K185 p0 p1 p2 r Ci):K185 p0 p1 p2 r Ct:=⟨h,⟨⟨tv,dE _⟩,⟨⟨tv,dPatternPat _⟩,tv,tv,tv,⟨tv,dT _⟩,tv⟩,tv,tv⟩,forall_nil,tv,forall_nil⟩
theorem l185Lcg:∀qq:Nat,(∀p0 p1 v23 r,e185Lcg qq p0 p1 v23=some r->(∀j,Dl Tryz.prog 0 (inn (inn (rgt (lft (rgt (rgt (bod Tryz.f185))))))) (g185LcgE0 j p0 p1 v23) (g185LcgS0 p0 p1 v23) (frameQ Tryz.prog 0 (FinQ Tryz.prog 0 Tryz.f185 (ab r) [] 0) [.blk 0,.seq (rgt (rgt (rgt (bod Tryz.f185))))]))):=by
 intro qq
 induction qq with
 |zero=>
  exact fun _ _ _ _ h=>nn h
 |succ qq ih=>
  intro p0 p1 v23 r h
  rw[e185Lcg]at h
  rcases spl h with⟨h5,h⟩|⟨h5,h⟩
  obtain⟨x6,h7,h⟩:=obind h
  obtain⟨r8,h9,h⟩:=obind h
  have k:=oA 0 (ix106 (o:=.no) h7)<|oB 0 h5 o0
  rcases spl h with⟨h10,h⟩|⟨h10,h⟩
  exact fun j=>lH 2 [] [0] [] [0,4,21,22,23] (oD (dPatternPat p1.pats_)<|oD (dE p0)<|oD (dT p1.body_.sub)<|oD (dPatternPat p1.pats_)<|oK 3 [] h10 (c242 h9) k) (ih _ _ _ _ h)
  obtain rfl:=sj h
  exact fun j=>lF 1 [] (oK 3 [] h10 (c242 h9) k)
  have k:=oB 0 h5 o0
  rcases spl h with⟨h11,h⟩|⟨h11,h⟩
  obtain⟨r12,h13,h⟩:=obind h
  obtain⟨r14,h15,h⟩:=obind h
  have k:=oC 3 [] (c243 h13)<|oB 0 h11 k
  rcases spl h with⟨h16,h⟩|⟨h16,h⟩
  obtain⟨r17,h18,h⟩:=obind h
  obtain rfl:=sj h
  exact fun j=>lF 2 [] (oC 1 [] (c174 h18)<|oK 2 [] h16 (c107 h15) k)
  obtain rfl:=sj h
  exact fun j=>lF 0 [] (oK 2 [] h16 (c107 h15) k)
  have k:=oB 0 h11 k
  rcases spl h with⟨h19,h⟩|⟨h19,h⟩
  have k:=oB 2 h19 k
  rcases spl h with⟨h20,h⟩|⟨h20,h⟩
  obtain rfl:=sj h
  exact fun j=>lF 3 [] (oB 1 h20 k)
  obtain rfl:=sj h
  exact fun j=>lF 0 [] (oB 1 h20 k)
  obtain rfl:=sj h
  exact fun j=>lF 0 [] (oB 2 h19 k)
theorem c185{qq p0 p1 p2 r}(h:e185 qq p0 p1 p2=some r):K185 p0 p1 p2 r Ct:=by
 unfold e185 at h
 rcases spl h with⟨h1,h⟩|⟨h1,h⟩
 obtain rfl:=sj h
 exact k185 (tF q185 0 [] (oB 2 h1 o0))
 obtain⟨r2,h3,h⟩:=obind h
 have k:=oB 2 h1 o0
 rcases spl h with⟨h4,h⟩|⟨h4,h⟩
 exact k185 (tH q185 3 [] [0] [] [0,4,21,22,23] (oD (dPatternPat p1.pats_)<|oD (dE p0)<|oD (dT p1.body_.sub)<|oD (dPatternPat p1.pats_)<|oK 1 [] h4 (c241 h3) k) (l185Lcg _ _ _ _ _ h))
 obtain rfl:=sj h
 exact k185 (tF q185 1 [] (oK 1 [] h4 (c241 h3) k))
def e119Lch:Nat->Mach->(List Tm)->(List Ent)->Int->Option (Bool)
 |0,_,_,_,_=>none
 |qq+1,M,p2,r1,v31=>
 if decide (v31<(List.length p2:Int))then
 gidx p2 v31>>=fun x10=>
 e107 qq x10 0 (List.length r1:Int)>>=fun r12=>
 if r12 then
 e174 qq x10>>=fun r15=>
 if decide ((List.length r15:Int)>0)then
 some false
 else
 e119Lch qq M p2 r1 (w64 (v31+1))
 else
 some false
 else
 some true
def e119Lci:Nat->Mach->(List ClauseClause)->(List Tm)->(List Ent)->Int->Option (Bool)
 |0,_,_,_,_,_=>none
 |qq+1,M,p1,p2,r1,v18=>
 if decide (v18<(List.length p1:Int))then
 gidx p1 v18>>=fun x4=>
 e185 qq r1 (ClauseClause.mk x4.pats_ x4.has_ x4.body_) (List.length p2:Int)>>=fun r6=>
 if r6 then
 e119Lci qq M p1 p2 r1 (w64 (v18+1))
 else
 some false
 else
 e119Lch qq M p2 r1 0
def e119(qq:Nat)(M:Mach)(p1:List ClauseClause)(p2:List Tm):Option (Bool):=
 e184 qq M>>=fun r1=>
 e119Lci qq M p1 p2 r1 0
def g119LciE0(j:Nat->Value)(M:Mach)(p1:List ClauseClause)(p2:List Tm)(r1:List Ent)(v18:Int):=sp j 47 0 [(2,slv tmCells p2 .no),(7,slv entL r1 .no),(16,slv clauseClauseL p1 .no),(17,ai (List.length p1:Int)),(18,ai v18)]
def g119LciS0(M:Mach)(p1:List ClauseClause)(p2:List Tm)(r1:List Ent)(v18:Int):LSt:=⟨[(0,mB M 1),(1,mR M)],2,[],0,[]⟩
def g119LchE0(j:Nat->Value)(M:Mach)(p2:List Tm)(r1:List Ent)(v31:Int):=sp j 47 0 [(7,slv entL r1 .no),(29,slv tmCells p2 .no),(30,ai (List.length p2:Int)),(31,ai v31)]
def g119LchS0(M:Mach)(p2:List Tm)(r1:List Ent)(v31:Int):LSt:=⟨[(0,mB M 1),(1,mR M)],2,[],0,[]⟩
abbrev K119 (M:Mach) (p1:List ClauseClause) (p2:List Tm) (r:Bool) (C:Cf):Prop:=C 119 [mB M 1,mR M] [.mp 0 0,slv clauseClauseL p1 .no,slv tmCells p2 .no] (ab r) [mB M 1,mR M] 0
theorem q119:Qf 119 Tryz.f119:=⟨Tryz.func119,by kernel_rfl⟩
theorem k119{M p1 p2 r}(h:K119 M p1 p2 r Ci):K119 M p1 p2 r Ct:=⟨h,⟨(lz rfl),⟨tv,dClauseClause _⟩,⟨tv,dT _⟩,tv⟩,(forall_cons ⟨⟨tv,dE _⟩,(lz rfl),⟨tv,dI _⟩,⟨tv,dI _⟩,tv⟩ (forall_cons ⟨⟨tv,dE _⟩,⟨tv,dC _⟩,tv⟩ forall_nil)),tv,(forall_cons ⟨dE _,(lz rfl),dI _,dI _,tv⟩ (forall_cons ⟨dE _,dC _,tv⟩ forall_nil))⟩
theorem l119Lch:∀qq:Nat,(∀M p2 r1 v31 r,e119Lch qq M p2 r1 v31=some r->(∀j,Dl Tryz.prog 2 (inn (inn (rgt (lft (rgt (rgt (rgt (rgt (bod Tryz.f119))))))))) (g119LchE0 j M p2 r1 v31) (g119LchS0 M p2 r1 v31) (frameQ Tryz.prog 2 (FinQ Tryz.prog 2 Tryz.f119 (ab r) [mB M 1,mR M] 0) [.blk 2,.seq (rgt (rgt (rgt (rgt (rgt (bod Tryz.f119))))))]))):=by
 intro qq
 induction qq with
 |zero=>
  exact fun _ _ _ _ _ h=>nn h
 |succ qq ih=>
  intro M p2 r1 v31 r h
  rw[e119Lch]at h
  rcases spl h with⟨h9,h⟩|⟨h9,h⟩
  obtain⟨x10,h11,h⟩:=obind h
  obtain⟨r12,h13,h⟩:=obind h
  have k:=oA 0 (ix23 (o:=.no) h11)<|oB 0 h9 o0
  rcases spl h with⟨h14,h⟩|⟨h14,h⟩
  obtain⟨r15,h16,h⟩:=obind h
  have k:=oC 2 [] (c174 h16)<|oK 4 [] h14 (c107 h13) k
  rcases spl h with⟨h17,h⟩|⟨h17,h⟩
  obtain rfl:=sj h
  exact fun j=>lF 0 [0,1] (oD (dC M.parts)<|oD (dE M.rl)<|oD (dI M.own)<|oD (dI M.args)<|oD (dE M.l)<|oB 1 h17 k)
  exact fun j=>lH 1 [] [0,1] [] [7,29,30,31] (oD (dT p2)<|oD (dE r1)<|oD (dC M.parts)<|oD (dE M.rl)<|oD (dI M.own)<|oD (dI M.args)<|oD (dE M.l)<|oB 1 h17 k) (ih _ _ _ _ _ h)
  obtain rfl:=sj h
  exact fun j=>lF 1 [0,1] (oD (dC M.parts)<|oD (dE M.rl)<|oD (dI M.own)<|oD (dI M.args)<|oD (dE M.l)<|oK 4 [] h14 (c107 h13) k)
  obtain rfl:=sj h
  exact fun j=>lF 0 [0,1] (oD (dC M.parts)<|oD (dE M.rl)<|oD (dI M.own)<|oD (dI M.args)<|oD (dE M.l)<|oB 0 h9 o0)
theorem l119Lci:∀qq:Nat,(∀M p1 p2 r1 v18 r,e119Lci qq M p1 p2 r1 v18=some r->(∀j,Dl Tryz.prog 2 (inn (inn (rgt (lft (rgt (rgt (rgt (bod Tryz.f119)))))))) (g119LciE0 j M p1 p2 r1 v18) (g119LciS0 M p1 p2 r1 v18) (frameQ Tryz.prog 2 (FinQ Tryz.prog 2 Tryz.f119 (ab r) [mB M 1,mR M] 0) [.blk 0,.seq (rgt (rgt (rgt (rgt (bod Tryz.f119)))))]))):=by
 intro qq
 induction qq with
 |zero=>
  exact fun _ _ _ _ _ _ h=>nn h
 |succ qq ih=>
  intro M p1 p2 r1 v18 r h
  rw[e119Lci]at h
  rcases spl h with⟨h3,h⟩|⟨h3,h⟩
  obtain⟨x4,h5,h⟩:=obind h
  obtain⟨r6,h7,h⟩:=obind h
  have k:=oA 0 (ix91 (o:=.no) h5)<|oB 0 h3 o0
  rcases spl h with⟨h8,h⟩|⟨h8,h⟩
  exact fun j=>lH 2 [] [0,1] [] [2,7,16,17,18] (oD (dClauseClause p1)<|oD (dE r1)<|oD (dT p2)<|oD (dC M.parts)<|oD (dE M.rl)<|oD (dI M.own)<|oD (dI M.args)<|oD (dE M.l)<|oK 4 [] h8 (c185 h7) k) (ih _ _ _ _ _ _ h)
  obtain rfl:=sj h
  exact fun j=>lF 1 [0,1] (oD (dC M.parts)<|oD (dE M.rl)<|oD (dI M.own)<|oD (dI M.args)<|oD (dE M.l)<|oK 4 [] h8 (c185 h7) k)
  exact fun j=>lH 1 [] [0,1] [] [7,29,30,31] (oD (dT p2)<|oD (dE r1)<|oD (dC M.parts)<|oD (dE M.rl)<|oD (dI M.own)<|oD (dI M.args)<|oD (dE M.l)<|oB 0 h3 o0) (l119Lch _ _ _ _ _ _ h)
theorem c119{qq M p1 p2 r}(h:e119 qq M p1 p2=some r):K119 M p1 p2 r Ct:=by
 unfold e119 at h
 obtain⟨r1,h2,h⟩:=obind h
 exact k119 (tH q119 1 [] [0,1] [] [2,7,16,17,18] (oD (dClauseClause p1)<|oD (dE r1)<|oD (dT p2)<|oD (dC M.parts)<|oD (dE M.rl)<|oD (dI M.own)<|oD (dI M.args)<|oD (dE M.l)<|oC 1 [0,1] (c184 h2) o0) (l119Lci _ _ _ _ _ _ _ h))
mutual
def e49Lcj:Nat->(List ClauseClause)->(List R28Clause)->Int->Int->Option (List R28Clause×Bool)
 |0,_,_,_,_=>none
 |qq+1,p0,v4,v5,v6=>
 if decide (v6<(List.length p0:Int))then
 gidx p0 v6>>=fun x2=>
 e49Lck qq p0 v4 v6 x2 v5 0 []
 else
 some (v4,true)
def e49Lck:Nat->(List ClauseClause)->(List R28Clause)->Int->ClauseClause->Int->Int->(List R24Pat)->Option (List R28Clause×Bool)
 |0,_,_,_,_,_,_,_=>none
 |qq+1,p0,v4,v6,x2,v5,v8,vb0_0=>
 gidx p0 v6>>=fun x4=>
 if decide (v8<(List.length x4.pats_:Int))then
 if decide (v5>0)then
 gidx x4.pats_ v8>>=fun x8=>
 e114 qq (PatternPat.mk x8.kind_ x8.n_ x8.at_ x8.sub_ x8.t_) v5>>=fun r10=>
 gapp 88 vb0_0 [(R24Pat.mk r10.1.kind_ r10.1.n_ r10.1.at_ r10.1.sub_ r10.1.t_)]>>=fun l12=>
 e49Lck qq p0 v4 v6 x2 r10.2 (w64 (v8+1)) l12
 else
 if decide ((w64 (v5-1))≤0)then
 some ([],false)
 else
 e66 qq x2.body_>>=fun r15=>
 if decide (r15>150)then
 some ([],false)
 else
 gapp 72 v4 [(R28Clause.mk vb0_0 x2.has_ x2.body_)]>>=fun l18=>
 e49Lcj qq p0 l18 (w64 (v5-1)) (w64 (v6+1))
 else
 if decide ((w64 (v5-1))≤0)then
 some ([],false)
 else
 e66 qq x2.body_>>=fun r21=>
 if decide (r21>150)then
 some ([],false)
 else
 gapp 72 v4 [(R28Clause.mk vb0_0 x2.has_ x2.body_)]>>=fun l24=>
 e49Lcj qq p0 l24 (w64 (v5-1)) (w64 (v6+1))
end
def e49(qq:Nat)(p0:List ClauseClause):Option (List R28Clause×Bool):=
 e49Lcj qq p0 [] 300 0
def g49LcjE0(j:Nat->Value)(p0:List ClauseClause)(v4:List R28Clause)(v5 v6:Int):=sp j 78 0 [(0,slv clauseClauseL p0 .no),(4,slv r28ClauseL v4 (.st 0 5)),(5,ai v5),(6,ai v6)]
def g49LcjS0(p0:List ClauseClause)(v4:List R28Clause)(v5 v6:Int):LSt:=⟨[],0,[0],1,[]⟩
def g49LckE0(j:Nat->Value)(p0:List ClauseClause)(v4:List R28Clause)(v6:Int)(x2:ClauseClause)(v5 v8:Int)(vb0_0:List R24Pat):=sp j 78 0 [(0,slv clauseClauseL p0 .no),(4,slv r28ClauseL v4 (.st 0 5)),(5,ai v5),(6,ai v6),(7,.mp 0 0),(8,ai v8)]
def g49LckS0(p0:List ClauseClause)(v4:List R28Clause)(v6:Int)(x2:ClauseClause)(v5 v8:Int)(vb0_0:List R24Pat):LSt:=⟨[(0,.cells [slv r24PatC vb0_0 (.st 1 7),ab x2.has_,ai x2.body_.k,ai x2.body_.n,slv tmCells x2.body_.sub .no])],1,[0,1],2,[]⟩
abbrev K49 (p0:List ClauseClause) (r:List R28Clause×Bool) (C:Cf):Prop:=C 49 [] [slv clauseClauseL p0 .no] (.tup [.sl (flat r28ClauseL r.1) (List.length r.1) .no,ab r.2]) [] 0
theorem q49:Qf 49 Tryz.f49:=⟨Tryz.func49,by kernel_rfl⟩
theorem k49{p0 r}(h:K49 p0 r Ci):K49 p0 r Ct:=⟨h,⟨⟨tv,dClauseClause _⟩,tv⟩,forall_nil,⟨dR28Clause _,tv,tv⟩,forall_nil⟩
theorem a49Lcj_49Lck:∀qq:Nat,(∀p0 v4 v5 v6 r,e49Lcj qq p0 v4 v5 v6=some r->(∀j,Dl Tryz.prog 0 (inn (inn (rgt (lft (rgt (rgt (rgt (bod Tryz.f49)))))))) (g49LcjE0 j p0 v4 v5 v6) (g49LcjS0 p0 v4 v5 v6) (frameQ Tryz.prog 0 (FinQ Tryz.prog 0 Tryz.f49 (.tup [.sl (flat r28ClauseL r.1) (List.length r.1) .no,ab r.2]) [] 0) [.blk 0,.seq (rgt (rgt (rgt (rgt (bod Tryz.f49)))))])))∧(∀p0 v4 v6 x2 v5 v8 vb0_0 r,e49Lck qq p0 v4 v6 x2 v5 v8 vb0_0=some r->(∀j,Dl Tryz.prog 0 (inn (inn (rgt (lft (rgt (inn (lft (rgt (inn (inn (rgt (lft (rgt (rgt (rgt (bod Tryz.f49)))))))))))))))) (g49LckE0 j p0 v4 v6 x2 v5 v8 vb0_0) (g49LckS0 p0 v4 v6 x2 v5 v8 vb0_0) (frameQ Tryz.prog 0 (FinQ Tryz.prog 0 Tryz.f49 (.tup [.sl (flat r28ClauseL r.1) (List.length r.1) .no,ab r.2]) [] 0) [.blk 2,.seq (rgt (rgt (inn (lft (rgt (inn (inn (rgt (lft (rgt (rgt (rgt (bod Tryz.f49))))))))))))),.blk 1,.seq (rgt (rgt (inn (inn (rgt (lft (rgt (rgt (rgt (bod Tryz.f49)))))))))),.loop (inn (inn (rgt (lft (rgt (rgt (rgt (bod Tryz.f49)))))))),.blk 0,.seq (rgt (rgt (rgt (rgt (bod Tryz.f49)))))]))):=by
 intro qq
 induction qq with
 |zero=>
  exact⟨fun _ _ _ _ _ h=>nn h,fun _ _ _ _ _ _ _ _ h=>nn h⟩
 |succ qq ih=>
  obtain⟨ih49Lcj,ih49Lck⟩:=ih
  refine⟨?_,?_⟩
  intro p0 v4 v5 v6 r h
  rw[e49Lcj]at h
  rcases spl h with⟨h1,h⟩|⟨h1,h⟩
  obtain⟨x2,h3,h⟩:=obind h
  exact fun j=>lH 2 [(some 0,0,7)] [0] [0,1] [0,4,5,6,7,8] (oD (dR28Clause v4)<|oD (dClauseClause p0)<|oD (dT x2.body_.sub)<|oD (dR24Pat ([]:List R24Pat))<|oA 1 (ix91 (o:=.no) h3)<|oA 0 (ix91 (o:=.no) h3)<|oB 1 h1 o0) (ih49Lck _ _ _ _ _ _ _ _ h)
  obtain rfl:=sj h
  exact fun j=>lF 0 [] (oD (dR28Clause v4)<|oB 1 h1 o0)
  intro p0 v4 v6 x2 v5 v8 vb0_0 r h
  rw[e49Lck]at h
  obtain⟨x4,h5,h⟩:=obind h
  have k:=oA 0 (ix91 (o:=.no) h5) o0
  rcases spl h with⟨h6,h⟩|⟨h6,h⟩
  have k:=oB 2 h6 k
  rcases spl h with⟨h7,h⟩|⟨h7,h⟩
  obtain⟨x8,h9,h⟩:=obind h
  obtain⟨r10,h11,h⟩:=obind h
  obtain⟨l12,h13,h⟩:=obind h
  exact fun j=>lH 2 [] [0] [0,2] [0,4,5,6,7,8] (oD (dR28Clause v4)<|oD (dClauseClause p0)<|oD (dT x2.body_.sub)<|oD (dR24Pat l12)<|oP 0 (apS97 h13 (by simp))<|oS 5 (obLitR r24Pat_eq [(R24Pat.mk r10.1.kind_ r10.1.n_ r10.1.at_ r10.1.sub_ r10.1.t_)])<|oC 1 [] (c114 h11)<|oA 1 (ix106 (o:=.no) h9)<|oA 0 (ix91 (o:=.no) h5)<|oB 0 h7 k) (ih49Lck _ _ _ _ _ _ _ _ h)
  have k:=oB 0 h7 k
  rcases spl h with⟨h14,h⟩|⟨h14,h⟩
  obtain rfl:=sj h
  exact fun j=>lF 0 [] (oD (dR28Clause ([]:List R28Clause))<|oB 1 h14 k)
  obtain⟨r15,h16,h⟩:=obind h
  have k:=oC 1 [] (c66 h16)<|oB 1 h14 k
  rcases spl h with⟨h17,h⟩|⟨h17,h⟩
  obtain rfl:=sj h
  exact fun j=>lF 0 [] (oD (dR28Clause ([]:List R28Clause))<|oB 0 h17 k)
  obtain⟨l18,h19,h⟩:=obind h
  exact fun j=>lH 1 [] [] [2] [0,4,5,6] (oD (dR28Clause l18)<|oD (dClauseClause p0)<|oP 2 (apS92 h19 (by simp))<|oB 0 h17 k) (ih49Lcj _ _ _ _ _ h)
  have k:=oB 2 h6 k
  rcases spl h with⟨h20,h⟩|⟨h20,h⟩
  obtain rfl:=sj h
  exact fun j=>lF 0 [] (oD (dR28Clause ([]:List R28Clause))<|oB 1 h20 k)
  obtain⟨r21,h22,h⟩:=obind h
  have k:=oC 1 [] (c66 h22)<|oB 1 h20 k
  rcases spl h with⟨h23,h⟩|⟨h23,h⟩
  obtain rfl:=sj h
  exact fun j=>lF 0 [] (oD (dR28Clause ([]:List R28Clause))<|oB 0 h23 k)
  obtain⟨l24,h25,h⟩:=obind h
  exact fun j=>lH 1 [] [] [2] [0,4,5,6] (oD (dR28Clause l24)<|oD (dClauseClause p0)<|oP 2 (apS92 h25 (by simp))<|oB 0 h23 k) (ih49Lcj _ _ _ _ _ h)
theorem c49{qq p0 r}(h:e49 qq p0=some r):K49 p0 r Ct:=by
 unfold e49 at h
 exact k49 (tH q49 1 [(none,4,5)] [] [0] [0,4,5,6] (oD (dR28Clause ([]:List R28Clause))<|oD (dClauseClause p0) o0) (((a49Lcj_49Lck _).1) _ _ _ _ _ h))
mutual
theorem tot_pat28:∀(p:PatternPat) (n:Int),okPt p->-8999≤n->n≤1000000->Tot (fun q=>e114 q p n) fun r=>r.2≤n-1∧-9000≤r.2∧(-9000<r.2->(ndP p:Int)+r.2≤n)
 | .mk k n0 a sub t,n,ho,h0,h1=>by
  rw[okPt]at ho
  refine Tot.succ ?_
  simp only[e114]
  rw[w64_id (x:=n-1) (by omega) (by omega)]
  refine(tot_pat28L sub (.mk k n0 a sub t) (n-1) 0 [] rfl ho.2.1 ho.1 (by simp;omega) (by omega)).mono fun r hr=>⟨hr.1,hr.2.1,fun h=>?_⟩
  have:=hr.2.2 h
  rw[ndP];omega
theorem tot_pat28L:∀(r:List PatternPat) (p:PatternPat) (n:Int) (v:Nat) (acc:List R24Pat),p.sub_.drop v=r->okPs r->p.sub_.length≤17592186044416->(acc.length:Int)+n≤1000000->-9000≤n->Tot (fun q=>e114Lcf q p n (v:Int) acc) fun o=>o.2≤n∧-9000≤o.2∧(-9000<o.2->(ndPs r:Int)+o.2≤n)
 | [],p,n,v,acc,hd,ho,hl,ha,hn=>by
  refine Tot.succ ?_
  simp only[e114Lcf]
  refine Tot.ite (fun h=>?_) fun _=>Tot.ret ⟨Int.le_refl _,hn,fun _=>by rw[ndPs];simp⟩
  rw[drop_nil hd]at h;cases h
 |x::r,p,n,v,acc,hd,ho,hl,ha,hn=>by
  have hlt:=drop_lt hd
  rw[okPs]at ho
  refine Tot.succ ?_
  simp only[e114Lcf,pp_eta]
  refine Tot.ite (fun _=>Tot.ite (fun hp=>Tot.pure (drop_idx hd) ((tot_pat28 x n ho.1 (by have:=of_decide_eq_true hp;omega) (by omega)).bind fun y hy=>Tot.pure (gapp_ok (by simp;omega)) ?_)) fun hp=>Tot.ret ⟨Int.le_refl _,hn,fun h=>?_⟩) fun h=>?_
  ·rw[w64_nat v (by omega)]
   have h1:=hy.1
   have h2:=hy.2.1
   refine(tot_pat28L r p y.2 (v+1) _ (drop_next hd) ho.2 hl (by simp;omega) h2).mono fun o h=>⟨by have:=h.1;omega,h.2.1,fun h'=>?_⟩
   have a1:=h.2.2 h'
   have a2:=hy.2.2 (by have:=h.1;omega)
   rw[ndPs];omega
  ·exfalso
   have:=of_decide_eq_false hp
   simp only[]at h
   omega
  ·rw[drop_dec hd]at h;cases h
end
theorem tot_ofP(cs:List ClauseClause)(hcs:cs.length≤17592186044416)(v4:List R28Clause)(i:Nat)(c:ClauseClause)(hd:∃r,cs.drop i=c::r)(hc:okC c){P:List R28Clause×Bool->Prop}(hP:P ([],false))(left:Int)(hleft:left≤300)
  (K:∀(n:Int) (acc:List R24Pat),n≤left-1->(ndPs c.pats_:Int)+n≤left->0<n->Tot (fun q=>gapp 72 v4 [R28Clause.mk acc c.has_ c.body_]>>=fun l=>e49Lcj q cs l n (w64 ((i:Int)+1))) P) :
  ∀(r:List PatternPat) (v:Nat) (n:Int) (acc:List R24Pat),c.pats_.drop v=r->okPs r->(acc.length:Int)+n≤300->-9000≤n->n≤left->(ndPs c.pats_:Int)+n≤left+ndPs r->Tot (fun q=>e49Lck q cs v4 (i:Int) c n (v:Int) acc) P:=by
 obtain⟨rr,hd⟩:=hd
 have fin:∀(n:Int) (acc:List R24Pat),-9000≤n->n≤left->(ndPs c.pats_:Int)+n≤left->Tot (fun q=>if decide (w64 (n-1)≤0)=true then some ([],false)else e66 q c.body_>>=fun r15=>if decide (r15>150)=true then some ([],false)else gapp 72 v4 [R28Clause.mk acc c.has_ c.body_]>>=fun l=>e49Lcj q cs l (w64 (n-1)) (w64 ((i:Int)+1))) P:=fun n acc h0 h1 h2=>by
  rw[w64_id (x:=n-1) (by omega) (by omega)]
  refine Tot.ite (fun _=>Tot.ret hP) fun h=>Tot.bind (P:=fun _=>True) ((ev_rSize c.body_).tot trivial) fun _ _=>Tot.ite (fun _=>Tot.ret hP) fun _=>K (n-1) acc (by omega) (by omega) (by have:=of_decide_eq_false h;omega)
 intro r
 induction r with
 |nil=>
  intro v n acc hv ho ha h0 h1 h2
  refine Tot.succ ?_
  simp only[e49Lck]
  refine Tot.pure (drop_idx hd) (Tot.ite (fun h=>?_) fun _=>fin n acc h0 h1 (by rw[ndPs]at h2;omega))
  rw[drop_nil hv]at h;cases h
 |cons x r ih=>
  intro v n acc hv ho ha h0 h1 h2
  have hlt:=drop_lt hv
  have hcl:=hc.1
  rw[okPs]at ho
  rw[ndPs]at h2
  refine Tot.succ ?_
  simp only[e49Lck,pp_eta]
  refine Tot.pure (drop_idx hd) (Tot.ite (fun _=>Tot.ite (fun hp=>Tot.pure (drop_idx hv) ?_) fun hp=>?_) fun h=>?_)
  ·have hp':=of_decide_eq_true hp
   refine(tot_pat28 x n ho.1 (by omega) (by omega)).bind fun y hy=>Tot.pure (gapp_ok (by simp;omega)) ?_
   rw[w64_nat v (by omega)]
   have b1:=hy.1
   have b2:=hy.2.1
   by_cases b3:-9000<y.2
   ·have:=hy.2.2 b3
    exact ih (v+1) y.2 _ (drop_next hv) ho.2 (by simp;omega) b2 (by omega) (by omega)
   ·-- too great: what follows says no
    have hz:y.2 = -9000:=by omega
    rw[hz]
    have no:∀(r:List PatternPat) (v:Nat) (acc:List R24Pat),c.pats_.drop v=r->Tot (fun q=>e49Lck q cs v4 (i:Int) c (-9000) (v:Int) acc) P:=fun r v acc hv=>by
     refine Tot.succ ?_
     simp only[e49Lck,pp_eta]
     exact Tot.pure (drop_idx hd) (Tot.ite (fun _=>Tot.ite (fun h=>by cases h) fun _=>Tot.ite (fun _=>Tot.ret hP) fun h=>by cases h) fun _=>Tot.ite (fun _=>Tot.ret hP) fun h=>by cases h)
    exact no r (v+1) _ (drop_next hv)
  ·have hp':=of_decide_eq_false hp
   rw[w64_id (x:=n-1) (by omega) (by omega)]
   refine Tot.ite (fun _=>Tot.ret hP) fun h=>?_
   have:=of_decide_eq_false h
   omega
  ·rw[drop_dec hv]at h;cases h
theorem tot_of0(cs:List ClauseClause)(hcs:cs.length≤17592186044416):∀(r:List ClauseClause) (i:Nat) (acc:List R28Clause) (n:Int),cs.drop i=r->(∀c∈r,okC c)->(acc.length:Int)+n≤300->0≤n->Tot (fun q=>e49Lcj q cs acc n (i:Int)) fun o=>o.2=true->∀c∈r,ndPs c.pats_≤300
 | [],i,acc,n,hd,ho,ha,h0=>by
  refine Tot.succ ?_
  simp only[e49Lcj]
  refine Tot.ite (fun h=>?_) fun _=>Tot.ret fun _ _ h=>nomatch h
  rw[drop_nil hd]at h;cases h
 |c::r,i,acc,n,hd,ho,ha,h0=>by
  have hlt:=drop_lt hd
  refine Tot.succ ?_
  simp only[e49Lcj]
  refine Tot.ite (fun _=>Tot.pure (drop_idx hd) ?_) fun h=>?_
  ·refine tot_ofP cs hcs acc i c ⟨r,hd⟩ (ho c (by simp)) (fun h=>nomatch h) n (by omega) (fun n' acc' h1 h2 h3=>Tot.pure (gapp_ok (by simp;omega)) ?_) c.pats_ 0 n [] rfl (ho c (by simp)).2.1 (by simp;omega) (by omega) (by omega) (by omega)
   rw[w64_nat i (by omega)]
   refine(tot_of0 cs hcs r (i+1) _ n' (drop_next hd) (fun x hx=>ho x (by simp[hx])) (by simp;omega) (by omega)).mono fun o h hb x hx=>?_
   rcases List.mem_cons.1 hx with rfl|hx
   ·omega
   ·exact h hb x hx
  ·rw[drop_dec hd]at h;cases h
theorem tot_of28(cs:List ClauseClause)(hcs:cs.length≤17592186044416)(ho:∀c∈cs,okC c):Tot (fun q=>e49 q cs) fun o=>o.2=true->∀c∈cs,ndPs c.pats_≤300:=by
 simp only[e49]
 exact tot_of0 cs hcs cs 0 [] 300 rfl ho (by simp) (by omega)
section
variable {N:ByteArray->Bool} {l:List Ent} (hE:AllE N l) (hF:Evt (fun q=>e157 q l) true)
include hE hF
theorem tot_pRight(p:PatternPat)(ho:okPt p):Tot (fun q=>e242 q l p) fun b=>b=true->GP l p:=by
 simp only[e242,pp_eta]
 refine Tot.bind (P:=fun b=>b=true) (hF.tot rfl) fun _ _=>Tot.ite (fun _=>(tot_psmall p ho).bind fun _ _=>Tot.ite (fun _=>(tot_good hE p ho).bind fun b hb=>Tot.ret hb) fun _=>Tot.ret fun h=>nomatch h) fun _=>Tot.ret fun h=>nomatch h
theorem tot_cRightL(c:ClauseClause)(ho:okC c)(hn:ndPs c.pats_≤300)(n:Int):∀(r:List PatternPat) (v:Nat),c.pats_.drop v=r->Tot (fun q=>e185Lcg q l c (v:Int)) fun b=>b=true->∀p∈r,GP l p:=by
 intro r
 induction r with
 |nil=>
  intro v hd
  refine Tot.succ ?_
  simp only[e185Lcg]
  refine Tot.ite (fun h=>?_) fun _=>?_
  ·rw[drop_nil hd]at h;cases h
  refine Tot.mono (P:=fun _=>True) ?_ fun _ _ _ _ h=>nomatch h
  refine Tot.ite (fun _=>?_) fun _=>Tot.ite (fun _=>Tot.ite (fun _=>Tot.ret trivial) fun _=>Tot.ret trivial) fun _=>Tot.ret trivial
  refine(tot_pVars c.pats_ ho.2.1 (by omega)).bind fun r hr=>Tot.bind (P:=fun _=>True) ((ev_Right c.body_ _ _ ho.2.2).tot trivial) fun _ _=>Tot.ite (fun _=>?_) fun _=>Tot.ret trivial
  exact Tot.bind (P:=fun _=>True) ((ev_Frees c.body_ ho.2.2).tot trivial) fun _ _=>Tot.ret trivial
 |cons x r ih=>
  intro v hd
  have hlt:=drop_lt hd
  have:=ho.1
  refine Tot.succ ?_
  simp only[e185Lcg,pp_eta]
  refine Tot.ite (fun _=>Tot.pure (drop_idx hd) ((tot_pRight hE hF x (okPs_at ho.2.1 x (List.mem_of_mem_drop (by rw[hd];simp)))).bind fun b hb=>Tot.ite (fun h=>?_) fun _=>Tot.ret fun h=>nomatch h)) fun h=>?_
  ·rw[w64_nat v (by omega)]
   refine(ih (v+1) (drop_next hd)).mono fun o ho' h' p hp=>?_
   rcases List.mem_cons.1 hp with rfl|hp
   ·exact hb h
   ·exact ho' h' p hp
  ·rw[drop_dec hd]at h;cases h
theorem tot_cRight(c:ClauseClause)(ho:okC c)(hn:ndPs c.pats_≤300)(n:Int):Tot (fun q=>e185 q l c n) fun b=>b=true->(c.pats_.length:Int)=n∧∀p∈c.pats_,GP l p:=by
 simp only[e185]
 refine Tot.ite (fun _=>Tot.ret fun h=>nomatch h) fun h=>(tot_pLinear c.pats_ ho.2.1 (by omega)).bind fun _ _=>Tot.ite (fun _=>?_) fun _=>Tot.ret fun h=>nomatch h
 exact(tot_cRightL hE hF c ho hn n c.pats_ 0 rfl).mono fun b hb h'=>⟨by simpa using h,hb h'⟩
theorem tot_mayA(as0:List Tm)(ha:OkA as0)(hl:as0.length≤1000000):∀(r:List Tm) (v:Nat),as0.drop v=r->Tot (fun q=>e119Lch q (machT l) as0 l (v:Int)) fun b=>b=true->∀x∈r,shapedT x=true:=by
 intro r
 induction r with
 |nil=>
  intro v hd
  refine Tot.succ ?_
  simp only[e119Lch]
  refine Tot.ite (fun h=>?_) fun _=>Tot.ret fun _ _ h=>nomatch h
  rw[drop_nil hd]at h;cases h
 |cons x r ih=>
  intro v hd
  have hlt:=drop_lt hd
  have hx:=ha x (List.mem_of_mem_drop (by rw[hd];simp))
  refine Tot.succ ?_
  simp only[e119Lch]
  refine Tot.ite (fun _=>Tot.pure (drop_idx hd) (Tot.bind (P:=fun b=>b=rightT x 0 l.length) ((ev_Right x 0 l.length hx).tot rfl) fun b hb=>Tot.ite (fun h=>?_) fun _=>Tot.ret fun h=>nomatch h)) fun h=>?_
  ·refine Tot.bind (P:=fun _=>True) ((ev_Frees x hx).tot trivial) fun _ _=>Tot.ite (fun _=>Tot.ret fun h=>nomatch h) fun _=>?_
   rw[w64_nat v (by omega)]
   refine(ih (v+1) (drop_next hd)).mono fun o ho' h' p hp=>?_
   rcases List.mem_cons.1 hp with rfl|hp
   ·rw[h]at hb
    have hb:=hb.symm
    unfold rightT at hb
    simp only[Bool.and_eq_true]at hb
    exact hb.1.1
   ·exact ho' h' p hp
  ·rw[drop_dec hd]at h;cases h
def MayC(l:List Ent)(cs:List ClauseClause)(n:Nat):Prop:=∀c∈cs,c.pats_.length=n∧∀p∈c.pats_,GP l p
theorem tot_mayC(cs:List ClauseClause)(hcs:cs.length≤17592186044416)(ho:∀c∈cs,okC c∧ndPs c.pats_≤300)(as0:List Tm)(ha:OkA as0)(hl:as0.length≤1000000):∀(r:List ClauseClause) (v:Nat),cs.drop v=r->Tot (fun q=>e119Lci q (machT l) cs as0 l (v:Int)) fun b=>b=true->MayC l r as0.length∧∀x∈as0,shapedT x=true:=by
 intro r
 induction r with
 |nil=>
  intro v hd
  refine Tot.succ ?_
  simp only[e119Lci]
  refine Tot.ite (fun h=>?_) fun _=>?_
  ·rw[drop_nil hd]at h;cases h
  exact(tot_mayA hE hF as0 ha hl as0 0 rfl).mono fun b hb h=>⟨fun _ h=>(nomatch h),hb h⟩
 |cons x r ih=>
  intro v hd
  have hlt:=drop_lt hd
  have hx:=ho x (List.mem_of_mem_drop (by rw[hd];simp))
  refine Tot.succ ?_
  simp only[e119Lci]
  refine Tot.ite (fun _=>Tot.pure (drop_idx hd) ((tot_cRight hE hF x hx.1 hx.2 _).bind fun b hb=>Tot.ite (fun h=>?_) fun _=>Tot.ret fun h=>nomatch h)) fun h=>?_
  ·rw[w64_nat v (by omega)]
   refine(ih (v+1) (drop_next hd)).mono fun o ho' h'=>⟨fun p hp=>?_,(ho' h').2⟩
   rcases List.mem_cons.1 hp with rfl|hp
   ·have:=hb h
    exact⟨by omega,this.2⟩
   ·exact(ho' h').1 p hp
  ·rw[drop_dec hd]at h;cases h
theorem tot_may(hll:l.length≤65535)(he:∀e∈l,EOk e)(hc:∀e∈l,ECl e)(hcop:l.map copE=l)(cs:List ClauseClause)(hcs:cs.length≤17592186044416)(ho:∀c∈cs,okC c∧ndPs c.pats_≤300)(as0:List Tm)(ha:OkA as0)(hl:as0.length≤1000000):Tot (fun q=>e119 q (machT l) cs as0) fun b=>b=true->MayC l cs as0.length∧∀x∈as0,shapedT x=true:=by
 simp only[e119,e184,machT_l]
 have e1:Evt (fun q=>e88 q l) l:=(ev_sCopy l hll he hc).eq hcop
 refine Tot.bind (P:=fun r=>r=l) ((e1.bind Evt.ret).tot rfl) fun r hr=>?_
 subst hr
 exact tot_mayC hE hF cs hcs ho as0 ha hl cs 0 rfl
end
theorem okL_snoc:∀ {l:List Tm} {t:Tm},OkL l->t.Ok->OkL (l++[t])
 | [],t,_,h=>⟨h,trivial⟩
 |a::l,t,h,ht=>⟨h.1,okL_snoc h.2 ht⟩
def TotU{α:Type}(f:Int->Int->Nat->Option α)(P:α->Prop):Prop:=∃a,P a∧∀L U,Evt (f L U) a
section
variable {ρ τ:Type} {er:ρ->Int} {Q:(Int->Int->ρ)->Int->Prop} {S:Prop} {l:Int}
theorem Ou.uni{P:τ->Prop}{x:Int->Int->Nat->Option τ}{c:Int->Int->Nat->τ->Option ρ}(h:TotU x P)(g:∀a,P a->Ou (fun L U q=>c L U q a) er Q S l):Ou (fun L U q=>x L U q>>=c L U q) er Q S l:=by
 obtain⟨a,p,h⟩:=h
 exact(g a p).imp fun L U r k=>(h L U).bind k
end
def LOk(b:List Tm):Prop:=OkL b∧b.length≤1048576
theorem okL_all:∀ {l:List Tm},OkL l->∀x∈l,x.Ok
 | [],_,_,h=>nomatch h
 |a::l,⟨h1,h2⟩,x,hx=>by
  rcases List.mem_cons.1 hx with rfl|hx
  ·exact h1
  ·exact okL_all h2 x hx
theorem gchk_ok{n:Nat}{v:Nat}(h:v<n):gchk n (v:Int)=some v:=by unfold gchk;rw[if_pos (by omega)];simp
theorem gidx_nat{α:Type}{l:List α}{v:Nat}(h:v<l.length):gidx l (v:Int)=some l[v]:=by unfold gidx;rw[if_pos (by omega)];simp[h]
def e165(qq:Nat)(M:Mach)(p1:Tm):Option (Int×List Tm×Bool):=
 e89 qq p1>>=fun r1=>
 if r1 then
 e123 qq p1>>=fun r4=>
 e230 qq M r4>>=fun r6=>
 some (r6.1,r6.2.1,r6.2.2)
 else
 some (0,[],false)
abbrev K165 (M:Mach) (p1:Tm) (r:Int×List Tm×Bool) (C:Cf):Prop:=C 165 [mB M 1,mR M] [.mp 0 0,tmA p1] (.tup [ai r.1,.sl (flat tmCells r.2.1) (List.length r.2.1) .no,ab r.2.2]) [mB M 1,mR M] 0
theorem q165:Qf 165 Tryz.f165:=⟨Tryz.func165,by kernel_rfl⟩
theorem k165{M p1 r}(h:K165 M p1 r Ci):K165 M p1 r Ct:=⟨h,⟨(lz rfl),⟨tv,tv,⟨tv,dT _⟩,tv⟩,tv⟩,(forall_cons ⟨⟨tv,dE _⟩,(lz rfl),⟨tv,dI _⟩,⟨tv,dI _⟩,tv⟩ (forall_cons ⟨⟨tv,dE _⟩,⟨tv,dC _⟩,tv⟩ forall_nil)),⟨tv,dT _,tv,tv⟩,(forall_cons ⟨dE _,(lz rfl),dI _,dI _,tv⟩ (forall_cons ⟨dE _,dC _,tv⟩ forall_nil))⟩
theorem c165{qq M p1 r}(h:e165 qq M p1=some r):K165 M p1 r Ct:=by
 unfold e165 at h
 obtain⟨r1,h2,h⟩:=obind h
 rcases spl h with⟨h3,h⟩|⟨h3,h⟩
 obtain⟨r4,h5,h⟩:=obind h
 obtain⟨r6,h7,h⟩:=obind h
 obtain rfl:=sj h
 exact k165 (tF q165 3 [0,1] (oD (dT r6.2.1)<|oD (dC M.parts)<|oD (dE M.rl)<|oD (dI M.own)<|oD (dI M.args)<|oD (dE M.l)<|oC 0 [0,1] (c230 h7)<|oC 2 [] (c123 h5)<|oK 2 [] h3 (c89 h2) o0))
 obtain rfl:=sj h
 exact k165 (tF q165 1 [0,1] (oD (dT ([]:List Tm))<|oD (dC M.parts)<|oD (dE M.rl)<|oD (dI M.own)<|oD (dI M.args)<|oD (dE M.l)<|oK 2 [] h3 (c89 h2) o0))
def e166(qq:Nat)(M:Mach)(p1:Int):Option (Int):=
 if decide (p1<0)then
 some 0
 else
 if decide (p1≥(List.length M.l:Int))then
 some 0
 else
 gidx M.l p1>>=fun x3=>
 some x3.pars
abbrev K166 (M:Mach) (p1 r:Int) (C:Cf):Prop:=C 166 [mB M 1,mR M] [.mp 0 0,ai p1] (ai r) [mB M 1,mR M] 0
theorem q166:Qf 166 Tryz.f166:=⟨Tryz.func166,by kernel_rfl⟩
theorem k166{M p1 r}(h:K166 M p1 r Ci):K166 M p1 r Ct:=⟨h,⟨(lz rfl),tv,tv⟩,(forall_cons ⟨⟨tv,dE _⟩,(lz rfl),⟨tv,dI _⟩,⟨tv,dI _⟩,tv⟩ (forall_cons ⟨⟨tv,dE _⟩,⟨tv,dC _⟩,tv⟩ forall_nil)),tv,(forall_cons ⟨dE _,(lz rfl),dI _,dI _,tv⟩ (forall_cons ⟨dE _,dC _,tv⟩ forall_nil))⟩
theorem c166{qq M p1 r}(h:e166 qq M p1=some r):K166 M p1 r Ct:=by
 unfold e166 at h
 rcases spl h with⟨h1,h⟩|⟨h1,h⟩
 obtain rfl:=sj h
 exact k166 (tF q166 0 [0,1] (oD (dC M.parts)<|oD (dE M.rl)<|oD (dI M.own)<|oD (dI M.args)<|oD (dE M.l)<|oB 1 h1 o0))
 have k:=oB 1 h1 o0
 rcases spl h with⟨h2,h⟩|⟨h2,h⟩
 obtain rfl:=sj h
 exact k166 (tF q166 0 [0,1] (oD (dC M.parts)<|oD (dE M.rl)<|oD (dI M.own)<|oD (dI M.args)<|oD (dE M.l)<|oB 2 h2 k))
 obtain⟨x3,h4,h⟩:=obind h
 obtain rfl:=sj h
 exact k166 (tF q166 1 [0,1] (oD (dC M.parts)<|oD (dE M.rl)<|oD (dI M.own)<|oD (dI M.args)<|oD (dE M.l)<|oA 1 (ix22 (o:=.no) h4)<|oB 2 h2 k))
theorem out_BringL{N:ByteArray->Bool}(l:List Ent)(hE:AllE N l)(he:∀e∈l,EOk e)(x:Tm)(ho:x.Ok)(f:Int)(hf:0≤f):Ou (fun L U q=>e69 q (machT l) x L U) er4 (fun R _=>∃y e,y.Ok∧e≠8∧(e=0->shapedT y=true)∧R=fun L U=>(y,e,L,U)) True f:=by
 refine(out_Bring l hE he x ho f hf).mono ?_ fun _=>trivial
 rintro R k _ _ (⟨-,-,rfl⟩|⟨hR,y,e,hbr,rfl⟩)
 ·exact⟨zT,5,zT_ok,by decide,fun h=>absurd h (by decide),rfl⟩
 ·by_cases e0:e=0
  ·subst e0
   exact⟨y,0,shaped_ok (hbr.shaped hR.shaped rfl),by decide,fun _=>hbr.shaped hR.shaped rfl,by simp⟩
  ·exact⟨zT,e,zT_ok,hbr.e8 hE hR.shaped,fun h=>absurd h e0,by simp[e0]⟩
theorem ne8L{e:Int}(h:e=8):(e != 0)=true:=by rw[h];decide
theorem con_parsL{N:ByteArray->Bool}{l:List Ent}(hE:AllE N l){t:Tm}(hs:shapedT t=true)(hc:isCon l t):∃p:Nat,(ent l (hdT t).n).pars=(p:Int)∧p≤(arT t).length∧0≤(hdT t).n∧(hdT t).n<l.length:=by
 have h:=isCon_spec hs hc
 obtain⟨A,y,hw,-,-,hp,-,q0,q1,-⟩:=con_facts hE h.1 h.2.1 h.2.2.1
 exact⟨(ent l (hdT t).n).pars.toNat,by omega,by rw[h.2.2.2];omega,h.1,h.2.1⟩
theorem ev_ConL(l:List Ent)(t:Tm)(hs:shapedT t=true):Evt (fun q=>e165 q (machT l) t) (conX l t):=by
 simp only[e165]
 refine(ev_Shaped t (shaped_ok hs)).bind (Evt.ifT hs (((ev_Copy t (shaped_ok hs)).eq (by unfold copT;rw[if_pos hs])).bind ((ev_wcon l t hs).bind Evt.ret)))
theorem ar_le{t:Tm}(hs:shapedT t=true):(arT t).length≤8192:=by
 have h:=shapedT_spec hs
 have:=ar_len t h.2.2
 omega
def e231Lcl(qq:Nat)(p0:List Tm)(v2 v3:Int):Option (Unit):=
 if decide (v2<v3)then
 none
 else
 some ()
def e231(qq:Nat)(p0:List Tm):Option (Unit):=
 e231Lcl qq p0 0 (w64 ((List.length p0:Int)-1))
def g231LclE0(j:Nat->Value)(p0:List Tm)(v2 v3:Int):=sp j 28 0 [(0,slv tmCells p0 .no),(2,ai v2),(3,ai v3)]
def g231LclS0(p0:List Tm)(v2 v3:Int):LSt:=⟨[],0,[],0,[]⟩
abbrev K231 (p0:List Tm) (C:Cf):Prop:=C 231 [] [slv tmCells p0 .no] (.tup []) [] 0
theorem q231:Qf 231 Tryz.f231:=⟨Tryz.func231,by kernel_rfl⟩
theorem k231{p0}(h:K231 p0 Ci):K231 p0 Ct:=⟨h,⟨⟨tv,dT _⟩,tv⟩,forall_nil,tv,forall_nil⟩
theorem l231Lcl(qq p0 v2 v3 r)(h:e231Lcl qq p0 v2 v3=some r):(∀j,Dl Tryz.prog 0 (inn (inn (rgt (bod Tryz.f231)))) (g231LclE0 j p0 v2 v3) (g231LclS0 p0 v2 v3) (frameQ Tryz.prog 0 (FinQ Tryz.prog 0 Tryz.f231 (.tup []) [] 0) [.blk 0])):=by
 unfold e231Lcl at h
 obtain⟨h1,h⟩:=splF h
 obtain rfl:=sj h
 exact fun j=>lF 0 [] (oB 0 h1 o0)
theorem c231{qq p0 r}(h:e231 qq p0=some r):K231 p0 Ct:=by
 unfold e231 at h
 exact k231 (tH q231 2 [] [] [] [0,2,3] (oD (dT p0) o0) (l231Lcl qq _ _ _ _ h))
def e231vacmLcn:Nat->(List Tm)->Int->Int->(List Tm)->Option (List Tm)
 |0,_,_,_,_=>none
 |qq+1,q0,v2,v3,vb0_0=>
 if decide (v2<v3)then
 gchk (List.length q0) v3>>=fun x2=>
 gidx vb0_0 (x2:Int)>>=fun x4=>
 gchk (List.length q0) v2>>=fun x6=>
 gidx vb0_0 (x6:Int)>>=fun x8=>
 gset vb0_0 x6 x4>>=fun x10=>
 gset x10 x2 x8>>=fun x12=>
 e231vacmLcn qq q0 (w64 (v2+1)) (w64 (v3-1)) x12
 else
 some vb0_0
def e231vacm(qq:Nat)(q0:List Tm):Option (List Tm):=
 e231vacmLcn qq q0 0 (w64 ((List.length q0:Int)-1)) q0
def g231vacmLcnE0(j:Nat->Value)(q0:List Tm)(v2 v3:Int)(vb0_0:List Tm):=sp j 28 0 [(0,.ms 0 0 (List.length q0) (List.length q0) 3),(2,ai v2),(3,ai v3)]
def g231vacmLcnS0(q0:List Tm)(v2 v3:Int)(vb0_0:List Tm):LSt:=⟨[(0,.row (flat tmCells vb0_0))],1,[],0,[]⟩
abbrev K231vacm (q0 r:List Tm) (C:Cf):Prop:=C 231 [.row (flat tmCells q0)] [.ms 0 0 (List.length q0) (List.length q0) 3] (.tup []) [.row (flat tmCells r)] 0
theorem q231vacm:Qf 231 Tryz.f231:=⟨Tryz.func231,by kernel_rfl⟩
theorem k231vacm{q0 r}(h:K231vacm q0 r Ci):K231vacm q0 r Ct:=⟨h,⟨(lz rfl),tv⟩,(forall_cons (dT _) forall_nil),tv,(forall_cons (dT _) forall_nil)⟩
theorem l231vacmLcn:∀qq:Nat,(∀q0 v2 v3 vb0_0 r,e231vacmLcn qq q0 v2 v3 vb0_0=some r->(∀j,Dl Tryz.prog 1 (inn (inn (rgt (bod Tryz.f231)))) (g231vacmLcnE0 j q0 v2 v3 vb0_0) (g231vacmLcnS0 q0 v2 v3 vb0_0) (frameQ Tryz.prog 1 (FinQ Tryz.prog 1 Tryz.f231 (.tup []) [.row (flat tmCells r)] 0) [.blk 0]))):=by
 intro qq
 induction qq with
 |zero=>
  exact fun _ _ _ _ _ h=>nn h
 |succ qq ih=>
  intro q0 v2 v3 vb0_0 r h
  rw[e231vacmLcn]at h
  rcases spl h with⟨h1,h⟩|⟨h1,h⟩
  obtain⟨x2,h3,h⟩:=obind h
  obtain⟨x4,h5,h⟩:=obind h
  obtain⟨x6,h7,h⟩:=obind h
  obtain⟨x8,h9,h⟩:=obind h
  obtain⟨x10,h11,h⟩:=obind h
  obtain⟨x12,h13,h⟩:=obind h
  exact fun j=>lH 2 [] [0] [] [0,2,3] (oD (dT x12)<|oW 0 (wtE (x:=x8) (cs:=[ai x8.k,ai x8.n,slv tmCells x8.sub .no]) codecT (by rw[tm_eq];rfl) h13)<|oA 0 (ixM23 (b:=0) (c:=List.length q0) (z:=3) h3)<|oW 0 (wtE (x:=x4) (cs:=[ai x4.k,ai x4.n,slv tmCells x4.sub .no]) codecT (by rw[tm_eq];rfl) h11)<|oA 0 (ixM23 (b:=0) (c:=List.length q0) (z:=3) h7)<|oG (a:=(.agg [ai x8.k,ai x8.n,slv tmCells x8.sub .no])) 0 (ldE codecT h9 (true,3) (val:=.agg [ai x8.k,ai x8.n,slv tmCells x8.sub .no]) (by rw[tm_eq];rfl))<|oA 0 (ixM23 (b:=0) (c:=List.length q0) (z:=3) h7)<|oG (a:=(.agg [ai x4.k,ai x4.n,slv tmCells x4.sub .no])) 0 (ldE codecT h5 (true,3) (val:=.agg [ai x4.k,ai x4.n,slv tmCells x4.sub .no]) (by rw[tm_eq];rfl))<|oA 0 (ixM23 (b:=0) (c:=List.length q0) (z:=3) h3)<|oB 0 h1 o0) (ih _ _ _ _ _ h)
  obtain rfl:=sj h
  exact fun j=>lF 0 [0] (oD (dT vb0_0)<|oB 0 h1 o0)
theorem c231vacm{qq q0 r}(h:e231vacm qq q0=some r):K231vacm q0 r Ct:=by
 unfold e231vacm at h
 exact k231vacm (tH q231vacm 2 [] [0] [] [0,2,3] (oD (dT q0) o0) (l231vacmLcn _ _ _ _ _ _ h))
def e188(qq:Nat)(p0:List Tm):Option ((List Tm) ⊕ ((Unit) ⊕ (List Tm))):=
 e120vr qq p0>>=fun r1=>
 match r1 with
 |Sum.inl y3=>
  e231 qq []>>=fun r4=>
  some (Sum.inr (Sum.inl ()))
 |Sum.inr y6=>
  e231vacm qq y6>>=fun r7=>
  gfz (List.length y6) r7>>=fun l9=>
  some (Sum.inr (Sum.inr l9))
abbrev K188s0 (p0 r:List Tm) (C:Cf):Prop:=C 188 [] [slv tmCells p0 .no] (.sl (flat tmCells r) (List.length r) .no) [] 0
abbrev K188s1 (p0:List Tm) (C:Cf):Prop:=C 188 [] [slv tmCells p0 .no] (slv tmCells ([]:List Tm) .full) [] 0
abbrev K188s2 (p0 r:List Tm) (C:Cf):Prop:=C 188 [] [slv tmCells p0 .no] (.ms 0 0 (List.length r) (List.length r) 3) [.row (flat tmCells r)] 0
theorem q188:Qf 188 Tryz.f188:=⟨Tryz.func188,by kernel_rfl⟩
theorem k188s1{p0}(h:K188s1 p0 Ci):K188s1 p0 Ct:=⟨h,⟨⟨tv,dT _⟩,tv⟩,forall_nil,dT _,forall_nil⟩
theorem k188s2{p0 r}(h:K188s2 p0 r Ci):K188s2 p0 r Ct:=⟨h,⟨⟨tv,dT _⟩,tv⟩,forall_nil,(lz rfl),(forall_cons (dT _) forall_nil)⟩
theorem c188r{qq p0 r}(h:e188 qq p0=some r):(match (generalizing:=false) r with|Sum.inl x=>K188s0 p0 x Ct|Sum.inr (Sum.inl x)=>K188s1 p0 Ct|Sum.inr (Sum.inr x)=>K188s2 p0 x Ct):=by
 unfold e188 at h
 obtain⟨r1,h2,h⟩:=obind h
 rcases r1 with y3|y6
 dsimp only at h
 obtain⟨r4,h5,h⟩:=obind h
 obtain rfl:=sj h
 exact k188s1 (tG q188 0 [] [] [] true (oD (dT ([]:List Tm))<|oC 0 [] (c231 h5)<|oC 0 [] (c120vr h2) o0))
 dsimp only at h
 obtain⟨r7,h8,h⟩:=obind h
 obtain⟨l9,h10,h⟩:=obind h
 obtain⟨h10a,h10b⟩:=gfz_spec h10
 obtain rfl:=sj h
 obtain rfl:=h10a.symm
 dsimp only
 exact k188s2 (by unfold K188s2;rw[←h10b];exact(tF q188 0 [0] (oD (dT r7)<|oC 0 [0] (c231vacm h8)<|oC 0 [] (c120vr h2) o0)))
theorem c188{qq p0 r}(h:e188 qq p0=some r):(match (generalizing:=false) r with|Sum.inl x=>CT Tryz.prog 188 [] [slv tmCells p0 .no] (.sl (flat tmCells x) (List.length x) .no) [] 0|Sum.inr (Sum.inl x)=>CT Tryz.prog 188 [] [slv tmCells p0 .no] (slv tmCells ([]:List Tm) .full) [] 0|Sum.inr (Sum.inr x)=>CT Tryz.prog 188 [] [slv tmCells p0 .no] (.sl (flat tmCells x) (List.length x) .no) [] 0):=by
 have k:=c188r h
 rcases r with y0 | (y1|y2)
 ·exact k
 ·exact k
 ·exact CT.freeze (H1:=[]) (cs:=flat tmCells y2) (res':=(.sl (flat tmCells y2) (List.length y2) .no)) k (Nat.le_of_ble_eq_true rfl) forall_nil (dT _) (.inl ⟨rfl,rfl⟩) (by rfl) rfl
def e122(qq:Nat)(p0:Tm)(p1:List Tm):Option (Tm×Int):=
 e188 qq p1>>=fun r1=>
 match r1 with
 |Sum.inl y3=>
  e187 qq p0 y3>>=fun r4=>
  some (r4.1,r4.2)
 |Sum.inr (Sum.inl y6)=>
  e187 qq p0 []>>=fun r7=>
  some (r7.1,r7.2)
 |Sum.inr (Sum.inr y9)=>
  e187 qq p0 y9>>=fun r10=>
  some (r10.1,r10.2)
abbrev K122 (p0:Tm) (p1:List Tm) (r:Tm×Int) (C:Cf):Prop:=C 122 [] [tmA p0,slv tmCells p1 .no] (.tup [tmA r.1,ai r.2]) [] 0
theorem q122:Qf 122 Tryz.f122:=⟨Tryz.func122,by kernel_rfl⟩
theorem k122{p0 p1 r}(h:K122 p0 p1 r Ci):K122 p0 p1 r Ct:=⟨h,⟨⟨tv,tv,⟨tv,dT _⟩,tv⟩,⟨tv,dT _⟩,tv⟩,forall_nil,⟨⟨tv,tv,dT _,tv⟩,tv,tv⟩,forall_nil⟩
theorem c122{qq p0 p1 r}(h:e122 qq p0 p1=some r):K122 p0 p1 r Ct:=by
 unfold e122 at h
 obtain⟨r1,h2,h⟩:=obind h
 rcases r1 with y3 | (y6|y9)
 dsimp only at h
 obtain⟨r4,h5,h⟩:=obind h
 obtain rfl:=sj h
 exact k122 (tF q122 3 [] (oD (dT r4.1.sub)<|oC 0 [] (c187 h5)<|oC 1 [] (c188 h2) o0))
 dsimp only at h
 obtain⟨r7,h8,h⟩:=obind h
 obtain rfl:=sj h
 exact k122 (tF q122 3 [] (oD (dT r7.1.sub)<|oC 0 [] (c187 h8)<|oC 1 [] (c188 h2) o0))
 dsimp only at h
 obtain⟨r10,h11,h⟩:=obind h
 obtain rfl:=sj h
 exact k122 (tF q122 3 [] (oD (dT r10.1.sub)<|oC 0 [] (c187 h11)<|oC 1 [] (c188 h2) o0))
def e151vacoLcp:Nat->(List Tm)->Nat->Int->Int->Int->(List Tm)->Option (Tm)
 |0,_,_,_,_,_,_=>none
 |qq+1,q1,q2,v9,vb1_0,vb1_1,vb1_2=>
 if decide (v9<(q2:Int))then
 gchk q2 v9>>=fun x2=>
 gidx q1 (x2:Int)>>=fun x4=>
 e156 qq (Tm.mk vb1_0 vb1_1 vb1_2) x4>>=fun r6=>
 e151vacoLcp qq q1 q2 (w64 (v9+1)) r6.k r6.n r6.sub
 else
 some (Tm.mk vb1_0 vb1_1 vb1_2)
def e151vaco(qq:Nat)(p0:Tm)(q1:List Tm)(q2:Nat):Option (Tm):=
 e151vacoLcp qq q1 q2 0 p0.k p0.n p0.sub
def g151vacoLcpE0(j:Nat->Value)(q1:List Tm)(q2:Nat)(v9 vb1_0 vb1_1:Int)(vb1_2:List Tm):=sp j 18 0 [(2,.mp 1 0),(4,.mp 2 0),(7,.ms 0 0 q2 q2 3),(8,ai (q2:Int)),(9,ai v9)]
def g151vacoLcpS0(q1:List Tm)(q2:Nat)(v9 vb1_0 vb1_1:Int)(vb1_2:List Tm):LSt:=⟨[(0,.row (flat tmCells q1)),(1,.cells [ai vb1_0,ai vb1_1,slv tmCells vb1_2 .no]),(2,.cells [ai 0,ai 0,slv tmCells ([]:List Tm) .nl])],3,[],0,[]⟩
abbrev K151vaco (p0:Tm) (q1:List Tm) (q2:Nat) (r:Tm) (C:Cf):Prop:=C 151 [.row (flat tmCells q1)] [tmA p0,.ms 0 0 q2 q2 3] (tmA r) [.row (flat tmCells q1)] 0
theorem q151vaco:Qf 151 Tryz.f151:=⟨Tryz.func151,by kernel_rfl⟩
theorem k151vaco{p0 q1 q2 r}(h:K151vaco p0 q1 q2 r Ci):K151vaco p0 q1 q2 r Ct:=⟨h,⟨⟨tv,tv,⟨tv,dT _⟩,tv⟩,(lz rfl),tv⟩,(forall_cons (dT _) forall_nil),⟨tv,tv,dT _,tv⟩,(forall_cons (dT _) forall_nil)⟩
theorem l151vacoLcp:∀qq:Nat,(∀q1 q2 v9 vb1_0 vb1_1 vb1_2 r,e151vacoLcp qq q1 q2 v9 vb1_0 vb1_1 vb1_2=some r->(∀j,Dl Tryz.prog 1 (inn (inn (rgt (lft (rgt (bod Tryz.f151)))))) (g151vacoLcpE0 j q1 q2 v9 vb1_0 vb1_1 vb1_2) (g151vacoLcpS0 q1 q2 v9 vb1_0 vb1_1 vb1_2) (frameQ Tryz.prog 1 (FinQ Tryz.prog 1 Tryz.f151 (tmA r) [.row (flat tmCells q1)] 0) [.blk 0,.seq (rgt (rgt (bod Tryz.f151)))]))):=by
 intro qq
 induction qq with
 |zero=>
  exact fun _ _ _ _ _ _ _ h=>nn h
 |succ qq ih=>
  intro q1 q2 v9 vb1_0 vb1_1 vb1_2 r h
  rw[e151vacoLcp]at h
  rcases spl h with⟨h1,h⟩|⟨h1,h⟩
  obtain⟨x2,h3,h⟩:=obind h
  obtain⟨x4,h5,h⟩:=obind h
  obtain⟨r6,h7,h⟩:=obind h
  exact fun j=>lH 2 [] [0,1,2] [] [2,4,7,8,9] (oD (dT ([]:List Tm))<|oD (dT r6.sub)<|oD (dT q1)<|oC 3 [] (c156 h7)<|oG (a:=(.agg [ai x4.k,ai x4.n,slv tmCells x4.sub .no])) 0 (ldE codecT h5 (true,3) (val:=.agg [ai x4.k,ai x4.n,slv tmCells x4.sub .no]) (by rw[tm_eq];rfl))<|oA 0 (ixM23 (b:=0) (c:=q2) (z:=3) h3)<|oB 0 h1 o0) (ih _ _ _ _ _ _ _ h)
  obtain rfl:=sj h
  exact fun j=>lF 2 [0] (oD (dT vb1_2)<|oD (dT q1)<|oB 0 h1 o0)
theorem c151vaco{qq p0 q1 q2 r}(h:e151vaco qq p0 q1 q2=some r):K151vaco p0 q1 q2 r Ct:=by
 unfold e151vaco at h
 exact k151vaco (tH q151vaco 1 [] [0,1,2] [] [2,4,7,8,9] (oD (dT ([]:List Tm))<|oD (dT p0.sub)<|oD (dT q1) o0) (l151vacoLcp _ _ _ _ _ _ _ _ h))
mutual
def e186vacq:Nat->(List Ent)->(List Ent)->(List Con')->(List Int)->(List Int)->Int->Int->Int->PatternPat->Tm->(List Tm)->Nat->Nat->Option (Int×Tm×Int×Int×Int×List Tm×Nat×Nat)
 |0,_,_,_,_,_,_,_,_,_,_,_,_,_=>none
 |qq+1,q0,q1,q2,q3,q4,q5,q6,q7,p1,p2,q10,q11,q12=>
 if p1.kind_==3 then
 some (0,p2,q7,q5,q6,q10,q11,q12)
 else
 if p1.kind_==1 then
 gfz q11 q10>>=fun l3=>
 gapp 40 l3 [(Tm.mk 0 0 [])]>>=fun l5=>
 gchk (List.length l5) (q11:Int)>>=fun x7=>
 gset l5 x7 p2>>=fun x9=>
 some (0,p2,q7,q5,q6,x9,List.length l5,List.length l5)
 else
 if p1.kind_==4 then
 some (1,p2,q7,q5,q6,q10,q11,q12)
 else
 e165 qq (Mach.mk q0 q1 q2 q3 q4) p2>>=fun r12=>
 if r12.2.2 then
 if r12.1 != p1.n_ then
 some (1,p2,q7,q5,q6,q10,q11,q12)
 else
 e166 qq (Mach.mk q0 q1 q2 q3 q4) r12.1>>=fun r16=>
 gsl r12.2.1 r16 (List.length r12.2.1:Int)>>=fun x18=>
 e244vacr qq q0 q1 q2 q3 q4 q5 q6 q7 p1.sub_ x18 p2 q10 q11 q12>>=fun r20=>
 some (r20.1,r20.2.1,r20.2.2.1,r20.2.2.2.1,r20.2.2.2.2.1,r20.2.2.2.2.2.1,r20.2.2.2.2.2.2.1,r20.2.2.2.2.2.2.2)
 else
 e69 qq (Mach.mk q0 q1 q2 q3 q4) p2 q5 q6>>=fun r22=>
 if r22.2.1 != 0 then
 some (2,p2,r22.2.1,r22.2.2.1,r22.2.2.2,q10,q11,q12)
 else
 e165 qq (Mach.mk q0 q1 q2 q3 q4) r22.1>>=fun r25=>
 if r25.2.2 then
 if r25.1 != p1.n_ then
 some (1,r22.1,q7,r22.2.2.1,r22.2.2.2,q10,q11,q12)
 else
 e166 qq (Mach.mk q0 q1 q2 q3 q4) r25.1>>=fun r29=>
 gsl r25.2.1 r29 (List.length r25.2.1:Int)>>=fun x31=>
 e244vacr qq q0 q1 q2 q3 q4 r22.2.2.1 r22.2.2.2 q7 p1.sub_ x31 r22.1 q10 q11 q12>>=fun r33=>
 some (r33.1,r33.2.1,r33.2.2.1,r33.2.2.2.1,r33.2.2.2.2.1,r33.2.2.2.2.2.1,r33.2.2.2.2.2.2.1,r33.2.2.2.2.2.2.2)
 else
 some (2,p2,q7,r22.2.2.1,r22.2.2.2,q10,q11,q12)
 termination_by structural n=>n
def e244vacr:Nat->(List Ent)->(List Ent)->(List Con')->(List Int)->(List Int)->Int->Int->Int->(List PatternPat)->(List Tm)->Tm->(List Tm)->Nat->Nat->Option (Int×Tm×Int×Int×Int×List Tm×Nat×Nat)
 |0,_,_,_,_,_,_,_,_,_,_,_,_,_,_=>none
 |qq+1,q0,q1,q2,q3,q4,q5,q6,q7,p1,p2,p3,q11,q12,q13=>
 e167 qq p3>>=fun r1=>
 e120vr qq r1.2>>=fun r3=>
 match r3 with
 |Sum.inl y5=>
  e244vacrLcs qq q0 q1 q2 q3 q4 q5 q6 q7 p1 p2 q11 q12 q13 r1 0
 |Sum.inr y6=>
  e244vacrLct qq q0 q1 q2 q3 q4 p1 p2 r1 y6 0 q7 q5 q6 q13 q12 y6 q11
 termination_by structural n=>n
def e244vacrLcs:Nat->(List Ent)->(List Ent)->(List Con')->(List Int)->(List Int)->Int->Int->Int->(List PatternPat)->(List Tm)->(List Tm)->Nat->Nat->(Tm×List Tm)->Int->Option (Int×Tm×Int×Int×Int×List Tm×Nat×Nat)
 |0,_,_,_,_,_,_,_,_,_,_,_,_,_,_,_=>none
 |qq+1,q0,q1,q2,q3,q4,q5,q6,q7,p1,p2,q11,q12,q13,r1,v27=>
 if decide (v27<(List.length p1:Int))then
 gidx p1 v27>>=fun x7=>
 gidx p2 v27>>=fun x9=>
 e186vacq qq q0 q1 q2 q3 q4 q5 q6 q7 (PatternPat.mk x7.kind_ x7.n_ x7.at_ x7.sub_ x7.t_) x9 q11 q12 q13>>=fun r11=>
 none
 else
 e151 qq r1.1 []>>=fun r13=>
 some (0,r13,q7,q5,q6,q11,q12,q13)
 termination_by structural n=>n
def e244vacrLct:Nat->(List Ent)->(List Ent)->(List Con')->(List Int)->(List Int)->(List PatternPat)->(List Tm)->(Tm×List Tm)->(List Tm)->Int->Int->Int->Int->Nat->Nat->(List Tm)->(List Tm)->Option (Int×Tm×Int×Int×Int×List Tm×Nat×Nat)
 |0,_,_,_,_,_,_,_,_,_,_,_,_,_,_,_,_,_=>none
 |qq+1,q0,q1,q2,q3,q4,p1,p2,r1,y6,v27,vb0_2,vb3_0,vb3_1,vb4_0_c,vb4_0_n,vb8_0,vb9_0=>
 if decide (v27<(List.length p1:Int))then
 gidx p1 v27>>=fun x8=>
 gidx p2 v27>>=fun x10=>
 e186vacq qq q0 q1 q2 q3 q4 vb3_0 vb3_1 vb0_2 (PatternPat.mk x8.kind_ x8.n_ x8.at_ x8.sub_ x8.t_) x10 vb9_0 vb4_0_n vb4_0_c>>=fun r12=>
 gchk (List.length y6) (w64 ((w64 ((List.length y6:Int)-(List.length p2:Int)))+v27))>>=fun x14=>
 gset vb8_0 x14 r12.2.1>>=fun x16=>
 if r12.1 != 0 then
 e151vaco qq r1.1 x16 (List.length y6)>>=fun r19=>
 some (r12.1,r19,r12.2.2.1,r12.2.2.2.1,r12.2.2.2.2.1,r12.2.2.2.2.2.1,r12.2.2.2.2.2.2.1,r12.2.2.2.2.2.2.2)
 else
 e244vacrLct qq q0 q1 q2 q3 q4 p1 p2 r1 y6 (w64 (v27+1)) r12.2.2.1 r12.2.2.2.1 r12.2.2.2.2.1 r12.2.2.2.2.2.2.2 r12.2.2.2.2.2.2.1 x16 r12.2.2.2.2.2.1
 else
 e151vaco qq r1.1 vb8_0 (List.length y6)>>=fun r21=>
 some (0,r21,vb0_2,vb3_0,vb3_1,vb9_0,vb4_0_n,vb4_0_c)
 termination_by structural n=>n
end
def e244vacuLcv:Nat->(List Ent)->(List Ent)->(List Con')->(List Int)->(List Int)->(List PatternPat)->(List Tm)->(Tm×List Tm)->(List Tm)->Int->Int->Int->Int->Nat->Nat->(List Tm)->(List Tm)->Option ((Int×Tm×Int×Int×Int) ⊕ (Int×Tm×Int×Int×Int×List Tm×Nat×Nat))
 |0,_,_,_,_,_,_,_,_,_,_,_,_,_,_,_,_,_=>none
 |qq+1,q0,q1,q2,q3,q4,p1,p2,r1,y6,v27,vb0_2,vb3_0,vb3_1,vb4_0_c,vb4_0_n,vb7_0,vb8_0=>
 if decide (v27<(List.length p1:Int))then
 gidx p1 v27>>=fun x31=>
 gidx p2 v27>>=fun x33=>
 e186vacq qq q0 q1 q2 q3 q4 vb3_0 vb3_1 vb0_2 (PatternPat.mk x31.kind_ x31.n_ x31.at_ x31.sub_ x31.t_) x33 vb8_0 vb4_0_n vb4_0_c>>=fun r35=>
 gchk (List.length y6) (w64 ((w64 ((List.length y6:Int)-(List.length p2:Int)))+v27))>>=fun x37=>
 gset vb7_0 x37 r35.2.1>>=fun x39=>
 if r35.1 != 0 then
 e151vaco qq r1.1 x39 (List.length y6)>>=fun r42=>
 some (Sum.inr (r35.1,r42,r35.2.2.1,r35.2.2.2.1,r35.2.2.2.2.1,r35.2.2.2.2.2.1,r35.2.2.2.2.2.2.1,r35.2.2.2.2.2.2.2))
 else
 e244vacuLcv qq q0 q1 q2 q3 q4 p1 p2 r1 y6 (w64 (v27+1)) r35.2.2.1 r35.2.2.2.1 r35.2.2.2.2.1 r35.2.2.2.2.2.2.2 r35.2.2.2.2.2.2.1 x39 r35.2.2.2.2.2.1
 else
 e151vaco qq r1.1 vb7_0 (List.length y6)>>=fun r44=>
 some (Sum.inr (0,r44,vb0_2,vb3_0,vb3_1,vb8_0,vb4_0_n,vb4_0_c))
mutual
def e186vacw:Nat->(List Ent)->(List Ent)->(List Con')->(List Int)->(List Int)->Int->Int->Int->PatternPat->Tm->Option ((Int×Tm×Int×Int×Int) ⊕ (Int×Tm×Int×Int×Int×List Tm×Nat×Nat))
 |0,_,_,_,_,_,_,_,_,_,_=>none
 |qq+1,q0,q1,q2,q3,q4,q5,q6,q7,p1,p2=>
 if p1.kind_==3 then
 some (Sum.inl (0,p2,q7,q5,q6))
 else
 if p1.kind_==1 then
 gapp 40 ([]:List Tm) [(Tm.mk 0 0 [])]>>=fun l3=>
 gchk (List.length l3) 0>>=fun x5=>
 gset l3 x5 p2>>=fun x7=>
 some (Sum.inr (0,p2,q7,q5,q6,x7,List.length l3,List.length l3))
 else
 if p1.kind_==4 then
 some (Sum.inl (1,p2,q7,q5,q6))
 else
 e165 qq (Mach.mk q0 q1 q2 q3 q4) p2>>=fun r10=>
 if r10.2.2 then
 if r10.1 != p1.n_ then
 some (Sum.inl (1,p2,q7,q5,q6))
 else
 e166 qq (Mach.mk q0 q1 q2 q3 q4) r10.1>>=fun r14=>
 gsl r10.2.1 r14 (List.length r10.2.1:Int)>>=fun x16=>
 e244vacu qq q0 q1 q2 q3 q4 q5 q6 q7 p1.sub_ x16 p2>>=fun r18=>
 match r18 with
 |Sum.inl y20=>
  some (Sum.inl (y20.1,y20.2.1,y20.2.2.1,y20.2.2.2.1,y20.2.2.2.2))
 |Sum.inr y21=>
  some (Sum.inr (y21.1,y21.2.1,y21.2.2.1,y21.2.2.2.1,y21.2.2.2.2.1,y21.2.2.2.2.2.1,y21.2.2.2.2.2.2.1,y21.2.2.2.2.2.2.2))
 else
 e69 qq (Mach.mk q0 q1 q2 q3 q4) p2 q5 q6>>=fun r22=>
 if r22.2.1 != 0 then
 some (Sum.inl (2,p2,r22.2.1,r22.2.2.1,r22.2.2.2))
 else
 e165 qq (Mach.mk q0 q1 q2 q3 q4) r22.1>>=fun r25=>
 if r25.2.2 then
 if r25.1 != p1.n_ then
 some (Sum.inl (1,r22.1,q7,r22.2.2.1,r22.2.2.2))
 else
 e166 qq (Mach.mk q0 q1 q2 q3 q4) r25.1>>=fun r29=>
 gsl r25.2.1 r29 (List.length r25.2.1:Int)>>=fun x31=>
 e244vacu qq q0 q1 q2 q3 q4 r22.2.2.1 r22.2.2.2 q7 p1.sub_ x31 r22.1>>=fun r33=>
 match r33 with
 |Sum.inl y35=>
  some (Sum.inl (y35.1,y35.2.1,y35.2.2.1,y35.2.2.2.1,y35.2.2.2.2))
 |Sum.inr y36=>
  some (Sum.inr (y36.1,y36.2.1,y36.2.2.1,y36.2.2.2.1,y36.2.2.2.2.1,y36.2.2.2.2.2.1,y36.2.2.2.2.2.2.1,y36.2.2.2.2.2.2.2))
 else
 some (Sum.inl (2,p2,q7,r22.2.2.1,r22.2.2.2))
def e244vacu:Nat->(List Ent)->(List Ent)->(List Con')->(List Int)->(List Int)->Int->Int->Int->(List PatternPat)->(List Tm)->Tm->Option ((Int×Tm×Int×Int×Int) ⊕ (Int×Tm×Int×Int×Int×List Tm×Nat×Nat))
 |0,_,_,_,_,_,_,_,_,_,_,_=>none
 |qq+1,q0,q1,q2,q3,q4,q5,q6,q7,p1,p2,p3=>
 e167 qq p3>>=fun r1=>
 e120vr qq r1.2>>=fun r3=>
 match r3 with
 |Sum.inl y5=>
  e244vacuLcx qq q0 q1 q2 q3 q4 q5 q6 q7 p1 p2 r1 0
 |Sum.inr y6=>
  e244vacuLcy qq q0 q1 q2 q3 q4 p1 p2 r1 y6 0 q7 q5 q6 y6
def e244vacuLcx:Nat->(List Ent)->(List Ent)->(List Con')->(List Int)->(List Int)->Int->Int->Int->(List PatternPat)->(List Tm)->(Tm×List Tm)->Int->Option ((Int×Tm×Int×Int×Int) ⊕ (Int×Tm×Int×Int×Int×List Tm×Nat×Nat))
 |0,_,_,_,_,_,_,_,_,_,_,_,_=>none
 |qq+1,q0,q1,q2,q3,q4,q5,q6,q7,p1,p2,r1,v27=>
 if decide (v27<(List.length p1:Int))then
 gidx p1 v27>>=fun x7=>
 gidx p2 v27>>=fun x9=>
 e186vacw qq q0 q1 q2 q3 q4 q5 q6 q7 (PatternPat.mk x7.kind_ x7.n_ x7.at_ x7.sub_ x7.t_) x9>>=fun r11=>
 match r11 with
 |Sum.inl y13=>
  none
 |Sum.inr y14=>
  none
 else
 e151 qq r1.1 []>>=fun r15=>
 some (Sum.inl (0,r15,q7,q5,q6))
def e244vacuLcy:Nat->(List Ent)->(List Ent)->(List Con')->(List Int)->(List Int)->(List PatternPat)->(List Tm)->(Tm×List Tm)->(List Tm)->Int->Int->Int->Int->(List Tm)->Option ((Int×Tm×Int×Int×Int) ⊕ (Int×Tm×Int×Int×Int×List Tm×Nat×Nat))
 |0,_,_,_,_,_,_,_,_,_,_,_,_,_,_=>none
 |qq+1,q0,q1,q2,q3,q4,p1,p2,r1,y6,v27,vb0_2,vb3_0,vb3_1,vb7_0=>
 if decide (v27<(List.length p1:Int))then
 gidx p1 v27>>=fun x8=>
 gidx p2 v27>>=fun x10=>
 e186vacw qq q0 q1 q2 q3 q4 vb3_0 vb3_1 vb0_2 (PatternPat.mk x8.kind_ x8.n_ x8.at_ x8.sub_ x8.t_) x10>>=fun r12=>
 match r12 with
 |Sum.inl y14=>
  gchk (List.length y6) (w64 ((w64 ((List.length y6:Int)-(List.length p2:Int)))+v27))>>=fun x15=>
  gset vb7_0 x15 y14.2.1>>=fun x17=>
  if y14.1 != 0 then
  e151vaco qq r1.1 x17 (List.length y6)>>=fun r20=>
  some (Sum.inl (y14.1,r20,y14.2.2.1,y14.2.2.2.1,y14.2.2.2.2))
  else
  e244vacuLcy qq q0 q1 q2 q3 q4 p1 p2 r1 y6 (w64 (v27+1)) y14.2.2.1 y14.2.2.2.1 y14.2.2.2.2 x17
 |Sum.inr y22=>
  gchk (List.length y6) (w64 ((w64 ((List.length y6:Int)-(List.length p2:Int)))+v27))>>=fun x23=>
  gset vb7_0 x23 y22.2.1>>=fun x25=>
  if y22.1 != 0 then
  e151vaco qq r1.1 x25 (List.length y6)>>=fun r28=>
  some (Sum.inr (y22.1,r28,y22.2.2.1,y22.2.2.2.1,y22.2.2.2.2.1,y22.2.2.2.2.2.1,y22.2.2.2.2.2.2.1,y22.2.2.2.2.2.2.2))
  else
  e244vacuLcv qq q0 q1 q2 q3 q4 p1 p2 r1 y6 (w64 (v27+1)) y22.2.2.1 y22.2.2.2.1 y22.2.2.2.2.1 y22.2.2.2.2.2.2.2 y22.2.2.2.2.2.2.1 x25 y22.2.2.2.2.2.1
 else
 e151vaco qq r1.1 vb7_0 (List.length y6)>>=fun r30=>
 some (Sum.inl (0,r30,vb0_2,vb3_0,vb3_1))
end
def g244vacuLcxE0(j:Nat->Value)(q0 q1:List Ent)(q2:List Con')(q3 q4:List Int)(q5 q6 q7:Int)(p1:List PatternPat)(p2:List Tm)(r1:Tm×List Tm)(v27:Int):=sp j 63 0 [(0,.mp 0 0),(2,slv tmCells p2 .no),(4,.mp 4 0),(11,.mp 5 0),(12,.mp 6 0),(13,slv tmCells ([]:List Tm) .full),(25,slv patternPatC p1 .no),(26,ai (List.length p1:Int)),(27,ai v27)]
def g244vacuLcxS0(q0 q1:List Ent)(q2:List Con')(q3 q4:List Int)(q5 q6 q7:Int)(p1:List PatternPat)(p2:List Tm)(r1:Tm×List Tm)(v27:Int):LSt:=⟨[(0,.cells [.mp 1 0,.mp 3 0,ai q7]),(1,.cells [slv entL q0 .no,.mp 2 0,slv intC q3 .no,slv intC q4 .no]),(2,.cells [slv entL q1 .no,slv conL q2 .no]),(3,.cells [ai q5,ai q6]),(4,.cells [slv tmCells ([]:List Tm) .nl]),(5,.cells [ai 0,ai 0,slv tmCells ([]:List Tm) .nl]),(6,.cells [ai r1.1.k,ai r1.1.n,slv tmCells r1.1.sub .no])],7,[],0,[]⟩
def g244vacuLcyE0(j:Nat->Value)(q0 q1:List Ent)(q2:List Con')(q3 q4:List Int)(p1:List PatternPat)(p2:List Tm)(r1:Tm×List Tm)(y6:List Tm)(v27 vb0_2 vb3_0 vb3_1:Int)(vb7_0:List Tm):=sp j 63 0 [(0,.mp 0 0),(2,slv tmCells p2 .no),(4,.mp 4 0),(11,.mp 5 0),(12,.mp 6 0),(13,.ms 7 0 (List.length y6) (List.length y6) 3),(25,slv patternPatC p1 .no),(26,ai (List.length p1:Int)),(27,ai v27)]
def g244vacuLcyS0(q0 q1:List Ent)(q2:List Con')(q3 q4:List Int)(p1:List PatternPat)(p2:List Tm)(r1:Tm×List Tm)(y6:List Tm)(v27 vb0_2 vb3_0 vb3_1:Int)(vb7_0:List Tm):LSt:=⟨[(0,.cells [.mp 1 0,.mp 3 0,ai vb0_2]),(1,.cells [slv entL q0 .no,.mp 2 0,slv intC q3 .no,slv intC q4 .no]),(2,.cells [slv entL q1 .no,slv conL q2 .no]),(3,.cells [ai vb3_0,ai vb3_1]),(4,.cells [slv tmCells ([]:List Tm) .nl]),(5,.cells [ai 0,ai 0,slv tmCells ([]:List Tm) .nl]),(6,.cells [ai r1.1.k,ai r1.1.n,slv tmCells r1.1.sub .no]),(7,.row (flat tmCells vb7_0))],8,[],0,[]⟩
def g244vacuLcvE0(j:Nat->Value)(q0 q1:List Ent)(q2:List Con')(q3 q4:List Int)(p1:List PatternPat)(p2:List Tm)(r1:Tm×List Tm)(y6:List Tm)(v27 vb0_2 vb3_0 vb3_1:Int)(vb4_0_c vb4_0_n:Nat)(vb7_0 vb8_0:List Tm):=sp j 63 0 [(0,.mp 0 0),(2,slv tmCells p2 .no),(4,.mp 4 0),(11,.mp 5 0),(12,.mp 6 0),(13,.ms 7 0 (List.length y6) (List.length y6) 3),(25,slv patternPatC p1 .no),(26,ai (List.length p1:Int)),(27,ai v27)]
def g244vacuLcvS0(q0 q1:List Ent)(q2:List Con')(q3 q4:List Int)(p1:List PatternPat)(p2:List Tm)(r1:Tm×List Tm)(y6:List Tm)(v27 vb0_2 vb3_0 vb3_1:Int)(vb4_0_c vb4_0_n:Nat)(vb7_0 vb8_0:List Tm):LSt:=⟨[(0,.cells [.mp 1 0,.mp 3 0,ai vb0_2]),(1,.cells [slv entL q0 .no,.mp 2 0,slv intC q3 .no,slv intC q4 .no]),(2,.cells [slv entL q1 .no,slv conL q2 .no]),(3,.cells [ai vb3_0,ai vb3_1]),(4,.cells [.ms 8 0 vb4_0_n vb4_0_c 3]),(5,.cells [ai 0,ai 0,slv tmCells ([]:List Tm) .nl]),(6,.cells [ai r1.1.k,ai r1.1.n,slv tmCells r1.1.sub .no]),(7,.row (flat tmCells vb7_0)),(8,.row (flat tmCells vb8_0))],9,[],0,[]⟩
def g244vacrLcsE0(j:Nat->Value)(q0 q1:List Ent)(q2:List Con')(q3 q4:List Int)(q5 q6 q7:Int)(p1:List PatternPat)(p2 q11:List Tm)(q12 q13:Nat)(r1:Tm×List Tm)(v27:Int):=sp j 63 0 [(0,.mp 0 0),(2,slv tmCells p2 .no),(4,.mp 4 0),(11,.mp 6 0),(12,.mp 7 0),(13,slv tmCells ([]:List Tm) .full),(25,slv patternPatC p1 .no),(26,ai (List.length p1:Int)),(27,ai v27)]
def g244vacrLcsS0(q0 q1:List Ent)(q2:List Con')(q3 q4:List Int)(q5 q6 q7:Int)(p1:List PatternPat)(p2 q11:List Tm)(q12 q13:Nat)(r1:Tm×List Tm)(v27:Int):LSt:=⟨[(0,.cells [.mp 1 0,.mp 3 0,ai q7]),(1,.cells [slv entL q0 .no,.mp 2 0,slv intC q3 .no,slv intC q4 .no]),(2,.cells [slv entL q1 .no,slv conL q2 .no]),(3,.cells [ai q5,ai q6]),(4,.cells [.ms 8 0 q12 q13 3]),(5,.dead),(6,.cells [ai 0,ai 0,slv tmCells ([]:List Tm) .nl]),(7,.cells [ai r1.1.k,ai r1.1.n,slv tmCells r1.1.sub .no]),(8,.row (flat tmCells q11))],9,[],0,[]⟩
def g244vacrLctE0(j:Nat->Value)(q0 q1:List Ent)(q2:List Con')(q3 q4:List Int)(p1:List PatternPat)(p2:List Tm)(r1:Tm×List Tm)(y6:List Tm)(v27 vb0_2 vb3_0 vb3_1:Int)(vb4_0_c vb4_0_n:Nat)(vb8_0 vb9_0:List Tm):=sp j 63 0 [(0,.mp 0 0),(2,slv tmCells p2 .no),(4,.mp 4 0),(11,.mp 6 0),(12,.mp 7 0),(13,.ms 8 0 (List.length y6) (List.length y6) 3),(25,slv patternPatC p1 .no),(26,ai (List.length p1:Int)),(27,ai v27)]
def g244vacrLctS0(q0 q1:List Ent)(q2:List Con')(q3 q4:List Int)(p1:List PatternPat)(p2:List Tm)(r1:Tm×List Tm)(y6:List Tm)(v27 vb0_2 vb3_0 vb3_1:Int)(vb4_0_c vb4_0_n:Nat)(vb8_0 vb9_0:List Tm):LSt:=⟨[(0,.cells [.mp 1 0,.mp 3 0,ai vb0_2]),(1,.cells [slv entL q0 .no,.mp 2 0,slv intC q3 .no,slv intC q4 .no]),(2,.cells [slv entL q1 .no,slv conL q2 .no]),(3,.cells [ai vb3_0,ai vb3_1]),(4,.cells [.ms 9 0 vb4_0_n vb4_0_c 3]),(5,.dead),(6,.cells [ai 0,ai 0,slv tmCells ([]:List Tm) .nl]),(7,.cells [ai r1.1.k,ai r1.1.n,slv tmCells r1.1.sub .no]),(8,.row (flat tmCells vb8_0)),(9,.row (flat tmCells vb9_0))],10,[],0,[]⟩
abbrev K186vacws0 (q0 q1:List Ent) (q2:List Con') (q3 q4:List Int) (q5 q6 q7:Int) (p1:PatternPat) (p2:Tm) (r:Int×Tm×Int×Int×Int) (C:Cf):Prop:=C 186 [.cells [.mp 1 0,.mp 3 0,ai q7],.cells [slv entL q0 .no,.mp 2 0,slv intC q3 .no,slv intC q4 .no],.cells [slv entL q1 .no,slv conL q2 .no],.cells [ai q5,ai q6],.cells [slv tmCells ([]:List Tm) .nl]] [.mp 0 0,patternPatA p1,tmA p2,.mp 4 0] (.tup [ai r.1,tmA r.2.1]) [.cells [.mp 1 0,.mp 3 0,ai r.2.2.1],.cells [slv entL q0 .no,.mp 2 0,slv intC q3 .no,slv intC q4 .no],.cells [slv entL q1 .no,slv conL q2 .no],.cells [ai r.2.2.2.1,ai r.2.2.2.2],.cells [slv tmCells ([]:List Tm) .nl]] 0
abbrev K186vacws1 (q0 q1:List Ent) (q2:List Con') (q3 q4:List Int) (q5 q6 q7:Int) (p1:PatternPat) (p2:Tm) (r:Int×Tm×Int×Int×Int×List Tm×Nat×Nat) (C:Cf):Prop:=C 186 [.cells [.mp 1 0,.mp 3 0,ai q7],.cells [slv entL q0 .no,.mp 2 0,slv intC q3 .no,slv intC q4 .no],.cells [slv entL q1 .no,slv conL q2 .no],.cells [ai q5,ai q6],.cells [slv tmCells ([]:List Tm) .nl]] [.mp 0 0,patternPatA p1,tmA p2,.mp 4 0] (.tup [ai r.1,tmA r.2.1]) [.cells [.mp 1 0,.mp 3 0,ai r.2.2.1],.cells [slv entL q0 .no,.mp 2 0,slv intC q3 .no,slv intC q4 .no],.cells [slv entL q1 .no,slv conL q2 .no],.cells [ai r.2.2.2.1,ai r.2.2.2.2.1],.cells [.ms 5 0 r.2.2.2.2.2.2.1 r.2.2.2.2.2.2.2 3],.row (flat tmCells r.2.2.2.2.2.1)] 0
abbrev K244vacus0 (q0 q1:List Ent) (q2:List Con') (q3 q4:List Int) (q5 q6 q7:Int) (p1:List PatternPat) (p2:List Tm) (p3:Tm) (r:Int×Tm×Int×Int×Int) (C:Cf):Prop:=C 244 [.cells [.mp 1 0,.mp 3 0,ai q7],.cells [slv entL q0 .no,.mp 2 0,slv intC q3 .no,slv intC q4 .no],.cells [slv entL q1 .no,slv conL q2 .no],.cells [ai q5,ai q6],.cells [slv tmCells ([]:List Tm) .nl]] [.mp 0 0,slv patternPatC p1 .no,slv tmCells p2 .no,tmA p3,.mp 4 0] (.tup [ai r.1,tmA r.2.1]) [.cells [.mp 1 0,.mp 3 0,ai r.2.2.1],.cells [slv entL q0 .no,.mp 2 0,slv intC q3 .no,slv intC q4 .no],.cells [slv entL q1 .no,slv conL q2 .no],.cells [ai r.2.2.2.1,ai r.2.2.2.2],.cells [slv tmCells ([]:List Tm) .nl]] 0
abbrev K244vacus1 (q0 q1:List Ent) (q2:List Con') (q3 q4:List Int) (q5 q6 q7:Int) (p1:List PatternPat) (p2:List Tm) (p3:Tm) (r:Int×Tm×Int×Int×Int×List Tm×Nat×Nat) (C:Cf):Prop:=C 244 [.cells [.mp 1 0,.mp 3 0,ai q7],.cells [slv entL q0 .no,.mp 2 0,slv intC q3 .no,slv intC q4 .no],.cells [slv entL q1 .no,slv conL q2 .no],.cells [ai q5,ai q6],.cells [slv tmCells ([]:List Tm) .nl]] [.mp 0 0,slv patternPatC p1 .no,slv tmCells p2 .no,tmA p3,.mp 4 0] (.tup [ai r.1,tmA r.2.1]) [.cells [.mp 1 0,.mp 3 0,ai r.2.2.1],.cells [slv entL q0 .no,.mp 2 0,slv intC q3 .no,slv intC q4 .no],.cells [slv entL q1 .no,slv conL q2 .no],.cells [ai r.2.2.2.1,ai r.2.2.2.2.1],.cells [.ms 5 0 r.2.2.2.2.2.2.1 r.2.2.2.2.2.2.2 3],.row (flat tmCells r.2.2.2.2.2.1)] 0
abbrev K186vacq (q0 q1:List Ent) (q2:List Con') (q3 q4:List Int) (q5 q6 q7:Int) (p1:PatternPat) (p2:Tm) (q10:List Tm) (q11 q12:Nat) (r:Int×Tm×Int×Int×Int×List Tm×Nat×Nat) (C:Cf):Prop:=C 186 [.cells [.mp 1 0,.mp 3 0,ai q7],.cells [slv entL q0 .no,.mp 2 0,slv intC q3 .no,slv intC q4 .no],.cells [slv entL q1 .no,slv conL q2 .no],.cells [ai q5,ai q6],.cells [.ms 5 0 q11 q12 3],.row (flat tmCells q10)] [.mp 0 0,patternPatA p1,tmA p2,.mp 4 0] (.tup [ai r.1,tmA r.2.1]) [.cells [.mp 1 0,.mp 3 0,ai r.2.2.1],.cells [slv entL q0 .no,.mp 2 0,slv intC q3 .no,slv intC q4 .no],.cells [slv entL q1 .no,slv conL q2 .no],.cells [ai r.2.2.2.1,ai r.2.2.2.2.1],.cells [.ms 6 0 r.2.2.2.2.2.2.1 r.2.2.2.2.2.2.2 3],.dead,.row (flat tmCells r.2.2.2.2.2.1)] 0
abbrev K244vacr (q0 q1:List Ent) (q2:List Con') (q3 q4:List Int) (q5 q6 q7:Int) (p1:List PatternPat) (p2:List Tm) (p3:Tm) (q11:List Tm) (q12 q13:Nat) (r:Int×Tm×Int×Int×Int×List Tm×Nat×Nat) (C:Cf):Prop:=C 244 [.cells [.mp 1 0,.mp 3 0,ai q7],.cells [slv entL q0 .no,.mp 2 0,slv intC q3 .no,slv intC q4 .no],.cells [slv entL q1 .no,slv conL q2 .no],.cells [ai q5,ai q6],.cells [.ms 5 0 q12 q13 3],.row (flat tmCells q11)] [.mp 0 0,slv patternPatC p1 .no,slv tmCells p2 .no,tmA p3,.mp 4 0] (.tup [ai r.1,tmA r.2.1]) [.cells [.mp 1 0,.mp 3 0,ai r.2.2.1],.cells [slv entL q0 .no,.mp 2 0,slv intC q3 .no,slv intC q4 .no],.cells [slv entL q1 .no,slv conL q2 .no],.cells [ai r.2.2.2.1,ai r.2.2.2.2.1],.cells [.ms 6 0 r.2.2.2.2.2.2.1 r.2.2.2.2.2.2.2 3],.dead,.row (flat tmCells r.2.2.2.2.2.1)] 0
theorem q186vacw:Qf 186 Tryz.f186:=⟨Tryz.func186,by kernel_rfl⟩
theorem k186vacws0{q0 q1 q2 q3 q4 q5 q6 q7 p1 p2 r}(h:K186vacws0 q0 q1 q2 q3 q4 q5 q6 q7 p1 p2 r Ci):K186vacws0 q0 q1 q2 q3 q4 q5 q6 q7 p1 p2 r Ct:=⟨h,⟨(lz rfl),⟨tv,tv,tv,⟨tv,dPatternPat _⟩,tv,tv,⟨tv,dT _⟩,tv⟩,⟨tv,tv,⟨tv,dT _⟩,tv⟩,(lz rfl),tv⟩,(forall_cons ⟨(lz rfl),(lz rfl),tv,tv⟩ (forall_cons ⟨⟨tv,dE _⟩,(lz rfl),⟨tv,dI _⟩,⟨tv,dI _⟩,tv⟩ (forall_cons ⟨⟨tv,dE _⟩,⟨tv,dC _⟩,tv⟩ (forall_cons ⟨tv,tv,tv⟩ (forall_cons ⟨⟨tv,dT _⟩,tv⟩ forall_nil))))),⟨tv,⟨tv,tv,dT _,tv⟩,tv⟩,(forall_cons ⟨(lz rfl),(lz rfl),tv,tv⟩ (forall_cons ⟨dE _,(lz rfl),dI _,dI _,tv⟩ (forall_cons ⟨dE _,dC _,tv⟩ (forall_cons ⟨tv,tv,tv⟩ (forall_cons ⟨dT _,tv⟩ forall_nil)))))⟩
theorem k186vacws1{q0 q1 q2 q3 q4 q5 q6 q7 p1 p2 r}(h:K186vacws1 q0 q1 q2 q3 q4 q5 q6 q7 p1 p2 r Ci):K186vacws1 q0 q1 q2 q3 q4 q5 q6 q7 p1 p2 r Ct:=⟨h,⟨(lz rfl),⟨tv,tv,tv,⟨tv,dPatternPat _⟩,tv,tv,⟨tv,dT _⟩,tv⟩,⟨tv,tv,⟨tv,dT _⟩,tv⟩,(lz rfl),tv⟩,(forall_cons ⟨(lz rfl),(lz rfl),tv,tv⟩ (forall_cons ⟨⟨tv,dE _⟩,(lz rfl),⟨tv,dI _⟩,⟨tv,dI _⟩,tv⟩ (forall_cons ⟨⟨tv,dE _⟩,⟨tv,dC _⟩,tv⟩ (forall_cons ⟨tv,tv,tv⟩ (forall_cons ⟨⟨tv,dT _⟩,tv⟩ forall_nil))))),⟨tv,⟨tv,tv,dT _,tv⟩,tv⟩,(forall_cons ⟨(lz rfl),(lz rfl),tv,tv⟩ (forall_cons ⟨dE _,(lz rfl),dI _,dI _,tv⟩ (forall_cons ⟨dE _,dC _,tv⟩ (forall_cons ⟨tv,tv,tv⟩ (forall_cons ⟨(lz rfl),tv⟩ (forall_cons (dT _) forall_nil))))))⟩
theorem q244vacu:Qf 244 Tryz.f244:=⟨Tryz.func244,by kernel_rfl⟩
theorem k244vacus0{q0 q1 q2 q3 q4 q5 q6 q7 p1 p2 p3 r}(h:K244vacus0 q0 q1 q2 q3 q4 q5 q6 q7 p1 p2 p3 r Ci):K244vacus0 q0 q1 q2 q3 q4 q5 q6 q7 p1 p2 p3 r Ct:=⟨h,⟨(lz rfl),⟨tv,dPatternPat _⟩,⟨tv,dT _⟩,⟨tv,tv,⟨tv,dT _⟩,tv⟩,(lz rfl),tv⟩,(forall_cons ⟨(lz rfl),(lz rfl),tv,tv⟩ (forall_cons ⟨⟨tv,dE _⟩,(lz rfl),⟨tv,dI _⟩,⟨tv,dI _⟩,tv⟩ (forall_cons ⟨⟨tv,dE _⟩,⟨tv,dC _⟩,tv⟩ (forall_cons ⟨tv,tv,tv⟩ (forall_cons ⟨⟨tv,dT _⟩,tv⟩ forall_nil))))),⟨tv,⟨tv,tv,dT _,tv⟩,tv⟩,(forall_cons ⟨(lz rfl),(lz rfl),tv,tv⟩ (forall_cons ⟨dE _,(lz rfl),dI _,dI _,tv⟩ (forall_cons ⟨dE _,dC _,tv⟩ (forall_cons ⟨tv,tv,tv⟩ (forall_cons ⟨dT _,tv⟩ forall_nil)))))⟩
theorem k244vacus1{q0 q1 q2 q3 q4 q5 q6 q7 p1 p2 p3 r}(h:K244vacus1 q0 q1 q2 q3 q4 q5 q6 q7 p1 p2 p3 r Ci):K244vacus1 q0 q1 q2 q3 q4 q5 q6 q7 p1 p2 p3 r Ct:=⟨h,⟨(lz rfl),⟨tv,dPatternPat _⟩,⟨tv,dT _⟩,⟨tv,tv,⟨tv,dT _⟩,tv⟩,(lz rfl),tv⟩,(forall_cons ⟨(lz rfl),(lz rfl),tv,tv⟩ (forall_cons ⟨⟨tv,dE _⟩,(lz rfl),⟨tv,dI _⟩,⟨tv,dI _⟩,tv⟩ (forall_cons ⟨⟨tv,dE _⟩,⟨tv,dC _⟩,tv⟩ (forall_cons ⟨tv,tv,tv⟩ (forall_cons ⟨⟨tv,dT _⟩,tv⟩ forall_nil))))),⟨tv,⟨tv,tv,dT _,tv⟩,tv⟩,(forall_cons ⟨(lz rfl),(lz rfl),tv,tv⟩ (forall_cons ⟨dE _,(lz rfl),dI _,dI _,tv⟩ (forall_cons ⟨dE _,dC _,tv⟩ (forall_cons ⟨tv,tv,tv⟩ (forall_cons ⟨(lz rfl),tv⟩ (forall_cons (dT _) forall_nil))))))⟩
theorem q186vacq:Qf 186 Tryz.f186:=⟨Tryz.func186,by kernel_rfl⟩
theorem k186vacq{q0 q1 q2 q3 q4 q5 q6 q7 p1 p2 q10 q11 q12 r}(h:K186vacq q0 q1 q2 q3 q4 q5 q6 q7 p1 p2 q10 q11 q12 r Ci):K186vacq q0 q1 q2 q3 q4 q5 q6 q7 p1 p2 q10 q11 q12 r Ct:=⟨h,⟨(lz rfl),⟨tv,tv,tv,⟨tv,dPatternPat _⟩,tv,tv,⟨tv,dT _⟩,tv⟩,⟨tv,tv,⟨tv,dT _⟩,tv⟩,(lz rfl),tv⟩,(forall_cons ⟨(lz rfl),(lz rfl),tv,tv⟩ (forall_cons ⟨⟨tv,dE _⟩,(lz rfl),⟨tv,dI _⟩,⟨tv,dI _⟩,tv⟩ (forall_cons ⟨⟨tv,dE _⟩,⟨tv,dC _⟩,tv⟩ (forall_cons ⟨tv,tv,tv⟩ (forall_cons ⟨(lz rfl),tv⟩ (forall_cons (dT _) forall_nil)))))),⟨tv,⟨tv,tv,dT _,tv⟩,tv⟩,(forall_cons ⟨(lz rfl),(lz rfl),tv,tv⟩ (forall_cons ⟨dE _,(lz rfl),dI _,dI _,tv⟩ (forall_cons ⟨dE _,dC _,tv⟩ (forall_cons ⟨tv,tv,tv⟩ (forall_cons ⟨(lz rfl),tv⟩ (forall_cons tv (forall_cons (dT _) forall_nil)))))))⟩
theorem q244vacr:Qf 244 Tryz.f244:=⟨Tryz.func244,by kernel_rfl⟩
theorem k244vacr{q0 q1 q2 q3 q4 q5 q6 q7 p1 p2 p3 q11 q12 q13 r}(h:K244vacr q0 q1 q2 q3 q4 q5 q6 q7 p1 p2 p3 q11 q12 q13 r Ci):K244vacr q0 q1 q2 q3 q4 q5 q6 q7 p1 p2 p3 q11 q12 q13 r Ct:=⟨h,⟨(lz rfl),⟨tv,dPatternPat _⟩,⟨tv,dT _⟩,⟨tv,tv,⟨tv,dT _⟩,tv⟩,(lz rfl),tv⟩,(forall_cons ⟨(lz rfl),(lz rfl),tv,tv⟩ (forall_cons ⟨⟨tv,dE _⟩,(lz rfl),⟨tv,dI _⟩,⟨tv,dI _⟩,tv⟩ (forall_cons ⟨⟨tv,dE _⟩,⟨tv,dC _⟩,tv⟩ (forall_cons ⟨tv,tv,tv⟩ (forall_cons ⟨(lz rfl),tv⟩ (forall_cons (dT _) forall_nil)))))),⟨tv,⟨tv,tv,dT _,tv⟩,tv⟩,(forall_cons ⟨(lz rfl),(lz rfl),tv,tv⟩ (forall_cons ⟨dE _,(lz rfl),dI _,dI _,tv⟩ (forall_cons ⟨dE _,dC _,tv⟩ (forall_cons ⟨tv,tv,tv⟩ (forall_cons ⟨(lz rfl),tv⟩ (forall_cons tv (forall_cons (dT _) forall_nil)))))))⟩
theorem a186vacq_244vacr_244vacrLcs_244vacrLct:∀qq:Nat,(∀q0 q1 q2 q3 q4 q5 q6 q7 p1 p2 q10 q11 q12 r,e186vacq qq q0 q1 q2 q3 q4 q5 q6 q7 p1 p2 q10 q11 q12=some r->K186vacq q0 q1 q2 q3 q4 q5 q6 q7 p1 p2 q10 q11 q12 r Ct)∧(∀q0 q1 q2 q3 q4 q5 q6 q7 p1 p2 p3 q11 q12 q13 r,e244vacr qq q0 q1 q2 q3 q4 q5 q6 q7 p1 p2 p3 q11 q12 q13=some r->K244vacr q0 q1 q2 q3 q4 q5 q6 q7 p1 p2 p3 q11 q12 q13 r Ct)∧(∀q0 q1 q2 q3 q4 q5 q6 q7 p1 p2 q11 q12 q13 r1 v27 r,e244vacrLcs qq q0 q1 q2 q3 q4 q5 q6 q7 p1 p2 q11 q12 q13 r1 v27=some r->(∀j,Dl Tryz.prog 6 (inn (inn (rgt (lft (rgt (rgt (rgt (bod Tryz.f244)))))))) (g244vacrLcsE0 j q0 q1 q2 q3 q4 q5 q6 q7 p1 p2 q11 q12 q13 r1 v27) (g244vacrLcsS0 q0 q1 q2 q3 q4 q5 q6 q7 p1 p2 q11 q12 q13 r1 v27) (frameQ Tryz.prog 6 (FinQ Tryz.prog 6 Tryz.f244 (.tup [ai r.1,tmA r.2.1]) [.cells [.mp 1 0,.mp 3 0,ai r.2.2.1],.cells [slv entL q0 .no,.mp 2 0,slv intC q3 .no,slv intC q4 .no],.cells [slv entL q1 .no,slv conL q2 .no],.cells [ai r.2.2.2.1,ai r.2.2.2.2.1],.cells [.ms 6 0 r.2.2.2.2.2.2.1 r.2.2.2.2.2.2.2 3],.dead,.row (flat tmCells r.2.2.2.2.2.1)] 0) [.blk 0,.seq (rgt (rgt (rgt (rgt (bod Tryz.f244)))))])))∧(∀q0 q1 q2 q3 q4 p1 p2 r1 y6 v27 vb0_2 vb3_0 vb3_1 vb4_0_c vb4_0_n vb8_0 vb9_0 r,e244vacrLct qq q0 q1 q2 q3 q4 p1 p2 r1 y6 v27 vb0_2 vb3_0 vb3_1 vb4_0_c vb4_0_n vb8_0 vb9_0=some r->(∀j,Dl Tryz.prog 6 (inn (inn (rgt (lft (rgt (rgt (rgt (bod Tryz.f244)))))))) (g244vacrLctE0 j q0 q1 q2 q3 q4 p1 p2 r1 y6 v27 vb0_2 vb3_0 vb3_1 vb4_0_c vb4_0_n vb8_0 vb9_0) (g244vacrLctS0 q0 q1 q2 q3 q4 p1 p2 r1 y6 v27 vb0_2 vb3_0 vb3_1 vb4_0_c vb4_0_n vb8_0 vb9_0) (frameQ Tryz.prog 6 (FinQ Tryz.prog 6 Tryz.f244 (.tup [ai r.1,tmA r.2.1]) [.cells [.mp 1 0,.mp 3 0,ai r.2.2.1],.cells [slv entL q0 .no,.mp 2 0,slv intC q3 .no,slv intC q4 .no],.cells [slv entL q1 .no,slv conL q2 .no],.cells [ai r.2.2.2.1,ai r.2.2.2.2.1],.cells [.ms 6 0 r.2.2.2.2.2.2.1 r.2.2.2.2.2.2.2 3],.dead,.row (flat tmCells r.2.2.2.2.2.1)] 0) [.blk 0,.seq (rgt (rgt (rgt (rgt (bod Tryz.f244)))))]))):=by
 intro qq
 induction qq with
 |zero=>
  exact⟨fun _ _ _ _ _ _ _ _ _ _ _ _ _ _ h=>nn h,fun _ _ _ _ _ _ _ _ _ _ _ _ _ _ _ h=>nn h,fun _ _ _ _ _ _ _ _ _ _ _ _ _ _ _ _ h=>nn h,fun _ _ _ _ _ _ _ _ _ _ _ _ _ _ _ _ _ _ h=>nn h⟩
 |succ qq ih=>
  obtain⟨ih186vacq,ih244vacr,ih244vacrLcs,ih244vacrLct⟩:=ih
  refine⟨?_,?_,?_,?_⟩
  intro q0 q1 q2 q3 q4 q5 q6 q7 p1 p2 q10 q11 q12 r h
  rw[e186vacq]at h
  rcases spl h with⟨h1,h⟩|⟨h1,h⟩
  obtain rfl:=sj h
  exact k186vacq (tG q186vacq 2 [(some 5,0,0)] [0,1,2,3,4,5,9] [] false (oD (dT p2.sub)<|oD (dT q10)<|oD (dC q2)<|oD (dE q1)<|oD (dI q4)<|oD (dI q3)<|oD (dE q0)<|oB 1 h1 o0))
  have k:=oB 1 h1 o0
  rcases spl h with⟨h2,h⟩|⟨h2,h⟩
  obtain⟨l3,h4,h⟩:=obind h
  obtain⟨l5,h6,h⟩:=obind h
  obtain⟨x7,h8,h⟩:=obind h
  obtain⟨x9,h10,h⟩:=obind h
  obtain rfl:=sj h
  exact k186vacq (tF q186vacq 3 [0,1,2,3,4,5,9] (oD (dT p2.sub)<|oD (dT x9)<|oD (dC q2)<|oD (dE q1)<|oD (dI q4)<|oD (dI q3)<|oD (dE q0)<|oW 0 (wtE (x:=p2) (cs:=[ai p2.k,ai p2.n,slv tmCells p2.sub .no]) codecT (by rw[tm_eq];rfl) h10)<|oA 0 (ixM23 (b:=9) (c:=List.length l5) (z:=3) h8)<|oM 0 (apRn23 h4 h6 (by simp))<|oS 3 (obLitR tm_eq [(Tm.mk 0 0 [])])<|oB 0 h2 k))
  have k:=oB 0 h2 k
  rcases spl h with⟨h11,h⟩|⟨h11,h⟩
  obtain rfl:=sj h
  exact k186vacq (tG q186vacq 2 [(some 5,0,0)] [0,1,2,3,4,5,9] [] false (oD (dT p2.sub)<|oD (dT q10)<|oD (dC q2)<|oD (dE q1)<|oD (dI q4)<|oD (dI q3)<|oD (dE q0)<|oB 0 h11 k))
  obtain⟨r12,h13,h⟩:=obind h
  have k:=oC 2 [1,2] (c165 h13)<|oB 0 h11 k
  rcases spl h with⟨h14,h⟩|⟨h14,h⟩
  have k:=oB 2 h14 k
  rcases spl h with⟨h15,h⟩|⟨h15,h⟩
  obtain rfl:=sj h
  exact k186vacq (tG q186vacq 2 [(some 5,0,0)] [0,1,2,3,4,5,9] [] false (oD (dT p2.sub)<|oD (dT q10)<|oD (dC q2)<|oD (dE q1)<|oD (dI q4)<|oD (dI q3)<|oD (dE q0)<|oB 2 h15 k))
  obtain⟨r16,h17,h⟩:=obind h
  obtain⟨x18,h19,h⟩:=obind h
  obtain⟨r20,h21,h⟩:=obind h
  obtain rfl:=sj h
  exact k186vacq (tF q186vacq 3 [0,1,2,3,4,5,9] (oD (dT r20.2.1.sub)<|oD (dT r20.2.2.2.2.2.1)<|oD (dC q2)<|oD (dE q1)<|oD (dI q4)<|oD (dI q3)<|oD (dE q0)<|oC 1 [0,1,2,3,4,5] (ih244vacr _ _ _ _ _ _ _ _ _ _ _ _ _ _ _ h21)<|oA 0 (slFrom23 h19)<|oC 2 [1,2] (c166 h17)<|oB 2 h15 k))
  obtain⟨r22,h23,h⟩:=obind h
  have k:=oC 4 [1,2,3] (c69 h23)<|oB 2 h14 k
  rcases spl h with⟨h24,h⟩|⟨h24,h⟩
  obtain rfl:=sj h
  exact k186vacq (tG q186vacq 3 [(some 5,0,0)] [0,1,2,3,4,5,10] [] false (oD (dT p2.sub)<|oD (dT q10)<|oD (dC q2)<|oD (dE q1)<|oD (dI q4)<|oD (dI q3)<|oD (dE q0)<|oB 3 h24 k))
  obtain⟨r25,h26,h⟩:=obind h
  have k:=oC 2 [1,2] (c165 h26)<|oB 3 h24 k
  rcases spl h with⟨h27,h⟩|⟨h27,h⟩
  have k:=oB 2 h27 k
  rcases spl h with⟨h28,h⟩|⟨h28,h⟩
  obtain rfl:=sj h
  exact k186vacq (tG q186vacq 2 [(some 5,0,0)] [0,1,2,3,4,5,10] [] false (oD (dT r22.1.sub)<|oD (dT q10)<|oD (dC q2)<|oD (dE q1)<|oD (dI q4)<|oD (dI q3)<|oD (dE q0)<|oB 4 h28 k))
  obtain⟨r29,h30,h⟩:=obind h
  obtain⟨x31,h32,h⟩:=obind h
  obtain⟨r33,h34,h⟩:=obind h
  obtain rfl:=sj h
  exact k186vacq (tF q186vacq 3 [0,1,2,3,4,5,10] (oD (dT r33.2.1.sub)<|oD (dT r33.2.2.2.2.2.1)<|oD (dC q2)<|oD (dE q1)<|oD (dI q4)<|oD (dI q3)<|oD (dE q0)<|oC 1 [0,1,2,3,4,5] (ih244vacr _ _ _ _ _ _ _ _ _ _ _ _ _ _ _ h34)<|oA 0 (slFrom23 h32)<|oC 2 [1,2] (c166 h30)<|oB 4 h28 k))
  obtain rfl:=sj h
  exact k186vacq (tG q186vacq 3 [(some 5,0,0)] [0,1,2,3,4,5,10] [] false (oD (dT p2.sub)<|oD (dT q10)<|oD (dC q2)<|oD (dE q1)<|oD (dI q4)<|oD (dI q3)<|oD (dE q0)<|oB 2 h27 k))
  intro q0 q1 q2 q3 q4 q5 q6 q7 p1 p2 p3 q11 q12 q13 r h
  rw[e244vacr]at h
  obtain⟨r1,h2,h⟩:=obind h
  obtain⟨r3,h4,h⟩:=obind h
  have k:=oC 1 [] (c167 h2) o0
  rcases r3 with y5|y6
  dsimp only at h
  exact k244vacr (tH q244vacr 1 [(some 5,0,0)] [0,1,2,3,4,5,7,8,9] [] [0,2,4,11,12,13,25,26,27] (oD (dPatternPat p1)<|oD (dT ([]:List Tm))<|oD (dT p2)<|oD (dT q11)<|oD (dT r1.1.sub)<|oD (dT ([]:List Tm))<|oD (dC q2)<|oD (dE q1)<|oD (dI q4)<|oD (dI q3)<|oD (dE q0)<|oC 3 [] (c120vr h4) k) (ih244vacrLcs _ _ _ _ _ _ _ _ _ _ _ _ _ _ _ _ h))
  dsimp only at h
  exact k244vacr (tH q244vacr 1 [(some 5,0,0)] [0,1,2,3,4,5,7,8,9,10] [] [0,2,4,11,12,13,25,26,27] (oD (dPatternPat p1)<|oD (dT p2)<|oD (dT q11)<|oD (dT y6)<|oD (dT r1.1.sub)<|oD (dT ([]:List Tm))<|oD (dC q2)<|oD (dE q1)<|oD (dI q4)<|oD (dI q3)<|oD (dE q0)<|oC 3 [] (c120vr h4) k) (ih244vacrLct _ _ _ _ _ _ _ _ _ _ _ _ _ _ _ _ _ _ h))
  intro q0 q1 q2 q3 q4 q5 q6 q7 p1 p2 q11 q12 q13 r1 v27 r h
  rw[e244vacrLcs]at h
  rcases spl h with⟨h6,h⟩|⟨h6,h⟩
  obtain⟨x7,h8,h⟩:=obind h
  obtain⟨x9,h10,h⟩:=obind h
  obtain⟨r11,h12,h⟩:=obind h
  cases h
  obtain⟨r13,h14,h⟩:=obind h
  obtain rfl:=sj h
  exact fun j=>lF 1 [0,1,2,3,4,5,8] (oD (dT r13.sub)<|oD (dT q11)<|oD (dC q2)<|oD (dE q1)<|oD (dI q4)<|oD (dI q3)<|oD (dE q0)<|oC 1 [] (c151 h14)<|oB 0 h6 o0)
  intro q0 q1 q2 q3 q4 p1 p2 r1 y6 v27 vb0_2 vb3_0 vb3_1 vb4_0_c vb4_0_n vb8_0 vb9_0 r h
  rw[e244vacrLct]at h
  rcases spl h with⟨h7,h⟩|⟨h7,h⟩
  obtain⟨x8,h9,h⟩:=obind h
  obtain⟨x10,h11,h⟩:=obind h
  obtain⟨r12,h13,h⟩:=obind h
  obtain⟨x14,h15,h⟩:=obind h
  obtain⟨x16,h17,h⟩:=obind h
  have k:=oW 0 (wtE (x:=r12.2.1) (cs:=[ai r12.2.1.k,ai r12.2.1.n,slv tmCells r12.2.1.sub .no]) codecT (by rw[tm_eq];rfl) h17)<|oA 8 (ixM23 (b:=8) (c:=List.length y6) (z:=3) h15)<|oC 1 [0,1,2,3,4,9] (ih186vacq _ _ _ _ _ _ _ _ _ _ _ _ _ _ h13)<|oA 3 (ix23 (o:=.no) h11)<|oA 0 (ix106 (o:=.no) h9)<|oB 0 h7 o0
  rcases spl h with⟨h18,h⟩|⟨h18,h⟩
  obtain⟨r19,h20,h⟩:=obind h
  obtain rfl:=sj h
  exact fun j=>lF 1 [0,1,2,3,4,5,11] (oD (dT r19.sub)<|oD (dT r12.2.2.2.2.2.1)<|oD (dC q2)<|oD (dE q1)<|oD (dI q4)<|oD (dI q3)<|oD (dE q0)<|oC 1 [8] (c151vaco h20)<|oB 0 h18 k)
  exact fun j=>lH 1 [] [0,1,2,3,4,5,6,7,8,11] [] [0,2,4,11,12,13,25,26,27] (oD (dPatternPat p1)<|oD (dT p2)<|oD (dT r12.2.2.2.2.2.1)<|oD (dT x16)<|oD (dT r1.1.sub)<|oD (dT ([]:List Tm))<|oD (dC q2)<|oD (dE q1)<|oD (dI q4)<|oD (dI q3)<|oD (dE q0)<|oB 0 h18 k) (ih244vacrLct _ _ _ _ _ _ _ _ _ _ _ _ _ _ _ _ _ _ h)
  obtain⟨r21,h22,h⟩:=obind h
  obtain rfl:=sj h
  exact fun j=>lF 1 [0,1,2,3,4,5,9] (oD (dT r21.sub)<|oD (dT vb9_0)<|oD (dC q2)<|oD (dE q1)<|oD (dI q4)<|oD (dI q3)<|oD (dE q0)<|oC 1 [8] (c151vaco h22)<|oB 0 h7 o0)
theorem c186vacq{qq q0 q1 q2 q3 q4 q5 q6 q7 p1 p2 q10 q11 q12 r}(h:e186vacq qq q0 q1 q2 q3 q4 q5 q6 q7 p1 p2 q10 q11 q12=some r):K186vacq q0 q1 q2 q3 q4 q5 q6 q7 p1 p2 q10 q11 q12 r Ct:=(a186vacq_244vacr_244vacrLcs_244vacrLct _).1 _ _ _ _ _ _ _ _ _ _ _ _ _ _ h
theorem l244vacuLcv:∀qq:Nat,(∀q0 q1 q2 q3 q4 p1 p2 r1 y6 v27 vb0_2 vb3_0 vb3_1 vb4_0_c vb4_0_n vb7_0 vb8_0 r,e244vacuLcv qq q0 q1 q2 q3 q4 p1 p2 r1 y6 v27 vb0_2 vb3_0 vb3_1 vb4_0_c vb4_0_n vb7_0 vb8_0=some r->(∀j,Dl Tryz.prog 5 (inn (inn (rgt (lft (rgt (rgt (rgt (bod Tryz.f244)))))))) (g244vacuLcvE0 j q0 q1 q2 q3 q4 p1 p2 r1 y6 v27 vb0_2 vb3_0 vb3_1 vb4_0_c vb4_0_n vb7_0 vb8_0) (g244vacuLcvS0 q0 q1 q2 q3 q4 p1 p2 r1 y6 v27 vb0_2 vb3_0 vb3_1 vb4_0_c vb4_0_n vb7_0 vb8_0) (frameQ Tryz.prog 5 ((match (generalizing:=false) r with|Sum.inl x=>FinQ Tryz.prog 5 Tryz.f244 (.tup [ai x.1,tmA x.2.1]) [.cells [.mp 1 0,.mp 3 0,ai x.2.2.1],.cells [slv entL q0 .no,.mp 2 0,slv intC q3 .no,slv intC q4 .no],.cells [slv entL q1 .no,slv conL q2 .no],.cells [ai x.2.2.2.1,ai x.2.2.2.2],.cells [slv tmCells ([]:List Tm) .nl]] 0|Sum.inr x=>FinQ Tryz.prog 5 Tryz.f244 (.tup [ai x.1,tmA x.2.1]) [.cells [.mp 1 0,.mp 3 0,ai x.2.2.1],.cells [slv entL q0 .no,.mp 2 0,slv intC q3 .no,slv intC q4 .no],.cells [slv entL q1 .no,slv conL q2 .no],.cells [ai x.2.2.2.1,ai x.2.2.2.2.1],.cells [.ms 5 0 x.2.2.2.2.2.2.1 x.2.2.2.2.2.2.2 3],.row (flat tmCells x.2.2.2.2.2.1)] 0)) [.blk 0,.seq (rgt (rgt (rgt (rgt (bod Tryz.f244)))))]))):=by
 intro qq
 induction qq with
 |zero=>
  exact fun _ _ _ _ _ _ _ _ _ _ _ _ _ _ _ _ _ _ h=>nn h
 |succ qq ih=>
  intro q0 q1 q2 q3 q4 p1 p2 r1 y6 v27 vb0_2 vb3_0 vb3_1 vb4_0_c vb4_0_n vb7_0 vb8_0 r h
  rw[e244vacuLcv]at h
  rcases spl h with⟨h30,h⟩|⟨h30,h⟩
  obtain⟨x31,h32,h⟩:=obind h
  obtain⟨x33,h34,h⟩:=obind h
  obtain⟨r35,h36,h⟩:=obind h
  obtain⟨x37,h38,h⟩:=obind h
  obtain⟨x39,h40,h⟩:=obind h
  have k:=oW 0 (wtE (x:=r35.2.1) (cs:=[ai r35.2.1.k,ai r35.2.1.n,slv tmCells r35.2.1.sub .no]) codecT (by rw[tm_eq];rfl) h40)<|oA 8 (ixM23 (b:=7) (c:=List.length y6) (z:=3) h38)<|oC 1 [0,1,2,3,4,8] (c186vacq h36)<|oA 3 (ix23 (o:=.no) h34)<|oA 0 (ix106 (o:=.no) h32)<|oB 0 h30 o0
  rcases spl h with⟨h41,h⟩|⟨h41,h⟩
  obtain⟨r42,h43,h⟩:=obind h
  obtain rfl:=sj h
  exact fun j=>lF 1 [0,1,2,3,4,10] (oD (dT r42.sub)<|oD (dT r35.2.2.2.2.2.1)<|oD (dC q2)<|oD (dE q1)<|oD (dI q4)<|oD (dI q3)<|oD (dE q0)<|oC 1 [7] (c151vaco h43)<|oB 0 h41 k)
  exact fun j=>lH 1 [] [0,1,2,3,4,5,6,7,10] [] [0,2,4,11,12,13,25,26,27] (oD (dPatternPat p1)<|oD (dT p2)<|oD (dT r35.2.2.2.2.2.1)<|oD (dT x39)<|oD (dT r1.1.sub)<|oD (dT ([]:List Tm))<|oD (dC q2)<|oD (dE q1)<|oD (dI q4)<|oD (dI q3)<|oD (dE q0)<|oB 0 h41 k) (ih _ _ _ _ _ _ _ _ _ _ _ _ _ _ _ _ _ _ h)
  obtain⟨r44,h45,h⟩:=obind h
  obtain rfl:=sj h
  exact fun j=>lF 1 [0,1,2,3,4,8] (oD (dT r44.sub)<|oD (dT vb8_0)<|oD (dC q2)<|oD (dE q1)<|oD (dI q4)<|oD (dI q3)<|oD (dE q0)<|oC 1 [7] (c151vaco h45)<|oB 0 h30 o0)
theorem a186vacw_244vacu_244vacuLcx_244vacuLcy:∀qq:Nat,(∀q0 q1 q2 q3 q4 q5 q6 q7 p1 p2 r,e186vacw qq q0 q1 q2 q3 q4 q5 q6 q7 p1 p2=some r->(match (generalizing:=false) r with|Sum.inl x=>K186vacws0 q0 q1 q2 q3 q4 q5 q6 q7 p1 p2 x Ct|Sum.inr x=>K186vacws1 q0 q1 q2 q3 q4 q5 q6 q7 p1 p2 x Ct))∧(∀q0 q1 q2 q3 q4 q5 q6 q7 p1 p2 p3 r,e244vacu qq q0 q1 q2 q3 q4 q5 q6 q7 p1 p2 p3=some r->(match (generalizing:=false) r with|Sum.inl x=>K244vacus0 q0 q1 q2 q3 q4 q5 q6 q7 p1 p2 p3 x Ct|Sum.inr x=>K244vacus1 q0 q1 q2 q3 q4 q5 q6 q7 p1 p2 p3 x Ct))∧(∀q0 q1 q2 q3 q4 q5 q6 q7 p1 p2 r1 v27 r,e244vacuLcx qq q0 q1 q2 q3 q4 q5 q6 q7 p1 p2 r1 v27=some r->(∀j,Dl Tryz.prog 5 (inn (inn (rgt (lft (rgt (rgt (rgt (bod Tryz.f244)))))))) (g244vacuLcxE0 j q0 q1 q2 q3 q4 q5 q6 q7 p1 p2 r1 v27) (g244vacuLcxS0 q0 q1 q2 q3 q4 q5 q6 q7 p1 p2 r1 v27) (frameQ Tryz.prog 5 ((match (generalizing:=false) r with|Sum.inl x=>FinQ Tryz.prog 5 Tryz.f244 (.tup [ai x.1,tmA x.2.1]) [.cells [.mp 1 0,.mp 3 0,ai x.2.2.1],.cells [slv entL q0 .no,.mp 2 0,slv intC q3 .no,slv intC q4 .no],.cells [slv entL q1 .no,slv conL q2 .no],.cells [ai x.2.2.2.1,ai x.2.2.2.2],.cells [slv tmCells ([]:List Tm) .nl]] 0|Sum.inr x=>FinQ Tryz.prog 5 Tryz.f244 (.tup [ai x.1,tmA x.2.1]) [.cells [.mp 1 0,.mp 3 0,ai x.2.2.1],.cells [slv entL q0 .no,.mp 2 0,slv intC q3 .no,slv intC q4 .no],.cells [slv entL q1 .no,slv conL q2 .no],.cells [ai x.2.2.2.1,ai x.2.2.2.2.1],.cells [.ms 5 0 x.2.2.2.2.2.2.1 x.2.2.2.2.2.2.2 3],.row (flat tmCells x.2.2.2.2.2.1)] 0)) [.blk 0,.seq (rgt (rgt (rgt (rgt (bod Tryz.f244)))))])))∧(∀q0 q1 q2 q3 q4 p1 p2 r1 y6 v27 vb0_2 vb3_0 vb3_1 vb7_0 r,e244vacuLcy qq q0 q1 q2 q3 q4 p1 p2 r1 y6 v27 vb0_2 vb3_0 vb3_1 vb7_0=some r->(∀j,Dl Tryz.prog 5 (inn (inn (rgt (lft (rgt (rgt (rgt (bod Tryz.f244)))))))) (g244vacuLcyE0 j q0 q1 q2 q3 q4 p1 p2 r1 y6 v27 vb0_2 vb3_0 vb3_1 vb7_0) (g244vacuLcyS0 q0 q1 q2 q3 q4 p1 p2 r1 y6 v27 vb0_2 vb3_0 vb3_1 vb7_0) (frameQ Tryz.prog 5 ((match (generalizing:=false) r with|Sum.inl x=>FinQ Tryz.prog 5 Tryz.f244 (.tup [ai x.1,tmA x.2.1]) [.cells [.mp 1 0,.mp 3 0,ai x.2.2.1],.cells [slv entL q0 .no,.mp 2 0,slv intC q3 .no,slv intC q4 .no],.cells [slv entL q1 .no,slv conL q2 .no],.cells [ai x.2.2.2.1,ai x.2.2.2.2],.cells [slv tmCells ([]:List Tm) .nl]] 0|Sum.inr x=>FinQ Tryz.prog 5 Tryz.f244 (.tup [ai x.1,tmA x.2.1]) [.cells [.mp 1 0,.mp 3 0,ai x.2.2.1],.cells [slv entL q0 .no,.mp 2 0,slv intC q3 .no,slv intC q4 .no],.cells [slv entL q1 .no,slv conL q2 .no],.cells [ai x.2.2.2.1,ai x.2.2.2.2.1],.cells [.ms 5 0 x.2.2.2.2.2.2.1 x.2.2.2.2.2.2.2 3],.row (flat tmCells x.2.2.2.2.2.1)] 0)) [.blk 0,.seq (rgt (rgt (rgt (rgt (bod Tryz.f244)))))]))):=by
 intro qq
 induction qq with
 |zero=>
  exact⟨fun _ _ _ _ _ _ _ _ _ _ _ h=>nn h,fun _ _ _ _ _ _ _ _ _ _ _ _ h=>nn h,fun _ _ _ _ _ _ _ _ _ _ _ _ _ h=>nn h,fun _ _ _ _ _ _ _ _ _ _ _ _ _ _ _ h=>nn h⟩
 |succ qq ih=>
  obtain⟨ih186vacw,ih244vacu,ih244vacuLcx,ih244vacuLcy⟩:=ih
  refine⟨?_,?_,?_,?_⟩
  intro q0 q1 q2 q3 q4 q5 q6 q7 p1 p2 r h
  rw[e186vacw]at h
  rcases spl h with⟨h1,h⟩|⟨h1,h⟩
  obtain rfl:=sj h
  exact k186vacws0 (tG q186vacw 2 [] [0,1,2,3,4] [] true (oD (dT p2.sub)<|oD (dT ([]:List Tm))<|oD (dC q2)<|oD (dE q1)<|oD (dI q4)<|oD (dI q3)<|oD (dE q0)<|oB 1 h1 o0))
  have k:=oB 1 h1 o0
  rcases spl h with⟨h2,h⟩|⟨h2,h⟩
  obtain⟨l3,h4,h⟩:=obind h
  obtain⟨x5,h6,h⟩:=obind h
  obtain⟨x7,h8,h⟩:=obind h
  obtain rfl:=sj h
  exact k186vacws1 (tF q186vacw 3 [0,1,2,3,4,8] (oD (dT p2.sub)<|oD (dT x7)<|oD (dC q2)<|oD (dE q1)<|oD (dI q4)<|oD (dI q3)<|oD (dE q0)<|oW 0 (wtE (x:=p2) (cs:=[ai p2.k,ai p2.n,slv tmCells p2.sub .no]) codecT (by rw[tm_eq];rfl) h8)<|oA 0 (ixM23 (b:=8) (c:=List.length l3) (z:=3) h6)<|oM 0 (apW23 h4 (by simp))<|oS 3 (obLitR tm_eq [(Tm.mk 0 0 [])])<|oB 0 h2 k))
  have k:=oB 0 h2 k
  rcases spl h with⟨h9,h⟩|⟨h9,h⟩
  obtain rfl:=sj h
  exact k186vacws0 (tG q186vacw 2 [] [0,1,2,3,4] [] true (oD (dT p2.sub)<|oD (dT ([]:List Tm))<|oD (dC q2)<|oD (dE q1)<|oD (dI q4)<|oD (dI q3)<|oD (dE q0)<|oB 0 h9 k))
  obtain⟨r10,h11,h⟩:=obind h
  have k:=oC 2 [1,2] (c165 h11)<|oB 0 h9 k
  rcases spl h with⟨h12,h⟩|⟨h12,h⟩
  have k:=oB 2 h12 k
  rcases spl h with⟨h13,h⟩|⟨h13,h⟩
  obtain rfl:=sj h
  exact k186vacws0 (tG q186vacw 2 [] [0,1,2,3,4] [] true (oD (dT p2.sub)<|oD (dT ([]:List Tm))<|oD (dC q2)<|oD (dE q1)<|oD (dI q4)<|oD (dI q3)<|oD (dE q0)<|oB 2 h13 k))
  obtain⟨r14,h15,h⟩:=obind h
  obtain⟨x16,h17,h⟩:=obind h
  obtain⟨r18,h19,h⟩:=obind h
  have k:=oA 0 (slFrom23 h17)<|oC 2 [1,2] (c166 h15)<|oB 2 h13 k
  rcases r18 with y20|y21
  dsimp only at h
  obtain rfl:=sj h
  exact k186vacws0 (tG q186vacw 3 [] [0,1,2,3,4] [] true (oD (dT y20.2.1.sub)<|oD (dT ([]:List Tm))<|oD (dC q2)<|oD (dE q1)<|oD (dI q4)<|oD (dI q3)<|oD (dE q0)<|oC 1 [0,1,2,3,4] (ih244vacu _ _ _ _ _ _ _ _ _ _ _ _ h19) k))
  dsimp only at h
  obtain rfl:=sj h
  exact k186vacws1 (tF q186vacw 3 [0,1,2,3,4,8] (oD (dT y21.2.1.sub)<|oD (dT y21.2.2.2.2.2.1)<|oD (dC q2)<|oD (dE q1)<|oD (dI q4)<|oD (dI q3)<|oD (dE q0)<|oC 1 [0,1,2,3,4] (ih244vacu _ _ _ _ _ _ _ _ _ _ _ _ h19) k))
  obtain⟨r22,h23,h⟩:=obind h
  have k:=oC 4 [1,2,3] (c69 h23)<|oB 2 h12 k
  rcases spl h with⟨h24,h⟩|⟨h24,h⟩
  obtain rfl:=sj h
  exact k186vacws0 (tG q186vacw 3 [] [0,1,2,3,4] [] true (oD (dT p2.sub)<|oD (dT ([]:List Tm))<|oD (dC q2)<|oD (dE q1)<|oD (dI q4)<|oD (dI q3)<|oD (dE q0)<|oB 3 h24 k))
  obtain⟨r25,h26,h⟩:=obind h
  have k:=oC 2 [1,2] (c165 h26)<|oB 3 h24 k
  rcases spl h with⟨h27,h⟩|⟨h27,h⟩
  have k:=oB 2 h27 k
  rcases spl h with⟨h28,h⟩|⟨h28,h⟩
  obtain rfl:=sj h
  exact k186vacws0 (tG q186vacw 2 [] [0,1,2,3,4] [] true (oD (dT r22.1.sub)<|oD (dT ([]:List Tm))<|oD (dC q2)<|oD (dE q1)<|oD (dI q4)<|oD (dI q3)<|oD (dE q0)<|oB 4 h28 k))
  obtain⟨r29,h30,h⟩:=obind h
  obtain⟨x31,h32,h⟩:=obind h
  obtain⟨r33,h34,h⟩:=obind h
  have k:=oA 0 (slFrom23 h32)<|oC 2 [1,2] (c166 h30)<|oB 4 h28 k
  rcases r33 with y35|y36
  dsimp only at h
  obtain rfl:=sj h
  exact k186vacws0 (tG q186vacw 3 [] [0,1,2,3,4] [] true (oD (dT y35.2.1.sub)<|oD (dT ([]:List Tm))<|oD (dC q2)<|oD (dE q1)<|oD (dI q4)<|oD (dI q3)<|oD (dE q0)<|oC 1 [0,1,2,3,4] (ih244vacu _ _ _ _ _ _ _ _ _ _ _ _ h34) k))
  dsimp only at h
  obtain rfl:=sj h
  exact k186vacws1 (tF q186vacw 3 [0,1,2,3,4,9] (oD (dT y36.2.1.sub)<|oD (dT y36.2.2.2.2.2.1)<|oD (dC q2)<|oD (dE q1)<|oD (dI q4)<|oD (dI q3)<|oD (dE q0)<|oC 1 [0,1,2,3,4] (ih244vacu _ _ _ _ _ _ _ _ _ _ _ _ h34) k))
  obtain rfl:=sj h
  exact k186vacws0 (tG q186vacw 3 [] [0,1,2,3,4] [] true (oD (dT p2.sub)<|oD (dT ([]:List Tm))<|oD (dC q2)<|oD (dE q1)<|oD (dI q4)<|oD (dI q3)<|oD (dE q0)<|oB 2 h27 k))
  intro q0 q1 q2 q3 q4 q5 q6 q7 p1 p2 p3 r h
  rw[e244vacu]at h
  obtain⟨r1,h2,h⟩:=obind h
  obtain⟨r3,h4,h⟩:=obind h
  have k:=oC 1 [] (c167 h2) o0
  rcases r3 with y5|y6
  dsimp only at h
  rcases r with y0|y1
  exact k244vacus0 (tH q244vacu 1 [] [0,1,2,3,4,6,7] [] [0,2,4,11,12,13,25,26,27] (oD (dPatternPat p1)<|oD (dT ([]:List Tm))<|oD (dT p2)<|oD (dT r1.1.sub)<|oD (dT ([]:List Tm))<|oD (dT ([]:List Tm))<|oD (dC q2)<|oD (dE q1)<|oD (dI q4)<|oD (dI q3)<|oD (dE q0)<|oC 3 [] (c120vr h4) k) (ih244vacuLcx _ _ _ _ _ _ _ _ _ _ _ _ _ h))
  exact k244vacus1 (tH q244vacu 1 [] [0,1,2,3,4,6,7] [] [0,2,4,11,12,13,25,26,27] (oD (dPatternPat p1)<|oD (dT ([]:List Tm))<|oD (dT p2)<|oD (dT r1.1.sub)<|oD (dT ([]:List Tm))<|oD (dT ([]:List Tm))<|oD (dC q2)<|oD (dE q1)<|oD (dI q4)<|oD (dI q3)<|oD (dE q0)<|oC 3 [] (c120vr h4) k) (ih244vacuLcx _ _ _ _ _ _ _ _ _ _ _ _ _ h))
  dsimp only at h
  rcases r with y0|y1
  exact k244vacus0 (tH q244vacu 1 [] [0,1,2,3,4,6,7,8] [] [0,2,4,11,12,13,25,26,27] (oD (dPatternPat p1)<|oD (dT p2)<|oD (dT y6)<|oD (dT r1.1.sub)<|oD (dT ([]:List Tm))<|oD (dT ([]:List Tm))<|oD (dC q2)<|oD (dE q1)<|oD (dI q4)<|oD (dI q3)<|oD (dE q0)<|oC 3 [] (c120vr h4) k) (ih244vacuLcy _ _ _ _ _ _ _ _ _ _ _ _ _ _ _ h))
  exact k244vacus1 (tH q244vacu 1 [] [0,1,2,3,4,6,7,8] [] [0,2,4,11,12,13,25,26,27] (oD (dPatternPat p1)<|oD (dT p2)<|oD (dT y6)<|oD (dT r1.1.sub)<|oD (dT ([]:List Tm))<|oD (dT ([]:List Tm))<|oD (dC q2)<|oD (dE q1)<|oD (dI q4)<|oD (dI q3)<|oD (dE q0)<|oC 3 [] (c120vr h4) k) (ih244vacuLcy _ _ _ _ _ _ _ _ _ _ _ _ _ _ _ h))
  intro q0 q1 q2 q3 q4 q5 q6 q7 p1 p2 r1 v27 r h
  rw[e244vacuLcx]at h
  rcases spl h with⟨h6,h⟩|⟨h6,h⟩
  obtain⟨x7,h8,h⟩:=obind h
  obtain⟨x9,h10,h⟩:=obind h
  obtain⟨r11,h12,h⟩:=obind h
  rcases r11 with y13|y14
  cases h
  cases h
  obtain⟨r15,h16,h⟩:=obind h
  obtain rfl:=sj h
  exact fun j=>lG 1 [] [0,1,2,3,4] [] true (oD (dT r15.sub)<|oD (dT ([]:List Tm))<|oD (dC q2)<|oD (dE q1)<|oD (dI q4)<|oD (dI q3)<|oD (dE q0)<|oC 1 [] (c151 h16)<|oB 0 h6 o0)
  intro q0 q1 q2 q3 q4 p1 p2 r1 y6 v27 vb0_2 vb3_0 vb3_1 vb7_0 r h
  rw[e244vacuLcy]at h
  rcases spl h with⟨h7,h⟩|⟨h7,h⟩
  obtain⟨x8,h9,h⟩:=obind h
  obtain⟨x10,h11,h⟩:=obind h
  obtain⟨r12,h13,h⟩:=obind h
  have k:=oA 3 (ix23 (o:=.no) h11)<|oA 0 (ix106 (o:=.no) h9)<|oB 0 h7 o0
  rcases r12 with y14|y22
  dsimp only at h
  obtain⟨x15,h16,h⟩:=obind h
  obtain⟨x17,h18,h⟩:=obind h
  have k:=oW 0 (wtE (x:=y14.2.1) (cs:=[ai y14.2.1.k,ai y14.2.1.n,slv tmCells y14.2.1.sub .no]) codecT (by rw[tm_eq];rfl) h18)<|oA 8 (ixM23 (b:=7) (c:=List.length y6) (z:=3) h16)<|oC 1 [0,1,2,3,4] (ih186vacw _ _ _ _ _ _ _ _ _ _ _ h13) k
  rcases spl h with⟨h19,h⟩|⟨h19,h⟩
  obtain⟨r20,h21,h⟩:=obind h
  obtain rfl:=sj h
  exact fun j=>lG 1 [] [0,1,2,3,4] [] true (oD (dT r20.sub)<|oD (dT ([]:List Tm))<|oD (dC q2)<|oD (dE q1)<|oD (dI q4)<|oD (dI q3)<|oD (dE q0)<|oC 1 [7] (c151vaco h21)<|oB 0 h19 k)
  exact fun j=>lH 1 [] [0,1,2,3,4,5,6,7] [] [0,2,4,11,12,13,25,26,27] (oD (dPatternPat p1)<|oD (dT p2)<|oD (dT x17)<|oD (dT r1.1.sub)<|oD (dT ([]:List Tm))<|oD (dT ([]:List Tm))<|oD (dC q2)<|oD (dE q1)<|oD (dI q4)<|oD (dI q3)<|oD (dE q0)<|oB 0 h19 k) (ih244vacuLcy _ _ _ _ _ _ _ _ _ _ _ _ _ _ _ h)
  dsimp only at h
  obtain⟨x23,h24,h⟩:=obind h
  obtain⟨x25,h26,h⟩:=obind h
  have k:=oW 0 (wtE (x:=y22.2.1) (cs:=[ai y22.2.1.k,ai y22.2.1.n,slv tmCells y22.2.1.sub .no]) codecT (by rw[tm_eq];rfl) h26)<|oA 8 (ixM23 (b:=7) (c:=List.length y6) (z:=3) h24)<|oC 1 [0,1,2,3,4] (ih186vacw _ _ _ _ _ _ _ _ _ _ _ h13) k
  rcases spl h with⟨h27,h⟩|⟨h27,h⟩
  obtain⟨r28,h29,h⟩:=obind h
  obtain rfl:=sj h
  exact fun j=>lF 1 [0,1,2,3,4,9] (oD (dT r28.sub)<|oD (dT y22.2.2.2.2.2.1)<|oD (dC q2)<|oD (dE q1)<|oD (dI q4)<|oD (dI q3)<|oD (dE q0)<|oC 1 [7] (c151vaco h29)<|oB 0 h27 k)
  exact fun j=>lH 1 [] [0,1,2,3,4,5,6,7,9] [] [0,2,4,11,12,13,25,26,27] (oD (dPatternPat p1)<|oD (dT p2)<|oD (dT y22.2.2.2.2.2.1)<|oD (dT x25)<|oD (dT r1.1.sub)<|oD (dT ([]:List Tm))<|oD (dC q2)<|oD (dE q1)<|oD (dI q4)<|oD (dI q3)<|oD (dE q0)<|oB 0 h27 k) (l244vacuLcv _ _ _ _ _ _ _ _ _ _ _ _ _ _ _ _ _ _ _ h)
  obtain⟨r30,h31,h⟩:=obind h
  obtain rfl:=sj h
  exact fun j=>lG 1 [] [0,1,2,3,4] [] true (oD (dT r30.sub)<|oD (dT ([]:List Tm))<|oD (dC q2)<|oD (dE q1)<|oD (dI q4)<|oD (dI q3)<|oD (dE q0)<|oC 1 [7] (c151vaco h31)<|oB 0 h7 o0)
theorem c186vacw{qq q0 q1 q2 q3 q4 q5 q6 q7 p1 p2 r}(h:e186vacw qq q0 q1 q2 q3 q4 q5 q6 q7 p1 p2=some r):(match (generalizing:=false) r with|Sum.inl x=>K186vacws0 q0 q1 q2 q3 q4 q5 q6 q7 p1 p2 x Ct|Sum.inr x=>K186vacws1 q0 q1 q2 q3 q4 q5 q6 q7 p1 p2 x Ct):=(a186vacw_244vacu_244vacuLcx_244vacuLcy _).1 _ _ _ _ _ _ _ _ _ _ _ h
theorem gset_ok{α:Type}{l:List α}{k:Nat}(x:α)(h:k<l.length):gset l k x=some (l.set k x):=by unfold gset;rw[if_pos h]
theorem oka_set{l:List Tm}(h:OkA l)(k:Nat){x:Tm}(hx:x.Ok):OkA (l.set k x):=fun y hy=>by
 rcases List.mem_or_eq_of_mem_set hy with h'|rfl
 ·exact h y h'
 ·exact hx
theorem tot_rev(q0:List Tm)(hq:q0.length≤1000000):∀(m i:Nat) (j:Int) (vb:List Tm),j-i≤m->-1≤j->j<q0.length->i≤q0.length->vb.length=q0.length->OkA vb->Tot (fun q=>e231vacmLcn q q0 (i:Int) j vb) fun r=>r.length=q0.length∧OkA r:=by
 intro m
 induction m with
 |zero=>
  intro i j vb hm h0 h1 h2 hl ho
  refine Tot.succ ?_
  simp only[e231vacmLcn]
  refine Tot.ite (fun h=>?_) fun _=>Tot.ret ⟨hl,ho⟩
  have:=of_decide_eq_true h;omega
 |succ m ih=>
  intro i j vb hm h0 h1 h2 hl ho
  refine Tot.succ ?_
  simp only[e231vacmLcn]
  refine Tot.ite (fun h=>?_) fun _=>Tot.ret ⟨hl,ho⟩
  have h':=of_decide_eq_true h
  obtain⟨k,rfl⟩:∃k:Nat,j=(k:Int):=⟨j.toNat,by omega⟩
  refine Tot.pure (gchk_ok (by omega)) (Tot.pure (gidx_nat (by omega)) (Tot.pure (gchk_ok (by omega)) (Tot.pure (gidx_nat (by omega)) (Tot.pure (gset_ok _ (by omega)) (Tot.pure (gset_ok _ (by simp;omega)) ?_)))))
  rw[w64_nat i (by omega),w64_id (x:=(k:Int)-1) (by omega) (by omega)]
  exact ih (i+1) ((k:Int)-1) _ (by omega) (by omega) (by omega) (by omega) (by simp[hl]) (oka_set (oka_set ho _ (ho _ (List.getElem_mem _))) _ (ho _ (List.getElem_mem _)))
theorem ev_vr(l:List Tm)(h:l.length≤1000000):Evt (fun q=>e120vr q l) (if l=[]then .inl ()else .inr l):=by
 refine Evt.mk fun q=>?_
 unfold e120vr
 by_cases hl:l=[]
 ·subst hl;rfl
 ·rw[if_neg (by simpa using hl),if_neg hl,gapp_ok (by simp;omega)];rfl
theorem tot_back(ls:List Tm)(h:ls.length≤1000000)(ho:OkA ls):Tot (fun q=>e188 q ls) fun r=>match r with | .inl _=>False | .inr (.inl _)=>True | .inr (.inr y)=>y.length=ls.length∧OkA y:=by
 simp only[e188]
 by_cases hl:ls=[]
 ·subst hl
  refine Tot.bind (P:=fun r=>r = .inl ()) (((ev_vr [] h).eq (if_pos rfl)).tot rfl) ?_
  rintro r rfl
  refine Tot.bind (P:=fun _=>True) ⟨(),Evt.mk fun _=>rfl,trivial⟩ fun _ _=>Tot.ret trivial
 ·refine Tot.bind (P:=fun r=>r = .inr ls) (((ev_vr ls h).eq (if_neg hl)).tot rfl) ?_
  rintro r rfl
  have hpos:=List.length_pos_iff.2 hl
  refine Tot.bind (P:=fun r=>r.length=ls.length∧OkA r) ?_ fun r hr=>Tot.pure (a:=r) (by unfold gfz;rw[if_pos hr.1]) (Tot.ret hr)
  simp only[e231vacm]
  rw[w64_id (x:=(ls.length:Int)-1) (by omega) (by omega)]
  exact tot_rev ls h ls.length 0 _ ls (by omega) (by omega) (by omega) (by omega) rfl ho
theorem tot_Fill(t:Tm)(ls:List Tm)(ht:t.Ok)(h:ls.length≤1000000)(ho:OkA ls):Tot (fun q=>e122 q t ls) fun r=>r.1.Ok:=by
 simp only[e122]
 refine(tot_back ls h ho).bind fun r hr=>?_
 match r,hr with
 | .inl y,hr=>exact hr.elim
 | .inr (.inl y),_=>exact Tot.bind (P:=fun r=>r.1.Ok) ((ev_Many t [] ht (fun _ h=>nomatch h) (by simp)).tot (subT_ok t [] ht fun _ h=>nomatch h)) fun r hr=>Tot.ret hr
 | .inr (.inr y),hr=>
  have h1:y.length=ls.length:=hr.1
  exact Tot.bind (P:=fun r=>r.1.Ok) ((ev_Many t y ht hr.2 (by omega)).tot (subT_ok t y ht hr.2)) fun r hr=>Tot.ret hr
theorem ev_AWL(row:List Tm)(hl:row.length≤1000000):∀(r:List Tm) (v:Nat) (f:Tm),row.drop v=r->Evt (fun q=>e151vacoLcp q row row.length (v:Int) f.k f.n f.sub) (apT f r)
 | [],v,f,hd=>by
  refine Evt.succ ?_
  simp only[e151vacoLcp,tm_eta]
  exact Evt.ifF (drop_nil hd) (Evt.ret.eq rfl)
 |x::r,v,f,hd=>by
  have hlt:=drop_lt hd
  have hx:row[v]=x:=by have:=drop_idx hd;rw[gidx_nat hlt]at this;exact Option.some.inj this
  refine Evt.succ ?_
  simp only[e151vacoLcp,tm_eta]
  refine Evt.ifT (drop_dec hd) (Evt.pure (gchk_ok hlt) (Evt.pure (gidx_nat hlt) ((ev_App f _).bind ?_)))
  rw[w64_nat v (by omega),hx]
  exact ev_AWL row hl r (v+1) (.mk 5 0 [f,x]) (drop_next hd)
theorem ev_AW(f:Tm)(row:List Tm)(n:Nat)(hn:row.length=n)(hl:n≤1000000):Evt (fun q=>e151vaco q f row n) (apT f row):=by
 subst hn
 simp only[e151vaco]
 exact ev_AWL row hl row 0 f rfl
abbrev RM:=Int×Tm×Int×Int×Int×List Tm×Nat×Nat
def er8(r:RM):Int:=if r.1=2 then r.2.2.1 else 9
theorem er8_spec{r:RM}(h:er8 r=8):r.1=2∧r.2.2.1=8:=by
 unfold er8 at h
 split at h
 ·rename_i h2;exact⟨h2,h⟩
 ·omega
theorem er8_of{r:RM}(h1:r.1=2)(h2:r.2.2.1=8):er8 r=8:=by unfold er8;rw[if_pos h1];exact h2
def QM(B:Nat)(b:List Tm)(R:Int->Int->RM)(_:Int):Prop:=∃how x e b' c',x.Ok∧(e≠0->how=2)∧(∀y∈b',shapedT y=true)∧b'.length≤b.length+B∧R=fun L U=>(how,x,e,L,U,b',b'.length,c')
section
variable {N:ByteArray->Bool} (l:List Ent) (hE:AllE N l) (he:∀e∈l,EOk e)
def HM1(p:PatternPat):Prop:=∀(t:Tm) (b:List Tm) (c:Nat) (f:Int),shapedT t=true->(∀y∈b,shapedT y=true)->b.length+ndP p≤1000000->0≤f ->
 Ou (fun L U q=>e186vacq q (machT l).l (machT l).rl (machT l).parts (machT l).args (machT l).own L U 0 p t b b.length c) er8 (QM (ndP p) b) True f
theorem out_ms1L(ps:List PatternPat)(own y6:List Tm)(r1:Tm×List Tm)(hlen:ps.length=own.length)(hown:∀x∈own,shapedT x=true)(hr1:r1.1.Ok)(hy:own.length≤y6.length)(hy8:y6.length≤8192) :
  ∀(r:List PatternPat) (v:Nat) (b:List Tm) (c:Nat) (args:List Tm) (f:Int),ps.drop v=r->(∀p∈r,HM1 l p)->args.length=y6.length->OkA args->(∀y∈b,shapedT y=true)->b.length+ndPs r≤1000000->0≤f ->
  Ou (fun L U q=>e244vacrLct q (machT l).l (machT l).rl (machT l).parts (machT l).args (machT l).own ps own r1 y6 (v:Int) 0 L U c b.length args b) er8 (QM (ndPs r) b) True f:=by
 intro r
 induction r with
 |nil=>
  intro v b c args f hd hp ha hao hb hbl hf
  refine Ou.succ ?_
  simp only[e244vacrLct]
  exact Ou.ifF (drop_nil hd) (Ou.evt (ev_AW r1.1 args y6.length ha (by omega)) (Ou.ret hf ⟨0,_,0,b,c,apT_ok _ _ hr1 hao,fun h=>absurd rfl h,hb,by omega,rfl⟩))
 |cons p r ih=>
  intro v b c args f hd hp ha hao hb hbl hf
  have hlt:=drop_lt hd
  rw[ndPs]at hbl
  have hidx:w64 (w64 ((y6.length:Int)-(own.length:Int))+(v:Int))=((y6.length-own.length+v:Nat):Int):=by
   rw[w64_id (x:=(y6.length:Int)-(own.length:Int)) (by omega) (by omega),w64_id (by omega) (by omega)];omega
  refine Ou.succ ?_
  simp only[e244vacrLct,pp_eta,hidx]
  refine Ou.ifT (drop_dec hd) (Ou.pure (drop_idx hd) (Ou.pure (gidx_nat (l:=own) (by omega)) (Ou.bind (hp p (by simp) _ b c f (hown _ (List.getElem_mem _)) hb (by omega) hf) id (fun r hr=>?_) ?_)))
  ·obtain⟨a1,a2⟩:=er8_spec hr
   exact⟨_,Evt.pure (gchk_ok (by omega)) (Evt.pure (gset_ok _ (by omega)) (Evt.ifT (by rw[a1];decide) ((ev_AW r1.1 _ y6.length (by simp[ha]) (by omega)).bind Evt.ret))),er8_of a1 a2⟩
  ·rintro R k k0 k1 ⟨how,x,e,b',c',hx,he,hb',hbl',rfl⟩
   dsimp only
   refine Ou.pure (gchk_ok (by omega)) (Ou.pure (gset_ok _ (by omega)) (Ou.ite (fun _=>?_) fun h0=>?_))
   ·exact Ou.evt (ev_AW r1.1 _ y6.length (by simp[ha]) (by omega)) (Ou.ret (by omega) ⟨how,_,e,b',c',apT_ok _ _ hr1 (oka_set hao _ hx),he,hb',by rw[ndPs];omega,rfl⟩)
   ·have h0':how=0:=by simpa using h0
    have e0:e=0:=Decidable.byContradiction fun h=>by have:=he h;omega
    subst e0
    rw[w64_nat v (by have:=hy8;omega)]
    refine(ih (v+1) b' c' _ (f-k) (drop_next hd) (fun p h=>hp p (by simp[h])) (by simp[ha]) (oka_set hao _ hx) hb' (by omega) (by omega)).mono ?_ id
    rintro R n _ _ ⟨how,x,e,b2,c2,g1,g2,g3,g4,g5⟩
    exact⟨how,x,e,b2,c2,g1,g2,g3,by rw[ndPs];omega,g5⟩
theorem out_ms1(ps:List PatternPat)(hp:∀p∈ps,HM1 l p)(t:Tm)(ht:shapedT t=true)(j:Nat)(hj:j≤(arT t).length)(hlen:ps.length=((arT t).drop j).length)(b:List Tm)(c:Nat)(hb:∀y∈b,shapedT y=true)(hbl:b.length+ndPs ps≤1000000)(f:Int)(hf:0≤f) :
  Ou (fun L U q=>e244vacr q (machT l).l (machT l).rl (machT l).parts (machT l).args (machT l).own L U 0 ps ((arT t).drop j) t b b.length c) er8 (QM (ndPs ps) b) True f:=by
 have hal:=ar_le ht
 refine Ou.succ ?_
 simp only[e244vacr]
 refine Ou.evt (ev_Spine t ht) (Ou.evt (ev_vr (arT t) (by omega)) ?_)
 by_cases h:arT t=[]
 ·rw[if_pos h]
  have hps:ps=[]:=List.length_eq_zero_iff.1 (by rw[hlen,h];simp)
  subst hps
  refine Ou.succ ?_
  simp only[e244vacrLcs]
  refine Ou.ifF rfl (Ou.evt (ev_Apply (hdT t) [] (by simp)) (Ou.ret hf ⟨0,_,0,b,c,apT_ok [] _ (shaped_ok (hd_shaped ht)) (fun _ h=>nomatch h),fun h=>absurd rfl h,hb,by omega,rfl⟩))
 ·rw[if_neg h]
  exact out_ms1L l ps _ (arT t) (hdT t,arT t) hlen (fun x hx=>ar_shaped ht (List.mem_of_mem_drop hx)) (shaped_ok (hd_shaped ht)) (by simp) hal ps 0 b c (arT t) f rfl hp rfl (fun x hx=>shaped_ok (ar_shaped ht hx)) hb hbl hf
include hE he
theorem out_mt1:∀(n:Nat) (p:PatternPat),ndP p≤n->GP l p->HM1 l p:=by
 intro n
 induction n with
 |zero=>intro p hn;rw[ndP_sub]at hn;omega
 |succ n ih=>
  intro p hn hg t b c f ht hb hbl hf
  obtain⟨pk,pn,pa,ps,pt⟩:=p
  rw[GP]at hg
  rw[ndP]at hn hbl ⊢
  have hps:∀s∈ps,HM1 l s:=fun s hs=>ih s (by have:=ndPs_mem hs;omega) (GPs_at hg.2 s hs)
  have con:∀(x:Tm) (hx:shapedT x=true) (hc:isCon l x) (hk:¬((hdT x).n != pn)=true) (hari:ariT l pn=ps.length) (f:Int) (hf:0≤f),Ou (fun L U q=>e166 q (machT l) (hdT x).n>>=fun r16=>gsl (arT x) r16 ((arT x).length:Int)>>=fun x18=>e244vacr q (machT l).l (machT l).rl (machT l).parts (machT l).args (machT l).own L U 0 ps x18 x b b.length c>>=fun r20=>some (r20.1,r20.2.1,r20.2.2.1,r20.2.2.2.1,r20.2.2.2.2.1,r20.2.2.2.2.2.1,r20.2.2.2.2.2.2.1,r20.2.2.2.2.2.2.2)) er8 (QM (1+ndPs ps) b) True f:=by
   intro x hx hc hk hari f hf
   obtain⟨j,hj,h1,h2,h3⟩:=con_parsL hE hx hc
   have hP:Evt (fun q=>e166 q (machT l) (hdT x).n) (j:Int):=by
    simp only[e166,machT_l]
    exact Evt.ifF (decide_eq_false (by omega)) (Evt.ifF (decide_eq_false (by omega)) (Evt.pure (gidx_ent h2 h3) (Evt.ret.eq hj)))
   have hs:=isCon_spec hx hc
   have hpn:(hdT x).n=pn:=by simpa using hk
   have hlen:ps.length=((arT x).drop j).length:=by
    unfold ariT at hari
    rw[←hpn,if_pos ⟨hs.1,hs.2.1,hs.2.2.1⟩]at hari
    have:=hs.2.2.2
    simp;omega
   refine Ou.evt hP (Ou.pure (gsl_ok h1 (Nat.le_refl _)) ?_)
   rw[show ((arT x).drop j).take ((arT x).length-j)=(arT x).drop j from List.take_of_length_le (by simp)]
   refine Ou.bind (out_ms1 l ps hps x hx j h1 hlen b c hb (by omega) f hf) id (fun r hr=>⟨_,Evt.ret,hr⟩) ?_
   rintro R k k0 k1 ⟨how,y,e,b',c',g1,g2,g3,g4,rfl⟩
   exact Ou.ret (by omega) ⟨how,y,e,b',c',g1,g2,g3,by omega,rfl⟩
  refine Ou.succ ?_
  simp only[e186vacq,PatternPat.kind_,PatternPat.n_,PatternPat.sub_]
  refine Ou.ite (fun _=>Ou.ret hf ⟨0,t,0,b,c,shaped_ok ht,fun h=>absurd rfl h,hb,by omega,rfl⟩) fun h3=>Ou.ite (fun _=>?_) fun h1=>Ou.ite (fun _=>Ou.ret hf ⟨1,t,0,b,c,shaped_ok ht,fun h=>absurd rfl h,hb,by omega,rfl⟩) fun h4=>?_
  ·refine Ou.pure (a:=b) (by simp[gfz]) (Ou.pure (gapp_ok (by simp;omega)) (Ou.pure (gchk_ok (by simp)) (Ou.pure (gset_ok _ (by simp)) ?_)))
   have e:(b++[Tm.mk 0 0 []]).set b.length t=b++[t]:=by simp
   have e2:(b++[Tm.mk 0 0 []]).length=(b++[t]).length:=by simp
   rw[e,e2]
   refine Ou.ret hf ⟨0,t,0,b++[t],_,shaped_ok ht,fun h=>absurd rfl h,fun y hy=>?_,by simp,rfl⟩
   rcases List.mem_append.1 hy with hy|hy
   ·exact hb y hy
   ·rw[List.mem_singleton.1 hy];exact ht
  ·obtain⟨-,hari⟩:=hg.1 (by simpa using h1) (by simpa using h3) (by simpa using h4)
   refine Ou.evt (ev_ConL l t ht) ?_
   unfold conX
   by_cases hc:isCon l t
   ·rw[if_pos hc]
    refine Ou.ifT rfl (Ou.ite (fun _=>Ou.ret hf ⟨1,t,0,b,c,shaped_ok ht,fun h=>absurd rfl h,hb,by omega,rfl⟩) fun hk=>?_)
    exact con t ht hc (by simpa using hk) hari f hf
   ·rw[if_neg hc]
    refine Ou.ifF rfl (Ou.bind (out_BringL l hE he t (shaped_ok ht) f hf) id (fun r hr=>⟨_,Evt.ifT (ne8L hr) Evt.ret,er8_of rfl hr⟩) ?_)
    rintro R k k0 k1 ⟨y,e,-,-,hs,rfl⟩
    dsimp only
    by_cases e0:e=0
    ·subst e0
     have hy:=hs rfl
     refine Ou.ifF rfl (Ou.evt (ev_ConL l y hy) ?_)
     unfold conX
     by_cases hc':isCon l y
     ·rw[if_pos hc']
      refine Ou.ifT rfl (Ou.ite (fun _=>Ou.ret (by omega) ⟨1,y,0,b,c,shaped_ok hy,fun h=>absurd rfl h,hb,by omega,rfl⟩) fun hk=>?_)
      exact(con y hy hc' (by simpa using hk) hari (f-k) (by omega)).mono (fun _ _ _ _ h=>h) id
     ·rw[if_neg hc']
      exact Ou.ifF rfl (Ou.ret (by omega) ⟨2,t,0,b,c,shaped_ok ht,fun h=>absurd rfl h,hb,by omega,rfl⟩)
    ·exact Ou.ifT (by simpa using e0) (Ou.ret (by omega) ⟨2,t,e,b,c,shaped_ok ht,fun _=>rfl,hb,by omega,rfl⟩)
end
abbrev RM0:=(Int×Tm×Int×Int×Int) ⊕ RM
def er0:RM0->Int
 | .inl y=>if y.1=2 then y.2.2.1 else 9
 | .inr y=>er8 y
def QR(B:Nat)(b:List Tm)(R:Int->Int->RM0)(_:Int):Prop:=∃R',QM B b R' 0∧R=fun L U=>.inr (R' L U)
def Q0(B:Nat)(R:Int->Int->RM0)(k:Int):Prop:=(∃how x e,x.Ok∧(e≠0->how=2)∧R=fun L U=>.inl (how,x,e,L,U))∨QR B [] R k
theorem er0_inl{y:Int×Tm×Int×Int×Int}(h:er0 (.inl y)=8):y.1=2∧y.2.2.1=8:=by
 have h:(if y.1=2 then y.2.2.1 else 9)=8:=h
 split at h
 ·rename_i h2;exact⟨h2,h⟩
 ·omega
theorem er0_of{y:Int×Tm×Int×Int×Int}(h1:y.1=2)(h2:y.2.2.1=8):er0 (.inl y)=8:=by
 show (if y.1=2 then y.2.2.1 else 9)=8
 rw[if_pos h1];exact h2
theorem QM.more{A B:Nat}{a b:List Tm}{R:Int->Int->RM}{k k':Int}(h:QM A a R k)(hl:a.length+A≤b.length+B):QM B b R k':=by
 obtain⟨how,x,e,b2,c2,g1,g2,g3,g4,g5⟩:=h
 exact⟨how,x,e,b2,c2,g1,g2,g3,by omega,g5⟩
section
variable {N:ByteArray->Bool} (l:List Ent) (hE:AllE N l) (he:∀e∈l,EOk e)
def HM0(p:PatternPat):Prop:=∀(t:Tm) (f:Int),shapedT t=true->ndP p≤1000000->0≤f ->
 Ou (fun L U q=>e186vacw q (machT l).l (machT l).rl (machT l).parts (machT l).args (machT l).own L U 0 p t) er0 (Q0 (ndP p)) True f
theorem out_ms0R(ps:List PatternPat)(own y6:List Tm)(r1:Tm×List Tm)(hlen:ps.length=own.length)(hown:∀x∈own,shapedT x=true)(hr1:r1.1.Ok)(hy:own.length≤y6.length)(hy8:y6.length≤8192) :
  ∀(r:List PatternPat) (v:Nat) (b:List Tm) (c:Nat) (args:List Tm) (f:Int),ps.drop v=r->(∀p∈r,HM1 l p)->args.length=y6.length->OkA args->(∀y∈b,shapedT y=true)->b.length+ndPs r≤1000000->0≤f ->
  Ou (fun L U q=>e244vacuLcv q (machT l).l (machT l).rl (machT l).parts (machT l).args (machT l).own ps own r1 y6 (v:Int) 0 L U c b.length args b) er0 (QR (ndPs r) b) True f:=by
 intro r
 induction r with
 |nil=>
  intro v b c args f hd hp ha hao hb hbl hf
  refine Ou.succ ?_
  simp only[e244vacuLcv]
  exact Ou.ifF (drop_nil hd) (Ou.evt (ev_AW r1.1 args y6.length ha (by omega)) (Ou.ret hf ⟨_,⟨0,_,0,b,c,apT_ok _ _ hr1 hao,fun h=>absurd rfl h,hb,by omega,rfl⟩,rfl⟩))
 |cons p r ih=>
  intro v b c args f hd hp ha hao hb hbl hf
  have hlt:=drop_lt hd
  rw[ndPs]at hbl
  have hidx:w64 (w64 ((y6.length:Int)-(own.length:Int))+(v:Int))=((y6.length-own.length+v:Nat):Int):=by
   rw[w64_id (x:=(y6.length:Int)-(own.length:Int)) (by omega) (by omega),w64_id (by omega) (by omega)];omega
  refine Ou.succ ?_
  simp only[e244vacuLcv,pp_eta,hidx]
  refine Ou.ifT (drop_dec hd) (Ou.pure (drop_idx hd) (Ou.pure (gidx_nat (l:=own) (by omega)) (Ou.bind (hp p (by simp) _ b c f (hown _ (List.getElem_mem _)) hb (by omega) hf) id (fun r hr=>?_) ?_)))
  ·obtain⟨a1,a2⟩:=er8_spec hr
   exact⟨_,Evt.pure (gchk_ok (by omega)) (Evt.pure (gset_ok _ (by omega)) (Evt.ifT (by rw[a1];decide) ((ev_AW r1.1 _ y6.length (by simp[ha]) (by omega)).bind Evt.ret))),er8_of a1 a2⟩
  ·rintro R k k0 k1 ⟨how,x,e,b',c',hx,he,hb',hbl',rfl⟩
   dsimp only
   refine Ou.pure (gchk_ok (by omega)) (Ou.pure (gset_ok _ (by omega)) (Ou.ite (fun _=>?_) fun h0=>?_))
   ·exact Ou.evt (ev_AW r1.1 _ y6.length (by simp[ha]) (by omega)) (Ou.ret (by omega) ⟨_,⟨how,_,e,b',c',apT_ok _ _ hr1 (oka_set hao _ hx),he,hb',by rw[ndPs];omega,rfl⟩,rfl⟩)
   ·have h0':how=0:=by simpa using h0
    have e0:e=0:=Decidable.byContradiction fun h=>by have:=he h;omega
    subst e0
    rw[w64_nat v (by have:=hy8;omega)]
    refine(ih (v+1) b' c' _ (f-k) (drop_next hd) (fun p h=>hp p (by simp[h])) (by simp[ha]) (oka_set hao _ hx) hb' (by omega) (by omega)).mono ?_ id
    rintro R n _ _ ⟨R',hR',rfl⟩
    exact⟨R',hR'.more (by rw[ndPs];omega),rfl⟩
theorem out_ms0L(ps:List PatternPat)(own y6:List Tm)(r1:Tm×List Tm)(hlen:ps.length=own.length)(hown:∀x∈own,shapedT x=true)(hr1:r1.1.Ok)(hy:own.length≤y6.length)(hy8:y6.length≤8192)(hp1:∀p∈ps,HM1 l p) :
  ∀(r:List PatternPat) (v:Nat) (args:List Tm) (f:Int),ps.drop v=r->(∀p∈r,HM0 l p)->args.length=y6.length->OkA args->ndPs r≤1000000->0≤f ->
  Ou (fun L U q=>e244vacuLcy q (machT l).l (machT l).rl (machT l).parts (machT l).args (machT l).own ps own r1 y6 (v:Int) 0 L U args) er0 (Q0 (ndPs r)) True f:=by
 intro r
 induction r with
 |nil=>
  intro v args f hd hp ha hao hbl hf
  refine Ou.succ ?_
  simp only[e244vacuLcy]
  exact Ou.ifF (drop_nil hd) (Ou.evt (ev_AW r1.1 args y6.length ha (by omega)) (Ou.ret hf (.inl ⟨0,_,0,apT_ok _ _ hr1 hao,fun h=>absurd rfl h,rfl⟩)))
 |cons p r ih=>
  intro v args f hd hp ha hao hbl hf
  have hlt:=drop_lt hd
  rw[ndPs]at hbl
  have hidx:w64 (w64 ((y6.length:Int)-(own.length:Int))+(v:Int))=((y6.length-own.length+v:Nat):Int):=by
   rw[w64_id (x:=(y6.length:Int)-(own.length:Int)) (by omega) (by omega),w64_id (by omega) (by omega)];omega
  refine Ou.succ ?_
  simp only[e244vacuLcy,pp_eta,hidx]
  refine Ou.ifT (drop_dec hd) (Ou.pure (drop_idx hd) (Ou.pure (gidx_nat (l:=own) (by omega)) (Ou.bind (hp p (by simp) _ f (hown _ (List.getElem_mem _)) (by omega) hf) id (fun r hr=>?_) ?_)))
  ·match r,hr with
   | .inl y,hr=>
    obtain⟨a1,a2⟩:=er0_inl hr
    exact⟨_,Evt.pure (gchk_ok (by omega)) (Evt.pure (gset_ok _ (by omega)) (Evt.ifT (by rw[a1];decide) ((ev_AW r1.1 _ y6.length (by simp[ha]) (by omega)).bind Evt.ret))),er0_of a1 a2⟩
   | .inr y,hr=>
    have hr:er8 y=8:=hr
    obtain⟨a1,a2⟩:=er8_spec hr
    exact⟨_,Evt.pure (gchk_ok (by omega)) (Evt.pure (gset_ok _ (by omega)) (Evt.ifT (by rw[a1];decide) ((ev_AW r1.1 _ y6.length (by simp[ha]) (by omega)).bind Evt.ret))),er8_of a1 a2⟩
  ·rintro R k k0 k1 (⟨how,x,e,hx,he,rfl⟩|⟨R',⟨how,x,e,b',c',hx,he,hb',hbl',rfl⟩,rfl⟩)
   ·dsimp only
    refine Ou.pure (gchk_ok (by omega)) (Ou.pure (gset_ok _ (by omega)) (Ou.ite (fun _=>?_) fun h0=>?_))
    ·exact Ou.evt (ev_AW r1.1 _ y6.length (by simp[ha]) (by omega)) (Ou.ret (by omega) (.inl ⟨how,_,e,apT_ok _ _ hr1 (oka_set hao _ hx),he,rfl⟩))
    ·have h0':how=0:=by simpa using h0
     have e0:e=0:=Decidable.byContradiction fun h=>by have:=he h;omega
     subst e0
     rw[w64_nat v (by have:=hy8;omega)]
     refine(ih (v+1) _ (f-k) (drop_next hd) (fun p h=>hp p (by simp[h])) (by simp[ha]) (oka_set hao _ hx) (by omega) (by omega)).mono ?_ id
     rintro R n _ _ (h|⟨R',hR',rfl⟩)
     ·exact .inl h
     ·exact .inr ⟨R',hR'.more (by rw[ndPs];simp),rfl⟩
   ·have hbl'':b'.length≤ndP p:=by simpa using hbl'
    dsimp only
    refine Ou.pure (gchk_ok (by omega)) (Ou.pure (gset_ok _ (by omega)) (Ou.ite (fun _=>?_) fun h0=>?_))
    ·exact Ou.evt (ev_AW r1.1 _ y6.length (by simp[ha]) (by omega)) (Ou.ret (by omega) (.inr ⟨_,⟨how,_,e,b',c',apT_ok _ _ hr1 (oka_set hao _ hx),he,hb',by rw[ndPs];simp;omega,rfl⟩,rfl⟩))
    ·have h0':how=0:=by simpa using h0
     have e0:e=0:=Decidable.byContradiction fun h=>by have:=he h;omega
     subst e0
     rw[w64_nat v (by have:=hy8;omega)]
     refine(out_ms0R l ps own y6 r1 hlen hown hr1 hy hy8 r (v+1) b' c' _ (f-k) (drop_next hd) (fun p h=>hp1 p (List.mem_of_mem_drop (by rw[hd];simp[h]))) (by simp[ha]) (oka_set hao _ hx) hb' (by omega) (by omega)).mono ?_ id
     rintro R n _ _ ⟨R',hR',rfl⟩
     exact .inr ⟨R',hR'.more (by rw[ndPs];simp;omega),rfl⟩
theorem out_ms0(ps:List PatternPat)(hp:∀p∈ps,HM0 l p)(hp1:∀p∈ps,HM1 l p)(t:Tm)(ht:shapedT t=true)(j:Nat)(hj:j≤(arT t).length)(hlen:ps.length=((arT t).drop j).length)(hbl:ndPs ps≤1000000)(f:Int)(hf:0≤f) :
  Ou (fun L U q=>e244vacu q (machT l).l (machT l).rl (machT l).parts (machT l).args (machT l).own L U 0 ps ((arT t).drop j) t) er0 (Q0 (ndPs ps)) True f:=by
 have hal:=ar_le ht
 refine Ou.succ ?_
 simp only[e244vacu]
 refine Ou.evt (ev_Spine t ht) (Ou.evt (ev_vr (arT t) (by omega)) ?_)
 by_cases h:arT t=[]
 ·rw[if_pos h]
  have hps:ps=[]:=List.length_eq_zero_iff.1 (by rw[hlen,h];simp)
  subst hps
  refine Ou.succ ?_
  simp only[e244vacuLcx]
  refine Ou.ifF rfl (Ou.evt (ev_Apply (hdT t) [] (by simp)) (Ou.ret hf (.inl ⟨0,_,0,apT_ok [] _ (shaped_ok (hd_shaped ht)) (fun _ h=>nomatch h),fun h=>absurd rfl h,rfl⟩)))
 ·rw[if_neg h]
  exact out_ms0L l ps _ (arT t) (hdT t,arT t) hlen (fun x hx=>ar_shaped ht (List.mem_of_mem_drop hx)) (shaped_ok (hd_shaped ht)) (by simp) hal hp1 ps 0 (arT t) f rfl hp rfl (fun x hx=>shaped_ok (ar_shaped ht hx)) hbl hf
include hE he
theorem out_mt0:∀(n:Nat) (p:PatternPat),ndP p≤n->GP l p->HM0 l p:=by
 intro n
 induction n with
 |zero=>intro p hn;rw[ndP_sub]at hn;omega
 |succ n ih=>
  intro p hn hg t f ht hbl hf
  obtain⟨pk,pn,pa,ps,pt⟩:=p
  rw[GP]at hg
  rw[ndP]at hn hbl ⊢
  have hps:∀s∈ps,HM0 l s:=fun s hs=>ih s (by have:=ndPs_mem hs;omega) (GPs_at hg.2 s hs)
  have hps1:∀s∈ps,HM1 l s:=fun s hs=>out_mt1 l hE he _ s (Nat.le_refl _) (GPs_at hg.2 s hs)
  have con:∀(x:Tm) (hx:shapedT x=true) (hc:isCon l x) (hk:¬((hdT x).n != pn)=true) (hari:ariT l pn=ps.length) (f:Int) (hf:0≤f),Ou (fun L U q=>e166 q (machT l) (hdT x).n>>=fun r16=>gsl (arT x) r16 ((arT x).length:Int)>>=fun x18=>e244vacu q (machT l).l (machT l).rl (machT l).parts (machT l).args (machT l).own L U 0 ps x18 x>>=fun r18=>match r18 with
    |Sum.inl y20=>some (Sum.inl (y20.1,y20.2.1,y20.2.2.1,y20.2.2.2.1,y20.2.2.2.2))
    |Sum.inr y21=>some (Sum.inr (y21.1,y21.2.1,y21.2.2.1,y21.2.2.2.1,y21.2.2.2.2.1,y21.2.2.2.2.2.1,y21.2.2.2.2.2.2.1,y21.2.2.2.2.2.2.2))) er0 (Q0 (1+ndPs ps)) True f:=by
   intro x hx hc hk hari f hf
   obtain⟨j,hj,h1,h2,h3⟩:=con_parsL hE hx hc
   have hP:Evt (fun q=>e166 q (machT l) (hdT x).n) (j:Int):=by
    simp only[e166,machT_l]
    exact Evt.ifF (decide_eq_false (by omega)) (Evt.ifF (decide_eq_false (by omega)) (Evt.pure (gidx_ent h2 h3) (Evt.ret.eq hj)))
   have hs:=isCon_spec hx hc
   have hpn:(hdT x).n=pn:=by simpa using hk
   have hlen:ps.length=((arT x).drop j).length:=by
    unfold ariT at hari
    rw[←hpn,if_pos ⟨hs.1,hs.2.1,hs.2.2.1⟩]at hari
    have:=hs.2.2.2
    simp;omega
   refine Ou.evt hP (Ou.pure (gsl_ok h1 (Nat.le_refl _)) ?_)
   rw[show ((arT x).drop j).take ((arT x).length-j)=(arT x).drop j from List.take_of_length_le (by simp)]
   refine Ou.bind (out_ms0 l ps hps hps1 x hx j h1 hlen (by omega) f hf) id (fun r hr=>?_) ?_
   ·cases r with
    |inl y=>exact⟨_,Evt.ret,hr⟩
    |inr y=>exact⟨_,Evt.ret,hr⟩
   rintro R k k0 k1 (⟨how,y,e,g1,g2,rfl⟩|⟨R',hR',rfl⟩)
   ·exact Ou.ret (by omega) (.inl ⟨how,y,e,g1,g2,rfl⟩)
   ·exact Ou.ret (R:=fun L U=>(Sum.inr (R' L U):RM0)) (by omega) (Or.inr ⟨R',hR'.more (by simp),rfl⟩)
  refine Ou.succ ?_
  simp only[e186vacw,PatternPat.kind_,PatternPat.n_,PatternPat.sub_]
  refine Ou.ite (fun _=>Ou.ret hf (.inl ⟨0,t,0,shaped_ok ht,fun h=>absurd rfl h,rfl⟩)) fun h3=>Ou.ite (fun _=>?_) fun h1=>Ou.ite (fun _=>Ou.ret hf (.inl ⟨1,t,0,shaped_ok ht,fun h=>absurd rfl h,rfl⟩)) fun h4=>?_
  ·refine Ou.pure (gapp_ok (by simp)) (Ou.pure (a:=0) rfl (Ou.pure (a:=[t]) rfl ?_))
   exact Ou.ret hf (.inr ⟨fun L U=>(0,t,0,L,U,[t],1,1),⟨0,t,0,[t],1,shaped_ok ht,fun h=>absurd rfl h,fun y hy=>by rw[List.mem_singleton.1 hy];exact ht,by simp,rfl⟩,rfl⟩)
  ·obtain⟨-,hari⟩:=hg.1 (by simpa using h1) (by simpa using h3) (by simpa using h4)
   refine Ou.evt (ev_ConL l t ht) ?_
   unfold conX
   by_cases hc:isCon l t
   ·rw[if_pos hc]
    refine Ou.ifT rfl (Ou.ite (fun _=>Ou.ret hf (.inl ⟨1,t,0,shaped_ok ht,fun h=>absurd rfl h,rfl⟩)) fun hk=>?_)
    exact con t ht hc (by simpa using hk) hari f hf
   ·rw[if_neg hc]
    refine Ou.ifF rfl (Ou.bind (out_BringL l hE he t (shaped_ok ht) f hf) id (fun r hr=>⟨_,Evt.ifT (ne8L hr) Evt.ret,er0_of rfl hr⟩) ?_)
    rintro R k k0 k1 ⟨y,e,-,-,hs,rfl⟩
    dsimp only
    by_cases e0:e=0
    ·subst e0
     have hy:=hs rfl
     refine Ou.ifF rfl (Ou.evt (ev_ConL l y hy) ?_)
     unfold conX
     by_cases hc':isCon l y
     ·rw[if_pos hc']
      refine Ou.ifT rfl (Ou.ite (fun _=>Ou.ret (by omega) (.inl ⟨1,y,0,shaped_ok hy,fun h=>absurd rfl h,rfl⟩)) fun hk=>?_)
      exact(con y hy hc' (by simpa using hk) hari (f-k) (by omega)).mono (fun _ _ _ _ h=>h) id
     ·rw[if_neg hc']
      exact Ou.ifF rfl (Ou.ret (by omega) (.inl ⟨2,t,0,shaped_ok ht,fun h=>absurd rfl h,rfl⟩))
    ·exact Ou.ifT (by simpa using e0) (Ou.ret (by omega) (.inl ⟨2,t,e,shaped_ok ht,fun _=>rfl,rfl⟩))
end
theorem lok_nil:LOk []:=⟨trivial,by simp⟩
def e121vaczLda(qq:Nat)(q0 q1:List Ent)(q2:List Con')(q3 q4:List Int)(q5 q6 q7:Int)(p1:List PatternPat)(p2:List Tm)(v15:Int):Option (Int×List Tm):=
 if decide (v15<(List.length p1:Int))then
 none
 else
 some (0,[])
def e121vacz(qq:Nat)(q0 q1:List Ent)(q2:List Con')(q3 q4:List Int)(q5 q6 q7:Int)(p1:List PatternPat)(p2:List Tm):Option (Int×List Tm):=
 e121vaczLda qq q0 q1 q2 q3 q4 q5 q6 q7 p1 p2 0
def g121vaczLdaE0(j:Nat->Value)(q0 q1:List Ent)(q2:List Con')(q3 q4:List Int)(q5 q6 q7:Int)(p1:List PatternPat)(p2:List Tm)(v15:Int):=sp j 59 0 [(0,.mp 0 0),(2,slv tmCells p2 .no),(8,.mp 4 0),(13,slv patternPatC p1 .no),(14,ai (List.length p1:Int)),(15,ai v15)]
def g121vaczLdaS0(q0 q1:List Ent)(q2:List Con')(q3 q4:List Int)(q5 q6 q7:Int)(p1:List PatternPat)(p2:List Tm)(v15:Int):LSt:=⟨[(0,.cells [.mp 1 0,.mp 3 0,ai q7]),(1,.cells [slv entL q0 .no,.mp 2 0,slv intC q3 .no,slv intC q4 .no]),(2,.cells [slv entL q1 .no,slv conL q2 .no]),(3,.cells [ai q5,ai q6]),(4,.cells [slv tmCells ([]:List Tm) .nl])],5,[],0,[]⟩
abbrev K121vacz (q0 q1:List Ent) (q2:List Con') (q3 q4:List Int) (q5 q6 q7:Int) (p1:List PatternPat) (p2:List Tm) (r:Int×List Tm) (C:Cf):Prop:=C 121 [.cells [.mp 1 0,.mp 3 0,ai q7],.cells [slv entL q0 .no,.mp 2 0,slv intC q3 .no,slv intC q4 .no],.cells [slv entL q1 .no,slv conL q2 .no],.cells [ai q5,ai q6]] [.mp 0 0,slv patternPatC p1 .no,slv tmCells p2 .no] (.tup [ai r.1,.sl (flat tmCells r.2) (List.length r.2) .no]) [.cells [.mp 1 0,.mp 3 0,ai q7],.cells [slv entL q0 .no,.mp 2 0,slv intC q3 .no,slv intC q4 .no],.cells [slv entL q1 .no,slv conL q2 .no],.cells [ai q5,ai q6]] 0
theorem q121vacz:Qf 121 Tryz.f121:=⟨Tryz.func121,by kernel_rfl⟩
theorem k121vacz{q0 q1 q2 q3 q4 q5 q6 q7 p1 p2 r}(h:K121vacz q0 q1 q2 q3 q4 q5 q6 q7 p1 p2 r Ci):K121vacz q0 q1 q2 q3 q4 q5 q6 q7 p1 p2 r Ct:=⟨h,⟨(lz rfl),⟨tv,dPatternPat _⟩,⟨tv,dT _⟩,tv⟩,(forall_cons ⟨(lz rfl),(lz rfl),tv,tv⟩ (forall_cons ⟨⟨tv,dE _⟩,(lz rfl),⟨tv,dI _⟩,⟨tv,dI _⟩,tv⟩ (forall_cons ⟨⟨tv,dE _⟩,⟨tv,dC _⟩,tv⟩ (forall_cons ⟨tv,tv,tv⟩ forall_nil)))),⟨tv,dT _,tv⟩,(forall_cons ⟨(lz rfl),(lz rfl),tv,tv⟩ (forall_cons ⟨dE _,(lz rfl),dI _,dI _,tv⟩ (forall_cons ⟨dE _,dC _,tv⟩ (forall_cons ⟨tv,tv,tv⟩ forall_nil))))⟩
theorem l121vaczLda(qq q0 q1 q2 q3 q4 q5 q6 q7 p1 p2 v15 r)(h:e121vaczLda qq q0 q1 q2 q3 q4 q5 q6 q7 p1 p2 v15=some r):(∀j,Dl Tryz.prog 4 (inn (inn (rgt (lft (rgt (rgt (bod Tryz.f121))))))) (g121vaczLdaE0 j q0 q1 q2 q3 q4 q5 q6 q7 p1 p2 v15) (g121vaczLdaS0 q0 q1 q2 q3 q4 q5 q6 q7 p1 p2 v15) (frameQ Tryz.prog 4 (FinQ Tryz.prog 4 Tryz.f121 (.tup [ai r.1,.sl (flat tmCells r.2) (List.length r.2) .no]) [.cells [.mp 1 0,.mp 3 0,ai q7],.cells [slv entL q0 .no,.mp 2 0,slv intC q3 .no,slv intC q4 .no],.cells [slv entL q1 .no,slv conL q2 .no],.cells [ai q5,ai q6]] 0) [.blk 0,.seq (rgt (rgt (rgt (bod Tryz.f121))))])):=by
 unfold e121vaczLda at h
 obtain⟨h1,h⟩:=splF h
 obtain rfl:=sj h
 exact fun j=>lF 1 [0,1,2,3] (oD (dT ([]:List Tm))<|oD (dC q2)<|oD (dE q1)<|oD (dI q4)<|oD (dI q3)<|oD (dE q0)<|oB 0 h1 o0)
theorem c121vacz{qq q0 q1 q2 q3 q4 q5 q6 q7 p1 p2 r}(h:e121vacz qq q0 q1 q2 q3 q4 q5 q6 q7 p1 p2=some r):K121vacz q0 q1 q2 q3 q4 q5 q6 q7 p1 p2 r Ct:=by
 unfold e121vacz at h
 exact k121vacz (tH q121vacz 1 [] [0,1,2,3,4] [] [0,2,8,13,14,15] (oD (dPatternPat p1)<|oD (dT p2)<|oD (dT ([]:List Tm))<|oD (dC q2)<|oD (dE q1)<|oD (dI q4)<|oD (dI q3)<|oD (dE q0) o0) (l121vaczLda qq _ _ _ _ _ _ _ _ _ _ _ _ h))
def e121vadbLdc:Nat->(List Ent)->(List Ent)->(List Con')->(List Int)->(List Int)->(List PatternPat)->Nat->Int->Int->Int->Int->(List Tm)->Nat->Nat->(List Tm)->Option ((Int×List Tm×Int×Int×Int×List Tm) ⊕ (List Tm×Int×Nat×Int×Int×Int×List Tm))
 |0,_,_,_,_,_,_,_,_,_,_,_,_,_,_,_=>none
 |qq+1,q0,q1,q2,q3,q4,p1,q10,v15,vb0_2,vb3_0,vb3_1,vb4_0,vb5_0_c,vb5_0_n,vb6_0=>
 if decide (v15<(List.length p1:Int))then
 gidx p1 v15>>=fun x36=>
 gchk q10 v15>>=fun x38=>
 gidx vb4_0 (x38:Int)>>=fun x40=>
 e186vacq qq q0 q1 q2 q3 q4 vb3_0 vb3_1 vb0_2 (PatternPat.mk x36.kind_ x36.n_ x36.at_ x36.sub_ x36.t_) x40 vb6_0 vb5_0_n vb5_0_c>>=fun r42=>
 if r42.2.2.1==0 then
 e89 qq r42.2.1>>=fun r45=>
 if r45 then
 gset vb4_0 x38 r42.2.1>>=fun x48=>
 if r42.1 != 0 then
 some (Sum.inl (r42.1,[],r42.2.2.1,r42.2.2.2.1,r42.2.2.2.2.1,x48))
 else
 if r42.2.2.1 != 0 then
 some (Sum.inl (r42.1,[],r42.2.2.1,r42.2.2.2.1,r42.2.2.2.2.1,x48))
 else
 e121vadbLdc qq q0 q1 q2 q3 q4 p1 q10 (w64 (v15+1)) r42.2.2.1 r42.2.2.2.1 r42.2.2.2.2.1 x48 r42.2.2.2.2.2.2.2 r42.2.2.2.2.2.2.1 r42.2.2.2.2.2.1
 else
 gset vb4_0 x38 r42.2.1>>=fun x52=>
 if r42.1 != 0 then
 some (Sum.inl (r42.1,[],2,r42.2.2.2.1,r42.2.2.2.2.1,x52))
 else
 some (Sum.inl (r42.1,[],2,r42.2.2.2.1,r42.2.2.2.2.1,x52))
 else
 gset vb4_0 x38 r42.2.1>>=fun x55=>
 if r42.1 != 0 then
 some (Sum.inl (r42.1,[],r42.2.2.1,r42.2.2.2.1,r42.2.2.2.2.1,x55))
 else
 if r42.2.2.1 != 0 then
 some (Sum.inl (r42.1,[],r42.2.2.1,r42.2.2.2.1,r42.2.2.2.2.1,x55))
 else
 e121vadbLdc qq q0 q1 q2 q3 q4 p1 q10 (w64 (v15+1)) r42.2.2.1 r42.2.2.2.1 r42.2.2.2.2.1 x55 r42.2.2.2.2.2.2.2 r42.2.2.2.2.2.2.1 r42.2.2.2.2.2.1
 else
 gfz vb5_0_n vb6_0>>=fun l59=>
 some (Sum.inr (l59,0,vb5_0_c,vb0_2,vb3_0,vb3_1,vb4_0))
def e121vadbLdd:Nat->(List Ent)->(List Ent)->(List Con')->(List Int)->(List Int)->(List PatternPat)->Nat->Int->Int->Int->Int->(List Tm)->Option ((Int×List Tm×Int×Int×Int×List Tm) ⊕ (List Tm×Int×Nat×Int×Int×Int×List Tm))
 |0,_,_,_,_,_,_,_,_,_,_,_,_=>none
 |qq+1,q0,q1,q2,q3,q4,p1,q10,v15,vb0_2,vb3_0,vb3_1,vb4_0=>
 if decide (v15<(List.length p1:Int))then
 gidx p1 v15>>=fun x2=>
 gchk q10 v15>>=fun x4=>
 gidx vb4_0 (x4:Int)>>=fun x6=>
 e186vacw qq q0 q1 q2 q3 q4 vb3_0 vb3_1 vb0_2 (PatternPat.mk x2.kind_ x2.n_ x2.at_ x2.sub_ x2.t_) x6>>=fun r8=>
 match r8 with
 |Sum.inl y10=>
  if y10.2.2.1==0 then
  e89 qq y10.2.1>>=fun r12=>
  if r12 then
  gset vb4_0 x4 y10.2.1>>=fun x15=>
  if y10.1 != 0 then
  some (Sum.inl (y10.1,[],y10.2.2.1,y10.2.2.2.1,y10.2.2.2.2,x15))
  else
  if y10.2.2.1 != 0 then
  some (Sum.inl (y10.1,[],y10.2.2.1,y10.2.2.2.1,y10.2.2.2.2,x15))
  else
  e121vadbLdd qq q0 q1 q2 q3 q4 p1 q10 (w64 (v15+1)) y10.2.2.1 y10.2.2.2.1 y10.2.2.2.2 x15
  else
  gset vb4_0 x4 y10.2.1>>=fun x19=>
  if y10.1 != 0 then
  some (Sum.inl (y10.1,[],2,y10.2.2.2.1,y10.2.2.2.2,x19))
  else
  some (Sum.inl (y10.1,[],2,y10.2.2.2.1,y10.2.2.2.2,x19))
  else
  gset vb4_0 x4 y10.2.1>>=fun x22=>
  if y10.1 != 0 then
  some (Sum.inl (y10.1,[],y10.2.2.1,y10.2.2.2.1,y10.2.2.2.2,x22))
  else
  if y10.2.2.1 != 0 then
  some (Sum.inl (y10.1,[],y10.2.2.1,y10.2.2.2.1,y10.2.2.2.2,x22))
  else
  e121vadbLdd qq q0 q1 q2 q3 q4 p1 q10 (w64 (v15+1)) y10.2.2.1 y10.2.2.2.1 y10.2.2.2.2 x22
 |Sum.inr y26=>
  if y26.2.2.1==0 then
  e89 qq y26.2.1>>=fun r28=>
  if r28 then
  gset vb4_0 x4 y26.2.1>>=fun x31=>
  if y26.1 != 0 then
  some (Sum.inl (y26.1,[],y26.2.2.1,y26.2.2.2.1,y26.2.2.2.2.1,x31))
  else
  if y26.2.2.1 != 0 then
  some (Sum.inl (y26.1,[],y26.2.2.1,y26.2.2.2.1,y26.2.2.2.2.1,x31))
  else
  e121vadbLdc qq q0 q1 q2 q3 q4 p1 q10 (w64 (v15+1)) y26.2.2.1 y26.2.2.2.1 y26.2.2.2.2.1 x31 y26.2.2.2.2.2.2.2 y26.2.2.2.2.2.2.1 y26.2.2.2.2.2.1
  else
  gset vb4_0 x4 y26.2.1>>=fun x35=>
  if y26.1 != 0 then
  some (Sum.inl (y26.1,[],2,y26.2.2.2.1,y26.2.2.2.2.1,x35))
  else
  some (Sum.inl (y26.1,[],2,y26.2.2.2.1,y26.2.2.2.2.1,x35))
  else
  gset vb4_0 x4 y26.2.1>>=fun x38=>
  if y26.1 != 0 then
  some (Sum.inl (y26.1,[],y26.2.2.1,y26.2.2.2.1,y26.2.2.2.2.1,x38))
  else
  if y26.2.2.1 != 0 then
  some (Sum.inl (y26.1,[],y26.2.2.1,y26.2.2.2.1,y26.2.2.2.2.1,x38))
  else
  e121vadbLdc qq q0 q1 q2 q3 q4 p1 q10 (w64 (v15+1)) y26.2.2.1 y26.2.2.2.1 y26.2.2.2.2.1 x38 y26.2.2.2.2.2.2.2 y26.2.2.2.2.2.2.1 y26.2.2.2.2.2.1
 else
 some (Sum.inl (0,[],vb0_2,vb3_0,vb3_1,vb4_0))
def e121vadb(qq:Nat)(q0 q1:List Ent)(q2:List Con')(q3 q4:List Int)(q5 q6 q7:Int)(p1:List PatternPat)(q9:List Tm)(q10:Nat):Option ((Int×List Tm×Int×Int×Int×List Tm) ⊕ (List Tm×Int×Nat×Int×Int×Int×List Tm)):=
 e121vadbLdd qq q0 q1 q2 q3 q4 p1 q10 0 q7 q5 q6 q9
def g121vadbLddE0(j:Nat->Value)(q0 q1:List Ent)(q2:List Con')(q3 q4:List Int)(p1:List PatternPat)(q10:Nat)(v15 vb0_2 vb3_0 vb3_1:Int)(vb4_0:List Tm):=sp j 59 0 [(0,.mp 0 0),(2,.ms 4 0 q10 q10 3),(8,.mp 5 0),(13,slv patternPatC p1 .no),(14,ai (List.length p1:Int)),(15,ai v15)]
def g121vadbLddS0(q0 q1:List Ent)(q2:List Con')(q3 q4:List Int)(p1:List PatternPat)(q10:Nat)(v15 vb0_2 vb3_0 vb3_1:Int)(vb4_0:List Tm):LSt:=⟨[(0,.cells [.mp 1 0,.mp 3 0,ai vb0_2]),(1,.cells [slv entL q0 .no,.mp 2 0,slv intC q3 .no,slv intC q4 .no]),(2,.cells [slv entL q1 .no,slv conL q2 .no]),(3,.cells [ai vb3_0,ai vb3_1]),(4,.row (flat tmCells vb4_0)),(5,.cells [slv tmCells ([]:List Tm) .nl])],6,[],0,[]⟩
def g121vadbLdcE0(j:Nat->Value)(q0 q1:List Ent)(q2:List Con')(q3 q4:List Int)(p1:List PatternPat)(q10:Nat)(v15 vb0_2 vb3_0 vb3_1:Int)(vb4_0:List Tm)(vb5_0_c vb5_0_n:Nat)(vb6_0:List Tm):=sp j 59 0 [(0,.mp 0 0),(2,.ms 4 0 q10 q10 3),(8,.mp 5 0),(13,slv patternPatC p1 .no),(14,ai (List.length p1:Int)),(15,ai v15)]
def g121vadbLdcS0(q0 q1:List Ent)(q2:List Con')(q3 q4:List Int)(p1:List PatternPat)(q10:Nat)(v15 vb0_2 vb3_0 vb3_1:Int)(vb4_0:List Tm)(vb5_0_c vb5_0_n:Nat)(vb6_0:List Tm):LSt:=⟨[(0,.cells [.mp 1 0,.mp 3 0,ai vb0_2]),(1,.cells [slv entL q0 .no,.mp 2 0,slv intC q3 .no,slv intC q4 .no]),(2,.cells [slv entL q1 .no,slv conL q2 .no]),(3,.cells [ai vb3_0,ai vb3_1]),(4,.row (flat tmCells vb4_0)),(5,.cells [.ms 6 0 vb5_0_n vb5_0_c 3]),(6,.row (flat tmCells vb6_0))],7,[],0,[]⟩
abbrev K121vadbs0 (q0 q1:List Ent) (q2:List Con') (q3 q4:List Int) (q5 q6 q7:Int) (p1:List PatternPat) (q9:List Tm) (q10:Nat) (r:Int×List Tm×Int×Int×Int×List Tm) (C:Cf):Prop:=C 121 [.cells [.mp 1 0,.mp 3 0,ai q7],.cells [slv entL q0 .no,.mp 2 0,slv intC q3 .no,slv intC q4 .no],.cells [slv entL q1 .no,slv conL q2 .no],.cells [ai q5,ai q6],.row (flat tmCells q9)] [.mp 0 0,slv patternPatC p1 .no,.ms 4 0 q10 q10 3] (.tup [ai r.1,.sl (flat tmCells r.2.1) (List.length r.2.1) .no]) [.cells [.mp 1 0,.mp 3 0,ai r.2.2.1],.cells [slv entL q0 .no,.mp 2 0,slv intC q3 .no,slv intC q4 .no],.cells [slv entL q1 .no,slv conL q2 .no],.cells [ai r.2.2.2.1,ai r.2.2.2.2.1],.row (flat tmCells r.2.2.2.2.2)] 0
abbrev K121vadbs1 (q0 q1:List Ent) (q2:List Con') (q3 q4:List Int) (q5 q6 q7:Int) (p1:List PatternPat) (q9:List Tm) (q10:Nat) (r:List Tm×Int×Nat×Int×Int×Int×List Tm) (C:Cf):Prop:=C 121 [.cells [.mp 1 0,.mp 3 0,ai q7],.cells [slv entL q0 .no,.mp 2 0,slv intC q3 .no,slv intC q4 .no],.cells [slv entL q1 .no,slv conL q2 .no],.cells [ai q5,ai q6],.row (flat tmCells q9)] [.mp 0 0,slv patternPatC p1 .no,.ms 4 0 q10 q10 3] (.tup [ai r.2.1,.ms 5 0 (List.length r.1) r.2.2.1 3]) [.cells [.mp 1 0,.mp 3 0,ai r.2.2.2.1],.cells [slv entL q0 .no,.mp 2 0,slv intC q3 .no,slv intC q4 .no],.cells [slv entL q1 .no,slv conL q2 .no],.cells [ai r.2.2.2.2.1,ai r.2.2.2.2.2.1],.row (flat tmCells r.2.2.2.2.2.2),.row (flat tmCells r.1)] 0
theorem q121vadb:Qf 121 Tryz.f121:=⟨Tryz.func121,by kernel_rfl⟩
theorem k121vadbs0{q0 q1 q2 q3 q4 q5 q6 q7 p1 q9 q10 r}(h:K121vadbs0 q0 q1 q2 q3 q4 q5 q6 q7 p1 q9 q10 r Ci):K121vadbs0 q0 q1 q2 q3 q4 q5 q6 q7 p1 q9 q10 r Ct:=⟨h,⟨(lz rfl),⟨tv,dPatternPat _⟩,(lz rfl),tv⟩,(forall_cons ⟨(lz rfl),(lz rfl),tv,tv⟩ (forall_cons ⟨⟨tv,dE _⟩,(lz rfl),⟨tv,dI _⟩,⟨tv,dI _⟩,tv⟩ (forall_cons ⟨⟨tv,dE _⟩,⟨tv,dC _⟩,tv⟩ (forall_cons ⟨tv,tv,tv⟩ (forall_cons (dT _) forall_nil))))),⟨tv,dT _,tv⟩,(forall_cons ⟨(lz rfl),(lz rfl),tv,tv⟩ (forall_cons ⟨dE _,(lz rfl),dI _,dI _,tv⟩ (forall_cons ⟨dE _,dC _,tv⟩ (forall_cons ⟨tv,tv,tv⟩ (forall_cons (dT _) forall_nil)))))⟩
theorem k121vadbs1{q0 q1 q2 q3 q4 q5 q6 q7 p1 q9 q10 r}(h:K121vadbs1 q0 q1 q2 q3 q4 q5 q6 q7 p1 q9 q10 r Ci):K121vadbs1 q0 q1 q2 q3 q4 q5 q6 q7 p1 q9 q10 r Ct:=⟨h,⟨(lz rfl),⟨tv,dPatternPat _⟩,(lz rfl),tv⟩,(forall_cons ⟨(lz rfl),(lz rfl),tv,tv⟩ (forall_cons ⟨⟨tv,dE _⟩,(lz rfl),⟨tv,dI _⟩,⟨tv,dI _⟩,tv⟩ (forall_cons ⟨⟨tv,dE _⟩,⟨tv,dC _⟩,tv⟩ (forall_cons ⟨tv,tv,tv⟩ (forall_cons (dT _) forall_nil))))),⟨tv,(lz rfl),tv⟩,(forall_cons ⟨(lz rfl),(lz rfl),tv,tv⟩ (forall_cons ⟨dE _,(lz rfl),dI _,dI _,tv⟩ (forall_cons ⟨dE _,dC _,tv⟩ (forall_cons ⟨tv,tv,tv⟩ (forall_cons (dT _) (forall_cons (dT _) forall_nil))))))⟩
theorem l121vadbLdc:∀qq:Nat,(∀q0 q1 q2 q3 q4 p1 q10 v15 vb0_2 vb3_0 vb3_1 vb4_0 vb5_0_c vb5_0_n vb6_0 r,e121vadbLdc qq q0 q1 q2 q3 q4 p1 q10 v15 vb0_2 vb3_0 vb3_1 vb4_0 vb5_0_c vb5_0_n vb6_0=some r->(∀j,Dl Tryz.prog 5 (inn (inn (rgt (lft (rgt (rgt (bod Tryz.f121))))))) (g121vadbLdcE0 j q0 q1 q2 q3 q4 p1 q10 v15 vb0_2 vb3_0 vb3_1 vb4_0 vb5_0_c vb5_0_n vb6_0) (g121vadbLdcS0 q0 q1 q2 q3 q4 p1 q10 v15 vb0_2 vb3_0 vb3_1 vb4_0 vb5_0_c vb5_0_n vb6_0) (frameQ Tryz.prog 5 ((match (generalizing:=false) r with|Sum.inl x=>FinQ Tryz.prog 5 Tryz.f121 (.tup [ai x.1,.sl (flat tmCells x.2.1) (List.length x.2.1) .no]) [.cells [.mp 1 0,.mp 3 0,ai x.2.2.1],.cells [slv entL q0 .no,.mp 2 0,slv intC q3 .no,slv intC q4 .no],.cells [slv entL q1 .no,slv conL q2 .no],.cells [ai x.2.2.2.1,ai x.2.2.2.2.1],.row (flat tmCells x.2.2.2.2.2)] 0|Sum.inr x=>FinQ Tryz.prog 5 Tryz.f121 (.tup [ai x.2.1,.ms 5 0 (List.length x.1) x.2.2.1 3]) [.cells [.mp 1 0,.mp 3 0,ai x.2.2.2.1],.cells [slv entL q0 .no,.mp 2 0,slv intC q3 .no,slv intC q4 .no],.cells [slv entL q1 .no,slv conL q2 .no],.cells [ai x.2.2.2.2.1,ai x.2.2.2.2.2.1],.row (flat tmCells x.2.2.2.2.2.2),.row (flat tmCells x.1)] 0)) [.blk 0,.seq (rgt (rgt (rgt (bod Tryz.f121))))]))):=by
 intro qq
 induction qq with
 |zero=>
  exact fun _ _ _ _ _ _ _ _ _ _ _ _ _ _ _ _ h=>nn h
 |succ qq ih=>
  intro q0 q1 q2 q3 q4 p1 q10 v15 vb0_2 vb3_0 vb3_1 vb4_0 vb5_0_c vb5_0_n vb6_0 r h
  rw[e121vadbLdc]at h
  rcases spl h with⟨h35,h⟩|⟨h35,h⟩
  obtain⟨x36,h37,h⟩:=obind h
  obtain⟨x38,h39,h⟩:=obind h
  obtain⟨x40,h41,h⟩:=obind h
  obtain⟨r42,h43,h⟩:=obind h
  have k:=oC 0 [0,1,2,3,5,6] (c186vacq h43)<|oG (a:=(.agg [ai x40.k,ai x40.n,slv tmCells x40.sub .no])) 0 (ldE codecT h41 (true,3) (val:=.agg [ai x40.k,ai x40.n,slv tmCells x40.sub .no]) (by rw[tm_eq];rfl))<|oA 3 (ixM23 (b:=4) (c:=q10) (z:=3) h39)<|oA 0 (ix106 (o:=.no) h37)<|oB 0 h35 o0
  rcases spl h with⟨h44,h⟩|⟨h44,h⟩
  obtain⟨r45,h46,h⟩:=obind h
  have k:=oB 4 h44 k
  rcases spl h with⟨h47,h⟩|⟨h47,h⟩
  obtain⟨x48,h49,h⟩:=obind h
  have k:=oW 0 (wtE (x:=r42.2.1) (cs:=[ai r42.2.1.k,ai r42.2.1.n,slv tmCells r42.2.1.sub .no]) codecT (by rw[tm_eq];rfl) h49)<|oA 2 (ixM23 (b:=4) (c:=q10) (z:=3) h39)<|oK 1 [] h47 (c89 h46) k
  rcases spl h with⟨h50,h⟩|⟨h50,h⟩
  obtain rfl:=sj h
  exact fun j=>lF 0 [0,1,2,3,4] (oD (dT ([]:List Tm))<|oD (dT x48)<|oD (dC q2)<|oD (dE q1)<|oD (dI q4)<|oD (dI q3)<|oD (dE q0)<|oB 0 h50 k)
  have k:=oB 0 h50 k
  rcases spl h with⟨h51,h⟩|⟨h51,h⟩
  obtain rfl:=sj h
  exact fun j=>lF 0 [0,1,2,3,4] (oD (dT ([]:List Tm))<|oD (dT x48)<|oD (dC q2)<|oD (dE q1)<|oD (dI q4)<|oD (dI q3)<|oD (dE q0)<|oB 1 h51 k)
  exact fun j=>lH 1 [] [0,1,2,3,4,5,8] [] [0,2,8,13,14,15] (oD (dPatternPat p1)<|oD (dT r42.2.2.2.2.2.1)<|oD (dT x48)<|oD (dC q2)<|oD (dE q1)<|oD (dI q4)<|oD (dI q3)<|oD (dE q0)<|oB 1 h51 k) (ih _ _ _ _ _ _ _ _ _ _ _ _ _ _ _ _ h)
  obtain⟨x52,h53,h⟩:=obind h
  have k:=oW 0 (wtE (x:=r42.2.1) (cs:=[ai r42.2.1.k,ai r42.2.1.n,slv tmCells r42.2.1.sub .no]) codecT (by rw[tm_eq];rfl) h53)<|oA 3 (ixM23 (b:=4) (c:=q10) (z:=3) h39)<|oK 1 [] h47 (c89 h46) k
  rcases spl h with⟨h54,h⟩|⟨h54,h⟩
  obtain rfl:=sj h
  exact fun j=>lF 0 [0,1,2,3,4] (oD (dT ([]:List Tm))<|oD (dT x52)<|oD (dC q2)<|oD (dE q1)<|oD (dI q4)<|oD (dI q3)<|oD (dE q0)<|oB 0 h54 k)
  obtain rfl:=sj h
  exact fun j=>lF 2 [0,1,2,3,4] (oD (dT ([]:List Tm))<|oD (dT x52)<|oD (dC q2)<|oD (dE q1)<|oD (dI q4)<|oD (dI q3)<|oD (dE q0)<|oB 0 h54 k)
  obtain⟨x55,h56,h⟩:=obind h
  have k:=oW 0 (wtE (x:=r42.2.1) (cs:=[ai r42.2.1.k,ai r42.2.1.n,slv tmCells r42.2.1.sub .no]) codecT (by rw[tm_eq];rfl) h56)<|oA 1 (ixM23 (b:=4) (c:=q10) (z:=3) h39)<|oB 4 h44 k
  rcases spl h with⟨h57,h⟩|⟨h57,h⟩
  obtain rfl:=sj h
  exact fun j=>lF 0 [0,1,2,3,4] (oD (dT ([]:List Tm))<|oD (dT x55)<|oD (dC q2)<|oD (dE q1)<|oD (dI q4)<|oD (dI q3)<|oD (dE q0)<|oB 0 h57 k)
  have k:=oB 0 h57 k
  rcases spl h with⟨h58,h⟩|⟨h58,h⟩
  obtain rfl:=sj h
  exact fun j=>lF 0 [0,1,2,3,4] (oD (dT ([]:List Tm))<|oD (dT x55)<|oD (dC q2)<|oD (dE q1)<|oD (dI q4)<|oD (dI q3)<|oD (dE q0)<|oB 1 h58 k)
  exact fun j=>lH 1 [] [0,1,2,3,4,5,8] [] [0,2,8,13,14,15] (oD (dPatternPat p1)<|oD (dT r42.2.2.2.2.2.1)<|oD (dT x55)<|oD (dC q2)<|oD (dE q1)<|oD (dI q4)<|oD (dI q3)<|oD (dE q0)<|oB 1 h58 k) (ih _ _ _ _ _ _ _ _ _ _ _ _ _ _ _ _ h)
  obtain⟨l59,h60,h⟩:=obind h
  obtain⟨h60a,h60b⟩:=gfz_spec h60
  obtain rfl:=sj h
  obtain rfl:=h60a.symm
  dsimp only
  rw[←h60b]
  exact fun j=>lF 1 [0,1,2,3,4,6] (oD (dT vb6_0)<|oD (dT vb4_0)<|oD (dC q2)<|oD (dE q1)<|oD (dI q4)<|oD (dI q3)<|oD (dE q0)<|oB 0 h35 o0)
theorem l121vadbLdd:∀qq:Nat,(∀q0 q1 q2 q3 q4 p1 q10 v15 vb0_2 vb3_0 vb3_1 vb4_0 r,e121vadbLdd qq q0 q1 q2 q3 q4 p1 q10 v15 vb0_2 vb3_0 vb3_1 vb4_0=some r->(∀j,Dl Tryz.prog 5 (inn (inn (rgt (lft (rgt (rgt (bod Tryz.f121))))))) (g121vadbLddE0 j q0 q1 q2 q3 q4 p1 q10 v15 vb0_2 vb3_0 vb3_1 vb4_0) (g121vadbLddS0 q0 q1 q2 q3 q4 p1 q10 v15 vb0_2 vb3_0 vb3_1 vb4_0) (frameQ Tryz.prog 5 ((match (generalizing:=false) r with|Sum.inl x=>FinQ Tryz.prog 5 Tryz.f121 (.tup [ai x.1,.sl (flat tmCells x.2.1) (List.length x.2.1) .no]) [.cells [.mp 1 0,.mp 3 0,ai x.2.2.1],.cells [slv entL q0 .no,.mp 2 0,slv intC q3 .no,slv intC q4 .no],.cells [slv entL q1 .no,slv conL q2 .no],.cells [ai x.2.2.2.1,ai x.2.2.2.2.1],.row (flat tmCells x.2.2.2.2.2)] 0|Sum.inr x=>FinQ Tryz.prog 5 Tryz.f121 (.tup [ai x.2.1,.ms 5 0 (List.length x.1) x.2.2.1 3]) [.cells [.mp 1 0,.mp 3 0,ai x.2.2.2.1],.cells [slv entL q0 .no,.mp 2 0,slv intC q3 .no,slv intC q4 .no],.cells [slv entL q1 .no,slv conL q2 .no],.cells [ai x.2.2.2.2.1,ai x.2.2.2.2.2.1],.row (flat tmCells x.2.2.2.2.2.2),.row (flat tmCells x.1)] 0)) [.blk 0,.seq (rgt (rgt (rgt (bod Tryz.f121))))]))):=by
 intro qq
 induction qq with
 |zero=>
  exact fun _ _ _ _ _ _ _ _ _ _ _ _ _ h=>nn h
 |succ qq ih=>
  intro q0 q1 q2 q3 q4 p1 q10 v15 vb0_2 vb3_0 vb3_1 vb4_0 r h
  rw[e121vadbLdd]at h
  rcases spl h with⟨h1,h⟩|⟨h1,h⟩
  obtain⟨x2,h3,h⟩:=obind h
  obtain⟨x4,h5,h⟩:=obind h
  obtain⟨x6,h7,h⟩:=obind h
  obtain⟨r8,h9,h⟩:=obind h
  have k:=oG (a:=(.agg [ai x6.k,ai x6.n,slv tmCells x6.sub .no])) 0 (ldE codecT h7 (true,3) (val:=.agg [ai x6.k,ai x6.n,slv tmCells x6.sub .no]) (by rw[tm_eq];rfl))<|oA 3 (ixM23 (b:=4) (c:=q10) (z:=3) h5)<|oA 0 (ix106 (o:=.no) h3)<|oB 0 h1 o0
  rcases r8 with y10|y26
  dsimp only at h
  have k:=oC 0 [0,1,2,3,5] (c186vacw h9) k
  rcases spl h with⟨h11,h⟩|⟨h11,h⟩
  obtain⟨r12,h13,h⟩:=obind h
  have k:=oB 4 h11 k
  rcases spl h with⟨h14,h⟩|⟨h14,h⟩
  obtain⟨x15,h16,h⟩:=obind h
  have k:=oW 0 (wtE (x:=y10.2.1) (cs:=[ai y10.2.1.k,ai y10.2.1.n,slv tmCells y10.2.1.sub .no]) codecT (by rw[tm_eq];rfl) h16)<|oA 2 (ixM23 (b:=4) (c:=q10) (z:=3) h5)<|oK 1 [] h14 (c89 h13) k
  rcases spl h with⟨h17,h⟩|⟨h17,h⟩
  obtain rfl:=sj h
  exact fun j=>lF 0 [0,1,2,3,4] (oD (dT ([]:List Tm))<|oD (dT x15)<|oD (dC q2)<|oD (dE q1)<|oD (dI q4)<|oD (dI q3)<|oD (dE q0)<|oB 0 h17 k)
  have k:=oB 0 h17 k
  rcases spl h with⟨h18,h⟩|⟨h18,h⟩
  obtain rfl:=sj h
  exact fun j=>lF 0 [0,1,2,3,4] (oD (dT ([]:List Tm))<|oD (dT x15)<|oD (dC q2)<|oD (dE q1)<|oD (dI q4)<|oD (dI q3)<|oD (dE q0)<|oB 1 h18 k)
  exact fun j=>lH 1 [] [0,1,2,3,4,5] [] [0,2,8,13,14,15] (oD (dPatternPat p1)<|oD (dT ([]:List Tm))<|oD (dT x15)<|oD (dC q2)<|oD (dE q1)<|oD (dI q4)<|oD (dI q3)<|oD (dE q0)<|oB 1 h18 k) (ih _ _ _ _ _ _ _ _ _ _ _ _ _ h)
  obtain⟨x19,h20,h⟩:=obind h
  have k:=oW 0 (wtE (x:=y10.2.1) (cs:=[ai y10.2.1.k,ai y10.2.1.n,slv tmCells y10.2.1.sub .no]) codecT (by rw[tm_eq];rfl) h20)<|oA 3 (ixM23 (b:=4) (c:=q10) (z:=3) h5)<|oK 1 [] h14 (c89 h13) k
  rcases spl h with⟨h21,h⟩|⟨h21,h⟩
  obtain rfl:=sj h
  exact fun j=>lF 0 [0,1,2,3,4] (oD (dT ([]:List Tm))<|oD (dT x19)<|oD (dC q2)<|oD (dE q1)<|oD (dI q4)<|oD (dI q3)<|oD (dE q0)<|oB 0 h21 k)
  obtain rfl:=sj h
  exact fun j=>lF 2 [0,1,2,3,4] (oD (dT ([]:List Tm))<|oD (dT x19)<|oD (dC q2)<|oD (dE q1)<|oD (dI q4)<|oD (dI q3)<|oD (dE q0)<|oB 0 h21 k)
  obtain⟨x22,h23,h⟩:=obind h
  have k:=oW 0 (wtE (x:=y10.2.1) (cs:=[ai y10.2.1.k,ai y10.2.1.n,slv tmCells y10.2.1.sub .no]) codecT (by rw[tm_eq];rfl) h23)<|oA 1 (ixM23 (b:=4) (c:=q10) (z:=3) h5)<|oB 4 h11 k
  rcases spl h with⟨h24,h⟩|⟨h24,h⟩
  obtain rfl:=sj h
  exact fun j=>lF 0 [0,1,2,3,4] (oD (dT ([]:List Tm))<|oD (dT x22)<|oD (dC q2)<|oD (dE q1)<|oD (dI q4)<|oD (dI q3)<|oD (dE q0)<|oB 0 h24 k)
  have k:=oB 0 h24 k
  rcases spl h with⟨h25,h⟩|⟨h25,h⟩
  obtain rfl:=sj h
  exact fun j=>lF 0 [0,1,2,3,4] (oD (dT ([]:List Tm))<|oD (dT x22)<|oD (dC q2)<|oD (dE q1)<|oD (dI q4)<|oD (dI q3)<|oD (dE q0)<|oB 1 h25 k)
  exact fun j=>lH 1 [] [0,1,2,3,4,5] [] [0,2,8,13,14,15] (oD (dPatternPat p1)<|oD (dT ([]:List Tm))<|oD (dT x22)<|oD (dC q2)<|oD (dE q1)<|oD (dI q4)<|oD (dI q3)<|oD (dE q0)<|oB 1 h25 k) (ih _ _ _ _ _ _ _ _ _ _ _ _ _ h)
  dsimp only at h
  have k:=oC 0 [0,1,2,3,5] (c186vacw h9) k
  rcases spl h with⟨h27,h⟩|⟨h27,h⟩
  obtain⟨r28,h29,h⟩:=obind h
  have k:=oB 4 h27 k
  rcases spl h with⟨h30,h⟩|⟨h30,h⟩
  obtain⟨x31,h32,h⟩:=obind h
  have k:=oW 0 (wtE (x:=y26.2.1) (cs:=[ai y26.2.1.k,ai y26.2.1.n,slv tmCells y26.2.1.sub .no]) codecT (by rw[tm_eq];rfl) h32)<|oA 2 (ixM23 (b:=4) (c:=q10) (z:=3) h5)<|oK 1 [] h30 (c89 h29) k
  rcases spl h with⟨h33,h⟩|⟨h33,h⟩
  obtain rfl:=sj h
  exact fun j=>lF 0 [0,1,2,3,4] (oD (dT ([]:List Tm))<|oD (dT x31)<|oD (dC q2)<|oD (dE q1)<|oD (dI q4)<|oD (dI q3)<|oD (dE q0)<|oB 0 h33 k)
  have k:=oB 0 h33 k
  rcases spl h with⟨h34,h⟩|⟨h34,h⟩
  obtain rfl:=sj h
  exact fun j=>lF 0 [0,1,2,3,4] (oD (dT ([]:List Tm))<|oD (dT x31)<|oD (dC q2)<|oD (dE q1)<|oD (dI q4)<|oD (dI q3)<|oD (dE q0)<|oB 1 h34 k)
  exact fun j=>lH 1 [] [0,1,2,3,4,5,7] [] [0,2,8,13,14,15] (oD (dPatternPat p1)<|oD (dT y26.2.2.2.2.2.1)<|oD (dT x31)<|oD (dC q2)<|oD (dE q1)<|oD (dI q4)<|oD (dI q3)<|oD (dE q0)<|oB 1 h34 k) (l121vadbLdc _ _ _ _ _ _ _ _ _ _ _ _ _ _ _ _ _ h)
  obtain⟨x35,h36,h⟩:=obind h
  have k:=oW 0 (wtE (x:=y26.2.1) (cs:=[ai y26.2.1.k,ai y26.2.1.n,slv tmCells y26.2.1.sub .no]) codecT (by rw[tm_eq];rfl) h36)<|oA 3 (ixM23 (b:=4) (c:=q10) (z:=3) h5)<|oK 1 [] h30 (c89 h29) k
  rcases spl h with⟨h37,h⟩|⟨h37,h⟩
  obtain rfl:=sj h
  exact fun j=>lF 0 [0,1,2,3,4] (oD (dT ([]:List Tm))<|oD (dT x35)<|oD (dC q2)<|oD (dE q1)<|oD (dI q4)<|oD (dI q3)<|oD (dE q0)<|oB 0 h37 k)
  obtain rfl:=sj h
  exact fun j=>lF 2 [0,1,2,3,4] (oD (dT ([]:List Tm))<|oD (dT x35)<|oD (dC q2)<|oD (dE q1)<|oD (dI q4)<|oD (dI q3)<|oD (dE q0)<|oB 0 h37 k)
  obtain⟨x38,h39,h⟩:=obind h
  have k:=oW 0 (wtE (x:=y26.2.1) (cs:=[ai y26.2.1.k,ai y26.2.1.n,slv tmCells y26.2.1.sub .no]) codecT (by rw[tm_eq];rfl) h39)<|oA 1 (ixM23 (b:=4) (c:=q10) (z:=3) h5)<|oB 4 h27 k
  rcases spl h with⟨h40,h⟩|⟨h40,h⟩
  obtain rfl:=sj h
  exact fun j=>lF 0 [0,1,2,3,4] (oD (dT ([]:List Tm))<|oD (dT x38)<|oD (dC q2)<|oD (dE q1)<|oD (dI q4)<|oD (dI q3)<|oD (dE q0)<|oB 0 h40 k)
  have k:=oB 0 h40 k
  rcases spl h with⟨h41,h⟩|⟨h41,h⟩
  obtain rfl:=sj h
  exact fun j=>lF 0 [0,1,2,3,4] (oD (dT ([]:List Tm))<|oD (dT x38)<|oD (dC q2)<|oD (dE q1)<|oD (dI q4)<|oD (dI q3)<|oD (dE q0)<|oB 1 h41 k)
  exact fun j=>lH 1 [] [0,1,2,3,4,5,7] [] [0,2,8,13,14,15] (oD (dPatternPat p1)<|oD (dT y26.2.2.2.2.2.1)<|oD (dT x38)<|oD (dC q2)<|oD (dE q1)<|oD (dI q4)<|oD (dI q3)<|oD (dE q0)<|oB 1 h41 k) (l121vadbLdc _ _ _ _ _ _ _ _ _ _ _ _ _ _ _ _ _ h)
  obtain rfl:=sj h
  exact fun j=>lF 1 [0,1,2,3,4] (oD (dT ([]:List Tm))<|oD (dT vb4_0)<|oD (dC q2)<|oD (dE q1)<|oD (dI q4)<|oD (dI q3)<|oD (dE q0)<|oB 0 h1 o0)
theorem c121vadbr{qq q0 q1 q2 q3 q4 q5 q6 q7 p1 q9 q10 r}(h:e121vadb qq q0 q1 q2 q3 q4 q5 q6 q7 p1 q9 q10=some r):(match (generalizing:=false) r with|Sum.inl x=>K121vadbs0 q0 q1 q2 q3 q4 q5 q6 q7 p1 q9 q10 x Ct|Sum.inr x=>K121vadbs1 q0 q1 q2 q3 q4 q5 q6 q7 p1 q9 q10 x Ct):=by
 unfold e121vadb at h
 rcases r with y0|y1
 exact k121vadbs0 (tH q121vadb 1 [] [0,1,2,3,4,5] [] [0,2,8,13,14,15] (oD (dPatternPat p1)<|oD (dT ([]:List Tm))<|oD (dT q9)<|oD (dC q2)<|oD (dE q1)<|oD (dI q4)<|oD (dI q3)<|oD (dE q0) o0) (l121vadbLdd _ _ _ _ _ _ _ _ _ _ _ _ _ _ h))
 exact k121vadbs1 (tH q121vadb 1 [] [0,1,2,3,4,5] [] [0,2,8,13,14,15] (oD (dPatternPat p1)<|oD (dT ([]:List Tm))<|oD (dT q9)<|oD (dC q2)<|oD (dE q1)<|oD (dI q4)<|oD (dI q3)<|oD (dE q0) o0) (l121vadbLdd _ _ _ _ _ _ _ _ _ _ _ _ _ _ h))
theorem c121vadb{qq q0 q1 q2 q3 q4 q5 q6 q7 p1 q9 q10 r}(h:e121vadb qq q0 q1 q2 q3 q4 q5 q6 q7 p1 q9 q10=some r):(match (generalizing:=false) r with|Sum.inl x=>CT Tryz.prog 121 [.cells [.mp 1 0,.mp 3 0,ai q7],.cells [slv entL q0 .no,.mp 2 0,slv intC q3 .no,slv intC q4 .no],.cells [slv entL q1 .no,slv conL q2 .no],.cells [ai q5,ai q6],.row (flat tmCells q9)] [.mp 0 0,slv patternPatC p1 .no,.ms 4 0 q10 q10 3] (.tup [ai x.1,.sl (flat tmCells x.2.1) (List.length x.2.1) .no]) [.cells [.mp 1 0,.mp 3 0,ai x.2.2.1],.cells [slv entL q0 .no,.mp 2 0,slv intC q3 .no,slv intC q4 .no],.cells [slv entL q1 .no,slv conL q2 .no],.cells [ai x.2.2.2.1,ai x.2.2.2.2.1],.row (flat tmCells x.2.2.2.2.2)] 0|Sum.inr x=>CT Tryz.prog 121 [.cells [.mp 1 0,.mp 3 0,ai q7],.cells [slv entL q0 .no,.mp 2 0,slv intC q3 .no,slv intC q4 .no],.cells [slv entL q1 .no,slv conL q2 .no],.cells [ai q5,ai q6],.row (flat tmCells q9)] [.mp 0 0,slv patternPatC p1 .no,.ms 4 0 q10 q10 3] (.tup [ai x.2.1,.sl (flat tmCells x.1) (List.length x.1) .no]) [.cells [.mp 1 0,.mp 3 0,ai x.2.2.2.1],.cells [slv entL q0 .no,.mp 2 0,slv intC q3 .no,slv intC q4 .no],.cells [slv entL q1 .no,slv conL q2 .no],.cells [ai x.2.2.2.2.1,ai x.2.2.2.2.2.1],.row (flat tmCells x.2.2.2.2.2.2)] 0):=by
 have k:=c121vadbr h
 rcases r with y0|y1
 ·exact k
 ·exact CT.freeze (H1:=[.cells [.mp 1 0,.mp 3 0,ai y1.2.2.2.1],.cells [slv entL q0 .no,.mp 2 0,slv intC q3 .no,slv intC q4 .no],.cells [slv entL q1 .no,slv conL q2 .no],.cells [ai y1.2.2.2.2.1,ai y1.2.2.2.2.2.1],.row (flat tmCells y1.2.2.2.2.2.2)]) (cs:=flat tmCells y1.1) (res':=(.tup [ai y1.2.1,.sl (flat tmCells y1.1) (List.length y1.1) .no])) k (Nat.le_of_ble_eq_true rfl) (forall_cons ⟨(lz rfl),(lz rfl),tv,tv⟩ (forall_cons ⟨dE _,(lz rfl),dI _,dI _,tv⟩ (forall_cons ⟨dE _,dC _,tv⟩ (forall_cons ⟨tv,tv,tv⟩ (forall_cons (dT _) forall_nil))))) (dT _) ⟨trivial,(.inl ⟨rfl,rfl⟩),tv⟩ (by rfl) rfl
def e54Lde:Nat->Mach->Int->(List Tm)->Int->Int->Int->Int->Int->(List Tm)->Int->(List Tm)->Option ((ClauseDone×Int×Int×Int) ⊕ (List Tm×Int×Int×Int×List Tm×Int×Int×Int))
 |0,_,_,_,_,_,_,_,_,_,_,_=>none
 |qq+1,M,v35,v85,v86,vb2_0,vb2_1,vb4_2,vb4_3,vb4_4,v87,vb5_0=>
 if decide (v87<v86)then
 gidx v85 v87>>=fun x26=>
 e123 qq x26>>=fun r28=>
 gapp 40 vb5_0 [r28]>>=fun l30=>
 e54Lde qq M v35 v85 v86 vb2_0 vb2_1 vb4_2 vb4_3 vb4_4 (w64 (v87+1)) l30
 else
 gfz (List.length vb5_0) vb5_0>>=fun l32=>
 some (Sum.inr (l32,v35,vb4_2,vb4_3,vb4_4,0,vb2_0,vb2_1))
def e54Ldf(qq:Nat)(M:Mach)(v35:Int)(v85:List Tm)(v86 v87 vb2_0 vb2_1 vb4_2 vb4_3:Int)(vb4_4:List Tm):Option ((ClauseDone×Int×Int×Int) ⊕ (List Tm×Int×Int×Int×List Tm×Int×Int×Int)):=
 if decide (v87<v86)then
 gidx v85 v87>>=fun x19=>
 e123 qq x19>>=fun r21=>
 gapp 40 ([]:List Tm) [r21]>>=fun l23=>
 e54Lde qq M v35 v85 v86 vb2_0 vb2_1 vb4_2 vb4_3 vb4_4 (w64 (v87+1)) l23
 else
 some (Sum.inl ((ClauseDone.mk v35 [] (Tm.mk vb4_2 vb4_3 vb4_4)),0,vb2_0,vb2_1))
def e54Ldg:Nat->Mach->(List ClauseClause)->Int->Int->Int->Option ((ClauseDone×Int×Int×Int) ⊕ (List Tm×Int×Int×Int×List Tm×Int×Int×Int))
 |0,_,_,_,_,_=>none
 |qq+1,M,p1,fl,fu,v35=>
 if decide (v35<(List.length p1:Int))then
 gidx p1 v35>>=fun x8=>
 e121vacz qq M.l M.rl M.parts M.args M.own fl fu 0 x8.pats_ []>>=fun r10=>
 if r10.1==1 then
 e54Ldg qq M p1 fl fu (w64 (v35+1))
 else
 if r10.1==2 then
 some (Sum.inl ((ClauseDone.mk 0 [] (Tm.mk 0 0 [])),13,fl,fu))
 else
 if x8.has_ then
 e122 qq x8.body_ r10.2>>=fun r15=>
 if r15.2 != 0 then
 some (Sum.inl ((ClauseDone.mk 0 [] (Tm.mk 0 0 [])),r15.2,fl,fu))
 else
 e54Ldf qq M v35 r10.2 (List.length r10.2:Int) 0 fl fu r15.1.k r15.1.n r15.1.sub
 else
 some (Sum.inl ((ClauseDone.mk 0 [] (Tm.mk 0 0 [])),13,fl,fu))
 else
 some (Sum.inl ((ClauseDone.mk 0 [] (Tm.mk 0 0 [])),16,fl,fu))
def e54Ldh:Nat->Mach->(List ClauseClause)->(List Tm)->Int->Int->Int->Int->(List Tm)->Option ((ClauseDone×Int×Int×Int) ⊕ (List Tm×Int×Int×Int×List Tm×Int×Int×Int))
 |0,_,_,_,_,_,_,_,_=>none
 |qq+1,M,p1,y7,v35,vb2_0,vb2_1,vb4_2,vb5_0=>
 if decide (v35<(List.length p1:Int))then
 gidx p1 v35>>=fun x9=>
 e121vadb qq M.l M.rl M.parts M.args M.own vb2_0 vb2_1 vb4_2 x9.pats_ vb5_0 (List.length y7)>>=fun r11=>
 match r11 with
 |Sum.inl y13=>
  if y13.2.2.1 != 0 then
  some (Sum.inl ((ClauseDone.mk 0 [] (Tm.mk 0 0 [])),y13.2.2.1,y13.2.2.2.1,y13.2.2.2.2.1))
  else
  if y13.1==1 then
  e54Ldh qq M p1 y7 (w64 (v35+1)) y13.2.2.2.1 y13.2.2.2.2.1 y13.2.2.1 y13.2.2.2.2.2
  else
  if y13.1==2 then
  some (Sum.inl ((ClauseDone.mk 0 [] (Tm.mk 0 0 [])),13,y13.2.2.2.1,y13.2.2.2.2.1))
  else
  if x9.has_ then
  e122 qq x9.body_ y13.2.1>>=fun r18=>
  if r18.2 != 0 then
  some (Sum.inl ((ClauseDone.mk 0 [] (Tm.mk 0 0 [])),r18.2,y13.2.2.2.1,y13.2.2.2.2.1))
  else
  e54Ldf qq M v35 y13.2.1 (List.length y13.2.1:Int) 0 y13.2.2.2.1 y13.2.2.2.2.1 r18.1.k r18.1.n r18.1.sub
  else
  some (Sum.inl ((ClauseDone.mk 0 [] (Tm.mk 0 0 [])),13,y13.2.2.2.1,y13.2.2.2.2.1))
 |Sum.inr y21=>
  if y21.2.2.2.1 != 0 then
  some (Sum.inl ((ClauseDone.mk 0 [] (Tm.mk 0 0 [])),y21.2.2.2.1,y21.2.2.2.2.1,y21.2.2.2.2.2.1))
  else
  if y21.2.1==1 then
  e54Ldh qq M p1 y7 (w64 (v35+1)) y21.2.2.2.2.1 y21.2.2.2.2.2.1 y21.2.2.2.1 y21.2.2.2.2.2.2
  else
  if y21.2.1==2 then
  some (Sum.inl ((ClauseDone.mk 0 [] (Tm.mk 0 0 [])),13,y21.2.2.2.2.1,y21.2.2.2.2.2.1))
  else
  if x9.has_ then
  e122 qq x9.body_ y21.1>>=fun r26=>
  if r26.2 != 0 then
  some (Sum.inl ((ClauseDone.mk 0 [] (Tm.mk 0 0 [])),r26.2,y21.2.2.2.2.1,y21.2.2.2.2.2.1))
  else
  e54Ldf qq M v35 y21.1 (List.length y21.1:Int) 0 y21.2.2.2.2.1 y21.2.2.2.2.2.1 r26.1.k r26.1.n r26.1.sub
  else
  some (Sum.inl ((ClauseDone.mk 0 [] (Tm.mk 0 0 [])),13,y21.2.2.2.2.1,y21.2.2.2.2.2.1))
 else
 some (Sum.inl ((ClauseDone.mk 0 [] (Tm.mk 0 0 [])),16,vb2_0,vb2_1))
def e54(qq:Nat)(M:Mach)(p1:List ClauseClause)(p2:List Tm)(fl fu:Int):Option ((ClauseDone×Int×Int×Int) ⊕ (List Tm×Int×Int×Int×List Tm×Int×Int×Int)):=
 e119 qq M p1 p2>>=fun r1=>
 if r1 then
 e120vr qq p2>>=fun r4=>
 match r4 with
 |Sum.inl y6=>
  e54Ldg qq M p1 fl fu 0
 |Sum.inr y7=>
  e54Ldh qq M p1 y7 0 fl fu 0 y7
 else
 some (Sum.inl ((ClauseDone.mk 0 [] (Tm.mk 0 0 [])),5,fl,fu))
def g54LdgE0(j:Nat->Value)(M:Mach)(p1:List ClauseClause)(fl fu v35:Int):=sp j 102 0 [(8,.mp 3 0),(10,.mp 4 0),(11,slv tmCells ([]:List Tm) .full),(33,slv clauseClauseL p1 .no),(34,ai (List.length p1:Int)),(35,ai v35)]
def g54LdgS0(M:Mach)(p1:List ClauseClause)(fl fu v35:Int):LSt:=⟨[(0,mB M 1),(1,mR M),(2,.cells [ai fl,ai fu]),(3,.cells [ai 0,slv tmCells ([]:List Tm) .nl,ai 0,ai 0,slv tmCells ([]:List Tm) .nl]),(4,.cells [.mp 0 0,.mp 2 0,ai 0])],5,[],0,[]⟩
def g54LdfE0(j:Nat->Value)(M:Mach)(v35:Int)(v85:List Tm)(v86 v87 vb2_0 vb2_1 vb4_2 vb4_3:Int)(vb4_4:List Tm):=sp j 102 0 [(8,.mp 3 0),(18,.mp 4 0),(85,slv tmCells v85 .no),(86,ai v86),(87,ai v87)]
def g54LdfS0(M:Mach)(v35:Int)(v85:List Tm)(v86 v87 vb2_0 vb2_1 vb4_2 vb4_3:Int)(vb4_4:List Tm):LSt:=⟨[(0,mB M 1),(1,mR M),(2,.cells [ai vb2_0,ai vb2_1]),(3,.cells [ai 0,slv tmCells ([]:List Tm) .nl,ai 0,ai 0,slv tmCells ([]:List Tm) .nl]),(4,.cells [ai v35,slv tmCells ([]:List Tm) .nl,ai vb4_2,ai vb4_3,slv tmCells vb4_4 .no])],5,[],0,[]⟩
def g54LdeE0(j:Nat->Value)(M:Mach)(v35:Int)(v85:List Tm)(v86 vb2_0 vb2_1 vb4_2 vb4_3:Int)(vb4_4:List Tm)(v87:Int)(vb5_0:List Tm):=sp j 102 0 [(8,.mp 3 0),(18,.mp 4 0),(85,slv tmCells v85 .no),(86,ai v86),(87,ai v87)]
def g54LdeS0(M:Mach)(v35:Int)(v85:List Tm)(v86 vb2_0 vb2_1 vb4_2 vb4_3:Int)(vb4_4:List Tm)(v87:Int)(vb5_0:List Tm):LSt:=⟨[(0,mB M 1),(1,mR M),(2,.cells [ai vb2_0,ai vb2_1]),(3,.cells [ai 0,slv tmCells ([]:List Tm) .nl,ai 0,ai 0,slv tmCells ([]:List Tm) .nl]),(4,.cells [ai v35,.ms 5 0 (List.length vb5_0) (List.length vb5_0) 3,ai vb4_2,ai vb4_3,slv tmCells vb4_4 .no]),(5,.row (flat tmCells vb5_0))],6,[],0,[]⟩
def g54LdhE0(j:Nat->Value)(M:Mach)(p1:List ClauseClause)(y7:List Tm)(v35 vb2_0 vb2_1 vb4_2:Int)(vb5_0:List Tm):=sp j 102 0 [(8,.mp 3 0),(10,.mp 4 0),(11,.ms 5 0 (List.length y7) (List.length y7) 3),(33,slv clauseClauseL p1 .no),(34,ai (List.length p1:Int)),(35,ai v35)]
def g54LdhS0(M:Mach)(p1:List ClauseClause)(y7:List Tm)(v35 vb2_0 vb2_1 vb4_2:Int)(vb5_0:List Tm):LSt:=⟨[(0,mB M 1),(1,mR M),(2,.cells [ai vb2_0,ai vb2_1]),(3,.cells [ai 0,slv tmCells ([]:List Tm) .nl,ai 0,ai 0,slv tmCells ([]:List Tm) .nl]),(4,.cells [.mp 0 0,.mp 2 0,ai vb4_2]),(5,.row (flat tmCells vb5_0))],6,[],0,[]⟩
abbrev K54s0 (M:Mach) (p1:List ClauseClause) (p2:List Tm) (fl fu:Int) (r:ClauseDone×Int×Int×Int) (C:Cf):Prop:=C 54 [mB M 1,mR M,.cells [ai fl,ai fu]] [.mp 0 0,slv clauseClauseL p1 .no,slv tmCells p2 .no,.mp 2 0] (.tup [clauseDoneA r.1,ai r.2.1]) [mB M 1,mR M,.cells [ai r.2.2.1,ai r.2.2.2]] 0
abbrev K54s1 (M:Mach) (p1:List ClauseClause) (p2:List Tm) (fl fu:Int) (r:List Tm×Int×Int×Int×List Tm×Int×Int×Int) (C:Cf):Prop:=C 54 [mB M 1,mR M,.cells [ai fl,ai fu]] [.mp 0 0,slv clauseClauseL p1 .no,slv tmCells p2 .no,.mp 2 0] (.tup [.agg [ai r.2.1,.ms 3 0 (List.length r.1) (List.length r.1) 3,ai r.2.2.1,ai r.2.2.2.1,slv tmCells r.2.2.2.2.1 .no],ai r.2.2.2.2.2.1]) [mB M 1,mR M,.cells [ai r.2.2.2.2.2.2.1,ai r.2.2.2.2.2.2.2],.row (flat tmCells r.1)] 0
theorem q54:Qf 54 Tryz.f54:=⟨Tryz.func54,by kernel_rfl⟩
theorem k54s0{M p1 p2 fl fu r}(h:K54s0 M p1 p2 fl fu r Ci):K54s0 M p1 p2 fl fu r Ct:=⟨h,⟨(lz rfl),⟨tv,dClauseClause _⟩,⟨tv,dT _⟩,(lz rfl),tv⟩,(forall_cons ⟨⟨tv,dE _⟩,(lz rfl),⟨tv,dI _⟩,⟨tv,dI _⟩,tv⟩ (forall_cons ⟨⟨tv,dE _⟩,⟨tv,dC _⟩,tv⟩ (forall_cons ⟨tv,tv,tv⟩ forall_nil))),⟨⟨tv,dT _,tv,tv,dT _,tv⟩,tv,tv⟩,(forall_cons ⟨dE _,(lz rfl),dI _,dI _,tv⟩ (forall_cons ⟨dE _,dC _,tv⟩ (forall_cons ⟨tv,tv,tv⟩ forall_nil)))⟩
theorem k54s1{M p1 p2 fl fu r}(h:K54s1 M p1 p2 fl fu r Ci):K54s1 M p1 p2 fl fu r Ct:=⟨h,⟨(lz rfl),⟨tv,dClauseClause _⟩,⟨tv,dT _⟩,(lz rfl),tv⟩,(forall_cons ⟨⟨tv,dE _⟩,(lz rfl),⟨tv,dI _⟩,⟨tv,dI _⟩,tv⟩ (forall_cons ⟨⟨tv,dE _⟩,⟨tv,dC _⟩,tv⟩ (forall_cons ⟨tv,tv,tv⟩ forall_nil))),⟨⟨tv,(lz rfl),tv,tv,dT _,tv⟩,tv,tv⟩,(forall_cons ⟨dE _,(lz rfl),dI _,dI _,tv⟩ (forall_cons ⟨dE _,dC _,tv⟩ (forall_cons ⟨tv,tv,tv⟩ (forall_cons (dT _) forall_nil))))⟩
theorem l54Lde:∀qq:Nat,(∀M v35 v85 v86 vb2_0 vb2_1 vb4_2 vb4_3 vb4_4 v87 vb5_0 r,e54Lde qq M v35 v85 v86 vb2_0 vb2_1 vb4_2 vb4_3 vb4_4 v87 vb5_0=some r->(∀j,Dl Tryz.prog 3 (inn (inn (rgt (lft (rgt (rgt (rgt (rgt (rgt (rgt (inn (lft (rgt (rgt (inn (inn (rgt (lft (rgt (rgt (rgt (rgt (inn (rgt (bod Tryz.f54))))))))))))))))))))))))) (g54LdeE0 j M v35 v85 v86 vb2_0 vb2_1 vb4_2 vb4_3 vb4_4 v87 vb5_0) (g54LdeS0 M v35 v85 v86 vb2_0 vb2_1 vb4_2 vb4_3 vb4_4 v87 vb5_0) (frameQ Tryz.prog 3 ((match (generalizing:=false) r with|Sum.inl x=>FinQ Tryz.prog 3 Tryz.f54 (.tup [clauseDoneA x.1,ai x.2.1]) [mB M 1,mR M,.cells [ai x.2.2.1,ai x.2.2.2]] 0|Sum.inr x=>FinQ Tryz.prog 3 Tryz.f54 (.tup [.agg [ai x.2.1,.ms 3 0 (List.length x.1) (List.length x.1) 3,ai x.2.2.1,ai x.2.2.2.1,slv tmCells x.2.2.2.2.1 .no],ai x.2.2.2.2.2.1]) [mB M 1,mR M,.cells [ai x.2.2.2.2.2.2.1,ai x.2.2.2.2.2.2.2],.row (flat tmCells x.1)] 0)) [.blk 3,.seq (rgt (rgt (rgt (rgt (rgt (rgt (rgt (inn (lft (rgt (rgt (inn (inn (rgt (lft (rgt (rgt (rgt (rgt (inn (rgt (bod Tryz.f54)))))))))))))))))))))),.blk 1,.seq (rgt (rgt (rgt (inn (inn (rgt (lft (rgt (rgt (rgt (rgt (inn (rgt (bod Tryz.f54)))))))))))))),.loop (inn (inn (rgt (lft (rgt (rgt (rgt (rgt (inn (rgt (bod Tryz.f54))))))))))),.blk 0,.seq (rgt (rgt (rgt (rgt (rgt (inn (rgt (bod Tryz.f54))))))))]))):=by
 intro qq
 induction qq with
 |zero=>
  exact fun _ _ _ _ _ _ _ _ _ _ _ _ h=>nn h
 |succ qq ih=>
  intro M v35 v85 v86 vb2_0 vb2_1 vb4_2 vb4_3 vb4_4 v87 vb5_0 r h
  rw[e54Lde]at h
  rcases spl h with⟨h25,h⟩|⟨h25,h⟩
  obtain⟨x26,h27,h⟩:=obind h
  obtain⟨r28,h29,h⟩:=obind h
  obtain⟨l30,h31,h⟩:=obind h
  exact fun j=>lH 2 [] [0,1,2,3,4,7] [] [8,18,85,86,87] (oD (dT v85)<|oD (dT l30)<|oD (dT vb4_4)<|oD (dT ([]:List Tm))<|oD (dT ([]:List Tm))<|oD (dC M.parts)<|oD (dE M.rl)<|oD (dI M.own)<|oD (dI M.args)<|oD (dE M.l)<|oM 0 (apR23 h31 (by simp))<|oS 0 (obLitR tm_eq [r28])<|oC 4 [] (c123 h29)<|oA 0 (ix23 (o:=.no) h27)<|oB 0 h25 o0) (ih _ _ _ _ _ _ _ _ _ _ _ _ h)
  obtain⟨l32,h33,h⟩:=obind h
  obtain⟨h33a,h33b⟩:=gfz_spec h33
  obtain rfl:=sj h
  obtain rfl:=h33a.symm
  dsimp only
  rw[←h33b]
  exact fun j=>lF 2 [0,1,2,5] (oD (dT vb4_4)<|oD (dT vb5_0)<|oD (dC M.parts)<|oD (dE M.rl)<|oD (dI M.own)<|oD (dI M.args)<|oD (dE M.l)<|oB 0 h25 o0)
theorem l54Ldf(qq M v35 v85 v86 v87 vb2_0 vb2_1 vb4_2 vb4_3 vb4_4 r)(h:e54Ldf qq M v35 v85 v86 v87 vb2_0 vb2_1 vb4_2 vb4_3 vb4_4=some r):(∀j,Dl Tryz.prog 3 (inn (inn (rgt (lft (rgt (rgt (rgt (rgt (rgt (rgt (inn (lft (rgt (rgt (inn (inn (rgt (lft (rgt (rgt (rgt (rgt (inn (rgt (bod Tryz.f54))))))))))))))))))))))))) (g54LdfE0 j M v35 v85 v86 v87 vb2_0 vb2_1 vb4_2 vb4_3 vb4_4) (g54LdfS0 M v35 v85 v86 v87 vb2_0 vb2_1 vb4_2 vb4_3 vb4_4) (frameQ Tryz.prog 3 ((match (generalizing:=false) r with|Sum.inl x=>FinQ Tryz.prog 3 Tryz.f54 (.tup [clauseDoneA x.1,ai x.2.1]) [mB M 1,mR M,.cells [ai x.2.2.1,ai x.2.2.2]] 0|Sum.inr x=>FinQ Tryz.prog 3 Tryz.f54 (.tup [.agg [ai x.2.1,.ms 3 0 (List.length x.1) (List.length x.1) 3,ai x.2.2.1,ai x.2.2.2.1,slv tmCells x.2.2.2.2.1 .no],ai x.2.2.2.2.2.1]) [mB M 1,mR M,.cells [ai x.2.2.2.2.2.2.1,ai x.2.2.2.2.2.2.2],.row (flat tmCells x.1)] 0)) [.blk 3,.seq (rgt (rgt (rgt (rgt (rgt (rgt (rgt (inn (lft (rgt (rgt (inn (inn (rgt (lft (rgt (rgt (rgt (rgt (inn (rgt (bod Tryz.f54)))))))))))))))))))))),.blk 1,.seq (rgt (rgt (rgt (inn (inn (rgt (lft (rgt (rgt (rgt (rgt (inn (rgt (bod Tryz.f54)))))))))))))),.loop (inn (inn (rgt (lft (rgt (rgt (rgt (rgt (inn (rgt (bod Tryz.f54))))))))))),.blk 0,.seq (rgt (rgt (rgt (rgt (rgt (inn (rgt (bod Tryz.f54))))))))])):=by
 unfold e54Ldf at h
 rcases spl h with⟨h18,h⟩|⟨h18,h⟩
 obtain⟨x19,h20,h⟩:=obind h
 obtain⟨r21,h22,h⟩:=obind h
 obtain⟨l23,h24,h⟩:=obind h
 exact fun j=>lH 2 [] [0,1,2,3,4,6] [] [8,18,85,86,87] (oD (dT v85)<|oD (dT l23)<|oD (dT vb4_4)<|oD (dT ([]:List Tm))<|oD (dT ([]:List Tm))<|oD (dC M.parts)<|oD (dE M.rl)<|oD (dI M.own)<|oD (dI M.args)<|oD (dE M.l)<|oM 0 (apW23 h24 (by simp))<|oS 0 (obLitR tm_eq [r21])<|oC 4 [] (c123 h22)<|oA 0 (ix23 (o:=.no) h20)<|oB 0 h18 o0) (l54Lde _ _ _ _ _ _ _ _ _ _ _ _ _ h)
 obtain rfl:=sj h
 exact fun j=>lF 2 [0,1,2] (oD (dT vb4_4)<|oD (dT ([]:List Tm))<|oD (dC M.parts)<|oD (dE M.rl)<|oD (dI M.own)<|oD (dI M.args)<|oD (dE M.l)<|oB 0 h18 o0)
theorem l54Ldg:∀qq:Nat,(∀M p1 fl fu v35 r,e54Ldg qq M p1 fl fu v35=some r->(∀j,Dl Tryz.prog 3 (inn (inn (rgt (lft (rgt (rgt (rgt (rgt (inn (rgt (bod Tryz.f54))))))))))) (g54LdgE0 j M p1 fl fu v35) (g54LdgS0 M p1 fl fu v35) (frameQ Tryz.prog 3 ((match (generalizing:=false) r with|Sum.inl x=>FinQ Tryz.prog 3 Tryz.f54 (.tup [clauseDoneA x.1,ai x.2.1]) [mB M 1,mR M,.cells [ai x.2.2.1,ai x.2.2.2]] 0|Sum.inr x=>FinQ Tryz.prog 3 Tryz.f54 (.tup [.agg [ai x.2.1,.ms 3 0 (List.length x.1) (List.length x.1) 3,ai x.2.2.1,ai x.2.2.2.1,slv tmCells x.2.2.2.2.1 .no],ai x.2.2.2.2.2.1]) [mB M 1,mR M,.cells [ai x.2.2.2.2.2.2.1,ai x.2.2.2.2.2.2.2],.row (flat tmCells x.1)] 0)) [.blk 0,.seq (rgt (rgt (rgt (rgt (rgt (inn (rgt (bod Tryz.f54))))))))]))):=by
 intro qq
 induction qq with
 |zero=>
  exact fun _ _ _ _ _ _ h=>nn h
 |succ qq ih=>
  intro M p1 fl fu v35 r h
  rw[e54Ldg]at h
  rcases spl h with⟨h7,h⟩|⟨h7,h⟩
  obtain⟨x8,h9,h⟩:=obind h
  obtain⟨r10,h11,h⟩:=obind h
  have k:=oC 3 [4,0,1,2] (c121vacz h11)<|oA 0 (ix91 (o:=.no) h9)<|oB 0 h7 o0
  rcases spl h with⟨h12,h⟩|⟨h12,h⟩
  exact fun j=>lH 1 [] [0,1,2,3,4] [] [8,10,11,33,34,35] (oD (dClauseClause p1)<|oD (dT ([]:List Tm))<|oD (dT ([]:List Tm))<|oD (dT ([]:List Tm))<|oD (dC M.parts)<|oD (dE M.rl)<|oD (dI M.own)<|oD (dI M.args)<|oD (dE M.l)<|oB 4 h12 k) (ih _ _ _ _ _ _ h)
  have k:=oB 4 h12 k
  rcases spl h with⟨h13,h⟩|⟨h13,h⟩
  obtain rfl:=sj h
  exact fun j=>lF 1 [0,1,2] (oD (dT ([]:List Tm))<|oD (dT ([]:List Tm))<|oD (dC M.parts)<|oD (dE M.rl)<|oD (dI M.own)<|oD (dI M.args)<|oD (dE M.l)<|oB 0 h13 k)
  have k:=oB 0 h13 k
  rcases spl h with⟨h14,h⟩|⟨h14,h⟩
  obtain⟨r15,h16,h⟩:=obind h
  have k:=oC 2 [] (c122 h16)<|oB 0 h14 k
  rcases spl h with⟨h17,h⟩|⟨h17,h⟩
  obtain rfl:=sj h
  exact fun j=>lF 1 [0,1,2] (oD (dT ([]:List Tm))<|oD (dT ([]:List Tm))<|oD (dC M.parts)<|oD (dE M.rl)<|oD (dI M.own)<|oD (dI M.args)<|oD (dE M.l)<|oB 3 h17 k)
  exact fun j=>lH 3 [] [0,1,2,3,7] [] [8,18,85,86,87] (oD (dT r10.2)<|oD (dT r15.1.sub)<|oD (dT ([]:List Tm))<|oD (dT ([]:List Tm))<|oD (dT ([]:List Tm))<|oD (dC M.parts)<|oD (dE M.rl)<|oD (dI M.own)<|oD (dI M.args)<|oD (dE M.l)<|oB 3 h17 k) (l54Ldf qq _ _ _ _ _ _ _ _ _ _ _ h)
  obtain rfl:=sj h
  exact fun j=>lF 2 [0,1,2] (oD (dT ([]:List Tm))<|oD (dT ([]:List Tm))<|oD (dC M.parts)<|oD (dE M.rl)<|oD (dI M.own)<|oD (dI M.args)<|oD (dE M.l)<|oB 0 h14 k)
  obtain rfl:=sj h
  exact fun j=>lF 1 [0,1,2] (oD (dT ([]:List Tm))<|oD (dT ([]:List Tm))<|oD (dC M.parts)<|oD (dE M.rl)<|oD (dI M.own)<|oD (dI M.args)<|oD (dE M.l)<|oB 0 h7 o0)
theorem l54Ldh:∀qq:Nat,(∀M p1 y7 v35 vb2_0 vb2_1 vb4_2 vb5_0 r,e54Ldh qq M p1 y7 v35 vb2_0 vb2_1 vb4_2 vb5_0=some r->(∀j,Dl Tryz.prog 3 (inn (inn (rgt (lft (rgt (rgt (rgt (rgt (inn (rgt (bod Tryz.f54))))))))))) (g54LdhE0 j M p1 y7 v35 vb2_0 vb2_1 vb4_2 vb5_0) (g54LdhS0 M p1 y7 v35 vb2_0 vb2_1 vb4_2 vb5_0) (frameQ Tryz.prog 3 ((match (generalizing:=false) r with|Sum.inl x=>FinQ Tryz.prog 3 Tryz.f54 (.tup [clauseDoneA x.1,ai x.2.1]) [mB M 1,mR M,.cells [ai x.2.2.1,ai x.2.2.2]] 0|Sum.inr x=>FinQ Tryz.prog 3 Tryz.f54 (.tup [.agg [ai x.2.1,.ms 3 0 (List.length x.1) (List.length x.1) 3,ai x.2.2.1,ai x.2.2.2.1,slv tmCells x.2.2.2.2.1 .no],ai x.2.2.2.2.2.1]) [mB M 1,mR M,.cells [ai x.2.2.2.2.2.2.1,ai x.2.2.2.2.2.2.2],.row (flat tmCells x.1)] 0)) [.blk 0,.seq (rgt (rgt (rgt (rgt (rgt (inn (rgt (bod Tryz.f54))))))))]))):=by
 intro qq
 induction qq with
 |zero=>
  exact fun _ _ _ _ _ _ _ _ _ h=>nn h
 |succ qq ih=>
  intro M p1 y7 v35 vb2_0 vb2_1 vb4_2 vb5_0 r h
  rw[e54Ldh]at h
  rcases spl h with⟨h8,h⟩|⟨h8,h⟩
  obtain⟨x9,h10,h⟩:=obind h
  obtain⟨r11,h12,h⟩:=obind h
  have k:=oA 0 (ix91 (o:=.no) h10)<|oB 0 h8 o0
  rcases r11 with y13|y21
  dsimp only at h
  have k:=oC 3 [4,0,1,2,5] (c121vadb h12) k
  rcases spl h with⟨h14,h⟩|⟨h14,h⟩
  obtain rfl:=sj h
  exact fun j=>lF 2 [0,1,2] (oD (dT ([]:List Tm))<|oD (dT ([]:List Tm))<|oD (dC M.parts)<|oD (dE M.rl)<|oD (dI M.own)<|oD (dI M.args)<|oD (dE M.l)<|oB 3 h14 k)
  have k:=oB 3 h14 k
  rcases spl h with⟨h15,h⟩|⟨h15,h⟩
  exact fun j=>lH 1 [] [0,1,2,3,4,5] [] [8,10,11,33,34,35] (oD (dClauseClause p1)<|oD (dT y13.2.2.2.2.2)<|oD (dT ([]:List Tm))<|oD (dT ([]:List Tm))<|oD (dC M.parts)<|oD (dE M.rl)<|oD (dI M.own)<|oD (dI M.args)<|oD (dE M.l)<|oB 0 h15 k) (ih _ _ _ _ _ _ _ _ _ h)
  have k:=oB 0 h15 k
  rcases spl h with⟨h16,h⟩|⟨h16,h⟩
  obtain rfl:=sj h
  exact fun j=>lF 1 [0,1,2] (oD (dT ([]:List Tm))<|oD (dT ([]:List Tm))<|oD (dC M.parts)<|oD (dE M.rl)<|oD (dI M.own)<|oD (dI M.args)<|oD (dE M.l)<|oB 0 h16 k)
  have k:=oB 0 h16 k
  rcases spl h with⟨h17,h⟩|⟨h17,h⟩
  obtain⟨r18,h19,h⟩:=obind h
  have k:=oC 2 [] (c122 h19)<|oB 0 h17 k
  rcases spl h with⟨h20,h⟩|⟨h20,h⟩
  obtain rfl:=sj h
  exact fun j=>lF 1 [0,1,2] (oD (dT ([]:List Tm))<|oD (dT ([]:List Tm))<|oD (dC M.parts)<|oD (dE M.rl)<|oD (dI M.own)<|oD (dI M.args)<|oD (dE M.l)<|oB 3 h20 k)
  exact fun j=>lH 3 [] [0,1,2,3,8] [] [8,18,85,86,87] (oD (dT y13.2.1)<|oD (dT r18.1.sub)<|oD (dT ([]:List Tm))<|oD (dT ([]:List Tm))<|oD (dT ([]:List Tm))<|oD (dC M.parts)<|oD (dE M.rl)<|oD (dI M.own)<|oD (dI M.args)<|oD (dE M.l)<|oB 3 h20 k) (l54Ldf qq _ _ _ _ _ _ _ _ _ _ _ h)
  obtain rfl:=sj h
  exact fun j=>lF 2 [0,1,2] (oD (dT ([]:List Tm))<|oD (dT ([]:List Tm))<|oD (dC M.parts)<|oD (dE M.rl)<|oD (dI M.own)<|oD (dI M.args)<|oD (dE M.l)<|oB 0 h17 k)
  dsimp only at h
  have k:=oC 3 [4,0,1,2,5] (c121vadb h12) k
  rcases spl h with⟨h22,h⟩|⟨h22,h⟩
  obtain rfl:=sj h
  exact fun j=>lF 2 [0,1,2] (oD (dT ([]:List Tm))<|oD (dT ([]:List Tm))<|oD (dC M.parts)<|oD (dE M.rl)<|oD (dI M.own)<|oD (dI M.args)<|oD (dE M.l)<|oB 3 h22 k)
  have k:=oB 3 h22 k
  rcases spl h with⟨h23,h⟩|⟨h23,h⟩
  exact fun j=>lH 1 [] [0,1,2,3,4,5] [] [8,10,11,33,34,35] (oD (dClauseClause p1)<|oD (dT y21.2.2.2.2.2.2)<|oD (dT ([]:List Tm))<|oD (dT ([]:List Tm))<|oD (dC M.parts)<|oD (dE M.rl)<|oD (dI M.own)<|oD (dI M.args)<|oD (dE M.l)<|oB 0 h23 k) (ih _ _ _ _ _ _ _ _ _ h)
  have k:=oB 0 h23 k
  rcases spl h with⟨h24,h⟩|⟨h24,h⟩
  obtain rfl:=sj h
  exact fun j=>lF 1 [0,1,2] (oD (dT ([]:List Tm))<|oD (dT ([]:List Tm))<|oD (dC M.parts)<|oD (dE M.rl)<|oD (dI M.own)<|oD (dI M.args)<|oD (dE M.l)<|oB 0 h24 k)
  have k:=oB 0 h24 k
  rcases spl h with⟨h25,h⟩|⟨h25,h⟩
  obtain⟨r26,h27,h⟩:=obind h
  have k:=oC 2 [] (c122 h27)<|oB 0 h25 k
  rcases spl h with⟨h28,h⟩|⟨h28,h⟩
  obtain rfl:=sj h
  exact fun j=>lF 1 [0,1,2] (oD (dT ([]:List Tm))<|oD (dT ([]:List Tm))<|oD (dC M.parts)<|oD (dE M.rl)<|oD (dI M.own)<|oD (dI M.args)<|oD (dE M.l)<|oB 3 h28 k)
  exact fun j=>lH 3 [] [0,1,2,3,8] [] [8,18,85,86,87] (oD (dT y21.1)<|oD (dT r26.1.sub)<|oD (dT ([]:List Tm))<|oD (dT ([]:List Tm))<|oD (dT ([]:List Tm))<|oD (dC M.parts)<|oD (dE M.rl)<|oD (dI M.own)<|oD (dI M.args)<|oD (dE M.l)<|oB 3 h28 k) (l54Ldf qq _ _ _ _ _ _ _ _ _ _ _ h)
  obtain rfl:=sj h
  exact fun j=>lF 2 [0,1,2] (oD (dT ([]:List Tm))<|oD (dT ([]:List Tm))<|oD (dC M.parts)<|oD (dE M.rl)<|oD (dI M.own)<|oD (dI M.args)<|oD (dE M.l)<|oB 0 h25 k)
  obtain rfl:=sj h
  exact fun j=>lF 1 [0,1,2] (oD (dT ([]:List Tm))<|oD (dT ([]:List Tm))<|oD (dC M.parts)<|oD (dE M.rl)<|oD (dI M.own)<|oD (dI M.args)<|oD (dE M.l)<|oB 0 h8 o0)
theorem c54r{qq M p1 p2 fl fu r}(h:e54 qq M p1 p2 fl fu=some r):(match (generalizing:=false) r with|Sum.inl x=>K54s0 M p1 p2 fl fu x Ct|Sum.inr x=>K54s1 M p1 p2 fl fu x Ct):=by
 unfold e54 at h
 obtain⟨r1,h2,h⟩:=obind h
 rcases spl h with⟨h3,h⟩|⟨h3,h⟩
 obtain⟨r4,h5,h⟩:=obind h
 have k:=oK 0 [0,1] h3 (c119 h2) o0
 rcases r4 with y6|y7
 dsimp only at h
 rcases r with y0|y1
 exact k54s0 (tH q54 1 [] [0,1,2,3,4] [] [8,10,11,33,34,35] (oD (dClauseClause p1)<|oD (dT ([]:List Tm))<|oD (dT ([]:List Tm))<|oD (dT ([]:List Tm))<|oD (dC M.parts)<|oD (dE M.rl)<|oD (dI M.own)<|oD (dI M.args)<|oD (dE M.l)<|oC 1 [] (c120vr h5) k) (l54Ldg _ _ _ _ _ _ _ h))
 exact k54s1 (tH q54 1 [] [0,1,2,3,4] [] [8,10,11,33,34,35] (oD (dClauseClause p1)<|oD (dT ([]:List Tm))<|oD (dT ([]:List Tm))<|oD (dT ([]:List Tm))<|oD (dC M.parts)<|oD (dE M.rl)<|oD (dI M.own)<|oD (dI M.args)<|oD (dE M.l)<|oC 1 [] (c120vr h5) k) (l54Ldg _ _ _ _ _ _ _ h))
 dsimp only at h
 rcases r with y0|y1
 exact k54s0 (tH q54 1 [] [0,1,2,3,4,5] [] [8,10,11,33,34,35] (oD (dClauseClause p1)<|oD (dT y7)<|oD (dT ([]:List Tm))<|oD (dT ([]:List Tm))<|oD (dC M.parts)<|oD (dE M.rl)<|oD (dI M.own)<|oD (dI M.args)<|oD (dE M.l)<|oC 1 [] (c120vr h5) k) (l54Ldh _ _ _ _ _ _ _ _ _ _ h))
 exact k54s1 (tH q54 1 [] [0,1,2,3,4,5] [] [8,10,11,33,34,35] (oD (dClauseClause p1)<|oD (dT y7)<|oD (dT ([]:List Tm))<|oD (dT ([]:List Tm))<|oD (dC M.parts)<|oD (dE M.rl)<|oD (dI M.own)<|oD (dI M.args)<|oD (dE M.l)<|oC 1 [] (c120vr h5) k) (l54Ldh _ _ _ _ _ _ _ _ _ _ h))
 obtain rfl:=sj h
 exact k54s0 (tF q54 2 [0,1,2] (oD (dT ([]:List Tm))<|oD (dT ([]:List Tm))<|oD (dC M.parts)<|oD (dE M.rl)<|oD (dI M.own)<|oD (dI M.args)<|oD (dE M.l)<|oK 0 [0,1] h3 (c119 h2) o0))
theorem c54{qq M p1 p2 fl fu r}(h:e54 qq M p1 p2 fl fu=some r):(match (generalizing:=false) r with|Sum.inl x=>CT Tryz.prog 54 [mB M 1,mR M,.cells [ai fl,ai fu]] [.mp 0 0,slv clauseClauseL p1 .no,slv tmCells p2 .no,.mp 2 0] (.tup [clauseDoneA x.1,ai x.2.1]) [mB M 1,mR M,.cells [ai x.2.2.1,ai x.2.2.2]] 0|Sum.inr x=>CT Tryz.prog 54 [mB M 1,mR M,.cells [ai fl,ai fu]] [.mp 0 0,slv clauseClauseL p1 .no,slv tmCells p2 .no,.mp 2 0] (.tup [clauseDoneA (ClauseDone.mk x.2.1 x.1 (Tm.mk x.2.2.1 x.2.2.2.1 x.2.2.2.2.1)),ai x.2.2.2.2.2.1]) [mB M 1,mR M,.cells [ai x.2.2.2.2.2.2.1,ai x.2.2.2.2.2.2.2]] 0):=by
 have k:=c54r h
 rcases r with y0|y1
 ·exact k
 ·exact CT.freeze (H1:=[mB M 1,mR M,.cells [ai y1.2.2.2.2.2.2.1,ai y1.2.2.2.2.2.2.2]]) (cs:=flat tmCells y1.1) (res':=(.tup [clauseDoneA (ClauseDone.mk y1.2.1 y1.1 (Tm.mk y1.2.2.1 y1.2.2.2.1 y1.2.2.2.2.1)),ai y1.2.2.2.2.2.1])) k (Nat.le_of_ble_eq_true rfl) (forall_cons ⟨dE _,(lz rfl),dI _,dI _,tv⟩ (forall_cons ⟨dE _,dC _,tv⟩ (forall_cons ⟨tv,tv,tv⟩ forall_nil))) (dT _) ⟨⟨trivial,(.inl ⟨rfl,rfl⟩),trivial,trivial,dT _,tv⟩,trivial,tv⟩ (by rfl) rfl
abbrev RRW:=(Int×List Tm×Int×Int×Int×List Tm) ⊕ (List Tm×Int×Nat×Int×Int×Int×List Tm)
def erW:RRW->Int
 | .inl y=>y.2.2.1
 | .inr y=>y.2.2.2.1
def Shs(l:List Tm):Prop:=∀x∈l,shapedT x=true
theorem shs_set{l:List Tm}(h:Shs l)(k:Nat){x:Tm}(hx:shapedT x=true):Shs (l.set k x):=fun y hy=>by
 rcases List.mem_or_eq_of_mem_set hy with h'|rfl
 ·exact h y h'
 ·exact hx
def QW(n:Nat)(R:Int->Int->RRW)(_:Int):Prop:=
 (∃how e as1,as1.length=n∧(e=0->Shs as1)∧R=fun L U=>.inl (how,[],e,L,U,as1))∨∃b c as1,as1.length=n∧Shs as1∧Shs b∧b.length≤1000000∧R=fun L U=>.inr (b,0,c,0,L,U,as1)
section
variable {N:ByteArray->Bool} (l:List Ent) (hE:AllE N l) (he:∀e∈l,EOk e)
theorem out_row1(ps:List PatternPat)(n:Nat)(hps:ps.length=n)(hn:n≤1000000):∀(r:List PatternPat) (v:Nat) (b:List Tm) (c:Nat) (as0:List Tm) (f:Int),ps.drop v=r->(∀p∈r,HM1 l p)->as0.length=n->Shs as0->Shs b->b.length+ndPs r≤1000000->0≤f ->
  Ou (fun L U q=>e121vadbLdc q (machT l).l (machT l).rl (machT l).parts (machT l).args (machT l).own ps n (v:Int) 0 L U as0 c b.length b) erW (QW n) True f:=by
 intro r
 induction r with
 |nil=>
  intro v b c as0 f hd hp ha hs hb hbl hf
  refine Ou.succ ?_
  simp only[e121vadbLdc]
  exact Ou.ifF (drop_nil hd) (Ou.pure (a:=b) (by simp[gfz]) (Ou.ret hf (.inr ⟨b,c,as0,ha,hs,hb,by omega,rfl⟩)))
 |cons p r ih=>
  intro v b c as0 f hd hp ha hs hb hbl hf
  have hlt:=drop_lt hd
  rw[ndPs]at hbl
  refine Ou.succ ?_
  simp only[e121vadbLdc,pp_eta]
  refine Ou.ifT (drop_dec hd) (Ou.pure (drop_idx hd) (Ou.pure (gchk_ok (by omega)) (Ou.pure (gidx_nat (by omega)) (Ou.bind (hp p (by simp) _ b c f (hs _ (List.getElem_mem _)) hb (by omega) hf) id (fun r hr=>?_) ?_))))
  ·obtain⟨a1,a2⟩:=er8_spec hr
   exact⟨_,Evt.ifF (by rw[a2];decide) (Evt.pure (gset_ok _ (by omega)) (Evt.ifT (by rw[a1];decide) Evt.ret)),a2⟩
  ·rintro R k k0 k1 ⟨how,x,e,b',c',hx,he,hb',hbl',rfl⟩
   dsimp only
   by_cases e0:e=0
   ·subst e0
    refine Ou.ifT rfl (Ou.evt (ev_Shaped x hx) (Ou.ite (fun hsx=>?_) fun _=>?_))
    ·refine Ou.pure (gset_ok _ (by omega)) (Ou.ite (fun _=>Ou.ret (by omega) (.inl ⟨how,0,_,by simp[ha],fun _=>shs_set hs _ hsx,rfl⟩)) fun _=>Ou.ifF rfl ?_)
     rw[w64_nat v (by omega)]
     exact(ih (v+1) b' c' _ (f-k) (drop_next hd) (fun p h=>hp p (by simp[h])) (by simp[ha]) (shs_set hs _ hsx) hb' (by omega) (by omega)).mono (fun _ _ _ _ h=>h) id
    ·exact Ou.pure (gset_ok _ (by omega)) (Ou.ite (fun _=>Ou.ret (by omega) (.inl ⟨how,2,_,by simp[ha],fun h=>absurd h (by decide),rfl⟩)) fun _=>Ou.ret (by omega) (.inl ⟨how,2,_,by simp[ha],fun h=>absurd h (by decide),rfl⟩))
   ·have h2:=he e0
    subst h2
    exact Ou.ifF (by simpa using e0) (Ou.pure (gset_ok _ (by omega)) (Ou.ifT rfl (Ou.ret (by omega) (.inl ⟨2,e,_,by simp[ha],fun h=>absurd h e0,rfl⟩))))
theorem out_row0(ps:List PatternPat)(n:Nat)(hps:ps.length=n)(hn:n≤1000000)(hp1:∀p∈ps,HM1 l p):∀(r:List PatternPat) (v:Nat) (as0:List Tm) (f:Int),ps.drop v=r->(∀p∈r,HM0 l p)->as0.length=n->Shs as0->ndPs r≤1000000->0≤f ->
  Ou (fun L U q=>e121vadbLdd q (machT l).l (machT l).rl (machT l).parts (machT l).args (machT l).own ps n (v:Int) 0 L U as0) erW (QW n) True f:=by
 intro r
 induction r with
 |nil=>
  intro v as0 f hd hp ha hs hbl hf
  refine Ou.succ ?_
  simp only[e121vadbLdd]
  exact Ou.ifF (drop_nil hd) (Ou.ret hf (.inl ⟨0,0,as0,ha,fun _=>hs,rfl⟩))
 |cons p r ih=>
  intro v as0 f hd hp ha hs hbl hf
  have hlt:=drop_lt hd
  rw[ndPs]at hbl
  refine Ou.succ ?_
  simp only[e121vadbLdd,pp_eta]
  refine Ou.ifT (drop_dec hd) (Ou.pure (drop_idx hd) (Ou.pure (gchk_ok (by omega)) (Ou.pure (gidx_nat (by omega)) (Ou.bind (hp p (by simp) _ f (hs _ (List.getElem_mem _)) (by omega) hf) id (fun r hr=>?_) ?_))))
  ·match r,hr with
   | .inl y,hr=>
    obtain⟨a1,a2⟩:=er0_inl hr
    exact⟨_,Evt.ifF (by rw[a2];decide) (Evt.pure (gset_ok _ (by omega)) (Evt.ifT (by rw[a1];decide) Evt.ret)),a2⟩
   | .inr y,hr=>
    have hr:er8 y=8:=hr
    obtain⟨a1,a2⟩:=er8_spec hr
    exact⟨_,Evt.ifF (by rw[a2];decide) (Evt.pure (gset_ok _ (by omega)) (Evt.ifT (by rw[a1];decide) Evt.ret)),a2⟩
  ·rintro R k k0 k1 (⟨how,x,e,hx,he,rfl⟩|⟨R',⟨how,x,e,b',c',hx,he,hb',hbl',rfl⟩,rfl⟩)
   ·dsimp only
    by_cases e0:e=0
    ·subst e0
     refine Ou.ifT rfl (Ou.evt (ev_Shaped x hx) (Ou.ite (fun hsx=>?_) fun _=>?_))
     ·refine Ou.pure (gset_ok _ (by omega)) (Ou.ite (fun _=>Ou.ret (by omega) (.inl ⟨how,0,_,by simp[ha],fun _=>shs_set hs _ hsx,rfl⟩)) fun _=>Ou.ifF rfl ?_)
      rw[w64_nat v (by omega)]
      exact(ih (v+1) _ (f-k) (drop_next hd) (fun p h=>hp p (by simp[h])) (by simp[ha]) (shs_set hs _ hsx) (by omega) (by omega)).mono (fun _ _ _ _ h=>h) id
     ·exact Ou.pure (gset_ok _ (by omega)) (Ou.ite (fun _=>Ou.ret (by omega) (.inl ⟨how,2,_,by simp[ha],fun h=>absurd h (by decide),rfl⟩)) fun _=>Ou.ret (by omega) (.inl ⟨how,2,_,by simp[ha],fun h=>absurd h (by decide),rfl⟩))
    ·have h2:=he e0
     subst h2
     exact Ou.ifF (by simpa using e0) (Ou.pure (gset_ok _ (by omega)) (Ou.ifT rfl (Ou.ret (by omega) (.inl ⟨2,e,_,by simp[ha],fun h=>absurd h e0,rfl⟩))))
   ·have hbl'':b'.length≤ndP p:=by simpa using hbl'
    dsimp only
    by_cases e0:e=0
    ·subst e0
     refine Ou.ifT rfl (Ou.evt (ev_Shaped x hx) (Ou.ite (fun hsx=>?_) fun _=>?_))
     ·refine Ou.pure (gset_ok _ (by omega)) (Ou.ite (fun _=>Ou.ret (by omega) (.inl ⟨how,0,_,by simp[ha],fun _=>shs_set hs _ hsx,rfl⟩)) fun _=>Ou.ifF rfl ?_)
      rw[w64_nat v (by omega)]
      exact(out_row1 l ps n hps hn r (v+1) b' c' _ (f-k) (drop_next hd) (fun p h=>hp1 p (List.mem_of_mem_drop (by rw[hd];simp[h]))) (by simp[ha]) (shs_set hs _ hsx) hb' (by omega) (by omega)).mono (fun _ _ _ _ h=>h) id
     ·exact Ou.pure (gset_ok _ (by omega)) (Ou.ite (fun _=>Ou.ret (by omega) (.inl ⟨how,2,_,by simp[ha],fun h=>absurd h (by decide),rfl⟩)) fun _=>Ou.ret (by omega) (.inl ⟨how,2,_,by simp[ha],fun h=>absurd h (by decide),rfl⟩))
    ·have h2:=he e0
     subst h2
     exact Ou.ifF (by simpa using e0) (Ou.pure (gset_ok _ (by omega)) (Ou.ifT rfl (Ou.ret (by omega) (.inl ⟨2,e,_,by simp[ha],fun h=>absurd h e0,rfl⟩))))
include hE he in
theorem out_row(ps:List PatternPat)(hg:∀p∈ps,GP l p)(hnd:ndPs ps≤1000000)(as0:List Tm)(hps:ps.length=as0.length)(hs:Shs as0)(f:Int)(hf:0≤f) :
  Ou (fun L U q=>e121vadb q (machT l).l (machT l).rl (machT l).parts (machT l).args (machT l).own L U 0 ps as0 as0.length) erW (QW as0.length) True f:=by
 simp only[e121vadb]
 have:=ndPs_len ps
 exact out_row0 l ps as0.length hps (by omega) (fun p hp=>out_mt1 l hE he _ p (Nat.le_refl _) (hg p hp)) ps 0 as0 f rfl (fun p hp=>out_mt0 l hE he _ p (Nat.le_refl _) (hg p hp)) rfl hs hnd hf
abbrev R54:=(ClauseDone×Int×Int×Int) ⊕ (List Tm×Int×Int×Int×List Tm×Int×Int×Int)
def er54:R54->Int
 | .inl y=>y.2.1
 | .inr y=>y.2.2.2.2.2.1
def Q54(R:Int->Int->R54)(_:Int):Prop:=
 (∃d e,LOk d.binds_∧d.term_.Ok∧R=fun L U=>.inl (d,e,L,U))∨∃b row k n sub e,LOk b∧(Tm.mk k n sub).Ok∧R=fun L U=>.inr (b,row,k,n,sub,e,L,U)
theorem out_cp(M:Mach)(row:Int)(bs:List Tm)(ho:OkA bs)(hl:bs.length≤1000000)(t:Tm)(ht:t.Ok):∀(r:List Tm) (v:Nat) (acc:List Tm) (f:Int),bs.drop v=r->acc.length=v->v≤bs.length->OkL acc->0≤f ->
  Ou (fun L U q=>e54Lde q M row bs (bs.length:Int) L U t.k t.n t.sub (v:Int) acc) er54 Q54 True f:=by
 intro r
 induction r with
 |nil=>
  intro v acc f hd ha hv hac hf
  refine Ou.succ ?_
  simp only[e54Lde]
  exact Ou.ifF (drop_nil hd) (Ou.pure (a:=acc) (by simp[gfz]) (Ou.ret hf (.inr ⟨acc,_,_,_,_,_,⟨hac,by omega⟩,by rw[tm_eta];exact ht,rfl⟩)))
 |cons x r ih=>
  intro v acc f hd ha hv hac hf
  have hlt:=drop_lt hd
  have hx:=ho x (List.mem_of_mem_drop (by rw[hd];simp))
  refine Ou.succ ?_
  simp only[e54Lde]
  refine Ou.ifT (drop_dec hd) (Ou.pure (drop_idx hd) (Ou.evt (ev_Copy x hx) (Ou.pure (gapp_ok (by simp;omega)) ?_)))
  rw[w64_nat v (by omega)]
  exact ih (v+1) _ f (drop_next hd) (by simp[ha]) hlt (okL_snoc hac (copT_ok hx)) hf
theorem out_cp1(M:Mach)(row:Int)(bs:List Tm)(ho:OkA bs)(hl:bs.length≤1000000)(t:Tm)(ht:t.Ok)(f:Int)(hf:0≤f) :
  Ou (fun L U q=>e54Ldf q M row bs (bs.length:Int) 0 L U t.k t.n t.sub) er54 Q54 True f:=by
 simp only[e54Ldf]
 refine Ou.ite (fun h=>?_) fun _=>Ou.ret hf (.inl ⟨_,_,lok_nil,by rw[tm_eta];exact ht,rfl⟩)
 have hlt:0<bs.length:=by have:=of_decide_eq_true h;omega
 have hd:bs.drop 0=bs[0]::bs.drop 1:=List.drop_eq_getElem_cons hlt
 have hx:=ho _ (List.getElem_mem hlt)
 refine Ou.pure (drop_idx hd) (Ou.evt (ev_Copy _ hx) (Ou.pure (gapp_ok (by simp)) ?_))
 exact out_cp M row bs ho hl t ht (bs.drop 1) 1 _ f rfl rfl hlt (okL_snoc (l:=[]) trivial (copT_ok hx)) hf
theorem z_done:LOk (ClauseDone.mk 0 [] (Tm.mk 0 0 [])).binds_∧(ClauseDone.mk 0 [] (Tm.mk 0 0 [])).term_.Ok:=⟨lok_nil,leaf_ok 0 0⟩
include hE he
theorem out_ap3(cs:List ClauseClause)(hcs:cs.length≤17592186044416)(y7:List Tm):∀(r:List ClauseClause) (i:Nat) (as0:List Tm) (f:Int),cs.drop i=r->MayC l r y7.length->(∀c∈r,okC c∧ndPs c.pats_≤300)->as0.length=y7.length->Shs as0->0≤f ->
  Ou (fun L U q=>e54Ldh q (machT l) cs y7 (i:Int) L U 0 as0) er54 Q54 True f:=by
 intro r
 induction r with
 |nil=>
  intro i as0 f hd hm ho ha hs hf
  refine Ou.succ ?_
  simp only[e54Ldh]
  exact Ou.ifF (drop_nil hd) (Ou.ret hf (.inl ⟨_,_,z_done.1,z_done.2,rfl⟩))
 |cons c r ih=>
  intro i as0 f hd hm ho ha hs hf
  have hlt:=drop_lt hd
  have hmc:=hm c (by simp)
  have hoc:=ho c (by simp)
  have zz:=z_done
  refine Ou.succ ?_
  simp only[e54Ldh]
  rw[←ha]
  refine Ou.ifT (drop_dec hd) (Ou.pure (drop_idx hd) (Ou.bind (out_row l hE he c.pats_ hmc.2 (by omega) as0 (by rw[hmc.1,ha]) hs f hf) id (fun r hr=>?_) ?_))
  ·match r,hr with
   | .inl y,hr=>
    have hr:y.2.2.1=8:=hr
    exact⟨_,Evt.ifT (ne8L hr) Evt.ret,hr⟩
   | .inr y,hr=>
    have hr:y.2.2.2.1=8:=hr
    exact⟨_,Evt.ifT (ne8L hr) Evt.ret,hr⟩
  ·have next:∀(as1:List Tm) (g:Int),as1.length=as0.length->Shs as1->0≤g->Ou (fun L U q=>e54Ldh q (machT l) cs y7 (w64 ((i:Int)+1)) L U 0 as1) er54 Q54 True g:=fun as1 g h1 h2 h3=>by
    rw[w64_nat i (by omega)]
    exact ih (i+1) as1 g (drop_next hd) (fun c h=>hm c (by simp[h])) (fun c h=>ho c (by simp[h])) (by omega) h2 h3
   have fin:∀(bs:List Tm) (g:Int),Shs bs->bs.length≤1000000->0≤g->Ou (fun L U q=>e122 q c.body_ bs>>=fun r18=>if (r18.2 != 0)=true then some (Sum.inl (ClauseDone.mk 0 [] (Tm.mk 0 0 []),r18.2,L,U))else e54Ldf q (machT l) (i:Int) bs (bs.length:Int) 0 L U r18.1.k r18.1.n r18.1.sub) er54 Q54 True g:=fun bs g h1 h2 h3=>by
    have hob:OkA bs:=fun x hx=>shaped_ok (h1 x hx)
    exact Ou.tot (tot_Fill c.body_ bs hoc.1.2.2 h2 hob) fun r hr=>Ou.ite (fun _=>Ou.ret h3 (.inl ⟨_,_,zz.1,zz.2,rfl⟩)) fun _=>out_cp1 (machT l) i bs hob h2 r.1 hr g h3
   rintro R k k0 k1 (⟨how,e,as1,h1,h2,rfl⟩|⟨b,c',as1,h1,h2,h3,h4,rfl⟩)
   ·dsimp only
    by_cases e0:e=0
    ·subst e0
     refine Ou.ifF rfl (Ou.ite (fun _=>?_) fun _=>Ou.ite (fun _=>Ou.ret (by omega) (.inl ⟨_,_,zz.1,zz.2,rfl⟩)) fun _=>Ou.ite (fun _=>?_) fun _=>Ou.ret (by omega) (.inl ⟨_,_,zz.1,zz.2,rfl⟩))
     ·exact(next as1 (f-k) h1 (h2 rfl) (by omega)).mono (fun _ _ _ _ h=>h) id
     ·exact(fin [] (f-k) (fun _ h=>nomatch h) (by simp) (by omega)).mono (fun _ _ _ _ h=>h) id
    ·exact Ou.ifT (by simpa using e0) (Ou.ret (by omega) (.inl ⟨_,_,zz.1,zz.2,rfl⟩))
   ·dsimp only
    refine Ou.ifF rfl (Ou.ifF rfl (Ou.ifF rfl (Ou.ite (fun _=>?_) fun _=>Ou.ret (by omega) (.inl ⟨_,_,zz.1,zz.2,rfl⟩))))
    exact(fin b (f-k) h3 h4 (by omega)).mono (fun _ _ _ _ h=>h) id
theorem out_ap2(cs:List ClauseClause)(hcs:cs.length≤17592186044416):∀(r:List ClauseClause) (i:Nat) (f:Int),cs.drop i=r->MayC l r 0->(∀c∈r,okC c∧ndPs c.pats_≤300)->0≤f ->
  Ou (fun L U q=>e54Ldg q (machT l) cs L U (i:Int)) er54 Q54 True f:=by
 intro r f0 f hd hm ho hf
 have zz:=z_done
 cases r with
 |nil=>
  refine Ou.succ ?_
  simp only[e54Ldg]
  exact Ou.ifF (drop_nil hd) (Ou.ret hf (.inl ⟨_,_,zz.1,zz.2,rfl⟩))
 |cons c r=>
  have hmc:=hm c (by simp)
  have hoc:=ho c (by simp)
  have hp:c.pats_=[]:=List.length_eq_zero_iff.1 hmc.1
  refine Ou.succ ?_
  simp only[e54Ldg]
  refine Ou.ifT (drop_dec hd) (Ou.pure (drop_idx hd) ?_)
  rw[hp]
  refine Ou.uni (P:=fun r=>r=(0,[])) ⟨_,rfl,fun L U=>?_⟩ ?_
  ·simp only[e121vacz,e121vaczLda]
   exact Evt.ifF rfl Evt.ret
  rintro r rfl
  dsimp only
  refine Ou.ifF rfl (Ou.ifF rfl (Ou.ite (fun _=>?_) fun _=>Ou.ret hf (.inl ⟨_,_,zz.1,zz.2,rfl⟩)))
  exact Ou.tot (tot_Fill c.body_ [] hoc.1.2.2 (by simp) (fun _ h=>nomatch h)) fun r hr=>Ou.ite (fun _=>Ou.ret hf (.inl ⟨_,_,zz.1,zz.2,rfl⟩)) fun _=>out_cp1 (machT l) f0 [] (fun _ h=>nomatch h) (by simp) r.1 hr f hf
theorem out_Apply(hF:Evt (fun q=>e157 q l) true)(hll:l.length≤65535)(hc:∀e∈l,ECl e)(hcop:l.map copE=l)(cs:List ClauseClause)(hcs:cs.length≤17592186044416)(ho:∀c∈cs,okC c∧ndPs c.pats_≤300)(as0:List Tm)(ha:OkA as0)(hl:as0.length≤1000000)(f:Int)(hf:0≤f) :
  Ou (fun L U q=>e54 q (machT l) cs as0 L U) er54 Q54 True f:=by
 have zz:=z_done
 simp only[e54]
 refine Ou.tot (tot_may hE hF hll he hc hcop cs hcs ho as0 ha hl) fun b hb=>Ou.ite (fun h=>?_) fun _=>Ou.ret hf (.inl ⟨_,_,zz.1,zz.2,rfl⟩)
 obtain⟨hm,hs⟩:=hb h
 refine Ou.evt (ev_vr as0 hl) ?_
 by_cases h0:as0=[]
 ·subst h0
  rw[if_pos rfl]
  exact out_ap2 l hE he cs hcs cs 0 f rfl hm ho hf
 ·rw[if_neg h0]
  exact out_ap3 l hE he cs hcs as0 cs 0 as0 f rfl hm ho rfl hs hf
end
def e170(qq:Nat)(p0 p1:Int):Option (Tm):=
 some (Tm.mk p0 p1 [])
abbrev K170 (p0 p1:Int) (r:Tm) (C:Cf):Prop:=C 170 [] [ai p0,ai p1] (tmA r) [] 0
theorem q170:Qf 170 Tryz.f170:=⟨Tryz.func170,by kernel_rfl⟩
theorem k170{p0 p1 r}(h:K170 p0 p1 r Ci):K170 p0 p1 r Ct:=⟨h,⟨tv,tv,tv⟩,forall_nil,⟨tv,tv,dT _,tv⟩,forall_nil⟩
theorem c170{qq p0 p1 r}(h:e170 qq p0 p1=some r):K170 p0 p1 r Ct:=by
 unfold e170 at h
 obtain rfl:=sj h
 exact k170 (tF q170 1 [] (oD (dT ([]:List Tm)) o0))
def e100(qq:Nat)(p0:Int):Option (Tm):=
 e170 qq 1 p0>>=fun r1=>
 some r1
abbrev K100 (p0:Int) (r:Tm) (C:Cf):Prop:=C 100 [] [ai p0] (tmA r) [] 0
theorem q100:Qf 100 Tryz.f100:=⟨Tryz.func100,by kernel_rfl⟩
theorem k100{p0 r}(h:K100 p0 r Ci):K100 p0 r Ct:=⟨h,⟨tv,tv⟩,forall_nil,⟨tv,tv,dT _,tv⟩,forall_nil⟩
theorem c100{qq p0 r}(h:e100 qq p0=some r):K100 p0 r Ct:=by
 unfold e100 at h
 obtain⟨r1,h2,h⟩:=obind h
 obtain rfl:=sj h
 exact k100 (tF q100 1 [] (oD (dT r1.sub)<|oC 0 [] (c170 h2) o0))
def e21(qq:Nat)(p0:Int)(p1 p2:Tm):Option (Tm):=
 some (Tm.mk p0 0 [p1,p2])
abbrev K21 (p0:Int) (p1 p2 r:Tm) (C:Cf):Prop:=C 21 [] [ai p0,tmA p1,tmA p2] (tmA r) [] 0
theorem q21:Qf 21 Tryz.f21:=⟨Tryz.func21,by kernel_rfl⟩
theorem k21{p0 p1 p2 r}(h:K21 p0 p1 p2 r Ci):K21 p0 p1 p2 r Ct:=⟨h,⟨tv,⟨tv,tv,⟨tv,dT _⟩,tv⟩,⟨tv,tv,⟨tv,dT _⟩,tv⟩,tv⟩,forall_nil,⟨tv,tv,dT _,tv⟩,forall_nil⟩
theorem c21{qq p0 p1 p2 r}(h:e21 qq p0 p1 p2=some r):K21 p0 p1 p2 r Ct:=by
 unfold e21 at h
 obtain rfl:=sj h
 exact k21 (tF q21 1 [] (oD (dT [p1,p2])<|oS 2 (obLitR tm_eq [p1,p2]) o0))
def e101(qq:Nat)(p0 p1:Tm):Option (Tm):=
 e21 qq 4 p0 p1>>=fun r1=>
 some r1
abbrev K101 (p0 p1 r:Tm) (C:Cf):Prop:=C 101 [] [tmA p0,tmA p1] (tmA r) [] 0
theorem q101:Qf 101 Tryz.f101:=⟨Tryz.func101,by kernel_rfl⟩
theorem k101{p0 p1 r}(h:K101 p0 p1 r Ci):K101 p0 p1 r Ct:=⟨h,⟨⟨tv,tv,⟨tv,dT _⟩,tv⟩,⟨tv,tv,⟨tv,dT _⟩,tv⟩,tv⟩,forall_nil,⟨tv,tv,dT _,tv⟩,forall_nil⟩
theorem c101{qq p0 p1 r}(h:e101 qq p0 p1=some r):K101 p0 p1 r Ct:=by
 unfold e101 at h
 obtain⟨r1,h2,h⟩:=obind h
 obtain rfl:=sj h
 exact k101 (tF q101 1 [] (oD (dT r1.sub)<|oC 2 [] (c21 h2) o0))
def e171(qq:Nat)(p0 p1:Int)(p2:List Tm):Option (Tm):=
 some (Tm.mk p0 p1 p2)
abbrev K171 (p0 p1:Int) (p2:List Tm) (r:Tm) (C:Cf):Prop:=C 171 [] [ai p0,ai p1,slv tmCells p2 .no] (tmA r) [] 0
theorem q171:Qf 171 Tryz.f171:=⟨Tryz.func171,by kernel_rfl⟩
theorem k171{p0 p1 p2 r}(h:K171 p0 p1 p2 r Ci):K171 p0 p1 p2 r Ct:=⟨h,⟨tv,tv,⟨tv,dT _⟩,tv⟩,forall_nil,⟨tv,tv,dT _,tv⟩,forall_nil⟩
theorem c171{qq p0 p1 p2 r}(h:e171 qq p0 p1 p2=some r):K171 p0 p1 p2 r Ct:=by
 unfold e171 at h
 obtain rfl:=sj h
 exact k171 (tF q171 1 [] (oD (dT p2) o0))
def e98(qq:Nat)(p0:Int):Option (Tm):=
 e170 qq 2 p0>>=fun r1=>
 some r1
abbrev K98 (p0:Int) (r:Tm) (C:Cf):Prop:=C 98 [] [ai p0] (tmA r) [] 0
theorem q98:Qf 98 Tryz.f98:=⟨Tryz.func98,by kernel_rfl⟩
theorem k98{p0 r}(h:K98 p0 r Ci):K98 p0 r Ct:=⟨h,⟨tv,tv⟩,forall_nil,⟨tv,tv,dT _,tv⟩,forall_nil⟩
theorem c98{qq p0 r}(h:e98 qq p0=some r):K98 p0 r Ct:=by
 unfold e98 at h
 obtain⟨r1,h2,h⟩:=obind h
 obtain rfl:=sj h
 exact k98 (tF q98 1 [] (oD (dT r1.sub)<|oC 0 [] (c170 h2) o0))
def e102(qq:Nat)(p0 p1:Int):Option (Tm):=
 e98 qq p1>>=fun r1=>
 e171 qq 7 p0 [r1]>>=fun r3=>
 some r3
abbrev K102 (p0 p1:Int) (r:Tm) (C:Cf):Prop:=C 102 [] [ai p0,ai p1] (tmA r) [] 0
theorem q102:Qf 102 Tryz.f102:=⟨Tryz.func102,by kernel_rfl⟩
theorem k102{p0 p1 r}(h:K102 p0 p1 r Ci):K102 p0 p1 r Ct:=⟨h,⟨tv,tv,tv⟩,forall_nil,⟨tv,tv,dT _,tv⟩,forall_nil⟩
theorem c102{qq p0 p1 r}(h:e102 qq p0 p1=some r):K102 p0 p1 r Ct:=by
 unfold e102 at h
 obtain⟨r1,h2,h⟩:=obind h
 obtain⟨r3,h4,h⟩:=obind h
 obtain rfl:=sj h
 exact k102 (tF q102 1 [] (oD (dT r3.sub)<|oC 0 [] (c171 h4)<|oS 0 (obLitR tm_eq [r1])<|oC 0 [] (c98 h2) o0))
def e103(qq:Nat)(p0:ByteArray)(p1:Tm)(p2 p3 p4:Int):Option (Ent):=
 some (Ent.mk 2 p0 p1 (Tm.mk 0 0 []) p2 p3 p4 0 0 [] [])
abbrev K103 (p0:ByteArray) (p1:Tm) (p2 p3 p4:Int) (r:Ent) (C:Cf):Prop:=C 103 [] [at' p0,tmA p1,ai p2,ai p3,ai p4] (entA r) [] 0
theorem q103:Qf 103 Tryz.f103:=⟨Tryz.func103,by kernel_rfl⟩
theorem k103{p0 p1 p2 p3 p4 r}(h:K103 p0 p1 p2 p3 p4 r Ci):K103 p0 p1 p2 p3 p4 r Ct:=⟨h,⟨tv,⟨tv,tv,⟨tv,dT _⟩,tv⟩,tv,tv,tv,tv⟩,forall_nil,⟨tv,tv,tv,tv,dT _,tv,tv,dT _,tv,tv,tv,tv,tv,dI _,dI _,tv⟩,forall_nil⟩
theorem c103{qq p0 p1 p2 p3 p4 r}(h:e103 qq p0 p1 p2 p3 p4=some r):K103 p0 p1 p2 p3 p4 r Ct:=by
 unfold e103 at h
 obtain rfl:=sj h
 exact k103 (tF q103 2 [] (oD (dI ([]:List Int))<|oD (dI ([]:List Int))<|oD (dT ([]:List Tm))<|oD (dT p1.sub) o0))
def e104(qq:Nat)(p0:ByteArray)(p1:Tm)(p2:Int):Option (Ent):=
 some (Ent.mk 4 p0 p1 (Tm.mk 0 0 []) 14 p2 2 0 0 [] [])
abbrev K104 (p0:ByteArray) (p1:Tm) (p2:Int) (r:Ent) (C:Cf):Prop:=C 104 [] [at' p0,tmA p1,ai p2] (entA r) [] 0
theorem q104:Qf 104 Tryz.f104:=⟨Tryz.func104,by kernel_rfl⟩
theorem k104{p0 p1 p2 r}(h:K104 p0 p1 p2 r Ci):K104 p0 p1 p2 r Ct:=⟨h,⟨tv,⟨tv,tv,⟨tv,dT _⟩,tv⟩,tv,tv⟩,forall_nil,⟨tv,tv,tv,tv,dT _,tv,tv,dT _,tv,tv,tv,tv,tv,dI _,dI _,tv⟩,forall_nil⟩
theorem c104{qq p0 p1 p2 r}(h:e104 qq p0 p1 p2=some r):K104 p0 p1 p2 r Ct:=by
 unfold e104 at h
 obtain rfl:=sj h
 exact k104 (tF q104 2 [] (oD (dI ([]:List Int))<|oD (dI ([]:List Int))<|oD (dT ([]:List Tm))<|oD (dT p1.sub) o0))
def e95(qq:Nat)(p0:Int):Option (Tm):=
 e170 qq 6 p0>>=fun r1=>
 some r1
abbrev K95 (p0:Int) (r:Tm) (C:Cf):Prop:=C 95 [] [ai p0] (tmA r) [] 0
theorem q95:Qf 95 Tryz.f95:=⟨Tryz.func95,by kernel_rfl⟩
theorem k95{p0 r}(h:K95 p0 r Ci):K95 p0 r Ct:=⟨h,⟨tv,tv⟩,forall_nil,⟨tv,tv,dT _,tv⟩,forall_nil⟩
theorem c95{qq p0 r}(h:e95 qq p0=some r):K95 p0 r Ct:=by
 unfold e95 at h
 obtain⟨r1,h2,h⟩:=obind h
 obtain rfl:=sj h
 exact k95 (tF q95 1 [] (oD (dT r1.sub)<|oC 0 [] (c170 h2) o0))
def e96(qq:Nat)(p0:ByteArray)(p1:Tm)(p2 p3:Int)(p4:List Int):Option (Ent):=
 some (Ent.mk 1 p0 p1 (Tm.mk 0 0 []) 0 0 p2 p3 0 p4 [])
abbrev K96 (p0:ByteArray) (p1:Tm) (p2 p3:Int) (p4:List Int) (r:Ent) (C:Cf):Prop:=C 96 [] [at' p0,tmA p1,ai p2,ai p3,slv intC p4 .no] (entA r) [] 0
theorem q96:Qf 96 Tryz.f96:=⟨Tryz.func96,by kernel_rfl⟩
theorem k96{p0 p1 p2 p3 p4 r}(h:K96 p0 p1 p2 p3 p4 r Ci):K96 p0 p1 p2 p3 p4 r Ct:=⟨h,⟨tv,⟨tv,tv,⟨tv,dT _⟩,tv⟩,tv,tv,⟨tv,dI _⟩,tv⟩,forall_nil,⟨tv,tv,tv,tv,dT _,tv,tv,dT _,tv,tv,tv,tv,tv,dI _,dI _,tv⟩,forall_nil⟩
theorem c96{qq p0 p1 p2 p3 p4 r}(h:e96 qq p0 p1 p2 p3 p4=some r):K96 p0 p1 p2 p3 p4 r Ct:=by
 unfold e96 at h
 obtain rfl:=sj h
 exact k96 (tF q96 2 [] (oD (dI ([]:List Int))<|oD (dI p4)<|oD (dT ([]:List Tm))<|oD (dT p1.sub) o0))
def e97(qq:Nat)(p0 p1:Tm):Option (Tm):=
 e21 qq 3 p0 p1>>=fun r1=>
 some r1
abbrev K97 (p0 p1 r:Tm) (C:Cf):Prop:=C 97 [] [tmA p0,tmA p1] (tmA r) [] 0
theorem q97:Qf 97 Tryz.f97:=⟨Tryz.func97,by kernel_rfl⟩
theorem k97{p0 p1 r}(h:K97 p0 p1 r Ci):K97 p0 p1 r Ct:=⟨h,⟨⟨tv,tv,⟨tv,dT _⟩,tv⟩,⟨tv,tv,⟨tv,dT _⟩,tv⟩,tv⟩,forall_nil,⟨tv,tv,dT _,tv⟩,forall_nil⟩
theorem c97{qq p0 p1 r}(h:e97 qq p0 p1=some r):K97 p0 p1 r Ct:=by
 unfold e97 at h
 obtain⟨r1,h2,h⟩:=obind h
 obtain rfl:=sj h
 exact k97 (tF q97 1 [] (oD (dT r1.sub)<|oC 2 [] (c21 h2) o0))
def e25Ldi:Nat->(List Tm)->Int->Int->Int->(List Tm)->Option (Tm)
 |0,_,_,_,_,_=>none
 |qq+1,p1,v5,vb0_0,vb0_1,vb0_2=>
 if decide (v5<(List.length p1:Int))then
 gidx p1 v5>>=fun x2=>
 e21 qq 5 (Tm.mk vb0_0 vb0_1 vb0_2) x2>>=fun r4=>
 e25Ldi qq p1 (w64 (v5+1)) r4.k r4.n r4.sub
 else
 some (Tm.mk vb0_0 vb0_1 vb0_2)
def e25(qq:Nat)(p0:Tm)(p1:List Tm):Option (Tm):=
 e25Ldi qq p1 0 p0.k p0.n p0.sub
def g25LdiE0(j:Nat->Value)(p1:List Tm)(v5 vb0_0 vb0_1:Int)(vb0_2:List Tm):=sp j 19 0 [(1,slv tmCells p1 .no),(2,.mp 0 0),(4,.mp 1 0),(5,ai v5)]
def g25LdiS0(p1:List Tm)(v5 vb0_0 vb0_1:Int)(vb0_2:List Tm):LSt:=⟨[(0,.cells [ai vb0_0,ai vb0_1,slv tmCells vb0_2 .no]),(1,.cells [ai 0,ai 0,slv tmCells ([]:List Tm) .nl])],2,[],0,[]⟩
abbrev K25 (p0:Tm) (p1:List Tm) (r:Tm) (C:Cf):Prop:=C 25 [] [tmA p0,slv tmCells p1 .no] (tmA r) [] 0
theorem q25:Qf 25 Tryz.f25:=⟨Tryz.func25,by kernel_rfl⟩
theorem k25{p0 p1 r}(h:K25 p0 p1 r Ci):K25 p0 p1 r Ct:=⟨h,⟨⟨tv,tv,⟨tv,dT _⟩,tv⟩,⟨tv,dT _⟩,tv⟩,forall_nil,⟨tv,tv,dT _,tv⟩,forall_nil⟩
theorem l25Ldi:∀qq:Nat,(∀p1 v5 vb0_0 vb0_1 vb0_2 r,e25Ldi qq p1 v5 vb0_0 vb0_1 vb0_2=some r->(∀j,Dl Tryz.prog 0 (inn (inn (rgt (lft (rgt (bod Tryz.f25)))))) (g25LdiE0 j p1 v5 vb0_0 vb0_1 vb0_2) (g25LdiS0 p1 v5 vb0_0 vb0_1 vb0_2) (frameQ Tryz.prog 0 (FinQ Tryz.prog 0 Tryz.f25 (tmA r) [] 0) [.blk 0,.seq (rgt (rgt (bod Tryz.f25)))]))):=by
 intro qq
 induction qq with
 |zero=>
  exact fun _ _ _ _ _ _ h=>nn h
 |succ qq ih=>
  intro p1 v5 vb0_0 vb0_1 vb0_2 r h
  rw[e25Ldi]at h
  rcases spl h with⟨h1,h⟩|⟨h1,h⟩
  obtain⟨x2,h3,h⟩:=obind h
  obtain⟨r4,h5,h⟩:=obind h
  exact fun j=>lH 2 [] [0,1] [] [1,2,4,5] (oD (dT p1)<|oD (dT ([]:List Tm))<|oD (dT r4.sub)<|oC 1 [] (c21 h5)<|oA 1 (ix23 (o:=.no) h3)<|oB 1 h1 o0) (ih _ _ _ _ _ _ h)
  obtain rfl:=sj h
  exact fun j=>lF 2 [] (oD (dT vb0_2)<|oB 1 h1 o0)
theorem c25{qq p0 p1 r}(h:e25 qq p0 p1=some r):K25 p0 p1 r Ct:=by
 unfold e25 at h
 exact k25 (tH q25 0 [] [0,1] [] [1,2,4,5] (oD (dT p1)<|oD (dT ([]:List Tm))<|oD (dT p0.sub) o0) (l25Ldi _ _ _ _ _ _ _ h))
def e99(qq:Nat)(p0:Tm)(p1:List Tm):Option (Tm):=
 e25 qq p0 p1>>=fun r1=>
 some r1
abbrev K99 (p0:Tm) (p1:List Tm) (r:Tm) (C:Cf):Prop:=C 99 [] [tmA p0,slv tmCells p1 .no] (tmA r) [] 0
theorem q99:Qf 99 Tryz.f99:=⟨Tryz.func99,by kernel_rfl⟩
theorem k99{p0 p1 r}(h:K99 p0 p1 r Ci):K99 p0 p1 r Ct:=⟨h,⟨⟨tv,tv,⟨tv,dT _⟩,tv⟩,⟨tv,dT _⟩,tv⟩,forall_nil,⟨tv,tv,dT _,tv⟩,forall_nil⟩
theorem c99{qq p0 p1 r}(h:e99 qq p0 p1=some r):K99 p0 p1 r Ct:=by
 unfold e99 at h
 obtain⟨r1,h2,h⟩:=obind h
 obtain rfl:=sj h
 exact k99 (tF q99 1 [] (oD (dT r1.sub)<|oC 1 [] (c25 h2) o0))
def e44(qq:Nat)  : Option (List Ent):=
 e95 qq 0>>=fun r1=>
 e98 qq 0>>=fun r3=>
 e97 qq r3 r3>>=fun r5=>
 e97 qq r3 r5>>=fun r7=>
 e96 qq (⟨#[80,97,105,114]⟩:ByteArray) r7 2 0 [15]>>=fun r9=>
 e95 qq 14>>=fun r11=>
 e100 qq 1>>=fun r13=>
 e100 qq 0>>=fun r15=>
 e99 qq r11 [r13,r15]>>=fun r17=>
 e102 qq 0 0>>=fun r19=>
 e101 qq r1 r1>>=fun r21=>
 e95 qq 2>>=fun r23=>
 e99 qq r23 [r15]>>=fun r25=>
 e101 qq r1 r25>>=fun r27=>
 e101 qq r1 r27>>=fun r29=>
 e99 qq r19 [r21,r15,r29,r13]>>=fun r31=>
 e101 qq r1 r31>>=fun r33=>
 e101 qq r1 r33>>=fun r35=>
 e96 qq (⟨#[78,97,116]⟩:ByteArray) r3 0 0 [1,2]>>=fun r37=>
 e103 qq (⟨#[122,101,114,111]⟩:ByteArray) r1 0 0 0>>=fun r39=>
 e97 qq r1 r1>>=fun r41=>
 e103 qq (⟨#[115,117,99]⟩:ByteArray) r41 0 1 0>>=fun r43=>
 e96 qq (⟨#[66,111,111,108]⟩:ByteArray) r3 0 0 [4,5]>>=fun r45=>
 e95 qq 3>>=fun r47=>
 e103 qq (⟨#[116,114,117,101]⟩:ByteArray) r47 3 0 0>>=fun r49=>
 e103 qq (⟨#[102,97,108,115,101]⟩:ByteArray) r47 3 1 0>>=fun r51=>
 e96 qq (⟨#[76,105,115,116]⟩:ByteArray) r5 1 0 [7,8]>>=fun r53=>
 e95 qq 6>>=fun r55=>
 e99 qq r55 [r15]>>=fun r57=>
 e97 qq r3 r57>>=fun r59=>
 e103 qq (⟨#[110,105,108]⟩:ByteArray) r59 6 0 1>>=fun r61=>
 e99 qq r55 [r13]>>=fun r63=>
 e100 qq 2>>=fun r65=>
 e99 qq r55 [r65]>>=fun r67=>
 e97 qq r63 r67>>=fun r69=>
 e97 qq r15 r69>>=fun r71=>
 e97 qq r3 r71>>=fun r73=>
 e103 qq (⟨#[99,111,110,115]⟩:ByteArray) r73 6 1 1>>=fun r75=>
 e97 qq r1 r3>>=fun r77=>
 e97 qq r3 r77>>=fun r79=>
 e96 qq (⟨#[86,101,99]⟩:ByteArray) r79 1 1 [10,11]>>=fun r81=>
 e95 qq 9>>=fun r83=>
 e95 qq 1>>=fun r85=>
 e99 qq r83 [r15,r85]>>=fun r87=>
 e97 qq r3 r87>>=fun r89=>
 e103 qq (⟨#[118,110,105,108]⟩:ByteArray) r89 9 0 1>>=fun r91=>
 e99 qq r83 [r65,r13]>>=fun r93=>
 e100 qq 3>>=fun r95=>
 e99 qq r23 [r65]>>=fun r97=>
 e99 qq r83 [r95,r97]>>=fun r99=>
 e97 qq r93 r99>>=fun r101=>
 e97 qq r13 r101>>=fun r103=>
 e97 qq r1 r103>>=fun r105=>
 e97 qq r3 r105>>=fun r107=>
 e103 qq (⟨#[118,99,111,110,115]⟩:ByteArray) r107 9 1 1>>=fun r109=>
 e97 qq r13 r3>>=fun r111=>
 e97 qq r15 r111>>=fun r113=>
 e97 qq r3 r113>>=fun r115=>
 e96 qq (⟨#[69,113]⟩:ByteArray) r115 2 1 [13]>>=fun r117=>
 e95 qq 12>>=fun r119=>
 e99 qq r119 [r13,r15,r15]>>=fun r121=>
 e97 qq r15 r121>>=fun r123=>
 e97 qq r3 r123>>=fun r125=>
 e103 qq (⟨#[114,101,102,108]⟩:ByteArray) r125 12 0 2>>=fun r127=>
 e99 qq r11 [r95,r65]>>=fun r129=>
 e97 qq r13 r129>>=fun r131=>
 e97 qq r13 r131>>=fun r133=>
 e97 qq r3 r133>>=fun r135=>
 e97 qq r3 r135>>=fun r137=>
 e103 qq (⟨#[112,97,105,114]⟩:ByteArray) r137 14 0 2>>=fun r139=>
 e97 qq r17 r65>>=fun r141=>
 e97 qq r3 r141>>=fun r143=>
 e97 qq r3 r143>>=fun r145=>
 e104 qq (⟨#[102,115,116]⟩:ByteArray) r145 0>>=fun r147=>
 e97 qq r17 r13>>=fun r149=>
 e97 qq r3 r149>>=fun r151=>
 e97 qq r3 r151>>=fun r153=>
 e104 qq (⟨#[115,110,100]⟩:ByteArray) r153 1>>=fun r155=>
 e96 qq (⟨#[84,114,101,101]⟩:ByteArray) r3 0 0 [19,20]>>=fun r157=>
 e95 qq 18>>=fun r159=>
 e103 qq (⟨#[108,101,97,102]⟩:ByteArray) r159 18 0 0>>=fun r161=>
 e97 qq r1 r159>>=fun r163=>
 e97 qq r163 r159>>=fun r165=>
 e103 qq (⟨#[110,111,100,101]⟩:ByteArray) r165 18 1 0>>=fun r167=>
 e97 qq r1 r41>>=fun r169=>
 e97 qq r15 r13>>=fun r171=>
 e97 qq r3 r171>>=fun r173=>
 e101 qq r15 r15>>=fun r175=>
 e101 qq r3 r175>>=fun r177=>
 some [r37,r39,r43,r45,r49,r51,r53,r61,r75,r81,r91,r109,r117,r127,(Ent.mk r9.kind r9.name r9.type r9.body r9.fam r9.place r9.pars r9.inds r9.level r9.cons [16,17]),r139,r147,r155,r157,r161,r167,(Ent.mk 3 (⟨#[112,108,117,115]⟩:ByteArray) r169 r35 0 0 0 0 0 [] []),(Ent.mk 3 (⟨#[105,100]⟩:ByteArray) r173 r177 0 0 0 0 0 [] [])]
abbrev K44 (r:List Ent) (C:Cf):Prop:=C 44 [] [] (.sl (flat entL r) (List.length r) .no) [] 0
theorem q44:Qf 44 Tryz.f44:=⟨Tryz.func44,by kernel_rfl⟩
theorem k44{r}(h:K44 r Ci):K44 r Ct:=⟨h,tv,forall_nil,dE _,forall_nil⟩
theorem c44{qq r}(h:e44 qq  = some r):K44 r Ct:=by
 unfold e44 at h
 obtain⟨r1,h2,h⟩:=obind h
 obtain⟨r3,h4,h⟩:=obind h
 obtain⟨r5,h6,h⟩:=obind h
 obtain⟨r7,h8,h⟩:=obind h
 obtain⟨r9,h10,h⟩:=obind h
 obtain⟨r11,h12,h⟩:=obind h
 obtain⟨r13,h14,h⟩:=obind h
 obtain⟨r15,h16,h⟩:=obind h
 obtain⟨r17,h18,h⟩:=obind h
 obtain⟨r19,h20,h⟩:=obind h
 obtain⟨r21,h22,h⟩:=obind h
 obtain⟨r23,h24,h⟩:=obind h
 obtain⟨r25,h26,h⟩:=obind h
 obtain⟨r27,h28,h⟩:=obind h
 obtain⟨r29,h30,h⟩:=obind h
 obtain⟨r31,h32,h⟩:=obind h
 obtain⟨r33,h34,h⟩:=obind h
 obtain⟨r35,h36,h⟩:=obind h
 obtain⟨r37,h38,h⟩:=obind h
 obtain⟨r39,h40,h⟩:=obind h
 obtain⟨r41,h42,h⟩:=obind h
 obtain⟨r43,h44,h⟩:=obind h
 obtain⟨r45,h46,h⟩:=obind h
 obtain⟨r47,h48,h⟩:=obind h
 obtain⟨r49,h50,h⟩:=obind h
 obtain⟨r51,h52,h⟩:=obind h
 obtain⟨r53,h54,h⟩:=obind h
 obtain⟨r55,h56,h⟩:=obind h
 obtain⟨r57,h58,h⟩:=obind h
 obtain⟨r59,h60,h⟩:=obind h
 obtain⟨r61,h62,h⟩:=obind h
 obtain⟨r63,h64,h⟩:=obind h
 obtain⟨r65,h66,h⟩:=obind h
 obtain⟨r67,h68,h⟩:=obind h
 obtain⟨r69,h70,h⟩:=obind h
 obtain⟨r71,h72,h⟩:=obind h
 obtain⟨r73,h74,h⟩:=obind h
 obtain⟨r75,h76,h⟩:=obind h
 obtain⟨r77,h78,h⟩:=obind h
 obtain⟨r79,h80,h⟩:=obind h
 obtain⟨r81,h82,h⟩:=obind h
 obtain⟨r83,h84,h⟩:=obind h
 obtain⟨r85,h86,h⟩:=obind h
 obtain⟨r87,h88,h⟩:=obind h
 obtain⟨r89,h90,h⟩:=obind h
 obtain⟨r91,h92,h⟩:=obind h
 obtain⟨r93,h94,h⟩:=obind h
 obtain⟨r95,h96,h⟩:=obind h
 obtain⟨r97,h98,h⟩:=obind h
 obtain⟨r99,h100,h⟩:=obind h
 obtain⟨r101,h102,h⟩:=obind h
 obtain⟨r103,h104,h⟩:=obind h
 obtain⟨r105,h106,h⟩:=obind h
 obtain⟨r107,h108,h⟩:=obind h
 obtain⟨r109,h110,h⟩:=obind h
 obtain⟨r111,h112,h⟩:=obind h
 obtain⟨r113,h114,h⟩:=obind h
 obtain⟨r115,h116,h⟩:=obind h
 obtain⟨r117,h118,h⟩:=obind h
 obtain⟨r119,h120,h⟩:=obind h
 obtain⟨r121,h122,h⟩:=obind h
 obtain⟨r123,h124,h⟩:=obind h
 obtain⟨r125,h126,h⟩:=obind h
 obtain⟨r127,h128,h⟩:=obind h
 obtain⟨r129,h130,h⟩:=obind h
 obtain⟨r131,h132,h⟩:=obind h
 obtain⟨r133,h134,h⟩:=obind h
 obtain⟨r135,h136,h⟩:=obind h
 obtain⟨r137,h138,h⟩:=obind h
 obtain⟨r139,h140,h⟩:=obind h
 obtain⟨r141,h142,h⟩:=obind h
 obtain⟨r143,h144,h⟩:=obind h
 obtain⟨r145,h146,h⟩:=obind h
 obtain⟨r147,h148,h⟩:=obind h
 obtain⟨r149,h150,h⟩:=obind h
 obtain⟨r151,h152,h⟩:=obind h
 obtain⟨r153,h154,h⟩:=obind h
 obtain⟨r155,h156,h⟩:=obind h
 obtain⟨r157,h158,h⟩:=obind h
 obtain⟨r159,h160,h⟩:=obind h
 obtain⟨r161,h162,h⟩:=obind h
 obtain⟨r163,h164,h⟩:=obind h
 obtain⟨r165,h166,h⟩:=obind h
 obtain⟨r167,h168,h⟩:=obind h
 obtain⟨r169,h170,h⟩:=obind h
 obtain⟨r171,h172,h⟩:=obind h
 obtain⟨r173,h174,h⟩:=obind h
 obtain⟨r175,h176,h⟩:=obind h
 obtain⟨r177,h178,h⟩:=obind h
 obtain rfl:=sj h
 exact k44 (tF q44 1 [] (oD (dE [r37,r39,r43,r45,r49,r51,r53,r61,r75,r81,r91,r109,r117,r127,(Ent.mk r9.kind r9.name r9.type r9.body r9.fam r9.place r9.pars r9.inds r9.level r9.cons [16,17]),r139,r147,r155,r157,r161,r167,(Ent.mk 3 (⟨#[112,108,117,115]⟩:ByteArray) r169 r35 0 0 0 0 0 [] []),(Ent.mk 3 (⟨#[105,100]⟩:ByteArray) r173 r177 0 0 0 0 0 [] [])])<|oC 0 [] (c101 h178)<|oC 0 [] (c101 h176)<|oC 0 [] (c100 h16)<|oC 0 [] (c100 h16)<|oC 0 [] (c98 h4)<|oC 0 [] (c97 h174)<|oC 0 [] (c97 h172)<|oC 0 [] (c100 h14)<|oC 0 [] (c100 h16)<|oC 1 [] (c98 h4)<|oC 0 [] (c97 h170)<|oC 3 [] (c97 h42)<|oC 0 [] (c103 h168)<|oC 0 [] (c97 h166)<|oC 0 [] (c95 h160)<|oC 0 [] (c97 h164)<|oC 1 [] (c95 h160)<|oC 0 [] (c103 h162)<|oC 0 [] (c95 h160)<|oC 1 [] (c96 h158)<|oC 0 [] (c98 h4)<|oC 0 [] (c104 h156)<|oC 0 [] (c97 h154)<|oC 0 [] (c97 h152)<|oC 0 [] (c97 h150)<|oC 1 [] (c100 h14)<|oC 0 [] (c98 h4)<|oC 0 [] (c98 h4)<|oC 0 [] (c104 h148)<|oC 0 [] (c97 h146)<|oC 0 [] (c97 h144)<|oC 0 [] (c97 h142)<|oC 1 [] (c100 h66)<|oC 0 [] (c98 h4)<|oC 0 [] (c98 h4)<|oC 0 [] (c103 h140)<|oC 0 [] (c97 h138)<|oC 0 [] (c97 h136)<|oC 0 [] (c97 h134)<|oC 0 [] (c97 h132)<|oC 0 [] (c99 h130)<|oS 0 (obLitR tm_eq [r95,r65])<|oC 0 [] (c100 h66)<|oC 0 [] (c100 h96)<|oC 0 [] (c95 h12)<|oC 0 [] (c100 h14)<|oC 0 [] (c100 h14)<|oC 0 [] (c98 h4)<|oC 1 [] (c98 h4)<|oC 0 [] (c103 h128)<|oC 0 [] (c97 h126)<|oC 0 [] (c97 h124)<|oC 0 [] (c99 h122)<|oS 0 (obLitR tm_eq [r13,r15,r15])<|oC 0 [] (c100 h16)<|oC 0 [] (c100 h16)<|oC 0 [] (c100 h14)<|oC 0 [] (c95 h120)<|oC 0 [] (c100 h16)<|oC 0 [] (c98 h4)<|oC 1 [] (c96 h118)<|oC 0 [] (c97 h116)<|oC 0 [] (c97 h114)<|oC 0 [] (c97 h112)<|oC 0 [] (c98 h4)<|oC 0 [] (c100 h14)<|oC 0 [] (c100 h16)<|oC 0 [] (c98 h4)<|oC 0 [] (c103 h110)<|oC 0 [] (c97 h108)<|oC 0 [] (c97 h106)<|oC 0 [] (c97 h104)<|oC 0 [] (c97 h102)<|oC 0 [] (c99 h100)<|oS 0 (obLitR tm_eq [r95,r97])<|oC 0 [] (c99 h98)<|oS 0 (obLitR tm_eq [r65])<|oC 0 [] (c100 h66)<|oC 0 [] (c95 h24)<|oC 0 [] (c100 h96)<|oC 0 [] (c95 h84)<|oC 0 [] (c99 h94)<|oS 0 (obLitR tm_eq [r65,r13])<|oC 0 [] (c100 h14)<|oC 0 [] (c100 h66)<|oC 0 [] (c95 h84)<|oC 1 [] (c100 h14)<|oC 0 [] (c98 h4)<|oC 0 [] (c103 h92)<|oC 0 [] (c97 h90)<|oC 0 [] (c99 h88)<|oS 0 (obLitR tm_eq [r15,r85])<|oC 0 [] (c95 h86)<|oC 0 [] (c100 h16)<|oC 0 [] (c95 h84)<|oC 0 [] (c98 h4)<|oC 1 [] (c96 h82)<|oC 0 [] (c97 h80)<|oC 0 [] (c97 h78)<|oC 1 [] (c98 h4)<|oC 0 [] (c98 h4)<|oC 0 [] (c103 h76)<|oC 0 [] (c97 h74)<|oC 0 [] (c97 h72)<|oC 0 [] (c97 h70)<|oC 0 [] (c99 h68)<|oS 0 (obLitR tm_eq [r65])<|oC 0 [] (c100 h66)<|oC 0 [] (c95 h56)<|oC 0 [] (c99 h64)<|oS 0 (obLitR tm_eq [r13])<|oC 0 [] (c100 h14)<|oC 0 [] (c95 h56)<|oC 0 [] (c100 h16)<|oC 0 [] (c98 h4)<|oC 0 [] (c103 h62)<|oC 0 [] (c97 h60)<|oC 0 [] (c99 h58)<|oS 0 (obLitR tm_eq [r15])<|oC 0 [] (c100 h16)<|oC 0 [] (c95 h56)<|oC 0 [] (c98 h4)<|oC 1 [] (c96 h54)<|oC 0 [] (c97 h6)<|oC 0 [] (c98 h4)<|oC 0 [] (c98 h4)<|oC 0 [] (c103 h52)<|oC 0 [] (c95 h48)<|oC 0 [] (c103 h50)<|oC 0 [] (c95 h48)<|oC 1 [] (c96 h46)<|oC 0 [] (c98 h4)<|oC 0 [] (c103 h44)<|oC 2 [] (c97 h42)<|oC 1 [] (c103 h40)<|oC 1 [] (c96 h38)<|oC 1 [] (c98 h4)<|oC 0 [] (c101 h36)<|oC 0 [] (c101 h34)<|oC 0 [] (c99 h32)<|oS 0 (obLitR tm_eq [r21,r15,r29,r13])<|oC 0 [] (c100 h14)<|oC 0 [] (c101 h30)<|oC 0 [] (c101 h28)<|oC 0 [] (c99 h26)<|oS 0 (obLitR tm_eq [r15])<|oC 0 [] (c100 h16)<|oC 2 [] (c95 h24)<|oC 0 [] (c100 h16)<|oC 2 [] (c101 h22)<|oC 3 [] (c102 h20)<|oC 0 [] (c99 h18)<|oS 0 (obLitR tm_eq [r13,r15])<|oC 0 [] (c100 h16)<|oC 0 [] (c100 h14)<|oC 3 [] (c95 h12)<|oC 1 [] (c96 h10)<|oC 0 [] (c97 h8)<|oC 0 [] (c97 h6)<|oC 0 [] (c98 h4)<|oC 0 [] (c98 h4)<|oC 1 [] (c98 h4)<|oC 0 [] (c95 h2) o0))
def baseL:List Ent:=match e44 300 with|some l=>l|none=>[]
theorem evt_of{α:Type}{f:Nat->Option α}{r:α}(n:Nat)(h:∀q,f (q+n)=some r):Evt f r:=⟨n,fun q hq=>by have:=h (q-n);rwa[show q-n+n=q by omega]at this⟩
theorem ev_Base:Evt (fun q=>e44 q) baseL:=evt_of 300 fun q=>by kernel_rfl
theorem ev_BaseF:Evt (fun q=>e157 q baseL) true:=evt_of 1000 fun q=>by kernel_rfl
theorem baseL_len:baseL.length=23:=by kernel_rfl
def entC(e:Ent):Bool:=(shapedT e.type||e.type.sub.isEmpty)&&(shapedT e.body||e.body.sub.isEmpty)&&Nat.ble e.cons.length 100&&Nat.ble e.fields.length 100
theorem baseL_c:baseL.all entC=true:=by kernel_rfl
theorem ok_c{t:Tm}(h:(shapedT t||t.sub.isEmpty)=true):t.Ok:=by
 rcases Bool.or_eq_true _ _ |>.mp h with h|h
 ·exact shaped_ok h
 ·obtain⟨k,n,l⟩:=t
  have:l=[]:=List.isEmpty_iff.1 h
  subst this
  exact leaf_ok k n
theorem baseL_ok:∀e∈baseL,EOk e:=fun e h=>by
 have:=List.all_eq_true.1 baseL_c e h
 unfold entC at this
 simp only[Bool.and_eq_true]at this
 obtain⟨⟨⟨a,b⟩,c⟩,d⟩:=this
 have c:=Nat.le_of_ble_eq_true c
 have d:=Nat.le_of_ble_eq_true d
 exact⟨ok_c a,ok_c b,by omega,by omega⟩
theorem baseL_cl:∀e∈baseL,ECl e:=fun e h=>by
 have:=List.all_eq_true.1 baseL_c e h
 unfold entC at this
 simp only[Bool.and_eq_true]at this
 obtain⟨⟨⟨a,b⟩,c⟩,d⟩:=this
 have c:=Nat.le_of_ble_eq_true c
 have d:=Nat.le_of_ble_eq_true d
 exact⟨by omega,by omega⟩
theorem base_new:∃N,AllE N baseL∧Evt (fun q=>e37 q baseL) (newT baseL true):=by
 obtain⟨N,hN⟩:=names_by
 obtain⟨b,hb,hA,hn⟩:=ev_wNew N hN baseL (by rw[baseL_len];omega) baseL_ok baseL_cl
 have:=hb.det ev_BaseF
 subst this
 exact⟨N,hA rfl,hn⟩
def e47Ldj:Nat->(List Tm)->(List Tm)->Int->Option (Bool)
 |0,_,_,_=>none
 |qq+1,p0,p1,v5=>
 if decide (v5<(List.length p0:Int))then
 gidx p0 v5>>=fun x3=>
 gidx p1 v5>>=fun x5=>
 e55 qq x3 x5>>=fun r7=>
 if r7 then
 e47Ldj qq p0 p1 (w64 (v5+1))
 else
 some false
 else
 some true
def e47(qq:Nat)(p0 p1:List Tm):Option (Bool):=
 if (List.length p0:Int) != (List.length p1:Int)then
 some false
 else
 e47Ldj qq p0 p1 0
def g47LdjE0(j:Nat->Value)(p0 p1:List Tm)(v5:Int):=sp j 27 0 [(0,slv tmCells p0 .no),(1,slv tmCells p1 .no),(5,ai v5)]
def g47LdjS0(p0 p1:List Tm)(v5:Int):LSt:=⟨[],0,[],0,[]⟩
abbrev K47 (p0 p1:List Tm) (r:Bool) (C:Cf):Prop:=C 47 [] [slv tmCells p0 .no,slv tmCells p1 .no] (ab r) [] 0
theorem q47:Qf 47 Tryz.f47:=⟨Tryz.func47,by kernel_rfl⟩
theorem k47{p0 p1 r}(h:K47 p0 p1 r Ci):K47 p0 p1 r Ct:=⟨h,⟨⟨tv,dT _⟩,⟨tv,dT _⟩,tv⟩,forall_nil,tv,forall_nil⟩
theorem l47Ldj:∀qq:Nat,(∀p0 p1 v5 r,e47Ldj qq p0 p1 v5=some r->(∀j,Dl Tryz.prog 0 (inn (inn (rgt (lft (rgt (rgt (bod Tryz.f47))))))) (g47LdjE0 j p0 p1 v5) (g47LdjS0 p0 p1 v5) (frameQ Tryz.prog 0 (FinQ Tryz.prog 0 Tryz.f47 (ab r) [] 0) [.blk 0,.seq (rgt (rgt (rgt (bod Tryz.f47))))]))):=by
 intro qq
 induction qq with
 |zero=>
  exact fun _ _ _ _ h=>nn h
 |succ qq ih=>
  intro p0 p1 v5 r h
  rw[e47Ldj]at h
  rcases spl h with⟨h2,h⟩|⟨h2,h⟩
  obtain⟨x3,h4,h⟩:=obind h
  obtain⟨x5,h6,h⟩:=obind h
  obtain⟨r7,h8,h⟩:=obind h
  have k:=oA 1 (ix23 (o:=.no) h6)<|oA 0 (ix23 (o:=.no) h4)<|oB 1 h2 o0
  rcases spl h with⟨h9,h⟩|⟨h9,h⟩
  exact fun j=>lH 2 [] [] [] [0,1,5] (oD (dT p1)<|oD (dT p0)<|oK 1 [] h9 (c55 h8) k) (ih _ _ _ _ h)
  obtain rfl:=sj h
  exact fun j=>lF 1 [] (oK 1 [] h9 (c55 h8) k)
  obtain rfl:=sj h
  exact fun j=>lF 0 [] (oB 1 h2 o0)
theorem c47{qq p0 p1 r}(h:e47 qq p0 p1=some r):K47 p0 p1 r Ct:=by
 unfold e47 at h
 rcases spl h with⟨h1,h⟩|⟨h1,h⟩
 obtain rfl:=sj h
 exact k47 (tF q47 0 [] (oB 2 h1 o0))
 exact k47 (tH q47 0 [] [] [] [0,1,5] (oD (dT p1)<|oD (dT p0)<|oB 2 h1 o0) (l47Ldj _ _ _ _ _ h))
theorem ev_rSameAll(l:List Tm)(hl:LOk l):Evt (fun q=>e47 q l l) true:=by
 simp only[e47]
 refine Evt.ifF (by simp) ?_
 have key:∀(r:List Tm) (v:Nat),l.drop v=r->Evt (fun q=>e47Ldj q l l (v:Int)) true:=by
  intro r
  induction r with
  |nil=>
   intro v hd
   refine Evt.succ ?_
   simp only[e47Ldj]
   exact Evt.ifF (drop_nil hd) Evt.ret
  |cons x r ih=>
   intro v hd
   have hlt:=drop_lt hd
   have:=hl.2
   refine Evt.succ ?_
   simp only[e47Ldj]
   refine Evt.ifT (drop_dec hd) (Evt.pure (drop_idx hd) (Evt.pure (drop_idx hd) ((ev_rEqual x (okL_all hl.1 x (List.mem_of_mem_drop (by rw[hd];simp)))).bind (Evt.ifT rfl ?_))))
   rw[w64_nat v (by omega)]
   exact ih (v+1) (drop_next hd)
 exact key l 0 rfl
def e50Ldk:Nat->(List Tm)->Int->Option (Bool)
 |0,_,_=>none
 |qq+1,p0,v3=>
 if decide (v3<(List.length p0:Int))then
 gidx p0 v3>>=fun x3=>
 e66 qq x3>>=fun r5=>
 if decide (r5>150)then
 some false
 else
 e50Ldk qq p0 (w64 (v3+1))
 else
 some true
def e50(qq:Nat)(p0:List Tm):Option (Bool):=
 if decide ((List.length p0:Int)>24)then
 some false
 else
 e50Ldk qq p0 0
def g50LdkE0(j:Nat->Value)(p0:List Tm)(v3:Int):=sp j 19 0 [(0,slv tmCells p0 .no),(3,ai v3)]
def g50LdkS0(p0:List Tm)(v3:Int):LSt:=⟨[],0,[],0,[]⟩
abbrev K50 (p0:List Tm) (r:Bool) (C:Cf):Prop:=C 50 [] [slv tmCells p0 .no] (ab r) [] 0
theorem q50:Qf 50 Tryz.f50:=⟨Tryz.func50,by kernel_rfl⟩
theorem k50{p0 r}(h:K50 p0 r Ci):K50 p0 r Ct:=⟨h,⟨⟨tv,dT _⟩,tv⟩,forall_nil,tv,forall_nil⟩
theorem l50Ldk:∀qq:Nat,(∀p0 v3 r,e50Ldk qq p0 v3=some r->(∀j,Dl Tryz.prog 0 (inn (inn (rgt (lft (rgt (rgt (bod Tryz.f50))))))) (g50LdkE0 j p0 v3) (g50LdkS0 p0 v3) (frameQ Tryz.prog 0 (FinQ Tryz.prog 0 Tryz.f50 (ab r) [] 0) [.blk 0,.seq (rgt (rgt (rgt (bod Tryz.f50))))]))):=by
 intro qq
 induction qq with
 |zero=>
  exact fun _ _ _ h=>nn h
 |succ qq ih=>
  intro p0 v3 r h
  rw[e50Ldk]at h
  rcases spl h with⟨h2,h⟩|⟨h2,h⟩
  obtain⟨x3,h4,h⟩:=obind h
  obtain⟨r5,h6,h⟩:=obind h
  have k:=oC 1 [] (c66 h6)<|oA 0 (ix23 (o:=.no) h4)<|oB 1 h2 o0
  rcases spl h with⟨h7,h⟩|⟨h7,h⟩
  obtain rfl:=sj h
  exact fun j=>lF 0 [] (oB 0 h7 k)
  exact fun j=>lH 1 [] [] [] [0,3] (oD (dT p0)<|oB 0 h7 k) (ih _ _ _ h)
  obtain rfl:=sj h
  exact fun j=>lF 0 [] (oB 1 h2 o0)
theorem c50{qq p0 r}(h:e50 qq p0=some r):K50 p0 r Ct:=by
 unfold e50 at h
 rcases spl h with⟨h1,h⟩|⟨h1,h⟩
 obtain rfl:=sj h
 exact k50 (tF q50 0 [] (oB 1 h1 o0))
 exact k50 (tH q50 0 [] [] [] [0,3] (oD (dT p0)<|oB 1 h1 o0) (l50Ldk _ _ _ _ h))
def e182(qq:Nat)(p0:Int):Option (PatternPat):=
 some (PatternPat.mk 1 p0 0 [] (Tm.mk 0 0 []))
abbrev K182 (p0:Int) (r:PatternPat) (C:Cf):Prop:=C 182 [] [ai p0] (patternPatA (PatternPat.mk r.kind_ r.n_ r.at_ r.sub_ r.t_)) [] 0
theorem q182:Qf 182 Tryz.f182:=⟨Tryz.func182,by kernel_rfl⟩
theorem k182{p0 r}(h:K182 p0 r Ci):K182 p0 r Ct:=⟨h,⟨tv,tv⟩,forall_nil,⟨tv,tv,tv,dPatternPat _,tv,tv,dT _,tv⟩,forall_nil⟩
theorem c182{qq p0 r}(h:e182 qq p0=some r):K182 p0 r Ct:=by
 unfold e182 at h
 obtain rfl:=sj h
 exact k182 (tF q182 1 [] (oD (dT ([]:List Tm))<|oD (dPatternPat ([]:List PatternPat)) o0))
def e117(qq:Nat)  : Option (List ClauseClause):=
 e182 qq 0>>=fun r1=>
 e100 qq 0>>=fun r3=>
 e182 qq 1>>=fun r5=>
 e95 qq 2>>=fun r7=>
 e100 qq 1>>=fun r9=>
 e99 qq r7 [r9]>>=fun r11=>
 some [(ClauseClause.mk [(PatternPat.mk 2 1 0 [] (Tm.mk 0 0 [])),(PatternPat.mk r1.kind_ r1.n_ r1.at_ r1.sub_ r1.t_)] true r3),(ClauseClause.mk [(PatternPat.mk 2 2 0 [(PatternPat.mk r1.kind_ r1.n_ r1.at_ r1.sub_ r1.t_)] (Tm.mk 0 0 [])),(PatternPat.mk r5.kind_ r5.n_ r5.at_ r5.sub_ r5.t_)] true r11)]
abbrev K117 (r:List ClauseClause) (C:Cf):Prop:=C 117 [] [] (.sl (flat clauseClauseL r) (List.length r) .no) [] 0
theorem q117:Qf 117 Tryz.f117:=⟨Tryz.func117,by kernel_rfl⟩
theorem k117{r}(h:K117 r Ci):K117 r Ct:=⟨h,tv,forall_nil,dClauseClause _,forall_nil⟩
theorem c117{qq r}(h:e117 qq  = some r):K117 r Ct:=by
 unfold e117 at h
 obtain⟨r1,h2,h⟩:=obind h
 obtain⟨r3,h4,h⟩:=obind h
 obtain⟨r5,h6,h⟩:=obind h
 obtain⟨r7,h8,h⟩:=obind h
 obtain⟨r9,h10,h⟩:=obind h
 obtain⟨r11,h12,h⟩:=obind h
 obtain rfl:=sj h
 exact k117 (tF q117 1 [] (oD (dClauseClause [(ClauseClause.mk [(PatternPat.mk 2 1 0 [] (Tm.mk 0 0 [])),(PatternPat.mk r1.kind_ r1.n_ r1.at_ r1.sub_ r1.t_)] true r3),(ClauseClause.mk [(PatternPat.mk 2 2 0 [(PatternPat.mk r1.kind_ r1.n_ r1.at_ r1.sub_ r1.t_)] (Tm.mk 0 0 [])),(PatternPat.mk r5.kind_ r5.n_ r5.at_ r5.sub_ r5.t_)] true r11)])<|oC 0 [] (c99 h12)<|oS 0 (obLitR tm_eq [r9])<|oC 0 [] (c100 h10)<|oC 0 [] (c95 h8)<|oS 0 (obLitR patternPat_eq [(PatternPat.mk 2 2 0 [(PatternPat.mk r1.kind_ r1.n_ r1.at_ r1.sub_ r1.t_)] (Tm.mk 0 0 [])),(PatternPat.mk r5.kind_ r5.n_ r5.at_ r5.sub_ r5.t_)])<|oC 0 [] (c182 h6)<|oS 0 (obLitR patternPat_eq [(PatternPat.mk r1.kind_ r1.n_ r1.at_ r1.sub_ r1.t_)])<|oC 0 [] (c182 h2)<|oC 0 [] (c100 h4)<|oS 0 (obLitR patternPat_eq [(PatternPat.mk 2 1 0 [] (Tm.mk 0 0 [])),(PatternPat.mk r1.kind_ r1.n_ r1.at_ r1.sub_ r1.t_)])<|oC 0 [] (c182 h2) o0))
def e52(qq:Nat)  : Option (Bool):=
 e44 qq>>=fun r1=>
 e37 qq r1>>=fun r3=>
 match r3 with
 |Sum.inl y38=>
  none
 |Sum.inr y5=>
  e45 qq 100>>=fun r6=>
  match r6 with
  |Sum.inl y23=>
   none
  |Sum.inr y8=>
   e117 qq>>=fun r9=>
   e95 qq 1>>=fun r11=>
   e54 qq (Mach.mk y5.2.1 y5.2.2.2.2.1 y5.2.2.2.2.2 y5.2.2.1 y5.2.2.2.1) r9 [r11,r11] y8.2.1 y8.2.2>>=fun r13=>
   match r13 with
   |Sum.inl y15=>
    if y15.2.1==0 then
    if y15.1.row_==0 then
    if y15.1.term_.n==1 then
    some ((List.length y15.1.binds_:Int)==1)
    else
    some false
    else
    some false
    else
    some false
   |Sum.inr y19=>
    if y19.2.2.2.2.2.1==0 then
    if y19.2.1==0 then
    if y19.2.2.2.1==1 then
    some ((List.length y19.1:Int)==1)
    else
    some false
    else
    some false
    else
    some false
abbrev K52 (r:Bool) (C:Cf):Prop:=C 52 [] [] (ab r) [] 0
theorem q52:Qf 52 Tryz.f52:=⟨Tryz.func52,by kernel_rfl⟩
theorem k52{r}(h:K52 r Ci):K52 r Ct:=⟨h,tv,forall_nil,tv,forall_nil⟩
theorem c52{qq r}(h:e52 qq  = some r):K52 r Ct:=by
 unfold e52 at h
 obtain⟨r1,h2,h⟩:=obind h
 obtain⟨r3,h4,h⟩:=obind h
 have k:=oC 0 [] (c44 h2) o0
 rcases r3 with y38|y5
 cases h
 dsimp only at h
 obtain⟨r6,h7,h⟩:=obind h
 have k:=oC 0 [] (c37 h4) k
 rcases r6 with y23|y8
 cases h
 dsimp only at h
 obtain⟨r9,h10,h⟩:=obind h
 obtain⟨r11,h12,h⟩:=obind h
 obtain⟨r13,h14,h⟩:=obind h
 have k:=oS 0 (obLitR tm_eq [r11,r11])<|oC 0 [] (c95 h12)<|oC 0 [] (c95 h12)<|oC 2 [] (c117 h10)<|oC 2 [] (c45 h7) k
 rcases r13 with y15|y19
 dsimp only at h
 have k:=oC 0 [0,1,2] (c54 h14) k
 rcases spl h with⟨h16,h⟩|⟨h16,h⟩
 have k:=oB 3 h16 k
 rcases spl h with⟨h17,h⟩|⟨h17,h⟩
 have k:=oB 1 h17 k
 rcases spl h with⟨h18,h⟩|⟨h18,h⟩
 obtain rfl:=sj h
 exact k52 (tF q52 3 [] (oB 1 h18 k))
 obtain rfl:=sj h
 exact k52 (tF q52 0 [] (oB 1 h18 k))
 obtain rfl:=sj h
 exact k52 (tF q52 0 [] (oB 1 h17 k))
 obtain rfl:=sj h
 exact k52 (tF q52 0 [] (oB 3 h16 k))
 dsimp only at h
 have k:=oC 0 [0,1,2] (c54 h14) k
 rcases spl h with⟨h20,h⟩|⟨h20,h⟩
 have k:=oB 3 h20 k
 rcases spl h with⟨h21,h⟩|⟨h21,h⟩
 have k:=oB 1 h21 k
 rcases spl h with⟨h22,h⟩|⟨h22,h⟩
 obtain rfl:=sj h
 exact k52 (tF q52 3 [] (oB 1 h22 k))
 obtain rfl:=sj h
 exact k52 (tF q52 0 [] (oB 1 h22 k))
 obtain rfl:=sj h
 exact k52 (tF q52 0 [] (oB 1 h21 k))
 obtain rfl:=sj h
 exact k52 (tF q52 0 [] (oB 3 h20 k))
def e10(qq:Nat)(p0:List ClauseClause)(p1:List Tm)(p2:A2U8):Option (Bool):=
 e49 qq p0>>=fun r1=>
 if r1.2 then
 e50 qq p1>>=fun r4=>
 if r4 then
 e44 qq>>=fun r7=>
 e37 qq r7>>=fun r9=>
 match r9 with
 |Sum.inl y244=>
  none
 |Sum.inr y11=>
  e45 qq (w64 (p2.a))>>=fun r12=>
  match r12 with
  |Sum.inl y129=>
   none
  |Sum.inr y14=>
   e54 qq (Mach.mk y11.2.1 y11.2.2.2.2.1 y11.2.2.2.2.2 y11.2.2.1 y11.2.2.2.1) p0 p1 y14.2.1 y14.2.2>>=fun r15=>
   match r15 with
   |Sum.inl y17=>
    if y17.2.1==8 then
    e52 qq>>=fun r19=>
    some r19
    else
    e45 qq (w64 ((w64 (p2.a))+(w64 (p2.b))))>>=fun r21=>
    match r21 with
    |Sum.inl y48=>
     none
    |Sum.inr y23=>
     e54 qq (Mach.mk y11.2.1 y11.2.2.2.2.1 y11.2.2.2.2.2 y11.2.2.1 y11.2.2.2.1) p0 p1 y23.2.1 y23.2.2>>=fun r24=>
     match r24 with
     |Sum.inl y26=>
      if y17.2.1==y26.2.1 then
      if y17.1.row_==y26.1.row_ then
      e47 qq y17.1.binds_ y26.1.binds_>>=fun r29=>
      if r29 then
      e55 qq y17.1.term_ y26.1.term_>>=fun r32=>
      if r32 then
      e52 qq>>=fun r35=>
      some r35
      else
      some false
      else
      some false
      else
      some false
      else
      some false
     |Sum.inr y37=>
      if y17.2.1==y37.2.2.2.2.2.1 then
      if y17.1.row_==y37.2.1 then
      e47 qq y17.1.binds_ y37.1>>=fun r40=>
      if r40 then
      e55 qq y17.1.term_ (Tm.mk y37.2.2.1 y37.2.2.2.1 y37.2.2.2.2.1)>>=fun r43=>
      if r43 then
      e52 qq>>=fun r46=>
      some r46
      else
      some false
      else
      some false
      else
      some false
      else
      some false
   |Sum.inr y73=>
    if y73.2.2.2.2.2.1==8 then
    e52 qq>>=fun r75=>
    some r75
    else
    e45 qq (w64 ((w64 (p2.a))+(w64 (p2.b))))>>=fun r77=>
    match r77 with
    |Sum.inl y104=>
     none
    |Sum.inr y79=>
     e54 qq (Mach.mk y11.2.1 y11.2.2.2.2.1 y11.2.2.2.2.2 y11.2.2.1 y11.2.2.2.1) p0 p1 y79.2.1 y79.2.2>>=fun r80=>
     match r80 with
     |Sum.inl y82=>
      if y73.2.2.2.2.2.1==y82.2.1 then
      if y73.2.1==y82.1.row_ then
      e47 qq y73.1 y82.1.binds_>>=fun r85=>
      if r85 then
      e55 qq (Tm.mk y73.2.2.1 y73.2.2.2.1 y73.2.2.2.2.1) y82.1.term_>>=fun r88=>
      if r88 then
      e52 qq>>=fun r91=>
      some r91
      else
      some false
      else
      some false
      else
      some false
      else
      some false
     |Sum.inr y93=>
      if y73.2.2.2.2.2.1==y93.2.2.2.2.2.1 then
      if y73.2.1==y93.2.1 then
      e47 qq y73.1 y93.1>>=fun r96=>
      if r96 then
      e55 qq (Tm.mk y73.2.2.1 y73.2.2.2.1 y73.2.2.2.2.1) (Tm.mk y93.2.2.1 y93.2.2.2.1 y93.2.2.2.2.1)>>=fun r99=>
      if r99 then
      e52 qq>>=fun r102=>
      some r102
      else
      some false
      else
      some false
      else
      some false
      else
      some false
 else
 e52 qq>>=fun r477=>
 some r477
 else
 e52 qq>>=fun r479=>
 some r479
abbrev K10 (p0:List ClauseClause) (p1:List Tm) (p2:A2U8) (r:Bool) (C:Cf):Prop:=C 10 [] [slv clauseClauseL p0 .no,slv tmCells p1 .no,a2U8A p2] (ab r) [] 0
theorem q10:Qf 10 Tryz.f10:=⟨Tryz.func10,by kernel_rfl⟩
theorem k10{p0 p1 p2 r}(h:K10 p0 p1 p2 r Ci):K10 p0 p1 p2 r Ct:=⟨h,⟨⟨tv,dClauseClause _⟩,⟨tv,dT _⟩,⟨tv,tv,tv⟩,tv⟩,forall_nil,tv,forall_nil⟩
theorem c10{qq p0 p1 p2 r}(h:e10 qq p0 p1 p2=some r):K10 p0 p1 p2 r Ct:=by
 unfold e10 at h
 obtain⟨r1,h2,h⟩:=obind h
 have k:=oC 0 [] (c49 h2) o0
 rcases spl h with⟨h3,h⟩|⟨h3,h⟩
 obtain⟨r4,h5,h⟩:=obind h
 have k:=oB 1 h3 k
 rcases spl h with⟨h6,h⟩|⟨h6,h⟩
 obtain⟨r7,h8,h⟩:=obind h
 obtain⟨r9,h10,h⟩:=obind h
 have k:=oC 1 [] (c44 h8)<|oK 1 [] h6 (c50 h5) k
 rcases r9 with y244|y11
 cases h
 dsimp only at h
 obtain⟨r12,h13,h⟩:=obind h
 have k:=oC 0 [] (c37 h10) k
 rcases r12 with y129|y14
 cases h
 dsimp only at h
 obtain⟨r15,h16,h⟩:=obind h
 have k:=oC 5 [] (c45 h13) k
 rcases r15 with y17|y73
 dsimp only at h
 have k:=oC 2 [1,2,3] (c54 h16) k
 rcases spl h with⟨h18,h⟩|⟨h18,h⟩
 obtain⟨r19,h20,h⟩:=obind h
 obtain rfl:=sj h
 exact k10 (tF q10 0 [] (oC 0 [] (c52 h20)<|oB 3 h18 k))
 obtain⟨r21,h22,h⟩:=obind h
 have k:=oB 3 h18 k
 rcases r21 with y48|y23
 cases h
 dsimp only at h
 obtain⟨r24,h25,h⟩:=obind h
 have k:=oC 7 [] (c45 h22) k
 rcases r24 with y26|y37
 dsimp only at h
 have k:=oC 2 [1,2,5] (c54 h25) k
 rcases spl h with⟨h27,h⟩|⟨h27,h⟩
 have k:=oB 3 h27 k
 rcases spl h with⟨h28,h⟩|⟨h28,h⟩
 obtain⟨r29,h30,h⟩:=obind h
 have k:=oB 2 h28 k
 rcases spl h with⟨h31,h⟩|⟨h31,h⟩
 obtain⟨r32,h33,h⟩:=obind h
 have k:=oK 2 [] h31 (c47 h30) k
 rcases spl h with⟨h34,h⟩|⟨h34,h⟩
 obtain⟨r35,h36,h⟩:=obind h
 obtain rfl:=sj h
 exact k10 (tF q10 0 [] (oC 0 [] (c52 h36)<|oK 2 [] h34 (c55 h33) k))
 obtain rfl:=sj h
 exact k10 (tF q10 0 [] (oK 2 [] h34 (c55 h33) k))
 obtain rfl:=sj h
 exact k10 (tF q10 0 [] (oK 2 [] h31 (c47 h30) k))
 obtain rfl:=sj h
 exact k10 (tF q10 0 [] (oB 2 h28 k))
 obtain rfl:=sj h
 exact k10 (tF q10 0 [] (oB 3 h27 k))
 dsimp only at h
 have k:=oC 2 [1,2,5] (c54 h25) k
 rcases spl h with⟨h38,h⟩|⟨h38,h⟩
 have k:=oB 3 h38 k
 rcases spl h with⟨h39,h⟩|⟨h39,h⟩
 obtain⟨r40,h41,h⟩:=obind h
 have k:=oB 2 h39 k
 rcases spl h with⟨h42,h⟩|⟨h42,h⟩
 obtain⟨r43,h44,h⟩:=obind h
 have k:=oK 2 [] h42 (c47 h41) k
 rcases spl h with⟨h45,h⟩|⟨h45,h⟩
 obtain⟨r46,h47,h⟩:=obind h
 obtain rfl:=sj h
 exact k10 (tF q10 0 [] (oC 0 [] (c52 h47)<|oK 2 [] h45 (c55 h44) k))
 obtain rfl:=sj h
 exact k10 (tF q10 0 [] (oK 2 [] h45 (c55 h44) k))
 obtain rfl:=sj h
 exact k10 (tF q10 0 [] (oK 2 [] h42 (c47 h41) k))
 obtain rfl:=sj h
 exact k10 (tF q10 0 [] (oB 2 h39 k))
 obtain rfl:=sj h
 exact k10 (tF q10 0 [] (oB 3 h38 k))
 dsimp only at h
 have k:=oC 2 [1,2,3] (c54 h16) k
 rcases spl h with⟨h74,h⟩|⟨h74,h⟩
 obtain⟨r75,h76,h⟩:=obind h
 obtain rfl:=sj h
 exact k10 (tF q10 0 [] (oC 0 [] (c52 h76)<|oB 3 h74 k))
 obtain⟨r77,h78,h⟩:=obind h
 have k:=oB 3 h74 k
 rcases r77 with y104|y79
 cases h
 dsimp only at h
 obtain⟨r80,h81,h⟩:=obind h
 have k:=oC 7 [] (c45 h78) k
 rcases r80 with y82|y93
 dsimp only at h
 have k:=oC 2 [1,2,5] (c54 h81) k
 rcases spl h with⟨h83,h⟩|⟨h83,h⟩
 have k:=oB 3 h83 k
 rcases spl h with⟨h84,h⟩|⟨h84,h⟩
 obtain⟨r85,h86,h⟩:=obind h
 have k:=oB 2 h84 k
 rcases spl h with⟨h87,h⟩|⟨h87,h⟩
 obtain⟨r88,h89,h⟩:=obind h
 have k:=oK 2 [] h87 (c47 h86) k
 rcases spl h with⟨h90,h⟩|⟨h90,h⟩
 obtain⟨r91,h92,h⟩:=obind h
 obtain rfl:=sj h
 exact k10 (tF q10 0 [] (oC 0 [] (c52 h92)<|oK 2 [] h90 (c55 h89) k))
 obtain rfl:=sj h
 exact k10 (tF q10 0 [] (oK 2 [] h90 (c55 h89) k))
 obtain rfl:=sj h
 exact k10 (tF q10 0 [] (oK 2 [] h87 (c47 h86) k))
 obtain rfl:=sj h
 exact k10 (tF q10 0 [] (oB 2 h84 k))
 obtain rfl:=sj h
 exact k10 (tF q10 0 [] (oB 3 h83 k))
 dsimp only at h
 have k:=oC 2 [1,2,5] (c54 h81) k
 rcases spl h with⟨h94,h⟩|⟨h94,h⟩
 have k:=oB 3 h94 k
 rcases spl h with⟨h95,h⟩|⟨h95,h⟩
 obtain⟨r96,h97,h⟩:=obind h
 have k:=oB 2 h95 k
 rcases spl h with⟨h98,h⟩|⟨h98,h⟩
 obtain⟨r99,h100,h⟩:=obind h
 have k:=oK 2 [] h98 (c47 h97) k
 rcases spl h with⟨h101,h⟩|⟨h101,h⟩
 obtain⟨r102,h103,h⟩:=obind h
 obtain rfl:=sj h
 exact k10 (tF q10 0 [] (oC 0 [] (c52 h103)<|oK 2 [] h101 (c55 h100) k))
 obtain rfl:=sj h
 exact k10 (tF q10 0 [] (oK 2 [] h101 (c55 h100) k))
 obtain rfl:=sj h
 exact k10 (tF q10 0 [] (oK 2 [] h98 (c47 h97) k))
 obtain rfl:=sj h
 exact k10 (tF q10 0 [] (oB 2 h95 k))
 obtain rfl:=sj h
 exact k10 (tF q10 0 [] (oB 3 h94 k))
 obtain⟨r477,h478,h⟩:=obind h
 obtain rfl:=sj h
 exact k10 (tF q10 0 [] (oC 1 [] (c52 h478)<|oK 1 [] h6 (c50 h5) k))
 obtain⟨r479,h480,h⟩:=obind h
 obtain rfl:=sj h
 exact k10 (tF q10 0 [] (oC 1 [] (c52 h480)<|oB 1 h3 k))
theorem ev_cawake:Evt (fun q=>e52 q) true:=evt_of 2000 fun q=>by kernel_rfl
theorem baseL_cop:baseL.map copE=baseL:=by kernel_rfl
theorem tot_small28(l:List Tm):Tot (fun q=>e50 q l) fun b=>b=true->l.length≤24:=by
 simp only[e50]
 refine Tot.ite (fun _=>Tot.ret fun h=>nomatch h) fun h=>?_
 have h':=of_decide_eq_false h
 have key:∀(r:List Tm) (v:Nat),l.drop v=r->Tot (fun q=>e50Ldk q l (v:Int)) fun _=>True:=by
  intro r
  induction r with
  |nil=>
   intro v hd
   refine Tot.succ ?_
   simp only[e50Ldk]
   refine Tot.ite (fun h=>?_) fun _=>Tot.ret trivial
   rw[drop_nil hd]at h;cases h
  |cons x r ih=>
   intro v hd
   have hlt:=drop_lt hd
   refine Tot.succ ?_
   simp only[e50Ldk]
   refine Tot.ite (fun _=>Tot.pure (drop_idx hd) (Tot.bind (P:=fun _=>True) ((ev_rSize x).tot trivial) fun _ _=>Tot.ite (fun _=>Tot.ret trivial) fun _=>?_)) fun h=>?_
   ·rw[w64_nat v (by omega)]
    exact ih (v+1) (drop_next hd)
   ·rw[drop_dec hd]at h;cases h
 exact(key l 0 rfl).mono fun _ _ _=>by omega
theorem ev_ClauseFuel(cs:List ClauseClause)(as0:List Tm)(a b:Int)(hcs:cs.length≤17592186044416)(ho:∀c∈cs,okC c)(ha:OkA as0)(h0:0≤a∧a≤255)(h1:0≤b∧b≤255):Evt (fun q=>e10 q cs as0 (A2U8.mk a b)) true:=by
 obtain⟨h0a,h0b⟩:=h0
 obtain⟨h1a,h1b⟩:=h1
 simp only[e10]
 obtain⟨r1,h,hr⟩:=tot_of28 cs hcs ho
 refine h.bind (Evt.iff (fun hp=>?_) fun _=>ev_cawake.bind Evt.ret)
 have hnd:=hr hp
 obtain⟨bb,hb,hbl⟩:=tot_small28 as0
 refine hb.bind (Evt.iff (fun hs=>?_) fun _=>ev_cawake.bind Evt.ret)
 have hl:=hbl hs
 obtain⟨N,hE,hn⟩:=base_new
 refine ev_Base.bind (hn.bind ?_)
 have ea:w64 a=a:=w64_id (by omega) (by omega)
 have eb:w64 b=b:=w64_id (by omega) (by omega)
 rw[ea,eb,w64_id (x:=a+b) (by omega) (by omega)]
 unfold newT
 rw[if_pos rfl]
 dsimp only
 refine(ev_mNew a (by omega) (by omega)).bind ?_
 dsimp only
 rcases out_Apply baseL hE baseL_ok ev_BaseF (by rw[baseL_len];omega) baseL_cl baseL_cop cs hcs (fun c hc=>⟨ho c hc,hnd c hc⟩) as0 ha (by omega) a h0a with⟨R,k,k0,k1,hQ,h3,-⟩|⟨hsh,-⟩
 ·have e1:=h3 a 0 k1 (by omega) (by omega)
  have e2:=h3 (a+b) 0 (by omega) (by omega) (by omega)
  have m2:=ev_mNew (a+b) (by omega) (by omega)
  rcases hQ with⟨d,e,hd,ht,rfl⟩|⟨y1,y2,y3,y4,y5,e,hd,ht,rfl⟩
  ·refine Evt.bind e1 ?_
   dsimp only
   refine Evt.iff (fun _=>ev_cawake.bind Evt.ret) fun _=>m2.bind ?_
   dsimp only
   refine Evt.bind e2 ?_
   dsimp only
   exact Evt.ifT (by simp) (Evt.ifT (by simp) ((ev_rSameAll _ hd).bind (Evt.ifT rfl ((ev_rEqual _ ht).bind (Evt.ifT rfl (ev_cawake.bind Evt.ret))))))
  ·refine Evt.bind e1 ?_
   dsimp only
   refine Evt.iff (fun _=>ev_cawake.bind Evt.ret) fun _=>m2.bind ?_
   dsimp only
   refine Evt.bind e2 ?_
   dsimp only
   exact Evt.ifT (by simp) (Evt.ifT (by simp) ((ev_rSameAll _ hd).bind (Evt.ifT rfl ((ev_rEqual _ ht).bind (Evt.ifT rfl (ev_cawake.bind Evt.ret))))))
 ·obtain⟨r,hr8,h8⟩:=hsh 0 (by omega) (by omega)
  refine Evt.bind hr8 ?_
  match r,h8 with
  | .inl y,h8=>exact Evt.ifT (by have h8':y.2.1=8:=h8;rw[h8'];rfl) (ev_cawake.bind Evt.ret)
  | .inr y,h8=>exact Evt.ifT (by have h8':y.2.2.2.2.2.1=8:=h8;rw[h8'];rfl) (ev_cawake.bind Evt.ret)
theorem okL_eachC:∀ {l:List Tm},OkL l->∀x∈l,x.Ok
 | [],_,_,h=>nomatch h
 |a::l,⟨h1,h2⟩,x,hx=>by
  rcases List.mem_cons.1 hx with rfl|hx
  ·exact h1
  ·exact okL_eachC h2 x hx
theorem clauseFuel_ct(cs:List ClauseClause)(as0:List Tm)(fu:A2U8)(w0:(∀e∈cs,okC e)∧cs.length≤17592186044416)(w1:OkL as0∧as0.length<9223372036854775808)(w2:RdA2U8 fu):CT Tryz.prog 10 [] [.sl (flat clauseClauseL cs) cs.length .no,.sl (flat tmCells as0) as0.length .no,.agg (a2U8L fu)] (ab true) [] 0:=by
 obtain⟨a,b⟩:=fu
 obtain⟨⟨h0,h1⟩,h2,h3⟩:=w2
 have h0':(0:Int)≤a:=h0
 have h1':(a:Int)<256:=h1
 have h2':(0:Int)≤b:=h2
 have h3':(b:Int)<256:=h3
 obtain⟨q,hq⟩:=(ev_ClauseFuel cs as0 a b w0.2 w0.1 (okL_eachC w1.1) ⟨h0',Int.le_of_lt_add_one h1'⟩ ⟨h2',Int.le_of_lt_add_one h3'⟩).at
 exact c10 hq
end Go.Proofs.YtmfcobjnlabpoaaGreat
