/- Texts: AbF120 AbF287 AbF225 AbF158 AbPq AbF83 AbF37 AbPr AbF139 AbF204 AbF140 AbF73 AbSe AbF66 AbF19 AbPd AbF70 AbF18 AbF71 AbF20 AbPe AbF85 AbF30 AbF168 AbF116 AbPf AbF207 AbF208 AbF77 AbF209 AbF76 AbF78 AbF79 AbF86 AbF87 AbSf AbF141 AbF142 AbSg AbF74 AbF75 AbF23 AbSh AbF31 AbSk AbQa AbF146 AbF217 AbF218 AbF148 AbF154 AbF216 AbF150 AbF153 AbF159 AbF160 AbF215 AbF288 AbF220va37776 AbF226 AbF161 AbQb AbF314 AbF162 AbF84 AbQc AbQd AbF32 AbF27 AbF143 AbF80 AbF81 AbF144 AbF152 AbF221 AbF220va64692 AbF155 AbF145 AbF213 AbF214 AbF147 AbF82 AbF28 AbF84va2970 AbF29 AbF6 AbTh AbF113va9626 AbF271 AbF230 AbF342va12063 AbF342va37370 AbF303 AbF252 AbF274 AbQe AbF138_202_272_273 -/
import Derived.KernelRfl
import Derived.Test.YtmfcobjnlabpoaaGreatAbB3
set_option linter.unusedVariables false
set_option linter.unusedSimpArgs false
set_option linter.unusedSectionVars false
namespace Go.Proofs.YtmfcobjnlabpoaaGreat
open Go Go.Ab
def e120(_qq:Nat)(p0:List Tm):Option (List Tm):=gapp 40 [] p0
theorem c120{qq:Nat}{p0:List Tm}{r:List Tm}(h:e120 qq p0=some r):CT Tryz.prog 120 [] [.sl (flat tmCells p0) (List.length p0) .no] (.sl (flat tmCells r) (List.length r) .no) [] 0:=by
 have hr:r=p0:=by have:=(gapp_spec h).2;simpa using this
 have h1:e120v1 qq p0=some r:=by unfold e120v1;rw[show gapp 40 ([]:List Tm) p0=some r from h];rfl
 have k1:=c120v1 h1
 refine⟨CTri.nilcase (fun hn=>?_) k1.tri,⟨⟨trivial,dT _⟩,trivial⟩,(fun _ h=>nomatch h),dT _,(fun _ h=>nomatch h)⟩
 have hp:p0=[]:=flat_nil codecT (by decide) hn
 subst hr
 subst hp
 exact(c120v0 (qq:=qq) rfl).tri
def e287(qq:Nat)(p0:List Ent)(p1:Tm)(p2 p3:Int):Option (Rec'):=
 e286 qq p1>>=fun r1=>
 e167 qq r1.2.1>>=fun r3=>
 if r1.2.2 != 0 then
 some (Rec'.mk false [] [])
 else
 if r3.1.k != 6 then
 some (Rec'.mk false [] [])
 else
 if r3.1.n != p2 then
 some (Rec'.mk false [] [])
 else
 gidx p0 p2>>=fun x8=>
 e328 qq r1.2.1 p2 x8.pars x8.inds (w64 (p3+(List.length r1.1:Int)))>>=fun r10=>
 if r10 then
 gsl r3.2 x8.pars (List.length r3.2:Int)>>=fun x13=>
 e120 qq x13>>=fun r15=>
 some (Rec'.mk true r1.1 r15)
 else
 some (Rec'.mk false [] [])
abbrev K287 (p0:List Ent) (p1:Tm) (p2 p3:Int) (r:Rec') (C:Cf):Prop:=C 287 [] [slv entL p0 .no,tmA p1,ai p2,ai p3] (recA r) [] 0
theorem q287:Qf 287 Tryz.f287:=⟨Tryz.func287,by kernel_rfl⟩
theorem k287{p0 p1 p2 p3 r}(h:K287 p0 p1 p2 p3 r Ci):K287 p0 p1 p2 p3 r Ct:=⟨h,⟨⟨tv,dE _⟩,⟨tv,tv,⟨tv,dT _⟩,tv⟩,tv,tv,tv⟩,forall_nil,⟨tv,dT _,dT _,tv⟩,forall_nil⟩
theorem c287{qq p0 p1 p2 p3 r}(h:e287 qq p0 p1 p2 p3=some r):K287 p0 p1 p2 p3 r Ct:=by
 unfold e287 at h
 obtain⟨r1,h2,h⟩:=obind h
 obtain⟨r3,h4,h⟩:=obind h
 have k:=oC 5 [] (c167 h4)<|oC 1 [] (c286 h2) o0
 rcases spl h with⟨h5,h⟩|⟨h5,h⟩
 obtain rfl:=sj h
 exact k287 (tF q287 1 [] (oD (dT ([]:List Tm))<|oD (dT ([]:List Tm))<|oB 3 h5 k))
 have k:=oB 3 h5 k
 rcases spl h with⟨h6,h⟩|⟨h6,h⟩
 obtain rfl:=sj h
 exact k287 (tF q287 1 [] (oD (dT ([]:List Tm))<|oD (dT ([]:List Tm))<|oB 1 h6 k))
 have k:=oB 1 h6 k
 rcases spl h with⟨h7,h⟩|⟨h7,h⟩
 obtain rfl:=sj h
 exact k287 (tF q287 1 [] (oD (dT ([]:List Tm))<|oD (dT ([]:List Tm))<|oB 1 h7 k))
 obtain⟨x8,h9,h⟩:=obind h
 obtain⟨r10,h11,h⟩:=obind h
 have k:=oA 1 (ix22 (o:=.no) h9)<|oA 1 (ix22 (o:=.no) h9)<|oB 1 h7 k
 rcases spl h with⟨h12,h⟩|⟨h12,h⟩
 obtain⟨x13,h14,h⟩:=obind h
 obtain⟨r15,h16,h⟩:=obind h
 obtain rfl:=sj h
 exact k287 (tF q287 1 [] (oD (dT r15)<|oD (dT r1.1)<|oC 0 [] (c120 h16)<|oA 1 (slFrom23 h14)<|oA 1 (ix22 (o:=.no) h9)<|oK 3 [] h12 (c328 h11) k))
 obtain rfl:=sj h
 exact k287 (tF q287 2 [] (oD (dT ([]:List Tm))<|oD (dT ([]:List Tm))<|oK 3 [] h12 (c328 h11) k))
def e225Lbc:Nat->(List Ent)->Ent->(List Tm)->(List Tm)->Int->(List Rec')->Option (Con')
 |0,_,_,_,_,_,_=>none
 |qq+1,p0,x1,x7,r11,v43,vb2_2=>
 if decide (v43<(List.length x7:Int))then
 gidx x7 v43>>=fun x14=>
 e287 qq p0 x14 x1.fam (w64 (x1.pars+v43))>>=fun r16=>
 gapp 56 vb2_2 [r16]>>=fun l18=>
 e225Lbc qq p0 x1 x7 r11 (w64 (v43+1)) l18
 else
 some (Con'.mk x7 r11 vb2_2)
def e225(qq:Nat)(p0:List Ent)(p1:Int):Option (Con'):=
 gidx p0 p1>>=fun x1=>
 e286 qq x1.type>>=fun r3=>
 e167 qq r3.2.1>>=fun r5=>
 gsl r3.1 x1.pars (List.length r3.1:Int)>>=fun x7=>
 gsl r5.2 x1.pars (List.length r5.2:Int)>>=fun x9=>
 e120 qq x9>>=fun r11=>
 e225Lbc qq p0 x1 x7 r11 0 []
def g225LbcE0(j:Nat->Value)(p0:List Ent)(x1:Ent)(x7 r11:List Tm)(v43:Int)(vb2_2:List Rec'):=sp j 64 0 [(0,slv entL p0 .no),(4,.mp 0 0),(5,.mp 1 0),(11,.mp 2 0),(41,slv tmCells x7 .no),(42,ai (List.length x7:Int)),(43,ai v43)]
def g225LbcS0(p0:List Ent)(x1:Ent)(x7 r11:List Tm)(v43:Int)(vb2_2:List Rec'):LSt:=⟨[(0,.cells [slv tmCells ([]:List Tm) .nl,slv tmCells ([]:List Tm) .nl,slv recL ([]:List Rec') .nl]),(1,.cells [ai x1.kind,at' x1.name,ai x1.type.k,ai x1.type.n,slv tmCells x1.type.sub .no,ai x1.body.k,ai x1.body.n,slv tmCells x1.body.sub .no,ai x1.fam,ai x1.place,ai x1.pars,ai x1.inds,ai x1.level,slv intC x1.cons .no,slv intC x1.fields .no]),(2,.cells [slv tmCells x7 .no,slv tmCells r11 .no,slv recL vb2_2 (.st 0 3)])],3,[0],1,[]⟩
abbrev K225 (p0:List Ent) (p1:Int) (r:Con') (C:Cf):Prop:=C 225 [] [slv entL p0 .no,ai p1] (conA r) [] 0
theorem q225:Qf 225 Tryz.f225:=⟨Tryz.func225,by kernel_rfl⟩
theorem k225{p0 p1 r}(h:K225 p0 p1 r Ci):K225 p0 p1 r Ct:=⟨h,⟨⟨tv,dE _⟩,tv,tv⟩,forall_nil,⟨dT _,dT _,dR _,tv⟩,forall_nil⟩
theorem l225Lbc:∀qq:Nat,(∀p0 x1 x7 r11 v43 vb2_2 r,e225Lbc qq p0 x1 x7 r11 v43 vb2_2=some r->(∀j,Dl Tryz.prog 0 (inn (inn (rgt (lft (rgt (rgt (rgt (rgt (rgt (bod Tryz.f225)))))))))) (g225LbcE0 j p0 x1 x7 r11 v43 vb2_2) (g225LbcS0 p0 x1 x7 r11 v43 vb2_2) (frameQ Tryz.prog 0 (FinQ Tryz.prog 0 Tryz.f225 (conA r) [] 0) [.blk 0,.seq (rgt (rgt (rgt (rgt (rgt (rgt (bod Tryz.f225)))))))]))):=by
 intro qq
 induction qq with
 |zero=>
  exact fun _ _ _ _ _ _ _ h=>nn h
 |succ qq ih=>
  intro p0 x1 x7 r11 v43 vb2_2 r h
  rw[e225Lbc]at h
  rcases spl h with⟨h13,h⟩|⟨h13,h⟩
  obtain⟨x14,h15,h⟩:=obind h
  obtain⟨r16,h17,h⟩:=obind h
  obtain⟨l18,h19,h⟩:=obind h
  exact fun j=>lH 2 [] [0,1,2] [1] [0,4,5,11,41,42,43] (oD (dT x7)<|oD (dE p0)<|oD (dR l18)<|oD (dT r11)<|oD (dT x7)<|oD (dI x1.fields)<|oD (dI x1.cons)<|oD (dT x1.body.sub)<|oD (dT x1.type.sub)<|oD (dR ([]:List Rec'))<|oD (dT ([]:List Tm))<|oD (dT ([]:List Tm))<|oP 1 (apS250 h19 (by simp))<|oC 7 [] (c287 h17)<|oA 0 (ix23 (o:=.no) h15)<|oB 0 h13 o0) (ih _ _ _ _ _ _ _ h)
  obtain rfl:=sj h
  exact fun j=>lF 2 [] (oD (dR vb2_2)<|oD (dT r11)<|oD (dT x7)<|oB 0 h13 o0)
theorem c225{qq p0 p1 r}(h:e225 qq p0 p1=some r):K225 p0 p1 r Ct:=by
 unfold e225 at h
 obtain⟨x1,h2,h⟩:=obind h
 obtain⟨r3,h4,h⟩:=obind h
 obtain⟨r5,h6,h⟩:=obind h
 obtain⟨x7,h8,h⟩:=obind h
 obtain⟨x9,h10,h⟩:=obind h
 obtain⟨r11,h12,h⟩:=obind h
 exact k225 (tH q225 3 [(some 4,2,3)] [0,1,4] [0] [0,4,5,11,41,42,43] (oD (dT x7)<|oD (dE p0)<|oD (dR ([]:List Rec'))<|oD (dT r11)<|oD (dT x7)<|oD (dI x1.fields)<|oD (dI x1.cons)<|oD (dT x1.body.sub)<|oD (dT x1.type.sub)<|oD (dR ([]:List Rec'))<|oD (dT ([]:List Tm))<|oD (dT ([]:List Tm))<|oC 0 [] (c120 h12)<|oA 1 (slFrom23 h10)<|oA 4 (slFrom23 h8)<|oC 5 [] (c167 h6)<|oC 3 [] (c286 h4)<|oA 0 (ix22 (o:=.no) h2) o0) (l225Lbc _ _ _ _ _ _ _ _ h))
def e158Lbd:Nat->(List Ent)->(List Con')->Int->(List Con')->Option ((List Con' × Int) ⊕ (List Con' × Int))
 |0,_,_,_,_=>none
 |qq+1,p0,x4,v14,vb0_0=>
 if decide (v14<(List.length p0:Int))then
 gidx p0 v14>>=fun x7=>
 if x7.kind==2 then
 e225 qq p0 v14>>=fun r10=>
 gchk (List.length x4) v14>>=fun x12=>
 gset vb0_0 x12 r10>>=fun x14=>
 e158Lbd qq p0 x4 (w64 (v14+1)) x14
 else
 e158Lbd qq p0 x4 (w64 (v14+1)) vb0_0
 else
 gfz (List.length x4) vb0_0>>=fun l16=>
 some (Sum.inr (l16,0))
def e158(qq:Nat)(p0:List Ent):Option ((List Con' × Int) ⊕ (List Con' × Int)):=
 e157 qq p0>>=fun r1=>
 if r1 then
 gmk 72 (default:Con') (List.length p0:Int)>>=fun x4=>
 e158Lbd qq p0 x4 0 x4
 else
 some (Sum.inl ([],5))
def g158LbdE0(j:Nat->Value)(p0:List Ent)(x4:List Con')(v14:Int)(vb0_0:List Con'):=sp j 31 0 [(0,slv entL p0 .no),(4,.ms 0 0 (List.length x4) (List.length x4) 3),(13,ai (List.length p0:Int)),(14,ai v14)]
def g158LbdS0(p0:List Ent)(x4:List Con')(v14:Int)(vb0_0:List Con'):LSt:=⟨[(0,.row (flat conL vb0_0))],1,[],0,[]⟩
abbrev K158s0 (p0:List Ent) (r:List Con' × Int) (C:Cf):Prop:=C 158 [] [slv entL p0 .no] (.tup [.sl (flat conL r.1) (List.length r.1) .no,ai r.2]) [] 0
abbrev K158s1 (p0:List Ent) (r:List Con' × Int) (C:Cf):Prop:=C 158 [] [slv entL p0 .no] (.tup [.ms 0 0 (List.length r.1) (List.length r.1) 3,ai r.2]) [.row (flat conL r.1)] 0
theorem q158:Qf 158 Tryz.f158:=⟨Tryz.func158,by kernel_rfl⟩
theorem k158s0{p0 r}(h:K158s0 p0 r Ci):K158s0 p0 r Ct:=⟨h,⟨⟨tv,dE _⟩,tv⟩,forall_nil,⟨dC _,tv,tv⟩,forall_nil⟩
theorem k158s1{p0 r}(h:K158s1 p0 r Ci):K158s1 p0 r Ct:=⟨h,⟨⟨tv,dE _⟩,tv⟩,forall_nil,⟨(lz rfl),tv,tv⟩,(forall_cons (dC _) forall_nil)⟩
theorem l158Lbd:∀qq:Nat,(∀p0 x4 v14 vb0_0 r,e158Lbd qq p0 x4 v14 vb0_0=some r->(∀j,Dl Tryz.prog 0 (inn (inn (rgt (lft (rgt (rgt (rgt (bod Tryz.f158)))))))) (g158LbdE0 j p0 x4 v14 vb0_0) (g158LbdS0 p0 x4 v14 vb0_0) (frameQ Tryz.prog 0 ((match (generalizing:=false) r with|Sum.inl x=>FinQ Tryz.prog 0 Tryz.f158 (.tup [.sl (flat conL x.1) (List.length x.1) .no,ai x.2]) [] 0|Sum.inr x=>FinQ Tryz.prog 0 Tryz.f158 (.tup [.ms 0 0 (List.length x.1) (List.length x.1) 3,ai x.2]) [.row (flat conL x.1)] 0)) [.blk 0,.seq (rgt (rgt (rgt (rgt (bod Tryz.f158)))))]))):=by
 intro qq
 induction qq with
 |zero=>
  exact fun _ _ _ _ _ h=>nn h
 |succ qq ih=>
  intro p0 x4 v14 vb0_0 r h
  rw[e158Lbd]at h
  rcases spl h with⟨h6,h⟩|⟨h6,h⟩
  obtain⟨x7,h8,h⟩:=obind h
  have k:=oA 0 (ix22 (o:=.no) h8)<|oB 0 h6 o0
  rcases spl h with⟨h9,h⟩|⟨h9,h⟩
  obtain⟨r10,h11,h⟩:=obind h
  obtain⟨x12,h13,h⟩:=obind h
  obtain⟨x14,h15,h⟩:=obind h
  exact fun j=>lH 1 [] [0] [] [0,4,13,14] (oD (dE p0)<|oD (dC x14)<|oW 0 (wtE (x:=r10) (cs:=[slv tmCells r10.args .no,slv tmCells r10.inds .no,slv recL r10.recs .no]) codecC rfl h15)<|oA 0 (ixM245 (b:=0) (c:=List.length x4) (z:=3) h13)<|oC 0 [] (c225 h11)<|oB 1 h9 k) (ih _ _ _ _ _ h)
  exact fun j=>lH 1 [] [0] [] [0,4,13,14] (oD (dE p0)<|oD (dC vb0_0)<|oB 1 h9 k) (ih _ _ _ _ _ h)
  obtain⟨l16,h17,h⟩:=obind h
  obtain⟨h17a,h17b⟩:=gfz_spec h17
  obtain rfl:=sj h
  obtain rfl:=h17a.symm
  dsimp only
  rw[←h17b]
  exact fun j=>lF 0 [0] (oD (dC vb0_0)<|oB 0 h6 o0)
theorem c158r{qq p0 r}(h:e158 qq p0=some r):(match (generalizing:=false) r with|Sum.inl x=>K158s0 p0 x Ct|Sum.inr x=>K158s1 p0 x Ct):=by
 unfold e158 at h
 obtain⟨r1,h2,h⟩:=obind h
 rcases spl h with⟨h3,h⟩|⟨h3,h⟩
 obtain⟨x4,h5,h⟩:=obind h
 rcases r with y0|y1
 exact k158s0 (tH q158 1 [] [0] [] [0,4,13,14] (oD (dE p0)<|oD (dC x4)<|oM 2 (mkM245 h5)<|oK 0 [] h3 (c157 h2) o0) (l158Lbd _ _ _ _ _ _ h))
 exact k158s1 (tH q158 1 [] [0] [] [0,4,13,14] (oD (dE p0)<|oD (dC x4)<|oM 2 (mkM245 h5)<|oK 0 [] h3 (c157 h2) o0) (l158Lbd _ _ _ _ _ _ h))
 obtain rfl:=sj h
 exact k158s0 (tF q158 1 [] (oD (dC ([]:List Con'))<|oK 0 [] h3 (c157 h2) o0))
theorem c158{qq p0 r}(h:e158 qq p0=some r):(match (generalizing:=false) r with|Sum.inl x=>CT Tryz.prog 158 [] [slv entL p0 .no] (.tup [.sl (flat conL x.1) (List.length x.1) .no,ai x.2]) [] 0|Sum.inr x=>CT Tryz.prog 158 [] [slv entL p0 .no] (.tup [.sl (flat conL x.1) (List.length x.1) .no,ai x.2]) [] 0):=by
 have k:=c158r h
 rcases r with y0|y1
 ·exact k
 ·exact CT.freeze (H1:=[]) (cs:=flat conL y1.1) (res':=(.tup [.sl (flat conL y1.1) (List.length y1.1) .no,ai y1.2])) k (Nat.le_of_ble_eq_true rfl) forall_nil (dC _) ⟨(.inl ⟨rfl,rfl⟩),trivial,tv⟩ (by rfl) rfl
theorem splitT_err{t:Tm}{n:Int}(h:(splitT t n).2.2≠0):(splitT t n).2.1=zT∧(splitT t n).1=[]:=by
 unfold splitT at h ⊢
 split
 ·split
  ·exact⟨rfl,rfl⟩
  ·split
   ·exact⟨rfl,rfl⟩
   ·rename_i h1 h2 h3
    rw[if_pos h1,if_neg h2,if_neg h3]at h
    cases hr:splT n.toNat t with
    |none=>exact⟨rfl,rfl⟩
    |some r=>rw[hr]at h;exact absurd rfl h
 ·exact⟨rfl,rfl⟩
theorem spine_z:Evt (fun q=>e167 q zT) (hdT zT,arT zT):=by
 refine Evt.mk fun q=>?_
 show g167L0 zT zT []=_
 unfold zT g167L0 hdT arT
 simp
theorem ev_SpineW(t:Tm):Evt (fun q=>e167 q (wholeT t).2.1) (hdT (wholeT t).2.1,arT (wholeT t).2.1):=by
 by_cases h:(wholeT t).2.2=0
 ·have hw:=wholeT_ok (t:=t) (l:=(wholeT t).1) (y:=(wholeT t).2.1) (by rw[←h])
  exact ev_Spine _ hw.2.2.2.2.1
 ·have:=(splitT_err (t:=t) (n:=((min (pisT t) 25:Nat):Int)) h).1
  have e:(wholeT t).2.1=zT:=this
  rw[e];exact spine_z
def recT(l:List Ent)(t:Tm)(of b:Int):Rec':=
 if (wholeT t).2.2=0∧appliedT (wholeT t).2.1 of (ent l of).pars (ent l of).inds (b+(wholeT t).1.length)=true then Rec'.mk true (wholeT t).1 ((arT (wholeT t).2.1).drop (ent l of).pars.toNat)else Rec'.mk false [] []
theorem gsl_from{α:Type}{L:List α}{n:Int}(h0:0≤n)(h1:n≤L.length):gsl L n (L.length:Int)=some (L.drop n.toNat):=by
 unfold gsl
 rw[if_pos ⟨h0,h1,by omega⟩]
 congr 1
 exact List.take_of_length_le (by simp;omega)
theorem appliedT_spec{t:Tm}{of pars more b:Int}(h:appliedT t of pars more b=true):(hdT t).k=6∧(hdT t).n=of∧((arT t).length:Int)=pars+more:=by
 unfold appliedT at h
 simp only[Bool.and_eq_true,beq_iff_eq]at h
 exact⟨h.1.1.1,h.1.1.2,h.1.2⟩
theorem ev_rec(l:List Ent)(t:Tm)(of b:Int)(ho:t.Ok)(h0:0≤of)(h1:of<l.length)(hp:0≤(ent l of).pars∧0≤(ent l of).inds∧(ent l of).pars+(ent l of).inds≤24)(hb:0≤b∧b≤1048576) :
  Evt (fun q=>e287 q l t of b) (recT l t of b):=by
 simp only[e287]
 refine(ev_Whole t ho).bind ((ev_SpineW t).bind ?_)
 unfold recT
 by_cases a1:(wholeT t).2.2=0
 ·have hw:=wholeT_ok (t:=t) (l:=(wholeT t).1) (y:=(wholeT t).2.1) (by rw[←a1])
  refine Evt.ifF (by simp[a1]) ?_
  have hlen:=hw.2.2.1
  rw[w64_id (x:=b+((wholeT t).1.length:Int)) (by omega) (by omega)]
  have ha:=ev_applied (wholeT t).2.1 of (ent l of).pars (ent l of).inds (b+(wholeT t).1.length) hw.2.2.2.2.1 (by omega) (by omega) (by omega)
  by_cases a2:appliedT (wholeT t).2.1 of (ent l of).pars (ent l of).inds (b+(wholeT t).1.length)=true
  ·have hs:=appliedT_spec a2
   rw[if_pos ⟨a1,a2⟩]
   refine Evt.ifF (by simp[hs.1]) (Evt.ifF (by simp[hs.2.1]) (Evt.pure (gidx_ent h0 h1) (ha.bind (Evt.ifT a2 (Evt.pure (gsl_from hp.1 (by show _≤((arT (wholeT t).2.1).length:Int);omega)) ?_)))))
   have hal:=ar_len _ (shapedT_spec hw.2.2.2.2.1).2.2
   have hn:=(shapedT_spec hw.2.2.2.2.1).1
   refine Evt.bind (a:=(arT (wholeT t).2.1).drop (ent l of).pars.toNat) (Evt.mk fun q=>(gapp_ok (by simp<;>omega)).trans (by simp)) Evt.ret
  ·rw[if_neg (fun h=>a2 h.2)]
   refine Evt.iff (fun _=>Evt.ret) fun _=>Evt.iff (fun _=>Evt.ret) fun _=>Evt.pure (gidx_ent h0 h1) (ha.bind (Evt.ifF (by simpa using a2) Evt.ret))
 ·rw[if_neg (fun h=>a1 h.1)]
  exact Evt.ifT (by simp[a1]) Evt.ret
def recsT(l:List Ent)(of:Int):List Tm->Int->List Rec'
 | [],_=>[]
 |a::r,b=>recT l a of b::recsT l of r (b+1)
theorem recsT_len(l:List Ent)(of:Int):∀(r:List Tm) (b:Int),(recsT l of r b).length=r.length
 | [],_=>rfl
 |a::r,b=>congrArg (· + 1) (recsT_len l of r (b+1))
def partsT(l:List Ent)(i:Int):Con':=
 Con'.mk ((wholeT (ent l i).type).1.drop (ent l i).pars.toNat) ((arT (wholeT (ent l i).type).2.1).drop (ent l i).pars.toNat) (recsT l (ent l i).fam ((wholeT (ent l i).type).1.drop (ent l i).pars.toNat) (ent l i).pars)
theorem ev_partsL(l:List Ent)(x:Ent)(A I:List Tm)(hA:∀t∈A,t.Ok)(hl:A.length≤24)(h0:0≤x.fam)(h1:x.fam<l.length)(hp:0≤(ent l x.fam).pars∧0≤(ent l x.fam).inds∧(ent l x.fam).pars+(ent l x.fam).inds≤24)(hb:0≤x.pars∧x.pars≤24) :
  ∀(r:List Tm) (v:Nat) (acc:List Rec'),A.drop v=r->acc.length≤v->Evt (fun q=>e225Lbc q l x A I (v:Int) acc) (Con'.mk A I (acc++recsT l x.fam r (x.pars+v)))
 | [],v,acc,hd,ha=>by
  refine Evt.succ ?_
  simp only[e225Lbc]
  exact Evt.ifF (drop_nil hd) (Evt.ret.eq (by simp[recsT]))
 |t::r,v,acc,hd,ha=>by
  have hlt:=drop_lt hd
  have ht:t∈A:=by
   have:t∈A.drop v:=by rw[hd];simp
   exact List.mem_of_mem_drop this
  refine Evt.succ ?_
  simp only[e225Lbc]
  rw[w64_id (x:=x.pars+v) (by omega) (by omega)]
  refine Evt.ifT (drop_dec hd) (Evt.pure (drop_idx hd) ((ev_rec l t x.fam (x.pars+v) (hA t ht) h0 h1 hp (by omega)).bind (Evt.pure (gapp_ok (by simp<;>omega)) ?_)))
  rw[w64_nat v (by omega)]
  refine(ev_partsL l x A I hA hl h0 h1 hp hb r (v+1) _ (drop_next hd) (by simp<;>omega)).eq ?_
  rw[recsT,show x.pars+((v+1:Nat):Int)=x.pars+v+1 by omega];simp
theorem con_facts{N:ByteArray->Bool}{l:List Ent}{i:Int}(hE:AllE N l)(h0:0≤i)(h1:i<l.length)(hk:(ent l i).kind=2) :
  ∃(A:List Tm) (y:Tm),wholeT (ent l i).type=(A,y,0)∧shapedT y=true∧(∀t∈A,shapedT t=true)∧A.length=pisT (ent l i).type∧A.length≤24∧0≤(ent l i).pars∧(ent l i).pars≤A.length ∧
   0≤(ent l i).fam∧(ent l i).fam<i∧(ent l (ent l i).fam).kind=1∧(ent l i).pars=(ent l (ent l i).fam).pars∧0≤(ent l (ent l i).fam).inds∧(ent l (ent l i).fam).pars+(ent l (ent l i).fam).inds≤24 ∧
   appliedT y (ent l i).fam (ent l i).pars (ent l (ent l i).fam).inds A.length=true∧0≤(ent l i).place∧(ent l i).place<(ent l (ent l i).fam).cons.length:=by
 have hc:=(entryT_spec (hE.2 i h0 h1)).2.2.1 hk
 unfold conT at hc
 simp only[Bool.and_eq_true,beq_iff_eq,decide_eq_true_eq]at hc
 obtain⟨a1,a2,a3,a4⟩:=hc
 have ho:=ownedT_spec a1
 have hf:=familyT_spec ((entryT_spec (hE.2 _ ho.1 (by omega))).2.1 ho.2.2.1)
 have hw:=wholeT_ok (t:=(ent l i).type) (l:=(wholeT (ent l i).type).1) (y:=(wholeT (ent l i).type).2.1) (by rw[←a2])
 have hown:ownL l (ent l i)=(ent l (ent l i).fam).cons:=by unfold ownL;rw[if_neg (by omega)]
 have h6:=ho.2.2.2.2.2
 rw[hown]at h6
 exact⟨_,_,by rw[←a2],hw.2.2.2.2.1,hw.2.2.2.2.2,hw.2.1,hw.2.2.1,by omega,a3,ho.1,ho.2.1,ho.2.2.1,ho.2.2.2.1,hf.2.1,hf.2.2.1,a4,ho.2.2.2.2.1,h6⟩
theorem shaped_ok{t:Tm}(h:shapedT t=true):t.Ok:=good_ok t (shapedT_spec h).2.2
theorem ev_parts{N:ByteArray->Bool}(l:List Ent)(i:Int)(hE:AllE N l)(h0:0≤i)(h1:i<l.length)(hk:(ent l i).kind=2)(he:∀e∈l,EOk e):Evt (fun q=>e225 q l i) (partsT l i):=by
 simp only[e225]
 obtain⟨A,y,hw,hy,hA,hAp,hA24,p0,p1,f0,f1,fk,fp,fi,fs,hap,-,-⟩:=con_facts hE h0 h1 hk
 have hsp:=appliedT_spec hap
 refine Evt.pure (gidx_ent h0 h1) ((ev_Whole _ (he _ (ent_mem h0 h1)).1).bind ((ev_SpineW _).bind ?_))
 unfold partsT
 rw[hw]
 have hal:=ar_len _ (shapedT_spec hy).2.2
 have hn:=(shapedT_spec hy).1
 refine Evt.pure (gsl_from p0 p1) (Evt.pure (gsl_from p0 (by show _≤((arT y).length:Int);omega)) (Evt.bind (a:=(arT y).drop (ent l i).pars.toNat) (Evt.mk fun q=>(gapp_ok (by simp<;>omega)).trans (by simp)) ?_))
 refine(ev_partsL l (ent l i) (A.drop (ent l i).pars.toNat) ((arT y).drop (ent l i).pars.toNat) (fun t ht=>shaped_ok (hA t (List.mem_of_mem_drop ht))) (by simp;omega) f0 (by omega) (by omega) (by omega) _ 0 [] rfl (by simp)).eq ?_
 simp
def evA(l:List Ent):Nat->Nat->List Con'
 |0,_=>[]
 |m+1,v=>(if (ent l v).kind=2 then partsT l v else default)::evA l m (v+1)
theorem evA_get(l:List Ent):∀(m v j:Nat),j<m->(evA l m v)[j]? = some (if (ent l ((v+j:Nat):Int)).kind=2 then partsT l ((v+j:Nat):Int)else default)
 |m+1,v,0,_=>by simp[evA]
 |m+1,v,j+1,h=>by
  rw[evA,List.getElem?_cons_succ,evA_get l m (v+1) j (by omega),show v+1+j=v+(j+1) by omega]
theorem ev_EveryL{N:ByteArray->Bool}(l:List Ent)(x4:List Con')(hx:x4.length=l.length)(hE:AllE N l)(he:∀e∈l,EOk e):∀(m v:Nat) (acc:List Con'),v+m=l.length->acc.length=v ->
  Evt (fun q=>e158Lbd q l x4 (v:Int) (acc++List.replicate m default)) (.inr (acc++evA l m v,0)):=by
 intro m
 induction m with
 |zero=>
  intro v acc hm ha
  refine Evt.succ ?_
  simp only[e158Lbd]
  refine Evt.ifF (decide_eq_false (by omega)) (Evt.pure (a:=acc++List.replicate 0 default) (by unfold gfz;rw[if_pos (by simp;omega)]) (Evt.ret.eq (by simp[evA])))
 |succ m ih=>
  intro v acc hm ha
  refine Evt.succ ?_
  simp only[e158Lbd]
  refine Evt.ifT (decide_eq_true (by omega)) (Evt.pure (gidx_ent (by omega) (by omega)) ?_)
  have hl:=hE.1
  rw[w64_nat v (by omega),evA]
  by_cases k:(ent l v).kind=2
  ·rw[if_pos k]
   refine Evt.ifT (by simp[k]) ((ev_parts l v hE (by omega) (by omega) k he).bind ?_)
   refine Evt.pure (a:=v) (by unfold gchk;rw[if_pos (by omega)];simp) ?_
   refine Evt.pure (a:=acc++partsT l v::List.replicate m default) ?_ ?_
   ·unfold gset
    rw[if_pos (by simp;omega),List.set_append_right _ _ (by omega),show v-acc.length=0 by omega,List.replicate_succ];rfl
   ·have:=ih (v+1) (acc++[partsT l v]) (by omega) (by simp;omega)
    simpa using this
  ·rw[if_neg k]
   refine Evt.ifF (by simp[k]) ?_
   have:=ih (v+1) (acc++[default]) (by omega) (by simp;omega)
   rw[List.replicate_succ]
   simpa using this
def e83(qq:Nat)(p0:List Ent):Option ((Int) ⊕ (Int×List Ent×List Con')):=
 e88 qq p0>>=fun r1=>
 e157 qq p0>>=fun r3=>
 if r3 then
 e158 qq r1>>=fun r6=>
 match r6 with
 |Sum.inl y8=>
  if y8.2 != 0 then
  some (Sum.inl y8.2)
  else
  some (Sum.inr (0,r1,y8.1))
 |Sum.inr y10=>
  if y10.2 != 0 then
  some (Sum.inl y10.2)
  else
  some (Sum.inr (0,r1,y10.1))
 else
 some (Sum.inl 5)
abbrev K83s0 (p0:List Ent) (r:Int) (C:Cf):Prop:=C 83 [] [slv entL p0 .no] (.tup [.val (.pointer none),ai r]) [] 0
abbrev K83s1 (p0:List Ent) (r:Int×List Ent×List Con') (C:Cf):Prop:=C 83 [] [slv entL p0 .no] (.tup [.mp 0 0,ai r.1]) [.cells [slv entL r.2.1 .no,slv conL r.2.2 .no]] 0
theorem q83:Qf 83 Tryz.f83:=⟨Tryz.func83,by kernel_rfl⟩
theorem k83s0{p0 r}(h:K83s0 p0 r Ci):K83s0 p0 r Ct:=⟨h,⟨⟨tv,dE _⟩,tv⟩,forall_nil,⟨tv,tv,tv⟩,forall_nil⟩
theorem k83s1{p0 r}(h:K83s1 p0 r Ci):K83s1 p0 r Ct:=⟨h,⟨⟨tv,dE _⟩,tv⟩,forall_nil,⟨(lz rfl),tv,tv⟩,(forall_cons ⟨dE _,dC _,tv⟩ forall_nil)⟩
theorem c83{qq p0 r}(h:e83 qq p0=some r):(match (generalizing:=false) r with|Sum.inl x=>K83s0 p0 x Ct|Sum.inr x=>K83s1 p0 x Ct):=by
 unfold e83 at h
 obtain⟨r1,h2,h⟩:=obind h
 obtain⟨r3,h4,h⟩:=obind h
 have k:=oC 0 [] (c88 h2) o0
 rcases spl h with⟨h5,h⟩|⟨h5,h⟩
 obtain⟨r6,h7,h⟩:=obind h
 have k:=oK 0 [] h5 (c157 h4) k
 rcases r6 with y8|y10
 dsimp only at h
 have k:=oC 1 [] (c158 h7) k
 rcases spl h with⟨h9,h⟩|⟨h9,h⟩
 obtain rfl:=sj h
 exact k83s0 (tF q83 0 [] (oB 2 h9 k))
 obtain rfl:=sj h
 exact k83s1 (tF q83 0 [0] (oD (dC y8.1)<|oD (dE r1)<|oB 2 h9 k))
 dsimp only at h
 have k:=oC 1 [] (c158 h7) k
 rcases spl h with⟨h11,h⟩|⟨h11,h⟩
 obtain rfl:=sj h
 exact k83s0 (tF q83 0 [] (oB 2 h11 k))
 obtain rfl:=sj h
 exact k83s1 (tF q83 0 [0] (oD (dC y10.1)<|oD (dE r1)<|oB 2 h11 k))
 obtain rfl:=sj h
 exact k83s0 (tF q83 1 [] (oK 0 [] h5 (c157 h4) k))
theorem ev_Every{N:ByteArray->Bool}(l:List Ent)(hf:Evt (fun q=>e157 q l) true)(hE:AllE N l)(he:∀e∈l,EOk e):Evt (fun q=>e158 q l) (.inr (evA l l.length 0,0)):=by
 simp only[e158]
 have hl:=hE.1
 refine hf.bind (Evt.ifT rfl (Evt.pure (a:=List.replicate l.length default) ?_ ?_))
 ·unfold gmk;rw[if_pos (by omega)];rfl
 ·exact(ev_EveryL l (List.replicate l.length default) (by simp) hE he l.length 0 [] (by omega) rfl).eq (by simp)
def rulesT(l:List Ent)(b:Bool):(Int) ⊕ (Int×List Ent×List Con'):=if b=true then .inr (0,l,evA l l.length 0)else .inl 5
theorem ev_iNew(N:ByteArray->Bool)(hN:NamesBy N)(l:List Ent)(hl:l.length≤65535)(he:∀e∈l,EOk e)(hc:∀e∈l,ECl e):∃b,Evt (fun q=>e157 q l) b∧(b=true->AllE N l)∧Evt (fun q=>e83 q l) (rulesT l b):=by
 obtain⟨d,-,hd⟩:=ev_Formed N hN l hl he
 refine⟨_,hd,formedT_spec,?_⟩
 simp only[e83]
 refine(ev_sCopy l hl he hc).bind (hd.bind ?_)
 unfold rulesT
 by_cases h:formedT N d l=true
 ·rw[if_pos h]
  have hA:=formedT_spec h
  rw[copy_same hA]
  refine Evt.ifT h ((ev_Every l (hd.eq h) hA he).bind ?_)
  exact Evt.ifF (by simp) Evt.ret
 ·rw[if_neg h]
  exact Evt.ifF (by simpa using h) Evt.ret
def argsT(e:Ent):Int:=if e.kind=1 then e.pars+2+e.cons.length+e.inds else 0
abbrev K19 (p0:Tm) (r:Int) (C:Cf):Prop:=C 19 [] [tmA p0] (ai r) [] 0
theorem k19{p0 r}(h:K19 p0 r Ci):K19 p0 r Ct:=⟨h,⟨⟨tv,tv,⟨tv,dT _⟩,tv⟩,tv⟩,forall_nil,tv,forall_nil⟩
theorem nodes_sub(t:Tm):t.nodes=1+nodesL t.sub:=by cases t;rw[Tm.nodes,Tm.sub]
abbrev K18 (p0:Tm) (r:Bool) (C:Cf):Prop:=C 18 [] [tmA p0] (ab r) [] 0
theorem k18{p0 r}(h:K18 p0 r Ci):K18 p0 r Ct:=⟨h,⟨⟨tv,tv,⟨tv,dT _⟩,tv⟩,tv⟩,forall_nil,tv,forall_nil⟩
abbrev K20 (p0:Tm) (p1 r:Int) (C:Cf):Prop:=C 20 [] [tmA p0,ai p1] (ai r) [] 0
theorem k20{p0 p1 r}(h:K20 p0 p1 r Ci):K20 p0 p1 r Ct:=⟨h,⟨⟨tv,tv,⟨tv,dT _⟩,tv⟩,tv,tv⟩,forall_nil,tv,forall_nil⟩
def e85Lbe:Nat->(List Int)->Int->(List Int)->Bool->Int->Option (List Int)
 |0,_,_,_,_,_=>none
 |qq+1,p0,p1,v5,v6,v7=>
 if v6 then
 if decide (v7<(List.length p0:Int))then
 gidx p0 v7>>=fun x2=>
 gapp 8 v5 [x2]>>=fun l4=>
 e85Lbe qq p0 p1 l4 true (w64 (v7+1))
 else
 some v5
 else
 if decide (v7<(List.length p0:Int))then
 gidx p0 v7>>=fun x7=>
 if decide (x7≥p1)then
 if decide (x7>p1)then
 gapp 8 v5 [p1]>>=fun l11=>
 gapp 8 l11 [x7]>>=fun l13=>
 e85Lbe qq p0 p1 l13 true (w64 (v7+1))
 else
 gapp 8 v5 [x7]>>=fun l15=>
 e85Lbe qq p0 p1 l15 true (w64 (v7+1))
 else
 gapp 8 v5 [x7]>>=fun l17=>
 e85Lbe qq p0 p1 l17 false (w64 (v7+1))
 else
 gapp 8 v5 [p1]>>=fun l19=>
 some l19
def e85(qq:Nat)(p0:List Int)(p1:Int):Option (List Int):=
 e85Lbe qq p0 p1 [] false 0
def g85LbeE0(j:Nat->Value)(p0:List Int)(p1:Int)(v5:List Int)(v6:Bool)(v7:Int):=sp j 49 0 [(0,slv intC p0 .no),(1,ai p1),(5,slv intC v5 (.st 0 1)),(6,ab v6),(7,ai v7)]
def g85LbeS0(p0:List Int)(p1:Int)(v5:List Int)(v6:Bool)(v7:Int):LSt:=⟨[],0,[0],1,[]⟩
abbrev K85 (p0:List Int) (p1:Int) (r:List Int) (C:Cf):Prop:=C 85 [] [slv intC p0 .no,ai p1] (.sl (flat intC r) (List.length r) .no) [] 0
theorem q85:Qf 85 Tryz.f85:=⟨Tryz.func85,by kernel_rfl⟩
theorem k85{p0 p1 r}(h:K85 p0 p1 r Ci):K85 p0 p1 r Ct:=⟨h,⟨⟨tv,dI _⟩,tv,tv⟩,forall_nil,dI _,forall_nil⟩
theorem l85Lbe:∀qq:Nat,(∀p0 p1 v5 v6 v7 r,e85Lbe qq p0 p1 v5 v6 v7=some r->(∀j,Dl Tryz.prog 0 (inn (inn (rgt (lft (rgt (rgt (rgt (bod Tryz.f85)))))))) (g85LbeE0 j p0 p1 v5 v6 v7) (g85LbeS0 p0 p1 v5 v6 v7) (frameQ Tryz.prog 0 (FinQ Tryz.prog 0 Tryz.f85 (.sl (flat intC r) (List.length r) .no) [] 0) [.blk 0,.seq (rgt (rgt (rgt (rgt (bod Tryz.f85)))))]))):=by
 intro qq
 induction qq with
 |zero=>
  exact fun _ _ _ _ _ _ h=>nn h
 |succ qq ih=>
  intro p0 p1 v5 v6 v7 r h
  rw[e85Lbe]at h
  cases v6
  replace h:=ifF rfl h
  rcases spl h with⟨h6,h⟩|⟨h6,h⟩
  obtain⟨x7,h8,h⟩:=obind h
  have k:=oA 1 (ix41 (o:=.no) h8)<|oB 1 h6 o0
  rcases spl h with⟨h9,h⟩|⟨h9,h⟩
  have k:=oA 0 (ix41 (o:=.no) h8)<|oB 1 h9 k
  rcases spl h with⟨h10,h⟩|⟨h10,h⟩
  obtain⟨l11,h12,h⟩:=obind h
  obtain⟨l13,h14,h⟩:=obind h
  exact fun j=>lH 1 [] [] [2] [0,1,5,6,7] (oD (dI l13)<|oD (dI p0)<|oP 2 (apS41 h14 (by simp))<|oA 0 (ix41 (o:=.no) h8)<|oP 1 (apS41 h12 (by simp))<|oB 1 h10 k) (ih _ _ _ _ _ _ h)
  obtain⟨l15,h16,h⟩:=obind h
  exact fun j=>lH 1 [] [] [1] [0,1,5,6,7] (oD (dI l15)<|oD (dI p0)<|oP 2 (apS41 h16 (by simp))<|oA 0 (ix41 (o:=.no) h8)<|oB 1 h10 k) (ih _ _ _ _ _ _ h)
  obtain⟨l17,h18,h⟩:=obind h
  exact fun j=>lH 1 [] [] [1] [0,1,5,6,7] (oD (dI l17)<|oD (dI p0)<|oP 2 (apS41 h18 (by simp))<|oA 0 (ix41 (o:=.no) h8)<|oB 1 h9 k) (ih _ _ _ _ _ _ h)
  obtain⟨l19,h20,h⟩:=obind h
  obtain rfl:=sj h
  exact fun j=>lF 0 [] (oD (dI l19)<|oP 2 (apS41 h20 (by simp))<|oB 1 h6 o0)
  replace h:=ifT rfl h
  rcases spl h with⟨h1,h⟩|⟨h1,h⟩
  obtain⟨x2,h3,h⟩:=obind h
  obtain⟨l4,h5,h⟩:=obind h
  exact fun j=>lH 1 [] [] [1] [0,1,5,6,7] (oD (dI l4)<|oD (dI p0)<|oP 2 (apS41 h5 (by simp))<|oA 1 (ix41 (o:=.no) h3)<|oB 1 h1 o0) (ih _ _ _ _ _ _ h)
  obtain rfl:=sj h
  exact fun j=>lF 1 [] (oD (dI v5)<|oB 1 h1 o0)
theorem c85{qq p0 p1 r}(h:e85 qq p0 p1=some r):K85 p0 p1 r Ct:=by
 unfold e85 at h
 exact k85 (tH q85 1 [(none,5,1)] [] [0] [0,1,5,6,7] (oD (dI ([]:List Int))<|oD (dI p0) o0) (l85Lbe _ _ _ _ _ _ _ h))
mutual
def e30:Nat->Tm->Int->Int->Option (List Int)
 |0,_,_,_=>none
 |qq+1,p0,p1,p2=>
 if p0.k==p1 then
 gapp 8 ([]:List Int) [p0.n]>>=fun l2=>
 e30Lbf qq p0 p1 p2 l2 0
 else
 if p0.k==p2 then
 gapp 8 ([]:List Int) [p0.n]>>=fun l5=>
 e30Lbf qq p0 p1 p2 l5 0
 else
 e30Lbf qq p0 p1 p2 [] 0
def e30Lbf:Nat->Tm->Int->Int->(List Int)->Int->Option (List Int)
 |0,_,_,_,_,_=>none
 |qq+1,p0,p1,p2,v7,v8=>
 if decide (v8<(List.length p0.sub:Int))then
 gidx p0.sub v8>>=fun x5=>
 e30 qq x5 p1 p2>>=fun r7=>
 e30Lbg qq p0 p1 p2 v8 r7 0 v7
 else
 some v7
def e30Lbg:Nat->Tm->Int->Int->Int->(List Int)->Int->(List Int)->Option (List Int)
 |0,_,_,_,_,_,_,_=>none
 |qq+1,p0,p1,p2,v8,r7,v10,v7=>
 if decide (v10<(List.length r7:Int))then
 gidx r7 v10>>=fun x10=>
 e85 qq v7 x10>>=fun r12=>
 e30Lbg qq p0 p1 p2 v8 r7 (w64 (v10+1)) r12
 else
 e30Lbf qq p0 p1 p2 v7 (w64 (v8+1))
end
def g30LbfE0(j:Nat->Value)(p0:Tm)(p1 p2:Int)(v7:List Int)(v8:Int):=sp j 55 0 [(1,ai p1),(2,ai p2),(3,.mp 0 0),(7,slv intC v7 (.st 0 1)),(8,ai v8)]
def g30LbfS0(p0:Tm)(p1 p2:Int)(v7:List Int)(v8:Int):LSt:=⟨[(0,.cells [ai p0.k,ai p0.n,slv tmCells p0.sub .no])],1,[0],1,[]⟩
def g30LbfE1(j:Nat->Value)(p0:Tm)(p1 p2:Int)(v7:List Int)(v8:Int):=sp j 55 0 [(1,ai p1),(2,ai p2),(3,.mp 0 0),(7,slv intC v7 .no),(8,ai v8)]
def g30LbfS1(p0:Tm)(p1 p2:Int)(v7:List Int)(v8:Int):LSt:=⟨[(0,.cells [ai p0.k,ai p0.n,slv tmCells p0.sub .no])],1,[],0,[]⟩
def g30LbfE2(j:Nat->Value)(p0:Tm)(p1 p2:Int)(v7:List Int)(v8:Int):=sp j 55 0 [(1,ai p1),(2,ai p2),(3,.mp 0 0),(7,slv intC v7 .full),(8,ai v8)]
def g30LbfS2(p0:Tm)(p1 p2:Int)(v7:List Int)(v8:Int):LSt:=⟨[(0,.cells [ai p0.k,ai p0.n,slv tmCells p0.sub .no])],1,[],0,[]⟩
def g30LbgE0(j:Nat->Value)(p0:Tm)(p1 p2 v8:Int)(r7:List Int)(v10:Int)(v7:List Int):=sp j 55 0 [(1,ai p1),(2,ai p2),(3,.mp 0 0),(7,slv intC v7 (.st 0 1)),(8,ai v8),(9,slv intC r7 .no),(10,ai v10)]
def g30LbgS0(p0:Tm)(p1 p2 v8:Int)(r7:List Int)(v10:Int)(v7:List Int):LSt:=⟨[(0,.cells [ai p0.k,ai p0.n,slv tmCells p0.sub .no])],1,[0],1,[]⟩
def g30LbgE1(j:Nat->Value)(p0:Tm)(p1 p2 v8:Int)(r7:List Int)(v10:Int)(v7:List Int):=sp j 55 0 [(1,ai p1),(2,ai p2),(3,.mp 0 0),(7,slv intC v7 .no),(8,ai v8),(9,slv intC r7 .no),(10,ai v10)]
def g30LbgS1(p0:Tm)(p1 p2 v8:Int)(r7:List Int)(v10:Int)(v7:List Int):LSt:=⟨[(0,.cells [ai p0.k,ai p0.n,slv tmCells p0.sub .no])],1,[],0,[]⟩
def g30LbgE2(j:Nat->Value)(p0:Tm)(p1 p2 v8:Int)(r7:List Int)(v10:Int)(v7:List Int):=sp j 55 0 [(1,ai p1),(2,ai p2),(3,.mp 0 0),(7,slv intC v7 .full),(8,ai v8),(9,slv intC r7 .no),(10,ai v10)]
def g30LbgS2(p0:Tm)(p1 p2 v8:Int)(r7:List Int)(v10:Int)(v7:List Int):LSt:=⟨[(0,.cells [ai p0.k,ai p0.n,slv tmCells p0.sub .no])],1,[],0,[]⟩
abbrev K30 (p0:Tm) (p1 p2:Int) (r:List Int) (C:Cf):Prop:=C 30 [] [tmA p0,ai p1,ai p2] (.sl (flat intC r) (List.length r) .no) [] 0
theorem q30:Qf 30 Tryz.f30:=⟨Tryz.func30,by kernel_rfl⟩
theorem k30{p0 p1 p2 r}(h:K30 p0 p1 p2 r Ci):K30 p0 p1 p2 r Ct:=⟨h,⟨⟨tv,tv,⟨tv,dT _⟩,tv⟩,tv,tv,tv⟩,forall_nil,dI _,forall_nil⟩
theorem a30_30Lbf_30Lbg:∀qq:Nat,(∀p0 p1 p2 r,e30 qq p0 p1 p2=some r->K30 p0 p1 p2 r Ct)∧(∀p0 p1 p2 v7 v8 r,e30Lbf qq p0 p1 p2 v7 v8=some r->(∀j,Dl Tryz.prog 0 (inn (inn (rgt (lft (rgt (rgt (rgt (bod Tryz.f30)))))))) (g30LbfE0 j p0 p1 p2 v7 v8) (g30LbfS0 p0 p1 p2 v7 v8) (frameQ Tryz.prog 0 (FinQ Tryz.prog 0 Tryz.f30 (.sl (flat intC r) (List.length r) .no) [] 0) [.blk 0,.seq (rgt (rgt (rgt (rgt (bod Tryz.f30)))))]))∧(∀j,Dl Tryz.prog 0 (inn (inn (rgt (lft (rgt (rgt (rgt (bod Tryz.f30)))))))) (g30LbfE1 j p0 p1 p2 v7 v8) (g30LbfS1 p0 p1 p2 v7 v8) (frameQ Tryz.prog 0 (FinQ Tryz.prog 0 Tryz.f30 (.sl (flat intC r) (List.length r) .no) [] 0) [.blk 0,.seq (rgt (rgt (rgt (rgt (bod Tryz.f30)))))]))∧(∀j,Dl Tryz.prog 0 (inn (inn (rgt (lft (rgt (rgt (rgt (bod Tryz.f30)))))))) (g30LbfE2 j p0 p1 p2 v7 v8) (g30LbfS2 p0 p1 p2 v7 v8) (frameQ Tryz.prog 0 (FinQ Tryz.prog 0 Tryz.f30 (.sl (flat intC r) (List.length r) .no) [] 0) [.blk 0,.seq (rgt (rgt (rgt (rgt (bod Tryz.f30)))))])))∧(∀p0 p1 p2 v8 r7 v10 v7 r,e30Lbg qq p0 p1 p2 v8 r7 v10 v7=some r->(∀j,Dl Tryz.prog 0 (inn (inn (rgt (rgt (inn (lft (rgt (inn (inn (rgt (lft (rgt (rgt (rgt (bod Tryz.f30))))))))))))))) (g30LbgE0 j p0 p1 p2 v8 r7 v10 v7) (g30LbgS0 p0 p1 p2 v8 r7 v10 v7) (frameQ Tryz.prog 0 (FinQ Tryz.prog 0 Tryz.f30 (.sl (flat intC r) (List.length r) .no) [] 0) [.blk 2,.blk 1,.seq (rgt (rgt (inn (inn (rgt (lft (rgt (rgt (rgt (bod Tryz.f30)))))))))),.loop (inn (inn (rgt (lft (rgt (rgt (rgt (bod Tryz.f30)))))))),.blk 0,.seq (rgt (rgt (rgt (rgt (bod Tryz.f30)))))]))∧(∀j,Dl Tryz.prog 0 (inn (inn (rgt (rgt (inn (lft (rgt (inn (inn (rgt (lft (rgt (rgt (rgt (bod Tryz.f30))))))))))))))) (g30LbgE1 j p0 p1 p2 v8 r7 v10 v7) (g30LbgS1 p0 p1 p2 v8 r7 v10 v7) (frameQ Tryz.prog 0 (FinQ Tryz.prog 0 Tryz.f30 (.sl (flat intC r) (List.length r) .no) [] 0) [.blk 2,.blk 1,.seq (rgt (rgt (inn (inn (rgt (lft (rgt (rgt (rgt (bod Tryz.f30)))))))))),.loop (inn (inn (rgt (lft (rgt (rgt (rgt (bod Tryz.f30)))))))),.blk 0,.seq (rgt (rgt (rgt (rgt (bod Tryz.f30)))))]))∧(∀j,Dl Tryz.prog 0 (inn (inn (rgt (rgt (inn (lft (rgt (inn (inn (rgt (lft (rgt (rgt (rgt (bod Tryz.f30))))))))))))))) (g30LbgE2 j p0 p1 p2 v8 r7 v10 v7) (g30LbgS2 p0 p1 p2 v8 r7 v10 v7) (frameQ Tryz.prog 0 (FinQ Tryz.prog 0 Tryz.f30 (.sl (flat intC r) (List.length r) .no) [] 0) [.blk 2,.blk 1,.seq (rgt (rgt (inn (inn (rgt (lft (rgt (rgt (rgt (bod Tryz.f30)))))))))),.loop (inn (inn (rgt (lft (rgt (rgt (rgt (bod Tryz.f30)))))))),.blk 0,.seq (rgt (rgt (rgt (rgt (bod Tryz.f30)))))]))):=by
 intro qq
 induction qq with
 |zero=>
  exact⟨fun _ _ _ _ h=>nn h,fun _ _ _ _ _ _ h=>nn h,fun _ _ _ _ _ _ _ _ h=>nn h⟩
 |succ qq ih=>
  obtain⟨ih30,ih30Lbf,ih30Lbg⟩:=ih
  refine⟨?_,?_,?_⟩
  intro p0 p1 p2 r h
  rw[e30]at h
  rcases spl h with⟨h1,h⟩|⟨h1,h⟩
  obtain⟨l2,h3,h⟩:=obind h
  exact k30 (tH q30 0 [] [0] [0] [1,2,3,7,8] (oD (dI l2)<|oD (dT p0.sub)<|oP 2 (apS41 h3 (by simp))<|oB 2 h1 o0) ((ih30Lbf _ _ _ _ _ _ h).1))
  have k:=oB 2 h1 o0
  rcases spl h with⟨h4,h⟩|⟨h4,h⟩
  obtain⟨l5,h6,h⟩:=obind h
  exact k30 (tH q30 0 [] [0] [0] [1,2,3,7,8] (oD (dI l5)<|oD (dT p0.sub)<|oP 2 (apS41 h6 (by simp))<|oB 1 h4 k) ((ih30Lbf _ _ _ _ _ _ h).1))
  exact k30 (tH q30 0 [] [0] [] [1,2,3,7,8] (oD (dI ([]:List Int))<|oD (dT p0.sub)<|oB 1 h4 k) ((ih30Lbf _ _ _ _ _ _ h).2.2))
  intro p0 p1 p2 v7 v8 r h
  rw[e30Lbf]at h
  refine⟨?_,?_,?_⟩
  rcases spl h with⟨h4,h⟩|⟨h4,h⟩
  obtain⟨x5,h6,h⟩:=obind h
  obtain⟨r7,h8,h⟩:=obind h
  exact fun j=>lH 0 [] [0] [0] [1,2,3,7,8,9,10] (oD (dI r7)<|oD (dI v7)<|oD (dT p0.sub)<|oC 1 [] (ih30 _ _ _ _ h8)<|oA 1 (ix23 (o:=.no) h6)<|oB 2 h4 o0) ((ih30Lbg _ _ _ _ _ _ _ _ h).1)
  obtain rfl:=sj h
  exact fun j=>lF 0 [] (oD (dI v7)<|oB 2 h4 o0)
  rcases spl h with⟨h4,h⟩|⟨h4,h⟩
  obtain⟨x5,h6,h⟩:=obind h
  obtain⟨r7,h8,h⟩:=obind h
  exact fun j=>lH 0 [] [0] [] [1,2,3,7,8,9,10] (oD (dI r7)<|oD (dI v7)<|oD (dT p0.sub)<|oC 1 [] (ih30 _ _ _ _ h8)<|oA 1 (ix23 (o:=.no) h6)<|oB 2 h4 o0) ((ih30Lbg _ _ _ _ _ _ _ _ h).2.1)
  obtain rfl:=sj h
  exact fun j=>lF 0 [] (oD (dI v7)<|oB 2 h4 o0)
  rcases spl h with⟨h4,h⟩|⟨h4,h⟩
  obtain⟨x5,h6,h⟩:=obind h
  obtain⟨r7,h8,h⟩:=obind h
  exact fun j=>lH 0 [] [0] [] [1,2,3,7,8,9,10] (oD (dI r7)<|oD (dI v7)<|oD (dT p0.sub)<|oC 1 [] (ih30 _ _ _ _ h8)<|oA 1 (ix23 (o:=.no) h6)<|oB 2 h4 o0) ((ih30Lbg _ _ _ _ _ _ _ _ h).2.2)
  obtain rfl:=sj h
  exact fun j=>lF 0 [] (oD (dI v7)<|oB 2 h4 o0)
  intro p0 p1 p2 v8 r7 v10 v7 r h
  rw[e30Lbg]at h
  refine⟨?_,?_,?_⟩
  rcases spl h with⟨h9,h⟩|⟨h9,h⟩
  obtain⟨x10,h11,h⟩:=obind h
  obtain⟨r12,h13,h⟩:=obind h
  exact fun j=>lH 1 [] [0] [] [1,2,3,7,8,9,10] (oD (dI r7)<|oD (dI r12)<|oD (dT p0.sub)<|oC 1 [] (c85 h13)<|oA 0 (ix41 (o:=.no) h11)<|oB 1 h9 o0) ((ih30Lbg _ _ _ _ _ _ _ _ h).2.1)
  exact fun j=>lH 1 [] [0] [0] [1,2,3,7,8] (oD (dI v7)<|oD (dT p0.sub)<|oB 1 h9 o0) ((ih30Lbf _ _ _ _ _ _ h).1)
  rcases spl h with⟨h9,h⟩|⟨h9,h⟩
  obtain⟨x10,h11,h⟩:=obind h
  obtain⟨r12,h13,h⟩:=obind h
  exact fun j=>lH 1 [] [0] [] [1,2,3,7,8,9,10] (oD (dI r7)<|oD (dI r12)<|oD (dT p0.sub)<|oC 1 [] (c85 h13)<|oA 0 (ix41 (o:=.no) h11)<|oB 1 h9 o0) ((ih30Lbg _ _ _ _ _ _ _ _ h).2.1)
  exact fun j=>lH 1 [] [0] [] [1,2,3,7,8] (oD (dI v7)<|oD (dT p0.sub)<|oB 1 h9 o0) ((ih30Lbf _ _ _ _ _ _ h).2.1)
  rcases spl h with⟨h9,h⟩|⟨h9,h⟩
  obtain⟨x10,h11,h⟩:=obind h
  obtain⟨r12,h13,h⟩:=obind h
  exact fun j=>lH 1 [] [0] [] [1,2,3,7,8,9,10] (oD (dI r7)<|oD (dI r12)<|oD (dT p0.sub)<|oC 1 [] (c85 h13)<|oA 0 (ix41 (o:=.no) h11)<|oB 1 h9 o0) ((ih30Lbg _ _ _ _ _ _ _ _ h).2.1)
  exact fun j=>lH 1 [] [0] [] [1,2,3,7,8] (oD (dI v7)<|oD (dT p0.sub)<|oB 1 h9 o0) ((ih30Lbf _ _ _ _ _ _ h).2.2)
theorem c30{qq p0 p1 p2 r}(h:e30 qq p0 p1 p2=some r):K30 p0 p1 p2 r Ct:=(a30_30Lbf_30Lbg _).1 _ _ _ _ h
theorem tot_put:∀(r l:List Int) (n:Int) (v:Nat) (acc:List Int) (done:Bool),l.drop v=r->l.length≤8192->acc.length≤v+1->(done=false->acc.length≤v)->v≤l.length ->
  Tot (fun q=>e85Lbe q l n acc done (v:Int)) fun o=>o.length≤acc.length+r.length+1∧(done=true->o.length≤acc.length+r.length)∧∀x,x∈o↔x∈acc∨x∈r∨(done=false∧x=n)
 | [],l,n,v,acc,done,hd,hl,ha,hb,hv=>by
  refine Tot.succ ?_
  simp only[e85Lbe]
  cases done with
  |true=>
   refine Tot.ite (fun _=>Tot.ite (fun h=>?_) fun _=>Tot.ret ⟨(by simp<;>omega),fun _=>(by simp),fun x=>by simp⟩) (fun h=>by cases h)
   rw[drop_nil hd]at h;cases h
  |false=>
   refine Tot.ite (fun h=>by cases h) (fun _=>Tot.ite (fun h=>?_) fun _=>Tot.pure (gapp_ok (by simp<;>omega)) (Tot.ret ⟨(by simp),fun h=>(by cases h),fun x=>by simp⟩))
   rw[drop_nil hd]at h;cases h
 |y::r,l,n,v,acc,done,hd,hl,ha,hb,hv=>by
  have hlt:=drop_lt hd
  refine Tot.succ ?_
  simp only[e85Lbe]
  cases done with
  |true=>
   refine Tot.ite (fun _=>Tot.ite (fun _=>Tot.pure (drop_idx hd) (Tot.pure (gapp_ok (by simp<;>omega)) ?_)) fun h=>?_) (fun h=>by cases h)
   ·rw[w64_nat v (by omega)]
    refine(tot_put r l n (v+1) (acc++[y]) true (drop_next hd) hl (by simp<;>omega) (fun h=>by cases h) (by omega)).mono fun o ho=>?_
    refine⟨by have:=ho.2.1 rfl;simp at this ⊢ <;> omega,fun _=>by have:=ho.2.1 rfl;simp at this ⊢ <;> omega,fun x=>?_⟩
    rw[ho.2.2 x];simp[or_assoc]
   ·rw[drop_dec hd]at h;cases h
  |false=>
   have hb':=hb rfl
   refine Tot.ite (fun h=>by cases h) (fun _=>Tot.ite (fun _=>Tot.pure (drop_idx hd) (Tot.ite (fun h1=>Tot.ite (fun h2=>Tot.pure (gapp_ok (by simp<;>omega)) (Tot.pure (gapp_ok (by simp<;>omega)) ?_)) fun h2=>Tot.pure (gapp_ok (by simp<;>omega)) ?_) fun h1=>Tot.pure (gapp_ok (by simp<;>omega)) ?_)) fun h=>?_)
   ·rw[w64_nat v (by omega)]
    refine(tot_put r l n (v+1) (acc++[n]++[y]) true (drop_next hd) hl (by simp<;>omega) (fun h=>by cases h) (by omega)).mono fun o ho=>?_
    refine⟨by have:=ho.2.1 rfl;simp at this ⊢ <;> omega,fun h=>(by cases h),fun x=>?_⟩
    rw[ho.2.2 x];simp;grind
   ·rw[w64_nat v (by omega)]
    refine(tot_put r l n (v+1) (acc++[y]) true (drop_next hd) hl (by simp<;>omega) (fun h=>by cases h) (by omega)).mono fun o ho=>?_
    have e:y=n:=by simp at h1 h2;omega
    subst e
    refine⟨by have:=ho.2.1 rfl;simp at this ⊢ <;> omega,fun h=>(by cases h),fun x=>?_⟩
    rw[ho.2.2 x];simp;grind
   ·rw[w64_nat v (by omega)]
    refine(tot_put r l n (v+1) (acc++[y]) false (drop_next hd) hl (by simp<;>omega) (fun _=>by simp<;>omega) (by omega)).mono fun o ho=>?_
    refine⟨by have:=ho.1;simp at this ⊢;omega,fun h=>(by cases h),fun x=>?_⟩
    rw[ho.2.2 x];simp;grind
   ·rw[drop_dec hd]at h;cases h
theorem tot_put0(l:List Int)(n:Int)(hl:l.length≤8192):Tot (fun q=>e85 q l n) fun o=>o.length≤l.length+1∧∀x,x∈o↔x∈l∨x=n:=by
 simp only[e85]
 refine(tot_put l l n 0 [] false rfl hl (by simp) (fun _=>by simp) (by omega)).mono fun o ho=>⟨by have:=ho.1;simpa using this,fun x=>by rw[ho.2.2 x];simp⟩
theorem tot_NumIn{p:Tm}{a b:Int}{v:Nat}{r7:List Int}{Q:List Int->Prop}{N:Nat}{S:Int->Prop}(hN:N≤8192)(hr:r7.length≤8192)(hv:v<9223372036854775807)
  (K:∀acc:List Int,acc.length≤N->(∀x,x∈acc↔S x)->Tot (fun q=>e30Lbf q p a b acc ((v+1:Nat):Int)) Q) :
  ∀(m:List Int) (w:Nat) (acc:List Int),r7.drop w=m->acc.length+m.length≤N->(∀x,(x∈acc∨x∈m)↔S x)->Tot (fun q=>e30Lbg q p a b (v:Int) r7 (w:Int) acc) Q
 | [],w,acc,hd,hl,hm=>by
  refine Tot.succ ?_
  simp only[e30Lbg]
  refine Tot.ite (fun h=>?_) fun _=>?_
  ·rw[drop_nil hd]at h;cases h
  ·rw[w64_nat v (by omega)]
   exact K acc (by simpa using hl) fun x=>by simpa using hm x
 |y::m,w,acc,hd,hl,hm=>by
  have hlt:=drop_lt hd
  refine Tot.succ ?_
  simp only[e30Lbg]
  refine Tot.ite (fun _=>Tot.pure (drop_idx hd) ((tot_put0 acc y (by simp at hl;omega)).bind fun o ho=>?_)) fun h=>?_
  ·rw[w64_nat w (by omega)]
   refine tot_NumIn hN hr hv K m (w+1) o (drop_next hd) (by simp at hl;have:=ho.1;omega) fun x=>?_
   rw[←hm x,ho.2 x];simp[or_assoc]
  ·rw[drop_dec hd]at h;cases h
def Same(r m:List Int):Prop:=∀x,x∈r↔x∈m
mutual
theorem tot_Numbers:∀(t:Tm) (a b:Int),t.Ok->t.nodes≤8192->Tot (fun q=>e30 q t a b) fun o=>o.length≤t.nodes∧Same o (colT t a b)
 | .mk k n l,a,b,ho,hn=>by
  refine Tot.succ ?_
  simp only[e30,Tm.k,Tm.n]
  rw[Tm.nodes]at hn
  have key:∀acc:List Int,acc.length≤1->acc=(if k=a∨k=b then [n]else [])->Tot (fun q=>e30Lbf q (.mk k n l) a b acc 0) fun o=>o.length≤(Tm.mk k n l).nodes∧Same o (colT (.mk k n l) a b):=by
   intro acc h1 h2
   refine(tot_NumbersL l (.mk k n l) 0 a b acc rfl ho.1 ho.2 (by omega)).mono fun o ho=>⟨by rw[Tm.nodes];have:=ho.1;omega,fun x=>?_⟩
   rw[ho.2 x,colT,h2];simp
  refine Tot.ite (fun h=>Tot.pure (gapp_ok (by simp)) ?_) fun h=>Tot.ite (fun h'=>Tot.pure (gapp_ok (by simp)) ?_) fun h'=>?_
  ·exact key _ (by simp) (by rw[if_pos (.inl (by simpa using h))];rfl)
  ·exact key _ (by simp) (by rw[if_pos (.inr (by simpa using h'))];rfl)
  ·exact key _ (by simp) (by rw[if_neg (by simp at h h';simp[h,h'])])
theorem tot_NumbersL:∀(l:List Tm) (p:Tm) (v:Nat) (a b:Int) (acc:List Int),p.sub.drop v=l->p.sub.length<9223372036854775808->OkL l->acc.length+nodesL l≤8192 ->
  Tot (fun q=>e30Lbf q p a b acc (v:Int)) fun o=>o.length≤acc.length+nodesL l∧∀x,x∈o↔x∈acc∨x∈colL l a b
 | [],p,v,a,b,acc,hd,hl,ho,hn=>by
  refine Tot.succ ?_
  simp only[e30Lbf]
  refine Tot.ite (fun h=>?_) fun _=>Tot.ret ⟨by omega,fun x=>by rw[colL];simp⟩
  rw[drop_nil hd]at h;cases h
 |t::l,p,v,a,b,acc,hd,hl,ho,hn=>by
  have hlt:=drop_lt hd
  rw[nodesL]at hn
  have IH:=fun acc' h=>tot_NumbersL l p (v+1) a b acc' (drop_next hd) hl ho.2 h
  refine Tot.succ ?_
  simp only[e30Lbf]
  refine Tot.ite (fun _=>Tot.pure (drop_idx hd) ((tot_Numbers t a b ho.1 (by omega)).bind fun r7 hr=>?_)) fun h=>?_
  ·refine tot_NumIn (N:=acc.length+t.nodes) (S:=fun x=>x∈acc∨x∈colT t a b) (by omega) (by have:=hr.1;omega) (by omega) (fun acc' h1 h2=>?_) r7 0 acc rfl (by have:=hr.1;omega) fun x=>by rw[hr.2 x]
   refine(IH acc' (by omega)).mono fun o ho=>⟨by rw[nodesL];have:=ho.1;omega,fun x=>?_⟩
   rw[ho.2 x,h2 x,colL];simp[or_assoc]
  ·rw[drop_dec hd]at h;cases h
end
def e76Lbh:Nat->Int->Int->(List Tm)->Option (Tm)
 |0,_,_,_=>none
 |qq+1,vb0_0,vb0_1,vb0_2=>
 if vb0_0==5 then
 gidx vb0_2 0>>=fun x2=>
 e76Lbh qq x2.k x2.n x2.sub
 else
 some (Tm.mk vb0_0 vb0_1 vb0_2)
def e76(qq:Nat)(p0:Tm):Option (Tm):=
 e76Lbh qq p0.k p0.n p0.sub
def g76LbhE0(j:Nat->Value)(vb0_0 vb0_1:Int)(vb0_2:List Tm):=sp j 11 0 [(1,.mp 0 0),(2,.mp 1 0)]
def g76LbhS0(vb0_0 vb0_1:Int)(vb0_2:List Tm):LSt:=⟨[(0,.cells [ai vb0_0,ai vb0_1,slv tmCells vb0_2 .no]),(1,.cells [ai 0,ai 0,slv tmCells ([]:List Tm) .nl])],2,[],0,[]⟩
abbrev K76 (p0 r:Tm) (C:Cf):Prop:=C 76 [] [tmA p0] (tmA r) [] 0
theorem q76:Qf 76 Tryz.f76:=⟨Tryz.func76,by kernel_rfl⟩
theorem k76{p0 r}(h:K76 p0 r Ci):K76 p0 r Ct:=⟨h,⟨⟨tv,tv,⟨tv,dT _⟩,tv⟩,tv⟩,forall_nil,⟨tv,tv,dT _,tv⟩,forall_nil⟩
theorem l76Lbh:∀qq:Nat,(∀vb0_0 vb0_1 vb0_2 r,e76Lbh qq vb0_0 vb0_1 vb0_2=some r->(∀j,Dl Tryz.prog 0 (inn (inn (lft (rgt (bod Tryz.f76))))) (g76LbhE0 j vb0_0 vb0_1 vb0_2) (g76LbhS0 vb0_0 vb0_1 vb0_2) (frameQ Tryz.prog 0 (FinQ Tryz.prog 0 Tryz.f76 (tmA r) [] 0) [.blk 0,.seq (rgt (rgt (bod Tryz.f76)))]))):=by
 intro qq
 induction qq with
 |zero=>
  exact fun _ _ _ _ h=>nn h
 |succ qq ih=>
  intro vb0_0 vb0_1 vb0_2 r h
  rw[e76Lbh]at h
  rcases spl h with⟨h1,h⟩|⟨h1,h⟩
  obtain⟨x2,h3,h⟩:=obind h
  exact fun j=>lH 2 [] [0,1] [] [1,2] (oD (dT ([]:List Tm))<|oD (dT x2.sub)<|oA 1 (ix23 (o:=.no) h3)<|oB 1 h1 o0) (ih _ _ _ _ h)
  obtain rfl:=sj h
  exact fun j=>lF 2 [] (oD (dT vb0_2)<|oB 1 h1 o0)
theorem c76{qq p0 r}(h:e76 qq p0=some r):K76 p0 r Ct:=by
 unfold e76 at h
 exact k76 (tH q76 0 [] [0,1] [] [1,2] (oD (dT ([]:List Tm))<|oD (dT p0.sub) o0) (l76Lbh _ _ _ _ _ h))
def e78:Nat->Tm->Option (List Tm)
 |0,_=>none
 |qq+1,p0=>
 if p0.k != 5 then
 some []
 else
 gidx p0.sub 0>>=fun x2=>
 e78 qq x2>>=fun r4=>
 gidx p0.sub 1>>=fun x6=>
 gapp 40 r4 [x6]>>=fun l8=>
 some l8
abbrev K78 (p0:Tm) (r:List Tm) (C:Cf):Prop:=C 78 [] [tmA p0] (slv tmCells r (.st 0 3)) [] 1
theorem q78:Qf 78 Tryz.f78:=⟨Tryz.func78,by kernel_rfl⟩
theorem k78{p0 r}(h:K78 p0 r Ci):K78 p0 r Ct:=⟨h,⟨⟨tv,tv,⟨tv,dT _⟩,tv⟩,tv⟩,forall_nil,dT _,forall_nil⟩
theorem a78:∀qq:Nat,(∀p0 r,e78 qq p0=some r->K78 p0 r Ct):=by
 intro qq
 induction qq with
 |zero=>
  exact fun _ _ h=>nn h
 |succ qq ih=>
  intro p0 r h
  rw[e78]at h
  rcases spl h with⟨h1,h⟩|⟨h1,h⟩
  obtain rfl:=sj h
  exact k78 (tG q78 1 [(none,2,3)] [] [0] true (oD (dT ([]:List Tm))<|oB 1 h1 o0))
  obtain⟨x2,h3,h⟩:=obind h
  obtain⟨r4,h5,h⟩:=obind h
  obtain⟨x6,h7,h⟩:=obind h
  obtain⟨l8,h9,h⟩:=obind h
  obtain rfl:=sj h
  exact k78 (tG q78 0 [] [] [1] true (oD (dT l8)<|oP 0 (apS23 h9 (by simp))<|oS 1 (obLitR tm_eq [x6])<|oA 1 (ix23 (o:=.no) h7)<|oC 1 [] (ih _ _ h5)<|oA 1 (ix23 (o:=.no) h3)<|oB 1 h1 o0))
theorem c78{qq p0 r}(h:e78 qq p0=some r):K78 p0 r Ct:=a78 _ _ _ h
def e79Lbi:Nat->(List Tm)->Int->Int->(List Tm)->Option (List Tm)
 |0,_,_,_,_=>none
 |qq+1,v3,vb0_0,vb0_1,vb0_2=>
 if vb0_0==3 then
 gidx vb0_2 0>>=fun x2=>
 gapp 40 v3 [x2]>>=fun l4=>
 gidx vb0_2 1>>=fun x6=>
 e79Lbi qq l4 x6.k x6.n x6.sub
 else
 some v3
def e79(qq:Nat)(p0:Tm):Option (List Tm):=
 e79Lbi qq [] p0.k p0.n p0.sub
def g79LbiE0(j:Nat->Value)(v3:List Tm)(vb0_0 vb0_1:Int)(vb0_2:List Tm):=sp j 20 0 [(1,.mp 0 0),(3,slv tmCells v3 (.st 0 3))]
def g79LbiS0(v3:List Tm)(vb0_0 vb0_1:Int)(vb0_2:List Tm):LSt:=⟨[(0,.cells [ai vb0_0,ai vb0_1,slv tmCells vb0_2 .no])],1,[0],1,[]⟩
abbrev K79 (p0:Tm) (r:List Tm) (C:Cf):Prop:=C 79 [] [tmA p0] (.sl (flat tmCells r) (List.length r) .no) [] 0
theorem q79:Qf 79 Tryz.f79:=⟨Tryz.func79,by kernel_rfl⟩
theorem k79{p0 r}(h:K79 p0 r Ci):K79 p0 r Ct:=⟨h,⟨⟨tv,tv,⟨tv,dT _⟩,tv⟩,tv⟩,forall_nil,dT _,forall_nil⟩
theorem l79Lbi:∀qq:Nat,(∀v3 vb0_0 vb0_1 vb0_2 r,e79Lbi qq v3 vb0_0 vb0_1 vb0_2=some r->(∀j,Dl Tryz.prog 0 (inn (inn (lft (rgt (rgt (bod Tryz.f79)))))) (g79LbiE0 j v3 vb0_0 vb0_1 vb0_2) (g79LbiS0 v3 vb0_0 vb0_1 vb0_2) (frameQ Tryz.prog 0 (FinQ Tryz.prog 0 Tryz.f79 (.sl (flat tmCells r) (List.length r) .no) [] 0) [.blk 0,.seq (rgt (rgt (rgt (bod Tryz.f79))))]))):=by
 intro qq
 induction qq with
 |zero=>
  exact fun _ _ _ _ _ h=>nn h
 |succ qq ih=>
  intro v3 vb0_0 vb0_1 vb0_2 r h
  rw[e79Lbi]at h
  rcases spl h with⟨h1,h⟩|⟨h1,h⟩
  obtain⟨x2,h3,h⟩:=obind h
  obtain⟨l4,h5,h⟩:=obind h
  obtain⟨x6,h7,h⟩:=obind h
  exact fun j=>lH 2 [] [0] [1] [1,3] (oD (dT l4)<|oD (dT x6.sub)<|oA 1 (ix23 (o:=.no) h7)<|oP 0 (apS23 h5 (by simp))<|oS 1 (obLitR tm_eq [x2])<|oA 1 (ix23 (o:=.no) h3)<|oB 1 h1 o0) (ih _ _ _ _ _ h)
  obtain rfl:=sj h
  exact fun j=>lF 0 [] (oD (dT v3)<|oB 1 h1 o0)
theorem c79{qq p0 r}(h:e79 qq p0=some r):K79 p0 r Ct:=by
 unfold e79 at h
 exact k79 (tH q79 1 [(none,3,3)] [0] [0] [1,3] (oD (dT ([]:List Tm))<|oD (dT p0.sub) o0) (l79Lbi _ _ _ _ _ _ h))
def e86Lbj:Nat->Int->Int->(List Tm)->Option (Tm)
 |0,_,_,_=>none
 |qq+1,vb0_0,vb0_1,vb0_2=>
 if vb0_0==3 then
 gidx vb0_2 1>>=fun x2=>
 e86Lbj qq x2.k x2.n x2.sub
 else
 some (Tm.mk vb0_0 vb0_1 vb0_2)
def e86(qq:Nat)(p0:Tm):Option (Tm):=
 e86Lbj qq p0.k p0.n p0.sub
def g86LbjE0(j:Nat->Value)(vb0_0 vb0_1:Int)(vb0_2:List Tm):=sp j 11 0 [(1,.mp 0 0),(2,.mp 1 0)]
def g86LbjS0(vb0_0 vb0_1:Int)(vb0_2:List Tm):LSt:=⟨[(0,.cells [ai vb0_0,ai vb0_1,slv tmCells vb0_2 .no]),(1,.cells [ai 0,ai 0,slv tmCells ([]:List Tm) .nl])],2,[],0,[]⟩
abbrev K86 (p0 r:Tm) (C:Cf):Prop:=C 86 [] [tmA p0] (tmA r) [] 0
theorem q86:Qf 86 Tryz.f86:=⟨Tryz.func86,by kernel_rfl⟩
theorem k86{p0 r}(h:K86 p0 r Ci):K86 p0 r Ct:=⟨h,⟨⟨tv,tv,⟨tv,dT _⟩,tv⟩,tv⟩,forall_nil,⟨tv,tv,dT _,tv⟩,forall_nil⟩
theorem l86Lbj:∀qq:Nat,(∀vb0_0 vb0_1 vb0_2 r,e86Lbj qq vb0_0 vb0_1 vb0_2=some r->(∀j,Dl Tryz.prog 0 (inn (inn (lft (rgt (bod Tryz.f86))))) (g86LbjE0 j vb0_0 vb0_1 vb0_2) (g86LbjS0 vb0_0 vb0_1 vb0_2) (frameQ Tryz.prog 0 (FinQ Tryz.prog 0 Tryz.f86 (tmA r) [] 0) [.blk 0,.seq (rgt (rgt (bod Tryz.f86)))]))):=by
 intro qq
 induction qq with
 |zero=>
  exact fun _ _ _ _ h=>nn h
 |succ qq ih=>
  intro vb0_0 vb0_1 vb0_2 r h
  rw[e86Lbj]at h
  rcases spl h with⟨h1,h⟩|⟨h1,h⟩
  obtain⟨x2,h3,h⟩:=obind h
  exact fun j=>lH 2 [] [0,1] [] [1,2] (oD (dT ([]:List Tm))<|oD (dT x2.sub)<|oA 1 (ix23 (o:=.no) h3)<|oB 1 h1 o0) (ih _ _ _ _ h)
  obtain rfl:=sj h
  exact fun j=>lF 2 [] (oD (dT vb0_2)<|oB 1 h1 o0)
theorem c86{qq p0 r}(h:e86 qq p0=some r):K86 p0 r Ct:=by
 unfold e86 at h
 exact k86 (tH q86 0 [] [0,1] [] [1,2] (oD (dT ([]:List Tm))<|oD (dT p0.sub) o0) (l86Lbj _ _ _ _ _ h))
def e87Lbk:Nat->Int->Int->(List Tm)->Int->Option (Bool)
 |0,_,_,_,_=>none
 |qq+1,p2,p4,r1,v13=>
 if decide (v13<p2)then
 gidx r1 v13>>=fun x9=>
 if x9.k != 1 then
 some false
 else
 if x9.n != (w64 ((w64 (p4-1))-v13))then
 some false
 else
 e87Lbk qq p2 p4 r1 (w64 (v13+1))
 else
 some true
def e87(qq:Nat)(p0:Tm)(p1 p2 p3 p4:Int):Option (Bool):=
 e78 qq p0>>=fun r1=>
 e76 qq p0>>=fun r3=>
 if r3.k != 6 then
 some false
 else
 if r3.n != p1 then
 some false
 else
 if (List.length r1:Int) != (w64 (p2+p3))then
 some false
 else
 e87Lbk qq p2 p4 r1 0
def g87LbkE0(j:Nat->Value)(p2 p4:Int)(r1:List Tm)(v13:Int):=sp j 58 0 [(2,ai p2),(4,ai p4),(11,slv tmCells r1 (.st 0 3)),(13,ai v13)]
def g87LbkS0(p2 p4:Int)(r1:List Tm)(v13:Int):LSt:=⟨[],0,[0],1,[]⟩
abbrev K87 (p0:Tm) (p1 p2 p3 p4:Int) (r:Bool) (C:Cf):Prop:=C 87 [] [tmA p0,ai p1,ai p2,ai p3,ai p4] (ab r) [] 0
theorem q87:Qf 87 Tryz.f87:=⟨Tryz.func87,by kernel_rfl⟩
theorem k87{p0 p1 p2 p3 p4 r}(h:K87 p0 p1 p2 p3 p4 r Ci):K87 p0 p1 p2 p3 p4 r Ct:=⟨h,⟨⟨tv,tv,⟨tv,dT _⟩,tv⟩,tv,tv,tv,tv,tv⟩,forall_nil,tv,forall_nil⟩
theorem l87Lbk:∀qq:Nat,(∀p2 p4 r1 v13 r,e87Lbk qq p2 p4 r1 v13=some r->(∀j,Dl Tryz.prog 0 (inn (inn (rgt (lft (rgt (rgt (rgt (rgt (bod Tryz.f87))))))))) (g87LbkE0 j p2 p4 r1 v13) (g87LbkS0 p2 p4 r1 v13) (frameQ Tryz.prog 0 (FinQ Tryz.prog 0 Tryz.f87 (ab r) [] 0) [.blk 0,.seq (rgt (rgt (rgt (rgt (rgt (bod Tryz.f87))))))]))):=by
 intro qq
 induction qq with
 |zero=>
  exact fun _ _ _ _ _ h=>nn h
 |succ qq ih=>
  intro p2 p4 r1 v13 r h
  rw[e87Lbk]at h
  rcases spl h with⟨h8,h⟩|⟨h8,h⟩
  obtain⟨x9,h10,h⟩:=obind h
  have k:=oA 0 (ix23 (o:=(.st 0 3)) h10)<|oB 0 h8 o0
  rcases spl h with⟨h11,h⟩|⟨h11,h⟩
  obtain rfl:=sj h
  exact fun j=>lF 0 [] (oB 1 h11 k)
  have k:=oA 0 (ix23 (o:=(.st 0 3)) h10)<|oB 1 h11 k
  rcases spl h with⟨h12,h⟩|⟨h12,h⟩
  obtain rfl:=sj h
  exact fun j=>lF 0 [] (oB 3 h12 k)
  exact fun j=>lH 1 [] [] [0] [2,4,11,13] (oD (dT r1)<|oB 3 h12 k) (ih _ _ _ _ _ h)
  obtain rfl:=sj h
  exact fun j=>lF 0 [] (oB 0 h8 o0)
theorem c87{qq p0 p1 p2 p3 p4 r}(h:e87 qq p0 p1 p2 p3 p4=some r):K87 p0 p1 p2 p3 p4 r Ct:=by
 unfold e87 at h
 obtain⟨r1,h2,h⟩:=obind h
 obtain⟨r3,h4,h⟩:=obind h
 have k:=oC 1 [] (c76 h4)<|oC 1 [] (c78 h2) o0
 rcases spl h with⟨h5,h⟩|⟨h5,h⟩
 obtain rfl:=sj h
 exact k87 (tF q87 0 [] (oB 2 h5 k))
 have k:=oB 2 h5 k
 rcases spl h with⟨h6,h⟩|⟨h6,h⟩
 obtain rfl:=sj h
 exact k87 (tF q87 0 [] (oB 1 h6 k))
 have k:=oB 1 h6 k
 rcases spl h with⟨h7,h⟩|⟨h7,h⟩
 obtain rfl:=sj h
 exact k87 (tF q87 0 [] (oB 2 h7 k))
 exact k87 (tH q87 0 [] [] [0] [2,4,11,13] (oD (dT r1)<|oB 2 h7 k) (l87Lbk _ _ _ _ _ _ h))
def Dc(f:Nat->Option Bool)(P:Prop):Prop:=∃b,Evt f b∧(b=true↔P)
section
variable {f g:Nat->Option Bool} {P Q:Prop} {α:Type}
theorem Dc.ret{b:Bool}(h:b=true↔P):Dc (fun _=>some b) P:=⟨b,Evt.ret,h⟩
theorem Dc.yes(h:P):Dc (fun _=>some true) P:=⟨true,Evt.ret,⟨fun _=>h,fun _=>rfl⟩⟩
theorem Dc.no(h:¬P):Dc (fun _=>some false) P:=⟨false,Evt.ret,⟨fun e=>(by cases e),fun e=>absurd e h⟩⟩
theorem Dc.ite{c:Bool}(h:c=true->Dc f P)(k:c=false->Dc g P):Dc (fun q=>if c=true then f q else g q) P:=by
 cases c with
 |true=>obtain⟨b,h1,h2⟩:=h rfl;exact⟨b,Evt.ifT rfl h1,h2⟩
 |false=>obtain⟨b,h1,h2⟩:=k rfl;exact⟨b,Evt.ifF rfl h1,h2⟩
theorem Dc.evt{x:Nat->Option α}{a:α}{c:Nat->α->Option Bool}(h:Evt x a)(k:Dc (fun q=>c q a) P):Dc (fun q=>x q>>=c q) P:=by
 obtain⟨b,h1,h2⟩:=k;exact⟨b,h.bind h1,h2⟩
theorem Dc.pure{x:Option α}{a:α}{c:Nat->α->Option Bool}(h:x=some a)(k:Dc (fun q=>c q a) P):Dc (fun q=>x>>=c q) P:=by
 obtain⟨b,h1,h2⟩:=k;exact⟨b,Evt.pure h h1,h2⟩
theorem Dc.bind{x:Nat->Option Bool}{c:Nat->Bool->Option Bool}(h:Dc x Q)(k:Q->Dc (fun q=>c q true) P)(k':¬Q->Dc (fun q=>c q false) P):Dc (fun q=>x q>>=c q) P:=by
 obtain⟨b,h1,h2⟩:=h
 cases b with
 |true=>exact Dc.evt h1 (k (h2.1 rfl))
 |false=>exact Dc.evt h1 (k' fun e=>by have:=h2.2 e;cases this)
theorem Dc.succ(h:Dc (fun q=>f (q+1)) P):Dc f P:=by obtain⟨b,h1,h2⟩:=h;exact⟨b,h1.succ,h2⟩
theorem Dc.iff(h:Dc f P)(k:P↔Q):Dc f Q:=by obtain⟨b,h1,h2⟩:=h;exact⟨b,h1,h2.trans k⟩
end
theorem tel_spec{t:Tm}(hg:goodT t=true):∃l y,splT (pisT t) t=some (l,y)∧l.length=pisT t∧y.k≠3∧goodT y=true∧y.nodes≤t.nodes∧y.high≤t.high∧∀x∈l,goodT x=true∧x.nodes≤t.nodes∧x.high≤t.high:=by
 obtain⟨r,hr⟩:=splT_all t hg _ (Nat.le_refl _)
 obtain⟨h1,h2,h3,h4⟩:=splT_spec _ t r hg hr
 refine⟨r.1,r.2,hr,h1,fun h=>?_,h3.1,h3.2.1,h3.2.2,h4⟩
 obtain⟨a,b,hx,-,-⟩:=pi_form h3.1 h
 rw[hx,pisT_pi]at h2
 omega
theorem ev_TeleL:∀(n:Nat) (t:Tm) (l:List Tm) (y:Tm) (acc:List Tm),goodT t=true->splT n t=some (l,y)->y.k≠3->acc.length+n≤100000->Evt (fun q=>e79Lbi q acc t.k t.n t.sub) (acc++l)
 |0,t,l,y,acc,_,h,hk,_=>by
  rw[splT]at h;cases h
  refine Evt.succ ?_
  simp only[e79Lbi]
  exact Evt.ifF (by simpa using hk) (Evt.ret.eq (by simp))
 |n+1,t,l,y,acc,hg,h,hk,hl=>by
  by_cases h3:t.k=3
  ·obtain⟨a,b,hx,hga,hgb⟩:=pi_form hg h3
   rw[hx,splT_pi]at h
   obtain⟨r',h1,h2⟩:=Option.map_eq_some_iff.1 h
   cases h2
   refine Evt.succ ?_
   simp only[e79Lbi]
   have hs:t.sub=[a,b]:=by rw[hx];rfl
   rw[hs]
   refine Evt.ifT (by simp[h3]) (Evt.pure (a:=a) rfl (Evt.pure (gapp_ok (by simp;omega)) (Evt.pure (a:=b) rfl ?_)))
   exact(ev_TeleL n b r'.1 r'.2 (acc++[a]) hgb h1 hk (by simp;omega)).eq (by simp)
  ·rw[splT_not h3]at h;cases h
theorem pis_le:∀(n:Nat) (t:Tm),t.nodes≤n->pisT t≤n
 |0,t,h=>by have:=nodes_pos t;omega
 |n+1,t,h=>by
  unfold pisT
  split
  ·rename_i k m a b
   rw[Tm.nodes,nodesL,nodesL,nodesL]at h
   have:=nodes_pos a
   split
   ·have:=pis_le n b (by omega);omega
   ·omega
  ·omega
theorem ev_Tele{t:Tm}(hg:goodT t=true)(hn:t.nodes≤8192){l:List Tm}{y:Tm}(h:splT (pisT t) t=some (l,y))(hk:y.k≠3):Evt (fun q=>e79 q t) l:=by
 simp only[e79]
 have:=pis_le t.nodes t (Nat.le_refl _)
 exact(ev_TeleL (pisT t) t l y [] hg h hk (by simp;omega)).eq (by simp)
theorem ev_Bene:∀(n:Nat) (t:Tm) (l:List Tm) (y:Tm),goodT t=true->splT n t=some (l,y)->y.k≠3->Evt (fun q=>e86Lbj q t.k t.n t.sub) y
 |0,t,l,y,_,h,hk=>by
  rw[splT]at h;cases h
  refine Evt.succ ?_
  simp only[e86Lbj]
  exact Evt.ifF (by simpa using hk) (Evt.ret.eq (tm_eta _))
 |n+1,t,l,y,hg,h,hk=>by
  by_cases h3:t.k=3
  ·obtain⟨a,b,hx,hga,hgb⟩:=pi_form hg h3
   rw[hx,splT_pi]at h
   obtain⟨r',h1,h2⟩:=Option.map_eq_some_iff.1 h
   cases h2
   refine Evt.succ ?_
   simp only[e86Lbj]
   have hs:t.sub=[a,b]:=by rw[hx];rfl
   rw[hs]
   exact Evt.ifT (by simp[h3]) (Evt.pure (a:=b) rfl (ev_Bene n b r'.1 r'.2 hgb h1 hk))
  ·rw[splT_not h3]at h;cases h
theorem app_form{t:Tm}(hg:goodT t=true)(h:t.k=5):∃a b,t = .mk 5 t.n [a,b]∧goodT a=true∧goodT b=true:=by
 obtain⟨k,n,l⟩:=t
 have hh:=goodT_mk hg
 replace h:k=5:=h
 subst h
 obtain⟨a,b,rfl⟩:=sub2 ((head_spec hh.1).2.2.2.2.2.1 (.inr (.inr rfl))).1
 have hc:=goodL_cons hh.2
 exact⟨a,b,rfl,hc.1,(goodL_cons hc.2).1⟩
theorem ar_le:∀(n:Nat) (t:Tm),goodT t=true->t.nodes≤n->(arT t).length≤n
 |0,t,_,h=>by have:=nodes_pos t;omega
 |n+1,t,hg,h=>by
  by_cases h5:t.k=5
  ·obtain⟨a,b,hx,hga,-⟩:=app_form hg h5
   rw[hx]at h ⊢
   rw[Tm.nodes,nodesL,nodesL,nodesL]at h
   rw[arT_app,List.length_append]
   have:=ar_le n a hga (by omega)
   have:=nodes_pos b
   simp;omega
  ·rw[arT_not h5];simp
theorem ev_rArgs:∀(n:Nat) (t:Tm),goodT t=true->t.nodes≤n->n≤8192->Evt (fun q=>e78 q t) (arT t)
 |0,t,_,h,_=>by have:=nodes_pos t;omega
 |n+1,t,hg,h,hn=>by
  refine Evt.succ ?_
  simp only[e78]
  by_cases h5:t.k=5
  ·obtain⟨a,b,hx,hga,-⟩:=app_form hg h5
   have hs:t.sub=[a,b]:=by rw[hx];rfl
   have hnn:=nodes_sub t
   rw[hs,nodesL,nodesL,nodesL]at hnn
   have:=nodes_pos b
   rw[hs]
   have hle:=ar_le n a hga (by omega)
   refine Evt.ifF (by simp[h5]) (Evt.pure (a:=a) rfl ((ev_rArgs n a hga (by omega) (by omega)).bind (Evt.pure (a:=b) rfl (Evt.pure (gapp_ok (by simp;omega)) (Evt.ret.eq ?_)))))
   rw[hx,arT_app]
  ·exact Evt.ifT (by simpa using h5) (Evt.ret.eq (arT_not h5).symm)
theorem ev_rHeadL:∀(n:Nat) (t:Tm),goodT t=true->t.nodes≤n->Evt (fun q=>e76Lbh q t.k t.n t.sub) (hdT t)
 |0,t,_,h=>by have:=nodes_pos t;omega
 |n+1,t,hg,h=>by
  refine Evt.succ ?_
  simp only[e76Lbh]
  by_cases h5:t.k=5
  ·obtain⟨a,b,hx,hga,-⟩:=app_form hg h5
   have hs:t.sub=[a,b]:=by rw[hx];rfl
   have hnn:=nodes_sub t
   rw[hs,nodesL,nodesL,nodesL]at hnn
   rw[hs]
   refine Evt.ifT (by simp[h5]) (Evt.pure (a:=a) rfl ((ev_rHeadL n a hga (by omega)).eq ?_))
   rw[hx,hdT_app]
  ·exact Evt.ifF (by simpa using h5) (Evt.ret.eq (by rw[hdT_not h5,tm_eta]))
theorem dc_appliedL(P:Nat)(binders:Int)(args:List Tm)(hP:P≤args.length)(hP2:P≤24)(hb:-1048576≤binders∧binders≤1048576):∀(m v:Nat),v+m=P->Dc (fun q=>e87Lbk q (P:Int) binders args (v:Int)) (varsD ((args.take P).drop v) (binders-1-v)=true)
 |0,v,hm=>by
  refine Dc.succ ?_
  simp only[e87Lbk]
  refine Dc.ite (fun h=>absurd (of_decide_eq_true h) (by omega)) fun _=>Dc.yes ?_
  rw[List.drop_eq_nil_of_le (by rw[List.length_take];omega)];rfl
 |m+1,v,hm=>by
  have hlt:v<args.length:=by omega
  have hd:(args.take P).drop v=args[v]::(args.take P).drop (v+1):=by
   have h2:v<(args.take P).length:=by rw[List.length_take];omega
   rw[List.drop_eq_getElem_cons h2];simp
  refine Dc.succ ?_
  simp only[e87Lbk]
  have hg:gidx args (v:Int)=some args[v]:=by unfold gidx;rw[if_pos (by omega),Int.toNat_natCast];exact List.getElem?_eq_getElem hlt
  rw[hd]
  refine Dc.ite (fun _=>Dc.pure hg (Dc.ite (fun h=>Dc.no ?_) fun h=>?_)) fun h=>absurd (of_decide_eq_false h) (by omega)
  ·rw[varsD];simp only[bne_iff_ne,ne_eq]at h;simp[h]
  ·have hk:args[v].k=1:=by simpa using h
   rw[w64_id (x:=binders-1) (by omega) (by omega),w64_id (x:=binders-1-v) (by omega) (by omega)]
   refine Dc.ite (fun h=>Dc.no ?_) fun h=>?_
   ·rw[varsD];simp only[bne_iff_ne,ne_eq]at h;simp[h]
   ·have hn:args[v].n=binders-1-v:=by simpa using h
    rw[w64_nat v (by omega)]
    refine(dc_appliedL P binders args hP hP2 hb m (v+1) (by omega)).iff ?_
    rw[varsD,hk,hn]
    simp only[beq_self_eq_true,Bool.true_and]
    rw[show binders-1-((v+1:Nat):Int)=binders-1-v-1 by omega]
theorem dc_applied(t:Tm)(of pars more binders:Int)(hg:goodT t=true)(hn:t.nodes≤8192)(h0:0≤pars∧pars≤24)(h1:0≤more∧more≤24)(hb:-1048576≤binders∧binders≤1048576):Dc (fun q=>e87 q t of pars more binders) (appliedT t of pars more binders=true):=by
 have hH:Evt (fun q=>e76 q t) (hdT t):=by simp only[e76];exact ev_rHeadL t.nodes t hg (Nat.le_refl _)
 simp only[e87]
 unfold appliedT
 refine Dc.evt (ev_rArgs t.nodes t hg (Nat.le_refl _) hn) (Dc.evt hH (Dc.ite (fun h=>Dc.no ?_) fun h=>Dc.ite (fun k=>Dc.no ?_) fun k=>?_))
 ·simp only[bne_iff_ne,ne_eq]at h;simp[h]
 ·simp only[bne_iff_ne,ne_eq]at k;simp[k]
 ·rw[w64_id (by omega) (by omega)]
  refine Dc.ite (fun j=>Dc.no ?_) fun j=>?_
  ·simp only[bne_iff_ne,ne_eq]at j;simp[j]
  ·have h':(hdT t).k=6:=by simpa using h
   have k':(hdT t).n=of:=by simpa using k
   have j':((arT t).length:Int)=pars+more:=by simpa using j
   have:=dc_appliedL pars.toNat binders (arT t) (by omega) (by omega) hb pars.toNat 0 (by omega)
   rw[show ((pars.toNat:Nat):Int)=pars by omega]at this
   refine this.iff ?_
   simp[h',k',j']
theorem split_tel{t:Tm}(hs:shapedT t=true){L:List Tm}{y:Tm}(h:splT (pisT t) t=some (L,y))(hp:pisT t≤24):wholeT t=(L,y,0):=by
 unfold wholeT splitT
 rw[if_pos hs,if_neg (by omega),if_neg (by omega),show (((min (pisT t) 25:Nat):Int)).toNat=pisT t by omega,h]
 rfl
theorem whole_long{t:Tm}(hp:¬pisT t≤24):(wholeT t).2.2≠0:=by
 unfold wholeT splitT
 rw[show ((min (pisT t) 25:Nat):Int)=25 by omega]
 split
 ·rw[if_neg (by omega),if_pos (by omega)];decide
 ·decide
def e31Lbl:Nat->Ent->Ent->(List Tm)->(List Tm)->Int->(List Rec')->Option (Con')
 |0,_,_,_,_,_,_=>none
 |qq+1,x1,x3,x7,x13,v9,vb3_2=>
 if decide (v9<(List.length x7:Int))then
 gidx x7 v9>>=fun x16=>
 e79 qq x16>>=fun r18=>
 if decide ((List.length r18:Int)≤24)then
 e86 qq x16>>=fun r21=>
 e87 qq r21 x1.fam x3.pars x3.inds (w64 ((w64 (x1.pars+v9))+(List.length r18:Int)))>>=fun r23=>
 if r23 then
 e78 qq r21>>=fun r26=>
 gsl r26 x3.pars (List.length r26:Int)>>=fun x28=>
 gapp 56 vb3_2 [(Rec'.mk true r18 x28)]>>=fun l30=>
 e31Lbl qq x1 x3 x7 x13 (w64 (v9+1)) l30
 else
 gapp 56 vb3_2 [(Rec'.mk false [] [])]>>=fun l32=>
 e31Lbl qq x1 x3 x7 x13 (w64 (v9+1)) l32
 else
 gapp 56 vb3_2 [(Rec'.mk false [] [])]>>=fun l35=>
 e31Lbl qq x1 x3 x7 x13 (w64 (v9+1)) l35
 else
 some (Con'.mk x7 x13 vb3_2)
def e31(qq:Nat)(p0:List Ent)(p1:Int):Option (Con'):=
 gidx p0 p1>>=fun x1=>
 gidx p0 x1.fam>>=fun x3=>
 e79 qq x1.type>>=fun r5=>
 gsl r5 x1.pars (List.length r5:Int)>>=fun x7=>
 e86 qq x1.type>>=fun r9=>
 e78 qq r9>>=fun r11=>
 gsl r11 x1.pars (List.length r11:Int)>>=fun x13=>
 e31Lbl qq x1 x3 x7 x13 0 []
def g31LblE0(j:Nat->Value)(x1 x3:Ent)(x7 x13:List Tm)(v9:Int)(vb3_2:List Rec'):=sp j 88 0 [(4,.mp 0 0),(5,.mp 1 0),(6,.mp 2 0),(8,.mp 3 0),(9,ai v9)]
def g31LblS0(x1 x3:Ent)(x7 x13:List Tm)(v9:Int)(vb3_2:List Rec'):LSt:=⟨[(0,.cells [slv tmCells ([]:List Tm) .nl,slv tmCells ([]:List Tm) .nl,slv recL ([]:List Rec') .nl]),(1,.cells [ai x1.kind,at' x1.name,ai x1.type.k,ai x1.type.n,slv tmCells x1.type.sub .no,ai x1.body.k,ai x1.body.n,slv tmCells x1.body.sub .no,ai x1.fam,ai x1.place,ai x1.pars,ai x1.inds,ai x1.level,slv intC x1.cons .no,slv intC x1.fields .no]),(2,.cells [ai x3.kind,at' x3.name,ai x3.type.k,ai x3.type.n,slv tmCells x3.type.sub .no,ai x3.body.k,ai x3.body.n,slv tmCells x3.body.sub .no,ai x3.fam,ai x3.place,ai x3.pars,ai x3.inds,ai x3.level,slv intC x3.cons .no,slv intC x3.fields .no]),(3,.cells [slv tmCells x7 .no,slv tmCells x13 .no,slv recL vb3_2 (.st 0 3)])],4,[0],1,[]⟩
abbrev K31 (p0:List Ent) (p1:Int) (r:Con') (C:Cf):Prop:=C 31 [] [slv entL p0 .no,ai p1] (conA r) [] 0
theorem q31:Qf 31 Tryz.f31:=⟨Tryz.func31,by kernel_rfl⟩
theorem k31{p0 p1 r}(h:K31 p0 p1 r Ci):K31 p0 p1 r Ct:=⟨h,⟨⟨tv,dE _⟩,tv,tv⟩,forall_nil,⟨dT _,dT _,dR _,tv⟩,forall_nil⟩
theorem l31Lbl:∀qq:Nat,(∀x1 x3 x7 x13 v9 vb3_2 r,e31Lbl qq x1 x3 x7 x13 v9 vb3_2=some r->(∀j,Dl Tryz.prog 0 (inn (inn (rgt (lft (rgt (rgt (rgt (rgt (rgt (bod Tryz.f31)))))))))) (g31LblE0 j x1 x3 x7 x13 v9 vb3_2) (g31LblS0 x1 x3 x7 x13 v9 vb3_2) (frameQ Tryz.prog 0 (FinQ Tryz.prog 0 Tryz.f31 (conA r) [] 0) [.blk 0,.seq (rgt (rgt (rgt (rgt (rgt (rgt (bod Tryz.f31)))))))]))):=by
 intro qq
 induction qq with
 |zero=>
  exact fun _ _ _ _ _ _ _ h=>nn h
 |succ qq ih=>
  intro x1 x3 x7 x13 v9 vb3_2 r h
  rw[e31Lbl]at h
  rcases spl h with⟨h15,h⟩|⟨h15,h⟩
  obtain⟨x16,h17,h⟩:=obind h
  obtain⟨r18,h19,h⟩:=obind h
  have k:=oC 3 [] (c79 h19)<|oA 1 (ix23 (o:=.no) h17)<|oB 2 h15 o0
  rcases spl h with⟨h20,h⟩|⟨h20,h⟩
  obtain⟨r21,h22,h⟩:=obind h
  obtain⟨r23,h24,h⟩:=obind h
  have k:=oC 1 [] (c86 h22)<|oB 2 h20 k
  rcases spl h with⟨h25,h⟩|⟨h25,h⟩
  obtain⟨r26,h27,h⟩:=obind h
  obtain⟨x28,h29,h⟩:=obind h
  obtain⟨l30,h31,h⟩:=obind h
  exact fun j=>lH 2 [] [0,1,2,3] [2] [4,5,6,8,9] (oD (dR l30)<|oD (dT x13)<|oD (dT x7)<|oD (dI x3.fields)<|oD (dI x3.cons)<|oD (dT x3.body.sub)<|oD (dT x3.type.sub)<|oD (dI x1.fields)<|oD (dI x1.cons)<|oD (dT x1.body.sub)<|oD (dT x1.type.sub)<|oD (dR ([]:List Rec'))<|oD (dT ([]:List Tm))<|oD (dT ([]:List Tm))<|oP 4 (apS55 h31 (by simp))<|oF 1 (slFromO23 (o:=(.st 1 3)) h29)<|oC 0 [] (c78 h27)<|oC 1 [] (c86 h22)<|oK 7 [] h25 (c87 h24) k) (ih _ _ _ _ _ _ _ h)
  obtain⟨l32,h33,h⟩:=obind h
  have k:=oK 7 [] h25 (c87 h24) k
  by_cases h34:List.length [(Rec'.mk false [] [])]=0
  exact fun j=>lH 2 [] [0,1,2,3] [0] [4,5,6,8,9] (oD (dR l32)<|oD (dT x13)<|oD (dT x7)<|oD (dI x3.fields)<|oD (dI x3.cons)<|oD (dT x3.body.sub)<|oD (dT x3.type.sub)<|oD (dI x1.fields)<|oD (dI x1.cons)<|oD (dT x1.body.sub)<|oD (dT x1.type.sub)<|oD (dR ([]:List Rec'))<|oD (dT ([]:List Tm))<|oD (dT ([]:List Tm))<|oP 3 (apN55 h33 h34) k) (ih _ _ _ _ _ _ _ h)
  exact fun j=>lH 2 [] [0,1,2,3] [1] [4,5,6,8,9] (oD (dR l32)<|oD (dT x13)<|oD (dT x7)<|oD (dI x3.fields)<|oD (dI x3.cons)<|oD (dT x3.body.sub)<|oD (dT x3.type.sub)<|oD (dI x1.fields)<|oD (dI x1.cons)<|oD (dT x1.body.sub)<|oD (dT x1.type.sub)<|oD (dR ([]:List Rec'))<|oD (dT ([]:List Tm))<|oD (dT ([]:List Tm))<|oP 3 (apS55 h33 h34) k) (ih _ _ _ _ _ _ _ h)
  obtain⟨l35,h36,h⟩:=obind h
  have k:=oB 2 h20 k
  by_cases h37:List.length [(Rec'.mk false [] [])]=0
  exact fun j=>lH 2 [] [0,1,2,3] [0] [4,5,6,8,9] (oD (dR l35)<|oD (dT x13)<|oD (dT x7)<|oD (dI x3.fields)<|oD (dI x3.cons)<|oD (dT x3.body.sub)<|oD (dT x3.type.sub)<|oD (dI x1.fields)<|oD (dI x1.cons)<|oD (dT x1.body.sub)<|oD (dT x1.type.sub)<|oD (dR ([]:List Rec'))<|oD (dT ([]:List Tm))<|oD (dT ([]:List Tm))<|oP 3 (apN55 h36 h37) k) (ih _ _ _ _ _ _ _ h)
  exact fun j=>lH 2 [] [0,1,2,3] [1] [4,5,6,8,9] (oD (dR l35)<|oD (dT x13)<|oD (dT x7)<|oD (dI x3.fields)<|oD (dI x3.cons)<|oD (dT x3.body.sub)<|oD (dT x3.type.sub)<|oD (dI x1.fields)<|oD (dI x1.cons)<|oD (dT x1.body.sub)<|oD (dT x1.type.sub)<|oD (dR ([]:List Rec'))<|oD (dT ([]:List Tm))<|oD (dT ([]:List Tm))<|oP 3 (apS55 h36 h37) k) (ih _ _ _ _ _ _ _ h)
  obtain rfl:=sj h
  exact fun j=>lF 2 [] (oD (dR vb3_2)<|oD (dT x13)<|oD (dT x7)<|oB 2 h15 o0)
theorem c31{qq p0 p1 r}(h:e31 qq p0 p1=some r):K31 p0 p1 r Ct:=by
 unfold e31 at h
 obtain⟨x1,h2,h⟩:=obind h
 obtain⟨x3,h4,h⟩:=obind h
 obtain⟨r5,h6,h⟩:=obind h
 obtain⟨x7,h8,h⟩:=obind h
 obtain⟨r9,h10,h⟩:=obind h
 obtain⟨r11,h12,h⟩:=obind h
 obtain⟨x13,h14,h⟩:=obind h
 exact k31 (tH q31 1 [(some 3,2,3)] [0,1,2,3] [1] [4,5,6,8,9] (oD (dR ([]:List Rec'))<|oD (dT x13)<|oD (dT x7)<|oD (dI x3.fields)<|oD (dI x3.cons)<|oD (dT x3.body.sub)<|oD (dT x3.type.sub)<|oD (dI x1.fields)<|oD (dI x1.cons)<|oD (dT x1.body.sub)<|oD (dT x1.type.sub)<|oD (dR ([]:List Rec'))<|oD (dT ([]:List Tm))<|oD (dT ([]:List Tm))<|oF 1 (slFromO23 (o:=(.st 0 3)) h14)<|oC 0 [] (c78 h12)<|oC 1 [] (c86 h10)<|oA 1 (slFrom23 h8)<|oC 3 [] (c79 h6)<|oA 3 (ix22 (o:=.no) h4)<|oA 0 (ix22 (o:=.no) h2) o0) (l31Lbl _ _ _ _ _ _ _ _ h))
theorem ev_rTele2{t:Tm}(hs:shapedT t=true):∃L y,splT (pisT t) t=some (L,y)∧L.length=pisT t∧goodT y=true∧y.nodes≤8192∧shapedT y=true∧(∀x∈L,shapedT x=true)∧Evt (fun q=>e79 q t) L∧Evt (fun q=>e86 q t) y:=by
 have hsp:=shapedT_spec hs
 obtain⟨L,y,hL,hlen,hyk,hyg,hyn,hyh,hLg⟩:=tel_spec hsp.2.2
 refine⟨L,y,hL,hlen,hyg,by omega,shapedT_of (by omega) (by omega) hyg,fun x hx=>?_,ev_Tele hsp.2.2 hsp.1 hL hyk,?_⟩
 ·have:=hLg x hx;exact shapedT_of (by omega) (by omega) this.1
 ·simp only[e86];exact ev_Bene _ _ L y hsp.2.2 hL hyk
theorem ev_rPartsL(l:List Ent)(x d:Ent)(A I:List Tm)(hA:∀t∈A,shapedT t=true)(hl:A.length≤24)(hd:d=ent l x.fam)(hp:0≤d.pars∧0≤d.inds∧d.pars+d.inds≤24)(hb:0≤x.pars∧x.pars≤24) :
  ∀(r:List Tm) (v:Nat) (acc:List Rec'),A.drop v=r->acc.length≤v->Evt (fun q=>e31Lbl q x d A I (v:Int) acc) (Con'.mk A I (acc++recsT l x.fam r (x.pars+v)))
 | [],v,acc,hdr,ha=>by
  refine Evt.succ ?_
  simp only[e31Lbl]
  exact Evt.ifF (drop_nil hdr) (Evt.ret.eq (by simp[recsT]))
 |t::r,v,acc,hdr,ha=>by
  have hlt:=drop_lt hdr
  have hst:=hA t (List.mem_of_mem_drop (by rw[hdr];simp))
  obtain⟨L,y,hL,hlen,hyg,hyn,hys,-,e1,e2⟩:=ev_rTele2 hst
  have next:∀R,R=recT l t x.fam (x.pars+v)->Evt (fun q=>gapp 56 acc [R]>>=fun l30=>e31Lbl q x d A I (w64 ((v:Int)+1)) l30) (Con'.mk A I (acc++recsT l x.fam (t::r) (x.pars+v))):=fun R hR=>by
   refine Evt.pure (gapp_ok (by simp;omega)) ?_
   rw[w64_nat v (by omega)]
   refine(ev_rPartsL l x d A I hA hl hd hp hb r (v+1) (acc++[R]) (drop_next hdr) (by simp;omega)).eq ?_
   rw[recsT,hR]
   simp only[List.append_assoc,List.cons_append,List.nil_append]
   rw[show x.pars+((v+1:Nat):Int)=x.pars+v+1 by omega]
  have hwl:L.length≤24->wholeT t=(L,y,0):=fun h=>split_tel hst hL (by omega)
  refine Evt.succ ?_
  simp only[e31Lbl]
  refine Evt.ifT (drop_dec hdr) (Evt.pure (drop_idx hdr) (e1.bind ?_))
  by_cases h24:L.length≤24
  ·have hw:=hwl h24
   refine Evt.ifT (decide_eq_true (by omega)) (e2.bind ?_)
   rw[w64_id (x:=x.pars+v) (by omega) (by omega),w64_id (x:=x.pars+v+(L.length:Int)) (by omega) (by omega)]
   obtain⟨b,h1,h2⟩:=dc_applied y x.fam d.pars d.inds (x.pars+v+L.length) hyg hyn (by omega) (by omega) (by omega)
   refine h1.bind ?_
   cases b with
   |true=>
    have hap:=h2.1 rfl
    have hsp:=appliedT_spec hap
    refine Evt.ifT rfl ((ev_rArgs y.nodes y hyg (Nat.le_refl _) hyn).bind (Evt.pure (gsl_from (by omega) (by omega)) (next _ ?_)))
    unfold recT
    rw[hw,←hd,if_pos ⟨rfl,hap⟩]
   |false=>
    refine Evt.ifF rfl (next _ ?_)
    unfold recT
    rw[hw,←hd,if_neg (fun h=>by have:=h2.2 h.2;cases this)]
  ·refine Evt.ifF (decide_eq_false (by omega)) (next _ ?_)
   unfold recT
   rw[if_neg (fun h=>whole_long (t:=t) (by omega) h.1)]
theorem ev_rParts{N:ByteArray->Bool}(l:List Ent)(c:Int)(hE:AllE N l)(h0:0≤c)(h1:c<l.length)(hk:(ent l c).kind=2):Evt (fun q=>e31 q l c) (partsT l c):=by
 obtain⟨A,z,a1,a2,a3,a4,a5,a6,a7,f0,f1,fk,fp,fi,fs,fa,-⟩:=con_facts hE h0 h1 hk
 have hst:=(wholeT_ok a1).1
 obtain⟨L,y,hL,hlen,hyg,hyn,hys,hLs,e1,e2⟩:=ev_rTele2 hst
 have hw:=split_tel hst hL (by omega)
 have hAL:A=L∧z=y:=by rw[a1]at hw;injection hw with p q;injection q with q;exact⟨p,q⟩
 obtain⟨rfl,rfl⟩:=hAL
 have hsp:=appliedT_spec fa
 simp only[e31]
 refine Evt.pure (gidx_ent h0 h1) (Evt.pure (gidx_ent f0 (by omega)) (e1.bind (Evt.pure (gsl_from a6 (by omega)) (e2.bind ((ev_rArgs z.nodes z hyg (Nat.le_refl _) hyn).bind (Evt.pure (gsl_from a6 (by omega)) ?_))))))
 have:=ev_rPartsL l (ent l c) (ent l (ent l c).fam) (A.drop (ent l c).pars.toNat) ((arT z).drop (ent l c).pars.toNat) (fun t ht=>hLs t (List.mem_of_mem_drop ht)) (by rw[List.length_drop];omega) rfl (by omega) (by omega) (A.drop (ent l c).pars.toNat) 0 [] rfl (by simp)
 refine this.eq ?_
 unfold partsT
 rw[a1]
 simp
theorem liftT_id{t:Tm}{k c:Int}(h:(liftT t k c).2=0):shapedT t=true∧0≤k∧0≤c∧shapedT (lfT t 0 c k)=true∧(liftT t k c).1=lfT t 0 c k:=by
 unfold liftT at h ⊢
 by_cases a:shapedT t=true∧fitsT k=true∧fitsT c=true
 ·rw[if_pos a]at h ⊢
  by_cases b:shapedT (lfT t 0 c k)=true
  ·rw[if_pos b]
   have a2:=a.2.1
   have a3:=a.2.2
   unfold fitsT at a2 a3
   simp only[Bool.and_eq_true,decide_eq_true_eq]at a2 a3
   exact⟨a.1,a2.1,a3.1,b,rfl⟩
  ·rw[if_neg b]at h;simp at h
 ·rw[if_neg a]at h;simp at h
theorem liftT_e8(t:Tm)(k c:Int):(liftT t k c).2≠8:=by
 unfold liftT
 split
 ·split<;>simp
 ·simp
mutual
def siT(ls:List Tm):Tm->Int->Tm
 | .mk kd n l,b=>if kd=1∧b≤n then(if h:(n-b).toNat<ls.length then lfT (ls[(n-b).toNat]) 0 0 b else .mk 1 (n-ls.length) [])else .mk kd n (siL ls l kd 0 b)
def siL(ls:List Tm):List Tm->Int->Nat->Int->List Tm
 | [],_,_,_=>[]
 |t::l,kd,i,b=>siT ls t (undR' kd i b)::siL ls l kd (i+1) b
end
theorem raT_id{a:Tm}{b left:Int}{long:Bool}(h:(raT a b left long).2.2=false):long=false∧(raT a b left long).1=lfT a 0 0 b:=by
 unfold raT at h ⊢
 by_cases h1:left-szT a 0<0
 ·rw[if_pos h1]at h;simp at h
 ·rw[if_neg h1]at h ⊢
  by_cases h2:(liftT a b 0).2≠0
  ·rw[if_pos h2]at h;simp at h
  ·rw[if_neg h2]at h ⊢
   exact⟨h,(liftT_id (by simpa using h2)).2.2.2.2⟩
theorem sbT_long(ls:List Tm):∀(t:Tm) (b left:Int),(sbT ls t b left true).2.2=true
 | .mk kd n l,b,left=>by rw[sbT,if_pos rfl]
mutual
theorem sbT_id(ls:List Tm):∀(t:Tm) (b left:Int) (long:Bool),(sbT ls t b left long).2.2=false->long=false∧(sbT ls t b left long).1=siT ls t b
 | .mk kd n l,b,left,long,h=>by
  cases long with
  |true=>rw[sbT_long]at h;cases h
  |false=>
   refine⟨rfl,?_⟩
   rw[sbT,if_neg (by simp)]at h ⊢
   rw[siT]
   by_cases h1:kd=1∧b≤n
   ·rw[if_pos h1]at h
    rw[if_pos h1,if_pos h1]
    by_cases h2:(n-b).toNat<ls.length
    ·rw[dif_pos h2]at h
     rw[dif_pos h2,dif_pos h2]
     exact(raT_id h).2
    ·rw[dif_neg h2,dif_neg h2]
   ·rw[if_neg h1]at h
    rw[if_neg h1,if_neg h1]
    exact congrArg (Tm.mk kd n) (sbL_id ls l kd 0 b (left-1) (decide (left-1<0)) h).2
theorem sbL_id(ls:List Tm):∀(l:List Tm) (kd:Int) (i:Nat) (b left:Int) (long:Bool),(sbL ls l kd i b left long).2.2=false->long=false∧(sbL ls l kd i b left long).1=siL ls l kd i b
 | [],kd,i,b,left,long,h=>by
  rw[sbL]at h ⊢
  rw[siL]
  exact⟨h,rfl⟩
 |t::l,kd,i,b,left,long,h=>by
  rw[sbL]at h ⊢
  have k:=sbL_id ls l kd (i+1) b (sbT ls t (undR' kd i b) left long).2.1 (sbT ls t (undR' kd i b) left long).2.2 h
  have k2:=sbT_id ls t (undR' kd i b) left long k.1
  refine⟨k2.1,?_⟩
  show (sbT ls t (undR' kd i b) left long).1::(sbL ls l kd (i+1) b (sbT ls t (undR' kd i b) left long).2.1 (sbT ls t (undR' kd i b) left long).2.2).1=_
  rw[k2.2,k.2,siL]
end
theorem subT_id{t:Tm}{ls:List Tm}(h:(subT t ls).2=0):shapedT t=true∧ls.all shapedT=true∧shapedT (siT ls t 0)=true∧(subT t ls).1=siT ls t 0:=by
 unfold subT at h ⊢
 by_cases a:shapedT t=true∧ls.all shapedT=true
 ·rw[if_pos a]at h ⊢
  by_cases b:(sbT ls t 0 8192 false).2.2=true
  ·rw[if_pos b]at h;simp at h
  ·rw[if_neg b]at h ⊢
   have e:=(sbT_id ls t 0 8192 false (by simpa using b)).2
   rw[e]at h ⊢
   by_cases c:shapedT (siT ls t 0)=true
   ·rw[if_pos c];exact⟨a.1,a.2,c,rfl⟩
   ·rw[if_neg c]at h;simp at h
 ·rw[if_neg a]at h;simp at h
theorem subT_e8(t:Tm)(ls:List Tm):(subT t ls).2≠8:=by
 unfold subT
 split
 ·split
  ·simp
  ·split<;>simp
 ·simp
mutual
def AllN(P:Int->Int->Prop):Tm->Prop
 | .mk k n l=>(k=1∨P k n)∧AllNL P l
def AllNL(P:Int->Int->Prop):List Tm->Prop
 | []=>True
 |t::l=>AllN P t∧AllNL P l
end
section
variable {P:Int->Int->Prop}
theorem allN_2{k n:Int}{a b:Tm}(h:k=1∨P k n)(ha:AllN P a)(hb:AllN P b):AllN P (.mk k n [a,b]):=by
 rw[AllN,AllNL,AllNL,AllNL];exact⟨h,ha,hb,trivial⟩
theorem allN_1{k n:Int}{a:Tm}(h:k=1∨P k n)(ha:AllN P a):AllN P (.mk k n [a]):=by
 rw[AllN,AllNL,AllNL];exact⟨h,ha,trivial⟩
theorem allN_0{k n:Int}(h:k=1∨P k n):AllN P (.mk k n []):=by
 rw[AllN,AllNL];exact⟨h,trivial⟩
mutual
theorem allN_lf:∀(t:Tm) (b c k:Int),AllN P t->AllN P (lfT t b c k)
 | .mk kd n l,b,c,k,h=>by
  rw[AllN]at h
  rw[lfT]
  split
  ·exact allN_0 (.inl rfl)
  ·rw[AllN];exact⟨h.1,allNL_lf l kd 0 b c k h.2⟩
theorem allNL_lf:∀(l:List Tm) (kd:Int) (i:Nat) (b c k:Int),AllNL P l->AllNL P (lfL l kd i b c k)
 | [],_,_,_,_,_,_=>by rw[lfL,AllNL];trivial
 |t::l,kd,i,b,c,k,h=>by
  rw[AllNL]at h
  rw[lfL,AllNL]
  exact⟨allN_lf t _ c k h.1,allNL_lf l kd (i+1) b c k h.2⟩
end
mutual
theorem allN_si(ls:List Tm)(hls:∀a∈ls,AllN P a):∀(t:Tm) (b:Int),AllN P t->AllN P (siT ls t b)
 | .mk kd n l,b,h=>by
  rw[AllN]at h
  rw[siT]
  split
  ·split
   ·exact allN_lf _ 0 0 b (hls _ (List.getElem_mem _))
   ·exact allN_0 (.inl rfl)
  ·rw[AllN];exact⟨h.1,allNL_si ls hls l kd 0 b h.2⟩
theorem allNL_si(ls:List Tm)(hls:∀a∈ls,AllN P a):∀(l:List Tm) (kd:Int) (i:Nat) (b:Int),AllNL P l->AllNL P (siL ls l kd i b)
 | [],_,_,_,_=>by rw[siL,AllNL];trivial
 |t::l,kd,i,b,h=>by
  rw[AllNL]at h
  rw[siL,AllNL]
  exact⟨allN_si ls hls t _ h.1,allNL_si ls hls l kd (i+1) b h.2⟩
end
theorem allN_ap:∀(l:List Tm) (f:Tm),P 5 0->AllN P f->(∀a∈l,AllN P a)->AllN P (apT f l)
 | [],f,_,hf,_=>by rw[apT];exact hf
 |a::l,f,h5,hf,hl=>by
  rw[apT]
  exact allN_ap l _ h5 (allN_2 (.inr h5) hf (hl a (by simp))) fun x hx=>hl x (by simp[hx])
theorem allN_spine:∀t:Tm,goodT t=true->AllN P t->AllN P (hdT t)∧∀a∈arT t,AllN P a:=by
 refine app_ind ?_ ?_
 ·intro t hg hk h
  rw[hdT_not hk,arT_not hk]
  exact⟨h,fun x hx=>by cases hx⟩
 ·intro n a b hg ha hb ih h
  rw[hdT_app,arT_app]
  rw[AllN,AllNL,AllNL,AllNL]at h
  refine⟨(ih h.2.1).1,fun x hx=>?_⟩
  rcases List.mem_append.1 hx with hx|hx
  ·exact(ih h.2.1).2 x hx
  ·rw[List.mem_singleton.1 hx];exact h.2.2.1
theorem allN_spl:∀(n:Nat) (t:Tm) (r:List Tm×Tm),goodT t=true->splT n t=some r->AllN P t->AllN P r.2∧∀x∈r.1,AllN P x
 |0,t,r,hg,h,ha=>by
  rw[splT]at h;cases h
  exact⟨ha,fun x hx=>by cases hx⟩
 |n+1,t,r,hg,h,ha=>by
  by_cases h3:t.k=3
  ·obtain⟨a,b,hx,hga,hgb⟩:=pi_form hg h3
   rw[hx]at h ha
   rw[splT_pi]at h
   obtain⟨r',h1,rfl⟩:=Option.map_eq_some_iff.1 h
   rw[AllN,AllNL,AllNL,AllNL]at ha
   have ih:=allN_spl n b r' hgb h1 ha.2.2.1
   refine⟨ih.1,fun x hx=>?_⟩
   rcases List.mem_cons.1 hx with rfl|hx
   ·exact ha.2.1
   ·exact ih.2 x hx
  ·rw[splT_not h3]at h;cases h
end
mutual
theorem allN_and'{P Q R:Int->Int->Prop}(h:∀k n,P k n->Q k n->R k n):∀t:Tm,AllN P t->AllN Q t->AllN R t
 | .mk k n l,hp,hq=>by
  rw[AllN]at hp hq ⊢
  refine⟨?_,allNL_and' h l hp.2 hq.2⟩
  rcases hp.1 with h1|h1
  ·exact .inl h1
  ·rcases hq.1 with h2|h2
   ·exact .inl h2
   ·exact .inr (h k n h1 h2)
theorem allNL_and'{P Q R:Int->Int->Prop}(h:∀k n,P k n->Q k n->R k n):∀l:List Tm,AllNL P l->AllNL Q l->AllNL R l
 | [],_,_=>by rw[AllNL];trivial
 |t::l,hp,hq=>by
  rw[AllNL]at hp hq ⊢
  exact⟨allN_and' h t hp.1 hq.1,allNL_and' h l hp.2 hq.2⟩
end
theorem allN_mono{P R:Int->Int->Prop}{t:Tm}(h:∀k n,P k n->R k n)(hp:AllN P t):AllN R t:=allN_and' (fun k n a _=>h k n a) t hp hp
mutual
theorem allN_col{a b:Int}{Q:Int->Prop}(ha:a≠1)(hb:b≠1):∀t:Tm,(∀x∈colT t a b,Q x)↔AllN (fun k n=>k=a∨k=b->Q n) t
 | .mk k n l=>by
  have ih:=allNL_col (Q:=Q) ha hb l
  rw[colT,AllN,←ih]
  constructor
  ·intro h
   refine⟨?_,fun x hx=>h x (List.mem_append_right _ hx)⟩
   by_cases h1:k=a∨k=b
   ·exact .inr fun _=>h n (by rw[if_pos h1];simp)
   ·exact .inr fun h2=>absurd h2 h1
  ·rintro ⟨h1,h2⟩ x hx
   rcases List.mem_append.1 hx with hx|hx
   ·by_cases h3:k=a∨k=b
    ·rw[if_pos h3,List.mem_singleton]at hx
     rcases h1 with h1|h1
     ·omega
     ·rw[hx];exact h1 h3
    ·rw[if_neg h3]at hx;cases hx
   ·exact h2 x hx
theorem allNL_col{a b:Int}{Q:Int->Prop}(ha:a≠1)(hb:b≠1):∀l:List Tm,(∀x∈colL l a b,Q x)↔AllNL (fun k n=>k=a∨k=b->Q n) l
 | []=>by rw[colL,AllNL];simp
 |t::l=>by
  rw[colL,AllNL,←allN_col ha hb t,←allNL_col ha hb l]
  constructor
  ·intro h
   exact⟨fun x hx=>h x (List.mem_append_left _ hx),fun x hx=>h x (List.mem_append_right _ hx)⟩
  ·rintro ⟨h1,h2⟩ x hx
   rcases List.mem_append.1 hx with hx|hx
   ·exact h1 x hx
   ·exact h2 x hx
end
theorem closed_nodes{t:Tm}{n:Int}(h:closedT' t n=true):AllN (fun k x=>(k=6∨k=7->x<n)∧k≠8) t:=by
 have h6:AllN (fun k x=>k=6∨k=7->x<n) t:=by
  refine(allN_col (by decide) (by decide) t).1 ?_
  unfold closedT' rightT at h
  simp only[Bool.and_eq_true,List.all_eq_true,decide_eq_true_eq]at h
  exact h.1.2
 have h8:AllN (fun k x=>k=8∨k=8->False) t:=by
  refine(allN_col (Q:=fun _=>False) (by decide) (by decide) t).1 ?_
  unfold closedT' at h
  simp only[Bool.and_eq_true,List.isEmpty_iff]at h
  rw[h.2]
  exact fun x hx=>by cases hx
 exact allN_and' (fun k n a b=>⟨a,fun h=>b (.inl h)⟩) t h6 h8
def e146Lbm:Nat->(List Tm)->Int->Option (List Tm)
 |0,_,_=>none
 |qq+1,v3,v4=>
 if decide (v4≥0)then
 e149 qq v4>>=fun r4=>
 gapp 40 v3 [r4]>>=fun l6=>
 e146Lbm qq l6 (w64 (v4-1))
 else
 some v3
def e146(qq:Nat)(p0:Int):Option (List Tm):=
 if decide (p0<0)then
 some []
 else
 if decide (p0>1048576)then
 some []
 else
 e146Lbm qq [] (w64 (p0-1))
def g146LbmE0(j:Nat->Value)(v3:List Tm)(v4:Int):=sp j 23 0 [(3,slv tmCells v3 (.st 0 3)),(4,ai v4)]
def g146LbmS0(v3:List Tm)(v4:Int):LSt:=⟨[],0,[0],1,[]⟩
abbrev K146 (p0:Int) (r:List Tm) (C:Cf):Prop:=C 146 [] [ai p0] (.sl (flat tmCells r) (List.length r) .no) [] 0
theorem q146:Qf 146 Tryz.f146:=⟨Tryz.func146,by kernel_rfl⟩
theorem k146{p0 r}(h:K146 p0 r Ci):K146 p0 r Ct:=⟨h,⟨tv,tv⟩,forall_nil,dT _,forall_nil⟩
theorem l146Lbm:∀qq:Nat,(∀v3 v4 r,e146Lbm qq v3 v4=some r->(∀j,Dl Tryz.prog 0 (inn (inn (rgt (lft (rgt (rgt (rgt (bod Tryz.f146)))))))) (g146LbmE0 j v3 v4) (g146LbmS0 v3 v4) (frameQ Tryz.prog 0 (FinQ Tryz.prog 0 Tryz.f146 (.sl (flat tmCells r) (List.length r) .no) [] 0) [.blk 0,.seq (rgt (rgt (rgt (rgt (bod Tryz.f146)))))]))):=by
 intro qq
 induction qq with
 |zero=>
  exact fun _ _ _ h=>nn h
 |succ qq ih=>
  intro v3 v4 r h
  rw[e146Lbm]at h
  rcases spl h with⟨h3,h⟩|⟨h3,h⟩
  obtain⟨r4,h5,h⟩:=obind h
  obtain⟨l6,h7,h⟩:=obind h
  exact fun j=>lH 1 [] [] [1] [3,4] (oD (dT l6)<|oP 0 (apS23 h7 (by simp))<|oS 0 (obLitR tm_eq [r4])<|oC 0 [] (c149 h5)<|oB 0 h3 o0) (ih _ _ _ h)
  obtain rfl:=sj h
  exact fun j=>lF 0 [] (oD (dT v3)<|oB 0 h3 o0)
theorem c146{qq p0 r}(h:e146 qq p0=some r):K146 p0 r Ct:=by
 unfold e146 at h
 rcases spl h with⟨h1,h⟩|⟨h1,h⟩
 obtain rfl:=sj h
 exact k146 (tF q146 0 [] (oD (dT ([]:List Tm))<|oB 0 h1 o0))
 have k:=oB 0 h1 o0
 rcases spl h with⟨h2,h⟩|⟨h2,h⟩
 obtain rfl:=sj h
 exact k146 (tF q146 0 [] (oD (dT ([]:List Tm))<|oB 0 h2 k))
 exact k146 (tH q146 1 [(none,3,3)] [] [0] [3,4] (oD (dT ([]:List Tm))<|oB 0 h2 k) (l146Lbm _ _ _ _ h))
def e217(qq:Nat)(q0_e:Int)(p1:List Tm)(p2:Int):Option (List Tm×Int):=
 if q0_e==0 then
 some (p1,p2)
 else
 some (p1,q0_e)
abbrev K217 (q0_e:Int) (p1:List Tm) (p2:Int) (r:List Tm×Int) (C:Cf):Prop:=C 217 [.cells [ai q0_e]] [.mp 0 0,slv tmCells p1 .no,ai p2] (.sl (flat tmCells r.1) (List.length r.1) .no) [.cells [ai r.2]] 0
theorem q217:Qf 217 Tryz.f217:=⟨Tryz.func217,by kernel_rfl⟩
theorem k217{q0_e p1 p2 r}(h:K217 q0_e p1 p2 r Ci):K217 q0_e p1 p2 r Ct:=⟨h,⟨(lz rfl),⟨tv,dT _⟩,tv,tv⟩,(forall_cons ⟨tv,tv⟩ forall_nil),dT _,(forall_cons ⟨tv,tv⟩ forall_nil)⟩
theorem c217{qq q0_e p1 p2 r}(h:e217 qq q0_e p1 p2=some r):K217 q0_e p1 p2 r Ct:=by
 unfold e217 at h
 rcases spl h with⟨h1,h⟩|⟨h1,h⟩
 obtain rfl:=sj h
 exact k217 (tF q217 1 [0] (oD (dT p1)<|oB 1 h1 o0))
 obtain rfl:=sj h
 exact k217 (tF q217 0 [0] (oD (dT p1)<|oB 1 h1 o0))
def e218Lbn:Nat->(List Tm)->Int->Int->Int->(List Tm)->Option (List Tm×Int)
 |0,_,_,_,_,_=>none
 |qq+1,p0,p1,p2,v15,v8=>
 if decide (v15<(List.length p0:Int))then
 gidx p0 v15>>=fun x2=>
 e279 qq x2 p1 p2>>=fun r4=>
 if r4.2 != 0 then
 some ([],r4.2)
 else
 gapp 40 v8 [r4.1]>>=fun l7=>
 e218Lbn qq p0 p1 p2 (w64 (v15+1)) l7
 else
 some (v8,0)
def e218(qq:Nat)(p0:List Tm)(p1 p2:Int):Option (List Tm×Int):=
 e218Lbn qq p0 p1 p2 0 []
def g218LbnE0(j:Nat->Value)(p0:List Tm)(p1 p2 v15:Int)(v8:List Tm):=sp j 35 0 [(1,ai p1),(2,ai p2),(8,slv tmCells v8 (.st 0 3)),(13,slv tmCells p0 .no),(14,ai (List.length p0:Int)),(15,ai v15)]
def g218LbnS0(p0:List Tm)(p1 p2 v15:Int)(v8:List Tm):LSt:=⟨[],0,[0],1,[]⟩
abbrev K218 (p0:List Tm) (p1 p2:Int) (r:List Tm×Int) (C:Cf):Prop:=C 218 [] [slv tmCells p0 .no,ai p1,ai p2] (.tup [.sl (flat tmCells r.1) (List.length r.1) .no,ai r.2]) [] 0
theorem q218:Qf 218 Tryz.f218:=⟨Tryz.func218,by kernel_rfl⟩
theorem k218{p0 p1 p2 r}(h:K218 p0 p1 p2 r Ci):K218 p0 p1 p2 r Ct:=⟨h,⟨⟨tv,dT _⟩,tv,tv,tv⟩,forall_nil,⟨dT _,tv,tv⟩,forall_nil⟩
theorem l218Lbn:∀qq:Nat,(∀p0 p1 p2 v15 v8 r,e218Lbn qq p0 p1 p2 v15 v8=some r->(∀j,Dl Tryz.prog 0 (inn (inn (rgt (lft (rgt (rgt (bod Tryz.f218))))))) (g218LbnE0 j p0 p1 p2 v15 v8) (g218LbnS0 p0 p1 p2 v15 v8) (frameQ Tryz.prog 0 (FinQ Tryz.prog 0 Tryz.f218 (.tup [.sl (flat tmCells r.1) (List.length r.1) .no,ai r.2]) [] 0) [.blk 0,.seq (rgt (rgt (rgt (bod Tryz.f218))))]))):=by
 intro qq
 induction qq with
 |zero=>
  exact fun _ _ _ _ _ _ h=>nn h
 |succ qq ih=>
  intro p0 p1 p2 v15 v8 r h
  rw[e218Lbn]at h
  rcases spl h with⟨h1,h⟩|⟨h1,h⟩
  obtain⟨x2,h3,h⟩:=obind h
  obtain⟨r4,h5,h⟩:=obind h
  have k:=oC 3 [] (c279 h5)<|oA 0 (ix23 (o:=.no) h3)<|oB 0 h1 o0
  rcases spl h with⟨h6,h⟩|⟨h6,h⟩
  obtain rfl:=sj h
  exact fun j=>lF 0 [] (oD (dT ([]:List Tm))<|oB 3 h6 k)
  obtain⟨l7,h8,h⟩:=obind h
  exact fun j=>lH 1 [] [] [1] [1,2,8,13,14,15] (oD (dT p0)<|oD (dT l7)<|oP 0 (apS23 h8 (by simp))<|oS 1 (obLitR tm_eq [r4.1])<|oB 3 h6 k) (ih _ _ _ _ _ _ h)
  obtain rfl:=sj h
  exact fun j=>lF 0 [] (oD (dT v8)<|oB 0 h1 o0)
theorem c218{qq p0 p1 p2 r}(h:e218 qq p0 p1 p2=some r):K218 p0 p1 p2 r Ct:=by
 unfold e218 at h
 exact k218 (tH q218 1 [(none,8,3)] [] [0] [1,2,8,13,14,15] (oD (dT p0)<|oD (dT ([]:List Tm)) o0) (l218Lbn _ _ _ _ _ _ _ h))
def e148(qq:Nat)(q0_e:Int)(p1:List Tm)(p2:Int):Option (List Tm×Int):=
 e218 qq p1 p2 0>>=fun r1=>
 e217 qq q0_e r1.1 r1.2>>=fun r3=>
 some (r3.1,r3.2)
abbrev K148 (q0_e:Int) (p1:List Tm) (p2:Int) (r:List Tm×Int) (C:Cf):Prop:=C 148 [.cells [ai q0_e]] [.mp 0 0,slv tmCells p1 .no,ai p2] (.sl (flat tmCells r.1) (List.length r.1) .no) [.cells [ai r.2]] 0
theorem q148:Qf 148 Tryz.f148:=⟨Tryz.func148,by kernel_rfl⟩
theorem k148{q0_e p1 p2 r}(h:K148 q0_e p1 p2 r Ci):K148 q0_e p1 p2 r Ct:=⟨h,⟨(lz rfl),⟨tv,dT _⟩,tv,tv⟩,(forall_cons ⟨tv,tv⟩ forall_nil),dT _,(forall_cons ⟨tv,tv⟩ forall_nil)⟩
theorem c148{qq q0_e p1 p2 r}(h:e148 qq q0_e p1 p2=some r):K148 q0_e p1 p2 r Ct:=by
 unfold e148 at h
 obtain⟨r1,h2,h⟩:=obind h
 obtain⟨r3,h4,h⟩:=obind h
 obtain rfl:=sj h
 exact k148 (tF q148 0 [0] (oD (dT r3.1)<|oC 2 [0] (c217 h4)<|oC 0 [] (c218 h2) o0))
def e154(qq:Nat)(q0_e:Int)(p1:Tm)(p2:Int):Option (Tm×Int):=
 if q0_e==0 then
 some (p1,p2)
 else
 some (p1,q0_e)
abbrev K154 (q0_e:Int) (p1:Tm) (p2:Int) (r:Tm×Int) (C:Cf):Prop:=C 154 [.cells [ai q0_e]] [.mp 0 0,tmA p1,ai p2] (tmA r.1) [.cells [ai r.2]] 0
theorem q154:Qf 154 Tryz.f154:=⟨Tryz.func154,by kernel_rfl⟩
theorem k154{q0_e p1 p2 r}(h:K154 q0_e p1 p2 r Ci):K154 q0_e p1 p2 r Ct:=⟨h,⟨(lz rfl),⟨tv,tv,⟨tv,dT _⟩,tv⟩,tv,tv⟩,(forall_cons ⟨tv,tv⟩ forall_nil),⟨tv,tv,dT _,tv⟩,(forall_cons ⟨tv,tv⟩ forall_nil)⟩
theorem c154{qq q0_e p1 p2 r}(h:e154 qq q0_e p1 p2=some r):K154 q0_e p1 p2 r Ct:=by
 unfold e154 at h
 rcases spl h with⟨h1,h⟩|⟨h1,h⟩
 obtain rfl:=sj h
 exact k154 (tF q154 3 [0] (oD (dT p1.sub)<|oB 1 h1 o0))
 obtain rfl:=sj h
 exact k154 (tF q154 2 [0] (oD (dT p1.sub)<|oB 1 h1 o0))
def e216Lbo:Nat->Tm->(List Tm×Int)->Int->(List Tm)->Option (Tm×Int)
 |0,_,_,_,_=>none
 |qq+1,p1,r6,v12,v9=>
 if decide (v12≥0)then
 gidx r6.1 v12>>=fun x9=>
 gapp 40 v9 [x9]>>=fun l11=>
 e216Lbo qq p1 r6 (w64 (v12-1)) l11
 else
 e187 qq p1 v9>>=fun r13=>
 e154 qq r6.2 r13.1 r13.2>>=fun r15=>
 some (r15.1,r15.2)
def e216Lbp:Nat->Int->Tm->Int->(List Tm)->Int->(List Tm)->Option (Tm×Int)
 |0,_,_,_,_,_,_=>none
 |qq+1,q0_e,p1,p2,p3,v14,v9=>
 if decide (v14<p2)then
 e149 qq v14>>=fun r2=>
 gapp 40 v9 [r2]>>=fun l4=>
 e216Lbp qq q0_e p1 p2 p3 (w64 (v14+1)) l4
 else
 e148 qq q0_e p3 p2>>=fun r6=>
 e216Lbo qq p1 r6 (w64 ((List.length r6.1:Int)-1)) v9
def e216(qq:Nat)(q0_e:Int)(p1:Tm)(p2:Int)(p3:List Tm):Option (Tm×Int):=
 e216Lbp qq q0_e p1 p2 p3 0 []
def g216LbpE0(j:Nat->Value)(q0_e:Int)(p1:Tm)(p2:Int)(p3:List Tm)(v14:Int)(v9:List Tm):=sp j 48 0 [(0,.mp 0 0),(2,ai p2),(3,slv tmCells p3 .no),(5,.mp 1 0),(8,.mp 2 0),(9,slv tmCells v9 (.st 0 3)),(13,ai p2),(14,ai v14)]
def g216LbpS0(q0_e:Int)(p1:Tm)(p2:Int)(p3:List Tm)(v14:Int)(v9:List Tm):LSt:=⟨[(0,.cells [ai q0_e]),(1,.cells [ai p1.k,ai p1.n,slv tmCells p1.sub .no]),(2,.cells [ai 0,ai 0,slv tmCells ([]:List Tm) .nl])],3,[0],1,[]⟩
def g216LboE0(j:Nat->Value)(p1:Tm)(r6:List Tm×Int)(v12:Int)(v9:List Tm):=sp j 48 0 [(0,.mp 0 0),(5,.mp 1 0),(8,.mp 2 0),(9,slv tmCells v9 (.st 0 3)),(11,slv tmCells r6.1 .no),(12,ai v12)]
def g216LboS0(p1:Tm)(r6:List Tm×Int)(v12:Int)(v9:List Tm):LSt:=⟨[(0,.cells [ai r6.2]),(1,.cells [ai p1.k,ai p1.n,slv tmCells p1.sub .no]),(2,.cells [ai 0,ai 0,slv tmCells ([]:List Tm) .nl])],3,[0],1,[]⟩
abbrev K216 (q0_e:Int) (p1:Tm) (p2:Int) (p3:List Tm) (r:Tm×Int) (C:Cf):Prop:=C 216 [.cells [ai q0_e]] [.mp 0 0,tmA p1,ai p2,slv tmCells p3 .no] (tmA r.1) [.cells [ai r.2]] 0
theorem q216:Qf 216 Tryz.f216:=⟨Tryz.func216,by kernel_rfl⟩
theorem k216{q0_e p1 p2 p3 r}(h:K216 q0_e p1 p2 p3 r Ci):K216 q0_e p1 p2 p3 r Ct:=⟨h,⟨(lz rfl),⟨tv,tv,⟨tv,dT _⟩,tv⟩,tv,⟨tv,dT _⟩,tv⟩,(forall_cons ⟨tv,tv⟩ forall_nil),⟨tv,tv,dT _,tv⟩,(forall_cons ⟨tv,tv⟩ forall_nil)⟩
theorem l216Lbo:∀qq:Nat,(∀p1 r6 v12 v9 r,e216Lbo qq p1 r6 v12 v9=some r->(∀j,Dl Tryz.prog 1 (inn (inn (rgt (lft (rgt (rgt (rgt (rgt (bod Tryz.f216))))))))) (g216LboE0 j p1 r6 v12 v9) (g216LboS0 p1 r6 v12 v9) (frameQ Tryz.prog 1 (FinQ Tryz.prog 1 Tryz.f216 (tmA r.1) [.cells [ai r.2]] 0) [.blk 2,.seq (rgt (rgt (rgt (rgt (rgt (bod Tryz.f216))))))]))):=by
 intro qq
 induction qq with
 |zero=>
  exact fun _ _ _ _ _ h=>nn h
 |succ qq ih=>
  intro p1 r6 v12 v9 r h
  rw[e216Lbo]at h
  rcases spl h with⟨h8,h⟩|⟨h8,h⟩
  obtain⟨x9,h10,h⟩:=obind h
  obtain⟨l11,h12,h⟩:=obind h
  exact fun j=>lH 1 [] [0,1,2] [1] [0,5,8,9,11,12] (oD (dT r6.1)<|oD (dT l11)<|oD (dT ([]:List Tm))<|oD (dT p1.sub)<|oP 0 (apS23 h12 (by simp))<|oS 1 (obLitR tm_eq [x9])<|oA 0 (ix23 (o:=.no) h10)<|oB 0 h8 o0) (ih _ _ _ _ _ h)
  obtain⟨r13,h14,h⟩:=obind h
  obtain⟨r15,h16,h⟩:=obind h
  obtain rfl:=sj h
  exact fun j=>lF 1 [0] (oD (dT r15.1.sub)<|oC 2 [0] (c154 h16)<|oC 1 [] (c187 h14)<|oB 0 h8 o0)
theorem l216Lbp:∀qq:Nat,(∀q0_e p1 p2 p3 v14 v9 r,e216Lbp qq q0_e p1 p2 p3 v14 v9=some r->(∀j,Dl Tryz.prog 1 (inn (inn (rgt (lft (rgt (rgt (bod Tryz.f216))))))) (g216LbpE0 j q0_e p1 p2 p3 v14 v9) (g216LbpS0 q0_e p1 p2 p3 v14 v9) (frameQ Tryz.prog 1 (FinQ Tryz.prog 1 Tryz.f216 (tmA r.1) [.cells [ai r.2]] 0) [.blk 0,.seq (rgt (rgt (rgt (bod Tryz.f216))))]))):=by
 intro qq
 induction qq with
 |zero=>
  exact fun _ _ _ _ _ _ _ h=>nn h
 |succ qq ih=>
  intro q0_e p1 p2 p3 v14 v9 r h
  rw[e216Lbp]at h
  rcases spl h with⟨h1,h⟩|⟨h1,h⟩
  obtain⟨r2,h3,h⟩:=obind h
  obtain⟨l4,h5,h⟩:=obind h
  exact fun j=>lH 1 [] [0,1,2] [1] [0,2,3,5,8,9,13,14] (oD (dT l4)<|oD (dT p3)<|oD (dT ([]:List Tm))<|oD (dT p1.sub)<|oP 0 (apS23 h5 (by simp))<|oS 0 (obLitR tm_eq [r2])<|oC 0 [] (c149 h3)<|oB 0 h1 o0) (ih _ _ _ _ _ _ _ h)
  obtain⟨r6,h7,h⟩:=obind h
  exact fun j=>lH 2 [] [0,1,2] [0] [0,5,8,9,11,12] (oD (dT r6.1)<|oD (dT v9)<|oD (dT ([]:List Tm))<|oD (dT p1.sub)<|oC 0 [0] (c148 h7)<|oB 0 h1 o0) (l216Lbo _ _ _ _ _ _ h)
theorem c216{qq q0_e p1 p2 p3 r}(h:e216 qq q0_e p1 p2 p3=some r):K216 q0_e p1 p2 p3 r Ct:=by
 unfold e216 at h
 exact k216 (tH q216 0 [(none,9,3)] [0,1,2] [0] [0,2,3,5,8,9,13,14] (oD (dT ([]:List Tm))<|oD (dT p3)<|oD (dT ([]:List Tm))<|oD (dT p1.sub) o0) (l216Lbp _ _ _ _ _ _ _ _ h))
def e150Lbq:Nat->(List Tm)->(List Tm)->Int->(List Tm)->Int->Option (List Tm×Int)
 |0,_,_,_,_,_=>none
 |qq+1,p1,p2,v12,v7,vb0_0=>
 if decide (v12<(List.length p1:Int))then
 gidx p1 v12>>=fun x2=>
 e216 qq vb0_0 x2 v12 p2>>=fun r4=>
 gapp 40 v7 [r4.1]>>=fun l6=>
 e150Lbq qq p1 p2 (w64 (v12+1)) l6 r4.2
 else
 some (v7,vb0_0)
def e150(qq:Nat)(q0_e:Int)(p1 p2:List Tm):Option (List Tm×Int):=
 e150Lbq qq p1 p2 0 [] q0_e
def g150LbqE0(j:Nat->Value)(p1 p2:List Tm)(v12:Int)(v7:List Tm)(vb0_0:Int):=sp j 27 0 [(0,.mp 0 0),(2,slv tmCells p2 .no),(7,slv tmCells v7 (.st 0 3)),(10,slv tmCells p1 .no),(11,ai (List.length p1:Int)),(12,ai v12)]
def g150LbqS0(p1 p2:List Tm)(v12:Int)(v7:List Tm)(vb0_0:Int):LSt:=⟨[(0,.cells [ai vb0_0])],1,[0],1,[]⟩
abbrev K150 (q0_e:Int) (p1 p2:List Tm) (r:List Tm×Int) (C:Cf):Prop:=C 150 [.cells [ai q0_e]] [.mp 0 0,slv tmCells p1 .no,slv tmCells p2 .no] (slv tmCells r.1 (.st 0 3)) [.cells [ai r.2]] 1
theorem q150:Qf 150 Tryz.f150:=⟨Tryz.func150,by kernel_rfl⟩
theorem k150{q0_e p1 p2 r}(h:K150 q0_e p1 p2 r Ci):K150 q0_e p1 p2 r Ct:=⟨h,⟨(lz rfl),⟨tv,dT _⟩,⟨tv,dT _⟩,tv⟩,(forall_cons ⟨tv,tv⟩ forall_nil),dT _,(forall_cons ⟨tv,tv⟩ forall_nil)⟩
theorem l150Lbq:∀qq:Nat,(∀p1 p2 v12 v7 vb0_0 r,e150Lbq qq p1 p2 v12 v7 vb0_0=some r->(∀j,Dl Tryz.prog 1 (inn (inn (rgt (lft (rgt (rgt (bod Tryz.f150))))))) (g150LbqE0 j p1 p2 v12 v7 vb0_0) (g150LbqS0 p1 p2 v12 v7 vb0_0) (frameQ Tryz.prog 1 (FinQ Tryz.prog 1 Tryz.f150 (slv tmCells r.1 (.st 0 3)) [.cells [ai r.2]] 1) [.blk 0,.seq (rgt (rgt (rgt (bod Tryz.f150))))]))):=by
 intro qq
 induction qq with
 |zero=>
  exact fun _ _ _ _ _ _ h=>nn h
 |succ qq ih=>
  intro p1 p2 v12 v7 vb0_0 r h
  rw[e150Lbq]at h
  rcases spl h with⟨h1,h⟩|⟨h1,h⟩
  obtain⟨x2,h3,h⟩:=obind h
  obtain⟨r4,h5,h⟩:=obind h
  obtain⟨l6,h7,h⟩:=obind h
  exact fun j=>lH 1 [] [0] [1] [0,2,7,10,11,12] (oD (dT p1)<|oD (dT l6)<|oD (dT p2)<|oP 0 (apS23 h7 (by simp))<|oS 0 (obLitR tm_eq [r4.1])<|oC 3 [0] (c216 h5)<|oA 0 (ix23 (o:=.no) h3)<|oB 0 h1 o0) (ih _ _ _ _ _ _ h)
  obtain rfl:=sj h
  exact fun j=>lG 0 [] [0] [0] true (oD (dT v7)<|oB 0 h1 o0)
theorem c150{qq q0_e p1 p2 r}(h:e150 qq q0_e p1 p2=some r):K150 q0_e p1 p2 r Ct:=by
 unfold e150 at h
 exact k150 (tH q150 1 [(none,7,3)] [0] [0] [0,2,7,10,11,12] (oD (dT p1)<|oD (dT ([]:List Tm))<|oD (dT p2) o0) (l150Lbq _ _ _ _ _ _ _ h))
def e153(qq:Nat)(q0_e:Int)(p1:Tm):Option (Tm×Int×Int):=
 if q0_e==0 then
 e89 qq p1>>=fun r2=>
 if r2 then
 if q0_e != 0 then
 some ((Tm.mk 0 0 []),q0_e,q0_e)
 else
 some (p1,0,q0_e)
 else
 some ((Tm.mk 0 0 []),2,2)
 else
 if q0_e != 0 then
 some ((Tm.mk 0 0 []),q0_e,q0_e)
 else
 some (p1,0,q0_e)
abbrev K153 (q0_e:Int) (p1:Tm) (r:Tm×Int×Int) (C:Cf):Prop:=C 153 [.cells [ai q0_e]] [.mp 0 0,tmA p1] (.tup [tmA r.1,ai r.2.1]) [.cells [ai r.2.2]] 0
theorem q153:Qf 153 Tryz.f153:=⟨Tryz.func153,by kernel_rfl⟩
theorem k153{q0_e p1 r}(h:K153 q0_e p1 r Ci):K153 q0_e p1 r Ct:=⟨h,⟨(lz rfl),⟨tv,tv,⟨tv,dT _⟩,tv⟩,tv⟩,(forall_cons ⟨tv,tv⟩ forall_nil),⟨⟨tv,tv,dT _,tv⟩,tv,tv⟩,(forall_cons ⟨tv,tv⟩ forall_nil)⟩
theorem c153{qq q0_e p1 r}(h:e153 qq q0_e p1=some r):K153 q0_e p1 r Ct:=by
 unfold e153 at h
 rcases spl h with⟨h1,h⟩|⟨h1,h⟩
 obtain⟨r2,h3,h⟩:=obind h
 have k:=oB 1 h1 o0
 rcases spl h with⟨h4,h⟩|⟨h4,h⟩
 have k:=oK 1 [] h4 (c89 h3) k
 rcases spl h with⟨h5,h⟩|⟨h5,h⟩
 obtain rfl:=sj h
 exact k153 (tF q153 2 [0] (oD (dT ([]:List Tm))<|oB 2 h5 k))
 obtain rfl:=sj h
 exact k153 (tF q153 2 [0] (oD (dT p1.sub)<|oB 2 h5 k))
 obtain rfl:=sj h
 exact k153 (tF q153 6 [0] (oD (dT ([]:List Tm))<|oK 1 [] h4 (c89 h3) k))
 have k:=oB 1 h1 o0
 rcases spl h with⟨h6,h⟩|⟨h6,h⟩
 obtain rfl:=sj h
 exact k153 (tF q153 2 [0] (oD (dT ([]:List Tm))<|oB 1 h6 k))
 obtain rfl:=sj h
 exact k153 (tF q153 2 [0] (oD (dT p1.sub)<|oB 1 h6 k))
def e159(qq:Nat)(p0:List Ent)(p1 p2:Int):Option (Bool):=
 if decide (p1≥0)then
 if decide (p1<(List.length p0:Int))then
 gidx p0 p1>>=fun x3=>
 some (x3.kind==p2)
 else
 some false
 else
 some false
abbrev K159 (p0:List Ent) (p1 p2:Int) (r:Bool) (C:Cf):Prop:=C 159 [] [slv entL p0 .no,ai p1,ai p2] (ab r) [] 0
theorem q159:Qf 159 Tryz.f159:=⟨Tryz.func159,by kernel_rfl⟩
theorem k159{p0 p1 p2 r}(h:K159 p0 p1 p2 r Ci):K159 p0 p1 p2 r Ct:=⟨h,⟨⟨tv,dE _⟩,tv,tv,tv⟩,forall_nil,tv,forall_nil⟩
theorem c159{qq p0 p1 p2 r}(h:e159 qq p0 p1 p2=some r):K159 p0 p1 p2 r Ct:=by
 unfold e159 at h
 rcases spl h with⟨h1,h⟩|⟨h1,h⟩
 have k:=oB 0 h1 o0
 rcases spl h with⟨h2,h⟩|⟨h2,h⟩
 obtain⟨x3,h4,h⟩:=obind h
 obtain rfl:=sj h
 exact k159 (tF q159 2 [] (oA 0 (ix22 (o:=.no) h4)<|oB 1 h2 k))
 obtain rfl:=sj h
 exact k159 (tF q159 0 [] (oB 1 h2 k))
 obtain rfl:=sj h
 exact k159 (tF q159 0 [] (oB 0 h1 o0))
def e160Lbr:Nat->(List Tm)->Int->Option (Bool)
 |0,_,_=>none
 |qq+1,p0,v7=>
 if decide (v7<(List.length p0:Int))then
 gidx p0 v7>>=fun x2=>
 e89 qq x2>>=fun r4=>
 if r4 then
 e160Lbr qq p0 (w64 (v7+1))
 else
 some false
 else
 some true
def e160(qq:Nat)(p0:List Tm):Option (Bool):=
 e160Lbr qq p0 0
def g160LbrE0(j:Nat->Value)(p0:List Tm)(v7:Int):=sp j 15 0 [(5,slv tmCells p0 .no),(6,ai (List.length p0:Int)),(7,ai v7)]
def g160LbrS0(p0:List Tm)(v7:Int):LSt:=⟨[],0,[],0,[]⟩
abbrev K160 (p0:List Tm) (r:Bool) (C:Cf):Prop:=C 160 [] [slv tmCells p0 .no] (ab r) [] 0
theorem q160:Qf 160 Tryz.f160:=⟨Tryz.func160,by kernel_rfl⟩
theorem k160{p0 r}(h:K160 p0 r Ci):K160 p0 r Ct:=⟨h,⟨⟨tv,dT _⟩,tv⟩,forall_nil,tv,forall_nil⟩
theorem l160Lbr:∀qq:Nat,(∀p0 v7 r,e160Lbr qq p0 v7=some r->(∀j,Dl Tryz.prog 0 (inn (inn (rgt (lft (rgt (bod Tryz.f160)))))) (g160LbrE0 j p0 v7) (g160LbrS0 p0 v7) (frameQ Tryz.prog 0 (FinQ Tryz.prog 0 Tryz.f160 (ab r) [] 0) [.blk 0,.seq (rgt (rgt (bod Tryz.f160)))]))):=by
 intro qq
 induction qq with
 |zero=>
  exact fun _ _ _ h=>nn h
 |succ qq ih=>
  intro p0 v7 r h
  rw[e160Lbr]at h
  rcases spl h with⟨h1,h⟩|⟨h1,h⟩
  obtain⟨x2,h3,h⟩:=obind h
  obtain⟨r4,h5,h⟩:=obind h
  have k:=oA 0 (ix23 (o:=.no) h3)<|oB 0 h1 o0
  rcases spl h with⟨h6,h⟩|⟨h6,h⟩
  exact fun j=>lH 2 [] [] [] [5,6,7] (oD (dT p0)<|oK 3 [] h6 (c89 h5) k) (ih _ _ _ h)
  obtain rfl:=sj h
  exact fun j=>lF 1 [] (oK 3 [] h6 (c89 h5) k)
  obtain rfl:=sj h
  exact fun j=>lF 0 [] (oB 0 h1 o0)
theorem c160{qq p0 r}(h:e160 qq p0=some r):K160 p0 r Ct:=by
 unfold e160 at h
 exact k160 (tH q160 1 [] [] [] [5,6,7] (oD (dT p0) o0) (l160Lbr _ _ _ _ h))
def e215(qq:Nat)(q0_e:Int)(p1:Tm)(p2:Int):Option (Tm×Int):=
 e278 qq p1 p2>>=fun r1=>
 e154 qq q0_e r1.1 r1.2>>=fun r3=>
 some (r3.1,r3.2)
abbrev K215 (q0_e:Int) (p1:Tm) (p2:Int) (r:Tm×Int) (C:Cf):Prop:=C 215 [.cells [ai q0_e]] [.mp 0 0,tmA p1,ai p2] (tmA r.1) [.cells [ai r.2]] 0
theorem q215:Qf 215 Tryz.f215:=⟨Tryz.func215,by kernel_rfl⟩
theorem k215{q0_e p1 p2 r}(h:K215 q0_e p1 p2 r Ci):K215 q0_e p1 p2 r Ct:=⟨h,⟨(lz rfl),⟨tv,tv,⟨tv,dT _⟩,tv⟩,tv,tv⟩,(forall_cons ⟨tv,tv⟩ forall_nil),⟨tv,tv,dT _,tv⟩,(forall_cons ⟨tv,tv⟩ forall_nil)⟩
theorem c215{qq q0_e p1 p2 r}(h:e215 qq q0_e p1 p2=some r):K215 q0_e p1 p2 r Ct:=by
 unfold e215 at h
 obtain⟨r1,h2,h⟩:=obind h
 obtain⟨r3,h4,h⟩:=obind h
 obtain rfl:=sj h
 exact k215 (tF q215 1 [0] (oD (dT r3.1.sub)<|oC 2 [0] (c154 h4)<|oC 1 [] (c278 h2) o0))
def e288(qq:Nat)(p0 p1:Tm):Option (Tm):=
 e219 qq 4 0 [p0,p1]>>=fun r1=>
 some r1
abbrev K288 (p0 p1 r:Tm) (C:Cf):Prop:=C 288 [] [tmA p0,tmA p1] (tmA r) [] 0
theorem q288:Qf 288 Tryz.f288:=⟨Tryz.func288,by kernel_rfl⟩
theorem k288{p0 p1 r}(h:K288 p0 p1 r Ci):K288 p0 p1 r Ct:=⟨h,⟨⟨tv,tv,⟨tv,dT _⟩,tv⟩,⟨tv,tv,⟨tv,dT _⟩,tv⟩,tv⟩,forall_nil,⟨tv,tv,dT _,tv⟩,forall_nil⟩
theorem c288{qq p0 p1 r}(h:e288 qq p0 p1=some r):K288 p0 p1 r Ct:=by
 unfold e288 at h
 obtain⟨r1,h2,h⟩:=obind h
 obtain rfl:=sj h
 exact k288 (tF q288 1 [] (oD (dT r1.sub)<|oC 0 [] (c219 h2)<|oS 2 (obLitR tm_eq [p0,p1]) o0))
def e220vabsLbt:Nat->(List Tm)->Int->Int->Int->(List Tm)->Option (Tm×Int)
 |0,_,_,_,_,_=>none
 |qq+1,p0,v32,vb0_0,vb0_1,vb0_2=>
 if decide (v32<(List.length p0:Int))then
 gidx p0 (w64 ((w64 ((List.length p0:Int)-1))-v32))>>=fun x12=>
 e288 qq x12 (Tm.mk vb0_0 vb0_1 vb0_2)>>=fun r14=>
 e220vabsLbt qq p0 (w64 (v32+1)) r14.k r14.n r14.sub
 else
 e89 qq (Tm.mk vb0_0 vb0_1 vb0_2)>>=fun r16=>
 if r16 then
 e123 qq (Tm.mk vb0_0 vb0_1 vb0_2)>>=fun r19=>
 some (r19,0)
 else
 some ((Tm.mk 0 0 []),2)
def e220vabsLbu:Nat->(List Tm)->Tm->Int->Option (Tm×Int)
 |0,_,_,_=>none
 |qq+1,p0,p1,v17=>
 if decide (v17<(List.length p0:Int))then
 gidx p0 v17>>=fun x3=>
 e89 qq x3>>=fun r5=>
 if r5 then
 e220vabsLbu qq p0 p1 (w64 (v17+1))
 else
 some ((Tm.mk 0 0 []),5)
 else
 e89 qq p1>>=fun r8=>
 if r8 then
 e220vabsLbt qq p0 0 p1.k p1.n p1.sub
 else
 some ((Tm.mk 0 0 []),5)
def e220vabs(qq:Nat)(p0:List Tm)(p1:Tm):Option (Tm×Int):=
 if decide ((List.length p0:Int)>24)then
 some ((Tm.mk 0 0 []),2)
 else
 e220vabsLbu qq p0 p1 0
def g220vabsLbuE0(j:Nat->Value)(p0:List Tm)(p1:Tm)(v17:Int):=sp j 53 0 [(0,slv tmCells p0 .no),(2,.clo 288 [] []),(4,.mp 0 0),(6,.mp 1 0),(15,slv tmCells p0 .no),(16,ai (List.length p0:Int)),(17,ai v17)]
def g220vabsLbuS0(p0:List Tm)(p1:Tm)(v17:Int):LSt:=⟨[(0,.cells [ai p1.k,ai p1.n,slv tmCells p1.sub .no]),(1,.cells [ai 0,ai 0,slv tmCells ([]:List Tm) .nl])],2,[],0,[]⟩
def g220vabsLbtE0(j:Nat->Value)(p0:List Tm)(v32 vb0_0 vb0_1:Int)(vb0_2:List Tm):=sp j 53 0 [(0,slv tmCells p0 .no),(2,.clo 288 [] []),(4,.mp 0 0),(6,.mp 1 0),(31,ai (List.length p0:Int)),(32,ai v32)]
def g220vabsLbtS0(p0:List Tm)(v32 vb0_0 vb0_1:Int)(vb0_2:List Tm):LSt:=⟨[(0,.cells [ai vb0_0,ai vb0_1,slv tmCells vb0_2 .no]),(1,.cells [ai 0,ai 0,slv tmCells ([]:List Tm) .nl])],2,[],0,[]⟩
abbrev K220vabs (p0:List Tm) (p1:Tm) (r:Tm×Int) (C:Cf):Prop:=C 220 [] [slv tmCells p0 .no,tmA p1,.clo 288 [] []] (.tup [tmA r.1,ai r.2]) [] 0
theorem q220vabs:Qf 220 Tryz.f220:=⟨Tryz.func220,by kernel_rfl⟩
theorem k220vabs{p0 p1 r}(h:K220vabs p0 p1 r Ci):K220vabs p0 p1 r Ct:=⟨h,⟨⟨tv,dT _⟩,⟨tv,tv,⟨tv,dT _⟩,tv⟩,⟨tv,tv⟩,tv⟩,forall_nil,⟨⟨tv,tv,dT _,tv⟩,tv,tv⟩,forall_nil⟩
theorem l220vabsLbt:∀qq:Nat,(∀p0 v32 vb0_0 vb0_1 vb0_2 r,e220vabsLbt qq p0 v32 vb0_0 vb0_1 vb0_2=some r->(∀j,Dl Tryz.prog 0 (inn (inn (rgt (lft (rgt (rgt (rgt (rgt (bod Tryz.f220))))))))) (g220vabsLbtE0 j p0 v32 vb0_0 vb0_1 vb0_2) (g220vabsLbtS0 p0 v32 vb0_0 vb0_1 vb0_2) (frameQ Tryz.prog 0 (FinQ Tryz.prog 0 Tryz.f220 (.tup [tmA r.1,ai r.2]) [] 0) [.blk 2,.seq (rgt (rgt (rgt (rgt (rgt (bod Tryz.f220))))))]))):=by
 intro qq
 induction qq with
 |zero=>
  exact fun _ _ _ _ _ _ h=>nn h
 |succ qq ih=>
  intro p0 v32 vb0_0 vb0_1 vb0_2 r h
  rw[e220vabsLbt]at h
  rcases spl h with⟨h11,h⟩|⟨h11,h⟩
  obtain⟨x12,h13,h⟩:=obind h
  obtain⟨r14,h15,h⟩:=obind h
  exact fun j=>lH 2 [] [0,1] [] [0,2,4,6,31,32] (oD (dT p0)<|oD (dT ([]:List Tm))<|oD (dT r14.sub)<|oC 2 [] (c288 h15)<|oA 3 (ix23 (o:=.no) h13)<|oB 0 h11 o0) (ih _ _ _ _ _ _ h)
  obtain⟨r16,h17,h⟩:=obind h
  have k:=oB 0 h11 o0
  rcases spl h with⟨h18,h⟩|⟨h18,h⟩
  obtain⟨r19,h20,h⟩:=obind h
  obtain rfl:=sj h
  exact fun j=>lF 1 [] (oD (dT r19.sub)<|oC 2 [] (c123 h20)<|oK 1 [] h18 (c89 h17) k)
  obtain rfl:=sj h
  exact fun j=>lF 2 [] (oD (dT ([]:List Tm))<|oK 1 [] h18 (c89 h17) k)
theorem l220vabsLbu:∀qq:Nat,(∀p0 p1 v17 r,e220vabsLbu qq p0 p1 v17=some r->(∀j,Dl Tryz.prog 0 (inn (inn (rgt (lft (rgt (rgt (bod Tryz.f220))))))) (g220vabsLbuE0 j p0 p1 v17) (g220vabsLbuS0 p0 p1 v17) (frameQ Tryz.prog 0 (FinQ Tryz.prog 0 Tryz.f220 (.tup [tmA r.1,ai r.2]) [] 0) [.blk 0,.seq (rgt (rgt (rgt (bod Tryz.f220))))]))):=by
 intro qq
 induction qq with
 |zero=>
  exact fun _ _ _ _ h=>nn h
 |succ qq ih=>
  intro p0 p1 v17 r h
  rw[e220vabsLbu]at h
  rcases spl h with⟨h2,h⟩|⟨h2,h⟩
  obtain⟨x3,h4,h⟩:=obind h
  obtain⟨r5,h6,h⟩:=obind h
  have k:=oA 0 (ix23 (o:=.no) h4)<|oB 0 h2 o0
  rcases spl h with⟨h7,h⟩|⟨h7,h⟩
  exact fun j=>lH 2 [] [0,1] [] [0,2,4,6,15,16,17] (oD (dT p0)<|oD (dT p0)<|oD (dT ([]:List Tm))<|oD (dT p1.sub)<|oK 3 [] h7 (c89 h6) k) (ih _ _ _ _ h)
  obtain rfl:=sj h
  exact fun j=>lF 2 [] (oD (dT ([]:List Tm))<|oK 3 [] h7 (c89 h6) k)
  obtain⟨r8,h9,h⟩:=obind h
  have k:=oB 0 h2 o0
  rcases spl h with⟨h10,h⟩|⟨h10,h⟩
  exact fun j=>lH 2 [] [0,1] [] [0,2,4,6,31,32] (oD (dT p0)<|oD (dT ([]:List Tm))<|oD (dT p1.sub)<|oK 1 [] h10 (c89 h9) k) (l220vabsLbt _ _ _ _ _ _ _ h)
  obtain rfl:=sj h
  exact fun j=>lF 2 [] (oD (dT ([]:List Tm))<|oK 1 [] h10 (c89 h9) k)
theorem c220vabs{qq p0 p1 r}(h:e220vabs qq p0 p1=some r):K220vabs p0 p1 r Ct:=by
 unfold e220vabs at h
 rcases spl h with⟨h1,h⟩|⟨h1,h⟩
 obtain rfl:=sj h
 exact k220vabs (tF q220vabs 1 [] (oD (dT ([]:List Tm))<|oB 1 h1 o0))
 exact k220vabs (tH q220vabs 1 [] [0,1] [] [0,2,4,6,15,16,17] (oD (dT p0)<|oD (dT p0)<|oD (dT ([]:List Tm))<|oD (dT p1.sub)<|oB 1 h1 o0) (l220vabsLbu _ _ _ _ _ h))
def e226(qq:Nat)(p0:List Tm)(p1:Tm):Option (Tm×Int):=
 e220vabs qq p0 p1>>=fun r1=>
 some (r1.1,r1.2)
abbrev K226 (p0:List Tm) (p1:Tm) (r:Tm×Int) (C:Cf):Prop:=C 226 [] [slv tmCells p0 .no,tmA p1] (.tup [tmA r.1,ai r.2]) [] 0
theorem q226:Qf 226 Tryz.f226:=⟨Tryz.func226,by kernel_rfl⟩
theorem k226{p0 p1 r}(h:K226 p0 p1 r Ci):K226 p0 p1 r Ct:=⟨h,⟨⟨tv,dT _⟩,⟨tv,tv,⟨tv,dT _⟩,tv⟩,tv⟩,forall_nil,⟨⟨tv,tv,dT _,tv⟩,tv,tv⟩,forall_nil⟩
theorem c226{qq p0 p1 r}(h:e226 qq p0 p1=some r):K226 p0 p1 r Ct:=by
 unfold e226 at h
 obtain⟨r1,h2,h⟩:=obind h
 obtain rfl:=sj h
 exact k226 (tF q226 3 [] (oD (dT r1.1.sub)<|oC 1 [] (c220vabs h2) o0))
def e161Lbv:Nat->(List Tm)->Rec'->Tm->Int->Int->Int->Int->(List Tm)->Option (Tm×Int)
 |0,_,_,_,_,_,_,_,_=>none
 |qq+1,p3,p4,p5,v29,vb0_0,vb4_0,vb4_1,vb4_2=>
 if decide (v29<(List.length p4.at':Int))then
 gidx p4.at' v29>>=fun x6=>
 e216 qq vb0_0 x6 (List.length p4.around:Int) p3>>=fun r8=>
 e156 qq (Tm.mk vb4_0 vb4_1 vb4_2) r8.1>>=fun r10=>
 e161Lbv qq p3 p4 p5 (w64 (v29+1)) r8.2 r10.k r10.n r10.sub
 else
 e215 qq vb0_0 p5 (List.length p4.around:Int)>>=fun r12=>
 e146 qq (List.length p4.around:Int)>>=fun r14=>
 e151 qq r12.1 r14>>=fun r16=>
 e156 qq (Tm.mk vb4_0 vb4_1 vb4_2) r16>>=fun r18=>
 e150 qq r12.2 p4.around p3>>=fun r20=>
 e226 qq r20.1 r18>>=fun r22=>
 e154 qq r20.2 r22.1 r22.2>>=fun r24=>
 some (r24.1,r24.2)
def e161(qq:Nat)(q0_e:Int)(p1:Tm)(p2 p3:List Tm)(p4:Rec')(p5:Tm):Option (Tm×Int):=
 e148 qq q0_e p2 (List.length p4.around:Int)>>=fun r1=>
 e151 qq p1 r1.1>>=fun r3=>
 e161Lbv qq p3 p4 p5 0 r1.2 r3.k r3.n r3.sub
def g161LbvE0(j:Nat->Value)(p3:List Tm)(p4:Rec')(p5:Tm)(v29 vb0_0 vb4_0 vb4_1:Int)(vb4_2:List Tm):=sp j 61 0 [(0,.mp 0 0),(3,slv tmCells p3 .no),(10,.mp 1 0),(11,.mp 2 0),(12,.mp 3 0),(13,ai (List.length p4.around:Int)),(14,.mp 4 0),(27,slv tmCells p4.at' .no),(28,ai (List.length p4.at':Int)),(29,ai v29)]
def g161LbvS0(p3:List Tm)(p4:Rec')(p5:Tm)(v29 vb0_0 vb4_0 vb4_1:Int)(vb4_2:List Tm):LSt:=⟨[(0,.cells [ai vb0_0]),(1,.cells [ab p4.is,slv tmCells p4.around .no,slv tmCells p4.at' .no]),(2,.cells [ai p5.k,ai p5.n,slv tmCells p5.sub .no]),(3,.cells [ai 0,ai 0,slv tmCells ([]:List Tm) .nl]),(4,.cells [ai vb4_0,ai vb4_1,slv tmCells vb4_2 .no])],5,[],0,[]⟩
abbrev K161 (q0_e:Int) (p1:Tm) (p2 p3:List Tm) (p4:Rec') (p5:Tm) (r:Tm×Int) (C:Cf):Prop:=C 161 [.cells [ai q0_e]] [.mp 0 0,tmA p1,slv tmCells p2 .no,slv tmCells p3 .no,recA p4,tmA p5] (tmA r.1) [.cells [ai r.2]] 0
theorem q161:Qf 161 Tryz.f161:=⟨Tryz.func161,by kernel_rfl⟩
theorem k161{q0_e p1 p2 p3 p4 p5 r}(h:K161 q0_e p1 p2 p3 p4 p5 r Ci):K161 q0_e p1 p2 p3 p4 p5 r Ct:=⟨h,⟨(lz rfl),⟨tv,tv,⟨tv,dT _⟩,tv⟩,⟨tv,dT _⟩,⟨tv,dT _⟩,⟨tv,⟨tv,dT _⟩,⟨tv,dT _⟩,tv⟩,⟨tv,tv,⟨tv,dT _⟩,tv⟩,tv⟩,(forall_cons ⟨tv,tv⟩ forall_nil),⟨tv,tv,dT _,tv⟩,(forall_cons ⟨tv,tv⟩ forall_nil)⟩
theorem l161Lbv:∀qq:Nat,(∀p3 p4 p5 v29 vb0_0 vb4_0 vb4_1 vb4_2 r,e161Lbv qq p3 p4 p5 v29 vb0_0 vb4_0 vb4_1 vb4_2=some r->(∀j,Dl Tryz.prog 1 (inn (inn (rgt (lft (rgt (rgt (rgt (bod Tryz.f161)))))))) (g161LbvE0 j p3 p4 p5 v29 vb0_0 vb4_0 vb4_1 vb4_2) (g161LbvS0 p3 p4 p5 v29 vb0_0 vb4_0 vb4_1 vb4_2) (frameQ Tryz.prog 1 (FinQ Tryz.prog 1 Tryz.f161 (tmA r.1) [.cells [ai r.2]] 0) [.blk 0,.seq (rgt (rgt (rgt (rgt (bod Tryz.f161)))))]))):=by
 intro qq
 induction qq with
 |zero=>
  exact fun _ _ _ _ _ _ _ _ _ h=>nn h
 |succ qq ih=>
  intro p3 p4 p5 v29 vb0_0 vb4_0 vb4_1 vb4_2 r h
  rw[e161Lbv]at h
  rcases spl h with⟨h5,h⟩|⟨h5,h⟩
  obtain⟨x6,h7,h⟩:=obind h
  obtain⟨r8,h9,h⟩:=obind h
  obtain⟨r10,h11,h⟩:=obind h
  exact fun j=>lH 2 [] [0,1,2,3,4] [] [0,3,10,11,12,13,14,27,28,29] (oD (dT p4.at')<|oD (dT p3)<|oD (dT r10.sub)<|oD (dT ([]:List Tm))<|oD (dT p5.sub)<|oD (dT p4.at')<|oD (dT p4.around)<|oC 0 [] (c156 h11)<|oC 4 [0] (c216 h9)<|oA 0 (ix23 (o:=.no) h7)<|oB 0 h5 o0) (ih _ _ _ _ _ _ _ _ _ h)
  obtain⟨r12,h13,h⟩:=obind h
  obtain⟨r14,h15,h⟩:=obind h
  obtain⟨r16,h17,h⟩:=obind h
  obtain⟨r18,h19,h⟩:=obind h
  obtain⟨r20,h21,h⟩:=obind h
  obtain⟨r22,h23,h⟩:=obind h
  obtain⟨r24,h25,h⟩:=obind h
  obtain rfl:=sj h
  exact fun j=>lF 1 [0] (oD (dT r24.1.sub)<|oC 2 [0] (c154 h25)<|oC 1 [] (c226 h23)<|oC 2 [0] (c150 h21)<|oC 0 [] (c156 h19)<|oC 0 [] (c151 h17)<|oC 0 [] (c146 h15)<|oC 2 [0] (c215 h13)<|oB 0 h5 o0)
theorem c161{qq q0_e p1 p2 p3 p4 p5 r}(h:e161 qq q0_e p1 p2 p3 p4 p5=some r):K161 q0_e p1 p2 p3 p4 p5 r Ct:=by
 unfold e161 at h
 obtain⟨r1,h2,h⟩:=obind h
 obtain⟨r3,h4,h⟩:=obind h
 exact k161 (tH q161 3 [] [0,2,3,4,5] [] [0,3,10,11,12,13,14,27,28,29] (oD (dT p4.at')<|oD (dT p3)<|oD (dT r3.sub)<|oD (dT ([]:List Tm))<|oD (dT p5.sub)<|oD (dT p4.at')<|oD (dT p4.around)<|oC 0 [] (c151 h4)<|oC 3 [0] (c148 h2) o0) (l161Lbv _ _ _ _ _ _ _ _ _ _ h))
def OkA(l:List Tm):Prop:=∀x∈l,x.Ok
theorem OkA.nil:OkA []:=fun _ h=>nomatch h
theorem OkA.app{l m:List Tm}(h:OkA l)(k:OkA m):OkA (l++m):=fun x hx=>(List.mem_append.1 hx).elim (h x) (k x)
theorem OkA.one{t:Tm}(h:t.Ok):OkA [t]:=fun x hx=>by
 rw[List.mem_singleton.1 hx];exact h
theorem OkA.drop{l:List Tm}(h:OkA l)(n:Nat):OkA (l.drop n):=fun x hx=>h x (List.mem_of_mem_drop hx)
theorem OkA.take{l:List Tm}(h:OkA l)(n:Nat):OkA (l.take n):=fun x hx=>h x (List.mem_of_mem_take hx)
theorem OkA.at{l r:List Tm}{v:Nat}{x:Tm}(h:OkA l)(hd:l.drop v=x::r):x.Ok:=h x (by
 have:x∈l.drop v:=by rw[hd];simp
 exact List.mem_of_mem_drop this)
theorem ok_mk1{k n:Int}{a:Tm}(h:a.Ok):(Tm.mk k n [a]).Ok:=by
 rw[Tm.Ok,OkL,OkL];exact⟨by simp,h,trivial⟩
theorem ok_mk2{k n:Int}{a b:Tm}(h:a.Ok)(i:b.Ok):(Tm.mk k n [a,b]).Ok:=by
 rw[Tm.Ok,OkL,OkL,OkL];exact⟨by simp,h,i,trivial⟩
theorem gsl_mid{α:Type}{l:List α}{a b:Int}(h0:0≤a)(h1:a≤b)(h2:b≤l.length):gsl l a b=some ((l.drop a.toNat).take (b-a).toNat):=by
 unfold gsl;rw[if_pos ⟨h0,h1,h2⟩]
def MT(e:Int)(v:Tm)(x:Tm×Int):Prop:=x.1.Ok∧(e≠8->x.2≠8)∧(x.2=0->e=0∧x.1=v)
def ML(e:Int)(v:List Tm)(x:List Tm×Int):Prop:=OkA x.1∧(e≠8->x.2≠8)∧(x.2=0->e=0∧x.1=v)
def upI(k:Int)(l:List Tm):List Tm:=l.map fun t=>lfT t 0 0 k
theorem tot_lAllL(p1 p2:Int):∀(r l acc:List Tm) (v:Nat),l.drop v=r->l.length≤1073741824->OkA l->OkA acc->acc.length+r.length≤l.length->Tot (fun q=>e218Lbn q l p1 p2 (v:Int) acc) (fun x=>ML 0 (acc++r.map fun t=>lfT t 0 p2 p1) x∧x.1.length≤l.length)
 | [],l,acc,v,hd,hl,ho,ha,hv=>by
  refine Tot.succ ?_
  simp only[e218Lbn]
  refine Tot.ite (fun h=>?_) fun _=>Tot.ret ⟨⟨ha,by simp,by simp⟩,by simpa using hv⟩
  rw[drop_nil hd]at h;cases h
 |t::r,l,acc,v,hd,hl,ho,ha,hv=>by
  have hlt:=drop_lt hd
  refine Tot.succ ?_
  simp only[e218Lbn]
  refine Tot.ite (fun _=>?_) fun h=>?_
  ·refine Tot.pure (drop_idx hd) (Tot.bind (P:=fun r=>r=liftT t p1 p2) ((ev_Lift t p1 p2 (ho.at hd)).tot rfl) fun r4 h4=>?_)
   subst h4
   refine Tot.ite (fun h=>?_) fun h=>?_
   ·have hne:(liftT t p1 p2).2≠0:=by simpa using h
    exact Tot.ret ⟨⟨OkA.nil,fun _=>liftT_e8 t p1 p2,fun h0=>absurd h0 hne⟩,by simp⟩
   ·have he:(liftT t p1 p2).2=0:=by simpa using h
    rw[List.length_cons]at hv
    refine Tot.pure (gapp_ok (by simp<;>omega)) ?_
    rw[w64_nat v (by omega)]
    refine(tot_lAllL p1 p2 r l _ (v+1) (drop_next hd) hl ho (ha.app (OkA.one (liftT_ok t p1 p2 (ho.at hd)))) (by simp<;>omega)).mono fun x hx=>?_
    rw[(liftT_id he).2.2.2.2]at hx
    simpa using hx
  ·rw[drop_dec hd]at h;cases h
theorem tot_lAll(l:List Tm)(p1 p2:Int)(hl:l.length≤1073741824)(ho:OkA l):Tot (fun q=>e218 q l p1 p2) (fun x=>ML 0 (l.map fun t=>lfT t 0 p2 p1) x∧x.1.length≤l.length):=by
 simp only[e218]
 exact tot_lAllL p1 p2 l l [] 0 rfl hl ho OkA.nil (by simp)
theorem tot_got(e:Int)(t:Tm)(p:Int):Tot (fun q=>e154 q e t p) (fun x=>x.1=t∧x.2=if e=0 then p else e):=by
 simp only[e154]
 refine Tot.ite (fun h=>Tot.ret ⟨rfl,?_⟩) fun h=>Tot.ret ⟨rfl,?_⟩
 ·rw[if_pos (by simpa using h)]
 ·rw[if_neg (by simpa using h)]
theorem tot_all(e:Int)(t:List Tm)(p:Int):Tot (fun q=>e217 q e t p) (fun x=>x.1=t∧x.2=if e=0 then p else e):=by
 simp only[e217]
 refine Tot.ite (fun h=>Tot.ret ⟨rfl,?_⟩) fun h=>Tot.ret ⟨rfl,?_⟩
 ·rw[if_pos (by simpa using h)]
 ·rw[if_neg (by simpa using h)]
theorem mt_got{e:Int}{v:Tm}{r x:Tm×Int}(hr:MT 0 v r)(hx:x.1=r.1∧x.2=if e=0 then r.2 else e):MT e v x:=by
 obtain⟨h1,h2⟩:=hx
 refine⟨by rw[h1];exact hr.1,?_,?_⟩
 ·intro he
  rw[h2]
  split
  ·exact hr.2.1 (by decide)
  ·exact he
 ·intro he
  rw[h2]at he
  by_cases h:e=0
  ·rw[if_pos h]at he
   exact⟨h,by rw[h1];exact(hr.2.2 he).2⟩
  ·rw[if_neg h]at he;exact absurd he h
theorem ml_got{e:Int}{v:List Tm}{r x:List Tm×Int}(hr:ML 0 v r)(hx:x.1=r.1∧x.2=if e=0 then r.2 else e):ML e v x:=by
 obtain⟨h1,h2⟩:=hx
 refine⟨by rw[h1];exact hr.1,?_,?_⟩
 ·intro he
  rw[h2]
  split
  ·exact hr.2.1 (by decide)
  ·exact he
 ·intro he
  rw[h2]at he
  by_cases h:e=0
  ·rw[if_pos h]at he
   exact⟨h,by rw[h1];exact(hr.2.2 he).2⟩
  ·rw[if_neg h]at he;exact absurd he h
theorem tot_ups(e:Int)(l:List Tm)(p:Int)(hl:l.length≤1073741824)(ho:OkA l):Tot (fun q=>e148 q e l p) (fun x=>ML e (upI p l) x∧x.1.length≤l.length):=by
 simp only[e148]
 exact(tot_lAll l p 0 hl ho).bind fun r h=>(tot_all e r.1 r.2).bind fun r3 h3=>Tot.ret ⟨ml_got h.1 h3,by rw[h3.1];exact h.2⟩
theorem mt_lift(t:Tm)(k c:Int)(h:t.Ok):MT 0 (lfT t 0 c k) (liftT t k c):=⟨liftT_ok t k c h,fun _=>liftT_e8 t k c,fun h=>⟨rfl,(liftT_id h).2.2.2.2⟩⟩
theorem mt_sub(t:Tm)(ls:List Tm)(h:t.Ok)(ho:OkA ls):MT 0 (siT ls t 0) (subT t ls):=⟨subT_ok t ls h ho,fun _=>subT_e8 t ls,fun h=>⟨rfl,(subT_id h).2.2.2⟩⟩
theorem tot_up(e:Int)(t:Tm)(p:Int)(h:t.Ok):Tot (fun q=>e215 q e t p) (MT e (lfT t 0 0 p)):=by
 simp only[e215]
 exact Tot.bind (P:=fun r=>r=liftT t p 0) ((ev_Up t p h).tot rfl) fun r hr=>(tot_got e r.1 r.2).bind fun r3 h3=>Tot.ret (by subst hr;exact mt_got (mt_lift t p 0 h) h3)
def visT:Nat->List Tm
 |0=>[]
 |m+1=>.mk 1 (m:Int) []::visT m
def vuT:Nat->Nat->List Tm
 |0,_=>[]
 |m+1,v=>.mk 1 (v:Int) []::vuT m (v+1)
theorem visT_ok:∀m,OkA (visT m)
 |0=>OkA.nil
 |m+1=>fun x hx=>by
  rcases List.mem_cons.1 hx with rfl|hx
  ·exact leaf_ok _ _
  ·exact visT_ok m x hx
theorem visT_len:∀m,(visT m).length=m
 |0=>rfl
 |m+1=>congrArg (· + 1) (visT_len m)
theorem ev_VarsL:∀(m:Nat) (acc:List Tm),m+acc.length≤1048576->Evt (fun q=>e146Lbm q acc ((m:Int)-1)) (acc++visT m)
 |0,acc,hm=>by
  refine Evt.succ ?_
  simp only[e146Lbm]
  exact Evt.ifF (decide_eq_false (by omega)) (Evt.ret.eq (by simp[visT]))
 |m+1,acc,hm=>by
  refine Evt.succ ?_
  simp only[e146Lbm]
  refine Evt.ifT (decide_eq_true (by omega)) ((ev_Var _).bind (Evt.pure (gapp_ok (by simp<;>omega)) ?_))
  rw[w64_id (by omega) (by omega),show ((m+1:Nat):Int)-1-1=(m:Int)-1 by omega]
  refine(ev_VarsL m _ (by simp<;>omega)).eq ?_
  rw[visT,show ((m+1:Nat):Int)-1=(m:Int) by omega];simp
theorem ev_Vars(n:Nat)(hn:n≤1048576):Evt (fun q=>e146 q (n:Int)) (visT n):=by
 simp only[e146]
 refine Evt.ifF (decide_eq_false (by omega)) (Evt.ifF (decide_eq_false (by omega)) ?_)
 rw[w64_id (by omega) (by omega)]
 exact(ev_VarsL n [] (by simpa using hn)).eq (by simp)
def benI(t:Tm)(own:Nat)(outer:List Tm):Tm:=siT (vuT own 0++(upI own outer).reverse) t 0
def bensI(outer:List Tm):List Tm->Nat->List Tm
 | [],_=>[]
 |t::r,v=>benI t v outer::bensI outer r (v+1)
theorem tot_benS(p1:Tm)(r6:List Tm×Int)(h1:p1.Ok)(h6:OkA r6.1):∀(m:Nat) (acc:List Tm),m≤r6.1.length->m+acc.length≤4294967296->OkA acc->Tot (fun q=>e216Lbo q p1 r6 ((m:Int)-1) acc) (MT r6.2 (siT (acc++(r6.1.take m).reverse) p1 0))
 |0,acc,hm,hl,ho=>by
  refine Tot.succ ?_
  simp only[e216Lbo]
  refine Tot.ite (fun h=>?_) fun _=>?_
  ·have:=of_decide_eq_true h
   omega
  ·refine Tot.bind (P:=fun r=>r=subT p1 acc) ((ev_Many p1 acc h1 ho (by omega)).tot rfl) fun r h=>(tot_got _ r.1 r.2).bind fun x hx=>Tot.ret ?_
   subst h
   have:=mt_got (mt_sub p1 acc h1 ho) hx
   simpa using this
 |m+1,acc,hm,hl,ho=>by
  refine Tot.succ ?_
  simp only[e216Lbo]
  refine Tot.ite (fun _=>?_) fun h=>?_
  ·have hlt:m<r6.1.length:=by omega
   have hx:gidx r6.1 (((m+1:Nat):Int)-1)=some r6.1[m]:=by
    unfold gidx
    rw[if_pos (by omega),show (((m+1:Nat):Int)-1).toNat=m by omega,List.getElem?_eq_getElem hlt]
   refine Tot.pure hx (Tot.pure (gapp_ok (by simp<;>omega)) ?_)
   rw[w64_id (by omega) (by omega),show ((m+1:Nat):Int)-1-1=(m:Int)-1 by omega]
   refine(tot_benS p1 r6 h1 h6 m _ (by omega) (by simp<;>omega) (ho.app (OkA.one (h6 _ (List.getElem_mem hlt))))).mono fun x hx=>?_
   have e:r6.1.take (m+1)=r6.1.take m++[r6.1[m]]:=by rw[List.take_add_one,List.getElem?_eq_getElem hlt];rfl
   rw[e,List.reverse_append]
   simpa using hx
  ·have:=of_decide_eq_false h
   omega
theorem tot_benV(e:Int)(p1:Tm)(own:Nat)(p3:List Tm)(h1:p1.Ok)(h2:own≤1073741824)(h3:OkA p3)(hl:p3.length≤1073741824):∀(m v:Nat) (acc:List Tm),v+m=own->acc.length≤v->OkA acc->Tot (fun q=>e216Lbp q e p1 (own:Int) p3 (v:Int) acc) (MT e (siT (acc++vuT m v++(upI own p3).reverse) p1 0)):=by
 intro m
 induction m with
 |zero=>
  intro v acc hm ha ho
  refine Tot.succ ?_
  simp only[e216Lbp]
  refine Tot.ite (fun h=>?_) fun _=>(tot_ups e p3 own hl h3).bind fun r6 h6=>?_
  ·have:=of_decide_eq_true h
   omega
  ·rw[w64_id (by omega) (by omega)]
   refine(tot_benS p1 r6 h1 h6.1.1 r6.1.length acc (Nat.le_refl _) (by omega) ho).mono fun x hx=>⟨hx.1,fun he=>hx.2.1 (h6.1.2.1 he),fun he=>?_⟩
   have k:=hx.2.2 he
   have k6:=h6.1.2.2 k.1
   refine⟨k6.1,?_⟩
   rw[k.2,List.take_length,k6.2,vuT];simp
 |succ m ih=>
  intro v acc hm ha ho
  refine Tot.succ ?_
  simp only[e216Lbp]
  refine Tot.ite (fun _=>?_) fun h=>?_
  ·refine Tot.bind (P:=fun r=>r=Tm.mk 1 (v:Int) []) ((ev_Var v).tot rfl) fun r h=>Tot.pure (gapp_ok (by simp<;>omega)) ?_
   subst h
   rw[w64_nat v (by omega)]
   refine(ih (v+1) _ (by omega) (by simp<;>omega) (ho.app (OkA.one (leaf_ok _ _)))).mono fun x hx=>?_
   rw[vuT]
   simpa using hx
  ·have:=of_decide_eq_false h
   omega
theorem tot_beneath(e:Int)(p1:Tm)(own:Nat)(p3:List Tm)(h1:p1.Ok)(h2:own≤1073741824)(h3:OkA p3)(hl:p3.length≤1073741824):Tot (fun q=>e216 q e p1 (own:Int) p3) (MT e (benI p1 own p3)):=by
 simp only[e216]
 exact tot_benV e p1 own p3 h1 h2 h3 hl own 0 [] (by omega) (by simp) OkA.nil
theorem tot_beneathsL(p2:List Tm)(h2:OkA p2)(hl2:p2.length≤1073741824):∀(r l acc:List Tm) (v:Nat) (e:Int),l.drop v=r->l.length≤1073741824->OkA l->OkA acc->acc.length≤v->Tot (fun q=>e150Lbq q l p2 (v:Int) acc e) (fun x=>OkA x.1∧x.1.length=acc.length+r.length∧(e≠8->x.2≠8)∧(x.2=0->e=0∧x.1=acc++bensI p2 r v))
 | [],l,acc,v,e,hd,hl,ho,ha,hv=>by
  refine Tot.succ ?_
  simp only[e150Lbq]
  refine Tot.ite (fun h=>?_) fun _=>Tot.ret ⟨ha,by simp,id,fun h=>⟨h,by simp[bensI]⟩⟩
  rw[drop_nil hd]at h;cases h
 |t::r,l,acc,v,e,hd,hl,ho,ha,hv=>by
  have hlt:=drop_lt hd
  refine Tot.succ ?_
  simp only[e150Lbq]
  refine Tot.ite (fun _=>?_) fun h=>?_
  ·refine Tot.pure (drop_idx hd) ((tot_beneath e t v p2 (ho.at hd) (by omega) h2 hl2).bind fun r4 h4=>?_)
   refine Tot.pure (gapp_ok (by simp<;>omega)) ?_
   rw[w64_nat v (by omega)]
   refine(tot_beneathsL p2 h2 hl2 r l _ (v+1) r4.2 (drop_next hd) hl ho (ha.app (OkA.one h4.1)) (by simp<;>omega)).mono fun x hx=>?_
   obtain⟨a1,a2,a3,a4⟩:=hx
   refine⟨a1,by rw[a2];simp<;>omega,fun he=>a3 (h4.2.1 he),fun he=>?_⟩
   have k:=a4 he
   have k4:=h4.2.2 k.1
   refine⟨k4.1,?_⟩
   rw[k.2,k4.2,bensI];simp
  ·rw[drop_dec hd]at h;cases h
theorem tot_beneaths(e:Int)(l p2:List Tm)(h2:OkA p2)(hl2:p2.length≤1073741824)(hl:l.length≤1073741824)(ho:OkA l):Tot (fun q=>e150 q e l p2) (fun x=>ML e (bensI p2 l 0) x∧x.1.length=l.length):=by
 simp only[e150]
 refine(tot_beneathsL p2 h2 hl2 l l [] 0 e rfl hl ho OkA.nil (by simp)).mono fun x hx=>?_
 obtain⟨a1,a2,a3,a4⟩:=hx
 exact⟨⟨a1,a3,fun he=>by simpa using a4 he⟩,by simpa using a2⟩
def lamI(l:List Tm)(t:Tm):Tm:=l.foldr (fun a x=>.mk 4 0 [a,x]) t
theorem tot_lamL(l:List Tm)(hl:l.length≤24)(ho:OkA l):∀(m v:Nat) (t:Tm),v+m=l.length->t.Ok->Tot (fun q=>e220vabsLbt q l (v:Int) t.k t.n t.sub) (MT 0 (lamI (l.take m) t)):=by
 intro m
 induction m with
 |zero=>
  intro v t hm ht
  refine Tot.succ ?_
  simp only[e220vabsLbt,tm_eta]
  refine Tot.ite (fun h=>?_) fun _=>?_
  ·have:=of_decide_eq_true h
   omega
  ·refine Tot.bind (P:=fun b=>b=shapedT t) ((ev_Shaped t ht).tot rfl) fun r hr=>Tot.ite (fun h=>?_) fun _=>Tot.ret ⟨leaf_ok 0 0,by simp,by simp⟩
   refine Tot.bind (P:=fun x=>x=copT t) ((ev_Copy t ht).tot rfl) fun x hx=>Tot.ret ?_
   subst hx
   have e:copT t=t:=by unfold copT;rw[if_pos (by rw[←hr];exact h)]
   rw[e]
   exact⟨ht,by simp,fun _=>⟨rfl,by simp[lamI]⟩⟩
 |succ m ih=>
  intro v t hm ht
  refine Tot.succ ?_
  simp only[e220vabsLbt,tm_eta]
  refine Tot.ite (fun _=>?_) fun h=>?_
  ·have hlt:m<l.length:=by omega
   rw[w64_id (x:=(l.length:Int)-1) (by omega) (by omega),w64_id (x:=(l.length:Int)-1-v) (by omega) (by omega)]
   have hx:gidx l ((l.length:Int)-1-v)=some l[m]:=by
    unfold gidx
    rw[if_pos (by omega),show ((l.length:Int)-1-v).toNat=m by omega,List.getElem?_eq_getElem hlt]
   refine Tot.pure hx (Tot.bind (P:=fun r=>r=Tm.mk 4 0 [l[m],t]) (Evt.tot (Evt.mk fun _=>rfl) rfl) fun r hr=>?_)
   subst hr
   rw[w64_nat v (by omega)]
   refine(ih (v+1) _ (by omega) (ok_mk2 (ho _ (List.getElem_mem hlt)) ht)).mono fun x hx=>?_
   have e:l.take (m+1)=l.take m++[l[m]]:=by rw[List.take_add_one,List.getElem?_eq_getElem hlt];rfl
   rw[e]
   unfold lamI at hx ⊢
   rw[List.foldr_append]
   exact hx
  ·have:=of_decide_eq_false h
   omega
theorem tot_arL(t:Tm)(ht:t.Ok):∀(r l:List Tm) (v:Nat),l.drop v=r->l.length≤24->OkA l->Tot (fun q=>e220vabsLbu q l t (v:Int)) (MT 0 (lamI l t))
 | [],l,v,hd,hl,ho=>by
  refine Tot.succ ?_
  simp only[e220vabsLbu]
  refine Tot.ite (fun h=>?_) fun _=>?_
  ·rw[drop_nil hd]at h;cases h
  ·refine Tot.bind (P:=fun _=>True) ((ev_Shaped t ht).tot trivial) fun r _=>Tot.ite (fun _=>?_) fun _=>Tot.ret ⟨leaf_ok 0 0,by simp,by simp⟩
   have:=tot_lamL l hl ho l.length 0 t (by omega) ht
   rwa[List.take_length]at this
 |x::r,l,v,hd,hl,ho=>by
  have hlt:=drop_lt hd
  refine Tot.succ ?_
  simp only[e220vabsLbu]
  refine Tot.ite (fun _=>?_) fun h=>?_
  ·refine Tot.pure (drop_idx hd) (Tot.bind (P:=fun _=>True) ((ev_Shaped x (ho.at hd)).tot trivial) fun _ _=>Tot.ite (fun _=>?_) fun _=>Tot.ret ⟨leaf_ok 0 0,by simp,by simp⟩)
   rw[w64_nat v (by omega)]
   exact tot_arL t ht r l (v+1) (drop_next hd) hl ho
  ·rw[drop_dec hd]at h;cases h
theorem tot_Lams(l:List Tm)(t:Tm)(ho:OkA l)(ht:t.Ok):Tot (fun q=>e226 q l t) (MT 0 (lamI l t)):=by
 simp only[e226]
 refine Tot.bind (P:=MT 0 (lamI l t)) ?_ fun x hx=>Tot.ret hx
 simp only[e220vabs]
 refine Tot.ite (fun _=>Tot.ret ⟨leaf_ok 0 0,by simp,by simp⟩) fun h=>?_
 have:=of_decide_eq_false h
 exact tot_arL t ht l l 0 rfl (by omega) ho
def RecOk(r:Rec'):Prop:=OkA r.around∧OkA r.at'∧r.around.length≤1048576∧r.at'.length≤1048576
def hypI(head:Tm)(args outer:List Tm)(r:Rec')(a:Tm):Tm:=
 lamI (bensI outer r.around 0) (.mk 5 0 [apT (apT head (upI r.around.length args)) (r.at'.map fun t=>benI t r.around.length outer),apT (lfT a 0 0 r.around.length) (visT r.around.length)])
theorem tot_hypL(p3:List Tm)(p4:Rec')(p5:Tm)(h3:OkA p3)(hl3:p3.length≤1073741824)(h4:RecOk p4)(h5:p5.Ok):∀(r:List Tm) (v:Nat) (e:Int) (t:Tm),p4.at'.drop v=r->t.Ok->Tot (fun q=>e161Lbv q p3 p4 p5 (v:Int) e t.k t.n t.sub)
  (MT e (lamI (bensI p3 p4.around 0) (.mk 5 0 [apT t (r.map fun t=>benI t p4.around.length p3),apT (lfT p5 0 0 p4.around.length) (visT p4.around.length)])))
 | [],v,e,t,hd,ht=>by
  refine Tot.succ ?_
  simp only[e161Lbv,tm_eta]
  refine Tot.ite (fun h=>?_) fun _=>?_
  ·rw[drop_nil hd]at h;cases h
  ·have:=h4.2.2.1
   refine(tot_up e p5 _ h5).bind fun r12 h12=>Tot.bind (P:=fun x=>x=visT p4.around.length) ((ev_Vars _ this).tot rfl) fun r14 h14=>?_
   subst h14
   refine Tot.bind (P:=fun x=>x=apT r12.1 (visT p4.around.length)) ((ev_Apply r12.1 _ (by rw[visT_len];omega)).tot rfl) fun r16 h16=>?_
   subst h16
   refine Tot.bind (P:=fun x=>x=Tm.mk 5 0 [t,apT r12.1 (visT p4.around.length)]) ((ev_App t _).tot rfl) fun r18 h18=>?_
   subst h18
   refine(tot_beneaths r12.2 p4.around p3 h3 hl3 (by omega) h4.1).bind fun r20 h20=>(tot_Lams r20.1 _ h20.1.1 (ok_mk2 ht (apT_ok _ _ h12.1 (visT_ok _)))).bind fun r22 h22=>(tot_got r20.2 r22.1 r22.2).bind fun r24 h24=>Tot.ret ?_
   have m:=mt_got h22 h24
   refine⟨m.1,fun he=>m.2.1 (h20.1.2.1 (h12.2.1 he)),fun he=>?_⟩
   have k:=m.2.2 he
   have k20:=h20.1.2.2 k.1
   have k12:=h12.2.2 k20.1
   refine⟨k12.1,?_⟩
   rw[k.2,k20.2,k12.2];rfl
 |x::r,v,e,t,hd,ht=>by
  have hlt:=drop_lt hd
  have:=h4.2.2.1
  have:=h4.2.2.2
  refine Tot.succ ?_
  simp only[e161Lbv,tm_eta]
  refine Tot.ite (fun _=>?_) fun h=>?_
  ·refine Tot.pure (drop_idx hd) ((tot_beneath e x _ p3 (h4.2.1.at hd) (by omega) h3 hl3).bind fun r8 h8=>?_)
   refine Tot.bind (P:=fun x=>x=Tm.mk 5 0 [t,r8.1]) ((ev_App t r8.1).tot rfl) fun r10 h10=>?_
   subst h10
   rw[w64_nat v (by omega)]
   refine(tot_hypL p3 p4 p5 h3 hl3 h4 h5 r (v+1) r8.2 (.mk 5 0 [t,r8.1]) (drop_next hd) (ok_mk2 ht h8.1)).mono fun y hy=>⟨hy.1,fun he=>hy.2.1 (h8.2.1 he),fun he=>?_⟩
   have k:=hy.2.2 he
   have k8:=h8.2.2 k.1
   refine⟨k8.1,?_⟩
   rw[k.2,k8.2,List.map_cons,apT]
  ·rw[drop_dec hd]at h;cases h
theorem tot_hypothesis(e:Int)(p1:Tm)(p2 p3:List Tm)(p4:Rec')(p5:Tm)(h1:p1.Ok)(h2:OkA p2)(hl2:p2.length≤1073741824)(h3:OkA p3)(hl3:p3.length≤1073741824)(h4:RecOk p4)(h5:p5.Ok):Tot (fun q=>e161 q e p1 p2 p3 p4 p5) (MT e (hypI p1 p2 p3 p4 p5)):=by
 simp only[e161]
 refine(tot_ups e p2 _ hl2 h2).bind fun r1 hr1=>?_
 refine Tot.bind (P:=fun x=>x=apT p1 r1.1) ((ev_Apply p1 r1.1 (by omega)).tot rfl) fun r3 hr3=>?_
 subst hr3
 refine(tot_hypL p3 p4 p5 h3 hl3 h4 h5 p4.at' 0 r1.2 (apT p1 r1.1) rfl (apT_ok _ _ h1 hr1.1.1)).mono fun y hy=>⟨hy.1,fun he=>hy.2.1 (hr1.1.2.1 he),fun he=>?_⟩
 have k:=hy.2.2 he
 have k1:=hr1.1.2.2 k.1
 refine⟨k1.1,?_⟩
 rw[k.2,k1.2];rfl
theorem tot_done(e:Int)(t:Tm)(h:t.Ok):Tot (fun q=>e153 q e t) (fun x=>x.1.Ok∧(e≠8->x.2.1≠8)∧(x.2.1=0->e=0∧x.1=t∧shapedT t=true)):=by
 simp only[e153]
 refine Tot.ite (fun he=>?_) fun he=>?_
 ·have he':e=0:=by simpa using he
  refine Tot.bind (P:=fun b=>b=shapedT t) ((ev_Shaped t h).tot rfl) fun b hb=>Tot.ite (fun hs=>?_) fun _=>Tot.ret ⟨leaf_ok 0 0,by simp,by simp⟩
  refine Tot.ite (fun h2=>absurd he' (by simpa using h2)) fun _=>Tot.ret ⟨h,by simp,fun _=>⟨he',rfl,by rw[←hb];exact hs⟩⟩
 ·have he':e≠0:=by simpa using he
  exact Tot.ite (fun _=>Tot.ret ⟨leaf_ok 0 0,id,fun h0=>absurd h0 he'⟩) fun h2=>absurd (by simpa using h2) he'
theorem ev_iIs(l:List Ent)(n kind:Int):Evt (fun q=>e159 q l n kind) (isT l n kind):=by
 simp only[e159]
 unfold isT
 by_cases h:0≤n
 ·refine Evt.ifT (decide_eq_true h) ?_
  by_cases k:n<l.length
  ·exact Evt.ifT (decide_eq_true k) (Evt.pure (gidx_ent h k) (Evt.ret.eq (by simp[h,k])))
  ·exact Evt.ifF (decide_eq_false k) (Evt.ret.eq (by simp[k]))
 ·exact Evt.ifF (decide_eq_false h) (Evt.ret.eq (by simp[h]))
theorem ev_iShapedL:∀(r l:List Tm) (v:Nat),l.drop v=r->l.length≤1073741824->OkA l->Evt (fun q=>e160Lbr q l (v:Int)) (r.all shapedT)
 | [],l,v,hd,hl,ho=>by
  refine Evt.succ ?_
  simp only[e160Lbr]
  exact Evt.ifF (drop_nil hd) Evt.ret
 |x::r,l,v,hd,hl,ho=>by
  have hlt:=drop_lt hd
  refine Evt.succ ?_
  simp only[e160Lbr]
  refine Evt.ifT (drop_dec hd) (Evt.pure (drop_idx hd) ((ev_Shaped x (ho.at hd)).bind ?_))
  by_cases h:shapedT x=true
  ·refine Evt.ifT h ?_
   rw[w64_nat v (by omega)]
   exact(ev_iShapedL r l (v+1) (drop_next hd) hl ho).eq (by simp[h])
  ·exact Evt.ifF (by simpa using h) (Evt.ret.eq (by simp[h]))
theorem ev_iShaped(l:List Tm)(hl:l.length≤1073741824)(ho:OkA l):Evt (fun q=>e160 q l) (l.all shapedT):=by
 simp only[e160]
 exact ev_iShapedL l l 0 rfl hl ho
def e314(qq:Nat)(rl:List Ent)(parts:List Con')(p1:Int)(p2:List Tm):Option (Tm×Int):=
 e159 qq rl p1 4>>=fun r1=>
 if r1 then
 gidx rl p1>>=fun x4=>
 gidx rl x4.fam>>=fun x6=>
 if (List.length p2:Int) != (List.length x6.fields:Int)then
 some ((Tm.mk 0 0 []),5)
 else
 e160 qq p2>>=fun r9=>
 if r9 then
 gidx p2 x4.place>>=fun x12=>
 some (x12,0)
 else
 some ((Tm.mk 0 0 []),5)
 else
 some ((Tm.mk 0 0 []),16)
def e162(qq:Nat)(p0 p1:Int):Option (Tm):=
 e212 qq p1>>=fun r1=>
 e219 qq 7 p0 [r1]>>=fun r3=>
 some r3
abbrev K162 (p0 p1:Int) (r:Tm) (C:Cf):Prop:=C 162 [] [ai p0,ai p1] (tmA r) [] 0
theorem q162:Qf 162 Tryz.f162:=⟨Tryz.func162,by kernel_rfl⟩
theorem k162{p0 p1 r}(h:K162 p0 p1 r Ci):K162 p0 p1 r Ct:=⟨h,⟨tv,tv,tv⟩,forall_nil,⟨tv,tv,dT _,tv⟩,forall_nil⟩
theorem c162{qq p0 p1 r}(h:e162 qq p0 p1=some r):K162 p0 p1 r Ct:=by
 unfold e162 at h
 obtain⟨r1,h2,h⟩:=obind h
 obtain⟨r3,h4,h⟩:=obind h
 obtain rfl:=sj h
 exact k162 (tF q162 1 [] (oD (dT r3.sub)<|oC 0 [] (c219 h4)<|oS 0 (obLitR tm_eq [r1])<|oC 0 [] (c212 h2) o0))
def e84Lbw:Nat->(List Ent)->(List Con')->Int->Int->(List Tm)->(List Tm)->Con'->Int->Int->Int->Int->(List Tm)->Option (Tm×Int)
 |0,_,_,_,_,_,_,_,_,_,_,_,_=>none
 |qq+1,rl,parts,p1,p2,p4,p5,x12,v120,vb2_0,vb3_0,vb3_1,vb3_2=>
 if decide (v120<(List.length x12.recs:Int))then
 gidx x12.recs v120>>=fun x29=>
 if x29.is then
 gidx rl p1>>=fun x32=>
 gsl p4 0 x32.pars>>=fun x34=>
 gapp 40 ([]:List Tm) x34>>=fun l36=>
 gsl p5 0 v120>>=fun x39=>
 gapp 40 l36 x39>>=fun l41=>
 e162 qq p1 p2>>=fun r44=>
 gidx p5 v120>>=fun x46=>
 e161 qq vb2_0 r44 p4 l41 x29 x46>>=fun r48=>
 e156 qq (Tm.mk vb3_0 vb3_1 vb3_2) r48.1>>=fun r50=>
 e84Lbw qq rl parts p1 p2 p4 p5 x12 (w64 (v120+1)) r48.2 r50.k r50.n r50.sub
 else
 e84Lbw qq rl parts p1 p2 p4 p5 x12 (w64 (v120+1)) vb2_0 vb3_0 vb3_1 vb3_2
 else
 e153 qq vb2_0 (Tm.mk vb3_0 vb3_1 vb3_2)>>=fun r52=>
 some (r52.1,r52.2.1)
def e84(qq:Nat)(rl:List Ent)(parts:List Con')(p1 p2 p3:Int)(p4 p5:List Tm):Option (Tm×Int):=
 e159 qq rl p1 1>>=fun r1=>
 if r1 then
 if decide (p2<0)then
 some ((Tm.mk 0 0 []),16)
 else
 if decide (p2>7)then
 some ((Tm.mk 0 0 []),16)
 else
 e159 qq rl p3 2>>=fun r6=>
 if r6 then
 gidx rl p3>>=fun x9=>
 if x9.fam != p1 then
 some ((Tm.mk 0 0 []),16)
 else
 gidx parts p3>>=fun x12=>
 gidx rl p1>>=fun x14=>
 if (List.length p4:Int) != (w64 ((w64 (x14.pars+1))+(List.length x14.cons:Int)))then
 some ((Tm.mk 0 0 []),5)
 else
 if (List.length p5:Int) != (List.length x12.args:Int)then
 some ((Tm.mk 0 0 []),5)
 else
 e160 qq p4>>=fun r18=>
 if r18 then
 e160 qq p5>>=fun r21=>
 if r21 then
 gidx p4 (w64 ((w64 (x14.pars+1))+x9.place))>>=fun x24=>
 e151 qq x24 p5>>=fun r26=>
 e84Lbw qq rl parts p1 p2 p4 p5 x12 0 0 r26.k r26.n r26.sub
 else
 some ((Tm.mk 0 0 []),5)
 else
 some ((Tm.mk 0 0 []),5)
 else
 some ((Tm.mk 0 0 []),16)
 else
 some ((Tm.mk 0 0 []),16)
def g84LbwE0(j:Nat->Value)(rl:List Ent)(parts:List Con')(p1 p2:Int)(p4 p5:List Tm)(x12:Con')(v120 vb2_0 vb3_0 vb3_1:Int)(vb3_2:List Tm):=sp j 160 0 [(1,ai p1),(2,ai p2),(4,slv tmCells p4 .no),(5,slv tmCells p5 .no),(12,.mp 1 0),(14,slv entL rl .no),(16,.mp 2 0),(17,.mp 3 0),(118,slv recL x12.recs .no),(119,ai (List.length x12.recs:Int)),(120,ai v120)]
def g84LbwS0(rl:List Ent)(parts:List Con')(p1 p2:Int)(p4 p5:List Tm)(x12:Con')(v120 vb2_0 vb3_0 vb3_1:Int)(vb3_2:List Tm):LSt:=⟨[(0,.cells [slv entL rl .no,slv conL parts .no]),(1,.cells [ai 0,ai 0,slv tmCells ([]:List Tm) .nl]),(2,.cells [ai vb2_0]),(3,.cells [ai vb3_0,ai vb3_1,slv tmCells vb3_2 .no])],4,[],0,[]⟩
abbrev K84 (rl:List Ent) (parts:List Con') (p1 p2 p3:Int) (p4 p5:List Tm) (r:Tm×Int) (C:Cf):Prop:=C 84 [.cells [slv entL rl .no,slv conL parts .no]] [.mp 0 0,ai p1,ai p2,ai p3,slv tmCells p4 .no,slv tmCells p5 .no] (.tup [tmA r.1,ai r.2]) [.cells [slv entL rl .no,slv conL parts .no]] 0
theorem q84:Qf 84 Tryz.f84:=⟨Tryz.func84,by kernel_rfl⟩
theorem k84{rl parts p1 p2 p3 p4 p5 r}(h:K84 rl parts p1 p2 p3 p4 p5 r Ci):K84 rl parts p1 p2 p3 p4 p5 r Ct:=⟨h,⟨(lz rfl),tv,tv,tv,⟨tv,dT _⟩,⟨tv,dT _⟩,tv⟩,(forall_cons ⟨⟨tv,dE _⟩,⟨tv,dC _⟩,tv⟩ forall_nil),⟨⟨tv,tv,dT _,tv⟩,tv,tv⟩,(forall_cons ⟨dE _,dC _,tv⟩ forall_nil)⟩
theorem l84Lbw:∀qq:Nat,(∀rl parts p1 p2 p4 p5 x12 v120 vb2_0 vb3_0 vb3_1 vb3_2 r,e84Lbw qq rl parts p1 p2 p4 p5 x12 v120 vb2_0 vb3_0 vb3_1 vb3_2=some r->(∀j,Dl Tryz.prog 1 (inn (inn (rgt (lft (rgt (rgt (rgt (rgt (rgt (rgt (rgt (rgt (bod Tryz.f84))))))))))))) (g84LbwE0 j rl parts p1 p2 p4 p5 x12 v120 vb2_0 vb3_0 vb3_1 vb3_2) (g84LbwS0 rl parts p1 p2 p4 p5 x12 v120 vb2_0 vb3_0 vb3_1 vb3_2) (frameQ Tryz.prog 1 (FinQ Tryz.prog 1 Tryz.f84 (.tup [tmA r.1,ai r.2]) [.cells [slv entL rl .no,slv conL parts .no]] 0) [.blk 0,.seq (rgt (rgt (rgt (rgt (rgt (rgt (rgt (rgt (rgt (bod Tryz.f84))))))))))]))):=by
 intro qq
 induction qq with
 |zero=>
  exact fun _ _ _ _ _ _ _ _ _ _ _ _ _ h=>nn h
 |succ qq ih=>
  intro rl parts p1 p2 p4 p5 x12 v120 vb2_0 vb3_0 vb3_1 vb3_2 r h
  rw[e84Lbw]at h
  rcases spl h with⟨h28,h⟩|⟨h28,h⟩
  obtain⟨x29,h30,h⟩:=obind h
  have k:=oA 0 (ix250 (o:=.no) h30)<|oB 0 h28 o0
  rcases spl h with⟨h31,h⟩|⟨h31,h⟩
  obtain⟨x32,h33,h⟩:=obind h
  obtain⟨x34,h35,h⟩:=obind h
  obtain⟨l36,h37,h⟩:=obind h
  have k:=oA 1 (slTo23 h35)<|oA 1 (ix22 (o:=.no) h33)<|oB 2 h31 k
  by_cases h38:List.length x34=0
  obtain⟨x39,h40,h⟩:=obind h
  obtain⟨l41,h42,h⟩:=obind h
  have k:=oA 0 (slTo23 h40)<|oP 0 (apN23 h37 h38) k
  by_cases h43:List.length x39=0
  obtain⟨r44,h45,h⟩:=obind h
  obtain⟨x46,h47,h⟩:=obind h
  obtain⟨r48,h49,h⟩:=obind h
  obtain⟨r50,h51,h⟩:=obind h
  exact fun j=>lH 2 [] [0,1,2,3] [] [1,2,4,5,12,14,16,17,118,119,120] (oD (dR x12.recs)<|oD (dE rl)<|oD (dT p5)<|oD (dT p4)<|oD (dT r50.sub)<|oD (dT ([]:List Tm))<|oD (dC parts)<|oD (dE rl)<|oC 0 [] (c156 h51)<|oC 1 [2] (c161 h49)<|oA 1 (ix23 (o:=.no) h47)<|oC 1 [] (c162 h45)<|oP 0 (apN23 h42 h43) k) (ih _ _ _ _ _ _ _ _ _ _ _ _ _ h)
  obtain⟨r44,h45,h⟩:=obind h
  obtain⟨x46,h47,h⟩:=obind h
  obtain⟨r48,h49,h⟩:=obind h
  obtain⟨r50,h51,h⟩:=obind h
  exact fun j=>lH 2 [] [0,1,2,3] [] [1,2,4,5,12,14,16,17,118,119,120] (oD (dR x12.recs)<|oD (dE rl)<|oD (dT p5)<|oD (dT p4)<|oD (dT r50.sub)<|oD (dT ([]:List Tm))<|oD (dC parts)<|oD (dE rl)<|oC 0 [] (c156 h51)<|oC 1 [2] (c161 h49)<|oA 1 (ix23 (o:=.no) h47)<|oC 1 [] (c162 h45)<|oP 0 (apS23 h42 h43) k) (ih _ _ _ _ _ _ _ _ _ _ _ _ _ h)
  obtain⟨x39,h40,h⟩:=obind h
  obtain⟨l41,h42,h⟩:=obind h
  have k:=oA 0 (slTo23 h40)<|oP 0 (apS23 h37 h38) k
  by_cases h43:List.length x39=0
  obtain⟨r44,h45,h⟩:=obind h
  obtain⟨x46,h47,h⟩:=obind h
  obtain⟨r48,h49,h⟩:=obind h
  obtain⟨r50,h51,h⟩:=obind h
  exact fun j=>lH 2 [] [0,1,2,3] [] [1,2,4,5,12,14,16,17,118,119,120] (oD (dR x12.recs)<|oD (dE rl)<|oD (dT p5)<|oD (dT p4)<|oD (dT r50.sub)<|oD (dT ([]:List Tm))<|oD (dC parts)<|oD (dE rl)<|oC 0 [] (c156 h51)<|oC 1 [2] (c161 h49)<|oA 1 (ix23 (o:=.no) h47)<|oC 1 [] (c162 h45)<|oP 0 (apN23 h42 h43) k) (ih _ _ _ _ _ _ _ _ _ _ _ _ _ h)
  obtain⟨r44,h45,h⟩:=obind h
  obtain⟨x46,h47,h⟩:=obind h
  obtain⟨r48,h49,h⟩:=obind h
  obtain⟨r50,h51,h⟩:=obind h
  exact fun j=>lH 2 [] [0,1,2,3] [] [1,2,4,5,12,14,16,17,118,119,120] (oD (dR x12.recs)<|oD (dE rl)<|oD (dT p5)<|oD (dT p4)<|oD (dT r50.sub)<|oD (dT ([]:List Tm))<|oD (dC parts)<|oD (dE rl)<|oC 0 [] (c156 h51)<|oC 1 [2] (c161 h49)<|oA 1 (ix23 (o:=.no) h47)<|oC 1 [] (c162 h45)<|oP 0 (apS23 h42 h43) k) (ih _ _ _ _ _ _ _ _ _ _ _ _ _ h)
  exact fun j=>lH 1 [] [0,1,2,3] [] [1,2,4,5,12,14,16,17,118,119,120] (oD (dR x12.recs)<|oD (dE rl)<|oD (dT p5)<|oD (dT p4)<|oD (dT vb3_2)<|oD (dT ([]:List Tm))<|oD (dC parts)<|oD (dE rl)<|oB 2 h31 k) (ih _ _ _ _ _ _ _ _ _ _ _ _ _ h)
  obtain⟨r52,h53,h⟩:=obind h
  obtain rfl:=sj h
  exact fun j=>lF 3 [0] (oD (dT r52.1.sub)<|oD (dC parts)<|oD (dE rl)<|oC 1 [2] (c153 h53)<|oB 0 h28 o0)
theorem c84{qq rl parts p1 p2 p3 p4 p5 r}(h:e84 qq rl parts p1 p2 p3 p4 p5=some r):K84 rl parts p1 p2 p3 p4 p5 r Ct:=by
 unfold e84 at h
 obtain⟨r1,h2,h⟩:=obind h
 rcases spl h with⟨h3,h⟩|⟨h3,h⟩
 have k:=oK 2 [] h3 (c159 h2) o0
 rcases spl h with⟨h4,h⟩|⟨h4,h⟩
 obtain rfl:=sj h
 exact k84 (tF q84 1 [0] (oD (dT ([]:List Tm))<|oD (dC parts)<|oD (dE rl)<|oB 1 h4 k))
 have k:=oB 1 h4 k
 rcases spl h with⟨h5,h⟩|⟨h5,h⟩
 obtain rfl:=sj h
 exact k84 (tF q84 1 [0] (oD (dT ([]:List Tm))<|oD (dC parts)<|oD (dE rl)<|oB 0 h5 k))
 obtain⟨r6,h7,h⟩:=obind h
 have k:=oB 0 h5 k
 rcases spl h with⟨h8,h⟩|⟨h8,h⟩
 obtain⟨x9,h10,h⟩:=obind h
 have k:=oA 1 (ix22 (o:=.no) h10)<|oK 0 [] h8 (c159 h7) k
 rcases spl h with⟨h11,h⟩|⟨h11,h⟩
 obtain rfl:=sj h
 exact k84 (tF q84 1 [0] (oD (dT ([]:List Tm))<|oD (dC parts)<|oD (dE rl)<|oB 1 h11 k))
 obtain⟨x12,h13,h⟩:=obind h
 obtain⟨x14,h15,h⟩:=obind h
 have k:=oA 2 (ix22 (o:=.no) h15)<|oA 3 (ix22 (o:=.no) h15)<|oA 1 (ix245 (o:=.no) h13)<|oB 1 h11 k
 rcases spl h with⟨h16,h⟩|⟨h16,h⟩
 obtain rfl:=sj h
 exact k84 (tF q84 1 [0] (oD (dT ([]:List Tm))<|oD (dC parts)<|oD (dE rl)<|oB 3 h16 k))
 have k:=oB 3 h16 k
 rcases spl h with⟨h17,h⟩|⟨h17,h⟩
 obtain rfl:=sj h
 exact k84 (tF q84 1 [0] (oD (dT ([]:List Tm))<|oD (dC parts)<|oD (dE rl)<|oB 3 h17 k))
 obtain⟨r18,h19,h⟩:=obind h
 have k:=oB 3 h17 k
 rcases spl h with⟨h20,h⟩|⟨h20,h⟩
 obtain⟨r21,h22,h⟩:=obind h
 have k:=oK 0 [] h20 (c160 h19) k
 rcases spl h with⟨h23,h⟩|⟨h23,h⟩
 obtain⟨x24,h25,h⟩:=obind h
 obtain⟨r26,h27,h⟩:=obind h
 exact k84 (tH q84 3 [] [0,1,3,4] [] [1,2,4,5,12,14,16,17,118,119,120] (oD (dR x12.recs)<|oD (dE rl)<|oD (dT p5)<|oD (dT p4)<|oD (dT r26.sub)<|oD (dT ([]:List Tm))<|oD (dC parts)<|oD (dE rl)<|oC 1 [] (c151 h27)<|oA 2 (ix23 (o:=.no) h25)<|oA 2 (ix22 (o:=.no) h10)<|oA 1 (ix22 (o:=.no) h15)<|oK 1 [] h23 (c160 h22) k) (l84Lbw _ _ _ _ _ _ _ _ _ _ _ _ _ _ h))
 obtain rfl:=sj h
 exact k84 (tF q84 2 [0] (oD (dT ([]:List Tm))<|oD (dC parts)<|oD (dE rl)<|oK 1 [] h23 (c160 h22) k))
 obtain rfl:=sj h
 exact k84 (tF q84 2 [0] (oD (dT ([]:List Tm))<|oD (dC parts)<|oD (dE rl)<|oK 0 [] h20 (c160 h19) k))
 obtain rfl:=sj h
 exact k84 (tF q84 2 [0] (oD (dT ([]:List Tm))<|oD (dC parts)<|oD (dE rl)<|oK 0 [] h8 (c159 h7) k))
 obtain rfl:=sj h
 exact k84 (tF q84 2 [0] (oD (dT ([]:List Tm))<|oD (dC parts)<|oD (dE rl)<|oK 2 [] h3 (c159 h2) o0))
theorem evA_idx(l:List Ent)(i:Int)(h0:0≤i)(h1:i<l.length)(hk:(ent l i).kind=2):gidx (evA l l.length 0) i=some (partsT l i):=by
 unfold gidx
 rw[if_pos h0,evA_get l l.length 0 i.toNat (by omega),show ((0+i.toNat:Nat):Int)=i by omega,if_pos hk]
theorem rec_ok(l:List Ent)(t:Tm)(of b:Int):RecOk (recT l t of b):=by
 unfold recT
 split
 ·rename_i h
  have hw:=wholeT_ok (t:=t) (l:=(wholeT t).1) (y:=(wholeT t).2.1) (by rw[←h.1])
  have hs:=shapedT_spec hw.2.2.2.2.1
  have hal:=ar_len _ hs.2.2
  refine⟨fun x hx=>shaped_ok (hw.2.2.2.2.2 x hx),fun x hx=>shaped_ok (ar_shaped hw.2.2.2.2.1 (List.mem_of_mem_drop hx)),?_,?_⟩
  ·show (wholeT t).1.length≤_
   omega
  ·show ((arT (wholeT t).2.1).drop _).length≤_
   rw[List.length_drop];omega
 ·exact⟨OkA.nil,OkA.nil,by simp,by simp⟩
theorem recs_ok(l:List Ent)(of:Int):∀(r:List Tm) (b:Int),∀x∈recsT l of r b,RecOk x
 | [],_,x,h=>nomatch h
 |a::r,b,x,h=>by
  rcases List.mem_cons.1 h with h|h
  ·rw[h];exact rec_ok l a of b
  ·exact recs_ok l of r (b+1) x h
def FieldOk(l:List Ent)(i:Int)(a:List Tm)(x:Tm×Int):Prop:=
 x.1.Ok∧x.2≠8∧(x.2=0->(a.length:Int)=(ent l (ent l i).fam).fields.length∧0≤(ent l i).place∧(ent l i).place<a.length∧x.1=nth a (ent l i).place)
theorem tot_Field{N:ByteArray->Bool}(l:List Ent)(parts:List Con')(i:Int)(a:List Tm)(hE:AllE N l)(ho:OkA a)(hl:a.length≤1073741824):Tot (fun q=>e314 q l parts i a) (FieldOk l i a):=by
 simp only[e314]
 have bad:∀e:Int,e≠8->e≠0->FieldOk l i a (.mk 0 0 [],e):=fun e h8 h0=>⟨leaf_ok 0 0,h8,fun h=>absurd h h0⟩
 refine Tot.bind (P:=fun b=>b=isT l i 4) ((ev_iIs l i 4).tot rfl) fun b hb=>Tot.ite (fun hT=>?_) fun _=>Tot.ret (bad _ (by decide) (by decide))
 rw[hT]at hb
 have hi:=isT_spec hb.symm
 have hp:=(entryT_spec (hE.2 i hi.1 hi.2.1)).2.2.2.1 hi.2.2
 unfold projT at hp
 simp only[Bool.and_eq_true]at hp
 have hw:=ownedT_spec hp.1
 have h6:=hw.2.2.2.2.2
 unfold ownL at h6
 rw[if_pos hi.2.2]at h6
 refine Tot.pure (gidx_ent hi.1 hi.2.1) (Tot.pure (gidx_ent hw.1 (by omega)) (Tot.ite (fun _=>Tot.ret (bad _ (by decide) (by decide))) fun hn=>?_))
 have hn':(a.length:Int)=(ent l (ent l i).fam).fields.length:=by simpa using hn
 refine Tot.bind (P:=fun _=>True) ((ev_iShaped a hl ho).tot trivial) fun _ _=>Tot.ite (fun _=>?_) fun _=>Tot.ret (bad _ (by decide) (by decide))
 have h7:(ent l i).place<a.length:=by omega
 have hx:=gidx_nth (l:=a) hw.2.2.2.2.1 h7
 exact Tot.pure hx (Tot.ret ⟨ho _ (nth_mem hw.2.2.2.2.1 h7),by simp,fun _=>⟨hn',hw.2.2.2.2.1,h7,rfl⟩⟩)
def stepsI(d lev:Int)(args own:List Tm)(pars:Nat):List Rec'->Nat->Tm->Tm
 | [],_,t=>t
 |r::rs,v,t=>stepsI d lev args own pars rs (v+1) (if r.is=true then .mk 5 0 [t,hypI (.mk 7 d [.mk 2 lev []]) args (args.take pars++own.take v) r (nth own v)]else t)
def stepI(l:List Ent)(d lev c:Int)(args own:List Tm):Tm:=
 stepsI d lev args own (ent l d).pars.toNat (partsT l c).recs 0 (apT (nth args ((ent l d).pars+1+(ent l c).place)) own)
theorem tot_StepL{N:ByteArray->Bool}(l:List Ent)(parts:List Con')(i p2:Int)(p4 p5:List Tm)(x:Con')(hE:AllE N l)(h0:0≤i)(h1:i<l.length)(hk:(ent l i).kind=1)(hp:(ent l i).pars≤p4.length)(hl4:p4.length≤65535)(h5:p5.length=x.recs.length)(hl5:p5.length≤65535)
  (ho4:OkA p4) (ho5:OkA p5) (hx:∀r∈x.recs,RecOk r):∀(r:List Rec') (v:Nat) (e:Int) (t:Tm),x.recs.drop v=r->t.Ok->Tot (fun q=>e84Lbw q l parts i p2 p4 p5 x (v:Int) e t.k t.n t.sub)
   (fun y=>y.1.Ok∧(e≠8->y.2≠8)∧(y.2=0->e=0∧y.1=stepsI i p2 p4 p5 (ent l i).pars.toNat r v t∧shapedT y.1=true)):=by
 have hf:=familyT_spec ((entryT_spec (hE.2 i h0 h1)).2.1 hk)
 intro r
 induction r with
 |nil=>
  intro v e t hd ht
  refine Tot.succ ?_
  simp only[e84Lbw,tm_eta]
  refine Tot.ite (fun h=>?_) fun _=>(tot_done e t ht).bind fun r h=>Tot.ret ⟨h.1,h.2.1,fun h0=>?_⟩
  ·rw[drop_nil hd]at h;cases h
  ·have k:=h.2.2 h0
   exact⟨k.1,k.2.1,by show shapedT r.1=true;rw[k.2.1];exact k.2.2⟩
 |cons z r ih=>
  intro v e t hd ht
  have hlt:=drop_lt hd
  have hz:z∈x.recs:=by
   have:z∈x.recs.drop v:=by rw[hd];simp
   exact List.mem_of_mem_drop this
  refine Tot.succ ?_
  simp only[e84Lbw,tm_eta]
  refine Tot.ite (fun _=>?_) fun h=>?_
  ·refine Tot.pure (drop_idx hd) (Tot.ite (fun hzi=>?_) fun hzi=>?_)
   ·refine Tot.pure (gidx_ent h0 h1) (Tot.pure (gsl_mid (by omega) (by omega) hp) (Tot.pure (gapp_ok (by simp<;>omega)) (Tot.pure (gsl_mid (by omega) (by omega) (by omega)) (Tot.pure (gapp_ok (by simp<;>omega)) ?_))))
    refine Tot.bind (P:=fun y=>y=Tm.mk 7 i [Tm.mk 2 p2 []]) (Evt.tot (r:=Tm.mk 7 i [Tm.mk 2 p2 []]) (Evt.mk fun _=>rfl) rfl) fun r44 h44=>?_
    subst h44
    have hnv:(v:Int)<p5.length:=by omega
    refine Tot.pure (gidx_nth (l:=p5) (n:=(v:Int)) (by omega) hnv) ?_
    refine(tot_hypothesis e (.mk 7 i [.mk 2 p2 []]) p4 _ z (nth p5 v) (ok_mk1 (leaf_ok _ _)) ho4 (by omega) ?_ ?_ (hx z hz) (ho5 _ (nth_mem (by omega) hnv))).bind fun r48 h48=>?_
    ·exact(OkA.nil.app ((ho4.drop _).take _)).app ((ho5.drop _).take _)
    ·simp only[List.length_append,List.length_take,List.length_drop,List.length_nil];omega
    refine Tot.bind (P:=fun y=>y=Tm.mk 5 0 [t,r48.1]) ((ev_App t r48.1).tot rfl) fun r50 h50=>?_
    subst h50
    rw[w64_nat v (by omega)]
    refine(ih (v+1) r48.2 (.mk 5 0 [t,r48.1]) (drop_next hd) (ok_mk2 ht h48.1)).mono fun y hy=>⟨hy.1,fun he=>hy.2.1 (h48.2.1 he),fun he=>?_⟩
    have k:=hy.2.2 he
    have k4:=h48.2.2 k.1
    refine⟨k4.1,?_,k.2.2⟩
    rw[k.2.1,k4.2,stepsI,if_pos hzi]
    simp
   ·rw[w64_nat v (by omega)]
    refine(ih (v+1) e t (drop_next hd) ht).mono fun y hy=>⟨hy.1,hy.2.1,fun he=>?_⟩
    have k:=hy.2.2 he
    refine⟨k.1,?_,k.2.2⟩
    rw[k.2.1,stepsI,if_neg (by simpa using hzi)]
  ·rw[drop_dec hd]at h;cases h
def StepOk(l:List Ent)(d lev c:Int)(args own:List Tm)(x:Tm×Int):Prop:=
 x.1.Ok∧x.2≠8∧(x.2=0->(0≤lev∧lev≤7)∧isT l d 1=true∧isT l c 2=true∧(ent l c).fam=d∧(args.length:Int)=(ent l d).pars+1+(ent l d).cons.length∧own.length=(partsT l c).args.length∧args.all shapedT=true∧own.all shapedT=true∧x.1=stepI l d lev c args own∧shapedT x.1=true)
theorem tot_Step{N:ByteArray->Bool}(l:List Ent)(i p2 c:Int)(p4 p5:List Tm)(hE:AllE N l)(ho4:OkA p4)(ho5:OkA p5)(hl4:p4.length≤65535)(hl5:p5.length≤65535):Tot (fun q=>e84 q l (evA l l.length 0) i p2 c p4 p5) (StepOk l i p2 c p4 p5):=by
 have bad:∀e:Int,e≠8->e≠0->StepOk l i p2 c p4 p5 (.mk 0 0 [],e):=fun e h8 h0=>⟨leaf_ok 0 0,h8,fun h=>absurd h h0⟩
 simp only[e84]
 refine Tot.bind (P:=fun b=>b=isT l i 1) ((ev_iIs l i 1).tot rfl) fun b hb=>Tot.ite (fun hT=>?_) fun _=>Tot.ret (bad _ (by decide) (by decide))
 rw[hT]at hb
 have hi:=isT_spec hb.symm
 refine Tot.ite (fun _=>Tot.ret (bad _ (by decide) (by decide))) fun hv0=>Tot.ite (fun _=>Tot.ret (bad _ (by decide) (by decide))) fun hv1=>?_
 have hv0':=of_decide_eq_false hv0
 have hv1':=of_decide_eq_false hv1
 refine Tot.bind (P:=fun b=>b=isT l c 2) ((ev_iIs l c 2).tot rfl) fun b2 hb2=>Tot.ite (fun hT=>?_) fun _=>Tot.ret (bad _ (by decide) (by decide))
 rw[hT]at hb2
 have hc:=isT_spec hb2.symm
 have hf:=familyT_spec ((entryT_spec (hE.2 i hi.1 hi.2.1)).2.1 hi.2.2)
 obtain⟨A,y,hw,hy,hA,hAp,hA24,p0,p1,f0,f1,fk,fp,fi,fs,hap,q0,q1⟩:=con_facts hE hc.1 hc.2.1 hc.2.2
 refine Tot.pure (gidx_ent hc.1 hc.2.1) (Tot.ite (fun _=>Tot.ret (bad _ (by decide) (by decide))) fun hn=>?_)
 have hfam:(ent l c).fam=i:=by simpa using hn
 refine Tot.pure (evA_idx l c hc.1 hc.2.1 hc.2.2) (Tot.pure (gidx_ent hi.1 hi.2.1) ?_)
 rw[hfam]at fp q1 fi fs
 rw[w64_id (x:=(ent l i).pars+1) (by omega) (by omega),w64_id (x:=(ent l i).pars+1+(ent l i).cons.length) (by omega) (by omega),w64_id (x:=(ent l i).pars+1+(ent l c).place) (by omega) (by omega)]
 refine Tot.ite (fun _=>Tot.ret (bad _ (by decide) (by decide))) fun hn4=>Tot.ite (fun _=>Tot.ret (bad _ (by decide) (by decide))) fun hn5=>?_
 have hn4':(p4.length:Int)=(ent l i).pars+1+(ent l i).cons.length:=by simpa using hn4
 have hn5':(p5.length:Int)=(partsT l c).args.length:=by simpa using hn5
 refine Tot.bind (P:=fun b=>b=p4.all shapedT) ((ev_iShaped p4 (by omega) ho4).tot rfl) fun b4 hb4=>Tot.ite (fun hs4=>?_) fun _=>Tot.ret (bad _ (by decide) (by decide))
 refine Tot.bind (P:=fun b=>b=p5.all shapedT) ((ev_iShaped p5 (by omega) ho5).tot rfl) fun b5 hb5=>Tot.ite (fun hs5=>?_) fun _=>Tot.ret (bad _ (by decide) (by decide))
 have h7:(ent l i).pars+1+(ent l c).place<p4.length:=by omega
 refine Tot.pure (gidx_nth (l:=p4) (by omega) h7) (Tot.bind (P:=fun z=>z=apT (nth p4 ((ent l i).pars+1+(ent l c).place)) p5) ((ev_Apply _ p5 (by omega)).tot rfl) fun r26 h26=>?_)
 subst h26
 have hlen:(partsT l c).recs.length=(partsT l c).args.length:=by unfold partsT;exact recsT_len l _ _ _
 refine(tot_StepL l _ i p2 p4 p5 (partsT l c) hE hi.1 hi.2.1 hi.2.2 (by omega) hl4 (by omega) hl5 ho4 ho5 (by unfold partsT;exact recs_ok l _ _ _) _ 0 0 _ rfl (apT_ok _ _ (ho4 _ (nth_mem (by omega) h7)) ho5)).mono fun x hx=>⟨hx.1,hx.2.1 (by decide),fun h0=>?_⟩
 have k:=hx.2.2 h0
 exact⟨⟨by omega,by omega⟩,hb.symm,hb2.symm,hfam,hn4',by omega,by rw[←hb4];exact hs4,by rw[←hb5];exact hs5,k.2.1,k.2.2⟩
section
variable {P:Int->Int->Prop}
theorem allN_up{k:Int}{l:List Tm}(h:∀a∈l,AllN P a):∀a∈upI k l,AllN P a:=fun a ha=>by
 obtain⟨x,hx,rfl⟩:=List.mem_map.1 ha
 exact allN_lf x 0 0 k (h x hx)
theorem allN_vis:∀m,∀a∈visT m,AllN P a
 |0,a,h=>nomatch h
 |m+1,a,h=>by
  rcases List.mem_cons.1 h with rfl|h
  ·exact allN_0 (.inl rfl)
  ·exact allN_vis m a h
theorem allN_vu:∀m v,∀a∈vuT m v,AllN P a
 |0,_,a,h=>nomatch h
 |m+1,v,a,h=>by
  rcases List.mem_cons.1 h with rfl|h
  ·exact allN_0 (.inl rfl)
  ·exact allN_vu m (v+1) a h
theorem allN_ben{t:Tm}{own:Nat}{outer:List Tm}(h:AllN P t)(ho:∀a∈outer,AllN P a):AllN P (benI t own outer):=by
 refine allN_si _ (fun a ha=>?_) t 0 h
 rcases List.mem_append.1 ha with ha|ha
 ·exact allN_vu _ _ a ha
 ·exact allN_up ho a (List.mem_reverse.1 ha)
theorem allN_bens{outer:List Tm}(ho:∀a∈outer,AllN P a):∀(l:List Tm) (v:Nat),(∀a∈l,AllN P a)->∀a∈bensI outer l v,AllN P a
 | [],v,h,a,ha=>nomatch ha
 |t::l,v,h,a,ha=>by
  rcases List.mem_cons.1 ha with rfl|ha
  ·exact allN_ben (h t (by simp)) ho
  ·exact allN_bens ho l (v+1) (fun x hx=>h x (by simp[hx])) a ha
theorem allN_lam(h4:P 4 0):∀(l:List Tm) (t:Tm),(∀a∈l,AllN P a)->AllN P t->AllN P (lamI l t)
 | [],t,_,ht=>ht
 |a::l,t,h,ht=>allN_2 (.inr h4) (h a (by simp)) (allN_lam h4 l t (fun x hx=>h x (by simp[hx])) ht)
theorem allN_hyp{head:Tm}{args outer:List Tm}{r:Rec'}{a:Tm}(h4:P 4 0)(h5:P 5 0)(hh:AllN P head)(hargs:∀a∈args,AllN P a)(hout:∀a∈outer,AllN P a)(hr:(∀t∈r.around,AllN P t)∧∀t∈r.at',AllN P t)(ha:AllN P a):AllN P (hypI head args outer r a):=by
 refine allN_lam h4 _ _ (allN_bens hout _ 0 hr.1) (allN_2 (.inr h5) ?_ ?_)
 ·refine allN_ap _ _ h5 (allN_ap _ _ h5 hh (allN_up hargs)) fun x hx=>?_
  obtain⟨t,ht,rfl⟩:=List.mem_map.1 hx
  exact allN_ben (hr.2 t ht) hout
 ·exact allN_ap _ _ h5 (allN_lf a 0 0 _ ha) (allN_vis _)
theorem nth_all{Q:Tm->Prop}{l:List Tm}{n:Int}(h:∀a∈l,Q a)(hz:Q zT):Q (nth l n):=by
 unfold nth
 cases e:l[n.toNat]? with
 |none=>exact hz
 |some x=>exact h x (List.mem_of_getElem? e)
theorem allN_steps{d lev:Int}{args own:List Tm}{pars:Nat}(h4:P 4 0)(h5:P 5 0)(h0:P 0 0)(h2:P 2 lev)(h7:P 7 d)(hargs:∀a∈args,AllN P a)(hown:∀a∈own,AllN P a) :
  ∀(rs:List Rec') (v:Nat) (t:Tm),(∀r∈rs,(∀t∈r.around,AllN P t)∧∀t∈r.at',AllN P t)->AllN P t->AllN P (stepsI d lev args own pars rs v t)
 | [],v,t,_,ht=>ht
 |r::rs,v,t,hr,ht=>by
  rw[stepsI]
  refine allN_steps h4 h5 h0 h2 h7 hargs hown rs (v+1) _ (fun x hx=>hr x (by simp[hx])) ?_
  split
  ·refine allN_2 (.inr h5) ht (allN_hyp h4 h5 (allN_1 (.inr h7) (allN_0 (.inr h2))) hargs ?_ (hr r (by simp)) (nth_all hown (allN_0 (.inr h0))))
   intro a ha
   rcases List.mem_append.1 ha with ha|ha
   ·exact hargs a (List.mem_of_mem_take ha)
   ·exact hown a (List.mem_of_mem_take ha)
  ·exact ht
theorem allN_step{l:List Ent}{d lev c:Int}{args own:List Tm}(h4:P 4 0)(h5:P 5 0)(h0:P 0 0)(h2:P 2 lev)(h7:P 7 d)(hargs:∀a∈args,AllN P a)(hown:∀a∈own,AllN P a)(hr:∀r∈(partsT l c).recs,(∀t∈r.around,AllN P t)∧∀t∈r.at',AllN P t):AllN P (stepI l d lev c args own):=
 allN_steps h4 h5 h0 h2 h7 hargs hown _ 0 _ hr (allN_ap _ _ h5 (nth_all hargs (allN_0 (.inr h0))) hown)
theorem whole_spl{t:Tm}{l:List Tm}{y:Tm}(h:wholeT t=(l,y,0)):goodT t=true∧splT l.length t=some (l,y):=by
 have hw:=wholeT_ok h
 have hg:=(shapedT_spec hw.1).2.2
 unfold wholeT splitT at h
 rw[if_pos hw.1,if_neg (by omega),if_neg (by omega)]at h
 rw[show (((min (pisT t) 25:Nat):Int)).toNat=l.length by omega]at h
 cases e:splT l.length t with
 |none=>rw[e]at h;simp[splR]at h
 |some r=>
  rw[e]at h
  simp only[splR,List.nil_append,Prod.mk.injEq,and_true]at h
  exact⟨hg,by rw[←h.1,←h.2]⟩
theorem allN_rec{l:List Ent}{t:Tm}{of b:Int}(h:AllN P t):(∀x∈(recT l t of b).around,AllN P x)∧∀x∈(recT l t of b).at',AllN P x:=by
 unfold recT
 split
 ·rename_i a
  have hw:=whole_spl (t:=t) (l:=(wholeT t).1) (y:=(wholeT t).2.1) (by rw[←a.1])
  have hs:=allN_spl _ _ _ hw.1 hw.2 h
  have hy:=(shapedT_spec (wholeT_ok (t:=t) (l:=(wholeT t).1) (y:=(wholeT t).2.1) (by rw[←a.1])).2.2.2.2.1).2.2
  exact⟨hs.2,fun x hx=>(allN_spine _ hy hs.1).2 x (List.mem_of_mem_drop hx)⟩
 ·exact⟨fun x hx=>(nomatch hx),fun x hx=>(nomatch hx)⟩
theorem allN_recs{l:List Ent}{of:Int}:∀(r:List Tm) (b:Int),(∀t∈r,AllN P t)->∀x∈recsT l of r b,(∀t∈x.around,AllN P t)∧∀t∈x.at',AllN P t
 | [],b,h,x,hx=>nomatch hx
 |a::r,b,h,x,hx=>by
  rcases List.mem_cons.1 hx with hx|hx
  ·rw[hx];exact allN_rec (h a (by simp))
  ·exact allN_recs r (b+1) (fun t ht=>h t (by simp[ht])) x hx
theorem allN_parts{l:List Ent}{i:Int}(hw:(wholeT (ent l i).type).2.2=0)(h:AllN P (ent l i).type):∀r∈(partsT l i).recs,(∀t∈r.around,AllN P t)∧∀t∈r.at',AllN P t:=by
 have hs:=whole_spl (t:=(ent l i).type) (l:=(wholeT (ent l i).type).1) (y:=(wholeT (ent l i).type).2.1) (by rw[←hw])
 have ha:=allN_spl _ _ _ hs.1 hs.2 h
 unfold partsT
 exact allN_recs _ _ fun t ht=>ha.2 t (List.mem_of_mem_drop ht)
end
mutual
def e32Lbx:Nat->(List Int)->(List Int)->Int->Option (Bool)
 |0,_,_,_=>none
 |qq+1,p0,p1,v5=>
 if decide (v5<(List.length p0:Int))then
 e32Lby qq p0 p1 v5 false 0
 else
 some true
def e32Lby:Nat->(List Int)->(List Int)->Int->Bool->Int->Option (Bool)
 |0,_,_,_,_,_=>none
 |qq+1,p0,p1,v5,v6,v7=>
 if v6 then
 if decide (v7<(List.length p1:Int))then
 e32Lby qq p0 p1 v5 true (w64 (v7+1))
 else
 e32Lbx qq p0 p1 (w64 (v5+1))
 else
 if decide (v7<(List.length p1:Int))then
 gidx p1 v7>>=fun x4=>
 gidx p0 v5>>=fun x6=>
 if x4==x6 then
 e32Lby qq p0 p1 v5 true (w64 (v7+1))
 else
 e32Lby qq p0 p1 v5 false (w64 (v7+1))
 else
 some false
end
def e32(qq:Nat)(p0 p1:List Int):Option (Bool):=
 e32Lbx qq p0 p1 0
def g32LbxE0(j:Nat->Value)(p0 p1:List Int)(v5:Int):=sp j 34 0 [(0,slv intC p0 .no),(1,slv intC p1 .no),(5,ai v5)]
def g32LbxS0(p0 p1:List Int)(v5:Int):LSt:=⟨[],0,[],0,[]⟩
def g32LbyE0(j:Nat->Value)(p0 p1:List Int)(v5:Int)(v6:Bool)(v7:Int):=sp j 34 0 [(0,slv intC p0 .no),(1,slv intC p1 .no),(5,ai v5),(6,ab v6),(7,ai v7)]
def g32LbyS0(p0 p1:List Int)(v5:Int)(v6:Bool)(v7:Int):LSt:=⟨[],0,[],0,[]⟩
abbrev K32 (p0 p1:List Int) (r:Bool) (C:Cf):Prop:=C 32 [] [slv intC p0 .no,slv intC p1 .no] (ab r) [] 0
theorem q32:Qf 32 Tryz.f32:=⟨Tryz.func32,by kernel_rfl⟩
theorem k32{p0 p1 r}(h:K32 p0 p1 r Ci):K32 p0 p1 r Ct:=⟨h,⟨⟨tv,dI _⟩,⟨tv,dI _⟩,tv⟩,forall_nil,tv,forall_nil⟩
theorem a32Lbx_32Lby:∀qq:Nat,(∀p0 p1 v5 r,e32Lbx qq p0 p1 v5=some r->(∀j,Dl Tryz.prog 0 (inn (inn (rgt (lft (rgt (bod Tryz.f32)))))) (g32LbxE0 j p0 p1 v5) (g32LbxS0 p0 p1 v5) (frameQ Tryz.prog 0 (FinQ Tryz.prog 0 Tryz.f32 (ab r) [] 0) [.blk 0,.seq (rgt (rgt (bod Tryz.f32)))])))∧(∀p0 p1 v5 v6 v7 r,e32Lby qq p0 p1 v5 v6 v7=some r->(∀j,Dl Tryz.prog 0 (inn (inn (rgt (lft (rgt (inn (lft (rgt (inn (inn (rgt (lft (rgt (bod Tryz.f32)))))))))))))) (g32LbyE0 j p0 p1 v5 v6 v7) (g32LbyS0 p0 p1 v5 v6 v7) (frameQ Tryz.prog 0 (FinQ Tryz.prog 0 Tryz.f32 (ab r) [] 0) [.blk 2,.seq (rgt (rgt (inn (lft (rgt (inn (inn (rgt (lft (rgt (bod Tryz.f32))))))))))),.blk 1,.seq (rgt (rgt (inn (inn (rgt (lft (rgt (bod Tryz.f32)))))))),.loop (inn (inn (rgt (lft (rgt (bod Tryz.f32)))))),.blk 0,.seq (rgt (rgt (bod Tryz.f32)))]))):=by
 intro qq
 induction qq with
 |zero=>
  exact⟨fun _ _ _ _ h=>nn h,fun _ _ _ _ _ _ h=>nn h⟩
 |succ qq ih=>
  obtain⟨ih32Lbx,ih32Lby⟩:=ih
  refine⟨?_,?_⟩
  intro p0 p1 v5 r h
  rw[e32Lbx]at h
  rcases spl h with⟨h1,h⟩|⟨h1,h⟩
  exact fun j=>lH 0 [] [] [] [0,1,5,6,7] (oD (dI p1)<|oD (dI p0)<|oB 1 h1 o0) (ih32Lby _ _ _ _ _ _ h)
  obtain rfl:=sj h
  exact fun j=>lF 0 [] (oB 1 h1 o0)
  intro p0 p1 v5 v6 v7 r h
  rw[e32Lby]at h
  cases v6
  replace h:=ifF rfl h
  rcases spl h with⟨h3,h⟩|⟨h3,h⟩
  obtain⟨x4,h5,h⟩:=obind h
  obtain⟨x6,h7,h⟩:=obind h
  have k:=oA 1 (ix41 (o:=.no) h7)<|oA 0 (ix41 (o:=.no) h5)<|oB 1 h3 o0
  rcases spl h with⟨h8,h⟩|⟨h8,h⟩
  exact fun j=>lH 1 [] [] [] [0,1,5,6,7] (oD (dI p1)<|oD (dI p0)<|oB 1 h8 k) (ih32Lby _ _ _ _ _ _ h)
  exact fun j=>lH 1 [] [] [] [0,1,5,6,7] (oD (dI p1)<|oD (dI p0)<|oB 1 h8 k) (ih32Lby _ _ _ _ _ _ h)
  obtain rfl:=sj h
  exact fun j=>lF 1 [] (oB 1 h3 o0)
  replace h:=ifT rfl h
  rcases spl h with⟨h2,h⟩|⟨h2,h⟩
  exact fun j=>lH 1 [] [] [] [0,1,5,6,7] (oD (dI p1)<|oD (dI p0)<|oB 1 h2 o0) (ih32Lby _ _ _ _ _ _ h)
  exact fun j=>lH 2 [] [] [] [0,1,5] (oD (dI p1)<|oD (dI p0)<|oB 1 h2 o0) (ih32Lbx _ _ _ _ h)
theorem c32{qq p0 p1 r}(h:e32 qq p0 p1=some r):K32 p0 p1 r Ct:=by
 unfold e32 at h
 exact k32 (tH q32 0 [] [] [] [0,1,5] (oD (dI p1)<|oD (dI p0) o0) (((a32Lbx_32Lby _).1) _ _ _ _ h))
def e27(qq:Nat)(p0:List Ent)(p1 p2:List Tm):Option (Bool):=
 if decide ((List.length p0:Int)≤300)then
 if decide ((List.length p1:Int)≤40)then
 some (decide ((List.length p2:Int)≤40))
 else
 some false
 else
 some false
abbrev K27 (p0:List Ent) (p1 p2:List Tm) (r:Bool) (C:Cf):Prop:=C 27 [] [slv entL p0 .no,slv tmCells p1 .no,slv tmCells p2 .no] (ab r) [] 0
theorem q27:Qf 27 Tryz.f27:=⟨Tryz.func27,by kernel_rfl⟩
theorem k27{p0 p1 p2 r}(h:K27 p0 p1 p2 r Ci):K27 p0 p1 p2 r Ct:=⟨h,⟨⟨tv,dE _⟩,⟨tv,dT _⟩,⟨tv,dT _⟩,tv⟩,forall_nil,tv,forall_nil⟩
theorem c27{qq p0 p1 p2 r}(h:e27 qq p0 p1 p2=some r):K27 p0 p1 p2 r Ct:=by
 unfold e27 at h
 rcases spl h with⟨h1,h⟩|⟨h1,h⟩
 have k:=oB 1 h1 o0
 rcases spl h with⟨h2,h⟩|⟨h2,h⟩
 obtain rfl:=sj h
 exact k27 (tF q27 2 [] (oB 1 h2 k))
 obtain rfl:=sj h
 exact k27 (tF q27 0 [] (oB 1 h2 k))
 obtain rfl:=sj h
 exact k27 (tF q27 0 [] (oB 1 h1 o0))
def e143(qq:Nat)(p0:List Ent)(p1 p2:Int):Option (Int):=
 e157 qq p0>>=fun r1=>
 if r1 then
 e159 qq p0 p1 1>>=fun r4=>
 if r4 then
 if decide (p2<0)then
 some 16
 else
 if decide (p2>7)then
 some 16
 else
 some 0
 else
 some 16
 else
 some 5
abbrev K143 (p0:List Ent) (p1 p2 r:Int) (C:Cf):Prop:=C 143 [] [slv entL p0 .no,ai p1,ai p2] (ai r) [] 0
theorem q143:Qf 143 Tryz.f143:=⟨Tryz.func143,by kernel_rfl⟩
theorem k143{p0 p1 p2 r}(h:K143 p0 p1 p2 r Ci):K143 p0 p1 p2 r Ct:=⟨h,⟨⟨tv,dE _⟩,tv,tv,tv⟩,forall_nil,tv,forall_nil⟩
theorem c143{qq p0 p1 p2 r}(h:e143 qq p0 p1 p2=some r):K143 p0 p1 p2 r Ct:=by
 unfold e143 at h
 obtain⟨r1,h2,h⟩:=obind h
 rcases spl h with⟨h3,h⟩|⟨h3,h⟩
 obtain⟨r4,h5,h⟩:=obind h
 have k:=oK 0 [] h3 (c157 h2) o0
 rcases spl h with⟨h6,h⟩|⟨h6,h⟩
 have k:=oK 1 [] h6 (c159 h5) k
 rcases spl h with⟨h7,h⟩|⟨h7,h⟩
 obtain rfl:=sj h
 exact k143 (tF q143 0 [] (oB 1 h7 k))
 have k:=oB 1 h7 k
 rcases spl h with⟨h8,h⟩|⟨h8,h⟩
 obtain rfl:=sj h
 exact k143 (tF q143 0 [] (oB 0 h8 k))
 obtain rfl:=sj h
 exact k143 (tF q143 0 [] (oB 0 h8 k))
 obtain rfl:=sj h
 exact k143 (tF q143 1 [] (oK 1 [] h6 (c159 h5) k))
 obtain rfl:=sj h
 exact k143 (tF q143 1 [] (oK 0 [] h3 (c157 h2) o0))
def e80(qq:Nat)(p0:List Ent)(p1:Int):Option (Int×Int):=
 e143 qq p0 p1 0>>=fun r1=>
 if r1 != 0 then
 some (0,r1)
 else
 gidx p0 p1>>=fun x4=>
 some ((w64 ((w64 ((w64 ((w64 (x4.pars+1))+(List.length x4.cons:Int)))+x4.inds))+1)),0)
abbrev K80 (p0:List Ent) (p1:Int) (r:Int×Int) (C:Cf):Prop:=C 80 [] [slv entL p0 .no,ai p1] (.tup [ai r.1,ai r.2]) [] 0
theorem q80:Qf 80 Tryz.f80:=⟨Tryz.func80,by kernel_rfl⟩
theorem k80{p0 p1 r}(h:K80 p0 p1 r Ci):K80 p0 p1 r Ct:=⟨h,⟨⟨tv,dE _⟩,tv,tv⟩,forall_nil,⟨tv,tv,tv⟩,forall_nil⟩
theorem c80{qq p0 p1 r}(h:e80 qq p0 p1=some r):K80 p0 p1 r Ct:=by
 unfold e80 at h
 obtain⟨r1,h2,h⟩:=obind h
 have k:=oC 0 [] (c143 h2) o0
 rcases spl h with⟨h3,h⟩|⟨h3,h⟩
 obtain rfl:=sj h
 exact k80 (tF q80 0 [] (oB 0 h3 k))
 obtain⟨x4,h5,h⟩:=obind h
 obtain rfl:=sj h
 exact k80 (tF q80 3 [] (oA 3 (ix22 (o:=.no) h5)<|oA 2 (ix22 (o:=.no) h5)<|oA 0 (ix22 (o:=.no) h5)<|oB 0 h3 k))
def e81(qq:Nat)  : Option (List Ent):=
 some [(Ent.mk 1 (⟨#[78,97,116]⟩:ByteArray) (Tm.mk 2 0 []) (Tm.mk 0 0 []) 0 0 0 0 0 [1,2] []),(Ent.mk 2 (⟨#[122,101,114,111]⟩:ByteArray) (Tm.mk 6 0 []) (Tm.mk 0 0 []) 0 0 0 0 0 [] []),(Ent.mk 2 (⟨#[115,117,99]⟩:ByteArray) (Tm.mk 3 0 [(Tm.mk 6 0 []),(Tm.mk 6 0 [])]) (Tm.mk 0 0 []) 0 1 0 0 0 [] [])]
abbrev K81 (r:List Ent) (C:Cf):Prop:=C 81 [] [] (.sl (flat entL r) (List.length r) .no) [] 0
theorem q81:Qf 81 Tryz.f81:=⟨Tryz.func81,by kernel_rfl⟩
theorem k81{r}(h:K81 r Ci):K81 r Ct:=⟨h,tv,forall_nil,dE _,forall_nil⟩
theorem c81{qq r}(h:e81 qq  = some r):K81 r Ct:=by
 unfold e81 at h
 obtain rfl:=sj h
 exact k81 (tF q81 1 [] (oD (dE [(Ent.mk 1 (⟨#[78,97,116]⟩:ByteArray) (Tm.mk 2 0 []) (Tm.mk 0 0 []) 0 0 0 0 0 [1,2] []),(Ent.mk 2 (⟨#[122,101,114,111]⟩:ByteArray) (Tm.mk 6 0 []) (Tm.mk 0 0 []) 0 0 0 0 0 [] []),(Ent.mk 2 (⟨#[115,117,99]⟩:ByteArray) (Tm.mk 3 0 [(Tm.mk 6 0 []),(Tm.mk 6 0 [])]) (Tm.mk 0 0 []) 0 1 0 0 0 [] [])])<|oS 5 (obLitR tm_eq [(Tm.mk 6 0 []),(Tm.mk 6 0 [])]) o0))
def e144(qq:Nat)(p0:List Ent)(p1:Int):Option (List Tm×List Tm×Int):=
 e157 qq p0>>=fun r1=>
 if r1 then
 e210 qq p0 p1 1>>=fun r4=>
 if r4 then
 gidx p0 p1>>=fun x7=>
 e211 qq x7.type (w64 (x7.pars+x7.inds))>>=fun r9=>
 gsl r9.1 0 x7.pars>>=fun x11=>
 gsl r9.1 x7.pars (List.length r9.1:Int)>>=fun x13=>
 some (x11,x13,0)
 else
 some ([],[],16)
 else
 some ([],[],5)
abbrev K144 (p0:List Ent) (p1:Int) (r:List Tm×List Tm×Int) (C:Cf):Prop:=C 144 [] [slv entL p0 .no,ai p1] (.tup [.sl (flat tmCells r.1) (List.length r.1) .no,.sl (flat tmCells r.2.1) (List.length r.2.1) .no,ai r.2.2]) [] 0
theorem q144:Qf 144 Tryz.f144:=⟨Tryz.func144,by kernel_rfl⟩
theorem k144{p0 p1 r}(h:K144 p0 p1 r Ci):K144 p0 p1 r Ct:=⟨h,⟨⟨tv,dE _⟩,tv,tv⟩,forall_nil,⟨dT _,dT _,tv,tv⟩,forall_nil⟩
theorem c144{qq p0 p1 r}(h:e144 qq p0 p1=some r):K144 p0 p1 r Ct:=by
 unfold e144 at h
 obtain⟨r1,h2,h⟩:=obind h
 rcases spl h with⟨h3,h⟩|⟨h3,h⟩
 obtain⟨r4,h5,h⟩:=obind h
 have k:=oK 0 [] h3 (c157 h2) o0
 rcases spl h with⟨h6,h⟩|⟨h6,h⟩
 obtain⟨x7,h8,h⟩:=obind h
 obtain⟨r9,h10,h⟩:=obind h
 obtain⟨x11,h12,h⟩:=obind h
 obtain⟨x13,h14,h⟩:=obind h
 obtain rfl:=sj h
 exact k144 (tF q144 0 [] (oD (dT x13)<|oD (dT x11)<|oA 1 (slFrom23 h14)<|oA 0 (ix22 (o:=.no) h8)<|oA 1 (slTo3_23 (o:=.no) h12)<|oA 1 (ix22 (o:=.no) h8)<|oA 4 (ix22 (o:=.no) h8)<|oC 2 [] (c211 h10)<|oA 1 (ix22 (o:=.no) h8)<|oA 1 (ix22 (o:=.no) h8)<|oA 1 (ix22 (o:=.no) h8)<|oK 1 [] h6 (c210 h5) k))
 obtain rfl:=sj h
 exact k144 (tF q144 1 [] (oD (dT ([]:List Tm))<|oD (dT ([]:List Tm))<|oK 1 [] h6 (c210 h5) k))
 obtain rfl:=sj h
 exact k144 (tF q144 1 [] (oD (dT ([]:List Tm))<|oD (dT ([]:List Tm))<|oK 0 [] h3 (c157 h2) o0))
def e152(qq:Nat)(p0:Int):Option (Tm):=
 e219 qq 6 p0 []>>=fun r1=>
 some r1
abbrev K152 (p0:Int) (r:Tm) (C:Cf):Prop:=C 152 [] [ai p0] (tmA r) [] 0
theorem q152:Qf 152 Tryz.f152:=⟨Tryz.func152,by kernel_rfl⟩
theorem k152{p0 r}(h:K152 p0 r Ci):K152 p0 r Ct:=⟨h,⟨tv,tv⟩,forall_nil,⟨tv,tv,dT _,tv⟩,forall_nil⟩
theorem c152{qq p0 r}(h:e152 qq p0=some r):K152 p0 r Ct:=by
 unfold e152 at h
 obtain⟨r1,h2,h⟩:=obind h
 obtain rfl:=sj h
 exact k152 (tF q152 1 [] (oD (dT r1.sub)<|oC 0 [] (c219 h2) o0))
def e221(qq:Nat)(p0 p1:Tm):Option (Tm):=
 e219 qq 3 0 [p0,p1]>>=fun r1=>
 some r1
abbrev K221 (p0 p1 r:Tm) (C:Cf):Prop:=C 221 [] [tmA p0,tmA p1] (tmA r) [] 0
theorem q221:Qf 221 Tryz.f221:=⟨Tryz.func221,by kernel_rfl⟩
theorem k221{p0 p1 r}(h:K221 p0 p1 r Ci):K221 p0 p1 r Ct:=⟨h,⟨⟨tv,tv,⟨tv,dT _⟩,tv⟩,⟨tv,tv,⟨tv,dT _⟩,tv⟩,tv⟩,forall_nil,⟨tv,tv,dT _,tv⟩,forall_nil⟩
theorem c221{qq p0 p1 r}(h:e221 qq p0 p1=some r):K221 p0 p1 r Ct:=by
 unfold e221 at h
 obtain⟨r1,h2,h⟩:=obind h
 obtain rfl:=sj h
 exact k221 (tF q221 1 [] (oD (dT r1.sub)<|oC 0 [] (c219 h2)<|oS 2 (obLitR tm_eq [p0,p1]) o0))
def e220vabzLbt:Nat->(List Tm)->Int->Int->Int->(List Tm)->Option (Tm×Int)
 |0,_,_,_,_,_=>none
 |qq+1,p0,v32,vb0_0,vb0_1,vb0_2=>
 if decide (v32<(List.length p0:Int))then
 gidx p0 (w64 ((w64 ((List.length p0:Int)-1))-v32))>>=fun x12=>
 e221 qq x12 (Tm.mk vb0_0 vb0_1 vb0_2)>>=fun r14=>
 e220vabzLbt qq p0 (w64 (v32+1)) r14.k r14.n r14.sub
 else
 e89 qq (Tm.mk vb0_0 vb0_1 vb0_2)>>=fun r16=>
 if r16 then
 e123 qq (Tm.mk vb0_0 vb0_1 vb0_2)>>=fun r19=>
 some (r19,0)
 else
 some ((Tm.mk 0 0 []),2)
def e220vabzLbu:Nat->(List Tm)->Tm->Int->Option (Tm×Int)
 |0,_,_,_=>none
 |qq+1,p0,p1,v17=>
 if decide (v17<(List.length p0:Int))then
 gidx p0 v17>>=fun x3=>
 e89 qq x3>>=fun r5=>
 if r5 then
 e220vabzLbu qq p0 p1 (w64 (v17+1))
 else
 some ((Tm.mk 0 0 []),5)
 else
 e89 qq p1>>=fun r8=>
 if r8 then
 e220vabzLbt qq p0 0 p1.k p1.n p1.sub
 else
 some ((Tm.mk 0 0 []),5)
def e220vabz(qq:Nat)(p0:List Tm)(p1:Tm):Option (Tm×Int):=
 if decide ((List.length p0:Int)>24)then
 some ((Tm.mk 0 0 []),2)
 else
 e220vabzLbu qq p0 p1 0
def g220vabzLbuE0(j:Nat->Value)(p0:List Tm)(p1:Tm)(v17:Int):=sp j 53 0 [(0,slv tmCells p0 .no),(2,.clo 221 [] []),(4,.mp 0 0),(6,.mp 1 0),(15,slv tmCells p0 .no),(16,ai (List.length p0:Int)),(17,ai v17)]
def g220vabzLbuS0(p0:List Tm)(p1:Tm)(v17:Int):LSt:=⟨[(0,.cells [ai p1.k,ai p1.n,slv tmCells p1.sub .no]),(1,.cells [ai 0,ai 0,slv tmCells ([]:List Tm) .nl])],2,[],0,[]⟩
def g220vabzLbtE0(j:Nat->Value)(p0:List Tm)(v32 vb0_0 vb0_1:Int)(vb0_2:List Tm):=sp j 53 0 [(0,slv tmCells p0 .no),(2,.clo 221 [] []),(4,.mp 0 0),(6,.mp 1 0),(31,ai (List.length p0:Int)),(32,ai v32)]
def g220vabzLbtS0(p0:List Tm)(v32 vb0_0 vb0_1:Int)(vb0_2:List Tm):LSt:=⟨[(0,.cells [ai vb0_0,ai vb0_1,slv tmCells vb0_2 .no]),(1,.cells [ai 0,ai 0,slv tmCells ([]:List Tm) .nl])],2,[],0,[]⟩
abbrev K220vabz (p0:List Tm) (p1:Tm) (r:Tm×Int) (C:Cf):Prop:=C 220 [] [slv tmCells p0 .no,tmA p1,.clo 221 [] []] (.tup [tmA r.1,ai r.2]) [] 0
theorem q220vabz:Qf 220 Tryz.f220:=⟨Tryz.func220,by kernel_rfl⟩
theorem k220vabz{p0 p1 r}(h:K220vabz p0 p1 r Ci):K220vabz p0 p1 r Ct:=⟨h,⟨⟨tv,dT _⟩,⟨tv,tv,⟨tv,dT _⟩,tv⟩,⟨tv,tv⟩,tv⟩,forall_nil,⟨⟨tv,tv,dT _,tv⟩,tv,tv⟩,forall_nil⟩
theorem l220vabzLbt:∀qq:Nat,(∀p0 v32 vb0_0 vb0_1 vb0_2 r,e220vabzLbt qq p0 v32 vb0_0 vb0_1 vb0_2=some r->(∀j,Dl Tryz.prog 0 (inn (inn (rgt (lft (rgt (rgt (rgt (rgt (bod Tryz.f220))))))))) (g220vabzLbtE0 j p0 v32 vb0_0 vb0_1 vb0_2) (g220vabzLbtS0 p0 v32 vb0_0 vb0_1 vb0_2) (frameQ Tryz.prog 0 (FinQ Tryz.prog 0 Tryz.f220 (.tup [tmA r.1,ai r.2]) [] 0) [.blk 2,.seq (rgt (rgt (rgt (rgt (rgt (bod Tryz.f220))))))]))):=by
 intro qq
 induction qq with
 |zero=>
  exact fun _ _ _ _ _ _ h=>nn h
 |succ qq ih=>
  intro p0 v32 vb0_0 vb0_1 vb0_2 r h
  rw[e220vabzLbt]at h
  rcases spl h with⟨h11,h⟩|⟨h11,h⟩
  obtain⟨x12,h13,h⟩:=obind h
  obtain⟨r14,h15,h⟩:=obind h
  exact fun j=>lH 2 [] [0,1] [] [0,2,4,6,31,32] (oD (dT p0)<|oD (dT ([]:List Tm))<|oD (dT r14.sub)<|oC 2 [] (c221 h15)<|oA 3 (ix23 (o:=.no) h13)<|oB 0 h11 o0) (ih _ _ _ _ _ _ h)
  obtain⟨r16,h17,h⟩:=obind h
  have k:=oB 0 h11 o0
  rcases spl h with⟨h18,h⟩|⟨h18,h⟩
  obtain⟨r19,h20,h⟩:=obind h
  obtain rfl:=sj h
  exact fun j=>lF 1 [] (oD (dT r19.sub)<|oC 2 [] (c123 h20)<|oK 1 [] h18 (c89 h17) k)
  obtain rfl:=sj h
  exact fun j=>lF 2 [] (oD (dT ([]:List Tm))<|oK 1 [] h18 (c89 h17) k)
theorem l220vabzLbu:∀qq:Nat,(∀p0 p1 v17 r,e220vabzLbu qq p0 p1 v17=some r->(∀j,Dl Tryz.prog 0 (inn (inn (rgt (lft (rgt (rgt (bod Tryz.f220))))))) (g220vabzLbuE0 j p0 p1 v17) (g220vabzLbuS0 p0 p1 v17) (frameQ Tryz.prog 0 (FinQ Tryz.prog 0 Tryz.f220 (.tup [tmA r.1,ai r.2]) [] 0) [.blk 0,.seq (rgt (rgt (rgt (bod Tryz.f220))))]))):=by
 intro qq
 induction qq with
 |zero=>
  exact fun _ _ _ _ h=>nn h
 |succ qq ih=>
  intro p0 p1 v17 r h
  rw[e220vabzLbu]at h
  rcases spl h with⟨h2,h⟩|⟨h2,h⟩
  obtain⟨x3,h4,h⟩:=obind h
  obtain⟨r5,h6,h⟩:=obind h
  have k:=oA 0 (ix23 (o:=.no) h4)<|oB 0 h2 o0
  rcases spl h with⟨h7,h⟩|⟨h7,h⟩
  exact fun j=>lH 2 [] [0,1] [] [0,2,4,6,15,16,17] (oD (dT p0)<|oD (dT p0)<|oD (dT ([]:List Tm))<|oD (dT p1.sub)<|oK 3 [] h7 (c89 h6) k) (ih _ _ _ _ h)
  obtain rfl:=sj h
  exact fun j=>lF 2 [] (oD (dT ([]:List Tm))<|oK 3 [] h7 (c89 h6) k)
  obtain⟨r8,h9,h⟩:=obind h
  have k:=oB 0 h2 o0
  rcases spl h with⟨h10,h⟩|⟨h10,h⟩
  exact fun j=>lH 2 [] [0,1] [] [0,2,4,6,31,32] (oD (dT p0)<|oD (dT ([]:List Tm))<|oD (dT p1.sub)<|oK 1 [] h10 (c89 h9) k) (l220vabzLbt _ _ _ _ _ _ _ h)
  obtain rfl:=sj h
  exact fun j=>lF 2 [] (oD (dT ([]:List Tm))<|oK 1 [] h10 (c89 h9) k)
theorem c220vabz{qq p0 p1 r}(h:e220vabz qq p0 p1=some r):K220vabz p0 p1 r Ct:=by
 unfold e220vabz at h
 rcases spl h with⟨h1,h⟩|⟨h1,h⟩
 obtain rfl:=sj h
 exact k220vabz (tF q220vabz 1 [] (oD (dT ([]:List Tm))<|oB 1 h1 o0))
 exact k220vabz (tH q220vabz 1 [] [0,1] [] [0,2,4,6,15,16,17] (oD (dT p0)<|oD (dT p0)<|oD (dT ([]:List Tm))<|oD (dT p1.sub)<|oB 1 h1 o0) (l220vabzLbu _ _ _ _ _ h))
def e155(qq:Nat)(p0:List Tm)(p1:Tm):Option (Tm×Int):=
 e220vabz qq p0 p1>>=fun r1=>
 some (r1.1,r1.2)
abbrev K155 (p0:List Tm) (p1:Tm) (r:Tm×Int) (C:Cf):Prop:=C 155 [] [slv tmCells p0 .no,tmA p1] (.tup [tmA r.1,ai r.2]) [] 0
theorem q155:Qf 155 Tryz.f155:=⟨Tryz.func155,by kernel_rfl⟩
theorem k155{p0 p1 r}(h:K155 p0 p1 r Ci):K155 p0 p1 r Ct:=⟨h,⟨⟨tv,dT _⟩,⟨tv,tv,⟨tv,dT _⟩,tv⟩,tv⟩,forall_nil,⟨⟨tv,tv,dT _,tv⟩,tv,tv⟩,forall_nil⟩
theorem c155{qq p0 p1 r}(h:e155 qq p0 p1=some r):K155 p0 p1 r Ct:=by
 unfold e155 at h
 obtain⟨r1,h2,h⟩:=obind h
 obtain rfl:=sj h
 exact k155 (tF q155 3 [] (oD (dT r1.1.sub)<|oC 1 [] (c220vabz h2) o0))
def e145(qq:Nat)(q0_e:Int)(p1:List Ent)(p2 p3:Int)(p4:List Tm):Option (Tm×Int):=
 e144 qq p1 p2>>=fun r1=>
 e152 qq p2>>=fun r3=>
 e148 qq q0_e p4 (List.length r1.2.1:Int)>>=fun r5=>
 e151 qq r3 r5.1>>=fun r7=>
 e146 qq (List.length r1.2.1:Int)>>=fun r9=>
 e151 qq r7 r9>>=fun r11=>
 e150 qq r5.2 r1.2.1 p4>>=fun r13=>
 gapp 40 r13.1 [r11]>>=fun l15=>
 e212 qq p3>>=fun r17=>
 e155 qq l15 r17>>=fun r19=>
 e154 qq r13.2 r19.1 r19.2>>=fun r21=>
 some (r21.1,r21.2)
abbrev K145 (q0_e:Int) (p1:List Ent) (p2 p3:Int) (p4:List Tm) (r:Tm×Int) (C:Cf):Prop:=C 145 [.cells [ai q0_e]] [.mp 0 0,slv entL p1 .no,ai p2,ai p3,slv tmCells p4 .no] (tmA r.1) [.cells [ai r.2]] 0
theorem q145:Qf 145 Tryz.f145:=⟨Tryz.func145,by kernel_rfl⟩
theorem k145{q0_e p1 p2 p3 p4 r}(h:K145 q0_e p1 p2 p3 p4 r Ci):K145 q0_e p1 p2 p3 p4 r Ct:=⟨h,⟨(lz rfl),⟨tv,dE _⟩,tv,tv,⟨tv,dT _⟩,tv⟩,(forall_cons ⟨tv,tv⟩ forall_nil),⟨tv,tv,dT _,tv⟩,(forall_cons ⟨tv,tv⟩ forall_nil)⟩
theorem c145{qq q0_e p1 p2 p3 p4 r}(h:e145 qq q0_e p1 p2 p3 p4=some r):K145 q0_e p1 p2 p3 p4 r Ct:=by
 unfold e145 at h
 obtain⟨r1,h2,h⟩:=obind h
 obtain⟨r3,h4,h⟩:=obind h
 obtain⟨r5,h6,h⟩:=obind h
 obtain⟨r7,h8,h⟩:=obind h
 obtain⟨r9,h10,h⟩:=obind h
 obtain⟨r11,h12,h⟩:=obind h
 obtain⟨r13,h14,h⟩:=obind h
 obtain⟨l15,h16,h⟩:=obind h
 obtain⟨r17,h18,h⟩:=obind h
 obtain⟨r19,h20,h⟩:=obind h
 obtain⟨r21,h22,h⟩:=obind h
 obtain rfl:=sj h
 exact k145 (tF q145 1 [0] (oD (dT r21.1.sub)<|oC 2 [0] (c154 h22)<|oC 0 [] (c155 h20)<|oC 0 [] (c212 h18)<|oP 0 (apS23 h16 (by simp))<|oS 1 (obLitR tm_eq [r11])<|oC 1 [0] (c150 h14)<|oC 0 [] (c151 h12)<|oC 0 [] (c146 h10)<|oC 0 [] (c151 h8)<|oC 0 [0] (c148 h6)<|oC 4 [] (c152 h4)<|oC 0 [] (c144 h2) o0))
def e213(qq:Nat)(p0:List Ent)(p1:Int):Option (Con' × Int):=
 e157 qq p0>>=fun r1=>
 if r1 then
 e210 qq p0 p1 2>>=fun r4=>
 if r4 then
 e225 qq p0 p1>>=fun r7=>
 some (r7,0)
 else
 some ((Con'.mk [] [] []),16)
 else
 some ((Con'.mk [] [] []),5)
abbrev K213 (p0:List Ent) (p1:Int) (r:Con' × Int) (C:Cf):Prop:=C 213 [] [slv entL p0 .no,ai p1] (.tup [conA r.1,ai r.2]) [] 0
theorem q213:Qf 213 Tryz.f213:=⟨Tryz.func213,by kernel_rfl⟩
theorem k213{p0 p1 r}(h:K213 p0 p1 r Ci):K213 p0 p1 r Ct:=⟨h,⟨⟨tv,dE _⟩,tv,tv⟩,forall_nil,⟨⟨dT _,dT _,dR _,tv⟩,tv,tv⟩,forall_nil⟩
theorem c213{qq p0 p1 r}(h:e213 qq p0 p1=some r):K213 p0 p1 r Ct:=by
 unfold e213 at h
 obtain⟨r1,h2,h⟩:=obind h
 rcases spl h with⟨h3,h⟩|⟨h3,h⟩
 obtain⟨r4,h5,h⟩:=obind h
 have k:=oK 0 [] h3 (c157 h2) o0
 rcases spl h with⟨h6,h⟩|⟨h6,h⟩
 obtain⟨r7,h8,h⟩:=obind h
 obtain rfl:=sj h
 exact k213 (tF q213 1 [] (oD (dR r7.recs)<|oD (dT r7.inds)<|oD (dT r7.args)<|oC 1 [] (c225 h8)<|oK 1 [] h6 (c210 h5) k))
 obtain rfl:=sj h
 exact k213 (tF q213 2 [] (oD (dR ([]:List Rec'))<|oD (dT ([]:List Tm))<|oD (dT ([]:List Tm))<|oK 1 [] h6 (c210 h5) k))
 obtain rfl:=sj h
 exact k213 (tF q213 2 [] (oD (dR ([]:List Rec'))<|oD (dT ([]:List Tm))<|oD (dT ([]:List Tm))<|oK 0 [] h3 (c157 h2) o0))
def e214Lca:Nat->Rec'->Int->Int->Int->(List Tm)->Int->Int->Int->Int->(List Tm)->Option (Tm×Int)
 |0,_,_,_,_,_,_,_,_,_,_=>none
 |qq+1,p3,p4,p5,p6,v17,v64,vb0_0,vb3_0,vb3_1,vb3_2=>
 if decide (v64<(List.length p3.at':Int))then
 gidx p3.at' v64>>=fun x14=>
 e216 qq vb0_0 x14 (List.length p3.around:Int) v17>>=fun r16=>
 e156 qq (Tm.mk vb3_0 vb3_1 vb3_2) r16.1>>=fun r18=>
 e214Lca qq p3 p4 p5 p6 v17 (w64 (v64+1)) r16.2 r18.k r18.n r18.sub
 else
 e149 qq (w64 ((w64 ((w64 ((w64 (p5-p4))+p6))-1))+(List.length p3.around:Int)))>>=fun r20=>
 e146 qq (List.length p3.around:Int)>>=fun r22=>
 e151 qq r20 r22>>=fun r24=>
 e156 qq (Tm.mk vb3_0 vb3_1 vb3_2) r24>>=fun r26=>
 e150 qq vb0_0 p3.around v17>>=fun r28=>
 e155 qq r28.1 r26>>=fun r30=>
 e154 qq r28.2 r30.1 r30.2>>=fun r32=>
 some (r32.1,r32.2)
def e214Lcb:Nat->Tm->Rec'->Int->Int->Int->(List Tm×Int)->(List Tm)->Int->Option (Tm×Int)
 |0,_,_,_,_,_,_,_,_=>none
 |qq+1,p2,p3,p4,p5,p6,r1,v17,v39=>
 if decide (v39<p4)then
 e149 qq (w64 ((w64 ((w64 (p5-1))-v39))+p6))>>=fun r7=>
 gapp 40 v17 [r7]>>=fun l9=>
 e214Lcb qq p2 p3 p4 p5 p6 r1 l9 (w64 (v39+1))
 else
 e215 qq r1.2 p2 (w64 ((w64 (p5+p6))+(List.length p3.around:Int)))>>=fun r11=>
 e214Lca qq p3 p4 p5 p6 v17 0 r11.2 r11.1.k r11.1.n r11.1.sub
def e214(qq:Nat)(q0_e:Int)(p1:List Tm)(p2:Tm)(p3:Rec')(p4 p5 p6:Int):Option (Tm×Int):=
 e148 qq q0_e p1 (w64 (p5+p6))>>=fun r1=>
 gapp 40 ([]:List Tm) r1.1>>=fun l3=>
 e214Lcb qq p2 p3 p4 p5 p6 r1 l3 0
def g214LcbE0(j:Nat->Value)(p2:Tm)(p3:Rec')(p4 p5 p6:Int)(r1:List Tm×Int)(v17:List Tm)(v39:Int):=sp j 97 0 [(0,.mp 0 0),(5,ai p5),(6,ai p6),(9,.mp 1 0),(10,.mp 2 0),(14,.mp 3 0),(15,ai (w64 ((w64 (p5-p4))+p6))),(16,ai (List.length p3.around:Int)),(17,slv tmCells v17 .nl),(38,ai p4),(39,ai v39)]
def g214LcbS0(p2:Tm)(p3:Rec')(p4 p5 p6:Int)(r1:List Tm×Int)(v17:List Tm)(v39:Int):LSt:=⟨[(0,.cells [ai r1.2]),(1,.cells [ai p2.k,ai p2.n,slv tmCells p2.sub .no]),(2,.cells [ab p3.is,slv tmCells p3.around .no,slv tmCells p3.at' .no]),(3,.cells [ai 0,ai 0,slv tmCells ([]:List Tm) .nl])],4,[],0,[]⟩
def g214LcbE1(j:Nat->Value)(p2:Tm)(p3:Rec')(p4 p5 p6:Int)(r1:List Tm×Int)(v17:List Tm)(v39:Int):=sp j 97 0 [(0,.mp 0 0),(5,ai p5),(6,ai p6),(9,.mp 1 0),(10,.mp 2 0),(14,.mp 3 0),(15,ai (w64 ((w64 (p5-p4))+p6))),(16,ai (List.length p3.around:Int)),(17,slv tmCells v17 (.st 0 3)),(38,ai p4),(39,ai v39)]
def g214LcbS1(p2:Tm)(p3:Rec')(p4 p5 p6:Int)(r1:List Tm×Int)(v17:List Tm)(v39:Int):LSt:=⟨[(0,.cells [ai r1.2]),(1,.cells [ai p2.k,ai p2.n,slv tmCells p2.sub .no]),(2,.cells [ab p3.is,slv tmCells p3.around .no,slv tmCells p3.at' .no]),(3,.cells [ai 0,ai 0,slv tmCells ([]:List Tm) .nl])],4,[0],1,[]⟩
def g214LcaE0(j:Nat->Value)(p3:Rec')(p4 p5 p6:Int)(v17:List Tm)(v64 vb0_0 vb3_0 vb3_1:Int)(vb3_2:List Tm):=sp j 97 0 [(0,.mp 0 0),(10,.mp 1 0),(14,.mp 2 0),(15,ai (w64 ((w64 (p5-p4))+p6))),(16,ai (List.length p3.around:Int)),(17,slv tmCells v17 (.st 0 3)),(19,.mp 3 0),(62,slv tmCells p3.at' .no),(63,ai (List.length p3.at':Int)),(64,ai v64)]
def g214LcaS0(p3:Rec')(p4 p5 p6:Int)(v17:List Tm)(v64 vb0_0 vb3_0 vb3_1:Int)(vb3_2:List Tm):LSt:=⟨[(0,.cells [ai vb0_0]),(1,.cells [ab p3.is,slv tmCells p3.around .no,slv tmCells p3.at' .no]),(2,.cells [ai 0,ai 0,slv tmCells ([]:List Tm) .nl]),(3,.cells [ai vb3_0,ai vb3_1,slv tmCells vb3_2 .no])],4,[0],1,[]⟩
def g214LcaE1(j:Nat->Value)(p3:Rec')(p4 p5 p6:Int)(v17:List Tm)(v64 vb0_0 vb3_0 vb3_1:Int)(vb3_2:List Tm):=sp j 97 0 [(0,.mp 0 0),(10,.mp 1 0),(14,.mp 2 0),(15,ai (w64 ((w64 (p5-p4))+p6))),(16,ai (List.length p3.around:Int)),(17,slv tmCells v17 .nl),(19,.mp 3 0),(62,slv tmCells p3.at' .no),(63,ai (List.length p3.at':Int)),(64,ai v64)]
def g214LcaS1(p3:Rec')(p4 p5 p6:Int)(v17:List Tm)(v64 vb0_0 vb3_0 vb3_1:Int)(vb3_2:List Tm):LSt:=⟨[(0,.cells [ai vb0_0]),(1,.cells [ab p3.is,slv tmCells p3.around .no,slv tmCells p3.at' .no]),(2,.cells [ai 0,ai 0,slv tmCells ([]:List Tm) .nl]),(3,.cells [ai vb3_0,ai vb3_1,slv tmCells vb3_2 .no])],4,[],0,[]⟩
abbrev K214 (q0_e:Int) (p1:List Tm) (p2:Tm) (p3:Rec') (p4 p5 p6:Int) (r:Tm×Int) (C:Cf):Prop:=C 214 [.cells [ai q0_e]] [.mp 0 0,slv tmCells p1 .no,tmA p2,recA p3,ai p4,ai p5,ai p6] (tmA r.1) [.cells [ai r.2]] 0
theorem q214:Qf 214 Tryz.f214:=⟨Tryz.func214,by kernel_rfl⟩
theorem k214{q0_e p1 p2 p3 p4 p5 p6 r}(h:K214 q0_e p1 p2 p3 p4 p5 p6 r Ci):K214 q0_e p1 p2 p3 p4 p5 p6 r Ct:=⟨h,⟨(lz rfl),⟨tv,dT _⟩,⟨tv,tv,⟨tv,dT _⟩,tv⟩,⟨tv,⟨tv,dT _⟩,⟨tv,dT _⟩,tv⟩,tv,tv,tv,tv⟩,(forall_cons ⟨tv,tv⟩ forall_nil),⟨tv,tv,dT _,tv⟩,(forall_cons ⟨tv,tv⟩ forall_nil)⟩
theorem l214Lca:∀qq:Nat,(∀p3 p4 p5 p6 v17 v64 vb0_0 vb3_0 vb3_1 vb3_2 r,e214Lca qq p3 p4 p5 p6 v17 v64 vb0_0 vb3_0 vb3_1 vb3_2=some r->(∀j,Dl Tryz.prog 1 (inn (inn (rgt (lft (rgt (rgt (rgt (rgt (rgt (rgt (rgt (bod Tryz.f214)))))))))))) (g214LcaE0 j p3 p4 p5 p6 v17 v64 vb0_0 vb3_0 vb3_1 vb3_2) (g214LcaS0 p3 p4 p5 p6 v17 v64 vb0_0 vb3_0 vb3_1 vb3_2) (frameQ Tryz.prog 1 (FinQ Tryz.prog 1 Tryz.f214 (tmA r.1) [.cells [ai r.2]] 0) [.blk 2,.seq (rgt (rgt (rgt (rgt (rgt (rgt (rgt (rgt (bod Tryz.f214)))))))))]))∧(∀j,Dl Tryz.prog 1 (inn (inn (rgt (lft (rgt (rgt (rgt (rgt (rgt (rgt (rgt (bod Tryz.f214)))))))))))) (g214LcaE1 j p3 p4 p5 p6 v17 v64 vb0_0 vb3_0 vb3_1 vb3_2) (g214LcaS1 p3 p4 p5 p6 v17 v64 vb0_0 vb3_0 vb3_1 vb3_2) (frameQ Tryz.prog 1 (FinQ Tryz.prog 1 Tryz.f214 (tmA r.1) [.cells [ai r.2]] 0) [.blk 2,.seq (rgt (rgt (rgt (rgt (rgt (rgt (rgt (rgt (bod Tryz.f214)))))))))]))):=by
 intro qq
 induction qq with
 |zero=>
  exact fun _ _ _ _ _ _ _ _ _ _ _ h=>nn h
 |succ qq ih=>
  intro p3 p4 p5 p6 v17 v64 vb0_0 vb3_0 vb3_1 vb3_2 r h
  rw[e214Lca]at h
  refine⟨?_,?_⟩
  rcases spl h with⟨h13,h⟩|⟨h13,h⟩
  obtain⟨x14,h15,h⟩:=obind h
  obtain⟨r16,h17,h⟩:=obind h
  obtain⟨r18,h19,h⟩:=obind h
  exact fun j=>lH 2 [] [0,1,2,3] [0] [0,10,14,15,16,17,19,62,63,64] (oD (dT p3.at')<|oD (dT v17)<|oD (dT r18.sub)<|oD (dT ([]:List Tm))<|oD (dT p3.at')<|oD (dT p3.around)<|oC 0 [] (c156 h19)<|oC 4 [0] (c216 h17)<|oA 0 (ix23 (o:=.no) h15)<|oB 0 h13 o0) ((ih _ _ _ _ _ _ _ _ _ _ _ h).1)
  obtain⟨r20,h21,h⟩:=obind h
  obtain⟨r22,h23,h⟩:=obind h
  obtain⟨r24,h25,h⟩:=obind h
  obtain⟨r26,h27,h⟩:=obind h
  obtain⟨r28,h29,h⟩:=obind h
  obtain⟨r30,h31,h⟩:=obind h
  obtain⟨r32,h33,h⟩:=obind h
  obtain rfl:=sj h
  exact fun j=>lF 1 [0] (oD (dT r32.1.sub)<|oC 2 [0] (c154 h33)<|oC 1 [] (c155 h31)<|oC 2 [0] (c150 h29)<|oC 0 [] (c156 h27)<|oC 0 [] (c151 h25)<|oC 0 [] (c146 h23)<|oC 3 [] (c149 h21)<|oB 0 h13 o0)
  rcases spl h with⟨h13,h⟩|⟨h13,h⟩
  obtain⟨x14,h15,h⟩:=obind h
  obtain⟨r16,h17,h⟩:=obind h
  obtain⟨r18,h19,h⟩:=obind h
  exact fun j=>lH 2 [] [0,1,2,3] [] [0,10,14,15,16,17,19,62,63,64] (oD (dT p3.at')<|oD (dT v17)<|oD (dT r18.sub)<|oD (dT ([]:List Tm))<|oD (dT p3.at')<|oD (dT p3.around)<|oC 0 [] (c156 h19)<|oC 4 [0] (c216 h17)<|oA 0 (ix23 (o:=.no) h15)<|oB 0 h13 o0) ((ih _ _ _ _ _ _ _ _ _ _ _ h).2)
  obtain⟨r20,h21,h⟩:=obind h
  obtain⟨r22,h23,h⟩:=obind h
  obtain⟨r24,h25,h⟩:=obind h
  obtain⟨r26,h27,h⟩:=obind h
  obtain⟨r28,h29,h⟩:=obind h
  obtain⟨r30,h31,h⟩:=obind h
  obtain⟨r32,h33,h⟩:=obind h
  obtain rfl:=sj h
  exact fun j=>lF 1 [0] (oD (dT r32.1.sub)<|oC 2 [0] (c154 h33)<|oC 1 [] (c155 h31)<|oC 2 [0] (c150 h29)<|oC 0 [] (c156 h27)<|oC 0 [] (c151 h25)<|oC 0 [] (c146 h23)<|oC 3 [] (c149 h21)<|oB 0 h13 o0)
theorem l214Lcb:∀qq:Nat,(∀p2 p3 p4 p5 p6 r1 v17 v39 r,e214Lcb qq p2 p3 p4 p5 p6 r1 v17 v39=some r->(∀j,Dl Tryz.prog 1 (inn (inn (rgt (lft (rgt (rgt (rgt (rgt (rgt (bod Tryz.f214)))))))))) (g214LcbE0 j p2 p3 p4 p5 p6 r1 v17 v39) (g214LcbS0 p2 p3 p4 p5 p6 r1 v17 v39) (frameQ Tryz.prog 1 (FinQ Tryz.prog 1 Tryz.f214 (tmA r.1) [.cells [ai r.2]] 0) [.blk 0,.seq (rgt (rgt (rgt (rgt (rgt (rgt (bod Tryz.f214)))))))]))∧(∀j,Dl Tryz.prog 1 (inn (inn (rgt (lft (rgt (rgt (rgt (rgt (rgt (bod Tryz.f214)))))))))) (g214LcbE1 j p2 p3 p4 p5 p6 r1 v17 v39) (g214LcbS1 p2 p3 p4 p5 p6 r1 v17 v39) (frameQ Tryz.prog 1 (FinQ Tryz.prog 1 Tryz.f214 (tmA r.1) [.cells [ai r.2]] 0) [.blk 0,.seq (rgt (rgt (rgt (rgt (rgt (rgt (bod Tryz.f214)))))))]))):=by
 intro qq
 induction qq with
 |zero=>
  exact fun _ _ _ _ _ _ _ _ _ h=>nn h
 |succ qq ih=>
  intro p2 p3 p4 p5 p6 r1 v17 v39 r h
  rw[e214Lcb]at h
  refine⟨?_,?_⟩
  rcases spl h with⟨h6,h⟩|⟨h6,h⟩
  obtain⟨r7,h8,h⟩:=obind h
  obtain⟨l9,h10,h⟩:=obind h
  exact fun j=>lH 1 [] [0,1,2,3] [0] [0,5,6,9,10,14,15,16,17,38,39] (oD (dT l9)<|oD (dT ([]:List Tm))<|oD (dT p3.at')<|oD (dT p3.around)<|oD (dT p2.sub)<|oP 0 (apS23 h10 (by simp))<|oS 0 (obLitR tm_eq [r7])<|oC 3 [] (c149 h8)<|oB 0 h6 o0) ((ih _ _ _ _ _ _ _ _ _ h).2)
  obtain⟨r11,h12,h⟩:=obind h
  exact fun j=>lH 3 [] [0,2,3,4] [] [0,10,14,15,16,17,19,62,63,64] (oD (dT p3.at')<|oD (dT v17)<|oD (dT r11.1.sub)<|oD (dT ([]:List Tm))<|oD (dT p3.at')<|oD (dT p3.around)<|oC 3 [0] (c215 h12)<|oB 0 h6 o0) ((l214Lca _ _ _ _ _ _ _ _ _ _ _ _ h).2)
  rcases spl h with⟨h6,h⟩|⟨h6,h⟩
  obtain⟨r7,h8,h⟩:=obind h
  obtain⟨l9,h10,h⟩:=obind h
  exact fun j=>lH 1 [] [0,1,2,3] [1] [0,5,6,9,10,14,15,16,17,38,39] (oD (dT l9)<|oD (dT ([]:List Tm))<|oD (dT p3.at')<|oD (dT p3.around)<|oD (dT p2.sub)<|oP 0 (apS23 h10 (by simp))<|oS 0 (obLitR tm_eq [r7])<|oC 3 [] (c149 h8)<|oB 0 h6 o0) ((ih _ _ _ _ _ _ _ _ _ h).2)
  obtain⟨r11,h12,h⟩:=obind h
  exact fun j=>lH 3 [] [0,2,3,4] [0] [0,10,14,15,16,17,19,62,63,64] (oD (dT p3.at')<|oD (dT v17)<|oD (dT r11.1.sub)<|oD (dT ([]:List Tm))<|oD (dT p3.at')<|oD (dT p3.around)<|oC 3 [0] (c215 h12)<|oB 0 h6 o0) ((l214Lca _ _ _ _ _ _ _ _ _ _ _ _ h).1)
theorem c214{qq q0_e p1 p2 p3 p4 p5 p6 r}(h:e214 qq q0_e p1 p2 p3 p4 p5 p6=some r):K214 q0_e p1 p2 p3 p4 p5 p6 r Ct:=by
 unfold e214 at h
 obtain⟨r1,h2,h⟩:=obind h
 obtain⟨l3,h4,h⟩:=obind h
 have k:=oC 5 [0] (c148 h2) o0
 by_cases h5:List.length r1.1=0
 exact k214 (tH q214 0 [] [0,1,2,3] [] [0,5,6,9,10,14,15,16,17,38,39] (oD (dT l3)<|oD (dT ([]:List Tm))<|oD (dT p3.at')<|oD (dT p3.around)<|oD (dT p2.sub)<|oP 0 (apN23 h4 h5) k) ((l214Lcb _ _ _ _ _ _ _ _ _ _ h).1))
 exact k214 (tH q214 0 [] [0,1,2,3] [0] [0,5,6,9,10,14,15,16,17,38,39] (oD (dT l3)<|oD (dT ([]:List Tm))<|oD (dT p3.at')<|oD (dT p3.around)<|oD (dT p2.sub)<|oP 0 (apS23 h4 h5) k) ((l214Lcb _ _ _ _ _ _ _ _ _ _ h).2))
def e147Lcc:Nat->Int->(Con' × Int)->(List Tm)->(List Tm)->(List Tm×Int)->(List Tm)->Int->Int->Int->Int->(List Tm)->Option (Tm×Int)
 |0,_,_,_,_,_,_,_,_,_,_,_=>none
 |qq+1,p2,r1,v14,v18,r18,l23,v98,vb0_0,vb2_0,vb2_1,vb2_2=>
 if decide (v98<(List.length r1.1.inds:Int))then
 gidx r1.1.inds v98>>=fun x29=>
 e216 qq vb0_0 x29 0 l23>>=fun r31=>
 e156 qq (Tm.mk vb2_0 vb2_1 vb2_2) r31.1>>=fun r33=>
 e147Lcc qq p2 r1 v14 v18 r18 l23 (w64 (v98+1)) r31.2 r33.k r33.n r33.sub
 else
 e152 qq p2>>=fun r35=>
 e151 qq r35 r18.1>>=fun r37=>
 e151 qq r37 v18>>=fun r39=>
 e156 qq (Tm.mk vb2_0 vb2_1 vb2_2) r39>>=fun r41=>
 e155 qq v14 r41>>=fun r43=>
 e154 qq vb0_0 r43.1 r43.2>>=fun r45=>
 some (r45.1,r45.2)
def e147Lcd:Nat->Int->(List Tm)->Tm->(Con' × Int)->(List Tm)->Int->Int->(List Tm)->Int->Option (Tm×Int)
 |0,_,_,_,_,_,_,_,_,_=>none
 |qq+1,p2,p3,p4,r1,v14,v15,vb0_0,v18,v64=>
 if decide (v64<(List.length r1.1.args:Int))then
 e149 qq (w64 ((w64 ((w64 ((List.length r1.1.args:Int)-1))-v64))+v15))>>=fun r14=>
 gapp 40 v18 [r14]>>=fun l16=>
 e147Lcd qq p2 p3 p4 r1 v14 v15 vb0_0 l16 (w64 (v64+1))
 else
 e148 qq vb0_0 p3 (w64 ((List.length r1.1.args:Int)+v15))>>=fun r18=>
 gapp 40 ([]:List Tm) r18.1>>=fun l20=>
 gapp 40 l20 v18>>=fun l23=>
 e215 qq r18.2 p4 (w64 ((List.length r1.1.args:Int)+v15))>>=fun r26=>
 e147Lcc qq p2 r1 v14 v18 r18 l23 0 r26.2 r26.1.k r26.1.n r26.1.sub
def e147Lce:Nat->Int->(List Tm)->Tm->(Con' × Int)->(List Tm)->Int->Int->Int->Option (Tm×Int)
 |0,_,_,_,_,_,_,_,_=>none
 |qq+1,p2,p3,p4,r1,v14,v15,v42,vb0_0=>
 if decide (v42<(List.length r1.1.recs:Int))then
 gidx r1.1.recs v42>>=fun x6=>
 if x6.is then
 e214 qq vb0_0 p3 p4 x6 v42 (List.length r1.1.args:Int) v15>>=fun r9=>
 gapp 40 v14 [r9.1]>>=fun l11=>
 e147Lce qq p2 p3 p4 r1 l11 (w64 (v15+1)) (w64 (v42+1)) r9.2
 else
 e147Lce qq p2 p3 p4 r1 v14 v15 (w64 (v42+1)) vb0_0
 else
 e147Lcd qq p2 p3 p4 r1 v14 v15 vb0_0 [] 0
def e147(qq:Nat)(q0_e:Int)(p1:List Ent)(p2:Int)(p3:List Tm)(p4:Tm):Option (Tm×Int):=
 e213 qq p1 p2>>=fun r1=>
 e150 qq q0_e r1.1.args p3>>=fun r3=>
 e147Lce qq p2 p3 p4 r1 r3.1 0 0 r3.2
def g147LceE0(j:Nat->Value)(p2:Int)(p3:List Tm)(p4:Tm)(r1:Con' × Int)(v14:List Tm)(v15 v42 vb0_0:Int):=sp j 124 0 [(0,.mp 0 0),(2,ai p2),(3,slv tmCells p3 .no),(9,.mp 1 0),(10,.mp 2 0),(11,.mp 3 0),(13,ai (List.length r1.1.args:Int)),(14,slv tmCells v14 (.st 0 3)),(15,ai v15),(40,slv recL r1.1.recs .no),(41,ai (List.length r1.1.recs:Int)),(42,ai v42)]
def g147LceS0(p2:Int)(p3:List Tm)(p4:Tm)(r1:Con' × Int)(v14:List Tm)(v15 v42 vb0_0:Int):LSt:=⟨[(0,.cells [ai vb0_0]),(1,.cells [ai p4.k,ai p4.n,slv tmCells p4.sub .no]),(2,.cells [ai 0,ai 0,slv tmCells ([]:List Tm) .nl]),(3,.cells [slv tmCells r1.1.args .no,slv tmCells r1.1.inds .no,slv recL r1.1.recs .no])],4,[0],1,[]⟩
def g147LcdE0(j:Nat->Value)(p2:Int)(p3:List Tm)(p4:Tm)(r1:Con' × Int)(v14:List Tm)(v15 vb0_0:Int)(v18:List Tm)(v64:Int):=sp j 124 0 [(0,.mp 0 0),(2,ai p2),(3,slv tmCells p3 .no),(9,.mp 1 0),(10,.mp 2 0),(11,.mp 3 0),(13,ai (List.length r1.1.args:Int)),(14,slv tmCells v14 (.st 0 3)),(15,ai v15),(18,slv tmCells v18 (.st 1 3)),(63,ai (List.length r1.1.args:Int)),(64,ai v64)]
def g147LcdS0(p2:Int)(p3:List Tm)(p4:Tm)(r1:Con' × Int)(v14:List Tm)(v15 vb0_0:Int)(v18:List Tm)(v64:Int):LSt:=⟨[(0,.cells [ai vb0_0]),(1,.cells [ai p4.k,ai p4.n,slv tmCells p4.sub .no]),(2,.cells [ai 0,ai 0,slv tmCells ([]:List Tm) .nl]),(3,.cells [slv tmCells r1.1.args .no,slv tmCells r1.1.inds .no,slv recL r1.1.recs .no])],4,[0,1],2,[]⟩
def g147LccE0(j:Nat->Value)(p2:Int)(r1:Con' × Int)(v14 v18:List Tm)(r18:List Tm×Int)(l23:List Tm)(v98 vb0_0 vb2_0 vb2_1:Int)(vb2_2:List Tm):=sp j 124 0 [(0,.mp 0 0),(2,ai p2),(10,.mp 1 0),(14,slv tmCells v14 (.st 0 3)),(18,slv tmCells v18 (.st 1 3)),(20,slv tmCells r18.1 .no),(21,slv tmCells l23 .full),(22,.mp 2 0),(96,slv tmCells r1.1.inds .no),(97,ai (List.length r1.1.inds:Int)),(98,ai v98)]
def g147LccS0(p2:Int)(r1:Con' × Int)(v14 v18:List Tm)(r18:List Tm×Int)(l23:List Tm)(v98 vb0_0 vb2_0 vb2_1:Int)(vb2_2:List Tm):LSt:=⟨[(0,.cells [ai vb0_0]),(1,.cells [ai 0,ai 0,slv tmCells ([]:List Tm) .nl]),(2,.cells [ai vb2_0,ai vb2_1,slv tmCells vb2_2 .no])],3,[0,1],2,[]⟩
def g147LccE1(j:Nat->Value)(p2:Int)(r1:Con' × Int)(v14 v18:List Tm)(r18:List Tm×Int)(l23:List Tm)(v98 vb0_0 vb2_0 vb2_1:Int)(vb2_2:List Tm):=sp j 124 0 [(0,.mp 0 0),(2,ai p2),(10,.mp 1 0),(14,slv tmCells v14 (.st 0 3)),(18,slv tmCells v18 (.st 1 3)),(20,slv tmCells r18.1 .no),(21,slv tmCells l23 (.st 2 3)),(22,.mp 2 0),(96,slv tmCells r1.1.inds .no),(97,ai (List.length r1.1.inds:Int)),(98,ai v98)]
def g147LccS1(p2:Int)(r1:Con' × Int)(v14 v18:List Tm)(r18:List Tm×Int)(l23:List Tm)(v98 vb0_0 vb2_0 vb2_1:Int)(vb2_2:List Tm):LSt:=⟨[(0,.cells [ai vb0_0]),(1,.cells [ai 0,ai 0,slv tmCells ([]:List Tm) .nl]),(2,.cells [ai vb2_0,ai vb2_1,slv tmCells vb2_2 .no])],3,[0,1,2],3,[]⟩
abbrev K147 (q0_e:Int) (p1:List Ent) (p2:Int) (p3:List Tm) (p4:Tm) (r:Tm×Int) (C:Cf):Prop:=C 147 [.cells [ai q0_e]] [.mp 0 0,slv entL p1 .no,ai p2,slv tmCells p3 .no,tmA p4] (tmA r.1) [.cells [ai r.2]] 0
theorem q147:Qf 147 Tryz.f147:=⟨Tryz.func147,by kernel_rfl⟩
theorem k147{q0_e p1 p2 p3 p4 r}(h:K147 q0_e p1 p2 p3 p4 r Ci):K147 q0_e p1 p2 p3 p4 r Ct:=⟨h,⟨(lz rfl),⟨tv,dE _⟩,tv,⟨tv,dT _⟩,⟨tv,tv,⟨tv,dT _⟩,tv⟩,tv⟩,(forall_cons ⟨tv,tv⟩ forall_nil),⟨tv,tv,dT _,tv⟩,(forall_cons ⟨tv,tv⟩ forall_nil)⟩
theorem l147Lcc:∀qq:Nat,(∀p2 r1 v14 v18 r18 l23 v98 vb0_0 vb2_0 vb2_1 vb2_2 r,e147Lcc qq p2 r1 v14 v18 r18 l23 v98 vb0_0 vb2_0 vb2_1 vb2_2=some r->(∀j,Dl Tryz.prog 1 (inn (inn (rgt (lft (rgt (rgt (rgt (rgt (rgt (rgt (rgt (rgt (rgt (rgt (rgt (bod Tryz.f147)))))))))))))))) (g147LccE0 j p2 r1 v14 v18 r18 l23 v98 vb0_0 vb2_0 vb2_1 vb2_2) (g147LccS0 p2 r1 v14 v18 r18 l23 v98 vb0_0 vb2_0 vb2_1 vb2_2) (frameQ Tryz.prog 1 (FinQ Tryz.prog 1 Tryz.f147 (tmA r.1) [.cells [ai r.2]] 0) [.blk 4,.seq (rgt (rgt (rgt (rgt (rgt (rgt (rgt (rgt (rgt (rgt (rgt (rgt (bod Tryz.f147)))))))))))))]))∧(∀j,Dl Tryz.prog 1 (inn (inn (rgt (lft (rgt (rgt (rgt (rgt (rgt (rgt (rgt (rgt (rgt (rgt (rgt (bod Tryz.f147)))))))))))))))) (g147LccE1 j p2 r1 v14 v18 r18 l23 v98 vb0_0 vb2_0 vb2_1 vb2_2) (g147LccS1 p2 r1 v14 v18 r18 l23 v98 vb0_0 vb2_0 vb2_1 vb2_2) (frameQ Tryz.prog 1 (FinQ Tryz.prog 1 Tryz.f147 (tmA r.1) [.cells [ai r.2]] 0) [.blk 4,.seq (rgt (rgt (rgt (rgt (rgt (rgt (rgt (rgt (rgt (rgt (rgt (rgt (bod Tryz.f147)))))))))))))]))):=by
 intro qq
 induction qq with
 |zero=>
  exact fun _ _ _ _ _ _ _ _ _ _ _ _ h=>nn h
 |succ qq ih=>
  intro p2 r1 v14 v18 r18 l23 v98 vb0_0 vb2_0 vb2_1 vb2_2 r h
  rw[e147Lcc]at h
  refine⟨?_,?_⟩
  rcases spl h with⟨h28,h⟩|⟨h28,h⟩
  obtain⟨x29,h30,h⟩:=obind h
  obtain⟨r31,h32,h⟩:=obind h
  obtain⟨r33,h34,h⟩:=obind h
  exact fun j=>lH 2 [] [0,1,2] [0,1] [0,2,10,14,18,20,21,22,96,97,98] (oD (dT r1.1.inds)<|oD (dT l23)<|oD (dT r18.1)<|oD (dT v18)<|oD (dT v14)<|oD (dT r33.sub)<|oD (dT ([]:List Tm))<|oC 0 [] (c156 h34)<|oC 4 [0] (c216 h32)<|oA 0 (ix23 (o:=.no) h30)<|oB 0 h28 o0) ((ih _ _ _ _ _ _ _ _ _ _ _ _ h).1)
  obtain⟨r35,h36,h⟩:=obind h
  obtain⟨r37,h38,h⟩:=obind h
  obtain⟨r39,h40,h⟩:=obind h
  obtain⟨r41,h42,h⟩:=obind h
  obtain⟨r43,h44,h⟩:=obind h
  obtain⟨r45,h46,h⟩:=obind h
  obtain rfl:=sj h
  exact fun j=>lF 1 [0] (oD (dT r45.1.sub)<|oC 2 [0] (c154 h46)<|oC 2 [] (c155 h44)<|oC 0 [] (c156 h42)<|oC 0 [] (c151 h40)<|oC 0 [] (c151 h38)<|oC 1 [] (c152 h36)<|oB 0 h28 o0)
  rcases spl h with⟨h28,h⟩|⟨h28,h⟩
  obtain⟨x29,h30,h⟩:=obind h
  obtain⟨r31,h32,h⟩:=obind h
  obtain⟨r33,h34,h⟩:=obind h
  exact fun j=>lH 2 [] [0,1,2] [0,1,2] [0,2,10,14,18,20,21,22,96,97,98] (oD (dT r1.1.inds)<|oD (dT l23)<|oD (dT r18.1)<|oD (dT v18)<|oD (dT v14)<|oD (dT r33.sub)<|oD (dT ([]:List Tm))<|oC 0 [] (c156 h34)<|oC 4 [0] (c216 h32)<|oA 0 (ix23 (o:=.no) h30)<|oB 0 h28 o0) ((ih _ _ _ _ _ _ _ _ _ _ _ _ h).2)
  obtain⟨r35,h36,h⟩:=obind h
  obtain⟨r37,h38,h⟩:=obind h
  obtain⟨r39,h40,h⟩:=obind h
  obtain⟨r41,h42,h⟩:=obind h
  obtain⟨r43,h44,h⟩:=obind h
  obtain⟨r45,h46,h⟩:=obind h
  obtain rfl:=sj h
  exact fun j=>lF 1 [0] (oD (dT r45.1.sub)<|oC 2 [0] (c154 h46)<|oC 2 [] (c155 h44)<|oC 0 [] (c156 h42)<|oC 0 [] (c151 h40)<|oC 0 [] (c151 h38)<|oC 1 [] (c152 h36)<|oB 0 h28 o0)
theorem l147Lcd:∀qq:Nat,(∀p2 p3 p4 r1 v14 v15 vb0_0 v18 v64 r,e147Lcd qq p2 p3 p4 r1 v14 v15 vb0_0 v18 v64=some r->(∀j,Dl Tryz.prog 1 (inn (inn (rgt (lft (rgt (rgt (rgt (rgt (rgt (rgt (rgt (bod Tryz.f147)))))))))))) (g147LcdE0 j p2 p3 p4 r1 v14 v15 vb0_0 v18 v64) (g147LcdS0 p2 p3 p4 r1 v14 v15 vb0_0 v18 v64) (frameQ Tryz.prog 1 (FinQ Tryz.prog 1 Tryz.f147 (tmA r.1) [.cells [ai r.2]] 0) [.blk 2,.seq (rgt (rgt (rgt (rgt (rgt (rgt (rgt (rgt (bod Tryz.f147)))))))))]))):=by
 intro qq
 induction qq with
 |zero=>
  exact fun _ _ _ _ _ _ _ _ _ _ h=>nn h
 |succ qq ih=>
  intro p2 p3 p4 r1 v14 v15 vb0_0 v18 v64 r h
  rw[e147Lcd]at h
  rcases spl h with⟨h13,h⟩|⟨h13,h⟩
  obtain⟨r14,h15,h⟩:=obind h
  obtain⟨l16,h17,h⟩:=obind h
  exact fun j=>lH 1 [] [0,1,2,3] [0,2] [0,2,3,9,10,11,13,14,15,18,63,64] (oD (dT l16)<|oD (dT v14)<|oD (dT p3)<|oD (dR r1.1.recs)<|oD (dT r1.1.inds)<|oD (dT r1.1.args)<|oD (dT ([]:List Tm))<|oD (dT p4.sub)<|oP 0 (apS23 h17 (by simp))<|oS 0 (obLitR tm_eq [r14])<|oC 3 [] (c149 h15)<|oB 0 h13 o0) (ih _ _ _ _ _ _ _ _ _ _ h)
  obtain⟨r18,h19,h⟩:=obind h
  obtain⟨l20,h21,h⟩:=obind h
  have k:=oC 1 [0] (c148 h19)<|oB 0 h13 o0
  by_cases h22:List.length r18.1=0
  obtain⟨l23,h24,h⟩:=obind h
  have k:=oP 1 (apN23 h21 h22) k
  by_cases h25:List.length v18=0
  obtain⟨r26,h27,h⟩:=obind h
  exact fun j=>lH 3 [] [0,2,4] [0,1] [0,2,10,14,18,20,21,22,96,97,98] (oD (dT r1.1.inds)<|oD (dT l23)<|oD (dT r18.1)<|oD (dT v18)<|oD (dT v14)<|oD (dT r26.1.sub)<|oD (dT ([]:List Tm))<|oC 2 [0] (c215 h27)<|oP 0 (apN23 h24 h25) k) ((l147Lcc _ _ _ _ _ _ _ _ _ _ _ _ _ h).1)
  obtain⟨r26,h27,h⟩:=obind h
  exact fun j=>lH 3 [] [0,2,4] [0,1,2] [0,2,10,14,18,20,21,22,96,97,98] (oD (dT r1.1.inds)<|oD (dT l23)<|oD (dT r18.1)<|oD (dT v18)<|oD (dT v14)<|oD (dT r26.1.sub)<|oD (dT ([]:List Tm))<|oC 2 [0] (c215 h27)<|oP 0 (apS23 h24 h25) k) ((l147Lcc _ _ _ _ _ _ _ _ _ _ _ _ _ h).2)
  obtain⟨l23,h24,h⟩:=obind h
  have k:=oP 1 (apS23 h21 h22) k
  by_cases h25:List.length v18=0
  obtain⟨r26,h27,h⟩:=obind h
  exact fun j=>lH 3 [] [0,2,4] [0,1,2] [0,2,10,14,18,20,21,22,96,97,98] (oD (dT r1.1.inds)<|oD (dT l23)<|oD (dT r18.1)<|oD (dT v18)<|oD (dT v14)<|oD (dT r26.1.sub)<|oD (dT ([]:List Tm))<|oC 2 [0] (c215 h27)<|oP 0 (apN23 h24 h25) k) ((l147Lcc _ _ _ _ _ _ _ _ _ _ _ _ _ h).2)
  obtain⟨r26,h27,h⟩:=obind h
  exact fun j=>lH 3 [] [0,2,4] [0,1,3] [0,2,10,14,18,20,21,22,96,97,98] (oD (dT r1.1.inds)<|oD (dT l23)<|oD (dT r18.1)<|oD (dT v18)<|oD (dT v14)<|oD (dT r26.1.sub)<|oD (dT ([]:List Tm))<|oC 2 [0] (c215 h27)<|oP 0 (apS23 h24 h25) k) ((l147Lcc _ _ _ _ _ _ _ _ _ _ _ _ _ h).2)
theorem l147Lce:∀qq:Nat,(∀p2 p3 p4 r1 v14 v15 v42 vb0_0 r,e147Lce qq p2 p3 p4 r1 v14 v15 v42 vb0_0=some r->(∀j,Dl Tryz.prog 1 (inn (inn (rgt (lft (rgt (rgt (rgt (rgt (rgt (bod Tryz.f147)))))))))) (g147LceE0 j p2 p3 p4 r1 v14 v15 v42 vb0_0) (g147LceS0 p2 p3 p4 r1 v14 v15 v42 vb0_0) (frameQ Tryz.prog 1 (FinQ Tryz.prog 1 Tryz.f147 (tmA r.1) [.cells [ai r.2]] 0) [.blk 0,.seq (rgt (rgt (rgt (rgt (rgt (rgt (bod Tryz.f147)))))))]))):=by
 intro qq
 induction qq with
 |zero=>
  exact fun _ _ _ _ _ _ _ _ _ h=>nn h
 |succ qq ih=>
  intro p2 p3 p4 r1 v14 v15 v42 vb0_0 r h
  rw[e147Lce]at h
  rcases spl h with⟨h5,h⟩|⟨h5,h⟩
  obtain⟨x6,h7,h⟩:=obind h
  have k:=oA 0 (ix250 (o:=.no) h7)<|oB 0 h5 o0
  rcases spl h with⟨h8,h⟩|⟨h8,h⟩
  obtain⟨r9,h10,h⟩:=obind h
  obtain⟨l11,h12,h⟩:=obind h
  exact fun j=>lH 2 [] [0,1,2,3] [1] [0,2,3,9,10,11,13,14,15,40,41,42] (oD (dR r1.1.recs)<|oD (dT l11)<|oD (dT p3)<|oD (dR r1.1.recs)<|oD (dT r1.1.inds)<|oD (dT r1.1.args)<|oD (dT ([]:List Tm))<|oD (dT p4.sub)<|oP 0 (apS23 h12 (by simp))<|oS 0 (obLitR tm_eq [r9.1])<|oC 2 [0] (c214 h10)<|oB 2 h8 k) (ih _ _ _ _ _ _ _ _ _ h)
  exact fun j=>lH 1 [] [0,1,2,3] [0] [0,2,3,9,10,11,13,14,15,40,41,42] (oD (dR r1.1.recs)<|oD (dT v14)<|oD (dT p3)<|oD (dR r1.1.recs)<|oD (dT r1.1.inds)<|oD (dT r1.1.args)<|oD (dT ([]:List Tm))<|oD (dT p4.sub)<|oB 2 h8 k) (ih _ _ _ _ _ _ _ _ _ h)
  exact fun j=>lH 0 [(none,18,3)] [0,1,2,3] [0,1] [0,2,3,9,10,11,13,14,15,18,63,64] (oD (dT ([]:List Tm))<|oD (dT v14)<|oD (dT p3)<|oD (dR r1.1.recs)<|oD (dT r1.1.inds)<|oD (dT r1.1.args)<|oD (dT ([]:List Tm))<|oD (dT p4.sub)<|oB 0 h5 o0) (l147Lcd _ _ _ _ _ _ _ _ _ _ _ h)
theorem c147{qq q0_e p1 p2 p3 p4 r}(h:e147 qq q0_e p1 p2 p3 p4=some r):K147 q0_e p1 p2 p3 p4 r Ct:=by
 unfold e147 at h
 obtain⟨r1,h2,h⟩:=obind h
 obtain⟨r3,h4,h⟩:=obind h
 exact k147 (tH q147 2 [] [0,1,2,3] [0] [0,2,3,9,10,11,13,14,15,40,41,42] (oD (dR r1.1.recs)<|oD (dT r3.1)<|oD (dT p3)<|oD (dR r1.1.recs)<|oD (dT r1.1.inds)<|oD (dT r1.1.args)<|oD (dT ([]:List Tm))<|oD (dT p4.sub)<|oC 6 [0] (c150 h4)<|oC 0 [] (c213 h2) o0) (l147Lce _ _ _ _ _ _ _ _ _ _ h))
def e82Lcf:Nat->(List Ent)->Int->(List Tm×List Tm×Int)->Ent->(List Tm)->Int->Int->Option (Tm×Int)
 |0,_,_,_,_,_,_,_=>none
 |qq+1,p0,p1,r4,x15,v14,v59,vb1_0=>
 if decide (v59<(List.length x15.cons:Int))then
 gidx x15.cons v59>>=fun x18=>
 e146 qq (List.length r4.1:Int)>>=fun r20=>
 e148 qq vb1_0 r20 (w64 (v59+1))>>=fun r22=>
 e149 qq v59>>=fun r24=>
 e147 qq r22.2 p0 x18 r22.1 r24>>=fun r26=>
 gapp 40 v14 [r26.1]>>=fun l28=>
 e82Lcf qq p0 p1 r4 x15 l28 (w64 (v59+1)) r26.2
 else
 gidx p0 p1>>=fun x30=>
 e146 qq (List.length r4.1:Int)>>=fun r32=>
 e148 qq vb1_0 r32 (w64 ((List.length x30.cons:Int)+1))>>=fun r34=>
 e150 qq r34.2 r4.2.1 r34.1>>=fun r36=>
 gapp 40 v14 r36.1>>=fun l38=>
 e152 qq p1>>=fun r41=>
 e148 qq r36.2 r32 (w64 ((w64 ((List.length x30.cons:Int)+1))+(List.length r4.2.1:Int)))>>=fun r43=>
 e151 qq r41 r43.1>>=fun r45=>
 e146 qq (List.length r4.2.1:Int)>>=fun r47=>
 e151 qq r45 r47>>=fun r49=>
 gapp 40 l38 [r49]>>=fun l51=>
 e149 qq (w64 ((w64 ((List.length x30.cons:Int)+(List.length r4.2.1:Int)))+1))>>=fun r53=>
 e148 qq r43.2 r47 1>>=fun r55=>
 e151 qq r53 r55.1>>=fun r57=>
 e149 qq 0>>=fun r59=>
 e156 qq r57 r59>>=fun r61=>
 e155 qq l51 r61>>=fun r63=>
 e154 qq r55.2 r63.1 r63.2>>=fun r65=>
 e153 qq r65.2 r65.1>>=fun r67=>
 some (r67.1,r67.2.1)
def e82(qq:Nat)(p0:List Ent)(p1 p2:Int):Option (Tm×Int):=
 e143 qq p0 p1 p2>>=fun r1=>
 if r1 != 0 then
 some ((Tm.mk 0 0 []),r1)
 else
 e144 qq p0 p1>>=fun r4=>
 gapp 40 ([]:List Tm) r4.1>>=fun l6=>
 e146 qq (List.length r4.1:Int)>>=fun r9=>
 e145 qq 0 p0 p1 p2 r9>>=fun r11=>
 gapp 40 l6 [r11.1]>>=fun l13=>
 gidx p0 p1>>=fun x15=>
 e82Lcf qq p0 p1 r4 x15 l13 0 r11.2
def g82LcfE0(j:Nat->Value)(p0:List Ent)(p1:Int)(r4:List Tm×List Tm×Int)(x15:Ent)(v14:List Tm)(v59 vb1_0:Int):=sp j 140 0 [(0,slv entL p0 .no),(1,ai p1),(6,.mp 0 0),(9,.mp 1 0),(11,slv tmCells r4.2.1 .no),(13,ai (List.length r4.1:Int)),(14,slv tmCells v14 (.st 0 3)),(57,slv intC x15.cons .no),(58,ai (List.length x15.cons:Int)),(59,ai v59)]
def g82LcfS0(p0:List Ent)(p1:Int)(r4:List Tm×List Tm×Int)(x15:Ent)(v14:List Tm)(v59 vb1_0:Int):LSt:=⟨[(0,.cells [ai 0,ai 0,slv tmCells ([]:List Tm) .nl]),(1,.cells [ai vb1_0])],2,[0],1,[]⟩
abbrev K82 (p0:List Ent) (p1 p2:Int) (r:Tm×Int) (C:Cf):Prop:=C 82 [] [slv entL p0 .no,ai p1,ai p2] (.tup [tmA r.1,ai r.2]) [] 0
theorem q82:Qf 82 Tryz.f82:=⟨Tryz.func82,by kernel_rfl⟩
theorem k82{p0 p1 p2 r}(h:K82 p0 p1 p2 r Ci):K82 p0 p1 p2 r Ct:=⟨h,⟨⟨tv,dE _⟩,tv,tv,tv⟩,forall_nil,⟨⟨tv,tv,dT _,tv⟩,tv,tv⟩,forall_nil⟩
theorem l82Lcf:∀qq:Nat,(∀p0 p1 r4 x15 v14 v59 vb1_0 r,e82Lcf qq p0 p1 r4 x15 v14 v59 vb1_0=some r->(∀j,Dl Tryz.prog 0 (inn (inn (rgt (lft (rgt (rgt (rgt (rgt (rgt (rgt (rgt (bod Tryz.f82)))))))))))) (g82LcfE0 j p0 p1 r4 x15 v14 v59 vb1_0) (g82LcfS0 p0 p1 r4 x15 v14 v59 vb1_0) (frameQ Tryz.prog 0 (FinQ Tryz.prog 0 Tryz.f82 (.tup [tmA r.1,ai r.2]) [] 0) [.blk 0,.seq (rgt (rgt (rgt (rgt (rgt (rgt (rgt (rgt (bod Tryz.f82)))))))))]))):=by
 intro qq
 induction qq with
 |zero=>
  exact fun _ _ _ _ _ _ _ _ h=>nn h
 |succ qq ih=>
  intro p0 p1 r4 x15 v14 v59 vb1_0 r h
  rw[e82Lcf]at h
  rcases spl h with⟨h17,h⟩|⟨h17,h⟩
  obtain⟨x18,h19,h⟩:=obind h
  obtain⟨r20,h21,h⟩:=obind h
  obtain⟨r22,h23,h⟩:=obind h
  obtain⟨r24,h25,h⟩:=obind h
  obtain⟨r26,h27,h⟩:=obind h
  obtain⟨l28,h29,h⟩:=obind h
  exact fun j=>lH 1 [] [0,1] [1] [0,1,6,9,11,13,14,57,58,59] (oD (dI x15.cons)<|oD (dT l28)<|oD (dT r4.2.1)<|oD (dE p0)<|oD (dT ([]:List Tm))<|oP 0 (apS23 h29 (by simp))<|oS 0 (obLitR tm_eq [r26.1])<|oC 0 [1] (c147 h27)<|oC 0 [] (c149 h25)<|oC 1 [1] (c148 h23)<|oC 1 [] (c146 h21)<|oA 0 (ix41 (o:=.no) h19)<|oB 0 h17 o0) (ih _ _ _ _ _ _ _ _ h)
  obtain⟨x30,h31,h⟩:=obind h
  obtain⟨r32,h33,h⟩:=obind h
  obtain⟨r34,h35,h⟩:=obind h
  obtain⟨r36,h37,h⟩:=obind h
  obtain⟨l38,h39,h⟩:=obind h
  have k:=oC 0 [1] (c150 h37)<|oC 1 [1] (c148 h35)<|oC 2 [] (c146 h33)<|oA 0 (ix22 (o:=.no) h31)<|oB 0 h17 o0
  by_cases h40:List.length r36.1=0
  obtain⟨r41,h42,h⟩:=obind h
  obtain⟨r43,h44,h⟩:=obind h
  obtain⟨r45,h46,h⟩:=obind h
  obtain⟨r47,h48,h⟩:=obind h
  obtain⟨r49,h50,h⟩:=obind h
  obtain⟨l51,h52,h⟩:=obind h
  obtain⟨r53,h54,h⟩:=obind h
  obtain⟨r55,h56,h⟩:=obind h
  obtain⟨r57,h58,h⟩:=obind h
  obtain⟨r59,h60,h⟩:=obind h
  obtain⟨r61,h62,h⟩:=obind h
  obtain⟨r63,h64,h⟩:=obind h
  obtain⟨r65,h66,h⟩:=obind h
  obtain⟨r67,h68,h⟩:=obind h
  obtain rfl:=sj h
  exact fun j=>lF 3 [] (oD (dT r67.1.sub)<|oC 0 [1] (c153 h68)<|oC 2 [1] (c154 h66)<|oC 0 [] (c155 h64)<|oC 0 [] (c156 h62)<|oC 2 [] (c149 h60)<|oC 0 [] (c151 h58)<|oC 0 [1] (c148 h56)<|oC 0 [] (c146 h48)<|oC 2 [] (c149 h54)<|oP 0 (apS23 h52 (by simp))<|oS 2 (obLitR tm_eq [r49])<|oC 0 [] (c151 h50)<|oC 0 [] (c146 h48)<|oC 0 [] (c151 h46)<|oC 2 [1] (c148 h44)<|oC 0 [] (c146 h33)<|oC 1 [] (c152 h42)<|oP 0 (apN23 h39 h40) k)
  obtain⟨r41,h42,h⟩:=obind h
  obtain⟨r43,h44,h⟩:=obind h
  obtain⟨r45,h46,h⟩:=obind h
  obtain⟨r47,h48,h⟩:=obind h
  obtain⟨r49,h50,h⟩:=obind h
  obtain⟨l51,h52,h⟩:=obind h
  obtain⟨r53,h54,h⟩:=obind h
  obtain⟨r55,h56,h⟩:=obind h
  obtain⟨r57,h58,h⟩:=obind h
  obtain⟨r59,h60,h⟩:=obind h
  obtain⟨r61,h62,h⟩:=obind h
  obtain⟨r63,h64,h⟩:=obind h
  obtain⟨r65,h66,h⟩:=obind h
  obtain⟨r67,h68,h⟩:=obind h
  obtain rfl:=sj h
  exact fun j=>lF 3 [] (oD (dT r67.1.sub)<|oC 0 [1] (c153 h68)<|oC 2 [1] (c154 h66)<|oC 0 [] (c155 h64)<|oC 0 [] (c156 h62)<|oC 2 [] (c149 h60)<|oC 0 [] (c151 h58)<|oC 0 [1] (c148 h56)<|oC 0 [] (c146 h48)<|oC 2 [] (c149 h54)<|oP 0 (apS23 h52 (by simp))<|oS 2 (obLitR tm_eq [r49])<|oC 0 [] (c151 h50)<|oC 0 [] (c146 h48)<|oC 0 [] (c151 h46)<|oC 2 [1] (c148 h44)<|oC 0 [] (c146 h33)<|oC 1 [] (c152 h42)<|oP 0 (apS23 h39 h40) k)
theorem c82{qq p0 p1 p2 r}(h:e82 qq p0 p1 p2=some r):K82 p0 p1 p2 r Ct:=by
 unfold e82 at h
 obtain⟨r1,h2,h⟩:=obind h
 have k:=oC 0 [] (c143 h2) o0
 rcases spl h with⟨h3,h⟩|⟨h3,h⟩
 obtain rfl:=sj h
 exact k82 (tF q82 1 [] (oD (dT ([]:List Tm))<|oB 0 h3 k))
 obtain⟨r4,h5,h⟩:=obind h
 obtain⟨l6,h7,h⟩:=obind h
 have k:=oC 0 [] (c144 h5)<|oB 0 h3 k
 by_cases h8:List.length r4.1=0
 obtain⟨r9,h10,h⟩:=obind h
 obtain⟨r11,h12,h⟩:=obind h
 obtain⟨l13,h14,h⟩:=obind h
 obtain⟨x15,h16,h⟩:=obind h
 exact k82 (tH q82 2 [] [0,1] [0] [0,1,6,9,11,13,14,57,58,59] (oD (dI x15.cons)<|oD (dT l13)<|oD (dT r4.2.1)<|oD (dE p0)<|oD (dT ([]:List Tm))<|oA 0 (ix22 (o:=.no) h16)<|oP 0 (apS23 h14 (by simp))<|oS 0 (obLitR tm_eq [r11.1])<|oC 0 [1] (c145 h12)<|oC 0 [] (c146 h10)<|oP 5 (apN23 h7 h8) k) (l82Lcf _ _ _ _ _ _ _ _ _ h))
 obtain⟨r9,h10,h⟩:=obind h
 obtain⟨r11,h12,h⟩:=obind h
 obtain⟨l13,h14,h⟩:=obind h
 obtain⟨x15,h16,h⟩:=obind h
 exact k82 (tH q82 2 [] [0,1] [1] [0,1,6,9,11,13,14,57,58,59] (oD (dI x15.cons)<|oD (dT l13)<|oD (dT r4.2.1)<|oD (dE p0)<|oD (dT ([]:List Tm))<|oA 0 (ix22 (o:=.no) h16)<|oP 0 (apS23 h14 (by simp))<|oS 0 (obLitR tm_eq [r11.1])<|oC 0 [1] (c145 h12)<|oC 0 [] (c146 h10)<|oP 5 (apS23 h7 h8) k) (l82Lcf _ _ _ _ _ _ _ _ _ h))
def e28(qq:Nat)  : Option (Bool):=
 e81 qq>>=fun r1=>
 e80 qq r1 0>>=fun r3=>
 e82 qq r1 0 0>>=fun r5=>
 if r3.1==4 then
 if r3.2==0 then
 if r5.2==0 then
 some (r5.1.k==3)
 else
 some false
 else
 some false
 else
 some false
abbrev K28 (r:Bool) (C:Cf):Prop:=C 28 [] [] (ab r) [] 0
theorem q28:Qf 28 Tryz.f28:=⟨Tryz.func28,by kernel_rfl⟩
theorem k28{r}(h:K28 r Ci):K28 r Ct:=⟨h,tv,forall_nil,tv,forall_nil⟩
theorem c28{qq r}(h:e28 qq  = some r):K28 r Ct:=by
 unfold e28 at h
 obtain⟨r1,h2,h⟩:=obind h
 obtain⟨r3,h4,h⟩:=obind h
 obtain⟨r5,h6,h⟩:=obind h
 have k:=oC 0 [] (c82 h6)<|oC 2 [] (c81 h2)<|oC 0 [] (c80 h4)<|oC 0 [] (c81 h2) o0
 rcases spl h with⟨h7,h⟩|⟨h7,h⟩
 have k:=oB 3 h7 k
 rcases spl h with⟨h8,h⟩|⟨h8,h⟩
 have k:=oB 0 h8 k
 rcases spl h with⟨h9,h⟩|⟨h9,h⟩
 obtain rfl:=sj h
 exact k28 (tF q28 2 [] (oB 0 h9 k))
 obtain rfl:=sj h
 exact k28 (tF q28 0 [] (oB 0 h9 k))
 obtain rfl:=sj h
 exact k28 (tF q28 0 [] (oB 0 h8 k))
 obtain rfl:=sj h
 exact k28 (tF q28 0 [] (oB 3 h7 k))
def e84vacg(qq:Nat)(p1 p2 p3:Int)(p4 p5:List Tm):Option (Tm×Int):=
 some ((Tm.mk 0 0 []),5)
abbrev K84vacg (p1 p2 p3:Int) (p4 p5:List Tm) (r:Tm×Int) (C:Cf):Prop:=C 84 [] [.val (.pointer none),ai p1,ai p2,ai p3,slv tmCells p4 .no,slv tmCells p5 .no] (.tup [tmA r.1,ai r.2]) [] 0
theorem q84vacg:Qf 84 Tryz.f84:=⟨Tryz.func84,by kernel_rfl⟩
theorem k84vacg{p1 p2 p3 p4 p5 r}(h:K84vacg p1 p2 p3 p4 p5 r Ci):K84vacg p1 p2 p3 p4 p5 r Ct:=⟨h,⟨tv,tv,tv,tv,⟨tv,dT _⟩,⟨tv,dT _⟩,tv⟩,forall_nil,⟨⟨tv,tv,dT _,tv⟩,tv,tv⟩,forall_nil⟩
theorem c84vacg{qq p1 p2 p3 p4 p5 r}(h:e84vacg qq p1 p2 p3 p4 p5=some r):K84vacg p1 p2 p3 p4 p5 r Ct:=by
 unfold e84vacg at h
 obtain rfl:=sj h
 exact k84vacg (tF q84vacg 2 [] (oD (dT ([]:List Tm)) o0))
def e29(qq:Nat)(p0:List Ent)(p1 p2 p3:Int)(p4 p5:List Tm):Option (Tm×Int):=
 e83 qq p0>>=fun r1=>
 match r1 with
 |Sum.inl y7=>
  if y7 != 0 then
  some ((Tm.mk 0 0 []),y7)
  else
  e84vacg qq p1 p2 p3 p4 p5>>=fun r9=>
  some (r9.1,r9.2)
 |Sum.inr y3=>
  if y3.1 != 0 then
  some ((Tm.mk 0 0 []),y3.1)
  else
  e84 qq y3.2.1 y3.2.2 p1 p2 p3 p4 p5>>=fun r5=>
  some (r5.1,r5.2)
abbrev K29 (p0:List Ent) (p1 p2 p3:Int) (p4 p5:List Tm) (r:Tm×Int) (C:Cf):Prop:=C 29 [] [slv entL p0 .no,ai p1,ai p2,ai p3,slv tmCells p4 .no,slv tmCells p5 .no] (.tup [tmA r.1,ai r.2]) [] 0
theorem q29:Qf 29 Tryz.f29:=⟨Tryz.func29,by kernel_rfl⟩
theorem k29{p0 p1 p2 p3 p4 p5 r}(h:K29 p0 p1 p2 p3 p4 p5 r Ci):K29 p0 p1 p2 p3 p4 p5 r Ct:=⟨h,⟨⟨tv,dE _⟩,tv,tv,tv,⟨tv,dT _⟩,⟨tv,dT _⟩,tv⟩,forall_nil,⟨⟨tv,tv,dT _,tv⟩,tv,tv⟩,forall_nil⟩
theorem c29{qq p0 p1 p2 p3 p4 p5 r}(h:e29 qq p0 p1 p2 p3 p4 p5=some r):K29 p0 p1 p2 p3 p4 p5 r Ct:=by
 unfold e29 at h
 obtain⟨r1,h2,h⟩:=obind h
 rcases r1 with y7|y3
 dsimp only at h
 have k:=oC 0 [] (c83 h2) o0
 rcases spl h with⟨h8,h⟩|⟨h8,h⟩
 obtain rfl:=sj h
 exact k29 (tF q29 1 [] (oD (dT ([]:List Tm))<|oB 2 h8 k))
 obtain⟨r9,h10,h⟩:=obind h
 obtain rfl:=sj h
 exact k29 (tF q29 3 [] (oD (dT r9.1.sub)<|oC 0 [] (c84vacg h10)<|oB 2 h8 k))
 dsimp only at h
 have k:=oC 0 [] (c83 h2) o0
 rcases spl h with⟨h4,h⟩|⟨h4,h⟩
 obtain rfl:=sj h
 exact k29 (tF q29 1 [] (oD (dT ([]:List Tm))<|oB 2 h4 k))
 obtain⟨r5,h6,h⟩:=obind h
 obtain rfl:=sj h
 exact k29 (tF q29 3 [] (oD (dT r5.1.sub)<|oC 0 [1] (c84 h6)<|oB 2 h4 k))
mutual
def e6Lch:Nat->(Tm×Int)->(List Int)->Con'->Int->(List Int)->Option (Bool)
 |0,_,_,_,_,_=>none
 |qq+1,r4,v10,r36,v14,v9=>
 if decide (v14<(List.length r36.recs:Int))then
 e6Lci qq r4 v10 r36 v14 0 v9
 else
 e30 qq r4.1 6 7>>=fun r39=>
 e32 qq r39 v9>>=fun r41=>
 if r41 then
 e30 qq r4.1 8 8>>=fun r44=>
 e32 qq r44 v10>>=fun r46=>
 if r46 then
 e28 qq>>=fun r49=>
 some r49
 else
 some false
 else
 some false
def e6Lci:Nat->(Tm×Int)->(List Int)->Con'->Int->Int->(List Int)->Option (Bool)
 |0,_,_,_,_,_,_=>none
 |qq+1,r4,v10,r36,v14,v15,v9=>
 gidx r36.recs v14>>=fun x39=>
 if decide (v15<(List.length x39.around:Int))then
 gidx x39.around v15>>=fun x42=>
 e30 qq x42 6 7>>=fun r44=>
 gapp 8 v9 r44>>=fun l46=>
 e6Lci qq r4 v10 r36 v14 (w64 (v15+1)) l46
 else
 e6Lcj qq r4 v10 r36 v14 0 v9
def e6Lcj:Nat->(Tm×Int)->(List Int)->Con'->Int->Int->(List Int)->Option (Bool)
 |0,_,_,_,_,_,_=>none
 |qq+1,r4,v10,r36,v14,v16,v9=>
 gidx r36.recs v14>>=fun x49=>
 if decide (v16<(List.length x49.at':Int))then
 gidx x49.at' v16>>=fun x52=>
 e30 qq x52 6 7>>=fun r54=>
 gapp 8 v9 r54>>=fun l56=>
 e6Lcj qq r4 v10 r36 v14 (w64 (v16+1)) l56
 else
 e6Lch qq r4 v10 r36 (w64 (v14+1)) v9
end
def e6Lck(qq:Nat)(p0:List Ent)(p1:Case')(p2:Two)(r4:Tm×Int)(v10 v9:List Int):Option (Bool):=
 e31 qq p0 p1.C>>=fun r36=>
 e6Lch qq r4 v10 r36 0 v9
def e6Lcl:Nat->(List Ent)->Case'->Two->(Tm×Int)->(List Int)->Int->(List Int)->Option (Bool)
 |0,_,_,_,_,_,_,_=>none
 |qq+1,p0,p1,p2,r4,v10,v12,v9=>
 if decide (v12<(List.length p2.b:Int))then
 gidx p2.b v12>>=fun x24=>
 e30 qq x24 6 7>>=fun r26=>
 gapp 8 v9 r26>>=fun l28=>
 e30 qq x24 8 8>>=fun r31=>
 gapp 8 v10 r31>>=fun l33=>
 e6Lcl qq p0 p1 p2 r4 l33 (w64 (v12+1)) l28
 else
 e6Lck qq p0 p1 p2 r4 v10 v9
def e6Lcm(qq:Nat)(p0:List Ent)(p1:Case')(p2:Two)(r4:Tm×Int)(v10 v9:List Int):Option (Bool):=
 e6Lcl qq p0 p1 p2 r4 v10 0 v9
def e6Lcn:Nat->(List Ent)->Case'->Two->(Tm×Int)->(List Int)->Int->(List Int)->Option (Bool)
 |0,_,_,_,_,_,_,_=>none
 |qq+1,p0,p1,p2,r4,v10,v12,v9=>
 if decide (v12<(List.length p2.a:Int))then
 gidx p2.a v12>>=fun x11=>
 e30 qq x11 6 7>>=fun r13=>
 gapp 8 v9 r13>>=fun l15=>
 e30 qq x11 8 8>>=fun r18=>
 gapp 8 v10 r18>>=fun l20=>
 e6Lcn qq p0 p1 p2 r4 l20 (w64 (v12+1)) l15
 else
 e6Lcm qq p0 p1 p2 r4 v10 v9
def e6Lco(qq:Nat)(p0:List Ent)(p1:Case')(p2:Two)(r4:Tm×Int)(v10 v9:List Int):Option (Bool):=
 e6Lcn qq p0 p1 p2 r4 v10 0 v9
def e6(qq:Nat)(p0:List Ent)(p1:Case')(p2:Two):Option (Bool):=
 e27 qq p0 p2.a p2.b>>=fun r1=>
 if r1 then
 e29 qq p0 p1.D p1.Level p1.C p2.a p2.b>>=fun r4=>
 if r4.2 != 0 then
 if r4.1.k==0 then
 e28 qq>>=fun r8=>
 some r8
 else
 some false
 else
 e6Lco qq p0 p1 p2 r4 [] [p1.D]
 else
 e28 qq>>=fun r10=>
 some r10
def g6LcoE0(j:Nat->Value)(p0:List Ent)(p1:Case')(p2:Two)(r4:Tm×Int)(v10 v9:List Int):=sp j 152 0 [(0,slv entL p0 .no),(4,.mp 0 0),(5,.mp 1 0),(7,.mp 2 0),(9,slv intC v9 .full),(10,slv intC v10 .full),(11,ai 0)]
def g6LcoS0(p0:List Ent)(p1:Case')(p2:Two)(r4:Tm×Int)(v10 v9:List Int):LSt:=⟨[(0,.cells [ai p1.D,ai p1.Level,ai p1.C]),(1,.cells [slv tmCells p2.a .no,slv tmCells p2.b .no]),(2,.cells [ai r4.1.k,ai r4.1.n,slv tmCells r4.1.sub .no])],3,[],0,[]⟩
def g6LcnE0(j:Nat->Value)(p0:List Ent)(p1:Case')(p2:Two)(r4:Tm×Int)(v10:List Int)(v12:Int)(v9:List Int):=sp j 152 0 [(0,slv entL p0 .no),(4,.mp 0 0),(5,.mp 1 0),(7,.mp 2 0),(9,slv intC v9 .full),(10,slv intC v10 .full),(11,ai 0),(12,ai v12)]
def g6LcnS0(p0:List Ent)(p1:Case')(p2:Two)(r4:Tm×Int)(v10:List Int)(v12:Int)(v9:List Int):LSt:=⟨[(0,.cells [ai p1.D,ai p1.Level,ai p1.C]),(1,.cells [slv tmCells p2.a .no,slv tmCells p2.b .no]),(2,.cells [ai r4.1.k,ai r4.1.n,slv tmCells r4.1.sub .no])],3,[],0,[]⟩
def g6LcnE1(j:Nat->Value)(p0:List Ent)(p1:Case')(p2:Two)(r4:Tm×Int)(v10:List Int)(v12:Int)(v9:List Int):=sp j 152 0 [(0,slv entL p0 .no),(4,.mp 0 0),(5,.mp 1 0),(7,.mp 2 0),(9,slv intC v9 .full),(10,slv intC v10 (.st 0 1)),(11,ai 0),(12,ai v12)]
def g6LcnS1(p0:List Ent)(p1:Case')(p2:Two)(r4:Tm×Int)(v10:List Int)(v12:Int)(v9:List Int):LSt:=⟨[(0,.cells [ai p1.D,ai p1.Level,ai p1.C]),(1,.cells [slv tmCells p2.a .no,slv tmCells p2.b .no]),(2,.cells [ai r4.1.k,ai r4.1.n,slv tmCells r4.1.sub .no])],3,[0],1,[]⟩
def g6LcnE2(j:Nat->Value)(p0:List Ent)(p1:Case')(p2:Two)(r4:Tm×Int)(v10:List Int)(v12:Int)(v9:List Int):=sp j 152 0 [(0,slv entL p0 .no),(4,.mp 0 0),(5,.mp 1 0),(7,.mp 2 0),(9,slv intC v9 (.st 0 1)),(10,slv intC v10 (.st 1 1)),(11,ai 0),(12,ai v12)]
def g6LcnS2(p0:List Ent)(p1:Case')(p2:Two)(r4:Tm×Int)(v10:List Int)(v12:Int)(v9:List Int):LSt:=⟨[(0,.cells [ai p1.D,ai p1.Level,ai p1.C]),(1,.cells [slv tmCells p2.a .no,slv tmCells p2.b .no]),(2,.cells [ai r4.1.k,ai r4.1.n,slv tmCells r4.1.sub .no])],3,[0,1],2,[]⟩
def g6LcnE3(j:Nat->Value)(p0:List Ent)(p1:Case')(p2:Two)(r4:Tm×Int)(v10:List Int)(v12:Int)(v9:List Int):=sp j 152 0 [(0,slv entL p0 .no),(4,.mp 0 0),(5,.mp 1 0),(7,.mp 2 0),(9,slv intC v9 (.st 0 1)),(10,slv intC v10 .full),(11,ai 0),(12,ai v12)]
def g6LcnS3(p0:List Ent)(p1:Case')(p2:Two)(r4:Tm×Int)(v10:List Int)(v12:Int)(v9:List Int):LSt:=⟨[(0,.cells [ai p1.D,ai p1.Level,ai p1.C]),(1,.cells [slv tmCells p2.a .no,slv tmCells p2.b .no]),(2,.cells [ai r4.1.k,ai r4.1.n,slv tmCells r4.1.sub .no])],3,[0],1,[]⟩
def g6LcmE0(j:Nat->Value)(p0:List Ent)(p1:Case')(p2:Two)(r4:Tm×Int)(v10 v9:List Int):=sp j 152 0 [(0,slv entL p0 .no),(4,.mp 0 0),(5,.mp 1 0),(7,.mp 2 0),(9,slv intC v9 (.st 0 1)),(10,slv intC v10 (.st 1 1)),(11,ai 1)]
def g6LcmS0(p0:List Ent)(p1:Case')(p2:Two)(r4:Tm×Int)(v10 v9:List Int):LSt:=⟨[(0,.cells [ai p1.D,ai p1.Level,ai p1.C]),(1,.cells [slv tmCells p2.a .no,slv tmCells p2.b .no]),(2,.cells [ai r4.1.k,ai r4.1.n,slv tmCells r4.1.sub .no])],3,[0,1],2,[]⟩
def g6LcmE1(j:Nat->Value)(p0:List Ent)(p1:Case')(p2:Two)(r4:Tm×Int)(v10 v9:List Int):=sp j 152 0 [(0,slv entL p0 .no),(4,.mp 0 0),(5,.mp 1 0),(7,.mp 2 0),(9,slv intC v9 .full),(10,slv intC v10 (.st 0 1)),(11,ai 1)]
def g6LcmS1(p0:List Ent)(p1:Case')(p2:Two)(r4:Tm×Int)(v10 v9:List Int):LSt:=⟨[(0,.cells [ai p1.D,ai p1.Level,ai p1.C]),(1,.cells [slv tmCells p2.a .no,slv tmCells p2.b .no]),(2,.cells [ai r4.1.k,ai r4.1.n,slv tmCells r4.1.sub .no])],3,[0],1,[]⟩
def g6LcmE2(j:Nat->Value)(p0:List Ent)(p1:Case')(p2:Two)(r4:Tm×Int)(v10 v9:List Int):=sp j 152 0 [(0,slv entL p0 .no),(4,.mp 0 0),(5,.mp 1 0),(7,.mp 2 0),(9,slv intC v9 (.st 0 1)),(10,slv intC v10 .full),(11,ai 1)]
def g6LcmS2(p0:List Ent)(p1:Case')(p2:Two)(r4:Tm×Int)(v10 v9:List Int):LSt:=⟨[(0,.cells [ai p1.D,ai p1.Level,ai p1.C]),(1,.cells [slv tmCells p2.a .no,slv tmCells p2.b .no]),(2,.cells [ai r4.1.k,ai r4.1.n,slv tmCells r4.1.sub .no])],3,[0],1,[]⟩
def g6LcmE3(j:Nat->Value)(p0:List Ent)(p1:Case')(p2:Two)(r4:Tm×Int)(v10 v9:List Int):=sp j 152 0 [(0,slv entL p0 .no),(4,.mp 0 0),(5,.mp 1 0),(7,.mp 2 0),(9,slv intC v9 .full),(10,slv intC v10 .full),(11,ai 1)]
def g6LcmS3(p0:List Ent)(p1:Case')(p2:Two)(r4:Tm×Int)(v10 v9:List Int):LSt:=⟨[(0,.cells [ai p1.D,ai p1.Level,ai p1.C]),(1,.cells [slv tmCells p2.a .no,slv tmCells p2.b .no]),(2,.cells [ai r4.1.k,ai r4.1.n,slv tmCells r4.1.sub .no])],3,[],0,[]⟩
def g6LclE0(j:Nat->Value)(p0:List Ent)(p1:Case')(p2:Two)(r4:Tm×Int)(v10:List Int)(v12:Int)(v9:List Int):=sp j 152 0 [(0,slv entL p0 .no),(4,.mp 0 0),(5,.mp 1 0),(7,.mp 2 0),(9,slv intC v9 (.st 0 1)),(10,slv intC v10 (.st 1 1)),(11,ai 1),(12,ai v12)]
def g6LclS0(p0:List Ent)(p1:Case')(p2:Two)(r4:Tm×Int)(v10:List Int)(v12:Int)(v9:List Int):LSt:=⟨[(0,.cells [ai p1.D,ai p1.Level,ai p1.C]),(1,.cells [slv tmCells p2.a .no,slv tmCells p2.b .no]),(2,.cells [ai r4.1.k,ai r4.1.n,slv tmCells r4.1.sub .no])],3,[0,1],2,[]⟩
def g6LclE1(j:Nat->Value)(p0:List Ent)(p1:Case')(p2:Two)(r4:Tm×Int)(v10:List Int)(v12:Int)(v9:List Int):=sp j 152 0 [(0,slv entL p0 .no),(4,.mp 0 0),(5,.mp 1 0),(7,.mp 2 0),(9,slv intC v9 .full),(10,slv intC v10 (.st 0 1)),(11,ai 1),(12,ai v12)]
def g6LclS1(p0:List Ent)(p1:Case')(p2:Two)(r4:Tm×Int)(v10:List Int)(v12:Int)(v9:List Int):LSt:=⟨[(0,.cells [ai p1.D,ai p1.Level,ai p1.C]),(1,.cells [slv tmCells p2.a .no,slv tmCells p2.b .no]),(2,.cells [ai r4.1.k,ai r4.1.n,slv tmCells r4.1.sub .no])],3,[0],1,[]⟩
def g6LclE2(j:Nat->Value)(p0:List Ent)(p1:Case')(p2:Two)(r4:Tm×Int)(v10:List Int)(v12:Int)(v9:List Int):=sp j 152 0 [(0,slv entL p0 .no),(4,.mp 0 0),(5,.mp 1 0),(7,.mp 2 0),(9,slv intC v9 (.st 0 1)),(10,slv intC v10 .full),(11,ai 1),(12,ai v12)]
def g6LclS2(p0:List Ent)(p1:Case')(p2:Two)(r4:Tm×Int)(v10:List Int)(v12:Int)(v9:List Int):LSt:=⟨[(0,.cells [ai p1.D,ai p1.Level,ai p1.C]),(1,.cells [slv tmCells p2.a .no,slv tmCells p2.b .no]),(2,.cells [ai r4.1.k,ai r4.1.n,slv tmCells r4.1.sub .no])],3,[0],1,[]⟩
def g6LclE3(j:Nat->Value)(p0:List Ent)(p1:Case')(p2:Two)(r4:Tm×Int)(v10:List Int)(v12:Int)(v9:List Int):=sp j 152 0 [(0,slv entL p0 .no),(4,.mp 0 0),(5,.mp 1 0),(7,.mp 2 0),(9,slv intC v9 .full),(10,slv intC v10 .full),(11,ai 1),(12,ai v12)]
def g6LclS3(p0:List Ent)(p1:Case')(p2:Two)(r4:Tm×Int)(v10:List Int)(v12:Int)(v9:List Int):LSt:=⟨[(0,.cells [ai p1.D,ai p1.Level,ai p1.C]),(1,.cells [slv tmCells p2.a .no,slv tmCells p2.b .no]),(2,.cells [ai r4.1.k,ai r4.1.n,slv tmCells r4.1.sub .no])],3,[],0,[]⟩
def g6LckE0(j:Nat->Value)(p0:List Ent)(p1:Case')(p2:Two)(r4:Tm×Int)(v10 v9:List Int):=sp j 152 0 [(0,slv entL p0 .no),(4,.mp 0 0),(5,.mp 1 0),(7,.mp 2 0),(9,slv intC v9 (.st 0 1)),(10,slv intC v10 (.st 1 1)),(11,ai 2)]
def g6LckS0(p0:List Ent)(p1:Case')(p2:Two)(r4:Tm×Int)(v10 v9:List Int):LSt:=⟨[(0,.cells [ai p1.D,ai p1.Level,ai p1.C]),(1,.cells [slv tmCells p2.a .no,slv tmCells p2.b .no]),(2,.cells [ai r4.1.k,ai r4.1.n,slv tmCells r4.1.sub .no])],3,[0,1],2,[]⟩
def g6LckE1(j:Nat->Value)(p0:List Ent)(p1:Case')(p2:Two)(r4:Tm×Int)(v10 v9:List Int):=sp j 152 0 [(0,slv entL p0 .no),(4,.mp 0 0),(5,.mp 1 0),(7,.mp 2 0),(9,slv intC v9 .full),(10,slv intC v10 (.st 0 1)),(11,ai 2)]
def g6LckS1(p0:List Ent)(p1:Case')(p2:Two)(r4:Tm×Int)(v10 v9:List Int):LSt:=⟨[(0,.cells [ai p1.D,ai p1.Level,ai p1.C]),(1,.cells [slv tmCells p2.a .no,slv tmCells p2.b .no]),(2,.cells [ai r4.1.k,ai r4.1.n,slv tmCells r4.1.sub .no])],3,[0],1,[]⟩
def g6LckE2(j:Nat->Value)(p0:List Ent)(p1:Case')(p2:Two)(r4:Tm×Int)(v10 v9:List Int):=sp j 152 0 [(0,slv entL p0 .no),(4,.mp 0 0),(5,.mp 1 0),(7,.mp 2 0),(9,slv intC v9 (.st 0 1)),(10,slv intC v10 .full),(11,ai 2)]
def g6LckS2(p0:List Ent)(p1:Case')(p2:Two)(r4:Tm×Int)(v10 v9:List Int):LSt:=⟨[(0,.cells [ai p1.D,ai p1.Level,ai p1.C]),(1,.cells [slv tmCells p2.a .no,slv tmCells p2.b .no]),(2,.cells [ai r4.1.k,ai r4.1.n,slv tmCells r4.1.sub .no])],3,[0],1,[]⟩
def g6LckE3(j:Nat->Value)(p0:List Ent)(p1:Case')(p2:Two)(r4:Tm×Int)(v10 v9:List Int):=sp j 152 0 [(0,slv entL p0 .no),(4,.mp 0 0),(5,.mp 1 0),(7,.mp 2 0),(9,slv intC v9 .full),(10,slv intC v10 .full),(11,ai 2)]
def g6LckS3(p0:List Ent)(p1:Case')(p2:Two)(r4:Tm×Int)(v10 v9:List Int):LSt:=⟨[(0,.cells [ai p1.D,ai p1.Level,ai p1.C]),(1,.cells [slv tmCells p2.a .no,slv tmCells p2.b .no]),(2,.cells [ai r4.1.k,ai r4.1.n,slv tmCells r4.1.sub .no])],3,[],0,[]⟩
def g6LchE0(j:Nat->Value)(r4:Tm×Int)(v10:List Int)(r36:Con')(v14:Int)(v9:List Int):=sp j 152 0 [(7,.mp 0 0),(9,slv intC v9 (.st 0 1)),(10,slv intC v10 (.st 1 1)),(13,.mp 1 0),(14,ai v14)]
def g6LchS0(r4:Tm×Int)(v10:List Int)(r36:Con')(v14:Int)(v9:List Int):LSt:=⟨[(0,.cells [ai r4.1.k,ai r4.1.n,slv tmCells r4.1.sub .no]),(1,.cells [slv tmCells r36.args .no,slv tmCells r36.inds .no,slv recL r36.recs .no])],2,[0,1],2,[]⟩
def g6LchE1(j:Nat->Value)(r4:Tm×Int)(v10:List Int)(r36:Con')(v14:Int)(v9:List Int):=sp j 152 0 [(7,.mp 0 0),(9,slv intC v9 .full),(10,slv intC v10 (.st 0 1)),(13,.mp 1 0),(14,ai v14)]
def g6LchS1(r4:Tm×Int)(v10:List Int)(r36:Con')(v14:Int)(v9:List Int):LSt:=⟨[(0,.cells [ai r4.1.k,ai r4.1.n,slv tmCells r4.1.sub .no]),(1,.cells [slv tmCells r36.args .no,slv tmCells r36.inds .no,slv recL r36.recs .no])],2,[0],1,[]⟩
def g6LchE2(j:Nat->Value)(r4:Tm×Int)(v10:List Int)(r36:Con')(v14:Int)(v9:List Int):=sp j 152 0 [(7,.mp 0 0),(9,slv intC v9 (.st 0 1)),(10,slv intC v10 .full),(13,.mp 1 0),(14,ai v14)]
def g6LchS2(r4:Tm×Int)(v10:List Int)(r36:Con')(v14:Int)(v9:List Int):LSt:=⟨[(0,.cells [ai r4.1.k,ai r4.1.n,slv tmCells r4.1.sub .no]),(1,.cells [slv tmCells r36.args .no,slv tmCells r36.inds .no,slv recL r36.recs .no])],2,[0],1,[]⟩
def g6LchE3(j:Nat->Value)(r4:Tm×Int)(v10:List Int)(r36:Con')(v14:Int)(v9:List Int):=sp j 152 0 [(7,.mp 0 0),(9,slv intC v9 .full),(10,slv intC v10 .full),(13,.mp 1 0),(14,ai v14)]
def g6LchS3(r4:Tm×Int)(v10:List Int)(r36:Con')(v14:Int)(v9:List Int):LSt:=⟨[(0,.cells [ai r4.1.k,ai r4.1.n,slv tmCells r4.1.sub .no]),(1,.cells [slv tmCells r36.args .no,slv tmCells r36.inds .no,slv recL r36.recs .no])],2,[],0,[]⟩
def g6LciE0(j:Nat->Value)(r4:Tm×Int)(v10:List Int)(r36:Con')(v14 v15:Int)(v9:List Int):=sp j 152 0 [(7,.mp 0 0),(9,slv intC v9 (.st 0 1)),(10,slv intC v10 (.st 1 1)),(13,.mp 1 0),(14,ai v14),(15,ai v15)]
def g6LciS0(r4:Tm×Int)(v10:List Int)(r36:Con')(v14 v15:Int)(v9:List Int):LSt:=⟨[(0,.cells [ai r4.1.k,ai r4.1.n,slv tmCells r4.1.sub .no]),(1,.cells [slv tmCells r36.args .no,slv tmCells r36.inds .no,slv recL r36.recs .no])],2,[0,1],2,[]⟩
def g6LciE1(j:Nat->Value)(r4:Tm×Int)(v10:List Int)(r36:Con')(v14 v15:Int)(v9:List Int):=sp j 152 0 [(7,.mp 0 0),(9,slv intC v9 .full),(10,slv intC v10 (.st 0 1)),(13,.mp 1 0),(14,ai v14),(15,ai v15)]
def g6LciS1(r4:Tm×Int)(v10:List Int)(r36:Con')(v14 v15:Int)(v9:List Int):LSt:=⟨[(0,.cells [ai r4.1.k,ai r4.1.n,slv tmCells r4.1.sub .no]),(1,.cells [slv tmCells r36.args .no,slv tmCells r36.inds .no,slv recL r36.recs .no])],2,[0],1,[]⟩
def g6LciE2(j:Nat->Value)(r4:Tm×Int)(v10:List Int)(r36:Con')(v14 v15:Int)(v9:List Int):=sp j 152 0 [(7,.mp 0 0),(9,slv intC v9 (.st 0 1)),(10,slv intC v10 .full),(13,.mp 1 0),(14,ai v14),(15,ai v15)]
def g6LciS2(r4:Tm×Int)(v10:List Int)(r36:Con')(v14 v15:Int)(v9:List Int):LSt:=⟨[(0,.cells [ai r4.1.k,ai r4.1.n,slv tmCells r4.1.sub .no]),(1,.cells [slv tmCells r36.args .no,slv tmCells r36.inds .no,slv recL r36.recs .no])],2,[0],1,[]⟩
def g6LciE3(j:Nat->Value)(r4:Tm×Int)(v10:List Int)(r36:Con')(v14 v15:Int)(v9:List Int):=sp j 152 0 [(7,.mp 0 0),(9,slv intC v9 .full),(10,slv intC v10 .full),(13,.mp 1 0),(14,ai v14),(15,ai v15)]
def g6LciS3(r4:Tm×Int)(v10:List Int)(r36:Con')(v14 v15:Int)(v9:List Int):LSt:=⟨[(0,.cells [ai r4.1.k,ai r4.1.n,slv tmCells r4.1.sub .no]),(1,.cells [slv tmCells r36.args .no,slv tmCells r36.inds .no,slv recL r36.recs .no])],2,[],0,[]⟩
def g6LcjE0(j:Nat->Value)(r4:Tm×Int)(v10:List Int)(r36:Con')(v14 v16:Int)(v9:List Int):=sp j 152 0 [(7,.mp 0 0),(9,slv intC v9 (.st 0 1)),(10,slv intC v10 (.st 1 1)),(13,.mp 1 0),(14,ai v14),(16,ai v16)]
def g6LcjS0(r4:Tm×Int)(v10:List Int)(r36:Con')(v14 v16:Int)(v9:List Int):LSt:=⟨[(0,.cells [ai r4.1.k,ai r4.1.n,slv tmCells r4.1.sub .no]),(1,.cells [slv tmCells r36.args .no,slv tmCells r36.inds .no,slv recL r36.recs .no])],2,[0,1],2,[]⟩
def g6LcjE1(j:Nat->Value)(r4:Tm×Int)(v10:List Int)(r36:Con')(v14 v16:Int)(v9:List Int):=sp j 152 0 [(7,.mp 0 0),(9,slv intC v9 .full),(10,slv intC v10 (.st 0 1)),(13,.mp 1 0),(14,ai v14),(16,ai v16)]
def g6LcjS1(r4:Tm×Int)(v10:List Int)(r36:Con')(v14 v16:Int)(v9:List Int):LSt:=⟨[(0,.cells [ai r4.1.k,ai r4.1.n,slv tmCells r4.1.sub .no]),(1,.cells [slv tmCells r36.args .no,slv tmCells r36.inds .no,slv recL r36.recs .no])],2,[0],1,[]⟩
def g6LcjE2(j:Nat->Value)(r4:Tm×Int)(v10:List Int)(r36:Con')(v14 v16:Int)(v9:List Int):=sp j 152 0 [(7,.mp 0 0),(9,slv intC v9 (.st 0 1)),(10,slv intC v10 .full),(13,.mp 1 0),(14,ai v14),(16,ai v16)]
def g6LcjS2(r4:Tm×Int)(v10:List Int)(r36:Con')(v14 v16:Int)(v9:List Int):LSt:=⟨[(0,.cells [ai r4.1.k,ai r4.1.n,slv tmCells r4.1.sub .no]),(1,.cells [slv tmCells r36.args .no,slv tmCells r36.inds .no,slv recL r36.recs .no])],2,[0],1,[]⟩
def g6LcjE3(j:Nat->Value)(r4:Tm×Int)(v10:List Int)(r36:Con')(v14 v16:Int)(v9:List Int):=sp j 152 0 [(7,.mp 0 0),(9,slv intC v9 .full),(10,slv intC v10 .full),(13,.mp 1 0),(14,ai v14),(16,ai v16)]
def g6LcjS3(r4:Tm×Int)(v10:List Int)(r36:Con')(v14 v16:Int)(v9:List Int):LSt:=⟨[(0,.cells [ai r4.1.k,ai r4.1.n,slv tmCells r4.1.sub .no]),(1,.cells [slv tmCells r36.args .no,slv tmCells r36.inds .no,slv recL r36.recs .no])],2,[],0,[]⟩
abbrev K6 (p0:List Ent) (p1:Case') (p2:Two) (r:Bool) (C:Cf):Prop:=C 6 [] [slv entL p0 .no,caseA p1,twoA p2] (ab r) [] 0
theorem q6:Qf 6 Tryz.f6:=⟨Tryz.func6,by kernel_rfl⟩
theorem k6{p0 p1 p2 r}(h:K6 p0 p1 p2 r Ci):K6 p0 p1 p2 r Ct:=⟨h,⟨⟨tv,dE _⟩,⟨tv,tv,tv,tv⟩,⟨⟨tv,dT _⟩,⟨tv,dT _⟩,tv⟩,tv⟩,forall_nil,tv,forall_nil⟩
theorem a6Lch_6Lci_6Lcj:∀qq:Nat,(∀r4 v10 r36 v14 v9 r,e6Lch qq r4 v10 r36 v14 v9=some r->(∀j,Dl Tryz.prog 0 (inn (inn (rgt (lft (rgt (rgt (rgt (rgt (rgt (rgt (rgt (rgt (bod Tryz.f6))))))))))))) (g6LchE0 j r4 v10 r36 v14 v9) (g6LchS0 r4 v10 r36 v14 v9) (frameQ Tryz.prog 0 (FinQ Tryz.prog 0 Tryz.f6 (ab r) [] 0) [.blk 4,.seq (rgt (rgt (rgt (rgt (rgt (rgt (rgt (rgt (rgt (bod Tryz.f6))))))))))]))∧(∀j,Dl Tryz.prog 0 (inn (inn (rgt (lft (rgt (rgt (rgt (rgt (rgt (rgt (rgt (rgt (bod Tryz.f6))))))))))))) (g6LchE1 j r4 v10 r36 v14 v9) (g6LchS1 r4 v10 r36 v14 v9) (frameQ Tryz.prog 0 (FinQ Tryz.prog 0 Tryz.f6 (ab r) [] 0) [.blk 4,.seq (rgt (rgt (rgt (rgt (rgt (rgt (rgt (rgt (rgt (bod Tryz.f6))))))))))]))∧(∀j,Dl Tryz.prog 0 (inn (inn (rgt (lft (rgt (rgt (rgt (rgt (rgt (rgt (rgt (rgt (bod Tryz.f6))))))))))))) (g6LchE2 j r4 v10 r36 v14 v9) (g6LchS2 r4 v10 r36 v14 v9) (frameQ Tryz.prog 0 (FinQ Tryz.prog 0 Tryz.f6 (ab r) [] 0) [.blk 4,.seq (rgt (rgt (rgt (rgt (rgt (rgt (rgt (rgt (rgt (bod Tryz.f6))))))))))]))∧(∀j,Dl Tryz.prog 0 (inn (inn (rgt (lft (rgt (rgt (rgt (rgt (rgt (rgt (rgt (rgt (bod Tryz.f6))))))))))))) (g6LchE3 j r4 v10 r36 v14 v9) (g6LchS3 r4 v10 r36 v14 v9) (frameQ Tryz.prog 0 (FinQ Tryz.prog 0 Tryz.f6 (ab r) [] 0) [.blk 4,.seq (rgt (rgt (rgt (rgt (rgt (rgt (rgt (rgt (rgt (bod Tryz.f6))))))))))])))∧(∀r4 v10 r36 v14 v15 v9 r,e6Lci qq r4 v10 r36 v14 v15 v9=some r->(∀j,Dl Tryz.prog 0 (inn (inn (rgt (lft (inn (lft (rgt (inn (inn (rgt (lft (rgt (rgt (rgt (rgt (rgt (rgt (rgt (rgt (bod Tryz.f6)))))))))))))))))))) (g6LciE0 j r4 v10 r36 v14 v15 v9) (g6LciS0 r4 v10 r36 v14 v15 v9) (frameQ Tryz.prog 0 (FinQ Tryz.prog 0 Tryz.f6 (ab r) [] 0) [.blk 6,.seq (rgt (inn (lft (rgt (inn (inn (rgt (lft (rgt (rgt (rgt (rgt (rgt (rgt (rgt (rgt (bod Tryz.f6))))))))))))))))),.blk 5,.seq (rgt (rgt (inn (inn (rgt (lft (rgt (rgt (rgt (rgt (rgt (rgt (rgt (rgt (bod Tryz.f6))))))))))))))),.loop (inn (inn (rgt (lft (rgt (rgt (rgt (rgt (rgt (rgt (rgt (rgt (bod Tryz.f6))))))))))))),.blk 4,.seq (rgt (rgt (rgt (rgt (rgt (rgt (rgt (rgt (rgt (bod Tryz.f6))))))))))]))∧(∀j,Dl Tryz.prog 0 (inn (inn (rgt (lft (inn (lft (rgt (inn (inn (rgt (lft (rgt (rgt (rgt (rgt (rgt (rgt (rgt (rgt (bod Tryz.f6)))))))))))))))))))) (g6LciE1 j r4 v10 r36 v14 v15 v9) (g6LciS1 r4 v10 r36 v14 v15 v9) (frameQ Tryz.prog 0 (FinQ Tryz.prog 0 Tryz.f6 (ab r) [] 0) [.blk 6,.seq (rgt (inn (lft (rgt (inn (inn (rgt (lft (rgt (rgt (rgt (rgt (rgt (rgt (rgt (rgt (bod Tryz.f6))))))))))))))))),.blk 5,.seq (rgt (rgt (inn (inn (rgt (lft (rgt (rgt (rgt (rgt (rgt (rgt (rgt (rgt (bod Tryz.f6))))))))))))))),.loop (inn (inn (rgt (lft (rgt (rgt (rgt (rgt (rgt (rgt (rgt (rgt (bod Tryz.f6))))))))))))),.blk 4,.seq (rgt (rgt (rgt (rgt (rgt (rgt (rgt (rgt (rgt (bod Tryz.f6))))))))))]))∧(∀j,Dl Tryz.prog 0 (inn (inn (rgt (lft (inn (lft (rgt (inn (inn (rgt (lft (rgt (rgt (rgt (rgt (rgt (rgt (rgt (rgt (bod Tryz.f6)))))))))))))))))))) (g6LciE2 j r4 v10 r36 v14 v15 v9) (g6LciS2 r4 v10 r36 v14 v15 v9) (frameQ Tryz.prog 0 (FinQ Tryz.prog 0 Tryz.f6 (ab r) [] 0) [.blk 6,.seq (rgt (inn (lft (rgt (inn (inn (rgt (lft (rgt (rgt (rgt (rgt (rgt (rgt (rgt (rgt (bod Tryz.f6))))))))))))))))),.blk 5,.seq (rgt (rgt (inn (inn (rgt (lft (rgt (rgt (rgt (rgt (rgt (rgt (rgt (rgt (bod Tryz.f6))))))))))))))),.loop (inn (inn (rgt (lft (rgt (rgt (rgt (rgt (rgt (rgt (rgt (rgt (bod Tryz.f6))))))))))))),.blk 4,.seq (rgt (rgt (rgt (rgt (rgt (rgt (rgt (rgt (rgt (bod Tryz.f6))))))))))]))∧(∀j,Dl Tryz.prog 0 (inn (inn (rgt (lft (inn (lft (rgt (inn (inn (rgt (lft (rgt (rgt (rgt (rgt (rgt (rgt (rgt (rgt (bod Tryz.f6)))))))))))))))))))) (g6LciE3 j r4 v10 r36 v14 v15 v9) (g6LciS3 r4 v10 r36 v14 v15 v9) (frameQ Tryz.prog 0 (FinQ Tryz.prog 0 Tryz.f6 (ab r) [] 0) [.blk 6,.seq (rgt (inn (lft (rgt (inn (inn (rgt (lft (rgt (rgt (rgt (rgt (rgt (rgt (rgt (rgt (bod Tryz.f6))))))))))))))))),.blk 5,.seq (rgt (rgt (inn (inn (rgt (lft (rgt (rgt (rgt (rgt (rgt (rgt (rgt (rgt (bod Tryz.f6))))))))))))))),.loop (inn (inn (rgt (lft (rgt (rgt (rgt (rgt (rgt (rgt (rgt (rgt (bod Tryz.f6))))))))))))),.blk 4,.seq (rgt (rgt (rgt (rgt (rgt (rgt (rgt (rgt (rgt (bod Tryz.f6))))))))))])))∧(∀r4 v10 r36 v14 v16 v9 r,e6Lcj qq r4 v10 r36 v14 v16 v9=some r->(∀j,Dl Tryz.prog 0 (inn (inn (rgt (rgt (inn (lft (rgt (inn (inn (rgt (lft (rgt (rgt (rgt (rgt (rgt (rgt (rgt (rgt (bod Tryz.f6)))))))))))))))))))) (g6LcjE0 j r4 v10 r36 v14 v16 v9) (g6LcjS0 r4 v10 r36 v14 v16 v9) (frameQ Tryz.prog 0 (FinQ Tryz.prog 0 Tryz.f6 (ab r) [] 0) [.blk 8,.blk 5,.seq (rgt (rgt (inn (inn (rgt (lft (rgt (rgt (rgt (rgt (rgt (rgt (rgt (rgt (bod Tryz.f6))))))))))))))),.loop (inn (inn (rgt (lft (rgt (rgt (rgt (rgt (rgt (rgt (rgt (rgt (bod Tryz.f6))))))))))))),.blk 4,.seq (rgt (rgt (rgt (rgt (rgt (rgt (rgt (rgt (rgt (bod Tryz.f6))))))))))]))∧(∀j,Dl Tryz.prog 0 (inn (inn (rgt (rgt (inn (lft (rgt (inn (inn (rgt (lft (rgt (rgt (rgt (rgt (rgt (rgt (rgt (rgt (bod Tryz.f6)))))))))))))))))))) (g6LcjE1 j r4 v10 r36 v14 v16 v9) (g6LcjS1 r4 v10 r36 v14 v16 v9) (frameQ Tryz.prog 0 (FinQ Tryz.prog 0 Tryz.f6 (ab r) [] 0) [.blk 8,.blk 5,.seq (rgt (rgt (inn (inn (rgt (lft (rgt (rgt (rgt (rgt (rgt (rgt (rgt (rgt (bod Tryz.f6))))))))))))))),.loop (inn (inn (rgt (lft (rgt (rgt (rgt (rgt (rgt (rgt (rgt (rgt (bod Tryz.f6))))))))))))),.blk 4,.seq (rgt (rgt (rgt (rgt (rgt (rgt (rgt (rgt (rgt (bod Tryz.f6))))))))))]))∧(∀j,Dl Tryz.prog 0 (inn (inn (rgt (rgt (inn (lft (rgt (inn (inn (rgt (lft (rgt (rgt (rgt (rgt (rgt (rgt (rgt (rgt (bod Tryz.f6)))))))))))))))))))) (g6LcjE2 j r4 v10 r36 v14 v16 v9) (g6LcjS2 r4 v10 r36 v14 v16 v9) (frameQ Tryz.prog 0 (FinQ Tryz.prog 0 Tryz.f6 (ab r) [] 0) [.blk 8,.blk 5,.seq (rgt (rgt (inn (inn (rgt (lft (rgt (rgt (rgt (rgt (rgt (rgt (rgt (rgt (bod Tryz.f6))))))))))))))),.loop (inn (inn (rgt (lft (rgt (rgt (rgt (rgt (rgt (rgt (rgt (rgt (bod Tryz.f6))))))))))))),.blk 4,.seq (rgt (rgt (rgt (rgt (rgt (rgt (rgt (rgt (rgt (bod Tryz.f6))))))))))]))∧(∀j,Dl Tryz.prog 0 (inn (inn (rgt (rgt (inn (lft (rgt (inn (inn (rgt (lft (rgt (rgt (rgt (rgt (rgt (rgt (rgt (rgt (bod Tryz.f6)))))))))))))))))))) (g6LcjE3 j r4 v10 r36 v14 v16 v9) (g6LcjS3 r4 v10 r36 v14 v16 v9) (frameQ Tryz.prog 0 (FinQ Tryz.prog 0 Tryz.f6 (ab r) [] 0) [.blk 8,.blk 5,.seq (rgt (rgt (inn (inn (rgt (lft (rgt (rgt (rgt (rgt (rgt (rgt (rgt (rgt (bod Tryz.f6))))))))))))))),.loop (inn (inn (rgt (lft (rgt (rgt (rgt (rgt (rgt (rgt (rgt (rgt (bod Tryz.f6))))))))))))),.blk 4,.seq (rgt (rgt (rgt (rgt (rgt (rgt (rgt (rgt (rgt (bod Tryz.f6))))))))))]))):=by
 intro qq
 induction qq with
 |zero=>
  exact⟨fun _ _ _ _ _ _ h=>nn h,fun _ _ _ _ _ _ _ h=>nn h,fun _ _ _ _ _ _ _ h=>nn h⟩
 |succ qq ih=>
  obtain⟨ih6Lch,ih6Lci,ih6Lcj⟩:=ih
  refine⟨?_,?_,?_⟩
  intro r4 v10 r36 v14 v9 r h
  rw[e6Lch]at h
  refine⟨?_,?_,?_,?_⟩
  rcases spl h with⟨h38,h⟩|⟨h38,h⟩
  exact fun j=>lH 0 [] [0,1] [0,1] [7,9,10,13,14,15] (oD (dI v10)<|oD (dI v9)<|oD (dR r36.recs)<|oD (dT r36.inds)<|oD (dT r36.args)<|oD (dT r4.1.sub)<|oB 2 h38 o0) ((ih6Lci _ _ _ _ _ _ _ h).1)
  obtain⟨r39,h40,h⟩:=obind h
  obtain⟨r41,h42,h⟩:=obind h
  have k:=oC 1 [] (c30 h40)<|oB 2 h38 o0
  rcases spl h with⟨h43,h⟩|⟨h43,h⟩
  obtain⟨r44,h45,h⟩:=obind h
  obtain⟨r46,h47,h⟩:=obind h
  have k:=oC 1 [] (c30 h45)<|oK 0 [] h43 (c32 h42) k
  rcases spl h with⟨h48,h⟩|⟨h48,h⟩
  obtain⟨r49,h50,h⟩:=obind h
  obtain rfl:=sj h
  exact fun j=>lF 0 [] (oC 0 [] (c28 h50)<|oK 0 [] h48 (c32 h47) k)
  obtain rfl:=sj h
  exact fun j=>lF 0 [] (oK 0 [] h48 (c32 h47) k)
  obtain rfl:=sj h
  exact fun j=>lF 0 [] (oK 0 [] h43 (c32 h42) k)
  rcases spl h with⟨h38,h⟩|⟨h38,h⟩
  exact fun j=>lH 0 [] [0,1] [0] [7,9,10,13,14,15] (oD (dI v10)<|oD (dI v9)<|oD (dR r36.recs)<|oD (dT r36.inds)<|oD (dT r36.args)<|oD (dT r4.1.sub)<|oB 2 h38 o0) ((ih6Lci _ _ _ _ _ _ _ h).2.1)
  obtain⟨r39,h40,h⟩:=obind h
  obtain⟨r41,h42,h⟩:=obind h
  have k:=oC 1 [] (c30 h40)<|oB 2 h38 o0
  rcases spl h with⟨h43,h⟩|⟨h43,h⟩
  obtain⟨r44,h45,h⟩:=obind h
  obtain⟨r46,h47,h⟩:=obind h
  have k:=oC 1 [] (c30 h45)<|oK 0 [] h43 (c32 h42) k
  rcases spl h with⟨h48,h⟩|⟨h48,h⟩
  obtain⟨r49,h50,h⟩:=obind h
  obtain rfl:=sj h
  exact fun j=>lF 0 [] (oC 0 [] (c28 h50)<|oK 0 [] h48 (c32 h47) k)
  obtain rfl:=sj h
  exact fun j=>lF 0 [] (oK 0 [] h48 (c32 h47) k)
  obtain rfl:=sj h
  exact fun j=>lF 0 [] (oK 0 [] h43 (c32 h42) k)
  rcases spl h with⟨h38,h⟩|⟨h38,h⟩
  exact fun j=>lH 0 [] [0,1] [0] [7,9,10,13,14,15] (oD (dI v10)<|oD (dI v9)<|oD (dR r36.recs)<|oD (dT r36.inds)<|oD (dT r36.args)<|oD (dT r4.1.sub)<|oB 2 h38 o0) ((ih6Lci _ _ _ _ _ _ _ h).2.2.1)
  obtain⟨r39,h40,h⟩:=obind h
  obtain⟨r41,h42,h⟩:=obind h
  have k:=oC 1 [] (c30 h40)<|oB 2 h38 o0
  rcases spl h with⟨h43,h⟩|⟨h43,h⟩
  obtain⟨r44,h45,h⟩:=obind h
  obtain⟨r46,h47,h⟩:=obind h
  have k:=oC 1 [] (c30 h45)<|oK 0 [] h43 (c32 h42) k
  rcases spl h with⟨h48,h⟩|⟨h48,h⟩
  obtain⟨r49,h50,h⟩:=obind h
  obtain rfl:=sj h
  exact fun j=>lF 0 [] (oC 0 [] (c28 h50)<|oK 0 [] h48 (c32 h47) k)
  obtain rfl:=sj h
  exact fun j=>lF 0 [] (oK 0 [] h48 (c32 h47) k)
  obtain rfl:=sj h
  exact fun j=>lF 0 [] (oK 0 [] h43 (c32 h42) k)
  rcases spl h with⟨h38,h⟩|⟨h38,h⟩
  exact fun j=>lH 0 [] [0,1] [] [7,9,10,13,14,15] (oD (dI v10)<|oD (dI v9)<|oD (dR r36.recs)<|oD (dT r36.inds)<|oD (dT r36.args)<|oD (dT r4.1.sub)<|oB 2 h38 o0) ((ih6Lci _ _ _ _ _ _ _ h).2.2.2)
  obtain⟨r39,h40,h⟩:=obind h
  obtain⟨r41,h42,h⟩:=obind h
  have k:=oC 1 [] (c30 h40)<|oB 2 h38 o0
  rcases spl h with⟨h43,h⟩|⟨h43,h⟩
  obtain⟨r44,h45,h⟩:=obind h
  obtain⟨r46,h47,h⟩:=obind h
  have k:=oC 1 [] (c30 h45)<|oK 0 [] h43 (c32 h42) k
  rcases spl h with⟨h48,h⟩|⟨h48,h⟩
  obtain⟨r49,h50,h⟩:=obind h
  obtain rfl:=sj h
  exact fun j=>lF 0 [] (oC 0 [] (c28 h50)<|oK 0 [] h48 (c32 h47) k)
  obtain rfl:=sj h
  exact fun j=>lF 0 [] (oK 0 [] h48 (c32 h47) k)
  obtain rfl:=sj h
  exact fun j=>lF 0 [] (oK 0 [] h43 (c32 h42) k)
  intro r4 v10 r36 v14 v15 v9 r h
  rw[e6Lci]at h
  refine⟨?_,?_,?_,?_⟩
  obtain⟨x39,h40,h⟩:=obind h
  have k:=oA 1 (ix55 (o:=.no) h40) o0
  rcases spl h with⟨h41,h⟩|⟨h41,h⟩
  obtain⟨x42,h43,h⟩:=obind h
  obtain⟨r44,h45,h⟩:=obind h
  obtain⟨l46,h47,h⟩:=obind h
  have k:=oC 1 [] (c30 h45)<|oA 1 (ix23 (o:=.no) h43)<|oA 1 (ix55 (o:=.no) h40)<|oB 2 h41 k
  by_cases h48:List.length r44=0
  exact fun j=>lH 1 [] [0,1] [0,1] [7,9,10,13,14,15] (oD (dI v10)<|oD (dI l46)<|oD (dR r36.recs)<|oD (dT r36.inds)<|oD (dT r36.args)<|oD (dT r4.1.sub)<|oP 0 (apN41 h47 h48) k) ((ih6Lci _ _ _ _ _ _ _ h).1)
  exact fun j=>lH 1 [] [0,1] [2,1] [7,9,10,13,14,15] (oD (dI v10)<|oD (dI l46)<|oD (dR r36.recs)<|oD (dT r36.inds)<|oD (dT r36.args)<|oD (dT r4.1.sub)<|oP 0 (apS41 h47 h48) k) ((ih6Lci _ _ _ _ _ _ _ h).1)
  exact fun j=>lH 0 [] [0,1] [0,1] [7,9,10,13,14,16] (oD (dI v10)<|oD (dI v9)<|oD (dR r36.recs)<|oD (dT r36.inds)<|oD (dT r36.args)<|oD (dT r4.1.sub)<|oB 2 h41 k) ((ih6Lcj _ _ _ _ _ _ _ h).1)
  obtain⟨x39,h40,h⟩:=obind h
  have k:=oA 1 (ix55 (o:=.no) h40) o0
  rcases spl h with⟨h41,h⟩|⟨h41,h⟩
  obtain⟨x42,h43,h⟩:=obind h
  obtain⟨r44,h45,h⟩:=obind h
  obtain⟨l46,h47,h⟩:=obind h
  have k:=oC 1 [] (c30 h45)<|oA 1 (ix23 (o:=.no) h43)<|oA 1 (ix55 (o:=.no) h40)<|oB 2 h41 k
  by_cases h48:List.length r44=0
  exact fun j=>lH 1 [] [0,1] [0] [7,9,10,13,14,15] (oD (dI v10)<|oD (dI l46)<|oD (dR r36.recs)<|oD (dT r36.inds)<|oD (dT r36.args)<|oD (dT r4.1.sub)<|oP 0 (apN41 h47 h48) k) ((ih6Lci _ _ _ _ _ _ _ h).2.1)
  exact fun j=>lH 1 [] [0,1] [1,0] [7,9,10,13,14,15] (oD (dI v10)<|oD (dI l46)<|oD (dR r36.recs)<|oD (dT r36.inds)<|oD (dT r36.args)<|oD (dT r4.1.sub)<|oP 0 (apS41 h47 h48) k) ((ih6Lci _ _ _ _ _ _ _ h).1)
  exact fun j=>lH 0 [] [0,1] [0] [7,9,10,13,14,16] (oD (dI v10)<|oD (dI v9)<|oD (dR r36.recs)<|oD (dT r36.inds)<|oD (dT r36.args)<|oD (dT r4.1.sub)<|oB 2 h41 k) ((ih6Lcj _ _ _ _ _ _ _ h).2.1)
  obtain⟨x39,h40,h⟩:=obind h
  have k:=oA 1 (ix55 (o:=.no) h40) o0
  rcases spl h with⟨h41,h⟩|⟨h41,h⟩
  obtain⟨x42,h43,h⟩:=obind h
  obtain⟨r44,h45,h⟩:=obind h
  obtain⟨l46,h47,h⟩:=obind h
  have k:=oC 1 [] (c30 h45)<|oA 1 (ix23 (o:=.no) h43)<|oA 1 (ix55 (o:=.no) h40)<|oB 2 h41 k
  by_cases h48:List.length r44=0
  exact fun j=>lH 1 [] [0,1] [0] [7,9,10,13,14,15] (oD (dI v10)<|oD (dI l46)<|oD (dR r36.recs)<|oD (dT r36.inds)<|oD (dT r36.args)<|oD (dT r4.1.sub)<|oP 0 (apN41 h47 h48) k) ((ih6Lci _ _ _ _ _ _ _ h).2.2.1)
  exact fun j=>lH 1 [] [0,1] [1] [7,9,10,13,14,15] (oD (dI v10)<|oD (dI l46)<|oD (dR r36.recs)<|oD (dT r36.inds)<|oD (dT r36.args)<|oD (dT r4.1.sub)<|oP 0 (apS41 h47 h48) k) ((ih6Lci _ _ _ _ _ _ _ h).2.2.1)
  exact fun j=>lH 0 [] [0,1] [0] [7,9,10,13,14,16] (oD (dI v10)<|oD (dI v9)<|oD (dR r36.recs)<|oD (dT r36.inds)<|oD (dT r36.args)<|oD (dT r4.1.sub)<|oB 2 h41 k) ((ih6Lcj _ _ _ _ _ _ _ h).2.2.1)
  obtain⟨x39,h40,h⟩:=obind h
  have k:=oA 1 (ix55 (o:=.no) h40) o0
  rcases spl h with⟨h41,h⟩|⟨h41,h⟩
  obtain⟨x42,h43,h⟩:=obind h
  obtain⟨r44,h45,h⟩:=obind h
  obtain⟨l46,h47,h⟩:=obind h
  have k:=oC 1 [] (c30 h45)<|oA 1 (ix23 (o:=.no) h43)<|oA 1 (ix55 (o:=.no) h40)<|oB 2 h41 k
  by_cases h48:List.length r44=0
  exact fun j=>lH 1 [] [0,1] [] [7,9,10,13,14,15] (oD (dI v10)<|oD (dI l46)<|oD (dR r36.recs)<|oD (dT r36.inds)<|oD (dT r36.args)<|oD (dT r4.1.sub)<|oP 0 (apN41 h47 h48) k) ((ih6Lci _ _ _ _ _ _ _ h).2.2.2)
  exact fun j=>lH 1 [] [0,1] [0] [7,9,10,13,14,15] (oD (dI v10)<|oD (dI l46)<|oD (dR r36.recs)<|oD (dT r36.inds)<|oD (dT r36.args)<|oD (dT r4.1.sub)<|oP 0 (apS41 h47 h48) k) ((ih6Lci _ _ _ _ _ _ _ h).2.2.1)
  exact fun j=>lH 0 [] [0,1] [] [7,9,10,13,14,16] (oD (dI v10)<|oD (dI v9)<|oD (dR r36.recs)<|oD (dT r36.inds)<|oD (dT r36.args)<|oD (dT r4.1.sub)<|oB 2 h41 k) ((ih6Lcj _ _ _ _ _ _ _ h).2.2.2)
  intro r4 v10 r36 v14 v16 v9 r h
  rw[e6Lcj]at h
  refine⟨?_,?_,?_,?_⟩
  obtain⟨x49,h50,h⟩:=obind h
  have k:=oA 1 (ix55 (o:=.no) h50) o0
  rcases spl h with⟨h51,h⟩|⟨h51,h⟩
  obtain⟨x52,h53,h⟩:=obind h
  obtain⟨r54,h55,h⟩:=obind h
  obtain⟨l56,h57,h⟩:=obind h
  have k:=oC 1 [] (c30 h55)<|oA 1 (ix23 (o:=.no) h53)<|oA 1 (ix55 (o:=.no) h50)<|oB 2 h51 k
  by_cases h58:List.length r54=0
  exact fun j=>lH 1 [] [0,1] [0,1] [7,9,10,13,14,16] (oD (dI v10)<|oD (dI l56)<|oD (dR r36.recs)<|oD (dT r36.inds)<|oD (dT r36.args)<|oD (dT r4.1.sub)<|oP 0 (apN41 h57 h58) k) ((ih6Lcj _ _ _ _ _ _ _ h).1)
  exact fun j=>lH 1 [] [0,1] [2,1] [7,9,10,13,14,16] (oD (dI v10)<|oD (dI l56)<|oD (dR r36.recs)<|oD (dT r36.inds)<|oD (dT r36.args)<|oD (dT r4.1.sub)<|oP 0 (apS41 h57 h58) k) ((ih6Lcj _ _ _ _ _ _ _ h).1)
  exact fun j=>lH 1 [] [0,1] [0,1] [7,9,10,13,14] (oD (dI v10)<|oD (dI v9)<|oD (dR r36.recs)<|oD (dT r36.inds)<|oD (dT r36.args)<|oD (dT r4.1.sub)<|oB 2 h51 k) ((ih6Lch _ _ _ _ _ _ h).1)
  obtain⟨x49,h50,h⟩:=obind h
  have k:=oA 1 (ix55 (o:=.no) h50) o0
  rcases spl h with⟨h51,h⟩|⟨h51,h⟩
  obtain⟨x52,h53,h⟩:=obind h
  obtain⟨r54,h55,h⟩:=obind h
  obtain⟨l56,h57,h⟩:=obind h
  have k:=oC 1 [] (c30 h55)<|oA 1 (ix23 (o:=.no) h53)<|oA 1 (ix55 (o:=.no) h50)<|oB 2 h51 k
  by_cases h58:List.length r54=0
  exact fun j=>lH 1 [] [0,1] [0] [7,9,10,13,14,16] (oD (dI v10)<|oD (dI l56)<|oD (dR r36.recs)<|oD (dT r36.inds)<|oD (dT r36.args)<|oD (dT r4.1.sub)<|oP 0 (apN41 h57 h58) k) ((ih6Lcj _ _ _ _ _ _ _ h).2.1)
  exact fun j=>lH 1 [] [0,1] [1,0] [7,9,10,13,14,16] (oD (dI v10)<|oD (dI l56)<|oD (dR r36.recs)<|oD (dT r36.inds)<|oD (dT r36.args)<|oD (dT r4.1.sub)<|oP 0 (apS41 h57 h58) k) ((ih6Lcj _ _ _ _ _ _ _ h).1)
  exact fun j=>lH 1 [] [0,1] [0] [7,9,10,13,14] (oD (dI v10)<|oD (dI v9)<|oD (dR r36.recs)<|oD (dT r36.inds)<|oD (dT r36.args)<|oD (dT r4.1.sub)<|oB 2 h51 k) ((ih6Lch _ _ _ _ _ _ h).2.1)
  obtain⟨x49,h50,h⟩:=obind h
  have k:=oA 1 (ix55 (o:=.no) h50) o0
  rcases spl h with⟨h51,h⟩|⟨h51,h⟩
  obtain⟨x52,h53,h⟩:=obind h
  obtain⟨r54,h55,h⟩:=obind h
  obtain⟨l56,h57,h⟩:=obind h
  have k:=oC 1 [] (c30 h55)<|oA 1 (ix23 (o:=.no) h53)<|oA 1 (ix55 (o:=.no) h50)<|oB 2 h51 k
  by_cases h58:List.length r54=0
  exact fun j=>lH 1 [] [0,1] [0] [7,9,10,13,14,16] (oD (dI v10)<|oD (dI l56)<|oD (dR r36.recs)<|oD (dT r36.inds)<|oD (dT r36.args)<|oD (dT r4.1.sub)<|oP 0 (apN41 h57 h58) k) ((ih6Lcj _ _ _ _ _ _ _ h).2.2.1)
  exact fun j=>lH 1 [] [0,1] [1] [7,9,10,13,14,16] (oD (dI v10)<|oD (dI l56)<|oD (dR r36.recs)<|oD (dT r36.inds)<|oD (dT r36.args)<|oD (dT r4.1.sub)<|oP 0 (apS41 h57 h58) k) ((ih6Lcj _ _ _ _ _ _ _ h).2.2.1)
  exact fun j=>lH 1 [] [0,1] [0] [7,9,10,13,14] (oD (dI v10)<|oD (dI v9)<|oD (dR r36.recs)<|oD (dT r36.inds)<|oD (dT r36.args)<|oD (dT r4.1.sub)<|oB 2 h51 k) ((ih6Lch _ _ _ _ _ _ h).2.2.1)
  obtain⟨x49,h50,h⟩:=obind h
  have k:=oA 1 (ix55 (o:=.no) h50) o0
  rcases spl h with⟨h51,h⟩|⟨h51,h⟩
  obtain⟨x52,h53,h⟩:=obind h
  obtain⟨r54,h55,h⟩:=obind h
  obtain⟨l56,h57,h⟩:=obind h
  have k:=oC 1 [] (c30 h55)<|oA 1 (ix23 (o:=.no) h53)<|oA 1 (ix55 (o:=.no) h50)<|oB 2 h51 k
  by_cases h58:List.length r54=0
  exact fun j=>lH 1 [] [0,1] [] [7,9,10,13,14,16] (oD (dI v10)<|oD (dI l56)<|oD (dR r36.recs)<|oD (dT r36.inds)<|oD (dT r36.args)<|oD (dT r4.1.sub)<|oP 0 (apN41 h57 h58) k) ((ih6Lcj _ _ _ _ _ _ _ h).2.2.2)
  exact fun j=>lH 1 [] [0,1] [0] [7,9,10,13,14,16] (oD (dI v10)<|oD (dI l56)<|oD (dR r36.recs)<|oD (dT r36.inds)<|oD (dT r36.args)<|oD (dT r4.1.sub)<|oP 0 (apS41 h57 h58) k) ((ih6Lcj _ _ _ _ _ _ _ h).2.2.1)
  exact fun j=>lH 1 [] [0,1] [] [7,9,10,13,14] (oD (dI v10)<|oD (dI v9)<|oD (dR r36.recs)<|oD (dT r36.inds)<|oD (dT r36.args)<|oD (dT r4.1.sub)<|oB 2 h51 k) ((ih6Lch _ _ _ _ _ _ h).2.2.2)
theorem l6Lck(qq p0 p1 p2 r4 v10 v9 r)(h:e6Lck qq p0 p1 p2 r4 v10 v9=some r):(∀j,Dl Tryz.prog 0 (inn (inn (rgt (lft (rgt (rgt (rgt (rgt (rgt (rgt (bod Tryz.f6))))))))))) (g6LckE0 j p0 p1 p2 r4 v10 v9) (g6LckS0 p0 p1 p2 r4 v10 v9) (frameQ Tryz.prog 0 (FinQ Tryz.prog 0 Tryz.f6 (ab r) [] 0) [.blk 0,.seq (rgt (rgt (rgt (rgt (rgt (rgt (rgt (bod Tryz.f6))))))))]))∧(∀j,Dl Tryz.prog 0 (inn (inn (rgt (lft (rgt (rgt (rgt (rgt (rgt (rgt (bod Tryz.f6))))))))))) (g6LckE1 j p0 p1 p2 r4 v10 v9) (g6LckS1 p0 p1 p2 r4 v10 v9) (frameQ Tryz.prog 0 (FinQ Tryz.prog 0 Tryz.f6 (ab r) [] 0) [.blk 0,.seq (rgt (rgt (rgt (rgt (rgt (rgt (rgt (bod Tryz.f6))))))))]))∧(∀j,Dl Tryz.prog 0 (inn (inn (rgt (lft (rgt (rgt (rgt (rgt (rgt (rgt (bod Tryz.f6))))))))))) (g6LckE2 j p0 p1 p2 r4 v10 v9) (g6LckS2 p0 p1 p2 r4 v10 v9) (frameQ Tryz.prog 0 (FinQ Tryz.prog 0 Tryz.f6 (ab r) [] 0) [.blk 0,.seq (rgt (rgt (rgt (rgt (rgt (rgt (rgt (bod Tryz.f6))))))))]))∧(∀j,Dl Tryz.prog 0 (inn (inn (rgt (lft (rgt (rgt (rgt (rgt (rgt (rgt (bod Tryz.f6))))))))))) (g6LckE3 j p0 p1 p2 r4 v10 v9) (g6LckS3 p0 p1 p2 r4 v10 v9) (frameQ Tryz.prog 0 (FinQ Tryz.prog 0 Tryz.f6 (ab r) [] 0) [.blk 0,.seq (rgt (rgt (rgt (rgt (rgt (rgt (rgt (bod Tryz.f6))))))))])):=by
 unfold e6Lck at h
 refine⟨?_,?_,?_,?_⟩
 obtain⟨r36,h37,h⟩:=obind h
 exact fun j=>lH 1 [] [2,3] [0,1] [7,9,10,13,14] (oD (dI v10)<|oD (dI v9)<|oD (dR r36.recs)<|oD (dT r36.inds)<|oD (dT r36.args)<|oD (dT r4.1.sub)<|oC 2 [] (c31 h37) o0) ((((a6Lch_6Lci_6Lcj _).1) _ _ _ _ _ _ h).1)
 obtain⟨r36,h37,h⟩:=obind h
 exact fun j=>lH 1 [] [2,3] [0] [7,9,10,13,14] (oD (dI v10)<|oD (dI v9)<|oD (dR r36.recs)<|oD (dT r36.inds)<|oD (dT r36.args)<|oD (dT r4.1.sub)<|oC 2 [] (c31 h37) o0) ((((a6Lch_6Lci_6Lcj _).1) _ _ _ _ _ _ h).2.1)
 obtain⟨r36,h37,h⟩:=obind h
 exact fun j=>lH 1 [] [2,3] [0] [7,9,10,13,14] (oD (dI v10)<|oD (dI v9)<|oD (dR r36.recs)<|oD (dT r36.inds)<|oD (dT r36.args)<|oD (dT r4.1.sub)<|oC 2 [] (c31 h37) o0) ((((a6Lch_6Lci_6Lcj _).1) _ _ _ _ _ _ h).2.2.1)
 obtain⟨r36,h37,h⟩:=obind h
 exact fun j=>lH 1 [] [2,3] [] [7,9,10,13,14] (oD (dI v10)<|oD (dI v9)<|oD (dR r36.recs)<|oD (dT r36.inds)<|oD (dT r36.args)<|oD (dT r4.1.sub)<|oC 2 [] (c31 h37) o0) ((((a6Lch_6Lci_6Lcj _).1) _ _ _ _ _ _ h).2.2.2)
theorem l6Lcl:∀qq:Nat,(∀p0 p1 p2 r4 v10 v12 v9 r,e6Lcl qq p0 p1 p2 r4 v10 v12 v9=some r->(∀j,Dl Tryz.prog 0 (inn (inn (rgt (inn (lft (rgt (inn (inn (rgt (lft (rgt (rgt (rgt (rgt (rgt (rgt (bod Tryz.f6))))))))))))))))) (g6LclE0 j p0 p1 p2 r4 v10 v12 v9) (g6LclS0 p0 p1 p2 r4 v10 v12 v9) (frameQ Tryz.prog 0 (FinQ Tryz.prog 0 Tryz.f6 (ab r) [] 0) [.blk 2,.blk 1,.seq (rgt (rgt (inn (inn (rgt (lft (rgt (rgt (rgt (rgt (rgt (rgt (bod Tryz.f6))))))))))))),.loop (inn (inn (rgt (lft (rgt (rgt (rgt (rgt (rgt (rgt (bod Tryz.f6))))))))))),.blk 0,.seq (rgt (rgt (rgt (rgt (rgt (rgt (rgt (bod Tryz.f6))))))))]))∧(∀j,Dl Tryz.prog 0 (inn (inn (rgt (inn (lft (rgt (inn (inn (rgt (lft (rgt (rgt (rgt (rgt (rgt (rgt (bod Tryz.f6))))))))))))))))) (g6LclE1 j p0 p1 p2 r4 v10 v12 v9) (g6LclS1 p0 p1 p2 r4 v10 v12 v9) (frameQ Tryz.prog 0 (FinQ Tryz.prog 0 Tryz.f6 (ab r) [] 0) [.blk 2,.blk 1,.seq (rgt (rgt (inn (inn (rgt (lft (rgt (rgt (rgt (rgt (rgt (rgt (bod Tryz.f6))))))))))))),.loop (inn (inn (rgt (lft (rgt (rgt (rgt (rgt (rgt (rgt (bod Tryz.f6))))))))))),.blk 0,.seq (rgt (rgt (rgt (rgt (rgt (rgt (rgt (bod Tryz.f6))))))))]))∧(∀j,Dl Tryz.prog 0 (inn (inn (rgt (inn (lft (rgt (inn (inn (rgt (lft (rgt (rgt (rgt (rgt (rgt (rgt (bod Tryz.f6))))))))))))))))) (g6LclE2 j p0 p1 p2 r4 v10 v12 v9) (g6LclS2 p0 p1 p2 r4 v10 v12 v9) (frameQ Tryz.prog 0 (FinQ Tryz.prog 0 Tryz.f6 (ab r) [] 0) [.blk 2,.blk 1,.seq (rgt (rgt (inn (inn (rgt (lft (rgt (rgt (rgt (rgt (rgt (rgt (bod Tryz.f6))))))))))))),.loop (inn (inn (rgt (lft (rgt (rgt (rgt (rgt (rgt (rgt (bod Tryz.f6))))))))))),.blk 0,.seq (rgt (rgt (rgt (rgt (rgt (rgt (rgt (bod Tryz.f6))))))))]))∧(∀j,Dl Tryz.prog 0 (inn (inn (rgt (inn (lft (rgt (inn (inn (rgt (lft (rgt (rgt (rgt (rgt (rgt (rgt (bod Tryz.f6))))))))))))))))) (g6LclE3 j p0 p1 p2 r4 v10 v12 v9) (g6LclS3 p0 p1 p2 r4 v10 v12 v9) (frameQ Tryz.prog 0 (FinQ Tryz.prog 0 Tryz.f6 (ab r) [] 0) [.blk 2,.blk 1,.seq (rgt (rgt (inn (inn (rgt (lft (rgt (rgt (rgt (rgt (rgt (rgt (bod Tryz.f6))))))))))))),.loop (inn (inn (rgt (lft (rgt (rgt (rgt (rgt (rgt (rgt (bod Tryz.f6))))))))))),.blk 0,.seq (rgt (rgt (rgt (rgt (rgt (rgt (rgt (bod Tryz.f6))))))))]))):=by
 intro qq
 induction qq with
 |zero=>
  exact fun _ _ _ _ _ _ _ _ h=>nn h
 |succ qq ih=>
  intro p0 p1 p2 r4 v10 v12 v9 r h
  rw[e6Lcl]at h
  refine⟨?_,?_,?_,?_⟩
  rcases spl h with⟨h23,h⟩|⟨h23,h⟩
  obtain⟨x24,h25,h⟩:=obind h
  obtain⟨r26,h27,h⟩:=obind h
  obtain⟨l28,h29,h⟩:=obind h
  have k:=oC 1 [] (c30 h27)<|oA 2 (ix23 (o:=.no) h25)<|oB 3 h23 o0
  by_cases h30:List.length r26=0
  obtain⟨r31,h32,h⟩:=obind h
  obtain⟨l33,h34,h⟩:=obind h
  have k:=oC 1 [] (c30 h32)<|oA 2 (ix23 (o:=.no) h25)<|oP 0 (apN41 h29 h30) k
  by_cases h35:List.length r31=0
  exact fun j=>lH 1 [] [0,1,2] [0,1] [0,4,5,7,9,10,11,12] (oD (dI l33)<|oD (dI l28)<|oD (dE p0)<|oD (dT r4.1.sub)<|oD (dT p2.b)<|oD (dT p2.a)<|oP 0 (apN41 h34 h35) k) ((ih _ _ _ _ _ _ _ _ h).1)
  exact fun j=>lH 1 [] [0,1,2] [0,2] [0,4,5,7,9,10,11,12] (oD (dI l33)<|oD (dI l28)<|oD (dE p0)<|oD (dT r4.1.sub)<|oD (dT p2.b)<|oD (dT p2.a)<|oP 0 (apS41 h34 h35) k) ((ih _ _ _ _ _ _ _ _ h).1)
  obtain⟨r31,h32,h⟩:=obind h
  obtain⟨l33,h34,h⟩:=obind h
  have k:=oC 1 [] (c30 h32)<|oA 2 (ix23 (o:=.no) h25)<|oP 0 (apS41 h29 h30) k
  by_cases h35:List.length r31=0
  exact fun j=>lH 1 [] [0,1,2] [2,1] [0,4,5,7,9,10,11,12] (oD (dI l33)<|oD (dI l28)<|oD (dE p0)<|oD (dT r4.1.sub)<|oD (dT p2.b)<|oD (dT p2.a)<|oP 0 (apN41 h34 h35) k) ((ih _ _ _ _ _ _ _ _ h).1)
  exact fun j=>lH 1 [] [0,1,2] [2,3] [0,4,5,7,9,10,11,12] (oD (dI l33)<|oD (dI l28)<|oD (dE p0)<|oD (dT r4.1.sub)<|oD (dT p2.b)<|oD (dT p2.a)<|oP 0 (apS41 h34 h35) k) ((ih _ _ _ _ _ _ _ _ h).1)
  exact fun j=>lH 1 [] [0,1,2] [0,1] [0,4,5,7,9,10,11] (oD (dI v10)<|oD (dI v9)<|oD (dE p0)<|oD (dT r4.1.sub)<|oD (dT p2.b)<|oD (dT p2.a)<|oB 3 h23 o0) ((l6Lck qq _ _ _ _ _ _ _ h).1)
  rcases spl h with⟨h23,h⟩|⟨h23,h⟩
  obtain⟨x24,h25,h⟩:=obind h
  obtain⟨r26,h27,h⟩:=obind h
  obtain⟨l28,h29,h⟩:=obind h
  have k:=oC 1 [] (c30 h27)<|oA 2 (ix23 (o:=.no) h25)<|oB 3 h23 o0
  by_cases h30:List.length r26=0
  obtain⟨r31,h32,h⟩:=obind h
  obtain⟨l33,h34,h⟩:=obind h
  have k:=oC 1 [] (c30 h32)<|oA 2 (ix23 (o:=.no) h25)<|oP 0 (apN41 h29 h30) k
  by_cases h35:List.length r31=0
  exact fun j=>lH 1 [] [0,1,2] [0] [0,4,5,7,9,10,11,12] (oD (dI l33)<|oD (dI l28)<|oD (dE p0)<|oD (dT r4.1.sub)<|oD (dT p2.b)<|oD (dT p2.a)<|oP 0 (apN41 h34 h35) k) ((ih _ _ _ _ _ _ _ _ h).2.1)
  exact fun j=>lH 1 [] [0,1,2] [1] [0,4,5,7,9,10,11,12] (oD (dI l33)<|oD (dI l28)<|oD (dE p0)<|oD (dT r4.1.sub)<|oD (dT p2.b)<|oD (dT p2.a)<|oP 0 (apS41 h34 h35) k) ((ih _ _ _ _ _ _ _ _ h).2.1)
  obtain⟨r31,h32,h⟩:=obind h
  obtain⟨l33,h34,h⟩:=obind h
  have k:=oC 1 [] (c30 h32)<|oA 2 (ix23 (o:=.no) h25)<|oP 0 (apS41 h29 h30) k
  by_cases h35:List.length r31=0
  exact fun j=>lH 1 [] [0,1,2] [1,0] [0,4,5,7,9,10,11,12] (oD (dI l33)<|oD (dI l28)<|oD (dE p0)<|oD (dT r4.1.sub)<|oD (dT p2.b)<|oD (dT p2.a)<|oP 0 (apN41 h34 h35) k) ((ih _ _ _ _ _ _ _ _ h).1)
  exact fun j=>lH 1 [] [0,1,2] [1,2] [0,4,5,7,9,10,11,12] (oD (dI l33)<|oD (dI l28)<|oD (dE p0)<|oD (dT r4.1.sub)<|oD (dT p2.b)<|oD (dT p2.a)<|oP 0 (apS41 h34 h35) k) ((ih _ _ _ _ _ _ _ _ h).1)
  exact fun j=>lH 1 [] [0,1,2] [0] [0,4,5,7,9,10,11] (oD (dI v10)<|oD (dI v9)<|oD (dE p0)<|oD (dT r4.1.sub)<|oD (dT p2.b)<|oD (dT p2.a)<|oB 3 h23 o0) ((l6Lck qq _ _ _ _ _ _ _ h).2.1)
  rcases spl h with⟨h23,h⟩|⟨h23,h⟩
  obtain⟨x24,h25,h⟩:=obind h
  obtain⟨r26,h27,h⟩:=obind h
  obtain⟨l28,h29,h⟩:=obind h
  have k:=oC 1 [] (c30 h27)<|oA 2 (ix23 (o:=.no) h25)<|oB 3 h23 o0
  by_cases h30:List.length r26=0
  obtain⟨r31,h32,h⟩:=obind h
  obtain⟨l33,h34,h⟩:=obind h
  have k:=oC 1 [] (c30 h32)<|oA 2 (ix23 (o:=.no) h25)<|oP 0 (apN41 h29 h30) k
  by_cases h35:List.length r31=0
  exact fun j=>lH 1 [] [0,1,2] [0] [0,4,5,7,9,10,11,12] (oD (dI l33)<|oD (dI l28)<|oD (dE p0)<|oD (dT r4.1.sub)<|oD (dT p2.b)<|oD (dT p2.a)<|oP 0 (apN41 h34 h35) k) ((ih _ _ _ _ _ _ _ _ h).2.2.1)
  exact fun j=>lH 1 [] [0,1,2] [0,1] [0,4,5,7,9,10,11,12] (oD (dI l33)<|oD (dI l28)<|oD (dE p0)<|oD (dT r4.1.sub)<|oD (dT p2.b)<|oD (dT p2.a)<|oP 0 (apS41 h34 h35) k) ((ih _ _ _ _ _ _ _ _ h).1)
  obtain⟨r31,h32,h⟩:=obind h
  obtain⟨l33,h34,h⟩:=obind h
  have k:=oC 1 [] (c30 h32)<|oA 2 (ix23 (o:=.no) h25)<|oP 0 (apS41 h29 h30) k
  by_cases h35:List.length r31=0
  exact fun j=>lH 1 [] [0,1,2] [1] [0,4,5,7,9,10,11,12] (oD (dI l33)<|oD (dI l28)<|oD (dE p0)<|oD (dT r4.1.sub)<|oD (dT p2.b)<|oD (dT p2.a)<|oP 0 (apN41 h34 h35) k) ((ih _ _ _ _ _ _ _ _ h).2.2.1)
  exact fun j=>lH 1 [] [0,1,2] [1,2] [0,4,5,7,9,10,11,12] (oD (dI l33)<|oD (dI l28)<|oD (dE p0)<|oD (dT r4.1.sub)<|oD (dT p2.b)<|oD (dT p2.a)<|oP 0 (apS41 h34 h35) k) ((ih _ _ _ _ _ _ _ _ h).1)
  exact fun j=>lH 1 [] [0,1,2] [0] [0,4,5,7,9,10,11] (oD (dI v10)<|oD (dI v9)<|oD (dE p0)<|oD (dT r4.1.sub)<|oD (dT p2.b)<|oD (dT p2.a)<|oB 3 h23 o0) ((l6Lck qq _ _ _ _ _ _ _ h).2.2.1)
  rcases spl h with⟨h23,h⟩|⟨h23,h⟩
  obtain⟨x24,h25,h⟩:=obind h
  obtain⟨r26,h27,h⟩:=obind h
  obtain⟨l28,h29,h⟩:=obind h
  have k:=oC 1 [] (c30 h27)<|oA 2 (ix23 (o:=.no) h25)<|oB 3 h23 o0
  by_cases h30:List.length r26=0
  obtain⟨r31,h32,h⟩:=obind h
  obtain⟨l33,h34,h⟩:=obind h
  have k:=oC 1 [] (c30 h32)<|oA 2 (ix23 (o:=.no) h25)<|oP 0 (apN41 h29 h30) k
  by_cases h35:List.length r31=0
  exact fun j=>lH 1 [] [0,1,2] [] [0,4,5,7,9,10,11,12] (oD (dI l33)<|oD (dI l28)<|oD (dE p0)<|oD (dT r4.1.sub)<|oD (dT p2.b)<|oD (dT p2.a)<|oP 0 (apN41 h34 h35) k) ((ih _ _ _ _ _ _ _ _ h).2.2.2)
  exact fun j=>lH 1 [] [0,1,2] [0] [0,4,5,7,9,10,11,12] (oD (dI l33)<|oD (dI l28)<|oD (dE p0)<|oD (dT r4.1.sub)<|oD (dT p2.b)<|oD (dT p2.a)<|oP 0 (apS41 h34 h35) k) ((ih _ _ _ _ _ _ _ _ h).2.1)
  obtain⟨r31,h32,h⟩:=obind h
  obtain⟨l33,h34,h⟩:=obind h
  have k:=oC 1 [] (c30 h32)<|oA 2 (ix23 (o:=.no) h25)<|oP 0 (apS41 h29 h30) k
  by_cases h35:List.length r31=0
  exact fun j=>lH 1 [] [0,1,2] [0] [0,4,5,7,9,10,11,12] (oD (dI l33)<|oD (dI l28)<|oD (dE p0)<|oD (dT r4.1.sub)<|oD (dT p2.b)<|oD (dT p2.a)<|oP 0 (apN41 h34 h35) k) ((ih _ _ _ _ _ _ _ _ h).2.2.1)
  exact fun j=>lH 1 [] [0,1,2] [0,1] [0,4,5,7,9,10,11,12] (oD (dI l33)<|oD (dI l28)<|oD (dE p0)<|oD (dT r4.1.sub)<|oD (dT p2.b)<|oD (dT p2.a)<|oP 0 (apS41 h34 h35) k) ((ih _ _ _ _ _ _ _ _ h).1)
  exact fun j=>lH 1 [] [0,1,2] [] [0,4,5,7,9,10,11] (oD (dI v10)<|oD (dI v9)<|oD (dE p0)<|oD (dT r4.1.sub)<|oD (dT p2.b)<|oD (dT p2.a)<|oB 3 h23 o0) ((l6Lck qq _ _ _ _ _ _ _ h).2.2.2)
theorem l6Lcm(qq p0 p1 p2 r4 v10 v9 r)(h:e6Lcm qq p0 p1 p2 r4 v10 v9=some r):(∀j,Dl Tryz.prog 0 (inn (inn (rgt (lft (rgt (rgt (rgt (rgt (rgt (rgt (bod Tryz.f6))))))))))) (g6LcmE0 j p0 p1 p2 r4 v10 v9) (g6LcmS0 p0 p1 p2 r4 v10 v9) (frameQ Tryz.prog 0 (FinQ Tryz.prog 0 Tryz.f6 (ab r) [] 0) [.blk 0,.seq (rgt (rgt (rgt (rgt (rgt (rgt (rgt (bod Tryz.f6))))))))]))∧(∀j,Dl Tryz.prog 0 (inn (inn (rgt (lft (rgt (rgt (rgt (rgt (rgt (rgt (bod Tryz.f6))))))))))) (g6LcmE1 j p0 p1 p2 r4 v10 v9) (g6LcmS1 p0 p1 p2 r4 v10 v9) (frameQ Tryz.prog 0 (FinQ Tryz.prog 0 Tryz.f6 (ab r) [] 0) [.blk 0,.seq (rgt (rgt (rgt (rgt (rgt (rgt (rgt (bod Tryz.f6))))))))]))∧(∀j,Dl Tryz.prog 0 (inn (inn (rgt (lft (rgt (rgt (rgt (rgt (rgt (rgt (bod Tryz.f6))))))))))) (g6LcmE2 j p0 p1 p2 r4 v10 v9) (g6LcmS2 p0 p1 p2 r4 v10 v9) (frameQ Tryz.prog 0 (FinQ Tryz.prog 0 Tryz.f6 (ab r) [] 0) [.blk 0,.seq (rgt (rgt (rgt (rgt (rgt (rgt (rgt (bod Tryz.f6))))))))]))∧(∀j,Dl Tryz.prog 0 (inn (inn (rgt (lft (rgt (rgt (rgt (rgt (rgt (rgt (bod Tryz.f6))))))))))) (g6LcmE3 j p0 p1 p2 r4 v10 v9) (g6LcmS3 p0 p1 p2 r4 v10 v9) (frameQ Tryz.prog 0 (FinQ Tryz.prog 0 Tryz.f6 (ab r) [] 0) [.blk 0,.seq (rgt (rgt (rgt (rgt (rgt (rgt (rgt (bod Tryz.f6))))))))])):=by
 unfold e6Lcm at h
 refine⟨?_,?_,?_,?_⟩
 exact fun j=>lH 1 [] [0,1,2] [0,1] [0,4,5,7,9,10,11,12] (oD (dI v10)<|oD (dI v9)<|oD (dE p0)<|oD (dT r4.1.sub)<|oD (dT p2.b)<|oD (dT p2.a) o0) ((l6Lcl _ _ _ _ _ _ _ _ _ h).1)
 exact fun j=>lH 1 [] [0,1,2] [0] [0,4,5,7,9,10,11,12] (oD (dI v10)<|oD (dI v9)<|oD (dE p0)<|oD (dT r4.1.sub)<|oD (dT p2.b)<|oD (dT p2.a) o0) ((l6Lcl _ _ _ _ _ _ _ _ _ h).2.1)
 exact fun j=>lH 1 [] [0,1,2] [0] [0,4,5,7,9,10,11,12] (oD (dI v10)<|oD (dI v9)<|oD (dE p0)<|oD (dT r4.1.sub)<|oD (dT p2.b)<|oD (dT p2.a) o0) ((l6Lcl _ _ _ _ _ _ _ _ _ h).2.2.1)
 exact fun j=>lH 1 [] [0,1,2] [] [0,4,5,7,9,10,11,12] (oD (dI v10)<|oD (dI v9)<|oD (dE p0)<|oD (dT r4.1.sub)<|oD (dT p2.b)<|oD (dT p2.a) o0) ((l6Lcl _ _ _ _ _ _ _ _ _ h).2.2.2)
theorem l6Lcn:∀qq:Nat,(∀p0 p1 p2 r4 v10 v12 v9 r,e6Lcn qq p0 p1 p2 r4 v10 v12 v9=some r->(∀j,Dl Tryz.prog 0 (inn (inn (rgt (inn (lft (rgt (inn (inn (rgt (lft (rgt (rgt (rgt (rgt (rgt (rgt (bod Tryz.f6))))))))))))))))) (g6LcnE0 j p0 p1 p2 r4 v10 v12 v9) (g6LcnS0 p0 p1 p2 r4 v10 v12 v9) (frameQ Tryz.prog 0 (FinQ Tryz.prog 0 Tryz.f6 (ab r) [] 0) [.blk 2,.blk 1,.seq (rgt (rgt (inn (inn (rgt (lft (rgt (rgt (rgt (rgt (rgt (rgt (bod Tryz.f6))))))))))))),.loop (inn (inn (rgt (lft (rgt (rgt (rgt (rgt (rgt (rgt (bod Tryz.f6))))))))))),.blk 0,.seq (rgt (rgt (rgt (rgt (rgt (rgt (rgt (bod Tryz.f6))))))))]))∧(∀j,Dl Tryz.prog 0 (inn (inn (rgt (inn (lft (rgt (inn (inn (rgt (lft (rgt (rgt (rgt (rgt (rgt (rgt (bod Tryz.f6))))))))))))))))) (g6LcnE1 j p0 p1 p2 r4 v10 v12 v9) (g6LcnS1 p0 p1 p2 r4 v10 v12 v9) (frameQ Tryz.prog 0 (FinQ Tryz.prog 0 Tryz.f6 (ab r) [] 0) [.blk 2,.blk 1,.seq (rgt (rgt (inn (inn (rgt (lft (rgt (rgt (rgt (rgt (rgt (rgt (bod Tryz.f6))))))))))))),.loop (inn (inn (rgt (lft (rgt (rgt (rgt (rgt (rgt (rgt (bod Tryz.f6))))))))))),.blk 0,.seq (rgt (rgt (rgt (rgt (rgt (rgt (rgt (bod Tryz.f6))))))))]))∧(∀j,Dl Tryz.prog 0 (inn (inn (rgt (inn (lft (rgt (inn (inn (rgt (lft (rgt (rgt (rgt (rgt (rgt (rgt (bod Tryz.f6))))))))))))))))) (g6LcnE2 j p0 p1 p2 r4 v10 v12 v9) (g6LcnS2 p0 p1 p2 r4 v10 v12 v9) (frameQ Tryz.prog 0 (FinQ Tryz.prog 0 Tryz.f6 (ab r) [] 0) [.blk 2,.blk 1,.seq (rgt (rgt (inn (inn (rgt (lft (rgt (rgt (rgt (rgt (rgt (rgt (bod Tryz.f6))))))))))))),.loop (inn (inn (rgt (lft (rgt (rgt (rgt (rgt (rgt (rgt (bod Tryz.f6))))))))))),.blk 0,.seq (rgt (rgt (rgt (rgt (rgt (rgt (rgt (bod Tryz.f6))))))))]))∧(∀j,Dl Tryz.prog 0 (inn (inn (rgt (inn (lft (rgt (inn (inn (rgt (lft (rgt (rgt (rgt (rgt (rgt (rgt (bod Tryz.f6))))))))))))))))) (g6LcnE3 j p0 p1 p2 r4 v10 v12 v9) (g6LcnS3 p0 p1 p2 r4 v10 v12 v9) (frameQ Tryz.prog 0 (FinQ Tryz.prog 0 Tryz.f6 (ab r) [] 0) [.blk 2,.blk 1,.seq (rgt (rgt (inn (inn (rgt (lft (rgt (rgt (rgt (rgt (rgt (rgt (bod Tryz.f6))))))))))))),.loop (inn (inn (rgt (lft (rgt (rgt (rgt (rgt (rgt (rgt (bod Tryz.f6))))))))))),.blk 0,.seq (rgt (rgt (rgt (rgt (rgt (rgt (rgt (bod Tryz.f6))))))))]))):=by
 intro qq
 induction qq with
 |zero=>
  exact fun _ _ _ _ _ _ _ _ h=>nn h
 |succ qq ih=>
  intro p0 p1 p2 r4 v10 v12 v9 r h
  rw[e6Lcn]at h
  refine⟨?_,?_,?_,?_⟩
  rcases spl h with⟨h10,h⟩|⟨h10,h⟩
  obtain⟨x11,h12,h⟩:=obind h
  obtain⟨r13,h14,h⟩:=obind h
  obtain⟨l15,h16,h⟩:=obind h
  have k:=oC 1 [] (c30 h14)<|oA 2 (ix23 (o:=.no) h12)<|oB 3 h10 o0
  by_cases h17:List.length r13=0
  obtain⟨r18,h19,h⟩:=obind h
  obtain⟨l20,h21,h⟩:=obind h
  have k:=oC 1 [] (c30 h19)<|oA 2 (ix23 (o:=.no) h12)<|oP 0 (apN41 h16 h17) k
  by_cases h22:List.length r18=0
  exact fun j=>lH 1 [] [0,1,2] [] [0,4,5,7,9,10,11,12] (oD (dI l20)<|oD (dI l15)<|oD (dE p0)<|oD (dT r4.1.sub)<|oD (dT p2.b)<|oD (dT p2.a)<|oP 0 (apN41 h21 h22) k) ((ih _ _ _ _ _ _ _ _ h).1)
  exact fun j=>lH 1 [] [0,1,2] [0] [0,4,5,7,9,10,11,12] (oD (dI l20)<|oD (dI l15)<|oD (dE p0)<|oD (dT r4.1.sub)<|oD (dT p2.b)<|oD (dT p2.a)<|oP 0 (apS41 h21 h22) k) ((ih _ _ _ _ _ _ _ _ h).2.1)
  obtain⟨r18,h19,h⟩:=obind h
  obtain⟨l20,h21,h⟩:=obind h
  have k:=oC 1 [] (c30 h19)<|oA 2 (ix23 (o:=.no) h12)<|oP 0 (apS41 h16 h17) k
  by_cases h22:List.length r18=0
  exact fun j=>lH 1 [] [0,1,2] [0] [0,4,5,7,9,10,11,12] (oD (dI l20)<|oD (dI l15)<|oD (dE p0)<|oD (dT r4.1.sub)<|oD (dT p2.b)<|oD (dT p2.a)<|oP 0 (apN41 h21 h22) k) ((ih _ _ _ _ _ _ _ _ h).2.2.2)
  exact fun j=>lH 1 [] [0,1,2] [0,1] [0,4,5,7,9,10,11,12] (oD (dI l20)<|oD (dI l15)<|oD (dE p0)<|oD (dT r4.1.sub)<|oD (dT p2.b)<|oD (dT p2.a)<|oP 0 (apS41 h21 h22) k) ((ih _ _ _ _ _ _ _ _ h).2.2.1)
  exact fun j=>lH 1 [] [0,1,2] [] [0,4,5,7,9,10,11] (oD (dI v10)<|oD (dI v9)<|oD (dE p0)<|oD (dT r4.1.sub)<|oD (dT p2.b)<|oD (dT p2.a)<|oB 3 h10 o0) ((l6Lcm qq _ _ _ _ _ _ _ h).2.2.2)
  rcases spl h with⟨h10,h⟩|⟨h10,h⟩
  obtain⟨x11,h12,h⟩:=obind h
  obtain⟨r13,h14,h⟩:=obind h
  obtain⟨l15,h16,h⟩:=obind h
  have k:=oC 1 [] (c30 h14)<|oA 2 (ix23 (o:=.no) h12)<|oB 3 h10 o0
  by_cases h17:List.length r13=0
  obtain⟨r18,h19,h⟩:=obind h
  obtain⟨l20,h21,h⟩:=obind h
  have k:=oC 1 [] (c30 h19)<|oA 2 (ix23 (o:=.no) h12)<|oP 0 (apN41 h16 h17) k
  by_cases h22:List.length r18=0
  exact fun j=>lH 1 [] [0,1,2] [0] [0,4,5,7,9,10,11,12] (oD (dI l20)<|oD (dI l15)<|oD (dE p0)<|oD (dT r4.1.sub)<|oD (dT p2.b)<|oD (dT p2.a)<|oP 0 (apN41 h21 h22) k) ((ih _ _ _ _ _ _ _ _ h).2.1)
  exact fun j=>lH 1 [] [0,1,2] [1] [0,4,5,7,9,10,11,12] (oD (dI l20)<|oD (dI l15)<|oD (dE p0)<|oD (dT r4.1.sub)<|oD (dT p2.b)<|oD (dT p2.a)<|oP 0 (apS41 h21 h22) k) ((ih _ _ _ _ _ _ _ _ h).2.1)
  obtain⟨r18,h19,h⟩:=obind h
  obtain⟨l20,h21,h⟩:=obind h
  have k:=oC 1 [] (c30 h19)<|oA 2 (ix23 (o:=.no) h12)<|oP 0 (apS41 h16 h17) k
  by_cases h22:List.length r18=0
  exact fun j=>lH 1 [] [0,1,2] [1,0] [0,4,5,7,9,10,11,12] (oD (dI l20)<|oD (dI l15)<|oD (dE p0)<|oD (dT r4.1.sub)<|oD (dT p2.b)<|oD (dT p2.a)<|oP 0 (apN41 h21 h22) k) ((ih _ _ _ _ _ _ _ _ h).2.2.1)
  exact fun j=>lH 1 [] [0,1,2] [1,2] [0,4,5,7,9,10,11,12] (oD (dI l20)<|oD (dI l15)<|oD (dE p0)<|oD (dT r4.1.sub)<|oD (dT p2.b)<|oD (dT p2.a)<|oP 0 (apS41 h21 h22) k) ((ih _ _ _ _ _ _ _ _ h).2.2.1)
  exact fun j=>lH 1 [] [0,1,2] [0] [0,4,5,7,9,10,11] (oD (dI v10)<|oD (dI v9)<|oD (dE p0)<|oD (dT r4.1.sub)<|oD (dT p2.b)<|oD (dT p2.a)<|oB 3 h10 o0) ((l6Lcm qq _ _ _ _ _ _ _ h).2.1)
  rcases spl h with⟨h10,h⟩|⟨h10,h⟩
  obtain⟨x11,h12,h⟩:=obind h
  obtain⟨r13,h14,h⟩:=obind h
  obtain⟨l15,h16,h⟩:=obind h
  have k:=oC 1 [] (c30 h14)<|oA 2 (ix23 (o:=.no) h12)<|oB 3 h10 o0
  by_cases h17:List.length r13=0
  obtain⟨r18,h19,h⟩:=obind h
  obtain⟨l20,h21,h⟩:=obind h
  have k:=oC 1 [] (c30 h19)<|oA 2 (ix23 (o:=.no) h12)<|oP 0 (apN41 h16 h17) k
  by_cases h22:List.length r18=0
  exact fun j=>lH 1 [] [0,1,2] [0,1] [0,4,5,7,9,10,11,12] (oD (dI l20)<|oD (dI l15)<|oD (dE p0)<|oD (dT r4.1.sub)<|oD (dT p2.b)<|oD (dT p2.a)<|oP 0 (apN41 h21 h22) k) ((ih _ _ _ _ _ _ _ _ h).2.2.1)
  exact fun j=>lH 1 [] [0,1,2] [0,2] [0,4,5,7,9,10,11,12] (oD (dI l20)<|oD (dI l15)<|oD (dE p0)<|oD (dT r4.1.sub)<|oD (dT p2.b)<|oD (dT p2.a)<|oP 0 (apS41 h21 h22) k) ((ih _ _ _ _ _ _ _ _ h).2.2.1)
  obtain⟨r18,h19,h⟩:=obind h
  obtain⟨l20,h21,h⟩:=obind h
  have k:=oC 1 [] (c30 h19)<|oA 2 (ix23 (o:=.no) h12)<|oP 0 (apS41 h16 h17) k
  by_cases h22:List.length r18=0
  exact fun j=>lH 1 [] [0,1,2] [2,1] [0,4,5,7,9,10,11,12] (oD (dI l20)<|oD (dI l15)<|oD (dE p0)<|oD (dT r4.1.sub)<|oD (dT p2.b)<|oD (dT p2.a)<|oP 0 (apN41 h21 h22) k) ((ih _ _ _ _ _ _ _ _ h).2.2.1)
  exact fun j=>lH 1 [] [0,1,2] [2,3] [0,4,5,7,9,10,11,12] (oD (dI l20)<|oD (dI l15)<|oD (dE p0)<|oD (dT r4.1.sub)<|oD (dT p2.b)<|oD (dT p2.a)<|oP 0 (apS41 h21 h22) k) ((ih _ _ _ _ _ _ _ _ h).2.2.1)
  exact fun j=>lH 1 [] [0,1,2] [0,1] [0,4,5,7,9,10,11] (oD (dI v10)<|oD (dI v9)<|oD (dE p0)<|oD (dT r4.1.sub)<|oD (dT p2.b)<|oD (dT p2.a)<|oB 3 h10 o0) ((l6Lcm qq _ _ _ _ _ _ _ h).1)
  rcases spl h with⟨h10,h⟩|⟨h10,h⟩
  obtain⟨x11,h12,h⟩:=obind h
  obtain⟨r13,h14,h⟩:=obind h
  obtain⟨l15,h16,h⟩:=obind h
  have k:=oC 1 [] (c30 h14)<|oA 2 (ix23 (o:=.no) h12)<|oB 3 h10 o0
  by_cases h17:List.length r13=0
  obtain⟨r18,h19,h⟩:=obind h
  obtain⟨l20,h21,h⟩:=obind h
  have k:=oC 1 [] (c30 h19)<|oA 2 (ix23 (o:=.no) h12)<|oP 0 (apN41 h16 h17) k
  by_cases h22:List.length r18=0
  exact fun j=>lH 1 [] [0,1,2] [0] [0,4,5,7,9,10,11,12] (oD (dI l20)<|oD (dI l15)<|oD (dE p0)<|oD (dT r4.1.sub)<|oD (dT p2.b)<|oD (dT p2.a)<|oP 0 (apN41 h21 h22) k) ((ih _ _ _ _ _ _ _ _ h).2.2.2)
  exact fun j=>lH 1 [] [0,1,2] [0,1] [0,4,5,7,9,10,11,12] (oD (dI l20)<|oD (dI l15)<|oD (dE p0)<|oD (dT r4.1.sub)<|oD (dT p2.b)<|oD (dT p2.a)<|oP 0 (apS41 h21 h22) k) ((ih _ _ _ _ _ _ _ _ h).2.2.1)
  obtain⟨r18,h19,h⟩:=obind h
  obtain⟨l20,h21,h⟩:=obind h
  have k:=oC 1 [] (c30 h19)<|oA 2 (ix23 (o:=.no) h12)<|oP 0 (apS41 h16 h17) k
  by_cases h22:List.length r18=0
  exact fun j=>lH 1 [] [0,1,2] [1] [0,4,5,7,9,10,11,12] (oD (dI l20)<|oD (dI l15)<|oD (dE p0)<|oD (dT r4.1.sub)<|oD (dT p2.b)<|oD (dT p2.a)<|oP 0 (apN41 h21 h22) k) ((ih _ _ _ _ _ _ _ _ h).2.2.2)
  exact fun j=>lH 1 [] [0,1,2] [1,2] [0,4,5,7,9,10,11,12] (oD (dI l20)<|oD (dI l15)<|oD (dE p0)<|oD (dT r4.1.sub)<|oD (dT p2.b)<|oD (dT p2.a)<|oP 0 (apS41 h21 h22) k) ((ih _ _ _ _ _ _ _ _ h).2.2.1)
  exact fun j=>lH 1 [] [0,1,2] [0] [0,4,5,7,9,10,11] (oD (dI v10)<|oD (dI v9)<|oD (dE p0)<|oD (dT r4.1.sub)<|oD (dT p2.b)<|oD (dT p2.a)<|oB 3 h10 o0) ((l6Lcm qq _ _ _ _ _ _ _ h).2.2.1)
theorem l6Lco(qq p0 p1 p2 r4 v10 v9 r)(h:e6Lco qq p0 p1 p2 r4 v10 v9=some r):(∀j,Dl Tryz.prog 0 (inn (inn (rgt (lft (rgt (rgt (rgt (rgt (rgt (rgt (bod Tryz.f6))))))))))) (g6LcoE0 j p0 p1 p2 r4 v10 v9) (g6LcoS0 p0 p1 p2 r4 v10 v9) (frameQ Tryz.prog 0 (FinQ Tryz.prog 0 Tryz.f6 (ab r) [] 0) [.blk 0,.seq (rgt (rgt (rgt (rgt (rgt (rgt (rgt (bod Tryz.f6))))))))])):=by
 unfold e6Lco at h
 exact fun j=>lH 1 [] [0,1,2] [] [0,4,5,7,9,10,11,12] (oD (dI v10)<|oD (dI v9)<|oD (dE p0)<|oD (dT r4.1.sub)<|oD (dT p2.b)<|oD (dT p2.a) o0) ((l6Lcn _ _ _ _ _ _ _ _ _ h).1)
theorem c6{qq p0 p1 p2 r}(h:e6 qq p0 p1 p2=some r):K6 p0 p1 p2 r Ct:=by
 unfold e6 at h
 obtain⟨r1,h2,h⟩:=obind h
 rcases spl h with⟨h3,h⟩|⟨h3,h⟩
 obtain⟨r4,h5,h⟩:=obind h
 have k:=oC 8 [] (c29 h5)<|oK 4 [] h3 (c27 h2) o0
 rcases spl h with⟨h6,h⟩|⟨h6,h⟩
 have k:=oB 3 h6 k
 rcases spl h with⟨h7,h⟩|⟨h7,h⟩
 obtain⟨r8,h9,h⟩:=obind h
 obtain rfl:=sj h
 exact k6 (tF q6 0 [] (oC 0 [] (c28 h9)<|oB 1 h7 k))
 obtain rfl:=sj h
 exact k6 (tF q6 0 [] (oB 1 h7 k))
 exact k6 (tH q6 3 [] [0,1,2] [] [0,4,5,7,9,10,11] (oD (dI ([]:List Int))<|oD (dI [p1.D])<|oD (dE p0)<|oD (dT r4.1.sub)<|oD (dT p2.b)<|oD (dT p2.a)<|oB 3 h6 k) (l6Lco qq _ _ _ _ _ _ _ h))
 obtain⟨r10,h11,h⟩:=obind h
 obtain rfl:=sj h
 exact k6 (tF q6 0 [] (oC 1 [] (c28 h11)<|oK 4 [] h3 (c27 h2) o0))
theorem ev_withT(a b:List Int)(v:Nat)(hb:b.length≤1152921504606846976)(hv:v<9223372036854775807)(K:Evt (fun q=>e32Lbx q a b ((v+1:Nat):Int)) true):∀(m w:Nat),w+m=b.length->Evt (fun q=>e32Lby q a b (v:Int) true (w:Int)) true
 |0,w,h=>by
  refine Evt.succ ?_
  simp only[e32Lby]
  refine Evt.ifF (decide_eq_false (by omega)) ?_
  rw[w64_nat v hv];exact K
 |m+1,w,h=>by
  refine Evt.succ ?_
  simp only[e32Lby]
  refine Evt.ifT (decide_eq_true (by omega)) ?_
  rw[w64_nat w (by omega)]
  exact ev_withT a b v hb hv K m (w+1) (by omega)
theorem ev_withF(a b:List Int)(v:Nat){x:Int}(hx:gidx a (v:Int)=some x)(hb:b.length≤1152921504606846976)(hv:v<9223372036854775807)(K:Evt (fun q=>e32Lbx q a b ((v+1:Nat):Int)) true):∀(r:List Int) (w:Nat),b.drop w=r->x∈r->Evt (fun q=>e32Lby q a b (v:Int) false (w:Int)) true
 | [],w,h,hm=>nomatch hm
 |y::r,w,h,hm=>by
  have hlt:=drop_lt h
  refine Evt.succ ?_
  simp only[e32Lby]
  refine Evt.ifF (by decide) (Evt.ifT (drop_dec h) (Evt.pure (drop_idx h) (Evt.pure hx ?_)))
  rw[w64_nat w (by omega)]
  by_cases e:y=x
  ·exact Evt.ifT (by simpa using e) (ev_withT a b v hb hv K (b.length-(w+1)) (w+1) (by omega))
  ·refine Evt.ifF (by simpa using e) (ev_withF a b v hx hb hv K r (w+1) (drop_next h) ?_)
   rcases List.mem_cons.1 hm with h|h
   ·exact absurd h.symm e
   ·exact h
theorem ev_withL(a b:List Int)(ha:a.length≤1152921504606846976)(hb:b.length≤1152921504606846976)(hs:∀x∈a,x∈b):∀(r:List Int) (v:Nat),a.drop v=r->Evt (fun q=>e32Lbx q a b (v:Int)) true
 | [],v,h=>by
  refine Evt.succ ?_
  simp only[e32Lbx]
  exact Evt.ifF (drop_nil h) Evt.ret
 |x::r,v,h=>by
  have hlt:=drop_lt h
  refine Evt.succ ?_
  simp only[e32Lbx]
  exact Evt.ifT (drop_dec h) (ev_withF a b v (drop_idx h) hb (by omega) (ev_withL a b ha hb hs r (v+1) (drop_next h)) b 0 rfl (hs x (List.mem_of_mem_drop (by rw[h];simp))))
theorem ev_within(a b:List Int)(ha:a.length≤1152921504606846976)(hb:b.length≤1152921504606846976)(hs:∀x∈a,x∈b):Evt (fun q=>e32 q a b) true:=by
 simp only[e32]
 exact ev_withL a b ha hb hs a 0 rfl
def RecS(r:Rec'):Prop:=(∀t∈r.around,shapedT t=true)∧(∀t∈r.at',shapedT t=true)∧r.around.length≤1048576∧r.at'.length≤1048576
theorem rec_s{l:List Ent}{t:Tm}{of b:Int}:RecS (recT l t of b):=by
 have ho:=rec_ok l t of b
 refine⟨?_,?_,ho.2.2.1,ho.2.2.2⟩
 all_goals
  unfold recT
  split
  ·rename_i a
   have hw:=wholeT_ok (t:=t) (l:=(wholeT t).1) (y:=(wholeT t).2.1) (by rw[←a.1])
   first|exact fun x hx=>hw.2.2.2.2.2 x hx|exact fun x hx=>ar_shaped hw.2.2.2.2.1 (List.mem_of_mem_drop hx)
  ·exact fun x hx=>(nomatch hx)
theorem recs_s{l:List Ent}{of:Int}:∀(r:List Tm) (B:Int),∀x∈recsT l of r B,RecS x
 | [],B,x,h=>nomatch h
 |a::r,B,x,h=>by
  rcases List.mem_cons.1 h with h|h
  ·rw[h];exact rec_s
  ·exact recs_s r (B+1) x h
theorem parts_s{l:List Ent}{i:Int}:∀x∈(partsT l i).recs,RecS x:=by unfold partsT;exact recs_s _ _
theorem ev_nums{t:Tm}(hs:shapedT t=true)(a b:Int):∃o:List Int,Evt (fun q=>e30 q t a b) o∧o.length≤8192∧Same o (colT t a b):=by
 have h:=shapedT_spec hs
 obtain⟨o,h1,h2,h3⟩:=tot_Numbers t a b (shaped_ok hs) h.1
 exact⟨o,h1,by omega,h3⟩
section
variable (r4:Tm×Int) (F:List Int) (p:Con')
theorem ev_at(v14:Nat)(x:Rec')(hx:gidx p.recs (v14:Int)=some x)(hl:x.at'.length≤1048576):∀(r:List Tm) (v:Nat) (acc:List Int),x.at'.drop v=r->(∀t∈r,shapedT t=true)->acc.length+8192*r.length≤1099511627776 ->
  (∀acc':List Int,(∀y∈acc,y∈acc')->(∀t∈r,∀y∈colT t 6 7,y∈acc')->acc'.length≤acc.length+8192*r.length->Evt (fun q=>e6Lch q r4 F p (w64 ((v14:Int)+1)) acc') true)->Evt (fun q=>e6Lcj q r4 F p (v14:Int) (v:Int) acc) true
 | [],v,acc,hd,hs,hb,K=>by
  refine Evt.succ ?_
  simp only[e6Lcj]
  exact Evt.pure hx (Evt.ifF (drop_nil hd) (K acc (fun y h=>h) (fun t h=>nomatch h) (by simp)))
 |t::r,v,acc,hd,hs,hb,K=>by
  have hlt:=drop_lt hd
  rw[List.length_cons]at hb
  obtain⟨o,h1,h2,h3⟩:=ev_nums (hs t (by simp)) 6 7
  refine Evt.succ ?_
  simp only[e6Lcj]
  refine Evt.pure hx (Evt.ifT (drop_dec hd) (Evt.pure (drop_idx hd) (h1.bind (Evt.pure (gapp_ok (by omega)) ?_))))
  rw[w64_nat v (by omega)]
  refine ev_at v14 x hx hl r (v+1) (acc++o) (drop_next hd) (fun y hy=>hs y (by simp[hy])) (by rw[List.length_append];omega) fun acc' k1 k2 k3=>K acc' (fun y hy=>k1 y (by simp[hy])) (fun y hy z hz=>?_) (by rw[List.length_append]at k3;rw[List.length_cons];omega)
  rcases List.mem_cons.1 hy with rfl|hy
  ·exact k1 z (List.mem_append_right _ ((h3 z).2 hz))
  ·exact k2 y hy z hz
theorem ev_arounds(v14:Nat)(x:Rec')(hx:gidx p.recs (v14:Int)=some x)(hl:x.around.length≤1048576):∀(r:List Tm) (v:Nat) (acc:List Int),x.around.drop v=r->(∀t∈r,shapedT t=true)->acc.length+8192*r.length≤1099511627776 ->
  (∀acc':List Int,(∀y∈acc,y∈acc')->(∀t∈r,∀y∈colT t 6 7,y∈acc')->acc'.length≤acc.length+8192*r.length->Evt (fun q=>e6Lcj q r4 F p (v14:Int) 0 acc') true)->Evt (fun q=>e6Lci q r4 F p (v14:Int) (v:Int) acc) true
 | [],v,acc,hd,hs,hb,K=>by
  refine Evt.succ ?_
  simp only[e6Lci]
  exact Evt.pure hx (Evt.ifF (drop_nil hd) (K acc (fun y h=>h) (fun t h=>nomatch h) (by simp)))
 |t::r,v,acc,hd,hs,hb,K=>by
  have hlt:=drop_lt hd
  rw[List.length_cons]at hb
  obtain⟨o,h1,h2,h3⟩:=ev_nums (hs t (by simp)) 6 7
  refine Evt.succ ?_
  simp only[e6Lci]
  refine Evt.pure hx (Evt.ifT (drop_dec hd) (Evt.pure (drop_idx hd) (h1.bind (Evt.pure (gapp_ok (by omega)) ?_))))
  rw[w64_nat v (by omega)]
  refine ev_arounds v14 x hx hl r (v+1) (acc++o) (drop_next hd) (fun y hy=>hs y (by simp[hy])) (by rw[List.length_append];omega) fun acc' k1 k2 k3=>K acc' (fun y hy=>k1 y (by simp[hy])) (fun y hy z hz=>?_) (by rw[List.length_append]at k3;rw[List.length_cons];omega)
  rcases List.mem_cons.1 hy with rfl|hy
  ·exact k1 z (List.mem_append_right _ ((h3 z).2 hz))
  ·exact k2 y hy z hz
theorem ev_recs(hS:∀x∈p.recs,RecS x)(hn:p.recs.length≤40) :
  ∀(r:List Rec') (v:Nat) (acc:List Int),p.recs.drop v=r->acc.length+17179869184*r.length≤1099511627776 ->
  (∀acc':List Int,(∀y∈acc,y∈acc')->(∀x∈r,(∀t∈x.around,∀y∈colT t 6 7,y∈acc')∧∀t∈x.at',∀y∈colT t 6 7,y∈acc')->acc'.length≤1099511627776->∀v:Nat,p.recs.length≤v->Evt (fun q=>e6Lch q r4 F p (v:Int) acc') true) ->
  Evt (fun q=>e6Lch q r4 F p (v:Int) acc) true
 | [],v,acc,hd,hb,K2=>K2 acc (fun y h=>h) (fun x h=>nomatch h) (by simpa using hb) v (List.drop_eq_nil_iff.1 hd)
 |x::r,v,acc,hd,hb,K2=>by
  have hlt:=drop_lt hd
  rw[List.length_cons]at hb
  have hx:=hS x (List.mem_of_mem_drop (by rw[hd];simp))
  refine Evt.succ ?_
  simp only[e6Lch]
  refine Evt.ifT (drop_dec hd) (ev_arounds r4 F p v x (drop_idx hd) hx.2.2.1 x.around 0 acc rfl hx.1 (by have:=hx.2.2.1;omega) fun a1 k1 k2 k3=>?_)
  refine ev_at r4 F p v x (drop_idx hd) hx.2.2.2 x.at' 0 a1 rfl hx.2.1 (by have:=hx.2.2.1;have:=hx.2.2.2;omega) fun a2 j1 j2 j3=>?_
  rw[w64_nat v (by omega)]
  refine ev_recs hS hn r (v+1) a2 (drop_next hd) (by have:=hx.2.2.1;have:=hx.2.2.2;omega) fun acc' i1 i2 i3=>K2 acc' (fun y hy=>i1 y (j1 y (k1 y hy))) (fun z hz=>?_) i3
  rcases List.mem_cons.1 hz with rfl|hz
  ·exact⟨fun t ht y hy=>i1 y (j1 y (k2 t ht y hy)),fun t ht y hy=>i1 y (j2 t ht y hy)⟩
  ·exact i2 z hz
end
theorem done_zero{q:Nat}{e:Int}{t:Tm}{r:Tm×Int×Int}(h:e153 q e t=some r):r.2.1≠0->r.1 = .mk 0 0 []:=by
 unfold e153 at h
 rcases spl h with⟨h1,h⟩|⟨h1,h⟩
 ·obtain⟨b,-,h⟩:=obind h
  rcases spl h with⟨h2,h⟩|⟨h2,h⟩
  ·rcases spl h with⟨h3,h⟩|⟨h3,h⟩
   ·obtain rfl:=sj h;exact fun _=>rfl
   ·obtain rfl:=sj h;exact fun h=>absurd rfl h
  ·obtain rfl:=sj h;exact fun _=>rfl
 ·rcases spl h with⟨h3,h⟩|⟨h3,h⟩
  ·obtain rfl:=sj h;exact fun _=>rfl
  ·obtain rfl:=sj h;exact fun h=>absurd rfl h
theorem stepL_zero{l:List Ent}{ps:List Con'}{d lev:Int}{p4 p5:List Tm}{x:Con'}:∀ {q:Nat} {v e k n:Int} {s:List Tm} {r:Tm×Int},e84Lbw q l ps d lev p4 p5 x v e k n s=some r->r.2≠0->r.1 = .mk 0 0 []
 |0,_,_,_,_,_,_,h=>nomatch h
 |q+1,v,e,k,n,s,r,h=>by
  simp only[e84Lbw]at h
  rcases spl h with⟨h1,h⟩|⟨h1,h⟩
  ·obtain⟨z,-,h⟩:=obind h
   rcases spl h with⟨h2,h⟩|⟨h2,h⟩
   ·obtain⟨_,-,h⟩:=obind h
    obtain⟨_,-,h⟩:=obind h
    obtain⟨_,-,h⟩:=obind h
    obtain⟨_,-,h⟩:=obind h
    obtain⟨_,-,h⟩:=obind h
    obtain⟨_,-,h⟩:=obind h
    obtain⟨_,-,h⟩:=obind h
    obtain⟨_,-,h⟩:=obind h
    obtain⟨_,-,h⟩:=obind h
    exact stepL_zero h
   ·exact stepL_zero h
  ·obtain⟨y,hy,h⟩:=obind h
   obtain rfl:=sj h
   exact done_zero hy
theorem step_zero{l:List Ent}{ps:List Con'}{d lev c:Int}{p4 p5:List Tm}{q:Nat}{r:Tm×Int}(h:e84 q l ps d lev c p4 p5=some r):r.2≠0->r.1 = .mk 0 0 []:=by
 unfold e84 at h
 have Z:∀ {e:Int},some ((Tm.mk 0 0 []),e)=some r->r.2≠0->r.1 = .mk 0 0 []:=fun h=>by obtain rfl:=sj h;exact fun _=>rfl
 obtain⟨_,-,h⟩:=obind h
 rcases spl h with⟨-,h⟩|⟨-,h⟩
 rotate_left
 ·exact Z h
 rcases spl h with⟨-,h⟩|⟨-,h⟩
 ·exact Z h
 rcases spl h with⟨-,h⟩|⟨-,h⟩
 ·exact Z h
 obtain⟨_,-,h⟩:=obind h
 rcases spl h with⟨-,h⟩|⟨-,h⟩
 rotate_left
 ·exact Z h
 obtain⟨_,-,h⟩:=obind h
 rcases spl h with⟨-,h⟩|⟨-,h⟩
 ·exact Z h
 obtain⟨_,-,h⟩:=obind h
 obtain⟨_,-,h⟩:=obind h
 rcases spl h with⟨-,h⟩|⟨-,h⟩
 ·exact Z h
 rcases spl h with⟨-,h⟩|⟨-,h⟩
 ·exact Z h
 obtain⟨_,-,h⟩:=obind h
 rcases spl h with⟨-,h⟩|⟨-,h⟩
 rotate_left
 ·exact Z h
 obtain⟨_,-,h⟩:=obind h
 rcases spl h with⟨-,h⟩|⟨-,h⟩
 rotate_left
 ·exact Z h
 obtain⟨_,-,h⟩:=obind h
 obtain⟨_,-,h⟩:=obind h
 exact stepL_zero h
def FGood{ρ:Type}(f:Int->Int->Nat->Option ρ)(er:ρ->Int)(R:Int->Int->ρ)(k:Int):Prop:=
 (∀L U,k≤L->0≤U->L+U≤1099511627776->Evt (f L U) (R (L-k) (U+k)))∧(∀L U,0≤L->L<k->0≤U->L+U≤1099511627776->∃r,Evt (f L U) r∧er r=8)
def FShort{ρ:Type}(f:Int->Int->Nat->Option ρ)(er:ρ->Int)(l:Int):Prop:=∀U,0≤U->l+U≤1099511627776->∃r,Evt (f l U) r∧er r=8
def Ou{ρ:Type}(f:Int->Int->Nat->Option ρ)(er:ρ->Int)(Q:(Int->Int->ρ)->Int->Prop)(S:Prop)(l:Int):Prop:=
 (∃R k,0≤k∧k≤l∧Q R k∧FGood f er R k)∨(FShort f er l∧S)
section
variable {ρ σ τ:Type} {er:ρ->Int} {er':σ->Int} {Q:(Int->Int->ρ)->Int->Prop} {Q':(Int->Int->σ)->Int->Prop} {S S':Prop} {l:Int}
theorem Ou.imp{f g:Int->Int->Nat->Option ρ}(h:Ou f er Q S l)(k:∀L U r,Evt (f L U) r->Evt (g L U) r):Ou g er Q S l:=by
 rcases h with⟨R,n,h0,h1,h2,h3,h4⟩|⟨h,s⟩
 ·exact .inl ⟨R,n,h0,h1,h2,fun L U a b c=>k _ _ _ (h3 L U a b c),fun L U a b c d=>by obtain⟨r,x,y⟩:=h4 L U a b c d;exact⟨r,k _ _ _ x,y⟩⟩
 ·exact .inr ⟨fun U a b=>by obtain⟨r,x,y⟩:=h U a b;exact⟨r,k _ _ _ x,y⟩,s⟩
theorem Ou.mono{f:Int->Int->Nat->Option ρ}{Q2:(Int->Int->ρ)->Int->Prop}(h:Ou f er Q S l)(k:∀R n,0≤n->n≤l->Q R n->Q2 R n)(hs:S->S'):Ou f er Q2 S' l:=by
 rcases h with⟨R,n,h0,h1,h2,h3⟩|⟨h,s⟩
 ·exact .inl ⟨R,n,h0,h1,k R n h0 h1 h2,h3⟩
 ·exact .inr ⟨h,hs s⟩
theorem Ou.pure{x:Option τ}{a:τ}{c:Int->Int->Nat->τ->Option ρ}(h:x=some a)(g:Ou (fun L U q=>c L U q a) er Q S l):Ou (fun L U q=>x>>=c L U q) er Q S l:=g.imp fun _ _ _ k=>Evt.pure h k
theorem Ou.evt{x:Nat->Option τ}{a:τ}{c:Int->Int->Nat->τ->Option ρ}(h:Evt x a)(g:Ou (fun L U q=>c L U q a) er Q S l):Ou (fun L U q=>x q>>=c L U q) er Q S l:=g.imp fun _ _ _ k=>Evt.bind h k
theorem Ou.tot{x:Nat->Option τ}{P:τ->Prop}{c:Int->Int->Nat->τ->Option ρ}(h:Tot x P)(g:∀a,P a->Ou (fun L U q=>c L U q a) er Q S l):Ou (fun L U q=>x q>>=c L U q) er Q S l:=by
 obtain⟨a,h,p⟩:=h
 exact(g a p).evt h
theorem Ou.ite{b:Bool}{f g:Int->Int->Nat->Option ρ}(h:b=true->Ou f er Q S l)(k:b=false->Ou g er Q S l):Ou (fun L U q=>if b=true then f L U q else g L U q) er Q S l:=by
 cases b with
 |true=>exact(h rfl).imp fun _ _ _ x=>Evt.ifT rfl x
 |false=>exact(k rfl).imp fun _ _ _ x=>Evt.ifF rfl x
theorem Ou.ifT{b:Bool}{f g:Int->Int->Nat->Option ρ}(h:b=true)(k:Ou f er Q S l):Ou (fun L U q=>if b=true then f L U q else g L U q) er Q S l:=Ou.ite (fun _=>k) fun h'=>by rw[h]at h';cases h'
theorem Ou.ifF{b:Bool}{f g:Int->Int->Nat->Option ρ}(h:b=false)(k:Ou g er Q S l):Ou (fun L U q=>if b=true then f L U q else g L U q) er Q S l:=Ou.ite (fun h'=>by rw[h]at h';cases h') fun _=>k
theorem Ou.ret{R:Int->Int->ρ}(h:0≤l)(k:Q R 0):Ou (fun L U _=>some (R L U)) er Q S l:=
 .inl ⟨R,0,by omega,h,k,fun L U _ _ _=>by rw[show L-0=L by omega,show U+0=U by omega];exact Evt.ret,fun L U _ _=>by omega⟩
theorem Ou.bind{f:Int->Int->Nat->Option ρ}{c:Nat->ρ->Option σ}(h:Ou f er Q S l)(hs:S->S')(he:∀r,er r=8->∃r',Evt (fun q=>c q r) r'∧er' r'=8)
  (hg:∀R k,0≤k->k≤l->Q R k->Ou (fun L U q=>c q (R L U)) er' (fun R' n=>Q' R' (k+n)) S' (l-k)):Ou (fun L U q=>f L U q>>=c q) er' Q' S' l:=by
 rcases h with⟨R,k,h0,h1,h2,h3,h4⟩|⟨h,s⟩
 ·rcases hg R k h0 h1 h2 with⟨R',n,g0,g1,g2,g3,g4⟩|⟨g,s⟩
  ·refine .inl ⟨R',k+n,by omega,by omega,g2,fun L U a b c=>?_,fun L U a b c d=>?_⟩
   ·have:=g3 (L-k) (U+k) (by omega) (by omega) (by omega)
    rw[show L-(k+n)=L-k-n by omega,show U+(k+n)=U+k+n by omega]
    exact(h3 L U (by omega) b c).bind this
   ·by_cases e:L<k
    ·obtain⟨r,x,y⟩:=h4 L U a e c d
     obtain⟨r',x',y'⟩:=he r y
     exact⟨r',x.bind x',y'⟩
    ·obtain⟨r',x',y'⟩:=g4 (L-k) (U+k) (by omega) (by omega) (by omega) (by omega)
     exact⟨r',(h3 L U (by omega) c d).bind x',y'⟩
  ·refine .inr ⟨fun U a b=>?_,s⟩
   obtain⟨r',x',y'⟩:=g (U+k) (by omega) (by omega)
   exact⟨r',(h3 l U h1 a b).bind x',y'⟩
 ·refine .inr ⟨fun U a b=>?_,hs s⟩
  obtain⟨r,x,y⟩:=h U a b
  obtain⟨r',x',y'⟩:=he r y
  exact⟨r',x.bind x',y'⟩
end
def kindT(l:List Ent)(t:Tm):Int:=if t.k=6 then(if t.n<l.length then(ent l t.n).kind else 0)else 0
theorem kindT_spec{l:List Ent}{t:Tm}{k:Int}(h:kindT l t=k)(hk:k≠0):t.k=6∧t.n<l.length∧(ent l t.n).kind=k:=by
 unfold kindT at h
 split at h
 ·rename_i a
  split at h
  ·rename_i b;exact⟨a,b,h⟩
  ·exact absurd h.symm hk
 ·exact absurd h.symm hk
theorem good_n{t:Tm}(h:goodT t=true):0≤t.n:=by
 obtain⟨k,n,l⟩:=t
 exact(head_n (goodT_mk h).1).1
def isCon(l:List Ent)(t:Tm):Prop:=kindT l (hdT t)=2∧(arT t).length=pisT (ent l (hdT t).n).type
instance (l:List Ent) (t:Tm):Decidable (isCon l t):=inferInstanceAs (Decidable (_∧_))
end Go.Proofs.YtmfcobjnlabpoaaGreat
