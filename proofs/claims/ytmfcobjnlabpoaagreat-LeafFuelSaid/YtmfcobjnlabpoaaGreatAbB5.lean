/- Texts: AbRe AbF109va36581 AbF109va38460 AbF109va7426 AbF110va45810 AbF110va8026 AbF110va8481 AbUd AbF165 AbF166 AbF111va45810 AbF111va8481 AbUe AbF108 AbF111va8026 AbF112va4400 AbF46 AbUf AbF170 AbF100 AbF21 AbF101 AbF171 AbF98 AbF102 AbF103 AbF104 AbF95 AbF96 AbF97 AbF25 AbF99 AbF44 AbUg AbF113va35861 AbF42 AbF94 AbF43 AbF47 AbF48 AbF8 AbUh AbUi -/
import Derived.Test.YtmfcobjnlabpoaaGreatAbB4
set_option linter.unusedVariables false
set_option linter.unusedSimpArgs false
set_option linter.unusedSectionVars false
namespace Go.Proofs.YtmfcobjnlabpoaaGreat
open Go Go.Ab
theorem Br.e8{N:ByteArray->Bool}{l:List Ent}(hE:AllE N l){x y:Tm}{e k:Int}(h:Br l x y e k):shapedT x=true->e≠8:=by
 induction h with
 |stop _=>exact fun _=>by decide
 | @redE x Y e a h=>
  intro hs
  unfold actT at a
  split at a
  ·injection a with h1 h2
   rw[←h2];exact subT_e8 _ _
  ·split at a
   ·injection a with h1 h2
    rw[←h2];decide
   ·split at a
    ·split at a<;>cases a
    ·split at a
     ·split at a<;>cases a
     ·cases a
 |redL _ _=>exact fun _=>by decide
 |red _ hY _ ih=>exact fun _=>ih hY
 |tgtE a _ _ ih=>exact fun hs=>ih (ar_shaped hs (act_tgt hE hs a).1)
 |tgtN _ _ _ _=>exact fun _=>by decide
 | @tgtRE x a z Y e k ha hb hr he ih=>
  intro hs
  have hm:=(act_tgt hE hs ha).1
  have hz:=hb.shaped (ar_shaped hs hm) rfl
  have hox:OkA (arT x):=fun z hz=>shaped_ok (ar_shaped hs hz)
  have hoy:OkA (arT z):=fun w hw=>shaped_ok (ar_shaped hz hw)
  have hlx:(arT x).length≤8192:=by
   have h:=shapedT_spec hs
   have:=ar_len _ h.2.2
   omega
  have hly:(arT z).length≤8192:=by
   have h:=shapedT_spec hz
   have:=ar_len _ h.2.2
   omega
  unfold reactT at hr
  split at hr
  ·split at hr
   ·simp only[Option.some.injEq,Prod.mk.injEq]at hr
    rw[←hr.2]
    exact(fieldX_spec l (hdT x).n ((arT z).drop (ent l (hdT z).n).pars.toNat) hE (hoy.drop _) (by rw[List.length_drop];omega)).2.2.1
   ·cases hr
  ·split at hr
   ·simp only[Option.some.injEq,Prod.mk.injEq]at hr
    rw[←hr.2]
    exact(stepX_spec l (hdT x).n (nth (hdT x).sub 0).n (hdT z).n ((arT x).take ((ent l (hdT x).n).pars+1+(ent l (hdT x).n).cons.length).toNat) ((arT z).drop (ent l (hdT x).n).pars.toNat) hE (hox.take _) (hoy.drop _) (by rw[List.length_take];omega) (by rw[List.length_drop];omega)).2.2.1
   ·cases hr
 |tgtRL _ _ _ _ _=>exact fun _=>by decide
 |tgtR a b c hY _ ih ih2=>exact fun _=>ih2 hY
def e109vacgLch:Nat->(List Ent)->(List Ent)->(List Con')->(List Int)->(List Int)->Int->Int->(List Int)->(List Tm)->Int->Nat->Nat->(List (Int×Int))->(List Int)->(List Tm)->Option (List Int×List Tm×Nat×Nat×(List (Int×Int)))
 |0,_,_,_,_,_,_,_,_,_,_,_,_,_,_,_=>none
 |qq+1,q0,q1,q2,q3,q4,q5,q6,p1,p2,v10,vb0_4_c,vb0_4_n,vb4_0,vb7_0,vb8_0=>
 if decide (v10<(List.length p1:Int))then
 gidx p1 v10>>=fun x2=>
 gapp 8 vb7_0 [x2]>>=fun l4=>
 gidx p2 v10>>=fun x6=>
 gfz vb0_4_n vb8_0>>=fun l8=>
 gapp 40 l8 [(Tm.mk 0 0 [])]>>=fun l10=>
 gchk (List.length l10) (vb0_4_n:Int)>>=fun x12=>
 gset l10 x12 x6>>=fun x14=>
 e109vacgLch qq q0 q1 q2 q3 q4 q5 q6 p1 p2 (w64 (v10+1)) (List.length l10) (List.length l10) (iset vb4_0 x2 (vb0_4_n:Int)) l4 x14
 else
 some (vb7_0,vb8_0,vb0_4_n,vb0_4_c,vb4_0)
def e109vacg(qq:Nat)(q0 q1:List Ent)(q2:List Con')(q3 q4:List Int)(q5 q6:Int)(q7:List (Int×Int))(q8:List Int)(q9:List Tm)(q10 q11:Nat)(p1:List Int)(p2:List Tm):Option (List Int×List Tm×Nat×Nat×(List (Int×Int))):=
 e109vacgLch qq q0 q1 q2 q3 q4 q5 q6 p1 p2 0 q11 q10 q7 q8 q9
def g109vacgLchE0(j:Nat->Value)(q0 q1:List Ent)(q2:List Con')(q3 q4:List Int)(q5 q6:Int)(p1:List Int)(p2:List Tm)(v10:Int)(vb0_4_c vb0_4_n:Nat)(vb4_0:List (Int×Int))(vb7_0:List Int)(vb8_0:List Tm):=sp j 50 0 [(0,.mp 0 0),(2,slv tmCells p2 .no),(8,slv intC p1 .no),(9,ai (List.length p1:Int)),(10,ai v10)]
def g109vacgLchS0(q0 q1:List Ent)(q2:List Con')(q3 q4:List Int)(q5 q6:Int)(p1:List Int)(p2:List Tm)(v10:Int)(vb0_4_c vb0_4_n:Nat)(vb4_0:List (Int×Int))(vb7_0:List Int)(vb8_0:List Tm):LSt:=⟨[(0,.cells [.mp 1 0,.mp 3 0,.obj 4,.ms 7 0 (List.length vb7_0) (List.length vb7_0) 1,.ms 8 0 vb0_4_n vb0_4_c 3,slv intC ([]:List Int) .nl]),(1,.cells [slv entL q0 .no,.mp 2 0,slv intC q3 .no,slv intC q4 .no]),(2,.cells [slv entL q1 .no,slv conL q2 .no]),(3,.cells [ai q5,ai q6]),(4,imap vb4_0),(5,.dead),(6,.dead),(7,.row (flat intC vb7_0)),(8,.row (flat tmCells vb8_0))],9,[],0,[]⟩
abbrev K109vacg (q0 q1:List Ent) (q2:List Con') (q3 q4:List Int) (q5 q6:Int) (q7:List (Int×Int)) (q8:List Int) (q9:List Tm) (q10 q11:Nat) (p1:List Int) (p2:List Tm) (r:List Int×List Tm×Nat×Nat×(List (Int×Int))) (C:Cf):Prop:=C 109 [.cells [.mp 1 0,.mp 3 0,.obj 4,.ms 5 0 (List.length q8) (List.length q8) 1,.ms 6 0 q10 q11 3,slv intC ([]:List Int) .nl],.cells [slv entL q0 .no,.mp 2 0,slv intC q3 .no,slv intC q4 .no],.cells [slv entL q1 .no,slv conL q2 .no],.cells [ai q5,ai q6],imap q7,.row (flat intC q8),.row (flat tmCells q9)] [.mp 0 0,slv intC p1 .no,slv tmCells p2 .no] (.tup []) [.cells [.mp 1 0,.mp 3 0,.obj 4,.ms 7 0 (List.length r.1) (List.length r.1) 1,.ms 8 0 r.2.2.1 r.2.2.2.1 3,slv intC ([]:List Int) .nl],.cells [slv entL q0 .no,.mp 2 0,slv intC q3 .no,slv intC q4 .no],.cells [slv entL q1 .no,slv conL q2 .no],.cells [ai q5,ai q6],imap r.2.2.2.2,.dead,.dead,.row (flat intC r.1),.row (flat tmCells r.2.1)] 0
theorem q109vacg:Qf 109 Tryz.f109:=⟨Tryz.func109,by kernel_rfl⟩
theorem k109vacg{q0 q1 q2 q3 q4 q5 q6 q7 q8 q9 q10 q11 p1 p2 r}(h:K109vacg q0 q1 q2 q3 q4 q5 q6 q7 q8 q9 q10 q11 p1 p2 r Ci):K109vacg q0 q1 q2 q3 q4 q5 q6 q7 q8 q9 q10 q11 p1 p2 r Ct:=⟨h,⟨(lz rfl),⟨tv,dI _⟩,⟨tv,dT _⟩,tv⟩,(forall_cons ⟨(lz rfl),(lz rfl),(lz rfl),(lz rfl),(lz rfl),⟨tv,dI _⟩,tv⟩ (forall_cons ⟨⟨tv,dE _⟩,(lz rfl),⟨tv,dI _⟩,⟨tv,dI _⟩,tv⟩ (forall_cons ⟨⟨tv,dE _⟩,⟨tv,dC _⟩,tv⟩ (forall_cons ⟨tv,tv,tv⟩ (forall_cons tv (forall_cons (dI _) (forall_cons (dT _) forall_nil))))))),tv,(forall_cons ⟨(lz rfl),(lz rfl),(lz rfl),(lz rfl),(lz rfl),dI _,tv⟩ (forall_cons ⟨dE _,(lz rfl),dI _,dI _,tv⟩ (forall_cons ⟨dE _,dC _,tv⟩ (forall_cons ⟨tv,tv,tv⟩ (forall_cons tv (forall_cons tv (forall_cons tv (forall_cons (dI _) (forall_cons (dT _) forall_nil)))))))))⟩
theorem l109vacgLch:∀qq:Nat,(∀q0 q1 q2 q3 q4 q5 q6 p1 p2 v10 vb0_4_c vb0_4_n vb4_0 vb7_0 vb8_0 r,e109vacgLch qq q0 q1 q2 q3 q4 q5 q6 p1 p2 v10 vb0_4_c vb0_4_n vb4_0 vb7_0 vb8_0=some r->(∀j,Dl Tryz.prog 7 (inn (inn (rgt (bod Tryz.f109)))) (g109vacgLchE0 j q0 q1 q2 q3 q4 q5 q6 p1 p2 v10 vb0_4_c vb0_4_n vb4_0 vb7_0 vb8_0) (g109vacgLchS0 q0 q1 q2 q3 q4 q5 q6 p1 p2 v10 vb0_4_c vb0_4_n vb4_0 vb7_0 vb8_0) (frameQ Tryz.prog 7 (FinQ Tryz.prog 7 Tryz.f109 (.tup []) [.cells [.mp 1 0,.mp 3 0,.obj 4,.ms 7 0 (List.length r.1) (List.length r.1) 1,.ms 8 0 r.2.2.1 r.2.2.2.1 3,slv intC ([]:List Int) .nl],.cells [slv entL q0 .no,.mp 2 0,slv intC q3 .no,slv intC q4 .no],.cells [slv entL q1 .no,slv conL q2 .no],.cells [ai q5,ai q6],imap r.2.2.2.2,.dead,.dead,.row (flat intC r.1),.row (flat tmCells r.2.1)] 0) [.blk 0]))):=by
 intro qq
 induction qq with
 |zero=>
  exact fun _ _ _ _ _ _ _ _ _ _ _ _ _ _ _ _ h=>nn h
 |succ qq ih=>
  intro q0 q1 q2 q3 q4 q5 q6 p1 p2 v10 vb0_4_c vb0_4_n vb4_0 vb7_0 vb8_0 r h
  rw[e109vacgLch]at h
  rcases spl h with⟨h1,h⟩|⟨h1,h⟩
  obtain⟨x2,h3,h⟩:=obind h
  obtain⟨l4,h5,h⟩:=obind h
  obtain⟨x6,h7,h⟩:=obind h
  obtain⟨l8,h9,h⟩:=obind h
  obtain⟨l10,h11,h⟩:=obind h
  obtain⟨x12,h13,h⟩:=obind h
  obtain⟨x14,h15,h⟩:=obind h
  exact fun j=>lH 2 [] [0,1,2,3,4,5,6,9,10] [] [0,2,8,9,10] (oD (dI p1)<|oD (dT p2)<|oD (dT x14)<|oD (dI l4)<|oD (dC q2)<|oD (dE q1)<|oD (dI q4)<|oD (dI q3)<|oD (dE q0)<|oD (dI ([]:List Int))<|oW 0 (wtE (x:=x6) (cs:=[ai x6.k,ai x6.n,slv tmCells x6.sub .no]) codecT (by rw[tm_eq];rfl) h15)<|oA 0 (ixM23 (b:=10) (c:=List.length l10) (z:=3) h13)<|oM 0 (apRn23 h9 h11 (by simp))<|oS 2 (obLitR tm_eq [(Tm.mk 0 0 [])])<|oA 2 (ix23 (o:=.no) h7)<|oM 2 (apR41 h5 (by simp))<|oU 4 (muI181 vb4_0 x2 (vb0_4_n:Int))<|oA 0 (ix41 (o:=.no) h3)<|oB 0 h1 o0) (ih _ _ _ _ _ _ _ _ _ _ _ _ _ _ _ _ h)
  obtain rfl:=sj h
  exact fun j=>lG 0 [] [0,1,2,3,4,5,6,7,8] [] true (oD (dT vb8_0)<|oD (dI vb7_0)<|oD (dC q2)<|oD (dE q1)<|oD (dI q4)<|oD (dI q3)<|oD (dE q0)<|oD (dI ([]:List Int))<|oB 0 h1 o0)
theorem c109vacg{qq q0 q1 q2 q3 q4 q5 q6 q7 q8 q9 q10 q11 p1 p2 r}(h:e109vacg qq q0 q1 q2 q3 q4 q5 q6 q7 q8 q9 q10 q11 p1 p2=some r):K109vacg q0 q1 q2 q3 q4 q5 q6 q7 q8 q9 q10 q11 p1 p2 r Ct:=by
 unfold e109vacg at h
 exact k109vacg (tH q109vacg 1 [(some 5,0,0),(some 6,0,0)] [0,1,2,3,4,5,6,7,8] [] [0,2,8,9,10] (oD (dI p1)<|oD (dT p2)<|oD (dT q9)<|oD (dI q8)<|oD (dC q2)<|oD (dE q1)<|oD (dI q4)<|oD (dI q3)<|oD (dE q0)<|oD (dI ([]:List Int)) o0) (l109vacgLch _ _ _ _ _ _ _ _ _ _ _ _ _ _ _ _ _ h))
def e109vaciLcj:Nat->(List Ent)->(List Ent)->(List Con')->(List Int)->(List Int)->Int->Int->(List Int)->(List Tm)->Int->Nat->Nat->(List (Int×Int))->(List Int)->(List Tm)->Option ((List Int×List Tm×Nat×Nat×(List (Int×Int))) ⊕ ((List (Int×Int))))
 |0,_,_,_,_,_,_,_,_,_,_,_,_,_,_,_=>none
 |qq+1,q0,q1,q2,q3,q4,q5,q6,p1,p2,v10,vb0_4_c,vb0_4_n,vb4_0,vb5_0,vb6_0=>
 if decide (v10<(List.length p1:Int))then
 gidx p1 v10>>=fun x15=>
 gapp 8 vb5_0 [x15]>>=fun l17=>
 gidx p2 v10>>=fun x19=>
 gfz vb0_4_n vb6_0>>=fun l21=>
 gapp 40 l21 [(Tm.mk 0 0 [])]>>=fun l23=>
 gchk (List.length l23) (vb0_4_n:Int)>>=fun x25=>
 gset l23 x25 x19>>=fun x27=>
 e109vaciLcj qq q0 q1 q2 q3 q4 q5 q6 p1 p2 (w64 (v10+1)) (List.length l23) (List.length l23) (iset vb4_0 x15 (vb0_4_n:Int)) l17 x27
 else
 some (Sum.inl (vb5_0,vb6_0,vb0_4_n,vb0_4_c,vb4_0))
def e109vaciLck(qq:Nat)(q0 q1:List Ent)(q2:List Con')(q3 q4:List Int)(q5 q6:Int)(q7:List (Int×Int))(p1:List Int)(p2:List Tm)(v10:Int):Option ((List Int×List Tm×Nat×Nat×(List (Int×Int))) ⊕ ((List (Int×Int)))):=
 if decide (v10<(List.length p1:Int))then
 gidx p1 v10>>=fun x2=>
 gapp 8 ([]:List Int) [x2]>>=fun l4=>
 gidx p2 v10>>=fun x6=>
 gapp 40 ([]:List Tm) [(Tm.mk 0 0 [])]>>=fun l8=>
 gchk (List.length l8) 0>>=fun x10=>
 gset l8 x10 x6>>=fun x12=>
 e109vaciLcj qq q0 q1 q2 q3 q4 q5 q6 p1 p2 (w64 (v10+1)) (List.length l8) (List.length l8) (iset q7 x2 0) l4 x12
 else
 some (Sum.inr q7)
def e109vaci(qq:Nat)(q0 q1:List Ent)(q2:List Con')(q3 q4:List Int)(q5 q6:Int)(q7:List (Int×Int))(p1:List Int)(p2:List Tm):Option ((List Int×List Tm×Nat×Nat×(List (Int×Int))) ⊕ ((List (Int×Int)))):=
 e109vaciLck qq q0 q1 q2 q3 q4 q5 q6 q7 p1 p2 0
def g109vaciLckE0(j:Nat->Value)(q0 q1:List Ent)(q2:List Con')(q3 q4:List Int)(q5 q6:Int)(q7:List (Int×Int))(p1:List Int)(p2:List Tm)(v10:Int):=sp j 50 0 [(0,.mp 0 0),(2,slv tmCells p2 .no),(8,slv intC p1 .no),(9,ai (List.length p1:Int)),(10,ai v10)]
def g109vaciLckS0(q0 q1:List Ent)(q2:List Con')(q3 q4:List Int)(q5 q6:Int)(q7:List (Int×Int))(p1:List Int)(p2:List Tm)(v10:Int):LSt:=⟨[(0,.cells [.mp 1 0,.mp 3 0,.obj 4,slv intC ([]:List Int) .nl,slv tmCells ([]:List Tm) .nl,slv intC ([]:List Int) .nl]),(1,.cells [slv entL q0 .no,.mp 2 0,slv intC q3 .no,slv intC q4 .no]),(2,.cells [slv entL q1 .no,slv conL q2 .no]),(3,.cells [ai q5,ai q6]),(4,imap q7)],5,[],0,[]⟩
def g109vaciLcjE0(j:Nat->Value)(q0 q1:List Ent)(q2:List Con')(q3 q4:List Int)(q5 q6:Int)(p1:List Int)(p2:List Tm)(v10:Int)(vb0_4_c vb0_4_n:Nat)(vb4_0:List (Int×Int))(vb5_0:List Int)(vb6_0:List Tm):=sp j 50 0 [(0,.mp 0 0),(2,slv tmCells p2 .no),(8,slv intC p1 .no),(9,ai (List.length p1:Int)),(10,ai v10)]
def g109vaciLcjS0(q0 q1:List Ent)(q2:List Con')(q3 q4:List Int)(q5 q6:Int)(p1:List Int)(p2:List Tm)(v10:Int)(vb0_4_c vb0_4_n:Nat)(vb4_0:List (Int×Int))(vb5_0:List Int)(vb6_0:List Tm):LSt:=⟨[(0,.cells [.mp 1 0,.mp 3 0,.obj 4,.ms 5 0 (List.length vb5_0) (List.length vb5_0) 1,.ms 6 0 vb0_4_n vb0_4_c 3,slv intC ([]:List Int) .nl]),(1,.cells [slv entL q0 .no,.mp 2 0,slv intC q3 .no,slv intC q4 .no]),(2,.cells [slv entL q1 .no,slv conL q2 .no]),(3,.cells [ai q5,ai q6]),(4,imap vb4_0),(5,.row (flat intC vb5_0)),(6,.row (flat tmCells vb6_0))],7,[],0,[]⟩
abbrev K109vacis0 (q0 q1:List Ent) (q2:List Con') (q3 q4:List Int) (q5 q6:Int) (q7:List (Int×Int)) (p1:List Int) (p2:List Tm) (r:List Int×List Tm×Nat×Nat×(List (Int×Int))) (C:Cf):Prop:=C 109 [.cells [.mp 1 0,.mp 3 0,.obj 4,slv intC ([]:List Int) .nl,slv tmCells ([]:List Tm) .nl,slv intC ([]:List Int) .nl],.cells [slv entL q0 .no,.mp 2 0,slv intC q3 .no,slv intC q4 .no],.cells [slv entL q1 .no,slv conL q2 .no],.cells [ai q5,ai q6],imap q7] [.mp 0 0,slv intC p1 .no,slv tmCells p2 .no] (.tup []) [.cells [.mp 1 0,.mp 3 0,.obj 4,.ms 5 0 (List.length r.1) (List.length r.1) 1,.ms 6 0 r.2.2.1 r.2.2.2.1 3,slv intC ([]:List Int) .nl],.cells [slv entL q0 .no,.mp 2 0,slv intC q3 .no,slv intC q4 .no],.cells [slv entL q1 .no,slv conL q2 .no],.cells [ai q5,ai q6],imap r.2.2.2.2,.row (flat intC r.1),.row (flat tmCells r.2.1)] 0
abbrev K109vacis1 (q0 q1:List Ent) (q2:List Con') (q3 q4:List Int) (q5 q6:Int) (q7:List (Int×Int)) (p1:List Int) (p2:List Tm) (r:(List (Int×Int))) (C:Cf):Prop:=C 109 [.cells [.mp 1 0,.mp 3 0,.obj 4,slv intC ([]:List Int) .nl,slv tmCells ([]:List Tm) .nl,slv intC ([]:List Int) .nl],.cells [slv entL q0 .no,.mp 2 0,slv intC q3 .no,slv intC q4 .no],.cells [slv entL q1 .no,slv conL q2 .no],.cells [ai q5,ai q6],imap q7] [.mp 0 0,slv intC p1 .no,slv tmCells p2 .no] (.tup []) [.cells [.mp 1 0,.mp 3 0,.obj 4,slv intC ([]:List Int) .nl,slv tmCells ([]:List Tm) .nl,slv intC ([]:List Int) .nl],.cells [slv entL q0 .no,.mp 2 0,slv intC q3 .no,slv intC q4 .no],.cells [slv entL q1 .no,slv conL q2 .no],.cells [ai q5,ai q6],imap r] 0
theorem q109vaci:Qf 109 Tryz.f109:=⟨Tryz.func109,by kernel_rfl⟩
theorem k109vacis0{q0 q1 q2 q3 q4 q5 q6 q7 p1 p2 r}(h:K109vacis0 q0 q1 q2 q3 q4 q5 q6 q7 p1 p2 r Ci):K109vacis0 q0 q1 q2 q3 q4 q5 q6 q7 p1 p2 r Ct:=⟨h,⟨(lz rfl),⟨tv,dI _⟩,⟨tv,dT _⟩,tv⟩,(forall_cons ⟨(lz rfl),(lz rfl),(lz rfl),⟨tv,dI _⟩,⟨tv,dT _⟩,⟨tv,dI _⟩,tv⟩ (forall_cons ⟨⟨tv,dE _⟩,(lz rfl),⟨tv,dI _⟩,⟨tv,dI _⟩,tv⟩ (forall_cons ⟨⟨tv,dE _⟩,⟨tv,dC _⟩,tv⟩ (forall_cons ⟨tv,tv,tv⟩ (forall_cons tv forall_nil))))),tv,(forall_cons ⟨(lz rfl),(lz rfl),(lz rfl),(lz rfl),(lz rfl),dI _,tv⟩ (forall_cons ⟨dE _,(lz rfl),dI _,dI _,tv⟩ (forall_cons ⟨dE _,dC _,tv⟩ (forall_cons ⟨tv,tv,tv⟩ (forall_cons tv (forall_cons (dI _) (forall_cons (dT _) forall_nil)))))))⟩
theorem k109vacis1{q0 q1 q2 q3 q4 q5 q6 q7 p1 p2 r}(h:K109vacis1 q0 q1 q2 q3 q4 q5 q6 q7 p1 p2 r Ci):K109vacis1 q0 q1 q2 q3 q4 q5 q6 q7 p1 p2 r Ct:=⟨h,⟨(lz rfl),⟨tv,dI _⟩,⟨tv,dT _⟩,tv⟩,(forall_cons ⟨(lz rfl),(lz rfl),(lz rfl),⟨tv,dI _⟩,⟨tv,dT _⟩,⟨tv,dI _⟩,tv⟩ (forall_cons ⟨⟨tv,dE _⟩,(lz rfl),⟨tv,dI _⟩,⟨tv,dI _⟩,tv⟩ (forall_cons ⟨⟨tv,dE _⟩,⟨tv,dC _⟩,tv⟩ (forall_cons ⟨tv,tv,tv⟩ (forall_cons tv forall_nil))))),tv,(forall_cons ⟨(lz rfl),(lz rfl),(lz rfl),dI _,dT _,dI _,tv⟩ (forall_cons ⟨dE _,(lz rfl),dI _,dI _,tv⟩ (forall_cons ⟨dE _,dC _,tv⟩ (forall_cons ⟨tv,tv,tv⟩ (forall_cons tv forall_nil)))))⟩
theorem l109vaciLcj:∀qq:Nat,(∀q0 q1 q2 q3 q4 q5 q6 p1 p2 v10 vb0_4_c vb0_4_n vb4_0 vb5_0 vb6_0 r,e109vaciLcj qq q0 q1 q2 q3 q4 q5 q6 p1 p2 v10 vb0_4_c vb0_4_n vb4_0 vb5_0 vb6_0=some r->(∀j,Dl Tryz.prog 5 (inn (inn (rgt (bod Tryz.f109)))) (g109vaciLcjE0 j q0 q1 q2 q3 q4 q5 q6 p1 p2 v10 vb0_4_c vb0_4_n vb4_0 vb5_0 vb6_0) (g109vaciLcjS0 q0 q1 q2 q3 q4 q5 q6 p1 p2 v10 vb0_4_c vb0_4_n vb4_0 vb5_0 vb6_0) (frameQ Tryz.prog 5 ((match (generalizing:=false) r with|Sum.inl x=>FinQ Tryz.prog 5 Tryz.f109 (.tup []) [.cells [.mp 1 0,.mp 3 0,.obj 4,.ms 5 0 (List.length x.1) (List.length x.1) 1,.ms 6 0 x.2.2.1 x.2.2.2.1 3,slv intC ([]:List Int) .nl],.cells [slv entL q0 .no,.mp 2 0,slv intC q3 .no,slv intC q4 .no],.cells [slv entL q1 .no,slv conL q2 .no],.cells [ai q5,ai q6],imap x.2.2.2.2,.row (flat intC x.1),.row (flat tmCells x.2.1)] 0|Sum.inr x=>FinQ Tryz.prog 5 Tryz.f109 (.tup []) [.cells [.mp 1 0,.mp 3 0,.obj 4,slv intC ([]:List Int) .nl,slv tmCells ([]:List Tm) .nl,slv intC ([]:List Int) .nl],.cells [slv entL q0 .no,.mp 2 0,slv intC q3 .no,slv intC q4 .no],.cells [slv entL q1 .no,slv conL q2 .no],.cells [ai q5,ai q6],imap x] 0)) [.blk 0]))):=by
 intro qq
 induction qq with
 |zero=>
  exact fun _ _ _ _ _ _ _ _ _ _ _ _ _ _ _ _ h=>nn h
 |succ qq ih=>
  intro q0 q1 q2 q3 q4 q5 q6 p1 p2 v10 vb0_4_c vb0_4_n vb4_0 vb5_0 vb6_0 r h
  rw[e109vaciLcj]at h
  rcases spl h with⟨h14,h⟩|⟨h14,h⟩
  obtain⟨x15,h16,h⟩:=obind h
  obtain⟨l17,h18,h⟩:=obind h
  obtain⟨x19,h20,h⟩:=obind h
  obtain⟨l21,h22,h⟩:=obind h
  obtain⟨l23,h24,h⟩:=obind h
  obtain⟨x25,h26,h⟩:=obind h
  obtain⟨x27,h28,h⟩:=obind h
  exact fun j=>lH 2 [] [0,1,2,3,4,7,8] [] [0,2,8,9,10] (oD (dI p1)<|oD (dT p2)<|oD (dT x27)<|oD (dI l17)<|oD (dC q2)<|oD (dE q1)<|oD (dI q4)<|oD (dI q3)<|oD (dE q0)<|oD (dI ([]:List Int))<|oW 0 (wtE (x:=x19) (cs:=[ai x19.k,ai x19.n,slv tmCells x19.sub .no]) codecT (by rw[tm_eq];rfl) h28)<|oA 0 (ixM23 (b:=8) (c:=List.length l23) (z:=3) h26)<|oM 0 (apRn23 h22 h24 (by simp))<|oS 2 (obLitR tm_eq [(Tm.mk 0 0 [])])<|oA 2 (ix23 (o:=.no) h20)<|oM 2 (apR41 h18 (by simp))<|oU 4 (muI181 vb4_0 x15 (vb0_4_n:Int))<|oA 0 (ix41 (o:=.no) h16)<|oB 0 h14 o0) (ih _ _ _ _ _ _ _ _ _ _ _ _ _ _ _ _ h)
  obtain rfl:=sj h
  exact fun j=>lG 0 [] [0,1,2,3,4,5,6] [] true (oD (dT vb6_0)<|oD (dI vb5_0)<|oD (dC q2)<|oD (dE q1)<|oD (dI q4)<|oD (dI q3)<|oD (dE q0)<|oD (dI ([]:List Int))<|oB 0 h14 o0)
theorem l109vaciLck(qq q0 q1 q2 q3 q4 q5 q6 q7 p1 p2 v10 r)(h:e109vaciLck qq q0 q1 q2 q3 q4 q5 q6 q7 p1 p2 v10=some r):(∀j,Dl Tryz.prog 5 (inn (inn (rgt (bod Tryz.f109)))) (g109vaciLckE0 j q0 q1 q2 q3 q4 q5 q6 q7 p1 p2 v10) (g109vaciLckS0 q0 q1 q2 q3 q4 q5 q6 q7 p1 p2 v10) (frameQ Tryz.prog 5 ((match (generalizing:=false) r with|Sum.inl x=>FinQ Tryz.prog 5 Tryz.f109 (.tup []) [.cells [.mp 1 0,.mp 3 0,.obj 4,.ms 5 0 (List.length x.1) (List.length x.1) 1,.ms 6 0 x.2.2.1 x.2.2.2.1 3,slv intC ([]:List Int) .nl],.cells [slv entL q0 .no,.mp 2 0,slv intC q3 .no,slv intC q4 .no],.cells [slv entL q1 .no,slv conL q2 .no],.cells [ai q5,ai q6],imap x.2.2.2.2,.row (flat intC x.1),.row (flat tmCells x.2.1)] 0|Sum.inr x=>FinQ Tryz.prog 5 Tryz.f109 (.tup []) [.cells [.mp 1 0,.mp 3 0,.obj 4,slv intC ([]:List Int) .nl,slv tmCells ([]:List Tm) .nl,slv intC ([]:List Int) .nl],.cells [slv entL q0 .no,.mp 2 0,slv intC q3 .no,slv intC q4 .no],.cells [slv entL q1 .no,slv conL q2 .no],.cells [ai q5,ai q6],imap x] 0)) [.blk 0])):=by
 unfold e109vaciLck at h
 rcases spl h with⟨h1,h⟩|⟨h1,h⟩
 obtain⟨x2,h3,h⟩:=obind h
 obtain⟨l4,h5,h⟩:=obind h
 obtain⟨x6,h7,h⟩:=obind h
 obtain⟨l8,h9,h⟩:=obind h
 obtain⟨x10,h11,h⟩:=obind h
 obtain⟨x12,h13,h⟩:=obind h
 exact fun j=>lH 2 [] [0,1,2,3,4,5,6] [] [0,2,8,9,10] (oD (dI p1)<|oD (dT p2)<|oD (dT x12)<|oD (dI l4)<|oD (dC q2)<|oD (dE q1)<|oD (dI q4)<|oD (dI q3)<|oD (dE q0)<|oD (dI ([]:List Int))<|oW 0 (wtE (x:=x6) (cs:=[ai x6.k,ai x6.n,slv tmCells x6.sub .no]) codecT (by rw[tm_eq];rfl) h13)<|oA 0 (ixM23 (b:=6) (c:=List.length l8) (z:=3) h11)<|oM 0 (apW23 h9 (by simp))<|oS 2 (obLitR tm_eq [(Tm.mk 0 0 [])])<|oA 2 (ix23 (o:=.no) h7)<|oM 2 (apW41 h5 (by simp))<|oU 4 (muI181 q7 x2 0)<|oA 0 (ix41 (o:=.no) h3)<|oB 0 h1 o0) (l109vaciLcj _ _ _ _ _ _ _ _ _ _ _ _ _ _ _ _ _ h)
 obtain rfl:=sj h
 exact fun j=>lG 0 [] [0,1,2,3,4] [] true (oD (dC q2)<|oD (dE q1)<|oD (dI q4)<|oD (dI q3)<|oD (dE q0)<|oD (dI ([]:List Int))<|oD (dT ([]:List Tm))<|oD (dI ([]:List Int))<|oB 0 h1 o0)
theorem c109vaci{qq q0 q1 q2 q3 q4 q5 q6 q7 p1 p2 r}(h:e109vaci qq q0 q1 q2 q3 q4 q5 q6 q7 p1 p2=some r):(match (generalizing:=false) r with|Sum.inl x=>K109vacis0 q0 q1 q2 q3 q4 q5 q6 q7 p1 p2 x Ct|Sum.inr x=>K109vacis1 q0 q1 q2 q3 q4 q5 q6 q7 p1 p2 x Ct):=by
 unfold e109vaci at h
 rcases r with y0|y1
 exact k109vacis0 (tH q109vaci 1 [] [0,1,2,3,4] [] [0,2,8,9,10] (oD (dI p1)<|oD (dT p2)<|oD (dC q2)<|oD (dE q1)<|oD (dI q4)<|oD (dI q3)<|oD (dE q0)<|oD (dI ([]:List Int))<|oD (dT ([]:List Tm))<|oD (dI ([]:List Int)) o0) (l109vaciLck qq _ _ _ _ _ _ _ _ _ _ _ _ h))
 exact k109vacis1 (tH q109vaci 1 [] [0,1,2,3,4] [] [0,2,8,9,10] (oD (dI p1)<|oD (dT p2)<|oD (dC q2)<|oD (dE q1)<|oD (dI q4)<|oD (dI q3)<|oD (dE q0)<|oD (dI ([]:List Int))<|oD (dT ([]:List Tm))<|oD (dI ([]:List Int)) o0) (l109vaciLck qq _ _ _ _ _ _ _ _ _ _ _ _ h))
def e109vaclLcm:Nat->(List Ent)->(List Ent)->(List Con')->(List Int)->(List Int)->Int->Int->(List Int)->(List Int)->(List Tm)->Int->Nat->Nat->(List (Int×Int))->(List Int)->(List Tm)->Option (List Int×List Tm×Nat×Nat×(List (Int×Int)))
 |0,_,_,_,_,_,_,_,_,_,_,_,_,_,_,_,_=>none
 |qq+1,q0,q1,q2,q3,q4,q5,q6,q12,p1,p2,v10,vb0_4_c,vb0_4_n,vb4_0,vb8_0,vb9_0=>
 if decide (v10<(List.length p1:Int))then
 gidx p1 v10>>=fun x2=>
 gapp 8 vb8_0 [x2]>>=fun l4=>
 gidx p2 v10>>=fun x6=>
 gfz vb0_4_n vb9_0>>=fun l8=>
 gapp 40 l8 [(Tm.mk 0 0 [])]>>=fun l10=>
 gchk (List.length l10) (vb0_4_n:Int)>>=fun x12=>
 gset l10 x12 x6>>=fun x14=>
 e109vaclLcm qq q0 q1 q2 q3 q4 q5 q6 q12 p1 p2 (w64 (v10+1)) (List.length l10) (List.length l10) (iset vb4_0 x2 (vb0_4_n:Int)) l4 x14
 else
 some (vb8_0,vb9_0,vb0_4_n,vb0_4_c,vb4_0)
def e109vacl(qq:Nat)(q0 q1:List Ent)(q2:List Con')(q3 q4:List Int)(q5 q6:Int)(q7:List (Int×Int))(q8:List Int)(q9:List Tm)(q10 q11:Nat)(q12 p1:List Int)(p2:List Tm):Option (List Int×List Tm×Nat×Nat×(List (Int×Int))):=
 e109vaclLcm qq q0 q1 q2 q3 q4 q5 q6 q12 p1 p2 0 q11 q10 q7 q8 q9
def g109vaclLcmE0(j:Nat->Value)(q0 q1:List Ent)(q2:List Con')(q3 q4:List Int)(q5 q6:Int)(q12 p1:List Int)(p2:List Tm)(v10:Int)(vb0_4_c vb0_4_n:Nat)(vb4_0:List (Int×Int))(vb8_0:List Int)(vb9_0:List Tm):=sp j 50 0 [(0,.mp 0 0),(2,slv tmCells p2 .no),(8,slv intC p1 .no),(9,ai (List.length p1:Int)),(10,ai v10)]
def g109vaclLcmS0(q0 q1:List Ent)(q2:List Con')(q3 q4:List Int)(q5 q6:Int)(q12 p1:List Int)(p2:List Tm)(v10:Int)(vb0_4_c vb0_4_n:Nat)(vb4_0:List (Int×Int))(vb8_0:List Int)(vb9_0:List Tm):LSt:=⟨[(0,.cells [.mp 1 0,.mp 3 0,.obj 4,.ms 8 0 (List.length vb8_0) (List.length vb8_0) 1,.ms 9 0 vb0_4_n vb0_4_c 3,.ms 7 0 (List.length q12) (List.length q12) 1]),(1,.cells [slv entL q0 .no,.mp 2 0,slv intC q3 .no,slv intC q4 .no]),(2,.cells [slv entL q1 .no,slv conL q2 .no]),(3,.cells [ai q5,ai q6]),(4,imap vb4_0),(5,.dead),(6,.dead),(7,.row (flat intC q12)),(8,.row (flat intC vb8_0)),(9,.row (flat tmCells vb9_0))],10,[],0,[]⟩
abbrev K109vacl (q0 q1:List Ent) (q2:List Con') (q3 q4:List Int) (q5 q6:Int) (q7:List (Int×Int)) (q8:List Int) (q9:List Tm) (q10 q11:Nat) (q12 p1:List Int) (p2:List Tm) (r:List Int×List Tm×Nat×Nat×(List (Int×Int))) (C:Cf):Prop:=C 109 [.cells [.mp 1 0,.mp 3 0,.obj 4,.ms 5 0 (List.length q8) (List.length q8) 1,.ms 6 0 q10 q11 3,.ms 7 0 (List.length q12) (List.length q12) 1],.cells [slv entL q0 .no,.mp 2 0,slv intC q3 .no,slv intC q4 .no],.cells [slv entL q1 .no,slv conL q2 .no],.cells [ai q5,ai q6],imap q7,.row (flat intC q8),.row (flat tmCells q9),.row (flat intC q12)] [.mp 0 0,slv intC p1 .no,slv tmCells p2 .no] (.tup []) [.cells [.mp 1 0,.mp 3 0,.obj 4,.ms 8 0 (List.length r.1) (List.length r.1) 1,.ms 9 0 r.2.2.1 r.2.2.2.1 3,.ms 7 0 (List.length q12) (List.length q12) 1],.cells [slv entL q0 .no,.mp 2 0,slv intC q3 .no,slv intC q4 .no],.cells [slv entL q1 .no,slv conL q2 .no],.cells [ai q5,ai q6],imap r.2.2.2.2,.dead,.dead,.row (flat intC q12),.row (flat intC r.1),.row (flat tmCells r.2.1)] 0
theorem q109vacl:Qf 109 Tryz.f109:=⟨Tryz.func109,by kernel_rfl⟩
theorem k109vacl{q0 q1 q2 q3 q4 q5 q6 q7 q8 q9 q10 q11 q12 p1 p2 r}(h:K109vacl q0 q1 q2 q3 q4 q5 q6 q7 q8 q9 q10 q11 q12 p1 p2 r Ci):K109vacl q0 q1 q2 q3 q4 q5 q6 q7 q8 q9 q10 q11 q12 p1 p2 r Ct:=⟨h,⟨(lz rfl),⟨tv,dI _⟩,⟨tv,dT _⟩,tv⟩,(forall_cons ⟨(lz rfl),(lz rfl),(lz rfl),(lz rfl),(lz rfl),(lz rfl),tv⟩ (forall_cons ⟨⟨tv,dE _⟩,(lz rfl),⟨tv,dI _⟩,⟨tv,dI _⟩,tv⟩ (forall_cons ⟨⟨tv,dE _⟩,⟨tv,dC _⟩,tv⟩ (forall_cons ⟨tv,tv,tv⟩ (forall_cons tv (forall_cons (dI _) (forall_cons (dT _) (forall_cons (dI _) forall_nil)))))))),tv,(forall_cons ⟨(lz rfl),(lz rfl),(lz rfl),(lz rfl),(lz rfl),(lz rfl),tv⟩ (forall_cons ⟨dE _,(lz rfl),dI _,dI _,tv⟩ (forall_cons ⟨dE _,dC _,tv⟩ (forall_cons ⟨tv,tv,tv⟩ (forall_cons tv (forall_cons tv (forall_cons tv (forall_cons (dI _) (forall_cons (dI _) (forall_cons (dT _) forall_nil))))))))))⟩
theorem l109vaclLcm:∀qq:Nat,(∀q0 q1 q2 q3 q4 q5 q6 q12 p1 p2 v10 vb0_4_c vb0_4_n vb4_0 vb8_0 vb9_0 r,e109vaclLcm qq q0 q1 q2 q3 q4 q5 q6 q12 p1 p2 v10 vb0_4_c vb0_4_n vb4_0 vb8_0 vb9_0=some r->(∀j,Dl Tryz.prog 8 (inn (inn (rgt (bod Tryz.f109)))) (g109vaclLcmE0 j q0 q1 q2 q3 q4 q5 q6 q12 p1 p2 v10 vb0_4_c vb0_4_n vb4_0 vb8_0 vb9_0) (g109vaclLcmS0 q0 q1 q2 q3 q4 q5 q6 q12 p1 p2 v10 vb0_4_c vb0_4_n vb4_0 vb8_0 vb9_0) (frameQ Tryz.prog 8 (FinQ Tryz.prog 8 Tryz.f109 (.tup []) [.cells [.mp 1 0,.mp 3 0,.obj 4,.ms 8 0 (List.length r.1) (List.length r.1) 1,.ms 9 0 r.2.2.1 r.2.2.2.1 3,.ms 7 0 (List.length q12) (List.length q12) 1],.cells [slv entL q0 .no,.mp 2 0,slv intC q3 .no,slv intC q4 .no],.cells [slv entL q1 .no,slv conL q2 .no],.cells [ai q5,ai q6],imap r.2.2.2.2,.dead,.dead,.row (flat intC q12),.row (flat intC r.1),.row (flat tmCells r.2.1)] 0) [.blk 0]))):=by
 intro qq
 induction qq with
 |zero=>
  exact fun _ _ _ _ _ _ _ _ _ _ _ _ _ _ _ _ _ h=>nn h
 |succ qq ih=>
  intro q0 q1 q2 q3 q4 q5 q6 q12 p1 p2 v10 vb0_4_c vb0_4_n vb4_0 vb8_0 vb9_0 r h
  rw[e109vaclLcm]at h
  rcases spl h with⟨h1,h⟩|⟨h1,h⟩
  obtain⟨x2,h3,h⟩:=obind h
  obtain⟨l4,h5,h⟩:=obind h
  obtain⟨x6,h7,h⟩:=obind h
  obtain⟨l8,h9,h⟩:=obind h
  obtain⟨l10,h11,h⟩:=obind h
  obtain⟨x12,h13,h⟩:=obind h
  obtain⟨x14,h15,h⟩:=obind h
  exact fun j=>lH 2 [] [0,1,2,3,4,5,6,7,10,11] [] [0,2,8,9,10] (oD (dI p1)<|oD (dT p2)<|oD (dT x14)<|oD (dI l4)<|oD (dI q12)<|oD (dC q2)<|oD (dE q1)<|oD (dI q4)<|oD (dI q3)<|oD (dE q0)<|oW 0 (wtE (x:=x6) (cs:=[ai x6.k,ai x6.n,slv tmCells x6.sub .no]) codecT (by rw[tm_eq];rfl) h15)<|oA 0 (ixM23 (b:=11) (c:=List.length l10) (z:=3) h13)<|oM 0 (apRn23 h9 h11 (by simp))<|oS 2 (obLitR tm_eq [(Tm.mk 0 0 [])])<|oA 2 (ix23 (o:=.no) h7)<|oM 2 (apR41 h5 (by simp))<|oU 4 (muI181 vb4_0 x2 (vb0_4_n:Int))<|oA 0 (ix41 (o:=.no) h3)<|oB 0 h1 o0) (ih _ _ _ _ _ _ _ _ _ _ _ _ _ _ _ _ _ h)
  obtain rfl:=sj h
  exact fun j=>lF 0 [0,1,2,3,4,5,6,7,8,9] (oD (dT vb9_0)<|oD (dI vb8_0)<|oD (dI q12)<|oD (dC q2)<|oD (dE q1)<|oD (dI q4)<|oD (dI q3)<|oD (dE q0)<|oB 0 h1 o0)
theorem c109vacl{qq q0 q1 q2 q3 q4 q5 q6 q7 q8 q9 q10 q11 q12 p1 p2 r}(h:e109vacl qq q0 q1 q2 q3 q4 q5 q6 q7 q8 q9 q10 q11 q12 p1 p2=some r):K109vacl q0 q1 q2 q3 q4 q5 q6 q7 q8 q9 q10 q11 q12 p1 p2 r Ct:=by
 unfold e109vacl at h
 exact k109vacl (tH q109vacl 1 [(some 5,0,0),(some 6,0,0)] [0,1,2,3,4,5,6,7,8,9] [] [0,2,8,9,10] (oD (dI p1)<|oD (dT p2)<|oD (dT q9)<|oD (dI q8)<|oD (dI q12)<|oD (dC q2)<|oD (dE q1)<|oD (dI q4)<|oD (dI q3)<|oD (dE q0) o0) (l109vaclLcm _ _ _ _ _ _ _ _ _ _ _ _ _ _ _ _ _ _ h))
def e110vacnLco:Nat->(List Ent)->(List Ent)->(List Con')->(List Int)->(List Int)->Int->Int->(List (Int×Int))->(List Int)->(List Tm)->Nat->Nat->CoverTree->(List Int)->(List Tm)->Int->(List Tm)->Option (LeafFound×Int)
 |0,_,_,_,_,_,_,_,_,_,_,_,_,_,_,_,_,_=>none
 |qq+1,q0,q1,q2,q3,q4,q5,q6,q7,q8,q9,q10,q11,p1,v7,v8,v58,vb8_2=>
 if decide (v58<(List.length p1.binds_:Int))then
 gidx p1.binds_ v58>>=fun x38=>
 e177 qq v7 v8 x38>>=fun r40=>
 if r40.2 != 0 then
 some ((LeafFound.mk false 0 [] []),r40.2)
 else
 gapp 40 vb8_2 [r40.1]>>=fun l43=>
 e110vacnLco qq q0 q1 q2 q3 q4 q5 q6 q7 q8 q9 q10 q11 p1 v7 v8 (w64 (v58+1)) l43
 else
 some ((LeafFound.mk true p1.row_ vb8_2 []),0)
def e110vacnLcp(qq:Nat)(q0 q1:List Ent)(q2:List Con')(q3 q4:List Int)(q5 q6:Int)(q7:List (Int×Int))(q8:List Int)(q9:List Tm)(q10 q11:Nat)(p1:CoverTree)(v7:List Int)(v8:List Tm)(v58:Int):Option (LeafFound×Int):=
 if decide (v58<(List.length p1.binds_:Int))then
 gidx p1.binds_ v58>>=fun x30=>
 e177 qq v7 v8 x30>>=fun r32=>
 if r32.2 != 0 then
 some ((LeafFound.mk false 0 [] []),r32.2)
 else
 gapp 40 ([]:List Tm) [r32.1]>>=fun l35=>
 e110vacnLco qq q0 q1 q2 q3 q4 q5 q6 q7 q8 q9 q10 q11 p1 v7 v8 (w64 (v58+1)) l35
 else
 some ((LeafFound.mk true p1.row_ [] []),0)
def e110vacnLcq:Nat->(List Ent)->(List Ent)->(List Con')->(List Int)->(List Int)->Int->Int->(List (Int×Int))->(List Int)->(List Tm)->Nat->Nat->CoverTree->Int->(List Int)->(List Tm)->Option (LeafFound×Int)
 |0,_,_,_,_,_,_,_,_,_,_,_,_,_,_,_,_=>none
 |qq+1,q0,q1,q2,q3,q4,q5,q6,q7,q8,q9,q10,q11,p1,v27,v7,v8=>
 if decide (v27<(List.length q8:Int))then
 gchk (List.length q8) v27>>=fun x16=>
 gidx q8 (x16:Int)>>=fun x18=>
 if (iget q7 x18)==v27 then
 gapp 8 v7 [x18]>>=fun l21=>
 gchk q10 v27>>=fun x23=>
 gidx q9 (x23:Int)>>=fun x25=>
 gapp 40 v8 [x25]>>=fun l27=>
 e110vacnLcq qq q0 q1 q2 q3 q4 q5 q6 q7 q8 q9 q10 q11 p1 (w64 (v27+1)) l21 l27
 else
 e110vacnLcq qq q0 q1 q2 q3 q4 q5 q6 q7 q8 q9 q10 q11 p1 (w64 (v27+1)) v7 v8
 else
 e110vacnLcp qq q0 q1 q2 q3 q4 q5 q6 q7 q8 q9 q10 q11 p1 v7 v8 0
def e110vacnLcr:Nat->(List Ent)->(List Ent)->(List Con')->(List Int)->(List Int)->Int->Int->(List (Int×Int))->(List Int)->(List Tm)->Nat->Nat->CoverTree->Int->(List Tm)->Option (LeafFound×Int)
 |0,_,_,_,_,_,_,_,_,_,_,_,_,_,_,_=>none
 |qq+1,q0,q1,q2,q3,q4,q5,q6,q7,q8,q9,q10,q11,p1,v58,vb8_2=>
 if decide (v58<(List.length p1.binds_:Int))then
 gidx p1.binds_ v58>>=fun x24=>
 e177 qq [] [] x24>>=fun r26=>
 if r26.2 != 0 then
 some ((LeafFound.mk false 0 [] []),r26.2)
 else
 gapp 40 vb8_2 [r26.1]>>=fun l29=>
 e110vacnLcr qq q0 q1 q2 q3 q4 q5 q6 q7 q8 q9 q10 q11 p1 (w64 (v58+1)) l29
 else
 some ((LeafFound.mk true p1.row_ vb8_2 []),0)
def e110vacnLcs(qq:Nat)(q0 q1:List Ent)(q2:List Con')(q3 q4:List Int)(q5 q6:Int)(q7:List (Int×Int))(q8:List Int)(q9:List Tm)(q10 q11:Nat)(p1:CoverTree)(v58:Int):Option (LeafFound×Int):=
 if decide (v58<(List.length p1.binds_:Int))then
 gidx p1.binds_ v58>>=fun x16=>
 e177 qq [] [] x16>>=fun r18=>
 if r18.2 != 0 then
 some ((LeafFound.mk false 0 [] []),r18.2)
 else
 gapp 40 ([]:List Tm) [r18.1]>>=fun l21=>
 e110vacnLcr qq q0 q1 q2 q3 q4 q5 q6 q7 q8 q9 q10 q11 p1 (w64 (v58+1)) l21
 else
 some ((LeafFound.mk true p1.row_ [] []),0)
def e110vacnLct:Nat->(List Ent)->(List Ent)->(List Con')->(List Int)->(List Int)->Int->Int->(List (Int×Int))->(List Int)->(List Tm)->Nat->Nat->CoverTree->Int->Option (LeafFound×Int)
 |0,_,_,_,_,_,_,_,_,_,_,_,_,_,_=>none
 |qq+1,q0,q1,q2,q3,q4,q5,q6,q7,q8,q9,q10,q11,p1,v27=>
 if decide (v27<(List.length q8:Int))then
 gchk (List.length q8) v27>>=fun x2=>
 gidx q8 (x2:Int)>>=fun x4=>
 if (iget q7 x4)==v27 then
 gapp 8 ([]:List Int) [x4]>>=fun l7=>
 gchk q10 v27>>=fun x9=>
 gidx q9 (x9:Int)>>=fun x11=>
 gapp 40 ([]:List Tm) [x11]>>=fun l13=>
 e110vacnLcq qq q0 q1 q2 q3 q4 q5 q6 q7 q8 q9 q10 q11 p1 (w64 (v27+1)) l7 l13
 else
 e110vacnLct qq q0 q1 q2 q3 q4 q5 q6 q7 q8 q9 q10 q11 p1 (w64 (v27+1))
 else
 e110vacnLcs qq q0 q1 q2 q3 q4 q5 q6 q7 q8 q9 q10 q11 p1 0
def e110vacn(qq:Nat)(q0 q1:List Ent)(q2:List Con')(q3 q4:List Int)(q5 q6:Int)(q7:List (Int×Int))(q8:List Int)(q9:List Tm)(q10 q11:Nat)(p1:CoverTree):Option (LeafFound×Int):=
 e110vacnLct qq q0 q1 q2 q3 q4 q5 q6 q7 q8 q9 q10 q11 p1 0
def g110vacnLctE0(j:Nat->Value)(q0 q1:List Ent)(q2:List Con')(q3 q4:List Int)(q5 q6:Int)(q7:List (Int×Int))(q8:List Int)(q9:List Tm)(q10 q11:Nat)(p1:CoverTree)(v27:Int):=sp j 81 0 [(0,.mp 0 0),(3,.mp 7 0),(4,.mp 8 0),(6,.mp 9 0),(7,slv intC ([]:List Int) .nl),(8,slv tmCells ([]:List Tm) .nl),(25,.ms 5 0 (List.length q8) (List.length q8) 1),(26,ai (List.length q8:Int)),(27,ai v27)]
def g110vacnLctS0(q0 q1:List Ent)(q2:List Con')(q3 q4:List Int)(q5 q6:Int)(q7:List (Int×Int))(q8:List Int)(q9:List Tm)(q10 q11:Nat)(p1:CoverTree)(v27:Int):LSt:=⟨[(0,.cells [.mp 1 0,.mp 3 0,.obj 4,.ms 5 0 (List.length q8) (List.length q8) 1,.ms 6 0 q10 q11 3,slv intC ([]:List Int) .nl]),(1,.cells [slv entL q0 .no,.mp 2 0,slv intC q3 .no,slv intC q4 .no]),(2,.cells [slv entL q1 .no,slv conL q2 .no]),(3,.cells [ai q5,ai q6]),(4,imap q7),(5,.row (flat intC q8)),(6,.row (flat tmCells q9)),(7,.cells [ai p1.kind_,ai p1.row_,ai p1.var_,slv freeVarL p1.vars_ .no,slv tmCells p1.binds_ .no,slv tmCells p1.args_ .no,slv coverKidC p1.kids_ .no]),(8,.cells [ab false,ai 0,slv tmCells ([]:List Tm) .nl,slv intC ([]:List Int) .nl]),(9,.cells [ab true,ai p1.row_,slv tmCells ([]:List Tm) .nl,slv intC ([]:List Int) .nl])],10,[],0,[]⟩
def g110vacnLcqE0(j:Nat->Value)(q0 q1:List Ent)(q2:List Con')(q3 q4:List Int)(q5 q6:Int)(q7:List (Int×Int))(q8:List Int)(q9:List Tm)(q10 q11:Nat)(p1:CoverTree)(v27:Int)(v7:List Int)(v8:List Tm):=sp j 81 0 [(0,.mp 0 0),(3,.mp 7 0),(4,.mp 8 0),(6,.mp 9 0),(7,slv intC v7 (.st 0 1)),(8,slv tmCells v8 (.st 1 3)),(25,.ms 5 0 (List.length q8) (List.length q8) 1),(26,ai (List.length q8:Int)),(27,ai v27)]
def g110vacnLcqS0(q0 q1:List Ent)(q2:List Con')(q3 q4:List Int)(q5 q6:Int)(q7:List (Int×Int))(q8:List Int)(q9:List Tm)(q10 q11:Nat)(p1:CoverTree)(v27:Int)(v7:List Int)(v8:List Tm):LSt:=⟨[(0,.cells [.mp 1 0,.mp 3 0,.obj 4,.ms 5 0 (List.length q8) (List.length q8) 1,.ms 6 0 q10 q11 3,slv intC ([]:List Int) .nl]),(1,.cells [slv entL q0 .no,.mp 2 0,slv intC q3 .no,slv intC q4 .no]),(2,.cells [slv entL q1 .no,slv conL q2 .no]),(3,.cells [ai q5,ai q6]),(4,imap q7),(5,.row (flat intC q8)),(6,.row (flat tmCells q9)),(7,.cells [ai p1.kind_,ai p1.row_,ai p1.var_,slv freeVarL p1.vars_ .no,slv tmCells p1.binds_ .no,slv tmCells p1.args_ .no,slv coverKidC p1.kids_ .no]),(8,.cells [ab false,ai 0,slv tmCells ([]:List Tm) .nl,slv intC ([]:List Int) .nl]),(9,.cells [ab true,ai p1.row_,slv tmCells ([]:List Tm) .nl,slv intC ([]:List Int) .nl])],10,[0,1],2,[]⟩
def g110vacnLcpE0(j:Nat->Value)(q0 q1:List Ent)(q2:List Con')(q3 q4:List Int)(q5 q6:Int)(q7:List (Int×Int))(q8:List Int)(q9:List Tm)(q10 q11:Nat)(p1:CoverTree)(v7:List Int)(v8:List Tm)(v58:Int):=sp j 81 0 [(4,.mp 7 0),(6,.mp 8 0),(7,slv intC v7 (.st 0 1)),(8,slv tmCells v8 (.st 1 3)),(56,slv tmCells p1.binds_ .no),(57,ai (List.length p1.binds_:Int)),(58,ai v58)]
def g110vacnLcpS0(q0 q1:List Ent)(q2:List Con')(q3 q4:List Int)(q5 q6:Int)(q7:List (Int×Int))(q8:List Int)(q9:List Tm)(q10 q11:Nat)(p1:CoverTree)(v7:List Int)(v8:List Tm)(v58:Int):LSt:=⟨[(0,.cells [.mp 1 0,.mp 3 0,.obj 4,.ms 5 0 (List.length q8) (List.length q8) 1,.ms 6 0 q10 q11 3,slv intC ([]:List Int) .nl]),(1,.cells [slv entL q0 .no,.mp 2 0,slv intC q3 .no,slv intC q4 .no]),(2,.cells [slv entL q1 .no,slv conL q2 .no]),(3,.cells [ai q5,ai q6]),(4,imap q7),(5,.row (flat intC q8)),(6,.row (flat tmCells q9)),(7,.cells [ab false,ai 0,slv tmCells ([]:List Tm) .nl,slv intC ([]:List Int) .nl]),(8,.cells [ab true,ai p1.row_,slv tmCells ([]:List Tm) .nl,slv intC ([]:List Int) .nl])],9,[0,1],2,[]⟩
def g110vacnLcoE0(j:Nat->Value)(q0 q1:List Ent)(q2:List Con')(q3 q4:List Int)(q5 q6:Int)(q7:List (Int×Int))(q8:List Int)(q9:List Tm)(q10 q11:Nat)(p1:CoverTree)(v7:List Int)(v8:List Tm)(v58:Int)(vb8_2:List Tm):=sp j 81 0 [(4,.mp 7 0),(6,.mp 8 0),(7,slv intC v7 (.st 0 1)),(8,slv tmCells v8 (.st 1 3)),(56,slv tmCells p1.binds_ .no),(57,ai (List.length p1.binds_:Int)),(58,ai v58)]
def g110vacnLcoS0(q0 q1:List Ent)(q2:List Con')(q3 q4:List Int)(q5 q6:Int)(q7:List (Int×Int))(q8:List Int)(q9:List Tm)(q10 q11:Nat)(p1:CoverTree)(v7:List Int)(v8:List Tm)(v58:Int)(vb8_2:List Tm):LSt:=⟨[(0,.cells [.mp 1 0,.mp 3 0,.obj 4,.ms 5 0 (List.length q8) (List.length q8) 1,.ms 6 0 q10 q11 3,slv intC ([]:List Int) .nl]),(1,.cells [slv entL q0 .no,.mp 2 0,slv intC q3 .no,slv intC q4 .no]),(2,.cells [slv entL q1 .no,slv conL q2 .no]),(3,.cells [ai q5,ai q6]),(4,imap q7),(5,.row (flat intC q8)),(6,.row (flat tmCells q9)),(7,.cells [ab false,ai 0,slv tmCells ([]:List Tm) .nl,slv intC ([]:List Int) .nl]),(8,.cells [ab true,ai p1.row_,slv tmCells vb8_2 (.st 2 3),slv intC ([]:List Int) .nl])],9,[0,1,2],3,[]⟩
def g110vacnLcsE0(j:Nat->Value)(q0 q1:List Ent)(q2:List Con')(q3 q4:List Int)(q5 q6:Int)(q7:List (Int×Int))(q8:List Int)(q9:List Tm)(q10 q11:Nat)(p1:CoverTree)(v58:Int):=sp j 81 0 [(4,.mp 7 0),(6,.mp 8 0),(7,slv intC ([]:List Int) .nl),(8,slv tmCells ([]:List Tm) .nl),(56,slv tmCells p1.binds_ .no),(57,ai (List.length p1.binds_:Int)),(58,ai v58)]
def g110vacnLcsS0(q0 q1:List Ent)(q2:List Con')(q3 q4:List Int)(q5 q6:Int)(q7:List (Int×Int))(q8:List Int)(q9:List Tm)(q10 q11:Nat)(p1:CoverTree)(v58:Int):LSt:=⟨[(0,.cells [.mp 1 0,.mp 3 0,.obj 4,.ms 5 0 (List.length q8) (List.length q8) 1,.ms 6 0 q10 q11 3,slv intC ([]:List Int) .nl]),(1,.cells [slv entL q0 .no,.mp 2 0,slv intC q3 .no,slv intC q4 .no]),(2,.cells [slv entL q1 .no,slv conL q2 .no]),(3,.cells [ai q5,ai q6]),(4,imap q7),(5,.row (flat intC q8)),(6,.row (flat tmCells q9)),(7,.cells [ab false,ai 0,slv tmCells ([]:List Tm) .nl,slv intC ([]:List Int) .nl]),(8,.cells [ab true,ai p1.row_,slv tmCells ([]:List Tm) .nl,slv intC ([]:List Int) .nl])],9,[],0,[]⟩
def g110vacnLcrE0(j:Nat->Value)(q0 q1:List Ent)(q2:List Con')(q3 q4:List Int)(q5 q6:Int)(q7:List (Int×Int))(q8:List Int)(q9:List Tm)(q10 q11:Nat)(p1:CoverTree)(v58:Int)(vb8_2:List Tm):=sp j 81 0 [(4,.mp 7 0),(6,.mp 8 0),(7,slv intC ([]:List Int) .nl),(8,slv tmCells ([]:List Tm) .nl),(56,slv tmCells p1.binds_ .no),(57,ai (List.length p1.binds_:Int)),(58,ai v58)]
def g110vacnLcrS0(q0 q1:List Ent)(q2:List Con')(q3 q4:List Int)(q5 q6:Int)(q7:List (Int×Int))(q8:List Int)(q9:List Tm)(q10 q11:Nat)(p1:CoverTree)(v58:Int)(vb8_2:List Tm):LSt:=⟨[(0,.cells [.mp 1 0,.mp 3 0,.obj 4,.ms 5 0 (List.length q8) (List.length q8) 1,.ms 6 0 q10 q11 3,slv intC ([]:List Int) .nl]),(1,.cells [slv entL q0 .no,.mp 2 0,slv intC q3 .no,slv intC q4 .no]),(2,.cells [slv entL q1 .no,slv conL q2 .no]),(3,.cells [ai q5,ai q6]),(4,imap q7),(5,.row (flat intC q8)),(6,.row (flat tmCells q9)),(7,.cells [ab false,ai 0,slv tmCells ([]:List Tm) .nl,slv intC ([]:List Int) .nl]),(8,.cells [ab true,ai p1.row_,slv tmCells vb8_2 (.st 0 3),slv intC ([]:List Int) .nl])],9,[0],1,[]⟩
abbrev K110vacn (q0 q1:List Ent) (q2:List Con') (q3 q4:List Int) (q5 q6:Int) (q7:List (Int×Int)) (q8:List Int) (q9:List Tm) (q10 q11:Nat) (p1:CoverTree) (r:LeafFound×Int) (C:Cf):Prop:=C 110 [.cells [.mp 1 0,.mp 3 0,.obj 4,.ms 5 0 (List.length q8) (List.length q8) 1,.ms 6 0 q10 q11 3,slv intC ([]:List Int) .nl],.cells [slv entL q0 .no,.mp 2 0,slv intC q3 .no,slv intC q4 .no],.cells [slv entL q1 .no,slv conL q2 .no],.cells [ai q5,ai q6],imap q7,.row (flat intC q8),.row (flat tmCells q9)] [.mp 0 0,coverTreeA p1] (.tup [leafFoundA r.1,ai r.2]) [.cells [.mp 1 0,.mp 3 0,.obj 4,.ms 5 0 (List.length q8) (List.length q8) 1,.ms 6 0 q10 q11 3,slv intC ([]:List Int) .nl],.cells [slv entL q0 .no,.mp 2 0,slv intC q3 .no,slv intC q4 .no],.cells [slv entL q1 .no,slv conL q2 .no],.cells [ai q5,ai q6],imap q7,.row (flat intC q8),.row (flat tmCells q9)] 0
theorem q110vacn:Qf 110 Tryz.f110:=⟨Tryz.func110,by kernel_rfl⟩
theorem k110vacn{q0 q1 q2 q3 q4 q5 q6 q7 q8 q9 q10 q11 p1 r}(h:K110vacn q0 q1 q2 q3 q4 q5 q6 q7 q8 q9 q10 q11 p1 r Ci):K110vacn q0 q1 q2 q3 q4 q5 q6 q7 q8 q9 q10 q11 p1 r Ct:=⟨h,⟨(lz rfl),⟨tv,tv,tv,⟨tv,dFreeVar _⟩,⟨tv,dT _⟩,⟨tv,dT _⟩,⟨tv,dCoverKid _⟩,tv⟩,tv⟩,(forall_cons ⟨(lz rfl),(lz rfl),(lz rfl),(lz rfl),(lz rfl),⟨tv,dI _⟩,tv⟩ (forall_cons ⟨⟨tv,dE _⟩,(lz rfl),⟨tv,dI _⟩,⟨tv,dI _⟩,tv⟩ (forall_cons ⟨⟨tv,dE _⟩,⟨tv,dC _⟩,tv⟩ (forall_cons ⟨tv,tv,tv⟩ (forall_cons tv (forall_cons (dI _) (forall_cons (dT _) forall_nil))))))),⟨⟨tv,tv,dT _,dI _,tv⟩,tv,tv⟩,(forall_cons ⟨(lz rfl),(lz rfl),(lz rfl),(lz rfl),(lz rfl),dI _,tv⟩ (forall_cons ⟨dE _,(lz rfl),dI _,dI _,tv⟩ (forall_cons ⟨dE _,dC _,tv⟩ (forall_cons ⟨tv,tv,tv⟩ (forall_cons tv (forall_cons (dI _) (forall_cons (dT _) forall_nil)))))))⟩
theorem l110vacnLco:∀qq:Nat,(∀q0 q1 q2 q3 q4 q5 q6 q7 q8 q9 q10 q11 p1 v7 v8 v58 vb8_2 r,e110vacnLco qq q0 q1 q2 q3 q4 q5 q6 q7 q8 q9 q10 q11 p1 v7 v8 v58 vb8_2=some r->(∀j,Dl Tryz.prog 7 (inn (inn (rgt (lft (rgt (rgt (rgt (rgt (rgt (bod Tryz.f110)))))))))) (g110vacnLcoE0 j q0 q1 q2 q3 q4 q5 q6 q7 q8 q9 q10 q11 p1 v7 v8 v58 vb8_2) (g110vacnLcoS0 q0 q1 q2 q3 q4 q5 q6 q7 q8 q9 q10 q11 p1 v7 v8 v58 vb8_2) (frameQ Tryz.prog 7 (FinQ Tryz.prog 7 Tryz.f110 (.tup [leafFoundA r.1,ai r.2]) [.cells [.mp 1 0,.mp 3 0,.obj 4,.ms 5 0 (List.length q8) (List.length q8) 1,.ms 6 0 q10 q11 3,slv intC ([]:List Int) .nl],.cells [slv entL q0 .no,.mp 2 0,slv intC q3 .no,slv intC q4 .no],.cells [slv entL q1 .no,slv conL q2 .no],.cells [ai q5,ai q6],imap q7,.row (flat intC q8),.row (flat tmCells q9)] 0) [.blk 2,.seq (rgt (rgt (rgt (rgt (rgt (rgt (bod Tryz.f110)))))))]))):=by
 intro qq
 induction qq with
 |zero=>
  exact fun _ _ _ _ _ _ _ _ _ _ _ _ _ _ _ _ _ _ h=>nn h
 |succ qq ih=>
  intro q0 q1 q2 q3 q4 q5 q6 q7 q8 q9 q10 q11 p1 v7 v8 v58 vb8_2 r h
  rw[e110vacnLco]at h
  rcases spl h with⟨h37,h⟩|⟨h37,h⟩
  obtain⟨x38,h39,h⟩:=obind h
  obtain⟨r40,h41,h⟩:=obind h
  have k:=oC 3 [] (c177 h41)<|oA 0 (ix23 (o:=.no) h39)<|oB 0 h37 o0
  rcases spl h with⟨h42,h⟩|⟨h42,h⟩
  obtain rfl:=sj h
  exact fun j=>lG 1 [] [0,1,2,3,4,5,6] [] true (oD (dI ([]:List Int))<|oD (dT ([]:List Tm))<|oD (dT q9)<|oD (dI q8)<|oD (dC q2)<|oD (dE q1)<|oD (dI q4)<|oD (dI q3)<|oD (dE q0)<|oD (dI ([]:List Int))<|oB 3 h42 k)
  obtain⟨l43,h44,h⟩:=obind h
  exact fun j=>lH 2 [] [0,1,2,3,4,5,6,7,8] [0,1,3] [4,6,7,8,56,57,58] (oD (dT p1.binds_)<|oD (dT v8)<|oD (dI v7)<|oD (dI ([]:List Int))<|oD (dT l43)<|oD (dI ([]:List Int))<|oD (dT ([]:List Tm))<|oD (dT q9)<|oD (dI q8)<|oD (dC q2)<|oD (dE q1)<|oD (dI q4)<|oD (dI q3)<|oD (dE q0)<|oD (dI ([]:List Int))<|oP 0 (apS23 h44 (by simp))<|oS 2 (obLitR tm_eq [r40.1])<|oB 3 h42 k) (ih _ _ _ _ _ _ _ _ _ _ _ _ _ _ _ _ _ _ h)
  obtain rfl:=sj h
  exact fun j=>lG 2 [] [0,1,2,3,4,5,6] [] true (oD (dI ([]:List Int))<|oD (dT vb8_2)<|oD (dT q9)<|oD (dI q8)<|oD (dC q2)<|oD (dE q1)<|oD (dI q4)<|oD (dI q3)<|oD (dE q0)<|oD (dI ([]:List Int))<|oB 0 h37 o0)
theorem l110vacnLcp(qq q0 q1 q2 q3 q4 q5 q6 q7 q8 q9 q10 q11 p1 v7 v8 v58 r)(h:e110vacnLcp qq q0 q1 q2 q3 q4 q5 q6 q7 q8 q9 q10 q11 p1 v7 v8 v58=some r):(∀j,Dl Tryz.prog 7 (inn (inn (rgt (lft (rgt (rgt (rgt (rgt (rgt (bod Tryz.f110)))))))))) (g110vacnLcpE0 j q0 q1 q2 q3 q4 q5 q6 q7 q8 q9 q10 q11 p1 v7 v8 v58) (g110vacnLcpS0 q0 q1 q2 q3 q4 q5 q6 q7 q8 q9 q10 q11 p1 v7 v8 v58) (frameQ Tryz.prog 7 (FinQ Tryz.prog 7 Tryz.f110 (.tup [leafFoundA r.1,ai r.2]) [.cells [.mp 1 0,.mp 3 0,.obj 4,.ms 5 0 (List.length q8) (List.length q8) 1,.ms 6 0 q10 q11 3,slv intC ([]:List Int) .nl],.cells [slv entL q0 .no,.mp 2 0,slv intC q3 .no,slv intC q4 .no],.cells [slv entL q1 .no,slv conL q2 .no],.cells [ai q5,ai q6],imap q7,.row (flat intC q8),.row (flat tmCells q9)] 0) [.blk 2,.seq (rgt (rgt (rgt (rgt (rgt (rgt (bod Tryz.f110)))))))])):=by
 unfold e110vacnLcp at h
 rcases spl h with⟨h29,h⟩|⟨h29,h⟩
 obtain⟨x30,h31,h⟩:=obind h
 obtain⟨r32,h33,h⟩:=obind h
 have k:=oC 3 [] (c177 h33)<|oA 0 (ix23 (o:=.no) h31)<|oB 0 h29 o0
 rcases spl h with⟨h34,h⟩|⟨h34,h⟩
 obtain rfl:=sj h
 exact fun j=>lG 1 [] [0,1,2,3,4,5,6] [] true (oD (dI ([]:List Int))<|oD (dT ([]:List Tm))<|oD (dT q9)<|oD (dI q8)<|oD (dC q2)<|oD (dE q1)<|oD (dI q4)<|oD (dI q3)<|oD (dE q0)<|oD (dI ([]:List Int))<|oB 3 h34 k)
 obtain⟨l35,h36,h⟩:=obind h
 exact fun j=>lH 2 [] [0,1,2,3,4,5,6,7,8] [0,1,2] [4,6,7,8,56,57,58] (oD (dT p1.binds_)<|oD (dT v8)<|oD (dI v7)<|oD (dI ([]:List Int))<|oD (dT l35)<|oD (dI ([]:List Int))<|oD (dT ([]:List Tm))<|oD (dT q9)<|oD (dI q8)<|oD (dC q2)<|oD (dE q1)<|oD (dI q4)<|oD (dI q3)<|oD (dE q0)<|oD (dI ([]:List Int))<|oP 0 (apS23 h36 (by simp))<|oS 2 (obLitR tm_eq [r32.1])<|oB 3 h34 k) (l110vacnLco _ _ _ _ _ _ _ _ _ _ _ _ _ _ _ _ _ _ _ h)
 obtain rfl:=sj h
 exact fun j=>lG 2 [] [0,1,2,3,4,5,6] [] true (oD (dI ([]:List Int))<|oD (dT ([]:List Tm))<|oD (dT q9)<|oD (dI q8)<|oD (dC q2)<|oD (dE q1)<|oD (dI q4)<|oD (dI q3)<|oD (dE q0)<|oD (dI ([]:List Int))<|oB 0 h29 o0)
theorem l110vacnLcq:∀qq:Nat,(∀q0 q1 q2 q3 q4 q5 q6 q7 q8 q9 q10 q11 p1 v27 v7 v8 r,e110vacnLcq qq q0 q1 q2 q3 q4 q5 q6 q7 q8 q9 q10 q11 p1 v27 v7 v8=some r->(∀j,Dl Tryz.prog 7 (inn (inn (rgt (lft (rgt (rgt (rgt (rgt (bod Tryz.f110))))))))) (g110vacnLcqE0 j q0 q1 q2 q3 q4 q5 q6 q7 q8 q9 q10 q11 p1 v27 v7 v8) (g110vacnLcqS0 q0 q1 q2 q3 q4 q5 q6 q7 q8 q9 q10 q11 p1 v27 v7 v8) (frameQ Tryz.prog 7 (FinQ Tryz.prog 7 Tryz.f110 (.tup [leafFoundA r.1,ai r.2]) [.cells [.mp 1 0,.mp 3 0,.obj 4,.ms 5 0 (List.length q8) (List.length q8) 1,.ms 6 0 q10 q11 3,slv intC ([]:List Int) .nl],.cells [slv entL q0 .no,.mp 2 0,slv intC q3 .no,slv intC q4 .no],.cells [slv entL q1 .no,slv conL q2 .no],.cells [ai q5,ai q6],imap q7,.row (flat intC q8),.row (flat tmCells q9)] 0) [.blk 0,.seq (rgt (rgt (rgt (rgt (rgt (bod Tryz.f110))))))]))):=by
 intro qq
 induction qq with
 |zero=>
  exact fun _ _ _ _ _ _ _ _ _ _ _ _ _ _ _ _ _ h=>nn h
 |succ qq ih=>
  intro q0 q1 q2 q3 q4 q5 q6 q7 q8 q9 q10 q11 p1 v27 v7 v8 r h
  rw[e110vacnLcq]at h
  rcases spl h with⟨h15,h⟩|⟨h15,h⟩
  obtain⟨x16,h17,h⟩:=obind h
  obtain⟨x18,h19,h⟩:=obind h
  have k:=oL 1 (lkI181 q7 x18)<|oG (a:=(ai x18)) 0 (ldE codecI h19 (false,1) (val:=ai x18) rfl)<|oA 0 (ixM41 (b:=5) (c:=List.length q8) (z:=1) h17)<|oB 0 h15 o0
  rcases spl h with⟨h20,h⟩|⟨h20,h⟩
  obtain⟨l21,h22,h⟩:=obind h
  obtain⟨x23,h24,h⟩:=obind h
  obtain⟨x25,h26,h⟩:=obind h
  obtain⟨l27,h28,h⟩:=obind h
  exact fun j=>lH 1 [] [0,1,2,3,4,5,6,7,8,9] [2,3] [0,3,4,6,7,8,25,26,27] (oD (dT l27)<|oD (dI l21)<|oD (dI ([]:List Int))<|oD (dT ([]:List Tm))<|oD (dI ([]:List Int))<|oD (dT ([]:List Tm))<|oD (dCoverKid p1.kids_)<|oD (dT p1.args_)<|oD (dT p1.binds_)<|oD (dFreeVar p1.vars_)<|oD (dT q9)<|oD (dI q8)<|oD (dC q2)<|oD (dE q1)<|oD (dI q4)<|oD (dI q3)<|oD (dE q0)<|oD (dI ([]:List Int))<|oP 0 (apS23 h28 (by simp))<|oS 0 (obLitR tm_eq [x25])<|oG (a:=(.agg [ai x25.k,ai x25.n,slv tmCells x25.sub .no])) 0 (ldE codecT h26 (true,3) (val:=.agg [ai x25.k,ai x25.n,slv tmCells x25.sub .no]) (by rw[tm_eq];rfl))<|oA 1 (ixM23 (b:=6) (c:=q11) (z:=3) h24)<|oP 1 (apS41 h22 (by simp))<|oB 0 h20 k) (ih _ _ _ _ _ _ _ _ _ _ _ _ _ _ _ _ _ h)
  exact fun j=>lH 1 [] [0,1,2,3,4,5,6,7,8,9] [0,1] [0,3,4,6,7,8,25,26,27] (oD (dT v8)<|oD (dI v7)<|oD (dI ([]:List Int))<|oD (dT ([]:List Tm))<|oD (dI ([]:List Int))<|oD (dT ([]:List Tm))<|oD (dCoverKid p1.kids_)<|oD (dT p1.args_)<|oD (dT p1.binds_)<|oD (dFreeVar p1.vars_)<|oD (dT q9)<|oD (dI q8)<|oD (dC q2)<|oD (dE q1)<|oD (dI q4)<|oD (dI q3)<|oD (dE q0)<|oD (dI ([]:List Int))<|oB 0 h20 k) (ih _ _ _ _ _ _ _ _ _ _ _ _ _ _ _ _ _ h)
  exact fun j=>lH 2 [] [0,1,2,3,4,5,6,8,9] [0,1] [4,6,7,8,56,57,58] (oD (dT p1.binds_)<|oD (dT v8)<|oD (dI v7)<|oD (dI ([]:List Int))<|oD (dT ([]:List Tm))<|oD (dI ([]:List Int))<|oD (dT ([]:List Tm))<|oD (dT q9)<|oD (dI q8)<|oD (dC q2)<|oD (dE q1)<|oD (dI q4)<|oD (dI q3)<|oD (dE q0)<|oD (dI ([]:List Int))<|oB 0 h15 o0) (l110vacnLcp qq _ _ _ _ _ _ _ _ _ _ _ _ _ _ _ _ _ h)
theorem l110vacnLcr:∀qq:Nat,(∀q0 q1 q2 q3 q4 q5 q6 q7 q8 q9 q10 q11 p1 v58 vb8_2 r,e110vacnLcr qq q0 q1 q2 q3 q4 q5 q6 q7 q8 q9 q10 q11 p1 v58 vb8_2=some r->(∀j,Dl Tryz.prog 7 (inn (inn (rgt (lft (rgt (rgt (rgt (rgt (rgt (bod Tryz.f110)))))))))) (g110vacnLcrE0 j q0 q1 q2 q3 q4 q5 q6 q7 q8 q9 q10 q11 p1 v58 vb8_2) (g110vacnLcrS0 q0 q1 q2 q3 q4 q5 q6 q7 q8 q9 q10 q11 p1 v58 vb8_2) (frameQ Tryz.prog 7 (FinQ Tryz.prog 7 Tryz.f110 (.tup [leafFoundA r.1,ai r.2]) [.cells [.mp 1 0,.mp 3 0,.obj 4,.ms 5 0 (List.length q8) (List.length q8) 1,.ms 6 0 q10 q11 3,slv intC ([]:List Int) .nl],.cells [slv entL q0 .no,.mp 2 0,slv intC q3 .no,slv intC q4 .no],.cells [slv entL q1 .no,slv conL q2 .no],.cells [ai q5,ai q6],imap q7,.row (flat intC q8),.row (flat tmCells q9)] 0) [.blk 2,.seq (rgt (rgt (rgt (rgt (rgt (rgt (bod Tryz.f110)))))))]))):=by
 intro qq
 induction qq with
 |zero=>
  exact fun _ _ _ _ _ _ _ _ _ _ _ _ _ _ _ _ h=>nn h
 |succ qq ih=>
  intro q0 q1 q2 q3 q4 q5 q6 q7 q8 q9 q10 q11 p1 v58 vb8_2 r h
  rw[e110vacnLcr]at h
  rcases spl h with⟨h23,h⟩|⟨h23,h⟩
  obtain⟨x24,h25,h⟩:=obind h
  obtain⟨r26,h27,h⟩:=obind h
  have k:=oC 3 [] (c177 h27)<|oA 0 (ix23 (o:=.no) h25)<|oB 0 h23 o0
  rcases spl h with⟨h28,h⟩|⟨h28,h⟩
  obtain rfl:=sj h
  exact fun j=>lG 1 [] [0,1,2,3,4,5,6] [] true (oD (dI ([]:List Int))<|oD (dT ([]:List Tm))<|oD (dT q9)<|oD (dI q8)<|oD (dC q2)<|oD (dE q1)<|oD (dI q4)<|oD (dI q3)<|oD (dE q0)<|oD (dI ([]:List Int))<|oB 3 h28 k)
  obtain⟨l29,h30,h⟩:=obind h
  exact fun j=>lH 2 [] [0,1,2,3,4,5,6,7,8] [1] [4,6,7,8,56,57,58] (oD (dT p1.binds_)<|oD (dT ([]:List Tm))<|oD (dI ([]:List Int))<|oD (dI ([]:List Int))<|oD (dT l29)<|oD (dI ([]:List Int))<|oD (dT ([]:List Tm))<|oD (dT q9)<|oD (dI q8)<|oD (dC q2)<|oD (dE q1)<|oD (dI q4)<|oD (dI q3)<|oD (dE q0)<|oD (dI ([]:List Int))<|oP 0 (apS23 h30 (by simp))<|oS 2 (obLitR tm_eq [r26.1])<|oB 3 h28 k) (ih _ _ _ _ _ _ _ _ _ _ _ _ _ _ _ _ h)
  obtain rfl:=sj h
  exact fun j=>lG 2 [] [0,1,2,3,4,5,6] [] true (oD (dI ([]:List Int))<|oD (dT vb8_2)<|oD (dT q9)<|oD (dI q8)<|oD (dC q2)<|oD (dE q1)<|oD (dI q4)<|oD (dI q3)<|oD (dE q0)<|oD (dI ([]:List Int))<|oB 0 h23 o0)
theorem l110vacnLcs(qq q0 q1 q2 q3 q4 q5 q6 q7 q8 q9 q10 q11 p1 v58 r)(h:e110vacnLcs qq q0 q1 q2 q3 q4 q5 q6 q7 q8 q9 q10 q11 p1 v58=some r):(∀j,Dl Tryz.prog 7 (inn (inn (rgt (lft (rgt (rgt (rgt (rgt (rgt (bod Tryz.f110)))))))))) (g110vacnLcsE0 j q0 q1 q2 q3 q4 q5 q6 q7 q8 q9 q10 q11 p1 v58) (g110vacnLcsS0 q0 q1 q2 q3 q4 q5 q6 q7 q8 q9 q10 q11 p1 v58) (frameQ Tryz.prog 7 (FinQ Tryz.prog 7 Tryz.f110 (.tup [leafFoundA r.1,ai r.2]) [.cells [.mp 1 0,.mp 3 0,.obj 4,.ms 5 0 (List.length q8) (List.length q8) 1,.ms 6 0 q10 q11 3,slv intC ([]:List Int) .nl],.cells [slv entL q0 .no,.mp 2 0,slv intC q3 .no,slv intC q4 .no],.cells [slv entL q1 .no,slv conL q2 .no],.cells [ai q5,ai q6],imap q7,.row (flat intC q8),.row (flat tmCells q9)] 0) [.blk 2,.seq (rgt (rgt (rgt (rgt (rgt (rgt (bod Tryz.f110)))))))])):=by
 unfold e110vacnLcs at h
 rcases spl h with⟨h15,h⟩|⟨h15,h⟩
 obtain⟨x16,h17,h⟩:=obind h
 obtain⟨r18,h19,h⟩:=obind h
 have k:=oC 3 [] (c177 h19)<|oA 0 (ix23 (o:=.no) h17)<|oB 0 h15 o0
 rcases spl h with⟨h20,h⟩|⟨h20,h⟩
 obtain rfl:=sj h
 exact fun j=>lG 1 [] [0,1,2,3,4,5,6] [] true (oD (dI ([]:List Int))<|oD (dT ([]:List Tm))<|oD (dT q9)<|oD (dI q8)<|oD (dC q2)<|oD (dE q1)<|oD (dI q4)<|oD (dI q3)<|oD (dE q0)<|oD (dI ([]:List Int))<|oB 3 h20 k)
 obtain⟨l21,h22,h⟩:=obind h
 exact fun j=>lH 2 [] [0,1,2,3,4,5,6,7,8] [0] [4,6,7,8,56,57,58] (oD (dT p1.binds_)<|oD (dT ([]:List Tm))<|oD (dI ([]:List Int))<|oD (dI ([]:List Int))<|oD (dT l21)<|oD (dI ([]:List Int))<|oD (dT ([]:List Tm))<|oD (dT q9)<|oD (dI q8)<|oD (dC q2)<|oD (dE q1)<|oD (dI q4)<|oD (dI q3)<|oD (dE q0)<|oD (dI ([]:List Int))<|oP 0 (apS23 h22 (by simp))<|oS 2 (obLitR tm_eq [r18.1])<|oB 3 h20 k) (l110vacnLcr _ _ _ _ _ _ _ _ _ _ _ _ _ _ _ _ _ h)
 obtain rfl:=sj h
 exact fun j=>lG 2 [] [0,1,2,3,4,5,6] [] true (oD (dI ([]:List Int))<|oD (dT ([]:List Tm))<|oD (dT q9)<|oD (dI q8)<|oD (dC q2)<|oD (dE q1)<|oD (dI q4)<|oD (dI q3)<|oD (dE q0)<|oD (dI ([]:List Int))<|oB 0 h15 o0)
theorem l110vacnLct:∀qq:Nat,(∀q0 q1 q2 q3 q4 q5 q6 q7 q8 q9 q10 q11 p1 v27 r,e110vacnLct qq q0 q1 q2 q3 q4 q5 q6 q7 q8 q9 q10 q11 p1 v27=some r->(∀j,Dl Tryz.prog 7 (inn (inn (rgt (lft (rgt (rgt (rgt (rgt (bod Tryz.f110))))))))) (g110vacnLctE0 j q0 q1 q2 q3 q4 q5 q6 q7 q8 q9 q10 q11 p1 v27) (g110vacnLctS0 q0 q1 q2 q3 q4 q5 q6 q7 q8 q9 q10 q11 p1 v27) (frameQ Tryz.prog 7 (FinQ Tryz.prog 7 Tryz.f110 (.tup [leafFoundA r.1,ai r.2]) [.cells [.mp 1 0,.mp 3 0,.obj 4,.ms 5 0 (List.length q8) (List.length q8) 1,.ms 6 0 q10 q11 3,slv intC ([]:List Int) .nl],.cells [slv entL q0 .no,.mp 2 0,slv intC q3 .no,slv intC q4 .no],.cells [slv entL q1 .no,slv conL q2 .no],.cells [ai q5,ai q6],imap q7,.row (flat intC q8),.row (flat tmCells q9)] 0) [.blk 0,.seq (rgt (rgt (rgt (rgt (rgt (bod Tryz.f110))))))]))):=by
 intro qq
 induction qq with
 |zero=>
  exact fun _ _ _ _ _ _ _ _ _ _ _ _ _ _ _ h=>nn h
 |succ qq ih=>
  intro q0 q1 q2 q3 q4 q5 q6 q7 q8 q9 q10 q11 p1 v27 r h
  rw[e110vacnLct]at h
  rcases spl h with⟨h1,h⟩|⟨h1,h⟩
  obtain⟨x2,h3,h⟩:=obind h
  obtain⟨x4,h5,h⟩:=obind h
  have k:=oL 1 (lkI181 q7 x4)<|oG (a:=(ai x4)) 0 (ldE codecI h5 (false,1) (val:=ai x4) rfl)<|oA 0 (ixM41 (b:=5) (c:=List.length q8) (z:=1) h3)<|oB 0 h1 o0
  rcases spl h with⟨h6,h⟩|⟨h6,h⟩
  obtain⟨l7,h8,h⟩:=obind h
  obtain⟨x9,h10,h⟩:=obind h
  obtain⟨x11,h12,h⟩:=obind h
  obtain⟨l13,h14,h⟩:=obind h
  exact fun j=>lH 1 [] [0,1,2,3,4,5,6,7,8,9] [0,1] [0,3,4,6,7,8,25,26,27] (oD (dT l13)<|oD (dI l7)<|oD (dI ([]:List Int))<|oD (dT ([]:List Tm))<|oD (dI ([]:List Int))<|oD (dT ([]:List Tm))<|oD (dCoverKid p1.kids_)<|oD (dT p1.args_)<|oD (dT p1.binds_)<|oD (dFreeVar p1.vars_)<|oD (dT q9)<|oD (dI q8)<|oD (dC q2)<|oD (dE q1)<|oD (dI q4)<|oD (dI q3)<|oD (dE q0)<|oD (dI ([]:List Int))<|oP 0 (apS23 h14 (by simp))<|oS 0 (obLitR tm_eq [x11])<|oG (a:=(.agg [ai x11.k,ai x11.n,slv tmCells x11.sub .no])) 0 (ldE codecT h12 (true,3) (val:=.agg [ai x11.k,ai x11.n,slv tmCells x11.sub .no]) (by rw[tm_eq];rfl))<|oA 1 (ixM23 (b:=6) (c:=q11) (z:=3) h10)<|oP 1 (apS41 h8 (by simp))<|oB 0 h6 k) (l110vacnLcq _ _ _ _ _ _ _ _ _ _ _ _ _ _ _ _ _ _ h)
  exact fun j=>lH 1 [] [0,1,2,3,4,5,6,7,8,9] [] [0,3,4,6,7,8,25,26,27] (oD (dT ([]:List Tm))<|oD (dI ([]:List Int))<|oD (dI ([]:List Int))<|oD (dT ([]:List Tm))<|oD (dI ([]:List Int))<|oD (dT ([]:List Tm))<|oD (dCoverKid p1.kids_)<|oD (dT p1.args_)<|oD (dT p1.binds_)<|oD (dFreeVar p1.vars_)<|oD (dT q9)<|oD (dI q8)<|oD (dC q2)<|oD (dE q1)<|oD (dI q4)<|oD (dI q3)<|oD (dE q0)<|oD (dI ([]:List Int))<|oB 0 h6 k) (ih _ _ _ _ _ _ _ _ _ _ _ _ _ _ _ h)
  exact fun j=>lH 2 [] [0,1,2,3,4,5,6,8,9] [] [4,6,7,8,56,57,58] (oD (dT p1.binds_)<|oD (dT ([]:List Tm))<|oD (dI ([]:List Int))<|oD (dI ([]:List Int))<|oD (dT ([]:List Tm))<|oD (dI ([]:List Int))<|oD (dT ([]:List Tm))<|oD (dT q9)<|oD (dI q8)<|oD (dC q2)<|oD (dE q1)<|oD (dI q4)<|oD (dI q3)<|oD (dE q0)<|oD (dI ([]:List Int))<|oB 0 h1 o0) (l110vacnLcs qq _ _ _ _ _ _ _ _ _ _ _ _ _ _ _ h)
theorem c110vacn{qq q0 q1 q2 q3 q4 q5 q6 q7 q8 q9 q10 q11 p1 r}(h:e110vacn qq q0 q1 q2 q3 q4 q5 q6 q7 q8 q9 q10 q11 p1=some r):K110vacn q0 q1 q2 q3 q4 q5 q6 q7 q8 q9 q10 q11 p1 r Ct:=by
 unfold e110vacn at h
 exact k110vacn (tH q110vacn 5 [] [0,1,2,3,4,5,6,7,8,9] [] [0,3,4,6,7,8,25,26,27] (oD (dT ([]:List Tm))<|oD (dI ([]:List Int))<|oD (dI ([]:List Int))<|oD (dT ([]:List Tm))<|oD (dI ([]:List Int))<|oD (dT ([]:List Tm))<|oD (dCoverKid p1.kids_)<|oD (dT p1.args_)<|oD (dT p1.binds_)<|oD (dFreeVar p1.vars_)<|oD (dT q9)<|oD (dI q8)<|oD (dC q2)<|oD (dE q1)<|oD (dI q4)<|oD (dI q3)<|oD (dE q0)<|oD (dI ([]:List Int)) o0) (l110vacnLct _ _ _ _ _ _ _ _ _ _ _ _ _ _ _ _ h))
def e110vacuLcv:Nat->(List Ent)->(List Ent)->(List Con')->(List Int)->(List Int)->Int->Int->(List (Int×Int))->CoverTree->Int->(List Tm)->Option (LeafFound×Int)
 |0,_,_,_,_,_,_,_,_,_,_,_=>none
 |qq+1,q0,q1,q2,q3,q4,q5,q6,q7,p1,v58,vb6_2=>
 if decide (v58<(List.length p1.binds_:Int))then
 gidx p1.binds_ v58>>=fun x11=>
 e177 qq [] [] x11>>=fun r13=>
 if r13.2 != 0 then
 some ((LeafFound.mk false 0 [] []),r13.2)
 else
 gapp 40 vb6_2 [r13.1]>>=fun l16=>
 e110vacuLcv qq q0 q1 q2 q3 q4 q5 q6 q7 p1 (w64 (v58+1)) l16
 else
 some ((LeafFound.mk true p1.row_ vb6_2 []),0)
def e110vacuLcw(qq:Nat)(q0 q1:List Ent)(q2:List Con')(q3 q4:List Int)(q5 q6:Int)(q7:List (Int×Int))(p1:CoverTree)(v58:Int):Option (LeafFound×Int):=
 if decide (v58<(List.length p1.binds_:Int))then
 gidx p1.binds_ v58>>=fun x3=>
 e177 qq [] [] x3>>=fun r5=>
 if r5.2 != 0 then
 some ((LeafFound.mk false 0 [] []),r5.2)
 else
 gapp 40 ([]:List Tm) [r5.1]>>=fun l8=>
 e110vacuLcv qq q0 q1 q2 q3 q4 q5 q6 q7 p1 (w64 (v58+1)) l8
 else
 some ((LeafFound.mk true p1.row_ [] []),0)
def e110vacuLcx(qq:Nat)(q0 q1:List Ent)(q2:List Con')(q3 q4:List Int)(q5 q6:Int)(q7:List (Int×Int))(p1:CoverTree)(v27:Int):Option (LeafFound×Int):=
 if decide (v27<0)then
 none
 else
 e110vacuLcw qq q0 q1 q2 q3 q4 q5 q6 q7 p1 0
def e110vacu(qq:Nat)(q0 q1:List Ent)(q2:List Con')(q3 q4:List Int)(q5 q6:Int)(q7:List (Int×Int))(p1:CoverTree):Option (LeafFound×Int):=
 e110vacuLcx qq q0 q1 q2 q3 q4 q5 q6 q7 p1 0
def g110vacuLcxE0(j:Nat->Value)(q0 q1:List Ent)(q2:List Con')(q3 q4:List Int)(q5 q6:Int)(q7:List (Int×Int))(p1:CoverTree)(v27:Int):=sp j 81 0 [(0,.mp 0 0),(3,.mp 5 0),(4,.mp 6 0),(6,.mp 7 0),(7,slv intC ([]:List Int) .nl),(8,slv tmCells ([]:List Tm) .nl),(25,slv intC ([]:List Int) .nl),(26,ai 0),(27,ai v27)]
def g110vacuLcxS0(q0 q1:List Ent)(q2:List Con')(q3 q4:List Int)(q5 q6:Int)(q7:List (Int×Int))(p1:CoverTree)(v27:Int):LSt:=⟨[(0,.cells [.mp 1 0,.mp 3 0,.obj 4,slv intC ([]:List Int) .nl,slv tmCells ([]:List Tm) .nl,slv intC ([]:List Int) .nl]),(1,.cells [slv entL q0 .no,.mp 2 0,slv intC q3 .no,slv intC q4 .no]),(2,.cells [slv entL q1 .no,slv conL q2 .no]),(3,.cells [ai q5,ai q6]),(4,imap q7),(5,.cells [ai p1.kind_,ai p1.row_,ai p1.var_,slv freeVarL p1.vars_ .no,slv tmCells p1.binds_ .no,slv tmCells p1.args_ .no,slv coverKidC p1.kids_ .no]),(6,.cells [ab false,ai 0,slv tmCells ([]:List Tm) .nl,slv intC ([]:List Int) .nl]),(7,.cells [ab true,ai p1.row_,slv tmCells ([]:List Tm) .nl,slv intC ([]:List Int) .nl])],8,[],0,[]⟩
def g110vacuLcwE0(j:Nat->Value)(q0 q1:List Ent)(q2:List Con')(q3 q4:List Int)(q5 q6:Int)(q7:List (Int×Int))(p1:CoverTree)(v58:Int):=sp j 81 0 [(4,.mp 5 0),(6,.mp 6 0),(7,slv intC ([]:List Int) .nl),(8,slv tmCells ([]:List Tm) .nl),(56,slv tmCells p1.binds_ .no),(57,ai (List.length p1.binds_:Int)),(58,ai v58)]
def g110vacuLcwS0(q0 q1:List Ent)(q2:List Con')(q3 q4:List Int)(q5 q6:Int)(q7:List (Int×Int))(p1:CoverTree)(v58:Int):LSt:=⟨[(0,.cells [.mp 1 0,.mp 3 0,.obj 4,slv intC ([]:List Int) .nl,slv tmCells ([]:List Tm) .nl,slv intC ([]:List Int) .nl]),(1,.cells [slv entL q0 .no,.mp 2 0,slv intC q3 .no,slv intC q4 .no]),(2,.cells [slv entL q1 .no,slv conL q2 .no]),(3,.cells [ai q5,ai q6]),(4,imap q7),(5,.cells [ab false,ai 0,slv tmCells ([]:List Tm) .nl,slv intC ([]:List Int) .nl]),(6,.cells [ab true,ai p1.row_,slv tmCells ([]:List Tm) .nl,slv intC ([]:List Int) .nl])],7,[],0,[]⟩
def g110vacuLcvE0(j:Nat->Value)(q0 q1:List Ent)(q2:List Con')(q3 q4:List Int)(q5 q6:Int)(q7:List (Int×Int))(p1:CoverTree)(v58:Int)(vb6_2:List Tm):=sp j 81 0 [(4,.mp 5 0),(6,.mp 6 0),(7,slv intC ([]:List Int) .nl),(8,slv tmCells ([]:List Tm) .nl),(56,slv tmCells p1.binds_ .no),(57,ai (List.length p1.binds_:Int)),(58,ai v58)]
def g110vacuLcvS0(q0 q1:List Ent)(q2:List Con')(q3 q4:List Int)(q5 q6:Int)(q7:List (Int×Int))(p1:CoverTree)(v58:Int)(vb6_2:List Tm):LSt:=⟨[(0,.cells [.mp 1 0,.mp 3 0,.obj 4,slv intC ([]:List Int) .nl,slv tmCells ([]:List Tm) .nl,slv intC ([]:List Int) .nl]),(1,.cells [slv entL q0 .no,.mp 2 0,slv intC q3 .no,slv intC q4 .no]),(2,.cells [slv entL q1 .no,slv conL q2 .no]),(3,.cells [ai q5,ai q6]),(4,imap q7),(5,.cells [ab false,ai 0,slv tmCells ([]:List Tm) .nl,slv intC ([]:List Int) .nl]),(6,.cells [ab true,ai p1.row_,slv tmCells vb6_2 (.st 0 3),slv intC ([]:List Int) .nl])],7,[0],1,[]⟩
abbrev K110vacu (q0 q1:List Ent) (q2:List Con') (q3 q4:List Int) (q5 q6:Int) (q7:List (Int×Int)) (p1:CoverTree) (r:LeafFound×Int) (C:Cf):Prop:=C 110 [.cells [.mp 1 0,.mp 3 0,.obj 4,slv intC ([]:List Int) .nl,slv tmCells ([]:List Tm) .nl,slv intC ([]:List Int) .nl],.cells [slv entL q0 .no,.mp 2 0,slv intC q3 .no,slv intC q4 .no],.cells [slv entL q1 .no,slv conL q2 .no],.cells [ai q5,ai q6],imap q7] [.mp 0 0,coverTreeA p1] (.tup [leafFoundA r.1,ai r.2]) [.cells [.mp 1 0,.mp 3 0,.obj 4,slv intC ([]:List Int) .nl,slv tmCells ([]:List Tm) .nl,slv intC ([]:List Int) .nl],.cells [slv entL q0 .no,.mp 2 0,slv intC q3 .no,slv intC q4 .no],.cells [slv entL q1 .no,slv conL q2 .no],.cells [ai q5,ai q6],imap q7] 0
theorem q110vacu:Qf 110 Tryz.f110:=⟨Tryz.func110,by kernel_rfl⟩
theorem k110vacu{q0 q1 q2 q3 q4 q5 q6 q7 p1 r}(h:K110vacu q0 q1 q2 q3 q4 q5 q6 q7 p1 r Ci):K110vacu q0 q1 q2 q3 q4 q5 q6 q7 p1 r Ct:=⟨h,⟨(lz rfl),⟨tv,tv,tv,⟨tv,dFreeVar _⟩,⟨tv,dT _⟩,⟨tv,dT _⟩,⟨tv,dCoverKid _⟩,tv⟩,tv⟩,(forall_cons ⟨(lz rfl),(lz rfl),(lz rfl),⟨tv,dI _⟩,⟨tv,dT _⟩,⟨tv,dI _⟩,tv⟩ (forall_cons ⟨⟨tv,dE _⟩,(lz rfl),⟨tv,dI _⟩,⟨tv,dI _⟩,tv⟩ (forall_cons ⟨⟨tv,dE _⟩,⟨tv,dC _⟩,tv⟩ (forall_cons ⟨tv,tv,tv⟩ (forall_cons tv forall_nil))))),⟨⟨tv,tv,dT _,dI _,tv⟩,tv,tv⟩,(forall_cons ⟨(lz rfl),(lz rfl),(lz rfl),dI _,dT _,dI _,tv⟩ (forall_cons ⟨dE _,(lz rfl),dI _,dI _,tv⟩ (forall_cons ⟨dE _,dC _,tv⟩ (forall_cons ⟨tv,tv,tv⟩ (forall_cons tv forall_nil)))))⟩
theorem l110vacuLcv:∀qq:Nat,(∀q0 q1 q2 q3 q4 q5 q6 q7 p1 v58 vb6_2 r,e110vacuLcv qq q0 q1 q2 q3 q4 q5 q6 q7 p1 v58 vb6_2=some r->(∀j,Dl Tryz.prog 5 (inn (inn (rgt (lft (rgt (rgt (rgt (rgt (rgt (bod Tryz.f110)))))))))) (g110vacuLcvE0 j q0 q1 q2 q3 q4 q5 q6 q7 p1 v58 vb6_2) (g110vacuLcvS0 q0 q1 q2 q3 q4 q5 q6 q7 p1 v58 vb6_2) (frameQ Tryz.prog 5 (FinQ Tryz.prog 5 Tryz.f110 (.tup [leafFoundA r.1,ai r.2]) [.cells [.mp 1 0,.mp 3 0,.obj 4,slv intC ([]:List Int) .nl,slv tmCells ([]:List Tm) .nl,slv intC ([]:List Int) .nl],.cells [slv entL q0 .no,.mp 2 0,slv intC q3 .no,slv intC q4 .no],.cells [slv entL q1 .no,slv conL q2 .no],.cells [ai q5,ai q6],imap q7] 0) [.blk 2,.seq (rgt (rgt (rgt (rgt (rgt (rgt (bod Tryz.f110)))))))]))):=by
 intro qq
 induction qq with
 |zero=>
  exact fun _ _ _ _ _ _ _ _ _ _ _ _ h=>nn h
 |succ qq ih=>
  intro q0 q1 q2 q3 q4 q5 q6 q7 p1 v58 vb6_2 r h
  rw[e110vacuLcv]at h
  rcases spl h with⟨h10,h⟩|⟨h10,h⟩
  obtain⟨x11,h12,h⟩:=obind h
  obtain⟨r13,h14,h⟩:=obind h
  have k:=oC 3 [] (c177 h14)<|oA 0 (ix23 (o:=.no) h12)<|oB 0 h10 o0
  rcases spl h with⟨h15,h⟩|⟨h15,h⟩
  obtain rfl:=sj h
  exact fun j=>lG 1 [] [0,1,2,3,4] [] true (oD (dI ([]:List Int))<|oD (dT ([]:List Tm))<|oD (dC q2)<|oD (dE q1)<|oD (dI q4)<|oD (dI q3)<|oD (dE q0)<|oD (dI ([]:List Int))<|oD (dT ([]:List Tm))<|oD (dI ([]:List Int))<|oB 3 h15 k)
  obtain⟨l16,h17,h⟩:=obind h
  exact fun j=>lH 2 [] [0,1,2,3,4,5,6] [1] [4,6,7,8,56,57,58] (oD (dT p1.binds_)<|oD (dT ([]:List Tm))<|oD (dI ([]:List Int))<|oD (dI ([]:List Int))<|oD (dT l16)<|oD (dI ([]:List Int))<|oD (dT ([]:List Tm))<|oD (dC q2)<|oD (dE q1)<|oD (dI q4)<|oD (dI q3)<|oD (dE q0)<|oD (dI ([]:List Int))<|oD (dT ([]:List Tm))<|oD (dI ([]:List Int))<|oP 0 (apS23 h17 (by simp))<|oS 2 (obLitR tm_eq [r13.1])<|oB 3 h15 k) (ih _ _ _ _ _ _ _ _ _ _ _ _ h)
  obtain rfl:=sj h
  exact fun j=>lG 2 [] [0,1,2,3,4] [] true (oD (dI ([]:List Int))<|oD (dT vb6_2)<|oD (dC q2)<|oD (dE q1)<|oD (dI q4)<|oD (dI q3)<|oD (dE q0)<|oD (dI ([]:List Int))<|oD (dT ([]:List Tm))<|oD (dI ([]:List Int))<|oB 0 h10 o0)
theorem l110vacuLcw(qq q0 q1 q2 q3 q4 q5 q6 q7 p1 v58 r)(h:e110vacuLcw qq q0 q1 q2 q3 q4 q5 q6 q7 p1 v58=some r):(∀j,Dl Tryz.prog 5 (inn (inn (rgt (lft (rgt (rgt (rgt (rgt (rgt (bod Tryz.f110)))))))))) (g110vacuLcwE0 j q0 q1 q2 q3 q4 q5 q6 q7 p1 v58) (g110vacuLcwS0 q0 q1 q2 q3 q4 q5 q6 q7 p1 v58) (frameQ Tryz.prog 5 (FinQ Tryz.prog 5 Tryz.f110 (.tup [leafFoundA r.1,ai r.2]) [.cells [.mp 1 0,.mp 3 0,.obj 4,slv intC ([]:List Int) .nl,slv tmCells ([]:List Tm) .nl,slv intC ([]:List Int) .nl],.cells [slv entL q0 .no,.mp 2 0,slv intC q3 .no,slv intC q4 .no],.cells [slv entL q1 .no,slv conL q2 .no],.cells [ai q5,ai q6],imap q7] 0) [.blk 2,.seq (rgt (rgt (rgt (rgt (rgt (rgt (bod Tryz.f110)))))))])):=by
 unfold e110vacuLcw at h
 rcases spl h with⟨h2,h⟩|⟨h2,h⟩
 obtain⟨x3,h4,h⟩:=obind h
 obtain⟨r5,h6,h⟩:=obind h
 have k:=oC 3 [] (c177 h6)<|oA 0 (ix23 (o:=.no) h4)<|oB 0 h2 o0
 rcases spl h with⟨h7,h⟩|⟨h7,h⟩
 obtain rfl:=sj h
 exact fun j=>lG 1 [] [0,1,2,3,4] [] true (oD (dI ([]:List Int))<|oD (dT ([]:List Tm))<|oD (dC q2)<|oD (dE q1)<|oD (dI q4)<|oD (dI q3)<|oD (dE q0)<|oD (dI ([]:List Int))<|oD (dT ([]:List Tm))<|oD (dI ([]:List Int))<|oB 3 h7 k)
 obtain⟨l8,h9,h⟩:=obind h
 exact fun j=>lH 2 [] [0,1,2,3,4,5,6] [0] [4,6,7,8,56,57,58] (oD (dT p1.binds_)<|oD (dT ([]:List Tm))<|oD (dI ([]:List Int))<|oD (dI ([]:List Int))<|oD (dT l8)<|oD (dI ([]:List Int))<|oD (dT ([]:List Tm))<|oD (dC q2)<|oD (dE q1)<|oD (dI q4)<|oD (dI q3)<|oD (dE q0)<|oD (dI ([]:List Int))<|oD (dT ([]:List Tm))<|oD (dI ([]:List Int))<|oP 0 (apS23 h9 (by simp))<|oS 2 (obLitR tm_eq [r5.1])<|oB 3 h7 k) (l110vacuLcv _ _ _ _ _ _ _ _ _ _ _ _ _ h)
 obtain rfl:=sj h
 exact fun j=>lG 2 [] [0,1,2,3,4] [] true (oD (dI ([]:List Int))<|oD (dT ([]:List Tm))<|oD (dC q2)<|oD (dE q1)<|oD (dI q4)<|oD (dI q3)<|oD (dE q0)<|oD (dI ([]:List Int))<|oD (dT ([]:List Tm))<|oD (dI ([]:List Int))<|oB 0 h2 o0)
theorem l110vacuLcx(qq q0 q1 q2 q3 q4 q5 q6 q7 p1 v27 r)(h:e110vacuLcx qq q0 q1 q2 q3 q4 q5 q6 q7 p1 v27=some r):(∀j,Dl Tryz.prog 5 (inn (inn (rgt (lft (rgt (rgt (rgt (rgt (bod Tryz.f110))))))))) (g110vacuLcxE0 j q0 q1 q2 q3 q4 q5 q6 q7 p1 v27) (g110vacuLcxS0 q0 q1 q2 q3 q4 q5 q6 q7 p1 v27) (frameQ Tryz.prog 5 (FinQ Tryz.prog 5 Tryz.f110 (.tup [leafFoundA r.1,ai r.2]) [.cells [.mp 1 0,.mp 3 0,.obj 4,slv intC ([]:List Int) .nl,slv tmCells ([]:List Tm) .nl,slv intC ([]:List Int) .nl],.cells [slv entL q0 .no,.mp 2 0,slv intC q3 .no,slv intC q4 .no],.cells [slv entL q1 .no,slv conL q2 .no],.cells [ai q5,ai q6],imap q7] 0) [.blk 0,.seq (rgt (rgt (rgt (rgt (rgt (bod Tryz.f110))))))])):=by
 unfold e110vacuLcx at h
 obtain⟨h1,h⟩:=splF h
 exact fun j=>lH 2 [] [0,1,2,3,4,6,7] [] [4,6,7,8,56,57,58] (oD (dT p1.binds_)<|oD (dT ([]:List Tm))<|oD (dI ([]:List Int))<|oD (dI ([]:List Int))<|oD (dT ([]:List Tm))<|oD (dI ([]:List Int))<|oD (dT ([]:List Tm))<|oD (dC q2)<|oD (dE q1)<|oD (dI q4)<|oD (dI q3)<|oD (dE q0)<|oD (dI ([]:List Int))<|oD (dT ([]:List Tm))<|oD (dI ([]:List Int))<|oB 0 h1 o0) (l110vacuLcw qq _ _ _ _ _ _ _ _ _ _ _ h)
theorem c110vacu{qq q0 q1 q2 q3 q4 q5 q6 q7 p1 r}(h:e110vacu qq q0 q1 q2 q3 q4 q5 q6 q7 p1=some r):K110vacu q0 q1 q2 q3 q4 q5 q6 q7 p1 r Ct:=by
 unfold e110vacu at h
 exact k110vacu (tH q110vacu 5 [] [0,1,2,3,4,5,6,7] [] [0,3,4,6,7,8,25,26,27] (oD (dI ([]:List Int))<|oD (dT ([]:List Tm))<|oD (dI ([]:List Int))<|oD (dI ([]:List Int))<|oD (dT ([]:List Tm))<|oD (dI ([]:List Int))<|oD (dT ([]:List Tm))<|oD (dCoverKid p1.kids_)<|oD (dT p1.args_)<|oD (dT p1.binds_)<|oD (dFreeVar p1.vars_)<|oD (dC q2)<|oD (dE q1)<|oD (dI q4)<|oD (dI q3)<|oD (dE q0)<|oD (dI ([]:List Int))<|oD (dT ([]:List Tm))<|oD (dI ([]:List Int)) o0) (l110vacuLcx qq _ _ _ _ _ _ _ _ _ _ _ h))
def e110vacyLcz:Nat->(List Ent)->(List Ent)->(List Con')->(List Int)->(List Int)->Int->Int->(List (Int×Int))->(List Int)->(List Tm)->Nat->Nat->(List Int)->CoverTree->(List Int)->(List Tm)->Int->(List Tm)->Option ((LeafFound×Int) ⊕ (Int×List Tm×List Int×Int))
 |0,_,_,_,_,_,_,_,_,_,_,_,_,_,_,_,_,_,_=>none
 |qq+1,q0,q1,q2,q3,q4,q5,q6,q7,q8,q9,q10,q11,q12,p1,v7,v8,v58,vb9_2=>
 if decide (v58<(List.length p1.binds_:Int))then
 gidx p1.binds_ v58>>=fun x38=>
 e177 qq v7 v8 x38>>=fun r40=>
 if r40.2 != 0 then
 some (Sum.inl ((LeafFound.mk false 0 [] []),r40.2))
 else
 gapp 40 vb9_2 [r40.1]>>=fun l43=>
 e110vacyLcz qq q0 q1 q2 q3 q4 q5 q6 q7 q8 q9 q10 q11 q12 p1 v7 v8 (w64 (v58+1)) l43
 else
 some (Sum.inr (p1.row_,vb9_2,q12,0))
def e110vacyLda(qq:Nat)(q0 q1:List Ent)(q2:List Con')(q3 q4:List Int)(q5 q6:Int)(q7:List (Int×Int))(q8:List Int)(q9:List Tm)(q10 q11:Nat)(q12:List Int)(p1:CoverTree)(v7:List Int)(v8:List Tm)(v58:Int):Option ((LeafFound×Int) ⊕ (Int×List Tm×List Int×Int)):=
 if decide (v58<(List.length p1.binds_:Int))then
 gidx p1.binds_ v58>>=fun x30=>
 e177 qq v7 v8 x30>>=fun r32=>
 if r32.2 != 0 then
 some (Sum.inl ((LeafFound.mk false 0 [] []),r32.2))
 else
 gapp 40 ([]:List Tm) [r32.1]>>=fun l35=>
 e110vacyLcz qq q0 q1 q2 q3 q4 q5 q6 q7 q8 q9 q10 q11 q12 p1 v7 v8 (w64 (v58+1)) l35
 else
 some (Sum.inr (p1.row_,[],q12,0))
def e110vacyLdb:Nat->(List Ent)->(List Ent)->(List Con')->(List Int)->(List Int)->Int->Int->(List (Int×Int))->(List Int)->(List Tm)->Nat->Nat->(List Int)->CoverTree->Int->(List Int)->(List Tm)->Option ((LeafFound×Int) ⊕ (Int×List Tm×List Int×Int))
 |0,_,_,_,_,_,_,_,_,_,_,_,_,_,_,_,_,_=>none
 |qq+1,q0,q1,q2,q3,q4,q5,q6,q7,q8,q9,q10,q11,q12,p1,v27,v7,v8=>
 if decide (v27<(List.length q8:Int))then
 gchk (List.length q8) v27>>=fun x16=>
 gidx q8 (x16:Int)>>=fun x18=>
 if (iget q7 x18)==v27 then
 gapp 8 v7 [x18]>>=fun l21=>
 gchk q10 v27>>=fun x23=>
 gidx q9 (x23:Int)>>=fun x25=>
 gapp 40 v8 [x25]>>=fun l27=>
 e110vacyLdb qq q0 q1 q2 q3 q4 q5 q6 q7 q8 q9 q10 q11 q12 p1 (w64 (v27+1)) l21 l27
 else
 e110vacyLdb qq q0 q1 q2 q3 q4 q5 q6 q7 q8 q9 q10 q11 q12 p1 (w64 (v27+1)) v7 v8
 else
 e110vacyLda qq q0 q1 q2 q3 q4 q5 q6 q7 q8 q9 q10 q11 q12 p1 v7 v8 0
def e110vacyLdc:Nat->(List Ent)->(List Ent)->(List Con')->(List Int)->(List Int)->Int->Int->(List (Int×Int))->(List Int)->(List Tm)->Nat->Nat->(List Int)->CoverTree->Int->(List Tm)->Option ((LeafFound×Int) ⊕ (Int×List Tm×List Int×Int))
 |0,_,_,_,_,_,_,_,_,_,_,_,_,_,_,_,_=>none
 |qq+1,q0,q1,q2,q3,q4,q5,q6,q7,q8,q9,q10,q11,q12,p1,v58,vb9_2=>
 if decide (v58<(List.length p1.binds_:Int))then
 gidx p1.binds_ v58>>=fun x24=>
 e177 qq [] [] x24>>=fun r26=>
 if r26.2 != 0 then
 some (Sum.inl ((LeafFound.mk false 0 [] []),r26.2))
 else
 gapp 40 vb9_2 [r26.1]>>=fun l29=>
 e110vacyLdc qq q0 q1 q2 q3 q4 q5 q6 q7 q8 q9 q10 q11 q12 p1 (w64 (v58+1)) l29
 else
 some (Sum.inr (p1.row_,vb9_2,q12,0))
def e110vacyLdd(qq:Nat)(q0 q1:List Ent)(q2:List Con')(q3 q4:List Int)(q5 q6:Int)(q7:List (Int×Int))(q8:List Int)(q9:List Tm)(q10 q11:Nat)(q12:List Int)(p1:CoverTree)(v58:Int):Option ((LeafFound×Int) ⊕ (Int×List Tm×List Int×Int)):=
 if decide (v58<(List.length p1.binds_:Int))then
 gidx p1.binds_ v58>>=fun x16=>
 e177 qq [] [] x16>>=fun r18=>
 if r18.2 != 0 then
 some (Sum.inl ((LeafFound.mk false 0 [] []),r18.2))
 else
 gapp 40 ([]:List Tm) [r18.1]>>=fun l21=>
 e110vacyLdc qq q0 q1 q2 q3 q4 q5 q6 q7 q8 q9 q10 q11 q12 p1 (w64 (v58+1)) l21
 else
 some (Sum.inr (p1.row_,[],q12,0))
def e110vacyLde:Nat->(List Ent)->(List Ent)->(List Con')->(List Int)->(List Int)->Int->Int->(List (Int×Int))->(List Int)->(List Tm)->Nat->Nat->(List Int)->CoverTree->Int->Option ((LeafFound×Int) ⊕ (Int×List Tm×List Int×Int))
 |0,_,_,_,_,_,_,_,_,_,_,_,_,_,_,_=>none
 |qq+1,q0,q1,q2,q3,q4,q5,q6,q7,q8,q9,q10,q11,q12,p1,v27=>
 if decide (v27<(List.length q8:Int))then
 gchk (List.length q8) v27>>=fun x2=>
 gidx q8 (x2:Int)>>=fun x4=>
 if (iget q7 x4)==v27 then
 gapp 8 ([]:List Int) [x4]>>=fun l7=>
 gchk q10 v27>>=fun x9=>
 gidx q9 (x9:Int)>>=fun x11=>
 gapp 40 ([]:List Tm) [x11]>>=fun l13=>
 e110vacyLdb qq q0 q1 q2 q3 q4 q5 q6 q7 q8 q9 q10 q11 q12 p1 (w64 (v27+1)) l7 l13
 else
 e110vacyLde qq q0 q1 q2 q3 q4 q5 q6 q7 q8 q9 q10 q11 q12 p1 (w64 (v27+1))
 else
 e110vacyLdd qq q0 q1 q2 q3 q4 q5 q6 q7 q8 q9 q10 q11 q12 p1 0
def e110vacy(qq:Nat)(q0 q1:List Ent)(q2:List Con')(q3 q4:List Int)(q5 q6:Int)(q7:List (Int×Int))(q8:List Int)(q9:List Tm)(q10 q11:Nat)(q12:List Int)(p1:CoverTree):Option ((LeafFound×Int) ⊕ (Int×List Tm×List Int×Int)):=
 e110vacyLde qq q0 q1 q2 q3 q4 q5 q6 q7 q8 q9 q10 q11 q12 p1 0
def g110vacyLdeE0(j:Nat->Value)(q0 q1:List Ent)(q2:List Con')(q3 q4:List Int)(q5 q6:Int)(q7:List (Int×Int))(q8:List Int)(q9:List Tm)(q10 q11:Nat)(q12:List Int)(p1:CoverTree)(v27:Int):=sp j 81 0 [(0,.mp 0 0),(3,.mp 8 0),(4,.mp 9 0),(6,.mp 10 0),(7,slv intC ([]:List Int) .nl),(8,slv tmCells ([]:List Tm) .nl),(25,.ms 5 0 (List.length q8) (List.length q8) 1),(26,ai (List.length q8:Int)),(27,ai v27)]
def g110vacyLdeS0(q0 q1:List Ent)(q2:List Con')(q3 q4:List Int)(q5 q6:Int)(q7:List (Int×Int))(q8:List Int)(q9:List Tm)(q10 q11:Nat)(q12:List Int)(p1:CoverTree)(v27:Int):LSt:=⟨[(0,.cells [.mp 1 0,.mp 3 0,.obj 4,.ms 5 0 (List.length q8) (List.length q8) 1,.ms 6 0 q10 q11 3,.ms 7 0 (List.length q12) (List.length q12) 1]),(1,.cells [slv entL q0 .no,.mp 2 0,slv intC q3 .no,slv intC q4 .no]),(2,.cells [slv entL q1 .no,slv conL q2 .no]),(3,.cells [ai q5,ai q6]),(4,imap q7),(5,.row (flat intC q8)),(6,.row (flat tmCells q9)),(7,.row (flat intC q12)),(8,.cells [ai p1.kind_,ai p1.row_,ai p1.var_,slv freeVarL p1.vars_ .no,slv tmCells p1.binds_ .no,slv tmCells p1.args_ .no,slv coverKidC p1.kids_ .no]),(9,.cells [ab false,ai 0,slv tmCells ([]:List Tm) .nl,slv intC ([]:List Int) .nl]),(10,.cells [ab true,ai p1.row_,slv tmCells ([]:List Tm) .nl,.ms 7 0 (List.length q12) (List.length q12) 1])],11,[],0,[]⟩
def g110vacyLdbE0(j:Nat->Value)(q0 q1:List Ent)(q2:List Con')(q3 q4:List Int)(q5 q6:Int)(q7:List (Int×Int))(q8:List Int)(q9:List Tm)(q10 q11:Nat)(q12:List Int)(p1:CoverTree)(v27:Int)(v7:List Int)(v8:List Tm):=sp j 81 0 [(0,.mp 0 0),(3,.mp 8 0),(4,.mp 9 0),(6,.mp 10 0),(7,slv intC v7 (.st 0 1)),(8,slv tmCells v8 (.st 1 3)),(25,.ms 5 0 (List.length q8) (List.length q8) 1),(26,ai (List.length q8:Int)),(27,ai v27)]
def g110vacyLdbS0(q0 q1:List Ent)(q2:List Con')(q3 q4:List Int)(q5 q6:Int)(q7:List (Int×Int))(q8:List Int)(q9:List Tm)(q10 q11:Nat)(q12:List Int)(p1:CoverTree)(v27:Int)(v7:List Int)(v8:List Tm):LSt:=⟨[(0,.cells [.mp 1 0,.mp 3 0,.obj 4,.ms 5 0 (List.length q8) (List.length q8) 1,.ms 6 0 q10 q11 3,.ms 7 0 (List.length q12) (List.length q12) 1]),(1,.cells [slv entL q0 .no,.mp 2 0,slv intC q3 .no,slv intC q4 .no]),(2,.cells [slv entL q1 .no,slv conL q2 .no]),(3,.cells [ai q5,ai q6]),(4,imap q7),(5,.row (flat intC q8)),(6,.row (flat tmCells q9)),(7,.row (flat intC q12)),(8,.cells [ai p1.kind_,ai p1.row_,ai p1.var_,slv freeVarL p1.vars_ .no,slv tmCells p1.binds_ .no,slv tmCells p1.args_ .no,slv coverKidC p1.kids_ .no]),(9,.cells [ab false,ai 0,slv tmCells ([]:List Tm) .nl,slv intC ([]:List Int) .nl]),(10,.cells [ab true,ai p1.row_,slv tmCells ([]:List Tm) .nl,.ms 7 0 (List.length q12) (List.length q12) 1])],11,[0,1],2,[]⟩
def g110vacyLdaE0(j:Nat->Value)(q0 q1:List Ent)(q2:List Con')(q3 q4:List Int)(q5 q6:Int)(q7:List (Int×Int))(q8:List Int)(q9:List Tm)(q10 q11:Nat)(q12:List Int)(p1:CoverTree)(v7:List Int)(v8:List Tm)(v58:Int):=sp j 81 0 [(4,.mp 8 0),(6,.mp 9 0),(7,slv intC v7 (.st 0 1)),(8,slv tmCells v8 (.st 1 3)),(56,slv tmCells p1.binds_ .no),(57,ai (List.length p1.binds_:Int)),(58,ai v58)]
def g110vacyLdaS0(q0 q1:List Ent)(q2:List Con')(q3 q4:List Int)(q5 q6:Int)(q7:List (Int×Int))(q8:List Int)(q9:List Tm)(q10 q11:Nat)(q12:List Int)(p1:CoverTree)(v7:List Int)(v8:List Tm)(v58:Int):LSt:=⟨[(0,.cells [.mp 1 0,.mp 3 0,.obj 4,.ms 5 0 (List.length q8) (List.length q8) 1,.ms 6 0 q10 q11 3,.ms 7 0 (List.length q12) (List.length q12) 1]),(1,.cells [slv entL q0 .no,.mp 2 0,slv intC q3 .no,slv intC q4 .no]),(2,.cells [slv entL q1 .no,slv conL q2 .no]),(3,.cells [ai q5,ai q6]),(4,imap q7),(5,.row (flat intC q8)),(6,.row (flat tmCells q9)),(7,.row (flat intC q12)),(8,.cells [ab false,ai 0,slv tmCells ([]:List Tm) .nl,slv intC ([]:List Int) .nl]),(9,.cells [ab true,ai p1.row_,slv tmCells ([]:List Tm) .nl,.ms 7 0 (List.length q12) (List.length q12) 1])],10,[0,1],2,[]⟩
def g110vacyLczE0(j:Nat->Value)(q0 q1:List Ent)(q2:List Con')(q3 q4:List Int)(q5 q6:Int)(q7:List (Int×Int))(q8:List Int)(q9:List Tm)(q10 q11:Nat)(q12:List Int)(p1:CoverTree)(v7:List Int)(v8:List Tm)(v58:Int)(vb9_2:List Tm):=sp j 81 0 [(4,.mp 8 0),(6,.mp 9 0),(7,slv intC v7 (.st 0 1)),(8,slv tmCells v8 (.st 1 3)),(56,slv tmCells p1.binds_ .no),(57,ai (List.length p1.binds_:Int)),(58,ai v58)]
def g110vacyLczS0(q0 q1:List Ent)(q2:List Con')(q3 q4:List Int)(q5 q6:Int)(q7:List (Int×Int))(q8:List Int)(q9:List Tm)(q10 q11:Nat)(q12:List Int)(p1:CoverTree)(v7:List Int)(v8:List Tm)(v58:Int)(vb9_2:List Tm):LSt:=⟨[(0,.cells [.mp 1 0,.mp 3 0,.obj 4,.ms 5 0 (List.length q8) (List.length q8) 1,.ms 6 0 q10 q11 3,.ms 7 0 (List.length q12) (List.length q12) 1]),(1,.cells [slv entL q0 .no,.mp 2 0,slv intC q3 .no,slv intC q4 .no]),(2,.cells [slv entL q1 .no,slv conL q2 .no]),(3,.cells [ai q5,ai q6]),(4,imap q7),(5,.row (flat intC q8)),(6,.row (flat tmCells q9)),(7,.row (flat intC q12)),(8,.cells [ab false,ai 0,slv tmCells ([]:List Tm) .nl,slv intC ([]:List Int) .nl]),(9,.cells [ab true,ai p1.row_,slv tmCells vb9_2 (.st 2 3),.ms 7 0 (List.length q12) (List.length q12) 1])],10,[0,1,2],3,[]⟩
def g110vacyLddE0(j:Nat->Value)(q0 q1:List Ent)(q2:List Con')(q3 q4:List Int)(q5 q6:Int)(q7:List (Int×Int))(q8:List Int)(q9:List Tm)(q10 q11:Nat)(q12:List Int)(p1:CoverTree)(v58:Int):=sp j 81 0 [(4,.mp 8 0),(6,.mp 9 0),(7,slv intC ([]:List Int) .nl),(8,slv tmCells ([]:List Tm) .nl),(56,slv tmCells p1.binds_ .no),(57,ai (List.length p1.binds_:Int)),(58,ai v58)]
def g110vacyLddS0(q0 q1:List Ent)(q2:List Con')(q3 q4:List Int)(q5 q6:Int)(q7:List (Int×Int))(q8:List Int)(q9:List Tm)(q10 q11:Nat)(q12:List Int)(p1:CoverTree)(v58:Int):LSt:=⟨[(0,.cells [.mp 1 0,.mp 3 0,.obj 4,.ms 5 0 (List.length q8) (List.length q8) 1,.ms 6 0 q10 q11 3,.ms 7 0 (List.length q12) (List.length q12) 1]),(1,.cells [slv entL q0 .no,.mp 2 0,slv intC q3 .no,slv intC q4 .no]),(2,.cells [slv entL q1 .no,slv conL q2 .no]),(3,.cells [ai q5,ai q6]),(4,imap q7),(5,.row (flat intC q8)),(6,.row (flat tmCells q9)),(7,.row (flat intC q12)),(8,.cells [ab false,ai 0,slv tmCells ([]:List Tm) .nl,slv intC ([]:List Int) .nl]),(9,.cells [ab true,ai p1.row_,slv tmCells ([]:List Tm) .nl,.ms 7 0 (List.length q12) (List.length q12) 1])],10,[],0,[]⟩
def g110vacyLdcE0(j:Nat->Value)(q0 q1:List Ent)(q2:List Con')(q3 q4:List Int)(q5 q6:Int)(q7:List (Int×Int))(q8:List Int)(q9:List Tm)(q10 q11:Nat)(q12:List Int)(p1:CoverTree)(v58:Int)(vb9_2:List Tm):=sp j 81 0 [(4,.mp 8 0),(6,.mp 9 0),(7,slv intC ([]:List Int) .nl),(8,slv tmCells ([]:List Tm) .nl),(56,slv tmCells p1.binds_ .no),(57,ai (List.length p1.binds_:Int)),(58,ai v58)]
def g110vacyLdcS0(q0 q1:List Ent)(q2:List Con')(q3 q4:List Int)(q5 q6:Int)(q7:List (Int×Int))(q8:List Int)(q9:List Tm)(q10 q11:Nat)(q12:List Int)(p1:CoverTree)(v58:Int)(vb9_2:List Tm):LSt:=⟨[(0,.cells [.mp 1 0,.mp 3 0,.obj 4,.ms 5 0 (List.length q8) (List.length q8) 1,.ms 6 0 q10 q11 3,.ms 7 0 (List.length q12) (List.length q12) 1]),(1,.cells [slv entL q0 .no,.mp 2 0,slv intC q3 .no,slv intC q4 .no]),(2,.cells [slv entL q1 .no,slv conL q2 .no]),(3,.cells [ai q5,ai q6]),(4,imap q7),(5,.row (flat intC q8)),(6,.row (flat tmCells q9)),(7,.row (flat intC q12)),(8,.cells [ab false,ai 0,slv tmCells ([]:List Tm) .nl,slv intC ([]:List Int) .nl]),(9,.cells [ab true,ai p1.row_,slv tmCells vb9_2 (.st 0 3),.ms 7 0 (List.length q12) (List.length q12) 1])],10,[0],1,[]⟩
abbrev K110vacys0 (q0 q1:List Ent) (q2:List Con') (q3 q4:List Int) (q5 q6:Int) (q7:List (Int×Int)) (q8:List Int) (q9:List Tm) (q10 q11:Nat) (q12:List Int) (p1:CoverTree) (r:LeafFound×Int) (C:Cf):Prop:=C 110 [.cells [.mp 1 0,.mp 3 0,.obj 4,.ms 5 0 (List.length q8) (List.length q8) 1,.ms 6 0 q10 q11 3,.ms 7 0 (List.length q12) (List.length q12) 1],.cells [slv entL q0 .no,.mp 2 0,slv intC q3 .no,slv intC q4 .no],.cells [slv entL q1 .no,slv conL q2 .no],.cells [ai q5,ai q6],imap q7,.row (flat intC q8),.row (flat tmCells q9),.row (flat intC q12)] [.mp 0 0,coverTreeA p1] (.tup [leafFoundA r.1,ai r.2]) [.cells [.mp 1 0,.mp 3 0,.obj 4,.ms 5 0 (List.length q8) (List.length q8) 1,.ms 6 0 q10 q11 3,.ms 7 0 (List.length q12) (List.length q12) 1],.cells [slv entL q0 .no,.mp 2 0,slv intC q3 .no,slv intC q4 .no],.cells [slv entL q1 .no,slv conL q2 .no],.cells [ai q5,ai q6],imap q7,.row (flat intC q8),.row (flat tmCells q9),.row (flat intC q12)] 0
abbrev K110vacys1 (q0 q1:List Ent) (q2:List Con') (q3 q4:List Int) (q5 q6:Int) (q7:List (Int×Int)) (q8:List Int) (q9:List Tm) (q10 q11:Nat) (q12:List Int) (p1:CoverTree) (r:Int×List Tm×List Int×Int) (C:Cf):Prop:=C 110 [.cells [.mp 1 0,.mp 3 0,.obj 4,.ms 5 0 (List.length q8) (List.length q8) 1,.ms 6 0 q10 q11 3,.ms 7 0 (List.length q12) (List.length q12) 1],.cells [slv entL q0 .no,.mp 2 0,slv intC q3 .no,slv intC q4 .no],.cells [slv entL q1 .no,slv conL q2 .no],.cells [ai q5,ai q6],imap q7,.row (flat intC q8),.row (flat tmCells q9),.row (flat intC q12)] [.mp 0 0,coverTreeA p1] (.tup [.agg [ab true,ai r.1,slv tmCells r.2.1 .no,.ms 7 0 (List.length r.2.2.1) (List.length r.2.2.1) 1],ai r.2.2.2]) [.cells [.mp 1 0,.mp 3 0,.obj 4,.ms 5 0 (List.length q8) (List.length q8) 1,.ms 6 0 q10 q11 3,.ms 7 0 (List.length q12) (List.length q12) 1],.cells [slv entL q0 .no,.mp 2 0,slv intC q3 .no,slv intC q4 .no],.cells [slv entL q1 .no,slv conL q2 .no],.cells [ai q5,ai q6],imap q7,.row (flat intC q8),.row (flat tmCells q9),.row (flat intC q12)] 0
theorem q110vacy:Qf 110 Tryz.f110:=⟨Tryz.func110,by kernel_rfl⟩
theorem k110vacys0{q0 q1 q2 q3 q4 q5 q6 q7 q8 q9 q10 q11 q12 p1 r}(h:K110vacys0 q0 q1 q2 q3 q4 q5 q6 q7 q8 q9 q10 q11 q12 p1 r Ci):K110vacys0 q0 q1 q2 q3 q4 q5 q6 q7 q8 q9 q10 q11 q12 p1 r Ct:=⟨h,⟨(lz rfl),⟨tv,tv,tv,⟨tv,dFreeVar _⟩,⟨tv,dT _⟩,⟨tv,dT _⟩,⟨tv,dCoverKid _⟩,tv⟩,tv⟩,(forall_cons ⟨(lz rfl),(lz rfl),(lz rfl),(lz rfl),(lz rfl),(lz rfl),tv⟩ (forall_cons ⟨⟨tv,dE _⟩,(lz rfl),⟨tv,dI _⟩,⟨tv,dI _⟩,tv⟩ (forall_cons ⟨⟨tv,dE _⟩,⟨tv,dC _⟩,tv⟩ (forall_cons ⟨tv,tv,tv⟩ (forall_cons tv (forall_cons (dI _) (forall_cons (dT _) (forall_cons (dI _) forall_nil)))))))),⟨⟨tv,tv,dT _,dI _,tv⟩,tv,tv⟩,(forall_cons ⟨(lz rfl),(lz rfl),(lz rfl),(lz rfl),(lz rfl),(lz rfl),tv⟩ (forall_cons ⟨dE _,(lz rfl),dI _,dI _,tv⟩ (forall_cons ⟨dE _,dC _,tv⟩ (forall_cons ⟨tv,tv,tv⟩ (forall_cons tv (forall_cons (dI _) (forall_cons (dT _) (forall_cons (dI _) forall_nil))))))))⟩
theorem k110vacys1{q0 q1 q2 q3 q4 q5 q6 q7 q8 q9 q10 q11 q12 p1 r}(h:K110vacys1 q0 q1 q2 q3 q4 q5 q6 q7 q8 q9 q10 q11 q12 p1 r Ci):K110vacys1 q0 q1 q2 q3 q4 q5 q6 q7 q8 q9 q10 q11 q12 p1 r Ct:=⟨h,⟨(lz rfl),⟨tv,tv,tv,⟨tv,dFreeVar _⟩,⟨tv,dT _⟩,⟨tv,dT _⟩,⟨tv,dCoverKid _⟩,tv⟩,tv⟩,(forall_cons ⟨(lz rfl),(lz rfl),(lz rfl),(lz rfl),(lz rfl),(lz rfl),tv⟩ (forall_cons ⟨⟨tv,dE _⟩,(lz rfl),⟨tv,dI _⟩,⟨tv,dI _⟩,tv⟩ (forall_cons ⟨⟨tv,dE _⟩,⟨tv,dC _⟩,tv⟩ (forall_cons ⟨tv,tv,tv⟩ (forall_cons tv (forall_cons (dI _) (forall_cons (dT _) (forall_cons (dI _) forall_nil)))))))),⟨⟨tv,tv,dT _,(lz rfl),tv⟩,tv,tv⟩,(forall_cons ⟨(lz rfl),(lz rfl),(lz rfl),(lz rfl),(lz rfl),(lz rfl),tv⟩ (forall_cons ⟨dE _,(lz rfl),dI _,dI _,tv⟩ (forall_cons ⟨dE _,dC _,tv⟩ (forall_cons ⟨tv,tv,tv⟩ (forall_cons tv (forall_cons (dI _) (forall_cons (dT _) (forall_cons (dI _) forall_nil))))))))⟩
theorem l110vacyLcz:∀qq:Nat,(∀q0 q1 q2 q3 q4 q5 q6 q7 q8 q9 q10 q11 q12 p1 v7 v8 v58 vb9_2 r,e110vacyLcz qq q0 q1 q2 q3 q4 q5 q6 q7 q8 q9 q10 q11 q12 p1 v7 v8 v58 vb9_2=some r->(∀j,Dl Tryz.prog 8 (inn (inn (rgt (lft (rgt (rgt (rgt (rgt (rgt (bod Tryz.f110)))))))))) (g110vacyLczE0 j q0 q1 q2 q3 q4 q5 q6 q7 q8 q9 q10 q11 q12 p1 v7 v8 v58 vb9_2) (g110vacyLczS0 q0 q1 q2 q3 q4 q5 q6 q7 q8 q9 q10 q11 q12 p1 v7 v8 v58 vb9_2) (frameQ Tryz.prog 8 ((match (generalizing:=false) r with|Sum.inl x=>FinQ Tryz.prog 8 Tryz.f110 (.tup [leafFoundA x.1,ai x.2]) [.cells [.mp 1 0,.mp 3 0,.obj 4,.ms 5 0 (List.length q8) (List.length q8) 1,.ms 6 0 q10 q11 3,.ms 7 0 (List.length q12) (List.length q12) 1],.cells [slv entL q0 .no,.mp 2 0,slv intC q3 .no,slv intC q4 .no],.cells [slv entL q1 .no,slv conL q2 .no],.cells [ai q5,ai q6],imap q7,.row (flat intC q8),.row (flat tmCells q9),.row (flat intC q12)] 0|Sum.inr x=>FinQ Tryz.prog 8 Tryz.f110 (.tup [.agg [ab true,ai x.1,slv tmCells x.2.1 .no,.ms 7 0 (List.length x.2.2.1) (List.length x.2.2.1) 1],ai x.2.2.2]) [.cells [.mp 1 0,.mp 3 0,.obj 4,.ms 5 0 (List.length q8) (List.length q8) 1,.ms 6 0 q10 q11 3,.ms 7 0 (List.length q12) (List.length q12) 1],.cells [slv entL q0 .no,.mp 2 0,slv intC q3 .no,slv intC q4 .no],.cells [slv entL q1 .no,slv conL q2 .no],.cells [ai q5,ai q6],imap q7,.row (flat intC q8),.row (flat tmCells q9),.row (flat intC q12)] 0)) [.blk 2,.seq (rgt (rgt (rgt (rgt (rgt (rgt (bod Tryz.f110)))))))]))):=by
 intro qq
 induction qq with
 |zero=>
  exact fun _ _ _ _ _ _ _ _ _ _ _ _ _ _ _ _ _ _ _ h=>nn h
 |succ qq ih=>
  intro q0 q1 q2 q3 q4 q5 q6 q7 q8 q9 q10 q11 q12 p1 v7 v8 v58 vb9_2 r h
  rw[e110vacyLcz]at h
  rcases spl h with⟨h37,h⟩|⟨h37,h⟩
  obtain⟨x38,h39,h⟩:=obind h
  obtain⟨r40,h41,h⟩:=obind h
  have k:=oC 3 [] (c177 h41)<|oA 0 (ix23 (o:=.no) h39)<|oB 0 h37 o0
  rcases spl h with⟨h42,h⟩|⟨h42,h⟩
  obtain rfl:=sj h
  exact fun j=>lF 1 [0,1,2,3,4,5,6,7] (oD (dI ([]:List Int))<|oD (dT ([]:List Tm))<|oD (dI q12)<|oD (dT q9)<|oD (dI q8)<|oD (dC q2)<|oD (dE q1)<|oD (dI q4)<|oD (dI q3)<|oD (dE q0)<|oB 3 h42 k)
  obtain⟨l43,h44,h⟩:=obind h
  exact fun j=>lH 2 [] [0,1,2,3,4,5,6,7,8,9] [0,1,3] [4,6,7,8,56,57,58] (oD (dT p1.binds_)<|oD (dT v8)<|oD (dI v7)<|oD (dT l43)<|oD (dI ([]:List Int))<|oD (dT ([]:List Tm))<|oD (dI q12)<|oD (dT q9)<|oD (dI q8)<|oD (dC q2)<|oD (dE q1)<|oD (dI q4)<|oD (dI q3)<|oD (dE q0)<|oP 0 (apS23 h44 (by simp))<|oS 2 (obLitR tm_eq [r40.1])<|oB 3 h42 k) (ih _ _ _ _ _ _ _ _ _ _ _ _ _ _ _ _ _ _ _ h)
  obtain rfl:=sj h
  exact fun j=>lF 2 [0,1,2,3,4,5,6,7] (oD (dT vb9_2)<|oD (dI q12)<|oD (dT q9)<|oD (dI q8)<|oD (dC q2)<|oD (dE q1)<|oD (dI q4)<|oD (dI q3)<|oD (dE q0)<|oB 0 h37 o0)
theorem l110vacyLda(qq q0 q1 q2 q3 q4 q5 q6 q7 q8 q9 q10 q11 q12 p1 v7 v8 v58 r)(h:e110vacyLda qq q0 q1 q2 q3 q4 q5 q6 q7 q8 q9 q10 q11 q12 p1 v7 v8 v58=some r):(∀j,Dl Tryz.prog 8 (inn (inn (rgt (lft (rgt (rgt (rgt (rgt (rgt (bod Tryz.f110)))))))))) (g110vacyLdaE0 j q0 q1 q2 q3 q4 q5 q6 q7 q8 q9 q10 q11 q12 p1 v7 v8 v58) (g110vacyLdaS0 q0 q1 q2 q3 q4 q5 q6 q7 q8 q9 q10 q11 q12 p1 v7 v8 v58) (frameQ Tryz.prog 8 ((match (generalizing:=false) r with|Sum.inl x=>FinQ Tryz.prog 8 Tryz.f110 (.tup [leafFoundA x.1,ai x.2]) [.cells [.mp 1 0,.mp 3 0,.obj 4,.ms 5 0 (List.length q8) (List.length q8) 1,.ms 6 0 q10 q11 3,.ms 7 0 (List.length q12) (List.length q12) 1],.cells [slv entL q0 .no,.mp 2 0,slv intC q3 .no,slv intC q4 .no],.cells [slv entL q1 .no,slv conL q2 .no],.cells [ai q5,ai q6],imap q7,.row (flat intC q8),.row (flat tmCells q9),.row (flat intC q12)] 0|Sum.inr x=>FinQ Tryz.prog 8 Tryz.f110 (.tup [.agg [ab true,ai x.1,slv tmCells x.2.1 .no,.ms 7 0 (List.length x.2.2.1) (List.length x.2.2.1) 1],ai x.2.2.2]) [.cells [.mp 1 0,.mp 3 0,.obj 4,.ms 5 0 (List.length q8) (List.length q8) 1,.ms 6 0 q10 q11 3,.ms 7 0 (List.length q12) (List.length q12) 1],.cells [slv entL q0 .no,.mp 2 0,slv intC q3 .no,slv intC q4 .no],.cells [slv entL q1 .no,slv conL q2 .no],.cells [ai q5,ai q6],imap q7,.row (flat intC q8),.row (flat tmCells q9),.row (flat intC q12)] 0)) [.blk 2,.seq (rgt (rgt (rgt (rgt (rgt (rgt (bod Tryz.f110)))))))])):=by
 unfold e110vacyLda at h
 rcases spl h with⟨h29,h⟩|⟨h29,h⟩
 obtain⟨x30,h31,h⟩:=obind h
 obtain⟨r32,h33,h⟩:=obind h
 have k:=oC 3 [] (c177 h33)<|oA 0 (ix23 (o:=.no) h31)<|oB 0 h29 o0
 rcases spl h with⟨h34,h⟩|⟨h34,h⟩
 obtain rfl:=sj h
 exact fun j=>lF 1 [0,1,2,3,4,5,6,7] (oD (dI ([]:List Int))<|oD (dT ([]:List Tm))<|oD (dI q12)<|oD (dT q9)<|oD (dI q8)<|oD (dC q2)<|oD (dE q1)<|oD (dI q4)<|oD (dI q3)<|oD (dE q0)<|oB 3 h34 k)
 obtain⟨l35,h36,h⟩:=obind h
 exact fun j=>lH 2 [] [0,1,2,3,4,5,6,7,8,9] [0,1,2] [4,6,7,8,56,57,58] (oD (dT p1.binds_)<|oD (dT v8)<|oD (dI v7)<|oD (dT l35)<|oD (dI ([]:List Int))<|oD (dT ([]:List Tm))<|oD (dI q12)<|oD (dT q9)<|oD (dI q8)<|oD (dC q2)<|oD (dE q1)<|oD (dI q4)<|oD (dI q3)<|oD (dE q0)<|oP 0 (apS23 h36 (by simp))<|oS 2 (obLitR tm_eq [r32.1])<|oB 3 h34 k) (l110vacyLcz _ _ _ _ _ _ _ _ _ _ _ _ _ _ _ _ _ _ _ _ h)
 obtain rfl:=sj h
 exact fun j=>lF 2 [0,1,2,3,4,5,6,7] (oD (dT ([]:List Tm))<|oD (dI q12)<|oD (dT q9)<|oD (dI q8)<|oD (dC q2)<|oD (dE q1)<|oD (dI q4)<|oD (dI q3)<|oD (dE q0)<|oB 0 h29 o0)
theorem l110vacyLdb:∀qq:Nat,(∀q0 q1 q2 q3 q4 q5 q6 q7 q8 q9 q10 q11 q12 p1 v27 v7 v8 r,e110vacyLdb qq q0 q1 q2 q3 q4 q5 q6 q7 q8 q9 q10 q11 q12 p1 v27 v7 v8=some r->(∀j,Dl Tryz.prog 8 (inn (inn (rgt (lft (rgt (rgt (rgt (rgt (bod Tryz.f110))))))))) (g110vacyLdbE0 j q0 q1 q2 q3 q4 q5 q6 q7 q8 q9 q10 q11 q12 p1 v27 v7 v8) (g110vacyLdbS0 q0 q1 q2 q3 q4 q5 q6 q7 q8 q9 q10 q11 q12 p1 v27 v7 v8) (frameQ Tryz.prog 8 ((match (generalizing:=false) r with|Sum.inl x=>FinQ Tryz.prog 8 Tryz.f110 (.tup [leafFoundA x.1,ai x.2]) [.cells [.mp 1 0,.mp 3 0,.obj 4,.ms 5 0 (List.length q8) (List.length q8) 1,.ms 6 0 q10 q11 3,.ms 7 0 (List.length q12) (List.length q12) 1],.cells [slv entL q0 .no,.mp 2 0,slv intC q3 .no,slv intC q4 .no],.cells [slv entL q1 .no,slv conL q2 .no],.cells [ai q5,ai q6],imap q7,.row (flat intC q8),.row (flat tmCells q9),.row (flat intC q12)] 0|Sum.inr x=>FinQ Tryz.prog 8 Tryz.f110 (.tup [.agg [ab true,ai x.1,slv tmCells x.2.1 .no,.ms 7 0 (List.length x.2.2.1) (List.length x.2.2.1) 1],ai x.2.2.2]) [.cells [.mp 1 0,.mp 3 0,.obj 4,.ms 5 0 (List.length q8) (List.length q8) 1,.ms 6 0 q10 q11 3,.ms 7 0 (List.length q12) (List.length q12) 1],.cells [slv entL q0 .no,.mp 2 0,slv intC q3 .no,slv intC q4 .no],.cells [slv entL q1 .no,slv conL q2 .no],.cells [ai q5,ai q6],imap q7,.row (flat intC q8),.row (flat tmCells q9),.row (flat intC q12)] 0)) [.blk 0,.seq (rgt (rgt (rgt (rgt (rgt (bod Tryz.f110))))))]))):=by
 intro qq
 induction qq with
 |zero=>
  exact fun _ _ _ _ _ _ _ _ _ _ _ _ _ _ _ _ _ _ h=>nn h
 |succ qq ih=>
  intro q0 q1 q2 q3 q4 q5 q6 q7 q8 q9 q10 q11 q12 p1 v27 v7 v8 r h
  rw[e110vacyLdb]at h
  rcases spl h with⟨h15,h⟩|⟨h15,h⟩
  obtain⟨x16,h17,h⟩:=obind h
  obtain⟨x18,h19,h⟩:=obind h
  have k:=oL 1 (lkI181 q7 x18)<|oG (a:=(ai x18)) 0 (ldE codecI h19 (false,1) (val:=ai x18) rfl)<|oA 0 (ixM41 (b:=5) (c:=List.length q8) (z:=1) h17)<|oB 0 h15 o0
  rcases spl h with⟨h20,h⟩|⟨h20,h⟩
  obtain⟨l21,h22,h⟩:=obind h
  obtain⟨x23,h24,h⟩:=obind h
  obtain⟨x25,h26,h⟩:=obind h
  obtain⟨l27,h28,h⟩:=obind h
  exact fun j=>lH 1 [] [0,1,2,3,4,5,6,7,8,9,10] [2,3] [0,3,4,6,7,8,25,26,27] (oD (dT l27)<|oD (dI l21)<|oD (dT ([]:List Tm))<|oD (dI ([]:List Int))<|oD (dT ([]:List Tm))<|oD (dCoverKid p1.kids_)<|oD (dT p1.args_)<|oD (dT p1.binds_)<|oD (dFreeVar p1.vars_)<|oD (dI q12)<|oD (dT q9)<|oD (dI q8)<|oD (dC q2)<|oD (dE q1)<|oD (dI q4)<|oD (dI q3)<|oD (dE q0)<|oP 0 (apS23 h28 (by simp))<|oS 0 (obLitR tm_eq [x25])<|oG (a:=(.agg [ai x25.k,ai x25.n,slv tmCells x25.sub .no])) 0 (ldE codecT h26 (true,3) (val:=.agg [ai x25.k,ai x25.n,slv tmCells x25.sub .no]) (by rw[tm_eq];rfl))<|oA 1 (ixM23 (b:=6) (c:=q11) (z:=3) h24)<|oP 1 (apS41 h22 (by simp))<|oB 0 h20 k) (ih _ _ _ _ _ _ _ _ _ _ _ _ _ _ _ _ _ _ h)
  exact fun j=>lH 1 [] [0,1,2,3,4,5,6,7,8,9,10] [0,1] [0,3,4,6,7,8,25,26,27] (oD (dT v8)<|oD (dI v7)<|oD (dT ([]:List Tm))<|oD (dI ([]:List Int))<|oD (dT ([]:List Tm))<|oD (dCoverKid p1.kids_)<|oD (dT p1.args_)<|oD (dT p1.binds_)<|oD (dFreeVar p1.vars_)<|oD (dI q12)<|oD (dT q9)<|oD (dI q8)<|oD (dC q2)<|oD (dE q1)<|oD (dI q4)<|oD (dI q3)<|oD (dE q0)<|oB 0 h20 k) (ih _ _ _ _ _ _ _ _ _ _ _ _ _ _ _ _ _ _ h)
  exact fun j=>lH 2 [] [0,1,2,3,4,5,6,7,9,10] [0,1] [4,6,7,8,56,57,58] (oD (dT p1.binds_)<|oD (dT v8)<|oD (dI v7)<|oD (dT ([]:List Tm))<|oD (dI ([]:List Int))<|oD (dT ([]:List Tm))<|oD (dI q12)<|oD (dT q9)<|oD (dI q8)<|oD (dC q2)<|oD (dE q1)<|oD (dI q4)<|oD (dI q3)<|oD (dE q0)<|oB 0 h15 o0) (l110vacyLda qq _ _ _ _ _ _ _ _ _ _ _ _ _ _ _ _ _ _ h)
theorem l110vacyLdc:∀qq:Nat,(∀q0 q1 q2 q3 q4 q5 q6 q7 q8 q9 q10 q11 q12 p1 v58 vb9_2 r,e110vacyLdc qq q0 q1 q2 q3 q4 q5 q6 q7 q8 q9 q10 q11 q12 p1 v58 vb9_2=some r->(∀j,Dl Tryz.prog 8 (inn (inn (rgt (lft (rgt (rgt (rgt (rgt (rgt (bod Tryz.f110)))))))))) (g110vacyLdcE0 j q0 q1 q2 q3 q4 q5 q6 q7 q8 q9 q10 q11 q12 p1 v58 vb9_2) (g110vacyLdcS0 q0 q1 q2 q3 q4 q5 q6 q7 q8 q9 q10 q11 q12 p1 v58 vb9_2) (frameQ Tryz.prog 8 ((match (generalizing:=false) r with|Sum.inl x=>FinQ Tryz.prog 8 Tryz.f110 (.tup [leafFoundA x.1,ai x.2]) [.cells [.mp 1 0,.mp 3 0,.obj 4,.ms 5 0 (List.length q8) (List.length q8) 1,.ms 6 0 q10 q11 3,.ms 7 0 (List.length q12) (List.length q12) 1],.cells [slv entL q0 .no,.mp 2 0,slv intC q3 .no,slv intC q4 .no],.cells [slv entL q1 .no,slv conL q2 .no],.cells [ai q5,ai q6],imap q7,.row (flat intC q8),.row (flat tmCells q9),.row (flat intC q12)] 0|Sum.inr x=>FinQ Tryz.prog 8 Tryz.f110 (.tup [.agg [ab true,ai x.1,slv tmCells x.2.1 .no,.ms 7 0 (List.length x.2.2.1) (List.length x.2.2.1) 1],ai x.2.2.2]) [.cells [.mp 1 0,.mp 3 0,.obj 4,.ms 5 0 (List.length q8) (List.length q8) 1,.ms 6 0 q10 q11 3,.ms 7 0 (List.length q12) (List.length q12) 1],.cells [slv entL q0 .no,.mp 2 0,slv intC q3 .no,slv intC q4 .no],.cells [slv entL q1 .no,slv conL q2 .no],.cells [ai q5,ai q6],imap q7,.row (flat intC q8),.row (flat tmCells q9),.row (flat intC q12)] 0)) [.blk 2,.seq (rgt (rgt (rgt (rgt (rgt (rgt (bod Tryz.f110)))))))]))):=by
 intro qq
 induction qq with
 |zero=>
  exact fun _ _ _ _ _ _ _ _ _ _ _ _ _ _ _ _ _ h=>nn h
 |succ qq ih=>
  intro q0 q1 q2 q3 q4 q5 q6 q7 q8 q9 q10 q11 q12 p1 v58 vb9_2 r h
  rw[e110vacyLdc]at h
  rcases spl h with⟨h23,h⟩|⟨h23,h⟩
  obtain⟨x24,h25,h⟩:=obind h
  obtain⟨r26,h27,h⟩:=obind h
  have k:=oC 3 [] (c177 h27)<|oA 0 (ix23 (o:=.no) h25)<|oB 0 h23 o0
  rcases spl h with⟨h28,h⟩|⟨h28,h⟩
  obtain rfl:=sj h
  exact fun j=>lF 1 [0,1,2,3,4,5,6,7] (oD (dI ([]:List Int))<|oD (dT ([]:List Tm))<|oD (dI q12)<|oD (dT q9)<|oD (dI q8)<|oD (dC q2)<|oD (dE q1)<|oD (dI q4)<|oD (dI q3)<|oD (dE q0)<|oB 3 h28 k)
  obtain⟨l29,h30,h⟩:=obind h
  exact fun j=>lH 2 [] [0,1,2,3,4,5,6,7,8,9] [1] [4,6,7,8,56,57,58] (oD (dT p1.binds_)<|oD (dT ([]:List Tm))<|oD (dI ([]:List Int))<|oD (dT l29)<|oD (dI ([]:List Int))<|oD (dT ([]:List Tm))<|oD (dI q12)<|oD (dT q9)<|oD (dI q8)<|oD (dC q2)<|oD (dE q1)<|oD (dI q4)<|oD (dI q3)<|oD (dE q0)<|oP 0 (apS23 h30 (by simp))<|oS 2 (obLitR tm_eq [r26.1])<|oB 3 h28 k) (ih _ _ _ _ _ _ _ _ _ _ _ _ _ _ _ _ _ h)
  obtain rfl:=sj h
  exact fun j=>lF 2 [0,1,2,3,4,5,6,7] (oD (dT vb9_2)<|oD (dI q12)<|oD (dT q9)<|oD (dI q8)<|oD (dC q2)<|oD (dE q1)<|oD (dI q4)<|oD (dI q3)<|oD (dE q0)<|oB 0 h23 o0)
theorem l110vacyLdd(qq q0 q1 q2 q3 q4 q5 q6 q7 q8 q9 q10 q11 q12 p1 v58 r)(h:e110vacyLdd qq q0 q1 q2 q3 q4 q5 q6 q7 q8 q9 q10 q11 q12 p1 v58=some r):(∀j,Dl Tryz.prog 8 (inn (inn (rgt (lft (rgt (rgt (rgt (rgt (rgt (bod Tryz.f110)))))))))) (g110vacyLddE0 j q0 q1 q2 q3 q4 q5 q6 q7 q8 q9 q10 q11 q12 p1 v58) (g110vacyLddS0 q0 q1 q2 q3 q4 q5 q6 q7 q8 q9 q10 q11 q12 p1 v58) (frameQ Tryz.prog 8 ((match (generalizing:=false) r with|Sum.inl x=>FinQ Tryz.prog 8 Tryz.f110 (.tup [leafFoundA x.1,ai x.2]) [.cells [.mp 1 0,.mp 3 0,.obj 4,.ms 5 0 (List.length q8) (List.length q8) 1,.ms 6 0 q10 q11 3,.ms 7 0 (List.length q12) (List.length q12) 1],.cells [slv entL q0 .no,.mp 2 0,slv intC q3 .no,slv intC q4 .no],.cells [slv entL q1 .no,slv conL q2 .no],.cells [ai q5,ai q6],imap q7,.row (flat intC q8),.row (flat tmCells q9),.row (flat intC q12)] 0|Sum.inr x=>FinQ Tryz.prog 8 Tryz.f110 (.tup [.agg [ab true,ai x.1,slv tmCells x.2.1 .no,.ms 7 0 (List.length x.2.2.1) (List.length x.2.2.1) 1],ai x.2.2.2]) [.cells [.mp 1 0,.mp 3 0,.obj 4,.ms 5 0 (List.length q8) (List.length q8) 1,.ms 6 0 q10 q11 3,.ms 7 0 (List.length q12) (List.length q12) 1],.cells [slv entL q0 .no,.mp 2 0,slv intC q3 .no,slv intC q4 .no],.cells [slv entL q1 .no,slv conL q2 .no],.cells [ai q5,ai q6],imap q7,.row (flat intC q8),.row (flat tmCells q9),.row (flat intC q12)] 0)) [.blk 2,.seq (rgt (rgt (rgt (rgt (rgt (rgt (bod Tryz.f110)))))))])):=by
 unfold e110vacyLdd at h
 rcases spl h with⟨h15,h⟩|⟨h15,h⟩
 obtain⟨x16,h17,h⟩:=obind h
 obtain⟨r18,h19,h⟩:=obind h
 have k:=oC 3 [] (c177 h19)<|oA 0 (ix23 (o:=.no) h17)<|oB 0 h15 o0
 rcases spl h with⟨h20,h⟩|⟨h20,h⟩
 obtain rfl:=sj h
 exact fun j=>lF 1 [0,1,2,3,4,5,6,7] (oD (dI ([]:List Int))<|oD (dT ([]:List Tm))<|oD (dI q12)<|oD (dT q9)<|oD (dI q8)<|oD (dC q2)<|oD (dE q1)<|oD (dI q4)<|oD (dI q3)<|oD (dE q0)<|oB 3 h20 k)
 obtain⟨l21,h22,h⟩:=obind h
 exact fun j=>lH 2 [] [0,1,2,3,4,5,6,7,8,9] [0] [4,6,7,8,56,57,58] (oD (dT p1.binds_)<|oD (dT ([]:List Tm))<|oD (dI ([]:List Int))<|oD (dT l21)<|oD (dI ([]:List Int))<|oD (dT ([]:List Tm))<|oD (dI q12)<|oD (dT q9)<|oD (dI q8)<|oD (dC q2)<|oD (dE q1)<|oD (dI q4)<|oD (dI q3)<|oD (dE q0)<|oP 0 (apS23 h22 (by simp))<|oS 2 (obLitR tm_eq [r18.1])<|oB 3 h20 k) (l110vacyLdc _ _ _ _ _ _ _ _ _ _ _ _ _ _ _ _ _ _ h)
 obtain rfl:=sj h
 exact fun j=>lF 2 [0,1,2,3,4,5,6,7] (oD (dT ([]:List Tm))<|oD (dI q12)<|oD (dT q9)<|oD (dI q8)<|oD (dC q2)<|oD (dE q1)<|oD (dI q4)<|oD (dI q3)<|oD (dE q0)<|oB 0 h15 o0)
theorem l110vacyLde:∀qq:Nat,(∀q0 q1 q2 q3 q4 q5 q6 q7 q8 q9 q10 q11 q12 p1 v27 r,e110vacyLde qq q0 q1 q2 q3 q4 q5 q6 q7 q8 q9 q10 q11 q12 p1 v27=some r->(∀j,Dl Tryz.prog 8 (inn (inn (rgt (lft (rgt (rgt (rgt (rgt (bod Tryz.f110))))))))) (g110vacyLdeE0 j q0 q1 q2 q3 q4 q5 q6 q7 q8 q9 q10 q11 q12 p1 v27) (g110vacyLdeS0 q0 q1 q2 q3 q4 q5 q6 q7 q8 q9 q10 q11 q12 p1 v27) (frameQ Tryz.prog 8 ((match (generalizing:=false) r with|Sum.inl x=>FinQ Tryz.prog 8 Tryz.f110 (.tup [leafFoundA x.1,ai x.2]) [.cells [.mp 1 0,.mp 3 0,.obj 4,.ms 5 0 (List.length q8) (List.length q8) 1,.ms 6 0 q10 q11 3,.ms 7 0 (List.length q12) (List.length q12) 1],.cells [slv entL q0 .no,.mp 2 0,slv intC q3 .no,slv intC q4 .no],.cells [slv entL q1 .no,slv conL q2 .no],.cells [ai q5,ai q6],imap q7,.row (flat intC q8),.row (flat tmCells q9),.row (flat intC q12)] 0|Sum.inr x=>FinQ Tryz.prog 8 Tryz.f110 (.tup [.agg [ab true,ai x.1,slv tmCells x.2.1 .no,.ms 7 0 (List.length x.2.2.1) (List.length x.2.2.1) 1],ai x.2.2.2]) [.cells [.mp 1 0,.mp 3 0,.obj 4,.ms 5 0 (List.length q8) (List.length q8) 1,.ms 6 0 q10 q11 3,.ms 7 0 (List.length q12) (List.length q12) 1],.cells [slv entL q0 .no,.mp 2 0,slv intC q3 .no,slv intC q4 .no],.cells [slv entL q1 .no,slv conL q2 .no],.cells [ai q5,ai q6],imap q7,.row (flat intC q8),.row (flat tmCells q9),.row (flat intC q12)] 0)) [.blk 0,.seq (rgt (rgt (rgt (rgt (rgt (bod Tryz.f110))))))]))):=by
 intro qq
 induction qq with
 |zero=>
  exact fun _ _ _ _ _ _ _ _ _ _ _ _ _ _ _ _ h=>nn h
 |succ qq ih=>
  intro q0 q1 q2 q3 q4 q5 q6 q7 q8 q9 q10 q11 q12 p1 v27 r h
  rw[e110vacyLde]at h
  rcases spl h with⟨h1,h⟩|⟨h1,h⟩
  obtain⟨x2,h3,h⟩:=obind h
  obtain⟨x4,h5,h⟩:=obind h
  have k:=oL 1 (lkI181 q7 x4)<|oG (a:=(ai x4)) 0 (ldE codecI h5 (false,1) (val:=ai x4) rfl)<|oA 0 (ixM41 (b:=5) (c:=List.length q8) (z:=1) h3)<|oB 0 h1 o0
  rcases spl h with⟨h6,h⟩|⟨h6,h⟩
  obtain⟨l7,h8,h⟩:=obind h
  obtain⟨x9,h10,h⟩:=obind h
  obtain⟨x11,h12,h⟩:=obind h
  obtain⟨l13,h14,h⟩:=obind h
  exact fun j=>lH 1 [] [0,1,2,3,4,5,6,7,8,9,10] [0,1] [0,3,4,6,7,8,25,26,27] (oD (dT l13)<|oD (dI l7)<|oD (dT ([]:List Tm))<|oD (dI ([]:List Int))<|oD (dT ([]:List Tm))<|oD (dCoverKid p1.kids_)<|oD (dT p1.args_)<|oD (dT p1.binds_)<|oD (dFreeVar p1.vars_)<|oD (dI q12)<|oD (dT q9)<|oD (dI q8)<|oD (dC q2)<|oD (dE q1)<|oD (dI q4)<|oD (dI q3)<|oD (dE q0)<|oP 0 (apS23 h14 (by simp))<|oS 0 (obLitR tm_eq [x11])<|oG (a:=(.agg [ai x11.k,ai x11.n,slv tmCells x11.sub .no])) 0 (ldE codecT h12 (true,3) (val:=.agg [ai x11.k,ai x11.n,slv tmCells x11.sub .no]) (by rw[tm_eq];rfl))<|oA 1 (ixM23 (b:=6) (c:=q11) (z:=3) h10)<|oP 1 (apS41 h8 (by simp))<|oB 0 h6 k) (l110vacyLdb _ _ _ _ _ _ _ _ _ _ _ _ _ _ _ _ _ _ _ h)
  exact fun j=>lH 1 [] [0,1,2,3,4,5,6,7,8,9,10] [] [0,3,4,6,7,8,25,26,27] (oD (dT ([]:List Tm))<|oD (dI ([]:List Int))<|oD (dT ([]:List Tm))<|oD (dI ([]:List Int))<|oD (dT ([]:List Tm))<|oD (dCoverKid p1.kids_)<|oD (dT p1.args_)<|oD (dT p1.binds_)<|oD (dFreeVar p1.vars_)<|oD (dI q12)<|oD (dT q9)<|oD (dI q8)<|oD (dC q2)<|oD (dE q1)<|oD (dI q4)<|oD (dI q3)<|oD (dE q0)<|oB 0 h6 k) (ih _ _ _ _ _ _ _ _ _ _ _ _ _ _ _ _ h)
  exact fun j=>lH 2 [] [0,1,2,3,4,5,6,7,9,10] [] [4,6,7,8,56,57,58] (oD (dT p1.binds_)<|oD (dT ([]:List Tm))<|oD (dI ([]:List Int))<|oD (dT ([]:List Tm))<|oD (dI ([]:List Int))<|oD (dT ([]:List Tm))<|oD (dI q12)<|oD (dT q9)<|oD (dI q8)<|oD (dC q2)<|oD (dE q1)<|oD (dI q4)<|oD (dI q3)<|oD (dE q0)<|oB 0 h1 o0) (l110vacyLdd qq _ _ _ _ _ _ _ _ _ _ _ _ _ _ _ _ h)
theorem c110vacy{qq q0 q1 q2 q3 q4 q5 q6 q7 q8 q9 q10 q11 q12 p1 r}(h:e110vacy qq q0 q1 q2 q3 q4 q5 q6 q7 q8 q9 q10 q11 q12 p1=some r):(match (generalizing:=false) r with|Sum.inl x=>K110vacys0 q0 q1 q2 q3 q4 q5 q6 q7 q8 q9 q10 q11 q12 p1 x Ct|Sum.inr x=>K110vacys1 q0 q1 q2 q3 q4 q5 q6 q7 q8 q9 q10 q11 q12 p1 x Ct):=by
 unfold e110vacy at h
 rcases r with y0|y1
 exact k110vacys0 (tH q110vacy 5 [] [0,1,2,3,4,5,6,7,8,9,10] [] [0,3,4,6,7,8,25,26,27] (oD (dT ([]:List Tm))<|oD (dI ([]:List Int))<|oD (dT ([]:List Tm))<|oD (dI ([]:List Int))<|oD (dT ([]:List Tm))<|oD (dCoverKid p1.kids_)<|oD (dT p1.args_)<|oD (dT p1.binds_)<|oD (dFreeVar p1.vars_)<|oD (dI q12)<|oD (dT q9)<|oD (dI q8)<|oD (dC q2)<|oD (dE q1)<|oD (dI q4)<|oD (dI q3)<|oD (dE q0) o0) (l110vacyLde _ _ _ _ _ _ _ _ _ _ _ _ _ _ _ _ _ h))
 exact k110vacys1 (tH q110vacy 5 [] [0,1,2,3,4,5,6,7,8,9,10] [] [0,3,4,6,7,8,25,26,27] (oD (dT ([]:List Tm))<|oD (dI ([]:List Int))<|oD (dT ([]:List Tm))<|oD (dI ([]:List Int))<|oD (dT ([]:List Tm))<|oD (dCoverKid p1.kids_)<|oD (dT p1.args_)<|oD (dT p1.binds_)<|oD (dFreeVar p1.vars_)<|oD (dI q12)<|oD (dT q9)<|oD (dI q8)<|oD (dC q2)<|oD (dE q1)<|oD (dI q4)<|oD (dI q3)<|oD (dE q0) o0) (l110vacyLde _ _ _ _ _ _ _ _ _ _ _ _ _ _ _ _ _ h))
def TotU{α:Type}(f:Int->Int->Nat->Option α)(P:α->Prop):Prop:=∃a,P a∧∀L U,Evt (f L U) a
section
variable {α β:Type} {P:α->Prop} {Q:β->Prop}
theorem TotU.ret{r:α}(h:P r):TotU (fun _ _ _=>some r) P:=⟨r,h,fun _ _=>Evt.ret⟩
theorem TotU.succ{f:Int->Int->Nat->Option α}(h:TotU (fun L U q=>f L U (q+1)) P):TotU f P:=by obtain⟨r,p,h⟩:=h;exact⟨r,p,fun L U=>(h L U).succ⟩
theorem TotU.tot{x:Nat->Option β}{c:Int->Int->Nat->β->Option α}(h:Tot x Q)(g:∀a,Q a->TotU (fun L U q=>c L U q a) P):TotU (fun L U q=>x q>>=c L U q) P:=by
 obtain⟨a,h,q⟩:=h
 obtain⟨r,p,g⟩:=g a q
 exact⟨r,p,fun L U=>h.bind (g L U)⟩
theorem TotU.pure{x:Option β}{a:β}{c:Int->Int->Nat->β->Option α}(h:x=some a)(g:TotU (fun L U q=>c L U q a) P):TotU (fun L U q=>x>>=c L U q) P:=by
 obtain⟨r,p,g⟩:=g
 exact⟨r,p,fun L U=>Evt.pure h (g L U)⟩
theorem TotU.ite{b:Bool}{f g:Int->Int->Nat->Option α}(h:b=true->TotU f P)(k:b=false->TotU g P):TotU (fun L U q=>if b=true then f L U q else g L U q) P:=by
 cases b with
 |true=>obtain⟨r,p,h⟩:=h rfl;exact⟨r,p,fun L U=>Evt.ifT rfl (h L U)⟩
 |false=>obtain⟨r,p,h⟩:=k rfl;exact⟨r,p,fun L U=>Evt.ifF rfl (h L U)⟩
end
section
variable {ρ τ:Type} {er:ρ->Int} {Q:(Int->Int->ρ)->Int->Prop} {S:Prop} {l:Int}
theorem Ou.uni{P:τ->Prop}{x:Int->Int->Nat->Option τ}{c:Int->Int->Nat->τ->Option ρ}(h:TotU x P)(g:∀a,P a->Ou (fun L U q=>c L U q a) er Q S l):Ou (fun L U q=>x L U q>>=c L U q) er Q S l:=by
 obtain⟨a,p,h⟩:=h
 exact(g a p).imp fun L U r k=>(h L U).bind k
theorem Ou.of{f:Int->Int->Nat->Option ρ}{R:Int->Int->ρ}(h:∀L U,Evt (f L U) (R L U))(hl:0≤l)(k:Q R 0):Ou f er Q S l:=
 (Ou.ret hl k).imp fun L U r h'=>by rw[show r=R L U from h'.det Evt.ret];exact h L U
end
theorem igot_iset(x k y:Int):∀m:List (Int×Int),igot (iset m x k) y=if y=x then some k else igot m y
 | []=>by
  simp only[iset,igot]
  by_cases h:y=x<;>simp[h]
 |p::m=>by
  simp only[iset]
  by_cases hx:(x==p.1)=true
  ·rw[if_pos hx]
   have hx':x=p.1:=by simpa using hx
   simp only[igot]
   by_cases h:y=x
   ·subst h;simp
   ·simp[h,show ¬y=p.1 by rw[←hx'];exact h]
  ·rw[if_neg hx]
   have hx':¬x=p.1:=by simpa using hx
   simp only[igot]
   by_cases h:y=p.1
   ·have:¬y=x:=fun e=>hx' (by rw[←e];exact h)
    simp[h,this]
    intro e;exact absurd e.symm hx'
   ·simp only[show (y==p.1)=false by simpa using h]
    exact igot_iset x k y m
def LI(m:List (Int×Int))(ns:List Int)(ts:List Tm):Prop:=ns.length=ts.length∧(∀y,ihas m y=true->0≤iget m y∧iget m y<ts.length)∧∀x∈ts,shapedT x=true
theorem LI.nil:LI [] [] []:=⟨rfl,(fun y h=>by cases h),fun _ h=>nomatch h⟩
theorem LI.set{m:List (Int×Int)}{ns:List Int}{ts:List Tm}(h:LI m ns ts)(x:Int){u:Tm}(hu:shapedT u=true):LI (iset m x (ts.length:Int)) (ns++[x]) (ts++[u]):=by
 refine⟨by simp[h.1],fun y hy=>?_,fun z hz=>?_⟩
 ·unfold ihas at hy
  unfold iget
  rw[igot_iset]at hy ⊢
  by_cases e:y=x
  ·rw[if_pos e];simp;omega
  ·rw[if_neg e]at hy ⊢
   have:=h.2.1 y hy
   unfold iget at this
   simp;omega
 ·rcases List.mem_append.1 hz with hz|hz
  ·exact h.2.2 z hz
  ·rw[List.mem_singleton.1 hz];exact hu
def setAt:List (Int×Int)->Nat->List Int->List (Int×Int)
 |m,_,[]=>m
 |m,k,x::l=>setAt (iset m x (k:Int)) (k+1) l
theorem LI.sets:∀(r:List Int) (us:List Tm) {m:List (Int×Int)} {ns:List Int} {ts:List Tm},LI m ns ts->r.length=us.length->(∀u∈us,shapedT u=true)->LI (setAt m ts.length r) (ns++r) (ts++us)
 | [],[],_,_,_,h,_,_=>by simpa[setAt]using h
 | [],_::_,_,_,_,_,h,_=>nomatch h
 |_::_,[],_,_,_,_,h,_=>nomatch h
 |x::r,u::us,m,ns,ts,h,hl,hs=>by
  have:=LI.sets r us (h.set x (hs u (by simp))) (by simpa using hl) fun u hu=>hs u (by simp[hu])
  simpa[setAt]using this
theorem ev_setM1(q0 q1:List Ent)(q2:List Con')(q3 q4:List Int)(q5 q6:Int)(p1:List Int)(p2:List Tm)(hl:p1.length=p2.length)(hp:p1.length≤1000000000000):∀(r:List Int) (v:Nat) (m:List (Int×Int)) (ns:List Int) (ts:List Tm) (c:Nat),p1.drop v=r->ns.length=ts.length->ts.length+r.length≤1000000000000 ->
  Evt (fun q=>e109vacgLch q q0 q1 q2 q3 q4 q5 q6 p1 p2 (v:Int) c ts.length m ns ts) (ns++r,ts++p2.drop v,(ts++p2.drop v).length,if r=[]then c else(ts++p2.drop v).length,setAt m ts.length r):=by
 intro r
 induction r with
 |nil=>
  intro v m ns ts c hd he hb
  have h2:p2.drop v=[]:=by rw[List.drop_eq_nil_iff]at hd ⊢;omega
  refine Evt.succ ?_
  simp only[e109vacgLch]
  exact Evt.ifF (drop_nil hd) (Evt.ret.eq (by simp[h2,setAt]))
 |cons x r ih=>
  intro v m ns ts c hd he hb
  have hlt:=drop_lt hd
  have hy:p2.drop v=p2[v]'(by omega)::p2.drop (v+1):=List.drop_eq_getElem_cons (by omega)
  generalize p2[v]'(by omega)=y at hy
  simp only[List.length_cons]at hb
  refine Evt.succ ?_
  simp only[e109vacgLch]
  refine Evt.ifT (drop_dec hd) (Evt.pure (drop_idx hd) (Evt.pure (gapp_ok (by simp;omega)) (Evt.pure (drop_idx hy) (Evt.pure (show gfz ts.length ts=some ts by simp[gfz]) (Evt.pure (gapp_ok (by simp;omega)) (Evt.pure (a:=ts.length) (by unfold gchk;rw[if_pos (by simp;omega)];simp) (Evt.pure (a:=ts++[y]) (by unfold gset;rw[if_pos (by simp)];simp) ?_)))))))
  rw[w64_nat v (by omega)]
  have e:(ts++[Tm.mk 0 0 []]).length=(ts++[y]).length:=by simp
  rw[e]
  refine(ih (v+1) (iset m x (ts.length:Int)) (ns++[x]) (ts++[y]) _ (drop_next hd) (by simp[he]) (by simp;omega)).eq ?_
  rw[hy]
  by_cases hr:r=[]
  ·subst hr
   have h2:p2.drop (v+1)=[]:=by have:=drop_next hd;rw[List.drop_eq_nil_iff]at this ⊢;omega
   simp[h2,setAt]
  ·simp[setAt,hr]
theorem ev_setM2(q0 q1:List Ent)(q2:List Con')(q3 q4:List Int)(q5 q6:Int)(q12:List Int)(p1:List Int)(p2:List Tm)(hl:p1.length=p2.length)(hp:p1.length≤1000000000000):∀(r:List Int) (v:Nat) (m:List (Int×Int)) (ns:List Int) (ts:List Tm) (c:Nat),p1.drop v=r->ns.length=ts.length->ts.length+r.length≤1000000000000 ->
  Evt (fun q=>e109vaclLcm q q0 q1 q2 q3 q4 q5 q6 q12 p1 p2 (v:Int) c ts.length m ns ts) (ns++r,ts++p2.drop v,(ts++p2.drop v).length,if r=[]then c else(ts++p2.drop v).length,setAt m ts.length r):=by
 intro r
 induction r with
 |nil=>
  intro v m ns ts c hd he hb
  have h2:p2.drop v=[]:=by rw[List.drop_eq_nil_iff]at hd ⊢;omega
  refine Evt.succ ?_
  simp only[e109vaclLcm]
  exact Evt.ifF (drop_nil hd) (Evt.ret.eq (by simp[h2,setAt]))
 |cons x r ih=>
  intro v m ns ts c hd he hb
  have hlt:=drop_lt hd
  have hy:p2.drop v=p2[v]'(by omega)::p2.drop (v+1):=List.drop_eq_getElem_cons (by omega)
  generalize p2[v]'(by omega)=y at hy
  simp only[List.length_cons]at hb
  refine Evt.succ ?_
  simp only[e109vaclLcm]
  refine Evt.ifT (drop_dec hd) (Evt.pure (drop_idx hd) (Evt.pure (gapp_ok (by simp;omega)) (Evt.pure (drop_idx hy) (Evt.pure (show gfz ts.length ts=some ts by simp[gfz]) (Evt.pure (gapp_ok (by simp;omega)) (Evt.pure (a:=ts.length) (by unfold gchk;rw[if_pos (by simp;omega)];simp) (Evt.pure (a:=ts++[y]) (by unfold gset;rw[if_pos (by simp)];simp) ?_)))))))
  rw[w64_nat v (by omega)]
  have e:(ts++[Tm.mk 0 0 []]).length=(ts++[y]).length:=by simp
  rw[e]
  refine(ih (v+1) (iset m x (ts.length:Int)) (ns++[x]) (ts++[y]) _ (drop_next hd) (by simp[he]) (by simp;omega)).eq ?_
  rw[hy]
  by_cases hr:r=[]
  ·subst hr
   have h2:p2.drop (v+1)=[]:=by have:=drop_next hd;rw[List.drop_eq_nil_iff]at this ⊢;omega
   simp[h2,setAt]
  ·simp[setAt,hr]
theorem ev_setM0(q0 q1:List Ent)(q2:List Con')(q3 q4:List Int)(q5 q6:Int)(i:Int)(a:Tm):Evt (fun q=>e109vaci q q0 q1 q2 q3 q4 q5 q6 [] [i] [a]) (.inl ([i],[a],1,1,[(i,0)])):=by
 simp only[e109vaci,e109vaciLck]
 refine Evt.ifT rfl (Evt.pure (a:=i) rfl (Evt.pure (gapp_ok (by simp)) (Evt.pure (a:=a) rfl (Evt.pure (gapp_ok (by simp)) (Evt.pure (a:=0) rfl (Evt.pure (a:=[a]) rfl ?_))))))
 refine Evt.succ ?_
 simp only[e109vaciLcj]
 exact Evt.ifF rfl Evt.ret
def LOk(b:List Tm):Prop:=OkL b∧b.length≤1048576
theorem okL_all:∀ {l:List Tm},OkL l->∀x∈l,x.Ok
 | [],_,_,h=>nomatch h
 |a::l,⟨h1,h2⟩,x,hx=>by
  rcases List.mem_cons.1 hx with rfl|hx
  ·exact h1
  ·exact okL_all h2 x hx
theorem gchk_ok{n:Nat}{v:Nat}(h:v<n):gchk n (v:Int)=some v:=by unfold gchk;rw[if_pos (by omega)];simp
theorem gidx_nat{α:Type}{l:List α}{v:Nat}(h:v<l.length):gidx l (v:Int)=some l[v]:=by unfold gidx;rw[if_pos (by omega)];simp[h]
section
variable (q0 q1:List Ent) (q2:List Con') (q3 q4:List Int) (m:List (Int×Int)) (ns:List Int) (ts:List Tm) (n c:Nat) (t:CoverTree) (ht:OkL t.binds_∧t.binds_.length≤1048576)
include ht
theorem tu_putEN1(v7:List Int)(v8:List Tm)(h8:∀x∈v8,shapedT x=true)(hl:v8.length≤1073741824):∀(r:List Tm) (v:Nat) (acc:List Tm),t.binds_.drop v=r->acc.length≤v->v≤t.binds_.length->OkL acc ->
  TotU (fun L U q=>e110vacnLco q q0 q1 q2 q3 q4 L U m ns ts n c t v7 v8 (v:Int) acc) (fun r=>LOk r.1.binds_):=by
 intro r
 induction r with
 |nil=>
  intro v acc hd ha hv ho
  refine TotU.succ ?_
  simp only[e110vacnLco]
  refine TotU.ite (fun h=>?_) fun _=>TotU.ret ⟨ho,Nat.le_trans ha (Nat.le_trans hv ht.2)⟩
  rw[drop_nil hd]at h;cases h
 |cons x r ih=>
  intro v acc hd ha hv ho
  have hlt:=drop_lt hd
  have hb:=ht.2
  refine TotU.succ ?_
  simp only[e110vacnLco]
  refine TotU.ite (fun _=>TotU.pure (drop_idx hd) (TotU.tot (tot_Put v7 v8 x (okL_all ht.1 x (List.mem_of_mem_drop (by rw[hd];simp))) (fun y hy=>shaped_ok (h8 y hy)) hl) fun r40 h40=>TotU.ite (fun _=>TotU.ret ⟨trivial,by simp⟩) fun _=>TotU.pure (gapp_ok (by simp;omega)) ?_)) fun h=>?_
  ·rw[w64_nat v (by omega)]
   exact ih (v+1) _ (drop_next hd) (by simp;omega) hlt (okL_snoc ho h40)
  ·rw[drop_dec hd]at h;cases h
theorem tu_putEN1'(v7:List Int)(v8:List Tm)(h8:∀x∈v8,shapedT x=true)(hl:v8.length≤1073741824):TotU (fun L U q=>e110vacnLcp q q0 q1 q2 q3 q4 L U m ns ts n c t v7 v8 0) (fun r=>LOk r.1.binds_):=by
 simp only[e110vacnLcp]
 refine TotU.ite (fun h=>?_) fun _=>TotU.ret ⟨trivial,by simp⟩
 have hlt:0<t.binds_.length:=by have:=of_decide_eq_true h;omega
 have hd:t.binds_.drop 0=t.binds_[0]::t.binds_.drop 1:=List.drop_eq_getElem_cons hlt
 refine TotU.pure (drop_idx hd) (TotU.tot (tot_Put v7 v8 _ (okL_all ht.1 _ (List.getElem_mem hlt)) (fun y hy=>shaped_ok (h8 y hy)) hl) fun r40 h40=>TotU.ite (fun _=>TotU.ret ⟨trivial,by simp⟩) fun _=>TotU.pure (gapp_ok (by simp)) ?_)
 exact tu_putEN1 q0 q1 q2 q3 q4 m ns ts n c t ht v7 v8 h8 hl _ 1 _ rfl (by simp) hlt (okL_snoc (l:=[]) trivial h40)
theorem tu_noneEN1:∀(r:List Tm) (v:Nat) (acc:List Tm),t.binds_.drop v=r->acc.length≤v->v≤t.binds_.length->OkL acc ->
  TotU (fun L U q=>e110vacnLcr q q0 q1 q2 q3 q4 L U m ns ts n c t (v:Int) acc) (fun r=>LOk r.1.binds_):=by
 intro r
 induction r with
 |nil=>
  intro v acc hd ha hv ho
  refine TotU.succ ?_
  simp only[e110vacnLcr]
  refine TotU.ite (fun h=>?_) fun _=>TotU.ret ⟨ho,Nat.le_trans ha (Nat.le_trans hv ht.2)⟩
  rw[drop_nil hd]at h;cases h
 |cons x r ih=>
  intro v acc hd ha hv ho
  have hlt:=drop_lt hd
  have hb:=ht.2
  refine TotU.succ ?_
  simp only[e110vacnLcr]
  refine TotU.ite (fun _=>TotU.pure (drop_idx hd) (TotU.tot (tot_Put [] [] x (okL_all ht.1 x (List.mem_of_mem_drop (by rw[hd];simp))) (fun _ h=>nomatch h) (by simp)) fun r40 h40=>TotU.ite (fun _=>TotU.ret ⟨trivial,by simp⟩) fun _=>TotU.pure (gapp_ok (by simp;omega)) ?_)) fun h=>?_
  ·rw[w64_nat v (by omega)]
   exact ih (v+1) _ (drop_next hd) (by simp;omega) hlt (okL_snoc ho h40)
  ·rw[drop_dec hd]at h;cases h
theorem tu_noneEN1':TotU (fun L U q=>e110vacnLcs q q0 q1 q2 q3 q4 L U m ns ts n c t 0) (fun r=>LOk r.1.binds_):=by
 simp only[e110vacnLcs]
 refine TotU.ite (fun h=>?_) fun _=>TotU.ret ⟨trivial,by simp⟩
 have hlt:0<t.binds_.length:=by have:=of_decide_eq_true h;omega
 have hd:t.binds_.drop 0=t.binds_[0]::t.binds_.drop 1:=List.drop_eq_getElem_cons hlt
 refine TotU.pure (drop_idx hd) (TotU.tot (tot_Put [] [] _ (okL_all ht.1 _ (List.getElem_mem hlt)) (fun _ h=>nomatch h) (by simp)) fun r40 h40=>TotU.ite (fun _=>TotU.ret ⟨trivial,by simp⟩) fun _=>TotU.pure (gapp_ok (by simp)) ?_)
 exact tu_noneEN1 q0 q1 q2 q3 q4 m ns ts n c t ht _ 1 _ rfl (by simp) hlt (okL_snoc (l:=[]) trivial h40)
theorem tu_selEN1(hi:ns.length=ts.length∧n=ts.length∧∀x∈ts,shapedT x=true)(hb:ts.length≤1073741824):∀(k v:Nat) (v7:List Int) (v8:List Tm),k+v=ns.length->v7.length≤v->v8.length≤v->(∀x∈v8,shapedT x=true) ->
  TotU (fun L U q=>e110vacnLcq q q0 q1 q2 q3 q4 L U m ns ts n c t (v:Int) v7 v8) (fun r=>LOk r.1.binds_):=by
 intro k
 induction k with
 |zero=>
  intro v v7 v8 hk h7 h8 hs
  refine TotU.succ ?_
  simp only[e110vacnLcq]
  refine TotU.ite (fun h=>?_) fun _=>tu_putEN1' q0 q1 q2 q3 q4 m ns ts n c t ht v7 v8 hs (by omega)
  have:=of_decide_eq_true h;omega
 |succ k ih=>
  intro v v7 v8 hk h7 h8 hs
  refine TotU.succ ?_
  simp only[e110vacnLcq]
  refine TotU.ite (fun _=>TotU.pure (gchk_ok (by omega)) (TotU.pure (gidx_nat (by omega)) (TotU.ite (fun _=>?_) fun _=>?_))) fun h=>?_
  ·refine TotU.pure (gapp_ok (by simp;omega)) (TotU.pure (gchk_ok (by omega)) (TotU.pure (gidx_nat (by omega)) (TotU.pure (gapp_ok (by simp;omega)) ?_)))
   rw[w64_nat v (by omega)]
   refine ih (v+1) _ _ (by omega) (by simp;omega) (by simp;omega) fun x hx=>?_
   rcases List.mem_append.1 hx with hx|hx
   ·exact hs x hx
   ·rw[List.mem_singleton.1 hx];exact hi.2.2 _ (List.getElem_mem _)
  ·rw[w64_nat v (by omega)]
   exact ih (v+1) _ _ (by omega) (by omega) (by omega) hs
  ·have:=of_decide_eq_false h;omega
theorem tu_seloEN1(hi:ns.length=ts.length∧n=ts.length∧∀x∈ts,shapedT x=true)(hb:ts.length≤1073741824):∀(k v:Nat),k+v=ns.length ->
  TotU (fun L U q=>e110vacnLct q q0 q1 q2 q3 q4 L U m ns ts n c t (v:Int)) (fun r=>LOk r.1.binds_):=by
 intro k
 induction k with
 |zero=>
  intro v hk
  refine TotU.succ ?_
  simp only[e110vacnLct]
  refine TotU.ite (fun h=>?_) fun _=>tu_noneEN1' q0 q1 q2 q3 q4 m ns ts n c t ht
  have:=of_decide_eq_true h;omega
 |succ k ih=>
  intro v hk
  refine TotU.succ ?_
  simp only[e110vacnLct]
  refine TotU.ite (fun _=>TotU.pure (gchk_ok (by omega)) (TotU.pure (gidx_nat (by omega)) (TotU.ite (fun _=>?_) fun _=>?_))) fun h=>?_
  ·refine TotU.pure (gapp_ok (by simp)) (TotU.pure (gchk_ok (by omega)) (TotU.pure (gidx_nat (by omega)) (TotU.pure (gapp_ok (by simp)) ?_)))
   rw[w64_nat v (by omega)]
   refine tu_selEN1 q0 q1 q2 q3 q4 m ns ts n c t ht hi hb k (v+1) _ _ (by omega) (by simp) (by simp) fun x hx=>?_
   simp only[List.nil_append,List.mem_singleton]at hx
   rw[hx];exact hi.2.2 _ (List.getElem_mem _)
  ·rw[w64_nat v (by omega)]
   exact ih (v+1) (by omega)
  ·have:=of_decide_eq_false h;omega
theorem tu_endEN1(hi:ns.length=ts.length∧n=ts.length∧∀x∈ts,shapedT x=true)(hb:ts.length≤1073741824):TotU (fun L U q=>e110vacn q q0 q1 q2 q3 q4 L U m ns ts n c t) (fun r=>LOk r.1.binds_):=by
 simp only[e110vacn]
 exact tu_seloEN1 q0 q1 q2 q3 q4 m ns ts n c t ht hi hb ns.length 0 (by omega)
end
section
variable (q0 q1:List Ent) (q2:List Con') (q3 q4:List Int) (m:List (Int×Int)) (ns:List Int) (ts:List Tm) (n c:Nat) (q12:List Int) (t:CoverTree) (ht:OkL t.binds_∧t.binds_.length≤1048576)
include ht
theorem tu_putEN2(v7:List Int)(v8:List Tm)(h8:∀x∈v8,shapedT x=true)(hl:v8.length≤1073741824):∀(r:List Tm) (v:Nat) (acc:List Tm),t.binds_.drop v=r->acc.length≤v->v≤t.binds_.length->OkL acc ->
  TotU (fun L U q=>e110vacyLcz q q0 q1 q2 q3 q4 L U m ns ts n c q12 t v7 v8 (v:Int) acc) (fun r=>match r with | .inl y=>LOk y.1.binds_ | .inr y=>LOk y.2.1):=by
 intro r
 induction r with
 |nil=>
  intro v acc hd ha hv ho
  refine TotU.succ ?_
  simp only[e110vacyLcz]
  refine TotU.ite (fun h=>?_) fun _=>TotU.ret ⟨ho,Nat.le_trans ha (Nat.le_trans hv ht.2)⟩
  rw[drop_nil hd]at h;cases h
 |cons x r ih=>
  intro v acc hd ha hv ho
  have hlt:=drop_lt hd
  have hb:=ht.2
  refine TotU.succ ?_
  simp only[e110vacyLcz]
  refine TotU.ite (fun _=>TotU.pure (drop_idx hd) (TotU.tot (tot_Put v7 v8 x (okL_all ht.1 x (List.mem_of_mem_drop (by rw[hd];simp))) (fun y hy=>shaped_ok (h8 y hy)) hl) fun r40 h40=>TotU.ite (fun _=>TotU.ret ⟨trivial,by simp⟩) fun _=>TotU.pure (gapp_ok (by simp;omega)) ?_)) fun h=>?_
  ·rw[w64_nat v (by omega)]
   exact ih (v+1) _ (drop_next hd) (by simp;omega) hlt (okL_snoc ho h40)
  ·rw[drop_dec hd]at h;cases h
theorem tu_putEN2'(v7:List Int)(v8:List Tm)(h8:∀x∈v8,shapedT x=true)(hl:v8.length≤1073741824):TotU (fun L U q=>e110vacyLda q q0 q1 q2 q3 q4 L U m ns ts n c q12 t v7 v8 0) (fun r=>match r with | .inl y=>LOk y.1.binds_ | .inr y=>LOk y.2.1):=by
 simp only[e110vacyLda]
 refine TotU.ite (fun h=>?_) fun _=>TotU.ret ⟨trivial,by simp⟩
 have hlt:0<t.binds_.length:=by have:=of_decide_eq_true h;omega
 have hd:t.binds_.drop 0=t.binds_[0]::t.binds_.drop 1:=List.drop_eq_getElem_cons hlt
 refine TotU.pure (drop_idx hd) (TotU.tot (tot_Put v7 v8 _ (okL_all ht.1 _ (List.getElem_mem hlt)) (fun y hy=>shaped_ok (h8 y hy)) hl) fun r40 h40=>TotU.ite (fun _=>TotU.ret ⟨trivial,by simp⟩) fun _=>TotU.pure (gapp_ok (by simp)) ?_)
 exact tu_putEN2 q0 q1 q2 q3 q4 m ns ts n c q12 t ht v7 v8 h8 hl _ 1 _ rfl (by simp) hlt (okL_snoc (l:=[]) trivial h40)
theorem tu_noneEN2:∀(r:List Tm) (v:Nat) (acc:List Tm),t.binds_.drop v=r->acc.length≤v->v≤t.binds_.length->OkL acc ->
  TotU (fun L U q=>e110vacyLdc q q0 q1 q2 q3 q4 L U m ns ts n c q12 t (v:Int) acc) (fun r=>match r with | .inl y=>LOk y.1.binds_ | .inr y=>LOk y.2.1):=by
 intro r
 induction r with
 |nil=>
  intro v acc hd ha hv ho
  refine TotU.succ ?_
  simp only[e110vacyLdc]
  refine TotU.ite (fun h=>?_) fun _=>TotU.ret ⟨ho,Nat.le_trans ha (Nat.le_trans hv ht.2)⟩
  rw[drop_nil hd]at h;cases h
 |cons x r ih=>
  intro v acc hd ha hv ho
  have hlt:=drop_lt hd
  have hb:=ht.2
  refine TotU.succ ?_
  simp only[e110vacyLdc]
  refine TotU.ite (fun _=>TotU.pure (drop_idx hd) (TotU.tot (tot_Put [] [] x (okL_all ht.1 x (List.mem_of_mem_drop (by rw[hd];simp))) (fun _ h=>nomatch h) (by simp)) fun r40 h40=>TotU.ite (fun _=>TotU.ret ⟨trivial,by simp⟩) fun _=>TotU.pure (gapp_ok (by simp;omega)) ?_)) fun h=>?_
  ·rw[w64_nat v (by omega)]
   exact ih (v+1) _ (drop_next hd) (by simp;omega) hlt (okL_snoc ho h40)
  ·rw[drop_dec hd]at h;cases h
theorem tu_noneEN2':TotU (fun L U q=>e110vacyLdd q q0 q1 q2 q3 q4 L U m ns ts n c q12 t 0) (fun r=>match r with | .inl y=>LOk y.1.binds_ | .inr y=>LOk y.2.1):=by
 simp only[e110vacyLdd]
 refine TotU.ite (fun h=>?_) fun _=>TotU.ret ⟨trivial,by simp⟩
 have hlt:0<t.binds_.length:=by have:=of_decide_eq_true h;omega
 have hd:t.binds_.drop 0=t.binds_[0]::t.binds_.drop 1:=List.drop_eq_getElem_cons hlt
 refine TotU.pure (drop_idx hd) (TotU.tot (tot_Put [] [] _ (okL_all ht.1 _ (List.getElem_mem hlt)) (fun _ h=>nomatch h) (by simp)) fun r40 h40=>TotU.ite (fun _=>TotU.ret ⟨trivial,by simp⟩) fun _=>TotU.pure (gapp_ok (by simp)) ?_)
 exact tu_noneEN2 q0 q1 q2 q3 q4 m ns ts n c q12 t ht _ 1 _ rfl (by simp) hlt (okL_snoc (l:=[]) trivial h40)
theorem tu_selEN2(hi:ns.length=ts.length∧n=ts.length∧∀x∈ts,shapedT x=true)(hb:ts.length≤1073741824):∀(k v:Nat) (v7:List Int) (v8:List Tm),k+v=ns.length->v7.length≤v->v8.length≤v->(∀x∈v8,shapedT x=true) ->
  TotU (fun L U q=>e110vacyLdb q q0 q1 q2 q3 q4 L U m ns ts n c q12 t (v:Int) v7 v8) (fun r=>match r with | .inl y=>LOk y.1.binds_ | .inr y=>LOk y.2.1):=by
 intro k
 induction k with
 |zero=>
  intro v v7 v8 hk h7 h8 hs
  refine TotU.succ ?_
  simp only[e110vacyLdb]
  refine TotU.ite (fun h=>?_) fun _=>tu_putEN2' q0 q1 q2 q3 q4 m ns ts n c q12 t ht v7 v8 hs (by omega)
  have:=of_decide_eq_true h;omega
 |succ k ih=>
  intro v v7 v8 hk h7 h8 hs
  refine TotU.succ ?_
  simp only[e110vacyLdb]
  refine TotU.ite (fun _=>TotU.pure (gchk_ok (by omega)) (TotU.pure (gidx_nat (by omega)) (TotU.ite (fun _=>?_) fun _=>?_))) fun h=>?_
  ·refine TotU.pure (gapp_ok (by simp;omega)) (TotU.pure (gchk_ok (by omega)) (TotU.pure (gidx_nat (by omega)) (TotU.pure (gapp_ok (by simp;omega)) ?_)))
   rw[w64_nat v (by omega)]
   refine ih (v+1) _ _ (by omega) (by simp;omega) (by simp;omega) fun x hx=>?_
   rcases List.mem_append.1 hx with hx|hx
   ·exact hs x hx
   ·rw[List.mem_singleton.1 hx];exact hi.2.2 _ (List.getElem_mem _)
  ·rw[w64_nat v (by omega)]
   exact ih (v+1) _ _ (by omega) (by omega) (by omega) hs
  ·have:=of_decide_eq_false h;omega
theorem tu_seloEN2(hi:ns.length=ts.length∧n=ts.length∧∀x∈ts,shapedT x=true)(hb:ts.length≤1073741824):∀(k v:Nat),k+v=ns.length ->
  TotU (fun L U q=>e110vacyLde q q0 q1 q2 q3 q4 L U m ns ts n c q12 t (v:Int)) (fun r=>match r with | .inl y=>LOk y.1.binds_ | .inr y=>LOk y.2.1):=by
 intro k
 induction k with
 |zero=>
  intro v hk
  refine TotU.succ ?_
  simp only[e110vacyLde]
  refine TotU.ite (fun h=>?_) fun _=>tu_noneEN2' q0 q1 q2 q3 q4 m ns ts n c q12 t ht
  have:=of_decide_eq_true h;omega
 |succ k ih=>
  intro v hk
  refine TotU.succ ?_
  simp only[e110vacyLde]
  refine TotU.ite (fun _=>TotU.pure (gchk_ok (by omega)) (TotU.pure (gidx_nat (by omega)) (TotU.ite (fun _=>?_) fun _=>?_))) fun h=>?_
  ·refine TotU.pure (gapp_ok (by simp)) (TotU.pure (gchk_ok (by omega)) (TotU.pure (gidx_nat (by omega)) (TotU.pure (gapp_ok (by simp)) ?_)))
   rw[w64_nat v (by omega)]
   refine tu_selEN2 q0 q1 q2 q3 q4 m ns ts n c q12 t ht hi hb k (v+1) _ _ (by omega) (by simp) (by simp) fun x hx=>?_
   simp only[List.nil_append,List.mem_singleton]at hx
   rw[hx];exact hi.2.2 _ (List.getElem_mem _)
  ·rw[w64_nat v (by omega)]
   exact ih (v+1) (by omega)
  ·have:=of_decide_eq_false h;omega
theorem tu_endEN2(hi:ns.length=ts.length∧n=ts.length∧∀x∈ts,shapedT x=true)(hb:ts.length≤1073741824):TotU (fun L U q=>e110vacy q q0 q1 q2 q3 q4 L U m ns ts n c q12 t) (fun r=>match r with | .inl y=>LOk y.1.binds_ | .inr y=>LOk y.2.1):=by
 simp only[e110vacy]
 exact tu_seloEN2 q0 q1 q2 q3 q4 m ns ts n c q12 t ht hi hb ns.length 0 (by omega)
end
section
variable (q0 q1:List Ent) (q2:List Con') (q3 q4:List Int) (m:List (Int×Int)) (t:CoverTree) (ht:OkL t.binds_∧t.binds_.length≤1048576)
include ht
theorem tu_putEN0:∀(r:List Tm) (v:Nat) (acc:List Tm),t.binds_.drop v=r->acc.length≤v->v≤t.binds_.length->OkL acc ->
  TotU (fun L U q=>e110vacuLcv q q0 q1 q2 q3 q4 L U m t (v:Int) acc) (fun r=>LOk r.1.binds_):=by
 intro r
 induction r with
 |nil=>
  intro v acc hd ha hv ho
  refine TotU.succ ?_
  simp only[e110vacuLcv]
  refine TotU.ite (fun h=>?_) fun _=>TotU.ret ⟨ho,Nat.le_trans ha (Nat.le_trans hv ht.2)⟩
  rw[drop_nil hd]at h;cases h
 |cons x r ih=>
  intro v acc hd ha hv ho
  have hlt:=drop_lt hd
  have hb:=ht.2
  refine TotU.succ ?_
  simp only[e110vacuLcv]
  refine TotU.ite (fun _=>TotU.pure (drop_idx hd) (TotU.tot (tot_Put [] [] x (okL_all ht.1 x (List.mem_of_mem_drop (by rw[hd];simp))) (fun _ h=>nomatch h) (by simp)) fun r40 h40=>TotU.ite (fun _=>TotU.ret ⟨trivial,by simp⟩) fun _=>TotU.pure (gapp_ok (by simp;omega)) ?_)) fun h=>?_
  ·rw[w64_nat v (by omega)]
   exact ih (v+1) _ (drop_next hd) (by simp;omega) hlt (okL_snoc ho h40)
  ·rw[drop_dec hd]at h;cases h
theorem tu_putEN0':TotU (fun L U q=>e110vacuLcw q q0 q1 q2 q3 q4 L U m t 0) (fun r=>LOk r.1.binds_):=by
 simp only[e110vacuLcw]
 refine TotU.ite (fun h=>?_) fun _=>TotU.ret ⟨trivial,by simp⟩
 have hlt:0<t.binds_.length:=by have:=of_decide_eq_true h;omega
 have hd:t.binds_.drop 0=t.binds_[0]::t.binds_.drop 1:=List.drop_eq_getElem_cons hlt
 refine TotU.pure (drop_idx hd) (TotU.tot (tot_Put [] [] _ (okL_all ht.1 _ (List.getElem_mem hlt)) (fun _ h=>nomatch h) (by simp)) fun r40 h40=>TotU.ite (fun _=>TotU.ret ⟨trivial,by simp⟩) fun _=>TotU.pure (gapp_ok (by simp)) ?_)
 exact tu_putEN0 q0 q1 q2 q3 q4 m t ht _ 1 _ rfl (by simp) hlt (okL_snoc (l:=[]) trivial h40)
theorem tu_endEN0:TotU (fun L U q=>e110vacu q q0 q1 q2 q3 q4 L U m t) (fun r=>LOk r.1.binds_):=by
 simp only[e110vacu,e110vacuLcx]
 exact TotU.ite (fun h=>nomatch h) fun _=>tu_putEN0' q0 q1 q2 q3 q4 m t ht
end
def e165(qq:Nat)(M:Mach)(p1:Tm):Option (Int×List Tm×Bool):=
 e89 qq p1>>=fun r1=>
 if r1 then
 e123 qq p1>>=fun r4=>
 e230 qq M r4>>=fun r6=>
 some (r6.1,r6.2.1,r6.2.2)
 else
 some (0,[],false)
abbrev K165 (M:Mach) (p1:Tm) (r:Int×List Tm×Bool) (C:Cf):Prop:=C 165 [mB M 1,mR M] [.mp 0 0,tmA p1] (.tup [ai r.1,.sl (flat tmCells r.2.1) (List.length r.2.1) .no,ab r.2.2]) [mB M 1,mR M] 0
theorem q165:Qf 165 Tryz.f165:=⟨Tryz.func165,by kernel_rfl⟩
theorem k165{M p1 r}(h:K165 M p1 r Ci):K165 M p1 r Ct:=⟨h,⟨(lz rfl),⟨tv,tv,⟨tv,dT _⟩,tv⟩,tv⟩,(forall_cons ⟨⟨tv,dE _⟩,(lz rfl),⟨tv,dI _⟩,⟨tv,dI _⟩,tv⟩ (forall_cons ⟨⟨tv,dE _⟩,⟨tv,dC _⟩,tv⟩ forall_nil)),⟨tv,dT _,tv,tv⟩,(forall_cons ⟨dE _,(lz rfl),dI _,dI _,tv⟩ (forall_cons ⟨dE _,dC _,tv⟩ forall_nil))⟩
theorem c165{qq M p1 r}(h:e165 qq M p1=some r):K165 M p1 r Ct:=by
 unfold e165 at h
 obtain⟨r1,h2,h⟩:=obind h
 rcases spl h with⟨h3,h⟩|⟨h3,h⟩
 obtain⟨r4,h5,h⟩:=obind h
 obtain⟨r6,h7,h⟩:=obind h
 obtain rfl:=sj h
 exact k165 (tF q165 3 [0,1] (oD (dT r6.2.1)<|oD (dC M.parts)<|oD (dE M.rl)<|oD (dI M.own)<|oD (dI M.args)<|oD (dE M.l)<|oC 0 [0,1] (c230 h7)<|oC 2 [] (c123 h5)<|oK 2 [] h3 (c89 h2) o0))
 obtain rfl:=sj h
 exact k165 (tF q165 1 [0,1] (oD (dT ([]:List Tm))<|oD (dC M.parts)<|oD (dE M.rl)<|oD (dI M.own)<|oD (dI M.args)<|oD (dE M.l)<|oK 2 [] h3 (c89 h2) o0))
def e166(qq:Nat)(M:Mach)(p1:Int):Option (Int):=
 if decide (p1<0)then
 some 0
 else
 if decide (p1≥(List.length M.l:Int))then
 some 0
 else
 gidx M.l p1>>=fun x3=>
 some x3.pars
abbrev K166 (M:Mach) (p1 r:Int) (C:Cf):Prop:=C 166 [mB M 1,mR M] [.mp 0 0,ai p1] (ai r) [mB M 1,mR M] 0
theorem q166:Qf 166 Tryz.f166:=⟨Tryz.func166,by kernel_rfl⟩
theorem k166{M p1 r}(h:K166 M p1 r Ci):K166 M p1 r Ct:=⟨h,⟨(lz rfl),tv,tv⟩,(forall_cons ⟨⟨tv,dE _⟩,(lz rfl),⟨tv,dI _⟩,⟨tv,dI _⟩,tv⟩ (forall_cons ⟨⟨tv,dE _⟩,⟨tv,dC _⟩,tv⟩ forall_nil)),tv,(forall_cons ⟨dE _,(lz rfl),dI _,dI _,tv⟩ (forall_cons ⟨dE _,dC _,tv⟩ forall_nil))⟩
theorem c166{qq M p1 r}(h:e166 qq M p1=some r):K166 M p1 r Ct:=by
 unfold e166 at h
 rcases spl h with⟨h1,h⟩|⟨h1,h⟩
 obtain rfl:=sj h
 exact k166 (tF q166 0 [0,1] (oD (dC M.parts)<|oD (dE M.rl)<|oD (dI M.own)<|oD (dI M.args)<|oD (dE M.l)<|oB 1 h1 o0))
 have k:=oB 1 h1 o0
 rcases spl h with⟨h2,h⟩|⟨h2,h⟩
 obtain rfl:=sj h
 exact k166 (tF q166 0 [0,1] (oD (dC M.parts)<|oD (dE M.rl)<|oD (dI M.own)<|oD (dI M.args)<|oD (dE M.l)<|oB 2 h2 k))
 obtain⟨x3,h4,h⟩:=obind h
 obtain rfl:=sj h
 exact k166 (tF q166 1 [0,1] (oD (dC M.parts)<|oD (dE M.rl)<|oD (dI M.own)<|oD (dI M.args)<|oD (dE M.l)<|oA 1 (ix22 (o:=.no) h4)<|oB 2 h2 k))
def e111vacnLdf:Nat->(List Ent)->(List Ent)->(List Con')->(List Int)->(List Int)->(List (Int×Int))->(List Int)->(List Tm)->Nat->Nat->CoverTree->(Tm×Int×Int×Int)->(Int×List Tm×Bool)->(List Tm)->Int->Option ((CoverTree×Bool×Int×List Int×List Tm×Nat×Nat×Int×Int×(List (Int×Int))) ⊕ (CoverTree×Bool×Int×List Int×List Tm×Nat×Nat×List Int×Int×Int×(List (Int×Int))))
 |0,_,_,_,_,_,_,_,_,_,_,_,_,_,_,_=>none
 |qq+1,q0,q1,q2,q3,q4,q7,q8,q9,q10,q11,p1,r6,r9,x14,v76=>
 if decide (v76<(List.length p1.kids_:Int))then
 gidx p1.kids_ v76>>=fun x17=>
 if x17.yes_ then
 if x17.con_==r9.1 then
 if (List.length x17.args_:Int)==(List.length x14:Int)then
 e109vacg qq q0 q1 q2 q3 q4 r6.2.2.1 r6.2.2.2 q7 q8 q9 q10 q11 x17.args_ x14>>=fun r22=>
 gapp 8 ([]:List Int) [r9.1]>>=fun l24=>
 some (Sum.inr ((CoverTree.mk x17.t_.kind_ x17.t_.row_ x17.t_.var_ x17.t_.vars_ x17.t_.binds_ x17.t_.args_ x17.t_.kids_),true,0,r22.1,r22.2.1,r22.2.2.1,r22.2.2.2.1,l24,r6.2.2.1,r6.2.2.2,r22.2.2.2.2))
 else
 e111vacnLdf qq q0 q1 q2 q3 q4 q7 q8 q9 q10 q11 p1 r6 r9 x14 (w64 (v76+1))
 else
 e111vacnLdf qq q0 q1 q2 q3 q4 q7 q8 q9 q10 q11 p1 r6 r9 x14 (w64 (v76+1))
 else
 e111vacnLdf qq q0 q1 q2 q3 q4 q7 q8 q9 q10 q11 p1 r6 r9 x14 (w64 (v76+1))
 else
 some (Sum.inl ((CoverTree.mk p1.kind_ p1.row_ p1.var_ p1.vars_ p1.binds_ p1.args_ p1.kids_),false,0,q8,q9,q10,q11,r6.2.2.1,r6.2.2.2,q7))
def e111vacn(qq:Nat)(q0 q1:List Ent)(q2:List Con')(q3 q4:List Int)(q5 q6:Int)(q7:List (Int×Int))(q8:List Int)(q9:List Tm)(q10 q11:Nat)(p1:CoverTree):Option ((CoverTree×Bool×Int×List Int×List Tm×Nat×Nat×Int×Int×(List (Int×Int))) ⊕ (CoverTree×Bool×Int×List Int×List Tm×Nat×Nat×List Int×Int×Int×(List (Int×Int)))):=
 if ihas q7 p1.var_ then
 gchk q10 (iget q7 p1.var_)>>=fun x2=>
 gidx q9 (x2:Int)>>=fun x4=>
 e69 qq (Mach.mk q0 q1 q2 q3 q4) x4 q5 q6>>=fun r6=>
 if r6.2.1 != 0 then
 some (Sum.inl ((CoverTree.mk p1.kind_ p1.row_ p1.var_ p1.vars_ p1.binds_ p1.args_ p1.kids_),false,r6.2.1,q8,q9,q10,q11,r6.2.2.1,r6.2.2.2,q7))
 else
 e165 qq (Mach.mk q0 q1 q2 q3 q4) r6.1>>=fun r9=>
 if r9.2.2 then
 e166 qq (Mach.mk q0 q1 q2 q3 q4) r9.1>>=fun r12=>
 gsl r9.2.1 r12 (List.length r9.2.1:Int)>>=fun x14=>
 e111vacnLdf qq q0 q1 q2 q3 q4 q7 q8 q9 q10 q11 p1 r6 r9 x14 0
 else
 some (Sum.inl ((CoverTree.mk p1.kind_ p1.row_ p1.var_ p1.vars_ p1.binds_ p1.args_ p1.kids_),false,0,q8,q9,q10,q11,r6.2.2.1,r6.2.2.2,q7))
 else
 some (Sum.inl ((CoverTree.mk p1.kind_ p1.row_ p1.var_ p1.vars_ p1.binds_ p1.args_ p1.kids_),false,0,q8,q9,q10,q11,q5,q6,q7))
def g111vacnLdfE0(j:Nat->Value)(q0 q1:List Ent)(q2:List Con')(q3 q4:List Int)(q7:List (Int×Int))(q8:List Int)(q9:List Tm)(q10 q11:Nat)(p1:CoverTree)(r6:Tm×Int×Int×Int)(r9:Int×List Tm×Bool)(x14:List Tm)(v76:Int):=sp j 115 0 [(0,.mp 0 0),(3,.mp 7 0),(4,.mp 8 0),(11,ai r9.1),(13,slv tmCells x14 .no),(74,slv coverKidC p1.kids_ .no),(75,ai (List.length p1.kids_:Int)),(76,ai v76)]
def g111vacnLdfS0(q0 q1:List Ent)(q2:List Con')(q3 q4:List Int)(q7:List (Int×Int))(q8:List Int)(q9:List Tm)(q10 q11:Nat)(p1:CoverTree)(r6:Tm×Int×Int×Int)(r9:Int×List Tm×Bool)(x14:List Tm)(v76:Int):LSt:=⟨[(0,.cells [.mp 1 0,.mp 3 0,.obj 4,.ms 9 0 (List.length q8) (List.length q8) 1,.ms 10 0 q10 q11 3,slv intC ([]:List Int) .nl]),(1,.cells [slv entL q0 .no,.mp 2 0,slv intC q3 .no,slv intC q4 .no]),(2,.cells [slv entL q1 .no,slv conL q2 .no]),(3,.cells [ai r6.2.2.1,ai r6.2.2.2]),(4,imap q7),(5,.dead),(6,.dead),(7,.cells [ai p1.kind_,ai p1.row_,ai p1.var_,slv freeVarL p1.vars_ .no,slv tmCells p1.binds_ .no,slv tmCells p1.args_ .no,slv coverKidC p1.kids_ .no]),(8,.cells [ai 0,ai 0,ai 0,slv freeVarL ([]:List FreeVar) .nl,slv tmCells ([]:List Tm) .nl,slv tmCells ([]:List Tm) .nl,slv coverKidC ([]:List CoverKid) .nl]),(9,.row (flat intC q8)),(10,.row (flat tmCells q9))],11,[],0,[]⟩
abbrev K111vacns0 (q0 q1:List Ent) (q2:List Con') (q3 q4:List Int) (q5 q6:Int) (q7:List (Int×Int)) (q8:List Int) (q9:List Tm) (q10 q11:Nat) (p1:CoverTree) (r:CoverTree×Bool×Int×List Int×List Tm×Nat×Nat×Int×Int×(List (Int×Int))) (C:Cf):Prop:=C 111 [.cells [.mp 1 0,.mp 3 0,.obj 4,.ms 5 0 (List.length q8) (List.length q8) 1,.ms 6 0 q10 q11 3,slv intC ([]:List Int) .nl],.cells [slv entL q0 .no,.mp 2 0,slv intC q3 .no,slv intC q4 .no],.cells [slv entL q1 .no,slv conL q2 .no],.cells [ai q5,ai q6],imap q7,.row (flat intC q8),.row (flat tmCells q9)] [.mp 0 0,coverTreeA p1] (.tup [coverTreeA (CoverTree.mk r.1.kind_ r.1.row_ r.1.var_ r.1.vars_ r.1.binds_ r.1.args_ r.1.kids_),ab r.2.1,ai r.2.2.1]) [.cells [.mp 1 0,.mp 3 0,.obj 4,.ms 7 0 (List.length r.2.2.2.1) (List.length r.2.2.2.1) 1,.ms 8 0 r.2.2.2.2.2.1 r.2.2.2.2.2.2.1 3,slv intC ([]:List Int) .nl],.cells [slv entL q0 .no,.mp 2 0,slv intC q3 .no,slv intC q4 .no],.cells [slv entL q1 .no,slv conL q2 .no],.cells [ai r.2.2.2.2.2.2.2.1,ai r.2.2.2.2.2.2.2.2.1],imap r.2.2.2.2.2.2.2.2.2,.dead,.dead,.row (flat intC r.2.2.2.1),.row (flat tmCells r.2.2.2.2.1)] 0
abbrev K111vacns1 (q0 q1:List Ent) (q2:List Con') (q3 q4:List Int) (q5 q6:Int) (q7:List (Int×Int)) (q8:List Int) (q9:List Tm) (q10 q11:Nat) (p1:CoverTree) (r:CoverTree×Bool×Int×List Int×List Tm×Nat×Nat×List Int×Int×Int×(List (Int×Int))) (C:Cf):Prop:=C 111 [.cells [.mp 1 0,.mp 3 0,.obj 4,.ms 5 0 (List.length q8) (List.length q8) 1,.ms 6 0 q10 q11 3,slv intC ([]:List Int) .nl],.cells [slv entL q0 .no,.mp 2 0,slv intC q3 .no,slv intC q4 .no],.cells [slv entL q1 .no,slv conL q2 .no],.cells [ai q5,ai q6],imap q7,.row (flat intC q8),.row (flat tmCells q9)] [.mp 0 0,coverTreeA p1] (.tup [coverTreeA (CoverTree.mk r.1.kind_ r.1.row_ r.1.var_ r.1.vars_ r.1.binds_ r.1.args_ r.1.kids_),ab r.2.1,ai r.2.2.1]) [.cells [.mp 1 0,.mp 3 0,.obj 4,.ms 7 0 (List.length r.2.2.2.1) (List.length r.2.2.2.1) 1,.ms 8 0 r.2.2.2.2.2.1 r.2.2.2.2.2.2.1 3,.ms 9 0 (List.length r.2.2.2.2.2.2.2.1) (List.length r.2.2.2.2.2.2.2.1) 1],.cells [slv entL q0 .no,.mp 2 0,slv intC q3 .no,slv intC q4 .no],.cells [slv entL q1 .no,slv conL q2 .no],.cells [ai r.2.2.2.2.2.2.2.2.1,ai r.2.2.2.2.2.2.2.2.2.1],imap r.2.2.2.2.2.2.2.2.2.2,.dead,.dead,.row (flat intC r.2.2.2.1),.row (flat tmCells r.2.2.2.2.1),.row (flat intC r.2.2.2.2.2.2.2.1)] 0
theorem q111vacn:Qf 111 Tryz.f111:=⟨Tryz.func111,by kernel_rfl⟩
theorem k111vacns0{q0 q1 q2 q3 q4 q5 q6 q7 q8 q9 q10 q11 p1 r}(h:K111vacns0 q0 q1 q2 q3 q4 q5 q6 q7 q8 q9 q10 q11 p1 r Ci):K111vacns0 q0 q1 q2 q3 q4 q5 q6 q7 q8 q9 q10 q11 p1 r Ct:=⟨h,⟨(lz rfl),⟨tv,tv,tv,⟨tv,dFreeVar _⟩,⟨tv,dT _⟩,⟨tv,dT _⟩,⟨tv,dCoverKid _⟩,tv⟩,tv⟩,(forall_cons ⟨(lz rfl),(lz rfl),(lz rfl),(lz rfl),(lz rfl),⟨tv,dI _⟩,tv⟩ (forall_cons ⟨⟨tv,dE _⟩,(lz rfl),⟨tv,dI _⟩,⟨tv,dI _⟩,tv⟩ (forall_cons ⟨⟨tv,dE _⟩,⟨tv,dC _⟩,tv⟩ (forall_cons ⟨tv,tv,tv⟩ (forall_cons tv (forall_cons (dI _) (forall_cons (dT _) forall_nil))))))),⟨⟨tv,tv,tv,dFreeVar _,dT _,dT _,dCoverKid _,tv⟩,tv,tv,tv⟩,(forall_cons ⟨(lz rfl),(lz rfl),(lz rfl),(lz rfl),(lz rfl),dI _,tv⟩ (forall_cons ⟨dE _,(lz rfl),dI _,dI _,tv⟩ (forall_cons ⟨dE _,dC _,tv⟩ (forall_cons ⟨tv,tv,tv⟩ (forall_cons tv (forall_cons tv (forall_cons tv (forall_cons (dI _) (forall_cons (dT _) forall_nil)))))))))⟩
theorem k111vacns1{q0 q1 q2 q3 q4 q5 q6 q7 q8 q9 q10 q11 p1 r}(h:K111vacns1 q0 q1 q2 q3 q4 q5 q6 q7 q8 q9 q10 q11 p1 r Ci):K111vacns1 q0 q1 q2 q3 q4 q5 q6 q7 q8 q9 q10 q11 p1 r Ct:=⟨h,⟨(lz rfl),⟨tv,tv,tv,⟨tv,dFreeVar _⟩,⟨tv,dT _⟩,⟨tv,dT _⟩,⟨tv,dCoverKid _⟩,tv⟩,tv⟩,(forall_cons ⟨(lz rfl),(lz rfl),(lz rfl),(lz rfl),(lz rfl),⟨tv,dI _⟩,tv⟩ (forall_cons ⟨⟨tv,dE _⟩,(lz rfl),⟨tv,dI _⟩,⟨tv,dI _⟩,tv⟩ (forall_cons ⟨⟨tv,dE _⟩,⟨tv,dC _⟩,tv⟩ (forall_cons ⟨tv,tv,tv⟩ (forall_cons tv (forall_cons (dI _) (forall_cons (dT _) forall_nil))))))),⟨⟨tv,tv,tv,dFreeVar _,dT _,dT _,dCoverKid _,tv⟩,tv,tv,tv⟩,(forall_cons ⟨(lz rfl),(lz rfl),(lz rfl),(lz rfl),(lz rfl),(lz rfl),tv⟩ (forall_cons ⟨dE _,(lz rfl),dI _,dI _,tv⟩ (forall_cons ⟨dE _,dC _,tv⟩ (forall_cons ⟨tv,tv,tv⟩ (forall_cons tv (forall_cons tv (forall_cons tv (forall_cons (dI _) (forall_cons (dT _) (forall_cons (dI _) forall_nil))))))))))⟩
theorem l111vacnLdf:∀qq:Nat,(∀q0 q1 q2 q3 q4 q7 q8 q9 q10 q11 p1 r6 r9 x14 v76 r,e111vacnLdf qq q0 q1 q2 q3 q4 q7 q8 q9 q10 q11 p1 r6 r9 x14 v76=some r->(∀j,Dl Tryz.prog 7 (inn (inn (rgt (lft (rgt (rgt (rgt (rgt (rgt (rgt (rgt (rgt (bod Tryz.f111))))))))))))) (g111vacnLdfE0 j q0 q1 q2 q3 q4 q7 q8 q9 q10 q11 p1 r6 r9 x14 v76) (g111vacnLdfS0 q0 q1 q2 q3 q4 q7 q8 q9 q10 q11 p1 r6 r9 x14 v76) (frameQ Tryz.prog 7 ((match (generalizing:=false) r with|Sum.inl x=>FinQ Tryz.prog 7 Tryz.f111 (.tup [coverTreeA (CoverTree.mk x.1.kind_ x.1.row_ x.1.var_ x.1.vars_ x.1.binds_ x.1.args_ x.1.kids_),ab x.2.1,ai x.2.2.1]) [.cells [.mp 1 0,.mp 3 0,.obj 4,.ms 7 0 (List.length x.2.2.2.1) (List.length x.2.2.2.1) 1,.ms 8 0 x.2.2.2.2.2.1 x.2.2.2.2.2.2.1 3,slv intC ([]:List Int) .nl],.cells [slv entL q0 .no,.mp 2 0,slv intC q3 .no,slv intC q4 .no],.cells [slv entL q1 .no,slv conL q2 .no],.cells [ai x.2.2.2.2.2.2.2.1,ai x.2.2.2.2.2.2.2.2.1],imap x.2.2.2.2.2.2.2.2.2,.dead,.dead,.row (flat intC x.2.2.2.1),.row (flat tmCells x.2.2.2.2.1)] 0|Sum.inr x=>FinQ Tryz.prog 7 Tryz.f111 (.tup [coverTreeA (CoverTree.mk x.1.kind_ x.1.row_ x.1.var_ x.1.vars_ x.1.binds_ x.1.args_ x.1.kids_),ab x.2.1,ai x.2.2.1]) [.cells [.mp 1 0,.mp 3 0,.obj 4,.ms 7 0 (List.length x.2.2.2.1) (List.length x.2.2.2.1) 1,.ms 8 0 x.2.2.2.2.2.1 x.2.2.2.2.2.2.1 3,.ms 9 0 (List.length x.2.2.2.2.2.2.2.1) (List.length x.2.2.2.2.2.2.2.1) 1],.cells [slv entL q0 .no,.mp 2 0,slv intC q3 .no,slv intC q4 .no],.cells [slv entL q1 .no,slv conL q2 .no],.cells [ai x.2.2.2.2.2.2.2.2.1,ai x.2.2.2.2.2.2.2.2.2.1],imap x.2.2.2.2.2.2.2.2.2.2,.dead,.dead,.row (flat intC x.2.2.2.1),.row (flat tmCells x.2.2.2.2.1),.row (flat intC x.2.2.2.2.2.2.2.1)] 0)) [.blk 0,.seq (rgt (rgt (rgt (rgt (rgt (rgt (rgt (rgt (rgt (bod Tryz.f111))))))))))]))):=by
 intro qq
 induction qq with
 |zero=>
  exact fun _ _ _ _ _ _ _ _ _ _ _ _ _ _ _ _ h=>nn h
 |succ qq ih=>
  intro q0 q1 q2 q3 q4 q7 q8 q9 q10 q11 p1 r6 r9 x14 v76 r h
  rw[e111vacnLdf]at h
  rcases spl h with⟨h16,h⟩|⟨h16,h⟩
  obtain⟨x17,h18,h⟩:=obind h
  have k:=oA 0 (ix69 (o:=.no) h18)<|oB 0 h16 o0
  rcases spl h with⟨h19,h⟩|⟨h19,h⟩
  have k:=oB 2 h19 k
  rcases spl h with⟨h20,h⟩|⟨h20,h⟩
  have k:=oB 1 h20 k
  rcases spl h with⟨h21,h⟩|⟨h21,h⟩
  obtain⟨r22,h23,h⟩:=obind h
  obtain⟨l24,h25,h⟩:=obind h
  obtain rfl:=sj h
  exact fun j=>lF 3 [0,1,2,3,4,5,6,12,13,14] (oD (dCoverKid x17.t_.kids_)<|oD (dT x17.t_.args_)<|oD (dT x17.t_.binds_)<|oD (dFreeVar x17.t_.vars_)<|oD (dI l24)<|oD (dT r22.2.1)<|oD (dI r22.1)<|oD (dC q2)<|oD (dE q1)<|oD (dI q4)<|oD (dI q3)<|oD (dE q0)<|oM 2 (apW41 h25 (by simp))<|oC 1 [0,1,2,3,4,9,10] (c109vacg h23)<|oB 3 h21 k)
  exact fun j=>lH 1 [] [0,1,2,3,4,5,6,7,8,9,10] [] [0,3,4,11,13,74,75,76] (oD (dCoverKid p1.kids_)<|oD (dT x14)<|oD (dT q9)<|oD (dI q8)<|oD (dCoverKid ([]:List CoverKid))<|oD (dT ([]:List Tm))<|oD (dT ([]:List Tm))<|oD (dFreeVar ([]:List FreeVar))<|oD (dCoverKid p1.kids_)<|oD (dT p1.args_)<|oD (dT p1.binds_)<|oD (dFreeVar p1.vars_)<|oD (dC q2)<|oD (dE q1)<|oD (dI q4)<|oD (dI q3)<|oD (dE q0)<|oD (dI ([]:List Int))<|oB 3 h21 k) (ih _ _ _ _ _ _ _ _ _ _ _ _ _ _ _ _ h)
  exact fun j=>lH 1 [] [0,1,2,3,4,5,6,7,8,9,10] [] [0,3,4,11,13,74,75,76] (oD (dCoverKid p1.kids_)<|oD (dT x14)<|oD (dT q9)<|oD (dI q8)<|oD (dCoverKid ([]:List CoverKid))<|oD (dT ([]:List Tm))<|oD (dT ([]:List Tm))<|oD (dFreeVar ([]:List FreeVar))<|oD (dCoverKid p1.kids_)<|oD (dT p1.args_)<|oD (dT p1.binds_)<|oD (dFreeVar p1.vars_)<|oD (dC q2)<|oD (dE q1)<|oD (dI q4)<|oD (dI q3)<|oD (dE q0)<|oD (dI ([]:List Int))<|oB 1 h20 k) (ih _ _ _ _ _ _ _ _ _ _ _ _ _ _ _ _ h)
  exact fun j=>lH 1 [] [0,1,2,3,4,5,6,7,8,9,10] [] [0,3,4,11,13,74,75,76] (oD (dCoverKid p1.kids_)<|oD (dT x14)<|oD (dT q9)<|oD (dI q8)<|oD (dCoverKid ([]:List CoverKid))<|oD (dT ([]:List Tm))<|oD (dT ([]:List Tm))<|oD (dFreeVar ([]:List FreeVar))<|oD (dCoverKid p1.kids_)<|oD (dT p1.args_)<|oD (dT p1.binds_)<|oD (dFreeVar p1.vars_)<|oD (dC q2)<|oD (dE q1)<|oD (dI q4)<|oD (dI q3)<|oD (dE q0)<|oD (dI ([]:List Int))<|oB 2 h19 k) (ih _ _ _ _ _ _ _ _ _ _ _ _ _ _ _ _ h)
  obtain rfl:=sj h
  exact fun j=>lG 2 [] [0,1,2,3,4,5,6,9,10] [] true (oD (dCoverKid p1.kids_)<|oD (dT p1.args_)<|oD (dT p1.binds_)<|oD (dFreeVar p1.vars_)<|oD (dT q9)<|oD (dI q8)<|oD (dC q2)<|oD (dE q1)<|oD (dI q4)<|oD (dI q3)<|oD (dE q0)<|oD (dI ([]:List Int))<|oB 0 h16 o0)
theorem c111vacn{qq q0 q1 q2 q3 q4 q5 q6 q7 q8 q9 q10 q11 p1 r}(h:e111vacn qq q0 q1 q2 q3 q4 q5 q6 q7 q8 q9 q10 q11 p1=some r):(match (generalizing:=false) r with|Sum.inl x=>K111vacns0 q0 q1 q2 q3 q4 q5 q6 q7 q8 q9 q10 q11 p1 x Ct|Sum.inr x=>K111vacns1 q0 q1 q2 q3 q4 q5 q6 q7 q8 q9 q10 q11 p1 x Ct):=by
 unfold e111vacn at h
 have k:=oL 2 (lkJ181 q7 p1.var_) o0
 rcases spl h with⟨h1,h⟩|⟨h1,h⟩
 obtain⟨x2,h3,h⟩:=obind h
 obtain⟨x4,h5,h⟩:=obind h
 obtain⟨r6,h7,h⟩:=obind h
 have k:=oC 1 [1,2,3] (c69 h7)<|oG (a:=(.agg [ai x4.k,ai x4.n,slv tmCells x4.sub .no])) 0 (ldE codecT h5 (true,3) (val:=.agg [ai x4.k,ai x4.n,slv tmCells x4.sub .no]) (by rw[tm_eq];rfl))<|oA 3 (ixM23 (b:=6) (c:=q11) (z:=3) h3)<|oB 1 h1 k
 rcases spl h with⟨h8,h⟩|⟨h8,h⟩
 obtain rfl:=sj h
 exact k111vacns0 (tG q111vacn 2 [(some 5,0,0),(some 6,0,0)] [0,1,2,3,4,5,6,10,11] [] true (oD (dCoverKid p1.kids_)<|oD (dT p1.args_)<|oD (dT p1.binds_)<|oD (dFreeVar p1.vars_)<|oD (dT q9)<|oD (dI q8)<|oD (dC q2)<|oD (dE q1)<|oD (dI q4)<|oD (dI q3)<|oD (dE q0)<|oD (dI ([]:List Int))<|oB 3 h8 k))
 obtain⟨r9,h10,h⟩:=obind h
 have k:=oC 2 [1,2] (c165 h10)<|oB 3 h8 k
 rcases spl h with⟨h11,h⟩|⟨h11,h⟩
 obtain⟨r12,h13,h⟩:=obind h
 obtain⟨x14,h15,h⟩:=obind h
 rcases r with y0|y1
 exact k111vacns0 (tH q111vacn 2 [(some 5,0,0),(some 6,0,0)] [0,1,2,3,4,5,6,7,8,10,11] [] [0,3,4,11,13,74,75,76] (oD (dCoverKid p1.kids_)<|oD (dT x14)<|oD (dT q9)<|oD (dI q8)<|oD (dCoverKid ([]:List CoverKid))<|oD (dT ([]:List Tm))<|oD (dT ([]:List Tm))<|oD (dFreeVar ([]:List FreeVar))<|oD (dCoverKid p1.kids_)<|oD (dT p1.args_)<|oD (dT p1.binds_)<|oD (dFreeVar p1.vars_)<|oD (dC q2)<|oD (dE q1)<|oD (dI q4)<|oD (dI q3)<|oD (dE q0)<|oD (dI ([]:List Int))<|oA 0 (slFrom23 h15)<|oC 2 [1,2] (c166 h13)<|oB 2 h11 k) (l111vacnLdf _ _ _ _ _ _ _ _ _ _ _ _ _ _ _ _ _ h))
 exact k111vacns1 (tH q111vacn 2 [(some 5,0,0),(some 6,0,0)] [0,1,2,3,4,5,6,7,8,10,11] [] [0,3,4,11,13,74,75,76] (oD (dCoverKid p1.kids_)<|oD (dT x14)<|oD (dT q9)<|oD (dI q8)<|oD (dCoverKid ([]:List CoverKid))<|oD (dT ([]:List Tm))<|oD (dT ([]:List Tm))<|oD (dFreeVar ([]:List FreeVar))<|oD (dCoverKid p1.kids_)<|oD (dT p1.args_)<|oD (dT p1.binds_)<|oD (dFreeVar p1.vars_)<|oD (dC q2)<|oD (dE q1)<|oD (dI q4)<|oD (dI q3)<|oD (dE q0)<|oD (dI ([]:List Int))<|oA 0 (slFrom23 h15)<|oC 2 [1,2] (c166 h13)<|oB 2 h11 k) (l111vacnLdf _ _ _ _ _ _ _ _ _ _ _ _ _ _ _ _ _ h))
 obtain rfl:=sj h
 exact k111vacns0 (tG q111vacn 3 [(some 5,0,0),(some 6,0,0)] [0,1,2,3,4,5,6,10,11] [] true (oD (dCoverKid p1.kids_)<|oD (dT p1.args_)<|oD (dT p1.binds_)<|oD (dFreeVar p1.vars_)<|oD (dT q9)<|oD (dI q8)<|oD (dC q2)<|oD (dE q1)<|oD (dI q4)<|oD (dI q3)<|oD (dE q0)<|oD (dI ([]:List Int))<|oB 2 h11 k))
 obtain rfl:=sj h
 exact k111vacns0 (tG q111vacn 3 [(some 5,0,0),(some 6,0,0)] [0,1,2,3,4,5,6,9,10] [] true (oD (dCoverKid p1.kids_)<|oD (dT p1.args_)<|oD (dT p1.binds_)<|oD (dFreeVar p1.vars_)<|oD (dT q9)<|oD (dI q8)<|oD (dC q2)<|oD (dE q1)<|oD (dI q4)<|oD (dI q3)<|oD (dE q0)<|oD (dI ([]:List Int))<|oB 1 h1 k))
def e111vacyLdg:Nat->(List Ent)->(List Ent)->(List Con')->(List Int)->(List Int)->(List (Int×Int))->(List Int)->(List Tm)->Nat->Nat->(List Int)->CoverTree->(Tm×Int×Int×Int)->(Int×List Tm×Bool)->(List Tm)->Int->Option (CoverTree×Bool×Int×List Int×List Tm×Nat×Nat×List Int×Int×Int×(List (Int×Int)))
 |0,_,_,_,_,_,_,_,_,_,_,_,_,_,_,_,_=>none
 |qq+1,q0,q1,q2,q3,q4,q7,q8,q9,q10,q11,q12,p1,r6,r9,x14,v76=>
 if decide (v76<(List.length p1.kids_:Int))then
 gidx p1.kids_ v76>>=fun x17=>
 if x17.yes_ then
 if x17.con_==r9.1 then
 if (List.length x17.args_:Int)==(List.length x14:Int)then
 e109vacl qq q0 q1 q2 q3 q4 r6.2.2.1 r6.2.2.2 q7 q8 q9 q10 q11 q12 x17.args_ x14>>=fun r22=>
 gapp 8 q12 [r9.1]>>=fun l24=>
 some ((CoverTree.mk x17.t_.kind_ x17.t_.row_ x17.t_.var_ x17.t_.vars_ x17.t_.binds_ x17.t_.args_ x17.t_.kids_),true,0,r22.1,r22.2.1,r22.2.2.1,r22.2.2.2.1,l24,r6.2.2.1,r6.2.2.2,r22.2.2.2.2)
 else
 e111vacyLdg qq q0 q1 q2 q3 q4 q7 q8 q9 q10 q11 q12 p1 r6 r9 x14 (w64 (v76+1))
 else
 e111vacyLdg qq q0 q1 q2 q3 q4 q7 q8 q9 q10 q11 q12 p1 r6 r9 x14 (w64 (v76+1))
 else
 e111vacyLdg qq q0 q1 q2 q3 q4 q7 q8 q9 q10 q11 q12 p1 r6 r9 x14 (w64 (v76+1))
 else
 some ((CoverTree.mk p1.kind_ p1.row_ p1.var_ p1.vars_ p1.binds_ p1.args_ p1.kids_),false,0,q8,q9,q10,q11,q12,r6.2.2.1,r6.2.2.2,q7)
def e111vacy(qq:Nat)(q0 q1:List Ent)(q2:List Con')(q3 q4:List Int)(q5 q6:Int)(q7:List (Int×Int))(q8:List Int)(q9:List Tm)(q10 q11:Nat)(q12:List Int)(p1:CoverTree):Option (CoverTree×Bool×Int×List Int×List Tm×Nat×Nat×List Int×Int×Int×(List (Int×Int))):=
 if ihas q7 p1.var_ then
 gchk q10 (iget q7 p1.var_)>>=fun x2=>
 gidx q9 (x2:Int)>>=fun x4=>
 e69 qq (Mach.mk q0 q1 q2 q3 q4) x4 q5 q6>>=fun r6=>
 if r6.2.1 != 0 then
 some ((CoverTree.mk p1.kind_ p1.row_ p1.var_ p1.vars_ p1.binds_ p1.args_ p1.kids_),false,r6.2.1,q8,q9,q10,q11,q12,r6.2.2.1,r6.2.2.2,q7)
 else
 e165 qq (Mach.mk q0 q1 q2 q3 q4) r6.1>>=fun r9=>
 if r9.2.2 then
 e166 qq (Mach.mk q0 q1 q2 q3 q4) r9.1>>=fun r12=>
 gsl r9.2.1 r12 (List.length r9.2.1:Int)>>=fun x14=>
 e111vacyLdg qq q0 q1 q2 q3 q4 q7 q8 q9 q10 q11 q12 p1 r6 r9 x14 0
 else
 some ((CoverTree.mk p1.kind_ p1.row_ p1.var_ p1.vars_ p1.binds_ p1.args_ p1.kids_),false,0,q8,q9,q10,q11,q12,r6.2.2.1,r6.2.2.2,q7)
 else
 some ((CoverTree.mk p1.kind_ p1.row_ p1.var_ p1.vars_ p1.binds_ p1.args_ p1.kids_),false,0,q8,q9,q10,q11,q12,q5,q6,q7)
def g111vacyLdgE0(j:Nat->Value)(q0 q1:List Ent)(q2:List Con')(q3 q4:List Int)(q7:List (Int×Int))(q8:List Int)(q9:List Tm)(q10 q11:Nat)(q12:List Int)(p1:CoverTree)(r6:Tm×Int×Int×Int)(r9:Int×List Tm×Bool)(x14:List Tm)(v76:Int):=sp j 115 0 [(0,.mp 0 0),(3,.mp 8 0),(4,.mp 9 0),(11,ai r9.1),(13,slv tmCells x14 .no),(74,slv coverKidC p1.kids_ .no),(75,ai (List.length p1.kids_:Int)),(76,ai v76)]
def g111vacyLdgS0(q0 q1:List Ent)(q2:List Con')(q3 q4:List Int)(q7:List (Int×Int))(q8:List Int)(q9:List Tm)(q10 q11:Nat)(q12:List Int)(p1:CoverTree)(r6:Tm×Int×Int×Int)(r9:Int×List Tm×Bool)(x14:List Tm)(v76:Int):LSt:=⟨[(0,.cells [.mp 1 0,.mp 3 0,.obj 4,.ms 10 0 (List.length q8) (List.length q8) 1,.ms 11 0 q10 q11 3,.ms 12 0 (List.length q12) (List.length q12) 1]),(1,.cells [slv entL q0 .no,.mp 2 0,slv intC q3 .no,slv intC q4 .no]),(2,.cells [slv entL q1 .no,slv conL q2 .no]),(3,.cells [ai r6.2.2.1,ai r6.2.2.2]),(4,imap q7),(5,.dead),(6,.dead),(7,.dead),(8,.cells [ai p1.kind_,ai p1.row_,ai p1.var_,slv freeVarL p1.vars_ .no,slv tmCells p1.binds_ .no,slv tmCells p1.args_ .no,slv coverKidC p1.kids_ .no]),(9,.cells [ai 0,ai 0,ai 0,slv freeVarL ([]:List FreeVar) .nl,slv tmCells ([]:List Tm) .nl,slv tmCells ([]:List Tm) .nl,slv coverKidC ([]:List CoverKid) .nl]),(10,.row (flat intC q8)),(11,.row (flat tmCells q9)),(12,.row (flat intC q12))],13,[],0,[]⟩
abbrev K111vacy (q0 q1:List Ent) (q2:List Con') (q3 q4:List Int) (q5 q6:Int) (q7:List (Int×Int)) (q8:List Int) (q9:List Tm) (q10 q11:Nat) (q12:List Int) (p1:CoverTree) (r:CoverTree×Bool×Int×List Int×List Tm×Nat×Nat×List Int×Int×Int×(List (Int×Int))) (C:Cf):Prop:=C 111 [.cells [.mp 1 0,.mp 3 0,.obj 4,.ms 5 0 (List.length q8) (List.length q8) 1,.ms 6 0 q10 q11 3,.ms 7 0 (List.length q12) (List.length q12) 1],.cells [slv entL q0 .no,.mp 2 0,slv intC q3 .no,slv intC q4 .no],.cells [slv entL q1 .no,slv conL q2 .no],.cells [ai q5,ai q6],imap q7,.row (flat intC q8),.row (flat tmCells q9),.row (flat intC q12)] [.mp 0 0,coverTreeA p1] (.tup [coverTreeA (CoverTree.mk r.1.kind_ r.1.row_ r.1.var_ r.1.vars_ r.1.binds_ r.1.args_ r.1.kids_),ab r.2.1,ai r.2.2.1]) [.cells [.mp 1 0,.mp 3 0,.obj 4,.ms 8 0 (List.length r.2.2.2.1) (List.length r.2.2.2.1) 1,.ms 9 0 r.2.2.2.2.2.1 r.2.2.2.2.2.2.1 3,.ms 10 0 (List.length r.2.2.2.2.2.2.2.1) (List.length r.2.2.2.2.2.2.2.1) 1],.cells [slv entL q0 .no,.mp 2 0,slv intC q3 .no,slv intC q4 .no],.cells [slv entL q1 .no,slv conL q2 .no],.cells [ai r.2.2.2.2.2.2.2.2.1,ai r.2.2.2.2.2.2.2.2.2.1],imap r.2.2.2.2.2.2.2.2.2.2,.dead,.dead,.dead,.row (flat intC r.2.2.2.1),.row (flat tmCells r.2.2.2.2.1),.row (flat intC r.2.2.2.2.2.2.2.1)] 0
theorem q111vacy:Qf 111 Tryz.f111:=⟨Tryz.func111,by kernel_rfl⟩
theorem k111vacy{q0 q1 q2 q3 q4 q5 q6 q7 q8 q9 q10 q11 q12 p1 r}(h:K111vacy q0 q1 q2 q3 q4 q5 q6 q7 q8 q9 q10 q11 q12 p1 r Ci):K111vacy q0 q1 q2 q3 q4 q5 q6 q7 q8 q9 q10 q11 q12 p1 r Ct:=⟨h,⟨(lz rfl),⟨tv,tv,tv,⟨tv,dFreeVar _⟩,⟨tv,dT _⟩,⟨tv,dT _⟩,⟨tv,dCoverKid _⟩,tv⟩,tv⟩,(forall_cons ⟨(lz rfl),(lz rfl),(lz rfl),(lz rfl),(lz rfl),(lz rfl),tv⟩ (forall_cons ⟨⟨tv,dE _⟩,(lz rfl),⟨tv,dI _⟩,⟨tv,dI _⟩,tv⟩ (forall_cons ⟨⟨tv,dE _⟩,⟨tv,dC _⟩,tv⟩ (forall_cons ⟨tv,tv,tv⟩ (forall_cons tv (forall_cons (dI _) (forall_cons (dT _) (forall_cons (dI _) forall_nil)))))))),⟨⟨tv,tv,tv,dFreeVar _,dT _,dT _,dCoverKid _,tv⟩,tv,tv,tv⟩,(forall_cons ⟨(lz rfl),(lz rfl),(lz rfl),(lz rfl),(lz rfl),(lz rfl),tv⟩ (forall_cons ⟨dE _,(lz rfl),dI _,dI _,tv⟩ (forall_cons ⟨dE _,dC _,tv⟩ (forall_cons ⟨tv,tv,tv⟩ (forall_cons tv (forall_cons tv (forall_cons tv (forall_cons tv (forall_cons (dI _) (forall_cons (dT _) (forall_cons (dI _) forall_nil)))))))))))⟩
theorem l111vacyLdg:∀qq:Nat,(∀q0 q1 q2 q3 q4 q7 q8 q9 q10 q11 q12 p1 r6 r9 x14 v76 r,e111vacyLdg qq q0 q1 q2 q3 q4 q7 q8 q9 q10 q11 q12 p1 r6 r9 x14 v76=some r->(∀j,Dl Tryz.prog 8 (inn (inn (rgt (lft (rgt (rgt (rgt (rgt (rgt (rgt (rgt (rgt (bod Tryz.f111))))))))))))) (g111vacyLdgE0 j q0 q1 q2 q3 q4 q7 q8 q9 q10 q11 q12 p1 r6 r9 x14 v76) (g111vacyLdgS0 q0 q1 q2 q3 q4 q7 q8 q9 q10 q11 q12 p1 r6 r9 x14 v76) (frameQ Tryz.prog 8 (FinQ Tryz.prog 8 Tryz.f111 (.tup [coverTreeA (CoverTree.mk r.1.kind_ r.1.row_ r.1.var_ r.1.vars_ r.1.binds_ r.1.args_ r.1.kids_),ab r.2.1,ai r.2.2.1]) [.cells [.mp 1 0,.mp 3 0,.obj 4,.ms 8 0 (List.length r.2.2.2.1) (List.length r.2.2.2.1) 1,.ms 9 0 r.2.2.2.2.2.1 r.2.2.2.2.2.2.1 3,.ms 10 0 (List.length r.2.2.2.2.2.2.2.1) (List.length r.2.2.2.2.2.2.2.1) 1],.cells [slv entL q0 .no,.mp 2 0,slv intC q3 .no,slv intC q4 .no],.cells [slv entL q1 .no,slv conL q2 .no],.cells [ai r.2.2.2.2.2.2.2.2.1,ai r.2.2.2.2.2.2.2.2.2.1],imap r.2.2.2.2.2.2.2.2.2.2,.dead,.dead,.dead,.row (flat intC r.2.2.2.1),.row (flat tmCells r.2.2.2.2.1),.row (flat intC r.2.2.2.2.2.2.2.1)] 0) [.blk 0,.seq (rgt (rgt (rgt (rgt (rgt (rgt (rgt (rgt (rgt (bod Tryz.f111))))))))))]))):=by
 intro qq
 induction qq with
 |zero=>
  exact fun _ _ _ _ _ _ _ _ _ _ _ _ _ _ _ _ _ h=>nn h
 |succ qq ih=>
  intro q0 q1 q2 q3 q4 q7 q8 q9 q10 q11 q12 p1 r6 r9 x14 v76 r h
  rw[e111vacyLdg]at h
  rcases spl h with⟨h16,h⟩|⟨h16,h⟩
  obtain⟨x17,h18,h⟩:=obind h
  have k:=oA 0 (ix69 (o:=.no) h18)<|oB 0 h16 o0
  rcases spl h with⟨h19,h⟩|⟨h19,h⟩
  have k:=oB 2 h19 k
  rcases spl h with⟨h20,h⟩|⟨h20,h⟩
  have k:=oB 1 h20 k
  rcases spl h with⟨h21,h⟩|⟨h21,h⟩
  obtain⟨r22,h23,h⟩:=obind h
  obtain⟨l24,h25,h⟩:=obind h
  obtain rfl:=sj h
  exact fun j=>lF 3 [0,1,2,3,4,5,6,7,14,15,16] (oD (dCoverKid x17.t_.kids_)<|oD (dT x17.t_.args_)<|oD (dT x17.t_.binds_)<|oD (dFreeVar x17.t_.vars_)<|oD (dI l24)<|oD (dT r22.2.1)<|oD (dI r22.1)<|oD (dC q2)<|oD (dE q1)<|oD (dI q4)<|oD (dI q3)<|oD (dE q0)<|oM 2 (apR41 h25 (by simp))<|oC 1 [0,1,2,3,4,10,11,12] (c109vacl h23)<|oB 3 h21 k)
  exact fun j=>lH 1 [] [0,1,2,3,4,5,6,7,8,9,10,11,12] [] [0,3,4,11,13,74,75,76] (oD (dCoverKid p1.kids_)<|oD (dT x14)<|oD (dI q12)<|oD (dT q9)<|oD (dI q8)<|oD (dCoverKid ([]:List CoverKid))<|oD (dT ([]:List Tm))<|oD (dT ([]:List Tm))<|oD (dFreeVar ([]:List FreeVar))<|oD (dCoverKid p1.kids_)<|oD (dT p1.args_)<|oD (dT p1.binds_)<|oD (dFreeVar p1.vars_)<|oD (dC q2)<|oD (dE q1)<|oD (dI q4)<|oD (dI q3)<|oD (dE q0)<|oB 3 h21 k) (ih _ _ _ _ _ _ _ _ _ _ _ _ _ _ _ _ _ h)
  exact fun j=>lH 1 [] [0,1,2,3,4,5,6,7,8,9,10,11,12] [] [0,3,4,11,13,74,75,76] (oD (dCoverKid p1.kids_)<|oD (dT x14)<|oD (dI q12)<|oD (dT q9)<|oD (dI q8)<|oD (dCoverKid ([]:List CoverKid))<|oD (dT ([]:List Tm))<|oD (dT ([]:List Tm))<|oD (dFreeVar ([]:List FreeVar))<|oD (dCoverKid p1.kids_)<|oD (dT p1.args_)<|oD (dT p1.binds_)<|oD (dFreeVar p1.vars_)<|oD (dC q2)<|oD (dE q1)<|oD (dI q4)<|oD (dI q3)<|oD (dE q0)<|oB 1 h20 k) (ih _ _ _ _ _ _ _ _ _ _ _ _ _ _ _ _ _ h)
  exact fun j=>lH 1 [] [0,1,2,3,4,5,6,7,8,9,10,11,12] [] [0,3,4,11,13,74,75,76] (oD (dCoverKid p1.kids_)<|oD (dT x14)<|oD (dI q12)<|oD (dT q9)<|oD (dI q8)<|oD (dCoverKid ([]:List CoverKid))<|oD (dT ([]:List Tm))<|oD (dT ([]:List Tm))<|oD (dFreeVar ([]:List FreeVar))<|oD (dCoverKid p1.kids_)<|oD (dT p1.args_)<|oD (dT p1.binds_)<|oD (dFreeVar p1.vars_)<|oD (dC q2)<|oD (dE q1)<|oD (dI q4)<|oD (dI q3)<|oD (dE q0)<|oB 2 h19 k) (ih _ _ _ _ _ _ _ _ _ _ _ _ _ _ _ _ _ h)
  obtain rfl:=sj h
  exact fun j=>lF 2 [0,1,2,3,4,5,6,7,10,11,12] (oD (dCoverKid p1.kids_)<|oD (dT p1.args_)<|oD (dT p1.binds_)<|oD (dFreeVar p1.vars_)<|oD (dI q12)<|oD (dT q9)<|oD (dI q8)<|oD (dC q2)<|oD (dE q1)<|oD (dI q4)<|oD (dI q3)<|oD (dE q0)<|oB 0 h16 o0)
theorem c111vacy{qq q0 q1 q2 q3 q4 q5 q6 q7 q8 q9 q10 q11 q12 p1 r}(h:e111vacy qq q0 q1 q2 q3 q4 q5 q6 q7 q8 q9 q10 q11 q12 p1=some r):K111vacy q0 q1 q2 q3 q4 q5 q6 q7 q8 q9 q10 q11 q12 p1 r Ct:=by
 unfold e111vacy at h
 have k:=oL 2 (lkJ181 q7 p1.var_) o0
 rcases spl h with⟨h1,h⟩|⟨h1,h⟩
 obtain⟨x2,h3,h⟩:=obind h
 obtain⟨x4,h5,h⟩:=obind h
 obtain⟨r6,h7,h⟩:=obind h
 have k:=oC 1 [1,2,3] (c69 h7)<|oG (a:=(.agg [ai x4.k,ai x4.n,slv tmCells x4.sub .no])) 0 (ldE codecT h5 (true,3) (val:=.agg [ai x4.k,ai x4.n,slv tmCells x4.sub .no]) (by rw[tm_eq];rfl))<|oA 3 (ixM23 (b:=6) (c:=q11) (z:=3) h3)<|oB 1 h1 k
 rcases spl h with⟨h8,h⟩|⟨h8,h⟩
 obtain rfl:=sj h
 exact k111vacy (tG q111vacy 2 [(some 5,0,0),(some 6,0,0),(some 7,0,0)] [0,1,2,3,4,5,6,7,11,12,13] [] false (oD (dCoverKid p1.kids_)<|oD (dT p1.args_)<|oD (dT p1.binds_)<|oD (dFreeVar p1.vars_)<|oD (dI q12)<|oD (dT q9)<|oD (dI q8)<|oD (dC q2)<|oD (dE q1)<|oD (dI q4)<|oD (dI q3)<|oD (dE q0)<|oB 3 h8 k))
 obtain⟨r9,h10,h⟩:=obind h
 have k:=oC 2 [1,2] (c165 h10)<|oB 3 h8 k
 rcases spl h with⟨h11,h⟩|⟨h11,h⟩
 obtain⟨r12,h13,h⟩:=obind h
 obtain⟨x14,h15,h⟩:=obind h
 exact k111vacy (tH q111vacy 2 [(some 5,0,0),(some 6,0,0),(some 7,0,0)] [0,1,2,3,4,5,6,7,8,9,11,12,13] [] [0,3,4,11,13,74,75,76] (oD (dCoverKid p1.kids_)<|oD (dT x14)<|oD (dI q12)<|oD (dT q9)<|oD (dI q8)<|oD (dCoverKid ([]:List CoverKid))<|oD (dT ([]:List Tm))<|oD (dT ([]:List Tm))<|oD (dFreeVar ([]:List FreeVar))<|oD (dCoverKid p1.kids_)<|oD (dT p1.args_)<|oD (dT p1.binds_)<|oD (dFreeVar p1.vars_)<|oD (dC q2)<|oD (dE q1)<|oD (dI q4)<|oD (dI q3)<|oD (dE q0)<|oA 0 (slFrom23 h15)<|oC 2 [1,2] (c166 h13)<|oB 2 h11 k) (l111vacyLdg _ _ _ _ _ _ _ _ _ _ _ _ _ _ _ _ _ _ h))
 obtain rfl:=sj h
 exact k111vacy (tG q111vacy 3 [(some 5,0,0),(some 6,0,0),(some 7,0,0)] [0,1,2,3,4,5,6,7,11,12,13] [] false (oD (dCoverKid p1.kids_)<|oD (dT p1.args_)<|oD (dT p1.binds_)<|oD (dFreeVar p1.vars_)<|oD (dI q12)<|oD (dT q9)<|oD (dI q8)<|oD (dC q2)<|oD (dE q1)<|oD (dI q4)<|oD (dI q3)<|oD (dE q0)<|oB 2 h11 k))
 obtain rfl:=sj h
 exact k111vacy (tG q111vacy 3 [(some 5,0,0),(some 6,0,0),(some 7,0,0)] [0,1,2,3,4,5,6,7,10,11,12] [] false (oD (dCoverKid p1.kids_)<|oD (dT p1.args_)<|oD (dT p1.binds_)<|oD (dFreeVar p1.vars_)<|oD (dI q12)<|oD (dT q9)<|oD (dI q8)<|oD (dC q2)<|oD (dE q1)<|oD (dI q4)<|oD (dI q3)<|oD (dE q0)<|oB 1 h1 k))
theorem out_BringL{N:ByteArray->Bool}(l:List Ent)(hE:AllE N l)(he:∀e∈l,EOk e)(x:Tm)(ho:x.Ok)(f:Int)(hf:0≤f):Ou (fun L U q=>e69 q (machT l) x L U) er4 (fun R _=>∃y e,y.Ok∧e≠8∧(e=0->shapedT y=true)∧R=fun L U=>(y,e,L,U)) True f:=by
 refine(out_Bring l hE he x ho f hf).mono ?_ fun _=>trivial
 rintro R k _ _ (⟨-,-,rfl⟩|⟨hR,y,e,hbr,rfl⟩)
 ·exact⟨zT,5,zT_ok,by decide,fun h=>absurd h (by decide),rfl⟩
 ·by_cases e0:e=0
  ·subst e0
   exact⟨y,0,shaped_ok (hbr.shaped hR.shaped rfl),by decide,fun _=>hbr.shaped hR.shaped rfl,by simp⟩
  ·exact⟨zT,e,zT_ok,hbr.e8 hE hR.shaped,fun h=>absurd h e0,by simp[e0]⟩
theorem ne8L{e:Int}(h:e=8):(e != 0)=true:=by rw[h];decide
theorem con_parsL{N:ByteArray->Bool}{l:List Ent}(hE:AllE N l){t:Tm}(hs:shapedT t=true)(hc:isCon l t):∃p:Nat,(ent l (hdT t).n).pars=(p:Int)∧p≤(arT t).length∧0≤(hdT t).n∧(hdT t).n<l.length:=by
 have h:=isCon_spec hs hc
 obtain⟨A,y,hw,-,-,hp,-,q0,q1,-⟩:=con_facts hE h.1 h.2.1 h.2.2.1
 exact⟨(ent l (hdT t).n).pars.toNat,by omega,by rw[h.2.2.2];omega,h.1,h.2.1⟩
theorem ev_ConL(l:List Ent)(t:Tm)(hs:shapedT t=true):Evt (fun q=>e165 q (machT l) t) (conX l t):=by
 simp only[e165]
 refine(ev_Shaped t (shaped_ok hs)).bind (Evt.ifT hs (((ev_Copy t (shaped_ok hs)).eq (by unfold copT;rw[if_pos hs])).bind ((ev_wcon l t hs).bind Evt.ret)))
theorem ev_ParsL{N:ByteArray->Bool}{l:List Ent}(hE:AllE N l){t:Tm}(hs:shapedT t=true)(hc:isCon l t):∃p:Nat,p≤(arT t).length∧Evt (fun q=>e166 q (machT l) (hdT t).n) (p:Int):=by
 obtain⟨p,hp,h1,h2,h3⟩:=con_parsL hE hs hc
 refine⟨p,h1,?_⟩
 simp only[e166,machT_l]
 exact Evt.ifF (decide_eq_false (by omega)) (Evt.ifF (decide_eq_false (by omega)) (Evt.pure (gidx_ent h2 h3) (Evt.ret.eq hp)))
theorem ar_le{t:Tm}(hs:shapedT t=true):(arT t).length≤8192:=by
 have h:=shapedT_spec hs
 have:=ar_len t h.2.2
 omega
theorem kids_KI1(q0 q1:List Ent)(q2:List Con')(q3 q4:List Int)(m:List (Int×Int))(ns:List Int)(ts:List Tm)(c:Nat)(t:CoverTree)(hn:ns.length=ts.length)(hb:ts.length≤100000000000)(hk:t.kids_.length≤17592186044416)(y:Tm)(cc:Int)(ar own:List Tm)(ho:own.length≤8192):∀(r:List CoverKid) (v:Nat),t.kids_.drop v=r ->
  (∀L U,Evt (fun q=>e111vacnLdf q q0 q1 q2 q3 q4 m ns ts ts.length c t (y,0,L,U) (cc,ar,true) own (v:Int)) (.inl (t,false,0,ns,ts,ts.length,c,L,U,m))) ∨
  ∃k∈t.kids_,k.args_.length=own.length∧∃c',∀L U,Evt (fun q=>e111vacnLdf q q0 q1 q2 q3 q4 m ns ts ts.length c t (y,0,L,U) (cc,ar,true) own (v:Int)) (.inr (k.t_,true,0,ns++k.args_,ts++own,(ts++own).length,c',[cc],L,U,setAt m ts.length k.args_)):=by
 intro r
 induction r with
 |nil=>
  intro v hd
  refine .inl fun L U=>Evt.succ ?_
  simp only[e111vacnLdf,ct_eta]
  exact Evt.ifF (drop_nil hd) Evt.ret
 |cons k r ih=>
  intro v hd
  have hlt:=drop_lt hd
  have hm:k∈t.kids_:=List.mem_of_mem_drop (by rw[hd];simp)
  have key:(k.yes_=true∧(k.con_==cc)=true∧((k.args_.length:Int)==(own.length:Int))=true)∨∀L U o,Evt (fun q=>e111vacnLdf q q0 q1 q2 q3 q4 m ns ts ts.length c t (y,0,L,U) (cc,ar,true) own ((v+1:Nat):Int)) o->Evt (fun q=>e111vacnLdf q q0 q1 q2 q3 q4 m ns ts ts.length c t (y,0,L,U) (cc,ar,true) own (v:Int)) o:=by
   by_cases h1:k.yes_=true
   ·by_cases h2:(k.con_==cc)=true
    ·by_cases h3:((k.args_.length:Int)==(own.length:Int))=true
     ·exact .inl ⟨h1,h2,h3⟩
     ·refine .inr fun L U o h=>Evt.succ ?_
      simp only[e111vacnLdf,ct_eta]
      refine Evt.ifT (drop_dec hd) (Evt.pure (drop_idx hd) (Evt.ifT h1 (Evt.ifT h2 (Evt.ifF (by simpa using h3) ?_))))
      rw[w64_nat v (by omega)];exact h
    ·refine .inr fun L U o h=>Evt.succ ?_
     simp only[e111vacnLdf,ct_eta]
     refine Evt.ifT (drop_dec hd) (Evt.pure (drop_idx hd) (Evt.ifT h1 (Evt.ifF (by simpa using h2) ?_)))
     rw[w64_nat v (by omega)];exact h
   ·refine .inr fun L U o h=>Evt.succ ?_
    simp only[e111vacnLdf,ct_eta]
    refine Evt.ifT (drop_dec hd) (Evt.pure (drop_idx hd) (Evt.ifF (by simpa using h1) ?_))
    rw[w64_nat v (by omega)];exact h
  rcases key with⟨h1,h2,h3⟩|key
  ·have hlen:k.args_.length=own.length:=by have:(k.args_.length:Int)=own.length:=(by simpa using h3);omega
   refine .inr ⟨k,hm,hlen,if k.args_=[]then c else(ts++own).length,fun L U=>Evt.succ ?_⟩
   simp only[e111vacnLdf,ct_eta]
   refine Evt.ifT (drop_dec hd) (Evt.pure (drop_idx hd) (Evt.ifT h1 (Evt.ifT h2 (Evt.ifT h3 (Evt.bind (a:=(ns++k.args_,ts++own,(ts++own).length,if k.args_=[]then c else(ts++own).length,setAt m ts.length k.args_)) ?_ (Evt.pure (gapp_ok (by simp<;>omega)) Evt.ret))))))
   simp only[e109vacg]
   exact ev_setM1 q0 q1 q2 q3 q4 L U k.args_ own hlen (by omega) k.args_ 0 m ns ts c rfl hn (by omega)
  ·rcases ih (v+1) (drop_next hd)with h|⟨k',hm',hl',c',h⟩
   ·exact .inl fun L U=>key L U _ (h L U)
   ·exact .inr ⟨k',hm',hl',c',fun L U=>key L U _ (h L U)⟩
def QKI1(m:List (Int×Int))(ns:List Int)(ts:List Tm)(c:Nat)(t:CoverTree)(R:Int->Int->(CoverTree×Bool×Int×List Int×List Tm×Nat×Nat×Int×Int×(List (Int×Int))) ⊕ (CoverTree×Bool×Int×List Int×List Tm×Nat×Nat×List Int×Int×Int×(List (Int×Int))))(_:Int):Prop:=
 (∃e:Int,R=fun L U=>(.inl (t,false,e,ns,ts,ts.length,c,L,U,m)))∨∃k∈t.kids_,∃own:List Tm,k.args_.length=own.length∧own.length≤8192∧(∀x∈own,shapedT x=true)∧∃c' p,p.length≤1∧R=fun L U=>(.inr (k.t_,true,0,ns++k.args_,ts++own,(ts++own).length,c',p,L,U,setAt m ts.length k.args_))
abbrev erKI1:(CoverTree×Bool×Int×List Int×List Tm×Nat×Nat×Int×Int×(List (Int×Int))) ⊕ (CoverTree×Bool×Int×List Int×List Tm×Nat×Nat×List Int×Int×Int×(List (Int×Int)))->Int:=fun r=>match r with | .inl y=>y.2.2.1 | .inr y=>y.2.2.1
theorem out_KI1{N:ByteArray->Bool}(l:List Ent)(hE:AllE N l)(he:∀e∈l,EOk e)(m:List (Int×Int))(ns:List Int)(ts:List Tm)(c:Nat)(t:CoverTree)(hL:LI m ns ts)(hb:ts.length≤100000000000)(hk:t.kids_.length≤17592186044416)(f:Int)(hf:0≤f) :
  Ou (fun L U q=>e111vacn q (machT l).l (machT l).rl (machT l).parts (machT l).args (machT l).own L U m ns ts ts.length c t) erKI1 (QKI1 m ns ts c t) True f:=by
 simp only[e111vacn,ct_eta]
 refine Ou.ite (fun h=>?_) fun _=>Ou.ret hf (.inl ⟨0,rfl⟩)
 obtain⟨i,hi,hlt⟩:∃i:Nat,iget m t.var_=(i:Int)∧i<ts.length:=⟨(iget m t.var_).toNat,by have:=hL.2.1 _ h;omega,by have:=hL.2.1 _ h;omega⟩
 rw[hi]
 refine Ou.pure (gchk_ok hlt) (Ou.pure (gidx_nat hlt) ?_)
 refine Ou.bind (out_BringL l hE he ts[i] (shaped_ok (hL.2.2 _ (List.getElem_mem hlt))) f hf) id (fun r hr=>⟨_,Evt.ifT (ne8L hr) Evt.ret,hr⟩) ?_
 rintro R k k0 k1 ⟨y,e,-,-,hs,rfl⟩
 dsimp only
 by_cases e0:e=0
 ·subst e0
  have hsy:=hs rfl
  refine Ou.ifF rfl (Ou.evt (ev_ConL l y hsy) ?_)
  unfold conX
  by_cases hc:isCon l y
  ·rw[if_pos hc]
   obtain⟨p,hp,hP⟩:=ev_ParsL hE hsy hc
   have hal:=ar_le hsy
   refine Ou.ifT rfl (Ou.evt hP (Ou.pure (gsl_ok hp (Nat.le_refl _)) ?_))
   rw[show ((arT y).drop p).take ((arT y).length-p)=(arT y).drop p from List.take_of_length_le (by simp)]
   have ho:((arT y).drop p).length≤8192:=by simp;omega
   rcases kids_KI1 (machT l).l (machT l).rl (machT l).parts (machT l).args (machT l).own m ns ts c t hL.1 hb hk y (hdT y).n (arT y) ((arT y).drop p) ho t.kids_ 0 rfl with h|⟨k',hm',hl',c',h⟩
   ·exact Ou.of h (by omega) (.inl ⟨0,rfl⟩)
   ·exact Ou.of h (by omega) (.inr ⟨k',hm',_,hl',ho,fun x hx=>ar_shaped hsy (List.mem_of_mem_drop hx),c',_,by simp,rfl⟩)
  ·rw[if_neg hc]
   exact Ou.ifF rfl (Ou.ret (by omega) (.inl ⟨0,rfl⟩))
 ·exact Ou.ifT (by simpa using e0) (Ou.ret (by omega) (.inl ⟨e,rfl⟩))
theorem kids_KI2(q0 q1:List Ent)(q2:List Con')(q3 q4:List Int)(m:List (Int×Int))(ns:List Int)(ts:List Tm)(c:Nat)(q12:List Int)(t:CoverTree)(hn:ns.length=ts.length)(hb:ts.length≤100000000000)(hk:t.kids_.length≤17592186044416)(hq:q12.length≤1000000)(y:Tm)(cc:Int)(ar own:List Tm)(ho:own.length≤8192):∀(r:List CoverKid) (v:Nat),t.kids_.drop v=r ->
  (∀L U,Evt (fun q=>e111vacyLdg q q0 q1 q2 q3 q4 m ns ts ts.length c q12 t (y,0,L,U) (cc,ar,true) own (v:Int)) (t,false,0,ns,ts,ts.length,c,q12,L,U,m)) ∨
  ∃k∈t.kids_,k.args_.length=own.length∧∃c',∀L U,Evt (fun q=>e111vacyLdg q q0 q1 q2 q3 q4 m ns ts ts.length c q12 t (y,0,L,U) (cc,ar,true) own (v:Int)) (k.t_,true,0,ns++k.args_,ts++own,(ts++own).length,c',q12++[cc],L,U,setAt m ts.length k.args_):=by
 intro r
 induction r with
 |nil=>
  intro v hd
  refine .inl fun L U=>Evt.succ ?_
  simp only[e111vacyLdg,ct_eta]
  exact Evt.ifF (drop_nil hd) Evt.ret
 |cons k r ih=>
  intro v hd
  have hlt:=drop_lt hd
  have hm:k∈t.kids_:=List.mem_of_mem_drop (by rw[hd];simp)
  have key:(k.yes_=true∧(k.con_==cc)=true∧((k.args_.length:Int)==(own.length:Int))=true)∨∀L U o,Evt (fun q=>e111vacyLdg q q0 q1 q2 q3 q4 m ns ts ts.length c q12 t (y,0,L,U) (cc,ar,true) own ((v+1:Nat):Int)) o->Evt (fun q=>e111vacyLdg q q0 q1 q2 q3 q4 m ns ts ts.length c q12 t (y,0,L,U) (cc,ar,true) own (v:Int)) o:=by
   by_cases h1:k.yes_=true
   ·by_cases h2:(k.con_==cc)=true
    ·by_cases h3:((k.args_.length:Int)==(own.length:Int))=true
     ·exact .inl ⟨h1,h2,h3⟩
     ·refine .inr fun L U o h=>Evt.succ ?_
      simp only[e111vacyLdg,ct_eta]
      refine Evt.ifT (drop_dec hd) (Evt.pure (drop_idx hd) (Evt.ifT h1 (Evt.ifT h2 (Evt.ifF (by simpa using h3) ?_))))
      rw[w64_nat v (by omega)];exact h
    ·refine .inr fun L U o h=>Evt.succ ?_
     simp only[e111vacyLdg,ct_eta]
     refine Evt.ifT (drop_dec hd) (Evt.pure (drop_idx hd) (Evt.ifT h1 (Evt.ifF (by simpa using h2) ?_)))
     rw[w64_nat v (by omega)];exact h
   ·refine .inr fun L U o h=>Evt.succ ?_
    simp only[e111vacyLdg,ct_eta]
    refine Evt.ifT (drop_dec hd) (Evt.pure (drop_idx hd) (Evt.ifF (by simpa using h1) ?_))
    rw[w64_nat v (by omega)];exact h
  rcases key with⟨h1,h2,h3⟩|key
  ·have hlen:k.args_.length=own.length:=by have:(k.args_.length:Int)=own.length:=(by simpa using h3);omega
   refine .inr ⟨k,hm,hlen,if k.args_=[]then c else(ts++own).length,fun L U=>Evt.succ ?_⟩
   simp only[e111vacyLdg,ct_eta]
   refine Evt.ifT (drop_dec hd) (Evt.pure (drop_idx hd) (Evt.ifT h1 (Evt.ifT h2 (Evt.ifT h3 (Evt.bind (a:=(ns++k.args_,ts++own,(ts++own).length,if k.args_=[]then c else(ts++own).length,setAt m ts.length k.args_)) ?_ (Evt.pure (gapp_ok (by simp<;>omega)) Evt.ret))))))
   simp only[e109vacl]
   exact ev_setM2 q0 q1 q2 q3 q4 L U q12 k.args_ own hlen (by omega) k.args_ 0 m ns ts c rfl hn (by omega)
  ·rcases ih (v+1) (drop_next hd)with h|⟨k',hm',hl',c',h⟩
   ·exact .inl fun L U=>key L U _ (h L U)
   ·exact .inr ⟨k',hm',hl',c',fun L U=>key L U _ (h L U)⟩
def QKI2(m:List (Int×Int))(ns:List Int)(ts:List Tm)(c:Nat)(q12:List Int)(t:CoverTree)(R:Int->Int->CoverTree×Bool×Int×List Int×List Tm×Nat×Nat×List Int×Int×Int×(List (Int×Int)))(_:Int):Prop:=
 (∃e:Int,R=fun L U=>(t,false,e,ns,ts,ts.length,c,q12,L,U,m))∨∃k∈t.kids_,∃own:List Tm,k.args_.length=own.length∧own.length≤8192∧(∀x∈own,shapedT x=true)∧∃c' p,p.length≤q12.length+1∧R=fun L U=>(k.t_,true,0,ns++k.args_,ts++own,(ts++own).length,c',p,L,U,setAt m ts.length k.args_)
abbrev erKI2:CoverTree×Bool×Int×List Int×List Tm×Nat×Nat×List Int×Int×Int×(List (Int×Int))->Int:=fun r=>r.2.2.1
theorem out_KI2{N:ByteArray->Bool}(l:List Ent)(hE:AllE N l)(he:∀e∈l,EOk e)(m:List (Int×Int))(ns:List Int)(ts:List Tm)(c:Nat)(q12:List Int)(t:CoverTree)(hL:LI m ns ts)(hb:ts.length≤100000000000)(hk:t.kids_.length≤17592186044416)(hq:q12.length≤1000000)(f:Int)(hf:0≤f) :
  Ou (fun L U q=>e111vacy q (machT l).l (machT l).rl (machT l).parts (machT l).args (machT l).own L U m ns ts ts.length c q12 t) erKI2 (QKI2 m ns ts c q12 t) True f:=by
 simp only[e111vacy,ct_eta]
 refine Ou.ite (fun h=>?_) fun _=>Ou.ret hf (.inl ⟨0,rfl⟩)
 obtain⟨i,hi,hlt⟩:∃i:Nat,iget m t.var_=(i:Int)∧i<ts.length:=⟨(iget m t.var_).toNat,by have:=hL.2.1 _ h;omega,by have:=hL.2.1 _ h;omega⟩
 rw[hi]
 refine Ou.pure (gchk_ok hlt) (Ou.pure (gidx_nat hlt) ?_)
 refine Ou.bind (out_BringL l hE he ts[i] (shaped_ok (hL.2.2 _ (List.getElem_mem hlt))) f hf) id (fun r hr=>⟨_,Evt.ifT (ne8L hr) Evt.ret,hr⟩) ?_
 rintro R k k0 k1 ⟨y,e,-,-,hs,rfl⟩
 dsimp only
 by_cases e0:e=0
 ·subst e0
  have hsy:=hs rfl
  refine Ou.ifF rfl (Ou.evt (ev_ConL l y hsy) ?_)
  unfold conX
  by_cases hc:isCon l y
  ·rw[if_pos hc]
   obtain⟨p,hp,hP⟩:=ev_ParsL hE hsy hc
   have hal:=ar_le hsy
   refine Ou.ifT rfl (Ou.evt hP (Ou.pure (gsl_ok hp (Nat.le_refl _)) ?_))
   rw[show ((arT y).drop p).take ((arT y).length-p)=(arT y).drop p from List.take_of_length_le (by simp)]
   have ho:((arT y).drop p).length≤8192:=by simp;omega
   rcases kids_KI2 (machT l).l (machT l).rl (machT l).parts (machT l).args (machT l).own m ns ts c q12 t hL.1 hb hk hq y (hdT y).n (arT y) ((arT y).drop p) ho t.kids_ 0 rfl with h|⟨k',hm',hl',c',h⟩
   ·exact Ou.of h (by omega) (.inl ⟨0,rfl⟩)
   ·exact Ou.of h (by omega) (.inr ⟨k',hm',_,hl',ho,fun x hx=>ar_shaped hsy (List.mem_of_mem_drop hx),c',_,by simp,rfl⟩)
  ·rw[if_neg hc]
   exact Ou.ifF rfl (Ou.ret (by omega) (.inl ⟨0,rfl⟩))
 ·exact Ou.ifT (by simpa using e0) (Ou.ret (by omega) (.inl ⟨e,rfl⟩))
def e108(qq:Nat)(M:Mach):Option (Int):=
 some (List.length M.l:Int)
abbrev K108 (M:Mach) (r:Int) (C:Cf):Prop:=C 108 [mB M 1,mR M] [.mp 0 0] (ai r) [mB M 1,mR M] 0
theorem q108:Qf 108 Tryz.f108:=⟨Tryz.func108,by kernel_rfl⟩
theorem k108{M r}(h:K108 M r Ci):K108 M r Ct:=⟨h,⟨(lz rfl),tv⟩,(forall_cons ⟨⟨tv,dE _⟩,(lz rfl),⟨tv,dI _⟩,⟨tv,dI _⟩,tv⟩ (forall_cons ⟨⟨tv,dE _⟩,⟨tv,dC _⟩,tv⟩ forall_nil)),tv,(forall_cons ⟨dE _,(lz rfl),dI _,dI _,tv⟩ (forall_cons ⟨dE _,dC _,tv⟩ forall_nil))⟩
theorem c108{qq M r}(h:e108 qq M=some r):K108 M r Ct:=by
 unfold e108 at h
 obtain rfl:=sj h
 exact k108 (tF q108 3 [0,1] (oD (dC M.parts)<|oD (dE M.rl)<|oD (dI M.own)<|oD (dI M.args)<|oD (dE M.l) o0))
def e111vacu(qq:Nat)(q0 q1:List Ent)(q2:List Con')(q3 q4:List Int)(q5 q6:Int)(q7:List (Int×Int))(p1:CoverTree):Option (CoverTree×Bool×Int):=
 if ihas q7 p1.var_ then
 none
 else
 some ((CoverTree.mk p1.kind_ p1.row_ p1.var_ p1.vars_ p1.binds_ p1.args_ p1.kids_),false,0)
abbrev K111vacu (q0 q1:List Ent) (q2:List Con') (q3 q4:List Int) (q5 q6:Int) (q7:List (Int×Int)) (p1:CoverTree) (r:CoverTree×Bool×Int) (C:Cf):Prop:=C 111 [.cells [.mp 1 0,.mp 3 0,.obj 4,slv intC ([]:List Int) .nl,slv tmCells ([]:List Tm) .nl,slv intC ([]:List Int) .nl],.cells [slv entL q0 .no,.mp 2 0,slv intC q3 .no,slv intC q4 .no],.cells [slv entL q1 .no,slv conL q2 .no],.cells [ai q5,ai q6],imap q7] [.mp 0 0,coverTreeA p1] (.tup [coverTreeA (CoverTree.mk r.1.kind_ r.1.row_ r.1.var_ r.1.vars_ r.1.binds_ r.1.args_ r.1.kids_),ab r.2.1,ai r.2.2]) [.cells [.mp 1 0,.mp 3 0,.obj 4,slv intC ([]:List Int) .nl,slv tmCells ([]:List Tm) .nl,slv intC ([]:List Int) .nl],.cells [slv entL q0 .no,.mp 2 0,slv intC q3 .no,slv intC q4 .no],.cells [slv entL q1 .no,slv conL q2 .no],.cells [ai q5,ai q6],imap q7] 0
theorem q111vacu:Qf 111 Tryz.f111:=⟨Tryz.func111,by kernel_rfl⟩
theorem k111vacu{q0 q1 q2 q3 q4 q5 q6 q7 p1 r}(h:K111vacu q0 q1 q2 q3 q4 q5 q6 q7 p1 r Ci):K111vacu q0 q1 q2 q3 q4 q5 q6 q7 p1 r Ct:=⟨h,⟨(lz rfl),⟨tv,tv,tv,⟨tv,dFreeVar _⟩,⟨tv,dT _⟩,⟨tv,dT _⟩,⟨tv,dCoverKid _⟩,tv⟩,tv⟩,(forall_cons ⟨(lz rfl),(lz rfl),(lz rfl),⟨tv,dI _⟩,⟨tv,dT _⟩,⟨tv,dI _⟩,tv⟩ (forall_cons ⟨⟨tv,dE _⟩,(lz rfl),⟨tv,dI _⟩,⟨tv,dI _⟩,tv⟩ (forall_cons ⟨⟨tv,dE _⟩,⟨tv,dC _⟩,tv⟩ (forall_cons ⟨tv,tv,tv⟩ (forall_cons tv forall_nil))))),⟨⟨tv,tv,tv,dFreeVar _,dT _,dT _,dCoverKid _,tv⟩,tv,tv,tv⟩,(forall_cons ⟨(lz rfl),(lz rfl),(lz rfl),dI _,dT _,dI _,tv⟩ (forall_cons ⟨dE _,(lz rfl),dI _,dI _,tv⟩ (forall_cons ⟨dE _,dC _,tv⟩ (forall_cons ⟨tv,tv,tv⟩ (forall_cons tv forall_nil)))))⟩
theorem c111vacu{qq q0 q1 q2 q3 q4 q5 q6 q7 p1 r}(h:e111vacu qq q0 q1 q2 q3 q4 q5 q6 q7 p1=some r):K111vacu q0 q1 q2 q3 q4 q5 q6 q7 p1 r Ct:=by
 unfold e111vacu at h
 have k:=oL 2 (lkJ181 q7 p1.var_) o0
 obtain⟨h1,h⟩:=splF h
 obtain rfl:=sj h
 exact k111vacu (tG q111vacu 3 [] [0,1,2,3,4] [] true (oD (dCoverKid p1.kids_)<|oD (dT p1.args_)<|oD (dT p1.binds_)<|oD (dFreeVar p1.vars_)<|oD (dC q2)<|oD (dE q1)<|oD (dI q4)<|oD (dI q3)<|oD (dE q0)<|oD (dI ([]:List Int))<|oD (dT ([]:List Tm))<|oD (dI ([]:List Int))<|oB 1 h1 k))
def e112vadh(qq:Nat)(q0:List Int):Option ((List Int) ⊕ (List Int)):=
 if decide (List.length q0=0)then
 some (Sum.inl [])
 else
 gpart q0 0 (List.length q0)>>=fun m2=>
 gapp 8 ([]:List Int) m2>>=fun l4=>
 some (Sum.inr l4)
abbrev K112vadhs0 (q0 r:List Int) (C:Cf):Prop:=C 112 [.row (flat intC q0)] [.ms 0 0 (List.length q0) (List.length q0) 1] (.sl (flat intC r) (List.length r) .no) [.row (flat intC q0)] 0
abbrev K112vadhs1 (q0 r:List Int) (C:Cf):Prop:=C 112 [.row (flat intC q0)] [.ms 0 0 (List.length q0) (List.length q0) 1] (.ms 1 0 (List.length r) (List.length r) 1) [.row (flat intC q0),.row (flat intC r)] 0
theorem q112vadh:Qf 112 Tryz.f112:=⟨Tryz.func112,by kernel_rfl⟩
theorem k112vadhs0{q0 r}(h:K112vadhs0 q0 r Ci):K112vadhs0 q0 r Ct:=⟨h,⟨(lz rfl),tv⟩,(forall_cons (dI _) forall_nil),dI _,(forall_cons (dI _) forall_nil)⟩
theorem k112vadhs1{q0 r}(h:K112vadhs1 q0 r Ci):K112vadhs1 q0 r Ct:=⟨h,⟨(lz rfl),tv⟩,(forall_cons (dI _) forall_nil),(lz rfl),(forall_cons (dI _) (forall_cons (dI _) forall_nil))⟩
theorem c112vadh{qq q0 r}(h:e112vadh qq q0=some r):(match (generalizing:=false) r with|Sum.inl x=>K112vadhs0 q0 x Ct|Sum.inr x=>K112vadhs1 q0 x Ct):=by
 unfold e112vadh at h
 rcases spl h with⟨h1,h⟩|⟨h1,h⟩
 obtain rfl:=sj h
 exact k112vadhs0 (tF q112vadh 0 [0] (oD (dI ([]:List Int))<|oD (dI q0)<|oQ 2 (apQ41 (of_decide_eq_true h1)) o0))
 obtain⟨m2,h3,h⟩:=obind h
 obtain⟨l4,h5,h⟩:=obind h
 obtain rfl:=sj h
 exact k112vadhs1 (tF q112vadh 0 [0,1] (oD (dI l4)<|oD (dI q0)<|oM 2 (apWP41 (j:=0) h3 h5 (fun e=>of_decide_eq_false h1 ((gpart_spec h3).2.symm.trans e))) o0))
def e46Ldi:Nat->Mach->Int->Int->Int->Int->Int->(List FreeVar)->(List Tm)->(List Tm)->(List CoverKid)->Nat->Nat->(List (Int×Int))->(List Int)->(List Tm)->(List Int)->Option ((LeafFound×Int×Int×Int) ⊕ ((Int×List Tm×List Int×Nat×Nat×Int×Int×Int) ⊕ (Int×List Tm×List Int×Int×Int×Int)))
 |0,_,_,_,_,_,_,_,_,_,_,_,_,_,_,_,_=>none
 |qq+1,M,vb2_0,vb2_1,vb3_0,vb3_1,vb3_2,vb3_3,vb3_4,vb3_5,vb3_6,vb5_4_c,vb5_4_n,vb6_0,vb7_0,vb8_0,vb9_0=>
 if vb3_0==1 then
 e110vacy qq M.l M.rl M.parts M.args M.own vb2_0 vb2_1 vb6_0 vb7_0 vb8_0 vb5_4_n vb5_4_c vb9_0 (CoverTree.mk vb3_0 vb3_1 vb3_2 vb3_3 vb3_4 vb3_5 vb3_6)>>=fun r45=>
 match r45 with
 |Sum.inl y47=>
  some (Sum.inl (y47.1,y47.2,vb2_0,vb2_1))
 |Sum.inr y48=>
  some (Sum.inr (Sum.inl (y48.1,y48.2.1,vb9_0,List.length y48.2.2.1,List.length y48.2.2.1,y48.2.2.2,vb2_0,vb2_1)))
 else
 if vb3_0==3 then
 e111vacy qq M.l M.rl M.parts M.args M.own vb2_0 vb2_1 vb6_0 vb7_0 vb8_0 vb5_4_n vb5_4_c vb9_0 (CoverTree.mk vb3_0 vb3_1 vb3_2 vb3_3 vb3_4 vb3_5 vb3_6)>>=fun r50=>
 if r50.2.1 then
 if r50.2.2.1 != 0 then
 some (Sum.inl ((LeafFound.mk false 0 [] []),r50.2.2.1,r50.2.2.2.2.2.2.2.2.1,r50.2.2.2.2.2.2.2.2.2.1))
 else
 e46Ldi qq M r50.2.2.2.2.2.2.2.2.1 r50.2.2.2.2.2.2.2.2.2.1 r50.1.kind_ r50.1.row_ r50.1.var_ r50.1.vars_ r50.1.binds_ r50.1.args_ r50.1.kids_ r50.2.2.2.2.2.2.1 r50.2.2.2.2.2.1 r50.2.2.2.2.2.2.2.2.2.2 r50.2.2.2.1 r50.2.2.2.2.1 r50.2.2.2.2.2.2.2.1
 else
 if r50.2.2.1 != 0 then
 some (Sum.inl ((LeafFound.mk false 0 [] []),r50.2.2.1,r50.2.2.2.2.2.2.2.2.1,r50.2.2.2.2.2.2.2.2.2.1))
 else
 e112vadh qq r50.2.2.2.2.2.2.2.1>>=fun r55=>
 match r55 with
 |Sum.inl y57=>
  some (Sum.inl ((LeafFound.mk false 0 [] y57),0,r50.2.2.2.2.2.2.2.2.1,r50.2.2.2.2.2.2.2.2.2.1))
 |Sum.inr y58=>
  some (Sum.inr (Sum.inr (0,[],y58,0,r50.2.2.2.2.2.2.2.2.1,r50.2.2.2.2.2.2.2.2.2.1)))
 else
 e112vadh qq vb9_0>>=fun r59=>
 match r59 with
 |Sum.inl y61=>
  some (Sum.inl ((LeafFound.mk false 0 [] y61),0,vb2_0,vb2_1))
 |Sum.inr y62=>
  some (Sum.inr (Sum.inr (0,[],y62,0,vb2_0,vb2_1)))
def e46Ldj:Nat->Mach->Int->Int->Int->Int->Int->(List FreeVar)->(List Tm)->(List Tm)->(List CoverKid)->Nat->Nat->(List (Int×Int))->(List Int)->(List Tm)->Option ((LeafFound×Int×Int×Int) ⊕ ((Int×List Tm×List Int×Nat×Nat×Int×Int×Int) ⊕ (Int×List Tm×List Int×Int×Int×Int)))
 |0,_,_,_,_,_,_,_,_,_,_,_,_,_,_,_=>none
 |qq+1,M,vb2_0,vb2_1,vb3_0,vb3_1,vb3_2,vb3_3,vb3_4,vb3_5,vb3_6,vb5_4_c,vb5_4_n,vb6_0,vb7_0,vb8_0=>
 if vb3_0==1 then
 e110vacn qq M.l M.rl M.parts M.args M.own vb2_0 vb2_1 vb6_0 vb7_0 vb8_0 vb5_4_n vb5_4_c (CoverTree.mk vb3_0 vb3_1 vb3_2 vb3_3 vb3_4 vb3_5 vb3_6)>>=fun r30=>
 some (Sum.inl (r30.1,r30.2,vb2_0,vb2_1))
 else
 if vb3_0==3 then
 e111vacn qq M.l M.rl M.parts M.args M.own vb2_0 vb2_1 vb6_0 vb7_0 vb8_0 vb5_4_n vb5_4_c (CoverTree.mk vb3_0 vb3_1 vb3_2 vb3_3 vb3_4 vb3_5 vb3_6)>>=fun r33=>
 match r33 with
 |Sum.inl y35=>
  if y35.2.1 then
  if y35.2.2.1 != 0 then
  some (Sum.inl ((LeafFound.mk false 0 [] []),y35.2.2.1,y35.2.2.2.2.2.2.2.1,y35.2.2.2.2.2.2.2.2.1))
  else
  e46Ldj qq M y35.2.2.2.2.2.2.2.1 y35.2.2.2.2.2.2.2.2.1 y35.1.kind_ y35.1.row_ y35.1.var_ y35.1.vars_ y35.1.binds_ y35.1.args_ y35.1.kids_ y35.2.2.2.2.2.2.1 y35.2.2.2.2.2.1 y35.2.2.2.2.2.2.2.2.2 y35.2.2.2.1 y35.2.2.2.2.1
  else
  if y35.2.2.1 != 0 then
  some (Sum.inl ((LeafFound.mk false 0 [] []),y35.2.2.1,y35.2.2.2.2.2.2.2.1,y35.2.2.2.2.2.2.2.2.1))
  else
  e112 qq []>>=fun r39=>
  some (Sum.inl ((LeafFound.mk false 0 [] r39),0,y35.2.2.2.2.2.2.2.1,y35.2.2.2.2.2.2.2.2.1))
 |Sum.inr y41=>
  if y41.2.1 then
  if y41.2.2.1 != 0 then
  some (Sum.inl ((LeafFound.mk false 0 [] []),y41.2.2.1,y41.2.2.2.2.2.2.2.2.1,y41.2.2.2.2.2.2.2.2.2.1))
  else
  e46Ldi qq M y41.2.2.2.2.2.2.2.2.1 y41.2.2.2.2.2.2.2.2.2.1 y41.1.kind_ y41.1.row_ y41.1.var_ y41.1.vars_ y41.1.binds_ y41.1.args_ y41.1.kids_ y41.2.2.2.2.2.2.1 y41.2.2.2.2.2.1 y41.2.2.2.2.2.2.2.2.2.2 y41.2.2.2.1 y41.2.2.2.2.1 y41.2.2.2.2.2.2.2.1
  else
  if y41.2.2.1 != 0 then
  some (Sum.inl ((LeafFound.mk false 0 [] []),y41.2.2.1,y41.2.2.2.2.2.2.2.2.1,y41.2.2.2.2.2.2.2.2.2.1))
  else
  e112vadh qq y41.2.2.2.2.2.2.2.1>>=fun r45=>
  match r45 with
  |Sum.inl y47=>
   some (Sum.inl ((LeafFound.mk false 0 [] y47),0,y41.2.2.2.2.2.2.2.2.1,y41.2.2.2.2.2.2.2.2.2.1))
  |Sum.inr y48=>
   some (Sum.inr (Sum.inr (0,[],y48,0,y41.2.2.2.2.2.2.2.2.1,y41.2.2.2.2.2.2.2.2.2.1)))
 else
 e112 qq []>>=fun r49=>
 some (Sum.inl ((LeafFound.mk false 0 [] r49),0,vb2_0,vb2_1))
def e46Ldk:Nat->Mach->CoverTree->(List Tm)->Int->Int->Int->Nat->Nat->(List (Int×Int))->(List Int)->(List Tm)->Option ((LeafFound×Int×Int×Int) ⊕ ((Int×List Tm×List Int×Nat×Nat×Int×Int×Int) ⊕ (Int×List Tm×List Int×Int×Int×Int)))
 |0,_,_,_,_,_,_,_,_,_,_,_=>none
 |qq+1,M,p1,p2,fl,fu,v31,vb5_4_c,vb5_4_n,vb6_0,vb7_0,vb8_0=>
 if decide (v31<(List.length p2:Int))then
 gidx p2 v31>>=fun x17=>
 e106 qq x17>>=fun r19=>
 if r19 then
 e108 qq M>>=fun r22=>
 e107 qq x17 0 r22>>=fun r24=>
 if r24 then
 e109vacg qq M.l M.rl M.parts M.args M.own fl fu vb6_0 vb7_0 vb8_0 vb5_4_n vb5_4_c [v31] [x17]>>=fun r27=>
 e46Ldk qq M p1 p2 fl fu (w64 (v31+1)) r27.2.2.2.1 r27.2.2.1 r27.2.2.2.2 r27.1 r27.2.1
 else
 some (Sum.inl ((LeafFound.mk false 0 [] []),5,fl,fu))
 else
 some (Sum.inl ((LeafFound.mk false 0 [] []),5,fl,fu))
 else
 e46Ldj qq M fl fu p1.kind_ p1.row_ p1.var_ p1.vars_ p1.binds_ p1.args_ p1.kids_ vb5_4_c vb5_4_n vb6_0 vb7_0 vb8_0
def e46Ldl:Nat->Mach->Int->Int->(List (Int×Int))->Int->Int->Int->(List FreeVar)->(List Tm)->(List Tm)->(List CoverKid)->Option ((LeafFound×Int×Int×Int) ⊕ ((Int×List Tm×List Int×Nat×Nat×Int×Int×Int) ⊕ (Int×List Tm×List Int×Int×Int×Int)))
 |0,_,_,_,_,_,_,_,_,_,_,_=>none
 |qq+1,M,fl,fu,vb6_0,vb3_0,vb3_1,vb3_2,vb3_3,vb3_4,vb3_5,vb3_6=>
 if vb3_0==1 then
 e110vacu qq M.l M.rl M.parts M.args M.own fl fu vb6_0 (CoverTree.mk vb3_0 vb3_1 vb3_2 vb3_3 vb3_4 vb3_5 vb3_6)>>=fun r18=>
 some (Sum.inl (r18.1,r18.2,fl,fu))
 else
 if vb3_0==3 then
 e111vacu qq M.l M.rl M.parts M.args M.own fl fu vb6_0 (CoverTree.mk vb3_0 vb3_1 vb3_2 vb3_3 vb3_4 vb3_5 vb3_6)>>=fun r21=>
 if r21.2.1 then
 if r21.2.2 != 0 then
 some (Sum.inl ((LeafFound.mk false 0 [] []),r21.2.2,fl,fu))
 else
 e46Ldl qq M fl fu vb6_0 r21.1.kind_ r21.1.row_ r21.1.var_ r21.1.vars_ r21.1.binds_ r21.1.args_ r21.1.kids_
 else
 if r21.2.2 != 0 then
 some (Sum.inl ((LeafFound.mk false 0 [] []),r21.2.2,fl,fu))
 else
 e112 qq []>>=fun r26=>
 some (Sum.inl ((LeafFound.mk false 0 [] r26),0,fl,fu))
 else
 e112 qq []>>=fun r28=>
 some (Sum.inl ((LeafFound.mk false 0 [] r28),0,fl,fu))
def e46Ldm:Nat->Mach->CoverTree->(List Tm)->Int->Int->Int->(List (Int×Int))->Option ((LeafFound×Int×Int×Int) ⊕ ((Int×List Tm×List Int×Nat×Nat×Int×Int×Int) ⊕ (Int×List Tm×List Int×Int×Int×Int)))
 |0,_,_,_,_,_,_,_=>none
 |qq+1,M,p1,p2,fl,fu,v31,vb6_0=>
 if decide (v31<(List.length p2:Int))then
 gidx p2 v31>>=fun x3=>
 e106 qq x3>>=fun r5=>
 if r5 then
 e108 qq M>>=fun r8=>
 e107 qq x3 0 r8>>=fun r10=>
 if r10 then
 e109vaci qq M.l M.rl M.parts M.args M.own fl fu vb6_0 [v31] [x3]>>=fun r13=>
 match r13 with
 |Sum.inl y15=>
  e46Ldk qq M p1 p2 fl fu (w64 (v31+1)) y15.2.2.2.1 y15.2.2.1 y15.2.2.2.2 y15.1 y15.2.1
 |Sum.inr y16=>
  e46Ldm qq M p1 p2 fl fu (w64 (v31+1)) y16
 else
 some (Sum.inl ((LeafFound.mk false 0 [] []),5,fl,fu))
 else
 some (Sum.inl ((LeafFound.mk false 0 [] []),5,fl,fu))
 else
 e46Ldl qq M fl fu vb6_0 p1.kind_ p1.row_ p1.var_ p1.vars_ p1.binds_ p1.args_ p1.kids_
def e46(qq:Nat)(M:Mach)(p1:CoverTree)(p2:List Tm)(fl fu:Int):Option ((LeafFound×Int×Int×Int) ⊕ ((Int×List Tm×List Int×Nat×Nat×Int×Int×Int) ⊕ (Int×List Tm×List Int×Int×Int×Int))):=
 if decide ((List.length p2:Int)>24)then
 some (Sum.inl ((LeafFound.mk false 0 [] []),5,fl,fu))
 else
 e46Ldm qq M p1 p2 fl fu 0 ([]:List (Int×Int))
def g46LdmE0(j:Nat->Value)(M:Mach)(p1:CoverTree)(p2:List Tm)(fl fu v31:Int)(vb6_0:List (Int×Int)):=sp j 84 0 [(0,.mp 0 0),(5,.mp 3 0),(8,.mp 4 0),(10,.mp 5 0),(29,slv tmCells p2 .no),(30,ai (List.length p2:Int)),(31,ai v31)]
def g46LdmS0(M:Mach)(p1:CoverTree)(p2:List Tm)(fl fu v31:Int)(vb6_0:List (Int×Int)):LSt:=⟨[(0,mB M 1),(1,mR M),(2,.cells [ai fl,ai fu]),(3,.cells [ai p1.kind_,ai p1.row_,ai p1.var_,slv freeVarL p1.vars_ .no,slv tmCells p1.binds_ .no,slv tmCells p1.args_ .no,slv coverKidC p1.kids_ .no]),(4,.cells [ab false,ai 0,slv tmCells ([]:List Tm) .nl,slv intC ([]:List Int) .nl]),(5,.cells [.mp 0 0,.mp 2 0,.obj 6,slv intC ([]:List Int) .nl,slv tmCells ([]:List Tm) .nl,slv intC ([]:List Int) .nl]),(6,imap vb6_0)],7,[],0,[]⟩
def g46LdkE0(j:Nat->Value)(M:Mach)(p1:CoverTree)(p2:List Tm)(fl fu v31:Int)(vb5_4_c vb5_4_n:Nat)(vb6_0:List (Int×Int))(vb7_0:List Int)(vb8_0:List Tm):=sp j 84 0 [(0,.mp 0 0),(5,.mp 3 0),(8,.mp 4 0),(10,.mp 5 0),(29,slv tmCells p2 .no),(30,ai (List.length p2:Int)),(31,ai v31)]
def g46LdkS0(M:Mach)(p1:CoverTree)(p2:List Tm)(fl fu v31:Int)(vb5_4_c vb5_4_n:Nat)(vb6_0:List (Int×Int))(vb7_0:List Int)(vb8_0:List Tm):LSt:=⟨[(0,mB M 1),(1,mR M),(2,.cells [ai fl,ai fu]),(3,.cells [ai p1.kind_,ai p1.row_,ai p1.var_,slv freeVarL p1.vars_ .no,slv tmCells p1.binds_ .no,slv tmCells p1.args_ .no,slv coverKidC p1.kids_ .no]),(4,.cells [ab false,ai 0,slv tmCells ([]:List Tm) .nl,slv intC ([]:List Int) .nl]),(5,.cells [.mp 0 0,.mp 2 0,.obj 6,.ms 7 0 (List.length vb7_0) (List.length vb7_0) 1,.ms 8 0 vb5_4_n vb5_4_c 3,slv intC ([]:List Int) .nl]),(6,imap vb6_0),(7,.row (flat intC vb7_0)),(8,.row (flat tmCells vb8_0))],9,[],0,[]⟩
def g46LdjE0(j:Nat->Value)(M:Mach)(vb2_0 vb2_1 vb3_0 vb3_1 vb3_2:Int)(vb3_3:List FreeVar)(vb3_4 vb3_5:List Tm)(vb3_6:List CoverKid)(vb5_4_c vb5_4_n:Nat)(vb6_0:List (Int×Int))(vb7_0:List Int)(vb8_0:List Tm):=sp j 84 0 [(5,.mp 3 0),(8,.mp 4 0),(10,.mp 5 0)]
def g46LdjS0(M:Mach)(vb2_0 vb2_1 vb3_0 vb3_1 vb3_2:Int)(vb3_3:List FreeVar)(vb3_4 vb3_5:List Tm)(vb3_6:List CoverKid)(vb5_4_c vb5_4_n:Nat)(vb6_0:List (Int×Int))(vb7_0:List Int)(vb8_0:List Tm):LSt:=⟨[(0,mB M 1),(1,mR M),(2,.cells [ai vb2_0,ai vb2_1]),(3,.cells [ai vb3_0,ai vb3_1,ai vb3_2,slv freeVarL vb3_3 .no,slv tmCells vb3_4 .no,slv tmCells vb3_5 .no,slv coverKidC vb3_6 .no]),(4,.cells [ab false,ai 0,slv tmCells ([]:List Tm) .nl,slv intC ([]:List Int) .nl]),(5,.cells [.mp 0 0,.mp 2 0,.obj 6,.ms 7 0 (List.length vb7_0) (List.length vb7_0) 1,.ms 8 0 vb5_4_n vb5_4_c 3,slv intC ([]:List Int) .nl]),(6,imap vb6_0),(7,.row (flat intC vb7_0)),(8,.row (flat tmCells vb8_0))],9,[],0,[]⟩
def g46LdiE0(j:Nat->Value)(M:Mach)(vb2_0 vb2_1 vb3_0 vb3_1 vb3_2:Int)(vb3_3:List FreeVar)(vb3_4 vb3_5:List Tm)(vb3_6:List CoverKid)(vb5_4_c vb5_4_n:Nat)(vb6_0:List (Int×Int))(vb7_0:List Int)(vb8_0:List Tm)(vb9_0:List Int):=sp j 84 0 [(5,.mp 3 0),(8,.mp 4 0),(10,.mp 5 0)]
def g46LdiS0(M:Mach)(vb2_0 vb2_1 vb3_0 vb3_1 vb3_2:Int)(vb3_3:List FreeVar)(vb3_4 vb3_5:List Tm)(vb3_6:List CoverKid)(vb5_4_c vb5_4_n:Nat)(vb6_0:List (Int×Int))(vb7_0:List Int)(vb8_0:List Tm)(vb9_0:List Int):LSt:=⟨[(0,mB M 1),(1,mR M),(2,.cells [ai vb2_0,ai vb2_1]),(3,.cells [ai vb3_0,ai vb3_1,ai vb3_2,slv freeVarL vb3_3 .no,slv tmCells vb3_4 .no,slv tmCells vb3_5 .no,slv coverKidC vb3_6 .no]),(4,.cells [ab false,ai 0,slv tmCells ([]:List Tm) .nl,slv intC ([]:List Int) .nl]),(5,.cells [.mp 0 0,.mp 2 0,.obj 6,.ms 7 0 (List.length vb7_0) (List.length vb7_0) 1,.ms 8 0 vb5_4_n vb5_4_c 3,.ms 9 0 (List.length vb9_0) (List.length vb9_0) 1]),(6,imap vb6_0),(7,.row (flat intC vb7_0)),(8,.row (flat tmCells vb8_0)),(9,.row (flat intC vb9_0))],10,[],0,[]⟩
def g46LdlE0(j:Nat->Value)(M:Mach)(fl fu:Int)(vb6_0:List (Int×Int))(vb3_0 vb3_1 vb3_2:Int)(vb3_3:List FreeVar)(vb3_4 vb3_5:List Tm)(vb3_6:List CoverKid):=sp j 84 0 [(5,.mp 3 0),(8,.mp 4 0),(10,.mp 5 0)]
def g46LdlS0(M:Mach)(fl fu:Int)(vb6_0:List (Int×Int))(vb3_0 vb3_1 vb3_2:Int)(vb3_3:List FreeVar)(vb3_4 vb3_5:List Tm)(vb3_6:List CoverKid):LSt:=⟨[(0,mB M 1),(1,mR M),(2,.cells [ai fl,ai fu]),(3,.cells [ai vb3_0,ai vb3_1,ai vb3_2,slv freeVarL vb3_3 .no,slv tmCells vb3_4 .no,slv tmCells vb3_5 .no,slv coverKidC vb3_6 .no]),(4,.cells [ab false,ai 0,slv tmCells ([]:List Tm) .nl,slv intC ([]:List Int) .nl]),(5,.cells [.mp 0 0,.mp 2 0,.obj 6,slv intC ([]:List Int) .nl,slv tmCells ([]:List Tm) .nl,slv intC ([]:List Int) .nl]),(6,imap vb6_0)],7,[],0,[]⟩
abbrev K46s0 (M:Mach) (p1:CoverTree) (p2:List Tm) (fl fu:Int) (r:LeafFound×Int×Int×Int) (C:Cf):Prop:=C 46 [mB M 1,mR M,.cells [ai fl,ai fu]] [.mp 0 0,coverTreeA p1,slv tmCells p2 .no,.mp 2 0] (.tup [leafFoundA r.1,ai r.2.1]) [mB M 1,mR M,.cells [ai r.2.2.1,ai r.2.2.2]] 0
abbrev K46s1 (M:Mach) (p1:CoverTree) (p2:List Tm) (fl fu:Int) (r:Int×List Tm×List Int×Nat×Nat×Int×Int×Int) (C:Cf):Prop:=C 46 [mB M 1,mR M,.cells [ai fl,ai fu]] [.mp 0 0,coverTreeA p1,slv tmCells p2 .no,.mp 2 0] (.tup [.agg [ab true,ai r.1,slv tmCells r.2.1 .no,.ms 3 0 r.2.2.2.1 r.2.2.2.2.1 1],ai r.2.2.2.2.2.1]) [mB M 1,mR M,.cells [ai r.2.2.2.2.2.2.1,ai r.2.2.2.2.2.2.2],.row (flat intC r.2.2.1)] 0
abbrev K46s2 (M:Mach) (p1:CoverTree) (p2:List Tm) (fl fu:Int) (r:Int×List Tm×List Int×Int×Int×Int) (C:Cf):Prop:=C 46 [mB M 1,mR M,.cells [ai fl,ai fu]] [.mp 0 0,coverTreeA p1,slv tmCells p2 .no,.mp 2 0] (.tup [.agg [ab false,ai r.1,slv tmCells r.2.1 .no,.ms 3 0 (List.length r.2.2.1) (List.length r.2.2.1) 1],ai r.2.2.2.1]) [mB M 1,mR M,.cells [ai r.2.2.2.2.1,ai r.2.2.2.2.2],.row (flat intC r.2.2.1)] 0
theorem q46:Qf 46 Tryz.f46:=⟨Tryz.func46,by kernel_rfl⟩
theorem k46s0{M p1 p2 fl fu r}(h:K46s0 M p1 p2 fl fu r Ci):K46s0 M p1 p2 fl fu r Ct:=⟨h,⟨(lz rfl),⟨tv,tv,tv,⟨tv,dFreeVar _⟩,⟨tv,dT _⟩,⟨tv,dT _⟩,⟨tv,dCoverKid _⟩,tv⟩,⟨tv,dT _⟩,(lz rfl),tv⟩,(forall_cons ⟨⟨tv,dE _⟩,(lz rfl),⟨tv,dI _⟩,⟨tv,dI _⟩,tv⟩ (forall_cons ⟨⟨tv,dE _⟩,⟨tv,dC _⟩,tv⟩ (forall_cons ⟨tv,tv,tv⟩ forall_nil))),⟨⟨tv,tv,dT _,dI _,tv⟩,tv,tv⟩,(forall_cons ⟨dE _,(lz rfl),dI _,dI _,tv⟩ (forall_cons ⟨dE _,dC _,tv⟩ (forall_cons ⟨tv,tv,tv⟩ forall_nil)))⟩
theorem k46s1{M p1 p2 fl fu r}(h:K46s1 M p1 p2 fl fu r Ci):K46s1 M p1 p2 fl fu r Ct:=⟨h,⟨(lz rfl),⟨tv,tv,tv,⟨tv,dFreeVar _⟩,⟨tv,dT _⟩,⟨tv,dT _⟩,⟨tv,dCoverKid _⟩,tv⟩,⟨tv,dT _⟩,(lz rfl),tv⟩,(forall_cons ⟨⟨tv,dE _⟩,(lz rfl),⟨tv,dI _⟩,⟨tv,dI _⟩,tv⟩ (forall_cons ⟨⟨tv,dE _⟩,⟨tv,dC _⟩,tv⟩ (forall_cons ⟨tv,tv,tv⟩ forall_nil))),⟨⟨tv,tv,dT _,(lz rfl),tv⟩,tv,tv⟩,(forall_cons ⟨dE _,(lz rfl),dI _,dI _,tv⟩ (forall_cons ⟨dE _,dC _,tv⟩ (forall_cons ⟨tv,tv,tv⟩ (forall_cons (dI _) forall_nil))))⟩
theorem k46s2{M p1 p2 fl fu r}(h:K46s2 M p1 p2 fl fu r Ci):K46s2 M p1 p2 fl fu r Ct:=⟨h,⟨(lz rfl),⟨tv,tv,tv,⟨tv,dFreeVar _⟩,⟨tv,dT _⟩,⟨tv,dT _⟩,⟨tv,dCoverKid _⟩,tv⟩,⟨tv,dT _⟩,(lz rfl),tv⟩,(forall_cons ⟨⟨tv,dE _⟩,(lz rfl),⟨tv,dI _⟩,⟨tv,dI _⟩,tv⟩ (forall_cons ⟨⟨tv,dE _⟩,⟨tv,dC _⟩,tv⟩ (forall_cons ⟨tv,tv,tv⟩ forall_nil))),⟨⟨tv,tv,dT _,(lz rfl),tv⟩,tv,tv⟩,(forall_cons ⟨dE _,(lz rfl),dI _,dI _,tv⟩ (forall_cons ⟨dE _,dC _,tv⟩ (forall_cons ⟨tv,tv,tv⟩ (forall_cons (dI _) forall_nil))))⟩
theorem l46Ldi:∀qq:Nat,(∀M vb2_0 vb2_1 vb3_0 vb3_1 vb3_2 vb3_3 vb3_4 vb3_5 vb3_6 vb5_4_c vb5_4_n vb6_0 vb7_0 vb8_0 vb9_0 r,e46Ldi qq M vb2_0 vb2_1 vb3_0 vb3_1 vb3_2 vb3_3 vb3_4 vb3_5 vb3_6 vb5_4_c vb5_4_n vb6_0 vb7_0 vb8_0 vb9_0=some r->(∀j,Dl Tryz.prog 3 (inn (inn (lft (rgt (rgt (rgt (rgt (inn (rgt (bod Tryz.f46)))))))))) (g46LdiE0 j M vb2_0 vb2_1 vb3_0 vb3_1 vb3_2 vb3_3 vb3_4 vb3_5 vb3_6 vb5_4_c vb5_4_n vb6_0 vb7_0 vb8_0 vb9_0) (g46LdiS0 M vb2_0 vb2_1 vb3_0 vb3_1 vb3_2 vb3_3 vb3_4 vb3_5 vb3_6 vb5_4_c vb5_4_n vb6_0 vb7_0 vb8_0 vb9_0) (frameQ Tryz.prog 3 ((match (generalizing:=false) r with|Sum.inl x=>FinQ Tryz.prog 3 Tryz.f46 (.tup [leafFoundA x.1,ai x.2.1]) [mB M 1,mR M,.cells [ai x.2.2.1,ai x.2.2.2]] 0|Sum.inr (Sum.inl x)=>FinQ Tryz.prog 3 Tryz.f46 (.tup [.agg [ab true,ai x.1,slv tmCells x.2.1 .no,.ms 3 0 x.2.2.2.1 x.2.2.2.2.1 1],ai x.2.2.2.2.2.1]) [mB M 1,mR M,.cells [ai x.2.2.2.2.2.2.1,ai x.2.2.2.2.2.2.2],.row (flat intC x.2.2.1)] 0|Sum.inr (Sum.inr x)=>FinQ Tryz.prog 3 Tryz.f46 (.tup [.agg [ab false,ai x.1,slv tmCells x.2.1 .no,.ms 3 0 (List.length x.2.2.1) (List.length x.2.2.1) 1],ai x.2.2.2.1]) [mB M 1,mR M,.cells [ai x.2.2.2.2.1,ai x.2.2.2.2.2],.row (flat intC x.2.2.1)] 0)) [.blk 2,.seq (rgt (rgt (rgt (rgt (rgt (inn (rgt (bod Tryz.f46))))))))]))):=by
 intro qq
 induction qq with
 |zero=>
  exact fun _ _ _ _ _ _ _ _ _ _ _ _ _ _ _ _ _ h=>nn h
 |succ qq ih=>
  intro M vb2_0 vb2_1 vb3_0 vb3_1 vb3_2 vb3_3 vb3_4 vb3_5 vb3_6 vb5_4_c vb5_4_n vb6_0 vb7_0 vb8_0 vb9_0 r h
  rw[e46Ldi]at h
  rcases spl h with⟨h44,h⟩|⟨h44,h⟩
  obtain⟨r45,h46,h⟩:=obind h
  have k:=oB 1 h44 o0
  rcases r45 with y47|y48
  dsimp only at h
  obtain rfl:=sj h
  exact fun j=>lF 3 [0,1,2] (oD (dI y47.1.path_)<|oD (dT y47.1.binds_)<|oD (dC M.parts)<|oD (dE M.rl)<|oD (dI M.own)<|oD (dI M.args)<|oD (dE M.l)<|oC 1 [5,0,1,2,6,7,8,9] (c110vacy h46) k)
  dsimp only at h
  obtain rfl:=sj h
  exact fun j=>lF 3 [0,1,2,9] (oD (dT y48.2.1)<|oD (dI vb9_0)<|oD (dC M.parts)<|oD (dE M.rl)<|oD (dI M.own)<|oD (dI M.args)<|oD (dE M.l)<|oC 1 [5,0,1,2,6,7,8,9] (c110vacy h46) k)
  have k:=oB 1 h44 o0
  rcases spl h with⟨h49,h⟩|⟨h49,h⟩
  obtain⟨r50,h51,h⟩:=obind h
  have k:=oC 1 [5,0,1,2,6,7,8,9] (c111vacy h51)<|oB 0 h49 k
  rcases spl h with⟨h52,h⟩|⟨h52,h⟩
  have k:=oB 1 h52 k
  rcases spl h with⟨h53,h⟩|⟨h53,h⟩
  obtain rfl:=sj h
  exact fun j=>lF 1 [0,1,2] (oD (dI ([]:List Int))<|oD (dT ([]:List Tm))<|oD (dC M.parts)<|oD (dE M.rl)<|oD (dI M.own)<|oD (dI M.args)<|oD (dE M.l)<|oB 2 h53 k)
  exact fun j=>lH 2 [] [0,1,2,3,4,5,6,10,11,12] [] [5,8,10] (oD (dI r50.2.2.2.2.2.2.2.1)<|oD (dT r50.2.2.2.2.1)<|oD (dI r50.2.2.2.1)<|oD (dI ([]:List Int))<|oD (dT ([]:List Tm))<|oD (dCoverKid r50.1.kids_)<|oD (dT r50.1.args_)<|oD (dT r50.1.binds_)<|oD (dFreeVar r50.1.vars_)<|oD (dC M.parts)<|oD (dE M.rl)<|oD (dI M.own)<|oD (dI M.args)<|oD (dE M.l)<|oB 2 h53 k) (ih _ _ _ _ _ _ _ _ _ _ _ _ _ _ _ _ _ h)
  have k:=oB 1 h52 k
  rcases spl h with⟨h54,h⟩|⟨h54,h⟩
  obtain rfl:=sj h
  exact fun j=>lF 1 [0,1,2] (oD (dI ([]:List Int))<|oD (dT ([]:List Tm))<|oD (dC M.parts)<|oD (dE M.rl)<|oD (dI M.own)<|oD (dI M.args)<|oD (dE M.l)<|oB 2 h54 k)
  obtain⟨r55,h56,h⟩:=obind h
  have k:=oB 2 h54 k
  rcases r55 with y57|y58
  dsimp only at h
  obtain rfl:=sj h
  exact fun j=>lF 1 [0,1,2] (oD (dI y57)<|oD (dT ([]:List Tm))<|oD (dC M.parts)<|oD (dE M.rl)<|oD (dI M.own)<|oD (dI M.args)<|oD (dE M.l)<|oC 1 [12] (c112vadh h56) k)
  dsimp only at h
  obtain rfl:=sj h
  exact fun j=>lF 1 [0,1,2,14] (oD (dT ([]:List Tm))<|oD (dI y58)<|oD (dC M.parts)<|oD (dE M.rl)<|oD (dI M.own)<|oD (dI M.args)<|oD (dE M.l)<|oC 1 [12] (c112vadh h56) k)
  obtain⟨r59,h60,h⟩:=obind h
  have k:=oB 0 h49 k
  rcases r59 with y61|y62
  dsimp only at h
  obtain rfl:=sj h
  exact fun j=>lF 1 [0,1,2] (oD (dI y61)<|oD (dT ([]:List Tm))<|oD (dC M.parts)<|oD (dE M.rl)<|oD (dI M.own)<|oD (dI M.args)<|oD (dE M.l)<|oC 1 [9] (c112vadh h60) k)
  dsimp only at h
  obtain rfl:=sj h
  exact fun j=>lF 1 [0,1,2,10] (oD (dT ([]:List Tm))<|oD (dI y62)<|oD (dC M.parts)<|oD (dE M.rl)<|oD (dI M.own)<|oD (dI M.args)<|oD (dE M.l)<|oC 1 [9] (c112vadh h60) k)
theorem l46Ldj:∀qq:Nat,(∀M vb2_0 vb2_1 vb3_0 vb3_1 vb3_2 vb3_3 vb3_4 vb3_5 vb3_6 vb5_4_c vb5_4_n vb6_0 vb7_0 vb8_0 r,e46Ldj qq M vb2_0 vb2_1 vb3_0 vb3_1 vb3_2 vb3_3 vb3_4 vb3_5 vb3_6 vb5_4_c vb5_4_n vb6_0 vb7_0 vb8_0=some r->(∀j,Dl Tryz.prog 3 (inn (inn (lft (rgt (rgt (rgt (rgt (inn (rgt (bod Tryz.f46)))))))))) (g46LdjE0 j M vb2_0 vb2_1 vb3_0 vb3_1 vb3_2 vb3_3 vb3_4 vb3_5 vb3_6 vb5_4_c vb5_4_n vb6_0 vb7_0 vb8_0) (g46LdjS0 M vb2_0 vb2_1 vb3_0 vb3_1 vb3_2 vb3_3 vb3_4 vb3_5 vb3_6 vb5_4_c vb5_4_n vb6_0 vb7_0 vb8_0) (frameQ Tryz.prog 3 ((match (generalizing:=false) r with|Sum.inl x=>FinQ Tryz.prog 3 Tryz.f46 (.tup [leafFoundA x.1,ai x.2.1]) [mB M 1,mR M,.cells [ai x.2.2.1,ai x.2.2.2]] 0|Sum.inr (Sum.inl x)=>FinQ Tryz.prog 3 Tryz.f46 (.tup [.agg [ab true,ai x.1,slv tmCells x.2.1 .no,.ms 3 0 x.2.2.2.1 x.2.2.2.2.1 1],ai x.2.2.2.2.2.1]) [mB M 1,mR M,.cells [ai x.2.2.2.2.2.2.1,ai x.2.2.2.2.2.2.2],.row (flat intC x.2.2.1)] 0|Sum.inr (Sum.inr x)=>FinQ Tryz.prog 3 Tryz.f46 (.tup [.agg [ab false,ai x.1,slv tmCells x.2.1 .no,.ms 3 0 (List.length x.2.2.1) (List.length x.2.2.1) 1],ai x.2.2.2.1]) [mB M 1,mR M,.cells [ai x.2.2.2.2.1,ai x.2.2.2.2.2],.row (flat intC x.2.2.1)] 0)) [.blk 2,.seq (rgt (rgt (rgt (rgt (rgt (inn (rgt (bod Tryz.f46))))))))]))):=by
 intro qq
 induction qq with
 |zero=>
  exact fun _ _ _ _ _ _ _ _ _ _ _ _ _ _ _ _ h=>nn h
 |succ qq ih=>
  intro M vb2_0 vb2_1 vb3_0 vb3_1 vb3_2 vb3_3 vb3_4 vb3_5 vb3_6 vb5_4_c vb5_4_n vb6_0 vb7_0 vb8_0 r h
  rw[e46Ldj]at h
  rcases spl h with⟨h29,h⟩|⟨h29,h⟩
  obtain⟨r30,h31,h⟩:=obind h
  obtain rfl:=sj h
  exact fun j=>lF 3 [0,1,2] (oD (dI r30.1.path_)<|oD (dT r30.1.binds_)<|oD (dC M.parts)<|oD (dE M.rl)<|oD (dI M.own)<|oD (dI M.args)<|oD (dE M.l)<|oC 1 [5,0,1,2,6,7,8] (c110vacn h31)<|oB 1 h29 o0)
  have k:=oB 1 h29 o0
  rcases spl h with⟨h32,h⟩|⟨h32,h⟩
  obtain⟨r33,h34,h⟩:=obind h
  have k:=oB 0 h32 k
  rcases r33 with y35|y41
  dsimp only at h
  have k:=oC 1 [5,0,1,2,6,7,8] (c111vacn h34) k
  rcases spl h with⟨h36,h⟩|⟨h36,h⟩
  have k:=oB 1 h36 k
  rcases spl h with⟨h37,h⟩|⟨h37,h⟩
  obtain rfl:=sj h
  exact fun j=>lF 1 [0,1,2] (oD (dI ([]:List Int))<|oD (dT ([]:List Tm))<|oD (dC M.parts)<|oD (dE M.rl)<|oD (dI M.own)<|oD (dI M.args)<|oD (dE M.l)<|oB 2 h37 k)
  exact fun j=>lH 2 [] [0,1,2,3,4,5,6,9,10] [] [5,8,10] (oD (dT y35.2.2.2.2.1)<|oD (dI y35.2.2.2.1)<|oD (dI ([]:List Int))<|oD (dI ([]:List Int))<|oD (dT ([]:List Tm))<|oD (dCoverKid y35.1.kids_)<|oD (dT y35.1.args_)<|oD (dT y35.1.binds_)<|oD (dFreeVar y35.1.vars_)<|oD (dC M.parts)<|oD (dE M.rl)<|oD (dI M.own)<|oD (dI M.args)<|oD (dE M.l)<|oB 2 h37 k) (ih _ _ _ _ _ _ _ _ _ _ _ _ _ _ _ _ h)
  have k:=oB 1 h36 k
  rcases spl h with⟨h38,h⟩|⟨h38,h⟩
  obtain rfl:=sj h
  exact fun j=>lF 1 [0,1,2] (oD (dI ([]:List Int))<|oD (dT ([]:List Tm))<|oD (dC M.parts)<|oD (dE M.rl)<|oD (dI M.own)<|oD (dI M.args)<|oD (dE M.l)<|oB 2 h38 k)
  obtain⟨r39,h40,h⟩:=obind h
  obtain rfl:=sj h
  exact fun j=>lF 1 [0,1,2] (oD (dI r39)<|oD (dT ([]:List Tm))<|oD (dC M.parts)<|oD (dE M.rl)<|oD (dI M.own)<|oD (dI M.args)<|oD (dE M.l)<|oC 1 [] (c112 h40)<|oB 2 h38 k)
  dsimp only at h
  have k:=oC 1 [5,0,1,2,6,7,8] (c111vacn h34) k
  rcases spl h with⟨h42,h⟩|⟨h42,h⟩
  have k:=oB 1 h42 k
  rcases spl h with⟨h43,h⟩|⟨h43,h⟩
  obtain rfl:=sj h
  exact fun j=>lF 1 [0,1,2] (oD (dI ([]:List Int))<|oD (dT ([]:List Tm))<|oD (dC M.parts)<|oD (dE M.rl)<|oD (dI M.own)<|oD (dI M.args)<|oD (dE M.l)<|oB 2 h43 k)
  exact fun j=>lH 2 [] [0,1,2,3,4,5,6,9,10,11] [] [5,8,10] (oD (dI y41.2.2.2.2.2.2.2.1)<|oD (dT y41.2.2.2.2.1)<|oD (dI y41.2.2.2.1)<|oD (dI ([]:List Int))<|oD (dT ([]:List Tm))<|oD (dCoverKid y41.1.kids_)<|oD (dT y41.1.args_)<|oD (dT y41.1.binds_)<|oD (dFreeVar y41.1.vars_)<|oD (dC M.parts)<|oD (dE M.rl)<|oD (dI M.own)<|oD (dI M.args)<|oD (dE M.l)<|oB 2 h43 k) (l46Ldi _ _ _ _ _ _ _ _ _ _ _ _ _ _ _ _ _ _ h)
  have k:=oB 1 h42 k
  rcases spl h with⟨h44,h⟩|⟨h44,h⟩
  obtain rfl:=sj h
  exact fun j=>lF 1 [0,1,2] (oD (dI ([]:List Int))<|oD (dT ([]:List Tm))<|oD (dC M.parts)<|oD (dE M.rl)<|oD (dI M.own)<|oD (dI M.args)<|oD (dE M.l)<|oB 2 h44 k)
  obtain⟨r45,h46,h⟩:=obind h
  have k:=oB 2 h44 k
  rcases r45 with y47|y48
  dsimp only at h
  obtain rfl:=sj h
  exact fun j=>lF 1 [0,1,2] (oD (dI y47)<|oD (dT ([]:List Tm))<|oD (dC M.parts)<|oD (dE M.rl)<|oD (dI M.own)<|oD (dI M.args)<|oD (dE M.l)<|oC 1 [11] (c112vadh h46) k)
  dsimp only at h
  obtain rfl:=sj h
  exact fun j=>lF 1 [0,1,2,13] (oD (dT ([]:List Tm))<|oD (dI y48)<|oD (dC M.parts)<|oD (dE M.rl)<|oD (dI M.own)<|oD (dI M.args)<|oD (dE M.l)<|oC 1 [11] (c112vadh h46) k)
  obtain⟨r49,h50,h⟩:=obind h
  obtain rfl:=sj h
  exact fun j=>lF 1 [0,1,2] (oD (dI r49)<|oD (dT ([]:List Tm))<|oD (dC M.parts)<|oD (dE M.rl)<|oD (dI M.own)<|oD (dI M.args)<|oD (dE M.l)<|oC 1 [] (c112 h50)<|oB 0 h32 k)
theorem l46Ldk:∀qq:Nat,(∀M p1 p2 fl fu v31 vb5_4_c vb5_4_n vb6_0 vb7_0 vb8_0 r,e46Ldk qq M p1 p2 fl fu v31 vb5_4_c vb5_4_n vb6_0 vb7_0 vb8_0=some r->(∀j,Dl Tryz.prog 3 (inn (inn (rgt (lft (rgt (rgt (inn (rgt (bod Tryz.f46))))))))) (g46LdkE0 j M p1 p2 fl fu v31 vb5_4_c vb5_4_n vb6_0 vb7_0 vb8_0) (g46LdkS0 M p1 p2 fl fu v31 vb5_4_c vb5_4_n vb6_0 vb7_0 vb8_0) (frameQ Tryz.prog 3 ((match (generalizing:=false) r with|Sum.inl x=>FinQ Tryz.prog 3 Tryz.f46 (.tup [leafFoundA x.1,ai x.2.1]) [mB M 1,mR M,.cells [ai x.2.2.1,ai x.2.2.2]] 0|Sum.inr (Sum.inl x)=>FinQ Tryz.prog 3 Tryz.f46 (.tup [.agg [ab true,ai x.1,slv tmCells x.2.1 .no,.ms 3 0 x.2.2.2.1 x.2.2.2.2.1 1],ai x.2.2.2.2.2.1]) [mB M 1,mR M,.cells [ai x.2.2.2.2.2.2.1,ai x.2.2.2.2.2.2.2],.row (flat intC x.2.2.1)] 0|Sum.inr (Sum.inr x)=>FinQ Tryz.prog 3 Tryz.f46 (.tup [.agg [ab false,ai x.1,slv tmCells x.2.1 .no,.ms 3 0 (List.length x.2.2.1) (List.length x.2.2.1) 1],ai x.2.2.2.1]) [mB M 1,mR M,.cells [ai x.2.2.2.2.1,ai x.2.2.2.2.2],.row (flat intC x.2.2.1)] 0)) [.blk 0,.seq (rgt (rgt (rgt (inn (rgt (bod Tryz.f46))))))]))):=by
 intro qq
 induction qq with
 |zero=>
  exact fun _ _ _ _ _ _ _ _ _ _ _ _ h=>nn h
 |succ qq ih=>
  intro M p1 p2 fl fu v31 vb5_4_c vb5_4_n vb6_0 vb7_0 vb8_0 r h
  rw[e46Ldk]at h
  rcases spl h with⟨h16,h⟩|⟨h16,h⟩
  obtain⟨x17,h18,h⟩:=obind h
  obtain⟨r19,h20,h⟩:=obind h
  have k:=oA 0 (ix23 (o:=.no) h18)<|oB 0 h16 o0
  rcases spl h with⟨h21,h⟩|⟨h21,h⟩
  obtain⟨r22,h23,h⟩:=obind h
  obtain⟨r24,h25,h⟩:=obind h
  have k:=oC 2 [0,1] (c108 h23)<|oK 3 [] h21 (c106 h20) k
  rcases spl h with⟨h26,h⟩|⟨h26,h⟩
  obtain⟨r27,h28,h⟩:=obind h
  exact fun j=>lH 1 [] [0,1,2,3,4,5,6,10,11] [] [0,5,8,10,29,30,31] (oD (dT p2)<|oD (dT r27.2.1)<|oD (dI r27.1)<|oD (dI ([]:List Int))<|oD (dI ([]:List Int))<|oD (dT ([]:List Tm))<|oD (dCoverKid p1.kids_)<|oD (dT p1.args_)<|oD (dT p1.binds_)<|oD (dFreeVar p1.vars_)<|oD (dC M.parts)<|oD (dE M.rl)<|oD (dI M.own)<|oD (dI M.args)<|oD (dE M.l)<|oC 0 [5,0,1,2,6,7,8] (c109vacg h28)<|oS 3 (obLitR tm_eq [x17])<|oK 0 [] h26 (c107 h25) k) (ih _ _ _ _ _ _ _ _ _ _ _ _ h)
  obtain rfl:=sj h
  exact fun j=>lF 2 [0,1,2] (oD (dI ([]:List Int))<|oD (dT ([]:List Tm))<|oD (dC M.parts)<|oD (dE M.rl)<|oD (dI M.own)<|oD (dI M.args)<|oD (dE M.l)<|oK 0 [] h26 (c107 h25) k)
  obtain rfl:=sj h
  exact fun j=>lF 2 [0,1,2] (oD (dI ([]:List Int))<|oD (dT ([]:List Tm))<|oD (dC M.parts)<|oD (dE M.rl)<|oD (dI M.own)<|oD (dI M.args)<|oD (dE M.l)<|oK 3 [] h21 (c106 h20) k)
  exact fun j=>lH 0 [] [0,1,2,3,4,5,6,7,8] [] [5,8,10] (oD (dT vb8_0)<|oD (dI vb7_0)<|oD (dI ([]:List Int))<|oD (dI ([]:List Int))<|oD (dT ([]:List Tm))<|oD (dCoverKid p1.kids_)<|oD (dT p1.args_)<|oD (dT p1.binds_)<|oD (dFreeVar p1.vars_)<|oD (dC M.parts)<|oD (dE M.rl)<|oD (dI M.own)<|oD (dI M.args)<|oD (dE M.l)<|oB 0 h16 o0) (l46Ldj _ _ _ _ _ _ _ _ _ _ _ _ _ _ _ _ _ h)
theorem l46Ldl:∀qq:Nat,(∀M fl fu vb6_0 vb3_0 vb3_1 vb3_2 vb3_3 vb3_4 vb3_5 vb3_6 r,e46Ldl qq M fl fu vb6_0 vb3_0 vb3_1 vb3_2 vb3_3 vb3_4 vb3_5 vb3_6=some r->(∀j,Dl Tryz.prog 3 (inn (inn (lft (rgt (rgt (rgt (rgt (inn (rgt (bod Tryz.f46)))))))))) (g46LdlE0 j M fl fu vb6_0 vb3_0 vb3_1 vb3_2 vb3_3 vb3_4 vb3_5 vb3_6) (g46LdlS0 M fl fu vb6_0 vb3_0 vb3_1 vb3_2 vb3_3 vb3_4 vb3_5 vb3_6) (frameQ Tryz.prog 3 ((match (generalizing:=false) r with|Sum.inl x=>FinQ Tryz.prog 3 Tryz.f46 (.tup [leafFoundA x.1,ai x.2.1]) [mB M 1,mR M,.cells [ai x.2.2.1,ai x.2.2.2]] 0|Sum.inr (Sum.inl x)=>FinQ Tryz.prog 3 Tryz.f46 (.tup [.agg [ab true,ai x.1,slv tmCells x.2.1 .no,.ms 3 0 x.2.2.2.1 x.2.2.2.2.1 1],ai x.2.2.2.2.2.1]) [mB M 1,mR M,.cells [ai x.2.2.2.2.2.2.1,ai x.2.2.2.2.2.2.2],.row (flat intC x.2.2.1)] 0|Sum.inr (Sum.inr x)=>FinQ Tryz.prog 3 Tryz.f46 (.tup [.agg [ab false,ai x.1,slv tmCells x.2.1 .no,.ms 3 0 (List.length x.2.2.1) (List.length x.2.2.1) 1],ai x.2.2.2.1]) [mB M 1,mR M,.cells [ai x.2.2.2.2.1,ai x.2.2.2.2.2],.row (flat intC x.2.2.1)] 0)) [.blk 2,.seq (rgt (rgt (rgt (rgt (rgt (inn (rgt (bod Tryz.f46))))))))]))):=by
 intro qq
 induction qq with
 |zero=>
  exact fun _ _ _ _ _ _ _ _ _ _ _ _ h=>nn h
 |succ qq ih=>
  intro M fl fu vb6_0 vb3_0 vb3_1 vb3_2 vb3_3 vb3_4 vb3_5 vb3_6 r h
  rw[e46Ldl]at h
  rcases spl h with⟨h17,h⟩|⟨h17,h⟩
  obtain⟨r18,h19,h⟩:=obind h
  obtain rfl:=sj h
  exact fun j=>lF 3 [0,1,2] (oD (dI r18.1.path_)<|oD (dT r18.1.binds_)<|oD (dC M.parts)<|oD (dE M.rl)<|oD (dI M.own)<|oD (dI M.args)<|oD (dE M.l)<|oC 1 [5,0,1,2,6] (c110vacu h19)<|oB 1 h17 o0)
  have k:=oB 1 h17 o0
  rcases spl h with⟨h20,h⟩|⟨h20,h⟩
  obtain⟨r21,h22,h⟩:=obind h
  have k:=oC 1 [5,0,1,2,6] (c111vacu h22)<|oB 0 h20 k
  rcases spl h with⟨h23,h⟩|⟨h23,h⟩
  have k:=oB 1 h23 k
  rcases spl h with⟨h24,h⟩|⟨h24,h⟩
  obtain rfl:=sj h
  exact fun j=>lF 1 [0,1,2] (oD (dI ([]:List Int))<|oD (dT ([]:List Tm))<|oD (dC M.parts)<|oD (dE M.rl)<|oD (dI M.own)<|oD (dI M.args)<|oD (dE M.l)<|oB 2 h24 k)
  exact fun j=>lH 2 [] [0,1,2,3,4,5,6] [] [5,8,10] (oD (dI ([]:List Int))<|oD (dT ([]:List Tm))<|oD (dI ([]:List Int))<|oD (dI ([]:List Int))<|oD (dT ([]:List Tm))<|oD (dCoverKid r21.1.kids_)<|oD (dT r21.1.args_)<|oD (dT r21.1.binds_)<|oD (dFreeVar r21.1.vars_)<|oD (dC M.parts)<|oD (dE M.rl)<|oD (dI M.own)<|oD (dI M.args)<|oD (dE M.l)<|oB 2 h24 k) (ih _ _ _ _ _ _ _ _ _ _ _ _ h)
  have k:=oB 1 h23 k
  rcases spl h with⟨h25,h⟩|⟨h25,h⟩
  obtain rfl:=sj h
  exact fun j=>lF 1 [0,1,2] (oD (dI ([]:List Int))<|oD (dT ([]:List Tm))<|oD (dC M.parts)<|oD (dE M.rl)<|oD (dI M.own)<|oD (dI M.args)<|oD (dE M.l)<|oB 2 h25 k)
  obtain⟨r26,h27,h⟩:=obind h
  obtain rfl:=sj h
  exact fun j=>lF 1 [0,1,2] (oD (dI r26)<|oD (dT ([]:List Tm))<|oD (dC M.parts)<|oD (dE M.rl)<|oD (dI M.own)<|oD (dI M.args)<|oD (dE M.l)<|oC 1 [] (c112 h27)<|oB 2 h25 k)
  obtain⟨r28,h29,h⟩:=obind h
  obtain rfl:=sj h
  exact fun j=>lF 1 [0,1,2] (oD (dI r28)<|oD (dT ([]:List Tm))<|oD (dC M.parts)<|oD (dE M.rl)<|oD (dI M.own)<|oD (dI M.args)<|oD (dE M.l)<|oC 1 [] (c112 h29)<|oB 0 h20 k)
theorem l46Ldm:∀qq:Nat,(∀M p1 p2 fl fu v31 vb6_0 r,e46Ldm qq M p1 p2 fl fu v31 vb6_0=some r->(∀j,Dl Tryz.prog 3 (inn (inn (rgt (lft (rgt (rgt (inn (rgt (bod Tryz.f46))))))))) (g46LdmE0 j M p1 p2 fl fu v31 vb6_0) (g46LdmS0 M p1 p2 fl fu v31 vb6_0) (frameQ Tryz.prog 3 ((match (generalizing:=false) r with|Sum.inl x=>FinQ Tryz.prog 3 Tryz.f46 (.tup [leafFoundA x.1,ai x.2.1]) [mB M 1,mR M,.cells [ai x.2.2.1,ai x.2.2.2]] 0|Sum.inr (Sum.inl x)=>FinQ Tryz.prog 3 Tryz.f46 (.tup [.agg [ab true,ai x.1,slv tmCells x.2.1 .no,.ms 3 0 x.2.2.2.1 x.2.2.2.2.1 1],ai x.2.2.2.2.2.1]) [mB M 1,mR M,.cells [ai x.2.2.2.2.2.2.1,ai x.2.2.2.2.2.2.2],.row (flat intC x.2.2.1)] 0|Sum.inr (Sum.inr x)=>FinQ Tryz.prog 3 Tryz.f46 (.tup [.agg [ab false,ai x.1,slv tmCells x.2.1 .no,.ms 3 0 (List.length x.2.2.1) (List.length x.2.2.1) 1],ai x.2.2.2.1]) [mB M 1,mR M,.cells [ai x.2.2.2.2.1,ai x.2.2.2.2.2],.row (flat intC x.2.2.1)] 0)) [.blk 0,.seq (rgt (rgt (rgt (inn (rgt (bod Tryz.f46))))))]))):=by
 intro qq
 induction qq with
 |zero=>
  exact fun _ _ _ _ _ _ _ _ h=>nn h
 |succ qq ih=>
  intro M p1 p2 fl fu v31 vb6_0 r h
  rw[e46Ldm]at h
  rcases spl h with⟨h2,h⟩|⟨h2,h⟩
  obtain⟨x3,h4,h⟩:=obind h
  obtain⟨r5,h6,h⟩:=obind h
  have k:=oA 0 (ix23 (o:=.no) h4)<|oB 0 h2 o0
  rcases spl h with⟨h7,h⟩|⟨h7,h⟩
  obtain⟨r8,h9,h⟩:=obind h
  obtain⟨r10,h11,h⟩:=obind h
  have k:=oC 2 [0,1] (c108 h9)<|oK 3 [] h7 (c106 h6) k
  rcases spl h with⟨h12,h⟩|⟨h12,h⟩
  obtain⟨r13,h14,h⟩:=obind h
  have k:=oS 3 (obLitR tm_eq [x3])<|oK 0 [] h12 (c107 h11) k
  rcases r13 with y15|y16
  dsimp only at h
  exact fun j=>lH 1 [] [0,1,2,3,4,5,6,8,9] [] [0,5,8,10,29,30,31] (oD (dT p2)<|oD (dT y15.2.1)<|oD (dI y15.1)<|oD (dI ([]:List Int))<|oD (dI ([]:List Int))<|oD (dT ([]:List Tm))<|oD (dCoverKid p1.kids_)<|oD (dT p1.args_)<|oD (dT p1.binds_)<|oD (dFreeVar p1.vars_)<|oD (dC M.parts)<|oD (dE M.rl)<|oD (dI M.own)<|oD (dI M.args)<|oD (dE M.l)<|oC 0 [5,0,1,2,6] (c109vaci h14) k) (l46Ldk _ _ _ _ _ _ _ _ _ _ _ _ _ h)
  dsimp only at h
  exact fun j=>lH 1 [] [0,1,2,3,4,5,6] [] [0,5,8,10,29,30,31] (oD (dT p2)<|oD (dI ([]:List Int))<|oD (dT ([]:List Tm))<|oD (dI ([]:List Int))<|oD (dI ([]:List Int))<|oD (dT ([]:List Tm))<|oD (dCoverKid p1.kids_)<|oD (dT p1.args_)<|oD (dT p1.binds_)<|oD (dFreeVar p1.vars_)<|oD (dC M.parts)<|oD (dE M.rl)<|oD (dI M.own)<|oD (dI M.args)<|oD (dE M.l)<|oC 0 [5,0,1,2,6] (c109vaci h14) k) (ih _ _ _ _ _ _ _ _ h)
  obtain rfl:=sj h
  exact fun j=>lF 2 [0,1,2] (oD (dI ([]:List Int))<|oD (dT ([]:List Tm))<|oD (dC M.parts)<|oD (dE M.rl)<|oD (dI M.own)<|oD (dI M.args)<|oD (dE M.l)<|oK 0 [] h12 (c107 h11) k)
  obtain rfl:=sj h
  exact fun j=>lF 2 [0,1,2] (oD (dI ([]:List Int))<|oD (dT ([]:List Tm))<|oD (dC M.parts)<|oD (dE M.rl)<|oD (dI M.own)<|oD (dI M.args)<|oD (dE M.l)<|oK 3 [] h7 (c106 h6) k)
  exact fun j=>lH 0 [] [0,1,2,3,4,5,6] [] [5,8,10] (oD (dI ([]:List Int))<|oD (dT ([]:List Tm))<|oD (dI ([]:List Int))<|oD (dI ([]:List Int))<|oD (dT ([]:List Tm))<|oD (dCoverKid p1.kids_)<|oD (dT p1.args_)<|oD (dT p1.binds_)<|oD (dFreeVar p1.vars_)<|oD (dC M.parts)<|oD (dE M.rl)<|oD (dI M.own)<|oD (dI M.args)<|oD (dE M.l)<|oB 0 h2 o0) (l46Ldl _ _ _ _ _ _ _ _ _ _ _ _ _ h)
theorem c46{qq M p1 p2 fl fu r}(h:e46 qq M p1 p2 fl fu=some r):(match (generalizing:=false) r with|Sum.inl x=>K46s0 M p1 p2 fl fu x Ct|Sum.inr (Sum.inl x)=>K46s1 M p1 p2 fl fu x Ct|Sum.inr (Sum.inr x)=>K46s2 M p1 p2 fl fu x Ct):=by
 unfold e46 at h
 rcases spl h with⟨h1,h⟩|⟨h1,h⟩
 obtain rfl:=sj h
 exact k46s0 (tF q46 1 [0,1,2] (oD (dI ([]:List Int))<|oD (dT ([]:List Tm))<|oD (dC M.parts)<|oD (dE M.rl)<|oD (dI M.own)<|oD (dI M.args)<|oD (dE M.l)<|oB 2 h1 o0))
 rcases r with y0 | (y1|y2)
 exact k46s0 (tH q46 1 [] [0,1,2,3,4,6,5] [] [0,5,8,10,29,30,31] (oD (dT p2)<|oD (dI ([]:List Int))<|oD (dT ([]:List Tm))<|oD (dI ([]:List Int))<|oD (dI ([]:List Int))<|oD (dT ([]:List Tm))<|oD (dCoverKid p1.kids_)<|oD (dT p1.args_)<|oD (dT p1.binds_)<|oD (dFreeVar p1.vars_)<|oD (dC M.parts)<|oD (dE M.rl)<|oD (dI M.own)<|oD (dI M.args)<|oD (dE M.l)<|oB 2 h1 o0) (l46Ldm _ _ _ _ _ _ _ _ _ h))
 exact k46s1 (tH q46 1 [] [0,1,2,3,4,6,5] [] [0,5,8,10,29,30,31] (oD (dT p2)<|oD (dI ([]:List Int))<|oD (dT ([]:List Tm))<|oD (dI ([]:List Int))<|oD (dI ([]:List Int))<|oD (dT ([]:List Tm))<|oD (dCoverKid p1.kids_)<|oD (dT p1.args_)<|oD (dT p1.binds_)<|oD (dFreeVar p1.vars_)<|oD (dC M.parts)<|oD (dE M.rl)<|oD (dI M.own)<|oD (dI M.args)<|oD (dE M.l)<|oB 2 h1 o0) (l46Ldm _ _ _ _ _ _ _ _ _ h))
 exact k46s2 (tH q46 1 [] [0,1,2,3,4,6,5] [] [0,5,8,10,29,30,31] (oD (dT p2)<|oD (dI ([]:List Int))<|oD (dT ([]:List Tm))<|oD (dI ([]:List Int))<|oD (dI ([]:List Int))<|oD (dT ([]:List Tm))<|oD (dCoverKid p1.kids_)<|oD (dT p1.args_)<|oD (dT p1.binds_)<|oD (dFreeVar p1.vars_)<|oD (dC M.parts)<|oD (dE M.rl)<|oD (dI M.own)<|oD (dI M.args)<|oD (dE M.l)<|oB 2 h1 o0) (l46Ldm _ _ _ _ _ _ _ _ _ h))
abbrev R46:=(LeafFound×Int×Int×Int) ⊕ ((Int×List Tm×List Int×Nat×Nat×Int×Int×Int) ⊕ (Int×List Tm×List Int×Int×Int×Int))
def er46:R46->Int
 | .inl y=>y.2.1
 | .inr (.inl y)=>y.2.2.2.2.2.1
 | .inr (.inr y)=>y.2.2.2.1
def Q46(R:Int->Int->R46)(_:Int):Prop:=
 (∃y e,LOk y.binds_∧R=fun L U=>.inl (y,e,L,U))∨(∃a b c d d' e,LOk b∧R=fun L U=>.inr (.inl (a,b,c,d,d',e,L,U)))∨∃a b c e,LOk b∧R=fun L U=>.inr (.inr (a,b,c,e,L,U))
theorem lok_nil:LOk []:=⟨trivial,by simp⟩
theorem tot_cloneI(p:List Int)(h:p.length≤10000000):Tot (fun q=>e112vadh q p) (fun _=>True):=by
 simp only[e112vadh]
 refine Tot.ite (fun _=>Tot.ret trivial) fun _=>Tot.pure (a:=p) ?_ (Tot.pure (gapp_ok (by simp;omega)) (Tot.ret trivial))
 unfold gpart
 rw[if_pos (by omega)];simp
theorem kid_mem:∀ {ks:List CoverKid} {k:CoverKid},k∈ks->okKs ks->smKs ks->dpT' k.t_≤dpKs ks∧okT k.t_∧smT k.t_∧k.args_.length≤1048576
 | [],_,h,_,_=>nomatch h
 |x::ks,k,h,ho,hs=>by
  rw[okKs]at ho
  rw[smKs]at hs
  rw[dpKs]
  rcases List.mem_cons.1 h with rfl|h
  ·obtain⟨ho,-⟩:=ho
   obtain⟨hs,-⟩:=hs
   obtain⟨c,y,a,s,t⟩:=k
   rw[okK]at ho
   rw[smK]at hs
   rw[dpK]
   exact⟨Nat.le_max_left _ _,ho.2.2,hs.2,hs.1⟩
  ·have:=kid_mem h ho.2 hs.2
   exact⟨Nat.le_trans this.1 (Nat.le_max_right _ _),this.2⟩
theorem tree_parts{t:CoverTree}(ho:okT t)(hs:smT t):(OkL t.binds_∧t.binds_.length≤1048576)∧t.kids_.length≤17592186044416∧1≤dpT' t∧∀k∈t.kids_,dpT' k.t_+1≤dpT' t∧okT k.t_∧smT k.t_∧k.args_.length≤1048576:=by
 obtain⟨a,b,c,d,e,f,g⟩:=t
 rw[okT]at ho
 rw[smT]at hs
 rw[dpT']
 refine⟨⟨ho.2.2.2.2.1,hs.1⟩,ho.2.2.2.1,by omega,fun k hk=>?_⟩
 have:=kid_mem (ks:=g) hk ho.2.2.2.2.2 hs.2
 exact⟨by omega,this.2⟩
theorem right_shaped{t:Tm}{a b:Int}(h:rightT t a b=true):shapedT t=true:=by
 unfold rightT at h
 simp only[Bool.and_eq_true]at h
 exact h.1.1
section
variable {N:ByteArray->Bool} (l:List Ent) (hE:AllE N l) (he:∀e∈l,EOk e)
include hE he
theorem out_D0:∀(d:Nat) (t:CoverTree) (m:List (Int×Int)) (ns:List Int) (ts:List Tm) (c:Nat) (p:List Int) (f:Int),dpT' t≤d->okT t->smT t->LI m ns ts->ts.length+8192*d≤100000000->p.length+d≤1000000->0≤f ->
  Ou (fun L U q=>e46Ldi q (machT l) L U t.kind_ t.row_ t.var_ t.vars_ t.binds_ t.args_ t.kids_ c ts.length m ns ts p) er46 Q46 True f:=by
 intro d
 induction d with
 |zero=>
  intro t m ns ts c p f hd ho hs
  have:=(tree_parts ho hs).2.2.1
  omega
 |succ d ih=>
  intro t m ns ts c p f hd ho hs hL hb hp hf
  obtain⟨hbi,hk,-,hkid⟩:=tree_parts ho hs
  refine Ou.succ ?_
  simp only[e46Ldi,ct_eta]
  refine Ou.ite (fun _=>?_) fun _=>Ou.ite (fun _=>?_) fun _=>?_
  ·refine Ou.uni (tu_endEN2 _ _ _ _ _ m ns ts ts.length c p t hbi ⟨hL.1,rfl,hL.2.2⟩ (by omega)) fun r hr=>?_
   cases r with
   |inl y=>exact Ou.ret hf (.inl ⟨y.1,y.2,hr,rfl⟩)
   |inr y=>exact Ou.ret hf (.inr (.inl ⟨_,_,_,_,_,_,hr,rfl⟩))
  ·refine Ou.bind (out_KI2 l hE he m ns ts c p t hL (by omega) hk (by omega) f hf) id (fun r hr=>?_) ?_
   ·cases hb:r.2.1 with
    |true=>exact⟨_,Evt.ifT rfl (Evt.ifT (ne8L hr) Evt.ret),hr⟩
    |false=>exact⟨_,Evt.ifF rfl (Evt.ifT (ne8L hr) Evt.ret),hr⟩
   ·rintro R k k0 k1 (⟨e,rfl⟩|⟨kd,hkd,own,h1,h2,h3,c',p',hp',rfl⟩)
    ·dsimp only
     refine Ou.ifF rfl (Ou.ite (fun _=>Ou.ret (by omega) (.inl ⟨_,_,lok_nil,rfl⟩)) fun _=>Ou.tot (tot_cloneI p (by omega)) fun r _=>?_)
     cases r with
     |inl y=>exact Ou.ret (by omega) (.inl ⟨_,_,lok_nil,rfl⟩)
     |inr y=>exact Ou.ret (by omega) (.inr (.inr ⟨_,_,_,_,lok_nil,rfl⟩))
    ·dsimp only
     have hq:=hkid kd hkd
     refine Ou.ifT rfl (Ou.ifF rfl ?_)
     exact(ih kd.t_ _ _ _ c' p' (f-k) (by omega) hq.2.1 hq.2.2.1 (hL.sets _ _ h1 h3) (by simp;omega) (by omega) (by omega)).mono (fun _ _ _ _ h=>h) id
  ·refine Ou.tot (tot_cloneI p (by omega)) fun r _=>?_
   cases r with
   |inl y=>exact Ou.ret hf (.inl ⟨_,_,lok_nil,rfl⟩)
   |inr y=>exact Ou.ret hf (.inr (.inr ⟨_,_,_,_,lok_nil,rfl⟩))
theorem out_D1:∀(d:Nat) (t:CoverTree) (m:List (Int×Int)) (ns:List Int) (ts:List Tm) (c:Nat) (f:Int),dpT' t≤d->okT t->smT t->LI m ns ts->ts.length+8192*d≤100000000->d≤900000->0≤f ->
  Ou (fun L U q=>e46Ldj q (machT l) L U t.kind_ t.row_ t.var_ t.vars_ t.binds_ t.args_ t.kids_ c ts.length m ns ts) er46 Q46 True f:=by
 intro d t m ns ts c f hd ho hs hL hb hp hf
 obtain⟨hbi,hk,h1,hkid⟩:=tree_parts ho hs
 have hcl:Evt (fun q=>e112 q []) []:=Evt.mk fun _=>rfl
 refine Ou.succ ?_
 simp only[e46Ldj,ct_eta]
 refine Ou.ite (fun _=>?_) fun _=>Ou.ite (fun _=>?_) fun _=>?_
 ·exact Ou.uni (tu_endEN1 _ _ _ _ _ m ns ts ts.length c t hbi ⟨hL.1,rfl,hL.2.2⟩ (by omega)) fun r hr=>Ou.ret hf (.inl ⟨r.1,r.2,hr,rfl⟩)
 ·refine Ou.bind (out_KI1 l hE he m ns ts c t hL (by omega) hk f hf) id (fun r hr=>?_) ?_
  ·cases r with
   |inl y=>
    have hr':y.2.2.1=8:=hr
    cases hb:y.2.1 with
    |true=>exact⟨_,Evt.ifT hb (Evt.ifT (ne8L hr') Evt.ret),hr'⟩
    |false=>exact⟨_,Evt.ifF hb (Evt.ifT (ne8L hr') Evt.ret),hr'⟩
   |inr y=>
    have hr':y.2.2.1=8:=hr
    cases hb:y.2.1 with
    |true=>exact⟨_,Evt.ifT hb (Evt.ifT (ne8L hr') Evt.ret),hr'⟩
    |false=>exact⟨_,Evt.ifF hb (Evt.ifT (ne8L hr') Evt.ret),hr'⟩
  ·rintro R k k0 k1 (⟨e,rfl⟩|⟨kd,hkd,own,h1,h2,h3,c',p',hp',rfl⟩)
   ·dsimp only
    exact Ou.ifF rfl (Ou.ite (fun _=>Ou.ret (by omega) (.inl ⟨_,_,lok_nil,rfl⟩)) fun _=>Ou.evt hcl (Ou.ret (by omega) (.inl ⟨_,_,lok_nil,rfl⟩)))
   ·dsimp only
    have hq:=hkid kd hkd
    refine Ou.ifT rfl (Ou.ifF rfl ?_)
    exact(out_D0 l hE he (dpT' kd.t_) kd.t_ _ _ _ c' p' (f-k) (Nat.le_refl _) hq.2.1 hq.2.2.1 (hL.sets _ _ h1 h3) (by
     have:8192*(dpT' kd.t_+1)≤8192*d:=Nat.mul_le_mul_left _ (by omega)
     simp;omega) (by omega) (by omega)).mono (fun _ _ _ _ h=>h) id
 ·exact Ou.evt hcl (Ou.ret hf (.inl ⟨_,_,lok_nil,rfl⟩))
theorem out_D3(t:CoverTree)(ho:okT t)(hs:smT t)(f:Int)(hf:0≤f) :
  Ou (fun L U q=>e46Ldl q (machT l) L U [] t.kind_ t.row_ t.var_ t.vars_ t.binds_ t.args_ t.kids_) er46 Q46 True f:=by
 obtain⟨hbi,hk,h1,hkid⟩:=tree_parts ho hs
 have hcl:Evt (fun q=>e112 q []) []:=Evt.mk fun _=>rfl
 refine Ou.succ ?_
 simp only[e46Ldl,ct_eta]
 refine Ou.ite (fun _=>?_) fun _=>Ou.ite (fun _=>?_) fun _=>?_
 ·exact Ou.uni (tu_endEN0 _ _ _ _ _ [] t hbi) fun r hr=>Ou.ret hf (.inl ⟨r.1,r.2,hr,rfl⟩)
 ·refine Ou.uni (P:=fun r=>r=(t,false,0)) ⟨_,rfl,fun L U=>?_⟩ ?_
  ·simp only[e111vacu,ct_eta]
   exact Evt.ifF rfl Evt.ret
  ·rintro r rfl
   exact Ou.ifF rfl (Ou.ifF rfl (Ou.evt hcl (Ou.ret hf (.inl ⟨_,_,lok_nil,rfl⟩))))
 ·exact Ou.evt hcl (Ou.ret hf (.inl ⟨_,_,lok_nil,rfl⟩))
theorem out_D2(t:CoverTree)(as0:List Tm)(ha:∀x∈as0,x.Ok)(hal:as0.length≤24)(ho:okT t)(hs:smT t)(hd:dpT' t≤10000)(f:Int)(hf:0≤f):∀(r:List Tm) (v:Nat) (m:List (Int×Int)) (ns:List Int) (ts:List Tm) (c:Nat),as0.drop v=r->LI m ns ts->ts.length=v->v≤24 ->
  Ou (fun L U q=>e46Ldk q (machT l) t as0 L U (v:Int) c ts.length m ns ts) er46 Q46 True f:=by
 have hLen:Evt (fun q=>e108 q (machT l)) (l.length:Int):=Evt.mk fun _=>rfl
 intro r
 induction r with
 |nil=>
  intro v m ns ts c hd' hL hn hv
  refine Ou.succ ?_
  simp only[e46Ldk]
  exact Ou.ifF (drop_nil hd') (out_D1 l hE he 10000 t m ns ts c f hd ho hs hL (by omega) (by omega) hf)
 |cons x r ih=>
  intro v m ns ts c hd' hL hn hv
  have hlt:=drop_lt hd'
  have hx:=ha x (List.mem_of_mem_drop (by rw[hd'];simp))
  refine Ou.succ ?_
  simp only[e46Ldk]
  refine Ou.ifT (drop_dec hd') (Ou.pure (drop_idx hd') (Ou.tot (tot_lclosed x hx) fun b _=>Ou.ite (fun _=>Ou.evt hLen (Ou.evt (ev_Right x 0 l.length hx) (Ou.ite (fun h=>?_) fun _=>Ou.ret hf (.inl ⟨_,_,lok_nil,rfl⟩)))) fun _=>Ou.ret hf (.inl ⟨_,_,lok_nil,rfl⟩)))
  refine Ou.uni (P:=fun r=>r=(ns++[(v:Int)],ts++[x],(ts++[x]).length,(ts++[x]).length,iset m (v:Int) ts.length)) ⟨_,rfl,fun L U=>?_⟩ ?_
  ·simp only[e109vacg]
   exact ev_setM1 _ _ _ _ _ L U [(v:Int)] [x] rfl (by simp) [(v:Int)] 0 m ns ts c rfl hL.1 (by simp;omega)
  ·rintro r rfl
   dsimp only
   rw[w64_nat v (by omega)]
   exact ih (v+1) _ _ _ _ (drop_next hd') (hL.set _ (right_shaped h)) (by simp;omega) (by omega)
theorem out_Down(t:CoverTree)(as0:List Tm)(ha:∀x∈as0,x.Ok)(ho:okT t)(hs:smT t)(hd:dpT' t≤10000)(f:Int)(hf:0≤f):Ou (fun L U q=>e46 q (machT l) t as0 L U) er46 Q46 True f:=by
 have hLen:Evt (fun q=>e108 q (machT l)) (l.length:Int):=Evt.mk fun _=>rfl
 simp only[e46]
 refine Ou.ite (fun _=>Ou.ret hf (.inl ⟨_,_,lok_nil,rfl⟩)) fun h24=>?_
 have h24':=of_decide_eq_false h24
 refine Ou.succ ?_
 simp only[e46Ldm]
 refine Ou.ite (fun h0=>?_) fun _=>out_D3 l hE he t ho hs f hf
 obtain⟨x,r,rfl⟩:∃x r,as0=x::r:=by
  cases as0 with
  |nil=>cases h0
  |cons x r=>exact⟨x,r,rfl⟩
 have hx:=ha x (by simp)
 refine Ou.pure (a:=x) rfl (Ou.tot (tot_lclosed x hx) fun b _=>Ou.ite (fun _=>Ou.evt hLen (Ou.evt (ev_Right x 0 l.length hx) (Ou.ite (fun h=>?_) fun _=>Ou.ret hf (.inl ⟨_,_,lok_nil,rfl⟩)))) fun _=>Ou.ret hf (.inl ⟨_,_,lok_nil,rfl⟩))
 refine Ou.uni (P:=fun r=>r = .inl ([0],[x],1,1,[(0,0)])) ⟨_,rfl,fun L U=>ev_setM0 _ _ _ _ _ L U 0 x⟩ ?_
 rintro r' rfl
 dsimp only
 exact out_D2 l hE he t (x::r) ha (by omega) ho hs hd f hf r 1 [(0,0)] [0] [x] 1 rfl (LI.nil.set 0 (right_shaped h)) rfl (by omega)
end
def e170(qq:Nat)(p0 p1:Int):Option (Tm):=
 some (Tm.mk p0 p1 [])
abbrev K170 (p0 p1:Int) (r:Tm) (C:Cf):Prop:=C 170 [] [ai p0,ai p1] (tmA r) [] 0
theorem q170:Qf 170 Tryz.f170:=⟨Tryz.func170,by kernel_rfl⟩
theorem k170{p0 p1 r}(h:K170 p0 p1 r Ci):K170 p0 p1 r Ct:=⟨h,⟨tv,tv,tv⟩,forall_nil,⟨tv,tv,dT _,tv⟩,forall_nil⟩
theorem c170{qq p0 p1 r}(h:e170 qq p0 p1=some r):K170 p0 p1 r Ct:=by
 unfold e170 at h
 obtain rfl:=sj h
 exact k170 (tF q170 1 [] (oD (dT ([]:List Tm)) o0))
def e100(qq:Nat)(p0:Int):Option (Tm):=
 e170 qq 1 p0>>=fun r1=>
 some r1
abbrev K100 (p0:Int) (r:Tm) (C:Cf):Prop:=C 100 [] [ai p0] (tmA r) [] 0
theorem q100:Qf 100 Tryz.f100:=⟨Tryz.func100,by kernel_rfl⟩
theorem k100{p0 r}(h:K100 p0 r Ci):K100 p0 r Ct:=⟨h,⟨tv,tv⟩,forall_nil,⟨tv,tv,dT _,tv⟩,forall_nil⟩
theorem c100{qq p0 r}(h:e100 qq p0=some r):K100 p0 r Ct:=by
 unfold e100 at h
 obtain⟨r1,h2,h⟩:=obind h
 obtain rfl:=sj h
 exact k100 (tF q100 1 [] (oD (dT r1.sub)<|oC 0 [] (c170 h2) o0))
def e21(qq:Nat)(p0:Int)(p1 p2:Tm):Option (Tm):=
 some (Tm.mk p0 0 [p1,p2])
abbrev K21 (p0:Int) (p1 p2 r:Tm) (C:Cf):Prop:=C 21 [] [ai p0,tmA p1,tmA p2] (tmA r) [] 0
theorem q21:Qf 21 Tryz.f21:=⟨Tryz.func21,by kernel_rfl⟩
theorem k21{p0 p1 p2 r}(h:K21 p0 p1 p2 r Ci):K21 p0 p1 p2 r Ct:=⟨h,⟨tv,⟨tv,tv,⟨tv,dT _⟩,tv⟩,⟨tv,tv,⟨tv,dT _⟩,tv⟩,tv⟩,forall_nil,⟨tv,tv,dT _,tv⟩,forall_nil⟩
theorem c21{qq p0 p1 p2 r}(h:e21 qq p0 p1 p2=some r):K21 p0 p1 p2 r Ct:=by
 unfold e21 at h
 obtain rfl:=sj h
 exact k21 (tF q21 1 [] (oD (dT [p1,p2])<|oS 2 (obLitR tm_eq [p1,p2]) o0))
def e101(qq:Nat)(p0 p1:Tm):Option (Tm):=
 e21 qq 4 p0 p1>>=fun r1=>
 some r1
abbrev K101 (p0 p1 r:Tm) (C:Cf):Prop:=C 101 [] [tmA p0,tmA p1] (tmA r) [] 0
theorem q101:Qf 101 Tryz.f101:=⟨Tryz.func101,by kernel_rfl⟩
theorem k101{p0 p1 r}(h:K101 p0 p1 r Ci):K101 p0 p1 r Ct:=⟨h,⟨⟨tv,tv,⟨tv,dT _⟩,tv⟩,⟨tv,tv,⟨tv,dT _⟩,tv⟩,tv⟩,forall_nil,⟨tv,tv,dT _,tv⟩,forall_nil⟩
theorem c101{qq p0 p1 r}(h:e101 qq p0 p1=some r):K101 p0 p1 r Ct:=by
 unfold e101 at h
 obtain⟨r1,h2,h⟩:=obind h
 obtain rfl:=sj h
 exact k101 (tF q101 1 [] (oD (dT r1.sub)<|oC 2 [] (c21 h2) o0))
def e171(qq:Nat)(p0 p1:Int)(p2:List Tm):Option (Tm):=
 some (Tm.mk p0 p1 p2)
abbrev K171 (p0 p1:Int) (p2:List Tm) (r:Tm) (C:Cf):Prop:=C 171 [] [ai p0,ai p1,slv tmCells p2 .no] (tmA r) [] 0
theorem q171:Qf 171 Tryz.f171:=⟨Tryz.func171,by kernel_rfl⟩
theorem k171{p0 p1 p2 r}(h:K171 p0 p1 p2 r Ci):K171 p0 p1 p2 r Ct:=⟨h,⟨tv,tv,⟨tv,dT _⟩,tv⟩,forall_nil,⟨tv,tv,dT _,tv⟩,forall_nil⟩
theorem c171{qq p0 p1 p2 r}(h:e171 qq p0 p1 p2=some r):K171 p0 p1 p2 r Ct:=by
 unfold e171 at h
 obtain rfl:=sj h
 exact k171 (tF q171 1 [] (oD (dT p2) o0))
def e98(qq:Nat)(p0:Int):Option (Tm):=
 e170 qq 2 p0>>=fun r1=>
 some r1
abbrev K98 (p0:Int) (r:Tm) (C:Cf):Prop:=C 98 [] [ai p0] (tmA r) [] 0
theorem q98:Qf 98 Tryz.f98:=⟨Tryz.func98,by kernel_rfl⟩
theorem k98{p0 r}(h:K98 p0 r Ci):K98 p0 r Ct:=⟨h,⟨tv,tv⟩,forall_nil,⟨tv,tv,dT _,tv⟩,forall_nil⟩
theorem c98{qq p0 r}(h:e98 qq p0=some r):K98 p0 r Ct:=by
 unfold e98 at h
 obtain⟨r1,h2,h⟩:=obind h
 obtain rfl:=sj h
 exact k98 (tF q98 1 [] (oD (dT r1.sub)<|oC 0 [] (c170 h2) o0))
def e102(qq:Nat)(p0 p1:Int):Option (Tm):=
 e98 qq p1>>=fun r1=>
 e171 qq 7 p0 [r1]>>=fun r3=>
 some r3
abbrev K102 (p0 p1:Int) (r:Tm) (C:Cf):Prop:=C 102 [] [ai p0,ai p1] (tmA r) [] 0
theorem q102:Qf 102 Tryz.f102:=⟨Tryz.func102,by kernel_rfl⟩
theorem k102{p0 p1 r}(h:K102 p0 p1 r Ci):K102 p0 p1 r Ct:=⟨h,⟨tv,tv,tv⟩,forall_nil,⟨tv,tv,dT _,tv⟩,forall_nil⟩
theorem c102{qq p0 p1 r}(h:e102 qq p0 p1=some r):K102 p0 p1 r Ct:=by
 unfold e102 at h
 obtain⟨r1,h2,h⟩:=obind h
 obtain⟨r3,h4,h⟩:=obind h
 obtain rfl:=sj h
 exact k102 (tF q102 1 [] (oD (dT r3.sub)<|oC 0 [] (c171 h4)<|oS 0 (obLitR tm_eq [r1])<|oC 0 [] (c98 h2) o0))
def e103(qq:Nat)(p0:ByteArray)(p1:Tm)(p2 p3 p4:Int):Option (Ent):=
 some (Ent.mk 2 p0 p1 (Tm.mk 0 0 []) p2 p3 p4 0 0 [] [])
abbrev K103 (p0:ByteArray) (p1:Tm) (p2 p3 p4:Int) (r:Ent) (C:Cf):Prop:=C 103 [] [at' p0,tmA p1,ai p2,ai p3,ai p4] (entA r) [] 0
theorem q103:Qf 103 Tryz.f103:=⟨Tryz.func103,by kernel_rfl⟩
theorem k103{p0 p1 p2 p3 p4 r}(h:K103 p0 p1 p2 p3 p4 r Ci):K103 p0 p1 p2 p3 p4 r Ct:=⟨h,⟨tv,⟨tv,tv,⟨tv,dT _⟩,tv⟩,tv,tv,tv,tv⟩,forall_nil,⟨tv,tv,tv,tv,dT _,tv,tv,dT _,tv,tv,tv,tv,tv,dI _,dI _,tv⟩,forall_nil⟩
theorem c103{qq p0 p1 p2 p3 p4 r}(h:e103 qq p0 p1 p2 p3 p4=some r):K103 p0 p1 p2 p3 p4 r Ct:=by
 unfold e103 at h
 obtain rfl:=sj h
 exact k103 (tF q103 2 [] (oD (dI ([]:List Int))<|oD (dI ([]:List Int))<|oD (dT ([]:List Tm))<|oD (dT p1.sub) o0))
def e104(qq:Nat)(p0:ByteArray)(p1:Tm)(p2:Int):Option (Ent):=
 some (Ent.mk 4 p0 p1 (Tm.mk 0 0 []) 14 p2 2 0 0 [] [])
abbrev K104 (p0:ByteArray) (p1:Tm) (p2:Int) (r:Ent) (C:Cf):Prop:=C 104 [] [at' p0,tmA p1,ai p2] (entA r) [] 0
theorem q104:Qf 104 Tryz.f104:=⟨Tryz.func104,by kernel_rfl⟩
theorem k104{p0 p1 p2 r}(h:K104 p0 p1 p2 r Ci):K104 p0 p1 p2 r Ct:=⟨h,⟨tv,⟨tv,tv,⟨tv,dT _⟩,tv⟩,tv,tv⟩,forall_nil,⟨tv,tv,tv,tv,dT _,tv,tv,dT _,tv,tv,tv,tv,tv,dI _,dI _,tv⟩,forall_nil⟩
theorem c104{qq p0 p1 p2 r}(h:e104 qq p0 p1 p2=some r):K104 p0 p1 p2 r Ct:=by
 unfold e104 at h
 obtain rfl:=sj h
 exact k104 (tF q104 2 [] (oD (dI ([]:List Int))<|oD (dI ([]:List Int))<|oD (dT ([]:List Tm))<|oD (dT p1.sub) o0))
def e95(qq:Nat)(p0:Int):Option (Tm):=
 e170 qq 6 p0>>=fun r1=>
 some r1
abbrev K95 (p0:Int) (r:Tm) (C:Cf):Prop:=C 95 [] [ai p0] (tmA r) [] 0
theorem q95:Qf 95 Tryz.f95:=⟨Tryz.func95,by kernel_rfl⟩
theorem k95{p0 r}(h:K95 p0 r Ci):K95 p0 r Ct:=⟨h,⟨tv,tv⟩,forall_nil,⟨tv,tv,dT _,tv⟩,forall_nil⟩
theorem c95{qq p0 r}(h:e95 qq p0=some r):K95 p0 r Ct:=by
 unfold e95 at h
 obtain⟨r1,h2,h⟩:=obind h
 obtain rfl:=sj h
 exact k95 (tF q95 1 [] (oD (dT r1.sub)<|oC 0 [] (c170 h2) o0))
def e96(qq:Nat)(p0:ByteArray)(p1:Tm)(p2 p3:Int)(p4:List Int):Option (Ent):=
 some (Ent.mk 1 p0 p1 (Tm.mk 0 0 []) 0 0 p2 p3 0 p4 [])
abbrev K96 (p0:ByteArray) (p1:Tm) (p2 p3:Int) (p4:List Int) (r:Ent) (C:Cf):Prop:=C 96 [] [at' p0,tmA p1,ai p2,ai p3,slv intC p4 .no] (entA r) [] 0
theorem q96:Qf 96 Tryz.f96:=⟨Tryz.func96,by kernel_rfl⟩
theorem k96{p0 p1 p2 p3 p4 r}(h:K96 p0 p1 p2 p3 p4 r Ci):K96 p0 p1 p2 p3 p4 r Ct:=⟨h,⟨tv,⟨tv,tv,⟨tv,dT _⟩,tv⟩,tv,tv,⟨tv,dI _⟩,tv⟩,forall_nil,⟨tv,tv,tv,tv,dT _,tv,tv,dT _,tv,tv,tv,tv,tv,dI _,dI _,tv⟩,forall_nil⟩
theorem c96{qq p0 p1 p2 p3 p4 r}(h:e96 qq p0 p1 p2 p3 p4=some r):K96 p0 p1 p2 p3 p4 r Ct:=by
 unfold e96 at h
 obtain rfl:=sj h
 exact k96 (tF q96 2 [] (oD (dI ([]:List Int))<|oD (dI p4)<|oD (dT ([]:List Tm))<|oD (dT p1.sub) o0))
def e97(qq:Nat)(p0 p1:Tm):Option (Tm):=
 e21 qq 3 p0 p1>>=fun r1=>
 some r1
abbrev K97 (p0 p1 r:Tm) (C:Cf):Prop:=C 97 [] [tmA p0,tmA p1] (tmA r) [] 0
theorem q97:Qf 97 Tryz.f97:=⟨Tryz.func97,by kernel_rfl⟩
theorem k97{p0 p1 r}(h:K97 p0 p1 r Ci):K97 p0 p1 r Ct:=⟨h,⟨⟨tv,tv,⟨tv,dT _⟩,tv⟩,⟨tv,tv,⟨tv,dT _⟩,tv⟩,tv⟩,forall_nil,⟨tv,tv,dT _,tv⟩,forall_nil⟩
theorem c97{qq p0 p1 r}(h:e97 qq p0 p1=some r):K97 p0 p1 r Ct:=by
 unfold e97 at h
 obtain⟨r1,h2,h⟩:=obind h
 obtain rfl:=sj h
 exact k97 (tF q97 1 [] (oD (dT r1.sub)<|oC 2 [] (c21 h2) o0))
def e25Ldn:Nat->(List Tm)->Int->Int->Int->(List Tm)->Option (Tm)
 |0,_,_,_,_,_=>none
 |qq+1,p1,v5,vb0_0,vb0_1,vb0_2=>
 if decide (v5<(List.length p1:Int))then
 gidx p1 v5>>=fun x2=>
 e21 qq 5 (Tm.mk vb0_0 vb0_1 vb0_2) x2>>=fun r4=>
 e25Ldn qq p1 (w64 (v5+1)) r4.k r4.n r4.sub
 else
 some (Tm.mk vb0_0 vb0_1 vb0_2)
def e25(qq:Nat)(p0:Tm)(p1:List Tm):Option (Tm):=
 e25Ldn qq p1 0 p0.k p0.n p0.sub
def g25LdnE0(j:Nat->Value)(p1:List Tm)(v5 vb0_0 vb0_1:Int)(vb0_2:List Tm):=sp j 19 0 [(1,slv tmCells p1 .no),(2,.mp 0 0),(4,.mp 1 0),(5,ai v5)]
def g25LdnS0(p1:List Tm)(v5 vb0_0 vb0_1:Int)(vb0_2:List Tm):LSt:=⟨[(0,.cells [ai vb0_0,ai vb0_1,slv tmCells vb0_2 .no]),(1,.cells [ai 0,ai 0,slv tmCells ([]:List Tm) .nl])],2,[],0,[]⟩
abbrev K25 (p0:Tm) (p1:List Tm) (r:Tm) (C:Cf):Prop:=C 25 [] [tmA p0,slv tmCells p1 .no] (tmA r) [] 0
theorem q25:Qf 25 Tryz.f25:=⟨Tryz.func25,by kernel_rfl⟩
theorem k25{p0 p1 r}(h:K25 p0 p1 r Ci):K25 p0 p1 r Ct:=⟨h,⟨⟨tv,tv,⟨tv,dT _⟩,tv⟩,⟨tv,dT _⟩,tv⟩,forall_nil,⟨tv,tv,dT _,tv⟩,forall_nil⟩
theorem l25Ldn:∀qq:Nat,(∀p1 v5 vb0_0 vb0_1 vb0_2 r,e25Ldn qq p1 v5 vb0_0 vb0_1 vb0_2=some r->(∀j,Dl Tryz.prog 0 (inn (inn (rgt (lft (rgt (bod Tryz.f25)))))) (g25LdnE0 j p1 v5 vb0_0 vb0_1 vb0_2) (g25LdnS0 p1 v5 vb0_0 vb0_1 vb0_2) (frameQ Tryz.prog 0 (FinQ Tryz.prog 0 Tryz.f25 (tmA r) [] 0) [.blk 0,.seq (rgt (rgt (bod Tryz.f25)))]))):=by
 intro qq
 induction qq with
 |zero=>
  exact fun _ _ _ _ _ _ h=>nn h
 |succ qq ih=>
  intro p1 v5 vb0_0 vb0_1 vb0_2 r h
  rw[e25Ldn]at h
  rcases spl h with⟨h1,h⟩|⟨h1,h⟩
  obtain⟨x2,h3,h⟩:=obind h
  obtain⟨r4,h5,h⟩:=obind h
  exact fun j=>lH 2 [] [0,1] [] [1,2,4,5] (oD (dT p1)<|oD (dT ([]:List Tm))<|oD (dT r4.sub)<|oC 1 [] (c21 h5)<|oA 1 (ix23 (o:=.no) h3)<|oB 1 h1 o0) (ih _ _ _ _ _ _ h)
  obtain rfl:=sj h
  exact fun j=>lF 2 [] (oD (dT vb0_2)<|oB 1 h1 o0)
theorem c25{qq p0 p1 r}(h:e25 qq p0 p1=some r):K25 p0 p1 r Ct:=by
 unfold e25 at h
 exact k25 (tH q25 0 [] [0,1] [] [1,2,4,5] (oD (dT p1)<|oD (dT ([]:List Tm))<|oD (dT p0.sub) o0) (l25Ldn _ _ _ _ _ _ _ h))
def e99(qq:Nat)(p0:Tm)(p1:List Tm):Option (Tm):=
 e25 qq p0 p1>>=fun r1=>
 some r1
abbrev K99 (p0:Tm) (p1:List Tm) (r:Tm) (C:Cf):Prop:=C 99 [] [tmA p0,slv tmCells p1 .no] (tmA r) [] 0
theorem q99:Qf 99 Tryz.f99:=⟨Tryz.func99,by kernel_rfl⟩
theorem k99{p0 p1 r}(h:K99 p0 p1 r Ci):K99 p0 p1 r Ct:=⟨h,⟨⟨tv,tv,⟨tv,dT _⟩,tv⟩,⟨tv,dT _⟩,tv⟩,forall_nil,⟨tv,tv,dT _,tv⟩,forall_nil⟩
theorem c99{qq p0 p1 r}(h:e99 qq p0 p1=some r):K99 p0 p1 r Ct:=by
 unfold e99 at h
 obtain⟨r1,h2,h⟩:=obind h
 obtain rfl:=sj h
 exact k99 (tF q99 1 [] (oD (dT r1.sub)<|oC 1 [] (c25 h2) o0))
def e44(qq:Nat)  : Option (List Ent):=
 e95 qq 0>>=fun r1=>
 e98 qq 0>>=fun r3=>
 e97 qq r3 r3>>=fun r5=>
 e97 qq r3 r5>>=fun r7=>
 e96 qq (⟨#[80,97,105,114]⟩:ByteArray) r7 2 0 [15]>>=fun r9=>
 e95 qq 14>>=fun r11=>
 e100 qq 1>>=fun r13=>
 e100 qq 0>>=fun r15=>
 e99 qq r11 [r13,r15]>>=fun r17=>
 e102 qq 0 0>>=fun r19=>
 e101 qq r1 r1>>=fun r21=>
 e95 qq 2>>=fun r23=>
 e99 qq r23 [r15]>>=fun r25=>
 e101 qq r1 r25>>=fun r27=>
 e101 qq r1 r27>>=fun r29=>
 e99 qq r19 [r21,r15,r29,r13]>>=fun r31=>
 e101 qq r1 r31>>=fun r33=>
 e101 qq r1 r33>>=fun r35=>
 e96 qq (⟨#[78,97,116]⟩:ByteArray) r3 0 0 [1,2]>>=fun r37=>
 e103 qq (⟨#[122,101,114,111]⟩:ByteArray) r1 0 0 0>>=fun r39=>
 e97 qq r1 r1>>=fun r41=>
 e103 qq (⟨#[115,117,99]⟩:ByteArray) r41 0 1 0>>=fun r43=>
 e96 qq (⟨#[66,111,111,108]⟩:ByteArray) r3 0 0 [4,5]>>=fun r45=>
 e95 qq 3>>=fun r47=>
 e103 qq (⟨#[116,114,117,101]⟩:ByteArray) r47 3 0 0>>=fun r49=>
 e103 qq (⟨#[102,97,108,115,101]⟩:ByteArray) r47 3 1 0>>=fun r51=>
 e96 qq (⟨#[76,105,115,116]⟩:ByteArray) r5 1 0 [7,8]>>=fun r53=>
 e95 qq 6>>=fun r55=>
 e99 qq r55 [r15]>>=fun r57=>
 e97 qq r3 r57>>=fun r59=>
 e103 qq (⟨#[110,105,108]⟩:ByteArray) r59 6 0 1>>=fun r61=>
 e99 qq r55 [r13]>>=fun r63=>
 e100 qq 2>>=fun r65=>
 e99 qq r55 [r65]>>=fun r67=>
 e97 qq r63 r67>>=fun r69=>
 e97 qq r15 r69>>=fun r71=>
 e97 qq r3 r71>>=fun r73=>
 e103 qq (⟨#[99,111,110,115]⟩:ByteArray) r73 6 1 1>>=fun r75=>
 e97 qq r1 r3>>=fun r77=>
 e97 qq r3 r77>>=fun r79=>
 e96 qq (⟨#[86,101,99]⟩:ByteArray) r79 1 1 [10,11]>>=fun r81=>
 e95 qq 9>>=fun r83=>
 e95 qq 1>>=fun r85=>
 e99 qq r83 [r15,r85]>>=fun r87=>
 e97 qq r3 r87>>=fun r89=>
 e103 qq (⟨#[118,110,105,108]⟩:ByteArray) r89 9 0 1>>=fun r91=>
 e99 qq r83 [r65,r13]>>=fun r93=>
 e100 qq 3>>=fun r95=>
 e99 qq r23 [r65]>>=fun r97=>
 e99 qq r83 [r95,r97]>>=fun r99=>
 e97 qq r93 r99>>=fun r101=>
 e97 qq r13 r101>>=fun r103=>
 e97 qq r1 r103>>=fun r105=>
 e97 qq r3 r105>>=fun r107=>
 e103 qq (⟨#[118,99,111,110,115]⟩:ByteArray) r107 9 1 1>>=fun r109=>
 e97 qq r13 r3>>=fun r111=>
 e97 qq r15 r111>>=fun r113=>
 e97 qq r3 r113>>=fun r115=>
 e96 qq (⟨#[69,113]⟩:ByteArray) r115 2 1 [13]>>=fun r117=>
 e95 qq 12>>=fun r119=>
 e99 qq r119 [r13,r15,r15]>>=fun r121=>
 e97 qq r15 r121>>=fun r123=>
 e97 qq r3 r123>>=fun r125=>
 e103 qq (⟨#[114,101,102,108]⟩:ByteArray) r125 12 0 2>>=fun r127=>
 e99 qq r11 [r95,r65]>>=fun r129=>
 e97 qq r13 r129>>=fun r131=>
 e97 qq r13 r131>>=fun r133=>
 e97 qq r3 r133>>=fun r135=>
 e97 qq r3 r135>>=fun r137=>
 e103 qq (⟨#[112,97,105,114]⟩:ByteArray) r137 14 0 2>>=fun r139=>
 e97 qq r17 r65>>=fun r141=>
 e97 qq r3 r141>>=fun r143=>
 e97 qq r3 r143>>=fun r145=>
 e104 qq (⟨#[102,115,116]⟩:ByteArray) r145 0>>=fun r147=>
 e97 qq r17 r13>>=fun r149=>
 e97 qq r3 r149>>=fun r151=>
 e97 qq r3 r151>>=fun r153=>
 e104 qq (⟨#[115,110,100]⟩:ByteArray) r153 1>>=fun r155=>
 e96 qq (⟨#[84,114,101,101]⟩:ByteArray) r3 0 0 [19,20]>>=fun r157=>
 e95 qq 18>>=fun r159=>
 e103 qq (⟨#[108,101,97,102]⟩:ByteArray) r159 18 0 0>>=fun r161=>
 e97 qq r1 r159>>=fun r163=>
 e97 qq r163 r159>>=fun r165=>
 e103 qq (⟨#[110,111,100,101]⟩:ByteArray) r165 18 1 0>>=fun r167=>
 e97 qq r1 r41>>=fun r169=>
 e97 qq r15 r13>>=fun r171=>
 e97 qq r3 r171>>=fun r173=>
 e101 qq r15 r15>>=fun r175=>
 e101 qq r3 r175>>=fun r177=>
 some [r37,r39,r43,r45,r49,r51,r53,r61,r75,r81,r91,r109,r117,r127,(Ent.mk r9.kind r9.name r9.type r9.body r9.fam r9.place r9.pars r9.inds r9.level r9.cons [16,17]),r139,r147,r155,r157,r161,r167,(Ent.mk 3 (⟨#[112,108,117,115]⟩:ByteArray) r169 r35 0 0 0 0 0 [] []),(Ent.mk 3 (⟨#[105,100]⟩:ByteArray) r173 r177 0 0 0 0 0 [] [])]
abbrev K44 (r:List Ent) (C:Cf):Prop:=C 44 [] [] (.sl (flat entL r) (List.length r) .no) [] 0
theorem q44:Qf 44 Tryz.f44:=⟨Tryz.func44,by kernel_rfl⟩
theorem k44{r}(h:K44 r Ci):K44 r Ct:=⟨h,tv,forall_nil,dE _,forall_nil⟩
theorem c44{qq r}(h:e44 qq  = some r):K44 r Ct:=by
 unfold e44 at h
 obtain⟨r1,h2,h⟩:=obind h
 obtain⟨r3,h4,h⟩:=obind h
 obtain⟨r5,h6,h⟩:=obind h
 obtain⟨r7,h8,h⟩:=obind h
 obtain⟨r9,h10,h⟩:=obind h
 obtain⟨r11,h12,h⟩:=obind h
 obtain⟨r13,h14,h⟩:=obind h
 obtain⟨r15,h16,h⟩:=obind h
 obtain⟨r17,h18,h⟩:=obind h
 obtain⟨r19,h20,h⟩:=obind h
 obtain⟨r21,h22,h⟩:=obind h
 obtain⟨r23,h24,h⟩:=obind h
 obtain⟨r25,h26,h⟩:=obind h
 obtain⟨r27,h28,h⟩:=obind h
 obtain⟨r29,h30,h⟩:=obind h
 obtain⟨r31,h32,h⟩:=obind h
 obtain⟨r33,h34,h⟩:=obind h
 obtain⟨r35,h36,h⟩:=obind h
 obtain⟨r37,h38,h⟩:=obind h
 obtain⟨r39,h40,h⟩:=obind h
 obtain⟨r41,h42,h⟩:=obind h
 obtain⟨r43,h44,h⟩:=obind h
 obtain⟨r45,h46,h⟩:=obind h
 obtain⟨r47,h48,h⟩:=obind h
 obtain⟨r49,h50,h⟩:=obind h
 obtain⟨r51,h52,h⟩:=obind h
 obtain⟨r53,h54,h⟩:=obind h
 obtain⟨r55,h56,h⟩:=obind h
 obtain⟨r57,h58,h⟩:=obind h
 obtain⟨r59,h60,h⟩:=obind h
 obtain⟨r61,h62,h⟩:=obind h
 obtain⟨r63,h64,h⟩:=obind h
 obtain⟨r65,h66,h⟩:=obind h
 obtain⟨r67,h68,h⟩:=obind h
 obtain⟨r69,h70,h⟩:=obind h
 obtain⟨r71,h72,h⟩:=obind h
 obtain⟨r73,h74,h⟩:=obind h
 obtain⟨r75,h76,h⟩:=obind h
 obtain⟨r77,h78,h⟩:=obind h
 obtain⟨r79,h80,h⟩:=obind h
 obtain⟨r81,h82,h⟩:=obind h
 obtain⟨r83,h84,h⟩:=obind h
 obtain⟨r85,h86,h⟩:=obind h
 obtain⟨r87,h88,h⟩:=obind h
 obtain⟨r89,h90,h⟩:=obind h
 obtain⟨r91,h92,h⟩:=obind h
 obtain⟨r93,h94,h⟩:=obind h
 obtain⟨r95,h96,h⟩:=obind h
 obtain⟨r97,h98,h⟩:=obind h
 obtain⟨r99,h100,h⟩:=obind h
 obtain⟨r101,h102,h⟩:=obind h
 obtain⟨r103,h104,h⟩:=obind h
 obtain⟨r105,h106,h⟩:=obind h
 obtain⟨r107,h108,h⟩:=obind h
 obtain⟨r109,h110,h⟩:=obind h
 obtain⟨r111,h112,h⟩:=obind h
 obtain⟨r113,h114,h⟩:=obind h
 obtain⟨r115,h116,h⟩:=obind h
 obtain⟨r117,h118,h⟩:=obind h
 obtain⟨r119,h120,h⟩:=obind h
 obtain⟨r121,h122,h⟩:=obind h
 obtain⟨r123,h124,h⟩:=obind h
 obtain⟨r125,h126,h⟩:=obind h
 obtain⟨r127,h128,h⟩:=obind h
 obtain⟨r129,h130,h⟩:=obind h
 obtain⟨r131,h132,h⟩:=obind h
 obtain⟨r133,h134,h⟩:=obind h
 obtain⟨r135,h136,h⟩:=obind h
 obtain⟨r137,h138,h⟩:=obind h
 obtain⟨r139,h140,h⟩:=obind h
 obtain⟨r141,h142,h⟩:=obind h
 obtain⟨r143,h144,h⟩:=obind h
 obtain⟨r145,h146,h⟩:=obind h
 obtain⟨r147,h148,h⟩:=obind h
 obtain⟨r149,h150,h⟩:=obind h
 obtain⟨r151,h152,h⟩:=obind h
 obtain⟨r153,h154,h⟩:=obind h
 obtain⟨r155,h156,h⟩:=obind h
 obtain⟨r157,h158,h⟩:=obind h
 obtain⟨r159,h160,h⟩:=obind h
 obtain⟨r161,h162,h⟩:=obind h
 obtain⟨r163,h164,h⟩:=obind h
 obtain⟨r165,h166,h⟩:=obind h
 obtain⟨r167,h168,h⟩:=obind h
 obtain⟨r169,h170,h⟩:=obind h
 obtain⟨r171,h172,h⟩:=obind h
 obtain⟨r173,h174,h⟩:=obind h
 obtain⟨r175,h176,h⟩:=obind h
 obtain⟨r177,h178,h⟩:=obind h
 obtain rfl:=sj h
 exact k44 (tF q44 1 [] (oD (dE [r37,r39,r43,r45,r49,r51,r53,r61,r75,r81,r91,r109,r117,r127,(Ent.mk r9.kind r9.name r9.type r9.body r9.fam r9.place r9.pars r9.inds r9.level r9.cons [16,17]),r139,r147,r155,r157,r161,r167,(Ent.mk 3 (⟨#[112,108,117,115]⟩:ByteArray) r169 r35 0 0 0 0 0 [] []),(Ent.mk 3 (⟨#[105,100]⟩:ByteArray) r173 r177 0 0 0 0 0 [] [])])<|oC 0 [] (c101 h178)<|oC 0 [] (c101 h176)<|oC 0 [] (c100 h16)<|oC 0 [] (c100 h16)<|oC 0 [] (c98 h4)<|oC 0 [] (c97 h174)<|oC 0 [] (c97 h172)<|oC 0 [] (c100 h14)<|oC 0 [] (c100 h16)<|oC 1 [] (c98 h4)<|oC 0 [] (c97 h170)<|oC 3 [] (c97 h42)<|oC 0 [] (c103 h168)<|oC 0 [] (c97 h166)<|oC 0 [] (c95 h160)<|oC 0 [] (c97 h164)<|oC 1 [] (c95 h160)<|oC 0 [] (c103 h162)<|oC 0 [] (c95 h160)<|oC 1 [] (c96 h158)<|oC 0 [] (c98 h4)<|oC 0 [] (c104 h156)<|oC 0 [] (c97 h154)<|oC 0 [] (c97 h152)<|oC 0 [] (c97 h150)<|oC 1 [] (c100 h14)<|oC 0 [] (c98 h4)<|oC 0 [] (c98 h4)<|oC 0 [] (c104 h148)<|oC 0 [] (c97 h146)<|oC 0 [] (c97 h144)<|oC 0 [] (c97 h142)<|oC 1 [] (c100 h66)<|oC 0 [] (c98 h4)<|oC 0 [] (c98 h4)<|oC 0 [] (c103 h140)<|oC 0 [] (c97 h138)<|oC 0 [] (c97 h136)<|oC 0 [] (c97 h134)<|oC 0 [] (c97 h132)<|oC 0 [] (c99 h130)<|oS 0 (obLitR tm_eq [r95,r65])<|oC 0 [] (c100 h66)<|oC 0 [] (c100 h96)<|oC 0 [] (c95 h12)<|oC 0 [] (c100 h14)<|oC 0 [] (c100 h14)<|oC 0 [] (c98 h4)<|oC 1 [] (c98 h4)<|oC 0 [] (c103 h128)<|oC 0 [] (c97 h126)<|oC 0 [] (c97 h124)<|oC 0 [] (c99 h122)<|oS 0 (obLitR tm_eq [r13,r15,r15])<|oC 0 [] (c100 h16)<|oC 0 [] (c100 h16)<|oC 0 [] (c100 h14)<|oC 0 [] (c95 h120)<|oC 0 [] (c100 h16)<|oC 0 [] (c98 h4)<|oC 1 [] (c96 h118)<|oC 0 [] (c97 h116)<|oC 0 [] (c97 h114)<|oC 0 [] (c97 h112)<|oC 0 [] (c98 h4)<|oC 0 [] (c100 h14)<|oC 0 [] (c100 h16)<|oC 0 [] (c98 h4)<|oC 0 [] (c103 h110)<|oC 0 [] (c97 h108)<|oC 0 [] (c97 h106)<|oC 0 [] (c97 h104)<|oC 0 [] (c97 h102)<|oC 0 [] (c99 h100)<|oS 0 (obLitR tm_eq [r95,r97])<|oC 0 [] (c99 h98)<|oS 0 (obLitR tm_eq [r65])<|oC 0 [] (c100 h66)<|oC 0 [] (c95 h24)<|oC 0 [] (c100 h96)<|oC 0 [] (c95 h84)<|oC 0 [] (c99 h94)<|oS 0 (obLitR tm_eq [r65,r13])<|oC 0 [] (c100 h14)<|oC 0 [] (c100 h66)<|oC 0 [] (c95 h84)<|oC 1 [] (c100 h14)<|oC 0 [] (c98 h4)<|oC 0 [] (c103 h92)<|oC 0 [] (c97 h90)<|oC 0 [] (c99 h88)<|oS 0 (obLitR tm_eq [r15,r85])<|oC 0 [] (c95 h86)<|oC 0 [] (c100 h16)<|oC 0 [] (c95 h84)<|oC 0 [] (c98 h4)<|oC 1 [] (c96 h82)<|oC 0 [] (c97 h80)<|oC 0 [] (c97 h78)<|oC 1 [] (c98 h4)<|oC 0 [] (c98 h4)<|oC 0 [] (c103 h76)<|oC 0 [] (c97 h74)<|oC 0 [] (c97 h72)<|oC 0 [] (c97 h70)<|oC 0 [] (c99 h68)<|oS 0 (obLitR tm_eq [r65])<|oC 0 [] (c100 h66)<|oC 0 [] (c95 h56)<|oC 0 [] (c99 h64)<|oS 0 (obLitR tm_eq [r13])<|oC 0 [] (c100 h14)<|oC 0 [] (c95 h56)<|oC 0 [] (c100 h16)<|oC 0 [] (c98 h4)<|oC 0 [] (c103 h62)<|oC 0 [] (c97 h60)<|oC 0 [] (c99 h58)<|oS 0 (obLitR tm_eq [r15])<|oC 0 [] (c100 h16)<|oC 0 [] (c95 h56)<|oC 0 [] (c98 h4)<|oC 1 [] (c96 h54)<|oC 0 [] (c97 h6)<|oC 0 [] (c98 h4)<|oC 0 [] (c98 h4)<|oC 0 [] (c103 h52)<|oC 0 [] (c95 h48)<|oC 0 [] (c103 h50)<|oC 0 [] (c95 h48)<|oC 1 [] (c96 h46)<|oC 0 [] (c98 h4)<|oC 0 [] (c103 h44)<|oC 2 [] (c97 h42)<|oC 1 [] (c103 h40)<|oC 1 [] (c96 h38)<|oC 1 [] (c98 h4)<|oC 0 [] (c101 h36)<|oC 0 [] (c101 h34)<|oC 0 [] (c99 h32)<|oS 0 (obLitR tm_eq [r21,r15,r29,r13])<|oC 0 [] (c100 h14)<|oC 0 [] (c101 h30)<|oC 0 [] (c101 h28)<|oC 0 [] (c99 h26)<|oS 0 (obLitR tm_eq [r15])<|oC 0 [] (c100 h16)<|oC 2 [] (c95 h24)<|oC 0 [] (c100 h16)<|oC 2 [] (c101 h22)<|oC 3 [] (c102 h20)<|oC 0 [] (c99 h18)<|oS 0 (obLitR tm_eq [r13,r15])<|oC 0 [] (c100 h16)<|oC 0 [] (c100 h14)<|oC 3 [] (c95 h12)<|oC 1 [] (c96 h10)<|oC 0 [] (c97 h8)<|oC 0 [] (c97 h6)<|oC 0 [] (c98 h4)<|oC 0 [] (c98 h4)<|oC 1 [] (c98 h4)<|oC 0 [] (c95 h2) o0))
def baseL:List Ent:=match e44 300 with|some l=>l|none=>[]
theorem evt_of{α:Type}{f:Nat->Option α}{r:α}(n:Nat)(h:∀q,f (q+n)=some r):Evt f r:=⟨n,fun q hq=>by have:=h (q-n);rwa[show q-n+n=q by omega]at this⟩
theorem ev_Base:Evt (fun q=>e44 q) baseL:=evt_of 300 fun q=>by kernel_rfl
theorem ev_BaseF:Evt (fun q=>e157 q baseL) true:=evt_of 1000 fun q=>by kernel_rfl
theorem baseL_len:baseL.length=23:=by kernel_rfl
def entC(e:Ent):Bool:=(shapedT e.type||e.type.sub.isEmpty)&&(shapedT e.body||e.body.sub.isEmpty)&&Nat.ble e.cons.length 100&&Nat.ble e.fields.length 100
theorem baseL_c:baseL.all entC=true:=by kernel_rfl
theorem ok_c{t:Tm}(h:(shapedT t||t.sub.isEmpty)=true):t.Ok:=by
 rcases Bool.or_eq_true _ _ |>.mp h with h|h
 ·exact shaped_ok h
 ·obtain⟨k,n,l⟩:=t
  have:l=[]:=List.isEmpty_iff.1 h
  subst this
  exact leaf_ok k n
theorem baseL_ok:∀e∈baseL,EOk e:=fun e h=>by
 have:=List.all_eq_true.1 baseL_c e h
 unfold entC at this
 simp only[Bool.and_eq_true]at this
 obtain⟨⟨⟨a,b⟩,c⟩,d⟩:=this
 have c:=Nat.le_of_ble_eq_true c
 have d:=Nat.le_of_ble_eq_true d
 exact⟨ok_c a,ok_c b,by omega,by omega⟩
theorem baseL_cl:∀e∈baseL,ECl e:=fun e h=>by
 have:=List.all_eq_true.1 baseL_c e h
 unfold entC at this
 simp only[Bool.and_eq_true]at this
 obtain⟨⟨⟨a,b⟩,c⟩,d⟩:=this
 have c:=Nat.le_of_ble_eq_true c
 have d:=Nat.le_of_ble_eq_true d
 exact⟨by omega,by omega⟩
theorem base_new:∃N,AllE N baseL∧Evt (fun q=>e37 q baseL) (newT baseL true):=by
 obtain⟨N,hN⟩:=names_by
 obtain⟨b,hb,hA,hn⟩:=ev_wNew N hN baseL (by rw[baseL_len];omega) baseL_ok baseL_cl
 have:=hb.det ev_BaseF
 subst this
 exact⟨N,hA rfl,hn⟩
def e113vado(qq:Nat)(q0 q1:Int):Option (Int):=
 some q1
abbrev K113vado (q0 q1 r:Int) (C:Cf):Prop:=C 113 [.cells [ai q0,ai q1]] [.mp 0 1] (ai r) [.cells [ai q0,ai q1]] 0
theorem q113vado:Qf 113 Tryz.f113:=⟨Tryz.func113,by kernel_rfl⟩
theorem k113vado{q0 q1 r}(h:K113vado q0 q1 r Ci):K113vado q0 q1 r Ct:=⟨h,⟨(lz rfl),tv⟩,(forall_cons ⟨tv,tv,tv⟩ forall_nil),tv,(forall_cons ⟨tv,tv,tv⟩ forall_nil)⟩
theorem c113vado{qq q0 q1 r}(h:e113vado qq q0 q1=some r):K113vado q0 q1 r Ct:=by
 unfold e113vado at h
 obtain rfl:=sj h
 exact k113vado (tF q113vado 1 [0] (o0))
def e42Ldp:Nat->(List Tm)->Int->Option (Bool)
 |0,_,_=>none
 |qq+1,p0,v3=>
 if decide (v3<(List.length p0:Int))then
 gidx p0 v3>>=fun x3=>
 e66 qq x3>>=fun r5=>
 if decide (r5>150)then
 some false
 else
 e42Ldp qq p0 (w64 (v3+1))
 else
 some true
def e42(qq:Nat)(p0:List Tm):Option (Bool):=
 if decide ((List.length p0:Int)>30)then
 some false
 else
 e42Ldp qq p0 0
def g42LdpE0(j:Nat->Value)(p0:List Tm)(v3:Int):=sp j 19 0 [(0,slv tmCells p0 .no),(3,ai v3)]
def g42LdpS0(p0:List Tm)(v3:Int):LSt:=⟨[],0,[],0,[]⟩
abbrev K42 (p0:List Tm) (r:Bool) (C:Cf):Prop:=C 42 [] [slv tmCells p0 .no] (ab r) [] 0
theorem q42:Qf 42 Tryz.f42:=⟨Tryz.func42,by kernel_rfl⟩
theorem k42{p0 r}(h:K42 p0 r Ci):K42 p0 r Ct:=⟨h,⟨⟨tv,dT _⟩,tv⟩,forall_nil,tv,forall_nil⟩
theorem l42Ldp:∀qq:Nat,(∀p0 v3 r,e42Ldp qq p0 v3=some r->(∀j,Dl Tryz.prog 0 (inn (inn (rgt (lft (rgt (rgt (bod Tryz.f42))))))) (g42LdpE0 j p0 v3) (g42LdpS0 p0 v3) (frameQ Tryz.prog 0 (FinQ Tryz.prog 0 Tryz.f42 (ab r) [] 0) [.blk 0,.seq (rgt (rgt (rgt (bod Tryz.f42))))]))):=by
 intro qq
 induction qq with
 |zero=>
  exact fun _ _ _ h=>nn h
 |succ qq ih=>
  intro p0 v3 r h
  rw[e42Ldp]at h
  rcases spl h with⟨h2,h⟩|⟨h2,h⟩
  obtain⟨x3,h4,h⟩:=obind h
  obtain⟨r5,h6,h⟩:=obind h
  have k:=oC 1 [] (c66 h6)<|oA 0 (ix23 (o:=.no) h4)<|oB 1 h2 o0
  rcases spl h with⟨h7,h⟩|⟨h7,h⟩
  obtain rfl:=sj h
  exact fun j=>lF 0 [] (oB 0 h7 k)
  exact fun j=>lH 1 [] [] [] [0,3] (oD (dT p0)<|oB 0 h7 k) (ih _ _ _ h)
  obtain rfl:=sj h
  exact fun j=>lF 0 [] (oB 1 h2 o0)
theorem c42{qq p0 r}(h:e42 qq p0=some r):K42 p0 r Ct:=by
 unfold e42 at h
 rcases spl h with⟨h1,h⟩|⟨h1,h⟩
 obtain rfl:=sj h
 exact k42 (tF q42 0 [] (oB 1 h1 o0))
 exact k42 (tH q42 0 [] [] [] [0,3] (oD (dT p0)<|oB 1 h1 o0) (l42Ldp _ _ _ _ h))
def e94(qq:Nat)  : Option (CoverTree):=
 some (CoverTree.mk 1 3 0 [] [(Tm.mk 8 0 [])] [] [])
abbrev K94 (r:CoverTree) (C:Cf):Prop:=C 94 [] [] (coverTreeA (CoverTree.mk r.kind_ r.row_ r.var_ r.vars_ r.binds_ r.args_ r.kids_)) [] 0
theorem q94:Qf 94 Tryz.f94:=⟨Tryz.func94,by kernel_rfl⟩
theorem k94{r}(h:K94 r Ci):K94 r Ct:=⟨h,tv,forall_nil,⟨tv,tv,tv,dFreeVar _,dT _,dT _,dCoverKid _,tv⟩,forall_nil⟩
theorem c94{qq r}(h:e94 qq  = some r):K94 r Ct:=by
 unfold e94 at h
 obtain rfl:=sj h
 exact k94 (tF q94 1 [] (oD (dCoverKid ([]:List CoverKid))<|oD (dT ([]:List Tm))<|oD (dT [(Tm.mk 8 0 [])])<|oD (dFreeVar ([]:List FreeVar))<|oS 0 (obLitR tm_eq [(Tm.mk 8 0 [])]) o0))
def e43(qq:Nat)  : Option (Bool):=
 e44 qq>>=fun r1=>
 e37 qq r1>>=fun r3=>
 match r3 with
 |Sum.inl y52=>
  none
 |Sum.inr y5=>
  e45 qq 100>>=fun r6=>
  match r6 with
  |Sum.inl y30=>
   none
  |Sum.inr y8=>
   e94 qq>>=fun r9=>
   e95 qq 1>>=fun r11=>
   e46 qq (Mach.mk y5.2.1 y5.2.2.2.2.1 y5.2.2.2.2.2 y5.2.2.1 y5.2.2.2.1) (CoverTree.mk r9.kind_ r9.row_ r9.var_ r9.vars_ r9.binds_ r9.args_ r9.kids_) [r11] y8.2.1 y8.2.2>>=fun r13=>
   match r13 with
   |Sum.inl y15=>
    if y15.2.1==0 then
    if y15.1.yes_ then
    if y15.1.row_==3 then
    if (List.length y15.1.binds_:Int)==1 then
    gidx y15.1.binds_ 0>>=fun x20=>
    some (x20.n==1)
    else
    some false
    else
    some false
    else
    some false
    else
    some false
   |Sum.inr (Sum.inl y22)=>
    if y22.2.2.2.2.2.1==0 then
    if y22.1==3 then
    if (List.length y22.2.1:Int)==1 then
    gidx y22.2.1 0>>=fun x26=>
    some (x26.n==1)
    else
    some false
    else
    some false
    else
    some false
   |Sum.inr (Sum.inr y28)=>
    if y28.2.2.2.1==0 then
    some false
    else
    some false
abbrev K43 (r:Bool) (C:Cf):Prop:=C 43 [] [] (ab r) [] 0
theorem q43:Qf 43 Tryz.f43:=⟨Tryz.func43,by kernel_rfl⟩
theorem k43{r}(h:K43 r Ci):K43 r Ct:=⟨h,tv,forall_nil,tv,forall_nil⟩
theorem c43{qq r}(h:e43 qq  = some r):K43 r Ct:=by
 unfold e43 at h
 obtain⟨r1,h2,h⟩:=obind h
 obtain⟨r3,h4,h⟩:=obind h
 have k:=oC 0 [] (c44 h2) o0
 rcases r3 with y52|y5
 cases h
 dsimp only at h
 obtain⟨r6,h7,h⟩:=obind h
 have k:=oC 0 [] (c37 h4) k
 rcases r6 with y30|y8
 cases h
 dsimp only at h
 obtain⟨r9,h10,h⟩:=obind h
 obtain⟨r11,h12,h⟩:=obind h
 obtain⟨r13,h14,h⟩:=obind h
 have k:=oS 0 (obLitR tm_eq [r11])<|oC 0 [] (c95 h12)<|oC 2 [] (c94 h10)<|oC 2 [] (c45 h7) k
 rcases r13 with y15 | (y22|y28)
 dsimp only at h
 have k:=oC 0 [0,1,2] (c46 h14) k
 rcases spl h with⟨h16,h⟩|⟨h16,h⟩
 have k:=oB 3 h16 k
 rcases spl h with⟨h17,h⟩|⟨h17,h⟩
 have k:=oB 0 h17 k
 rcases spl h with⟨h18,h⟩|⟨h18,h⟩
 have k:=oB 1 h18 k
 rcases spl h with⟨h19,h⟩|⟨h19,h⟩
 obtain⟨x20,h21,h⟩:=obind h
 obtain rfl:=sj h
 exact k43 (tF q43 2 [] (oA 1 (ix23 (o:=.no) h21)<|oB 2 h19 k))
 obtain rfl:=sj h
 exact k43 (tF q43 0 [] (oB 2 h19 k))
 obtain rfl:=sj h
 exact k43 (tF q43 0 [] (oB 1 h18 k))
 obtain rfl:=sj h
 exact k43 (tF q43 0 [] (oB 0 h17 k))
 obtain rfl:=sj h
 exact k43 (tF q43 0 [] (oB 3 h16 k))
 dsimp only at h
 have k:=oC 0 [0,1,2] (c46 h14) k
 rcases spl h with⟨h23,h⟩|⟨h23,h⟩
 have k:=oB 3 h23 k
 rcases spl h with⟨h24,h⟩|⟨h24,h⟩
 have k:=oB 2 h24 k
 rcases spl h with⟨h25,h⟩|⟨h25,h⟩
 obtain⟨x26,h27,h⟩:=obind h
 obtain rfl:=sj h
 exact k43 (tF q43 2 [] (oA 1 (ix23 (o:=.no) h27)<|oB 2 h25 k))
 obtain rfl:=sj h
 exact k43 (tF q43 0 [] (oB 2 h25 k))
 obtain rfl:=sj h
 exact k43 (tF q43 0 [] (oB 2 h24 k))
 obtain rfl:=sj h
 exact k43 (tF q43 0 [] (oB 3 h23 k))
 dsimp only at h
 have k:=oC 0 [0,1,2] (c46 h14) k
 rcases spl h with⟨h29,h⟩|⟨h29,h⟩
 obtain rfl:=sj h
 exact k43 (tF q43 1 [] (oB 3 h29 k))
 obtain rfl:=sj h
 exact k43 (tF q43 0 [] (oB 3 h29 k))
def e47Ldq:Nat->(List Tm)->(List Tm)->Int->Option (Bool)
 |0,_,_,_=>none
 |qq+1,p0,p1,v5=>
 if decide (v5<(List.length p0:Int))then
 gidx p0 v5>>=fun x3=>
 gidx p1 v5>>=fun x5=>
 e55 qq x3 x5>>=fun r7=>
 if r7 then
 e47Ldq qq p0 p1 (w64 (v5+1))
 else
 some false
 else
 some true
def e47(qq:Nat)(p0 p1:List Tm):Option (Bool):=
 if (List.length p0:Int) != (List.length p1:Int)then
 some false
 else
 e47Ldq qq p0 p1 0
def g47LdqE0(j:Nat->Value)(p0 p1:List Tm)(v5:Int):=sp j 27 0 [(0,slv tmCells p0 .no),(1,slv tmCells p1 .no),(5,ai v5)]
def g47LdqS0(p0 p1:List Tm)(v5:Int):LSt:=⟨[],0,[],0,[]⟩
abbrev K47 (p0 p1:List Tm) (r:Bool) (C:Cf):Prop:=C 47 [] [slv tmCells p0 .no,slv tmCells p1 .no] (ab r) [] 0
theorem q47:Qf 47 Tryz.f47:=⟨Tryz.func47,by kernel_rfl⟩
theorem k47{p0 p1 r}(h:K47 p0 p1 r Ci):K47 p0 p1 r Ct:=⟨h,⟨⟨tv,dT _⟩,⟨tv,dT _⟩,tv⟩,forall_nil,tv,forall_nil⟩
theorem l47Ldq:∀qq:Nat,(∀p0 p1 v5 r,e47Ldq qq p0 p1 v5=some r->(∀j,Dl Tryz.prog 0 (inn (inn (rgt (lft (rgt (rgt (bod Tryz.f47))))))) (g47LdqE0 j p0 p1 v5) (g47LdqS0 p0 p1 v5) (frameQ Tryz.prog 0 (FinQ Tryz.prog 0 Tryz.f47 (ab r) [] 0) [.blk 0,.seq (rgt (rgt (rgt (bod Tryz.f47))))]))):=by
 intro qq
 induction qq with
 |zero=>
  exact fun _ _ _ _ h=>nn h
 |succ qq ih=>
  intro p0 p1 v5 r h
  rw[e47Ldq]at h
  rcases spl h with⟨h2,h⟩|⟨h2,h⟩
  obtain⟨x3,h4,h⟩:=obind h
  obtain⟨x5,h6,h⟩:=obind h
  obtain⟨r7,h8,h⟩:=obind h
  have k:=oA 1 (ix23 (o:=.no) h6)<|oA 0 (ix23 (o:=.no) h4)<|oB 1 h2 o0
  rcases spl h with⟨h9,h⟩|⟨h9,h⟩
  exact fun j=>lH 2 [] [] [] [0,1,5] (oD (dT p1)<|oD (dT p0)<|oK 1 [] h9 (c55 h8) k) (ih _ _ _ _ h)
  obtain rfl:=sj h
  exact fun j=>lF 1 [] (oK 1 [] h9 (c55 h8) k)
  obtain rfl:=sj h
  exact fun j=>lF 0 [] (oB 1 h2 o0)
theorem c47{qq p0 p1 r}(h:e47 qq p0 p1=some r):K47 p0 p1 r Ct:=by
 unfold e47 at h
 rcases spl h with⟨h1,h⟩|⟨h1,h⟩
 obtain rfl:=sj h
 exact k47 (tF q47 0 [] (oB 2 h1 o0))
 exact k47 (tH q47 0 [] [] [] [0,1,5] (oD (dT p1)<|oD (dT p0)<|oB 2 h1 o0) (l47Ldq _ _ _ _ _ h))
def e48(qq:Nat)(fl fu:Int):Option (Int):=
 e113vado qq fl fu>>=fun r1=>
 some r1
abbrev K48 (fl fu r:Int) (C:Cf):Prop:=C 48 [.cells [ai fl,ai fu]] [.mp 0 0] (ai r) [.cells [ai fl,ai fu]] 0
theorem q48:Qf 48 Tryz.f48:=⟨Tryz.func48,by kernel_rfl⟩
theorem k48{fl fu r}(h:K48 fl fu r Ci):K48 fl fu r Ct:=⟨h,⟨(lz rfl),tv⟩,(forall_cons ⟨tv,tv,tv⟩ forall_nil),tv,(forall_cons ⟨tv,tv,tv⟩ forall_nil)⟩
theorem c48{qq fl fu r}(h:e48 qq fl fu=some r):K48 fl fu r Ct:=by
 unfold e48 at h
 obtain⟨r1,h2,h⟩:=obind h
 obtain rfl:=sj h
 exact k48 (tF q48 0 [0] (oC 1 [0] (c113vado h2) o0))
def e8(qq:Nat)(p0:CoverTree)(p1:List Tm)(p2:A2U8):Option (Bool):=
 e41 qq (CoverTree.mk p0.kind_ p0.row_ p0.var_ p0.vars_ p0.binds_ p0.args_ p0.kids_) 200>>=fun r1=>
 if decide (r1.2≤0)then
 e43 qq>>=fun r4=>
 some r4
 else
 e42 qq p1>>=fun r6=>
 if r6 then
 e44 qq>>=fun r9=>
 e37 qq r9>>=fun r11=>
 match r11 with
 |Sum.inl y580=>
  none
 |Sum.inr y13=>
  e45 qq (w64 (p2.a))>>=fun r14=>
  match r14 with
  |Sum.inl y307=>
   none
  |Sum.inr y16=>
   e46 qq (Mach.mk y13.2.1 y13.2.2.2.2.1 y13.2.2.2.2.2 y13.2.2.1 y13.2.2.2.1) (CoverTree.mk p0.kind_ p0.row_ p0.var_ p0.vars_ p0.binds_ p0.args_ p0.kids_) p1 y16.2.1 y16.2.2>>=fun r17=>
   match r17 with
   |Sum.inl y19=>
    if y19.2.1==8 then
    e43 qq>>=fun r21=>
    some r21
    else
    e45 qq (w64 ((w64 (p2.a))+(w64 (p2.b))))>>=fun r23=>
    match r23 with
    |Sum.inl y70=>
     none
    |Sum.inr y25=>
     e46 qq (Mach.mk y13.2.1 y13.2.2.2.2.1 y13.2.2.2.2.2 y13.2.2.1 y13.2.2.2.1) (CoverTree.mk p0.kind_ p0.row_ p0.var_ p0.vars_ p0.binds_ p0.args_ p0.kids_) p1 y25.2.1 y25.2.2>>=fun r26=>
     match r26 with
     |Sum.inl y28=>
      if y19.2.1==y28.2.1 then
      if y19.1.yes_==y28.1.yes_ then
      if y19.1.row_==y28.1.row_ then
      e47 qq y19.1.binds_ y28.1.binds_>>=fun r32=>
      if r32 then
      e48 qq y19.2.2.1 y19.2.2.2>>=fun r35=>
      e48 qq y28.2.2.1 y28.2.2.2>>=fun r37=>
      if r35==r37 then
      e43 qq>>=fun r40=>
      some r40
      else
      some false
      else
      some false
      else
      some false
      else
      some false
      else
      some false
     |Sum.inr (Sum.inl y42)=>
      if y19.2.1==y42.2.2.2.2.2.1 then
      if y19.1.yes_==true then
      if y19.1.row_==y42.1 then
      e47 qq y19.1.binds_ y42.2.1>>=fun r46=>
      if r46 then
      e48 qq y19.2.2.1 y19.2.2.2>>=fun r49=>
      e48 qq y42.2.2.2.2.2.2.1 y42.2.2.2.2.2.2.2>>=fun r51=>
      if r49==r51 then
      e43 qq>>=fun r54=>
      some r54
      else
      some false
      else
      some false
      else
      some false
      else
      some false
      else
      some false
     |Sum.inr (Sum.inr y56)=>
      if y19.2.1==y56.2.2.2.1 then
      if y19.1.yes_==false then
      if y19.1.row_==y56.1 then
      e47 qq y19.1.binds_ y56.2.1>>=fun r60=>
      if r60 then
      e48 qq y19.2.2.1 y19.2.2.2>>=fun r63=>
      e48 qq y56.2.2.2.2.1 y56.2.2.2.2.2>>=fun r65=>
      if r63==r65 then
      e43 qq>>=fun r68=>
      some r68
      else
      some false
      else
      some false
      else
      some false
      else
      some false
      else
      some false
   |Sum.inr (Sum.inl y115)=>
    if y115.2.2.2.2.2.1==8 then
    e43 qq>>=fun r117=>
    some r117
    else
    e45 qq (w64 ((w64 (p2.a))+(w64 (p2.b))))>>=fun r119=>
    match r119 with
    |Sum.inl y166=>
     none
    |Sum.inr y121=>
     e46 qq (Mach.mk y13.2.1 y13.2.2.2.2.1 y13.2.2.2.2.2 y13.2.2.1 y13.2.2.2.1) (CoverTree.mk p0.kind_ p0.row_ p0.var_ p0.vars_ p0.binds_ p0.args_ p0.kids_) p1 y121.2.1 y121.2.2>>=fun r122=>
     match r122 with
     |Sum.inl y124=>
      if y115.2.2.2.2.2.1==y124.2.1 then
      if true==y124.1.yes_ then
      if y115.1==y124.1.row_ then
      e47 qq y115.2.1 y124.1.binds_>>=fun r128=>
      if r128 then
      e48 qq y115.2.2.2.2.2.2.1 y115.2.2.2.2.2.2.2>>=fun r131=>
      e48 qq y124.2.2.1 y124.2.2.2>>=fun r133=>
      if r131==r133 then
      e43 qq>>=fun r136=>
      some r136
      else
      some false
      else
      some false
      else
      some false
      else
      some false
      else
      some false
     |Sum.inr (Sum.inl y138)=>
      if y115.2.2.2.2.2.1==y138.2.2.2.2.2.1 then
      if true==true then
      if y115.1==y138.1 then
      e47 qq y115.2.1 y138.2.1>>=fun r142=>
      if r142 then
      e48 qq y115.2.2.2.2.2.2.1 y115.2.2.2.2.2.2.2>>=fun r145=>
      e48 qq y138.2.2.2.2.2.2.1 y138.2.2.2.2.2.2.2>>=fun r147=>
      if r145==r147 then
      e43 qq>>=fun r150=>
      some r150
      else
      some false
      else
      some false
      else
      some false
      else
      some false
      else
      some false
     |Sum.inr (Sum.inr y152)=>
      if y115.2.2.2.2.2.1==y152.2.2.2.1 then
      if true==false then
      if y115.1==y152.1 then
      e47 qq y115.2.1 y152.2.1>>=fun r156=>
      if r156 then
      e48 qq y115.2.2.2.2.2.2.1 y115.2.2.2.2.2.2.2>>=fun r159=>
      e48 qq y152.2.2.2.2.1 y152.2.2.2.2.2>>=fun r161=>
      if r159==r161 then
      e43 qq>>=fun r164=>
      some r164
      else
      some false
      else
      some false
      else
      some false
      else
      some false
      else
      some false
   |Sum.inr (Sum.inr y211)=>
    if y211.2.2.2.1==8 then
    e43 qq>>=fun r213=>
    some r213
    else
    e45 qq (w64 ((w64 (p2.a))+(w64 (p2.b))))>>=fun r215=>
    match r215 with
    |Sum.inl y262=>
     none
    |Sum.inr y217=>
     e46 qq (Mach.mk y13.2.1 y13.2.2.2.2.1 y13.2.2.2.2.2 y13.2.2.1 y13.2.2.2.1) (CoverTree.mk p0.kind_ p0.row_ p0.var_ p0.vars_ p0.binds_ p0.args_ p0.kids_) p1 y217.2.1 y217.2.2>>=fun r218=>
     match r218 with
     |Sum.inl y220=>
      if y211.2.2.2.1==y220.2.1 then
      if false==y220.1.yes_ then
      if y211.1==y220.1.row_ then
      e47 qq y211.2.1 y220.1.binds_>>=fun r224=>
      if r224 then
      e48 qq y211.2.2.2.2.1 y211.2.2.2.2.2>>=fun r227=>
      e48 qq y220.2.2.1 y220.2.2.2>>=fun r229=>
      if r227==r229 then
      e43 qq>>=fun r232=>
      some r232
      else
      some false
      else
      some false
      else
      some false
      else
      some false
      else
      some false
     |Sum.inr (Sum.inl y234)=>
      if y211.2.2.2.1==y234.2.2.2.2.2.1 then
      if false==true then
      if y211.1==y234.1 then
      e47 qq y211.2.1 y234.2.1>>=fun r238=>
      if r238 then
      e48 qq y211.2.2.2.2.1 y211.2.2.2.2.2>>=fun r241=>
      e48 qq y234.2.2.2.2.2.2.1 y234.2.2.2.2.2.2.2>>=fun r243=>
      if r241==r243 then
      e43 qq>>=fun r246=>
      some r246
      else
      some false
      else
      some false
      else
      some false
      else
      some false
      else
      some false
     |Sum.inr (Sum.inr y248)=>
      if y211.2.2.2.1==y248.2.2.2.1 then
      if false==false then
      if y211.1==y248.1 then
      e47 qq y211.2.1 y248.2.1>>=fun r252=>
      if r252 then
      e48 qq y211.2.2.2.2.1 y211.2.2.2.2.2>>=fun r255=>
      e48 qq y248.2.2.2.2.1 y248.2.2.2.2.2>>=fun r257=>
      if r255==r257 then
      e43 qq>>=fun r260=>
      some r260
      else
      some false
      else
      some false
      else
      some false
      else
      some false
      else
      some false
 else
 e43 qq>>=fun r659=>
 some r659
abbrev K8 (p0:CoverTree) (p1:List Tm) (p2:A2U8) (r:Bool) (C:Cf):Prop:=C 8 [] [coverTreeA p0,slv tmCells p1 .no,a2U8A p2] (ab r) [] 0
theorem q8:Qf 8 Tryz.f8:=⟨Tryz.func8,by kernel_rfl⟩
theorem k8{p0 p1 p2 r}(h:K8 p0 p1 p2 r Ci):K8 p0 p1 p2 r Ct:=⟨h,⟨⟨tv,tv,tv,⟨tv,dFreeVar _⟩,⟨tv,dT _⟩,⟨tv,dT _⟩,⟨tv,dCoverKid _⟩,tv⟩,⟨tv,dT _⟩,⟨tv,tv,tv⟩,tv⟩,forall_nil,tv,forall_nil⟩
theorem c8{qq p0 p1 p2 r}(h:e8 qq p0 p1 p2=some r):K8 p0 p1 p2 r Ct:=by
 unfold e8 at h
 obtain⟨r1,h2,h⟩:=obind h
 have k:=oC 1 [] (c41 h2) o0
 rcases spl h with⟨h3,h⟩|⟨h3,h⟩
 obtain⟨r4,h5,h⟩:=obind h
 obtain rfl:=sj h
 exact k8 (tF q8 0 [] (oC 0 [] (c43 h5)<|oB 3 h3 k))
 obtain⟨r6,h7,h⟩:=obind h
 have k:=oB 3 h3 k
 rcases spl h with⟨h8,h⟩|⟨h8,h⟩
 obtain⟨r9,h10,h⟩:=obind h
 obtain⟨r11,h12,h⟩:=obind h
 have k:=oC 1 [] (c44 h10)<|oK 0 [] h8 (c42 h7) k
 rcases r11 with y580|y13
 cases h
 dsimp only at h
 obtain⟨r14,h15,h⟩:=obind h
 have k:=oC 0 [] (c37 h12) k
 rcases r14 with y307|y16
 cases h
 dsimp only at h
 obtain⟨r17,h18,h⟩:=obind h
 have k:=oC 5 [] (c45 h15) k
 rcases r17 with y19 | (y115|y211)
 dsimp only at h
 have k:=oC 3 [3,4,5] (c46 h18) k
 rcases spl h with⟨h20,h⟩|⟨h20,h⟩
 obtain⟨r21,h22,h⟩:=obind h
 obtain rfl:=sj h
 exact k8 (tF q8 0 [] (oC 0 [] (c43 h22)<|oB 3 h20 k))
 obtain⟨r23,h24,h⟩:=obind h
 have k:=oB 3 h20 k
 rcases r23 with y70|y25
 cases h
 dsimp only at h
 obtain⟨r26,h27,h⟩:=obind h
 have k:=oC 7 [] (c45 h24) k
 rcases r26 with y28 | (y42|y56)
 dsimp only at h
 have k:=oC 3 [3,4,7] (c46 h27) k
 rcases spl h with⟨h29,h⟩|⟨h29,h⟩
 have k:=oB 3 h29 k
 rcases spl h with⟨h30,h⟩|⟨h30,h⟩
 have k:=oB 2 h30 k
 rcases spl h with⟨h31,h⟩|⟨h31,h⟩
 obtain⟨r32,h33,h⟩:=obind h
 have k:=oB 2 h31 k
 rcases spl h with⟨h34,h⟩|⟨h34,h⟩
 obtain⟨r35,h36,h⟩:=obind h
 obtain⟨r37,h38,h⟩:=obind h
 have k:=oC 0 [7] (c48 h38)<|oC 0 [5] (c48 h36)<|oK 2 [] h34 (c47 h33) k
 rcases spl h with⟨h39,h⟩|⟨h39,h⟩
 obtain⟨r40,h41,h⟩:=obind h
 obtain rfl:=sj h
 exact k8 (tF q8 0 [] (oC 0 [] (c43 h41)<|oB 0 h39 k))
 obtain rfl:=sj h
 exact k8 (tF q8 0 [] (oB 0 h39 k))
 obtain rfl:=sj h
 exact k8 (tF q8 0 [] (oK 2 [] h34 (c47 h33) k))
 obtain rfl:=sj h
 exact k8 (tF q8 0 [] (oB 2 h31 k))
 obtain rfl:=sj h
 exact k8 (tF q8 0 [] (oB 2 h30 k))
 obtain rfl:=sj h
 exact k8 (tF q8 0 [] (oB 3 h29 k))
 dsimp only at h
 have k:=oC 3 [3,4,7] (c46 h27) k
 rcases spl h with⟨h43,h⟩|⟨h43,h⟩
 have k:=oB 3 h43 k
 rcases spl h with⟨h44,h⟩|⟨h44,h⟩
 have k:=oB 2 h44 k
 rcases spl h with⟨h45,h⟩|⟨h45,h⟩
 obtain⟨r46,h47,h⟩:=obind h
 have k:=oB 2 h45 k
 rcases spl h with⟨h48,h⟩|⟨h48,h⟩
 obtain⟨r49,h50,h⟩:=obind h
 obtain⟨r51,h52,h⟩:=obind h
 have k:=oC 0 [7] (c48 h52)<|oC 0 [5] (c48 h50)<|oK 2 [] h48 (c47 h47) k
 rcases spl h with⟨h53,h⟩|⟨h53,h⟩
 obtain⟨r54,h55,h⟩:=obind h
 obtain rfl:=sj h
 exact k8 (tF q8 0 [] (oC 0 [] (c43 h55)<|oB 0 h53 k))
 obtain rfl:=sj h
 exact k8 (tF q8 0 [] (oB 0 h53 k))
 obtain rfl:=sj h
 exact k8 (tF q8 0 [] (oK 2 [] h48 (c47 h47) k))
 obtain rfl:=sj h
 exact k8 (tF q8 0 [] (oB 2 h45 k))
 obtain rfl:=sj h
 exact k8 (tF q8 0 [] (oB 2 h44 k))
 obtain rfl:=sj h
 exact k8 (tF q8 0 [] (oB 3 h43 k))
 dsimp only at h
 have k:=oC 3 [3,4,7] (c46 h27) k
 rcases spl h with⟨h57,h⟩|⟨h57,h⟩
 have k:=oB 3 h57 k
 rcases spl h with⟨h58,h⟩|⟨h58,h⟩
 have k:=oB 2 h58 k
 rcases spl h with⟨h59,h⟩|⟨h59,h⟩
 obtain⟨r60,h61,h⟩:=obind h
 have k:=oB 2 h59 k
 rcases spl h with⟨h62,h⟩|⟨h62,h⟩
 obtain⟨r63,h64,h⟩:=obind h
 obtain⟨r65,h66,h⟩:=obind h
 have k:=oC 0 [7] (c48 h66)<|oC 0 [5] (c48 h64)<|oK 2 [] h62 (c47 h61) k
 rcases spl h with⟨h67,h⟩|⟨h67,h⟩
 obtain⟨r68,h69,h⟩:=obind h
 obtain rfl:=sj h
 exact k8 (tF q8 0 [] (oC 0 [] (c43 h69)<|oB 0 h67 k))
 obtain rfl:=sj h
 exact k8 (tF q8 0 [] (oB 0 h67 k))
 obtain rfl:=sj h
 exact k8 (tF q8 0 [] (oK 2 [] h62 (c47 h61) k))
 obtain rfl:=sj h
 exact k8 (tF q8 0 [] (oB 2 h59 k))
 obtain rfl:=sj h
 exact k8 (tF q8 0 [] (oB 2 h58 k))
 obtain rfl:=sj h
 exact k8 (tF q8 0 [] (oB 3 h57 k))
 dsimp only at h
 have k:=oC 3 [3,4,5] (c46 h18) k
 rcases spl h with⟨h116,h⟩|⟨h116,h⟩
 obtain⟨r117,h118,h⟩:=obind h
 obtain rfl:=sj h
 exact k8 (tF q8 0 [] (oC 0 [] (c43 h118)<|oB 3 h116 k))
 obtain⟨r119,h120,h⟩:=obind h
 have k:=oB 3 h116 k
 rcases r119 with y166|y121
 cases h
 dsimp only at h
 obtain⟨r122,h123,h⟩:=obind h
 have k:=oC 7 [] (c45 h120) k
 rcases r122 with y124 | (y138|y152)
 dsimp only at h
 have k:=oC 3 [3,4,8] (c46 h123) k
 rcases spl h with⟨h125,h⟩|⟨h125,h⟩
 have k:=oB 3 h125 k
 rcases spl h with⟨h126,h⟩|⟨h126,h⟩
 have k:=oB 2 h126 k
 rcases spl h with⟨h127,h⟩|⟨h127,h⟩
 obtain⟨r128,h129,h⟩:=obind h
 have k:=oB 2 h127 k
 rcases spl h with⟨h130,h⟩|⟨h130,h⟩
 obtain⟨r131,h132,h⟩:=obind h
 obtain⟨r133,h134,h⟩:=obind h
 have k:=oC 0 [8] (c48 h134)<|oC 0 [5] (c48 h132)<|oK 2 [] h130 (c47 h129) k
 rcases spl h with⟨h135,h⟩|⟨h135,h⟩
 obtain⟨r136,h137,h⟩:=obind h
 obtain rfl:=sj h
 exact k8 (tF q8 0 [] (oC 0 [] (c43 h137)<|oB 0 h135 k))
 obtain rfl:=sj h
 exact k8 (tF q8 0 [] (oB 0 h135 k))
 obtain rfl:=sj h
 exact k8 (tF q8 0 [] (oK 2 [] h130 (c47 h129) k))
 obtain rfl:=sj h
 exact k8 (tF q8 0 [] (oB 2 h127 k))
 obtain rfl:=sj h
 exact k8 (tF q8 0 [] (oB 2 h126 k))
 obtain rfl:=sj h
 exact k8 (tF q8 0 [] (oB 3 h125 k))
 dsimp only at h
 have k:=oC 3 [3,4,8] (c46 h123) k
 rcases spl h with⟨h139,h⟩|⟨h139,h⟩
 have k:=oB 3 h139 k
 rcases spl h with⟨h140,h⟩|⟨h140,h⟩
 have k:=oB 2 h140 k
 rcases spl h with⟨h141,h⟩|⟨h141,h⟩
 obtain⟨r142,h143,h⟩:=obind h
 have k:=oB 2 h141 k
 rcases spl h with⟨h144,h⟩|⟨h144,h⟩
 obtain⟨r145,h146,h⟩:=obind h
 obtain⟨r147,h148,h⟩:=obind h
 have k:=oC 0 [8] (c48 h148)<|oC 0 [5] (c48 h146)<|oK 2 [] h144 (c47 h143) k
 rcases spl h with⟨h149,h⟩|⟨h149,h⟩
 obtain⟨r150,h151,h⟩:=obind h
 obtain rfl:=sj h
 exact k8 (tF q8 0 [] (oC 0 [] (c43 h151)<|oB 0 h149 k))
 obtain rfl:=sj h
 exact k8 (tF q8 0 [] (oB 0 h149 k))
 obtain rfl:=sj h
 exact k8 (tF q8 0 [] (oK 2 [] h144 (c47 h143) k))
 obtain rfl:=sj h
 exact k8 (tF q8 0 [] (oB 2 h141 k))
 obtain rfl:=sj h
 exact k8 (tF q8 0 [] (oB 2 h140 k))
 obtain rfl:=sj h
 exact k8 (tF q8 0 [] (oB 3 h139 k))
 dsimp only at h
 have k:=oC 3 [3,4,8] (c46 h123) k
 rcases spl h with⟨h153,h⟩|⟨h153,h⟩
 have k:=oB 3 h153 k
 rcases spl h with⟨h154,h⟩|⟨h154,h⟩
 have k:=oB 2 h154 k
 rcases spl h with⟨h155,h⟩|⟨h155,h⟩
 obtain⟨r156,h157,h⟩:=obind h
 have k:=oB 2 h155 k
 rcases spl h with⟨h158,h⟩|⟨h158,h⟩
 obtain⟨r159,h160,h⟩:=obind h
 obtain⟨r161,h162,h⟩:=obind h
 have k:=oC 0 [8] (c48 h162)<|oC 0 [5] (c48 h160)<|oK 2 [] h158 (c47 h157) k
 rcases spl h with⟨h163,h⟩|⟨h163,h⟩
 obtain⟨r164,h165,h⟩:=obind h
 obtain rfl:=sj h
 exact k8 (tF q8 0 [] (oC 0 [] (c43 h165)<|oB 0 h163 k))
 obtain rfl:=sj h
 exact k8 (tF q8 0 [] (oB 0 h163 k))
 obtain rfl:=sj h
 exact k8 (tF q8 0 [] (oK 2 [] h158 (c47 h157) k))
 obtain rfl:=sj h
 exact k8 (tF q8 0 [] (oB 2 h155 k))
 obtain rfl:=sj h
 exact k8 (tF q8 0 [] (oB 2 h154 k))
 obtain rfl:=sj h
 exact k8 (tF q8 0 [] (oB 3 h153 k))
 dsimp only at h
 have k:=oC 3 [3,4,5] (c46 h18) k
 rcases spl h with⟨h212,h⟩|⟨h212,h⟩
 obtain⟨r213,h214,h⟩:=obind h
 obtain rfl:=sj h
 exact k8 (tF q8 0 [] (oC 0 [] (c43 h214)<|oB 3 h212 k))
 obtain⟨r215,h216,h⟩:=obind h
 have k:=oB 3 h212 k
 rcases r215 with y262|y217
 cases h
 dsimp only at h
 obtain⟨r218,h219,h⟩:=obind h
 have k:=oC 7 [] (c45 h216) k
 rcases r218 with y220 | (y234|y248)
 dsimp only at h
 have k:=oC 3 [3,4,8] (c46 h219) k
 rcases spl h with⟨h221,h⟩|⟨h221,h⟩
 have k:=oB 3 h221 k
 rcases spl h with⟨h222,h⟩|⟨h222,h⟩
 have k:=oB 2 h222 k
 rcases spl h with⟨h223,h⟩|⟨h223,h⟩
 obtain⟨r224,h225,h⟩:=obind h
 have k:=oB 2 h223 k
 rcases spl h with⟨h226,h⟩|⟨h226,h⟩
 obtain⟨r227,h228,h⟩:=obind h
 obtain⟨r229,h230,h⟩:=obind h
 have k:=oC 0 [8] (c48 h230)<|oC 0 [5] (c48 h228)<|oK 2 [] h226 (c47 h225) k
 rcases spl h with⟨h231,h⟩|⟨h231,h⟩
 obtain⟨r232,h233,h⟩:=obind h
 obtain rfl:=sj h
 exact k8 (tF q8 0 [] (oC 0 [] (c43 h233)<|oB 0 h231 k))
 obtain rfl:=sj h
 exact k8 (tF q8 0 [] (oB 0 h231 k))
 obtain rfl:=sj h
 exact k8 (tF q8 0 [] (oK 2 [] h226 (c47 h225) k))
 obtain rfl:=sj h
 exact k8 (tF q8 0 [] (oB 2 h223 k))
 obtain rfl:=sj h
 exact k8 (tF q8 0 [] (oB 2 h222 k))
 obtain rfl:=sj h
 exact k8 (tF q8 0 [] (oB 3 h221 k))
 dsimp only at h
 have k:=oC 3 [3,4,8] (c46 h219) k
 rcases spl h with⟨h235,h⟩|⟨h235,h⟩
 have k:=oB 3 h235 k
 rcases spl h with⟨h236,h⟩|⟨h236,h⟩
 have k:=oB 2 h236 k
 rcases spl h with⟨h237,h⟩|⟨h237,h⟩
 obtain⟨r238,h239,h⟩:=obind h
 have k:=oB 2 h237 k
 rcases spl h with⟨h240,h⟩|⟨h240,h⟩
 obtain⟨r241,h242,h⟩:=obind h
 obtain⟨r243,h244,h⟩:=obind h
 have k:=oC 0 [8] (c48 h244)<|oC 0 [5] (c48 h242)<|oK 2 [] h240 (c47 h239) k
 rcases spl h with⟨h245,h⟩|⟨h245,h⟩
 obtain⟨r246,h247,h⟩:=obind h
 obtain rfl:=sj h
 exact k8 (tF q8 0 [] (oC 0 [] (c43 h247)<|oB 0 h245 k))
 obtain rfl:=sj h
 exact k8 (tF q8 0 [] (oB 0 h245 k))
 obtain rfl:=sj h
 exact k8 (tF q8 0 [] (oK 2 [] h240 (c47 h239) k))
 obtain rfl:=sj h
 exact k8 (tF q8 0 [] (oB 2 h237 k))
 obtain rfl:=sj h
 exact k8 (tF q8 0 [] (oB 2 h236 k))
 obtain rfl:=sj h
 exact k8 (tF q8 0 [] (oB 3 h235 k))
 dsimp only at h
 have k:=oC 3 [3,4,8] (c46 h219) k
 rcases spl h with⟨h249,h⟩|⟨h249,h⟩
 have k:=oB 3 h249 k
 rcases spl h with⟨h250,h⟩|⟨h250,h⟩
 have k:=oB 2 h250 k
 rcases spl h with⟨h251,h⟩|⟨h251,h⟩
 obtain⟨r252,h253,h⟩:=obind h
 have k:=oB 2 h251 k
 rcases spl h with⟨h254,h⟩|⟨h254,h⟩
 obtain⟨r255,h256,h⟩:=obind h
 obtain⟨r257,h258,h⟩:=obind h
 have k:=oC 0 [8] (c48 h258)<|oC 0 [5] (c48 h256)<|oK 2 [] h254 (c47 h253) k
 rcases spl h with⟨h259,h⟩|⟨h259,h⟩
 obtain⟨r260,h261,h⟩:=obind h
 obtain rfl:=sj h
 exact k8 (tF q8 0 [] (oC 0 [] (c43 h261)<|oB 0 h259 k))
 obtain rfl:=sj h
 exact k8 (tF q8 0 [] (oB 0 h259 k))
 obtain rfl:=sj h
 exact k8 (tF q8 0 [] (oK 2 [] h254 (c47 h253) k))
 obtain rfl:=sj h
 exact k8 (tF q8 0 [] (oB 2 h251 k))
 obtain rfl:=sj h
 exact k8 (tF q8 0 [] (oB 2 h250 k))
 obtain rfl:=sj h
 exact k8 (tF q8 0 [] (oB 3 h249 k))
 obtain⟨r659,h660,h⟩:=obind h
 obtain rfl:=sj h
 exact k8 (tF q8 0 [] (oC 1 [] (c43 h660)<|oK 0 [] h8 (c42 h7) k))
theorem ev_lawake:Evt (fun q=>e43 q) true:=evt_of 2000 fun q=>by kernel_rfl
theorem tot_small27(l:List Tm):Tot (fun q=>e42 q l) fun _=>True:=by
 simp only[e42]
 refine Tot.ite (fun _=>Tot.ret trivial) fun h=>?_
 have h':=of_decide_eq_false h
 have key:∀(r:List Tm) (v:Nat),l.drop v=r->Tot (fun q=>e42Ldp q l (v:Int)) fun _=>True:=by
  intro r
  induction r with
  |nil=>
   intro v hd
   refine Tot.succ ?_
   simp only[e42Ldp]
   refine Tot.ite (fun h=>?_) fun _=>Tot.ret trivial
   rw[drop_nil hd]at h;cases h
  |cons x r ih=>
   intro v hd
   have hlt:=drop_lt hd
   refine Tot.succ ?_
   simp only[e42Ldp]
   refine Tot.ite (fun _=>Tot.pure (drop_idx hd) (Tot.bind (P:=fun _=>True) ((ev_rSize x).tot trivial) fun _ _=>Tot.ite (fun _=>Tot.ret trivial) fun _=>?_)) fun h=>?_
   ·rw[w64_nat v (by omega)]
    exact ih (v+1) (drop_next hd)
   ·rw[drop_dec hd]at h;cases h
 exact key l 0 rfl
theorem ev_rSameAll(l:List Tm)(hl:LOk l):Evt (fun q=>e47 q l l) true:=by
 simp only[e47]
 refine Evt.ifF (by simp) ?_
 have key:∀(r:List Tm) (v:Nat),l.drop v=r->Evt (fun q=>e47Ldq q l l (v:Int)) true:=by
  intro r
  induction r with
  |nil=>
   intro v hd
   refine Evt.succ ?_
   simp only[e47Ldq]
   exact Evt.ifF (drop_nil hd) Evt.ret
  |cons x r ih=>
   intro v hd
   have hlt:=drop_lt hd
   have:=hl.2
   refine Evt.succ ?_
   simp only[e47Ldq]
   refine Evt.ifT (drop_dec hd) (Evt.pure (drop_idx hd) (Evt.pure (drop_idx hd) ((ev_rEqual x (okL_all hl.1 x (List.mem_of_mem_drop (by rw[hd];simp)))).bind (Evt.ifT rfl ?_))))
   rw[w64_nat v (by omega)]
   exact ih (v+1) (drop_next hd)
 exact key l 0 rfl
theorem ev_mUsed(L U:Int):Evt (fun q=>e48 q L U) U:=Evt.mk fun q=>by
 simp only[e48,e113vado];rfl
theorem ev_LeafFuel(t:CoverTree)(as0:List Tm)(a b:Int)(ho:okT t)(ha:∀x∈as0,x.Ok)(h0:0≤a∧a≤255)(h1:0≤b∧b≤255):Evt (fun q=>e8 q t as0 (A2U8.mk a b)) true:=by
 obtain⟨h0a,h0b⟩:=h0
 obtain⟨h1a,h1b⟩:=h1
 simp only[e8,ct_eta]
 obtain⟨r1,h,hr⟩:=tot_tree t 200 ho (by omega) (by omega)
 refine h.bind (Evt.iff (fun _=>ev_lawake.bind Evt.ret) fun hp=>?_)
 have hp':=of_decide_eq_false hp
 obtain⟨hd,hs⟩:=hr.2.2 (by omega)
 obtain⟨bb,hb,-⟩:=tot_small27 as0
 refine hb.bind (Evt.iff (fun _=>?_) fun _=>ev_lawake.bind Evt.ret)
 obtain⟨N,hE,hn⟩:=base_new
 refine ev_Base.bind (hn.bind ?_)
 have ea:w64 a=a:=w64_id (by omega) (by omega)
 have eb:w64 b=b:=w64_id (by omega) (by omega)
 rw[ea,eb,w64_id (x:=a+b) (by omega) (by omega)]
 unfold newT
 rw[if_pos rfl]
 dsimp only
 refine(ev_mNew a (by omega) (by omega)).bind ?_
 dsimp only
 rcases out_Down baseL hE baseL_ok t as0 ha ho hs (by omega) a h0a with⟨R,k,k0,k1,hQ,h3,-⟩|⟨hsh,-⟩
 ·have e1:=h3 a 0 k1 (by omega) (by omega)
  have e2:=h3 (a+b) 0 (by omega) (by omega) (by omega)
  have m2:=ev_mNew (a+b) (by omega) (by omega)
  rcases hQ with⟨y,e,hy,rfl⟩|⟨y1,y2,y3,y4,y5,e,hy,rfl⟩|⟨y1,y2,y3,e,hy,rfl⟩
  ·refine Evt.bind e1 ?_
   dsimp only
   refine Evt.iff (fun _=>ev_lawake.bind Evt.ret) fun _=>m2.bind ?_
   dsimp only
   refine Evt.bind e2 ?_
   dsimp only
   exact Evt.ifT (by simp) (Evt.ifT (by simp) (Evt.ifT (by simp) ((ev_rSameAll _ hy).bind (Evt.ifT rfl ((ev_mUsed _ _).bind ((ev_mUsed _ _).bind (Evt.ifT (by simp) (ev_lawake.bind Evt.ret))))))))
  ·refine Evt.bind e1 ?_
   dsimp only
   refine Evt.iff (fun _=>ev_lawake.bind Evt.ret) fun _=>m2.bind ?_
   dsimp only
   refine Evt.bind e2 ?_
   dsimp only
   exact Evt.ifT (by simp) (Evt.ifT (by simp) (Evt.ifT (by simp) ((ev_rSameAll _ hy).bind (Evt.ifT rfl ((ev_mUsed _ _).bind ((ev_mUsed _ _).bind (Evt.ifT (by simp) (ev_lawake.bind Evt.ret))))))))
  ·refine Evt.bind e1 ?_
   dsimp only
   refine Evt.iff (fun _=>ev_lawake.bind Evt.ret) fun _=>m2.bind ?_
   dsimp only
   refine Evt.bind e2 ?_
   dsimp only
   exact Evt.ifT (by simp) (Evt.ifT (by simp) (Evt.ifT (by simp) ((ev_rSameAll _ hy).bind (Evt.ifT rfl ((ev_mUsed _ _).bind ((ev_mUsed _ _).bind (Evt.ifT (by simp) (ev_lawake.bind Evt.ret))))))))
 ·obtain⟨r,hr8,h8⟩:=hsh 0 (by omega) (by omega)
  refine Evt.bind hr8 ?_
  match r,h8 with
  | .inl y,h8=>exact Evt.ifT (by have h8':y.2.1=8:=h8;rw[h8'];rfl) (ev_lawake.bind Evt.ret)
  | .inr (.inl y),h8=>exact Evt.ifT (by have h8':y.2.2.2.2.2.1=8:=h8;rw[h8'];rfl) (ev_lawake.bind Evt.ret)
  | .inr (.inr y),h8=>exact Evt.ifT (by have h8':y.2.2.2.1=8:=h8;rw[h8'];rfl) (ev_lawake.bind Evt.ret)
theorem okL_each:∀ {l:List Tm},OkL l->∀x∈l,x.Ok
 | [],_,_,h=>nomatch h
 |a::l,⟨h1,h2⟩,x,hx=>by
  rcases List.mem_cons.1 hx with rfl|hx
  ·exact h1
  ·exact okL_each h2 x hx
theorem leafFuel_ct(t:CoverTree)(as0:List Tm)(fu:A2U8)(w0:okT t)(w1:OkL as0∧as0.length<9223372036854775808)(w2:RdA2U8 fu):CT Tryz.prog 8 [] [coverTreeA t,.sl (flat tmCells as0) as0.length .no,.agg (a2U8L fu)] (ab true) [] 0:=by
 obtain⟨a,b⟩:=fu
 obtain⟨⟨h0,h1⟩,h2,h3⟩:=w2
 have h0':(0:Int)≤a:=h0
 have h1':(a:Int)<256:=h1
 have h2':(0:Int)≤b:=h2
 have h3':(b:Int)<256:=h3
 obtain⟨q,hq⟩:=(ev_LeafFuel t as0 a b w0 (okL_each w1.1) ⟨h0',Int.le_of_lt_add_one h1'⟩ ⟨h2',Int.le_of_lt_add_one h3'⟩).at
 exact c8 hq
end Go.Proofs.YtmfcobjnlabpoaaGreat
