/- Parts of the proof that the law returns true: walks of the functions, plain laws. -/
import Derived.Test.YtfbkefchjcocmaaGreatAbB3
set_option linter.unusedVariables false
set_option linter.unusedSimpArgs false
set_option linter.unusedSectionVars false
namespace Go.Proofs.YtfbkefchjcocmaaGreat
open Go Go.Ab Go.Proofs.Tryz
def zPz(qq:Nat)(p0:yV)(p1:Int):Option Bool:=
 zW p0 p1>>=fun x1=>
 zLS qq x1.body p1>>=fun r3=>
 if r3 then
 if x1.fam==0 then
 if x1.place==0 then
 if x1.pars==0 then
 if x1.inds==0 then
 if x1.level==0 then
 some ((xL ((x1.cons.length:Int)+(x1.fields.length:Int)))==0)
 else
 some false
 else
 some false
 else
 some false
 else
 some false
 else
 some false
 else
 some false
theorem zHP:Qf 157 f157:=⟨func157,rfl⟩
theorem yBh{qq p0 p1 r}(h:zPz qq p0 p1=some r):Ct 157 [] [zV xJ p0 .no,ai p1] (ab r) [] 0:=⟨by
 unfold zPz at h
 obtain⟨x1,h2,h⟩:=zC h
 obtain⟨r3,h4,h⟩:=zC h
 have k:=oA 0 (wI (o:=.no) h2) o0
 obtain⟨h5,h⟩|⟨h5,h⟩:=zU h
 have k:=oK 3 [] h5 (zSB h4) k
 obtain⟨h6,h⟩|⟨h6,h⟩:=zU h
 have k:=oB 1 h6 k
 obtain⟨h7,h⟩|⟨h7,h⟩:=zU h
 have k:=oB 1 h7 k
 obtain⟨h8,h⟩|⟨h8,h⟩:=zU h
 have k:=oB 1 h8 k
 obtain⟨h9,h⟩|⟨h9,h⟩:=zU h
 have k:=oB 1 h9 k
 obtain⟨h10,h⟩|⟨h10,h⟩:=zU h
 cases h
 exact tF zHP 6 [] (oB 1 h10 k)
 cases h
 exact tF zHP 0 [] (oB 1 h10 k)
 cases h
 exact tF zHP 0 [] (oB 1 h9 k)
 cases h
 exact tF zHP 0 [] (oB 1 h8 k)
 cases h
 exact tF zHP 0 [] (oB 1 h7 k)
 cases h
 exact tF zHP 0 [] (oB 1 h6 k)
 cases h
 exact tF zHP 0 [] (oK 3 [] h5 (zSB h4) k),⟨⟨tv,dE _⟩,tv,tv⟩,zB,tv,zB⟩
def p8(l:List yI)(x:yI):List Int:=if x.kind=4 then(ent l x.fam).fields else(ent l x.fam).cons
def zSK(l:List yI)(i:Int)(x:yI):Bool:=
 aN l x.fam 1&&decide (x.fam<i)&&x.pars==(ent l x.fam).pars&&bL x.body&&x.inds==0&&x.level==0&&decide (x.cons.length=0)&&decide (x.fields.length=0)
def zPy(l:List yI)(i:Int)(x:yI):Bool:=
 decide (0≤x.place)&&decide (x.place<(p8 l x).length)&&((p8 l x)[x.place.toNat]?).getD (-1)==i
def lD(l:List yI)(i:Int):Bool:=zSK l i (ent l i)&&zPy l i (ent l i)
theorem zMz{L:List Int}{n:Int}(h0:0≤n)(h1:n<L.length):zW L n=some ((L[n.toNat]?).getD (-1)):=by
 unfold zW
 rw[if_pos h0]
 have:n.toNat<L.length:=by omega
 rw[List.getElem?_eq_getElem this];rfl
theorem zFo(l:List yI)(i:Int)(h0:0≤i)(h1:i<l.length)(he:∀e∈l,eK e):zJ (fun q=>zLZ q l i) (lD l i):=by
 simp only[zLZ]
 refine zJ.pure (yT h0 h1) ((zUi l _ 1).bind ?_)
 have hx:=he _ (mH h0 h1)
 have hc:(ent l i).cons.length≤1152921504606846976:=hx.2.2.1
 have hf:(ent l i).fields.length≤1152921504606846976:=hx.2.2.2
 unfold lD zSK
 by_cases a1:aN l (ent l i).fam 1=true
 ·have hs:=tM a1
  refine zJ.ifT a1 ?_
  by_cases a2:(ent l i).fam≥i
  ·exact zJ.ifT (decide_eq_true a2) (zJ.ret.eq (by simp[show ¬(ent l i).fam<i by omega]))
  refine zJ.ifF (decide_eq_false a2) (zJ.pure (yT hs.1 hs.2.1) ?_)
  by_cases a3:(ent l i).pars=(ent l (ent l i).fam).pars
  ·refine zJ.ifF (by simp[a3]) ((zCM _).bind ?_)
   by_cases a4:bL (ent l i).body=true
   ·refine zJ.ifT a4 ?_
    by_cases a5:(ent l i).inds=0
    ·refine zJ.ifF (by simp[a5]) ?_
     by_cases a6:(ent l i).level=0
     ·refine zJ.ifF (by simp[a6]) ?_
      rw[yW (x:=((ent l i).cons.length:Int)+((ent l i).fields.length:Int)) (by omega) (by omega)]
      by_cases a7:(ent l i).cons.length=0∧(ent l i).fields.length=0
      ·refine zJ.ifF (decide_eq_false (by omega)) ?_
       have last:∀L:List Int,p8 l (ent l i)=L->zJ (fun _=>if decide ((ent l i).place≥0)=true then if decide ((ent l i).place<(List.length L:Int))=true then(zW L (ent l i).place)>>=fun x19=>some (x19==i)else some false else some false) (zPy l i (ent l i)):=fun L hL=>by
        unfold zPy
        rw[hL]
        by_cases b1:(ent l i).place≥0
        ·refine zJ.ifT (decide_eq_true b1) ?_
         by_cases b2:(ent l i).place<(L.length:Int)
         ·exact zJ.ifT (decide_eq_true b2) (zJ.pure (zMz b1 b2) (zJ.ret.eq (by simp[show 0≤(ent l i).place from b1,b2])))
         ·exact zJ.ifF (decide_eq_false b2) (zJ.ret.eq (by simp[b2]))
        ·exact zJ.ifF (decide_eq_false b1) (zJ.ret.eq (by simp[show ¬0≤(ent l i).place from b1]))
       have e:(aN l (ent l i).fam 1&&decide ((ent l i).fam<i)&&(ent l i).pars==(ent l (ent l i).fam).pars&&bL (ent l i).body&&(ent l i).inds==0&&(ent l i).level==0&&decide ((ent l i).cons.length=0)&&decide ((ent l i).fields.length=0))=true:=by
        simp[a1,show (ent l i).fam<i by omega,a3,a4,a5,a6,a7.1,a7.2]
       rw[e,Bool.true_and]
       by_cases a8:(ent l i).kind=4
       ·exact zJ.ifT (by simp[a8]) (last _ (by unfold p8;rw[if_pos a8]))
       ·exact zJ.ifF (by simp[a8]) (last _ (by unfold p8;rw[if_neg a8]))
      ·refine zJ.ifT (decide_eq_true (by omega)) (zJ.ret.eq ?_)
       have:decide ((ent l i).cons.length=0)=false∨decide ((ent l i).fields.length=0)=false:=by
        by_cases h:(ent l i).cons.length=0
        ·exact .inr (decide_eq_false fun h'=>a7 ⟨h,h'⟩)
        ·exact .inl (decide_eq_false h)
       rcases this with h|h<;>rw[h]<;>simp
     ·exact zJ.ifT (by simp[a6]) (zJ.ret.eq (by simp[a6]))
    ·exact zJ.ifT (by simp[a5]) (zJ.ret.eq (by simp[a5]))
   ·exact zJ.ifF (by simpa using a4) (zJ.ret.eq (by simp[a4]))
  ·exact zJ.ifT (by simp[a3]) (zJ.ret.eq (by simp[a3]))
 ·exact zJ.ifF (by simpa using a1) (zJ.ret.eq (by simp[a1]))
theorem wU{l:List yI}{i:Int}(h:mI l i=true):0≤(ent l i).pars∧0≤(ent l i).inds∧(ent l i).pars+(ent l i).inds≤24∧(ent l i).cons.length≤16:=by
 unfold mI zHO zFp at h
 simp only[Bool.and_eq_true,decide_eq_true_eq]at h
 exact⟨by omega,by omega,by omega,by omega⟩
theorem rK{l:List yI}{i:Int}(h:lD l i=true):0≤(ent l i).fam∧(ent l i).fam<i∧(ent l (ent l i).fam).kind=1∧(ent l i).pars=(ent l (ent l i).fam).pars∧0≤(ent l i).place∧(ent l i).place<(p8 l (ent l i)).length:=by
 unfold lD zSK zPy at h
 simp only[Bool.and_eq_true,decide_eq_true_eq,beq_iff_eq]at h
 have hs:=tM h.1.1.1.1.1.1.1.1
 exact⟨hs.1,h.1.1.1.1.1.1.1.2,hs.2.2,h.1.1.1.1.1.1.2,h.2.1.1,h.2.1.2⟩
def zCN(l:List yI)(i:Int):Prop:=∀j,0≤j->j<i->(ent l j).kind=1->mI l j=true
def zHQ(l:List yI)(i:Int):Bool:=
 lD l i&&((yX (ent l i).type).2.2==0&&(decide ((ent l i).pars≤(yX (ent l i).type).1.length)&&pF (yX (ent l i).type).2.1 (ent l i).fam (ent l i).pars (ent l (ent l i).fam).inds (yX (ent l i).type).1.length))
theorem zVD(l:List yI)(i:Int)(h0:0≤i)(h1:i<l.length)(he:∀e∈l,eK e)(hF:zCN l i):zJ (fun q=>zOY q l i) (zHQ l i):=by
 simp only[zOY]
 have hx:=he _ (mH h0 h1)
 refine zJ.pure (yT h0 h1) ((F4 _ hx.1).bind ((zFo l i h0 h1 he).bind ?_))
 unfold zHQ
 by_cases a1:lD l i=true
 ·have hs:=rK a1
  have hf:=wU (hF _ hs.1 hs.2.1 hs.2.2.1)
  refine zJ.ifT a1 ?_
  rw[a1,Bool.true_and]
  by_cases a2:(yX (ent l i).type).2.2=0
  ·refine zJ.ifT (by simp[a2]) ?_
   have hw:=qS (t:=(ent l i).type) (l:=(yX (ent l i).type).1) (y:=(yX (ent l i).type).2.1) (by rw[←a2])
   by_cases a3:(ent l i).pars≤(yX (ent l i).type).1.length
   ·refine zJ.ifT (decide_eq_true a3) (zJ.pure (yT hs.1 (by omega)) ((aM _ _ _ _ _ hw.2.2.2.2.1 (by omega) (by omega) (by have:=hw.2.2.1;omega)).bind (zJ.ret.eq (by simp[a2,a3]))))
   ·exact zJ.ifF (decide_eq_false a3) (zJ.ret.eq (by simp[a3]))
  ·exact zJ.ifF (by simp[a2]) (zJ.ret.eq (by simp[a2]))
 ·exact zJ.ifF (by simpa using a1) (zJ.ret.eq (by simp[a1]))
def tJ(l:List Tm)(n:Int):Tm:=(l[n.toNat]?).getD zT
theorem sA{l:List Tm}{n:Int}(h0:0≤n)(h1:n<l.length):zW l n=some (tJ l n):=by
 unfold zW tJ
 rw[if_pos h0]
 have:n.toNat<l.length:=by omega
 rw[List.getElem?_eq_getElem this];rfl
theorem rW{l:List Tm}{n:Int}(h0:0≤n)(h1:n<l.length):tJ l n∈l:=by
 unfold tJ
 have:n.toNat<l.length:=by omega
 rw[List.getElem?_eq_getElem this]
 exact List.getElem_mem this
def F5(l:List yI)(i:Int):Bool:=
 lD l i&&((uX (ent l i).type ((ent l i).pars+1)).2.2==0&&pF (tJ (uX (ent l i).type ((ent l i).pars+1)).1 (ent l i).pars) (ent l i).fam (ent l i).pars 0 (ent l i).pars)
theorem zSL(l:List yI)(i:Int)(h0:0≤i)(h1:i<l.length)(he:∀e∈l,eK e)(hF:zCN l i):zJ (fun q=>zOZ q l i) (F5 l i):=by
 simp only[zOZ]
 have hx:=he _ (mH h0 h1)
 refine(zFo l i h0 h1 he).bind ?_
 unfold F5
 by_cases a1:lD l i=true
 ·have hs:=rK a1
  have hf:=wU (hF _ hs.1 hs.2.1 hs.2.2.1)
  refine zJ.ifT a1 (zJ.pure (yT h0 h1) ?_)
  rw[a1,Bool.true_and,yW (x:=(ent l i).pars+1) (by omega) (by omega)]
  refine(F3 _ _ hx.1).bind ?_
  by_cases a2:(uX (ent l i).type ((ent l i).pars+1)).2.2=0
  ·have hw:=zBm (t:=(ent l i).type) (n:=(ent l i).pars+1) (l:=(uX (ent l i).type ((ent l i).pars+1)).1) (y:=(uX (ent l i).type ((ent l i).pars+1)).2.1) (by rw[←a2])
   refine zJ.ifT (by simp[a2]) (zJ.pure (sA (by omega) (by omega)) ((aM _ _ _ _ _ (hw.2.2.2.2.2.2 _ (rW (by omega) (by omega))) (by omega) (by omega) (by omega)).bind (zJ.ret.eq (by simp[a2]))))
  ·exact zJ.ifF (by simp[a2]) (zJ.ret.eq (by simp[a2]))
 ·exact zJ.ifF (by simpa using a1) (zJ.ret.eq (by simp[a1]))
def zHR(l:List yI)(i:Int):Bool:=
 tZ (ent l i).body i&&((ent l i).fam==0&&((ent l i).place==0&&((ent l i).pars==0&&((ent l i).inds==0&&((ent l i).level==0&&(decide ((ent l i).cons.length=0)&&decide ((ent l i).fields.length=0)))))))
theorem zVE(l:List yI)(i:Int)(h0:0≤i)(h1:i<l.length)(he:∀e∈l,eK e):zJ (fun q=>zPz q l i) (zHR l i):=by
 simp only[zPz]
 have hx:=he _ (mH h0 h1)
 have hc:(ent l i).cons.length≤1152921504606846976:=hx.2.2.1
 have hf:(ent l i).fields.length≤1152921504606846976:=hx.2.2.2
 refine zJ.pure (yT h0 h1) ((s9 _ i hx.2.1).bind ?_)
 unfold zHR
 by_cases a1:tZ (ent l i).body i=true
 ·refine zJ.ifT a1 ?_
  rw[a1,Bool.true_and,yW (x:=((ent l i).cons.length:Int)+((ent l i).fields.length:Int)) (by omega) (by omega)]
  have e:(((ent l i).cons.length:Int)+((ent l i).fields.length:Int)==0)=(decide ((ent l i).cons.length=0)&&decide ((ent l i).fields.length=0)):=by
   rw[Bool.eq_iff_iff]
   simp only[beq_iff_eq,Bool.and_eq_true,decide_eq_true_eq]
   omega
  rw[e]
  refine zJ.mk fun q=>?_
  generalize (decide ((ent l i).cons.length=0)&&decide ((ent l i).fields.length=0))=z
  by_cases b1:(ent l i).fam=0<;>by_cases b2:(ent l i).place=0<;>by_cases b3:(ent l i).pars=0<;>by_cases b4:(ent l i).inds=0<;>by_cases b5:(ent l i).level=0<;>simp[b1,b2,b3,b4,b5]
 ·exact zJ.ifF (by simpa using a1) (zJ.ret.eq (by simp[a1]))
def gF:Nat->yV->List ByteArray->Int->Option (List ByteArray)
 |0,_,_,_=>none
 |qq+1,p0,v3,v8=>
 if decide (v8<(p0.length:Int))then
 zW p0 v8>>=fun x2=>
 xF 16 v3 [x2.name]>>=fun l4=>
 gF qq p0 l4 (xL (v8+1))
 else
 some v3
def zPx(qq:Nat)(p0:yV):Option (List ByteArray):=
 gF qq p0 [] 0
theorem zSM:∀qq:Nat,(∀ {p0 v3 v8 r},gF qq p0 v3 v8=some r->(∀j,dL 0 (pt 4021 f119) (sp j 19 0 [(3,zV N2 v3 (.st 0 1)),(6,zV xJ p0 .no),(7,ai (p0.length:Int)),(8,ai v8)]) (⟨[],0,[0],1,[]⟩) (fQ 0 (nQ 0 f119 (.sl (zG N2 r) r.length .no) [] 0) [.blk 0,.seq (pt 63 f119)]))):=by
 intro qq
 induction qq with
 |zero=>
  exact fun h=>nn h
 |succ qq ih=>
  intro p0 v3 v8 r h
  rw[gF]at h
  obtain⟨h1,h⟩|⟨h1,h⟩:=zU h
  obtain⟨x2,h3,h⟩:=zC h
  obtain⟨l4,h5,h⟩:=zC h
  exact fun j=>lH 1 [] [] [1] [3,6,7,8] (oD (dE p0)<|oD (dS l4)<|oP 4 (zVp h5 (by simp))<|oA 0 (wI (o:=.no) h3)<|oB 0 h1 o0) (ih h)
  obtain rfl:=sj h
  exact fun j=>lF 0 [] (oD (dS v3)<|oB 0 h1 o0)
theorem yBg{qq p0 r}(h:zPx qq p0=some r):Ct 119 [] [zV xJ p0 .no] (.sl (zG N2 r) r.length .no) [] 0:=⟨by
 unfold zPx at h
 exact tH ⟨func119,rfl⟩ 1 [(none,3,1)] [] [0] [3,6,7,8] (oD (dE p0)<|oD (dS ([]:List ByteArray)) o0) (zSM _ h),⟨⟨tv,dE _⟩,tv⟩,zB,dS _,zB⟩
def zPw(qq:Nat)(p0:yV)(p1:Int):Option Bool:=
 zW p0 p1>>=fun x1=>
 zHM qq x1.name>>=fun r3=>
 if r3 then
 zLS qq x1.type p1>>=fun r6=>
 if r6 then
 if x1.kind==1 then
 zOX qq p0 p1>>=fun r10=>
 some r10
 else
 if x1.kind==2 then
 zOY qq p0 p1>>=fun r13=>
 some r13
 else
 if x1.kind==4 then
 zOZ qq p0 p1>>=fun r16=>
 some r16
 else
 if x1.kind==3 then
 zPz qq p0 p1>>=fun r19=>
 some r19
 else
 some false
 else
 some false
 else
 some false
theorem zHS:Qf 120 f120:=⟨func120,rfl⟩
theorem zYN{qq p0 p1 r}(h:zPw qq p0 p1=some r):Ct 120 [] [zV xJ p0 .no,ai p1] (ab r) [] 0:=⟨by
 unfold zPw at h
 obtain⟨x1,h2,h⟩:=zC h
 obtain⟨r3,h4,h⟩:=zC h
 have k:=oA 0 (wI (o:=.no) h2) o0
 obtain⟨h5,h⟩|⟨h5,h⟩:=zU h
 obtain⟨r6,h7,h⟩:=zC h
 have k:=oA 1 (wI (o:=.no) h2)<|oK 1 [] h5 (zYL h4) k
 obtain⟨h8,h⟩|⟨h8,h⟩:=zU h
 have k:=oA 1 (wI (o:=.no) h2)<|oK 1 [] h8 (zSB h7) k
 obtain⟨h9,h⟩|⟨h9,h⟩:=zU h
 obtain⟨r10,h11,h⟩:=zC h
 obtain rfl:=sj h
 exact tF zHS 0 [] (oC 0 [] (yBk h11)<|oB 1 h9 k)
 have k:=oB 1 h9 k
 obtain⟨h12,h⟩|⟨h12,h⟩:=zU h
 obtain⟨r13,h14,h⟩:=zC h
 obtain rfl:=sj h
 exact tF zHS 0 [] (oC 0 [] (yBj h14)<|oB 0 h12 k)
 have k:=oB 0 h12 k
 obtain⟨h15,h⟩|⟨h15,h⟩:=zU h
 obtain⟨r16,h17,h⟩:=zC h
 obtain rfl:=sj h
 exact tF zHS 0 [] (oC 0 [] (yBi h17)<|oB 0 h15 k)
 have k:=oB 0 h15 k
 obtain⟨h18,h⟩|⟨h18,h⟩:=zU h
 obtain⟨r19,h20,h⟩:=zC h
 obtain rfl:=sj h
 exact tF zHS 0 [] (oC 0 [] (yBh h20)<|oB 0 h18 k)
 obtain rfl:=sj h
 exact tF zHS 0 [] (oB 0 h18 k)
 obtain rfl:=sj h
 exact tF zHS 1 [] (oK 1 [] h8 (zSB h7) k)
 obtain rfl:=sj h
 exact tF zHS 1 [] (oK 1 [] h5 (zYL h4) k),⟨⟨tv,dE _⟩,tv,tv⟩,zB,tv,zB⟩
def zUh(qq:Nat)(p0:zZ):Option zZ:=
 some []
theorem zYO{qq p0 r}(h:zUh qq p0=some r):Ct 89 [] [zV yC p0 .nl] (.sl (zG yC r) r.length .no) [] 0:=⟨by
 unfold zUh at h
 cases h
 exact tF ⟨func89,rfl⟩ 1 [] (oD (dI ([]:zZ)) o0),⟨⟨tv,dI _⟩,tv⟩,zB,dI _,zB⟩
def zJD(qq:Nat)(p0:zZ):Option zZ:=
 xF 8 ([]:zZ) p0>>=fun l1=>
 some l1
theorem zUg:Qf 89 f89:=⟨func89,rfl⟩
theorem zYP{qq p0 r}(h:zJD qq p0=some r):Ct 89 [] [zV yC p0 .nn] (.sl (zG yC r) r.length .no) [] 0:=⟨by
 unfold zJD at h
 obtain⟨l1,h2,h⟩:=zC h
 by_cases h3:List.length p0=0
 obtain rfl:=sj h
 exact tF zUg 0 [] (oD (dI l1)<|oP 2 (zNU h2 h3) o0)
 obtain rfl:=sj h
 exact tF zUg 0 [] (oD (dI l1)<|oP 2 (qF h2 h3) o0),⟨⟨tv,dI _⟩,tv⟩,zB,dI _,zB⟩
def e89(_qq:Nat)(p0:zZ):Option zZ:=xF 8 [] p0
theorem c89{qq:Nat}{p0:zZ}{r:zZ}(h:e89 qq p0=some r):CT prog 89 [] [.sl (zG yC p0) p0.length .no] (.sl (zG yC r) r.length .no) [] 0:=by
 have hr:r=p0:=by have:=(mN h).2;simpa using this
 have h1:zJD qq p0=some r:=by unfold zJD;rw[show xF 8 ([]:zZ) p0=some r from h];rfl
 have k1:=zYP h1
 refine⟨tU.nilcase (fun hn=>?_) k1.tri,⟨⟨trivial,dI _⟩,trivial⟩,(fun _ h=>nomatch h),dI _,(fun _ h=>nomatch h)⟩
 have hp:p0=[]:=Z0 aC (by decide) hn
 subst hr
 subst hp
 exact(zYO (qq:=qq) rfl).tri
def aO:Nat->yV->yV->Int->Option yV
 |0,_,_,_=>none
 |qq+1,p0,v3,v8=>
 if decide (v8<(p0.length:Int))then
 zW p0 v8>>=fun x2=>
 e53 qq x2.type>>=fun r4=>
 e53 qq x2.body>>=fun r6=>
 e89 qq x2.cons>>=fun r8=>
 e89 qq x2.fields>>=fun r10=>
 xF 192 v3 [(yI.mk x2.kind x2.name r4 r6 x2.fam x2.place x2.pars x2.inds x2.level r8 r10)]>>=fun l12=>
 aO qq p0 l12 (xL (v8+1))
 else
 some v3
def e58(qq:Nat)(p0:yV):Option yV:=
 aO qq p0 [] 0
theorem zVG:∀qq:Nat,(∀ {p0 v3 v8 r},aO qq p0 v3 v8=some r->(∀j,dL 0 (pt 4021 f58) (sp j 34 0 [(3,zV xJ v3 (.st 0 15)),(6,zV xJ p0 .no),(7,ai (p0.length:Int)),(8,ai v8)]) (⟨[],0,[0],1,[]⟩) (fQ 0 (nQ 0 f58 (.sl (zG xJ r) r.length .no) [] 0) [.blk 0,.seq (pt 63 f58)]))):=by
 intro qq
 induction qq with
 |zero=>
  exact fun h=>nn h
 |succ qq ih=>
  intro p0 v3 v8 r h
  rw[aO]at h
  obtain⟨h1,h⟩|⟨h1,h⟩:=zU h
  obtain⟨x2,h3,h⟩:=zC h
  obtain⟨r4,h5,h⟩:=zC h
  obtain⟨r6,h7,h⟩:=zC h
  obtain⟨r8,h9,h⟩:=zC h
  obtain⟨r10,h11,h⟩:=zC h
  obtain⟨l12,h13,h⟩:=zC h
  exact fun j=>lH 1 [] [] [1] [3,6,7,8] (oD (dE p0)<|oD (dE l12)<|oP 4 (zXX h13 (by simp))<|oC 0 [] (c89 h11)<|aH 0<|oC 3 [] (c89 h9)<|oC 1 [] (c53 h7)<|oC 3 [] (c53 h5)<|oA 0 (wI (o:=.no) h3)<|oB 0 h1 o0) (ih h)
  obtain rfl:=sj h
  exact fun j=>lF 0 [] (oD (dE v3)<|oB 0 h1 o0)
theorem c58{qq p0 r}(h:e58 qq p0=some r):Ct 58 [] [zV xJ p0 .no] (.sl (zG xJ r) r.length .no) [] 0:=⟨by
 unfold e58 at h
 exact tH ⟨func58,rfl⟩ 1 [(none,3,15)] [] [0] [3,6,7,8] (oD (dE p0)<|oD (dE ([]:yV)) o0) (zVG _ h),⟨⟨tv,dE _⟩,tv⟩,zB,dE _,zB⟩
def aP:Nat->yV->Int->Option Bool
 |0,_,_=>none
 |qq+1,p0,v15=>
 if decide (v15<(p0.length:Int))then
 zPw qq p0 v15>>=fun r8=>
 if r8 then
 aP qq p0 (xL (v15+1))
 else
 some false
 else
 some true
def e87(qq:Nat)(p0:yV):Option Bool:=
 if decide ((p0.length:Int)>256)then
 some false
 else
 zPx qq p0>>=fun r2=>
 zLL qq r2>>=fun r4=>
 if r4 then
 aP qq p0 0
 else
 some false
theorem q87:Qf 87 f87:=⟨func87,rfl⟩
theorem zVH:∀qq:Nat,(∀ {p0 v15 r},aP qq p0 v15=some r->(∀j,dL 0 (pt 4021 f87) (sp j 23 0 [(0,zV xJ p0 .no),(14,ai (p0.length:Int)),(15,ai v15)]) (⟨[],0,[],0,[]⟩) (fQ 0 (nQ 0 f87 (ab r) [] 0) [.blk 0,.seq (pt 63 f87)]))):=by
 intro qq
 induction qq with
 |zero=>
  exact fun h=>nn h
 |succ qq ih=>
  intro p0 v15 r h
  rw[aP]at h
  obtain⟨h7,h⟩|⟨h7,h⟩:=zU h
  obtain⟨r8,h9,h⟩:=zC h
  have k:=oB 0 h7 o0
  obtain⟨h10,h⟩|⟨h10,h⟩:=zU h
  exact fun j=>lH 2 [] [] [] [0,14,15] (oD (dE p0)<|oK 0 [] h10 (zYN h9) k) (ih h)
  cases h
  exact fun j=>lF 1 [] (oK 0 [] h10 (zYN h9) k)
  cases h
  exact fun j=>lF 0 [] (oB 0 h7 o0)
theorem c87{qq p0 r}(h:e87 qq p0=some r):Ct 87 [] [zV xJ p0 .no] (ab r) [] 0:=⟨by
 unfold e87 at h
 obtain⟨h1,h⟩|⟨h1,h⟩:=zU h
 cases h
 exact tF q87 0 [] (oB 1 h1 o0)
 obtain⟨r2,h3,h⟩:=zC h
 obtain⟨r4,h5,h⟩:=zC h
 have k:=oC 0 [] (yBg h3)<|oB 1 h1 o0
 obtain⟨h6,h⟩|⟨h6,h⟩:=zU h
 exact tH q87 2 [] [] [] [0,14,15] (oD (dE p0)<|oK 0 [] h6 (zYE h5) k) (zVH _ h)
 cases h
 exact tF q87 1 [] (oK 0 [] h6 (zYE h5) k),⟨⟨tv,dE _⟩,tv⟩,zB,tv,zB⟩
def kW(N:ByteArray->Bool)(l:List yI)(i:Int):Bool:=
 N (ent l i).name&&(tZ (ent l i).type i &&
  (if (ent l i).kind=1 then mI l i else if (ent l i).kind=2 then zHQ l i else if (ent l i).kind=4 then F5 l i else if (ent l i).kind=3 then zHR l i else false))
def zMy(N:ByteArray->Bool)(l:List yI):Nat->Nat->Bool
 |0,_=>true
 |m+1,v=>kW N l v&&zMy N l m (v+1)
def cC(N:ByteArray->Bool):Prop:=∀s,zJ (fun q=>zHM q s) (N s)
theorem zFn:∃N,cC N:=by
 have h:∀s,∃b,zJ (fun q=>zHM q s) b:=fun s=>by
  obtain⟨b,hb,_⟩:=zHN s
  exact⟨b,hb⟩
 exact⟨fun s=>Classical.choose (h s),fun s=>Classical.choose_spec (h s)⟩
theorem zPv(N:ByteArray->Bool)(hN:cC N)(l:List yI)(i:Int)(h0:0≤i)(h1:i<l.length)(hl:l.length≤65535)(he:∀e∈l,eK e)(hF:zCN l i):zJ (fun q=>zPw q l i) (kW N l i):=by
 simp only[zPw]
 have hx:=he _ (mH h0 h1)
 refine zJ.pure (yT h0 h1) ((hN _).bind ?_)
 unfold kW
 by_cases a1:N (ent l i).name=true
 ·refine zJ.ifT a1 ((s9 _ i hx.1).bind ?_)
  rw[a1,Bool.true_and]
  by_cases a2:tZ (ent l i).type i=true
  ·refine zJ.ifT a2 ?_
   rw[a2,Bool.true_and]
   by_cases k1:(ent l i).kind=1
   ·rw[if_pos k1];exact zJ.ifT (by simp[k1]) ((zLY l i h0 h1 hl he).bind zJ.ret)
   rw[if_neg k1]
   refine zJ.ifF (by simp[k1]) ?_
   by_cases k2:(ent l i).kind=2
   ·rw[if_pos k2];exact zJ.ifT (by simp[k2]) ((zVD l i h0 h1 he hF).bind zJ.ret)
   rw[if_neg k2]
   refine zJ.ifF (by simp[k2]) ?_
   by_cases k4:(ent l i).kind=4
   ·rw[if_pos k4];exact zJ.ifT (by simp[k4]) ((zSL l i h0 h1 he hF).bind zJ.ret)
   rw[if_neg k4]
   refine zJ.ifF (by simp[k4]) ?_
   by_cases k3:(ent l i).kind=3
   ·rw[if_pos k3];exact zJ.ifT (by simp[k3]) ((zVE l i h0 h1 he).bind zJ.ret)
   ·rw[if_neg k3];exact zJ.ifF (by simp[k3]) zJ.ret
  ·exact zJ.ifF (by simpa using a2) (zJ.ret.eq (by simp[a2]))
 ·exact zJ.ifF (by simpa using a1) (zJ.ret.eq (by simp[a1]))
theorem zBl:∀(r l:List yI) (v:Nat) (acc:List ByteArray),l.drop v=r->l.length≤65535->acc.length≤v->zJ (fun q=>gF q l acc (v:Int)) (acc++r.map yI.name)
 | [],l,v,acc,hd,hl,ha=>by
  refine zJ.succ ?_
  simp only[gF]
  exact zJ.ifF (yH hd) (zJ.ret.eq (by simp))
 |x::r,l,v,acc,hd,hl,ha=>by
  have hlt:=yL hd
  refine zJ.succ ?_
  simp only[gF]
  refine zJ.ifT (yG hd) (zJ.pure (yD hd) (zJ.pure (yK (by simp<;>omega)) ?_))
  rw[yA v (by omega)]
  exact(zBl r l (v+1) _ (zY hd) hl (by simp<;>omega)).eq (by simp)
theorem zPu(l:List yI)(hl:l.length≤65535):zJ (fun q=>zPx q l) (l.map yI.name):=by
 simp only[zPx]
 exact(zBl l l 0 [] rfl hl (by simp)).eq (by simp)
theorem zHT(N:ByteArray->Bool)(hN:cC N)(l:List yI)(hl:l.length≤65535)(he:∀e∈l,eK e):∀(m v:Nat),v+m=l.length->zCN l v->zJ (fun q=>aP q l (v:Int)) (zMy N l m v):=by
 intro m
 induction m with
 |zero=>
  intro v hm hF
  refine zJ.succ ?_
  simp only[aP]
  exact zJ.ifF (decide_eq_false (by omega)) zJ.ret
 |succ m ih=>
  intro v hm hF
  refine zJ.succ ?_
  simp only[aP]
  refine zJ.ifT (decide_eq_true (by omega)) ((zPv N hN l v (by omega) (by omega) hl he hF).bind ?_)
  rw[zMy]
  by_cases h:kW N l v=true
  ·refine zJ.ifT h ?_
   rw[yA v (by omega),h,Bool.true_and]
   refine ih (v+1) (by omega) fun j hj0 hj1 hk=>?_
   by_cases e:j=v
   ·subst e
    unfold kW at h
    simp only[Bool.and_eq_true]at h
    have:=h.2.2
    rwa[if_pos hk]at this
   ·exact hF j hj0 (by omega) hk
  ·exact zJ.ifF (by simpa using h) (zJ.ret.eq (by simp[h]))
def F6(N:ByteArray->Bool)(d:Bool)(l:List yI):Bool:=decide (l.length≤256)&&(d&&zMy N l l.length 0)
theorem zMx(N:ByteArray->Bool)(hN:cC N)(l:List yI)(hl:l.length≤65535)(he:∀e∈l,eK e):∃d,zJ (fun q=>zLL q (l.map yI.name)) d∧zJ (fun q=>e87 q l) (F6 N d l):=by
 obtain⟨d,hd,_⟩:=zCL (l.map yI.name) (by simpa using hl)
 refine⟨d,hd,?_⟩
 simp only[e87]
 unfold F6
 by_cases h:l.length≤256
 ·refine zJ.ifF (decide_eq_false (by omega)) ((zPu l hl).bind (hd.bind ?_))
  cases d with
  |false=>exact zJ.ifF rfl (zJ.ret.eq (by simp))
  |true=>exact zJ.ifT rfl ((zHT N hN l hl he l.length 0 (by omega) (fun j h0 h1=>by omega)).eq (by simp[h]))
 ·exact zJ.ifT (decide_eq_true (by omega)) (zJ.ret.eq (by simp[h]))
theorem zBk{N:ByteArray->Bool}{l:List yI}:∀ {m v:Nat},zMy N l m v=true->∀j,v≤j->j<v+m->kW N l (j:Int)=true
 |0,v,_,j,h0,h1=>by omega
 |m+1,v,h,j,h0,h1=>by
  rw[zMy]at h
  simp only[Bool.and_eq_true]at h
  by_cases e:j=v
  ·subst e;exact h.1
  ·exact zBk h.2 j (by omega) (by omega)
def wP(N:ByteArray->Bool)(l:List yI):Prop:=l.length≤256∧∀i:Int,0≤i->i<l.length->kW N l i=true
theorem F7{N:ByteArray->Bool}{d:Bool}{l:List yI}(h:F6 N d l=true):wP N l:=by
 unfold F6 at h
 simp only[Bool.and_eq_true,decide_eq_true_eq]at h
 refine⟨h.1,fun i h0 h1=>?_⟩
 have:=zBk h.2.2 i.toNat (by omega) (by omega)
 rwa[show ((i.toNat:Nat):Int)=i by omega]at this
theorem xD{N:ByteArray->Bool}{l:List yI}{i:Int}(h:kW N l i=true):tZ (ent l i).type i=true ∧
  ((ent l i).kind=1->mI l i=true)∧((ent l i).kind=2->zHQ l i=true)∧((ent l i).kind=4->F5 l i=true)∧((ent l i).kind=3->zHR l i=true)∧((ent l i).kind=1∨(ent l i).kind=2∨(ent l i).kind=3∨(ent l i).kind=4):=by
 unfold kW at h
 simp only[Bool.and_eq_true]at h
 obtain⟨_,h2,h3⟩:=h
 refine⟨h2,fun k=>by rwa[if_pos k]at h3,fun k=>?_,fun k=>?_,fun k=>?_,?_⟩
 ·rwa[if_neg (by omega),if_pos k]at h3
 ·rwa[if_neg (by omega),if_neg (by omega),if_pos k]at h3
 ·rwa[if_neg (by omega),if_neg (by omega),if_neg (by omega),if_pos k]at h3
 ·split at h3
  ·exact .inl (by assumption)
  ·split at h3
   ·exact .inr (.inl (by assumption))
   ·split at h3
    ·exact .inr (.inr (.inr (by assumption)))
    ·split at h3
     ·exact .inr (.inr (.inl (by assumption)))
     ·cases h3
def zMw(e:yI):yI:=yI.mk e.kind e.name (lV e.type) (lV e.body) e.fam e.place e.pars e.inds e.level e.cons e.fields
def ECl(e:yI):Prop:=e.cons.length≤17592186044416∧e.fields.length≤17592186044416
theorem zFm:∀(r l acc:List yI) (v:Nat),l.drop v=r->l.length≤65535->(∀e∈l,eK e)->(∀e∈l,ECl e)->acc.length≤v->zJ (fun q=>aO q l acc (v:Int)) (acc++r.map zMw)
 | [],l,acc,v,hd,hl,he,hc,ha=>by
  refine zJ.succ ?_
  simp only[aO]
  exact zJ.ifF (yH hd) (zJ.ret.eq (by simp))
 |x::r,l,acc,v,hd,hl,he,hc,ha=>by
  have hlt:=yL hd
  have hx:x∈l:=by
   have:x∈l.drop v:=by rw[hd];simp
   exact List.mem_of_mem_drop this
  have hE:=he x hx
  have hC:=hc x hx
  refine zJ.succ ?_
  simp only[aO]
  refine zJ.ifT (yG hd) (zJ.pure (yD hd) ((qK _ hE.1).bind ((qK _ hE.2.1).bind ?_)))
  refine zJ.bind (a:=x.cons) (zJ.mk fun q=>(yK (by have:=hC.1;simp<;>omega)).trans (by simp)) (zJ.bind (a:=x.fields) (zJ.mk fun q=>(yK (by have:=hC.2;simp<;>omega)).trans (by simp)) (zJ.pure (yK (by simp<;>omega)) ?_))
  rw[yA v (by omega)]
  exact(zFm r l _ (v+1) (zY hd) hl he hc (by simp<;>omega)).eq (by simp[zMw])
theorem p9(l:List yI)(hl:l.length≤65535)(he:∀e∈l,eK e)(hc:∀e∈l,ECl e):zJ (fun q=>e58 q l) (l.map zMw):=by
 simp only[e58]
 exact(zFm l l [] 0 rfl hl he hc (by simp)).eq (by simp)
theorem qG{t:Tm}{n:Int}(h:tZ t n=true):zH t=true:=by
 unfold tZ rC at h
 simp only[Bool.and_eq_true]at h
 exact h.1.1.1
theorem zHU{t:Tm}(h:bL t=true):t=zT:=by
 unfold bL at h
 simp only[Bool.and_eq_true,beq_iff_eq]at h
 obtain⟨k,n,l⟩:=t
 have h1:k=0:=h.1.1
 have h2:n=0:=h.1.2
 have h3:l=[]:=List.length_eq_zero_iff.1 (by have:(l.length:Int)=0:=h.2;omega)
 subst h1;subst h2;subst h3;rfl
theorem zBj{t:Tm}(h:bL t=true):lV t=t:=by
 rw[zHU h]
 unfold lV
 split
 ·rfl
 ·rfl
theorem zMv{N:ByteArray->Bool}{l:List yI}{i:Int}(h:kW N l i=true):zMw (ent l i)=ent l i:=by
 have hs:=xD h
 have h1:lV (ent l i).type=(ent l i).type:=by unfold lV;rw[if_pos (qG hs.1)]
 have own:lD l i=true->lV (ent l i).body=(ent l i).body:=fun ho=>by
  unfold lD zSK at ho
  simp only[Bool.and_eq_true]at ho
  exact zBj ho.1.1.1.1.1.2
 have h2:lV (ent l i).body=(ent l i).body:=by
  rcases hs.2.2.2.2.2 with k|k|k|k
  ·have:=hs.2.1 k
   unfold mI zHO at this
   simp only[Bool.and_eq_true]at this
   exact zBj this.1.1.1.2
  ·have:=hs.2.2.1 k
   unfold zHQ at this
   simp only[Bool.and_eq_true]at this
   exact own this.1
  ·have:=hs.2.2.2.2.1 k
   unfold zHR at this
   simp only[Bool.and_eq_true]at this
   unfold lV;rw[if_pos (qG this.1)]
  ·have:=hs.2.2.2.1 k
   unfold F5 at this
   simp only[Bool.and_eq_true]at this
   exact own this.1
 unfold zMw
 rw[h1,h2]
theorem O5{N:ByteArray->Bool}{l:List yI}(h:wP N l):l.map zMw=l:=by
 refine List.ext_getElem (by simp) fun i h1 h2=>?_
 simp only[List.getElem_map]
 have:=zMv (h.2 (i:Int) (by omega) (by omega))
 have e:ent l (i:Int)=l[i]:=by
  unfold ent
  rw[show (i:Int).toNat=i by omega,List.getElem?_eq_getElem h2];rfl
 rwa[e]at this
def zJE(qq:Nat)(p0:yM):Option Unit:=
 some ()
theorem zSN{qq p0 r}(h:zJE qq p0=some r):Ct 159 [] [zV zD p0 .nl] (zV zD ([]:yM) .full) [] 0:=⟨by
 unfold zJE at h
 cases h
 exact tG ⟨func159,rfl⟩ 1 [] [] [] true (oD (dT ([]:yM)) o0),⟨⟨tv,dT _⟩,tv⟩,zB,dT _,zB⟩
def zCO(qq:Nat)(p0:yM):Option ((Unit) ⊕ yM):=
 if decide (List.length p0=0)then
 some (.inl ())
 else
 xF 40 ([]:yM) p0>>=fun l2=>
 some (.inr l2)
abbrev zMu (p0:yM) (C:Cf):Prop:=C 159 [] [zV zD p0 .nn] (zV zD ([]:yM) .full) [] 0
abbrev zMt (p0 r:yM) (C:Cf):Prop:=C 159 [] [zV zD p0 .nn] (.ms 0 0 r.length r.length 3) [.row (zG zD r)] 0
theorem zJF:Qf 159 f159:=⟨func159,rfl⟩
theorem zJG{qq p0 r}(h:zCO qq p0=some r):(match (generalizing:=false) r with | .inl x=>zMu p0 Ct | .inr x=>zMt p0 x Ct):=by
 unfold zCO at h
 obtain⟨h1,h⟩|⟨h1,h⟩:=zU h
 cases h
 exact⟨tG zJF 0 [] [] [] true (oD (dT ([]:yM))<|oQ 2 (zXV (of_decide_eq_true h1)) o0),⟨⟨tv,dT _⟩,tv⟩,zB,dT _,zB⟩
 obtain⟨l2,h3,h⟩:=zC h
 cases h
 exact⟨tF zJF 0 [0] (oD (dT l2)<|oM 2 (zYz h3 (of_decide_eq_false h1)) o0),⟨⟨tv,dT _⟩,tv⟩,zB,(lz rfl),(zA (dT _) zB)⟩
def zHV(qq:Nat)(p0:yM):Option (Unit ⊕ yM):=if decide (List.length p0=0)=true then some (.inl ())else(xF 40 [] p0)>>=fun r=>some (.inr r)
theorem zPt{qq:Nat}{p0:yM}{r:Unit ⊕ yM}(h:zHV qq p0=some r):(match (generalizing:=false) r with | .inl _=>CT prog 159 [] [.sl (zG zD p0) p0.length .no] (.sl (zG zD ([]:yM)) (List.length ([]:yM)) .full) [] 0 | .inr x=>CT prog 159 [] [.sl (zG zD p0) p0.length .no] (.ms 0 0 x.length x.length 3) [.row (zG zD x)] 0):=by
 unfold zHV at h
 obtain⟨h1,h⟩|⟨h1,h⟩:=zU h
 ·obtain rfl:=sj h
  have hp:p0=[]:=List.length_eq_zero_iff.1 (of_decide_eq_true h1)
  subst hp
  have k0:=zSN (qq:=qq) (p0:=[]) (r:=()) rfl
  have k1:=zJG (qq:=qq) (p0:=[]) (r:=.inl ()) rfl
  exact⟨tU.nilcase (fun _=>k0.tri) k1.tri,⟨⟨trivial,dT _⟩,trivial⟩,(fun _ h=>nomatch h),dT _,(fun _ h=>nomatch h)⟩
 ·obtain⟨x,h2,h⟩:=zC h
  cases h
  have k1:=zJG (qq:=qq) (p0:=p0) (r:=.inr x) (by unfold zCO;rw[if_neg (by rw[h1];decide),h2];rfl)
  refine⟨tU.nilcase (fun hn=>?_) k1.tri,⟨⟨trivial,dT _⟩,trivial⟩,(fun _ h=>nomatch h),(show 0<1 by decide),zA (dT _) zB⟩
  have hp:p0=[]:=Z0 oH (by decide) hn
  subst hp
  cases h1
def zVI(_qq:Nat)(p0:yM):Option yM:=xF 40 [] p0
theorem zYR{qq:Nat}{p0:yM}{r:yM}(h:zVI qq p0=some r):CT prog 159 [] [.sl (zG zD p0) p0.length .no] (.sl (zG zD r) r.length (.st 0 3)) [] 1:=by
 have hr:r=p0:=by have:=(mN h).2;simpa using this
 subst hr
 by_cases h1:List.length r=0
 ·have hp:r=[]:=List.length_eq_zero_iff.1 h1
  subst hp
  exact CT.stampNil (zPt (qq:=qq) (p0:=[]) (r:=.inl ()) rfl)
 ·exact CT.freezeS (zPt (qq:=qq) (p0:=r) (r:=.inr r) (by unfold zHV;rw[if_neg (by simpa using h1),show xF 40 ([]:yM) r=some r from h];rfl)) (dT _) (vW oH.len _)
def zPs(qq:Nat)(p0:yV)(p1:Tm)(p2 p3:Int):Option sV:=
 zFv qq p1>>=fun r1=>
 u6 qq r1.2.1>>=fun r3=>
 if r1.2.2 != 0 then
 some (sV.mk false [] [])
 else
 if r3.1.k != 6 then
 some (sV.mk false [] [])
 else
 if r3.1.n != p2 then
 some (sV.mk false [] [])
 else
 zW p0 p2>>=fun x8=>
 zHL qq r1.2.1 p2 x8.pars x8.inds (xL (p3+(r1.1.length:Int)))>>=fun r10=>
 if r10 then
 fK r3.2 x8.pars (r3.2.length:Int)>>=fun x13=>
 zVI qq x13>>=fun r15=>
 some (sV.mk true r1.1 r15)
 else
 some (sV.mk false [] [])
theorem zPr:Qf 160 f160:=⟨func160,rfl⟩
theorem yBd{qq p0 p1 p2 p3 r}(h:zPs qq p0 p1 p2 p3=some r):Ct 160 [] [zV xJ p0 .no,yY p1,ai p2,ai p3] (zXJ r) [] 0:=⟨by
 unfold zPs at h
 have z {os ob} (k:Oz os ob):=oD (dT ([]:yM))<|oD (dT ([]:yM))<|k
 obtain⟨r1,h2,h⟩:=zC h
 obtain⟨r3,h4,h⟩:=zC h
 have k:=oC 5 [] (zHG h4)<|oC 1 [] (zSm h2) o0
 obtain⟨h5,h⟩|⟨h5,h⟩:=zU h
 cases h
 exact tF zPr 1 [] (z<|oB 3 h5 k)
 have k:=oB 3 h5 k
 obtain⟨h6,h⟩|⟨h6,h⟩:=zU h
 cases h
 exact tF zPr 1 [] (z<|oB 1 h6 k)
 have k:=oB 1 h6 k
 obtain⟨h7,h⟩|⟨h7,h⟩:=zU h
 cases h
 exact tF zPr 1 [] (z<|oB 1 h7 k)
 obtain⟨x8,h9,h⟩:=zC h
 obtain⟨r10,h11,h⟩:=zC h
 have k:=oA 1 (wI (o:=.no) h9)<|oA 1 (wI (o:=.no) h9)<|oB 1 h7 k
 obtain⟨h12,h⟩|⟨h12,h⟩:=zU h
 obtain⟨x13,h14,h⟩:=zC h
 obtain⟨r15,h16,h⟩:=zC h
 cases h
 exact tF zPr 1 [] (oD (dT r15)<|oD (dT r1.1)<|oC 0 [] (zYR h16)<|oA 1 (qZ h14)<|oA 1 (wI (o:=.no) h9)<|oK 3 [] h12 (zSj h11) k)
 cases h
 exact tF zPr 2 [] (z<|oK 3 [] h12 (zSj h11) k),⟨⟨tv,dE _⟩,⟨tv,tv,⟨tv,dT _⟩,tv⟩,tv,tv,tv⟩,zB,⟨tv,dT _,dT _,tv⟩,zB⟩
def gG:Nat->yV->yI->yM->yM->Int->List sV->Option sW
 |0,_,_,_,_,_,_=>none
 |qq+1,p0,x1,x7,r11,v43,kI=>
 if decide (v43<(x7.length:Int))then
 zW x7 v43>>=fun x14=>
 zPs qq p0 x14 x1.fam (xL (x1.pars+v43))>>=fun r16=>
 xF 56 kI [r16]>>=fun l18=>
 gG qq p0 x1 x7 r11 (xL (v43+1)) l18
 else
 some (sW.mk x7 r11 kI)
def zPq(qq:Nat)(p0:yV)(p1:Int):Option sW:=
 zW p0 p1>>=fun x1=>
 zFv qq x1.type>>=fun r3=>
 u6 qq r3.2.1>>=fun r5=>
 fK r3.1 x1.pars (r3.1.length:Int)>>=fun x7=>
 fK r5.2 x1.pars (r5.2.length:Int)>>=fun x9=>
 zVI qq x9>>=fun r11=>
 gG qq p0 x1 x7 r11 0 []
theorem zSO:∀qq:Nat,(∀ {p0 x1 x7 r11 v43 kI r},gG qq p0 x1 x7 r11 v43 kI=some r->(∀j,dL 0 (pt 262069 f121) (sp j 64 0 [(0,zV xJ p0 .no),(4,.mp 0 0),(5,.mp 1 0),(11,.mp 2 0),(41,zV zD x7 .no),(42,ai (x7.length:Int)),(43,ai v43)]) (⟨[(0,.cells [zV zD ([]:yM) .nl,zV zD ([]:yM) .nl,zV D1 ([]:List sV) .nl]),(1,.cells [ai x1.kind,at' x1.name,ai x1.type.k,ai x1.type.n,zV zD x1.type.sub .no,ai x1.body.k,ai x1.body.n,zV zD x1.body.sub .no,ai x1.fam,ai x1.place,ai x1.pars,ai x1.inds,ai x1.level,zV yC x1.cons .no,zV yC x1.fields .no]),(2,.cells [zV zD x7 .no,zV zD r11 (.st 0 3),zV D1 kI (.st 1 3)])],3,[0,1],2,[]⟩) (fQ 0 (nQ 0 f121 (zXK r) [] 0) [.blk 0,.seq (pt 4095 f121)]))):=by
 intro qq
 induction qq with
 |zero=>
  exact fun h=>nn h
 |succ qq ih=>
  intro p0 x1 x7 r11 v43 kI r h
  rw[gG]at h
  obtain⟨h13,h⟩|⟨h13,h⟩:=zU h
  obtain⟨x14,h15,h⟩:=zC h
  obtain⟨r16,h17,h⟩:=zC h
  obtain⟨l18,h19,h⟩:=zC h
  exact fun j=>lH 2 [] [0,1,2] [0,2] [0,4,5,11,41,42,43] (oD (dT x7)<|oD (dE p0)<|oD (dR l18)<|oD (dT r11)<|oD (dT x7)<|oD (dI x1.fields)<|oD (dI x1.cons)<|oD (dT x1.body.sub)<|oD (dT x1.type.sub)<|oD (dR ([]:List sV))<|oD (dT ([]:yM))<|oD (dT ([]:yM))<|oP 1 (zVo h19 (by simp))<|oC 4 [] (yBd h17)<|aH 2<|oA 0 (xH (o:=.no) h15)<|oB 0 h13 o0) (ih h)
  cases h
  exact fun j=>lF 2 [] (oD (dR kI)<|oD (dT r11)<|oD (dT x7)<|oB 0 h13 o0)
theorem yBc{qq p0 p1 r}(h:zPq qq p0 p1=some r):Ct 121 [] [zV xJ p0 .no,ai p1] (zXK r) [] 0:=⟨by
 unfold zPq at h
 obtain⟨x1,h2,h⟩:=zC h
 obtain⟨r3,h4,h⟩:=zC h
 obtain⟨r5,h6,h⟩:=zC h
 obtain⟨x7,h8,h⟩:=zC h
 obtain⟨x9,h10,h⟩:=zC h
 obtain⟨r11,h12,h⟩:=zC h
 exact tH ⟨func121,rfl⟩ 3 [(some 4,2,3)] [0,1,4] [0,1] [0,4,5,11,41,42,43] (oD (dT x7)<|oD (dE p0)<|oD (dR ([]:List sV))<|oD (dT r11)<|oD (dT x7)<|oD (dI x1.fields)<|oD (dI x1.cons)<|oD (dT x1.body.sub)<|oD (dT x1.type.sub)<|oD (dR ([]:List sV))<|oD (dT ([]:yM))<|oD (dT ([]:yM))<|oC 0 [] (zYR h12)<|oA 1 (qZ h10)<|oA 0 (qZ h8)<|aH 3<|oC 5 [] (zHG h6)<|oC 3 [] (zSm h4)<|oA 0 (wI (o:=.no) h2) o0) (zSO _ h),⟨⟨tv,dE _⟩,tv,tv⟩,zB,⟨dT _,dT _,dR _,tv⟩,zB⟩
def eL:Nat->yV->uM->Int->uM->Option ((uM×Int) ⊕ (uM×Int))
 |0,_,_,_,_=>none
 |qq+1,p0,x4,v14,yE=>
 if decide (v14<(p0.length:Int))then
 zW p0 v14>>=fun x7=>
 if x7.kind==2 then
 zPq qq p0 v14>>=fun r10=>
 iM x4.length v14>>=fun x12=>
 N5 yE x12 r10>>=fun x14=>
 eL qq p0 x4 (xL (v14+1)) x14
 else
 eL qq p0 x4 (xL (v14+1)) yE
 else
 gfz x4.length yE>>=fun l16=>
 some (.inr (l16,0))
def e88(qq:Nat)(p0:yV):Option ((uM×Int) ⊕ (uM×Int)):=
 e87 qq p0>>=fun r1=>
 if r1 then
 gmk 72 (default:sW) (p0.length:Int)>>=fun x4=>
 eL qq p0 x4 0 x4
 else
 some (.inl ([],5))
abbrev zYS (p0:yV) (r:uM×Int) (C:Cf):Prop:=C 88 [] [zV xJ p0 .no] (.tup [.sl (zG pT r.1) r.1.length .no,ai r.2]) [] 0
abbrev zYT (p0:yV) (r:uM×Int) (C:Cf):Prop:=C 88 [] [zV xJ p0 .no] (.tup [.ms 0 0 r.1.length r.1.length 3,ai r.2]) [.row (zG pT r.1)] 0
theorem q88:Qf 88 f88:=⟨func88,rfl⟩
theorem zPp:∀qq:Nat,(∀ {p0 x4 v14 yE r},eL qq p0 x4 v14 yE=some r->(∀j,dL 0 (pt 16309 f88) (sp j 31 0 [(0,zV xJ p0 .no),(4,.ms 0 0 x4.length x4.length 3),(13,ai (p0.length:Int)),(14,ai v14)]) (⟨[(0,.row (zG pT yE))],1,[],0,[]⟩) (fQ 0 ((match (generalizing:=false) r with | .inl x=>nQ 0 f88 (.tup [.sl (zG pT x.1) x.1.length .no,ai x.2]) [] 0 | .inr x=>nQ 0 f88 (.tup [.ms 0 0 x.1.length x.1.length 3,ai x.2]) [.row (zG pT x.1)] 0)) [.blk 0,.seq (pt 255 f88)]))):=by
 intro qq
 induction qq with
 |zero=>
  exact fun h=>nn h
 |succ qq ih=>
  intro p0 x4 v14 yE r h
  rw[eL]at h
  obtain⟨h6,h⟩|⟨h6,h⟩:=zU h
  obtain⟨x7,h8,h⟩:=zC h
  have k:=oA 0 (wI (o:=.no) h8)<|oB 0 h6 o0
  obtain⟨h9,h⟩|⟨h9,h⟩:=zU h
  obtain⟨r10,h11,h⟩:=zC h
  obtain⟨x12,h13,h⟩:=zC h
  obtain⟨x14,h15,h⟩:=zC h
  exact fun j=>lH 1 [] [0] [] [0,4,13,14] (oD (dE p0)<|oD (dC x14)<|oW 0 (wtE (x:=r10) (cs:=[zV zD r10.args .no,zV zD r10.inds .no,zV D1 r10.recs .no]) zHl rfl h15)<|oA 0 (zVn (b:=0) (c:=List.length x4) (z:=3) h13)<|oC 0 [] (yBc h11)<|oB 1 h9 k) (ih h)
  exact fun j=>lH 1 [] [0] [] [0,4,13,14] (oD (dE p0)<|oD (dC yE)<|oB 1 h9 k) (ih h)
  obtain⟨l16,h17,h⟩:=zC h
  obtain⟨h17a,h17b⟩:=nH h17
  cases h
  obtain rfl:=h17a.symm
  dsimp only
  rw[←h17b]
  exact fun j=>lF 0 [0] (oD (dC yE)<|oB 0 h6 o0)
theorem yBa{qq p0 r}(h:e88 qq p0=some r):(match (generalizing:=false) r with | .inl x=>zYS p0 x Ct | .inr x=>zYT p0 x Ct):=by
 unfold e88 at h
 obtain⟨r1,h2,h⟩:=zC h
 obtain⟨h3,h⟩|⟨h3,h⟩:=zU h
 obtain⟨x4,h5,h⟩:=zC h
 rcases r with y0|y1
 exact⟨tH q88 1 [] [0] [] [0,4,13,14] (oD (dE p0)<|oD (dC x4)<|oM 2 (zOy h5)<|oK 0 [] h3 (c87 h2) o0) (zPp _ h),⟨⟨tv,dE _⟩,tv⟩,zB,⟨dC _,tv,tv⟩,zB⟩
 exact⟨tH q88 1 [] [0] [] [0,4,13,14] (oD (dE p0)<|oD (dC x4)<|oM 2 (zOy h5)<|oK 0 [] h3 (c87 h2) o0) (zPp _ h),⟨⟨tv,dE _⟩,tv⟩,zB,⟨(lz rfl),tv,tv⟩,(zA (dC _) zB)⟩
 cases h
 exact⟨tF q88 1 [] (oD (dC ([]:uM))<|oK 0 [] h3 (c87 h2) o0),⟨⟨tv,dE _⟩,tv⟩,zB,⟨dC _,tv,tv⟩,zB⟩
theorem c88{qq p0 r}(h:e88 qq p0=some r):(match (generalizing:=false) r with | .inl x=>CT prog 88 [] [zV xJ p0 .no] (.tup [.sl (zG pT x.1) x.1.length .no,ai x.2]) [] 0 | .inr x=>CT prog 88 [] [zV xJ p0 .no] (.tup [.sl (zG pT x.1) x.1.length .no,ai x.2]) [] 0):=by
 have k:=yBa h
 rcases r with y0|y1
 ·exact k
 ·exact CT.freeze (H1:=[]) (cs:=zG pT y1.1) (res':=(.tup [.sl (zG pT y1.1) y1.1.length .no,ai y1.2])) k (Nat.le_of_ble_eq_true rfl) zB (dC _) ⟨(.inl ⟨rfl,rfl⟩),trivial,tv⟩ (by rfl) rfl
theorem zHW{t:Tm}{n:Int}(h:(uX t n).2.2≠0):(uX t n).2.1=zT∧(uX t n).1=[]:=by
 unfold uX at h ⊢
 split
 ·split
  ·exact⟨rfl,rfl⟩
  ·split
   ·exact⟨rfl,rfl⟩
   ·rename_i h1 h2 h3
    rw[if_pos h1,if_neg h2,if_neg h3]at h
    cases hr:nS n.toNat t with
    |none=>exact⟨rfl,rfl⟩
    |some r=>rw[hr]at h;exact absurd rfl h
 ·exact⟨rfl,rfl⟩
theorem zSP:zJ (fun q=>u6 q zT) (yF zT,yS zT):=by
 refine zJ.mk fun q=>?_
 show oO zT zT []=_
 unfold zT oO yF yS
 simp
theorem zBi(t:Tm):zJ (fun q=>u6 q (yX t).2.1) (yF (yX t).2.1,yS (yX t).2.1):=by
 by_cases h:(yX t).2.2=0
 ·have hw:=qS (t:=t) (l:=(yX t).1) (y:=(yX t).2.1) (by rw[←h])
  exact jL _ hw.2.2.2.2.1
 ·have:=(zHW (t:=t) (n:=((min (vP t) 25:Nat):Int)) h).1
  have e:(yX t).2.1=zT:=this
  rw[e];exact zSP
def zAG(l:List yI)(t:Tm)(of b:Int):sV:=
 if (yX t).2.2=0∧pF (yX t).2.1 of (ent l of).pars (ent l of).inds (b+(yX t).1.length)=true then sV.mk true (yX t).1 ((yS (yX t).2.1).drop (ent l of).pars.toNat)else sV.mk false [] []
theorem pG{α:Type}{L:List α}{n:Int}(h0:0≤n)(h1:n≤L.length):fK L n (L.length:Int)=some (L.drop n.toNat):=by
 unfold fK
 rw[if_pos ⟨h0,h1,by omega⟩]
 congr 1
 exact List.take_of_length_le (by simp;omega)
theorem bM{t:Tm}{of pars more b:Int}(h:pF t of pars more b=true):(yF t).k=6∧(yF t).n=of∧((yS t).length:Int)=pars+more:=by
 unfold pF at h
 simp only[Bool.and_eq_true,beq_iff_eq]at h
 exact⟨h.1.1.1,h.1.1.2,h.1.2⟩
theorem zVJ(l:List yI)(t:Tm)(of b:Int)(ho:t.Ok)(h0:0≤of)(h1:of<l.length)(hp:0≤(ent l of).pars∧0≤(ent l of).inds∧(ent l of).pars+(ent l of).inds≤24)(hb:0≤b∧b≤1048576) :
  zJ (fun q=>zPs q l t of b) (zAG l t of b):=by
 simp only[zPs]
 refine(F4 t ho).bind ((zBi t).bind ?_)
 unfold zAG
 by_cases a1:(yX t).2.2=0
 ·have hw:=qS (t:=t) (l:=(yX t).1) (y:=(yX t).2.1) (by rw[←a1])
  refine zJ.ifF (by simp[a1]) ?_
  have hlen:=hw.2.2.1
  rw[yW (x:=b+((yX t).1.length:Int)) (by omega) (by omega)]
  have ha:=aM (yX t).2.1 of (ent l of).pars (ent l of).inds (b+(yX t).1.length) hw.2.2.2.2.1 (by omega) (by omega) (by omega)
  by_cases a2:pF (yX t).2.1 of (ent l of).pars (ent l of).inds (b+(yX t).1.length)=true
  ·have hs:=bM a2
   rw[if_pos ⟨a1,a2⟩]
   refine zJ.ifF (by simp[hs.1]) (zJ.ifF (by simp[hs.2.1]) (zJ.pure (yT h0 h1) (ha.bind (zJ.ifT a2 (zJ.pure (pG hp.1 (by show _≤((yS (yX t).2.1).length:Int);omega)) ?_)))))
   have hal:=rE _ (zO hw.2.2.2.2.1).2.2
   have hn:=(zO hw.2.2.2.2.1).1
   refine zJ.bind (a:=(yS (yX t).2.1).drop (ent l of).pars.toNat) (zJ.mk fun q=>(yK (by simp<;>omega)).trans (by simp)) zJ.ret
  ·rw[if_neg (fun h=>a2 h.2)]
   refine zJ.iff (fun _=>zJ.ret) fun _=>zJ.iff (fun _=>zJ.ret) fun _=>zJ.pure (yT h0 h1) (ha.bind (zJ.ifF (by simpa using a2) zJ.ret))
 ·rw[if_neg (fun h=>a1 h.1)]
  exact zJ.ifT (by simp[a1]) zJ.ret
def lE(l:List yI)(of:Int):List Tm->Int->List sV
 | [],_=>[]
 |a::r,b=>zAG l a of b::lE l of r (b+1)
theorem O6(l:List yI)(of:Int):∀(r:List Tm) (b:Int),(lE l of r b).length=r.length
 | [],_=>rfl
 |a::r,b=>congrArg (· + 1) (O6 l of r (b+1))
def vL(l:List yI)(i:Int):sW:=
 sW.mk ((yX (ent l i).type).1.drop (ent l i).pars.toNat) ((yS (yX (ent l i).type).2.1).drop (ent l i).pars.toNat) (lE l (ent l i).fam ((yX (ent l i).type).1.drop (ent l i).pars.toNat) (ent l i).pars)
theorem zBh(l:List yI)(x:yI)(A I:List Tm)(hA:∀t∈A,t.Ok)(hl:A.length≤24)(h0:0≤x.fam)(h1:x.fam<l.length)(hp:0≤(ent l x.fam).pars∧0≤(ent l x.fam).inds∧(ent l x.fam).pars+(ent l x.fam).inds≤24)(hb:0≤x.pars∧x.pars≤24) :
  ∀(r:List Tm) (v:Nat) (acc:List sV),A.drop v=r->acc.length≤v->zJ (fun q=>gG q l x A I (v:Int) acc) (sW.mk A I (acc++lE l x.fam r (x.pars+v)))
 | [],v,acc,hd,ha=>by
  refine zJ.succ ?_
  simp only[gG]
  exact zJ.ifF (yH hd) (zJ.ret.eq (by simp[lE]))
 |t::r,v,acc,hd,ha=>by
  have hlt:=yL hd
  have ht:t∈A:=by
   have:t∈A.drop v:=by rw[hd];simp
   exact List.mem_of_mem_drop this
  refine zJ.succ ?_
  simp only[gG]
  rw[yW (x:=x.pars+v) (by omega) (by omega)]
  refine zJ.ifT (yG hd) (zJ.pure (yD hd) ((zVJ l t x.fam (x.pars+v) (hA t ht) h0 h1 hp (by omega)).bind (zJ.pure (yK (by simp<;>omega)) ?_)))
  rw[yA v (by omega)]
  refine(zBh l x A I hA hl h0 h1 hp hb r (v+1) _ (zY hd) (by simp<;>omega)).eq ?_
  rw[lE,show x.pars+((v+1:Nat):Int)=x.pars+v+1 by omega];simp
theorem tX{N:ByteArray->Bool}{l:List yI}{i:Int}(hE:wP N l)(h0:0≤i)(h1:i<l.length)(hk:(ent l i).kind=2) :
  ∃(A:List Tm) (y:Tm),yX (ent l i).type=(A,y,0)∧zH y=true∧(∀t∈A,zH t=true)∧A.length=vP (ent l i).type∧A.length≤24∧0≤(ent l i).pars∧(ent l i).pars≤A.length ∧
   0≤(ent l i).fam∧(ent l i).fam<i∧(ent l (ent l i).fam).kind=1∧(ent l i).pars=(ent l (ent l i).fam).pars∧0≤(ent l (ent l i).fam).inds∧(ent l (ent l i).fam).pars+(ent l (ent l i).fam).inds≤24 ∧
   pF y (ent l i).fam (ent l i).pars (ent l (ent l i).fam).inds A.length=true∧0≤(ent l i).place∧(ent l i).place<(ent l (ent l i).fam).cons.length:=by
 have hc:=(xD (hE.2 i h0 h1)).2.2.1 hk
 unfold zHQ at hc
 simp only[Bool.and_eq_true,beq_iff_eq,decide_eq_true_eq]at hc
 obtain⟨a1,a2,a3,a4⟩:=hc
 have ho:=rK a1
 have hf:=wU ((xD (hE.2 _ ho.1 (by omega))).2.1 ho.2.2.1)
 have hw:=qS (t:=(ent l i).type) (l:=(yX (ent l i).type).1) (y:=(yX (ent l i).type).2.1) (by rw[←a2])
 have hown:p8 l (ent l i)=(ent l (ent l i).fam).cons:=by unfold p8;rw[if_neg (by omega)]
 have h6:=ho.2.2.2.2.2
 rw[hown]at h6
 exact⟨_,_,by rw[←a2],hw.2.2.2.2.1,hw.2.2.2.2.2,hw.2.1,hw.2.2.1,by omega,a3,ho.1,ho.2.1,ho.2.2.1,ho.2.2.2.1,hf.2.1,hf.2.2.1,a4,ho.2.2.2.2.1,h6⟩
theorem yB{t:Tm}(h:zH t=true):t.Ok:=qJ t (zO h).2.2
theorem zPo{N:ByteArray->Bool}(l:List yI)(i:Int)(hE:wP N l)(h0:0≤i)(h1:i<l.length)(hk:(ent l i).kind=2)(he:∀e∈l,eK e):zJ (fun q=>zPq q l i) (vL l i):=by
 simp only[zPq]
 obtain⟨A,y,hw,hy,hA,hAp,hA24,p0,p1,f0,f1,fk,fp,fi,fs,hap,-,-⟩:=tX hE h0 h1 hk
 have hsp:=bM hap
 refine zJ.pure (yT h0 h1) ((F4 _ (he _ (mH h0 h1)).1).bind ((zBi _).bind ?_))
 unfold vL
 rw[hw]
 have hal:=rE _ (zO hy).2.2
 have hn:=(zO hy).1
 refine zJ.pure (pG p0 p1) (zJ.pure (pG p0 (by show _≤((yS y).length:Int);omega)) (zJ.bind (a:=(yS y).drop (ent l i).pars.toNat) (zJ.mk fun q=>(yK (by simp<;>omega)).trans (by simp)) ?_))
 refine(zBh l (ent l i) (A.drop (ent l i).pars.toNat) ((yS y).drop (ent l i).pars.toNat) (fun t ht=>yB (hA t (List.mem_of_mem_drop ht))) (by simp;omega) f0 (by omega) (by omega) (by omega) _ 0 [] rfl (by simp)).eq ?_
 simp
def lW(l:List yI):Nat->Nat->List sW
 |0,_=>[]
 |m+1,v=>(if (ent l v).kind=2 then vL l v else default)::lW l m (v+1)
theorem zJH(l:List yI):∀(m v j:Nat),j<m->(lW l m v)[j]? = some (if (ent l ((v+j:Nat):Int)).kind=2 then vL l ((v+j:Nat):Int)else default)
 |m+1,v,0,_=>by simp[lW]
 |m+1,v,j+1,h=>by
  rw[lW,List.getElem?_cons_succ,zJH l m (v+1) j (by omega),show v+1+j=v+(j+1) by omega]
theorem zMs{N:ByteArray->Bool}(l:List yI)(x4:List sW)(hx:x4.length=l.length)(hE:wP N l)(he:∀e∈l,eK e):∀(m v:Nat) (acc:List sW),v+m=l.length->acc.length=v ->
  zJ (fun q=>eL q l x4 (v:Int) (acc++List.replicate m default)) (.inr (acc++lW l m v,0)):=by
 intro m
 induction m with
 |zero=>
  intro v acc hm ha
  refine zJ.succ ?_
  simp only[eL]
  refine zJ.ifF (decide_eq_false (by omega)) (zJ.pure (a:=acc++List.replicate 0 default) (by unfold gfz;rw[if_pos (by simp;omega)]) (zJ.ret.eq (by simp[lW])))
 |succ m ih=>
  intro v acc hm ha
  refine zJ.succ ?_
  simp only[eL]
  refine zJ.ifT (decide_eq_true (by omega)) (zJ.pure (yT (by omega) (by omega)) ?_)
  have hl:=hE.1
  rw[yA v (by omega),lW]
  by_cases k:(ent l v).kind=2
  ·rw[if_pos k]
   refine zJ.ifT (by simp[k]) ((zPo l v hE (by omega) (by omega) k he).bind ?_)
   refine zJ.pure (a:=v) (by unfold iM;rw[if_pos (by omega)];simp) ?_
   refine zJ.pure (a:=acc++vL l v::List.replicate m default) ?_ ?_
   ·unfold N5
    rw[if_pos (by simp;omega),List.set_append_right _ _ (by omega),show v-acc.length=0 by omega,List.replicate_succ];rfl
   ·have:=ih (v+1) (acc++[vL l v]) (by omega) (by simp;omega)
    simpa using this
  ·rw[if_neg k]
   refine zJ.ifF (by simp[k]) ?_
   have:=ih (v+1) (acc++[default]) (by omega) (by simp;omega)
   rw[List.replicate_succ]
   simpa using this
def e57(qq:Nat)(p0:yV):Option ((Int) ⊕ (Int×yV×uM)):=
 e58 qq p0>>=fun r1=>
 e87 qq p0>>=fun r3=>
 if r3 then
 e88 qq r1>>=fun r6=>
 match r6 with
 | .inl y8=>
  if y8.2 != 0 then
  some (.inl y8.2)
  else
  some (.inr (0,r1,y8.1))
 | .inr y10=>
  if y10.2 != 0 then
  some (.inl y10.2)
  else
  some (.inr (0,r1,y10.1))
 else
 some (.inl 5)
abbrev zPn (p0:yV) (r:Int) (C:Cf):Prop:=C 57 [] [zV xJ p0 .no] (.tup [.val (.pointer none),ai r]) [] 0
abbrev zPm (p0:yV) (r:Int×yV×uM) (C:Cf):Prop:=C 57 [] [zV xJ p0 .no] (.tup [.mp 0 0,ai r.1]) [.cells [zV xJ r.2.1 .no,zV pT r.2.2 .no]] 0
theorem q57:Qf 57 f57:=⟨func57,rfl⟩
theorem zPl{p0 r}(h:zPn p0 r Ci):zPn p0 r Ct:=⟨h,⟨⟨tv,dE _⟩,tv⟩,zB,⟨tv,tv,tv⟩,zB⟩
theorem zUf{p0 r}(h:zPm p0 r Ci):zPm p0 r Ct:=⟨h,⟨⟨tv,dE _⟩,tv⟩,zB,⟨(lz rfl),tv,tv⟩,(zA ⟨dE _,dC _,tv⟩ zB)⟩
theorem c57{qq p0 r}(h:e57 qq p0=some r):(match (generalizing:=false) r with | .inl x=>zPn p0 x Ct | .inr x=>zPm p0 x Ct):=by
 unfold e57 at h
 obtain⟨r1,h2,h⟩:=zC h
 obtain⟨r3,h4,h⟩:=zC h
 have k:=oC 0 [] (c58 h2) o0
 obtain⟨h5,h⟩|⟨h5,h⟩:=zU h
 obtain⟨r6,h7,h⟩:=zC h
 have k:=oK 0 [] h5 (c87 h4) k
 rcases r6 with y8|y10
 dsimp only at h
 have k:=oC 1 [] (c88 h7) k
 obtain⟨h9,h⟩|⟨h9,h⟩:=zU h
 cases h
 exact zPl (tF q57 0 [] (oB 2 h9 k))
 cases h
 exact zUf (tF q57 0 [0] (oD (dC y8.1)<|oD (dE r1)<|oB 2 h9 k))
 dsimp only at h
 have k:=oC 1 [] (c88 h7) k
 obtain⟨h11,h⟩|⟨h11,h⟩:=zU h
 cases h
 exact zPl (tF q57 0 [] (oB 2 h11 k))
 cases h
 exact zUf (tF q57 0 [0] (oD (dC y10.1)<|oD (dE r1)<|oB 2 h11 k))
 cases h
 exact zPl (tF q57 1 [] (oK 0 [] h5 (c87 h4) k))
mutual
def kX:Nat->yV->(Int×yV×uM)->Int->yV->zZ->zZ->Option ((Int) ⊕ (Int×yV×zZ×zZ×yV×uM))
 |0,_,_,_,_,_,_=>none
 |qq+1,p0,y3,v27,yE,xT,tC=>
 if decide (v27<(p0.length:Int))then
 zW p0 v27>>=fun x8=>
 if x8.kind==1 then
 xF 8 xT [(xL ((xL ((xL (x8.pars+2))+(x8.cons.length:Int)))+x8.inds))]>>=fun l11=>
 xF 8 tC [0]>>=fun l13=>
 kX qq p0 y3 (xL (v27+1)) yE l11 l13
 else
 if x8.kind==2 then
 aQ qq p0 y3 v27 yE xT tC 0 x8.type.k x8.type.n x8.type.sub
 else
 xF 8 xT [0]>>=fun l16=>
 xF 8 tC [0]>>=fun l18=>
 kX qq p0 y3 (xL (v27+1)) yE l16 l18
 else
 some (.inr (0,yE,xT,tC,y3.2.1,y3.2.2))
def aQ:Nat->yV->(Int×yV×uM)->Int->yV->zZ->zZ->Int->Int->Int->yM->Option ((Int) ⊕ (Int×yV×zZ×zZ×yV×uM))
 |0,_,_,_,_,_,_,_,_,_,_=>none
 |qq+1,p0,y3,v27,yE,xT,tC,v10,pE,nL,tT=>
 if pE==3 then
 zW tT 1>>=fun x17=>
 aQ qq p0 y3 v27 yE xT tC (xL (v10+1)) x17.k x17.n x17.sub
 else
 xF 8 xT [0]>>=fun l19=>
 xF 8 tC [v10]>>=fun l21=>
 kX qq p0 y3 (xL (v27+1)) yE l19 l21
end
def e27(qq:Nat)(p0:yV):Option ((Int) ⊕ (Int×yV×zZ×zZ×yV×uM)):=
 e57 qq p0>>=fun r1=>
 match r1 with
 | .inl y7=>
  if y7 != 0 then
  some (.inl y7)
  else
  none
 | .inr y3=>
  if y3.1 != 0 then
  some (.inl y3.1)
  else
  e58 qq p0>>=fun r5=>
  kX qq p0 y3 0 r5 [] []
abbrev zPj (p0:yV) (r:Int) (C:Cf):Prop:=C 27 [] [zV xJ p0 .no] (.tup [.val (.pointer none),ai r]) [] 0
abbrev zYW (p0:yV) (r:Int×yV×zZ×zZ×yV×uM) (C:Cf):Prop:=C 27 [] [zV xJ p0 .no] (.tup [.mp 0 0,ai r.1]) [.cells [zV xJ r.2.1 .no,.mp 1 0,zV yC r.2.2.1 .no,zV yC r.2.2.2.1 .no],.cells [zV xJ r.2.2.2.2.1 .no,zV pT r.2.2.2.2.2 .no]] 0
theorem q27:Qf 27 f27:=⟨func27,rfl⟩
theorem zPi{p0 r}(h:zPj p0 r Ci):zPj p0 r Ct:=⟨h,⟨⟨tv,dE _⟩,tv⟩,zB,⟨tv,tv,tv⟩,zB⟩
theorem F8:∀qq:Nat,(∀ {p0 y3 v27 yE xT tC r},kX qq p0 y3 v27 yE xT tC=some r->(∀j,dL 0 (pt 65461 f27) (sp j 81 0 [(6,.mp 0 0),(25,zV xJ p0 .no),(26,ai (p0.length:Int)),(27,ai v27)]) (⟨[(0,.cells [zV xJ yE .no,.mp 1 0,zV yC xT (.st 0 1),zV yC tC (.st 1 1)]),(1,.cells [zV xJ y3.2.1 .no,zV pT y3.2.2 .no])],2,[0,1],2,[]⟩) (fQ 0 ((match (generalizing:=false) r with | .inl x=>nQ 0 f27 (.tup [.val (.pointer none),ai x]) [] 0 | .inr x=>nQ 0 f27 (.tup [.mp 0 0,ai x.1]) [.cells [zV xJ x.2.1 .no,.mp 1 0,zV yC x.2.2.1 .no,zV yC x.2.2.2.1 .no],.cells [zV xJ x.2.2.2.2.1 .no,zV pT x.2.2.2.2.2 .no]] 0)) [.blk 0,.seq (pt 1023 f27)])))∧(∀ {p0 y3 v27 yE xT tC v10 pE nL tT r},aQ qq p0 y3 v27 yE xT tC v10 pE nL tT=some r->(∀j,dL 0 (pt 281157048172469 f27) (sp j 81 0 [(6,.mp 0 0),(9,ai 0),(10,ai v10),(11,.mp 1 0),(25,zV xJ p0 .no),(26,ai (p0.length:Int)),(27,ai v27)]) (⟨[(0,.cells [zV xJ yE .no,.mp 2 0,zV yC xT (.st 0 1),zV yC tC (.st 1 1)]),(1,.cells [ai pE,ai nL,zV zD tT .no]),(2,.cells [zV xJ y3.2.1 .no,zV pT y3.2.2 .no])],3,[0,1],2,[]⟩) (fQ 0 ((match (generalizing:=false) r with | .inl x=>nQ 0 f27 (.tup [.val (.pointer none),ai x]) [] 0 | .inr x=>nQ 0 f27 (.tup [.mp 0 0,ai x.1]) [.cells [zV xJ x.2.1 .no,.mp 1 0,zV yC x.2.2.1 .no,zV yC x.2.2.2.1 .no],.cells [zV xJ x.2.2.2.2.1 .no,zV pT x.2.2.2.2.2 .no]] 0)) [.blk 3,.blk 2,.seq (pt 1072529023 f27),.blk 1,.seq (pt 4189567 f27),.loop (pt 65461 f27),.blk 0,.seq (pt 1023 f27)]))):=by
 intro qq
 induction qq with
 |zero=>
  exact⟨fun h=>nn h,fun h=>nn h⟩
 |succ qq ih=>
  obtain⟨zCP,zJI⟩:=ih
  refine⟨?_,?_⟩
  intro p0 y3 v27 yE xT tC r h
  rw[kX]at h
  obtain⟨h7,h⟩|⟨h7,h⟩:=zU h
  obtain⟨x8,h9,h⟩:=zC h
  have k:=oA 0 (wI (o:=.no) h9)<|oB 0 h7 o0
  obtain⟨h10,h⟩|⟨h10,h⟩:=zU h
  obtain⟨l11,h12,h⟩:=zC h
  obtain⟨l13,h14,h⟩:=zC h
  exact fun j=>lH 3 [] [0,1] [2,3] [6,25,26,27] (oD (dE p0)<|oD (dC y3.2.2)<|oD (dE y3.2.1)<|oD (dI l13)<|oD (dI l11)<|oD (dE yE)<|oP 2 (qF h14 (by simp))<|oP 9 (qF h12 (by simp))<|oB 3 h10 k) (zCP h)
  have k:=oB 3 h10 k
  obtain⟨h15,h⟩|⟨h15,h⟩:=zU h
  exact fun j=>lH 2 [] [0,3,1] [0,1] [6,9,10,11,25,26,27] (oD (dE p0)<|oD (dC y3.2.2)<|oD (dE y3.2.1)<|oD (dT x8.type.sub)<|oD (dI tC)<|oD (dI xT)<|oD (dE yE)<|oB 0 h15 k) (zJI h)
  obtain⟨l16,h17,h⟩:=zC h
  obtain⟨l18,h19,h⟩:=zC h
  exact fun j=>lH 3 [] [0,1] [2,3] [6,25,26,27] (oD (dE p0)<|oD (dC y3.2.2)<|oD (dE y3.2.1)<|oD (dI l18)<|oD (dI l16)<|oD (dE yE)<|oP 2 (qF h19 (by simp))<|oP 2 (qF h17 (by simp))<|oB 0 h15 k) (zCP h)
  cases h
  exact fun j=>lF 0 [0,1] (oD (dC y3.2.2)<|oD (dE y3.2.1)<|oD (dI tC)<|oD (dI xT)<|oD (dE yE)<|oB 0 h7 o0)
  intro p0 y3 v27 yE xT tC v10 pE nL tT r h
  rw[aQ]at h
  obtain⟨h16,h⟩|⟨h16,h⟩:=zU h
  obtain⟨x17,h18,h⟩:=zC h
  exact fun j=>lH 2 [] [0,3,2] [0,1] [6,9,10,11,25,26,27] (oD (dE p0)<|oD (dC y3.2.2)<|oD (dE y3.2.1)<|oD (dT x17.sub)<|oD (dI tC)<|oD (dI xT)<|oD (dE yE)<|oA 4 (xH (o:=.no) h18)<|oB 1 h16 o0) (zJI h)
  obtain⟨l19,h20,h⟩:=zC h
  obtain⟨l21,h22,h⟩:=zC h
  exact fun j=>lH 3 [] [0,2] [2,3] [6,25,26,27] (oD (dE p0)<|oD (dC y3.2.2)<|oD (dE y3.2.1)<|oD (dI l21)<|oD (dI l19)<|oD (dE yE)<|oP 2 (qF h22 (by simp))<|oP 2 (qF h20 (by simp))<|oB 1 h16 o0) (zCP h)
theorem c27{qq p0 r}(h:e27 qq p0=some r):(match (generalizing:=false) r with | .inl x=>zPj p0 x Ct | .inr x=>zYW p0 x Ct):=by
 unfold e27 at h
 obtain⟨r1,h2,h⟩:=zC h
 rcases r1 with y7|y3
 dsimp only at h
 have k:=oC 0 [] (c57 h2) o0
 obtain⟨h8,h⟩:=spT h
 cases h
 exact zPi (tF q27 0 [] (oB 2 h8 k))
 dsimp only at h
 have k:=oC 0 [] (c57 h2) o0
 obtain⟨h4,h⟩|⟨h4,h⟩:=zU h
 cases h
 exact zPi (tF q27 0 [] (oB 2 h4 k))
 obtain⟨r5,h6,h⟩:=zC h
 rcases r with y0|y1
 exact zPi (tH q27 1 [(some 1,2,1),(some 1,3,1)] [1,0] [0,1] [6,25,26,27] (oD (dE p0)<|oD (dC y3.2.2)<|oD (dE y3.2.1)<|oD (dI ([]:zZ))<|oD (dI ([]:zZ))<|oD (dE r5)<|oC 0 [] (c58 h6)<|oB 2 h4 k) ((F8 _).1 h))
 exact⟨tH q27 1 [(some 1,2,1),(some 1,3,1)] [1,0] [0,1] [6,25,26,27] (oD (dE p0)<|oD (dC y3.2.2)<|oD (dE y3.2.1)<|oD (dI ([]:zZ))<|oD (dI ([]:zZ))<|oD (dE r5)<|oC 0 [] (c58 h6)<|oB 2 h4 k) ((F8 _).1 h),⟨⟨tv,dE _⟩,tv⟩,zB,⟨(lz rfl),tv,tv⟩,(pW (lz rfl) zB)⟩
theorem zPh{N:ByteArray->Bool}(l:List yI)(hf:zJ (fun q=>e87 q l) true)(hE:wP N l)(he:∀e∈l,eK e):zJ (fun q=>e88 q l) (.inr (lW l l.length 0,0)):=by
 simp only[e88]
 have hl:=hE.1
 refine hf.bind (zJ.ifT rfl (zJ.pure (a:=List.replicate l.length default) ?_ ?_))
 ·unfold gmk;rw[if_pos (by omega)];rfl
 ·exact(zMs l (List.replicate l.length default) (by simp) hE he l.length 0 [] (by omega) rfl).eq (by simp)
def zHX(l:List yI)(b:Bool):(Int) ⊕ (Int×List yI×List sW):=if b=true then .inr (0,l,lW l l.length 0)else .inl 5
theorem zSQ(N:ByteArray->Bool)(hN:cC N)(l:List yI)(hl:l.length≤65535)(he:∀e∈l,eK e)(hc:∀e∈l,ECl e):∃b,zJ (fun q=>e87 q l) b∧(b=true->wP N l)∧zJ (fun q=>e57 q l) (zHX l b):=by
 obtain⟨d,-,hd⟩:=zMx N hN l hl he
 refine⟨_,hd,F7,?_⟩
 simp only[e57]
 refine(p9 l hl he hc).bind (hd.bind ?_)
 unfold zHX
 by_cases h:F6 N d l=true
 ·rw[if_pos h]
  have hA:=F7 h
  rw[O5 hA]
  refine zJ.ifT h ((zPh l (hd.eq h) hA he).bind ?_)
  exact zJ.ifF (by simp) zJ.ret
 ·rw[if_neg h]
  exact zJ.ifF (by simpa using h) zJ.ret
theorem zMr(t:Tm)(hg:xB t=true):vP t≤t.nodes:=by
 have key:∀(m:Nat) (t:Tm),t.nodes≤m->xB t=true->vP t≤t.nodes:=by
  intro m
  induction m with
  |zero=>intro t h;have:=vM t;omega
  |succ m ih=>
   intro t hm hg
   by_cases k:t.k=3
   ·obtain⟨x,y,e,hx,hy⟩:=mG hg k
    rw[e]at hm ⊢
    rw[cB]
    rw[Tm.nodes,yP,yP,yP]at hm ⊢
    have:=vM x
    have:=ih y (by omega) hy
    omega
   ·rw[zCK k];omega
 exact key t.nodes t (Nat.le_refl _) hg
def wG(e:yI):Int:=if e.kind=1 then e.pars+2+e.cons.length+e.inds else 0
def rX(e:yI):Int:=if e.kind=2 then(vP e.type:Int)else 0
theorem zSR(l:List yI)(y3:Int×List yI×List sW)(v27:Int)(vb:List yI)(a o:List Int)(r:(Int) ⊕ (Int×List yI×List Int×List Int×List yI×List sW))(ha:a.length≤65535)(ho:o.length≤65535)(tot:Int)(ht:tot≤4611686018427387904)
  (hk:zJ (fun q=>kX q l y3 (xL (v27+1)) vb (a++[0]) (o++[tot])) r) :
  ∀(t:Tm) (v:Int),xB t=true->0≤v->v+vP t=tot->zJ (fun q=>aQ q l y3 v27 vb a o v t.k t.n t.sub) r:=by
 have key:∀(m:Nat) (t:Tm) (v:Int),t.nodes≤m->xB t=true->0≤v->v+vP t=tot->zJ (fun q=>aQ q l y3 v27 vb a o v t.k t.n t.sub) r:=by
  intro m
  induction m with
  |zero=>intro t v h;have:=vM t;omega
  |succ m ih=>
   intro t v hm hg h0 hv
   refine zJ.succ ?_
   simp only[aQ]
   by_cases k:t.k=3
   ·obtain⟨x,y,e,hx,hy⟩:=mG hg k
    rw[e]at hv hm ⊢
    rw[cB]at hv
    refine zJ.ifT (by simp[Tm.k]) (zJ.pure (a:=y) (by simp[zW,Tm.sub]) ?_)
    rw[yW (x:=v+1) (by omega) (by omega)]
    refine ih y (v+1) ?_ hy (by omega) (by omega)
    rw[Tm.nodes,yP,yP,yP]at hm
    have:=vM x
    omega
   ·rw[zCK k]at hv
    refine zJ.ifF (by simp[k]) (zJ.pure (yK (by simp<;>omega)) (zJ.pure (yK (by simp<;>omega)) ?_))
    rw[show v=tot by omega];exact hk
 exact fun t v=>key t.nodes t v (Nat.le_refl _)
theorem F9{N:ByteArray->Bool}(l vb:List yI)(y3:Int×List yI×List sW)(hE:wP N l):∀(r:List yI) (v:Nat) (a o:List Int),l.drop v=r->a.length≤v->o.length≤v ->
  zJ (fun q=>kX q l y3 (v:Int) vb a o) (.inr (0,vb,a++r.map wG,o++r.map rX,y3.2.1,y3.2.2))
 | [],v,a,o,hd,ha,ho=>by
  refine zJ.succ ?_
  simp only[kX]
  exact zJ.ifF (yH hd) (zJ.ret.eq (by simp))
 |x::r,v,a,o,hd,ha,ho=>by
  have hlt:=yL hd
  have hl:=hE.1
  have hx:ent l v=x:=by
   have h1:=yD hd
   rw[yT (by omega) (by omega)]at h1
   exact Option.some.inj h1
  have hs:=xD (hE.2 v (by omega) (by omega))
  rw[hx]at hs
  refine zJ.succ ?_
  simp only[kX]
  refine zJ.ifT (yG hd) (zJ.pure (yD hd) ?_)
  by_cases k1:x.kind=1
  ·have hf:=wU (hs.2.1 k1)
   rw[hx]at hf
   rw[yW (x:=x.pars+2) (by omega) (by omega),yW (x:=x.pars+2+x.cons.length) (by omega) (by omega),yW (x:=x.pars+2+x.cons.length+x.inds) (by omega) (by omega),yA v (by omega)]
   refine zJ.ifT (by simp[k1]) (zJ.pure (yK (by simp<;>omega)) (zJ.pure (yK (by simp<;>omega)) ?_))
   refine(F9 l vb y3 hE r (v+1) _ _ (zY hd) (by simp<;>omega) (by simp<;>omega)).eq ?_
   simp[wG,rX,k1]
  ·refine zJ.ifF (by simp[k1]) ?_
   by_cases k2:x.kind=2
   ·refine zJ.ifT (by simp[k2]) ?_
    have hsh:=(zO (qG hs.1))
    have hp:vP x.type≤8192:=Nat.le_trans (zMr x.type hsh.2.2) hsh.1
    refine zSR l y3 v vb a o _ (by omega) (by omega) (vP x.type) (by omega) ?_ x.type 0 hsh.2.2 (by omega) (by omega)
    rw[yA v (by omega)]
    refine(F9 l vb y3 hE r (v+1) _ _ (zY hd) (by simp<;>omega) (by simp<;>omega)).eq ?_
    simp[wG,rX,k2]
   ·refine zJ.ifF (by simp[k2]) (zJ.pure (yK (by simp<;>omega)) (zJ.pure (yK (by simp<;>omega)) ?_))
    rw[yA v (by omega)]
    refine(F9 l vb y3 hE r (v+1) _ _ (zY hd) (by simp<;>omega) (by simp<;>omega)).eq ?_
    simp[wG,rX,k1,k2]
def wW(l:List yI):wA:=wA.mk l l (lW l l.length 0) (l.map wG) (l.map rX)
def zCQ(l:List yI)(b:Bool):(Int) ⊕ (Int×List yI×List Int×List Int×List yI×List sW):=if b=true then .inr (0,l,l.map wG,l.map rX,l,lW l l.length 0)else .inl 5
theorem zJJ(N:ByteArray->Bool)(hN:cC N)(l:List yI)(hl:l.length≤65535)(he:∀e∈l,eK e)(hc:∀e∈l,ECl e):∃b,zJ (fun q=>e87 q l) b∧(b=true->wP N l)∧zJ (fun q=>e27 q l) (zCQ l b):=by
 obtain⟨b,h1,h2,h3⟩:=zSQ N hN l hl he hc
 refine⟨b,h1,h2,?_⟩
 simp only[e27]
 refine h3.bind ?_
 unfold zHX zCQ
 cases b with
 |false=>exact zJ.ifT (by decide) zJ.ret
 |true=>
  refine zJ.ifF (by simp) ((p9 l hl he hc).bind ?_)
  rw[O5 (h2 rfl)]
  exact(F9 l l _ (h2 rfl) l 0 [] [] rfl (by simp) (by simp)).eq (by simp)
theorem eM{t:Tm}{k c:Int}(h:(tB t k c).2=0):zH t=true∧0≤k∧0≤c∧zH (jM t 0 c k)=true∧(tB t k c).1=jM t 0 c k:=by
 unfold tB at h ⊢
 by_cases a:zH t=true∧bJ k=true∧bJ c=true
 ·rw[if_pos a]at h ⊢
  by_cases b:zH (jM t 0 c k)=true
  ·rw[if_pos b]
   have a2:=a.2.1
   have a3:=a.2.2
   unfold bJ at a2 a3
   simp only[Bool.and_eq_true,decide_eq_true_eq]at a2 a3
   exact⟨a.1,a2.1,a3.1,b,rfl⟩
  ·rw[if_neg b]at h;simp at h
 ·rw[if_neg a]at h;simp at h
theorem o4(t:Tm)(k c:Int):(tB t k c).2≠8:=by
 unfold tB
 split
 ·split<;>simp
 ·simp
mutual
def cD(ls:List Tm):Tm->Int->Tm
 | .mk kd n l,b=>if kd=1∧b≤n then(if h:(n-b).toNat<ls.length then jM (ls[(n-b).toNat]) 0 0 b else .mk 1 (n-ls.length) [])else .mk kd n (siL ls l kd 0 b)
def siL(ls:List Tm):List Tm->Int->Nat->Int->List Tm
 | [],_,_,_=>[]
 |t::l,kd,i,b=>cD ls t (xU kd i b)::siL ls l kd (i+1) b
end
theorem zVK{a:Tm}{b left:Int}{long:Bool}(h:(raT a b left long).2.2=false):long=false∧(raT a b left long).1=jM a 0 0 b:=by
 unfold raT at h ⊢
 by_cases h1:left-szT a 0<0
 ·rw[if_pos h1]at h;simp at h
 ·rw[if_neg h1]at h ⊢
  by_cases h2:(tB a b 0).2≠0
  ·rw[if_pos h2]at h;simp at h
  ·rw[if_neg h2]at h ⊢
   exact⟨h,(eM (by simpa using h2)).2.2.2.2⟩
theorem zPg(ls:List Tm):∀(t:Tm) (b left:Int),(C1 ls t b left true).2.2=true
 | .mk kd n l,b,left=>by rw[C1,if_pos rfl]
mutual
theorem zPf(ls:List Tm):∀(t:Tm) (b left:Int) (long:Bool),(C1 ls t b left long).2.2=false->long=false∧(C1 ls t b left long).1=cD ls t b
 | .mk kd n l,b,left,long,h=>by
  cases long with
  |true=>rw[zPg]at h;cases h
  |false=>
   refine⟨rfl,?_⟩
   rw[C1,if_neg (by simp)]at h ⊢
   rw[cD]
   by_cases h1:kd=1∧b≤n
   ·rw[if_pos h1]at h
    rw[if_pos h1,if_pos h1]
    by_cases h2:(n-b).toNat<ls.length
    ·rw[dif_pos h2]at h
     rw[dif_pos h2,dif_pos h2]
     exact(zVK h).2
    ·rw[dif_neg h2,dif_neg h2]
   ·rw[if_neg h1]at h
    rw[if_neg h1,if_neg h1]
    exact congrArg (Tm.mk kd n) (zPe ls l kd 0 b (left-1) (decide (left-1<0)) h).2
theorem zPe(ls:List Tm):∀(l:List Tm) (kd:Int) (i:Nat) (b left:Int) (long:Bool),(S4 ls l kd i b left long).2.2=false->long=false∧(S4 ls l kd i b left long).1=siL ls l kd i b
 | [],kd,i,b,left,long,h=>by
  rw[S4]at h ⊢
  rw[siL]
  exact⟨h,rfl⟩
 |t::l,kd,i,b,left,long,h=>by
  rw[S4]at h ⊢
  have k:=zPe ls l kd (i+1) b (C1 ls t (xU kd i b) left long).2.1 (C1 ls t (xU kd i b) left long).2.2 h
  have k2:=zPf ls t (xU kd i b) left long k.1
  refine⟨k2.1,?_⟩
  show (C1 ls t (xU kd i b) left long).1::(S4 ls l kd (i+1) b (C1 ls t (xU kd i b) left long).2.1 (C1 ls t (xU kd i b) left long).2.2).1=_
  rw[k2.2,k.2,siL]
end
theorem zCR{t:Tm}{ls:List Tm}(h:(iV t ls).2=0):zH t=true∧ls.all zH=true∧zH (cD ls t 0)=true∧(iV t ls).1=cD ls t 0:=by
 unfold iV at h ⊢
 by_cases a:zH t=true∧ls.all zH=true
 ·rw[if_pos a]at h ⊢
  by_cases b:(C1 ls t 0 8192 false).2.2=true
  ·rw[if_pos b]at h;simp at h
  ·rw[if_neg b]at h ⊢
   have e:=(zPf ls t 0 8192 false (by simpa using b)).2
   rw[e]at h ⊢
   by_cases c:zH (cD ls t 0)=true
   ·rw[if_pos c];exact⟨a.1,a.2,c,rfl⟩
   ·rw[if_neg c]at h;simp at h
 ·rw[if_neg a]at h;simp at h
theorem zJK(t:Tm)(ls:List Tm):(iV t ls).2≠8:=by
 unfold iV
 split
 ·split
  ·simp
  ·split<;>simp
 ·simp
mutual
def xM(P:Int->Int->Prop):Tm->Prop
 | .mk k n l=>(k=1∨P k n)∧wM P l
def wM(P:Int->Int->Prop):List Tm->Prop
 | []=>True
 |t::l=>xM P t∧wM P l
end
section
variable {P:Int->Int->Prop}
theorem zBf:∀ {l:List Tm},wM P l ↔ ∀t∈l,xM P t
 | []=>by rw[wM];simp
 |t::l=>by rw[wM,zBf];simp
theorem zCS{k n:Int}{a b:Tm}(h:k=1∨P k n)(ha:xM P a)(hb:xM P b):xM P (.mk k n [a,b]):=by
 rw[xM,wM,wM,wM];exact⟨h,ha,hb,trivial⟩
theorem zVL{k n:Int}{a:Tm}(h:k=1∨P k n)(ha:xM P a):xM P (.mk k n [a]):=by
 rw[xM,wM,wM];exact⟨h,ha,trivial⟩
theorem aR{k n:Int}(h:k=1∨P k n):xM P (.mk k n []):=by
 rw[xM,wM];exact⟨h,trivial⟩
mutual
theorem G3:∀(t:Tm) (b c k:Int),xM P t->xM P (jM t b c k)
 | .mk kd n l,b,c,k,h=>by
  rw[xM]at h
  rw[jM]
  split
  ·exact aR (.inl rfl)
  ·rw[xM];exact⟨h.1,zFl l kd 0 b c k h.2⟩
theorem zFl:∀(l:List Tm) (kd:Int) (i:Nat) (b c k:Int),wM P l->wM P (C0 l kd i b c k)
 | [],_,_,_,_,_,_=>by rw[C0,wM];trivial
 |t::l,kd,i,b,c,k,h=>by
  rw[wM]at h
  rw[C0,wM]
  exact⟨G3 t _ c k h.1,zFl l kd (i+1) b c k h.2⟩
end
mutual
theorem zCT(ls:List Tm)(hls:∀a∈ls,xM P a):∀(t:Tm) (b:Int),xM P t->xM P (cD ls t b)
 | .mk kd n l,b,h=>by
  rw[xM]at h
  rw[cD]
  split
  ·split
   ·exact G3 _ 0 0 b (hls _ (List.getElem_mem _))
   ·exact aR (.inl rfl)
  ·rw[xM];exact⟨h.1,zFk ls hls l kd 0 b h.2⟩
theorem zFk(ls:List Tm)(hls:∀a∈ls,xM P a):∀(l:List Tm) (kd:Int) (i:Nat) (b:Int),wM P l->wM P (siL ls l kd i b)
 | [],_,_,_,_=>by rw[siL,wM];trivial
 |t::l,kd,i,b,h=>by
  rw[wM]at h
  rw[siL,wM]
  exact⟨zCT ls hls t _ h.1,zFk ls hls l kd (i+1) b h.2⟩
end
theorem gH:∀(l:List Tm) (f:Tm),P 5 0->xM P f->(∀a∈l,xM P a)->xM P (uF f l)
 | [],f,_,hf,_=>by rw[uF];exact hf
 |a::l,f,h5,hf,hl=>by
  rw[uF]
  exact gH l _ h5 (zCS (.inr h5) hf (hl a (by simp))) fun x hx=>hl x (by simp[hx])
theorem lI:∀t:Tm,xB t=true->xM P t->xM P (yF t)∧∀a∈yS t,xM P a:=by
 refine iT ?_ ?_
 ·intro t hg hk h
  rw[tS hk,tY hk]
  exact⟨h,fun x hx=>by cases hx⟩
 ·intro n a b hg ha hb ih h
  rw[kG,pA]
  rw[xM,wM,wM,wM]at h
  refine⟨(ih h.2.1).1,fun x hx=>?_⟩
  rcases List.mem_append.1 hx with hx|hx
  ·exact(ih h.2.1).2 x hx
  ·rw[List.mem_singleton.1 hx];exact h.2.2.1
theorem o5:∀(n:Nat) (t:Tm) (r:List Tm×Tm),xB t=true->nS n t=some r->xM P t->xM P r.2∧∀x∈r.1,xM P x
 |0,t,r,hg,h,ha=>by
  rw[nS]at h;cases h
  exact⟨ha,fun x hx=>by cases hx⟩
 |n+1,t,r,hg,h,ha=>by
  by_cases h3:t.k=3
  ·obtain⟨a,b,hx,hga,hgb⟩:=mG hg h3
   rw[hx]at h ha
   rw[cA]at h
   obtain⟨r',h1,rfl⟩:=Option.map_eq_some_iff.1 h
   rw[xM,wM,wM,wM]at ha
   have ih:=o5 n b r' hgb h1 ha.2.2.1
   refine⟨ih.1,fun x hx=>?_⟩
   rcases List.mem_cons.1 hx with rfl|hx
   ·exact ha.2.1
   ·exact ih.2 x hx
  ·rw[eJ h3]at h;cases h
end
mutual
theorem O7{P Q R:Int->Int->Prop}(h:∀k n,P k n->Q k n->R k n):∀t:Tm,xM P t->xM Q t->xM R t
 | .mk k n l,hp,hq=>by
  rw[xM]at hp hq ⊢
  refine⟨?_,o6 h l hp.2 hq.2⟩
  rcases hp.1 with h1|h1
  ·exact .inl h1
  ·rcases hq.1 with h2|h2
   ·exact .inl h2
   ·exact .inr (h k n h1 h2)
theorem o6{P Q R:Int->Int->Prop}(h:∀k n,P k n->Q k n->R k n):∀l:List Tm,wM P l->wM Q l->wM R l
 | [],_,_=>by rw[wM];trivial
 |t::l,hp,hq=>by
  rw[wM]at hp hq ⊢
  exact⟨O7 h t hp.1 hq.1,o6 h l hp.2 hq.2⟩
end
theorem oV{P R:Int->Int->Prop}{t:Tm}(h:∀k n,P k n->R k n)(hp:xM P t):xM R t:=O7 (fun k n a _=>h k n a) t hp hp
mutual
theorem jP{a b:Int}{Q:Int->Prop}(ha:a≠1)(hb:b≠1):∀t:Tm,(∀x∈qL t a b,Q x)↔xM (fun k n=>k=a∨k=b->Q n) t
 | .mk k n l=>by
  have ih:=zBe (Q:=Q) ha hb l
  rw[qL,xM,←ih]
  constructor
  ·intro h
   refine⟨?_,fun x hx=>h x (List.mem_append_right _ hx)⟩
   by_cases h1:k=a∨k=b
   ·exact .inr fun _=>h n (by rw[if_pos h1];simp)
   ·exact .inr fun h2=>absurd h2 h1
  ·rintro ⟨h1,h2⟩ x hx
   rcases List.mem_append.1 hx with hx|hx
   ·by_cases h3:k=a∨k=b
    ·rw[if_pos h3,List.mem_singleton]at hx
     rcases h1 with h1|h1
     ·omega
     ·rw[hx];exact h1 h3
    ·rw[if_neg h3]at hx;cases hx
   ·exact h2 x hx
theorem zBe{a b:Int}{Q:Int->Prop}(ha:a≠1)(hb:b≠1):∀l:List Tm,(∀x∈E2 l a b,Q x)↔wM (fun k n=>k=a∨k=b->Q n) l
 | []=>by rw[E2,wM];simp
 |t::l=>by
  rw[E2,wM,←jP ha hb t,←zBe ha hb l]
  constructor
  ·intro h
   exact⟨fun x hx=>h x (List.mem_append_left _ hx),fun x hx=>h x (List.mem_append_right _ hx)⟩
  ·rintro ⟨h1,h2⟩ x hx
   rcases List.mem_append.1 hx with hx|hx
   ·exact h1 x hx
   ·exact h2 x hx
end
mutual
def sF:Tm->Int->List Int
 | .mk k n l,b=>if k=1 then(if b≤n then [n-b]else [])else lvL l k 0 b
def lvL:List Tm->Int->Nat->Int->List Int
 | [],_,_,_=>[]
 |t::l,k,i,b=>sF t (xU k i b)++lvL l k (i+1) b
end
theorem zFj(k:Int)(i:Nat)(d x:Int):xU k i (d+x)=xU k i d+x:=by
 unfold xU
 by_cases h:i=1∧k≠5
 ·rw[if_pos h,if_pos h];omega
 ·rw[if_neg h,if_neg h]
theorem zJL(k:Int)(i:Nat)(d:Int):d≤xU k i d:=by
 unfold xU;split<;>omega
theorem qC{n b j:Int}{l:List Tm}:j∈sF (.mk 1 n l) b↔b≤n∧j=n-b:=by
 rw[sF,if_pos rfl]
 by_cases h:b≤n
 ·rw[if_pos h];simp[h]
 ·rw[if_neg h];simp[h]
theorem sG{k n b j:Int}{l:List Tm}(h:k≠1):j∈sF (.mk k n l) b↔j∈lvL l k 0 b:=by
 rw[sF,if_neg h]
theorem wS{t:Tm}{l:List Tm}{k b j:Int}{i:Nat}:j∈lvL (t::l) k i b↔j∈sF t (xU k i b)∨j∈lvL l k (i+1) b:=by
 rw[lvL,List.mem_append]
theorem pH{k b j:Int}{i:Nat}:¬j∈lvL [] k i b:=by
 rw[lvL];simp
mutual
theorem o7:∀(t:Tm) (b j:Int),j∈sF t b->0≤j
 | .mk k n l,b,j,h=>by
  by_cases hk:k=1
  ·subst hk;have:=qC.1 h;omega
  ·exact zPd l k 0 b j ((sG hk).1 h)
theorem zPd:∀(l:List Tm) (k:Int) (i:Nat) (b j:Int),j∈lvL l k i b->0≤j
 | [],k,i,b,j,h=>absurd h pH
 |t::l,k,i,b,j,h=>(wS.1 h).elim (o7 t _ j) (zPd l k (i+1) b j)
end
mutual
theorem jQ:∀(t:Tm) (d b j:Int),0≤b->(j∈sF t (d+b)↔0≤j∧j+b∈sF t d)
 | .mk k n l,d,b,j,hb=>by
  by_cases hk:k=1
  ·subst hk;rw[qC,qC];omega
  ·rw[sG hk,sG hk];exact zBd l k 0 d b j hb
theorem zBd:∀(l:List Tm) (k:Int) (i:Nat) (d b j:Int),0≤b->(j∈lvL l k i (d+b)↔0≤j∧j+b∈lvL l k i d)
 | [],k,i,d,b,j,hb=>⟨fun h=>absurd h pH,fun h=>absurd h.2 pH⟩
 |t::l,k,i,d,b,j,hb=>by
  rw[wS,wS,zFj,jQ t _ b j hb,zBd l k (i+1) d b j hb]
  constructor
  ·rintro (h|h)
   ·exact⟨h.1,.inl h.2⟩
   ·exact⟨h.1,.inr h.2⟩
  ·rintro ⟨h,h1|h1⟩
   ·exact .inl ⟨h,h1⟩
   ·exact .inr ⟨h,h1⟩
end
mutual
theorem zUe:∀(t:Tm) (b c k j:Int),0≤k->j∈sF (jM t b c k) b->∃i∈sF t b,j=if i<c then i else i+k
 | .mk kd n l,b,c,k,j,hk,h=>by
  rw[jM]at h
  by_cases h1:kd=1
  ·subst h1
   rw[if_pos rfl]at h
   have h2:=qC.1 h
   by_cases h3:b≤n
   ·rw[if_pos h3]at h2
    exact⟨n-b,qC.2 ⟨h3,rfl⟩,by omega⟩
   ·rw[if_neg h3]at h2;omega
  ·rw[if_neg h1]at h
   obtain⟨i,hi,e⟩:=zPc l kd 0 b c k j hk ((sG h1).1 h)
   exact⟨i,(sG h1).2 hi,e⟩
theorem zPc:∀(l:List Tm) (kd:Int) (i:Nat) (b c k j:Int),0≤k->j∈lvL (C0 l kd i b c k) kd i b->∃x∈lvL l kd i b,j=if x<c then x else x+k
 | [],kd,i,b,c,k,j,hk,h=>by rw[C0]at h;exact absurd h pH
 |t::l,kd,i,b,c,k,j,hk,h=>by
  rw[C0]at h
  rcases wS.1 h with h|h
  ·obtain⟨x,hx,e⟩:=zUe t _ c k j hk h
   exact⟨x,wS.2 (.inl hx),e⟩
  ·obtain⟨x,hx,e⟩:=zPc l kd (i+1) b c k j hk h
   exact⟨x,wS.2 (.inr hx),e⟩
end
mutual
theorem zFi:∀(t:Tm) (d k j:Int),0≤k->j∈sF (jM t d 0 k) (d+k)->j∈sF t d
 | .mk kd n l,d,k,j,hk,h=>by
  rw[jM]at h
  by_cases h1:kd=1
  ·subst h1
   rw[if_pos rfl]at h
   have h2:=qC.1 h
   by_cases h3:d≤n
   ·rw[if_pos h3,if_neg (by omega)]at h2
    exact qC.2 ⟨h3,by omega⟩
   ·rw[if_neg h3]at h2;omega
  ·rw[if_neg h1]at h
   exact(sG h1).2 (zPb l kd 0 d k j hk ((sG h1).1 h))
theorem zPb:∀(l:List Tm) (kd:Int) (i:Nat) (d k j:Int),0≤k->j∈lvL (C0 l kd i d 0 k) kd i (d+k)->j∈lvL l kd i d
 | [],kd,i,d,k,j,hk,h=>by rw[C0]at h;exact absurd h pH
 |t::l,kd,i,d,k,j,hk,h=>by
  rw[C0]at h
  rcases wS.1 h with h|h
  ·rw[zFj]at h
   exact wS.2 (.inl (zFi t _ k j hk h))
  ·exact wS.2 (.inr (zPb l kd (i+1) d k j hk h))
end
mutual
theorem zPa(ls:List Tm):∀(t:Tm) (b j:Int),0≤b->j∈sF (cD ls t b) b->∃i∈sF t b,((ls.length:Int)≤i∧j=i-ls.length)∨∃h:i.toNat<ls.length,j∈sF ls[i.toNat] 0
 | .mk kd n l,b,j,hb,h=>by
  rw[cD]at h
  by_cases h1:kd=1∧b≤n
  ·rw[if_pos h1]at h
   obtain⟨rfl,h1⟩:=h1
   refine⟨n-b,qC.2 ⟨h1,rfl⟩,?_⟩
   by_cases h2:(n-b).toNat<ls.length
   ·rw[dif_pos h2]at h
    exact .inr ⟨h2,zFi _ 0 b j hb (by rwa[Int.zero_add])⟩
   ·rw[dif_neg h2]at h
    have:=qC.1 h
    exact .inl (by omega)
  ·rw[if_neg h1]at h
   by_cases h2:kd=1
   ·subst h2
    have:=qC.1 h
    exact absurd ⟨rfl,this.1⟩ h1
   ·obtain⟨i,hi,e⟩:=zPA ls l kd 0 b j hb ((sG h2).1 h)
    exact⟨i,(sG h2).2 hi,e⟩
theorem zPA(ls:List Tm):∀(l:List Tm) (kd:Int) (i:Nat) (b j:Int),0≤b->j∈lvL (siL ls l kd i b) kd i b->∃x∈lvL l kd i b,((ls.length:Int)≤x∧j=x-ls.length)∨∃h:x.toNat<ls.length,j∈sF ls[x.toNat] 0
 | [],kd,i,b,j,hb,h=>by rw[siL]at h;exact absurd h pH
 |t::l,kd,i,b,j,hb,h=>by
  rw[siL]at h
  rcases wS.1 h with h|h
  ·obtain⟨x,hx,e⟩:=zPa ls t _ j (by have:=zJL kd i b;omega) h
   exact⟨x,wS.2 (.inl hx),e⟩
  ·obtain⟨x,hx,e⟩:=zPA ls l kd (i+1) b j hb h
   exact⟨x,wS.2 (.inr hx),e⟩
end
theorem zVM{k n:Int}{a b:Tm}{d j:Int}(hk:k≠1):j∈sF (.mk k n [a,b]) d↔j∈sF a d∨j∈sF b (xU k 1 d):=by
 rw[sG hk,wS,wS]
 have e:xU k 0 d=d:=by unfold xU;simp
 rw[e]
 exact⟨fun h=>h.elim .inl fun h=>h.elim .inr fun h=>absurd h pH,fun h=>h.elim .inl fun h=>.inr (.inl h)⟩
theorem O8{n:Int}{a b:Tm}{d j:Int}:j∈sF (.mk 5 n [a,b]) d↔j∈sF a d∨j∈sF b d:=by
 rw[zVM (by decide)]
 have e:xU 5 1 d=d:=by unfold xU;simp
 rw[e]
theorem zPB{n:Int}{a b:Tm}{d j:Int}:j∈sF (.mk 3 n [a,b]) d↔j∈sF a d∨j∈sF b (d+1):=by
 rw[zVM (by decide)]
 have e:xU 3 1 d=d+1:=by unfold xU;simp
 rw[e]
theorem zPC{n:Int}{a b:Tm}{d j:Int}:j∈sF (.mk 4 n [a,b]) d↔j∈sF a d∨j∈sF b (d+1):=by
 rw[zVM (by decide)]
 have e:xU 4 1 d=d+1:=by unfold xU;simp
 rw[e]
theorem zJM{k n d j:Int}(hk:k≠1):¬j∈sF (.mk k n []) d:=by
 rw[sG hk];exact pH
theorem zYY{k n m d j:Int}(hk:k≠1):¬j∈sF (.mk k n [.mk 2 m []]) d:=by
 rw[sG hk,wS]
 exact fun h=>h.elim (zJM (by decide)) pH
theorem zBc:∀(l:List Tm) (f:Tm) (d j:Int),j∈sF (uF f l) d↔j∈sF f d∨∃a∈l,j∈sF a d
 | [],f,d,j=>by rw[uF];simp
 |a::l,f,d,j=>by
  rw[uF,zBc l,O8]
  simp[or_assoc]
theorem G5:∀t:Tm,xB t=true->∀d j,(j∈sF (yF t) d->j∈sF t d)∧∀a∈yS t,j∈sF a d->j∈sF t d:=by
 refine iT ?_ ?_
 ·intro t hg hk d j
  rw[tS hk,tY hk]
  exact⟨id,fun x hx=>by cases hx⟩
 ·intro n a b hg ha hb ih d j
  rw[kG,pA]
  refine⟨fun h=>O8.2 (.inl ((ih d j).1 h)),fun x hx h=>?_⟩
  rcases List.mem_append.1 hx with hx|hx
  ·exact O8.2 (.inl ((ih d j).2 x hx h))
  ·rw[List.mem_singleton.1 hx]at h
   exact O8.2 (.inr h)
theorem zCU:∀(n:Nat) (t:Tm) (r:List Tm×Tm),xB t=true->nS n t=some r->∀d j,(j∈sF r.2 (d+n)->j∈sF t d)∧∀(i:Nat) (h:i<r.1.length),j∈sF r.1[i] (d+i)->j∈sF t d
 |0,t,r,hg,h,d,j=>by
  rw[nS]at h;cases h
  exact⟨fun h=>by simpa using h,fun i h=>by simp at h⟩
 |n+1,t,r,hg,h,d,j=>by
  by_cases h3:t.k=3
  ·obtain⟨a,b,hx,hga,hgb⟩:=mG hg h3
   rw[hx]at h ⊢
   rw[cA]at h
   obtain⟨r',h1,rfl⟩:=Option.map_eq_some_iff.1 h
   have ih:=zCU n b r' hgb h1 (d+1) j
   refine⟨fun h=>zPB.2 (.inr (ih.1 ?_)),fun i h hj=>?_⟩
   ·rwa[show d+1+(n:Int)=d+((n+1:Nat):Int) by omega]
   ·cases i with
    |zero=>exact zPB.2 (.inl (by simpa using hj))
    |succ i=>
     refine zPB.2 (.inr (ih.2 i (by simpa using h) ?_))
     rw[show d+1+(i:Int)=d+((i+1:Nat):Int) by omega]
     simpa using hj
  ·rw[eJ h3]at h;cases h
theorem zPD{k:Int}{i:Nat}{b:Int}(h:k=3∨k=4∨k=5∨i=0):xU k i b=b+cV k i:=by
 unfold xU cV
 rcases h with h|h|h|h
 ·subst h;by_cases hi:i=1<;>simp[hi]
 ·subst h;by_cases hi:i=1<;>simp[hi]
 ·subst h;simp
 ·subst h;simp
mutual
theorem zHY:∀(t:Tm) (b j:Int),xB t=true->j∈sF t b->j<mY t b
 | .mk k n l,b,j,hg,h=>by
  rw[mY]
  by_cases hk:k=1
  ·subst hk;rw[if_pos rfl];have:=qC.1 h;omega
  ·rw[if_neg hk]
   have hh:=wF hg
   have hs:=vN hh.1
   refine zJN l k 0 b j hh.2 ?_ ((sG hk).1 h)
   have e1:k=3∨k=4∨k=5∨l.length≤1:=by
    by_cases h7:k=7
    ·obtain⟨x,hx,-⟩:=hs.2.2.2.2.2.2.1 h7
     have hx':l=[x]:=hx
     rw[hx'];simp
    ·by_cases h1:k=1∨k=2∨k=6∨k=8
     ·have hx:=hs.2.2.2.2.2.2.2.1 h1
      have hx':l=[]:=hx
      rw[hx'];simp
     ·have a1:1≤k:=hs.1
      have a2:k≤8:=hs.2.1
      omega
   omega
theorem zJN:∀(l:List Tm) (k:Int) (i:Nat) (b j:Int),wZ l=true->(k=3∨k=4∨k=5∨i+l.length≤1)->j∈lvL l k i b->j<kU l k i b
 | [],k,i,b,j,hg,hl,h=>absurd h pH
 |t::l,k,i,b,j,hg,hl,h=>by
  rw[kU]
  have hc:=wB hg
  rw[List.length_cons]at hl
  rcases wS.1 h with h|h
  ·rw[zPD (by omega)]at h
   have:=zHY t _ j hc.1 h
   omega
  ·have:=zJN l k (i+1) b j hc.2 (by omega) h
   omega
end
theorem zBb{t:Tm}{n:Int}(h:tZ t n=true)(d j:Int)(hd:0≤d):¬j∈sF t d:=by
 intro hj
 have hs:=zO (qG h)
 have h0:j+d∈sF t 0:=((jQ t 0 d j hd).1 (by rwa[Int.zero_add])).2
 have h1:=zHY t 0 _ hs.2.2 h0
 have h2:=o7 t d j hj
 unfold tZ rC at h
 simp only[Bool.and_eq_true,decide_eq_true_eq]at h
 omega
theorem G6{t:Tm}{n:Int}(h:tZ t n=true):xM (fun k x=>(k=6∨k=7->x<n)∧k≠8) t:=by
 have h6:xM (fun k x=>k=6∨k=7->x<n) t:=by
  refine(jP (by decide) (by decide) t).1 ?_
  unfold tZ rC at h
  simp only[Bool.and_eq_true,List.all_eq_true,decide_eq_true_eq]at h
  exact h.1.2
 have h8:xM (fun k x=>k=8∨k=8->False) t:=by
  refine(jP (Q:=fun _=>False) (by decide) (by decide) t).1 ?_
  unfold tZ at h
  simp only[Bool.and_eq_true,List.isEmpty_iff]at h
  rw[h.2]
  exact fun x hx=>by cases hx
 exact O7 (fun k n a b=>⟨a,fun h=>b (.inl h)⟩) t h6 h8
def gI:Nat->yM->Int->Int->Int->yM->Option (yM×Int)
 |0,_,_,_,_,_=>none
 |qq+1,p0,p1,p2,v15,v8=>
 if decide (v15<(p0.length:Int))then
 zW p0 v15>>=fun x2=>
 zLG qq x2 p1 p2>>=fun r4=>
 if r4.2 != 0 then
 some ([],r4.2)
 else
 xF 40 v8 [r4.1]>>=fun l7=>
 gI qq p0 p1 p2 (xL (v15+1)) l7
 else
 some (v8,0)
def zPE(qq:Nat)(p0:yM)(p1 p2:Int):Option (yM×Int):=
 gI qq p0 p1 p2 0 []
theorem zSS:∀qq:Nat,(∀ {p0 p1 p2 v15 v8 r},gI qq p0 p1 p2 v15 v8=some r->(∀j,dL 0 (pt 4021 f198) (sp j 35 0 [(1,ai p1),(2,ai p2),(8,zV zD v8 (.st 0 3)),(13,zV zD p0 .no),(14,ai (p0.length:Int)),(15,ai v15)]) (⟨[],0,[0],1,[]⟩) (fQ 0 (nQ 0 f198 (.tup [.sl (zG zD r.1) r.1.length .no,ai r.2]) [] 0) [.blk 0,.seq (pt 63 f198)]))):=by
 intro qq
 induction qq with
 |zero=>
  exact fun h=>nn h
 |succ qq ih=>
  intro p0 p1 p2 v15 v8 r h
  rw[gI]at h
  obtain⟨h1,h⟩|⟨h1,h⟩:=zU h
  obtain⟨x2,h3,h⟩:=zC h
  obtain⟨r4,h5,h⟩:=zC h
  have k:=oC 3 [] (zYB h5)<|oA 0 (xH (o:=.no) h3)<|oB 0 h1 o0
  obtain⟨h6,h⟩|⟨h6,h⟩:=zU h
  cases h
  exact fun j=>lF 0 [] (oD (dT ([]:yM))<|oB 3 h6 k)
  obtain⟨l7,h8,h⟩:=zC h
  exact fun j=>lH 1 [] [] [1] [1,2,8,13,14,15] (oD (dT p0)<|oD (dT l7)<|oP 0 (vE h8 (by simp))<|oS 1 (xO xW [r4.1])<|oB 3 h6 k) (ih h)
  cases h
  exact fun j=>lF 0 [] (oD (dT v8)<|oB 0 h1 o0)
theorem yBA{qq p0 p1 p2 r}(h:zPE qq p0 p1 p2=some r):Ct 198 [] [zV zD p0 .no,ai p1,ai p2] (.tup [.sl (zG zD r.1) r.1.length .no,ai r.2]) [] 0:=⟨by
 unfold zPE at h
 exact tH ⟨func198,rfl⟩ 1 [(none,8,3)] [] [0] [1,2,8,13,14,15] (oD (dT p0)<|oD (dT ([]:yM)) o0) (zSS _ h),⟨⟨tv,dT _⟩,tv,tv,tv⟩,zB,⟨dT _,tv,tv⟩,zB⟩
def gJ:Nat->yM->Int->Option yM
 |0,_,_=>none
 |qq+1,v3,v4=>
 if decide (v4≥0)then
 zCG qq v4>>=fun r4=>
 xF 40 v3 [r4]>>=fun l6=>
 gJ qq l6 (xL (v4-1))
 else
 some v3
def zPF(qq:Nat)(p0:Int):Option yM:=
 if decide (p0<0)then
 some []
 else
 if decide (p0>1048576)then
 some []
 else
 gJ qq [] (xL (p0-1))
theorem zVN:Qf 200 f200:=⟨func200,rfl⟩
theorem zST:∀qq:Nat,(∀ {v3 v4 r},gJ qq v3 v4=some r->(∀j,dL 0 (pt 16309 f200) (sp j 23 0 [(3,zV zD v3 (.st 0 3)),(4,ai v4)]) (⟨[],0,[0],1,[]⟩) (fQ 0 (nQ 0 f200 (.sl (zG zD r) r.length .no) [] 0) [.blk 0,.seq (pt 255 f200)]))):=by
 intro qq
 induction qq with
 |zero=>
  exact fun h=>nn h
 |succ qq ih=>
  intro v3 v4 r h
  rw[gJ]at h
  obtain⟨h3,h⟩|⟨h3,h⟩:=zU h
  obtain⟨r4,h5,h⟩:=zC h
  obtain⟨l6,h7,h⟩:=zC h
  exact fun j=>lH 1 [] [] [1] [3,4] (oD (dT l6)<|oP 0 (vE h7 (by simp))<|oS 0 (xO xW [r4])<|oC 0 [] (zLF h5)<|oB 0 h3 o0) (ih h)
  obtain rfl:=sj h
  exact fun j=>lF 0 [] (oD (dT v3)<|oB 0 h3 o0)
theorem yBB{qq p0 r}(h:zPF qq p0=some r):Ct 200 [] [ai p0] (.sl (zG zD r) r.length .no) [] 0:=⟨by
 unfold zPF at h
 obtain⟨h1,h⟩|⟨h1,h⟩:=zU h
 obtain rfl:=sj h
 exact tF zVN 0 [] (oD (dT ([]:yM))<|oB 0 h1 o0)
 have k:=oB 0 h1 o0
 obtain⟨h2,h⟩|⟨h2,h⟩:=zU h
 obtain rfl:=sj h
 exact tF zVN 0 [] (oD (dT ([]:yM))<|oB 0 h2 k)
 exact tH zVN 1 [(none,3,3)] [] [0] [3,4] (oD (dT ([]:yM))<|oB 0 h2 k) (zST _ h),⟨tv,tv⟩,zB,dT _,zB⟩
def zHZ(qq:Nat)(p0:yV)(p1 p2:Int):Option Bool:=
 if decide (p1≥0)then
 if decide (p1<(p0.length:Int))then
 zW p0 p1>>=fun x3=>
 some (x3.kind==p2)
 else
 some false
 else
 some false
theorem zVO:Qf 242 f242:=⟨func242,rfl⟩
theorem zMq{qq p0 p1 p2 r}(h:zHZ qq p0 p1 p2=some r):Ct 242 [] [zV xJ p0 .no,ai p1,ai p2] (ab r) [] 0:=⟨by
 unfold zHZ at h
 obtain⟨h1,h⟩|⟨h1,h⟩:=zU h
 have k:=oB 0 h1 o0
 obtain⟨h2,h⟩|⟨h2,h⟩:=zU h
 obtain⟨x3,h4,h⟩:=zC h
 cases h
 exact tF zVO 2 [] (oA 0 (wI (o:=.no) h4)<|oB 1 h2 k)
 cases h
 exact tF zVO 0 [] (oB 1 h2 k)
 cases h
 exact tF zVO 0 [] (oB 0 h1 o0),⟨⟨tv,dE _⟩,tv,tv,tv⟩,zB,tv,zB⟩
def gK:Nat->yM->Int->Option Bool
 |0,_,_=>none
 |qq+1,p0,v7=>
 if decide (v7<(p0.length:Int))then
 zW p0 v7>>=fun x2=>
 bI qq x2>>=fun r4=>
 if r4 then
 gK qq p0 (xL (v7+1))
 else
 some false
 else
 some true
def zIz(qq:Nat)(p0:yM):Option Bool:=
 gK qq p0 0
theorem zSU:∀qq:Nat,(∀ {p0 v7 r},gK qq p0 v7=some r->(∀j,dL 0 (pt 949 f243) (sp j 15 0 [(5,zV zD p0 .no),(6,ai (p0.length:Int)),(7,ai v7)]) (⟨[],0,[],0,[]⟩) (fQ 0 (nQ 0 f243 (ab r) [] 0) [.blk 0,.seq (pt 15 f243)]))):=by
 intro qq
 induction qq with
 |zero=>
  exact fun h=>nn h
 |succ qq ih=>
  intro p0 v7 r h
  rw[gK]at h
  obtain⟨h1,h⟩|⟨h1,h⟩:=zU h
  obtain⟨x2,h3,h⟩:=zC h
  obtain⟨r4,h5,h⟩:=zC h
  have k:=oA 0 (xH (o:=.no) h3)<|oB 0 h1 o0
  obtain⟨h6,h⟩|⟨h6,h⟩:=zU h
  exact fun j=>lH 2 [] [] [] [5,6,7] (oD (dT p0)<|oK 3 [] h6 (nC h5) k) (ih h)
  cases h
  exact fun j=>lF 1 [] (oK 3 [] h6 (nC h5) k)
  cases h
  exact fun j=>lF 0 [] (oB 0 h1 o0)
theorem zMp{qq p0 r}(h:zIz qq p0=some r):Ct 243 [] [zV zD p0 .no] (ab r) [] 0:=⟨by
 unfold zIz at h
 exact tH ⟨func243,rfl⟩ 1 [] [] [] [5,6,7] (oD (dT p0) o0) (zSU _ h),⟨⟨tv,dT _⟩,tv⟩,zB,tv,zB⟩
def zPG(qq:Nat)(q0_e:Int)(p1:yM)(p2:Int):Option (yM×Int):=
 if q0_e==0 then
 some (p1,p2)
 else
 some (p1,q0_e)
theorem zYZ:Qf 260 f260:=⟨func260,rfl⟩
theorem yBC{qq q0_e p1 p2 r}(h:zPG qq q0_e p1 p2=some r):Ct 260 [.cells [ai q0_e]] [.mp 0 0,zV zD p1 .no,ai p2] (.sl (zG zD r.1) r.1.length .no) [.cells [ai r.2]] 0:=⟨by
 unfold zPG at h
 obtain⟨h1,h⟩|⟨h1,h⟩:=zU h
 cases h
 exact tF zYZ 1 [0] (oD (dT p1)<|oB 1 h1 o0)
 cases h
 exact tF zYZ 0 [0] (oD (dT p1)<|oB 1 h1 o0),⟨(lz rfl),⟨tv,dT _⟩,tv,tv⟩,(zA ⟨tv,tv⟩ zB),dT _,(zA ⟨tv,tv⟩ zB)⟩
def zMo(qq:Nat)(q0_e:Int)(p1:yM)(p2:Int):Option (yM×Int):=
 zPE qq p1 p2 0>>=fun r1=>
 zPG qq q0_e r1.1 r1.2>>=fun r3=>
 some (r3.1,r3.2)
theorem zZz{qq q0_e p1 p2 r}(h:zMo qq q0_e p1 p2=some r):Ct 253 [.cells [ai q0_e]] [.mp 0 0,zV zD p1 .no,ai p2] (.sl (zG zD r.1) r.1.length .no) [.cells [ai r.2]] 0:=⟨by
 unfold zMo at h
 obtain⟨r1,h2,h⟩:=zC h
 obtain⟨r3,h4,h⟩:=zC h
 cases h
 exact tF ⟨func253,rfl⟩ 0 [0] (oD (dT r3.1)<|oC 2 [0] (yBC h4)<|oC 0 [] (yBA h2) o0),⟨(lz rfl),⟨tv,dT _⟩,tv,tv⟩,(zA ⟨tv,tv⟩ zB),dT _,(zA ⟨tv,tv⟩ zB)⟩
def zIy(qq:Nat)(q0_e:Int)(p1:Tm)(p2:Int):Option (Tm×Int):=
 if q0_e==0 then
 some (p1,p2)
 else
 some (p1,q0_e)
theorem zZy:Qf 256 f256:=⟨func256,rfl⟩
theorem zVP{qq q0_e p1 p2 r}(h:zIy qq q0_e p1 p2=some r):Ct 256 [.cells [ai q0_e]] [.mp 0 0,yY p1,ai p2] (yY r.1) [.cells [ai r.2]] 0:=⟨by
 unfold zIy at h
 obtain⟨h1,h⟩|⟨h1,h⟩:=zU h
 cases h
 exact tF zZy 3 [0] (oD (dT p1.sub)<|oB 1 h1 o0)
 cases h
 exact tF zZy 2 [0] (oD (dT p1.sub)<|oB 1 h1 o0),⟨(lz rfl),⟨tv,tv,⟨tv,dT _⟩,tv⟩,tv,tv⟩,(zA ⟨tv,tv⟩ zB),⟨tv,tv,dT _,tv⟩,(zA ⟨tv,tv⟩ zB)⟩
def gL:Nat->Tm->(yM×Int)->Int->yM->Option (Tm×Int)
 |0,_,_,_,_=>none
 |qq+1,p1,r6,v12,v9=>
 if decide (v12≥0)then
 zW r6.1 v12>>=fun x9=>
 xF 40 v9 [x9]>>=fun l11=>
 gL qq p1 r6 (xL (v12-1)) l11
 else
 zLH qq p1 v9>>=fun r13=>
 zIy qq r6.2 r13.1 r13.2>>=fun r15=>
 some (r15.1,r15.2)
def gM:Nat->Int->Tm->Int->yM->Int->yM->Option (Tm×Int)
 |0,_,_,_,_,_,_=>none
 |qq+1,q0_e,p1,p2,p3,v14,v9=>
 if decide (v14<p2)then
 zCG qq v14>>=fun r2=>
 xF 40 v9 [r2]>>=fun l4=>
 gM qq q0_e p1 p2 p3 (xL (v14+1)) l4
 else
 zMo qq q0_e p3 p2>>=fun r6=>
 gL qq p1 r6 (xL ((r6.1.length:Int)-1)) v9
def zMn(qq:Nat)(q0_e:Int)(p1:Tm)(p2:Int)(p3:yM):Option (Tm×Int):=
 gM qq q0_e p1 p2 p3 0 []
theorem zSV:∀qq:Nat,(∀ {p1 r6 v12 v9 r},gL qq p1 r6 v12 v9=some r->(∀j,dL 1 (pt 65461 f254) (sp j 48 0 [(0,.mp 0 0),(5,.mp 1 0),(8,.mp 2 0),(9,zV zD v9 (.st 0 3)),(11,zV zD r6.1 .no),(12,ai v12)]) (⟨[(0,.cells [ai r6.2]),(1,.cells [ai p1.k,ai p1.n,zV zD p1.sub .no]),(2,.cells [ai 0,ai 0,zV zD ([]:yM) .nl])],3,[0],1,[]⟩) (fQ 1 (nQ 1 f254 (yY r.1) [.cells [ai r.2]] 0) [.blk 2,.seq (pt 1023 f254)]))):=by
 intro qq
 induction qq with
 |zero=>
  exact fun h=>nn h
 |succ qq ih=>
  intro p1 r6 v12 v9 r h
  rw[gL]at h
  obtain⟨h8,h⟩|⟨h8,h⟩:=zU h
  obtain⟨x9,h10,h⟩:=zC h
  obtain⟨l11,h12,h⟩:=zC h
  exact fun j=>lH 1 [] [0,1,2] [1] [0,5,8,9,11,12] (oD (dT r6.1)<|oD (dT l11)<|oD (dT ([]:yM))<|oD (dT p1.sub)<|oP 0 (vE h12 (by simp))<|oS 1 (xO xW [x9])<|oA 0 (xH (o:=.no) h10)<|oB 0 h8 o0) (ih h)
  obtain⟨r13,h14,h⟩:=zC h
  obtain⟨r15,h16,h⟩:=zC h
  cases h
  exact fun j=>lF 1 [0] (oD (dT r15.1.sub)<|oC 2 [0] (zVP h16)<|oC 1 [] (zYD h14)<|oB 0 h8 o0)
theorem zSW:∀qq:Nat,(∀ {q0_e p1 p2 p3 v14 v9 r},gM qq q0_e p1 p2 p3 v14 v9=some r->(∀j,dL 1 (pt 4021 f254) (sp j 48 0 [(0,.mp 0 0),(2,ai p2),(3,zV zD p3 .no),(5,.mp 1 0),(8,.mp 2 0),(9,zV zD v9 (.st 0 3)),(13,ai p2),(14,ai v14)]) (⟨[(0,.cells [ai q0_e]),(1,.cells [ai p1.k,ai p1.n,zV zD p1.sub .no]),(2,.cells [ai 0,ai 0,zV zD ([]:yM) .nl])],3,[0],1,[]⟩) (fQ 1 (nQ 1 f254 (yY r.1) [.cells [ai r.2]] 0) [.blk 0,.seq (pt 63 f254)]))):=by
 intro qq
 induction qq with
 |zero=>
  exact fun h=>nn h
 |succ qq ih=>
  intro q0_e p1 p2 p3 v14 v9 r h
  rw[gM]at h
  obtain⟨h1,h⟩|⟨h1,h⟩:=zU h
  obtain⟨r2,h3,h⟩:=zC h
  obtain⟨l4,h5,h⟩:=zC h
  exact fun j=>lH 1 [] [0,1,2] [1] [0,2,3,5,8,9,13,14] (oD (dT l4)<|oD (dT p3)<|oD (dT ([]:yM))<|oD (dT p1.sub)<|oP 0 (vE h5 (by simp))<|oS 0 (xO xW [r2])<|oC 0 [] (zLF h3)<|oB 0 h1 o0) (ih h)
  obtain⟨r6,h7,h⟩:=zC h
  exact fun j=>lH 2 [] [0,1,2] [0] [0,5,8,9,11,12] (oD (dT r6.1)<|oD (dT v9)<|oD (dT ([]:yM))<|oD (dT p1.sub)<|oC 0 [0] (zZz h7)<|oB 0 h1 o0) (zSV _ h)
theorem zZx{qq q0_e p1 p2 p3 r}(h:zMn qq q0_e p1 p2 p3=some r):Ct 254 [.cells [ai q0_e]] [.mp 0 0,yY p1,ai p2,zV zD p3 .no] (yY r.1) [.cells [ai r.2]] 0:=⟨by
 unfold zMn at h
 exact tH ⟨func254,rfl⟩ 0 [(none,9,3)] [0,1,2] [0] [0,2,3,5,8,9,13,14] (oD (dT ([]:yM))<|oD (dT p3)<|oD (dT ([]:yM))<|oD (dT p1.sub) o0) (zSW _ h),⟨(lz rfl),⟨tv,tv,⟨tv,dT _⟩,tv⟩,tv,⟨tv,dT _⟩,tv⟩,(zA ⟨tv,tv⟩ zB),⟨tv,tv,dT _,tv⟩,(zA ⟨tv,tv⟩ zB)⟩
def zPH(qq:Nat)(q0_e:Int)(p1:Tm)(p2:Int):Option (Tm×Int):=
 zFz qq p1 p2>>=fun r1=>
 zIy qq q0_e r1.1 r1.2>>=fun r3=>
 some (r3.1,r3.2)
theorem yBD{qq q0_e p1 p2 r}(h:zPH qq q0_e p1 p2=some r):Ct 255 [.cells [ai q0_e]] [.mp 0 0,yY p1,ai p2] (yY r.1) [.cells [ai r.2]] 0:=⟨by
 unfold zPH at h
 obtain⟨r1,h2,h⟩:=zC h
 obtain⟨r3,h4,h⟩:=zC h
 cases h
 exact tF ⟨func255,rfl⟩ 1 [0] (oD (dT r3.1.sub)<|oC 2 [0] (zVP h4)<|oC 1 [] (zSt h2) o0),⟨(lz rfl),⟨tv,tv,⟨tv,dT _⟩,tv⟩,tv,tv⟩,(zA ⟨tv,tv⟩ zB),⟨tv,tv,dT _,tv⟩,(zA ⟨tv,tv⟩ zB)⟩
def zVQ(qq:Nat)(p0 p1:Tm):Option Tm:=
 zEY qq 4 0 [p0,p1]>>=fun r1=>
 some r1
theorem yBE{qq p0 p1 r}(h:zVQ qq p0 p1=some r):Ct 262 [] [yY p0,yY p1] (yY r) [] 0:=⟨by
 unfold zVQ at h
 obtain⟨r1,h2,h⟩:=zC h
 obtain rfl:=sj h
 exact tF ⟨func262,rfl⟩ 1 [] (oD (dT r1.sub)<|oC 0 [] (zLB h2)<|oS 2 (xO xW [p0,p1]) o0),⟨⟨tv,tv,⟨tv,dT _⟩,tv⟩,⟨tv,tv,⟨tv,dT _⟩,tv⟩,tv⟩,zB,⟨tv,tv,dT _,tv⟩,zB⟩
def rL:Nat->yM->Int->Int->Int->yM->Option (Tm×Int)
 |0,_,_,_,_,_=>none
 |qq+1,p0,v32,yE,wC,xT=>
 if decide (v32<(p0.length:Int))then
 zW p0 (xL ((xL ((p0.length:Int)-1))-v32))>>=fun x12=>
 zVQ qq x12 (Tm.mk yE wC xT)>>=fun r14=>
 rL qq p0 (xL (v32+1)) r14.k r14.n r14.sub
 else
 bI qq (Tm.mk yE wC xT)>>=fun r16=>
 if r16 then
 e53 qq (Tm.mk yE wC xT)>>=fun r19=>
 some (r19,0)
 else
 some ((Tm.mk 0 0 []),2)
def rM:Nat->yM->Tm->Int->Option (Tm×Int)
 |0,_,_,_=>none
 |qq+1,p0,p1,v17=>
 if decide (v17<(p0.length:Int))then
 zW p0 v17>>=fun x3=>
 bI qq x3>>=fun r5=>
 if r5 then
 rM qq p0 p1 (xL (v17+1))
 else
 some ((Tm.mk 0 0 []),5)
 else
 bI qq p1>>=fun r8=>
 if r8 then
 rL qq p0 0 p1.k p1.n p1.sub
 else
 some ((Tm.mk 0 0 []),5)
def G7(qq:Nat)(p0:yM)(p1:Tm):Option (Tm×Int):=
 if decide ((p0.length:Int)>24)then
 some ((Tm.mk 0 0 []),2)
 else
 rM qq p0 p1 0
theorem zFh:Qf 261 f261:=⟨func261,rfl⟩
theorem zFg:∀qq:Nat,(∀ {p0 v32 yE wC xT r},rL qq p0 v32 yE wC xT=some r->(∀j,dL 0 (pt 65461 f261) (sp j 53 0 [(0,zV zD p0 .no),(2,.clo 262 [] []),(4,.mp 0 0),(6,.mp 1 0),(31,ai (p0.length:Int)),(32,ai v32)]) (⟨[(0,.cells [ai yE,ai wC,zV zD xT .no]),(1,.cells [ai 0,ai 0,zV zD ([]:yM) .nl])],2,[],0,[]⟩) (fQ 0 (nQ 0 f261 (.tup [yY r.1,ai r.2]) [] 0) [.blk 2,.seq (pt 1023 f261)]))):=by
 intro qq
 induction qq with
 |zero=>
  exact fun h=>nn h
 |succ qq ih=>
  intro p0 v32 yE wC xT r h
  rw[rL]at h
  obtain⟨h11,h⟩|⟨h11,h⟩:=zU h
  obtain⟨x12,h13,h⟩:=zC h
  obtain⟨r14,h15,h⟩:=zC h
  exact fun j=>lH 2 [] [0,1] [] [0,2,4,6,31,32] (oD (dT p0)<|oD (dT ([]:yM))<|oD (dT r14.sub)<|oC 2 [] (yBE h15)<|oA 3 (xH (o:=.no) h13)<|oB 0 h11 o0) (ih h)
  obtain⟨r16,h17,h⟩:=zC h
  have k:=oB 0 h11 o0
  obtain⟨h18,h⟩|⟨h18,h⟩:=zU h
  obtain⟨r19,h20,h⟩:=zC h
  cases h
  exact fun j=>lF 1 [] (oD (dT r19.sub)<|oC 2 [] (c53 h20)<|oK 1 [] h18 (nC h17) k)
  cases h
  exact fun j=>lF 2 [] (oD (dT ([]:yM))<|oK 1 [] h18 (nC h17) k)
theorem zFf:∀qq:Nat,(∀ {p0 p1 v17 r},rM qq p0 p1 v17=some r->(∀j,dL 0 (pt 4021 f261) (sp j 53 0 [(0,zV zD p0 .no),(2,.clo 262 [] []),(4,.mp 0 0),(6,.mp 1 0),(15,zV zD p0 .no),(16,ai (p0.length:Int)),(17,ai v17)]) (⟨[(0,.cells [ai p1.k,ai p1.n,zV zD p1.sub .no]),(1,.cells [ai 0,ai 0,zV zD ([]:yM) .nl])],2,[],0,[]⟩) (fQ 0 (nQ 0 f261 (.tup [yY r.1,ai r.2]) [] 0) [.blk 0,.seq (pt 63 f261)]))):=by
 intro qq
 induction qq with
 |zero=>
  exact fun h=>nn h
 |succ qq ih=>
  intro p0 p1 v17 r h
  rw[rM]at h
  have z {os ob} (k:Oz os ob):=oD (dT p0)<|oD (dT ([]:yM))<|oD (dT p1.sub)<|k
  obtain⟨h2,h⟩|⟨h2,h⟩:=zU h
  obtain⟨x3,h4,h⟩:=zC h
  obtain⟨r5,h6,h⟩:=zC h
  have k:=oA 0 (xH (o:=.no) h4)<|oB 0 h2 o0
  obtain⟨h7,h⟩|⟨h7,h⟩:=zU h
  exact fun j=>lH 2 [] [0,1] [] [0,2,4,6,15,16,17] (oD (dT p0)<|z<|oK 3 [] h7 (nC h6) k) (ih h)
  cases h
  exact fun j=>lF 2 [] (oD (dT ([]:yM))<|oK 3 [] h7 (nC h6) k)
  obtain⟨r8,h9,h⟩:=zC h
  have k:=oB 0 h2 o0
  obtain⟨h10,h⟩|⟨h10,h⟩:=zU h
  exact fun j=>lH 2 [] [0,1] [] [0,2,4,6,31,32] (z<|oK 1 [] h10 (nC h9) k) (zFg _ h)
  cases h
  exact fun j=>lF 2 [] (oD (dT ([]:yM))<|oK 1 [] h10 (nC h9) k)
theorem zPI{qq p0 p1 r}(h:G7 qq p0 p1=some r):Ct 261 [] [zV zD p0 .no,yY p1,.clo 262 [] []] (.tup [yY r.1,ai r.2]) [] 0:=⟨by
 unfold G7 at h
 obtain⟨h1,h⟩|⟨h1,h⟩:=zU h
 cases h
 exact tF zFh 1 [] (oD (dT ([]:yM))<|oB 1 h1 o0)
 exact tH zFh 1 [] [0,1] [] [0,2,4,6,15,16,17] (oD (dT p0)<|oD (dT p0)<|oD (dT ([]:yM))<|oD (dT p1.sub)<|oB 1 h1 o0) (zFf _ h),⟨⟨tv,dT _⟩,⟨tv,tv,⟨tv,dT _⟩,tv⟩,⟨tv,tv⟩,tv⟩,zB,⟨⟨tv,tv,dT _,tv⟩,tv,tv⟩,zB⟩
def zPJ(qq:Nat)(p0:yM)(p1:Tm):Option (Tm×Int):=
 G7 qq p0 p1>>=fun r1=>
 some (r1.1,r1.2)
theorem yBF{qq p0 p1 r}(h:zPJ qq p0 p1=some r):Ct 257 [] [zV zD p0 .no,yY p1] (.tup [yY r.1,ai r.2]) [] 0:=⟨by
 unfold zPJ at h
 obtain⟨r1,h2,h⟩:=zC h
 cases h
 exact tF ⟨func257,rfl⟩ 3 [] (oD (dT r1.1.sub)<|oC 1 [] (zPI h2) o0),⟨⟨tv,dT _⟩,⟨tv,tv,⟨tv,dT _⟩,tv⟩,tv⟩,zB,⟨⟨tv,tv,dT _,tv⟩,tv,tv⟩,zB⟩
def gN:Nat->yM->yM->Int->yM->Int->Option (yM×Int)
 |0,_,_,_,_,_=>none
 |qq+1,p1,p2,v12,v7,yE=>
 if decide (v12<(p1.length:Int))then
 zW p1 v12>>=fun x2=>
 zMn qq yE x2 v12 p2>>=fun r4=>
 xF 40 v7 [r4.1]>>=fun l6=>
 gN qq p1 p2 (xL (v12+1)) l6 r4.2
 else
 some (v7,yE)
def zPK(qq:Nat)(q0_e:Int)(p1 p2:yM):Option (yM×Int):=
 gN qq p1 p2 0 [] q0_e
theorem zSX:∀qq:Nat,(∀ {p1 p2 v12 v7 yE r},gN qq p1 p2 v12 v7 yE=some r->(∀j,dL 1 (pt 4021 f258) (sp j 27 0 [(0,.mp 0 0),(2,zV zD p2 .no),(7,zV zD v7 (.st 0 3)),(10,zV zD p1 .no),(11,ai (p1.length:Int)),(12,ai v12)]) (⟨[(0,.cells [ai yE])],1,[0],1,[]⟩) (fQ 1 (nQ 1 f258 (.sl (zG zD r.1) r.1.length .no) [.cells [ai r.2]] 0) [.blk 0,.seq (pt 63 f258)]))):=by
 intro qq
 induction qq with
 |zero=>
  exact fun h=>nn h
 |succ qq ih=>
  intro p1 p2 v12 v7 yE r h
  rw[gN]at h
  obtain⟨h1,h⟩|⟨h1,h⟩:=zU h
  obtain⟨x2,h3,h⟩:=zC h
  obtain⟨r4,h5,h⟩:=zC h
  obtain⟨l6,h7,h⟩:=zC h
  exact fun j=>lH 1 [] [0] [1] [0,2,7,10,11,12] (oD (dT p1)<|oD (dT l6)<|oD (dT p2)<|oP 0 (vE h7 (by simp))<|oS 0 (xO xW [r4.1])<|oC 3 [0] (zZx h5)<|oA 0 (xH (o:=.no) h3)<|oB 0 h1 o0) (ih h)
  cases h
  exact fun j=>lF 0 [0] (oD (dT v7)<|oB 0 h1 o0)
theorem yBG{qq q0_e p1 p2 r}(h:zPK qq q0_e p1 p2=some r):Ct 258 [.cells [ai q0_e]] [.mp 0 0,zV zD p1 .no,zV zD p2 .no] (.sl (zG zD r.1) r.1.length .no) [.cells [ai r.2]] 0:=⟨by
 unfold zPK at h
 exact tH ⟨func258,rfl⟩ 1 [(none,7,3)] [0] [0] [0,2,7,10,11,12] (oD (dT p1)<|oD (dT ([]:yM))<|oD (dT p2) o0) (zSX _ h),⟨(lz rfl),⟨tv,dT _⟩,⟨tv,dT _⟩,tv⟩,(zA ⟨tv,tv⟩ zB),dT _,(zA ⟨tv,tv⟩ zB)⟩
def gO:Nat->yM->sV->Tm->Int->Int->Int->Int->yM->Option (Tm×Int)
 |0,_,_,_,_,_,_,_,_=>none
 |qq+1,p3,p4,p5,v29,yE,vX,zBa,wJ=>
 if decide (v29<(p4.at'.length:Int))then
 zW p4.at' v29>>=fun x6=>
 zMn qq yE x6 (p4.around.length:Int) p3>>=fun r8=>
 u7 qq (Tm.mk vX zBa wJ) r8.1>>=fun r10=>
 gO qq p3 p4 p5 (xL (v29+1)) r8.2 r10.k r10.n r10.sub
 else
 zPH qq yE p5 (p4.around.length:Int)>>=fun r12=>
 zPF qq (p4.around.length:Int)>>=fun r14=>
 aK qq r12.1 r14>>=fun r16=>
 u7 qq (Tm.mk vX zBa wJ) r16>>=fun r18=>
 zPK qq r12.2 p4.around p3>>=fun r20=>
 zPJ qq r20.1 r18>>=fun r22=>
 zIy qq r20.2 r22.1 r22.2>>=fun r24=>
 some (r24.1,r24.2)
def zPL(qq:Nat)(q0_e:Int)(p1:Tm)(p2 p3:yM)(p4:sV)(p5:Tm):Option (Tm×Int):=
 zMo qq q0_e p2 (p4.around.length:Int)>>=fun r1=>
 aK qq p1 r1.1>>=fun r3=>
 gO qq p3 p4 p5 0 r1.2 r3.k r3.n r3.sub
theorem zSY:∀qq:Nat,(∀ {p3 p4 p5 v29 yE vX zBa wJ r},gO qq p3 p4 p5 v29 yE vX zBa wJ=some r->(∀j,dL 1 (pt 16309 f244) (sp j 61 0 [(0,.mp 0 0),(3,zV zD p3 .no),(10,.mp 1 0),(11,.mp 2 0),(12,.mp 3 0),(13,ai (p4.around.length:Int)),(14,.mp 4 0),(27,zV zD p4.at' .no),(28,ai (p4.at'.length:Int)),(29,ai v29)]) (⟨[(0,.cells [ai yE]),(1,.cells [ab p4.is,zV zD p4.around .no,zV zD p4.at' .no]),(2,.cells [ai p5.k,ai p5.n,zV zD p5.sub .no]),(3,.cells [ai 0,ai 0,zV zD ([]:yM) .nl]),(4,.cells [ai vX,ai zBa,zV zD wJ .no])],5,[],0,[]⟩) (fQ 1 (nQ 1 f244 (yY r.1) [.cells [ai r.2]] 0) [.blk 0,.seq (pt 255 f244)]))):=by
 intro qq
 induction qq with
 |zero=>
  exact fun h=>nn h
 |succ qq ih=>
  intro p3 p4 p5 v29 yE vX zBa wJ r h
  rw[gO]at h
  obtain⟨h5,h⟩|⟨h5,h⟩:=zU h
  obtain⟨x6,h7,h⟩:=zC h
  obtain⟨r8,h9,h⟩:=zC h
  obtain⟨r10,h11,h⟩:=zC h
  exact fun j=>lH 2 [] [0,1,2,3,4] [] [0,3,10,11,12,13,14,27,28,29] (oD (dT p4.at')<|oD (dT p3)<|oD (dT r10.sub)<|oD (dT ([]:yM))<|oD (dT p5.sub)<|oD (dT p4.at')<|oD (dT p4.around)<|oC 0 [] (zAB h11)<|oC 4 [0] (zZx h9)<|oA 0 (xH (o:=.no) h7)<|oB 0 h5 o0) (ih h)
  obtain⟨r12,h13,h⟩:=zC h
  obtain⟨r14,h15,h⟩:=zC h
  obtain⟨r16,h17,h⟩:=zC h
  obtain⟨r18,h19,h⟩:=zC h
  obtain⟨r20,h21,h⟩:=zC h
  obtain⟨r22,h23,h⟩:=zC h
  obtain⟨r24,h25,h⟩:=zC h
  cases h
  exact fun j=>lF 1 [0] (oD (dT r24.1.sub)<|oC 2 [0] (zVP h25)<|oC 1 [] (yBF h23)<|oC 2 [0] (yBG h21)<|oC 0 [] (zAB h19)<|oC 0 [] (zAC h17)<|oC 0 [] (yBB h15)<|oC 2 [0] (yBD h13)<|oB 0 h5 o0)
theorem zSZ{qq q0_e p1 p2 p3 p4 p5 r}(h:zPL qq q0_e p1 p2 p3 p4 p5=some r):Ct 244 [.cells [ai q0_e]] [.mp 0 0,yY p1,zV zD p2 .no,zV zD p3 .no,zXJ p4,yY p5] (yY r.1) [.cells [ai r.2]] 0:=⟨by
 unfold zPL at h
 obtain⟨r1,h2,h⟩:=zC h
 obtain⟨r3,h4,h⟩:=zC h
 exact tH ⟨func244,rfl⟩ 3 [] [0,2,3,4,5] [] [0,3,10,11,12,13,14,27,28,29] (oD (dT p4.at')<|oD (dT p3)<|oD (dT r3.sub)<|oD (dT ([]:yM))<|oD (dT p5.sub)<|oD (dT p4.at')<|oD (dT p4.around)<|oC 0 [] (zAC h4)<|oC 3 [0] (zZz h2) o0) (zSY _ h),⟨(lz rfl),⟨tv,tv,⟨tv,dT _⟩,tv⟩,⟨tv,dT _⟩,⟨tv,dT _⟩,⟨tv,⟨tv,dT _⟩,⟨tv,dT _⟩,tv⟩,⟨tv,tv,⟨tv,dT _⟩,tv⟩,tv⟩,(zA ⟨tv,tv⟩ zB),⟨tv,tv,dT _,tv⟩,(zA ⟨tv,tv⟩ zB)⟩
def zPM(qq:Nat)(q0_e:Int)(p1:Tm):Option (Tm×Int×Int):=
 if q0_e==0 then
 bI qq p1>>=fun r2=>
 if r2 then
 if q0_e != 0 then
 some ((Tm.mk 0 0 []),q0_e,q0_e)
 else
 some (p1,0,q0_e)
 else
 some ((Tm.mk 0 0 []),2,2)
 else
 if q0_e != 0 then
 some ((Tm.mk 0 0 []),q0_e,q0_e)
 else
 some (p1,0,q0_e)
theorem zPN:Qf 246 f246:=⟨func246,rfl⟩
theorem yBH{qq q0_e p1 r}(h:zPM qq q0_e p1=some r):Ct 246 [.cells [ai q0_e]] [.mp 0 0,yY p1] (.tup [yY r.1,ai r.2.1]) [.cells [ai r.2.2]] 0:=⟨by
 unfold zPM at h
 obtain⟨h1,h⟩|⟨h1,h⟩:=zU h
 obtain⟨r2,h3,h⟩:=zC h
 have k:=oB 1 h1 o0
 obtain⟨h4,h⟩|⟨h4,h⟩:=zU h
 have k:=oK 1 [] h4 (nC h3) k
 obtain⟨h5,h⟩|⟨h5,h⟩:=zU h
 cases h
 exact tF zPN 2 [0] (oD (dT ([]:yM))<|oB 2 h5 k)
 cases h
 exact tF zPN 2 [0] (oD (dT p1.sub)<|oB 2 h5 k)
 cases h
 exact tF zPN 6 [0] (oD (dT ([]:yM))<|oK 1 [] h4 (nC h3) k)
 have k:=oB 1 h1 o0
 obtain⟨h6,h⟩|⟨h6,h⟩:=zU h
 cases h
 exact tF zPN 2 [0] (oD (dT ([]:yM))<|oB 1 h6 k)
 cases h
 exact tF zPN 2 [0] (oD (dT p1.sub)<|oB 1 h6 k),⟨(lz rfl),⟨tv,tv,⟨tv,dT _⟩,tv⟩,tv⟩,(zA ⟨tv,tv⟩ zB),⟨⟨tv,tv,dT _,tv⟩,tv,tv⟩,(zA ⟨tv,tv⟩ zB)⟩
def sL(l:List Tm):Prop:=∀x∈l,x.Ok
theorem sL.nil:sL []:=fun _ h=>nomatch h
theorem sL.app{l m:List Tm}(h:sL l)(k:sL m):sL (l++m):=fun x hx=>(List.mem_append.1 hx).elim (h x) (k x)
theorem sL.one{t:Tm}(h:t.Ok):sL [t]:=fun x hx=>by
 rw[List.mem_singleton.1 hx];exact h
theorem sL.drop{l:List Tm}(h:sL l)(n:Nat):sL (l.drop n):=fun x hx=>h x (List.mem_of_mem_drop hx)
theorem sL.take{l:List Tm}(h:sL l)(n:Nat):sL (l.take n):=fun x hx=>h x (List.mem_of_mem_take hx)
theorem sL.at{l r:List Tm}{v:Nat}{x:Tm}(h:sL l)(hd:l.drop v=x::r):x.Ok:=h x (by
 have:x∈l.drop v:=by rw[hd];simp
 exact List.mem_of_mem_drop this)
theorem zVR{k n:Int}{a:Tm}(h:a.Ok):(Tm.mk k n [a]).Ok:=by
 rw[Tm.Ok,mX,mX];exact⟨by simp,h,trivial⟩
theorem eN{k n:Int}{a b:Tm}(h:a.Ok)(i:b.Ok):(Tm.mk k n [a,b]).Ok:=by
 rw[Tm.Ok,mX,mX,mX];exact⟨by simp,h,i,trivial⟩
theorem V5{α:Type}{l:List α}{a b:Int}(h0:0≤a)(h1:a≤b)(h2:b≤l.length):fK l a b=some ((l.drop a.toNat).take (b-a).toNat):=by
 unfold fK;rw[if_pos ⟨h0,h1,h2⟩]
def MT(e:Int)(v:Tm)(x:Tm×Int):Prop:=x.1.Ok∧(e≠8->x.2≠8)∧(x.2=0->e=0∧x.1=v)
def ML(e:Int)(v:List Tm)(x:List Tm×Int):Prop:=sL x.1∧(e≠8->x.2≠8)∧(x.2=0->e=0∧x.1=v)
def upI(k:Int)(l:List Tm):List Tm:=l.map fun t=>jM t 0 0 k
theorem zBA(p1 p2:Int):∀(r l acc:List Tm) (v:Nat),l.drop v=r->l.length≤1073741824->sL l->sL acc->acc.length+r.length≤l.length->zN (fun q=>gI q l p1 p2 (v:Int) acc) (fun x=>ML 0 (acc++r.map fun t=>jM t 0 p2 p1) x∧x.1.length≤l.length)
 | [],l,acc,v,hd,hl,ho,ha,hv=>by
  refine zN.succ ?_
  simp only[gI]
  refine zN.ite (fun h=>?_) fun _=>zN.ret ⟨⟨ha,by simp,by simp⟩,by simpa using hv⟩
  rw[yH hd]at h;cases h
 |t::r,l,acc,v,hd,hl,ho,ha,hv=>by
  have hlt:=yL hd
  refine zN.succ ?_
  simp only[gI]
  refine zN.ite (fun _=>?_) fun h=>?_
  ·refine zN.pure (yD hd) (zN.bind (P:=fun r=>r=tB t p1 p2) ((zJe t p1 p2 (ho.at hd)).tot rfl) fun r4 h4=>?_)
   subst h4
   refine zN.ite (fun h=>?_) fun h=>?_
   ·have hne:(tB t p1 p2).2≠0:=by simpa using h
    exact zN.ret ⟨⟨sL.nil,fun _=>o4 t p1 p2,fun h0=>absurd h0 hne⟩,by simp⟩
   ·have he:(tB t p1 p2).2=0:=by simpa using h
    rw[List.length_cons]at hv
    refine zN.pure (yK (by simp<;>omega)) ?_
    rw[yA v (by omega)]
    refine(zBA p1 p2 r l _ (v+1) (zY hd) hl ho (ha.app (sL.one (jN t p1 p2 (ho.at hd)))) (by simp<;>omega)).mono fun x hx=>?_
    rw[(eM he).2.2.2.2]at hx
    simpa using hx
  ·rw[yG hd]at h;cases h
theorem zPO(l:List Tm)(p1 p2:Int)(hl:l.length≤1073741824)(ho:sL l):zN (fun q=>zPE q l p1 p2) (fun x=>ML 0 (l.map fun t=>jM t 0 p2 p1) x∧x.1.length≤l.length):=by
 simp only[zPE]
 exact zBA p1 p2 l l [] 0 rfl hl ho sL.nil (by simp)
theorem zCV(e:Int)(t:Tm)(p:Int):zN (fun q=>zIy q e t p) (fun x=>x.1=t∧x.2=if e=0 then p else e):=by
 simp only[zIy]
 refine zN.ite (fun h=>zN.ret ⟨rfl,?_⟩) fun h=>zN.ret ⟨rfl,?_⟩
 ·rw[if_pos (by simpa using h)]
 ·rw[if_neg (by simpa using h)]
theorem zTz(e:Int)(t:List Tm)(p:Int):zN (fun q=>zPG q e t p) (fun x=>x.1=t∧x.2=if e=0 then p else e):=by
 simp only[zPG]
 refine zN.ite (fun h=>zN.ret ⟨rfl,?_⟩) fun h=>zN.ret ⟨rfl,?_⟩
 ·rw[if_pos (by simpa using h)]
 ·rw[if_neg (by simpa using h)]
theorem zIx{e:Int}{v:Tm}{r x:Tm×Int}(hr:MT 0 v r)(hx:x.1=r.1∧x.2=if e=0 then r.2 else e):MT e v x:=by
 obtain⟨h1,h2⟩:=hx
 refine⟨by rw[h1];exact hr.1,?_,?_⟩
 ·intro he
  rw[h2]
  split
  ·exact hr.2.1 (by decide)
  ·exact he
 ·intro he
  rw[h2]at he
  by_cases h:e=0
  ·rw[if_pos h]at he
   exact⟨h,by rw[h1];exact(hr.2.2 he).2⟩
  ·rw[if_neg h]at he;exact absurd he h
theorem zVS{e:Int}{v:List Tm}{r x:List Tm×Int}(hr:ML 0 v r)(hx:x.1=r.1∧x.2=if e=0 then r.2 else e):ML e v x:=by
 obtain⟨h1,h2⟩:=hx
 refine⟨by rw[h1];exact hr.1,?_,?_⟩
 ·intro he
  rw[h2]
  split
  ·exact hr.2.1 (by decide)
  ·exact he
 ·intro he
  rw[h2]at he
  by_cases h:e=0
  ·rw[if_pos h]at he
   exact⟨h,by rw[h1];exact(hr.2.2 he).2⟩
  ·rw[if_neg h]at he;exact absurd he h
theorem zJO(e:Int)(l:List Tm)(p:Int)(hl:l.length≤1073741824)(ho:sL l):zN (fun q=>zMo q e l p) (fun x=>ML e (upI p l) x∧x.1.length≤l.length):=by
 simp only[zMo]
 exact(zPO l p 0 hl ho).bind fun r h=>(zTz e r.1 r.2).bind fun r3 h3=>zN.ret ⟨zVS h.1 h3,by rw[h3.1];exact h.2⟩
theorem zTy(t:Tm)(k c:Int)(h:t.Ok):MT 0 (jM t 0 c k) (tB t k c):=⟨jN t k c h,fun _=>o4 t k c,fun h=>⟨rfl,(eM h).2.2.2.2⟩⟩
theorem zVT(t:Tm)(ls:List Tm)(h:t.Ok)(ho:sL ls):MT 0 (cD ls t 0) (iV t ls):=⟨zJB t ls h ho,fun _=>zJK t ls,fun h=>⟨rfl,(zCR h).2.2.2⟩⟩
theorem zVU(e:Int)(t:Tm)(p:Int)(h:t.Ok):zN (fun q=>zPH q e t p) (MT e (jM t 0 0 p)):=by
 simp only[zPH]
 exact zN.bind (P:=fun r=>r=tB t p 0) ((zJd t p h).tot rfl) fun r hr=>(zCV e r.1 r.2).bind fun r3 h3=>zN.ret (by subst hr;exact zIx (zTy t p 0 h) h3)
def aS:Nat->List Tm
 |0=>[]
 |m+1=>.mk 1 (m:Int) []::aS m
def vuT:Nat->Nat->List Tm
 |0,_=>[]
 |m+1,v=>.mk 1 (v:Int) []::vuT m (v+1)
theorem zJP:∀m,sL (aS m)
 |0=>sL.nil
 |m+1=>fun x hx=>by
  rcases List.mem_cons.1 hx with rfl|hx
  ·exact xX _ _
  ·exact zJP m x hx
theorem zFe:∀m,(aS m).length=m
 |0=>rfl
 |m+1=>congrArg (· + 1) (zFe m)
theorem G8:∀m v,(vuT m v).length=m
 |0,_=>rfl
 |m+1,v=>congrArg (· + 1) (G8 m (v+1))
theorem zFd:∀(m:Nat) (acc:List Tm),m+acc.length≤1048576->zJ (fun q=>gJ q acc ((m:Int)-1)) (acc++aS m)
 |0,acc,hm=>by
  refine zJ.succ ?_
  simp only[gJ]
  exact zJ.ifF (decide_eq_false (by omega)) (zJ.ret.eq (by simp[aS]))
 |m+1,acc,hm=>by
  refine zJ.succ ?_
  simp only[gJ]
  refine zJ.ifT (decide_eq_true (by omega)) ((O1 _).bind (zJ.pure (yK (by simp<;>omega)) ?_))
  rw[yW (by omega) (by omega),show ((m+1:Nat):Int)-1-1=(m:Int)-1 by omega]
  refine(zFd m _ (by simp<;>omega)).eq ?_
  rw[aS,show ((m+1:Nat):Int)-1=(m:Int) by omega];simp
theorem zTx(n:Nat)(hn:n≤1048576):zJ (fun q=>zPF q (n:Int)) (aS n):=by
 simp only[zPF]
 refine zJ.ifF (decide_eq_false (by omega)) (zJ.ifF (decide_eq_false (by omega)) ?_)
 rw[yW (by omega) (by omega)]
 exact(zFd n [] (by simpa using hn)).eq (by simp)
def zFc(t:Tm)(own:Nat)(outer:List Tm):Tm:=cD (vuT own 0++(upI own outer).reverse) t 0
def kJ(outer:List Tm):List Tm->Nat->List Tm
 | [],_=>[]
 |t::r,v=>zFc t v outer::kJ outer r (v+1)
theorem zFb(p1:Tm)(r6:List Tm×Int)(h1:p1.Ok)(h6:sL r6.1):∀(m:Nat) (acc:List Tm),m≤r6.1.length->m+acc.length≤4294967296->sL acc->zN (fun q=>gL q p1 r6 ((m:Int)-1) acc) (MT r6.2 (cD (acc++(r6.1.take m).reverse) p1 0))
 |0,acc,hm,hl,ho=>by
  refine zN.succ ?_
  simp only[gL]
  refine zN.ite (fun h=>?_) fun _=>?_
  ·have:=of_decide_eq_true h
   omega
  ·refine zN.bind (P:=fun r=>r=iV p1 acc) ((zJA p1 acc h1 ho (by omega)).tot rfl) fun r h=>(zCV _ r.1 r.2).bind fun x hx=>zN.ret ?_
   subst h
   have:=zIx (zVT p1 acc h1 ho) hx
   simpa using this
 |m+1,acc,hm,hl,ho=>by
  refine zN.succ ?_
  simp only[gL]
  refine zN.ite (fun _=>?_) fun h=>?_
  ·have hlt:m<r6.1.length:=by omega
   have hx:zW r6.1 (((m+1:Nat):Int)-1)=some r6.1[m]:=by
    unfold zW
    rw[if_pos (by omega),show (((m+1:Nat):Int)-1).toNat=m by omega,List.getElem?_eq_getElem hlt]
   refine zN.pure hx (zN.pure (yK (by simp<;>omega)) ?_)
   rw[yW (by omega) (by omega),show ((m+1:Nat):Int)-1-1=(m:Int)-1 by omega]
   refine(zFb p1 r6 h1 h6 m _ (by omega) (by simp<;>omega) (ho.app (sL.one (h6 _ (List.getElem_mem hlt))))).mono fun x hx=>?_
   have e:r6.1.take (m+1)=r6.1.take m++[r6.1[m]]:=by rw[List.take_add_one,List.getElem?_eq_getElem hlt];rfl
   rw[e,List.reverse_append]
   simpa using hx
  ·have:=of_decide_eq_false h
   omega
theorem zPP(e:Int)(p1:Tm)(own:Nat)(p3:List Tm)(h1:p1.Ok)(h2:own≤1073741824)(h3:sL p3)(hl:p3.length≤1073741824):∀(m v:Nat) (acc:List Tm),v+m=own->acc.length≤v->sL acc->zN (fun q=>gM q e p1 (own:Int) p3 (v:Int) acc) (MT e (cD (acc++vuT m v++(upI own p3).reverse) p1 0)):=by
 intro m
 induction m with
 |zero=>
  intro v acc hm ha ho
  refine zN.succ ?_
  simp only[gM]
  refine zN.ite (fun h=>?_) fun _=>(zJO e p3 own hl h3).bind fun r6 h6=>?_
  ·have:=of_decide_eq_true h
   omega
  ·rw[yW (by omega) (by omega)]
   refine(zFb p1 r6 h1 h6.1.1 r6.1.length acc (Nat.le_refl _) (by omega) ho).mono fun x hx=>⟨hx.1,fun he=>hx.2.1 (h6.1.2.1 he),fun he=>?_⟩
   have k:=hx.2.2 he
   have k6:=h6.1.2.2 k.1
   refine⟨k6.1,?_⟩
   rw[k.2,List.take_length,k6.2,vuT];simp
 |succ m ih=>
  intro v acc hm ha ho
  refine zN.succ ?_
  simp only[gM]
  refine zN.ite (fun _=>?_) fun h=>?_
  ·refine zN.bind (P:=fun r=>r=Tm.mk 1 (v:Int) []) ((O1 v).tot rfl) fun r h=>zN.pure (yK (by simp<;>omega)) ?_
   subst h
   rw[yA v (by omega)]
   refine(ih (v+1) _ (by omega) (by simp<;>omega) (ho.app (sL.one (xX _ _)))).mono fun x hx=>?_
   rw[vuT]
   simpa using hx
  ·have:=of_decide_eq_false h
   omega
theorem S7(e:Int)(p1:Tm)(own:Nat)(p3:List Tm)(h1:p1.Ok)(h2:own≤1073741824)(h3:sL p3)(hl:p3.length≤1073741824):zN (fun q=>zMn q e p1 (own:Int) p3) (MT e (zFc p1 own p3)):=by
 simp only[zMn]
 exact zPP e p1 own p3 h1 h2 h3 hl own 0 [] (by omega) (by simp) sL.nil
theorem bN(p2:List Tm)(h2:sL p2)(hl2:p2.length≤1073741824):∀(r l acc:List Tm) (v:Nat) (e:Int),l.drop v=r->l.length≤1073741824->sL l->sL acc->acc.length≤v->zN (fun q=>gN q l p2 (v:Int) acc e) (fun x=>sL x.1∧x.1.length=acc.length+r.length∧(e≠8->x.2≠8)∧(x.2=0->e=0∧x.1=acc++kJ p2 r v))
 | [],l,acc,v,e,hd,hl,ho,ha,hv=>by
  refine zN.succ ?_
  simp only[gN]
  refine zN.ite (fun h=>?_) fun _=>zN.ret ⟨ha,by simp,id,fun h=>⟨h,by simp[kJ]⟩⟩
  rw[yH hd]at h;cases h
 |t::r,l,acc,v,e,hd,hl,ho,ha,hv=>by
  have hlt:=yL hd
  refine zN.succ ?_
  simp only[gN]
  refine zN.ite (fun _=>?_) fun h=>?_
  ·refine zN.pure (yD hd) ((S7 e t v p2 (ho.at hd) (by omega) h2 hl2).bind fun r4 h4=>?_)
   refine zN.pure (yK (by simp<;>omega)) ?_
   rw[yA v (by omega)]
   refine(bN p2 h2 hl2 r l _ (v+1) r4.2 (zY hd) hl ho (ha.app (sL.one h4.1)) (by simp<;>omega)).mono fun x hx=>?_
   obtain⟨a1,a2,a3,a4⟩:=hx
   refine⟨a1,by rw[a2];simp<;>omega,fun he=>a3 (h4.2.1 he),fun he=>?_⟩
   have k:=a4 he
   have k4:=h4.2.2 k.1
   refine⟨k4.1,?_⟩
   rw[k.2,k4.2,kJ];simp
  ·rw[yG hd]at h;cases h
theorem zCW(e:Int)(l p2:List Tm)(h2:sL p2)(hl2:p2.length≤1073741824)(hl:l.length≤1073741824)(ho:sL l):zN (fun q=>zPK q e l p2) (fun x=>ML e (kJ p2 l 0) x∧x.1.length=l.length):=by
 simp only[zPK]
 refine(bN p2 h2 hl2 l l [] 0 e rfl hl ho sL.nil (by simp)).mono fun x hx=>?_
 obtain⟨a1,a2,a3,a4⟩:=hx
 exact⟨⟨a1,a3,fun he=>by simpa using a4 he⟩,by simpa using a2⟩
def U4(l:List Tm)(t:Tm):Tm:=l.foldr (fun a x=>.mk 4 0 [a,x]) t
theorem zPQ(l:List Tm)(hl:l.length≤24)(ho:sL l):∀(m v:Nat) (t:Tm),v+m=l.length->t.Ok->zN (fun q=>rL q l (v:Int) t.k t.n t.sub) (MT 0 (U4 (l.take m) t)):=by
 intro m
 induction m with
 |zero=>
  intro v t hm ht
  refine zN.succ ?_
  simp only[rL,rD]
  refine zN.ite (fun h=>?_) fun _=>?_
  ·have:=of_decide_eq_true h
   omega
  ·refine zN.bind (P:=fun b=>b=zH t) ((xN t ht).tot rfl) fun r hr=>zN.ite (fun h=>?_) fun _=>zN.ret ⟨xX 0 0,by simp,by simp⟩
   refine zN.bind (P:=fun x=>x=lV t) ((qK t ht).tot rfl) fun x hx=>zN.ret ?_
   subst hx
   have e:lV t=t:=by unfold lV;rw[if_pos (by rw[←hr];exact h)]
   rw[e]
   exact⟨ht,by simp,fun _=>⟨rfl,by simp[U4]⟩⟩
 |succ m ih=>
  intro v t hm ht
  refine zN.succ ?_
  simp only[rL,rD]
  refine zN.ite (fun _=>?_) fun h=>?_
  ·have hlt:m<l.length:=by omega
   rw[yW (x:=(l.length:Int)-1) (by omega) (by omega),yW (x:=(l.length:Int)-1-v) (by omega) (by omega)]
   have hx:zW l ((l.length:Int)-1-v)=some l[m]:=by
    unfold zW
    rw[if_pos (by omega),show ((l.length:Int)-1-v).toNat=m by omega,List.getElem?_eq_getElem hlt]
   refine zN.pure hx (zN.bind (P:=fun r=>r=Tm.mk 4 0 [l[m],t]) (zJ.tot (zJ.mk fun _=>rfl) rfl) fun r hr=>?_)
   subst hr
   rw[yA v (by omega)]
   refine(ih (v+1) _ (by omega) (eN (ho _ (List.getElem_mem hlt)) ht)).mono fun x hx=>?_
   have e:l.take (m+1)=l.take m++[l[m]]:=by rw[List.take_add_one,List.getElem?_eq_getElem hlt];rfl
   rw[e]
   unfold U4 at hx ⊢
   rw[List.foldr_append]
   exact hx
  ·have:=of_decide_eq_false h
   omega
theorem zJQ(t:Tm)(ht:t.Ok):∀(r l:List Tm) (v:Nat),l.drop v=r->l.length≤24->sL l->zN (fun q=>rM q l t (v:Int)) (MT 0 (U4 l t))
 | [],l,v,hd,hl,ho=>by
  refine zN.succ ?_
  simp only[rM]
  refine zN.ite (fun h=>?_) fun _=>?_
  ·rw[yH hd]at h;cases h
  ·refine zN.bind (P:=fun _=>True) ((xN t ht).tot trivial) fun r _=>zN.ite (fun _=>?_) fun _=>zN.ret ⟨xX 0 0,by simp,by simp⟩
   have:=zPQ l hl ho l.length 0 t (by omega) ht
   rwa[List.take_length]at this
 |x::r,l,v,hd,hl,ho=>by
  have hlt:=yL hd
  refine zN.succ ?_
  simp only[rM]
  refine zN.ite (fun _=>?_) fun h=>?_
  ·refine zN.pure (yD hd) (zN.bind (P:=fun _=>True) ((xN x (ho.at hd)).tot trivial) fun _ _=>zN.ite (fun _=>?_) fun _=>zN.ret ⟨xX 0 0,by simp,by simp⟩)
   rw[yA v (by omega)]
   exact zJQ t ht r l (v+1) (zY hd) hl ho
  ·rw[yG hd]at h;cases h
theorem zPR(l:List Tm)(t:Tm)(ho:sL l)(ht:t.Ok):zN (fun q=>zPJ q l t) (MT 0 (U4 l t)):=by
 simp only[zPJ]
 refine zN.bind (P:=MT 0 (U4 l t)) ?_ fun x hx=>zN.ret hx
 simp only[G7]
 refine zN.ite (fun _=>zN.ret ⟨xX 0 0,by simp,by simp⟩) fun h=>?_
 have:=of_decide_eq_false h
 exact zJQ t ht l l 0 rfl (by omega) ho
def zFa(r:sV):Prop:=sL r.around∧sL r.at'∧r.around.length≤1048576∧r.at'.length≤1048576
def zPS(head:Tm)(args outer:List Tm)(r:sV)(a:Tm):Tm:=
 U4 (kJ outer r.around 0) (.mk 5 0 [uF (uF head (upI r.around.length args)) (r.at'.map fun t=>zFc t r.around.length outer),uF (jM a 0 0 r.around.length) (aS r.around.length)])
theorem zFA(p3:List Tm)(p4:sV)(p5:Tm)(h3:sL p3)(hl3:p3.length≤1073741824)(h4:zFa p4)(h5:p5.Ok):∀(r:List Tm) (v:Nat) (e:Int) (t:Tm),p4.at'.drop v=r->t.Ok->zN (fun q=>gO q p3 p4 p5 (v:Int) e t.k t.n t.sub)
  (MT e (U4 (kJ p3 p4.around 0) (.mk 5 0 [uF t (r.map fun t=>zFc t p4.around.length p3),uF (jM p5 0 0 p4.around.length) (aS p4.around.length)])))
 | [],v,e,t,hd,ht=>by
  refine zN.succ ?_
  simp only[gO,rD]
  refine zN.ite (fun h=>?_) fun _=>?_
  ·rw[yH hd]at h;cases h
  ·have:=h4.2.2.1
   refine(zVU e p5 _ h5).bind fun r12 h12=>zN.bind (P:=fun x=>x=aS p4.around.length) ((zTx _ this).tot rfl) fun r14 h14=>?_
   subst h14
   refine zN.bind (P:=fun x=>x=uF r12.1 (aS p4.around.length)) ((nK r12.1 _ (by rw[zFe];omega)).tot rfl) fun r16 h16=>?_
   subst h16
   refine zN.bind (P:=fun x=>x=Tm.mk 5 0 [t,uF r12.1 (aS p4.around.length)]) ((N9 t _).tot rfl) fun r18 h18=>?_
   subst h18
   refine(zCW r12.2 p4.around p3 h3 hl3 (by omega) h4.1).bind fun r20 h20=>(zPR r20.1 _ h20.1.1 (eN ht (oT _ _ h12.1 (zJP _)))).bind fun r22 h22=>(zCV r20.2 r22.1 r22.2).bind fun r24 h24=>zN.ret ?_
   have m:=zIx h22 h24
   refine⟨m.1,fun he=>m.2.1 (h20.1.2.1 (h12.2.1 he)),fun he=>?_⟩
   have k:=m.2.2 he
   have k20:=h20.1.2.2 k.1
   have k12:=h12.2.2 k20.1
   refine⟨k12.1,?_⟩
   rw[k.2,k20.2,k12.2];rfl
 |x::r,v,e,t,hd,ht=>by
  have hlt:=yL hd
  have:=h4.2.2.1
  have:=h4.2.2.2
  refine zN.succ ?_
  simp only[gO,rD]
  refine zN.ite (fun _=>?_) fun h=>?_
  ·refine zN.pure (yD hd) ((S7 e x _ p3 (h4.2.1.at hd) (by omega) h3 hl3).bind fun r8 h8=>?_)
   refine zN.bind (P:=fun x=>x=Tm.mk 5 0 [t,r8.1]) ((N9 t r8.1).tot rfl) fun r10 h10=>?_
   subst h10
   rw[yA v (by omega)]
   refine(zFA p3 p4 p5 h3 hl3 h4 h5 r (v+1) r8.2 (.mk 5 0 [t,r8.1]) (zY hd) (eN ht h8.1)).mono fun y hy=>⟨hy.1,fun he=>hy.2.1 (h8.2.1 he),fun he=>?_⟩
   have k:=hy.2.2 he
   have k8:=h8.2.2 k.1
   refine⟨k8.1,?_⟩
   rw[k.2,k8.2,List.map_cons,uF]
  ·rw[yG hd]at h;cases h
theorem o8(e:Int)(p1:Tm)(p2 p3:List Tm)(p4:sV)(p5:Tm)(h1:p1.Ok)(h2:sL p2)(hl2:p2.length≤1073741824)(h3:sL p3)(hl3:p3.length≤1073741824)(h4:zFa p4)(h5:p5.Ok):zN (fun q=>zPL q e p1 p2 p3 p4 p5) (MT e (zPS p1 p2 p3 p4 p5)):=by
 simp only[zPL]
 refine(zJO e p2 _ hl2 h2).bind fun r1 hr1=>?_
 refine zN.bind (P:=fun x=>x=uF p1 r1.1) ((nK p1 r1.1 (by omega)).tot rfl) fun r3 hr3=>?_
 subst hr3
 refine(zFA p3 p4 p5 h3 hl3 h4 h5 p4.at' 0 r1.2 (uF p1 r1.1) rfl (oT _ _ h1 hr1.1.1)).mono fun y hy=>⟨hy.1,fun he=>hy.2.1 (hr1.1.2.1 he),fun he=>?_⟩
 have k:=hy.2.2 he
 have k1:=hr1.1.2.2 k.1
 refine⟨k1.1,?_⟩
 rw[k.2,k1.2];rfl
theorem zPT(e:Int)(t:Tm)(h:t.Ok):zN (fun q=>zPM q e t) (fun x=>x.1.Ok∧(e≠8->x.2.1≠8)∧(x.2.1=0->e=0∧x.1=t∧zH t=true)):=by
 simp only[zPM]
 refine zN.ite (fun he=>?_) fun he=>?_
 ·have he':e=0:=by simpa using he
  refine zN.bind (P:=fun b=>b=zH t) ((xN t h).tot rfl) fun b hb=>zN.ite (fun hs=>?_) fun _=>zN.ret ⟨xX 0 0,by simp,by simp⟩
  refine zN.ite (fun h2=>absurd he' (by simpa using h2)) fun _=>zN.ret ⟨h,by simp,fun _=>⟨he',rfl,by rw[←hb];exact hs⟩⟩
 ·have he':e≠0:=by simpa using he
  exact zN.ite (fun _=>zN.ret ⟨xX 0 0,id,fun h0=>absurd h0 he'⟩) fun h2=>absurd (by simpa using h2) he'
theorem zIv(l:List yI)(n kind:Int):zJ (fun q=>zHZ q l n kind) (aN l n kind):=by
 simp only[zHZ]
 unfold aN
 by_cases h:0≤n
 ·refine zJ.ifT (decide_eq_true h) ?_
  by_cases k:n<l.length
  ·exact zJ.ifT (decide_eq_true k) (zJ.pure (yT h k) (zJ.ret.eq (by simp[h,k])))
  ·exact zJ.ifF (decide_eq_false k) (zJ.ret.eq (by simp[k]))
 ·exact zJ.ifF (decide_eq_false h) (zJ.ret.eq (by simp[h]))
theorem S8:∀(r l:List Tm) (v:Nat),l.drop v=r->l.length≤1073741824->sL l->zJ (fun q=>gK q l (v:Int)) (r.all zH)
 | [],l,v,hd,hl,ho=>by
  refine zJ.succ ?_
  simp only[gK]
  exact zJ.ifF (yH hd) zJ.ret
 |x::r,l,v,hd,hl,ho=>by
  have hlt:=yL hd
  refine zJ.succ ?_
  simp only[gK]
  refine zJ.ifT (yG hd) (zJ.pure (yD hd) ((xN x (ho.at hd)).bind ?_))
  by_cases h:zH x=true
  ·refine zJ.ifT h ?_
   rw[yA v (by omega)]
   exact(S8 r l (v+1) (zY hd) hl ho).eq (by simp[h])
  ·exact zJ.ifF (by simpa using h) (zJ.ret.eq (by simp[h]))
theorem aT(l:List Tm)(hl:l.length≤1073741824)(ho:sL l):zJ (fun q=>zIz q l) (l.all zH):=by
 simp only[zIz]
 exact S8 l l 0 rfl hl ho
def zFB(qq:Nat)(rl:yV)(parts:uM)(p1:Int)(p2:yM):Option (Tm×Int):=
 zHZ qq rl p1 4>>=fun r1=>
 if r1 then
 zW rl p1>>=fun x4=>
 zW rl x4.fam>>=fun x6=>
 if (p2.length:Int) != (x6.fields.length:Int)then
 some ((Tm.mk 0 0 []),5)
 else
 zIz qq p2>>=fun r9=>
 if r9 then
 zW p2 x4.place>>=fun x12=>
 some (x12,0)
 else
 some ((Tm.mk 0 0 []),5)
 else
 some ((Tm.mk 0 0 []),16)
theorem zTw:Qf 226 f226:=⟨func226,rfl⟩
theorem yBI{qq rl parts p1 p2 r}(h:zFB qq rl parts p1 p2=some r):Ct 226 [qR rl parts] [.mp 0 0,ai p1,zV zD p2 .no] (.tup [yY r.1,ai r.2]) [qR rl parts] 0:=⟨by
 unfold zFB at h
 have z {os ob} (k:Oz os ob):=oD (dT ([]:yM))<|oD (dC parts)<|oD (dE rl)<|k
 obtain⟨r1,h2,h⟩:=zC h
 obtain⟨h3,h⟩|⟨h3,h⟩:=zU h
 obtain⟨x4,h5,h⟩:=zC h
 obtain⟨x6,h7,h⟩:=zC h
 have k:=oA 1 (wI (o:=.no) h7)<|oA 2 (wI (o:=.no) h5)<|oK 2 [] h3 (zMq h2) o0
 obtain⟨h8,h⟩|⟨h8,h⟩:=zU h
 cases h
 exact tF zTw 1 [0] (z<|oB 2 h8 k)
 obtain⟨r9,h10,h⟩:=zC h
 have k:=oB 2 h8 k
 obtain⟨h11,h⟩|⟨h11,h⟩:=zU h
 obtain⟨x12,h13,h⟩:=zC h
 cases h
 exact tF zTw 2 [0] (oD (dT x12.sub)<|oD (dC parts)<|oD (dE rl)<|oA 1 (xH (o:=.no) h13)<|oA 1 (wI (o:=.no) h5)<|oK 0 [] h11 (zMp h10) k)
 cases h
 exact tF zTw 2 [0] (z<|oK 0 [] h11 (zMp h10) k)
 cases h
 exact tF zTw 2 [0] (z<|oK 2 [] h3 (zMq h2) o0),⟨(lz rfl),tv,⟨tv,dT _⟩,tv⟩,(zA ⟨⟨tv,dE _⟩,⟨tv,dC _⟩,tv⟩ zB),⟨⟨tv,tv,dT _,tv⟩,tv,tv⟩,(zA ⟨dE _,dC _,tv⟩ zB)⟩
def zVV(qq:Nat)(p0 p1:Int):Option Tm:=
 zAD qq p1>>=fun r1=>
 zEY qq 7 p0 [r1]>>=fun r3=>
 some r3
theorem zTv{qq p0 p1 r}(h:zVV qq p0 p1=some r):Ct 245 [] [ai p0,ai p1] (yY r) [] 0:=⟨by
 unfold zVV at h
 obtain⟨r1,h2,h⟩:=zC h
 obtain⟨r3,h4,h⟩:=zC h
 obtain rfl:=sj h
 exact tF ⟨func245,rfl⟩ 1 [] (oD (dT r3.sub)<|oC 0 [] (zLB h4)<|oS 0 (xO xW [r1])<|oC 0 [] (zHI h2) o0),⟨tv,tv,tv⟩,zB,⟨tv,tv,dT _,tv⟩,zB⟩
def kK:Nat->yV->uM->Int->Int->yM->yM->sW->Int->Int->Int->Int->yM->Option (Tm×Int)
 |0,_,_,_,_,_,_,_,_,_,_,_,_=>none
 |qq+1,rl,parts,p1,p2,p4,p5,x12,v120,wK,vA,vB,nX=>
 if decide (v120<(x12.recs.length:Int))then
 zW x12.recs v120>>=fun x29=>
 if x29.is then
 zW rl p1>>=fun x32=>
 fK p4 0 x32.pars>>=fun x34=>
 xF 40 ([]:yM) x34>>=fun l36=>
 fK p5 0 v120>>=fun x39=>
 xF 40 l36 x39>>=fun l41=>
 zVV qq p1 p2>>=fun r44=>
 zW p5 v120>>=fun x46=>
 zPL qq wK r44 p4 l41 x29 x46>>=fun r48=>
 u7 qq (Tm.mk vA vB nX) r48.1>>=fun r50=>
 kK qq rl parts p1 p2 p4 p5 x12 (xL (v120+1)) r48.2 r50.k r50.n r50.sub
 else
 kK qq rl parts p1 p2 p4 p5 x12 (xL (v120+1)) wK vA vB nX
 else
 zPM qq wK (Tm.mk vA vB nX)>>=fun r52=>
 some (r52.1,r52.2.1)
def zFC(qq:Nat)(rl:yV)(parts:uM)(p1 p2 p3:Int)(p4 p5:yM):Option (Tm×Int):=
 zHZ qq rl p1 1>>=fun r1=>
 if r1 then
 if decide (p2<0)then
 some ((Tm.mk 0 0 []),16)
 else
 if decide (p2>7)then
 some ((Tm.mk 0 0 []),16)
 else
 zHZ qq rl p3 2>>=fun r6=>
 if r6 then
 zW rl p3>>=fun x9=>
 if x9.fam != p1 then
 some ((Tm.mk 0 0 []),16)
 else
 zW parts p3>>=fun x12=>
 zW rl p1>>=fun x14=>
 if (p4.length:Int) != (xL ((xL (x14.pars+1))+(x14.cons.length:Int)))then
 some ((Tm.mk 0 0 []),5)
 else
 if (p5.length:Int) != (x12.args.length:Int)then
 some ((Tm.mk 0 0 []),5)
 else
 zIz qq p4>>=fun r18=>
 if r18 then
 zIz qq p5>>=fun r21=>
 if r21 then
 zW p4 (xL ((xL (x14.pars+1))+x9.place))>>=fun x24=>
 aK qq x24 p5>>=fun r26=>
 kK qq rl parts p1 p2 p4 p5 x12 0 0 r26.k r26.n r26.sub
 else
 some ((Tm.mk 0 0 []),5)
 else
 some ((Tm.mk 0 0 []),5)
 else
 some ((Tm.mk 0 0 []),16)
 else
 some ((Tm.mk 0 0 []),16)
theorem zAI:Qf 227 f227:=⟨func227,rfl⟩
theorem zTu:∀qq:Nat,(∀ {rl parts p1 p2 p4 p5 x12 v120 wK vA vB nX r},kK qq rl parts p1 p2 p4 p5 x12 v120 wK vA vB nX=some r->(∀j,dL 1 (pt 16777141 f227) (sp j 160 0 [(1,ai p1),(2,ai p2),(4,zV zD p4 .no),(5,zV zD p5 .no),(12,.mp 1 0),(14,zV xJ rl .no),(16,.mp 2 0),(17,.mp 3 0),(118,zV D1 x12.recs .no),(119,ai (x12.recs.length:Int)),(120,ai v120)]) (⟨[(0,qR rl parts),(1,.cells [ai 0,ai 0,zV zD ([]:yM) .nl]),(2,.cells [ai wK]),(3,.cells [ai vA,ai vB,zV zD nX .no])],4,[],0,[]⟩) (fQ 1 (nQ 1 f227 (.tup [yY r.1,ai r.2]) [qR rl parts] 0) [.blk 0,.seq (pt 262143 f227)]))):=by
 intro qq
 induction qq with
 |zero=>
  exact fun h=>nn h
 |succ qq ih=>
  intro rl parts p1 p2 p4 p5 x12 v120 wK vA vB nX r h
  rw[kK]at h
  have z {os ob} (k:Oz os ob):=oD (dT ([]:yM))<|oD (dC parts)<|oD (dE rl)<|k
  obtain⟨h28,h⟩|⟨h28,h⟩:=zU h
  obtain⟨x29,h30,h⟩:=zC h
  have k:=oA 0 (zYv (o:=.no) h30)<|oB 0 h28 o0
  obtain⟨h31,h⟩|⟨h31,h⟩:=zU h
  obtain⟨x32,h33,h⟩:=zC h
  obtain⟨x34,h35,h⟩:=zC h
  obtain⟨l36,h37,h⟩:=zC h
  have k:=oA 1 (mW h35)<|oA 1 (wI (o:=.no) h33)<|oB 2 h31 k
  by_cases h38:List.length x34=0
  obtain⟨x39,h40,h⟩:=zC h
  obtain⟨l41,h42,h⟩:=zC h
  have k:=oA 0 (mW h40)<|oP 0 (qE h37 h38) k
  by_cases h43:List.length x39=0
  obtain⟨r44,h45,h⟩:=zC h
  obtain⟨x46,h47,h⟩:=zC h
  obtain⟨r48,h49,h⟩:=zC h
  obtain⟨r50,h51,h⟩:=zC h
  exact fun j=>lH 2 [] [0,1,2,3] [] [1,2,4,5,12,14,16,17,118,119,120] (oD (dR x12.recs)<|oD (dE rl)<|oD (dT p5)<|oD (dT p4)<|oD (dT r50.sub)<|z<|oC 0 [] (zAB h51)<|oC 1 [2] (zSZ h49)<|oA 1 (xH (o:=.no) h47)<|oC 1 [] (zTv h45)<|oP 0 (qE h42 h43) k) (ih h)
  obtain⟨r44,h45,h⟩:=zC h
  obtain⟨x46,h47,h⟩:=zC h
  obtain⟨r48,h49,h⟩:=zC h
  obtain⟨r50,h51,h⟩:=zC h
  exact fun j=>lH 2 [] [0,1,2,3] [] [1,2,4,5,12,14,16,17,118,119,120] (oD (dR x12.recs)<|oD (dE rl)<|oD (dT p5)<|oD (dT p4)<|oD (dT r50.sub)<|z<|oC 0 [] (zAB h51)<|oC 1 [2] (zSZ h49)<|oA 1 (xH (o:=.no) h47)<|oC 1 [] (zTv h45)<|oP 0 (vE h42 h43) k) (ih h)
  obtain⟨x39,h40,h⟩:=zC h
  obtain⟨l41,h42,h⟩:=zC h
  have k:=oA 0 (mW h40)<|oP 0 (vE h37 h38) k
  by_cases h43:List.length x39=0
  obtain⟨r44,h45,h⟩:=zC h
  obtain⟨x46,h47,h⟩:=zC h
  obtain⟨r48,h49,h⟩:=zC h
  obtain⟨r50,h51,h⟩:=zC h
  exact fun j=>lH 2 [] [0,1,2,3] [] [1,2,4,5,12,14,16,17,118,119,120] (oD (dR x12.recs)<|oD (dE rl)<|oD (dT p5)<|oD (dT p4)<|oD (dT r50.sub)<|z<|oC 0 [] (zAB h51)<|oC 1 [2] (zSZ h49)<|oA 1 (xH (o:=.no) h47)<|oC 1 [] (zTv h45)<|oP 0 (qE h42 h43) k) (ih h)
  obtain⟨r44,h45,h⟩:=zC h
  obtain⟨x46,h47,h⟩:=zC h
  obtain⟨r48,h49,h⟩:=zC h
  obtain⟨r50,h51,h⟩:=zC h
  exact fun j=>lH 2 [] [0,1,2,3] [] [1,2,4,5,12,14,16,17,118,119,120] (oD (dR x12.recs)<|oD (dE rl)<|oD (dT p5)<|oD (dT p4)<|oD (dT r50.sub)<|z<|oC 0 [] (zAB h51)<|oC 1 [2] (zSZ h49)<|oA 1 (xH (o:=.no) h47)<|oC 1 [] (zTv h45)<|oP 0 (vE h42 h43) k) (ih h)
  exact fun j=>lH 1 [] [0,1,2,3] [] [1,2,4,5,12,14,16,17,118,119,120] (oD (dR x12.recs)<|oD (dE rl)<|oD (dT p5)<|oD (dT p4)<|oD (dT nX)<|z<|oB 2 h31 k) (ih h)
  obtain⟨r52,h53,h⟩:=zC h
  cases h
  exact fun j=>lF 3 [0] (oD (dT r52.1.sub)<|oD (dC parts)<|oD (dE rl)<|oC 1 [2] (yBH h53)<|oB 0 h28 o0)
theorem yBJ{qq rl parts p1 p2 p3 p4 p5 r}(h:zFC qq rl parts p1 p2 p3 p4 p5=some r):Ct 227 [qR rl parts] [.mp 0 0,ai p1,ai p2,ai p3,zV zD p4 .no,zV zD p5 .no] (.tup [yY r.1,ai r.2]) [qR rl parts] 0:=⟨by
 unfold zFC at h
 have z {os ob} (k:Oz os ob):=oD (dT ([]:yM))<|oD (dC parts)<|oD (dE rl)<|k
 obtain⟨r1,h2,h⟩:=zC h
 obtain⟨h3,h⟩|⟨h3,h⟩:=zU h
 have k:=oK 2 [] h3 (zMq h2) o0
 obtain⟨h4,h⟩|⟨h4,h⟩:=zU h
 cases h
 exact tF zAI 1 [0] (z<|oB 1 h4 k)
 have k:=oB 1 h4 k
 obtain⟨h5,h⟩|⟨h5,h⟩:=zU h
 cases h
 exact tF zAI 1 [0] (z<|oB 0 h5 k)
 obtain⟨r6,h7,h⟩:=zC h
 have k:=oB 0 h5 k
 obtain⟨h8,h⟩|⟨h8,h⟩:=zU h
 obtain⟨x9,h10,h⟩:=zC h
 have k:=oA 1 (wI (o:=.no) h10)<|oK 0 [] h8 (zMq h7) k
 obtain⟨h11,h⟩|⟨h11,h⟩:=zU h
 cases h
 exact tF zAI 1 [0] (z<|oB 1 h11 k)
 obtain⟨x12,h13,h⟩:=zC h
 obtain⟨x14,h15,h⟩:=zC h
 have k:=oA 2 (wI (o:=.no) h15)<|oA 3 (wI (o:=.no) h15)<|oA 1 (zYx (o:=.no) h13)<|oB 1 h11 k
 obtain⟨h16,h⟩|⟨h16,h⟩:=zU h
 cases h
 exact tF zAI 1 [0] (z<|oB 3 h16 k)
 have k:=oB 3 h16 k
 obtain⟨h17,h⟩|⟨h17,h⟩:=zU h
 cases h
 exact tF zAI 1 [0] (z<|oB 3 h17 k)
 obtain⟨r18,h19,h⟩:=zC h
 have k:=oB 3 h17 k
 obtain⟨h20,h⟩|⟨h20,h⟩:=zU h
 obtain⟨r21,h22,h⟩:=zC h
 have k:=oK 0 [] h20 (zMp h19) k
 obtain⟨h23,h⟩|⟨h23,h⟩:=zU h
 obtain⟨x24,h25,h⟩:=zC h
 obtain⟨r26,h27,h⟩:=zC h
 exact tH zAI 3 [] [0,1,3,4] [] [1,2,4,5,12,14,16,17,118,119,120] (oD (dR x12.recs)<|oD (dE rl)<|oD (dT p5)<|oD (dT p4)<|oD (dT r26.sub)<|z<|oC 1 [] (zAC h27)<|oA 2 (xH (o:=.no) h25)<|oA 2 (wI (o:=.no) h10)<|oA 1 (wI (o:=.no) h15)<|oK 1 [] h23 (zMp h22) k) (zTu _ h)
 cases h
 exact tF zAI 2 [0] (z<|oK 1 [] h23 (zMp h22) k)
 cases h
 exact tF zAI 2 [0] (z<|oK 0 [] h20 (zMp h19) k)
 cases h
 exact tF zAI 2 [0] (z<|oK 0 [] h8 (zMq h7) k)
 cases h
 exact tF zAI 2 [0] (z<|oK 2 [] h3 (zMq h2) o0),⟨(lz rfl),tv,tv,tv,⟨tv,dT _⟩,⟨tv,dT _⟩,tv⟩,(zA ⟨⟨tv,dE _⟩,⟨tv,dC _⟩,tv⟩ zB),⟨⟨tv,tv,dT _,tv⟩,tv,tv⟩,(zA ⟨dE _,dC _,tv⟩ zB)⟩
theorem zTt(l:List yI)(i:Int)(h0:0≤i)(h1:i<l.length)(hk:(ent l i).kind=2):zW (lW l l.length 0) i=some (vL l i):=by
 unfold zW
 rw[if_pos h0,zJH l l.length 0 i.toNat (by omega),show ((0+i.toNat:Nat):Int)=i by omega,if_pos hk]
theorem zVW(l:List yI)(t:Tm)(of b:Int):zFa (zAG l t of b):=by
 unfold zAG
 split
 ·rename_i h
  have hw:=qS (t:=t) (l:=(yX t).1) (y:=(yX t).2.1) (by rw[←h.1])
  have hs:=zO hw.2.2.2.2.1
  have hal:=rE _ hs.2.2
  refine⟨fun x hx=>yB (hw.2.2.2.2.2 x hx),fun x hx=>yB (xI hw.2.2.2.2.1 (List.mem_of_mem_drop hx)),?_,?_⟩
  ·show (yX t).1.length≤_
   omega
  ·show ((yS (yX t).2.1).drop _).length≤_
   rw[List.length_drop];omega
 ·exact⟨sL.nil,sL.nil,by simp,by simp⟩
theorem zJR(l:List yI)(of:Int):∀(r:List Tm) (b:Int),∀x∈lE l of r b,zFa x
 | [],_,x,h=>nomatch h
 |a::r,b,x,h=>by
  rcases List.mem_cons.1 h with h|h
  ·rw[h];exact zVW l a of b
  ·exact zJR l of r (b+1) x h
def zCX(l:List yI)(i:Int)(a:List Tm)(x:Tm×Int):Prop:=
 x.1.Ok∧x.2≠8∧(x.2=0->(a.length:Int)=(ent l (ent l i).fam).fields.length∧0≤(ent l i).place∧(ent l i).place<a.length∧x.1=tJ a (ent l i).place)
theorem zMm{N:ByteArray->Bool}(l:List yI)(parts:List sW)(i:Int)(a:List Tm)(hE:wP N l)(ho:sL a)(hl:a.length≤1073741824):zN (fun q=>zFB q l parts i a) (zCX l i a):=by
 simp only[zFB]
 have bad:∀e:Int,e≠8->e≠0->zCX l i a (.mk 0 0 [],e):=fun e h8 h0=>⟨xX 0 0,h8,fun h=>absurd h h0⟩
 refine zN.bind (P:=fun b=>b=aN l i 4) ((zIv l i 4).tot rfl) fun b hb=>zN.ite (fun hT=>?_) fun _=>zN.ret (bad _ (by decide) (by decide))
 rw[hT]at hb
 have hi:=tM hb.symm
 have hp:=(xD (hE.2 i hi.1 hi.2.1)).2.2.2.1 hi.2.2
 unfold F5 at hp
 simp only[Bool.and_eq_true]at hp
 have hw:=rK hp.1
 have h6:=hw.2.2.2.2.2
 unfold p8 at h6
 rw[if_pos hi.2.2]at h6
 refine zN.pure (yT hi.1 hi.2.1) (zN.pure (yT hw.1 (by omega)) (zN.ite (fun _=>zN.ret (bad _ (by decide) (by decide))) fun hn=>?_))
 have hn':(a.length:Int)=(ent l (ent l i).fam).fields.length:=by simpa using hn
 refine zN.bind (P:=fun _=>True) ((aT a hl ho).tot trivial) fun _ _=>zN.ite (fun _=>?_) fun _=>zN.ret (bad _ (by decide) (by decide))
 have h7:(ent l i).place<a.length:=by omega
 have hx:=sA (l:=a) hw.2.2.2.2.1 h7
 exact zN.pure hx (zN.ret ⟨ho _ (rW hw.2.2.2.2.1 h7),by simp,fun _=>⟨hn',hw.2.2.2.2.1,h7,rfl⟩⟩)
def nT(d lev:Int)(args own:List Tm)(pars:Nat):List sV->Nat->Tm->Tm
 | [],_,t=>t
 |r::rs,v,t=>nT d lev args own pars rs (v+1) (if r.is=true then .mk 5 0 [t,zPS (.mk 7 d [.mk 2 lev []]) args (args.take pars++own.take v) r (tJ own v)]else t)
def G9(l:List yI)(d lev c:Int)(args own:List Tm):Tm:=
 nT d lev args own (ent l d).pars.toNat (vL l c).recs 0 (uF (tJ args ((ent l d).pars+1+(ent l c).place)) own)
theorem zMl{N:ByteArray->Bool}(l:List yI)(parts:List sW)(i p2:Int)(p4 p5:List Tm)(x:sW)(hE:wP N l)(h0:0≤i)(h1:i<l.length)(hk:(ent l i).kind=1)(hp:(ent l i).pars≤p4.length)(hl4:p4.length≤65535)(h5:p5.length=x.recs.length)(hl5:p5.length≤65535)
  (ho4:sL p4) (ho5:sL p5) (hx:∀r∈x.recs,zFa r):∀(r:List sV) (v:Nat) (e:Int) (t:Tm),x.recs.drop v=r->t.Ok->zN (fun q=>kK q l parts i p2 p4 p5 x (v:Int) e t.k t.n t.sub)
   (fun y=>y.1.Ok∧(e≠8->y.2≠8)∧(y.2=0->e=0∧y.1=nT i p2 p4 p5 (ent l i).pars.toNat r v t∧zH y.1=true)):=by
 have hf:=wU ((xD (hE.2 i h0 h1)).2.1 hk)
 intro r
 induction r with
 |nil=>
  intro v e t hd ht
  refine zN.succ ?_
  simp only[kK,rD]
  refine zN.ite (fun h=>?_) fun _=>(zPT e t ht).bind fun r h=>zN.ret ⟨h.1,h.2.1,fun h0=>?_⟩
  ·rw[yH hd]at h;cases h
  ·have k:=h.2.2 h0
   exact⟨k.1,k.2.1,by show zH r.1=true;rw[k.2.1];exact k.2.2⟩
 |cons z r ih=>
  intro v e t hd ht
  have hlt:=yL hd
  have hz:z∈x.recs:=by
   have:z∈x.recs.drop v:=by rw[hd];simp
   exact List.mem_of_mem_drop this
  refine zN.succ ?_
  simp only[kK,rD]
  refine zN.ite (fun _=>?_) fun h=>?_
  ·refine zN.pure (yD hd) (zN.ite (fun hzi=>?_) fun hzi=>?_)
   ·refine zN.pure (yT h0 h1) (zN.pure (V5 (by omega) (by omega) hp) (zN.pure (yK (by simp<;>omega)) (zN.pure (V5 (by omega) (by omega) (by omega)) (zN.pure (yK (by simp<;>omega)) ?_))))
    refine zN.bind (P:=fun y=>y=Tm.mk 7 i [Tm.mk 2 p2 []]) (zJ.tot (r:=Tm.mk 7 i [Tm.mk 2 p2 []]) (zJ.mk fun _=>rfl) rfl) fun r44 h44=>?_
    subst h44
    have hnv:(v:Int)<p5.length:=by omega
    refine zN.pure (sA (l:=p5) (n:=(v:Int)) (by omega) hnv) ?_
    refine(o8 e (.mk 7 i [.mk 2 p2 []]) p4 _ z (tJ p5 v) (zVR (xX _ _)) ho4 (by omega) ?_ ?_ (hx z hz) (ho5 _ (rW (by omega) hnv))).bind fun r48 h48=>?_
    ·exact(sL.nil.app ((ho4.drop _).take _)).app ((ho5.drop _).take _)
    ·simp only[List.length_append,List.length_take,List.length_drop,List.length_nil];omega
    refine zN.bind (P:=fun y=>y=Tm.mk 5 0 [t,r48.1]) ((N9 t r48.1).tot rfl) fun r50 h50=>?_
    subst h50
    rw[yA v (by omega)]
    refine(ih (v+1) r48.2 (.mk 5 0 [t,r48.1]) (zY hd) (eN ht h48.1)).mono fun y hy=>⟨hy.1,fun he=>hy.2.1 (h48.2.1 he),fun he=>?_⟩
    have k:=hy.2.2 he
    have k4:=h48.2.2 k.1
    refine⟨k4.1,?_,k.2.2⟩
    rw[k.2.1,k4.2,nT,if_pos hzi]
    simp
   ·rw[yA v (by omega)]
    refine(ih (v+1) e t (zY hd) ht).mono fun y hy=>⟨hy.1,hy.2.1,fun he=>?_⟩
    have k:=hy.2.2 he
    refine⟨k.1,?_,k.2.2⟩
    rw[k.2.1,nT,if_neg (by simpa using hzi)]
  ·rw[yG hd]at h;cases h
def zIu(l:List yI)(d lev c:Int)(args own:List Tm)(x:Tm×Int):Prop:=
 x.1.Ok∧x.2≠8∧(x.2=0->(0≤lev∧lev≤7)∧aN l d 1=true∧aN l c 2=true∧(ent l c).fam=d∧(args.length:Int)=(ent l d).pars+1+(ent l d).cons.length∧own.length=(vL l c).args.length∧args.all zH=true∧own.all zH=true∧x.1=G9 l d lev c args own∧zH x.1=true)
theorem zPU{N:ByteArray->Bool}(l:List yI)(i p2 c:Int)(p4 p5:List Tm)(hE:wP N l)(ho4:sL p4)(ho5:sL p5)(hl4:p4.length≤65535)(hl5:p5.length≤65535):zN (fun q=>zFC q l (lW l l.length 0) i p2 c p4 p5) (zIu l i p2 c p4 p5):=by
 have bad:∀e:Int,e≠8->e≠0->zIu l i p2 c p4 p5 (.mk 0 0 [],e):=fun e h8 h0=>⟨xX 0 0,h8,fun h=>absurd h h0⟩
 simp only[zFC]
 refine zN.bind (P:=fun b=>b=aN l i 1) ((zIv l i 1).tot rfl) fun b hb=>zN.ite (fun hT=>?_) fun _=>zN.ret (bad _ (by decide) (by decide))
 rw[hT]at hb
 have hi:=tM hb.symm
 refine zN.ite (fun _=>zN.ret (bad _ (by decide) (by decide))) fun hv0=>zN.ite (fun _=>zN.ret (bad _ (by decide) (by decide))) fun hv1=>?_
 have hv0':=of_decide_eq_false hv0
 have hv1':=of_decide_eq_false hv1
 refine zN.bind (P:=fun b=>b=aN l c 2) ((zIv l c 2).tot rfl) fun b2 hb2=>zN.ite (fun hT=>?_) fun _=>zN.ret (bad _ (by decide) (by decide))
 rw[hT]at hb2
 have hc:=tM hb2.symm
 have hf:=wU ((xD (hE.2 i hi.1 hi.2.1)).2.1 hi.2.2)
 obtain⟨A,y,hw,hy,hA,hAp,hA24,p0,p1,f0,f1,fk,fp,fi,fs,hap,q0,q1⟩:=tX hE hc.1 hc.2.1 hc.2.2
 refine zN.pure (yT hc.1 hc.2.1) (zN.ite (fun _=>zN.ret (bad _ (by decide) (by decide))) fun hn=>?_)
 have hfam:(ent l c).fam=i:=by simpa using hn
 refine zN.pure (zTt l c hc.1 hc.2.1 hc.2.2) (zN.pure (yT hi.1 hi.2.1) ?_)
 rw[hfam]at fp q1 fi fs
 rw[yW (x:=(ent l i).pars+1) (by omega) (by omega),yW (x:=(ent l i).pars+1+(ent l i).cons.length) (by omega) (by omega),yW (x:=(ent l i).pars+1+(ent l c).place) (by omega) (by omega)]
 refine zN.ite (fun _=>zN.ret (bad _ (by decide) (by decide))) fun hn4=>zN.ite (fun _=>zN.ret (bad _ (by decide) (by decide))) fun hn5=>?_
 have hn4':(p4.length:Int)=(ent l i).pars+1+(ent l i).cons.length:=by simpa using hn4
 have hn5':(p5.length:Int)=(vL l c).args.length:=by simpa using hn5
 refine zN.bind (P:=fun b=>b=p4.all zH) ((aT p4 (by omega) ho4).tot rfl) fun b4 hb4=>zN.ite (fun hs4=>?_) fun _=>zN.ret (bad _ (by decide) (by decide))
 refine zN.bind (P:=fun b=>b=p5.all zH) ((aT p5 (by omega) ho5).tot rfl) fun b5 hb5=>zN.ite (fun hs5=>?_) fun _=>zN.ret (bad _ (by decide) (by decide))
 have h7:(ent l i).pars+1+(ent l c).place<p4.length:=by omega
 refine zN.pure (sA (l:=p4) (by omega) h7) (zN.bind (P:=fun z=>z=uF (tJ p4 ((ent l i).pars+1+(ent l c).place)) p5) ((nK _ p5 (by omega)).tot rfl) fun r26 h26=>?_)
 subst h26
 have hlen:(vL l c).recs.length=(vL l c).args.length:=by unfold vL;exact O6 l _ _ _
 refine(zMl l _ i p2 p4 p5 (vL l c) hE hi.1 hi.2.1 hi.2.2 (by omega) hl4 (by omega) hl5 ho4 ho5 (by unfold vL;exact zJR l _ _ _) _ 0 0 _ rfl (oT _ _ (ho4 _ (rW (by omega) h7)) ho5)).mono fun x hx=>⟨hx.1,hx.2.1 (by decide),fun h0=>?_⟩
 have k:=hx.2.2 h0
 exact⟨⟨by omega,by omega⟩,hb.symm,hb2.symm,hfam,hn4',by omega,by rw[←hb4];exact hs4,by rw[←hb5];exact hs5,k.2.1,k.2.2⟩
section
variable {P:Int->Int->Prop}
theorem zJS{k:Int}{l:List Tm}(h:∀a∈l,xM P a):∀a∈upI k l,xM P a:=fun a ha=>by
 obtain⟨x,hx,rfl⟩:=List.mem_map.1 ha
 exact G3 x 0 0 k (h x hx)
theorem zFD:∀m,∀a∈aS m,xM P a
 |0,a,h=>nomatch h
 |m+1,a,h=>by
  rcases List.mem_cons.1 h with rfl|h
  ·exact aR (.inl rfl)
  ·exact zFD m a h
theorem zJT:∀m v,∀a∈vuT m v,xM P a
 |0,_,a,h=>nomatch h
 |m+1,v,a,h=>by
  rcases List.mem_cons.1 h with rfl|h
  ·exact aR (.inl rfl)
  ·exact zJT m (v+1) a h
theorem zFE{t:Tm}{own:Nat}{outer:List Tm}(h:xM P t)(ho:∀a∈outer,xM P a):xM P (zFc t own outer):=by
 refine zCT _ (fun a ha=>?_) t 0 h
 rcases List.mem_append.1 ha with ha|ha
 ·exact zJT _ _ a ha
 ·exact zJS ho a (List.mem_reverse.1 ha)
theorem zBB{outer:List Tm}(ho:∀a∈outer,xM P a):∀(l:List Tm) (v:Nat),(∀a∈l,xM P a)->∀a∈kJ outer l v,xM P a
 | [],v,h,a,ha=>nomatch ha
 |t::l,v,h,a,ha=>by
  rcases List.mem_cons.1 ha with rfl|ha
  ·exact zFE (h t (by simp)) ho
  ·exact zBB ho l (v+1) (fun x hx=>h x (by simp[hx])) a ha
theorem zFF(h4:P 4 0):∀(l:List Tm) (t:Tm),(∀a∈l,xM P a)->xM P t->xM P (U4 l t)
 | [],t,_,ht=>ht
 |a::l,t,h,ht=>zCS (.inr h4) (h a (by simp)) (zFF h4 l t (fun x hx=>h x (by simp[hx])) ht)
theorem zPV{head:Tm}{args outer:List Tm}{r:sV}{a:Tm}(h4:P 4 0)(h5:P 5 0)(hh:xM P head)(hargs:∀a∈args,xM P a)(hout:∀a∈outer,xM P a)(hr:(∀t∈r.around,xM P t)∧∀t∈r.at',xM P t)(ha:xM P a):xM P (zPS head args outer r a):=by
 refine zFF h4 _ _ (zBB hout _ 0 hr.1) (zCS (.inr h5) ?_ ?_)
 ·refine gH _ _ h5 (gH _ _ h5 hh (zJS hargs)) fun x hx=>?_
  obtain⟨t,ht,rfl⟩:=List.mem_map.1 hx
  exact zFE (hr.2 t ht) hout
 ·exact gH _ _ h5 (G3 a 0 0 _ ha) (zFD _)
theorem zCY{Q:Tm->Prop}{l:List Tm}{n:Int}(h:∀a∈l,Q a)(hz:Q zT):Q (tJ l n):=by
 unfold tJ
 cases e:l[n.toNat]? with
 |none=>exact hz
 |some x=>exact h x (List.mem_of_getElem? e)
theorem o9{d lev:Int}{args own:List Tm}{pars:Nat}(h4:P 4 0)(h5:P 5 0)(h0:P 0 0)(h2:P 2 lev)(h7:P 7 d)(hargs:∀a∈args,xM P a)(hown:∀a∈own,xM P a) :
  ∀(rs:List sV) (v:Nat) (t:Tm),(∀r∈rs,(∀t∈r.around,xM P t)∧∀t∈r.at',xM P t)->xM P t->xM P (nT d lev args own pars rs v t)
 | [],v,t,_,ht=>ht
 |r::rs,v,t,hr,ht=>by
  rw[nT]
  refine o9 h4 h5 h0 h2 h7 hargs hown rs (v+1) _ (fun x hx=>hr x (by simp[hx])) ?_
  split
  ·refine zCS (.inr h5) ht (zPV h4 h5 (zVL (.inr h7) (aR (.inr h2))) hargs ?_ (hr r (by simp)) (zCY hown (aR (.inr h0))))
   intro a ha
   rcases List.mem_append.1 ha with ha|ha
   ·exact hargs a (List.mem_of_mem_take ha)
   ·exact hown a (List.mem_of_mem_take ha)
  ·exact ht
theorem zMk{l:List yI}{d lev c:Int}{args own:List Tm}(h4:P 4 0)(h5:P 5 0)(h0:P 0 0)(h2:P 2 lev)(h7:P 7 d)(hargs:∀a∈args,xM P a)(hown:∀a∈own,xM P a)(hr:∀r∈(vL l c).recs,(∀t∈r.around,xM P t)∧∀t∈r.at',xM P t):xM P (G9 l d lev c args own):=
 o9 h4 h5 h0 h2 h7 hargs hown _ 0 _ hr (gH _ _ h5 (zCY hargs (aR (.inr h0))) hown)
theorem cE{t:Tm}{l:List Tm}{y:Tm}(h:yX t=(l,y,0)):xB t=true∧nS l.length t=some (l,y):=by
 have hw:=qS h
 have hg:=(zO hw.1).2.2
 unfold yX uX at h
 rw[if_pos hw.1,if_neg (by omega),if_neg (by omega)]at h
 rw[show (((min (vP t) 25:Nat):Int)).toNat=l.length by omega]at h
 cases e:nS l.length t with
 |none=>rw[e]at h;simp[zCJ]at h
 |some r=>
  rw[e]at h
  simp only[zCJ,List.nil_append,Prod.mk.injEq,and_true]at h
  exact⟨hg,by rw[←h.1,←h.2]⟩
theorem zPW{l:List yI}{t:Tm}{of b:Int}(h:xM P t):(∀x∈(zAG l t of b).around,xM P x)∧∀x∈(zAG l t of b).at',xM P x:=by
 unfold zAG
 split
 ·rename_i a
  have hw:=cE (t:=t) (l:=(yX t).1) (y:=(yX t).2.1) (by rw[←a.1])
  have hs:=o5 _ _ _ hw.1 hw.2 h
  have hy:=(zO (qS (t:=t) (l:=(yX t).1) (y:=(yX t).2.1) (by rw[←a.1])).2.2.2.2.1).2.2
  exact⟨hs.2,fun x hx=>(lI _ hy hs.1).2 x (List.mem_of_mem_drop hx)⟩
 ·exact⟨fun x hx=>(nomatch hx),fun x hx=>(nomatch hx)⟩
theorem zBC{l:List yI}{of:Int}:∀(r:List Tm) (b:Int),(∀t∈r,xM P t)->∀x∈lE l of r b,(∀t∈x.around,xM P t)∧∀t∈x.at',xM P t
 | [],b,h,x,hx=>nomatch hx
 |a::r,b,h,x,hx=>by
  rcases List.mem_cons.1 hx with hx|hx
  ·rw[hx];exact zPW (h a (by simp))
  ·exact zBC r (b+1) (fun t ht=>h t (by simp[ht])) x hx
theorem zIt{l:List yI}{i:Int}(hw:(yX (ent l i).type).2.2=0)(h:xM P (ent l i).type):∀r∈(vL l i).recs,(∀t∈r.around,xM P t)∧∀t∈r.at',xM P t:=by
 have hs:=cE (t:=(ent l i).type) (l:=(yX (ent l i).type).1) (y:=(yX (ent l i).type).2.1) (by rw[←hw])
 have ha:=o5 _ _ _ hs.1 hs.2 h
 unfold vL
 exact zBC _ _ fun t ht=>ha.2 t (List.mem_of_mem_drop ht)
end
theorem zPX:∀(m v i:Nat) (h:i<(vuT m v).length),(vuT m v)[i] = .mk 1 ((v+i:Nat):Int) []
 |0,v,i,h=>by simp[vuT]at h
 |m+1,v,0,h=>by simp[vuT]
 |m+1,v,i+1,h=>by
  have:=zPX m (v+1) i (by simpa[vuT]using h)
  simp only[vuT,List.getElem_cons_succ]
  rw[this,show v+1+i=v+(i+1) by omega]
theorem zPY:∀(m:Nat) (k j:Int),(m:Int)≤k->∀a∈aS m,¬j∈sF a k
 |0,k,j,_,a,h=>nomatch h
 |m+1,k,j,hk,a,h=>by
  rcases List.mem_cons.1 h with rfl|h
  ·intro hj;have:=qC.1 hj;omega
  ·exact zPY m k j (by omega) a h
theorem zJU:∀(l:List Tm) (t:Tm) (d j:Int),j∈sF (U4 l t) d->(∃(i:Nat) (h:i<l.length),j∈sF l[i] (d+i))∨j∈sF t (d+l.length)
 | [],t,d,j,h=>.inr (by simpa[U4]using h)
 |a::l,t,d,j,h=>by
  rcases zPC.1 h with h|h
  ·exact .inl ⟨0,by simp,by simpa using h⟩
  ·rcases zJU l t (d+1) j h with⟨i,hi,h⟩|h
   ·refine .inl ⟨i+1,by simp;omega,?_⟩
    rw[show d+((i+1:Nat):Int)=d+1+i by omega]
    simpa using h
   ·refine .inr ?_
    rw[show d+((a::l).length:Int)=d+1+l.length by simp;omega]
    exact h
theorem zPZ{t:Tm}{own:Nat}{outer:List Tm}{j:Int}(hs:∀i∈sF t own,i<outer.length)(h:j∈sF (zFc t own outer) own):∃a∈outer,j∈sF a 0:=by
 have hj:=o7 _ _ _ h
 have h0:j+own∈sF (zFc t own outer) 0:=((jQ _ 0 own j (by omega)).1 (by rwa[Int.zero_add])).2
 obtain⟨i,hi,h1⟩:=zPa _ t 0 _ (Int.le_refl 0) h0
 have hi0:=o7 _ _ _ hi
 have hb:i<own+outer.length:=by
  by_cases hio:(own:Int)≤i
  ·have:=hs (i-own) (by
    have:=(jQ t 0 own (i-own) (by omega)).2 ⟨by omega,by rwa[show i-own+own=i by omega]⟩
    rwa[Int.zero_add]at this)
   omega
  ·omega
 have hlen:(vuT own 0++(upI own outer).reverse).length=own+outer.length:=by simp[G8,upI]
 rcases h1 with h1|⟨h1,h2⟩
 ·rw[hlen]at h1;omega
 ·by_cases hio:(own:Int)≤i
  ·rw[List.getElem_append_right (by rw[G8];omega)]at h2
   have hm:=List.getElem_mem (l:=(upI own outer).reverse) (n:=i.toNat-(vuT own 0).length) (by rw[hlen]at h1;simp[G8,upI];omega)
   rw[List.mem_reverse]at hm
   obtain⟨a,ha,e⟩:=List.mem_map.1 hm
   rw[←e]at h2
   obtain⟨x,hx,e2⟩:=zUe a 0 0 own _ (by omega) h2
   have:=o7 _ _ _ hx
   rw[if_neg (by omega)]at e2
   exact⟨a,ha,by rwa[show j=x by omega]⟩
  ·rw[List.getElem_append_left (by rw[G8];omega),zPX]at h2
   have:=qC.1 h2
   omega
theorem n7(outer:List Tm):∀(l:List Tm) (v:Nat),(kJ outer l v).length=l.length
 | [],_=>rfl
 |t::l,v=>congrArg (· + 1) (n7 outer l (v+1))
theorem zFG(outer:List Tm):∀(l:List Tm) (v i:Nat) (h:i<(kJ outer l v).length) (h':i<l.length),(kJ outer l v)[i]=zFc l[i] (v+i) outer
 | [],v,i,h,h'=>by simp at h'
 |t::l,v,0,h,h'=>by simp[kJ]
 |t::l,v,i+1,h,h'=>by
  simp only[kJ,List.getElem_cons_succ]
  rw[zFG outer l (v+1) i _ (by simpa using h'),show v+1+i=v+(i+1) by omega]
def zFH(r:sV)(n:Nat):Prop:=(∀(i:Nat) (h:i<r.around.length),∀j∈sF r.around[i] i,j<n)∧∀t∈r.at',∀j∈sF t r.around.length,j<n
theorem zVX{head:Tm}{args outer:List Tm}{r:sV}{a:Tm}{j:Int}(hr:zFH r outer.length)(hh:∀d j,¬j∈sF head d)(h:j∈sF (zPS head args outer r a) 0):(∃x∈args,j∈sF x 0)∨(∃x∈outer,j∈sF x 0)∨j∈sF a 0:=by
 rcases zJU _ _ 0 j h with⟨i,hi,h⟩|h
 ·rw[n7]at hi
  rw[zFG outer r.around 0 i _ hi,Nat.zero_add,Int.zero_add]at h
  exact .inr (.inl (zPZ (hr.1 i hi) h))
 ·rw[n7,Int.zero_add]at h
  rcases O8.1 h with h|h
  ·rcases(zBc _ _ _ _).1 h with h|⟨x,hx,h⟩
   ·rcases(zBc _ _ _ _).1 h with h|⟨x,hx,h⟩
    ·exact absurd h (hh _ _)
    ·obtain⟨y,hy,rfl⟩:=List.mem_map.1 hx
     exact .inl ⟨y,hy,zFi y 0 (r.around.length:Int) j (by omega) (by rwa[Int.zero_add])⟩
   ·obtain⟨y,hy,rfl⟩:=List.mem_map.1 hx
    exact .inr (.inl (zPZ (hr.2 y hy) h))
  ·rcases(zBc _ _ _ _).1 h with h|⟨x,hx,h⟩
   ·exact .inr (.inr (zFi a 0 (r.around.length:Int) j (by omega) (by rwa[Int.zero_add])))
   ·exact absurd h (zPY _ _ _ (Int.le_refl _) x hx)
theorem zQz{l:List Tm}{n d j:Int}(h:j∈sF (tJ l n) d):∃a∈l,j∈sF a d:=by
 unfold tJ at h
 cases e:l[n.toNat]? with
 |none=>rw[e]at h;exact absurd h (zJM (by decide))
 |some x=>rw[e]at h;exact⟨x,List.mem_of_getElem? e,h⟩
theorem zFI{d lev:Int}{args own:List Tm}{pars:Nat}{j:Int}(hp:pars≤args.length):∀(rs:List sV) (v:Nat) (t:Tm),v+rs.length≤own.length->(∀(i:Nat) (h:i<rs.length),zFH rs[i] (pars+(v+i)))->j∈sF (nT d lev args own pars rs v t) 0->j∈sF t 0∨(∃x∈args,j∈sF x 0)∨∃x∈own,j∈sF x 0
 | [],v,t,_,_,h=>.inl h
 |r::rs,v,t,hl,hr,h=>by
  rw[List.length_cons]at hl
  rw[nT]at h
  rcases zFI hp rs (v+1) _ (by omega) (fun i hi=>by
   have:=hr (i+1) (by simp;omega)
   rw[show v+1+i=v+(i+1) by omega]
   simpa using this) h with h|h|h
  ·split at h
   ·rcases O8.1 h with h|h
    ·exact .inl h
    ·have hsc:=hr 0 (by simp)
     rcases zVX (j:=j) (by
      rw[List.length_append,List.length_take,List.length_take,show min pars args.length+min v own.length=pars+(v+0) by omega]
      simpa using hsc) (fun d j=>zYY (by decide)) h with h|⟨x,hx,h⟩|h
     ·exact .inr (.inl h)
     ·rcases List.mem_append.1 hx with hx|hx
      ·exact .inr (.inl ⟨x,List.mem_of_mem_take hx,h⟩)
      ·exact .inr (.inr ⟨x,List.mem_of_mem_take hx,h⟩)
     ·exact .inr (.inr (zQz h))
   ·exact .inl h
  ·exact .inr (.inl h)
  ·exact .inr (.inr h)
theorem zVY{l:List yI}{t:Tm}{of b:Int}{n:Nat}(h:∀j,j∈sF t 0->j<n):zFH (zAG l t of b) n:=by
 unfold zAG
 split
 ·rename_i a
  have hw:=cE (t:=t) (l:=(yX t).1) (y:=(yX t).2.1) (by rw[←a.1])
  have hy:=(zO (qS (t:=t) (l:=(yX t).1) (y:=(yX t).2.1) (by rw[←a.1])).2.2.2.2.1).2.2
  refine⟨fun i hi j hj=>?_,fun x hx j hj=>?_⟩
  ·exact h j ((zCU _ _ _ hw.1 hw.2 0 j).2 i hi (by rwa[Int.zero_add]))
  ·exact h j ((zCU _ _ _ hw.1 hw.2 0 j).1 (by rw[Int.zero_add];exact(G5 _ hy _ j).2 x (List.mem_of_mem_drop hx) hj))
 ·exact⟨fun i hi=>by simp at hi,fun x hx=>(nomatch hx)⟩
theorem zJV{l:List yI}{of:Int}:∀(r:List Tm) (B:Int) (b:Nat),(∀(i:Nat) (h:i<r.length),∀j,j∈sF r[i] 0->j<(b+i:Nat))->∀(i:Nat) (h:i<(lE l of r B).length),zFH (lE l of r B)[i] (b+i)
 | [],B,b,h,i,hi=>by simp[lE]at hi
 |a::r,B,b,h,0,hi=>by
  simp only[lE,List.getElem_cons_zero]
  exact zVY fun j hj=>h 0 (by simp) j (by simpa using hj)
 |a::r,B,b,h,i+1,hi=>by
  simp only[lE,List.getElem_cons_succ]
  have:=zJV (l:=l) (of:=of) r (B+1) (b+1) (fun i hi j hj=>by
   have:=h (i+1) (by simp;omega) j (by simpa using hj)
   omega) i (by simpa[lE]using hi)
  rw[show b+(i+1)=b+1+i by omega]
  exact this
theorem zQy{N:ByteArray->Bool}{l:List yI}{i:Int}(hE:wP N l)(h0:0≤i)(h1:i<l.length)(hk:(ent l i).kind=2):∀(v:Nat) (h:v<(vL l i).recs.length),zFH (vL l i).recs[v] ((ent l i).pars.toNat+v):=by
 obtain⟨A,y,hw,hy,hA,hAp,hA24,p0,p1,-⟩:=tX hE h0 h1 hk
 have hc:=(xD (hE.2 i h0 h1)).1
 have hs:=cE hw
 have hsc:∀(n:Nat) (h:n<(A.drop (ent l i).pars.toNat).length),∀j,j∈sF (A.drop (ent l i).pars.toNat)[n] 0->j<((ent l i).pars.toNat+n:Nat):=fun n h j hj=>by
  rw[List.getElem_drop]at hj
  have hn:(ent l i).pars.toNat+n<A.length:=by simp at h;omega
  have hj0:=o7 _ _ _ hj
  rcases Int.lt_or_le j (((ent l i).pars.toNat+n:Nat):Int)with hlt|hge
  ·exact hlt
  ·have h2:j-(((ent l i).pars.toNat+n:Nat):Int)∈sF A[(ent l i).pars.toNat+n] (0+(((ent l i).pars.toNat+n:Nat):Int)):=(jQ _ 0 _ _ (by omega)).2 ⟨by omega,by rwa[show j-(((ent l i).pars.toNat+n:Nat):Int)+(((ent l i).pars.toNat+n:Nat):Int)=j by omega]⟩
   have h3:=(zCU _ _ _ hs.1 hs.2 0 _).2 _ hn h2
   exact absurd h3 (zBb hc 0 _ (Int.le_refl 0))
 have hr:=zJV (l:=l) (of:=(ent l i).fam) (A.drop (ent l i).pars.toNat) (ent l i).pars (ent l i).pars.toNat hsc
 have e:(vL l i).recs=lE l (ent l i).fam (A.drop (ent l i).pars.toNat) (ent l i).pars:=by
  unfold vL
  rw[hw]
 intro v h
 have:=hr v (by rw[←e];exact h)
 simpa[e]using this
theorem zTs{N:ByteArray->Bool}{l:List yI}{d lev c:Int}{args own:List Tm}{j:Int}(hE:wP N l)(hc:aN l c 2=true)(hf:(ent l c).fam=d)(ha:(args.length:Int)=(ent l d).pars+1+(ent l d).cons.length)(ho:own.length=(vL l c).args.length)(h:j∈sF (G9 l d lev c args own) 0):(∃x∈args,j∈sF x 0)∨∃x∈own,j∈sF x 0:=by
 have hi:=tM hc
 obtain⟨A,y,hw,hy,hA,hAp,hA24,p0,p1,f0,f1,fk,fp,-⟩:=tX hE hi.1 hi.2.1 hi.2.2
 rw[hf]at fp
 have hlen:(vL l c).recs.length=(vL l c).args.length:=by unfold vL;exact O6 l _ _ _
 have hsc:=zQy hE hi.1 hi.2.1 hi.2.2
 rcases zFI (pars:=(ent l d).pars.toNat) (by omega) _ 0 _ (by omega) (fun i hi=>by
  have:=hsc i hi
  rwa[fp,show (ent l d).pars.toNat+i=(ent l d).pars.toNat+(0+i) by omega]at this) h with h|h
 ·rcases(zBc _ _ _ _).1 h with h|h
  ·exact .inl (zQz h)
  ·exact .inr h
 ·exact h
def H2(qq:Nat)(q0 q1 p1:Int):Option (Int×Int):=
 some ((xL (q0+p1)),(xL (q0+p1)))
theorem zQx{qq q0 q1 p1 r}(h:H2 qq q0 q1 p1=some r):Ct 173 [.cells [ai q0,ai q1]] [.mp 0 0,ai p1] (ai r.1) [.cells [ai r.2,ai q1]] 0:=⟨by
 unfold H2 at h
 cases h
 exact tF ⟨func173,rfl⟩ 1 [0] (o0),⟨(lz rfl),tv,tv⟩,(zA ⟨tv,tv,tv⟩ zB),tv,(zA ⟨tv,tv,tv⟩ zB)⟩
def H3(qq:Nat)(q0 q1 p1:Int):Option (Int×Int):=
 some ((xL (q1+p1)),(xL (q1+p1)))
theorem zQw{qq q0 q1 p1 r}(h:H3 qq q0 q1 p1=some r):Ct 173 [.cells [ai q0,ai q1]] [.mp 0 1,ai p1] (ai r.1) [.cells [ai q0,ai r.2]] 0:=⟨by
 unfold H3 at h
 cases h
 exact tF ⟨func173,rfl⟩ 1 [0] (o0),⟨(lz rfl),tv,tv⟩,(zA ⟨tv,tv,tv⟩ zB),tv,(zA ⟨tv,tv,tv⟩ zB)⟩
def V6(qq:Nat)(q0 q1:Int):Option Int:=
 some q0
theorem zTr{qq q0 q1 r}(h:V6 qq q0 q1=some r):Ct 86 [.cells [ai q0,ai q1]] [.mp 0 0] (ai r) [.cells [ai q0,ai q1]] 0:=⟨by
 unfold V6 at h
 obtain rfl:=sj h
 exact tF ⟨func86,rfl⟩ 1 [0] (o0),⟨(lz rfl),tv⟩,(zA ⟨tv,tv,tv⟩ zB),tv,(zA ⟨tv,tv,tv⟩ zB)⟩
def zTq(qq:Nat)(fl fu p1:Int):Option (Int×Int×Int):=
 if decide (p1<0)then
 some (8,fl,fu)
 else
 V6 qq fl fu>>=fun r2=>
 if decide (p1>r2)then
 some (8,fl,fu)
 else
 H2 qq fl fu (xL (0-p1))>>=fun r5=>
 H3 qq r5.2 fu p1>>=fun r7=>
 some (0,r5.2,r7.2)
theorem zVZ:Qf 135 f135:=⟨func135,rfl⟩
theorem yBK{qq fl fu p1 r}(h:zTq qq fl fu p1=some r):Ct 135 [.cells [ai fl,ai fu]] [.mp 0 0,ai p1] (ai r.1) [.cells [ai r.2.1,ai r.2.2]] 0:=⟨by
 unfold zTq at h
 obtain⟨h1,h⟩|⟨h1,h⟩:=zU h
 cases h
 exact tF zVZ 0 [0] (oB 1 h1 o0)
 obtain⟨r2,h3,h⟩:=zC h
 have k:=oC 0 [0] (zTr h3)<|oB 1 h1 o0
 obtain⟨h4,h⟩|⟨h4,h⟩:=zU h
 cases h
 exact tF zVZ 0 [0] (oB 0 h4 k)
 obtain⟨r5,h6,h⟩:=zC h
 obtain⟨r7,h8,h⟩:=zC h
 cases h
 exact tF zVZ 0 [0] (oC 0 [0] (zQw h8)<|oC 1 [0] (zQx h6)<|oB 0 h4 k),⟨(lz rfl),tv,tv⟩,(zA ⟨tv,tv,tv⟩ zB),tv,(zA ⟨tv,tv,tv⟩ zB)⟩
def zCZ(qq:Nat)(M:wA)(p1:Tm):Option Int:=
 if p1.k != 6 then
 some 0
 else
 if decide (p1.n≥(M.l.length:Int))then
 some 0
 else
 zW M.l p1.n>>=fun x3=>
 some x3.kind
theorem zWz:Qf 209 f209:=⟨func209,rfl⟩
theorem zQv{qq M p1 r}(h:zCZ qq M p1=some r):Ct 209 [mB M 1,mR M] [.mp 0 0,yY p1] (ai r) [mB M 1,mR M] 0:=⟨by
 unfold zCZ at h
 obtain⟨h1,h⟩|⟨h1,h⟩:=zU h
 obtain rfl:=sj h
 exact tF zWz 0 [0,1] (sP M<|oB 1 h1 o0)
 have k:=oB 1 h1 o0
 obtain⟨h2,h⟩|⟨h2,h⟩:=zU h
 obtain rfl:=sj h
 exact tF zWz 0 [0,1] (sP M<|oB 3 h2 k)
 obtain⟨x3,h4,h⟩:=zC h
 obtain rfl:=sj h
 exact tF zWz 1 [0,1] (sP M<|oA 2 (wI (o:=.no) h4)<|oB 3 h2 k),⟨(lz rfl),⟨tv,tv,⟨tv,dT _⟩,tv⟩,tv⟩,(nW (lz rfl) zB),tv,(pW (lz rfl) zB)⟩
def O9(qq:Nat)(p0:Tm):Option (Tm×Int):=
 bI qq p0>>=fun r1=>
 if r1 then
 some (p0,0)
 else
 some ((Tm.mk 0 0 []),2)
theorem zZw:Qf 212 f212:=⟨func212,rfl⟩
theorem zIs{qq p0 r}(h:O9 qq p0=some r):Ct 212 [] [yY p0] (.tup [yY r.1,ai r.2]) [] 0:=⟨by
 unfold O9 at h
 obtain⟨r1,h2,h⟩:=zC h
 obtain⟨h3,h⟩|⟨h3,h⟩:=zU h
 cases h
 exact tF zZw 3 [] (oD (dT p0.sub)<|oK 1 [] h3 (nC h2) o0)
 cases h
 exact tF zZw 2 [] (oD (dT ([]:yM))<|oK 1 [] h3 (nC h2) o0),⟨⟨tv,tv,⟨tv,dT _⟩,tv⟩,tv⟩,zB,⟨⟨tv,tv,dT _,tv⟩,tv,tv⟩,zB⟩
def zIr(qq:Nat)(M:wA)(p1:Tm):Option (Int×yM×Bool):=
 u6 qq p1>>=fun r1=>
 zCZ qq M r1.1>>=fun r3=>
 if r3 != 2 then
 some (0,[],false)
 else
 zW M.own r1.1.n>>=fun x6=>
 if (r1.2.length:Int) != x6 then
 some (0,[],false)
 else
 some (r1.1.n,r1.2,true)
theorem zWy:Qf 213 f213:=⟨func213,rfl⟩
theorem zWx{qq M p1 r}(h:zIr qq M p1=some r):Ct 213 [mB M 1,mR M] [.mp 0 0,yY p1] (.tup [ai r.1,.sl (zG zD r.2.1) r.2.1.length .no,ab r.2.2]) [mB M 1,mR M] 0:=⟨by
 unfold zIr at h
 obtain⟨r1,h2,h⟩:=zC h
 obtain⟨r3,h4,h⟩:=zC h
 have k:=oC 4 [0,1] (zQv h4)<|oC 1 [] (zHG h2) o0
 obtain⟨h5,h⟩|⟨h5,h⟩:=zU h
 cases h
 exact tF zWy 0 [0,1] (oD (dT ([]:yM))<|sP M<|oB 0 h5 k)
 obtain⟨x6,h7,h⟩:=zC h
 have k:=oA 3 (nI (o:=.no) h7)<|oB 0 h5 k
 obtain⟨h8,h⟩|⟨h8,h⟩:=zU h
 cases h
 exact tF zWy 0 [0,1] (oD (dT ([]:yM))<|sP M<|oB 1 h8 k)
 cases h
 exact tF zWy 1 [0,1] (oD (dT r1.2)<|sP M<|oB 1 h8 k),⟨(lz rfl),⟨tv,tv,⟨tv,dT _⟩,tv⟩,tv⟩,(nW (lz rfl) zB),⟨tv,dT _,tv,tv⟩,(pW (lz rfl) zB)⟩
def e98(qq:Nat)(fl fu:Int):Option (Int×Int×Int):=
 zTq qq fl fu 1>>=fun r1=>
 some (r1.1,r1.2.1,r1.2.2)
theorem c98{qq fl fu r}(h:e98 qq fl fu=some r):Ct 98 [.cells [ai fl,ai fu]] [.mp 0 0] (ai r.1) [.cells [ai r.2.1,ai r.2.2]] 0:=⟨by
 unfold e98 at h
 obtain⟨r1,h2,h⟩:=zC h
 cases h
 exact tF ⟨func98,rfl⟩ 0 [0] (oC 0 [0] (yBK h2) o0),⟨(lz rfl),tv⟩,(zA ⟨tv,tv,tv⟩ zB),tv,(zA ⟨tv,tv,tv⟩ zB)⟩
def zZv{ρ:Type}(f:Int->Int->Nat->Option ρ)(er:ρ->Int)(R:Int->Int->ρ)(k:Int):Prop:=
 (∀L U,k≤L->0≤U->L+U≤1099511627776->zJ (f L U) (R (L-k) (U+k)))∧(∀L U,0≤L->L<k->0≤U->L+U≤1099511627776->∃r,zJ (f L U) r∧er r=8)
def zWw{ρ:Type}(f:Int->Int->Nat->Option ρ)(er:ρ->Int)(l:Int):Prop:=∀U,0≤U->l+U≤1099511627776->∃r,zJ (f l U) r∧er r=8
def Ou{ρ:Type}(f:Int->Int->Nat->Option ρ)(er:ρ->Int)(Q:(Int->Int->ρ)->Int->Prop)(S:Prop)(l:Int):Prop:=
 (∃R k,0≤k∧k≤l∧Q R k∧zZv f er R k)∨(zWw f er l∧S)
section
variable {ρ σ τ:Type} {er:ρ->Int} {er':σ->Int} {Q:(Int->Int->ρ)->Int->Prop} {Q':(Int->Int->σ)->Int->Prop} {S S':Prop} {l:Int}
theorem Ou.imp{f g:Int->Int->Nat->Option ρ}(h:Ou f er Q S l)(k:∀L U r,zJ (f L U) r->zJ (g L U) r):Ou g er Q S l:=by
 rcases h with⟨R,n,h0,h1,h2,h3,h4⟩|⟨h,s⟩
 ·exact .inl ⟨R,n,h0,h1,h2,fun L U a b c=>k _ _ _ (h3 L U a b c),fun L U a b c d=>by obtain⟨r,x,y⟩:=h4 L U a b c d;exact⟨r,k _ _ _ x,y⟩⟩
 ·exact .inr ⟨fun U a b=>by obtain⟨r,x,y⟩:=h U a b;exact⟨r,k _ _ _ x,y⟩,s⟩
theorem Ou.mono{f:Int->Int->Nat->Option ρ}{Q2:(Int->Int->ρ)->Int->Prop}(h:Ou f er Q S l)(k:∀R n,0≤n->n≤l->Q R n->Q2 R n)(hs:S->S'):Ou f er Q2 S' l:=by
 rcases h with⟨R,n,h0,h1,h2,h3⟩|⟨h,s⟩
 ·exact .inl ⟨R,n,h0,h1,k R n h0 h1 h2,h3⟩
 ·exact .inr ⟨h,hs s⟩
theorem Ou.succ{f:Int->Int->Nat->Option ρ}(h:Ou (fun L U q=>f L U (q+1)) er Q S l):Ou f er Q S l:=h.imp fun _ _ _ h=>h.succ
theorem Ou.pure{x:Option τ}{a:τ}{c:Int->Int->Nat->τ->Option ρ}(h:x=some a)(g:Ou (fun L U q=>c L U q a) er Q S l):Ou (fun L U q=>x>>=c L U q) er Q S l:=g.imp fun _ _ _ k=>zJ.pure h k
theorem Ou.evt{x:Nat->Option τ}{a:τ}{c:Int->Int->Nat->τ->Option ρ}(h:zJ x a)(g:Ou (fun L U q=>c L U q a) er Q S l):Ou (fun L U q=>x q>>=c L U q) er Q S l:=g.imp fun _ _ _ k=>zJ.bind h k
theorem Ou.ite{b:Bool}{f g:Int->Int->Nat->Option ρ}(h:b=true->Ou f er Q S l)(k:b=false->Ou g er Q S l):Ou (fun L U q=>if b=true then f L U q else g L U q) er Q S l:=by
 cases b with
 |true=>exact(h rfl).imp fun _ _ _ x=>zJ.ifT rfl x
 |false=>exact(k rfl).imp fun _ _ _ x=>zJ.ifF rfl x
theorem Ou.ifT{b:Bool}{f g:Int->Int->Nat->Option ρ}(h:b=true)(k:Ou f er Q S l):Ou (fun L U q=>if b=true then f L U q else g L U q) er Q S l:=Ou.ite (fun _=>k) fun h'=>by rw[h]at h';cases h'
theorem Ou.ifF{b:Bool}{f g:Int->Int->Nat->Option ρ}(h:b=false)(k:Ou g er Q S l):Ou (fun L U q=>if b=true then f L U q else g L U q) er Q S l:=Ou.ite (fun h'=>by rw[h]at h';cases h') fun _=>k
theorem Ou.ret{R:Int->Int->ρ}(h:0≤l)(k:Q R 0):Ou (fun L U _=>some (R L U)) er Q S l:=
 .inl ⟨R,0,by omega,h,k,fun L U _ _ _=>by rw[show L-0=L by omega,show U+0=U by omega];exact zJ.ret,fun L U _ _=>by omega⟩
theorem Ou.bind{f:Int->Int->Nat->Option ρ}{c:Nat->ρ->Option σ}(h:Ou f er Q S l)(hs:S->S')(he:∀r,er r=8->∃r',zJ (fun q=>c q r) r'∧er' r'=8)
  (hg:∀R k,0≤k->k≤l->Q R k->Ou (fun L U q=>c q (R L U)) er' (fun R' n=>Q' R' (k+n)) S' (l-k)):Ou (fun L U q=>f L U q>>=c q) er' Q' S' l:=by
 rcases h with⟨R,k,h0,h1,h2,h3,h4⟩|⟨h,s⟩
 ·rcases hg R k h0 h1 h2 with⟨R',n,g0,g1,g2,g3,g4⟩|⟨g,s⟩
  ·refine .inl ⟨R',k+n,by omega,by omega,g2,fun L U a b c=>?_,fun L U a b c d=>?_⟩
   ·have:=g3 (L-k) (U+k) (by omega) (by omega) (by omega)
    rw[show L-(k+n)=L-k-n by omega,show U+(k+n)=U+k+n by omega]
    exact(h3 L U (by omega) b c).bind this
   ·by_cases e:L<k
    ·obtain⟨r,x,y⟩:=h4 L U a e c d
     obtain⟨r',x',y'⟩:=he r y
     exact⟨r',x.bind x',y'⟩
    ·obtain⟨r',x',y'⟩:=g4 (L-k) (U+k) (by omega) (by omega) (by omega) (by omega)
     exact⟨r',(h3 L U (by omega) c d).bind x',y'⟩
  ·refine .inr ⟨fun U a b=>?_,s⟩
   obtain⟨r',x',y'⟩:=g (U+k) (by omega) (by omega)
   exact⟨r',(h3 l U h1 a b).bind x',y'⟩
 ·refine .inr ⟨fun U a b=>?_,hs s⟩
  obtain⟨r,x,y⟩:=h U a b
  obtain⟨r',x',y'⟩:=he r y
  exact⟨r',x.bind x',y'⟩
end
theorem H4(L U:Int)(h0:0≤L)(h1:0≤U)(h2:L+U≤1099511627776):zJ (fun q=>e98 q L U) (if 1≤L then(0,L-1,U+1)else(8,L,U)):=by
 simp only[e98,zTq,V6,H2,H3]
 refine zJ.bind (a:=if 1≤L then(0,L-1,U+1)else(8,L,U)) ?_ zJ.ret
 refine zJ.ifF (by decide) (zJ.pure rfl ?_)
 by_cases h:1≤L
 ·rw[if_pos h]
  refine zJ.ifF (decide_eq_false (by omega)) (zJ.pure rfl (zJ.pure rfl (zJ.ret.eq ?_)))
  have e:xL (0-1) = -1:=by decide
  rw[e,yW (x:=U+1) (by omega) (by omega)]
  show ((0:Int),xL (L + -1),U+1)=_
  rw[yW (by omega) (by omega)];rfl
 ·rw[if_neg h]
  exact zJ.ifT (decide_eq_true (by omega)) zJ.ret
theorem zTp(l:Int)(h:0≤l):Ou (fun L U q=>e98 q L U) (fun r=>r.1) (fun R k=>k=1∧R=fun L U=>(0,L,U)) (l<1) l:=by
 by_cases h1:1≤l
 ·refine .inl ⟨fun L U=>(0,L,U),1,by omega,h1,⟨rfl,rfl⟩,fun L U a b c=>(H4 L U (by omega) b c).eq (if_pos a),fun L U a b c d=>⟨_,H4 L U a c d,?_⟩⟩
  rw[if_neg (by omega)]
 ·refine .inr ⟨fun U a b=>⟨_,H4 l U h a b,?_⟩,by omega⟩
  rw[if_neg h1]
def wH(l:List yI)(t:Tm):Int:=if t.k=6 then(if t.n<l.length then(ent l t.n).kind else 0)else 0
theorem eO(l:List yI)(t:Tm)(h:0≤t.n):zJ (fun q=>zCZ q (wW l) t) (wH l t):=by
 simp only[zCZ,wW]
 unfold wH
 by_cases k:t.k=6
 ·rw[if_pos k]
  refine zJ.ifF (by simp[k]) ?_
  by_cases n:t.n<l.length
  ·rw[if_pos n];exact zJ.ifF (decide_eq_false (by omega)) (zJ.pure (yT h n) zJ.ret)
  ·rw[if_neg n];exact zJ.ifT (decide_eq_true (by omega)) zJ.ret
 ·rw[if_neg k];exact zJ.ifT (by simp[k]) zJ.ret
theorem wD{l:List yI}{t:Tm}{k:Int}(h:wH l t=k)(hk:k≠0):t.k=6∧t.n<l.length∧(ent l t.n).kind=k:=by
 unfold wH at h
 split at h
 ·rename_i a
  split at h
  ·rename_i b;exact⟨a,b,h⟩
  ·exact absurd h.symm hk
 ·exact absurd h.symm hk
def zWv(t:Tm):Tm×Int:=if zH t=true then(t,0)else(zT,2)
theorem zIp(t:Tm)(ho:t.Ok):zJ (fun q=>O9 q t) (zWv t):=by
 simp only[O9]
 refine(xN t ho).bind ?_
 unfold zWv
 by_cases h:zH t=true
 ·rw[if_pos h,if_pos h];exact zJ.ret
 ·rw[if_neg h,if_neg h];exact zJ.ret
theorem kY{t:Tm}(h:xB t=true):0≤t.n:=by
 obtain⟨k,n,l⟩:=t
 exact(kV (wF h).1).1
theorem zTo{l:List yI}{i:Int}(h0:0≤i)(h1:i<l.length):zW (wW l).own i=some (rX (ent l i)):=by
 have h:=yT (l:=l) h0 h1
 unfold zW at h ⊢
 rw[if_pos h0]at h ⊢
 show (l.map rX)[i.toNat]? = _
 rw[List.getElem?_map,h];rfl
theorem zQu{l:List yI}{i:Int}(h0:0≤i)(h1:i<l.length):zW (wW l).args i=some (wG (ent l i)):=by
 have h:=yT (l:=l) h0 h1
 unfold zW at h ⊢
 rw[if_pos h0]at h ⊢
 show (l.map wG)[i.toNat]? = _
 rw[List.getElem?_map,h];rfl
def xV(l:List yI)(t:Tm):Prop:=wH l (yF t)=2∧(yS t).length=vP (ent l (yF t).n).type
instance (l:List yI) (t:Tm):Decidable (xV l t):=inferInstanceAs (Decidable (_∧_))
def gP(l:List yI)(t:Tm):Int×List Tm×Bool:=if xV l t then((yF t).n,yS t,true)else(0,[],false)
theorem V7(l:List yI)(t:Tm)(hs:zH t=true):zJ (fun q=>zIr q (wW l) t) (gP l t):=by
 simp only[zIr]
 have hn:=kY (zO (uP hs)).2.2
 refine(jL t hs).bind ((eO l _ hn).bind ?_)
 by_cases h:wH l (yF t)=2
 ·have hk:=wD h (by decide)
  refine zJ.ifF (by simp[h]) (zJ.pure (zTo hn hk.2.1) ?_)
  have e:rX (ent l (yF t).n)=vP (ent l (yF t).n).type:=by unfold rX;rw[if_pos hk.2.2]
  by_cases h2:(yS t).length=vP (ent l (yF t).n).type
  ·have c:gP l t=((yF t).n,yS t,true):=if_pos ⟨h,h2⟩
   rw[c]
   exact zJ.ifF (by rw[e];simp[h2]) zJ.ret
  ·have c:gP l t=(0,[],false):=if_neg (fun h'=>h2 h'.2)
   rw[c]
   exact zJ.ifT (by rw[e];simp;omega) zJ.ret
 ·have c:gP l t=(0,[],false):=if_neg (fun h'=>h h'.1)
  rw[c]
  exact zJ.ifT (by simp[h]) zJ.ret
theorem uB{l:List yI}{t:Tm}(hs:zH t=true)(h:xV l t):0≤(yF t).n∧(yF t).n<l.length∧(ent l (yF t).n).kind=2∧(yS t).length=vP (ent l (yF t).n).type:=by
 have hk:=wD h.1 (by decide)
 exact⟨kY (zO (uP hs)).2.2,hk.2.1,hk.2.2,h.2⟩
def H5(qq:Nat)(q0:Int)(q1:Bool)(q2 q3 q4:Int)(q5:yM)(p1:Tm)(p2:Int):Option (Tm×Int×Bool):=
 zHB qq p1>>=fun r1=>
 if decide ((xL (q0-r1))<0)then
 zAD qq 0>>=fun r4=>
 some (r4,(xL (q0-r1)),true)
 else
 zFz qq p1 p2>>=fun r6=>
 if r6.2 != 0 then
 zAD qq 0>>=fun r9=>
 some (r9,(xL (q0-r1)),true)
 else
 some (r6.1,(xL (q0-r1)),q1)
theorem zDz:Qf 82 f82:=⟨func82,rfl⟩
theorem zTn{qq q0 q1 q2 q3 q4 q5 p1 p2 r}(h:H5 qq q0 q1 q2 q3 q4 q5 p1 p2=some r):Ct 82 [.cells [ai q0,ab q1,.clo 81 [] [.mp 1 0,.mp 2 0,.mp 3 0]],.cells [ai q2],.cells [.mp 0 0],.cells [ai q3,ai q4,zV zD q5 .no]] [.mp 0 0,yY p1,ai p2] (yY r.1) [.cells [ai r.2.1,ab r.2.2,.clo 81 [] [.mp 1 0,.mp 2 0,.mp 3 0]],.cells [ai q2],.cells [.mp 0 0],.cells [ai q3,ai q4,zV zD q5 .no]] 0:=⟨by
 unfold H5 at h
 obtain⟨r1,h2,h⟩:=zC h
 have k:=oC 1 [] (zVk h2)<|aH 0 o0
 obtain⟨h3,h⟩|⟨h3,h⟩:=zU h
 obtain⟨r4,h5,h⟩:=zC h
 cases h
 exact tF zDz 1 [0,1,2,3] (oD (dT r4.sub)<|oD (dT q5)<|oC 1 [] (zHI h5)<|oB 3 h3 k)
 obtain⟨r6,h7,h⟩:=zC h
 have k:=oC 1 [] (zSt h7)<|oB 3 h3 k
 obtain⟨h8,h⟩|⟨h8,h⟩:=zU h
 obtain⟨r9,h10,h⟩:=zC h
 cases h
 exact tF zDz 1 [0,1,2,3] (oD (dT r9.sub)<|oD (dT q5)<|oC 1 [] (zHI h10)<|oB 3 h8 k)
 cases h
 exact tF zDz 2 [0,1,2,3] (oD (dT r6.1.sub)<|oD (dT q5)<|oB 3 h8 k),⟨(lz rfl),⟨tv,tv,⟨tv,dT _⟩,tv⟩,tv,tv⟩,(zA ⟨tv,tv,⟨tv,⟨(lz rfl),(lz rfl),(lz rfl),tv⟩⟩,tv⟩ (zA ⟨tv,tv⟩ (zA ⟨(lz rfl),tv⟩ (zA ⟨tv,tv,⟨tv,dT _⟩,tv⟩ zB)))),⟨tv,tv,dT _,tv⟩,(zA ⟨tv,tv,⟨tv,⟨(lz rfl),(lz rfl),(lz rfl),tv⟩⟩,tv⟩ (zA ⟨tv,tv⟩ (zA ⟨(lz rfl),tv⟩ (zA ⟨tv,tv,dT _,tv⟩ zB))))⟩
def H6(qq:Nat)(p0:Tm)(p1 q2 q3:Int)(q4:Bool)(q5 q6:Int)(q7:yM):Option (Tm×Bool×Int×Bool):=
 if p0.k != 8 then
 some ((Tm.mk 0 0 []),false,q3,q4)
 else
 if p0.n != q2 then
 some ((Tm.mk 0 0 []),false,q3,q4)
 else
 H5 qq q3 q4 q2 q5 q6 q7 (Tm.mk q5 q6 q7) p1>>=fun r3=>
 some (r3.1,true,r3.2.1,r3.2.2)
theorem zDy:Qf 81 f81:=⟨func81,rfl⟩
theorem zTm{qq p0 p1 q2 q3 q4 q5 q6 q7 r}(h:H6 qq p0 p1 q2 q3 q4 q5 q6 q7=some r):Ct 81 [.cells [ai q2],.cells [.mp 2 0],.cells [ai q3,ab q4,.clo 81 [] [.mp 0 0,.mp 1 0,.mp 3 0]],.cells [ai q5,ai q6,zV zD q7 .no]] [yY p0,ai p1,.mp 0 0,.mp 1 0,.mp 3 0] (.tup [yY r.1,ab r.2.1]) [.cells [ai q2],.cells [.mp 2 0],.cells [ai r.2.2.1,ab r.2.2.2,.clo 81 [] [.mp 0 0,.mp 1 0,.mp 3 0]],.cells [ai q5,ai q6,zV zD q7 .no]] 0:=⟨by
 unfold H6 at h
 obtain⟨h1,h⟩|⟨h1,h⟩:=zU h
 cases h
 exact tF zDy 1 [0,1,2,3] (oD (dT ([]:yM))<|oD (dT q7)<|oB 1 h1 o0)
 have k:=oB 1 h1 o0
 obtain⟨h2,h⟩|⟨h2,h⟩:=zU h
 cases h
 exact tF zDy 1 [0,1,2,3] (oD (dT ([]:yM))<|oD (dT q7)<|oB 2 h2 k)
 obtain⟨r3,h4,h⟩:=zC h
 cases h
 exact tF zDy 1 [0,1,2,3] (oD (dT r3.1.sub)<|oD (dT q7)<|oC 2 [2,0,1,3] (zTn h4)<|oB 2 h2 k),⟨⟨tv,tv,⟨tv,dT _⟩,tv⟩,tv,(lz rfl),(lz rfl),(lz rfl),tv⟩,(zA ⟨tv,tv⟩ (zA ⟨(lz rfl),tv⟩ (zA ⟨tv,tv,⟨tv,⟨(lz rfl),(lz rfl),(lz rfl),tv⟩⟩,tv⟩ (zA ⟨tv,tv,⟨tv,dT _⟩,tv⟩ zB)))),⟨⟨tv,tv,dT _,tv⟩,tv,tv⟩,(zA ⟨tv,tv⟩ (zA ⟨(lz rfl),tv⟩ (zA ⟨tv,tv,⟨tv,⟨(lz rfl),(lz rfl),(lz rfl),tv⟩⟩,tv⟩ (zA ⟨tv,tv,dT _,tv⟩ zB))))⟩
mutual
def pI:Nat->Int->Bool->Int->Int->Int->yM->Tm->Int->Option (Tm×Int×Bool)
 |0,_,_,_,_,_,_,_,_=>none
 |qq+1,q0,q1,q2,q3,q4,q5,p1,p2=>
 if q1 then
 zAD qq 0>>=fun r2=>
 some (r2,q0,q1)
 else
 H6 qq p1 p2 q2 q0 q1 q3 q4 q5>>=fun r4=>
 if r4.2.1 then
 some (r4.1,r4.2.2.1,r4.2.2.2)
 else
 if decide ((xL (r4.2.2.1-1))<0)then
 uI qq q2 q3 q4 q5 p1 p2 0 (xL (r4.2.2.1-1)) true []
 else
 uI qq q2 q3 q4 q5 p1 p2 0 (xL (r4.2.2.1-1)) r4.2.2.2 []
def uI:Nat->Int->Int->Int->yM->Tm->Int->Int->Int->Bool->yM->Option (Tm×Int×Bool)
 |0,_,_,_,_,_,_,_,_,_,_=>none
 |qq+1,q2,q3,q4,q5,p1,p2,v53,yE,wC,H7=>
 if decide (v53<(p1.sub.length:Int))then
 zW p1.sub v53>>=fun x9=>
 if v53==1 then
 if p1.k != 5 then
 pI qq yE wC q2 q3 q4 q5 x9 (xL (p2+1))>>=fun r13=>
 xF 40 H7 [r13.1]>>=fun l15=>
 uI qq q2 q3 q4 q5 p1 p2 (xL (v53+1)) r13.2.1 r13.2.2 l15
 else
 pI qq yE wC q2 q3 q4 q5 x9 p2>>=fun r17=>
 xF 40 H7 [r17.1]>>=fun l19=>
 uI qq q2 q3 q4 q5 p1 p2 (xL (v53+1)) r17.2.1 r17.2.2 l19
 else
 pI qq yE wC q2 q3 q4 q5 x9 p2>>=fun r21=>
 xF 40 H7 [r21.1]>>=fun l23=>
 uI qq q2 q3 q4 q5 p1 p2 (xL (v53+1)) r21.2.1 r21.2.2 l23
 else
 some ((Tm.mk p1.k p1.n H7),yE,wC)
end
abbrev H8 (q0:Int) (q1:Bool) (q2 q3 q4:Int) (q5:yM) (p1:Tm) (p2:Int) (r:Tm×Int×Bool) (C:Cf):Prop:=C 109 [.cells [ai q0,ab q1,.clo 81 [] [.mp 1 0,.mp 2 0,.mp 3 0]],.cells [ai q2],.cells [.mp 0 0],.cells [ai q3,ai q4,zV zD q5 .no]] [.mp 0 0,yY p1,ai p2] (yY r.1) [.cells [ai r.2.1,ab r.2.2,.clo 81 [] [.mp 1 0,.mp 2 0,.mp 3 0]],.cells [ai q2],.cells [.mp 0 0],.cells [ai q3,ai q4,zV zD q5 .no]] 0
theorem H9:Qf 109 f109:=⟨func109,rfl⟩
theorem I0{q0 q1 q2 q3 q4 q5 p1 p2 r}(h:H8 q0 q1 q2 q3 q4 q5 p1 p2 r Ci):H8 q0 q1 q2 q3 q4 q5 p1 p2 r Ct:=⟨h,⟨(lz rfl),⟨tv,tv,⟨tv,dT _⟩,tv⟩,tv,tv⟩,(zA ⟨tv,tv,⟨tv,⟨(lz rfl),(lz rfl),(lz rfl),tv⟩⟩,tv⟩ (zA ⟨tv,tv⟩ (zA ⟨(lz rfl),tv⟩ (zA ⟨tv,tv,⟨tv,dT _⟩,tv⟩ zB)))),⟨tv,tv,dT _,tv⟩,(zA ⟨tv,tv,⟨tv,⟨(lz rfl),(lz rfl),(lz rfl),tv⟩⟩,tv⟩ (zA ⟨tv,tv⟩ (zA ⟨(lz rfl),tv⟩ (zA ⟨tv,tv,dT _,tv⟩ zB))))⟩
theorem bA:∀qq:Nat,(∀ {q0 q1 q2 q3 q4 q5 p1 p2 r},pI qq q0 q1 q2 q3 q4 q5 p1 p2=some r->H8 q0 q1 q2 q3 q4 q5 p1 p2 r Ct)∧(∀ {q2 q3 q4 q5 p1 p2 v53 yE wC H7 r},uI qq q2 q3 q4 q5 p1 p2 v53 yE wC H7=some r->(∀j,dL 4 (pt 262069 f109) (sp j 79 0 [(0,.mp 0 0),(2,ai p2),(4,.mp 4 0),(6,.mp 5 0),(9,.mp 6 0),(51,zV zD p1.sub .no),(52,ai (p1.sub.length:Int)),(53,ai v53)]) (⟨[(0,.cells [ai yE,ab wC,.clo 81 [] [.mp 1 0,.mp 2 0,.mp 3 0]]),(1,.cells [ai q2]),(2,.cells [.mp 0 0]),(3,.cells [ai q3,ai q4,zV zD q5 .no]),(4,.cells [ai p1.k,ai p1.n,zV zD p1.sub .no]),(5,.cells [ai 0,ai 0,zV zD ([]:yM) .nl]),(6,.cells [ai p1.k,ai p1.n,zV zD H7 (.st 0 3)])],7,[0],1,[]⟩) (fQ 4 (nQ 4 f109 (yY r.1) [.cells [ai r.2.1,ab r.2.2,.clo 81 [] [.mp 1 0,.mp 2 0,.mp 3 0]],.cells [ai q2],.cells [.mp 0 0],.cells [ai q3,ai q4,zV zD q5 .no]] 0) [.blk 0,.seq (pt 4095 f109)]))):=by
 intro qq
 induction qq with
 |zero=>
  exact⟨fun h=>nn h,fun h=>nn h⟩
 |succ qq ih=>
  obtain⟨P0,pJ⟩:=ih
  refine⟨?_,?_⟩
  intro q0 q1 q2 q3 q4 q5 p1 p2 r h
  rw[pI]at h
  have z {os ob} (k:Oz os ob):=oD (dT p1.sub)<|oD (dT ([]:yM))<|oD (dT ([]:yM))<|oD (dT p1.sub)<|oD (dT q5)<|k
  obtain⟨h1,h⟩|⟨h1,h⟩:=zU h
  obtain⟨r2,h3,h⟩:=zC h
  cases h
  exact I0 (tF H9 1 [0,1,2,3] (oD (dT r2.sub)<|oD (dT q5)<|oC 0 [] (zHI h3)<|oB 0 h1 o0))
  obtain⟨r4,h5,h⟩:=zC h
  have k:=oC 2 [1,2,0,3] (zTm h5)<|oB 0 h1 o0
  obtain⟨h6,h⟩|⟨h6,h⟩:=zU h
  cases h
  exact I0 (tF H9 3 [0,1,2,3] (oD (dT r4.1.sub)<|oD (dT q5)<|oB 1 h6 k))
  have k:=oB 1 h6 k
  obtain⟨h7,h⟩|⟨h7,h⟩:=zU h
  exact I0 (tH H9 6 [(some 7,2,3)] [0,1,2,3,4,5,7] [0] [0,2,4,6,9,51,52,53] (z<|oB 5 h7 k) (pJ h))
  exact I0 (tH H9 5 [(some 7,2,3)] [0,1,2,3,4,5,7] [0] [0,2,4,6,9,51,52,53] (z<|oB 5 h7 k) (pJ h))
  intro q2 q3 q4 q5 p1 p2 v53 yE wC H7 r h
  rw[uI]at h
  have z {os ob} (k:Oz os ob):=oD (dT ([]:yM))<|oD (dT p1.sub)<|oD (dT q5)<|k
  obtain⟨h8,h⟩|⟨h8,h⟩:=zU h
  obtain⟨x9,h10,h⟩:=zC h
  have k:=oA 0 (xH (o:=.no) h10)<|oB 0 h8 o0
  obtain⟨h11,h⟩|⟨h11,h⟩:=zU h
  have k:=oB 2 h11 k
  obtain⟨h12,h⟩|⟨h12,h⟩:=zU h
  obtain⟨r13,h14,h⟩:=zC h
  obtain⟨l15,h16,h⟩:=zC h
  exact fun j=>lH 2 [] [0,1,2,3,4,5,6] [1] [0,2,4,6,9,51,52,53] (oD (dT p1.sub)<|oD (dT l15)<|z<|oP 0 (vE h16 (by simp))<|oS 0 (xO xW [r13.1])<|oC 1 [0,1,2,3] (P0 h14)<|aH 1<|oB 1 h12 k) (pJ h)
  obtain⟨r17,h18,h⟩:=zC h
  obtain⟨l19,h20,h⟩:=zC h
  exact fun j=>lH 2 [] [0,1,2,3,4,5,6] [1] [0,2,4,6,9,51,52,53] (oD (dT p1.sub)<|oD (dT l19)<|z<|oP 0 (vE h20 (by simp))<|oS 0 (xO xW [r17.1])<|oC 1 [0,1,2,3] (P0 h18)<|aH 0<|oB 1 h12 k) (pJ h)
  obtain⟨r21,h22,h⟩:=zC h
  obtain⟨l23,h24,h⟩:=zC h
  exact fun j=>lH 2 [] [0,1,2,3,4,5,6] [1] [0,2,4,6,9,51,52,53] (oD (dT p1.sub)<|oD (dT l23)<|z<|oP 0 (vE h24 (by simp))<|oS 0 (xO xW [r21.1])<|oC 1 [0,1,2,3] (P0 h22)<|aH 0<|oB 2 h11 k) (pJ h)
  cases h
  exact fun j=>lF 2 [0,1,2,3] (oD (dT H7)<|oD (dT q5)<|oB 0 h8 o0)
theorem zQt{qq q0 q1 q2 q3 q4 q5 p1 p2 r}(h:pI qq q0 q1 q2 q3 q4 q5 p1 p2=some r):H8 q0 q1 q2 q3 q4 q5 p1 p2 r Ct:=(bA _).1 h
theorem zFJ:∀ {l:List Tm} {t:Tm},mX l->t.Ok->mX (l++[t])
 | [],t,_,h=>⟨h,trivial⟩
 |a::l,t,h,ht=>⟨h.1,zFJ h.2 ht⟩
def e78(qq:Nat)(p0:Int):Option Bool:=
 if decide (p0≥0)then
 some (decide (p0≤1048576))
 else
 some false
theorem q78:Qf 78 f78:=⟨func78,rfl⟩
theorem c78{qq p0 r}(h:e78 qq p0=some r):Ct 78 [] [ai p0] (ab r) [] 0:=⟨by
 unfold e78 at h
 obtain⟨h1,h⟩|⟨h1,h⟩:=zU h
 cases h
 exact tF q78 1 [] (oB 0 h1 o0)
 cases h
 exact tF q78 0 [] (oB 0 h1 o0),⟨tv,tv⟩,zB,tv,zB⟩
def zDx(qq:Nat)(q0:Int)(q1:Bool)(q2 q3 q4:Int)(q5:yM):Option Unit:=
 some ()
theorem zTl{qq q0 q1 q2 q3 q4 q5 r}(h:zDx qq q0 q1 q2 q3 q4 q5=some r):Ct 80 [.cells [ai q0,ab q1,.val .nilFunc],.cells [ai q2],.cells [ai q3,ai q4,zV zD q5 .no]] [.mp 0 0,.mp 1 0,.mp 2 0] (.clo 81 [] [.mp 1 0,.mp 3 0,.mp 2 0]) [.cells [ai q0,ab q1,.val .nilFunc],.cells [ai q2],.cells [ai q3,ai q4,zV zD q5 .no],.cells [.mp 0 0]] 0:=⟨by
 unfold zDx at h
 cases h
 exact tF ⟨func80,rfl⟩ 0 [0,1,2,3] (oD (dT q5) o0),⟨(lz rfl),(lz rfl),(lz rfl),tv⟩,(zA ⟨tv,tv,tv,tv⟩ (zA ⟨tv,tv⟩ (zA ⟨tv,tv,⟨tv,dT _⟩,tv⟩ zB))),⟨tv,⟨(lz rfl),(lz rfl),(lz rfl),tv⟩⟩,(zA ⟨tv,tv,tv,tv⟩ (zA ⟨tv,tv⟩ (zA ⟨tv,tv,dT _,tv⟩ (zA ⟨(lz rfl),tv⟩ zB))))⟩
def V8(qq:Nat)(p0:Tm)(q1 q2 q3:Int)(q4:yM):Option (Tm×Int):=
 zDx qq 8192 false q1 q2 q3 q4>>=fun r1=>
 pI qq 8192 false q1 q2 q3 q4 p0 0>>=fun r3=>
 if r3.2.2 then
 some ((Tm.mk 0 0 []),2)
 else
 bI qq r3.1>>=fun r6=>
 if r6 then
 some (r3.1,0)
 else
 some ((Tm.mk 0 0 []),2)
theorem zDw:Qf 79 f79:=⟨func79,rfl⟩
theorem zTk{qq p0 q1 q2 q3 q4 r}(h:V8 qq p0 q1 q2 q3 q4=some r):Ct 79 [.cells [ai q1],.cells [ai q2,ai q3,zV zD q4 .no]] [yY p0,.clo 80 [] [.mp 0 0,.mp 1 0]] (.tup [yY r.1,ai r.2]) [.cells [ai q1],.cells [ai q2,ai q3,zV zD q4 .no]] 0:=⟨by
 unfold V8 at h
 obtain⟨r1,h2,h⟩:=zC h
 obtain⟨r3,h4,h⟩:=zC h
 have k:=oC 2 [4,0,5,1] (zQt h4)<|oC 0 [4,0,1] (zTl h2) o0
 obtain⟨h5,h⟩|⟨h5,h⟩:=zU h
 cases h
 exact tF zDw 1 [0,1] (oD (dT ([]:yM))<|oD (dT q4)<|oB 1 h5 k)
 obtain⟨r6,h7,h⟩:=zC h
 have k:=oB 1 h5 k
 obtain⟨h8,h⟩|⟨h8,h⟩:=zU h
 cases h
 exact tF zDw 3 [0,1] (oD (dT r3.1.sub)<|oD (dT q4)<|oK 1 [] h8 (nC h7) k)
 cases h
 exact tF zDw 2 [0,1] (oD (dT ([]:yM))<|oD (dT q4)<|oK 1 [] h8 (nC h7) k),⟨⟨tv,tv,⟨tv,dT _⟩,tv⟩,⟨tv,⟨(lz rfl),(lz rfl),tv⟩⟩,tv⟩,(zA ⟨tv,tv⟩ (zA ⟨tv,tv,⟨tv,dT _⟩,tv⟩ zB)),⟨⟨tv,tv,dT _,tv⟩,tv,tv⟩,(zA ⟨tv,tv⟩ (zA ⟨tv,tv,dT _,tv⟩ zB))⟩
def e54(qq:Nat)(p0 p1:Tm)(p2:Int):Option (Tm×Int):=
 bI qq p0>>=fun r1=>
 if r1 then
 bI qq p1>>=fun r4=>
 if r4 then
 e78 qq p2>>=fun r7=>
 if r7 then
 V8 qq p0 p2 p1.k p1.n p1.sub>>=fun r10=>
 some (r10.1,r10.2)
 else
 some ((Tm.mk 0 0 []),5)
 else
 some ((Tm.mk 0 0 []),5)
 else
 some ((Tm.mk 0 0 []),5)
theorem q54:Qf 54 f54:=⟨func54,rfl⟩
theorem c54{qq p0 p1 p2 r}(h:e54 qq p0 p1 p2=some r):Ct 54 [] [yY p0,yY p1,ai p2] (.tup [yY r.1,ai r.2]) [] 0:=⟨by
 unfold e54 at h
 obtain⟨r1,h2,h⟩:=zC h
 obtain⟨h3,h⟩|⟨h3,h⟩:=zU h
 obtain⟨r4,h5,h⟩:=zC h
 have k:=oK 1 [] h3 (nC h2) o0
 obtain⟨h6,h⟩|⟨h6,h⟩:=zU h
 obtain⟨r7,h8,h⟩:=zC h
 have k:=oK 2 [] h6 (nC h5) k
 obtain⟨h9,h⟩|⟨h9,h⟩:=zU h
 obtain⟨r10,h11,h⟩:=zC h
 cases h
 exact tF q54 3 [] (oD (dT r10.1.sub)<|oC 2 [2,1] (zTk h11)<|oK 2 [] h9 (c78 h8) k)
 cases h
 exact tF q54 2 [] (oD (dT ([]:yM))<|oK 2 [] h9 (c78 h8) k)
 cases h
 exact tF q54 2 [] (oD (dT ([]:yM))<|oK 2 [] h6 (nC h5) k)
 cases h
 exact tF q54 2 [] (oD (dT ([]:yM))<|oK 1 [] h3 (nC h2) o0),⟨⟨tv,tv,⟨tv,dT _⟩,tv⟩,⟨tv,tv,⟨tv,dT _⟩,tv⟩,tv,tv⟩,zB,⟨⟨tv,tv,dT _,tv⟩,tv,tv⟩,zB⟩
mutual
def qM(a:Tm)(n:Int):Tm->Int->Tm
 | .mk k m l,b=>if k=8∧m=n then jM a 0 0 b else .mk k m (naL a n l k 0 b)
def naL(a:Tm)(n:Int):List Tm->Int->Nat->Int->List Tm
 | [],_,_,_=>[]
 |t::l,k,i,b=>qM a n t (xU k i b)::naL a n l k (i+1) b
end
theorem zFK(q0:Int)(q1:Bool)(q2 q3 q4:Int)(q5:List Tm)(a:Tm)(b:Int)(ho:a.Ok):zN (fun q=>H5 q q0 q1 q2 q3 q4 q5 a b) fun r=>r.1.Ok∧(r.2.2=false->q1=false∧r.1=jM a 0 0 b):=by
 simp only[H5]
 refine zN.bind (P:=fun _=>True) ((zCA a ho).tot trivial) fun _ _=>zN.ite (fun _=>?_) fun _=>?_
 ·exact zN.bind (P:=fun y=>y.Ok) ((dZ 0).tot (xX 2 0)) fun y hy=>zN.ret ⟨hy,fun h=>by cases h⟩
 ·refine zN.bind (P:=fun y=>y=tB a b 0) ((zJd a b ho).tot rfl) fun y hy=>zN.ite (fun _=>?_) fun h=>zN.ret ?_
  ·exact zN.bind (P:=fun y=>y.Ok) ((dZ 0).tot (xX 2 0)) fun y hy=>zN.ret ⟨hy,fun h=>by cases h⟩
  ·subst hy
   exact⟨jN a b 0 ho,fun hq=>⟨hq,(eM (by simpa using h)).2.2.2.2⟩⟩
theorem zFL(p0:Tm)(p1 q2 q3:Int)(q4:Bool)(a:Tm)(ho:a.Ok):zN (fun q=>H6 q p0 p1 q2 q3 q4 a.k a.n a.sub) fun r=>r.1.Ok∧(r.2.1=false->¬(p0.k=8∧p0.n=q2)∧r.2.2.1=q3∧r.2.2.2=q4)∧(r.2.1=true->p0.k=8∧p0.n=q2∧(r.2.2.2=false->q4=false∧r.1=jM a 0 0 p1)):=by
 simp only[H6,rD]
 refine zN.ite (fun h=>zN.ret ⟨xX 0 0,fun _=>⟨fun h'=>?_,rfl,rfl⟩,fun h=>by cases h⟩) fun h8=>zN.ite (fun h=>zN.ret ⟨xX 0 0,fun _=>⟨fun h'=>?_,rfl,rfl⟩,fun h=>by cases h⟩) fun hn=>?_
 ·rw[h'.1]at h;simp at h
 ·rw[h'.2]at h;simp at h
 ·exact(zFK _ _ _ _ _ _ a p1 ho).bind fun r hr=>zN.ret ⟨hr.1,fun h=>(by cases h),fun _=>⟨by simpa using h8,by simpa using hn,hr.2⟩⟩
mutual
theorem cF(a:Tm)(ha:a.Ok)(n:Int):∀(t:Tm) (b left:Int) (long:Bool),xB t=true->0≤b->b+t.high≤1152921504606846976->zN (fun q=>pI q left long n a.k a.n a.sub t b) fun r=>r.1.Ok∧(r.2.2=false->long=false∧r.1=qM a n t b)
 | .mk k m l,b,left,long,hg,hb,hb2=>by
  have hh:=wF hg
  have hn:=kV hh.1
  rw[Tm.high]at hb2
  refine zN.succ ?_
  simp only[pI]
  refine zN.ite (fun hl=>zN.bind (P:=fun y=>y.Ok) ((dZ 0).tot (xX 2 0)) fun y hy=>zN.ret ⟨hy,fun h=>by rw[hl]at h;cases h⟩) fun hl=>?_
  refine(zFL (.mk k m l) b n left long a ha).bind fun r hr=>zN.ite (fun h=>zN.ret ⟨hr.1,fun h2=>?_⟩) fun h=>?_
  ·obtain⟨h3,h4,h5⟩:=hr.2.2 h
   refine⟨(h5 h2).1,?_⟩
   rw[qM,if_pos ⟨h3,h4⟩]
   exact(h5 h2).2
  ·obtain⟨h3,h4,h5⟩:=hr.2.1 (by simpa using h)
   have e:qM a n (.mk k m l) b = .mk k m (naL a n l k 0 b):=by rw[qM];exact if_neg h3
   refine zN.ite (fun _=>?_) fun _=>?_
   ·exact(aU a ha n l (.mk k m l) b 0 _ true [] rfl hn.2.2.2.2 hh.2 rfl (by simp) trivial hb (by omega)).mono fun r hr=>⟨hr.1,fun h=>by cases (hr.2 h).1⟩
   ·refine(aU a ha n l (.mk k m l) b 0 _ _ [] rfl hn.2.2.2.2 hh.2 rfl (by simp) trivial hb (by omega)).mono fun r hr=>⟨hr.1,fun h=>⟨by rw[←h5];exact(hr.2 h).1,?_⟩⟩
    rw[(hr.2 h).2,e];rfl
theorem aU(a:Tm)(ha:a.Ok)(n:Int):∀(r:List Tm) (p:Tm) (b:Int) (v:Nat) (left:Int) (long:Bool) (acc:List Tm),p.sub.drop v=r->p.sub.length≤2->wZ r=true->acc.length=v->v≤p.sub.length->mX acc->0≤b->b+1+vQ r≤1152921504606846976->zN (fun q=>uI q n a.k a.n a.sub p b (v:Int) left long acc) fun x=>x.1.Ok∧(x.2.2=false->long=false∧x.1 = .mk p.k p.n (acc++naL a n r p.k v b))
 | [],p,b,v,left,long,acc,hd,hl,hr,hac,hv,hb,h0,h1=>by
  refine zN.succ ?_
  simp only[uI]
  refine zN.ite (fun h=>?_) fun _=>zN.ret ⟨?_,fun h=>⟨h,?_⟩⟩
  ·rw[yH hd]at h;cases h
  ·show (Tm.mk p.k p.n acc).Ok
   rw[Tm.Ok];exact⟨by omega,hb⟩
  ·rw[naL,List.append_nil]
 |t::r,p,b,v,left,long,acc,hd,hl,hr,hac,hv,hb,h0,h1=>by
  have hlt:=yL hd
  have hg:=wB hr
  rw[vQ]at h1
  have next:∀(y:Tm×Int×Bool),y.1.Ok∧(y.2.2=false->long=false∧y.1=qM a n t (xU p.k v b))->zN (fun q=>xF 40 acc [y.1]>>=fun l=>uI q n a.k a.n a.sub p b (xL ((v:Int)+1)) y.2.1 y.2.2 l) fun x=>x.1.Ok∧(x.2.2=false->long=false∧x.1 = .mk p.k p.n (acc++naL a n (t::r) p.k v b)):=fun y hy=>by
   rw[yA v (by omega)]
   refine zN.pure (yK (by simp;omega)) ((aU a ha n r p b (v+1) _ _ _ (zY hd) hl hg.2 (by simp;omega) hlt (zFJ hb hy.1) h0 (by omega)).mono fun x hx=>⟨hx.1,fun h=>?_⟩)
   obtain⟨h2,h3⟩:=hx.2 h
   obtain⟨h4,h5⟩:=hy.2 h2
   refine⟨h4,?_⟩
   rw[h3,h5,naL];simp
  refine zN.succ ?_
  simp only[uI]
  refine zN.ite (fun _=>zN.pure (yD hd) (zN.ite (fun h2=>zN.ite (fun h5=>?_) fun h5=>?_) fun h2=>?_)) fun h=>?_
  ·have hv1:v=1:=by have:=eq_of_beq h2;omega
   have e:xU p.k v b=b+1:=by unfold xU;simp at h5;simp[h5,hv1]
   rw[yW (x:=b+1) (by omega) (by omega)]
   rw[e]at next
   exact(cF a ha n t _ left long hg.1 (by omega) (by omega)).bind fun y hy=>next y hy
  ·have e:xU p.k v b=b:=by unfold xU;simp at h5;simp[h5]
   rw[e]at next
   exact(cF a ha n t _ left long hg.1 h0 (by omega)).bind fun y hy=>next y hy
  ·have e:xU p.k v b=b:=by unfold xU;rw[if_neg];intro h;have h1:=h.1;subst h1;simp at h2
   rw[e]at next
   exact(cF a ha n t _ left long hg.1 h0 (by omega)).bind fun y hy=>next y hy
  ·rw[yG hd]at h;cases h
end
def NaX(t a:Tm)(n:Int)(r:Tm×Int):Prop:=r.1.Ok∧r.2≠8∧(r.2=0->zH t=true∧zH a=true∧0≤n∧n≤1048576∧zH (qM a n t 0)=true∧r.1=qM a n t 0)∧(r.2=0∨r.2=2∨r.2=5)∧(zH t=true->zH a=true->0≤n->n≤1048576->r.2≠5)
theorem lJ(t a:Tm)(n:Int)(ht:t.Ok)(ha:a.Ok):zN (fun q=>e54 q t a n) (NaX t a n):=by
 have z:=xX 0 0
 simp only[e54]
 refine zN.bind (P:=fun b=>b=zH t) ((xN t ht).tot rfl) fun b hb=>zN.ite (fun h=>?_) fun h=>zN.ret ⟨z,by decide,fun h=>(by cases h),.inr (.inr rfl),fun h1=>by rw[hb,h1]at h;cases h⟩
 refine zN.bind (P:=fun b=>b=zH a) ((xN a ha).tot rfl) fun b2 hb2=>zN.ite (fun h2=>?_) fun h2=>zN.ret ⟨z,by decide,fun h=>(by cases h),.inr (.inr rfl),fun _ h1=>by rw[hb2,h1]at h2;cases h2⟩
 have F:zN (fun q=>e78 q n) fun b=>(b=true->0≤n∧n≤1048576)∧(b=false->¬(0≤n∧n≤1048576)):=by
  simp only[e78]
  exact zN.ite (fun h=>zN.ret ⟨fun h2=>⟨by simpa using h,by simpa using h2⟩,fun h2 h3=>by simp at h2;omega⟩) fun h=>zN.ret ⟨fun h=>(by cases h),fun _ h3=>by simp at h;omega⟩
 refine F.bind fun b3 h3=>zN.ite (fun h4=>?_) fun h4=>zN.ret ⟨z,by decide,fun h=>(by cases h),.inr (.inr rfl),fun _ _ g1 g2=>absurd ⟨g1,g2⟩ (h3.2 (by simpa using h4))⟩
 rw[h]at hb
 rw[h2]at hb2
 have hs:=zO hb.symm
 refine zN.bind (P:=fun r=>NaX t a n r∧r.2≠5) ?_ fun r hr=>zN.ret ⟨hr.1.1,hr.1.2.1,hr.1.2.2.1,hr.1.2.2.2.1,fun _ _ _ _=>hr.2⟩
 have long:NaX t a n (zT,2):=⟨z,by decide,fun h=>(by cases h),.inr (.inl rfl),fun _ _ _ _=>by decide⟩
 simp only[V8]
 refine zN.pure rfl ((cF a ha n t 0 8192 false hs.2.2 (by omega) (by omega)).bind fun r hr=>zN.ite (fun _=>zN.ret ⟨long,by decide⟩) fun h5=>?_)
 refine zN.bind (P:=fun b=>b=zH r.1) ((xN r.1 hr.1).tot rfl) fun b6 hb6=>zN.ite (fun h6=>zN.ret ?_) fun _=>zN.ret ⟨long,by decide⟩
 have hx:=(hr.2 (by simpa using h5)).2
 refine⟨⟨hr.1,(by show (0:Int)≠8;decide),fun _=>⟨hb.symm,hb2.symm,(h3.1 h4).1,(h3.1 h4).2,?_,hx⟩,.inl rfl,fun _ _ _ _=>(by show (0:Int)≠5;decide)⟩,(by show (0:Int)≠5;decide)⟩
 rw[←hx,←hb6];exact h6
mutual
theorem zDv{P:Int->Int->Prop}{a:Tm}{n:Int}(ha:xM P a):∀(t:Tm) (b:Int),xM (fun k m=>P k m∨(k=8∧m=n)) t->xM P (qM a n t b)
 | .mk k m l,b,h=>by
  rw[xM]at h
  rw[qM]
  by_cases h1:k=8∧m=n
  ·rw[if_pos h1];exact G3 a 0 0 b ha
  ·rw[if_neg h1,xM]
   refine⟨?_,zFM ha l k 0 b h.2⟩
   rcases h.1 with h2|h2|h2
   ·exact .inl h2
   ·exact .inr h2
   ·exact absurd h2 h1
theorem zFM{P:Int->Int->Prop}{a:Tm}{n:Int}(ha:xM P a):∀(l:List Tm) (k:Int) (i:Nat) (b:Int),wM (fun k m=>P k m∨(k=8∧m=n)) l->wM P (naL a n l k i b)
 | [],_,_,_,_=>by rw[naL,wM];trivial
 |t::l,k,i,b,h=>by
  rw[wM]at h
  rw[naL,wM]
  exact⟨zDv ha t _ h.1,zFM ha l k (i+1) b h.2⟩
end
mutual
theorem zQs{a:Tm}{n:Int}(ha:∀j,¬j∈sF a 0):∀(t:Tm) (b j:Int),0≤b->j∈sF (qM a n t b) b->j∈sF t b
 | .mk k m l,b,j,hb,h=>by
  rw[qM]at h
  by_cases h1:k=8∧m=n
  ·rw[if_pos h1]at h
   exact absurd (zFi a 0 b j hb (by rwa[Int.zero_add])) (ha j)
  ·rw[if_neg h1]at h
   by_cases hk:k=1
   ·subst hk;exact qC.2 (qC.1 h)
   ·exact(sG hk).2 (zQr ha l k 0 b j hb ((sG hk).1 h))
theorem zQr{a:Tm}{n:Int}(ha:∀j,¬j∈sF a 0):∀(l:List Tm) (k:Int) (i:Nat) (b j:Int),0≤b->j∈lvL (naL a n l k i b) k i b->j∈lvL l k i b
 | [],k,i,b,j,hb,h=>by rw[naL]at h;exact absurd h pH
 |t::l,k,i,b,j,hb,h=>by
  rw[naL]at h
  rcases wS.1 h with h|h
  ·exact wS.2 (.inl (zQs ha t _ j (by have:=zJL k i b;omega) h))
  ·exact wS.2 (.inr (zQr ha l k (i+1) b j hb h))
end
mutual
theorem zJW:∀(t:Tm) (b m:Int),xB t=true->0≤m->(∀j∈sF t b,j<m)->mY t b≤m
 | .mk k n l,b,m,hg,hm,h=>by
  rw[mY]
  by_cases hk:k=1
  ·subst hk
   rw[if_pos rfl]
   by_cases hb:b≤n
   ·have:=h (n-b) (qC.2 ⟨hb,rfl⟩);omega
   ·omega
  ·rw[if_neg hk]
   have hh:=wF hg
   have hs:=vN hh.1
   refine zFN l k 0 b m hh.2 ?_ hm fun j hj=>h j ((sG hk).2 hj)
   have e1:k=3∨k=4∨k=5∨l.length≤1:=by
    by_cases h7:k=7
    ·obtain⟨x,hx,-⟩:=hs.2.2.2.2.2.2.1 h7
     have hx':l=[x]:=hx
     rw[hx'];simp
    ·by_cases h1:k=1∨k=2∨k=6∨k=8
     ·have hx:=hs.2.2.2.2.2.2.2.1 h1
      have hx':l=[]:=hx
      rw[hx'];simp
     ·have a1:1≤k:=hs.1
      have a2:k≤8:=hs.2.1
      omega
   omega
theorem zFN:∀(l:List Tm) (k:Int) (i:Nat) (b m:Int),wZ l=true->(k=3∨k=4∨k=5∨i+l.length≤1)->0≤m->(∀j∈lvL l k i b,j<m)->kU l k i b≤m
 | [],k,i,b,m,hg,hl,hm,h=>by rw[kU];exact hm
 |t::l,k,i,b,m,hg,hl,hm,h=>by
  rw[kU]
  have hc:=wB hg
  rw[List.length_cons]at hl
  have h1:=zJW t (xU k i b) m hc.1 hm fun j hj=>h j (wS.2 (.inl hj))
  have h2:=zFN l k (i+1) b m hc.2 (by omega) hm fun j hj=>h j (wS.2 (.inr hj))
  rw[zPD (by omega)]at h1
  omega
end
theorem V9{t:Tm}(hs:zH t=true):mY t 0≤0 ↔ ∀j,¬j∈sF t 0:=by
 have hg:=(zO hs).2.2
 constructor
 ·intro h j hj
  have:=zHY t 0 j hg hj
  have:=o7 t 0 j hj
  omega
 ·exact fun h=>zJW t 0 0 hg (by omega) fun j hj=>absurd hj (h j)
def uN(l:List yI)(t:Tm):Prop:=rC t 0 l.length=true
theorem gQ{l:List yI}{t:Tm}:uN l t↔zH t=true∧(∀j,¬j∈sF t 0)∧xM (fun k n=>k=6∨k=7->n<l.length) t:=by
 unfold uN rC
 rw[←jP (by decide) (by decide)]
 constructor
 ·intro h
  simp only[Bool.and_eq_true,List.all_eq_true,decide_eq_true_eq]at h
  exact⟨h.1.1,(V9 h.1.1).1 h.1.2,h.2⟩
 ·rintro ⟨h1,h2,h3⟩
  simp only[Bool.and_eq_true,List.all_eq_true,decide_eq_true_eq]
  exact⟨⟨h1,(V9 h1).2 h2⟩,h3⟩
theorem uN.na{l:List yI}{t a:Tm}{n:Int}(h:uN l t)(ha:uN l a)(hs:zH (qM a n t 0)=true):uN l (qM a n t 0):=by
 have h1:=gQ.1 h
 have h2:=gQ.1 ha
 exact gQ.2 ⟨hs,fun j hj=>h1.2.1 j (zQs h2.2.1 t 0 j (by omega) hj),zDv h2.2.2 t 0 (oV (fun _ _ h=>.inl h) h1.2.2)⟩
mutual
def zDu:Nat->wA->Tm->Int->Int->Option (Tm×Int×Int×Int)
 |0,_,_,_,_=>none
 |qq+1,M,p1,fl,fu=>
 cG qq M fl fu p1.k p1.n p1.sub
def cG:Nat->wA->Int->Int->Int->Int->yM->Option (Tm×Int×Int×Int)
 |0,_,_,_,_,_,_=>none
 |qq+1,M,wK,vS,vA,vB,nX=>
 zQq qq M (Tm.mk vA vB nX) wK vS>>=fun r1=>
 if r1.2.1 then
 if r1.2.2.1 != 0 then
 some ((Tm.mk 0 0 []),r1.2.2.1,r1.2.2.2.1,r1.2.2.2.2)
 else
 cG qq M r1.2.2.2.1 r1.2.2.2.2 r1.1.k r1.1.n r1.1.sub
 else
 if r1.2.2.1 != 0 then
 some ((Tm.mk 0 0 []),r1.2.2.1,r1.2.2.2.1,r1.2.2.2.2)
 else
 some ((Tm.mk vA vB nX),0,r1.2.2.2.1,r1.2.2.2.2)
def zQq:Nat->wA->Tm->Int->Int->Option (Tm×Bool×Int×Int×Int)
 |0,_,_,_,_=>none
 |qq+1,M,p1,fl,fu=>
 u6 qq p1>>=fun r1=>
 if r1.1.k==4 then
 if decide ((r1.2.length:Int)>0)then
 zW r1.1.sub 1>>=fun x5=>
 zW r1.2 0>>=fun x7=>
 zOC qq x5 x7>>=fun r9=>
 fK r1.2 1 (r1.2.length:Int)>>=fun x11=>
 aK qq r9.1 x11>>=fun r13=>
 if r9.2 != 0 then
 some (p1,false,r9.2,fl,fu)
 else
 e98 qq fl fu>>=fun r16=>
 if r16.1 != 0 then
 some (p1,false,r16.1,r16.2.1,r16.2.2)
 else
 O9 qq r13>>=fun r19=>
 some (r19.1,true,r19.2,r16.2.1,r16.2.2)
 else
 zCZ qq M r1.1>>=fun r21=>
 if r21==3 then
 zW M.l r1.1.n>>=fun x24=>
 aK qq x24.body r1.2>>=fun r26=>
 e98 qq fl fu>>=fun r28=>
 if r28.1 != 0 then
 some (p1,false,r28.1,r28.2.1,r28.2.2)
 else
 O9 qq r26>>=fun r31=>
 some (r31.1,true,r31.2,r28.2.1,r28.2.2)
 else
 zCZ qq M r1.1>>=fun r33=>
 if r33==4 then
 zMj qq M r1.1 r1.2 fl fu>>=fun r36=>
 if r36.2.1 then
 if r36.2.2.1 != 0 then
 some (p1,false,r36.2.2.1,r36.2.2.2.1,r36.2.2.2.2)
 else
 e98 qq r36.2.2.2.1 r36.2.2.2.2>>=fun r40=>
 if r40.1 != 0 then
 some (p1,false,r40.1,r40.2.1,r40.2.2)
 else
 O9 qq r36.1>>=fun r43=>
 some (r43.1,true,r43.2,r40.2.1,r40.2.2)
 else
 if r36.2.2.1 != 0 then
 some (p1,false,r36.2.2.1,r36.2.2.2.1,r36.2.2.2.2)
 else
 some (p1,false,r36.2.2.1,r36.2.2.2.1,r36.2.2.2.2)
 else
 if r1.1.k==7 then
 zMi qq M r1.1 r1.2 fl fu>>=fun r47=>
 if r47.2.1 then
 if r47.2.2.1 != 0 then
 some (p1,false,r47.2.2.1,r47.2.2.2.1,r47.2.2.2.2)
 else
 e98 qq r47.2.2.2.1 r47.2.2.2.2>>=fun r51=>
 if r51.1 != 0 then
 some (p1,false,r51.1,r51.2.1,r51.2.2)
 else
 O9 qq r47.1>>=fun r54=>
 some (r54.1,true,r54.2,r51.2.1,r51.2.2)
 else
 if r47.2.2.1 != 0 then
 some (p1,false,r47.2.2.1,r47.2.2.2.1,r47.2.2.2.2)
 else
 some (p1,false,r47.2.2.1,r47.2.2.2.1,r47.2.2.2.2)
 else
 some (p1,false,0,fl,fu)
 else
 zCZ qq M r1.1>>=fun r57=>
 if r57==3 then
 zW M.l r1.1.n>>=fun x60=>
 aK qq x60.body r1.2>>=fun r62=>
 e98 qq fl fu>>=fun r64=>
 if r64.1 != 0 then
 some (p1,false,r64.1,r64.2.1,r64.2.2)
 else
 O9 qq r62>>=fun r67=>
 some (r67.1,true,r67.2,r64.2.1,r64.2.2)
 else
 zCZ qq M r1.1>>=fun r69=>
 if r69==4 then
 zMj qq M r1.1 r1.2 fl fu>>=fun r72=>
 if r72.2.1 then
 if r72.2.2.1 != 0 then
 some (p1,false,r72.2.2.1,r72.2.2.2.1,r72.2.2.2.2)
 else
 e98 qq r72.2.2.2.1 r72.2.2.2.2>>=fun r76=>
 if r76.1 != 0 then
 some (p1,false,r76.1,r76.2.1,r76.2.2)
 else
 O9 qq r72.1>>=fun r79=>
 some (r79.1,true,r79.2,r76.2.1,r76.2.2)
 else
 if r72.2.2.1 != 0 then
 some (p1,false,r72.2.2.1,r72.2.2.2.1,r72.2.2.2.2)
 else
 some (p1,false,r72.2.2.1,r72.2.2.2.1,r72.2.2.2.2)
 else
 if r1.1.k==7 then
 zMi qq M r1.1 r1.2 fl fu>>=fun r83=>
 if r83.2.1 then
 if r83.2.2.1 != 0 then
 some (p1,false,r83.2.2.1,r83.2.2.2.1,r83.2.2.2.2)
 else
 e98 qq r83.2.2.2.1 r83.2.2.2.2>>=fun r87=>
 if r87.1 != 0 then
 some (p1,false,r87.1,r87.2.1,r87.2.2)
 else
 O9 qq r83.1>>=fun r90=>
 some (r90.1,true,r90.2,r87.2.1,r87.2.2)
 else
 if r83.2.2.1 != 0 then
 some (p1,false,r83.2.2.1,r83.2.2.2.1,r83.2.2.2.2)
 else
 some (p1,false,r83.2.2.1,r83.2.2.2.1,r83.2.2.2.2)
 else
 some (p1,false,0,fl,fu)
def zMj:Nat->wA->Tm->yM->Int->Int->Option (Tm×Bool×Int×Int×Int)
 |0,_,_,_,_,_=>none
 |qq+1,M,p1,p2,fl,fu=>
 zW M.l p1.n>>=fun x1=>
 if decide ((p2.length:Int)≤x1.pars)then
 some ((Tm.mk 0 0 []),false,0,fl,fu)
 else
 zW p2 x1.pars>>=fun x4=>
 zDu qq M x4 fl fu>>=fun r6=>
 if r6.2.1 != 0 then
 some ((Tm.mk 0 0 []),false,r6.2.1,r6.2.2.1,r6.2.2.2)
 else
 zIr qq M r6.1>>=fun r9=>
 if r9.2.2 then
 zW M.l r9.1>>=fun x12=>
 if x12.fam != x1.fam then
 some ((Tm.mk 0 0 []),false,0,r6.2.2.1,r6.2.2.2)
 else
 fK r9.2.1 x12.pars (r9.2.1.length:Int)>>=fun x15=>
 zFB qq M.rl M.parts p1.n x15>>=fun r17=>
 fK p2 (xL (x1.pars+1)) (p2.length:Int)>>=fun x19=>
 aK qq r17.1 x19>>=fun r21=>
 some (r21,true,r17.2,r6.2.2.1,r6.2.2.2)
 else
 some ((Tm.mk 0 0 []),false,0,r6.2.2.1,r6.2.2.2)
def zMi:Nat->wA->Tm->yM->Int->Int->Option (Tm×Bool×Int×Int×Int)
 |0,_,_,_,_,_=>none
 |qq+1,M,p1,p2,fl,fu=>
 if decide (p1.n≥(M.l.length:Int))then
 some ((Tm.mk 0 0 []),false,0,fl,fu)
 else
 zW M.l p1.n>>=fun x2=>
 if x2.kind != 1 then
 some ((Tm.mk 0 0 []),false,0,fl,fu)
 else
 zW M.args p1.n>>=fun x5=>
 if decide ((p2.length:Int)<x5)then
 some ((Tm.mk 0 0 []),false,0,fl,fu)
 else
 zW p2 (xL (x5-1))>>=fun x8=>
 zDu qq M x8 fl fu>>=fun r10=>
 if r10.2.1 != 0 then
 some ((Tm.mk 0 0 []),false,r10.2.1,r10.2.2.1,r10.2.2.2)
 else
 zIr qq M r10.1>>=fun r13=>
 if r13.2.2 then
 zW M.l r13.1>>=fun x16=>
 if x16.fam != p1.n then
 some ((Tm.mk 0 0 []),false,0,r10.2.2.1,r10.2.2.2)
 else
 zW p1.sub 0>>=fun x19=>
 fK p2 0 (xL ((xL (x2.pars+1))+(x2.cons.length:Int)))>>=fun x21=>
 fK r13.2.1 x2.pars (r13.2.1.length:Int)>>=fun x23=>
 zFC qq M.rl M.parts p1.n x19.n r13.1 x21 x23>>=fun r25=>
 fK p2 x5 (p2.length:Int)>>=fun x27=>
 aK qq r25.1 x27>>=fun r29=>
 some (r29,true,r25.2,r10.2.2.1,r10.2.2.2)
 else
 some ((Tm.mk 0 0 []),false,0,r10.2.2.1,r10.2.2.2)
end
abbrev zZs (M:wA) (p1:Tm) (fl fu:Int) (r:Tm×Int×Int×Int) (C:Cf):Prop:=C 137 [mB M 1,mR M,.cells [ai fl,ai fu]] [.mp 0 0,yY p1,.mp 2 0] (.tup [yY r.1,ai r.2.1]) [mB M 1,mR M,.cells [ai r.2.2.1,ai r.2.2.2]] 0
abbrev zWu (M:wA) (p1:Tm) (fl fu:Int) (r:Tm×Bool×Int×Int×Int) (C:Cf):Prop:=C 174 [mB M 1,mR M,.cells [ai fl,ai fu]] [.mp 0 0,yY p1,.mp 2 0] (.tup [yY r.1,ab r.2.1,ai r.2.2.1]) [mB M 1,mR M,.cells [ai r.2.2.2.1,ai r.2.2.2.2]] 0
abbrev zWt (M:wA) (p1:Tm) (p2:yM) (fl fu:Int) (r:Tm×Bool×Int×Int×Int) (C:Cf):Prop:=C 210 [mB M 1,mR M,.cells [ai fl,ai fu]] [.mp 0 0,yY p1,zV zD p2 .no,.mp 2 0] (.tup [yY r.1,ab r.2.1,ai r.2.2.1]) [mB M 1,mR M,.cells [ai r.2.2.2.1,ai r.2.2.2.2]] 0
abbrev zWs (M:wA) (p1:Tm) (p2:yM) (fl fu:Int) (r:Tm×Bool×Int×Int×Int) (C:Cf):Prop:=C 211 [mB M 1,mR M,.cells [ai fl,ai fu]] [.mp 0 0,yY p1,zV zD p2 .no,.mp 2 0] (.tup [yY r.1,ab r.2.1,ai r.2.2.1]) [mB M 1,mR M,.cells [ai r.2.2.2.1,ai r.2.2.2.2]] 0
theorem pK:Qf 174 f174:=⟨func174,rfl⟩
theorem pL{M p1 fl fu r}(h:zWu M p1 fl fu r Ci):zWu M p1 fl fu r Ct:=⟨h,⟨(lz rfl),⟨tv,tv,⟨tv,dT _⟩,tv⟩,(lz rfl),tv⟩,(nW (lz rfl) (zA ⟨tv,tv,tv⟩ zB)),⟨⟨tv,tv,dT _,tv⟩,tv,tv,tv⟩,(pW (lz rfl) (zA ⟨tv,tv,tv⟩ zB))⟩
theorem zQp:Qf 210 f210:=⟨func210,rfl⟩
theorem zQo{M p1 p2 fl fu r}(h:zWt M p1 p2 fl fu r Ci):zWt M p1 p2 fl fu r Ct:=⟨h,⟨(lz rfl),⟨tv,tv,⟨tv,dT _⟩,tv⟩,⟨tv,dT _⟩,(lz rfl),tv⟩,(nW (lz rfl) (zA ⟨tv,tv,tv⟩ zB)),⟨⟨tv,tv,dT _,tv⟩,tv,tv,tv⟩,(pW (lz rfl) (zA ⟨tv,tv,tv⟩ zB))⟩
theorem zIo:Qf 211 f211:=⟨func211,rfl⟩
theorem zIn{M p1 p2 fl fu r}(h:zWs M p1 p2 fl fu r Ci):zWs M p1 p2 fl fu r Ct:=⟨h,⟨(lz rfl),⟨tv,tv,⟨tv,dT _⟩,tv⟩,⟨tv,dT _⟩,(lz rfl),tv⟩,(nW (lz rfl) (zA ⟨tv,tv,tv⟩ zB)),⟨⟨tv,tv,dT _,tv⟩,tv,tv,tv⟩,(pW (lz rfl) (zA ⟨tv,tv,tv⟩ zB))⟩
theorem jR:∀qq:Nat,(∀ {M p1 fl fu r},zDu qq M p1 fl fu=some r->zZs M p1 fl fu r Ct)∧(∀ {M wK vS vA vB nX r},cG qq M wK vS vA vB nX=some r->(∀j,dL 3 (pt 885 f137) (sp j 28 0 [(0,.mp 0 0),(2,.mp 2 0),(4,.mp 3 0),(6,.mp 4 0)]) (⟨[(0,mB M 1),(1,mR M),(2,.cells [ai wK,ai vS]),(3,.cells [ai vA,ai vB,zV zD nX .no]),(4,.cells [ai 0,ai 0,zV zD ([]:yM) .nl])],5,[],0,[]⟩) (fQ 3 (nQ 3 f137 (.tup [yY r.1,ai r.2.1]) [mB M 1,mR M,.cells [ai r.2.2.1,ai r.2.2.2]] 0) [.blk 0])))∧(∀ {M p1 fl fu r},zQq qq M p1 fl fu=some r->zWu M p1 fl fu r Ct)∧(∀ {M p1 p2 fl fu r},zMj qq M p1 p2 fl fu=some r->zWt M p1 p2 fl fu r Ct)∧(∀ {M p1 p2 fl fu r},zMi qq M p1 p2 fl fu=some r->zWs M p1 p2 fl fu r Ct):=by
 intro qq
 induction qq with
 |zero=>
  exact⟨fun h=>nn h,fun h=>nn h,fun h=>nn h,fun h=>nn h,fun h=>nn h⟩
 |succ qq ih=>
  obtain⟨zUc,zFO,zZr,zUb,zUa⟩:=ih
  refine⟨?_,?_,?_,?_,?_⟩
  intro M p1 fl fu r h
  rw[zDu]at h
  exact⟨tH ⟨func137,rfl⟩ 0 [] [0,1,2,3,4] [] [0,2,4,6] (oD (dT ([]:yM))<|oD (dT p1.sub)<|oD (dC M.parts)<|oD (dE M.rl)<|oD (dI M.own)<|oD (dI M.args)<|oD (dE M.l) o0) (zFO h),⟨(lz rfl),⟨tv,tv,⟨tv,dT _⟩,tv⟩,(lz rfl),tv⟩,(nW (lz rfl) (zA ⟨tv,tv,tv⟩ zB)),⟨⟨tv,tv,dT _,tv⟩,tv,tv⟩,(pW (lz rfl) (zA ⟨tv,tv,tv⟩ zB))⟩
  intro M wK vS vA vB nX r h
  rw[cG]at h
  obtain⟨r1,h2,h⟩:=zC h
  have k:=oC 1 [0,1,2] (zZr h2) o0
  obtain⟨h3,h⟩|⟨h3,h⟩:=zU h
  have k:=oB 1 h3 k
  obtain⟨h4,h⟩|⟨h4,h⟩:=zU h
  cases h
  exact fun j=>lF 1 [0,1,2] (oD (dT ([]:yM))<|sP M<|oB 2 h4 k)
  exact fun j=>lH 2 [] [0,1,2,3,4] [] [0,2,4,6] (oD (dT ([]:yM))<|oD (dT r1.1.sub)<|sP M<|oB 2 h4 k) (zFO h)
  have k:=oB 1 h3 k
  obtain⟨h5,h⟩|⟨h5,h⟩:=zU h
  cases h
  exact fun j=>lF 1 [0,1,2] (oD (dT ([]:yM))<|sP M<|oB 2 h5 k)
  cases h
  exact fun j=>lF 2 [0,1,2] (oD (dT nX)<|sP M<|oB 2 h5 k)
  intro M p1 fl fu r h
  rw[zQq]at h
  have z {os ob} (k:Oz os ob):=oD (dT p1.sub)<|sP M<|k
  obtain⟨r1,h2,h⟩:=zC h
  have k:=oC 1 [] (zHG h2) o0
  obtain⟨h3,h⟩|⟨h3,h⟩:=zU h
  have k:=oB 5 h3 k
  obtain⟨h4,h⟩|⟨h4,h⟩:=zU h
  obtain⟨x5,h6,h⟩:=zC h
  obtain⟨x7,h8,h⟩:=zC h
  obtain⟨r9,h10,h⟩:=zC h
  obtain⟨x11,h12,h⟩:=zC h
  obtain⟨r13,h14,h⟩:=zC h
  have k:=oC 0 [] (zAC h14)<|oA 4 (qZ h12)<|oC 1 [] (yBp h10)<|oA 1 (xH (o:=.no) h8)<|oA 1 (xH (o:=.no) h6)<|oB 1 h4 k
  obtain⟨h15,h⟩|⟨h15,h⟩:=zU h
  cases h
  exact pL (tF pK 2 [0,1,2] (z<|oB 1 h15 k))
  obtain⟨r16,h17,h⟩:=zC h
  have k:=oC 1 [2] (c98 h17)<|oB 1 h15 k
  obtain⟨h18,h⟩|⟨h18,h⟩:=zU h
  cases h
  exact pL (tF pK 2 [0,1,2] (z<|oB 0 h18 k))
  obtain⟨r19,h20,h⟩:=zC h
  cases h
  exact pL (tF pK 5 [0,1,2] (oD (dT r19.1.sub)<|sP M<|oC 1 [] (zIs h20)<|oB 0 h18 k))
  obtain⟨r21,h22,h⟩:=zC h
  have k:=oC 1 [0,1] (zQv h22)<|oB 1 h4 k
  obtain⟨h23,h⟩|⟨h23,h⟩:=zU h
  obtain⟨x24,h25,h⟩:=zC h
  obtain⟨r26,h27,h⟩:=zC h
  obtain⟨r28,h29,h⟩:=zC h
  have k:=oC 3 [2] (c98 h29)<|oC 1 [] (zAC h27)<|oA 2 (wI (o:=.no) h25)<|oB 0 h23 k
  obtain⟨h30,h⟩|⟨h30,h⟩:=zU h
  cases h
  exact pL (tF pK 2 [0,1,2] (z<|oB 0 h30 k))
  obtain⟨r31,h32,h⟩:=zC h
  cases h
  exact pL (tF pK 5 [0,1,2] (oD (dT r31.1.sub)<|sP M<|oC 1 [] (zIs h32)<|oB 0 h30 k))
  obtain⟨r33,h34,h⟩:=zC h
  have k:=oC 1 [0,1] (zQv h34)<|oB 0 h23 k
  obtain⟨h35,h⟩|⟨h35,h⟩:=zU h
  obtain⟨r36,h37,h⟩:=zC h
  have k:=oC 1 [0,1,2] (zUb h37)<|oB 0 h35 k
  obtain⟨h38,h⟩|⟨h38,h⟩:=zU h
  have k:=oB 1 h38 k
  obtain⟨h39,h⟩|⟨h39,h⟩:=zU h
  cases h
  exact pL (tF pK 2 [0,1,2] (z<|oB 2 h39 k))
  obtain⟨r40,h41,h⟩:=zC h
  have k:=oC 1 [2] (c98 h41)<|oB 2 h39 k
  obtain⟨h42,h⟩|⟨h42,h⟩:=zU h
  cases h
  exact pL (tF pK 2 [0,1,2] (z<|oB 0 h42 k))
  obtain⟨r43,h44,h⟩:=zC h
  cases h
  exact pL (tF pK 5 [0,1,2] (oD (dT r43.1.sub)<|sP M<|oC 1 [] (zIs h44)<|oB 0 h42 k))
  have k:=oB 1 h38 k
  obtain⟨h45,h⟩|⟨h45,h⟩:=zU h
  cases h
  exact pL (tF pK 2 [0,1,2] (z<|oB 2 h45 k))
  cases h
  exact pL (tF pK 3 [0,1,2] (z<|oB 2 h45 k))
  have k:=oB 0 h35 k
  obtain⟨h46,h⟩|⟨h46,h⟩:=zU h
  obtain⟨r47,h48,h⟩:=zC h
  have k:=oC 1 [0,1,2] (zUa h48)<|oB 1 h46 k
  obtain⟨h49,h⟩|⟨h49,h⟩:=zU h
  have k:=oB 1 h49 k
  obtain⟨h50,h⟩|⟨h50,h⟩:=zU h
  cases h
  exact pL (tF pK 2 [0,1,2] (z<|oB 2 h50 k))
  obtain⟨r51,h52,h⟩:=zC h
  have k:=oC 1 [2] (c98 h52)<|oB 2 h50 k
  obtain⟨h53,h⟩|⟨h53,h⟩:=zU h
  cases h
  exact pL (tF pK 2 [0,1,2] (z<|oB 0 h53 k))
  obtain⟨r54,h55,h⟩:=zC h
  cases h
  exact pL (tF pK 5 [0,1,2] (oD (dT r54.1.sub)<|sP M<|oC 1 [] (zIs h55)<|oB 0 h53 k))
  have k:=oB 1 h49 k
  obtain⟨h56,h⟩|⟨h56,h⟩:=zU h
  cases h
  exact pL (tF pK 2 [0,1,2] (z<|oB 2 h56 k))
  cases h
  exact pL (tF pK 3 [0,1,2] (z<|oB 2 h56 k))
  cases h
  exact pL (tF pK 4 [0,1,2] (z<|oB 1 h46 k))
  obtain⟨r57,h58,h⟩:=zC h
  have k:=oC 1 [0,1] (zQv h58)<|oB 5 h3 k
  obtain⟨h59,h⟩|⟨h59,h⟩:=zU h
  obtain⟨x60,h61,h⟩:=zC h
  obtain⟨r62,h63,h⟩:=zC h
  obtain⟨r64,h65,h⟩:=zC h
  have k:=oC 3 [2] (c98 h65)<|oC 1 [] (zAC h63)<|oA 2 (wI (o:=.no) h61)<|oB 0 h59 k
  obtain⟨h66,h⟩|⟨h66,h⟩:=zU h
  cases h
  exact pL (tF pK 2 [0,1,2] (z<|oB 0 h66 k))
  obtain⟨r67,h68,h⟩:=zC h
  cases h
  exact pL (tF pK 5 [0,1,2] (oD (dT r67.1.sub)<|sP M<|oC 1 [] (zIs h68)<|oB 0 h66 k))
  obtain⟨r69,h70,h⟩:=zC h
  have k:=oC 1 [0,1] (zQv h70)<|oB 0 h59 k
  obtain⟨h71,h⟩|⟨h71,h⟩:=zU h
  obtain⟨r72,h73,h⟩:=zC h
  have k:=oC 1 [0,1,2] (zUb h73)<|oB 0 h71 k
  obtain⟨h74,h⟩|⟨h74,h⟩:=zU h
  have k:=oB 1 h74 k
  obtain⟨h75,h⟩|⟨h75,h⟩:=zU h
  cases h
  exact pL (tF pK 2 [0,1,2] (z<|oB 2 h75 k))
  obtain⟨r76,h77,h⟩:=zC h
  have k:=oC 1 [2] (c98 h77)<|oB 2 h75 k
  obtain⟨h78,h⟩|⟨h78,h⟩:=zU h
  cases h
  exact pL (tF pK 2 [0,1,2] (z<|oB 0 h78 k))
  obtain⟨r79,h80,h⟩:=zC h
  cases h
  exact pL (tF pK 5 [0,1,2] (oD (dT r79.1.sub)<|sP M<|oC 1 [] (zIs h80)<|oB 0 h78 k))
  have k:=oB 1 h74 k
  obtain⟨h81,h⟩|⟨h81,h⟩:=zU h
  cases h
  exact pL (tF pK 2 [0,1,2] (z<|oB 2 h81 k))
  cases h
  exact pL (tF pK 3 [0,1,2] (z<|oB 2 h81 k))
  have k:=oB 0 h71 k
  obtain⟨h82,h⟩|⟨h82,h⟩:=zU h
  obtain⟨r83,h84,h⟩:=zC h
  have k:=oC 1 [0,1,2] (zUa h84)<|oB 1 h82 k
  obtain⟨h85,h⟩|⟨h85,h⟩:=zU h
  have k:=oB 1 h85 k
  obtain⟨h86,h⟩|⟨h86,h⟩:=zU h
  cases h
  exact pL (tF pK 2 [0,1,2] (z<|oB 2 h86 k))
  obtain⟨r87,h88,h⟩:=zC h
  have k:=oC 1 [2] (c98 h88)<|oB 2 h86 k
  obtain⟨h89,h⟩|⟨h89,h⟩:=zU h
  cases h
  exact pL (tF pK 2 [0,1,2] (z<|oB 0 h89 k))
  obtain⟨r90,h91,h⟩:=zC h
  cases h
  exact pL (tF pK 5 [0,1,2] (oD (dT r90.1.sub)<|sP M<|oC 1 [] (zIs h91)<|oB 0 h89 k))
  have k:=oB 1 h85 k
  obtain⟨h92,h⟩|⟨h92,h⟩:=zU h
  cases h
  exact pL (tF pK 2 [0,1,2] (z<|oB 2 h92 k))
  cases h
  exact pL (tF pK 3 [0,1,2] (z<|oB 2 h92 k))
  cases h
  exact pL (tF pK 4 [0,1,2] (z<|oB 1 h82 k))
  intro M p1 p2 fl fu r h
  rw[zMj]at h
  have z {os ob} (k:Oz os ob):=oD (dT ([]:yM))<|sP M<|k
  obtain⟨x1,h2,h⟩:=zC h
  have k:=oA 2 (wI (o:=.no) h2) o0
  obtain⟨h3,h⟩|⟨h3,h⟩:=zU h
  cases h
  exact zQo (tF zQp 1 [0,1,2] (z<|oB 2 h3 k))
  obtain⟨x4,h5,h⟩:=zC h
  obtain⟨r6,h7,h⟩:=zC h
  have k:=oC 1 [0,1,2] (zUc h7)<|oA 0 (xH (o:=.no) h5)<|oB 2 h3 k
  obtain⟨h8,h⟩|⟨h8,h⟩:=zU h
  cases h
  exact zQo (tF zQp 1 [0,1,2] (z<|oB 3 h8 k))
  obtain⟨r9,h10,h⟩:=zC h
  have k:=oC 1 [0,1] (zWx h10)<|oB 3 h8 k
  obtain⟨h11,h⟩|⟨h11,h⟩:=zU h
  obtain⟨x12,h13,h⟩:=zC h
  have k:=oA 3 (wI (o:=.no) h2)<|oA 2 (wI (o:=.no) h13)<|oB 2 h11 k
  obtain⟨h14,h⟩|⟨h14,h⟩:=zU h
  cases h
  exact zQo (tF zQp 1 [0,1,2] (z<|oB 1 h14 k))
  obtain⟨x15,h16,h⟩:=zC h
  obtain⟨r17,h18,h⟩:=zC h
  obtain⟨x19,h20,h⟩:=zC h
  obtain⟨r21,h22,h⟩:=zC h
  cases h
  exact zQo (tF zQp 1 [0,1,2] (oD (dT r21.sub)<|sP M<|oC 0 [] (zAC h22)<|oA 5 (qZ h20)<|oC 0 [1] (yBI h18)<|oA 1 (qZ h16)<|oA 3 (wI (o:=.no) h13)<|oB 1 h14 k))
  cases h
  exact zQo (tF zQp 2 [0,1,2] (z<|oB 2 h11 k))
  intro M p1 p2 fl fu r h
  rw[zMi]at h
  have z {os ob} (k:Oz os ob):=oD (dT ([]:yM))<|sP M<|k
  obtain⟨h1,h⟩|⟨h1,h⟩:=zU h
  cases h
  exact zIn (tF zIo 1 [0,1,2] (z<|oB 3 h1 o0))
  obtain⟨x2,h3,h⟩:=zC h
  have k:=oA 2 (wI (o:=.no) h3)<|oB 3 h1 o0
  obtain⟨h4,h⟩|⟨h4,h⟩:=zU h
  cases h
  exact zIn (tF zIo 1 [0,1,2] (z<|oB 1 h4 k))
  obtain⟨x5,h6,h⟩:=zC h
  have k:=oA 3 (nI (o:=.no) h6)<|oB 1 h4 k
  obtain⟨h7,h⟩|⟨h7,h⟩:=zU h
  cases h
  exact zIn (tF zIo 1 [0,1,2] (z<|oB 1 h7 k))
  obtain⟨x8,h9,h⟩:=zC h
  obtain⟨r10,h11,h⟩:=zC h
  have k:=oC 1 [0,1,2] (zUc h11)<|oA 2 (xH (o:=.no) h9)<|oA 2 (nI (o:=.no) h6)<|oB 1 h7 k
  obtain⟨h12,h⟩|⟨h12,h⟩:=zU h
  cases h
  exact zIn (tF zIo 1 [0,1,2] (z<|oB 3 h12 k))
  obtain⟨r13,h14,h⟩:=zC h
  have k:=oC 1 [0,1] (zWx h14)<|oB 3 h12 k
  obtain⟨h15,h⟩|⟨h15,h⟩:=zU h
  obtain⟨x16,h17,h⟩:=zC h
  have k:=oA 2 (wI (o:=.no) h17)<|oB 2 h15 k
  obtain⟨h18,h⟩|⟨h18,h⟩:=zU h
  cases h
  exact zIn (tF zIo 1 [0,1,2] (z<|oB 2 h18 k))
  obtain⟨x19,h20,h⟩:=zC h
  obtain⟨x21,h22,h⟩:=zC h
  obtain⟨x23,h24,h⟩:=zC h
  obtain⟨r25,h26,h⟩:=zC h
  obtain⟨x27,h28,h⟩:=zC h
  obtain⟨r29,h30,h⟩:=zC h
  cases h
  exact zIn (tF zIo 1 [0,1,2] (oD (dT r29.sub)<|sP M<|oC 0 [] (zAC h30)<|oA 4 (qZ h28)<|oC 0 [1] (yBJ h26)<|oA 1 (qZ h24)<|oA 6 (mW h22)<|oA 5 (xH (o:=.no) h20)<|oA 2 (wI (o:=.no) h3)<|oB 2 h18 k))
  cases h
  exact zIn (tF zIo 2 [0,1,2] (z<|oB 2 h15 k))
theorem yBM{qq M p1 fl fu r}(h:zDu qq M p1 fl fu=some r):zZs M p1 fl fu r Ct:=(jR _).1 h
abbrev er4 (r:Tm×Int×Int×Int):Int:=r.2.1
abbrev er5 (r:Tm×Bool×Int×Int×Int):Int:=r.2.2.1
theorem cH(l:List yI):(wW l).l=l:=rfl
theorem n8(l:List yI):(wW l).rl=l:=rfl
theorem eP(l:List yI):(wW l).parts=lW l l.length 0:=rfl
noncomputable def eQ(l:List yI)(i:Int)(a:List Tm):Tm×Int:=
 open Classical in if h:∃r,zJ (fun q=>zFB q l (lW l l.length 0) i a) r then h.choose else(zT,5)
theorem eR{N:ByteArray->Bool}(l:List yI)(i:Int)(a:List Tm)(hE:wP N l)(ho:sL a)(hl:a.length≤1073741824):zJ (fun q=>zFB q l (lW l l.length 0) i a) (eQ l i a)∧zCX l i a (eQ l i a):=by
 obtain⟨r,hr,hk⟩:=zMm l (lW l l.length 0) i a hE ho hl
 have hx:∃r,zJ (fun q=>zFB q l (lW l l.length 0) i a) r:=⟨r,hr⟩
 have e:eQ l i a=r:=by
  unfold eQ
  rw[dif_pos hx]
  exact hx.choose_spec.det hr
 rw[e];exact⟨hr,hk⟩
noncomputable def fJ(l:List yI)(d lev c:Int)(args own:List Tm):Tm×Int:=
 open Classical in if h:∃r,zJ (fun q=>zFC q l (lW l l.length 0) d lev c args own) r then h.choose else(zT,5)
theorem gR{N:ByteArray->Bool}(l:List yI)(d lev c:Int)(args own:List Tm)(hE:wP N l)(ho4:sL args)(ho5:sL own)(hl4:args.length≤65535)(hl5:own.length≤65535):zJ (fun q=>zFC q l (lW l l.length 0) d lev c args own) (fJ l d lev c args own)∧zIu l d lev c args own (fJ l d lev c args own):=by
 obtain⟨r,hr,hk⟩:=zPU l d lev c args own hE ho4 ho5 hl4 hl5
 have hx:∃r,zJ (fun q=>zFC q l (lW l l.length 0) d lev c args own) r:=⟨r,hr⟩
 have e:fJ l d lev c args own=r:=by
  unfold fJ
  rw[dif_pos hx]
  exact hx.choose_spec.det hr
 rw[e];exact⟨hr,hk⟩
inductive Act where
 |none
 |red (Y:Tm) (e:Int)
 |tgt (a:Tm)
noncomputable def wQ(l:List yI)(x:Tm):Act:=
 if (yF x).k=4∧0<(yS x).length then .red (uF (iV (tJ (yF x).sub 1) [tJ (yS x) 0]).1 ((yS x).drop 1)) (iV (tJ (yF x).sub 1) [tJ (yS x) 0]).2
 else if wH l (yF x)=3 then .red (uF (ent l (yF x).n).body (yS x)) 0
 else if wH l (yF x)=4 then(if ((yS x).length:Int)≤(ent l (yF x).n).pars then .none else .tgt (tJ (yS x) (ent l (yF x).n).pars))
 else if (yF x).k=7 then(if aN l (yF x).n 1=true∧wG (ent l (yF x).n)≤(yS x).length then .tgt (tJ (yS x) (wG (ent l (yF x).n)-1))else .none)
 else .none
noncomputable def uJ(l:List yI)(x y:Tm):Option (Tm×Int):=
 if wH l (yF x)=4 then
  (if xV l y∧(ent l (yF y).n).fam=(ent l (yF x).n).fam then
   some (uF (eQ l (yF x).n ((yS y).drop (ent l (yF y).n).pars.toNat)).1 ((yS x).drop ((ent l (yF x).n).pars+1).toNat),(eQ l (yF x).n ((yS y).drop (ent l (yF y).n).pars.toNat)).2)
  else none)
 else
  (if xV l y∧(ent l (yF y).n).fam=(yF x).n then
   some (uF (fJ l (yF x).n (tJ (yF x).sub 0).n (yF y).n ((yS x).take ((ent l (yF x).n).pars+1+(ent l (yF x).n).cons.length).toNat) ((yS y).drop (ent l (yF x).n).pars.toNat)).1 ((yS x).drop (wG (ent l (yF x).n)).toNat),
    (fJ l (yF x).n (tJ (yF x).sub 0).n (yF y).n ((yS x).take ((ent l (yF x).n).pars+1+(ent l (yF x).n).cons.length).toNat) ((yS y).drop (ent l (yF x).n).pars.toNat)).2)
  else none)
inductive Br (l:List yI):Tm->Tm->Int->Int->Prop
 |stop {x:Tm}:wQ l x = .none->Br l x x 0 0
 |redE {x Y:Tm} {e:Int}:wQ l x = .red Y e->e≠0->Br l x zT e 0
 |redL {x Y:Tm}:wQ l x = .red Y 0->zH Y=false->Br l x zT 2 1
 |red {x Y y:Tm} {e k:Int}:wQ l x = .red Y 0->zH Y=true->Br l Y y e k->Br l x y e (1+k)
 |tgtE {x a z:Tm} {e k:Int}:wQ l x = .tgt a->Br l a z e k->e≠0->Br l x zT e k
 |tgtN {x a z:Tm} {k:Int}:wQ l x = .tgt a->Br l a z 0 k->uJ l x z=none->Br l x x 0 k
 |tgtRE {x a z Y:Tm} {e k:Int}:wQ l x = .tgt a->Br l a z 0 k->uJ l x z=some (Y,e)->e≠0->Br l x zT e k
 |tgtRL {x a z Y:Tm} {k:Int}:wQ l x = .tgt a->Br l a z 0 k->uJ l x z=some (Y,0)->zH Y=false->Br l x zT 2 (k+1)
 |tgtR {x a z Y y:Tm} {e k k':Int}:wQ l x = .tgt a->Br l a z 0 k->uJ l x z=some (Y,0)->zH Y=true->Br l Y y e k'->Br l x y e (k+1+k')
inductive On (l:List yI) (x:Tm):Tm->Bool->Int->Int->Prop
 |stop:wQ l x = .none->On l x x false 0 0
 |redE {Y:Tm} {e:Int}:wQ l x = .red Y e->e≠0->On l x x false e 0
 |redL {Y:Tm}:wQ l x = .red Y 0->zH Y=false->On l x zT true 2 1
 |red {Y:Tm}:wQ l x = .red Y 0->zH Y=true->On l x Y true 0 1
 |tgtE {a z:Tm} {e k:Int}:wQ l x = .tgt a->Br l a z e k->e≠0->On l x x false e k
 |tgtN {a z:Tm} {k:Int}:wQ l x = .tgt a->Br l a z 0 k->uJ l x z=none->On l x x false 0 k
 |tgtRE {a z Y:Tm} {e k:Int}:wQ l x = .tgt a->Br l a z 0 k->uJ l x z=some (Y,e)->e≠0->On l x x false e k
 |tgtRL {a z Y:Tm} {k:Int}:wQ l x = .tgt a->Br l a z 0 k->uJ l x z=some (Y,0)->zH Y=false->On l x zT true 2 (k+1)
 |tgtR {a z Y:Tm} {k:Int}:wQ l x = .tgt a->Br l a z 0 k->uJ l x z=some (Y,0)->zH Y=true->On l x Y true 0 (k+1)
theorem Br.nn{l:List yI}{x y:Tm}{e k:Int}(h:Br l x y e k):0≤k:=by
 induction h<;>omega
theorem On.still{l:List yI}{x y:Tm}{k:Int}(h:On l x y false 0 k):y=x∧Br l x x 0 k:=by
 cases h with
 |stop h=>exact⟨rfl,.stop h⟩
 |redE _ h=>exact absurd rfl h
 |tgtE _ _ h=>exact absurd rfl h
 |tgtN a b c=>exact⟨rfl,.tgtN a b c⟩
 |tgtRE _ _ _ h=>exact absurd rfl h
theorem On.err{l:List yI}{x y:Tm}{d:Bool}{e k:Int}(h:On l x y d e k)(he:e≠0):Br l x zT e k:=by
 cases h with
 |redE a b=>exact .redE a b
 |redL a b=>exact .redL a b
 |tgtE a b c=>exact .tgtE a b c
 |tgtRE a b c d=>exact .tgtRE a b c d
 |tgtRL a b c d=>exact .tgtRL a b c d
 |_=>exact absurd rfl he
theorem On.step{l:List yI}{x Y:Tm}{k:Int}(h:On l x Y true 0 k):zH Y=true∧1≤k∧∀y e k',Br l Y y e k'->Br l x y e (k+k'):=by
 cases h with
 |red a b=>exact⟨b,by omega,fun y e k' h=>.red a b h⟩
 |tgtR a b c d=>exact⟨d,by have:=b.nn;omega,fun y e k' h=>.tgtR a b c d h⟩
def HB(l:List yI)(x:Tm)(f:Int):Prop:=Ou (fun L U q=>zDu q (wW l) x L U) er4 (fun R k=>∃y e,Br l x y e k∧R=fun L U=>(y,e,L,U)) (∀y e k,Br l x y e k->f<k) f
def QO(l:List yI)(x:Tm)(R:Int->Int->Tm×Bool×Int×Int×Int)(k:Int):Prop:=∃Y d e,On l x Y d e k∧R=fun L U=>(Y,d,e,L,U)
def QF(l:List yI)(x:Tm)(R:Int->Int->Tm×Bool×Int×Int×Int)(k:Int):Prop:=
 (wQ l x = .none∧k=0∧∃Y,R=fun L U=>(Y,false,0,L,U)) ∨
 ∃a z e,wQ l x = .tgt a∧Br l a z e k∧((e≠0∧∃Y,R=fun L U=>(Y,false,e,L,U))∨(e=0∧((uJ l x z=none∧∃Y,R=fun L U=>(Y,false,0,L,U))∨∃Y e',Y.Ok∧uJ l x z=some (Y,e')∧R=fun L U=>(Y,true,e',L,U))))
theorem rN{t:Tm}(hg:xB t=true)(h:t.k=3∨t.k=4∨t.k=5):∃a b,t.sub=[a,b]∧xB a=true∧xB b=true:=by
 obtain⟨k,n,l⟩:=t
 have hh:=wF hg
 obtain⟨a,b,rfl⟩:=zLD ((vN hh.1).2.2.2.2.2.1 h).1
 have hc:=wB hh.2
 exact⟨a,b,rfl,hc.1,(wB hc.2).1⟩
theorem zMh{N:ByteArray->Bool}(l:List yI)(hE:wP N l)(x:Tm)(hs:zH x=true)(f:Int)(hf:0≤f)(h3:(yF x).k≠4)(hk:wH l (yF x)=4)(hb:∀a∈yS x,HB l a f)(hB:∀a y k,zH a=true->Br l a y 0 k->zH y=true) :
  Ou (fun L U q=>zMj q (wW l) (yF x) (yS x) L U) er5 (QF l x) (∃a,wQ l x = .tgt a∧∀z e k,Br l a z e k->f<k) f:=by
 have hh:=uP hs
 have h0:=kY (zO hh).2.2
 have hks:=wD hk (by decide)
 have h1:=hks.2.1
 have ho:sL (yS x):=fun y hy=>yB (xI hs hy)
 have hl:(yS x).length≤8192:=by
  have h:=zO hs
  have:=rE _ h.2.2
  omega
 have hp:=(xD (hE.2 _ h0 h1)).2.2.2.1 hks.2.2
 unfold F5 at hp
 simp only[Bool.and_eq_true]at hp
 have hw:=rK hp.1
 have hfam:=wU ((xD (hE.2 _ hw.1 (by omega))).2.1 hw.2.2.1)
 have hact:wQ l x=if ((yS x).length:Int)≤(ent l (yF x).n).pars then .none else .tgt (tJ (yS x) (ent l (yF x).n).pars):=by
  unfold wQ
  rw[if_neg (fun h=>h3 h.1),if_neg (by omega),if_pos hk]
 have hre:∀y,uJ l x y=if xV l y∧(ent l (yF y).n).fam=(ent l (yF x).n).fam then
   some (uF (eQ l (yF x).n ((yS y).drop (ent l (yF y).n).pars.toNat)).1 ((yS x).drop ((ent l (yF x).n).pars+1).toNat),(eQ l (yF x).n ((yS y).drop (ent l (yF y).n).pars.toNat)).2)
  else none:=fun y=>by
  unfold uJ
  rw[if_pos hk]
 refine Ou.succ ?_
 simp only[zMj,cH,n8,eP]
 refine Ou.pure (yT h0 h1) (Ou.ite (fun hn=>Ou.ret hf (.inl ⟨by rw[hact,if_pos (of_decide_eq_true hn)],rfl,_,rfl⟩)) fun hn=>?_)
 have hn':=of_decide_eq_false hn
 rw[if_neg hn']at hact
 have hlt:(ent l (yF x).n).pars<(yS x).length:=by omega
 have hp0:0≤(ent l (yF x).n).pars:=by omega
 refine Ou.pure (sA hp0 hlt) (Ou.bind (hb _ (rW hp0 hlt)) (fun h=>⟨_,hact,h⟩) (fun r hr=>⟨_,zJ.ifT (by show (r.2.1 != 0)=true;rw[show r.2.1=8 from hr];decide) zJ.ret,hr⟩) ?_)
 rintro R k k0 k1 ⟨y,e,hbr,rfl⟩
 dsimp only
 refine Ou.ite (fun h=>Ou.ret (by omega) (.inr ⟨_,y,e,hact,by rwa[Int.add_zero],.inl ⟨by simpa using h,_,rfl⟩⟩)) fun h=>?_
 have he:e=0:=by simpa using h
 subst he
 have hy:=hB _ _ _ (xI hs (rW hp0 hlt)) hbr
 refine Ou.evt (V7 l y hy) ?_
 unfold gP
 by_cases hc:xV l y
 ·rw[if_pos hc]
  have hcs:=uB hy hc
  obtain⟨A,z,a1,-,-,a4,a5,a6,a7,-⟩:=tX hE hcs.1 hcs.2.1 hcs.2.2.1
  refine Ou.ifT rfl (Ou.pure (yT hcs.1 hcs.2.1) (Ou.ite (fun hf'=>Ou.ret (by omega) (.inr ⟨_,y,0,hact,by rwa[Int.add_zero],.inr ⟨rfl,.inl ⟨?_,_,rfl⟩⟩⟩)) fun hf'=>?_))
  ·rw[hre,if_neg (fun h=>by simp[h.2]at hf')]
  ·have hf2:(ent l (yF y).n).fam=(ent l (yF x).n).fam:=by simpa using hf'
   have hra:sL (yS y):=fun x hx=>yB (xI hy hx)
   have hrl:(yS y).length≤8192:=by
    have h:=zO hy
    have:=rE _ h.2.2
    omega
   have hlen:=hcs.2.2.2
   have hX:=eR l (yF x).n ((yS y).drop (ent l (yF y).n).pars.toNat) hE (hra.drop _) (by rw[List.length_drop];omega)
   refine Ou.pure (pG a6 (by show (ent l (yF y).n).pars≤((yS y).length:Int);omega)) (Ou.evt hX.1 ?_)
   rw[yW (x:=(ent l (yF x).n).pars+1) (by omega) (by omega)]
   refine Ou.pure (pG (by omega) (by omega)) (Ou.evt (nK _ _ (by rw[List.length_drop];omega)) (Ou.ret (by omega) (.inr ⟨_,y,0,hact,by rwa[Int.add_zero],.inr ⟨rfl,.inr ⟨_,_,?_,?_,rfl⟩⟩⟩)))
   ·exact oT _ _ hX.2.1 (ho.drop _)
   ·rw[hre,if_pos ⟨hc,hf2⟩]
 ·rw[if_neg hc]
  refine Ou.ifF rfl (Ou.ret (by omega) (.inr ⟨_,y,0,hact,by rwa[Int.add_zero],.inr ⟨rfl,.inl ⟨?_,_,rfl⟩⟩⟩))
  rw[hre,if_neg (fun h=>hc h.1)]
theorem zQn{N:ByteArray->Bool}(l:List yI)(hE:wP N l)(x:Tm)(hs:zH x=true)(f:Int)(hf:0≤f)(hk:(yF x).k=7)(hb:∀a∈yS x,HB l a f)(hB:∀a y k,zH a=true->Br l a y 0 k->zH y=true) :
  Ou (fun L U q=>zMi q (wW l) (yF x) (yS x) L U) er5 (QF l x) (∃a,wQ l x = .tgt a∧∀z e k,Br l a z e k->f<k) f:=by
 have hh:=uP hs
 have hg:=(zO hh).2.2
 have h0:=kY hg
 have ho:sL (yS x):=fun y hy=>yB (xI hs hy)
 have hl:(yS x).length≤8192:=by
  have h:=zO hs
  have:=rE _ h.2.2
  omega
 have hkk:∀n:Int,n≠0->wH l (yF x)≠n:=fun n hn e=>by have:=(wD e hn).1;omega
 have hact:wQ l x=if aN l (yF x).n 1=true∧wG (ent l (yF x).n)≤(yS x).length then .tgt (tJ (yS x) (wG (ent l (yF x).n)-1))else .none:=by
  unfold wQ
  rw[if_neg (fun h=>by omega),if_neg (hkk 3 (by decide)),if_neg (hkk 4 (by decide)),if_pos hk]
 have hre:∀y,uJ l x y=if xV l y∧(ent l (yF y).n).fam=(yF x).n then
   some (uF (fJ l (yF x).n (tJ (yF x).sub 0).n (yF y).n ((yS x).take ((ent l (yF x).n).pars+1+(ent l (yF x).n).cons.length).toNat) ((yS y).drop (ent l (yF x).n).pars.toNat)).1 ((yS x).drop (wG (ent l (yF x).n)).toNat),
    (fJ l (yF x).n (tJ (yF x).sub 0).n (yF y).n ((yS x).take ((ent l (yF x).n).pars+1+(ent l (yF x).n).cons.length).toNat) ((yS y).drop (ent l (yF x).n).pars.toNat)).2)
  else none:=fun y=>by
  unfold uJ
  rw[if_neg (hkk 4 (by decide))]
 refine Ou.succ ?_
 simp only[zMi,cH,n8,eP]
 refine Ou.ite (fun hn=>Ou.ret hf (.inl ⟨?_,rfl,_,rfl⟩)) fun hn=>?_
 ·rw[hact,if_neg]
  intro h
  have:=(tM h.1).2.1
  have:=of_decide_eq_true hn
  omega
 have h1:(yF x).n<l.length:=by have:=of_decide_eq_false hn;omega
 refine Ou.pure (yT h0 h1) (Ou.ite (fun hk1=>Ou.ret hf (.inl ⟨?_,rfl,_,rfl⟩)) fun hk1=>?_)
 ·rw[hact,if_neg]
  intro h
  have h2:=(tM h.1).2.2
  rw[h2]at hk1
  simp at hk1
 have hk1':(ent l (yF x).n).kind=1:=by simpa using hk1
 have hfam:=wU ((xD (hE.2 _ h0 h1)).2.1 hk1')
 have hisT:aN l (yF x).n 1=true:=by unfold aN;simp[h0,h1,hk1']
 have hargs:wG (ent l (yF x).n)=(ent l (yF x).n).pars+2+(ent l (yF x).n).cons.length+(ent l (yF x).n).inds:=by unfold wG;rw[if_pos hk1']
 refine Ou.pure (zQu h0 h1) (Ou.ite (fun hn=>Ou.ret hf (.inl ⟨?_,rfl,_,rfl⟩)) fun hn=>?_)
 ·rw[hact,if_neg]
  intro h
  have:=of_decide_eq_true hn
  omega
 have hn':=of_decide_eq_false hn
 rw[if_pos ⟨hisT,by omega⟩]at hact
 rw[yW (x:=wG (ent l (yF x).n)-1) (by omega) (by omega)]
 have hp0:0≤wG (ent l (yF x).n)-1:=by omega
 have hlt:wG (ent l (yF x).n)-1<(yS x).length:=by omega
 refine Ou.pure (sA hp0 hlt) (Ou.bind (hb _ (rW hp0 hlt)) (fun h=>⟨_,hact,h⟩) (fun r hr=>⟨_,zJ.ifT (by show (r.2.1 != 0)=true;rw[show r.2.1=8 from hr];decide) zJ.ret,hr⟩) ?_)
 rintro R k k0 k1 ⟨y,e,hbr,rfl⟩
 dsimp only
 refine Ou.ite (fun h=>Ou.ret (by omega) (.inr ⟨_,y,e,hact,by rwa[Int.add_zero],.inl ⟨by simpa using h,_,rfl⟩⟩)) fun h=>?_
 have he:e=0:=by simpa using h
 subst he
 have hy:=hB _ _ _ (xI hs (rW hp0 hlt)) hbr
 refine Ou.evt (V7 l y hy) ?_
 unfold gP
 by_cases hc:xV l y
 ·rw[if_pos hc]
  have hcs:=uB hy hc
  obtain⟨A,z,a1,-,-,a4,a5,a6,a7,-,-,-,a8,-⟩:=tX hE hcs.1 hcs.2.1 hcs.2.2.1
  refine Ou.ifT rfl (Ou.pure (yT hcs.1 hcs.2.1) (Ou.ite (fun hf'=>Ou.ret (by omega) (.inr ⟨_,y,0,hact,by rwa[Int.add_zero],.inr ⟨rfl,.inl ⟨?_,_,rfl⟩⟩⟩)) fun hf'=>?_))
  ·rw[hre,if_neg (fun h=>by simp[h.2]at hf')]
  ·have hf2:(ent l (yF y).n).fam=(yF x).n:=by simpa using hf'
   rw[hf2]at a8
   have hra:sL (yS y):=fun x hx=>yB (xI hy hx)
   have hrl:(yS y).length≤8192:=by
    have h:=zO hy
    have:=rE _ h.2.2
    omega
   have hlen:=hcs.2.2.2
   have hsub:∃s,(yF x).sub=[s]:=by
    revert hg hk
    generalize yF x=y
    intro hk hg
    obtain⟨kk,nn,ss⟩:=y
    obtain⟨s,hs,-⟩:=(vN (wF hg).1).2.2.2.2.2.2.1 hk
    exact⟨s,hs⟩
   obtain⟨s,hsb⟩:=hsub
   rw[yW (x:=(ent l (yF x).n).pars+1) (by omega) (by omega),yW (x:=(ent l (yF x).n).pars+1+(ent l (yF x).n).cons.length) (by omega) (by omega)]
   have hX:=gR l (yF x).n (tJ (yF x).sub 0).n (yF y).n ((yS x).take ((ent l (yF x).n).pars+1+(ent l (yF x).n).cons.length).toNat) ((yS y).drop (ent l (yF x).n).pars.toNat) hE (ho.take _) (hra.drop _) (by rw[List.length_take];omega) (by rw[List.length_drop];omega)
   refine Ou.pure (sA (by omega) (by rw[hsb];simp)) (Ou.pure (a:=(yS x).take ((ent l (yF x).n).pars+1+(ent l (yF x).n).cons.length).toNat) ?_ (Ou.pure (pG (by omega) (by show _≤((yS y).length:Int);omega)) (Ou.evt hX.1 ?_)))
   ·rw[V5 (by omega) (by omega) (by omega)];simp
   refine Ou.pure (pG (by omega) (by omega)) (Ou.evt (nK _ _ (by rw[List.length_drop];omega)) (Ou.ret (by omega) (.inr ⟨_,y,0,hact,by rwa[Int.add_zero],.inr ⟨rfl,.inr ⟨_,_,?_,?_,rfl⟩⟩⟩)))
   ·exact oT _ _ hX.2.1 (ho.drop _)
   ·rw[hre,if_pos ⟨hc,hf2⟩]
 ·rw[if_neg hc]
  refine Ou.ifF rfl (Ou.ret (by omega) (.inr ⟨_,y,0,hact,by rwa[Int.add_zero],.inr ⟨rfl,.inl ⟨?_,_,rfl⟩⟩⟩))
  rw[hre,if_neg (fun h=>hc h.1)]
def zWr(l:List yI)(Y:Tm)(e0 k0:Int)(y:Tm)(e k:Int):Prop:=
 (e0≠0∧y=zT∧e=e0∧k=k0)∨(e0=0∧zH Y=false∧y=zT∧e=2∧k=k0+1)∨(e0=0∧zH Y=true∧∃k',Br l Y y e k'∧k=k0+1+k')
section
variable {l:List yI} {x y:Tm} {e k:Int}
theorem Br.inv_none(h:Br l x y e k)(ha:wQ l x = .none):y=x∧e=0∧k=0:=by
 cases h with
 |stop _=>exact⟨rfl,rfl,rfl⟩
 |redE a=>rw[ha]at a;cases a
 |redL a=>rw[ha]at a;cases a
 |red a=>rw[ha]at a;cases a
 |tgtE a=>rw[ha]at a;cases a
 |tgtN a=>rw[ha]at a;cases a
 |tgtRE a=>rw[ha]at a;cases a
 |tgtRL a=>rw[ha]at a;cases a
 |tgtR a=>rw[ha]at a;cases a
theorem Br.inv_red{Y:Tm}{e0:Int}(h:Br l x y e k)(ha:wQ l x = .red Y e0):zWr l Y e0 0 y e k:=by
 cases h with
 |stop a=>rw[ha]at a;cases a
 |redE a b=>rw[ha]at a;cases a;exact .inl ⟨b,rfl,rfl,rfl⟩
 |redL a b=>rw[ha]at a;cases a;exact .inr (.inl ⟨rfl,b,rfl,rfl,rfl⟩)
 |red a b c=>rw[ha]at a;cases a;exact .inr (.inr ⟨rfl,b,_,c,by omega⟩)
 |tgtE a=>rw[ha]at a;cases a
 |tgtN a=>rw[ha]at a;cases a
 |tgtRE a=>rw[ha]at a;cases a
 |tgtRL a=>rw[ha]at a;cases a
 |tgtR a=>rw[ha]at a;cases a
theorem Br.inv_tgt{a:Tm}(h:Br l x y e k)(ha:wQ l x = .tgt a):∃z ea ka,Br l a z ea ka∧((ea≠0∧y=zT∧e=ea∧k=ka)∨(ea=0∧((uJ l x z=none∧y=x∧e=0∧k=ka)∨∃Y e0,uJ l x z=some (Y,e0)∧zWr l Y e0 ka y e k))):=by
 cases h with
 |stop a=>rw[ha]at a;cases a
 |redE a b=>rw[ha]at a;cases a
 |redL a b=>rw[ha]at a;cases a
 |red a b c=>rw[ha]at a;cases a
 |tgtE a b c=>rw[ha]at a;cases a;exact⟨_,_,_,b,.inl ⟨c,rfl,rfl,rfl⟩⟩
 |tgtN a b c=>rw[ha]at a;cases a;exact⟨_,_,_,b,.inr ⟨rfl,.inl ⟨c,rfl,rfl,rfl⟩⟩⟩
 |tgtRE a b c d=>rw[ha]at a;cases a;exact⟨_,_,_,b,.inr ⟨rfl,.inr ⟨_,_,c,.inl ⟨d,rfl,rfl,rfl⟩⟩⟩⟩
 |tgtRL a b c d=>rw[ha]at a;cases a;exact⟨_,_,_,b,.inr ⟨rfl,.inr ⟨_,_,c,.inr (.inl ⟨rfl,d,rfl,rfl,rfl⟩)⟩⟩⟩
 |tgtR a b c d f=>rw[ha]at a;cases a;exact⟨_,_,_,b,.inr ⟨rfl,.inr ⟨_,_,c,.inr (.inr ⟨rfl,d,_,f,rfl⟩)⟩⟩⟩
theorem Br.det(h:Br l x y e k):∀ {y':Tm} {e' k':Int},Br l x y' e' k'->y'=y∧e'=e∧k'=k:=by
 induction h with
 |stop a=>intro y' e' k' h2;exact h2.inv_none a
 |redE a b=>
  intro y' e' k' h2
  rcases h2.inv_red a with⟨c,d⟩|⟨c,d⟩|⟨c,d⟩
  ·exact d
  ·exact absurd c b
  ·exact absurd c b
 |redL a b=>
  intro y' e' k' h2
  rcases h2.inv_red a with⟨c,d⟩|⟨c,d,f⟩|⟨c,d,f⟩
  ·exact absurd rfl c
  ·exact f
  ·rw[b]at d;cases d
 |red a b c ih=>
  intro y' e' k' h2
  rcases h2.inv_red a with⟨c,d⟩|⟨c,d,f⟩|⟨c,d,n,f,g⟩
  ·exact absurd rfl c
  ·rw[b]at d;cases d
  ·obtain⟨rfl,rfl,rfl⟩:=ih f;exact⟨rfl,rfl,by omega⟩
 |tgtE a b c ih=>
  intro y' e' k' h2
  obtain⟨z',ea,ka,hb',h3⟩:=h2.inv_tgt a
  obtain⟨rfl,rfl,rfl⟩:=ih hb'
  rcases h3 with⟨_,d⟩|⟨d,_⟩
  ·exact d
  ·exact absurd d c
 |tgtN a b c ih=>
  intro y' e' k' h2
  obtain⟨z',ea,ka,hb',h3⟩:=h2.inv_tgt a
  obtain⟨rfl,rfl,rfl⟩:=ih hb'
  rcases h3 with⟨d,_⟩|⟨_,⟨_,d⟩|⟨Y,e0,d,_⟩⟩
  ·exact absurd rfl d
  ·exact d
  ·rw[c]at d;cases d
 |tgtRE a b c d ih=>
  intro y' e' k' h2
  obtain⟨z',ea,ka,hb',h3⟩:=h2.inv_tgt a
  obtain⟨rfl,rfl,rfl⟩:=ih hb'
  rcases h3 with⟨f,_⟩|⟨_,⟨f,_⟩|⟨Y,e0,f,g⟩⟩
  ·exact absurd rfl f
  ·rw[c]at f;cases f
  ·rw[c]at f;cases f
   rcases g with⟨_,g⟩|⟨g,_⟩|⟨g,_⟩
   ·exact g
   ·exact absurd g d
   ·exact absurd g d
 |tgtRL a b c d ih=>
  intro y' e' k' h2
  obtain⟨z',ea,ka,hb',h3⟩:=h2.inv_tgt a
  obtain⟨rfl,rfl,rfl⟩:=ih hb'
  rcases h3 with⟨f,_⟩|⟨_,⟨f,_⟩|⟨Y,e0,f,g⟩⟩
  ·exact absurd rfl f
  ·rw[c]at f;cases f
  ·rw[c]at f;cases f
   rcases g with⟨g,_⟩|⟨_,_,g⟩|⟨_,g,_⟩
   ·exact absurd rfl g
   ·exact g
   ·rw[d]at g;cases g
 |tgtR a b c d f ih U5=>
  intro y' e' k' h2
  obtain⟨z',ea,ka,hb',h3⟩:=h2.inv_tgt a
  obtain⟨rfl,rfl,rfl⟩:=ih hb'
  rcases h3 with⟨f,_⟩|⟨_,⟨f,_⟩|⟨Y,e0,f,g⟩⟩
  ·exact absurd rfl f
  ·rw[c]at f;cases f
  ·rw[c]at f;cases f
   rcases g with⟨g,_⟩|⟨_,g,_⟩|⟨_,_,n,g,rfl⟩
   ·exact absurd rfl g
   ·rw[d]at g;cases g
   ·obtain⟨rfl,rfl,rfl⟩:=U5 g;exact⟨rfl,rfl,rfl⟩
theorem Br.last(h:Br l x y e k):e=0->∃j,j≤k∧On l y y false 0 j:=by
 induction h with
 |stop a=>exact fun _=>⟨0,by omega,.stop a⟩
 |redE _ h=>exact fun he=>absurd he h
 |redL _ _=>exact fun he=>absurd he (by decide)
 |red _ _ _ ih=>exact fun he=>by obtain⟨j,a,b⟩:=ih he;exact⟨j,by omega,b⟩
 |tgtE _ _ h _=>exact fun he=>absurd he h
 |tgtN a b c _=>exact fun _=>⟨_,by omega,.tgtN a b c⟩
 |tgtRE _ _ _ h _=>exact fun he=>absurd he h
 |tgtRL _ _ _ _ _=>exact fun he=>absurd he (by decide)
 |tgtR _ b _ _ _ _ ih=>exact fun he=>by obtain⟨j,a,c⟩:=ih he;exact⟨j,by have:=b.nn;omega,c⟩
theorem On.det{Y Y':Tm}{d d':Bool}{e e' k k':Int}(h:On l x Y d e k)(h':On l x Y' d' e' k'):Y'=Y∧d'=d∧e'=e∧k'=k:=by
 cases h with
 |stop a=>
  cases h' with
  |stop _=>exact⟨rfl,rfl,rfl,rfl⟩
  |redE b=>rw[a]at b;cases b
  |redL b=>rw[a]at b;cases b
  |red b=>rw[a]at b;cases b
  |tgtE b=>rw[a]at b;cases b
  |tgtN b=>rw[a]at b;cases b
  |tgtRE b=>rw[a]at b;cases b
  |tgtRL b=>rw[a]at b;cases b
  |tgtR b=>rw[a]at b;cases b
 |redE a c=>
  cases h' with
  |redE b=>rw[a]at b;cases b;exact⟨rfl,rfl,rfl,rfl⟩
  |redL b=>rw[a]at b;cases b;exact absurd rfl c
  |red b=>rw[a]at b;cases b;exact absurd rfl c
  |stop b=>rw[a]at b;cases b
  |tgtE b=>rw[a]at b;cases b
  |tgtN b=>rw[a]at b;cases b
  |tgtRE b=>rw[a]at b;cases b
  |tgtRL b=>rw[a]at b;cases b
  |tgtR b=>rw[a]at b;cases b
 |redL a c=>
  cases h' with
  |redE b d=>rw[a]at b;cases b;exact absurd rfl d
  |redL b=>exact⟨rfl,rfl,rfl,rfl⟩
  |red b d=>rw[a]at b;cases b;rw[c]at d;cases d
  |stop b=>rw[a]at b;cases b
  |tgtE b=>rw[a]at b;cases b
  |tgtN b=>rw[a]at b;cases b
  |tgtRE b=>rw[a]at b;cases b
  |tgtRL b=>rw[a]at b;cases b
  |tgtR b=>rw[a]at b;cases b
 |red a c=>
  cases h' with
  |redE b d=>rw[a]at b;cases b;exact absurd rfl d
  |redL b d=>rw[a]at b;cases b;rw[c]at d;cases d
  |red b d=>rw[a]at b;cases b;exact⟨rfl,rfl,rfl,rfl⟩
  |stop b=>rw[a]at b;cases b
  |tgtE b=>rw[a]at b;cases b
  |tgtN b=>rw[a]at b;cases b
  |tgtRE b=>rw[a]at b;cases b
  |tgtRL b=>rw[a]at b;cases b
  |tgtR b=>rw[a]at b;cases b
 |tgtE a c f=>
  cases h' with
  |stop b=>rw[a]at b;cases b
  |redE b=>rw[a]at b;cases b
  |redL b=>rw[a]at b;cases b
  |red b=>rw[a]at b;cases b
  |tgtE b g=>rw[a]at b;cases b;obtain⟨-,rfl,rfl⟩:=c.det g;exact⟨rfl,rfl,rfl,rfl⟩
  |tgtN b g=>rw[a]at b;cases b;exact absurd (c.det g).2.1.symm f
  |tgtRE b g=>rw[a]at b;cases b;exact absurd (c.det g).2.1.symm f
  |tgtRL b g=>rw[a]at b;cases b;exact absurd (c.det g).2.1.symm f
  |tgtR b g=>rw[a]at b;cases b;exact absurd (c.det g).2.1.symm f
 |tgtN a c f=>
  cases h' with
  |stop b=>rw[a]at b;cases b
  |redE b=>rw[a]at b;cases b
  |redL b=>rw[a]at b;cases b
  |red b=>rw[a]at b;cases b
  |tgtE b g n=>rw[a]at b;cases b;exact absurd (c.det g).2.1 n
  |tgtN b g=>rw[a]at b;cases b;obtain⟨-,-,rfl⟩:=c.det g;exact⟨rfl,rfl,rfl,rfl⟩
  |tgtRE b g n=>rw[a]at b;cases b;obtain⟨rfl,-,-⟩:=c.det g;rw[f]at n;cases n
  |tgtRL b g n=>rw[a]at b;cases b;obtain⟨rfl,-,-⟩:=c.det g;rw[f]at n;cases n
  |tgtR b g n=>rw[a]at b;cases b;obtain⟨rfl,-,-⟩:=c.det g;rw[f]at n;cases n
 |tgtRE a c f n0=>
  cases h' with
  |stop b=>rw[a]at b;cases b
  |redE b=>rw[a]at b;cases b
  |redL b=>rw[a]at b;cases b
  |red b=>rw[a]at b;cases b
  |tgtE b g n=>rw[a]at b;cases b;exact absurd (c.det g).2.1 n
  |tgtN b g n=>rw[a]at b;cases b;obtain⟨rfl,-,-⟩:=c.det g;rw[f]at n;cases n
  |tgtRE b g n=>rw[a]at b;cases b;obtain⟨rfl,-,rfl⟩:=c.det g;rw[f]at n;cases n;exact⟨rfl,rfl,rfl,rfl⟩
  |tgtRL b g n=>rw[a]at b;cases b;obtain⟨rfl,-,-⟩:=c.det g;rw[f]at n;cases n;exact absurd rfl n0
  |tgtR b g n=>rw[a]at b;cases b;obtain⟨rfl,-,-⟩:=c.det g;rw[f]at n;cases n;exact absurd rfl n0
 |tgtRL a c f n0=>
  cases h' with
  |stop b=>rw[a]at b;cases b
  |redE b=>rw[a]at b;cases b
  |redL b=>rw[a]at b;cases b
  |red b=>rw[a]at b;cases b
  |tgtE b g n=>rw[a]at b;cases b;exact absurd (c.det g).2.1 n
  |tgtN b g n=>rw[a]at b;cases b;obtain⟨rfl,-,-⟩:=c.det g;rw[f]at n;cases n
  |tgtRE b g n m=>rw[a]at b;cases b;obtain⟨rfl,-,-⟩:=c.det g;rw[f]at n;cases n;exact absurd rfl m
  |tgtRL b g n=>rw[a]at b;cases b;obtain⟨rfl,-,rfl⟩:=c.det g;exact⟨rfl,rfl,rfl,rfl⟩
  |tgtR b g n m=>rw[a]at b;cases b;obtain⟨rfl,-,-⟩:=c.det g;rw[f]at n;cases n;rw[n0]at m;cases m
 |tgtR a c f n0=>
  cases h' with
  |stop b=>rw[a]at b;cases b
  |redE b=>rw[a]at b;cases b
  |redL b=>rw[a]at b;cases b
  |red b=>rw[a]at b;cases b
  |tgtE b g n=>rw[a]at b;cases b;exact absurd (c.det g).2.1 n
  |tgtN b g n=>rw[a]at b;cases b;obtain⟨rfl,-,-⟩:=c.det g;rw[f]at n;cases n
  |tgtRE b g n m=>rw[a]at b;cases b;obtain⟨rfl,-,-⟩:=c.det g;rw[f]at n;cases n;exact absurd rfl m
  |tgtRL b g n m=>rw[a]at b;cases b;obtain⟨rfl,-,-⟩:=c.det g;rw[f]at n;cases n;rw[n0]at m;cases m
  |tgtR b g n=>rw[a]at b;cases b;obtain⟨rfl,-,rfl⟩:=c.det g;rw[f]at n;cases n;exact⟨rfl,rfl,rfl,rfl⟩
end
section
variable {l:List yI} {x y:Tm} {e k:Int}
theorem On.tgt_lt{a Y:Tm}{d:Bool}{f:Int}(h:On l x Y d e k)(ha:wQ l x = .tgt a)(hl:∀z e k,Br l a z e k->f<k):f<k:=by
 cases h with
 |stop b=>rw[ha]at b;cases b
 |redE b=>rw[ha]at b;cases b
 |redL b=>rw[ha]at b;cases b
 |red b=>rw[ha]at b;cases b
 |tgtE b g=>rw[ha]at b;cases b;exact hl _ _ _ g
 |tgtN b g=>rw[ha]at b;cases b;exact hl _ _ _ g
 |tgtRE b g=>rw[ha]at b;cases b;exact hl _ _ _ g
 |tgtRL b g=>rw[ha]at b;cases b;have:=hl _ _ _ g;omega
 |tgtR b g=>rw[ha]at b;cases b;have:=hl _ _ _ g;omega
theorem On.red_lt{Y Z:Tm}{d:Bool}{e0:Int}(h:On l x Y d e k)(ha:wQ l x = .red Z e0)(h0:e0=0):k=1:=by
 subst h0
 cases h with
 |stop b=>rw[ha]at b;cases b
 |redE b c=>rw[ha]at b;cases b;exact absurd rfl c
 |redL b=>rfl
 |red b=>rfl
 |tgtE b g=>rw[ha]at b;cases b
 |tgtN b g=>rw[ha]at b;cases b
 |tgtRE b g=>rw[ha]at b;cases b
 |tgtRL b g=>rw[ha]at b;cases b
 |tgtR b g=>rw[ha]at b;cases b
theorem Br.first(h:Br l x y e k):∃Y d e1 k1,On l x Y d e1 k1∧k1≤k:=by
 cases h with
 |stop a=>exact⟨_,_,_,_,.stop a,by omega⟩
 |redE a b=>exact⟨_,_,_,_,.redE a b,by omega⟩
 |redL a b=>exact⟨_,_,_,_,.redL a b,by omega⟩
 |red a b c=>exact⟨_,_,_,_,.red a b,by have:=c.nn;omega⟩
 |tgtE a b c=>exact⟨_,_,_,_,.tgtE a b c,by omega⟩
 |tgtN a b c=>exact⟨_,_,_,_,.tgtN a b c,by omega⟩
 |tgtRE a b c d=>exact⟨_,_,_,_,.tgtRE a b c d,by omega⟩
 |tgtRL a b c d=>exact⟨_,_,_,_,.tgtRL a b c d,by omega⟩
 |tgtR a b c d f=>exact⟨_,_,_,_,.tgtR a b c d,by have:=f.nn;omega⟩
theorem Br.after{Y:Tm}{k1:Int}(h:Br l x y e k)(hO:On l x Y true 0 k1):∃k2,Br l Y y e k2∧k=k1+k2:=by
 cases hO with
 |red a b=>
  rcases h.inv_red a with⟨c,-⟩|⟨-,c,-⟩|⟨-,-,n,f,g⟩
  ·exact absurd rfl c
  ·rw[b]at c;cases c
  ·exact⟨n,f,by omega⟩
 |tgtR a b c d=>
  obtain⟨z',ea,ka,hb',h3⟩:=h.inv_tgt a
  obtain⟨rfl,rfl,rfl⟩:=b.det hb'
  rcases h3 with⟨f,_⟩|⟨_,⟨f,_⟩|⟨Y,e0,f,g⟩⟩
  ·exact absurd rfl f
  ·rw[c]at f;cases f
  ·rw[c]at f;cases f
   rcases g with⟨g,_⟩|⟨_,g,_⟩|⟨_,_,n,g,rfl⟩
   ·exact absurd rfl g
   ·rw[d]at g;cases g
   ·exact⟨n,g,by omega⟩
end
def zTi(qq:Nat)(M:wA)(p1:Tm):Option Bool:=
 zCB qq p1 1048577 (M.l.length:Int)>>=fun r1=>
 some r1
theorem zZq{qq M p1 r}(h:zTi qq M p1=some r):Ct 136 [mB M 1,mR M] [.mp 0 0,yY p1] (ab r) [mB M 1,mR M] 0:=⟨by
 unfold zTi at h
 obtain⟨r1,h2,h⟩:=zC h
 obtain rfl:=sj h
 exact tF ⟨func136,rfl⟩ 0 [0,1] (sP M<|oC 4 [] (zET h2) o0),⟨(lz rfl),⟨tv,tv,⟨tv,dT _⟩,tv⟩,tv⟩,(nW (lz rfl) zB),tv,(pW (lz rfl) zB)⟩
def zFP(qq:Nat)(M:wA)(p1:Tm)(fl fu:Int):Option (Tm×Int×Int×Int):=
 zTi qq M p1>>=fun r1=>
 if r1 then
 zDu qq M p1 fl fu>>=fun r4=>
 if r4.2.1 != 0 then
 some ((Tm.mk 0 0 []),r4.2.1,r4.2.2.1,r4.2.2.2)
 else
 e53 qq r4.1>>=fun r7=>
 some (r7,0,r4.2.2.1,r4.2.2.2)
 else
 some ((Tm.mk 0 0 []),5,fl,fu)
theorem zWq:Qf 100 f100:=⟨func100,rfl⟩
theorem zWp{qq M p1 fl fu r}(h:zFP qq M p1 fl fu=some r):Ct 100 [mB M 1,mR M,.cells [ai fl,ai fu]] [.mp 0 0,yY p1,.mp 2 0] (.tup [yY r.1,ai r.2.1]) [mB M 1,mR M,.cells [ai r.2.2.1,ai r.2.2.2]] 0:=⟨by
 unfold zFP at h
 obtain⟨r1,h2,h⟩:=zC h
 obtain⟨h3,h⟩|⟨h3,h⟩:=zU h
 obtain⟨r4,h5,h⟩:=zC h
 have k:=oC 2 [0,1,2] (yBM h5)<|oK 1 [0,1] h3 (zZq h2) o0
 obtain⟨h6,h⟩|⟨h6,h⟩:=zU h
 cases h
 exact tF zWq 1 [0,1,2] (oD (dT ([]:yM))<|sP M<|oB 3 h6 k)
 obtain⟨r7,h8,h⟩:=zC h
 cases h
 exact tF zWq 1 [0,1,2] (oD (dT r7.sub)<|sP M<|oC 1 [] (c53 h8)<|oB 3 h6 k)
 cases h
 exact tF zWq 2 [0,1,2] (oD (dT ([]:yM))<|sP M<|oK 1 [0,1] h3 (zZq h2) o0),⟨(lz rfl),⟨tv,tv,⟨tv,dT _⟩,tv⟩,(lz rfl),tv⟩,(nW (lz rfl) (zA ⟨tv,tv,tv⟩ zB)),⟨⟨tv,tv,dT _,tv⟩,tv,tv⟩,(pW (lz rfl) (zA ⟨tv,tv,tv⟩ zB))⟩
theorem Br.shaped{l:List yI}{x y:Tm}{e k:Int}(h:Br l x y e k):zH x=true->e=0->zH y=true:=by
 induction h with
 |stop _=>exact fun hs _=>hs
 |redE _ h=>exact fun _ he=>absurd he h
 |redL _ _=>exact fun _ he=>absurd he (by decide)
 |red _ hY _ ih=>exact fun _ he=>ih hY he
 |tgtE _ _ h _=>exact fun _ he=>absurd he h
 |tgtN _ _ _ _=>exact fun hs _=>hs
 |tgtRE _ _ _ h _=>exact fun _ he=>absurd he h
 |tgtRL _ _ _ _ _=>exact fun _ he=>absurd he (by decide)
 |tgtR _ _ _ hY _ _ ih=>exact fun _ he=>ih hY he
theorem zDt{Q:(Int->Int->Tm×Bool×Int×Int×Int)->Int->Prop}(p Y:Tm)(f:Int)(hf:0≤f)(ho:Y.Ok)(hL:zH Y=false->Q (fun L U=>(zT,true,2,L,U)) 1)(hS:zH Y=true->Q (fun L U=>(Y,true,0,L,U)) 1){S:Prop}(hsh:f<1->S) :
  Ou (fun L U q=>(e98 q L U)>>=fun r28=>if (r28.1 != 0)=true then some (p,false,r28.1,r28.2.1,r28.2.2)else(O9 q Y)>>=fun r31=>some (r31.1,true,r31.2,r28.2.1,r28.2.2)) er5 Q S f:=by
 refine Ou.bind (zTp f hf) hsh (fun r hr=>⟨_,zJ.ifT (by show (r.1 != 0)=true;rw[show r.1=8 from hr];decide) zJ.ret,hr⟩) ?_
 rintro R k k0 k1 ⟨rfl,rfl⟩
 dsimp only
 refine Ou.ifF rfl (Ou.evt (zIp Y ho) ?_)
 unfold zWv
 cases h:zH Y with
 |true=>exact Ou.ret (by omega) (hS h)
 |false=>exact Ou.ret (by omega) (hL h)
theorem zFQ(l:List yI)(p:Tm)(f:Int)(hf:0≤f){g:Int->Int->Nat->Option (Tm×Bool×Int×Int×Int)}(h:Ou g er5 (QF l p) (∃a,wQ l p = .tgt a∧∀z e k,Br l a z e k->f<k) f) :
  Ou (fun L U q=>g L U q>>=fun r36=>if r36.2.1=true then(if (r36.2.2.1 != 0)=true then some (p,false,r36.2.2.1,r36.2.2.2.1,r36.2.2.2.2)else
   (e98 q r36.2.2.2.1 r36.2.2.2.2)>>=fun r40=>if (r40.1 != 0)=true then some (p,false,r40.1,r40.2.1,r40.2.2)else(O9 q r36.1)>>=fun r43=>some (r43.1,true,r43.2,r40.2.1,r40.2.2))
   else(if (r36.2.2.1 != 0)=true then some (p,false,r36.2.2.1,r36.2.2.2.1,r36.2.2.2.2)else some (p,false,r36.2.2.1,r36.2.2.2.1,r36.2.2.2.2))) er5 (QO l p) (∀Y d e k,On l p Y d e k->f<k) f:=by
 refine Ou.bind h (fun⟨a,ha,h⟩ Y d e k hO=>hO.tgt_lt ha h) (fun r hr=>?_) ?_
 ·have hr':(r.2.2.1 != 0)=true:=by rw[show r.2.2.1=8 from hr];decide
  cases hd:r.2.1 with
  |true=>exact⟨_,zJ.ifT rfl (zJ.ifT hr' zJ.ret),hr⟩
  |false=>exact⟨_,zJ.ifF rfl (zJ.ifT hr' zJ.ret),hr⟩
 ·rintro R k k0 k1 (⟨ha,rfl,Y,rfl⟩|⟨a,z,e,ha,hb,⟨he,Y,rfl⟩|⟨rfl,⟨hr,Y,rfl⟩|⟨Y,e',hY,hr,rfl⟩⟩⟩)
  ·exact Ou.ifF rfl (Ou.ifF rfl (Ou.ret (by omega) ⟨p,false,0,On.stop ha,rfl⟩))
  ·dsimp only
   exact Ou.ifF rfl (Ou.ifT (by simpa using he) (Ou.ret (by omega) ⟨p,false,e,by rw[Int.add_zero];exact On.tgtE ha hb he,rfl⟩))
  ·exact Ou.ifF rfl (Ou.ifF rfl (Ou.ret (by omega) ⟨p,false,0,by rw[Int.add_zero];exact On.tgtN ha hb hr,rfl⟩))
  ·dsimp only
   refine Ou.ifT rfl (Ou.ite (fun h=>?_) fun h=>?_)
   ·exact Ou.ret (by omega) ⟨p,false,e',by rw[Int.add_zero];exact On.tgtRE ha hb hr (by simpa using h),rfl⟩
   ·have he:e'=0:=by simpa using h
    subst he
    refine zDt p Y (f-k) (by omega) hY (fun hs=>⟨_,_,_,On.tgtRL ha hb hr hs,rfl⟩) (fun hs=>⟨_,_,_,On.tgtR ha hb hr hs,rfl⟩) (fun h Y' d' e' k' hO=>?_)
    cases hsY:zH Y with
    |true=>have:=(On.tgtR ha hb hr hsY).det hO;omega
    |false=>have:=(On.tgtRL ha hb hr hsY).det hO;omega
theorem zQm{N:ByteArray->Bool}(l:List yI)(hE:wP N l)(he:∀e∈l,eK e)(x:Tm)(hs:zH x=true)(f:Int)(hf:0≤f)(hb:∀a∈yS x,HB l a f):Ou (fun L U q=>zQq q (wW l) x L U) er5 (QO l x) (∀Y d e k,On l x Y d e k->f<k) f:=by
 have hB:∀a y k,zH a=true->Br l a y 0 k->zH y=true:=fun a y k h1 h2=>h2.shaped h1 rfl
 have hh:=uP hs
 have hg:=(zO hh).2.2
 have hn:=kY hg
 have ho:sL (yS x):=fun y hy=>yB (xI hs hy)
 have hl:(yS x).length≤8192:=by
  have h:=zO hs
  have:=rE _ h.2.2
  omega
 refine Ou.succ ?_
 simp only[zQq,cH,n8,eP]
 refine Ou.evt (jL x hs) (Ou.ite (fun h4=>?_) fun h4=>?_)
 ·have h4':(yF x).k=4:=by simpa using h4
  have hkk:∀k:Int,k≠0->wH l (yF x)≠k:=fun k hk e=>by have:=(wD e hk).1;omega
  refine Ou.ite (fun hlen=>?_) fun hlen=>?_
  ·have hlen':((yS x).length:Int)>0:=of_decide_eq_true hlen
   obtain⟨a,b,hab,-,hgb⟩:=rN hg (.inr (.inl h4'))
   have hm:tJ (yS x) 0∈yS x:=rW (by omega) (by omega)
   have hbo:(tJ (yF x).sub 1).Ok:=by rw[hab];exact qJ b hgb
   have hact:wQ l x = .red (uF (iV (tJ (yF x).sub 1) [tJ (yS x) 0]).1 ((yS x).drop 1)) (iV (tJ (yF x).sub 1) [tJ (yS x) 0]).2:=by
    unfold wQ
    rw[if_pos ⟨h4',by omega⟩]
   refine Ou.pure (sA (by omega) (by rw[hab];simp)) (Ou.pure (sA (by omega) (by show (0:Int)<((yS x).length:Int);omega)) (Ou.evt (zVb _ _ hbo (ho _ hm)) (Ou.pure (pG (by omega) (by show (1:Int)≤((yS x).length:Int);omega)) (Ou.evt (nK _ _ (by show (List.drop _ (yS x)).length<_;rw[List.length_drop];omega)) ?_))))
   refine Ou.ite (fun h=>Ou.ret hf ⟨_,_,_,On.redE hact (by simpa using h),rfl⟩) fun h=>?_
   have he0:(iV (tJ (yF x).sub 1) [tJ (yS x) 0]).2=0:=by simpa using h
   rw[he0]at hact
   exact zDt x _ f hf (oT _ _ (zJB _ _ hbo (sL.one (ho _ hm))) (ho.drop _)) (fun hs=>⟨_,_,_,On.redL hact hs,rfl⟩) (fun hs=>⟨_,_,_,On.red hact hs,rfl⟩) (fun h Y' d' e' k' hO=>by have:=hO.red_lt hact rfl;omega)
  ·have hlen':¬((yS x).length:Int)>0:=of_decide_eq_false hlen
   have hact:wQ l x = .none:=by
    unfold wQ
    rw[if_neg (fun h=>by omega),if_neg (hkk 3 (by decide)),if_neg (hkk 4 (by decide)),if_neg (by omega)]
   refine Ou.evt (eO l _ hn) (Ou.ifF (by simpa using hkk 3 (by decide)) ?_)
   refine Ou.evt (eO l _ hn) (Ou.ifF (by simpa using hkk 4 (by decide)) ?_)
   exact Ou.ifF (by show ((yF x).k==7)=false;rw[h4'];decide) (Ou.ret hf ⟨_,_,_,On.stop hact,rfl⟩)
 ·have h4':(yF x).k≠4:=by simpa using h4
  refine Ou.evt (eO l _ hn) (Ou.ite (fun h=>?_) fun h=>?_)
  ·have h3:wH l (yF x)=3:=by simpa using h
   have hk:=wD h3 (by decide)
   have hact:wQ l x = .red (uF (ent l (yF x).n).body (yS x)) 0:=by
    unfold wQ
    rw[if_neg (fun h=>h4' h.1),if_pos h3]
   refine Ou.pure (yT hn hk.2.1) (Ou.evt (nK _ _ (by show (yS x).length<_;omega)) ?_)
   exact zDt x _ f hf (oT _ _ (he _ (mH hn hk.2.1)).2.1 ho) (fun hs=>⟨_,_,_,On.redL hact hs,rfl⟩) (fun hs=>⟨_,_,_,On.red hact hs,rfl⟩) (fun h Y' d' e' k' hO=>by have:=hO.red_lt hact rfl;omega)
  ·have h3:wH l (yF x)≠3:=by simpa using h
   refine Ou.evt (eO l _ hn) (Ou.ite (fun h=>?_) fun h=>?_)
   ·exact zFQ l x f hf (zMh l hE x hs f hf h4' (by simpa using h) hb hB)
   ·have h4k:wH l (yF x)≠4:=by simpa using h
    refine Ou.ite (fun h=>zFQ l x f hf (zQn l hE x hs f hf (by simpa using h) hb hB)) fun h=>?_
    have h7:(yF x).k≠7:=by simpa using h
    have hact:wQ l x = .none:=by
     unfold wQ
     rw[if_neg (fun h=>h4' h.1),if_neg h3,if_neg h4k,if_neg h7]
    exact Ou.ret hf ⟨_,_,_,On.stop hact,rfl⟩
theorem zMg{N:ByteArray->Bool}(l:List yI)(hE:wP N l)(he:∀e∈l,eK e):∀(F n:Nat) (x:Tm),zH x=true->x.nodes≤n->Ou (fun L U q=>cG q (wW l) L U x.k x.n x.sub) er4 (fun R k=>∃y e,Br l x y e k∧R=fun L U=>(y,e,L,U)) (∀y e k,Br l x y e k->(F:Int)<k) (F:Int):=by
 intro F
 induction F using Nat.strongRecOn with
 |ind F IH=>
  intro n
  induction n with
  |zero=>intro x _ h;have:=vM x;omega
  |succ n ih=>
   intro x hs hn
   have hg:=(zO hs).2.2
   have hb:∀a∈yS x,HB l a F:=fun a ha=>by
    have:=((kH x hg).2.2.2.2 a ha).2.1
    refine Ou.succ ?_
    simp only[zDu]
    exact ih a (xI hs ha) (by omega)
   refine Ou.succ ?_
   simp only[cG,rD]
   refine Ou.bind (zQm l hE he x hs F (by omega) hb) (fun h y e k hbr=>by obtain⟨Y,d,e1,k1,h1,h2⟩:=hbr.first;have:=h _ _ _ _ h1;omega) (fun r hr=>?_) ?_
   ·have hr':(r.2.2.1 != 0)=true:=by rw[show r.2.2.1=8 from hr];decide
    cases hd:r.2.1 with
    |true=>exact⟨_,zJ.ifT rfl (zJ.ifT hr' zJ.ret),hr⟩
    |false=>exact⟨_,zJ.ifF rfl (zJ.ifT hr' zJ.ret),hr⟩
   ·rintro R k k0 k1 ⟨Y,d,e,hO,rfl⟩
    dsimp only
    by_cases e0:e=0
    ·subst e0
     cases d with
     |true=>
      obtain⟨hY,hk1,hst⟩:=hO.step
      refine Ou.ifT rfl (Ou.ifF rfl ?_)
      have:=IH ((F:Int)-k).toNat (by omega) Y.nodes Y hY (Nat.le_refl _)
      rw[show ((((F:Int)-k).toNat:Nat):Int)=F-k by omega]at this
      refine this.mono ?_ fun h y e k' hbr=>?_
      ·rintro R n _ _ ⟨y,e,hbr,rfl⟩
       exact⟨y,e,hst y e n hbr,rfl⟩
      ·obtain⟨k2,h2,h3⟩:=hbr.after hO
       have:=h _ _ _ h2
       omega
     |false=>
      obtain⟨rfl,hbr⟩:=hO.still
      exact Ou.ifF rfl (Ou.ifF rfl (Ou.ret (by omega) ⟨Y,0,by rwa[Int.add_zero],rfl⟩))
    ·have hb:=hO.err e0
     have hr':(e != 0)=true:=by simpa using e0
     cases d with
     |true=>exact Ou.ifT rfl (Ou.ifT hr' (Ou.ret (by omega) ⟨zT,e,by rwa[Int.add_zero],rfl⟩))
     |false=>exact Ou.ifF rfl (Ou.ifT hr' (Ou.ret (by omega) ⟨zT,e,by rwa[Int.add_zero],rfl⟩))
theorem zWo{N:ByteArray->Bool}(l:List yI)(hE:wP N l)(he:∀e∈l,eK e)(x:Tm)(hs:zH x=true)(f:Int)(hf:0≤f):HB l x f:=by
 refine Ou.succ ?_
 simp only[zDu]
 have:=zMg l hE he f.toNat x.nodes x hs (Nat.le_refl _)
 rwa[show ((f.toNat:Nat):Int)=f by omega]at this
def wT(l:List yI)(x:Tm):Prop:=rC x 1048577 l.length=true
instance (l:List yI) (x:Tm):Decidable (wT l x):=inferInstanceAs (Decidable (_=true))
theorem wT.shaped{l:List yI}{x:Tm}(h:wT l x):zH x=true:=by
 unfold wT rC at h
 simp only[Bool.and_eq_true]at h
 exact h.1.1
def QBR(l:List yI)(x:Tm)(R:Int->Int->Tm×Int×Int×Int)(k:Int):Prop:=
 (¬wT l x∧k=0∧R=fun L U=>(zT,5,L,U))∨(wT l x∧∃y e,Br l x y e k∧R=fun L U=>(if e=0 then y else zT,e,L,U))
theorem zBD{N:ByteArray->Bool}(l:List yI)(hE:wP N l)(he:∀e∈l,eK e)(x:Tm)(ho:x.Ok)(f:Int)(hf:0≤f):Ou (fun L U q=>zFP q (wW l) x L U) er4 (QBR l x) (wT l x∧∀y e k,Br l x y e k->f<k) f:=by
 simp only[zFP,zTi,cH]
 refine Ou.evt (a:=rC x 1048577 l.length) ((eI x _ _ ho).bind zJ.ret) (Ou.ite (fun h=>?_) fun h=>?_)
 ·have hR:wT l x:=h
  refine Ou.bind (zWo l hE he x hR.shaped f hf) (fun h=>⟨hR,h⟩) (fun r hr=>⟨_,zJ.ifT (by show (r.2.1 != 0)=true;rw[show r.2.1=8 from hr];decide) zJ.ret,hr⟩) ?_
  rintro R k k0 k1 ⟨y,e,hbr,rfl⟩
  dsimp only
  by_cases e0:e=0
  ·subst e0
   have hy:=hbr.shaped hR.shaped rfl
   refine Ou.ifF rfl (Ou.evt (a:=y) ((qK y (yB hy)).eq (by unfold lV;rw[if_pos hy])) (Ou.ret (by omega) (.inr ⟨hR,y,0,by rwa[Int.add_zero],rfl⟩)))
  ·refine Ou.ifT (by simpa using e0) (Ou.ret (by omega) (.inr ⟨hR,y,e,by rwa[Int.add_zero],?_⟩))
   rw[if_neg e0];rfl
 ·exact Ou.ret hf (.inl ⟨by unfold wT;rw[h];simp,rfl,rfl⟩)
structure Inv (l:List yI) (I:Tm->Prop):Prop where
 spine:∀t,xB t=true->I t->I (yF t)∧∀a∈yS t,I a
 ap:∀f as0,I f->(∀a∈as0,I a)->I (uF f as0)
 beta:∀(n:Int) (a b x:Tm),I (.mk 4 n [a,b])->I x->I (cD [x] b 0)
 body:∀i:Int,0≤i->i<l.length->(ent l i).kind=3->I (ent l i).body
 step:∀(d:Int) (s:Tm) (lev c:Int) (args own:List Tm),I (.mk 7 d [s])->aN l c 2=true->(ent l c).fam=d->(args.length:Int)=(ent l d).pars+1+(ent l d).cons.length->own.length=(vL l c).args.length->(∀a∈args,I a)->(∀a∈own,I a)->I (G9 l d lev c args own)
theorem zTh{l:List yI}{I:Tm->Prop}(hI:Inv l I){x Y:Tm}(hs:zH x=true)(hx:I x)(h:wQ l x = .red Y 0):I Y:=by
 have hsp:=hI.spine x (zO hs).2.2 hx
 have hg:=(zO (uP hs)).2.2
 unfold wQ at h
 by_cases h1:(yF x).k=4∧0<(yS x).length
 ·rw[if_pos h1]at h
  have hm:tJ (yS x) 0∈yS x:=rW (by omega) (by omega)
  obtain⟨a,b,hab,-,-⟩:=rN hg (.inr (.inl h1.1))
  have hhd:yF x = .mk 4 (yF x).n [a,b]:=by rw[←h1.1,←hab,rD]
  injection h with hY he
  rw[(zCR he).2.2.2]at hY
  rw[←hY]
  refine hI.ap _ _ ?_ fun y hy=>hsp.2 y (List.mem_of_mem_drop hy)
  have hb:tJ (yF x).sub 1=b:=by rw[hab];rfl
  rw[hb]
  exact hI.beta (yF x).n a b _ (by rw[←hhd];exact hsp.1) (hsp.2 _ hm)
 ·rw[if_neg h1]at h
  by_cases h2:wH l (yF x)=3
  ·rw[if_pos h2]at h
   injection h with hY he
   rw[←hY]
   have hk:=wD h2 (by decide)
   exact hI.ap _ _ (hI.body _ (kY hg) hk.2.1 hk.2.2) hsp.2
  ·rw[if_neg h2]at h
   split at h
   ·split at h<;>cases h
   ·split at h
    ·split at h<;>cases h
    ·cases h
theorem W0{N:ByteArray->Bool}{l:List yI}(hE:wP N l){x a:Tm}(hs:zH x=true)(h:wQ l x = .tgt a):a∈yS x∧(wH l (yF x)=4∨((yF x).k=7∧aN l (yF x).n 1=true∧wG (ent l (yF x).n)≤(yS x).length)):=by
 have hn:=kY (zO (uP hs)).2.2
 unfold wQ at h
 by_cases h1:(yF x).k=4∧0<(yS x).length
 ·rw[if_pos h1]at h;cases h
 ·rw[if_neg h1]at h
  by_cases h2:wH l (yF x)=3
  ·rw[if_pos h2]at h;cases h
  ·rw[if_neg h2]at h
   by_cases h3:wH l (yF x)=4
   ·rw[if_pos h3]at h
    split at h
    ·cases h
    ·injection h with h
     have hk:=wD h3 (by decide)
     have hp:=(xD (hE.2 _ hn hk.2.1)).2.2.2.1 hk.2.2
     unfold F5 at hp
     simp only[Bool.and_eq_true]at hp
     have hw:=rK hp.1
     have hfam:=wU ((xD (hE.2 _ hw.1 (by omega))).2.1 hw.2.2.1)
     rw[←h]
     exact⟨rW (by omega) (by omega),.inl h3⟩
   ·rw[if_neg h3]at h
    by_cases h4:(yF x).k=7
    ·rw[if_pos h4]at h
     split at h
     ·rename_i h5
      injection h with h
      have hi:=tM h5.1
      have hfam:=wU ((xD (hE.2 _ hi.1 hi.2.1)).2.1 hi.2.2)
      have h6:=h5.2
      unfold wG at h6 h
      rw[if_pos hi.2.2]at h6 h
      rw[←h]
      exact⟨rW (by omega) (by omega),.inr ⟨h4,h5⟩⟩
     ·cases h
    ·rw[if_neg h4]at h;cases h
theorem zMf{N:ByteArray->Bool}{l:List yI}{I:Tm->Prop}(hE:wP N l)(hI:Inv l I){x y Y a:Tm}(hs:zH x=true)(hsy:zH y=true)(hx:I x)(hy:I y)(ha:wQ l x = .tgt a)(h:uJ l x y=some (Y,0)):I Y:=by
 have hsp:=hI.spine x (zO hs).2.2 hx
 have hsy2:=hI.spine y (zO hsy).2.2 hy
 have hg:=(zO (uP hs)).2.2
 have hox:sL (yS x):=fun z hz=>yB (xI hs hz)
 have hoy:sL (yS y):=fun z hz=>yB (xI hsy hz)
 have hlx:(yS x).length≤8192:=by
  have h:=zO hs
  have:=rE _ h.2.2
  omega
 have hly:(yS y).length≤8192:=by
  have h:=zO hsy
  have:=rE _ h.2.2
  omega
 have hca:=(W0 hE hs ha).2
 unfold uJ at h
 by_cases h4:wH l (yF x)=4
 ·rw[if_pos h4]at h
  split at h
  ·simp only[Option.some.injEq,Prod.mk.injEq]at h
   have hX:=(eR l (yF x).n ((yS y).drop (ent l (yF y).n).pars.toNat) hE (hoy.drop _) (by rw[List.length_drop];omega)).2.2.2 h.2
   rw[←h.1]
   refine hI.ap _ _ ?_ fun z hz=>hsp.2 z (List.mem_of_mem_drop hz)
   rw[hX.2.2.2]
   exact hsy2.2 _ (List.mem_of_mem_drop (rW hX.2.1 hX.2.2.1))
  ·cases h
 ·rw[if_neg h4]at h
  obtain⟨h7,-,-⟩:=hca.resolve_left h4
  split at h
  ·simp only[Option.some.injEq,Prod.mk.injEq]at h
   have hX:=(gR l (yF x).n (tJ (yF x).sub 0).n (yF y).n ((yS x).take ((ent l (yF x).n).pars+1+(ent l (yF x).n).cons.length).toNat) ((yS y).drop (ent l (yF x).n).pars.toNat) hE (hox.take _) (hoy.drop _) (by rw[List.length_take];omega) (by rw[List.length_drop];omega)).2.2.2 h.2
   rw[←h.1]
   refine hI.ap _ _ ?_ fun z hz=>hsp.2 z (List.mem_of_mem_drop hz)
   obtain⟨-,-,b1,b2,b3,b4,-,-,b5,-⟩:=hX
   rw[b5]
   obtain⟨s,hsb⟩:∃s,(yF x).sub=[s]:=by
    revert hg h7
    generalize yF x=w
    intro hg h7
    obtain⟨kk,nn,ss⟩:=w
    obtain⟨s,hs,-⟩:=(vN (wF hg).1).2.2.2.2.2.2.1 h7
    exact⟨s,hs⟩
   have hhd:yF x = .mk 7 (yF x).n [s]:=by rw[←h7,←hsb,rD]
   exact hI.step _ s _ _ _ _ (by rw[←hhd];exact hsp.1) b1 b2 b3 b4 (fun z hz=>hsp.2 z (List.mem_of_mem_take hz)) (fun z hz=>hsy2.2 z (List.mem_of_mem_drop hz))
  ·cases h
theorem Br.inv{N:ByteArray->Bool}{l:List yI}{I:Tm->Prop}(hE:wP N l)(hI:Inv l I){x y:Tm}{e k:Int}(h:Br l x y e k):zH x=true->e=0->I x->I y:=by
 induction h with
 |stop _=>exact fun _ _ hx=>hx
 |redE _ h=>exact fun _ he=>absurd he h
 |redL _ _=>exact fun _ he=>absurd he (by decide)
 |red a hY _ ih=>exact fun hs he hx=>ih hY he (zTh hI hs hx a)
 |tgtE _ _ h _=>exact fun _ he=>absurd he h
 |tgtN _ _ _ _=>exact fun _ _ hx=>hx
 |tgtRE _ _ _ h _=>exact fun _ he=>absurd he h
 |tgtRL _ _ _ _ _=>exact fun _ he=>absurd he (by decide)
 |tgtR a b c hY _ ih U5=>
  intro hs he hx
  have hm:=(W0 hE hs a).1
  have hsa:=xI hs hm
  exact U5 hY he (zMf hE hI hs (b.shaped hsa rfl) hx (ih hsa rfl ((hI.spine _ (zO hs).2.2 hx).2 _ hm)) a c)
theorem P1{N:ByteArray->Bool}{l:List yI}(hE:wP N l){P:Int->Int->Prop}(hP:∀k n:Int,k≠8->(k=6∨k=7->n<l.length)->P k n):Inv l (xM P) where
 spine:=fun t hg h=>lI t hg h
 ap:=fun f as0 hf ha=>gH as0 f (hP 5 0 (by decide) (by omega)) hf ha
 beta:=fun n a b x h hx=>by
  rw[xM,wM,wM,wM]at h
  exact zCT [x] (fun y hy=>by rw[List.mem_singleton.1 hy];exact hx) b 0 h.2.2.1
 body:=fun i h0 h1 hk=>by
  have hd:=(xD (hE.2 i h0 h1)).2.2.2.2.1 hk
  unfold zHR at hd
  simp only[Bool.and_eq_true]at hd
  exact oV (fun k n h=>hP k n h.2 fun h'=>by have:=h.1 h';omega) (G6 hd.1)
 step:=fun d s lev c args own h7 hc hf ha ho h1 h2=>by
  have hi:=tM hc
  obtain⟨A,y,hw,-⟩:=tX hE hi.1 hi.2.1 hi.2.2
  rw[xM]at h7
  refine zMk (hP 4 0 (by decide) (by omega)) (hP 5 0 (by decide) (by omega)) (hP 0 0 (by decide) (by omega)) (hP 2 _ (by decide) (by omega)) (h7.1.resolve_left (by decide)) h1 h2 ?_
  exact zIt (by rw[hw]) (oV (fun k n h=>hP k n h.2 fun h'=>by have:=h.1 h';omega) (G6 (xD (hE.2 _ hi.1 hi.2.1)).1))
theorem zWn{N:ByteArray->Bool}{l:List yI}(hE:wP N l)(V:Int->Prop):Inv l (fun t=>∀j∈sF t 0,V j) where
 spine:=fun t hg h=>⟨fun j hj=>h j ((G5 t hg 0 j).1 hj),fun a ha j hj=>h j ((G5 t hg 0 j).2 a ha hj)⟩
 ap:=fun f as0 hf ha j hj=>by
  rcases(zBc as0 f 0 j).1 hj with h|⟨a,h1,h2⟩
  ·exact hf j h
  ·exact ha a h1 j h2
 beta:=fun n a b x h hx j hj=>by
  obtain⟨i,hi,h1|⟨h1,h2⟩⟩:=zPa [x] b 0 j (Int.le_refl 0) hj
  ·refine h j (zPC.2 (.inr ?_))
   simp only[List.length_cons,List.length_nil]at h1
   have:=(jQ b 0 1 j (by omega)).2 ⟨by omega,by rwa[show j+1=i by omega]⟩
   exact this
  ·simp only[List.length_cons,List.length_nil]at h1
   refine hx j ?_
   have e:i.toNat=0:=by omega
   simpa[e]using h2
 body:=fun i h0 h1 hk j hj=>by
  have hd:=(xD (hE.2 i h0 h1)).2.2.2.2.1 hk
  unfold zHR at hd
  simp only[Bool.and_eq_true]at hd
  exact absurd hj (zBb hd.1 0 j (Int.le_refl 0))
 step:=fun d s lev c args own h7 hc hf ha ho h1 h2 j hj=>by
  rcases zTs hE hc hf ha ho hj with⟨a,h3,h4⟩|⟨a,h3,h4⟩
  ·exact h1 a h3 j h4
  ·exact h2 a h3 j h4
def aV:Nat->yM->Int->Option Int
 |0,_,_=>none
 |qq+1,v3,v4=>
 if decide ((v3.length:Int)>0)then
 if decide (v4≤8192)then
 zW v3 (xL ((v3.length:Int)-1))>>=fun x3=>
 fK v3 0 (xL ((v3.length:Int)-1))>>=fun x5=>
 xF 40 ([]:yM) x5>>=fun l7=>
 fK x3.sub 0 (zUY (x3.sub.length:Int) 8193)>>=fun x10=>
 xF 40 l7 x10>>=fun l12=>
 aV qq l12 (xL (v4+1))
 else
 some v4
 else
 some v4
def e15(qq:Nat)(p0:Tm):Option Int:=
 aV qq [p0] 0
theorem zWm:∀qq:Nat,(∀ {v3 v4 r},aV qq v3 v4=some r->(∀j,dL 0 (pt 4069 Tryz.f15) (sp j 39 0 [(3,zV zD v3 .full),(4,ai v4)]) (⟨[],0,[],0,[]⟩) (fQ 0 (nQ 0 Tryz.f15 (ai r) [] 0) [.blk 0,.seq (pt 255 Tryz.f15)]))∧(∀j,dL 0 (pt 4069 Tryz.f15) (sp j 39 0 [(3,zV zD v3 (.st 0 3)),(4,ai v4)]) (⟨[],0,[0],1,[]⟩) (fQ 0 (nQ 0 Tryz.f15 (ai r) [] 0) [.blk 0,.seq (pt 255 Tryz.f15)]))):=by
 intro qq
 induction qq with
 |zero=>
  exact fun h=>nn h
 |succ qq ih=>
  intro v3 v4 r h
  rw[aV]at h
  refine⟨?_,?_⟩
  obtain⟨h1,h⟩|⟨h1,h⟩:=zU h
  have k:=oB 1 h1 o0
  obtain⟨h2,h⟩|⟨h2,h⟩:=zU h
  obtain⟨x3,h4,h⟩:=zC h
  obtain⟨x5,h6,h⟩:=zC h
  obtain⟨l7,h8,h⟩:=zC h
  have k:=oF 5 (zJn (o:=.full) h6)<|oA 2 (xH (o:=.full) h4)<|oB 0 h2 k
  by_cases h9:List.length x5=0
  obtain⟨x10,h11,h⟩:=zC h
  obtain⟨l12,h13,h⟩:=zC h
  have k:=oA 4 (mW h11)<|oP 0 (qE h8 h9) k
  by_cases h14:List.length x10=0
  exact fun j=>lH 1 [] [] [] [3,4] (oD (dT l12)<|oP 0 (qE h13 h14) k) ((ih h).1)
  exact fun j=>lH 1 [] [] [0] [3,4] (oD (dT l12)<|oP 0 (vE h13 h14) k) ((ih h).2)
  obtain⟨x10,h11,h⟩:=zC h
  obtain⟨l12,h13,h⟩:=zC h
  have k:=oA 4 (mW h11)<|oP 0 (vE h8 h9) k
  by_cases h14:List.length x10=0
  exact fun j=>lH 1 [] [] [0] [3,4] (oD (dT l12)<|oP 0 (qE h13 h14) k) ((ih h).2)
  exact fun j=>lH 1 [] [] [1] [3,4] (oD (dT l12)<|oP 0 (vE h13 h14) k) ((ih h).2)
  obtain rfl:=sj h
  exact fun j=>lF 0 [] (oB 0 h2 k)
  obtain rfl:=sj h
  exact fun j=>lF 0 [] (oB 1 h1 o0)
  obtain⟨h1,h⟩|⟨h1,h⟩:=zU h
  have k:=oB 1 h1 o0
  obtain⟨h2,h⟩|⟨h2,h⟩:=zU h
  obtain⟨x3,h4,h⟩:=zC h
  obtain⟨x5,h6,h⟩:=zC h
  obtain⟨l7,h8,h⟩:=zC h
  have k:=oF 5 (zJn (o:=(.st 0 3)) h6)<|oA 2 (xH (o:=(.st 0 3)) h4)<|oB 0 h2 k
  by_cases h9:List.length x5=0
  obtain⟨x10,h11,h⟩:=zC h
  obtain⟨l12,h13,h⟩:=zC h
  have k:=oA 4 (mW h11)<|oP 0 (qE h8 h9) k
  by_cases h14:List.length x10=0
  exact fun j=>lH 1 [] [] [] [3,4] (oD (dT l12)<|oP 0 (qE h13 h14) k) ((ih h).1)
  exact fun j=>lH 1 [] [] [1] [3,4] (oD (dT l12)<|oP 0 (vE h13 h14) k) ((ih h).2)
  obtain⟨x10,h11,h⟩:=zC h
  obtain⟨l12,h13,h⟩:=zC h
  have k:=oA 4 (mW h11)<|oP 0 (vE h8 h9) k
  by_cases h14:List.length x10=0
  exact fun j=>lH 1 [] [] [1] [3,4] (oD (dT l12)<|oP 0 (qE h13 h14) k) ((ih h).2)
  exact fun j=>lH 1 [] [] [2] [3,4] (oD (dT l12)<|oP 0 (vE h13 h14) k) ((ih h).2)
  obtain rfl:=sj h
  exact fun j=>lF 0 [] (oB 0 h2 k)
  obtain rfl:=sj h
  exact fun j=>lF 0 [] (oB 1 h1 o0)
theorem c15{qq p0 r}(h:e15 qq p0=some r):Ct 15 [] [yY p0] (ai r) [] 0:=⟨by
 unfold e15 at h
 exact tH ⟨func15,rfl⟩ 0 [] [] [] [3,4] (oD (dT [p0])<|oS 1 (xO xW [p0]) o0) ((zWm _ h).1),⟨⟨tv,tv,⟨tv,dT _⟩,tv⟩,tv⟩,zB,tv,zB⟩
mutual
def gS:Nat->yM->Int->Option Int
 |0,_,_=>none
 |qq+1,v3,v4=>
 if decide ((v3.length:Int)>0)then
 if decide (v4<129)then
 gT qq v3 v4 [] 0
 else
 some v4
 else
 some v4
def gT:Nat->yM->Int->yM->Int->Option Int
 |0,_,_,_,_=>none
 |qq+1,v3,v4,v5,v6=>
 if decide (v6<(v3.length:Int))then
 zW v3 v6>>=fun x7=>
 xF 40 v5 x7.sub>>=fun l9=>
 gT qq v3 v4 l9 (xL (v6+1))
 else
 gS qq v5 (xL (v4+1))
end
def zQl(qq:Nat)(p0:Tm):Option Int:=
 e15 qq p0>>=fun r1=>
 if decide (r1>8192)then
 some 129
 else
 gS qq [p0] 0
theorem zZo:Qf 104 f104:=⟨func104,rfl⟩
theorem n9:∀qq:Nat,(∀ {v3 v4 r},gS qq v3 v4=some r->(∀j,dL 0 (pt 16357 f104) (sp j 37 0 [(3,zV zD v3 .full),(4,ai v4)]) (⟨[],0,[],0,[]⟩) (fQ 0 (nQ 0 f104 (ai r) [] 0) [.blk 0,.seq (pt 1023 f104)]))∧(∀j,dL 0 (pt 16357 f104) (sp j 37 0 [(3,zV zD v3 (.st 0 3)),(4,ai v4)]) (⟨[],0,[0],1,[]⟩) (fQ 0 (nQ 0 f104 (ai r) [] 0) [.blk 0,.seq (pt 1023 f104)])))∧(∀ {v3 v4 v5 v6 r},gT qq v3 v4 v5 v6=some r->(∀j,dL 0 (pt 268007349 f104) (sp j 37 0 [(3,zV zD v3 .full),(4,ai v4),(5,zV zD v5 (.st 0 3)),(6,ai v6)]) (⟨[],0,[0],1,[]⟩) (fQ 0 (nQ 0 f104 (ai r) [] 0) [.blk 2,.seq (pt 4187615 f104),.blk 1,.loop (pt 16357 f104),.blk 0,.seq (pt 1023 f104)]))∧(∀j,dL 0 (pt 268007349 f104) (sp j 37 0 [(3,zV zD v3 (.st 0 3)),(4,ai v4),(5,zV zD v5 (.st 1 3)),(6,ai v6)]) (⟨[],0,[0,1],2,[]⟩) (fQ 0 (nQ 0 f104 (ai r) [] 0) [.blk 2,.seq (pt 4187615 f104),.blk 1,.loop (pt 16357 f104),.blk 0,.seq (pt 1023 f104)]))):=by
 intro qq
 induction qq with
 |zero=>
  exact⟨fun h=>nn h,fun h=>nn h⟩
 |succ qq ih=>
  obtain⟨zFR,jS⟩:=ih
  refine⟨?_,?_⟩
  intro v3 v4 r h
  rw[gS]at h
  refine⟨?_,?_⟩
  obtain⟨h4,h⟩|⟨h4,h⟩:=zU h
  have k:=oB 1 h4 o0
  obtain⟨h5,h⟩|⟨h5,h⟩:=zU h
  exact fun j=>lH 1 [(none,5,3)] [] [0] [3,4,5,6] (oD (dT ([]:yM))<|oD (dT v3)<|oB 0 h5 k) ((jS h).1)
  obtain rfl:=sj h
  exact fun j=>lF 0 [] (oB 0 h5 k)
  obtain rfl:=sj h
  exact fun j=>lF 0 [] (oB 1 h4 o0)
  obtain⟨h4,h⟩|⟨h4,h⟩:=zU h
  have k:=oB 1 h4 o0
  obtain⟨h5,h⟩|⟨h5,h⟩:=zU h
  exact fun j=>lH 1 [(none,5,3)] [] [0,1] [3,4,5,6] (oD (dT ([]:yM))<|oD (dT v3)<|oB 0 h5 k) ((jS h).2)
  obtain rfl:=sj h
  exact fun j=>lF 0 [] (oB 0 h5 k)
  obtain rfl:=sj h
  exact fun j=>lF 0 [] (oB 1 h4 o0)
  intro v3 v4 v5 v6 r h
  rw[gT]at h
  refine⟨?_,?_⟩
  obtain⟨h6,h⟩|⟨h6,h⟩:=zU h
  obtain⟨x7,h8,h⟩:=zC h
  obtain⟨l9,h10,h⟩:=zC h
  have k:=oA 0 (xH (o:=.full) h8)<|oB 1 h6 o0
  by_cases h11:List.length x7.sub=0
  exact fun j=>lH 1 [] [] [0] [3,4,5,6] (oD (dT l9)<|oD (dT v3)<|oP 1 (qE h10 h11) k) ((jS h).1)
  exact fun j=>lH 1 [] [] [1] [3,4,5,6] (oD (dT l9)<|oD (dT v3)<|oP 1 (vE h10 h11) k) ((jS h).1)
  exact fun j=>lH 1 [] [] [0] [3,4] (oD (dT v5)<|oB 1 h6 o0) ((zFR h).2)
  obtain⟨h6,h⟩|⟨h6,h⟩:=zU h
  obtain⟨x7,h8,h⟩:=zC h
  obtain⟨l9,h10,h⟩:=zC h
  have k:=oA 0 (xH (o:=(.st 0 3)) h8)<|oB 1 h6 o0
  by_cases h11:List.length x7.sub=0
  exact fun j=>lH 1 [] [] [0,1] [3,4,5,6] (oD (dT l9)<|oD (dT v3)<|oP 1 (qE h10 h11) k) ((jS h).2)
  exact fun j=>lH 1 [] [] [0,2] [3,4,5,6] (oD (dT l9)<|oD (dT v3)<|oP 1 (vE h10 h11) k) ((jS h).2)
  exact fun j=>lH 1 [] [] [1] [3,4] (oD (dT v5)<|oB 1 h6 o0) ((zFR h).2)
theorem yBO{qq p0 r}(h:zQl qq p0=some r):Ct 104 [] [yY p0] (ai r) [] 0:=⟨by
 unfold zQl at h
 obtain⟨r1,h2,h⟩:=zC h
 have k:=oC 1 [] (c15 h2) o0
 obtain⟨h3,h⟩|⟨h3,h⟩:=zU h
 obtain rfl:=sj h
 exact tF zZo 0 [] (oB 0 h3 k)
 exact tH zZo 0 [] [] [] [3,4] (oD (dT [p0])<|oS 1 (xO xW [p0])<|oB 0 h3 k) (((n9 _).1 h).1),⟨⟨tv,tv,⟨tv,dT _⟩,tv⟩,tv⟩,zB,tv,zB⟩
theorem gU:∀a b:List Tm,yP (a++b)=yP a+yP b
 | [],b=>by simp[yP]
 |t::a,b=>by simp only[List.cons_append,yP,gU a b];omega
theorem lK:∀l:List Tm,l.length≤yP l
 | []=>by simp[yP]
 |t::l=>by rw[yP];have:=lK l;have:=vM t;simp;omega
theorem cI(t:Tm):t.nodes=1+yP t.sub:=by cases t;rw[Tm.nodes,Tm.sub]
theorem zFS(t:Tm):t.high=1+vQ t.sub:=by cases t;rw[Tm.high,Tm.sub]
theorem zBE:∀a b:List Tm,vQ (a++b)=max (vQ a) (vQ b)
 | [],b=>by simp[vQ]
 |t::a,b=>by simp only[List.cons_append,vQ,zBE a b];omega
theorem zQk{α:Type}{l:List α}{a b:Nat}(h1:a≤b)(h2:b≤l.length):fK l (a:Int) (b:Int)=some ((l.drop a).take (b-a)):=by
 unfold fK
 rw[if_pos (by omega),show ((b:Int)-(a:Int)).toNat=b-a by omega,show (a:Int).toNat=a by omega]
theorem zMe{α:Type}(l:List α)(x:α):zW (l++[x]) (l.length:Int)=some x:=by
 unfold zW
 rw[if_pos (by omega)];simp
theorem zMd:∀(m h:Nat) (todo:List Tm),h+m=8193->todo.length≤1+h*8193->zJ (fun q=>aV q todo (h:Int)) ((min (h+yP todo) 8193:Nat):Int):=by
 intro m
 induction m with
 |zero=>
  intro h todo hm hl
  refine zJ.succ ?_
  simp only[aV]
  have:h=8193:=by omega
  subst this
  rcases todo with _|⟨x,todo⟩
  ·exact zJ.ifF (by simp) (zJ.ret.eq (by simp))
  ·refine zJ.ifT (by simp<;>omega) (zJ.ifF (by simp) (zJ.ret.eq ?_))
   have:min (8193+yP (x::todo)) 8193=8193:=by omega
   rw[this]
 |succ m ih=>
  intro h todo hm hl
  refine zJ.succ ?_
  simp only[aV]
  rcases List.eq_nil_or_concat todo with rfl|⟨ini,x,rfl⟩
  ·refine zJ.ifF (by simp) (zJ.ret.eq ?_)
   have:min (h+yP []) 8193=h:=by rw[yP];omega
   rw[this]
  ·simp only[List.concat_eq_append]at hl ⊢
   have hlen:(ini++[x]).length=ini.length+1:=by simp
   have hb:h*8193≤8192*8193:=Nat.mul_le_mul_right _ (by omega)
   have e1:xL (((ini++[x]).length:Int)-1)=(ini.length:Int):=by rw[yW (by omega) (by omega),hlen];omega
   refine zJ.ifT (by simp<;>omega) (zJ.ifT (by simp<;>omega) ?_)
   rw[e1]
   refine zJ.pure (zMe ini x) ?_
   have e2:fK (ini++[x]) 0 (ini.length:Int)=some ini:=by
    have:=zQk (l:=ini++[x]) (a:=0) (b:=ini.length) (by omega) (by omega)
    simpa using this
   refine zJ.pure e2 (zJ.pure (yK (by simp<;>omega)) ?_)
   have e3:zUY (x.sub.length:Int) 8193=((min x.sub.length 8193:Nat):Int):=by unfold zUY;split<;>omega
   rw[e3]
   have e4:=zQk (l:=x.sub) (a:=0) (b:=min x.sub.length 8193) (by omega) (by omega)
   refine zJ.pure (by simpa using e4) (zJ.pure (yK (by simp<;>omega)) ?_)
   rw[yA h (by omega)]
   refine(ih (h+1) _ (by omega) (by simp<;>omega)).eq ?_
   have hn:=cI x
   simp only[List.nil_append,gU,yP,Nat.add_zero]
   by_cases hs:x.sub.length≤8193
   ·rw[show min x.sub.length 8193=x.sub.length by omega,List.take_length]
    omega
   ·have h1:=lK (x.sub.take (min x.sub.length 8193))
    have h2:=lK x.sub
    simp only[List.length_take]at h1
    omega
theorem zFT(t:Tm):zJ (fun q=>e15 q t) ((min t.nodes 8193:Nat):Int):=by
 simp only[e15]
 refine(zMd 8193 0 [t] (by omega) (by simp)).eq ?_
 simp[yP]
theorem zBF:∀l:List Tm,l≠[]->vQ l=1+vQ (l.flatMap Tm.sub)
 | [t],_=>by simp[vQ,zFS t]
 |t::u::l,_=>by
  have h1:=zBF (u::l) (by simp)
  have h2:(t::u::l).flatMap Tm.sub=t.sub++(u::l).flatMap Tm.sub:=rfl
  rw[vQ,h1,h2,zBE,zFS t];omega
theorem m0:∀l:List Tm,yP l=l.length+yP (l.flatMap Tm.sub)
 | []=>by simp[yP]
 |t::l=>by rw[yP,List.flatMap_cons,gU,m0 l,cI t];simp;omega
theorem zIm:∀(m d:Nat) (l:List Tm),d+m=129->yP l≤8192->zJ (fun q=>gS q l (d:Int)) ((min (d+vQ l) 129:Nat):Int):=by
 intro m
 induction m with
 |zero=>
  intro d l hm hl
  refine zJ.succ ?_
  simp only[gS]
  have:d=129:=by omega
  subst this
  rcases l with _|⟨x,l⟩
  ·exact zJ.ifF (by simp) (zJ.ret.eq (by simp))
  ·refine zJ.ifT (by simp<;>omega) (zJ.ifF (by simp) (zJ.ret.eq ?_))
   have:min (129+vQ (x::l)) 129=129:=by omega
   rw[this]
 |succ m ih=>
  intro d l hm hl
  refine zJ.succ ?_
  simp only[gS]
  by_cases h:l=[]
  ·subst h
   refine zJ.ifF (by simp) (zJ.ret.eq ?_)
   have:min (d+vQ []) 129=d:=by rw[vQ];omega
   rw[this]
  ·have hpos:0<l.length:=List.length_pos_iff.2 h
   refine zJ.ifT (by simp<;>omega) (zJ.ifT (by simp<;>omega) ?_)
   have hfn:=m0 l
   have key:∀(r:List Tm) (v:Nat) (acc:List Tm),l.drop v=r->acc.length+yP (r.flatMap Tm.sub)≤8192->zJ (fun q=>gT q l (d:Int) acc (v:Int)) ((min (d+1+vQ (acc++r.flatMap Tm.sub)) 129:Nat):Int)∨yP (acc++r.flatMap Tm.sub)>8192:=by
    intro r
    induction r with
    |nil=>
     intro v acc hd ha
     by_cases hn:yP acc≤8192
     ·refine .inl (zJ.succ ?_)
      simp only[gT]
      refine zJ.ifF (yH hd) ?_
      rw[yA d (by omega)]
      refine(ih (d+1) acc (by omega) hn).eq (by simp)
     ·exact .inr (by simp<;>omega)
    |cons x r ihr=>
     intro v acc hd ha
     have hlt:=yL hd
     have hll:=lK l
     have hsl:=lK x.sub
     rw[List.flatMap_cons,gU]at ha
     rcases ihr (v+1) (acc++x.sub) (zY hd) (by simp<;>omega)with h1|h1
     ·refine .inl (zJ.succ ?_)
      simp only[gT]
      refine zJ.ifT (yG hd) (zJ.pure (yD hd) (zJ.pure (yK (by omega)) ?_))
      rw[yA v (by omega)]
      refine h1.eq ?_
      rw[List.flatMap_cons,List.append_assoc]
     ·refine .inr ?_
      rw[List.flatMap_cons,←List.append_assoc];exact h1
   rcases key l 0 [] rfl (by simp<;>omega)with h1|h1
   ·refine h1.eq ?_
    rw[zBF l h];simp;omega
   ·simp only[List.nil_append]at h1;omega
def zQj(t:Tm):Int:=if t.nodes≤8192 then((min t.high 129:Nat):Int)else 129
theorem zMc(t:Tm):zJ (fun q=>zQl q t) (zQj t):=by
 simp only[zQl]
 refine(zFT t).bind ?_
 unfold zQj
 by_cases h:t.nodes≤8192
 ·rw[if_pos h]
  refine zJ.ifF (by simp<;>omega) ((zIm 129 0 [t] (by omega) (by simpa[yP]using h)).eq ?_)
  simp[vQ]
 ·rw[if_neg h]
  exact zJ.ifT (by simp<;>omega) zJ.ret
theorem I1{p:Tm}{c:Nat}{m:Int}{X:Nat->Option Bool}{r:Bool}(h:p.sub.length=c->0≤p.n->p.n≤m->zJ X r) :
  zJ (fun q=>if ((List.length p.sub:Int) != (c:Int))=true then some false else if decide (p.n<0)=true then some false else if decide (p.n>m)=true then some false else X q)
   (decide (p.sub.length=c)&&decide (0≤p.n)&&decide (p.n≤m)&&r):=by
 by_cases h1:p.sub.length=c
 ·refine zJ.ifF (by simp<;>omega) ?_
  by_cases h2:p.n<0
  ·exact zJ.ifT (by simpa using h2) (zJ.ret.eq (by simp<;>omega))
  ·refine zJ.ifF (by simpa using h2) ?_
   by_cases h3:p.n>m
   ·exact zJ.ifT (by simpa using h3) (zJ.ret.eq (by simp<;>omega))
   ·refine zJ.ifF (by simpa using h3) ((h h1 (by omega) (by omega)).eq ?_)
    simp[h1,show 0≤p.n by omega,show p.n≤m by omega]
 ·exact zJ.ifT (by simp<;>omega) (zJ.ret.eq (by simp[h1]))
def zDs(qq:Nat)(q0 q1 p1:Int):Option Int:=
 some p1
theorem zTg{qq q0 q1 p1 r}(h:zDs qq q0 q1 p1=some r):Ct 59 [.cells [ai q0,ai q1]] [.mp 0 0,ai p1] (.tup []) [.cells [ai r,ai q1]] 0:=⟨by
 unfold zDs at h
 obtain rfl:=sj h
 exact tF ⟨func59,rfl⟩ 1 [0] (o0),⟨(lz rfl),tv,tv⟩,(zA ⟨tv,tv,tv⟩ zB),tv,(zA ⟨tv,tv,tv⟩ zB)⟩
def e28(qq:Nat)(p0:Int):Option ((Int) ⊕ (Int×Int×Int)):=
 if decide (p0<0)then
 some (.inl 5)
 else
 if decide (p0>1048576)then
 some (.inl 5)
 else
 zDs qq 0 0 p0>>=fun r3=>
 some (.inr (0,r3,0))
abbrev zZn (p0 r:Int) (C:Cf):Prop:=C 28 [] [ai p0] (.tup [.val (.pointer none),ai r]) [] 0
abbrev zZm (p0:Int) (r:Int×Int×Int) (C:Cf):Prop:=C 28 [] [ai p0] (.tup [.mp 0 0,ai r.1]) [.cells [ai r.2.1,ai r.2.2]] 0
theorem q28:Qf 28 f28:=⟨func28,rfl⟩
theorem c28{qq p0 r}(h:e28 qq p0=some r):(match (generalizing:=false) r with | .inl x=>zZn p0 x Ct | .inr x=>zZm p0 x Ct):=by
 unfold e28 at h
 obtain⟨h1,h⟩|⟨h1,h⟩:=zU h
 cases h
 exact⟨tF q28 0 [] (oB 0 h1 o0),⟨tv,tv⟩,zB,⟨tv,tv,tv⟩,zB⟩
 have k:=oB 0 h1 o0
 obtain⟨h2,h⟩|⟨h2,h⟩:=zU h
 cases h
 exact⟨tF q28 0 [] (oB 0 h2 k),⟨tv,tv⟩,zB,⟨tv,tv,tv⟩,zB⟩
 obtain⟨r3,h4,h⟩:=zC h
 cases h
 exact⟨tF q28 0 [0] (oC 0 [0] (zTg h4)<|oB 0 h2 k),⟨tv,tv⟩,zB,⟨(lz rfl),tv,tv⟩,(zA ⟨tv,tv,tv⟩ zB)⟩
theorem zDr(f:Int)(h0:0≤f)(h1:f≤1048576):zJ (fun q=>e28 q f) (.inr (0,f,0)):=by
 simp only[e28]
 exact zJ.ifF (decide_eq_false (by omega)) (zJ.ifF (decide_eq_false (by omega)) (zJ.bind (a:=f) (zJ.mk fun _=>rfl) zJ.ret))
theorem zIl(l:List yI)(hl:l.length≤60)(he:∀e∈l,eK e)(hc:∀e∈l,ECl e):zJ (fun q=>e27 q l) (zCQ l false)∨∃N,wP N l∧zJ (fun q=>e27 q l) (zCQ l true):=by
 obtain⟨N,hN⟩:=zFn
 obtain⟨b,-,hA,hn⟩:=zJJ N hN l (by omega) he hc
 cases b with
 |false=>exact .inl hn
 |true=>exact .inr ⟨N,hA rfl,hn⟩
mutual
theorem zJX:∀(t:Tm) (b:Int),xB t=true->0≤b->mY t b≤1048577
 | .mk k n l,b,hg,hb=>by
  have hh:=wF hg
  have hn:=kV hh.1
  rw[mY]
  split
  ·omega
  ·exact zJY l k 0 b hh.2 hb
theorem zJY:∀(l:List Tm) (k:Int) (i:Nat) (b:Int),wZ l=true->0≤b->kU l k i b≤1048577
 | [],k,i,b,_,_=>by rw[kU];omega
 |t::l,k,i,b,hg,hb=>by
  have hc:=wB hg
  have hu:=zCF k i
  have h1:=zJX t (b+cV k i) hc.1 (by omega)
  have h2:=zJY l k (i+1) b hc.2 hb
  rw[kU];omega
end
theorem lL{l:List yI}{t:Tm}:wT l t↔zH t=true∧xM (fun k n=>k=6∨k=7->n<l.length) t:=by
 unfold wT rC
 rw[←jP (Q:=fun n=>n<(l.length:Int)) (by decide) (by decide) t]
 simp only[Bool.and_eq_true,decide_eq_true_eq,List.all_eq_true]
 constructor
 ·rintro ⟨⟨h1,-⟩,h2⟩;exact⟨h1,h2⟩
 ·rintro ⟨h1,h2⟩;exact⟨⟨h1,zJX t 0 (zO h1).2.2 (by omega)⟩,h2⟩
theorem Br.right{N:ByteArray->Bool}{l:List yI}(hE:wP N l){x y:Tm}{k:Int}(h:Br l x y 0 k)(hR:wT l x):wT l y:=by
 have hr:=lL.1 hR
 exact lL.2 ⟨h.shaped hr.1 rfl,h.inv hE (P1 hE fun k n _ h=>h) hr.1 rfl hr.2⟩
end Go.Proofs.YtfbkefchjcocmaaGreat
