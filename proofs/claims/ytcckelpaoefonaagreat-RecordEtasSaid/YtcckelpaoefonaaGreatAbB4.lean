/- Parts of the proof that the law returns true: walks of the functions, plain laws. -/
import Derived.Test.YtcckelpaoefonaaGreatAbB3
set_option linter.unusedVariables false
set_option linter.unusedSimpArgs false
set_option linter.unusedSectionVars false
namespace Go.Proofs.YtcckelpaoefonaaGreat
open Go Go.Ab Go.Proofs.Tryz
def fL(l:List yE)(x:yE):List Int:=if x.kind=4 then(zJ l x.fam).fields else(zJ l x.fam).cons
def zFG(l:List yE)(i:Int)(x:yE):Bool:=
 mN l x.fam 1&&decide (x.fam<i)&&x.pars==(zJ l x.fam).pars&&nS x.body&&x.inds==0&&x.level==0&&decide (x.cons.length=0)&&decide (x.fields.length=0)
def zFH(l:List yE)(i:Int)(x:yE):Bool:=
 decide (0≤x.place)&&decide (x.place<(fL l x).length)&&((fL l x)[x.place.toNat]?).getD (-1)==i
def uX(l:List yE)(i:Int):Bool:=zFG l i (zJ l i)&&zFH l i (zJ l i)
theorem zJH{L:List Int}{n:Int}(h0:0≤n)(h1:n<L.length):zP L n=some ((L[n.toNat]?).getD (-1)):=by
 unfold zP
 rw[if_pos h0]
 have:n.toNat<L.length:=by omega
 rw[List.getElem?_eq_getElem this];rfl
theorem zDc(l:List yE)(i:Int)(h0:0≤i)(h1:i<l.length)(he:∀e∈l,iH e):zF (fun q=>zJG q l i) (uX l i):=by
 simp only[zJG]
 refine zF.pure (yH h0 h1) ((zMa l _ 1).bind ?_)
 have hx:=he _ (uW h0 h1)
 have hc:(zJ l i).cons.length≤1152921504606846976:=hx.2.2.1
 have hf:(zJ l i).fields.length≤1152921504606846976:=hx.2.2.2
 unfold uX zFG
 by_cases a1:mN l (zJ l i).fam 1=true
 ·have hs:=xM a1
  refine zF.ifT a1 ?_
  by_cases a2:(zJ l i).fam≥i
  ·exact zF.ifT (decide_eq_true a2) (zF.ret.eq (by simp[show ¬(zJ l i).fam<i by omega]))
  refine zF.ifF (decide_eq_false a2) (zF.pure (yH hs.1 hs.2.1) ?_)
  by_cases a3:(zJ l i).pars=(zJ l (zJ l i).fam).pars
  ·refine zF.ifF (by simp[a3]) ((zAP _).bind ?_)
   by_cases a4:nS (zJ l i).body=true
   ·refine zF.ifT a4 ?_
    by_cases a5:(zJ l i).inds=0
    ·refine zF.ifF (by simp[a5]) ?_
     by_cases a6:(zJ l i).level=0
     ·refine zF.ifF (by simp[a6]) ?_
      rw[zW (x:=((zJ l i).cons.length:Int)+((zJ l i).fields.length:Int)) (by omega) (by omega)]
      by_cases a7:(zJ l i).cons.length=0∧(zJ l i).fields.length=0
      ·refine zF.ifF (decide_eq_false (by omega)) ?_
       have last:∀L:List Int,fL l (zJ l i)=L->zF (fun _=>if decide ((zJ l i).place≥0)=true then if decide ((zJ l i).place<(List.length L:Int))=true then(zP L (zJ l i).place)>>=fun x19=>some (x19==i)else some false else some false) (zFH l i (zJ l i)):=fun L hL=>by
        unfold zFH
        rw[hL]
        by_cases b1:(zJ l i).place≥0
        ·refine zF.ifT (decide_eq_true b1) ?_
         by_cases b2:(zJ l i).place<(L.length:Int)
         ·exact zF.ifT (decide_eq_true b2) (zF.pure (zJH b1 b2) (zF.ret.eq (by simp[show 0≤(zJ l i).place from b1,b2])))
         ·exact zF.ifF (decide_eq_false b2) (zF.ret.eq (by simp[b2]))
        ·exact zF.ifF (decide_eq_false b1) (zF.ret.eq (by simp[show ¬0≤(zJ l i).place from b1]))
       have e:(mN l (zJ l i).fam 1&&decide ((zJ l i).fam<i)&&(zJ l i).pars==(zJ l (zJ l i).fam).pars&&nS (zJ l i).body&&(zJ l i).inds==0&&(zJ l i).level==0&&decide ((zJ l i).cons.length=0)&&decide ((zJ l i).fields.length=0))=true:=by
        simp[a1,show (zJ l i).fam<i by omega,a3,a4,a5,a6,a7.1,a7.2]
       rw[e,Bool.true_and]
       by_cases a8:(zJ l i).kind=4
       ·exact zF.ifT (by simp[a8]) (last _ (by unfold fL;rw[if_pos a8]))
       ·exact zF.ifF (by simp[a8]) (last _ (by unfold fL;rw[if_neg a8]))
      ·refine zF.ifT (decide_eq_true (by omega)) (zF.ret.eq ?_)
       have:decide ((zJ l i).cons.length=0)=false∨decide ((zJ l i).fields.length=0)=false:=by
        by_cases h:(zJ l i).cons.length=0
        ·exact .inr (decide_eq_false fun h'=>a7 ⟨h,h'⟩)
        ·exact .inl (decide_eq_false h)
       rcases this with h|h<;>rw[h]<;>simp
     ·exact zF.ifT (by simp[a6]) (zF.ret.eq (by simp[a6]))
    ·exact zF.ifT (by simp[a5]) (zF.ret.eq (by simp[a5]))
   ·exact zF.ifF (by simpa using a4) (zF.ret.eq (by simp[a4]))
  ·exact zF.ifT (by simp[a3]) (zF.ret.eq (by simp[a3]))
 ·exact zF.ifF (by simpa using a1) (zF.ret.eq (by simp[a1]))
theorem wA{l:List yE}{i:Int}(h:sU l i=true):0≤(zJ l i).pars∧0≤(zJ l i).inds∧(zJ l i).pars+(zJ l i).inds≤24∧(zJ l i).cons.length≤16:=by
 unfold sU lJ fK at h
 simp only[Bool.and_eq_true,decide_eq_true_eq]at h
 exact⟨by omega,by omega,by omega,by omega⟩
theorem vG{l:List yE}{i:Int}(h:uX l i=true):0≤(zJ l i).fam∧(zJ l i).fam<i∧(zJ l (zJ l i).fam).kind=1∧(zJ l i).pars=(zJ l (zJ l i).fam).pars∧0≤(zJ l i).place∧(zJ l i).place<(fL l (zJ l i)).length:=by
 unfold uX zFG zFH at h
 simp only[Bool.and_eq_true,decide_eq_true_eq,beq_iff_eq]at h
 have hs:=xM h.1.1.1.1.1.1.1.1
 exact⟨hs.1,h.1.1.1.1.1.1.1.2,hs.2.2,h.1.1.1.1.1.1.2,h.2.1.1,h.2.1.2⟩
def zAQ(l:List yE)(i:Int):Prop:=∀j,0≤j->j<i->(zJ l j).kind=1->sU l j=true
def iI(l:List yE)(i:Int):Bool:=
 uX l i&&((yR (zJ l i).type).2.2==0&&(decide ((zJ l i).pars≤(yR (zJ l i).type).1.length)&&uQ (yR (zJ l i).type).2.1 (zJ l i).fam (zJ l i).pars (zJ l (zJ l i).fam).inds (yR (zJ l i).type).1.length))
theorem zTN(l:List yE)(i:Int)(h0:0≤i)(h1:i<l.length)(he:∀e∈l,iH e)(hF:zAQ l i):zF (fun q=>e82 q l i) (iI l i):=by
 simp only[e82]
 have hx:=he _ (uW h0 h1)
 refine zF.pure (yH h0 h1) ((bP _ hx.1).bind ((zDc l i h0 h1 he).bind ?_))
 unfold iI
 by_cases a1:uX l i=true
 ·have hs:=vG a1
  have hf:=wA (hF _ hs.1 hs.2.1 hs.2.2.1)
  refine zF.ifT a1 ?_
  rw[a1,Bool.true_and]
  by_cases a2:(yR (zJ l i).type).2.2=0
  ·refine zF.ifT (by simp[a2]) ?_
   have hw:=tJ (t:=(zJ l i).type) (l:=(yR (zJ l i).type).1) (y:=(yR (zJ l i).type).2.1) (by rw[←a2])
   by_cases a3:(zJ l i).pars≤(yR (zJ l i).type).1.length
   ·refine zF.ifT (decide_eq_true a3) (zF.pure (yH hs.1 (by omega)) ((eV _ _ _ _ _ hw.2.2.2.2.1 (by omega) (by omega) (by have:=hw.2.2.1;omega)).bind (zF.ret.eq (by simp[a2,a3]))))
   ·exact zF.ifF (decide_eq_false a3) (zF.ret.eq (by simp[a3]))
  ·exact zF.ifF (by simp[a2]) (zF.ret.eq (by simp[a2]))
 ·exact zF.ifF (by simpa using a1) (zF.ret.eq (by simp[a1]))
def vU(l:List Tm)(n:Int):Tm:=(l[n.toNat]?).getD zT
theorem uR{l:List Tm}{n:Int}(h0:0≤n)(h1:n<l.length):zP l n=some (vU l n):=by
 unfold zP vU
 rw[if_pos h0]
 have:n.toNat<l.length:=by omega
 rw[List.getElem?_eq_getElem this];rfl
theorem sH{l:List Tm}{n:Int}(h0:0≤n)(h1:n<l.length):vU l n∈l:=by
 unfold vU
 have:n.toNat<l.length:=by omega
 rw[List.getElem?_eq_getElem this]
 exact List.getElem_mem this
def qZ(l:List yE)(i:Int):Bool:=
 uX l i&&((xR (zJ l i).type ((zJ l i).pars+1)).2.2==0&&uQ (vU (xR (zJ l i).type ((zJ l i).pars+1)).1 (zJ l i).pars) (zJ l i).fam (zJ l i).pars 0 (zJ l i).pars)
theorem zPS(l:List yE)(i:Int)(h0:0≤i)(h1:i<l.length)(he:∀e∈l,iH e)(hF:zAQ l i):zF (fun q=>e83 q l i) (qZ l i):=by
 simp only[e83]
 have hx:=he _ (uW h0 h1)
 refine(zDc l i h0 h1 he).bind ?_
 unfold qZ
 by_cases a1:uX l i=true
 ·have hs:=vG a1
  have hf:=wA (hF _ hs.1 hs.2.1 hs.2.2.1)
  refine zF.ifT a1 (zF.pure (yH h0 h1) ?_)
  rw[a1,Bool.true_and,zW (x:=(zJ l i).pars+1) (by omega) (by omega)]
  refine(bO _ _ hx.1).bind ?_
  by_cases a2:(xR (zJ l i).type ((zJ l i).pars+1)).2.2=0
  ·have hw:=s5 (t:=(zJ l i).type) (n:=(zJ l i).pars+1) (l:=(xR (zJ l i).type ((zJ l i).pars+1)).1) (y:=(xR (zJ l i).type ((zJ l i).pars+1)).2.1) (by rw[←a2])
   refine zF.ifT (by simp[a2]) (zF.pure (uR (by omega) (by omega)) ((eV _ _ _ _ _ (hw.2.2.2.2.2.2 _ (sH (by omega) (by omega))) (by omega) (by omega) (by omega)).bind (zF.ret.eq (by simp[a2]))))
  ·exact zF.ifF (by simp[a2]) (zF.ret.eq (by simp[a2]))
 ·exact zF.ifF (by simpa using a1) (zF.ret.eq (by simp[a1]))
def C2(l:List yE)(i:Int):Bool:=
 wX (zJ l i).body i&&((zJ l i).fam==0&&((zJ l i).place==0&&((zJ l i).pars==0&&((zJ l i).inds==0&&((zJ l i).level==0&&(decide ((zJ l i).cons.length=0)&&decide ((zJ l i).fields.length=0)))))))
theorem zTO(l:List yE)(i:Int)(h0:0≤i)(h1:i<l.length)(he:∀e∈l,iH e):zF (fun q=>e84 q l i) (C2 l i):=by
 simp only[e84]
 have hx:=he _ (uW h0 h1)
 have hc:(zJ l i).cons.length≤1152921504606846976:=hx.2.2.1
 have hf:(zJ l i).fields.length≤1152921504606846976:=hx.2.2.2
 refine zF.pure (yH h0 h1) ((R5 _ i hx.2.1).bind ?_)
 unfold C2
 by_cases a1:wX (zJ l i).body i=true
 ·refine zF.ifT a1 ?_
  rw[a1,Bool.true_and,zW (x:=((zJ l i).cons.length:Int)+((zJ l i).fields.length:Int)) (by omega) (by omega)]
  have e:(((zJ l i).cons.length:Int)+((zJ l i).fields.length:Int)==0)=(decide ((zJ l i).cons.length=0)&&decide ((zJ l i).fields.length=0)):=by
   rw[Bool.eq_iff_iff]
   simp only[beq_iff_eq,Bool.and_eq_true,decide_eq_true_eq]
   omega
  rw[e]
  refine zF.mk fun q=>?_
  generalize (decide ((zJ l i).cons.length=0)&&decide ((zJ l i).fields.length=0))=z
  by_cases b1:(zJ l i).fam=0<;>by_cases b2:(zJ l i).place=0<;>by_cases b3:(zJ l i).pars=0<;>by_cases b4:(zJ l i).inds=0<;>by_cases b5:(zJ l i).level=0<;>simp[b1,b2,b3,b4,b5]
 ·exact zF.ifF (by simpa using a1) (zF.ret.eq (by simp[a1]))
def eW:Nat->zY->List ByteArray->Int->Option (List ByteArray)
 |0,_,_,_=>none
 |b+1,a,c,d=>
 if decide (d<(a.length:Int))then
 zP a d>>=fun x2=>
 xB 16 c [x2.name]>>=fun l4=>
 eW b a l4 (yN (d+1))
 else
 some c
def e40(b:Nat)(a:zY):Option (List ByteArray):=
 eW b a [] 0
theorem zTP:∀b:Nat,(∀ {a c d r},eW b a c d=some r->(∀j,dL 0 (pt 4021 Tryz.f40) (sp j 19 0 [(3,zH xJ c (.st 0 1)),(6,zH yA a .no),(7,ai (a.length:Int)),(8,ai d)]) (⟨[],0,[0],1,[]⟩) (fQ 0 (nQ 0 Tryz.f40 (zH xJ r (.st 0 1)) [] 1) [.blk 0,.seq (pt 63 Tryz.f40)]))):=by
 intro b
 induction b with
 |zero=>
  exact fun h=>nn h
 |succ b ih=>
  intro a c d r h
  rw[eW]at h
  obtain⟨h1,h⟩|⟨h1,h⟩:=zK h
  obtain⟨x2,h3,h⟩:=zB h
  obtain⟨l4,h5,h⟩:=zB h
  exact fun j=>lH 1 [] [] [1] [3,6,7,8] (oD (dE a)<|oD (dS l4)<|oP 4 (P8 h5 (by simp))<|oA 0 (xK (o:=.no) h3)<|oB 0 h1 o0) (ih h)
  obtain rfl:=sj h
  exact fun j=>lG 0 [] [] [0] true (oD (dS c)<|oB 0 h1 o0)
theorem c40{b a r}(h:e40 b a=some r):Ct 40 [] [zH yA a .no] (zH xJ r (.st 0 1)) [] 1:=⟨by
 unfold e40 at h
 exact tH ⟨func40,rfl⟩ 1 [(none,3,1)] [] [0] [3,6,7,8] (oD (dE a)<|oD (dS ([]:List ByteArray)) o0) (zTP _ h),⟨⟨tv,dE _⟩,tv⟩,zA,dS _,zA⟩
def e41(b:Nat)(c:zY)(a:Int):Option Bool:=
 zP c a>>=fun x1=>
 e79 b x1.name>>=fun r3=>
 if r3 then
 e80 b x1.type a>>=fun r6=>
 if r6 then
 if x1.kind==1 then
 e81 b c a>>=fun r10=>
 some r10
 else
 if x1.kind==2 then
 e82 b c a>>=fun r13=>
 some r13
 else
 if x1.kind==4 then
 e83 b c a>>=fun r16=>
 some r16
 else
 if x1.kind==3 then
 e84 b c a>>=fun r19=>
 some r19
 else
 some false
 else
 some false
 else
 some false
theorem q41:Qf 41 f41:=⟨func41,rfl⟩
theorem c41{b c a r}(h:e41 b c a=some r):Ct 41 [] [zH yA c .no,ai a] (ab r) [] 0:=⟨by
 unfold e41 at h
 obtain⟨x1,h2,h⟩:=zB h
 obtain⟨r3,h4,h⟩:=zB h
 have k:=oA 0 (xK (o:=.no) h2) o0
 obtain⟨h5,h⟩|⟨h5,h⟩:=zK h
 obtain⟨r6,h7,h⟩:=zB h
 have k:=oA 1 (xK (o:=.no) h2)<|oK 1 [] h5 (c79 h4) k
 obtain⟨h8,h⟩|⟨h8,h⟩:=zK h
 have k:=oA 1 (xK (o:=.no) h2)<|oK 1 [] h8 (c80 h7) k
 obtain⟨h9,h⟩|⟨h9,h⟩:=zK h
 obtain⟨r10,h11,h⟩:=zB h
 obtain rfl:=sj h
 exact tF q41 0 [] (oC 0 [] (c81 h11)<|oB 1 h9 k)
 have k:=oB 1 h9 k
 obtain⟨h12,h⟩|⟨h12,h⟩:=zK h
 obtain⟨r13,h14,h⟩:=zB h
 obtain rfl:=sj h
 exact tF q41 0 [] (oC 0 [] (c82 h14)<|oB 0 h12 k)
 have k:=oB 0 h12 k
 obtain⟨h15,h⟩|⟨h15,h⟩:=zK h
 obtain⟨r16,h17,h⟩:=zB h
 obtain rfl:=sj h
 exact tF q41 0 [] (oC 0 [] (c83 h17)<|oB 0 h15 k)
 have k:=oB 0 h15 k
 obtain⟨h18,h⟩|⟨h18,h⟩:=zK h
 obtain⟨r19,h20,h⟩:=zB h
 obtain rfl:=sj h
 exact tF q41 0 [] (oC 0 [] (c84 h20)<|oB 0 h18 k)
 obtain rfl:=sj h
 exact tF q41 0 [] (oB 0 h18 k)
 obtain rfl:=sj h
 exact tF q41 1 [] (oK 1 [] h8 (c80 h7) k)
 obtain rfl:=sj h
 exact tF q41 1 [] (oK 1 [] h5 (c79 h4) k),⟨⟨tv,dE _⟩,tv,tv⟩,zA,tv,zA⟩
def eX:Nat->zY->Int->Option Bool
 |0,_,_=>none
 |c+1,a,b=>
 if decide (b<(a.length:Int))then
 e41 c a b>>=fun r8=>
 if r8 then
 eX c a (yN (b+1))
 else
 some false
 else
 some true
def e18(c:Nat)(a:zY):Option Bool:=
 if decide ((a.length:Int)>256)then
 some false
 else
 e40 c a>>=fun r2=>
 e39 c r2>>=fun r4=>
 if r4 then
 eX c a 0
 else
 some false
theorem q18:Qf 18 Tryz.f18:=⟨func18,rfl⟩
theorem zTR:∀c:Nat,(∀ {a b r},eX c a b=some r->(∀j,dL 0 (pt 4021 Tryz.f18) (sp j 23 0 [(0,zH yA a .no),(14,ai (a.length:Int)),(15,ai b)]) (⟨[],0,[],0,[]⟩) (fQ 0 (nQ 0 Tryz.f18 (ab r) [] 0) [.blk 0,.seq (pt 63 Tryz.f18)]))):=by
 intro c
 induction c with
 |zero=>
  exact fun h=>nn h
 |succ c ih=>
  intro a b r h
  rw[eX]at h
  obtain⟨h7,h⟩|⟨h7,h⟩:=zK h
  obtain⟨r8,h9,h⟩:=zB h
  have k:=oB 0 h7 o0
  obtain⟨h10,h⟩|⟨h10,h⟩:=zK h
  exact fun j=>lH 2 [] [] [] [0,14,15] (oD (dE a)<|oK 0 [] h10 (c41 h9) k) (ih h)
  cases h
  exact fun j=>lF 1 [] (oK 0 [] h10 (c41 h9) k)
  cases h
  exact fun j=>lF 0 [] (oB 0 h7 o0)
theorem c18{c a r}(h:e18 c a=some r):Ct 18 [] [zH yA a .no] (ab r) [] 0:=⟨by
 unfold e18 at h
 obtain⟨h1,h⟩|⟨h1,h⟩:=zK h
 cases h
 exact tF q18 0 [] (oB 1 h1 o0)
 obtain⟨r2,h3,h⟩:=zB h
 obtain⟨r4,h5,h⟩:=zB h
 have k:=oC 0 [] (c40 h3)<|oB 1 h1 o0
 obtain⟨h6,h⟩|⟨h6,h⟩:=zK h
 exact tH q18 2 [] [] [] [0,14,15] (oD (dE a)<|oK 0 [] h6 (c39 h5) k) (zTR _ h)
 cases h
 exact tF q18 1 [] (oK 0 [] h6 (c39 h5) k),⟨⟨tv,dE _⟩,tv⟩,zA,tv,zA⟩
def zMA(qq:Nat)(p0:yD):Option yD:=
 some []
theorem zTS{qq p0 r}(h:zMA qq p0=some r):Ct 102 [] [zH zU p0 .nl] (.sl (zG zU r) r.length .no) [] 0:=⟨by
 unfold zMA at h
 cases h
 exact tF ⟨func102,rfl⟩ 1 [] (oD (dI ([]:yD)) o0),⟨⟨tv,dI _⟩,tv⟩,zA,dI _,zA⟩
def zAR(qq:Nat)(p0:yD):Option yD:=
 xB 8 ([]:yD) p0>>=fun l1=>
 some l1
theorem zMB:Qf 102 f102:=⟨func102,rfl⟩
theorem zTT{qq p0 r}(h:zAR qq p0=some r):Ct 102 [] [zH zU p0 .nn] (.sl (zG zU r) r.length .no) [] 0:=⟨by
 unfold zAR at h
 obtain⟨l1,h2,h⟩:=zB h
 by_cases h3:List.length p0=0
 obtain rfl:=sj h
 exact tF zMB 0 [] (oD (dI l1)<|oP 2 (zLE h2 h3) o0)
 obtain rfl:=sj h
 exact tF zMB 0 [] (oD (dI l1)<|oP 2 (tN h2 h3) o0),⟨⟨tv,dI _⟩,tv⟩,zA,dI _,zA⟩
def zTU(_qq:Nat)(p0:yD):Option yD:=xB 8 [] p0
theorem zYr{qq:Nat}{p0:yD}{r:yD}(h:zTU qq p0=some r):CT prog 102 [] [.sl (zG zU p0) p0.length .no] (.sl (zG zU r) r.length .no) [] 0:=by
 have hr:r=p0:=by have:=(rC h).2;simpa using this
 have h1:zAR qq p0=some r:=by unfold zAR;rw[show xB 8 ([]:yD) p0=some r from h];rfl
 have k1:=zTT h1
 refine⟨uN.nilcase (fun hn=>?_) k1.tri,⟨⟨trivial,dI _⟩,trivial⟩,(fun _ h=>nomatch h),dI _,(fun _ h=>nomatch h)⟩
 have hp:p0=[]:=O7 eL (by decide) hn
 subst hr
 subst hp
 exact(zTS (qq:=qq) rfl).tri
def eY:Nat->zY->zY->Int->Option zY
 |0,_,_,_=>none
 |b+1,a,c,d=>
 if decide (d<(a.length:Int))then
 zP a d>>=fun x2=>
 e65 b x2.type>>=fun r4=>
 e65 b x2.body>>=fun r6=>
 zTU b x2.cons>>=fun r8=>
 zTU b x2.fields>>=fun r10=>
 xB 192 c [(yE.mk x2.kind x2.name r4 r6 x2.fam x2.place x2.pars x2.inds x2.level r8 r10)]>>=fun l12=>
 eY b a l12 (yN (d+1))
 else
 some c
def e61(b:Nat)(a:zY):Option zY:=
 eY b a [] 0
theorem zTV:∀b:Nat,(∀ {a c d r},eY b a c d=some r->(∀j,dL 0 (pt 4021 f61) (sp j 34 0 [(3,zH yA c (.st 0 15)),(6,zH yA a .no),(7,ai (a.length:Int)),(8,ai d)]) (⟨[],0,[0],1,[]⟩) (fQ 0 (nQ 0 f61 (.sl (zG yA r) r.length .no) [] 0) [.blk 0,.seq (pt 63 f61)]))):=by
 intro b
 induction b with
 |zero=>
  exact fun h=>nn h
 |succ b ih=>
  intro a c d r h
  rw[eY]at h
  obtain⟨h1,h⟩|⟨h1,h⟩:=zK h
  obtain⟨x2,h3,h⟩:=zB h
  obtain⟨r4,h5,h⟩:=zB h
  obtain⟨r6,h7,h⟩:=zB h
  obtain⟨r8,h9,h⟩:=zB h
  obtain⟨r10,h11,h⟩:=zB h
  obtain⟨l12,h13,h⟩:=zB h
  exact fun j=>lH 1 [] [] [1] [3,6,7,8] (oD (dE a)<|oD (dE l12)<|oP 4 (zSf h13 (by simp))<|oC 0 [] (zYr h11)<|cD 0<|oC 3 [] (zYr h9)<|oC 1 [] (c65 h7)<|oC 3 [] (c65 h5)<|oA 0 (xK (o:=.no) h3)<|oB 0 h1 o0) (ih h)
  obtain rfl:=sj h
  exact fun j=>lF 0 [] (oD (dE c)<|oB 0 h1 o0)
theorem c61{b a r}(h:e61 b a=some r):Ct 61 [] [zH yA a .no] (.sl (zG yA r) r.length .no) [] 0:=⟨by
 unfold e61 at h
 exact tH ⟨func61,rfl⟩ 1 [(none,3,15)] [] [0] [3,6,7,8] (oD (dE a)<|oD (dE ([]:zY)) o0) (zTV _ h),⟨⟨tv,dE _⟩,tv⟩,zA,dE _,zA⟩
def tW(N:ByteArray->Bool)(l:List yE)(i:Int):Bool:=
 N (zJ l i).name&&(wX (zJ l i).type i &&
  (if (zJ l i).kind=1 then sU l i else if (zJ l i).kind=2 then iI l i else if (zJ l i).kind=4 then qZ l i else if (zJ l i).kind=3 then C2 l i else false))
def zAS(N:ByteArray->Bool)(l:List yE):Nat->Nat->Bool
 |0,_=>true
 |m+1,v=>tW N l v&&zAS N l m (v+1)
def pP(N:ByteArray->Bool):Prop:=∀s,zF (fun q=>e79 q s) (N s)
theorem zDb:∃N,pP N:=by
 have h:∀s,∃b,zF (fun q=>e79 q s) b:=fun s=>by
  obtain⟨b,hb,_⟩:=zFE s
  exact⟨b,hb⟩
 exact⟨fun s=>Classical.choose (h s),fun s=>Classical.choose_spec (h s)⟩
theorem zMC(N:ByteArray->Bool)(hN:pP N)(l:List yE)(i:Int)(h0:0≤i)(h1:i<l.length)(hl:l.length≤65535)(he:∀e∈l,iH e)(hF:zAQ l i):zF (fun q=>e41 q l i) (tW N l i):=by
 simp only[e41]
 have hx:=he _ (uW h0 h1)
 refine zF.pure (yH h0 h1) ((hN _).bind ?_)
 unfold tW
 by_cases a1:N (zJ l i).name=true
 ·refine zF.ifT a1 ((R5 _ i hx.1).bind ?_)
  rw[a1,Bool.true_and]
  by_cases a2:wX (zJ l i).type i=true
  ·refine zF.ifT a2 ?_
   rw[a2,Bool.true_and]
   by_cases k1:(zJ l i).kind=1
   ·rw[if_pos k1];exact zF.ifT (by simp[k1]) ((zJF l i h0 h1 hl he).bind zF.ret)
   rw[if_neg k1]
   refine zF.ifF (by simp[k1]) ?_
   by_cases k2:(zJ l i).kind=2
   ·rw[if_pos k2];exact zF.ifT (by simp[k2]) ((zTN l i h0 h1 he hF).bind zF.ret)
   rw[if_neg k2]
   refine zF.ifF (by simp[k2]) ?_
   by_cases k4:(zJ l i).kind=4
   ·rw[if_pos k4];exact zF.ifT (by simp[k4]) ((zPS l i h0 h1 he hF).bind zF.ret)
   rw[if_neg k4]
   refine zF.ifF (by simp[k4]) ?_
   by_cases k3:(zJ l i).kind=3
   ·rw[if_pos k3];exact zF.ifT (by simp[k3]) ((zTO l i h0 h1 he).bind zF.ret)
   ·rw[if_neg k3];exact zF.ifF (by simp[k3]) zF.ret
  ·exact zF.ifF (by simpa using a2) (zF.ret.eq (by simp[a2]))
 ·exact zF.ifF (by simpa using a1) (zF.ret.eq (by simp[a1]))
theorem s7:∀(r l:List yE) (v:Nat) (acc:List ByteArray),l.drop v=r->l.length≤65535->acc.length≤v->zF (fun q=>eW q l acc (v:Int)) (acc++r.map yE.name)
 | [],l,v,acc,hd,hl,ha=>by
  refine zF.succ ?_
  simp only[eW]
  exact zF.ifF (yO hd) (zF.ret.eq (by simp))
 |x::r,l,v,acc,hd,hl,ha=>by
  have hlt:=yT hd
  refine zF.succ ?_
  simp only[eW]
  refine zF.ifT (yL hd) (zF.pure (yC hd) (zF.pure (yU (by simp<;>omega)) ?_))
  rw[yB v (by omega)]
  exact(s7 r l (v+1) _ (zV hd) hl (by simp<;>omega)).eq (by simp)
theorem zMD(l:List yE)(hl:l.length≤65535):zF (fun q=>e40 q l) (l.map yE.name):=by
 simp only[e40]
 exact(s7 l l 0 [] rfl hl (by simp)).eq (by simp)
theorem zFI(N:ByteArray->Bool)(hN:pP N)(l:List yE)(hl:l.length≤65535)(he:∀e∈l,iH e):∀(m v:Nat),v+m=l.length->zAQ l v->zF (fun q=>eX q l (v:Int)) (zAS N l m v):=by
 intro m
 induction m with
 |zero=>
  intro v hm hF
  refine zF.succ ?_
  simp only[eX]
  exact zF.ifF (decide_eq_false (by omega)) zF.ret
 |succ m ih=>
  intro v hm hF
  refine zF.succ ?_
  simp only[eX]
  refine zF.ifT (decide_eq_true (by omega)) ((zMC N hN l v (by omega) (by omega) hl he hF).bind ?_)
  rw[zAS]
  by_cases h:tW N l v=true
  ·refine zF.ifT h ?_
   rw[yB v (by omega),h,Bool.true_and]
   refine ih (v+1) (by omega) fun j hj0 hj1 hk=>?_
   by_cases e:j=v
   ·subst e
    unfold tW at h
    simp only[Bool.and_eq_true]at h
    have:=h.2.2
    rwa[if_pos hk]at this
   ·exact hF j hj0 (by omega) hk
  ·exact zF.ifF (by simpa using h) (zF.ret.eq (by simp[h]))
def kK(N:ByteArray->Bool)(d:Bool)(l:List yE):Bool:=decide (l.length≤256)&&(d&&zAS N l l.length 0)
theorem s8(N:ByteArray->Bool)(hN:pP N)(l:List yE)(hl:l.length≤65535)(he:∀e∈l,iH e):∃d,zF (fun q=>e39 q (l.map yE.name)) d∧zF (fun q=>e18 q l) (kK N d l):=by
 obtain⟨d,hd,_⟩:=zAO (l.map yE.name) (by simpa using hl)
 refine⟨d,hd,?_⟩
 simp only[e18]
 unfold kK
 by_cases h:l.length≤256
 ·refine zF.ifF (decide_eq_false (by omega)) ((zMD l hl).bind (hd.bind ?_))
  cases d with
  |false=>exact zF.ifF rfl (zF.ret.eq (by simp))
  |true=>exact zF.ifT rfl ((zFI N hN l hl he l.length 0 (by omega) (fun j h0 h1=>by omega)).eq (by simp[h]))
 ·exact zF.ifT (decide_eq_true (by omega)) (zF.ret.eq (by simp[h]))
theorem s9{N:ByteArray->Bool}{l:List yE}:∀ {m v:Nat},zAS N l m v=true->∀j,v≤j->j<v+m->tW N l (j:Int)=true
 |0,v,_,j,h0,h1=>by omega
 |m+1,v,h,j,h0,h1=>by
  rw[zAS]at h
  simp only[Bool.and_eq_true]at h
  by_cases e:j=v
  ·subst e;exact h.1
  ·exact s9 h.2 j (by omega) (by omega)
def vP(N:ByteArray->Bool)(l:List yE):Prop:=l.length≤256∧∀i:Int,0≤i->i<l.length->tW N l i=true
theorem bR{N:ByteArray->Bool}{d:Bool}{l:List yE}(h:kK N d l=true):vP N l:=by
 unfold kK at h
 simp only[Bool.and_eq_true,decide_eq_true_eq]at h
 refine⟨h.1,fun i h0 h1=>?_⟩
 have:=s9 h.2.2 i.toNat (by omega) (by omega)
 rwa[show ((i.toNat:Nat):Int)=i by omega]at this
theorem yZ{N:ByteArray->Bool}{l:List yE}{i:Int}(h:tW N l i=true):wX (zJ l i).type i=true ∧
  ((zJ l i).kind=1->sU l i=true)∧((zJ l i).kind=2->iI l i=true)∧((zJ l i).kind=4->qZ l i=true)∧((zJ l i).kind=3->C2 l i=true)∧((zJ l i).kind=1∨(zJ l i).kind=2∨(zJ l i).kind=3∨(zJ l i).kind=4):=by
 unfold tW at h
 simp only[Bool.and_eq_true]at h
 obtain⟨_,h2,h3⟩:=h
 refine⟨h2,fun k=>by rwa[if_pos k]at h3,fun k=>?_,fun k=>?_,fun k=>?_,?_⟩
 ·rwa[if_neg (by omega),if_pos k]at h3
 ·rwa[if_neg (by omega),if_neg (by omega),if_pos k]at h3
 ·rwa[if_neg (by omega),if_neg (by omega),if_neg (by omega),if_pos k]at h3
 ·split at h3
  ·exact .inl (by assumption)
  ·split at h3
   ·exact .inr (.inl (by assumption))
   ·split at h3
    ·exact .inr (.inr (.inr (by assumption)))
    ·split at h3
     ·exact .inr (.inr (.inl (by assumption)))
     ·cases h3
def zJJ(e:yE):yE:=yE.mk e.kind e.name (iE e.type) (iE e.body) e.fam e.place e.pars e.inds e.level e.cons e.fields
def ECl(e:yE):Prop:=e.cons.length≤17592186044416∧e.fields.length≤17592186044416
theorem zDa:∀(r l acc:List yE) (v:Nat),l.drop v=r->l.length≤65535->(∀e∈l,iH e)->(∀e∈l,ECl e)->acc.length≤v->zF (fun q=>eY q l acc (v:Int)) (acc++r.map zJJ)
 | [],l,acc,v,hd,hl,he,hc,ha=>by
  refine zF.succ ?_
  simp only[eY]
  exact zF.ifF (yO hd) (zF.ret.eq (by simp))
 |x::r,l,acc,v,hd,hl,he,hc,ha=>by
  have hlt:=yT hd
  have hx:x∈l:=by
   have:x∈l.drop v:=by rw[hd];simp
   exact List.mem_of_mem_drop this
  have hE:=he x hx
  have hC:=hc x hx
  refine zF.succ ?_
  simp only[eY]
  refine zF.ifT (yL hd) (zF.pure (yC hd) ((gP _ hE.1).bind ((gP _ hE.2.1).bind ?_)))
  refine zF.bind (a:=x.cons) (zF.mk fun q=>(yU (by have:=hC.1;simp<;>omega)).trans (by simp)) (zF.bind (a:=x.fields) (zF.mk fun q=>(yU (by have:=hC.2;simp<;>omega)).trans (by simp)) (zF.pure (yU (by simp<;>omega)) ?_))
  rw[yB v (by omega)]
  exact(zDa r l _ (v+1) (zV hd) hl he hc (by simp<;>omega)).eq (by simp[zJJ])
theorem R7(l:List yE)(hl:l.length≤65535)(he:∀e∈l,iH e)(hc:∀e∈l,ECl e):zF (fun q=>e61 q l) (l.map zJJ):=by
 simp only[e61]
 exact(zDa l l [] 0 rfl hl he hc (by simp)).eq (by simp)
theorem mP{t:Tm}{n:Int}(h:wX t n=true):zI t=true:=by
 unfold wX tL at h
 simp only[Bool.and_eq_true]at h
 exact h.1.1.1
theorem zFJ{t:Tm}(h:nS t=true):t=zT:=by
 unfold nS at h
 simp only[Bool.and_eq_true,beq_iff_eq]at h
 obtain⟨k,n,l⟩:=t
 have h1:k=0:=h.1.1
 have h2:n=0:=h.1.2
 have h3:l=[]:=List.length_eq_zero_iff.1 (by have:(l.length:Int)=0:=h.2;omega)
 subst h1;subst h2;subst h3;rfl
theorem p6{t:Tm}(h:nS t=true):iE t=t:=by
 rw[zFJ h]
 unfold iE
 split
 ·rfl
 ·rfl
theorem zJK{N:ByteArray->Bool}{l:List yE}{i:Int}(h:tW N l i=true):zJJ (zJ l i)=zJ l i:=by
 have hs:=yZ h
 have h1:iE (zJ l i).type=(zJ l i).type:=by unfold iE;rw[if_pos (mP hs.1)]
 have own:uX l i=true->iE (zJ l i).body=(zJ l i).body:=fun ho=>by
  unfold uX zFG at ho
  simp only[Bool.and_eq_true]at ho
  exact p6 ho.1.1.1.1.1.2
 have h2:iE (zJ l i).body=(zJ l i).body:=by
  rcases hs.2.2.2.2.2 with k|k|k|k
  ·have:=hs.2.1 k
   unfold sU lJ at this
   simp only[Bool.and_eq_true]at this
   exact p6 this.1.1.1.2
  ·have:=hs.2.2.1 k
   unfold iI at this
   simp only[Bool.and_eq_true]at this
   exact own this.1
  ·have:=hs.2.2.2.2.1 k
   unfold C2 at this
   simp only[Bool.and_eq_true]at this
   unfold iE;rw[if_pos (mP this.1)]
  ·have:=hs.2.2.2.1 k
   unfold qZ at this
   simp only[Bool.and_eq_true]at this
   exact own this.1
 unfold zJJ
 rw[h1,h2]
theorem C3{N:ByteArray->Bool}{l:List yE}(h:vP N l):l.map zJJ=l:=by
 refine List.ext_getElem (by simp) fun i h1 h2=>?_
 simp only[List.getElem_map]
 have:=zJK (h.2 (i:Int) (by omega) (by omega))
 have e:zJ l (i:Int)=l[i]:=by
  unfold zJ
  rw[show (i:Int).toNat=i by omega,List.getElem?_eq_getElem h2];rfl
 rwa[e]at this
def zME(qq:Nat)(p0:zR):Option zR:=
 some []
theorem zTW{qq p0 r}(h:zME qq p0=some r):Ct 205 [] [zH zC p0 .nl] (.sl (zG zC r) r.length .no) [] 0:=⟨by
 unfold zME at h
 cases h
 exact tF ⟨func205,rfl⟩ 1 [] (oD (dT ([]:zR)) o0),⟨⟨tv,dT _⟩,tv⟩,zA,dT _,zA⟩
def zAT(qq:Nat)(p0:zR):Option zR:=
 xB 40 ([]:zR) p0>>=fun l1=>
 some l1
theorem zMF:Qf 205 f205:=⟨func205,rfl⟩
theorem zTX{qq p0 r}(h:zAT qq p0=some r):Ct 205 [] [zH zC p0 .nn] (.sl (zG zC r) r.length .no) [] 0:=⟨by
 unfold zAT at h
 obtain⟨l1,h2,h⟩:=zB h
 by_cases h3:List.length p0=0
 obtain rfl:=sj h
 exact tF zMF 0 [] (oD (dT l1)<|oP 2 (jI h2 h3) o0)
 obtain rfl:=sj h
 exact tF zMF 0 [] (oD (dT l1)<|oP 2 (vF h2 h3) o0),⟨⟨tv,dT _⟩,tv⟩,zA,dT _,zA⟩
def zHA(qq:Nat)(p0:zR):Option Unit:=
 some ()
theorem zPT{qq p0 r}(h:zHA qq p0=some r):Ct 205 [] [zH zC p0 .nl] (zH zC ([]:zR) .full) [] 0:=⟨by
 unfold zHA at h
 cases h
 exact tG ⟨func205,rfl⟩ 1 [] [] [] true (oD (dT ([]:zR)) o0),⟨⟨tv,dT _⟩,tv⟩,zA,dT _,zA⟩
def zAU(qq:Nat)(p0:zR):Option ((Unit) ⊕ zR):=
 if decide (List.length p0=0)then
 some (.inl ())
 else
 xB 40 ([]:zR) p0>>=fun l2=>
 some (.inr l2)
abbrev zJL (p0:zR) (C:Cf):Prop:=C 205 [] [zH zC p0 .nn] (zH zC ([]:zR) .full) [] 0
abbrev zJM (p0 r:zR) (C:Cf):Prop:=C 205 [] [zH zC p0 .nn] (.ms 0 0 r.length r.length 3) [.row (zG zC r)] 0
theorem zHB:Qf 205 f205:=⟨func205,rfl⟩
theorem zHC{qq p0 r}(h:zAU qq p0=some r):(match (generalizing:=false) r with | .inl x=>zJL p0 Ct | .inr x=>zJM p0 x Ct):=by
 unfold zAU at h
 obtain⟨h1,h⟩|⟨h1,h⟩:=zK h
 cases h
 exact⟨tG zHB 0 [] [] [] true (oD (dT ([]:zR))<|oQ 2 (zXg (of_decide_eq_true h1)) o0),⟨⟨tv,dT _⟩,tv⟩,zA,dT _,zA⟩
 obtain⟨l2,h3,h⟩:=zB h
 cases h
 exact⟨tF zHB 0 [0] (oD (dT l2)<|oM 2 (zXe h3 (of_decide_eq_false h1)) o0),⟨⟨tv,dT _⟩,tv⟩,zA,(lz rfl),(zD (dT _) zA)⟩
def zTY(_qq:Nat)(p0:zR):Option zR:=xB 40 [] p0
theorem zYp{qq:Nat}{p0:zR}{r:zR}(h:zTY qq p0=some r):CT prog 205 [] [.sl (zG zC p0) p0.length .no] (.sl (zG zC r) r.length .no) [] 0:=by
 have hr:r=p0:=by have:=(rC h).2;simpa using this
 have h1:zAT qq p0=some r:=by unfold zAT;rw[show xB 40 ([]:zR) p0=some r from h];rfl
 have k1:=zTX h1
 refine⟨uN.nilcase (fun hn=>?_) k1.tri,⟨⟨trivial,dT _⟩,trivial⟩,(fun _ h=>nomatch h),dT _,(fun _ h=>nomatch h)⟩
 have hp:p0=[]:=O7 qD (by decide) hn
 subst hr
 subst hp
 exact(zTW (qq:=qq) rfl).tri
def zFK(qq:Nat)(p0:zR):Option (Unit ⊕ zR):=if decide (List.length p0=0)=true then some (.inl ())else(xB 40 [] p0)>>=fun r=>some (.inr r)
theorem zMG{qq:Nat}{p0:zR}{r:Unit ⊕ zR}(h:zFK qq p0=some r):(match (generalizing:=false) r with | .inl _=>CT prog 205 [] [.sl (zG zC p0) p0.length .no] (.sl (zG zC ([]:zR)) (List.length ([]:zR)) .full) [] 0 | .inr x=>CT prog 205 [] [.sl (zG zC p0) p0.length .no] (.ms 0 0 x.length x.length 3) [.row (zG zC x)] 0):=by
 unfold zFK at h
 obtain⟨h1,h⟩|⟨h1,h⟩:=zK h
 ·obtain rfl:=sj h
  have hp:p0=[]:=List.length_eq_zero_iff.1 (of_decide_eq_true h1)
  subst hp
  have k0:=zPT (qq:=qq) (p0:=[]) (r:=()) rfl
  have k1:=zHC (qq:=qq) (p0:=[]) (r:=.inl ()) rfl
  exact⟨uN.nilcase (fun _=>k0.tri) k1.tri,⟨⟨trivial,dT _⟩,trivial⟩,(fun _ h=>nomatch h),dT _,(fun _ h=>nomatch h)⟩
 ·obtain⟨x,h2,h⟩:=zB h
  cases h
  have k1:=zHC (qq:=qq) (p0:=p0) (r:=.inr x) (by unfold zAU;rw[if_neg (by rw[h1];decide),h2];rfl)
  refine⟨uN.nilcase (fun hn=>?_) k1.tri,⟨⟨trivial,dT _⟩,trivial⟩,(fun _ h=>nomatch h),(show 0<1 by decide),zD (dT _) zA⟩
  have hp:p0=[]:=O7 qD (by decide) hn
  subst hp
  cases h1
def zMH(a:Nat)(c:zY)(d:Tm)(b e:Int):Option sE:=
 zDl a d>>=fun r1=>
 Q5 a r1.2.1>>=fun r3=>
 if r1.2.2 != 0 then
 some (sE.mk false [] [])
 else
 if r3.1.k != 6 then
 some (sE.mk false [] [])
 else
 if r3.1.n != b then
 some (sE.mk false [] [])
 else
 zP c b>>=fun x8=>
 zFa a r1.2.1 b x8.pars x8.inds (yN (e+(r1.1.length:Int)))>>=fun r10=>
 if r10 then
 nE r3.2 x8.pars (r3.2.length:Int)>>=fun x13=>
 zTY a x13>>=fun r15=>
 some (sE.mk true r1.1 r15)
 else
 some (sE.mk false [] [])
theorem zMI:Qf 206 f206:=⟨func206,rfl⟩
theorem yBz{a c d b e r}(h:zMH a c d b e=some r):Ct 206 [] [zH yA c .no,yV d,ai b,ai e] (zXr r) [] 0:=⟨by
 unfold zMH at h
 have z {os ob} (k:Oz os ob):=oD (dT ([]:zR))<|oD (dT ([]:zR))<|k
 obtain⟨r1,h2,h⟩:=zB h
 obtain⟨r3,h4,h⟩:=zB h
 have k:=oC 5 [] (zFd h4)<|oC 1 [] (zPA h2) o0
 obtain⟨h5,h⟩|⟨h5,h⟩:=zK h
 cases h
 exact tF zMI 1 [] (z<|oB 3 h5 k)
 have k:=oB 3 h5 k
 obtain⟨h6,h⟩|⟨h6,h⟩:=zK h
 cases h
 exact tF zMI 1 [] (z<|oB 1 h6 k)
 have k:=oB 1 h6 k
 obtain⟨h7,h⟩|⟨h7,h⟩:=zK h
 cases h
 exact tF zMI 1 [] (z<|oB 1 h7 k)
 obtain⟨x8,h9,h⟩:=zB h
 obtain⟨r10,h11,h⟩:=zB h
 have k:=oA 1 (xK (o:=.no) h9)<|oA 1 (xK (o:=.no) h9)<|oB 1 h7 k
 obtain⟨h12,h⟩|⟨h12,h⟩:=zK h
 obtain⟨x13,h14,h⟩:=zB h
 obtain⟨r15,h16,h⟩:=zB h
 cases h
 exact tF zMI 1 [] (oD (dT r15)<|oD (dT r1.1)<|oC 0 [] (zYp h16)<|oA 1 (qV h14)<|oA 1 (xK (o:=.no) h9)<|oK 3 [] h12 (zPD h11) k)
 cases h
 exact tF zMI 2 [] (z<|oK 3 [] h12 (zPD h11) k),⟨⟨tv,dE _⟩,⟨tv,tv,⟨tv,dT _⟩,tv⟩,tv,tv,tv⟩,zA,⟨tv,dT _,dT _,tv⟩,zA⟩
def kL:Nat->zY->yE->zR->zR->Int->List sE->Option sF
 |0,_,_,_,_,_,_=>none
 |c+1,d,x1,x7,r11,b,a=>
 if decide (b<(x7.length:Int))then
 zP x7 b>>=fun x14=>
 zMH c d x14 x1.fam (yN (x1.pars+b))>>=fun r16=>
 xB 56 a [r16]>>=fun l18=>
 kL c d x1 x7 r11 (yN (b+1)) l18
 else
 some (sF.mk x7 r11 a)
def zMJ(c:Nat)(d:zY)(e:Int):Option sF:=
 zP d e>>=fun x1=>
 zDl c x1.type>>=fun r3=>
 Q5 c r3.2.1>>=fun r5=>
 nE r3.1 x1.pars (r3.1.length:Int)>>=fun x7=>
 nE r5.2 x1.pars (r5.2.length:Int)>>=fun x9=>
 zTY c x9>>=fun r11=>
 kL c d x1 x7 r11 0 []
theorem zPU:∀c:Nat,(∀ {d x1 x7 r11 b a r},kL c d x1 x7 r11 b a=some r->(∀j,dL 0 (pt 262069 f158) (sp j 64 0 [(0,zH yA d .no),(4,.mp 0 0),(5,.mp 1 0),(11,.mp 2 0),(41,zH zC x7 .no),(42,ai (x7.length:Int)),(43,ai b)]) (⟨[(0,.cells [zH zC ([]:zR) .nl,zH zC ([]:zR) .nl,zH cR ([]:List sE) .nl]),(1,.cells [ai x1.kind,at' x1.name,ai x1.type.k,ai x1.type.n,zH zC x1.type.sub .no,ai x1.body.k,ai x1.body.n,zH zC x1.body.sub .no,ai x1.fam,ai x1.place,ai x1.pars,ai x1.inds,ai x1.level,zH zU x1.cons .no,zH zU x1.fields .no]),(2,.cells [zH zC x7 .no,zH zC r11 .no,zH cR a (.st 0 3)])],3,[0],1,[]⟩) (fQ 0 (nQ 0 f158 (zXq r) [] 0) [.blk 0,.seq (pt 4095 f158)]))):=by
 intro c
 induction c with
 |zero=>
  exact fun h=>nn h
 |succ c ih=>
  intro d x1 x7 r11 b a r h
  rw[kL]at h
  obtain⟨h13,h⟩|⟨h13,h⟩:=zK h
  obtain⟨x14,h15,h⟩:=zB h
  obtain⟨r16,h17,h⟩:=zB h
  obtain⟨l18,h19,h⟩:=zB h
  exact fun j=>lH 2 [] [0,1,2] [1] [0,4,5,11,41,42,43] (oD (dT x7)<|oD (dE d)<|oD (dR l18)<|oD (dT r11)<|oD (dT x7)<|oD (dI x1.fields)<|oD (dI x1.cons)<|oD (dT x1.body.sub)<|oD (dT x1.type.sub)<|oD (dR ([]:List sE))<|oD (dT ([]:zR))<|oD (dT ([]:zR))<|oP 1 (zTo h19 (by simp))<|oC 4 [] (yBz h17)<|cD 2<|oA 0 (xH (o:=.no) h15)<|oB 0 h13 o0) (ih h)
  cases h
  exact fun j=>lF 2 [] (oD (dR a)<|oD (dT r11)<|oD (dT x7)<|oB 0 h13 o0)
theorem yBy{c d e r}(h:zMJ c d e=some r):Ct 158 [] [zH yA d .no,ai e] (zXq r) [] 0:=⟨by
 unfold zMJ at h
 obtain⟨x1,h2,h⟩:=zB h
 obtain⟨r3,h4,h⟩:=zB h
 obtain⟨r5,h6,h⟩:=zB h
 obtain⟨x7,h8,h⟩:=zB h
 obtain⟨x9,h10,h⟩:=zB h
 obtain⟨r11,h12,h⟩:=zB h
 exact tH ⟨func158,rfl⟩ 3 [(some 4,2,3)] [0,1,4] [0] [0,4,5,11,41,42,43] (oD (dT x7)<|oD (dE d)<|oD (dR ([]:List sE))<|oD (dT r11)<|oD (dT x7)<|oD (dI x1.fields)<|oD (dI x1.cons)<|oD (dT x1.body.sub)<|oD (dT x1.type.sub)<|oD (dR ([]:List sE))<|oD (dT ([]:zR))<|oD (dT ([]:zR))<|oC 0 [] (zYp h12)<|oA 1 (qV h10)<|oA 0 (qV h8)<|cD 3<|oC 5 [] (zFd h6)<|oC 3 [] (zPA h4)<|oA 0 (xK (o:=.no) h2) o0) (zPU _ h),⟨⟨tv,dE _⟩,tv,tv⟩,zA,⟨dT _,dT _,dR _,tv⟩,zA⟩
def nT:Nat->zY->tP->Int->tP->Option ((tP×Int) ⊕ (tP×Int))
 |0,_,_,_,_=>none
 |f+1,d,x4,e,a=>
 if decide (e<(d.length:Int))then
 zP d e>>=fun x7=>
 if x7.kind==2 then
 zMJ f d e>>=fun r10=>
 zLe x4.length e>>=fun x12=>
 zLd a x12 r10>>=fun x14=>
 nT f d x4 (yN (e+1)) x14
 else
 nT f d x4 (yN (e+1)) a
 else
 gfz x4.length a>>=fun l16=>
 some (.inr (l16,0))
def zJN(f:Nat)(d:zY):Option ((tP×Int) ⊕ (tP×Int)):=
 e18 f d>>=fun r1=>
 if r1 then
 gmk 72 (default:sF) (d.length:Int)>>=fun x4=>
 nT f d x4 0 x4
 else
 some (.inl ([],5))
abbrev zTZ (d:zY) (r:tP×Int) (C:Cf):Prop:=C 101 [] [zH yA d .no] (.tup [.sl (zG qT r.1) r.1.length .no,ai r.2]) [] 0
abbrev zUz (d:zY) (r:tP×Int) (C:Cf):Prop:=C 101 [] [zH yA d .no] (.tup [.ms 0 0 r.1.length r.1.length 3,ai r.2]) [.row (zG qT r.1)] 0
theorem zUy:Qf 101 f101:=⟨func101,rfl⟩
theorem zHD:∀f:Nat,(∀ {d x4 e a r},nT f d x4 e a=some r->(∀j,dL 0 (pt 16309 f101) (sp j 31 0 [(0,zH yA d .no),(4,.ms 0 0 x4.length x4.length 3),(13,ai (d.length:Int)),(14,ai e)]) (⟨[(0,.row (zG qT a))],1,[],0,[]⟩) (fQ 0 ((match (generalizing:=false) r with | .inl x=>nQ 0 f101 (.tup [.sl (zG qT x.1) x.1.length .no,ai x.2]) [] 0 | .inr x=>nQ 0 f101 (.tup [.ms 0 0 x.1.length x.1.length 3,ai x.2]) [.row (zG qT x.1)] 0)) [.blk 0,.seq (pt 255 f101)]))):=by
 intro f
 induction f with
 |zero=>
  exact fun h=>nn h
 |succ f ih=>
  intro d x4 e a r h
  rw[nT]at h
  obtain⟨h6,h⟩|⟨h6,h⟩:=zK h
  obtain⟨x7,h8,h⟩:=zB h
  have k:=oA 0 (xK (o:=.no) h8)<|oB 0 h6 o0
  obtain⟨h9,h⟩|⟨h9,h⟩:=zK h
  obtain⟨r10,h11,h⟩:=zB h
  obtain⟨x12,h13,h⟩:=zB h
  obtain⟨x14,h15,h⟩:=zB h
  exact fun j=>lH 1 [] [0] [] [0,4,13,14] (oD (dE d)<|oD (dC x14)<|oW 0 (wtE (x:=r10) (cs:=[zH zC r10.args .no,zH zC r10.inds .no,zH cR r10.recs .no]) zFr rfl h15)<|oA 0 (zTm (b:=0) (c:=List.length x4) (z:=3) h13)<|oC 0 [] (yBy h11)<|oB 1 h9 k) (ih h)
  exact fun j=>lH 1 [] [0] [] [0,4,13,14] (oD (dE d)<|oD (dC a)<|oB 1 h9 k) (ih h)
  obtain⟨l16,h17,h⟩:=zB h
  obtain⟨h17a,h17b⟩:=P5 h17
  cases h
  obtain rfl:=h17a.symm
  try dsimp only
  rw[←h17b]
  exact fun j=>lF 0 [0] (oD (dC a)<|oB 0 h6 o0)
theorem zYo{f d r}(h:zJN f d=some r):(match (generalizing:=false) r with | .inl x=>zTZ d x Ct | .inr x=>zUz d x Ct):=by
 unfold zJN at h
 obtain⟨r1,h2,h⟩:=zB h
 obtain⟨h3,h⟩|⟨h3,h⟩:=zK h
 obtain⟨x4,h5,h⟩:=zB h
 rcases r with y0|y1
 exact⟨tH zUy 1 [] [0] [] [0,4,13,14] (oD (dE d)<|oD (dC x4)<|oM 2 (zLL h5)<|oK 0 [] h3 (c18 h2) o0) (zHD _ h),⟨⟨tv,dE _⟩,tv⟩,zA,⟨dC _,tv,tv⟩,zA⟩
 exact⟨tH zUy 1 [] [0] [] [0,4,13,14] (oD (dE d)<|oD (dC x4)<|oM 2 (zLL h5)<|oK 0 [] h3 (c18 h2) o0) (zHD _ h),⟨⟨tv,dE _⟩,tv⟩,zA,⟨(lz rfl),tv,tv⟩,(zD (dC _) zA)⟩
 cases h
 exact⟨tF zUy 1 [] (oD (dC ([]:tP))<|oK 0 [] h3 (c18 h2) o0),⟨⟨tv,dE _⟩,tv⟩,zA,⟨dC _,tv,tv⟩,zA⟩
theorem zYn{f d r}(h:zJN f d=some r):(match (generalizing:=false) r with | .inl x=>CT prog 101 [] [zH yA d .no] (.tup [.sl (zG qT x.1) x.1.length .no,ai x.2]) [] 0 | .inr x=>CT prog 101 [] [zH yA d .no] (.tup [.sl (zG qT x.1) x.1.length .no,ai x.2]) [] 0):=by
 have k:=zYo h
 rcases r with y0|y1
 ·exact k
 ·exact CT.freeze (H1:=[]) (cs:=zG qT y1.1) (res':=(.tup [.sl (zG qT y1.1) y1.1.length .no,ai y1.2])) k (Nat.le_of_ble_eq_true rfl) zA (dC _) ⟨(.inl ⟨rfl,rfl⟩),trivial,tv⟩ (by rfl) rfl
theorem zFL{t:Tm}{n:Int}(h:(xR t n).2.2≠0):(xR t n).2.1=zT∧(xR t n).1=[]:=by
 unfold xR at h ⊢
 split
 ·split
  ·exact⟨rfl,rfl⟩
  ·split
   ·exact⟨rfl,rfl⟩
   ·rename_i h1 h2 h3
    rw[if_pos h1,if_neg h2,if_neg h3]at h
    cases hr:tQ n.toNat t with
    |none=>exact⟨rfl,rfl⟩
    |some r=>rw[hr]at h;exact absurd rfl h
 ·exact⟨rfl,rfl⟩
theorem zPV:zF (fun q=>Q5 q zT) (zX zT,yX zT):=by
 refine zF.mk fun q=>?_
 show qH zT zT []=_
 unfold zT qH zX yX
 simp
theorem p7(t:Tm):zF (fun q=>Q5 q (yR t).2.1) (zX (yR t).2.1,yX (yR t).2.1):=by
 by_cases h:(yR t).2.2=0
 ·have hw:=tJ (t:=t) (l:=(yR t).1) (y:=(yR t).2.1) (by rw[←h])
  exact lI _ hw.2.2.2.2.1
 ·have:=(zFL (t:=t) (n:=((min (wK t) 25:Nat):Int)) h).1
  have e:(yR t).2.1=zT:=this
  rw[e];exact zPV
def zDA(l:List yE)(t:Tm)(of b:Int):sE:=
 if (yR t).2.2=0∧uQ (yR t).2.1 of (zJ l of).pars (zJ l of).inds (b+(yR t).1.length)=true then sE.mk true (yR t).1 ((yX (yR t).2.1).drop (zJ l of).pars.toNat)else sE.mk false [] []
theorem pA{α:Type}{L:List α}{n:Int}(h0:0≤n)(h1:n≤L.length):nE L n (L.length:Int)=some (L.drop n.toNat):=by
 unfold nE
 rw[if_pos ⟨h0,h1,by omega⟩]
 congr 1
 exact List.take_of_length_le (by simp;omega)
theorem fZ{t:Tm}{of pars more b:Int}(h:uQ t of pars more b=true):(zX t).k=6∧(zX t).n=of∧((yX t).length:Int)=pars+more:=by
 unfold uQ at h
 simp only[Bool.and_eq_true,beq_iff_eq]at h
 exact⟨h.1.1.1,h.1.1.2,h.1.2⟩
theorem zUx(l:List yE)(t:Tm)(of b:Int)(ho:t.Ok)(h0:0≤of)(h1:of<l.length)(hp:0≤(zJ l of).pars∧0≤(zJ l of).inds∧(zJ l of).pars+(zJ l of).inds≤24)(hb:0≤b∧b≤1048576) :
  zF (fun q=>zMH q l t of b) (zDA l t of b):=by
 simp only[zMH]
 refine(bP t ho).bind ((p7 t).bind ?_)
 unfold zDA
 by_cases a1:(yR t).2.2=0
 ·have hw:=tJ (t:=t) (l:=(yR t).1) (y:=(yR t).2.1) (by rw[←a1])
  refine zF.ifF (by simp[a1]) ?_
  have hlen:=hw.2.2.1
  rw[zW (x:=b+((yR t).1.length:Int)) (by omega) (by omega)]
  have ha:=eV (yR t).2.1 of (zJ l of).pars (zJ l of).inds (b+(yR t).1.length) hw.2.2.2.2.1 (by omega) (by omega) (by omega)
  by_cases a2:uQ (yR t).2.1 of (zJ l of).pars (zJ l of).inds (b+(yR t).1.length)=true
  ·have hs:=fZ a2
   rw[if_pos ⟨a1,a2⟩]
   refine zF.ifF (by simp[hs.1]) (zF.ifF (by simp[hs.2.1]) (zF.pure (yH h0 h1) (ha.bind (zF.ifT a2 (zF.pure (pA hp.1 (by show _≤((yX (yR t).2.1).length:Int);omega)) ?_)))))
   have hal:=sX _ (zM hw.2.2.2.2.1).2.2
   have hn:=(zM hw.2.2.2.2.1).1
   refine zF.bind (a:=(yX (yR t).2.1).drop (zJ l of).pars.toNat) (zF.mk fun q=>(yU (by simp<;>omega)).trans (by simp)) zF.ret
  ·rw[if_neg (fun h=>a2 h.2)]
   refine zF.iff (fun _=>zF.ret) fun _=>zF.iff (fun _=>zF.ret) fun _=>zF.pure (yH h0 h1) (ha.bind (zF.ifF (by simpa using a2) zF.ret))
 ·rw[if_neg (fun h=>a1 h.1)]
  exact zF.ifT (by simp[a1]) zF.ret
def G6(l:List yE)(of:Int):List Tm->Int->List sE
 | [],_=>[]
 |a::r,b=>zDA l a of b::G6 l of r (b+1)
theorem p8(l:List yE)(of:Int):∀(r:List Tm) (b:Int),(G6 l of r b).length=r.length
 | [],_=>rfl
 |a::r,b=>congrArg (· + 1) (p8 l of r (b+1))
def uY(l:List yE)(i:Int):sF:=
 sF.mk ((yR (zJ l i).type).1.drop (zJ l i).pars.toNat) ((yX (yR (zJ l i).type).2.1).drop (zJ l i).pars.toNat) (G6 l (zJ l i).fam ((yR (zJ l i).type).1.drop (zJ l i).pars.toNat) (zJ l i).pars)
theorem p9(l:List yE)(x:yE)(A I:List Tm)(hA:∀t∈A,t.Ok)(hl:A.length≤24)(h0:0≤x.fam)(h1:x.fam<l.length)(hp:0≤(zJ l x.fam).pars∧0≤(zJ l x.fam).inds∧(zJ l x.fam).pars+(zJ l x.fam).inds≤24)(hb:0≤x.pars∧x.pars≤24) :
  ∀(r:List Tm) (v:Nat) (acc:List sE),A.drop v=r->acc.length≤v->zF (fun q=>kL q l x A I (v:Int) acc) (sF.mk A I (acc++G6 l x.fam r (x.pars+v)))
 | [],v,acc,hd,ha=>by
  refine zF.succ ?_
  simp only[kL]
  exact zF.ifF (yO hd) (zF.ret.eq (by simp[G6]))
 |t::r,v,acc,hd,ha=>by
  have hlt:=yT hd
  have ht:t∈A:=by
   have:t∈A.drop v:=by rw[hd];simp
   exact List.mem_of_mem_drop this
  refine zF.succ ?_
  simp only[kL]
  rw[zW (x:=x.pars+v) (by omega) (by omega)]
  refine zF.ifT (yL hd) (zF.pure (yC hd) ((zUx l t x.fam (x.pars+v) (hA t ht) h0 h1 hp (by omega)).bind (zF.pure (yU (by simp<;>omega)) ?_)))
  rw[yB v (by omega)]
  refine(p9 l x A I hA hl h0 h1 hp hb r (v+1) _ (zV hd) (by simp<;>omega)).eq ?_
  rw[G6,show x.pars+((v+1:Nat):Int)=x.pars+v+1 by omega];simp
theorem sI{N:ByteArray->Bool}{l:List yE}{i:Int}(hE:vP N l)(h0:0≤i)(h1:i<l.length)(hk:(zJ l i).kind=2) :
  ∃(A:List Tm) (y:Tm),yR (zJ l i).type=(A,y,0)∧zI y=true∧(∀t∈A,zI t=true)∧A.length=wK (zJ l i).type∧A.length≤24∧0≤(zJ l i).pars∧(zJ l i).pars≤A.length ∧
   0≤(zJ l i).fam∧(zJ l i).fam<i∧(zJ l (zJ l i).fam).kind=1∧(zJ l i).pars=(zJ l (zJ l i).fam).pars∧0≤(zJ l (zJ l i).fam).inds∧(zJ l (zJ l i).fam).pars+(zJ l (zJ l i).fam).inds≤24 ∧
   uQ y (zJ l i).fam (zJ l i).pars (zJ l (zJ l i).fam).inds A.length=true∧0≤(zJ l i).place∧(zJ l i).place<(zJ l (zJ l i).fam).cons.length:=by
 have hc:=(yZ (hE.2 i h0 h1)).2.2.1 hk
 unfold iI at hc
 simp only[Bool.and_eq_true,beq_iff_eq,decide_eq_true_eq]at hc
 obtain⟨a1,a2,a3,a4⟩:=hc
 have ho:=vG a1
 have hf:=wA ((yZ (hE.2 _ ho.1 (by omega))).2.1 ho.2.2.1)
 have hw:=tJ (t:=(zJ l i).type) (l:=(yR (zJ l i).type).1) (y:=(yR (zJ l i).type).2.1) (by rw[←a2])
 have hown:fL l (zJ l i)=(zJ l (zJ l i).fam).cons:=by unfold fL;rw[if_neg (by omega)]
 have h6:=ho.2.2.2.2.2
 rw[hown]at h6
 exact⟨_,_,by rw[←a2],hw.2.2.2.2.1,hw.2.2.2.2.2,hw.2.1,hw.2.2.1,by omega,a3,ho.1,ho.2.1,ho.2.2.1,ho.2.2.2.1,hf.2.1,hf.2.2.1,a4,ho.2.2.2.2.1,h6⟩
theorem xL{t:Tm}(h:zI t=true):t.Ok:=sS t (zM h).2.2
theorem zMK{N:ByteArray->Bool}(l:List yE)(i:Int)(hE:vP N l)(h0:0≤i)(h1:i<l.length)(hk:(zJ l i).kind=2)(he:∀e∈l,iH e):zF (fun q=>zMJ q l i) (uY l i):=by
 simp only[zMJ]
 obtain⟨A,y,hw,hy,hA,hAp,hA24,p0,p1,f0,f1,fk,fp,fi,fs,hap,-,-⟩:=sI hE h0 h1 hk
 have hsp:=fZ hap
 refine zF.pure (yH h0 h1) ((bP _ (he _ (uW h0 h1)).1).bind ((p7 _).bind ?_))
 unfold uY
 rw[hw]
 have hal:=sX _ (zM hy).2.2
 have hn:=(zM hy).1
 refine zF.pure (pA p0 p1) (zF.pure (pA p0 (by show _≤((yX y).length:Int);omega)) (zF.bind (a:=(yX y).drop (zJ l i).pars.toNat) (zF.mk fun q=>(yU (by simp<;>omega)).trans (by simp)) ?_))
 refine(p9 l (zJ l i) (A.drop (zJ l i).pars.toNat) ((yX y).drop (zJ l i).pars.toNat) (fun t ht=>xL (hA t (List.mem_of_mem_drop ht))) (by simp;omega) f0 (by omega) (by omega) (by omega) _ 0 [] rfl (by simp)).eq ?_
 simp
def kM(l:List yE):Nat->Nat->List sF
 |0,_=>[]
 |m+1,v=>(if (zJ l v).kind=2 then uY l v else default)::kM l m (v+1)
theorem zHE(l:List yE):∀(m v j:Nat),j<m->(kM l m v)[j]? = some (if (zJ l ((v+j:Nat):Int)).kind=2 then uY l ((v+j:Nat):Int)else default)
 |m+1,v,0,_=>by simp[kM]
 |m+1,v,j+1,h=>by
  rw[kM,List.getElem?_cons_succ,zHE l m (v+1) j (by omega),show v+1+j=v+(j+1) by omega]
theorem zJO{N:ByteArray->Bool}(l:List yE)(x4:List sF)(hx:x4.length=l.length)(hE:vP N l)(he:∀e∈l,iH e):∀(m v:Nat) (acc:List sF),v+m=l.length->acc.length=v ->
  zF (fun q=>nT q l x4 (v:Int) (acc++List.replicate m default)) (.inr (acc++kM l m v,0)):=by
 intro m
 induction m with
 |zero=>
  intro v acc hm ha
  refine zF.succ ?_
  simp only[nT]
  refine zF.ifF (decide_eq_false (by omega)) (zF.pure (a:=acc++List.replicate 0 default) (by unfold gfz;rw[if_pos (by simp;omega)]) (zF.ret.eq (by simp[kM])))
 |succ m ih=>
  intro v acc hm ha
  refine zF.succ ?_
  simp only[nT]
  refine zF.ifT (decide_eq_true (by omega)) (zF.pure (yH (by omega) (by omega)) ?_)
  have hl:=hE.1
  rw[yB v (by omega),kM]
  by_cases k:(zJ l v).kind=2
  ·rw[if_pos k]
   refine zF.ifT (by simp[k]) ((zMK l v hE (by omega) (by omega) k he).bind ?_)
   refine zF.pure (a:=v) (by unfold zLe;rw[if_pos (by omega)];simp) ?_
   refine zF.pure (a:=acc++uY l v::List.replicate m default) ?_ ?_
   ·unfold zLd
    rw[if_pos (by simp;omega),List.set_append_right _ _ (by omega),show v-acc.length=0 by omega,List.replicate_succ];rfl
   ·have:=ih (v+1) (acc++[uY l v]) (by omega) (by simp;omega)
    simpa using this
  ·rw[if_neg k]
   refine zF.ifF (by simp[k]) ?_
   have:=ih (v+1) (acc++[default]) (by omega) (by simp;omega)
   rw[List.replicate_succ]
   simpa using this
def e60(b:Nat)(a:zY):Option ((Int) ⊕ (Int×zY×tP)):=
 e61 b a>>=fun r1=>
 e18 b a>>=fun r3=>
 if r3 then
 zJN b r1>>=fun r6=>
 match r6 with
 | .inl y8=>
  if y8.2 != 0 then
  some (.inl y8.2)
  else
  some (.inr (0,r1,y8.1))
 | .inr y10=>
  if y10.2 != 0 then
  some (.inl y10.2)
  else
  some (.inr (0,r1,y10.1))
 else
 some (.inl 5)
abbrev zML (a:zY) (r:Int) (C:Cf):Prop:=C 60 [] [zH yA a .no] (.tup [.val (.pointer none),ai r]) [] 0
abbrev zMM (a:zY) (r:Int×zY×tP) (C:Cf):Prop:=C 60 [] [zH yA a .no] (.tup [.mp 0 0,ai r.1]) [.cells [zH yA r.2.1 .no,zH qT r.2.2 .no]] 0
theorem q60:Qf 60 f60:=⟨func60,rfl⟩
theorem zMN{a r}(h:zML a r Ci):zML a r Ct:=⟨h,⟨⟨tv,dE _⟩,tv⟩,zA,⟨tv,tv,tv⟩,zA⟩
theorem zSE{a r}(h:zMM a r Ci):zMM a r Ct:=⟨h,⟨⟨tv,dE _⟩,tv⟩,zA,⟨(lz rfl),tv,tv⟩,(zD ⟨dE _,dC _,tv⟩ zA)⟩
theorem c60{b a r}(h:e60 b a=some r):(match (generalizing:=false) r with | .inl x=>zML a x Ct | .inr x=>zMM a x Ct):=by
 unfold e60 at h
 obtain⟨r1,h2,h⟩:=zB h
 obtain⟨r3,h4,h⟩:=zB h
 have k:=oC 0 [] (c61 h2) o0
 obtain⟨h5,h⟩|⟨h5,h⟩:=zK h
 obtain⟨r6,h7,h⟩:=zB h
 have k:=oK 0 [] h5 (c18 h4) k
 rcases r6 with y8|y10
 dsimp only at h
 have k:=oC 1 [] (zYn h7) k
 obtain⟨h9,h⟩|⟨h9,h⟩:=zK h
 cases h
 exact zMN (tF q60 0 [] (oB 2 h9 k))
 cases h
 exact zSE (tF q60 0 [0] (oD (dC y8.1)<|oD (dE r1)<|oB 2 h9 k))
 dsimp only at h
 have k:=oC 1 [] (zYn h7) k
 obtain⟨h11,h⟩|⟨h11,h⟩:=zK h
 cases h
 exact zMN (tF q60 0 [] (oB 2 h11 k))
 cases h
 exact zSE (tF q60 0 [0] (oD (dC y10.1)<|oD (dE r1)<|oB 2 h11 k))
 cases h
 exact zMN (tF q60 1 [] (oK 0 [] h5 (c18 h4) k))
mutual
def mQ:Nat->zY->(Int×zY×tP)->Int->zY->yD->yD->Option ((Int) ⊕ (Int×zY×yD×yD×zY×tP))
 |0,_,_,_,_,_,_=>none
 |p+1,d,y3,e,a,b,c=>
 if decide (e<(d.length:Int))then
 zP d e>>=fun x8=>
 if x8.kind==1 then
 xB 8 b [(yN ((yN ((yN (x8.pars+2))+(x8.cons.length:Int)))+x8.inds))]>>=fun l11=>
 xB 8 c [0]>>=fun l13=>
 mQ p d y3 (yN (e+1)) a l11 l13
 else
 if x8.kind==2 then
 eZ p d y3 e a b c 0 x8.type.k x8.type.n x8.type.sub
 else
 xB 8 b [0]>>=fun l16=>
 xB 8 c [0]>>=fun l18=>
 mQ p d y3 (yN (e+1)) a l16 l18
 else
 some (.inr (0,a,b,c,y3.2.1,y3.2.2))
def eZ:Nat->zY->(Int×zY×tP)->Int->zY->yD->yD->Int->Int->Int->zR->Option ((Int) ⊕ (Int×zY×yD×yD×zY×tP))
 |0,_,_,_,_,_,_,_,_,_,_=>none
 |p+1,d,y3,e,a,b,c,q,f,m,g=>
 if f==3 then
 zP g 1>>=fun x17=>
 eZ p d y3 e a b c (yN (q+1)) x17.k x17.n x17.sub
 else
 xB 8 b [0]>>=fun l19=>
 xB 8 c [q]>>=fun l21=>
 mQ p d y3 (yN (e+1)) a l19 l21
end
def e32(p:Nat)(d:zY):Option ((Int) ⊕ (Int×zY×yD×yD×zY×tP)):=
 e60 p d>>=fun r1=>
 match r1 with
 | .inl y7=>
  if y7 != 0 then
  some (.inl y7)
  else
  none
 | .inr y3=>
  if y3.1 != 0 then
  some (.inl y3.1)
  else
  e61 p d>>=fun r5=>
  mQ p d y3 0 r5 [] []
abbrev zMO (d:zY) (r:Int) (C:Cf):Prop:=C 32 [] [zH yA d .no] (.tup [.val (.pointer none),ai r]) [] 0
abbrev zYk (d:zY) (r:Int×zY×yD×yD×zY×tP) (C:Cf):Prop:=C 32 [] [zH yA d .no] (.tup [.mp 0 0,ai r.1]) [.cells [zH yA r.2.1 .no,.mp 1 0,zH zU r.2.2.1 .no,zH zU r.2.2.2.1 .no],.cells [zH yA r.2.2.2.2.1 .no,zH qT r.2.2.2.2.2 .no]] 0
theorem q32:Qf 32 Tryz.f32:=⟨func32,rfl⟩
theorem zMP{d r}(h:zMO d r Ci):zMO d r Ct:=⟨h,⟨⟨tv,dE _⟩,tv⟩,zA,⟨tv,tv,tv⟩,zA⟩
theorem bS:∀p:Nat,(∀ {d y3 e a b c r},mQ p d y3 e a b c=some r->(∀j,dL 0 (pt 65461 Tryz.f32) (sp j 81 0 [(6,.mp 0 0),(25,zH yA d .no),(26,ai (d.length:Int)),(27,ai e)]) (⟨[(0,.cells [zH yA a .no,.mp 1 0,zH zU b (.st 0 1),zH zU c (.st 1 1)]),(1,.cells [zH yA y3.2.1 .no,zH qT y3.2.2 .no])],2,[0,1],2,[]⟩) (fQ 0 ((match (generalizing:=false) r with | .inl x=>nQ 0 Tryz.f32 (.tup [.val (.pointer none),ai x]) [] 0 | .inr x=>nQ 0 Tryz.f32 (.tup [.mp 0 0,ai x.1]) [.cells [zH yA x.2.1 .no,.mp 1 0,zH zU x.2.2.1 .no,zH zU x.2.2.2.1 .no],.cells [zH yA x.2.2.2.2.1 .no,zH qT x.2.2.2.2.2 .no]] 0)) [.blk 0,.seq (pt 1023 Tryz.f32)])))∧(∀ {d y3 e a b c q f m g r},eZ p d y3 e a b c q f m g=some r->(∀j,dL 0 (pt 281157048172469 Tryz.f32) (sp j 81 0 [(6,.mp 0 0),(9,ai 0),(10,ai q),(11,.mp 1 0),(25,zH yA d .no),(26,ai (d.length:Int)),(27,ai e)]) (⟨[(0,.cells [zH yA a .no,.mp 2 0,zH zU b (.st 0 1),zH zU c (.st 1 1)]),(1,.cells [ai f,ai m,zH zC g .no]),(2,.cells [zH yA y3.2.1 .no,zH qT y3.2.2 .no])],3,[0,1],2,[]⟩) (fQ 0 ((match (generalizing:=false) r with | .inl x=>nQ 0 Tryz.f32 (.tup [.val (.pointer none),ai x]) [] 0 | .inr x=>nQ 0 Tryz.f32 (.tup [.mp 0 0,ai x.1]) [.cells [zH yA x.2.1 .no,.mp 1 0,zH zU x.2.2.1 .no,zH zU x.2.2.2.1 .no],.cells [zH yA x.2.2.2.2.1 .no,zH qT x.2.2.2.2.2 .no]] 0)) [.blk 3,.blk 2,.seq (pt 1072529023 Tryz.f32),.blk 1,.seq (pt 4189567 Tryz.f32),.loop (pt 65461 Tryz.f32),.blk 0,.seq (pt 1023 Tryz.f32)]))):=by
 intro p
 induction p with
 |zero=>
  exact⟨fun h=>nn h,fun h=>nn h⟩
 |succ p ih=>
  obtain⟨zAV,zHF⟩:=ih
  refine⟨?_,?_⟩
  intro d y3 e a b c r h
  rw[mQ]at h
  obtain⟨h7,h⟩|⟨h7,h⟩:=zK h
  obtain⟨x8,h9,h⟩:=zB h
  have k:=oA 0 (xK (o:=.no) h9)<|oB 0 h7 o0
  obtain⟨h10,h⟩|⟨h10,h⟩:=zK h
  obtain⟨l11,h12,h⟩:=zB h
  obtain⟨l13,h14,h⟩:=zB h
  exact fun j=>lH 3 [] [0,1] [2,3] [6,25,26,27] (oD (dE d)<|oD (dC y3.2.2)<|oD (dE y3.2.1)<|oD (dI l13)<|oD (dI l11)<|oD (dE a)<|oP 2 (tN h14 (by simp))<|oP 9 (tN h12 (by simp))<|oB 3 h10 k) (zAV h)
  have k:=oB 3 h10 k
  obtain⟨h15,h⟩|⟨h15,h⟩:=zK h
  exact fun j=>lH 2 [] [0,3,1] [0,1] [6,9,10,11,25,26,27] (oD (dE d)<|oD (dC y3.2.2)<|oD (dE y3.2.1)<|oD (dT x8.type.sub)<|oD (dI c)<|oD (dI b)<|oD (dE a)<|oB 0 h15 k) (zHF h)
  obtain⟨l16,h17,h⟩:=zB h
  obtain⟨l18,h19,h⟩:=zB h
  exact fun j=>lH 3 [] [0,1] [2,3] [6,25,26,27] (oD (dE d)<|oD (dC y3.2.2)<|oD (dE y3.2.1)<|oD (dI l18)<|oD (dI l16)<|oD (dE a)<|oP 2 (tN h19 (by simp))<|oP 2 (tN h17 (by simp))<|oB 0 h15 k) (zAV h)
  cases h
  exact fun j=>lF 0 [0,1] (oD (dC y3.2.2)<|oD (dE y3.2.1)<|oD (dI c)<|oD (dI b)<|oD (dE a)<|oB 0 h7 o0)
  intro d y3 e a b c q f m g r h
  rw[eZ]at h
  obtain⟨h16,h⟩|⟨h16,h⟩:=zK h
  obtain⟨x17,h18,h⟩:=zB h
  exact fun j=>lH 2 [] [0,3,2] [0,1] [6,9,10,11,25,26,27] (oD (dE d)<|oD (dC y3.2.2)<|oD (dE y3.2.1)<|oD (dT x17.sub)<|oD (dI c)<|oD (dI b)<|oD (dE a)<|oA 4 (xH (o:=.no) h18)<|oB 1 h16 o0) (zHF h)
  obtain⟨l19,h20,h⟩:=zB h
  obtain⟨l21,h22,h⟩:=zB h
  exact fun j=>lH 3 [] [0,2] [2,3] [6,25,26,27] (oD (dE d)<|oD (dC y3.2.2)<|oD (dE y3.2.1)<|oD (dI l21)<|oD (dI l19)<|oD (dE a)<|oP 2 (tN h22 (by simp))<|oP 2 (tN h20 (by simp))<|oB 1 h16 o0) (zAV h)
theorem c32{p d r}(h:e32 p d=some r):(match (generalizing:=false) r with | .inl x=>zMO d x Ct | .inr x=>zYk d x Ct):=by
 unfold e32 at h
 obtain⟨r1,h2,h⟩:=zB h
 rcases r1 with y7|y3
 dsimp only at h
 have k:=oC 0 [] (c60 h2) o0
 obtain⟨h8,h⟩:=sO h
 cases h
 exact zMP (tF q32 0 [] (oB 2 h8 k))
 dsimp only at h
 have k:=oC 0 [] (c60 h2) o0
 obtain⟨h4,h⟩|⟨h4,h⟩:=zK h
 cases h
 exact zMP (tF q32 0 [] (oB 2 h4 k))
 obtain⟨r5,h6,h⟩:=zB h
 rcases r with y0|y1
 exact zMP (tH q32 1 [(some 1,2,1),(some 1,3,1)] [1,0] [0,1] [6,25,26,27] (oD (dE d)<|oD (dC y3.2.2)<|oD (dE y3.2.1)<|oD (dI ([]:yD))<|oD (dI ([]:yD))<|oD (dE r5)<|oC 0 [] (c61 h6)<|oB 2 h4 k) ((bS _).1 h))
 exact⟨tH q32 1 [(some 1,2,1),(some 1,3,1)] [1,0] [0,1] [6,25,26,27] (oD (dE d)<|oD (dC y3.2.2)<|oD (dE y3.2.1)<|oD (dI ([]:yD))<|oD (dI ([]:yD))<|oD (dE r5)<|oC 0 [] (c61 h6)<|oB 2 h4 k) ((bS _).1 h),⟨⟨tv,dE _⟩,tv⟩,zA,⟨(lz rfl),tv,tv⟩,(cE (lz rfl) zA)⟩
theorem zMQ{N:ByteArray->Bool}(l:List yE)(hf:zF (fun q=>e18 q l) true)(hE:vP N l)(he:∀e∈l,iH e):zF (fun q=>zJN q l) (.inr (kM l l.length 0,0)):=by
 simp only[zJN]
 have hl:=hE.1
 refine hf.bind (zF.ifT rfl (zF.pure (a:=List.replicate l.length default) ?_ ?_))
 ·unfold gmk;rw[if_pos (by omega)];rfl
 ·exact(zJO l (List.replicate l.length default) (by simp) hE he l.length 0 [] (by omega) rfl).eq (by simp)
def zFM(l:List yE)(b:Bool):(Int) ⊕ (Int×List yE×List sF):=if b=true then .inr (0,l,kM l l.length 0)else .inl 5
theorem zPW(N:ByteArray->Bool)(hN:pP N)(l:List yE)(hl:l.length≤65535)(he:∀e∈l,iH e)(hc:∀e∈l,ECl e):∃b,zF (fun q=>e18 q l) b∧(b=true->vP N l)∧zF (fun q=>e60 q l) (zFM l b):=by
 obtain⟨d,-,hd⟩:=s8 N hN l hl he
 refine⟨_,hd,bR,?_⟩
 simp only[e60]
 refine(R7 l hl he hc).bind (hd.bind ?_)
 unfold zFM
 by_cases h:kK N d l=true
 ·rw[if_pos h]
  have hA:=bR h
  rw[C3 hA]
  refine zF.ifT h ((zMQ l (hd.eq h) hA he).bind ?_)
  exact zF.ifF (by simp) zF.ret
 ·rw[if_neg h]
  exact zF.ifF (by simpa using h) zF.ret
theorem zJQ(t:Tm)(hg:xC t=true):wK t≤t.nodes:=by
 have key:∀(m:Nat) (t:Tm),t.nodes≤m->xC t=true->wK t≤t.nodes:=by
  intro m
  induction m with
  |zero=>intro t h;have:=wZ t;omega
  |succ m ih=>
   intro t hm hg
   by_cases k:t.k=3
   ·obtain⟨x,y,e,hx,hy⟩:=rO hg k
    rw[e]at hm ⊢
    rw[gR]
    rw[Tm.nodes,yM,yM,yM]at hm ⊢
    have:=wZ x
    have:=ih y (by omega) hy
    omega
   ·rw[zAM k];omega
 exact key t.nodes t (Nat.le_refl _) hg
def wJ(e:yE):Int:=if e.kind=1 then e.pars+2+e.cons.length+e.inds else 0
def rX(e:yE):Int:=if e.kind=2 then(wK e.type:Int)else 0
theorem zPX(l:List yE)(y3:Int×List yE×List sF)(v27:Int)(vb:List yE)(a o:List Int)(r:(Int) ⊕ (Int×List yE×List Int×List Int×List yE×List sF))(ha:a.length≤65535)(ho:o.length≤65535)(tot:Int)(ht:tot≤4611686018427387904)
  (hk:zF (fun q=>mQ q l y3 (yN (v27+1)) vb (a++[0]) (o++[tot])) r) :
  ∀(t:Tm) (v:Int),xC t=true->0≤v->v+wK t=tot->zF (fun q=>eZ q l y3 v27 vb a o v t.k t.n t.sub) r:=by
 have key:∀(m:Nat) (t:Tm) (v:Int),t.nodes≤m->xC t=true->0≤v->v+wK t=tot->zF (fun q=>eZ q l y3 v27 vb a o v t.k t.n t.sub) r:=by
  intro m
  induction m with
  |zero=>intro t v h;have:=wZ t;omega
  |succ m ih=>
   intro t v hm hg h0 hv
   refine zF.succ ?_
   simp only[eZ]
   by_cases k:t.k=3
   ·obtain⟨x,y,e,hx,hy⟩:=rO hg k
    rw[e]at hv hm ⊢
    rw[gR]at hv
    refine zF.ifT (by simp[Tm.k]) (zF.pure (a:=y) (by simp[zP,Tm.sub]) ?_)
    rw[zW (x:=v+1) (by omega) (by omega)]
    refine ih y (v+1) ?_ hy (by omega) (by omega)
    rw[Tm.nodes,yM,yM,yM]at hm
    have:=wZ x
    omega
   ·rw[zAM k]at hv
    refine zF.ifF (by simp[k]) (zF.pure (yU (by simp<;>omega)) (zF.pure (yU (by simp<;>omega)) ?_))
    rw[show v=tot by omega];exact hk
 exact fun t v=>key t.nodes t v (Nat.le_refl _)
theorem bT{N:ByteArray->Bool}(l vb:List yE)(y3:Int×List yE×List sF)(hE:vP N l):∀(r:List yE) (v:Nat) (a o:List Int),l.drop v=r->a.length≤v->o.length≤v ->
  zF (fun q=>mQ q l y3 (v:Int) vb a o) (.inr (0,vb,a++r.map wJ,o++r.map rX,y3.2.1,y3.2.2))
 | [],v,a,o,hd,ha,ho=>by
  refine zF.succ ?_
  simp only[mQ]
  exact zF.ifF (yO hd) (zF.ret.eq (by simp))
 |x::r,v,a,o,hd,ha,ho=>by
  have hlt:=yT hd
  have hl:=hE.1
  have hx:zJ l v=x:=by
   have h1:=yC hd
   rw[yH (by omega) (by omega)]at h1
   exact Option.some.inj h1
  have hs:=yZ (hE.2 v (by omega) (by omega))
  rw[hx]at hs
  refine zF.succ ?_
  simp only[mQ]
  refine zF.ifT (yL hd) (zF.pure (yC hd) ?_)
  by_cases k1:x.kind=1
  ·have hf:=wA (hs.2.1 k1)
   rw[hx]at hf
   rw[zW (x:=x.pars+2) (by omega) (by omega),zW (x:=x.pars+2+x.cons.length) (by omega) (by omega),zW (x:=x.pars+2+x.cons.length+x.inds) (by omega) (by omega),yB v (by omega)]
   refine zF.ifT (by simp[k1]) (zF.pure (yU (by simp<;>omega)) (zF.pure (yU (by simp<;>omega)) ?_))
   refine(bT l vb y3 hE r (v+1) _ _ (zV hd) (by simp<;>omega) (by simp<;>omega)).eq ?_
   simp[wJ,rX,k1]
  ·refine zF.ifF (by simp[k1]) ?_
   by_cases k2:x.kind=2
   ·refine zF.ifT (by simp[k2]) ?_
    have hsh:=(zM (mP hs.1))
    have hp:wK x.type≤8192:=Nat.le_trans (zJQ x.type hsh.2.2) hsh.1
    refine zPX l y3 v vb a o _ (by omega) (by omega) (wK x.type) (by omega) ?_ x.type 0 hsh.2.2 (by omega) (by omega)
    rw[yB v (by omega)]
    refine(bT l vb y3 hE r (v+1) _ _ (zV hd) (by simp<;>omega) (by simp<;>omega)).eq ?_
    simp[wJ,rX,k2]
   ·refine zF.ifF (by simp[k2]) (zF.pure (yU (by simp<;>omega)) (zF.pure (yU (by simp<;>omega)) ?_))
    rw[yB v (by omega)]
    refine(bT l vb y3 hE r (v+1) _ _ (zV hd) (by simp<;>omega) (by simp<;>omega)).eq ?_
    simp[wJ,rX,k1,k2]
def uU(l:List yE):wV:=wV.mk l l (kM l l.length 0) (l.map wJ) (l.map rX)
def zFN(l:List yE)(b:Bool):(Int) ⊕ (Int×List yE×List Int×List Int×List yE×List sF):=if b=true then .inr (0,l,l.map wJ,l.map rX,l,kM l l.length 0)else .inl 5
theorem zPY(N:ByteArray->Bool)(hN:pP N)(l:List yE)(hl:l.length≤65535)(he:∀e∈l,iH e)(hc:∀e∈l,ECl e):∃b,zF (fun q=>e18 q l) b∧(b=true->vP N l)∧zF (fun q=>e32 q l) (zFN l b):=by
 obtain⟨b,h1,h2,h3⟩:=zPW N hN l hl he hc
 refine⟨b,h1,h2,?_⟩
 simp only[e32]
 refine h3.bind ?_
 unfold zFM zFN
 cases b with
 |false=>exact zF.ifT (by decide) zF.ret
 |true=>
  refine zF.ifF (by simp) ((R7 l hl he hc).bind ?_)
  rw[C3 (h2 rfl)]
  exact(bT l l _ (h2 rfl) l 0 [] [] rfl (by simp) (by simp)).eq (by simp)
theorem bU{t:Tm}{k c:Int}(h:(vX t k c).2=0):zI t=true∧0≤k∧0≤c∧zI (I8 t 0 c k)=true∧(vX t k c).1=I8 t 0 c k:=by
 unfold vX at h ⊢
 by_cases a:zI t=true∧fW k=true∧fW c=true
 ·rw[if_pos a]at h ⊢
  by_cases b:zI (I8 t 0 c k)=true
  ·rw[if_pos b]
   have a2:=a.2.1
   have a3:=a.2.2
   unfold fW at a2 a3
   simp only[Bool.and_eq_true,decide_eq_true_eq]at a2 a3
   exact⟨a.1,a2.1,a3.1,b,rfl⟩
  ·rw[if_neg b]at h;simp at h
 ·rw[if_neg a]at h;simp at h
theorem R8(t:Tm)(k c:Int):(vX t k c).2≠8:=by
 unfold vX
 split
 ·split<;>simp
 ·simp
mutual
def siT(ls:List Tm):Tm->Int->Tm
 | .mk kd n l,b=>if kd=1∧b≤n then(if h:(n-b).toNat<ls.length then I8 (ls[(n-b).toNat]) 0 0 b else .mk 1 (n-ls.length) [])else .mk kd n (siL ls l kd 0 b)
def siL(ls:List Tm):List Tm->Int->Nat->Int->List Tm
 | [],_,_,_=>[]
 |t::l,kd,i,b=>siT ls t (tV kd i b)::siL ls l kd (i+1) b
end
theorem zUw{a:Tm}{b left:Int}{long:Bool}(h:(raT a b left long).2.2=false):long=false∧(raT a b left long).1=I8 a 0 0 b:=by
 unfold raT at h ⊢
 by_cases h1:left-X1 a 0<0
 ·rw[if_pos h1]at h;simp at h
 ·rw[if_neg h1]at h ⊢
  by_cases h2:(vX a b 0).2≠0
  ·rw[if_pos h2]at h;simp at h
  ·rw[if_neg h2]at h ⊢
   exact⟨h,(bU (by simpa using h2)).2.2.2.2⟩
theorem zMR(ls:List Tm):∀(t:Tm) (b left:Int),(fX ls t b left true).2.2=true
 | .mk kd n l,b,left=>by rw[fX,if_pos rfl]
mutual
theorem zMS(ls:List Tm):∀(t:Tm) (b left:Int) (long:Bool),(fX ls t b left long).2.2=false->long=false∧(fX ls t b left long).1=siT ls t b
 | .mk kd n l,b,left,long,h=>by
  cases long with
  |true=>rw[zMR]at h;cases h
  |false=>
   refine⟨rfl,?_⟩
   rw[fX,if_neg (by simp)]at h ⊢
   rw[siT]
   by_cases h1:kd=1∧b≤n
   ·rw[if_pos h1]at h
    rw[if_pos h1,if_pos h1]
    by_cases h2:(n-b).toNat<ls.length
    ·rw[dif_pos h2]at h
     rw[dif_pos h2,dif_pos h2]
     exact(zUw h).2
    ·rw[dif_neg h2,dif_neg h2]
   ·rw[if_neg h1]at h
    rw[if_neg h1,if_neg h1]
    exact congrArg (Tm.mk kd n) (zMT ls l kd 0 b (left-1) (decide (left-1<0)) h).2
theorem zMT(ls:List Tm):∀(l:List Tm) (kd:Int) (i:Nat) (b left:Int) (long:Bool),(bK ls l kd i b left long).2.2=false->long=false∧(bK ls l kd i b left long).1=siL ls l kd i b
 | [],kd,i,b,left,long,h=>by
  rw[bK]at h ⊢
  rw[siL]
  exact⟨h,rfl⟩
 |t::l,kd,i,b,left,long,h=>by
  rw[bK]at h ⊢
  have k:=zMT ls l kd (i+1) b (fX ls t (tV kd i b) left long).2.1 (fX ls t (tV kd i b) left long).2.2 h
  have k2:=zMS ls t (tV kd i b) left long k.1
  refine⟨k2.1,?_⟩
  show (fX ls t (tV kd i b) left long).1::(bK ls l kd (i+1) b (fX ls t (tV kd i b) left long).2.1 (fX ls t (tV kd i b) left long).2.2).1=_
  rw[k2.2,k.2,siL]
end
theorem zHG{t:Tm}{ls:List Tm}(h:(kE t ls).2=0):zI t=true∧ls.all zI=true∧zI (siT ls t 0)=true∧(kE t ls).1=siT ls t 0:=by
 unfold kE at h ⊢
 by_cases a:zI t=true∧ls.all zI=true
 ·rw[if_pos a]at h ⊢
  by_cases b:(fX ls t 0 8192 false).2.2=true
  ·rw[if_pos b]at h;simp at h
  ·rw[if_neg b]at h ⊢
   have e:=(zMS ls t 0 8192 false (by simpa using b)).2
   rw[e]at h ⊢
   by_cases c:zI (siT ls t 0)=true
   ·rw[if_pos c];exact⟨a.1,a.2,c,rfl⟩
   ·rw[if_neg c]at h;simp at h
 ·rw[if_neg a]at h;simp at h
theorem zHH(t:Tm)(ls:List Tm):(kE t ls).2≠8:=by
 unfold kE
 split
 ·split
  ·simp
  ·split<;>simp
 ·simp
mutual
def xN(P:Int->Int->Prop):Tm->Prop
 | .mk k n l=>(k=1∨P k n)∧wR P l
def wR(P:Int->Int->Prop):List Tm->Prop
 | []=>True
 |t::l=>xN P t∧wR P l
end
section
variable {P:Int->Int->Prop}
theorem o4:∀ {l:List Tm},wR P l ↔ ∀t∈l,xN P t
 | []=>by rw[wR];simp
 |t::l=>by rw[wR,o4];simp
theorem zAW{k n:Int}{a b:Tm}(h:k=1∨P k n)(ha:xN P a)(hb:xN P b):xN P (.mk k n [a,b]):=by
 rw[xN,wR,wR,wR];exact⟨h,ha,hb,trivial⟩
theorem zUv{k n:Int}{a:Tm}(h:k=1∨P k n)(ha:xN P a):xN P (.mk k n [a]):=by
 rw[xN,wR,wR];exact⟨h,ha,trivial⟩
theorem dA{k n:Int}(h:k=1∨P k n):xN P (.mk k n []):=by
 rw[xN,wR];exact⟨h,trivial⟩
mutual
theorem J4:∀(t:Tm) (b c k:Int),xN P t->xN P (I8 t b c k)
 | .mk kd n l,b,c,k,h=>by
  rw[xN]at h
  rw[I8]
  split
  ·exact dA (.inl rfl)
  ·rw[xN];exact⟨h.1,zDB l kd 0 b c k h.2⟩
theorem zDB:∀(l:List Tm) (kd:Int) (i:Nat) (b c k:Int),wR P l->wR P (lfL l kd i b c k)
 | [],_,_,_,_,_,_=>by rw[lfL,wR];trivial
 |t::l,kd,i,b,c,k,h=>by
  rw[wR]at h
  rw[lfL,wR]
  exact⟨J4 t _ c k h.1,zDB l kd (i+1) b c k h.2⟩
end
mutual
theorem zAX(ls:List Tm)(hls:∀a∈ls,xN P a):∀(t:Tm) (b:Int),xN P t->xN P (siT ls t b)
 | .mk kd n l,b,h=>by
  rw[xN]at h
  rw[siT]
  split
  ·split
   ·exact J4 _ 0 0 b (hls _ (List.getElem_mem _))
   ·exact dA (.inl rfl)
  ·rw[xN];exact⟨h.1,zDC ls hls l kd 0 b h.2⟩
theorem zDC(ls:List Tm)(hls:∀a∈ls,xN P a):∀(l:List Tm) (kd:Int) (i:Nat) (b:Int),wR P l->wR P (siL ls l kd i b)
 | [],_,_,_,_=>by rw[siL,wR];trivial
 |t::l,kd,i,b,h=>by
  rw[wR]at h
  rw[siL,wR]
  exact⟨zAX ls hls t _ h.1,zDC ls hls l kd (i+1) b h.2⟩
end
theorem kN:∀(l:List Tm) (f:Tm),P 5 0->xN P f->(∀a∈l,xN P a)->xN P (uI f l)
 | [],f,_,hf,_=>by rw[uI];exact hf
 |a::l,f,h5,hf,hl=>by
  rw[uI]
  exact kN l _ h5 (zAW (.inr h5) hf (hl a (by simp))) fun x hx=>hl x (by simp[hx])
theorem dB:∀t:Tm,xC t=true->xN P t->xN P (zX t)∧∀a∈yX t,xN P a:=by
 refine bH ?_ ?_
 ·intro t hg hk h
  rw[rL hk,tO hk]
  exact⟨h,fun x hx=>by cases hx⟩
 ·intro n a b hg ha hb ih h
  rw[kC,qO]
  rw[xN,wR,wR,wR]at h
  refine⟨(ih h.2.1).1,fun x hx=>?_⟩
  rcases List.mem_append.1 hx with hx|hx
  ·exact(ih h.2.1).2 x hx
  ·rw[List.mem_singleton.1 hx];exact h.2.2.1
theorem R9:∀(n:Nat) (t:Tm) (r:List Tm×Tm),xC t=true->tQ n t=some r->xN P t->xN P r.2∧∀x∈r.1,xN P x
 |0,t,r,hg,h,ha=>by
  rw[tQ]at h;cases h
  exact⟨ha,fun x hx=>by cases hx⟩
 |n+1,t,r,hg,h,ha=>by
  by_cases h3:t.k=3
  ·obtain⟨a,b,hx,hga,hgb⟩:=rO hg h3
   rw[hx]at h ha
   rw[pO]at h
   obtain⟨r',h1,rfl⟩:=Option.map_eq_some_iff.1 h
   rw[xN,wR,wR,wR]at ha
   have ih:=R9 n b r' hgb h1 ha.2.2.1
   refine⟨ih.1,fun x hx=>?_⟩
   rcases List.mem_cons.1 hx with rfl|hx
   ·exact ha.2.1
   ·exact ih.2 x hx
  ·rw[oV h3]at h;cases h
end
mutual
theorem C4{P Q R:Int->Int->Prop}(h:∀k n,P k n->Q k n->R k n):∀t:Tm,xN P t->xN Q t->xN R t
 | .mk k n l,hp,hq=>by
  rw[xN]at hp hq ⊢
  refine⟨?_,S0 h l hp.2 hq.2⟩
  rcases hp.1 with h1|h1
  ·exact .inl h1
  ·rcases hq.1 with h2|h2
   ·exact .inl h2
   ·exact .inr (h k n h1 h2)
theorem S0{P Q R:Int->Int->Prop}(h:∀k n,P k n->Q k n->R k n):∀l:List Tm,wR P l->wR Q l->wR R l
 | [],_,_=>by rw[wR];trivial
 |t::l,hp,hq=>by
  rw[wR]at hp hq ⊢
  exact⟨C4 h t hp.1 hq.1,S0 h l hp.2 hq.2⟩
end
theorem o5{P R:Int->Int->Prop}{t:Tm}(h:∀k n,P k n->R k n)(hp:xN P t):xN R t:=C4 (fun k n a _=>h k n a) t hp hp
mutual
theorem bV{a b:Int}{Q:Int->Prop}(ha:a≠1)(hb:b≠1):∀t:Tm,(∀x∈nG t a b,Q x)↔xN (fun k n=>k=a∨k=b->Q n) t
 | .mk k n l=>by
  have ih:=o6 (Q:=Q) ha hb l
  rw[nG,xN,←ih]
  constructor
  ·intro h
   refine⟨?_,fun x hx=>h x (List.mem_append_right _ hx)⟩
   by_cases h1:k=a∨k=b
   ·exact .inr fun _=>h n (by rw[if_pos h1];simp)
   ·exact .inr fun h2=>absurd h2 h1
  ·rintro ⟨h1,h2⟩ x hx
   rcases List.mem_append.1 hx with hx|hx
   ·by_cases h3:k=a∨k=b
    ·rw[if_pos h3,List.mem_singleton]at hx
     rcases h1 with h1|h1
     ·omega
     ·rw[hx];exact h1 h3
    ·rw[if_neg h3]at hx;cases hx
   ·exact h2 x hx
theorem o6{a b:Int}{Q:Int->Prop}(ha:a≠1)(hb:b≠1):∀l:List Tm,(∀x∈bD l a b,Q x)↔wR (fun k n=>k=a∨k=b->Q n) l
 | []=>by rw[bD,wR];simp
 |t::l=>by
  rw[bD,wR,←bV ha hb t,←o6 ha hb l]
  constructor
  ·intro h
   exact⟨fun x hx=>h x (List.mem_append_left _ hx),fun x hx=>h x (List.mem_append_right _ hx)⟩
  ·rintro ⟨h1,h2⟩ x hx
   rcases List.mem_append.1 hx with hx|hx
   ·exact h1 x hx
   ·exact h2 x hx
end
theorem bW{t:Tm}{n:Int}(h:wX t n=true):xN (fun k x=>(k=6∨k=7->x<n)∧k≠8) t:=by
 have h6:xN (fun k x=>k=6∨k=7->x<n) t:=by
  refine(bV (by decide) (by decide) t).1 ?_
  unfold wX tL at h
  simp only[Bool.and_eq_true,List.all_eq_true,decide_eq_true_eq]at h
  exact h.1.2
 have h8:xN (fun k x=>k=8∨k=8->False) t:=by
  refine(bV (Q:=fun _=>False) (by decide) (by decide) t).1 ?_
  unfold wX at h
  simp only[Bool.and_eq_true,List.isEmpty_iff]at h
  rw[h.2]
  exact fun x hx=>by cases hx
 exact C4 (fun k n a b=>⟨a,fun h=>b (.inl h)⟩) t h6 h8
def zUu(c:Nat)(a b:Tm):Option Tm:=
 e45 c 4 0 [a,b]>>=fun r1=>
 some r1
theorem yBx{c a b r}(h:zUu c a b=some r):Ct 235 [] [yV a,yV b] (yV r) [] 0:=⟨by
 unfold zUu at h
 obtain⟨r1,h2,h⟩:=zB h
 obtain rfl:=sj h
 exact tF ⟨func235,rfl⟩ 1 [] (oD (dT r1.sub)<|oC 0 [] (c45 h2)<|oS 2 (wC wL [a,b]) o0),⟨⟨tv,tv,⟨tv,dT _⟩,tv⟩,⟨tv,tv,⟨tv,dT _⟩,tv⟩,tv⟩,zA,⟨tv,tv,dT _,tv⟩,zA⟩
def tX:Nat->zR->Int->Int->Int->zR->Option (Tm×Int)
 |0,_,_,_,_,_=>none
 |e+1,a,g,b,c,d=>
 if decide (g<(a.length:Int))then
 zP a (yN ((yN ((a.length:Int)-1))-g))>>=fun x12=>
 zUu e x12 (Tm.mk b c d)>>=fun r14=>
 tX e a (yN (g+1)) r14.k r14.n r14.sub
 else
 fV e (Tm.mk b c d)>>=fun r16=>
 if r16 then
 e65 e (Tm.mk b c d)>>=fun r19=>
 some (r19,0)
 else
 some ((Tm.mk 0 0 []),2)
def tY:Nat->zR->Tm->Int->Option (Tm×Int)
 |0,_,_,_=>none
 |e+1,a,f,m=>
 if decide (m<(a.length:Int))then
 zP a m>>=fun x3=>
 fV e x3>>=fun r5=>
 if r5 then
 tY e a f (yN (m+1))
 else
 some ((Tm.mk 0 0 []),5)
 else
 fV e f>>=fun r8=>
 if r8 then
 tX e a 0 f.k f.n f.sub
 else
 some ((Tm.mk 0 0 []),5)
def bX(e:Nat)(a:zR)(f:Tm):Option (Tm×Int):=
 if decide ((a.length:Int)>24)then
 some ((Tm.mk 0 0 []),2)
 else
 tY e a f 0
theorem zDD:Qf 188 f188:=⟨func188,rfl⟩
theorem zDE:∀e:Nat,(∀ {a g b c d r},tX e a g b c d=some r->(∀j,dL 0 (pt 65461 f188) (sp j 53 0 [(0,zH zC a .no),(2,.clo 235 [] []),(4,.mp 0 0),(6,.mp 1 0),(31,ai (a.length:Int)),(32,ai g)]) (⟨[(0,.cells [ai b,ai c,zH zC d .no]),(1,.cells [ai 0,ai 0,zH zC ([]:zR) .nl])],2,[],0,[]⟩) (fQ 0 (nQ 0 f188 (.tup [yV r.1,ai r.2]) [] 0) [.blk 2,.seq (pt 1023 f188)]))):=by
 intro e
 induction e with
 |zero=>
  exact fun h=>nn h
 |succ e ih=>
  intro a g b c d r h
  rw[tX]at h
  obtain⟨h11,h⟩|⟨h11,h⟩:=zK h
  obtain⟨x12,h13,h⟩:=zB h
  obtain⟨r14,h15,h⟩:=zB h
  exact fun j=>lH 2 [] [0,1] [] [0,2,4,6,31,32] (oD (dT a)<|oD (dT ([]:zR))<|oD (dT r14.sub)<|oC 2 [] (yBx h15)<|oA 3 (xH (o:=.no) h13)<|oB 0 h11 o0) (ih h)
  obtain⟨r16,h17,h⟩:=zB h
  have k:=oB 0 h11 o0
  obtain⟨h18,h⟩|⟨h18,h⟩:=zK h
  obtain⟨r19,h20,h⟩:=zB h
  cases h
  exact fun j=>lF 1 [] (oD (dT r19.sub)<|oC 2 [] (c65 h20)<|oK 1 [] h18 (qW h17) k)
  cases h
  exact fun j=>lF 2 [] (oD (dT ([]:zR))<|oK 1 [] h18 (qW h17) k)
theorem zDF:∀e:Nat,(∀ {a f m r},tY e a f m=some r->(∀j,dL 0 (pt 4021 f188) (sp j 53 0 [(0,zH zC a .no),(2,.clo 235 [] []),(4,.mp 0 0),(6,.mp 1 0),(15,zH zC a .no),(16,ai (a.length:Int)),(17,ai m)]) (⟨[(0,.cells [ai f.k,ai f.n,zH zC f.sub .no]),(1,.cells [ai 0,ai 0,zH zC ([]:zR) .nl])],2,[],0,[]⟩) (fQ 0 (nQ 0 f188 (.tup [yV r.1,ai r.2]) [] 0) [.blk 0,.seq (pt 63 f188)]))):=by
 intro e
 induction e with
 |zero=>
  exact fun h=>nn h
 |succ e ih=>
  intro a f m r h
  rw[tY]at h
  have z {os ob} (k:Oz os ob):=oD (dT a)<|oD (dT ([]:zR))<|oD (dT f.sub)<|k
  obtain⟨h2,h⟩|⟨h2,h⟩:=zK h
  obtain⟨x3,h4,h⟩:=zB h
  obtain⟨r5,h6,h⟩:=zB h
  have k:=oA 0 (xH (o:=.no) h4)<|oB 0 h2 o0
  obtain⟨h7,h⟩|⟨h7,h⟩:=zK h
  exact fun j=>lH 2 [] [0,1] [] [0,2,4,6,15,16,17] (oD (dT a)<|z<|oK 3 [] h7 (qW h6) k) (ih h)
  cases h
  exact fun j=>lF 2 [] (oD (dT ([]:zR))<|oK 3 [] h7 (qW h6) k)
  obtain⟨r8,h9,h⟩:=zB h
  have k:=oB 0 h2 o0
  obtain⟨h10,h⟩|⟨h10,h⟩:=zK h
  exact fun j=>lH 2 [] [0,1] [] [0,2,4,6,31,32] (z<|oK 1 [] h10 (qW h9) k) (zDE _ h)
  cases h
  exact fun j=>lF 2 [] (oD (dT ([]:zR))<|oK 1 [] h10 (qW h9) k)
theorem zMU{e a f r}(h:bX e a f=some r):Ct 188 [] [zH zC a .no,yV f,.clo 235 [] []] (.tup [yV r.1,ai r.2]) [] 0:=⟨by
 unfold bX at h
 obtain⟨h1,h⟩|⟨h1,h⟩:=zK h
 cases h
 exact tF zDD 1 [] (oD (dT ([]:zR))<|oB 1 h1 o0)
 exact tH zDD 1 [] [0,1] [] [0,2,4,6,15,16,17] (oD (dT a)<|oD (dT a)<|oD (dT ([]:zR))<|oD (dT f.sub)<|oB 1 h1 o0) (zDF _ h),⟨⟨tv,dT _⟩,⟨tv,tv,⟨tv,dT _⟩,tv⟩,⟨tv,tv⟩,tv⟩,zA,⟨⟨tv,tv,dT _,tv⟩,tv,tv⟩,zA⟩
def kO:Nat->zR->Int->Option zR
 |0,_,_=>none
 |a+1,b,c=>
 if decide (c≥0)then
 e51 a c>>=fun r4=>
 xB 40 b [r4]>>=fun l6=>
 kO a l6 (yN (c-1))
 else
 some b
def zJS(a:Nat)(d:Int):Option zR:=
 if decide (d<0)then
 some []
 else
 if decide (d>1048576)then
 some []
 else
 kO a [] (yN (d-1))
theorem zUt:Qf 190 f190:=⟨func190,rfl⟩
theorem zPZ:∀a:Nat,(∀ {b c r},kO a b c=some r->(∀j,dL 0 (pt 16309 f190) (sp j 23 0 [(3,zH zC b (.st 0 3)),(4,ai c)]) (⟨[],0,[0],1,[]⟩) (fQ 0 (nQ 0 f190 (.sl (zG zC r) r.length .no) [] 0) [.blk 0,.seq (pt 255 f190)]))):=by
 intro a
 induction a with
 |zero=>
  exact fun h=>nn h
 |succ a ih=>
  intro b c r h
  rw[kO]at h
  obtain⟨h3,h⟩|⟨h3,h⟩:=zK h
  obtain⟨r4,h5,h⟩:=zB h
  obtain⟨l6,h7,h⟩:=zB h
  exact fun j=>lH 1 [] [] [1] [3,4] (oD (dT l6)<|oP 0 (vF h7 (by simp))<|oS 0 (wC wL [r4])<|oC 0 [] (c51 h5)<|oB 0 h3 o0) (ih h)
  obtain rfl:=sj h
  exact fun j=>lF 0 [] (oD (dT b)<|oB 0 h3 o0)
theorem zYj{a d r}(h:zJS a d=some r):Ct 190 [] [ai d] (.sl (zG zC r) r.length .no) [] 0:=⟨by
 unfold zJS at h
 obtain⟨h1,h⟩|⟨h1,h⟩:=zK h
 obtain rfl:=sj h
 exact tF zUt 0 [] (oD (dT ([]:zR))<|oB 0 h1 o0)
 have k:=oB 0 h1 o0
 obtain⟨h2,h⟩|⟨h2,h⟩:=zK h
 obtain rfl:=sj h
 exact tF zUt 0 [] (oD (dT ([]:zR))<|oB 0 h2 k)
 exact tH zUt 1 [(none,3,3)] [] [0] [3,4] (oD (dT ([]:zR))<|oB 0 h2 k) (zPZ _ h),⟨tv,tv⟩,zA,dT _,zA⟩
def zFO(d:Nat)(b:zY)(a c:Int):Option Bool:=
 if decide (a≥0)then
 if decide (a<(b.length:Int))then
 zP b a>>=fun x3=>
 some (x3.kind==c)
 else
 some false
 else
 some false
theorem zUs:Qf 242 f242:=⟨func242,rfl⟩
theorem zJT{d b a c r}(h:zFO d b a c=some r):Ct 242 [] [zH yA b .no,ai a,ai c] (ab r) [] 0:=⟨by
 unfold zFO at h
 obtain⟨h1,h⟩|⟨h1,h⟩:=zK h
 have k:=oB 0 h1 o0
 obtain⟨h2,h⟩|⟨h2,h⟩:=zK h
 obtain⟨x3,h4,h⟩:=zB h
 cases h
 exact tF zUs 2 [] (oA 0 (xK (o:=.no) h4)<|oB 1 h2 k)
 cases h
 exact tF zUs 0 [] (oB 1 h2 k)
 cases h
 exact tF zUs 0 [] (oB 0 h1 o0),⟨⟨tv,dE _⟩,tv,tv,tv⟩,zA,tv,zA⟩
def kP:Nat->zR->Int->Option Bool
 |0,_,_=>none
 |b+1,a,c=>
 if decide (c<(a.length:Int))then
 zP a c>>=fun x2=>
 fV b x2>>=fun r4=>
 if r4 then
 kP b a (yN (c+1))
 else
 some false
 else
 some true
def zFP(b:Nat)(a:zR):Option Bool:=
 kP b a 0
theorem zQz:∀b:Nat,(∀ {a c r},kP b a c=some r->(∀j,dL 0 (pt 949 f243) (sp j 15 0 [(5,zH zC a .no),(6,ai (a.length:Int)),(7,ai c)]) (⟨[],0,[],0,[]⟩) (fQ 0 (nQ 0 f243 (ab r) [] 0) [.blk 0,.seq (pt 15 f243)]))):=by
 intro b
 induction b with
 |zero=>
  exact fun h=>nn h
 |succ b ih=>
  intro a c r h
  rw[kP]at h
  obtain⟨h1,h⟩|⟨h1,h⟩:=zK h
  obtain⟨x2,h3,h⟩:=zB h
  obtain⟨r4,h5,h⟩:=zB h
  have k:=oA 0 (xH (o:=.no) h3)<|oB 0 h1 o0
  obtain⟨h6,h⟩|⟨h6,h⟩:=zK h
  exact fun j=>lH 2 [] [] [] [5,6,7] (oD (dT a)<|oK 3 [] h6 (qW h5) k) (ih h)
  cases h
  exact fun j=>lF 1 [] (oK 3 [] h6 (qW h5) k)
  cases h
  exact fun j=>lF 0 [] (oB 0 h1 o0)
theorem zJU{b a r}(h:zFP b a=some r):Ct 243 [] [zH zC a .no] (ab r) [] 0:=⟨by
 unfold zFP at h
 exact tH ⟨func243,rfl⟩ 1 [] [] [] [5,6,7] (oD (dT a) o0) (zQz _ h),⟨⟨tv,dT _⟩,tv⟩,zA,tv,zA⟩
def zMV(d:Nat)(a:Int)(b:zR)(c:Int):Option (zR×Int):=
 if a==0 then
 some (b,c)
 else
 some (b,a)
theorem zYi:Qf 292 f292:=⟨func292,rfl⟩
theorem yBw{d a b c r}(h:zMV d a b c=some r):Ct 292 [.cells [ai a]] [.mp 0 0,zH zC b .no,ai c] (.sl (zG zC r.1) r.1.length .no) [.cells [ai r.2]] 0:=⟨by
 unfold zMV at h
 obtain⟨h1,h⟩|⟨h1,h⟩:=zK h
 cases h
 exact tF zYi 1 [0] (oD (dT b)<|oB 1 h1 o0)
 cases h
 exact tF zYi 0 [0] (oD (dT b)<|oB 1 h1 o0),⟨(lz rfl),⟨tv,dT _⟩,tv,tv⟩,(zD ⟨tv,tv⟩ zA),dT _,(zD ⟨tv,tv⟩ zA)⟩
def kQ:Nat->zR->Int->Int->Int->zR->Option (zR×Int)
 |0,_,_,_,_,_=>none
 |c+1,a,d,e,b,f=>
 if decide (b<(a.length:Int))then
 zP a b>>=fun x2=>
 zJg c x2 d e>>=fun r4=>
 if r4.2 != 0 then
 some ([],r4.2)
 else
 xB 40 f [r4.1]>>=fun l7=>
 kQ c a d e (yN (b+1)) l7
 else
 some (f,0)
def zMW(c:Nat)(a:zR)(d e:Int):Option (zR×Int):=
 kQ c a d e 0 []
theorem zQy:∀c:Nat,(∀ {a d e b f r},kQ c a d e b f=some r->(∀j,dL 0 (pt 4021 f293) (sp j 35 0 [(1,ai d),(2,ai e),(8,zH zC f (.st 0 3)),(13,zH zC a .no),(14,ai (a.length:Int)),(15,ai b)]) (⟨[],0,[0],1,[]⟩) (fQ 0 (nQ 0 f293 (.tup [.sl (zG zC r.1) r.1.length .no,ai r.2]) [] 0) [.blk 0,.seq (pt 63 f293)]))):=by
 intro c
 induction c with
 |zero=>
  exact fun h=>nn h
 |succ c ih=>
  intro a d e b f r h
  rw[kQ]at h
  obtain⟨h1,h⟩|⟨h1,h⟩:=zK h
  obtain⟨x2,h3,h⟩:=zB h
  obtain⟨r4,h5,h⟩:=zB h
  have k:=oC 3 [] (zXT h5)<|oA 0 (xH (o:=.no) h3)<|oB 0 h1 o0
  obtain⟨h6,h⟩|⟨h6,h⟩:=zK h
  cases h
  exact fun j=>lF 0 [] (oD (dT ([]:zR))<|oB 3 h6 k)
  obtain⟨l7,h8,h⟩:=zB h
  exact fun j=>lH 1 [] [] [1] [1,2,8,13,14,15] (oD (dT a)<|oD (dT l7)<|oP 0 (vF h8 (by simp))<|oS 1 (wC wL [r4.1])<|oB 3 h6 k) (ih h)
  cases h
  exact fun j=>lF 0 [] (oD (dT f)<|oB 0 h1 o0)
theorem yBv{c a d e r}(h:zMW c a d e=some r):Ct 293 [] [zH zC a .no,ai d,ai e] (.tup [.sl (zG zC r.1) r.1.length .no,ai r.2]) [] 0:=⟨by
 unfold zMW at h
 exact tH ⟨func293,rfl⟩ 1 [(none,8,3)] [] [0] [1,2,8,13,14,15] (oD (dT a)<|oD (dT ([]:zR)) o0) (zQy _ h),⟨⟨tv,dT _⟩,tv,tv,tv⟩,zA,⟨dT _,tv,tv⟩,zA⟩
def zJV(b:Nat)(a:Int)(c:zR)(d:Int):Option (zR×Int):=
 zMW b c d 0>>=fun r1=>
 zMV b a r1.1 r1.2>>=fun r3=>
 some (r3.1,r3.2)
theorem zYh{b a c d r}(h:zJV b a c d=some r):Ct 265 [.cells [ai a]] [.mp 0 0,zH zC c .no,ai d] (.sl (zG zC r.1) r.1.length .no) [.cells [ai r.2]] 0:=⟨by
 unfold zJV at h
 obtain⟨r1,h2,h⟩:=zB h
 obtain⟨r3,h4,h⟩:=zB h
 cases h
 exact tF ⟨func265,rfl⟩ 0 [0] (oD (dT r3.1)<|oC 2 [0] (yBw h4)<|oC 0 [] (yBv h2) o0),⟨(lz rfl),⟨tv,dT _⟩,tv,tv⟩,(zD ⟨tv,tv⟩ zA),dT _,(zD ⟨tv,tv⟩ zA)⟩
def zFQ(d:Nat)(a:Int)(b:Tm)(c:Int):Option (Tm×Int):=
 if a==0 then
 some (b,c)
 else
 some (b,a)
theorem zYg:Qf 268 f268:=⟨func268,rfl⟩
theorem zUr{d a b c r}(h:zFQ d a b c=some r):Ct 268 [.cells [ai a]] [.mp 0 0,yV b,ai c] (yV r.1) [.cells [ai r.2]] 0:=⟨by
 unfold zFQ at h
 obtain⟨h1,h⟩|⟨h1,h⟩:=zK h
 cases h
 exact tF zYg 3 [0] (oD (dT b.sub)<|oB 1 h1 o0)
 cases h
 exact tF zYg 2 [0] (oD (dT b.sub)<|oB 1 h1 o0),⟨(lz rfl),⟨tv,tv,⟨tv,dT _⟩,tv⟩,tv,tv⟩,(zD ⟨tv,tv⟩ zA),⟨tv,tv,dT _,tv⟩,(zD ⟨tv,tv⟩ zA)⟩
def kR:Nat->Tm->(zR×Int)->Int->zR->Option (Tm×Int)
 |0,_,_,_,_=>none
 |c+1,b,r6,d,f=>
 if decide (d≥0)then
 zP r6.1 d>>=fun x9=>
 xB 40 f [x9]>>=fun l11=>
 kR c b r6 (yN (d-1)) l11
 else
 e24 c b f>>=fun r13=>
 zFQ c r6.2 r13.1 r13.2>>=fun r15=>
 some (r15.1,r15.2)
def kS:Nat->Int->Tm->Int->zR->Int->zR->Option (Tm×Int)
 |0,_,_,_,_,_,_=>none
 |c+1,a,b,g,m,e,f=>
 if decide (e<g)then
 e51 c e>>=fun r2=>
 xB 40 f [r2]>>=fun l4=>
 kS c a b g m (yN (e+1)) l4
 else
 zJV c a m g>>=fun r6=>
 kR c b r6 (yN ((r6.1.length:Int)-1)) f
def zJW(c:Nat)(a:Int)(b:Tm)(g:Int)(m:zR):Option (Tm×Int):=
 kS c a b g m 0 []
theorem zQx:∀c:Nat,(∀ {b r6 d f r},kR c b r6 d f=some r->(∀j,dL 1 (pt 65461 f266) (sp j 48 0 [(0,.mp 0 0),(5,.mp 1 0),(8,.mp 2 0),(9,zH zC f (.st 0 3)),(11,zH zC r6.1 .no),(12,ai d)]) (⟨[(0,.cells [ai r6.2]),(1,.cells [ai b.k,ai b.n,zH zC b.sub .no]),(2,.cells [ai 0,ai 0,zH zC ([]:zR) .nl])],3,[0],1,[]⟩) (fQ 1 (nQ 1 f266 (yV r.1) [.cells [ai r.2]] 0) [.blk 2,.seq (pt 1023 f266)]))):=by
 intro c
 induction c with
 |zero=>
  exact fun h=>nn h
 |succ c ih=>
  intro b r6 d f r h
  rw[kR]at h
  obtain⟨h8,h⟩|⟨h8,h⟩:=zK h
  obtain⟨x9,h10,h⟩:=zB h
  obtain⟨l11,h12,h⟩:=zB h
  exact fun j=>lH 1 [] [0,1,2] [1] [0,5,8,9,11,12] (oD (dT r6.1)<|oD (dT l11)<|oD (dT ([]:zR))<|oD (dT b.sub)<|oP 0 (vF h12 (by simp))<|oS 1 (wC wL [x9])<|oA 0 (xH (o:=.no) h10)<|oB 0 h8 o0) (ih h)
  obtain⟨r13,h14,h⟩:=zB h
  obtain⟨r15,h16,h⟩:=zB h
  cases h
  exact fun j=>lF 1 [0] (oD (dT r15.1.sub)<|oC 2 [0] (zUr h16)<|oC 1 [] (c24 h14)<|oB 0 h8 o0)
theorem zQw:∀c:Nat,(∀ {a b g m e f r},kS c a b g m e f=some r->(∀j,dL 1 (pt 4021 f266) (sp j 48 0 [(0,.mp 0 0),(2,ai g),(3,zH zC m .no),(5,.mp 1 0),(8,.mp 2 0),(9,zH zC f (.st 0 3)),(13,ai g),(14,ai e)]) (⟨[(0,.cells [ai a]),(1,.cells [ai b.k,ai b.n,zH zC b.sub .no]),(2,.cells [ai 0,ai 0,zH zC ([]:zR) .nl])],3,[0],1,[]⟩) (fQ 1 (nQ 1 f266 (yV r.1) [.cells [ai r.2]] 0) [.blk 0,.seq (pt 63 f266)]))):=by
 intro c
 induction c with
 |zero=>
  exact fun h=>nn h
 |succ c ih=>
  intro a b g m e f r h
  rw[kS]at h
  obtain⟨h1,h⟩|⟨h1,h⟩:=zK h
  obtain⟨r2,h3,h⟩:=zB h
  obtain⟨l4,h5,h⟩:=zB h
  exact fun j=>lH 1 [] [0,1,2] [1] [0,2,3,5,8,9,13,14] (oD (dT l4)<|oD (dT m)<|oD (dT ([]:zR))<|oD (dT b.sub)<|oP 0 (vF h5 (by simp))<|oS 0 (wC wL [r2])<|oC 0 [] (c51 h3)<|oB 0 h1 o0) (ih h)
  obtain⟨r6,h7,h⟩:=zB h
  exact fun j=>lH 2 [] [0,1,2] [0] [0,5,8,9,11,12] (oD (dT r6.1)<|oD (dT f)<|oD (dT ([]:zR))<|oD (dT b.sub)<|oC 0 [0] (zYh h7)<|oB 0 h1 o0) (zQx _ h)
theorem zYf{c a b g m r}(h:zJW c a b g m=some r):Ct 266 [.cells [ai a]] [.mp 0 0,yV b,ai g,zH zC m .no] (yV r.1) [.cells [ai r.2]] 0:=⟨by
 unfold zJW at h
 exact tH ⟨func266,rfl⟩ 0 [(none,9,3)] [0,1,2] [0] [0,2,3,5,8,9,13,14] (oD (dT ([]:zR))<|oD (dT m)<|oD (dT ([]:zR))<|oD (dT b.sub) o0) (zQw _ h),⟨(lz rfl),⟨tv,tv,⟨tv,dT _⟩,tv⟩,tv,⟨tv,dT _⟩,tv⟩,(zD ⟨tv,tv⟩ zA),⟨tv,tv,dT _,tv⟩,(zD ⟨tv,tv⟩ zA)⟩
def zMX(b:Nat)(a:Int)(c:Tm)(d:Int):Option (Tm×Int):=
 e90 b c d>>=fun r1=>
 zFQ b a r1.1 r1.2>>=fun r3=>
 some (r3.1,r3.2)
theorem yBu{b a c d r}(h:zMX b a c d=some r):Ct 267 [.cells [ai a]] [.mp 0 0,yV c,ai d] (yV r.1) [.cells [ai r.2]] 0:=⟨by
 unfold zMX at h
 obtain⟨r1,h2,h⟩:=zB h
 obtain⟨r3,h4,h⟩:=zB h
 cases h
 exact tF ⟨func267,rfl⟩ 1 [0] (oD (dT r3.1.sub)<|oC 2 [0] (zUr h4)<|oC 1 [] (c90 h2) o0),⟨(lz rfl),⟨tv,tv,⟨tv,dT _⟩,tv⟩,tv,tv⟩,(zD ⟨tv,tv⟩ zA),⟨tv,tv,dT _,tv⟩,(zD ⟨tv,tv⟩ zA)⟩
def zMY(c:Nat)(a:zR)(b:Tm):Option (Tm×Int):=
 bX c a b>>=fun r1=>
 some (r1.1,r1.2)
theorem yBt{c a b r}(h:zMY c a b=some r):Ct 269 [] [zH zC a .no,yV b] (.tup [yV r.1,ai r.2]) [] 0:=⟨by
 unfold zMY at h
 obtain⟨r1,h2,h⟩:=zB h
 cases h
 exact tF ⟨func269,rfl⟩ 3 [] (oD (dT r1.1.sub)<|oC 1 [] (zMU h2) o0),⟨⟨tv,dT _⟩,⟨tv,tv,⟨tv,dT _⟩,tv⟩,tv⟩,zA,⟨⟨tv,tv,dT _,tv⟩,tv,tv⟩,zA⟩
def kT:Nat->zR->zR->Int->zR->Int->Option (zR×Int)
 |0,_,_,_,_,_=>none
 |f+1,c,e,b,g,a=>
 if decide (b<(c.length:Int))then
 zP c b>>=fun x2=>
 zJW f a x2 b e>>=fun r4=>
 xB 40 g [r4.1]>>=fun l6=>
 kT f c e (yN (b+1)) l6 r4.2
 else
 some (g,a)
def zMZ(f:Nat)(d:Int)(c e:zR):Option (zR×Int):=
 kT f c e 0 [] d
theorem zQv:∀f:Nat,(∀ {c e b g a r},kT f c e b g a=some r->(∀j,dL 1 (pt 4021 f270) (sp j 27 0 [(0,.mp 0 0),(2,zH zC e .no),(7,zH zC g (.st 0 3)),(10,zH zC c .no),(11,ai (c.length:Int)),(12,ai b)]) (⟨[(0,.cells [ai a])],1,[0],1,[]⟩) (fQ 1 (nQ 1 f270 (zH zC r.1 (.st 0 3)) [.cells [ai r.2]] 1) [.blk 0,.seq (pt 63 f270)]))):=by
 intro f
 induction f with
 |zero=>
  exact fun h=>nn h
 |succ f ih=>
  intro c e b g a r h
  rw[kT]at h
  obtain⟨h1,h⟩|⟨h1,h⟩:=zK h
  obtain⟨x2,h3,h⟩:=zB h
  obtain⟨r4,h5,h⟩:=zB h
  obtain⟨l6,h7,h⟩:=zB h
  exact fun j=>lH 1 [] [0] [1] [0,2,7,10,11,12] (oD (dT c)<|oD (dT l6)<|oD (dT e)<|oP 0 (vF h7 (by simp))<|oS 0 (wC wL [r4.1])<|oC 3 [0] (zYf h5)<|oA 0 (xH (o:=.no) h3)<|oB 0 h1 o0) (ih h)
  cases h
  exact fun j=>lG 0 [] [0] [0] true (oD (dT g)<|oB 0 h1 o0)
theorem yBs{f d c e r}(h:zMZ f d c e=some r):Ct 270 [.cells [ai d]] [.mp 0 0,zH zC c .no,zH zC e .no] (zH zC r.1 (.st 0 3)) [.cells [ai r.2]] 1:=⟨by
 unfold zMZ at h
 exact tH ⟨func270,rfl⟩ 1 [(none,7,3)] [0] [0] [0,2,7,10,11,12] (oD (dT c)<|oD (dT ([]:zR))<|oD (dT e) o0) (zQv _ h),⟨(lz rfl),⟨tv,dT _⟩,⟨tv,dT _⟩,tv⟩,(zD ⟨tv,tv⟩ zA),dT _,(zD ⟨tv,tv⟩ zA)⟩
def kU:Nat->zR->sE->Tm->Int->Int->Int->Int->zR->Option (Tm×Int)
 |0,_,_,_,_,_,_,_,_=>none
 |f+1,p,a,g,m,b,c,d,e=>
 if decide (m<(a.at'.length:Int))then
 zP a.at' m>>=fun x6=>
 zJW f b x6 (a.around.length:Int) p>>=fun r8=>
 e23 f (Tm.mk c d e) r8.1>>=fun r10=>
 kU f p a g (yN (m+1)) r8.2 r10.k r10.n r10.sub
 else
 zMX f b g (a.around.length:Int)>>=fun r12=>
 zJS f (a.around.length:Int)>>=fun r14=>
 e21 f r12.1 r14>>=fun r16=>
 e23 f (Tm.mk c d e) r16>>=fun r18=>
 zMZ f r12.2 a.around p>>=fun r20=>
 zMY f r20.1 r18>>=fun r22=>
 zFQ f r20.2 r22.1 r22.2>>=fun r24=>
 some (r24.1,r24.2)
def zNz(f:Nat)(q:Int)(s:Tm)(t p:zR)(a:sE)(g:Tm):Option (Tm×Int):=
 zJV f q t (a.around.length:Int)>>=fun r1=>
 e21 f s r1.1>>=fun r3=>
 kU f p a g 0 r1.2 r3.k r3.n r3.sub
theorem zQu:∀f:Nat,(∀ {p a g m b c d e r},kU f p a g m b c d e=some r->(∀j,dL 1 (pt 16309 f244) (sp j 61 0 [(0,.mp 0 0),(3,zH zC p .no),(10,.mp 1 0),(11,.mp 2 0),(12,.mp 3 0),(13,ai (a.around.length:Int)),(14,.mp 4 0),(27,zH zC a.at' .no),(28,ai (a.at'.length:Int)),(29,ai m)]) (⟨[(0,.cells [ai b]),(1,.cells [ab a.is,zH zC a.around .no,zH zC a.at' .no]),(2,.cells [ai g.k,ai g.n,zH zC g.sub .no]),(3,.cells [ai 0,ai 0,zH zC ([]:zR) .nl]),(4,.cells [ai c,ai d,zH zC e .no])],5,[],0,[]⟩) (fQ 1 (nQ 1 f244 (yV r.1) [.cells [ai r.2]] 0) [.blk 0,.seq (pt 255 f244)]))):=by
 intro f
 induction f with
 |zero=>
  exact fun h=>nn h
 |succ f ih=>
  intro p a g m b c d e r h
  rw[kU]at h
  obtain⟨h5,h⟩|⟨h5,h⟩:=zK h
  obtain⟨x6,h7,h⟩:=zB h
  obtain⟨r8,h9,h⟩:=zB h
  obtain⟨r10,h11,h⟩:=zB h
  exact fun j=>lH 2 [] [0,1,2,3,4] [] [0,3,10,11,12,13,14,27,28,29] (oD (dT a.at')<|oD (dT p)<|oD (dT r10.sub)<|oD (dT ([]:zR))<|oD (dT g.sub)<|oD (dT a.at')<|oD (dT a.around)<|oC 0 [] (c23 h11)<|oC 4 [0] (zYf h9)<|oA 0 (xH (o:=.no) h7)<|oB 0 h5 o0) (ih h)
  obtain⟨r12,h13,h⟩:=zB h
  obtain⟨r14,h15,h⟩:=zB h
  obtain⟨r16,h17,h⟩:=zB h
  obtain⟨r18,h19,h⟩:=zB h
  obtain⟨r20,h21,h⟩:=zB h
  obtain⟨r22,h23,h⟩:=zB h
  obtain⟨r24,h25,h⟩:=zB h
  cases h
  exact fun j=>lF 1 [0] (oD (dT r24.1.sub)<|oC 2 [0] (zUr h25)<|oC 1 [] (yBt h23)<|oC 2 [0] (yBs h21)<|oC 0 [] (c23 h19)<|oC 0 [] (c21 h17)<|oC 0 [] (zYj h15)<|oC 2 [0] (yBu h13)<|oB 0 h5 o0)
theorem zQt{f q s t p a g r}(h:zNz f q s t p a g=some r):Ct 244 [.cells [ai q]] [.mp 0 0,yV s,zH zC t .no,zH zC p .no,zXr a,yV g] (yV r.1) [.cells [ai r.2]] 0:=⟨by
 unfold zNz at h
 obtain⟨r1,h2,h⟩:=zB h
 obtain⟨r3,h4,h⟩:=zB h
 exact tH ⟨func244,rfl⟩ 3 [] [0,2,3,4,5] [] [0,3,10,11,12,13,14,27,28,29] (oD (dT a.at')<|oD (dT p)<|oD (dT r3.sub)<|oD (dT ([]:zR))<|oD (dT g.sub)<|oD (dT a.at')<|oD (dT a.around)<|oC 0 [] (c21 h4)<|oC 3 [0] (zYh h2) o0) (zQu _ h),⟨(lz rfl),⟨tv,tv,⟨tv,dT _⟩,tv⟩,⟨tv,dT _⟩,⟨tv,dT _⟩,⟨tv,⟨tv,dT _⟩,⟨tv,dT _⟩,tv⟩,⟨tv,tv,⟨tv,dT _⟩,tv⟩,tv⟩,(zD ⟨tv,tv⟩ zA),⟨tv,tv,dT _,tv⟩,(zD ⟨tv,tv⟩ zA)⟩
def zNy(c:Nat)(a:Int)(b:Tm):Option (Tm×Int×Int):=
 if a==0 then
 fV c b>>=fun r2=>
 if r2 then
 if a != 0 then
 some ((Tm.mk 0 0 []),a,a)
 else
 some (b,0,a)
 else
 some ((Tm.mk 0 0 []),2,2)
 else
 if a != 0 then
 some ((Tm.mk 0 0 []),a,a)
 else
 some (b,0,a)
theorem zNx:Qf 246 f246:=⟨func246,rfl⟩
theorem yBr{c a b r}(h:zNy c a b=some r):Ct 246 [.cells [ai a]] [.mp 0 0,yV b] (.tup [yV r.1,ai r.2.1]) [.cells [ai r.2.2]] 0:=⟨by
 unfold zNy at h
 obtain⟨h1,h⟩|⟨h1,h⟩:=zK h
 obtain⟨r2,h3,h⟩:=zB h
 have k:=oB 1 h1 o0
 obtain⟨h4,h⟩|⟨h4,h⟩:=zK h
 have k:=oK 1 [] h4 (qW h3) k
 obtain⟨h5,h⟩|⟨h5,h⟩:=zK h
 cases h
 exact tF zNx 2 [0] (oD (dT ([]:zR))<|oB 2 h5 k)
 cases h
 exact tF zNx 2 [0] (oD (dT b.sub)<|oB 2 h5 k)
 cases h
 exact tF zNx 6 [0] (oD (dT ([]:zR))<|oK 1 [] h4 (qW h3) k)
 have k:=oB 1 h1 o0
 obtain⟨h6,h⟩|⟨h6,h⟩:=zK h
 cases h
 exact tF zNx 2 [0] (oD (dT ([]:zR))<|oB 1 h6 k)
 cases h
 exact tF zNx 2 [0] (oD (dT b.sub)<|oB 1 h6 k),⟨(lz rfl),⟨tv,tv,⟨tv,dT _⟩,tv⟩,tv⟩,(zD ⟨tv,tv⟩ zA),⟨⟨tv,tv,dT _,tv⟩,tv,tv⟩,(zD ⟨tv,tv⟩ zA)⟩
def uJ(l:List Tm):Prop:=∀x∈l,x.Ok
theorem uJ.nil:uJ []:=fun _ h=>nomatch h
theorem uJ.app{l m:List Tm}(h:uJ l)(k:uJ m):uJ (l++m):=fun x hx=>(List.mem_append.1 hx).elim (h x) (k x)
theorem uJ.one{t:Tm}(h:t.Ok):uJ [t]:=fun x hx=>by
 rw[List.mem_singleton.1 hx];exact h
theorem uJ.drop{l:List Tm}(h:uJ l)(n:Nat):uJ (l.drop n):=fun x hx=>h x (List.mem_of_mem_drop hx)
theorem uJ.take{l:List Tm}(h:uJ l)(n:Nat):uJ (l.take n):=fun x hx=>h x (List.mem_of_mem_take hx)
theorem uJ.at{l r:List Tm}{v:Nat}{x:Tm}(h:uJ l)(hd:l.drop v=x::r):x.Ok:=h x (by
 have:x∈l.drop v:=by rw[hd];simp
 exact List.mem_of_mem_drop this)
theorem zUq{k n:Int}{a:Tm}(h:a.Ok):(Tm.mk k n [a]).Ok:=by
 rw[Tm.Ok,nF,nF];exact⟨by simp,h,trivial⟩
theorem mS{k n:Int}{a b:Tm}(h:a.Ok)(i:b.Ok):(Tm.mk k n [a,b]).Ok:=by
 rw[Tm.Ok,nF,nF,nF];exact⟨by simp,h,i,trivial⟩
theorem J5{α:Type}{l:List α}{a b:Int}(h0:0≤a)(h1:a≤b)(h2:b≤l.length):nE l a b=some ((l.drop a.toNat).take (b-a).toNat):=by
 unfold nE;rw[if_pos ⟨h0,h1,h2⟩]
def MT(e:Int)(v:Tm)(x:Tm×Int):Prop:=x.1.Ok∧(e≠8->x.2≠8)∧(x.2=0->e=0∧x.1=v)
def ML(e:Int)(v:List Tm)(x:List Tm×Int):Prop:=uJ x.1∧(e≠8->x.2≠8)∧(x.2=0->e=0∧x.1=v)
def upI(k:Int)(l:List Tm):List Tm:=l.map fun t=>I8 t 0 0 k
theorem o7(p1 p2:Int):∀(r l acc:List Tm) (v:Nat),l.drop v=r->l.length≤1073741824->uJ l->uJ acc->acc.length+r.length≤l.length->yJ (fun q=>kQ q l p1 p2 (v:Int) acc) (fun x=>ML 0 (acc++r.map fun t=>I8 t 0 p2 p1) x∧x.1.length≤l.length)
 | [],l,acc,v,hd,hl,ho,ha,hv=>by
  refine yJ.succ ?_
  simp only[kQ]
  refine yJ.ite (fun h=>?_) fun _=>yJ.ret ⟨⟨ha,by simp,by simp⟩,by simpa using hv⟩
  rw[yO hd]at h;cases h
 |t::r,l,acc,v,hd,hl,ho,ha,hv=>by
  have hlt:=yT hd
  refine yJ.succ ?_
  simp only[kQ]
  refine yJ.ite (fun _=>?_) fun h=>?_
  ·refine yJ.pure (yC hd) (yJ.bind (P:=fun r=>r=vX t p1 p2) ((zHf t p1 p2 (ho.at hd)).tot rfl) fun r4 h4=>?_)
   subst h4
   refine yJ.ite (fun h=>?_) fun h=>?_
   ·have hne:(vX t p1 p2).2≠0:=by simpa using h
    exact yJ.ret ⟨⟨uJ.nil,fun _=>R8 t p1 p2,fun h0=>absurd h0 hne⟩,by simp⟩
   ·have he:(vX t p1 p2).2=0:=by simpa using h
    rw[List.length_cons]at hv
    refine yJ.pure (yU (by simp<;>omega)) ?_
    rw[yB v (by omega)]
    refine(o7 p1 p2 r l _ (v+1) (zV hd) hl ho (ha.app (uJ.one (iG t p1 p2 (ho.at hd)))) (by simp<;>omega)).mono fun x hx=>?_
    rw[(bU he).2.2.2.2]at hx
    simpa using hx
  ·rw[yL hd]at h;cases h
theorem zNw(l:List Tm)(p1 p2:Int)(hl:l.length≤1073741824)(ho:uJ l):yJ (fun q=>zMW q l p1 p2) (fun x=>ML 0 (l.map fun t=>I8 t 0 p2 p1) x∧x.1.length≤l.length):=by
 simp only[zMW]
 exact o7 p1 p2 l l [] 0 rfl hl ho uJ.nil (by simp)
theorem zAY(e:Int)(t:Tm)(p:Int):yJ (fun q=>zFQ q e t p) (fun x=>x.1=t∧x.2=if e=0 then p else e):=by
 simp only[zFQ]
 refine yJ.ite (fun h=>yJ.ret ⟨rfl,?_⟩) fun h=>yJ.ret ⟨rfl,?_⟩
 ·rw[if_pos (by simpa using h)]
 ·rw[if_neg (by simpa using h)]
theorem zQs(e:Int)(t:List Tm)(p:Int):yJ (fun q=>zMV q e t p) (fun x=>x.1=t∧x.2=if e=0 then p else e):=by
 simp only[zMV]
 refine yJ.ite (fun h=>yJ.ret ⟨rfl,?_⟩) fun h=>yJ.ret ⟨rfl,?_⟩
 ·rw[if_pos (by simpa using h)]
 ·rw[if_neg (by simpa using h)]
theorem zFR{e:Int}{v:Tm}{r x:Tm×Int}(hr:MT 0 v r)(hx:x.1=r.1∧x.2=if e=0 then r.2 else e):MT e v x:=by
 obtain⟨h1,h2⟩:=hx
 refine⟨by rw[h1];exact hr.1,?_,?_⟩
 ·intro he
  rw[h2]
  split
  ·exact hr.2.1 (by decide)
  ·exact he
 ·intro he
  rw[h2]at he
  by_cases h:e=0
  ·rw[if_pos h]at he
   exact⟨h,by rw[h1];exact(hr.2.2 he).2⟩
  ·rw[if_neg h]at he;exact absurd he h
theorem zUp{e:Int}{v:List Tm}{r x:List Tm×Int}(hr:ML 0 v r)(hx:x.1=r.1∧x.2=if e=0 then r.2 else e):ML e v x:=by
 obtain⟨h1,h2⟩:=hx
 refine⟨by rw[h1];exact hr.1,?_,?_⟩
 ·intro he
  rw[h2]
  split
  ·exact hr.2.1 (by decide)
  ·exact he
 ·intro he
  rw[h2]at he
  by_cases h:e=0
  ·rw[if_pos h]at he
   exact⟨h,by rw[h1];exact(hr.2.2 he).2⟩
  ·rw[if_neg h]at he;exact absurd he h
theorem zHI(e:Int)(l:List Tm)(p:Int)(hl:l.length≤1073741824)(ho:uJ l):yJ (fun q=>zJV q e l p) (fun x=>ML e (upI p l) x∧x.1.length≤l.length):=by
 simp only[zJV]
 exact(zNw l p 0 hl ho).bind fun r h=>(zQs e r.1 r.2).bind fun r3 h3=>yJ.ret ⟨zUp h.1 h3,by rw[h3.1];exact h.2⟩
theorem zQr(t:Tm)(k c:Int)(h:t.Ok):MT 0 (I8 t 0 c k) (vX t k c):=⟨iG t k c h,fun _=>R8 t k c,fun h=>⟨rfl,(bU h).2.2.2.2⟩⟩
theorem zUo(t:Tm)(ls:List Tm)(h:t.Ok)(ho:uJ ls):MT 0 (siT ls t 0) (kE t ls):=⟨zHb t ls h ho,fun _=>zHH t ls,fun h=>⟨rfl,(zHG h).2.2.2⟩⟩
theorem zUn(e:Int)(t:Tm)(p:Int)(h:t.Ok):yJ (fun q=>zMX q e t p) (MT e (I8 t 0 0 p)):=by
 simp only[zMX]
 exact yJ.bind (P:=fun r=>r=vX t p 0) ((zMo t p h).tot rfl) fun r hr=>(zAY e r.1 r.2).bind fun r3 h3=>yJ.ret (by subst hr;exact zFR (zQr t p 0 h) h3)
def C5:Nat->List Tm
 |0=>[]
 |m+1=>.mk 1 (m:Int) []::C5 m
def vuT:Nat->Nat->List Tm
 |0,_=>[]
 |m+1,v=>.mk 1 (v:Int) []::vuT m (v+1)
theorem zHJ:∀m,uJ (C5 m)
 |0=>uJ.nil
 |m+1=>fun x hx=>by
  rcases List.mem_cons.1 hx with rfl|hx
  ·exact wU _ _
  ·exact zHJ m x hx
theorem zDG:∀m,(C5 m).length=m
 |0=>rfl
 |m+1=>congrArg (· + 1) (zDG m)
theorem zDH:∀(m:Nat) (acc:List Tm),m+acc.length≤1048576->zF (fun q=>kO q acc ((m:Int)-1)) (acc++C5 m)
 |0,acc,hm=>by
  refine zF.succ ?_
  simp only[kO]
  exact zF.ifF (decide_eq_false (by omega)) (zF.ret.eq (by simp[C5]))
 |m+1,acc,hm=>by
  refine zF.succ ?_
  simp only[kO]
  refine zF.ifT (decide_eq_true (by omega)) ((B9 _).bind (zF.pure (yU (by simp<;>omega)) ?_))
  rw[zW (by omega) (by omega),show ((m+1:Nat):Int)-1-1=(m:Int)-1 by omega]
  refine(zDH m _ (by simp<;>omega)).eq ?_
  rw[C5,show ((m+1:Nat):Int)-1=(m:Int) by omega];simp
theorem zQq(n:Nat)(hn:n≤1048576):zF (fun q=>zJS q (n:Int)) (C5 n):=by
 simp only[zJS]
 refine zF.ifF (decide_eq_false (by omega)) (zF.ifF (decide_eq_false (by omega)) ?_)
 rw[zW (by omega) (by omega)]
 exact(zDH n [] (by simpa using hn)).eq (by simp)
def zNv(t:Tm)(own:Nat)(outer:List Tm):Tm:=siT (vuT own 0++(upI own outer).reverse) t 0
def G7(outer:List Tm):List Tm->Nat->List Tm
 | [],_=>[]
 |t::r,v=>zNv t v outer::G7 outer r (v+1)
theorem zDI(p1:Tm)(r6:List Tm×Int)(h1:p1.Ok)(h6:uJ r6.1):∀(m:Nat) (acc:List Tm),m≤r6.1.length->m+acc.length≤4294967296->uJ acc->yJ (fun q=>kR q p1 r6 ((m:Int)-1) acc) (MT r6.2 (siT (acc++(r6.1.take m).reverse) p1 0))
 |0,acc,hm,hl,ho=>by
  refine yJ.succ ?_
  simp only[kR]
  refine yJ.ite (fun h=>?_) fun _=>?_
  ·have:=of_decide_eq_true h
   omega
  ·refine yJ.bind (P:=fun r=>r=kE p1 acc) ((zAL p1 acc h1 ho (by omega)).tot rfl) fun r h=>(zAY _ r.1 r.2).bind fun x hx=>yJ.ret ?_
   subst h
   have:=zFR (zUo p1 acc h1 ho) hx
   simpa using this
 |m+1,acc,hm,hl,ho=>by
  refine yJ.succ ?_
  simp only[kR]
  refine yJ.ite (fun _=>?_) fun h=>?_
  ·have hlt:m<r6.1.length:=by omega
   have hx:zP r6.1 (((m+1:Nat):Int)-1)=some r6.1[m]:=by
    unfold zP
    rw[if_pos (by omega),show (((m+1:Nat):Int)-1).toNat=m by omega,List.getElem?_eq_getElem hlt]
   refine yJ.pure hx (yJ.pure (yU (by simp<;>omega)) ?_)
   rw[zW (by omega) (by omega),show ((m+1:Nat):Int)-1-1=(m:Int)-1 by omega]
   refine(zDI p1 r6 h1 h6 m _ (by omega) (by simp<;>omega) (ho.app (uJ.one (h6 _ (List.getElem_mem hlt))))).mono fun x hx=>?_
   have e:r6.1.take (m+1)=r6.1.take m++[r6.1[m]]:=by rw[List.take_add_one,List.getElem?_eq_getElem hlt];rfl
   rw[e,List.reverse_append]
   simpa using hx
  ·have:=of_decide_eq_false h
   omega
theorem zNu(e:Int)(p1:Tm)(own:Nat)(p3:List Tm)(h1:p1.Ok)(h2:own≤1073741824)(h3:uJ p3)(hl:p3.length≤1073741824):∀(m v:Nat) (acc:List Tm),v+m=own->acc.length≤v->uJ acc->yJ (fun q=>kS q e p1 (own:Int) p3 (v:Int) acc) (MT e (siT (acc++vuT m v++(upI own p3).reverse) p1 0)):=by
 intro m
 induction m with
 |zero=>
  intro v acc hm ha ho
  refine yJ.succ ?_
  simp only[kS]
  refine yJ.ite (fun h=>?_) fun _=>(zHI e p3 own hl h3).bind fun r6 h6=>?_
  ·have:=of_decide_eq_true h
   omega
  ·rw[zW (by omega) (by omega)]
   refine(zDI p1 r6 h1 h6.1.1 r6.1.length acc (Nat.le_refl _) (by omega) ho).mono fun x hx=>⟨hx.1,fun he=>hx.2.1 (h6.1.2.1 he),fun he=>?_⟩
   have k:=hx.2.2 he
   have k6:=h6.1.2.2 k.1
   refine⟨k6.1,?_⟩
   rw[k.2,List.take_length,k6.2,vuT];simp
 |succ m ih=>
  intro v acc hm ha ho
  refine yJ.succ ?_
  simp only[kS]
  refine yJ.ite (fun _=>?_) fun h=>?_
  ·refine yJ.bind (P:=fun r=>r=Tm.mk 1 (v:Int) []) ((B9 v).tot rfl) fun r h=>yJ.pure (yU (by simp<;>omega)) ?_
   subst h
   rw[yB v (by omega)]
   refine(ih (v+1) _ (by omega) (by simp<;>omega) (ho.app (uJ.one (wU _ _)))).mono fun x hx=>?_
   rw[vuT]
   simpa using hx
  ·have:=of_decide_eq_false h
   omega
theorem G8(e:Int)(p1:Tm)(own:Nat)(p3:List Tm)(h1:p1.Ok)(h2:own≤1073741824)(h3:uJ p3)(hl:p3.length≤1073741824):yJ (fun q=>zJW q e p1 (own:Int) p3) (MT e (zNv p1 own p3)):=by
 simp only[zJW]
 exact zNu e p1 own p3 h1 h2 h3 hl own 0 [] (by omega) (by simp) uJ.nil
theorem eA(p2:List Tm)(h2:uJ p2)(hl2:p2.length≤1073741824):∀(r l acc:List Tm) (v:Nat) (e:Int),l.drop v=r->l.length≤1073741824->uJ l->uJ acc->acc.length≤v->yJ (fun q=>kT q l p2 (v:Int) acc e) (fun x=>uJ x.1∧x.1.length=acc.length+r.length∧(e≠8->x.2≠8)∧(x.2=0->e=0∧x.1=acc++G7 p2 r v))
 | [],l,acc,v,e,hd,hl,ho,ha,hv=>by
  refine yJ.succ ?_
  simp only[kT]
  refine yJ.ite (fun h=>?_) fun _=>yJ.ret ⟨ha,by simp,id,fun h=>⟨h,by simp[G7]⟩⟩
  rw[yO hd]at h;cases h
 |t::r,l,acc,v,e,hd,hl,ho,ha,hv=>by
  have hlt:=yT hd
  refine yJ.succ ?_
  simp only[kT]
  refine yJ.ite (fun _=>?_) fun h=>?_
  ·refine yJ.pure (yC hd) ((G8 e t v p2 (ho.at hd) (by omega) h2 hl2).bind fun r4 h4=>?_)
   refine yJ.pure (yU (by simp<;>omega)) ?_
   rw[yB v (by omega)]
   refine(eA p2 h2 hl2 r l _ (v+1) r4.2 (zV hd) hl ho (ha.app (uJ.one h4.1)) (by simp<;>omega)).mono fun x hx=>?_
   obtain⟨a1,a2,a3,a4⟩:=hx
   refine⟨a1,by rw[a2];simp<;>omega,fun he=>a3 (h4.2.1 he),fun he=>?_⟩
   have k:=a4 he
   have k4:=h4.2.2 k.1
   refine⟨k4.1,?_⟩
   rw[k.2,k4.2,G7];simp
  ·rw[yL hd]at h;cases h
theorem zAZ(e:Int)(l p2:List Tm)(h2:uJ p2)(hl2:p2.length≤1073741824)(hl:l.length≤1073741824)(ho:uJ l):yJ (fun q=>zMZ q e l p2) (fun x=>ML e (G7 p2 l 0) x∧x.1.length=l.length):=by
 simp only[zMZ]
 refine(eA p2 h2 hl2 l l [] 0 e rfl hl ho uJ.nil (by simp)).mono fun x hx=>?_
 obtain⟨a1,a2,a3,a4⟩:=hx
 exact⟨⟨a1,a3,fun he=>by simpa using a4 he⟩,by simpa using a2⟩
def zBz(l:List Tm)(t:Tm):Tm:=l.foldr (fun a x=>.mk 4 0 [a,x]) t
theorem zNt(l:List Tm)(hl:l.length≤24)(ho:uJ l):∀(m v:Nat) (t:Tm),v+m=l.length->t.Ok->yJ (fun q=>tX q l (v:Int) t.k t.n t.sub) (MT 0 (zBz (l.take m) t)):=by
 intro m
 induction m with
 |zero=>
  intro v t hm ht
  refine yJ.succ ?_
  simp only[tX,vW]
  refine yJ.ite (fun h=>?_) fun _=>?_
  ·have:=of_decide_eq_true h
   omega
  ·refine yJ.bind (P:=fun b=>b=zI t) ((xS t ht).tot rfl) fun r hr=>yJ.ite (fun h=>?_) fun _=>yJ.ret ⟨wU 0 0,by simp,by simp⟩
   refine yJ.bind (P:=fun x=>x=iE t) ((gP t ht).tot rfl) fun x hx=>yJ.ret ?_
   subst hx
   have e:iE t=t:=by unfold iE;rw[if_pos (by rw[←hr];exact h)]
   rw[e]
   exact⟨ht,by simp,fun _=>⟨rfl,by simp[zBz]⟩⟩
 |succ m ih=>
  intro v t hm ht
  refine yJ.succ ?_
  simp only[tX,vW]
  refine yJ.ite (fun _=>?_) fun h=>?_
  ·have hlt:m<l.length:=by omega
   rw[zW (x:=(l.length:Int)-1) (by omega) (by omega),zW (x:=(l.length:Int)-1-v) (by omega) (by omega)]
   have hx:zP l ((l.length:Int)-1-v)=some l[m]:=by
    unfold zP
    rw[if_pos (by omega),show ((l.length:Int)-1-v).toNat=m by omega,List.getElem?_eq_getElem hlt]
   refine yJ.pure hx (yJ.bind (P:=fun r=>r=Tm.mk 4 0 [l[m],t]) (zF.tot (zF.mk fun _=>rfl) rfl) fun r hr=>?_)
   subst hr
   rw[yB v (by omega)]
   refine(ih (v+1) _ (by omega) (mS (ho _ (List.getElem_mem hlt)) ht)).mono fun x hx=>?_
   have e:l.take (m+1)=l.take m++[l[m]]:=by rw[List.take_add_one,List.getElem?_eq_getElem hlt];rfl
   rw[e]
   unfold zBz at hx ⊢
   rw[List.foldr_append]
   exact hx
  ·have:=of_decide_eq_false h
   omega
theorem zHK(t:Tm)(ht:t.Ok):∀(r l:List Tm) (v:Nat),l.drop v=r->l.length≤24->uJ l->yJ (fun q=>tY q l t (v:Int)) (MT 0 (zBz l t))
 | [],l,v,hd,hl,ho=>by
  refine yJ.succ ?_
  simp only[tY]
  refine yJ.ite (fun h=>?_) fun _=>?_
  ·rw[yO hd]at h;cases h
  ·refine yJ.bind (P:=fun _=>True) ((xS t ht).tot trivial) fun r _=>yJ.ite (fun _=>?_) fun _=>yJ.ret ⟨wU 0 0,by simp,by simp⟩
   have:=zNt l hl ho l.length 0 t (by omega) ht
   rwa[List.take_length]at this
 |x::r,l,v,hd,hl,ho=>by
  have hlt:=yT hd
  refine yJ.succ ?_
  simp only[tY]
  refine yJ.ite (fun _=>?_) fun h=>?_
  ·refine yJ.pure (yC hd) (yJ.bind (P:=fun _=>True) ((xS x (ho.at hd)).tot trivial) fun _ _=>yJ.ite (fun _=>?_) fun _=>yJ.ret ⟨wU 0 0,by simp,by simp⟩)
   rw[yB v (by omega)]
   exact zHK t ht r l (v+1) (zV hd) hl ho
  ·rw[yL hd]at h;cases h
theorem zNs(l:List Tm)(t:Tm)(ho:uJ l)(ht:t.Ok):yJ (fun q=>zMY q l t) (MT 0 (zBz l t)):=by
 simp only[zMY]
 refine yJ.bind (P:=MT 0 (zBz l t)) ?_ fun x hx=>yJ.ret hx
 simp only[bX]
 refine yJ.ite (fun _=>yJ.ret ⟨wU 0 0,by simp,by simp⟩) fun h=>?_
 have:=of_decide_eq_false h
 exact zHK t ht l l 0 rfl (by omega) ho
def zDJ(r:sE):Prop:=uJ r.around∧uJ r.at'∧r.around.length≤1048576∧r.at'.length≤1048576
def zUm(head:Tm)(args outer:List Tm)(r:sE)(a:Tm):Tm:=
 zBz (G7 outer r.around 0) (.mk 5 0 [uI (uI head (upI r.around.length args)) (r.at'.map fun t=>zNv t r.around.length outer),uI (I8 a 0 0 r.around.length) (C5 r.around.length)])
theorem zDK(p3:List Tm)(p4:sE)(p5:Tm)(h3:uJ p3)(hl3:p3.length≤1073741824)(h4:zDJ p4)(h5:p5.Ok):∀(r:List Tm) (v:Nat) (e:Int) (t:Tm),p4.at'.drop v=r->t.Ok->yJ (fun q=>kU q p3 p4 p5 (v:Int) e t.k t.n t.sub)
  (MT e (zBz (G7 p3 p4.around 0) (.mk 5 0 [uI t (r.map fun t=>zNv t p4.around.length p3),uI (I8 p5 0 0 p4.around.length) (C5 p4.around.length)])))
 | [],v,e,t,hd,ht=>by
  refine yJ.succ ?_
  simp only[kU,vW]
  refine yJ.ite (fun h=>?_) fun _=>?_
  ·rw[yO hd]at h;cases h
  ·have:=h4.2.2.1
   refine(zUn e p5 _ h5).bind fun r12 h12=>yJ.bind (P:=fun x=>x=C5 p4.around.length) ((zQq _ this).tot rfl) fun r14 h14=>?_
   subst h14
   refine yJ.bind (P:=fun x=>x=uI r12.1 (C5 p4.around.length)) ((sQ r12.1 _ (by rw[zDG];omega)).tot rfl) fun r16 h16=>?_
   subst h16
   refine yJ.bind (P:=fun x=>x=Tm.mk 5 0 [t,uI r12.1 (C5 p4.around.length)]) ((iF t _).tot rfl) fun r18 h18=>?_
   subst h18
   refine(zAZ r12.2 p4.around p3 h3 hl3 (by omega) h4.1).bind fun r20 h20=>(zNs r20.1 _ h20.1.1 (mS ht (rM _ _ h12.1 (zHJ _)))).bind fun r22 h22=>(zAY r20.2 r22.1 r22.2).bind fun r24 h24=>yJ.ret ?_
   have m:=zFR h22 h24
   refine⟨m.1,fun he=>m.2.1 (h20.1.2.1 (h12.2.1 he)),fun he=>?_⟩
   have k:=m.2.2 he
   have k20:=h20.1.2.2 k.1
   have k12:=h12.2.2 k20.1
   refine⟨k12.1,?_⟩
   rw[k.2,k20.2,k12.2];rfl
 |x::r,v,e,t,hd,ht=>by
  have hlt:=yT hd
  have:=h4.2.2.1
  have:=h4.2.2.2
  refine yJ.succ ?_
  simp only[kU,vW]
  refine yJ.ite (fun _=>?_) fun h=>?_
  ·refine yJ.pure (yC hd) ((G8 e x _ p3 (h4.2.1.at hd) (by omega) h3 hl3).bind fun r8 h8=>?_)
   refine yJ.bind (P:=fun x=>x=Tm.mk 5 0 [t,r8.1]) ((iF t r8.1).tot rfl) fun r10 h10=>?_
   subst h10
   rw[yB v (by omega)]
   refine(zDK p3 p4 p5 h3 hl3 h4 h5 r (v+1) r8.2 (.mk 5 0 [t,r8.1]) (zV hd) (mS ht h8.1)).mono fun y hy=>⟨hy.1,fun he=>hy.2.1 (h8.2.1 he),fun he=>?_⟩
   have k:=hy.2.2 he
   have k8:=h8.2.2 k.1
   refine⟨k8.1,?_⟩
   rw[k.2,k8.2,List.map_cons,uI]
  ·rw[yL hd]at h;cases h
theorem S1(e:Int)(p1:Tm)(p2 p3:List Tm)(p4:sE)(p5:Tm)(h1:p1.Ok)(h2:uJ p2)(hl2:p2.length≤1073741824)(h3:uJ p3)(hl3:p3.length≤1073741824)(h4:zDJ p4)(h5:p5.Ok):yJ (fun q=>zNz q e p1 p2 p3 p4 p5) (MT e (zUm p1 p2 p3 p4 p5)):=by
 simp only[zNz]
 refine(zHI e p2 _ hl2 h2).bind fun r1 hr1=>?_
 refine yJ.bind (P:=fun x=>x=uI p1 r1.1) ((sQ p1 r1.1 (by omega)).tot rfl) fun r3 hr3=>?_
 subst hr3
 refine(zDK p3 p4 p5 h3 hl3 h4 h5 p4.at' 0 r1.2 (uI p1 r1.1) rfl (rM _ _ h1 hr1.1.1)).mono fun y hy=>⟨hy.1,fun he=>hy.2.1 (hr1.1.2.1 he),fun he=>?_⟩
 have k:=hy.2.2 he
 have k1:=hr1.1.2.2 k.1
 refine⟨k1.1,?_⟩
 rw[k.2,k1.2];rfl
theorem zNr(e:Int)(t:Tm)(h:t.Ok):yJ (fun q=>zNy q e t) (fun x=>x.1.Ok∧(e≠8->x.2.1≠8)∧(x.2.1=0->e=0∧x.1=t∧zI t=true)):=by
 simp only[zNy]
 refine yJ.ite (fun he=>?_) fun he=>?_
 ·have he':e=0:=by simpa using he
  refine yJ.bind (P:=fun b=>b=zI t) ((xS t h).tot rfl) fun b hb=>yJ.ite (fun hs=>?_) fun _=>yJ.ret ⟨wU 0 0,by simp,by simp⟩
  refine yJ.ite (fun h2=>absurd he' (by simpa using h2)) fun _=>yJ.ret ⟨h,by simp,fun _=>⟨he',rfl,by rw[←hb];exact hs⟩⟩
 ·have he':e≠0:=by simpa using he
  exact yJ.ite (fun _=>yJ.ret ⟨wU 0 0,id,fun h0=>absurd h0 he'⟩) fun h2=>absurd (by simpa using h2) he'
theorem zFS(l:List yE)(n kind:Int):zF (fun q=>zFO q l n kind) (mN l n kind):=by
 simp only[zFO]
 unfold mN
 by_cases h:0≤n
 ·refine zF.ifT (decide_eq_true h) ?_
  by_cases k:n<l.length
  ·exact zF.ifT (decide_eq_true k) (zF.pure (yH h k) (zF.ret.eq (by simp[h,k])))
  ·exact zF.ifF (decide_eq_false k) (zF.ret.eq (by simp[k]))
 ·exact zF.ifF (decide_eq_false h) (zF.ret.eq (by simp[h]))
theorem G9:∀(r l:List Tm) (v:Nat),l.drop v=r->l.length≤1073741824->uJ l->zF (fun q=>kP q l (v:Int)) (r.all zI)
 | [],l,v,hd,hl,ho=>by
  refine zF.succ ?_
  simp only[kP]
  exact zF.ifF (yO hd) zF.ret
 |x::r,l,v,hd,hl,ho=>by
  have hlt:=yT hd
  refine zF.succ ?_
  simp only[kP]
  refine zF.ifT (yL hd) (zF.pure (yC hd) ((xS x (ho.at hd)).bind ?_))
  by_cases h:zI x=true
  ·refine zF.ifT h ?_
   rw[yB v (by omega)]
   exact(G9 r l (v+1) (zV hd) hl ho).eq (by simp[h])
  ·exact zF.ifF (by simpa using h) (zF.ret.eq (by simp[h]))
theorem dD(l:List Tm)(hl:l.length≤1073741824)(ho:uJ l):zF (fun q=>zFP q l) (l.all zI):=by
 simp only[zFP]
 exact G9 l l 0 rfl hl ho
def zDL(c:Nat)(rl:zY)(parts:tP)(b:Int)(a:zR):Option (Tm×Int):=
 zFO c rl b 4>>=fun r1=>
 if r1 then
 zP rl b>>=fun x4=>
 zP rl x4.fam>>=fun x6=>
 if (a.length:Int) != (x6.fields.length:Int)then
 some ((Tm.mk 0 0 []),5)
 else
 zFP c a>>=fun r9=>
 if r9 then
 zP a x4.place>>=fun x12=>
 some (x12,0)
 else
 some ((Tm.mk 0 0 []),5)
 else
 some ((Tm.mk 0 0 []),16)
theorem zQp:Qf 210 f210:=⟨func210,rfl⟩
theorem yBq{c rl parts b a r}(h:zDL c rl parts b a=some r):Ct 210 [qR rl parts] [.mp 0 0,ai b,zH zC a .no] (.tup [yV r.1,ai r.2]) [qR rl parts] 0:=⟨by
 unfold zDL at h
 have z {os ob} (k:Oz os ob):=oD (dT ([]:zR))<|oD (dC parts)<|oD (dE rl)<|k
 obtain⟨r1,h2,h⟩:=zB h
 obtain⟨h3,h⟩|⟨h3,h⟩:=zK h
 obtain⟨x4,h5,h⟩:=zB h
 obtain⟨x6,h7,h⟩:=zB h
 have k:=oA 1 (xK (o:=.no) h7)<|oA 2 (xK (o:=.no) h5)<|oK 2 [] h3 (zJT h2) o0
 obtain⟨h8,h⟩|⟨h8,h⟩:=zK h
 cases h
 exact tF zQp 1 [0] (z<|oB 2 h8 k)
 obtain⟨r9,h10,h⟩:=zB h
 have k:=oB 2 h8 k
 obtain⟨h11,h⟩|⟨h11,h⟩:=zK h
 obtain⟨x12,h13,h⟩:=zB h
 cases h
 exact tF zQp 2 [0] (oD (dT x12.sub)<|oD (dC parts)<|oD (dE rl)<|oA 1 (xH (o:=.no) h13)<|oA 1 (xK (o:=.no) h5)<|oK 0 [] h11 (zJU h10) k)
 cases h
 exact tF zQp 2 [0] (z<|oK 0 [] h11 (zJU h10) k)
 cases h
 exact tF zQp 2 [0] (z<|oK 2 [] h3 (zJT h2) o0),⟨(lz rfl),tv,⟨tv,dT _⟩,tv⟩,(zD ⟨⟨tv,dE _⟩,⟨tv,dC _⟩,tv⟩ zA),⟨⟨tv,tv,dT _,tv⟩,tv,tv⟩,(zD ⟨dE _,dC _,tv⟩ zA)⟩
def zUl(a:Nat)(b c:Int):Option Tm:=
 e89 a c>>=fun r1=>
 e45 a 7 b [r1]>>=fun r3=>
 some r3
theorem zQo{a b c r}(h:zUl a b c=some r):Ct 245 [] [ai b,ai c] (yV r) [] 0:=⟨by
 unfold zUl at h
 obtain⟨r1,h2,h⟩:=zB h
 obtain⟨r3,h4,h⟩:=zB h
 obtain rfl:=sj h
 exact tF ⟨func245,rfl⟩ 1 [] (oD (dT r3.sub)<|oC 0 [] (c45 h4)<|oS 0 (wC wL [r1])<|oC 0 [] (c89 h2) o0),⟨tv,tv,tv⟩,zA,⟨tv,tv,dT _,tv⟩,zA⟩
def nU:Nat->zY->tP->Int->Int->zR->zR->sF->Int->Int->Int->Int->zR->Option (Tm×Int)
 |0,_,_,_,_,_,_,_,_,_,_,_,_=>none
 |m+1,rl,parts,p,q,f,g,x12,b,c,d,e,a=>
 if decide (b<(x12.recs.length:Int))then
 zP x12.recs b>>=fun x29=>
 if x29.is then
 zP rl p>>=fun x32=>
 nE f 0 x32.pars>>=fun x34=>
 xB 40 ([]:zR) x34>>=fun l36=>
 nE g 0 b>>=fun x39=>
 xB 40 l36 x39>>=fun l41=>
 zUl m p q>>=fun r44=>
 zP g b>>=fun x46=>
 zNz m c r44 f l41 x29 x46>>=fun r48=>
 e23 m (Tm.mk d e a) r48.1>>=fun r50=>
 nU m rl parts p q f g x12 (yN (b+1)) r48.2 r50.k r50.n r50.sub
 else
 nU m rl parts p q f g x12 (yN (b+1)) c d e a
 else
 zNy m c (Tm.mk d e a)>>=fun r52=>
 some (r52.1,r52.2.1)
def zDM(m:Nat)(rl:zY)(parts:tP)(p q s:Int)(f g:zR):Option (Tm×Int):=
 zFO m rl p 1>>=fun r1=>
 if r1 then
 if decide (q<0)then
 some ((Tm.mk 0 0 []),16)
 else
 if decide (q>7)then
 some ((Tm.mk 0 0 []),16)
 else
 zFO m rl s 2>>=fun r6=>
 if r6 then
 zP rl s>>=fun x9=>
 if x9.fam != p then
 some ((Tm.mk 0 0 []),16)
 else
 zP parts s>>=fun x12=>
 zP rl p>>=fun x14=>
 if (f.length:Int) != (yN ((yN (x14.pars+1))+(x14.cons.length:Int)))then
 some ((Tm.mk 0 0 []),5)
 else
 if (g.length:Int) != (x12.args.length:Int)then
 some ((Tm.mk 0 0 []),5)
 else
 zFP m f>>=fun r18=>
 if r18 then
 zFP m g>>=fun r21=>
 if r21 then
 zP f (yN ((yN (x14.pars+1))+x9.place))>>=fun x24=>
 e21 m x24 g>>=fun r26=>
 nU m rl parts p q f g x12 0 0 r26.k r26.n r26.sub
 else
 some ((Tm.mk 0 0 []),5)
 else
 some ((Tm.mk 0 0 []),5)
 else
 some ((Tm.mk 0 0 []),16)
 else
 some ((Tm.mk 0 0 []),16)
theorem Y3:Qf 211 f211:=⟨func211,rfl⟩
theorem zQn:∀m:Nat,(∀ {rl parts p q f g x12 b c d e a r},nU m rl parts p q f g x12 b c d e a=some r->(∀j,dL 1 (pt 16777141 f211) (sp j 160 0 [(1,ai p),(2,ai q),(4,zH zC f .no),(5,zH zC g .no),(12,.mp 1 0),(14,zH yA rl .no),(16,.mp 2 0),(17,.mp 3 0),(118,zH cR x12.recs .no),(119,ai (x12.recs.length:Int)),(120,ai b)]) (⟨[(0,qR rl parts),(1,.cells [ai 0,ai 0,zH zC ([]:zR) .nl]),(2,.cells [ai c]),(3,.cells [ai d,ai e,zH zC a .no])],4,[],0,[]⟩) (fQ 1 (nQ 1 f211 (.tup [yV r.1,ai r.2]) [qR rl parts] 0) [.blk 0,.seq (pt 262143 f211)]))):=by
 intro m
 induction m with
 |zero=>
  exact fun h=>nn h
 |succ m ih=>
  intro rl parts p q f g x12 b c d e a r h
  rw[nU]at h
  have z {os ob} (k:Oz os ob):=oD (dT ([]:zR))<|oD (dC parts)<|oD (dE rl)<|k
  obtain⟨h28,h⟩|⟨h28,h⟩:=zK h
  obtain⟨x29,h30,h⟩:=zB h
  have k:=oA 0 (zXb (o:=.no) h30)<|oB 0 h28 o0
  obtain⟨h31,h⟩|⟨h31,h⟩:=zK h
  obtain⟨x32,h33,h⟩:=zB h
  obtain⟨x34,h35,h⟩:=zB h
  obtain⟨l36,h37,h⟩:=zB h
  have k:=oA 1 (oN h35)<|oA 1 (xK (o:=.no) h33)<|oB 2 h31 k
  by_cases h38:List.length x34=0
  obtain⟨x39,h40,h⟩:=zB h
  obtain⟨l41,h42,h⟩:=zB h
  have k:=oA 0 (oN h40)<|oP 0 (jI h37 h38) k
  by_cases h43:List.length x39=0
  obtain⟨r44,h45,h⟩:=zB h
  obtain⟨x46,h47,h⟩:=zB h
  obtain⟨r48,h49,h⟩:=zB h
  obtain⟨r50,h51,h⟩:=zB h
  exact fun j=>lH 2 [] [0,1,2,3] [] [1,2,4,5,12,14,16,17,118,119,120] (oD (dR x12.recs)<|oD (dE rl)<|oD (dT g)<|oD (dT f)<|oD (dT r50.sub)<|z<|oC 0 [] (c23 h51)<|oC 1 [2] (zQt h49)<|oA 1 (xH (o:=.no) h47)<|oC 1 [] (zQo h45)<|oP 0 (jI h42 h43) k) (ih h)
  obtain⟨r44,h45,h⟩:=zB h
  obtain⟨x46,h47,h⟩:=zB h
  obtain⟨r48,h49,h⟩:=zB h
  obtain⟨r50,h51,h⟩:=zB h
  exact fun j=>lH 2 [] [0,1,2,3] [] [1,2,4,5,12,14,16,17,118,119,120] (oD (dR x12.recs)<|oD (dE rl)<|oD (dT g)<|oD (dT f)<|oD (dT r50.sub)<|z<|oC 0 [] (c23 h51)<|oC 1 [2] (zQt h49)<|oA 1 (xH (o:=.no) h47)<|oC 1 [] (zQo h45)<|oP 0 (vF h42 h43) k) (ih h)
  obtain⟨x39,h40,h⟩:=zB h
  obtain⟨l41,h42,h⟩:=zB h
  have k:=oA 0 (oN h40)<|oP 0 (vF h37 h38) k
  by_cases h43:List.length x39=0
  obtain⟨r44,h45,h⟩:=zB h
  obtain⟨x46,h47,h⟩:=zB h
  obtain⟨r48,h49,h⟩:=zB h
  obtain⟨r50,h51,h⟩:=zB h
  exact fun j=>lH 2 [] [0,1,2,3] [] [1,2,4,5,12,14,16,17,118,119,120] (oD (dR x12.recs)<|oD (dE rl)<|oD (dT g)<|oD (dT f)<|oD (dT r50.sub)<|z<|oC 0 [] (c23 h51)<|oC 1 [2] (zQt h49)<|oA 1 (xH (o:=.no) h47)<|oC 1 [] (zQo h45)<|oP 0 (jI h42 h43) k) (ih h)
  obtain⟨r44,h45,h⟩:=zB h
  obtain⟨x46,h47,h⟩:=zB h
  obtain⟨r48,h49,h⟩:=zB h
  obtain⟨r50,h51,h⟩:=zB h
  exact fun j=>lH 2 [] [0,1,2,3] [] [1,2,4,5,12,14,16,17,118,119,120] (oD (dR x12.recs)<|oD (dE rl)<|oD (dT g)<|oD (dT f)<|oD (dT r50.sub)<|z<|oC 0 [] (c23 h51)<|oC 1 [2] (zQt h49)<|oA 1 (xH (o:=.no) h47)<|oC 1 [] (zQo h45)<|oP 0 (vF h42 h43) k) (ih h)
  exact fun j=>lH 1 [] [0,1,2,3] [] [1,2,4,5,12,14,16,17,118,119,120] (oD (dR x12.recs)<|oD (dE rl)<|oD (dT g)<|oD (dT f)<|oD (dT a)<|z<|oB 2 h31 k) (ih h)
  obtain⟨r52,h53,h⟩:=zB h
  cases h
  exact fun j=>lF 3 [0] (oD (dT r52.1.sub)<|oD (dC parts)<|oD (dE rl)<|oC 1 [2] (yBr h53)<|oB 0 h28 o0)
theorem yBp{m rl parts p q s f g r}(h:zDM m rl parts p q s f g=some r):Ct 211 [qR rl parts] [.mp 0 0,ai p,ai q,ai s,zH zC f .no,zH zC g .no] (.tup [yV r.1,ai r.2]) [qR rl parts] 0:=⟨by
 unfold zDM at h
 have z {os ob} (k:Oz os ob):=oD (dT ([]:zR))<|oD (dC parts)<|oD (dE rl)<|k
 obtain⟨r1,h2,h⟩:=zB h
 obtain⟨h3,h⟩|⟨h3,h⟩:=zK h
 have k:=oK 2 [] h3 (zJT h2) o0
 obtain⟨h4,h⟩|⟨h4,h⟩:=zK h
 cases h
 exact tF Y3 1 [0] (z<|oB 1 h4 k)
 have k:=oB 1 h4 k
 obtain⟨h5,h⟩|⟨h5,h⟩:=zK h
 cases h
 exact tF Y3 1 [0] (z<|oB 0 h5 k)
 obtain⟨r6,h7,h⟩:=zB h
 have k:=oB 0 h5 k
 obtain⟨h8,h⟩|⟨h8,h⟩:=zK h
 obtain⟨x9,h10,h⟩:=zB h
 have k:=oA 1 (xK (o:=.no) h10)<|oK 0 [] h8 (zJT h7) k
 obtain⟨h11,h⟩|⟨h11,h⟩:=zK h
 cases h
 exact tF Y3 1 [0] (z<|oB 1 h11 k)
 obtain⟨x12,h13,h⟩:=zB h
 obtain⟨x14,h15,h⟩:=zB h
 have k:=oA 2 (xK (o:=.no) h15)<|oA 3 (xK (o:=.no) h15)<|oA 1 (zXc (o:=.no) h13)<|oB 1 h11 k
 obtain⟨h16,h⟩|⟨h16,h⟩:=zK h
 cases h
 exact tF Y3 1 [0] (z<|oB 3 h16 k)
 have k:=oB 3 h16 k
 obtain⟨h17,h⟩|⟨h17,h⟩:=zK h
 cases h
 exact tF Y3 1 [0] (z<|oB 3 h17 k)
 obtain⟨r18,h19,h⟩:=zB h
 have k:=oB 3 h17 k
 obtain⟨h20,h⟩|⟨h20,h⟩:=zK h
 obtain⟨r21,h22,h⟩:=zB h
 have k:=oK 0 [] h20 (zJU h19) k
 obtain⟨h23,h⟩|⟨h23,h⟩:=zK h
 obtain⟨x24,h25,h⟩:=zB h
 obtain⟨r26,h27,h⟩:=zB h
 exact tH Y3 3 [] [0,1,3,4] [] [1,2,4,5,12,14,16,17,118,119,120] (oD (dR x12.recs)<|oD (dE rl)<|oD (dT g)<|oD (dT f)<|oD (dT r26.sub)<|z<|oC 1 [] (c21 h27)<|oA 2 (xH (o:=.no) h25)<|oA 2 (xK (o:=.no) h10)<|oA 1 (xK (o:=.no) h15)<|oK 1 [] h23 (zJU h22) k) (zQn _ h)
 cases h
 exact tF Y3 2 [0] (z<|oK 1 [] h23 (zJU h22) k)
 cases h
 exact tF Y3 2 [0] (z<|oK 0 [] h20 (zJU h19) k)
 cases h
 exact tF Y3 2 [0] (z<|oK 0 [] h8 (zJT h7) k)
 cases h
 exact tF Y3 2 [0] (z<|oK 2 [] h3 (zJT h2) o0),⟨(lz rfl),tv,tv,tv,⟨tv,dT _⟩,⟨tv,dT _⟩,tv⟩,(zD ⟨⟨tv,dE _⟩,⟨tv,dC _⟩,tv⟩ zA),⟨⟨tv,tv,dT _,tv⟩,tv,tv⟩,(zD ⟨dE _,dC _,tv⟩ zA)⟩
theorem zQm(l:List yE)(i:Int)(h0:0≤i)(h1:i<l.length)(hk:(zJ l i).kind=2):zP (kM l l.length 0) i=some (uY l i):=by
 unfold zP
 rw[if_pos h0,zHE l l.length 0 i.toNat (by omega),show ((0+i.toNat:Nat):Int)=i by omega,if_pos hk]
theorem zUk(l:List yE)(t:Tm)(of b:Int):zDJ (zDA l t of b):=by
 unfold zDA
 split
 ·rename_i h
  have hw:=tJ (t:=t) (l:=(yR t).1) (y:=(yR t).2.1) (by rw[←h.1])
  have hs:=zM hw.2.2.2.2.1
  have hal:=sX _ hs.2.2
  refine⟨fun x hx=>xL (hw.2.2.2.2.2 x hx),fun x hx=>xL (xT hw.2.2.2.2.1 (List.mem_of_mem_drop hx)),?_,?_⟩
  ·show (yR t).1.length≤_
   omega
  ·show ((yX (yR t).2.1).drop _).length≤_
   rw[List.length_drop];omega
 ·exact⟨uJ.nil,uJ.nil,by simp,by simp⟩
theorem zHL(l:List yE)(of:Int):∀(r:List Tm) (b:Int),∀x∈G6 l of r b,zDJ x
 | [],_,x,h=>nomatch h
 |a::r,b,x,h=>by
  rcases List.mem_cons.1 h with h|h
  ·rw[h];exact zUk l a of b
  ·exact zHL l of r (b+1) x h
def zBy(l:List yE)(i:Int)(a:List Tm)(x:Tm×Int):Prop:=
 x.1.Ok∧x.2≠8∧(x.2=0->(a.length:Int)=(zJ l (zJ l i).fam).fields.length∧0≤(zJ l i).place∧(zJ l i).place<a.length∧x.1=vU a (zJ l i).place)
theorem zJX{N:ByteArray->Bool}(l:List yE)(parts:List sF)(i:Int)(a:List Tm)(hE:vP N l)(ho:uJ a)(hl:a.length≤1073741824):yJ (fun q=>zDL q l parts i a) (zBy l i a):=by
 simp only[zDL]
 have bad:∀e:Int,e≠8->e≠0->zBy l i a (.mk 0 0 [],e):=fun e h8 h0=>⟨wU 0 0,h8,fun h=>absurd h h0⟩
 refine yJ.bind (P:=fun b=>b=mN l i 4) ((zFS l i 4).tot rfl) fun b hb=>yJ.ite (fun hT=>?_) fun _=>yJ.ret (bad _ (by decide) (by decide))
 rw[hT]at hb
 have hi:=xM hb.symm
 have hp:=(yZ (hE.2 i hi.1 hi.2.1)).2.2.2.1 hi.2.2
 unfold qZ at hp
 simp only[Bool.and_eq_true]at hp
 have hw:=vG hp.1
 have h6:=hw.2.2.2.2.2
 unfold fL at h6
 rw[if_pos hi.2.2]at h6
 refine yJ.pure (yH hi.1 hi.2.1) (yJ.pure (yH hw.1 (by omega)) (yJ.ite (fun _=>yJ.ret (bad _ (by decide) (by decide))) fun hn=>?_))
 have hn':(a.length:Int)=(zJ l (zJ l i).fam).fields.length:=by simpa using hn
 refine yJ.bind (P:=fun _=>True) ((dD a hl ho).tot trivial) fun _ _=>yJ.ite (fun _=>?_) fun _=>yJ.ret (bad _ (by decide) (by decide))
 have h7:(zJ l i).place<a.length:=by omega
 have hx:=uR (l:=a) hw.2.2.2.2.1 h7
 exact yJ.pure hx (yJ.ret ⟨ho _ (sH hw.2.2.2.2.1 h7),by simp,fun _=>⟨hn',hw.2.2.2.2.1,h7,rfl⟩⟩)
def dF(d lev:Int)(args own:List Tm)(pars:Nat):List sE->Nat->Tm->Tm
 | [],_,t=>t
 |r::rs,v,t=>dF d lev args own pars rs (v+1) (if r.is=true then .mk 5 0 [t,zUm (.mk 7 d [.mk 2 lev []]) args (args.take pars++own.take v) r (vU own v)]else t)
def zNq(l:List yE)(d lev c:Int)(args own:List Tm):Tm:=
 dF d lev args own (zJ l d).pars.toNat (uY l c).recs 0 (uI (vU args ((zJ l d).pars+1+(zJ l c).place)) own)
theorem zJY{N:ByteArray->Bool}(l:List yE)(parts:List sF)(i p2:Int)(p4 p5:List Tm)(x:sF)(hE:vP N l)(h0:0≤i)(h1:i<l.length)(hk:(zJ l i).kind=1)(hp:(zJ l i).pars≤p4.length)(hl4:p4.length≤65535)(h5:p5.length=x.recs.length)(hl5:p5.length≤65535)
  (ho4:uJ p4) (ho5:uJ p5) (hx:∀r∈x.recs,zDJ r):∀(r:List sE) (v:Nat) (e:Int) (t:Tm),x.recs.drop v=r->t.Ok->yJ (fun q=>nU q l parts i p2 p4 p5 x (v:Int) e t.k t.n t.sub)
   (fun y=>y.1.Ok∧(e≠8->y.2≠8)∧(y.2=0->e=0∧y.1=dF i p2 p4 p5 (zJ l i).pars.toNat r v t∧zI y.1=true)):=by
 have hf:=wA ((yZ (hE.2 i h0 h1)).2.1 hk)
 intro r
 induction r with
 |nil=>
  intro v e t hd ht
  refine yJ.succ ?_
  simp only[nU,vW]
  refine yJ.ite (fun h=>?_) fun _=>(zNr e t ht).bind fun r h=>yJ.ret ⟨h.1,h.2.1,fun h0=>?_⟩
  ·rw[yO hd]at h;cases h
  ·have k:=h.2.2 h0
   exact⟨k.1,k.2.1,by show zI r.1=true;rw[k.2.1];exact k.2.2⟩
 |cons z r ih=>
  intro v e t hd ht
  have hlt:=yT hd
  have hz:z∈x.recs:=by
   have:z∈x.recs.drop v:=by rw[hd];simp
   exact List.mem_of_mem_drop this
  refine yJ.succ ?_
  simp only[nU,vW]
  refine yJ.ite (fun _=>?_) fun h=>?_
  ·refine yJ.pure (yC hd) (yJ.ite (fun hzi=>?_) fun hzi=>?_)
   ·refine yJ.pure (yH h0 h1) (yJ.pure (J5 (by omega) (by omega) hp) (yJ.pure (yU (by simp<;>omega)) (yJ.pure (J5 (by omega) (by omega) (by omega)) (yJ.pure (yU (by simp<;>omega)) ?_))))
    refine yJ.bind (P:=fun y=>y=Tm.mk 7 i [Tm.mk 2 p2 []]) (zF.tot (r:=Tm.mk 7 i [Tm.mk 2 p2 []]) (zF.mk fun _=>rfl) rfl) fun r44 h44=>?_
    subst h44
    have hnv:(v:Int)<p5.length:=by omega
    refine yJ.pure (uR (l:=p5) (n:=(v:Int)) (by omega) hnv) ?_
    refine(S1 e (.mk 7 i [.mk 2 p2 []]) p4 _ z (vU p5 v) (zUq (wU _ _)) ho4 (by omega) ?_ ?_ (hx z hz) (ho5 _ (sH (by omega) hnv))).bind fun r48 h48=>?_
    ·exact(uJ.nil.app ((ho4.drop _).take _)).app ((ho5.drop _).take _)
    ·simp only[List.length_append,List.length_take,List.length_drop,List.length_nil];omega
    refine yJ.bind (P:=fun y=>y=Tm.mk 5 0 [t,r48.1]) ((iF t r48.1).tot rfl) fun r50 h50=>?_
    subst h50
    rw[yB v (by omega)]
    refine(ih (v+1) r48.2 (.mk 5 0 [t,r48.1]) (zV hd) (mS ht h48.1)).mono fun y hy=>⟨hy.1,fun he=>hy.2.1 (h48.2.1 he),fun he=>?_⟩
    have k:=hy.2.2 he
    have k4:=h48.2.2 k.1
    refine⟨k4.1,?_,k.2.2⟩
    rw[k.2.1,k4.2,dF,if_pos hzi]
    simp
   ·rw[yB v (by omega)]
    refine(ih (v+1) e t (zV hd) ht).mono fun y hy=>⟨hy.1,hy.2.1,fun he=>?_⟩
    have k:=hy.2.2 he
    refine⟨k.1,?_,k.2.2⟩
    rw[k.2.1,dF,if_neg (by simpa using hzi)]
  ·rw[yL hd]at h;cases h
def zFT(l:List yE)(d lev c:Int)(args own:List Tm)(x:Tm×Int):Prop:=
 x.1.Ok∧x.2≠8∧(x.2=0->(0≤lev∧lev≤7)∧mN l d 1=true∧mN l c 2=true∧(zJ l c).fam=d∧(args.length:Int)=(zJ l d).pars+1+(zJ l d).cons.length∧own.length=(uY l c).args.length∧args.all zI=true∧own.all zI=true∧x.1=zNq l d lev c args own∧zI x.1=true)
theorem zNp{N:ByteArray->Bool}(l:List yE)(i p2 c:Int)(p4 p5:List Tm)(hE:vP N l)(ho4:uJ p4)(ho5:uJ p5)(hl4:p4.length≤65535)(hl5:p5.length≤65535):yJ (fun q=>zDM q l (kM l l.length 0) i p2 c p4 p5) (zFT l i p2 c p4 p5):=by
 have bad:∀e:Int,e≠8->e≠0->zFT l i p2 c p4 p5 (.mk 0 0 [],e):=fun e h8 h0=>⟨wU 0 0,h8,fun h=>absurd h h0⟩
 simp only[zDM]
 refine yJ.bind (P:=fun b=>b=mN l i 1) ((zFS l i 1).tot rfl) fun b hb=>yJ.ite (fun hT=>?_) fun _=>yJ.ret (bad _ (by decide) (by decide))
 rw[hT]at hb
 have hi:=xM hb.symm
 refine yJ.ite (fun _=>yJ.ret (bad _ (by decide) (by decide))) fun hv0=>yJ.ite (fun _=>yJ.ret (bad _ (by decide) (by decide))) fun hv1=>?_
 have hv0':=of_decide_eq_false hv0
 have hv1':=of_decide_eq_false hv1
 refine yJ.bind (P:=fun b=>b=mN l c 2) ((zFS l c 2).tot rfl) fun b2 hb2=>yJ.ite (fun hT=>?_) fun _=>yJ.ret (bad _ (by decide) (by decide))
 rw[hT]at hb2
 have hc:=xM hb2.symm
 have hf:=wA ((yZ (hE.2 i hi.1 hi.2.1)).2.1 hi.2.2)
 obtain⟨A,y,hw,hy,hA,hAp,hA24,p0,p1,f0,f1,fk,fp,fi,fs,hap,q0,q1⟩:=sI hE hc.1 hc.2.1 hc.2.2
 refine yJ.pure (yH hc.1 hc.2.1) (yJ.ite (fun _=>yJ.ret (bad _ (by decide) (by decide))) fun hn=>?_)
 have hfam:(zJ l c).fam=i:=by simpa using hn
 refine yJ.pure (zQm l c hc.1 hc.2.1 hc.2.2) (yJ.pure (yH hi.1 hi.2.1) ?_)
 rw[hfam]at fp q1 fi fs
 rw[zW (x:=(zJ l i).pars+1) (by omega) (by omega),zW (x:=(zJ l i).pars+1+(zJ l i).cons.length) (by omega) (by omega),zW (x:=(zJ l i).pars+1+(zJ l c).place) (by omega) (by omega)]
 refine yJ.ite (fun _=>yJ.ret (bad _ (by decide) (by decide))) fun hn4=>yJ.ite (fun _=>yJ.ret (bad _ (by decide) (by decide))) fun hn5=>?_
 have hn4':(p4.length:Int)=(zJ l i).pars+1+(zJ l i).cons.length:=by simpa using hn4
 have hn5':(p5.length:Int)=(uY l c).args.length:=by simpa using hn5
 refine yJ.bind (P:=fun b=>b=p4.all zI) ((dD p4 (by omega) ho4).tot rfl) fun b4 hb4=>yJ.ite (fun hs4=>?_) fun _=>yJ.ret (bad _ (by decide) (by decide))
 refine yJ.bind (P:=fun b=>b=p5.all zI) ((dD p5 (by omega) ho5).tot rfl) fun b5 hb5=>yJ.ite (fun hs5=>?_) fun _=>yJ.ret (bad _ (by decide) (by decide))
 have h7:(zJ l i).pars+1+(zJ l c).place<p4.length:=by omega
 refine yJ.pure (uR (l:=p4) (by omega) h7) (yJ.bind (P:=fun z=>z=uI (vU p4 ((zJ l i).pars+1+(zJ l c).place)) p5) ((sQ _ p5 (by omega)).tot rfl) fun r26 h26=>?_)
 subst h26
 have hlen:(uY l c).recs.length=(uY l c).args.length:=by unfold uY;exact p8 l _ _ _
 refine(zJY l _ i p2 p4 p5 (uY l c) hE hi.1 hi.2.1 hi.2.2 (by omega) hl4 (by omega) hl5 ho4 ho5 (by unfold uY;exact zHL l _ _ _) _ 0 0 _ rfl (rM _ _ (ho4 _ (sH (by omega) h7)) ho5)).mono fun x hx=>⟨hx.1,hx.2.1 (by decide),fun h0=>?_⟩
 have k:=hx.2.2 h0
 exact⟨⟨by omega,by omega⟩,hb.symm,hb2.symm,hfam,hn4',by omega,by rw[←hb4];exact hs4,by rw[←hb5];exact hs5,k.2.1,k.2.2⟩
section
variable {P:Int->Int->Prop}
theorem zHM{k:Int}{l:List Tm}(h:∀a∈l,xN P a):∀a∈upI k l,xN P a:=fun a ha=>by
 obtain⟨x,hx,rfl⟩:=List.mem_map.1 ha
 exact J4 x 0 0 k (h x hx)
theorem zDN:∀m,∀a∈C5 m,xN P a
 |0,a,h=>nomatch h
 |m+1,a,h=>by
  rcases List.mem_cons.1 h with rfl|h
  ·exact dA (.inl rfl)
  ·exact zDN m a h
theorem zHN:∀m v,∀a∈vuT m v,xN P a
 |0,_,a,h=>nomatch h
 |m+1,v,a,h=>by
  rcases List.mem_cons.1 h with rfl|h
  ·exact dA (.inl rfl)
  ·exact zHN m (v+1) a h
theorem zDO{t:Tm}{own:Nat}{outer:List Tm}(h:xN P t)(ho:∀a∈outer,xN P a):xN P (zNv t own outer):=by
 refine zAX _ (fun a ha=>?_) t 0 h
 rcases List.mem_append.1 ha with ha|ha
 ·exact zHN _ _ a ha
 ·exact zHM ho a (List.mem_reverse.1 ha)
theorem o8{outer:List Tm}(ho:∀a∈outer,xN P a):∀(l:List Tm) (v:Nat),(∀a∈l,xN P a)->∀a∈G7 outer l v,xN P a
 | [],v,h,a,ha=>nomatch ha
 |t::l,v,h,a,ha=>by
  rcases List.mem_cons.1 ha with rfl|ha
  ·exact zDO (h t (by simp)) ho
  ·exact o8 ho l (v+1) (fun x hx=>h x (by simp[hx])) a ha
theorem zDP(h4:P 4 0):∀(l:List Tm) (t:Tm),(∀a∈l,xN P a)->xN P t->xN P (zBz l t)
 | [],t,_,ht=>ht
 |a::l,t,h,ht=>zAW (.inr h4) (h a (by simp)) (zDP h4 l t (fun x hx=>h x (by simp[hx])) ht)
theorem zNo{head:Tm}{args outer:List Tm}{r:sE}{a:Tm}(h4:P 4 0)(h5:P 5 0)(hh:xN P head)(hargs:∀a∈args,xN P a)(hout:∀a∈outer,xN P a)(hr:(∀t∈r.around,xN P t)∧∀t∈r.at',xN P t)(ha:xN P a):xN P (zUm head args outer r a):=by
 refine zDP h4 _ _ (o8 hout _ 0 hr.1) (zAW (.inr h5) ?_ ?_)
 ·refine kN _ _ h5 (kN _ _ h5 hh (zHM hargs)) fun x hx=>?_
  obtain⟨t,ht,rfl⟩:=List.mem_map.1 hx
  exact zDO (hr.2 t ht) hout
 ·exact kN _ _ h5 (J4 a 0 0 _ ha) (zDN _)
theorem zBx{Q:Tm->Prop}{l:List Tm}{n:Int}(h:∀a∈l,Q a)(hz:Q zT):Q (vU l n):=by
 unfold vU
 cases e:l[n.toNat]? with
 |none=>exact hz
 |some x=>exact h x (List.mem_of_getElem? e)
theorem S2{d lev:Int}{args own:List Tm}{pars:Nat}(h4:P 4 0)(h5:P 5 0)(h0:P 0 0)(h2:P 2 lev)(h7:P 7 d)(hargs:∀a∈args,xN P a)(hown:∀a∈own,xN P a) :
  ∀(rs:List sE) (v:Nat) (t:Tm),(∀r∈rs,(∀t∈r.around,xN P t)∧∀t∈r.at',xN P t)->xN P t->xN P (dF d lev args own pars rs v t)
 | [],v,t,_,ht=>ht
 |r::rs,v,t,hr,ht=>by
  rw[dF]
  refine S2 h4 h5 h0 h2 h7 hargs hown rs (v+1) _ (fun x hx=>hr x (by simp[hx])) ?_
  split
  ·refine zAW (.inr h5) ht (zNo h4 h5 (zUv (.inr h7) (dA (.inr h2))) hargs ?_ (hr r (by simp)) (zBx hown (dA (.inr h0))))
   intro a ha
   rcases List.mem_append.1 ha with ha|ha
   ·exact hargs a (List.mem_of_mem_take ha)
   ·exact hown a (List.mem_of_mem_take ha)
  ·exact ht
theorem zJZ{l:List yE}{d lev c:Int}{args own:List Tm}(h4:P 4 0)(h5:P 5 0)(h0:P 0 0)(h2:P 2 lev)(h7:P 7 d)(hargs:∀a∈args,xN P a)(hown:∀a∈own,xN P a)(hr:∀r∈(uY l c).recs,(∀t∈r.around,xN P t)∧∀t∈r.at',xN P t):xN P (zNq l d lev c args own):=
 S2 h4 h5 h0 h2 h7 hargs hown _ 0 _ hr (kN _ _ h5 (zBx hargs (dA (.inr h0))) hown)
theorem n9{t:Tm}{l:List Tm}{y:Tm}(h:yR t=(l,y,0)):xC t=true∧tQ l.length t=some (l,y):=by
 have hw:=tJ h
 have hg:=(zM hw.1).2.2
 unfold yR xR at h
 rw[if_pos hw.1,if_neg (by omega),if_neg (by omega)]at h
 rw[show (((min (wK t) 25:Nat):Int)).toNat=l.length by omega]at h
 cases e:tQ l.length t with
 |none=>rw[e]at h;simp[fH]at h
 |some r=>
  rw[e]at h
  simp only[fH,List.nil_append,Prod.mk.injEq,and_true]at h
  exact⟨hg,by rw[←h.1,←h.2]⟩
theorem zNn{l:List yE}{t:Tm}{of b:Int}(h:xN P t):(∀x∈(zDA l t of b).around,xN P x)∧∀x∈(zDA l t of b).at',xN P x:=by
 unfold zDA
 split
 ·rename_i a
  have hw:=n9 (t:=t) (l:=(yR t).1) (y:=(yR t).2.1) (by rw[←a.1])
  have hs:=R9 _ _ _ hw.1 hw.2 h
  have hy:=(zM (tJ (t:=t) (l:=(yR t).1) (y:=(yR t).2.1) (by rw[←a.1])).2.2.2.2.1).2.2
  exact⟨hs.2,fun x hx=>(dB _ hy hs.1).2 x (List.mem_of_mem_drop hx)⟩
 ·exact⟨fun x hx=>(nomatch hx),fun x hx=>(nomatch hx)⟩
theorem m0{l:List yE}{of:Int}:∀(r:List Tm) (b:Int),(∀t∈r,xN P t)->∀x∈G6 l of r b,(∀t∈x.around,xN P t)∧∀t∈x.at',xN P t
 | [],b,h,x,hx=>nomatch hx
 |a::r,b,h,x,hx=>by
  rcases List.mem_cons.1 hx with hx|hx
  ·rw[hx];exact zNn (h a (by simp))
  ·exact m0 r (b+1) (fun t ht=>h t (by simp[ht])) x hx
theorem zFU{l:List yE}{i:Int}(hw:(yR (zJ l i).type).2.2=0)(h:xN P (zJ l i).type):∀r∈(uY l i).recs,(∀t∈r.around,xN P t)∧∀t∈r.at',xN P t:=by
 have hs:=n9 (t:=(zJ l i).type) (l:=(yR (zJ l i).type).1) (y:=(yR (zJ l i).type).2.1) (by rw[←hw])
 have ha:=R9 _ _ _ hs.1 hs.2 h
 unfold uY
 exact m0 _ _ fun t ht=>ha.2 t (List.mem_of_mem_drop ht)
end
def zBw(b:Nat)(M:wV)(a:Tm):Option Int:=
 if a.k != 6 then
 some 0
 else
 if decide (a.n≥(M.l.length:Int))then
 some 0
 else
 zP M.l a.n>>=fun x3=>
 some x3.kind
theorem zUj:Qf 163 f163:=⟨func163,rfl⟩
theorem zNm{b M a r}(h:zBw b M a=some r):Ct 163 [mB M 1,mR M] [.mp 0 0,yV a] (ai r) [mB M 1,mR M] 0:=⟨by
 unfold zBw at h
 obtain⟨h1,h⟩|⟨h1,h⟩:=zK h
 obtain rfl:=sj h
 exact tF zUj 0 [0,1] (pW M<|oB 1 h1 o0)
 have k:=oB 1 h1 o0
 obtain⟨h2,h⟩|⟨h2,h⟩:=zK h
 obtain rfl:=sj h
 exact tF zUj 0 [0,1] (pW M<|oB 3 h2 k)
 obtain⟨x3,h4,h⟩:=zB h
 obtain rfl:=sj h
 exact tF zUj 1 [0,1] (pW M<|oA 2 (xK (o:=.no) h4)<|oB 3 h2 k),⟨(lz rfl),⟨tv,tv,⟨tv,dT _⟩,tv⟩,tv⟩,(bA (lz rfl) zA),tv,(cE (lz rfl) zA)⟩
def bY(d:Nat)(a c b:Int):Option (Int×Int):=
 some ((yN (a+b)),(yN (a+b)))
theorem zNl{d a c b r}(h:bY d a c b=some r):Ct 247 [.cells [ai a,ai c]] [.mp 0 0,ai b] (ai r.1) [.cells [ai r.2,ai c]] 0:=⟨by
 unfold bY at h
 cases h
 exact tF ⟨func247,rfl⟩ 1 [0] (o0),⟨(lz rfl),tv,tv⟩,(zD ⟨tv,tv,tv⟩ zA),tv,(zD ⟨tv,tv,tv⟩ zA)⟩
def bZ(d:Nat)(c a b:Int):Option (Int×Int):=
 some ((yN (a+b)),(yN (a+b)))
theorem zNk{d c a b r}(h:bZ d c a b=some r):Ct 247 [.cells [ai c,ai a]] [.mp 0 1,ai b] (ai r.1) [.cells [ai c,ai r.2]] 0:=⟨by
 unfold bZ at h
 cases h
 exact tF ⟨func247,rfl⟩ 1 [0] (o0),⟨(lz rfl),tv,tv⟩,(zD ⟨tv,tv,tv⟩ zA),tv,(zD ⟨tv,tv,tv⟩ zA)⟩
def J6(c:Nat)(a b:Int):Option Int:=
 some a
theorem zQl{c a b r}(h:J6 c a b=some r):Ct 66 [.cells [ai a,ai b]] [.mp 0 0] (ai r) [.cells [ai a,ai b]] 0:=⟨by
 unfold J6 at h
 obtain rfl:=sj h
 exact tF ⟨func66,rfl⟩ 1 [0] (o0),⟨(lz rfl),tv⟩,(zD ⟨tv,tv,tv⟩ zA),tv,(zD ⟨tv,tv,tv⟩ zA)⟩
def zQk(d:Nat)(b a c:Int):Option (Int×Int×Int):=
 if decide (c<0)then
 some (8,b,a)
 else
 J6 d b a>>=fun r2=>
 if decide (c>r2)then
 some (8,b,a)
 else
 bY d b a (yN (0-c))>>=fun r5=>
 bZ d r5.2 a c>>=fun r7=>
 some (0,r5.2,r7.2)
theorem zUi:Qf 212 f212:=⟨func212,rfl⟩
theorem yBo{d b a c r}(h:zQk d b a c=some r):Ct 212 [.cells [ai b,ai a]] [.mp 0 0,ai c] (ai r.1) [.cells [ai r.2.1,ai r.2.2]] 0:=⟨by
 unfold zQk at h
 obtain⟨h1,h⟩|⟨h1,h⟩:=zK h
 cases h
 exact tF zUi 0 [0] (oB 1 h1 o0)
 obtain⟨r2,h3,h⟩:=zB h
 have k:=oC 0 [0] (zQl h3)<|oB 1 h1 o0
 obtain⟨h4,h⟩|⟨h4,h⟩:=zK h
 cases h
 exact tF zUi 0 [0] (oB 0 h4 k)
 obtain⟨r5,h6,h⟩:=zB h
 obtain⟨r7,h8,h⟩:=zB h
 cases h
 exact tF zUi 0 [0] (oC 0 [0] (zNk h8)<|oC 1 [0] (zNl h6)<|oB 0 h4 k),⟨(lz rfl),tv,tv⟩,(zD ⟨tv,tv,tv⟩ zA),tv,(zD ⟨tv,tv,tv⟩ zA)⟩
def aA(c:Nat)(a b:Int):Option (Int×Int×Int):=
 zQk c a b 1>>=fun r1=>
 some (r1.1,r1.2.1,r1.2.2)
theorem zFV{c a b r}(h:aA c a b=some r):Ct 166 [.cells [ai a,ai b]] [.mp 0 0] (ai r.1) [.cells [ai r.2.1,ai r.2.2]] 0:=⟨by
 unfold aA at h
 obtain⟨r1,h2,h⟩:=zB h
 cases h
 exact tF ⟨func166,rfl⟩ 0 [0] (oC 0 [0] (yBo h2) o0),⟨(lz rfl),tv⟩,(zD ⟨tv,tv,tv⟩ zA),tv,(zD ⟨tv,tv,tv⟩ zA)⟩
def C6(b:Nat)(a:Tm):Option (Tm×Int):=
 fV b a>>=fun r1=>
 if r1 then
 some (a,0)
 else
 some ((Tm.mk 0 0 []),2)
theorem zYd:Qf 167 f167:=⟨func167,rfl⟩
theorem zFW{b a r}(h:C6 b a=some r):Ct 167 [] [yV a] (.tup [yV r.1,ai r.2]) [] 0:=⟨by
 unfold C6 at h
 obtain⟨r1,h2,h⟩:=zB h
 obtain⟨h3,h⟩|⟨h3,h⟩:=zK h
 cases h
 exact tF zYd 3 [] (oD (dT a.sub)<|oK 1 [] h3 (qW h2) o0)
 cases h
 exact tF zYd 2 [] (oD (dT ([]:zR))<|oK 1 [] h3 (qW h2) o0),⟨⟨tv,tv,⟨tv,dT _⟩,tv⟩,tv⟩,zA,⟨⟨tv,tv,dT _,tv⟩,tv,tv⟩,zA⟩
def zFX(a:Nat)(M:wV)(b:Tm):Option (Int×zR×Bool):=
 Q5 a b>>=fun r1=>
 zBw a M r1.1>>=fun r3=>
 if r3 != 2 then
 some (0,[],false)
 else
 zP M.own r1.1.n>>=fun x6=>
 if (r1.2.length:Int) != x6 then
 some (0,[],false)
 else
 some (r1.1.n,r1.2,true)
theorem zUh:Qf 209 f209:=⟨func209,rfl⟩
theorem zUg{a M b r}(h:zFX a M b=some r):Ct 209 [mB M 1,mR M] [.mp 0 0,yV b] (.tup [ai r.1,.sl (zG zC r.2.1) r.2.1.length .no,ab r.2.2]) [mB M 1,mR M] 0:=⟨by
 unfold zFX at h
 obtain⟨r1,h2,h⟩:=zB h
 obtain⟨r3,h4,h⟩:=zB h
 have k:=oC 4 [0,1] (zNm h4)<|oC 1 [] (zFd h2) o0
 obtain⟨h5,h⟩|⟨h5,h⟩:=zK h
 cases h
 exact tF zUh 0 [0,1] (oD (dT ([]:zR))<|pW M<|oB 0 h5 k)
 obtain⟨x6,h7,h⟩:=zB h
 have k:=oA 3 (uH (o:=.no) h7)<|oB 0 h5 k
 obtain⟨h8,h⟩|⟨h8,h⟩:=zK h
 cases h
 exact tF zUh 0 [0,1] (oD (dT ([]:zR))<|pW M<|oB 1 h8 k)
 cases h
 exact tF zUh 1 [0,1] (oD (dT r1.2)<|pW M<|oB 1 h8 k),⟨(lz rfl),⟨tv,tv,⟨tv,dT _⟩,tv⟩,tv⟩,(bA (lz rfl) zA),⟨tv,dT _,tv,tv⟩,(cE (lz rfl) zA)⟩
def zYc{ρ:Type}(f:Int->Int->Nat->Option ρ)(er:ρ->Int)(R:Int->Int->ρ)(k:Int):Prop:=
 (∀L U,k≤L->0≤U->L+U≤1099511627776->zF (f L U) (R (L-k) (U+k)))∧(∀L U,0≤L->L<k->0≤U->L+U≤1099511627776->∃r,zF (f L U) r∧er r=8)
def zUf{ρ:Type}(f:Int->Int->Nat->Option ρ)(er:ρ->Int)(l:Int):Prop:=∀U,0≤U->l+U≤1099511627776->∃r,zF (f l U) r∧er r=8
def Ou{ρ:Type}(f:Int->Int->Nat->Option ρ)(er:ρ->Int)(Q:(Int->Int->ρ)->Int->Prop)(S:Prop)(l:Int):Prop:=
 (∃R k,0≤k∧k≤l∧Q R k∧zYc f er R k)∨(zUf f er l∧S)
section
variable {ρ σ τ:Type} {er:ρ->Int} {er':σ->Int} {Q:(Int->Int->ρ)->Int->Prop} {Q':(Int->Int->σ)->Int->Prop} {S S':Prop} {l:Int}
theorem Ou.imp{f g:Int->Int->Nat->Option ρ}(h:Ou f er Q S l)(k:∀L U r,zF (f L U) r->zF (g L U) r):Ou g er Q S l:=by
 rcases h with⟨R,n,h0,h1,h2,h3,h4⟩|⟨h,s⟩
 ·exact .inl ⟨R,n,h0,h1,h2,fun L U a b c=>k _ _ _ (h3 L U a b c),fun L U a b c d=>by obtain⟨r,x,y⟩:=h4 L U a b c d;exact⟨r,k _ _ _ x,y⟩⟩
 ·exact .inr ⟨fun U a b=>by obtain⟨r,x,y⟩:=h U a b;exact⟨r,k _ _ _ x,y⟩,s⟩
theorem Ou.mono{f:Int->Int->Nat->Option ρ}{Q2:(Int->Int->ρ)->Int->Prop}(h:Ou f er Q S l)(k:∀R n,0≤n->n≤l->Q R n->Q2 R n)(hs:S->S'):Ou f er Q2 S' l:=by
 rcases h with⟨R,n,h0,h1,h2,h3⟩|⟨h,s⟩
 ·exact .inl ⟨R,n,h0,h1,k R n h0 h1 h2,h3⟩
 ·exact .inr ⟨h,hs s⟩
theorem Ou.succ{f:Int->Int->Nat->Option ρ}(h:Ou (fun L U q=>f L U (q+1)) er Q S l):Ou f er Q S l:=h.imp fun _ _ _ h=>h.succ
theorem Ou.pure{x:Option τ}{a:τ}{c:Int->Int->Nat->τ->Option ρ}(h:x=some a)(g:Ou (fun L U q=>c L U q a) er Q S l):Ou (fun L U q=>x>>=c L U q) er Q S l:=g.imp fun _ _ _ k=>zF.pure h k
theorem Ou.evt{x:Nat->Option τ}{a:τ}{c:Int->Int->Nat->τ->Option ρ}(h:zF x a)(g:Ou (fun L U q=>c L U q a) er Q S l):Ou (fun L U q=>x q>>=c L U q) er Q S l:=g.imp fun _ _ _ k=>zF.bind h k
theorem Ou.ite{b:Bool}{f g:Int->Int->Nat->Option ρ}(h:b=true->Ou f er Q S l)(k:b=false->Ou g er Q S l):Ou (fun L U q=>if b=true then f L U q else g L U q) er Q S l:=by
 cases b with
 |true=>exact(h rfl).imp fun _ _ _ x=>zF.ifT rfl x
 |false=>exact(k rfl).imp fun _ _ _ x=>zF.ifF rfl x
theorem Ou.ifT{b:Bool}{f g:Int->Int->Nat->Option ρ}(h:b=true)(k:Ou f er Q S l):Ou (fun L U q=>if b=true then f L U q else g L U q) er Q S l:=Ou.ite (fun _=>k) fun h'=>by rw[h]at h';cases h'
theorem Ou.ifF{b:Bool}{f g:Int->Int->Nat->Option ρ}(h:b=false)(k:Ou g er Q S l):Ou (fun L U q=>if b=true then f L U q else g L U q) er Q S l:=Ou.ite (fun h'=>by rw[h]at h';cases h') fun _=>k
theorem Ou.ret{R:Int->Int->ρ}(h:0≤l)(k:Q R 0):Ou (fun L U _=>some (R L U)) er Q S l:=
 .inl ⟨R,0,by omega,h,k,fun L U _ _ _=>by rw[show L-0=L by omega,show U+0=U by omega];exact zF.ret,fun L U _ _=>by omega⟩
theorem Ou.bind{f:Int->Int->Nat->Option ρ}{c:Nat->ρ->Option σ}(h:Ou f er Q S l)(hs:S->S')(he:∀r,er r=8->∃r',zF (fun q=>c q r) r'∧er' r'=8)
  (hg:∀R k,0≤k->k≤l->Q R k->Ou (fun L U q=>c q (R L U)) er' (fun R' n=>Q' R' (k+n)) S' (l-k)):Ou (fun L U q=>f L U q>>=c q) er' Q' S' l:=by
 rcases h with⟨R,k,h0,h1,h2,h3,h4⟩|⟨h,s⟩
 ·rcases hg R k h0 h1 h2 with⟨R',n,g0,g1,g2,g3,g4⟩|⟨g,s⟩
  ·refine .inl ⟨R',k+n,by omega,by omega,g2,fun L U a b c=>?_,fun L U a b c d=>?_⟩
   ·have:=g3 (L-k) (U+k) (by omega) (by omega) (by omega)
    rw[show L-(k+n)=L-k-n by omega,show U+(k+n)=U+k+n by omega]
    exact(h3 L U (by omega) b c).bind this
   ·by_cases e:L<k
    ·obtain⟨r,x,y⟩:=h4 L U a e c d
     obtain⟨r',x',y'⟩:=he r y
     exact⟨r',x.bind x',y'⟩
    ·obtain⟨r',x',y'⟩:=g4 (L-k) (U+k) (by omega) (by omega) (by omega) (by omega)
     exact⟨r',(h3 L U (by omega) c d).bind x',y'⟩
  ·refine .inr ⟨fun U a b=>?_,s⟩
   obtain⟨r',x',y'⟩:=g (U+k) (by omega) (by omega)
   exact⟨r',(h3 l U h1 a b).bind x',y'⟩
 ·refine .inr ⟨fun U a b=>?_,hs s⟩
  obtain⟨r,x,y⟩:=h U a b
  obtain⟨r',x',y'⟩:=he r y
  exact⟨r',x.bind x',y'⟩
end
theorem S3(L U:Int)(h0:0≤L)(h1:0≤U)(h2:L+U≤1099511627776):zF (fun q=>aA q L U) (if 1≤L then(0,L-1,U+1)else(8,L,U)):=by
 simp only[aA,zQk,J6,bY,bZ]
 refine zF.bind (a:=if 1≤L then(0,L-1,U+1)else(8,L,U)) ?_ zF.ret
 refine zF.ifF (by decide) (zF.pure rfl ?_)
 by_cases h:1≤L
 ·rw[if_pos h]
  refine zF.ifF (decide_eq_false (by omega)) (zF.pure rfl (zF.pure rfl (zF.ret.eq ?_)))
  have e:yN (0-1) = -1:=by decide
  rw[e,zW (x:=U+1) (by omega) (by omega)]
  show ((0:Int),yN (L + -1),U+1)=_
  rw[zW (by omega) (by omega)];rfl
 ·rw[if_neg h]
  exact zF.ifT (decide_eq_true (by omega)) zF.ret
theorem zQj(l:Int)(h:0≤l):Ou (fun L U q=>aA q L U) (fun r=>r.1) (fun R k=>k=1∧R=fun L U=>(0,L,U)) (l<1) l:=by
 by_cases h1:1≤l
 ·refine .inl ⟨fun L U=>(0,L,U),1,by omega,h1,⟨rfl,rfl⟩,fun L U a b c=>(S3 L U (by omega) b c).eq (if_pos a),fun L U a b c d=>⟨_,S3 L U a c d,?_⟩⟩
  rw[if_neg (by omega)]
 ·refine .inr ⟨fun U a b=>⟨_,S3 l U h a b,?_⟩,by omega⟩
  rw[if_neg h1]
def vY(l:List yE)(t:Tm):Int:=if t.k=6 then(if t.n<l.length then(zJ l t.n).kind else 0)else 0
theorem iJ(l:List yE)(t:Tm)(h:0≤t.n):zF (fun q=>zBw q (uU l) t) (vY l t):=by
 simp only[zBw,uU]
 unfold vY
 by_cases k:t.k=6
 ·rw[if_pos k]
  refine zF.ifF (by simp[k]) ?_
  by_cases n:t.n<l.length
  ·rw[if_pos n];exact zF.ifF (decide_eq_false (by omega)) (zF.pure (yH h n) zF.ret)
  ·rw[if_neg n];exact zF.ifT (decide_eq_true (by omega)) zF.ret
 ·rw[if_neg k];exact zF.ifT (by simp[k]) zF.ret
theorem vN{l:List yE}{t:Tm}{k:Int}(h:vY l t=k)(hk:k≠0):t.k=6∧t.n<l.length∧(zJ l t.n).kind=k:=by
 unfold vY at h
 split at h
 ·rename_i a
  split at h
  ·rename_i b;exact⟨a,b,h⟩
  ·exact absurd h.symm hk
 ·exact absurd h.symm hk
def zUe(t:Tm):Tm×Int:=if zI t=true then(t,0)else(zT,2)
theorem zFY(t:Tm)(ho:t.Ok):zF (fun q=>C6 q t) (zUe t):=by
 simp only[C6]
 refine(xS t ho).bind ?_
 unfold zUe
 by_cases h:zI t=true
 ·rw[if_pos h,if_pos h];exact zF.ret
 ·rw[if_neg h,if_neg h];exact zF.ret
theorem iK{t:Tm}(h:xC t=true):0≤t.n:=by
 obtain⟨k,n,l⟩:=t
 exact(kA (wW h).1).1
theorem zQi{l:List yE}{i:Int}(h0:0≤i)(h1:i<l.length):zP (uU l).own i=some (rX (zJ l i)):=by
 have h:=yH (l:=l) h0 h1
 unfold zP at h ⊢
 rw[if_pos h0]at h ⊢
 show (l.map rX)[i.toNat]? = _
 rw[List.getElem?_map,h];rfl
theorem zNj{l:List yE}{i:Int}(h0:0≤i)(h1:i<l.length):zP (uU l).args i=some (wJ (zJ l i)):=by
 have h:=yH (l:=l) h0 h1
 unfold zP at h ⊢
 rw[if_pos h0]at h ⊢
 show (l.map wJ)[i.toNat]? = _
 rw[List.getElem?_map,h];rfl
def vZ(l:List yE)(t:Tm):Prop:=vY l (zX t)=2∧(yX t).length=wK (zJ l (zX t).n).type
instance (l:List yE) (t:Tm):Decidable (vZ l t):=inferInstanceAs (Decidable (_∧_))
def zBv(l:List yE)(t:Tm):Int×List Tm×Bool:=if vZ l t then((zX t).n,yX t,true)else(0,[],false)
theorem zBu(l:List yE)(t:Tm)(hs:zI t=true):zF (fun q=>zFX q (uU l) t) (zBv l t):=by
 simp only[zFX]
 have hn:=iK (zM (uP hs)).2.2
 refine(lI t hs).bind ((iJ l _ hn).bind ?_)
 by_cases h:vY l (zX t)=2
 ·have hk:=vN h (by decide)
  refine zF.ifF (by simp[h]) (zF.pure (zQi hn hk.2.1) ?_)
  have e:rX (zJ l (zX t).n)=wK (zJ l (zX t).n).type:=by unfold rX;rw[if_pos hk.2.2]
  by_cases h2:(yX t).length=wK (zJ l (zX t).n).type
  ·have c:zBv l t=((zX t).n,yX t,true):=if_pos ⟨h,h2⟩
   rw[c]
   exact zF.ifF (by rw[e];simp[h2]) zF.ret
  ·have c:zBv l t=(0,[],false):=if_neg (fun h'=>h2 h'.2)
   rw[c]
   exact zF.ifT (by rw[e];simp;omega) zF.ret
 ·have c:zBv l t=(0,[],false):=if_neg (fun h'=>h h'.1)
  rw[c]
  exact zF.ifT (by simp[h]) zF.ret
theorem tZ{l:List yE}{t:Tm}(hs:zI t=true)(h:vZ l t):0≤(zX t).n∧(zX t).n<l.length∧(zJ l (zX t).n).kind=2∧(yX t).length=wK (zJ l (zX t).n).type:=by
 have hk:=vN h.1 (by decide)
 exact⟨iK (zM (uP hs)).2.2,hk.2.1,hk.2.2,h.2⟩
mutual
def e64:Nat->wV->Tm->Int->Int->Option (Tm×Int×Int×Int)
 |0,_,_,_,_=>none
 |d+1,M,a,b,c=>
 C7 d M b c a.k a.n a.sub
def C7:Nat->wV->Int->Int->Int->Int->zR->Option (Tm×Int×Int×Int)
 |0,_,_,_,_,_,_=>none
 |d+1,M,p,q,g,m,e=>
 zNi d M (Tm.mk g m e) p q>>=fun r1=>
 if r1.2.1 then
 if r1.2.2.1 != 0 then
 some ((Tm.mk 0 0 []),r1.2.2.1,r1.2.2.2.1,r1.2.2.2.2)
 else
 C7 d M r1.2.2.2.1 r1.2.2.2.2 r1.1.k r1.1.n r1.1.sub
 else
 if r1.2.2.1 != 0 then
 some ((Tm.mk 0 0 []),r1.2.2.1,r1.2.2.2.1,r1.2.2.2.2)
 else
 some ((Tm.mk g m e),0,r1.2.2.2.1,r1.2.2.2.2)
def zNi:Nat->wV->Tm->Int->Int->Option (Tm×Bool×Int×Int×Int)
 |0,_,_,_,_=>none
 |d+1,M,a,b,c=>
 Q5 d a>>=fun r1=>
 if r1.1.k==4 then
 if decide ((r1.2.length:Int)>0)then
 zP r1.1.sub 1>>=fun x5=>
 zP r1.2 0>>=fun x7=>
 zMm d x5 x7>>=fun r9=>
 nE r1.2 1 (r1.2.length:Int)>>=fun x11=>
 e21 d r9.1 x11>>=fun r13=>
 if r9.2 != 0 then
 some (a,false,r9.2,b,c)
 else
 aA d b c>>=fun r16=>
 if r16.1 != 0 then
 some (a,false,r16.1,r16.2.1,r16.2.2)
 else
 C6 d r13>>=fun r19=>
 some (r19.1,true,r19.2,r16.2.1,r16.2.2)
 else
 zBw d M r1.1>>=fun r21=>
 if r21==3 then
 zP M.l r1.1.n>>=fun x24=>
 e21 d x24.body r1.2>>=fun r26=>
 aA d b c>>=fun r28=>
 if r28.1 != 0 then
 some (a,false,r28.1,r28.2.1,r28.2.2)
 else
 C6 d r26>>=fun r31=>
 some (r31.1,true,r31.2,r28.2.1,r28.2.2)
 else
 zBw d M r1.1>>=fun r33=>
 if r33==4 then
 zKz d M r1.1 r1.2 b c>>=fun r36=>
 if r36.2.1 then
 if r36.2.2.1 != 0 then
 some (a,false,r36.2.2.1,r36.2.2.2.1,r36.2.2.2.2)
 else
 aA d r36.2.2.2.1 r36.2.2.2.2>>=fun r40=>
 if r40.1 != 0 then
 some (a,false,r40.1,r40.2.1,r40.2.2)
 else
 C6 d r36.1>>=fun r43=>
 some (r43.1,true,r43.2,r40.2.1,r40.2.2)
 else
 if r36.2.2.1 != 0 then
 some (a,false,r36.2.2.1,r36.2.2.2.1,r36.2.2.2.2)
 else
 some (a,false,r36.2.2.1,r36.2.2.2.1,r36.2.2.2.2)
 else
 if r1.1.k==7 then
 zKy d M r1.1 r1.2 b c>>=fun r47=>
 if r47.2.1 then
 if r47.2.2.1 != 0 then
 some (a,false,r47.2.2.1,r47.2.2.2.1,r47.2.2.2.2)
 else
 aA d r47.2.2.2.1 r47.2.2.2.2>>=fun r51=>
 if r51.1 != 0 then
 some (a,false,r51.1,r51.2.1,r51.2.2)
 else
 C6 d r47.1>>=fun r54=>
 some (r54.1,true,r54.2,r51.2.1,r51.2.2)
 else
 if r47.2.2.1 != 0 then
 some (a,false,r47.2.2.1,r47.2.2.2.1,r47.2.2.2.2)
 else
 some (a,false,r47.2.2.1,r47.2.2.2.1,r47.2.2.2.2)
 else
 some (a,false,0,b,c)
 else
 zBw d M r1.1>>=fun r57=>
 if r57==3 then
 zP M.l r1.1.n>>=fun x60=>
 e21 d x60.body r1.2>>=fun r62=>
 aA d b c>>=fun r64=>
 if r64.1 != 0 then
 some (a,false,r64.1,r64.2.1,r64.2.2)
 else
 C6 d r62>>=fun r67=>
 some (r67.1,true,r67.2,r64.2.1,r64.2.2)
 else
 zBw d M r1.1>>=fun r69=>
 if r69==4 then
 zKz d M r1.1 r1.2 b c>>=fun r72=>
 if r72.2.1 then
 if r72.2.2.1 != 0 then
 some (a,false,r72.2.2.1,r72.2.2.2.1,r72.2.2.2.2)
 else
 aA d r72.2.2.2.1 r72.2.2.2.2>>=fun r76=>
 if r76.1 != 0 then
 some (a,false,r76.1,r76.2.1,r76.2.2)
 else
 C6 d r72.1>>=fun r79=>
 some (r79.1,true,r79.2,r76.2.1,r76.2.2)
 else
 if r72.2.2.1 != 0 then
 some (a,false,r72.2.2.1,r72.2.2.2.1,r72.2.2.2.2)
 else
 some (a,false,r72.2.2.1,r72.2.2.2.1,r72.2.2.2.2)
 else
 if r1.1.k==7 then
 zKy d M r1.1 r1.2 b c>>=fun r83=>
 if r83.2.1 then
 if r83.2.2.1 != 0 then
 some (a,false,r83.2.2.1,r83.2.2.2.1,r83.2.2.2.2)
 else
 aA d r83.2.2.2.1 r83.2.2.2.2>>=fun r87=>
 if r87.1 != 0 then
 some (a,false,r87.1,r87.2.1,r87.2.2)
 else
 C6 d r83.1>>=fun r90=>
 some (r90.1,true,r90.2,r87.2.1,r87.2.2)
 else
 if r83.2.2.1 != 0 then
 some (a,false,r83.2.2.1,r83.2.2.2.1,r83.2.2.2.2)
 else
 some (a,false,r83.2.2.1,r83.2.2.2.1,r83.2.2.2.2)
 else
 some (a,false,0,b,c)
def zKz:Nat->wV->Tm->zR->Int->Int->Option (Tm×Bool×Int×Int×Int)
 |0,_,_,_,_,_=>none
 |d+1,M,a,f,b,c=>
 zP M.l a.n>>=fun x1=>
 if decide ((f.length:Int)≤x1.pars)then
 some ((Tm.mk 0 0 []),false,0,b,c)
 else
 zP f x1.pars>>=fun x4=>
 e64 d M x4 b c>>=fun r6=>
 if r6.2.1 != 0 then
 some ((Tm.mk 0 0 []),false,r6.2.1,r6.2.2.1,r6.2.2.2)
 else
 zFX d M r6.1>>=fun r9=>
 if r9.2.2 then
 zP M.l r9.1>>=fun x12=>
 if x12.fam != x1.fam then
 some ((Tm.mk 0 0 []),false,0,r6.2.2.1,r6.2.2.2)
 else
 nE r9.2.1 x12.pars (r9.2.1.length:Int)>>=fun x15=>
 zDL d M.rl M.parts a.n x15>>=fun r17=>
 nE f (yN (x1.pars+1)) (f.length:Int)>>=fun x19=>
 e21 d r17.1 x19>>=fun r21=>
 some (r21,true,r17.2,r6.2.2.1,r6.2.2.2)
 else
 some ((Tm.mk 0 0 []),false,0,r6.2.2.1,r6.2.2.2)
def zKy:Nat->wV->Tm->zR->Int->Int->Option (Tm×Bool×Int×Int×Int)
 |0,_,_,_,_,_=>none
 |d+1,M,a,f,b,c=>
 if decide (a.n≥(M.l.length:Int))then
 some ((Tm.mk 0 0 []),false,0,b,c)
 else
 zP M.l a.n>>=fun x2=>
 if x2.kind != 1 then
 some ((Tm.mk 0 0 []),false,0,b,c)
 else
 zP M.args a.n>>=fun x5=>
 if decide ((f.length:Int)<x5)then
 some ((Tm.mk 0 0 []),false,0,b,c)
 else
 zP f (yN (x5-1))>>=fun x8=>
 e64 d M x8 b c>>=fun r10=>
 if r10.2.1 != 0 then
 some ((Tm.mk 0 0 []),false,r10.2.1,r10.2.2.1,r10.2.2.2)
 else
 zFX d M r10.1>>=fun r13=>
 if r13.2.2 then
 zP M.l r13.1>>=fun x16=>
 if x16.fam != a.n then
 some ((Tm.mk 0 0 []),false,0,r10.2.2.1,r10.2.2.2)
 else
 zP a.sub 0>>=fun x19=>
 nE f 0 (yN ((yN (x2.pars+1))+(x2.cons.length:Int)))>>=fun x21=>
 nE r13.2.1 x2.pars (r13.2.1.length:Int)>>=fun x23=>
 zDM d M.rl M.parts a.n x19.n r13.1 x21 x23>>=fun r25=>
 nE f x5 (f.length:Int)>>=fun x27=>
 e21 d r25.1 x27>>=fun r29=>
 some (r29,true,r25.2,r10.2.2.1,r10.2.2.2)
 else
 some ((Tm.mk 0 0 []),false,0,r10.2.2.1,r10.2.2.2)
end
abbrev K64 (M:wV) (a:Tm) (b c:Int) (r:Tm×Int×Int×Int) (C:Cf):Prop:=C 64 [mB M 1,mR M,.cells [ai b,ai c]] [.mp 0 0,yV a,.mp 2 0] (.tup [yV r.1,ai r.2.1]) [mB M 1,mR M,.cells [ai r.2.2.1,ai r.2.2.2]] 0
abbrev zUd (M:wV) (a:Tm) (b c:Int) (r:Tm×Bool×Int×Int×Int) (C:Cf):Prop:=C 105 [mB M 1,mR M,.cells [ai b,ai c]] [.mp 0 0,yV a,.mp 2 0] (.tup [yV r.1,ab r.2.1,ai r.2.2.1]) [mB M 1,mR M,.cells [ai r.2.2.2.1,ai r.2.2.2.2]] 0
abbrev zUc (M:wV) (a:Tm) (f:zR) (b c:Int) (r:Tm×Bool×Int×Int×Int) (C:Cf):Prop:=C 164 [mB M 1,mR M,.cells [ai b,ai c]] [.mp 0 0,yV a,zH zC f .no,.mp 2 0] (.tup [yV r.1,ab r.2.1,ai r.2.2.1]) [mB M 1,mR M,.cells [ai r.2.2.2.1,ai r.2.2.2.2]] 0
abbrev zUb (M:wV) (a:Tm) (f:zR) (b c:Int) (r:Tm×Bool×Int×Int×Int) (C:Cf):Prop:=C 165 [mB M 1,mR M,.cells [ai b,ai c]] [.mp 0 0,yV a,zH zC f .no,.mp 2 0] (.tup [yV r.1,ab r.2.1,ai r.2.2.1]) [mB M 1,mR M,.cells [ai r.2.2.2.1,ai r.2.2.2.2]] 0
theorem rQ:Qf 105 f105:=⟨func105,rfl⟩
theorem rR{M a b c r}(h:zUd M a b c r Ci):zUd M a b c r Ct:=⟨h,⟨(lz rfl),⟨tv,tv,⟨tv,dT _⟩,tv⟩,(lz rfl),tv⟩,(bA (lz rfl) (zD ⟨tv,tv,tv⟩ zA)),⟨⟨tv,tv,dT _,tv⟩,tv,tv,tv⟩,(cE (lz rfl) (zD ⟨tv,tv,tv⟩ zA))⟩
theorem zNh:Qf 164 f164:=⟨func164,rfl⟩
theorem zNg{M a f b c r}(h:zUc M a f b c r Ci):zUc M a f b c r Ct:=⟨h,⟨(lz rfl),⟨tv,tv,⟨tv,dT _⟩,tv⟩,⟨tv,dT _⟩,(lz rfl),tv⟩,(bA (lz rfl) (zD ⟨tv,tv,tv⟩ zA)),⟨⟨tv,tv,dT _,tv⟩,tv,tv,tv⟩,(cE (lz rfl) (zD ⟨tv,tv,tv⟩ zA))⟩
theorem zFZ:Qf 165 f165:=⟨func165,rfl⟩
theorem zGz{M a f b c r}(h:zUb M a f b c r Ci):zUb M a f b c r Ct:=⟨h,⟨(lz rfl),⟨tv,tv,⟨tv,dT _⟩,tv⟩,⟨tv,dT _⟩,(lz rfl),tv⟩,(bA (lz rfl) (zD ⟨tv,tv,tv⟩ zA)),⟨⟨tv,tv,dT _,tv⟩,tv,tv,tv⟩,(cE (lz rfl) (zD ⟨tv,tv,tv⟩ zA))⟩
theorem jM:∀d:Nat,(∀ {M a b c r},e64 d M a b c=some r->K64 M a b c r Ct)∧(∀ {M p q g m e r},C7 d M p q g m e=some r->(∀j,dL 3 (pt 885 f64) (sp j 28 0 [(0,.mp 0 0),(2,.mp 2 0),(4,.mp 3 0),(6,.mp 4 0)]) (⟨[(0,mB M 1),(1,mR M),(2,.cells [ai p,ai q]),(3,.cells [ai g,ai m,zH zC e .no]),(4,.cells [ai 0,ai 0,zH zC ([]:zR) .nl])],5,[],0,[]⟩) (fQ 3 (nQ 3 f64 (.tup [yV r.1,ai r.2.1]) [mB M 1,mR M,.cells [ai r.2.2.1,ai r.2.2.2]] 0) [.blk 0])))∧(∀ {M a b c r},zNi d M a b c=some r->zUd M a b c r Ct)∧(∀ {M a f b c r},zKz d M a f b c=some r->zUc M a f b c r Ct)∧(∀ {M a f b c r},zKy d M a f b c=some r->zUb M a f b c r Ct):=by
 intro d
 induction d with
 |zero=>
  exact⟨fun h=>nn h,fun h=>nn h,fun h=>nn h,fun h=>nn h,fun h=>nn h⟩
 |succ d ih=>
  obtain⟨zYb,zHO,zYa,zSG,zSH⟩:=ih
  refine⟨?_,?_,?_,?_,?_⟩
  intro M a b c r h
  rw[e64]at h
  exact⟨tH ⟨func64,rfl⟩ 0 [] [0,1,2,3,4] [] [0,2,4,6] (oD (dT ([]:zR))<|oD (dT a.sub)<|oD (dC M.parts)<|oD (dE M.rl)<|oD (dI M.own)<|oD (dI M.args)<|oD (dE M.l) o0) (zHO h),⟨(lz rfl),⟨tv,tv,⟨tv,dT _⟩,tv⟩,(lz rfl),tv⟩,(bA (lz rfl) (zD ⟨tv,tv,tv⟩ zA)),⟨⟨tv,tv,dT _,tv⟩,tv,tv⟩,(cE (lz rfl) (zD ⟨tv,tv,tv⟩ zA))⟩
  intro M p q g m e r h
  rw[C7]at h
  obtain⟨r1,h2,h⟩:=zB h
  have k:=oC 1 [0,1,2] (zYa h2) o0
  obtain⟨h3,h⟩|⟨h3,h⟩:=zK h
  have k:=oB 1 h3 k
  obtain⟨h4,h⟩|⟨h4,h⟩:=zK h
  cases h
  exact fun j=>lF 1 [0,1,2] (oD (dT ([]:zR))<|pW M<|oB 2 h4 k)
  exact fun j=>lH 2 [] [0,1,2,3,4] [] [0,2,4,6] (oD (dT ([]:zR))<|oD (dT r1.1.sub)<|pW M<|oB 2 h4 k) (zHO h)
  have k:=oB 1 h3 k
  obtain⟨h5,h⟩|⟨h5,h⟩:=zK h
  cases h
  exact fun j=>lF 1 [0,1,2] (oD (dT ([]:zR))<|pW M<|oB 2 h5 k)
  cases h
  exact fun j=>lF 2 [0,1,2] (oD (dT e)<|pW M<|oB 2 h5 k)
  intro M a b c r h
  rw[zNi]at h
  have z {os ob} (k:Oz os ob):=oD (dT a.sub)<|pW M<|k
  obtain⟨r1,h2,h⟩:=zB h
  have k:=oC 1 [] (zFd h2) o0
  obtain⟨h3,h⟩|⟨h3,h⟩:=zK h
  have k:=oB 5 h3 k
  obtain⟨h4,h⟩|⟨h4,h⟩:=zK h
  obtain⟨x5,h6,h⟩:=zB h
  obtain⟨x7,h8,h⟩:=zB h
  obtain⟨r9,h10,h⟩:=zB h
  obtain⟨x11,h12,h⟩:=zB h
  obtain⟨r13,h14,h⟩:=zB h
  have k:=oC 0 [] (c21 h14)<|oA 4 (qV h12)<|oC 1 [] (yAU h10)<|oA 1 (xH (o:=.no) h8)<|oA 1 (xH (o:=.no) h6)<|oB 1 h4 k
  obtain⟨h15,h⟩|⟨h15,h⟩:=zK h
  cases h
  exact rR (tF rQ 2 [0,1,2] (z<|oB 1 h15 k))
  obtain⟨r16,h17,h⟩:=zB h
  have k:=oC 1 [2] (zFV h17)<|oB 1 h15 k
  obtain⟨h18,h⟩|⟨h18,h⟩:=zK h
  cases h
  exact rR (tF rQ 2 [0,1,2] (z<|oB 0 h18 k))
  obtain⟨r19,h20,h⟩:=zB h
  cases h
  exact rR (tF rQ 5 [0,1,2] (oD (dT r19.1.sub)<|pW M<|oC 1 [] (zFW h20)<|oB 0 h18 k))
  obtain⟨r21,h22,h⟩:=zB h
  have k:=oC 1 [0,1] (zNm h22)<|oB 1 h4 k
  obtain⟨h23,h⟩|⟨h23,h⟩:=zK h
  obtain⟨x24,h25,h⟩:=zB h
  obtain⟨r26,h27,h⟩:=zB h
  obtain⟨r28,h29,h⟩:=zB h
  have k:=oC 3 [2] (zFV h29)<|oC 1 [] (c21 h27)<|oA 2 (xK (o:=.no) h25)<|oB 0 h23 k
  obtain⟨h30,h⟩|⟨h30,h⟩:=zK h
  cases h
  exact rR (tF rQ 2 [0,1,2] (z<|oB 0 h30 k))
  obtain⟨r31,h32,h⟩:=zB h
  cases h
  exact rR (tF rQ 5 [0,1,2] (oD (dT r31.1.sub)<|pW M<|oC 1 [] (zFW h32)<|oB 0 h30 k))
  obtain⟨r33,h34,h⟩:=zB h
  have k:=oC 1 [0,1] (zNm h34)<|oB 0 h23 k
  obtain⟨h35,h⟩|⟨h35,h⟩:=zK h
  obtain⟨r36,h37,h⟩:=zB h
  have k:=oC 1 [0,1,2] (zSG h37)<|oB 0 h35 k
  obtain⟨h38,h⟩|⟨h38,h⟩:=zK h
  have k:=oB 1 h38 k
  obtain⟨h39,h⟩|⟨h39,h⟩:=zK h
  cases h
  exact rR (tF rQ 2 [0,1,2] (z<|oB 2 h39 k))
  obtain⟨r40,h41,h⟩:=zB h
  have k:=oC 1 [2] (zFV h41)<|oB 2 h39 k
  obtain⟨h42,h⟩|⟨h42,h⟩:=zK h
  cases h
  exact rR (tF rQ 2 [0,1,2] (z<|oB 0 h42 k))
  obtain⟨r43,h44,h⟩:=zB h
  cases h
  exact rR (tF rQ 5 [0,1,2] (oD (dT r43.1.sub)<|pW M<|oC 1 [] (zFW h44)<|oB 0 h42 k))
  have k:=oB 1 h38 k
  obtain⟨h45,h⟩|⟨h45,h⟩:=zK h
  cases h
  exact rR (tF rQ 2 [0,1,2] (z<|oB 2 h45 k))
  cases h
  exact rR (tF rQ 3 [0,1,2] (z<|oB 2 h45 k))
  have k:=oB 0 h35 k
  obtain⟨h46,h⟩|⟨h46,h⟩:=zK h
  obtain⟨r47,h48,h⟩:=zB h
  have k:=oC 1 [0,1,2] (zSH h48)<|oB 1 h46 k
  obtain⟨h49,h⟩|⟨h49,h⟩:=zK h
  have k:=oB 1 h49 k
  obtain⟨h50,h⟩|⟨h50,h⟩:=zK h
  cases h
  exact rR (tF rQ 2 [0,1,2] (z<|oB 2 h50 k))
  obtain⟨r51,h52,h⟩:=zB h
  have k:=oC 1 [2] (zFV h52)<|oB 2 h50 k
  obtain⟨h53,h⟩|⟨h53,h⟩:=zK h
  cases h
  exact rR (tF rQ 2 [0,1,2] (z<|oB 0 h53 k))
  obtain⟨r54,h55,h⟩:=zB h
  cases h
  exact rR (tF rQ 5 [0,1,2] (oD (dT r54.1.sub)<|pW M<|oC 1 [] (zFW h55)<|oB 0 h53 k))
  have k:=oB 1 h49 k
  obtain⟨h56,h⟩|⟨h56,h⟩:=zK h
  cases h
  exact rR (tF rQ 2 [0,1,2] (z<|oB 2 h56 k))
  cases h
  exact rR (tF rQ 3 [0,1,2] (z<|oB 2 h56 k))
  cases h
  exact rR (tF rQ 4 [0,1,2] (z<|oB 1 h46 k))
  obtain⟨r57,h58,h⟩:=zB h
  have k:=oC 1 [0,1] (zNm h58)<|oB 5 h3 k
  obtain⟨h59,h⟩|⟨h59,h⟩:=zK h
  obtain⟨x60,h61,h⟩:=zB h
  obtain⟨r62,h63,h⟩:=zB h
  obtain⟨r64,h65,h⟩:=zB h
  have k:=oC 3 [2] (zFV h65)<|oC 1 [] (c21 h63)<|oA 2 (xK (o:=.no) h61)<|oB 0 h59 k
  obtain⟨h66,h⟩|⟨h66,h⟩:=zK h
  cases h
  exact rR (tF rQ 2 [0,1,2] (z<|oB 0 h66 k))
  obtain⟨r67,h68,h⟩:=zB h
  cases h
  exact rR (tF rQ 5 [0,1,2] (oD (dT r67.1.sub)<|pW M<|oC 1 [] (zFW h68)<|oB 0 h66 k))
  obtain⟨r69,h70,h⟩:=zB h
  have k:=oC 1 [0,1] (zNm h70)<|oB 0 h59 k
  obtain⟨h71,h⟩|⟨h71,h⟩:=zK h
  obtain⟨r72,h73,h⟩:=zB h
  have k:=oC 1 [0,1,2] (zSG h73)<|oB 0 h71 k
  obtain⟨h74,h⟩|⟨h74,h⟩:=zK h
  have k:=oB 1 h74 k
  obtain⟨h75,h⟩|⟨h75,h⟩:=zK h
  cases h
  exact rR (tF rQ 2 [0,1,2] (z<|oB 2 h75 k))
  obtain⟨r76,h77,h⟩:=zB h
  have k:=oC 1 [2] (zFV h77)<|oB 2 h75 k
  obtain⟨h78,h⟩|⟨h78,h⟩:=zK h
  cases h
  exact rR (tF rQ 2 [0,1,2] (z<|oB 0 h78 k))
  obtain⟨r79,h80,h⟩:=zB h
  cases h
  exact rR (tF rQ 5 [0,1,2] (oD (dT r79.1.sub)<|pW M<|oC 1 [] (zFW h80)<|oB 0 h78 k))
  have k:=oB 1 h74 k
  obtain⟨h81,h⟩|⟨h81,h⟩:=zK h
  cases h
  exact rR (tF rQ 2 [0,1,2] (z<|oB 2 h81 k))
  cases h
  exact rR (tF rQ 3 [0,1,2] (z<|oB 2 h81 k))
  have k:=oB 0 h71 k
  obtain⟨h82,h⟩|⟨h82,h⟩:=zK h
  obtain⟨r83,h84,h⟩:=zB h
  have k:=oC 1 [0,1,2] (zSH h84)<|oB 1 h82 k
  obtain⟨h85,h⟩|⟨h85,h⟩:=zK h
  have k:=oB 1 h85 k
  obtain⟨h86,h⟩|⟨h86,h⟩:=zK h
  cases h
  exact rR (tF rQ 2 [0,1,2] (z<|oB 2 h86 k))
  obtain⟨r87,h88,h⟩:=zB h
  have k:=oC 1 [2] (zFV h88)<|oB 2 h86 k
  obtain⟨h89,h⟩|⟨h89,h⟩:=zK h
  cases h
  exact rR (tF rQ 2 [0,1,2] (z<|oB 0 h89 k))
  obtain⟨r90,h91,h⟩:=zB h
  cases h
  exact rR (tF rQ 5 [0,1,2] (oD (dT r90.1.sub)<|pW M<|oC 1 [] (zFW h91)<|oB 0 h89 k))
  have k:=oB 1 h85 k
  obtain⟨h92,h⟩|⟨h92,h⟩:=zK h
  cases h
  exact rR (tF rQ 2 [0,1,2] (z<|oB 2 h92 k))
  cases h
  exact rR (tF rQ 3 [0,1,2] (z<|oB 2 h92 k))
  cases h
  exact rR (tF rQ 4 [0,1,2] (z<|oB 1 h82 k))
  intro M a f b c r h
  rw[zKz]at h
  have z {os ob} (k:Oz os ob):=oD (dT ([]:zR))<|pW M<|k
  obtain⟨x1,h2,h⟩:=zB h
  have k:=oA 2 (xK (o:=.no) h2) o0
  obtain⟨h3,h⟩|⟨h3,h⟩:=zK h
  cases h
  exact zNg (tF zNh 1 [0,1,2] (z<|oB 2 h3 k))
  obtain⟨x4,h5,h⟩:=zB h
  obtain⟨r6,h7,h⟩:=zB h
  have k:=oC 1 [0,1,2] (zYb h7)<|oA 0 (xH (o:=.no) h5)<|oB 2 h3 k
  obtain⟨h8,h⟩|⟨h8,h⟩:=zK h
  cases h
  exact zNg (tF zNh 1 [0,1,2] (z<|oB 3 h8 k))
  obtain⟨r9,h10,h⟩:=zB h
  have k:=oC 1 [0,1] (zUg h10)<|oB 3 h8 k
  obtain⟨h11,h⟩|⟨h11,h⟩:=zK h
  obtain⟨x12,h13,h⟩:=zB h
  have k:=oA 3 (xK (o:=.no) h2)<|oA 2 (xK (o:=.no) h13)<|oB 2 h11 k
  obtain⟨h14,h⟩|⟨h14,h⟩:=zK h
  cases h
  exact zNg (tF zNh 1 [0,1,2] (z<|oB 1 h14 k))
  obtain⟨x15,h16,h⟩:=zB h
  obtain⟨r17,h18,h⟩:=zB h
  obtain⟨x19,h20,h⟩:=zB h
  obtain⟨r21,h22,h⟩:=zB h
  cases h
  exact zNg (tF zNh 1 [0,1,2] (oD (dT r21.sub)<|pW M<|oC 0 [] (c21 h22)<|oA 5 (qV h20)<|oC 0 [1] (yBq h18)<|oA 1 (qV h16)<|oA 3 (xK (o:=.no) h13)<|oB 1 h14 k))
  cases h
  exact zNg (tF zNh 2 [0,1,2] (z<|oB 2 h11 k))
  intro M a f b c r h
  rw[zKy]at h
  have z {os ob} (k:Oz os ob):=oD (dT ([]:zR))<|pW M<|k
  obtain⟨h1,h⟩|⟨h1,h⟩:=zK h
  cases h
  exact zGz (tF zFZ 1 [0,1,2] (z<|oB 3 h1 o0))
  obtain⟨x2,h3,h⟩:=zB h
  have k:=oA 2 (xK (o:=.no) h3)<|oB 3 h1 o0
  obtain⟨h4,h⟩|⟨h4,h⟩:=zK h
  cases h
  exact zGz (tF zFZ 1 [0,1,2] (z<|oB 1 h4 k))
  obtain⟨x5,h6,h⟩:=zB h
  have k:=oA 3 (uH (o:=.no) h6)<|oB 1 h4 k
  obtain⟨h7,h⟩|⟨h7,h⟩:=zK h
  cases h
  exact zGz (tF zFZ 1 [0,1,2] (z<|oB 1 h7 k))
  obtain⟨x8,h9,h⟩:=zB h
  obtain⟨r10,h11,h⟩:=zB h
  have k:=oC 1 [0,1,2] (zYb h11)<|oA 2 (xH (o:=.no) h9)<|oA 2 (uH (o:=.no) h6)<|oB 1 h7 k
  obtain⟨h12,h⟩|⟨h12,h⟩:=zK h
  cases h
  exact zGz (tF zFZ 1 [0,1,2] (z<|oB 3 h12 k))
  obtain⟨r13,h14,h⟩:=zB h
  have k:=oC 1 [0,1] (zUg h14)<|oB 3 h12 k
  obtain⟨h15,h⟩|⟨h15,h⟩:=zK h
  obtain⟨x16,h17,h⟩:=zB h
  have k:=oA 2 (xK (o:=.no) h17)<|oB 2 h15 k
  obtain⟨h18,h⟩|⟨h18,h⟩:=zK h
  cases h
  exact zGz (tF zFZ 1 [0,1,2] (z<|oB 2 h18 k))
  obtain⟨x19,h20,h⟩:=zB h
  obtain⟨x21,h22,h⟩:=zB h
  obtain⟨x23,h24,h⟩:=zB h
  obtain⟨r25,h26,h⟩:=zB h
  obtain⟨x27,h28,h⟩:=zB h
  obtain⟨r29,h30,h⟩:=zB h
  cases h
  exact zGz (tF zFZ 1 [0,1,2] (oD (dT r29.sub)<|pW M<|oC 0 [] (c21 h30)<|oA 4 (qV h28)<|oC 0 [1] (yBp h26)<|oA 1 (qV h24)<|oA 6 (oN h22)<|oA 5 (xH (o:=.no) h20)<|oA 2 (xK (o:=.no) h3)<|oB 2 h18 k))
  cases h
  exact zGz (tF zFZ 2 [0,1,2] (z<|oB 2 h15 k))
theorem c64{d M a b c r}(h:e64 d M a b c=some r):K64 M a b c r Ct:=(jM _).1 h
abbrev er4 (r:Tm×Int×Int×Int):Int:=r.2.1
abbrev er5 (r:Tm×Bool×Int×Int×Int):Int:=r.2.2.1
theorem J7(l:List yE):(uU l).l=l:=rfl
theorem S4(l:List yE):(uU l).rl=l:=rfl
theorem iL(l:List yE):(uU l).parts=kM l l.length 0:=rfl
noncomputable def pD(l:List yE)(i:Int)(a:List Tm):Tm×Int:=
 open Classical in if h:∃r,zF (fun q=>zDL q l (kM l l.length 0) i a) r then h.choose else(zT,5)
theorem nV{N:ByteArray->Bool}(l:List yE)(i:Int)(a:List Tm)(hE:vP N l)(ho:uJ a)(hl:a.length≤1073741824):zF (fun q=>zDL q l (kM l l.length 0) i a) (pD l i a)∧zBy l i a (pD l i a):=by
 obtain⟨r,hr,hk⟩:=zJX l (kM l l.length 0) i a hE ho hl
 have hx:∃r,zF (fun q=>zDL q l (kM l l.length 0) i a) r:=⟨r,hr⟩
 have e:pD l i a=r:=by
  unfold pD
  rw[dif_pos hx]
  exact hx.choose_spec.det hr
 rw[e];exact⟨hr,hk⟩
noncomputable def H2(l:List yE)(d lev c:Int)(args own:List Tm):Tm×Int:=
 open Classical in if h:∃r,zF (fun q=>zDM q l (kM l l.length 0) d lev c args own) r then h.choose else(zT,5)
theorem dG{N:ByteArray->Bool}(l:List yE)(d lev c:Int)(args own:List Tm)(hE:vP N l)(ho4:uJ args)(ho5:uJ own)(hl4:args.length≤65535)(hl5:own.length≤65535):zF (fun q=>zDM q l (kM l l.length 0) d lev c args own) (H2 l d lev c args own)∧zFT l d lev c args own (H2 l d lev c args own):=by
 obtain⟨r,hr,hk⟩:=zNp l d lev c args own hE ho4 ho5 hl4 hl5
 have hx:∃r,zF (fun q=>zDM q l (kM l l.length 0) d lev c args own) r:=⟨r,hr⟩
 have e:H2 l d lev c args own=r:=by
  unfold H2
  rw[dif_pos hx]
  exact hx.choose_spec.det hr
 rw[e];exact⟨hr,hk⟩
inductive Act where
 |none
 |red (Y:Tm) (e:Int)
 |tgt (a:Tm)
noncomputable def wS(l:List yE)(x:Tm):Act:=
 if (zX x).k=4∧0<(yX x).length then .red (uI (kE (vU (zX x).sub 1) [vU (yX x) 0]).1 ((yX x).drop 1)) (kE (vU (zX x).sub 1) [vU (yX x) 0]).2
 else if vY l (zX x)=3 then .red (uI (zJ l (zX x).n).body (yX x)) 0
 else if vY l (zX x)=4 then(if ((yX x).length:Int)≤(zJ l (zX x).n).pars then .none else .tgt (vU (yX x) (zJ l (zX x).n).pars))
 else if (zX x).k=7 then(if mN l (zX x).n 1=true∧wJ (zJ l (zX x).n)≤(yX x).length then .tgt (vU (yX x) (wJ (zJ l (zX x).n)-1))else .none)
 else .none
noncomputable def vO(l:List yE)(x y:Tm):Option (Tm×Int):=
 if vY l (zX x)=4 then
  (if vZ l y∧(zJ l (zX y).n).fam=(zJ l (zX x).n).fam then
   some (uI (pD l (zX x).n ((yX y).drop (zJ l (zX y).n).pars.toNat)).1 ((yX x).drop ((zJ l (zX x).n).pars+1).toNat),(pD l (zX x).n ((yX y).drop (zJ l (zX y).n).pars.toNat)).2)
  else none)
 else
  (if vZ l y∧(zJ l (zX y).n).fam=(zX x).n then
   some (uI (H2 l (zX x).n (vU (zX x).sub 0).n (zX y).n ((yX x).take ((zJ l (zX x).n).pars+1+(zJ l (zX x).n).cons.length).toNat) ((yX y).drop (zJ l (zX x).n).pars.toNat)).1 ((yX x).drop (wJ (zJ l (zX x).n)).toNat),
    (H2 l (zX x).n (vU (zX x).sub 0).n (zX y).n ((yX x).take ((zJ l (zX x).n).pars+1+(zJ l (zX x).n).cons.length).toNat) ((yX y).drop (zJ l (zX x).n).pars.toNat)).2)
  else none)
inductive Br (l:List yE):Tm->Tm->Int->Int->Prop
 |stop {x:Tm}:wS l x = .none->Br l x x 0 0
 |redE {x Y:Tm} {e:Int}:wS l x = .red Y e->e≠0->Br l x zT e 0
 |redL {x Y:Tm}:wS l x = .red Y 0->zI Y=false->Br l x zT 2 1
 |red {x Y y:Tm} {e k:Int}:wS l x = .red Y 0->zI Y=true->Br l Y y e k->Br l x y e (1+k)
 |tgtE {x a z:Tm} {e k:Int}:wS l x = .tgt a->Br l a z e k->e≠0->Br l x zT e k
 |tgtN {x a z:Tm} {k:Int}:wS l x = .tgt a->Br l a z 0 k->vO l x z=none->Br l x x 0 k
 |tgtRE {x a z Y:Tm} {e k:Int}:wS l x = .tgt a->Br l a z 0 k->vO l x z=some (Y,e)->e≠0->Br l x zT e k
 |tgtRL {x a z Y:Tm} {k:Int}:wS l x = .tgt a->Br l a z 0 k->vO l x z=some (Y,0)->zI Y=false->Br l x zT 2 (k+1)
 |tgtR {x a z Y y:Tm} {e k k':Int}:wS l x = .tgt a->Br l a z 0 k->vO l x z=some (Y,0)->zI Y=true->Br l Y y e k'->Br l x y e (k+1+k')
inductive On (l:List yE) (x:Tm):Tm->Bool->Int->Int->Prop
 |stop:wS l x = .none->On l x x false 0 0
 |redE {Y:Tm} {e:Int}:wS l x = .red Y e->e≠0->On l x x false e 0
 |redL {Y:Tm}:wS l x = .red Y 0->zI Y=false->On l x zT true 2 1
 |red {Y:Tm}:wS l x = .red Y 0->zI Y=true->On l x Y true 0 1
 |tgtE {a z:Tm} {e k:Int}:wS l x = .tgt a->Br l a z e k->e≠0->On l x x false e k
 |tgtN {a z:Tm} {k:Int}:wS l x = .tgt a->Br l a z 0 k->vO l x z=none->On l x x false 0 k
 |tgtRE {a z Y:Tm} {e k:Int}:wS l x = .tgt a->Br l a z 0 k->vO l x z=some (Y,e)->e≠0->On l x x false e k
 |tgtRL {a z Y:Tm} {k:Int}:wS l x = .tgt a->Br l a z 0 k->vO l x z=some (Y,0)->zI Y=false->On l x zT true 2 (k+1)
 |tgtR {a z Y:Tm} {k:Int}:wS l x = .tgt a->Br l a z 0 k->vO l x z=some (Y,0)->zI Y=true->On l x Y true 0 (k+1)
theorem Br.nn{l:List yE}{x y:Tm}{e k:Int}(h:Br l x y e k):0≤k:=by
 induction h<;>omega
theorem On.still{l:List yE}{x y:Tm}{k:Int}(h:On l x y false 0 k):y=x∧Br l x x 0 k:=by
 cases h with
 |stop h=>exact⟨rfl,.stop h⟩
 |redE _ h=>exact absurd rfl h
 |tgtE _ _ h=>exact absurd rfl h
 |tgtN a b c=>exact⟨rfl,.tgtN a b c⟩
 |tgtRE _ _ _ h=>exact absurd rfl h
theorem On.err{l:List yE}{x y:Tm}{d:Bool}{e k:Int}(h:On l x y d e k)(he:e≠0):Br l x zT e k:=by
 cases h with
 |redE a b=>exact .redE a b
 |redL a b=>exact .redL a b
 |tgtE a b c=>exact .tgtE a b c
 |tgtRE a b c d=>exact .tgtRE a b c d
 |tgtRL a b c d=>exact .tgtRL a b c d
 |_=>exact absurd rfl he
theorem On.step{l:List yE}{x Y:Tm}{k:Int}(h:On l x Y true 0 k):zI Y=true∧1≤k∧∀y e k',Br l Y y e k'->Br l x y e (k+k'):=by
 cases h with
 |red a b=>exact⟨b,by omega,fun y e k' h=>.red a b h⟩
 |tgtR a b c d=>exact⟨d,by have:=b.nn;omega,fun y e k' h=>.tgtR a b c d h⟩
def HB(l:List yE)(x:Tm)(f:Int):Prop:=Ou (fun L U q=>e64 q (uU l) x L U) er4 (fun R k=>∃y e,Br l x y e k∧R=fun L U=>(y,e,L,U)) (∀y e k,Br l x y e k->f<k) f
def QO(l:List yE)(x:Tm)(R:Int->Int->Tm×Bool×Int×Int×Int)(k:Int):Prop:=∃Y d e,On l x Y d e k∧R=fun L U=>(Y,d,e,L,U)
def QF(l:List yE)(x:Tm)(R:Int->Int->Tm×Bool×Int×Int×Int)(k:Int):Prop:=
 (wS l x = .none∧k=0∧∃Y,R=fun L U=>(Y,false,0,L,U)) ∨
 ∃a z e,wS l x = .tgt a∧Br l a z e k∧((e≠0∧∃Y,R=fun L U=>(Y,false,e,L,U))∨(e=0∧((vO l x z=none∧∃Y,R=fun L U=>(Y,false,0,L,U))∨∃Y e',Y.Ok∧vO l x z=some (Y,e')∧R=fun L U=>(Y,true,e',L,U))))
theorem sA{t:Tm}(hg:xC t=true)(h:t.k=3∨t.k=4∨t.k=5):∃a b,t.sub=[a,b]∧xC a=true∧xC b=true:=by
 obtain⟨k,n,l⟩:=t
 have hh:=wW hg
 obtain⟨a,b,rfl⟩:=zMv ((uO hh.1).2.2.2.2.2.1 h).1
 have hc:=xY hh.2
 exact⟨a,b,rfl,hc.1,(xY hc.2).1⟩
theorem zKx{N:ByteArray->Bool}(l:List yE)(hE:vP N l)(x:Tm)(hs:zI x=true)(f:Int)(hf:0≤f)(h3:(zX x).k≠4)(hk:vY l (zX x)=4)(hb:∀a∈yX x,HB l a f)(hB:∀a y k,zI a=true->Br l a y 0 k->zI y=true) :
  Ou (fun L U q=>zKz q (uU l) (zX x) (yX x) L U) er5 (QF l x) (∃a,wS l x = .tgt a∧∀z e k,Br l a z e k->f<k) f:=by
 have hh:=uP hs
 have h0:=iK (zM hh).2.2
 have hks:=vN hk (by decide)
 have h1:=hks.2.1
 have ho:uJ (yX x):=fun y hy=>xL (xT hs hy)
 have hl:(yX x).length≤8192:=by
  have h:=zM hs
  have:=sX _ h.2.2
  omega
 have hp:=(yZ (hE.2 _ h0 h1)).2.2.2.1 hks.2.2
 unfold qZ at hp
 simp only[Bool.and_eq_true]at hp
 have hw:=vG hp.1
 have hfam:=wA ((yZ (hE.2 _ hw.1 (by omega))).2.1 hw.2.2.1)
 have hact:wS l x=if ((yX x).length:Int)≤(zJ l (zX x).n).pars then .none else .tgt (vU (yX x) (zJ l (zX x).n).pars):=by
  unfold wS
  rw[if_neg (fun h=>h3 h.1),if_neg (by omega),if_pos hk]
 have hre:∀y,vO l x y=if vZ l y∧(zJ l (zX y).n).fam=(zJ l (zX x).n).fam then
   some (uI (pD l (zX x).n ((yX y).drop (zJ l (zX y).n).pars.toNat)).1 ((yX x).drop ((zJ l (zX x).n).pars+1).toNat),(pD l (zX x).n ((yX y).drop (zJ l (zX y).n).pars.toNat)).2)
  else none:=fun y=>by
  unfold vO
  rw[if_pos hk]
 refine Ou.succ ?_
 simp only[zKz,J7,S4,iL]
 refine Ou.pure (yH h0 h1) (Ou.ite (fun hn=>Ou.ret hf (.inl ⟨by rw[hact,if_pos (of_decide_eq_true hn)],rfl,_,rfl⟩)) fun hn=>?_)
 have hn':=of_decide_eq_false hn
 rw[if_neg hn']at hact
 have hlt:(zJ l (zX x).n).pars<(yX x).length:=by omega
 have hp0:0≤(zJ l (zX x).n).pars:=by omega
 refine Ou.pure (uR hp0 hlt) (Ou.bind (hb _ (sH hp0 hlt)) (fun h=>⟨_,hact,h⟩) (fun r hr=>⟨_,zF.ifT (by show (r.2.1 != 0)=true;rw[show r.2.1=8 from hr];decide) zF.ret,hr⟩) ?_)
 rintro R k k0 k1 ⟨y,e,hbr,rfl⟩
 dsimp only
 refine Ou.ite (fun h=>Ou.ret (by omega) (.inr ⟨_,y,e,hact,by rwa[Int.add_zero],.inl ⟨by simpa using h,_,rfl⟩⟩)) fun h=>?_
 have he:e=0:=by simpa using h
 subst he
 have hy:=hB _ _ _ (xT hs (sH hp0 hlt)) hbr
 refine Ou.evt (zBu l y hy) ?_
 unfold zBv
 by_cases hc:vZ l y
 ·rw[if_pos hc]
  have hcs:=tZ hy hc
  obtain⟨A,z,a1,-,-,a4,a5,a6,a7,-⟩:=sI hE hcs.1 hcs.2.1 hcs.2.2.1
  refine Ou.ifT rfl (Ou.pure (yH hcs.1 hcs.2.1) (Ou.ite (fun hf'=>Ou.ret (by omega) (.inr ⟨_,y,0,hact,by rwa[Int.add_zero],.inr ⟨rfl,.inl ⟨?_,_,rfl⟩⟩⟩)) fun hf'=>?_))
  ·rw[hre,if_neg (fun h=>by simp[h.2]at hf')]
  ·have hf2:(zJ l (zX y).n).fam=(zJ l (zX x).n).fam:=by simpa using hf'
   have hra:uJ (yX y):=fun x hx=>xL (xT hy hx)
   have hrl:(yX y).length≤8192:=by
    have h:=zM hy
    have:=sX _ h.2.2
    omega
   have hlen:=hcs.2.2.2
   have hX:=nV l (zX x).n ((yX y).drop (zJ l (zX y).n).pars.toNat) hE (hra.drop _) (by rw[List.length_drop];omega)
   refine Ou.pure (pA a6 (by show (zJ l (zX y).n).pars≤((yX y).length:Int);omega)) (Ou.evt hX.1 ?_)
   rw[zW (x:=(zJ l (zX x).n).pars+1) (by omega) (by omega)]
   refine Ou.pure (pA (by omega) (by omega)) (Ou.evt (sQ _ _ (by rw[List.length_drop];omega)) (Ou.ret (by omega) (.inr ⟨_,y,0,hact,by rwa[Int.add_zero],.inr ⟨rfl,.inr ⟨_,_,?_,?_,rfl⟩⟩⟩)))
   ·exact rM _ _ hX.2.1 (ho.drop _)
   ·rw[hre,if_pos ⟨hc,hf2⟩]
 ·rw[if_neg hc]
  refine Ou.ifF rfl (Ou.ret (by omega) (.inr ⟨_,y,0,hact,by rwa[Int.add_zero],.inr ⟨rfl,.inl ⟨?_,_,rfl⟩⟩⟩))
  rw[hre,if_neg (fun h=>hc h.1)]
theorem zNf{N:ByteArray->Bool}(l:List yE)(hE:vP N l)(x:Tm)(hs:zI x=true)(f:Int)(hf:0≤f)(hk:(zX x).k=7)(hb:∀a∈yX x,HB l a f)(hB:∀a y k,zI a=true->Br l a y 0 k->zI y=true) :
  Ou (fun L U q=>zKy q (uU l) (zX x) (yX x) L U) er5 (QF l x) (∃a,wS l x = .tgt a∧∀z e k,Br l a z e k->f<k) f:=by
 have hh:=uP hs
 have hg:=(zM hh).2.2
 have h0:=iK hg
 have ho:uJ (yX x):=fun y hy=>xL (xT hs hy)
 have hl:(yX x).length≤8192:=by
  have h:=zM hs
  have:=sX _ h.2.2
  omega
 have hkk:∀n:Int,n≠0->vY l (zX x)≠n:=fun n hn e=>by have:=(vN e hn).1;omega
 have hact:wS l x=if mN l (zX x).n 1=true∧wJ (zJ l (zX x).n)≤(yX x).length then .tgt (vU (yX x) (wJ (zJ l (zX x).n)-1))else .none:=by
  unfold wS
  rw[if_neg (fun h=>by omega),if_neg (hkk 3 (by decide)),if_neg (hkk 4 (by decide)),if_pos hk]
 have hre:∀y,vO l x y=if vZ l y∧(zJ l (zX y).n).fam=(zX x).n then
   some (uI (H2 l (zX x).n (vU (zX x).sub 0).n (zX y).n ((yX x).take ((zJ l (zX x).n).pars+1+(zJ l (zX x).n).cons.length).toNat) ((yX y).drop (zJ l (zX x).n).pars.toNat)).1 ((yX x).drop (wJ (zJ l (zX x).n)).toNat),
    (H2 l (zX x).n (vU (zX x).sub 0).n (zX y).n ((yX x).take ((zJ l (zX x).n).pars+1+(zJ l (zX x).n).cons.length).toNat) ((yX y).drop (zJ l (zX x).n).pars.toNat)).2)
  else none:=fun y=>by
  unfold vO
  rw[if_neg (hkk 4 (by decide))]
 refine Ou.succ ?_
 simp only[zKy,J7,S4,iL]
 refine Ou.ite (fun hn=>Ou.ret hf (.inl ⟨?_,rfl,_,rfl⟩)) fun hn=>?_
 ·rw[hact,if_neg]
  intro h
  have:=(xM h.1).2.1
  have:=of_decide_eq_true hn
  omega
 have h1:(zX x).n<l.length:=by have:=of_decide_eq_false hn;omega
 refine Ou.pure (yH h0 h1) (Ou.ite (fun hk1=>Ou.ret hf (.inl ⟨?_,rfl,_,rfl⟩)) fun hk1=>?_)
 ·rw[hact,if_neg]
  intro h
  have h2:=(xM h.1).2.2
  rw[h2]at hk1
  simp at hk1
 have hk1':(zJ l (zX x).n).kind=1:=by simpa using hk1
 have hfam:=wA ((yZ (hE.2 _ h0 h1)).2.1 hk1')
 have hisT:mN l (zX x).n 1=true:=by unfold mN;simp[h0,h1,hk1']
 have hargs:wJ (zJ l (zX x).n)=(zJ l (zX x).n).pars+2+(zJ l (zX x).n).cons.length+(zJ l (zX x).n).inds:=by unfold wJ;rw[if_pos hk1']
 refine Ou.pure (zNj h0 h1) (Ou.ite (fun hn=>Ou.ret hf (.inl ⟨?_,rfl,_,rfl⟩)) fun hn=>?_)
 ·rw[hact,if_neg]
  intro h
  have:=of_decide_eq_true hn
  omega
 have hn':=of_decide_eq_false hn
 rw[if_pos ⟨hisT,by omega⟩]at hact
 rw[zW (x:=wJ (zJ l (zX x).n)-1) (by omega) (by omega)]
 have hp0:0≤wJ (zJ l (zX x).n)-1:=by omega
 have hlt:wJ (zJ l (zX x).n)-1<(yX x).length:=by omega
 refine Ou.pure (uR hp0 hlt) (Ou.bind (hb _ (sH hp0 hlt)) (fun h=>⟨_,hact,h⟩) (fun r hr=>⟨_,zF.ifT (by show (r.2.1 != 0)=true;rw[show r.2.1=8 from hr];decide) zF.ret,hr⟩) ?_)
 rintro R k k0 k1 ⟨y,e,hbr,rfl⟩
 dsimp only
 refine Ou.ite (fun h=>Ou.ret (by omega) (.inr ⟨_,y,e,hact,by rwa[Int.add_zero],.inl ⟨by simpa using h,_,rfl⟩⟩)) fun h=>?_
 have he:e=0:=by simpa using h
 subst he
 have hy:=hB _ _ _ (xT hs (sH hp0 hlt)) hbr
 refine Ou.evt (zBu l y hy) ?_
 unfold zBv
 by_cases hc:vZ l y
 ·rw[if_pos hc]
  have hcs:=tZ hy hc
  obtain⟨A,z,a1,-,-,a4,a5,a6,a7,-,-,-,a8,-⟩:=sI hE hcs.1 hcs.2.1 hcs.2.2.1
  refine Ou.ifT rfl (Ou.pure (yH hcs.1 hcs.2.1) (Ou.ite (fun hf'=>Ou.ret (by omega) (.inr ⟨_,y,0,hact,by rwa[Int.add_zero],.inr ⟨rfl,.inl ⟨?_,_,rfl⟩⟩⟩)) fun hf'=>?_))
  ·rw[hre,if_neg (fun h=>by simp[h.2]at hf')]
  ·have hf2:(zJ l (zX y).n).fam=(zX x).n:=by simpa using hf'
   rw[hf2]at a8
   have hra:uJ (yX y):=fun x hx=>xL (xT hy hx)
   have hrl:(yX y).length≤8192:=by
    have h:=zM hy
    have:=sX _ h.2.2
    omega
   have hlen:=hcs.2.2.2
   have hsub:∃s,(zX x).sub=[s]:=by
    revert hg hk
    generalize zX x=y
    intro hk hg
    obtain⟨kk,nn,ss⟩:=y
    obtain⟨s,hs,-⟩:=(uO (wW hg).1).2.2.2.2.2.2.1 hk
    exact⟨s,hs⟩
   obtain⟨s,hsb⟩:=hsub
   rw[zW (x:=(zJ l (zX x).n).pars+1) (by omega) (by omega),zW (x:=(zJ l (zX x).n).pars+1+(zJ l (zX x).n).cons.length) (by omega) (by omega)]
   have hX:=dG l (zX x).n (vU (zX x).sub 0).n (zX y).n ((yX x).take ((zJ l (zX x).n).pars+1+(zJ l (zX x).n).cons.length).toNat) ((yX y).drop (zJ l (zX x).n).pars.toNat) hE (ho.take _) (hra.drop _) (by rw[List.length_take];omega) (by rw[List.length_drop];omega)
   refine Ou.pure (uR (by omega) (by rw[hsb];simp)) (Ou.pure (a:=(yX x).take ((zJ l (zX x).n).pars+1+(zJ l (zX x).n).cons.length).toNat) ?_ (Ou.pure (pA (by omega) (by show _≤((yX y).length:Int);omega)) (Ou.evt hX.1 ?_)))
   ·rw[J5 (by omega) (by omega) (by omega)];simp
   refine Ou.pure (pA (by omega) (by omega)) (Ou.evt (sQ _ _ (by rw[List.length_drop];omega)) (Ou.ret (by omega) (.inr ⟨_,y,0,hact,by rwa[Int.add_zero],.inr ⟨rfl,.inr ⟨_,_,?_,?_,rfl⟩⟩⟩)))
   ·exact rM _ _ hX.2.1 (ho.drop _)
   ·rw[hre,if_pos ⟨hc,hf2⟩]
 ·rw[if_neg hc]
  refine Ou.ifF rfl (Ou.ret (by omega) (.inr ⟨_,y,0,hact,by rwa[Int.add_zero],.inr ⟨rfl,.inl ⟨?_,_,rfl⟩⟩⟩))
  rw[hre,if_neg (fun h=>hc h.1)]
def zYA(l:List yE)(Y:Tm)(e0 k0:Int)(y:Tm)(e k:Int):Prop:=
 (e0≠0∧y=zT∧e=e0∧k=k0)∨(e0=0∧zI Y=false∧y=zT∧e=2∧k=k0+1)∨(e0=0∧zI Y=true∧∃k',Br l Y y e k'∧k=k0+1+k')
section
variable {l:List yE} {x y:Tm} {e k:Int}
theorem Br.inv_none(h:Br l x y e k)(ha:wS l x = .none):y=x∧e=0∧k=0:=by
 cases h with
 |stop _=>exact⟨rfl,rfl,rfl⟩
 |redE a=>rw[ha]at a;cases a
 |redL a=>rw[ha]at a;cases a
 |red a=>rw[ha]at a;cases a
 |tgtE a=>rw[ha]at a;cases a
 |tgtN a=>rw[ha]at a;cases a
 |tgtRE a=>rw[ha]at a;cases a
 |tgtRL a=>rw[ha]at a;cases a
 |tgtR a=>rw[ha]at a;cases a
theorem Br.inv_red{Y:Tm}{e0:Int}(h:Br l x y e k)(ha:wS l x = .red Y e0):zYA l Y e0 0 y e k:=by
 cases h with
 |stop a=>rw[ha]at a;cases a
 |redE a b=>rw[ha]at a;cases a;exact .inl ⟨b,rfl,rfl,rfl⟩
 |redL a b=>rw[ha]at a;cases a;exact .inr (.inl ⟨rfl,b,rfl,rfl,rfl⟩)
 |red a b c=>rw[ha]at a;cases a;exact .inr (.inr ⟨rfl,b,_,c,by omega⟩)
 |tgtE a=>rw[ha]at a;cases a
 |tgtN a=>rw[ha]at a;cases a
 |tgtRE a=>rw[ha]at a;cases a
 |tgtRL a=>rw[ha]at a;cases a
 |tgtR a=>rw[ha]at a;cases a
theorem Br.inv_tgt{a:Tm}(h:Br l x y e k)(ha:wS l x = .tgt a):∃z ea ka,Br l a z ea ka∧((ea≠0∧y=zT∧e=ea∧k=ka)∨(ea=0∧((vO l x z=none∧y=x∧e=0∧k=ka)∨∃Y e0,vO l x z=some (Y,e0)∧zYA l Y e0 ka y e k))):=by
 cases h with
 |stop a=>rw[ha]at a;cases a
 |redE a b=>rw[ha]at a;cases a
 |redL a b=>rw[ha]at a;cases a
 |red a b c=>rw[ha]at a;cases a
 |tgtE a b c=>rw[ha]at a;cases a;exact⟨_,_,_,b,.inl ⟨c,rfl,rfl,rfl⟩⟩
 |tgtN a b c=>rw[ha]at a;cases a;exact⟨_,_,_,b,.inr ⟨rfl,.inl ⟨c,rfl,rfl,rfl⟩⟩⟩
 |tgtRE a b c d=>rw[ha]at a;cases a;exact⟨_,_,_,b,.inr ⟨rfl,.inr ⟨_,_,c,.inl ⟨d,rfl,rfl,rfl⟩⟩⟩⟩
 |tgtRL a b c d=>rw[ha]at a;cases a;exact⟨_,_,_,b,.inr ⟨rfl,.inr ⟨_,_,c,.inr (.inl ⟨rfl,d,rfl,rfl,rfl⟩)⟩⟩⟩
 |tgtR a b c d f=>rw[ha]at a;cases a;exact⟨_,_,_,b,.inr ⟨rfl,.inr ⟨_,_,c,.inr (.inr ⟨rfl,d,_,f,rfl⟩)⟩⟩⟩
theorem Br.det(h:Br l x y e k):∀ {y':Tm} {e' k':Int},Br l x y' e' k'->y'=y∧e'=e∧k'=k:=by
 induction h with
 |stop a=>intro y' e' k' h2;exact h2.inv_none a
 |redE a b=>
  intro y' e' k' h2
  rcases h2.inv_red a with⟨c,d⟩|⟨c,d⟩|⟨c,d⟩
  ·exact d
  ·exact absurd c b
  ·exact absurd c b
 |redL a b=>
  intro y' e' k' h2
  rcases h2.inv_red a with⟨c,d⟩|⟨c,d,f⟩|⟨c,d,f⟩
  ·exact absurd rfl c
  ·exact f
  ·rw[b]at d;cases d
 |red a b c ih=>
  intro y' e' k' h2
  rcases h2.inv_red a with⟨c,d⟩|⟨c,d,f⟩|⟨c,d,n,f,g⟩
  ·exact absurd rfl c
  ·rw[b]at d;cases d
  ·obtain⟨rfl,rfl,rfl⟩:=ih f;exact⟨rfl,rfl,by omega⟩
 |tgtE a b c ih=>
  intro y' e' k' h2
  obtain⟨z',ea,ka,hb',h3⟩:=h2.inv_tgt a
  obtain⟨rfl,rfl,rfl⟩:=ih hb'
  rcases h3 with⟨_,d⟩|⟨d,_⟩
  ·exact d
  ·exact absurd d c
 |tgtN a b c ih=>
  intro y' e' k' h2
  obtain⟨z',ea,ka,hb',h3⟩:=h2.inv_tgt a
  obtain⟨rfl,rfl,rfl⟩:=ih hb'
  rcases h3 with⟨d,_⟩|⟨_,⟨_,d⟩|⟨Y,e0,d,_⟩⟩
  ·exact absurd rfl d
  ·exact d
  ·rw[c]at d;cases d
 |tgtRE a b c d ih=>
  intro y' e' k' h2
  obtain⟨z',ea,ka,hb',h3⟩:=h2.inv_tgt a
  obtain⟨rfl,rfl,rfl⟩:=ih hb'
  rcases h3 with⟨f,_⟩|⟨_,⟨f,_⟩|⟨Y,e0,f,g⟩⟩
  ·exact absurd rfl f
  ·rw[c]at f;cases f
  ·rw[c]at f;cases f
   rcases g with⟨_,g⟩|⟨g,_⟩|⟨g,_⟩
   ·exact g
   ·exact absurd g d
   ·exact absurd g d
 |tgtRL a b c d ih=>
  intro y' e' k' h2
  obtain⟨z',ea,ka,hb',h3⟩:=h2.inv_tgt a
  obtain⟨rfl,rfl,rfl⟩:=ih hb'
  rcases h3 with⟨f,_⟩|⟨_,⟨f,_⟩|⟨Y,e0,f,g⟩⟩
  ·exact absurd rfl f
  ·rw[c]at f;cases f
  ·rw[c]at f;cases f
   rcases g with⟨g,_⟩|⟨_,_,g⟩|⟨_,g,_⟩
   ·exact absurd rfl g
   ·exact g
   ·rw[d]at g;cases g
 |tgtR a b c d f ih ih2=>
  intro y' e' k' h2
  obtain⟨z',ea,ka,hb',h3⟩:=h2.inv_tgt a
  obtain⟨rfl,rfl,rfl⟩:=ih hb'
  rcases h3 with⟨f,_⟩|⟨_,⟨f,_⟩|⟨Y,e0,f,g⟩⟩
  ·exact absurd rfl f
  ·rw[c]at f;cases f
  ·rw[c]at f;cases f
   rcases g with⟨g,_⟩|⟨_,g,_⟩|⟨_,_,n,g,rfl⟩
   ·exact absurd rfl g
   ·rw[d]at g;cases g
   ·obtain⟨rfl,rfl,rfl⟩:=ih2 g;exact⟨rfl,rfl,rfl⟩
theorem Br.last(h:Br l x y e k):e=0->∃j,j≤k∧On l y y false 0 j:=by
 induction h with
 |stop a=>exact fun _=>⟨0,by omega,.stop a⟩
 |redE _ h=>exact fun he=>absurd he h
 |redL _ _=>exact fun he=>absurd he (by decide)
 |red _ _ _ ih=>exact fun he=>by obtain⟨j,a,b⟩:=ih he;exact⟨j,by omega,b⟩
 |tgtE _ _ h _=>exact fun he=>absurd he h
 |tgtN a b c _=>exact fun _=>⟨_,by omega,.tgtN a b c⟩
 |tgtRE _ _ _ h _=>exact fun he=>absurd he h
 |tgtRL _ _ _ _ _=>exact fun he=>absurd he (by decide)
 |tgtR _ b _ _ _ _ ih=>exact fun he=>by obtain⟨j,a,c⟩:=ih he;exact⟨j,by have:=b.nn;omega,c⟩
theorem On.det{Y Y':Tm}{d d':Bool}{e e' k k':Int}(h:On l x Y d e k)(h':On l x Y' d' e' k'):Y'=Y∧d'=d∧e'=e∧k'=k:=by
 cases h with
 |stop a=>
  cases h' with
  |stop _=>exact⟨rfl,rfl,rfl,rfl⟩
  |redE b=>rw[a]at b;cases b
  |redL b=>rw[a]at b;cases b
  |red b=>rw[a]at b;cases b
  |tgtE b=>rw[a]at b;cases b
  |tgtN b=>rw[a]at b;cases b
  |tgtRE b=>rw[a]at b;cases b
  |tgtRL b=>rw[a]at b;cases b
  |tgtR b=>rw[a]at b;cases b
 |redE a c=>
  cases h' with
  |redE b=>rw[a]at b;cases b;exact⟨rfl,rfl,rfl,rfl⟩
  |redL b=>rw[a]at b;cases b;exact absurd rfl c
  |red b=>rw[a]at b;cases b;exact absurd rfl c
  |stop b=>rw[a]at b;cases b
  |tgtE b=>rw[a]at b;cases b
  |tgtN b=>rw[a]at b;cases b
  |tgtRE b=>rw[a]at b;cases b
  |tgtRL b=>rw[a]at b;cases b
  |tgtR b=>rw[a]at b;cases b
 |redL a c=>
  cases h' with
  |redE b d=>rw[a]at b;cases b;exact absurd rfl d
  |redL b=>exact⟨rfl,rfl,rfl,rfl⟩
  |red b d=>rw[a]at b;cases b;rw[c]at d;cases d
  |stop b=>rw[a]at b;cases b
  |tgtE b=>rw[a]at b;cases b
  |tgtN b=>rw[a]at b;cases b
  |tgtRE b=>rw[a]at b;cases b
  |tgtRL b=>rw[a]at b;cases b
  |tgtR b=>rw[a]at b;cases b
 |red a c=>
  cases h' with
  |redE b d=>rw[a]at b;cases b;exact absurd rfl d
  |redL b d=>rw[a]at b;cases b;rw[c]at d;cases d
  |red b d=>rw[a]at b;cases b;exact⟨rfl,rfl,rfl,rfl⟩
  |stop b=>rw[a]at b;cases b
  |tgtE b=>rw[a]at b;cases b
  |tgtN b=>rw[a]at b;cases b
  |tgtRE b=>rw[a]at b;cases b
  |tgtRL b=>rw[a]at b;cases b
  |tgtR b=>rw[a]at b;cases b
 |tgtE a c f=>
  cases h' with
  |stop b=>rw[a]at b;cases b
  |redE b=>rw[a]at b;cases b
  |redL b=>rw[a]at b;cases b
  |red b=>rw[a]at b;cases b
  |tgtE b g=>rw[a]at b;cases b;obtain⟨-,rfl,rfl⟩:=c.det g;exact⟨rfl,rfl,rfl,rfl⟩
  |tgtN b g=>rw[a]at b;cases b;exact absurd (c.det g).2.1.symm f
  |tgtRE b g=>rw[a]at b;cases b;exact absurd (c.det g).2.1.symm f
  |tgtRL b g=>rw[a]at b;cases b;exact absurd (c.det g).2.1.symm f
  |tgtR b g=>rw[a]at b;cases b;exact absurd (c.det g).2.1.symm f
 |tgtN a c f=>
  cases h' with
  |stop b=>rw[a]at b;cases b
  |redE b=>rw[a]at b;cases b
  |redL b=>rw[a]at b;cases b
  |red b=>rw[a]at b;cases b
  |tgtE b g n=>rw[a]at b;cases b;exact absurd (c.det g).2.1 n
  |tgtN b g=>rw[a]at b;cases b;obtain⟨-,-,rfl⟩:=c.det g;exact⟨rfl,rfl,rfl,rfl⟩
  |tgtRE b g n=>rw[a]at b;cases b;obtain⟨rfl,-,-⟩:=c.det g;rw[f]at n;cases n
  |tgtRL b g n=>rw[a]at b;cases b;obtain⟨rfl,-,-⟩:=c.det g;rw[f]at n;cases n
  |tgtR b g n=>rw[a]at b;cases b;obtain⟨rfl,-,-⟩:=c.det g;rw[f]at n;cases n
 |tgtRE a c f n0=>
  cases h' with
  |stop b=>rw[a]at b;cases b
  |redE b=>rw[a]at b;cases b
  |redL b=>rw[a]at b;cases b
  |red b=>rw[a]at b;cases b
  |tgtE b g n=>rw[a]at b;cases b;exact absurd (c.det g).2.1 n
  |tgtN b g n=>rw[a]at b;cases b;obtain⟨rfl,-,-⟩:=c.det g;rw[f]at n;cases n
  |tgtRE b g n=>rw[a]at b;cases b;obtain⟨rfl,-,rfl⟩:=c.det g;rw[f]at n;cases n;exact⟨rfl,rfl,rfl,rfl⟩
  |tgtRL b g n=>rw[a]at b;cases b;obtain⟨rfl,-,-⟩:=c.det g;rw[f]at n;cases n;exact absurd rfl n0
  |tgtR b g n=>rw[a]at b;cases b;obtain⟨rfl,-,-⟩:=c.det g;rw[f]at n;cases n;exact absurd rfl n0
 |tgtRL a c f n0=>
  cases h' with
  |stop b=>rw[a]at b;cases b
  |redE b=>rw[a]at b;cases b
  |redL b=>rw[a]at b;cases b
  |red b=>rw[a]at b;cases b
  |tgtE b g n=>rw[a]at b;cases b;exact absurd (c.det g).2.1 n
  |tgtN b g n=>rw[a]at b;cases b;obtain⟨rfl,-,-⟩:=c.det g;rw[f]at n;cases n
  |tgtRE b g n m=>rw[a]at b;cases b;obtain⟨rfl,-,-⟩:=c.det g;rw[f]at n;cases n;exact absurd rfl m
  |tgtRL b g n=>rw[a]at b;cases b;obtain⟨rfl,-,rfl⟩:=c.det g;exact⟨rfl,rfl,rfl,rfl⟩
  |tgtR b g n m=>rw[a]at b;cases b;obtain⟨rfl,-,-⟩:=c.det g;rw[f]at n;cases n;rw[n0]at m;cases m
 |tgtR a c f n0=>
  cases h' with
  |stop b=>rw[a]at b;cases b
  |redE b=>rw[a]at b;cases b
  |redL b=>rw[a]at b;cases b
  |red b=>rw[a]at b;cases b
  |tgtE b g n=>rw[a]at b;cases b;exact absurd (c.det g).2.1 n
  |tgtN b g n=>rw[a]at b;cases b;obtain⟨rfl,-,-⟩:=c.det g;rw[f]at n;cases n
  |tgtRE b g n m=>rw[a]at b;cases b;obtain⟨rfl,-,-⟩:=c.det g;rw[f]at n;cases n;exact absurd rfl m
  |tgtRL b g n m=>rw[a]at b;cases b;obtain⟨rfl,-,-⟩:=c.det g;rw[f]at n;cases n;rw[n0]at m;cases m
  |tgtR b g n=>rw[a]at b;cases b;obtain⟨rfl,-,rfl⟩:=c.det g;rw[f]at n;cases n;exact⟨rfl,rfl,rfl,rfl⟩
end
section
variable {l:List yE} {x y:Tm} {e k:Int}
theorem On.tgt_lt{a Y:Tm}{d:Bool}{f:Int}(h:On l x Y d e k)(ha:wS l x = .tgt a)(hl:∀z e k,Br l a z e k->f<k):f<k:=by
 cases h with
 |stop b=>rw[ha]at b;cases b
 |redE b=>rw[ha]at b;cases b
 |redL b=>rw[ha]at b;cases b
 |red b=>rw[ha]at b;cases b
 |tgtE b g=>rw[ha]at b;cases b;exact hl _ _ _ g
 |tgtN b g=>rw[ha]at b;cases b;exact hl _ _ _ g
 |tgtRE b g=>rw[ha]at b;cases b;exact hl _ _ _ g
 |tgtRL b g=>rw[ha]at b;cases b;have:=hl _ _ _ g;omega
 |tgtR b g=>rw[ha]at b;cases b;have:=hl _ _ _ g;omega
theorem On.red_lt{Y Z:Tm}{d:Bool}{e0:Int}(h:On l x Y d e k)(ha:wS l x = .red Z e0)(h0:e0=0):k=1:=by
 subst h0
 cases h with
 |stop b=>rw[ha]at b;cases b
 |redE b c=>rw[ha]at b;cases b;exact absurd rfl c
 |redL b=>rfl
 |red b=>rfl
 |tgtE b g=>rw[ha]at b;cases b
 |tgtN b g=>rw[ha]at b;cases b
 |tgtRE b g=>rw[ha]at b;cases b
 |tgtRL b g=>rw[ha]at b;cases b
 |tgtR b g=>rw[ha]at b;cases b
theorem Br.first(h:Br l x y e k):∃Y d e1 k1,On l x Y d e1 k1∧k1≤k:=by
 cases h with
 |stop a=>exact⟨_,_,_,_,.stop a,by omega⟩
 |redE a b=>exact⟨_,_,_,_,.redE a b,by omega⟩
 |redL a b=>exact⟨_,_,_,_,.redL a b,by omega⟩
 |red a b c=>exact⟨_,_,_,_,.red a b,by have:=c.nn;omega⟩
 |tgtE a b c=>exact⟨_,_,_,_,.tgtE a b c,by omega⟩
 |tgtN a b c=>exact⟨_,_,_,_,.tgtN a b c,by omega⟩
 |tgtRE a b c d=>exact⟨_,_,_,_,.tgtRE a b c d,by omega⟩
 |tgtRL a b c d=>exact⟨_,_,_,_,.tgtRL a b c d,by omega⟩
 |tgtR a b c d f=>exact⟨_,_,_,_,.tgtR a b c d,by have:=f.nn;omega⟩
theorem Br.after{Y:Tm}{k1:Int}(h:Br l x y e k)(hO:On l x Y true 0 k1):∃k2,Br l Y y e k2∧k=k1+k2:=by
 cases hO with
 |red a b=>
  rcases h.inv_red a with⟨c,-⟩|⟨-,c,-⟩|⟨-,-,n,f,g⟩
  ·exact absurd rfl c
  ·rw[b]at c;cases c
  ·exact⟨n,f,by omega⟩
 |tgtR a b c d=>
  obtain⟨z',ea,ka,hb',h3⟩:=h.inv_tgt a
  obtain⟨rfl,rfl,rfl⟩:=b.det hb'
  rcases h3 with⟨f,_⟩|⟨_,⟨f,_⟩|⟨Y,e0,f,g⟩⟩
  ·exact absurd rfl f
  ·rw[c]at f;cases f
  ·rw[c]at f;cases f
   rcases g with⟨g,_⟩|⟨_,g,_⟩|⟨_,_,n,g,rfl⟩
   ·exact absurd rfl g
   ·rw[d]at g;cases g
   ·exact⟨n,g,by omega⟩
end
def e63(b:Nat)(M:wV)(a:Tm):Option Bool:=
 zAB b a 1048577 (M.l.length:Int)>>=fun r1=>
 some r1
theorem c63{b M a r}(h:e63 b M a=some r):Ct 63 [mB M 1,mR M] [.mp 0 0,yV a] (ab r) [mB M 1,mR M] 0:=⟨by
 unfold e63 at h
 obtain⟨r1,h2,h⟩:=zB h
 obtain rfl:=sj h
 exact tF ⟨func63,rfl⟩ 0 [0,1] (pW M<|oC 4 [] (zDx h2) o0),⟨(lz rfl),⟨tv,tv,⟨tv,dT _⟩,tv⟩,tv⟩,(bA (lz rfl) zA),tv,(cE (lz rfl) zA)⟩
def e34(a:Nat)(M:wV)(b:Tm)(c d:Int):Option (Tm×Int×Int×Int):=
 e63 a M b>>=fun r1=>
 if r1 then
 e64 a M b c d>>=fun r4=>
 if r4.2.1 != 0 then
 some ((Tm.mk 0 0 []),r4.2.1,r4.2.2.1,r4.2.2.2)
 else
 e65 a r4.1>>=fun r7=>
 some (r7,0,r4.2.2.1,r4.2.2.2)
 else
 some ((Tm.mk 0 0 []),5,c,d)
theorem q34:Qf 34 Tryz.f34:=⟨func34,rfl⟩
theorem c34{a M b c d r}(h:e34 a M b c d=some r):Ct 34 [mB M 1,mR M,.cells [ai c,ai d]] [.mp 0 0,yV b,.mp 2 0] (.tup [yV r.1,ai r.2.1]) [mB M 1,mR M,.cells [ai r.2.2.1,ai r.2.2.2]] 0:=⟨by
 unfold e34 at h
 obtain⟨r1,h2,h⟩:=zB h
 obtain⟨h3,h⟩|⟨h3,h⟩:=zK h
 obtain⟨r4,h5,h⟩:=zB h
 have k:=oC 2 [0,1,2] (c64 h5)<|oK 1 [0,1] h3 (c63 h2) o0
 obtain⟨h6,h⟩|⟨h6,h⟩:=zK h
 cases h
 exact tF q34 1 [0,1,2] (oD (dT ([]:zR))<|pW M<|oB 3 h6 k)
 obtain⟨r7,h8,h⟩:=zB h
 cases h
 exact tF q34 1 [0,1,2] (oD (dT r7.sub)<|pW M<|oC 1 [] (c65 h8)<|oB 3 h6 k)
 cases h
 exact tF q34 2 [0,1,2] (oD (dT ([]:zR))<|pW M<|oK 1 [0,1] h3 (c63 h2) o0),⟨(lz rfl),⟨tv,tv,⟨tv,dT _⟩,tv⟩,(lz rfl),tv⟩,(bA (lz rfl) (zD ⟨tv,tv,tv⟩ zA)),⟨⟨tv,tv,dT _,tv⟩,tv,tv⟩,(cE (lz rfl) (zD ⟨tv,tv,tv⟩ zA))⟩
theorem Br.shaped{l:List yE}{x y:Tm}{e k:Int}(h:Br l x y e k):zI x=true->e=0->zI y=true:=by
 induction h with
 |stop _=>exact fun hs _=>hs
 |redE _ h=>exact fun _ he=>absurd he h
 |redL _ _=>exact fun _ he=>absurd he (by decide)
 |red _ hY _ ih=>exact fun _ he=>ih hY he
 |tgtE _ _ h _=>exact fun _ he=>absurd he h
 |tgtN _ _ _ _=>exact fun hs _=>hs
 |tgtRE _ _ _ h _=>exact fun _ he=>absurd he h
 |tgtRL _ _ _ _ _=>exact fun _ he=>absurd he (by decide)
 |tgtR _ _ _ hY _ _ ih=>exact fun _ he=>ih hY he
theorem zBt{Q:(Int->Int->Tm×Bool×Int×Int×Int)->Int->Prop}(p Y:Tm)(f:Int)(hf:0≤f)(ho:Y.Ok)(hL:zI Y=false->Q (fun L U=>(zT,true,2,L,U)) 1)(hS:zI Y=true->Q (fun L U=>(Y,true,0,L,U)) 1){S:Prop}(hsh:f<1->S) :
  Ou (fun L U q=>(aA q L U)>>=fun r28=>if (r28.1 != 0)=true then some (p,false,r28.1,r28.2.1,r28.2.2)else(C6 q Y)>>=fun r31=>some (r31.1,true,r31.2,r28.2.1,r28.2.2)) er5 Q S f:=by
 refine Ou.bind (zQj f hf) hsh (fun r hr=>⟨_,zF.ifT (by show (r.1 != 0)=true;rw[show r.1=8 from hr];decide) zF.ret,hr⟩) ?_
 rintro R k k0 k1 ⟨rfl,rfl⟩
 dsimp only
 refine Ou.ifF rfl (Ou.evt (zFY Y ho) ?_)
 unfold zUe
 cases h:zI Y with
 |true=>exact Ou.ret (by omega) (hS h)
 |false=>exact Ou.ret (by omega) (hL h)
theorem zDQ(l:List yE)(p:Tm)(f:Int)(hf:0≤f){g:Int->Int->Nat->Option (Tm×Bool×Int×Int×Int)}(h:Ou g er5 (QF l p) (∃a,wS l p = .tgt a∧∀z e k,Br l a z e k->f<k) f) :
  Ou (fun L U q=>g L U q>>=fun r36=>if r36.2.1=true then(if (r36.2.2.1 != 0)=true then some (p,false,r36.2.2.1,r36.2.2.2.1,r36.2.2.2.2)else
   (aA q r36.2.2.2.1 r36.2.2.2.2)>>=fun r40=>if (r40.1 != 0)=true then some (p,false,r40.1,r40.2.1,r40.2.2)else(C6 q r36.1)>>=fun r43=>some (r43.1,true,r43.2,r40.2.1,r40.2.2))
   else(if (r36.2.2.1 != 0)=true then some (p,false,r36.2.2.1,r36.2.2.2.1,r36.2.2.2.2)else some (p,false,r36.2.2.1,r36.2.2.2.1,r36.2.2.2.2))) er5 (QO l p) (∀Y d e k,On l p Y d e k->f<k) f:=by
 refine Ou.bind h (fun⟨a,ha,h⟩ Y d e k hO=>hO.tgt_lt ha h) (fun r hr=>?_) ?_
 ·have hr':(r.2.2.1 != 0)=true:=by rw[show r.2.2.1=8 from hr];decide
  cases hd:r.2.1 with
  |true=>exact⟨_,zF.ifT rfl (zF.ifT hr' zF.ret),hr⟩
  |false=>exact⟨_,zF.ifF rfl (zF.ifT hr' zF.ret),hr⟩
 ·rintro R k k0 k1 (⟨ha,rfl,Y,rfl⟩|⟨a,z,e,ha,hb,⟨he,Y,rfl⟩|⟨rfl,⟨hr,Y,rfl⟩|⟨Y,e',hY,hr,rfl⟩⟩⟩)
  ·exact Ou.ifF rfl (Ou.ifF rfl (Ou.ret (by omega) ⟨p,false,0,On.stop ha,rfl⟩))
  ·dsimp only
   exact Ou.ifF rfl (Ou.ifT (by simpa using he) (Ou.ret (by omega) ⟨p,false,e,by rw[Int.add_zero];exact On.tgtE ha hb he,rfl⟩))
  ·exact Ou.ifF rfl (Ou.ifF rfl (Ou.ret (by omega) ⟨p,false,0,by rw[Int.add_zero];exact On.tgtN ha hb hr,rfl⟩))
  ·dsimp only
   refine Ou.ifT rfl (Ou.ite (fun h=>?_) fun h=>?_)
   ·exact Ou.ret (by omega) ⟨p,false,e',by rw[Int.add_zero];exact On.tgtRE ha hb hr (by simpa using h),rfl⟩
   ·have he:e'=0:=by simpa using h
    subst he
    refine zBt p Y (f-k) (by omega) hY (fun hs=>⟨_,_,_,On.tgtRL ha hb hr hs,rfl⟩) (fun hs=>⟨_,_,_,On.tgtR ha hb hr hs,rfl⟩) (fun h Y' d' e' k' hO=>?_)
    cases hsY:zI Y with
    |true=>have:=(On.tgtR ha hb hr hsY).det hO;omega
    |false=>have:=(On.tgtRL ha hb hr hsY).det hO;omega
theorem zNe{N:ByteArray->Bool}(l:List yE)(hE:vP N l)(he:∀e∈l,iH e)(x:Tm)(hs:zI x=true)(f:Int)(hf:0≤f)(hb:∀a∈yX x,HB l a f):Ou (fun L U q=>zNi q (uU l) x L U) er5 (QO l x) (∀Y d e k,On l x Y d e k->f<k) f:=by
 have hB:∀a y k,zI a=true->Br l a y 0 k->zI y=true:=fun a y k h1 h2=>h2.shaped h1 rfl
 have hh:=uP hs
 have hg:=(zM hh).2.2
 have hn:=iK hg
 have ho:uJ (yX x):=fun y hy=>xL (xT hs hy)
 have hl:(yX x).length≤8192:=by
  have h:=zM hs
  have:=sX _ h.2.2
  omega
 refine Ou.succ ?_
 simp only[zNi,J7,S4,iL]
 refine Ou.evt (lI x hs) (Ou.ite (fun h4=>?_) fun h4=>?_)
 ·have h4':(zX x).k=4:=by simpa using h4
  have hkk:∀k:Int,k≠0->vY l (zX x)≠k:=fun k hk e=>by have:=(vN e hk).1;omega
  refine Ou.ite (fun hlen=>?_) fun hlen=>?_
  ·have hlen':((yX x).length:Int)>0:=of_decide_eq_true hlen
   obtain⟨a,b,hab,-,hgb⟩:=sA hg (.inr (.inl h4'))
   have hm:vU (yX x) 0∈yX x:=sH (by omega) (by omega)
   have hbo:(vU (zX x).sub 1).Ok:=by rw[hab];exact sS b hgb
   have hact:wS l x = .red (uI (kE (vU (zX x).sub 1) [vU (yX x) 0]).1 ((yX x).drop 1)) (kE (vU (zX x).sub 1) [vU (yX x) 0]).2:=by
    unfold wS
    rw[if_pos ⟨h4',by omega⟩]
   refine Ou.pure (uR (by omega) (by rw[hab];simp)) (Ou.pure (uR (by omega) (by show (0:Int)<((yX x).length:Int);omega)) (Ou.evt (zTH _ _ hbo (ho _ hm)) (Ou.pure (pA (by omega) (by show (1:Int)≤((yX x).length:Int);omega)) (Ou.evt (sQ _ _ (by show (List.drop _ (yX x)).length<_;rw[List.length_drop];omega)) ?_))))
   refine Ou.ite (fun h=>Ou.ret hf ⟨_,_,_,On.redE hact (by simpa using h),rfl⟩) fun h=>?_
   have he0:(kE (vU (zX x).sub 1) [vU (yX x) 0]).2=0:=by simpa using h
   rw[he0]at hact
   exact zBt x _ f hf (rM _ _ (zHb _ _ hbo (uJ.one (ho _ hm))) (ho.drop _)) (fun hs=>⟨_,_,_,On.redL hact hs,rfl⟩) (fun hs=>⟨_,_,_,On.red hact hs,rfl⟩) (fun h Y' d' e' k' hO=>by have:=hO.red_lt hact rfl;omega)
  ·have hlen':¬((yX x).length:Int)>0:=of_decide_eq_false hlen
   have hact:wS l x = .none:=by
    unfold wS
    rw[if_neg (fun h=>by omega),if_neg (hkk 3 (by decide)),if_neg (hkk 4 (by decide)),if_neg (by omega)]
   refine Ou.evt (iJ l _ hn) (Ou.ifF (by simpa using hkk 3 (by decide)) ?_)
   refine Ou.evt (iJ l _ hn) (Ou.ifF (by simpa using hkk 4 (by decide)) ?_)
   exact Ou.ifF (by show ((zX x).k==7)=false;rw[h4'];decide) (Ou.ret hf ⟨_,_,_,On.stop hact,rfl⟩)
 ·have h4':(zX x).k≠4:=by simpa using h4
  refine Ou.evt (iJ l _ hn) (Ou.ite (fun h=>?_) fun h=>?_)
  ·have h3:vY l (zX x)=3:=by simpa using h
   have hk:=vN h3 (by decide)
   have hact:wS l x = .red (uI (zJ l (zX x).n).body (yX x)) 0:=by
    unfold wS
    rw[if_neg (fun h=>h4' h.1),if_pos h3]
   refine Ou.pure (yH hn hk.2.1) (Ou.evt (sQ _ _ (by show (yX x).length<_;omega)) ?_)
   exact zBt x _ f hf (rM _ _ (he _ (uW hn hk.2.1)).2.1 ho) (fun hs=>⟨_,_,_,On.redL hact hs,rfl⟩) (fun hs=>⟨_,_,_,On.red hact hs,rfl⟩) (fun h Y' d' e' k' hO=>by have:=hO.red_lt hact rfl;omega)
  ·have h3:vY l (zX x)≠3:=by simpa using h
   refine Ou.evt (iJ l _ hn) (Ou.ite (fun h=>?_) fun h=>?_)
   ·exact zDQ l x f hf (zKx l hE x hs f hf h4' (by simpa using h) hb hB)
   ·have h4k:vY l (zX x)≠4:=by simpa using h
    refine Ou.ite (fun h=>zDQ l x f hf (zNf l hE x hs f hf (by simpa using h) hb hB)) fun h=>?_
    have h7:(zX x).k≠7:=by simpa using h
    have hact:wS l x = .none:=by
     unfold wS
     rw[if_neg (fun h=>h4' h.1),if_neg h3,if_neg h4k,if_neg h7]
    exact Ou.ret hf ⟨_,_,_,On.stop hact,rfl⟩
theorem zKw{N:ByteArray->Bool}(l:List yE)(hE:vP N l)(he:∀e∈l,iH e):∀(F n:Nat) (x:Tm),zI x=true->x.nodes≤n->Ou (fun L U q=>C7 q (uU l) L U x.k x.n x.sub) er4 (fun R k=>∃y e,Br l x y e k∧R=fun L U=>(y,e,L,U)) (∀y e k,Br l x y e k->(F:Int)<k) (F:Int):=by
 intro F
 induction F using Nat.strongRecOn with
 |ind F IH=>
  intro n
  induction n with
  |zero=>intro x _ h;have:=wZ x;omega
  |succ n ih=>
   intro x hs hn
   have hg:=(zM hs).2.2
   have hb:∀a∈yX x,HB l a F:=fun a ha=>by
    have:=((gQ x hg).2.2.2.2 a ha).2.1
    refine Ou.succ ?_
    simp only[e64]
    exact ih a (xT hs ha) (by omega)
   refine Ou.succ ?_
   simp only[C7,vW]
   refine Ou.bind (zNe l hE he x hs F (by omega) hb) (fun h y e k hbr=>by obtain⟨Y,d,e1,k1,h1,h2⟩:=hbr.first;have:=h _ _ _ _ h1;omega) (fun r hr=>?_) ?_
   ·have hr':(r.2.2.1 != 0)=true:=by rw[show r.2.2.1=8 from hr];decide
    cases hd:r.2.1 with
    |true=>exact⟨_,zF.ifT rfl (zF.ifT hr' zF.ret),hr⟩
    |false=>exact⟨_,zF.ifF rfl (zF.ifT hr' zF.ret),hr⟩
   ·rintro R k k0 k1 ⟨Y,d,e,hO,rfl⟩
    dsimp only
    by_cases e0:e=0
    ·subst e0
     cases d with
     |true=>
      obtain⟨hY,hk1,hst⟩:=hO.step
      refine Ou.ifT rfl (Ou.ifF rfl ?_)
      have:=IH ((F:Int)-k).toNat (by omega) Y.nodes Y hY (Nat.le_refl _)
      rw[show ((((F:Int)-k).toNat:Nat):Int)=F-k by omega]at this
      refine this.mono ?_ fun h y e k' hbr=>?_
      ·rintro R n _ _ ⟨y,e,hbr,rfl⟩
       exact⟨y,e,hst y e n hbr,rfl⟩
      ·obtain⟨k2,h2,h3⟩:=hbr.after hO
       have:=h _ _ _ h2
       omega
     |false=>
      obtain⟨rfl,hbr⟩:=hO.still
      exact Ou.ifF rfl (Ou.ifF rfl (Ou.ret (by omega) ⟨Y,0,by rwa[Int.add_zero],rfl⟩))
    ·have hb:=hO.err e0
     have hr':(e != 0)=true:=by simpa using e0
     cases d with
     |true=>exact Ou.ifT rfl (Ou.ifT hr' (Ou.ret (by omega) ⟨zT,e,by rwa[Int.add_zero],rfl⟩))
     |false=>exact Ou.ifF rfl (Ou.ifT hr' (Ou.ret (by omega) ⟨zT,e,by rwa[Int.add_zero],rfl⟩))
theorem zUa{N:ByteArray->Bool}(l:List yE)(hE:vP N l)(he:∀e∈l,iH e)(x:Tm)(hs:zI x=true)(f:Int)(hf:0≤f):HB l x f:=by
 refine Ou.succ ?_
 simp only[e64]
 have:=zKw l hE he f.toNat x.nodes x hs (Nat.le_refl _)
 rwa[show ((f.toNat:Nat):Int)=f by omega]at this
def xZ(l:List yE)(x:Tm):Prop:=tL x 1048577 l.length=true
instance (l:List yE) (x:Tm):Decidable (xZ l x):=inferInstanceAs (Decidable (_=true))
theorem xZ.shaped{l:List yE}{x:Tm}(h:xZ l x):zI x=true:=by
 unfold xZ tL at h
 simp only[Bool.and_eq_true]at h
 exact h.1.1
def QBR(l:List yE)(x:Tm)(R:Int->Int->Tm×Int×Int×Int)(k:Int):Prop:=
 (¬xZ l x∧k=0∧R=fun L U=>(zT,5,L,U))∨(xZ l x∧∃y e,Br l x y e k∧R=fun L U=>(if e=0 then y else zT,e,L,U))
theorem m1{N:ByteArray->Bool}(l:List yE)(hE:vP N l)(he:∀e∈l,iH e)(x:Tm)(ho:x.Ok)(f:Int)(hf:0≤f):Ou (fun L U q=>e34 q (uU l) x L U) er4 (QBR l x) (xZ l x∧∀y e k,Br l x y e k->f<k) f:=by
 simp only[e34,e63,J7]
 refine Ou.evt (a:=tL x 1048577 l.length) ((bG x _ _ ho).bind zF.ret) (Ou.ite (fun h=>?_) fun h=>?_)
 ·have hR:xZ l x:=h
  refine Ou.bind (zUa l hE he x hR.shaped f hf) (fun h=>⟨hR,h⟩) (fun r hr=>⟨_,zF.ifT (by show (r.2.1 != 0)=true;rw[show r.2.1=8 from hr];decide) zF.ret,hr⟩) ?_
  rintro R k k0 k1 ⟨y,e,hbr,rfl⟩
  dsimp only
  by_cases e0:e=0
  ·subst e0
   have hy:=hbr.shaped hR.shaped rfl
   refine Ou.ifF rfl (Ou.evt (a:=y) ((gP y (xL hy)).eq (by unfold iE;rw[if_pos hy])) (Ou.ret (by omega) (.inr ⟨hR,y,0,by rwa[Int.add_zero],rfl⟩)))
  ·refine Ou.ifT (by simpa using e0) (Ou.ret (by omega) (.inr ⟨hR,y,e,by rwa[Int.add_zero],?_⟩))
   rw[if_neg e0];rfl
 ·exact Ou.ret hf (.inl ⟨by unfold xZ;rw[h];simp,rfl,rfl⟩)
structure Inv (l:List yE) (I:Tm->Prop):Prop where
 spine:∀t,xC t=true->I t->I (zX t)∧∀a∈yX t,I a
 ap:∀f as0,I f->(∀a∈as0,I a)->I (uI f as0)
 beta:∀(n:Int) (a b x:Tm),I (.mk 4 n [a,b])->I x->I (siT [x] b 0)
 body:∀i:Int,0≤i->i<l.length->(zJ l i).kind=3->I (zJ l i).body
 step:∀(d:Int) (s:Tm) (lev c:Int) (args own:List Tm),I (.mk 7 d [s])->mN l c 2=true->(zJ l c).fam=d->(args.length:Int)=(zJ l d).pars+1+(zJ l d).cons.length->own.length=(uY l c).args.length->(∀a∈args,I a)->(∀a∈own,I a)->I (zNq l d lev c args own)
theorem zQg{l:List yE}{I:Tm->Prop}(hI:Inv l I){x Y:Tm}(hs:zI x=true)(hx:I x)(h:wS l x = .red Y 0):I Y:=by
 have hsp:=hI.spine x (zM hs).2.2 hx
 have hg:=(zM (uP hs)).2.2
 unfold wS at h
 by_cases h1:(zX x).k=4∧0<(yX x).length
 ·rw[if_pos h1]at h
  have hm:vU (yX x) 0∈yX x:=sH (by omega) (by omega)
  obtain⟨a,b,hab,-,-⟩:=sA hg (.inr (.inl h1.1))
  have hhd:zX x = .mk 4 (zX x).n [a,b]:=by rw[←h1.1,←hab,vW]
  injection h with hY he
  rw[(zHG he).2.2.2]at hY
  rw[←hY]
  refine hI.ap _ _ ?_ fun y hy=>hsp.2 y (List.mem_of_mem_drop hy)
  have hb:vU (zX x).sub 1=b:=by rw[hab];rfl
  rw[hb]
  exact hI.beta (zX x).n a b _ (by rw[←hhd];exact hsp.1) (hsp.2 _ hm)
 ·rw[if_neg h1]at h
  by_cases h2:vY l (zX x)=3
  ·rw[if_pos h2]at h
   injection h with hY he
   rw[←hY]
   have hk:=vN h2 (by decide)
   exact hI.ap _ _ (hI.body _ (iK hg) hk.2.1 hk.2.2) hsp.2
  ·rw[if_neg h2]at h
   split at h
   ·split at h<;>cases h
   ·split at h
    ·split at h<;>cases h
    ·cases h
theorem J8{N:ByteArray->Bool}{l:List yE}(hE:vP N l){x a:Tm}(hs:zI x=true)(h:wS l x = .tgt a):a∈yX x∧(vY l (zX x)=4∨((zX x).k=7∧mN l (zX x).n 1=true∧wJ (zJ l (zX x).n)≤(yX x).length)):=by
 have hn:=iK (zM (uP hs)).2.2
 unfold wS at h
 by_cases h1:(zX x).k=4∧0<(yX x).length
 ·rw[if_pos h1]at h;cases h
 ·rw[if_neg h1]at h
  by_cases h2:vY l (zX x)=3
  ·rw[if_pos h2]at h;cases h
  ·rw[if_neg h2]at h
   by_cases h3:vY l (zX x)=4
   ·rw[if_pos h3]at h
    split at h
    ·cases h
    ·injection h with h
     have hk:=vN h3 (by decide)
     have hp:=(yZ (hE.2 _ hn hk.2.1)).2.2.2.1 hk.2.2
     unfold qZ at hp
     simp only[Bool.and_eq_true]at hp
     have hw:=vG hp.1
     have hfam:=wA ((yZ (hE.2 _ hw.1 (by omega))).2.1 hw.2.2.1)
     rw[←h]
     exact⟨sH (by omega) (by omega),.inl h3⟩
   ·rw[if_neg h3]at h
    by_cases h4:(zX x).k=7
    ·rw[if_pos h4]at h
     split at h
     ·rename_i h5
      injection h with h
      have hi:=xM h5.1
      have hfam:=wA ((yZ (hE.2 _ hi.1 hi.2.1)).2.1 hi.2.2)
      have h6:=h5.2
      unfold wJ at h6 h
      rw[if_pos hi.2.2]at h6 h
      rw[←h]
      exact⟨sH (by omega) (by omega),.inr ⟨h4,h5⟩⟩
     ·cases h
    ·rw[if_neg h4]at h;cases h
theorem zKv{N:ByteArray->Bool}{l:List yE}{I:Tm->Prop}(hE:vP N l)(hI:Inv l I){x y Y a:Tm}(hs:zI x=true)(hsy:zI y=true)(hx:I x)(hy:I y)(ha:wS l x = .tgt a)(h:vO l x y=some (Y,0)):I Y:=by
 have hsp:=hI.spine x (zM hs).2.2 hx
 have hsy2:=hI.spine y (zM hsy).2.2 hy
 have hg:=(zM (uP hs)).2.2
 have hox:uJ (yX x):=fun z hz=>xL (xT hs hz)
 have hoy:uJ (yX y):=fun z hz=>xL (xT hsy hz)
 have hlx:(yX x).length≤8192:=by
  have h:=zM hs
  have:=sX _ h.2.2
  omega
 have hly:(yX y).length≤8192:=by
  have h:=zM hsy
  have:=sX _ h.2.2
  omega
 have hca:=(J8 hE hs ha).2
 unfold vO at h
 by_cases h4:vY l (zX x)=4
 ·rw[if_pos h4]at h
  split at h
  ·simp only[Option.some.injEq,Prod.mk.injEq]at h
   have hX:=(nV l (zX x).n ((yX y).drop (zJ l (zX y).n).pars.toNat) hE (hoy.drop _) (by rw[List.length_drop];omega)).2.2.2 h.2
   rw[←h.1]
   refine hI.ap _ _ ?_ fun z hz=>hsp.2 z (List.mem_of_mem_drop hz)
   rw[hX.2.2.2]
   exact hsy2.2 _ (List.mem_of_mem_drop (sH hX.2.1 hX.2.2.1))
  ·cases h
 ·rw[if_neg h4]at h
  obtain⟨h7,-,-⟩:=hca.resolve_left h4
  split at h
  ·simp only[Option.some.injEq,Prod.mk.injEq]at h
   have hX:=(dG l (zX x).n (vU (zX x).sub 0).n (zX y).n ((yX x).take ((zJ l (zX x).n).pars+1+(zJ l (zX x).n).cons.length).toNat) ((yX y).drop (zJ l (zX x).n).pars.toNat) hE (hox.take _) (hoy.drop _) (by rw[List.length_take];omega) (by rw[List.length_drop];omega)).2.2.2 h.2
   rw[←h.1]
   refine hI.ap _ _ ?_ fun z hz=>hsp.2 z (List.mem_of_mem_drop hz)
   obtain⟨-,-,b1,b2,b3,b4,-,-,b5,-⟩:=hX
   rw[b5]
   obtain⟨s,hsb⟩:∃s,(zX x).sub=[s]:=by
    revert hg h7
    generalize zX x=w
    intro hg h7
    obtain⟨kk,nn,ss⟩:=w
    obtain⟨s,hs,-⟩:=(uO (wW hg).1).2.2.2.2.2.2.1 h7
    exact⟨s,hs⟩
   have hhd:zX x = .mk 7 (zX x).n [s]:=by rw[←h7,←hsb,vW]
   exact hI.step _ s _ _ _ _ (by rw[←hhd];exact hsp.1) b1 b2 b3 b4 (fun z hz=>hsp.2 z (List.mem_of_mem_take hz)) (fun z hz=>hsy2.2 z (List.mem_of_mem_drop hz))
  ·cases h
theorem Br.inv{N:ByteArray->Bool}{l:List yE}{I:Tm->Prop}(hE:vP N l)(hI:Inv l I){x y:Tm}{e k:Int}(h:Br l x y e k):zI x=true->e=0->I x->I y:=by
 induction h with
 |stop _=>exact fun _ _ hx=>hx
 |redE _ h=>exact fun _ he=>absurd he h
 |redL _ _=>exact fun _ he=>absurd he (by decide)
 |red a hY _ ih=>exact fun hs he hx=>ih hY he (zQg hI hs hx a)
 |tgtE _ _ h _=>exact fun _ he=>absurd he h
 |tgtN _ _ _ _=>exact fun _ _ hx=>hx
 |tgtRE _ _ _ h _=>exact fun _ he=>absurd he h
 |tgtRL _ _ _ _ _=>exact fun _ he=>absurd he (by decide)
 |tgtR a b c hY _ ih ih2=>
  intro hs he hx
  have hm:=(J8 hE hs a).1
  have hsa:=xT hs hm
  exact ih2 hY he (zKv hE hI hs (b.shaped hsa rfl) hx (ih hsa rfl ((hI.spine _ (zM hs).2.2 hx).2 _ hm)) a c)
theorem zKu{N:ByteArray->Bool}{l:List yE}(hE:vP N l){P:Int->Int->Prop}(hP:∀k n:Int,k≠8->(k=6∨k=7->n<l.length)->P k n):Inv l (xN P) where
 spine:=fun t hg h=>dB t hg h
 ap:=fun f as0 hf ha=>kN as0 f (hP 5 0 (by decide) (by omega)) hf ha
 beta:=fun n a b x h hx=>by
  rw[xN,wR,wR,wR]at h
  exact zAX [x] (fun y hy=>by rw[List.mem_singleton.1 hy];exact hx) b 0 h.2.2.1
 body:=fun i h0 h1 hk=>by
  have hd:=(yZ (hE.2 i h0 h1)).2.2.2.2.1 hk
  unfold C2 at hd
  simp only[Bool.and_eq_true]at hd
  exact o5 (fun k n h=>hP k n h.2 fun h'=>by have:=h.1 h';omega) (bW hd.1)
 step:=fun d s lev c args own h7 hc hf ha ho h1 h2=>by
  have hi:=xM hc
  obtain⟨A,y,hw,-⟩:=sI hE hi.1 hi.2.1 hi.2.2
  rw[xN]at h7
  refine zJZ (hP 4 0 (by decide) (by omega)) (hP 5 0 (by decide) (by omega)) (hP 0 0 (by decide) (by omega)) (hP 2 _ (by decide) (by omega)) (h7.1.resolve_left (by decide)) h1 h2 ?_
  exact zFU (by rw[hw]) (o5 (fun k n h=>hP k n h.2 fun h'=>by have:=h.1 h';omega) (bW (yZ (hE.2 _ hi.1 hi.2.1)).1))
def S5:Nat->zR->Int->Option Int
 |0,_,_=>none
 |a+1,b,c=>
 if decide ((b.length:Int)>0)then
 if decide (c≤8192)then
 zP b (yN ((b.length:Int)-1))>>=fun x3=>
 nE b 0 (yN ((b.length:Int)-1))>>=fun x5=>
 xB 40 ([]:zR) x5>>=fun l7=>
 nE x3.sub 0 (zTv (x3.sub.length:Int) 8193)>>=fun x10=>
 xB 40 l7 x10>>=fun l12=>
 S5 a l12 (yN (c+1))
 else
 some c
 else
 some c
def e4(a:Nat)(d:Tm):Option Int:=
 S5 a [d] 0
theorem zYC:∀a:Nat,(∀ {b c r},S5 a b c=some r->(∀j,dL 0 (pt 4069 Tryz.f4) (sp j 39 0 [(3,zH zC b .full),(4,ai c)]) (⟨[],0,[],0,[]⟩) (fQ 0 (nQ 0 Tryz.f4 (ai r) [] 0) [.blk 0,.seq (pt 255 Tryz.f4)]))∧(∀j,dL 0 (pt 4069 Tryz.f4) (sp j 39 0 [(3,zH zC b (.st 0 3)),(4,ai c)]) (⟨[],0,[0],1,[]⟩) (fQ 0 (nQ 0 Tryz.f4 (ai r) [] 0) [.blk 0,.seq (pt 255 Tryz.f4)]))):=by
 intro a
 induction a with
 |zero=>
  exact fun h=>nn h
 |succ a ih=>
  intro b c r h
  rw[S5]at h
  refine⟨?_,?_⟩
  obtain⟨h1,h⟩|⟨h1,h⟩:=zK h
  have k:=oB 1 h1 o0
  obtain⟨h2,h⟩|⟨h2,h⟩:=zK h
  obtain⟨x3,h4,h⟩:=zB h
  obtain⟨x5,h6,h⟩:=zB h
  obtain⟨l7,h8,h⟩:=zB h
  have k:=oF 5 (zHr (o:=.full) h6)<|oA 2 (xH (o:=.full) h4)<|oB 0 h2 k
  by_cases h9:List.length x5=0
  obtain⟨x10,h11,h⟩:=zB h
  obtain⟨l12,h13,h⟩:=zB h
  have k:=oA 4 (oN h11)<|oP 0 (jI h8 h9) k
  by_cases h14:List.length x10=0
  exact fun j=>lH 1 [] [] [] [3,4] (oD (dT l12)<|oP 0 (jI h13 h14) k) ((ih h).1)
  exact fun j=>lH 1 [] [] [0] [3,4] (oD (dT l12)<|oP 0 (vF h13 h14) k) ((ih h).2)
  obtain⟨x10,h11,h⟩:=zB h
  obtain⟨l12,h13,h⟩:=zB h
  have k:=oA 4 (oN h11)<|oP 0 (vF h8 h9) k
  by_cases h14:List.length x10=0
  exact fun j=>lH 1 [] [] [0] [3,4] (oD (dT l12)<|oP 0 (jI h13 h14) k) ((ih h).2)
  exact fun j=>lH 1 [] [] [1] [3,4] (oD (dT l12)<|oP 0 (vF h13 h14) k) ((ih h).2)
  obtain rfl:=sj h
  exact fun j=>lF 0 [] (oB 0 h2 k)
  obtain rfl:=sj h
  exact fun j=>lF 0 [] (oB 1 h1 o0)
  obtain⟨h1,h⟩|⟨h1,h⟩:=zK h
  have k:=oB 1 h1 o0
  obtain⟨h2,h⟩|⟨h2,h⟩:=zK h
  obtain⟨x3,h4,h⟩:=zB h
  obtain⟨x5,h6,h⟩:=zB h
  obtain⟨l7,h8,h⟩:=zB h
  have k:=oF 5 (zHr (o:=(.st 0 3)) h6)<|oA 2 (xH (o:=(.st 0 3)) h4)<|oB 0 h2 k
  by_cases h9:List.length x5=0
  obtain⟨x10,h11,h⟩:=zB h
  obtain⟨l12,h13,h⟩:=zB h
  have k:=oA 4 (oN h11)<|oP 0 (jI h8 h9) k
  by_cases h14:List.length x10=0
  exact fun j=>lH 1 [] [] [] [3,4] (oD (dT l12)<|oP 0 (jI h13 h14) k) ((ih h).1)
  exact fun j=>lH 1 [] [] [1] [3,4] (oD (dT l12)<|oP 0 (vF h13 h14) k) ((ih h).2)
  obtain⟨x10,h11,h⟩:=zB h
  obtain⟨l12,h13,h⟩:=zB h
  have k:=oA 4 (oN h11)<|oP 0 (vF h8 h9) k
  by_cases h14:List.length x10=0
  exact fun j=>lH 1 [] [] [1] [3,4] (oD (dT l12)<|oP 0 (jI h13 h14) k) ((ih h).2)
  exact fun j=>lH 1 [] [] [2] [3,4] (oD (dT l12)<|oP 0 (vF h13 h14) k) ((ih h).2)
  obtain rfl:=sj h
  exact fun j=>lF 0 [] (oB 0 h2 k)
  obtain rfl:=sj h
  exact fun j=>lF 0 [] (oB 1 h1 o0)
theorem c4{a d r}(h:e4 a d=some r):Ct 4 [] [yV d] (ai r) [] 0:=⟨by
 unfold e4 at h
 exact tH ⟨func4,rfl⟩ 0 [] [] [] [3,4] (oD (dT [d])<|oS 1 (wC wL [d]) o0) ((zYC _ h).1),⟨⟨tv,tv,⟨tv,dT _⟩,tv⟩,tv⟩,zA,tv,zA⟩
mutual
def dH:Nat->zR->Int->Option Int
 |0,_,_=>none
 |c+1,a,b=>
 if decide ((a.length:Int)>0)then
 if decide (b<129)then
 dJ c a b [] 0
 else
 some b
 else
 some b
def dJ:Nat->zR->Int->zR->Int->Option Int
 |0,_,_,_,_=>none
 |c+1,a,b,d,e=>
 if decide (e<(a.length:Int))then
 zP a e>>=fun x7=>
 xB 40 d x7.sub>>=fun l9=>
 dJ c a b l9 (yN (e+1))
 else
 dH c d (yN (b+1))
end
def e28(c:Nat)(f:Tm):Option Int:=
 e4 c f>>=fun r1=>
 if decide (r1>8192)then
 some 129
 else
 dH c [f] 0
theorem q28:Qf 28 f28:=⟨func28,rfl⟩
theorem zBs:∀c:Nat,(∀ {a b r},dH c a b=some r->(∀j,dL 0 (pt 16357 f28) (sp j 37 0 [(3,zH zC a .full),(4,ai b)]) (⟨[],0,[],0,[]⟩) (fQ 0 (nQ 0 f28 (ai r) [] 0) [.blk 0,.seq (pt 1023 f28)]))∧(∀j,dL 0 (pt 16357 f28) (sp j 37 0 [(3,zH zC a (.st 0 3)),(4,ai b)]) (⟨[],0,[0],1,[]⟩) (fQ 0 (nQ 0 f28 (ai r) [] 0) [.blk 0,.seq (pt 1023 f28)])))∧(∀ {a b d e r},dJ c a b d e=some r->(∀j,dL 0 (pt 268007349 f28) (sp j 37 0 [(3,zH zC a .full),(4,ai b),(5,zH zC d (.st 0 3)),(6,ai e)]) (⟨[],0,[0],1,[]⟩) (fQ 0 (nQ 0 f28 (ai r) [] 0) [.blk 2,.seq (pt 4187615 f28),.blk 1,.loop (pt 16357 f28),.blk 0,.seq (pt 1023 f28)]))∧(∀j,dL 0 (pt 268007349 f28) (sp j 37 0 [(3,zH zC a (.st 0 3)),(4,ai b),(5,zH zC d (.st 1 3)),(6,ai e)]) (⟨[],0,[0,1],2,[]⟩) (fQ 0 (nQ 0 f28 (ai r) [] 0) [.blk 2,.seq (pt 4187615 f28),.blk 1,.loop (pt 16357 f28),.blk 0,.seq (pt 1023 f28)]))):=by
 intro c
 induction c with
 |zero=>
  exact⟨fun h=>nn h,fun h=>nn h⟩
 |succ c ih=>
  obtain⟨zHP,gT⟩:=ih
  refine⟨?_,?_⟩
  intro a b r h
  rw[dH]at h
  refine⟨?_,?_⟩
  obtain⟨h4,h⟩|⟨h4,h⟩:=zK h
  have k:=oB 1 h4 o0
  obtain⟨h5,h⟩|⟨h5,h⟩:=zK h
  exact fun j=>lH 1 [(none,5,3)] [] [0] [3,4,5,6] (oD (dT ([]:zR))<|oD (dT a)<|oB 0 h5 k) ((gT h).1)
  obtain rfl:=sj h
  exact fun j=>lF 0 [] (oB 0 h5 k)
  obtain rfl:=sj h
  exact fun j=>lF 0 [] (oB 1 h4 o0)
  obtain⟨h4,h⟩|⟨h4,h⟩:=zK h
  have k:=oB 1 h4 o0
  obtain⟨h5,h⟩|⟨h5,h⟩:=zK h
  exact fun j=>lH 1 [(none,5,3)] [] [0,1] [3,4,5,6] (oD (dT ([]:zR))<|oD (dT a)<|oB 0 h5 k) ((gT h).2)
  obtain rfl:=sj h
  exact fun j=>lF 0 [] (oB 0 h5 k)
  obtain rfl:=sj h
  exact fun j=>lF 0 [] (oB 1 h4 o0)
  intro a b d e r h
  rw[dJ]at h
  refine⟨?_,?_⟩
  obtain⟨h6,h⟩|⟨h6,h⟩:=zK h
  obtain⟨x7,h8,h⟩:=zB h
  obtain⟨l9,h10,h⟩:=zB h
  have k:=oA 0 (xH (o:=.full) h8)<|oB 1 h6 o0
  by_cases h11:List.length x7.sub=0
  exact fun j=>lH 1 [] [] [0] [3,4,5,6] (oD (dT l9)<|oD (dT a)<|oP 1 (jI h10 h11) k) ((gT h).1)
  exact fun j=>lH 1 [] [] [1] [3,4,5,6] (oD (dT l9)<|oD (dT a)<|oP 1 (vF h10 h11) k) ((gT h).1)
  exact fun j=>lH 1 [] [] [0] [3,4] (oD (dT d)<|oB 1 h6 o0) ((zHP h).2)
  obtain⟨h6,h⟩|⟨h6,h⟩:=zK h
  obtain⟨x7,h8,h⟩:=zB h
  obtain⟨l9,h10,h⟩:=zB h
  have k:=oA 0 (xH (o:=(.st 0 3)) h8)<|oB 1 h6 o0
  by_cases h11:List.length x7.sub=0
  exact fun j=>lH 1 [] [] [0,1] [3,4,5,6] (oD (dT l9)<|oD (dT a)<|oP 1 (jI h10 h11) k) ((gT h).2)
  exact fun j=>lH 1 [] [] [0,2] [3,4,5,6] (oD (dT l9)<|oD (dT a)<|oP 1 (vF h10 h11) k) ((gT h).2)
  exact fun j=>lH 1 [] [] [1] [3,4] (oD (dT d)<|oB 1 h6 o0) ((zHP h).2)
theorem c28{c f r}(h:e28 c f=some r):Ct 28 [] [yV f] (ai r) [] 0:=⟨by
 unfold e28 at h
 obtain⟨r1,h2,h⟩:=zB h
 have k:=oC 1 [] (c4 h2) o0
 obtain⟨h3,h⟩|⟨h3,h⟩:=zK h
 obtain rfl:=sj h
 exact tF q28 0 [] (oB 0 h3 k)
 exact tH q28 0 [] [] [] [3,4] (oD (dT [f])<|oS 1 (wC wL [f])<|oB 0 h3 k) (((zBs _).1 h).1),⟨⟨tv,tv,⟨tv,dT _⟩,tv⟩,tv⟩,zA,tv,zA⟩
theorem kV:∀a b:List Tm,yM (a++b)=yM a+yM b
 | [],b=>by simp[yM]
 |t::a,b=>by simp only[List.cons_append,yM,kV a b];omega
theorem oY:∀l:List Tm,l.length≤yM l
 | []=>by simp[yM]
 |t::l=>by rw[yM];have:=oY l;have:=wZ t;simp;omega
theorem gU(t:Tm):t.nodes=1+yM t.sub:=by cases t;rw[Tm.nodes,Tm.sub]
theorem zDR(t:Tm):t.high=1+vB t.sub:=by cases t;rw[Tm.high,Tm.sub]
theorem m3:∀a b:List Tm,vB (a++b)=max (vB a) (vB b)
 | [],b=>by simp[vB]
 |t::a,b=>by simp only[List.cons_append,vB,m3 a b];omega
theorem zNd{α:Type}{l:List α}{a b:Nat}(h1:a≤b)(h2:b≤l.length):nE l (a:Int) (b:Int)=some ((l.drop a).take (b-a)):=by
 unfold nE
 rw[if_pos (by omega),show ((b:Int)-(a:Int)).toNat=b-a by omega,show (a:Int).toNat=a by omega]
theorem zKt{α:Type}(l:List α)(x:α):zP (l++[x]) (l.length:Int)=some x:=by
 unfold zP
 rw[if_pos (by omega)];simp
theorem zKs:∀(m h:Nat) (todo:List Tm),h+m=8193->todo.length≤1+h*8193->zF (fun q=>S5 q todo (h:Int)) ((min (h+yM todo) 8193:Nat):Int):=by
 intro m
 induction m with
 |zero=>
  intro h todo hm hl
  refine zF.succ ?_
  simp only[S5]
  have:h=8193:=by omega
  subst this
  rcases todo with _|⟨x,todo⟩
  ·exact zF.ifF (by simp) (zF.ret.eq (by simp))
  ·refine zF.ifT (by simp<;>omega) (zF.ifF (by simp) (zF.ret.eq ?_))
   have:min (8193+yM (x::todo)) 8193=8193:=by omega
   rw[this]
 |succ m ih=>
  intro h todo hm hl
  refine zF.succ ?_
  simp only[S5]
  rcases List.eq_nil_or_concat todo with rfl|⟨ini,x,rfl⟩
  ·refine zF.ifF (by simp) (zF.ret.eq ?_)
   have:min (h+yM []) 8193=h:=by rw[yM];omega
   rw[this]
  ·simp only[List.concat_eq_append]at hl ⊢
   have hlen:(ini++[x]).length=ini.length+1:=by simp
   have hb:h*8193≤8192*8193:=Nat.mul_le_mul_right _ (by omega)
   have e1:yN (((ini++[x]).length:Int)-1)=(ini.length:Int):=by rw[zW (by omega) (by omega),hlen];omega
   refine zF.ifT (by simp<;>omega) (zF.ifT (by simp<;>omega) ?_)
   rw[e1]
   refine zF.pure (zKt ini x) ?_
   have e2:nE (ini++[x]) 0 (ini.length:Int)=some ini:=by
    have:=zNd (l:=ini++[x]) (a:=0) (b:=ini.length) (by omega) (by omega)
    simpa using this
   refine zF.pure e2 (zF.pure (yU (by simp<;>omega)) ?_)
   have e3:zTv (x.sub.length:Int) 8193=((min x.sub.length 8193:Nat):Int):=by unfold zTv;split<;>omega
   rw[e3]
   have e4:=zNd (l:=x.sub) (a:=0) (b:=min x.sub.length 8193) (by omega) (by omega)
   refine zF.pure (by simpa using e4) (zF.pure (yU (by simp<;>omega)) ?_)
   rw[yB h (by omega)]
   refine(ih (h+1) _ (by omega) (by simp<;>omega)).eq ?_
   have hn:=gU x
   simp only[List.nil_append,kV,yM,Nat.add_zero]
   by_cases hs:x.sub.length≤8193
   ·rw[show min x.sub.length 8193=x.sub.length by omega,List.take_length]
    omega
   ·have h1:=oY (x.sub.take (min x.sub.length 8193))
    have h2:=oY x.sub
    simp only[List.length_take]at h1
    omega
theorem zDS(t:Tm):zF (fun q=>e4 q t) ((min t.nodes 8193:Nat):Int):=by
 simp only[e4]
 refine(zKs 8193 0 [t] (by omega) (by simp)).eq ?_
 simp[yM]
theorem m4:∀l:List Tm,l≠[]->vB l=1+vB (l.flatMap Tm.sub)
 | [t],_=>by simp[vB,zDR t]
 |t::u::l,_=>by
  have h1:=m4 (u::l) (by simp)
  have h2:(t::u::l).flatMap Tm.sub=t.sub++(u::l).flatMap Tm.sub:=rfl
  rw[vB,h1,h2,m3,zDR t];omega
theorem S6:∀l:List Tm,yM l=l.length+yM (l.flatMap Tm.sub)
 | []=>by simp[yM]
 |t::l=>by rw[yM,List.flatMap_cons,kV,S6 l,gU t];simp;omega
theorem zGy:∀(m d:Nat) (l:List Tm),d+m=129->yM l≤8192->zF (fun q=>dH q l (d:Int)) ((min (d+vB l) 129:Nat):Int):=by
 intro m
 induction m with
 |zero=>
  intro d l hm hl
  refine zF.succ ?_
  simp only[dH]
  have:d=129:=by omega
  subst this
  rcases l with _|⟨x,l⟩
  ·exact zF.ifF (by simp) (zF.ret.eq (by simp))
  ·refine zF.ifT (by simp<;>omega) (zF.ifF (by simp) (zF.ret.eq ?_))
   have:min (129+vB (x::l)) 129=129:=by omega
   rw[this]
 |succ m ih=>
  intro d l hm hl
  refine zF.succ ?_
  simp only[dH]
  by_cases h:l=[]
  ·subst h
   refine zF.ifF (by simp) (zF.ret.eq ?_)
   have:min (d+vB []) 129=d:=by rw[vB];omega
   rw[this]
  ·have hpos:0<l.length:=List.length_pos_iff.2 h
   refine zF.ifT (by simp<;>omega) (zF.ifT (by simp<;>omega) ?_)
   have hfn:=S6 l
   have key:∀(r:List Tm) (v:Nat) (acc:List Tm),l.drop v=r->acc.length+yM (r.flatMap Tm.sub)≤8192->zF (fun q=>dJ q l (d:Int) acc (v:Int)) ((min (d+1+vB (acc++r.flatMap Tm.sub)) 129:Nat):Int)∨yM (acc++r.flatMap Tm.sub)>8192:=by
    intro r
    induction r with
    |nil=>
     intro v acc hd ha
     by_cases hn:yM acc≤8192
     ·refine .inl (zF.succ ?_)
      simp only[dJ]
      refine zF.ifF (yO hd) ?_
      rw[yB d (by omega)]
      refine(ih (d+1) acc (by omega) hn).eq (by simp)
     ·exact .inr (by simp<;>omega)
    |cons x r ihr=>
     intro v acc hd ha
     have hlt:=yT hd
     have hll:=oY l
     have hsl:=oY x.sub
     rw[List.flatMap_cons,kV]at ha
     rcases ihr (v+1) (acc++x.sub) (zV hd) (by simp<;>omega)with h1|h1
     ·refine .inl (zF.succ ?_)
      simp only[dJ]
      refine zF.ifT (yL hd) (zF.pure (yC hd) (zF.pure (yU (by omega)) ?_))
      rw[yB v (by omega)]
      refine h1.eq ?_
      rw[List.flatMap_cons,List.append_assoc]
     ·refine .inr ?_
      rw[List.flatMap_cons,←List.append_assoc];exact h1
   rcases key l 0 [] rfl (by simp<;>omega)with h1|h1
   ·refine h1.eq ?_
    rw[m4 l h];simp;omega
   ·simp only[List.nil_append]at h1;omega
def zNc(t:Tm):Int:=if t.nodes≤8192 then((min t.high 129:Nat):Int)else 129
theorem zKr(t:Tm):zF (fun q=>e28 q t) (zNc t):=by
 simp only[e28]
 refine(zDS t).bind ?_
 unfold zNc
 by_cases h:t.nodes≤8192
 ·rw[if_pos h]
  refine zF.ifF (by simp<;>omega) ((zGy 129 0 [t] (by omega) (by simpa[yM]using h)).eq ?_)
  simp[vB]
 ·rw[if_neg h]
  exact zF.ifT (by simp<;>omega) zF.ret
theorem aB{p:Tm}{c:Nat}{m:Int}{X:Nat->Option Bool}{r:Bool}(h:p.sub.length=c->0≤p.n->p.n≤m->zF X r) :
  zF (fun q=>if ((List.length p.sub:Int) != (c:Int))=true then some false else if decide (p.n<0)=true then some false else if decide (p.n>m)=true then some false else X q)
   (decide (p.sub.length=c)&&decide (0≤p.n)&&decide (p.n≤m)&&r):=by
 by_cases h1:p.sub.length=c
 ·refine zF.ifF (by simp<;>omega) ?_
  by_cases h2:p.n<0
  ·exact zF.ifT (by simpa using h2) (zF.ret.eq (by simp<;>omega))
  ·refine zF.ifF (by simpa using h2) ?_
   by_cases h3:p.n>m
   ·exact zF.ifT (by simpa using h3) (zF.ret.eq (by simp<;>omega))
   ·refine zF.ifF (by simpa using h3) ((h h1 (by omega) (by omega)).eq ?_)
    simp[h1,show 0≤p.n by omega,show p.n≤m by omega]
 ·exact zF.ifT (by simp<;>omega) (zF.ret.eq (by simp[h1]))
mutual
def e13:Nat->Tm->Tm->Option Bool
 |0,_,_=>none
 |c+1,a,b=>
 if a.k != b.k then
 some false
 else
 if a.n != b.n then
 some false
 else
 if (a.sub.length:Int) != (b.sub.length:Int)then
 some false
 else
 dK c a b 0
def dK:Nat->Tm->Tm->Int->Option Bool
 |0,_,_,_=>none
 |c+1,a,b,d=>
 if decide (d<(a.sub.length:Int))then
 zP a.sub d>>=fun x5=>
 zP b.sub d>>=fun x7=>
 e13 c x5 x7>>=fun r9=>
 if r9 then
 dK c a b (yN (d+1))
 else
 some false
 else
 some true
end
abbrev K13 (a b:Tm) (r:Bool) (C:Cf):Prop:=C 13 [] [yV a,yV b] (ab r) [] 0
theorem q13:Qf 13 Tryz.f13:=⟨func13,rfl⟩
theorem k13{a b r}(h:K13 a b r Ci):K13 a b r Ct:=⟨h,⟨⟨tv,tv,⟨tv,dT _⟩,tv⟩,⟨tv,tv,⟨tv,dT _⟩,tv⟩,tv⟩,zA,tv,zA⟩
theorem zKq:∀c:Nat,(∀ {a b r},e13 c a b=some r->K13 a b r Ct)∧(∀ {a b d r},dK c a b d=some r->(∀j,dL 0 (pt 4021 Tryz.f13) (sp j 46 0 [(2,.mp 0 0),(3,.mp 1 0),(5,ai d)]) (⟨[(0,.cells [ai a.k,ai a.n,zH zC a.sub .no]),(1,.cells [ai b.k,ai b.n,zH zC b.sub .no])],2,[],0,[]⟩) (fQ 0 (nQ 0 Tryz.f13 (ab r) [] 0) [.blk 0,.seq (pt 63 Tryz.f13)]))):=by
 intro c
 induction c with
 |zero=>
  exact⟨fun h=>nn h,fun h=>nn h⟩
 |succ c ih=>
  obtain⟨zYE,zHQ⟩:=ih
  refine⟨?_,?_⟩
  intro a b r h
  rw[e13]at h
  obtain⟨h1,h⟩|⟨h1,h⟩:=zK h
  cases h
  exact k13 (tF q13 0 [] (oB 2 h1 o0))
  have k:=oB 2 h1 o0
  obtain⟨h2,h⟩|⟨h2,h⟩:=zK h
  cases h
  exact k13 (tF q13 0 [] (oB 2 h2 k))
  have k:=oB 2 h2 k
  obtain⟨h3,h⟩|⟨h3,h⟩:=zK h
  cases h
  exact k13 (tF q13 0 [] (oB 4 h3 k))
  exact k13 (tH q13 0 [] [0,1] [] [2,3,5] (oD (dT b.sub)<|oD (dT a.sub)<|oB 4 h3 k) (zHQ h))
  intro a b d r h
  rw[dK]at h
  obtain⟨h4,h⟩|⟨h4,h⟩:=zK h
  obtain⟨x5,h6,h⟩:=zB h
  obtain⟨x7,h8,h⟩:=zB h
  obtain⟨r9,h10,h⟩:=zB h
  have k:=oA 2 (xH (o:=.no) h8)<|oA 1 (xH (o:=.no) h6)<|oB 2 h4 o0
  obtain⟨h11,h⟩|⟨h11,h⟩:=zK h
  exact fun j=>lH 2 [] [0,1] [] [2,3,5] (oD (dT b.sub)<|oD (dT a.sub)<|oK 1 [] h11 (zYE h10) k) (zHQ h)
  cases h
  exact fun j=>lF 1 [] (oK 1 [] h11 (zYE h10) k)
  cases h
  exact fun j=>lF 0 [] (oB 2 h4 o0)
theorem c13{c a b r}(h:e13 c a b=some r):K13 a b r Ct:=(zKq _).1 h
def zBr(d:Nat)(c a b:Int):Option Int:=
 some b
theorem zQf{d c a b r}(h:zBr d c a b=some r):Ct 62 [.cells [ai c,ai a]] [.mp 0 0,ai b] (.tup []) [.cells [ai r,ai a]] 0:=⟨by
 unfold zBr at h
 obtain rfl:=sj h
 exact tF ⟨func62,rfl⟩ 1 [0] (o0),⟨(lz rfl),tv,tv⟩,(zD ⟨tv,tv,tv⟩ zA),tv,(zD ⟨tv,tv,tv⟩ zA)⟩
def e33(b:Nat)(a:Int):Option ((Int) ⊕ (Int×Int×Int)):=
 if decide (a<0)then
 some (.inl 5)
 else
 if decide (a>1048576)then
 some (.inl 5)
 else
 zBr b 0 0 a>>=fun r3=>
 some (.inr (0,r3,0))
abbrev zYF (a r:Int) (C:Cf):Prop:=C 33 [] [ai a] (.tup [.val (.pointer none),ai r]) [] 0
abbrev zYG (a:Int) (r:Int×Int×Int) (C:Cf):Prop:=C 33 [] [ai a] (.tup [.mp 0 0,ai r.1]) [.cells [ai r.2.1,ai r.2.2]] 0
theorem q33:Qf 33 Tryz.f33:=⟨func33,rfl⟩
theorem c33{b a r}(h:e33 b a=some r):(match (generalizing:=false) r with | .inl x=>zYF a x Ct | .inr x=>zYG a x Ct):=by
 unfold e33 at h
 obtain⟨h1,h⟩|⟨h1,h⟩:=zK h
 cases h
 exact⟨tF q33 0 [] (oB 0 h1 o0),⟨tv,tv⟩,zA,⟨tv,tv,tv⟩,zA⟩
 have k:=oB 0 h1 o0
 obtain⟨h2,h⟩|⟨h2,h⟩:=zK h
 cases h
 exact⟨tF q33 0 [] (oB 0 h2 k),⟨tv,tv⟩,zA,⟨tv,tv,tv⟩,zA⟩
 obtain⟨r3,h4,h⟩:=zB h
 cases h
 exact⟨tF q33 0 [0] (oC 0 [0] (zQf h4)<|oB 0 h2 k),⟨tv,tv⟩,zA,⟨(lz rfl),tv,tv⟩,(zD ⟨tv,tv,tv⟩ zA)⟩
def zBq(g:Nat)(a b:zY)(c:tP)(d e:yD)(f:Tm):Option (Tm×Int):=
 none
abbrev zQc (a b:zY) (c:tP) (d e:yD) (f:Tm) (r:Tm×Int) (C:Cf):Prop:=C 34 [qB a 1 d e,qR b c] [.mp 0 0,yV f,.val (.pointer none)] (.tup [yV r.1,ai r.2]) [qB a 1 d e,qR b c] 0
theorem zQb{g a b c d e f r}(h:zBq g a b c d e f=some r):zQc a b c d e f r Ct:=by
 unfold zBq at h
 cases h
def zBp(b:Nat)(a:Tm):Option (Tm×Int):=
 none
abbrev zQa (a:Tm) (r:Tm×Int) (C:Cf):Prop:=C 34 [] [.val (.pointer none),yV a,.val (.pointer none)] (.tup [yV r.1,ai r.2]) [] 0
theorem zQA{b a r}(h:zBp b a=some r):zQa a r Ct:=by
 unfold zBp at h
 cases h
def zBo(d:Nat)(c:Tm)(a b:Int):Option (Tm×Int):=
 none
abbrev zQB (c:Tm) (a b:Int) (r:Tm×Int) (C:Cf):Prop:=C 34 [.cells [ai a,ai b]] [.val (.pointer none),yV c,.mp 0 0] (.tup [yV r.1,ai r.2]) [.cells [ai a,ai b]] 0
theorem zQC{d c a b r}(h:zBo d c a b=some r):zQB c a b r Ct:=by
 unfold zBo at h
 cases h
def aC(c:Nat)(b a:Int):Option Int:=
 some a
theorem zQD{c b a r}(h:aC c b a=some r):Ct 66 [.cells [ai b,ai a]] [.mp 0 1] (ai r) [.cells [ai b,ai a]] 0:=⟨by
 unfold aC at h
 obtain rfl:=sj h
 exact tF ⟨func66,rfl⟩ 1 [0] (o0),⟨(lz rfl),tv⟩,(zD ⟨tv,tv,tv⟩ zA),tv,(zD ⟨tv,tv,tv⟩ zA)⟩
def e35(c:Nat)(a b:Int):Option Int:=
 aC c a b>>=fun r1=>
 some r1
theorem c35{c a b r}(h:e35 c a b=some r):Ct 35 [.cells [ai a,ai b]] [.mp 0 0] (ai r) [.cells [ai a,ai b]] 0:=⟨by
 unfold e35 at h
 obtain⟨r1,h2,h⟩:=zB h
 obtain rfl:=sj h
 exact tF ⟨func35,rfl⟩ 0 [0] (oC 1 [0] (zQD h2) o0),⟨(lz rfl),tv⟩,(zD ⟨tv,tv,tv⟩ zA),tv,(zD ⟨tv,tv,tv⟩ zA)⟩
def gV(a:Nat)  : Option Int:=
 none
abbrev zQE (r:Int) (C:Cf):Prop:=C 35 [] [.val (.pointer none)] (ai r) [] 0
theorem J9{a r}(h:gV a  = some r):zQE r Ct:=by
 unfold gV at h
 cases h
def e14(a:Nat)(d:zY)(b:Tm)(c:Int):Option (Tm×Int×Int):=
 e32 a d>>=fun r1=>
 match r1 with
 | .inl y21=>
  if y21 != 0 then
  some ((Tm.mk 0 0 []),0,y21)
  else
  e33 a c>>=fun r23=>
  match r23 with
  | .inl y32=>
   if y32 != 0 then
   some ((Tm.mk 0 0 []),0,y32)
   else
   zBp a b>>=fun r34=>
   if r34.2 != 0 then
   some ((Tm.mk 0 0 []),0,r34.2)
   else
   gV a>>=fun r37=>
   some (r34.1,r37,0)
  | .inr y25=>
   if y25.1 != 0 then
   some ((Tm.mk 0 0 []),0,y25.1)
   else
   zBo a b y25.2.1 y25.2.2>>=fun r27=>
   if r27.2 != 0 then
   some ((Tm.mk 0 0 []),0,r27.2)
   else
   e35 a y25.2.1 y25.2.2>>=fun r30=>
   some (r27.1,r30,0)
 | .inr y3=>
  if y3.1 != 0 then
  some ((Tm.mk 0 0 []),0,y3.1)
  else
  e33 a c>>=fun r5=>
  match r5 with
  | .inl y14=>
   if y14 != 0 then
   some ((Tm.mk 0 0 []),0,y14)
   else
   zBq a y3.2.1 y3.2.2.2.2.1 y3.2.2.2.2.2 y3.2.2.1 y3.2.2.2.1 b>>=fun r16=>
   if r16.2 != 0 then
   some ((Tm.mk 0 0 []),0,r16.2)
   else
   gV a>>=fun r19=>
   some (r16.1,r19,0)
  | .inr y7=>
   if y7.1 != 0 then
   some ((Tm.mk 0 0 []),0,y7.1)
   else
   e34 a (wV.mk y3.2.1 y3.2.2.2.2.1 y3.2.2.2.2.2 y3.2.2.1 y3.2.2.2.1) b y7.2.1 y7.2.2>>=fun r9=>
   if r9.2.1 != 0 then
   some ((Tm.mk 0 0 []),0,r9.2.1)
   else
   e35 a r9.2.2.1 r9.2.2.2>>=fun r12=>
   some (r9.1,r12,0)
theorem q14:Qf 14 Tryz.f14:=⟨func14,rfl⟩
theorem c14{a d b c r}(h:e14 a d b c=some r):Ct 14 [] [zH yA d .no,yV b,ai c] (.tup [yV r.1,ai r.2.1,ai r.2.2]) [] 0:=⟨by
 unfold e14 at h
 obtain⟨r1,h2,h⟩:=zB h
 rcases r1 with y21|y3
 dsimp only at h
 have k:=oC 0 [] (c32 h2) o0
 obtain⟨h22,h⟩|⟨h22,h⟩:=zK h
 cases h
 exact tF q14 1 [] (oD (dT ([]:zR))<|oB 2 h22 k)
 obtain⟨r23,h24,h⟩:=zB h
 have k:=oB 2 h22 k
 rcases r23 with y32|y25
 dsimp only at h
 have k:=oC 0 [] (c33 h24) k
 obtain⟨h33,h⟩|⟨h33,h⟩:=zK h
 cases h
 exact tF q14 1 [] (oD (dT ([]:zR))<|oB 2 h33 k)
 obtain⟨r34,h35,h⟩:=zB h
 have k:=oC 1 [] (zQA h35)<|oB 2 h33 k
 obtain⟨h36,h⟩|⟨h36,h⟩:=zK h
 cases h
 exact tF q14 1 [] (oD (dT ([]:zR))<|oB 3 h36 k)
 obtain⟨r37,h38,h⟩:=zB h
 cases h
 exact tF q14 1 [] (oD (dT r34.1.sub)<|oC 1 [] (J9 h38)<|oB 3 h36 k)
 dsimp only at h
 have k:=oC 0 [] (c33 h24) k
 obtain⟨h26,h⟩|⟨h26,h⟩:=zK h
 cases h
 exact tF q14 1 [] (oD (dT ([]:zR))<|oB 2 h26 k)
 obtain⟨r27,h28,h⟩:=zB h
 have k:=oC 1 [2] (zQC h28)<|oB 2 h26 k
 obtain⟨h29,h⟩|⟨h29,h⟩:=zK h
 cases h
 exact tF q14 1 [] (oD (dT ([]:zR))<|oB 3 h29 k)
 obtain⟨r30,h31,h⟩:=zB h
 cases h
 exact tF q14 1 [] (oD (dT r27.1.sub)<|oC 1 [2] (c35 h31)<|oB 3 h29 k)
 dsimp only at h
 have k:=oC 0 [] (c32 h2) o0
 obtain⟨h4,h⟩|⟨h4,h⟩:=zK h
 cases h
 exact tF q14 1 [] (oD (dT ([]:zR))<|oB 2 h4 k)
 obtain⟨r5,h6,h⟩:=zB h
 have k:=oB 2 h4 k
 rcases r5 with y14|y7
 dsimp only at h
 have k:=oC 0 [] (c33 h6) k
 obtain⟨h15,h⟩|⟨h15,h⟩:=zK h
 cases h
 exact tF q14 1 [] (oD (dT ([]:zR))<|oB 2 h15 k)
 obtain⟨r16,h17,h⟩:=zB h
 have k:=oC 1 [2,3] (zQb h17)<|oB 2 h15 k
 obtain⟨h18,h⟩|⟨h18,h⟩:=zK h
 cases h
 exact tF q14 1 [] (oD (dT ([]:zR))<|oB 3 h18 k)
 obtain⟨r19,h20,h⟩:=zB h
 cases h
 exact tF q14 1 [] (oD (dT r16.1.sub)<|oC 1 [] (J9 h20)<|oB 3 h18 k)
 dsimp only at h
 have k:=oC 0 [] (c33 h6) k
 obtain⟨h8,h⟩|⟨h8,h⟩:=zK h
 cases h
 exact tF q14 1 [] (oD (dT ([]:zR))<|oB 2 h8 k)
 obtain⟨r9,h10,h⟩:=zB h
 have k:=oC 1 [2,3,4] (c34 h10)<|oB 2 h8 k
 obtain⟨h11,h⟩|⟨h11,h⟩:=zK h
 cases h
 exact tF q14 1 [] (oD (dT ([]:zR))<|oB 3 h11 k)
 obtain⟨r12,h13,h⟩:=zB h
 cases h
 exact tF q14 1 [] (oD (dT r9.1.sub)<|oC 1 [4] (c35 h13)<|oB 3 h11 k),⟨⟨tv,dE _⟩,⟨tv,tv,⟨tv,dT _⟩,tv⟩,tv,tv⟩,zA,⟨⟨tv,tv,dT _,tv⟩,tv,tv,tv⟩,zA⟩
mutual
theorem m5:∀(t:Tm),t.Ok->zF (fun q=>e13 q t t) true
 | .mk k n l,ho=>by
  rw[Tm.Ok]at ho
  refine zF.succ ?_
  simp only[e13]
  exact zF.ifF (by simp) (zF.ifF (by simp) (zF.ifF (by simp) (S7 l (.mk k n l) 0 rfl ho.1 ho.2)))
theorem S7:∀(l:List Tm) (p:Tm) (v:Nat),p.sub.drop v=l->p.sub.length<9223372036854775808->nF l->zF (fun q=>dK q p p (v:Int)) true
 | [],p,v,hd,hl,ho=>by
  refine zF.succ ?_
  simp only[dK]
  exact zF.ifF (yO hd) zF.ret
 |t::l,p,v,hd,hl,ho=>by
  have hlt:=yT hd
  rw[nF]at ho
  refine zF.succ ?_
  simp only[dK]
  refine zF.ifT (yL hd) (zF.pure (yC hd) (zF.pure (yC hd) ((m5 t ho.1).bind (zF.ifT rfl ?_))))
  rw[yB v (by omega)]
  exact S7 l p (v+1) (zV hd) hl ho.2
end
theorem zHS(f:Int)(h0:0≤f)(h1:f≤1048576):zF (fun q=>e33 q f) (.inr (0,f,0)):=by
 simp only[e33]
 exact zF.ifF (decide_eq_false (by omega)) (zF.ifF (decide_eq_false (by omega)) (zF.bind (a:=f) (zF.mk fun _=>rfl) zF.ret))
def zQF(l:List yE)(t:Tm)(f:Int):Prop:=
 (∃y e k,0≤k∧k≤f∧((¬xZ l t∧e=5)∨(xZ l t∧Br l t y e k))∧∀g,k≤g->g≤1048576->zF (fun q=>e14 q l t g) (if e=0 then y else zT,if e=0 then k else 0,e))∨∃r,zF (fun q=>e14 q l t f) r∧r.2.2=8
theorem zNb{N:ByteArray->Bool}(l:List yE)(hn:zF (fun q=>e32 q l) (zFN l true))(hE:vP N l)(he:∀e∈l,iH e)(t:Tm)(ho:t.Ok)(f:Int)(h0:0≤f)(h1:f≤1048576):zQF l t f:=by
 have run:∀g r,0≤g->g≤1048576->zF (fun q=>e34 q (uU l) t g 0) r->zF (fun q=>e14 q l t g) (if r.2.1≠0 then(Tm.mk 0 0 [],0,r.2.1)else(r.1,r.2.2.2,0)):=fun g r g0 g1 h=>by
  simp only[e14]
  refine hn.bind (zF.ifF (by simp) ((zHS g g0 g1).bind (zF.ifF (by simp) (zF.bind (a:=r) h ?_))))
  by_cases e:r.2.1≠0
  ·rw[if_pos e];exact zF.ifT (by simpa using e) zF.ret
  ·rw[if_neg e]
   refine zF.ifF (by simpa using e) (zF.bind (a:=r.2.2.2) (zF.mk fun q=>?_) zF.ret)
   simp only[e35,aC];rfl
 rcases m1 l hE he t ho f h0 with⟨R,k,k0,k1,hQ,h3,-⟩|⟨h,-⟩
 ·left
  rcases hQ with⟨hR,rfl,rfl⟩|⟨hR,y,e,hbr,rfl⟩
  ·refine⟨zT,5,0,k0,k1,.inl ⟨hR,rfl⟩,fun g a b=>?_⟩
   have:=run g _ (by omega) b (h3 g 0 a (by omega) (by omega))
   refine this.eq ?_
   rw[if_pos (by show (5:Int)≠0;decide),if_neg (by decide),if_neg (by decide)];rfl
  ·refine⟨y,e,k,k0,k1,.inr ⟨hR,hbr⟩,fun g a b=>?_⟩
   have:=run g _ (by omega) b (h3 g 0 a (by omega) (by omega))
   refine this.eq ?_
   by_cases e0:e=0
   ·subst e0
    rw[if_neg (by simp),if_pos rfl]
    simp
   ·rw[if_pos (by show e≠0;exact e0),if_neg e0,if_neg e0];rfl
 ·right
  obtain⟨r,h5,h6⟩:=h 0 (by omega) (by omega)
  have h6':r.2.1=8:=h6
  refine⟨_,run f r h0 h1 h5,?_⟩
  rw[if_pos (by omega)];exact h6'
mutual
theorem zHT:∀(t:Tm) (b:Int),xC t=true->0≤b->bC t b≤1048577
 | .mk k n l,b,hg,hb=>by
  have hh:=wW hg
  have hn:=kA hh.1
  rw[bC]
  split
  ·omega
  ·exact zHU l k 0 b hh.2 hb
theorem zHU:∀(l:List Tm) (k:Int) (i:Nat) (b:Int),wM l=true->0≤b->fF l k i b≤1048577
 | [],k,i,b,_,_=>by rw[fF];omega
 |t::l,k,i,b,hg,hb=>by
  have hc:=xY hg
  have hu:=zAE k i
  have h1:=zHT t (b+bB k i) hc.1 (by omega)
  have h2:=zHU l k (i+1) b hc.2 hb
  rw[fF];omega
end
theorem oZ{l:List yE}{t:Tm}:xZ l t↔zI t=true∧xN (fun k n=>k=6∨k=7->n<l.length) t:=by
 unfold xZ tL
 rw[←bV (Q:=fun n=>n<(l.length:Int)) (by decide) (by decide) t]
 simp only[Bool.and_eq_true,decide_eq_true_eq,List.all_eq_true]
 constructor
 ·rintro ⟨⟨h1,-⟩,h2⟩;exact⟨h1,h2⟩
 ·rintro ⟨h1,h2⟩;exact⟨⟨h1,zHT t 0 (zM h1).2.2 (by omega)⟩,h2⟩
theorem Br.right{N:ByteArray->Bool}{l:List yE}(hE:vP N l){x y:Tm}{k:Int}(h:Br l x y 0 k)(hR:xZ l x):xZ l y:=by
 have hr:=oZ.1 hR
 exact oZ.2 ⟨h.shaped hr.1 rfl,h.inv hE (zKu hE fun k n _ h=>h) hr.1 rfl hr.2⟩
def uS(y:Tm):List Tm:=if y.k=3∨y.k=4 then y.sub else if y.k=5 then yX y else []
def C8(y:Tm)(ps:List Tm):Tm:=if y.k=3∨y.k=4 then .mk y.k 0 ps else if y.k=5 then uI (zX y) ps else y
def nH(P:Tm->Tm->Int->Prop):List Tm->List Tm->Int->Prop
 | [],xs,k=>xs=[]∧k=0
 |t::ts,xs,k=>∃x xs' k1 k2,xs=x::xs'∧P t x k1∧nH P ts xs' k2∧k=k1+k2
def NmN(l:List yE):Nat->Tm->Tm->Int->Prop
 |0,_,_,_=>False
 |n+1,t,x,k=>xZ l t∧∃y k1 ps k2,Br l t y 0 k1∧nH (NmN l n) (uS y) ps k2∧x=C8 y ps∧k=k1+k2
def Nm(l:List yE)(t x:Tm)(k:Int):Prop:=∃n,NmN l n t x k
def NmL(l:List yE)(ts xs:List Tm)(k:Int):Prop:=∃n,nH (NmN l n) ts xs k
section
variable {P P':Tm->Tm->Int->Prop}
theorem nH.len:∀ {ts xs:List Tm} {k:Int},nH P ts xs k->xs.length=ts.length
 | [],_,_,⟨a,_⟩=>by rw[a]
 |_::_,_,_,⟨x,xs',k1,k2,a,_,c,_⟩=>by rw[a,List.length_cons,List.length_cons,nH.len c]
theorem nH.nn(h:∀t x k,P t x k->0≤k):∀ {ts xs:List Tm} {k:Int},nH P ts xs k->0≤k
 | [],_,_,⟨_,a⟩=>by omega
 |_::_,_,_,⟨x,xs',k1,k2,_,b,c,d⟩=>by have:=h _ _ _ b;have:=nH.nn h c;omega
theorem nH.at:∀ {ts xs:List Tm} {k:Int},nH P ts xs k->∀(i:Nat) (h:i<ts.length) (h':i<xs.length),∃k1,P ts[i] xs[i] k1
 | [],_,_,_,i,h,_=>by simp at h
 |_::_,_,_,⟨x,xs',k1,k2,a,b,_,_⟩,0,_,_=>by subst a;exact⟨k1,b⟩
 |_::_,_,_,⟨x,xs',k1,k2,a,_,c,_⟩,i+1,h,h'=>by
  subst a
  exact nH.at c i (by simpa using h) (by simpa using h')
theorem nH.self:∀ {ts:List Tm},(∀t∈ts,P t t 0)->nH P ts ts 0
 | [],_=>⟨rfl,rfl⟩
 |t::ts,h=>⟨t,ts,0,0,rfl,h t (by simp),nH.self fun x hx=>h x (by simp[hx]),rfl⟩
theorem nH.mem:∀ {ts xs:List Tm} {k:Int},nH P ts xs k->∀x∈xs,∃t∈ts,∃k1,P t x k1
 | [],_,_,⟨a,_⟩,x,hx=>by rw[a]at hx;cases hx
 |t::_,_,_,⟨y,xs',k1,k2,a,b,c,_⟩,x,hx=>by
  subst a
  rcases List.mem_cons.1 hx with rfl|hx
  ·exact⟨t,by simp,k1,b⟩
  ·obtain⟨t',h1,h2⟩:=nH.mem c x hx
   exact⟨t',by simp[h1],h2⟩
end
theorem NmN.nn{l:List yE}:∀ {n:Nat} {t x:Tm} {k:Int},NmN l n t x k->0≤k
 |0,_,_,_,h=>h.elim
 |n+1,t,x,k,⟨_,y,k1,ps,k2,a,b,_,d⟩=>by
  have:=a.nn
  have:=nH.nn (fun _ _ _ h=>NmN.nn h) b
  omega
theorem NmL.nn{l:List yE}{t x:List Tm}{k:Int}:NmL l t x k->0≤k:=fun⟨_,a⟩=>nH.nn (fun _ _ _ h=>NmN.nn h) a
theorem Nm.inv{l:List yE}{t x:Tm}{k:Int}(h:Nm l t x k):∃y k1 ps k2,xZ l t∧Br l t y 0 k1∧NmL l (uS y) ps k2∧x=C8 y ps∧k=k1+k2:=by
 obtain⟨n,h⟩:=h
 cases n with
 |zero=>exact h.elim
 |succ n=>
  obtain⟨hR,y,k1,ps,k2,a,b,c,d⟩:=h
  exact⟨y,k1,ps,k2,hR,a,⟨n,b⟩,c,d⟩
theorem C9:∀(l:List Tm) (f:Tm),zX (uI f l)=zX f
 | [],f=>by rw[uI]
 |a::l,f=>by rw[uI,C9 l,kC]
theorem dM:∀(l:List Tm) (f:Tm),yX (uI f l)=yX f++l
 | [],f=>by rw[uI,List.append_nil]
 |a::l,f=>by rw[uI,dM l,qO];simp
theorem zHW:∀(l:List Tm) (f:Tm),l≠[]->(uI f l).k=5
 | [],_,h=>absurd rfl h
 | [a],f,_=>by rw[uI,uI,Tm.k]
 |a::b::l,f,_=>by rw[uI];exact zHW (b::l) _ (by simp)
theorem zYI{y:Tm}(hg:xC y=true)(h:y.k=5):yX y≠[]:=by
 obtain⟨a,b,hs,-,-⟩:=sA hg (.inr (.inr h))
 obtain⟨k,n,l⟩:=y
 have h':k=5:=h
 have hs':l=[a,b]:=hs
 subst h';subst hs'
 rw[qO];simp
theorem D0{y:Tm}{ps:List Tm}(hs:zI y=true)(hl:ps.length=(uS y).length):uS (C8 y ps)=ps∧C8 (C8 y ps) ps=C8 y ps∧(zX (C8 y ps)=zX y∧(yX (C8 y ps)).length=(yX y).length∨(y.k=3∨y.k=4)):=by
 have hg:=(zM hs).2.2
 unfold uS at hl
 by_cases h1:y.k=3∨y.k=4
 ·have e:C8 y ps = .mk y.k 0 ps:=by unfold C8;rw[if_pos h1]
  rw[e]
  refine⟨?_,?_,.inr h1⟩
  ·unfold uS;rw[if_pos (by simpa[Tm.k]using h1)];rfl
  ·unfold C8;rw[if_pos (by simpa[Tm.k]using h1)];rfl
 ·rw[if_neg h1]at hl
  by_cases h2:y.k=5
  ·rw[if_pos h2]at hl
   have e:C8 y ps=uI (zX y) ps:=by unfold C8;rw[if_neg h1,if_pos h2]
   have hne:ps≠[]:=fun h=>by
    have:=zYI hg h2
    rw[h]at hl
    exact this (List.length_eq_zero_iff.1 hl.symm)
   have hk:=zHW ps (zX y) hne
   have hd5:=(gQ y hg).2.1
   have hh:zX (uI (zX y) ps)=zX y:=by rw[C9,rL hd5]
   have ha:yX (uI (zX y) ps)=ps:=by rw[dM,tO hd5,List.nil_append]
   rw[e]
   refine⟨?_,?_,.inl ⟨hh,by rw[ha,hl]⟩⟩
   ·unfold uS;rw[if_neg (by omega),if_pos hk,ha]
   ·unfold C8;rw[if_neg (by omega),if_pos hk,hh]
  ·rw[if_neg h2]at hl
   have hp:ps=[]:=List.length_eq_zero_iff.1 (by simpa using hl)
   have e:C8 y ps=y:=by unfold C8;rw[if_neg h1,if_neg h2]
   rw[e,hp]
   refine⟨?_,?_,.inl ⟨rfl,rfl⟩⟩
   ·unfold uS;rw[if_neg h1,if_neg h2]
   ·unfold C8;rw[if_neg h1,if_neg h2]
theorem zBn{l:List yE}{y:Tm}(h:y.k=3∨y.k=4):¬vZ l y:=fun hc=>by
 have:=(vN hc.1 (by decide)).1
 rw[rL (by omega)]at this
 omega
theorem zQG{l:List yE}{y:Tm}{ps:List Tm}(hs:zI y=true)(hl:ps.length=(uS y).length)(h:vZ l (C8 y ps)):vZ l y∧zX (C8 y ps)=zX y:=by
 rcases(D0 hs hl).2.2 with⟨h1,h2⟩|h3
 ·unfold vZ at h ⊢
  rw[h1,h2]at h
  exact⟨h,h1⟩
 ·have e:C8 y ps = .mk y.k 0 ps:=by unfold C8;rw[if_pos h3]
  rw[e]at h
  exact absurd h (zBn (by simpa[Tm.k]using h3))
theorem S8{l:List yE}{x y:Tm}:vO l x y=none ↔ ¬(vZ l y∧(zJ l (zX y).n).fam=if vY l (zX x)=4 then(zJ l (zX x).n).fam else(zX x).n):=by
 unfold vO
 by_cases h:vY l (zX x)=4
 ·rw[if_pos h,if_pos h]
  by_cases h2:vZ l y∧(zJ l (zX y).n).fam=(zJ l (zX x).n).fam
  ·rw[if_pos h2];simp[h2]
  ·rw[if_neg h2];simp only[true_iff];exact h2
 ·rw[if_neg h,if_neg h]
  by_cases h2:vZ l y∧(zJ l (zX y).n).fam=(zX x).n
  ·rw[if_pos h2];simp[h2]
  ·rw[if_neg h2];simp only[true_iff];exact h2
theorem zNa{N:ByteArray->Bool}{l:List yE}(hE:vP N l){x y:Tm}(hs:zI y=true)(hh:zX x=zX y)(ha:(yX x).length=(yX y).length):(wS l y = .none->wS l x = .none)∧∀a,wS l y = .tgt a->∃i:Int,0≤i∧i<(yX y).length∧a=vU (yX y) i∧wS l x = .tgt (vU (yX x) i):=by
 have hn:=iK (zM (uP hs)).2.2
 unfold wS
 rw[hh,ha]
 by_cases h1:(zX y).k=4∧0<(yX y).length
 ·rw[if_pos h1,if_pos h1];exact⟨fun h=>(by cases h),fun a h=>(by cases h)⟩
 ·rw[if_neg h1,if_neg h1]
  by_cases h2:vY l (zX y)=3
  ·rw[if_pos h2,if_pos h2];exact⟨fun h=>(by cases h),fun a h=>(by cases h)⟩
  ·rw[if_neg h2,if_neg h2]
   by_cases h3:vY l (zX y)=4
   ·rw[if_pos h3,if_pos h3]
    by_cases h4:((yX y).length:Int)≤(zJ l (zX y).n).pars
    ·rw[if_pos h4,if_pos h4];exact⟨id,fun a h=>(by cases h)⟩
    ·rw[if_neg h4,if_neg h4]
     have hk:=vN h3 (by decide)
     have hp:=(yZ (hE.2 _ hn hk.2.1)).2.2.2.1 hk.2.2
     unfold qZ at hp
     simp only[Bool.and_eq_true]at hp
     have hw:=vG hp.1
     have hfam:=wA ((yZ (hE.2 _ hw.1 (by omega))).2.1 hw.2.2.1)
     exact⟨fun h=>(by cases h),fun a h=>by injection h with h;exact⟨_,by omega,by omega,h.symm,rfl⟩⟩
   ·rw[if_neg h3,if_neg h3]
    by_cases h4:(zX y).k=7
    ·rw[if_pos h4,if_pos h4]
     by_cases h5:mN l (zX y).n 1=true∧wJ (zJ l (zX y).n)≤(yX y).length
     ·rw[if_pos h5,if_pos h5]
      have hi:=xM h5.1
      have hfam:=wA ((yZ (hE.2 _ hi.1 hi.2.1)).2.1 hi.2.2)
      have h6:wJ (zJ l (zX y).n)=(zJ l (zX y).n).pars+2+(zJ l (zX y).n).cons.length+(zJ l (zX y).n).inds:=by unfold wJ;rw[if_pos hi.2.2]
      exact⟨fun h=>(by cases h),fun a h=>by injection h with h;exact⟨_,by omega,by omega,h.symm,rfl⟩⟩
     ·rw[if_neg h5,if_neg h5];exact⟨id,fun a h=>(by cases h)⟩
    ·rw[if_neg h4,if_neg h4];exact⟨id,fun a h=>(by cases h)⟩
theorem On.still_inv{l:List yE}{y:Tm}{j:Int}(h:On l y y false 0 j):wS l y = .none∨∃a z j',wS l y = .tgt a∧Br l a z 0 j'∧vO l y z=none:=by
 cases h with
 |stop a=>exact .inl a
 |redE _ b=>exact absurd rfl b
 |tgtE _ _ c=>exact absurd rfl c
 |tgtN a b c=>exact .inr ⟨_,_,_,a,b,c⟩
 |tgtRE _ _ _ d=>exact absurd rfl d
theorem zGx{t x:Tm}(h:zI t=true)(hx:x∈t.sub):zI x=true:=by
 obtain⟨k,n,l⟩:=t
 have hs:=zM h
 have hg:=(wW hs.2.2).2
 rw[Tm.nodes,Tm.high]at hs
 have key:∀l:List Tm,wM l=true->∀x∈l,xC x=true∧x.nodes≤yM l∧x.high≤vB l:=by
  intro l
  induction l with
  |nil=>intro _ x hx;cases hx
  |cons a l ih=>
   intro hg x hx
   have hc:=xY hg
   rw[yM,vB]
   rcases List.mem_cons.1 hx with rfl|hx
   ·exact⟨hc.1,by omega,by omega⟩
   ·have:=ih hc.2 x hx;exact⟨this.1,by omega,by omega⟩
 have:=key l hg x hx
 exact oR (by omega) (by omega) this.1
theorem eB{y x:Tm}(h:zI y=true)(hx:x∈uS y):zI x=true:=by
 unfold uS at hx
 split at hx
 ·exact zGx h hx
 ·split at hx
  ·exact xT h hx
  ·cases hx
theorem NmN.again{N:ByteArray->Bool}{l:List yE}(hE:vP N l):∀ {n:Nat} {t x:Tm} {k:Int},NmN l n t x k->zI x=true->NmN l n x x 0
 |0,_,_,_,h,_=>h.elim
 |n+1,t,x,k,⟨hR,y,k1,ps,k2,a,b,c,d⟩,hs=>by
  have hRy:=a.right hE hR
  have hsy:=hRy.shaped
  have hlen:=b.len
  obtain⟨e1,e2,e3⟩:=D0 hsy hlen
  rw[←c]at e1 e2 e3
  have hps:∀p∈ps,NmN l n p p 0:=fun p hp=>by
   obtain⟨q,hq,kq,hn⟩:=b.mem p hp
   exact NmN.again hE hn (eB hs (by rw[e1];exact hp))
  have hn0:∀ {p:Tm},NmN l n p p 0->xZ l p∧Br l p p 0 0:=fun {p} h=>by
   cases n with
   |zero=>exact h.elim
   |succ n=>
    obtain⟨hR,y,k1,ps,k2,a,b,c,d⟩:=h
    have h1:=a.nn
    have h2:=nH.nn (fun _ _ _ h=>NmN.nn h) b
    have hz:k1=0:=by omega
    subst hz
    refine⟨hR,?_⟩
    have hy:y=p:=by
     have key:∀ {x y:Tm} {e k:Int},Br l x y e k->e=0->k≤0->y=x:=fun h=>by
      cases h with
      |stop _=>exact fun _ _=>rfl
      |redE _ h=>exact fun he=>absurd he h
      |redL _ _=>exact fun he=>absurd he (by decide)
      |red _ _ h=>exact fun _ hk=>by have:=h.nn;omega
      |tgtE _ _ h=>exact fun he=>absurd he h
      |tgtN _ _ _=>exact fun _ _=>rfl
      |tgtRE _ _ _ h=>exact fun he=>absurd he h
      |tgtRL _ _ _ _=>exact fun he=>absurd he (by decide)
      |tgtR _ h1 _ _ h2=>exact fun _ hk=>by have:=h1.nn;have:=h2.nn;omega
     exact key a rfl (Int.le_refl 0)
    rw[hy]at a;exact a
  have hP5:(fun(k n:Int)=>k=6∨k=7->n<(l.length:Int)) 5 0:=fun h=>by omega
  have hyN:=(oZ.1 hRy).2
  have hRx:xZ l x:=by
   refine oZ.2 ⟨hs,?_⟩
   have hpsN:∀p∈ps,xN (fun k n=>k=6∨k=7->n<l.length) p:=fun p hp=>(oZ.1 (hn0 (hps p hp)).1).2
   rw[c]
   unfold C8
   by_cases h1:y.k=3∨y.k=4
   ·rw[if_pos h1,xN,o4]
    exact⟨.inr fun h=>by omega,hpsN⟩
   ·rw[if_neg h1]
    by_cases h2:y.k=5
    ·rw[if_pos h2]
     exact kN ps _ hP5 (dB y (zM hsy).2.2 hyN).1 hpsN
    ·rw[if_neg h2];exact hyN
  have hbr:Br l x x 0 0:=by
   rcases e3 with⟨hh,ha⟩|h34
   ·obtain⟨j,-,hon⟩:=a.last rfl
    have hact:=zNa hE hsy hh ha
    rcases hon.still_inv with h|⟨a',z,j',h1,h2,h3⟩
    ·exact .stop (hact.1 h)
    ·obtain⟨i,i0,i1,i2,i3⟩:=hact.2 a' h1
     have hy5:y.k=5:=by
      by_cases h5:y.k=5
      ·exact h5
      ·rw[tO h5]at i1;simp at i1;omega
     have hpy:uS y=yX y:=by unfold uS;rw[if_neg (by omega),if_pos hy5]
     have hpx:yX x=ps:=by
      have e:x=uI (zX y) ps:=by rw[c];unfold C8;rw[if_neg (by omega),if_pos hy5]
      rw[e,dM,tO (gQ y (zM hsy).2.2).2.1,List.nil_append]
     rw[hpy]at hlen b
     have hi1:i.toNat<(yX y).length:=by omega
     have hi2:i.toNat<ps.length:=by omega
     obtain⟨ki,hki⟩:=b.at i.toNat hi1 hi2
     have ea:a'=(yX y)[i.toNat]:=by rw[i2];unfold vU;rw[List.getElem?_eq_getElem hi1];rfl
     have eb:vU (yX x) i=ps[i.toNat]:=by rw[hpx];unfold vU;rw[List.getElem?_eq_getElem hi2];rfl
     rw[←ea]at hki
     have hself:=hps _ (List.getElem_mem hi2)
     refine .tgtN (i3.trans (by rw[eb])) (hn0 hself).2 ?_
     cases n with
     |zero=>exact hki.elim
     |succ n=>
      obtain⟨hRa,w,w1,qs,w2,u1,u2,u3,u4⟩:=hki
      obtain⟨rfl,-,-⟩:=h2.det u1
      have hsw:=u1.shaped hRa.shaped rfl
      rw[S8]at h3 ⊢
      rw[hh]
      rintro ⟨c1,c2⟩
      rw[u3]at c1 c2
      obtain⟨d1,d2⟩:=zQG hsw u2.len c1
      rw[d2]at c2
      exact h3 ⟨d1,c2⟩
   ·have hx34:x.k=3∨x.k=4:=by rw[c];unfold C8;rw[if_pos h34];simpa[Tm.k]using h34
    refine .stop ?_
    unfold wS
    rw[rL (by omega),tO (by omega)]
    have hk:∀m:Int,m≠0->vY l x≠m:=fun m hm e=>by have:=(vN e hm).1;omega
    rw[if_neg (by simp),if_neg (hk 3 (by decide)),if_neg (hk 4 (by decide)),if_neg (by omega)]
  exact⟨hRx,x,0,ps,0,hbr,by rw[e1];exact nH.self hps,e2.symm,rfl⟩
theorem Br.e8{N:ByteArray->Bool}{l:List yE}(hE:vP N l){x y:Tm}{e k:Int}(h:Br l x y e k):zI x=true->e≠8:=by
 induction h with
 |stop _=>exact fun _=>by decide
 | @redE x Y e a h=>
  intro hs
  unfold wS at a
  split at a
  ·injection a with h1 h2
   rw[←h2];exact zHH _ _
  ·split at a
   ·injection a with h1 h2
    rw[←h2];decide
   ·split at a
    ·split at a<;>cases a
    ·split at a
     ·split at a<;>cases a
     ·cases a
 |redL _ _=>exact fun _=>by decide
 |red _ hY _ ih=>exact fun _=>ih hY
 |tgtE a _ _ ih=>exact fun hs=>ih (xT hs (J8 hE hs a).1)
 |tgtN _ _ _ _=>exact fun _=>by decide
 | @tgtRE x a z Y e k ha hb hr he ih=>
  intro hs
  have hm:=(J8 hE hs ha).1
  have hz:=hb.shaped (xT hs hm) rfl
  have hox:uJ (yX x):=fun z hz=>xL (xT hs hz)
  have hoy:uJ (yX z):=fun w hw=>xL (xT hz hw)
  have hlx:(yX x).length≤8192:=by
   have h:=zM hs
   have:=sX _ h.2.2
   omega
  have hly:(yX z).length≤8192:=by
   have h:=zM hz
   have:=sX _ h.2.2
   omega
  unfold vO at hr
  split at hr
  ·split at hr
   ·simp only[Option.some.injEq,Prod.mk.injEq]at hr
    rw[←hr.2]
    exact(nV l (zX x).n ((yX z).drop (zJ l (zX z).n).pars.toNat) hE (hoy.drop _) (by rw[List.length_drop];omega)).2.2.1
   ·cases hr
  ·split at hr
   ·simp only[Option.some.injEq,Prod.mk.injEq]at hr
    rw[←hr.2]
    exact(dG l (zX x).n (vU (zX x).sub 0).n (zX z).n ((yX x).take ((zJ l (zX x).n).pars+1+(zJ l (zX x).n).cons.length).toNat) ((yX z).drop (zJ l (zX x).n).pars.toNat) hE (hox.take _) (hoy.drop _) (by rw[List.length_take];omega) (by rw[List.length_drop];omega)).2.2.1
   ·cases hr
 |tgtRL _ _ _ _ _=>exact fun _=>by decide
 |tgtR a b c hY _ ih ih2=>exact fun _=>ih2 hY
theorem Br.zero{l:List yE}{x y:Tm}{e k:Int}(h:Br l x y e k):e=0->k≤0->y=x:=by
 cases h with
 |stop _=>exact fun _ _=>rfl
 |redE _ h=>exact fun he=>absurd he h
 |redL _ _=>exact fun he=>absurd he (by decide)
 |red _ _ h=>exact fun _ hk=>by have:=h.nn;omega
 |tgtE _ _ h=>exact fun he=>absurd he h
 |tgtN _ _ _=>exact fun _ _=>rfl
 |tgtRE _ _ _ h=>exact fun he=>absurd he h
 |tgtRL _ _ _ _=>exact fun he=>absurd he (by decide)
 |tgtR _ h1 _ _ h2=>exact fun _ hk=>by have:=h1.nn;have:=h2.nn;omega
theorem Ou.evt0{ρ:Type}{f:Int->Int->Nat->Option ρ}{er:ρ->Int}{Q:(Int->Int->ρ)->Int->Prop}{S:Prop}{l:Int}{R:Int->Int->ρ}(h:∀L U,zF (f L U) (R L U))(h0:0≤l)(k:Q R 0):Ou f er Q S l:=
 .inl ⟨R,0,by omega,h0,k,fun L U _ _ _=>by rw[show L-0=L by omega,show U+0=U by omega];exact h L U,fun L U _ _=>by omega⟩
abbrev PE:=(Tm×Int)×(Tm×Int)
def rG(t:Tm):Tm×Int:=
 if t.k=4 then(vU t.sub 1,0)else
  (.mk 5 0 [(vX t 1 0).1,.mk 1 0 []],if (vX t 1 0).2=0 then(if zI (.mk 5 0 [(vX t 1 0).1,.mk 1 0 []])=true then 0 else 2)else(vX t 1 0).2)
def wB(l:List yE)(c:Int):List Int:=(zJ l (zJ l c).fam).fields
def xU(l:List yE)(t:Tm):Prop:=vZ l t∧wB l (zX t).n≠[]
instance (l:List yE) (t:Tm):Decidable (xU l t):=inferInstanceAs (Decidable (_∧_))
def wN(l:List yE)(t:Tm)(c:Int)(i:Nat)(pars:List Tm):Tm×Int:=
 if xU l t∧(zX t).n=c then(vU (yX t) ((pars.length+i:Nat):Int),0)else
  (.mk 5 0 [uI (.mk 6 (((wB l c)[i]?).getD (-1)) []) pars,t],if zI (.mk 5 0 [uI (.mk 6 (((wB l c)[i]?).getD (-1)) []) pars,t])=true then 0 else 2)
def qI(l:List yE)(t:Tm):List Tm:=(yX t).take (zJ l (zX t).n).pars.toNat
def nI(l:List yE)(x y:Tm)(c:Int)(pars:List Tm):Nat->Nat->List PE
 |0,_=>[]
 |m+1,i=>(wN l x c i pars,wN l y c i pars)::nI l x y c pars m (i+1)
def fM:List Tm->List Tm->List PE
 |a::l,b::m=>((a,0),(b,0))::fM l m
 |_,_=>[]
def zDT(x y:Tm):List PE:=(if (zX x).k=3 then [((vU (zX x).sub 0,0),(vU (zX y).sub 0,0)),((vU (zX x).sub 1,0),(vU (zX y).sub 1,0))]else [])++fM (yX x) (yX y)
inductive Hd where
 |ans (b:Bool)
 |all (ps:List PE)
 |pi (a b c d:Tm)
def pQ(x y:Tm):Hd:=
 if (zX x).k≠(zX y).k∨(zX x).n≠(zX y).n∨(yX x).length≠(yX y).length∨((zX x).k=7∧(vU (zX x).sub 0).n≠(vU (zX y).sub 0).n)then .ans false else .all (zDT x y)
def vC(l:List yE)(m:Bool)(x y:Tm):Hd:=
 if x.k=4∨y.k=4 then .all [(rG x,rG y)]
 else if xU l x then(if xU l y∧(zX x).n≠(zX y).n then .ans false else .all (nI l x y (zX x).n (qI l x) (wB l (zX x).n).length 0))
 else if xU l y then .all (nI l x y (zX y).n (qI l y) (wB l (zX y).n).length 0)
 else if x.k≠y.k then .ans false
 else if x.k=3 then .pi (vU x.sub 0) (vU y.sub 0) (vU x.sub 1) (vU y.sub 1)
 else if x.k=2 then .ans (if m=true then decide (x.n≤y.n)else x.n==y.n)
 else pQ x y
def wO(C:Tm->Tm->Bool->Int->Prop):List PE->Bool->Int->Prop
 | [],b,k=>b=true∧k=0
 |p::r,b,k=>p.1.2=0∧p.2.2=0∧∃b1 k1,C p.1.1 p.2.1 b1 k1∧((b1=false∧b=false∧k=k1)∨(b1=true∧∃k2,wO C r b k2∧k=k1+k2))
def H8(C:Bool->Tm->Tm->Bool->Int->Prop)(m:Bool):Hd->Bool->Int->Prop
 | .ans b0,b,k=>b=b0∧k=0
 | .all ps,b,k=>wO (C false) ps b k
 | .pi a a' c c',b,k=>∃b1 k1,C false a a' b1 k1∧((b1=false∧b=false∧k=k1)∨(b1=true∧∃k2,C m c c' b k2∧k=k1+k2))
def cF(l:List yE):Nat->Bool->Tm->Tm->Bool->Int->Prop
 |0,_,_,_,_,_=>False
 |n+1,m,x,y,b,k=>xZ l x∧xZ l y∧∃x' k1 y' k2 k3,Br l x x' 0 k1∧Br l y y' 0 k2∧H8 (cF l n) m (vC l m x' y') b k3∧k=k1+k2+k3
def Cv(l:List yE)(m:Bool)(x y:Tm)(b:Bool)(k:Int):Prop:=∃n,cF l n m x y b k
section
variable {C C':Tm->Tm->Bool->Int->Prop}
theorem wO.mono(h:∀x y b k,C x y b k->C' x y b k):∀ {ps:List PE} {b:Bool} {k:Int},wO C ps b k->wO C' ps b k
 | [],_,_,a=>a
 |_::_,_,_,⟨a,b,b1,k1,c,d⟩=>⟨a,b,b1,k1,h _ _ _ _ c,d.imp id fun⟨e,k2,f,g⟩=>⟨e,k2,wO.mono h f,g⟩⟩
theorem wO.nn(h:∀x y b k,C x y b k->0≤k):∀ {ps:List PE} {b:Bool} {k:Int},wO C ps b k->0≤k
 | [],_,_,⟨_,a⟩=>by omega
 |_::_,_,_,⟨_,_,b1,k1,c,d⟩=>by
  have:=h _ _ _ _ c
  rcases d with⟨_,_,d⟩|⟨_,k2,d,e⟩
  ·omega
  ·have:=wO.nn h d;omega
theorem wO.det(h:∀x y b k b' k',C x y b k->C' x y b' k'->b'=b∧k'=k):∀ {ps:List PE} {b b':Bool} {k k':Int},wO C ps b k->wO C' ps b' k'->b'=b∧k'=k
 | [],_,_,_,_,⟨a,b⟩,⟨c,d⟩=>by subst a;subst c;exact⟨rfl,by omega⟩
 |_::_,_,_,_,_,⟨_,_,b1,k1,c,d⟩,⟨_,_,b1',k1',c',d'⟩=>by
  obtain⟨rfl,rfl⟩:=h _ _ _ _ _ _ c c'
  rcases d with⟨d1,d2,d3⟩|⟨d1,k2,d2,d3⟩
  ·rcases d' with⟨_,e2,e3⟩|⟨e1,_⟩
   ·subst d2;subst e2;exact⟨rfl,by omega⟩
   ·rw[d1]at e1;cases e1
  ·rcases d' with⟨e1,_⟩|⟨_,k2',e2,e3⟩
   ·rw[d1]at e1;cases e1
   ·obtain⟨rfl,rfl⟩:=wO.det h d2 e2;exact⟨rfl,by omega⟩
end
section
variable {C C':Bool->Tm->Tm->Bool->Int->Prop} {m:Bool}
theorem H8.mono(h:∀m x y b k,C m x y b k->C' m x y b k):∀ {q:Hd} {b:Bool} {k:Int},H8 C m q b k->H8 C' m q b k
 | .ans _,_,_,a=>a
 | .all _,_,_,a=>wO.mono (h false) a
 | .pi _ _ _ _,_,_,⟨b1,k1,c,d⟩=>⟨b1,k1,h _ _ _ _ _ c,d.imp id fun⟨e,k2,f,g⟩=>⟨e,k2,h _ _ _ _ _ f,g⟩⟩
theorem H8.nn(h:∀m x y b k,C m x y b k->0≤k):∀ {q:Hd} {b:Bool} {k:Int},H8 C m q b k->0≤k
 | .ans _,_,_,⟨_,a⟩=>by omega
 | .all _,_,_,a=>wO.nn (h false) a
 | .pi _ _ _ _,_,_,⟨b1,k1,c,d⟩=>by
  have:=h _ _ _ _ _ c
  rcases d with⟨_,_,d⟩|⟨_,k2,d,e⟩
  ·omega
  ·have:=h _ _ _ _ _ d;omega
theorem H8.det(h:∀m x y b k b' k',C m x y b k->C' m x y b' k'->b'=b∧k'=k):∀ {q:Hd} {b b':Bool} {k k':Int},H8 C m q b k->H8 C' m q b' k'->b'=b∧k'=k
 | .ans _,_,_,_,_,⟨a,b⟩,⟨c,d⟩=>by subst a;subst c;exact⟨rfl,by omega⟩
 | .all _,_,_,_,_,a,b=>wO.det (h false) a b
 | .pi _ _ _ _,_,_,_,_,⟨b1,k1,c,d⟩,⟨b1',k1',c',d'⟩=>by
  obtain⟨rfl,rfl⟩:=h _ _ _ _ _ _ _ c c'
  rcases d with⟨d1,d2,d3⟩|⟨d1,k2,d2,d3⟩
  ·rcases d' with⟨_,e2,e3⟩|⟨e1,_⟩
   ·subst d2;subst e2;exact⟨rfl,by omega⟩
   ·rw[d1]at e1;cases e1
  ·rcases d' with⟨e1,_⟩|⟨_,k2',e2,e3⟩
   ·rw[d1]at e1;cases e1
   ·obtain⟨rfl,rfl⟩:=h _ _ _ _ _ _ _ d2 e2;exact⟨rfl,by omega⟩
end
theorem cF.mono{l:List yE}:∀ {n:Nat} {m:Bool} {x y:Tm} {b:Bool} {k:Int},cF l n m x y b k->cF l (n+1) m x y b k
 |0,_,_,_,_,_,h=>h.elim
 |n+1,m,x,y,b,k,⟨r1,r2,x',k1,y',k2,k3,h1,h2,h3,h4⟩=>⟨r1,r2,x',k1,y',k2,k3,h1,h2,h3.mono (fun _ _ _ _ _ h=>cF.mono h),h4⟩
theorem cF.le{l:List yE}{n n':Nat}{m:Bool}{x y:Tm}{b:Bool}{k:Int}(h:cF l n m x y b k)(hm:n≤n'):cF l n' m x y b k:=by
 induction hm with
 |refl=>exact h
 |step _ ih=>exact ih.mono
theorem cF.nn{l:List yE}:∀ {n:Nat} {m:Bool} {x y:Tm} {b:Bool} {k:Int},cF l n m x y b k->0≤k
 |0,_,_,_,_,_,h=>h.elim
 |n+1,m,x,y,b,k,⟨r1,r2,x',k1,y',k2,k3,h1,h2,h3,h4⟩=>by
  have:=h1.nn
  have:=h2.nn
  have:=h3.nn (fun _ _ _ _ _ h=>cF.nn h)
  omega
theorem cF.det{l:List yE}:∀ {n n':Nat} {m:Bool} {x y:Tm} {b b':Bool} {k k':Int},cF l n m x y b k->cF l n' m x y b' k'->b'=b∧k'=k
 |0,_,_,_,_,_,_,_,_,h,_=>h.elim
 |_+1,0,_,_,_,_,_,_,_,_,h=>h.elim
 |n+1,n'+1,m,x,y,b,b',k,k',⟨_,_,x',k1,y',k2,k3,h1,h2,h3,h4⟩,⟨_,_,x1',j1,y1',j2,j3,g1,g2,g3,g4⟩=>by
  obtain⟨rfl,-,rfl⟩:=h1.det g1
  obtain⟨rfl,-,rfl⟩:=h2.det g2
  obtain⟨rfl,rfl⟩:=H8.det (C:=cF l n) (C':=cF l n') (fun _ _ _ _ _ _ _ a b=>cF.det a b) h3 g3
  exact⟨rfl,by omega⟩
theorem Cv.det{l:List yE}{m:Bool}{x y:Tm}{b b':Bool}{k k':Int}:Cv l m x y b k->Cv l m x y b' k'->b'=b∧k'=k:=fun⟨_,a⟩ ⟨_,b⟩=>a.det b
theorem Cv.nn{l:List yE}{m:Bool}{x y:Tm}{b:Bool}{k:Int}:Cv l m x y b k->0≤k:=fun⟨_,a⟩=>a.nn
theorem wO.bound{l:List yE}:∀ {ps:List PE} {b:Bool} {k:Int},wO (Cv l false) ps b k->∃n,wO (cF l n false) ps b k
 | [],_,_,a=>⟨0,a⟩
 |_::_,_,_,⟨a,b,b1,k1,⟨n,c⟩,d⟩=>by
  rcases d with d|⟨e,k2,f,g⟩
  ·exact⟨n,a,b,b1,k1,c,.inl d⟩
  ·obtain⟨n',f⟩:=wO.bound f
   exact⟨max n n',a,b,b1,k1,c.le (by omega),.inr ⟨e,k2,f.mono (fun _ _ _ _ h=>h.le (by omega)),g⟩⟩
theorem H8.bound{l:List yE}{m:Bool}:∀ {q:Hd} {b:Bool} {k:Int},H8 (Cv l) m q b k->∃n,H8 (cF l n) m q b k
 | .ans _,_,_,a=>⟨0,a⟩
 | .all _,_,_,a=>wO.bound a
 | .pi _ _ _ _,_,_,⟨b1,k1,⟨n,c⟩,d⟩=>by
  rcases d with d|⟨e,k2,⟨n',f⟩,g⟩
  ·exact⟨n,b1,k1,c,.inl d⟩
  ·exact⟨max n n',b1,k1,c.le (by omega),.inr ⟨e,k2,f.le (by omega),g⟩⟩
theorem Cv.mk{l:List yE}{m:Bool}{x y x' y':Tm}{b:Bool}{k1 k2 k3:Int}(r1:xZ l x)(r2:xZ l y)(h1:Br l x x' 0 k1)(h2:Br l y y' 0 k2)(h3:H8 (Cv l) m (vC l m x' y') b k3):Cv l m x y b (k1+k2+k3):=by
 obtain⟨n,h3⟩:=h3.bound
 exact⟨n+1,r1,r2,x',k1,y',k2,k3,h1,h2,h3,rfl⟩
theorem Cv.inv{l:List yE}{m:Bool}{x y:Tm}{b:Bool}{k:Int}(h:Cv l m x y b k):xZ l x∧xZ l y∧∃x' k1 y' k2 k3,Br l x x' 0 k1∧Br l y y' 0 k2∧H8 (Cv l) m (vC l m x' y') b k3∧k=k1+k2+k3:=by
 obtain⟨n,h⟩:=h
 cases n with
 |zero=>exact h.elim
 |succ n=>
  obtain⟨r1,r2,x',k1,y',k2,k3,h1,h2,h3,h4⟩:=h
  exact⟨r1,r2,x',k1,y',k2,k3,h1,h2,h3.mono (fun _ _ _ _ _ h=>⟨n,h⟩),h4⟩
def S9(l:List yE)(k n:Int):Nat:=if k=4 then 3 else if k=6∧(zJ l n).kind=2 then 2 else 1
mutual
def sK(l:List yE):Tm->Nat
 | .mk k n s=>S9 l k n+rU l s
def rU(l:List yE):List Tm->Nat
 | []=>0
 |t::s=>sK l t+rU l s
end
theorem D1(l:List yE)(k n:Int):1≤S9 l k n∧S9 l k n≤3:=by unfold S9;split<;>(try split)<;>omega
theorem zBm(l:List yE):∀t:Tm,1≤sK l t
 | .mk k n s=>by rw[sK];have:=D1 l k n;omega
theorem zBl(l:List yE):∀ {s:List Tm} {x:Tm},x∈s->sK l x≤rU l s
 |a::s,x,h=>by
  rw[rU]
  rcases List.mem_cons.1 h with rfl|h
  ·omega
  ·have:=zBl l h;omega
theorem zBk(l:List yE):∀a b:List Tm,rU l (a++b)=rU l a+rU l b
 | [],b=>by simp[rU]
 |t::a,b=>by simp only[List.cons_append,rU,zBk l a b];omega
mutual
theorem zSK(l:List yE):∀(t:Tm) (b c k:Int),sK l (I8 t b c k)≤sK l t
 | .mk kd n s,b,c,k=>by
  rw[I8]
  split
  ·rename_i h
   rw[sK,sK,rU]
   have e:∀m,S9 l 1 m=1:=fun m=>by unfold S9;simp
   have:=(D1 l kd n).1
   rw[e];omega
  ·rw[sK,sK]
   have:=zNA l s kd 0 b c k
   omega
theorem zNA(l:List yE):∀(s:List Tm) (kd:Int) (i:Nat) (b c k:Int),rU l (lfL s kd i b c k)≤rU l s
 | [],_,_,_,_,_=>by rw[lfL];omega
 |t::s,kd,i,b,c,k=>by
  rw[lfL,rU,rU]
  have:=zSK l t (tV kd i b) c k
  have:=zNA l s kd (i+1) b c k
  omega
end
theorem zSL(l:List yE):∀(s:List Tm) (f:Tm),sK l (uI f s)=sK l f+rU l s+s.length
 | [],f=>by rw[uI,rU];simp
 |a::s,f=>by
  have e:S9 l 5 0=1:=by unfold S9;simp
  rw[uI,zSL l s,sK,rU,rU,rU,rU,e,List.length_cons];omega
theorem T3(l:List yE):∀t:Tm,xC t=true->sK l t=sK l (zX t)+rU l (yX t)+(yX t).length:=by
 refine bH ?_ ?_
 ·intro t hg hk
  rw[rL hk,tO hk,rU];simp
 ·intro n a b hg ha hb ih
  have e:S9 l 5 n=1:=by unfold S9;simp
  rw[kC,qO,sK,rU,rU,rU,e,zBk,rU,rU,List.length_append,ih];simp;omega
theorem D2(l:List yE)(t:Tm):sK l t=S9 l t.k t.n+rU l t.sub:=by cases t;rw[sK,Tm.k,Tm.n,Tm.sub]
end Go.Proofs.YtcckelpaoefonaaGreat
