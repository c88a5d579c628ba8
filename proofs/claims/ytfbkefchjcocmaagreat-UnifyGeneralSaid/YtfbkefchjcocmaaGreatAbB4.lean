/- Parts of the proof that the law returns true: walks of the functions, plain laws. -/
import Derived.Test.YtfbkefchjcocmaaGreatAbB3
set_option linter.unusedVariables false
set_option linter.unusedSimpArgs false
set_option linter.unusedSectionVars false
namespace Go.Proofs.YtfbkefchjcocmaaGreat
open Go Go.Ab
def EOk(e:Ent):Prop:=e.type.Ok∧e.body.Ok∧e.cons.length≤1152921504606846976∧e.fields.length≤1152921504606846976
def zE:Ent:=Ent.mk 0 ⟨#[]⟩ zT zT 0 0 0 0 0 [] []
def ent(l:List Ent)(n:Int):Ent:=(l[n.toNat]?).getD zE
theorem yI{l:List Ent}{n:Int}(h0:0≤n)(h1:n<l.length):zR l n=some (ent l n):=by
 unfold zR ent
 rw[if_pos h0]
 have:n.toNat<l.length:=by omega
 rw[List.getElem?_eq_getElem this];rfl
theorem pQ{l:List Ent}{n:Int}(h0:0≤n)(h1:n<l.length):ent l n∈l:=by
 unfold ent
 have:n.toNat<l.length:=by omega
 rw[List.getElem?_eq_getElem this]
 exact List.getElem_mem this
def isT(l:List Ent)(n kind:Int):Bool:=decide (0≤n)&&decide (n<l.length)&&(ent l n).kind==kind
theorem uL{l:List Ent}{n kind:Int}(h:isT l n kind=true):0≤n∧n<l.length∧(ent l n).kind=kind:=by
 unfold isT at h
 simp only[Bool.and_eq_true,decide_eq_true_eq,beq_iff_eq]at h
 exact⟨h.1.1,h.1.2,h.2⟩
theorem zXb(l:List Ent)(n kind:Int):Evt (fun q=>zPm q l n kind) (isT l n kind):=by
 simp only[zPm]
 unfold isT
 by_cases h0:n≥0
 ·refine Evt.ifT (decide_eq_true h0) ?_
  by_cases h1:n<l.length
  ·exact Evt.ifT (decide_eq_true h1) (Evt.pure (yI h0 h1) (Evt.ret.eq (by simp[show 0≤n from h0,h1])))
  ·exact Evt.ifF (decide_eq_false h1) (Evt.ret.eq (by simp[h1]))
 ·exact Evt.ifF (decide_eq_false h0) (Evt.ret.eq (by simp[show ¬0≤n from h0]))
def dK(t:Tm):Bool:=t.k==0&&t.n==0&&(t.sub.length:Int)==0
theorem zGH(t:Tm):Evt (fun q=>zPo q t) (dK t):=by
 refine Evt.mk fun q=>?_
 unfold zPo dK
 by_cases h1:t.k=0<;>by_cases h2:t.n=0<;>by_cases h3:t.sub.length=0<;>simp[h1,h2,h3]
def uM(t:Tm)(n:Int):Bool:=tV t 0 n&&(sW t 8 8).isEmpty
theorem zDh(t:Tm)(n:Int)(ho:t.Ok):Evt (fun q=>zPp q t n) (uM t n):=by
 simp only[zPp]
 refine(iV t 0 n ho).bind ?_
 unfold uM
 by_cases h:tV t 0 n=true
 ·refine Evt.ifT h ((iU t ho).bind (Evt.ret.eq ?_))
  have hs:zL t=true:=by
   unfold tV at h;simp at h;exact h.1.1
  unfold iT
  rw[if_pos hs,h,Bool.true_and,Bool.eq_iff_iff]
  simp only[beq_iff_eq,List.isEmpty_iff]
  constructor
  ·intro h6
   have h6':wH (sW t 8 8)=[]:=List.length_eq_zero_iff.1 (by omega)
   refine List.eq_nil_iff_forall_not_mem.2 fun x hx=>?_
   rw[←pB,h6']at hx;cases hx
  ·intro h6
   rw[h6];rfl
 ·exact Evt.ifF (by simpa using h) (Evt.ret.eq (by simp[h]))
def zEK:List Int->Int->Bool
 | [],_=>true
 |n::r,m=>n==m&&zEK r (m+1)
theorem zIS(l:List Int)(f:Int)(hf:0≤f∧f≤1048576)(hl:l.length≤1152921504606846976):∀(r:List Int) (v:Nat),l.drop v=r->Evt (fun q=>kV q l f (v:Int)) (zEK r (f+v))
 | [],v,hd=>by
  refine Evt.succ ?_
  simp only[kV]
  exact Evt.ifF (zZ hd) Evt.ret
 |n::r,v,hd=>by
  have hlt:=yC hd
  refine Evt.succ ?_
  simp only[kV]
  refine Evt.ifT (zY hd) (Evt.pure (zV hd) ?_)
  rw[yK (x:=f+v) (by omega) (by omega),zEK]
  by_cases h:n=f+v
  ·refine Evt.ifF (by simp[h]) ?_
   rw[zU v (by omega)]
   exact(zIS l f hf hl r (v+1) (zS hd)).eq (by rw[show f+((v+1:Nat):Int)=f+v+1 by omega];simp[h])
  ·exact Evt.ifT (by simp[h]) (Evt.ret.eq (by simp[h]))
theorem zNv(l:List Int)(f:Int)(hf:0≤f∧f≤1048576)(hl:l.length≤1152921504606846976):Evt (fun q=>zPn q l f) (zEK l f):=by
 simp only[zPn]
 exact(zIS l f hf hl l 0 rfl).eq (by simp)
def zDg(l:List Ent)(of kind:Int):List Int->Int->Bool
 | [],_=>true
 |n::r,k=>isT l n kind&&(ent l n).fam==of&&(ent l n).place==k&&zDg l of kind r (k+1)
theorem zBR(l:List Ent)(of kind:Int)(p:List Int)(hp:p.length≤1152921504606846976):∀(r:List Int) (v:Nat),p.drop v=r->Evt (fun q=>kW q l of p kind (v:Int)) (zDg l of kind r v)
 | [],v,hd=>by
  refine Evt.succ ?_
  simp only[kW]
  exact Evt.ifF (zZ hd) Evt.ret
 |n::r,v,hd=>by
  have hlt:=yC hd
  refine Evt.succ ?_
  simp only[kW]
  refine Evt.ifT (zY hd) (Evt.pure (zV hd) ((zXb l n kind).bind ?_))
  rw[zDg]
  by_cases h:isT l n kind=true
  ·have hs:=uL h
   refine Evt.ifT h (Evt.pure (yI hs.1 hs.2.1) ?_)
   by_cases h2:(ent l n).fam=of
   ·refine Evt.ifF (by simp[h2]) ?_
    by_cases h3:(ent l n).place=v
    ·refine Evt.ifF (by simp[h3]) ?_
     rw[zU v (by omega)]
     exact(zBR l of kind p hp r (v+1) (zS hd)).eq (by simp[h,h2,h3])
    ·exact Evt.ifT (by simp[h3]) (Evt.ret.eq (by simp[h3]))
   ·exact Evt.ifT (by simp[h2]) (Evt.ret.eq (by simp[h2]))
  ·exact Evt.ifF (by simpa using h) (Evt.ret.eq (by simp[h]))
theorem zDf(l:List Ent)(of kind:Int)(p:List Int)(hp:p.length≤1152921504606846976):Evt (fun q=>zPl q l of p kind) (zDg l of kind p 0):=by
 simp only[zPl]
 exact(zBR l of kind p hp p 0 rfl).eq (by simp)
def zLe(x:Ent):Bool:=
 decide (0≤x.pars)&&decide (0≤x.inds)&&decide (x.pars≤24)&&decide (x.inds≤24-x.pars)&&x.fam==0&&x.place==0&&dK x.body
def zPk(x:Ent):Bool:=
 (vR x.type (x.pars+x.inds)).2.2==0&&(vR x.type (x.pars+x.inds)).2.1.k==2&&(vR x.type (x.pars+x.inds)).2.1.n==x.level
def zIT(l:List Ent)(i:Int)(x:Ent):Bool:=
 decide (x.cons.length≤16)&&zEK x.cons (i+1)&&zDg l i 2 x.cons 0
def zYA(l:List Ent)(i:Int)(x:Ent):Bool:=
 x.inds==0&&decide (x.cons.length=1)&&zEK x.fields (i+2)&&zDg l i 4 x.fields 0&&(yM (ent l (i+1)).type).2.2==0&&((yM (ent l (i+1)).type).1.length:Int)==x.pars+x.fields.length
def pR(l:List Ent)(i:Int):Bool:=
 zLe (ent l i)&&zPk (ent l i)&&zIT l i (ent l i)&&(decide ((ent l i).fields.length=0)||zYA l i (ent l i))
theorem zPj(l:List Ent)(i:Int)(h0:0≤i)(h1:i<l.length)(hl:l.length≤65535)(he:∀e∈l,EOk e):Evt (fun q=>zSn q l i) (pR l i):=by
 simp only[zSn]
 refine Evt.pure (yI h0 h1) ?_
 have hx:=he _ (pQ h0 h1)
 have hfl:(ent l i).fields.length≤1152921504606846976:=hx.2.2.2
 unfold pR
 by_cases hA:zLe (ent l i)=true
 ·have hA':=hA
  unfold zLe at hA'
  simp only[Bool.and_eq_true,decide_eq_true_eq,beq_iff_eq]at hA'
  obtain⟨⟨⟨⟨⟨⟨a1,a2⟩,a3⟩,a4⟩,a5⟩,a6⟩,a7⟩:=hA'
  refine Evt.ifF (decide_eq_false (by omega)) (Evt.ifF (decide_eq_false (by omega)) (Evt.ifF (decide_eq_false (by omega)) (Evt.ifF (decide_eq_false (by rw[yK (by omega) (by omega)];omega)) (Evt.ifF (by simp[a5]) (Evt.ifF (by simp[a6]) (((zGH _).eq a7).bind (Evt.ifT rfl ?_)))))))
  rw[yK (by omega) (by omega)]
  refine(zAu (ent l i).type _ hx.1).bind ?_
  rw[hA]
  by_cases b1:(vR (ent l i).type ((ent l i).pars+(ent l i).inds)).2.2=0
  ·refine Evt.ifF (by simp[b1]) ?_
   by_cases b2:(vR (ent l i).type ((ent l i).pars+(ent l i).inds)).2.1.k=2
   ·refine Evt.ifF (by simp[b2]) ?_
    by_cases b3:(vR (ent l i).type ((ent l i).pars+(ent l i).inds)).2.1.n=(ent l i).level
    ·refine Evt.ifF (by simp[b3]) ?_
     have hB:zPk (ent l i)=true:=by unfold zPk;simp[b1,b2,b3]
     rw[hB]
     by_cases c1:(ent l i).cons.length≤16
     ·refine Evt.ifF (decide_eq_false (by omega)) ?_
      rw[yK (x:=i+1) (by omega) (by omega)]
      refine(zNv (ent l i).cons (i+1) (by omega) (by omega)).bind ?_
      by_cases c2:zEK (ent l i).cons (i+1)=true
      ·refine Evt.ifT c2 ((zDf l i 2 (ent l i).cons (by omega)).bind ?_)
       by_cases c3:zDg l i 2 (ent l i).cons 0=true
       ·refine Evt.ifT c3 ?_
        have hC:zIT l i (ent l i)=true:=by unfold zIT;simp[c1,c2,c3]
        rw[hC]
        by_cases d0:(ent l i).fields.length=0
        ·exact Evt.ifT (by simp[d0]) (Evt.ret.eq (by simp[d0]))
        ·refine Evt.ifF (by have h:((ent l i).fields.length:Int)≠0:=(by omega);simpa using h) ?_
         rw[show decide ((ent l i).fields.length=0)=false by simp[d0]]
         simp only[Bool.true_and,Bool.false_or]
         unfold zYA
         by_cases d1:(ent l i).inds=0
         ·refine Evt.ifF (by simp[d1]) ?_
          by_cases d2:(ent l i).cons.length=1
          ·refine Evt.ifF (by simp[d2]) ?_
           rw[yK (x:=i+2) (by omega) (by omega)]
           refine(zNv (ent l i).fields (i+2) (by omega) hx.2.2.2).bind ?_
           by_cases d3:zEK (ent l i).fields (i+2)=true
           ·refine Evt.ifT d3 ((zDf l i 4 (ent l i).fields hx.2.2.2).bind ?_)
            by_cases d4:zDg l i 4 (ent l i).fields 0=true
            ·have hi:i+1<l.length:=by
              obtain⟨y,hy⟩:∃y,(ent l i).cons=[y]:=by
               rcases hc:(ent l i).cons with _|⟨y,_|⟨z,r⟩⟩<;>rw[hc]at d2<;>simp at d2
               exact⟨y,rfl⟩
              rw[hy]at c2 c3
              rw[zEK]at c2
              rw[zDg]at c3
              simp only[Bool.and_eq_true,beq_iff_eq]at c2 c3
              have:=uL c3.1.1.1
              omega
             refine Evt.ifT d4 (Evt.pure (yI (by omega) hi) ((zAt _ (he _ (pQ (by omega) hi)).1).bind ?_))
             by_cases d5:(yM (ent l (i+1)).type).2.2=0
             ·refine Evt.ifT (by simp[d5]) (Evt.ret.eq ?_)
              rw[yK (x:=(ent l i).pars+((ent l i).fields.length:Int)) (by omega) (by omega)]
              simp[d1,d2,d3,d4,d5]
             ·exact Evt.ifF (by simp[d5]) (Evt.ret.eq (by simp[d5]))
            ·exact Evt.ifF (by simpa using d4) (Evt.ret.eq (by simp[d4]))
           ·exact Evt.ifF (by simpa using d3) (Evt.ret.eq (by simp[d3]))
          ·exact Evt.ifT (by simp<;>omega) (Evt.ret.eq (by simp[d2]))
         ·exact Evt.ifT (by simp[d1]) (Evt.ret.eq (by simp[d1]))
       ·refine Evt.ifF (by simpa using c3) (Evt.ret.eq ?_)
        unfold zIT;simp[c3]
      ·refine Evt.ifF (by simpa using c2) (Evt.ret.eq ?_)
       unfold zIT;simp[c2]
     ·refine Evt.ifT (decide_eq_true (by omega)) (Evt.ret.eq ?_)
      unfold zIT;simp[c1]
    ·refine Evt.ifT (by simp[b3]) (Evt.ret.eq ?_)
     unfold zPk;simp[b3]
   ·refine Evt.ifT (by simp[b2]) (Evt.ret.eq ?_)
    unfold zPk;simp[b2]
  ·refine Evt.ifT (by simp[b1]) (Evt.ret.eq ?_)
   unfold zPk;simp[b1]
 ·rw[show zLe (ent l i)=false by simpa using hA]
  unfold zLe at hA
  simp only[Bool.and_eq_true,decide_eq_true_eq,beq_iff_eq]at hA
  by_cases a1:(ent l i).pars<0
  ·exact Evt.ifT (decide_eq_true a1) Evt.ret
  refine Evt.ifF (decide_eq_false a1) ?_
  by_cases a2:(ent l i).inds<0
  ·exact Evt.ifT (decide_eq_true a2) Evt.ret
  refine Evt.ifF (decide_eq_false a2) ?_
  by_cases a3:(ent l i).pars>24
  ·exact Evt.ifT (decide_eq_true a3) Evt.ret
  refine Evt.ifF (decide_eq_false a3) ?_
  rw[yK (x:=24-(ent l i).pars) (by omega) (by omega)]
  by_cases a4:(ent l i).inds>24-(ent l i).pars
  ·exact Evt.ifT (decide_eq_true a4) Evt.ret
  refine Evt.ifF (decide_eq_false a4) ?_
  by_cases a5:(ent l i).fam=0
  ·refine Evt.ifF (by simp[a5]) ?_
   by_cases a6:(ent l i).place=0
   ·refine Evt.ifF (by simp[a6]) ((zGH _).bind ?_)
    by_cases a7:dK (ent l i).body=true
    ·exact absurd ⟨⟨⟨⟨⟨⟨by omega,by omega⟩,by omega⟩,by omega⟩,a5⟩,a6⟩,a7⟩ hA
    ·exact Evt.ifF (by simpa using a7) Evt.ret
   ·exact Evt.ifT (by simp[a6]) Evt.ret
  ·exact Evt.ifT (by simp[a5]) Evt.ret
def zPi(qq:Nat)(p0:List Ent)(p1:Int):Option Bool:=
 zR p0 p1>>=fun x1=>
 zPm qq p0 x1.fam 1>>=fun r3=>
 if r3 then
 if decide (x1.fam≥p1)then
 some false
 else
 zR p0 x1.fam>>=fun x7=>
 if x1.pars != x7.pars then
 some false
 else
 zPo qq x1.body>>=fun r10=>
 if r10 then
 if x1.inds != 0 then
 some false
 else
 if x1.level != 0 then
 some false
 else
 if decide ((w64 ((x1.cons.length:Int)+(x1.fields.length:Int)))>0)then
 some false
 else
 if x1.kind==4 then
 if decide (x1.place≥0)then
 if decide (x1.place<(x7.fields.length:Int))then
 zR x7.fields x1.place>>=fun x19=>
 some (x19==p1)
 else
 some false
 else
 some false
 else
 if decide (x1.place≥0)then
 if decide (x1.place<(x7.cons.length:Int))then
 zR x7.cons x1.place>>=fun x23=>
 some (x23==p1)
 else
 some false
 else
 some false
 else
 some false
 else
 some false
theorem zBn:Qf 193 Tryz.f193:=⟨Tryz.func193,rfl⟩
theorem zVS{qq p0 p1 r}(h:zPi qq p0 p1=some r):Ct 193 [] [slv yQ p0 .no,ai p1] (ab r) [] 0:=⟨by
 unfold zPi at h
 obtain⟨x1,h2,h⟩:=zC h
 obtain⟨r3,h4,h⟩:=zC h
 have k:=oA 0 (xM (o:=.no) h2) o0
 obtain⟨h5,h⟩|⟨h5,h⟩:=spl h
 have k:=oK 3 [] h5 (zVP h4) k
 obtain⟨h6,h⟩|⟨h6,h⟩:=spl h
 cases h
 exact tF zBn 0 [] (oB 2 h6 k)
 obtain⟨x7,h8,h⟩:=zC h
 have k:=oA 2 (xM (o:=.no) h8)<|oB 2 h6 k
 obtain⟨h9,h⟩|⟨h9,h⟩:=spl h
 cases h
 exact tF zBn 0 [] (oB 1 h9 k)
 obtain⟨r10,h11,h⟩:=zC h
 have k:=oB 1 h9 k
 obtain⟨h12,h⟩|⟨h12,h⟩:=spl h
 have k:=oK 1 [] h12 (zVM h11) k
 obtain⟨h13,h⟩|⟨h13,h⟩:=spl h
 cases h
 exact tF zBn 0 [] (oB 2 h13 k)
 have k:=oB 2 h13 k
 obtain⟨h14,h⟩|⟨h14,h⟩:=spl h
 cases h
 exact tF zBn 0 [] (oB 1 h14 k)
 have k:=oB 1 h14 k
 obtain⟨h15,h⟩|⟨h15,h⟩:=spl h
 cases h
 exact tF zBn 0 [] (oB 5 h15 k)
 have k:=oA 1 (xM (o:=.no) h8)<|oB 5 h15 k
 obtain⟨h16,h⟩|⟨h16,h⟩:=spl h
 have k:=oA 1 (xM (o:=.no) h8)<|oB 2 h16 k
 obtain⟨h17,h⟩|⟨h17,h⟩:=spl h
 have k:=oB 2 h17 k
 obtain⟨h18,h⟩|⟨h18,h⟩:=spl h
 obtain⟨x19,h20,h⟩:=zC h
 cases h
 exact tF zBn 2 [] (oA 1 (pA (o:=.no) h20)<|oB 2 h18 k)
 cases h
 exact tF zBn 0 [] (oB 2 h18 k)
 cases h
 exact tF zBn 0 [] (oB 2 h17 k)
 have k:=oB 2 h16 k
 obtain⟨h21,h⟩|⟨h21,h⟩:=spl h
 have k:=oB 1 h21 k
 obtain⟨h22,h⟩|⟨h22,h⟩:=spl h
 obtain⟨x23,h24,h⟩:=zC h
 cases h
 exact tF zBn 2 [] (oA 1 (pA (o:=.no) h24)<|oB 2 h22 k)
 cases h
 exact tF zBn 0 [] (oB 2 h22 k)
 cases h
 exact tF zBn 0 [] (oB 1 h21 k)
 cases h
 exact tF zBn 1 [] (oK 1 [] h12 (zVM h11) k)
 cases h
 exact tF zBn 1 [] (oK 3 [] h5 (zVP h4) k),⟨⟨tv,dE _⟩,tv,tv⟩,zB,tv,zB⟩
def zSm(qq:Nat)(p0:List Ent)(p1:Int):Option Bool:=
 zR p0 p1>>=fun x1=>
 zIN qq x1.type>>=fun r3=>
 zPi qq p0 p1>>=fun r5=>
 if r5 then
 if r3.2.2==0 then
 if decide ((r3.1.length:Int)≥x1.pars)then
 zR p0 x1.fam>>=fun x10=>
 zLh qq r3.2.1 x1.fam x1.pars x10.inds (r3.1.length:Int)>>=fun r12=>
 some r12
 else
 some false
 else
 some false
 else
 some false
theorem zVT:Qf 155 Tryz.f155:=⟨Tryz.func155,rfl⟩
theorem yCD{qq p0 p1 r}(h:zSm qq p0 p1=some r):Ct 155 [] [slv yQ p0 .no,ai p1] (ab r) [] 0:=⟨by
 unfold zSm at h
 obtain⟨x1,h2,h⟩:=zC h
 obtain⟨r3,h4,h⟩:=zC h
 obtain⟨r5,h6,h⟩:=zC h
 have k:=oC 1 [] (zVc h4)<|oA 0 (xM (o:=.no) h2) o0
 obtain⟨h7,h⟩|⟨h7,h⟩:=spl h
 have k:=oK 4 [] h7 (zVS h6) k
 obtain⟨h8,h⟩|⟨h8,h⟩:=spl h
 have k:=oA 1 (xM (o:=.no) h2)<|oB 0 h8 k
 obtain⟨h9,h⟩|⟨h9,h⟩:=spl h
 obtain⟨x10,h11,h⟩:=zC h
 obtain⟨r12,h13,h⟩:=zC h
 obtain rfl:=sj h
 exact tF zVT 0 [] (oC 2 [] (zVA h13)<|oA 1 (xM (o:=.no) h11)<|oA 1 (xM (o:=.no) h2)<|oA 1 (xM (o:=.no) h2)<|oA 1 (xM (o:=.no) h2)<|oB 1 h9 k)
 obtain rfl:=sj h
 exact tF zVT 0 [] (oB 1 h9 k)
 obtain rfl:=sj h
 exact tF zVT 0 [] (oB 0 h8 k)
 obtain rfl:=sj h
 exact tF zVT 0 [] (oK 4 [] h7 (zVS h6) k),⟨⟨tv,dE _⟩,tv,tv⟩,zB,tv,zB⟩
def zSl(qq:Nat)(p0:List Ent)(p1:Int):Option Bool:=
 zPi qq p0 p1>>=fun r1=>
 if r1 then
 zR p0 p1>>=fun x4=>
 zDk qq x4.type (w64 (x4.pars+1))>>=fun r6=>
 if r6.2.2==0 then
 zR r6.1 x4.pars>>=fun x9=>
 zLh qq x9 x4.fam x4.pars 0 x4.pars>>=fun r11=>
 some r11
 else
 some false
 else
 some false
theorem zYB:Qf 156 Tryz.f156:=⟨Tryz.func156,rfl⟩
theorem yCE{qq p0 p1 r}(h:zSl qq p0 p1=some r):Ct 156 [] [slv yQ p0 .no,ai p1] (ab r) [] 0:=⟨by
 unfold zSl at h
 obtain⟨r1,h2,h⟩:=zC h
 obtain⟨h3,h⟩|⟨h3,h⟩:=spl h
 obtain⟨x4,h5,h⟩:=zC h
 obtain⟨r6,h7,h⟩:=zC h
 have k:=oC 2 [] (zRU h7)<|oA 1 (xM (o:=.no) h5)<|oA 1 (xM (o:=.no) h5)<|oK 0 [] h3 (zVS h2) o0
 obtain⟨h8,h⟩|⟨h8,h⟩:=spl h
 obtain⟨x9,h10,h⟩:=zC h
 obtain⟨r11,h12,h⟩:=zC h
 obtain rfl:=sj h
 exact tF zYB 0 [] (oC 1 [] (zVA h12)<|oA 1 (xM (o:=.no) h5)<|oA 1 (xM (o:=.no) h5)<|oA 1 (xM (o:=.no) h5)<|oA 1 (yN (o:=.no) h10)<|oA 0 (xM (o:=.no) h5)<|oB 4 h8 k)
 obtain rfl:=sj h
 exact tF zYB 0 [] (oB 4 h8 k)
 obtain rfl:=sj h
 exact tF zYB 1 [] (oK 0 [] h3 (zVS h2) o0),⟨⟨tv,dE _⟩,tv,tv⟩,zB,tv,zB⟩
def zSk(qq:Nat)(p0:List Ent)(p1:Int):Option Bool:=
 zR p0 p1>>=fun x1=>
 zPp qq x1.body p1>>=fun r3=>
 if r3 then
 if x1.fam==0 then
 if x1.place==0 then
 if x1.pars==0 then
 if x1.inds==0 then
 if x1.level==0 then
 some ((w64 ((x1.cons.length:Int)+(x1.fields.length:Int)))==0)
 else
 some false
 else
 some false
 else
 some false
 else
 some false
 else
 some false
 else
 some false
theorem zLd:Qf 157 Tryz.f157:=⟨Tryz.func157,rfl⟩
theorem yCF{qq p0 p1 r}(h:zSk qq p0 p1=some r):Ct 157 [] [slv yQ p0 .no,ai p1] (ab r) [] 0:=⟨by
 unfold zSk at h
 obtain⟨x1,h2,h⟩:=zC h
 obtain⟨r3,h4,h⟩:=zC h
 have k:=oA 0 (xM (o:=.no) h2) o0
 obtain⟨h5,h⟩|⟨h5,h⟩:=spl h
 have k:=oK 3 [] h5 (zVL h4) k
 obtain⟨h6,h⟩|⟨h6,h⟩:=spl h
 have k:=oB 1 h6 k
 obtain⟨h7,h⟩|⟨h7,h⟩:=spl h
 have k:=oB 1 h7 k
 obtain⟨h8,h⟩|⟨h8,h⟩:=spl h
 have k:=oB 1 h8 k
 obtain⟨h9,h⟩|⟨h9,h⟩:=spl h
 have k:=oB 1 h9 k
 obtain⟨h10,h⟩|⟨h10,h⟩:=spl h
 cases h
 exact tF zLd 6 [] (oB 1 h10 k)
 cases h
 exact tF zLd 0 [] (oB 1 h10 k)
 cases h
 exact tF zLd 0 [] (oB 1 h9 k)
 cases h
 exact tF zLd 0 [] (oB 1 h8 k)
 cases h
 exact tF zLd 0 [] (oB 1 h7 k)
 cases h
 exact tF zLd 0 [] (oB 1 h6 k)
 cases h
 exact tF zLd 0 [] (oK 3 [] h5 (zVL h4) k),⟨⟨tv,dE _⟩,tv,tv⟩,zB,tv,zB⟩
def zDe(l:List Ent)(x:Ent):List Int:=if x.kind=4 then(ent l x.fam).fields else(ent l x.fam).cons
def zVU(l:List Ent)(i:Int)(x:Ent):Bool:=
 isT l x.fam 1&&decide (x.fam<i)&&x.pars==(ent l x.fam).pars&&dK x.body&&x.inds==0&&x.level==0&&decide (x.cons.length=0)&&decide (x.fields.length=0)
def zSj(l:List Ent)(i:Int)(x:Ent):Bool:=
 decide (0≤x.place)&&decide (x.place<(zDe l x).length)&&((zDe l x)[x.place.toNat]?).getD (-1)==i
def oZ(l:List Ent)(i:Int):Bool:=zVU l i (ent l i)&&zSj l i (ent l i)
theorem zPh{L:List Int}{n:Int}(h0:0≤n)(h1:n<L.length):zR L n=some ((L[n.toNat]?).getD (-1)):=by
 unfold zR
 rw[if_pos h0]
 have:n.toNat<L.length:=by omega
 rw[List.getElem?_eq_getElem this];rfl
theorem zIU(l:List Ent)(i:Int)(h0:0≤i)(h1:i<l.length)(he:∀e∈l,EOk e):Evt (fun q=>zPi q l i) (oZ l i):=by
 simp only[zPi]
 refine Evt.pure (yI h0 h1) ((zXb l _ 1).bind ?_)
 have hx:=he _ (pQ h0 h1)
 have hc:(ent l i).cons.length≤1152921504606846976:=hx.2.2.1
 have hf:(ent l i).fields.length≤1152921504606846976:=hx.2.2.2
 unfold oZ zVU
 by_cases a1:isT l (ent l i).fam 1=true
 ·have hs:=uL a1
  refine Evt.ifT a1 ?_
  by_cases a2:(ent l i).fam≥i
  ·exact Evt.ifT (decide_eq_true a2) (Evt.ret.eq (by simp[show ¬(ent l i).fam<i by omega]))
  refine Evt.ifF (decide_eq_false a2) (Evt.pure (yI hs.1 hs.2.1) ?_)
  by_cases a3:(ent l i).pars=(ent l (ent l i).fam).pars
  ·refine Evt.ifF (by simp[a3]) ((zGH _).bind ?_)
   by_cases a4:dK (ent l i).body=true
   ·refine Evt.ifT a4 ?_
    by_cases a5:(ent l i).inds=0
    ·refine Evt.ifF (by simp[a5]) ?_
     by_cases a6:(ent l i).level=0
     ·refine Evt.ifF (by simp[a6]) ?_
      rw[yK (x:=((ent l i).cons.length:Int)+((ent l i).fields.length:Int)) (by omega) (by omega)]
      by_cases a7:(ent l i).cons.length=0∧(ent l i).fields.length=0
      ·refine Evt.ifF (decide_eq_false (by omega)) ?_
       have last:∀L:List Int,zDe l (ent l i)=L->Evt (fun _=>if decide ((ent l i).place≥0)=true then if decide ((ent l i).place<(List.length L:Int))=true then(zR L (ent l i).place)>>=fun x19=>some (x19==i)else some false else some false) (zSj l i (ent l i)):=fun L hL=>by
        unfold zSj
        rw[hL]
        by_cases b1:(ent l i).place≥0
        ·refine Evt.ifT (decide_eq_true b1) ?_
         by_cases b2:(ent l i).place<(L.length:Int)
         ·exact Evt.ifT (decide_eq_true b2) (Evt.pure (zPh b1 b2) (Evt.ret.eq (by simp[show 0≤(ent l i).place from b1,b2])))
         ·exact Evt.ifF (decide_eq_false b2) (Evt.ret.eq (by simp[b2]))
        ·exact Evt.ifF (decide_eq_false b1) (Evt.ret.eq (by simp[show ¬0≤(ent l i).place from b1]))
       have e:(isT l (ent l i).fam 1&&decide ((ent l i).fam<i)&&(ent l i).pars==(ent l (ent l i).fam).pars&&dK (ent l i).body&&(ent l i).inds==0&&(ent l i).level==0&&decide ((ent l i).cons.length=0)&&decide ((ent l i).fields.length=0))=true:=by
        simp[a1,show (ent l i).fam<i by omega,a3,a4,a5,a6,a7.1,a7.2]
       rw[e,Bool.true_and]
       by_cases a8:(ent l i).kind=4
       ·exact Evt.ifT (by simp[a8]) (last _ (by unfold zDe;rw[if_pos a8]))
       ·exact Evt.ifF (by simp[a8]) (last _ (by unfold zDe;rw[if_neg a8]))
      ·refine Evt.ifT (decide_eq_true (by omega)) (Evt.ret.eq ?_)
       have:decide ((ent l i).cons.length=0)=false∨decide ((ent l i).fields.length=0)=false:=by
        by_cases h:(ent l i).cons.length=0
        ·exact .inr (decide_eq_false fun h'=>a7 ⟨h,h'⟩)
        ·exact .inl (decide_eq_false h)
       rcases this with h|h<;>rw[h]<;>simp
     ·exact Evt.ifT (by simp[a6]) (Evt.ret.eq (by simp[a6]))
    ·exact Evt.ifT (by simp[a5]) (Evt.ret.eq (by simp[a5]))
   ·exact Evt.ifF (by simpa using a4) (Evt.ret.eq (by simp[a4]))
  ·exact Evt.ifT (by simp[a3]) (Evt.ret.eq (by simp[a3]))
 ·exact Evt.ifF (by simpa using a1) (Evt.ret.eq (by simp[a1]))
theorem vD{l:List Ent}{i:Int}(h:pR l i=true):0≤(ent l i).pars∧0≤(ent l i).inds∧(ent l i).pars+(ent l i).inds≤24∧(ent l i).cons.length≤16:=by
 unfold pR zLe zIT at h
 simp only[Bool.and_eq_true,decide_eq_true_eq]at h
 exact⟨by omega,by omega,by omega,by omega⟩
theorem rC{l:List Ent}{i:Int}(h:oZ l i=true):0≤(ent l i).fam∧(ent l i).fam<i∧(ent l (ent l i).fam).kind=1∧(ent l i).pars=(ent l (ent l i).fam).pars∧0≤(ent l i).place∧(ent l i).place<(zDe l (ent l i)).length:=by
 unfold oZ zVU zSj at h
 simp only[Bool.and_eq_true,decide_eq_true_eq,beq_iff_eq]at h
 have hs:=uL h.1.1.1.1.1.1.1.1
 exact⟨hs.1,h.1.1.1.1.1.1.1.2,hs.2.2,h.1.1.1.1.1.1.2,h.2.1.1,h.2.1.2⟩
def zGI(l:List Ent)(i:Int):Prop:=∀j,0≤j->j<i->(ent l j).kind=1->pR l j=true
def zLc(l:List Ent)(i:Int):Bool:=
 oZ l i&&((yM (ent l i).type).2.2==0&&(decide ((ent l i).pars≤(yM (ent l i).type).1.length)&&rP (yM (ent l i).type).2.1 (ent l i).fam (ent l i).pars (ent l (ent l i).fam).inds (yM (ent l i).type).1.length))
theorem zYC(l:List Ent)(i:Int)(h0:0≤i)(h1:i<l.length)(he:∀e∈l,EOk e)(hF:zGI l i):Evt (fun q=>zSm q l i) (zLc l i):=by
 simp only[zSm]
 have hx:=he _ (pQ h0 h1)
 refine Evt.pure (yI h0 h1) ((zAt _ hx.1).bind ((zIU l i h0 h1 he).bind ?_))
 unfold zLc
 by_cases a1:oZ l i=true
 ·have hs:=rC a1
  have hf:=vD (hF _ hs.1 hs.2.1 hs.2.2.1)
  refine Evt.ifT a1 ?_
  rw[a1,Bool.true_and]
  by_cases a2:(yM (ent l i).type).2.2=0
  ·refine Evt.ifT (by simp[a2]) ?_
   have hw:=rB (t:=(ent l i).type) (l:=(yM (ent l i).type).1) (y:=(yM (ent l i).type).2.1) (by rw[←a2])
   by_cases a3:(ent l i).pars≤(yM (ent l i).type).1.length
   ·refine Evt.ifT (decide_eq_true a3) (Evt.pure (yI hs.1 (by omega)) ((cO _ _ _ _ _ hw.2.2.2.2.1 (by omega) (by omega) (by have:=hw.2.2.1;omega)).bind (Evt.ret.eq (by simp[a2,a3]))))
   ·exact Evt.ifF (decide_eq_false a3) (Evt.ret.eq (by simp[a3]))
  ·exact Evt.ifF (by simp[a2]) (Evt.ret.eq (by simp[a2]))
 ·exact Evt.ifF (by simpa using a1) (Evt.ret.eq (by simp[a1]))
def nth(l:List Tm)(n:Int):Tm:=(l[n.toNat]?).getD zT
theorem uN{l:List Tm}{n:Int}(h0:0≤n)(h1:n<l.length):zR l n=some (nth l n):=by
 unfold zR nth
 rw[if_pos h0]
 have:n.toNat<l.length:=by omega
 rw[List.getElem?_eq_getElem this];rfl
theorem sJ{l:List Tm}{n:Int}(h0:0≤n)(h1:n<l.length):nth l n∈l:=by
 unfold nth
 have:n.toNat<l.length:=by omega
 rw[List.getElem?_eq_getElem this]
 exact List.getElem_mem this
def zBS(l:List Ent)(i:Int):Bool:=
 oZ l i&&((vR (ent l i).type ((ent l i).pars+1)).2.2==0&&rP (nth (vR (ent l i).type ((ent l i).pars+1)).1 (ent l i).pars) (ent l i).fam (ent l i).pars 0 (ent l i).pars)
theorem zVV(l:List Ent)(i:Int)(h0:0≤i)(h1:i<l.length)(he:∀e∈l,EOk e)(hF:zGI l i):Evt (fun q=>zSl q l i) (zBS l i):=by
 simp only[zSl]
 have hx:=he _ (pQ h0 h1)
 refine(zIU l i h0 h1 he).bind ?_
 unfold zBS
 by_cases a1:oZ l i=true
 ·have hs:=rC a1
  have hf:=vD (hF _ hs.1 hs.2.1 hs.2.2.1)
  refine Evt.ifT a1 (Evt.pure (yI h0 h1) ?_)
  rw[a1,Bool.true_and,yK (x:=(ent l i).pars+1) (by omega) (by omega)]
  refine(zAu _ _ hx.1).bind ?_
  by_cases a2:(vR (ent l i).type ((ent l i).pars+1)).2.2=0
  ·have hw:=zFl (t:=(ent l i).type) (n:=(ent l i).pars+1) (l:=(vR (ent l i).type ((ent l i).pars+1)).1) (y:=(vR (ent l i).type ((ent l i).pars+1)).2.1) (by rw[←a2])
   refine Evt.ifT (by simp[a2]) (Evt.pure (uN (by omega) (by omega)) ((cO _ _ _ _ _ (hw.2.2.2.2.2.2 _ (sJ (by omega) (by omega))) (by omega) (by omega) (by omega)).bind (Evt.ret.eq (by simp[a2]))))
  ·exact Evt.ifF (by simp[a2]) (Evt.ret.eq (by simp[a2]))
 ·exact Evt.ifF (by simpa using a1) (Evt.ret.eq (by simp[a1]))
def zLb(l:List Ent)(i:Int):Bool:=
 uM (ent l i).body i&&((ent l i).fam==0&&((ent l i).place==0&&((ent l i).pars==0&&((ent l i).inds==0&&((ent l i).level==0&&(decide ((ent l i).cons.length=0)&&decide ((ent l i).fields.length=0)))))))
theorem zYD(l:List Ent)(i:Int)(h0:0≤i)(h1:i<l.length)(he:∀e∈l,EOk e):Evt (fun q=>zSk q l i) (zLb l i):=by
 simp only[zSk]
 have hx:=he _ (pQ h0 h1)
 have hc:(ent l i).cons.length≤1152921504606846976:=hx.2.2.1
 have hf:(ent l i).fields.length≤1152921504606846976:=hx.2.2.2
 refine Evt.pure (yI h0 h1) ((zDh _ i hx.2.1).bind ?_)
 unfold zLb
 by_cases a1:uM (ent l i).body i=true
 ·refine Evt.ifT a1 ?_
  rw[a1,Bool.true_and,yK (x:=((ent l i).cons.length:Int)+((ent l i).fields.length:Int)) (by omega) (by omega)]
  have e:(((ent l i).cons.length:Int)+((ent l i).fields.length:Int)==0)=(decide ((ent l i).cons.length=0)&&decide ((ent l i).fields.length=0)):=by
   rw[Bool.eq_iff_iff]
   simp only[beq_iff_eq,Bool.and_eq_true,decide_eq_true_eq]
   omega
  rw[e]
  refine Evt.mk fun q=>?_
  generalize (decide ((ent l i).cons.length=0)&&decide ((ent l i).fields.length=0))=z
  by_cases b1:(ent l i).fam=0<;>by_cases b2:(ent l i).place=0<;>by_cases b3:(ent l i).pars=0<;>by_cases b4:(ent l i).inds=0<;>by_cases b5:(ent l i).level=0<;>simp[b1,b2,b3,b4,b5]
 ·exact Evt.ifF (by simpa using a1) (Evt.ret.eq (by simp[a1]))
def kX:Nat->List Ent->List ByteArray->Int->Option (List ByteArray)
 |0,_,_,_=>none
 |qq+1,p0,v3,v8=>
 if decide (v8<(p0.length:Int))then
 zR p0 v8>>=fun x2=>
 yP 16 v3 [x2.name]>>=fun l4=>
 kX qq p0 l4 (w64 (v8+1))
 else
 some v3
def zSi(qq:Nat)(p0:List Ent):Option (List ByteArray):=
 kX qq p0 [] 0
theorem zVW:∀qq:Nat,(∀p0 v3 v8 r,kX qq p0 v3 v8=some r->(∀j,dL 0 (inn (inn (rgt (lft (rgt (rgt (bod Tryz.f119))))))) (sp j 19 0 [(3,slv zBz v3 (.st 0 1)),(6,slv yQ p0 .no),(7,ai (p0.length:Int)),(8,ai v8)]) (⟨[],0,[0],1,[]⟩) (fQ 0 (nQ 0 Tryz.f119 (.sl (zJ zBz r) r.length .no) [] 0) [.blk 0,.seq (rgt (rgt (rgt (bod Tryz.f119))))]))):=by
 intro qq
 induction qq with
 |zero=>
  exact fun _ _ _ _ h=>nn h
 |succ qq ih=>
  intro p0 v3 v8 r h
  rw[kX]at h
  obtain⟨h1,h⟩|⟨h1,h⟩:=spl h
  obtain⟨x2,h3,h⟩:=zC h
  obtain⟨l4,h5,h⟩:=zC h
  exact fun j=>lH 1 [] [] [1] [3,6,7,8] (oD (dE p0)<|oD (dS l4)<|oP 4 (zYp h5 (by simp))<|oA 0 (xM (o:=.no) h3)<|oB 0 h1 o0) (ih _ _ _ _ h)
  obtain rfl:=sj h
  exact fun j=>lF 0 [] (oD (dS v3)<|oB 0 h1 o0)
theorem yCG{qq p0 r}(h:zSi qq p0=some r):Ct 119 [] [slv yQ p0 .no] (.sl (zJ zBz r) r.length .no) [] 0:=⟨by
 unfold zSi at h
 exact tH ⟨Tryz.func119,rfl⟩ 1 [(none,3,1)] [] [0] [3,6,7,8] (oD (dE p0)<|oD (dS ([]:List ByteArray)) o0) (zVW _ _ _ _ _ h),⟨⟨tv,dE _⟩,tv⟩,zB,dS _,zB⟩
def zSh(qq:Nat)(p0:List Ent)(p1:Int):Option Bool:=
 zR p0 p1>>=fun x1=>
 zLg qq x1.name>>=fun r3=>
 if r3 then
 zPp qq x1.type p1>>=fun r6=>
 if r6 then
 if x1.kind==1 then
 zSn qq p0 p1>>=fun r10=>
 some r10
 else
 if x1.kind==2 then
 zSm qq p0 p1>>=fun r13=>
 some r13
 else
 if x1.kind==4 then
 zSl qq p0 p1>>=fun r16=>
 some r16
 else
 if x1.kind==3 then
 zSk qq p0 p1>>=fun r19=>
 some r19
 else
 some false
 else
 some false
 else
 some false
theorem zLa:Qf 120 Tryz.f120:=⟨Tryz.func120,rfl⟩
theorem yAW{qq p0 p1 r}(h:zSh qq p0 p1=some r):Ct 120 [] [slv yQ p0 .no,ai p1] (ab r) [] 0:=⟨by
 unfold zSh at h
 obtain⟨x1,h2,h⟩:=zC h
 obtain⟨r3,h4,h⟩:=zC h
 have k:=oA 0 (xM (o:=.no) h2) o0
 obtain⟨h5,h⟩|⟨h5,h⟩:=spl h
 obtain⟨r6,h7,h⟩:=zC h
 have k:=oA 1 (xM (o:=.no) h2)<|oK 1 [] h5 (yAU h4) k
 obtain⟨h8,h⟩|⟨h8,h⟩:=spl h
 have k:=oA 1 (xM (o:=.no) h2)<|oK 1 [] h8 (zVL h7) k
 obtain⟨h9,h⟩|⟨h9,h⟩:=spl h
 obtain⟨r10,h11,h⟩:=zC h
 obtain rfl:=sj h
 exact tF zLa 0 [] (oC 0 [] (yCC h11)<|oB 1 h9 k)
 have k:=oB 1 h9 k
 obtain⟨h12,h⟩|⟨h12,h⟩:=spl h
 obtain⟨r13,h14,h⟩:=zC h
 obtain rfl:=sj h
 exact tF zLa 0 [] (oC 0 [] (yCD h14)<|oB 0 h12 k)
 have k:=oB 0 h12 k
 obtain⟨h15,h⟩|⟨h15,h⟩:=spl h
 obtain⟨r16,h17,h⟩:=zC h
 obtain rfl:=sj h
 exact tF zLa 0 [] (oC 0 [] (yCE h17)<|oB 0 h15 k)
 have k:=oB 0 h15 k
 obtain⟨h18,h⟩|⟨h18,h⟩:=spl h
 obtain⟨r19,h20,h⟩:=zC h
 obtain rfl:=sj h
 exact tF zLa 0 [] (oC 0 [] (yCF h20)<|oB 0 h18 k)
 obtain rfl:=sj h
 exact tF zLa 0 [] (oB 0 h18 k)
 obtain rfl:=sj h
 exact tF zLa 1 [] (oK 1 [] h8 (zVL h7) k)
 obtain rfl:=sj h
 exact tF zLa 1 [] (oK 1 [] h5 (yAU h4) k),⟨⟨tv,dE _⟩,tv,tv⟩,zB,tv,zB⟩
def zXa(qq:Nat)(p0:List Int):Option (List Int):=
 some []
theorem yAX{qq p0 r}(h:zXa qq p0=some r):Ct 89 [] [slv zW p0 .nl] (.sl (zJ zW r) r.length .no) [] 0:=⟨by
 unfold zXa at h
 cases h
 exact tF ⟨Tryz.func89,rfl⟩ 1 [] (oD (dI ([]:List Int)) o0),⟨⟨tv,dI _⟩,tv⟩,zB,dI _,zB⟩
def zNu(qq:Nat)(p0:List Int):Option (List Int):=
 yP 8 ([]:List Int) p0>>=fun l1=>
 some l1
theorem zXA:Qf 89 Tryz.f89:=⟨Tryz.func89,rfl⟩
theorem yAY{qq p0 r}(h:zNu qq p0=some r):Ct 89 [] [slv zW p0 .nn] (.sl (zJ zW r) r.length .no) [] 0:=⟨by
 unfold zNu at h
 obtain⟨l1,h2,h⟩:=zC h
 by_cases h3:List.length p0=0
 obtain rfl:=sj h
 exact tF zXA 0 [] (oD (dI l1)<|oP 2 (zRq h2 h3) o0)
 obtain rfl:=sj h
 exact tF zXA 0 [] (oD (dI l1)<|oP 2 (sR h2 h3) o0),⟨⟨tv,dI _⟩,tv⟩,zB,dI _,zB⟩
def e89(_qq:Nat)(p0:List Int):Option (List Int):=yP 8 [] p0
theorem c89{qq:Nat}{p0:List Int}{r:List Int}(h:e89 qq p0=some r):CT Tryz.prog 89 [] [.sl (zJ zW p0) p0.length .no] (.sl (zJ zW r) r.length .no) [] 0:=by
 have hr:r=p0:=by have:=(pW h).2;simpa using this
 have h1:zNu qq p0=some r:=by unfold zNu;rw[show yP 8 ([]:List Int) p0=some r from h];rfl
 have k1:=yAY h1
 refine⟨uF.nilcase (fun hn=>?_) k1.tri,⟨⟨trivial,dI _⟩,trivial⟩,(fun _ h=>nomatch h),dI _,(fun _ h=>nomatch h)⟩
 have hp:p0=[]:=zCR cE (by decide) hn
 subst hr
 subst hp
 exact(yAX (qq:=qq) rfl).tri
def cP:Nat->List Ent->List Ent->Int->Option (List Ent)
 |0,_,_,_=>none
 |qq+1,p0,v3,v8=>
 if decide (v8<(p0.length:Int))then
 zR p0 v8>>=fun x2=>
 e53 qq x2.type>>=fun r4=>
 e53 qq x2.body>>=fun r6=>
 e89 qq x2.cons>>=fun r8=>
 e89 qq x2.fields>>=fun r10=>
 yP 192 v3 [(Ent.mk x2.kind x2.name r4 r6 x2.fam x2.place x2.pars x2.inds x2.level r8 r10)]>>=fun l12=>
 cP qq p0 l12 (w64 (v8+1))
 else
 some v3
def e58(qq:Nat)(p0:List Ent):Option (List Ent):=
 cP qq p0 [] 0
theorem zYE:∀qq:Nat,(∀p0 v3 v8 r,cP qq p0 v3 v8=some r->(∀j,dL 0 (inn (inn (rgt (lft (rgt (rgt (bod Tryz.f58))))))) (sp j 34 0 [(3,slv yQ v3 (.st 0 15)),(6,slv yQ p0 .no),(7,ai (p0.length:Int)),(8,ai v8)]) (⟨[],0,[0],1,[]⟩) (fQ 0 (nQ 0 Tryz.f58 (.sl (zJ yQ r) r.length .no) [] 0) [.blk 0,.seq (rgt (rgt (rgt (bod Tryz.f58))))]))):=by
 intro qq
 induction qq with
 |zero=>
  exact fun _ _ _ _ h=>nn h
 |succ qq ih=>
  intro p0 v3 v8 r h
  rw[cP]at h
  obtain⟨h1,h⟩|⟨h1,h⟩:=spl h
  obtain⟨x2,h3,h⟩:=zC h
  obtain⟨r4,h5,h⟩:=zC h
  obtain⟨r6,h7,h⟩:=zC h
  obtain⟨r8,h9,h⟩:=zC h
  obtain⟨r10,h11,h⟩:=zC h
  obtain⟨l12,h13,h⟩:=zC h
  exact fun j=>lH 1 [] [] [1] [3,6,7,8] (oD (dE p0)<|oD (dE l12)<|oP 4 (yAq h13 (by simp))<|oC 0 [] (c89 h11)<|oCl 0<|oC 3 [] (c89 h9)<|oC 1 [] (c53 h7)<|oC 3 [] (c53 h5)<|oA 0 (xM (o:=.no) h3)<|oB 0 h1 o0) (ih _ _ _ _ h)
  obtain rfl:=sj h
  exact fun j=>lF 0 [] (oD (dE v3)<|oB 0 h1 o0)
theorem c58{qq p0 r}(h:e58 qq p0=some r):Ct 58 [] [slv yQ p0 .no] (.sl (zJ yQ r) r.length .no) [] 0:=⟨by
 unfold e58 at h
 exact tH ⟨Tryz.func58,rfl⟩ 1 [(none,3,15)] [] [0] [3,6,7,8] (oD (dE p0)<|oD (dE ([]:List Ent)) o0) (zYE _ _ _ _ _ h),⟨⟨tv,dE _⟩,tv⟩,zB,dE _,zB⟩
def cQ:Nat->List Ent->Int->Option Bool
 |0,_,_=>none
 |qq+1,p0,v15=>
 if decide (v15<(p0.length:Int))then
 zSh qq p0 v15>>=fun r8=>
 if r8 then
 cQ qq p0 (w64 (v15+1))
 else
 some false
 else
 some true
def e87(qq:Nat)(p0:List Ent):Option Bool:=
 if decide ((p0.length:Int)>256)then
 some false
 else
 zSi qq p0>>=fun r2=>
 zPw qq r2>>=fun r4=>
 if r4 then
 cQ qq p0 0
 else
 some false
theorem q87:Qf 87 Tryz.f87:=⟨Tryz.func87,rfl⟩
theorem zYF:∀qq:Nat,(∀p0 v15 r,cQ qq p0 v15=some r->(∀j,dL 0 (inn (inn (rgt (lft (rgt (rgt (bod Tryz.f87))))))) (sp j 23 0 [(0,slv yQ p0 .no),(14,ai (p0.length:Int)),(15,ai v15)]) (⟨[],0,[],0,[]⟩) (fQ 0 (nQ 0 Tryz.f87 (ab r) [] 0) [.blk 0,.seq (rgt (rgt (rgt (bod Tryz.f87))))]))):=by
 intro qq
 induction qq with
 |zero=>
  exact fun _ _ _ h=>nn h
 |succ qq ih=>
  intro p0 v15 r h
  rw[cQ]at h
  obtain⟨h7,h⟩|⟨h7,h⟩:=spl h
  obtain⟨r8,h9,h⟩:=zC h
  have k:=oB 0 h7 o0
  obtain⟨h10,h⟩|⟨h10,h⟩:=spl h
  exact fun j=>lH 2 [] [] [] [0,14,15] (oD (dE p0)<|oK 0 [] h10 (yAW h9) k) (ih _ _ _ h)
  cases h
  exact fun j=>lF 1 [] (oK 0 [] h10 (yAW h9) k)
  cases h
  exact fun j=>lF 0 [] (oB 0 h7 o0)
theorem c87{qq p0 r}(h:e87 qq p0=some r):Ct 87 [] [slv yQ p0 .no] (ab r) [] 0:=⟨by
 unfold e87 at h
 obtain⟨h1,h⟩|⟨h1,h⟩:=spl h
 cases h
 exact tF q87 0 [] (oB 1 h1 o0)
 obtain⟨r2,h3,h⟩:=zC h
 obtain⟨r4,h5,h⟩:=zC h
 have k:=oC 0 [] (yCG h3)<|oB 1 h1 o0
 obtain⟨h6,h⟩|⟨h6,h⟩:=spl h
 exact tH q87 2 [] [] [] [0,14,15] (oD (dE p0)<|oK 0 [] h6 (yAN h5) k) (zYF _ _ _ _ h)
 cases h
 exact tF q87 1 [] (oK 0 [] h6 (yAN h5) k),⟨⟨tv,dE _⟩,tv⟩,zB,tv,zB⟩
def mK(N:ByteArray->Bool)(l:List Ent)(i:Int):Bool:=
 N (ent l i).name&&(uM (ent l i).type i &&
  (if (ent l i).kind=1 then pR l i else if (ent l i).kind=2 then zLc l i else if (ent l i).kind=4 then zBS l i else if (ent l i).kind=3 then zLb l i else false))
def zPg(N:ByteArray->Bool)(l:List Ent):Nat->Nat->Bool
 |0,_=>true
 |m+1,v=>mK N l v&&zPg N l m (v+1)
def fJ(N:ByteArray->Bool):Prop:=∀s,Evt (fun q=>zLg q s) (N s)
theorem zIV:∃N,fJ N:=by
 have h:∀s,∃b,Evt (fun q=>zLg q s) b:=fun s=>by
  obtain⟨b,hb,_⟩:=zLf s
  exact⟨b,hb⟩
 exact⟨fun s=>Classical.choose (h s),fun s=>Classical.choose_spec (h s)⟩
theorem zSg(N:ByteArray->Bool)(hN:fJ N)(l:List Ent)(i:Int)(h0:0≤i)(h1:i<l.length)(hl:l.length≤65535)(he:∀e∈l,EOk e)(hF:zGI l i):Evt (fun q=>zSh q l i) (mK N l i):=by
 simp only[zSh]
 have hx:=he _ (pQ h0 h1)
 refine Evt.pure (yI h0 h1) ((hN _).bind ?_)
 unfold mK
 by_cases a1:N (ent l i).name=true
 ·refine Evt.ifT a1 ((zDh _ i hx.1).bind ?_)
  rw[a1,Bool.true_and]
  by_cases a2:uM (ent l i).type i=true
  ·refine Evt.ifT a2 ?_
   rw[a2,Bool.true_and]
   by_cases k1:(ent l i).kind=1
   ·rw[if_pos k1];exact Evt.ifT (by simp[k1]) ((zPj l i h0 h1 hl he).bind Evt.ret)
   rw[if_neg k1]
   refine Evt.ifF (by simp[k1]) ?_
   by_cases k2:(ent l i).kind=2
   ·rw[if_pos k2];exact Evt.ifT (by simp[k2]) ((zYC l i h0 h1 he hF).bind Evt.ret)
   rw[if_neg k2]
   refine Evt.ifF (by simp[k2]) ?_
   by_cases k4:(ent l i).kind=4
   ·rw[if_pos k4];exact Evt.ifT (by simp[k4]) ((zVV l i h0 h1 he hF).bind Evt.ret)
   rw[if_neg k4]
   refine Evt.ifF (by simp[k4]) ?_
   by_cases k3:(ent l i).kind=3
   ·rw[if_pos k3];exact Evt.ifT (by simp[k3]) ((zYD l i h0 h1 he).bind Evt.ret)
   ·rw[if_neg k3];exact Evt.ifF (by simp[k3]) Evt.ret
  ·exact Evt.ifF (by simpa using a2) (Evt.ret.eq (by simp[a2]))
 ·exact Evt.ifF (by simpa using a1) (Evt.ret.eq (by simp[a1]))
theorem zFk:∀(r l:List Ent) (v:Nat) (acc:List ByteArray),l.drop v=r->l.length≤65535->acc.length≤v->Evt (fun q=>kX q l acc (v:Int)) (acc++r.map Ent.name)
 | [],l,v,acc,hd,hl,ha=>by
  refine Evt.succ ?_
  simp only[kX]
  exact Evt.ifF (zZ hd) (Evt.ret.eq (by simp))
 |x::r,l,v,acc,hd,hl,ha=>by
  have hlt:=yC hd
  refine Evt.succ ?_
  simp only[kX]
  refine Evt.ifT (zY hd) (Evt.pure (zV hd) (Evt.pure (yD (by simp<;>omega)) ?_))
  rw[zU v (by omega)]
  exact(zFk r l (v+1) _ (zS hd) hl (by simp<;>omega)).eq (by simp)
theorem zSf(l:List Ent)(hl:l.length≤65535):Evt (fun q=>zSi q l) (l.map Ent.name):=by
 simp only[zSi]
 exact(zFk l l 0 [] rfl hl (by simp)).eq (by simp)
theorem zLA(N:ByteArray->Bool)(hN:fJ N)(l:List Ent)(hl:l.length≤65535)(he:∀e∈l,EOk e):∀(m v:Nat),v+m=l.length->zGI l v->Evt (fun q=>cQ q l (v:Int)) (zPg N l m v):=by
 intro m
 induction m with
 |zero=>
  intro v hm hF
  refine Evt.succ ?_
  simp only[cQ]
  exact Evt.ifF (decide_eq_false (by omega)) Evt.ret
 |succ m ih=>
  intro v hm hF
  refine Evt.succ ?_
  simp only[cQ]
  refine Evt.ifT (decide_eq_true (by omega)) ((zSg N hN l v (by omega) (by omega) hl he hF).bind ?_)
  rw[zPg]
  by_cases h:mK N l v=true
  ·refine Evt.ifT h ?_
   rw[zU v (by omega),h,Bool.true_and]
   refine ih (v+1) (by omega) fun j hj0 hj1 hk=>?_
   by_cases e:j=v
   ·subst e
    unfold mK at h
    simp only[Bool.and_eq_true]at h
    have:=h.2.2
    rwa[if_pos hk]at this
   ·exact hF j hj0 (by omega) hk
  ·exact Evt.ifF (by simpa using h) (Evt.ret.eq (by simp[h]))
def zAs(N:ByteArray->Bool)(d:Bool)(l:List Ent):Bool:=decide (l.length≤256)&&(d&&zPg N l l.length 0)
theorem zPf(N:ByteArray->Bool)(hN:fJ N)(l:List Ent)(hl:l.length≤65535)(he:∀e∈l,EOk e):∃d,Evt (fun q=>zPw q (l.map Ent.name)) d∧Evt (fun q=>e87 q l) (zAs N d l):=by
 obtain⟨d,hd,_⟩:=zGG (l.map Ent.name) (by simpa using hl)
 refine⟨d,hd,?_⟩
 simp only[e87]
 unfold zAs
 by_cases h:l.length≤256
 ·refine Evt.ifF (decide_eq_false (by omega)) ((zSf l hl).bind (hd.bind ?_))
  cases d with
  |false=>exact Evt.ifF rfl (Evt.ret.eq (by simp))
  |true=>exact Evt.ifT rfl ((zLA N hN l hl he l.length 0 (by omega) (fun j h0 h1=>by omega)).eq (by simp[h]))
 ·exact Evt.ifT (decide_eq_true (by omega)) (Evt.ret.eq (by simp[h]))
theorem zFj{N:ByteArray->Bool}{l:List Ent}:∀ {m v:Nat},zPg N l m v=true->∀j,v≤j->j<v+m->mK N l (j:Int)=true
 |0,v,_,j,h0,h1=>by omega
 |m+1,v,h,j,h0,h1=>by
  rw[zPg]at h
  simp only[Bool.and_eq_true]at h
  by_cases e:j=v
  ·subst e;exact h.1
  ·exact zFj h.2 j (by omega) (by omega)
def wI(N:ByteArray->Bool)(l:List Ent):Prop:=l.length≤256∧∀i:Int,0≤i->i<l.length->mK N l i=true
theorem zAr{N:ByteArray->Bool}{d:Bool}{l:List Ent}(h:zAs N d l=true):wI N l:=by
 unfold zAs at h
 simp only[Bool.and_eq_true,decide_eq_true_eq]at h
 refine⟨h.1,fun i h0 h1=>?_⟩
 have:=zFj h.2.2 i.toNat (by omega) (by omega)
 rwa[show ((i.toNat:Nat):Int)=i by omega]at this
theorem yW{N:ByteArray->Bool}{l:List Ent}{i:Int}(h:mK N l i=true):uM (ent l i).type i=true ∧
  ((ent l i).kind=1->pR l i=true)∧((ent l i).kind=2->zLc l i=true)∧((ent l i).kind=4->zBS l i=true)∧((ent l i).kind=3->zLb l i=true)∧((ent l i).kind=1∨(ent l i).kind=2∨(ent l i).kind=3∨(ent l i).kind=4):=by
 unfold mK at h
 simp only[Bool.and_eq_true]at h
 obtain⟨_,h2,h3⟩:=h
 refine⟨h2,fun k=>by rwa[if_pos k]at h3,fun k=>?_,fun k=>?_,fun k=>?_,?_⟩
 ·rwa[if_neg (by omega),if_pos k]at h3
 ·rwa[if_neg (by omega),if_neg (by omega),if_pos k]at h3
 ·rwa[if_neg (by omega),if_neg (by omega),if_neg (by omega),if_pos k]at h3
 ·split at h3
  ·exact .inl (by assumption)
  ·split at h3
   ·exact .inr (.inl (by assumption))
   ·split at h3
    ·exact .inr (.inr (.inr (by assumption)))
    ·split at h3
     ·exact .inr (.inr (.inl (by assumption)))
     ·cases h3
def zPe(e:Ent):Ent:=Ent.mk e.kind e.name (mI e.type) (mI e.body) e.fam e.place e.pars e.inds e.level e.cons e.fields
def ECl(e:Ent):Prop:=e.cons.length≤17592186044416∧e.fields.length≤17592186044416
theorem zIW:∀(r l acc:List Ent) (v:Nat),l.drop v=r->l.length≤65535->(∀e∈l,EOk e)->(∀e∈l,ECl e)->acc.length≤v->Evt (fun q=>cP q l acc (v:Int)) (acc++r.map zPe)
 | [],l,acc,v,hd,hl,he,hc,ha=>by
  refine Evt.succ ?_
  simp only[cP]
  exact Evt.ifF (zZ hd) (Evt.ret.eq (by simp))
 |x::r,l,acc,v,hd,hl,he,hc,ha=>by
  have hlt:=yC hd
  have hx:x∈l:=by
   have:x∈l.drop v:=by rw[hd];simp
   exact List.mem_of_mem_drop this
  have hE:=he x hx
  have hC:=hc x hx
  refine Evt.succ ?_
  simp only[cP]
  refine Evt.ifT (zY hd) (Evt.pure (zV hd) ((rJ _ hE.1).bind ((rJ _ hE.2.1).bind ?_)))
  refine Evt.bind (a:=x.cons) (Evt.mk fun q=>(yD (by have:=hC.1;simp<;>omega)).trans (by simp)) (Evt.bind (a:=x.fields) (Evt.mk fun q=>(yD (by have:=hC.2;simp<;>omega)).trans (by simp)) (Evt.pure (yD (by simp<;>omega)) ?_))
  rw[zU v (by omega)]
  exact(zIW r l _ (v+1) (zS hd) hl he hc (by simp<;>omega)).eq (by simp[zPe])
theorem zDd(l:List Ent)(hl:l.length≤65535)(he:∀e∈l,EOk e)(hc:∀e∈l,ECl e):Evt (fun q=>e58 q l) (l.map zPe):=by
 simp only[e58]
 exact(zIW l l [] 0 rfl hl he hc (by simp)).eq (by simp)
theorem sS{t:Tm}{n:Int}(h:uM t n=true):zL t=true:=by
 unfold uM tV at h
 simp only[Bool.and_eq_true]at h
 exact h.1.1.1
theorem zLB{t:Tm}(h:dK t=true):t=zT:=by
 unfold dK at h
 simp only[Bool.and_eq_true,beq_iff_eq]at h
 obtain⟨k,n,l⟩:=t
 have h1:k=0:=h.1.1
 have h2:n=0:=h.1.2
 have h3:l=[]:=List.length_eq_zero_iff.1 (by have:(l.length:Int)=0:=h.2;omega)
 subst h1;subst h2;subst h3;rfl
theorem zFi{t:Tm}(h:dK t=true):mI t=t:=by
 rw[zLB h]
 unfold mI
 split
 ·rfl
 ·rfl
theorem zPd{N:ByteArray->Bool}{l:List Ent}{i:Int}(h:mK N l i=true):zPe (ent l i)=ent l i:=by
 have hs:=yW h
 have h1:mI (ent l i).type=(ent l i).type:=by unfold mI;rw[if_pos (sS hs.1)]
 have own:oZ l i=true->mI (ent l i).body=(ent l i).body:=fun ho=>by
  unfold oZ zVU at ho
  simp only[Bool.and_eq_true]at ho
  exact zFi ho.1.1.1.1.1.2
 have h2:mI (ent l i).body=(ent l i).body:=by
  rcases hs.2.2.2.2.2 with k|k|k|k
  ·have:=hs.2.1 k
   unfold pR zLe at this
   simp only[Bool.and_eq_true]at this
   exact zFi this.1.1.1.2
  ·have:=hs.2.2.1 k
   unfold zLc at this
   simp only[Bool.and_eq_true]at this
   exact own this.1
  ·have:=hs.2.2.2.2.1 k
   unfold zLb at this
   simp only[Bool.and_eq_true]at this
   unfold mI;rw[if_pos (sS this.1)]
  ·have:=hs.2.2.2.1 k
   unfold zBS at this
   simp only[Bool.and_eq_true]at this
   exact own this.1
 unfold zPe
 rw[h1,h2]
theorem zBm{N:ByteArray->Bool}{l:List Ent}(h:wI N l):l.map zPe=l:=by
 refine List.ext_getElem (by simp) fun i h1 h2=>?_
 simp only[List.getElem_map]
 have:=zPd (h.2 (i:Int) (by omega) (by omega))
 have e:ent l (i:Int)=l[i]:=by
  unfold ent
  rw[show (i:Int).toNat=i by omega,List.getElem?_eq_getElem h2];rfl
 rwa[e]at this
def zNt(qq:Nat)(p0:List Tm):Option Unit:=
 some ()
theorem zVX{qq p0 r}(h:zNt qq p0=some r):Ct 159 [] [slv zF p0 .nl] (slv zF ([]:List Tm) .full) [] 0:=⟨by
 unfold zNt at h
 cases h
 exact tG ⟨Tryz.func159,rfl⟩ 1 [] [] [] true (oD (dT ([]:List Tm)) o0),⟨⟨tv,dT _⟩,tv⟩,zB,dT _,zB⟩
def zGJ(qq:Nat)(p0:List Tm):Option ((Unit) ⊕ (List Tm)):=
 if decide (List.length p0=0)then
 some (.inl ())
 else
 yP 40 ([]:List Tm) p0>>=fun l2=>
 some (.inr l2)
abbrev zBl (p0:List Tm) (C:Cf):Prop:=C 159 [] [slv zF p0 .nn] (slv zF ([]:List Tm) .full) [] 0
abbrev zBk (p0 r:List Tm) (C:Cf):Prop:=C 159 [] [slv zF p0 .nn] (.ms 0 0 r.length r.length 3) [.row (zJ zF r)] 0
theorem zNs:Qf 159 Tryz.f159:=⟨Tryz.func159,rfl⟩
theorem zPc{p0}(h:zBl p0 Ci):zBl p0 Ct:=⟨h,⟨⟨tv,dT _⟩,tv⟩,zB,dT _,zB⟩
theorem zPb{p0 r}(h:zBk p0 r Ci):zBk p0 r Ct:=⟨h,⟨⟨tv,dT _⟩,tv⟩,zB,(lz rfl),(zA (dT _) zB)⟩
theorem zNr{qq p0 r}(h:zGJ qq p0=some r):(match (generalizing:=false) r with | .inl x=>zBl p0 Ct | .inr x=>zBk p0 x Ct):=by
 unfold zGJ at h
 obtain⟨h1,h⟩|⟨h1,h⟩:=spl h
 cases h
 exact zPc (tG zNs 0 [] [] [] true (oD (dT ([]:List Tm))<|oQ 2 (yAs (of_decide_eq_true h1)) o0))
 obtain⟨l2,h3,h⟩:=zC h
 cases h
 exact zPb (tF zNs 0 [0] (oD (dT l2)<|oM 2 (yAn h3 (of_decide_eq_false h1)) o0))
def zLC(qq:Nat)(p0:List Tm):Option (Unit ⊕ List Tm):=if decide (List.length p0=0)=true then some (.inl ())else(yP 40 [] p0)>>=fun r=>some (.inr r)
theorem zSe{qq:Nat}{p0:List Tm}{r:Unit ⊕ List Tm}(h:zLC qq p0=some r):(match (generalizing:=false) r with | .inl _=>CT Tryz.prog 159 [] [.sl (zJ zF p0) p0.length .no] (.sl (zJ zF ([]:List Tm)) (List.length ([]:List Tm)) .full) [] 0 | .inr x=>CT Tryz.prog 159 [] [.sl (zJ zF p0) p0.length .no] (.ms 0 0 x.length x.length 3) [.row (zJ zF x)] 0):=by
 unfold zLC at h
 obtain⟨h1,h⟩|⟨h1,h⟩:=spl h
 ·obtain rfl:=sj h
  have hp:p0=[]:=List.length_eq_zero_iff.1 (of_decide_eq_true h1)
  subst hp
  have k0:=zVX (qq:=qq) (p0:=[]) (r:=()) rfl
  have k1:=zNr (qq:=qq) (p0:=[]) (r:=.inl ()) rfl
  exact⟨uF.nilcase (fun _=>k0.tri) k1.tri,⟨⟨trivial,dT _⟩,trivial⟩,(fun _ h=>nomatch h),dT _,(fun _ h=>nomatch h)⟩
 ·obtain⟨x,h2,h⟩:=zC h
  cases h
  have k1:=zNr (qq:=qq) (p0:=p0) (r:=.inr x) (by unfold zGJ;rw[if_neg (by rw[h1];decide),h2];rfl)
  refine⟨uF.nilcase (fun hn=>?_) k1.tri,⟨⟨trivial,dT _⟩,trivial⟩,(fun _ h=>nomatch h),(show 0<1 by decide),zA (dT _) zB⟩
  have hp:p0=[]:=zCR qI (by decide) hn
  subst hp
  cases h1
def zYG(_qq:Nat)(p0:List Tm):Option (List Tm):=yP 40 [] p0
theorem yAZ{qq:Nat}{p0:List Tm}{r:List Tm}(h:zYG qq p0=some r):CT Tryz.prog 159 [] [.sl (zJ zF p0) p0.length .no] (.sl (zJ zF r) r.length (.st 0 3)) [] 1:=by
 have hr:r=p0:=by have:=(pW h).2;simpa using this
 subst hr
 by_cases h1:List.length r=0
 ·have hp:r=[]:=List.length_eq_zero_iff.1 h1
  subst hp
  exact CT.stampNil (zSe (qq:=qq) (p0:=[]) (r:=.inl ()) rfl)
 ·exact CT.freezeS (zSe (qq:=qq) (p0:=r) (r:=.inr r) (by unfold zLC;rw[if_neg (by simpa using h1),show yP 40 ([]:List Tm) r=some r from h];rfl)) (dT _) (wT qI.len _)
def zSd(qq:Nat)(p0:List Ent)(p1:Tm)(p2 p3:Int):Option tN:=
 zIN qq p1>>=fun r1=>
 zDs qq r1.2.1>>=fun r3=>
 if r1.2.2 != 0 then
 some (tN.mk false [] [])
 else
 if r3.1.k != 6 then
 some (tN.mk false [] [])
 else
 if r3.1.n != p2 then
 some (tN.mk false [] [])
 else
 zR p0 p2>>=fun x8=>
 zLh qq r1.2.1 p2 x8.pars x8.inds (w64 (p3+(r1.1.length:Int)))>>=fun r10=>
 if r10 then
 gsl r3.2 x8.pars (r3.2.length:Int)>>=fun x13=>
 zYG qq x13>>=fun r15=>
 some (tN.mk true r1.1 r15)
 else
 some (tN.mk false [] [])
theorem zSc:Qf 160 Tryz.f160:=⟨Tryz.func160,rfl⟩
theorem yCH{qq p0 p1 p2 p3 r}(h:zSd qq p0 p1 p2 p3=some r):Ct 160 [] [slv yQ p0 .no,tmA p1,ai p2,ai p3] (yAz r) [] 0:=⟨by
 unfold zSd at h
 have z {os ob} (k:Oz os ob):=oD (dT ([]:List Tm))<|oD (dT ([]:List Tm))<|k
 obtain⟨r1,h2,h⟩:=zC h
 obtain⟨r3,h4,h⟩:=zC h
 have k:=oC 5 [] (zLl h4)<|oC 1 [] (zVc h2) o0
 obtain⟨h5,h⟩|⟨h5,h⟩:=spl h
 cases h
 exact tF zSc 1 [] (z<|oB 3 h5 k)
 have k:=oB 3 h5 k
 obtain⟨h6,h⟩|⟨h6,h⟩:=spl h
 cases h
 exact tF zSc 1 [] (z<|oB 1 h6 k)
 have k:=oB 1 h6 k
 obtain⟨h7,h⟩|⟨h7,h⟩:=spl h
 cases h
 exact tF zSc 1 [] (z<|oB 1 h7 k)
 obtain⟨x8,h9,h⟩:=zC h
 obtain⟨r10,h11,h⟩:=zC h
 have k:=oA 1 (xM (o:=.no) h9)<|oA 1 (xM (o:=.no) h9)<|oB 1 h7 k
 obtain⟨h12,h⟩|⟨h12,h⟩:=spl h
 obtain⟨x13,h14,h⟩:=zC h
 obtain⟨r15,h16,h⟩:=zC h
 cases h
 exact tF zSc 1 [] (oD (dT r15)<|oD (dT r1.1)<|oC 0 [] (yAZ h16)<|oA 1 (rI h14)<|oA 1 (xM (o:=.no) h9)<|oK 3 [] h12 (zVA h11) k)
 cases h
 exact tF zSc 2 [] (z<|oK 3 [] h12 (zVA h11) k),⟨⟨tv,dE _⟩,⟨tv,tv,⟨tv,dT _⟩,tv⟩,tv,tv,tv⟩,zB,⟨tv,dT _,dT _,tv⟩,zB⟩
def kY:Nat->List Ent->Ent->List Tm->List Tm->Int->List tN->Option yS
 |0,_,_,_,_,_,_=>none
 |qq+1,p0,x1,x7,r11,v43,sN=>
 if decide (v43<(x7.length:Int))then
 zR x7 v43>>=fun x14=>
 zSd qq p0 x14 x1.fam (w64 (x1.pars+v43))>>=fun r16=>
 yP 56 sN [r16]>>=fun l18=>
 kY qq p0 x1 x7 r11 (w64 (v43+1)) l18
 else
 some (yS.mk x7 r11 sN)
def zSb(qq:Nat)(p0:List Ent)(p1:Int):Option yS:=
 zR p0 p1>>=fun x1=>
 zIN qq x1.type>>=fun r3=>
 zDs qq r3.2.1>>=fun r5=>
 gsl r3.1 x1.pars (r3.1.length:Int)>>=fun x7=>
 gsl r5.2 x1.pars (r5.2.length:Int)>>=fun x9=>
 zYG qq x9>>=fun r11=>
 kY qq p0 x1 x7 r11 0 []
theorem zVY:∀qq:Nat,(∀p0 x1 x7 r11 v43 sN r,kY qq p0 x1 x7 r11 v43 sN=some r->(∀j,dL 0 (inn (inn (rgt (lft (rgt (rgt (rgt (rgt (rgt (bod Tryz.f121)))))))))) (sp j 64 0 [(0,slv yQ p0 .no),(4,.mp 0 0),(5,.mp 1 0),(11,.mp 2 0),(41,slv zF x7 .no),(42,ai (x7.length:Int)),(43,ai v43)]) (⟨[(0,.cells [slv zF ([]:List Tm) .nl,slv zF ([]:List Tm) .nl,slv aK ([]:List tN) .nl]),(1,.cells [ai x1.kind,at' x1.name,ai x1.type.k,ai x1.type.n,slv zF x1.type.sub .no,ai x1.body.k,ai x1.body.n,slv zF x1.body.sub .no,ai x1.fam,ai x1.place,ai x1.pars,ai x1.inds,ai x1.level,slv zW x1.cons .no,slv zW x1.fields .no]),(2,.cells [slv zF x7 .no,slv zF r11 (.st 0 3),slv aK sN (.st 1 3)])],3,[0,1],2,[]⟩) (fQ 0 (nQ 0 Tryz.f121 (sI r) [] 0) [.blk 0,.seq (rgt (rgt (rgt (rgt (rgt (rgt (bod Tryz.f121)))))))]))):=by
 intro qq
 induction qq with
 |zero=>
  exact fun _ _ _ _ _ _ _ h=>nn h
 |succ qq ih=>
  intro p0 x1 x7 r11 v43 sN r h
  rw[kY]at h
  obtain⟨h13,h⟩|⟨h13,h⟩:=spl h
  obtain⟨x14,h15,h⟩:=zC h
  obtain⟨r16,h17,h⟩:=zC h
  obtain⟨l18,h19,h⟩:=zC h
  exact fun j=>lH 2 [] [0,1,2] [0,2] [0,4,5,11,41,42,43] (oD (dT x7)<|oD (dE p0)<|oD (dR l18)<|oD (dT r11)<|oD (dT x7)<|oD (dI x1.fields)<|oD (dI x1.cons)<|oD (dT x1.body.sub)<|oD (dT x1.type.sub)<|oD (dR ([]:List tN))<|oD (dT ([]:List Tm))<|oD (dT ([]:List Tm))<|oP 1 (zYo h19 (by simp))<|oC 4 [] (yCH h17)<|oCl 2<|oA 0 (yN (o:=.no) h15)<|oB 0 h13 o0) (ih _ _ _ _ _ _ _ h)
  cases h
  exact fun j=>lF 2 [] (oD (dR sN)<|oD (dT r11)<|oD (dT x7)<|oB 0 h13 o0)
theorem yCI{qq p0 p1 r}(h:zSb qq p0 p1=some r):Ct 121 [] [slv yQ p0 .no,ai p1] (sI r) [] 0:=⟨by
 unfold zSb at h
 obtain⟨x1,h2,h⟩:=zC h
 obtain⟨r3,h4,h⟩:=zC h
 obtain⟨r5,h6,h⟩:=zC h
 obtain⟨x7,h8,h⟩:=zC h
 obtain⟨x9,h10,h⟩:=zC h
 obtain⟨r11,h12,h⟩:=zC h
 exact tH ⟨Tryz.func121,rfl⟩ 3 [(some 4,2,3)] [0,1,4] [0,1] [0,4,5,11,41,42,43] (oD (dT x7)<|oD (dE p0)<|oD (dR ([]:List tN))<|oD (dT r11)<|oD (dT x7)<|oD (dI x1.fields)<|oD (dI x1.cons)<|oD (dT x1.body.sub)<|oD (dT x1.type.sub)<|oD (dR ([]:List tN))<|oD (dT ([]:List Tm))<|oD (dT ([]:List Tm))<|oC 0 [] (yAZ h12)<|oA 1 (rI h10)<|oA 0 (rI h8)<|oCl 3<|oC 5 [] (zLl h6)<|oC 3 [] (zVc h4)<|oA 0 (xM (o:=.no) h2) o0) (zVY _ _ _ _ _ _ _ _ h),⟨⟨tv,dE _⟩,tv,tv⟩,zB,⟨dT _,dT _,dR _,tv⟩,zB⟩
def iY:Nat->List Ent->List yS->Int->List yS->Option ((List yS × Int) ⊕ (List yS × Int))
 |0,_,_,_,_=>none
 |qq+1,p0,x4,v14,zX=>
 if decide (v14<(p0.length:Int))then
 zR p0 v14>>=fun x7=>
 if x7.kind==2 then
 zSb qq p0 v14>>=fun r10=>
 kE x4.length v14>>=fun x12=>
 zBw zX x12 r10>>=fun x14=>
 iY qq p0 x4 (w64 (v14+1)) x14
 else
 iY qq p0 x4 (w64 (v14+1)) zX
 else
 gfz x4.length zX>>=fun l16=>
 some (.inr (l16,0))
def e88(qq:Nat)(p0:List Ent):Option ((List yS × Int) ⊕ (List yS × Int)):=
 e87 qq p0>>=fun r1=>
 if r1 then
 gmk 72 (default:yS) (p0.length:Int)>>=fun x4=>
 iY qq p0 x4 0 x4
 else
 some (.inl ([],5))
abbrev zSa (p0:List Ent) (r:List yS × Int) (C:Cf):Prop:=C 88 [] [slv yQ p0 .no] (.tup [.sl (zJ qD r.1) r.1.length .no,ai r.2]) [] 0
abbrev zSA (p0:List Ent) (r:List yS × Int) (C:Cf):Prop:=C 88 [] [slv yQ p0 .no] (.tup [.ms 0 0 r.1.length r.1.length 3,ai r.2]) [.row (zJ qD r.1)] 0
theorem q88:Qf 88 Tryz.f88:=⟨Tryz.func88,rfl⟩
theorem zXB{p0 r}(h:zSa p0 r Ci):zSa p0 r Ct:=⟨h,⟨⟨tv,dE _⟩,tv⟩,zB,⟨dC _,tv,tv⟩,zB⟩
theorem yBz{p0 r}(h:zSA p0 r Ci):zSA p0 r Ct:=⟨h,⟨⟨tv,dE _⟩,tv⟩,zB,⟨(lz rfl),tv,tv⟩,(zA (dC _) zB)⟩
theorem zSB:∀qq:Nat,(∀p0 x4 v14 zX r,iY qq p0 x4 v14 zX=some r->(∀j,dL 0 (inn (inn (rgt (lft (rgt (rgt (rgt (bod Tryz.f88)))))))) (sp j 31 0 [(0,slv yQ p0 .no),(4,.ms 0 0 x4.length x4.length 3),(13,ai (p0.length:Int)),(14,ai v14)]) (⟨[(0,.row (zJ qD zX))],1,[],0,[]⟩) (fQ 0 ((match (generalizing:=false) r with | .inl x=>nQ 0 Tryz.f88 (.tup [.sl (zJ qD x.1) x.1.length .no,ai x.2]) [] 0 | .inr x=>nQ 0 Tryz.f88 (.tup [.ms 0 0 x.1.length x.1.length 3,ai x.2]) [.row (zJ qD x.1)] 0)) [.blk 0,.seq (rgt (rgt (rgt (rgt (bod Tryz.f88)))))]))):=by
 intro qq
 induction qq with
 |zero=>
  exact fun _ _ _ _ _ h=>nn h
 |succ qq ih=>
  intro p0 x4 v14 zX r h
  rw[iY]at h
  obtain⟨h6,h⟩|⟨h6,h⟩:=spl h
  obtain⟨x7,h8,h⟩:=zC h
  have k:=oA 0 (xM (o:=.no) h8)<|oB 0 h6 o0
  obtain⟨h9,h⟩|⟨h9,h⟩:=spl h
  obtain⟨r10,h11,h⟩:=zC h
  obtain⟨x12,h13,h⟩:=zC h
  obtain⟨x14,h15,h⟩:=zC h
  exact fun j=>lH 1 [] [0] [] [0,4,13,14] (oD (dE p0)<|oD (dC x14)<|oW 0 (wtE (x:=r10) (cs:=[slv zF r10.args .no,slv zF r10.inds .no,slv aK r10.recs .no]) zKX rfl h15)<|oA 0 (zYn (b:=0) (c:=List.length x4) (z:=3) h13)<|oC 0 [] (yCI h11)<|oB 1 h9 k) (ih _ _ _ _ _ h)
  exact fun j=>lH 1 [] [0] [] [0,4,13,14] (oD (dE p0)<|oD (dC zX)<|oB 1 h9 k) (ih _ _ _ _ _ h)
  obtain⟨l16,h17,h⟩:=zC h
  obtain⟨h17a,h17b⟩:=qZ h17
  cases h
  obtain rfl:=h17a.symm
  dsimp only
  rw[←h17b]
  exact fun j=>lF 0 [0] (oD (dC zX)<|oB 0 h6 o0)
theorem yCJ{qq p0 r}(h:e88 qq p0=some r):(match (generalizing:=false) r with | .inl x=>zSa p0 x Ct | .inr x=>zSA p0 x Ct):=by
 unfold e88 at h
 obtain⟨r1,h2,h⟩:=zC h
 obtain⟨h3,h⟩|⟨h3,h⟩:=spl h
 obtain⟨x4,h5,h⟩:=zC h
 rcases r with y0|y1
 exact zXB (tH q88 1 [] [0] [] [0,4,13,14] (oD (dE p0)<|oD (dC x4)<|oM 2 (zRi h5)<|oK 0 [] h3 (c87 h2) o0) (zSB _ _ _ _ _ _ h))
 exact yBz (tH q88 1 [] [0] [] [0,4,13,14] (oD (dE p0)<|oD (dC x4)<|oM 2 (zRi h5)<|oK 0 [] h3 (c87 h2) o0) (zSB _ _ _ _ _ _ h))
 cases h
 exact zXB (tF q88 1 [] (oD (dC ([]:List yS))<|oK 0 [] h3 (c87 h2) o0))
theorem c88{qq p0 r}(h:e88 qq p0=some r):(match (generalizing:=false) r with | .inl x=>CT Tryz.prog 88 [] [slv yQ p0 .no] (.tup [.sl (zJ qD x.1) x.1.length .no,ai x.2]) [] 0 | .inr x=>CT Tryz.prog 88 [] [slv yQ p0 .no] (.tup [.sl (zJ qD x.1) x.1.length .no,ai x.2]) [] 0):=by
 have k:=yCJ h
 rcases r with y0|y1
 ·exact k
 ·exact CT.freeze (H1:=[]) (cs:=zJ qD y1.1) (res':=(.tup [.sl (zJ qD y1.1) y1.1.length .no,ai y1.2])) k (Nat.le_of_ble_eq_true rfl) zB (dC _) ⟨(.inl ⟨rfl,rfl⟩),trivial,tv⟩ (by rfl) rfl
theorem zLD{t:Tm}{n:Int}(h:(vR t n).2.2≠0):(vR t n).2.1=zT∧(vR t n).1=[]:=by
 unfold vR at h ⊢
 split
 ·split
  ·exact⟨rfl,rfl⟩
  ·split
   ·exact⟨rfl,rfl⟩
   ·rename_i h1 h2 h3
    rw[if_pos h1,if_neg h2,if_neg h3]at h
    cases hr:pG n.toNat t with
    |none=>exact⟨rfl,rfl⟩
    |some r=>rw[hr]at h;exact absurd rfl h
 ·exact⟨rfl,rfl⟩
theorem zVZ:Evt (fun q=>zDs q zT) (hdT zT,arT zT):=by
 refine Evt.mk fun q=>?_
 show qK zT zT []=_
 unfold zT qK hdT arT
 simp
theorem zFh(t:Tm):Evt (fun q=>zDs q (yM t).2.1) (hdT (yM t).2.1,arT (yM t).2.1):=by
 by_cases h:(yM t).2.2=0
 ·have hw:=rB (t:=t) (l:=(yM t).1) (y:=(yM t).2.1) (by rw[←h])
  exact lA _ hw.2.2.2.2.1
 ·have:=(zLD (t:=t) (n:=((min (vS t) 25:Nat):Int)) h).1
  have e:(yM t).2.1=zT:=this
  rw[e];exact zVZ
def zEL(l:List Ent)(t:Tm)(of b:Int):tN:=
 if (yM t).2.2=0∧rP (yM t).2.1 of (ent l of).pars (ent l of).inds (b+(yM t).1.length)=true then tN.mk true (yM t).1 ((arT (yM t).2.1).drop (ent l of).pars.toNat)else tN.mk false [] []
theorem rQ{α:Type}{L:List α}{n:Int}(h0:0≤n)(h1:n≤L.length):gsl L n (L.length:Int)=some (L.drop n.toNat):=by
 unfold gsl
 rw[if_pos ⟨h0,h1,by omega⟩]
 congr 1
 exact List.take_of_length_le (by simp;omega)
theorem dM{t:Tm}{of pars more b:Int}(h:rP t of pars more b=true):(hdT t).k=6∧(hdT t).n=of∧((arT t).length:Int)=pars+more:=by
 unfold rP at h
 simp only[Bool.and_eq_true,beq_iff_eq]at h
 exact⟨h.1.1.1,h.1.1.2,h.1.2⟩
theorem zYH(l:List Ent)(t:Tm)(of b:Int)(ho:t.Ok)(h0:0≤of)(h1:of<l.length)(hp:0≤(ent l of).pars∧0≤(ent l of).inds∧(ent l of).pars+(ent l of).inds≤24)(hb:0≤b∧b≤1048576) :
  Evt (fun q=>zSd q l t of b) (zEL l t of b):=by
 simp only[zSd]
 refine(zAt t ho).bind ((zFh t).bind ?_)
 unfold zEL
 by_cases a1:(yM t).2.2=0
 ·have hw:=rB (t:=t) (l:=(yM t).1) (y:=(yM t).2.1) (by rw[←a1])
  refine Evt.ifF (by simp[a1]) ?_
  have hlen:=hw.2.2.1
  rw[yK (x:=b+((yM t).1.length:Int)) (by omega) (by omega)]
  have ha:=cO (yM t).2.1 of (ent l of).pars (ent l of).inds (b+(yM t).1.length) hw.2.2.2.2.1 (by omega) (by omega) (by omega)
  by_cases a2:rP (yM t).2.1 of (ent l of).pars (ent l of).inds (b+(yM t).1.length)=true
  ·have hs:=dM a2
   rw[if_pos ⟨a1,a2⟩]
   refine Evt.ifF (by simp[hs.1]) (Evt.ifF (by simp[hs.2.1]) (Evt.pure (yI h0 h1) (ha.bind (Evt.ifT a2 (Evt.pure (rQ hp.1 (by show _≤((arT (yM t).2.1).length:Int);omega)) ?_)))))
   have hal:=tO _ (zO hw.2.2.2.2.1).2.2
   have hn:=(zO hw.2.2.2.2.1).1
   refine Evt.bind (a:=(arT (yM t).2.1).drop (ent l of).pars.toNat) (Evt.mk fun q=>(yD (by simp<;>omega)).trans (by simp)) Evt.ret
  ·rw[if_neg (fun h=>a2 h.2)]
   refine Evt.iff (fun _=>Evt.ret) fun _=>Evt.iff (fun _=>Evt.ret) fun _=>Evt.pure (yI h0 h1) (ha.bind (Evt.ifF (by simpa using a2) Evt.ret))
 ·rw[if_neg (fun h=>a1 h.1)]
  exact Evt.ifT (by simp[a1]) Evt.ret
def nA(l:List Ent)(of:Int):List Tm->Int->List tN
 | [],_=>[]
 |a::r,b=>zEL l a of b::nA l of r (b+1)
theorem zBj(l:List Ent)(of:Int):∀(r:List Tm) (b:Int),(nA l of r b).length=r.length
 | [],_=>rfl
 |a::r,b=>congrArg (· + 1) (zBj l of r (b+1))
def wX(l:List Ent)(i:Int):yS:=
 yS.mk ((yM (ent l i).type).1.drop (ent l i).pars.toNat) ((arT (yM (ent l i).type).2.1).drop (ent l i).pars.toNat) (nA l (ent l i).fam ((yM (ent l i).type).1.drop (ent l i).pars.toNat) (ent l i).pars)
theorem zFg(l:List Ent)(x:Ent)(A I:List Tm)(hA:∀t∈A,t.Ok)(hl:A.length≤24)(h0:0≤x.fam)(h1:x.fam<l.length)(hp:0≤(ent l x.fam).pars∧0≤(ent l x.fam).inds∧(ent l x.fam).pars+(ent l x.fam).inds≤24)(hb:0≤x.pars∧x.pars≤24) :
  ∀(r:List Tm) (v:Nat) (acc:List tN),A.drop v=r->acc.length≤v->Evt (fun q=>kY q l x A I (v:Int) acc) (yS.mk A I (acc++nA l x.fam r (x.pars+v)))
 | [],v,acc,hd,ha=>by
  refine Evt.succ ?_
  simp only[kY]
  exact Evt.ifF (zZ hd) (Evt.ret.eq (by simp[nA]))
 |t::r,v,acc,hd,ha=>by
  have hlt:=yC hd
  have ht:t∈A:=by
   have:t∈A.drop v:=by rw[hd];simp
   exact List.mem_of_mem_drop this
  refine Evt.succ ?_
  simp only[kY]
  rw[yK (x:=x.pars+v) (by omega) (by omega)]
  refine Evt.ifT (zY hd) (Evt.pure (zV hd) ((zYH l t x.fam (x.pars+v) (hA t ht) h0 h1 hp (by omega)).bind (Evt.pure (yD (by simp<;>omega)) ?_)))
  rw[zU v (by omega)]
  refine(zFg l x A I hA hl h0 h1 hp hb r (v+1) _ (zS hd) (by simp<;>omega)).eq ?_
  rw[nA,show x.pars+((v+1:Nat):Int)=x.pars+v+1 by omega];simp
theorem uK{N:ByteArray->Bool}{l:List Ent}{i:Int}(hE:wI N l)(h0:0≤i)(h1:i<l.length)(hk:(ent l i).kind=2) :
  ∃(A:List Tm) (y:Tm),yM (ent l i).type=(A,y,0)∧zL y=true∧(∀t∈A,zL t=true)∧A.length=vS (ent l i).type∧A.length≤24∧0≤(ent l i).pars∧(ent l i).pars≤A.length ∧
   0≤(ent l i).fam∧(ent l i).fam<i∧(ent l (ent l i).fam).kind=1∧(ent l i).pars=(ent l (ent l i).fam).pars∧0≤(ent l (ent l i).fam).inds∧(ent l (ent l i).fam).pars+(ent l (ent l i).fam).inds≤24 ∧
   rP y (ent l i).fam (ent l i).pars (ent l (ent l i).fam).inds A.length=true∧0≤(ent l i).place∧(ent l i).place<(ent l (ent l i).fam).cons.length:=by
 have hc:=(yW (hE.2 i h0 h1)).2.2.1 hk
 unfold zLc at hc
 simp only[Bool.and_eq_true,beq_iff_eq,decide_eq_true_eq]at hc
 obtain⟨a1,a2,a3,a4⟩:=hc
 have ho:=rC a1
 have hf:=vD ((yW (hE.2 _ ho.1 (by omega))).2.1 ho.2.2.1)
 have hw:=rB (t:=(ent l i).type) (l:=(yM (ent l i).type).1) (y:=(yM (ent l i).type).2.1) (by rw[←a2])
 have hown:zDe l (ent l i)=(ent l (ent l i).fam).cons:=by unfold zDe;rw[if_neg (by omega)]
 have h6:=ho.2.2.2.2.2
 rw[hown]at h6
 exact⟨_,_,by rw[←a2],hw.2.2.2.2.1,hw.2.2.2.2.2,hw.2.1,hw.2.2.1,by omega,a3,ho.1,ho.2.1,ho.2.2.1,ho.2.2.2.1,hf.2.1,hf.2.2.1,a4,ho.2.2.2.2.1,h6⟩
theorem yA{t:Tm}(h:zL t=true):t.Ok:=sV t (zO h).2.2
theorem zSC{N:ByteArray->Bool}(l:List Ent)(i:Int)(hE:wI N l)(h0:0≤i)(h1:i<l.length)(hk:(ent l i).kind=2)(he:∀e∈l,EOk e):Evt (fun q=>zSb q l i) (wX l i):=by
 simp only[zSb]
 obtain⟨A,y,hw,hy,hA,hAp,hA24,p0,p1,f0,f1,fk,fp,fi,fs,hap,-,-⟩:=uK hE h0 h1 hk
 have hsp:=dM hap
 refine Evt.pure (yI h0 h1) ((zAt _ (he _ (pQ h0 h1)).1).bind ((zFh _).bind ?_))
 unfold wX
 rw[hw]
 have hal:=tO _ (zO hy).2.2
 have hn:=(zO hy).1
 refine Evt.pure (rQ p0 p1) (Evt.pure (rQ p0 (by show _≤((arT y).length:Int);omega)) (Evt.bind (a:=(arT y).drop (ent l i).pars.toNat) (Evt.mk fun q=>(yD (by simp<;>omega)).trans (by simp)) ?_))
 refine(zFg l (ent l i) (A.drop (ent l i).pars.toNat) ((arT y).drop (ent l i).pars.toNat) (fun t ht=>yA (hA t (List.mem_of_mem_drop ht))) (by simp;omega) f0 (by omega) (by omega) (by omega) _ 0 [] rfl (by simp)).eq ?_
 simp
def evA(l:List Ent):Nat->Nat->List yS
 |0,_=>[]
 |m+1,v=>(if (ent l v).kind=2 then wX l v else default)::evA l m (v+1)
theorem zNq(l:List Ent):∀(m v j:Nat),j<m->(evA l m v)[j]? = some (if (ent l ((v+j:Nat):Int)).kind=2 then wX l ((v+j:Nat):Int)else default)
 |m+1,v,0,_=>by simp[evA]
 |m+1,v,j+1,h=>by
  rw[evA,List.getElem?_cons_succ,zNq l m (v+1) j (by omega),show v+1+j=v+(j+1) by omega]
theorem zPa{N:ByteArray->Bool}(l:List Ent)(x4:List yS)(hx:x4.length=l.length)(hE:wI N l)(he:∀e∈l,EOk e):∀(m v:Nat) (acc:List yS),v+m=l.length->acc.length=v ->
  Evt (fun q=>iY q l x4 (v:Int) (acc++List.replicate m default)) (.inr (acc++evA l m v,0)):=by
 intro m
 induction m with
 |zero=>
  intro v acc hm ha
  refine Evt.succ ?_
  simp only[iY]
  refine Evt.ifF (decide_eq_false (by omega)) (Evt.pure (a:=acc++List.replicate 0 default) (by unfold gfz;rw[if_pos (by simp;omega)]) (Evt.ret.eq (by simp[evA])))
 |succ m ih=>
  intro v acc hm ha
  refine Evt.succ ?_
  simp only[iY]
  refine Evt.ifT (decide_eq_true (by omega)) (Evt.pure (yI (by omega) (by omega)) ?_)
  have hl:=hE.1
  rw[zU v (by omega),evA]
  by_cases k:(ent l v).kind=2
  ·rw[if_pos k]
   refine Evt.ifT (by simp[k]) ((zSC l v hE (by omega) (by omega) k he).bind ?_)
   refine Evt.pure (a:=v) (by unfold kE;rw[if_pos (by omega)];simp) ?_
   refine Evt.pure (a:=acc++wX l v::List.replicate m default) ?_ ?_
   ·unfold zBw
    rw[if_pos (by simp;omega),List.set_append_right _ _ (by omega),show v-acc.length=0 by omega,List.replicate_succ];rfl
   ·have:=ih (v+1) (acc++[wX l v]) (by omega) (by simp;omega)
    simpa using this
  ·rw[if_neg k]
   refine Evt.ifF (by simp[k]) ?_
   have:=ih (v+1) (acc++[default]) (by omega) (by simp;omega)
   rw[List.replicate_succ]
   simpa using this
def e57(qq:Nat)(p0:List Ent):Option ((Int) ⊕ (Int×List Ent×List yS)):=
 e58 qq p0>>=fun r1=>
 e87 qq p0>>=fun r3=>
 if r3 then
 e88 qq r1>>=fun r6=>
 match r6 with
 | .inl y8=>
  if y8.2 != 0 then
  some (.inl y8.2)
  else
  some (.inr (0,r1,y8.1))
 | .inr y10=>
  if y10.2 != 0 then
  some (.inl y10.2)
  else
  some (.inr (0,r1,y10.1))
 else
 some (.inl 5)
abbrev zSD (p0:List Ent) (r:Int) (C:Cf):Prop:=C 57 [] [slv yQ p0 .no] (.tup [.val (.pointer none),ai r]) [] 0
abbrev zSE (p0:List Ent) (r:Int×List Ent×List yS) (C:Cf):Prop:=C 57 [] [slv yQ p0 .no] (.tup [.mp 0 0,ai r.1]) [.cells [slv yQ r.2.1 .no,slv qD r.2.2 .no]] 0
theorem q57:Qf 57 Tryz.f57:=⟨Tryz.func57,rfl⟩
theorem zSF{p0 r}(h:zSD p0 r Ci):zSD p0 r Ct:=⟨h,⟨⟨tv,dE _⟩,tv⟩,zB,⟨tv,tv,tv⟩,zB⟩
theorem zXC{p0 r}(h:zSE p0 r Ci):zSE p0 r Ct:=⟨h,⟨⟨tv,dE _⟩,tv⟩,zB,⟨(lz rfl),tv,tv⟩,(zA ⟨dE _,dC _,tv⟩ zB)⟩
theorem c57{qq p0 r}(h:e57 qq p0=some r):(match (generalizing:=false) r with | .inl x=>zSD p0 x Ct | .inr x=>zSE p0 x Ct):=by
 unfold e57 at h
 obtain⟨r1,h2,h⟩:=zC h
 obtain⟨r3,h4,h⟩:=zC h
 have k:=oC 0 [] (c58 h2) o0
 obtain⟨h5,h⟩|⟨h5,h⟩:=spl h
 obtain⟨r6,h7,h⟩:=zC h
 have k:=oK 0 [] h5 (c87 h4) k
 rcases r6 with y8|y10
 dsimp only at h
 have k:=oC 1 [] (c88 h7) k
 obtain⟨h9,h⟩|⟨h9,h⟩:=spl h
 cases h
 exact zSF (tF q57 0 [] (oB 2 h9 k))
 cases h
 exact zXC (tF q57 0 [0] (oD (dC y8.1)<|oD (dE r1)<|oB 2 h9 k))
 dsimp only at h
 have k:=oC 1 [] (c88 h7) k
 obtain⟨h11,h⟩|⟨h11,h⟩:=spl h
 cases h
 exact zSF (tF q57 0 [] (oB 2 h11 k))
 cases h
 exact zXC (tF q57 0 [0] (oD (dC y10.1)<|oD (dE r1)<|oB 2 h11 k))
 cases h
 exact zSF (tF q57 1 [] (oK 0 [] h5 (c87 h4) k))
mutual
def mL:Nat->List Ent->(Int×List Ent×List yS)->Int->List Ent->List Int->List Int->Option ((Int) ⊕ (Int×List Ent×List Int×List Int×List Ent×List yS))
 |0,_,_,_,_,_,_=>none
 |qq+1,p0,y3,v27,zX,xB,vY=>
 if decide (v27<(p0.length:Int))then
 zR p0 v27>>=fun x8=>
 if x8.kind==1 then
 yP 8 xB [(w64 ((w64 ((w64 (x8.pars+2))+(x8.cons.length:Int)))+x8.inds))]>>=fun l11=>
 yP 8 vY [0]>>=fun l13=>
 mL qq p0 y3 (w64 (v27+1)) zX l11 l13
 else
 if x8.kind==2 then
 cR qq p0 y3 v27 zX xB vY 0 x8.type.k x8.type.n x8.type.sub
 else
 yP 8 xB [0]>>=fun l16=>
 yP 8 vY [0]>>=fun l18=>
 mL qq p0 y3 (w64 (v27+1)) zX l16 l18
 else
 some (.inr (0,zX,xB,vY,y3.2.1,y3.2.2))
def cR:Nat->List Ent->(Int×List Ent×List yS)->Int->List Ent->List Int->List Int->Int->Int->Int->List Tm->Option ((Int) ⊕ (Int×List Ent×List Int×List Int×List Ent×List yS))
 |0,_,_,_,_,_,_,_,_,_,_=>none
 |qq+1,p0,y3,v27,zX,xB,vY,v10,iC,dH,sM=>
 if iC==3 then
 zR sM 1>>=fun x17=>
 cR qq p0 y3 v27 zX xB vY (w64 (v10+1)) x17.k x17.n x17.sub
 else
 yP 8 xB [0]>>=fun l19=>
 yP 8 vY [v10]>>=fun l21=>
 mL qq p0 y3 (w64 (v27+1)) zX l19 l21
end
def e27(qq:Nat)(p0:List Ent):Option ((Int) ⊕ (Int×List Ent×List Int×List Int×List Ent×List yS)):=
 e57 qq p0>>=fun r1=>
 match r1 with
 | .inl y7=>
  if y7 != 0 then
  some (.inl y7)
  else
  none
 | .inr y3=>
  if y3.1 != 0 then
  some (.inl y3.1)
  else
  e58 qq p0>>=fun r5=>
  mL qq p0 y3 0 r5 [] []
abbrev zSG (p0:List Ent) (r:Int) (C:Cf):Prop:=C 27 [] [slv yQ p0 .no] (.tup [.val (.pointer none),ai r]) [] 0
abbrev zSH (p0:List Ent) (r:Int×List Ent×List Int×List Int×List Ent×List yS) (C:Cf):Prop:=C 27 [] [slv yQ p0 .no] (.tup [.mp 0 0,ai r.1]) [.cells [slv yQ r.2.1 .no,.mp 1 0,slv zW r.2.2.1 .no,slv zW r.2.2.2.1 .no],.cells [slv yQ r.2.2.2.2.1 .no,slv qD r.2.2.2.2.2 .no]] 0
theorem q27:Qf 27 Tryz.f27:=⟨Tryz.func27,rfl⟩
theorem zSI{p0 r}(h:zSG p0 r Ci):zSG p0 r Ct:=⟨h,⟨⟨tv,dE _⟩,tv⟩,zB,⟨tv,tv,tv⟩,zB⟩
theorem yBy{p0 r}(h:zSH p0 r Ci):zSH p0 r Ct:=⟨h,⟨⟨tv,dE _⟩,tv⟩,zB,⟨(lz rfl),tv,tv⟩,(fMf (lz rfl) zB)⟩
theorem zAq:∀qq:Nat,(∀p0 y3 v27 zX xB vY r,mL qq p0 y3 v27 zX xB vY=some r->(∀j,dL 0 (inn (inn (rgt (lft (rgt (rgt (rgt (rgt (bod Tryz.f27))))))))) (sp j 81 0 [(6,.mp 0 0),(25,slv yQ p0 .no),(26,ai (p0.length:Int)),(27,ai v27)]) (⟨[(0,.cells [slv yQ zX .no,.mp 1 0,slv zW xB (.st 0 1),slv zW vY (.st 1 1)]),(1,.cells [slv yQ y3.2.1 .no,slv qD y3.2.2 .no])],2,[0,1],2,[]⟩) (fQ 0 ((match (generalizing:=false) r with | .inl x=>nQ 0 Tryz.f27 (.tup [.val (.pointer none),ai x]) [] 0 | .inr x=>nQ 0 Tryz.f27 (.tup [.mp 0 0,ai x.1]) [.cells [slv yQ x.2.1 .no,.mp 1 0,slv zW x.2.2.1 .no,slv zW x.2.2.2.1 .no],.cells [slv yQ x.2.2.2.2.1 .no,slv qD x.2.2.2.2.2 .no]] 0)) [.blk 0,.seq (rgt (rgt (rgt (rgt (rgt (bod Tryz.f27))))))])))∧(∀p0 y3 v27 zX xB vY v10 iC dH sM r,cR qq p0 y3 v27 zX xB vY v10 iC dH sM=some r->(∀j,dL 0 (inn (inn (rgt (lft (rgt (rgt (rgt (inn (rgt (lft (rgt (rgt (inn (lft (rgt (rgt (inn (inn (rgt (lft (rgt (rgt (rgt (rgt (bod Tryz.f27))))))))))))))))))))))))) (sp j 81 0 [(6,.mp 0 0),(9,ai 0),(10,ai v10),(11,.mp 1 0),(25,slv yQ p0 .no),(26,ai (p0.length:Int)),(27,ai v27)]) (⟨[(0,.cells [slv yQ zX .no,.mp 2 0,slv zW xB (.st 0 1),slv zW vY (.st 1 1)]),(1,.cells [ai iC,ai dH,slv zF sM .no]),(2,.cells [slv yQ y3.2.1 .no,slv qD y3.2.2 .no])],3,[0,1],2,[]⟩) (fQ 0 ((match (generalizing:=false) r with | .inl x=>nQ 0 Tryz.f27 (.tup [.val (.pointer none),ai x]) [] 0 | .inr x=>nQ 0 Tryz.f27 (.tup [.mp 0 0,ai x.1]) [.cells [slv yQ x.2.1 .no,.mp 1 0,slv zW x.2.2.1 .no,slv zW x.2.2.2.1 .no],.cells [slv yQ x.2.2.2.2.1 .no,slv qD x.2.2.2.2.2 .no]] 0)) [.blk 3,.blk 2,.seq (rgt (rgt (rgt (inn (lft (rgt (rgt (inn (inn (rgt (lft (rgt (rgt (rgt (rgt (bod Tryz.f27)))))))))))))))),.blk 1,.seq (rgt (rgt (rgt (inn (inn (rgt (lft (rgt (rgt (rgt (rgt (bod Tryz.f27)))))))))))),.loop (inn (inn (rgt (lft (rgt (rgt (rgt (rgt (bod Tryz.f27))))))))),.blk 0,.seq (rgt (rgt (rgt (rgt (rgt (bod Tryz.f27))))))]))):=by
 intro qq
 induction qq with
 |zero=>
  exact⟨fun _ _ _ _ _ _ _ h=>nn h,fun _ _ _ _ _ _ _ _ _ _ _ h=>nn h⟩
 |succ qq ih=>
  obtain⟨zGK,zNp⟩:=ih
  refine⟨?_,?_⟩
  intro p0 y3 v27 zX xB vY r h
  rw[mL]at h
  obtain⟨h7,h⟩|⟨h7,h⟩:=spl h
  obtain⟨x8,h9,h⟩:=zC h
  have k:=oA 0 (xM (o:=.no) h9)<|oB 0 h7 o0
  obtain⟨h10,h⟩|⟨h10,h⟩:=spl h
  obtain⟨l11,h12,h⟩:=zC h
  obtain⟨l13,h14,h⟩:=zC h
  exact fun j=>lH 3 [] [0,1] [2,3] [6,25,26,27] (oD (dE p0)<|oD (dC y3.2.2)<|oD (dE y3.2.1)<|oD (dI l13)<|oD (dI l11)<|oD (dE zX)<|oP 2 (sR h14 (by simp))<|oP 9 (sR h12 (by simp))<|oB 3 h10 k) (zGK _ _ _ _ _ _ _ h)
  have k:=oB 3 h10 k
  obtain⟨h15,h⟩|⟨h15,h⟩:=spl h
  exact fun j=>lH 2 [] [0,3,1] [0,1] [6,9,10,11,25,26,27] (oD (dE p0)<|oD (dC y3.2.2)<|oD (dE y3.2.1)<|oD (dT x8.type.sub)<|oD (dI vY)<|oD (dI xB)<|oD (dE zX)<|oB 0 h15 k) (zNp _ _ _ _ _ _ _ _ _ _ _ h)
  obtain⟨l16,h17,h⟩:=zC h
  obtain⟨l18,h19,h⟩:=zC h
  exact fun j=>lH 3 [] [0,1] [2,3] [6,25,26,27] (oD (dE p0)<|oD (dC y3.2.2)<|oD (dE y3.2.1)<|oD (dI l18)<|oD (dI l16)<|oD (dE zX)<|oP 2 (sR h19 (by simp))<|oP 2 (sR h17 (by simp))<|oB 0 h15 k) (zGK _ _ _ _ _ _ _ h)
  cases h
  exact fun j=>lF 0 [0,1] (oD (dC y3.2.2)<|oD (dE y3.2.1)<|oD (dI vY)<|oD (dI xB)<|oD (dE zX)<|oB 0 h7 o0)
  intro p0 y3 v27 zX xB vY v10 iC dH sM r h
  rw[cR]at h
  obtain⟨h16,h⟩|⟨h16,h⟩:=spl h
  obtain⟨x17,h18,h⟩:=zC h
  exact fun j=>lH 2 [] [0,3,2] [0,1] [6,9,10,11,25,26,27] (oD (dE p0)<|oD (dC y3.2.2)<|oD (dE y3.2.1)<|oD (dT x17.sub)<|oD (dI vY)<|oD (dI xB)<|oD (dE zX)<|oA 4 (yN (o:=.no) h18)<|oB 1 h16 o0) (zNp _ _ _ _ _ _ _ _ _ _ _ h)
  obtain⟨l19,h20,h⟩:=zC h
  obtain⟨l21,h22,h⟩:=zC h
  exact fun j=>lH 3 [] [0,2] [2,3] [6,25,26,27] (oD (dE p0)<|oD (dC y3.2.2)<|oD (dE y3.2.1)<|oD (dI l21)<|oD (dI l19)<|oD (dE zX)<|oP 2 (sR h22 (by simp))<|oP 2 (sR h20 (by simp))<|oB 1 h16 o0) (zGK _ _ _ _ _ _ _ h)
theorem c27{qq p0 r}(h:e27 qq p0=some r):(match (generalizing:=false) r with | .inl x=>zSG p0 x Ct | .inr x=>zSH p0 x Ct):=by
 unfold e27 at h
 obtain⟨r1,h2,h⟩:=zC h
 rcases r1 with y7|y3
 dsimp only at h
 have k:=oC 0 [] (c57 h2) o0
 obtain⟨h8,h⟩:=spT h
 cases h
 exact zSI (tF q27 0 [] (oB 2 h8 k))
 dsimp only at h
 have k:=oC 0 [] (c57 h2) o0
 obtain⟨h4,h⟩|⟨h4,h⟩:=spl h
 cases h
 exact zSI (tF q27 0 [] (oB 2 h4 k))
 obtain⟨r5,h6,h⟩:=zC h
 rcases r with y0|y1
 exact zSI (tH q27 1 [(some 1,2,1),(some 1,3,1)] [1,0] [0,1] [6,25,26,27] (oD (dE p0)<|oD (dC y3.2.2)<|oD (dE y3.2.1)<|oD (dI ([]:List Int))<|oD (dI ([]:List Int))<|oD (dE r5)<|oC 0 [] (c58 h6)<|oB 2 h4 k) (((zAq _).1) _ _ _ _ _ _ _ h))
 exact yBy (tH q27 1 [(some 1,2,1),(some 1,3,1)] [1,0] [0,1] [6,25,26,27] (oD (dE p0)<|oD (dC y3.2.2)<|oD (dE y3.2.1)<|oD (dI ([]:List Int))<|oD (dI ([]:List Int))<|oD (dE r5)<|oC 0 [] (c58 h6)<|oB 2 h4 k) (((zAq _).1) _ _ _ _ _ _ _ h))
theorem zSJ{N:ByteArray->Bool}(l:List Ent)(hf:Evt (fun q=>e87 q l) true)(hE:wI N l)(he:∀e∈l,EOk e):Evt (fun q=>e88 q l) (.inr (evA l l.length 0,0)):=by
 simp only[e88]
 have hl:=hE.1
 refine hf.bind (Evt.ifT rfl (Evt.pure (a:=List.replicate l.length default) ?_ ?_))
 ·unfold gmk;rw[if_pos (by omega)];rfl
 ·exact(zPa l (List.replicate l.length default) (by simp) hE he l.length 0 [] (by omega) rfl).eq (by simp)
def zLE(l:List Ent)(b:Bool):(Int) ⊕ (Int×List Ent×List yS):=if b=true then .inr (0,l,evA l l.length 0)else .inl 5
theorem zWz(N:ByteArray->Bool)(hN:fJ N)(l:List Ent)(hl:l.length≤65535)(he:∀e∈l,EOk e)(hc:∀e∈l,ECl e):∃b,Evt (fun q=>e87 q l) b∧(b=true->wI N l)∧Evt (fun q=>e57 q l) (zLE l b):=by
 obtain⟨d,-,hd⟩:=zPf N hN l hl he
 refine⟨_,hd,zAr,?_⟩
 simp only[e57]
 refine(zDd l hl he hc).bind (hd.bind ?_)
 unfold zLE
 by_cases h:zAs N d l=true
 ·rw[if_pos h]
  have hA:=zAr h
  rw[zBm hA]
  refine Evt.ifT h ((zSJ l (hd.eq h) hA he).bind ?_)
  exact Evt.ifF (by simp) Evt.ret
 ·rw[if_neg h]
  exact Evt.ifF (by simpa using h) Evt.ret
theorem zPA(t:Tm)(hg:yL t=true):vS t≤t.nodes:=by
 have key:∀(m:Nat) (t:Tm),t.nodes≤m->yL t=true->vS t≤t.nodes:=by
  intro m
  induction m with
  |zero=>intro t h;have:=wO t;omega
  |succ m ih=>
   intro t hm hg
   by_cases k:t.k=3
   ·obtain⟨x,y,e,hx,hy⟩:=pP hg k
    rw[e]at hm ⊢
    rw[fI]
    rw[Tm.nodes,yF,yF,yF]at hm ⊢
    have:=wO x
    have:=ih y (by omega) hy
    omega
   ·rw[zGF k];omega
 exact key t.nodes t (Nat.le_refl _) hg
def xR(e:Ent):Int:=if e.kind=1 then e.pars+2+e.cons.length+e.inds else 0
def sK(e:Ent):Int:=if e.kind=2 then(vS e.type:Int)else 0
theorem zWy(l:List Ent)(y3:Int×List Ent×List yS)(v27:Int)(vb:List Ent)(a o:List Int)(r:(Int) ⊕ (Int×List Ent×List Int×List Int×List Ent×List yS))(ha:a.length≤65535)(ho:o.length≤65535)(tot:Int)(ht:tot≤4611686018427387904)
  (hk:Evt (fun q=>mL q l y3 (w64 (v27+1)) vb (a++[0]) (o++[tot])) r) :
  ∀(t:Tm) (v:Int),yL t=true->0≤v->v+vS t=tot->Evt (fun q=>cR q l y3 v27 vb a o v t.k t.n t.sub) r:=by
 have key:∀(m:Nat) (t:Tm) (v:Int),t.nodes≤m->yL t=true->0≤v->v+vS t=tot->Evt (fun q=>cR q l y3 v27 vb a o v t.k t.n t.sub) r:=by
  intro m
  induction m with
  |zero=>intro t v h;have:=wO t;omega
  |succ m ih=>
   intro t v hm hg h0 hv
   refine Evt.succ ?_
   simp only[cR]
   by_cases k:t.k=3
   ·obtain⟨x,y,e,hx,hy⟩:=pP hg k
    rw[e]at hv hm ⊢
    rw[fI]at hv
    refine Evt.ifT (by simp[Tm.k]) (Evt.pure (a:=y) (by simp[zR,Tm.sub]) ?_)
    rw[yK (x:=v+1) (by omega) (by omega)]
    refine ih y (v+1) ?_ hy (by omega) (by omega)
    rw[Tm.nodes,yF,yF,yF]at hm
    have:=wO x
    omega
   ·rw[zGF k]at hv
    refine Evt.ifF (by simp[k]) (Evt.pure (yD (by simp<;>omega)) (Evt.pure (yD (by simp<;>omega)) ?_))
    rw[show v=tot by omega];exact hk
 exact fun t v=>key t.nodes t v (Nat.le_refl _)
theorem zAp{N:ByteArray->Bool}(l vb:List Ent)(y3:Int×List Ent×List yS)(hE:wI N l):∀(r:List Ent) (v:Nat) (a o:List Int),l.drop v=r->a.length≤v->o.length≤v ->
  Evt (fun q=>mL q l y3 (v:Int) vb a o) (.inr (0,vb,a++r.map xR,o++r.map sK,y3.2.1,y3.2.2))
 | [],v,a,o,hd,ha,ho=>by
  refine Evt.succ ?_
  simp only[mL]
  exact Evt.ifF (zZ hd) (Evt.ret.eq (by simp))
 |x::r,v,a,o,hd,ha,ho=>by
  have hlt:=yC hd
  have hl:=hE.1
  have hx:ent l v=x:=by
   have h1:=zV hd
   rw[yI (by omega) (by omega)]at h1
   exact Option.some.inj h1
  have hs:=yW (hE.2 v (by omega) (by omega))
  rw[hx]at hs
  refine Evt.succ ?_
  simp only[mL]
  refine Evt.ifT (zY hd) (Evt.pure (zV hd) ?_)
  by_cases k1:x.kind=1
  ·have hf:=vD (hs.2.1 k1)
   rw[hx]at hf
   rw[yK (x:=x.pars+2) (by omega) (by omega),yK (x:=x.pars+2+x.cons.length) (by omega) (by omega),yK (x:=x.pars+2+x.cons.length+x.inds) (by omega) (by omega),zU v (by omega)]
   refine Evt.ifT (by simp[k1]) (Evt.pure (yD (by simp<;>omega)) (Evt.pure (yD (by simp<;>omega)) ?_))
   refine(zAp l vb y3 hE r (v+1) _ _ (zS hd) (by simp<;>omega) (by simp<;>omega)).eq ?_
   simp[xR,sK,k1]
  ·refine Evt.ifF (by simp[k1]) ?_
   by_cases k2:x.kind=2
   ·refine Evt.ifT (by simp[k2]) ?_
    have hsh:=(zO (sS hs.1))
    have hp:vS x.type≤8192:=Nat.le_trans (zPA x.type hsh.2.2) hsh.1
    refine zWy l y3 v vb a o _ (by omega) (by omega) (vS x.type) (by omega) ?_ x.type 0 hsh.2.2 (by omega) (by omega)
    rw[zU v (by omega)]
    refine(zAp l vb y3 hE r (v+1) _ _ (zS hd) (by simp<;>omega) (by simp<;>omega)).eq ?_
    simp[xR,sK,k2]
   ·refine Evt.ifF (by simp[k2]) (Evt.pure (yD (by simp<;>omega)) (Evt.pure (yD (by simp<;>omega)) ?_))
    rw[zU v (by omega)]
    refine(zAp l vb y3 hE r (v+1) _ _ (zS hd) (by simp<;>omega) (by simp<;>omega)).eq ?_
    simp[xR,sK,k1,k2]
def wC(l:List Ent):xE:=xE.mk l l (evA l l.length 0) (l.map xR) (l.map sK)
def zIX(l:List Ent)(b:Bool):(Int) ⊕ (Int×List Ent×List Int×List Int×List Ent×List yS):=if b=true then .inr (0,l,l.map xR,l.map sK,l,evA l l.length 0)else .inl 5
theorem zNo(N:ByteArray->Bool)(hN:fJ N)(l:List Ent)(hl:l.length≤65535)(he:∀e∈l,EOk e)(hc:∀e∈l,ECl e):∃b,Evt (fun q=>e87 q l) b∧(b=true->wI N l)∧Evt (fun q=>e27 q l) (zIX l b):=by
 obtain⟨b,h1,h2,h3⟩:=zWz N hN l hl he hc
 refine⟨b,h1,h2,?_⟩
 simp only[e27]
 refine h3.bind ?_
 unfold zLE zIX
 cases b with
 |false=>exact Evt.ifT (by decide) Evt.ret
 |true=>
  refine Evt.ifF (by simp) ((zDd l hl he hc).bind ?_)
  rw[zBm (h2 rfl)]
  exact(zAp l l _ (h2 rfl) l 0 [] [] rfl (by simp) (by simp)).eq (by simp)
theorem iZ{t:Tm}{k c:Int}(h:(vX t k c).2=0):zL t=true∧0≤k∧0≤c∧zL (lfT t 0 c k)=true∧(vX t k c).1=lfT t 0 c k:=by
 unfold vX at h ⊢
 by_cases a:zL t=true∧dG k=true∧dG c=true
 ·rw[if_pos a]at h ⊢
  by_cases b:zL (lfT t 0 c k)=true
  ·rw[if_pos b]
   have a2:=a.2.1
   have a3:=a.2.2
   unfold dG at a2 a3
   simp only[Bool.and_eq_true,decide_eq_true_eq]at a2 a3
   exact⟨a.1,a2.1,a3.1,b,rfl⟩
  ·rw[if_neg b]at h;simp at h
 ·rw[if_neg a]at h;simp at h
theorem zDc(t:Tm)(k c:Int):(vX t k c).2≠8:=by
 unfold vX
 split
 ·split<;>simp
 ·simp
mutual
def siT(ls:List Tm):Tm->Int->Tm
 | .mk kd n l,b=>if kd=1∧b≤n then(if h:(n-b).toNat<ls.length then lfT (ls[(n-b).toNat]) 0 0 b else .mk 1 (n-ls.length) [])else .mk kd n (siL ls l kd 0 b)
def siL(ls:List Tm):List Tm->Int->Nat->Int->List Tm
 | [],_,_,_=>[]
 |t::l,kd,i,b=>siT ls t (xJ kd i b)::siL ls l kd (i+1) b
end
theorem zYI{a:Tm}{b left:Int}{long:Bool}(h:(raT a b left long).2.2=false):long=false∧(raT a b left long).1=lfT a 0 0 b:=by
 unfold raT at h ⊢
 by_cases h1:left-szT a 0<0
 ·rw[if_pos h1]at h;simp at h
 ·rw[if_neg h1]at h ⊢
  by_cases h2:(vX a b 0).2≠0
  ·rw[if_pos h2]at h;simp at h
  ·rw[if_neg h2]at h ⊢
   exact⟨h,(iZ (by simpa using h2)).2.2.2.2⟩
theorem zSK(ls:List Tm):∀(t:Tm) (b left:Int),(sbT ls t b left true).2.2=true
 | .mk kd n l,b,left=>by rw[sbT,if_pos rfl]
mutual
theorem zSL(ls:List Tm):∀(t:Tm) (b left:Int) (long:Bool),(sbT ls t b left long).2.2=false->long=false∧(sbT ls t b left long).1=siT ls t b
 | .mk kd n l,b,left,long,h=>by
  cases long with
  |true=>rw[zSK]at h;cases h
  |false=>
   refine⟨rfl,?_⟩
   rw[sbT,if_neg (by simp)]at h ⊢
   rw[siT]
   by_cases h1:kd=1∧b≤n
   ·rw[if_pos h1]at h
    rw[if_pos h1,if_pos h1]
    by_cases h2:(n-b).toNat<ls.length
    ·rw[dif_pos h2]at h
     rw[dif_pos h2,dif_pos h2]
     exact(zYI h).2
    ·rw[dif_neg h2,dif_neg h2]
   ·rw[if_neg h1]at h
    rw[if_neg h1,if_neg h1]
    exact congrArg (Tm.mk kd n) (zSM ls l kd 0 b (left-1) (decide (left-1<0)) h).2
theorem zSM(ls:List Tm):∀(l:List Tm) (kd:Int) (i:Nat) (b left:Int) (long:Bool),(sbL ls l kd i b left long).2.2=false->long=false∧(sbL ls l kd i b left long).1=siL ls l kd i b
 | [],kd,i,b,left,long,h=>by
  rw[sbL]at h ⊢
  rw[siL]
  exact⟨h,rfl⟩
 |t::l,kd,i,b,left,long,h=>by
  rw[sbL]at h ⊢
  have k:=zSM ls l kd (i+1) b (sbT ls t (xJ kd i b) left long).2.1 (sbT ls t (xJ kd i b) left long).2.2 h
  have k2:=zSL ls t (xJ kd i b) left long k.1
  refine⟨k2.1,?_⟩
  show (sbT ls t (xJ kd i b) left long).1::(sbL ls l kd (i+1) b (sbT ls t (xJ kd i b) left long).2.1 (sbT ls t (xJ kd i b) left long).2.2).1=_
  rw[k2.2,k.2,siL]
end
theorem zNn{t:Tm}{ls:List Tm}(h:(iW t ls).2=0):zL t=true∧ls.all zL=true∧zL (siT ls t 0)=true∧(iW t ls).1=siT ls t 0:=by
 unfold iW at h ⊢
 by_cases a:zL t=true∧ls.all zL=true
 ·rw[if_pos a]at h ⊢
  by_cases b:(sbT ls t 0 8192 false).2.2=true
  ·rw[if_pos b]at h;simp at h
  ·rw[if_neg b]at h ⊢
   have e:=(zSL ls t 0 8192 false (by simpa using b)).2
   rw[e]at h ⊢
   by_cases c:zL (siT ls t 0)=true
   ·rw[if_pos c];exact⟨a.1,a.2,c,rfl⟩
   ·rw[if_neg c]at h;simp at h
 ·rw[if_neg a]at h;simp at h
theorem zNm(t:Tm)(ls:List Tm):(iW t ls).2≠8:=by
 unfold iW
 split
 ·split
  ·simp
  ·split<;>simp
 ·simp
mutual
def yU(P:Int->Int->Prop):Tm->Prop
 | .mk k n l=>(k=1∨P k n)∧xY P l
def xY(P:Int->Int->Prop):List Tm->Prop
 | []=>True
 |t::l=>yU P t∧xY P l
end
section
variable {P:Int->Int->Prop}
theorem zGL{k n:Int}{a b:Tm}(h:k=1∨P k n)(ha:yU P a)(hb:yU P b):yU P (.mk k n [a,b]):=by
 rw[yU,xY,xY,xY];exact⟨h,ha,hb,trivial⟩
theorem zYJ{k n:Int}{a:Tm}(h:k=1∨P k n)(ha:yU P a):yU P (.mk k n [a]):=by
 rw[yU,xY,xY];exact⟨h,ha,trivial⟩
theorem mM{k n:Int}(h:k=1∨P k n):yU P (.mk k n []):=by
 rw[yU,xY];exact⟨h,trivial⟩
mutual
theorem zAo:∀(t:Tm) (b c k:Int),yU P t->yU P (lfT t b c k)
 | .mk kd n l,b,c,k,h=>by
  rw[yU]at h
  rw[lfT]
  split
  ·exact mM (.inl rfl)
  ·rw[yU];exact⟨h.1,zIY l kd 0 b c k h.2⟩
theorem zIY:∀(l:List Tm) (kd:Int) (i:Nat) (b c k:Int),xY P l->xY P (lfL l kd i b c k)
 | [],_,_,_,_,_,_=>by rw[lfL,xY];trivial
 |t::l,kd,i,b,c,k,h=>by
  rw[xY]at h
  rw[lfL,xY]
  exact⟨zAo t _ c k h.1,zIY l kd (i+1) b c k h.2⟩
end
mutual
theorem zGM(ls:List Tm)(hls:∀a∈ls,yU P a):∀(t:Tm) (b:Int),yU P t->yU P (siT ls t b)
 | .mk kd n l,b,h=>by
  rw[yU]at h
  rw[siT]
  split
  ·split
   ·exact zAo _ 0 0 b (hls _ (List.getElem_mem _))
   ·exact mM (.inl rfl)
  ·rw[yU];exact⟨h.1,zIZ ls hls l kd 0 b h.2⟩
theorem zIZ(ls:List Tm)(hls:∀a∈ls,yU P a):∀(l:List Tm) (kd:Int) (i:Nat) (b:Int),xY P l->xY P (siL ls l kd i b)
 | [],_,_,_,_=>by rw[siL,xY];trivial
 |t::l,kd,i,b,h=>by
  rw[xY]at h
  rw[siL,xY]
  exact⟨zGM ls hls t _ h.1,zIZ ls hls l kd (i+1) b h.2⟩
end
theorem kZ:∀(l:List Tm) (f:Tm),P 5 0->yU P f->(∀a∈l,yU P a)->yU P (apT f l)
 | [],f,_,hf,_=>by rw[apT];exact hf
 |a::l,f,h5,hf,hl=>by
  rw[apT]
  exact kZ l _ h5 (zGL (.inr h5) hf (hl a (by simp))) fun x hx=>hl x (by simp[hx])
theorem jA:∀t:Tm,yL t=true->yU P t->yU P (hdT t)∧∀a∈arT t,yU P a:=by
 refine kL ?_ ?_
 ·intro t hg hk h
  rw[rK hk,rL hk]
  exact⟨h,fun x hx=>by cases hx⟩
 ·intro n a b hg ha hb ih h
  rw[nU,qU]
  rw[yU,xY,xY,xY]at h
  refine⟨(ih h.2.1).1,fun x hx=>?_⟩
  rcases List.mem_append.1 hx with hx|hx
  ·exact(ih h.2.1).2 x hx
  ·rw[List.mem_singleton.1 hx];exact h.2.2.1
theorem zDb:∀(n:Nat) (t:Tm) (r:List Tm×Tm),yL t=true->pG n t=some r->yU P t->yU P r.2∧∀x∈r.1,yU P x
 |0,t,r,hg,h,ha=>by
  rw[pG]at h;cases h
  exact⟨ha,fun x hx=>by cases hx⟩
 |n+1,t,r,hg,h,ha=>by
  by_cases h3:t.k=3
  ·obtain⟨a,b,hx,hga,hgb⟩:=pP hg h3
   rw[hx]at h ha
   rw[fH]at h
   obtain⟨r',h1,rfl⟩:=Option.map_eq_some_iff.1 h
   rw[yU,xY,xY,xY]at ha
   have ih:=zDb n b r' hgb h1 ha.2.2.1
   refine⟨ih.1,fun x hx=>?_⟩
   rcases List.mem_cons.1 hx with rfl|hx
   ·exact ha.2.1
   ·exact ih.2 x hx
  ·rw[iX h3]at h;cases h
end
mutual
theorem zBi{P Q R:Int->Int->Prop}(h:∀k n,P k n->Q k n->R k n):∀t:Tm,yU P t->yU Q t->yU R t
 | .mk k n l,hp,hq=>by
  rw[yU]at hp hq ⊢
  refine⟨?_,zDa h l hp.2 hq.2⟩
  rcases hp.1 with h1|h1
  ·exact .inl h1
  ·rcases hq.1 with h2|h2
   ·exact .inl h2
   ·exact .inr (h k n h1 h2)
theorem zDa{P Q R:Int->Int->Prop}(h:∀k n,P k n->Q k n->R k n):∀l:List Tm,xY P l->xY Q l->xY R l
 | [],_,_=>by rw[xY];trivial
 |t::l,hp,hq=>by
  rw[xY]at hp hq ⊢
  exact⟨zBi h t hp.1 hq.1,zDa h l hp.2 hq.2⟩
end
theorem qL{P R:Int->Int->Prop}{t:Tm}(h:∀k n,P k n->R k n)(hp:yU P t):yU R t:=zBi (fun k n a _=>h k n a) t hp hp
mutual
theorem gA{a b:Int}{Q:Int->Prop}(ha:a≠1)(hb:b≠1):∀t:Tm,(∀x∈sW t a b,Q x)↔yU (fun k n=>k=a∨k=b->Q n) t
 | .mk k n l=>by
  have ih:=zFf (Q:=Q) ha hb l
  rw[sW,yU,←ih]
  constructor
  ·intro h
   refine⟨?_,fun x hx=>h x (List.mem_append_right _ hx)⟩
   by_cases h1:k=a∨k=b
   ·exact .inr fun _=>h n (by rw[if_pos h1];simp)
   ·exact .inr fun h2=>absurd h2 h1
  ·rintro ⟨h1,h2⟩ x hx
   rcases List.mem_append.1 hx with hx|hx
   ·by_cases h3:k=a∨k=b
    ·rw[if_pos h3,List.mem_singleton]at hx
     rcases h1 with h1|h1
     ·omega
     ·rw[hx];exact h1 h3
    ·rw[if_neg h3]at hx;cases hx
   ·exact h2 x hx
theorem zFf{a b:Int}{Q:Int->Prop}(ha:a≠1)(hb:b≠1):∀l:List Tm,(∀x∈aV l a b,Q x)↔xY (fun k n=>k=a∨k=b->Q n) l
 | []=>by rw[aV,xY];simp
 |t::l=>by
  rw[aV,xY,←gA ha hb t,←zFf ha hb l]
  constructor
  ·intro h
   exact⟨fun x hx=>h x (List.mem_append_left _ hx),fun x hx=>h x (List.mem_append_right _ hx)⟩
  ·rintro ⟨h1,h2⟩ x hx
   rcases List.mem_append.1 hx with hx|hx
   ·exact h1 x hx
   ·exact h2 x hx
end
mutual
def lvT:Tm->Int->List Int
 | .mk k n l,b=>if k=1 then(if b≤n then [n-b]else [])else lvL l k 0 b
def lvL:List Tm->Int->Nat->Int->List Int
 | [],_,_,_=>[]
 |t::l,k,i,b=>lvT t (xJ k i b)++lvL l k (i+1) b
end
theorem zJz(k:Int)(i:Nat)(d x:Int):xJ k i (d+x)=xJ k i d+x:=by
 unfold xJ
 by_cases h:i=1∧k≠5
 ·rw[if_pos h,if_pos h];omega
 ·rw[if_neg h,if_neg h]
theorem zNl(k:Int)(i:Nat)(d:Int):d≤xJ k i d:=by
 unfold xJ;split<;>omega
theorem sO{n b j:Int}{l:List Tm}:j∈lvT (.mk 1 n l) b↔b≤n∧j=n-b:=by
 rw[lvT,if_pos rfl]
 by_cases h:b≤n
 ·rw[if_pos h];simp[h]
 ·rw[if_neg h];simp[h]
theorem uR{k n b j:Int}{l:List Tm}(h:k≠1):j∈lvT (.mk k n l) b↔j∈lvL l k 0 b:=by
 rw[lvT,if_neg h]
theorem xW{t:Tm}{l:List Tm}{k b j:Int}{i:Nat}:j∈lvL (t::l) k i b↔j∈lvT t (xJ k i b)∨j∈lvL l k (i+1) b:=by
 rw[lvL,List.mem_append]
theorem rR{k b j:Int}{i:Nat}:¬j∈lvL [] k i b:=by
 rw[lvL];simp
mutual
theorem zDA:∀(t:Tm) (b j:Int),j∈lvT t b->0≤j
 | .mk k n l,b,j,h=>by
  by_cases hk:k=1
  ·subst hk;have:=sO.1 h;omega
  ·exact zSN l k 0 b j ((uR hk).1 h)
theorem zSN:∀(l:List Tm) (k:Int) (i:Nat) (b j:Int),j∈lvL l k i b->0≤j
 | [],k,i,b,j,h=>absurd h rR
 |t::l,k,i,b,j,h=>(xW.1 h).elim (zDA t _ j) (zSN l k (i+1) b j)
end
mutual
theorem lD:∀(t:Tm) (d b j:Int),0≤b->(j∈lvT t (d+b)↔0≤j∧j+b∈lvT t d)
 | .mk k n l,d,b,j,hb=>by
  by_cases hk:k=1
  ·subst hk;rw[sO,sO];omega
  ·rw[uR hk,uR hk];exact zFe l k 0 d b j hb
theorem zFe:∀(l:List Tm) (k:Int) (i:Nat) (d b j:Int),0≤b->(j∈lvL l k i (d+b)↔0≤j∧j+b∈lvL l k i d)
 | [],k,i,d,b,j,hb=>⟨fun h=>absurd h rR,fun h=>absurd h.2 rR⟩
 |t::l,k,i,d,b,j,hb=>by
  rw[xW,xW,zJz,lD t _ b j hb,zFe l k (i+1) d b j hb]
  constructor
  ·rintro (h|h)
   ·exact⟨h.1,.inl h.2⟩
   ·exact⟨h.1,.inr h.2⟩
  ·rintro ⟨h,h1|h1⟩
   ·exact .inl ⟨h,h1⟩
   ·exact .inr ⟨h,h1⟩
end
mutual
theorem zXD:∀(t:Tm) (b c k j:Int),0≤k->j∈lvT (lfT t b c k) b->∃i∈lvT t b,j=if i<c then i else i+k
 | .mk kd n l,b,c,k,j,hk,h=>by
  rw[lfT]at h
  by_cases h1:kd=1
  ·subst h1
   rw[if_pos rfl]at h
   have h2:=sO.1 h
   by_cases h3:b≤n
   ·rw[if_pos h3]at h2
    exact⟨n-b,sO.2 ⟨h3,rfl⟩,by omega⟩
   ·rw[if_neg h3]at h2;omega
  ·rw[if_neg h1]at h
   obtain⟨i,hi,e⟩:=zSO l kd 0 b c k j hk ((uR h1).1 h)
   exact⟨i,(uR h1).2 hi,e⟩
theorem zSO:∀(l:List Tm) (kd:Int) (i:Nat) (b c k j:Int),0≤k->j∈lvL (lfL l kd i b c k) kd i b->∃x∈lvL l kd i b,j=if x<c then x else x+k
 | [],kd,i,b,c,k,j,hk,h=>by rw[lfL]at h;exact absurd h rR
 |t::l,kd,i,b,c,k,j,hk,h=>by
  rw[lfL]at h
  rcases xW.1 h with h|h
  ·obtain⟨x,hx,e⟩:=zXD t _ c k j hk h
   exact⟨x,xW.2 (.inl hx),e⟩
  ·obtain⟨x,hx,e⟩:=zSO l kd (i+1) b c k j hk h
   exact⟨x,xW.2 (.inr hx),e⟩
end
mutual
theorem zJy:∀(t:Tm) (d k j:Int),0≤k->j∈lvT (lfT t d 0 k) (d+k)->j∈lvT t d
 | .mk kd n l,d,k,j,hk,h=>by
  rw[lfT]at h
  by_cases h1:kd=1
  ·subst h1
   rw[if_pos rfl]at h
   have h2:=sO.1 h
   by_cases h3:d≤n
   ·rw[if_pos h3,if_neg (by omega)]at h2
    exact sO.2 ⟨h3,by omega⟩
   ·rw[if_neg h3]at h2;omega
  ·rw[if_neg h1]at h
   exact(uR h1).2 (zSP l kd 0 d k j hk ((uR h1).1 h))
theorem zSP:∀(l:List Tm) (kd:Int) (i:Nat) (d k j:Int),0≤k->j∈lvL (lfL l kd i d 0 k) kd i (d+k)->j∈lvL l kd i d
 | [],kd,i,d,k,j,hk,h=>by rw[lfL]at h;exact absurd h rR
 |t::l,kd,i,d,k,j,hk,h=>by
  rw[lfL]at h
  rcases xW.1 h with h|h
  ·rw[zJz]at h
   exact xW.2 (.inl (zJy t _ k j hk h))
  ·exact xW.2 (.inr (zSP l kd (i+1) d k j hk h))
end
mutual
theorem zSQ(ls:List Tm):∀(t:Tm) (b j:Int),0≤b->j∈lvT (siT ls t b) b->∃i∈lvT t b,((ls.length:Int)≤i∧j=i-ls.length)∨∃h:i.toNat<ls.length,j∈lvT ls[i.toNat] 0
 | .mk kd n l,b,j,hb,h=>by
  rw[siT]at h
  by_cases h1:kd=1∧b≤n
  ·rw[if_pos h1]at h
   obtain⟨rfl,h1⟩:=h1
   refine⟨n-b,sO.2 ⟨h1,rfl⟩,?_⟩
   by_cases h2:(n-b).toNat<ls.length
   ·rw[dif_pos h2]at h
    exact .inr ⟨h2,zJy _ 0 b j hb (by rwa[Int.zero_add])⟩
   ·rw[dif_neg h2]at h
    have:=sO.1 h
    exact .inl (by omega)
  ·rw[if_neg h1]at h
   by_cases h2:kd=1
   ·subst h2
    have:=sO.1 h
    exact absurd ⟨rfl,this.1⟩ h1
   ·obtain⟨i,hi,e⟩:=zSR ls l kd 0 b j hb ((uR h2).1 h)
    exact⟨i,(uR h2).2 hi,e⟩
theorem zSR(ls:List Tm):∀(l:List Tm) (kd:Int) (i:Nat) (b j:Int),0≤b->j∈lvL (siL ls l kd i b) kd i b->∃x∈lvL l kd i b,((ls.length:Int)≤x∧j=x-ls.length)∨∃h:x.toNat<ls.length,j∈lvT ls[x.toNat] 0
 | [],kd,i,b,j,hb,h=>by rw[siL]at h;exact absurd h rR
 |t::l,kd,i,b,j,hb,h=>by
  rw[siL]at h
  rcases xW.1 h with h|h
  ·obtain⟨x,hx,e⟩:=zSQ ls t _ j (by have:=zNl kd i b;omega) h
   exact⟨x,xW.2 (.inl hx),e⟩
  ·obtain⟨x,hx,e⟩:=zSR ls l kd (i+1) b j hb h
   exact⟨x,xW.2 (.inr hx),e⟩
end
theorem zYK{k n:Int}{a b:Tm}{d j:Int}(hk:k≠1):j∈lvT (.mk k n [a,b]) d↔j∈lvT a d∨j∈lvT b (xJ k 1 d):=by
 rw[uR hk,xW,xW]
 have e:xJ k 0 d=d:=by unfold xJ;simp
 rw[e]
 exact⟨fun h=>h.elim .inl fun h=>h.elim .inr fun h=>absurd h rR,fun h=>h.elim .inl fun h=>.inr (.inl h)⟩
theorem zBh{n:Int}{a b:Tm}{d j:Int}:j∈lvT (.mk 5 n [a,b]) d↔j∈lvT a d∨j∈lvT b d:=by
 rw[zYK (by decide)]
 have e:xJ 5 1 d=d:=by unfold xJ;simp
 rw[e]
theorem zSS{n:Int}{a b:Tm}{d j:Int}:j∈lvT (.mk 3 n [a,b]) d↔j∈lvT a d∨j∈lvT b (d+1):=by
 rw[zYK (by decide)]
 have e:xJ 3 1 d=d+1:=by unfold xJ;simp
 rw[e]
theorem zST{n:Int}{a b:Tm}{d j:Int}:j∈lvT (.mk 4 n [a,b]) d↔j∈lvT a d∨j∈lvT b (d+1):=by
 rw[zYK (by decide)]
 have e:xJ 4 1 d=d+1:=by unfold xJ;simp
 rw[e]
theorem zNk{k n d j:Int}(hk:k≠1):¬j∈lvT (.mk k n []) d:=by
 rw[uR hk];exact rR
theorem yBx{k n m d j:Int}(hk:k≠1):¬j∈lvT (.mk k n [.mk 2 m []]) d:=by
 rw[uR hk,xW]
 exact fun h=>h.elim (zNk (by decide)) rR
theorem zFd:∀(l:List Tm) (f:Tm) (d j:Int),j∈lvT (apT f l) d↔j∈lvT f d∨∃a∈l,j∈lvT a d
 | [],f,d,j=>by rw[apT];simp
 |a::l,f,d,j=>by
  rw[apT,zFd l,zBh]
  simp[or_assoc]
theorem zAn:∀t:Tm,yL t=true->∀d j,(j∈lvT (hdT t) d->j∈lvT t d)∧∀a∈arT t,j∈lvT a d->j∈lvT t d:=by
 refine kL ?_ ?_
 ·intro t hg hk d j
  rw[rK hk,rL hk]
  exact⟨id,fun x hx=>by cases hx⟩
 ·intro n a b hg ha hb ih d j
  rw[nU,qU]
  refine⟨fun h=>zBh.2 (.inl ((ih d j).1 h)),fun x hx h=>?_⟩
  rcases List.mem_append.1 hx with hx|hx
  ·exact zBh.2 (.inl ((ih d j).2 x hx h))
  ·rw[List.mem_singleton.1 hx]at h
   exact zBh.2 (.inr h)
theorem zGN:∀(n:Nat) (t:Tm) (r:List Tm×Tm),yL t=true->pG n t=some r->∀d j,(j∈lvT r.2 (d+n)->j∈lvT t d)∧∀(i:Nat) (h:i<r.1.length),j∈lvT r.1[i] (d+i)->j∈lvT t d
 |0,t,r,hg,h,d,j=>by
  rw[pG]at h;cases h
  exact⟨fun h=>by simpa using h,fun i h=>by simp at h⟩
 |n+1,t,r,hg,h,d,j=>by
  by_cases h3:t.k=3
  ·obtain⟨a,b,hx,hga,hgb⟩:=pP hg h3
   rw[hx]at h ⊢
   rw[fH]at h
   obtain⟨r',h1,rfl⟩:=Option.map_eq_some_iff.1 h
   have ih:=zGN n b r' hgb h1 (d+1) j
   refine⟨fun h=>zSS.2 (.inr (ih.1 ?_)),fun i h hj=>?_⟩
   ·rwa[show d+1+(n:Int)=d+((n+1:Nat):Int) by omega]
   ·cases i with
    |zero=>exact zSS.2 (.inl (by simpa using hj))
    |succ i=>
     refine zSS.2 (.inr (ih.2 i (by simpa using h) ?_))
     rw[show d+1+(i:Int)=d+((i+1:Nat):Int) by omega]
     simpa using hj
  ·rw[iX h3]at h;cases h
theorem zSU{k:Int}{i:Nat}{b:Int}(h:k=3∨k=4∨k=5∨i=0):xJ k i b=b+cJ k i:=by
 unfold xJ cJ
 rcases h with h|h|h|h
 ·subst h;by_cases hi:i=1<;>simp[hi]
 ·subst h;by_cases hi:i=1<;>simp[hi]
 ·subst h;simp
 ·subst h;simp
mutual
theorem zLF:∀(t:Tm) (b j:Int),yL t=true->j∈lvT t b->j<mG t b
 | .mk k n l,b,j,hg,h=>by
  rw[mG]
  by_cases hk:k=1
  ·subst hk;rw[if_pos rfl];have:=sO.1 h;omega
  ·rw[if_neg hk]
   have hh:=xH hg
   have hs:=xI hh.1
   refine zNj l k 0 b j hh.2 ?_ ((uR hk).1 h)
   have e1:k=3∨k=4∨k=5∨l.length≤1:=by
    by_cases h7:k=7
    ·obtain⟨x,hx,-⟩:=hs.2.2.2.2.2.2.1 h7
     have hx':l=[x]:=hx
     rw[hx'];simp
    ·by_cases h1:k=1∨k=2∨k=6∨k=8
     ·have hx:=hs.2.2.2.2.2.2.2.1 h1
      have hx':l=[]:=hx
      rw[hx'];simp
     ·have a1:1≤k:=hs.1
      have a2:k≤8:=hs.2.1
      omega
   omega
theorem zNj:∀(l:List Tm) (k:Int) (i:Nat) (b j:Int),xV l=true->(k=3∨k=4∨k=5∨i+l.length≤1)->j∈lvL l k i b->j<iE l k i b
 | [],k,i,b,j,hg,hl,h=>absurd h rR
 |t::l,k,i,b,j,hg,hl,h=>by
  rw[iE]
  have hc:=xD hg
  rw[List.length_cons]at hl
  rcases xW.1 h with h|h
  ·rw[zSU (by omega)]at h
   have:=zLF t _ j hc.1 h
   omega
  ·have:=zNj l k (i+1) b j hc.2 (by omega) h
   omega
end
theorem zFc{t:Tm}{n:Int}(h:uM t n=true)(d j:Int)(hd:0≤d):¬j∈lvT t d:=by
 intro hj
 have hs:=zO (sS h)
 have h0:j+d∈lvT t 0:=((lD t 0 d j hd).1 (by rwa[Int.zero_add])).2
 have h1:=zLF t 0 _ hs.2.2 h0
 have h2:=zDA t d j hj
 unfold uM tV at h
 simp only[Bool.and_eq_true,decide_eq_true_eq]at h
 omega
theorem zAm{t:Tm}{n:Int}(h:uM t n=true):yU (fun k x=>(k=6∨k=7->x<n)∧k≠8) t:=by
 have h6:yU (fun k x=>k=6∨k=7->x<n) t:=by
  refine(gA (by decide) (by decide) t).1 ?_
  unfold uM tV at h
  simp only[Bool.and_eq_true,List.all_eq_true,decide_eq_true_eq]at h
  exact h.1.2
 have h8:yU (fun k x=>k=8∨k=8->False) t:=by
  refine(gA (Q:=fun _=>False) (by decide) (by decide) t).1 ?_
  unfold uM at h
  simp only[Bool.and_eq_true,List.isEmpty_iff]at h
  rw[h.2]
  exact fun x hx=>by cases hx
 exact zBi (fun k n a b=>⟨a,fun h=>b (.inl h)⟩) t h6 h8
def jB:Nat->List Tm->Int->Int->Int->List Tm->Option (List Tm×Int)
 |0,_,_,_,_,_=>none
 |qq+1,p0,p1,p2,v15,v8=>
 if decide (v15<(p0.length:Int))then
 zR p0 v15>>=fun x2=>
 zOY qq x2 p1 p2>>=fun r4=>
 if r4.2 != 0 then
 some ([],r4.2)
 else
 yP 40 v8 [r4.1]>>=fun l7=>
 jB qq p0 p1 p2 (w64 (v15+1)) l7
 else
 some (v8,0)
def zSV(qq:Nat)(p0:List Tm)(p1 p2:Int):Option (List Tm×Int):=
 jB qq p0 p1 p2 0 []
theorem zWx:∀qq:Nat,(∀p0 p1 p2 v15 v8 r,jB qq p0 p1 p2 v15 v8=some r->(∀j,dL 0 (inn (inn (rgt (lft (rgt (rgt (bod Tryz.f198))))))) (sp j 35 0 [(1,ai p1),(2,ai p2),(8,slv zF v8 (.st 0 3)),(13,slv zF p0 .no),(14,ai (p0.length:Int)),(15,ai v15)]) (⟨[],0,[0],1,[]⟩) (fQ 0 (nQ 0 Tryz.f198 (.tup [.sl (zJ zF r.1) r.1.length .no,ai r.2]) [] 0) [.blk 0,.seq (rgt (rgt (rgt (bod Tryz.f198))))]))):=by
 intro qq
 induction qq with
 |zero=>
  exact fun _ _ _ _ _ _ h=>nn h
 |succ qq ih=>
  intro p0 p1 p2 v15 v8 r h
  rw[jB]at h
  obtain⟨h1,h⟩|⟨h1,h⟩:=spl h
  obtain⟨x2,h3,h⟩:=zC h
  obtain⟨r4,h5,h⟩:=zC h
  have k:=oC 3 [] (yAK h5)<|oA 0 (yN (o:=.no) h3)<|oB 0 h1 o0
  obtain⟨h6,h⟩|⟨h6,h⟩:=spl h
  cases h
  exact fun j=>lF 0 [] (oD (dT ([]:List Tm))<|oB 3 h6 k)
  obtain⟨l7,h8,h⟩:=zC h
  exact fun j=>lH 1 [] [] [1] [1,2,8,13,14,15] (oD (dT p0)<|oD (dT l7)<|oP 0 (wB h8 (by simp))<|oS 1 (yT xC [r4.1])<|oB 3 h6 k) (ih _ _ _ _ _ _ h)
  cases h
  exact fun j=>lF 0 [] (oD (dT v8)<|oB 0 h1 o0)
theorem yCK{qq p0 p1 p2 r}(h:zSV qq p0 p1 p2=some r):Ct 198 [] [slv zF p0 .no,ai p1,ai p2] (.tup [.sl (zJ zF r.1) r.1.length .no,ai r.2]) [] 0:=⟨by
 unfold zSV at h
 exact tH ⟨Tryz.func198,rfl⟩ 1 [(none,8,3)] [] [0] [1,2,8,13,14,15] (oD (dT p0)<|oD (dT ([]:List Tm)) o0) (zWx _ _ _ _ _ _ _ h),⟨⟨tv,dT _⟩,tv,tv,tv⟩,zB,⟨dT _,tv,tv⟩,zB⟩
def jC:Nat->List Tm->Int->Option (List Tm)
 |0,_,_=>none
 |qq+1,v3,v4=>
 if decide (v4≥0)then
 zGB qq v4>>=fun r4=>
 yP 40 v3 [r4]>>=fun l6=>
 jC qq l6 (w64 (v4-1))
 else
 some v3
def zSW(qq:Nat)(p0:Int):Option (List Tm):=
 if decide (p0<0)then
 some []
 else
 if decide (p0>1048576)then
 some []
 else
 jC qq [] (w64 (p0-1))
theorem zYL:Qf 200 Tryz.f200:=⟨Tryz.func200,rfl⟩
theorem zWw:∀qq:Nat,(∀v3 v4 r,jC qq v3 v4=some r->(∀j,dL 0 (inn (inn (rgt (lft (rgt (rgt (rgt (bod Tryz.f200)))))))) (sp j 23 0 [(3,slv zF v3 (.st 0 3)),(4,ai v4)]) (⟨[],0,[0],1,[]⟩) (fQ 0 (nQ 0 Tryz.f200 (.sl (zJ zF r) r.length .no) [] 0) [.blk 0,.seq (rgt (rgt (rgt (rgt (bod Tryz.f200)))))]))):=by
 intro qq
 induction qq with
 |zero=>
  exact fun _ _ _ h=>nn h
 |succ qq ih=>
  intro v3 v4 r h
  rw[jC]at h
  obtain⟨h3,h⟩|⟨h3,h⟩:=spl h
  obtain⟨r4,h5,h⟩:=zC h
  obtain⟨l6,h7,h⟩:=zC h
  exact fun j=>lH 1 [] [] [1] [3,4] (oD (dT l6)<|oP 0 (wB h7 (by simp))<|oS 0 (yT xC [r4])<|oC 0 [] (zOX h5)<|oB 0 h3 o0) (ih _ _ _ h)
  obtain rfl:=sj h
  exact fun j=>lF 0 [] (oD (dT v3)<|oB 0 h3 o0)
theorem yCL{qq p0 r}(h:zSW qq p0=some r):Ct 200 [] [ai p0] (.sl (zJ zF r) r.length .no) [] 0:=⟨by
 unfold zSW at h
 obtain⟨h1,h⟩|⟨h1,h⟩:=spl h
 obtain rfl:=sj h
 exact tF zYL 0 [] (oD (dT ([]:List Tm))<|oB 0 h1 o0)
 have k:=oB 0 h1 o0
 obtain⟨h2,h⟩|⟨h2,h⟩:=spl h
 obtain rfl:=sj h
 exact tF zYL 0 [] (oD (dT ([]:List Tm))<|oB 0 h2 k)
 exact tH zYL 1 [(none,3,3)] [] [0] [3,4] (oD (dT ([]:List Tm))<|oB 0 h2 k) (zWw _ _ _ _ h),⟨tv,tv⟩,zB,dT _,zB⟩
def zLG(qq:Nat)(p0:List Ent)(p1 p2:Int):Option Bool:=
 if decide (p1≥0)then
 if decide (p1<(p0.length:Int))then
 zR p0 p1>>=fun x3=>
 some (x3.kind==p2)
 else
 some false
 else
 some false
theorem zYM:Qf 242 Tryz.f242:=⟨Tryz.func242,rfl⟩
theorem zPB{qq p0 p1 p2 r}(h:zLG qq p0 p1 p2=some r):Ct 242 [] [slv yQ p0 .no,ai p1,ai p2] (ab r) [] 0:=⟨by
 unfold zLG at h
 obtain⟨h1,h⟩|⟨h1,h⟩:=spl h
 have k:=oB 0 h1 o0
 obtain⟨h2,h⟩|⟨h2,h⟩:=spl h
 obtain⟨x3,h4,h⟩:=zC h
 cases h
 exact tF zYM 2 [] (oA 0 (xM (o:=.no) h4)<|oB 1 h2 k)
 cases h
 exact tF zYM 0 [] (oB 1 h2 k)
 cases h
 exact tF zYM 0 [] (oB 0 h1 o0),⟨⟨tv,dE _⟩,tv,tv,tv⟩,zB,tv,zB⟩
def jD:Nat->List Tm->Int->Option Bool
 |0,_,_=>none
 |qq+1,p0,v7=>
 if decide (v7<(p0.length:Int))then
 zR p0 v7>>=fun x2=>
 e52 qq x2>>=fun r4=>
 if r4 then
 jD qq p0 (w64 (v7+1))
 else
 some false
 else
 some true
def zLH(qq:Nat)(p0:List Tm):Option Bool:=
 jD qq p0 0
theorem zWv:∀qq:Nat,(∀p0 v7 r,jD qq p0 v7=some r->(∀j,dL 0 (inn (inn (rgt (lft (rgt (bod Tryz.f243)))))) (sp j 15 0 [(5,slv zF p0 .no),(6,ai (p0.length:Int)),(7,ai v7)]) (⟨[],0,[],0,[]⟩) (fQ 0 (nQ 0 Tryz.f243 (ab r) [] 0) [.blk 0,.seq (rgt (rgt (bod Tryz.f243)))]))):=by
 intro qq
 induction qq with
 |zero=>
  exact fun _ _ _ h=>nn h
 |succ qq ih=>
  intro p0 v7 r h
  rw[jD]at h
  obtain⟨h1,h⟩|⟨h1,h⟩:=spl h
  obtain⟨x2,h3,h⟩:=zC h
  obtain⟨r4,h5,h⟩:=zC h
  have k:=oA 0 (yN (o:=.no) h3)<|oB 0 h1 o0
  obtain⟨h6,h⟩|⟨h6,h⟩:=spl h
  exact fun j=>lH 2 [] [] [] [5,6,7] (oD (dT p0)<|oK 3 [] h6 (c52 h5) k) (ih _ _ _ h)
  cases h
  exact fun j=>lF 1 [] (oK 3 [] h6 (c52 h5) k)
  cases h
  exact fun j=>lF 0 [] (oB 0 h1 o0)
theorem zPC{qq p0 r}(h:zLH qq p0=some r):Ct 243 [] [slv zF p0 .no] (ab r) [] 0:=⟨by
 unfold zLH at h
 exact tH ⟨Tryz.func243,rfl⟩ 1 [] [] [] [5,6,7] (oD (dT p0) o0) (zWv _ _ _ _ h),⟨⟨tv,dT _⟩,tv⟩,zB,tv,zB⟩
def zSX(qq:Nat)(q0_e:Int)(p1:List Tm)(p2:Int):Option (List Tm×Int):=
 if q0_e==0 then
 some (p1,p2)
 else
 some (p1,q0_e)
theorem yBw:Qf 260 Tryz.f260:=⟨Tryz.func260,rfl⟩
theorem yCM{qq q0_e p1 p2 r}(h:zSX qq q0_e p1 p2=some r):Ct 260 [.cells [ai q0_e]] [.mp 0 0,slv zF p1 .no,ai p2] (.sl (zJ zF r.1) r.1.length .no) [.cells [ai r.2]] 0:=⟨by
 unfold zSX at h
 obtain⟨h1,h⟩|⟨h1,h⟩:=spl h
 cases h
 exact tF yBw 1 [0] (oD (dT p1)<|oB 1 h1 o0)
 cases h
 exact tF yBw 0 [0] (oD (dT p1)<|oB 1 h1 o0),⟨(lz rfl),⟨tv,dT _⟩,tv,tv⟩,(zA ⟨tv,tv⟩ zB),dT _,(zA ⟨tv,tv⟩ zB)⟩
def zPD(qq:Nat)(q0_e:Int)(p1:List Tm)(p2:Int):Option (List Tm×Int):=
 zSV qq p1 p2 0>>=fun r1=>
 zSX qq q0_e r1.1 r1.2>>=fun r3=>
 some (r3.1,r3.2)
theorem yBv{qq q0_e p1 p2 r}(h:zPD qq q0_e p1 p2=some r):Ct 253 [.cells [ai q0_e]] [.mp 0 0,slv zF p1 .no,ai p2] (.sl (zJ zF r.1) r.1.length .no) [.cells [ai r.2]] 0:=⟨by
 unfold zPD at h
 obtain⟨r1,h2,h⟩:=zC h
 obtain⟨r3,h4,h⟩:=zC h
 cases h
 exact tF ⟨Tryz.func253,rfl⟩ 0 [0] (oD (dT r3.1)<|oC 2 [0] (yCM h4)<|oC 0 [] (yCK h2) o0),⟨(lz rfl),⟨tv,dT _⟩,tv,tv⟩,(zA ⟨tv,tv⟩ zB),dT _,(zA ⟨tv,tv⟩ zB)⟩
def zLI(qq:Nat)(q0_e:Int)(p1:Tm)(p2:Int):Option (Tm×Int):=
 if q0_e==0 then
 some (p1,p2)
 else
 some (p1,q0_e)
theorem yBu:Qf 256 Tryz.f256:=⟨Tryz.func256,rfl⟩
theorem zYN{qq q0_e p1 p2 r}(h:zLI qq q0_e p1 p2=some r):Ct 256 [.cells [ai q0_e]] [.mp 0 0,tmA p1,ai p2] (tmA r.1) [.cells [ai r.2]] 0:=⟨by
 unfold zLI at h
 obtain⟨h1,h⟩|⟨h1,h⟩:=spl h
 cases h
 exact tF yBu 3 [0] (oD (dT p1.sub)<|oB 1 h1 o0)
 cases h
 exact tF yBu 2 [0] (oD (dT p1.sub)<|oB 1 h1 o0),⟨(lz rfl),⟨tv,tv,⟨tv,dT _⟩,tv⟩,tv,tv⟩,(zA ⟨tv,tv⟩ zB),⟨tv,tv,dT _,tv⟩,(zA ⟨tv,tv⟩ zB)⟩
def jE:Nat->Tm->(List Tm×Int)->Int->List Tm->Option (Tm×Int)
 |0,_,_,_,_=>none
 |qq+1,p1,r6,v12,v9=>
 if decide (v12≥0)then
 zR r6.1 v12>>=fun x9=>
 yP 40 v9 [x9]>>=fun l11=>
 jE qq p1 r6 (w64 (v12-1)) l11
 else
 zOZ qq p1 v9>>=fun r13=>
 zLI qq r6.2 r13.1 r13.2>>=fun r15=>
 some (r15.1,r15.2)
def jF:Nat->Int->Tm->Int->List Tm->Int->List Tm->Option (Tm×Int)
 |0,_,_,_,_,_,_=>none
 |qq+1,q0_e,p1,p2,p3,v14,v9=>
 if decide (v14<p2)then
 zGB qq v14>>=fun r2=>
 yP 40 v9 [r2]>>=fun l4=>
 jF qq q0_e p1 p2 p3 (w64 (v14+1)) l4
 else
 zPD qq q0_e p3 p2>>=fun r6=>
 jE qq p1 r6 (w64 ((r6.1.length:Int)-1)) v9
def zPE(qq:Nat)(q0_e:Int)(p1:Tm)(p2:Int)(p3:List Tm):Option (Tm×Int):=
 jF qq q0_e p1 p2 p3 0 []
theorem zWu:∀qq:Nat,(∀p1 r6 v12 v9 r,jE qq p1 r6 v12 v9=some r->(∀j,dL 1 (inn (inn (rgt (lft (rgt (rgt (rgt (rgt (bod Tryz.f254))))))))) (sp j 48 0 [(0,.mp 0 0),(5,.mp 1 0),(8,.mp 2 0),(9,slv zF v9 (.st 0 3)),(11,slv zF r6.1 .no),(12,ai v12)]) (⟨[(0,.cells [ai r6.2]),(1,.cells [ai p1.k,ai p1.n,slv zF p1.sub .no]),(2,.cells [ai 0,ai 0,slv zF ([]:List Tm) .nl])],3,[0],1,[]⟩) (fQ 1 (nQ 1 Tryz.f254 (tmA r.1) [.cells [ai r.2]] 0) [.blk 2,.seq (rgt (rgt (rgt (rgt (rgt (bod Tryz.f254))))))]))):=by
 intro qq
 induction qq with
 |zero=>
  exact fun _ _ _ _ _ h=>nn h
 |succ qq ih=>
  intro p1 r6 v12 v9 r h
  rw[jE]at h
  obtain⟨h8,h⟩|⟨h8,h⟩:=spl h
  obtain⟨x9,h10,h⟩:=zC h
  obtain⟨l11,h12,h⟩:=zC h
  exact fun j=>lH 1 [] [0,1,2] [1] [0,5,8,9,11,12] (oD (dT r6.1)<|oD (dT l11)<|oD (dT ([]:List Tm))<|oD (dT p1.sub)<|oP 0 (wB h12 (by simp))<|oS 1 (yT xC [x9])<|oA 0 (yN (o:=.no) h10)<|oB 0 h8 o0) (ih _ _ _ _ _ h)
  obtain⟨r13,h14,h⟩:=zC h
  obtain⟨r15,h16,h⟩:=zC h
  cases h
  exact fun j=>lF 1 [0] (oD (dT r15.1.sub)<|oC 2 [0] (zYN h16)<|oC 1 [] (yAM h14)<|oB 0 h8 o0)
theorem zWt:∀qq:Nat,(∀q0_e p1 p2 p3 v14 v9 r,jF qq q0_e p1 p2 p3 v14 v9=some r->(∀j,dL 1 (inn (inn (rgt (lft (rgt (rgt (bod Tryz.f254))))))) (sp j 48 0 [(0,.mp 0 0),(2,ai p2),(3,slv zF p3 .no),(5,.mp 1 0),(8,.mp 2 0),(9,slv zF v9 (.st 0 3)),(13,ai p2),(14,ai v14)]) (⟨[(0,.cells [ai q0_e]),(1,.cells [ai p1.k,ai p1.n,slv zF p1.sub .no]),(2,.cells [ai 0,ai 0,slv zF ([]:List Tm) .nl])],3,[0],1,[]⟩) (fQ 1 (nQ 1 Tryz.f254 (tmA r.1) [.cells [ai r.2]] 0) [.blk 0,.seq (rgt (rgt (rgt (bod Tryz.f254))))]))):=by
 intro qq
 induction qq with
 |zero=>
  exact fun _ _ _ _ _ _ _ h=>nn h
 |succ qq ih=>
  intro q0_e p1 p2 p3 v14 v9 r h
  rw[jF]at h
  obtain⟨h1,h⟩|⟨h1,h⟩:=spl h
  obtain⟨r2,h3,h⟩:=zC h
  obtain⟨l4,h5,h⟩:=zC h
  exact fun j=>lH 1 [] [0,1,2] [1] [0,2,3,5,8,9,13,14] (oD (dT l4)<|oD (dT p3)<|oD (dT ([]:List Tm))<|oD (dT p1.sub)<|oP 0 (wB h5 (by simp))<|oS 0 (yT xC [r2])<|oC 0 [] (zOX h3)<|oB 0 h1 o0) (ih _ _ _ _ _ _ _ h)
  obtain⟨r6,h7,h⟩:=zC h
  exact fun j=>lH 2 [] [0,1,2] [0] [0,5,8,9,11,12] (oD (dT r6.1)<|oD (dT v9)<|oD (dT ([]:List Tm))<|oD (dT p1.sub)<|oC 0 [0] (yBv h7)<|oB 0 h1 o0) (zWu _ _ _ _ _ _ h)
theorem yBt{qq q0_e p1 p2 p3 r}(h:zPE qq q0_e p1 p2 p3=some r):Ct 254 [.cells [ai q0_e]] [.mp 0 0,tmA p1,ai p2,slv zF p3 .no] (tmA r.1) [.cells [ai r.2]] 0:=⟨by
 unfold zPE at h
 exact tH ⟨Tryz.func254,rfl⟩ 0 [(none,9,3)] [0,1,2] [0] [0,2,3,5,8,9,13,14] (oD (dT ([]:List Tm))<|oD (dT p3)<|oD (dT ([]:List Tm))<|oD (dT p1.sub) o0) (zWt _ _ _ _ _ _ _ _ h),⟨(lz rfl),⟨tv,tv,⟨tv,dT _⟩,tv⟩,tv,⟨tv,dT _⟩,tv⟩,(zA ⟨tv,tv⟩ zB),⟨tv,tv,dT _,tv⟩,(zA ⟨tv,tv⟩ zB)⟩
def zSY(qq:Nat)(q0_e:Int)(p1:Tm)(p2:Int):Option (Tm×Int):=
 zIJ qq p1 p2>>=fun r1=>
 zLI qq q0_e r1.1 r1.2>>=fun r3=>
 some (r3.1,r3.2)
theorem yCN{qq q0_e p1 p2 r}(h:zSY qq q0_e p1 p2=some r):Ct 255 [.cells [ai q0_e]] [.mp 0 0,tmA p1,ai p2] (tmA r.1) [.cells [ai r.2]] 0:=⟨by
 unfold zSY at h
 obtain⟨r1,h2,h⟩:=zC h
 obtain⟨r3,h4,h⟩:=zC h
 cases h
 exact tF ⟨Tryz.func255,rfl⟩ 1 [0] (oD (dT r3.1.sub)<|oC 2 [0] (zYN h4)<|oC 1 [] (zVj h2) o0),⟨(lz rfl),⟨tv,tv,⟨tv,dT _⟩,tv⟩,tv,tv⟩,(zA ⟨tv,tv⟩ zB),⟨tv,tv,dT _,tv⟩,(zA ⟨tv,tv⟩ zB)⟩
def zYO(qq:Nat)(p0 p1:Tm):Option Tm:=
 zIH qq 4 0 [p0,p1]>>=fun r1=>
 some r1
theorem yCO{qq p0 p1 r}(h:zYO qq p0 p1=some r):Ct 262 [] [tmA p0,tmA p1] (tmA r) [] 0:=⟨by
 unfold zYO at h
 obtain⟨r1,h2,h⟩:=zC h
 obtain rfl:=sj h
 exact tF ⟨Tryz.func262,rfl⟩ 1 [] (oD (dT r1.sub)<|oC 0 [] (zOU h2)<|oS 2 (yT xC [p0,p1]) o0),⟨⟨tv,tv,⟨tv,dT _⟩,tv⟩,⟨tv,tv,⟨tv,dT _⟩,tv⟩,tv⟩,zB,⟨tv,tv,dT _,tv⟩,zB⟩
def tX:Nat->List Tm->Int->Int->Int->List Tm->Option (Tm×Int)
 |0,_,_,_,_,_=>none
 |qq+1,p0,v32,zX,xK,xB=>
 if decide (v32<(p0.length:Int))then
 zR p0 (w64 ((w64 ((p0.length:Int)-1))-v32))>>=fun x12=>
 zYO qq x12 (Tm.mk zX xK xB)>>=fun r14=>
 tX qq p0 (w64 (v32+1)) r14.k r14.n r14.sub
 else
 e52 qq (Tm.mk zX xK xB)>>=fun r16=>
 if r16 then
 e53 qq (Tm.mk zX xK xB)>>=fun r19=>
 some (r19,0)
 else
 some ((Tm.mk 0 0 []),2)
def tY:Nat->List Tm->Tm->Int->Option (Tm×Int)
 |0,_,_,_=>none
 |qq+1,p0,p1,v17=>
 if decide (v17<(p0.length:Int))then
 zR p0 v17>>=fun x3=>
 e52 qq x3>>=fun r5=>
 if r5 then
 tY qq p0 p1 (w64 (v17+1))
 else
 some ((Tm.mk 0 0 []),5)
 else
 e52 qq p1>>=fun r8=>
 if r8 then
 tX qq p0 0 p1.k p1.n p1.sub
 else
 some ((Tm.mk 0 0 []),5)
def zAl(qq:Nat)(p0:List Tm)(p1:Tm):Option (Tm×Int):=
 if decide ((p0.length:Int)>24)then
 some ((Tm.mk 0 0 []),2)
 else
 tY qq p0 p1 0
theorem zJx:Qf 261 Tryz.f261:=⟨Tryz.func261,rfl⟩
theorem zJw:∀qq:Nat,(∀p0 v32 zX xK xB r,tX qq p0 v32 zX xK xB=some r->(∀j,dL 0 (inn (inn (rgt (lft (rgt (rgt (rgt (rgt (bod Tryz.f261))))))))) (sp j 53 0 [(0,slv zF p0 .no),(2,.clo 262 [] []),(4,.mp 0 0),(6,.mp 1 0),(31,ai (p0.length:Int)),(32,ai v32)]) (⟨[(0,.cells [ai zX,ai xK,slv zF xB .no]),(1,.cells [ai 0,ai 0,slv zF ([]:List Tm) .nl])],2,[],0,[]⟩) (fQ 0 (nQ 0 Tryz.f261 (.tup [tmA r.1,ai r.2]) [] 0) [.blk 2,.seq (rgt (rgt (rgt (rgt (rgt (bod Tryz.f261))))))]))):=by
 intro qq
 induction qq with
 |zero=>
  exact fun _ _ _ _ _ _ h=>nn h
 |succ qq ih=>
  intro p0 v32 zX xK xB r h
  rw[tX]at h
  obtain⟨h11,h⟩|⟨h11,h⟩:=spl h
  obtain⟨x12,h13,h⟩:=zC h
  obtain⟨r14,h15,h⟩:=zC h
  exact fun j=>lH 2 [] [0,1] [] [0,2,4,6,31,32] (oD (dT p0)<|oD (dT ([]:List Tm))<|oD (dT r14.sub)<|oC 2 [] (yCO h15)<|oA 3 (yN (o:=.no) h13)<|oB 0 h11 o0) (ih _ _ _ _ _ _ h)
  obtain⟨r16,h17,h⟩:=zC h
  have k:=oB 0 h11 o0
  obtain⟨h18,h⟩|⟨h18,h⟩:=spl h
  obtain⟨r19,h20,h⟩:=zC h
  cases h
  exact fun j=>lF 1 [] (oD (dT r19.sub)<|oC 2 [] (c53 h20)<|oK 1 [] h18 (c52 h17) k)
  cases h
  exact fun j=>lF 2 [] (oD (dT ([]:List Tm))<|oK 1 [] h18 (c52 h17) k)
theorem zJv:∀qq:Nat,(∀p0 p1 v17 r,tY qq p0 p1 v17=some r->(∀j,dL 0 (inn (inn (rgt (lft (rgt (rgt (bod Tryz.f261))))))) (sp j 53 0 [(0,slv zF p0 .no),(2,.clo 262 [] []),(4,.mp 0 0),(6,.mp 1 0),(15,slv zF p0 .no),(16,ai (p0.length:Int)),(17,ai v17)]) (⟨[(0,.cells [ai p1.k,ai p1.n,slv zF p1.sub .no]),(1,.cells [ai 0,ai 0,slv zF ([]:List Tm) .nl])],2,[],0,[]⟩) (fQ 0 (nQ 0 Tryz.f261 (.tup [tmA r.1,ai r.2]) [] 0) [.blk 0,.seq (rgt (rgt (rgt (bod Tryz.f261))))]))):=by
 intro qq
 induction qq with
 |zero=>
  exact fun _ _ _ _ h=>nn h
 |succ qq ih=>
  intro p0 p1 v17 r h
  rw[tY]at h
  have z {os ob} (k:Oz os ob):=oD (dT p0)<|oD (dT ([]:List Tm))<|oD (dT p1.sub)<|k
  obtain⟨h2,h⟩|⟨h2,h⟩:=spl h
  obtain⟨x3,h4,h⟩:=zC h
  obtain⟨r5,h6,h⟩:=zC h
  have k:=oA 0 (yN (o:=.no) h4)<|oB 0 h2 o0
  obtain⟨h7,h⟩|⟨h7,h⟩:=spl h
  exact fun j=>lH 2 [] [0,1] [] [0,2,4,6,15,16,17] (oD (dT p0)<|z<|oK 3 [] h7 (c52 h6) k) (ih _ _ _ _ h)
  cases h
  exact fun j=>lF 2 [] (oD (dT ([]:List Tm))<|oK 3 [] h7 (c52 h6) k)
  obtain⟨r8,h9,h⟩:=zC h
  have k:=oB 0 h2 o0
  obtain⟨h10,h⟩|⟨h10,h⟩:=spl h
  exact fun j=>lH 2 [] [0,1] [] [0,2,4,6,31,32] (z<|oK 1 [] h10 (c52 h9) k) (zJw _ _ _ _ _ _ _ h)
  cases h
  exact fun j=>lF 2 [] (oD (dT ([]:List Tm))<|oK 1 [] h10 (c52 h9) k)
theorem zSZ{qq p0 p1 r}(h:zAl qq p0 p1=some r):Ct 261 [] [slv zF p0 .no,tmA p1,.clo 262 [] []] (.tup [tmA r.1,ai r.2]) [] 0:=⟨by
 unfold zAl at h
 obtain⟨h1,h⟩|⟨h1,h⟩:=spl h
 cases h
 exact tF zJx 1 [] (oD (dT ([]:List Tm))<|oB 1 h1 o0)
 exact tH zJx 1 [] [0,1] [] [0,2,4,6,15,16,17] (oD (dT p0)<|oD (dT p0)<|oD (dT ([]:List Tm))<|oD (dT p1.sub)<|oB 1 h1 o0) (zJv _ _ _ _ _ h),⟨⟨tv,dT _⟩,⟨tv,tv,⟨tv,dT _⟩,tv⟩,⟨tv,tv⟩,tv⟩,zB,⟨⟨tv,tv,dT _,tv⟩,tv,tv⟩,zB⟩
def zTz(qq:Nat)(p0:List Tm)(p1:Tm):Option (Tm×Int):=
 zAl qq p0 p1>>=fun r1=>
 some (r1.1,r1.2)
theorem yCP{qq p0 p1 r}(h:zTz qq p0 p1=some r):Ct 257 [] [slv zF p0 .no,tmA p1] (.tup [tmA r.1,ai r.2]) [] 0:=⟨by
 unfold zTz at h
 obtain⟨r1,h2,h⟩:=zC h
 cases h
 exact tF ⟨Tryz.func257,rfl⟩ 3 [] (oD (dT r1.1.sub)<|oC 1 [] (zSZ h2) o0),⟨⟨tv,dT _⟩,⟨tv,tv,⟨tv,dT _⟩,tv⟩,tv⟩,zB,⟨⟨tv,tv,dT _,tv⟩,tv,tv⟩,zB⟩
def jG:Nat->List Tm->List Tm->Int->List Tm->Int->Option (List Tm×Int)
 |0,_,_,_,_,_=>none
 |qq+1,p1,p2,v12,v7,zX=>
 if decide (v12<(p1.length:Int))then
 zR p1 v12>>=fun x2=>
 zPE qq zX x2 v12 p2>>=fun r4=>
 yP 40 v7 [r4.1]>>=fun l6=>
 jG qq p1 p2 (w64 (v12+1)) l6 r4.2
 else
 some (v7,zX)
def zTy(qq:Nat)(q0_e:Int)(p1 p2:List Tm):Option (List Tm×Int):=
 jG qq p1 p2 0 [] q0_e
theorem zWs:∀qq:Nat,(∀p1 p2 v12 v7 zX r,jG qq p1 p2 v12 v7 zX=some r->(∀j,dL 1 (inn (inn (rgt (lft (rgt (rgt (bod Tryz.f258))))))) (sp j 27 0 [(0,.mp 0 0),(2,slv zF p2 .no),(7,slv zF v7 (.st 0 3)),(10,slv zF p1 .no),(11,ai (p1.length:Int)),(12,ai v12)]) (⟨[(0,.cells [ai zX])],1,[0],1,[]⟩) (fQ 1 (nQ 1 Tryz.f258 (.sl (zJ zF r.1) r.1.length .no) [.cells [ai r.2]] 0) [.blk 0,.seq (rgt (rgt (rgt (bod Tryz.f258))))]))):=by
 intro qq
 induction qq with
 |zero=>
  exact fun _ _ _ _ _ _ h=>nn h
 |succ qq ih=>
  intro p1 p2 v12 v7 zX r h
  rw[jG]at h
  obtain⟨h1,h⟩|⟨h1,h⟩:=spl h
  obtain⟨x2,h3,h⟩:=zC h
  obtain⟨r4,h5,h⟩:=zC h
  obtain⟨l6,h7,h⟩:=zC h
  exact fun j=>lH 1 [] [0] [1] [0,2,7,10,11,12] (oD (dT p1)<|oD (dT l6)<|oD (dT p2)<|oP 0 (wB h7 (by simp))<|oS 0 (yT xC [r4.1])<|oC 3 [0] (yBt h5)<|oA 0 (yN (o:=.no) h3)<|oB 0 h1 o0) (ih _ _ _ _ _ _ h)
  cases h
  exact fun j=>lF 0 [0] (oD (dT v7)<|oB 0 h1 o0)
theorem yCQ{qq q0_e p1 p2 r}(h:zTy qq q0_e p1 p2=some r):Ct 258 [.cells [ai q0_e]] [.mp 0 0,slv zF p1 .no,slv zF p2 .no] (.sl (zJ zF r.1) r.1.length .no) [.cells [ai r.2]] 0:=⟨by
 unfold zTy at h
 exact tH ⟨Tryz.func258,rfl⟩ 1 [(none,7,3)] [0] [0] [0,2,7,10,11,12] (oD (dT p1)<|oD (dT ([]:List Tm))<|oD (dT p2) o0) (zWs _ _ _ _ _ _ _ h),⟨(lz rfl),⟨tv,dT _⟩,⟨tv,dT _⟩,tv⟩,(zA ⟨tv,tv⟩ zB),dT _,(zA ⟨tv,tv⟩ zB)⟩
def jH:Nat->List Tm->tN->Tm->Int->Int->Int->Int->List Tm->Option (Tm×Int)
 |0,_,_,_,_,_,_,_,_=>none
 |qq+1,p3,p4,p5,v29,zX,wU,zFb,xO=>
 if decide (v29<(p4.at'.length:Int))then
 zR p4.at' v29>>=fun x6=>
 zPE qq zX x6 (p4.around.length:Int) p3>>=fun r8=>
 zDr qq (Tm.mk wU zFb xO) r8.1>>=fun r10=>
 jH qq p3 p4 p5 (w64 (v29+1)) r8.2 r10.k r10.n r10.sub
 else
 zSY qq zX p5 (p4.around.length:Int)>>=fun r12=>
 zSW qq (p4.around.length:Int)>>=fun r14=>
 cM qq r12.1 r14>>=fun r16=>
 zDr qq (Tm.mk wU zFb xO) r16>>=fun r18=>
 zTy qq r12.2 p4.around p3>>=fun r20=>
 zTz qq r20.1 r18>>=fun r22=>
 zLI qq r20.2 r22.1 r22.2>>=fun r24=>
 some (r24.1,r24.2)
def zTx(qq:Nat)(q0_e:Int)(p1:Tm)(p2 p3:List Tm)(p4:tN)(p5:Tm):Option (Tm×Int):=
 zPD qq q0_e p2 (p4.around.length:Int)>>=fun r1=>
 cM qq p1 r1.1>>=fun r3=>
 jH qq p3 p4 p5 0 r1.2 r3.k r3.n r3.sub
theorem zWr:∀qq:Nat,(∀p3 p4 p5 v29 zX wU zFb xO r,jH qq p3 p4 p5 v29 zX wU zFb xO=some r->(∀j,dL 1 (inn (inn (rgt (lft (rgt (rgt (rgt (bod Tryz.f244)))))))) (sp j 61 0 [(0,.mp 0 0),(3,slv zF p3 .no),(10,.mp 1 0),(11,.mp 2 0),(12,.mp 3 0),(13,ai (p4.around.length:Int)),(14,.mp 4 0),(27,slv zF p4.at' .no),(28,ai (p4.at'.length:Int)),(29,ai v29)]) (⟨[(0,.cells [ai zX]),(1,.cells [ab p4.is,slv zF p4.around .no,slv zF p4.at' .no]),(2,.cells [ai p5.k,ai p5.n,slv zF p5.sub .no]),(3,.cells [ai 0,ai 0,slv zF ([]:List Tm) .nl]),(4,.cells [ai wU,ai zFb,slv zF xO .no])],5,[],0,[]⟩) (fQ 1 (nQ 1 Tryz.f244 (tmA r.1) [.cells [ai r.2]] 0) [.blk 0,.seq (rgt (rgt (rgt (rgt (bod Tryz.f244)))))]))):=by
 intro qq
 induction qq with
 |zero=>
  exact fun _ _ _ _ _ _ _ _ _ h=>nn h
 |succ qq ih=>
  intro p3 p4 p5 v29 zX wU zFb xO r h
  rw[jH]at h
  obtain⟨h5,h⟩|⟨h5,h⟩:=spl h
  obtain⟨x6,h7,h⟩:=zC h
  obtain⟨r8,h9,h⟩:=zC h
  obtain⟨r10,h11,h⟩:=zC h
  exact fun j=>lH 2 [] [0,1,2,3,4] [] [0,3,10,11,12,13,14,27,28,29] (oD (dT p4.at')<|oD (dT p3)<|oD (dT r10.sub)<|oD (dT ([]:List Tm))<|oD (dT p5.sub)<|oD (dT p4.at')<|oD (dT p4.around)<|oC 0 [] (zEG h11)<|oC 4 [0] (yBt h9)<|oA 0 (yN (o:=.no) h7)<|oB 0 h5 o0) (ih _ _ _ _ _ _ _ _ _ h)
  obtain⟨r12,h13,h⟩:=zC h
  obtain⟨r14,h15,h⟩:=zC h
  obtain⟨r16,h17,h⟩:=zC h
  obtain⟨r18,h19,h⟩:=zC h
  obtain⟨r20,h21,h⟩:=zC h
  obtain⟨r22,h23,h⟩:=zC h
  obtain⟨r24,h25,h⟩:=zC h
  cases h
  exact fun j=>lF 1 [0] (oD (dT r24.1.sub)<|oC 2 [0] (zYN h25)<|oC 1 [] (yCP h23)<|oC 2 [0] (yCQ h21)<|oC 0 [] (zEG h19)<|oC 0 [] (zEH h17)<|oC 0 [] (yCL h15)<|oC 2 [0] (yCN h13)<|oB 0 h5 o0)
theorem zWq{qq q0_e p1 p2 p3 p4 p5 r}(h:zTx qq q0_e p1 p2 p3 p4 p5=some r):Ct 244 [.cells [ai q0_e]] [.mp 0 0,tmA p1,slv zF p2 .no,slv zF p3 .no,yAz p4,tmA p5] (tmA r.1) [.cells [ai r.2]] 0:=⟨by
 unfold zTx at h
 obtain⟨r1,h2,h⟩:=zC h
 obtain⟨r3,h4,h⟩:=zC h
 exact tH ⟨Tryz.func244,rfl⟩ 3 [] [0,2,3,4,5] [] [0,3,10,11,12,13,14,27,28,29] (oD (dT p4.at')<|oD (dT p3)<|oD (dT r3.sub)<|oD (dT ([]:List Tm))<|oD (dT p5.sub)<|oD (dT p4.at')<|oD (dT p4.around)<|oC 0 [] (zEH h4)<|oC 3 [0] (yBv h2) o0) (zWr _ _ _ _ _ _ _ _ _ _ h),⟨(lz rfl),⟨tv,tv,⟨tv,dT _⟩,tv⟩,⟨tv,dT _⟩,⟨tv,dT _⟩,⟨tv,⟨tv,dT _⟩,⟨tv,dT _⟩,tv⟩,⟨tv,tv,⟨tv,dT _⟩,tv⟩,tv⟩,(zA ⟨tv,tv⟩ zB),⟨tv,tv,dT _,tv⟩,(zA ⟨tv,tv⟩ zB)⟩
def zTw(qq:Nat)(q0_e:Int)(p1:Tm):Option (Tm×Int×Int):=
 if q0_e==0 then
 e52 qq p1>>=fun r2=>
 if r2 then
 if q0_e != 0 then
 some ((Tm.mk 0 0 []),q0_e,q0_e)
 else
 some (p1,0,q0_e)
 else
 some ((Tm.mk 0 0 []),2,2)
 else
 if q0_e != 0 then
 some ((Tm.mk 0 0 []),q0_e,q0_e)
 else
 some (p1,0,q0_e)
theorem zTv:Qf 246 Tryz.f246:=⟨Tryz.func246,rfl⟩
theorem yCR{qq q0_e p1 r}(h:zTw qq q0_e p1=some r):Ct 246 [.cells [ai q0_e]] [.mp 0 0,tmA p1] (.tup [tmA r.1,ai r.2.1]) [.cells [ai r.2.2]] 0:=⟨by
 unfold zTw at h
 obtain⟨h1,h⟩|⟨h1,h⟩:=spl h
 obtain⟨r2,h3,h⟩:=zC h
 have k:=oB 1 h1 o0
 obtain⟨h4,h⟩|⟨h4,h⟩:=spl h
 have k:=oK 1 [] h4 (c52 h3) k
 obtain⟨h5,h⟩|⟨h5,h⟩:=spl h
 cases h
 exact tF zTv 2 [0] (oD (dT ([]:List Tm))<|oB 2 h5 k)
 cases h
 exact tF zTv 2 [0] (oD (dT p1.sub)<|oB 2 h5 k)
 cases h
 exact tF zTv 6 [0] (oD (dT ([]:List Tm))<|oK 1 [] h4 (c52 h3) k)
 have k:=oB 1 h1 o0
 obtain⟨h6,h⟩|⟨h6,h⟩:=spl h
 cases h
 exact tF zTv 2 [0] (oD (dT ([]:List Tm))<|oB 1 h6 k)
 cases h
 exact tF zTv 2 [0] (oD (dT p1.sub)<|oB 1 h6 k),⟨(lz rfl),⟨tv,tv,⟨tv,dT _⟩,tv⟩,tv⟩,(zA ⟨tv,tv⟩ zB),⟨⟨tv,tv,dT _,tv⟩,tv,tv⟩,(zA ⟨tv,tv⟩ zB)⟩
def OkA(l:List Tm):Prop:=∀x∈l,x.Ok
theorem OkA.nil:OkA []:=fun _ h=>nomatch h
theorem OkA.app{l m:List Tm}(h:OkA l)(k:OkA m):OkA (l++m):=fun x hx=>(List.mem_append.1 hx).elim (h x) (k x)
theorem OkA.one{t:Tm}(h:t.Ok):OkA [t]:=fun x hx=>by
 rw[List.mem_singleton.1 hx];exact h
theorem OkA.drop{l:List Tm}(h:OkA l)(n:Nat):OkA (l.drop n):=fun x hx=>h x (List.mem_of_mem_drop hx)
theorem OkA.take{l:List Tm}(h:OkA l)(n:Nat):OkA (l.take n):=fun x hx=>h x (List.mem_of_mem_take hx)
theorem OkA.at{l r:List Tm}{v:Nat}{x:Tm}(h:OkA l)(hd:l.drop v=x::r):x.Ok:=h x (by
 have:x∈l.drop v:=by rw[hd];simp
 exact List.mem_of_mem_drop this)
theorem zYP{k n:Int}{a:Tm}(h:a.Ok):(Tm.mk k n [a]).Ok:=by
 rw[Tm.Ok,OkL,OkL];exact⟨by simp,h,trivial⟩
theorem gB{k n:Int}{a b:Tm}(h:a.Ok)(i:b.Ok):(Tm.mk k n [a,b]).Ok:=by
 rw[Tm.Ok,OkL,OkL,OkL];exact⟨by simp,h,i,trivial⟩
theorem zCp{α:Type}{l:List α}{a b:Int}(h0:0≤a)(h1:a≤b)(h2:b≤l.length):gsl l a b=some ((l.drop a.toNat).take (b-a).toNat):=by
 unfold gsl;rw[if_pos ⟨h0,h1,h2⟩]
def MT(e:Int)(v:Tm)(x:Tm×Int):Prop:=x.1.Ok∧(e≠8->x.2≠8)∧(x.2=0->e=0∧x.1=v)
def ML(e:Int)(v:List Tm)(x:List Tm×Int):Prop:=OkA x.1∧(e≠8->x.2≠8)∧(x.2=0->e=0∧x.1=v)
def upI(k:Int)(l:List Tm):List Tm:=l.map fun t=>lfT t 0 0 k
theorem zFa(p1 p2:Int):∀(r l acc:List Tm) (v:Nat),l.drop v=r->l.length≤1073741824->OkA l->OkA acc->acc.length+r.length≤l.length->Tot (fun q=>jB q l p1 p2 (v:Int) acc) (fun x=>ML 0 (acc++r.map fun t=>lfT t 0 p2 p1) x∧x.1.length≤l.length)
 | [],l,acc,v,hd,hl,ho,ha,hv=>by
  refine Tot.succ ?_
  simp only[jB]
  refine Tot.ite (fun h=>?_) fun _=>Tot.ret ⟨⟨ha,by simp,by simp⟩,by simpa using hv⟩
  rw[zZ hd]at h;cases h
 |t::r,l,acc,v,hd,hl,ho,ha,hv=>by
  have hlt:=yC hd
  refine Tot.succ ?_
  simp only[jB]
  refine Tot.ite (fun _=>?_) fun h=>?_
  ·refine Tot.pure (zV hd) (Tot.bind (P:=fun r=>r=vX t p1 p2) ((zMX t p1 p2 (ho.at hd)).tot rfl) fun r4 h4=>?_)
   subst h4
   refine Tot.ite (fun h=>?_) fun h=>?_
   ·have hne:(vX t p1 p2).2≠0:=by simpa using h
    exact Tot.ret ⟨⟨OkA.nil,fun _=>zDc t p1 p2,fun h0=>absurd h0 hne⟩,by simp⟩
   ·have he:(vX t p1 p2).2=0:=by simpa using h
    rw[List.length_cons]at hv
    refine Tot.pure (yD (by simp<;>omega)) ?_
    rw[zU v (by omega)]
    refine(zFa p1 p2 r l _ (v+1) (zS hd) hl ho (ha.app (OkA.one (lB t p1 p2 (ho.at hd)))) (by simp<;>omega)).mono fun x hx=>?_
    rw[(iZ he).2.2.2.2]at hx
    simpa using hx
  ·rw[zY hd]at h;cases h
theorem zTu(l:List Tm)(p1 p2:Int)(hl:l.length≤1073741824)(ho:OkA l):Tot (fun q=>zSV q l p1 p2) (fun x=>ML 0 (l.map fun t=>lfT t 0 p2 p1) x∧x.1.length≤l.length):=by
 simp only[zSV]
 exact zFa p1 p2 l l [] 0 rfl hl ho OkA.nil (by simp)
theorem zGO(e:Int)(t:Tm)(p:Int):Tot (fun q=>zLI q e t p) (fun x=>x.1=t∧x.2=if e=0 then p else e):=by
 simp only[zLI]
 refine Tot.ite (fun h=>Tot.ret ⟨rfl,?_⟩) fun h=>Tot.ret ⟨rfl,?_⟩
 ·rw[if_pos (by simpa using h)]
 ·rw[if_neg (by simpa using h)]
theorem zWp(e:Int)(t:List Tm)(p:Int):Tot (fun q=>zSX q e t p) (fun x=>x.1=t∧x.2=if e=0 then p else e):=by
 simp only[zSX]
 refine Tot.ite (fun h=>Tot.ret ⟨rfl,?_⟩) fun h=>Tot.ret ⟨rfl,?_⟩
 ·rw[if_pos (by simpa using h)]
 ·rw[if_neg (by simpa using h)]
theorem zLJ{e:Int}{v:Tm}{r x:Tm×Int}(hr:MT 0 v r)(hx:x.1=r.1∧x.2=if e=0 then r.2 else e):MT e v x:=by
 obtain⟨h1,h2⟩:=hx
 refine⟨by rw[h1];exact hr.1,?_,?_⟩
 ·intro he
  rw[h2]
  split
  ·exact hr.2.1 (by decide)
  ·exact he
 ·intro he
  rw[h2]at he
  by_cases h:e=0
  ·rw[if_pos h]at he
   exact⟨h,by rw[h1];exact(hr.2.2 he).2⟩
  ·rw[if_neg h]at he;exact absurd he h
theorem zYQ{e:Int}{v:List Tm}{r x:List Tm×Int}(hr:ML 0 v r)(hx:x.1=r.1∧x.2=if e=0 then r.2 else e):ML e v x:=by
 obtain⟨h1,h2⟩:=hx
 refine⟨by rw[h1];exact hr.1,?_,?_⟩
 ·intro he
  rw[h2]
  split
  ·exact hr.2.1 (by decide)
  ·exact he
 ·intro he
  rw[h2]at he
  by_cases h:e=0
  ·rw[if_pos h]at he
   exact⟨h,by rw[h1];exact(hr.2.2 he).2⟩
  ·rw[if_neg h]at he;exact absurd he h
theorem zNi(e:Int)(l:List Tm)(p:Int)(hl:l.length≤1073741824)(ho:OkA l):Tot (fun q=>zPD q e l p) (fun x=>ML e (upI p l) x∧x.1.length≤l.length):=by
 simp only[zPD]
 exact(zTu l p 0 hl ho).bind fun r h=>(zWp e r.1 r.2).bind fun r3 h3=>Tot.ret ⟨zYQ h.1 h3,by rw[h3.1];exact h.2⟩
theorem zWo(t:Tm)(k c:Int)(h:t.Ok):MT 0 (lfT t 0 c k) (vX t k c):=⟨lB t k c h,fun _=>zDc t k c,fun h=>⟨rfl,(iZ h).2.2.2.2⟩⟩
theorem zYR(t:Tm)(ls:List Tm)(h:t.Ok)(ho:OkA ls):MT 0 (siT ls t 0) (iW t ls):=⟨zNw t ls h ho,fun _=>zNm t ls,fun h=>⟨rfl,(zNn h).2.2.2⟩⟩
theorem zYS(e:Int)(t:Tm)(p:Int)(h:t.Ok):Tot (fun q=>zSY q e t p) (MT e (lfT t 0 0 p)):=by
 simp only[zSY]
 exact Tot.bind (P:=fun r=>r=vX t p 0) ((zMY t p h).tot rfl) fun r hr=>(zGO e r.1 r.2).bind fun r3 h3=>Tot.ret (by subst hr;exact zLJ (zWo t p 0 h) h3)
def zAk:Nat->List Tm
 |0=>[]
 |m+1=>.mk 1 (m:Int) []::zAk m
def vuT:Nat->Nat->List Tm
 |0,_=>[]
 |m+1,v=>.mk 1 (v:Int) []::vuT m (v+1)
theorem zNh:∀m,OkA (zAk m)
 |0=>OkA.nil
 |m+1=>fun x hx=>by
  rcases List.mem_cons.1 hx with rfl|hx
  ·exact xN _ _
  ·exact zNh m x hx
theorem zJu:∀m,(zAk m).length=m
 |0=>rfl
 |m+1=>congrArg (· + 1) (zJu m)
theorem zAj:∀m v,(vuT m v).length=m
 |0,_=>rfl
 |m+1,v=>congrArg (· + 1) (zAj m (v+1))
theorem zJt:∀(m:Nat) (acc:List Tm),m+acc.length≤1048576->Evt (fun q=>jC q acc ((m:Int)-1)) (acc++zAk m)
 |0,acc,hm=>by
  refine Evt.succ ?_
  simp only[jC]
  exact Evt.ifF (decide_eq_false (by omega)) (Evt.ret.eq (by simp[zAk]))
 |m+1,acc,hm=>by
  refine Evt.succ ?_
  simp only[jC]
  refine Evt.ifT (decide_eq_true (by omega)) ((zBq _).bind (Evt.pure (yD (by simp<;>omega)) ?_))
  rw[yK (by omega) (by omega),show ((m+1:Nat):Int)-1-1=(m:Int)-1 by omega]
  refine(zJt m _ (by simp<;>omega)).eq ?_
  rw[zAk,show ((m+1:Nat):Int)-1=(m:Int) by omega];simp
theorem zWn(n:Nat)(hn:n≤1048576):Evt (fun q=>zSW q (n:Int)) (zAk n):=by
 simp only[zSW]
 refine Evt.ifF (decide_eq_false (by omega)) (Evt.ifF (decide_eq_false (by omega)) ?_)
 rw[yK (by omega) (by omega)]
 exact(zJt n [] (by simpa using hn)).eq (by simp)
def zJs(t:Tm)(own:Nat)(outer:List Tm):Tm:=siT (vuT own 0++(upI own outer).reverse) t 0
def lE(outer:List Tm):List Tm->Nat->List Tm
 | [],_=>[]
 |t::r,v=>zJs t v outer::lE outer r (v+1)
theorem zJr(p1:Tm)(r6:List Tm×Int)(h1:p1.Ok)(h6:OkA r6.1):∀(m:Nat) (acc:List Tm),m≤r6.1.length->m+acc.length≤4294967296->OkA acc->Tot (fun q=>jE q p1 r6 ((m:Int)-1) acc) (MT r6.2 (siT (acc++(r6.1.take m).reverse) p1 0))
 |0,acc,hm,hl,ho=>by
  refine Tot.succ ?_
  simp only[jE]
  refine Tot.ite (fun h=>?_) fun _=>?_
  ·have:=of_decide_eq_true h
   omega
  ·refine Tot.bind (P:=fun r=>r=iW p1 acc) ((zNx p1 acc h1 ho (by omega)).tot rfl) fun r h=>(zGO _ r.1 r.2).bind fun x hx=>Tot.ret ?_
   subst h
   have:=zLJ (zYR p1 acc h1 ho) hx
   simpa using this
 |m+1,acc,hm,hl,ho=>by
  refine Tot.succ ?_
  simp only[jE]
  refine Tot.ite (fun _=>?_) fun h=>?_
  ·have hlt:m<r6.1.length:=by omega
   have hx:zR r6.1 (((m+1:Nat):Int)-1)=some r6.1[m]:=by
    unfold zR
    rw[if_pos (by omega),show (((m+1:Nat):Int)-1).toNat=m by omega,List.getElem?_eq_getElem hlt]
   refine Tot.pure hx (Tot.pure (yD (by simp<;>omega)) ?_)
   rw[yK (by omega) (by omega),show ((m+1:Nat):Int)-1-1=(m:Int)-1 by omega]
   refine(zJr p1 r6 h1 h6 m _ (by omega) (by simp<;>omega) (ho.app (OkA.one (h6 _ (List.getElem_mem hlt))))).mono fun x hx=>?_
   have e:r6.1.take (m+1)=r6.1.take m++[r6.1[m]]:=by rw[List.take_add_one,List.getElem?_eq_getElem hlt];rfl
   rw[e,List.reverse_append]
   simpa using hx
  ·have:=of_decide_eq_false h
   omega
theorem zTt(e:Int)(p1:Tm)(own:Nat)(p3:List Tm)(h1:p1.Ok)(h2:own≤1073741824)(h3:OkA p3)(hl:p3.length≤1073741824):∀(m v:Nat) (acc:List Tm),v+m=own->acc.length≤v->OkA acc->Tot (fun q=>jF q e p1 (own:Int) p3 (v:Int) acc) (MT e (siT (acc++vuT m v++(upI own p3).reverse) p1 0)):=by
 intro m
 induction m with
 |zero=>
  intro v acc hm ha ho
  refine Tot.succ ?_
  simp only[jF]
  refine Tot.ite (fun h=>?_) fun _=>(zNi e p3 own hl h3).bind fun r6 h6=>?_
  ·have:=of_decide_eq_true h
   omega
  ·rw[yK (by omega) (by omega)]
   refine(zJr p1 r6 h1 h6.1.1 r6.1.length acc (Nat.le_refl _) (by omega) ho).mono fun x hx=>⟨hx.1,fun he=>hx.2.1 (h6.1.2.1 he),fun he=>?_⟩
   have k:=hx.2.2 he
   have k6:=h6.1.2.2 k.1
   refine⟨k6.1,?_⟩
   rw[k.2,List.take_length,k6.2,vuT];simp
 |succ m ih=>
  intro v acc hm ha ho
  refine Tot.succ ?_
  simp only[jF]
  refine Tot.ite (fun _=>?_) fun h=>?_
  ·refine Tot.bind (P:=fun r=>r=Tm.mk 1 (v:Int) []) ((zBq v).tot rfl) fun r h=>Tot.pure (yD (by simp<;>omega)) ?_
   subst h
   rw[zU v (by omega)]
   refine(ih (v+1) _ (by omega) (by simp<;>omega) (ho.app (OkA.one (xN _ _)))).mono fun x hx=>?_
   rw[vuT]
   simpa using hx
  ·have:=of_decide_eq_false h
   omega
theorem zBT(e:Int)(p1:Tm)(own:Nat)(p3:List Tm)(h1:p1.Ok)(h2:own≤1073741824)(h3:OkA p3)(hl:p3.length≤1073741824):Tot (fun q=>zPE q e p1 (own:Int) p3) (MT e (zJs p1 own p3)):=by
 simp only[zPE]
 exact zTt e p1 own p3 h1 h2 h3 hl own 0 [] (by omega) (by simp) OkA.nil
theorem dN(p2:List Tm)(h2:OkA p2)(hl2:p2.length≤1073741824):∀(r l acc:List Tm) (v:Nat) (e:Int),l.drop v=r->l.length≤1073741824->OkA l->OkA acc->acc.length≤v->Tot (fun q=>jG q l p2 (v:Int) acc e) (fun x=>OkA x.1∧x.1.length=acc.length+r.length∧(e≠8->x.2≠8)∧(x.2=0->e=0∧x.1=acc++lE p2 r v))
 | [],l,acc,v,e,hd,hl,ho,ha,hv=>by
  refine Tot.succ ?_
  simp only[jG]
  refine Tot.ite (fun h=>?_) fun _=>Tot.ret ⟨ha,by simp,id,fun h=>⟨h,by simp[lE]⟩⟩
  rw[zZ hd]at h;cases h
 |t::r,l,acc,v,e,hd,hl,ho,ha,hv=>by
  have hlt:=yC hd
  refine Tot.succ ?_
  simp only[jG]
  refine Tot.ite (fun _=>?_) fun h=>?_
  ·refine Tot.pure (zV hd) ((zBT e t v p2 (ho.at hd) (by omega) h2 hl2).bind fun r4 h4=>?_)
   refine Tot.pure (yD (by simp<;>omega)) ?_
   rw[zU v (by omega)]
   refine(dN p2 h2 hl2 r l _ (v+1) r4.2 (zS hd) hl ho (ha.app (OkA.one h4.1)) (by simp<;>omega)).mono fun x hx=>?_
   obtain⟨a1,a2,a3,a4⟩:=hx
   refine⟨a1,by rw[a2];simp<;>omega,fun he=>a3 (h4.2.1 he),fun he=>?_⟩
   have k:=a4 he
   have k4:=h4.2.2 k.1
   refine⟨k4.1,?_⟩
   rw[k.2,k4.2,lE];simp
  ·rw[zY hd]at h;cases h
theorem zGP(e:Int)(l p2:List Tm)(h2:OkA p2)(hl2:p2.length≤1073741824)(hl:l.length≤1073741824)(ho:OkA l):Tot (fun q=>zTy q e l p2) (fun x=>ML e (lE p2 l 0) x∧x.1.length=l.length):=by
 simp only[zTy]
 refine(dN p2 h2 hl2 l l [] 0 e rfl hl ho OkA.nil (by simp)).mono fun x hx=>?_
 obtain⟨a1,a2,a3,a4⟩:=hx
 exact⟨⟨a1,a3,fun he=>by simpa using a4 he⟩,by simpa using a2⟩
def zDB(l:List Tm)(t:Tm):Tm:=l.foldr (fun a x=>.mk 4 0 [a,x]) t
theorem zTs(l:List Tm)(hl:l.length≤24)(ho:OkA l):∀(m v:Nat) (t:Tm),v+m=l.length->t.Ok->Tot (fun q=>tX q l (v:Int) t.k t.n t.sub) (MT 0 (zDB (l.take m) t)):=by
 intro m
 induction m with
 |zero=>
  intro v t hm ht
  refine Tot.succ ?_
  simp only[tX,tW]
  refine Tot.ite (fun h=>?_) fun _=>?_
  ·have:=of_decide_eq_true h
   omega
  ·refine Tot.bind (P:=fun b=>b=zL t) ((yV t ht).tot rfl) fun r hr=>Tot.ite (fun h=>?_) fun _=>Tot.ret ⟨xN 0 0,by simp,by simp⟩
   refine Tot.bind (P:=fun x=>x=mI t) ((rJ t ht).tot rfl) fun x hx=>Tot.ret ?_
   subst hx
   have e:mI t=t:=by unfold mI;rw[if_pos (by rw[←hr];exact h)]
   rw[e]
   exact⟨ht,by simp,fun _=>⟨rfl,by simp[zDB]⟩⟩
 |succ m ih=>
  intro v t hm ht
  refine Tot.succ ?_
  simp only[tX,tW]
  refine Tot.ite (fun _=>?_) fun h=>?_
  ·have hlt:m<l.length:=by omega
   rw[yK (x:=(l.length:Int)-1) (by omega) (by omega),yK (x:=(l.length:Int)-1-v) (by omega) (by omega)]
   have hx:zR l ((l.length:Int)-1-v)=some l[m]:=by
    unfold zR
    rw[if_pos (by omega),show ((l.length:Int)-1-v).toNat=m by omega,List.getElem?_eq_getElem hlt]
   refine Tot.pure hx (Tot.bind (P:=fun r=>r=Tm.mk 4 0 [l[m],t]) (Evt.tot (Evt.mk fun _=>rfl) rfl) fun r hr=>?_)
   subst hr
   rw[zU v (by omega)]
   refine(ih (v+1) _ (by omega) (gB (ho _ (List.getElem_mem hlt)) ht)).mono fun x hx=>?_
   have e:l.take (m+1)=l.take m++[l[m]]:=by rw[List.take_add_one,List.getElem?_eq_getElem hlt];rfl
   rw[e]
   unfold zDB at hx ⊢
   rw[List.foldr_append]
   exact hx
  ·have:=of_decide_eq_false h
   omega
theorem zNg(t:Tm)(ht:t.Ok):∀(r l:List Tm) (v:Nat),l.drop v=r->l.length≤24->OkA l->Tot (fun q=>tY q l t (v:Int)) (MT 0 (zDB l t))
 | [],l,v,hd,hl,ho=>by
  refine Tot.succ ?_
  simp only[tY]
  refine Tot.ite (fun h=>?_) fun _=>?_
  ·rw[zZ hd]at h;cases h
  ·refine Tot.bind (P:=fun _=>True) ((yV t ht).tot trivial) fun r _=>Tot.ite (fun _=>?_) fun _=>Tot.ret ⟨xN 0 0,by simp,by simp⟩
   have:=zTs l hl ho l.length 0 t (by omega) ht
   rwa[List.take_length]at this
 |x::r,l,v,hd,hl,ho=>by
  have hlt:=yC hd
  refine Tot.succ ?_
  simp only[tY]
  refine Tot.ite (fun _=>?_) fun h=>?_
  ·refine Tot.pure (zV hd) (Tot.bind (P:=fun _=>True) ((yV x (ho.at hd)).tot trivial) fun _ _=>Tot.ite (fun _=>?_) fun _=>Tot.ret ⟨xN 0 0,by simp,by simp⟩)
   rw[zU v (by omega)]
   exact zNg t ht r l (v+1) (zS hd) hl ho
  ·rw[zY hd]at h;cases h
theorem zTr(l:List Tm)(t:Tm)(ho:OkA l)(ht:t.Ok):Tot (fun q=>zTz q l t) (MT 0 (zDB l t)):=by
 simp only[zTz]
 refine Tot.bind (P:=MT 0 (zDB l t)) ?_ fun x hx=>Tot.ret hx
 simp only[zAl]
 refine Tot.ite (fun _=>Tot.ret ⟨xN 0 0,by simp,by simp⟩) fun h=>?_
 have:=of_decide_eq_false h
 exact zNg t ht l l 0 rfl (by omega) ho
def zJq(r:tN):Prop:=OkA r.around∧OkA r.at'∧r.around.length≤1048576∧r.at'.length≤1048576
def zWm(head:Tm)(args outer:List Tm)(r:tN)(a:Tm):Tm:=
 zDB (lE outer r.around 0) (.mk 5 0 [apT (apT head (upI r.around.length args)) (r.at'.map fun t=>zJs t r.around.length outer),apT (lfT a 0 0 r.around.length) (zAk r.around.length)])
theorem zJp(p3:List Tm)(p4:tN)(p5:Tm)(h3:OkA p3)(hl3:p3.length≤1073741824)(h4:zJq p4)(h5:p5.Ok):∀(r:List Tm) (v:Nat) (e:Int) (t:Tm),p4.at'.drop v=r->t.Ok->Tot (fun q=>jH q p3 p4 p5 (v:Int) e t.k t.n t.sub)
  (MT e (zDB (lE p3 p4.around 0) (.mk 5 0 [apT t (r.map fun t=>zJs t p4.around.length p3),apT (lfT p5 0 0 p4.around.length) (zAk p4.around.length)])))
 | [],v,e,t,hd,ht=>by
  refine Tot.succ ?_
  simp only[jH,tW]
  refine Tot.ite (fun h=>?_) fun _=>?_
  ·rw[zZ hd]at h;cases h
  ·have:=h4.2.2.1
   refine(zYS e p5 _ h5).bind fun r12 h12=>Tot.bind (P:=fun x=>x=zAk p4.around.length) ((zWn _ this).tot rfl) fun r14 h14=>?_
   subst h14
   refine Tot.bind (P:=fun x=>x=apT r12.1 (zAk p4.around.length)) ((pC r12.1 _ (by rw[zJu];omega)).tot rfl) fun r16 h16=>?_
   subst h16
   refine Tot.bind (P:=fun x=>x=Tm.mk 5 0 [t,apT r12.1 (zAk p4.around.length)]) ((zBs t _).tot rfl) fun r18 h18=>?_
   subst h18
   refine(zGP r12.2 p4.around p3 h3 hl3 (by omega) h4.1).bind fun r20 h20=>(zTr r20.1 _ h20.1.1 (gB ht (mJ _ _ h12.1 (zNh _)))).bind fun r22 h22=>(zGO r20.2 r22.1 r22.2).bind fun r24 h24=>Tot.ret ?_
   have m:=zLJ h22 h24
   refine⟨m.1,fun he=>m.2.1 (h20.1.2.1 (h12.2.1 he)),fun he=>?_⟩
   have k:=m.2.2 he
   have k20:=h20.1.2.2 k.1
   have k12:=h12.2.2 k20.1
   refine⟨k12.1,?_⟩
   rw[k.2,k20.2,k12.2];rfl
 |x::r,v,e,t,hd,ht=>by
  have hlt:=yC hd
  have:=h4.2.2.1
  have:=h4.2.2.2
  refine Tot.succ ?_
  simp only[jH,tW]
  refine Tot.ite (fun _=>?_) fun h=>?_
  ·refine Tot.pure (zV hd) ((zBT e x _ p3 (h4.2.1.at hd) (by omega) h3 hl3).bind fun r8 h8=>?_)
   refine Tot.bind (P:=fun x=>x=Tm.mk 5 0 [t,r8.1]) ((zBs t r8.1).tot rfl) fun r10 h10=>?_
   subst h10
   rw[zU v (by omega)]
   refine(zJp p3 p4 p5 h3 hl3 h4 h5 r (v+1) r8.2 (.mk 5 0 [t,r8.1]) (zS hd) (gB ht h8.1)).mono fun y hy=>⟨hy.1,fun he=>hy.2.1 (h8.2.1 he),fun he=>?_⟩
   have k:=hy.2.2 he
   have k8:=h8.2.2 k.1
   refine⟨k8.1,?_⟩
   rw[k.2,k8.2,List.map_cons,apT]
  ·rw[zY hd]at h;cases h
theorem zDC(e:Int)(p1:Tm)(p2 p3:List Tm)(p4:tN)(p5:Tm)(h1:p1.Ok)(h2:OkA p2)(hl2:p2.length≤1073741824)(h3:OkA p3)(hl3:p3.length≤1073741824)(h4:zJq p4)(h5:p5.Ok):Tot (fun q=>zTx q e p1 p2 p3 p4 p5) (MT e (zWm p1 p2 p3 p4 p5)):=by
 simp only[zTx]
 refine(zNi e p2 _ hl2 h2).bind fun r1 hr1=>?_
 refine Tot.bind (P:=fun x=>x=apT p1 r1.1) ((pC p1 r1.1 (by omega)).tot rfl) fun r3 hr3=>?_
 subst hr3
 refine(zJp p3 p4 p5 h3 hl3 h4 h5 p4.at' 0 r1.2 (apT p1 r1.1) rfl (mJ _ _ h1 hr1.1.1)).mono fun y hy=>⟨hy.1,fun he=>hy.2.1 (hr1.1.2.1 he),fun he=>?_⟩
 have k:=hy.2.2 he
 have k1:=hr1.1.2.2 k.1
 refine⟨k1.1,?_⟩
 rw[k.2,k1.2];rfl
theorem zTq(e:Int)(t:Tm)(h:t.Ok):Tot (fun q=>zTw q e t) (fun x=>x.1.Ok∧(e≠8->x.2.1≠8)∧(x.2.1=0->e=0∧x.1=t∧zL t=true)):=by
 simp only[zTw]
 refine Tot.ite (fun he=>?_) fun he=>?_
 ·have he':e=0:=by simpa using he
  refine Tot.bind (P:=fun b=>b=zL t) ((yV t h).tot rfl) fun b hb=>Tot.ite (fun hs=>?_) fun _=>Tot.ret ⟨xN 0 0,by simp,by simp⟩
  refine Tot.ite (fun h2=>absurd he' (by simpa using h2)) fun _=>Tot.ret ⟨h,by simp,fun _=>⟨he',rfl,by rw[←hb];exact hs⟩⟩
 ·have he':e≠0:=by simpa using he
  exact Tot.ite (fun _=>Tot.ret ⟨xN 0 0,id,fun h0=>absurd h0 he'⟩) fun h2=>absurd (by simpa using h2) he'
theorem zLK(l:List Ent)(n kind:Int):Evt (fun q=>zLG q l n kind) (isT l n kind):=by
 simp only[zLG]
 unfold isT
 by_cases h:0≤n
 ·refine Evt.ifT (decide_eq_true h) ?_
  by_cases k:n<l.length
  ·exact Evt.ifT (decide_eq_true k) (Evt.pure (yI h k) (Evt.ret.eq (by simp[h,k])))
  ·exact Evt.ifF (decide_eq_false k) (Evt.ret.eq (by simp[k]))
 ·exact Evt.ifF (decide_eq_false h) (Evt.ret.eq (by simp[h]))
theorem zBU:∀(r l:List Tm) (v:Nat),l.drop v=r->l.length≤1073741824->OkA l->Evt (fun q=>jD q l (v:Int)) (r.all zL)
 | [],l,v,hd,hl,ho=>by
  refine Evt.succ ?_
  simp only[jD]
  exact Evt.ifF (zZ hd) Evt.ret
 |x::r,l,v,hd,hl,ho=>by
  have hlt:=yC hd
  refine Evt.succ ?_
  simp only[jD]
  refine Evt.ifT (zY hd) (Evt.pure (zV hd) ((yV x (ho.at hd)).bind ?_))
  by_cases h:zL x=true
  ·refine Evt.ifT h ?_
   rw[zU v (by omega)]
   exact(zBU r l (v+1) (zS hd) hl ho).eq (by simp[h])
  ·exact Evt.ifF (by simpa using h) (Evt.ret.eq (by simp[h]))
theorem cS(l:List Tm)(hl:l.length≤1073741824)(ho:OkA l):Evt (fun q=>zLH q l) (l.all zL):=by
 simp only[zLH]
 exact zBU l l 0 rfl hl ho
def zJo(qq:Nat)(rl:List Ent)(parts:List yS)(p1:Int)(p2:List Tm):Option (Tm×Int):=
 zLG qq rl p1 4>>=fun r1=>
 if r1 then
 zR rl p1>>=fun x4=>
 zR rl x4.fam>>=fun x6=>
 if (p2.length:Int) != (x6.fields.length:Int)then
 some ((Tm.mk 0 0 []),5)
 else
 zLH qq p2>>=fun r9=>
 if r9 then
 zR p2 x4.place>>=fun x12=>
 some (x12,0)
 else
 some ((Tm.mk 0 0 []),5)
 else
 some ((Tm.mk 0 0 []),16)
theorem zWl:Qf 226 Tryz.f226:=⟨Tryz.func226,rfl⟩
theorem yCS{qq rl parts p1 p2 r}(h:zJo qq rl parts p1 p2=some r):Ct 226 [qR rl parts] [.mp 0 0,ai p1,slv zF p2 .no] (.tup [tmA r.1,ai r.2]) [qR rl parts] 0:=⟨by
 unfold zJo at h
 have z {os ob} (k:Oz os ob):=oD (dT ([]:List Tm))<|oD (dC parts)<|oD (dE rl)<|k
 obtain⟨r1,h2,h⟩:=zC h
 obtain⟨h3,h⟩|⟨h3,h⟩:=spl h
 obtain⟨x4,h5,h⟩:=zC h
 obtain⟨x6,h7,h⟩:=zC h
 have k:=oA 1 (xM (o:=.no) h7)<|oA 2 (xM (o:=.no) h5)<|oK 2 [] h3 (zPB h2) o0
 obtain⟨h8,h⟩|⟨h8,h⟩:=spl h
 cases h
 exact tF zWl 1 [0] (z<|oB 2 h8 k)
 obtain⟨r9,h10,h⟩:=zC h
 have k:=oB 2 h8 k
 obtain⟨h11,h⟩|⟨h11,h⟩:=spl h
 obtain⟨x12,h13,h⟩:=zC h
 cases h
 exact tF zWl 2 [0] (oD (dT x12.sub)<|oD (dC parts)<|oD (dE rl)<|oA 1 (yN (o:=.no) h13)<|oA 1 (xM (o:=.no) h5)<|oK 0 [] h11 (zPC h10) k)
 cases h
 exact tF zWl 2 [0] (z<|oK 0 [] h11 (zPC h10) k)
 cases h
 exact tF zWl 2 [0] (z<|oK 2 [] h3 (zPB h2) o0),⟨(lz rfl),tv,⟨tv,dT _⟩,tv⟩,(zA ⟨⟨tv,dE _⟩,⟨tv,dC _⟩,tv⟩ zB),⟨⟨tv,tv,dT _,tv⟩,tv,tv⟩,(zA ⟨dE _,dC _,tv⟩ zB)⟩
def zYT(qq:Nat)(p0 p1:Int):Option Tm:=
 zEI qq p1>>=fun r1=>
 zIH qq 7 p0 [r1]>>=fun r3=>
 some r3
theorem zWk{qq p0 p1 r}(h:zYT qq p0 p1=some r):Ct 245 [] [ai p0,ai p1] (tmA r) [] 0:=⟨by
 unfold zYT at h
 obtain⟨r1,h2,h⟩:=zC h
 obtain⟨r3,h4,h⟩:=zC h
 obtain rfl:=sj h
 exact tF ⟨Tryz.func245,rfl⟩ 1 [] (oD (dT r3.sub)<|oC 0 [] (zOU h4)<|oS 0 (yT xC [r1])<|oC 0 [] (zLk h2) o0),⟨tv,tv,tv⟩,zB,⟨tv,tv,dT _,tv⟩,zB⟩
def nV:Nat->List Ent->List yS->Int->Int->List Tm->List Tm->yS->Int->Int->Int->Int->List Tm->Option (Tm×Int)
 |0,_,_,_,_,_,_,_,_,_,_,_,_=>none
 |qq+1,rl,parts,p1,p2,p4,p5,x12,v120,xP,wD,wE,pI=>
 if decide (v120<(x12.recs.length:Int))then
 zR x12.recs v120>>=fun x29=>
 if x29.is then
 zR rl p1>>=fun x32=>
 gsl p4 0 x32.pars>>=fun x34=>
 yP 40 ([]:List Tm) x34>>=fun l36=>
 gsl p5 0 v120>>=fun x39=>
 yP 40 l36 x39>>=fun l41=>
 zYT qq p1 p2>>=fun r44=>
 zR p5 v120>>=fun x46=>
 zTx qq xP r44 p4 l41 x29 x46>>=fun r48=>
 zDr qq (Tm.mk wD wE pI) r48.1>>=fun r50=>
 nV qq rl parts p1 p2 p4 p5 x12 (w64 (v120+1)) r48.2 r50.k r50.n r50.sub
 else
 nV qq rl parts p1 p2 p4 p5 x12 (w64 (v120+1)) xP wD wE pI
 else
 zTw qq xP (Tm.mk wD wE pI)>>=fun r52=>
 some (r52.1,r52.2.1)
def zJn(qq:Nat)(rl:List Ent)(parts:List yS)(p1 p2 p3:Int)(p4 p5:List Tm):Option (Tm×Int):=
 zLG qq rl p1 1>>=fun r1=>
 if r1 then
 if decide (p2<0)then
 some ((Tm.mk 0 0 []),16)
 else
 if decide (p2>7)then
 some ((Tm.mk 0 0 []),16)
 else
 zLG qq rl p3 2>>=fun r6=>
 if r6 then
 zR rl p3>>=fun x9=>
 if x9.fam != p1 then
 some ((Tm.mk 0 0 []),16)
 else
 zR parts p3>>=fun x12=>
 zR rl p1>>=fun x14=>
 if (p4.length:Int) != (w64 ((w64 (x14.pars+1))+(x14.cons.length:Int)))then
 some ((Tm.mk 0 0 []),5)
 else
 if (p5.length:Int) != (x12.args.length:Int)then
 some ((Tm.mk 0 0 []),5)
 else
 zLH qq p4>>=fun r18=>
 if r18 then
 zLH qq p5>>=fun r21=>
 if r21 then
 zR p4 (w64 ((w64 (x14.pars+1))+x9.place))>>=fun x24=>
 cM qq x24 p5>>=fun r26=>
 nV qq rl parts p1 p2 p4 p5 x12 0 0 r26.k r26.n r26.sub
 else
 some ((Tm.mk 0 0 []),5)
 else
 some ((Tm.mk 0 0 []),5)
 else
 some ((Tm.mk 0 0 []),16)
 else
 some ((Tm.mk 0 0 []),16)
theorem zEM:Qf 227 Tryz.f227:=⟨Tryz.func227,rfl⟩
theorem zWj:∀qq:Nat,(∀rl parts p1 p2 p4 p5 x12 v120 xP wD wE pI r,nV qq rl parts p1 p2 p4 p5 x12 v120 xP wD wE pI=some r->(∀j,dL 1 (inn (inn (rgt (lft (rgt (rgt (rgt (rgt (rgt (rgt (rgt (rgt (bod Tryz.f227))))))))))))) (sp j 160 0 [(1,ai p1),(2,ai p2),(4,slv zF p4 .no),(5,slv zF p5 .no),(12,.mp 1 0),(14,slv yQ rl .no),(16,.mp 2 0),(17,.mp 3 0),(118,slv aK x12.recs .no),(119,ai (x12.recs.length:Int)),(120,ai v120)]) (⟨[(0,qR rl parts),(1,.cells [ai 0,ai 0,slv zF ([]:List Tm) .nl]),(2,.cells [ai xP]),(3,.cells [ai wD,ai wE,slv zF pI .no])],4,[],0,[]⟩) (fQ 1 (nQ 1 Tryz.f227 (.tup [tmA r.1,ai r.2]) [qR rl parts] 0) [.blk 0,.seq (rgt (rgt (rgt (rgt (rgt (rgt (rgt (rgt (rgt (bod Tryz.f227))))))))))]))):=by
 intro qq
 induction qq with
 |zero=>
  exact fun _ _ _ _ _ _ _ _ _ _ _ _ _ h=>nn h
 |succ qq ih=>
  intro rl parts p1 p2 p4 p5 x12 v120 xP wD wE pI r h
  rw[nV]at h
  have z {os ob} (k:Oz os ob):=oD (dT ([]:List Tm))<|oD (dC parts)<|oD (dE rl)<|k
  obtain⟨h28,h⟩|⟨h28,h⟩:=spl h
  obtain⟨x29,h30,h⟩:=zC h
  have k:=oA 0 (yAj (o:=.no) h30)<|oB 0 h28 o0
  obtain⟨h31,h⟩|⟨h31,h⟩:=spl h
  obtain⟨x32,h33,h⟩:=zC h
  obtain⟨x34,h35,h⟩:=zC h
  obtain⟨l36,h37,h⟩:=zC h
  have k:=oA 1 (oT h35)<|oA 1 (xM (o:=.no) h33)<|oB 2 h31 k
  by_cases h38:List.length x34=0
  obtain⟨x39,h40,h⟩:=zC h
  obtain⟨l41,h42,h⟩:=zC h
  have k:=oA 0 (oT h40)<|oP 0 (sQ h37 h38) k
  by_cases h43:List.length x39=0
  obtain⟨r44,h45,h⟩:=zC h
  obtain⟨x46,h47,h⟩:=zC h
  obtain⟨r48,h49,h⟩:=zC h
  obtain⟨r50,h51,h⟩:=zC h
  exact fun j=>lH 2 [] [0,1,2,3] [] [1,2,4,5,12,14,16,17,118,119,120] (oD (dR x12.recs)<|oD (dE rl)<|oD (dT p5)<|oD (dT p4)<|oD (dT r50.sub)<|z<|oC 0 [] (zEG h51)<|oC 1 [2] (zWq h49)<|oA 1 (yN (o:=.no) h47)<|oC 1 [] (zWk h45)<|oP 0 (sQ h42 h43) k) (ih _ _ _ _ _ _ _ _ _ _ _ _ _ h)
  obtain⟨r44,h45,h⟩:=zC h
  obtain⟨x46,h47,h⟩:=zC h
  obtain⟨r48,h49,h⟩:=zC h
  obtain⟨r50,h51,h⟩:=zC h
  exact fun j=>lH 2 [] [0,1,2,3] [] [1,2,4,5,12,14,16,17,118,119,120] (oD (dR x12.recs)<|oD (dE rl)<|oD (dT p5)<|oD (dT p4)<|oD (dT r50.sub)<|z<|oC 0 [] (zEG h51)<|oC 1 [2] (zWq h49)<|oA 1 (yN (o:=.no) h47)<|oC 1 [] (zWk h45)<|oP 0 (wB h42 h43) k) (ih _ _ _ _ _ _ _ _ _ _ _ _ _ h)
  obtain⟨x39,h40,h⟩:=zC h
  obtain⟨l41,h42,h⟩:=zC h
  have k:=oA 0 (oT h40)<|oP 0 (wB h37 h38) k
  by_cases h43:List.length x39=0
  obtain⟨r44,h45,h⟩:=zC h
  obtain⟨x46,h47,h⟩:=zC h
  obtain⟨r48,h49,h⟩:=zC h
  obtain⟨r50,h51,h⟩:=zC h
  exact fun j=>lH 2 [] [0,1,2,3] [] [1,2,4,5,12,14,16,17,118,119,120] (oD (dR x12.recs)<|oD (dE rl)<|oD (dT p5)<|oD (dT p4)<|oD (dT r50.sub)<|z<|oC 0 [] (zEG h51)<|oC 1 [2] (zWq h49)<|oA 1 (yN (o:=.no) h47)<|oC 1 [] (zWk h45)<|oP 0 (sQ h42 h43) k) (ih _ _ _ _ _ _ _ _ _ _ _ _ _ h)
  obtain⟨r44,h45,h⟩:=zC h
  obtain⟨x46,h47,h⟩:=zC h
  obtain⟨r48,h49,h⟩:=zC h
  obtain⟨r50,h51,h⟩:=zC h
  exact fun j=>lH 2 [] [0,1,2,3] [] [1,2,4,5,12,14,16,17,118,119,120] (oD (dR x12.recs)<|oD (dE rl)<|oD (dT p5)<|oD (dT p4)<|oD (dT r50.sub)<|z<|oC 0 [] (zEG h51)<|oC 1 [2] (zWq h49)<|oA 1 (yN (o:=.no) h47)<|oC 1 [] (zWk h45)<|oP 0 (wB h42 h43) k) (ih _ _ _ _ _ _ _ _ _ _ _ _ _ h)
  exact fun j=>lH 1 [] [0,1,2,3] [] [1,2,4,5,12,14,16,17,118,119,120] (oD (dR x12.recs)<|oD (dE rl)<|oD (dT p5)<|oD (dT p4)<|oD (dT pI)<|z<|oB 2 h31 k) (ih _ _ _ _ _ _ _ _ _ _ _ _ _ h)
  obtain⟨r52,h53,h⟩:=zC h
  cases h
  exact fun j=>lF 3 [0] (oD (dT r52.1.sub)<|oD (dC parts)<|oD (dE rl)<|oC 1 [2] (yCR h53)<|oB 0 h28 o0)
theorem yCT{qq rl parts p1 p2 p3 p4 p5 r}(h:zJn qq rl parts p1 p2 p3 p4 p5=some r):Ct 227 [qR rl parts] [.mp 0 0,ai p1,ai p2,ai p3,slv zF p4 .no,slv zF p5 .no] (.tup [tmA r.1,ai r.2]) [qR rl parts] 0:=⟨by
 unfold zJn at h
 have z {os ob} (k:Oz os ob):=oD (dT ([]:List Tm))<|oD (dC parts)<|oD (dE rl)<|k
 obtain⟨r1,h2,h⟩:=zC h
 obtain⟨h3,h⟩|⟨h3,h⟩:=spl h
 have k:=oK 2 [] h3 (zPB h2) o0
 obtain⟨h4,h⟩|⟨h4,h⟩:=spl h
 cases h
 exact tF zEM 1 [0] (z<|oB 1 h4 k)
 have k:=oB 1 h4 k
 obtain⟨h5,h⟩|⟨h5,h⟩:=spl h
 cases h
 exact tF zEM 1 [0] (z<|oB 0 h5 k)
 obtain⟨r6,h7,h⟩:=zC h
 have k:=oB 0 h5 k
 obtain⟨h8,h⟩|⟨h8,h⟩:=spl h
 obtain⟨x9,h10,h⟩:=zC h
 have k:=oA 1 (xM (o:=.no) h10)<|oK 0 [] h8 (zPB h7) k
 obtain⟨h11,h⟩|⟨h11,h⟩:=spl h
 cases h
 exact tF zEM 1 [0] (z<|oB 1 h11 k)
 obtain⟨x12,h13,h⟩:=zC h
 obtain⟨x14,h15,h⟩:=zC h
 have k:=oA 2 (xM (o:=.no) h15)<|oA 3 (xM (o:=.no) h15)<|oA 1 (yAl (o:=.no) h13)<|oB 1 h11 k
 obtain⟨h16,h⟩|⟨h16,h⟩:=spl h
 cases h
 exact tF zEM 1 [0] (z<|oB 3 h16 k)
 have k:=oB 3 h16 k
 obtain⟨h17,h⟩|⟨h17,h⟩:=spl h
 cases h
 exact tF zEM 1 [0] (z<|oB 3 h17 k)
 obtain⟨r18,h19,h⟩:=zC h
 have k:=oB 3 h17 k
 obtain⟨h20,h⟩|⟨h20,h⟩:=spl h
 obtain⟨r21,h22,h⟩:=zC h
 have k:=oK 0 [] h20 (zPC h19) k
 obtain⟨h23,h⟩|⟨h23,h⟩:=spl h
 obtain⟨x24,h25,h⟩:=zC h
 obtain⟨r26,h27,h⟩:=zC h
 exact tH zEM 3 [] [0,1,3,4] [] [1,2,4,5,12,14,16,17,118,119,120] (oD (dR x12.recs)<|oD (dE rl)<|oD (dT p5)<|oD (dT p4)<|oD (dT r26.sub)<|z<|oC 1 [] (zEH h27)<|oA 2 (yN (o:=.no) h25)<|oA 2 (xM (o:=.no) h10)<|oA 1 (xM (o:=.no) h15)<|oK 1 [] h23 (zPC h22) k) (zWj _ _ _ _ _ _ _ _ _ _ _ _ _ _ h)
 cases h
 exact tF zEM 2 [0] (z<|oK 1 [] h23 (zPC h22) k)
 cases h
 exact tF zEM 2 [0] (z<|oK 0 [] h20 (zPC h19) k)
 cases h
 exact tF zEM 2 [0] (z<|oK 0 [] h8 (zPB h7) k)
 cases h
 exact tF zEM 2 [0] (z<|oK 2 [] h3 (zPB h2) o0),⟨(lz rfl),tv,tv,tv,⟨tv,dT _⟩,⟨tv,dT _⟩,tv⟩,(zA ⟨⟨tv,dE _⟩,⟨tv,dC _⟩,tv⟩ zB),⟨⟨tv,tv,dT _,tv⟩,tv,tv⟩,(zA ⟨dE _,dC _,tv⟩ zB)⟩
theorem zWi(l:List Ent)(i:Int)(h0:0≤i)(h1:i<l.length)(hk:(ent l i).kind=2):zR (evA l l.length 0) i=some (wX l i):=by
 unfold zR
 rw[if_pos h0,zNq l l.length 0 i.toNat (by omega),show ((0+i.toNat:Nat):Int)=i by omega,if_pos hk]
theorem zYU(l:List Ent)(t:Tm)(of b:Int):zJq (zEL l t of b):=by
 unfold zEL
 split
 ·rename_i h
  have hw:=rB (t:=t) (l:=(yM t).1) (y:=(yM t).2.1) (by rw[←h.1])
  have hs:=zO hw.2.2.2.2.1
  have hal:=tO _ hs.2.2
  refine⟨fun x hx=>yA (hw.2.2.2.2.2 x hx),fun x hx=>yA (yO hw.2.2.2.2.1 (List.mem_of_mem_drop hx)),?_,?_⟩
  ·show (yM t).1.length≤_
   omega
  ·show ((arT (yM t).2.1).drop _).length≤_
   rw[List.length_drop];omega
 ·exact⟨OkA.nil,OkA.nil,by simp,by simp⟩
theorem zNf(l:List Ent)(of:Int):∀(r:List Tm) (b:Int),∀x∈nA l of r b,zJq x
 | [],_,x,h=>nomatch h
 |a::r,b,x,h=>by
  rcases List.mem_cons.1 h with h|h
  ·rw[h];exact zYU l a of b
  ·exact zNf l of r (b+1) x h
def zGQ(l:List Ent)(i:Int)(a:List Tm)(x:Tm×Int):Prop:=
 x.1.Ok∧x.2≠8∧(x.2=0->(a.length:Int)=(ent l (ent l i).fam).fields.length∧0≤(ent l i).place∧(ent l i).place<a.length∧x.1=nth a (ent l i).place)
theorem zPF{N:ByteArray->Bool}(l:List Ent)(parts:List yS)(i:Int)(a:List Tm)(hE:wI N l)(ho:OkA a)(hl:a.length≤1073741824):Tot (fun q=>zJo q l parts i a) (zGQ l i a):=by
 simp only[zJo]
 have bad:∀e:Int,e≠8->e≠0->zGQ l i a (.mk 0 0 [],e):=fun e h8 h0=>⟨xN 0 0,h8,fun h=>absurd h h0⟩
 refine Tot.bind (P:=fun b=>b=isT l i 4) ((zLK l i 4).tot rfl) fun b hb=>Tot.ite (fun hT=>?_) fun _=>Tot.ret (bad _ (by decide) (by decide))
 rw[hT]at hb
 have hi:=uL hb.symm
 have hp:=(yW (hE.2 i hi.1 hi.2.1)).2.2.2.1 hi.2.2
 unfold zBS at hp
 simp only[Bool.and_eq_true]at hp
 have hw:=rC hp.1
 have h6:=hw.2.2.2.2.2
 unfold zDe at h6
 rw[if_pos hi.2.2]at h6
 refine Tot.pure (yI hi.1 hi.2.1) (Tot.pure (yI hw.1 (by omega)) (Tot.ite (fun _=>Tot.ret (bad _ (by decide) (by decide))) fun hn=>?_))
 have hn':(a.length:Int)=(ent l (ent l i).fam).fields.length:=by simpa using hn
 refine Tot.bind (P:=fun _=>True) ((cS a hl ho).tot trivial) fun _ _=>Tot.ite (fun _=>?_) fun _=>Tot.ret (bad _ (by decide) (by decide))
 have h7:(ent l i).place<a.length:=by omega
 have hx:=uN (l:=a) hw.2.2.2.2.1 h7
 exact Tot.pure hx (Tot.ret ⟨ho _ (sJ hw.2.2.2.2.1 h7),by simp,fun _=>⟨hn',hw.2.2.2.2.1,h7,rfl⟩⟩)
def jI(d lev:Int)(args own:List Tm)(pars:Nat):List tN->Nat->Tm->Tm
 | [],_,t=>t
 |r::rs,v,t=>jI d lev args own pars rs (v+1) (if r.is=true then .mk 5 0 [t,zWm (.mk 7 d [.mk 2 lev []]) args (args.take pars++own.take v) r (nth own v)]else t)
def zNe(l:List Ent)(d lev c:Int)(args own:List Tm):Tm:=
 jI d lev args own (ent l d).pars.toNat (wX l c).recs 0 (apT (nth args ((ent l d).pars+1+(ent l c).place)) own)
theorem zPG{N:ByteArray->Bool}(l:List Ent)(parts:List yS)(i p2:Int)(p4 p5:List Tm)(x:yS)(hE:wI N l)(h0:0≤i)(h1:i<l.length)(hk:(ent l i).kind=1)(hp:(ent l i).pars≤p4.length)(hl4:p4.length≤65535)(h5:p5.length=x.recs.length)(hl5:p5.length≤65535)
  (ho4:OkA p4) (ho5:OkA p5) (hx:∀r∈x.recs,zJq r):∀(r:List tN) (v:Nat) (e:Int) (t:Tm),x.recs.drop v=r->t.Ok->Tot (fun q=>nV q l parts i p2 p4 p5 x (v:Int) e t.k t.n t.sub)
   (fun y=>y.1.Ok∧(e≠8->y.2≠8)∧(y.2=0->e=0∧y.1=jI i p2 p4 p5 (ent l i).pars.toNat r v t∧zL y.1=true)):=by
 have hf:=vD ((yW (hE.2 i h0 h1)).2.1 hk)
 intro r
 induction r with
 |nil=>
  intro v e t hd ht
  refine Tot.succ ?_
  simp only[nV,tW]
  refine Tot.ite (fun h=>?_) fun _=>(zTq e t ht).bind fun r h=>Tot.ret ⟨h.1,h.2.1,fun h0=>?_⟩
  ·rw[zZ hd]at h;cases h
  ·have k:=h.2.2 h0
   exact⟨k.1,k.2.1,by show zL r.1=true;rw[k.2.1];exact k.2.2⟩
 |cons z r ih=>
  intro v e t hd ht
  have hlt:=yC hd
  have hz:z∈x.recs:=by
   have:z∈x.recs.drop v:=by rw[hd];simp
   exact List.mem_of_mem_drop this
  refine Tot.succ ?_
  simp only[nV,tW]
  refine Tot.ite (fun _=>?_) fun h=>?_
  ·refine Tot.pure (zV hd) (Tot.ite (fun hzi=>?_) fun hzi=>?_)
   ·refine Tot.pure (yI h0 h1) (Tot.pure (zCp (by omega) (by omega) hp) (Tot.pure (yD (by simp<;>omega)) (Tot.pure (zCp (by omega) (by omega) (by omega)) (Tot.pure (yD (by simp<;>omega)) ?_))))
    refine Tot.bind (P:=fun y=>y=Tm.mk 7 i [Tm.mk 2 p2 []]) (Evt.tot (r:=Tm.mk 7 i [Tm.mk 2 p2 []]) (Evt.mk fun _=>rfl) rfl) fun r44 h44=>?_
    subst h44
    have hnv:(v:Int)<p5.length:=by omega
    refine Tot.pure (uN (l:=p5) (n:=(v:Int)) (by omega) hnv) ?_
    refine(zDC e (.mk 7 i [.mk 2 p2 []]) p4 _ z (nth p5 v) (zYP (xN _ _)) ho4 (by omega) ?_ ?_ (hx z hz) (ho5 _ (sJ (by omega) hnv))).bind fun r48 h48=>?_
    ·exact(OkA.nil.app ((ho4.drop _).take _)).app ((ho5.drop _).take _)
    ·simp only[List.length_append,List.length_take,List.length_drop,List.length_nil];omega
    refine Tot.bind (P:=fun y=>y=Tm.mk 5 0 [t,r48.1]) ((zBs t r48.1).tot rfl) fun r50 h50=>?_
    subst h50
    rw[zU v (by omega)]
    refine(ih (v+1) r48.2 (.mk 5 0 [t,r48.1]) (zS hd) (gB ht h48.1)).mono fun y hy=>⟨hy.1,fun he=>hy.2.1 (h48.2.1 he),fun he=>?_⟩
    have k:=hy.2.2 he
    have k4:=h48.2.2 k.1
    refine⟨k4.1,?_,k.2.2⟩
    rw[k.2.1,k4.2,jI,if_pos hzi]
    simp
   ·rw[zU v (by omega)]
    refine(ih (v+1) e t (zS hd) ht).mono fun y hy=>⟨hy.1,hy.2.1,fun he=>?_⟩
    have k:=hy.2.2 he
    refine⟨k.1,?_,k.2.2⟩
    rw[k.2.1,jI,if_neg (by simpa using hzi)]
  ·rw[zY hd]at h;cases h
def zLL(l:List Ent)(d lev c:Int)(args own:List Tm)(x:Tm×Int):Prop:=
 x.1.Ok∧x.2≠8∧(x.2=0->(0≤lev∧lev≤7)∧isT l d 1=true∧isT l c 2=true∧(ent l c).fam=d∧(args.length:Int)=(ent l d).pars+1+(ent l d).cons.length∧own.length=(wX l c).args.length∧args.all zL=true∧own.all zL=true∧x.1=zNe l d lev c args own∧zL x.1=true)
theorem zTp{N:ByteArray->Bool}(l:List Ent)(i p2 c:Int)(p4 p5:List Tm)(hE:wI N l)(ho4:OkA p4)(ho5:OkA p5)(hl4:p4.length≤65535)(hl5:p5.length≤65535):Tot (fun q=>zJn q l (evA l l.length 0) i p2 c p4 p5) (zLL l i p2 c p4 p5):=by
 have bad:∀e:Int,e≠8->e≠0->zLL l i p2 c p4 p5 (.mk 0 0 [],e):=fun e h8 h0=>⟨xN 0 0,h8,fun h=>absurd h h0⟩
 simp only[zJn]
 refine Tot.bind (P:=fun b=>b=isT l i 1) ((zLK l i 1).tot rfl) fun b hb=>Tot.ite (fun hT=>?_) fun _=>Tot.ret (bad _ (by decide) (by decide))
 rw[hT]at hb
 have hi:=uL hb.symm
 refine Tot.ite (fun _=>Tot.ret (bad _ (by decide) (by decide))) fun hv0=>Tot.ite (fun _=>Tot.ret (bad _ (by decide) (by decide))) fun hv1=>?_
 have hv0':=of_decide_eq_false hv0
 have hv1':=of_decide_eq_false hv1
 refine Tot.bind (P:=fun b=>b=isT l c 2) ((zLK l c 2).tot rfl) fun b2 hb2=>Tot.ite (fun hT=>?_) fun _=>Tot.ret (bad _ (by decide) (by decide))
 rw[hT]at hb2
 have hc:=uL hb2.symm
 have hf:=vD ((yW (hE.2 i hi.1 hi.2.1)).2.1 hi.2.2)
 obtain⟨A,y,hw,hy,hA,hAp,hA24,p0,p1,f0,f1,fk,fp,fi,fs,hap,q0,q1⟩:=uK hE hc.1 hc.2.1 hc.2.2
 refine Tot.pure (yI hc.1 hc.2.1) (Tot.ite (fun _=>Tot.ret (bad _ (by decide) (by decide))) fun hn=>?_)
 have hfam:(ent l c).fam=i:=by simpa using hn
 refine Tot.pure (zWi l c hc.1 hc.2.1 hc.2.2) (Tot.pure (yI hi.1 hi.2.1) ?_)
 rw[hfam]at fp q1 fi fs
 rw[yK (x:=(ent l i).pars+1) (by omega) (by omega),yK (x:=(ent l i).pars+1+(ent l i).cons.length) (by omega) (by omega),yK (x:=(ent l i).pars+1+(ent l c).place) (by omega) (by omega)]
 refine Tot.ite (fun _=>Tot.ret (bad _ (by decide) (by decide))) fun hn4=>Tot.ite (fun _=>Tot.ret (bad _ (by decide) (by decide))) fun hn5=>?_
 have hn4':(p4.length:Int)=(ent l i).pars+1+(ent l i).cons.length:=by simpa using hn4
 have hn5':(p5.length:Int)=(wX l c).args.length:=by simpa using hn5
 refine Tot.bind (P:=fun b=>b=p4.all zL) ((cS p4 (by omega) ho4).tot rfl) fun b4 hb4=>Tot.ite (fun hs4=>?_) fun _=>Tot.ret (bad _ (by decide) (by decide))
 refine Tot.bind (P:=fun b=>b=p5.all zL) ((cS p5 (by omega) ho5).tot rfl) fun b5 hb5=>Tot.ite (fun hs5=>?_) fun _=>Tot.ret (bad _ (by decide) (by decide))
 have h7:(ent l i).pars+1+(ent l c).place<p4.length:=by omega
 refine Tot.pure (uN (l:=p4) (by omega) h7) (Tot.bind (P:=fun z=>z=apT (nth p4 ((ent l i).pars+1+(ent l c).place)) p5) ((pC _ p5 (by omega)).tot rfl) fun r26 h26=>?_)
 subst h26
 have hlen:(wX l c).recs.length=(wX l c).args.length:=by unfold wX;exact zBj l _ _ _
 refine(zPG l _ i p2 p4 p5 (wX l c) hE hi.1 hi.2.1 hi.2.2 (by omega) hl4 (by omega) hl5 ho4 ho5 (by unfold wX;exact zNf l _ _ _) _ 0 0 _ rfl (mJ _ _ (ho4 _ (sJ (by omega) h7)) ho5)).mono fun x hx=>⟨hx.1,hx.2.1 (by decide),fun h0=>?_⟩
 have k:=hx.2.2 h0
 exact⟨⟨by omega,by omega⟩,hb.symm,hb2.symm,hfam,hn4',by omega,by rw[←hb4];exact hs4,by rw[←hb5];exact hs5,k.2.1,k.2.2⟩
section
variable {P:Int->Int->Prop}
theorem zNd{k:Int}{l:List Tm}(h:∀a∈l,yU P a):∀a∈upI k l,yU P a:=fun a ha=>by
 obtain⟨x,hx,rfl⟩:=List.mem_map.1 ha
 exact zAo x 0 0 k (h x hx)
theorem zJm:∀m,∀a∈zAk m,yU P a
 |0,a,h=>nomatch h
 |m+1,a,h=>by
  rcases List.mem_cons.1 h with rfl|h
  ·exact mM (.inl rfl)
  ·exact zJm m a h
theorem zNc:∀m v,∀a∈vuT m v,yU P a
 |0,_,a,h=>nomatch h
 |m+1,v,a,h=>by
  rcases List.mem_cons.1 h with rfl|h
  ·exact mM (.inl rfl)
  ·exact zNc m (v+1) a h
theorem zJl{t:Tm}{own:Nat}{outer:List Tm}(h:yU P t)(ho:∀a∈outer,yU P a):yU P (zJs t own outer):=by
 refine zGM _ (fun a ha=>?_) t 0 h
 rcases List.mem_append.1 ha with ha|ha
 ·exact zNc _ _ a ha
 ·exact zNd ho a (List.mem_reverse.1 ha)
theorem zFA{outer:List Tm}(ho:∀a∈outer,yU P a):∀(l:List Tm) (v:Nat),(∀a∈l,yU P a)->∀a∈lE outer l v,yU P a
 | [],v,h,a,ha=>nomatch ha
 |t::l,v,h,a,ha=>by
  rcases List.mem_cons.1 ha with rfl|ha
  ·exact zJl (h t (by simp)) ho
  ·exact zFA ho l (v+1) (fun x hx=>h x (by simp[hx])) a ha
theorem zJk(h4:P 4 0):∀(l:List Tm) (t:Tm),(∀a∈l,yU P a)->yU P t->yU P (zDB l t)
 | [],t,_,ht=>ht
 |a::l,t,h,ht=>zGL (.inr h4) (h a (by simp)) (zJk h4 l t (fun x hx=>h x (by simp[hx])) ht)
theorem zTo{head:Tm}{args outer:List Tm}{r:tN}{a:Tm}(h4:P 4 0)(h5:P 5 0)(hh:yU P head)(hargs:∀a∈args,yU P a)(hout:∀a∈outer,yU P a)(hr:(∀t∈r.around,yU P t)∧∀t∈r.at',yU P t)(ha:yU P a):yU P (zWm head args outer r a):=by
 refine zJk h4 _ _ (zFA hout _ 0 hr.1) (zGL (.inr h5) ?_ ?_)
 ·refine kZ _ _ h5 (kZ _ _ h5 hh (zNd hargs)) fun x hx=>?_
  obtain⟨t,ht,rfl⟩:=List.mem_map.1 hx
  exact zJl (hr.2 t ht) hout
 ·exact kZ _ _ h5 (zAo a 0 0 _ ha) (zJm _)
theorem zGR{Q:Tm->Prop}{l:List Tm}{n:Int}(h:∀a∈l,Q a)(hz:Q zT):Q (nth l n):=by
 unfold nth
 cases e:l[n.toNat]? with
 |none=>exact hz
 |some x=>exact h x (List.mem_of_getElem? e)
theorem zDD{d lev:Int}{args own:List Tm}{pars:Nat}(h4:P 4 0)(h5:P 5 0)(h0:P 0 0)(h2:P 2 lev)(h7:P 7 d)(hargs:∀a∈args,yU P a)(hown:∀a∈own,yU P a) :
  ∀(rs:List tN) (v:Nat) (t:Tm),(∀r∈rs,(∀t∈r.around,yU P t)∧∀t∈r.at',yU P t)->yU P t->yU P (jI d lev args own pars rs v t)
 | [],v,t,_,ht=>ht
 |r::rs,v,t,hr,ht=>by
  rw[jI]
  refine zDD h4 h5 h0 h2 h7 hargs hown rs (v+1) _ (fun x hx=>hr x (by simp[hx])) ?_
  split
  ·refine zGL (.inr h5) ht (zTo h4 h5 (zYJ (.inr h7) (mM (.inr h2))) hargs ?_ (hr r (by simp)) (zGR hown (mM (.inr h0))))
   intro a ha
   rcases List.mem_append.1 ha with ha|ha
   ·exact hargs a (List.mem_of_mem_take ha)
   ·exact hown a (List.mem_of_mem_take ha)
  ·exact ht
theorem zPH{l:List Ent}{d lev c:Int}{args own:List Tm}(h4:P 4 0)(h5:P 5 0)(h0:P 0 0)(h2:P 2 lev)(h7:P 7 d)(hargs:∀a∈args,yU P a)(hown:∀a∈own,yU P a)(hr:∀r∈(wX l c).recs,(∀t∈r.around,yU P t)∧∀t∈r.at',yU P t):yU P (zNe l d lev c args own):=
 zDD h4 h5 h0 h2 h7 hargs hown _ 0 _ hr (kZ _ _ h5 (zGR hargs (mM (.inr h0))) hown)
theorem fK{t:Tm}{l:List Tm}{y:Tm}(h:yM t=(l,y,0)):yL t=true∧pG l.length t=some (l,y):=by
 have hw:=rB h
 have hg:=(zO hw.1).2.2
 unfold yM vR at h
 rw[if_pos hw.1,if_neg (by omega),if_neg (by omega)]at h
 rw[show (((min (vS t) 25:Nat):Int)).toNat=l.length by omega]at h
 cases e:pG l.length t with
 |none=>rw[e]at h;simp[zGE]at h
 |some r=>
  rw[e]at h
  simp only[zGE,List.nil_append,Prod.mk.injEq,and_true]at h
  exact⟨hg,by rw[←h.1,←h.2]⟩
theorem zTn{l:List Ent}{t:Tm}{of b:Int}(h:yU P t):(∀x∈(zEL l t of b).around,yU P x)∧∀x∈(zEL l t of b).at',yU P x:=by
 unfold zEL
 split
 ·rename_i a
  have hw:=fK (t:=t) (l:=(yM t).1) (y:=(yM t).2.1) (by rw[←a.1])
  have hs:=zDb _ _ _ hw.1 hw.2 h
  have hy:=(zO (rB (t:=t) (l:=(yM t).1) (y:=(yM t).2.1) (by rw[←a.1])).2.2.2.2.1).2.2
  exact⟨hs.2,fun x hx=>(jA _ hy hs.1).2 x (List.mem_of_mem_drop hx)⟩
 ·exact⟨fun x hx=>(nomatch hx),fun x hx=>(nomatch hx)⟩
theorem zFB{l:List Ent}{of:Int}:∀(r:List Tm) (b:Int),(∀t∈r,yU P t)->∀x∈nA l of r b,(∀t∈x.around,yU P t)∧∀t∈x.at',yU P t
 | [],b,h,x,hx=>nomatch hx
 |a::r,b,h,x,hx=>by
  rcases List.mem_cons.1 hx with hx|hx
  ·rw[hx];exact zTn (h a (by simp))
  ·exact zFB r (b+1) (fun t ht=>h t (by simp[ht])) x hx
theorem zLM{l:List Ent}{i:Int}(hw:(yM (ent l i).type).2.2=0)(h:yU P (ent l i).type):∀r∈(wX l i).recs,(∀t∈r.around,yU P t)∧∀t∈r.at',yU P t:=by
 have hs:=fK (t:=(ent l i).type) (l:=(yM (ent l i).type).1) (y:=(yM (ent l i).type).2.1) (by rw[←hw])
 have ha:=zDb _ _ _ hs.1 hs.2 h
 unfold wX
 exact zFB _ _ fun t ht=>ha.2 t (List.mem_of_mem_drop ht)
end
theorem zTm:∀(m v i:Nat) (h:i<(vuT m v).length),(vuT m v)[i] = .mk 1 ((v+i:Nat):Int) []
 |0,v,i,h=>by simp[vuT]at h
 |m+1,v,0,h=>by simp[vuT]
 |m+1,v,i+1,h=>by
  have:=zTm m (v+1) i (by simpa[vuT]using h)
  simp only[vuT,List.getElem_cons_succ]
  rw[this,show v+1+i=v+(i+1) by omega]
theorem zTl:∀(m:Nat) (k j:Int),(m:Int)≤k->∀a∈zAk m,¬j∈lvT a k
 |0,k,j,_,a,h=>nomatch h
 |m+1,k,j,hk,a,h=>by
  rcases List.mem_cons.1 h with rfl|h
  ·intro hj;have:=sO.1 hj;omega
  ·exact zTl m k j (by omega) a h
theorem zNb:∀(l:List Tm) (t:Tm) (d j:Int),j∈lvT (zDB l t) d->(∃(i:Nat) (h:i<l.length),j∈lvT l[i] (d+i))∨j∈lvT t (d+l.length)
 | [],t,d,j,h=>.inr (by simpa[zDB]using h)
 |a::l,t,d,j,h=>by
  rcases zST.1 h with h|h
  ·exact .inl ⟨0,by simp,by simpa using h⟩
  ·rcases zNb l t (d+1) j h with⟨i,hi,h⟩|h
   ·refine .inl ⟨i+1,by simp;omega,?_⟩
    rw[show d+((i+1:Nat):Int)=d+1+i by omega]
    simpa using h
   ·refine .inr ?_
    rw[show d+((a::l).length:Int)=d+1+l.length by simp;omega]
    exact h
theorem zTk{t:Tm}{own:Nat}{outer:List Tm}{j:Int}(hs:∀i∈lvT t own,i<outer.length)(h:j∈lvT (zJs t own outer) own):∃a∈outer,j∈lvT a 0:=by
 have hj:=zDA _ _ _ h
 have h0:j+own∈lvT (zJs t own outer) 0:=((lD _ 0 own j (by omega)).1 (by rwa[Int.zero_add])).2
 obtain⟨i,hi,h1⟩:=zSQ _ t 0 _ (Int.le_refl 0) h0
 have hi0:=zDA _ _ _ hi
 have hb:i<own+outer.length:=by
  by_cases hio:(own:Int)≤i
  ·have:=hs (i-own) (by
    have:=(lD t 0 own (i-own) (by omega)).2 ⟨by omega,by rwa[show i-own+own=i by omega]⟩
    rwa[Int.zero_add]at this)
   omega
  ·omega
 have hlen:(vuT own 0++(upI own outer).reverse).length=own+outer.length:=by simp[zAj,upI]
 rcases h1 with h1|⟨h1,h2⟩
 ·rw[hlen]at h1;omega
 ·by_cases hio:(own:Int)≤i
  ·rw[List.getElem_append_right (by rw[zAj];omega)]at h2
   have hm:=List.getElem_mem (l:=(upI own outer).reverse) (n:=i.toNat-(vuT own 0).length) (by rw[hlen]at h1;simp[zAj,upI];omega)
   rw[List.mem_reverse]at hm
   obtain⟨a,ha,e⟩:=List.mem_map.1 hm
   rw[←e]at h2
   obtain⟨x,hx,e2⟩:=zXD a 0 0 own _ (by omega) h2
   have:=zDA _ _ _ hx
   rw[if_neg (by omega)]at e2
   exact⟨a,ha,by rwa[show j=x by omega]⟩
  ·rw[List.getElem_append_left (by rw[zAj];omega),zTm]at h2
   have:=sO.1 h2
   omega
theorem zDE(outer:List Tm):∀(l:List Tm) (v:Nat),(lE outer l v).length=l.length
 | [],_=>rfl
 |t::l,v=>congrArg (· + 1) (zDE outer l (v+1))
theorem zJj(outer:List Tm):∀(l:List Tm) (v i:Nat) (h:i<(lE outer l v).length) (h':i<l.length),(lE outer l v)[i]=zJs l[i] (v+i) outer
 | [],v,i,h,h'=>by simp at h'
 |t::l,v,0,h,h'=>by simp[lE]
 |t::l,v,i+1,h,h'=>by
  simp only[lE,List.getElem_cons_succ]
  rw[zJj outer l (v+1) i _ (by simpa using h'),show v+1+i=v+(i+1) by omega]
def zJi(r:tN)(n:Nat):Prop:=(∀(i:Nat) (h:i<r.around.length),∀j∈lvT r.around[i] i,j<n)∧∀t∈r.at',∀j∈lvT t r.around.length,j<n
theorem zYV{head:Tm}{args outer:List Tm}{r:tN}{a:Tm}{j:Int}(hr:zJi r outer.length)(hh:∀d j,¬j∈lvT head d)(h:j∈lvT (zWm head args outer r a) 0):(∃x∈args,j∈lvT x 0)∨(∃x∈outer,j∈lvT x 0)∨j∈lvT a 0:=by
 rcases zNb _ _ 0 j h with⟨i,hi,h⟩|h
 ·rw[zDE]at hi
  rw[zJj outer r.around 0 i _ hi,Nat.zero_add,Int.zero_add]at h
  exact .inr (.inl (zTk (hr.1 i hi) h))
 ·rw[zDE,Int.zero_add]at h
  rcases zBh.1 h with h|h
  ·rcases(zFd _ _ _ _).1 h with h|⟨x,hx,h⟩
   ·rcases(zFd _ _ _ _).1 h with h|⟨x,hx,h⟩
    ·exact absurd h (hh _ _)
    ·obtain⟨y,hy,rfl⟩:=List.mem_map.1 hx
     exact .inl ⟨y,hy,zJy y 0 (r.around.length:Int) j (by omega) (by rwa[Int.zero_add])⟩
   ·obtain⟨y,hy,rfl⟩:=List.mem_map.1 hx
    exact .inr (.inl (zTk (hr.2 y hy) h))
  ·rcases(zFd _ _ _ _).1 h with h|⟨x,hx,h⟩
   ·exact .inr (.inr (zJy a 0 (r.around.length:Int) j (by omega) (by rwa[Int.zero_add])))
   ·exact absurd h (zTl _ _ _ (Int.le_refl _) x hx)
theorem zTj{l:List Tm}{n d j:Int}(h:j∈lvT (nth l n) d):∃a∈l,j∈lvT a d:=by
 unfold nth at h
 cases e:l[n.toNat]? with
 |none=>rw[e]at h;exact absurd h (zNk (by decide))
 |some x=>rw[e]at h;exact⟨x,List.mem_of_getElem? e,h⟩
theorem zJh{d lev:Int}{args own:List Tm}{pars:Nat}{j:Int}(hp:pars≤args.length):∀(rs:List tN) (v:Nat) (t:Tm),v+rs.length≤own.length->(∀(i:Nat) (h:i<rs.length),zJi rs[i] (pars+(v+i)))->j∈lvT (jI d lev args own pars rs v t) 0->j∈lvT t 0∨(∃x∈args,j∈lvT x 0)∨∃x∈own,j∈lvT x 0
 | [],v,t,_,_,h=>.inl h
 |r::rs,v,t,hl,hr,h=>by
  rw[List.length_cons]at hl
  rw[jI]at h
  rcases zJh hp rs (v+1) _ (by omega) (fun i hi=>by
   have:=hr (i+1) (by simp;omega)
   rw[show v+1+i=v+(i+1) by omega]
   simpa using this) h with h|h|h
  ·split at h
   ·rcases zBh.1 h with h|h
    ·exact .inl h
    ·have hsc:=hr 0 (by simp)
     rcases zYV (j:=j) (by
      rw[List.length_append,List.length_take,List.length_take,show min pars args.length+min v own.length=pars+(v+0) by omega]
      simpa using hsc) (fun d j=>yBx (by decide)) h with h|⟨x,hx,h⟩|h
     ·exact .inr (.inl h)
     ·rcases List.mem_append.1 hx with hx|hx
      ·exact .inr (.inl ⟨x,List.mem_of_mem_take hx,h⟩)
      ·exact .inr (.inr ⟨x,List.mem_of_mem_take hx,h⟩)
     ·exact .inr (.inr (zTj h))
   ·exact .inl h
  ·exact .inr (.inl h)
  ·exact .inr (.inr h)
theorem zYW{l:List Ent}{t:Tm}{of b:Int}{n:Nat}(h:∀j,j∈lvT t 0->j<n):zJi (zEL l t of b) n:=by
 unfold zEL
 split
 ·rename_i a
  have hw:=fK (t:=t) (l:=(yM t).1) (y:=(yM t).2.1) (by rw[←a.1])
  have hy:=(zO (rB (t:=t) (l:=(yM t).1) (y:=(yM t).2.1) (by rw[←a.1])).2.2.2.2.1).2.2
  refine⟨fun i hi j hj=>?_,fun x hx j hj=>?_⟩
  ·exact h j ((zGN _ _ _ hw.1 hw.2 0 j).2 i hi (by rwa[Int.zero_add]))
  ·exact h j ((zGN _ _ _ hw.1 hw.2 0 j).1 (by rw[Int.zero_add];exact(zAn _ hy _ j).2 x (List.mem_of_mem_drop hx) hj))
 ·exact⟨fun i hi=>by simp at hi,fun x hx=>(nomatch hx)⟩
theorem zNa{l:List Ent}{of:Int}:∀(r:List Tm) (B:Int) (b:Nat),(∀(i:Nat) (h:i<r.length),∀j,j∈lvT r[i] 0->j<(b+i:Nat))->∀(i:Nat) (h:i<(nA l of r B).length),zJi (nA l of r B)[i] (b+i)
 | [],B,b,h,i,hi=>by simp[nA]at hi
 |a::r,B,b,h,0,hi=>by
  simp only[nA,List.getElem_cons_zero]
  exact zYW fun j hj=>h 0 (by simp) j (by simpa using hj)
 |a::r,B,b,h,i+1,hi=>by
  simp only[nA,List.getElem_cons_succ]
  have:=zNa (l:=l) (of:=of) r (B+1) (b+1) (fun i hi j hj=>by
   have:=h (i+1) (by simp;omega) j (by simpa using hj)
   omega) i (by simpa[nA]using hi)
  rw[show b+(i+1)=b+1+i by omega]
  exact this
theorem zTi{N:ByteArray->Bool}{l:List Ent}{i:Int}(hE:wI N l)(h0:0≤i)(h1:i<l.length)(hk:(ent l i).kind=2):∀(v:Nat) (h:v<(wX l i).recs.length),zJi (wX l i).recs[v] ((ent l i).pars.toNat+v):=by
 obtain⟨A,y,hw,hy,hA,hAp,hA24,p0,p1,-⟩:=uK hE h0 h1 hk
 have hc:=(yW (hE.2 i h0 h1)).1
 have hs:=fK hw
 have hsc:∀(n:Nat) (h:n<(A.drop (ent l i).pars.toNat).length),∀j,j∈lvT (A.drop (ent l i).pars.toNat)[n] 0->j<((ent l i).pars.toNat+n:Nat):=fun n h j hj=>by
  rw[List.getElem_drop]at hj
  have hn:(ent l i).pars.toNat+n<A.length:=by simp at h;omega
  have hj0:=zDA _ _ _ hj
  rcases Int.lt_or_le j (((ent l i).pars.toNat+n:Nat):Int)with hlt|hge
  ·exact hlt
  ·have h2:j-(((ent l i).pars.toNat+n:Nat):Int)∈lvT A[(ent l i).pars.toNat+n] (0+(((ent l i).pars.toNat+n:Nat):Int)):=(lD _ 0 _ _ (by omega)).2 ⟨by omega,by rwa[show j-(((ent l i).pars.toNat+n:Nat):Int)+(((ent l i).pars.toNat+n:Nat):Int)=j by omega]⟩
   have h3:=(zGN _ _ _ hs.1 hs.2 0 _).2 _ hn h2
   exact absurd h3 (zFc hc 0 _ (Int.le_refl 0))
 have hr:=zNa (l:=l) (of:=(ent l i).fam) (A.drop (ent l i).pars.toNat) (ent l i).pars (ent l i).pars.toNat hsc
 have e:(wX l i).recs=nA l (ent l i).fam (A.drop (ent l i).pars.toNat) (ent l i).pars:=by
  unfold wX
  rw[hw]
 intro v h
 have:=hr v (by rw[←e];exact h)
 simpa[e]using this
theorem zWh{N:ByteArray->Bool}{l:List Ent}{d lev c:Int}{args own:List Tm}{j:Int}(hE:wI N l)(hc:isT l c 2=true)(hf:(ent l c).fam=d)(ha:(args.length:Int)=(ent l d).pars+1+(ent l d).cons.length)(ho:own.length=(wX l c).args.length)(h:j∈lvT (zNe l d lev c args own) 0):(∃x∈args,j∈lvT x 0)∨∃x∈own,j∈lvT x 0:=by
 have hi:=uL hc
 obtain⟨A,y,hw,hy,hA,hAp,hA24,p0,p1,f0,f1,fk,fp,-⟩:=uK hE hi.1 hi.2.1 hi.2.2
 rw[hf]at fp
 have hlen:(wX l c).recs.length=(wX l c).args.length:=by unfold wX;exact zBj l _ _ _
 have hsc:=zTi hE hi.1 hi.2.1 hi.2.2
 rcases zJh (pars:=(ent l d).pars.toNat) (by omega) _ 0 _ (by omega) (fun i hi=>by
  have:=hsc i hi
  rwa[fp,show (ent l d).pars.toNat+i=(ent l d).pars.toNat+(0+i) by omega]at this) h with h|h
 ·rcases(zFd _ _ _ _).1 h with h|h
  ·exact .inl (zTj h)
  ·exact .inr h
 ·exact h
def zAi(qq:Nat)(q0 q1 p1:Int):Option (Int×Int):=
 some ((w64 (q0+p1)),(w64 (q0+p1)))
theorem zTh{qq q0 q1 p1 r}(h:zAi qq q0 q1 p1=some r):Ct 173 [.cells [ai q0,ai q1]] [.mp 0 0,ai p1] (ai r.1) [.cells [ai r.2,ai q1]] 0:=⟨by
 unfold zAi at h
 cases h
 exact tF ⟨Tryz.func173,rfl⟩ 1 [0] (o0),⟨(lz rfl),tv,tv⟩,(zA ⟨tv,tv,tv⟩ zB),tv,(zA ⟨tv,tv,tv⟩ zB)⟩
def zAh(qq:Nat)(q0 q1 p1:Int):Option (Int×Int):=
 some ((w64 (q1+p1)),(w64 (q1+p1)))
theorem zTg{qq q0 q1 p1 r}(h:zAh qq q0 q1 p1=some r):Ct 173 [.cells [ai q0,ai q1]] [.mp 0 1,ai p1] (ai r.1) [.cells [ai q0,ai r.2]] 0:=⟨by
 unfold zAh at h
 cases h
 exact tF ⟨Tryz.func173,rfl⟩ 1 [0] (o0),⟨(lz rfl),tv,tv⟩,(zA ⟨tv,tv,tv⟩ zB),tv,(zA ⟨tv,tv,tv⟩ zB)⟩
def zCo(qq:Nat)(q0 q1:Int):Option Int:=
 some q0
theorem zWg{qq q0 q1 r}(h:zCo qq q0 q1=some r):Ct 86 [.cells [ai q0,ai q1]] [.mp 0 0] (ai r) [.cells [ai q0,ai q1]] 0:=⟨by
 unfold zCo at h
 obtain rfl:=sj h
 exact tF ⟨Tryz.func86,rfl⟩ 1 [0] (o0),⟨(lz rfl),tv⟩,(zA ⟨tv,tv,tv⟩ zB),tv,(zA ⟨tv,tv,tv⟩ zB)⟩
def zWf(qq:Nat)(fl fu p1:Int):Option (Int×Int×Int):=
 if decide (p1<0)then
 some (8,fl,fu)
 else
 zCo qq fl fu>>=fun r2=>
 if decide (p1>r2)then
 some (8,fl,fu)
 else
 zAi qq fl fu (w64 (0-p1))>>=fun r5=>
 zAh qq r5.2 fu p1>>=fun r7=>
 some (0,r5.2,r7.2)
theorem zYX:Qf 135 Tryz.f135:=⟨Tryz.func135,rfl⟩
theorem yCU{qq fl fu p1 r}(h:zWf qq fl fu p1=some r):Ct 135 [.cells [ai fl,ai fu]] [.mp 0 0,ai p1] (ai r.1) [.cells [ai r.2.1,ai r.2.2]] 0:=⟨by
 unfold zWf at h
 obtain⟨h1,h⟩|⟨h1,h⟩:=spl h
 cases h
 exact tF zYX 0 [0] (oB 1 h1 o0)
 obtain⟨r2,h3,h⟩:=zC h
 have k:=oC 0 [0] (zWg h3)<|oB 1 h1 o0
 obtain⟨h4,h⟩|⟨h4,h⟩:=spl h
 cases h
 exact tF zYX 0 [0] (oB 0 h4 k)
 obtain⟨r5,h6,h⟩:=zC h
 obtain⟨r7,h8,h⟩:=zC h
 cases h
 exact tF zYX 0 [0] (oC 0 [0] (zTg h8)<|oC 1 [0] (zTh h6)<|oB 0 h4 k),⟨(lz rfl),tv,tv⟩,(zA ⟨tv,tv,tv⟩ zB),tv,(zA ⟨tv,tv,tv⟩ zB)⟩
def zGS(qq:Nat)(M:xE)(p1:Tm):Option Int:=
 if p1.k != 6 then
 some 0
 else
 if decide (p1.n≥(M.l.length:Int))then
 some 0
 else
 zR M.l p1.n>>=fun x3=>
 some x3.kind
theorem zYY:Qf 209 Tryz.f209:=⟨Tryz.func209,rfl⟩
theorem zTf{qq M p1 r}(h:zGS qq M p1=some r):Ct 209 [mB M 1,mR M] [.mp 0 0,tmA p1] (ai r) [mB M 1,mR M] 0:=⟨by
 unfold zGS at h
 obtain⟨h1,h⟩|⟨h1,h⟩:=spl h
 obtain rfl:=sj h
 exact tF zYY 0 [0,1] (oDM M<|oB 1 h1 o0)
 have k:=oB 1 h1 o0
 obtain⟨h2,h⟩|⟨h2,h⟩:=spl h
 obtain rfl:=sj h
 exact tF zYY 0 [0,1] (oDM M<|oB 3 h2 k)
 obtain⟨x3,h4,h⟩:=zC h
 obtain rfl:=sj h
 exact tF zYY 1 [0,1] (oDM M<|oA 2 (xM (o:=.no) h4)<|oB 3 h2 k),⟨(lz rfl),⟨tv,tv,⟨tv,dT _⟩,tv⟩,tv⟩,(fMa (lz rfl) zB),tv,(fMf (lz rfl) zB)⟩
def zBg(qq:Nat)(p0:Tm):Option (Tm×Int):=
 e52 qq p0>>=fun r1=>
 if r1 then
 some (p0,0)
 else
 some ((Tm.mk 0 0 []),2)
theorem yBs:Qf 212 Tryz.f212:=⟨Tryz.func212,rfl⟩
theorem zLN{qq p0 r}(h:zBg qq p0=some r):Ct 212 [] [tmA p0] (.tup [tmA r.1,ai r.2]) [] 0:=⟨by
 unfold zBg at h
 obtain⟨r1,h2,h⟩:=zC h
 obtain⟨h3,h⟩|⟨h3,h⟩:=spl h
 cases h
 exact tF yBs 3 [] (oD (dT p0.sub)<|oK 1 [] h3 (c52 h2) o0)
 cases h
 exact tF yBs 2 [] (oD (dT ([]:List Tm))<|oK 1 [] h3 (c52 h2) o0),⟨⟨tv,tv,⟨tv,dT _⟩,tv⟩,tv⟩,zB,⟨⟨tv,tv,dT _,tv⟩,tv,tv⟩,zB⟩
def zLO(qq:Nat)(M:xE)(p1:Tm):Option (Int×List Tm×Bool):=
 zDs qq p1>>=fun r1=>
 zGS qq M r1.1>>=fun r3=>
 if r3 != 2 then
 some (0,[],false)
 else
 zR M.own r1.1.n>>=fun x6=>
 if (r1.2.length:Int) != x6 then
 some (0,[],false)
 else
 some (r1.1.n,r1.2,true)
theorem zYZ:Qf 213 Tryz.f213:=⟨Tryz.func213,rfl⟩
theorem zZz{qq M p1 r}(h:zLO qq M p1=some r):Ct 213 [mB M 1,mR M] [.mp 0 0,tmA p1] (.tup [ai r.1,.sl (zJ zF r.2.1) r.2.1.length .no,ab r.2.2]) [mB M 1,mR M] 0:=⟨by
 unfold zLO at h
 obtain⟨r1,h2,h⟩:=zC h
 obtain⟨r3,h4,h⟩:=zC h
 have k:=oC 4 [0,1] (zTf h4)<|oC 1 [] (zLl h2) o0
 obtain⟨h5,h⟩|⟨h5,h⟩:=spl h
 cases h
 exact tF zYZ 0 [0,1] (oD (dT ([]:List Tm))<|oDM M<|oB 0 h5 k)
 obtain⟨x6,h7,h⟩:=zC h
 have k:=oA 3 (pA (o:=.no) h7)<|oB 0 h5 k
 obtain⟨h8,h⟩|⟨h8,h⟩:=spl h
 cases h
 exact tF zYZ 0 [0,1] (oD (dT ([]:List Tm))<|oDM M<|oB 1 h8 k)
 cases h
 exact tF zYZ 1 [0,1] (oD (dT r1.2)<|oDM M<|oB 1 h8 k),⟨(lz rfl),⟨tv,tv,⟨tv,dT _⟩,tv⟩,tv⟩,(fMa (lz rfl) zB),⟨tv,dT _,tv,tv⟩,(fMf (lz rfl) zB)⟩
def e98(qq:Nat)(fl fu:Int):Option (Int×Int×Int):=
 zWf qq fl fu 1>>=fun r1=>
 some (r1.1,r1.2.1,r1.2.2)
theorem c98{qq fl fu r}(h:e98 qq fl fu=some r):Ct 98 [.cells [ai fl,ai fu]] [.mp 0 0] (ai r.1) [.cells [ai r.2.1,ai r.2.2]] 0:=⟨by
 unfold e98 at h
 obtain⟨r1,h2,h⟩:=zC h
 cases h
 exact tF ⟨Tryz.func98,rfl⟩ 0 [0] (oC 0 [0] (yCU h2) o0),⟨(lz rfl),tv⟩,(zA ⟨tv,tv,tv⟩ zB),tv,(zA ⟨tv,tv,tv⟩ zB)⟩
def yBr{ρ:Type}(f:Int->Int->Nat->Option ρ)(er:ρ->Int)(R:Int->Int->ρ)(k:Int):Prop:=
 (∀L U,k≤L->0≤U->L+U≤1099511627776->Evt (f L U) (R (L-k) (U+k)))∧(∀L U,0≤L->L<k->0≤U->L+U≤1099511627776->∃r,Evt (f L U) r∧er r=8)
def zZy{ρ:Type}(f:Int->Int->Nat->Option ρ)(er:ρ->Int)(l:Int):Prop:=∀U,0≤U->l+U≤1099511627776->∃r,Evt (f l U) r∧er r=8
def Ou{ρ:Type}(f:Int->Int->Nat->Option ρ)(er:ρ->Int)(Q:(Int->Int->ρ)->Int->Prop)(S:Prop)(l:Int):Prop:=
 (∃R k,0≤k∧k≤l∧Q R k∧yBr f er R k)∨(zZy f er l∧S)
section
variable {ρ σ τ:Type} {er:ρ->Int} {er':σ->Int} {Q:(Int->Int->ρ)->Int->Prop} {Q':(Int->Int->σ)->Int->Prop} {S S':Prop} {l:Int}
theorem Ou.imp{f g:Int->Int->Nat->Option ρ}(h:Ou f er Q S l)(k:∀L U r,Evt (f L U) r->Evt (g L U) r):Ou g er Q S l:=by
 rcases h with⟨R,n,h0,h1,h2,h3,h4⟩|⟨h,s⟩
 ·exact .inl ⟨R,n,h0,h1,h2,fun L U a b c=>k _ _ _ (h3 L U a b c),fun L U a b c d=>by obtain⟨r,x,y⟩:=h4 L U a b c d;exact⟨r,k _ _ _ x,y⟩⟩
 ·exact .inr ⟨fun U a b=>by obtain⟨r,x,y⟩:=h U a b;exact⟨r,k _ _ _ x,y⟩,s⟩
theorem Ou.mono{f:Int->Int->Nat->Option ρ}{Q2:(Int->Int->ρ)->Int->Prop}(h:Ou f er Q S l)(k:∀R n,0≤n->n≤l->Q R n->Q2 R n)(hs:S->S'):Ou f er Q2 S' l:=by
 rcases h with⟨R,n,h0,h1,h2,h3⟩|⟨h,s⟩
 ·exact .inl ⟨R,n,h0,h1,k R n h0 h1 h2,h3⟩
 ·exact .inr ⟨h,hs s⟩
theorem Ou.succ{f:Int->Int->Nat->Option ρ}(h:Ou (fun L U q=>f L U (q+1)) er Q S l):Ou f er Q S l:=h.imp fun _ _ _ h=>h.succ
theorem Ou.pure{x:Option τ}{a:τ}{c:Int->Int->Nat->τ->Option ρ}(h:x=some a)(g:Ou (fun L U q=>c L U q a) er Q S l):Ou (fun L U q=>x>>=c L U q) er Q S l:=g.imp fun _ _ _ k=>Evt.pure h k
theorem Ou.evt{x:Nat->Option τ}{a:τ}{c:Int->Int->Nat->τ->Option ρ}(h:Evt x a)(g:Ou (fun L U q=>c L U q a) er Q S l):Ou (fun L U q=>x q>>=c L U q) er Q S l:=g.imp fun _ _ _ k=>Evt.bind h k
theorem Ou.ite{b:Bool}{f g:Int->Int->Nat->Option ρ}(h:b=true->Ou f er Q S l)(k:b=false->Ou g er Q S l):Ou (fun L U q=>if b=true then f L U q else g L U q) er Q S l:=by
 cases b with
 |true=>exact(h rfl).imp fun _ _ _ x=>Evt.ifT rfl x
 |false=>exact(k rfl).imp fun _ _ _ x=>Evt.ifF rfl x
theorem Ou.ifT{b:Bool}{f g:Int->Int->Nat->Option ρ}(h:b=true)(k:Ou f er Q S l):Ou (fun L U q=>if b=true then f L U q else g L U q) er Q S l:=Ou.ite (fun _=>k) fun h'=>by rw[h]at h';cases h'
theorem Ou.ifF{b:Bool}{f g:Int->Int->Nat->Option ρ}(h:b=false)(k:Ou g er Q S l):Ou (fun L U q=>if b=true then f L U q else g L U q) er Q S l:=Ou.ite (fun h'=>by rw[h]at h';cases h') fun _=>k
theorem Ou.ret{R:Int->Int->ρ}(h:0≤l)(k:Q R 0):Ou (fun L U _=>some (R L U)) er Q S l:=
 .inl ⟨R,0,by omega,h,k,fun L U _ _ _=>by rw[show L-0=L by omega,show U+0=U by omega];exact Evt.ret,fun L U _ _=>by omega⟩
theorem Ou.bind{f:Int->Int->Nat->Option ρ}{c:Nat->ρ->Option σ}(h:Ou f er Q S l)(hs:S->S')(he:∀r,er r=8->∃r',Evt (fun q=>c q r) r'∧er' r'=8)
  (hg:∀R k,0≤k->k≤l->Q R k->Ou (fun L U q=>c q (R L U)) er' (fun R' n=>Q' R' (k+n)) S' (l-k)):Ou (fun L U q=>f L U q>>=c q) er' Q' S' l:=by
 rcases h with⟨R,k,h0,h1,h2,h3,h4⟩|⟨h,s⟩
 ·rcases hg R k h0 h1 h2 with⟨R',n,g0,g1,g2,g3,g4⟩|⟨g,s⟩
  ·refine .inl ⟨R',k+n,by omega,by omega,g2,fun L U a b c=>?_,fun L U a b c d=>?_⟩
   ·have:=g3 (L-k) (U+k) (by omega) (by omega) (by omega)
    rw[show L-(k+n)=L-k-n by omega,show U+(k+n)=U+k+n by omega]
    exact(h3 L U (by omega) b c).bind this
   ·by_cases e:L<k
    ·obtain⟨r,x,y⟩:=h4 L U a e c d
     obtain⟨r',x',y'⟩:=he r y
     exact⟨r',x.bind x',y'⟩
    ·obtain⟨r',x',y'⟩:=g4 (L-k) (U+k) (by omega) (by omega) (by omega) (by omega)
     exact⟨r',(h3 L U (by omega) c d).bind x',y'⟩
  ·refine .inr ⟨fun U a b=>?_,s⟩
   obtain⟨r',x',y'⟩:=g (U+k) (by omega) (by omega)
   exact⟨r',(h3 l U h1 a b).bind x',y'⟩
 ·refine .inr ⟨fun U a b=>?_,hs s⟩
  obtain⟨r,x,y⟩:=h U a b
  obtain⟨r',x',y'⟩:=he r y
  exact⟨r',x.bind x',y'⟩
end
theorem zAg(L U:Int)(h0:0≤L)(h1:0≤U)(h2:L+U≤1099511627776):Evt (fun q=>e98 q L U) (if 1≤L then(0,L-1,U+1)else(8,L,U)):=by
 simp only[e98,zWf,zCo,zAi,zAh]
 refine Evt.bind (a:=if 1≤L then(0,L-1,U+1)else(8,L,U)) ?_ Evt.ret
 refine Evt.ifF (by decide) (Evt.pure rfl ?_)
 by_cases h:1≤L
 ·rw[if_pos h]
  refine Evt.ifF (decide_eq_false (by omega)) (Evt.pure rfl (Evt.pure rfl (Evt.ret.eq ?_)))
  have e:w64 (0-1) = -1:=by decide
  rw[e,yK (x:=U+1) (by omega) (by omega)]
  show ((0:Int),w64 (L + -1),U+1)=_
  rw[yK (by omega) (by omega)];rfl
 ·rw[if_neg h]
  exact Evt.ifT (decide_eq_true (by omega)) Evt.ret
theorem zWe(l:Int)(h:0≤l):Ou (fun L U q=>e98 q L U) (fun r=>r.1) (fun R k=>k=1∧R=fun L U=>(0,L,U)) (l<1) l:=by
 by_cases h1:1≤l
 ·refine .inl ⟨fun L U=>(0,L,U),1,by omega,h1,⟨rfl,rfl⟩,fun L U a b c=>(zAg L U (by omega) b c).eq (if_pos a),fun L U a b c d=>⟨_,zAg L U a c d,?_⟩⟩
  rw[if_neg (by omega)]
 ·refine .inr ⟨fun U a b=>⟨_,zAg l U h a b,?_⟩,by omega⟩
  rw[if_neg h1]
def tZ(l:List Ent)(t:Tm):Int:=if t.k=6 then(if t.n<l.length then(ent l t.n).kind else 0)else 0
theorem gC(l:List Ent)(t:Tm)(h:0≤t.n):Evt (fun q=>zGS q (wC l) t) (tZ l t):=by
 simp only[zGS,wC]
 unfold tZ
 by_cases k:t.k=6
 ·rw[if_pos k]
  refine Evt.ifF (by simp[k]) ?_
  by_cases n:t.n<l.length
  ·rw[if_pos n];exact Evt.ifF (decide_eq_false (by omega)) (Evt.pure (yI h n) Evt.ret)
  ·rw[if_neg n];exact Evt.ifT (decide_eq_true (by omega)) Evt.ret
 ·rw[if_neg k];exact Evt.ifT (by simp[k]) Evt.ret
theorem wN{l:List Ent}{t:Tm}{k:Int}(h:tZ l t=k)(hk:k≠0):t.k=6∧t.n<l.length∧(ent l t.n).kind=k:=by
 unfold tZ at h
 split at h
 ·rename_i a
  split at h
  ·rename_i b;exact⟨a,b,h⟩
  ·exact absurd h.symm hk
 ·exact absurd h.symm hk
def zZx(t:Tm):Tm×Int:=if zL t=true then(t,0)else(zT,2)
theorem zLP(t:Tm)(ho:t.Ok):Evt (fun q=>zBg q t) (zZx t):=by
 simp only[zBg]
 refine(yV t ho).bind ?_
 unfold zZx
 by_cases h:zL t=true
 ·rw[if_pos h,if_pos h];exact Evt.ret
 ·rw[if_neg h,if_neg h];exact Evt.ret
theorem jJ{t:Tm}(h:yL t=true):0≤t.n:=by
 obtain⟨k,n,l⟩:=t
 exact(mH (xH h).1).1
theorem zWd{l:List Ent}{i:Int}(h0:0≤i)(h1:i<l.length):zR (wC l).own i=some (sK (ent l i)):=by
 have h:=yI (l:=l) h0 h1
 unfold zR at h ⊢
 rw[if_pos h0]at h ⊢
 show (l.map sK)[i.toNat]? = _
 rw[List.getElem?_map,h];rfl
theorem zTe{l:List Ent}{i:Int}(h0:0≤i)(h1:i<l.length):zR (wC l).args i=some (xR (ent l i)):=by
 have h:=yI (l:=l) h0 h1
 unfold zR at h ⊢
 rw[if_pos h0]at h ⊢
 show (l.map xR)[i.toNat]? = _
 rw[List.getElem?_map,h];rfl
def xZ(l:List Ent)(t:Tm):Prop:=tZ l (hdT t)=2∧(arT t).length=vS (ent l (hdT t).n).type
instance (l:List Ent) (t:Tm):Decidable (xZ l t):=inferInstanceAs (Decidable (_∧_))
def jK(l:List Ent)(t:Tm):Int×List Tm×Bool:=if xZ l t then((hdT t).n,arT t,true)else(0,[],false)
theorem zCn(l:List Ent)(t:Tm)(hs:zL t=true):Evt (fun q=>zLO q (wC l) t) (jK l t):=by
 simp only[zLO]
 have hn:=jJ (zO (uJ hs)).2.2
 refine(lA t hs).bind ((gC l _ hn).bind ?_)
 by_cases h:tZ l (hdT t)=2
 ·have hk:=wN h (by decide)
  refine Evt.ifF (by simp[h]) (Evt.pure (zWd hn hk.2.1) ?_)
  have e:sK (ent l (hdT t).n)=vS (ent l (hdT t).n).type:=by unfold sK;rw[if_pos hk.2.2]
  by_cases h2:(arT t).length=vS (ent l (hdT t).n).type
  ·have c:jK l t=((hdT t).n,arT t,true):=if_pos ⟨h,h2⟩
   rw[c]
   exact Evt.ifF (by rw[e];simp[h2]) Evt.ret
  ·have c:jK l t=(0,[],false):=if_neg (fun h'=>h2 h'.2)
   rw[c]
   exact Evt.ifT (by rw[e];simp;omega) Evt.ret
 ·have c:jK l t=(0,[],false):=if_neg (fun h'=>h h'.1)
  rw[c]
  exact Evt.ifT (by simp[h]) Evt.ret
theorem wY{l:List Ent}{t:Tm}(hs:zL t=true)(h:xZ l t):0≤(hdT t).n∧(hdT t).n<l.length∧(ent l (hdT t).n).kind=2∧(arT t).length=vS (ent l (hdT t).n).type:=by
 have hk:=wN h.1 (by decide)
 exact⟨jJ (zO (uJ hs)).2.2,hk.2.1,hk.2.2,h.2⟩
def zAf(qq:Nat)(q0:Int)(q1:Bool)(q2 q3 q4:Int)(q5:List Tm)(p1:Tm)(p2:Int):Option (Tm×Int×Bool):=
 zLq qq p1>>=fun r1=>
 if decide ((w64 (q0-r1))<0)then
 zEI qq 0>>=fun r4=>
 some (r4,(w64 (q0-r1)),true)
 else
 zIJ qq p1 p2>>=fun r6=>
 if r6.2 != 0 then
 zEI qq 0>>=fun r9=>
 some (r9,(w64 (q0-r1)),true)
 else
 some (r6.1,(w64 (q0-r1)),q1)
theorem zGT:Qf 82 Tryz.f82:=⟨Tryz.func82,rfl⟩
theorem zWc{qq q0 q1 q2 q3 q4 q5 p1 p2 r}(h:zAf qq q0 q1 q2 q3 q4 q5 p1 p2=some r):Ct 82 [.cells [ai q0,ab q1,.clo 81 [] [.mp 1 0,.mp 2 0,.mp 3 0]],.cells [ai q2],.cells [.mp 0 0],.cells [ai q3,ai q4,slv zF q5 .no]] [.mp 0 0,tmA p1,ai p2] (tmA r.1) [.cells [ai r.2.1,ab r.2.2,.clo 81 [] [.mp 1 0,.mp 2 0,.mp 3 0]],.cells [ai q2],.cells [.mp 0 0],.cells [ai q3,ai q4,slv zF q5 .no]] 0:=⟨by
 unfold zAf at h
 obtain⟨r1,h2,h⟩:=zC h
 have k:=oC 1 [] (zYj h2)<|oCl 0 o0
 obtain⟨h3,h⟩|⟨h3,h⟩:=spl h
 obtain⟨r4,h5,h⟩:=zC h
 cases h
 exact tF zGT 1 [0,1,2,3] (oD (dT r4.sub)<|oD (dT q5)<|oC 1 [] (zLk h5)<|oB 3 h3 k)
 obtain⟨r6,h7,h⟩:=zC h
 have k:=oC 1 [] (zVj h7)<|oB 3 h3 k
 obtain⟨h8,h⟩|⟨h8,h⟩:=spl h
 obtain⟨r9,h10,h⟩:=zC h
 cases h
 exact tF zGT 1 [0,1,2,3] (oD (dT r9.sub)<|oD (dT q5)<|oC 1 [] (zLk h10)<|oB 3 h8 k)
 cases h
 exact tF zGT 2 [0,1,2,3] (oD (dT r6.1.sub)<|oD (dT q5)<|oB 3 h8 k),⟨(lz rfl),⟨tv,tv,⟨tv,dT _⟩,tv⟩,tv,tv⟩,(zA ⟨tv,tv,⟨tv,⟨(lz rfl),(lz rfl),(lz rfl),tv⟩⟩,tv⟩ (zA ⟨tv,tv⟩ (zA ⟨(lz rfl),tv⟩ (zA ⟨tv,tv,⟨tv,dT _⟩,tv⟩ zB)))),⟨tv,tv,dT _,tv⟩,(zA ⟨tv,tv,⟨tv,⟨(lz rfl),(lz rfl),(lz rfl),tv⟩⟩,tv⟩ (zA ⟨tv,tv⟩ (zA ⟨(lz rfl),tv⟩ (zA ⟨tv,tv,dT _,tv⟩ zB))))⟩
def zAe(qq:Nat)(p0:Tm)(p1 q2 q3:Int)(q4:Bool)(q5 q6:Int)(q7:List Tm):Option (Tm×Bool×Int×Bool):=
 if p0.k != 8 then
 some ((Tm.mk 0 0 []),false,q3,q4)
 else
 if p0.n != q2 then
 some ((Tm.mk 0 0 []),false,q3,q4)
 else
 zAf qq q3 q4 q2 q5 q6 q7 (Tm.mk q5 q6 q7) p1>>=fun r3=>
 some (r3.1,true,r3.2.1,r3.2.2)
theorem zGU:Qf 81 Tryz.f81:=⟨Tryz.func81,rfl⟩
theorem zWb{qq p0 p1 q2 q3 q4 q5 q6 q7 r}(h:zAe qq p0 p1 q2 q3 q4 q5 q6 q7=some r):Ct 81 [.cells [ai q2],.cells [.mp 2 0],.cells [ai q3,ab q4,.clo 81 [] [.mp 0 0,.mp 1 0,.mp 3 0]],.cells [ai q5,ai q6,slv zF q7 .no]] [tmA p0,ai p1,.mp 0 0,.mp 1 0,.mp 3 0] (.tup [tmA r.1,ab r.2.1]) [.cells [ai q2],.cells [.mp 2 0],.cells [ai r.2.2.1,ab r.2.2.2,.clo 81 [] [.mp 0 0,.mp 1 0,.mp 3 0]],.cells [ai q5,ai q6,slv zF q7 .no]] 0:=⟨by
 unfold zAe at h
 obtain⟨h1,h⟩|⟨h1,h⟩:=spl h
 cases h
 exact tF zGU 1 [0,1,2,3] (oD (dT ([]:List Tm))<|oD (dT q7)<|oB 1 h1 o0)
 have k:=oB 1 h1 o0
 obtain⟨h2,h⟩|⟨h2,h⟩:=spl h
 cases h
 exact tF zGU 1 [0,1,2,3] (oD (dT ([]:List Tm))<|oD (dT q7)<|oB 2 h2 k)
 obtain⟨r3,h4,h⟩:=zC h
 cases h
 exact tF zGU 1 [0,1,2,3] (oD (dT r3.1.sub)<|oD (dT q7)<|oC 2 [2,0,1,3] (zWc h4)<|oB 2 h2 k),⟨⟨tv,tv,⟨tv,dT _⟩,tv⟩,tv,(lz rfl),(lz rfl),(lz rfl),tv⟩,(zA ⟨tv,tv⟩ (zA ⟨(lz rfl),tv⟩ (zA ⟨tv,tv,⟨tv,⟨(lz rfl),(lz rfl),(lz rfl),tv⟩⟩,tv⟩ (zA ⟨tv,tv,⟨tv,dT _⟩,tv⟩ zB)))),⟨⟨tv,tv,dT _,tv⟩,tv,tv⟩,(zA ⟨tv,tv⟩ (zA ⟨(lz rfl),tv⟩ (zA ⟨tv,tv,⟨tv,⟨(lz rfl),(lz rfl),(lz rfl),tv⟩⟩,tv⟩ (zA ⟨tv,tv,dT _,tv⟩ zB))))⟩
mutual
def rS:Nat->Int->Bool->Int->Int->Int->List Tm->Tm->Int->Option (Tm×Int×Bool)
 |0,_,_,_,_,_,_,_,_=>none
 |qq+1,q0,q1,q2,q3,q4,q5,p1,p2=>
 if q1 then
 zEI qq 0>>=fun r2=>
 some (r2,q0,q1)
 else
 zAe qq p1 p2 q2 q0 q1 q3 q4 q5>>=fun r4=>
 if r4.2.1 then
 some (r4.1,r4.2.2.1,r4.2.2.2)
 else
 if decide ((w64 (r4.2.2.1-1))<0)then
 vH qq q2 q3 q4 q5 p1 p2 0 (w64 (r4.2.2.1-1)) true []
 else
 vH qq q2 q3 q4 q5 p1 p2 0 (w64 (r4.2.2.1-1)) r4.2.2.2 []
def vH:Nat->Int->Int->Int->List Tm->Tm->Int->Int->Int->Bool->List Tm->Option (Tm×Int×Bool)
 |0,_,_,_,_,_,_,_,_,_,_=>none
 |qq+1,q2,q3,q4,q5,p1,p2,v53,zX,xK,zAd=>
 if decide (v53<(p1.sub.length:Int))then
 zR p1.sub v53>>=fun x9=>
 if v53==1 then
 if p1.k != 5 then
 rS qq zX xK q2 q3 q4 q5 x9 (w64 (p2+1))>>=fun r13=>
 yP 40 zAd [r13.1]>>=fun l15=>
 vH qq q2 q3 q4 q5 p1 p2 (w64 (v53+1)) r13.2.1 r13.2.2 l15
 else
 rS qq zX xK q2 q3 q4 q5 x9 p2>>=fun r17=>
 yP 40 zAd [r17.1]>>=fun l19=>
 vH qq q2 q3 q4 q5 p1 p2 (w64 (v53+1)) r17.2.1 r17.2.2 l19
 else
 rS qq zX xK q2 q3 q4 q5 x9 p2>>=fun r21=>
 yP 40 zAd [r21.1]>>=fun l23=>
 vH qq q2 q3 q4 q5 p1 p2 (w64 (v53+1)) r21.2.1 r21.2.2 l23
 else
 some ((Tm.mk p1.k p1.n zAd),zX,xK)
end
abbrev zAc (q0:Int) (q1:Bool) (q2 q3 q4:Int) (q5:List Tm) (p1:Tm) (p2:Int) (r:Tm×Int×Bool) (C:Cf):Prop:=C 109 [.cells [ai q0,ab q1,.clo 81 [] [.mp 1 0,.mp 2 0,.mp 3 0]],.cells [ai q2],.cells [.mp 0 0],.cells [ai q3,ai q4,slv zF q5 .no]] [.mp 0 0,tmA p1,ai p2] (tmA r.1) [.cells [ai r.2.1,ab r.2.2,.clo 81 [] [.mp 1 0,.mp 2 0,.mp 3 0]],.cells [ai q2],.cells [.mp 0 0],.cells [ai q3,ai q4,slv zF q5 .no]] 0
theorem zAb:Qf 109 Tryz.f109:=⟨Tryz.func109,rfl⟩
theorem zAa{q0 q1 q2 q3 q4 q5 p1 p2 r}(h:zAc q0 q1 q2 q3 q4 q5 p1 p2 r Ci):zAc q0 q1 q2 q3 q4 q5 p1 p2 r Ct:=⟨h,⟨(lz rfl),⟨tv,tv,⟨tv,dT _⟩,tv⟩,tv,tv⟩,(zA ⟨tv,tv,⟨tv,⟨(lz rfl),(lz rfl),(lz rfl),tv⟩⟩,tv⟩ (zA ⟨tv,tv⟩ (zA ⟨(lz rfl),tv⟩ (zA ⟨tv,tv,⟨tv,dT _⟩,tv⟩ zB)))),⟨tv,tv,dT _,tv⟩,(zA ⟨tv,tv,⟨tv,⟨(lz rfl),(lz rfl),(lz rfl),tv⟩⟩,tv⟩ (zA ⟨tv,tv⟩ (zA ⟨(lz rfl),tv⟩ (zA ⟨tv,tv,dT _,tv⟩ zB))))⟩
theorem eD:∀qq:Nat,(∀q0 q1 q2 q3 q4 q5 p1 p2 r,rS qq q0 q1 q2 q3 q4 q5 p1 p2=some r->zAc q0 q1 q2 q3 q4 q5 p1 p2 r Ct)∧(∀q2 q3 q4 q5 p1 p2 v53 zX xK zAd r,vH qq q2 q3 q4 q5 p1 p2 v53 zX xK zAd=some r->(∀j,dL 4 (inn (inn (rgt (lft (rgt (rgt (rgt (rgt (rgt (bod Tryz.f109)))))))))) (sp j 79 0 [(0,.mp 0 0),(2,ai p2),(4,.mp 4 0),(6,.mp 5 0),(9,.mp 6 0),(51,slv zF p1.sub .no),(52,ai (p1.sub.length:Int)),(53,ai v53)]) (⟨[(0,.cells [ai zX,ab xK,.clo 81 [] [.mp 1 0,.mp 2 0,.mp 3 0]]),(1,.cells [ai q2]),(2,.cells [.mp 0 0]),(3,.cells [ai q3,ai q4,slv zF q5 .no]),(4,.cells [ai p1.k,ai p1.n,slv zF p1.sub .no]),(5,.cells [ai 0,ai 0,slv zF ([]:List Tm) .nl]),(6,.cells [ai p1.k,ai p1.n,slv zF zAd (.st 0 3)])],7,[0],1,[]⟩) (fQ 4 (nQ 4 Tryz.f109 (tmA r.1) [.cells [ai r.2.1,ab r.2.2,.clo 81 [] [.mp 1 0,.mp 2 0,.mp 3 0]],.cells [ai q2],.cells [.mp 0 0],.cells [ai q3,ai q4,slv zF q5 .no]] 0) [.blk 0,.seq (rgt (rgt (rgt (rgt (rgt (rgt (bod Tryz.f109)))))))]))):=by
 intro qq
 induction qq with
 |zero=>
  exact⟨fun _ _ _ _ _ _ _ _ _ h=>nn h,fun _ _ _ _ _ _ _ _ _ _ _ h=>nn h⟩
 |succ qq ih=>
  obtain⟨zBf,rT⟩:=ih
  refine⟨?_,?_⟩
  intro q0 q1 q2 q3 q4 q5 p1 p2 r h
  rw[rS]at h
  have z {os ob} (k:Oz os ob):=oD (dT p1.sub)<|oD (dT ([]:List Tm))<|oD (dT ([]:List Tm))<|oD (dT p1.sub)<|oD (dT q5)<|k
  obtain⟨h1,h⟩|⟨h1,h⟩:=spl h
  obtain⟨r2,h3,h⟩:=zC h
  cases h
  exact zAa (tF zAb 1 [0,1,2,3] (oD (dT r2.sub)<|oD (dT q5)<|oC 0 [] (zLk h3)<|oB 0 h1 o0))
  obtain⟨r4,h5,h⟩:=zC h
  have k:=oC 2 [1,2,0,3] (zWb h5)<|oB 0 h1 o0
  obtain⟨h6,h⟩|⟨h6,h⟩:=spl h
  cases h
  exact zAa (tF zAb 3 [0,1,2,3] (oD (dT r4.1.sub)<|oD (dT q5)<|oB 1 h6 k))
  have k:=oB 1 h6 k
  obtain⟨h7,h⟩|⟨h7,h⟩:=spl h
  exact zAa (tH zAb 6 [(some 7,2,3)] [0,1,2,3,4,5,7] [0] [0,2,4,6,9,51,52,53] (z<|oB 5 h7 k) (rT _ _ _ _ _ _ _ _ _ _ _ h))
  exact zAa (tH zAb 5 [(some 7,2,3)] [0,1,2,3,4,5,7] [0] [0,2,4,6,9,51,52,53] (z<|oB 5 h7 k) (rT _ _ _ _ _ _ _ _ _ _ _ h))
  intro q2 q3 q4 q5 p1 p2 v53 zX xK zAd r h
  rw[vH]at h
  have z {os ob} (k:Oz os ob):=oD (dT ([]:List Tm))<|oD (dT p1.sub)<|oD (dT q5)<|k
  obtain⟨h8,h⟩|⟨h8,h⟩:=spl h
  obtain⟨x9,h10,h⟩:=zC h
  have k:=oA 0 (yN (o:=.no) h10)<|oB 0 h8 o0
  obtain⟨h11,h⟩|⟨h11,h⟩:=spl h
  have k:=oB 2 h11 k
  obtain⟨h12,h⟩|⟨h12,h⟩:=spl h
  obtain⟨r13,h14,h⟩:=zC h
  obtain⟨l15,h16,h⟩:=zC h
  exact fun j=>lH 2 [] [0,1,2,3,4,5,6] [1] [0,2,4,6,9,51,52,53] (oD (dT p1.sub)<|oD (dT l15)<|z<|oP 0 (wB h16 (by simp))<|oS 0 (yT xC [r13.1])<|oC 1 [0,1,2,3] (zBf _ _ _ _ _ _ _ _ _ h14)<|oCl 1<|oB 1 h12 k) (rT _ _ _ _ _ _ _ _ _ _ _ h)
  obtain⟨r17,h18,h⟩:=zC h
  obtain⟨l19,h20,h⟩:=zC h
  exact fun j=>lH 2 [] [0,1,2,3,4,5,6] [1] [0,2,4,6,9,51,52,53] (oD (dT p1.sub)<|oD (dT l19)<|z<|oP 0 (wB h20 (by simp))<|oS 0 (yT xC [r17.1])<|oC 1 [0,1,2,3] (zBf _ _ _ _ _ _ _ _ _ h18)<|oCl 0<|oB 1 h12 k) (rT _ _ _ _ _ _ _ _ _ _ _ h)
  obtain⟨r21,h22,h⟩:=zC h
  obtain⟨l23,h24,h⟩:=zC h
  exact fun j=>lH 2 [] [0,1,2,3,4,5,6] [1] [0,2,4,6,9,51,52,53] (oD (dT p1.sub)<|oD (dT l23)<|z<|oP 0 (wB h24 (by simp))<|oS 0 (yT xC [r21.1])<|oC 1 [0,1,2,3] (zBf _ _ _ _ _ _ _ _ _ h22)<|oCl 0<|oB 2 h11 k) (rT _ _ _ _ _ _ _ _ _ _ _ h)
  cases h
  exact fun j=>lF 2 [0,1,2,3] (oD (dT zAd)<|oD (dT q5)<|oB 0 h8 o0)
theorem zTd{qq q0 q1 q2 q3 q4 q5 p1 p2 r}(h:rS qq q0 q1 q2 q3 q4 q5 p1 p2=some r):zAc q0 q1 q2 q3 q4 q5 p1 p2 r Ct:=(eD _).1 _ _ _ _ _ _ _ _ _ h
theorem zJg:∀ {l:List Tm} {t:Tm},OkL l->t.Ok->OkL (l++[t])
 | [],t,_,h=>⟨h,trivial⟩
 |a::l,t,h,ht=>⟨h.1,zJg h.2 ht⟩
def e78(qq:Nat)(p0:Int):Option Bool:=
 if decide (p0≥0)then
 some (decide (p0≤1048576))
 else
 some false
theorem q78:Qf 78 Tryz.f78:=⟨Tryz.func78,rfl⟩
theorem c78{qq p0 r}(h:e78 qq p0=some r):Ct 78 [] [ai p0] (ab r) [] 0:=⟨by
 unfold e78 at h
 obtain⟨h1,h⟩|⟨h1,h⟩:=spl h
 cases h
 exact tF q78 1 [] (oB 0 h1 o0)
 cases h
 exact tF q78 0 [] (oB 0 h1 o0),⟨tv,tv⟩,zB,tv,zB⟩
def zGV(qq:Nat)(q0:Int)(q1:Bool)(q2 q3 q4:Int)(q5:List Tm):Option Unit:=
 some ()
theorem zWa{qq q0 q1 q2 q3 q4 q5 r}(h:zGV qq q0 q1 q2 q3 q4 q5=some r):Ct 80 [.cells [ai q0,ab q1,.val .nilFunc],.cells [ai q2],.cells [ai q3,ai q4,slv zF q5 .no]] [.mp 0 0,.mp 1 0,.mp 2 0] (.clo 81 [] [.mp 1 0,.mp 3 0,.mp 2 0]) [.cells [ai q0,ab q1,.val .nilFunc],.cells [ai q2],.cells [ai q3,ai q4,slv zF q5 .no],.cells [.mp 0 0]] 0:=⟨by
 unfold zGV at h
 cases h
 exact tF ⟨Tryz.func80,rfl⟩ 0 [0,1,2,3] (oD (dT q5) o0),⟨(lz rfl),(lz rfl),(lz rfl),tv⟩,(zA ⟨tv,tv,tv,tv⟩ (zA ⟨tv,tv⟩ (zA ⟨tv,tv,⟨tv,dT _⟩,tv⟩ zB))),⟨tv,⟨(lz rfl),(lz rfl),(lz rfl),tv⟩⟩,(zA ⟨tv,tv,tv,tv⟩ (zA ⟨tv,tv⟩ (zA ⟨tv,tv,dT _,tv⟩ (zA ⟨(lz rfl),tv⟩ zB))))⟩
def zCm(qq:Nat)(p0:Tm)(q1 q2 q3:Int)(q4:List Tm):Option (Tm×Int):=
 zGV qq 8192 false q1 q2 q3 q4>>=fun r1=>
 rS qq 8192 false q1 q2 q3 q4 p0 0>>=fun r3=>
 if r3.2.2 then
 some ((Tm.mk 0 0 []),2)
 else
 e52 qq r3.1>>=fun r6=>
 if r6 then
 some (r3.1,0)
 else
 some ((Tm.mk 0 0 []),2)
theorem zGW:Qf 79 Tryz.f79:=⟨Tryz.func79,rfl⟩
theorem zWA{qq p0 q1 q2 q3 q4 r}(h:zCm qq p0 q1 q2 q3 q4=some r):Ct 79 [.cells [ai q1],.cells [ai q2,ai q3,slv zF q4 .no]] [tmA p0,.clo 80 [] [.mp 0 0,.mp 1 0]] (.tup [tmA r.1,ai r.2]) [.cells [ai q1],.cells [ai q2,ai q3,slv zF q4 .no]] 0:=⟨by
 unfold zCm at h
 obtain⟨r1,h2,h⟩:=zC h
 obtain⟨r3,h4,h⟩:=zC h
 have k:=oC 2 [4,0,5,1] (zTd h4)<|oC 0 [4,0,1] (zWa h2) o0
 obtain⟨h5,h⟩|⟨h5,h⟩:=spl h
 cases h
 exact tF zGW 1 [0,1] (oD (dT ([]:List Tm))<|oD (dT q4)<|oB 1 h5 k)
 obtain⟨r6,h7,h⟩:=zC h
 have k:=oB 1 h5 k
 obtain⟨h8,h⟩|⟨h8,h⟩:=spl h
 cases h
 exact tF zGW 3 [0,1] (oD (dT r3.1.sub)<|oD (dT q4)<|oK 1 [] h8 (c52 h7) k)
 cases h
 exact tF zGW 2 [0,1] (oD (dT ([]:List Tm))<|oD (dT q4)<|oK 1 [] h8 (c52 h7) k),⟨⟨tv,tv,⟨tv,dT _⟩,tv⟩,⟨tv,⟨(lz rfl),(lz rfl),tv⟩⟩,tv⟩,(zA ⟨tv,tv⟩ (zA ⟨tv,tv,⟨tv,dT _⟩,tv⟩ zB)),⟨⟨tv,tv,dT _,tv⟩,tv,tv⟩,(zA ⟨tv,tv⟩ (zA ⟨tv,tv,dT _,tv⟩ zB))⟩
def e54(qq:Nat)(p0 p1:Tm)(p2:Int):Option (Tm×Int):=
 e52 qq p0>>=fun r1=>
 if r1 then
 e52 qq p1>>=fun r4=>
 if r4 then
 e78 qq p2>>=fun r7=>
 if r7 then
 zCm qq p0 p2 p1.k p1.n p1.sub>>=fun r10=>
 some (r10.1,r10.2)
 else
 some ((Tm.mk 0 0 []),5)
 else
 some ((Tm.mk 0 0 []),5)
 else
 some ((Tm.mk 0 0 []),5)
theorem q54:Qf 54 Tryz.f54:=⟨Tryz.func54,rfl⟩
theorem c54{qq p0 p1 p2 r}(h:e54 qq p0 p1 p2=some r):Ct 54 [] [tmA p0,tmA p1,ai p2] (.tup [tmA r.1,ai r.2]) [] 0:=⟨by
 unfold e54 at h
 obtain⟨r1,h2,h⟩:=zC h
 obtain⟨h3,h⟩|⟨h3,h⟩:=spl h
 obtain⟨r4,h5,h⟩:=zC h
 have k:=oK 1 [] h3 (c52 h2) o0
 obtain⟨h6,h⟩|⟨h6,h⟩:=spl h
 obtain⟨r7,h8,h⟩:=zC h
 have k:=oK 2 [] h6 (c52 h5) k
 obtain⟨h9,h⟩|⟨h9,h⟩:=spl h
 obtain⟨r10,h11,h⟩:=zC h
 cases h
 exact tF q54 3 [] (oD (dT r10.1.sub)<|oC 2 [2,1] (zWA h11)<|oK 2 [] h9 (c78 h8) k)
 cases h
 exact tF q54 2 [] (oD (dT ([]:List Tm))<|oK 2 [] h9 (c78 h8) k)
 cases h
 exact tF q54 2 [] (oD (dT ([]:List Tm))<|oK 2 [] h6 (c52 h5) k)
 cases h
 exact tF q54 2 [] (oD (dT ([]:List Tm))<|oK 1 [] h3 (c52 h2) o0),⟨⟨tv,tv,⟨tv,dT _⟩,tv⟩,⟨tv,tv,⟨tv,dT _⟩,tv⟩,tv,tv⟩,zB,⟨⟨tv,tv,dT _,tv⟩,tv,tv⟩,zB⟩
mutual
def naT(a:Tm)(n:Int):Tm->Int->Tm
 | .mk k m l,b=>if k=8∧m=n then lfT a 0 0 b else .mk k m (naL a n l k 0 b)
def naL(a:Tm)(n:Int):List Tm->Int->Nat->Int->List Tm
 | [],_,_,_=>[]
 |t::l,k,i,b=>naT a n t (xJ k i b)::naL a n l k (i+1) b
end
theorem zJf(q0:Int)(q1:Bool)(q2 q3 q4:Int)(q5:List Tm)(a:Tm)(b:Int)(ho:a.Ok):Tot (fun q=>zAf q q0 q1 q2 q3 q4 q5 a b) fun r=>r.1.Ok∧(r.2.2=false->q1=false∧r.1=lfT a 0 0 b):=by
 simp only[zAf]
 refine Tot.bind (P:=fun _=>True) ((zGd a ho).tot trivial) fun _ _=>Tot.ite (fun _=>?_) fun _=>?_
 ·exact Tot.bind (P:=fun y=>y.Ok) ((fG 0).tot (xN 2 0)) fun y hy=>Tot.ret ⟨hy,fun h=>by cases h⟩
 ·refine Tot.bind (P:=fun y=>y=vX a b 0) ((zMY a b ho).tot rfl) fun y hy=>Tot.ite (fun _=>?_) fun h=>Tot.ret ?_
  ·exact Tot.bind (P:=fun y=>y.Ok) ((fG 0).tot (xN 2 0)) fun y hy=>Tot.ret ⟨hy,fun h=>by cases h⟩
  ·subst hy
   exact⟨lB a b 0 ho,fun hq=>⟨hq,(iZ (by simpa using h)).2.2.2.2⟩⟩
theorem zJe(p0:Tm)(p1 q2 q3:Int)(q4:Bool)(a:Tm)(ho:a.Ok):Tot (fun q=>zAe q p0 p1 q2 q3 q4 a.k a.n a.sub) fun r=>r.1.Ok∧(r.2.1=false->¬(p0.k=8∧p0.n=q2)∧r.2.2.1=q3∧r.2.2.2=q4)∧(r.2.1=true->p0.k=8∧p0.n=q2∧(r.2.2.2=false->q4=false∧r.1=lfT a 0 0 p1)):=by
 simp only[zAe,tW]
 refine Tot.ite (fun h=>Tot.ret ⟨xN 0 0,fun _=>⟨fun h'=>?_,rfl,rfl⟩,fun h=>by cases h⟩) fun h8=>Tot.ite (fun h=>Tot.ret ⟨xN 0 0,fun _=>⟨fun h'=>?_,rfl,rfl⟩,fun h=>by cases h⟩) fun hn=>?_
 ·rw[h'.1]at h;simp at h
 ·rw[h'.2]at h;simp at h
 ·exact(zJf _ _ _ _ _ _ a p1 ho).bind fun r hr=>Tot.ret ⟨hr.1,fun h=>(by cases h),fun _=>⟨by simpa using h8,by simpa using hn,hr.2⟩⟩
mutual
theorem fL(a:Tm)(ha:a.Ok)(n:Int):∀(t:Tm) (b left:Int) (long:Bool),yL t=true->0≤b->b+t.high≤1152921504606846976->Tot (fun q=>rS q left long n a.k a.n a.sub t b) fun r=>r.1.Ok∧(r.2.2=false->long=false∧r.1=naT a n t b)
 | .mk k m l,b,left,long,hg,hb,hb2=>by
  have hh:=xH hg
  have hn:=mH hh.1
  rw[Tm.high]at hb2
  refine Tot.succ ?_
  simp only[rS]
  refine Tot.ite (fun hl=>Tot.bind (P:=fun y=>y.Ok) ((fG 0).tot (xN 2 0)) fun y hy=>Tot.ret ⟨hy,fun h=>by rw[hl]at h;cases h⟩) fun hl=>?_
  refine(zJe (.mk k m l) b n left long a ha).bind fun r hr=>Tot.ite (fun h=>Tot.ret ⟨hr.1,fun h2=>?_⟩) fun h=>?_
  ·obtain⟨h3,h4,h5⟩:=hr.2.2 h
   refine⟨(h5 h2).1,?_⟩
   rw[naT,if_pos ⟨h3,h4⟩]
   exact(h5 h2).2
  ·obtain⟨h3,h4,h5⟩:=hr.2.1 (by simpa using h)
   have e:naT a n (.mk k m l) b = .mk k m (naL a n l k 0 b):=by rw[naT];exact if_neg h3
   refine Tot.ite (fun _=>?_) fun _=>?_
   ·exact(cT a ha n l (.mk k m l) b 0 _ true [] rfl hn.2.2.2.2 hh.2 rfl (by simp) trivial hb (by omega)).mono fun r hr=>⟨hr.1,fun h=>by cases (hr.2 h).1⟩
   ·refine(cT a ha n l (.mk k m l) b 0 _ _ [] rfl hn.2.2.2.2 hh.2 rfl (by simp) trivial hb (by omega)).mono fun r hr=>⟨hr.1,fun h=>⟨by rw[←h5];exact(hr.2 h).1,?_⟩⟩
    rw[(hr.2 h).2,e];rfl
theorem cT(a:Tm)(ha:a.Ok)(n:Int):∀(r:List Tm) (p:Tm) (b:Int) (v:Nat) (left:Int) (long:Bool) (acc:List Tm),p.sub.drop v=r->p.sub.length≤2->xV r=true->acc.length=v->v≤p.sub.length->OkL acc->0≤b->b+1+vB r≤1152921504606846976->Tot (fun q=>vH q n a.k a.n a.sub p b (v:Int) left long acc) fun x=>x.1.Ok∧(x.2.2=false->long=false∧x.1 = .mk p.k p.n (acc++naL a n r p.k v b))
 | [],p,b,v,left,long,acc,hd,hl,hr,hac,hv,hb,h0,h1=>by
  refine Tot.succ ?_
  simp only[vH]
  refine Tot.ite (fun h=>?_) fun _=>Tot.ret ⟨?_,fun h=>⟨h,?_⟩⟩
  ·rw[zZ hd]at h;cases h
  ·show (Tm.mk p.k p.n acc).Ok
   rw[Tm.Ok];exact⟨by omega,hb⟩
  ·rw[naL,List.append_nil]
 |t::r,p,b,v,left,long,acc,hd,hl,hr,hac,hv,hb,h0,h1=>by
  have hlt:=yC hd
  have hg:=xD hr
  rw[vB]at h1
  have next:∀(y:Tm×Int×Bool),y.1.Ok∧(y.2.2=false->long=false∧y.1=naT a n t (xJ p.k v b))->Tot (fun q=>yP 40 acc [y.1]>>=fun l=>vH q n a.k a.n a.sub p b (w64 ((v:Int)+1)) y.2.1 y.2.2 l) fun x=>x.1.Ok∧(x.2.2=false->long=false∧x.1 = .mk p.k p.n (acc++naL a n (t::r) p.k v b)):=fun y hy=>by
   rw[zU v (by omega)]
   refine Tot.pure (yD (by simp;omega)) ((cT a ha n r p b (v+1) _ _ _ (zS hd) hl hg.2 (by simp;omega) hlt (zJg hb hy.1) h0 (by omega)).mono fun x hx=>⟨hx.1,fun h=>?_⟩)
   obtain⟨h2,h3⟩:=hx.2 h
   obtain⟨h4,h5⟩:=hy.2 h2
   refine⟨h4,?_⟩
   rw[h3,h5,naL];simp
  refine Tot.succ ?_
  simp only[vH]
  refine Tot.ite (fun _=>Tot.pure (zV hd) (Tot.ite (fun h2=>Tot.ite (fun h5=>?_) fun h5=>?_) fun h2=>?_)) fun h=>?_
  ·have hv1:v=1:=by have:=eq_of_beq h2;omega
   have e:xJ p.k v b=b+1:=by unfold xJ;simp at h5;simp[h5,hv1]
   rw[yK (x:=b+1) (by omega) (by omega)]
   rw[e]at next
   exact(fL a ha n t _ left long hg.1 (by omega) (by omega)).bind fun y hy=>next y hy
  ·have e:xJ p.k v b=b:=by unfold xJ;simp at h5;simp[h5]
   rw[e]at next
   exact(fL a ha n t _ left long hg.1 h0 (by omega)).bind fun y hy=>next y hy
  ·have e:xJ p.k v b=b:=by unfold xJ;rw[if_neg];intro h;have h1:=h.1;subst h1;simp at h2
   rw[e]at next
   exact(fL a ha n t _ left long hg.1 h0 (by omega)).bind fun y hy=>next y hy
  ·rw[zY hd]at h;cases h
end
def NaX(t a:Tm)(n:Int)(r:Tm×Int):Prop:=r.1.Ok∧r.2≠8∧(r.2=0->zL t=true∧zL a=true∧0≤n∧n≤1048576∧zL (naT a n t 0)=true∧r.1=naT a n t 0)∧(r.2=0∨r.2=2∨r.2=5)∧(zL t=true->zL a=true->0≤n->n≤1048576->r.2≠5)
theorem jL(t a:Tm)(n:Int)(ht:t.Ok)(ha:a.Ok):Tot (fun q=>e54 q t a n) (NaX t a n):=by
 have z:=xN 0 0
 simp only[e54]
 refine Tot.bind (P:=fun b=>b=zL t) ((yV t ht).tot rfl) fun b hb=>Tot.ite (fun h=>?_) fun h=>Tot.ret ⟨z,by decide,fun h=>(by cases h),.inr (.inr rfl),fun h1=>by rw[hb,h1]at h;cases h⟩
 refine Tot.bind (P:=fun b=>b=zL a) ((yV a ha).tot rfl) fun b2 hb2=>Tot.ite (fun h2=>?_) fun h2=>Tot.ret ⟨z,by decide,fun h=>(by cases h),.inr (.inr rfl),fun _ h1=>by rw[hb2,h1]at h2;cases h2⟩
 have F:Tot (fun q=>e78 q n) fun b=>(b=true->0≤n∧n≤1048576)∧(b=false->¬(0≤n∧n≤1048576)):=by
  simp only[e78]
  exact Tot.ite (fun h=>Tot.ret ⟨fun h2=>⟨by simpa using h,by simpa using h2⟩,fun h2 h3=>by simp at h2;omega⟩) fun h=>Tot.ret ⟨fun h=>(by cases h),fun _ h3=>by simp at h;omega⟩
 refine F.bind fun b3 h3=>Tot.ite (fun h4=>?_) fun h4=>Tot.ret ⟨z,by decide,fun h=>(by cases h),.inr (.inr rfl),fun _ _ g1 g2=>absurd ⟨g1,g2⟩ (h3.2 (by simpa using h4))⟩
 rw[h]at hb
 rw[h2]at hb2
 have hs:=zO hb.symm
 refine Tot.bind (P:=fun r=>NaX t a n r∧r.2≠5) ?_ fun r hr=>Tot.ret ⟨hr.1.1,hr.1.2.1,hr.1.2.2.1,hr.1.2.2.2.1,fun _ _ _ _=>hr.2⟩
 have long:NaX t a n (zT,2):=⟨z,by decide,fun h=>(by cases h),.inr (.inl rfl),fun _ _ _ _=>by decide⟩
 simp only[zCm]
 refine Tot.pure rfl ((fL a ha n t 0 8192 false hs.2.2 (by omega) (by omega)).bind fun r hr=>Tot.ite (fun _=>Tot.ret ⟨long,by decide⟩) fun h5=>?_)
 refine Tot.bind (P:=fun b=>b=zL r.1) ((yV r.1 hr.1).tot rfl) fun b6 hb6=>Tot.ite (fun h6=>Tot.ret ?_) fun _=>Tot.ret ⟨long,by decide⟩
 have hx:=(hr.2 (by simpa using h5)).2
 refine⟨⟨hr.1,(by show (0:Int)≠8;decide),fun _=>⟨hb.symm,hb2.symm,(h3.1 h4).1,(h3.1 h4).2,?_,hx⟩,.inl rfl,fun _ _ _ _=>(by show (0:Int)≠5;decide)⟩,(by show (0:Int)≠5;decide)⟩
 rw[←hx,←hb6];exact h6
mutual
theorem zGX{P:Int->Int->Prop}{a:Tm}{n:Int}(ha:yU P a):∀(t:Tm) (b:Int),yU (fun k m=>P k m∨(k=8∧m=n)) t->yU P (naT a n t b)
 | .mk k m l,b,h=>by
  rw[yU]at h
  rw[naT]
  by_cases h1:k=8∧m=n
  ·rw[if_pos h1];exact zAo a 0 0 b ha
  ·rw[if_neg h1,yU]
   refine⟨?_,zJd ha l k 0 b h.2⟩
   rcases h.1 with h2|h2|h2
   ·exact .inl h2
   ·exact .inr h2
   ·exact absurd h2 h1
theorem zJd{P:Int->Int->Prop}{a:Tm}{n:Int}(ha:yU P a):∀(l:List Tm) (k:Int) (i:Nat) (b:Int),xY (fun k m=>P k m∨(k=8∧m=n)) l->xY P (naL a n l k i b)
 | [],_,_,_,_=>by rw[naL,xY];trivial
 |t::l,k,i,b,h=>by
  rw[xY]at h
  rw[naL,xY]
  exact⟨zGX ha t _ h.1,zJd ha l k (i+1) b h.2⟩
end
mutual
theorem zTc{a:Tm}{n:Int}(ha:∀j,¬j∈lvT a 0):∀(t:Tm) (b j:Int),0≤b->j∈lvT (naT a n t b) b->j∈lvT t b
 | .mk k m l,b,j,hb,h=>by
  rw[naT]at h
  by_cases h1:k=8∧m=n
  ·rw[if_pos h1]at h
   exact absurd (zJy a 0 b j hb (by rwa[Int.zero_add])) (ha j)
  ·rw[if_neg h1]at h
   by_cases hk:k=1
   ·subst hk;exact sO.2 (sO.1 h)
   ·exact(uR hk).2 (zTb ha l k 0 b j hb ((uR hk).1 h))
theorem zTb{a:Tm}{n:Int}(ha:∀j,¬j∈lvT a 0):∀(l:List Tm) (k:Int) (i:Nat) (b j:Int),0≤b->j∈lvL (naL a n l k i b) k i b->j∈lvL l k i b
 | [],k,i,b,j,hb,h=>by rw[naL]at h;exact absurd h rR
 |t::l,k,i,b,j,hb,h=>by
  rw[naL]at h
  rcases xW.1 h with h|h
  ·exact xW.2 (.inl (zTc ha t _ j (by have:=zNl k i b;omega) h))
  ·exact xW.2 (.inr (zTb ha l k (i+1) b j hb h))
end
mutual
theorem zNA:∀(t:Tm) (b m:Int),yL t=true->0≤m->(∀j∈lvT t b,j<m)->mG t b≤m
 | .mk k n l,b,m,hg,hm,h=>by
  rw[mG]
  by_cases hk:k=1
  ·subst hk
   rw[if_pos rfl]
   by_cases hb:b≤n
   ·have:=h (n-b) (sO.2 ⟨hb,rfl⟩);omega
   ·omega
  ·rw[if_neg hk]
   have hh:=xH hg
   have hs:=xI hh.1
   refine zJc l k 0 b m hh.2 ?_ hm fun j hj=>h j ((uR hk).2 hj)
   have e1:k=3∨k=4∨k=5∨l.length≤1:=by
    by_cases h7:k=7
    ·obtain⟨x,hx,-⟩:=hs.2.2.2.2.2.2.1 h7
     have hx':l=[x]:=hx
     rw[hx'];simp
    ·by_cases h1:k=1∨k=2∨k=6∨k=8
     ·have hx:=hs.2.2.2.2.2.2.2.1 h1
      have hx':l=[]:=hx
      rw[hx'];simp
     ·have a1:1≤k:=hs.1
      have a2:k≤8:=hs.2.1
      omega
   omega
theorem zJc:∀(l:List Tm) (k:Int) (i:Nat) (b m:Int),xV l=true->(k=3∨k=4∨k=5∨i+l.length≤1)->0≤m->(∀j∈lvL l k i b,j<m)->iE l k i b≤m
 | [],k,i,b,m,hg,hl,hm,h=>by rw[iE];exact hm
 |t::l,k,i,b,m,hg,hl,hm,h=>by
  rw[iE]
  have hc:=xD hg
  rw[List.length_cons]at hl
  have h1:=zNA t (xJ k i b) m hc.1 hm fun j hj=>h j (xW.2 (.inl hj))
  have h2:=zJc l k (i+1) b m hc.2 (by omega) hm fun j hj=>h j (xW.2 (.inr hj))
  rw[zSU (by omega)]at h1
  omega
end
theorem zCl{t:Tm}(hs:zL t=true):mG t 0≤0 ↔ ∀j,¬j∈lvT t 0:=by
 have hg:=(zO hs).2.2
 constructor
 ·intro h j hj
  have:=zLF t 0 j hg hj
  have:=zDA t 0 j hj
  omega
 ·exact fun h=>zNA t 0 0 hg (by omega) fun j hj=>absurd hj (h j)
def wZ(l:List Ent)(t:Tm):Prop:=tV t 0 l.length=true
theorem qM{l:List Ent}{t:Tm}:wZ l t↔zL t=true∧(∀j,¬j∈lvT t 0)∧yU (fun k n=>k=6∨k=7->n<l.length) t:=by
 unfold wZ tV
 rw[←gA (by decide) (by decide)]
 constructor
 ·intro h
  simp only[Bool.and_eq_true,List.all_eq_true,decide_eq_true_eq]at h
  exact⟨h.1.1,(zCl h.1.1).1 h.1.2,h.2⟩
 ·rintro ⟨h1,h2,h3⟩
  simp only[Bool.and_eq_true,List.all_eq_true,decide_eq_true_eq]
  exact⟨⟨h1,(zCl h1).2 h2⟩,h3⟩
theorem wZ.na{l:List Ent}{t a:Tm}{n:Int}(h:wZ l t)(ha:wZ l a)(hs:zL (naT a n t 0)=true):wZ l (naT a n t 0):=by
 have h1:=qM.1 h
 have h2:=qM.1 ha
 exact qM.2 ⟨hs,fun j hj=>h1.2.1 j (zTc h2.2.1 t 0 j (by omega) hj),zGX h2.2.2 t 0 (qL (fun _ _ h=>.inl h) h1.2.2)⟩
mutual
def zGY:Nat->xE->Tm->Int->Int->Option (Tm×Int×Int×Int)
 |0,_,_,_,_=>none
 |qq+1,M,p1,fl,fu=>
 fM qq M fl fu p1.k p1.n p1.sub
def fM:Nat->xE->Int->Int->Int->Int->List Tm->Option (Tm×Int×Int×Int)
 |0,_,_,_,_,_,_=>none
 |qq+1,M,xP,wQ,wD,wE,pI=>
 zTa qq M (Tm.mk wD wE pI) xP wQ>>=fun r1=>
 if r1.2.1 then
 if r1.2.2.1 != 0 then
 some ((Tm.mk 0 0 []),r1.2.2.1,r1.2.2.2.1,r1.2.2.2.2)
 else
 fM qq M r1.2.2.2.1 r1.2.2.2.2 r1.1.k r1.1.n r1.1.sub
 else
 if r1.2.2.1 != 0 then
 some ((Tm.mk 0 0 []),r1.2.2.1,r1.2.2.2.1,r1.2.2.2.2)
 else
 some ((Tm.mk wD wE pI),0,r1.2.2.2.1,r1.2.2.2.2)
def zTa:Nat->xE->Tm->Int->Int->Option (Tm×Bool×Int×Int×Int)
 |0,_,_,_,_=>none
 |qq+1,M,p1,fl,fu=>
 zDs qq p1>>=fun r1=>
 if r1.1.k==4 then
 if decide ((r1.2.length:Int)>0)then
 zR r1.1.sub 1>>=fun x5=>
 zR r1.2 0>>=fun x7=>
 zRR qq x5 x7>>=fun r9=>
 gsl r1.2 1 (r1.2.length:Int)>>=fun x11=>
 cM qq r9.1 x11>>=fun r13=>
 if r9.2 != 0 then
 some (p1,false,r9.2,fl,fu)
 else
 e98 qq fl fu>>=fun r16=>
 if r16.1 != 0 then
 some (p1,false,r16.1,r16.2.1,r16.2.2)
 else
 zBg qq r13>>=fun r19=>
 some (r19.1,true,r19.2,r16.2.1,r16.2.2)
 else
 zGS qq M r1.1>>=fun r21=>
 if r21==3 then
 zR M.l r1.1.n>>=fun x24=>
 cM qq x24.body r1.2>>=fun r26=>
 e98 qq fl fu>>=fun r28=>
 if r28.1 != 0 then
 some (p1,false,r28.1,r28.2.1,r28.2.2)
 else
 zBg qq r26>>=fun r31=>
 some (r31.1,true,r31.2,r28.2.1,r28.2.2)
 else
 zGS qq M r1.1>>=fun r33=>
 if r33==4 then
 zPI qq M r1.1 r1.2 fl fu>>=fun r36=>
 if r36.2.1 then
 if r36.2.2.1 != 0 then
 some (p1,false,r36.2.2.1,r36.2.2.2.1,r36.2.2.2.2)
 else
 e98 qq r36.2.2.2.1 r36.2.2.2.2>>=fun r40=>
 if r40.1 != 0 then
 some (p1,false,r40.1,r40.2.1,r40.2.2)
 else
 zBg qq r36.1>>=fun r43=>
 some (r43.1,true,r43.2,r40.2.1,r40.2.2)
 else
 if r36.2.2.1 != 0 then
 some (p1,false,r36.2.2.1,r36.2.2.2.1,r36.2.2.2.2)
 else
 some (p1,false,r36.2.2.1,r36.2.2.2.1,r36.2.2.2.2)
 else
 if r1.1.k==7 then
 zPJ qq M r1.1 r1.2 fl fu>>=fun r47=>
 if r47.2.1 then
 if r47.2.2.1 != 0 then
 some (p1,false,r47.2.2.1,r47.2.2.2.1,r47.2.2.2.2)
 else
 e98 qq r47.2.2.2.1 r47.2.2.2.2>>=fun r51=>
 if r51.1 != 0 then
 some (p1,false,r51.1,r51.2.1,r51.2.2)
 else
 zBg qq r47.1>>=fun r54=>
 some (r54.1,true,r54.2,r51.2.1,r51.2.2)
 else
 if r47.2.2.1 != 0 then
 some (p1,false,r47.2.2.1,r47.2.2.2.1,r47.2.2.2.2)
 else
 some (p1,false,r47.2.2.1,r47.2.2.2.1,r47.2.2.2.2)
 else
 some (p1,false,0,fl,fu)
 else
 zGS qq M r1.1>>=fun r57=>
 if r57==3 then
 zR M.l r1.1.n>>=fun x60=>
 cM qq x60.body r1.2>>=fun r62=>
 e98 qq fl fu>>=fun r64=>
 if r64.1 != 0 then
 some (p1,false,r64.1,r64.2.1,r64.2.2)
 else
 zBg qq r62>>=fun r67=>
 some (r67.1,true,r67.2,r64.2.1,r64.2.2)
 else
 zGS qq M r1.1>>=fun r69=>
 if r69==4 then
 zPI qq M r1.1 r1.2 fl fu>>=fun r72=>
 if r72.2.1 then
 if r72.2.2.1 != 0 then
 some (p1,false,r72.2.2.1,r72.2.2.2.1,r72.2.2.2.2)
 else
 e98 qq r72.2.2.2.1 r72.2.2.2.2>>=fun r76=>
 if r76.1 != 0 then
 some (p1,false,r76.1,r76.2.1,r76.2.2)
 else
 zBg qq r72.1>>=fun r79=>
 some (r79.1,true,r79.2,r76.2.1,r76.2.2)
 else
 if r72.2.2.1 != 0 then
 some (p1,false,r72.2.2.1,r72.2.2.2.1,r72.2.2.2.2)
 else
 some (p1,false,r72.2.2.1,r72.2.2.2.1,r72.2.2.2.2)
 else
 if r1.1.k==7 then
 zPJ qq M r1.1 r1.2 fl fu>>=fun r83=>
 if r83.2.1 then
 if r83.2.2.1 != 0 then
 some (p1,false,r83.2.2.1,r83.2.2.2.1,r83.2.2.2.2)
 else
 e98 qq r83.2.2.2.1 r83.2.2.2.2>>=fun r87=>
 if r87.1 != 0 then
 some (p1,false,r87.1,r87.2.1,r87.2.2)
 else
 zBg qq r83.1>>=fun r90=>
 some (r90.1,true,r90.2,r87.2.1,r87.2.2)
 else
 if r83.2.2.1 != 0 then
 some (p1,false,r83.2.2.1,r83.2.2.2.1,r83.2.2.2.2)
 else
 some (p1,false,r83.2.2.1,r83.2.2.2.1,r83.2.2.2.2)
 else
 some (p1,false,0,fl,fu)
def zPI:Nat->xE->Tm->List Tm->Int->Int->Option (Tm×Bool×Int×Int×Int)
 |0,_,_,_,_,_=>none
 |qq+1,M,p1,p2,fl,fu=>
 zR M.l p1.n>>=fun x1=>
 if decide ((p2.length:Int)≤x1.pars)then
 some ((Tm.mk 0 0 []),false,0,fl,fu)
 else
 zR p2 x1.pars>>=fun x4=>
 zGY qq M x4 fl fu>>=fun r6=>
 if r6.2.1 != 0 then
 some ((Tm.mk 0 0 []),false,r6.2.1,r6.2.2.1,r6.2.2.2)
 else
 zLO qq M r6.1>>=fun r9=>
 if r9.2.2 then
 zR M.l r9.1>>=fun x12=>
 if x12.fam != x1.fam then
 some ((Tm.mk 0 0 []),false,0,r6.2.2.1,r6.2.2.2)
 else
 gsl r9.2.1 x12.pars (r9.2.1.length:Int)>>=fun x15=>
 zJo qq M.rl M.parts p1.n x15>>=fun r17=>
 gsl p2 (w64 (x1.pars+1)) (p2.length:Int)>>=fun x19=>
 cM qq r17.1 x19>>=fun r21=>
 some (r21,true,r17.2,r6.2.2.1,r6.2.2.2)
 else
 some ((Tm.mk 0 0 []),false,0,r6.2.2.1,r6.2.2.2)
def zPJ:Nat->xE->Tm->List Tm->Int->Int->Option (Tm×Bool×Int×Int×Int)
 |0,_,_,_,_,_=>none
 |qq+1,M,p1,p2,fl,fu=>
 if decide (p1.n≥(M.l.length:Int))then
 some ((Tm.mk 0 0 []),false,0,fl,fu)
 else
 zR M.l p1.n>>=fun x2=>
 if x2.kind != 1 then
 some ((Tm.mk 0 0 []),false,0,fl,fu)
 else
 zR M.args p1.n>>=fun x5=>
 if decide ((p2.length:Int)<x5)then
 some ((Tm.mk 0 0 []),false,0,fl,fu)
 else
 zR p2 (w64 (x5-1))>>=fun x8=>
 zGY qq M x8 fl fu>>=fun r10=>
 if r10.2.1 != 0 then
 some ((Tm.mk 0 0 []),false,r10.2.1,r10.2.2.1,r10.2.2.2)
 else
 zLO qq M r10.1>>=fun r13=>
 if r13.2.2 then
 zR M.l r13.1>>=fun x16=>
 if x16.fam != p1.n then
 some ((Tm.mk 0 0 []),false,0,r10.2.2.1,r10.2.2.2)
 else
 zR p1.sub 0>>=fun x19=>
 gsl p2 0 (w64 ((w64 (x2.pars+1))+(x2.cons.length:Int)))>>=fun x21=>
 gsl r13.2.1 x2.pars (r13.2.1.length:Int)>>=fun x23=>
 zJn qq M.rl M.parts p1.n x19.n r13.1 x21 x23>>=fun r25=>
 gsl p2 x5 (p2.length:Int)>>=fun x27=>
 cM qq r25.1 x27>>=fun r29=>
 some (r29,true,r25.2,r10.2.2.1,r10.2.2.2)
 else
 some ((Tm.mk 0 0 []),false,0,r10.2.2.1,r10.2.2.2)
end
abbrev zWB (M:xE) (p1:Tm) (fl fu:Int) (r:Tm×Int×Int×Int) (C:Cf):Prop:=C 137 [mB M 1,mR M,.cells [ai fl,ai fu]] [.mp 0 0,tmA p1,.mp 2 0] (.tup [tmA r.1,ai r.2.1]) [mB M 1,mR M,.cells [ai r.2.2.1,ai r.2.2.2]] 0
abbrev zZw (M:xE) (p1:Tm) (fl fu:Int) (r:Tm×Bool×Int×Int×Int) (C:Cf):Prop:=C 174 [mB M 1,mR M,.cells [ai fl,ai fu]] [.mp 0 0,tmA p1,.mp 2 0] (.tup [tmA r.1,ab r.2.1,ai r.2.2.1]) [mB M 1,mR M,.cells [ai r.2.2.2.1,ai r.2.2.2.2]] 0
abbrev zZv (M:xE) (p1:Tm) (p2:List Tm) (fl fu:Int) (r:Tm×Bool×Int×Int×Int) (C:Cf):Prop:=C 210 [mB M 1,mR M,.cells [ai fl,ai fu]] [.mp 0 0,tmA p1,slv zF p2 .no,.mp 2 0] (.tup [tmA r.1,ab r.2.1,ai r.2.2.1]) [mB M 1,mR M,.cells [ai r.2.2.2.1,ai r.2.2.2.2]] 0
abbrev zZu (M:xE) (p1:Tm) (p2:List Tm) (fl fu:Int) (r:Tm×Bool×Int×Int×Int) (C:Cf):Prop:=C 211 [mB M 1,mR M,.cells [ai fl,ai fu]] [.mp 0 0,tmA p1,slv zF p2 .no,.mp 2 0] (.tup [tmA r.1,ab r.2.1,ai r.2.2.1]) [mB M 1,mR M,.cells [ai r.2.2.2.1,ai r.2.2.2.2]] 0
theorem yCV{M p1 fl fu r}(h:zWB M p1 fl fu r Ci):zWB M p1 fl fu r Ct:=⟨h,⟨(lz rfl),⟨tv,tv,⟨tv,dT _⟩,tv⟩,(lz rfl),tv⟩,(fMa (lz rfl) (zA ⟨tv,tv,tv⟩ zB)),⟨⟨tv,tv,dT _,tv⟩,tv,tv⟩,(fMf (lz rfl) (zA ⟨tv,tv,tv⟩ zB))⟩
theorem rU:Qf 174 Tryz.f174:=⟨Tryz.func174,rfl⟩
theorem rV{M p1 fl fu r}(h:zZw M p1 fl fu r Ci):zZw M p1 fl fu r Ct:=⟨h,⟨(lz rfl),⟨tv,tv,⟨tv,dT _⟩,tv⟩,(lz rfl),tv⟩,(fMa (lz rfl) (zA ⟨tv,tv,tv⟩ zB)),⟨⟨tv,tv,dT _,tv⟩,tv,tv,tv⟩,(fMf (lz rfl) (zA ⟨tv,tv,tv⟩ zB))⟩
theorem zTA:Qf 210 Tryz.f210:=⟨Tryz.func210,rfl⟩
theorem zTB{M p1 p2 fl fu r}(h:zZv M p1 p2 fl fu r Ci):zZv M p1 p2 fl fu r Ct:=⟨h,⟨(lz rfl),⟨tv,tv,⟨tv,dT _⟩,tv⟩,⟨tv,dT _⟩,(lz rfl),tv⟩,(fMa (lz rfl) (zA ⟨tv,tv,tv⟩ zB)),⟨⟨tv,tv,dT _,tv⟩,tv,tv,tv⟩,(fMf (lz rfl) (zA ⟨tv,tv,tv⟩ zB))⟩
theorem zLQ:Qf 211 Tryz.f211:=⟨Tryz.func211,rfl⟩
theorem zLR{M p1 p2 fl fu r}(h:zZu M p1 p2 fl fu r Ci):zZu M p1 p2 fl fu r Ct:=⟨h,⟨(lz rfl),⟨tv,tv,⟨tv,dT _⟩,tv⟩,⟨tv,dT _⟩,(lz rfl),tv⟩,(fMa (lz rfl) (zA ⟨tv,tv,tv⟩ zB)),⟨⟨tv,tv,dT _,tv⟩,tv,tv,tv⟩,(fMf (lz rfl) (zA ⟨tv,tv,tv⟩ zB))⟩
theorem lI:∀qq:Nat,(∀M p1 fl fu r,zGY qq M p1 fl fu=some r->zWB M p1 fl fu r Ct)∧(∀M xP wQ wD wE pI r,fM qq M xP wQ wD wE pI=some r->(∀j,dL 3 (inn (inn (rgt (inn (rgt (bod Tryz.f137)))))) (sp j 28 0 [(0,.mp 0 0),(2,.mp 2 0),(4,.mp 3 0),(6,.mp 4 0)]) (⟨[(0,mB M 1),(1,mR M),(2,.cells [ai xP,ai wQ]),(3,.cells [ai wD,ai wE,slv zF pI .no]),(4,.cells [ai 0,ai 0,slv zF ([]:List Tm) .nl])],5,[],0,[]⟩) (fQ 3 (nQ 3 Tryz.f137 (.tup [tmA r.1,ai r.2.1]) [mB M 1,mR M,.cells [ai r.2.2.1,ai r.2.2.2]] 0) [.blk 0])))∧(∀M p1 fl fu r,zTa qq M p1 fl fu=some r->zZw M p1 fl fu r Ct)∧(∀M p1 p2 fl fu r,zPI qq M p1 p2 fl fu=some r->zZv M p1 p2 fl fu r Ct)∧(∀M p1 p2 fl fu r,zPJ qq M p1 p2 fl fu=some r->zZu M p1 p2 fl fu r Ct):=by
 intro qq
 induction qq with
 |zero=>
  exact⟨fun _ _ _ _ _ h=>nn h,fun _ _ _ _ _ _ _ h=>nn h,fun _ _ _ _ _ h=>nn h,fun _ _ _ _ _ _ h=>nn h,fun _ _ _ _ _ _ h=>nn h⟩
 |succ qq ih=>
  obtain⟨zXE,zJb,yBq,zXF,zXG⟩:=ih
  refine⟨?_,?_,?_,?_,?_⟩
  intro M p1 fl fu r h
  rw[zGY]at h
  exact yCV (tH ⟨Tryz.func137,rfl⟩ 0 [] [0,1,2,3,4] [] [0,2,4,6] (oD (dT ([]:List Tm))<|oD (dT p1.sub)<|oD (dC M.parts)<|oD (dE M.rl)<|oD (dI M.own)<|oD (dI M.args)<|oD (dE M.l) o0) (zJb _ _ _ _ _ _ _ h))
  intro M xP wQ wD wE pI r h
  rw[fM]at h
  obtain⟨r1,h2,h⟩:=zC h
  have k:=oC 1 [0,1,2] (yBq _ _ _ _ _ h2) o0
  obtain⟨h3,h⟩|⟨h3,h⟩:=spl h
  have k:=oB 1 h3 k
  obtain⟨h4,h⟩|⟨h4,h⟩:=spl h
  cases h
  exact fun j=>lF 1 [0,1,2] (oD (dT ([]:List Tm))<|oDM M<|oB 2 h4 k)
  exact fun j=>lH 2 [] [0,1,2,3,4] [] [0,2,4,6] (oD (dT ([]:List Tm))<|oD (dT r1.1.sub)<|oDM M<|oB 2 h4 k) (zJb _ _ _ _ _ _ _ h)
  have k:=oB 1 h3 k
  obtain⟨h5,h⟩|⟨h5,h⟩:=spl h
  cases h
  exact fun j=>lF 1 [0,1,2] (oD (dT ([]:List Tm))<|oDM M<|oB 2 h5 k)
  cases h
  exact fun j=>lF 2 [0,1,2] (oD (dT pI)<|oDM M<|oB 2 h5 k)
  intro M p1 fl fu r h
  rw[zTa]at h
  have z {os ob} (k:Oz os ob):=oD (dT p1.sub)<|oDM M<|k
  obtain⟨r1,h2,h⟩:=zC h
  have k:=oC 1 [] (zLl h2) o0
  obtain⟨h3,h⟩|⟨h3,h⟩:=spl h
  have k:=oB 5 h3 k
  obtain⟨h4,h⟩|⟨h4,h⟩:=spl h
  obtain⟨x5,h6,h⟩:=zC h
  obtain⟨x7,h8,h⟩:=zC h
  obtain⟨r9,h10,h⟩:=zC h
  obtain⟨x11,h12,h⟩:=zC h
  obtain⟨r13,h14,h⟩:=zC h
  have k:=oC 0 [] (zEH h14)<|oA 4 (rI h12)<|oC 1 [] (yCc h10)<|oA 1 (yN (o:=.no) h8)<|oA 1 (yN (o:=.no) h6)<|oB 1 h4 k
  obtain⟨h15,h⟩|⟨h15,h⟩:=spl h
  cases h
  exact rV (tF rU 2 [0,1,2] (z<|oB 1 h15 k))
  obtain⟨r16,h17,h⟩:=zC h
  have k:=oC 1 [2] (c98 h17)<|oB 1 h15 k
  obtain⟨h18,h⟩|⟨h18,h⟩:=spl h
  cases h
  exact rV (tF rU 2 [0,1,2] (z<|oB 0 h18 k))
  obtain⟨r19,h20,h⟩:=zC h
  cases h
  exact rV (tF rU 5 [0,1,2] (oD (dT r19.1.sub)<|oDM M<|oC 1 [] (zLN h20)<|oB 0 h18 k))
  obtain⟨r21,h22,h⟩:=zC h
  have k:=oC 1 [0,1] (zTf h22)<|oB 1 h4 k
  obtain⟨h23,h⟩|⟨h23,h⟩:=spl h
  obtain⟨x24,h25,h⟩:=zC h
  obtain⟨r26,h27,h⟩:=zC h
  obtain⟨r28,h29,h⟩:=zC h
  have k:=oC 3 [2] (c98 h29)<|oC 1 [] (zEH h27)<|oA 2 (xM (o:=.no) h25)<|oB 0 h23 k
  obtain⟨h30,h⟩|⟨h30,h⟩:=spl h
  cases h
  exact rV (tF rU 2 [0,1,2] (z<|oB 0 h30 k))
  obtain⟨r31,h32,h⟩:=zC h
  cases h
  exact rV (tF rU 5 [0,1,2] (oD (dT r31.1.sub)<|oDM M<|oC 1 [] (zLN h32)<|oB 0 h30 k))
  obtain⟨r33,h34,h⟩:=zC h
  have k:=oC 1 [0,1] (zTf h34)<|oB 0 h23 k
  obtain⟨h35,h⟩|⟨h35,h⟩:=spl h
  obtain⟨r36,h37,h⟩:=zC h
  have k:=oC 1 [0,1,2] (zXF _ _ _ _ _ _ h37)<|oB 0 h35 k
  obtain⟨h38,h⟩|⟨h38,h⟩:=spl h
  have k:=oB 1 h38 k
  obtain⟨h39,h⟩|⟨h39,h⟩:=spl h
  cases h
  exact rV (tF rU 2 [0,1,2] (z<|oB 2 h39 k))
  obtain⟨r40,h41,h⟩:=zC h
  have k:=oC 1 [2] (c98 h41)<|oB 2 h39 k
  obtain⟨h42,h⟩|⟨h42,h⟩:=spl h
  cases h
  exact rV (tF rU 2 [0,1,2] (z<|oB 0 h42 k))
  obtain⟨r43,h44,h⟩:=zC h
  cases h
  exact rV (tF rU 5 [0,1,2] (oD (dT r43.1.sub)<|oDM M<|oC 1 [] (zLN h44)<|oB 0 h42 k))
  have k:=oB 1 h38 k
  obtain⟨h45,h⟩|⟨h45,h⟩:=spl h
  cases h
  exact rV (tF rU 2 [0,1,2] (z<|oB 2 h45 k))
  cases h
  exact rV (tF rU 3 [0,1,2] (z<|oB 2 h45 k))
  have k:=oB 0 h35 k
  obtain⟨h46,h⟩|⟨h46,h⟩:=spl h
  obtain⟨r47,h48,h⟩:=zC h
  have k:=oC 1 [0,1,2] (zXG _ _ _ _ _ _ h48)<|oB 1 h46 k
  obtain⟨h49,h⟩|⟨h49,h⟩:=spl h
  have k:=oB 1 h49 k
  obtain⟨h50,h⟩|⟨h50,h⟩:=spl h
  cases h
  exact rV (tF rU 2 [0,1,2] (z<|oB 2 h50 k))
  obtain⟨r51,h52,h⟩:=zC h
  have k:=oC 1 [2] (c98 h52)<|oB 2 h50 k
  obtain⟨h53,h⟩|⟨h53,h⟩:=spl h
  cases h
  exact rV (tF rU 2 [0,1,2] (z<|oB 0 h53 k))
  obtain⟨r54,h55,h⟩:=zC h
  cases h
  exact rV (tF rU 5 [0,1,2] (oD (dT r54.1.sub)<|oDM M<|oC 1 [] (zLN h55)<|oB 0 h53 k))
  have k:=oB 1 h49 k
  obtain⟨h56,h⟩|⟨h56,h⟩:=spl h
  cases h
  exact rV (tF rU 2 [0,1,2] (z<|oB 2 h56 k))
  cases h
  exact rV (tF rU 3 [0,1,2] (z<|oB 2 h56 k))
  cases h
  exact rV (tF rU 4 [0,1,2] (z<|oB 1 h46 k))
  obtain⟨r57,h58,h⟩:=zC h
  have k:=oC 1 [0,1] (zTf h58)<|oB 5 h3 k
  obtain⟨h59,h⟩|⟨h59,h⟩:=spl h
  obtain⟨x60,h61,h⟩:=zC h
  obtain⟨r62,h63,h⟩:=zC h
  obtain⟨r64,h65,h⟩:=zC h
  have k:=oC 3 [2] (c98 h65)<|oC 1 [] (zEH h63)<|oA 2 (xM (o:=.no) h61)<|oB 0 h59 k
  obtain⟨h66,h⟩|⟨h66,h⟩:=spl h
  cases h
  exact rV (tF rU 2 [0,1,2] (z<|oB 0 h66 k))
  obtain⟨r67,h68,h⟩:=zC h
  cases h
  exact rV (tF rU 5 [0,1,2] (oD (dT r67.1.sub)<|oDM M<|oC 1 [] (zLN h68)<|oB 0 h66 k))
  obtain⟨r69,h70,h⟩:=zC h
  have k:=oC 1 [0,1] (zTf h70)<|oB 0 h59 k
  obtain⟨h71,h⟩|⟨h71,h⟩:=spl h
  obtain⟨r72,h73,h⟩:=zC h
  have k:=oC 1 [0,1,2] (zXF _ _ _ _ _ _ h73)<|oB 0 h71 k
  obtain⟨h74,h⟩|⟨h74,h⟩:=spl h
  have k:=oB 1 h74 k
  obtain⟨h75,h⟩|⟨h75,h⟩:=spl h
  cases h
  exact rV (tF rU 2 [0,1,2] (z<|oB 2 h75 k))
  obtain⟨r76,h77,h⟩:=zC h
  have k:=oC 1 [2] (c98 h77)<|oB 2 h75 k
  obtain⟨h78,h⟩|⟨h78,h⟩:=spl h
  cases h
  exact rV (tF rU 2 [0,1,2] (z<|oB 0 h78 k))
  obtain⟨r79,h80,h⟩:=zC h
  cases h
  exact rV (tF rU 5 [0,1,2] (oD (dT r79.1.sub)<|oDM M<|oC 1 [] (zLN h80)<|oB 0 h78 k))
  have k:=oB 1 h74 k
  obtain⟨h81,h⟩|⟨h81,h⟩:=spl h
  cases h
  exact rV (tF rU 2 [0,1,2] (z<|oB 2 h81 k))
  cases h
  exact rV (tF rU 3 [0,1,2] (z<|oB 2 h81 k))
  have k:=oB 0 h71 k
  obtain⟨h82,h⟩|⟨h82,h⟩:=spl h
  obtain⟨r83,h84,h⟩:=zC h
  have k:=oC 1 [0,1,2] (zXG _ _ _ _ _ _ h84)<|oB 1 h82 k
  obtain⟨h85,h⟩|⟨h85,h⟩:=spl h
  have k:=oB 1 h85 k
  obtain⟨h86,h⟩|⟨h86,h⟩:=spl h
  cases h
  exact rV (tF rU 2 [0,1,2] (z<|oB 2 h86 k))
  obtain⟨r87,h88,h⟩:=zC h
  have k:=oC 1 [2] (c98 h88)<|oB 2 h86 k
  obtain⟨h89,h⟩|⟨h89,h⟩:=spl h
  cases h
  exact rV (tF rU 2 [0,1,2] (z<|oB 0 h89 k))
  obtain⟨r90,h91,h⟩:=zC h
  cases h
  exact rV (tF rU 5 [0,1,2] (oD (dT r90.1.sub)<|oDM M<|oC 1 [] (zLN h91)<|oB 0 h89 k))
  have k:=oB 1 h85 k
  obtain⟨h92,h⟩|⟨h92,h⟩:=spl h
  cases h
  exact rV (tF rU 2 [0,1,2] (z<|oB 2 h92 k))
  cases h
  exact rV (tF rU 3 [0,1,2] (z<|oB 2 h92 k))
  cases h
  exact rV (tF rU 4 [0,1,2] (z<|oB 1 h82 k))
  intro M p1 p2 fl fu r h
  rw[zPI]at h
  have z {os ob} (k:Oz os ob):=oD (dT ([]:List Tm))<|oDM M<|k
  obtain⟨x1,h2,h⟩:=zC h
  have k:=oA 2 (xM (o:=.no) h2) o0
  obtain⟨h3,h⟩|⟨h3,h⟩:=spl h
  cases h
  exact zTB (tF zTA 1 [0,1,2] (z<|oB 2 h3 k))
  obtain⟨x4,h5,h⟩:=zC h
  obtain⟨r6,h7,h⟩:=zC h
  have k:=oC 1 [0,1,2] (zXE _ _ _ _ _ h7)<|oA 0 (yN (o:=.no) h5)<|oB 2 h3 k
  obtain⟨h8,h⟩|⟨h8,h⟩:=spl h
  cases h
  exact zTB (tF zTA 1 [0,1,2] (z<|oB 3 h8 k))
  obtain⟨r9,h10,h⟩:=zC h
  have k:=oC 1 [0,1] (zZz h10)<|oB 3 h8 k
  obtain⟨h11,h⟩|⟨h11,h⟩:=spl h
  obtain⟨x12,h13,h⟩:=zC h
  have k:=oA 3 (xM (o:=.no) h2)<|oA 2 (xM (o:=.no) h13)<|oB 2 h11 k
  obtain⟨h14,h⟩|⟨h14,h⟩:=spl h
  cases h
  exact zTB (tF zTA 1 [0,1,2] (z<|oB 1 h14 k))
  obtain⟨x15,h16,h⟩:=zC h
  obtain⟨r17,h18,h⟩:=zC h
  obtain⟨x19,h20,h⟩:=zC h
  obtain⟨r21,h22,h⟩:=zC h
  cases h
  exact zTB (tF zTA 1 [0,1,2] (oD (dT r21.sub)<|oDM M<|oC 0 [] (zEH h22)<|oA 5 (rI h20)<|oC 0 [1] (yCS h18)<|oA 1 (rI h16)<|oA 3 (xM (o:=.no) h13)<|oB 1 h14 k))
  cases h
  exact zTB (tF zTA 2 [0,1,2] (z<|oB 2 h11 k))
  intro M p1 p2 fl fu r h
  rw[zPJ]at h
  have z {os ob} (k:Oz os ob):=oD (dT ([]:List Tm))<|oDM M<|k
  obtain⟨h1,h⟩|⟨h1,h⟩:=spl h
  cases h
  exact zLR (tF zLQ 1 [0,1,2] (z<|oB 3 h1 o0))
  obtain⟨x2,h3,h⟩:=zC h
  have k:=oA 2 (xM (o:=.no) h3)<|oB 3 h1 o0
  obtain⟨h4,h⟩|⟨h4,h⟩:=spl h
  cases h
  exact zLR (tF zLQ 1 [0,1,2] (z<|oB 1 h4 k))
  obtain⟨x5,h6,h⟩:=zC h
  have k:=oA 3 (pA (o:=.no) h6)<|oB 1 h4 k
  obtain⟨h7,h⟩|⟨h7,h⟩:=spl h
  cases h
  exact zLR (tF zLQ 1 [0,1,2] (z<|oB 1 h7 k))
  obtain⟨x8,h9,h⟩:=zC h
  obtain⟨r10,h11,h⟩:=zC h
  have k:=oC 1 [0,1,2] (zXE _ _ _ _ _ h11)<|oA 2 (yN (o:=.no) h9)<|oA 2 (pA (o:=.no) h6)<|oB 1 h7 k
  obtain⟨h12,h⟩|⟨h12,h⟩:=spl h
  cases h
  exact zLR (tF zLQ 1 [0,1,2] (z<|oB 3 h12 k))
  obtain⟨r13,h14,h⟩:=zC h
  have k:=oC 1 [0,1] (zZz h14)<|oB 3 h12 k
  obtain⟨h15,h⟩|⟨h15,h⟩:=spl h
  obtain⟨x16,h17,h⟩:=zC h
  have k:=oA 2 (xM (o:=.no) h17)<|oB 2 h15 k
  obtain⟨h18,h⟩|⟨h18,h⟩:=spl h
  cases h
  exact zLR (tF zLQ 1 [0,1,2] (z<|oB 2 h18 k))
  obtain⟨x19,h20,h⟩:=zC h
  obtain⟨x21,h22,h⟩:=zC h
  obtain⟨x23,h24,h⟩:=zC h
  obtain⟨r25,h26,h⟩:=zC h
  obtain⟨x27,h28,h⟩:=zC h
  obtain⟨r29,h30,h⟩:=zC h
  cases h
  exact zLR (tF zLQ 1 [0,1,2] (oD (dT r29.sub)<|oDM M<|oC 0 [] (zEH h30)<|oA 4 (rI h28)<|oC 0 [1] (yCT h26)<|oA 1 (rI h24)<|oA 6 (oT h22)<|oA 5 (yN (o:=.no) h20)<|oA 2 (xM (o:=.no) h3)<|oB 2 h18 k))
  cases h
  exact zLR (tF zLQ 2 [0,1,2] (z<|oB 2 h15 k))
theorem yCW{qq M p1 fl fu r}(h:zGY qq M p1 fl fu=some r):zWB M p1 fl fu r Ct:=(lI _).1 _ _ _ _ _ h
abbrev er4 (r:Tm×Int×Int×Int):Int:=r.2.1
abbrev er5 (r:Tm×Bool×Int×Int×Int):Int:=r.2.2.1
theorem fN(l:List Ent):(wC l).l=l:=rfl
theorem zDF(l:List Ent):(wC l).rl=l:=rfl
theorem gD(l:List Ent):(wC l).parts=evA l l.length 0:=rfl
noncomputable def gE(l:List Ent)(i:Int)(a:List Tm):Tm×Int:=
 open Classical in if h:∃r,Evt (fun q=>zJo q l (evA l l.length 0) i a) r then h.choose else(zT,5)
theorem gF{N:ByteArray->Bool}(l:List Ent)(i:Int)(a:List Tm)(hE:wI N l)(ho:OkA a)(hl:a.length≤1073741824):Evt (fun q=>zJo q l (evA l l.length 0) i a) (gE l i a)∧zGQ l i a (gE l i a):=by
 obtain⟨r,hr,hk⟩:=zPF l (evA l l.length 0) i a hE ho hl
 have hx:∃r,Evt (fun q=>zJo q l (evA l l.length 0) i a) r:=⟨r,hr⟩
 have e:gE l i a=r:=by
  unfold gE
  rw[dif_pos hx]
  exact hx.choose_spec.det hr
 rw[e];exact⟨hr,hk⟩
noncomputable def zBV(l:List Ent)(d lev c:Int)(args own:List Tm):Tm×Int:=
 open Classical in if h:∃r,Evt (fun q=>zJn q l (evA l l.length 0) d lev c args own) r then h.choose else(zT,5)
theorem cU{N:ByteArray->Bool}(l:List Ent)(d lev c:Int)(args own:List Tm)(hE:wI N l)(ho4:OkA args)(ho5:OkA own)(hl4:args.length≤65535)(hl5:own.length≤65535):Evt (fun q=>zJn q l (evA l l.length 0) d lev c args own) (zBV l d lev c args own)∧zLL l d lev c args own (zBV l d lev c args own):=by
 obtain⟨r,hr,hk⟩:=zTp l d lev c args own hE ho4 ho5 hl4 hl5
 have hx:∃r,Evt (fun q=>zJn q l (evA l l.length 0) d lev c args own) r:=⟨r,hr⟩
 have e:zBV l d lev c args own=r:=by
  unfold zBV
  rw[dif_pos hx]
  exact hx.choose_spec.det hr
 rw[e];exact⟨hr,hk⟩
inductive Act where
 |none
 |red (Y:Tm) (e:Int)
 |tgt (a:Tm)
noncomputable def vO(l:List Ent)(x:Tm):Act:=
 if (hdT x).k=4∧0<(arT x).length then .red (apT (iW (nth (hdT x).sub 1) [nth (arT x) 0]).1 ((arT x).drop 1)) (iW (nth (hdT x).sub 1) [nth (arT x) 0]).2
 else if tZ l (hdT x)=3 then .red (apT (ent l (hdT x).n).body (arT x)) 0
 else if tZ l (hdT x)=4 then(if ((arT x).length:Int)≤(ent l (hdT x).n).pars then .none else .tgt (nth (arT x) (ent l (hdT x).n).pars))
 else if (hdT x).k=7 then(if isT l (hdT x).n 1=true∧xR (ent l (hdT x).n)≤(arT x).length then .tgt (nth (arT x) (xR (ent l (hdT x).n)-1))else .none)
 else .none
noncomputable def tC(l:List Ent)(x y:Tm):Option (Tm×Int):=
 if tZ l (hdT x)=4 then
  (if xZ l y∧(ent l (hdT y).n).fam=(ent l (hdT x).n).fam then
   some (apT (gE l (hdT x).n ((arT y).drop (ent l (hdT y).n).pars.toNat)).1 ((arT x).drop ((ent l (hdT x).n).pars+1).toNat),(gE l (hdT x).n ((arT y).drop (ent l (hdT y).n).pars.toNat)).2)
  else none)
 else
  (if xZ l y∧(ent l (hdT y).n).fam=(hdT x).n then
   some (apT (zBV l (hdT x).n (nth (hdT x).sub 0).n (hdT y).n ((arT x).take ((ent l (hdT x).n).pars+1+(ent l (hdT x).n).cons.length).toNat) ((arT y).drop (ent l (hdT x).n).pars.toNat)).1 ((arT x).drop (xR (ent l (hdT x).n)).toNat),
    (zBV l (hdT x).n (nth (hdT x).sub 0).n (hdT y).n ((arT x).take ((ent l (hdT x).n).pars+1+(ent l (hdT x).n).cons.length).toNat) ((arT y).drop (ent l (hdT x).n).pars.toNat)).2)
  else none)
inductive Br (l:List Ent):Tm->Tm->Int->Int->Prop
 |stop {x:Tm}:vO l x = .none->Br l x x 0 0
 |redE {x Y:Tm} {e:Int}:vO l x = .red Y e->e≠0->Br l x zT e 0
 |redL {x Y:Tm}:vO l x = .red Y 0->zL Y=false->Br l x zT 2 1
 |red {x Y y:Tm} {e k:Int}:vO l x = .red Y 0->zL Y=true->Br l Y y e k->Br l x y e (1+k)
 |tgtE {x a z:Tm} {e k:Int}:vO l x = .tgt a->Br l a z e k->e≠0->Br l x zT e k
 |tgtN {x a z:Tm} {k:Int}:vO l x = .tgt a->Br l a z 0 k->tC l x z=none->Br l x x 0 k
 |tgtRE {x a z Y:Tm} {e k:Int}:vO l x = .tgt a->Br l a z 0 k->tC l x z=some (Y,e)->e≠0->Br l x zT e k
 |tgtRL {x a z Y:Tm} {k:Int}:vO l x = .tgt a->Br l a z 0 k->tC l x z=some (Y,0)->zL Y=false->Br l x zT 2 (k+1)
 |tgtR {x a z Y y:Tm} {e k k':Int}:vO l x = .tgt a->Br l a z 0 k->tC l x z=some (Y,0)->zL Y=true->Br l Y y e k'->Br l x y e (k+1+k')
inductive On (l:List Ent) (x:Tm):Tm->Bool->Int->Int->Prop
 |stop:vO l x = .none->On l x x false 0 0
 |redE {Y:Tm} {e:Int}:vO l x = .red Y e->e≠0->On l x x false e 0
 |redL {Y:Tm}:vO l x = .red Y 0->zL Y=false->On l x zT true 2 1
 |red {Y:Tm}:vO l x = .red Y 0->zL Y=true->On l x Y true 0 1
 |tgtE {a z:Tm} {e k:Int}:vO l x = .tgt a->Br l a z e k->e≠0->On l x x false e k
 |tgtN {a z:Tm} {k:Int}:vO l x = .tgt a->Br l a z 0 k->tC l x z=none->On l x x false 0 k
 |tgtRE {a z Y:Tm} {e k:Int}:vO l x = .tgt a->Br l a z 0 k->tC l x z=some (Y,e)->e≠0->On l x x false e k
 |tgtRL {a z Y:Tm} {k:Int}:vO l x = .tgt a->Br l a z 0 k->tC l x z=some (Y,0)->zL Y=false->On l x zT true 2 (k+1)
 |tgtR {a z Y:Tm} {k:Int}:vO l x = .tgt a->Br l a z 0 k->tC l x z=some (Y,0)->zL Y=true->On l x Y true 0 (k+1)
theorem Br.nn{l:List Ent}{x y:Tm}{e k:Int}(h:Br l x y e k):0≤k:=by
 induction h<;>omega
theorem On.still{l:List Ent}{x y:Tm}{k:Int}(h:On l x y false 0 k):y=x∧Br l x x 0 k:=by
 cases h with
 |stop h=>exact⟨rfl,.stop h⟩
 |redE _ h=>exact absurd rfl h
 |tgtE _ _ h=>exact absurd rfl h
 |tgtN a b c=>exact⟨rfl,.tgtN a b c⟩
 |tgtRE _ _ _ h=>exact absurd rfl h
theorem On.err{l:List Ent}{x y:Tm}{d:Bool}{e k:Int}(h:On l x y d e k)(he:e≠0):Br l x zT e k:=by
 cases h with
 |redE a b=>exact .redE a b
 |redL a b=>exact .redL a b
 |tgtE a b c=>exact .tgtE a b c
 |tgtRE a b c d=>exact .tgtRE a b c d
 |tgtRL a b c d=>exact .tgtRL a b c d
 |_=>exact absurd rfl he
theorem On.step{l:List Ent}{x Y:Tm}{k:Int}(h:On l x Y true 0 k):zL Y=true∧1≤k∧∀y e k',Br l Y y e k'->Br l x y e (k+k'):=by
 cases h with
 |red a b=>exact⟨b,by omega,fun y e k' h=>.red a b h⟩
 |tgtR a b c d=>exact⟨d,by have:=b.nn;omega,fun y e k' h=>.tgtR a b c d h⟩
def HB(l:List Ent)(x:Tm)(f:Int):Prop:=Ou (fun L U q=>zGY q (wC l) x L U) er4 (fun R k=>∃y e,Br l x y e k∧R=fun L U=>(y,e,L,U)) (∀y e k,Br l x y e k->f<k) f
def QO(l:List Ent)(x:Tm)(R:Int->Int->Tm×Bool×Int×Int×Int)(k:Int):Prop:=∃Y d e,On l x Y d e k∧R=fun L U=>(Y,d,e,L,U)
def QF(l:List Ent)(x:Tm)(R:Int->Int->Tm×Bool×Int×Int×Int)(k:Int):Prop:=
 (vO l x = .none∧k=0∧∃Y,R=fun L U=>(Y,false,0,L,U)) ∨
 ∃a z e,vO l x = .tgt a∧Br l a z e k∧((e≠0∧∃Y,R=fun L U=>(Y,false,e,L,U))∨(e=0∧((tC l x z=none∧∃Y,R=fun L U=>(Y,false,0,L,U))∨∃Y e',Y.Ok∧tC l x z=some (Y,e')∧R=fun L U=>(Y,true,e',L,U))))
theorem rW{t:Tm}(hg:yL t=true)(h:t.k=3∨t.k=4∨t.k=5):∃a b,t.sub=[a,b]∧yL a=true∧yL b=true:=by
 obtain⟨k,n,l⟩:=t
 have hh:=xH hg
 obtain⟨a,b,rfl⟩:=zRG ((xI hh.1).2.2.2.2.2.1 h).1
 have hc:=xD hh.2
 exact⟨a,b,rfl,hc.1,(xD hc.2).1⟩
theorem zPK{N:ByteArray->Bool}(l:List Ent)(hE:wI N l)(x:Tm)(hs:zL x=true)(f:Int)(hf:0≤f)(h3:(hdT x).k≠4)(hk:tZ l (hdT x)=4)(hb:∀a∈arT x,HB l a f)(hB:∀a y k,zL a=true->Br l a y 0 k->zL y=true) :
  Ou (fun L U q=>zPI q (wC l) (hdT x) (arT x) L U) er5 (QF l x) (∃a,vO l x = .tgt a∧∀z e k,Br l a z e k->f<k) f:=by
 have hh:=uJ hs
 have h0:=jJ (zO hh).2.2
 have hks:=wN hk (by decide)
 have h1:=hks.2.1
 have ho:OkA (arT x):=fun y hy=>yA (yO hs hy)
 have hl:(arT x).length≤8192:=by
  have h:=zO hs
  have:=tO _ h.2.2
  omega
 have hp:=(yW (hE.2 _ h0 h1)).2.2.2.1 hks.2.2
 unfold zBS at hp
 simp only[Bool.and_eq_true]at hp
 have hw:=rC hp.1
 have hfam:=vD ((yW (hE.2 _ hw.1 (by omega))).2.1 hw.2.2.1)
 have hact:vO l x=if ((arT x).length:Int)≤(ent l (hdT x).n).pars then .none else .tgt (nth (arT x) (ent l (hdT x).n).pars):=by
  unfold vO
  rw[if_neg (fun h=>h3 h.1),if_neg (by omega),if_pos hk]
 have hre:∀y,tC l x y=if xZ l y∧(ent l (hdT y).n).fam=(ent l (hdT x).n).fam then
   some (apT (gE l (hdT x).n ((arT y).drop (ent l (hdT y).n).pars.toNat)).1 ((arT x).drop ((ent l (hdT x).n).pars+1).toNat),(gE l (hdT x).n ((arT y).drop (ent l (hdT y).n).pars.toNat)).2)
  else none:=fun y=>by
  unfold tC
  rw[if_pos hk]
 refine Ou.succ ?_
 simp only[zPI,fN,zDF,gD]
 refine Ou.pure (yI h0 h1) (Ou.ite (fun hn=>Ou.ret hf (.inl ⟨by rw[hact,if_pos (of_decide_eq_true hn)],rfl,_,rfl⟩)) fun hn=>?_)
 have hn':=of_decide_eq_false hn
 rw[if_neg hn']at hact
 have hlt:(ent l (hdT x).n).pars<(arT x).length:=by omega
 have hp0:0≤(ent l (hdT x).n).pars:=by omega
 refine Ou.pure (uN hp0 hlt) (Ou.bind (hb _ (sJ hp0 hlt)) (fun h=>⟨_,hact,h⟩) (fun r hr=>⟨_,Evt.ifT (by show (r.2.1 != 0)=true;rw[show r.2.1=8 from hr];decide) Evt.ret,hr⟩) ?_)
 rintro R k k0 k1 ⟨y,e,hbr,rfl⟩
 dsimp only
 refine Ou.ite (fun h=>Ou.ret (by omega) (.inr ⟨_,y,e,hact,by rwa[Int.add_zero],.inl ⟨by simpa using h,_,rfl⟩⟩)) fun h=>?_
 have he:e=0:=by simpa using h
 subst he
 have hy:=hB _ _ _ (yO hs (sJ hp0 hlt)) hbr
 refine Ou.evt (zCn l y hy) ?_
 unfold jK
 by_cases hc:xZ l y
 ·rw[if_pos hc]
  have hcs:=wY hy hc
  obtain⟨A,z,a1,-,-,a4,a5,a6,a7,-⟩:=uK hE hcs.1 hcs.2.1 hcs.2.2.1
  refine Ou.ifT rfl (Ou.pure (yI hcs.1 hcs.2.1) (Ou.ite (fun hf'=>Ou.ret (by omega) (.inr ⟨_,y,0,hact,by rwa[Int.add_zero],.inr ⟨rfl,.inl ⟨?_,_,rfl⟩⟩⟩)) fun hf'=>?_))
  ·rw[hre,if_neg (fun h=>by simp[h.2]at hf')]
  ·have hf2:(ent l (hdT y).n).fam=(ent l (hdT x).n).fam:=by simpa using hf'
   have hra:OkA (arT y):=fun x hx=>yA (yO hy hx)
   have hrl:(arT y).length≤8192:=by
    have h:=zO hy
    have:=tO _ h.2.2
    omega
   have hlen:=hcs.2.2.2
   have hX:=gF l (hdT x).n ((arT y).drop (ent l (hdT y).n).pars.toNat) hE (hra.drop _) (by rw[List.length_drop];omega)
   refine Ou.pure (rQ a6 (by show (ent l (hdT y).n).pars≤((arT y).length:Int);omega)) (Ou.evt hX.1 ?_)
   rw[yK (x:=(ent l (hdT x).n).pars+1) (by omega) (by omega)]
   refine Ou.pure (rQ (by omega) (by omega)) (Ou.evt (pC _ _ (by rw[List.length_drop];omega)) (Ou.ret (by omega) (.inr ⟨_,y,0,hact,by rwa[Int.add_zero],.inr ⟨rfl,.inr ⟨_,_,?_,?_,rfl⟩⟩⟩)))
   ·exact mJ _ _ hX.2.1 (ho.drop _)
   ·rw[hre,if_pos ⟨hc,hf2⟩]
 ·rw[if_neg hc]
  refine Ou.ifF rfl (Ou.ret (by omega) (.inr ⟨_,y,0,hact,by rwa[Int.add_zero],.inr ⟨rfl,.inl ⟨?_,_,rfl⟩⟩⟩))
  rw[hre,if_neg (fun h=>hc h.1)]
theorem zTC{N:ByteArray->Bool}(l:List Ent)(hE:wI N l)(x:Tm)(hs:zL x=true)(f:Int)(hf:0≤f)(hk:(hdT x).k=7)(hb:∀a∈arT x,HB l a f)(hB:∀a y k,zL a=true->Br l a y 0 k->zL y=true) :
  Ou (fun L U q=>zPJ q (wC l) (hdT x) (arT x) L U) er5 (QF l x) (∃a,vO l x = .tgt a∧∀z e k,Br l a z e k->f<k) f:=by
 have hh:=uJ hs
 have hg:=(zO hh).2.2
 have h0:=jJ hg
 have ho:OkA (arT x):=fun y hy=>yA (yO hs hy)
 have hl:(arT x).length≤8192:=by
  have h:=zO hs
  have:=tO _ h.2.2
  omega
 have hkk:∀n:Int,n≠0->tZ l (hdT x)≠n:=fun n hn e=>by have:=(wN e hn).1;omega
 have hact:vO l x=if isT l (hdT x).n 1=true∧xR (ent l (hdT x).n)≤(arT x).length then .tgt (nth (arT x) (xR (ent l (hdT x).n)-1))else .none:=by
  unfold vO
  rw[if_neg (fun h=>by omega),if_neg (hkk 3 (by decide)),if_neg (hkk 4 (by decide)),if_pos hk]
 have hre:∀y,tC l x y=if xZ l y∧(ent l (hdT y).n).fam=(hdT x).n then
   some (apT (zBV l (hdT x).n (nth (hdT x).sub 0).n (hdT y).n ((arT x).take ((ent l (hdT x).n).pars+1+(ent l (hdT x).n).cons.length).toNat) ((arT y).drop (ent l (hdT x).n).pars.toNat)).1 ((arT x).drop (xR (ent l (hdT x).n)).toNat),
    (zBV l (hdT x).n (nth (hdT x).sub 0).n (hdT y).n ((arT x).take ((ent l (hdT x).n).pars+1+(ent l (hdT x).n).cons.length).toNat) ((arT y).drop (ent l (hdT x).n).pars.toNat)).2)
  else none:=fun y=>by
  unfold tC
  rw[if_neg (hkk 4 (by decide))]
 refine Ou.succ ?_
 simp only[zPJ,fN,zDF,gD]
 refine Ou.ite (fun hn=>Ou.ret hf (.inl ⟨?_,rfl,_,rfl⟩)) fun hn=>?_
 ·rw[hact,if_neg]
  intro h
  have:=(uL h.1).2.1
  have:=of_decide_eq_true hn
  omega
 have h1:(hdT x).n<l.length:=by have:=of_decide_eq_false hn;omega
 refine Ou.pure (yI h0 h1) (Ou.ite (fun hk1=>Ou.ret hf (.inl ⟨?_,rfl,_,rfl⟩)) fun hk1=>?_)
 ·rw[hact,if_neg]
  intro h
  have h2:=(uL h.1).2.2
  rw[h2]at hk1
  simp at hk1
 have hk1':(ent l (hdT x).n).kind=1:=by simpa using hk1
 have hfam:=vD ((yW (hE.2 _ h0 h1)).2.1 hk1')
 have hisT:isT l (hdT x).n 1=true:=by unfold isT;simp[h0,h1,hk1']
 have hargs:xR (ent l (hdT x).n)=(ent l (hdT x).n).pars+2+(ent l (hdT x).n).cons.length+(ent l (hdT x).n).inds:=by unfold xR;rw[if_pos hk1']
 refine Ou.pure (zTe h0 h1) (Ou.ite (fun hn=>Ou.ret hf (.inl ⟨?_,rfl,_,rfl⟩)) fun hn=>?_)
 ·rw[hact,if_neg]
  intro h
  have:=of_decide_eq_true hn
  omega
 have hn':=of_decide_eq_false hn
 rw[if_pos ⟨hisT,by omega⟩]at hact
 rw[yK (x:=xR (ent l (hdT x).n)-1) (by omega) (by omega)]
 have hp0:0≤xR (ent l (hdT x).n)-1:=by omega
 have hlt:xR (ent l (hdT x).n)-1<(arT x).length:=by omega
 refine Ou.pure (uN hp0 hlt) (Ou.bind (hb _ (sJ hp0 hlt)) (fun h=>⟨_,hact,h⟩) (fun r hr=>⟨_,Evt.ifT (by show (r.2.1 != 0)=true;rw[show r.2.1=8 from hr];decide) Evt.ret,hr⟩) ?_)
 rintro R k k0 k1 ⟨y,e,hbr,rfl⟩
 dsimp only
 refine Ou.ite (fun h=>Ou.ret (by omega) (.inr ⟨_,y,e,hact,by rwa[Int.add_zero],.inl ⟨by simpa using h,_,rfl⟩⟩)) fun h=>?_
 have he:e=0:=by simpa using h
 subst he
 have hy:=hB _ _ _ (yO hs (sJ hp0 hlt)) hbr
 refine Ou.evt (zCn l y hy) ?_
 unfold jK
 by_cases hc:xZ l y
 ·rw[if_pos hc]
  have hcs:=wY hy hc
  obtain⟨A,z,a1,-,-,a4,a5,a6,a7,-,-,-,a8,-⟩:=uK hE hcs.1 hcs.2.1 hcs.2.2.1
  refine Ou.ifT rfl (Ou.pure (yI hcs.1 hcs.2.1) (Ou.ite (fun hf'=>Ou.ret (by omega) (.inr ⟨_,y,0,hact,by rwa[Int.add_zero],.inr ⟨rfl,.inl ⟨?_,_,rfl⟩⟩⟩)) fun hf'=>?_))
  ·rw[hre,if_neg (fun h=>by simp[h.2]at hf')]
  ·have hf2:(ent l (hdT y).n).fam=(hdT x).n:=by simpa using hf'
   rw[hf2]at a8
   have hra:OkA (arT y):=fun x hx=>yA (yO hy hx)
   have hrl:(arT y).length≤8192:=by
    have h:=zO hy
    have:=tO _ h.2.2
    omega
   have hlen:=hcs.2.2.2
   have hsub:∃s,(hdT x).sub=[s]:=by
    revert hg hk
    generalize hdT x=y
    intro hk hg
    obtain⟨kk,nn,ss⟩:=y
    obtain⟨s,hs,-⟩:=(xI (xH hg).1).2.2.2.2.2.2.1 hk
    exact⟨s,hs⟩
   obtain⟨s,hsb⟩:=hsub
   rw[yK (x:=(ent l (hdT x).n).pars+1) (by omega) (by omega),yK (x:=(ent l (hdT x).n).pars+1+(ent l (hdT x).n).cons.length) (by omega) (by omega)]
   have hX:=cU l (hdT x).n (nth (hdT x).sub 0).n (hdT y).n ((arT x).take ((ent l (hdT x).n).pars+1+(ent l (hdT x).n).cons.length).toNat) ((arT y).drop (ent l (hdT x).n).pars.toNat) hE (ho.take _) (hra.drop _) (by rw[List.length_take];omega) (by rw[List.length_drop];omega)
   refine Ou.pure (uN (by omega) (by rw[hsb];simp)) (Ou.pure (a:=(arT x).take ((ent l (hdT x).n).pars+1+(ent l (hdT x).n).cons.length).toNat) ?_ (Ou.pure (rQ (by omega) (by show _≤((arT y).length:Int);omega)) (Ou.evt hX.1 ?_)))
   ·rw[zCp (by omega) (by omega) (by omega)];simp
   refine Ou.pure (rQ (by omega) (by omega)) (Ou.evt (pC _ _ (by rw[List.length_drop];omega)) (Ou.ret (by omega) (.inr ⟨_,y,0,hact,by rwa[Int.add_zero],.inr ⟨rfl,.inr ⟨_,_,?_,?_,rfl⟩⟩⟩)))
   ·exact mJ _ _ hX.2.1 (ho.drop _)
   ·rw[hre,if_pos ⟨hc,hf2⟩]
 ·rw[if_neg hc]
  refine Ou.ifF rfl (Ou.ret (by omega) (.inr ⟨_,y,0,hact,by rwa[Int.add_zero],.inr ⟨rfl,.inl ⟨?_,_,rfl⟩⟩⟩))
  rw[hre,if_neg (fun h=>hc h.1)]
def yBp(l:List Ent)(Y:Tm)(e0 k0:Int)(y:Tm)(e k:Int):Prop:=
 (e0≠0∧y=zT∧e=e0∧k=k0)∨(e0=0∧zL Y=false∧y=zT∧e=2∧k=k0+1)∨(e0=0∧zL Y=true∧∃k',Br l Y y e k'∧k=k0+1+k')
section
variable {l:List Ent} {x y:Tm} {e k:Int}
theorem Br.inv_none(h:Br l x y e k)(ha:vO l x = .none):y=x∧e=0∧k=0:=by
 cases h with
 |stop _=>exact⟨rfl,rfl,rfl⟩
 |redE a=>rw[ha]at a;cases a
 |redL a=>rw[ha]at a;cases a
 |red a=>rw[ha]at a;cases a
 |tgtE a=>rw[ha]at a;cases a
 |tgtN a=>rw[ha]at a;cases a
 |tgtRE a=>rw[ha]at a;cases a
 |tgtRL a=>rw[ha]at a;cases a
 |tgtR a=>rw[ha]at a;cases a
theorem Br.inv_red{Y:Tm}{e0:Int}(h:Br l x y e k)(ha:vO l x = .red Y e0):yBp l Y e0 0 y e k:=by
 cases h with
 |stop a=>rw[ha]at a;cases a
 |redE a b=>rw[ha]at a;cases a;exact .inl ⟨b,rfl,rfl,rfl⟩
 |redL a b=>rw[ha]at a;cases a;exact .inr (.inl ⟨rfl,b,rfl,rfl,rfl⟩)
 |red a b c=>rw[ha]at a;cases a;exact .inr (.inr ⟨rfl,b,_,c,by omega⟩)
 |tgtE a=>rw[ha]at a;cases a
 |tgtN a=>rw[ha]at a;cases a
 |tgtRE a=>rw[ha]at a;cases a
 |tgtRL a=>rw[ha]at a;cases a
 |tgtR a=>rw[ha]at a;cases a
theorem Br.inv_tgt{a:Tm}(h:Br l x y e k)(ha:vO l x = .tgt a):∃z ea ka,Br l a z ea ka∧((ea≠0∧y=zT∧e=ea∧k=ka)∨(ea=0∧((tC l x z=none∧y=x∧e=0∧k=ka)∨∃Y e0,tC l x z=some (Y,e0)∧yBp l Y e0 ka y e k))):=by
 cases h with
 |stop a=>rw[ha]at a;cases a
 |redE a b=>rw[ha]at a;cases a
 |redL a b=>rw[ha]at a;cases a
 |red a b c=>rw[ha]at a;cases a
 |tgtE a b c=>rw[ha]at a;cases a;exact⟨_,_,_,b,.inl ⟨c,rfl,rfl,rfl⟩⟩
 |tgtN a b c=>rw[ha]at a;cases a;exact⟨_,_,_,b,.inr ⟨rfl,.inl ⟨c,rfl,rfl,rfl⟩⟩⟩
 |tgtRE a b c d=>rw[ha]at a;cases a;exact⟨_,_,_,b,.inr ⟨rfl,.inr ⟨_,_,c,.inl ⟨d,rfl,rfl,rfl⟩⟩⟩⟩
 |tgtRL a b c d=>rw[ha]at a;cases a;exact⟨_,_,_,b,.inr ⟨rfl,.inr ⟨_,_,c,.inr (.inl ⟨rfl,d,rfl,rfl,rfl⟩)⟩⟩⟩
 |tgtR a b c d f=>rw[ha]at a;cases a;exact⟨_,_,_,b,.inr ⟨rfl,.inr ⟨_,_,c,.inr (.inr ⟨rfl,d,_,f,rfl⟩)⟩⟩⟩
theorem Br.det(h:Br l x y e k):∀ {y':Tm} {e' k':Int},Br l x y' e' k'->y'=y∧e'=e∧k'=k:=by
 induction h with
 |stop a=>intro y' e' k' h2;exact h2.inv_none a
 |redE a b=>
  intro y' e' k' h2
  rcases h2.inv_red a with⟨c,d⟩|⟨c,d⟩|⟨c,d⟩
  ·exact d
  ·exact absurd c b
  ·exact absurd c b
 |redL a b=>
  intro y' e' k' h2
  rcases h2.inv_red a with⟨c,d⟩|⟨c,d,f⟩|⟨c,d,f⟩
  ·exact absurd rfl c
  ·exact f
  ·rw[b]at d;cases d
 |red a b c ih=>
  intro y' e' k' h2
  rcases h2.inv_red a with⟨c,d⟩|⟨c,d,f⟩|⟨c,d,n,f,g⟩
  ·exact absurd rfl c
  ·rw[b]at d;cases d
  ·obtain⟨rfl,rfl,rfl⟩:=ih f;exact⟨rfl,rfl,by omega⟩
 |tgtE a b c ih=>
  intro y' e' k' h2
  obtain⟨z',ea,ka,hb',h3⟩:=h2.inv_tgt a
  obtain⟨rfl,rfl,rfl⟩:=ih hb'
  rcases h3 with⟨_,d⟩|⟨d,_⟩
  ·exact d
  ·exact absurd d c
 |tgtN a b c ih=>
  intro y' e' k' h2
  obtain⟨z',ea,ka,hb',h3⟩:=h2.inv_tgt a
  obtain⟨rfl,rfl,rfl⟩:=ih hb'
  rcases h3 with⟨d,_⟩|⟨_,⟨_,d⟩|⟨Y,e0,d,_⟩⟩
  ·exact absurd rfl d
  ·exact d
  ·rw[c]at d;cases d
 |tgtRE a b c d ih=>
  intro y' e' k' h2
  obtain⟨z',ea,ka,hb',h3⟩:=h2.inv_tgt a
  obtain⟨rfl,rfl,rfl⟩:=ih hb'
  rcases h3 with⟨f,_⟩|⟨_,⟨f,_⟩|⟨Y,e0,f,g⟩⟩
  ·exact absurd rfl f
  ·rw[c]at f;cases f
  ·rw[c]at f;cases f
   rcases g with⟨_,g⟩|⟨g,_⟩|⟨g,_⟩
   ·exact g
   ·exact absurd g d
   ·exact absurd g d
 |tgtRL a b c d ih=>
  intro y' e' k' h2
  obtain⟨z',ea,ka,hb',h3⟩:=h2.inv_tgt a
  obtain⟨rfl,rfl,rfl⟩:=ih hb'
  rcases h3 with⟨f,_⟩|⟨_,⟨f,_⟩|⟨Y,e0,f,g⟩⟩
  ·exact absurd rfl f
  ·rw[c]at f;cases f
  ·rw[c]at f;cases f
   rcases g with⟨g,_⟩|⟨_,_,g⟩|⟨_,g,_⟩
   ·exact absurd rfl g
   ·exact g
   ·rw[d]at g;cases g
 |tgtR a b c d f ih ih2=>
  intro y' e' k' h2
  obtain⟨z',ea,ka,hb',h3⟩:=h2.inv_tgt a
  obtain⟨rfl,rfl,rfl⟩:=ih hb'
  rcases h3 with⟨f,_⟩|⟨_,⟨f,_⟩|⟨Y,e0,f,g⟩⟩
  ·exact absurd rfl f
  ·rw[c]at f;cases f
  ·rw[c]at f;cases f
   rcases g with⟨g,_⟩|⟨_,g,_⟩|⟨_,_,n,g,rfl⟩
   ·exact absurd rfl g
   ·rw[d]at g;cases g
   ·obtain⟨rfl,rfl,rfl⟩:=ih2 g;exact⟨rfl,rfl,rfl⟩
theorem On.det{Y Y':Tm}{d d':Bool}{e e' k k':Int}(h:On l x Y d e k)(h':On l x Y' d' e' k'):Y'=Y∧d'=d∧e'=e∧k'=k:=by
 cases h with
 |stop a=>
  cases h' with
  |stop _=>exact⟨rfl,rfl,rfl,rfl⟩
  |redE b=>rw[a]at b;cases b
  |redL b=>rw[a]at b;cases b
  |red b=>rw[a]at b;cases b
  |tgtE b=>rw[a]at b;cases b
  |tgtN b=>rw[a]at b;cases b
  |tgtRE b=>rw[a]at b;cases b
  |tgtRL b=>rw[a]at b;cases b
  |tgtR b=>rw[a]at b;cases b
 |redE a c=>
  cases h' with
  |redE b=>rw[a]at b;cases b;exact⟨rfl,rfl,rfl,rfl⟩
  |redL b=>rw[a]at b;cases b;exact absurd rfl c
  |red b=>rw[a]at b;cases b;exact absurd rfl c
  |stop b=>rw[a]at b;cases b
  |tgtE b=>rw[a]at b;cases b
  |tgtN b=>rw[a]at b;cases b
  |tgtRE b=>rw[a]at b;cases b
  |tgtRL b=>rw[a]at b;cases b
  |tgtR b=>rw[a]at b;cases b
 |redL a c=>
  cases h' with
  |redE b d=>rw[a]at b;cases b;exact absurd rfl d
  |redL b=>exact⟨rfl,rfl,rfl,rfl⟩
  |red b d=>rw[a]at b;cases b;rw[c]at d;cases d
  |stop b=>rw[a]at b;cases b
  |tgtE b=>rw[a]at b;cases b
  |tgtN b=>rw[a]at b;cases b
  |tgtRE b=>rw[a]at b;cases b
  |tgtRL b=>rw[a]at b;cases b
  |tgtR b=>rw[a]at b;cases b
 |red a c=>
  cases h' with
  |redE b d=>rw[a]at b;cases b;exact absurd rfl d
  |redL b d=>rw[a]at b;cases b;rw[c]at d;cases d
  |red b d=>rw[a]at b;cases b;exact⟨rfl,rfl,rfl,rfl⟩
  |stop b=>rw[a]at b;cases b
  |tgtE b=>rw[a]at b;cases b
  |tgtN b=>rw[a]at b;cases b
  |tgtRE b=>rw[a]at b;cases b
  |tgtRL b=>rw[a]at b;cases b
  |tgtR b=>rw[a]at b;cases b
 |tgtE a c f=>
  cases h' with
  |stop b=>rw[a]at b;cases b
  |redE b=>rw[a]at b;cases b
  |redL b=>rw[a]at b;cases b
  |red b=>rw[a]at b;cases b
  |tgtE b g=>rw[a]at b;cases b;obtain⟨-,rfl,rfl⟩:=c.det g;exact⟨rfl,rfl,rfl,rfl⟩
  |tgtN b g=>rw[a]at b;cases b;exact absurd (c.det g).2.1.symm f
  |tgtRE b g=>rw[a]at b;cases b;exact absurd (c.det g).2.1.symm f
  |tgtRL b g=>rw[a]at b;cases b;exact absurd (c.det g).2.1.symm f
  |tgtR b g=>rw[a]at b;cases b;exact absurd (c.det g).2.1.symm f
 |tgtN a c f=>
  cases h' with
  |stop b=>rw[a]at b;cases b
  |redE b=>rw[a]at b;cases b
  |redL b=>rw[a]at b;cases b
  |red b=>rw[a]at b;cases b
  |tgtE b g n=>rw[a]at b;cases b;exact absurd (c.det g).2.1 n
  |tgtN b g=>rw[a]at b;cases b;obtain⟨-,-,rfl⟩:=c.det g;exact⟨rfl,rfl,rfl,rfl⟩
  |tgtRE b g n=>rw[a]at b;cases b;obtain⟨rfl,-,-⟩:=c.det g;rw[f]at n;cases n
  |tgtRL b g n=>rw[a]at b;cases b;obtain⟨rfl,-,-⟩:=c.det g;rw[f]at n;cases n
  |tgtR b g n=>rw[a]at b;cases b;obtain⟨rfl,-,-⟩:=c.det g;rw[f]at n;cases n
 |tgtRE a c f n0=>
  cases h' with
  |stop b=>rw[a]at b;cases b
  |redE b=>rw[a]at b;cases b
  |redL b=>rw[a]at b;cases b
  |red b=>rw[a]at b;cases b
  |tgtE b g n=>rw[a]at b;cases b;exact absurd (c.det g).2.1 n
  |tgtN b g n=>rw[a]at b;cases b;obtain⟨rfl,-,-⟩:=c.det g;rw[f]at n;cases n
  |tgtRE b g n=>rw[a]at b;cases b;obtain⟨rfl,-,rfl⟩:=c.det g;rw[f]at n;cases n;exact⟨rfl,rfl,rfl,rfl⟩
  |tgtRL b g n=>rw[a]at b;cases b;obtain⟨rfl,-,-⟩:=c.det g;rw[f]at n;cases n;exact absurd rfl n0
  |tgtR b g n=>rw[a]at b;cases b;obtain⟨rfl,-,-⟩:=c.det g;rw[f]at n;cases n;exact absurd rfl n0
 |tgtRL a c f n0=>
  cases h' with
  |stop b=>rw[a]at b;cases b
  |redE b=>rw[a]at b;cases b
  |redL b=>rw[a]at b;cases b
  |red b=>rw[a]at b;cases b
  |tgtE b g n=>rw[a]at b;cases b;exact absurd (c.det g).2.1 n
  |tgtN b g n=>rw[a]at b;cases b;obtain⟨rfl,-,-⟩:=c.det g;rw[f]at n;cases n
  |tgtRE b g n m=>rw[a]at b;cases b;obtain⟨rfl,-,-⟩:=c.det g;rw[f]at n;cases n;exact absurd rfl m
  |tgtRL b g n=>rw[a]at b;cases b;obtain⟨rfl,-,rfl⟩:=c.det g;exact⟨rfl,rfl,rfl,rfl⟩
  |tgtR b g n m=>rw[a]at b;cases b;obtain⟨rfl,-,-⟩:=c.det g;rw[f]at n;cases n;rw[n0]at m;cases m
 |tgtR a c f n0=>
  cases h' with
  |stop b=>rw[a]at b;cases b
  |redE b=>rw[a]at b;cases b
  |redL b=>rw[a]at b;cases b
  |red b=>rw[a]at b;cases b
  |tgtE b g n=>rw[a]at b;cases b;exact absurd (c.det g).2.1 n
  |tgtN b g n=>rw[a]at b;cases b;obtain⟨rfl,-,-⟩:=c.det g;rw[f]at n;cases n
  |tgtRE b g n m=>rw[a]at b;cases b;obtain⟨rfl,-,-⟩:=c.det g;rw[f]at n;cases n;exact absurd rfl m
  |tgtRL b g n m=>rw[a]at b;cases b;obtain⟨rfl,-,-⟩:=c.det g;rw[f]at n;cases n;rw[n0]at m;cases m
  |tgtR b g n=>rw[a]at b;cases b;obtain⟨rfl,-,rfl⟩:=c.det g;rw[f]at n;cases n;exact⟨rfl,rfl,rfl,rfl⟩
end
section
variable {l:List Ent} {x y:Tm} {e k:Int}
theorem On.tgt_lt{a Y:Tm}{d:Bool}{f:Int}(h:On l x Y d e k)(ha:vO l x = .tgt a)(hl:∀z e k,Br l a z e k->f<k):f<k:=by
 cases h with
 |stop b=>rw[ha]at b;cases b
 |redE b=>rw[ha]at b;cases b
 |redL b=>rw[ha]at b;cases b
 |red b=>rw[ha]at b;cases b
 |tgtE b g=>rw[ha]at b;cases b;exact hl _ _ _ g
 |tgtN b g=>rw[ha]at b;cases b;exact hl _ _ _ g
 |tgtRE b g=>rw[ha]at b;cases b;exact hl _ _ _ g
 |tgtRL b g=>rw[ha]at b;cases b;have:=hl _ _ _ g;omega
 |tgtR b g=>rw[ha]at b;cases b;have:=hl _ _ _ g;omega
theorem On.red_lt{Y Z:Tm}{d:Bool}{e0:Int}(h:On l x Y d e k)(ha:vO l x = .red Z e0)(h0:e0=0):k=1:=by
 subst h0
 cases h with
 |stop b=>rw[ha]at b;cases b
 |redE b c=>rw[ha]at b;cases b;exact absurd rfl c
 |redL b=>rfl
 |red b=>rfl
 |tgtE b g=>rw[ha]at b;cases b
 |tgtN b g=>rw[ha]at b;cases b
 |tgtRE b g=>rw[ha]at b;cases b
 |tgtRL b g=>rw[ha]at b;cases b
 |tgtR b g=>rw[ha]at b;cases b
theorem Br.first(h:Br l x y e k):∃Y d e1 k1,On l x Y d e1 k1∧k1≤k:=by
 cases h with
 |stop a=>exact⟨_,_,_,_,.stop a,by omega⟩
 |redE a b=>exact⟨_,_,_,_,.redE a b,by omega⟩
 |redL a b=>exact⟨_,_,_,_,.redL a b,by omega⟩
 |red a b c=>exact⟨_,_,_,_,.red a b,by have:=c.nn;omega⟩
 |tgtE a b c=>exact⟨_,_,_,_,.tgtE a b c,by omega⟩
 |tgtN a b c=>exact⟨_,_,_,_,.tgtN a b c,by omega⟩
 |tgtRE a b c d=>exact⟨_,_,_,_,.tgtRE a b c d,by omega⟩
 |tgtRL a b c d=>exact⟨_,_,_,_,.tgtRL a b c d,by omega⟩
 |tgtR a b c d f=>exact⟨_,_,_,_,.tgtR a b c d,by have:=f.nn;omega⟩
theorem Br.after{Y:Tm}{k1:Int}(h:Br l x y e k)(hO:On l x Y true 0 k1):∃k2,Br l Y y e k2∧k=k1+k2:=by
 cases hO with
 |red a b=>
  rcases h.inv_red a with⟨c,-⟩|⟨-,c,-⟩|⟨-,-,n,f,g⟩
  ·exact absurd rfl c
  ·rw[b]at c;cases c
  ·exact⟨n,f,by omega⟩
 |tgtR a b c d=>
  obtain⟨z',ea,ka,hb',h3⟩:=h.inv_tgt a
  obtain⟨rfl,rfl,rfl⟩:=b.det hb'
  rcases h3 with⟨f,_⟩|⟨_,⟨f,_⟩|⟨Y,e0,f,g⟩⟩
  ·exact absurd rfl f
  ·rw[c]at f;cases f
  ·rw[c]at f;cases f
   rcases g with⟨g,_⟩|⟨_,g,_⟩|⟨_,_,n,g,rfl⟩
   ·exact absurd rfl g
   ·rw[d]at g;cases g
   ·exact⟨n,g,by omega⟩
end
def zWC(qq:Nat)(M:xE)(p1:Tm):Option Bool:=
 zGc qq p1 1048577 (M.l.length:Int)>>=fun r1=>
 some r1
theorem yBo{qq M p1 r}(h:zWC qq M p1=some r):Ct 136 [mB M 1,mR M] [.mp 0 0,tmA p1] (ab r) [mB M 1,mR M] 0:=⟨by
 unfold zWC at h
 obtain⟨r1,h2,h⟩:=zC h
 obtain rfl:=sj h
 exact tF ⟨Tryz.func136,rfl⟩ 0 [0,1] (oDM M<|oC 4 [] (zIC h2) o0),⟨(lz rfl),⟨tv,tv,⟨tv,dT _⟩,tv⟩,tv⟩,(fMa (lz rfl) zB),tv,(fMf (lz rfl) zB)⟩
def zJa(qq:Nat)(M:xE)(p1:Tm)(fl fu:Int):Option (Tm×Int×Int×Int):=
 zWC qq M p1>>=fun r1=>
 if r1 then
 zGY qq M p1 fl fu>>=fun r4=>
 if r4.2.1 != 0 then
 some ((Tm.mk 0 0 []),r4.2.1,r4.2.2.1,r4.2.2.2)
 else
 e53 qq r4.1>>=fun r7=>
 some (r7,0,r4.2.2.1,r4.2.2.2)
 else
 some ((Tm.mk 0 0 []),5,fl,fu)
theorem zZt:Qf 100 Tryz.f100:=⟨Tryz.func100,rfl⟩
theorem zZs{qq M p1 fl fu r}(h:zJa qq M p1 fl fu=some r):Ct 100 [mB M 1,mR M,.cells [ai fl,ai fu]] [.mp 0 0,tmA p1,.mp 2 0] (.tup [tmA r.1,ai r.2.1]) [mB M 1,mR M,.cells [ai r.2.2.1,ai r.2.2.2]] 0:=⟨by
 unfold zJa at h
 obtain⟨r1,h2,h⟩:=zC h
 obtain⟨h3,h⟩|⟨h3,h⟩:=spl h
 obtain⟨r4,h5,h⟩:=zC h
 have k:=oC 2 [0,1,2] (yCW h5)<|oK 1 [0,1] h3 (yBo h2) o0
 obtain⟨h6,h⟩|⟨h6,h⟩:=spl h
 cases h
 exact tF zZt 1 [0,1,2] (oD (dT ([]:List Tm))<|oDM M<|oB 3 h6 k)
 obtain⟨r7,h8,h⟩:=zC h
 cases h
 exact tF zZt 1 [0,1,2] (oD (dT r7.sub)<|oDM M<|oC 1 [] (c53 h8)<|oB 3 h6 k)
 cases h
 exact tF zZt 2 [0,1,2] (oD (dT ([]:List Tm))<|oDM M<|oK 1 [0,1] h3 (yBo h2) o0),⟨(lz rfl),⟨tv,tv,⟨tv,dT _⟩,tv⟩,(lz rfl),tv⟩,(fMa (lz rfl) (zA ⟨tv,tv,tv⟩ zB)),⟨⟨tv,tv,dT _,tv⟩,tv,tv⟩,(fMf (lz rfl) (zA ⟨tv,tv,tv⟩ zB))⟩
theorem Br.shaped{l:List Ent}{x y:Tm}{e k:Int}(h:Br l x y e k):zL x=true->e=0->zL y=true:=by
 induction h with
 |stop _=>exact fun hs _=>hs
 |redE _ h=>exact fun _ he=>absurd he h
 |redL _ _=>exact fun _ he=>absurd he (by decide)
 |red _ hY _ ih=>exact fun _ he=>ih hY he
 |tgtE _ _ h _=>exact fun _ he=>absurd he h
 |tgtN _ _ _ _=>exact fun hs _=>hs
 |tgtRE _ _ _ h _=>exact fun _ he=>absurd he h
 |tgtRL _ _ _ _ _=>exact fun _ he=>absurd he (by decide)
 |tgtR _ _ _ hY _ _ ih=>exact fun _ he=>ih hY he
theorem zGZ{Q:(Int->Int->Tm×Bool×Int×Int×Int)->Int->Prop}(p Y:Tm)(f:Int)(hf:0≤f)(ho:Y.Ok)(hL:zL Y=false->Q (fun L U=>(zT,true,2,L,U)) 1)(hS:zL Y=true->Q (fun L U=>(Y,true,0,L,U)) 1){S:Prop}(hsh:f<1->S) :
  Ou (fun L U q=>(e98 q L U)>>=fun r28=>if (r28.1 != 0)=true then some (p,false,r28.1,r28.2.1,r28.2.2)else(zBg q Y)>>=fun r31=>some (r31.1,true,r31.2,r28.2.1,r28.2.2)) er5 Q S f:=by
 refine Ou.bind (zWe f hf) hsh (fun r hr=>⟨_,Evt.ifT (by show (r.1 != 0)=true;rw[show r.1=8 from hr];decide) Evt.ret,hr⟩) ?_
 rintro R k k0 k1 ⟨rfl,rfl⟩
 dsimp only
 refine Ou.ifF rfl (Ou.evt (zLP Y ho) ?_)
 unfold zZx
 cases h:zL Y with
 |true=>exact Ou.ret (by omega) (hS h)
 |false=>exact Ou.ret (by omega) (hL h)
theorem zJA(l:List Ent)(p:Tm)(f:Int)(hf:0≤f){g:Int->Int->Nat->Option (Tm×Bool×Int×Int×Int)}(h:Ou g er5 (QF l p) (∃a,vO l p = .tgt a∧∀z e k,Br l a z e k->f<k) f) :
  Ou (fun L U q=>g L U q>>=fun r36=>if r36.2.1=true then(if (r36.2.2.1 != 0)=true then some (p,false,r36.2.2.1,r36.2.2.2.1,r36.2.2.2.2)else
   (e98 q r36.2.2.2.1 r36.2.2.2.2)>>=fun r40=>if (r40.1 != 0)=true then some (p,false,r40.1,r40.2.1,r40.2.2)else(zBg q r36.1)>>=fun r43=>some (r43.1,true,r43.2,r40.2.1,r40.2.2))
   else(if (r36.2.2.1 != 0)=true then some (p,false,r36.2.2.1,r36.2.2.2.1,r36.2.2.2.2)else some (p,false,r36.2.2.1,r36.2.2.2.1,r36.2.2.2.2))) er5 (QO l p) (∀Y d e k,On l p Y d e k->f<k) f:=by
 refine Ou.bind h (fun⟨a,ha,h⟩ Y d e k hO=>hO.tgt_lt ha h) (fun r hr=>?_) ?_
 ·have hr':(r.2.2.1 != 0)=true:=by rw[show r.2.2.1=8 from hr];decide
  cases hd:r.2.1 with
  |true=>exact⟨_,Evt.ifT rfl (Evt.ifT hr' Evt.ret),hr⟩
  |false=>exact⟨_,Evt.ifF rfl (Evt.ifT hr' Evt.ret),hr⟩
 ·rintro R k k0 k1 (⟨ha,rfl,Y,rfl⟩|⟨a,z,e,ha,hb,⟨he,Y,rfl⟩|⟨rfl,⟨hr,Y,rfl⟩|⟨Y,e',hY,hr,rfl⟩⟩⟩)
  ·exact Ou.ifF rfl (Ou.ifF rfl (Ou.ret (by omega) ⟨p,false,0,On.stop ha,rfl⟩))
  ·dsimp only
   exact Ou.ifF rfl (Ou.ifT (by simpa using he) (Ou.ret (by omega) ⟨p,false,e,by rw[Int.add_zero];exact On.tgtE ha hb he,rfl⟩))
  ·exact Ou.ifF rfl (Ou.ifF rfl (Ou.ret (by omega) ⟨p,false,0,by rw[Int.add_zero];exact On.tgtN ha hb hr,rfl⟩))
  ·dsimp only
   refine Ou.ifT rfl (Ou.ite (fun h=>?_) fun h=>?_)
   ·exact Ou.ret (by omega) ⟨p,false,e',by rw[Int.add_zero];exact On.tgtRE ha hb hr (by simpa using h),rfl⟩
   ·have he:e'=0:=by simpa using h
    subst he
    refine zGZ p Y (f-k) (by omega) hY (fun hs=>⟨_,_,_,On.tgtRL ha hb hr hs,rfl⟩) (fun hs=>⟨_,_,_,On.tgtR ha hb hr hs,rfl⟩) (fun h Y' d' e' k' hO=>?_)
    cases hsY:zL Y with
    |true=>have:=(On.tgtR ha hb hr hsY).det hO;omega
    |false=>have:=(On.tgtRL ha hb hr hsY).det hO;omega
theorem zTD{N:ByteArray->Bool}(l:List Ent)(hE:wI N l)(he:∀e∈l,EOk e)(x:Tm)(hs:zL x=true)(f:Int)(hf:0≤f)(hb:∀a∈arT x,HB l a f):Ou (fun L U q=>zTa q (wC l) x L U) er5 (QO l x) (∀Y d e k,On l x Y d e k->f<k) f:=by
 have hB:∀a y k,zL a=true->Br l a y 0 k->zL y=true:=fun a y k h1 h2=>h2.shaped h1 rfl
 have hh:=uJ hs
 have hg:=(zO hh).2.2
 have hn:=jJ hg
 have ho:OkA (arT x):=fun y hy=>yA (yO hs hy)
 have hl:(arT x).length≤8192:=by
  have h:=zO hs
  have:=tO _ h.2.2
  omega
 refine Ou.succ ?_
 simp only[zTa,fN,zDF,gD]
 refine Ou.evt (lA x hs) (Ou.ite (fun h4=>?_) fun h4=>?_)
 ·have h4':(hdT x).k=4:=by simpa using h4
  have hkk:∀k:Int,k≠0->tZ l (hdT x)≠k:=fun k hk e=>by have:=(wN e hk).1;omega
  refine Ou.ite (fun hlen=>?_) fun hlen=>?_
  ·have hlen':((arT x).length:Int)>0:=of_decide_eq_true hlen
   obtain⟨a,b,hab,-,hgb⟩:=rW hg (.inr (.inl h4'))
   have hm:nth (arT x) 0∈arT x:=sJ (by omega) (by omega)
   have hbo:(nth (hdT x).sub 1).Ok:=by rw[hab];exact sV b hgb
   have hact:vO l x = .red (apT (iW (nth (hdT x).sub 1) [nth (arT x) 0]).1 ((arT x).drop 1)) (iW (nth (hdT x).sub 1) [nth (arT x) 0]).2:=by
    unfold vO
    rw[if_pos ⟨h4',by omega⟩]
   refine Ou.pure (uN (by omega) (by rw[hab];simp)) (Ou.pure (uN (by omega) (by show (0:Int)<((arT x).length:Int);omega)) (Ou.evt (zYc _ _ hbo (ho _ hm)) (Ou.pure (rQ (by omega) (by show (1:Int)≤((arT x).length:Int);omega)) (Ou.evt (pC _ _ (by show (List.drop _ (arT x)).length<_;rw[List.length_drop];omega)) ?_))))
   refine Ou.ite (fun h=>Ou.ret hf ⟨_,_,_,On.redE hact (by simpa using h),rfl⟩) fun h=>?_
   have he0:(iW (nth (hdT x).sub 1) [nth (arT x) 0]).2=0:=by simpa using h
   rw[he0]at hact
   exact zGZ x _ f hf (mJ _ _ (zNw _ _ hbo (OkA.one (ho _ hm))) (ho.drop _)) (fun hs=>⟨_,_,_,On.redL hact hs,rfl⟩) (fun hs=>⟨_,_,_,On.red hact hs,rfl⟩) (fun h Y' d' e' k' hO=>by have:=hO.red_lt hact rfl;omega)
  ·have hlen':¬((arT x).length:Int)>0:=of_decide_eq_false hlen
   have hact:vO l x = .none:=by
    unfold vO
    rw[if_neg (fun h=>by omega),if_neg (hkk 3 (by decide)),if_neg (hkk 4 (by decide)),if_neg (by omega)]
   refine Ou.evt (gC l _ hn) (Ou.ifF (by simpa using hkk 3 (by decide)) ?_)
   refine Ou.evt (gC l _ hn) (Ou.ifF (by simpa using hkk 4 (by decide)) ?_)
   exact Ou.ifF (by show ((hdT x).k==7)=false;rw[h4'];decide) (Ou.ret hf ⟨_,_,_,On.stop hact,rfl⟩)
 ·have h4':(hdT x).k≠4:=by simpa using h4
  refine Ou.evt (gC l _ hn) (Ou.ite (fun h=>?_) fun h=>?_)
  ·have h3:tZ l (hdT x)=3:=by simpa using h
   have hk:=wN h3 (by decide)
   have hact:vO l x = .red (apT (ent l (hdT x).n).body (arT x)) 0:=by
    unfold vO
    rw[if_neg (fun h=>h4' h.1),if_pos h3]
   refine Ou.pure (yI hn hk.2.1) (Ou.evt (pC _ _ (by show (arT x).length<_;omega)) ?_)
   exact zGZ x _ f hf (mJ _ _ (he _ (pQ hn hk.2.1)).2.1 ho) (fun hs=>⟨_,_,_,On.redL hact hs,rfl⟩) (fun hs=>⟨_,_,_,On.red hact hs,rfl⟩) (fun h Y' d' e' k' hO=>by have:=hO.red_lt hact rfl;omega)
  ·have h3:tZ l (hdT x)≠3:=by simpa using h
   refine Ou.evt (gC l _ hn) (Ou.ite (fun h=>?_) fun h=>?_)
   ·exact zJA l x f hf (zPK l hE x hs f hf h4' (by simpa using h) hb hB)
   ·have h4k:tZ l (hdT x)≠4:=by simpa using h
    refine Ou.ite (fun h=>zJA l x f hf (zTC l hE x hs f hf (by simpa using h) hb hB)) fun h=>?_
    have h7:(hdT x).k≠7:=by simpa using h
    have hact:vO l x = .none:=by
     unfold vO
     rw[if_neg (fun h=>h4' h.1),if_neg h3,if_neg h4k,if_neg h7]
    exact Ou.ret hf ⟨_,_,_,On.stop hact,rfl⟩
theorem zPL{N:ByteArray->Bool}(l:List Ent)(hE:wI N l)(he:∀e∈l,EOk e):∀(F n:Nat) (x:Tm),zL x=true->x.nodes≤n->Ou (fun L U q=>fM q (wC l) L U x.k x.n x.sub) er4 (fun R k=>∃y e,Br l x y e k∧R=fun L U=>(y,e,L,U)) (∀y e k,Br l x y e k->(F:Int)<k) (F:Int):=by
 intro F
 induction F using Nat.strongRecOn with
 |ind F IH=>
  intro n
  induction n with
  |zero=>intro x _ h;have:=wO x;omega
  |succ n ih=>
   intro x hs hn
   have hg:=(zO hs).2.2
   have hb:∀a∈arT x,HB l a F:=fun a ha=>by
    have:=((aW x hg).2.2.2.2 a ha).2.1
    refine Ou.succ ?_
    simp only[zGY]
    exact ih a (yO hs ha) (by omega)
   refine Ou.succ ?_
   simp only[fM,tW]
   refine Ou.bind (zTD l hE he x hs F (by omega) hb) (fun h y e k hbr=>by obtain⟨Y,d,e1,k1,h1,h2⟩:=hbr.first;have:=h _ _ _ _ h1;omega) (fun r hr=>?_) ?_
   ·have hr':(r.2.2.1 != 0)=true:=by rw[show r.2.2.1=8 from hr];decide
    cases hd:r.2.1 with
    |true=>exact⟨_,Evt.ifT rfl (Evt.ifT hr' Evt.ret),hr⟩
    |false=>exact⟨_,Evt.ifF rfl (Evt.ifT hr' Evt.ret),hr⟩
   ·rintro R k k0 k1 ⟨Y,d,e,hO,rfl⟩
    dsimp only
    by_cases e0:e=0
    ·subst e0
     cases d with
     |true=>
      obtain⟨hY,hk1,hst⟩:=hO.step
      refine Ou.ifT rfl (Ou.ifF rfl ?_)
      have:=IH ((F:Int)-k).toNat (by omega) Y.nodes Y hY (Nat.le_refl _)
      rw[show ((((F:Int)-k).toNat:Nat):Int)=F-k by omega]at this
      refine this.mono ?_ fun h y e k' hbr=>?_
      ·rintro R n _ _ ⟨y,e,hbr,rfl⟩
       exact⟨y,e,hst y e n hbr,rfl⟩
      ·obtain⟨k2,h2,h3⟩:=hbr.after hO
       have:=h _ _ _ h2
       omega
     |false=>
      obtain⟨rfl,hbr⟩:=hO.still
      exact Ou.ifF rfl (Ou.ifF rfl (Ou.ret (by omega) ⟨Y,0,by rwa[Int.add_zero],rfl⟩))
    ·have hb:=hO.err e0
     have hr':(e != 0)=true:=by simpa using e0
     cases d with
     |true=>exact Ou.ifT rfl (Ou.ifT hr' (Ou.ret (by omega) ⟨zT,e,by rwa[Int.add_zero],rfl⟩))
     |false=>exact Ou.ifF rfl (Ou.ifT hr' (Ou.ret (by omega) ⟨zT,e,by rwa[Int.add_zero],rfl⟩))
theorem zZr{N:ByteArray->Bool}(l:List Ent)(hE:wI N l)(he:∀e∈l,EOk e)(x:Tm)(hs:zL x=true)(f:Int)(hf:0≤f):HB l x f:=by
 refine Ou.succ ?_
 simp only[zGY]
 have:=zPL l hE he f.toNat x.nodes x hs (Nat.le_refl _)
 rwa[show ((f.toNat:Nat):Int)=f by omega]at this
def vT(l:List Ent)(x:Tm):Prop:=tV x 1048577 l.length=true
instance (l:List Ent) (x:Tm):Decidable (vT l x):=inferInstanceAs (Decidable (_=true))
theorem vT.shaped{l:List Ent}{x:Tm}(h:vT l x):zL x=true:=by
 unfold vT tV at h
 simp only[Bool.and_eq_true]at h
 exact h.1.1
def QBR(l:List Ent)(x:Tm)(R:Int->Int->Tm×Int×Int×Int)(k:Int):Prop:=
 (¬vT l x∧k=0∧R=fun L U=>(zT,5,L,U))∨(vT l x∧∃y e,Br l x y e k∧R=fun L U=>(if e=0 then y else zT,e,L,U))
theorem zFC{N:ByteArray->Bool}(l:List Ent)(hE:wI N l)(he:∀e∈l,EOk e)(x:Tm)(ho:x.Ok)(f:Int)(hf:0≤f):Ou (fun L U q=>zJa q (wC l) x L U) er4 (QBR l x) (vT l x∧∀y e k,Br l x y e k->f<k) f:=by
 simp only[zJa,zWC,fN]
 refine Ou.evt (a:=tV x 1048577 l.length) ((iV x _ _ ho).bind Evt.ret) (Ou.ite (fun h=>?_) fun h=>?_)
 ·have hR:vT l x:=h
  refine Ou.bind (zZr l hE he x hR.shaped f hf) (fun h=>⟨hR,h⟩) (fun r hr=>⟨_,Evt.ifT (by show (r.2.1 != 0)=true;rw[show r.2.1=8 from hr];decide) Evt.ret,hr⟩) ?_
  rintro R k k0 k1 ⟨y,e,hbr,rfl⟩
  dsimp only
  by_cases e0:e=0
  ·subst e0
   have hy:=hbr.shaped hR.shaped rfl
   refine Ou.ifF rfl (Ou.evt (a:=y) ((rJ y (yA hy)).eq (by unfold mI;rw[if_pos hy])) (Ou.ret (by omega) (.inr ⟨hR,y,0,by rwa[Int.add_zero],rfl⟩)))
  ·refine Ou.ifT (by simpa using e0) (Ou.ret (by omega) (.inr ⟨hR,y,e,by rwa[Int.add_zero],?_⟩))
   rw[if_neg e0];rfl
 ·exact Ou.ret hf (.inl ⟨by unfold vT;rw[h];simp,rfl,rfl⟩)
end Go.Proofs.YtfbkefchjcocmaaGreat
